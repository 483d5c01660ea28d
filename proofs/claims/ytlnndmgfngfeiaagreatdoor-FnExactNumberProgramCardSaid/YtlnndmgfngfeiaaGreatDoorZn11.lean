/- Programs that come in. -/
import Derived.Test.YtlnndmgfngfeiaaGreatDoorProg
import Derived.ProofKit
import Derived.Carry
import Derived.WalkKit
import Derived.Deep.Slices
import Derived.Lib.LaidTab
import Derived.Stop.LaidErr
import Derived.Lib.ItoaNum
import Derived.Test.YtlnndmgfngfeiaaGreatDoorZn10
set_option linter.all false
set_option maxHeartbeats 4000000
set_option maxRecDepth 4000
open Bool renaming and_eq_true->bJ,false_eq_true->kG
open Go renaming TypeId->fX
open Go.DataW renaming trod->lK
open Go.Proofs.Tryz renaming f9->kH,prog->aF
open Go.Value renaming cells->nO,int->oV
open List renaming all_eq_true->ji,cons_append->dF,drop_length->jR,getElem?_append_left->qB,getElem?_eq_getElem->cL,length_append->gx,length_cons->gg,length_map->nh,length_nil->mJ,map_cons->fF,mem_append->hl,mem_cons->gy,mem_map->nj,mem_of_getElem?->e1,take_add_one->k3,take_append_drop->ry,take_length->hE
open List.cons renaming injEq->sH
open Nat renaming le_refl->cc,lt_or_ge->mc,zero_le->pT
open Option renaming getD->kn,isSome->sL
open Option.some renaming inj->gB
open _root_ renaming False->dr,Option->aW,UInt8->aj,congrArg->er,decide_eq_true_eq->fs,if_neg->br
namespace Go.Proofs.YtlnndmgfngfeiaaGreatDoor
section
open Go Go.Pv
def Ax:C:=(ag [fm 2 0,bU 4 0] (ag [aa 5 1,a6 6 1 1 2,a8 7 1 6,bh 8 (.slen (.t 7)),cj 9 .sub 5 8,aa 1 9] (.seq (ag [aa 10 1,a7 11 .lss 10 0] (bb 11 (ag [bU 4 (-1)] .ret) .skip)) (ag [a6 12 2 1 2,a8 13 1 12,aa 14 1,eb 15 224 13 14,aa 1 15] (.seq (ag [aa 16 1,a7 17 .lss 16 0] (bb 17 (ag [bU 4 (-1)] .ret) .skip)) (ag [a6 18 3 1 2,a8 19 1 18,aa 20 1,eb 21 225 19 20,aa 1 21] (.seq (ag [aa 22 1,a7 23 .lss 22 0] (bb 23 (ag [bU 4 (-1)] .ret) .skip)) (ag [aa 24 1,aa 4 24] .ret))))))))
@[simp] def MP:List ca:=[.tmp 4]
def PR:C:=(ag [fm 1 0,c7 (.alloc 2 none (.agg [.int .i64 0,.str [],.slice 4 .nil [],.slice 4 .nil []]))] (ag [c7 (.alloc 3 none (.agg [.int .i64 0,.str [],.slice 4 .nil [],.slice 4 .nil []]))] (ag [a6 4 0 1 1,a8 5 1 4,a6 6 0 1 3,bF 1 6 5] (ag [a6 7 1 1 1,a8 8 1 7,a6 9 1 1 3,bF 1 9 8] (ag [a6 10 2 1 1,a8 11 1 10,cl 12 227 11,a6 13 2 1 3,bF 1 13 12] (ag [a6 14 3 1 1,a8 15 1 14,cl 16 228 15,a6 17 3 1 3,bF 1 17 16] (ag [bO 18 4 3,bF 4 2 18] .ret)))))))
@[simp] def V8:List ca:=[.cell 2 true 4]
def PH:C:=(ag [fm 2 0,fm 3 1,bK 4 false] (.seq (ag [a6 5 0 1 2,a8 6 1 5,a6 7 0 1 3,a8 8 1 7,cj 9 .neq 6 8] (bb 9 (ag [bK 4 false] .ret) .skip)) (.seq (ag [a6 10 1 1 2,a8 11 1 10,a6 12 1 1 3,a8 13 1 12,cj 14 .neq 11 13] (bb 14 (ag [bK 4 false] .ret) .skip)) (.seq (ag [a6 15 2 1 2,a8 16 1 15,a6 17 2 1 3,a8 18 1 17,eb 19 91 16 18,dK 20 19] (bb 20 (ag [bK 4 false] .ret) .skip)) (.seq (ag [a6 21 3 1 2,a8 22 1 21,a6 23 3 1 3,a8 24 1 23,eb 25 230 22 24,dK 26 25] (bb 26 (ag [bK 4 false] .ret) .skip)) (ag [bK 4 true] .ret))))))
@[simp] def aiA:List ca:=[.tmp 4]
def Jd:C:=(ag [bU 4 0] (ag [aa 6 1,aa 7 0,cT 8 7,cj 9 .sub 6 8,aa 1 9] (.seq (ag [aa 10 1,a7 11 .lss 10 0] (bb 11 (ag [bU 4 (-1)] .ret) .skip)) (.seq (ag [bU 5 0] (.block 0 (.loop (.seq (ag [aa 12 5,aa 13 0,cT 14 13,cj 15 .lss 12 14] (bb 15 .skip (.exit 0))) (.seq (.block 1 (ag [aa 18 0,aa 19 5,cP 20 4 18 19,bO 21 4 20,aa 22 1,eb 23 187 21 22,aa 1 23] (ag [aa 24 1,a7 25 .lss 24 0] (bb 25 (ag [bU 4 (-1)] .ret) .skip)))) (.region [aa 16 5,a7 17 .add 16 1,aa 5 17])))))) (ag [aa 26 1,aa 4 26] .ret)))))
@[simp] def aiH:List ca:=[.tmp 4]
def PS:C:=(ag [ng 2 4] (ag [aa 5 0,cT 6 5,c7 (.mks 7 none 4 65 (.agg [.int .i64 0,.str [],.slice 4 .nil [],.slice 4 .nil []]) (.t 6)),aa 3 7] (.seq (ag [bU 4 0] (.block 0 (.loop (.seq (ag [aa 8 4,aa 9 0,cT 10 9,cj 11 .lss 8 10] (bb 11 .skip (.exit 0))) (.seq (.block 1 (.region [aa 14 3,aa 15 4,aa 16 0,aa 17 4,cP 18 4 16 17,bO 19 4 18,cl 20 190 19,cP 21 4 14 15,bF 4 21 20])) (.region [aa 12 4,a7 13 .add 12 1,aa 4 13])))))) (.seq (.pub 3 (.region [aa 22 3,aa 2 22])) .ret))))
@[simp] def V9:List ca:=[.tmp 2]
def PI:C:=(ag [bK 4 false] (.seq (ag [aa 6 0,cT 7 6,aa 8 1,cT 9 8,cj 10 .neq 7 9] (bb 10 (ag [bK 4 false] .ret) .skip)) (.seq (ag [bU 5 0] (.block 0 (.loop (.seq (ag [aa 11 5,aa 12 0,cT 13 12,cj 14 .lss 11 13] (bb 14 .skip (.exit 0))) (.seq (.block 1 (.seq (.drawn true 27 [aa 17 0,aa 18 5,cP 19 4 17 18,bO 20 4 19,aa 21 1,aa 22 5,cP 23 4 21 22,bO 24 4 23,eb 25 193 20 24,dK 26 25]) (bb 26 (ag [bK 4 false] .ret) .skip))) (.region [aa 15 5,a7 16 .add 15 1,aa 5 16])))))) (ag [bK 4 true] .ret))))
@[simp] def aiB:List ca:=[.tmp 4]
def Ab:List (Nat×dh):=[
 (3,⟨1,8,.int .i64,.int .i64 0⟩),
 (9,⟨1,16,.str,.str []⟩),
 (22,⟨1,24,.slice 172,.slice 7 .nil []⟩),
 (23,⟨1,24,.slice 174,.slice 4 .nil []⟩),
 (25,⟨2,48,.struct [(0,22),(1,23)],.agg [.slice 7 .nil [],.slice 4 .nil []]⟩),
 (28,⟨1,24,.slice 74,.slice 7 .nil []⟩),
 (29,⟨1,24,.slice 99,.slice 4 .nil []⟩),
 (31,⟨2,48,.struct [(0,28),(1,29)],.agg [.slice 7 .nil [],.slice 4 .nil []]⟩),
 (38,⟨1,24,.slice 40,.slice 4 .nil []⟩),
 (63,⟨1,24,.slice 65,.slice 4 .nil []⟩),
 (65,⟨4,72,.struct [(0,3),(1,9),(2,38),(3,63)],.agg [.int .i64 0,.str [],.slice 4 .nil [],.slice 4 .nil []]⟩),
 (74,⟨7,96,.struct [(0,3),(1,3),(2,3),(3,65)],.agg [.int .i64 0,.int .i64 0,.int .i64 0,.int .i64 0,.str [],.slice 4 .nil [],.slice 4 .nil []]⟩),
 (99,⟨4,40,.struct [(0,9),(1,3),(2,3),(3,3)],.agg [.str [],.int .i64 0,.int .i64 0,.int .i64 0]⟩),
 (167,⟨1,24,.slice 282,.slice 4 .nil []⟩),
 (168,⟨1,24,.slice 170,.slice 4 .nil []⟩),
 (170,⟨4,72,.struct [(0,3),(1,9),(2,167),(3,168)],.agg [.int .i64 0,.str [],.slice 4 .nil [],.slice 4 .nil []]⟩),
 (172,⟨7,96,.struct [(0,3),(1,3),(2,3),(3,170)],.agg [.int .i64 0,.int .i64 0,.int .i64 0,.int .i64 0,.str [],.slice 4 .nil [],.slice 4 .nil []]⟩),
 (174,⟨4,40,.struct [(0,9),(1,3),(2,3),(3,3)],.agg [.str [],.int .i64 0,.int .i64 0,.int .i64 0]⟩)]
theorem um:eW aF Ab=true:=by kernel_rfl
theorem El:cJ Ab Ax MP 2 Tryz.f187=true:=by kernel_rfl
theorem C0:aF.funcs[(187:Nat)]? =some Tryz.f187:=Tryz.func187
theorem ahA:cJ Ab PR V8 1 Tryz.f190=true:=by kernel_rfl
theorem abX:aF.funcs[(190:Nat)]? =some Tryz.f190:=Tryz.func190
theorem ahr:cJ Ab PH aiA 2 Tryz.f193=true:=by kernel_rfl
theorem abO:aF.funcs[(193:Nat)]? =some Tryz.f193:=Tryz.func193
theorem Vm:cJ Ab Jd aiH 2 Tryz.f225=true:=by kernel_rfl
theorem Rp:aF.funcs[(225:Nat)]? =some Tryz.f225:=Tryz.func225
theorem ahB:cJ Ab PS V9 1 Tryz.f228=true:=by kernel_rfl
theorem abY:aF.funcs[(228:Nat)]? =some Tryz.f228:=Tryz.func228
theorem ahs:cJ Ab PI aiB 2 Tryz.f230=true:=by kernel_rfl
theorem abP:aF.funcs[(230:Nat)]? =some Tryz.f230:=Tryz.func230
theorem ale(d:eF bX)(hw:Ck d)(m:Int)(bz:0<=m)(I:m<=1048576):bW aF 224 [hN d,.int .i64 m] (.int .i64 (lH d m)):=Od d (fun p n c e=>by subst e;exact hw) (fun xs e x af m bz I=>by subst e;exact ald x (hw x af) m bz I) m bz I
theorem akB(d:List Tm):bW aF 91 [.slice 4 .no (d.map enc),.slice 4 .no (d.map enc)] (.bool true):=XZ d fun x _=>akA x
theorem Ya(l:eF cd)(hw:∀p n cap,l= .b p n cap->pM n)(aK:∀xs,l= .l xs->∀x∈xs,∀m,0<=m->m<=1048576->bW aF 187 [cd.e x,.int .i64 m] (.int .i64 (hW x m)))(m:Int)(bz:0<=m)(I:m<=1048576):bW aF 225 [l.e 4 cd.e,.int .i64 m] (.int .i64 (hM hW l m)):=by
 cases l with
 |b p n cap=>
  have aM:=hw p n cap rfl;simp only[pM,aR]at aM;have g:m-n<0:=Ω
  simp only[eF.e,hM];clear hw aK;refine bI um Rp Vm fun aG=>?_;unfold Jd;exact bY
 |l l=>
 have aK:=aK l rfl;clear hw;simp only[eF.e,hM];generalize bt:pL hW l m=R;unfold pL at bt;refine bI um Rp Vm fun aG=>?_;unfold Jd;have e5:l.length<=68719476736:=by simp[gr,gz,gu,aR]at aG;omega
 simp;by_cases g:m-l.length<0
 ·rw[if_pos g]at bt;subst bt;exact bY
 rw[br g]at bt;(with_reducible repeat' first|refine av ?_|simp[g]);refine sZ [0] (fun i (k:Int)=>[(1,.int .i64 k),(5,.int .i64 i)]) l.length (fun i k=>(0<=k/\k<=1048576)/\ju hW (l.drop i) k=R) (m-l.length) cW ⟨⟨Ω,Ω⟩,by simpa using bt⟩ (fun k ai _=>?_) (fun i k aw ai _=>?_)
 ·obtain⟨_,ai⟩:=ai;rw[jR]at ai;simp only[ju]at ai;subst ai;exact bY
 ·obtain⟨⟨eN,cD⟩,ai⟩:=ai;obtain⟨x,af,db⟩:=fQ aw;have key:=aK x (e1 af) k eN cD;have hle:=B8 x k eN;rw[LV af]at ai;simp only[ju]at ai;generalize hW x k=q at key hle ai;clear af;by_cases bp:q<0
  ·rw[if_pos bp]at ai;subst ai;exact bY
  ·rw[br bp]at ai;simp[aw,db];((with_reducible repeat' first|refine av ?_|refine aZ key ?_|refine a1 key ?_|simp[aw,db,bp]|((first|apply dt|apply dx|apply dw)<;>intro h<;>try simp at h))<;>(try exact dQ));all_goals exact b1.rng q aw ⟨⟨Ω,Ω⟩,ai⟩ cW
theorem akx(l:List Gm)(aK:∀x∈l,bW aF 193 [Gm.e x,Gm.e x] (.bool true)):bW aF 230 [.slice 4 .no (l.map Gm.e),.slice 4 .no (l.map Gm.e)] (.bool true):=by
 refine bI um abP ahs fun aG=>?_;unfold PI;have e5:l.length<=68719476736:=by simp[gr,gz,gu,aR]at aG;omega
 simp;(with_reducible repeat' first|refine av ?_|simp);refine sZ [0,1] (fun i (_:Unit)=>[(5,.int .i64 i)]) l.length (fun _ _=>True) () cW trivial (fun _ _ _=>?_) (fun i _ aw _ _=>?_)
 ·exact bY
 ·obtain⟨x,af,db⟩:=fQ aw;have key:=aK x (e1 af);clear af;exact tZ
def rS(d:eF cd):ae:=d.e 4 cd.e
@[simp]theorem aop(S:aC->Prop)(d:eF cd):kin S (rS d)=True:=af1 S d
@[simp]theorem apV(d:eF cd):bD (rS d)=rS d:=ajR d
theorem Xf(k:Int)(s:fG)(t:eF bX)(gs:eF cd)(az:s.wf)(aE:Ck t)(ab:∀q:Int,0<=q->q<=1048576->bW aF 225 [rS gs,.int .i64 q] (.int .i64 (hM hW gs q)))(m:Int)(bz:0<=m)(I:m<=1048576):
  bW aF 187 [.agg [.int .i64 k,s.e,hN t,rS gs],.int .i64 m] (.int .i64 (if nM s t m<0 then-1 else hM hW gs (nM s t m))):=by
 generalize bt:(if nM s t m<0 then-1 else hM hW gs (nM s t m))=R;unfold nM at bt;cases s with
 |b x=>
  simp only[fG.wf,pM,aR]at az;have g:m-x.size<0:=Ω
  have et:m-(fG.b x).len<0:=g;rw[if_pos et,if_pos Ω]at bt;clear et;subst bt;clear ab;simp only[fG.e];refine bI um C0 El fun aG=>?_;unfold Ax;simp;((with_reducible repeat' first|refine av ?_|simp[g]|((first|apply dt|apply dx|apply dw)<;>intro h<;>try simp at h))<;>(try exact dQ));all_goals simp[cn,MP,ba,bg,aT]
 |s l=>
  simp only[fG.e];clear az;by_cases g:m-l.length<0
  ·have et:m-(fG.s l).len<0:=g;rw[if_pos et,if_pos Ω]at bt;subst bt;clear ab et;refine bI um C0 El fun aG=>?_;unfold Ax;have e5:l.length<=68719476736:=by simp[gr,gz,gu,aR]at aG;omega
   simp;((with_reducible repeat' first|refine av ?_|simp|((first|apply dt|apply dx|apply dw)<;>intro h<;>try simp at h))<;>(try exact dQ));all_goals simp[cn,MP,ba,bg,aT]
  have et:¬m-(fG.s l).len<0:=g;rw[br et]at bt;clear et;replace bt:(if lH t (m-l.length)<0 then-1 else hM hW gs (lH t (m-l.length)))=R:=bt;have cN:=ale t aE (m-l.length) Ω Ω;have h1:=Xp t (m-l.length) Ω;generalize lH t (m-l.length)=q at cN h1 bt;by_cases bp:q<0
  ·rw[if_pos bp]at bt;subst bt;have:q= -1:=Ω
   subst this;clear ab;refine bI um C0 El fun aG=>?_;unfold Ax;have e5:l.length<=68719476736:=by simp[gr,gz,gu,aR]at aG;omega
   exact bY
  rw[br bp]at bt;have kC:=ab q Ω Ω;have qT:=EX B8 gs q Ω;rw[bt]at kC qT;clear ab bt;by_cases aV:R<0
  ·have:R= -1:=Ω
   subst this;refine bI um C0 El fun aG=>?_;unfold Ax;have e5:l.length<=68719476736:=by simp[gr,gz,gu,aR]at aG;omega
   exact bY
  ·refine bI um C0 El fun aG=>?_;unfold Ax;have e5:l.length<=68719476736:=by simp[gr,gz,gu,aR]at aG;omega
   exact bY
theorem ak9(t:cd)(hw:t.wf):∀m:Int,0<=m->m<=1048576->bW aF 187 [t.e,.int .i64 m] (.int .i64 (hW t m)):=by
 suffices H:∀(k:Nat) (t:cd),t.sz<=k->t.wf->∀m:Int,0<=m->m<=1048576->bW aF 187 [t.e,.int .i64 m] (.int .i64 (hW t m))from H _ t (cc _) hw
 intro k;clear hw t;induction k with
 |zero=>intro t aE;cases t<;>simp[cd.sz]at aE
 |succ k aX=>
  intro t aE hw m bz I;rw[ajV,cd.e_eq];cases t with
  |mk tk s t a=>simp only[cd.wf,cd.wfL_iff]at hw;exact Xf tk s t (.l a) hw.1.1 hw.1.2 (Ya (.l a) (fun p n c e=>by cases e) fun xs e x af=>by cases e;exact aX x (by have:=cd.szL_mem af;simp only[cd.sz]at aE;omega) (hw.2 x af)) m bz I
  |big tk s t p n c=>simp only[cd.wf]at hw;exact Xf tk s t (.b p n c) hw.1.1 hw.1.2 (Ya (.b p n c) (fun p n c e=>by cases e;exact hw.2) fun xs e=>by cases e) m bz I
theorem akw(t:Gm):bW aF 193 [t.e,t.e] (.bool true):=by
 suffices H:∀(k:Nat) (t:Gm),t.sz<=k->bW aF 193 [t.e,t.e] (.bool true)from H _ t (cc _)
 intro k;induction k with
 |zero=>intro t aE;have:=t.sz_pos;omega
 |succ k aX=>intro t aE;have key:=akx t.gs (fun x af=>aX x (by have:=t.gs_lt af;omega));have cN:=akB t.ts;clear aX;refine bI um abO ahr fun aG=>?_;unfold PH;exact bY
def PJ:C:=(ag [fm 2 0,fm 3 1,bK 4 false] (.seq (ag [a6 5 0 1 2,a8 6 1 5,a6 7 0 1 3,a8 8 1 7,eb 9 111 6 8,dK 10 9] (bb 10 (ag [bK 4 false] .ret) .skip)) (ag [bK 4 true] .ret)))
@[simp] def aiC:List ca:=[.tmp 4]
def PL:C:=(ag [bK 4 false] (.seq (ag [aa 6 0,cT 7 6,aa 8 1,cT 9 8,cj 10 .neq 7 9] (bb 10 (ag [bK 4 false] .ret) .skip)) (.seq (ag [bU 5 0] (.block 0 (.loop (.seq (ag [aa 11 5,aa 12 0,cT 13 12,cj 14 .lss 11 13] (bb 14 .skip (.exit 0))) (.seq (.block 1 (.seq (.drawn true 27 [aa 17 0,aa 18 5,cP 19 7 17 18,bO 20 7 19,aa 21 1,aa 22 5,cP 23 7 21 22,bO 24 7 23,eb 25 180 20 24,dK 26 25]) (bb 26 (ag [bK 4 false] .ret) .skip))) (.region [aa 15 5,a7 16 .add 15 1,aa 5 16])))))) (ag [bK 4 true] .ret))))
@[simp] def aiE:List ca:=[.tmp 4]
def PK:C:=(ag [fm 2 0,fm 3 1,bK 4 false] (.seq (ag [a6 5 0 1 2,a8 6 1 5,a6 7 0 1 3,a8 8 1 7,cj 9 .neq 6 8] (bb 9 (ag [bK 4 false] .ret) .skip)) (.seq (ag [a6 10 1 1 2,a8 11 1 10,a6 12 1 1 3,a8 13 1 12,cj 14 .neq 11 13] (bb 14 (ag [bK 4 false] .ret) .skip)) (.seq (ag [a6 15 2 1 2,a8 16 1 15,a6 17 2 1 3,a8 18 1 17,cj 19 .neq 16 18] (bb 19 (ag [bK 4 false] .ret) .skip)) (.seq (ag [lG 20 3 4 2,bO 21 4 20,lG 22 3 4 3,bO 23 4 22,eb 24 193 21 23,dK 25 24] (bb 25 (ag [bK 4 false] .ret) .skip)) (ag [bK 4 true] .ret))))))
@[simp] def aiD:List ca:=[.tmp 4]
def Iq:List (Nat×dh):=[
 (3,⟨1,8,.int .i64,.int .i64 0⟩),
 (4,⟨1,1,.bool,.bool false⟩),
 (9,⟨1,16,.str,.str []⟩),
 (59,⟨1,24,.slice 86,.slice 7 .nil []⟩),
 (61,⟨1,24,.struct [(0,59)],.agg [.slice 7 .nil []]⟩),
 (65,⟨4,72,.struct [(0,3),(1,9),(2,38),(3,63)],.agg [.int .i64 0,.str [],.slice 4 .nil [],.slice 4 .nil []]⟩),
 (86,⟨7,104,.struct [(0,9),(1,3),(2,3),(3,65)],.agg [.str [],.int .i64 0,.int .i64 0,.int .i64 0,.str [],.slice 4 .nil [],.slice 4 .nil []]⟩)]
theorem N2:eW aF Iq=true:=by kernel_rfl
theorem aht:cJ Iq PJ aiC 2 Tryz.f39=true:=by kernel_rfl
theorem abQ:aF.funcs[(39:Nat)]? =some Tryz.f39:=Tryz.func39
theorem ahv:cJ Iq PL aiE 2 Tryz.f111=true:=by kernel_rfl
theorem abS:aF.funcs[(111:Nat)]? =some Tryz.f111:=Tryz.func111
theorem ahu:cJ Iq PK aiD 2 Tryz.f180=true:=by kernel_rfl
theorem abR:aF.funcs[(180:Nat)]? =some Tryz.f180:=Tryz.func180
theorem aky(x:Rl):bW aF 180 [x.e,x.e] (.bool true):=by have kC:=akw x.body;refine bI N2 abR ahu fun aG=>?_;unfold PK;clear aG;exact bY
theorem akz(l:List Rl)(aK:∀x∈l,bW aF 180 [Rl.e x,Rl.e x] (.bool true)):bW aF 111 [.slice 7 .no (l.map Rl.e),.slice 7 .no (l.map Rl.e)] (.bool true):=by
 refine bI N2 abS ahv fun aG=>?_;unfold PL;have e5:l.length<=68719476736:=by simp[gr,gz,gu,aR]at aG;omega
 simp;(with_reducible repeat' first|refine av ?_|simp);refine sZ [0,1] (fun i (_:Unit)=>[(5,.int .i64 i)]) l.length (fun _ _=>True) () cW trivial (fun _ _ _=>?_) (fun i _ aw _ _=>?_)
 ·exact bY
 ·obtain⟨x,af,db⟩:=fQ aw;have key:=aK x (e1 af);clear af;exact tZ
theorem XY(P:List Rl):bW aF 39 [gI P,gI P] (.bool true):=by have lg:=akz P fun x _=>aky x;simp only[gI];refine bI N2 abQ aht fun aG=>?_;unfold PJ;clear aG;have tM:=lg;exact bY
theorem GX{P:List Rl}:∀y∈P.map Rl.e,qG y:=fun y bG=>by obtain⟨x,_,rfl⟩:=nj.1 bG;exact⟨x.name,x.ar,x.loc,x.body.kind,x.body.name,_,_,Rl.e_eq x,TH,afA⟩
@[simp]theorem amQ(l:List Rl):Pv.dtL (l.map Rl.e)=True:=eq_true (qG.dtL GX)
theorem ajf{x:Rl}(h:x.body.fits 60=true):jy x.e<=3600184:=by have:=acu h;rw[Rl.e_eq];simp only[jy,j3];omega
theorem ag2{P:List Rl}(h:iU P=true):j3 (P.map Rl.e)<=28801472:=by
 have bz:=h;simp only[iU,bJ,fs,ji]at h;have I:∀l:List Rl,(∀x∈l,x.body.fits 60=true)->j3 (l.map Rl.e)<=3600184*l.length:=by
  intro l;induction l with
  |nil=>intro _;simp[j3]
  |cons x l aX=>intro aD;have a:=ajf (aD x Ψ);have b:=aX fun y bG=>aD y (by simp[bG]);simp only[fF,j3,gg];omega
 have J:=I P fun x af=>by have:=h.2 x af;simp only[Rl.ok,bJ]at this;exact this.1.1.2
 have:=h.1.1;omega
theorem ah4{s:List aj}(k:Int)(ab:k<=1000):(bo bs (((nK s).getD []).map Rl.e) k).2<=4611686018427387904:=by
 rw[BB];cases h:nK s with
 |none=>simp[j3];omega
 |some P=>
  have J:iU P=true:=by
   unfold nK at h;split at h
   ·cases h
   ·exact(Oi.1 h).2
  have:=ag2 J;simp only[kn];omega
theorem QU(b:Nat)(ys:List ae):ha b [.slice 7 .no ys]=[eB b (.slice 7 .no ys)]:=rfl
theorem abo{x:Rl}(aM:gG x.name=true)(bL:x.ar<=4)(ah:x.body.shape=true):(xw x).length<=30*x.body.w+114:=by
 have I:=CY x.body.sz x.body (cc _) ah;have J:=Ef (Wo aM);have au:=TX (x.name::h6 0 x.ar.toNat);have aP:∀(n k:Nat),k+n<=100000->((h6 k n).map fun x=>x.length+1).sum<=22*n:=by
  intro n;induction n with
  |zero=>intro k _;simp[h6]
  |succ n aX=>intro k ab;have:=aX (k+1) Ω;have bA:=x2 (n:=(k:Int)) (by unfold aY;omega);simp only[h6,fF,List.sum_cons,qy,gg];omega
 have bA:=aP x.ar.toNat 0 Ω;simp only[fF,List.sum_cons]at au;simp only[xw,gx,gg,mJ,show iA.length=6 from rfl];omega
theorem Q4:∀P:List Rl,(∀x∈P,gG x.name=true/\x.ar<=4/\x.body.shape=true)->(jC P).length<=30*(P.map fun x=>x.body.w).sum+114*P.length
 |[],_=>by simp[jC]
 |x::P,h=>by have I:=Q4 P fun y bG=>h y (by simp[bG]);obtain⟨a,b,c⟩:=h x Ψ;have J:=abo a b c;simp only[jC,gx,fF,List.sum_cons,gg];omega
def uE(P:List Rl)(i:Nat)(s:List aj):aU:=⟨[(3,.str s),(12,.slice 7 .no (P.map Rl.e)),(13,.int .i64 P.length),(14,.int .i64 i)],[],[],1,[]⟩
def Cx(P:List Rl)(i:Nat)(s:List aj)(x:Rl)(k:Nat):aU:=⟨[(3,.str s),(5,.ptr (.loc 1) 0),(6,.slice 1 (.own (.loc 2)) (b6 (x.name::h6 0 k))),(7,.int .i64 k),(12,.slice 7 .no (P.map Rl.e)),(13,.int .i64 P.length),(14,.int .i64 i)],[(.loc 1,[.str x.name,.int .i64 x.ar,.int .i64 x.loc,.int .i64 x.body.kind,.str x.body.name,.slice 4 .no (x.body.ts.map enc),.slice 4 .no (x.body.gs.map Gm.e)])],[(.loc 2,⟨k+1,9,1,none⟩)],3,[]⟩
theorem aih(n k:Nat):(h6 k n).length=n:=by
 induction n generalizing k with
 |zero=>rfl
 |succ n aX=>simp[h6,aX]
theorem J2:∀a b:List Rl,jC (a++b)=jC a++jC b
 |[],_=>rfl
 |x::a,b=>by simp[jC,J2 a b]
theorem Q5{P:List Rl}{i:Nat}{x:Rl}(h:P[i]? =some x):jC (P.take (i+1))=jC (P.take i)++xw x:=by rw[k3,h,J2];simp[jC]
theorem Q6(P:List Rl)(i:Nat):(jC (P.take i)).length<=(jC P).length:=by
 have h:jC P=jC (P.take i)++jC (P.drop i):=by rw[<-J2,ry]
 rw[h];simp
theorem Mv{P:List Rl}(h:iU P=true){x:Rl}(af:x∈P):x.body.shape=true/\x.body.w<=1200060:=by simp only[iU,bJ,ji]at h;have J:=h.2 x af;simp only[Rl.ok,Gm.fits,bJ,fs]at J;have au:=J.1.1.2;have aP:=Nz x.body au.1;exact⟨au.1,Ω⟩
theorem W8{α:Type}{f:α->Nat}{n:Nat}:∀l:List α,(∀x∈l,f x<=n)->(l.map f).sum<=n*l.length
 |[],_=>by simp
 |x::l,h=>by have I:=h x Ψ;have J:=W8 (f:=f) l fun y bG=>h y (by simp[bG]);simp only[fF,List.sum_cons,gg,Nat.mul_add];omega
theorem Hu{P:List Rl}(h:iU P=true):P.length<=8/\(jC P).length<=300000000:=by
 have I:=Q4 P fun x af=>⟨(Ei h af).1,(Ei h af).2.1.2,(Ei h af).2.2.1⟩;have J:P.length<=8:=by have h:=h;unfold iU at h;simp only[bJ,fs]at h;exact h.1.1
 have au:=W8 (f:=fun x:Rl=>x.body.w) P fun x af=>(Mv h af).2;exact⟨J,Ω⟩
theorem aku(P:List Rl)(h:iU P=true):bW aF 43 [gI P] (.str (jC P)):=by
 have aD:=(Hu h).2;have mY:=Ir P;rw[h]at mY;have adw:P.length<=8:=by unfold iU at h;simp only[bJ,fs]at h;exact h.1.1
 refine bI vw abr ag5 fun aG=>?_;unfold Pk;clear aG;simp;(with_reducible repeat' first|refine av ?_|refine aZ mY ?_|refine a1 mY ?_|simp);refine fA (uE P) P.length (fun i s=>s=jC (P.take i)) [] (by simp[uE];exact cW) (by simp[jC]) (fun s ai _=>?_) (fun i s aw ai _=>?_)
 ·rw[hE]at ai;subst ai;simp[uE];exact bY
 obtain⟨x,af,db⟩:=fQ aw;obtain⟨KW,kc,KX,_⟩:=Ei h (e1 af);have eU:=Q5 af;have hle:=Q6 P (i+1);rw[eU,<-ai]at hle;rw[<-ai]at eU;have bZ:aY ((i:Int)+1):=by unfold aY;omega
 have afk:=(Mv h (e1 af)).2;have kC:=akD x.body.sz x.body (cc _) KX Ω;clear mY ai;simp[uE,aw,db];(with_reducible repeat' first|refine av ?_|simp[aw,db]);refine hR (fun k:Nat=>Cx P i s x k) (fun k=>x.ar.toNat-k) (fun k=>k<=x.ar.toNat) 0 (by simp[Cx,h6,ll,mF];exact cW) (pT _) ?_;intro k ab _;by_cases ga:k<x.ar.toNat
 ·have b5:(k:Int)<x.ar:=Ω
  have LD:aY ((k:Int)+1):=by unfold aY;omega
  have fP:=ot (k:Int);have dS:=XU (.var (k:Int)) (Yc Ω);have aff:cM (.var (k:Int))=qy (k:Int):=rfl;rw[aff]at dS;have eM:k+1+1<=aR:=by unfold aR;omega
  have h3:=HF k 0;rw[Nat.zero_add]at h3;simp[Cx];(with_reducible repeat' first|refine av ?_|refine aZ fP ?_|refine a1 fP ?_|refine aZ dS ?_|refine a1 dS ?_|simp[b5,LD,eM,aih]);refine b1.whl (k+1) Ω ga ?_;simp[Cx,h3,ll,qq,mF];exact⟨by simp[fresh,kinL,kin,bu,ak,Pv.look,cv],cG (by simp[fresh,kinL,kin,bu,ak,Pv.look,cv]),cI (by simp[fresh,kinL,kin,cw,ak,Pv.look,cv]),Ψ⟩
 ·have wi:k=x.ar.toNat:=Ω
  subst wi;have jf:¬((x.ar.toNat:Int)<x.ar):=Ω
  have ka:xw x=[40,100,101,102,105,110,101,32,40]++fl [32] (x.name::h6 0 x.ar.toNat)++[41,32]++fH x.body++[41,10]:=by simp[xw,iA]
  have k7:=hle;rw[ka]at hle eU;simp only[gx,gg,mJ]at hle;have fJ:(fl [32] (x.name::h6 0 x.ar.toNat)).length<=aR:=by unfold aR;omega
  have zB:=N6 (x.name::h6 0 x.ar.toNat) [32] fJ;obtain⟨fy,jk⟩:∃fy,fy=fl [32] (x.name::h6 0 x.ar.toNat):=⟨_,rfl⟩;rw[<-jk]at zB hle eU fJ;have cq:s.length+9<=aR:=by unfold aR;omega
  have cE:s.length+9+fy.length<=aR:=by unfold aR;omega
  have gD:s.length+9+fy.length+2<=aR:=by unfold aR;omega
  have yU:s.length+9+fy.length+2+(fH x.body).length<=aR:=by unfold aR;omega
  have xm:s.length+9+fy.length+2+(fH x.body).length+2<=aR:=by unfold aR;omega
  have c2:s.length+(9+fy.length)<=aR:=Ω
  have c3:s.length+(9+(fy.length+2))<=aR:=Ω
  have c4:s.length+(9+(fy.length+(2+(fH x.body).length)))<=aR:=Ω
  have c5:s.length+(9+(fy.length+(2+((fH x.body).length+2))))<=aR:=Ω
  simp[Cx];((with_reducible repeat' first|refine av ?_|refine aZ zB ?_|refine a1 zB ?_|refine aZ kC ?_|refine a1 kC ?_|simp[jf,cq,cE,gD,yU,xm,c2,c3,c4,c5,bZ]|((first|apply dt|apply dx|apply dw)<;>intro h<;>try simp at h))<;>(try exact dQ));refine b1.rng _ aw eU.symm ?_;simp[uE];exact cW
def qV(x:Rl)(k:Nat):List aj:=fl [32] (x.name::h6 0 k)
theorem SG(x:Rl):qV x 0=x.name:=rfl
theorem SF(x:Rl)(k:Nat):qV x (k+1)=qV x k++[32,63]++Lib.itoa (k:Nat):=by have h:=LC [32] (qy ((0+k:Nat):Int)) (x.name::h6 0 k) Ψ;unfold qV;rw[HF,<-dF,h,Nat.zero_add];simp[qy]
theorem Kt{x:Rl}(aM:gG x.name=true):∀k:Nat,k<=4->(qV x k).length<=12+22*k
 |0,_=>by rw[SG];have:=Ef (Wo aM);omega
 |k+1,h=>by have I:=Kt aM k Ω;have J:=x2 (n:=(k:Int)) (by unfold aY;omega);rw[SF];simp only[gx,gg,mJ];omega
def Cy(P:List Rl)(i:Nat)(s:List aj)(x:Rl)(k:Nat):aU:=⟨[(3,.str s),(5,.ptr (.loc 1) 0),(6,.str (qV x k)),(7,.int .i64 k),(12,.slice 7 .no (P.map Rl.e)),(13,.int .i64 P.length),(14,.int .i64 i)],[(.loc 1,[.str x.name,.int .i64 x.ar,.int .i64 x.loc,.int .i64 x.body.kind,.str x.body.name,.slice 4 .no (x.body.ts.map enc),.slice 4 .no (x.body.gs.map Gm.e)])],[],2,[]⟩
theorem ak1(P:List Rl)(h:iU P=true):bW aF 123 [gI P] (.str (jC P)):=by
 have aD:=(Hu h).2;have mY:=Ob P;rw[h]at mY;have adw:P.length<=8:=by unfold iU at h;simp only[bJ,fs]at h;exact h.1.1
 refine bI kX ab4 ahH fun aG=>?_;unfold PY;clear aG;simp;(with_reducible repeat' first|refine av ?_|refine aZ mY ?_|refine a1 mY ?_|simp);refine fA (uE P) P.length (fun i s=>s=jC (P.take i)) [] (by simp[uE];exact cW) (by simp[jC]) (fun s ai _=>?_) (fun i s aw ai _=>?_)
 ·rw[hE]at ai;subst ai;simp[uE];exact bY
 obtain⟨x,af,db⟩:=fQ aw;obtain⟨KW,kc,KX,_⟩:=Ei h (e1 af);have eU:=Q5 af;have hle:=Q6 P (i+1);rw[eU,<-ai]at hle;rw[<-ai]at eU;have bZ:aY ((i:Int)+1):=by unfold aY;omega
 have afk:=(Mv h (e1 af)).2;have kC:=akU x.body.sz x.body (cc _) KX Ω;clear mY ai;simp[uE,aw,db];((with_reducible repeat' first|refine av ?_|simp[aw,db]|((first|apply dt|apply dx|apply dw)<;>intro h<;>try simp at h))<;>(try exact dQ));refine hR (fun k:Nat=>Cy P i s x k) (fun k=>x.ar.toNat-k) (fun k=>k<=x.ar.toNat) 0 (by simp[Cy,SG];exact cW) (pT _) ?_;intro k ab _;by_cases ga:k<x.ar.toNat
 ·have b5:(k:Int)<x.ar:=Ω
  have LD:aY ((k:Int)+1):=by unfold aY;omega
  have eO:=vx (k:Int) (by unfold aY;omega);have oI:=Kt KW k Ω;have fJ:(qV x k).length+2<=aR:=by unfold aR;omega
  have fe:=Kt KW (k+1) Ω;have h3:=SF x k;rw[h3]at fe;simp only[gx,gg,mJ]at fe;have pw:(qV x k).length+2+(Lib.itoa (k:Int)).length<=aR:=by unfold aR;omega
  have qX:(qV x k).length+(2+(Lib.itoa (k:Int)).length)<=aR:=Ω
  clear oI fe;simp[Cy];((with_reducible repeat' first|refine av ?_|refine aZ eO ?_|refine a1 eO ?_|simp[b5,LD,fJ,pw,qX]|((first|apply dt|apply dx|apply dw)<;>intro h<;>try simp at h))<;>(try exact dQ));refine b1.whl (k+1) Ω ga ?_;simp[Cy,h3];exact cW
 ·have wi:k=x.ar.toNat:=Ω
  subst wi;have jf:¬((x.ar.toNat:Int)<x.ar):=Ω
  have ka:xw x=[40,100,101,102,105,110,101,32,40]++qV x x.ar.toNat++[41,32]++fH x.body++[41,10]:=by simp[xw,iA,qV]
  have k7:=hle;rw[ka]at hle eU;simp only[gx,gg,mJ]at hle;simp only[Cy];obtain⟨fy,jk⟩:∃fy,fy=qV x x.ar.toNat:=⟨_,rfl⟩;rw[<-jk]at hle eU⊢;have cq:s.length+9<=aR:=by unfold aR;omega
  have cE:s.length+9+fy.length<=aR:=by unfold aR;omega
  have gD:s.length+9+fy.length+2<=aR:=by unfold aR;omega
  have yU:s.length+9+fy.length+2+(fH x.body).length<=aR:=by unfold aR;omega
  have xm:s.length+9+fy.length+2+(fH x.body).length+2<=aR:=by unfold aR;omega
  have c2:s.length+(9+fy.length)<=aR:=Ω
  have c3:s.length+(9+(fy.length+2))<=aR:=Ω
  have c4:s.length+(9+(fy.length+(2+(fH x.body).length)))<=aR:=Ω
  have c5:s.length+(9+(fy.length+(2+((fH x.body).length+2))))<=aR:=Ω
  simp;((with_reducible repeat' first|refine av ?_|refine aZ kC ?_|refine a1 kC ?_|simp[jf,cq,cE,gD,yU,xm,c2,c3,c4,c5,bZ]|((first|apply dt|apply dx|apply dw)<;>intro h<;>try simp at h))<;>(try exact dQ));refine b1.rng _ aw eU.symm ?_;simp[uE];exact cW
noncomputable def tS(P:List Rl):aW (List Rl):=if iU P then nK (jC P)else none
theorem ak3(P:List Rl):bW aF 52 [gI P] (.tuple [gI ((tS P).getD []),.bool (tS P).isSome]):=by
 have mY:=Ob P;cases k5:iU P
 ·rw[k5]at mY;simp only[tS,k5,kG,if_false,kn,sL];refine bI kX Rv Vs fun aG=>?_;unfold Jj;clear aG;exact bY
 ·rw[k5]at mY;have dp:=ak1 P k5;have aD:=(Hu k5).2;have lg:=ak4 (jC P) (by unfold aR;omega);simp only[tS,k5,if_true];generalize jC P=T at dp lg;have T8:bW aF 37 [.str T] (.tuple [gI ((nK T).getD []),.bool (nK T).isSome]):=by
   cases h:nK T with
   |none=>rw[h]at lg;exact lg
   |some g=>rw[h]at lg;exact lg
  clear lg aD;generalize (nK T).getD []=Q at T8⊢;generalize (nK T).isSome=B at T8⊢;refine bI kX Rv Vs fun aG=>?_;unfold Jj;clear aG;exact bY
theorem agQ(P:List Rl):iD aF 42 [gI P] (tX (tS P)):=by
 have mY:=Ir P;cases k5:iU P
 ·rw[k5]at mY;simp only[tS,k5,kG,if_false];refine iD.mk mixed vw Ra U9 Ψ fun aG κ=>?_;unfold IX;clear aG;simp;(with_reducible repeat' first|refine av ?_|refine aZ mY ?_|refine a1 mY ?_|simp);all_goals(refine dG.val Ψ ?_;simp[ML,ba,bg,aT,cX,dR,cC,dE,cb,dy,tnL,tn,dO,ed,fold,dV,dU,eH,Pv.look,cY,bC,bD])
  all_goals simp[tX]
 ·rw[k5]at mY;have dp:=aku P k5;have aD:=(Hu k5).2;have lg:=agR (jC P) (by unfold aR;omega);simp only[tS,k5,if_true];generalize jC P=T at dp lg;unfold tX at lg⊢;clear aD;generalize (nK T).getD []=Q at lg⊢;generalize (nK T).isSome=B at lg⊢;refine iD.mk mixed vw Ra U9 Ψ fun aG κ=>?_;unfold IX;clear aG;simp;(with_reducible repeat' first|refine av ?_|refine aZ mY ?_|refine a1 mY ?_|refine aZ dp ?_|refine a1 dp ?_|simp);(refine CallDo.own Ψ (lg) (by simp[cY]) ?_;simp);(with_reducible repeat' first|refine av ?_|simp);all_goals(refine dG.val Ψ ?_;simp[ML,ba,bg,aT,cX,dR,cC,dE,cb,dy,tnL,tn,dO,ed,fold,dV,dU,eH,Pv.look,cY,bC,bD])
def I5:iB:=(.sq (.region [fm 1 0,bK 2 false]) (.sq (.region [bU 3 1048576]) (.sq (.region [bO 14 1 1,aa 15 3,eb 16 51 14 15,aa 3 16]) (.sq (ag [aa 17 3,a7 18 .lss 17 0] (bb 18 (ag [bK 2 true] .ret) .skip)) (.sq (.region [bO 20 1 1,cl 21 53 20,cl 22 52 21,aa 19 22,dZ 23 0 19,dZ 24 1 19,c7 (.alloc 4 none (.agg [.slice 7 .nil []])),bF 1 4 23,aa 5 24]) (.sl (.sq (.region [bO 25 1 1,cl 26 53 25,c7 (.alloc 6 none (.agg [.slice 7 .nil []])),bF 1 6 26]) (.sq (.region [bO 28 1 6,cl 29 42 28,aa 27 29,dZ 30 0 27,dZ 31 1 27,c7 (.alloc 7 none (.agg [.slice 7 .nil []])),bF 1 7 30,aa 8 31]) (.sq (ag [bO 32 1 7,bO 33 1 4,eb 34 39 32 33,dK 35 34,aa 36 35,b4 36 false 37 8,b4 36 false 38 5,aO 36 false (bh 39 (.beq true none (.t 37) (.t 38))),dA 40 36 39] (bb 40 (ag [bK 2 false] .ret) .skip)) (.sq (.seq (.drawn true 96 [bO 41 1 6,bO 42 1 1,cl 43 53 42,eb 44 39 41 43,dK 45 44]) (bb 45 (ag [bK 2 false] .ret) .skip)) (.sq (.region [bU 9 1]) (.th 6 (.sq (.region [bO 46 1 6,aa 47 9,eb 48 40 46 47,aa 9 48]) (.sq (ag [aa 49 9,a7 50 .lss 49 0,aa 51 50,aO 51 false (bO 52 1 7),aO 51 false (bO 53 1 4),aO 51 false (eb 54 39 52 53),aO 51 false (dK 55 54),dA 56 51 55,aa 57 56,b4 57 false 58 8,b4 57 false 59 5,aO 57 false (bh 60 (.beq true none (.t 58) (.t 59))),dA 61 57 60] (bb 61 (ag [bK 2 false] .ret) .skip)) (.sq (.region [bU 10 1]) (.th 7 (.sq (.region [bO 62 1 7,aa 63 10,eb 64 40 62 63,aa 10 64]) (.sq (.region [bU 11 1]) (.sq (.region [bO 65 1 7,aa 66 11,eb 67 41 65 66,aa 11 67]) (.sq (ag [aa 68 11,a7 69 .lss 68 0] (bb 69 (ag [bK 2 false] .ret) .skip)) (.sq (ag [aa 70 11,aa 71 10,cj 72 .neq 70 71] (bb 72 (ag [bK 2 false] .ret) .skip)) (.sq (.region [bO 74 1 1,cl 75 53 74,cl 76 42 75,aa 73 76,dZ 77 0 73,dZ 78 1 73,c7 (.alloc 12 none (.agg [.slice 7 .nil []])),bF 1 12 77,aa 13 78]) (.sq (ag [bO 79 1 12,bO 80 1 4,eb 81 39 79 80,dK 82 81,aa 83 82,b4 83 false 84 13,b4 83 false 85 5,aO 83 false (bh 86 (.beq true none (.t 84) (.t 85))),dA 87 83 86] (bb 87 (ag [bK 2 false] .ret) .skip)) (.sq (.region [bU 11 1]) (.sq (.region [bO 88 1 7,aa 89 11,eb 90 41 88 89,aa 11 90]) (.sq (ag [aa 91 11,a7 92 .lss 91 0] (bb 92 (ag [bK 2 false] .ret) .skip)) (.sq (ag [aa 93 11,aa 94 10,cj 95 .neq 93 94] (bb 95 (ag [bK 2 false] .ret) .skip)) (.sq (.region [bK 2 true]) (.of .ret)))))))))))))))))))))))))))))
@[simp] def VY:List ca:=[.tmp 2]
def Je:C:=(ag [fm 2 0,bU 4 0] (ag [a6 5 0 1 2,a8 6 1 5,aa 7 1,eb 8 122 6 7,aa 1 8] (.seq (ag [aa 9 1,a7 10 .lss 9 0] (bb 10 (ag [bU 4 (-1)] .ret) .skip)) (ag [aa 11 1,aa 4 11] .ret))))
@[simp] def MQ:List ca:=[.tmp 4]
def PT:C:=(ag [fm 1 0,c7 (.alloc 2 none (.agg [.slice 7 .nil []]))] (ag [c7 (.alloc 3 none (.agg [.slice 7 .nil []]))] (ag [a6 4 0 1 1,a8 5 1 4,cl 6 124 5,a6 7 0 1 3,bF 1 7 6] (ag [bO 8 1 3,bF 1 2 8] .ret))))
@[simp] def Wa:List ca:=[.cell 2 true 1]
def Jf:C:=(ag [bU 4 0] (ag [aa 6 1,aa 7 0,cT 8 7,cj 9 .sub 6 8,aa 1 9] (.seq (ag [aa 10 1,a7 11 .lss 10 0] (bb 11 (ag [bU 4 (-1)] .ret) .skip)) (.seq (ag [bU 5 0] (.block 0 (.loop (.seq (ag [aa 12 5,aa 13 0,cT 14 13,cj 15 .lss 12 14] (bb 15 .skip (.exit 0))) (.seq (.block 1 (ag [aa 18 0,aa 19 5,cP 20 7 18 19,bO 21 7 20,aa 22 1,eb 23 185 21 22,aa 1 23] (ag [aa 24 1,a7 25 .lss 24 0] (bb 25 (ag [bU 4 (-1)] .ret) .skip)))) (.region [aa 16 5,a7 17 .add 16 1,aa 5 17])))))) (ag [aa 26 1,aa 4 26] .ret)))))
@[simp] def aiI:List ca:=[.tmp 4]
def PV:C:=(ag [ng 2 7] (ag [aa 5 0,cT 6 5,c7 (.mks 7 none 7 86 (.agg [.str [],.int .i64 0,.int .i64 0,.int .i64 0,.str [],.slice 4 .nil [],.slice 4 .nil []]) (.t 6)),aa 3 7] (.seq (ag [bU 4 0] (.block 0 (.loop (.seq (ag [aa 8 4,aa 9 0,cT 10 9,cj 11 .lss 8 10] (bb 11 .skip (.exit 0))) (.seq (.block 1 (.region [aa 14 3,aa 15 4,aa 16 0,aa 17 4,cP 18 7 16 17,bO 19 7 18,cl 20 186 19,cP 21 7 14 15,bF 7 21 20])) (.region [aa 12 4,a7 13 .add 12 1,aa 4 13])))))) (.seq (.pub 3 (.region [aa 22 3,aa 2 22])) .ret))))
@[simp] def Wc:List ca:=[.tmp 2]
def CO:C:=(ag [fm 2 0,bU 4 0] (ag [aa 5 1,a6 6 0 1 2,a8 7 1 6,bh 8 (.slen (.t 7)),cj 9 .sub 5 8,aa 1 9] (.seq (ag [aa 10 1,a7 11 .lss 10 0] (bb 11 (ag [bU 4 (-1)] .ret) .skip)) (ag [lG 12 3 4 2,bO 13 4 12,aa 14 1,eb 15 187 13 14,aa 1 15] (.seq (ag [aa 16 1,a7 17 .lss 16 0] (bb 17 (ag [bU 4 (-1)] .ret) .skip)) (ag [aa 18 1,aa 4 18] .ret))))))
@[simp] def MR:List ca:=[.tmp 4]
def PU:C:=(ag [fm 1 0,c7 (.alloc 2 none (.agg [.str [],.int .i64 0,.int .i64 0,.int .i64 0,.str [],.slice 4 .nil [],.slice 4 .nil []]))] (ag [c7 (.alloc 3 none (.agg [.str [],.int .i64 0,.int .i64 0,.int .i64 0,.str [],.slice 4 .nil [],.slice 4 .nil []]))] (ag [a6 4 0 1 1,a8 5 1 4,a6 6 0 1 3,bF 1 6 5] (ag [a6 7 1 1 1,a8 8 1 7,a6 9 1 1 3,bF 1 9 8] (ag [a6 10 2 1 1,a8 11 1 10,a6 12 2 1 3,bF 1 12 11] (ag [lG 13 3 4 1,bO 14 4 13,cl 15 190 14,lG 16 3 4 3,bF 4 16 15] (ag [bO 17 7 3,bF 7 2 17] .ret)))))))
@[simp] def Wb:List ca:=[.cell 2 true 7]
def yA:List (Nat×dh):=[
 (3,⟨1,8,.int .i64,.int .i64 0⟩),
 (4,⟨1,1,.bool,.bool false⟩),
 (9,⟨1,16,.str,.str []⟩),
 (59,⟨1,24,.slice 86,.slice 7 .nil []⟩),
 (61,⟨1,24,.struct [(0,59)],.agg [.slice 7 .nil []]⟩),
 (65,⟨4,72,.struct [(0,3),(1,9),(2,38),(3,63)],.agg [.int .i64 0,.str [],.slice 4 .nil [],.slice 4 .nil []]⟩),
 (86,⟨7,104,.struct [(0,9),(1,3),(2,3),(3,65)],.agg [.str [],.int .i64 0,.int .i64 0,.int .i64 0,.str [],.slice 4 .nil [],.slice 4 .nil []]⟩),
 (90,⟨1,24,.slice 222,.slice 7 .nil []⟩),
 (92,⟨1,24,.struct [(0,90)],.agg [.slice 7 .nil []]⟩),
 (170,⟨4,72,.struct [(0,3),(1,9),(2,167),(3,168)],.agg [.int .i64 0,.str [],.slice 4 .nil [],.slice 4 .nil []]⟩),
 (222,⟨7,104,.struct [(0,9),(1,3),(2,3),(3,170)],.agg [.str [],.int .i64 0,.int .i64 0,.int .i64 0,.str [],.slice 4 .nil [],.slice 4 .nil []]⟩)]
theorem rp:eW aF yA=true:=by kernel_rfl
theorem Ve:F6 yA I5 VY 1 kH=true:=by kernel_rfl
theorem Rg:aF.funcs[(9:Nat)]? =some kH:=Tryz.func9
theorem Vn:cJ yA Je MQ 2 Tryz.f51=true:=by kernel_rfl
theorem Rq:aF.funcs[(51:Nat)]? =some Tryz.f51:=Tryz.func51
theorem ahC:cJ yA PT Wa 1 Tryz.f53=true:=by kernel_rfl
theorem abZ:aF.funcs[(53:Nat)]? =some Tryz.f53:=Tryz.func53
theorem Vo:cJ yA Jf aiI 2 Tryz.f122=true:=by kernel_rfl
theorem Rr:aF.funcs[(122:Nat)]? =some Tryz.f122:=Tryz.func122
theorem ahE:cJ yA PV Wc 1 Tryz.f124=true:=by kernel_rfl
theorem ab1:aF.funcs[(124:Nat)]? =some Tryz.f124:=Tryz.func124
theorem HA:cJ yA CO MR 2 Tryz.f185=true:=by kernel_rfl
theorem F4:aF.funcs[(185:Nat)]? =some Tryz.f185:=Tryz.func185
theorem ahD:cJ yA PU Wb 1 Tryz.f186=true:=by kernel_rfl
theorem ab0:aF.funcs[(186:Nat)]? =some Tryz.f186:=Tryz.func186
theorem Fm(t:cd):ae.agg [.int .i64 t.kind,t.name.e,hN t.ts,rS t.gs]=t.e:=(cd.e_eq t).symm
structure gZ where
 name:fG
 ar:Int
 loc:Int
 g:cd
def gZ.e(x:gZ):ae:= .agg [x.name.e,.int .i64 x.ar,.int .i64 x.loc,.int .i64 x.g.kind,x.g.name.e,hN x.g.ts,rS x.g.gs]
@[simp]theorem aos(S:aC->Prop)(b:gZ):kin S b.e=True:=by simp[gZ.e,kin,kinL]
@[simp]theorem apZ(b:gZ):bD b.e=b.e:=by simp[gZ.e,bD,bC]
theorem Uh(S:aC->Prop):∀l:List gZ,kinL S (l.map gZ.e)
 |[]=>by simp[kinL]
 |x::xs=>by simp[kinL,Uh S xs]
@[simp]theorem aoi(S:aC->Prop)(l:List gZ):kinL S (l.map gZ.e)=True:=eq_true (Uh S l)
@[simp]theorem apG(b:gZ):eV b.e=true:=rfl
@[simp]theorem an4(b:gZ):Pv.isAgg 7 b.e:=⟨_,rfl,rfl⟩
@[simp]theorem amG(b:gZ):cells b.e=[b.name.e,.int .i64 b.ar,.int .i64 b.loc,.int .i64 b.g.kind,b.g.name.e,hN b.g.ts,rS b.g.gs]:=rfl
def kW(x:gZ)(m:Int):Int:=if m-x.name.len<0 then-1 else hW x.g (m-x.name.len)
theorem NN(x:gZ)(m:Int)(h:0<=m): -1<=kW x m/\kW x m<=m:=by
 have:=x.name.len_nn;unfold kW;split
 ·omega
 ·have:=B8 x.g (m-x.name.len) Ω;omega
theorem alb(b:gZ)(hw:b.name.wf/\b.g.wf)(m:Int)(bz:0<=m)(I:m<=1048576):bW aF 185 [b.e,.int .i64 m] (.int .i64 (kW b m)):=by
 have k6:m-b.name.len<0->kW b m= -1:=fun g=>if_pos g;have ml:¬m-b.name.len<0->kW b m=hW b.g (m-b.name.len):=fun g=>br g;generalize kW b m=R at k6 ml;obtain⟨hw,D0⟩:=hw;obtain⟨s,p,a,v⟩:=b;simp only[gZ.e]at hw D0 k6 ml⊢;cases s with
 |b x=>
  simp only[fG.wf,pM,aR]at hw;have g:m-x.size<0:=Ω
  have bt:=k6 g;subst bt;clear k6 ml D0;rw[show fG.e (.b x)=ae.cst (.string x)from rfl];refine bI rp F4 HA fun aG=>?_;unfold CO;exact bY
 |s l=>
  rw[show fG.e (.s l)=ae.str l from rfl];by_cases g:m-l.length<0
  ·have bt:=k6 g;subst bt;clear k6 ml hw D0;refine bI rp F4 HA fun aG=>?_;unfold CO;have e5:l.length<=68719476736:=by simp[gr,gz,gu,aR]at aG;omega
   exact bY
  ·have bt:R=hW v (m-l.length):=ml g;subst bt;have key:=ak9 v D0 (m-l.length) Ω Ω;have hle:=B8 v (m-l.length) Ω;clear k6 ml hw D0;generalize hW v (m-l.length)=q at key hle⊢;by_cases bp:q<0
   ·have:q= -1:=Ω
    subst this;refine bI rp F4 HA fun aG=>?_;unfold CO;have e5:l.length<=68719476736:=by simp[gr,gz,gu,aR]at aG;omega
    simp[Fm];((with_reducible repeat' first|refine av ?_|refine aZ key ?_|refine a1 key ?_|simp[g,Fm]|((first|apply dt|apply dx|apply dw)<;>intro h<;>try simp at h))<;>(try exact dQ));all_goals simp[cn,MR,ba,bg,aT]
   ·refine bI rp F4 HA fun aG=>?_;unfold CO;have e5:l.length<=68719476736:=by simp[gr,gz,gu,aR]at aG;omega
    simp[Fm];((with_reducible repeat' first|refine av ?_|refine aZ key ?_|refine a1 key ?_|simp[g,bp,Fm]|((first|apply dt|apply dx|apply dw)<;>intro h<;>try simp at h))<;>(try exact dQ));all_goals simp[cn,MR,ba,bg,aT]
theorem alc(l:eF gZ)(hw:∀p n cap,l= .b p n cap->pM n)(aK:∀xs,l= .l xs->∀x∈xs,∀m,0<=m->m<=1048576->bW aF 185 [gZ.e x,.int .i64 m] (.int .i64 (kW x m)))(m:Int)(bz:0<=m)(I:m<=1048576):bW aF 122 [l.e 7 gZ.e,.int .i64 m] (.int .i64 (hM kW l m)):=by
 cases l with
 |b p n cap=>
  have aM:=hw p n cap rfl;simp only[pM,aR]at aM;have g:m-n<0:=Ω
  simp only[eF.e,hM];clear hw aK;refine bI rp Rr Vo fun aG=>?_;unfold Jf;exact bY
 |l l=>
 have aK:=aK l rfl;clear hw;simp only[eF.e,hM];generalize bt:pL kW l m=R;unfold pL at bt;refine bI rp Rr Vo fun aG=>?_;unfold Jf;have e5:l.length<=68719476736:=by simp[gr,gz,gu,aR]at aG;omega
 simp;by_cases g:m-l.length<0
 ·rw[if_pos g]at bt;subst bt;exact bY
 rw[br g]at bt;(with_reducible repeat' first|refine av ?_|simp[g]);refine sZ [0] (fun i (k:Int)=>[(1,.int .i64 k),(5,.int .i64 i)]) l.length (fun i k=>(0<=k/\k<=1048576)/\ju kW (l.drop i) k=R) (m-l.length) cW ⟨⟨Ω,Ω⟩,by simpa using bt⟩ (fun k ai _=>?_) (fun i k aw ai _=>?_)
 ·obtain⟨_,ai⟩:=ai;rw[jR]at ai;simp only[ju]at ai;subst ai;exact bY
 ·obtain⟨⟨eN,cD⟩,ai⟩:=ai;obtain⟨x,af,db⟩:=fQ aw;have key:=aK x (e1 af) k eN cD;have hle:=NN x k eN;rw[LV af]at ai;simp only[ju]at ai;generalize kW x k=q at key hle ai;clear af;by_cases bp:q<0
  ·rw[if_pos bp]at ai;subst ai;exact bY
  ·rw[br bp]at ai;simp[aw,db];((with_reducible repeat' first|refine av ?_|refine aZ key ?_|refine a1 key ?_|simp[aw,db,bp]|((first|apply dt|apply dx|apply dw)<;>intro h<;>try simp at h))<;>(try exact dQ));all_goals exact b1.rng q aw ⟨⟨Ω,Ω⟩,ai⟩ cW
def vm(d:eF gZ):ae:=d.e 7 gZ.e
@[simp]theorem aot(S:aC->Prop)(d:eF gZ):kin S (vm d)=True:=by cases d<;>simp[vm,eF.e,kin]
@[simp]theorem ap0(d:eF gZ):bD (vm d)=vm d:=by
 cases d with
 |l l=>
  have:∀l:List gZ,bC (l.map gZ.e)=l.map gZ.e:=by
   intro l;induction l with
   |nil=>rfl
   |cons x l aX=>simp[bC,aX]
  simp[vm,eF.e,bD,this]
 |b=>simp[vm,eF.e,bD]
theorem VD(d:eF gZ)(l:List ae):gO (vm d::l)=true:=by cases d<;>rfl
def yk(d:eF gZ):ae:= .agg [vm d]
def Fb(d:eF gZ):Prop:=d.wf fun x=>x.name.wf/\x.g.wf
theorem ala(d:eF gZ)(hw:Fb d)(m:Int)(bz:0<=m)(I:m<=1048576):bW aF 51 [yk d,.int .i64 m] (.int .i64 (hM kW d m)):=by
 have cD:bW aF 122 [vm d,.int .i64 m] (.int .i64 (hM kW d m)):=alc d (fun p n c e=>by subst e;exact hw) (fun xs e x af m bz I=>by subst e;exact alb x (hw x af) m bz I) m bz I;have cq:=EX NN d m bz;generalize hM kW d m=R at cD cq⊢;have aV:=VD d [];unfold gO at aV;simp only[yk];by_cases g:R<0
 ·have:R= -1:=Ω
  subst this;refine bI rp Rq Vn fun aG=>?_;unfold Je;simp;((with_reducible repeat' first|refine av ?_|refine aZ cD ?_|refine a1 cD ?_|simp[aV]|((first|apply dt|apply dx|apply dw)<;>intro h<;>try simp at h))<;>(try exact dQ));all_goals simp[cn,MQ,ba,bg,aT]
 ·refine bI rp Rq Vn fun aG=>?_;unfold Je;simp;((with_reducible repeat' first|refine av ?_|refine aZ cD ?_|refine a1 cD ?_|simp[aV,g]|((first|apply dt|apply dx|apply dw)<;>intro h<;>try simp at h))<;>(try exact dQ));all_goals simp[cn,MQ,ba,bg,aT]
def yo(b:Rl):gZ:=⟨.s b.name,b.ar,b.loc,pg b.body⟩
theorem ajd(b:Rl):(yo b).e=b.e:=by have h:=Se b.body;rw[cd.e_eq,Gm.e_eq]at h;simp only[ae.agg.injEq,sH,and_true]at h;obtain⟨I,J,au,aP⟩:=h;show ae.agg [_,_,_,_,_,_,_]=ae.agg [_,_,_,_,_,_,_];rw[show(yo b).g=pg b.body from rfl,I,J,au,show rS (pg b.body).gs=_ from aP];rfl
theorem aje(l:List Rl):(l.map yo).map gZ.e=l.map Rl.e:=by rw[List.map_map];exact List.map_congr_left fun b _=>ajd b
theorem aj0(x:gZ)(m:Int)(hw:x.name.wf/\x.g.wf)(I:m<=1048576)(bz:0<=m)(h:0<=kW x m):∃y,x=yo y:=by
 unfold kW at h;split at h
 ·omega
 ·obtain⟨l,aD⟩:=fG.small hw.1 I Ω;have:=x.name.len_nn;obtain⟨u,hu⟩:=Xe x.g (m-x.name.len) hw.2 Ω Ω h;exact⟨⟨l,x.ar,x.loc,u⟩,by cases x;simp only[yo]at aD hu⊢;rw[aD,hu]⟩
theorem Xo:∀(l:List Rl) (m:Int),0<=m->0<=ju kW (l.map yo) m->(((l.map fun x=>x.body.w).sum:Nat):Int)<=l.length+m-ju kW (l.map yo) m
 |[],m,bz,h=>by simp[ju]
 |x::xs,m,bz,h=>by
  simp only[fF,ju]at h⊢;split at h
  ·omega
  rename_i g1;rw[br g1];have e:kW (yo x) m=if m-x.name.length<0 then-1 else hW (pg x.body) (m-x.name.length):=rfl
  have J:=Xo xs _ Ω h;split at e
  ·omega
  have I:=ajW x.body (m-x.name.length) Ω Ω;simp only[List.sum_cons,gg,fF];omega
theorem ajZ{d:eF gZ}(hw:Fb d)(h:0<=hM kW d 1048576):∃P:List Rl,yk d=gI P/\P.length<=1048576/\(P.map fun x=>x.body.w).sum<=2097152:=by
 obtain⟨P,rfl⟩:=Xg NN (P:=fun x:gZ=>x.name.wf/\x.g.wf) aj0 d 1048576 hw Ω Ω h;refine⟨P,?_,?_⟩
 ·simp only[yk,vm,eF.e,aje,gI]
 ·simp only[hM,pL,nh]at h;split at h
  ·omega
  have au:=Xo P (1048576-P.length) Ω Ω;omega
def kj{α:Type}(f:α->Nat->ae)(z:ae)(out:List (α×Nat))(n:Nat):List ae:=dq f out++List.replicate (n-out.length) z
theorem wN{α:Type}(f:α->Nat->ae)(z:ae)(n:Nat):List.replicate n z=kj f z [] n:=by simp[kj]
theorem Mk{α:Type}(f:α->Nat->ae)(z:ae){out:List (α×Nat)}{n i:Nat}(aw:i<n)(aq:out.length=i):(kj f z out n)[i]? =some z:=by subst aq;simp[kj,List.getElem?_append,List.getElem?_replicate,aw];omega
theorem Mm{α:Type}(f:α->Nat->ae)(z:ae){out:List (α×Nat)}{n i:Nat}(aw:i<n)(aq:out.length=i)(x:α)(m:Nat):(kj f z out n).set i (f x m)=kj f z (out++[(x,m)]) n:=by
 subst aq;obtain⟨d,aI⟩:∃d,n-out.length=d+1:=⟨n-out.length-1,Ω⟩;have J:n-(out.length+1)=d:=Ω
 simp[kj,aI,J,List.replicate_succ,List.set_append]
theorem Mj{α:Type}(f:α->Nat->ae)(z:ae){out:List (α×Nat)}{n:Nat}(aq:out.length=n):kj f z out n=dq f out:=by subst aq;simp[kj]
@[simp]theorem Ml{α:Type}(f:α->Nat->ae)(z:ae){out:List (α×Nat)}{n:Nat}(aq:out.length<=n):(kj f z out n).length=n:=by simp[kj];omega
theorem afZ{α:Type}{f:α->Nat->ae}{g:α->ae}(h:o0 f g){n m:Nat}{l:List (α×Nat)}{z:ae}(cK:∀S,Pv.kin S z)(aD:ko n l)(hm:n<=m)(o:List aC)(N:Nat):kinL (fun k=> ¬fresh m o k) (kj f z l N)=True:=by have I:=h.kin aD hm o;unfold kj;rw[G5];simp only[I,true_and];exact eq_true (q4 _ _ (cK _) _)
def _root_.Go.Pv.Tm.k(t:Tm)(κ:Nat):ae:= .agg [.int .i64 t.kind,.int .i64 t.num,.str t.name,.slice 4 (.tr (.loc κ) 0) (t.args.map enc)]
def _root_.Go.Pv.Bt.k(b:Bt)(κ:Nat):ae:= .agg [.int .i64 b.v,.int .i64 b.t.kind,.int .i64 b.t.num,.str b.t.name,.slice 4 (.tr (.loc κ) 0) (b.t.args.map enc)]
theorem G4:o0 Tm.k enc:=⟨fun x n=>rfl,fun x n=>by simp[Tm.k,dO,ed,cY],fun x n=>by cases x;simp[Tm.k,bD,bC,enc,AM,Tm.kind,Tm.num,Tm.name,Tm.args],fun S x n h=>by simp[Tm.k,Pv.kin,Pv.kinL,h]⟩
theorem U2(l:List Tm)(aK:∀x∈l,iD aF 260 [enc x] (Tm.k x)):iD aF 227 [.slice 4 .no (l.map enc)] fun κ=>.slice 4 (.tr (.loc κ) 0) (l.map enc):=by
 refine iD.mk mixed qv ab3 ahG Ψ fun aG κ=>?_;unfold PX;have e5:l.length<=68719476736:=by simp[gr,gz,gu,aR]at aG;omega
 simp;all_goals first|(refine⟨by unfold aR;omega,?_⟩)|skip
 (with_reducible repeat' first|refine av ?_|simp);have cK:∀S:aC->Prop,Pv.kin S (.agg [.int .i64 0,.int .i64 0,.str [],.slice 4 .nil []]):=fun S=>by simp[Pv.kin,Pv.kinL]
 refine fA (fun i (x:Nat×List (Tm×Nat))=>⟨[(0,.slice 4 .no (l.map enc)),(3,.row 4 (.loc 0) l.length),(4,.int .i64 i)],[],[(.loc 0,⟨l.length,40,4,some (kj Tm.k (.agg [.int .i64 0,.int .i64 0,.str [],.slice 4 .nil []]) x.2 l.length)⟩)],x.1,[]⟩) l.length (fun i x=>1<=x.1/\ko x.1 x.2/\x.2.map (·.1)=l.take i) (1,[]) ⟨by simp[fresh,kinL,kin,bu,ak,Pv.look,<-wN,q4 _ _ (cK _)],cG (by simp[fresh,kinL,kin,bu,ak,Pv.look,<-wN,q4 _ _ (cK _)]),cI (by simp[fresh,kinL,kin,cw,ak,Pv.look,<-wN,q4 _ _ (cK _)]),Ψ⟩ ⟨cc _,.nil _,Ψ⟩ (fun x ai _=>?_) (fun i x aw ai _=>?_)
 ·obtain⟨n,out⟩:=x;obtain⟨I,J,au⟩:=ai;simp only[hE]at I J au;have aP:out.length=l.length:=by rw[<-au];simp
  simp;rw[Mj _ _ aP];(with_reducible repeat' first|refine av ?_|simp);(refine dG.val Ψ ?_;simp[We,ba,bg,aT,cX,dR,cC,dE,cb,dy,tnL,tn,dO,ed,fold,dV,dU,eH,Pv.look,cY,bC,bD,G4.okL,G4.nodup J,G4.stL,au,aP])
 ·obtain⟨n,out⟩:=x;obtain⟨I,J,au⟩:=ai;simp only at I J au;obtain⟨x,af,db⟩:=fQ aw;have key:=aK x (e1 af);have aP:out.length=i:=by have:=er List.length au;simp at this;omega
  have ao:=Mk Tm.k (.agg [.int .i64 0,.int .i64 0,.str [],.slice 4 .nil []]) aw aP;have nW:∀h,((kj Tm.k (.agg [.int .i64 0,.int .i64 0,.str [],.slice 4 .nil []]) out l.length)[i]'h)= .agg [.int .i64 0,.int .i64 0,.str [],.slice 4 .nil []]:=fun h=>by rw[cL h]at ao;exact gB ao
  have aL:=fun m=>Mm Tm.k (.agg [.int .i64 0,.int .i64 0,.str [],.slice 4 .nil []]) aw aP x m;have bB:=Ml Tm.k (.agg [.int .i64 0,.int .i64 0,.str [],.slice 4 .nil []]) (out:=out) (n:=l.length) Ω;have b9:=fun m n' (h:n<=m) (cu:m<n')=>J.snoc x h cu;have ee:∀m,(out++[(x,m)]).map (fun p:Tm×Nat=>p.1)=l.take (i+1):=fun m=>by rw[NP af,<-au];simp
  generalize kj Tm.k (.agg [.int .i64 0,.int .i64 0,.str [],.slice 4 .nil []]) out l.length=kE at ao nW aL bB⊢;have bA:=J.snoc x (cc n) (Nat.lt_succ_self n);have eT:=afZ G4 cK bA (cc _) [] l.length;simp[fresh]at eT;simp[aw,db];(refine CallDo.own Ψ (key) (by simp[cY]) ?_;simp);(with_reducible repeat' first|refine av ?_|simp[aw,db,nW,bB,aL,Tm.k,nL]);refine b1.rng (n+1,out++[(x,n)]) aw ?_ ?_
  ·exact⟨Ψ,bA,ee n⟩
  simp;rw[show(ae.agg [.int .i64 x.kind,.int .i64 x.num,.str x.name,.slice 4 (.tr (.loc n) 0) (x.args.map enc)])=Tm.k x n from rfl,aL n];exact⟨by simp[fresh,kinL,kin,bu,ak,Pv.look],cG Ψ,cI (by simp[fresh,kinL,kin,bu,ak,Pv.look,cw];exact eT),Ψ⟩
theorem agY(t:Tm):iD aF 260 [enc t] t.k:=by
 suffices H:∀(k:Nat) (t:Tm),t.sz<=k->iD aF 260 [enc t] t.k from H _ t (cc _)
 intro k;induction k with
 |zero=>intro t aE;cases t;simp[Tm.sz]at aE
 |succ k aX=>intro t aE;have key:=U2 t.args (fun x af=>aX x (by have:=NO af;omega));clear aX;refine iD.mk mixed qv ab2 ahF Ψ fun aG κ=>?_;unfold PW;simp;(with_reducible repeat' first|refine av ?_|simp);(refine CallDo.own Ψ (key) (by simp[cY]) ?_;simp);(with_reducible repeat' first|refine av ?_|simp);(refine dG.val Ψ ?_;simp[Wd,ba,bg,aT,cX,dR,cC,dE,cb,dy,tnL,tn,dO,ed,fold,dV,dU,eH,Pv.look,cY,bC,bD]);all_goals simp[Tm.k]
@[simp]theorem amM(t:Tm)(n:Nat):cells (t.k n)=[.int .i64 t.kind,.int .i64 t.num,.str t.name,.slice 4 (.tr (.loc n) 0) (t.args.map enc)]:=rfl
@[simp]theorem apM(t:Tm)(n:Nat):eV (t.k n)=true:=rfl
theorem ac7{n m:Nat}{l:List (Gm×Nat)}{z:ae}(cK:∀S,Pv.kin S z)(aD:ko n l)(hm:n<=m)(o:List aC)(N:Nat):kinL (fun k=> ¬fresh m o k) (kj Gm.k z l N)=True:=by have I:=R9 aD hm o;unfold kj;rw[G5];simp only[I,true_and];exact eq_true (q4 _ _ (cK _) _)
theorem ajb{n m:Nat}{l:List (Rl×Nat)}{z:ae}(cK:∀S,Pv.kin S z)(aD:ko n l)(hm:n<=m)(o:List aC)(N:Nat):kinL (fun k=> ¬fresh m o k) (kj Rl.k z l N)=True:=by have I:=WI aD hm o;unfold kj;rw[G5];simp only[I,true_and];exact eq_true (q4 _ _ (cK _) _)
theorem agU(l:List Gm)(aK:∀x∈l,iD aF 190 [Gm.e x] (Gm.k x)):iD aF 228 [.slice 4 .no (l.map Gm.e)] fun κ=>.slice 4 (.tr (.loc κ) 0) (l.map Gm.e):=by
 refine iD.mk mixed um abY ahB Ψ fun aG κ=>?_;unfold PS;have e5:l.length<=68719476736:=by simp[gr,gz,gu,aR]at aG;omega
 simp;all_goals first|(refine⟨by unfold aR;omega,?_⟩)|skip
 ((with_reducible repeat' first|refine av ?_|simp|((first|apply dt|apply dx|apply dw)<;>intro h<;>try simp at h))<;>(try exact dQ));have cK:∀S:aC->Prop,Pv.kin S (.agg [.int .i64 0,.str [],.slice 4 .nil [],.slice 4 .nil []]):=fun S=>by simp[Pv.kin,Pv.kinL]
 refine fA (fun i (x:Nat×List (Gm×Nat))=>⟨[(0,.slice 4 .no (l.map Gm.e)),(3,.row 4 (.loc 0) l.length),(4,.int .i64 i)],[],[(.loc 0,⟨l.length,65,4,some (kj Gm.k (.agg [.int .i64 0,.str [],.slice 4 .nil [],.slice 4 .nil []]) x.2 l.length)⟩)],x.1,[]⟩) l.length (fun i x=>1<=x.1/\ko x.1 x.2/\x.2.map (·.1)=l.take i) (1,[]) ⟨by simp[fresh,kinL,kin,bu,ak,Pv.look,<-wN,q4 _ _ (cK _)],cG (by simp[fresh,kinL,kin,bu,ak,Pv.look,<-wN,q4 _ _ (cK _)]),cI (by simp[fresh,kinL,kin,cw,ak,Pv.look,<-wN,q4 _ _ (cK _)]),Ψ⟩ ⟨cc _,.nil _,Ψ⟩ (fun x ai _=>?_) (fun i x aw ai _=>?_)
 ·obtain⟨n,out⟩:=x;obtain⟨I,J,au⟩:=ai;simp only[hE]at I J au;have aP:out.length=l.length:=by rw[<-au];simp
  simp;rw[Mj _ _ aP];((with_reducible repeat' first|refine av ?_|simp|((first|apply dt|apply dx|apply dw)<;>intro h<;>try simp at h))<;>(try exact dQ));(refine dG.val Ψ ?_;simp[V9,ba,bg,aT,cX,dR,cC,dE,cb,dy,tnL,tn,dO,ed,fold,dV,dU,eH,Pv.look,cY,bC,bD,Kd,Kc J.nd,Ke,au,aP])
 ·obtain⟨n,out⟩:=x;obtain⟨I,J,au⟩:=ai;simp only at I J au;obtain⟨x,af,db⟩:=fQ aw;have key:=aK x (e1 af);have aP:out.length=i:=by have:=er List.length au;simp at this;omega
  have ao:=Mk Gm.k (.agg [.int .i64 0,.str [],.slice 4 .nil [],.slice 4 .nil []]) aw aP;have nW:∀h,((kj Gm.k (.agg [.int .i64 0,.str [],.slice 4 .nil [],.slice 4 .nil []]) out l.length)[i]'h)= .agg [.int .i64 0,.str [],.slice 4 .nil [],.slice 4 .nil []]:=fun h=>by rw[cL h]at ao;exact gB ao
  have aL:=fun m=>Mm Gm.k (.agg [.int .i64 0,.str [],.slice 4 .nil [],.slice 4 .nil []]) aw aP x m;have bB:=Ml Gm.k (.agg [.int .i64 0,.str [],.slice 4 .nil [],.slice 4 .nil []]) (out:=out) (n:=l.length) Ω;have b9:=fun m n' (h:n<=m) (cu:m<n')=>J.snoc x h cu;have ee:∀m,(out++[(x,m)]).map (fun p:Gm×Nat=>p.1)=l.take (i+1):=fun m=>by rw[NP af,<-au];simp
  generalize kj Gm.k (.agg [.int .i64 0,.str [],.slice 4 .nil [],.slice 4 .nil []]) out l.length=kE at ao nW aL bB⊢;have bA:=J.snoc x (cc n) (Nat.lt_succ_self n);have eT:=ac7 cK bA (cc _) [] l.length;simp[fresh]at eT;simp[aw,db];(refine CallDo.own Ψ (key) (by simp[cY]) ?_;simp);(with_reducible repeat' first|refine av ?_|simp[aw,db,nW,bB,aL,Gm.k,nL]);refine b1.rng (n+1,out++[(x,n)]) aw ?_ ?_
  ·exact⟨Ψ,bA,ee n⟩
  simp;rw[show(ae.agg [.int .i64 x.kind,.str x.name,.slice 4 (.tr (.loc n) 0) (x.ts.map enc),.slice 4 (.tr (.loc n) 1) (x.gs.map Gm.e)])=Gm.k x n from rfl,aL n];exact⟨by simp[fresh,kinL,kin,bu,ak,Pv.look],cG Ψ,cI (by simp[fresh,kinL,kin,bu,ak,Pv.look,cw];exact eT),Ψ⟩
theorem agZ(d:List Tm):iD aF 227 [.slice 4 .no (d.map enc)] fun κ=>.slice 4 (.tr (.loc κ) 0) (d.map enc):=U2 d fun x _=>agY x
theorem agT(t:Gm):iD aF 190 [t.e] t.k:=by
 suffices H:∀(k:Nat) (t:Gm),t.sz<=k->iD aF 190 [t.e] t.k from H _ t (cc _)
 intro k;induction k with
 |zero=>intro t aE;have:=t.sz_pos;omega
 |succ k aX=>intro t aE;have key:=agU t.gs (fun x af=>aX x (by have:=t.gs_lt af;omega));have cN:=agZ t.ts;clear aX;refine iD.mk mixed um abX ahA Ψ fun aG κ=>?_;unfold PR;simp;(with_reducible repeat' first|refine av ?_|simp);(refine CallDo.own Ψ (cN) (by simp[cY]) ?_;simp);(with_reducible repeat' first|refine av ?_|simp);(refine CallDo.own Ψ (key) (by simp[cY]) ?_;simp);(with_reducible repeat' first|refine av ?_|simp);(refine dG.val Ψ ?_;simp[V8,ba,bg,aT,cX,dR,cC,dE,cb,dy,tnL,tn,dO,ed,fold,dV,dU,eH,Pv.look,cY,bC,bD]);all_goals simp[Gm.k]
theorem agW(x:Rl):iD aF 186 [x.e] x.k:=by have kC:=agT x.body;refine iD.mk mixed rp ab0 ahD Ψ fun aG κ=>?_;unfold PU;simp;(with_reducible repeat' first|refine av ?_|simp);(refine CallDo.own Ψ (kC) (by simp[cY]) ?_;simp);(with_reducible repeat' first|refine av ?_|simp);(refine dG.val Ψ ?_;simp[Wb,ba,bg,aT,cX,dR,cC,dE,cb,dy,tnL,tn,dO,ed,fold,dV,dU,eH,Pv.look,cY,bC,bD]);all_goals simp[Rl.k]
theorem agX(l:List Rl)(aK:∀x∈l,iD aF 186 [Rl.e x] (Rl.k x)):iD aF 124 [.slice 7 .no (l.map Rl.e)] fun κ=>.slice 7 (.tr (.loc κ) 0) (l.map Rl.e):=by
 refine iD.mk mixed rp ab1 ahE Ψ fun aG κ=>?_;unfold PV;have e5:l.length<=68719476736:=by simp[gr,gz,gu,aR]at aG;omega
 simp;all_goals first|(refine⟨by unfold aR;omega,?_⟩)|skip
 ((with_reducible repeat' first|refine av ?_|simp|((first|apply dt|apply dx|apply dw)<;>intro h<;>try simp at h))<;>(try exact dQ));have cK:∀S:aC->Prop,Pv.kin S (.agg [.str [],.int .i64 0,.int .i64 0,.int .i64 0,.str [],.slice 4 .nil [],.slice 4 .nil []]):=fun S=>by simp[Pv.kin,Pv.kinL]
 refine fA (fun i (x:Nat×List (Rl×Nat))=>⟨[(0,.slice 7 .no (l.map Rl.e)),(3,.row 7 (.loc 0) l.length),(4,.int .i64 i)],[],[(.loc 0,⟨l.length,86,7,some (kj Rl.k (.agg [.str [],.int .i64 0,.int .i64 0,.int .i64 0,.str [],.slice 4 .nil [],.slice 4 .nil []]) x.2 l.length)⟩)],x.1,[]⟩) l.length (fun i x=>1<=x.1/\ko x.1 x.2/\x.2.map (·.1)=l.take i) (1,[]) ⟨by simp[fresh,kinL,kin,bu,ak,Pv.look,<-wN,q4 _ _ (cK _)],cG (by simp[fresh,kinL,kin,bu,ak,Pv.look,<-wN,q4 _ _ (cK _)]),cI (by simp[fresh,kinL,kin,cw,ak,Pv.look,<-wN,q4 _ _ (cK _)]),Ψ⟩ ⟨cc _,.nil _,Ψ⟩ (fun x ai _=>?_) (fun i x aw ai _=>?_)
 ·obtain⟨n,out⟩:=x;obtain⟨I,J,au⟩:=ai;simp only[hE]at I J au;have aP:out.length=l.length:=by rw[<-au];simp
  simp;rw[Mj _ _ aP];((with_reducible repeat' first|refine av ?_|simp|((first|apply dt|apply dx|apply dw)<;>intro h<;>try simp at h))<;>(try exact dQ));(refine dG.val Ψ ?_;simp[Wc,ba,bg,aT,cX,dR,cC,dE,cb,dy,tnL,tn,dO,ed,fold,dV,dU,eH,Pv.look,cY,bC,bD,Nk,Nj J.nd,Nl,au,aP])
 ·obtain⟨n,out⟩:=x;obtain⟨I,J,au⟩:=ai;simp only at I J au;obtain⟨x,af,db⟩:=fQ aw;have key:=aK x (e1 af);have aP:out.length=i:=by have:=er List.length au;simp at this;omega
  have ao:=Mk Rl.k (.agg [.str [],.int .i64 0,.int .i64 0,.int .i64 0,.str [],.slice 4 .nil [],.slice 4 .nil []]) aw aP;have nW:∀h,((kj Rl.k (.agg [.str [],.int .i64 0,.int .i64 0,.int .i64 0,.str [],.slice 4 .nil [],.slice 4 .nil []]) out l.length)[i]'h)= .agg [.str [],.int .i64 0,.int .i64 0,.int .i64 0,.str [],.slice 4 .nil [],.slice 4 .nil []]:=fun h=>by rw[cL h]at ao;exact gB ao
  have aL:=fun m=>Mm Rl.k (.agg [.str [],.int .i64 0,.int .i64 0,.int .i64 0,.str [],.slice 4 .nil [],.slice 4 .nil []]) aw aP x m;have bB:=Ml Rl.k (.agg [.str [],.int .i64 0,.int .i64 0,.int .i64 0,.str [],.slice 4 .nil [],.slice 4 .nil []]) (out:=out) (n:=l.length) Ω;have b9:=fun m n' (h:n<=m) (cu:m<n')=>J.snoc x h cu;have ee:∀m,(out++[(x,m)]).map (fun p:Rl×Nat=>p.1)=l.take (i+1):=fun m=>by rw[NP af,<-au];simp
  generalize kj Rl.k (.agg [.str [],.int .i64 0,.int .i64 0,.int .i64 0,.str [],.slice 4 .nil [],.slice 4 .nil []]) out l.length=kE at ao nW aL bB⊢;have bA:=J.snoc x (cc n) (Nat.lt_succ_self n);have eT:=ajb cK bA (cc _) [] l.length;simp[fresh]at eT;simp[aw,db];(refine CallDo.own Ψ (key) (by simp[cY]) ?_;simp);(with_reducible repeat' first|refine av ?_|simp[aw,db,nW,bB,aL,Rl.k,nL]);refine b1.rng (n+1,out++[(x,n)]) aw ?_ ?_
  ·exact⟨Ψ,bA,ee n⟩
  simp;rw[show(ae.agg [.str x.name,.int .i64 x.ar,.int .i64 x.loc,.int .i64 x.body.kind,.str x.body.name,.slice 4 (.tr (.loc n) 0) (x.body.ts.map enc),.slice 4 (.tr (.loc n) 1) (x.body.gs.map Gm.e)])=Rl.k x n from rfl,aL n];exact⟨by simp[fresh,kinL,kin,bu,ak,Pv.look],cG Ψ,cI (by simp[fresh,kinL,kin,bu,ak,Pv.look,cw];exact eT),Ψ⟩
theorem agV(P:List Rl):iD aF 53 [gI P] fun κ=>.agg [.slice 7 (.tr (.loc κ) 0) (P.map Rl.e)]:=by have lg:=agX P fun x _=>agW x;simp only[gI];refine iD.mk mixed rp abZ ahC Ψ fun aG κ=>?_;unfold PT;simp;(with_reducible repeat' first|refine av ?_|simp);(refine CallDo.own Ψ (lg) (by simp[cY]) ?_;simp);(with_reducible repeat' first|refine av ?_|simp);(refine dG.val Ψ ?_;simp[Wa,ba,bg,aT,cX,dR,cC,dE,cb,dy,tnL,tn,dO,ed,fold,dV,dU,eH,Pv.look,cY,bC,bD])
theorem agN(P:List Rl)(k:Int)(ab:k<=1000):(bo bs (((tS P).getD []).map Rl.e) k).2<=4611686018427387904:=by
 unfold tS;split
 ·exact ah4 k ab
 ·rw[BB];simp[j3];omega
theorem ajg(x:Rl):jy x.e<=3*x.body.w+10:=by have I:=Ot x.body;have e:p1 x.body=x.body.e:=rfl;rw[e,Gm.e_eq]at I;rw[Rl.e_eq];simp only[jy,j3]at I⊢;omega
theorem WK:∀P:List Rl,j3 (P.map Rl.e)<=3*(P.map fun x=>x.body.w).sum+10*P.length
 |[]=>by simp[j3]
 |x::P=>by have I:=ajg x;have J:=WK P;simp only[fF,j3,List.sum_cons,gg];omega
theorem akt(d:eF gZ)(hw:Fb d):bW aF 9 [yk d] (.bool true):=by
 have cD:=ala d hw 1048576 Ω Ω;by_cases g:hM kW d 1048576<0
 ·generalize hM kW d 1048576=q at cD g;clear hw;have aV:=VD d [];unfold gO at aV;simp only[yk]at cD⊢;refine bW.mkD mixed rp Rg Ve Ψ (by simp[kin]) fun aG=>?_;unfold I5;exact bY
 obtain⟨P,k5,anj,ank⟩:=ajZ hw Ω;rw[k5]at cD⊢;generalize hM kW d 1048576=b0 at cD g;have SV:(bo bs (P.map Rl.e) 1).2<=4611686018427387904:=by rw[BB];have:=WK P;omega
 clear hw k5 d;have jZ:=agV P;have t1:bW aF 53 [gI P] (gI P):=by have:=jZ.val (by simp[bD,bC,Pv.kin,Pv.kinL]);simp[bD,bC]at this;exact this
 have ao:=XY P;have key:∃(ts:List Rl) (B:Bool),(∀k:Int,k<=1000->(bo bs (ts.map Rl.e) k).2<=4611686018427387904)/\bW aF 52 [gI P] (.tuple [gI ts,.bool B])/\iD aF 42 [gI P] fun κ=>.tuple [.agg [.slice 7 (.tr (.loc κ) 0) (ts.map Rl.e)],.bool B]:=⟨(tS P).getD [],(tS P).isSome,fun k ab=>agN P k ab,ak3 P,agQ P⟩
 obtain⟨ts,B,hw,s1,i1⟩:=key;have Lm:bW aF 42 [gI P] (.tuple [gI ts,.bool B]):=by have:=i1.val (by simp[bD,bC,Pv.kin,Pv.kinL]);simp[bD,bC]at this;exact this
 have uN:=XY ts;have QT:=uN;have QS:=ao;have anO:=i1;have Xq:=t1;simp only[gI]at cD t1 s1 i1 Lm uN ao jZ⊢;refine bW.mkD mixed rp Rg Ve Ψ (by simp[kin]) fun aG=>?_;unfold I5;simp[-lN];(with_reducible repeat' first|refine av ?_|refine aZ cD ?_|refine a1 cD ?_|refine aZ t1 ?_|refine a1 t1 ?_|refine aZ s1 ?_|refine a1 s1 ?_|simp[g,-lN]);refine aa6 ⟨[(1,.ptr (.loc 0) 0),(4,.ptr (.loc 1) 0),(5,.bool B)],[(.loc 0,[.slice 7 .no (P.map Rl.e)]),(.loc 1,[.slice 7 .no (ts.map Rl.e)])],[],2,[]⟩ cW ?_ ?_
 ·simp[H7,H9,H8,yq,zX]
 simp[vn,Ia,ES,lk,yp,-lN];(with_reducible repeat' first|refine av ?_|simp[-lN]);(refine CallDo.own Ψ (jZ) (by simp[cY]) ?_;simp);(with_reducible repeat' first|refine av ?_|simp[-lN]);(refine CallDo.own Ψ (i1) (by simp[cY]) ?_;simp);(with_reducible repeat' first|refine av ?_|refine aZ QT ?_|refine a1 QT ?_|refine aZ t1 ?_|refine a1 t1 ?_|refine aZ ao ?_|refine a1 ao ?_|refine aZ QS ?_|refine a1 QS ?_|refine aZ Xq ?_|refine a1 Xq ?_|refine aZ uN ?_|refine a1 uN ?_|simp);refine Q3 ⟨[(1,.ptr (.loc 0) 0),(4,.ptr (.loc 1) 0),(5,.bool B),(6,.ptr (.loc 3) 0),(7,.ptr (.loc 5) 0),(8,.bool B),(9,.int .i64 1)],[(.loc 0,[.slice 7 (.lo cY) (P.map Rl.e)]),(.loc 1,[.slice 7 (.lo cY) (ts.map Rl.e)]),(.loc 3,[.slice 7 (.tr (.loc 2) 0) (P.map Rl.e)]),(.loc 5,[.slice 7 (.tr (.loc 4) 0) (ts.map Rl.e)])],[],102,[cY]⟩ 1000000 cW ?_ fun ε=>?_
 ·simp[Cb,rk,dO,ed,tn,tnL,Eu,Pv.look,cY]
 simp[ui,uh,vK,uI,jA,oB,bD,bC,tn,tnL,Pv.look,-lN];(with_reducible repeat' first|refine av ?_|simp[QU,-lN]);have f1:=RX (P.map Rl.e) GX 1 1000000 ε Ω SV;have d0:cr (.agg [.slice 7 .no (P.map Rl.e)]):=by simp[cr,Pv.dtL,-lN]
 have f2:kinL (rng 1000000 (1000000+bV (.agg [.slice 7 .no (P.map Rl.e)]))) [eB 1000000 (.agg [.slice 7 .no (P.map Rl.e)]),.int .i64 1]:=⟨qh _ _ d0,by simp[Pv.kin],trivial⟩;have cF:bV (.agg [.slice 7 .no (bo bs (P.map Rl.e) 1).1])=bV (.agg [.slice 7 .no (P.map Rl.e)]):=by rw[FE,FE];exact rM (mA ..) (rN ..)
 have hI:1<=(bo bs (P.map Rl.e) 1).2:=kh ..;obtain⟨OK,Sq⟩:∃OK,OK=ae.agg [.slice 7 .no (bo bs (P.map Rl.e) 1).1]:=⟨_,rfl⟩;rw[<-Sq]at f1 cF;generalize (bo bs (P.map Rl.e) 1).2=K1 at f1 hI;rw[AK]at f1 f2;clear Sq SV;try refine⟨BN _ _ _,?_⟩
 refine CallDo.tree d0 cF f1 rfl f2 ?_;have aM:¬K1<0:=Ω
 clear f1 f2 cF d0 hI;simp[aM,-lN];(with_reducible repeat' first|refine av ?_|refine aZ uN ?_|refine a1 uN ?_|simp[aM,-lN]);refine Q3 ⟨[(1,.ptr (.loc 0) 0),(4,.ptr (.loc 1) 0),(5,.bool B),(7,.ptr (.loc 5) 0),(8,.bool B),(10,.int .i64 1)],[(.loc 0,[.slice 7 (.lo cY) (P.map Rl.e)]),(.loc 1,[.slice 7 (.lo cY) (ts.map Rl.e)]),(.loc 5,[.slice 7 (.tr (.loc 4) 0) (ts.map Rl.e)])],[],102,[cY]⟩ 1000000 cW ?_ fun ε=>?_
 ·simp[Cb,rk,dO,ed,tn,tnL,Eu,Pv.look,cY]
 simp[ui,uh,vK,uI,jA,oB,bD,bC,tn,tnL,Pv.look,-lN];(with_reducible repeat' first|refine av ?_|simp[QU,-lN]);have GD:=hw 1 Ω;have f1:=RX (ts.map Rl.e) GX 1 1000000 ε Ω GD;have f3:=acU (ts.map Rl.e) GX 1 1000000 ε Ω GD;have d0:cr (.agg [.slice 7 .no (ts.map Rl.e)]):=by simp[cr,Pv.dtL,-lN]
 have d1:cr (.agg [.slice 7 .no (bo bs (ts.map Rl.e) 1).1]):=by simp only[cr,Pv.dtL,true_and,and_true];exact⟨Ω,pc _ _ _ Ψ⟩
 have f2:kinL (rng 1000000 (1000000+bV (.agg [.slice 7 .no (ts.map Rl.e)]))) [eB 1000000 (.agg [.slice 7 .no (ts.map Rl.e)]),.int .i64 1]:=⟨qh _ _ d0,by simp[Pv.kin],trivial⟩;have cF:bV (.agg [.slice 7 .no (bo bs (ts.map Rl.e) 1).1])=bV (.agg [.slice 7 .no (ts.map Rl.e)]):=by rw[FE,FE];exact rM (mA ..) (rN ..)
 have hI:1<=(bo bs (ts.map Rl.e) 1).2:=kh ..;have bB:eB 1000000 (.agg [.slice 7 .no (bo bs (ts.map Rl.e) 1).1])=eB 1000000 (.agg [.slice 7 .no (ts.map Rl.e)]):=by rw[AK,AK,AJ (mA ..)]
 have f4:=f2;rw[<-cF]at f4;rw[bB]at f3;obtain⟨Q,jb⟩:∃Q,Q=ae.agg [.slice 7 .no (bo bs (ts.map Rl.e) 1).1]:=⟨_,rfl⟩;rw[<-jb]at f1 f3 f4 d1 cF;generalize (bo bs (ts.map Rl.e) 1).2=K at f1 f3 hI;rw[AK]at f1 f2 f3 f4;clear jb hw bB GD;try refine⟨BN _ _ _,?_⟩
 refine CallDo.tree d0 cF f1 rfl f2 ?_;have da:¬K<0:=Ω
 clear f1 f2 cF d0 hI;simp[-lN];(with_reducible repeat' first|refine av ?_|simp[-lN]);try refine⟨BN _ _ _,?_⟩
 refine CallDo.tree d1 rfl f3 ?_ f4 ?_
 ·rfl
 simp[da,-lN];(with_reducible repeat' first|refine av ?_|refine aZ t1 ?_|refine a1 t1 ?_|refine aZ Lm ?_|refine a1 Lm ?_|refine aZ uN ?_|refine a1 uN ?_|simp[da,-lN]);try refine⟨BN _ _ _,?_⟩
 refine CallDo.tree d1 rfl f3 ?_ f4 ?_
 ·rfl
 simp[da,-lN];(with_reducible repeat' first|refine av ?_|simp[da,-lN]);simp[cn,VY,ba,bg,aT]
end
section
open Go Go.Pv Go.ChangeShapes Go.WideShapes Go.ChangeAt Go.RowKit Go.Deep
def qM(W:World):aQ:=⟨fun b o=> ∃u,W.cell? ⟨b,o,none⟩=some u,fun _=>none,fun _=>none,fun _ _ _=>dr⟩
theorem Up(W:World)(b:Nat):∀(us:List Value) (off:Nat),(∀i u,us[i]? =some u->W.cell? ⟨b,off+i,none⟩=some u)->kg W (qM W).A b off us
 |[],_,_=>trivial
 |u::us,off,h=>by
  have bz:W.cell? ⟨b,off,none⟩=some u:=by simpa using h 0 u rfl
  exact⟨⟨⟨u,bz⟩,bz⟩,Up W b us (off+1) fun i eJ hu=>by have:=h (i+1) eJ (by simpa using hu);rwa[show off+(i+1)=off+1+i from by omega]at this⟩
section
variable {H:Type} {enc:fX×Value->H} {W:World} {spare:Nat->Bool} {held:Bool}
def vj(W:World)(p:ae)(cs:List Value):Prop:= ∃v:Value,v.cells.toList=cs/\aJ W (qM W) p v/\∀c∈cs,c.oneCell'=true
theorem EF{W:World}{bj:List ae}{cs:List Value}(h:ck W (qM W) bj cs):vj W (.agg bj) cs:=by
 refine⟨.agg cs.toArray,by simp[nO],by simp only[aJ];exact⟨cs.toArray,rfl,by simpa using h⟩,?_⟩;have:∀(bj:List ae) (cs:List Value),ck W (qM W) bj cs->∀c∈cs,c.oneCell'=true:=by
  intro bj;induction bj with
  |nil=>intro cs h;simp only[ck]at h;subst h;simp
  |cons p bj aX=>
   intro cs h c aH;simp only[ck]at h;obtain⟨u,us,rfl,I,J⟩:=h;rcases gy.1 aH with rfl|aH
   ·exact I.2
   ·exact aX us J c aH
 exact this bj cs h
def HP(W:World)(p:ae)(v:Value):Prop:=aJ W (qM W) p v/\v.oneCell'=true/\v.cells= #[v]
theorem Zf{W:World}{yP yR k j:Nat}:W.cell? (((⟨yP,yR,none⟩:Addr).add k).add j)=W.cell? ⟨yP,yR+(k+j),none⟩:=by rw[add_add,Addr.add_lit]
theorem If{α:Type}{t e:fX}{sz:Nat}(f:α->ae)(Q:α->Prop)(aE:aF.underlying t=some (.slice e))(aH:aF.cellsOf e=sz)(dz:0<sz){fuel:Nat}
  (A9:∀n cs x,n<fuel->lK enc aF W 0 spare held n e cs=some x->∃a:α,Q a/\vj W (f a) cs)
  {cs:List Value} {x:DataW H×List MemPlace} (h:lK enc aF W 0 spare held fuel t cs=some x):∃l:eF α,l.wf Q/\∃v,cs=[v]/\HP W (l.e sz f) v:=by
 rcases DataW.trod_slice aE h with⟨rfl,_⟩|⟨a,len,cap,elems,rest,n,rfl,rfl,_,_,aD,hm,hlen,SI,_,_⟩
 ·refine⟨.l [],by simp[eF.wf],_,rfl,?_,rfl,rfl⟩;simp only[eF.e,List.map_nil,aJ];exact⟨⟨none,0,rfl,Ψ,⟨by simp[maxLen],by simp[aR]⟩,.inl Ψ⟩,fun e=>(by cases e),fun g e=>(by cases e),fun _ _ e=>(by cases e),fun _ e=>(by cases e)⟩
 by_cases Dj:aR<len
 ·refine⟨.b (some a) len cap,⟨Dj,by unfold maxLen at hm;omega⟩,_,rfl,?_,rfl,rfl⟩;simp only[eF.e,aJ]
 rcases Nat.eq_zero_or_pos len with rfl|hp
 ·refine⟨.l [],by simp[eF.wf],_,rfl,?_,rfl,rfl⟩;simp only[eF.e,List.map_nil,aJ];exact⟨⟨some a,cap,rfl,Ψ,⟨hm,by simp[aR]⟩,.inl Ψ⟩,fun e=>(by cases e),fun g e=>(by cases e),fun _ _ e=>(by cases e),fun _ e=>(by cases e)⟩
 rw[aH]at SI;have mo:∀i,i<len->∃cs',cs'.length=sz/\(∀j,j<sz->W.cell? ((a.add (i*sz)).add j)=cs'[j]?)/\∃b:α,Q b/\vj W (f b) cs':=by intro i aw;have I:=SI i aw;rw[cL Ω]at I;obtain⟨cs',J,au⟩:=Option.bind_eq_some_iff.1 I;obtain⟨_,aP,bA⟩:=World.cells?_some J;exact⟨cs',aP,bA,A9 n cs' _ Ω au⟩
 obtain⟨yP,yR,spot⟩:=a;have ae2:spot=none:=by obtain⟨cs',I,J,_⟩:=mo 0 hp;have au:=J 0 dz;rw[cL Ω]at au;simpa[Addr.add]using World.cell?_spot au
 subst ae2;have Zn:∀d,d<=len->∃xs:List α,xs.length=d/\(∀x∈xs,Q x)/\∃us:List Value,us.length=d*sz/\cV W (qM W) sz (xs.map f) us/\∀j u,us[j]? =some u->W.cell? ⟨yP,yR+((len-d)*sz+j),none⟩=some u:=by
  intro d;induction d with
  |zero=>intro _;exact⟨[],rfl,Ψ,[],Ψ,by simp[cV],Ψ⟩
  |succ d aX=>
   intro aI;obtain⟨xs,ao,aL,us,bB,b9,ee⟩:=aX Ω;obtain⟨cs',cF,c2,b,ah,v,v1,v2,v3⟩:=mo (len-(d+1)) Ω;have hmul:(len-d)*sz=(len-(d+1))*sz+sz:=by rw[show len-d=(len-(d+1))+1 from by omega,Nat.succ_mul]
   refine⟨b::xs,by simp[ao],fun x af=>?_,cs'++us,by rw[gx,cF,bB,Nat.succ_mul];omega,?_,fun j u ai=>?_⟩
   ·rcases gy.1 af with rfl|af
    ·exact ah
    ·exact aL x af
   ·simp only[fF,cV];exact⟨v,us,by rw[v1],⟨v2,by rw[<-cF,<-v1];simp,by rw[v1];exact v3⟩,b9⟩
   ·rcases mc j sz with b5|je
    ·rw[qB Ω]at ai;have:=c2 j b5;rw[Zf]at this;rw[this];exact ai
    ·rw[List.getElem?_append_right Ω,cF]at ai;have:=ee (j-sz) u ai;rwa[show(len-d)*sz+(j-sz)=(len-(d+1))*sz+j from by omega]at this
 obtain⟨xs,ao,aL,us,bB,b9,ee⟩:=Zn len (cc _);refine⟨.l xs,aL,_,rfl,?_,rfl,rfl⟩;simp only[eF.e,aJ];refine⟨⟨some ⟨yP,yR,none⟩,cap,by rw[nh,ao],by rw[nh,ao];exact aD,⟨hm,by rw[nh,ao];omega⟩,.inr ⟨yP,yR,us,rfl,Up W yP us yR fun i u hu=>?_,b9⟩⟩,fun e=>(by cases e),fun g e=>(by cases e),fun _ _ e=>(by cases e),fun _ e=>(by cases e)⟩;have:=ee i u hu;simpa using this
end
end
section
open Go Go.Pv Go.ChangeShapes Go.WideShapes Go.ChangeAt Go.RowKit Go.Deep
section
variable {H:Type} {enc:fX×Value->H} {W:World} {spare:Nat->Bool} {held:Bool} {cs:List Value} {x:DataW H×List MemPlace} {fuel:Nat}
theorem Jt:aF.cellsOf 3=1:=by kernel_rfl
theorem Ju:aF.cellsOf 9=1:=by kernel_rfl
theorem Jv:aF.cellsOf 282=4:=by kernel_rfl
theorem Qq:aF.cellsOf 167=1:=by kernel_rfl
theorem D3(h:lK enc aF W 0 spare held fuel 3 cs=some x):∃(n:Int) (v:Value),cs=[v]/\HP W (.int .i64 n) v:=by obtain⟨n,rfl,_,_⟩:=DataW.trod_int Tryz.underlying3 h;exact⟨n,_,rfl,by simp only[aJ],rfl,rfl⟩
theorem NF(h:lK enc aF W 0 spare held fuel 9 cs=some x):∃(s:fG) (v:Value),s.wf/\cs=[v]/\HP W s.e v:=by
 obtain⟨s,rfl,_,hm⟩:=DataW.trod_string Tryz.underlying9 h;by_cases az:aR<s.size
 ·exact⟨.b s,_,⟨az,by unfold maxLen at hm;omega⟩,rfl,by simp only[fG.e,aJ],rfl,rfl⟩
 ·refine⟨.s s.data.toList,_,trivial,rfl,?_,rfl,rfl⟩;simp only[fG.e,aJ];refine⟨Ψ,?_⟩;have:s.data.toList.length=s.size:=rfl;omega
theorem Ut{α:Type}:∀{cs:List α},cs.length=4->∃a b c d,cs=[a,b,c,d]
 |[a,b,c,d],_=>⟨a,b,c,d,rfl⟩
theorem akb:∀(fuel:Nat) (cs:List Value) (x:DataW H×List MemPlace),lK enc aF W 0 spare held fuel 282 cs=some x->∃t:bX,t.wf/\ck W (qM W) [.int .i64 t.kind,.int .i64 t.num,t.name.e,t.args.e 4 bX.e] cs:=by
 intro fuel;induction fuel using Nat.strongRecOn with
 |ind fuel aX=>
  intro cs x h;obtain⟨xs,n,rfl,_,hlen,lf,aK⟩:=DataW.trod_struct Tryz.underlying282 h;rw[Jv]at hlen;obtain⟨c0,cF,c2,c3,rfl⟩:=Ut hlen;have Li:xs.length=4:=lf;have f0:lK enc aF W 0 spare held n 3 (([c0,cF,c2,c3].drop 0).take (aF.cellsOf 3))=xs[0]?:=aK 0 _ rfl;have f1:lK enc aF W 0 spare held n 3 (([c0,cF,c2,c3].drop 1).take (aF.cellsOf 3))=xs[1]?:=aK 1 _ rfl;have f2:lK enc aF W 0 spare held n 9 (([c0,cF,c2,c3].drop 2).take (aF.cellsOf 9))=xs[2]?:=aK 2 _ rfl;have f3:lK enc aF W 0 spare held n 167 (([c0,cF,c2,c3].drop 3).take (aF.cellsOf 167))=xs[3]?:=aK 3 _ rfl;simp only[Jt,Ju,Qq,List.drop,List.take]at f0 f1 f2 f3;rw[cL Ω]at f0 f1 f2 f3;obtain⟨k,v0,kq,kE⟩:=D3 f0;obtain⟨m,v1,ao,eZ⟩:=D3 f1;obtain⟨s,v2,Ae,aL,ey⟩:=NF f2;obtain⟨l,vz,v3,bB,jg⟩:=If bX.e bX.wf Tryz.underlying167 Jv Ω (fun n' cs' qz aM cu=>by obtain⟨t,t1,t2⟩:=aX n' Ω cs' qz cu;exact⟨t,t1,by rw[bX.e_eq];exact EF t2⟩) f3
  simp only[sH,and_true]at kq ao aL bB;subst kq ao aL bB;cases l with
  |l a=>
   refine⟨.mk k m s a,?_,?_⟩
   ·simp only[bX.wf,bX.wfL_iff];exact⟨Ae,vz⟩
   ·simp only[ck,bX.kind,bX.num,bX.name,bX.args];exact⟨_,_,rfl,⟨kE.1,kE.2.1⟩,_,_,rfl,⟨eZ.1,eZ.2.1⟩,_,_,rfl,⟨ey.1,ey.2.1⟩,_,_,rfl,⟨jg.1,jg.2.1⟩,rfl⟩
  |b p c6 c=>
   refine⟨.big k m s p c6 c,?_,?_⟩
   ·simp only[bX.wf];exact⟨Ae,vz⟩
   ·simp only[ck,bX.kind,bX.num,bX.name,bX.args];exact⟨_,_,rfl,⟨kE.1,kE.2.1⟩,_,_,rfl,⟨eZ.1,eZ.2.1⟩,_,_,rfl,⟨ey.1,ey.2.1⟩,_,_,rfl,⟨jg.1,jg.2.1⟩,rfl⟩
end
end
section
open Go Go.Pv Go.ChangeShapes Go.WideShapes Go.ChangeAt Go.RowKit
theorem aji:ownKnob aF.godebug=none:=by kernel_rfl
theorem ajh:laidOutB aF=true:=by kernel_rfl
def ac9(b o:Nat):Prop:= ∃x∈xF,x.1=b/\x.2.1=o
def C8(w:World):Prop:= ∀x∈xF,(∃v,w.cell? ⟨x.1,x.2.1,none⟩=some v/\x.2.2.2 v)/\∃el,Pv.shape w x.1=some (x.2.2.1,el)
theorem C8.gl{w:World}(h:C8 w){ν:aQ}(bf:∀b o,ac9 b o->ν.A b o):oZ w ν:=fun x af=>⟨bf _ _ ⟨x,af,rfl,rfl⟩,h x af⟩
theorem Oe{w:World}{n:String}{g:Nat}{cs:Array Value}(aS:aF.globalNamed n=some g)(h:w.var? aF n=some cs):∃el,Pv.shape w g=some (cs.size,el):=by
 simp only[World.var?,aS,Option.bind_some]at h;unfold Pv.shape;split at h
 ·rename_i c t fz e;cases h;rw[e];exact⟨_,rfl⟩
 ·cases h
theorem ada{w:World}(aE:Lib.TabIs aF w "internal/strconv.uint64pow10" .u64 Lib.pow10Tab)(az:∃u v,w.var? aF "strconv.ErrSyntax" =some #[.iface u v])(hr:∃u v,w.var? aF "strconv.ErrRange" =some #[.iface u v]):C8 w:=by
 have xC:aF.globalNamed "internal/strconv.uint64pow10" =some 0:=by kernel_rfl
 have g1:aF.globalNamed "strconv.ErrSyntax" =some 1:=by kernel_rfl
 have g2:aF.globalNamed "strconv.ErrRange" =some 2:=by kernel_rfl
 obtain⟨iK,v1,I⟩:=az;obtain⟨h9,v2,J⟩:=hr;intro x af;unfold xF at af;rcases hl.1 af with af|af
 ·obtain⟨i,aw,rfl⟩:=nj.1 af;have aw:=List.mem_range.1 aw;refine⟨⟨_,aE.cell xC i (by simpa[Lib.pow10Tab]using aw),?_⟩,?_⟩
  ·show oV .u64 _=_;rw[Lib.pow10Tab_at i aw]
  ·obtain⟨el,h⟩:=Oe xC aE;exact⟨el,by simpa[Lib.pow10Tab]using h⟩
 ·simp only[gy,List.not_mem_nil,or_false]at af;rcases af with rfl|rfl
  ·refine⟨⟨.iface iK v1,by simpa using World.var?_cell g1 I 0,_,_,rfl⟩,?_⟩;obtain⟨el,h⟩:=Oe g1 I;exact⟨el,by simpa using h⟩
  ·refine⟨⟨.iface h9 v2,by simpa using World.var?_cell g2 J 0,_,_,rfl⟩,?_⟩;obtain⟨el,h⟩:=Oe g2 J;exact⟨el,by simpa using h⟩
theorem Ur{n nm:String}{d:DataW Unit}{r:List (String×DataW Unit)}{W:World}{g:Nat}{e6:fX}{ms:Array (String×fX)}(h:laidMet aF ((n,.iface nm d)::r) W)
  (aS:aF.globalNamed n=some g) (aE:(aF.globals[g]?).map (·.type)=some e6) (aw:aF.underlying e6=some (.interface ms)):∃u v,W.var? aF n=some #[.iface u v]:=by
 obtain⟨bj,⟨xC,t0,Z2,f0,iv,MK,aee,ae8,GR,oF,_,kq⟩,_,_⟩:=h;obtain rfl:=gB (aS.symm.trans aee);obtain rfl:=gB (aE.symm.trans ae8);obtain⟨LS⟩:=Z2;obtain⟨_,u,v,aH,_,_⟩:=iface_of_trod aw oF;simp only at aH;subst aH;exact⟨u,v,GR⟩
theorem Bu(w:World)(A:Nat->Nat->Prop)(b:Nat):∀(us:List Value) (off:Nat),(∀i u,us[i]? =some u->A b (off+i)/\w.cell? ⟨b,off+i,none⟩=some u)->kg w A b off us
 |[],_,_=>trivial
 |u::us,off,h=>⟨by simpa using h 0 u rfl,Bu w A b us (off+1) fun i eJ hu=>by have:=h (i+1) eJ (by simpa using hu);rwa[show off+(i+1)=off+1+i from by omega]at this⟩
theorem Y7{f:FuncId}{fn:Func}(xP:aF.funcs[f]? =some fn)(aaf:∀args w,(callFunc f args).run aF w= .ok (.enter f args) w){w:World}{ν:aQ}{args:List ae}{vs:Array Value}(gl:oZ w ν)(h:bW aF f args (.bool true))(aE:∀k j b,¬ν.tr k j b)(bf:∀b o,ν.A b o->b<w.heap.size)(ah:∀k,ν.bx k=none)(aq:∀k,ν.ow k=none)(hr:cz w ν args vs.toList):
  Calls aF f vs w fun e w'=>e= .returned (.bool true)/\Below w.heap.size w w':=by
 have aS:Pv.Good (fY ν ⟨[],[]⟩) w ν [] []:=⟨bf,fun k cs ab=>by simp[Pv.look]at ab,fun k bn bl I=>by simp[Pv.look]at I,fun g o ab=>by simp[Pv.look]at ab,fun g et n n' v v' bl I=>by simp[Pv.look]at I,fun g k n v bl I=>by simp[Pv.look]at I,fun k=>.inl (ah k),fun _ _ k j=>aE k j _⟩;rcases h w ν vs gl aS (fun k=>⟨fun _=>ah k,fun _=>aq k,aE k⟩) hr with⟨_,aH⟩|⟨v,w',aH,_⟩
 ·refine aH.mono ?_;rintro e w' ⟨v,r,al,ν',rfl,⟨rfl,rfl⟩,kd,_,_,_,ka⟩;simp only[aJ]at kd;subst kd;refine⟨rfl,ka.os,ka.tape,ka.output,ka.size,fun k ab=>ka.block k ab ?_⟩;simp[fY,Pv.look]
 ·rw[aaf]at aH;cases aH
theorem aak{W:World}{b o:Nat}(h:(qM W).A b o):b<W.heap.size:=by
 obtain⟨u,hu⟩:=h;rcases mc b W.heap.size with h|h
 ·exact h
 ·simp[World.cell?,Array.getElem?_eq_none h]at hu
theorem aaj{W:World}(h:C8 W):oZ W (qM W):=h.gl fun b o aS=>by obtain⟨x,af,rfl,rfl⟩:=aS;obtain⟨⟨v,aN,_⟩,_⟩:=h x af;exact⟨v,aN⟩
end
section
open Go Go.Pv Go.ChangeShapes Go.WideShapes Go.ChangeAt Go.RowKit Go.Deep
section
variable {H:Type} {enc:fX×Value->H} {W:World} {spare:Nat->Bool} {held:Bool} {cs:List Value} {x:DataW H×List MemPlace} {fuel:Nat}
theorem Js:aF.cellsOf 170=4:=by kernel_rfl
theorem Zk:aF.cellsOf 168=1:=by kernel_rfl
theorem akc(h:lK enc aF W 0 spare held fuel 167 cs=some x):∃d:eF bX,Ck d/\∃v,cs=[v]/\HP W (hN d) v:=If bX.e bX.wf Tryz.underlying167 Jv Ω (fun n' cs' qz _ cu=>by obtain⟨t,t1,t2⟩:=akb n' cs' qz cu;exact⟨t,t1,by rw[bX.e_eq];exact EF t2⟩) h
theorem ado:∀(fuel:Nat) (cs:List Value) (x:DataW H×List MemPlace),lK enc aF W 0 spare held fuel 170 cs=some x->∃t:cd,t.wf/\ck W (qM W) [.int .i64 t.kind,t.name.e,hN t.ts,rS t.gs] cs:=by
 intro fuel;induction fuel using Nat.strongRecOn with
 |ind fuel aX=>
  intro cs x h;obtain⟨xs,n,rfl,_,hlen,lf,aK⟩:=DataW.trod_struct Tryz.underlying170 h;rw[Js]at hlen;obtain⟨c0,cF,c2,c3,rfl⟩:=Ut hlen;have Li:xs.length=4:=lf;have f0:lK enc aF W 0 spare held n 3 (([c0,cF,c2,c3].drop 0).take (aF.cellsOf 3))=xs[0]?:=aK 0 _ rfl;have f1:lK enc aF W 0 spare held n 9 (([c0,cF,c2,c3].drop 1).take (aF.cellsOf 9))=xs[1]?:=aK 1 _ rfl;have f2:lK enc aF W 0 spare held n 167 (([c0,cF,c2,c3].drop 2).take (aF.cellsOf 167))=xs[2]?:=aK 2 _ rfl;have f3:lK enc aF W 0 spare held n 168 (([c0,cF,c2,c3].drop 3).take (aF.cellsOf 168))=xs[3]?:=aK 3 _ rfl;simp only[Jt,Ju,Qq,Zk,List.drop,List.take]at f0 f1 f2 f3;rw[cL Ω]at f0 f1 f2 f3;obtain⟨k,v0,kq,kE⟩:=D3 f0;obtain⟨s,v1,Cj,ao,eZ⟩:=NF f1;obtain⟨d,Ae,v2,aL,ey⟩:=akc f2;obtain⟨l,vz,v3,bB,jg⟩:=If cd.e cd.wf Tryz.underlying168 Js Ω (fun n' cs' qz aM cu=>by obtain⟨t,t1,t2⟩:=aX n' Ω cs' qz cu;exact⟨t,t1,by rw[cd.e_eq];exact EF t2⟩) f3
  simp only[sH,and_true]at kq ao aL bB;subst kq ao aL bB;cases l with
  |l a=>
   refine⟨.mk k s d a,?_,?_⟩
   ·simp only[cd.wf,cd.wfL_iff];exact⟨⟨Cj,Ae⟩,vz⟩
   ·simp only[ck,cd.kind,cd.name,cd.ts,cd.gs,rS];exact⟨_,_,rfl,⟨kE.1,kE.2.1⟩,_,_,rfl,⟨eZ.1,eZ.2.1⟩,_,_,rfl,⟨ey.1,ey.2.1⟩,_,_,rfl,⟨jg.1,jg.2.1⟩,rfl⟩
  |b p c6 c=>
   refine⟨.big k s d p c6 c,?_,?_⟩
   ·simp only[cd.wf];exact⟨⟨Cj,Ae⟩,vz⟩
   ·simp only[ck,cd.kind,cd.name,cd.ts,cd.gs,rS];exact⟨_,_,rfl,⟨kE.1,kE.2.1⟩,_,_,rfl,⟨eZ.1,eZ.2.1⟩,_,_,rfl,⟨ey.1,ey.2.1⟩,_,_,rfl,⟨jg.1,jg.2.1⟩,rfl⟩
theorem af6{α:Type}:∀{cs:List α},cs.length=7->∃a b c d e f g,cs=[a,b,c,d,e,f,g]
 |[a,b,c,d,e,f,g],_=>⟨a,b,c,d,e,f,g,rfl⟩
theorem Qp:aF.cellsOf 222=7:=by kernel_rfl
theorem Zm:aF.cellsOf 90=1:=by kernel_rfl
theorem Zl:aF.cellsOf 92=1:=by kernel_rfl
theorem af7{α:Type}:∀{cs:List α},cs.length=1->∃a,cs=[a]
 |[a],_=>⟨a,rfl⟩
theorem ai4(h:lK enc aF W 0 spare held fuel 222 cs=some x):∃b:gZ,(b.name.wf/\b.g.wf)/\vj W b.e cs:=by obtain⟨xs,n,rfl,_,hlen,lf,aK⟩:=DataW.trod_struct Tryz.underlying222 h;rw[Qp]at hlen;obtain⟨c0,cF,c2,c3,c4,c5,j8,rfl⟩:=af6 hlen;have Li:xs.length=4:=lf;have f0:lK enc aF W 0 spare held n 9 (([c0,cF,c2,c3,c4,c5,j8].drop 0).take (aF.cellsOf 9))=xs[0]?:=aK 0 _ rfl;have f1:lK enc aF W 0 spare held n 3 (([c0,cF,c2,c3,c4,c5,j8].drop 1).take (aF.cellsOf 3))=xs[1]?:=aK 1 _ rfl;have f2:lK enc aF W 0 spare held n 3 (([c0,cF,c2,c3,c4,c5,j8].drop 2).take (aF.cellsOf 3))=xs[2]?:=aK 2 _ rfl;have f3:lK enc aF W 0 spare held n 170 (([c0,cF,c2,c3,c4,c5,j8].drop 3).take (aF.cellsOf 170))=xs[3]?:=aK 3 _ rfl;simp only[Jt,Ju,Js,List.drop,List.take]at f0 f1 f2 f3;rw[cL Ω]at f0 f1 f2 f3;obtain⟨s,v0,w0,kq,kE⟩:=NF f0;obtain⟨cD,v1,ao,eZ⟩:=D3 f1;obtain⟨dI,v2,aL,ey⟩:=D3 f2;obtain⟨t,vz,jg⟩:=ado _ _ _ f3;simp only[sH,and_true]at kq ao aL;subst kq ao aL;refine⟨⟨s,cD,dI,t⟩,⟨w0,vz⟩,EF ?_⟩;rw[ck];refine⟨_,_,rfl,⟨kE.1,kE.2.1⟩,?_⟩;rw[ck];refine⟨_,_,rfl,⟨eZ.1,eZ.2.1⟩,?_⟩;rw[ck];exact⟨_,_,rfl,⟨ey.1,ey.2.1⟩,jg⟩
theorem aid(h:lK enc aF W 0 spare held fuel 92 cs=some x):∃d:eF gZ,Fb d/\vj W (yk d) cs:=by obtain⟨xs,n,rfl,_,hlen,lf,aK⟩:=DataW.trod_struct Tryz.underlying92 h;rw[Zl]at hlen;obtain⟨c0,rfl⟩:=af7 hlen;have Li:xs.length=1:=lf;have f0:lK enc aF W 0 spare held n 90 (([c0].drop 0).take (aF.cellsOf 90))=xs[0]?:=aK 0 _ rfl;simp only[Zm,List.drop,List.take]at f0;rw[cL Ω]at f0;obtain⟨d0,w0,v0,kq,kE⟩:=If gZ.e (fun b=>b.name.wf/\b.g.wf) Tryz.underlying90 Qp Ω (fun _ _ _ _ cu=>ai4 cu) f0;simp only[sH,and_true]at kq;subst kq;refine⟨d0,w0,EF ?_⟩;simp only[ck];exact⟨_,_,rfl,⟨kE.1,kE.2.1⟩,rfl⟩
end
theorem ai2{W:World}{bj:List ae}{us:Array Value}(h:vj W (.agg bj) us.toList):aJ W (qM W) (.agg bj) (.agg us):=by
 obtain⟨v,I,J,_⟩:=h;have au:=J;simp only[aJ]at au;obtain⟨ws,rfl,_⟩:=au;have:ws=us:=by
  have:ws.toList=us.toList:=by simpa[nO]using I
  exact Array.toList_inj.1 this
 rw[<-this];exact J
theorem aic{H:Type}{enc:fX×Value->H}{W:World}{spare:Nat->Bool}{held:Bool}{us:Array Value}{x:DataW H×List MemPlace}{fuel:Nat}(h:lK enc aF W 0 spare held fuel 92 us.toList=some x):∃d:eF gZ,Fb d/\aJ W (qM W) (yk d) (.agg us):=by obtain⟨d,aI,du⟩:=aid h;exact⟨d,aI,ai2 du⟩
end
end Go.Proofs.YtlnndmgfngfeiaaGreatDoor
