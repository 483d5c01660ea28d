/- Calls that work in the caller's own state: the callee's code is run on it. -/
import Derived.Test.YtlnndmgfngfeiaaGreatDoorProg
import Derived.Lib.ItoaNum
import Derived.Lib.AtoiAll
import Derived.Shelf.Sort.Plain
import Derived.Ground.NamesProg
import Derived.Sort.OwnSortedInts
import Derived.Lib.OwnBridge
import Derived.Test.YtlnndmgfngfeiaaGreatDoorZ4
set_option linter.all false
set_option maxHeartbeats 4000000
set_option maxRecDepth 4000
open Bool renaming and_eq_true->bB,false_eq_true->iR,true_and->mD
open Go.Proofs.Tryz renaming prog->aP
open Go.Value renaming cells->l1,int->mE
open List renaming all_eq_true->gC,append_assoc->l2,cons_append->iT,eq_nil_of_length_eq_zero->l3,getElem?_eq_getElem->bO,getElem?_eq_some_iff->cX,getElem?_map->oG,getElem?_of_mem->l4,length_nil->nj,length_pos_iff->re,length_take->pt,map_cons->eQ,mem_append->iG,mem_cons->gH,mem_map->pv,mem_of_getElem?->eR,nodup_append->ss,take_add_one->jw,take_length->jl,take_of_length_le->pw,take_succ_cons->pz
open List.Nodup renaming length_le_of_subset->ag0
open List.Pairwise renaming imp_of_mem->alh,map->ali
open List.Perm renaming eq_of_pairwise->alj
open List.cons renaming injEq->AB
open Nat renaming le_refl->da,lt_or_ge->hS
open Option renaming map_eq_some_iff->hT,map_some->su
open Option.some renaming inj->dZ,injEq->dL
open Prod.mk renaming injEq->gp
open UInt8 renaming ofNat->pA
open _root_ renaming Option->be,UInt8->aF,beq_eq_false_iff_ne->jL,congrArg->fT,decide_eq_false->ly,decide_eq_true->k2,decide_eq_true_eq->ef,if_neg->bf,if_pos->bN
namespace Go.Proofs.YtlnndmgfngfeiaaGreatDoor
section
open Go Go.Pv
def u1:List ba->Bool
 |[a,b]=>fx a&&fx b
 |_=>false
theorem afB(k n:Int)(s:List aF)(args:List ba):fx ⟨k,n,s,args⟩=if k≠1/\k≠3/\n≠0 then false else if k≠2/\s≠[]then false else if k≠4/\args≠[]then false else if k=0 then true else if k=1 then decide (0<=n/\n<=100000)else if k=2 then gM s else if k=3 then decide (-1000000000<=n/\n<=1000000000)else if k=4 then u1 args else false:=by
 by_cases gN:k=0
 ·subst gN;match args with
  |[]=>by_cases aK:n=0<;>by_cases ao:s=[]<;>simp[fx,kT,aK,ao]
  |[a]=>simp[fx]
  |[a,b]=>simp[fx]
  |_::_::_::_=>simp[fx]
 by_cases dh:k=1
 ·subst dh;match args with
  |[]=>by_cases ao:s=[]<;>simp[fx,kT,ao]
  |[a]=>simp[fx]
  |[a,b]=>simp[fx]
  |_::_::_::_=>simp[fx]
 by_cases ed:k=2
 ·subst ed;match args with
  |[]=>by_cases aK:n=0<;>simp[fx,kT,aK]
  |[a]=>simp[fx]
  |[a,b]=>simp[fx]
  |_::_::_::_=>simp[fx]
 by_cases hO:k=3
 ·subst hO;match args with
  |[]=>by_cases ao:s=[]<;>simp[fx,kT,ao]
  |[a]=>simp[fx]
  |[a,b]=>simp[fx]
  |_::_::_::_=>simp[fx]
 by_cases kS:k=4
 ·subst kS;match args with
  |[]=>simp[fx,kT,u1]
  |[a]=>simp[fx,u1]
  |[a,b]=>by_cases aK:n=0<;>by_cases ao:s=[]<;>simp[fx,u1,aK,ao]
  |_::_::_::_=>simp[fx,u1]
 ·match args with
  |[]=>simp[fx,kT,gN,dh,ed,hO,kS]
  |[a]=>simp[fx,gN,dh,ed,hO,kS]
  |[a,b]=>simp[fx,gN,dh,ed,hO,kS]
  |_::_::_::_=>simp[fx,gN,dh,ed,hO,kS]
set_option maxRecDepth 8000 in
theorem LB(m:Nat):∀(t:ba),t.sz<=m->cg aP 270 [enc t] (.bool (fx t)):=by
 induction m with
 |zero=>intro t aI;cases t;simp[ba.sz]at aI
 |succ m a8=>
 rintro⟨k,n,s,args⟩ aI;generalize bh:fx ⟨k,n,s,args⟩=R;have cN:=afB k n s args;rw[bh]at cN;by_cases bQ:k≠1/\k≠3/\n≠0
 ·rw[bN bQ]at cN;obtain⟨dh,hO,n0⟩:=bQ;have zA:(k !=1)=true:=by simp[dh]
  have zB:(k !=3)=true:=by simp[hO]
  have JY:(n !=0)=true:=by simp[n0]
  subst cN;refine bJ iQ me mx fun aG=>?_;unfold lD;simp[ba.kind,ba.num,ba.name,ba.args];(with_reducible repeat' first|refine aA ?_|refine aX (ee _ _ _) ?_|refine aY (ee _ _ _) ?_|refine aX (gP _) ?_|refine aY (gP _) ?_|simp[zA,zB,JY]);all_goals simp[b1,ls,bn,bp,bk]
 rw[bf bQ]at cN;have yP:(if k !=1 then k !=3 else false)=true->(n !=0)=false:=by intro h;simp at h⊢;exact Classical.byContradiction fun aK=>bQ ⟨h.1,h.2,aK⟩
 by_cases b3:k≠2/\s≠[]
 ·rw[bN b3]at cN;have Fo:(k !=2)=true:=by simp[b3.1]
  have K2:s.isEmpty=false:=by simp[b3.2]
  by_cases dh:k=1
  ·subst dh;subst cN;refine bJ iQ me mx fun aG=>?_;unfold lD;simp[ba.kind,ba.num,ba.name,ba.args];(with_reducible repeat' first|refine aA ?_|refine aX (ee _ _ _) ?_|refine aY (ee _ _ _) ?_|refine aX (gP _) ?_|refine aY (gP _) ?_|simp[K2]);all_goals simp[b1,ls,bn,bp,bk]
  by_cases hO:k=3
  ·subst hO;subst cN;refine bJ iQ me mx fun aG=>?_;unfold lD;simp[ba.kind,ba.num,ba.name,ba.args];(with_reducible repeat' first|refine aA ?_|refine aX (ee _ _ _) ?_|refine aY (ee _ _ _) ?_|refine aX (gP _) ?_|refine aY (gP _) ?_|simp[K2]);all_goals simp[b1,ls,bn,bp,bk]
  have zA:(k !=1)=true:=by simp[dh]
  have zB:(k !=3)=true:=by simp[hO]
  have JY:(n !=0)=false:=yP (by simp[dh,hO]);subst cN;refine bJ iQ me mx fun aG=>?_;unfold lD;simp[ba.kind,ba.num,ba.name,ba.args];(with_reducible repeat' first|refine aA ?_|refine aX (ee _ _ _) ?_|refine aY (ee _ _ _) ?_|refine aX (gP _) ?_|refine aY (gP _) ?_|simp[zA,zB,JY,Fo,K2]);all_goals simp[b1,ls,bn,bp,bk]
 rw[bf b3]at cN;by_cases gN:k=0
 ·subst gN;have n0:n=0:=by simpa using yP (by decide)
  have uZ:s=[]:=Classical.byContradiction fun h=>b3 ⟨Ω,h⟩;subst n0 uZ;by_cases a0:args=[];rotate_left
  ·rw[bN ⟨Ω,a0⟩]at cN;have tJ:(0:Int)<args.length:=by have:=re.2 a0;omega
   subst cN;refine bJ iQ me mx fun aG=>?_;unfold lD;simp[ba.kind,ba.num,ba.name,ba.args];((with_reducible repeat' first|refine aA ?_|refine aX (ee _ _ _) ?_|refine aY (ee _ _ _) ?_|refine aX (gP _) ?_|refine aY (gP _) ?_|simp[Int.natCast_nonneg,tJ]|((first|apply cu|apply cw|apply cv)<;>intro h<;>try simp at h))<;>(try exact cK));all_goals simp[b1,ls,bn,bp,bk]
  rw[bf (by simp[a0])]at cN;subst a0;simp at cN;subst cN;refine bJ iQ me mx fun aG=>?_;unfold lD;simp[ba.kind,ba.num,ba.name,ba.args];(with_reducible repeat' first|refine aA ?_|refine aX (ee _ _ _) ?_|refine aY (ee _ _ _) ?_|refine aX (gP _) ?_|refine aY (gP _) ?_|simp[Int.natCast_nonneg]);all_goals simp[b1,ls,bn,bp,bk]
 by_cases dh:k=1
 ·subst dh;have uZ:s=[]:=Classical.byContradiction fun h=>b3 ⟨Ω,h⟩;subst uZ;by_cases a0:args=[];rotate_left
  ·rw[bN ⟨Ω,a0⟩]at cN;have tJ:(0:Int)<args.length:=by have:=re.2 a0;omega
   subst cN;refine bJ iQ me mx fun aG=>?_;unfold lD;simp[ba.kind,ba.num,ba.name,ba.args];((with_reducible repeat' first|refine aA ?_|refine aX (ee _ _ _) ?_|refine aY (ee _ _ _) ?_|refine aX (gP _) ?_|refine aY (gP _) ?_|simp[Int.natCast_nonneg,tJ]|((first|apply cu|apply cw|apply cv)<;>intro h<;>try simp at h))<;>(try exact cK));all_goals simp[b1,ls,bn,bp,bk]
  rw[bf (by simp[a0])]at cN;subst a0;simp at cN;subst cN;refine bJ iQ me mx fun aG=>?_;unfold lD;simp[ba.kind,ba.num,ba.name,ba.args];(with_reducible repeat' first|refine aA ?_|refine aX (ee _ _ _) ?_|refine aY (ee _ _ _) ?_|refine aX (gP _) ?_|refine aY (gP _) ?_|simp[Int.natCast_nonneg]);all_goals simp[b1,ls,bn,bp,bk]
 by_cases ed:k=2
 ·subst ed;have n0:n=0:=by simpa using yP (by decide)
  subst n0;by_cases a0:args=[];rotate_left
  ·rw[bN ⟨Ω,a0⟩]at cN;have tJ:(0:Int)<args.length:=by have:=re.2 a0;omega
   subst cN;refine bJ iQ me mx fun aG=>?_;unfold lD;simp[ba.kind,ba.num,ba.name,ba.args];((with_reducible repeat' first|refine aA ?_|refine aX (ee _ _ _) ?_|refine aY (ee _ _ _) ?_|refine aX (gP _) ?_|refine aY (gP _) ?_|simp[Int.natCast_nonneg,tJ]|((first|apply cu|apply cw|apply cv)<;>intro h<;>try simp at h))<;>(try exact cK));all_goals simp[b1,ls,bn,bp,bk]
  rw[bf (by simp[a0])]at cN;subst a0;simp at cN;subst cN;refine bJ iQ me mx fun aG=>?_;unfold lD;simp[ba.kind,ba.num,ba.name,ba.args];(with_reducible repeat' first|refine aA ?_|refine aX (ee _ _ _) ?_|refine aY (ee _ _ _) ?_|refine aX (gP _) ?_|refine aY (gP _) ?_|simp[Int.natCast_nonneg]);all_goals simp[b1,ls,bn,bp,bk]
 by_cases hO:k=3
 ·subst hO;have uZ:s=[]:=Classical.byContradiction fun h=>b3 ⟨Ω,h⟩;subst uZ;by_cases a0:args=[];rotate_left
  ·rw[bN ⟨Ω,a0⟩]at cN;have tJ:(0:Int)<args.length:=by have:=re.2 a0;omega
   subst cN;refine bJ iQ me mx fun aG=>?_;unfold lD;simp[ba.kind,ba.num,ba.name,ba.args];((with_reducible repeat' first|refine aA ?_|refine aX (ee _ _ _) ?_|refine aY (ee _ _ _) ?_|refine aX (gP _) ?_|refine aY (gP _) ?_|simp[Int.natCast_nonneg,tJ]|((first|apply cu|apply cw|apply cv)<;>intro h<;>try simp at h))<;>(try exact cK));all_goals simp[b1,ls,bn,bp,bk]
  rw[bf (by simp[a0])]at cN;subst a0;simp at cN;subst cN;refine bJ iQ me mx fun aG=>?_;unfold lD;simp[ba.kind,ba.num,ba.name,ba.args];(with_reducible repeat' first|refine aA ?_|refine aX (ee _ _ _) ?_|refine aY (ee _ _ _) ?_|refine aX (gP _) ?_|refine aY (gP _) ?_|simp[Int.natCast_nonneg]);all_goals simp[b1,ls,bn,bp,bk]
 by_cases kS:k=4
 ·subst kS;have n0:n=0:=by simpa using yP (by decide)
  have uZ:s=[]:=Classical.byContradiction fun h=>b3 ⟨Ω,h⟩;subst n0 uZ;simp at cN;match args,cN with
  |[a,b],cN=>
   simp[ba.sz,ba.szL]at aI;have b4:=a8 a Ω;have af:=a8 b Ω;simp only[u1]at cN;subst cN;refine bJ iQ me mx fun aG=>?_;unfold lD;simp[ba.kind,ba.num,ba.name,ba.args];cases q:fx a with
   |true=>rw[q]at b4;(with_reducible repeat' first|refine aA ?_|refine aX b4 ?_|refine aY b4 ?_|refine aX af ?_|refine aY af ?_|simp[Int.natCast_nonneg]);all_goals simp[b1,ls,bn,bp,bk]
   |false=>rw[q]at b4;(with_reducible repeat' first|refine aA ?_|refine aX b4 ?_|refine aY b4 ?_|refine aX af ?_|refine aY af ?_|simp[Int.natCast_nonneg]);all_goals simp[b1,ls,bn,bp,bk]
  |[],cN=>simp only[u1]at cN;subst cN;refine bJ iQ me mx fun aG=>?_;unfold lD;simp[ba.kind,ba.num,ba.name,ba.args];(with_reducible repeat' first|refine aA ?_|refine aX (ee _ _ _) ?_|refine aY (ee _ _ _) ?_|refine aX (gP _) ?_|refine aY (gP _) ?_|simp[Int.natCast_nonneg]);all_goals simp[b1,ls,bn,bp,bk]
  |[_],cN=>simp only[u1]at cN;subst cN;refine bJ iQ me mx fun aG=>?_;unfold lD;simp[ba.kind,ba.num,ba.name,ba.args];(with_reducible repeat' first|refine aA ?_|refine aX (ee _ _ _) ?_|refine aY (ee _ _ _) ?_|refine aX (gP _) ?_|refine aY (gP _) ?_|simp[Int.natCast_nonneg]);all_goals simp[b1,ls,bn,bp,bk]
  |_::_::_::l,cN=>
   simp only[u1]at cN;have aE:((l.length:Int)+1+1+1==2)=false:=by simp;omega
   subst cN;refine bJ iQ me mx fun aG=>?_;unfold lD;simp[ba.kind,ba.num,ba.name,ba.args];(with_reducible repeat' first|refine aA ?_|refine aX (ee _ _ _) ?_|refine aY (ee _ _ _) ?_|refine aX (gP _) ?_|refine aY (gP _) ?_|simp[aE]);all_goals simp[b1,ls,bn,bp,bk]
 have n0:(n !=0)=false:=yP (by simp[dh,hO]);have uZ:s=[]:=Classical.byContradiction fun h=>b3 ⟨ed,h⟩;subst uZ;have QX:(k==0)=false:=by simp[gN]
 have zA:(k==1)=false:=by simp[dh]
 have Fo:(k==2)=false:=by simp[ed]
 have zB:(k==3)=false:=by simp[hO]
 have Q1:(k==4)=false:=by simp[kS]
 have QY:(k !=1)=true:=by simp[dh]
 have QZ:(k !=2)=true:=by simp[ed]
 have Q0:(k !=3)=true:=by simp[hO]
 have Q2:(k !=4)=true:=by simp[kS]
 by_cases a0:args=[]
 ·subst a0;simp[gN,dh,ed,hO,kS]at cN;subst cN;refine bJ iQ me mx fun aG=>?_;unfold lD;simp[ba.kind,ba.num,ba.name,ba.args];(with_reducible repeat' first|refine aA ?_|refine aX (ee _ _ _) ?_|refine aY (ee _ _ _) ?_|refine aX (gP _) ?_|refine aY (gP _) ?_|simp[QX,zA,Fo,zB,Q1,QY,QZ,Q0,Q2,n0]);all_goals simp[b1,ls,bn,bp,bk]
 ·rw[bN ⟨kS,a0⟩]at cN;have tJ:(0:Int)<args.length:=by have:=re.2 a0;omega
  subst cN;refine bJ iQ me mx fun aG=>?_;unfold lD;simp[ba.kind,ba.num,ba.name,ba.args];((with_reducible repeat' first|refine aA ?_|refine aX (ee _ _ _) ?_|refine aY (ee _ _ _) ?_|refine aX (gP _) ?_|refine aY (gP _) ?_|simp[tJ,QX,zA,Fo,zB,Q1,QY,QZ,Q0,Q2,n0]|((first|apply cu|apply cw|apply cv)<;>intro h<;>try simp at h))<;>(try exact cK));all_goals simp[b1,ls,bn,bp,bk]
theorem agH(t:ba):cg aP 271 [enc t] (.bool t.fits):=by
 rw[YH];have aD:=ago t 5000 Ω Ω;have ao:=LB t.sz t (da _);refine bJ iQ X3 adS fun aG=>?_;unfold M8;simp;by_cases q:lF t 5000<=5000
 ·exact bZ
 ·exact bZ
def MM:C:=(ae [eA 1 0,bm 2 (.mov (.c (.str [])))] (ae [cd (.mkmap 9 none),cd (.mput .i (.t 9) (ca 2) (.c (.str [61]))),cd (.mput .i (.t 9) (ca 3) (.c (.str [47,61]))),cd (.mput .i (.t 9) (ca 4) (.c (.str [115,121,109,98,111,108]))),cd (.mput .i (.t 9) (ca 5) (.c (.str [110,117,109,98,101,114]))),cd (.mput .i (.t 9) (ca 6) (.c (.str [97,98,115,101,110,116]))),cd (.mput .i (.t 9) (ca 7) (.c (.str [97,110,100]))),cd (.mput .i (.t 9) (ca 8) (.c (.str [111,114]))),cd (.mput .i (.t 9) (ca 10) (.c (.str [110,111,116]))),ab 10 9,a6 11 0 1 1,aW 12 1 11,bm 13 (.mget .i (.str []) false (.t 10) (.t 12)),ab 3 13] (.seq (ae [a6 14 0 1 1,aW 15 1 14] (.block 0 (ae [a1 17 .eql 15 0,ab 16 17] (bt 16 (ae [bm 2 (.mov (.c (.str [116,114,117,101])))] .ret) (ae [a1 19 .eql 15 1,ab 18 19] (bt 18 (ae [bm 2 (.mov (.c (.str [102,97,105,108])))] .ret) (ae [a1 21 .eql 15 9,ab 20 21] (bt 20 (.region [a6 22 1 1 1,aW 23 1 22,ab 3 23]) .skip)))))))) (ae [ab 24 3,ff 25 1 9 [.t 24],ab 4 25] (.seq (ae [a6 26 2 1 1,aW 27 1 26,cy 28 27,cA 29 0] (.block 1 (.loop (ae [cC 30 .lss 29 28] (.seq (bt 30 .skip (.exit 1)) (.seq (.block 2 (ae [di 31 4 27 29,bH 32 4 31,jk 6 gi,bM 4 6 32] (.region [ab 33 4,bH 34 4 6,cW 35 85 34,ff 36 1 9 [.t 35],kp 37 1 9 33 36,ab 4 37]))) (.region [a1 38 .add 29 1,ab 29 38]))))))) (.seq (ae [a6 39 3 1 1,aW 40 1 39,cy 41 40,cA 42 0] (.block 3 (.loop (ae [cC 43 .lss 42 41] (.seq (bt 43 .skip (.exit 3)) (.seq (.block 4 (ae [di 44 4 40 42,bH 45 4 44,cd (.alloc 8 none (.agg [.int .i64 0,.str [],.slice 4 .nil [],.slice 4 .nil []])),bM 4 8 45] (.region [ab 46 4,bH 47 4 8,cW 48 65 47,ff 49 1 9 [.t 48],kp 50 1 9 46 49,ab 4 50]))) (.region [a1 51 .add 42 1,ab 42 51]))))))) (ae [ab 52 4,⟨none,.call (some 53) (.c (.func 87 [])) [.t 52,(.c (.str [32]))]⟩,bm 54 (.bin .add false (.c (.str [40])) (.t 53)),bm 55 (.bin .add false (.t 54) (.c (.str [41]))),ab 2 55] .ret)))))))
@[simp] def Ku:List cp:=[.tmp 2]
def MN:C:=(ae [eA 1 0,ps 2 1] (ae [cd (.mkmap 4 (some 304)),cd (.alloc 3 (some 305) (.junk)),bM 1 3 4] (ae [bH 5 4 1,bm 6 (.mkf 158 [.t 3]),dJ 7 157 5 6] (ae [aW 8 1 3,cW 9 160 8,ab 2 9] .ret))))
@[simp] def SM:List cp:=[.tmp 2]
def G6:C:=(ae [cl 2 false] (.seq (ae [ab 3 0] (.block 0 (.seq (ae [bm 5 (.bin .eql false (.t 3) (.c (.str [116,114,117,101]))),ab 4 5] (bt 4 .skip (ae [bm 6 (.bin .eql false (.t 3) (.c (.str [102,97,105,108]))),ab 4 6] (bt 4 .skip (ae [bm 7 (.bin .eql false (.t 3) (.c (.str [115,121,109,98,111,108]))),ab 4 7] (bt 4 .skip (ae [bm 8 (.bin .eql false (.t 3) (.c (.str [110,117,109,98,101,114]))),ab 4 8] (bt 4 .skip (ae [bm 9 (.bin .eql false (.t 3) (.c (.str [97,98,115,101,110,116]))),ab 4 9] (bt 4 .skip (ae [bm 10 (.bin .eql false (.t 3) (.c (.str [97,110,100]))),ab 4 10] (bt 4 .skip (ae [bm 11 (.bin .eql false (.t 3) (.c (.str [111,114]))),ab 4 11] (bt 4 .skip (ae [bm 12 (.bin .eql false (.t 3) (.c (.str [110,111,116]))),ab 4 12] (bt 4 .skip (.region [bm 13 (.bin .eql false (.t 3) (.c (.str [100,101,102,105,110,101]))),ab 4 13]))))))))))))))))) (bt 4 (ae [cl 2 false] .ret) .skip)))) (ae [ab 14 0,cW 15 170 14,ab 2 15] .ret)))
@[simp] def aeD:List cp:=[.tmp 2]
def MD:C:=(ae [eA 1 0,cl 2 false] (ae [bH 3 4 1,eg 4 117 [.t 3,(ca 80)],a1 5 .gtr 4 0,ab 2 5] .ret))
@[simp] def aeB:List cp:=[.tmp 2]
def qy:C:=(ae [eA 2 0,cA 4 0] (.seq (ae [ab 10 1,a1 11 .lss 10 1,ab 12 11,aB 12 false (a6 13 2 1 2),aB 12 false (aW 14 1 13),aB 12 false (cW 15 183 14),aB 12 false (eP 16 15),c7 17 12 16] (bt 17 (ae [cA 4 (-1)] .ret) .skip)) (ae [cd (.mkmap 18 none),cd (.mput .i (.t 18) (ca 2) (ca 2)),cd (.mput .i (.t 18) (ca 3) (ca 2)),cd (.mput .i (.t 18) (ca 4) (ca 1)),cd (.mput .i (.t 18) (ca 5) (ca 1)),cd (.mput .i (.t 18) (ca 6) (ca 2)),ab 19 18,a6 20 0 1 2,aW 21 1 20,bm 22 (.mget .i (.int .i64 0) false (.t 19) (.t 21)),ab 5 22] (.seq (ae [a6 23 0 1 2,aW 24 1 23] (.block 0 (.seq (ae [a1 26 .eql 24 0,ab 25 26] (bt 25 .skip (ae [a1 27 .eql 24 1,ab 25 27] (bt 25 .skip (ae [a1 28 .eql 24 2,ab 25 28] (bt 25 .skip (ae [a1 29 .eql 24 3,ab 25 29] (bt 25 .skip (ae [a1 30 .eql 24 4,ab 25 30] (bt 25 .skip (ae [a1 31 .eql 24 5,ab 25 31] (bt 25 .skip (.region [a1 32 .eql 24 6,ab 25 32]))))))))))))) (bt 25 (.seq (ae [a6 33 1 1 2,aW 34 1 33,bm 35 (.bin .neq false (.t 34) (.c (.str []))),ab 36 35,aB 36 false (a6 37 3 1 2),aB 36 false (aW 38 1 37),aB 36 false (cy 39 38),aB 36 false (a1 40 .neq 39 0),c7 41 36 40,ab 42 41,aB 42 false (a6 43 2 1 2),aB 42 false (aW 44 1 43),aB 42 false (cy 45 44),cj 42 false 46 5,aB 42 false (cC 47 .neq 45 46),c7 48 42 47,ab 49 48,aB 49 false (a6 50 0 1 2),aB 49 false (aW 51 1 50),aB 49 false (a1 52 .eql 51 6),cj 49 false 53 52,aB 53 true (a6 54 2 1 2),aB 53 true (aW 55 1 54),aB 53 true (k0 56 4 55 0),aB 53 true (a6 57 0 1 56),aB 53 true (aW 58 1 57),aB 53 true (a1 59 .neq 58 2),aB 49 false (dq 60 53 59),c7 61 49 60] (bt 61 (ae [cA 4 (-1)] .ret) .skip)) (ae [cA 4 1] .ret)) (ae [a1 63 .eql 24 9,ab 62 63] (bt 62 (.seq (ae [a6 64 1 1 2,aW 65 1 64,cW 66 103 65,eP 67 66,ab 68 67,aB 68 false (a6 69 3 1 2),aB 68 false (aW 70 1 69),aB 68 false (cy 71 70),aB 68 false (a1 72 .neq 71 0),c7 73 68 72,ab 74 73,aB 74 false (a6 75 2 1 2),aB 74 false (aW 76 1 75),aB 74 false (cy 77 76),aB 74 false (a1 78 .gtr 77 4),c7 79 74 78] (bt 79 (ae [cA 4 (-1)] .ret) .skip)) (ae [cA 4 1] .ret)) (.seq (ae [a1 81 .eql 24 7,ab 80 81] (bt 80 .skip (.region [a1 82 .eql 24 8,ab 80 82]))) (bt 80 (ae [a6 83 1 1 2,aW 84 1 83,bm 85 (.bin .neq false (.t 84) (.c (.str []))),ab 86 85,aB 86 false (a6 87 2 1 2),aB 86 false (aW 88 1 87),aB 86 false (cy 89 88),aB 86 false (a1 90 .neq 89 0),c7 91 86 90,ab 92 91,aB 92 false (a6 93 3 1 2),aB 92 false (aW 94 1 93),aB 92 false (cy 95 94),aB 92 false (a1 96 .gtr 95 8),c7 97 92 96] (bt 97 (ae [cA 4 (-1)] .ret) .skip)) (ae [a1 99 .eql 24 10,ab 98 99] (bt 98 (ae [a6 100 1 1 2,aW 101 1 100,bm 102 (.bin .neq false (.t 101) (.c (.str []))),ab 103 102,aB 103 false (a6 104 2 1 2),aB 103 false (aW 105 1 104),aB 103 false (cy 106 105),aB 103 false (a1 107 .neq 106 0),c7 108 103 107,ab 109 108,aB 109 false (a6 110 3 1 2),aB 109 false (aW 111 1 110),aB 109 false (cy 112 111),aB 109 false (a1 113 .neq 112 1),c7 114 109 113,ab 115 114,aB 115 false (a6 116 3 1 2),aB 115 false (aW 117 1 116),aB 115 false (k0 118 4 117 0),aB 115 false (a6 119 0 1 118),aB 115 false (aW 120 1 119),aB 115 false (a1 121 .neq 120 9),c7 122 115 121] (bt 122 (ae [cA 4 (-1)] .ret) .skip)) (ae [cA 4 (-1)] .ret))))))))))) (ae [cA 6 1] (.seq (ae [a6 123 3 1 2,aW 124 1 123,cy 125 124,cA 126 0] (.block 1 (.loop (ae [cC 127 .lss 126 125] (.seq (bt 127 .skip (.exit 1)) (.seq (.block 2 (ae [di 128 4 124 126,bH 129 4 128,cd (.alloc 8 none (.agg [.int .i64 0,.str [],.slice 4 .nil [],.slice 4 .nil []])),bM 4 8 129] (ae [bH 130 4 8,ab 131 1,ab 132 6,cC 133 .sub 131 132,dJ 134 117 130 133,ab 9 134] (.seq (ae [ab 135 9,a1 136 .lss 135 0] (bt 136 (ae [cA 4 (-1)] .ret) .skip)) (.region [ab 137 6,ab 138 9,cC 139 .add 137 138,ab 6 139]))))) (.region [a1 140 .add 126 1,ab 126 140]))))))) (ae [ab 141 6,ab 4 141] .ret)))))))
@[simp] def tp:List cp:=[.tmp 4]
def MZ:C:=(ae [eA 2 0,cl 4 false] (.seq (ae [bH 7 4 2,cW 8 90 7,cy 9 8,cA 10 0] (ir 11 10 9 (.seq (.block 1 (ae [di 12 1 8 10,aW 13 1 12,ab 6 13] (ae [ab 14 6,ab 15 1,cC 16 .geq 14 15] (bt 16 (ae [cl 4 false] .ret) .skip)))) (.region [a1 17 .add 10 1,ab 10 17])))) (ae [cl 4 true] .ret)))
@[simp] def aeS:List cp:=[.tmp 4]
def DD:C:=(ae [eA 2 0] (ae [ab 6 1,bH 7 4 2,LW 8 6 [.t 7]] (ae [a6 9 3 1 2,aW 10 1 9,cy 11 10,cA 12 0] (ir 13 12 11 (.seq (.block 1 (ae [di 14 4 10 12,bH 15 4 14,cd (.alloc 5 none (.agg [.int .i64 0,.str [],.slice 4 .nil [],.slice 4 .nil []])),bM 4 5 15] (.region [bH 16 4 5,ab 17 1,dJ 18 157 16 17]))) (.region [a1 19 .add 12 1,ab 12 19]))))))
@[simp] def F3:List cp:=[]
def MO:C:=(ae [eA 2 0] (ae [a6 5 2 1 2,aW 6 1 5,cy 7 6,cA 8 0] (ir 9 8 7 (.seq (.block 1 (ae [di 10 4 6 8,bH 11 4 10,jk 4 gi,bM 4 4 11] (.region [bH 12 4 4,bm 13 (.mkf 159 [.t 1]),dJ 14 79 12 13]))) (.region [a1 15 .add 8 1,ab 8 15])))))
@[simp] def SN:List cp:=[]
def MP:C:=(.region [aW 3 1 1,ab 4 0,cd (.mput .i (.t 3) (.t 4) (.c (.bool true)))])
@[simp] def SO:List cp:=[]
def MT:C:=(ae [eA 1 0,cl 2 false] (ae [a6 3 0 1 1,aW 4 1 3,a1 5 .eql 4 0,ab 6 5,aB 6 true (a6 7 1 1 1),aB 6 true (aW 8 1 7),kF 6 true 9 (.bin .eql false (.t 8) (.c (.str []))),dq 10 6 9,ab 11 10,aB 11 true (a6 12 2 1 1),aB 11 true (aW 13 1 12),aB 11 true (cy 14 13),aB 11 true (a1 15 .eql 14 0),dq 16 11 15,ab 17 16,aB 17 true (a6 18 3 1 1),aB 17 true (aW 19 1 18),aB 17 true (cy 20 19),aB 17 true (a1 21 .eql 20 0),dq 22 17 21,ab 2 22] .ret))
@[simp] def SP:List cp:=[.tmp 2]
def si:List (Nat×du):=[
 (3,⟨1,8,.int .i64,.int .i64 0⟩),
 (9,⟨1,16,.str,.str []⟩),
 (38,⟨1,24,.slice 40,.slice 4 .nil []⟩),
 (40,⟨4,56,.struct [(0,3),(1,3),(2,9),(3,38)],.agg [.int .i64 0,.int .i64 0,.str [],.slice 4 .nil []]⟩),
 (63,⟨1,24,.slice 65,.slice 4 .nil []⟩),
 (65,⟨4,72,.struct [(0,3),(1,9),(2,38),(3,63)],.agg [.int .i64 0,.str [],.slice 4 .nil [],.slice 4 .nil []]⟩),
 (70,⟨1,24,.slice 9,.slice 1 .nil []⟩),
 (136,⟨1,24,.slice 3,.slice 1 .nil []⟩),
 (180,⟨1,8,.map 3 9,.junk⟩),
 (199,⟨1,8,.map 3 4,.junk⟩),
 (219,⟨1,8,.map 3 3,.junk⟩)]
theorem kk:fS aP si=true:=by kernel_rfl
theorem adx:cF si MM Ku 1 Tryz.f65=true:=by kernel_rfl
theorem XI:aP.funcs[(65:Nat)]? =some Tryz.f65:=Tryz.func65
theorem ady:cF si MN SM 1 Tryz.f90=true:=by kernel_rfl
theorem XJ:aP.funcs[(90:Nat)]? =some Tryz.f90:=Tryz.func90
theorem R4:cF si G6 aeD 1 Tryz.f103=true:=by kernel_rfl
theorem OC:aP.funcs[(103:Nat)]? =some Tryz.f103:=Tryz.func103
theorem ado:cF si MD aeB 1 Tryz.f115=true:=by kernel_rfl
theorem Xz:aP.funcs[(115:Nat)]? =some Tryz.f115:=Tryz.func115
theorem r8:cF si qy tp 2 Tryz.f117=true:=by kernel_rfl
theorem rC:aP.funcs[(117:Nat)]? =some Tryz.f117:=Tryz.func117
theorem adK:cF si MZ aeS 2 Tryz.f120=true:=by kernel_rfl
theorem XV:aP.funcs[(120:Nat)]? =some Tryz.f120:=Tryz.func120
theorem Kh:cF si DD F3 2 Tryz.f157=true:=by kernel_rfl
theorem HX:aP.funcs[(157:Nat)]? =some Tryz.f157:=Tryz.func157
theorem adz:cF si MO SN 2 Tryz.f158=true:=by kernel_rfl
theorem XK:aP.funcs[(158:Nat)]? =some Tryz.f158:=Tryz.func158
theorem adA:cF si MP SO 2 Tryz.f159=true:=by kernel_rfl
theorem XL:aP.funcs[(159:Nat)]? =some Tryz.f159:=Tryz.func159
theorem adE:cF si MT SP 1 Tryz.f171=true:=by kernel_rfl
theorem XP:aP.funcs[(171:Nat)]? =some Tryz.f171:=Tryz.func171
end
end Go.Proofs.YtlnndmgfngfeiaaGreatDoor
namespace Go.Pv
section
open Go Go.Lib
theorem Sw:∀(a b:List aF) (acc:Nat),parseUint10 acc (a++b)=match parseUint10 acc a with| .ok v=>parseUint10 v b|x=>x
 |[],b,acc=>rfl
 |c::r,b,acc=>by
  simp only[iT,parseUint10];split
  ·split
   ·rfl
   ·split
    ·rfl
    ·exact Sw r b _
  ·rfl
theorem sJ{u:Nat}(h:u<10):decDigits u=[pA (48+u)]:=by rw[decDigits,dif_pos h]
theorem vv{u:Nat}(h:10<=u):decDigits u=decDigits (u/10)++[pA (48+u%10)]:=by rw[decDigits,dif_neg Ω]
theorem A9{d:Nat}(h:d<10):(pA (48+d)).toNat=48+d:=by rw[UInt8.toNat_ofNat'];omega
theorem aer(u:Nat)(h:u<18446744073709551616):parseUint10 0 (decDigits u)= .ok u:=by
 induction u using Nat.strongRecOn with
 |_ u a8=>
  have step:∀v d,d<10->v*10+d<18446744073709551616->parseUint10 v [pA (48+d)]= .ok (v*10+d):=by intro v d a7 aS;simp only[parseUint10,A9 a7];rw[bN Ω,bf Ω,bf Ω];congr 1;omega
  by_cases hu:u<10
  ·rw[sJ hu,step 0 u hu Ω];congr 1;omega
  ·rw[vv Ω,Sw,a8 (u/10) Ω Ω];simp only;rw[step _ _ (Nat.mod_lt _ Ω) Ω];congr 1;omega
theorem nZ(u:Nat):decDigits u≠[]:=by
 by_cases hu:u<10
 ·rw[sJ hu];simp
 ·rw[vv Ω];simp
theorem A7(u:Nat):∀c∈decDigits u,48<=c.toNat/\c.toNat<=57:=by
 induction u using Nat.strongRecOn with
 |_ u a8=>
  by_cases hu:u<10
  ·rw[sJ hu];intro c aD;rw[List.mem_singleton.1 aD,A9 hu];omega
  ·rw[vv Ω];intro c aD;rcases iG.1 aD with h|h
   ·exact a8 _ Ω c h
   ·rw[List.mem_singleton.1 h,A9 (Nat.mod_lt _ Ω)];omega
theorem Sv{u:Nat}(h:u<18446744073709551616):parseMag (decDigits u)= .ok u:=by unfold parseMag;rw[bf (nZ u)];exact aer u h
theorem U6{n:Int}(h:aZ n):atoiAll (itoa n)= .ok n:=by
 unfold aZ at h;unfold itoa;by_cases aK:n<0
 ·rw[bN aK];simp only[atoiAll];rw[bN Ψ,Sv Ω];simp only;rw[bf Ψ,bf (by simp;omega),bN Ψ];congr 1;omega
 ·rw[bf aK];obtain⟨c,r,aD⟩:∃c r,decDigits n.toNat=c::r:=by
   cases a7:decDigits n.toNat with
   |nil=>exact absurd a7 (nZ _)
   |cons c r=>exact⟨c,r,rfl⟩
  have hm:=A7 n.toNat c (by rw[aD];simp);have bq:=Sv (u:=n.toNat) Ω;rw[aD]at bq⊢;simp only[atoiAll];rw[bf Ω,bq];simp only;rw[bf Ω,bf Ω,bf Ω];congr 1;omega
theorem U5{s:List aF}{n:Int}(h:atoiAll s= .ok n):aZ n:=by
 unfold atoiAll at h;unfold aZ;split at h
 ·cases h
 ·rename_i c r;simp only at h;split at h
  ·cases h
  ·cases h
  ·split at h
   ·cases h
   ·split at h
    ·cases h
    ·injection h with h;split at h<;>omega
def h5(s:List aF):be Int:=match atoiAll s with
 | .ok n=>if itoa n=s then some n else none
 |_=>none
theorem FY{s:List aF}{n:Int}:h5 s=some n↔aZ n/\itoa n=s:=by
 unfold h5;constructor
 ·intro h;rcases b4:atoiAll s with m|_|_
  ·rw[b4]at h;simp only at h;split at h
   ·rename_i e;cases h;exact⟨U5 b4,e⟩
   ·cases h
  ·rw[b4]at h;cases h
  ·rw[b4]at h;cases h
 ·rintro⟨I,rfl⟩;rw[U6 I];simp
theorem r9{s:List aF}(h:∀n,aZ n->itoa n≠s):h5 s=none:=by
 cases bq:h5 s with
 |none=>rfl
 |some n=>exact absurd (FY.1 bq).2 (h n (FY.1 bq).1)
theorem ab3(n:Int):∀c∈itoa n,c.toNat=45\/48<=c.toNat/\c.toNat<=57:=by
 intro c aD;unfold itoa at aD;split at aD
 ·rcases gH.1 aD with rfl|aD
  ·exact .inl rfl
  ·exact .inr (A7 _ c aD)
 ·exact .inr (A7 _ c aD)
theorem s9(n:Int):itoa n≠[]:=by
 unfold itoa;split
 ·simp
 ·exact nZ _
theorem DP:∀(k u:Nat),u<10 ^ k->(decDigits u).length<=max k 1
 |0,u,h=>by rw[sJ (by simpa using Nat.lt_of_lt_of_le h Ψ)];simp
 |k+1,u,h=>by
  by_cases hu:u<10
  ·rw[sJ hu];simp
  ·rw[vv Ω];have:=DP k (u/10) (by rw[Nat.pow_succ]at h;omega);simp;have:k≠0:=fun e=>by subst e;simp at h;omega
   omega
theorem uv{n:Int}(h:aZ n):(itoa n).length<=20:=by
 unfold aZ at h;unfold itoa;split
 ·have:=DP 19 n.natAbs Ω;simp;omega
 ·have:=DP 19 n.toNat Ω;omega
def oP(c:aF):Bool:=c==32||c==10||c==40||c==41||c==59
def x6(c:aF):Bool:= !(c==10)
def lS(c:aF):Bool:= !oP c
theorem DT{α:Type}(p:α->Bool):∀l:List α,(l.dropWhile p).length<=l.length
 |[]=>by simp
 |x::r=>by
  simp only[List.dropWhile];split
  ·have:=DT p r;simp;omega
  ·simp
def iO:List aF->List (List aF)
 |[]=>[]
 |c::r=>if c=32\/c=10 then iO r else if c=59 then iO (r.dropWhile x6)else if c=40\/c=41 then [c]::iO r else(c::r.takeWhile lS)::iO (r.dropWhile lS)
termination_by l=>l.length
decreasing_by
 all_goals simp
 all_goals exact Nat.lt_succ_of_le (DT _ _)
theorem TX:iO []=[]:=by rw[iO]
theorem Lp(c:aF)(r:List aF):iO (c::r)=if c=32\/c=10 then iO r else if c=59 then iO (r.dropWhile x6)else if c=40\/c=41 then [c]::iO r else(c::r.takeWhile lS)::iO (r.dropWhile lS):=by rw[iO]
def x8(c:aF):Bool:=c==10||(decide (32<=c.toNat)&&decide (c.toNat<=126))
def nN(s:List aF):be (List (List aF)):=if s.length<=100000/\(∀c∈s,x8 c=true)/\(iO s).length<=20000 then some (iO s)else none
theorem mb{α:Type}{l:List α}{i:Nat}{x:α}(h:l[i]? =some x):l.drop i=x::l.drop (i+1):=by obtain⟨aw,rfl⟩:=cX.1 h;exact List.drop_eq_getElem_cons aw
theorem C4:∀(n:Nat) (s:List aF),s.length<=n->∀t∈iO s,t≠[]
 |_,[],_=>by simp[TX]
 |0,_::_,h=>by simp at h
 |n+1,c::r,h=>by
  rw[Lp];simp at h;have I:=DT x6 r;have J:=DT lS r;split
  ·exact C4 n r h
  ·split
   ·exact C4 n _ Ω
   ·split
    ·intro t aI;rcases gH.1 aI with rfl|aI
     ·simp
     ·exact C4 n r h t aI
    ·intro t aI;rcases gH.1 aI with rfl|aI
     ·simp
     ·exact C4 n _ Ω t aI
def lX:List T->T->T
 |[],t=>t
 |x::r,t=>.pair x (lX r t)
theorem acE(a b:List T)(t:T):lX (a++b) t=lX a (lX b t):=by
 induction a with
 |nil=>rfl
 |cons x r a8=>simp[lX,a8]
def oN(w:List aF):be T:=
 match w with
 |63::r=>match h5 r with
  |some n=>if 0<=n/\n<=100000 then some (.var n)else none
  |none=>none
 |w=>if gM w then some (.sym w)else(h5 w).map .num
mutual
def rd(at':List aF->be T):Nat->List (List aF)->be (T×List (List aF))
 |0,_=>none
 |_+1,[]=>none
 |n+1,w::r=>if w=[40]then cM at' n r []else if w=[41]\/w=[46]then none else(at' w).map fun t=>(t,r)
def cM(at':List aF->be T):Nat->List (List aF)->List T->be (T×List (List aF))
 |0,_,_=>none
 |_+1,[],_=>none
 |n+1,w::r,acc=>if w=[41]then some (lX acc .nil,r)
  else if w=[46]then(if acc=[]then none else match rd at' n r with
   |some (t,v::dt)=>if v=[41]then some (lX acc t,dt)else none
   |_=>none)
  else match rd at' n (w::r)with
   |some (t,dt)=>cM at' n dt (acc++[t])
   |none=>none
end
mutual
theorem Ac{at':List aF->be T}:∀(n:Nat) (l:List (List aF)) (t:T) (r:List (List aF)),rd at' n l=some (t,r)->r<:+l/\r.length<l.length
 |0,_,_,_,h=>by simp[rd]at h
 |_+1,[],_,_,h=>by simp[rd]at h
 |n+1,w::l,t,r,h=>by
  simp only[rd]at h;split at h
  ·obtain⟨I,J⟩:=QN n l [] t r h;exact⟨I.trans (List.suffix_cons _ _),by simp;omega⟩
  ·split at h
   ·cases h
   ·cases b4:at' w with
    |none=>rw[b4]at h;cases h
    |some x=>rw[b4]at h;cases h;exact⟨List.suffix_cons _ _,Ψ⟩
theorem QN{at':List aF->be T}:∀(n:Nat) (l:List (List aF)) (acc:List T) (t:T) (r:List (List aF)),cM at' n l acc=some (t,r)->r<:+l/\r.length<l.length
 |0,_,_,_,_,h=>by simp[cM]at h
 |_+1,[],_,_,_,h=>by simp[cM]at h
 |n+1,w::l,acc,t,r,h=>by
  simp only[cM]at h;split at h
  ·cases h;exact⟨List.suffix_cons _ _,Ψ⟩
  ·split at h
   ·split at h
    ·cases h
    ·split at h
     ·rename_i x v dt hr;split at h
      ·cases h;obtain⟨I,J⟩:=Ac n l x (v::r) hr;simp at J;exact⟨((List.suffix_cons _ _).trans I).trans (List.suffix_cons _ _),by simp;omega⟩
      ·cases h
     ·cases h
   ·split at h
    ·rename_i x dt hr;obtain⟨I,J⟩:=Ac n (w::l) x dt hr;obtain⟨av,aV⟩:=QN n dt _ t r h;exact⟨av.trans I,Ω⟩
    ·cases h
end
mutual
def dB:T->List aF
 | .nil=>[40,41]
 | .var n=>63::itoa n
 | .sym s=>s
 | .num n=>itoa n
 | .pair a b=>40::(dB a++fA b)
def fA:T->List aF
 | .nil=>[41]
 | .pair a b=>32::(dB a++fA b)
 | .var n=>32::46::32::63::(itoa n++[41])
 | .sym s=>32::46::32::(s++[41])
 | .num n=>32::46::32::(itoa n++[41])
end
def y3:List aF->Prop
 |[]=>True
 |c::_=>oP c=true
theorem Jv(c:aF):lS c=true↔ ¬(c=32\/c=10)/\¬c=59/\¬(c=40\/c=41):=by unfold lS oP;simp;grind
theorem abG{c:aF}(h:kd c=true):lS c=true:=by rw[Jv];refine⟨?_,?_,?_⟩<;>(intro e;first|(rcases e with rfl|rfl<;>revert h<;>decide)|(subst e;revert h;decide))
theorem acD{c:aF}(h:low c=true):lS c=true:=by rw[Jv];refine⟨?_,?_,?_⟩<;>(intro e;first|(rcases e with rfl|rfl<;>revert h<;>decide)|(subst e;revert h;decide))
theorem zJ{s:List aF}(h:gM s=true):∃c r,s=c::r/\low c=true/\(∀x∈r,kd x=true)/\r.length<=11:=by
 unfold gM at h;simp only[bB,ef,gC]at h;cases s with
 |nil=>simp at h
 |cons c r=>exact⟨c,r,rfl,by simpa using h.1.2,by simpa using h.2,by have:=h.1.1.2;simp at this;omega⟩
theorem abI{s:List aF}(h:gM s=true):∀c∈s,lS c=true:=by
 obtain⟨c,r,rfl,I,J,_⟩:=zJ h;intro x ad;rcases gH.1 ad with rfl|ad
 ·exact acD I
 ·exact abG (J x ad)
theorem RK{s:List aF}(h:gM s=true):s≠[]:=by obtain⟨c,r,rfl,_⟩:=zJ h;simp
theorem acV{s:List aF}(h:gM s=true):∀r,s≠63::r:=by obtain⟨c,r,rfl,I,_⟩:=zJ h;intro dt e;simp only[AB]at e;obtain⟨rfl,_⟩:=e;revert I;decide
theorem adb{w:List aF}(h:∀c∈w,lS c=true):w≠[40]/\w≠[41]:=by constructor<;>(rintro rfl;have:=h _ (List.mem_singleton.2 rfl);revert this;decide)
inductive Gm where
 |mk (kind:Int) (name:List aF) (ts:List ba) (gs:List Gm)
 deriving Inhabited
def Gm.kind:Gm->Int| .mk k _ _ _=>k
def Gm.name:Gm->List aF| .mk _ s _ _=>s
def Gm.ts:Gm->List ba| .mk _ _ t _=>t
def Gm.gs:Gm->List Gm| .mk _ _ _ g=>g
mutual
def vA:Gm->ag
 | .mk k s t g=>.agg [.int .i64 k,.str s,.slice 4 .no (t.map enc),.slice 4 .no (rE g)]
def rE:List Gm->List ag
 |[]=>[]
 |x::xs=>vA x::rE xs
end
def Gm.e(g:Gm):ag:=vA g
theorem Ed:∀l,rE l=l.map Gm.e
 |[]=>rfl
 |x::xs=>by simp[rE,Ed xs,Gm.e]
theorem Gm.e_eq(g:Gm):g.e= .agg [.int .i64 g.kind,.str g.name,.slice 4 .no (g.ts.map enc),.slice 4 .no (g.gs.map Gm.e)]:=by cases g;simp[Gm.e,vA,Ed,Gm.kind,Gm.name,Gm.ts,Gm.gs]
mutual
theorem Ri(S:aJ->Prop):∀g:Gm,ak S (vA g)
 | .mk k s t g=>by simp[vA,ak,ai,JI S g]
theorem JI(S:aJ->Prop):∀l:List Gm,ai S (rE l)
 |[]=>by simp[rE,ai]
 |x::xs=>by simp[rE,ai,Ri S x,JI S xs]
end
mutual
theorem TO:∀g:Gm,dr (vA g)=vA g
 | .mk k s t g=>by simp[vA,dr,cO,Lg g]
theorem Lg:∀l:List Gm,cO (rE l)=rE l
 |[]=>by simp[rE,cO]
 |x::xs=>by simp[rE,cO,TO x,Lg xs]
end
@[simp]theorem ajI(S:aJ->Prop)(g:Gm):ak S g.e=True:=eq_true (Ri S g)
@[simp]theorem acd(S:aJ->Prop)(l:List Gm):ai S (l.map Gm.e)=True:=by rw[<-Ed];exact eq_true (JI S l)
@[simp]theorem akW(g:Gm):dr g.e=g.e:=TO g
@[simp]theorem TM(l:List Gm):cO (l.map Gm.e)=l.map Gm.e:=by rw[<-Ed];exact Lg l
@[simp]theorem akF(g:Gm):ez g.e=true:=by rw[Gm.e_eq];rfl
@[simp]theorem ahU(g:Gm):cells g.e=[.int .i64 g.kind,.str g.name,.slice 4 .no (g.ts.map enc),.slice 4 .no (g.gs.map Gm.e)]:=by rw[Gm.e_eq];rfl
@[simp]theorem ahc(g:Gm):ag.agg [.int .i64 g.kind,.str g.name,.slice 4 .no (g.ts.map enc),.slice 4 .no (g.gs.map Gm.e)]=g.e:=(Gm.e_eq g).symm
@[simp]theorem ail(off:Nat)(eD:Bool)(sz:Nat)(g:Gm):n2 off eD sz (.eptr g.e)=if eD then some (off+sz<=4,.eptr (.agg (([.int .i64 g.kind,.str g.name,.slice 4 .no (g.ts.map enc),.slice 4 .no (g.gs.map Gm.e)].drop off).take sz)))else(([.int .i64 g.kind,.str g.name,.slice 4 .no (g.ts.map enc),.slice 4 .no (g.gs.map Gm.e)]:List ag)[off]?).map fun p=>(ez p=true/\cells p=[p],.eptr p):=by rw[Gm.e_eq];rfl
@[simp]theorem ajn(g:Gm):Pv.isAgg 4 g.e:=by rw[Gm.e_eq];exact⟨_,rfl,rfl⟩
def ng:List aF:=[116,114,117,101]
def nP:List aF:=[102,97,105,108]
def yA:List aF:=[61]
def yz:List aF:=[47,61]
def sq:List aF:=[115,121,109,98,111,108]
def sn:List aF:=[110,117,109,98,101,114]
def sj:List aF:=[97,98,115,101,110,116]
def sk:List aF:=[97,110,100]
def sp:List aF:=[111,114]
def sl:List aF:=[110,111,116]
def km:List aF:=[100,101,102,105,110,101]
def ju:List (List aF):=[ng,nP,sq,sn,sj,sk,sp,sl,km]
def fw(s:List aF):Bool:= !ju.contains s&&gM s
def kU(k:Int):Int:=if k=2 then 2 else if k=3 then 2 else if k=4 then 1 else if k=5 then 1 else if k=6 then 2 else 0
mutual
def Gm.sz:Gm->Nat
 | .mk _ _ _ g=>1+iu g
def iu:List Gm->Nat
 |[]=>0
 |x::xs=>x.sz+iu xs
end
theorem If{x:Gm}:∀{l:List Gm},x∈l->x.sz<=iu l
 |[],h=>by simp at h
 |y::l,h=>by
  simp only[iu];rcases gH.1 h with rfl|h
  ·omega
  ·have:=If h;omega
theorem Gm.gs_lt{g x:Gm}(h:x∈g.gs):x.sz<g.sz:=by
 cases g with
 |mk k s t gs=>have:=If (l:=gs) h;simp only[Gm.sz];omega
theorem Gm.sz_pos(g:Gm):1<=g.sz:=by cases g;simp[Gm.sz]
mutual
def Gm.shape:Gm->Bool
 | .mk k s t g=>t.all ba.fits&&(
  if 0<=k/\k<=6 then s==[]&&g.isEmpty&&decide ((t.length:Int)=kU k)&&(k !=6||(match t with|x::_=>decide (x.kind=2)|[]=>false))
  else if k=9 then fw s&&g.isEmpty&&decide (t.length<=4)
  else if k=7\/k=8 then s==[]&&t.isEmpty&&decide (g.length<=8)&&qc g
  else if k=10 then s==[]&&t.isEmpty&&(match g with|[x]=>decide (x.kind=9)|_=>false)&&qc g
  else false)
def qc:List Gm->Bool
 |[]=>true
 |x::xs=>x.shape&&qc xs
end
def Gm.fits(n:Nat)(g:Gm):Bool:=g.shape&&decide (g.sz<=n)
def vJ(w:List aF):be Int:=if w=yA then some 2 else if w=yz then some 3 else if w=sq then some 4 else if w=sn then some 5 else if w=sj then some 6 else if w=sk then some 7 else if w=sp then some 8 else if w=sl then some 10 else none
def uu(k:Int):Bool:=k==7||k==8||k==10
mutual
def gA(tr:List (List aF)->be (T×List (List aF)))(a7:List aF->be (Int×List aF)):Nat->List (List aF)->be (Gm×List (List aF))
 |0,_=>none
 |_+1,[]=>none
 |n+1,w::r=>if w=ng then some (.mk 0 [] [] [],r)else if w=nP then some (.mk 1 [] [] [],r)
  else if w=[40]then(match r with
   |[]=>none
   |h::dt=>match a7 h with
    |some (k,s)=>hy tr a7 n k s [] [] dt
    |none=>none)
  else none
def hy(tr:List (List aF)->be (T×List (List aF)))(a7:List aF->be (Int×List aF)):Nat->Int->List aF->List T->List Gm->List (List aF)->be (Gm×List (List aF))
 |0,_,_,_,_,_=>none
 |_+1,_,_,_,_,[]=>none
 |n+1,k,s,ts,gs,w::r=>if w=[41]then(if 1<k then some (.mk k s (ts.map T.tm) gs,r)else none)
  else if uu k then(match gA tr a7 n (w::r)with
   |some (g,dt)=>hy tr a7 n k s ts (gs++[g]) dt
   |none=>none)
  else match tr (w::r)with
   |some (t,dt)=>hy tr a7 n k s (ts++[t]) gs dt
   |none=>none
end
def Ls(tr:List (List aF)->be (T×List (List aF))):Prop:= ∀l t r,tr l=some (t,r)->r<:+l/\r.length<l.length
mutual
theorem Gb{tr:List (List aF)->be (T×List (List aF))}(aI:Ls tr){a7:List aF->be (Int×List aF)}:∀(n:Nat) (l:List (List aF)) (g:Gm) (r:List (List aF)),gA tr a7 n l=some (g,r)->r<:+l/\r.length<l.length
 |0,_,_,_,h=>by simp[gA]at h
 |_+1,[],_,_,h=>by simp[gA]at h
 |n+1,w::l,g,r,h=>by
  simp only[gA]at h;split at h
  ·cases h;exact⟨List.suffix_cons _ _,Ψ⟩
  ·split at h
   ·cases h;exact⟨List.suffix_cons _ _,Ψ⟩
   ·split at h
    ·split at h
     ·cases h
     ·split at h
      ·obtain⟨I,J⟩:=KI aI n _ _ _ _ _ g r h;exact⟨(I.trans (List.suffix_cons _ _)).trans (List.suffix_cons _ _),by simp;omega⟩
      ·cases h
    ·cases h
theorem KI{tr:List (List aF)->be (T×List (List aF))}(aI:Ls tr){a7:List aF->be (Int×List aF)}:∀(n:Nat) (k:Int) (s:List aF) (ts:List T) (gs:List Gm) (l:List (List aF)) (g:Gm) (r:List (List aF)),hy tr a7 n k s ts gs l=some (g,r)->r<:+l/\r.length<l.length
 |0,_,_,_,_,_,_,_,h=>by simp[hy]at h
 |_+1,_,_,_,_,[],_,_,h=>by simp[hy]at h
 |n+1,k,s,ts,gs,w::l,g,r,h=>by
  simp only[hy]at h;split at h
  ·split at h
   ·cases h;exact⟨List.suffix_cons _ _,Ψ⟩
   ·cases h
  ·split at h
   ·split at h
    ·rename_i x dt hr;obtain⟨I,J⟩:=Gb aI n (w::l) x dt hr;obtain⟨av,aV⟩:=KI aI n _ _ _ _ _ g r h;exact⟨av.trans I,Ω⟩
    ·cases h
   ·split at h
    ·rename_i x dt hr;obtain⟨I,J⟩:=aI (w::l) x dt hr;obtain⟨av,aV⟩:=KI aI n _ _ _ _ _ g r h;exact⟨av.trans I,Ω⟩
    ·cases h
end
def hC(w:List aF):be T:=match oN w with
 |some t=>if t.ok then some t else none
 |none=>none
theorem Cs:∀(a:List T) (t:T),(lX a t).ok=(a.all T.ok&&t.ok)
 |[],t=>by simp[lX]
 |x::r,t=>by simp[lX,T.ok,Cs r t,Bool.and_assoc]
theorem QK:∀(n:Nat) (l:List (List aF)) (acc:List T) (t:T) (r:List (List aF)),cM oN n l acc=some (t,r)->t.ok=true->acc.all T.ok=true
 |0,_,_,_,_,h,_=>by simp[cM]at h
 |_+1,[],_,_,_,h,_=>by simp[cM]at h
 |n+1,w::l,acc,t,r,h,aj=>by
  simp only[cM]at h;split at h
  ·cases h;rw[Cs]at aj;simp only[bB]at aj;exact aj.1
  ·split at h
   ·split at h
    ·cases h
    ·split at h
     ·split at h
      ·cases h;rw[Cs]at aj;simp only[bB]at aj;exact aj.1
      ·cases h
     ·cases h
   ·split at h
    ·have:=QK n _ _ t r h aj;simp only[List.all_append,bB]at this;exact this.1
    ·cases h
def ov:be (T×List (List aF))->be (T×List (List aF))
 |some (t,r)=>if t.ok then some (t,r)else none
 |none=>none
mutual
theorem Gc:∀(n:Nat) (l:List (List aF)),rd hC n l=ov (rd oN n l)
 |0,_=>by simp[rd,ov]
 |_+1,[]=>by simp[rd,ov]
 |n+1,w::l=>by
  simp only[rd];split
  ·exact QL n l [] rfl
  ·split
   ·rfl
   ·unfold hC;cases oN w with
    |none=>rfl
    |some t=>by_cases h:t.ok=true<;>simp[ov,h]
theorem QL:∀(n:Nat) (l:List (List aF)) (acc:List T),acc.all T.ok=true->cM hC n l acc=ov (cM oN n l acc)
 |0,_,_,_=>by simp[cM,ov]
 |_+1,[],_,_=>by simp[cM,ov]
 |n+1,w::l,acc,b4=>by
  simp only[cM];split
  ·simp[ov,Cs,b4,T.ok]
  ·split
   ·split
    ·rfl
    ·rw[Gc n l];cases hr:rd oN n l with
     |none=>rfl
     |some x=>
      obtain⟨t,r⟩:=x;cases r with
      |nil=>by_cases h:t.ok=true<;>simp[ov,h]
      |cons v dt=>by_cases h:t.ok=true<;>by_cases aS:v=[41]<;>simp[ov,h,aS,Cs,b4]
   ·rw[Gc n (w::l)];cases hr:rd oN n (w::l)with
    |none=>rfl
    |some x=>
     obtain⟨t,r⟩:=x;by_cases h:t.ok=true
     ·simp only[ov,h,if_true];exact QL n r _ (by simp[b4,h])
     ·simp only[ov,h,iR,if_false];cases aw:cM oN n r (acc++[t])with
      |none=>rfl
      |some y=>
       obtain⟨u,fI⟩:=y;by_cases hu:u.ok=true
       ·have:=QK n r _ u fI aw hu;simp at this;exact absurd this.2 h
       ·simp[ov,hu]
end
def qg(l:List (List aF)):be (T×List (List aF)):=match rd oN (2*l.length+1) l with
 |some (t,r)=>if t.fit then some (t,r)else none
 |none=>none
def jj(l:List (List aF)):be (T×List (List aF)):=rd hC (2*l.length+1) l
theorem vy{t:T}(h:t.fit=true):t.ok=true:=by unfold T.fit at h;simp only[bB]at h;exact h.1
theorem af2{l:List (List aF)}{t:T}{r:List (List aF)}(h:qg l=some (t,r)):jj l=some (t,r)/\t.fit=true:=by
 unfold qg at h;unfold jj;rw[Gc];cases hr:rd oN (2*l.length+1) l with
 |none=>rw[hr]at h;cases h
 |some x=>
  obtain⟨u,dt⟩:=x;rw[hr]at h;simp only at h;split at h
  ·rename_i aM;cases h;simp[ov,vy aM,aM]
  ·cases h
theorem af3{l:List (List aF)}{t:T}{r:List (List aF)}(h:jj l=some (t,r))(aM:t.fit=true):qg l=some (t,r):=by
 unfold jj at h;unfold qg;rw[Gc]at h;cases hr:rd oN (2*l.length+1) l with
 |none=>rw[hr]at h;cases h
 |some x=>
  obtain⟨u,dt⟩:=x;rw[hr]at h;simp only[ov]at h;split at h
  ·cases h;simp[aM]
  ·cases h
theorem C5:Ls jj:=fun l t r h=>Ac _ _ _ _ h
def pP(h:List aF):be (Int×List aF):=match vJ h with
 |some k=>some (k,[])
 |none=>if fw h then some (9,h)else none
def hdS(h:List aF):be (Int×List aF):=if h=ng then some (0,[])else if h=nP then some (1,[])else match vJ h with
 |some k=>some (k,[])
 |none=>some (9,h)
theorem Z6{h:List aF}{x:Int×List aF}(e:pP h=some x):hdS h=some x:=by
 unfold pP at e;unfold hdS;have I:h≠ng:=by rintro rfl;revert e;simp[vJ,ng,yA,yz,sq,sn,sj,sk,sp,sl,fw,ju]
 have J:h≠nP:=by rintro rfl;revert e;simp[vJ,nP,yA,yz,sq,sn,sj,sk,sp,sl,fw,ju,ng]
 rw[bf I,bf J];cases aa:vJ h with
 |some k=>rw[aa]at e;exact e
 |none=>
  rw[aa]at e;simp only at e⊢;split at e
  ·exact e
  ·cases e
mutual
theorem S6:∀(n:Nat) (l:List (List aF)) (g:Gm) (r:List (List aF)),gA qg pP n l=some (g,r)->gA jj hdS n l=some (g,r)
 |0,_,_,_,h=>by simp[gA]at h
 |_+1,[],_,_,h=>by simp[gA]at h
 |n+1,w::l,g,r,h=>by
  simp only[gA]at h⊢;split at h
  ·rename_i e;rw[bN e];exact h
  ·rename_i aq;rw[bf aq];split at h
   ·rename_i e;rw[bN e];exact h
   ·rename_i aU;rw[bf aU];split at h
    ·rename_i bR;rw[bN bR];cases l with
     |nil=>exact h
     |cons v l=>
      simp only at h⊢;cases bK:pP v with
      |none=>rw[bK]at h;cases h
      |some x=>obtain⟨k,s⟩:=x;rw[bK]at h;rw[Z6 bK];exact KF n k s [] [] l g r h
    ·cases h
theorem KF:∀(n:Nat) (k:Int) (s:List aF) (ts:List T) (gs:List Gm) (l:List (List aF)) (g:Gm) (r:List (List aF)),hy qg pP n k s ts gs l=some (g,r)->hy jj hdS n k s ts gs l=some (g,r)
 |0,_,_,_,_,_,_,_,h=>by simp[hy]at h
 |_+1,_,_,_,_,[],_,_,h=>by simp[hy]at h
 |n+1,k,s,ts,gs,w::l,g,r,h=>by
  simp only[hy]at h⊢;split at h
  ·rename_i e;rw[bN e];exact h
  ·rename_i e;rw[bf e];split at h
   ·rename_i aK;rw[bN aK];cases hr:gA qg pP n (w::l)with
    |none=>rw[hr]at h;cases h
    |some x=>obtain⟨eK,dt⟩:=x;rw[hr]at h;rw[S6 n _ _ _ hr];exact KF n k s ts _ dt g r h
   ·rename_i aK;rw[bf aK];cases hr:qg (w::l)with
    |none=>rw[hr]at h;cases h
    |some x=>obtain⟨eB,dt⟩:=x;rw[hr]at h;rw[(af2 hr).1];exact KF n k s _ gs dt g r h
end
theorem CS{tr:List (List aF)->be (T×List (List aF))}{a7:List aF->be (Int×List aF)}:∀(n:Nat) (k:Int) (s:List aF) (ts:List T) (gs:List Gm) (l:List (List aF)) (g:Gm) (r:List (List aF)),hy tr a7 n k s ts gs l=some (g,r)->
  g.kind=k/\1<k/\g.name=s/\(∀t∈ts,t.tm∈g.ts)/\∀x∈gs,x∈g.gs
 |0,_,_,_,_,_,_,_,h=>by simp[hy]at h
 |_+1,_,_,_,_,[],_,_,h=>by simp[hy]at h
 |n+1,k,s,ts,gs,w::l,g,r,h=>by
  simp only[hy]at h;split at h
  ·split at h
   ·rename_i aa;cases h;exact⟨rfl,aa,rfl,fun t aI=>List.mem_map_of_mem aI,fun x ad=>ad⟩
   ·cases h
  ·split at h
   ·split at h
    ·obtain⟨I,J,av,aV,bE⟩:=CS n k s ts _ _ g r h;exact⟨I,J,av,aV,fun x ad=>bE x (by simp[ad])⟩
    ·cases h
   ·split at h
    ·obtain⟨I,J,av,aV,bE⟩:=CS n k s _ gs _ g r h;exact⟨I,J,av,fun t aI=>aV t (by simp[aI]),bE⟩
    ·cases h
theorem Gs:∀{l:List Gm},qc l=true->∀x∈l,x.shape=true
 |[],_,x,h=>by simp at h
 |y::l,h,x,ad=>by
  simp only[qc,bB]at h;rcases gH.1 ad with rfl|ad
  ·exact h.1
  ·exact Gs h.2 x ad
theorem se{g:Gm}(h:g.shape=true):∀t∈g.ts,t.fits=true:=by
 cases g with
 |mk k s ts gs=>simp only[Gm.shape,bB,gC]at h;exact h.1
theorem qd{g:Gm}(h:g.shape=true)(aa:uu g.kind=true):∀x∈g.gs,x.shape=true:=by
 cases g with
 |mk k s ts gs=>
  have aa:(k=7\/k=8)\/k=10:=by simpa[uu,Gm.kind]using aa
  simp only[Gm.shape,bB]at h;have J:=h.2;rw[bf Ω,bf Ω]at J;split at J
  ·simp only[bB]at J;exact Gs J.2
  ·rw[bN Ω]at J;simp only[bB]at J;exact Gs J.2
theorem K8{g:Gm}(h:g.shape=true)(aa:g.kind=9):fw g.name=true:=by
 cases g with
 |mk k s ts gs=>simp only[Gm.kind]at aa;subst aa;simp only[Gm.shape,bB]at h;have J:=h.2;simp at J;exact J.1.1
mutual
theorem S7:∀(n:Nat) (l:List (List aF)) (g:Gm) (r:List (List aF)),gA jj hdS n l=some (g,r)->g.shape=true->gA qg pP n l=some (g,r)
 |0,_,_,_,h,_=>by simp[gA]at h
 |_+1,[],_,_,h,_=>by simp[gA]at h
 |n+1,w::l,g,r,h,aO=>by
  simp only[gA]at h⊢;split at h
  ·rename_i e;rw[bN e];exact h
  ·rename_i aq;rw[bf aq];split at h
   ·rename_i e;rw[bN e];exact h
   ·rename_i aU;rw[bf aU];split at h
    ·rename_i bR;rw[bN bR];cases l with
     |nil=>exact h
     |cons v l=>
      simp only at h⊢;cases bK:hdS v with
      |none=>rw[bK]at h;cases h
      |some x=>
       obtain⟨k,s⟩:=x;rw[bK]at h;simp only at h;obtain⟨m1,m2,m3,_⟩:=CS n k s [] [] l g r h;have aw:pP v=some (k,s):=by
        unfold hdS at bK;unfold pP;split at bK
        ·cases bK;omega
        ·split at bK
         ·cases bK;omega
         ·cases aa:vJ v with
          |some bz=>rw[aa]at bK;exact bK
          |none=>rw[aa]at bK;cases bK;have:=K8 aO m1;rw[m3]at this;simp[this]
       rw[aw];exact KG n k s [] [] l g r h aO
    ·cases h
theorem KG:∀(n:Nat) (k:Int) (s:List aF) (ts:List T) (gs:List Gm) (l:List (List aF)) (g:Gm) (r:List (List aF)),hy jj hdS n k s ts gs l=some (g,r)->g.shape=true->hy qg pP n k s ts gs l=some (g,r)
 |0,_,_,_,_,_,_,_,h,_=>by simp[hy]at h
 |_+1,_,_,_,_,[],_,_,h,_=>by simp[hy]at h
 |n+1,k,s,ts,gs,w::l,g,r,h,aO=>by
  simp only[hy]at h⊢;split at h
  ·rename_i e;rw[bN e];exact h
  ·rename_i e;rw[bf e];split at h
   ·rename_i aK;rw[bN aK];cases hr:gA jj hdS n (w::l)with
    |none=>rw[hr]at h;cases h
    |some x=>obtain⟨eK,dt⟩:=x;rw[hr]at h;simp only at h;obtain⟨m1,_,_,_,m5⟩:=CS n k s ts _ dt g r h;rw[S7 n _ _ _ hr (qd aO (by rw[m1];exact aK) eK (m5 eK Ψ))];exact KG n k s ts _ dt g r h aO
   ·rename_i aK;rw[bf aK];cases hr:jj (w::l)with
    |none=>rw[hr]at h;cases h
    |some x=>obtain⟨eB,dt⟩:=x;rw[hr]at h;simp only at h;obtain⟨_,_,_,m4,_⟩:=CS n k s _ gs dt g r h;have aM:=se aO _ (m4 eB Ψ);rw[ba.fits_T]at aM;rw[af3 hr aM];exact KG n k s _ gs dt g r h aO
end
theorem af0:∀{a b:T},a.tm=b.tm->a=b:=by
 intro a;induction a with
 |nil=>intro b h;cases b<;>simp[T.tm]at h⊢
 |var n=>intro b h;cases b<;>simp[T.tm]at h⊢;exact h
 |sym s=>intro b h;cases b<;>simp[T.tm]at h⊢;exact h
 |num n=>intro b h;cases b<;>simp[T.tm]at h⊢;exact h
 |pair x y Jt Ju=>intro b h;cases b<;>simp[T.tm]at h⊢;exact⟨Jt h.1,Ju h.2⟩
open Classical in
noncomputable def ji(t:ba):List aF:=if h:∃x:T,x.tm=t then dB (Classical.choose h)else []
theorem Lk(x:T):ji x.tm=dB x:=by have h:∃y:T,y.tm=x.tm:=⟨x,rfl⟩;unfold ji;rw[dif_pos h,af0 (Classical.choose_spec h)]
def gv(b:List aF):List (List aF)->List aF
 |[]=>[]
 |[x]=>x
 |x::y::r=>x++b++gv b (y::r)
theorem QW(b:List aF)(x:List aF):∀l:List (List aF),l≠[]->gv b (l++[x])=gv b l++b++x
 |[],h=>absurd rfl h
 |[y],_=>by simp[gv]
 |y::z::r,_=>by have:=QW b x (z::r) Ψ;simp only[iT,gv]at this⊢;rw[this];simp
theorem ab8(b:List aF)(l:List (List aF)){k:Nat}{x:List aF}(h:l[k]? =some x):gv b (l.take (k+1))=if k=0 then x else gv b (l.take k)++b++x:=by
 have aa:=(cX.1 h).1;have aI:l.take (k+1)=l.take k++[x]:=by rw[jw,h];rfl
 rw[aI];by_cases bD:k=0
 ·subst bD;simp[gv]
 ·rw[bf bD,QW];intro e;have:=fT List.length e;rw[pt]at this;simp only[nj]at this;omega
def kM(k:Int):List aF:=if k=0 then ng else if k=1 then nP else if k=2 then yA else if k=3 then yz else if k=4 then sq else if k=5 then sn else if k=6 then sj else if k=7 then sk else if k=8 then sp else if k=10 then sl else []
mutual
noncomputable def fl:Gm->List aF
 | .mk k s t g=>if k=0\/k=1 then kM k else 40::(gv [32] ((if k=9 then s else kM k)::(t.map ji++xf g))++[41])
noncomputable def xf:List Gm->List (List aF)
 |[]=>[]
 |x::xs=>fl x::xf xs
end
theorem HU:∀l,xf l=l.map fl
 |[]=>rfl
 |x::xs=>by simp[xf,HU xs]
theorem y5(g:Gm):fl g=if g.kind=0\/g.kind=1 then kM g.kind else 40::(gv [32] ((if g.kind=9 then g.name else kM g.kind)::(g.ts.map ji++g.gs.map fl))++[41]):=by cases g;rw[fl,HU];rfl
def gK(w:List aF):Int:=if w=[40]then 1 else if w=[41]then-1 else 0
def ea:List (List aF)->Int
 |[]=>0
 |w::r=>gK w+ea r
theorem vx:∀(a b:List (List aF)),ea (a++b)=ea a+ea b
 |[],b=>by simp[ea]
 |w::a,b=>by simp only[iT,ea,vx a b];omega
def rG(p:List (List aF)):Prop:=p≠[]/\ea p=0/\∀k,0<k->k<p.length->0<ea (p.take k)
def l8(p:List (List aF)):Prop:=ea p= -1/\∀k,k<p.length->0<=ea (p.take k)
theorem vC{w:List aF}(I:w≠[40])(J:w≠[41]):rG [w]:=by refine⟨Ψ,by simp[ea,gK,I,J],fun k av aV=>?_⟩;simp at aV;omega
theorem DL{p:List (List aF)}(h:l8 p):rG ([40]::p):=by refine⟨Ψ,by simp only[ea,h.1];rfl,fun k I J=>?_⟩;obtain⟨k,rfl⟩:∃j,k=j+1:=⟨k-1,Ω⟩;have:=h.2 k (by simpa using J);simp only[pz,ea];have:gK [40]=1:=rfl;omega
theorem ZA{p:List (List aF)}(h:rG p)(k:Nat):0<=ea (p.take k):=by
 rcases Nat.eq_zero_or_pos k with rfl|aa
 ·simp[ea]
 ·by_cases aE:k<p.length
  ·have:=h.2.2 k aa aE;omega
  ·rw[pw Ω,h.2.1];exact Int.le_refl _
theorem rH{p q:List (List aF)}(h:rG p)(bG:l8 q):l8 (p++q):=by
 refine⟨by rw[vx,h.2.1,bG.1];rfl,fun k aa=>?_⟩;rw[List.take_append,vx];have I:=ZA h k;by_cases aE:k<=p.length
 ·rw[show k-p.length=0 by omega];simp[ea];exact I
 ·have e:p.take k=p:=pw Ω;rw[e,h.2.1];have:=bG.2 (k-p.length) (by simp at aa;omega);omega
theorem A2:l8 [[41]]:=⟨rfl,fun k aa=>by
 have:k=0:=by simp at aa;omega
 subst this;simp[ea]⟩
mutual
theorem KK{at':List aF->be T}:∀(n:Nat) (l:List (List aF)) (t:T) (r:List (List aF)),rd at' n l=some (t,r)->∃p,l=p++r/\rG p
 |0,_,_,_,h=>by simp[rd]at h
 |_+1,[],_,_,h=>by simp[rd]at h
 |n+1,w::l,t,r,h=>by
  simp only[rd]at h;split at h
  ·rename_i e;obtain⟨p,I,J⟩:=QM n l [] t r h;exact⟨[40]::p,by rw[e,I];rfl,DL J⟩
  ·rename_i aq;split at h
   ·cases h
   ·rename_i aU;cases b4:at' w with
    |none=>rw[b4]at h;cases h
    |some x=>rw[b4]at h;cases h;exact⟨[w],rfl,vC aq fun e=>aU (.inl e)⟩
theorem QM{at':List aF->be T}:∀(n:Nat) (l:List (List aF)) (acc:List T) (t:T) (r:List (List aF)),cM at' n l acc=some (t,r)->∃p,l=p++r/\l8 p
 |0,_,_,_,_,h=>by simp[cM]at h
 |_+1,[],_,_,_,h=>by simp[cM]at h
 |n+1,w::l,acc,t,r,h=>by
  simp only[cM]at h;split at h
  ·rename_i e;cases h;exact⟨[[41]],by rw[e];rfl,A2⟩
  ·split at h
   ·rename_i e;split at h
    ·cases h
    ·split at h
     ·rename_i x v dt hr;split at h
      ·rename_i WA;cases h;obtain⟨p,I,J⟩:=KK n l x (v::r) hr;refine⟨[46]::(p++[[41]]),by rw[e,I,WA];simp,?_⟩;have:=rH (vC (w:=[46]) (by decide) (by decide)) (rH J A2);simpa using this
      ·cases h
     ·cases h
   ·split at h
    ·rename_i x dt hr;obtain⟨p,I,J⟩:=KK n (w::l) x dt hr;obtain⟨q,av,aV⟩:=QM n dt _ t r h;exact⟨p++q,by rw[I,av];simp,rH J aV⟩
    ·cases h
end
def Lr(tr:List (List aF)->be (T×List (List aF))):Prop:= ∀l t r,tr l=some (t,r)->∃p,l=p++r/\rG p
def Iv(a7:List aF->be (Int×List aF)):Prop:= ∀h x,a7 h=some x->h≠[40]/\h≠[41]
theorem T1:Lr qg:=fun l t r h=>by
 unfold qg at h;split at h
 ·rename_i x y hr;split at h
  ·cases h;exact KK _ _ _ _ hr
  ·cases h
 ·cases h
theorem PO:Iv pP:=fun h x e=>by constructor<;>(rintro rfl;revert e;simp[pP,vJ,fw,ju,gM,yA,yz,sq,sn,sj,sk,sp,sl,ng,nP,km,low])
mutual
theorem KJ{tr:List (List aF)->be (T×List (List aF))}(aI:Lr tr){a7:List aF->be (Int×List aF)}(bK:Iv a7):∀(n:Nat) (l:List (List aF)) (g:Gm) (r:List (List aF)),gA tr a7 n l=some (g,r)->∃p,l=p++r/\rG p
 |0,_,_,_,h=>by simp[gA]at h
 |_+1,[],_,_,h=>by simp[gA]at h
 |n+1,w::l,g,r,h=>by
  simp only[gA]at h;split at h
  ·rename_i e;cases h;exact⟨[w],rfl,by rw[e];exact vC (by decide) (by decide)⟩
  ·split at h
   ·rename_i e;cases h;exact⟨[w],rfl,by rw[e];exact vC (by decide) (by decide)⟩
   ·split at h
    ·rename_i e;split at h
     ·cases h
     ·rename_i v cQ;split at h
      ·rename_i k s aa;obtain⟨p,I,J⟩:=KH aI bK n _ _ _ _ _ g r h;have av:=bK _ _ aa;refine⟨[40]::v::p,by rw[e,I];rfl,DL ?_⟩;have:=rH (vC av.1 av.2) J;simpa using this
      ·cases h
    ·cases h
theorem KH{tr:List (List aF)->be (T×List (List aF))}(aI:Lr tr){a7:List aF->be (Int×List aF)}(bK:Iv a7):∀(n:Nat) (k:Int) (s:List aF) (ts:List T) (gs:List Gm) (l:List (List aF)) (g:Gm) (r:List (List aF)),hy tr a7 n k s ts gs l=some (g,r)->∃p,l=p++r/\l8 p
 |0,_,_,_,_,_,_,_,h=>by simp[hy]at h
 |_+1,_,_,_,_,[],_,_,h=>by simp[hy]at h
 |n+1,k,s,ts,gs,w::l,g,r,h=>by
  simp only[hy]at h;split at h
  ·rename_i e;split at h
   ·cases h;exact⟨[[41]],by rw[e];rfl,A2⟩
   ·cases h
  ·split at h
   ·split at h
    ·rename_i x dt hr;obtain⟨p,I,J⟩:=KJ aI bK n (w::l) x dt hr;obtain⟨q,av,aV⟩:=KH aI bK n _ _ _ _ _ g r h;exact⟨p++q,by rw[I,av];simp,rH J aV⟩
    ·cases h
   ·split at h
    ·rename_i x dt hr;obtain⟨p,I,J⟩:=aI (w::l) x dt hr;obtain⟨q,av,aV⟩:=KH aI bK n _ _ _ _ _ g r h;exact⟨p++q,by rw[I,av];simp,rH J aV⟩
    ·cases h
end
def Db(s:List aF):Bool:=gM s||(match h5 s with|some n=>decide (0<=n/\n<=100000)|none=>false)
def num:List (List aF)->List (List aF)->be (List (List aF)×List (List aF))
 |ns,[]=>some ([],ns)
 |ns,w::r=>match w with
  |63::s=>if Db s then(num (if w∈ns then ns else ns++[w]) r).map fun x=>((63::itoa (ns.idxOf w))::x.1,x.2)else none
  |_=>(num ns r).map fun x=>(w::x.1,x.2)
theorem uK(ns r:List (List aF))(w:List aF)(h:∀s,w≠63::s):num ns (w::r)=(num ns r).map fun x=>(w::x.1,x.2):=by
 conv=>lhs;unfold num
 split
 ·rename_i s;exact absurd rfl (h s)
 ·rfl
theorem FQ(ns r:List (List aF))(s:List aF):num ns ((63::s)::r)=if Db s then(num (if(63::s)∈ns then ns else ns++[63::s]) r).map fun x=>((63::itoa (ns.idxOf (63::s)))::x.1,x.2)else none:=by rw[num]
theorem Wn(s:List aF):gK (63::s)=0:=by simp[gK]
theorem Fk(w:List aF):(∃s,w=63::s)\/ ∀s,w≠63::s:=by
 cases w with
 |nil=>exact .inr Ψ
 |cons c s=>
  by_cases h:c=63
  ·exact .inl ⟨s,by rw[h]⟩
  ·exact .inr (by intro t e;cases e;exact h rfl)
theorem zO:∀(l ns cQ ms:List (List aF)),num ns l=some (cQ,ms)->cQ.length=l.length/\∀k,ea (cQ.take k)=ea (l.take k)
 |[],ns,cQ,ms,h=>by simp only[num,dL,gp]at h;obtain⟨rfl,rfl⟩:=h;simp
 |w::r,ns,cQ,ms,h=>by
  rcases Fk w with⟨s,rfl⟩|hw
  ·rw[FQ]at h;split at h
   ·simp only[hT]at h;obtain⟨⟨wH,wI⟩,ad,e⟩:=h;simp only[gp]at e;obtain⟨rfl,rfl⟩:=e;obtain⟨I,J⟩:=zO r _ wH wI ad;refine⟨by simp[I],fun k=>?_⟩;cases k with
    |zero=>rfl
    |succ k=>simp only[pz,ea,J k,Wn]
   ·cases h
  ·rw[uK _ _ _ hw]at h;simp only[hT]at h;obtain⟨⟨wH,wI⟩,ad,e⟩:=h;simp only[gp]at e;obtain⟨rfl,rfl⟩:=e;obtain⟨I,J⟩:=zO r _ wH wI ad;refine⟨by simp[I],fun k=>?_⟩;cases k with
   |zero=>rfl
   |succ k=>simp only[pz,ea,J k]
def vt:Int->List (List aF)->Nat
 |_,[]=>0
 |d,w::r=>if d+gK w<0 then 1 else vt (d+gK w) r+1
theorem NZ:∀(p r:List (List aF)) (d:Int),0<=d->d+ea p<0->(∀k,k<p.length->0<=d+ea (p.take k))->vt d (p++r)=p.length
 |[],r,d,bD,I,J=>by exfalso;simp[ea]at I;omega
 |w::p,r,d,bD,I,J=>by
  simp only[iT,vt];by_cases h:d+gK w<0
  ·rw[bN h];cases p with
   |nil=>rfl
   |cons v q=>exfalso;have:=J 1 Ψ;simp[ea]at this;omega
  ·rw[bf h,NZ p r (d+gK w) Ω (by simp only[ea]at I;omega) fun k aa=>by have:=J (k+1) (by simp;omega);simp only[pz,ea]at this;omega]
   rfl
theorem NY{p:List (List aF)}(h:l8 p)(r:List (List aF)):vt 0 (p++r)=p.length:=NZ p r 0 (Int.le_refl _) (by rw[h.1];decide) fun k aa=>by have:=h.2 k aa;omega
def my:Int->List (List aF)->be (Int×List (List aF))
 |_,[]=>none
 |k,w::r=>if w=[41]then some (k,r)else if w=63::itoa k then my (k+1) r else none
theorem Kr:∀(l:List (List aF)) (k j:Int) (r:List (List aF)),my k l=some (j,r)->∃p,l=p++r/\l8 p
 |[],_,_,_,h=>by simp[my]at h
 |w::l,k,j,r,h=>by
  simp only[my]at h;split at h
  ·rename_i e;cases h;exact⟨[[41]],by rw[e];rfl,A2⟩
  ·split at h
   ·rename_i e;obtain⟨p,I,J⟩:=Kr l _ j r h;refine⟨w::p,by rw[I];rfl,?_⟩;have:=rH (vC (w:=w) (by rw[e];simp) (by rw[e];simp)) J;simpa using this
   ·cases h
structure Rl where
 name:List aF
 ar:Int
 loc:Int
 body:Gm
 deriving Inhabited
def vw(name:List aF)(c:Nat)(l:List (List aF)):be (Rl×List (List aF)):=match my 0 l with
 |some (k,r)=>match gA qg pP (2*r.length+1) r with
  |some (g,[41]::fI)=>some (⟨name,k,c-k,g⟩,fI)
  |_=>none
 |none=>none
def qA(l:List (List aF)):Nat:=vt 0 l+vt 0 (l.drop (vt 0 l))
def A8:List (List aF)->be (Rl×List (List aF))
 |[40]::d::[40]::name::l=>if d=km then match num [] (l.take (qA l))with
   |some (cQ,ms)=>(vw name ms.length cQ).map fun x=>(x.1,l.drop (qA l-x.2.length))
   |none=>none
  else none
 |_=>none
theorem Ob{name:List aF}{c:Nat}{l r:List (List aF)}{x:Rl}(h:vw name c l=some (x,r)):∃p q,l=p++q++r/\l8 p/\l8 q/\x.name=name:=by
 unfold vw at h;cases bq:my 0 l with
 |none=>rw[bq]at h;cases h
 |some y=>
  obtain⟨k,fp⟩:=y;rw[bq]at h;simp only at h;obtain⟨p,I,J⟩:=Kr l 0 k fp bq;split at h
  ·rename_i g fI aO;cases h;obtain⟨q,av,aV⟩:=KJ T1 PO _ _ _ _ aO;exact⟨p,q++[[41]],by rw[I,av];simp,J,rH aV A2,rfl⟩
  ·cases h
theorem Oc{l r:List (List aF)}{name:List aF}{x:Rl}(aK:fw name=true):
  (A8 ([40]::km::[40]::name::l)=some (x,r))↔∃p ms cQ,l=p++r/\num [] p=some (cQ,ms)/\vw name ms.length cQ=some (x,[])/\rG ([40]::km::[40]::name::p):=by
 have EY:name≠[40]/\name≠[41]:=by constructor<;>(rintro rfl;revert aK;simp[fw,ju,gM,low,sq,sn,sj,sk,sp,sl,ng,nP,km])
 have aav:∀p q,l8 p->l8 q->rG ([40]::km::[40]::name::(p++q)):=by intro p q bq bG;have I:=rH (vC EY.1 EY.2) bq;have J:=DL I;have av:=rH J bG;have aV:=DL (rH (vC (w:=km) (by decide) (by decide)) av);simpa using aV
 have key:∀(p:List (List aF)) (ms cQ fI:List (List aF)),num [] p=some (cQ,ms)->vw name ms.length cQ=some (x,fI)->∃u v,p.take (u+v)=p.take (u+v)/\u+v+fI.length=p.length/\l8 (p.take u)/\l8 ((p.drop u).take v):=by
  intro p ms cQ fI I J;obtain⟨av,aV⟩:=zO p _ _ _ I;obtain⟨a,b,e,b4,af,_⟩:=Ob J;refine⟨a.length,b.length,rfl,by rw[<-av,e];simp;omega,?_,?_⟩
  ·refine⟨by rw[<-aV,e,l2,List.take_left];exact b4.1,fun k aa=>?_⟩;have gz:k<a.length:=by simp at aa;omega
   rw[List.take_take,Nat.min_eq_left Ω,<-aV,e,l2,List.take_append_of_le_length Ω];exact b4.2 k gz
  ·have a7:∀k,ea ((p.drop a.length).take k)=ea ((cQ.drop a.length).take k):=by
    intro k;have aq:ea (p.take (a.length+k))=ea (p.take a.length)+ea ((p.drop a.length).take k):=by rw[List.take_add,vx]
    have aU:ea (cQ.take (a.length+k))=ea (cQ.take a.length)+ea ((cQ.drop a.length).take k):=by rw[List.take_add,vx]
    have:=aV (a.length+k);have:=aV a.length;omega
   have aE:cQ.drop a.length=b++fI:=by rw[e,l2,List.drop_left]
   refine⟨by rw[a7,aE,List.take_left];exact af.1,fun k aa=>?_⟩;have gz:k<b.length:=by simp at aa;omega
   rw[List.take_take,Nat.min_eq_left Ω,a7,aE,List.take_append_of_le_length Ω];exact af.2 k gz
 have y3:∀(m:List (List aF)) (u v:Nat),l8 (m.take u)->l8 ((m.drop u).take v)->u+v<=m.length->qA m=u+v:=by
  intro m u v I J av;unfold qA;have aq:vt 0 m=u:=by have:=NY I (m.drop u);rw[List.take_append_drop]at this;rw[this];simp;omega
  rw[aq];have:=NY J ((m.drop u).drop v);rw[List.take_append_drop]at this;rw[this];simp;omega
 simp only[A8,if_true];constructor
 ·intro h;cases hb:num [] (l.take (qA l))with
  |none=>rw[hb]at h;cases h
  |some y=>
   obtain⟨cQ,ms⟩:=y;rw[hb]at h;simp only[hT]at h;obtain⟨⟨GG,fI⟩,ad,e⟩:=h;simp only[gp]at e;obtain⟨rfl,aU⟩:=e;obtain⟨u,v,_,E8,hu,aS⟩:=key _ _ _ _ hb ad;have hle:(l.take (qA l)).length<=qA l:=by simp;omega
   have IW:(l.take (qA l)).length<=l.length:=by simp;omega
   have Qs:l8 (l.take u):=by rw[List.take_take,Nat.min_eq_left Ω]at hu;exact hu
   have Qw:l8 ((l.drop u).take v):=by rw[List.drop_take,List.take_take,Nat.min_eq_left Ω]at aS;exact aS
   have cN:=y3 l u v Qs Qw Ω;have hlen:(l.take (qA l)).length=u+v:=by simp;omega
   have nC:fI=[]:=l3 Ω;subst nC;refine⟨l.take (qA l),ms,cQ,by rw[<-aU];simp,hb,ad,?_⟩;have:l.take (qA l)=l.take u++(l.drop u).take v:=by rw[cN,List.take_add]
   rw[this];exact aav _ _ Qs Qw
 ·rintro⟨p,ms,cQ,rfl,I,J,_⟩;obtain⟨u,v,_,E8,hu,aS⟩:=key _ _ _ _ I J;simp only[nj,Nat.add_zero]at E8;have cN:=y3 (p++r) u v (by rw[List.take_append_of_le_length Ω];exact hu) (by rw[List.drop_append_of_le_length Ω,List.take_append_of_le_length (by simp;omega)];exact aS) (by simp;omega)
  have aI:(p++r).take (qA (p++r))=p:=by rw[cN,E8,List.take_left]
  rw[aI,I];simp only[J,su];rw[cN,E8];simp
def mJ(p:List (List aF)):be Rl:=match num [] p with
 |some (_::d::b::name::l,ms)=>if d=km/\b=[40]then match my 0 l with
   |some (k,r)=>match gA jj hdS (2*r.length+1) r with
    |some (g,[_])=>some ⟨name,k,ms.length-k,g⟩
    |_=>none
   |none=>none
  else none
 |_=>none
def pG:Int->List (List aF)->be Nat
 |_,[]=>none
 |d,w::r=>if d+gK w<=0 then some 1 else(pG (d+gK w) r).map (· +1)
theorem Hu:∀(p r:List (List aF)) (d:Int),p≠[]->d+ea p<=0->(∀k,0<k->k<p.length->0<d+ea (p.take k))->pG d (p++r)=some p.length
 |[],_,_,h,_,_=>absurd rfl h
 |w::p,r,d,_,I,J=>by
  simp only[iT,pG];cases p with
  |nil=>rw[bN (by simp[ea]at I;omega)];rfl
  |cons v q=>
   have:=J 1 Ω Ψ;simp[ea]at this;rw[bf Ω,Hu (v::q) r (d+gK w) Ψ (by simp only[ea]at I⊢;omega) fun k aa fG=>by have:=J (k+1) Ω (by simp at fG⊢;omega);simp only[pz,ea]at this;omega]
   rfl
theorem Hv:∀(l:List (List aF)) (d:Int) (n:Nat),pG d l=some n->0<n/\n<=l.length/\d+ea (l.take n)<=0/\∀k,0<k->k<n->0<d+ea (l.take k)
 |[],_,_,h=>by simp[pG]at h
 |w::r,d,n,h=>by
  simp only[pG]at h;split at h
  ·cases h;exact⟨Ω,Ψ,by simp[ea];omega,fun k I J=>Ω⟩
  ·rename_i hw;simp only[hT]at h;obtain⟨m,hm,rfl⟩:=h;obtain⟨I,J,av,aV⟩:=Hv r _ m hm;refine⟨Ω,by simp;omega,by simp only[pz,ea];omega,fun k aa fG=>?_⟩;obtain⟨j,rfl⟩:∃j,k=j+1:=⟨k-1,Ω⟩;simp only[pz,ea];rcases Nat.eq_zero_or_pos j with rfl|al
   ·simp[ea];omega
   ·have:=aV j al Ω;omega
theorem Wl(w:List aF): -1<=gK w:=by unfold gK;split<;>(try split)<;>omega
theorem VF{l:List (List aF)}{n:Nat}(h:pG 0 l=some n):rG (l.take n)\/l.take n=[[41]]:=by
 obtain⟨I,J,av,aV⟩:=Hv l 0 n h;have hlen:(l.take n).length=n:=by simp;omega
 obtain⟨m,rfl⟩:∃m,n=m+1:=⟨n-1,Ω⟩;have nx:l.take (m+1)=l.take m++[l[m]]:=by rw[jw,bO Ω];rfl
 have aO:=Wl l[m];have Qq:ea (l.take (m+1))=ea (l.take m)+gK l[m]:=by rw[nx,vx];simp[ea]
 rcases Nat.eq_zero_or_pos m with rfl|hm
 ·rw[Qq]at av;simp[ea]at av;by_cases cn:gK l[0]=0
  ·left;exact⟨by rw[nx];simp,by rw[Qq,cn];simp[ea],fun k aa fG=>Ω⟩
  ·right;rw[nx];unfold gK at av cn;split at av
   ·omega
   ·split at av
    ·rename_i e;simp[e]
    ·rename_i bE ch;rw[bf bE,bf ch]at cn;omega
 ·left;have:=aV m hm Ω;refine⟨by rw[nx];exact List.append_ne_nil_of_right_ne_nil _ Ψ,Ω,fun k aa fG=>?_⟩;rw[hlen]at fG;rw[List.take_take,Nat.min_eq_left Ω];have:=aV k aa fG;omega
theorem RW{l ns cQ ms:List (List aF)}(h:num ns l=some (cQ,ms)):cQ.length=l.length:=(zO l ns cQ ms h).1
theorem J8{w:List aF}{r ns ms cQ:List (List aF)}{v:List aF}(h:num ns (w::r)=some (v::cQ,ms))(aS:∀s,v≠63::s):w=v/\num ns r=some (cQ,ms):=by
 rcases Fk w with⟨s,rfl⟩|hw
 ·rw[FQ]at h;split at h
  ·simp only[hT]at h;obtain⟨x,_,e⟩:=h;simp only[gp,AB]at e;exact absurd e.1.1.symm (aS _)
  ·cases h
 ·rw[uK _ _ _ hw]at h;simp only[hT]at h;obtain⟨⟨wH,wI⟩,ad,e⟩:=h;simp only[gp,AB]at e;obtain⟨⟨rfl,rfl⟩,rfl⟩:=e;exact⟨rfl,ad⟩
theorem Ta{s:List aF}(h:fw s=true):∀r,s≠63::r:=by unfold fw at h;simp only[bB]at h;exact acV h.2
theorem agQ:∀s,km≠63::s:=by simp[km]
theorem aeq:∀s,([40]:List aF)≠63::s:=by simp
theorem Od{p:List (List aF)}{x:Rl}(aO:rG p)(aK:fw x.name=true)(af:x.body.shape=true):
  mJ p=some x↔∃l ms cQ,p=[40]::km::[40]::x.name::l/\num [] l=some (cQ,ms)/\vw x.name ms.length cQ=some (x,[]):=by
 constructor
 ·intro h;unfold mJ at h;split at h
  ·rename_i w0 d b name cQ ms sY;split at h
   ·rename_i aaa;obtain⟨rfl,rfl⟩:=aaa;split at h
    ·rename_i k r bq;split at h
     ·rename_i g z hr;cases h;simp only at aK af;have hlen:=RW sY;simp at hlen;obtain⟨nf,iq,h7,As,l,rfl⟩:∃nf iq h7 As l,p=nf::iq::h7::As::l:=by
       match p,hlen with
       |[],h=>simp at h
       |[_],h=>simp at h
       |[_,_],h=>simp at h
       |[_,_,_],h=>simp at h
       |nf::iq::h7::As::l,_=>exact⟨nf,iq,h7,As,l,rfl⟩
      have B4:nf=[40]:=by
       have:=aO.2.2 1 Ω Ψ;simp[ea]at this;unfold gK at this;split at this
       ·assumption
       ·split at this<;>omega
      subst B4;rw[uK _ _ _ Ψ]at sY;simp only[hT]at sY;obtain⟨⟨GH,GI⟩,bC,e⟩:=sY;simp only[gp,AB]at e;obtain⟨⟨_,rfl⟩,rfl⟩:=e;obtain⟨aq,Fb⟩:=J8 bC agQ;obtain⟨aU,jH⟩:=J8 Fb aeq;obtain⟨bR,abA⟩:=J8 jH (Ta aK);clear bC Fb jH;subst aq;subst aU;subst bR;have bC:=abA;refine⟨l,_,cQ,rfl,bC,?_⟩;have tZ:=S7 _ _ _ _ hr af;obtain⟨b9,aq,BU⟩:=Kr cQ 0 k r bq;obtain⟨cx,aU,zw⟩:=KJ T1 PO _ _ _ _ tZ;have cn:z=[41]:=by
       have bD:=aO.2.1;have aE:=(zO l [] cQ _ bC).2 l.length;rw[jl,pw (by rw[RW bC];exact da _)]at aE;rw[aq,vx,BU.1,aU,vx,zw.2.1]at aE;simp only[ea]at bD aE;have a7:gK km=0:=by decide
       have tW:gK [40]=1:=rfl;have hM:gK As=0:=by unfold fw at aK;simp only[bB]at aK;have:=adb (abI aK.2);simp[gK,this]
       have Jq:gK z= -1:=Ω
       unfold gK at Jq;split at Jq
       ·omega
       ·split at Jq
        ·assumption
        ·omega
      subst cn;unfold vw;rw[bq];simp only;rw[tZ];rfl
     ·cases h
    ·cases h
   ·cases h
  ·cases h
 ·rintro⟨l,ms,cQ,rfl,I,J⟩;unfold vw at J;cases bq:my 0 cQ with
  |none=>rw[bq]at J;cases J
  |some y=>
   obtain⟨k,r⟩:=y;rw[bq]at J;simp only at J;split at J
   ·rename_i g fI tZ;simp only[dL,gp]at J;obtain⟨ad,rfl⟩:=J;unfold mJ;rw[uK _ _ _ Ψ,uK _ _ _ (by simp[km]),uK _ _ _ Ψ,uK _ _ _ (Ta aK),I];simp only[su,and_self,if_true,bq,S6 _ _ _ _ tZ,ad]
   ·cases J
def uR:Nat->List (List aF)->be (List Rl)
 |_,[]=>some []
 |0,_=>none
 |n+1,l=>match A8 l with
  |some (x,r)=>(uR n r).map (x:: ·)
  |none=>none
def ox:Nat->List (List aF)->be (List Rl)
 |_,[]=>some []
 |0,_=>none
 |n+1,l=>match pG 0 l with
  |some k=>match mJ (l.take k)with
   |some x=>(ox n (l.drop k)).map (x:: ·)
   |none=>none
  |none=>none
def Pp(P:List Rl):Prop:= ∀x∈P,fw x.name=true/\x.body.shape=true
theorem Ga:∀(n:Nat) (l:List (List aF)) (P:List Rl),Pp P->(uR n l=some P↔ox n l=some P)
 |n,[],P,_=>by cases n<;>simp[uR,ox]
 |0,w::l,P,_=>by simp[uR,ox]
 |n+1,w::l,P,gL=>by
  simp only[uR,ox];constructor
  ·intro h;cases a7:A8 (w::l)with
   |none=>rw[a7]at h;cases h
   |some y=>
    obtain⟨x,r⟩:=y;rw[a7]at h;simp only[hT]at h;obtain⟨Q,lH,rfl⟩:=h;obtain⟨aK,af⟩:=gL x Ψ;have ky:=a7;unfold A8 at ky;split at ky
    ·rename_i d name ajP e;split at ky
     ·rename_i fF;subst fF;have hM:x.name=name:=by
       split at ky
       ·simp only[hT]at ky;obtain⟨⟨GG,fI⟩,I,J⟩:=ky;cases J;exact(Ob I).choose_spec.choose_spec.2.2.2
       ·cases ky
      subst hM;rw[e]at a7;obtain⟨p,ms,cQ,I,J,av,aV⟩:=(Oc aK).1 a7;have nu:pG 0 (w::l)=some ([40]::km::[40]::x.name::p).length:=by rw[e,I];exact Hu ([40]::km::[40]::x.name::p) r 0 aV.1 (by rw[aV.2.1];decide) fun k aa fG=>by have:=aV.2.2 k aa fG;omega
      have Jo:w::l=([40]::km::[40]::x.name::p)++r:=by rw[e,I];rfl
      rw[nu];simp only;rw[Jo,List.take_left,List.drop_left];rw[(Od aV aK af).2 ⟨p,ms,cQ,rfl,J,av⟩];simp only;rw[(Ga n r Q fun y bC=>gL y (by simp[bC])).1 lH];rfl
     ·cases ky
    ·cases ky
  ·intro h;cases aD:pG 0 (w::l)with
   |none=>rw[aD]at h;cases h
   |some k=>
    rw[aD]at h;simp only at h;cases a7:mJ ((w::l).take k)with
    |none=>rw[a7]at h;cases h
    |some x=>
     rw[a7]at h;simp only[hT]at h;obtain⟨Q,lH,rfl⟩:=h;obtain⟨aK,af⟩:=gL x Ψ;rcases VF aD with aO|aO
     ·obtain⟨q,ms,cQ,I,J,av⟩:=(Od aO aK af).1 a7;have Jo:w::l=[40]::km::[40]::x.name::(q++(w::l).drop k):=by have:=List.take_append_drop k (w::l);rw[I]at this;exact this.symm
      have tZ:=(Oc (l:=q++(w::l).drop k) (r:=(w::l).drop k) (x:=x) aK).2 ⟨q,ms,cQ,rfl,J,av,by rw[<-I];exact aO⟩;rw[<-Jo]at tZ;rw[tZ];simp only;rw[(Ga n _ Q fun y bC=>gL y (by simp[bC])).2 lH];rfl
     ·rw[aO]at a7;simp[mJ,num]at a7
mutual
def ba.vs:ba->List Int
 | .mk k n _ a=>if k=1 then [n]else ba.vsL a
def ba.vsL:List ba->List Int
 |[]=>[]
 |x::xs=>x.vs++ba.vsL xs
end
mutual
def Gm.vs:Gm->List Int
 | .mk _ _ t g=>ba.vsL t++Gm.vsL g
def Gm.vsL:List Gm->List Int
 |[]=>[]
 |x::xs=>x.vs++Gm.vsL xs
end
mutual
def Gm.cf(P:List Rl):Gm->Bool
 | .mk k s t g=>if k=9 then(match P.find? fun r=>r.name==s with|some r=>r.ar==(t.length:Int)|none=>false)else Gm.cfL P g
def Gm.cfL(P:List Rl):List Gm->Bool
 |[]=>true
 |x::xs=>x.cf P&&Gm.cfL P xs
end
def Rl.ok(P:List Rl)(x:Rl):Bool:=fw x.name&&decide (0<=x.ar/\x.ar<=4)&&decide (0<=x.loc/\x.loc<=8)&&x.body.fits 60&&(x.body.vs.all fun v=>decide (v<x.ar+x.loc))&&x.body.cf P
def il(P:List Rl):Bool:=decide (P.length<=8)&&decide ((P.map Rl.name).Nodup)&&P.all (Rl.ok P)
theorem Ka{P:List Rl}(h:il P=true):Pp P:=by intro x ad;simp only[il,bB,gC]at h;have I:=h.2 x ad;simp only[Rl.ok,Gm.fits,bB]at I;exact⟨I.1.1.1.1.1,I.1.1.2.1⟩
def q7(o:be (List Rl)):be (List Rl):=o.bind fun P=>if il P then some P else none
theorem LI{o:be (List Rl)}{P:List Rl}:q7 o=some P↔o=some P/\il P=true:=by
 cases o with
 |none=>simp[q7]
 |some Q=>
  simp only[q7,Option.bind_some];by_cases lH:il Q=true
  ·rw[bN lH];simp only[dL];exact⟨fun e=>⟨e,e▸lH⟩,fun e=>e.1⟩
  ·rw[bf lH];simp only[dL,reduceCtorEq,false_iff];intro h;exact lH (h.1▸h.2)
theorem aet(n:Nat)(l:List (List aF)):q7 (uR n l)=q7 (ox n l):=by apply Option.ext;intro P;rw[LI,LI];exact⟨fun h=>⟨(Ga n l P (Ka h.2)).1 h.1,h.2⟩,fun h=>⟨(Ga n l P (Ka h.2)).2 h.1,h.2⟩⟩
structure Ix where
 op:Int
 a:Int
 b:Int
 g:Gm
structure Ey where
 name:List aF
 pos:Int
 ar:Int
 vars:Int
structure Cd where
 is:List Ix
 es:List Ey
def x5(g:Gm):Bool:=g.kind==0&&g.name==[]&&g.ts.isEmpty&&g.gs.isEmpty
def iY(es:List Ey)(s:List aF):Int:=match es.findIdx? fun e=>e.name==s with
 |some i=>i
 |none=> -1
def Cd.fin(c:Cd)(i:Nat):Int:=match c.es[i+1]? with
 |some e=>e.pos
 |none=>c.is.length
def yx(g:Gm)(n:Int):Prop:= ∀v∈g.vs,v<n
def rY(c:Cd)(e:Ey)(en:Int)(at':Int)(x:Ix):Prop:=
 (x.op≠0->x.op≠5->x5 x.g=true)/\
 (x.op=0->x.a=0/\x.b=0/\x.g.fits 80=true/\2<=x.g.kind/\x.g.kind<=6/\yx x.g e.vars)/\
 (x.op=5->x.a=0/\x.b=0/\x.g.fits 80=true/\x.g.kind=9/\yx x.g e.vars/\∃k f,iY c.es x.g.name=(k:Nat)/\c.es[k]? =some f/\f.ar=x.g.ts.length)/\
 (x.op=1->(at'<x.a/\e.pos<=x.a/\x.a<en)/\(0<=x.b/\x.b<=7)/\∃y,c.is[x.a.toNat]? =some y/\(y.op=1\/y.op=2)/\y.b=x.b+1)/\
 (x.op=2->x.a=0/\0<=x.b/\x.b<=7)/\
 (x.op=3->(at'<x.a/\e.pos<=x.a/\x.a<en)/\x.b=0)/\
 (x.op=4->x.a=0/\x.b=0)/\
 (x.op=6->x.a=0/\x.b=0/\at'=en-1)/\0<=x.op/\x.op<=6
def wM(c:Cd)(i:Nat)(e:Ey):Prop:=
 (i+1=c.es.length->e.name=[]/\e.ar=0)/\(i+1≠c.es.length->fw e.name=true/\iY c.es e.name=i)/\
 (0<=e.ar/\e.ar<=4)/\(e.ar<=e.vars/\e.vars<=100000)/\(0<=e.pos/\e.pos<c.is.length)/\∀p,0<i->c.es[i-1]? =some p->p.pos<e.pos
def Di(c:Cd)(i:Nat)(e:Ey):Prop:=(∀y,c.is[(c.fin i-1).toNat]? =some y->y.op=6)/\∀(k:Nat) x,e.pos<=k->(k:Int)<c.fin i->c.is[k]? =some x->rY c e (c.fin i) k x
def lE(c:Cd):Prop:=(∃e,c.es[0]? =some e/\e.pos=0)/\(∀i e,c.es[i]? =some e->wM c i e)/\∀i e,c.es[i]? =some e->Di c i e
def D0(es:List Ey)(s:List aF):Int:=iY (es.take (es.length-1)) s
def Zn(c:Cd)(x:Ix)(vars:Int):Prop:=
 (x.op≠0->x.op≠5->x5 x.g=true)/\(x.op=0\/x.op=5->x.g.fits 80=true/\yx x.g vars/\(x.op=0->2<=x.g.kind/\x.g.kind<=6)/\
  (x.op=5->x.g.kind=9/\∃k f,D0 c.es x.g.name=(k:Nat)/\c.es[k]? =some f/\(x.g.ts.length:Int)=f.ar))
def Fl(c:Cd)(e:Ey)(en:Int)(at':Int)(x:Ix):Prop:=
 (0<=x.op/\x.op<=6)/\(x.op=6↔at'=en-1)/\Zn c x e.vars/\(x.op=1\/x.op=3->at'+1<=x.a/\x.a<=en-1)/\(¬(x.op=1\/x.op=3)->x.a=0)/\
 (x.op=1\/x.op=2->0<=x.b/\x.b<=7)/\(¬(x.op=1\/x.op=2)->x.b=0)/\(x.op=1->∃y,c.is[x.a.toNat]? =some y/\(y.op=1\/y.op=2)/\y.b=x.b+1)
def UU(c:Cd)(e:Ey)(en:Int):Prop:= ∀(k:Nat) x,e.pos<=k->(k:Int)<en->c.is[k]? =some x->Fl c e en k x
def UN(c:Cd)(i:Nat)(e:Ey):Prop:=(e.pos<c.fin i/\0<=e.pos/\c.fin i<=c.is.length/\(0<=e.ar/\e.ar<=4)/\(e.ar<=e.vars/\e.vars<=100000))/\(i+1<c.es.length->fw e.name=true/\D0 c.es e.name=i)/\UU c e (c.fin i)
def DI(c:Cd):Prop:=(∃e,c.es[0]? =some e/\e.pos=0)/\(∃e,c.es[c.es.length-1]? =some e/\e.name=[]/\e.ar=0)/\∀i e,c.es[i]? =some e->UN c i e
theorem HK{es:List Ey}{s:List aF}{k:Nat}(h:iY es s=(k:Nat)):∃e,es[k]? =some e/\e.name=s/\∀(j:Nat) (f:Ey),j<k->es[j]? =some f->f.name≠s:=by
 unfold iY at h;cases aM:es.findIdx? fun e=>e.name==s with
 |none=>rw[aM]at h;simp only at h;omega
 |some i=>
  rw[aM]at h;have:i=k:=by simp only[Int.natCast_inj]at h;exact h
  subst this;obtain⟨I,J,av⟩:=List.findIdx?_eq_some_iff_getElem.1 aM;refine⟨es[i],bO I,by simpa using J,fun j f al EE=>?_⟩;have:=av j al;rw[bO Ω]at EE;cases EE;simpa using this
theorem DZ{es:List Ey}{s:List aF}{k:Nat}{e:Ey}(h:es[k]? =some e)(he:e.name=s)(aK:∀(j:Nat) (f:Ey),j<k->es[j]? =some f->f.name≠s):iY es s=(k:Nat):=by
 have aa:=(cX.1 h).1;have:es.findIdx? (fun e=>e.name==s)=some k:=by
  rw[List.findIdx?_eq_some_iff_getElem];refine⟨aa,?_,fun j al=>?_⟩
  ·rw[bO aa]at h;cases h;simp[he]
  ·have:=aK j _ al (bO Ω);simp[this]
 unfold iY;rw[this]
theorem Wu{es:List Ey}{s:List aF}(aK:∀(j:Nat) (f:Ey),es[j]? =some f->f.name≠s):iY es s= -1:=by
 have:es.findIdx? (fun e=>e.name==s)=none:=by rw[List.findIdx?_eq_none_iff];intro x ad;obtain⟨j,al⟩:=l4 ad;simp[aK j x al]
 unfold iY;rw[this]
theorem DY{es:List Ey}{l:Ey}(aE:es[es.length-1]? =some l)(aK:l.name=[]){s:List aF}(ao:s≠[])(k:Nat):iY es s=(k:Nat)↔D0 es s=(k:Nat):=by
 unfold D0;constructor
 ·intro h;obtain⟨e,I,J,av⟩:=HK h;have aa:=(cX.1 I).1;have gz:k<es.length-1:=by
   rcases hS k (es.length-1)with cr|cr
   ·exact cr
   ·have:k=es.length-1:=Ω
    subst this;rw[aE]at I;cases I;exact absurd (J.symm.trans aK) ao
  refine DZ (e:=e) (by rw[List.getElem?_take_of_lt gz];exact I) J fun j f al aM=>?_;rw[List.getElem?_take_of_lt Ω]at aM;exact av j f al aM
 ·intro h;obtain⟨e,I,J,av⟩:=HK h;have aa:k<es.length-1:=by have:=(cX.1 I).1;simp at this;omega
  rw[List.getElem?_take_of_lt aa]at I;exact DZ I J fun j f al aM=>av j f al (by rw[List.getElem?_take_of_lt Ω];exact aM)
theorem Fi{s:List aF}(h:fw s=true):s≠[]:=by rintro rfl;revert h;decide
theorem OZ{g:Gm}{n:Nat}(h:g.fits n=true)(aa:g.kind=9):fw g.name=true:=by
 cases g with
 |mk k s t gs=>simp only[Gm.kind]at aa;subst aa;simp only[Gm.fits,Gm.shape,bB]at h;have:=h.1.2;simp at this;exact this.1.1
theorem QP{c:Cd}{l:Ey}(aE:c.es[c.es.length-1]? =some l)(aK:l.name=[]){e:Ey}{en at':Int}(b4:e.pos<=at')(fZ:at'<en){x:Ix}(hr:at'=en-1->x.op=6):rY c e en at' x↔Fl c e en at' x:=by
 constructor
 ·rintro⟨I,J,av,aV,bE,ch,dD,fa,eb,e9⟩;refine⟨⟨eb,e9⟩,⟨fun h=>(fa h).2.2,hr⟩,⟨I,?_⟩,?_,?_,?_,?_,fun h=>(aV h).2.2⟩
  ·rintro(h|h)
   ·obtain⟨_,_,g1,g2,g3,g4⟩:=J h;exact⟨g1,g4,fun _=>⟨g2,g3⟩,fun cr=>Ω⟩
   ·obtain⟨_,_,g1,g2,g3,k,f,g4,g5,g6⟩:=av h;exact⟨g1,g3,fun cr=>Ω,fun _=>⟨g2,k,f,(DY aE aK (Fi (OZ g1 g2)) k).1 g4,g5,g6.symm⟩⟩
  ·rintro(h|h)
   ·have:=(aV h).1;omega
   ·have:=(ch h).1;omega
  ·intro h;have:x.op=0\/x.op=2\/x.op=4\/x.op=5\/x.op=6:=Ω
   rcases this with h|h|h|h|h
   ·exact(J h).1
   ·exact(bE h).1
   ·exact(dD h).1
   ·exact(av h).1
   ·exact(fa h).1
  ·rintro(h|h)
   ·exact(aV h).2.1
   ·exact(bE h).2
  ·intro h;have:x.op=0\/x.op=3\/x.op=4\/x.op=5\/x.op=6:=Ω
   rcases this with h|h|h|h|h
   ·exact(J h).2.1
   ·exact(ch h).2
   ·exact(dD h).2
   ·exact(av h).2.1
   ·exact(fa h).2.1
 ·rintro⟨⟨eb,e9⟩,fa,⟨I,J⟩,av,aV,bE,ch,dD⟩;refine⟨I,fun h=>?_,fun h=>?_,fun h=>?_,fun h=>?_,fun h=>?_,fun h=>?_,fun h=>?_,eb,e9⟩
  ·obtain⟨g1,g2,g3,_⟩:=J (.inl h);exact⟨aV Ω,ch Ω,g1,(g3 h).1,(g3 h).2,g2⟩
  ·obtain⟨g1,g2,_,g3⟩:=J (.inr h);obtain⟨g4,k,f,g5,g6,g7⟩:=g3 h;exact⟨aV Ω,ch Ω,g1,g4,g2,k,f,(DY aE aK (Fi (OZ g1 g4)) k).2 g5,g6,g7.symm⟩
  ·have:=av (.inl h);exact⟨Ω,bE (.inl h),dD h⟩
  ·exact⟨aV Ω,bE (.inr h)⟩
  ·have:=av (.inr h);exact⟨Ω,ch Ω⟩
  ·exact⟨aV Ω,ch Ω⟩
  ·exact⟨aV Ω,ch Ω,fa.1 h⟩
theorem Cd.fin_of{c:Cd}{i:Nat}{e:Ey}(h:c.es[i+1]? =some e):c.fin i=e.pos:=by unfold Cd.fin;rw[h]
theorem Cd.fin_last{c:Cd}{i:Nat}(h:c.es.length<=i+1):c.fin i=c.is.length:=by unfold Cd.fin;rw[List.getElem?_eq_none h]
theorem AE{c:Cd}(h:∀i e,c.es[i]? =some e->wM c i e){i:Nat}{e:Ey}(he:c.es[i]? =some e):e.pos<c.fin i/\c.fin i<=c.is.length:=by
 rcases hS (i+1) c.es.length with aw|aw
 ·obtain⟨f,aM⟩:∃f,c.es[i+1]? =some f:=⟨_,bO aw⟩;rw[Cd.fin_of aM];obtain⟨_,_,_,_,bE,ch⟩:=h _ _ aM;exact⟨ch e Ω (by simpa using he),Ω⟩
 ·rw[Cd.fin_last aw];obtain⟨_,_,_,_,bE,_⟩:=h _ _ he;omega
theorem VA(c:Cd):lE c↔DI c:=by
 constructor
 ·rintro⟨⟨ib,bD,I⟩,J,av⟩;have fb:=(cX.1 bD).1;obtain⟨l,aE⟩:∃l,c.es[c.es.length-1]? =some l:=⟨_,bO Ω⟩;have oa:=(J _ _ aE).1 Ω;refine⟨⟨ib,bD,I⟩,⟨l,aE,oa⟩,fun i e he=>?_⟩;have aM:=AE J he;obtain⟨bV,a2,a3,a4,a5,wV⟩:=J i e he;refine⟨⟨aM.1,a5.1,aM.2,a3,a4⟩,fun aw=>?_,fun k x fO fG ad=>?_⟩
  ·obtain⟨bQ,b3⟩:=a2 Ω;exact⟨bQ,(DY aE oa.1 (Fi bQ) i).1 b3⟩
  ·refine(QP aE oa.1 fO fG fun nx=>?_).1 ((av i e he).2 k x fO fG ad);refine(av i e he).1 x ?_;have:(c.fin i-1).toNat=k:=Ω
   rw[this];exact ad
 ·rintro⟨⟨ib,bD,I⟩,⟨l,aE,oa,aaS⟩,av⟩;refine⟨⟨ib,bD,I⟩,fun i e he=>?_,fun i e he=>?_⟩
  ·obtain⟨⟨bQ,b3,eV,l7,qv⟩,pF,oO⟩:=av i e he;have aw:=(cX.1 he).1;refine⟨fun h=>?_,fun h=>?_,l7,qv,⟨b3,Ω⟩,fun p bq E5=>?_⟩
   ·have:i=c.es.length-1:=Ω
    subst this;rw[aE]at he;cases he;exact⟨oa,aaS⟩
   ·obtain⟨cJ,c2⟩:=pF Ω;exact⟨cJ,(DY aE oa (Fi cJ) i).2 c2⟩
   ·obtain⟨⟨d1,_⟩,_⟩:=av _ _ E5;have:c.fin (i-1)=e.pos:=Cd.fin_of (by rw[show i-1+1=i from by omega];exact he);omega
  ·obtain⟨⟨bQ,b3,eV,l7,qv⟩,pF,oO⟩:=av i e he;refine⟨fun y bC=>?_,fun k x fO fG ad=>?_⟩
   ·have:=oO (c.fin i-1).toNat y Ω Ω bC;exact this.2.1.2 Ω
   ·refine(QP aE oa fO fG fun nx=>?_).2 (oO k x fO fG ad);exact(oO k x fO fG ad).2.1.2 nx
def j5(e:Ey):List aF:=e.name++([47]++(itoa e.ar++[58,10]))
noncomputable def ks(x:Ix):List aF:=
 if x.op=0 then [114,101,113,117,105,114,101,32]++fl x.g else if x.op=1 then [116,114,121,32]++(itoa x.a++([32]++itoa x.b))else if x.op=2 then [112,105,99,107,32]++itoa x.b
 else if x.op=3 then [106,117,109,112,32]++itoa x.a else if x.op=4 then [102,97,105,108]else if x.op=5 then [99,97,108,108,32]++fl x.g else if x.op=6 then [114,101,116,117,114,110]else []
noncomputable def gw(k:Nat)(x:Ix):List aF:=itoa k++([32]++(ks x++[10]))
noncomputable def ix(c:Cd)(a b:Nat):List aF:=((List.range' a (b-a)).map fun k=>match c.is[k]? with|some x=>gw k x|none=>[]).flatten
noncomputable def nr(c:Cd):Nat->List aF
 |0=>[]
 |n+1=>nr c n++(match c.es[n]? with|some e=>j5 e++ix c e.pos.toNat (c.fin n).toNat|none=>[])
noncomputable def oT(c:Cd):List aF:=nr c c.es.length
def kP(es:List Ey)(k:Nat):List aF:=((es.filter fun e=>e.pos==(k:Int)).map j5).flatten
noncomputable def mf(c:Cd):Nat->List aF
 |0=>[]
 |n+1=>mf c n++(kP c.es n++match c.is[n]? with|some x=>gw n x|none=>[])
theorem JN(c:Cd)(a:Nat):ix c a a=[]:=by simp[ix]
theorem lW(c:Cd){a b:Nat}(h:a<=b):ix c a (b+1)=ix c a b++match c.is[b]? with|some x=>gw b x|none=>[]:=by
 have:b+1-a=(b-a)+1:=Ω
 unfold ix;rw[this,List.range'_1_concat];simp[show a+(b-a)=b from by omega]
theorem SA{c:Cd}(h:∀i e,c.es[i]? =some e->wM c i e){i j:Nat}(rP:i<j):∀{e f:Ey},c.es[i]? =some e->c.es[j]? =some f->e.pos<f.pos:=by
 induction j with
 |zero=>omega
 |succ j a8=>
  intro e f he aM;obtain⟨_,_,_,_,_,ch⟩:=h _ _ aM;have al:j<c.es.length:=by have:=(cX.1 aM).1;omega
  obtain⟨g,aO⟩:∃g,c.es[j]? =some g:=⟨_,bO al⟩;have dD:=ch g Ω (by simpa using aO);rcases hS i j with b7|jc
  ·have:=a8 b7 he aO;omega
  ·have:i=j:=Ω
   subst this;rw[he]at aO;cases aO;exact dD
theorem YD{es:List Ey}{k:Int}{i:Nat}{e:Ey}(he:es[i]? =some e)(aa:e.pos=k)(aK:∀(j:Nat) (f:Ey),j≠i->es[j]? =some f->f.pos≠k):es.filter (fun e=>e.pos==k)=[e]:=by
 induction es generalizing i with
 |nil=>simp at he
 |cons x r a8=>
  cases i with
  |zero=>simp at he;subst he;rw[List.filter_cons_of_pos (by simp[aa])];congr 1;rw[List.filter_eq_nil_iff];intro f aM;obtain⟨j,al⟩:=l4 aM;have:=aK (j+1) f Ω (by simpa using al);simpa using this
  |succ i=>have ad:=aK 0 x Ω Ψ;rw[List.filter_cons_of_neg (by simpa using ad)];exact a8 (by simpa using he) fun j f al aM=>aK (j+1) f Ω (by simpa using aM)
theorem YB{es:List Ey}{k:Int}(aK:∀(j:Nat) (f:Ey),es[j]? =some f->f.pos≠k):es.filter (fun e=>e.pos==k)=[]:=by rw[List.filter_eq_nil_iff];intro f aM;obtain⟨j,al⟩:=l4 aM;simpa using aK j f al
theorem OV{c:Cd}(h:∀i e,c.es[i]? =some e->wM c i e){i:Nat}{e:Ey}(he:c.es[i]? =some e):∀d:Nat,(e.pos.toNat+d+1:Int)<=c.fin i->mf c (e.pos.toNat+d+1)=mf c e.pos.toNat++(j5 e++ix c e.pos.toNat (e.pos.toNat+d+1)):=by
 obtain⟨_,_,_,_,bE,_⟩:=h _ _ he;have aw:=(cX.1 he).1;have I3:∀(j:Nat) (f:Ey),j≠i->c.es[j]? =some f->f.pos<e.pos\/c.fin i<=f.pos:=by
  intro j f al aM;rcases hS j i with b7|jc
  ·exact .inl (SA h b7 aM he)
  ·right;have kO:=(cX.1 aM).1;obtain⟨g,aO⟩:∃g,c.es[i+1]? =some g:=⟨_,bO Ω⟩;rw[Cd.fin_of aO];rcases hS (i+1) j with I|I
   ·have:=SA h I aO aM;omega
   ·have:j=i+1:=Ω
    subst this;rw[aO]at aM;cases aM;omega
 intro d;induction d with
 |zero=>
  intro a7;have ao:kP c.es e.pos.toNat=j5 e:=by unfold kP;rw[YD he (k:=(e.pos.toNat:Int)) Ω fun j f al aM=>by have:=I3 j f al aM;omega];simp
  show mf c (e.pos.toNat+1)=_;rw[mf,ao,Nat.add_zero,lW c (da _),JN];simp
 |succ d a8=>
  intro a7;have ao:kP c.es (e.pos.toNat+d+1)=[]:=by
   unfold kP;rw[YB fun j f aM=>?_]
   ·rfl
   ·rcases Nat.lt_trichotomy j i with I|I|I
    ·have:=I3 j f Ω aM;omega
    ·subst I;rw[he]at aM;cases aM;omega
    ·have:=I3 j f Ω aM;omega
  show mf c (e.pos.toNat+d+1+1)=_;rw[mf,ao,a8 Ω,show e.pos.toNat+(d+1)+1=e.pos.toNat+d+1+1 from by omega,lW c (a:=e.pos.toNat) (b:=e.pos.toNat+d+1) Ω];simp
theorem H2{c:Cd}(h:lE c):oT c=mf c c.is.length:=by
 obtain⟨⟨ib,bD,I⟩,J,av⟩:=h;have key:∀n,n<c.es.length->nr c (n+1)=mf c (c.fin n).toNat:=by
  intro n;induction n with
  |zero=>
   intro aK;have aM:=AE J bD;have hr:=OV J bD (c.fin 0-ib.pos-1).toNat Ω;rw[I]at hr;have:Int.toNat 0+(c.fin 0-0-1).toNat+1=(c.fin 0).toNat:=Ω
   rw[this]at hr;rw[hr];simp[nr,bD,I,mf]
  |succ n a8=>
   intro aK;obtain⟨e,he⟩:∃e,c.es[n+1]? =some e:=⟨_,bO aK⟩;have aM:=AE J he;obtain⟨_,_,_,_,bE,_⟩:=J _ _ he;have hr:=OV J he (c.fin (n+1)-e.pos-1).toNat Ω;have:e.pos.toNat+(c.fin (n+1)-e.pos-1).toNat+1=(c.fin (n+1)).toNat:=Ω
   rw[this]at hr;rw[hr,nr,a8 Ω,Cd.fin_of he,he]
 have fb:=(cX.1 bD).1;have:=key (c.es.length-1) Ω;rw[show c.es.length-1+1=c.es.length from by omega,Cd.fin_last Ω]at this;simpa[oT]using this
end
end Go.Pv
namespace Go.Proofs.YtlnndmgfngfeiaaGreatDoor
section
open Go Go.Pv
def nF{α:Type}(p:α->Bool)(s:List α)(i:Nat)(_:Unit):Prop:= ∀k b,k<i->s[k]? =some b->p b=true
theorem nF.step{α:Type}{p:α->Bool}{s:List α}{i:Nat}(h:nF p s i ()){b:α}(af:s[i]? =some b)(bq:p b=true):nF p s (i+1) ():=fun k c aa aD=>by
 rcases hS k i with cr|cr
 ·exact h k c cr aD
 ·obtain rfl:k=i:=Ω
  rw[af]at aD;cases aD;exact bq
theorem nF.fin{α:Type}{p:α->Bool}{s:List α}(h:nF p s s.length ()):s.all p=true:=by rw[gC];intro b af;obtain⟨i,aw⟩:=List.mem_iff_getElem?.1 af;exact h i b (cX.1 aw).1 aw
theorem vm{α:Type}{p:α->Bool}{s:List α}{i:Nat}{b:α}(af:s[i]? =some b)(bq:p b=false):s.all p=false:=by rw[List.all_eq_false];exact⟨b,eR af,by rw[bq];simp⟩
theorem tB(l:List ba):cg aP 183 [.slice 4 .no (l.map enc)] (.bool (l.all ba.fits)):=by
 generalize bh:l.all ba.fits=R;refine bJ q5 XU adJ fun aG=>?_;unfold MY;have fW:l.length<=68719476736:=by simp[j1,iW,jA,bA]at aG;omega
 simp;refine fM (fun i (_:Unit)=>⟨[(5,.slice 4 .no (l.map enc)),(6,.int .i64 l.length),(7,.int .i64 i)],[],[],0,[]⟩) l.length (nF ba.fits l) () c8 (fun k b aa=>Ω) (fun _ al _=>?_) (fun i _ aw al _=>?_)
 ·have:R=true:=by rw[<-bh];exact al.fin
  subst this;clear al bh;exact bZ
 ·obtain⟨t,aI,E7⟩:=gd aw;have ei:=Ud t;cases g:t.fits
  ·rw[g]at ei;have:R=false:=by rw[<-bh];exact vm aI g
   subst this;clear aI al bh;exact bZ
  ·rw[g]at ei;have aK:=al.step aI g;clear aI al bh;exact qU
theorem Ly(s:List aF):cg aP 103 [.str s] (.bool (fw s)):=by
 have bX:=Ub s;by_cases h:ju.contains s=true
 ·have:fw s=false:=by unfold fw;rw[h];rfl
  rw[this];have hm:s∈ju:=by simpa using h
  simp only[ju,gH,List.not_mem_nil,or_false]at hm;rcases hm with rfl|rfl|rfl|rfl|rfl|rfl|rfl|rfl|rfl;all_goals
   refine bJ kk OC R4 fun aG=>?_;unfold G6
   clear aG bX
   simp[ng,nP,sq,sn,sj,sk,sp,sl,km]
   exact bZ
 ·have:fw s=gM s:=by unfold fw;rw[Bool.not_eq_true]at h;rw[h];rfl
  rw[this];have hm:∀w∈ju,(s==w)=false:=fun w hw=>by rw[jL];rintro rfl;exact h (by simpa using hw)
  simp only[ju,gH,List.not_mem_nil,or_false,forall_eq_or_imp,forall_eq]at hm;obtain⟨I,J,av,aV,bE,ch,dD,fa,eb⟩:=hm;simp only[ng,nP,sq,sn,sj,sk,sp,sl,km]at I J av aV bE ch dD fa eb;refine bJ kk OC R4 fun aG=>?_;unfold G6;clear aG;exact bZ
theorem Cj{α:Type}(l:List α):((l.length:Int)==0)=l.isEmpty:=by
 cases l with
 |nil=>rfl
 |cons a l=>simp;omega
theorem Ax(g:Gm):cg aP 171 [g.e] (.bool (x5 g)):=by
 refine bJ kk XP adE fun aG=>?_;unfold MT;clear aG;simp;((with_reducible repeat' first|refine aA ?_|simp|((first|apply cu|apply cw|apply cv)<;>intro h<;>try simp at h))<;>(try exact cK));all_goals simp[b1,SP,bn,bp,bk]
 all_goals simp_all[x5,Cj]
def ik(g:Gm)(room:Int):Int:=if g.shape=true/\(g.sz:Int)<=room then g.sz else-1
theorem x4{g:Gm}{room:Int}(h:g.shape=true)(J:(g.sz:Int)<=room):ik g room=g.sz:=bN ⟨h,J⟩
theorem wa{g:Gm}{room:Int}(h:g.shape=false):ik g room= -1:=bf fun J=>by rw[h]at J;cases J.1
theorem ac1{g:Gm}{room:Int}(h:room<g.sz):ik g room= -1:=bf fun J=>Ω
theorem pg(g:Gm):g.shape=(g.ts.all ba.fits&&(
  if 0<=g.kind/\g.kind<=6 then g.name==[]&&g.gs.isEmpty&&decide ((g.ts.length:Int)=kU g.kind)&&(g.kind !=6||(match g.ts with|x::_=>decide (x.kind=2)|[]=>false))
  else if g.kind=9 then fw g.name&&g.gs.isEmpty&&decide (g.ts.length<=4)
  else if g.kind=7\/g.kind=8 then g.name==[]&&g.ts.isEmpty&&decide (g.gs.length<=8)&&g.gs.all Gm.shape
  else if g.kind=10 then g.name==[]&&g.ts.isEmpty&&(match g.gs with|[x]=>decide (x.kind=9)|_=>false)&&g.gs.all Gm.shape
  else false)):=by
 have pN:∀l:List Gm,qc l=l.all Gm.shape:=by
  intro l;induction l with
  |nil=>rfl
  |cons x l a8=>simp[qc,a8]
 cases g;simp only[Gm.shape,Gm.kind,Gm.name,Gm.ts,Gm.gs,pN];rfl
theorem tw(g:Gm):g.sz=1+(g.gs.map Gm.sz).sum:=by
 have pN:∀l:List Gm,iu l=(l.map Gm.sz).sum:=by
  intro l;induction l with
  |nil=>rfl
  |cons x l a8=>simp[iu,a8]
 cases g;simp only[Gm.sz,Gm.gs,pN]
abbrev Ln:List (Int×ag):=np 6 (.int .i64 2) (np 5 (.int .i64 1) (np 4 (.int .i64 1) (np 3 (.int .i64 2) (np 2 (.int .i64 2) []))))
theorem r3(f:aJ->be (List ag))(m:aJ)(k:Int)(hm:f m=some (lY Ln)):qQ f .i (.int .i64 0) false (.gmap m) (.int .i64 k)=some (True,.int .i64 (kU k)):=by
 rw[mW _ _ _ _ false k hm];by_cases J:k=2
 ·subst J;rfl
 by_cases av:k=3
 ·subst av;rfl
 by_cases aV:k=4
 ·subst aV;rfl
 by_cases bE:k=5
 ·subst bE;rfl
 by_cases ch:k=6
 ·subst ch;rfl
 have:vn k Ln=none:=by have e:Ln=[(2,.int .i64 2),(3,.int .i64 2),(4,.int .i64 1),(5,.int .i64 1),(6,.int .i64 2)]:=rfl;rw[e];simp[vn,J,av,aV,bE,ch]
 rw[this];simp[kU,J,av,aV,bE,ch]
theorem aca(k:Int):k=0\/k=1\/k=2\/k=3\/k=4\/k=5\/k=6\/k=7\/k=8\/k=9\/k=10\/(k<0\/10<k):=Ω
theorem T2{α:Type}{l:List α}(h:l.length=2):∃x y,l=[x,y]:=by
 match l,h with
 |[x,y],_=>exact⟨x,y,rfl⟩
theorem Zr(g:Gm){room:Int}(h:room<1):cg aP 117 [g.e,.int .i64 room] (.int .i64 (-1)):=by refine bJ kk rC r8 fun aG=>?_;unfold qy;clear aG;exact bZ
theorem Zw(g:Gm){room:Int}(h:¬room<1)(aI:g.ts.all ba.fits=false):cg aP 117 [g.e,.int .i64 room] (.int .i64 (-1)):=by have ei:=tB g.ts;rw[aI]at ei;refine bJ kk rC r8 fun aG=>?_;unfold qy;clear aG;exact bZ
theorem Zp(g:Gm){room:Int}(h:¬room<1)(aI:g.ts.all ba.fits=true)(aa:0<=g.kind/\g.kind<=6):cg aP 117 [g.e,.int .i64 room] (.int .i64 (if g.shape then 1 else-1)):=by
 have ei:=tB g.ts;rw[aI]at ei;generalize bh:(if g.shape then(1:Int)else-1)=R;rw[pg,aI,bN aa,mD]at bh;have o0:g.kind=0\/g.kind=1\/g.kind=2\/g.kind=3\/g.kind=4\/g.kind=5\/g.kind=6:=Ω
 have af:∀l:List Gm,((l.length:Int) !=0)= !l.isEmpty:=fun l=>by simp only[bne,Cj]
 clear aa aI;rcases o0 with aa|aa|aa|aa|aa|aa|aa;all_goals
  rw[aa]at bh
  simp[kU]at bh
  refine bJ kk rC r8 fun aG=>?_;unfold qy
  clear aG
  simp
  simp[aa]
  ((with_reducible repeat' first|refine aA ?_|refine aX ei ?_|refine aY ei ?_|simp[h,aa,r3,kU,af,-mW]|((first|apply cu|apply cw|apply cv)<;>intro h<;>try simp at h))<;>(try exact cK))
  all_goals try(simp[b1,tp,bn,bp,bk];simp_all;done)
  all_goals
   obtain⟨x,y,e⟩:∃x y,g.ts=[x,y]:=T2 Ω
   simp only[e]at bh⊢
   simp
   ((with_reducible repeat' first|refine aA ?_|simp|((first|apply cu|apply cw|apply cv)<;>intro h<;>try simp at h))<;>(try exact cK))
   all_goals(simp[b1,tp,bn,bp,bk];simp_all;done)
theorem Zo(g:Gm){room:Int}(h:¬room<1)(aI:g.ts.all ba.fits=true)(aa:g.kind=9):cg aP 117 [g.e,.int .i64 room] (.int .i64 (if g.shape then 1 else-1)):=by
 have ei:=tB g.ts;rw[aI]at ei;have fc:=Ly g.name;generalize bh:(if g.shape then(1:Int)else-1)=R;have he:g.shape=(fw g.name&&g.gs.isEmpty&&decide (g.ts.length<=4)):=by rw[pg,aI,aa];rfl
 rw[he]at bh;clear he;have af:∀l:List Gm,((l.length:Int) !=0)= !l.isEmpty:=fun l=>by simp only[bne,Cj]
 have aD:decide ((4:Int)<g.ts.length)= !decide (g.ts.length<=4):=by
  by_cases h:g.ts.length<=4
  ·rw[k2 h];simp;omega
  ·rw[ly h];simp;omega
 cases aw:fw g.name;all_goals
  rw[aw]at fc bh
  refine bJ kk rC r8 fun aG=>?_;unfold qy
  clear aG
  simp
  simp[aa]
  ((with_reducible repeat' first|refine aA ?_|refine aX ei ?_|refine aY ei ?_|refine aX fc ?_|refine aY fc ?_|simp[h,aa,r3,kU,af,-mW]|((first|apply cu|apply cw|apply cv)<;>intro h<;>try simp at h))<;>(try exact cK))
  all_goals(simp[b1,tp,bn,bp,bk];simp_all)
  all_goals omega
theorem Zv(g:Gm){room:Int}(h:¬room<1)(aa:g.kind<0\/10<g.kind):cg aP 117 [g.e,.int .i64 room] (.int .i64 (-1)):=by
 have ei:=tB g.ts;have e:∀n:Int,0<=n->n<=10->(g.kind==n)=false:=fun n I J=>jL.2 Ω;have ib:=e 0 Ω Ω;have aq:=e 1 Ω Ω;have aU:=e 2 Ω Ω;have bR:=e 3 Ω Ω;have ds:=e 4 Ω Ω;have hn:=e 5 Ω Ω;have gY:=e 6 Ω Ω;have mc:=e 7 Ω Ω;have n1:=e 8 Ω Ω;have Wp:=e 9 Ω Ω;have Ws:=e 10 Ω Ω;clear e aa;cases aI:g.ts.all ba.fits;all_goals
  rw[aI]at ei
  refine bJ kk rC r8 fun aG=>?_;unfold qy
  clear aG
  simp
  (with_reducible repeat' first|refine aA ?_|refine aX ei ?_|refine aY ei ?_|simp[h,r3,ib,aq,aU,bR,ds,hn,gY,mc,n1,Wp,Ws,-mW])
  simp[b1,tp,bn,bp,bk]
set_option maxRecDepth 8000 in
theorem Zs(g:Gm){room:Int}(h:¬room<1)(aI:g.ts.all ba.fits=true)(aa:g.kind=7\/g.kind=8\/g.kind=10)(aK:g.name.isEmpty=false):cg aP 117 [g.e,.int .i64 room] (.int .i64 (-1)):=by
 have ei:=tB g.ts;rw[aI]at ei;rcases aa with aa|aa|aa;all_goals
  refine bJ kk rC r8 fun aG=>?_;unfold qy
  clear aG
  simp
  (with_reducible repeat' first|refine aA ?_|refine aX ei ?_|refine aY ei ?_|simp[h,r3,aa,aK,-mW])
  simp[b1,tp,bn,bp,bk]
set_option maxRecDepth 8000 in
theorem Zx(g:Gm){room:Int}(h:¬room<1)(aI:g.ts.all ba.fits=true)(aa:g.kind=7\/g.kind=8\/g.kind=10)(aK:g.name.isEmpty=true)(J:¬g.ts.length=0):cg aP 117 [g.e,.int .i64 room] (.int .i64 (-1)):=by
 have ei:=tB g.ts;rw[aI]at ei;have av:((g.ts.length:Int) !=0)=true:=by simpa using J
 rcases aa with aa|aa|aa;all_goals
  refine bJ kk rC r8 fun aG=>?_;unfold qy
  clear aG
  simp
  (with_reducible repeat' first|refine aA ?_|refine aX ei ?_|refine aY ei ?_|simp[h,r3,aa,aK,av,-mW])
  simp[b1,tp,bn,bp,bk]
set_option maxRecDepth 8000 in
theorem Zq(g:Gm){room:Int}(h:¬room<1)(aI:g.ts.all ba.fits=true)(aa:g.kind=7\/g.kind=8)(aK:g.name.isEmpty=true)(J:g.ts.length=0)(aV:¬g.gs.length<=8):cg aP 117 [g.e,.int .i64 room] (.int .i64 (-1)):=by
 have ei:=tB g.ts;rw[aI]at ei;have bE:(8:Int)<g.gs.length:=Ω
 rcases aa with aa|aa;all_goals
  refine bJ kk rC r8 fun aG=>?_;unfold qy
  clear aG
  simp
  (with_reducible repeat' first|refine aA ?_|refine aX ei ?_|refine aY ei ?_|simp[h,r3,aa,aK,J,bE,-mW])
  simp[b1,tp,bn,bp,bk]
set_option maxRecDepth 8000 in
theorem Zt(g:Gm){room:Int}(h:¬room<1)(aI:g.ts.all ba.fits=true)(aa:g.kind=10)(aK:g.name.isEmpty=true)(J:g.ts.length=0)(aV:¬g.gs.length=1):cg aP 117 [g.e,.int .i64 room] (.int .i64 (-1)):=by
 have ei:=tB g.ts;rw[aI]at ei;have bE:((g.gs.length:Int) !=1)=true:=by simp;omega
 refine bJ kk rC r8 fun aG=>?_;unfold qy;clear aG;simp;(with_reducible repeat' first|refine aA ?_|refine aX ei ?_|refine aY ei ?_|simp[h,r3,aa,aK,J,bE,-mW]);simp[b1,tp,bn,bp,bk]
set_option maxRecDepth 8000 in
theorem Zu(g:Gm){room:Int}(h:¬room<1)(aI:g.ts.all ba.fits=true)(aa:g.kind=10)(aK:g.name.isEmpty=true)(J:g.ts.length=0){x:Gm}(aV:g.gs=[x])(bE:¬x.kind=9):cg aP 117 [g.e,.int .i64 room] (.int .i64 (-1)):=by
 have ei:=tB g.ts;rw[aI]at ei;have ch:(x.kind !=9)=true:=by simpa using bE
 refine bJ kk rC r8 fun aG=>?_;unfold qy;clear aG;simp;(with_reducible repeat' first|refine aA ?_|refine aX ei ?_|refine aY ei ?_|simp[h,r3,aa,aK,J,aV,ch,-mW]);simp[b1,tp,bn,bp,bk]
theorem Ll{l:List Gm}{i:Nat}{x:Gm}(h:l[i]? =some x):((l.take (i+1)).map Gm.sz).sum=((l.take i).map Gm.sz).sum+x.sz:=by rw[jw,h];simp
theorem Li{l:List Gm}(i:Nat):((l.take i).map Gm.sz).sum<=(l.map Gm.sz).sum:=by
 conv=>rhs;rw[<-List.take_append_drop i l]
 rw[List.map_append,List.sum_append];omega
def l5(g:Gm)(room:Int)(i:Nat)(n:Int):bb:=⟨[(1,.int .i64 room),(6,.int .i64 n),(124,.slice 4 .no (g.gs.map Gm.e)),(125,.int .i64 g.gs.length),(126,.int .i64 i)],[],[],0,[]⟩
def yG(g:Gm)(room:Int)(i:Nat)(n:Int):Prop:=n=1+(((g.gs.take i).map Gm.sz).sum:Nat)/\nF Gm.shape g.gs i ()/\n<=room
set_option maxRecDepth 8000 in
theorem Po(g:Gm){room:Int}(h:¬room<1)(hr:room<=1000)(aI:g.ts.all ba.fits=true)(aa:g.kind=7\/g.kind=8\/g.kind=10)(aK:g.name.isEmpty=true)(J:g.ts.length=0)(aV:g.kind≠10->g.gs.length<=8)(bE:g.kind=10->∃x,g.gs=[x]/\x.kind=9)
  (dQ:g.shape=g.gs.all Gm.shape) (a8:∀x∈g.gs,∀r:Int,-1000<=r/\r<=1000->cg aP 117 [x.e,.int .i64 r] (.int .i64 (ik x r))):cg aP 117 [g.e,.int .i64 room] (.int .i64 (ik g room)):=by
 have ei:=tB g.ts;rw[aI]at ei;have zr:g.gs.length<=1000:=by
  rcases aa with aa|aa|aa
  ·have:=aV Ω;omega
  ·have:=aV Ω;omega
  ·obtain⟨x,ad,_⟩:=bE aa;rw[ad];simp
 have dD:g.kind≠10->¬(8:Int)<g.gs.length:=fun e=>by have:=aV e;omega
 rcases aa with aa|aa|aa;all_goals
  refine bJ kk rC r8 fun aG=>?_;unfold qy
  clear aG
  simp
 ·have fa:=dD Ω;clear aV bE dD;(with_reducible repeat' first|refine aA ?_|refine aX ei ?_|refine aY ei ?_|simp[h,r3,aa,aK,J,fa,-mW]);refine fM (l5 g room) g.gs.length (yG g room) 1 (by simp[l5];exact c8) ⟨Ψ,fun k b aa=>Ω,Ω⟩ (fun n al _=>?_) (fun i n aw al _=>?_)
  ·obtain⟨mV,lp,Ce⟩:=al;rw[jl]at mV;have:ik g room=n:=by rw[x4 (by rw[dQ];exact lp.fin) (by rw[tw];omega),tw];omega
   rw[this];clear mV lp a8 dQ this;simp[l5];exact bZ
  ·obtain⟨y,bC,h3⟩:=gd aw;obtain⟨mV,lp,Ce⟩:=al;have oe:=Ll bC;have vV:=Li (l:=g.gs) (i+1);have b2:aZ ((i:Int)+1):=by unfold aZ;omega
   have BW:aZ (room-n):=by unfold aZ;omega
   have ht:=a8 y (eR bC) (room-n) Ω;by_cases jH:y.shape=true/\(y.sz:Int)<=room-n
   ·rw[x4 jH.1 jH.2]at ht;have o2:aZ (n+y.sz):=by unfold aZ;omega
    have b7:¬(y.sz:Int)<0:=Ω
    have gr:yG g room (i+1) (n+y.sz):=⟨by rw[oe];omega,lp.step bC jH.1,Ω⟩;clear mV lp a8 dQ oe vV bC;simp[l5,aw,h3];(with_reducible repeat' first|refine aA ?_|refine aX ht ?_|refine aY ht ?_|simp[aw,h3,b2,BW,o2,b7]);refine bP.rng (n+y.sz) aw gr (by simp[l5];exact c8)
   ·have cn:ik y (room-n)= -1:=bf jH;rw[cn]at ht;have:ik g room= -1:=by
     unfold ik;rw[bf];rintro⟨g1,g2⟩;refine jH ⟨?_,?_⟩
     ·rw[dQ,gC]at g1;exact g1 y (eR bC)
     ·rw[tw]at g2;omega
    rw[this];clear mV lp a8 dQ oe vV bC jH cn this;simp[l5,aw,h3];exact bZ
 ·have fa:=dD Ω;clear aV bE dD;(with_reducible repeat' first|refine aA ?_|refine aX ei ?_|refine aY ei ?_|simp[h,r3,aa,aK,J,fa,-mW]);refine fM (l5 g room) g.gs.length (yG g room) 1 (by simp[l5];exact c8) ⟨Ψ,fun k b aa=>Ω,Ω⟩ (fun n al _=>?_) (fun i n aw al _=>?_)
  ·obtain⟨mV,lp,Ce⟩:=al;rw[jl]at mV;have:ik g room=n:=by rw[x4 (by rw[dQ];exact lp.fin) (by rw[tw];omega),tw];omega
   rw[this];clear mV lp a8 dQ this;simp[l5];exact bZ
  ·obtain⟨y,bC,h3⟩:=gd aw;obtain⟨mV,lp,Ce⟩:=al;have oe:=Ll bC;have vV:=Li (l:=g.gs) (i+1);have b2:aZ ((i:Int)+1):=by unfold aZ;omega
   have BW:aZ (room-n):=by unfold aZ;omega
   have ht:=a8 y (eR bC) (room-n) Ω;by_cases jH:y.shape=true/\(y.sz:Int)<=room-n
   ·rw[x4 jH.1 jH.2]at ht;have o2:aZ (n+y.sz):=by unfold aZ;omega
    have b7:¬(y.sz:Int)<0:=Ω
    have gr:yG g room (i+1) (n+y.sz):=⟨by rw[oe];omega,lp.step bC jH.1,Ω⟩;clear mV lp a8 dQ oe vV bC;simp[l5,aw,h3];(with_reducible repeat' first|refine aA ?_|refine aX ht ?_|refine aY ht ?_|simp[aw,h3,b2,BW,o2,b7]);refine bP.rng (n+y.sz) aw gr (by simp[l5];exact c8)
   ·have cn:ik y (room-n)= -1:=bf jH;rw[cn]at ht;have:ik g room= -1:=by
     unfold ik;rw[bf];rintro⟨g1,g2⟩;refine jH ⟨?_,?_⟩
     ·rw[dQ,gC]at g1;exact g1 y (eR bC)
     ·rw[tw]at g2;omega
    rw[this];clear mV lp a8 dQ oe vV bC jH cn this;simp[l5,aw,h3];exact bZ
 ·obtain⟨x,ad,aby⟩:=bE aa;clear aV bE dD;(with_reducible repeat' first|refine aA ?_|refine aX ei ?_|refine aY ei ?_|simp[h,r3,aa,aK,J,ad,aby,-mW]);refine fM (l5 g room) g.gs.length (yG g room) 1 (by simp[l5];exact⟨by simp[fresh,ai,ak,bc,ah,Pv.look,ad],cb (by simp[fresh,ai,ak,bc,ah,Pv.look,ad]),cc (by simp[fresh,ai,ak,b6,ah,Pv.look,ad]),Ψ⟩) ⟨Ψ,fun k b aa=>Ω,Ω⟩ (fun n al _=>?_) (fun i n aw al _=>?_)
  ·obtain⟨mV,lp,Ce⟩:=al;rw[jl]at mV;have:ik g room=n:=by rw[x4 (by rw[dQ];exact lp.fin) (by rw[tw];omega),tw];omega
   rw[this];clear mV lp a8 dQ this;simp[l5];exact bZ
  ·obtain⟨y,bC,h3⟩:=gd aw;obtain⟨mV,lp,Ce⟩:=al;have oe:=Ll bC;have vV:=Li (l:=g.gs) (i+1);have b2:aZ ((i:Int)+1):=by unfold aZ;omega
   have BW:aZ (room-n):=by unfold aZ;omega
   have ht:=a8 y (eR bC) (room-n) Ω;by_cases jH:y.shape=true/\(y.sz:Int)<=room-n
   ·rw[x4 jH.1 jH.2]at ht;have o2:aZ (n+y.sz):=by unfold aZ;omega
    have b7:¬(y.sz:Int)<0:=Ω
    have gr:yG g room (i+1) (n+y.sz):=⟨by rw[oe];omega,lp.step bC jH.1,Ω⟩;clear mV lp a8 dQ oe vV bC;simp[l5,aw,h3];(with_reducible repeat' first|refine aA ?_|refine aX ht ?_|refine aY ht ?_|simp[aw,h3,b2,BW,o2,b7]);refine bP.rng (n+y.sz) aw gr (by simp[l5];exact c8)
   ·have cn:ik y (room-n)= -1:=bf jH;rw[cn]at ht;have:ik g room= -1:=by
     unfold ik;rw[bf];rintro⟨g1,g2⟩;refine jH ⟨?_,?_⟩
     ·rw[dQ,gC]at g1;exact g1 y (eR bC)
     ·rw[tw]at g2;omega
    rw[this];clear mV lp a8 dQ oe vV bC jH cn this;simp[l5,aw,h3];exact bZ
theorem Uf:∀(n:Nat) (g:Gm),g.sz<=n->∀room:Int,-1000<=room/\room<=1000->cg aP 117 [g.e,.int .i64 room] (.int .i64 (ik g room)):=by
 intro n;induction n with
 |zero=>intro g aO;have:=g.sz_pos;omega
 |succ n a8=>
 intro g aO room hr;by_cases h:room<1
 ·rw[ac1 (by have:=g.sz_pos;omega)];exact Zr g h
 cases aI:g.ts.all ba.fits
 ·rw[wa (by rw[pg,aI];rfl)];exact Zw g h aI
 have leaf:∀ao:g.gs=[]\/g.shape=false,ik g room=if g.shape then 1 else-1:=by
  intro ao;cases dQ:g.shape
  ·rw[wa dQ];rfl
  ·rw[dQ]at ao;have ao:g.gs=[]:=by simpa using ao
   have I:g.sz=1:=by rw[tw,ao];rfl
   rw[x4 dQ Ω,I];rfl
 rcases aca g.kind with aa|aa|aa|aa|aa|aa|aa|aa|aa|aa|aa|aa;case inr.inr.inr.inr.inr.inr.inr.inr.inr.inr.inr=>rw[wa (by rw[pg,bf Ω,bf Ω,bf Ω,bf Ω,Bool.and_false])];exact Zv g h aa
 case inr.inr.inr.inr.inr.inr.inr.inr.inr.inl=>
  rw[leaf ?_]
  ·exact Zo g h aI aa
  ·by_cases ao:g.gs=[]
   ·exact .inl ao
   ·right;rw[pg,aI,aa];have:g.gs.isEmpty=false:=by simpa using ao
    simp[this]
 case inr.inr.inr.inr.inr.inr.inr.inl|inr.inr.inr.inr.inr.inr.inr.inr.inl|inr.inr.inr.inr.inr.inr.inr.inr.inr.inr.inl=>
  have gz:g.kind=7\/g.kind=8\/g.kind=10:=Ω
  have ll:=pg g;rw[aI,mD,bf Ω,bf Ω]at ll;cases aK:g.name.isEmpty
  ·have hb:(g.name==[])=false:=by simpa using aK
   rw[wa (by rw[ll,hb];simp)];exact Zs g h aI gz aK
  have hb:(g.name==[])=true:=by simpa using aK
  by_cases J:g.ts.length=0;rotate_left
  ·have tV:g.ts.isEmpty=false:=by simpa using J
   rw[wa (by rw[ll,tV];simp)];exact Zx g h aI gz aK J
  have tV:g.ts.isEmpty=true:=by simpa using J
  rw[hb,tV,mD]at ll;have mU:∀x∈g.gs,∀r:Int,-1000<=r/\r<=1000->cg aP 117 [x.e,.int .i64 r] (.int .i64 (ik x r)):=fun x ad r hr=>a8 x (by have:=g.gs_lt ad;omega) r hr;by_cases e9:g.kind=10
  ·rw[bf Ω,bN e9,mD]at ll;by_cases aV:g.gs.length=1
   ·obtain⟨x,ad⟩:=List.length_eq_one_iff.1 aV;by_cases eb:x.kind=9
    ·exact Po g h hr.2 aI gz aK J (fun e=>absurd e9 e) (fun _=>⟨x,ad,eb⟩) (by rw[ll,ad];simp[eb]) mU
    ·rw[wa (by rw[ll,ad];simp[eb])];exact Zu g h aI e9 aK J ad eb
   ·rw[wa (by
     rw[ll];match aO:g.gs with
     |[]=>rfl
     |[x]=>rw[aO]at aV;simp at aV
     |x::y::l=>rfl)]
    exact Zt g h aI e9 aK J aV
  ·have xr:g.kind=7\/g.kind=8:=Ω
   rw[bN xr,mD]at ll;by_cases aV:g.gs.length<=8
   ·exact Po g h hr.2 aI gz aK J (fun _=>aV) (fun e=>absurd e e9) (by rw[ll,k2 aV];rfl) mU
   ·rw[wa (by rw[ll,ly aV];rfl)];exact Zq g h aI xr aK J aV
 all_goals
  rw[leaf ?_]
  ·exact Zp g h aI Ω
  ·by_cases ao:g.gs=[]
   ·exact .inl ao
   ·right;rw[pg,aI,aa]
    have:g.gs.isEmpty=false:=by simpa using ao
    simp[this]
theorem Lx(g:Gm):cg aP 115 [g.e] (.bool (g.fits 80)):=by
 have dh:=Uf g.sz g (da _) 80 Ω;have af:decide ((0:Int)<ik g 80)=g.fits 80:=by
  unfold ik Gm.fits;have:=g.sz_pos;by_cases h:g.shape=true/\(g.sz:Int)<=80
  ·rw[bN h,h.1];simp;omega
  ·rw[bf h];cases ao:g.shape
   ·rfl
   ·rw[ao]at h;simp at h⊢;omega
 refine bJ kk Xz ado fun aG=>?_;unfold MD;clear aG;exact bZ
def Rv(l:List (Int×T)):List ag:=lY (l.map fun x=>(x.1,x.2.e))
@[simp]theorem aj0:Rv []=lY []:=rfl
@[simp]theorem akj(l:List (Int×T)):iB (Rv l)=false:=rfl
end
end Go.Proofs.YtlnndmgfngfeiaaGreatDoor
namespace Go.Proofs
section
open Go.Shelf
def Tryz.lays191_ren:Go.Shelf.Ren:=⟨fun|191=>213|189=>254|125=>202|257=>272|128=>240|129=>241|294=>284|295=>285|296=>286|297=>287|298=>288|299=>289|216=>290|300=>291|301=>292|328=>298|329=>299|330=>300|331=>301|332=>302|215=>303|343=>306|n=>n,fun|28=>136|0=>0|3=>3|46=>209|51=>265|53=>267|4=>4|183=>309|182=>308|131=>214|5=>5|9=>9|218=>319|222=>292|228=>328|229=>305|n=>n,fun|n=>n⟩
theorem Tryz.lays191:Go.Proofs.Lays.n191 aP Tryz.lays191_ren:={
 mixed:=by kernel_rfl
 f125:=Tryz.func202.trans (fT some (by kernel_rfl))
 f128:=Tryz.func240.trans (fT some (by kernel_rfl))
 f129:=Tryz.func241.trans (fT some (by kernel_rfl))
 f189:=Tryz.func254.trans (fT some (by kernel_rfl))
 f191:=Tryz.func213.trans (fT some (by kernel_rfl))
 f215:=Tryz.func303.trans (fT some (by kernel_rfl))
 f216:=Tryz.func290.trans (fT some (by kernel_rfl))
 f257:=Tryz.func272.trans (fT some (by kernel_rfl))
 f294:=Tryz.func284.trans (fT some (by kernel_rfl))
 f295:=Tryz.func285.trans (fT some (by kernel_rfl))
 f296:=Tryz.func286.trans (fT some (by kernel_rfl))
 f297:=Tryz.func287.trans (fT some (by kernel_rfl))
 f298:=Tryz.func288.trans (fT some (by kernel_rfl))
 f299:=Tryz.func289.trans (fT some (by kernel_rfl))
 f300:=Tryz.func291.trans (fT some (by kernel_rfl))
 f301:=Tryz.func292.trans (fT some (by kernel_rfl))
 f328:=Tryz.func298.trans (fT some (by kernel_rfl))
 f329:=Tryz.func299.trans (fT some (by kernel_rfl))
 f330:=Tryz.func300.trans (fT some (by kernel_rfl))
 f331:=Tryz.func301.trans (fT some (by kernel_rfl))
 f332:=Tryz.func302.trans (fT some (by kernel_rfl))
 f343:=Tryz.func306.trans (fT some (by kernel_rfl))
 t0:=Tryz.underlying0
 a0:=Tryz.isAgg0
 z0:=Tryz.sizeOf0
 v0:=Tryz.zeroValue0
 t3:=Tryz.underlying3
 a3:=Tryz.isAgg3
 z3:=Tryz.sizeOf3
 v3:=Tryz.zeroValue3
 t4:=Tryz.underlying4
 a4:=Tryz.isAgg4
 z4:=Tryz.sizeOf4
 v4:=Tryz.zeroValue4
 t5:=Tryz.underlying5
 a5:=Tryz.isAgg5
 z5:=Tryz.sizeOf5
 v5:=Tryz.zeroValue5
 t9:=Tryz.underlying9
 a9:=Tryz.isAgg9
 z9:=Tryz.sizeOf9
 v9:=Tryz.zeroValue9
 t28:=Tryz.underlying136
 a28:=Tryz.isAgg136
 z28:=Tryz.sizeOf136
 v28:=Tryz.zeroValue136
 t46:=Tryz.underlying209
 a46:=Tryz.isAgg209
 z46:=Tryz.sizeOf209
 v46:=Tryz.zeroValue209
 t51:=Tryz.underlying265
 a51:=Tryz.isAgg265
 z51:=Tryz.sizeOf265
 v51:=Tryz.zeroValue265
 t53:=Tryz.underlying267
 a53:=Tryz.isAgg267
 z53:=Tryz.sizeOf267
 v53:=Tryz.zeroValue267
 t131:=Tryz.underlying214
 a131:=Tryz.isAgg214
 z131:=Tryz.sizeOf214
 v131:=Tryz.zeroValue214
 t182:=Tryz.underlying308
 a182:=Tryz.isAgg308
 z182:=Tryz.sizeOf308
 v182:=Tryz.zeroValue308
 t183:=Tryz.underlying309
 a183:=Tryz.isAgg309
 z183:=Tryz.sizeOf309
 v183:=Tryz.zeroValue309
 t218:=Tryz.underlying319
 a218:=Tryz.isAgg319
 z218:=Tryz.sizeOf319
 v218:=Tryz.zeroValue319
 t222:=Tryz.underlying292
 a222:=Tryz.isAgg292
 z222:=Tryz.sizeOf292
 v222:=Tryz.zeroValue292
 t228:=Tryz.underlying328
 a228:=Tryz.isAgg328
 z228:=Tryz.sizeOf328
 v228:=Tryz.zeroValue328
 t229:=Tryz.underlying305
 a229:=Tryz.isAgg305
 z229:=Tryz.sizeOf305
 v229:=Tryz.zeroValue305}
end
end Go.Proofs

namespace Go.Proofs.YtlnndmgfngfeiaaGreatDoor
section
open Go Go.Pv
def dX(xs:List Int):List ag:=xs.map (ag.int .i64)
theorem Tj{w:World}{ν:aT}:∀{xs:List Int} {us:List Value},cI w ν 1 (dX xs) us->us=xs.map (mE .i64)
 |[],us,h=>by simpa[dX,cI]using h
 |x::xs,us,h=>by simp only[dX,eQ,cI]at h;obtain⟨u,bF,rfl,⟨I,_,_⟩,J⟩:=h;simp only[aR]at I;subst I;rw[Tj J];rfl
theorem QI(w:World)(ν:aT):∀xs:List Int,cI w ν 1 (dX xs) (xs.map (mE .i64))
 |[]=>by simp[dX,cI]
 |x::xs=>by simp only[dX,eQ,cI];exact⟨.int .i64 x,_,rfl,⟨by simp[aR],rfl,by intro c aD;simp[l1]at aD;subst aD;rfl⟩,QI w ν xs⟩
def mG(K:Nat)(xs:List Int):dM:=⟨[],[(.obj K,⟨xs.length,3,1,some (dX xs)⟩)]⟩
theorem tc(S:aJ->Prop)(xs:List Int):ai S (dX xs):=by
 induction xs with
 |nil=>simp[dX,ai]
 |cons x r a8=>simp only[dX,eQ,ai,ak];exact⟨trivial,a8⟩
theorem GN(K:Nat)(xs:List Int):fq (mG K xs):=by unfold mG;refine fq.of ⟨by intro m;simp[Pv.look],by intro m;simp[Pv.look]⟩ Ψ ?_;intro x ad ys bC;simp at ad;subst ad;simp at bC;subst bC;exact tc _ xs
def qe(xs:List Int):List Int:=xs.mergeSort fun x y=>decide (x<=y)
theorem Lc(xs:List Int):(qe xs).length=xs.length:=List.length_mergeSort xs
theorem Zh(K:Nat)(xs:List Int)(aE:xs.length<=1000000):bT aP 213 [.row 1 (.obj K) xs.length] (mG K xs) fun r aC=>r= .tuple []/\aC=mG K (qe xs):=by
 refine bT.sem (GN K xs).obj fun w ν vs _ gh hr=>?_;refine .inl ⟨⟨Tryz.f213,Tryz.func213,by kernel_rfl,by kernel_rfl⟩,?_⟩;have lR:=hr.slot 0;simp only[ki,Pv.get,if_true]at lR;have kA:Pv.look (.obj K) (mG K xs).e=some ⟨xs.length,3,1,some (dX xs)⟩:=by simp[mG,Pv.look]
 obtain⟨v,us,b9,cx,dp,c6⟩:=hr.good.own (.obj K) _ kA;obtain⟨cH,iD,p6⟩:=c6 _ rfl;have jV:=Tj iD;subst jV;simp only[aR]at lR;obtain⟨⟨qu,NH,vH⟩,_,n',u,aq,aU,bR⟩:=lR;rw[b9]at aq;simp only[dL,gp]at aq;obtain⟨rfl,rfl⟩:=aq;have aS:=bR rfl;have uq:vs= #[v]:=by
  have I:vs.size=1:=by simpa using gh
  apply Array.ext (by simpa using I);intro i J av;simp at av;subst av;rw[<-aS];simp[Array.getD,I]
 have cE:v≠ .slice none 0 0:=by rw[<-aS,vH];simp
 obtain⟨g,cap,rfl,_,mn,lf,aiO,aiP,ZH⟩:=Lib.holds_of_ownsRow cx cE;have aD:=Any.sort_Ints Tryz.lays191 g 0 cap xs w ZH mn Ω;subst uq;refine aD.mono ?_;rintro e w' ⟨rfl,n,os,rfl⟩;have lQ:=Lc xs;have kc:=Lib.ownsRow_putRow (q:=n) (k:=xs.length) (ys:=qe xs) cx lQ (da _);rw[pw Ω]at kc;obtain⟨iA,hv,_⟩:=hr.setRowM (w':=Sort.putRow (mE .i64) (Sort.ahead w n) g 0 (qe xs).toArray) kA rfl b9 (bl:=g) rfl (v':= .slice (some ⟨g,0,none⟩) xs.length cap) rfl (xs':=dX (qe xs)) (us:=(qe xs).map (mE .i64)) (.inl ⟨by simp[dX,lQ],rfl⟩) rfl rfl rfl
  (fun j al=>by simp[Sort.putRow,Sort.mapBlock,Sort.ahead,Array.getElem?_modify,Ne.symm al]) (by simp[Sort.putRow,Sort.mapBlock,Sort.ahead]) (by simpa[dX,lQ]using kc) (QI _ _ _)
 have uL:=iA.grown (w':=Sort.grow (Sort.putRow (mE .i64) (Sort.ahead w n) g 0 (qe xs).toArray) os) ⟨rfl,rfl,rfl,Ψ,fun k aa _=>Sort.heap_grow_old _ _ aa⟩;refine⟨_,_,_,_,.tuple [],mG K (qe xs),rfl,uL,by simp[aR,cD],by simp[mG,fB],?_,?_,?_,(GN K _).obj,by simp[ak,ai],rfl,rfl⟩
 ·simp[mG,fB,ah,Pv.look]
 ·intro k cs aa;simp[mG,Pv.look]at aa
 ·intro k o aa;have hm:=v7 aa;simp[mG]at hm;obtain⟨rfl,rfl⟩:=hm;refine⟨by simp[mG,Pv.look,cR,dX,lQ],.inr (by simp[aa]),fun ys bC=>?_⟩;simp at bC;subst bC;exact tc _ _
def nV(l:List Int):List ag:=lY (l.map fun x=>(x,.bool true))
theorem lq(S:aJ->Prop)(l:List Int):ai S (nV l):=by
 have:∀l:List Int,ai S (lb (l.map fun x=>(x,.bool true))):=by
  intro l;induction l with
  |nil=>simp[lb,ai]
  |cons x r a8=>simp[lb,ai,a8,ak]
 simp[nV,lY,ai,this,ak]
def qq(v:Int)(l:List Int):List Int:=if v∈l then l else l++[v]
theorem Mg(k:Int):∀l:List Int,qt k (.bool true) (l.map fun x=>(x,ag.bool true))=if k∈l then some (l.map fun x=>(x,ag.bool true))else none
 |[]=>rfl
 |i::r=>by
  by_cases h:k=i
  ·simp[qt,h]
  ·by_cases J:k∈r<;>simp[qt,h,J,Mg k r]
@[simp]theorem aj4(k:Int)(l:List Int):uD .i (.int .i64 k) (.bool true) (nV l)=some (nV (qq k l)):=by
 simp only[nV,acQ,np,Mg,qq];split<;>rename_i h
 ·split at h
  ·simp at h;subst h;simp[*]
  ·cases h
 ·split at h
  ·cases h
  ·simp[*]
@[simp]theorem ahq:nV []=lY []:=rfl
@[simp]theorem aki(l:List Int):iB (nV l)=false:=rfl
@[simp]theorem akn(m:aJ)(l:List Int):CR m (nV l)=some (bc l.length [] m):=by simp[nV]
theorem acJ(f:aJ->be (List ag))(gT mk:aJ)(n:Nat)(seen:List Nat)(b:Nat)(l:List Int)(x:Int)(aw:f gT=some (bc n (seen++[b]) mk))(hm:f mk=some (nV l))(aK:n=l.length)(ad:l[b]? =some x):tf f (.ptr gT 0)=some (True,.tuple [.int .i64 x,.bool true]):=by rw[acL f gT mk n seen b _ aw hm (by simpa using aK)];simp[ad]
theorem WB{st:bb}{d:Nat}{K:bb->Prop}{gT mk:aJ}{n:Nat}{seen:List Nat}{l:List Int}(aw:Pv.look gT st.b=some (bc n seen mk))(hm:Pv.look mk st.b=some (nV l))(aK:n=l.length)
  (I:(∀b,b<l.length->b∈seen)->K {st with t:=Pv.put d (.tuple [.bool false]) st.t}) (J:∀b x,l[b]? =some x->b∉seen->K {st with t:=Pv.put d (.tuple [.bool true,.int .i64 x,.bool true]) st.t,b:=cR gT (bc n (seen++[b]) mk) st.b}):
  xe st d (.ptr gT 0) K:=by
 refine WC aw hm (by simpa using aK) (fun h=>I fun b af=>h b Ω) (fun b k v af ao=>?_);simp only[oG,hT]at af;obtain⟨x,aq,aU⟩:=af;simp only[gp]at aU;obtain⟨rfl,rfl⟩:=aU;exact J b x aq ao
def _root_.Go.Pv.T.fold{α:Type}(f:Int->α->α):T->α->α
 | .var n,a=>f n a
 | .pair x y,a=>y.fold f (x.fold f a)
 |_,a=>a
theorem Y1{α:Type}(S:α->dM)(gy:∀a,fq (S a))(eu:∀a b,fJ (S a) (S b))(g:Nat)(dI:List ag)(aD:∀a,ai (ah (S a)) dI)(eZ:cO dI=dI)(f:Int->α->α)(aM:∀v a,bT aP g (.int .i64 v::dI) (S a) fun r aC=>r= .tuple []/\aC=S (f v a))(t:T):
  ∀a,bT aP 79 [t.e,.func g dI] (S a) fun r aC=>r= .tuple []/\aC=S (t.fold f a):=by
 have aK:∀a m,Pv.look (.loc m) (S a).b=none:=fun a=>(gy a).obj.1;have hu:∀a m cs,cR (.loc m) cs (S a).b=(S a).b++[(.loc m,cs)]:=fun a m cs=>T5 (aK a m);have aj:∀a m,aJ.loc m∉fY (S a):=fun a=>acC (gy a).obj;induction t with
 |pair x y Jt Ju=>intro a;have ao:=gy a;refine bT.mk mixed q5 HY Ki Ψ ao.obj fun aG b5=>?_;unfold DE;simp[hu,aj,r1,aK,eZ];(with_reducible repeat' first|refine aA ?_|simp[hu,aj,r1,aK]);refine bI.ob (Jt a) ao aH aH (by simp[aD]) ?_;rintro r aC ⟨rfl,rfl⟩;refine⟨eu _ _,?_⟩;simp[nh,Dd,bu,aK];(with_reducible repeat' first|refine aA ?_|simp[hu,aj,r1,aK]);rw[eZ];refine bI.ob (Ju (x.fold f a)) (gy (x.fold f a)) aH aH (by simp[aD]) ?_;rintro r aC ⟨rfl,rfl⟩;refine⟨eu _ _,?_⟩;simp[nh,Dd,bu,aK];refine ck.at (S (y.fold f (x.fold f a))) (.inr rfl) (gy _) (eu _ _) aH aH ?_;simp[cz,F4,bn,bp,bk];simp[T.fold]
 |var n=>intro a;have ao:=gy a;refine bT.mk mixed q5 HY Ki Ψ ao.obj fun aG b5=>?_;unfold DE;simp[hu,aj,r1,aK,eZ];(with_reducible repeat' first|refine aA ?_|simp[hu,aj,r1,aK]);refine bI.ob (aM n a) ao aH aH (by simp[aD]) ?_;rintro r aC ⟨rfl,rfl⟩;refine⟨eu _ _,?_⟩;simp[nh,Dd,bu,aK,r1];refine ck.at (S (f n a)) (.inr rfl) (gy _) (eu _ _) aH aH ?_;simp[cz,F4,bn,bp,bk];simp[T.fold]
 |_=>intro a;have ao:=gy a;refine bT.mk mixed q5 HY Ki Ψ ao.obj fun aG b5=>?_;unfold DE;simp[hu,aj,r1,aK,eZ];(with_reducible repeat' first|refine aA ?_|simp[hu,aj,r1,aK]);refine ck.at (S a) (.inr rfl) ao (fJ.refl _) aH aH ?_;simp[cz,F4,bn,bp,bk];simp[T.fold]
def fs(l:List Int):dM:=⟨[(.obj 304,nV l),(.obj 305,[.gmap (.obj 304)])],[]⟩
theorem rk(l:List Int):fq (fs l):=by unfold fs;exact fq.of ⟨by intro m;simp[Pv.look],by intro m;simp[Pv.look]⟩ (by simp[lq,ai,ak,ah,Pv.look]) Ψ
theorem vg(l cQ:List Int):fJ (fs l) (fs cQ):=by refine⟨fun k=>?_,fun k=>rfl⟩;simp only[fs,Pv.look];split<;>rfl
def tH(l:List Int):dM:=⟨[(.obj 304,nV l)],[]⟩
theorem L8(l:List Int):fq (tH l):=by unfold tH;exact fq.of ⟨by intro m;simp[Pv.look],by intro m;simp[Pv.look]⟩ (by simp[lq,ai,ak,ah,Pv.look]) Ψ
theorem afI{a b:List Int}(h:a.Perm b):qe a=qe b:=by
 have aI:∀a b c:Int,(decide (a<=b))=true->(decide (b<=c))=true->(decide (a<=c))=true:=by intro a b c;simp;omega
 have B3:∀a b:Int,(decide (a<=b)||decide (b<=a))=true:=by intro a b;simp;omega
 have I:=List.pairwise_mergeSort aI B3 a;have J:=List.pairwise_mergeSort aI B3 b;refine alj (le:=fun x y:Int=>(decide (x<=y))=true) (fun x y _ _ I J=>by simp at I J;omega) I J ?_;exact(List.mergeSort_perm a _).trans (h.trans (List.mergeSort_perm b _).symm)
def abR(l:List Int)(k:Nat)(st:bb):Prop:=∃(seen:List Nat) (xs:List Int),seen.Nodup/\(∀b∈seen,b<l.length)/\k=l.length-seen.length/\xs=seen.filterMap (fun b=>l[b]?)/\xs.length=seen.length/\st=⟨[(3,.row 1 (.obj 306) xs.length),(7,.ptr (.loc 0) 0)],[(.obj 304,nV l),(.loc 0,bc l.length seen (.obj 304))],[(.obj 306,⟨xs.length,3,1,some (dX xs)⟩)],1,[.obj 306,.obj 304]⟩
@[simp]theorem ajh(xs:List Int):(dX xs).length=xs.length:=by simp[dX]
@[simp]theorem akX(xs:List Int):cO (dX xs)=dX xs:=by
 induction xs with
 |nil=>rfl
 |cons x r a8=>simp only[dX,eQ,cO,dr]at a8⊢;rw[a8]
@[simp]theorem aji:dX []=[]:=rfl
theorem abM(xs:List Int)(x:Int):dX xs++[ag.int .i64 x]=dX (xs++[x]):=by simp[dX]
theorem Zi(l:List Int)(aE:l.length<=1000000):bT aP 160 [.gmap (.obj 304)] (tH l) fun r aC=>r= .slice 1 .no (dX (qe l))/\aC=tH l:=by
 have ao:=L8 l;unfold tH at ao⊢;refine bT.mk mixed q5 XT adI Ψ ao.obj fun aG b5=>?_;unfold MX;simp;refine y4 (abR l) l.length _ ⟨by simp[fresh,ai,ak,bc,ah,Pv.look,lq,tc],cb (by simp[fresh,ai,ak,bc,ah,Pv.look,lq,tc]),cc (by simp[fresh,ai,ak,b6,ah,Pv.look,lq,tc]),Ψ⟩ ⟨[],[],Ψ,Ψ,Ψ,Ψ,Ψ,rfl⟩ ?_;rintro k st ⟨seen,xs,a7,b7,aa,ey,mu,rfl⟩ sT b5;clear sT b5;have hle:=TC a7 b7;simp;refine WB (mk:= .obj 304) (seen:=seen) (l:=l) Ψ Ψ rfl (fun j4=>?_) (fun b x ad af=>?_)
 ·simp;have Qf:=afq a7 b7 j4;rw[<-ey]at Qf;refine bI.ob (Zh 306 xs Ω) (GN 306 xs) (by unfold mG;exact aH) (by unfold mG;exact aH) (by simp[mG,ah,Pv.look]) ?_;rintro r aC ⟨rfl,rfl⟩;refine⟨⟨fun _=>rfl,fun k=>by simp only[mG,Pv.look];split<;>rfl⟩,?_⟩;unfold mG;simp[bu,Lc];refine ck.at _ (.inl rfl) ao (fJ.refl _) aH aH ?_;simp[cz,SQ,bn,bp,bk];rw[afI Qf];simp[ak,tc]
 ·have aa2:∀f:aJ->be (List ag),f (.loc 0)=some (bc l.length (seen++[b]) (.obj 304))->f (.obj 304)=some (nV l)->tf f (.ptr (.loc 0) 0)=some (True,.tuple [.int .i64 x,.bool true]):=fun f I J=>acJ f (.loc 0) (.obj 304) l.length seen b l x I J rfl ad;have er:b<l.length:=(cX.1 ad).1;have lQ:=afr a7 b7 er af;simp[aa2,abM];refine⟨by unfold bA;omega,?_⟩;refine bP.next (l.length-(seen.length+1)) Ω ⟨seen++[b],xs++[x],adf a7 af,(by simp;intro c aD;rcases aD with aD|rfl;exact b7 c aD;exact er),Ψ,by rw[List.filterMap_append,<-ey];simp[ad],by simp[mu],rfl⟩ ⟨by simp[fresh,ai,ak,bc,ah,Pv.look,lq,tc],cb (by simp[fresh,ai,ak,bc,ah,Pv.look,lq,tc]),cc (by simp[fresh,ai,ak,b6,ah,Pv.look,lq,tc]),Ψ⟩
@[simp]theorem ajy(S:aJ->Prop)(xs:List Int):ai S (dX xs)=True:=eq_true (tc S xs)
@[simp]theorem ahZ:cells .junk=[.junk]:=rfl
def hk(vs:List Int)(l:List Int):List Int:=vs.foldl (fun l v=>qq v l) l
theorem Ds(a b l:List Int):hk (a++b) l=hk b (hk a l):=List.foldl_append
theorem GR(vs:List Int):∀(l:List Int) (v:Int),v∈hk vs l↔v∈l\/v∈vs:=by
 induction vs with
 |nil=>intro l v;simp[hk]
 |cons x vs a8=>
  intro l v;show v∈hk vs (qq x l)↔_;rw[a8,qq];split
  ·rename_i h;constructor
   ·rintro(cr|cr)
    ·exact .inl cr
    ·exact .inr (by simp[cr])
   ·rintro(cr|cr)
    ·exact .inl cr
    ·rcases gH.1 cr with rfl|cr
     ·exact .inl h
     ·exact .inr cr
  ·simp[or_assoc]
theorem Mb(vs:List Int):∀l:List Int,l.Nodup->(hk vs l).Nodup:=by
 induction vs with
 |nil=>intro l h;exact h
 |cons x vs a8=>
  intro l h;refine a8 _ ?_;show(qq x l).Nodup;unfold qq;split
  ·exact h
  ·rename_i ad;rw[ss];exact⟨h,Ψ,fun a b4 b af=>by simp at af;subst af;rintro rfl;exact ad b4⟩
theorem YK(t:T):∀l:List Int,t.fold qq l=hk t.tm.vs l:=by
 induction t with
 |pair a b s7 s8=>
  intro l;have:(T.pair a b).tm.vs=a.tm.vs++b.tm.vs:=by simp[T.tm,ba.vs,ba.vsL]
  rw[this,Ds,<-s7,<-s8];rfl
 |var n=>intro l;simp[T.tm,ba.vs,T.fold,hk]
 |_=>intro l;simp[T.tm,ba.vs,ba.vsL,T.fold,hk]
theorem Ut(x:T)(h:x.ok=true):∀v∈x.tm.vs,0<=v/\v<=100000:=by
 induction x with
 |pair a b s7 s8=>
  intro v aS;simp only[T.ok,bB]at h;have:(T.pair a b).tm.vs=a.tm.vs++b.tm.vs:=by simp[T.tm,ba.vs,ba.vsL]
  rw[this,iG]at aS;rcases aS with aS|aS
  ·exact s7 h.1 v aS
  ·exact s8 h.2 v aS
 |var n=>intro v aS;simp[T.tm,ba.vs]at aS;subst aS;simpa[T.ok]using h
 |_=>intro v aS;simp[T.tm,ba.vs,ba.vsL]at aS
theorem yy:∀l:List ba,ba.vsL l=l.flatMap ba.vs
 |[]=>rfl
 |x::l=>by simp[ba.vsL,yy l]
theorem xq:∀l:List Gm,Gm.vsL l=l.flatMap Gm.vs
 |[]=>rfl
 |x::l=>by simp[Gm.vsL,xq l]
theorem Ig(g:Gm):g.vs=ba.vsL g.ts++Gm.vsL g.gs:=by cases g;rfl
theorem se{g:Gm}(h:g.shape=true):∀t∈g.ts,t.fits=true:=by rw[pg,bB]at h;exact fun t aI=>gC.1 h.1 t aI
theorem qd{g:Gm}(h:g.shape=true):∀x∈g.gs,x.shape=true:=by
 rw[pg,bB]at h;obtain⟨_,h⟩:=h;intro x ad;have no:g.gs.isEmpty=false:=by
  cases aO:g.gs with
  |nil=>rw[aO]at ad;cases ad
  |cons=>rfl
 rw[no]at h;repeat' split at h
 all_goals simp at h
 ·exact h.2 x ad
 ·exact h.2 x ad
theorem Ek:∀(n:Nat) (g:Gm),g.sz<=n->g.shape=true->∀v∈g.vs,0<=v/\v<=100000:=by
 intro n;induction n with
 |zero=>intro g aO;have:=g.sz_pos;omega
 |succ n a8=>
  intro g aO ao v aS;rw[Ig,yy,xq,iG,List.mem_flatMap,List.mem_flatMap]at aS;rcases aS with⟨t,aI,aS⟩|⟨x,ad,aS⟩
  ·obtain⟨x,rfl,J⟩:=ba.fits_ex (se ao t aI);exact Ut x (vy J) v aS
  ·exact a8 x (by have:=g.gs_lt ad;omega) (qd ao x ad) v aS
theorem J7{l:List Int}(aK:l.Nodup)(h:∀v∈l,0<=v/\v<=100000):l.length<=100001:=by
 have I:(l.map Int.toNat).Nodup:=by refine ali _ (fun a b xw=>?_) (alh (S:=fun a b=>a≠b/\(0<=a/\0<=b)) (fun b4 af xw=>⟨xw,(h _ b4).1,(h _ af).1⟩) aK);intro e;apply xw.1;omega
 have J:=ag0 I (l₂:=List.range 100001) fun x ad=>by obtain⟨v,aS,rfl⟩:=pv.1 ad;have:=h v aS;simp;omega
 simpa using J
theorem Y4(v:Int)(l:List Int):bT aP 159 [.int .i64 v,.ptr (.obj 305) 0] (fs l) fun r aC=>r= .tuple []/\aC=fs (qq v l):=by have ao:=rk l;have et:=rk (qq v l);have eu:=vg l (qq v l);unfold fs at ao et eu⊢;refine bT.mk mixed kk XL adA Ψ ao.obj fun aG b5=>?_;unfold MP;simp;refine ck.at _ (.inr rfl) et eu aH aH ?_;simp[cz,SO,bn,bp,bk]
theorem Y2{t:ba}(h:t.fits=true)(l:List Int):bT aP 79 [enc t,.func 159 [.ptr (.obj 305) 0]] (fs l) fun r aC=>r= .tuple []/\aC=fs (hk t.vs l):=by obtain⟨x,rfl,_⟩:=ba.fits_ex h;rw[sM,<-YK];exact Y1 fs rk vg 159 [.ptr (.obj 305) 0] (by intro a;simp[ah,fs,Pv.look,ai,ak]) Ψ qq Y4 x l
theorem agO{ts:List ba}{i:Nat}{t:ba}(h:ts[i]? =some t)(l:List Int):hk (ba.vsL (ts.take (i+1))) l=hk t.vs (hk (ba.vsL (ts.take i)) l):=by rw[jw,h,yy,yy,<-Ds];simp
theorem ZB{gs:List Gm}{i:Nat}{g:Gm}(h:gs[i]? =some g)(l:List Int):hk (Gm.vsL (gs.take (i+1))) l=hk g.vs (hk (Gm.vsL (gs.take i)) l):=by rw[jw,h,xq,xq,<-Ds];simp
theorem Y3(g:Gm)(aM:∀t∈g.ts,t.fits=true)(l:List Int):bT aP 158 [g.e,.ptr (.obj 305) 0] (fs l) fun r aC=>r= .tuple []/\aC=fs (hk (ba.vsL g.ts) l):=by
 have ao:=rk l;have et:=rk (hk (ba.vsL g.ts) l);have eu:=vg l (hk (ba.vsL g.ts) l);unfold fs at ao;refine bT.mk mixed kk XK adz Ψ ao.obj fun aG b5=>?_;unfold MO;have fW:g.ts.length<=68719476736:=by rw[Gm.e_eq]at aG;simp[j1,iW,jA,bA]at aG;omega
 clear aG b5;unfold fs;simp;(with_reducible repeat' first|refine aA ?_|simp);refine fM (fun i (_:Unit)=>⟨[(1,.ptr (.obj 305) 0),(6,.slice 4 .no (g.ts.map enc)),(7,.int .i64 g.ts.length),(8,.int .i64 i)],(fs (hk (ba.vsL (g.ts.take i)) l)).b,[],0,[.obj 304,.obj 305]⟩) g.ts.length (fun _ _=>True) () (by simp[fs,hk,ba.vsL];exact⟨by simp[fresh,ai,ak,bc,ah,Pv.look,lq],cb (by simp[fresh,ai,ak,bc,ah,Pv.look,lq]),cc (by simp[fresh,ai,ak,b6,ah,Pv.look,lq]),Ψ⟩) trivial (fun _ _ _=>?_) (fun i _ aw _ _=>?_)
 ·simp only[jl,fs]at et eu⊢;simp;(with_reducible repeat' first|refine aA ?_|simp);all_goals refine ck.at _ (.inr rfl) et eu aH aH ?_
  all_goals simp[cz,SN,bn,bp,bk]
 ·obtain⟨b,af,lI⟩:=gd aw;have lV:=Y2 (aM b (eR af)) (hk (ba.vsL (g.ts.take i)) l);rw[<-agO af]at lV;have b2:aZ ((i:Int)+1):=by unfold aZ;omega
  clear et eu;simp only[fs];simp[aw,lI];(with_reducible repeat' first|refine aA ?_|simp[aw,lI]);refine bI.ob lV (rk _) (by unfold fs;exact aH) (by unfold fs;exact aH) (by simp[ah,fs,Pv.look]) ?_;rintro r aC ⟨rfl,rfl⟩;refine⟨vg _ _,?_⟩;unfold fs;simp[bu];(with_reducible repeat' first|refine aA ?_|simp[b2]);all_goals refine bP.rng () aw trivial (by simp[fs];exact⟨by simp[fresh,ai,ak,bc,ah,Pv.look,lq],cb (by simp[fresh,ai,ak,bc,ah,Pv.look,lq]),cc (by simp[fresh,ai,ak,b6,ah,Pv.look,lq]),Ψ⟩)
theorem u0{g:Gm}(h:g.shape=true):g.gs.length<=8/\g.ts.length<=4:=by
 rw[pg,bB]at h;obtain⟨_,h⟩:=h;have aK:kU g.kind<=2:=by unfold kU;(repeat' split)<;>omega
 split at h
 ·simp at h;obtain⟨⟨⟨_,I⟩,J⟩,_⟩:=h;rw[I];simp;omega
 ·split at h
  ·simp at h;rw[h.1.2];simp;omega
  ·split at h
   ·simp at h;rw[h.1.1.2];simp;omega
   ·split at h
    ·simp at h;rw[h.1.1.2];have:=h.1.2;split at this
     ·rename_i x ad;rw[ad];simp
     ·cases this
    ·cases h
theorem YZ:∀(n:Nat) (g:Gm),g.sz<=n->g.shape=true->∀l:List Int,bT aP 157 [g.e,.func 158 [.ptr (.obj 305) 0]] (fs l) fun r aC=>r= .tuple []/\aC=fs (hk g.vs l):=by
 intro n;induction n with
 |zero=>intro g aO;have:=g.sz_pos;omega
 |succ n a8=>
 intro g aO dQ l;have ao:=rk l;have et:=rk (hk g.vs l);have eu:=vg l (hk g.vs l);have lV:=Y3 g (se dQ) l;have mU:∀x∈g.gs,∀l:List Int,bT aP 157 [x.e,.func 158 [.ptr (.obj 305) 0]] (fs l) fun r aC=>r= .tuple []/\aC=fs (hk x.vs l):=fun x ad l=>a8 x (by have:=g.gs_lt ad;omega) (qd dQ x ad) l;rw[Ig,Ds]at et eu⊢;generalize ig:hk (ba.vsL g.ts) l=kf at lV et eu⊢;have EI:g.gs.length<=1000000:=by have:=(u0 dQ).1;omega
 unfold fs at ao;refine bT.mk mixed kk HX Kh Ψ ao.obj fun aG b5=>?_;unfold DD;clear aG b5;unfold fs;simp;refine bI.ob (lV) (rk _) (by unfold fs;exact aH) (by unfold fs;exact aH) (by simp[ah,fs,Pv.look]) ?_;rintro r aC ⟨rfl,rfl⟩;refine⟨vg _ _,?_⟩;unfold fs;simp[bu];(with_reducible repeat' first|refine aA ?_|simp);refine fM (fun i (_:Unit)=>⟨[(1,.func 158 [.ptr (.obj 305) 0]),(10,.slice 4 .no (g.gs.map Gm.e)),(11,.int .i64 g.gs.length),(12,.int .i64 i)],(fs (hk (Gm.vsL (g.gs.take i)) kf)).b,[],0,[.obj 304,.obj 305]⟩) g.gs.length (fun _ _=>True) () (by simp[fs,hk,Gm.vsL];exact⟨by simp[fresh,ai,ak,bc,ah,Pv.look,lq],cb (by simp[fresh,ai,ak,bc,ah,Pv.look,lq]),cc (by simp[fresh,ai,ak,b6,ah,Pv.look,lq]),Ψ⟩) trivial (fun _ _ _=>?_) (fun i _ aw _ _=>?_)
 ·simp only[jl,fs]at et eu⊢;simp;(with_reducible repeat' first|refine aA ?_|simp);all_goals refine ck.at _ (.inr rfl) et eu aH aH ?_
  all_goals simp[cz,F3,bn,bp,bk]
 ·obtain⟨b,af,lI⟩:=gd aw;have kb:=mU b (eR af) (hk (Gm.vsL (g.gs.take i)) kf);rw[<-ZB af]at kb;have b2:aZ ((i:Int)+1):=by unfold aZ;omega
  clear et eu;simp only[fs];simp[aw,lI];(with_reducible repeat' first|refine aA ?_|simp[aw,lI]);refine bI.ob (kb) (rk _) (by unfold fs;exact aH) (by unfold fs;exact aH) (by simp[ah,fs,Pv.look]) ?_;rintro r aC ⟨rfl,rfl⟩;refine⟨vg _ _,?_⟩;unfold fs;simp[bu];(with_reducible repeat' first|refine aA ?_|simp[b2]);all_goals refine bP.rng () aw trivial (by simp[fs];exact⟨by simp[fresh,ai,ak,bc,ah,Pv.look,lq],cb (by simp[fresh,ai,ak,bc,ah,Pv.look,lq]),cc (by simp[fresh,ai,ak,b6,ah,Pv.look,lq]),Ψ⟩)
def vB(g:Gm):List Int:=qe (hk g.vs [])
theorem agj(g:Gm)(h:g.shape=true):cg aP 90 [g.e] (.slice 1 .no (dX (vB g))):=by
 have aE:(hk g.vs []).length<=1000000:=by have:=J7 (Mb g.vs [] .nil) fun v aS=>Ek g.sz g (da _) h v (by simpa[GR]using aS);omega
 have lV:=YZ g.sz g (da _) h [];have b0:=Zi (hk g.vs []) aE;refine bJ kk XJ ady fun aG=>?_;unfold MN;clear aG;simp;(with_reducible repeat' first|refine aA ?_|simp);refine bI.ob (lV) (rk _) (by unfold fs;exact aH) (by unfold fs;exact aH) (by simp[ah,fs,Pv.look]) ?_;rintro r aC ⟨rfl,rfl⟩;refine⟨vg _ _,?_⟩;unfold fs;simp[bu];refine bI.ob b0 (L8 _) (by unfold tH;exact aH) (by unfold tH;exact aH) (by simp[ah,tH,Pv.look]) ?_;rintro r aC ⟨rfl,rfl⟩;refine⟨fJ.refl _,?_⟩;unfold tH;simp[bu];simp[b1,SM,bn,bp,bk];simp[vB]
theorem Pd(g:Gm)(v:Int):v∈vB g↔v∈g.vs:=by unfold vB qe;rw[List.mem_mergeSort,GR];simp
theorem YQ(g:Gm)(h:g.shape=true):(vB g).length<=100001:=by unfold vB;rw[Lc];exact J7 (Mb g.vs [] .nil) fun v aS=>Ek g.sz g (da _) h v (by simpa[GR]using aS)
def mC(g:Gm)(n:Int):Bool:=(vB g).all fun v=>decide (v<n)
theorem Da(g:Gm)(n:Int):mC g n=true↔yx g n:=by unfold mC yx;rw[gC];exact⟨fun h v aS=>by simpa using h v ((Pd g v).2 aS),fun h v aS=>by simpa using h v ((Pd g v).1 aS)⟩
theorem abN{l:List Int}{i:Nat}(h:i<(dX l).length):(dX l)[i]= .int .i64 (l[i]'(by simpa using h)):=by simp[dX]
theorem C8(g:Gm)(h:g.shape=true)(n:Int):cg aP 120 [g.e,.int .i64 n] (.bool (mC g n)):=by
 have ga:=agj g h;have hlen:=YQ g h;unfold mC;generalize vB g=l at ga hlen⊢;generalize bh:(l.all fun v=>decide (v<n))=R;refine bJ kk XV adK fun aG=>?_;unfold MZ;clear aG;simp;(with_reducible repeat' first|refine aA ?_|refine aX ga ?_|refine aY ga ?_|simp);refine fM (fun i (_:Unit)=>⟨[(1,.int .i64 n),(8,.slice 1 .no (dX l)),(9,.int .i64 l.length),(10,.int .i64 i)],[],[],0,[]⟩) l.length (nF (fun v=>decide (v<n)) l) () (by simp;exact c8) (fun k b aa=>Ω) (fun _ al _=>?_) (fun i _ aw al _=>?_)
 ·have:R=true:=by rw[<-bh];exact al.fin
  subst this;clear al bh;exact bZ
 ·obtain⟨v,aS⟩:∃v,l[i]? =some v:=⟨_,bO aw⟩;have ai6:∀h,((dX l)[i]'h)= .int .i64 v:=fun h=>by rw[abN h];rw[bO aw]at aS;rw[dZ aS]
  have b2:aZ ((i:Int)+1):=by unfold aZ;omega
  by_cases Qy:v<n
  ·have aK:=al.step aS (by simpa using Qy);have J:¬n<=v:=Ω
   clear al bh;exact qU
  ·have:R=false:=by rw[<-bh];exact vm aS (by simpa using Qy)
   subst this;have J:n<=v:=Ω
   clear al bh;exact bZ
def DF:C:=(ae [bm 2 (.mov (.c (.str [])))] (.seq (ae [ab 4 0,a1 5 .lss 4 0] (bt 5 (.seq (ae [ab 6 0,a1 7 .quo 6 10,a1 8 .eql 7 0] (bt 8 (ae [ab 9 0,bm 10 (.bin .sub false (ca 48) (.t 9)),bm 11 (.conv .u8 (.t 10)),ff 12 1 5 [.t 11],bm 13 (.b2s (.t 12)),bm 14 (.bin .add false (.c (.str [45])) (.t 13)),ab 2 14] .ret) .skip)) (.seq (.drawn true 44 [ab 15 0,a1 16 .quo 15 10,cW 17 57 16,ab 18 0,a1 19 .rem 18 10,bm 20 (.bin .sub false (ca 48) (.t 19)),bm 21 (.conv .u8 (.t 20)),ff 22 1 5 [.t 21],bm 23 (.b2s (.t 22)),cC 24 .add 17 23,ab 2 24]) .ret)) .skip)) (ae [bm 3 (.mov (.c (.str [])))] (.seq (.block 0 (.loop (.seq (ae [ab 25 0,a1 26 .gtr 25 9] (bt 26 .skip (.exit 0))) (.block 1 (ae [ab 27 0,a1 28 .rem 27 10,bm 29 (.bin .add false (ca 48) (.t 28)),bm 30 (.conv .u8 (.t 29)),ff 31 1 5 [.t 30],bm 32 (.b2s (.t 31)),ab 33 3,cC 34 .add 32 33,ab 3 34] (.region [ab 35 0,a1 36 .quo 35 10,ab 0 36])))))) (ae [ab 37 0,bm 38 (.bin .add false (ca 48) (.t 37)),bm 39 (.conv .u8 (.t 38)),ff 40 1 5 [.t 39],bm 41 (.b2s (.t 40)),ab 42 3,cC 43 .add 41 42,ab 2 43] .ret)))))
@[simp] def F6:List cp:=[.tmp 2]
def Nt:C:=(ae [eA 2 0,ps 4 1] (.seq (ae [a6 9 2 1 2,aW 10 1 9,cy 11 10,cA 12 0] (ir 13 12 11 (.seq (.block 1 (ae [di 14 4 10 12,bH 15 4 14,jk 6 gi,bM 4 6 15] (.region [bH 16 4 6,ab 17 1,dJ 18 156 16 17,ab 1 18]))) (.region [a1 19 .add 12 1,ab 12 19])))) (.seq (ae [a6 20 3 1 2,aW 21 1 20,cy 22 21,cA 23 0] (.block 2 (.loop (ae [cC 24 .lss 23 22] (.seq (bt 24 .skip (.exit 2)) (.seq (.block 3 (ae [di 25 4 21 23,bH 26 4 25,cd (.alloc 8 none (.agg [.int .i64 0,.str [],.slice 4 .nil [],.slice 4 .nil []])),bM 4 8 26] (.region [bH 27 4 8,ab 28 1,dJ 29 89 27 28,ab 1 29]))) (.region [a1 30 .add 23 1,ab 23 30]))))))) (ae [ab 31 1,ab 4 31] .ret))))
@[simp] def ae7:List cp:=[.tmp 4]
def M3:C:=(ae [cl 2 false] (.seq (ae [cd (.bsl 5 1 9 [(.c (.str [116,114,117,101])),(.c (.str [102,97,105,108])),(.c (.str [115,121,109,98,111,108])),(.c (.str [110,117,109,98,101,114])),(.c (.str [97,98,115,101,110,116])),(.c (.str [97,110,100])),(.c (.str [111,114])),(.c (.str [110,111,116])),(.c (.str [100,101,102,105,110,101]))]),cy 6 5,cA 7 0] (ir 8 7 6 (.seq (.block 1 (ae [di 9 1 5 7,aW 10 1 9,ab 4 10] (ae [ab 11 4,ab 12 0,cC 13 .eql 11 12] (bt 13 (ae [cl 2 false] .ret) .skip)))) (.region [a1 14 .add 7 1,ab 7 14])))) (ae [ab 15 0,cW 16 188 15,ab 2 16] .ret)))
@[simp] def aeW:List cp:=[.tmp 2]
def Nx:C:=(ae [ps 0 1] (ae [cd (.bsl 1 1 9 [(.c (.str [116,114,117,101])),(.c (.str [102,97,105,108])),(.c (.str [61])),(.c (.str [47,61])),(.c (.str [115,121,109,98,111,108])),(.c (.str [110,117,109,98,101,114])),(.c (.str [97,98,115,101,110,116])),(.c (.str [97,110,100])),(.c (.str [111,114])),(.c (.str [])),(.c (.str [110,111,116]))]),ab 0 1] .ret))
@[simp] def afc:List cp:=[.tmp 0]
def Hf:C:=(ae [eA 1 0,cl 2 false] (ae [bH 3 4 1,eg 4 210 [.t 3,(ca 80)],a1 5 .leq 4 80,ab 6 5,aB 6 true (bH 7 4 1),aB 6 true (cW 8 211 7),dq 9 6 8,ab 2 9] .ret))
@[simp] def Kx:List cp:=[.tmp 2]
def Nr:C:=(ae [eA 2 0,cA 4 0] (ae [cA 5 1] (.seq (ae [a6 8 3 1 2,aW 9 1 8,cy 10 9,cA 11 0] (ir 12 11 10 (.seq (.block 1 (ae [di 13 4 9 11,bH 14 4 13,cd (.alloc 7 none (.agg [.int .i64 0,.str [],.slice 4 .nil [],.slice 4 .nil []])),bM 4 7 14] (.seq (ae [ab 15 5,ab 16 1,cC 17 .gtr 15 16] (bt 17 (ae [ab 18 5,ab 4 18] .ret) .skip)) (.region [ab 19 5,bH 20 4 7,ab 21 1,ab 22 5,cC 23 .sub 21 22,dJ 24 210 20 23,cC 25 .add 19 24,ab 5 25])))) (.region [a1 26 .add 11 1,ab 11 26])))) (ae [ab 27 5,ab 4 27] .ret))))
@[simp] def ae5:List cp:=[.tmp 4]
def rr:C:=(ae [eA 1 0,cl 2 false] (.seq (ae [a6 6 0 1 1,aW 7 1 6,eg 8 127 [.t 7,(ca 0),(ca 10)],eP 9 8,ab 10 9,aB 10 false (a6 11 0 1 1),aB 10 false (aW 12 1 11),aB 10 false (a1 13 .neq 12 9),cj 10 false 14 13,aB 14 true (a6 15 1 1 1),aB 14 true (aW 16 1 15),kF 14 true 17 (.bin .neq false (.t 16) (.c (.str []))),aB 10 false (dq 18 14 17),c7 19 10 18,ab 20 19,aB 20 false (a6 21 2 1 1),aB 20 false (aW 22 1 21),aB 20 false (cW 23 253 22),aB 20 false (eP 24 23),c7 25 20 24] (bt 25 (ae [cl 2 false] .ret) .skip)) (ae [a6 26 2 1 1,aW 27 1 26,cy 28 27,ff 29 1 3 [(ca 0),(ca 0),(ca 2),(ca 2),(ca 1),(ca 1),(ca 2),(ca 0),(ca 0),.t 28,(ca 0)],a6 30 0 1 1,aW 31 1 30,di 32 1 29 31,aW 33 1 32,ab 3 33] (.seq (ae [a6 34 2 1 1,aW 35 1 34,cy 36 35,ab 37 3,cC 38 .neq 36 37,ab 39 38,cj 39 false 40 3,aB 39 false (a1 41 .gtr 40 4),c7 42 39 41,ab 43 42,aB 43 false (a6 44 0 1 1),aB 43 false (aW 45 1 44),aB 43 false (a1 46 .lss 45 7),cj 43 false 47 46,aB 47 true (a6 48 3 1 1),aB 47 true (aW 49 1 48),aB 47 true (cy 50 49),aB 47 true (a1 51 .gtr 50 0),aB 43 false (dq 52 47 51),c7 53 43 52,ab 54 53,aB 54 false (a6 55 3 1 1),aB 54 false (aW 56 1 55),aB 54 false (cy 57 56),aB 54 false (a1 58 .gtr 57 8),c7 59 54 58] (bt 59 (ae [cl 2 false] .ret) .skip)) (.seq (ae [a6 60 3 1 1,aW 61 1 60,cy 62 61,cA 63 0] (ir 64 63 62 (.seq (.block 1 (ae [di 65 4 61 63,bH 66 4 65,cd (.alloc 5 none (.agg [.int .i64 0,.str [],.slice 4 .nil [],.slice 4 .nil []])),bM 4 5 66] (ae [bH 67 4 5,cW 68 211 67,eP 69 68] (bt 69 (ae [cl 2 false] .ret) .skip)))) (.region [a1 70 .add 63 1,ab 63 70])))) (.seq (ae [a6 71 0 1 1,aW 72 1 71] (.block 2 (ae [a1 74 .eql 72 6,ab 73 74] (bt 73 (ae [a6 75 2 1 1,aW 76 1 75,k0 77 4 76 0,a6 78 0 1 77,aW 79 1 78,a1 80 .eql 79 2,ab 2 80] .ret) (ae [a1 82 .eql 72 9,ab 81 82] (bt 81 (ae [a6 83 3 1 1,aW 84 1 83,cy 85 84,a1 86 .eql 85 0,ab 87 86,aB 87 true (a6 88 1 1 1),aB 87 true (aW 89 1 88),aB 87 true (cW 90 128 89),dq 91 87 90,ab 2 91] .ret) (ae [a1 93 .eql 72 10,ab 92 93] (bt 92 (ae [a6 94 3 1 1,aW 95 1 94,cy 96 95,a1 97 .eql 96 1,ab 98 97,aB 98 true (a6 99 3 1 1),aB 98 true (aW 100 1 99),aB 98 true (k0 101 4 100 0),aB 98 true (a6 102 0 1 101),aB 98 true (aW 103 1 102),aB 98 true (a1 104 .eql 103 9),dq 105 98 104,ab 2 105] .ret) .skip)))))))) (ae [cl 2 true] .ret)))))))
@[simp] def Ab:List cp:=[.tmp 2]
def Nf:C:=(ae [cl 2 false] (.seq (ae [ab 5 0,cy 6 5,cA 7 0] (ir 8 7 6 (.seq (.block 1 (ae [di 9 4 5 7,bH 10 4 9,jk 4 gi,bM 4 4 10] (ae [bH 11 4 4,cW 12 271 11,eP 13 12] (bt 13 (ae [cl 2 false] .ret) .skip)))) (.region [a1 14 .add 7 1,ab 7 14])))) (ae [cl 2 true] .ret)))
@[simp] def ae2:List cp:=[.tmp 2]
def u6:List (Nat×du):=[
 (3,⟨1,8,.int .i64,.int .i64 0⟩),
 (5,⟨1,1,.int .u8,.int .u8 0⟩),
 (9,⟨1,16,.str,.str []⟩),
 (35,⟨1,24,.slice 5,.slice 1 .nil []⟩),
 (38,⟨1,24,.slice 40,.slice 4 .nil []⟩),
 (40,⟨4,56,.struct [(0,3),(1,3),(2,9),(3,38)],.agg [.int .i64 0,.int .i64 0,.str [],.slice 4 .nil []]⟩),
 (63,⟨1,24,.slice 65,.slice 4 .nil []⟩),
 (65,⟨4,72,.struct [(0,3),(1,9),(2,38),(3,63)],.agg [.int .i64 0,.str [],.slice 4 .nil [],.slice 4 .nil []]⟩),
 (70,⟨1,24,.slice 9,.slice 1 .nil []⟩),
 (136,⟨1,24,.slice 3,.slice 1 .nil []⟩)]
theorem lv:fS aP u6=true:=by kernel_rfl
theorem Kj:cF u6 DF F6 1 Tryz.f57=true:=by kernel_rfl
theorem HZ:aP.funcs[(57:Nat)]? =some Tryz.f57:=Tryz.func57
theorem aea:cF u6 Nt ae7 2 Tryz.f89=true:=by kernel_rfl
theorem Yl:aP.funcs[(89:Nat)]? =some Tryz.f89:=Tryz.func89
theorem adO:cF u6 M3 aeW 1 Tryz.f128=true:=by kernel_rfl
theorem XZ:aP.funcs[(128:Nat)]? =some Tryz.f128:=Tryz.func128
theorem aee:cF u6 Nx afc 0 Tryz.f131=true:=by kernel_rfl
theorem Yp:aP.funcs[(131:Nat)]? =some Tryz.f131:=Tryz.func131
theorem Sd:cF u6 Hf Kx 1 Tryz.f155=true:=by kernel_rfl
theorem OL:aP.funcs[(155:Nat)]? =some Tryz.f155:=Tryz.func155
theorem ad8:cF u6 Nr ae5 2 Tryz.f210=true:=by kernel_rfl
theorem Yj:aP.funcs[(210:Nat)]? =some Tryz.f210:=Tryz.func210
theorem tl:cF u6 rr Ab 1 Tryz.f211=true:=by kernel_rfl
theorem sP:aP.funcs[(211:Nat)]? =some Tryz.f211:=Tryz.func211
theorem adY:cF u6 Nf ae2 1 Tryz.f253=true:=by kernel_rfl
theorem X9:aP.funcs[(253:Nat)]? =some Tryz.f253:=Tryz.func253
theorem LF(l:List ba):cg aP 253 [.slice 4 .no (l.map enc)] (.bool (l.all ba.fits)):=by
 generalize bh:l.all ba.fits=R;refine bJ lv X9 adY fun aG=>?_;unfold Nf;have fW:l.length<=68719476736:=by simp[j1,iW,jA,bA]at aG;omega
 clear aG;simp;refine fM (fun i (_:Unit)=>⟨[(5,.slice 4 .no (l.map enc)),(6,.int .i64 l.length),(7,.int .i64 i)],[],[],0,[]⟩) l.length (nF ba.fits l) () c8 (fun k b aa=>Ω) (fun _ al _=>?_) (fun i _ aw al _=>?_)
 ·have:R=true:=by rw[<-bh];exact al.fin
  subst this;clear al bh;exact bZ
 ·obtain⟨t,aI,E7⟩:=gd aw;have ei:=agH t;cases g:t.fits
  ·rw[g]at ei;have:R=false:=by rw[<-bh];exact vm aI g
   subst this;clear aI al bh;exact bZ
  ·rw[g]at ei;have aK:=al.step aI g;clear aI al bh;exact qU
mutual
def k8:Gm->Int->Int
 | .mk _ _ _ gs,m=>nX gs 1 m
def nX:List Gm->Int->Int->Int
 |[],n,_=>n
 |x::xs,n,m=>if m<n then n else nX xs (n+k8 x (m-n)) m
end
mutual
theorem HA:∀(t:Gm) (m:Int),0<=m->1<=k8 t m/\k8 t m<=m+1
 | .mk _ _ _ gs,m,h=>by simp only[k8];exact N2 gs 1 m h Ω Ω
theorem N2:∀(l:List Gm) (n m:Int),0<=m->1<=n->n<=m+1->1<=nX l n m/\nX l n m<=m+1
 |[],n,m,_,I,J=>by simp only[nX];exact⟨I,J⟩
 |x::xs,n,m,bD,I,J=>by
  simp only[nX];split
  ·exact⟨I,J⟩
  ·have:=HA x (m-n) Ω;exact N2 xs _ m bD Ω Ω
end
mutual
theorem HB:∀(t:Gm) (m:Int),0<=m->(k8 t m<=m↔(t.sz:Int)<=m)/\((t.sz:Int)<=m->k8 t m=t.sz)
 | .mk _ _ _ gs,m,h=>by have:=N3 gs 1 m h Ω;simp only[k8,Gm.sz];exact⟨this.1.trans Ω,fun h=>by rw[this.2 Ω];omega⟩
theorem N3:∀(l:List Gm) (n m:Int),0<=m->1<=n->(nX l n m<=m↔n+(iu l:Int)<=m)/\(n+(iu l:Int)<=m->nX l n m=n+iu l)
 |[],n,m,_,I=>by simp[nX,iu]
 |x::xs,n,m,bD,I=>by
  simp only[nX,iu];have bq:=x.sz_pos;by_cases hm:m<n
  ·rw[bN hm];exact⟨Ω,fun h=>Ω⟩
  ·rw[bf hm];obtain⟨bV,a2⟩:=HB x (m-n) Ω;have a3:=HA x (m-n) Ω;obtain⟨bQ,b3⟩:=N3 xs (n+k8 x (m-n)) m bD Ω;by_cases ad:(x.sz:Int)<=m-n
   ·rw[a2 ad]at bQ b3⊢;exact⟨bQ.trans Ω,fun h=>by rw[b3 Ω];omega⟩
   ·have:¬k8 x (m-n)<=m-n:=fun h=>ad (bV.1 h);exact⟨bQ.trans ⟨fun h=>Ω,fun h=>Ω⟩,fun h=>Ω⟩
end
theorem Wf(g:Gm)(m:Int):k8 g m=nX g.gs 1 m:=by cases g;rfl
theorem Uj:∀(k:Nat) (t:Gm),t.sz<=k->∀m:Int,0<=m->m<=1000000->cg aP 210 [t.e,.int .i64 m] (.int .i64 (k8 t m)):=by
 intro k;induction k with
 |zero=>intro t aI;have:=t.sz_pos;omega
 |succ k a8=>
  intro t aI m bD I;refine bJ lv Yj ad8 fun aG=>?_;unfold Nr;have fW:t.gs.length<=68719476736:=by rw[Gm.e_eq]at aG;simp[j1,iW,jA,bA]at aG;omega
  clear aG;simp;refine fM (fun i (n:Int)=>⟨[(1,.int .i64 m),(5,.int .i64 n),(9,.slice 4 .no (t.gs.map Gm.e)),(10,.int .i64 t.gs.length),(11,.int .i64 i)],[],[],0,[]⟩) t.gs.length (fun i n=>(1<=n/\n<=m+1)/\nX (t.gs.drop i) n m=k8 t m) 1 (by simp;exact c8) ⟨Ω,by simp[Wf]⟩ (fun n al _=>?_) (fun i n aw al _=>?_)
  ·have he:n=k8 t m:=by have:=al.2;simp[nX]at this;exact this
   subst he;clear al;exact bZ
  ·obtain⟨⟨oc,rR⟩,al⟩:=al;obtain⟨x,ad,dn⟩:=gd aw;have a7:t.gs.drop i=x::t.gs.drop (i+1):=by rw[List.drop_eq_getElem_cons aw,dn]
   have ev:x.sz<=k:=by have:=t.gs_lt (eR ad);omega
   have b2:aZ ((i:Int)+1):=by unfold aZ;omega
   rw[a7]at al;simp only[nX]at al;by_cases af:m<n
   ·rw[bN af]at al;subst al;clear a8;exact bZ
   ·rw[bf af]at al;have aD:=HA x (m-n) Ω;have eM:=a8 x ev (m-n) Ω Ω;have fh:aZ (m-n):=by unfold aZ;omega
    have aiB:aZ (n+k8 x (m-n)):=by unfold aZ;omega
    have gr:(1<=n+k8 x (m-n)/\n+k8 x (m-n)<=m+1)/\nX (t.gs.drop (i+1)) (n+k8 x (m-n)) m=k8 t m:=⟨Ω,al⟩;clear a8;have pY:=eM;exact qU
end
end Go.Proofs.YtlnndmgfngfeiaaGreatDoor
namespace Go.Pv
section
open Go Go.RowKit
end
end Go.Pv
