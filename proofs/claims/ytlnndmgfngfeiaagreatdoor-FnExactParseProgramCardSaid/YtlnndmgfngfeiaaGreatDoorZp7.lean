/- Contracts of the reference: a text's words. -/
import Derived.Test.YtlnndmgfngfeiaaGreatDoorProg
import Derived.Test.YtlnndmgfngfeiaaGreatDoorZp6
set_option linter.all false
set_option maxHeartbeats 4000000
set_option maxRecDepth 4000
open Bool renaming and_eq_true->bM
open Go renaming Program->bK
open Go.IntKind renaming i64->kD
open Go.IntWalk renaming i64_in->ng
open Go.Proofs.Tryz renaming prog->aQ
open List renaming all_eq_true->jy,append_assoc->kE,cons_append->dm,drop_eq_getElem_cons->pd,drop_length->jN,getElem?_append_left->qa,getElem?_drop->k2,getElem?_eq_getElem->cF,getElem?_eq_some_iff->e3,length_append->j2,length_drop->hg,length_pos_iff->q2,map_cons->gY,mem_append->hv,mem_map->lZ,mem_of_getElem?->fJ,nil_append->ef,nodup_append->qb,take_add_one->k3,take_append_drop->q3,take_length->j4,take_succ_cons->sB
open Nat renaming eq_or_lt_of_le->iX,le_refl->cq
open Option renaming getD->oG,getD_some->pf,isSome->sC,map_none->tG,map_some->kF
open Option.some renaming inj->gq
open UInt8 renaming ofNat->nL
open _root_ renaming False->cZ,Option->aT,UInt8->al,beq_eq_false_iff_ne->jm,beq_iff_eq->ej,decide_eq_true->nM,decide_eq_true_eq->fK,if_neg->bq
namespace Go.Proofs.YtlnndmgfngfeiaaGreatDoor
section
open Go Go.Pv
variable {ky:Nat}
def tB(ky:Nat)(l:List (List al))(o:aT (T×List (List al)))(r:ae)(ai:dD):Prop:=match o with
 |some (t,rest)=>r= .tuple [t.e,.bool true]/\ai=ad ky l (l.length-rest.length)
 |none=> ∃(x:T) (j:Nat),j<=l.length/\r= .tuple [x.e,.bool false]/\ai=ad ky l j
theorem qU{l:List (List al)}{j:Nat}(h:j<=l.length)(x:T):tB ky l none (.tuple [x.e,.bool false]) (ad ky l j):=⟨x,j,h,rfl,rfl⟩
theorem Aa{l:List (List al)}{j:Nat}{t:T}{rest:List (List al)}(h:l.length-rest.length=j):tB ky l (some (t,rest)) (.tuple [t.e,.bool true]) (ad ky l j):=⟨rfl,by rw[h]⟩
theorem cW.tm{l:List (List al)}{i:Nat}{o:aT (T×List (List al))}{st:aS}{e:Exit}(j:Nat)(x:T)(b:Bool)(ik:e= .ret\/e= .normal)(jb:tB ky l o (.tuple [x.e,.bool b]) (ad ky l j))(ah:∀k cs,Pv.look k (ad ky l j).b=some cs->Pv.look k st.b=some cs)(cm:∀k p,Pv.look k (ad ky l j).e=some p->Pv.look k st.e=some p)
  (h:du st [.cell 2 true 4,.tmp 3] fun r=>r= .tuple [x.e,.bool b]):cW [.cell 2 true 4,.tmp 3] (ad ky l i) (tB ky l o) e st:=by
 refine cW.at (ad ky l j) ik (a7 _ _) (bJ _ _ _ _) ah cm ?_;unfold du at h⊢;split at h
 ·rename_i c a6 hr;refine⟨h.1,?_⟩;rw[h.2];exact⟨by simp[kin,kinL],jb⟩
 ·exact h.elim
theorem sO{l:List (List al)}{i:Nat}{w:List al}(h:l[i]? =some w):l.length-(l.drop (i+1)).length=i+1:=by have:=(e3.1 h).1;simp;omega
theorem kI{l:List (List al)}{i:Nat}(h:i<l.length):b7 aQ 83 [av ky] (ad ky l i) fun r ai=>r= .bool false/\ai=ad ky l i:=by have:=ND (ky:=ky) l i;rwa[show((i:Int)==l.length)=false by simp;omega]at this
theorem AP(l:List (List al)):b7 aQ 83 [av ky] (ad ky l l.length) fun r ai=>r= .bool true/\ai=ad ky l l.length:=by have:=ND (ky:=ky) l l.length;rwa[beq_self_eq_true]at this
theorem iy{l:List (List al)}{i:Nat}{w:List al}(h:l[i]? =some w):b7 aQ 178 [av ky] (ad ky l i) fun r ai=>r= .str w/\ai=ad ky l i:=by have:=DH (ky:=ky) l i;rwa[h]at this
theorem NN(l:List (List al)):b7 aQ 152 [av ky] (ad ky l l.length) (tB ky l none):=by have aq:=a7 (ky:=ky) l l.length;have dA:=AP (ky:=ky) l;simp only[ad]at aq;refine b7.mk mixed ls vt wh Ψ aq.obj fun aN b3=>?_;unfold tS;clear aN b3;simp[av,ad];(refine CallDo.ob (dA) (by first|exact a7 _|exact a7 ‹_› _) (by simp only[ad,av,dm,ef];exact aB) (by simp only[ad,av,dm,ef];exact aB) (by simp[au,Pv.look,ad,av]) ?_;rintro r ai ⟨rfl,rfl⟩;refine⟨(Same.keys (by simp[ad,av]) (by simp[ad,av])),?_⟩;simp[bg,ad,av]);(with_reducible repeat' first|refine aA ?_|simp);refine cW.tm (l.length) (.nil) false Ψ (qU (cq _) _) (by simp only[ad];exact aB) (by simp only[ad];exact aB) ?_;simp[du,a1,be,aV,bC,bz]
theorem W5(l:List (List al))(aG:l.length<=100000){i:Nat}{w:List al}(af:l[i]? =some w)(hw:w≠[])(uy:w.length<=bN)(aU:w≠[40]):b7 aQ 152 [av ky] (ad ky l i) (tB ky l ((eg w).map fun t=>(t,l.drop (i+1)))):=by
 have aq:=a7 (ky:=ky) l i;have az:=(e3.1 af).1;have aF:=sO af;have b1:aY ((i:Int)+1):=by unfold aY;omega
 obtain⟨c,w',rfl⟩:∃c w',w=c::w':=List.exists_cons_of_ne_nil hw;by_cases aE:c=63
 ·subst aE;have H7:w'.length<=bN:=by simp at uy;omega
  have b8:=CL w' H7;unfold qK at b8;simp only[eg];cases aK:fQ w' with
  |none=>rw[aK]at b8;simp only[oG,sC]at b8;simp only[tG];simp only[ad]at aq;refine b7.mk mixed ls vt wh Ψ aq.obj fun aN b3=>?_;unfold tS;clear aN b3;simp[av,ad];(refine CallDo.ob (kI az) (by first|exact a7 _|exact a7 ‹_› _) (by simp only[ad,av,dm,ef];exact aB) (by simp only[ad,av,dm,ef];exact aB) (by simp[au,Pv.look,ad,av]) ?_;rintro r ai ⟨rfl,rfl⟩;refine⟨(Same.keys (by simp[ad,av]) (by simp[ad,av])),?_⟩;simp[bg,ad,av]);(with_reducible repeat' first|refine aA ?_|simp);(refine CallDo.ob (iy af) (by first|exact a7 _|exact a7 ‹_› _) (by simp only[ad,av,dm,ef];exact aB) (by simp only[ad,av,dm,ef];exact aB) (by simp[au,Pv.look,ad,av]) ?_;rintro r ai ⟨rfl,rfl⟩;refine⟨(Same.keys (by simp[ad,av]) (by simp[ad,av])),?_⟩;simp[bg,ad,av]);(with_reducible repeat' first|refine aA ?_|refine a8 b8 ?_|refine ba b8 ?_|refine a8 (nG _) ?_|refine ba (nG _) ?_|simp[b1]);refine cW.tm (i+1) (.var 0) false Ψ (qU Ω _) (by simp only[ad];exact aB) (by simp only[ad];exact aB) ?_;simp[du,a1,be,aV,bC,bz]
  |some v=>
   rw[aK]at b8;simp only[oG,sC]at b8;simp only;by_cases aM:0<=v/\v<=100000
   ·rw[if_pos aM];simp only[kF];simp only[ad]at aq;refine b7.mk mixed ls vt wh Ψ aq.obj fun aN b3=>?_;unfold tS;clear aN b3;simp[av,ad];(refine CallDo.ob (kI az) (by first|exact a7 _|exact a7 ‹_› _) (by simp only[ad,av,dm,ef];exact aB) (by simp only[ad,av,dm,ef];exact aB) (by simp[au,Pv.look,ad,av]) ?_;rintro r ai ⟨rfl,rfl⟩;refine⟨(Same.keys (by simp[ad,av]) (by simp[ad,av])),?_⟩;simp[bg,ad,av]);(with_reducible repeat' first|refine aA ?_|simp);(refine CallDo.ob (iy af) (by first|exact a7 _|exact a7 ‹_› _) (by simp only[ad,av,dm,ef];exact aB) (by simp only[ad,av,dm,ef];exact aB) (by simp[au,Pv.look,ad,av]) ?_;rintro r ai ⟨rfl,rfl⟩;refine⟨(Same.keys (by simp[ad,av]) (by simp[ad,av])),?_⟩;simp[bg,ad,av]);(with_reducible repeat' first|refine aA ?_|refine a8 b8 ?_|refine ba b8 ?_|refine a8 (nG _) ?_|refine ba (nG _) ?_|simp[b1,aM.1,aM.2]);refine cW.tm (i+1) (.var v) true Ψ (Aa aF) (by simp only[ad];exact aB) (by simp only[ad];exact aB) ?_;simp[du,a1,be,aV,bC,bz]
   ·rw[bq aM];simp only[tG];simp only[ad]at aq;refine b7.mk mixed ls vt wh Ψ aq.obj fun aN b3=>?_;unfold tS;clear aN b3;simp[av,ad];(refine CallDo.ob (kI az) (by first|exact a7 _|exact a7 ‹_› _) (by simp only[ad,av,dm,ef];exact aB) (by simp only[ad,av,dm,ef];exact aB) (by simp[au,Pv.look,ad,av]) ?_;rintro r ai ⟨rfl,rfl⟩;refine⟨(Same.keys (by simp[ad,av]) (by simp[ad,av])),?_⟩;simp[bg,ad,av]);(with_reducible repeat' first|refine aA ?_|simp);(refine CallDo.ob (iy af) (by first|exact a7 _|exact a7 ‹_› _) (by simp only[ad,av,dm,ef];exact aB) (by simp only[ad,av,dm,ef];exact aB) (by simp[au,Pv.look,ad,av]) ?_;rintro r ai ⟨rfl,rfl⟩;refine⟨(Same.keys (by simp[ad,av]) (by simp[ad,av])),?_⟩;simp[bg,ad,av]);by_cases bL:0<=v
    ·have I:¬v<=100000:=fun h=>aM ⟨bL,h⟩;(with_reducible repeat' first|refine aA ?_|refine a8 b8 ?_|refine ba b8 ?_|refine a8 (nG _) ?_|refine ba (nG _) ?_|simp[b1,bL,I]);refine cW.tm (i+1) (.var v) false Ψ (qU Ω _) (by simp only[ad];exact aB) (by simp only[ad];exact aB) ?_;simp[du,a1,be,aV,bC,bz]
    ·(with_reducible repeat' first|refine aA ?_|refine a8 b8 ?_|refine ba b8 ?_|refine a8 (nG _) ?_|refine ba (nG _) ?_|simp[b1,bL]);refine cW.tm (i+1) (.var v) false Ψ (qU Ω _) (by simp only[ad];exact aB) (by simp only[ad];exact aB) ?_;simp[du,a1,be,aV,bC,bz]
 ·have bF:eg (c::w')=if fM (c::w')then some (.sym (c::w'))else(fQ (c::w')).map .num:=by
   unfold eg;split
   ·rename_i e;cases e;exact absurd rfl aE
   ·rfl
  have Ba:¬c.toNat=63:=fun h=>aE (UInt8.toNat_inj.1 (by simpa using h));have xq:((c.toNat:Int)==63)=false:=jm.2 Ω;have s3:(c==40&&w'.isEmpty)=false:=by
   rw[Bool.and_eq_false_iff];by_cases h:c=40
   ·right;cases w' with
    |nil=>exact absurd (by rw[h]) aU
    |cons=>rfl
   ·left;simpa using h
  have cD:=CK (c::w');rw[bF];by_cases nu:fM (c::w')=true
  ·rw[if_pos nu];rw[nu]at cD;simp only[kF];simp only[ad]at aq;refine b7.mk mixed ls vt wh Ψ aq.obj fun aN b3=>?_;unfold tS;clear aN b3;simp[av,ad];(refine CallDo.ob (kI az) (by first|exact a7 _|exact a7 ‹_› _) (by simp only[ad,av,dm,ef];exact aB) (by simp only[ad,av,dm,ef];exact aB) (by simp[au,Pv.look,ad,av]) ?_;rintro r ai ⟨rfl,rfl⟩;refine⟨(Same.keys (by simp[ad,av]) (by simp[ad,av])),?_⟩;simp[bg,ad,av]);(with_reducible repeat' first|refine aA ?_|simp);(refine CallDo.ob (iy af) (by first|exact a7 _|exact a7 ‹_› _) (by simp only[ad,av,dm,ef];exact aB) (by simp only[ad,av,dm,ef];exact aB) (by simp[au,Pv.look,ad,av]) ?_;rintro r ai ⟨rfl,rfl⟩;refine⟨(Same.keys (by simp[ad,av]) (by simp[ad,av])),?_⟩;simp[bg,ad,av]);(with_reducible repeat' first|refine aA ?_|refine a8 cD ?_|refine ba cD ?_|refine a8 (FI _) ?_|refine ba (FI _) ?_|simp[b1,xq,s3]);refine cW.tm (i+1) (.sym (c::w')) true Ψ (Aa aF) (by simp only[ad];exact aB) (by simp only[ad];exact aB) ?_;simp[du,a1,be,aV,bC,bz]
  ·rw[bq nu];rw[Bool.not_eq_true]at nu;rw[nu]at cD;have b8:=CL (c::w') uy;unfold qK at b8;cases aK:fQ (c::w')with
   |none=>rw[aK]at b8;simp only[oG,sC]at b8;simp only[tG];simp only[ad]at aq;refine b7.mk mixed ls vt wh Ψ aq.obj fun aN b3=>?_;unfold tS;clear aN b3;simp[av,ad];(refine CallDo.ob (kI az) (by first|exact a7 _|exact a7 ‹_› _) (by simp only[ad,av,dm,ef];exact aB) (by simp only[ad,av,dm,ef];exact aB) (by simp[au,Pv.look,ad,av]) ?_;rintro r ai ⟨rfl,rfl⟩;refine⟨(Same.keys (by simp[ad,av]) (by simp[ad,av])),?_⟩;simp[bg,ad,av]);(with_reducible repeat' first|refine aA ?_|simp);(refine CallDo.ob (iy af) (by first|exact a7 _|exact a7 ‹_› _) (by simp only[ad,av,dm,ef];exact aB) (by simp only[ad,av,dm,ef];exact aB) (by simp[au,Pv.look,ad,av]) ?_;rintro r ai ⟨rfl,rfl⟩;refine⟨(Same.keys (by simp[ad,av]) (by simp[ad,av])),?_⟩;simp[bg,ad,av]);(with_reducible repeat' first|refine aA ?_|refine a8 cD ?_|refine ba cD ?_|refine a8 b8 ?_|refine ba b8 ?_|refine a8 (wN _) ?_|refine ba (wN _) ?_|simp[b1,xq,s3]);refine cW.tm (i+1) (.num 0) false Ψ (qU Ω _) (by simp only[ad];exact aB) (by simp only[ad];exact aB) ?_;simp[du,a1,be,aV,bC,bz]
   |some v=>rw[aK]at b8;simp only[oG,sC]at b8;simp only[kF];simp only[ad]at aq;refine b7.mk mixed ls vt wh Ψ aq.obj fun aN b3=>?_;unfold tS;clear aN b3;simp[av,ad];(refine CallDo.ob (kI az) (by first|exact a7 _|exact a7 ‹_› _) (by simp only[ad,av,dm,ef];exact aB) (by simp only[ad,av,dm,ef];exact aB) (by simp[au,Pv.look,ad,av]) ?_;rintro r ai ⟨rfl,rfl⟩;refine⟨(Same.keys (by simp[ad,av]) (by simp[ad,av])),?_⟩;simp[bg,ad,av]);(with_reducible repeat' first|refine aA ?_|simp);(refine CallDo.ob (iy af) (by first|exact a7 _|exact a7 ‹_› _) (by simp only[ad,av,dm,ef];exact aB) (by simp only[ad,av,dm,ef];exact aB) (by simp[au,Pv.look,ad,av]) ?_;rintro r ai ⟨rfl,rfl⟩;refine⟨(Same.keys (by simp[ad,av]) (by simp[ad,av])),?_⟩;simp[bg,ad,av]);(with_reducible repeat' first|refine aA ?_|refine a8 cD ?_|refine ba cD ?_|refine a8 b8 ?_|refine ba b8 ?_|refine a8 (wN _) ?_|refine ba (wN _) ?_|simp[b1,xq,s3]);refine cW.tm (i+1) (.num v) true Ψ (Aa aF) (by simp only[ad];exact aB) (by simp only[ad];exact aB) ?_;simp[du,a1,be,aV,bC,bz]
end
section
open Go Go.Pv
variable {ky:Nat}
theorem nf{l:List (List al)}{i:Nat}{s:List al}(az:i<=1000000)(h:l[i]? =some s):b7 aQ 177 [av ky,.str s] (ad ky l i) fun r ai=>r= .bool true/\ai=ad ky l (i+1):=by have:=NM (ky:=ky) l i az s;rwa[if_pos h,nM h]at this
theorem iU{l:List (List al)}{i:Nat}{s:List al}(az:i<=1000000)(h:l[i]?≠some s):b7 aQ 177 [av ky,.str s] (ad ky l i) fun r ai=>r= .bool false/\ai=ad ky l i:=by have:=NM (ky:=ky) l i az s;rwa[bq h,decide_eq_false h]at this
theorem QV(l:List (List al)):b7 aQ 178 [av ky] (ad ky l l.length) fun r ai=>r= .str []/\ai=ad ky l l.length:=by have:=DH (ky:=ky) l l.length;rwa[List.getElem?_eq_none (cq _)]at this
theorem Kh{l:List (List al)}{i p:Nat}{t:T}{rest:List (List al)}(h:b7 aQ 152 [av ky] (ad ky l i) (tB ky l (some (t,rest))))(aU:l.length-rest.length=p):b7 aQ 152 [av ky] (ad ky l i) fun r ai=>r= .tuple [t.e,.bool true]/\ai=ad ky l p:=h.mono fun r ai bn=>by rw[<-aU];exact bn
theorem tt{l rest:List (List al)}{j:Nat}(h:rest<:+l.drop j):rest=l.drop (l.length-rest.length)/\rest.length<=l.length-j:=by have I:rest<:+l:=h.trans (List.drop_suffix j l);exact⟨(UM I).symm,by have:=h.length_le;simpa using this⟩
def q6(ky:Nat)(l:List (List al))(x:List T×Nat×Nat):aS:=⟨[(0,.ptr (.obj ky) 0),(2,.ptr (.loc 0) 0),(5,.slice 4 (.own (.loc 1)) (x.1.map T.e))],[(.loc 0,cU),(.obj ky,[.slice 1 .no (bZ l),.int .i64 x.2.1])],[(.loc 1,⟨x.1.length,40,4,none⟩)],2,[.obj ky]⟩
def Aq(ky:Nat)(l:List (List al))(acc:List T)(t:T)(p:Nat)(m:Int):aS:=⟨[(2,.ptr (.loc 0) 0),(5,.slice 4 (.own (.loc 1)) (acc.map T.e)),(6,.ptr (.loc 2) 0),(8,.int .i64 m)],[(.loc 0,cU),(.loc 2,cells (e9 (acc.drop (m+1).toNat) t).e),(.obj ky,[.slice 1 .no (bZ l),.int .i64 (p+1:Nat)])],[(.loc 1,⟨acc.length,40,4,none⟩)],3,[.obj ky]⟩
theorem Xp(l:List (List al))(aG:l.length<=100000)(hw:∀w∈l,w≠[]/\w.length<=bN):∀n i:Nat,i<=l.length->2*(l.length-i)+1<=n->b7 aQ 152 [av ky] (ad ky l i) (tB ky l (rd eg n (l.drop i))):=by
 intro n;induction n using Nat.strongRecOn with
 |_ n bo=>
 intro i gZ aK;obtain⟨n,rfl⟩:∃m,n=m+1:=⟨n-1,Ω⟩;rcases iX gZ with rfl|az
 ·rw[jN];exact NN l
 obtain⟨w,af⟩:∃w,l[i]? =some w:=⟨_,cF az⟩;have oW:=hw w (fJ af);rw[fi af];by_cases aU:w=[40];rotate_left
 ·have hr:rd eg (n+1) (w::l.drop (i+1))=(eg w).map fun t=>(t,l.drop (i+1)):=by
   simp only[rd,bq aU];split
   ·rename_i h;rcases h with rfl|rfl<;>rfl
   ·rfl
  rw[hr];exact W5 l aG af oW.1 oW.2 aU
 subst aU;have hr:rd eg (n+1) ([40]::l.drop (i+1))=bH eg n (l.drop (i+1)) []:=by simp[rd]
 rw[hr];have aq:=a7 (ky:=ky) l i;have b1:aY ((i:Int)+1):=by unfold aY;omega
 obtain⟨R,bu⟩:∃R,R=bH eg n (l.drop (i+1)) []:=⟨_,rfl⟩;rw[<-bu];simp only[ad]at aq;refine b7.mk mixed ls vt wh Ψ aq.obj fun aN b3=>?_;unfold tS;clear aN b3;simp[av,ad];(refine CallDo.ob (kI az) (by first|exact a7 _|exact a7 ‹_› _) (by simp only[ad,av,dm,ef];exact aB) (by simp only[ad,av,dm,ef];exact aB) (by simp[au,Pv.look,ad,av]) ?_;rintro r ai ⟨rfl,rfl⟩;refine⟨(Same.keys (by simp[ad,av]) (by simp[ad,av])),?_⟩;simp[bg,ad,av]);(with_reducible repeat' first|refine aA ?_|simp);(refine CallDo.ob (iy af) (by first|exact a7 _|exact a7 ‹_› _) (by simp only[ad,av,dm,ef];exact aB) (by simp only[ad,av,dm,ef];exact aB) (by simp[au,Pv.look,ad,av]) ?_;rintro r ai ⟨rfl,rfl⟩;refine⟨(Same.keys (by simp[ad,av]) (by simp[ad,av])),?_⟩;simp[bg,ad,av]);(with_reducible repeat' first|refine aA ?_|simp[b1]);refine h1 (q6 ky l) (fun x=>l.length-x.2.1) (fun x=>x.2.1<=l.length/\2*(l.length-x.2.1)+2<=x.2.2/\x.2.2<=n/\bH eg x.2.2 (l.drop x.2.1) x.1=R/\x.1.length<=x.2.1) ([],i+1,n) (by simp[q6];exact⟨by simp[fresh,kinL,kin,bt,au,Pv.look,cU],cR (by simp[fresh,kinL,kin,bt,au,Pv.look,cU]),cS (by simp[fresh,kinL,kin,cB,au,Pv.look,cU]),Ψ⟩) ⟨az,by simp;omega,cq _,bu.symm,Ψ⟩ ?_;rintro⟨acc,j,k⟩ ⟨aw,aa,j7,dL,jd⟩ _;simp only at aw aa j7 dL jd;clear bu hr b1 af oW;subst dL;obtain⟨k,rfl⟩:∃m,k=m+1:=⟨k-1,Ω⟩;have oe:j<=1000000:=Ω
 rcases iX aw with rfl|fs
 ·rw[jN];simp only[bH];have dH:=iU (ky:=ky) (l:=l) (i:=l.length) (s:=[41]) oe Ψ;have ke:=NN (ky:=ky) l;simp[q6];refine CallDo.ob (dH) (a7 _ _) (by simp only[ad];exact aB) (by simp only[ad];exact aB) (by simp[au,Pv.look,ad,av,kinL,kin]) ?_;rintro r ai ⟨rfl,rfl⟩;refine⟨bJ _ _ _ _,?_⟩;simp[bg,ad,av];(with_reducible repeat' first|refine aA ?_|simp);refine CallDo.ob (QV l) (a7 _ _) (by simp only[ad];exact aB) (by simp only[ad];exact aB) (by simp[au,Pv.look,ad,av,kinL,kin]) ?_;rintro r ai ⟨rfl,rfl⟩;refine⟨bJ _ _ _ _,?_⟩;simp[bg,ad,av];(with_reducible repeat' first|refine aA ?_|simp);refine CallDo.ob (ke) (a7 _ _) (by simp only[ad];exact aB) (by simp only[ad];exact aB) (by simp[au,Pv.look,ad,av,kinL,kin]) ?_;rintro r ai ⟨x,q,bn,rfl,rfl⟩;refine⟨bJ _ _ _ _,?_⟩;simp[bg,ad,av];(with_reducible repeat' first|refine aA ?_|simp);refine cW.tm (q) (.nil) false Ψ (qU bn _) (by simp only[ad];exact aB) (by simp only[ad];exact aB) ?_;simp[du,a1,be,aV,bC,bz]
 obtain⟨v,aM⟩:∃v,l[j]? =some v:=⟨_,cF fs⟩;rw[fi aM];have gI:aY ((j:Int)+1):=by unfold aY;omega
 by_cases eN:v=[41]
 ·subst eN;have uk:bH eg (k+1) ([41]::l.drop (j+1)) acc=some (e9 acc .nil,l.drop (j+1)):=by simp[bH]
  rw[uk];have dH:=nf (ky:=ky) oe aM;have zl:=aem acc;have aF:=sO aM;simp[q6];refine CallDo.ob (dH) (a7 _ _) (by simp only[ad];exact aB) (by simp only[ad];exact aB) (by simp[au,Pv.look,ad,av,kinL,kin]) ?_;rintro r ai ⟨rfl,rfl⟩;refine⟨bJ _ _ _ _,?_⟩;simp[bg,ad,av];(with_reducible repeat' first|refine aA ?_|refine a8 zl ?_|refine ba zl ?_|simp);refine cW.tm (j+1) (e9 acc .nil) true Ψ (Aa aF) (by simp only[ad];exact aB) (by simp only[ad];exact aB) ?_;simp[du,a1,be,aV,bC,bz]
 have dH:=iU (ky:=ky) oe (show l[j]?≠some [41] by rw[aM];simpa using eN);by_cases lD:v=[46]
 ·subst lD;have dA:=kI (ky:=ky) fs;have dh:=bo k Ω (j+1) Ω Ω;cases db:rd eg k (l.drop (j+1))with
  |none=>
   rw[db]at dh;have he:bH eg (k+1) ([46]::l.drop (j+1)) acc=none:=by simp[bH,db]
   rw[he];simp[q6];refine CallDo.ob (dH) (a7 _ _) (by simp only[ad];exact aB) (by simp only[ad];exact aB) (by simp[au,Pv.look,ad,av,kinL,kin]) ?_;rintro r ai ⟨rfl,rfl⟩;refine⟨bJ _ _ _ _,?_⟩;simp[bg,ad,av];(with_reducible repeat' first|refine aA ?_|simp);refine CallDo.ob (iy aM) (a7 _ _) (by simp only[ad];exact aB) (by simp only[ad];exact aB) (by simp[au,Pv.look,ad,av,kinL,kin]) ?_;rintro r ai ⟨rfl,rfl⟩;refine⟨bJ _ _ _ _,?_⟩;simp[bg,ad,av];(with_reducible repeat' first|refine aA ?_|simp);refine CallDo.ob (dA) (a7 _ _) (by simp only[ad];exact aB) (by simp only[ad];exact aB) (by simp[au,Pv.look,ad,av,kinL,kin]) ?_;rintro r ai ⟨rfl,rfl⟩;refine⟨bJ _ _ _ _,?_⟩;simp[bg,ad,av];(with_reducible repeat' first|refine aA ?_|simp[gI]);refine CallDo.ob (dh) (a7 _ _) (by simp only[ad];exact aB) (by simp only[ad];exact aB) (by simp[au,Pv.look,ad,av,kinL,kin]) ?_;rintro r ai ⟨x,q,bn,rfl,rfl⟩;refine⟨bJ _ _ _ _,?_⟩;simp[bg,ad,av];(with_reducible repeat' first|refine aA ?_|simp);refine cW.tm (q) (.nil) false Ψ (qU bn _) (by simp only[ad];exact aB) (by simp only[ad];exact aB) ?_;simp[du,a1,be,aV,bC,bz]
  |some tr=>
   obtain⟨t,rest⟩:=tr;rw[db]at dh;obtain⟨fE,nz⟩:=tt (pY k _ _ _ db).1;obtain⟨p,aU⟩:∃p,p=l.length-rest.length:=⟨_,rfl⟩;rw[<-aU]at fE;have lO:=Kh dh aU.symm;have fm:p<=l.length:=Ω
   by_cases bF:acc=[]
   ·subst bF;rw[show bH eg (k+1) ([46]::l.drop (j+1)) []=none by simp[bH]];simp[q6];refine CallDo.ob (dH) (a7 _ _) (by simp only[ad];exact aB) (by simp only[ad];exact aB) (by simp[au,Pv.look,ad,av,kinL,kin]) ?_;rintro r ai ⟨rfl,rfl⟩;refine⟨bJ _ _ _ _,?_⟩;simp[bg,ad,av];(with_reducible repeat' first|refine aA ?_|simp);refine CallDo.ob (iy aM) (a7 _ _) (by simp only[ad];exact aB) (by simp only[ad];exact aB) (by simp[au,Pv.look,ad,av,kinL,kin]) ?_;rintro r ai ⟨rfl,rfl⟩;refine⟨bJ _ _ _ _,?_⟩;simp[bg,ad,av];(with_reducible repeat' first|refine aA ?_|simp);refine CallDo.ob (dA) (a7 _ _) (by simp only[ad];exact aB) (by simp only[ad];exact aB) (by simp[au,Pv.look,ad,av,kinL,kin]) ?_;rintro r ai ⟨rfl,rfl⟩;refine⟨bJ _ _ _ _,?_⟩;simp[bg,ad,av];(with_reducible repeat' first|refine aA ?_|simp[gI]);refine CallDo.ob (lO) (a7 _ _) (by simp only[ad];exact aB) (by simp only[ad];exact aB) (by simp[au,Pv.look,ad,av,kinL,kin]) ?_;rintro r ai ⟨rfl,rfl⟩;refine⟨bJ _ _ _ _,?_⟩;simp[bg,ad,av];(with_reducible repeat' first|refine aA ?_|simp);refine cW.tm (p) (.nil) false Ψ (qU fm _) (by simp only[ad];exact aB) (by simp only[ad];exact aB) ?_;simp[du,a1,be,aV,bC,bz]
   ·have hT:0<acc.length:=q2.2 bF;have XV:¬acc.length=0:=Ω
    have XW:acc.length<=100000:=Ω
    have n9:((acc.length:Int)==0)=false:=jm.2 Ω;by_cases rz:l[p]? =some [41]
    ·have uF:=nf (ky:=ky) (show p<=1000000 by omega) rz;have uw:rest=[41]::l.drop (p+1):=by rw[fE];exact fi rz
     rw[show bH eg (k+1) ([46]::l.drop (j+1)) acc=some (e9 acc t,l.drop (p+1)) by simp[bH,db,uw,bF]];have aF:=sO rz;have sV:aY ((acc.length:Int)-1):=by unfold aY;omega
     simp[q6];refine CallDo.ob (dH) (a7 _ _) (by simp only[ad];exact aB) (by simp only[ad];exact aB) (by simp[au,Pv.look,ad,av,kinL,kin]) ?_;rintro r ai ⟨rfl,rfl⟩;refine⟨bJ _ _ _ _,?_⟩;simp[bg,ad,av];(with_reducible repeat' first|refine aA ?_|simp);refine CallDo.ob (iy aM) (a7 _ _) (by simp only[ad];exact aB) (by simp only[ad];exact aB) (by simp[au,Pv.look,ad,av,kinL,kin]) ?_;rintro r ai ⟨rfl,rfl⟩;refine⟨bJ _ _ _ _,?_⟩;simp[bg,ad,av];(with_reducible repeat' first|refine aA ?_|simp);refine CallDo.ob (dA) (a7 _ _) (by simp only[ad];exact aB) (by simp only[ad];exact aB) (by simp[au,Pv.look,ad,av,kinL,kin]) ?_;rintro r ai ⟨rfl,rfl⟩;refine⟨bJ _ _ _ _,?_⟩;simp[bg,ad,av];(with_reducible repeat' first|refine aA ?_|simp[gI]);refine CallDo.ob (lO) (a7 _ _) (by simp only[ad];exact aB) (by simp only[ad];exact aB) (by simp[au,Pv.look,ad,av,kinL,kin]) ?_;rintro r ai ⟨rfl,rfl⟩;refine⟨bJ _ _ _ _,?_⟩;simp[bg,ad,av];(with_reducible repeat' first|refine aA ?_|simp[n9]);refine CallDo.ob (uF) (a7 _ _) (by simp only[ad];exact aB) (by simp only[ad];exact aB) (by simp[au,Pv.look,ad,av,kinL,kin]) ?_;rintro r ai ⟨rfl,rfl⟩;refine⟨bJ _ _ _ _,?_⟩;simp[bg,ad,av];(with_reducible repeat' first|refine aA ?_|simp[sV]);refine h1 (Aq ky l acc t p) (fun m=>(m+1).toNat) (fun m=> -1<=m/\m<acc.length) ((acc.length:Int)-1) (by simp[Aq,e9,sV];exact⟨by simp[fresh,kinL,kin,bt,au,Pv.look,cU],cR (by simp[fresh,kinL,kin,bt,au,Pv.look,cU]),cS (by simp[fresh,kinL,kin,cB,au,Pv.look,cU]),Ψ⟩) ⟨Ω,Ω⟩ ?_;rintro m ⟨agU,D1⟩ _;clear dH uF dh lO dA db uw fE;have mO:aY (m-1):=by unfold aY;omega
     by_cases il:0<=m
     ·obtain⟨m,rfl⟩:∃a:Nat,m=a:=⟨m.toNat,Ω⟩;have HE:m<acc.length:=Ω
      obtain⟨y,bA,ho⟩:=hj HE;have pw:((m:Int)+1).toNat=m+1:=Ω
      have aj:((m:Int)-1+1).toNat=m:=Ω
      have PW:=SR y (e9 (acc.drop (m+1)) t);simp[Aq,pw,HE,ho];(with_reducible repeat' first|refine aA ?_|refine a8 PW ?_|refine ba PW ?_|simp[HE,ho,mO]);refine b9.whl ((m:Int)-1) Ω ⟨Ω,Ω⟩ ?_;simp only[Aq,aj];rw[P5 bA];simp;exact⟨by simp[fresh,kinL,kin,bt,au,Pv.look,cU],cR (by simp[fresh,kinL,kin,bt,au,Pv.look,cU]),cS (by simp[fresh,kinL,kin,cB,au,Pv.look,cU]),Ψ⟩
     ·obtain rfl:m= -1:=Ω
      simp[Aq];(with_reducible repeat' first|refine aA ?_|simp);refine cW.tm (p+1) (e9 acc t) true Ψ (Aa aF) (by simp only[ad];exact aB) (by simp only[ad];exact aB) ?_;simp[du,a1,be,aV,bC,bz]
    ·have uF:=iU (ky:=ky) (show p<=1000000 by omega) rz;have jh:bH eg (k+1) ([46]::l.drop (j+1)) acc=none:=by
      cases rest with
      |nil=>simp[bH,db,bF]
      |cons v r=>
       have:l[p]? =some v:=by rw[<-List.head?_drop,<-fE];rfl
       have BF:¬v=[41]:=by rintro rfl;exact rz this
       simp[bH,db,bF,BF]
     rw[jh];simp[q6];refine CallDo.ob (dH) (a7 _ _) (by simp only[ad];exact aB) (by simp only[ad];exact aB) (by simp[au,Pv.look,ad,av,kinL,kin]) ?_;rintro r ai ⟨rfl,rfl⟩;refine⟨bJ _ _ _ _,?_⟩;simp[bg,ad,av];(with_reducible repeat' first|refine aA ?_|simp);refine CallDo.ob (iy aM) (a7 _ _) (by simp only[ad];exact aB) (by simp only[ad];exact aB) (by simp[au,Pv.look,ad,av,kinL,kin]) ?_;rintro r ai ⟨rfl,rfl⟩;refine⟨bJ _ _ _ _,?_⟩;simp[bg,ad,av];(with_reducible repeat' first|refine aA ?_|simp);refine CallDo.ob (dA) (a7 _ _) (by simp only[ad];exact aB) (by simp only[ad];exact aB) (by simp[au,Pv.look,ad,av,kinL,kin]) ?_;rintro r ai ⟨rfl,rfl⟩;refine⟨bJ _ _ _ _,?_⟩;simp[bg,ad,av];(with_reducible repeat' first|refine aA ?_|simp[gI]);refine CallDo.ob (lO) (a7 _ _) (by simp only[ad];exact aB) (by simp only[ad];exact aB) (by simp[au,Pv.look,ad,av,kinL,kin]) ?_;rintro r ai ⟨rfl,rfl⟩;refine⟨bJ _ _ _ _,?_⟩;simp[bg,ad,av];(with_reducible repeat' first|refine aA ?_|simp[n9]);refine CallDo.ob (uF) (a7 _ _) (by simp only[ad];exact aB) (by simp only[ad];exact aB) (by simp[au,Pv.look,ad,av,kinL,kin]) ?_;rintro r ai ⟨rfl,rfl⟩;refine⟨bJ _ _ _ _,?_⟩;simp[bg,ad,av];(with_reducible repeat' first|refine aA ?_|simp);refine cW.tm (p) (.nil) false Ψ (qU fm _) (by simp only[ad];exact aB) (by simp only[ad];exact aB) ?_;simp[du,a1,be,aV,bC,bz]
 ·have dh:=bo k Ω j aw Ω;have hb:(v==[46])=false:=jm.2 lD;rw[fi aM]at dh;cases db:rd eg k (v::l.drop (j+1))with
  |none=>rw[db]at dh;rw[show bH eg (k+1) (v::l.drop (j+1)) acc=none by simp[bH,db,eN,lD]];simp[q6];refine CallDo.ob (dH) (a7 _ _) (by simp only[ad];exact aB) (by simp only[ad];exact aB) (by simp[au,Pv.look,ad,av,kinL,kin]) ?_;rintro r ai ⟨rfl,rfl⟩;refine⟨bJ _ _ _ _,?_⟩;simp[bg,ad,av];(with_reducible repeat' first|refine aA ?_|simp);refine CallDo.ob (iy aM) (a7 _ _) (by simp only[ad];exact aB) (by simp only[ad];exact aB) (by simp[au,Pv.look,ad,av,kinL,kin]) ?_;rintro r ai ⟨rfl,rfl⟩;refine⟨bJ _ _ _ _,?_⟩;simp[bg,ad,av];(with_reducible repeat' first|refine aA ?_|simp[hb]);refine CallDo.ob (dh) (a7 _ _) (by simp only[ad];exact aB) (by simp only[ad];exact aB) (by simp[au,Pv.look,ad,av,kinL,kin]) ?_;rintro r ai ⟨x,q,bn,rfl,rfl⟩;refine⟨bJ _ _ _ _,?_⟩;simp[bg,ad,av];(with_reducible repeat' first|refine aA ?_|simp);refine cW.tm (q) (.nil) false Ψ (qU bn _) (by simp only[ad];exact aB) (by simp only[ad];exact aB) ?_;simp[du,a1,be,aV,bC,bz]
  |some tr=>
   obtain⟨t,rest⟩:=tr;rw[db]at dh;obtain⟨rP,rQ⟩:=pY k _ _ _ db;rw[<-fi aM]at rP rQ;obtain⟨fE,nz⟩:=tt rP;obtain⟨p,aU⟩:∃p,p=l.length-rest.length:=⟨_,rfl⟩;rw[<-aU]at fE;have lO:=Kh dh aU.symm;have fm:p<=l.length:=Ω
   have HM:j<p:=by simp at rQ;omega
   rw[show bH eg (k+1) (v::l.drop (j+1)) acc=bH eg k rest (acc++[t]) by simp[bH,db,eN,lD]];have hT:acc.length+1<=bN:=by unfold bN;omega
   simp[q6];refine CallDo.ob (dH) (a7 _ _) (by simp only[ad];exact aB) (by simp only[ad];exact aB) (by simp[au,Pv.look,ad,av,kinL,kin]) ?_;rintro r ai ⟨rfl,rfl⟩;refine⟨bJ _ _ _ _,?_⟩;simp[bg,ad,av];(with_reducible repeat' first|refine aA ?_|simp);refine CallDo.ob (iy aM) (a7 _ _) (by simp only[ad];exact aB) (by simp only[ad];exact aB) (by simp[au,Pv.look,ad,av,kinL,kin]) ?_;rintro r ai ⟨rfl,rfl⟩;refine⟨bJ _ _ _ _,?_⟩;simp[bg,ad,av];(with_reducible repeat' first|refine aA ?_|simp[hb]);refine CallDo.ob (lO) (a7 _ _) (by simp only[ad];exact aB) (by simp only[ad];exact aB) (by simp[au,Pv.look,ad,av,kinL,kin]) ?_;rintro r ai ⟨rfl,rfl⟩;refine⟨bJ _ _ _ _,?_⟩;simp[bg,ad,av];(with_reducible repeat' first|refine aA ?_|simp[hT]);refine b9.whl (acc++[t],p,k) (by simp;omega) ⟨fm,by simp;omega,by simp;omega,by simp[<-fE],by simp;omega⟩ ?_;simp[q6];exact⟨by simp[fresh,kinL,kin,bt,au,Pv.look,cU,cX],cR (by simp[fresh,kinL,kin,bt,au,Pv.look,cU,cX]),cS (by simp[fresh,kinL,kin,cB,au,Pv.look,cU,cX]),Ψ⟩
theorem NL(l:List (List al))(aG:l.length<=100000)(hw:∀w∈l,w≠[]/\w.length<=bN)(i:Nat)(az:i<=l.length):b7 aQ 84 [av ky] (ad ky l i) (tB ky l (ei (l.drop i))):=by
 have aq:=a7 (ky:=ky) l i;have dh:=Xp (ky:=ky) l aG hw (2*(l.length-i)+1) i az (cq _);cases db:rd eg (2*(l.length-i)+1) (l.drop i)with
 |none=>rw[db]at dh;rw[show ei (l.drop i)=none by unfold ei;rw[hg,db]];simp only[ad]at aq;refine b7.mk mixed ls yN zy Ψ aq.obj fun aN b3=>?_;unfold w1;clear aN b3;simp[av,ad];refine CallDo.ob (dh) (a7 _ _) (by simp only[ad];exact aB) (by simp only[ad];exact aB) (by simp[au,Pv.look,ad,av,kinL,kin]) ?_;rintro r ai ⟨x,q,bn,rfl,rfl⟩;refine⟨bJ _ _ _ _,?_⟩;simp[bg,ad,av];(with_reducible repeat' first|refine aA ?_|simp);refine cW.tm (q) (.nil) false Ψ (qU bn _) (by simp only[ad];exact aB) (by simp only[ad];exact aB) ?_;simp[du,a1,be,aV,bC,bz]
 |some tr=>
  obtain⟨t,rest⟩:=tr;rw[db]at dh;obtain⟨fE,nz⟩:=tt (pY _ _ _ _ db).1;have lO:=Kh dh rfl;have cx:=SK t;rw[show ei (l.drop i)=if t.fit then some (t,rest)else none by unfold ei;rw[hg,db]];simp only[ad]at aq;by_cases aL:t.fit=true
  ·rw[if_pos aL];rw[aL]at cx;refine b7.mk mixed ls yN zy Ψ aq.obj fun aN b3=>?_;unfold w1;clear aN b3;simp[av,ad];refine CallDo.ob (lO) (a7 _ _) (by simp only[ad];exact aB) (by simp only[ad];exact aB) (by simp[au,Pv.look,ad,av,kinL,kin]) ?_;rintro r ai ⟨rfl,rfl⟩;refine⟨bJ _ _ _ _,?_⟩;simp[bg,ad,av];(with_reducible repeat' first|refine aA ?_|refine a8 cx ?_|refine ba cx ?_|simp);refine cW.tm (l.length-rest.length) (t) true Ψ (Aa rfl) (by simp only[ad];exact aB) (by simp only[ad];exact aB) ?_;simp[du,a1,be,aV,bC,bz]
  ·rw[bq aL];rw[Bool.not_eq_true]at aL;rw[aL]at cx;refine b7.mk mixed ls yN zy Ψ aq.obj fun aN b3=>?_;unfold w1;clear aN b3;simp[av,ad];refine CallDo.ob (lO) (a7 _ _) (by simp only[ad];exact aB) (by simp only[ad];exact aB) (by simp[au,Pv.look,ad,av,kinL,kin]) ?_;rintro r ai ⟨rfl,rfl⟩;refine⟨bJ _ _ _ _,?_⟩;simp[bg,ad,av];(with_reducible repeat' first|refine aA ?_|refine a8 cx ?_|refine ba cx ?_|simp);refine cW.tm (l.length-rest.length) (.nil) false Ψ (qU Ω _) (by simp only[ad];exact aB) (by simp only[ad];exact aB) ?_;simp[du,a1,be,aV,bC,bz]
end
section
open Go Go.Pv
def tT:C:=(ag [ht 2 cU,bD 3 false] (.seq (ag [ab 15 0,cK 16 83 15] (bh 16 (ag [kB 17 cU [],bE 4 2 17,bD 3 false] .ret) .skip)) (ag [ab 18 0,cK 19 178 18,ab 4 19] (.seq (ag [ab 20 4,bk 21 (.bin .eql false (.t 20) (.c (.str [40])))] (bh 21 (ag [ab 22 0,hf 23 22,bm 24 1 1 23,bf 25 1 24,bc 26 .add 25 1,hf 27 22,bm 28 1 1 27,bE 1 28 26] (ag [hE 29 4 40 [],ab 5 29] (.block 0 (.loop (.block 1 (.seq (ag [ab 30 0,⟨none,.call (some 31) (.c (.func 177 [])) [.t 30,(.c (.str [41]))]⟩] (bh 31 (ag [ab 32 5,⟨none,.opn (some 33) (.c (.func 205 [])) [.t 32]⟩,bE 4 2 33,bD 3 true] .ret) .skip)) (.seq (ag [ab 34 0,cK 35 178 34,bk 36 (.bin .eql false (.t 35) (.c (.str [46]))),ab 37 36,bP 37 true 38 0,aI 37 true (cK 39 83 38),aI 37 true (dB 40 39),e7 41 37 40] (bh 41 (ag [ab 42 0,hf 43 42,bm 44 1 1 43,bf 45 1 44,bc 46 .add 45 1,hf 47 42,bm 48 1 1 47,bE 1 48 46] (ag [ab 50 0,cK 51 152 50,ab 49 51,dN 52 0 49,dN 53 1 49,ht 6 cU,bE 4 6 52,ab 7 53] (.seq (ag [ab 54 7,dB 55 54,ab 56 55,bP 56 false 57 5,aI 56 false (c7 58 57),aI 56 false (bc 59 .eql 58 0),dk 60 56 59,ab 61 60,bP 61 false 62 0,⟨(some (61,false)),.call (some 63) (.c (.func 177 [])) [.t 62,(.c (.str [41]))]⟩,aI 61 false (dB 64 63),dk 65 61 64] (bh 65 (ag [kB 66 cU [],bE 4 2 66,bD 3 false] .ret) .skip)) (.seq (ag [ab 67 5,c7 68 67,bc 69 .sub 68 1,ab 8 69] (.block 2 (.loop (.seq (ag [ab 70 8,bc 71 .geq 70 0] (bh 71 .skip (.exit 2))) (.seq (.block 3 (.drawnL true 132 [ab 74 5,ab 75 8,cQ 76 4 74 75,ck 77 4 76,ck 78 4 6] [⟨none,.opn (some 79) (.c (.func 206 [])) [.t 77,.t 78]⟩,bE 4 6 79])) (.region [ab 72 8,bc 73 .sub 72 1,ab 8 73])))))) (ag [ck 80 4 6,bE 4 2 80,bD 3 true] .ret))))) .skip)) (ag [ab 82 0,cK 83 152 82,ab 81 83,dN 84 0 81,dN 85 1 81,ht 9 cU,bE 4 9 84,ab 10 85] (.seq (ag [ab 86 10,dB 87 86] (bh 87 (ag [kB 88 cU [],bE 4 2 88,bD 3 false] .ret) .skip)) (.region [ab 89 5,ck 90 4 9,hE 91 4 40 [.t 90],lW 92 4 40 89 91,ab 5 92])))))))))) .skip)) (ag [ab 93 0,hf 94 93,bm 95 1 1 94,bf 96 1 95,bc 97 .add 96 1,hf 98 93,bm 99 1 1 98,bE 1 99 97] (.seq (ag [ab 100 4,bk 101 (.sidx (.t 100) (da 0)),bk 102 (.bin .eql false (.t 101) (.c (.int .u8 63)))] (bh 102 (ag [ab 104 4,bk 105 (.ssl (.t 104) (some (da 1)) none),cK 106 179 105,ab 103 106,dN 107 0 103,dN 108 1 103,ab 11 107,ab 12 108] (ag [ab 109 11,cK 110 86 109,ab 111 12,ab 112 111,bP 112 true 113 11,aI 112 true (bc 114 .geq 113 0),e7 115 112 114,ab 116 115,bP 116 true 117 11,aI 116 true (bc 118 .leq 117 100000),e7 119 116 118,bE 4 2 110,ab 3 119] .ret)) .skip)) (.seq (ag [ab 120 4,cK 121 170 120] (bh 121 (ag [ab 122 4,cK 123 207 122,bE 4 2 123,bD 3 true] .ret) .skip)) (ag [ab 125 4,cK 126 179 125,ab 124 126,dN 127 0 124,dN 128 1 124,ab 13 127,ab 14 128] (ag [ab 129 13,cK 130 208 129,ab 131 14,bE 4 2 130,ab 3 131] .ret)))))))))
@[simp] def aci:List cr:=[.cell 2 true 4,.tmp 3]
def LD:C:=(ag [ht 2 cU] (ag [kB 5 cU [],ht 3 cU,bE 4 3 5] (.seq (ag [ab 6 0,c7 7 6,bc 8 .sub 7 1,ab 4 8] (.block 0 (.loop (.seq (ag [ab 9 4,bc 10 .geq 9 0] (bh 10 .skip (.exit 0))) (.seq (.block 1 (.drawnL true 20 [ab 13 0,ab 14 4,cQ 15 4 13 14,ck 16 4 15,ck 17 4 3] [⟨none,.opn (some 18) (.c (.func 206 [])) [.t 16,.t 17]⟩,bE 4 3 18])) (.region [ab 11 4,bc 12 .sub 11 1,ab 4 12])))))) (ag [ck 19 4 3,bE 4 2 19] .ret))))
@[simp] def ab8:List cr:=[.cell 2 true 4]
def Kt:List (Nat×cJ):=[
 (3,⟨1,8,.int .i64,.int .i64 0⟩),
 (9,⟨1,16,.str,.str []⟩),
 (38,⟨1,24,.slice 40,.slice 4 .nil []⟩),
 (40,⟨4,56,.struct [(0,3),(1,3),(2,9),(3,38)],.agg [.int .i64 0,.int .i64 0,.str [],.slice 4 .nil []]⟩),
 (131,⟨2,32,.struct [(0,70),(1,3)],.agg [.slice 1 .nil [],.int .i64 0]⟩)]
theorem u2:ez aQ Kt=true:=by kernel_rfl
theorem wi:c8 Kt tT aci 1 Tryz.f152=true:=by kernel_rfl
theorem vu:aQ.funcs[(152:Nat)]? =some Tryz.f152:=Tryz.func152
theorem abe:c8 Kt LD ab8 1 Tryz.f205=true:=by kernel_rfl
theorem Wc:aQ.funcs[(205:Nat)]? =some Tryz.f205:=Tryz.func205
def _root_.Go.Pv.T.k(t:T)(κ:Nat):ae:= .agg [.int .i64 t.kind,.int .i64 t.int,.str t.name,.slice 4 (.tr (.loc κ) 0) (t.args.map T.e)]
end
end Go.Proofs.YtlnndmgfngfeiaaGreatDoor
namespace Go.Pv
section
open Go Go.RowKit
theorem CallDo.obK{P:bK}{n:Nat}{args:List ae}{st:aS}{d:aT Nat}{K:aS->Prop}{s:dD}{Q:ae->dD->Prop}(aL:FnK P n st.n args s Q)(aq:h8 s)(ah:∀k cs,look k s.b=some cs->look k st.b=some cs)(he:∀k o,look k s.e=some o->look k st.e=some o)
  (aa:kinL (au s) args) (rI: .loc st.n∉st.o) (h:∀r ai,Q r ai->Same s ai/\K ⟨fk d r st.t,bg s.b st.b++ai.b,bg s.e st.e++ai.e,st.n+1,st.o++ec ai⟩):CallDo P n args st d K:=by
 refine .inr ⟨s,Q,fun k cs aE=>⟨ah k cs aE,.inl (by simp[aE]),aq.kb k cs aE⟩,fun k o ak=>⟨he k o ak,.inr (by simp[ak]),aq.ke k o ak⟩,aq.obj,aa,rI,aL,fun r ai bn=>?_⟩;obtain⟨I,J⟩:=h r ai bn;exact⟨⟨fun m hm=>.inl (by rw[I.b];exact hm),fun m hm=>.inl (by rw[I.e];exact hm)⟩,J⟩
theorem dy.ob{di:List cr}{κ:Nat}{s ai:dD}{Q:ae->dD->Prop}{e:Exit}{st:aS}(ik:e= .ret\/e= .normal)(aq:h8 ai)(gE:ai.e=[])(e0:Same s ai)(ah:∀k cs,look k ai.b=some cs->look k st.b=some cs)(h:match a1 st di with
  |some (c,a6)=>c/\(cH st.e (aV a6)/\(cp st.e (aV a6)).Nodup/\(bY (aV a6)).Nodup)/\Q (fold κ st.e 0 (aV a6)) ai
  |none=>cZ):dy di s κ Q e st:=by
 refine⟨ik,?_⟩;cases hn:a1 st di with
 |none=>simp[hn]at h
 |some x=>
  obtain⟨c,a6⟩:=x;simp only[hn]at h⊢;have DY:∀l:List (aC×List ae),(∀k x,(k,x)∈l->au ai k)->mm ai l:=by
   intro l;induction l with
   |nil=>intro _;trivial
   |cons y l bo=>intro aG;obtain⟨k,x⟩:=y;exact⟨aG k x Ψ,bo fun k x af=>aG k x (by simp[af])⟩
  refine⟨h.1,ai,gE,DY _ fun k x af=>?_,fun k cs aE=>⟨ah k cs aE,.inl (by simp[aE]),aq.kb k cs aE⟩,aq.obj,h.2.1,h.2.2⟩;exact .inl (by rw[<-e0.b];exact wa af)
theorem kn.fd{P:bK}{ob:List aC}{f:FuncId}{args:List ae}{st:aS}{d:Nat}{K:aS->Prop}(h:kn P ob f args st (some d) fun st'=>xf ob st' d/\K (vv st' d)):kn P ob f args st (some d) K:=by intro C a w ν vs DM hr iH aF;refine(h C a w ν vs DM hr iH aF).mono fun e w' bI=>?_;obtain⟨v,st',ν',he,⟨I,J⟩,bW⟩:=bI;obtain⟨ν'',ao⟩:=Nj bW (s:=d) (by rw[DM];exact I);exact⟨v,_,ν'',he,J,ao⟩
theorem kn.fdK{P:bK}{ob:List aC}{f:FuncId}{args:List ae}{st:aS}{d:Nat}{K:aS->Prop}(h:∀K1:aS->Prop,(∀st',xf ob st' d->K (vv st' d)->K1 st')->kn P ob f args st (some d) K1):kn P ob f args st (some d) K:=kn.fd (h _ fun _ a b=>⟨a,b⟩)
theorem Gw(N:List aC):∀a b:List ae,fh N (a++b)=fh N a++fh N b
 |[],_=>rfl
 |x::a,b=>by simp[fh,Gw N a b]
theorem AK{α:Type}{N:List aC}{g:α->ae}(h:∀x,fT N (g x)=g x):∀l:List α,fh N (l.map g)=l.map g
 |[]=>rfl
 |x::l=>by simp[fh,h x,AK h l]
theorem Mo{α:Type}{N:List aC}{f:α->Nat->ae}(h:∀x n,aC.loc n∉N->fT N (f x n)=f x n):∀l:List (α×Nat),(∀p∈l,aC.loc p.2∉N)->fh N (cY f l)=cY f l
 |[],_=>rfl
 |x::l,aG=>by have:=Mo h l fun p aU=>aG p (by simp[aU]);unfold cY at this;simp[cY,fh,h x.1 x.2 (aG x Ψ),this]
end
end Go.Pv
namespace Go.Proofs.YtlnndmgfngfeiaaGreatDoor
section
open Go Go.Pv
variable {ky:Nat}
theorem vW:pn T.k T.e:=⟨fun x n=>rfl,fun x n=>⟨trivial,trivial,trivial,oq n,trivial⟩,fun x n=>by simp[T.k,bC],fun S x n h=>by simp[T.k,Pv.kin,Pv.kinL,h]⟩
@[simp]theorem afV(t:T)(n:Nat):cells (t.k n)=[.int .i64 t.kind,.int .i64 t.int,.str t.name,.slice 4 (.tr (.loc n) 0) (t.args.map T.e)]:=rfl
@[simp]theorem aiB(t:T)(n:Nat):eD (t.k n)=true:=rfl
def wE(t:T):aT Nat->ae
 |some n=>t.k n
 |none=>.agg cU
theorem Kg(N:List aC)(t:T):fT N t.e=t.e:=by
 induction t with
 |pair a b uA uB=>simp only[T.e,fT,fh,uA,uB]
 |_=>simp only[T.e,fT,fh]
@[simp]theorem adC(N:List aC)(t:T)(n:Nat):fT N (t.k n)=if aC.loc n∈N then t.e else t.k n:=by
 have h:aC.loc n≠dv:=oq n;by_cases aK:aC.loc n∈N
 ·rw[if_pos aK];simp only[T.k,fT,fh,aK,true_or,if_true,AK (Kg N)];rw[T.e_eq]
 ·rw[bq aK];simp[T.k,fT,fh,aK,h]
@[simp]theorem af5(N:List aC)(l:List (List al)):fh N (bZ l)=bZ l:=AK (fun _=>rfl) l
@[simp]theorem af4(N:List aC)(l:List T):fh N (l.map T.e)=l.map T.e:=AK (Kg N) l
@[simp]theorem ahe(t:T)(n:Nat):Pv.isAgg 4 (t.k n):=⟨_,rfl,rfl⟩
def kT(acc:List (T×Nat))(m:Nat):List ae:=cY T.k (acc.take m)++(acc.drop m).map fun p=>p.1.e
@[simp]theorem ahg(acc:List (T×Nat))(m:Nat):(kT acc m).length=acc.length:=by simp[kT];omega
theorem Pl(acc:List (T×Nat)):kT acc acc.length=cY T.k acc:=by simp[kT]
theorem Pm{acc:List (T×Nat)}{m:Nat}{y:T×Nat}(bA:acc[m]? =some y):(kT acc (m+1))[m]? =some (y.1.k y.2):=by have hm:=(e3.1 bA).1;unfold kT;rw[qa (by simp;omega)];simp[cY,bA]
theorem Em{S:aC->Prop}{acc:List (T×Nat)}{m:Nat}(h:∀p∈acc,S (.loc p.2)):Pv.kinL S (kT acc m):=by
 have aaf:∀a b:List ae,Pv.kinL S a->Pv.kinL S b->Pv.kinL S (a++b):=fun a b bF ah=>by
  induction a with
  |nil=>exact ah
  |cons x a bo=>simp only[Pv.kinL]at bF;simp only[dm,Pv.kinL];exact⟨bF.1,bo bF.2⟩
 refine aaf _ _ (vW.kiL _ fun p aU=>h p (List.mem_of_mem_take aU)) ?_;have:∀l:List (T×Nat),Pv.kinL S (l.map fun p=>p.1.e):=by
  intro l;induction l with
  |nil=>simp[Pv.kinL]
  |cons x l bo=>simp only[gY,Pv.kinL];exact⟨nB (S:=fun _=>cZ) (fun _ h=>h.elim) _ Ψ,bo⟩
 exact this _
theorem Il{N:List aC}{n:Nat}{acc:List (T×Nat)}{m:Nat}{y:T×Nat}(jd:lz n acc)(bA:acc[m]? =some y)(lE:∀k,aC.loc k∈N->k=y.2\/n<=k)(ZB:aC.loc y.2∈N):fh N (kT acc (m+1))=kT acc m:=by
 obtain⟨hm,zb⟩:=e3.1 bA;have aD:acc.take (m+1)=acc.take m++[y]:=by rw[List.take_succ_eq_append_getElem hm,zb]
 have aF:acc.drop m=y::acc.drop (m+1):=by rw[pd hm,zb]
 unfold kT;rw[aD,aF,Gw];have iv:cY T.k (acc.take m++[y])=cY T.k (acc.take m)++[y.1.k y.2]:=EM T.k _ y.1 y.2;rw[iv,Gw];have b4:∀p∈acc.take m,aC.loc p.2∉N:=by
  intro p aU XN;rcases lE _ XN with e|e
  ·have uo:=jd.nd;have Zi:acc=acc.take m++y::acc.drop (m+1):=by rw[<-aF,q3]
   rw[Zi,List.map_append,qb]at uo;exact uo.2.2 p.2 (lZ.2 ⟨p,aU,rfl⟩) y.2 Ψ e
  ·have:=jd.lt p (List.mem_of_mem_take aU);omega
 rw[Mo (fun x n aK=>by rw[adC,bq aK]) _ b4];have ao:fh N ((acc.drop (m+1)).map fun p=>p.1.e)=(acc.drop (m+1)).map fun p=>p.1.e:=AK (fun x=>Kg N x.1) _;rw[ao];simp[fh,ZB]
def ve(ky n:Nat)(l:List (List al))(j:Nat)(ob:List aC)(acc:List (T×Nat))(x:Nat×aT Nat×Nat):aS:=
 ⟨[(0,.slice 4 (.own (.loc 1)) (kT acc x.1)),(2,.ptr (.loc n) 0),(3,.ptr (.loc (n+1)) 0),(4,.int .i64 ((x.1:Int)-1))],
  [(.loc 0,cU),(.obj ky,[.slice 1 .no (bZ l),.int .i64 j]),(.loc n,cU),(.loc (n+1),cells (wE (e9 ((acc.drop x.1).map (·.1)) .nil) x.2.1))],
  [(.loc 1,⟨acc.length,40,4,none⟩)],x.2.2,ob⟩
theorem aal{n:Nat}(l:List (List al))(j:Nat)(acc:List (T×Nat))(t:List (Nat×ae))(K:aS->Prop)(jd:lz n acc)(J:∀p∈acc,2<=p.2)(aK:2<=n)(hlen:acc.length<=1000000)(Zs:get 2 t= .ptr (.loc 0) 0)(o:List aC)(ak:∀m,aC.loc m∉o)(Zb:aC.obj ky∈o)
  (cG:∀(b:List (aC×List ae)) (e:List (aC×cV)) (o:List aC) (q:Nat),n<=q->K ⟨[(2,.ptr (.loc 0) 0),(33,(e9 (acc.map (·.1)) .nil).k q)],(.loc 0,cU)::(.obj ky,[.slice 1 .no (bZ l),.int .i64 j])::b,e,q+1,o⟩):
  kn aQ [.obj ky] 205 [.slice 4 (.own (.loc 1)) (cY T.k acc)] ⟨t,[(.loc 0,cU),(.obj ky,[.slice 1 .no (bZ l),.int .i64 j])],[(.loc 1,⟨acc.length,40,4,none⟩)],n,o⟩ (some 33) K:=by
 refine kn.fdK fun aeU N8=>?_;refine kn.of mixed u2 Wc abe Ψ [(2,.ptr (.loc 0) 0)] (fun k=>k= .loc 0) (by rintro k rfl;simp[fresh,ak];omega) (by simp[Zs,kin]) fun ob vO sZ vP=>?_;obtain⟨n,rfl⟩:∃k,n=k+2:=⟨n-2,Ω⟩;have uq:∀m,0<m->aC.loc m∉ob:=fun m hm h=>by
  rcases vO _ h with e|e|e
  ·cases e;omega
  ·exact ak _ e
  ·simp at e
 have YQ:aY ((acc.length:Int)-1):=by unfold aY;omega
 have ur:aC.obj ky∈ob:=vP _ Zb;clear vO sZ vP;have xA:¬n+1<=n:=Ω
 have fe:=vW.kin (jd.mono (show n+2<=n+4 by omega)) (cq _) ob;simp[fresh]at fe;unfold LD;simp[uq];(with_reducible repeat' first|refine aA ?_|simp[uq,YQ]);refine h1 (ve ky (n+2) l j ob acc) (fun x=>x.1) (fun x=>x.1<=acc.length/\n+4<=x.2.2/\(x.2.1=none->x.1=acc.length)/\∀c,x.2.1=some c->n+2<=c/\c<x.2.2) (acc.length,none,n+4) (by simp[ve,Pl,wE];exact⟨by simp[fresh,kinL,kin,bt,au,Pv.look,cU,ur,xA,fe],cR (by simp[fresh,kinL,kin,bt,au,Pv.look,cU,ur,xA,fe]),cS (by simp[fresh,kinL,kin,cB,au,Pv.look,cU,ur,xA,fe]),Ψ⟩) ⟨cq _,cq _,fun _=>rfl,Ψ⟩ ?_;rintro⟨m,c,q⟩ ⟨hm,bn,uf,jS⟩ _;simp only at hm bn uf jS;cases m with
 |zero=>
  cases c with
  |none=>
   have:acc=[]:=List.length_eq_zero_iff.1 (uf rfl).symm;subst this;simp[ve,wE,e9];(with_reducible repeat' first|refine aA ?_|simp);simp[wR,a1,be,aV];refine N8 _ ?_ ?_
   ·simp[cH,dV,cp,dx,bY,dt,uq q Ω]
   ·simp[cp,dx,bY,dt,fold,eb,ea,bz];exact cG _ _ _ q Ω
  |some c=>
   simp[ve,wE];(with_reducible repeat' first|refine aA ?_|simp);simp[wR,a1,be,aV];have ao:=jS c rfl;refine N8 _ ?_ ?_
   ·simp[cH,dV,cp,dx,bY,dt,uq q Ω,oq]
   ·simp[cp,dx,bY,dt,fold,eb,ea,bz];exact cG _ _ _ q Ω
 |succ m=>
  have h2:m<acc.length:=hm;obtain⟨y,bA⟩:∃y,acc[m]? =some y:=⟨_,cF h2⟩;have ho:∀h,(kT acc (m+1))[m]'h=y.1.k y.2:=fun h=>by have:=Pm bA;rw[cF h]at this;exact gq this
  have mO:aY ((m:Int)-1):=by unfold aY;omega
  have D2:aY (m:Int):=by unfold aY;omega
  have jE:=J y (fJ bA);have ZC:=jd.lt y (fJ bA);have b4:∀k,¬n=q+k:=fun k=>Ω
  have pJ:∀k,¬q+k=n:=fun k=>Ω
  have Oy:Pv.kinL (fun k=> ¬fresh (q+20) ob k) (kT acc (m+1)):=Em fun p aU h=>by have I:=jd.lt p aU;have ao:q+20<=p.2:=h.1;omega
  have jV:e9 ((acc.drop m).map (·.1)) .nil= .pair y.1 (e9 ((acc.drop (m+1)).map (·.1)) .nil):=by obtain⟨fX,zb⟩:=e3.1 bA;rw[pd fX,zb];rfl
  have oT:Pv.kinL (fun k=> ¬fresh (q+20+1+1+1+1+1) ob k) (kT acc m):=Em fun p aU h=>by have I:=jd.lt p aU;have ao:q+20+1+1+1+1+1<=p.2:=h.1;omega
  simp[fresh]at oT;have iM:¬q+20+1+1+1+1+1<=n+2:=Ω
  have hl:¬q+20+1+1+1+1+1<=n+2+1:=Ω
  cases c with
  |none=>
   have YU:acc.drop (m+1)=[]:=List.drop_eq_nil_of_le (by have:=uf rfl;omega);have xp:=Il (N:=[.loc y.2]) jd bA Ψ Ψ;rw[YU,List.map_drop]at jV;simp[ve,wE];(with_reducible repeat' first|refine aA ?_|simp[ho,h2,mO,D2]);refine kn.fdK fun K1 A6=>?_;refine kn.of mixed p4 Dv EV Ψ [(0,.slice 4 (.own (.loc 1)) (kT acc (m+1))),(2,.ptr (.loc (n+2)) 0),(3,.ptr (.loc (n+2+1)) 0),(4,.int .i64 m)] (fun k=> ¬fresh (q+20) ob k) (fun k h=>h) (by simp[kin,Oy];simp[fresh];omega) fun r3 vO sZ vP=>?_;have rN:∀k,q+20<=k->aC.loc k∉r3:=fun k aa h=>sZ _ h ⟨aa,uq k Ω⟩;clear vO sZ vP;unfold AF;simp[rN,b4,pJ];(with_reducible repeat' first|refine aA ?_|simp[rN,b4,pJ]);simp[wR,a1,be,aV,b4,pJ];refine A6 _ ?_ ?_
   ·simp[cH,dV,dU,ey,cp,dx,bY,dt,tn,tnL,oq,rN _ (show q+20<=q+20+1+1+1+1 by omega),uq y.2 Ω]
   ·simp[cp,dx,bY,dt,tn,tnL,fold,eb,ea,bz,bC,xp,oq,b4,pJ];refine⟨mO,?_⟩;refine b9.whl (m,some (q+20+1+1+1+1),q+20+1+1+1+1+1) Ψ ⟨by simp;omega,by simp;omega,Ψ,fun c e=>by simp at e;subst e;simp;omega⟩ ?_;simp[ve,wE,jV,T.kind,T.int,T.name,T.args,show e9 [] T.nil=T.nil from rfl];exact⟨by simp[fresh,kinL,kin,bt,au,Pv.look,ur,oT,iM,hl],cR (by simp[fresh,kinL,kin,bt,au,Pv.look,ur,oT,iM,hl]),cS (by simp[fresh,kinL,kin,cB,au,Pv.look,ur,oT,iM,hl]),Ψ⟩
  |some c=>
   obtain⟨Ba,agF⟩:=jS c rfl;have Ib:¬y.2=c:=Ω
   rw[List.map_drop,List.map_drop]at jV;have xp:=Il (N:=[.loc y.2,.loc c]) jd bA (by simp;omega) Ψ;have agE:¬fresh (q+20) ob (.loc c):=fun h=>by have:q+20<=c:=h.1;omega
   simp[ve,wE];(with_reducible repeat' first|refine aA ?_|simp[ho,h2,mO,D2]);refine kn.fdK fun K1 A6=>?_;refine kn.of mixed p4 Dv EV Ψ [(0,.slice 4 (.own (.loc 1)) (kT acc (m+1))),(2,.ptr (.loc (n+2)) 0),(3,.ptr (.loc (n+2+1)) 0),(4,.int .i64 m)] (fun k=> ¬fresh (q+20) ob k) (fun k h=>h) (by simp[kin,Oy];simp[fresh];omega) fun r3 vO sZ vP=>?_;have rN:∀k,q+20<=k->aC.loc k∉r3:=fun k aa h=>sZ _ h ⟨aa,uq k Ω⟩;clear vO sZ vP;unfold AF;simp[rN,b4,pJ];(with_reducible repeat' first|refine aA ?_|simp[rN,b4,pJ]);simp[wR,a1,be,aV,b4,pJ];refine A6 _ ?_ ?_
   ·simp[cH,dV,dU,ey,cp,dx,bY,dt,tn,tnL,oq,rN _ (show q+20<=q+20+1+1+1+1 by omega),uq y.2 Ω,uq c Ω,Ib]
   ·simp[cp,dx,bY,dt,tn,tnL,fold,eb,ea,bz,bC,xp,oq,b4,pJ];refine⟨mO,?_⟩;refine b9.whl (m,some (q+20+1+1+1+1),q+20+1+1+1+1+1) Ψ ⟨by simp;omega,by simp;omega,Ψ,fun c e=>by simp at e;subst e;simp;omega⟩ ?_;simp[ve,wE,jV,T.kind,T.int,T.name,T.args,show e9 [] T.nil=T.nil from rfl];exact⟨by simp[fresh,kinL,kin,bt,au,Pv.look,ur,oT,iM,hl],cR (by simp[fresh,kinL,kin,bt,au,Pv.look,ur,oT,iM,hl]),cS (by simp[fresh,kinL,kin,cB,au,Pv.look,ur,oT,iM,hl]),Ψ⟩
end
section
open Go Go.Pv
variable {ky:Nat}
def wF(ky:Nat)(l:List (List al))(o:aT (T×List (List al)))(κ:Nat)(r:ae)(ai:dD):Prop:=match o with
 |some (t,rest)=>r= .tuple [t.k κ,.bool true]/\ai=ad ky l (l.length-rest.length)
 |none=> ∃(x:T) (j:Nat),j<=l.length/\r= .tuple [x.k κ,.bool false]/\ai=ad ky l j
theorem qT{l:List (List al)}{j κ:Nat}(h:j<=l.length)(x:T):wF ky l none κ (.tuple [x.k κ,.bool false]) (ad ky l j):=⟨x,j,h,rfl,rfl⟩
theorem z8{l:List (List al)}{j κ:Nat}{t:T}{rest:List (List al)}(h:l.length-rest.length=j):wF ky l (some (t,rest)) κ (.tuple [t.k κ,.bool true]) (ad ky l j):=⟨rfl,by rw[h]⟩
theorem dy.tm{l:List (List al)}{i κ:Nat}{o:aT (T×List (List al))}{st:aS}{e:Exit}(j:Nat)(x:T)(b:Bool)(ik:e= .ret\/e= .normal)(jb:wF ky l o κ (.tuple [x.k κ,.bool b]) (ad ky l j))(ah:∀k cs,Pv.look k (ad ky l j).b=some cs->Pv.look k st.b=some cs)
  (h:match a1 st [.cell 2 true 4,.tmp 3]with
   |some (c,a6)=>c/\(cH st.e (aV a6)/\(cp st.e (aV a6)).Nodup/\(bY (aV a6)).Nodup)/\fold κ st.e 0 (aV a6)= .tuple [x.k κ,.bool b]
   |none=>cZ):dy [.cell 2 true 4,.tmp 3] (ad ky l i) κ (wF ky l o κ) e st:=by
 refine dy.ob ik (a7 l j) rfl (bJ _ _ _ _) ah ?_;split at h
 ·rename_i c a6 hr;(try rw[hr]);exact⟨h.1,h.2.1,by rw[h.2.2];exact jb⟩
 ·exact h.elim
theorem PK(l:List (List al))(κ:Nat):FnK aQ 152 κ [av ky] (ad ky l l.length) (wF ky l none κ):=by have aq:=a7 (ky:=ky) l l.length;have dA:=AP (ky:=ky) l;simp only[ad]at aq;refine FnK.mk mixed u2 vu wi Ψ aq.obj rfl fun aN b3=>?_;unfold tT;clear aN b3;simp[av,ad];(refine CallDo.ob (dA) (by first|exact a7 _|exact a7 ‹_› _) (by simp only[ad,av,dm,ef];exact aB) (by simp only[ad,av,dm,ef];exact aB) (by simp[au,Pv.look,ad,av]) ?_;rintro r ai ⟨rfl,rfl⟩;refine⟨(Same.keys (by simp[ad,av]) (by simp[ad,av])),?_⟩;simp[bg,ad,av]);(with_reducible repeat' first|refine aA ?_|simp);refine dy.tm (l.length) (.nil) false Ψ (qT (cq _) _) (by simp only[ad];exact aB) ?_;simp[a1,be,aV,cH,dV,cp,dx,bY,dt,tnL,tn,dU,ey,fold,eb,ea,eP,Pv.look,dv,bz,bC,T.k]
theorem wY{e:List (aC×cV)}{κ:Nat}{t:T}(h:t.args=[]):(cH e t.e/\(cp e t.e).Nodup/\(bY t.e).Nodup)/\fold κ e 0 t.e= .agg [.int .i64 t.kind,.int .i64 t.int,.str t.name,.slice 4 (.tr (.loc κ) 0) []]:=by rw[T.e_eq,h];simp[cH,dV,cp,dx,bY,dt,fold,eb,ea,bz]
theorem Z7(l:List (List al))(aG:l.length<=100000){i:Nat}{w:List al}(af:l[i]? =some w)(hw:w≠[])(uy:w.length<=bN)(aU:w≠[40])(κ:Nat):FnK aQ 152 κ [av ky] (ad ky l i) (wF ky l ((eg w).map fun t=>(t,l.drop (i+1))) κ):=by
 have aq:=a7 (ky:=ky) l i;have az:=(e3.1 af).1;have aF:=sO af;have b1:aY ((i:Int)+1):=by unfold aY;omega
 obtain⟨c,w',rfl⟩:∃c w',w=c::w':=List.exists_cons_of_ne_nil hw;by_cases aE:c=63
 ·subst aE;have H7:w'.length<=bN:=by simp at uy;omega
  have b8:=CL w' H7;unfold qK at b8;simp only[eg];cases aK:fQ w' with
  |none=>rw[aK]at b8;simp only[oG,sC]at b8;simp only[tG];simp only[ad]at aq;refine FnK.mk mixed u2 vu wi Ψ aq.obj rfl fun aN b3=>?_;unfold tT;clear aN b3;simp[av,ad];(refine CallDo.ob (kI az) (by first|exact a7 _|exact a7 ‹_› _) (by simp only[ad,av,dm,ef];exact aB) (by simp only[ad,av,dm,ef];exact aB) (by simp[au,Pv.look,ad,av]) ?_;rintro r ai ⟨rfl,rfl⟩;refine⟨(Same.keys (by simp[ad,av]) (by simp[ad,av])),?_⟩;simp[bg,ad,av]);(with_reducible repeat' first|refine aA ?_|simp);(refine CallDo.ob (iy af) (by first|exact a7 _|exact a7 ‹_› _) (by simp only[ad,av,dm,ef];exact aB) (by simp only[ad,av,dm,ef];exact aB) (by simp[au,Pv.look,ad,av]) ?_;rintro r ai ⟨rfl,rfl⟩;refine⟨(Same.keys (by simp[ad,av]) (by simp[ad,av])),?_⟩;simp[bg,ad,av]);(with_reducible repeat' first|refine aA ?_|refine a8 b8 ?_|refine ba b8 ?_|refine a8 (nG _) ?_|refine ba (nG _) ?_|simp[b1]);refine dy.tm (i+1) (.var 0) false Ψ (qT Ω _) (by simp only[ad];exact aB) ?_;simp[a1,be,aV,cH,dV,cp,dx,bY,dt,tnL,tn,dU,ey,fold,eb,ea,eP,Pv.look,dv,bz,bC,T.k];exact wY rfl
  |some v=>
   rw[aK]at b8;simp only[oG,sC]at b8;simp only;by_cases aM:0<=v/\v<=100000
   ·rw[if_pos aM];simp only[kF];simp only[ad]at aq;refine FnK.mk mixed u2 vu wi Ψ aq.obj rfl fun aN b3=>?_;unfold tT;clear aN b3;simp[av,ad];(refine CallDo.ob (kI az) (by first|exact a7 _|exact a7 ‹_› _) (by simp only[ad,av,dm,ef];exact aB) (by simp only[ad,av,dm,ef];exact aB) (by simp[au,Pv.look,ad,av]) ?_;rintro r ai ⟨rfl,rfl⟩;refine⟨(Same.keys (by simp[ad,av]) (by simp[ad,av])),?_⟩;simp[bg,ad,av]);(with_reducible repeat' first|refine aA ?_|simp);(refine CallDo.ob (iy af) (by first|exact a7 _|exact a7 ‹_› _) (by simp only[ad,av,dm,ef];exact aB) (by simp only[ad,av,dm,ef];exact aB) (by simp[au,Pv.look,ad,av]) ?_;rintro r ai ⟨rfl,rfl⟩;refine⟨(Same.keys (by simp[ad,av]) (by simp[ad,av])),?_⟩;simp[bg,ad,av]);(with_reducible repeat' first|refine aA ?_|refine a8 b8 ?_|refine ba b8 ?_|refine a8 (nG _) ?_|refine ba (nG _) ?_|simp[b1,aM.1,aM.2]);refine dy.tm (i+1) (.var v) true Ψ (z8 aF) (by simp only[ad];exact aB) ?_;simp[a1,be,aV,cH,dV,cp,dx,bY,dt,tnL,tn,dU,ey,fold,eb,ea,eP,Pv.look,dv,bz,bC,T.k];exact wY rfl
   ·rw[bq aM];simp only[tG];simp only[ad]at aq;refine FnK.mk mixed u2 vu wi Ψ aq.obj rfl fun aN b3=>?_;unfold tT;clear aN b3;simp[av,ad];(refine CallDo.ob (kI az) (by first|exact a7 _|exact a7 ‹_› _) (by simp only[ad,av,dm,ef];exact aB) (by simp only[ad,av,dm,ef];exact aB) (by simp[au,Pv.look,ad,av]) ?_;rintro r ai ⟨rfl,rfl⟩;refine⟨(Same.keys (by simp[ad,av]) (by simp[ad,av])),?_⟩;simp[bg,ad,av]);(with_reducible repeat' first|refine aA ?_|simp);(refine CallDo.ob (iy af) (by first|exact a7 _|exact a7 ‹_› _) (by simp only[ad,av,dm,ef];exact aB) (by simp only[ad,av,dm,ef];exact aB) (by simp[au,Pv.look,ad,av]) ?_;rintro r ai ⟨rfl,rfl⟩;refine⟨(Same.keys (by simp[ad,av]) (by simp[ad,av])),?_⟩;simp[bg,ad,av]);by_cases bL:0<=v
    ·have I:¬v<=100000:=fun h=>aM ⟨bL,h⟩;(with_reducible repeat' first|refine aA ?_|refine a8 b8 ?_|refine ba b8 ?_|refine a8 (nG _) ?_|refine ba (nG _) ?_|simp[b1,bL,I]);refine dy.tm (i+1) (.var v) false Ψ (qT Ω _) (by simp only[ad];exact aB) ?_;simp[a1,be,aV,cH,dV,cp,dx,bY,dt,tnL,tn,dU,ey,fold,eb,ea,eP,Pv.look,dv,bz,bC,T.k];exact wY rfl
    ·(with_reducible repeat' first|refine aA ?_|refine a8 b8 ?_|refine ba b8 ?_|refine a8 (nG _) ?_|refine ba (nG _) ?_|simp[b1,bL]);refine dy.tm (i+1) (.var v) false Ψ (qT Ω _) (by simp only[ad];exact aB) ?_;simp[a1,be,aV,cH,dV,cp,dx,bY,dt,tnL,tn,dU,ey,fold,eb,ea,eP,Pv.look,dv,bz,bC,T.k];exact wY rfl
 ·have bF:eg (c::w')=if fM (c::w')then some (.sym (c::w'))else(fQ (c::w')).map .num:=by
   unfold eg;split
   ·rename_i e;cases e;exact absurd rfl aE
   ·rfl
  have Ba:¬c.toNat=63:=fun h=>aE (UInt8.toNat_inj.1 (by simpa using h));have xq:((c.toNat:Int)==63)=false:=jm.2 Ω;have s3:(c==40&&w'.isEmpty)=false:=by
   rw[Bool.and_eq_false_iff];by_cases h:c=40
   ·right;cases w' with
    |nil=>exact absurd (by rw[h]) aU
    |cons=>rfl
   ·left;simpa using h
  have cD:=CK (c::w');rw[bF];by_cases nu:fM (c::w')=true
  ·rw[if_pos nu];rw[nu]at cD;simp only[kF];simp only[ad]at aq;refine FnK.mk mixed u2 vu wi Ψ aq.obj rfl fun aN b3=>?_;unfold tT;clear aN b3;simp[av,ad];(refine CallDo.ob (kI az) (by first|exact a7 _|exact a7 ‹_› _) (by simp only[ad,av,dm,ef];exact aB) (by simp only[ad,av,dm,ef];exact aB) (by simp[au,Pv.look,ad,av]) ?_;rintro r ai ⟨rfl,rfl⟩;refine⟨(Same.keys (by simp[ad,av]) (by simp[ad,av])),?_⟩;simp[bg,ad,av]);(with_reducible repeat' first|refine aA ?_|simp);(refine CallDo.ob (iy af) (by first|exact a7 _|exact a7 ‹_› _) (by simp only[ad,av,dm,ef];exact aB) (by simp only[ad,av,dm,ef];exact aB) (by simp[au,Pv.look,ad,av]) ?_;rintro r ai ⟨rfl,rfl⟩;refine⟨(Same.keys (by simp[ad,av]) (by simp[ad,av])),?_⟩;simp[bg,ad,av]);(with_reducible repeat' first|refine aA ?_|refine a8 cD ?_|refine ba cD ?_|refine a8 (FI _) ?_|refine ba (FI _) ?_|simp[b1,xq,s3]);refine dy.tm (i+1) (.sym (c::w')) true Ψ (z8 aF) (by simp only[ad];exact aB) ?_;simp[a1,be,aV,cH,dV,cp,dx,bY,dt,tnL,tn,dU,ey,fold,eb,ea,eP,Pv.look,dv,bz,bC,T.k];exact wY rfl
  ·rw[bq nu];rw[Bool.not_eq_true]at nu;rw[nu]at cD;have b8:=CL (c::w') uy;unfold qK at b8;cases aK:fQ (c::w')with
   |none=>rw[aK]at b8;simp only[oG,sC]at b8;simp only[tG];simp only[ad]at aq;refine FnK.mk mixed u2 vu wi Ψ aq.obj rfl fun aN b3=>?_;unfold tT;clear aN b3;simp[av,ad];(refine CallDo.ob (kI az) (by first|exact a7 _|exact a7 ‹_› _) (by simp only[ad,av,dm,ef];exact aB) (by simp only[ad,av,dm,ef];exact aB) (by simp[au,Pv.look,ad,av]) ?_;rintro r ai ⟨rfl,rfl⟩;refine⟨(Same.keys (by simp[ad,av]) (by simp[ad,av])),?_⟩;simp[bg,ad,av]);(with_reducible repeat' first|refine aA ?_|simp);(refine CallDo.ob (iy af) (by first|exact a7 _|exact a7 ‹_› _) (by simp only[ad,av,dm,ef];exact aB) (by simp only[ad,av,dm,ef];exact aB) (by simp[au,Pv.look,ad,av]) ?_;rintro r ai ⟨rfl,rfl⟩;refine⟨(Same.keys (by simp[ad,av]) (by simp[ad,av])),?_⟩;simp[bg,ad,av]);(with_reducible repeat' first|refine aA ?_|refine a8 cD ?_|refine ba cD ?_|refine a8 b8 ?_|refine ba b8 ?_|refine a8 (wN _) ?_|refine ba (wN _) ?_|simp[b1,xq,s3]);refine dy.tm (i+1) (.num 0) false Ψ (qT Ω _) (by simp only[ad];exact aB) ?_;simp[a1,be,aV,cH,dV,cp,dx,bY,dt,tnL,tn,dU,ey,fold,eb,ea,eP,Pv.look,dv,bz,bC,T.k];exact wY rfl
   |some v=>rw[aK]at b8;simp only[oG,sC]at b8;simp only[kF];simp only[ad]at aq;refine FnK.mk mixed u2 vu wi Ψ aq.obj rfl fun aN b3=>?_;unfold tT;clear aN b3;simp[av,ad];(refine CallDo.ob (kI az) (by first|exact a7 _|exact a7 ‹_› _) (by simp only[ad,av,dm,ef];exact aB) (by simp only[ad,av,dm,ef];exact aB) (by simp[au,Pv.look,ad,av]) ?_;rintro r ai ⟨rfl,rfl⟩;refine⟨(Same.keys (by simp[ad,av]) (by simp[ad,av])),?_⟩;simp[bg,ad,av]);(with_reducible repeat' first|refine aA ?_|simp);(refine CallDo.ob (iy af) (by first|exact a7 _|exact a7 ‹_› _) (by simp only[ad,av,dm,ef];exact aB) (by simp only[ad,av,dm,ef];exact aB) (by simp[au,Pv.look,ad,av]) ?_;rintro r ai ⟨rfl,rfl⟩;refine⟨(Same.keys (by simp[ad,av]) (by simp[ad,av])),?_⟩;simp[bg,ad,av]);(with_reducible repeat' first|refine aA ?_|refine a8 cD ?_|refine ba cD ?_|refine a8 b8 ?_|refine ba b8 ?_|refine a8 (wN _) ?_|refine ba (wN _) ?_|simp[b1,xq,s3]);refine dy.tm (i+1) (.num v) true Ψ (z8 aF) (by simp only[ad];exact aB) ?_;simp[a1,be,aV,cH,dV,cp,dx,bY,dt,tnL,tn,dU,ey,fold,eb,ea,eP,Pv.look,dv,bz,bC,T.k];exact wY rfl
end
section
open Go Go.Pv
variable {ky:Nat}
theorem _root_.Go.Pv.FnK.mono{P:bK}{f κ:Nat}{args:List ae}{s:dD}{Q nP:ae->dD->Prop}(h:FnK P f κ args s Q)(bn:∀r ai,Q r ai->nP r ai):FnK P f κ args s nP:=fun w ν vs gl I J ao=>(h w ν vs gl I J ao).mono fun e w' bI=>by obtain⟨v,r,ai,ν',a,b,c⟩:=bI;exact⟨v,r,ai,ν',a,bn _ _ b,c⟩
def K9(ky:Nat)(l:List (List al))(i:Nat)(o:aT (T×List (List al))):Prop:= ∀κ,FnK aQ 152 κ [av ky] (ad ky l i) (wF ky l o κ)
theorem IF{l:List (List al)}{i p:Nat}{t:T}{rest:List (List al)}(h:K9 ky l i (some (t,rest)))(aU:l.length-rest.length=p)(κ:Nat):FnK aQ 152 κ [av ky] (ad ky l i) fun r ai=>r= .tuple [t.k κ,.bool true]/\ai=ad ky l p:=(h κ).mono fun r ai bn=>by rw[<-aU];exact bn
def q5(ky:Nat)(l:List (List al))(x:List (T×Nat)×Nat×Nat×Nat):aS:=⟨[(0,.ptr (.obj ky) 0),(2,.ptr (.loc 0) 0),(5,.slice 4 (.own (.loc 1)) (cY T.k x.1))],[(.loc 0,cU),(.obj ky,[.slice 1 .no (bZ l),.int .i64 x.2.1])],[(.loc 1,⟨x.1.length,40,4,none⟩)],x.2.2.2+2,[.obj ky]⟩
def Ar(ky:Nat)(l:List (List al))(acc:List (T×Nat))(t:T)(p q:Nat)(x:Nat×Nat×Nat):aS:=⟨[(2,.ptr (.loc 0) 0),(5,.slice 4 (.own (.loc 1)) (kT acc x.1)),(6,.ptr (.loc (q+3)) 0),(8,.int .i64 ((x.1:Int)-1))],[(.loc 0,cU),(.loc (q+3),cells ((e9 ((acc.drop x.1).map (·.1)) t).k x.2.1)),(.obj ky,[.slice 1 .no (bZ l),.int .i64 (p+1:Nat)])],[(.loc 1,⟨acc.length,40,4,none⟩)],x.2.2,[.obj ky]⟩
theorem aae(l:List (List al))(aG:l.length<=100000)(hw:∀w∈l,w≠[]/\w.length<=bN):∀n i:Nat,i<=l.length->2*(l.length-i)+1<=n->K9 ky l i (rd eg n (l.drop i)):=by
 intro n;induction n using Nat.strongRecOn with
 |_ n bo=>
 intro i gZ aK κ;obtain⟨n,rfl⟩:∃m,n=m+1:=⟨n-1,Ω⟩;rcases iX gZ with rfl|az
 ·rw[jN];exact PK l κ
 obtain⟨w,af⟩:∃w,l[i]? =some w:=⟨_,cF az⟩;have oW:=hw w (fJ af);rw[fi af];by_cases aU:w=[40];rotate_left
 ·have hr:rd eg (n+1) (w::l.drop (i+1))=(eg w).map fun t=>(t,l.drop (i+1)):=by
   simp only[rd,bq aU];split
   ·rename_i h;rcases h with rfl|rfl<;>rfl
   ·rfl
  rw[hr];exact Z7 l aG af oW.1 oW.2 aU κ
 subst aU;have hr:rd eg (n+1) ([40]::l.drop (i+1))=bH eg n (l.drop (i+1)) []:=by simp[rd]
 rw[hr];have aq:=a7 (ky:=ky) l i;have b1:aY ((i:Int)+1):=by unfold aY;omega
 obtain⟨R,bu⟩:∃R,R=bH eg n (l.drop (i+1)) []:=⟨_,rfl⟩;rw[<-bu];simp only[ad]at aq;refine FnK.mk mixed u2 vu wi Ψ aq.obj rfl fun aN b3=>?_;unfold tT;clear aN b3;simp[av,ad];(refine CallDo.ob (kI az) (by first|exact a7 _|exact a7 ‹_› _) (by simp only[ad,av,dm,ef];exact aB) (by simp only[ad,av,dm,ef];exact aB) (by simp[au,Pv.look,ad,av]) ?_;rintro r ai ⟨rfl,rfl⟩;refine⟨(Same.keys (by simp[ad,av]) (by simp[ad,av])),?_⟩;simp[bg,ad,av]);(with_reducible repeat' first|refine aA ?_|simp);(refine CallDo.ob (iy af) (by first|exact a7 _|exact a7 ‹_› _) (by simp only[ad,av,dm,ef];exact aB) (by simp only[ad,av,dm,ef];exact aB) (by simp[au,Pv.look,ad,av]) ?_;rintro r ai ⟨rfl,rfl⟩;refine⟨(Same.keys (by simp[ad,av]) (by simp[ad,av])),?_⟩;simp[bg,ad,av]);(with_reducible repeat' first|refine aA ?_|simp[b1]);refine h1 (q5 ky l) (fun x=>l.length-x.2.1) (fun x=>x.2.1<=l.length/\2*(l.length-x.2.1)+2<=x.2.2.1/\x.2.2.1<=n/\bH eg x.2.2.1 (l.drop x.2.1) (x.1.map (·.1))=R/\x.1.length<=x.2.1/\lz (x.2.2.2+2) x.1/\∀p∈x.1,2<=p.2) ([],i+1,n,0) (by simp[q5];exact⟨by simp[fresh,kinL,kin,bt,au,Pv.look,cU],cR (by simp[fresh,kinL,kin,bt,au,Pv.look,cU]),cS (by simp[fresh,kinL,kin,cB,au,Pv.look,cU]),Ψ⟩) ⟨az,by simp;omega,cq _,bu.symm,Ψ,.nil _,Ψ⟩ ?_;rintro⟨acc,j,k,q⟩ ⟨aw,aa,j7,dL,jd,ft,oU⟩ _;simp only at aw aa j7 dL jd ft oU;clear bu hr b1 af oW;subst dL;obtain⟨k,rfl⟩:∃m,k=m+1:=⟨k-1,Ω⟩;have oe:j<=1000000:=Ω
 rcases iX aw with rfl|fs
 ·rw[jN];simp only[bH];have dH:=iU (ky:=ky) (l:=l) (i:=l.length) (s:=[41]) oe Ψ;have ke:=PK (ky:=ky) l;simp[q5];refine CallDo.ob (dH) (a7 _ _) (by simp only[ad];exact aB) (by simp only[ad];exact aB) (by simp[au,Pv.look,ad,av,kinL,kin]) ?_;rintro r ai ⟨rfl,rfl⟩;refine⟨bJ _ _ _ _,?_⟩;simp[bg,ad,av];(with_reducible repeat' first|refine aA ?_|simp);refine CallDo.ob (QV l) (a7 _ _) (by simp only[ad];exact aB) (by simp only[ad];exact aB) (by simp[au,Pv.look,ad,av,kinL,kin]) ?_;rintro r ai ⟨rfl,rfl⟩;refine⟨bJ _ _ _ _,?_⟩;simp[bg,ad,av];(with_reducible repeat' first|refine aA ?_|simp);refine CallDo.obK (ke _) (a7 _ _) (by simp only[ad];exact aB) (by simp only[ad];exact aB) (by simp[au,Pv.look,ad,av,kinL,kin]) Ψ ?_;rintro r ai ⟨x,hL,bn,rfl,rfl⟩;refine⟨bJ _ _ _ _,?_⟩;simp[bg,ad,av];(with_reducible repeat' first|refine aA ?_|simp);refine dy.tm (hL) (.nil) false Ψ (qT bn _) (by simp only[ad];exact aB) ?_;simp[a1,be,aV,cH,dV,cp,dx,bY,dt,tnL,tn,dU,ey,fold,eb,ea,eP,Pv.look,dv,bz,bC,T.k]
 obtain⟨v,aM⟩:∃v,l[j]? =some v:=⟨_,cF fs⟩;rw[fi aM];have gI:aY ((j:Int)+1):=by unfold aY;omega
 by_cases eN:v=[41]
 ·subst eN;have uk:bH eg (k+1) ([41]::l.drop (j+1)) (acc.map (·.1))=some (e9 (acc.map (·.1)) .nil,l.drop (j+1)):=by simp[bH]
  rw[uk];have dH:=nf (ky:=ky) oe aM;have aF:=sO aM;simp[q5];refine CallDo.ob (dH) (a7 _ _) (by simp only[ad];exact aB) (by simp only[ad];exact aB) (by simp[au,Pv.look,ad,av,kinL,kin]) ?_;rintro r ai ⟨rfl,rfl⟩;refine⟨bJ _ _ _ _,?_⟩;simp[bg,ad,av];(with_reducible repeat' first|refine aA ?_|simp);refine aal l (j+1) acc _ _ ft oU Ω Ω (by simp[Pv.get]) _ Ψ Ψ fun b e o q' agX=>?_;simp;(with_reducible repeat' first|refine aA ?_|simp);refine dy.tm (j+1) (e9 (acc.map (·.1)) .nil) true Ψ (z8 aF) (by simp only[ad];exact aB) ?_;simp[a1,be,aV,cH,dV,cp,dx,bY,dt,tnL,tn,dU,ey,fold,eb,ea,eP,Pv.look,dv,bz,bC,T.k]
 have dH:=iU (ky:=ky) oe (show l[j]?≠some [41] by rw[aM];simpa using eN);by_cases lD:v=[46]
 ·subst lD;have dA:=kI (ky:=ky) fs;have dh:=bo k Ω (j+1) Ω Ω;cases db:rd eg k (l.drop (j+1))with
  |none=>
   rw[db]at dh;have he:bH eg (k+1) ([46]::l.drop (j+1)) (acc.map (·.1))=none:=by simp[bH,db]
   rw[he];simp[q5];refine CallDo.ob (dH) (a7 _ _) (by simp only[ad];exact aB) (by simp only[ad];exact aB) (by simp[au,Pv.look,ad,av,kinL,kin]) ?_;rintro r ai ⟨rfl,rfl⟩;refine⟨bJ _ _ _ _,?_⟩;simp[bg,ad,av];(with_reducible repeat' first|refine aA ?_|simp);refine CallDo.ob (iy aM) (a7 _ _) (by simp only[ad];exact aB) (by simp only[ad];exact aB) (by simp[au,Pv.look,ad,av,kinL,kin]) ?_;rintro r ai ⟨rfl,rfl⟩;refine⟨bJ _ _ _ _,?_⟩;simp[bg,ad,av];(with_reducible repeat' first|refine aA ?_|simp);refine CallDo.ob (dA) (a7 _ _) (by simp only[ad];exact aB) (by simp only[ad];exact aB) (by simp[au,Pv.look,ad,av,kinL,kin]) ?_;rintro r ai ⟨rfl,rfl⟩;refine⟨bJ _ _ _ _,?_⟩;simp[bg,ad,av];(with_reducible repeat' first|refine aA ?_|simp[gI]);refine CallDo.obK (dh _) (a7 _ _) (by simp only[ad];exact aB) (by simp only[ad];exact aB) (by simp[au,Pv.look,ad,av,kinL,kin]) Ψ ?_;rintro r ai ⟨x,hL,bn,rfl,rfl⟩;refine⟨bJ _ _ _ _,?_⟩;simp[bg,ad,av];(with_reducible repeat' first|refine aA ?_|simp);refine dy.tm (hL) (.nil) false Ψ (qT bn _) (by simp only[ad];exact aB) ?_;simp[a1,be,aV,cH,dV,cp,dx,bY,dt,tnL,tn,dU,ey,fold,eb,ea,eP,Pv.look,dv,bz,bC,T.k]
  |some tr=>
   obtain⟨t,rest⟩:=tr;rw[db]at dh;obtain⟨fE,nz⟩:=tt (pY k _ _ _ db).1;obtain⟨p,aU⟩:∃p,p=l.length-rest.length:=⟨_,rfl⟩;rw[<-aU]at fE;have lO:=IF dh aU.symm;have fm:p<=l.length:=Ω
   by_cases bF:acc=[]
   ·subst bF;rw[show bH eg (k+1) ([46]::l.drop (j+1)) (([]:List (T×Nat)).map (·.1))=none by simp[bH]];simp[q5];refine CallDo.ob (dH) (a7 _ _) (by simp only[ad];exact aB) (by simp only[ad];exact aB) (by simp[au,Pv.look,ad,av,kinL,kin]) ?_;rintro r ai ⟨rfl,rfl⟩;refine⟨bJ _ _ _ _,?_⟩;simp[bg,ad,av];(with_reducible repeat' first|refine aA ?_|simp);refine CallDo.ob (iy aM) (a7 _ _) (by simp only[ad];exact aB) (by simp only[ad];exact aB) (by simp[au,Pv.look,ad,av,kinL,kin]) ?_;rintro r ai ⟨rfl,rfl⟩;refine⟨bJ _ _ _ _,?_⟩;simp[bg,ad,av];(with_reducible repeat' first|refine aA ?_|simp);refine CallDo.ob (dA) (a7 _ _) (by simp only[ad];exact aB) (by simp only[ad];exact aB) (by simp[au,Pv.look,ad,av,kinL,kin]) ?_;rintro r ai ⟨rfl,rfl⟩;refine⟨bJ _ _ _ _,?_⟩;simp[bg,ad,av];(with_reducible repeat' first|refine aA ?_|simp[gI]);refine CallDo.obK (lO _) (a7 _ _) (by simp only[ad];exact aB) (by simp only[ad];exact aB) (by simp[au,Pv.look,ad,av,kinL,kin]) Ψ ?_;rintro r ai ⟨rfl,rfl⟩;refine⟨bJ _ _ _ _,?_⟩;simp[bg,ad,av];(with_reducible repeat' first|refine aA ?_|simp);refine dy.tm (p) (.nil) false Ψ (qT fm _) (by simp only[ad];exact aB) ?_;simp[a1,be,aV,cH,dV,cp,dx,bY,dt,tnL,tn,dU,ey,fold,eb,ea,eP,Pv.look,dv,bz,bC,T.k]
   ·have hT:0<acc.length:=q2.2 bF;have XV:¬acc.length=0:=Ω
    have XW:acc.length<=100000:=Ω
    have n9:((acc.length:Int)==0)=false:=jm.2 Ω;by_cases rz:l[p]? =some [41]
    ·have uF:=nf (ky:=ky) (show p<=1000000 by omega) rz;have uw:rest=[41]::l.drop (p+1):=by rw[fE];exact fi rz
     rw[show bH eg (k+1) ([46]::l.drop (j+1)) (acc.map (·.1))=some (e9 (acc.map (·.1)) t,l.drop (p+1)) by simp[bH,db,uw,bF]];have aF:=sO rz;have sV:aY ((acc.length:Int)-1):=by unfold aY;omega
     have fe:=vW.kin (ft.mono (show q+2<=q+2+2 by omega)) (cq _) [.obj ky];simp[fresh]at fe;simp[q5];refine CallDo.ob (dH) (a7 _ _) (by simp only[ad];exact aB) (by simp only[ad];exact aB) (by simp[au,Pv.look,ad,av,kinL,kin]) ?_;rintro r ai ⟨rfl,rfl⟩;refine⟨bJ _ _ _ _,?_⟩;simp[bg,ad,av];(with_reducible repeat' first|refine aA ?_|simp);refine CallDo.ob (iy aM) (a7 _ _) (by simp only[ad];exact aB) (by simp only[ad];exact aB) (by simp[au,Pv.look,ad,av,kinL,kin]) ?_;rintro r ai ⟨rfl,rfl⟩;refine⟨bJ _ _ _ _,?_⟩;simp[bg,ad,av];(with_reducible repeat' first|refine aA ?_|simp);refine CallDo.ob (dA) (a7 _ _) (by simp only[ad];exact aB) (by simp only[ad];exact aB) (by simp[au,Pv.look,ad,av,kinL,kin]) ?_;rintro r ai ⟨rfl,rfl⟩;refine⟨bJ _ _ _ _,?_⟩;simp[bg,ad,av];(with_reducible repeat' first|refine aA ?_|simp[gI]);refine CallDo.obK (lO _) (a7 _ _) (by simp only[ad];exact aB) (by simp only[ad];exact aB) (by simp[au,Pv.look,ad,av,kinL,kin]) Ψ ?_;rintro r ai ⟨rfl,rfl⟩;refine⟨bJ _ _ _ _,?_⟩;simp[bg,ad,av];(with_reducible repeat' first|refine aA ?_|simp[n9]);refine CallDo.ob (uF) (a7 _ _) (by simp only[ad];exact aB) (by simp only[ad];exact aB) (by simp[au,Pv.look,ad,av,kinL,kin]) ?_;rintro r ai ⟨rfl,rfl⟩;refine⟨bJ _ _ _ _,?_⟩;simp[bg,ad,av];(with_reducible repeat' first|refine aA ?_|simp[sV]);refine h1 (Ar ky l acc t p q) (fun x=>x.1) (fun x=>x.1<=acc.length/\q+4<=x.2.2/\q+2<=x.2.1/\x.2.1<x.2.2) (acc.length,q+2,q+4) (by simp[Ar,Pl,e9,sV];exact⟨by simp[fresh,kinL,kin,bt,au,Pv.look,cU,fe],cR (by simp[fresh,kinL,kin,bt,au,Pv.look,cU,fe]),cS (by simp[fresh,kinL,kin,cB,au,Pv.look,cU,fe]),Ψ⟩) ⟨cq _,cq _,cq _,Ψ⟩ ?_;rintro⟨m,c,r⟩ ⟨hm,hr,jS,kL⟩ _;simp only at hm hr jS kL;clear dH uF dh lO dA db uw fE fe;cases m with
     |zero=>simp[Ar];(with_reducible repeat' first|refine aA ?_|simp);refine dy.tm (p+1) (e9 (acc.map (·.1)) t) true Ψ (z8 aF) (by simp only[ad];exact aB) ?_;simp[a1,be,aV,cH,dV,cp,dx,bY,dt,tnL,tn,dU,ey,fold,eb,ea,eP,Pv.look,dv,bz,bC,T.k]
     |succ m=>
      have h2:m<acc.length:=hm;obtain⟨y,bA⟩:∃y,acc[m]? =some y:=⟨_,cF h2⟩;have ho:∀h,(kT acc (m+1))[m]'h=y.1.k y.2:=fun h=>by have:=Pm bA;rw[cF h]at this;exact gq this
      have mO:aY ((m:Int)-1):=by unfold aY;omega
      have D2:aY (m:Int):=by unfold aY;omega
      have jE:=oU y (fJ bA);have ZC:=ft.lt y (fJ bA);have b4:∀k,¬q=r+k:=fun k=>Ω
      have pJ:∀k,¬r+k=q:=fun k=>Ω
      have YK:Pv.kinL (fun k=> ¬fresh (r+132) [.obj ky] k) (kT acc (m+1)):=Em fun p aU h=>by have I:=ft.lt p aU;have ao:r+132<=p.2:=h.1;omega
      have jV:e9 ((acc.drop m).map (·.1)) t= .pair y.1 (e9 ((acc.drop (m+1)).map (·.1)) t):=by obtain⟨fX,zb⟩:=e3.1 bA;rw[pd fX,zb];rfl
      rw[List.map_drop,List.map_drop]at jV;have oT:Pv.kinL (fun k=> ¬fresh (r+132+1+1+1+1+1) [.obj ky] k) (kT acc m):=Em fun p aU h=>by have I:=ft.lt p aU;have ao:r+132+1+1+1+1+1<=p.2:=h.1;omega
      simp[fresh]at oT;have iM:¬r+132+1+1+1+1+1<=q+3:=Ω
      have Ib:¬y.2=c:=Ω
      have xp:=Il (N:=[.loc y.2,.loc c]) ft bA (by simp;omega) Ψ;simp[Ar];(with_reducible repeat' first|refine aA ?_|simp[ho,h2,mO,D2]);refine kn.fdK fun K1 A6=>?_;refine kn.of mixed p4 Dv EV Ψ [(2,.ptr (.loc 0) 0),(5,.slice 4 (.own (.loc 1)) (kT acc (m+1))),(6,.ptr (.loc (q+3)) 0),(8,.int .i64 m)] (fun k=> ¬fresh (r+132) [.obj ky] k) (fun k h=>h) (by simp[kin,YK];simp[fresh];omega) fun r3 vO sZ vP=>?_;have rN:∀k,r+132<=k->aC.loc k∉r3:=fun k aa h=>sZ _ h ⟨aa,Ψ⟩;clear vO sZ vP;unfold AF;simp[rN,b4,pJ];(with_reducible repeat' first|refine aA ?_|simp[rN,b4,pJ]);simp[wR,a1,be,aV,b4,pJ];refine A6 _ ?_ ?_
      ·simp[cH,dV,dU,ey,cp,dx,bY,dt,tn,tnL,oq,rN _ (show r+132<=r+132+1+1+1+1 by omega),Ib]
      ·simp[cp,dx,bY,dt,tn,tnL,fold,eb,ea,bz,bC,xp,oq,b4,pJ];refine⟨mO,?_⟩;refine b9.whl (m,r+132+1+1+1+1,r+132+1+1+1+1+1) Ψ ⟨by simp;omega,by simp;omega,by simp;omega,Ψ⟩ ?_;simp[Ar,jV,T.kind,T.int,T.name,T.args];exact⟨by simp[fresh,kinL,kin,bt,au,Pv.look,oT,iM],cR (by simp[fresh,kinL,kin,bt,au,Pv.look,oT,iM]),cS (by simp[fresh,kinL,kin,cB,au,Pv.look,oT,iM]),Ψ⟩
    ·have uF:=iU (ky:=ky) (show p<=1000000 by omega) rz;have jh:bH eg (k+1) ([46]::l.drop (j+1)) (acc.map (·.1))=none:=by
      cases rest with
      |nil=>simp[bH,db,bF]
      |cons v r=>
       have:l[p]? =some v:=by rw[<-List.head?_drop,<-fE];rfl
       have BF:¬v=[41]:=by rintro rfl;exact rz this
       simp[bH,db,bF,BF]
     rw[jh];simp[q5];refine CallDo.ob (dH) (a7 _ _) (by simp only[ad];exact aB) (by simp only[ad];exact aB) (by simp[au,Pv.look,ad,av,kinL,kin]) ?_;rintro r ai ⟨rfl,rfl⟩;refine⟨bJ _ _ _ _,?_⟩;simp[bg,ad,av];(with_reducible repeat' first|refine aA ?_|simp);refine CallDo.ob (iy aM) (a7 _ _) (by simp only[ad];exact aB) (by simp only[ad];exact aB) (by simp[au,Pv.look,ad,av,kinL,kin]) ?_;rintro r ai ⟨rfl,rfl⟩;refine⟨bJ _ _ _ _,?_⟩;simp[bg,ad,av];(with_reducible repeat' first|refine aA ?_|simp);refine CallDo.ob (dA) (a7 _ _) (by simp only[ad];exact aB) (by simp only[ad];exact aB) (by simp[au,Pv.look,ad,av,kinL,kin]) ?_;rintro r ai ⟨rfl,rfl⟩;refine⟨bJ _ _ _ _,?_⟩;simp[bg,ad,av];(with_reducible repeat' first|refine aA ?_|simp[gI]);refine CallDo.obK (lO _) (a7 _ _) (by simp only[ad];exact aB) (by simp only[ad];exact aB) (by simp[au,Pv.look,ad,av,kinL,kin]) Ψ ?_;rintro r ai ⟨rfl,rfl⟩;refine⟨bJ _ _ _ _,?_⟩;simp[bg,ad,av];(with_reducible repeat' first|refine aA ?_|simp[n9]);refine CallDo.ob (uF) (a7 _ _) (by simp only[ad];exact aB) (by simp only[ad];exact aB) (by simp[au,Pv.look,ad,av,kinL,kin]) ?_;rintro r ai ⟨rfl,rfl⟩;refine⟨bJ _ _ _ _,?_⟩;simp[bg,ad,av];(with_reducible repeat' first|refine aA ?_|simp);refine dy.tm (p) (.nil) false Ψ (qT fm _) (by simp only[ad];exact aB) ?_;simp[a1,be,aV,cH,dV,cp,dx,bY,dt,tnL,tn,dU,ey,fold,eb,ea,eP,Pv.look,dv,bz,bC,T.k]
 ·have dh:=bo k Ω j aw Ω;have hb:(v==[46])=false:=jm.2 lD;rw[fi aM]at dh;cases db:rd eg k (v::l.drop (j+1))with
  |none=>rw[db]at dh;rw[show bH eg (k+1) (v::l.drop (j+1)) (acc.map (·.1))=none by simp[bH,db,eN,lD]];simp[q5];refine CallDo.ob (dH) (a7 _ _) (by simp only[ad];exact aB) (by simp only[ad];exact aB) (by simp[au,Pv.look,ad,av,kinL,kin]) ?_;rintro r ai ⟨rfl,rfl⟩;refine⟨bJ _ _ _ _,?_⟩;simp[bg,ad,av];(with_reducible repeat' first|refine aA ?_|simp);refine CallDo.ob (iy aM) (a7 _ _) (by simp only[ad];exact aB) (by simp only[ad];exact aB) (by simp[au,Pv.look,ad,av,kinL,kin]) ?_;rintro r ai ⟨rfl,rfl⟩;refine⟨bJ _ _ _ _,?_⟩;simp[bg,ad,av];(with_reducible repeat' first|refine aA ?_|simp[hb]);refine CallDo.obK (dh _) (a7 _ _) (by simp only[ad];exact aB) (by simp only[ad];exact aB) (by simp[au,Pv.look,ad,av,kinL,kin]) Ψ ?_;rintro r ai ⟨x,hL,bn,rfl,rfl⟩;refine⟨bJ _ _ _ _,?_⟩;simp[bg,ad,av];(with_reducible repeat' first|refine aA ?_|simp);refine dy.tm (hL) (.nil) false Ψ (qT bn _) (by simp only[ad];exact aB) ?_;simp[a1,be,aV,cH,dV,cp,dx,bY,dt,tnL,tn,dU,ey,fold,eb,ea,eP,Pv.look,dv,bz,bC,T.k]
  |some tr=>
   obtain⟨t,rest⟩:=tr;rw[db]at dh;obtain⟨rP,rQ⟩:=pY k _ _ _ db;rw[<-fi aM]at rP rQ;obtain⟨fE,nz⟩:=tt rP;obtain⟨p,aU⟩:∃p,p=l.length-rest.length:=⟨_,rfl⟩;rw[<-aU]at fE;have lO:=IF dh aU.symm;have fm:p<=l.length:=Ω
   have HM:j<p:=by simp at rQ;omega
   rw[show bH eg (k+1) (v::l.drop (j+1)) (acc.map (·.1))=bH eg k rest ((acc++[(t,q+2)]).map (·.1)) by simp[bH,db,eN,lD]];have hT:acc.length+1<=bN:=by unfold bN;omega
   simp[q5];refine CallDo.ob (dH) (a7 _ _) (by simp only[ad];exact aB) (by simp only[ad];exact aB) (by simp[au,Pv.look,ad,av,kinL,kin]) ?_;rintro r ai ⟨rfl,rfl⟩;refine⟨bJ _ _ _ _,?_⟩;simp[bg,ad,av];(with_reducible repeat' first|refine aA ?_|simp);refine CallDo.ob (iy aM) (a7 _ _) (by simp only[ad];exact aB) (by simp only[ad];exact aB) (by simp[au,Pv.look,ad,av,kinL,kin]) ?_;rintro r ai ⟨rfl,rfl⟩;refine⟨bJ _ _ _ _,?_⟩;simp[bg,ad,av];(with_reducible repeat' first|refine aA ?_|simp[hb]);refine CallDo.obK (lO _) (a7 _ _) (by simp only[ad];exact aB) (by simp only[ad];exact aB) (by simp[au,Pv.look,ad,av,kinL,kin]) Ψ ?_;rintro r ai ⟨rfl,rfl⟩;refine⟨bJ _ _ _ _,?_⟩;simp[bg,ad,av];(with_reducible repeat' first|refine aA ?_|simp[hT]);have bp:=ft.snoc t (cq (q+2)) (show q+2<q+3+2 by omega);have fe:=vW.kin bp (cq _) [.obj ky];simp[fresh]at fe;refine b9.whl (acc++[(t,q+2)],p,k,q+3) (by simp;omega) ⟨fm,by simp;omega,by simp;omega,by simp[<-fE],by simp;omega,bp,fun u5 u6 af=>?_⟩ ?_
   ·rcases hv.1 af with af|af
    ·exact oU _ af
    ·simp at af;omega
   simp[q5];exact⟨by simp[fresh,kinL,kin,bt,au,Pv.look];exact⟨rfl,fe⟩,cR (by simp[fresh,kinL,kin,bt,au,Pv.look]),cS (by simp[fresh,kinL,kin,bt,au,Pv.look,cB]),Ψ⟩
end
section
open Go Go.Pv
theorem Fv{α:Type}{p:α->Bool}{s:List α}{i k:Nat}(kO:i<=k)(aa:k<=s.length)(k9:∀c∈(s.drop i).take (k-i),p c=true)(iK:∀c,s[k]? =some c->p c=false):(s.drop i).takeWhile p=(s.drop i).take (k-i)/\(s.drop i).dropWhile p=s.drop k:=by
 have I:s.drop i=(s.drop i).take (k-i)++s.drop k:=by have:=(q3 (k-i) (s.drop i)).symm;rwa[List.drop_drop,show i+(k-i)=k by omega]at this
 have J:(s.drop k).takeWhile p=[]/\(s.drop k).dropWhile p=s.drop k:=by
  cases h:s.drop k with
  |nil=>simp
  |cons c r=>
   have:s[k]? =some c:=by rw[<-List.head?_drop,h];rfl
   have aE:=iK c this;simp[aE]
 constructor
 ·conv=>lhs;rw[I]
  rw[List.takeWhile_append_of_pos k9,J.1,List.append_nil]
 ·conv=>lhs;rw[I]
  rw[List.dropWhile_append_of_pos k9,J.2]
def lU(o:aT (List (List al))):ae:=match o with
 |some l=>.tuple [.slice 1 .no (bZ l),.bool true]
 |none=>.tuple [.slice 1 .no [],.bool false]
theorem Qv(c:al):r4 c=true↔(c.toNat:Int)=10\/(32<=(c.toNat:Int)/\(c.toNat:Int)<=126):=by
 unfold r4;simp only[Bool.or_eq_true,ej,bM,fK];have:c=10↔c.toNat=10:=by rw[<-UInt8.toNat_inj];rfl
 rw[this];omega
theorem pa{c d:al}(h:c≠d):((c.toNat:Int)==(d.toNat:Int))=false:=jm.2 fun e=>h (UInt8.toNat_inj.1 Ω)
theorem wL{c d:al}(h:c≠d):((c.toNat:Int) !=(d.toNat:Int))=true:=by simp only[bne,pa h];rfl
def C4:C:=(ag [bk 2 (.mov (.c (.str [])))] (.seq (ag [ab 4 0,bc 5 .lss 4 0] (bh 5 (.seq (ag [ab 6 0,bc 7 .quo 6 10,bc 8 .eql 7 0] (bh 8 (ag [ab 9 0,bk 10 (.bin .sub false (da 48) (.t 9)),bk 11 (.conv .u8 (.t 10)),hE 12 1 5 [.t 11],bk 13 (.b2s (.t 12)),bk 14 (.bin .add false (.c (.str [45])) (.t 13)),ab 2 14] .ret) .skip)) (.seq (.drawn true 44 [ab 15 0,bc 16 .quo 15 10,cK 17 57 16,ab 18 0,bc 19 .rem 18 10,bk 20 (.bin .sub false (da 48) (.t 19)),bk 21 (.conv .u8 (.t 20)),hE 22 1 5 [.t 21],bk 23 (.b2s (.t 22)),cz 24 .add 17 23,ab 2 24]) .ret)) .skip)) (ag [bk 3 (.mov (.c (.str [])))] (.seq (.block 0 (.loop (.seq (ag [ab 25 0,bc 26 .gtr 25 9] (bh 26 .skip (.exit 0))) (.block 1 (ag [ab 27 0,bc 28 .rem 27 10,bk 29 (.bin .add false (da 48) (.t 28)),bk 30 (.conv .u8 (.t 29)),hE 31 1 5 [.t 30],bk 32 (.b2s (.t 31)),ab 33 3,cz 34 .add 32 33,ab 3 34] (.region [ab 35 0,bc 36 .quo 35 10,ab 0 36])))))) (ag [ab 37 0,bk 38 (.bin .add false (da 48) (.t 37)),bk 39 (.conv .u8 (.t 38)),hE 40 1 5 [.t 39],bk 41 (.b2s (.t 40)),ab 42 3,cz 43 .add 41 42,ab 2 43] .ret)))))
@[simp] def E7:List cr:=[.tmp 2]
def Ma:C:=(ag [gb 2 0,nI 4 1] (.seq (ag [bm 9 2 1 2,bf 10 1 9,c7 11 10,cd 12 0] (lX 13 12 11 (.seq (.block 1 (ag [cQ 14 4 10 12,ck 15 4 14,ht 6 cU,bE 4 6 15] (.region [ck 16 4 6,ab 17 1,eZ 18 156 16 17,ab 1 18]))) (.region [bc 19 .add 12 1,ab 12 19])))) (.seq (ag [bm 20 3 1 2,bf 21 1 20,c7 22 21,cd 23 0] (.block 2 (.loop (ag [cz 24 .lss 23 22] (.seq (bh 24 .skip (.exit 2)) (.seq (.block 3 (ag [cQ 25 4 21 23,ck 26 4 25,dY (.alloc 8 none (.agg [.int .i64 0,.str [],.slice 4 .nil [],.slice 4 .nil []])),bE 4 8 26] (.region [ck 27 4 8,ab 28 1,eZ 29 89 27 28,ab 1 29]))) (.region [bc 30 .add 23 1,ab 23 30]))))))) (ag [ab 31 1,ab 4 31] .ret))))
@[simp] def acD:List cr:=[.tmp 4]
def L0:C:=(ag [bD 2 false] (.seq (ag [dY (.bsl 5 1 9 [(.c (.str [116,114,117,101])),(.c (.str [102,97,105,108])),(.c (.str [115,121,109,98,111,108])),(.c (.str [110,117,109,98,101,114])),(.c (.str [97,98,115,101,110,116])),(.c (.str [97,110,100])),(.c (.str [111,114])),(.c (.str [110,111,116])),(.c (.str [100,101,102,105,110,101]))]),c7 6 5,cd 7 0] (lX 8 7 6 (.seq (.block 1 (ag [cQ 9 1 5 7,bf 10 1 9,ab 4 10] (ag [ab 11 4,ab 12 0,cz 13 .eql 11 12] (bh 13 (ag [bD 2 false] .ret) .skip)))) (.region [bc 14 .add 7 1,ab 7 14])))) (ag [ab 15 0,cK 16 188 15,ab 2 16] .ret)))
@[simp] def acv:List cr:=[.tmp 2]
def Mc:C:=(ag [nI 0 1] (ag [dY (.bsl 1 1 9 [(.c (.str [116,114,117,101])),(.c (.str [102,97,105,108])),(.c (.str [61])),(.c (.str [47,61])),(.c (.str [115,121,109,98,111,108])),(.c (.str [110,117,109,98,101,114])),(.c (.str [97,98,115,101,110,116])),(.c (.str [97,110,100])),(.c (.str [111,114])),(.c (.str [])),(.c (.str [110,111,116]))]),ab 0 1] .ret))
@[simp] def acG:List cr:=[.tmp 0]
def Gl:C:=(ag [gb 1 0,bD 2 false] (ag [ck 3 4 1,kC 4 210 [.t 3,(da 80)],bc 5 .leq 4 80,ab 6 5,aI 6 true (ck 7 4 1),aI 6 true (cK 8 211 7),e7 9 6 8,ab 2 9] .ret))
@[simp] def Jw:List cr:=[.tmp 2]
def L9:C:=(ag [gb 2 0,cd 4 0] (ag [cd 5 1] (.seq (ag [bm 8 3 1 2,bf 9 1 8,c7 10 9,cd 11 0] (lX 12 11 10 (.seq (.block 1 (ag [cQ 13 4 9 11,ck 14 4 13,dY (.alloc 7 none (.agg [.int .i64 0,.str [],.slice 4 .nil [],.slice 4 .nil []])),bE 4 7 14] (.seq (ag [ab 15 5,ab 16 1,cz 17 .gtr 15 16] (bh 17 (ag [ab 18 5,ab 4 18] .ret) .skip)) (.region [ab 19 5,ck 20 4 7,ab 21 1,ab 22 5,cz 23 .sub 21 22,eZ 24 210 20 23,cz 25 .add 19 24,ab 5 25])))) (.region [bc 26 .add 11 1,ab 11 26])))) (ag [ab 27 5,ab 4 27] .ret))))
@[simp] def acC:List cr:=[.tmp 4]
def q9:C:=(ag [gb 1 0,bD 2 false] (.seq (ag [bm 6 0 1 1,bf 7 1 6,kC 8 127 [.t 7,(da 0),(da 10)],dB 9 8,ab 10 9,aI 10 false (bm 11 0 1 1),aI 10 false (bf 12 1 11),aI 10 false (bc 13 .neq 12 9),bP 10 false 14 13,aI 14 true (bm 15 1 1 1),aI 14 true (bf 16 1 15),lv 14 true 17 (.bin .neq false (.t 16) (.c (.str []))),aI 10 false (e7 18 14 17),dk 19 10 18,ab 20 19,aI 20 false (bm 21 2 1 1),aI 20 false (bf 22 1 21),aI 20 false (cK 23 253 22),aI 20 false (dB 24 23),dk 25 20 24] (bh 25 (ag [bD 2 false] .ret) .skip)) (ag [bm 26 2 1 1,bf 27 1 26,c7 28 27,hE 29 1 3 [(da 0),(da 0),(da 2),(da 2),(da 1),(da 1),(da 2),(da 0),(da 0),.t 28,(da 0)],bm 30 0 1 1,bf 31 1 30,cQ 32 1 29 31,bf 33 1 32,ab 3 33] (.seq (ag [bm 34 2 1 1,bf 35 1 34,c7 36 35,ab 37 3,cz 38 .neq 36 37,ab 39 38,bP 39 false 40 3,aI 39 false (bc 41 .gtr 40 4),dk 42 39 41,ab 43 42,aI 43 false (bm 44 0 1 1),aI 43 false (bf 45 1 44),aI 43 false (bc 46 .lss 45 7),bP 43 false 47 46,aI 47 true (bm 48 3 1 1),aI 47 true (bf 49 1 48),aI 47 true (c7 50 49),aI 47 true (bc 51 .gtr 50 0),aI 43 false (e7 52 47 51),dk 53 43 52,ab 54 53,aI 54 false (bm 55 3 1 1),aI 54 false (bf 56 1 55),aI 54 false (c7 57 56),aI 54 false (bc 58 .gtr 57 8),dk 59 54 58] (bh 59 (ag [bD 2 false] .ret) .skip)) (.seq (ag [bm 60 3 1 1,bf 61 1 60,c7 62 61,cd 63 0] (lX 64 63 62 (.seq (.block 1 (ag [cQ 65 4 61 63,ck 66 4 65,dY (.alloc 5 none (.agg [.int .i64 0,.str [],.slice 4 .nil [],.slice 4 .nil []])),bE 4 5 66] (ag [ck 67 4 5,cK 68 211 67,dB 69 68] (bh 69 (ag [bD 2 false] .ret) .skip)))) (.region [bc 70 .add 63 1,ab 63 70])))) (.seq (ag [bm 71 0 1 1,bf 72 1 71] (.block 2 (ag [bc 74 .eql 72 6,ab 73 74] (bh 73 (ag [bm 75 2 1 1,bf 76 1 75,p7 77 4 76 0,bm 78 0 1 77,bf 79 1 78,bc 80 .eql 79 2,ab 2 80] .ret) (ag [bc 82 .eql 72 9,ab 81 82] (bh 81 (ag [bm 83 3 1 1,bf 84 1 83,c7 85 84,bc 86 .eql 85 0,ab 87 86,aI 87 true (bm 88 1 1 1),aI 87 true (bf 89 1 88),aI 87 true (cK 90 128 89),e7 91 87 90,ab 2 91] .ret) (ag [bc 93 .eql 72 10,ab 92 93] (bh 92 (ag [bm 94 3 1 1,bf 95 1 94,c7 96 95,bc 97 .eql 96 1,ab 98 97,aI 98 true (bm 99 3 1 1),aI 98 true (bf 100 1 99),aI 98 true (p7 101 4 100 0),aI 98 true (bm 102 0 1 101),aI 98 true (bf 103 1 102),aI 98 true (bc 104 .eql 103 9),e7 105 98 104,ab 2 105] .ret) .skip)))))))) (ag [bD 2 true] .ret)))))))
@[simp] def zL:List cr:=[.tmp 2]
def L3:C:=(ag [bD 2 false] (.seq (ag [ab 5 0,c7 6 5,cd 7 0] (lX 8 7 6 (.seq (.block 1 (ag [cQ 9 4 5 7,ck 10 4 9,ht 4 cU,bE 4 4 10] (ag [ck 11 4 4,cK 12 271 11,dB 13 12] (bh 13 (ag [bD 2 false] .ret) .skip)))) (.region [bc 14 .add 7 1,ab 7 14])))) (ag [bD 2 true] .ret)))
@[simp] def acz:List cr:=[.tmp 2]
def u0:List (Nat×cJ):=[
 (3,⟨1,8,.int .i64,.int .i64 0⟩),
 (5,⟨1,1,.int .u8,.int .u8 0⟩),
 (9,⟨1,16,.str,.str []⟩),
 (35,⟨1,24,.slice 5,.slice 1 .nil []⟩),
 (38,⟨1,24,.slice 40,.slice 4 .nil []⟩),
 (40,⟨4,56,.struct [(0,3),(1,3),(2,9),(3,38)],.agg [.int .i64 0,.int .i64 0,.str [],.slice 4 .nil []]⟩),
 (63,⟨1,24,.slice 65,.slice 4 .nil []⟩),
 (65,⟨4,72,.struct [(0,3),(1,9),(2,38),(3,63)],.agg [.int .i64 0,.str [],.slice 4 .nil [],.slice 4 .nil []]⟩),
 (70,⟨1,24,.slice 9,.slice 1 .nil []⟩),
 (136,⟨1,24,.slice 3,.slice 1 .nil []⟩)]
theorem lu:ez aQ u0=true:=by kernel_rfl
theorem Jn:c8 u0 C4 E7 1 Tryz.f57=true:=by kernel_rfl
theorem G5:aQ.funcs[(57:Nat)]? =some Tryz.f57:=Tryz.func57
theorem abK:c8 u0 Ma acD 2 Tryz.f89=true:=by kernel_rfl
theorem WI:aQ.funcs[(89:Nat)]? =some Tryz.f89:=Tryz.func89
theorem abA:c8 u0 L0 acv 1 Tryz.f128=true:=by kernel_rfl
theorem Wx:aQ.funcs[(128:Nat)]? =some Tryz.f128:=Tryz.func128
theorem abM:c8 u0 Mc acG 0 Tryz.f131=true:=by kernel_rfl
theorem WK:aQ.funcs[(131:Nat)]? =some Tryz.f131:=Tryz.func131
theorem QM:c8 u0 Gl Jw 1 Tryz.f155=true:=by kernel_rfl
theorem Nd:aQ.funcs[(155:Nat)]? =some Tryz.f155:=Tryz.func155
theorem abJ:c8 u0 L9 acC 2 Tryz.f210=true:=by kernel_rfl
theorem WH:aQ.funcs[(210:Nat)]? =some Tryz.f210:=Tryz.func210
theorem ti:c8 u0 q9 zL 1 Tryz.f211=true:=by kernel_rfl
theorem sQ:aQ.funcs[(211:Nat)]? =some Tryz.f211:=Tryz.func211
theorem abD:c8 u0 L3 acz 1 Tryz.f253=true:=by kernel_rfl
theorem WA:aQ.funcs[(253:Nat)]? =some Tryz.f253:=Tryz.func253
theorem FK(d:Nat)(h:d<10):IntKind.u8.wrap (48+(d:Int))=((48+d:Nat):Int):=by rcases(by omega:d=0\/d=1\/d=2\/d=3\/d=4\/d=5\/d=6\/d=7\/d=8\/d=9)with rfl|rfl|rfl|rfl|rfl|rfl|rfl|rfl|rfl|rfl<;>rfl
theorem MJ(d:Nat):nL (48+(d:Int)).toNat=48+nL d:=by rw[show(48+(d:Int)).toNat=48+d by omega];simp
theorem MI(d:Nat)(h:d<10):nL (IntKind.u8.wrap (48+(d:Int))).toNat=48+nL d:=by rw[FK d h,Int.toNat_natCast];simp
theorem MD(m:Nat)(h:m<18446744073709551616):(Lib.decDigits m).length<=25:=by
 have:∀(k:Nat) (m:Nat),m<10 ^ (k+1)->(Lib.decDigits m).length<=k+1:=by
  intro k;induction k with
  |zero=>intro m hm;rw[sM (by simpa using hm)];simp
  |succ k bo=>
   intro m hm;by_cases h:m<10
   ·rw[sM h];simp
   ·rw[vn Ω,j2];have:=bo (m/10) (by rw[Nat.pow_succ]at hm;omega);simp;omega
 exact this 24 m Ω
theorem ac4(m:Nat)(h:m<=9223372036854775807):b6 aQ 57 [.int .i64 m] (.str (Lib.decDigits m)):=by
 have bL:¬(m:Int)<0:=Ω
 have mg:=MD m Ω;generalize bu:Lib.decDigits m=R at mg;refine bQ lu G5 Jn fun aN=>?_;unfold C4;clear aN;simp;(with_reducible repeat' first|refine aA ?_|simp[bL]);refine h1 (fun(x:Nat×List al)=>⟨[(0,.int .i64 x.1),(3,.str x.2)],[],[],0,[]⟩) (fun x=>x.1) (fun x=>x.1<=9223372036854775807/\Lib.decDigits x.1++x.2=R) (m,[]) (by simp;exact dw) ⟨h,by simp[bu]⟩ ?_;rintro⟨j,o⟩ ⟨I,J⟩ _;simp only at I J;have s0:o.length<=25:=by rw[<-J]at mg;simp at mg;omega
 have iM:1+o.length<=bN:=by unfold bN;omega
 have hl:o.length+1<=bN:=by unfold bN;omega
 by_cases aw:9<j
 ·have aF:(j:Int).tdiv 10=(j/10:Nat):=by rw[Int.tdiv_eq_ediv_of_nonneg Ω];omega
  have hm:(j:Int).tmod 10=(j%10:Nat):=by rw[Int.tmod_eq_emod_of_nonneg Ω];omega
  have xG:=FK (j%10) Ω;have eV:aY (48+((j%10:Nat):Int)):=by unfold aY;omega
  have hw:kD.wrap ((j/10:Nat):Int)=((j/10:Nat):Int):=ng _ Ω;have BH:kD.wrap ((j%10:Nat):Int)=((j%10:Nat):Int):=ng _ Ω;have BI:kD.wrap ((j:Int)/10)=(j:Int)/10:=ng _ Ω;have BJ:nL (IntKind.u8.wrap (48+(j:Int)%10)).toNat=48+nL (j%10):=by have:=MI (j%10) Ω;rwa[Int.natCast_emod]at this
  have ld:(9:Int)<j:=Ω
  rw[vn Ω]at J;simp[ld,aw];(with_reducible repeat' first|refine aA ?_|simp[aF,hm,xG,eV,hw,BH,iM,hl]);refine b9.whl (j/10,nL (48+j%10)::o) (by simp;omega) ⟨by simp;omega,by rw[<-J];simp⟩ ⟨by simp[fresh,kinL,kin,bt,au,Pv.look,BI,BJ],cR (by simp[fresh,kinL,kin,bt,au,Pv.look,BI,BJ]),cS (by simp[fresh,kinL,kin,cB,au,Pv.look,BI,BJ]),Ψ⟩
 ·have ld:¬(9:Int)<j:=Ω
  have xG:=FK j Ω;have eV:aY (48+(j:Int)):=by unfold aY;omega
  rw[sM Ω]at J;subst J;simp[ld,aw];(with_reducible repeat' first|refine aA ?_|simp[xG,eV,iM,hl]);simp[cg,E7,a1,be,aV];exact MJ j
theorem ac3:∀m:Nat,1<=m->m<=9223372036854775808->b6 aQ 57 [.int .i64 (-(m:Int))] (.str (45::Lib.decDigits m)):=by
 intro m;induction m using Nat.strongRecOn with
 |_ m bo=>
 intro I J;have bL:0<m:=Ω
 have mg:=MD m Ω;have aF:(-(m:Int)).tdiv 10= -((m/10:Nat):Int):=by rw[Int.neg_tdiv,Int.tdiv_eq_ediv_of_nonneg Ω];omega
 have hm:(-(m:Int)).tmod 10= -((m%10:Nat):Int):=by rw[Int.neg_tmod,Int.tmod_eq_emod_of_nonneg Ω];omega
 have hw:kD.wrap (-((m/10:Nat):Int))= -((m/10:Nat):Int):=ng _ Ω;have BH:kD.wrap (-((m%10:Nat):Int))= -((m%10:Nat):Int):=ng _ Ω;by_cases aq:m<10
 ·have de:m/10=0:=Ω
  have xG:=FK m aq;have eV:aY (48+(m:Int)):=by unfold aY;omega
  have nq:(-(m:Int)).tdiv 10=0:=by rw[aF,de];rfl
  have Zw:kD.wrap 0=0:=rfl;have BC:(48:Int)- -(m:Int)=48+m:=Ω
  rw[sM aq];refine bQ lu G5 Jn fun aN=>?_;unfold C4;clear aN;simp;(with_reducible repeat' first|refine aA ?_|simp[bL,nq,Zw,BC,xG,eV]);simp[cg,E7,a1,be,aV];exact MJ m
 ·have aW:(-(m:Int)).tdiv 10= -((m:Int)/10):=by rw[aF];simp
  have hB:(-(m:Int)).tmod 10= -((m:Int)%10):=by rw[hm];simp
  have BI:kD.wrap (-((m:Int)/10))= -((m:Int)/10):=ng _ Ω;have BJ:kD.wrap (-((m:Int)%10))= -((m:Int)%10):=ng _ Ω;have Y4:((-((m:Int)/10))==0)=false:=jm.2 Ω;have dh:=bo (m/10) Ω Ω Ω;rw[Int.natCast_ediv]at dh;have xG:nL (IntKind.u8.wrap (48+(m:Int)%10)).toNat=48+nL (m%10):=by have:=MI (m%10) Ω;rwa[Int.natCast_emod]at this
  have eV:aY (48+(m:Int)%10):=by unfold aY;omega
  have BC:(48:Int)- -((m:Int)%10)=48+(m:Int)%10:=Ω
  rw[vn Ω]at mg⊢;simp at mg;have iM:(Lib.decDigits (m/10)).length+1+1<=bN:=by unfold bN;omega
  clear aF hm hw BH bo mg;refine bQ lu G5 Jn fun aN=>?_;unfold C4;clear aN;simp;(with_reducible repeat' first|refine aA ?_|refine a8 dh ?_|refine ba dh ?_|simp[bL,aW,hB,BI,BJ,Y4,BC,xG,eV,iM]);simp[cg,E7,a1,be,aV]
theorem yf(n:Int)(h:aY n):b6 aQ 57 [.int .i64 n] (.str (Lib.itoa n)):=by
 unfold aY at h;unfold Lib.itoa;by_cases bL:n<0
 ·rw[if_pos bL];have:=ac3 n.natAbs Ω Ω;rwa[show-(n.natAbs:Int)=n by omega]at this
 ·rw[bq bL];have:=ac4 n.toNat Ω;rwa[show(n.toNat:Int)=n by omega]at this
def L2:C:=(ag [bD 6 false] (ag [ab 7 0,ab 8 1,cz 9 .geq 7 8,ab 10 9,bP 10 true 11 0,bP 10 true 12 2,aI 10 true (cz 13 .leq 11 12),e7 14 10 13,ab 6 14] .ret))
@[simp] def Ro:List cr:=[.tmp 6]
def yy:C:=(ag [gb 2 0,nI 4 1] (.seq (ag [bm 7 0 1 2,bf 8 1 7,bc 9 .eql 8 1] (bh 9 (ag [ab 10 1,bm 11 1 1 2,bf 12 1 11,eZ 13 212 10 12,ab 4 13] .ret) .skip)) (.seq (ag [bm 14 3 1 2,bf 15 1 14,c7 16 15,cd 17 0] (lX 18 17 16 (.seq (.block 1 (ag [cQ 19 4 15 17,ck 20 4 19,ht 6 cU,bE 4 6 20] (.region [ck 21 4 6,ab 22 1,eZ 23 156 21 22,ab 1 23]))) (.region [bc 24 .add 17 1,ab 17 24])))) (ag [ab 25 1,ab 4 25] .ret))))
@[simp] def zK:List cr:=[.tmp 4]
def LZ:C:=(ag [bD 2 false] (.seq (ag [cd 3 0] (.block 0 (.loop (.seq (ag [ab 5 3,ab 6 0,bk 7 (.slen (.t 6)),cz 8 .lss 5 7] (bh 8 .skip (.exit 0))) (.seq (.block 1 (ag [ab 11 0,ab 12 3,bk 13 (.sidx (.t 11) (.t 12)),bk 14 (.bin .geq false (.t 13) (.c (.int .u8 97))),ab 15 14,bP 15 true 16 0,bP 15 true 17 3,aI 15 true (bk 18 (.sidx (.t 16) (.t 17))),aI 15 true (bk 19 (.bin .leq false (.t 18) (.c (.int .u8 122)))),e7 20 15 19,ab 4 20] (ag [ab 21 4,dB 22 21,ab 23 22,bP 23 true 24 3,aI 23 true (bc 25 .eql 24 0),bP 23 true 26 25,bP 26 false 27 0,bP 26 false 28 3,aI 26 false (bk 29 (.sidx (.t 27) (.t 28))),aI 26 false (bk 30 (.bin .neq false (.t 29) (.c (.int .u8 45)))),bP 26 false 31 30,bP 31 true 32 0,bP 31 true 33 3,aI 31 true (bk 34 (.sidx (.t 32) (.t 33))),aI 31 true (bk 35 (.conv .i64 (.t 34))),aI 31 true (kC 36 127 [.t 35,(da 48),(da 57)]),aI 31 true (dB 37 36),aI 26 false (e7 38 31 37),aI 23 true (dk 39 26 38),e7 40 23 39] (bh 40 (ag [bD 2 false] .ret) .skip)))) (.region [ab 9 3,bc 10 .add 9 1,ab 3 10])))))) (ag [ab 41 0,bk 42 (.slen (.t 41)),kC 43 127 [.t 42,(da 1),(da 12)],ab 2 43] .ret)))
@[simp] def zJ:List cr:=[.tmp 2]
def L5:C:=(ag [nI 4 1] (ag [ab 7 0,c7 8 7,ab 5 8] (.seq (.block 0 (.loop (.seq (ag [ab 9 5,bc 10 .gtr 9 0,ab 11 10,bP 11 true 12 0,bP 11 true 13 5,aI 11 true (bc 14 .sub 13 1),aI 11 true (cQ 15 1 12 14),aI 11 true (bf 16 1 15),bP 11 true 17 1,aI 11 true (cz 18 .geq 16 17),e7 19 11 18] (bh 19 .skip (.exit 0))) (.block 1 (.region [ab 20 5,bc 21 .sub 20 1,ab 5 21]))))) (.seq (ag [ab 22 5,ab 23 0,c7 24 23,cz 25 .lss 22 24,ab 26 25,bP 26 true 27 0,bP 26 true 28 5,aI 26 true (cQ 29 1 27 28),aI 26 true (bf 30 1 29),bP 26 true 31 1,aI 26 true (cz 32 .eql 30 31),e7 33 26 32] (bh 33 (ag [ab 34 0,ab 4 34] .ret) .skip)) (ag [hE 35 1 3 [],ab 36 0,ab 37 5,bk 38 (.lsl 1 (.t 36) none (some (.t 37))),lW 39 1 3 35 38,ab 6 39] (ag [ab 40 6,ab 41 1,hE 42 1 3 [.t 41],lW 43 1 3 40 42,ab 6 43] (ag [ab 44 6,ab 45 0,ab 46 5,bk 47 (.lsl 1 (.t 45) (some (.t 46)) none),lW 48 1 3 44 47,ab 4 48] .ret)))))))
@[simp] def xW:List cr:=[.tmp 4]
def lB:C:=(ag [gb 1 0,bD 2 false] (.seq (ag (bm 3 0 1 1::bf 4 1 3::bc 5 .neq 4 1::ab 6 5::aI 6 true (bm 7 0 1 1)::aI 6 true (bf 8 1 7)::aI 6 true (bc 9 .neq 8 3)::e7 10 6 9::ab 11 10::aI 11 true (bm 12 1 1 1)::aI 11 true (bf 13 1 12)::aI 11 true (bc 14 .neq 13 0)::e7 15 11 14::ab 16 15::aI 16 false (bm 17 0 1 1)::aI 16 false (bf 18 1 17)::aI 16 false (bc 19 .neq 18 2)::bP 16 false 20 19::aI 20 true (bm 21 2 1 1)::aI 20 true (bf 22 1 21)::lv 20 true 23 (.bin .neq false (.t 22) (.c (.str [])))::aI 16 false (e7 24 20 23)::dk 25 16 24::ab 26 25::aI 26 false (bm 27 0 1 1)::aI 26 false (bf 28 1 27)::aI 26 false (bc 29 .neq 28 4)::bP 26 false 30 29::aI 30 true (bm 31 3 1 1)::aI 30 true (bf 32 1 31)::aI 30 true (c7 33 32)::aI 30 true (bc 34 .gtr 33 0)::aI 26 false (e7 35 30 34)::dk 36 26 35::[]) (bh 36 (ag [bD 2 false] .ret) .skip)) (.seq (ag [bm 37 0 1 1,bf 38 1 37] (.block 0 (ag [bc 40 .eql 38 0,ab 39 40] (bh 39 (ag [bD 2 true] .ret) (ag [bc 42 .eql 38 1,ab 41 42] (bh 41 (ag [bm 43 1 1 1,bf 44 1 43,kC 45 127 [.t 44,(da 0),(da 100000)],ab 2 45] .ret) (ag [bc 47 .eql 38 2,ab 46 47] (bh 46 (ag [bm 48 2 1 1,bf 49 1 48,cK 50 188 49,ab 2 50] .ret) (ag [bc 52 .eql 38 3,ab 51 52] (bh 51 (ag [bm 53 1 1 1,bf 54 1 53,kC 55 127 [.t 54,(da (-1000000000)),(da 1000000000)],ab 2 55] .ret) (ag [bc 57 .eql 38 4,ab 56 57] (bh 56 (ag [bm 58 3 1 1,bf 59 1 58,c7 60 59,bc 61 .eql 60 2,ab 62 61,aI 62 true (bm 63 3 1 1),aI 62 true (bf 64 1 63),aI 62 true (p7 65 4 64 0),aI 62 true (ck 66 4 65),aI 62 true (cK 67 270 66),e7 68 62 67,ab 69 68,aI 69 true (bm 70 3 1 1),aI 69 true (bf 71 1 70),aI 69 true (p7 72 4 71 1),aI 69 true (ck 73 4 72),aI 69 true (cK 74 270 73),e7 75 69 74,ab 2 75] .ret) .skip)))))))))))) (ag [bD 2 false] .ret))))
@[simp] def lq:List cr:=[.tmp 2]
def L1:C:=(ag [gb 1 0,bD 2 false] (ag [ck 3 4 1,kC 4 283 [.t 3,(da 5000)],bc 5 .leq 4 5000,ab 6 5,aI 6 true (ck 7 4 1),aI 6 true (cK 8 270 7),e7 9 6 8,ab 2 9] .ret))
@[simp] def acx:List cr:=[.tmp 2]
def L4:C:=(ag [gb 2 0,cd 4 0] (ag [cd 5 1] (.seq (ag [bm 8 3 1 2,bf 9 1 8,c7 10 9,cd 11 0] (lX 12 11 10 (.seq (.block 1 (ag [cQ 13 4 9 11,ck 14 4 13,ht 7 cU,bE 4 7 14] (.seq (ag [ab 15 5,ab 16 1,cz 17 .gtr 15 16] (bh 17 (ag [ab 18 5,ab 4 18] .ret) .skip)) (.region [ab 19 5,ck 20 4 7,ab 21 1,ab 22 5,cz 23 .sub 21 22,eZ 24 283 20 23,cz 25 .add 19 24,ab 5 25])))) (.region [bc 26 .add 11 1,ab 11 26])))) (ag [ab 27 5,ab 4 27] .ret))))
@[simp] def Jx:List cr:=[.tmp 4]
def wG:List (Nat×cJ):=[
 (3,⟨1,8,.int .i64,.int .i64 0⟩),
 (5,⟨1,1,.int .u8,.int .u8 0⟩),
 (9,⟨1,16,.str,.str []⟩),
 (38,⟨1,24,.slice 40,.slice 4 .nil []⟩),
 (40,⟨4,56,.struct [(0,3),(1,3),(2,9),(3,38)],.agg [.int .i64 0,.int .i64 0,.str [],.slice 4 .nil []]⟩),
 (136,⟨1,24,.slice 3,.slice 1 .nil []⟩)]
theorem iV:ez aQ wG=true:=by kernel_rfl
theorem abC:c8 wG L2 Ro 3 Tryz.f127=true:=by kernel_rfl
theorem Wz:aQ.funcs[(127:Nat)]? =some Tryz.f127:=Tryz.func127
theorem B2:c8 wG yy zK 2 Tryz.f156=true:=by kernel_rfl
theorem AU:aQ.funcs[(156:Nat)]? =some Tryz.f156:=Tryz.func156
theorem abz:c8 wG LZ zJ 1 Tryz.f188=true:=by kernel_rfl
theorem Ww:aQ.funcs[(188:Nat)]? =some Tryz.f188:=Tryz.func188
theorem abF:c8 wG L5 xW 2 Tryz.f212=true:=by kernel_rfl
theorem WC:aQ.funcs[(212:Nat)]? =some Tryz.f212:=Tryz.func212
theorem mu:c8 wG lB lq 1 Tryz.f270=true:=by kernel_rfl
theorem mb:aQ.funcs[(270:Nat)]? =some Tryz.f270:=Tryz.func270
theorem abB:c8 wG L1 acx 1 Tryz.f271=true:=by kernel_rfl
theorem Wy:aQ.funcs[(271:Nat)]? =some Tryz.f271:=Tryz.func271
theorem abE:c8 wG L4 Jx 2 Tryz.f283=true:=by kernel_rfl
theorem WB:aQ.funcs[(283:Nat)]? =some Tryz.f283:=Tryz.func283
mutual
def lC:aX->Int->Int
 | .mk _ _ _ args,m=>cntLS args 1 m
def cntLS:List aX->Int->Int->Int
 |[],n,_=>n
 |x::xs,n,m=>if m<n then n else cntLS xs (n+lC x (m-n)) m
end
mutual
theorem GC:∀(t:aX) (m:Int),0<=m->1<=lC t m/\lC t m<=m+1
 | .mk _ _ _ args,m,h=>by simp only[lC];exact Mv args 1 m h Ω Ω
theorem Mv:∀(l:List aX) (n m:Int),0<=m->1<=n->n<=m+1->1<=cntLS l n m/\cntLS l n m<=m+1
 |[],n,m,_,I,J=>by simp only[cntLS];exact⟨I,J⟩
 |x::xs,n,m,bL,I,J=>by
  simp only[cntLS];split
  ·exact⟨I,J⟩
  ·have:=GC x (m-n) Ω;exact Mv xs _ m bL Ω Ω
end
theorem GB:∀(t:T) (m:Int),0<=m->(lC t.tm m<=m↔(t.size:Int)<=m)/\((t.size:Int)<=m->lC t.tm m=t.size)
 | .pair a b,m,h=>by
  have bF:=T.size_pos a;have ah:=T.size_pos b;simp only[T.tm,lC,cntLS,T.size];by_cases I:m<1
  ·rw[if_pos I];exact⟨Ω,fun h=>Ω⟩
  ·rw[bq I];obtain⟨bB,a2⟩:=GB a (m-1) Ω;have a3:=GC a.tm (m-1) Ω;by_cases J:(a.size:Int)<=m-1
   ·have e:=a2 J;rw[e];by_cases ao:m<1+(a.size:Int)
    ·omega
    ·rw[bq ao];obtain⟨cb,cn⟩:=GB b (m-(1+a.size)) Ω;refine⟨Ω,fun h=>?_⟩;rw[cn Ω];omega
   ·have:¬lC a.tm (m-1)<=m-1:=fun h=>J (bB.1 h);rw[if_pos Ω];exact⟨Ω,fun h=>Ω⟩
 | .nil,m,h=>by simp[T.tm,lC,cntLS,T.size]
 | .var _,m,h=>by simp[T.tm,lC,cntLS,T.size]
 | .sym _,m,h=>by simp[T.tm,lC,cntLS,T.size]
 | .num _,m,h=>by simp[T.tm,lC,cntLS,T.size]
theorem UC(t:aX)(m:Int):lC t m=cntLS t.args 1 m:=by cases t;rfl
theorem ad9(t:aX):∀m:Int,0<=m->m<=1000000->b6 aQ 283 [enc t,.int .i64 m] (.int .i64 (lC t m)):=by
 suffices H:∀(k:Nat) (t:aX),t.sz<=k->∀m:Int,0<=m->m<=1000000->b6 aQ 283 [enc t,.int .i64 m] (.int .i64 (lC t m))from H _ t (cq _)
 intro k;induction k with
 |zero=>intro t aD;cases t;simp[aX.sz]at aD
 |succ k bo=>
  intro t aD m bL I;refine bQ iV WB abE fun aN=>?_;unfold L4;have gJ:t.args.length<=68719476736:=by rw[yJ]at aN;simp[iZ,js,ja,bN]at aN;omega
  simp;refine vr [1,9,10] (fun i (n:Int)=>[(5,.int .i64 n),(11,.int .i64 i)]) t.args.length (fun i n=>(1<=n/\n<=m+1)/\cntLS (t.args.drop i) n m=lC t m) 1 dw ⟨Ω,by simp[UC]⟩ (fun n aw _=>?_) (fun i n az aw _=>?_)
  ·simp;(with_reducible repeat' first|refine aA ?_|simp);simp[cg,Jx,a1,be,aV];have:=aw.2;simp[cntLS]at this;exact this
  ·obtain⟨⟨lI,oU⟩,aw⟩:=aw;obtain⟨x,af,fF⟩:=hj az;have aF:t.args.drop i=x::t.args.drop (i+1):=by rw[pd az,fF]
   have dq:x.sz<=k:=by have:=Si (fJ af);omega
   rw[aF]at aw;simp only[cntLS]at aw;simp[az,fF];by_cases ah:m<n
   ·rw[if_pos ah]at aw;(with_reducible repeat' first|refine aA ?_|simp[ah]);simp[cg,Jx,a1,be,aV];exact aw
   ·rw[bq ah]at aw;have aE:=GC x (m-n) Ω;((with_reducible repeat' first|refine aA ?_|refine a8 (bo x dq (m-n) Ω Ω) ?_|refine ba (bo x dq (m-n) Ω Ω) ?_|simp[ah]|((first|apply dG|apply dJ|apply dI)<;>intro h<;>try simp at h))<;>(try exact ev));exact b9.rng (n+lC x (m-n)) az ⟨Ω,aw⟩ dw
theorem eB(n lo az:Int):b6 aQ 127 [.int .i64 n,.int .i64 lo,.int .i64 az] (.bool (decide (lo<=n/\n<=az))):=by
 refine bQ iV Wz abC fun aN=>?_;unfold L2;simp;((with_reducible repeat' first|refine aA ?_|simp|((first|apply dG|apply dJ|apply dI)<;>intro h<;>try simp at h))<;>(try exact ev));all_goals simp[cg,Ro,a1,be,aV]
 all_goals first|omega|(simp;done)|(simp;omega)
def shp:aX->Bool
 | .mk k n s [a,b]=>k==4&&n==0&&s==[]&&shp a&&shp b
 | .mk k n s []=>kV k n s
 |_=>false
theorem zY:∀x:T,shp x.tm=x.ok
 | .nil=>by simp[T.tm,shp,kV,T.ok]
 | .var _=>by simp[T.tm,shp,kV,T.ok]
 | .sym _=>by simp[T.tm,shp,kV,T.ok]
 | .num _=>by simp[T.tm,shp,kV,T.ok]
 | .pair a b=>by simp[T.tm,shp,T.ok,zY a,zY b]
theorem adj:∀(m:Nat) (t:aX),t.sz<=m->shp t=true->∃x:T,x.tm=t:=by
 intro m;induction m with
 |zero=>intro t aD;cases t;simp[aX.sz]at aD
 |succ m bo=>
  rintro⟨k,n,s,args⟩ aD h;match args with
  |[a,b]=>
   simp[aX.sz,aX.szL]at aD;simp only[shp,bM,ej]at h;obtain⟨⟨⟨⟨rfl,rfl⟩,ao⟩,I⟩,J⟩:=h;obtain⟨x,rfl⟩:=bo a Ω I;obtain⟨y,rfl⟩:=bo b Ω J;have:s=[]:=by simpa using ao
   subst this;exact⟨.pair x y,rfl⟩
  |[]=>
   simp only[shp,kV]at h;split at h
   ·subst_vars;simp at h;exact⟨.nil,by simp[T.tm,h]⟩
   split at h
   ·subst_vars;simp at h;exact⟨.var n,by simp[T.tm,h]⟩
   split at h
   ·subst_vars;simp at h;exact⟨.sym s,by simp[T.tm,h]⟩
   split at h
   ·subst_vars;simp at h;exact⟨.num n,by simp[T.tm,h]⟩
   ·simp at h
  |[_]=>simp[shp]at h
  |_::_::_::_=>simp[shp]at h
theorem WR(t:aX):t.fits=(decide (lC t 5000<=5000)&&shp t):=by
 by_cases h:shp t=true
 ·obtain⟨x,rfl⟩:=adj _ t (cq _) h;have:=(GB x 5000 Ω).1;rw[aX.fits_T,T.fit,h];rw[zY]at h;simp[h,this];omega
 ·have bL:t.fits=false:=by
   cases aL:t.fits with
   |false=>rfl
   |true=>obtain⟨x,rfl,af⟩:=aX.fits_ex aL;rw[zY]at h;simp[T.fit]at af;exact absurd af.1 h
  simp at h;rw[bL,h];simp
def Iq(s:List al)(i:Nat):Prop:=i<=s.length/\∀k,k<i->lk (s.getD k 0)=true/\(k=0->low (s.getD k 0)=true)
theorem ZT{s:List al}(h:Iq s s.length):fM s=decide (1<=s.length/\s.length<=12):=by
 unfold fM;by_cases aG:1<=s.length
 ·have I:=(h.2 0 Ω).2 rfl;have J:(s.drop 1).all lk=true:=by rw[jy];intro b ah;obtain⟨i,az,e⟩:=List.getElem_of_mem ah;simp at az e;have:=(h.2 (i+1) Ω).1;rw[List.getD_eq_getElem?_getD,cF Ω]at this;simp only[pf]at this;rw[<-e];exact this
  rw[I,J];simp
 ·have:decide (1<=s.length/\s.length<=12)=false:=by simp;omega
  rw[this];simp
theorem ZS{s:List al}{i:Nat}(az:i<s.length)(h:lk (s.getD i 0)=false\/(i=0/\low (s.getD i 0)=false)):fM s=false:=by
 cases e:fM s with
 |false=>rfl
 |true=>
  exfalso;simp only[fM,bM,jy]at e;obtain⟨⟨_,aj⟩,aJ⟩:=e;rcases h with h|⟨rfl,h⟩
  ·by_cases bL:i=0
   ·subst bL;rw[lk,aj]at h;simp at h
   ·have:=aJ (s.getD i 0) (by rw[List.getD_eq_getElem?_getD,cF az];simp only[pf];refine List.mem_iff_getElem.2 ⟨i-1,by simp;omega,?_⟩;simp[show i-1+1=i from by omega])
    rw[this]at h;cases h
  ·rw[aj]at h;cases h
theorem gX(s:List al):b6 aQ 188 [.str s] (.bool (fM s)):=by
 generalize bu:fM s=R;refine bQ iV Ww abz fun aN=>?_;unfold LZ;have gJ:s.length<=68719476736:=by simp[iZ,js,ja,bN]at aN;omega
 simp;refine MX [0] (fun(i:Nat)=>[(3,.int .i64 i)]) (fun i=>s.length-i) (Iq s) 0 dw ⟨Ω,fun k aa=>Ω⟩ (fun i aw _=>?_);have kP:=aw.1;by_cases az:i<s.length
 ·have gQ:=ZS az;rw[bu]at gQ;obtain⟨c,aE,fq⟩:=hj az;have Hj:s.getD i 0=c:=by simp[List.getD_eq_getElem?_getD,aE]
  rw[Hj]at gQ;have eI:lk c=true->(i=0->low c=true)->Iq s (i+1):=fun I J=>⟨Ω,fun k aa=>by
   rcases(by omega:k<i\/k=i)with h|rfl
   ·exact aw.2 k h
   ·rw[Hj];exact⟨I,J⟩⟩
  have hw:kD.wrap (c.toNat:Int)=c.toNat:=ng _ (by have:=c.toNat_lt;omega);simp[az,fq,aE];by_cases bR:(97:Int)<=c.toNat
  ·by_cases cA:(c.toNat:Int)<=122
   ·have aG:low c=true:=by simp[low];omega
    (with_reducible repeat' first|refine aA ?_|refine a8 (eB _ _ _) ?_|refine ba (eB _ _ _) ?_|simp[az,fq,aE,bR,cA]);exact b9.whl (i+1) Ω (eI (by simp[lk,aG]) (fun _=>aG)) dw
   ·have aG:low c=false:=by simp[low];omega
    by_cases bL:i=0
    ·rw[gQ (.inr ⟨bL,aG⟩)];have ry:((i:Int)==0)=true:=by simp[bL]
     (with_reducible repeat' first|refine aA ?_|refine a8 (eB _ _ _) ?_|refine ba (eB _ _ _) ?_|simp[az,fq,aE,bR,cA,ry,hw]);simp[cg,zJ,a1,be,aV]
    ·have ry:((i:Int)==0)=false:=by simp[bL]
     by_cases dE:(c.toNat:Int)=45
     ·have uQ:((c.toNat:Int) !=45)=false:=by simp[dE]
      (with_reducible repeat' first|refine aA ?_|refine a8 (eB _ _ _) ?_|refine ba (eB _ _ _) ?_|simp[az,fq,aE,bR,cA,ry,hw,dE,uQ]);all_goals exact b9.whl (i+1) Ω (eI (by simp[lk];omega) (fun h=>absurd h bL)) dw
     ·have uQ:((c.toNat:Int) !=45)=true:=by simp[dE]
      by_cases dM:(48:Int)<=c.toNat/\(c.toNat:Int)<=57
      ·(with_reducible repeat' first|refine aA ?_|refine a8 (eB _ _ _) ?_|refine ba (eB _ _ _) ?_|simp[az,fq,aE,bR,cA,ry,hw,dE,uQ,dM]);all_goals exact b9.whl (i+1) Ω (eI (by simp[lk];omega) (fun h=>absurd h bL)) dw
      ·rw[gQ (.inl (by simp[lk,aG];omega))];(with_reducible repeat' first|refine aA ?_|refine a8 (eB _ _ _) ?_|refine ba (eB _ _ _) ?_|simp[az,fq,aE,bR,cA,ry,hw,dE,uQ,dM]);simp[cg,zJ,a1,be,aV]
  ·have aG:low c=false:=by simp[low];omega
   by_cases bL:i=0
   ·rw[gQ (.inr ⟨bL,aG⟩)];have ry:((i:Int)==0)=true:=by simp[bL]
    (with_reducible repeat' first|refine aA ?_|refine a8 (eB _ _ _) ?_|refine ba (eB _ _ _) ?_|simp[az,fq,aE,bR,ry,hw]);simp[cg,zJ,a1,be,aV]
   ·have ry:((i:Int)==0)=false:=by simp[bL]
    by_cases dE:(c.toNat:Int)=45
    ·have uQ:((c.toNat:Int) !=45)=false:=by simp[dE]
     (with_reducible repeat' first|refine aA ?_|refine a8 (eB _ _ _) ?_|refine ba (eB _ _ _) ?_|simp[az,fq,aE,bR,ry,hw,dE,uQ]);all_goals exact b9.whl (i+1) Ω (eI (by simp[lk];omega) (fun h=>absurd h bL)) dw
    ·have uQ:((c.toNat:Int) !=45)=true:=by simp[dE]
     by_cases dM:(48:Int)<=c.toNat/\(c.toNat:Int)<=57
     ·(with_reducible repeat' first|refine aA ?_|refine a8 (eB _ _ _) ?_|refine ba (eB _ _ _) ?_|simp[az,fq,aE,bR,ry,hw,dE,uQ,dM]);all_goals exact b9.whl (i+1) Ω (eI (by simp[lk];omega) (fun h=>absurd h bL)) dw
     ·rw[gQ (.inl (by simp[lk,aG];omega))];(with_reducible repeat' first|refine aA ?_|refine a8 (eB _ _ _) ?_|refine ba (eB _ _ _) ?_|simp[az,fq,aE,bR,ry,hw,dE,uQ,dM]);simp[cg,zJ,a1,be,aV]
 ·have:i=s.length:=Ω
  subst this;rw[ZT aw]at bu;simp[az];(with_reducible repeat' first|refine aA ?_|refine a8 (eB _ _ _) ?_|refine ba (eB _ _ _) ?_|simp[az]);simp[cg,zJ,a1,be,aV];rw[<-bu,Bool.eq_iff_iff];simp;omega
def Gr:C:=(ag [nI 2 1,bD 3 false] (.seq (ag [ab 8 0,bk 9 (.slen (.t 8)),bc 10 .gtr 9 100000] (bh 10 (ag [nI 2 1,bD 3 false] .ret) .skip)) (ag [hE 11 1 9 [],ab 4 11] (ag [cd 5 0] (.seq (.block 0 (.loop (.seq (ag [ab 12 5,ab 13 0,bk 14 (.slen (.t 13)),cz 15 .lss 12 14] (bh 15 .skip (.exit 0))) (.block 1 (ag [ab 16 5,bc 17 .add 16 1,ab 6 17] (.seq (ag [ab 18 0,ab 19 5,bk 20 (.sidx (.t 18) (.t 19)),bk 21 (.bin .eql false (.t 20) (.c (.int .u8 59)))] (bh 21 (.block 2 (.loop (.seq (ag [ab 22 6,ab 23 0,bk 24 (.slen (.t 23)),cz 25 .lss 22 24,ab 26 25,bP 26 true 27 0,bP 26 true 28 6,aI 26 true (bk 29 (.sidx (.t 27) (.t 28))),aI 26 true (bk 30 (.bin .neq false (.t 29) (.c (.int .u8 10)))),e7 31 26 30] (bh 31 .skip (.exit 2))) (.block 3 (.region [ab 32 6,bc 33 .add 32 1,ab 6 33]))))) (ag [ab 34 0,ab 35 5,bk 36 (.sidx (.t 34) (.t 35)),cK 37 172 36,dB 38 37] (bh 38 (.seq (.block 4 (.loop (.seq (ag [ab 39 6,ab 40 0,bk 41 (.slen (.t 40)),cz 42 .lss 39 41,ab 43 42,bP 43 true 44 0,bP 43 true 45 6,aI 43 true (bk 46 (.sidx (.t 44) (.t 45))),aI 43 true (cK 47 172 46),aI 43 true (dB 48 47),e7 49 43 48] (bh 49 .skip (.exit 4))) (.block 5 (.region [ab 50 6,bc 51 .add 50 1,ab 6 51]))))) (.region [ab 52 4,ab 53 0,ab 54 5,ab 55 6,bk 56 (.ssl (.t 53) (some (.t 54)) (some (.t 55))),hE 57 1 9 [.t 56],lW 58 1 9 52 57,ab 4 58])) (ag [ab 59 0,ab 60 5,bk 61 (.sidx (.t 59) (.t 60)),bk 62 (.bin .eql false (.t 61) (.c (.int .u8 40))),ab 63 62,bP 63 false 64 0,bP 63 false 65 5,aI 63 false (bk 66 (.sidx (.t 64) (.t 65))),aI 63 false (bk 67 (.bin .eql false (.t 66) (.c (.int .u8 41)))),dk 68 63 67] (bh 68 (.region [ab 69 4,ab 70 0,ab 71 5,ab 72 6,bk 73 (.ssl (.t 70) (some (.t 71)) (some (.t 72))),hE 74 1 9 [.t 73],lW 75 1 9 69 74,ab 4 75]) .skip)))))) (.region [ab 76 6,ab 5 76]))))))) (.seq (ag [cd 7 0] (.block 6 (.loop (.seq (ag [ab 77 7,ab 78 0,bk 79 (.slen (.t 78)),cz 80 .lss 77 79] (bh 80 .skip (.exit 6))) (.seq (.block 7 (ag [ab 83 0,ab 84 7,bk 85 (.sidx (.t 83) (.t 84)),bk 86 (.bin .neq false (.t 85) (.c (.int .u8 10))),ab 87 86,bP 87 true 88 0,bP 87 true 89 7,aI 87 true (bk 90 (.sidx (.t 88) (.t 89))),aI 87 true (bk 91 (.conv .i64 (.t 90))),aI 87 true (kC 92 127 [.t 91,(da 32),(da 126)]),aI 87 true (dB 93 92),e7 94 87 93] (bh 94 (ag [nI 2 1,bD 3 false] .ret) .skip))) (.region [ab 81 7,bc 82 .add 81 1,ab 7 82])))))) (.seq (ag [ab 95 4,c7 96 95,bc 97 .gtr 96 20000] (bh 97 (ag [nI 2 1,bD 3 false] .ret) .skip)) (ag [ab 98 4,ab 2 98,bD 3 true] .ret))))))))
@[simp] def E9:List cr:=[.tmp 2,.tmp 3]
def vl:C:=(ag [dY (.alloc 4 none (.agg [.int .i64 0,.str [],.slice 4 .nil [],.slice 4 .nil []])),cd 5 0,bD 6 false] (.seq (ag [ab 16 1,ab 17 0,c7 18 17,cz 19 .lss 16 18,ab 20 19,bP 20 true 21 0,bP 20 true 22 1,aI 20 true (cQ 23 1 21 22),aI 20 true (bf 24 1 23),lv 20 true 25 (.bin .eql false (.t 24) (.c (.str [116,114,117,101]))),e7 26 20 25] (bh 26 (ag [bk 27 (.build [.int .i64 0,.str [],.slice 4 .nil [],.slice 4 .nil []] []),ab 28 1,bc 29 .add 28 1,bE 4 4 27,ab 5 29,bD 6 true] .ret) .skip)) (.seq (ag [ab 30 1,ab 31 0,c7 32 31,cz 33 .lss 30 32,ab 34 33,bP 34 true 35 0,bP 34 true 36 1,aI 34 true (cQ 37 1 35 36),aI 34 true (bf 38 1 37),lv 34 true 39 (.bin .eql false (.t 38) (.c (.str [102,97,105,108]))),e7 40 34 39] (bh 40 (ag [bk 41 (.build [.int .i64 0,.str [],.slice 4 .nil [],.slice 4 .nil []] [(0,1,(da 1))]),ab 42 1,bc 43 .add 42 1,bE 4 4 41,ab 5 43,bD 6 true] .ret) .skip)) (.seq (ag [ab 44 1,bc 45 .add 44 1,ab 46 0,c7 47 46,cz 48 .geq 45 47,ab 49 48,bP 49 false 50 0,bP 49 false 51 1,aI 49 false (cQ 52 1 50 51),aI 49 false (bf 53 1 52),lv 49 false 54 (.bin .neq false (.t 53) (.c (.str [40]))),dk 55 49 54] (bh 55 (ag [bk 56 (.build [.int .i64 0,.str [],.slice 4 .nil [],.slice 4 .nil []] []),bE 4 4 56,cd 5 0,bD 6 false] .ret) .skip)) (ag [ab 57 0,ab 58 1,bc 59 .add 58 1,cQ 60 1 57 59,bf 61 1 60,bk 62 (.build [.int .i64 0,.str [],.slice 4 .nil [],.slice 4 .nil []] [(0,1,(da 9)),(1,1,(.t 61))]),dY (.alloc 7 none (.agg [.int .i64 0,.str [],.slice 4 .nil [],.slice 4 .nil []])),bE 4 7 62] (.seq (ag [kC 63 131 [],c7 64 63,cd 65 0] (lX 66 65 64 (.seq (.block 1 (ag [ab 67 65,cQ 68 1 63 65,bf 69 1 68,ab 8 67,ab 9 69] (ag [ab 70 9,ab 71 0,ab 72 1,bc 73 .add 72 1,cQ 74 1 71 73,bf 75 1 74,cz 76 .eql 70 75] (bh 76 (.region [ab 77 8,bk 78 (.build [.int .i64 0,.str [],.slice 4 .nil [],.slice 4 .nil []] [(0,1,(.t 77))]),bE 4 7 78]) .skip)))) (.region [bc 79 .add 65 1,ab 65 79])))) (ag [ab 80 1,bc 81 .add 80 2,ab 1 81] (.seq (.block 2 (.loop (.seq (ag [ab 82 1,ab 83 0,c7 84 83,cz 85 .lss 82 84,ab 86 85,bP 86 true 87 0,bP 86 true 88 1,aI 86 true (cQ 89 1 87 88),aI 86 true (bf 90 1 89),lv 86 true 91 (.bin .neq false (.t 90) (.c (.str [41]))),e7 92 86 91] (bh 92 .skip (.exit 2))) (.block 3 (ag [bm 93 0 1 7,bf 94 1 93,bc 95 .eql 94 7,ab 96 95,aI 96 false (bm 97 0 1 7),aI 96 false (bf 98 1 97),aI 96 false (bc 99 .eql 98 8),dk 100 96 99,ab 101 100,aI 101 false (bm 102 0 1 7),aI 101 false (bf 103 1 102),aI 101 false (bc 104 .eql 103 10),dk 105 101 104] (bh 105 (ag [ab 107 0,ab 108 1,eZ 109 154 107 108,ab 106 109,dN 110 0 106,dN 111 1 106,dN 112 2 106,dY (.alloc 10 none (.agg [.int .i64 0,.str [],.slice 4 .nil [],.slice 4 .nil []])),bE 4 10 110,ab 11 111,ab 12 112] (.seq (ag [ab 113 12,dB 114 113] (bh 114 (ag [bk 115 (.build [.int .i64 0,.str [],.slice 4 .nil [],.slice 4 .nil []] []),bE 4 4 115,cd 5 0,bD 6 false] .ret) .skip)) (ag [bm 116 3 1 7,bf 117 1 116,ck 118 4 10,hE 119 4 65 [.t 118],lW 120 4 65 117 119,bm 121 3 1 7,bE 1 121 120] (.region [ab 122 11,ab 1 122])))) (ag [ab 124 0,ab 125 1,eZ 126 209 124 125,ab 123 126,dN 127 0 123,dN 128 1 123,dN 129 2 123,ht 13 cU,bE 4 13 127,ab 14 128,ab 15 129] (.seq (ag [ab 130 15,dB 131 130] (bh 131 (ag [bk 132 (.build [.int .i64 0,.str [],.slice 4 .nil [],.slice 4 .nil []] []),bE 4 4 132,cd 5 0,bD 6 false] .ret) .skip)) (ag [bm 133 2 1 7,bf 134 1 133,ck 135 4 13,hE 136 4 40 [.t 135],lW 137 4 40 134 136,bm 138 2 1 7,bE 1 138 137] (.region [ab 139 14,ab 1 139])))))))))) (.seq (.fz true 7 (.drawn true 152 [bk 140 (.loadZ true 4 (.t 7)),ab 141 1,bc 142 .add 141 1,ab 143 1,ab 144 0,c7 145 144,cz 146 .lss 143 145,ab 147 146,aI 147 true (bm 148 0 1 7),aI 147 true (bk 149 (.loadZ false 1 (.t 148))),aI 147 true (bc 150 .gtr 149 1),e7 151 147 150,bE 4 4 140,ab 5 142,ab 6 151])) .ret)))))))))
@[simp] def kX:List cr:=[.cell 4 true 4,.tmp 5,.tmp 6]
def w3:C:=(ag [bD 2 false] (ag [ab 3 0,bk 4 (.bin .eql false (.t 3) (.c (.int .u8 32))),ab 5 4,bP 5 false 6 0,aI 5 false (bk 7 (.bin .eql false (.t 6) (.c (.int .u8 10)))),dk 8 5 7,ab 9 8,bP 9 false 10 0,aI 9 false (bk 11 (.bin .eql false (.t 10) (.c (.int .u8 40)))),dk 12 9 11,ab 13 12,bP 13 false 14 0,aI 13 false (bk 15 (.bin .eql false (.t 14) (.c (.int .u8 41)))),dk 16 13 15,ab 17 16,bP 17 false 18 0,aI 17 false (bk 19 (.bin .eql false (.t 18) (.c (.int .u8 59)))),dk 20 17 19,ab 2 20] .ret))
@[simp] def acy:List cr:=[.tmp 2]
def w4:C:=(ag [ht 4 cU,cd 5 0,bD 6 false] (.seq (ag [ab 17 1,ab 18 0,c7 19 18,cz 20 .geq 17 19,ab 21 20,bP 21 false 22 0,bP 21 false 23 1,aI 21 false (cQ 24 1 22 23),aI 21 false (bf 25 1 24),lv 21 false 26 (.bin .eql false (.t 25) (.c (.str [41]))),dk 27 21 26,ab 28 27,bP 28 false 29 0,bP 28 false 30 1,aI 28 false (cQ 31 1 29 30),aI 28 false (bf 32 1 31),lv 28 false 33 (.bin .eql false (.t 32) (.c (.str [46]))),dk 34 28 33] (bh 34 (ag [kB 35 cU [],bE 4 4 35,cd 5 0,bD 6 false] .ret) .skip)) (.seq (ag [ab 36 0,ab 37 1,cQ 38 1 36 37,bf 39 1 38,bk 40 (.bin .neq false (.t 39) (.c (.str [40])))] (bh 40 (ag [ab 42 0,ab 43 1,cQ 44 1 42 43,bf 45 1 44,cK 46 251 45,ab 41 46,dN 47 0 41,dN 48 1 41,ht 7 cU,bE 4 7 47,ab 8 48] (ag [ck 49 4 7,ab 50 1,bc 51 .add 50 1,ab 52 8,bE 4 4 49,ab 5 51,ab 6 52] .ret)) .skip)) (ag [hE 53 4 40 [],ab 9 53] (ag [ab 54 1,bc 55 .add 54 1,ab 1 55] (.seq (.block 0 (.loop (.seq (ag [ab 56 1,ab 57 0,c7 58 57,cz 59 .lss 56 58,ab 60 59,bP 60 true 61 0,bP 60 true 62 1,aI 60 true (cQ 63 1 61 62),aI 60 true (bf 64 1 63),lv 60 true 65 (.bin .neq false (.t 64) (.c (.str [41]))),e7 66 60 65,ab 67 66,bP 67 true 68 0,bP 67 true 69 1,aI 67 true (cQ 70 1 68 69),aI 67 true (bf 71 1 70),lv 67 true 72 (.bin .neq false (.t 71) (.c (.str [46]))),e7 73 67 72] (bh 73 .skip (.exit 0))) (.block 1 (ag [ab 75 0,ab 76 1,eZ 77 209 75 76,ab 74 77,dN 78 0 74,dN 79 1 74,dN 80 2 74,ht 10 cU,bE 4 10 78,ab 11 79,ab 12 80] (.seq (ag [ab 81 12,dB 82 81] (bh 82 (ag [kB 83 cU [],bE 4 4 83,cd 5 0,bD 6 false] .ret) .skip)) (ag [ab 84 9,ck 85 4 10,hE 86 4 40 [.t 85],lW 87 4 40 84 86,ab 9 87] (.region [ab 88 11,ab 1 88])))))))) (ag [kB 89 cU [],ht 13 cU,bE 4 13 89] (.seq (ag [ab 90 1,ab 91 0,c7 92 91,cz 93 .lss 90 92,ab 94 93,bP 94 true 95 0,bP 94 true 96 1,aI 94 true (cQ 97 1 95 96),aI 94 true (bf 98 1 97),lv 94 true 99 (.bin .eql false (.t 98) (.c (.str [46]))),e7 100 94 99] (bh 100 (ag [ab 102 0,ab 103 1,bc 104 .add 103 1,eZ 105 209 102 104,ab 101 105,dN 106 0 101,dN 107 1 101,dN 108 2 101,ht 14 cU,bE 4 14 106,ab 15 107,ab 16 108] (.seq (ag [ab 109 16,dB 110 109,ab 111 110,bP 111 false 112 9,aI 111 false (c7 113 112),aI 111 false (bc 114 .eql 113 0),dk 115 111 114] (bh 115 (ag [kB 116 cU [],bE 4 4 116,cd 5 0,bD 6 false] .ret) .skip)) (ag [ck 117 4 14,bE 4 13 117] (.region [ab 118 15,ab 1 118])))) .skip)) (.seq (ag [ab 119 1,ab 120 0,c7 121 120,cz 122 .geq 119 121,ab 123 122,bP 123 false 124 0,bP 123 false 125 1,aI 123 false (cQ 126 1 124 125),aI 123 false (bf 127 1 126),lv 123 false 128 (.bin .neq false (.t 127) (.c (.str [41]))),dk 129 123 128] (bh 129 (ag [kB 130 cU [],bE 4 4 130,cd 5 0,bD 6 false] .ret) .skip)) (ag [ab 131 9,ck 132 4 13,eZ 133 252 131 132,ab 134 1,bc 135 .add 134 1,bE 4 4 133,ab 5 135,bD 6 true] .ret))))))))))
@[simp] def wv:List cr:=[.cell 4 true 4,.tmp 5,.tmp 6]
def w2:C:=(ag [cd 2 0,bD 3 false] (ag [ab 9 0,bk 10 (.slen (.t 9)),bc 11 .gtr 10 0,ab 12 11,bP 12 true 13 0,aI 12 true (bk 14 (.sidx (.t 13) (da 0))),aI 12 true (bk 15 (.bin .eql false (.t 14) (.c (.int .u8 45)))),e7 16 12 15,ab 4 16] (ag [ab 17 0,ab 5 17] (.seq (ag [ab 18 4] (bh 18 (.region [ab 19 0,bk 20 (.ssl (.t 19) (some (da 1)) none),ab 5 20]) .skip)) (.seq (ag [ab 21 5,bk 22 (.slen (.t 21)),bc 23 .lss 22 1,ab 24 23,bP 24 false 25 5,aI 24 false (bk 26 (.slen (.t 25))),aI 24 false (bc 27 .gtr 26 19),dk 28 24 27] (bh 28 (ag [cd 2 0,bD 3 false] .ret) .skip)) (ag [cd 6 0] (.seq (ag [cd 7 0] (.block 0 (.loop (.seq (ag [ab 29 7,ab 30 5,bk 31 (.slen (.t 30)),cz 32 .lss 29 31] (bh 32 .skip (.exit 0))) (.seq (.block 1 (ag [ab 35 5,ab 36 7,bk 37 (.sidx (.t 35) (.t 36)),bk 38 (.conv .i64 (.t 37)),bc 39 .sub 38 48,ab 8 39] (.seq (ag [ab 40 8,kC 41 127 [.t 40,(da 0),(da 9)],dB 42 41,ab 43 42,bP 43 false 44 6,bP 43 false 45 8,aI 43 false (bk 46 (.bin .add false (da (-9223372036854775808)) (.t 45))),aI 43 false (bc 47 .quo 46 10),aI 43 false (cz 48 .lss 44 47),dk 49 43 48] (bh 49 (ag [cd 2 0,bD 3 false] .ret) .skip)) (.region [ab 50 6,bc 51 .mul 50 10,ab 52 8,cz 53 .sub 51 52,ab 6 53])))) (.region [ab 33 7,bc 34 .add 33 1,ab 7 34])))))) (.seq (ag [ab 54 4,dB 55 54] (bh 55 (.seq (ag [ab 56 6,bc 57 .eql 56 (-9223372036854775808)] (bh 57 (ag [cd 2 0,bD 3 false] .ret) .skip)) (.region [ab 58 6,bk 59 (.neg (.t 58)),ab 6 59])) .skip)) (.seq (ag [ab 60 6,cK 61 57 60,ab 62 0,cz 63 .neq 61 62] (bh 63 (ag [cd 2 0,bD 3 false] .ret) .skip)) (ag [ab 64 6,ab 2 64,bD 3 true] .ret))))))))))
@[simp] def E8:List cr:=[.tmp 2,.tmp 3]
def vk:C:=(ag [ht 2 cU,bD 3 false] (.seq (ag [ab 7 0,cK 8 188 7] (bh 8 (ag [ab 9 0,cK 10 195 9,bE 4 2 10,bD 3 true] .ret) .skip)) (ag [kB 11 cU [(0,1,(da 3))],ht 4 cU,bE 4 4 11] (.seq (ag [ab 12 0,bk 13 (.slen (.t 12)),bc 14 .gtr 13 0,ab 15 14,bP 15 true 16 0,aI 15 true (bk 17 (.sidx (.t 16) (da 0))),aI 15 true (bk 18 (.bin .eql false (.t 17) (.c (.int .u8 63)))),e7 19 15 18] (bh 19 (ag [bm 20 0 1 4,dY (.store 1 (.t 20) (da 1))] (.region [ab 21 0,bk 22 (.ssl (.t 21) (some (da 1)) none),ab 0 22])) .skip)) (ag [ab 24 0,cK 25 221 24,ab 23 25,dN 26 0 23,dN 27 1 23,ab 5 26,ab 6 27] (ag [ab 28 5,bm 29 1 1 4,bE 1 29 28] (.seq (ag [ab 30 6,dB 31 30,ab 32 31,aI 32 false (ck 33 4 4),aI 32 false (cK 34 270 33),aI 32 false (dB 35 34),dk 36 32 35] (bh 36 (ag [kB 37 cU [],bE 4 2 37,bD 3 false] .ret) .skip)) (ag [ck 38 4 4,bE 4 2 38,bD 3 true] .ret))))))))
@[simp] def acB:List cr:=[.cell 2 true 4,.tmp 3]
def L6:C:=(ag [gb 3 1,ht 4 cU] (.seq (ag [ab 6 0,c7 7 6,bc 8 .sub 7 1,ab 5 8] (.block 0 (.loop (.seq (ag [ab 9 5,bc 10 .geq 9 0] (bh 10 .skip (.exit 0))) (.seq (.block 1 (.drawn true 20 [ab 13 0,ab 14 5,cQ 15 4 13 14,ck 16 4 15,ck 17 4 3,eZ 18 141 16 17,bE 4 3 18])) (.region [ab 11 5,bc 12 .sub 11 1,ab 5 12])))))) (ag [ck 19 4 3,bE 4 4 19] .ret)))
@[simp] def acA:List cr:=[.cell 4 true 4]
def wJ:List (Nat×cJ):=[
 (3,⟨1,8,.int .i64,.int .i64 0⟩),
 (5,⟨1,1,.int .u8,.int .u8 0⟩),
 (9,⟨1,16,.str,.str []⟩),
 (38,⟨1,24,.slice 40,.slice 4 .nil []⟩),
 (40,⟨4,56,.struct [(0,3),(1,3),(2,9),(3,38)],.agg [.int .i64 0,.int .i64 0,.str [],.slice 4 .nil []]⟩),
 (63,⟨1,24,.slice 65,.slice 4 .nil []⟩),
 (65,⟨4,72,.struct [(0,3),(1,9),(2,38),(3,63)],.agg [.int .i64 0,.str [],.slice 4 .nil [],.slice 4 .nil []]⟩),
 (70,⟨1,24,.slice 9,.slice 1 .nil []⟩)]
theorem hs:ez aQ wJ=true:=by kernel_rfl
theorem QQ:c8 wJ Gr E9 1 Tryz.f107=true:=by kernel_rfl
theorem Ni:aQ.funcs[(107:Nat)]? =some Tryz.f107:=Tryz.func107
theorem xU:c8 wJ vl kX 2 Tryz.f154=true:=by kernel_rfl
theorem xd:aQ.funcs[(154:Nat)]? =some Tryz.f154:=Tryz.func154
theorem zA:c8 wJ w3 acy 1 Tryz.f172=true:=by kernel_rfl
theorem yP:aQ.funcs[(172:Nat)]? =some Tryz.f172:=Tryz.func172
theorem zB:c8 wJ w4 wv 2 Tryz.f209=true:=by kernel_rfl
theorem yQ:aQ.funcs[(209:Nat)]? =some Tryz.f209:=Tryz.func209
theorem zz:c8 wJ w2 E8 1 Tryz.f221=true:=by kernel_rfl
theorem yO:aQ.funcs[(221:Nat)]? =some Tryz.f221:=Tryz.func221
theorem xT:c8 wJ vk acB 1 Tryz.f251=true:=by kernel_rfl
theorem xc:aQ.funcs[(251:Nat)]? =some Tryz.f251:=Tryz.func251
theorem abG:c8 wJ L6 acA 2 Tryz.f252=true:=by kernel_rfl
theorem WD:aQ.funcs[(252:Nat)]? =some Tryz.f252:=Tryz.func252
theorem Ad(c:al):b6 aQ 172 [.int .u8 c.toNat] (.bool (nY c)):=by
 by_cases bB:c=32
 ·subst bB;rw[show nY _=true from rfl];refine bQ hs yP zA fun aN=>?_;unfold w3;clear aN;exact cw
 by_cases a2:c=10
 ·subst a2;rw[show nY _=true from rfl];refine bQ hs yP zA fun aN=>?_;unfold w3;clear aN;exact cw
 by_cases a3:c=40
 ·subst a3;rw[show nY _=true from rfl];refine bQ hs yP zA fun aN=>?_;unfold w3;clear aN;exact cw
 by_cases a4:c=41
 ·subst a4;rw[show nY _=true from rfl];refine bQ hs yP zA fun aN=>?_;unfold w3;clear aN;exact cw
 by_cases a5:c=59
 ·subst a5;rw[show nY _=true from rfl];refine bQ hs yP zA fun aN=>?_;unfold w3;clear aN;exact cw
 have ah:nY c=false:=by unfold nY;simp[bB,a2,a3,a4,a5]
 have m1:((c.toNat:Int)==32)=false:=pa (d:=32) bB;have m2:((c.toNat:Int)==10)=false:=pa (d:=10) a2;have m3:((c.toNat:Int)==40)=false:=pa (d:=40) a3;have m4:((c.toNat:Int)==41)=false:=pa (d:=41) a4;have m5:((c.toNat:Int)==59)=false:=pa (d:=59) a5;rw[ah];refine bQ hs yP zA fun aN=>?_;unfold w3;clear aN;exact cw
def mE(s:List al)(x:List (List al)×Nat):aS:=⟨[(0,.str s),(4,.slice 1 (.own (.loc 0)) (bZ x.1)),(5,.int .i64 x.2)],[],[(.loc 0,⟨x.1.length,9,1,none⟩)],1,[]⟩
def qj(s:List al)(out:List (List al))(i:Nat)(k:Nat):aS:=⟨[(0,.str s),(4,.slice 1 (.own (.loc 0)) (bZ out)),(5,.int .i64 i),(6,.int .i64 k)],[],[(.loc 0,⟨out.length,9,1,none⟩)],1,[]⟩
def tL(s:List al)(out:List (List al))(k:Nat):aS:=⟨[(0,.str s),(4,.slice 1 (.own (.loc 0)) (bZ out)),(7,.int .i64 k)],[],[(.loc 0,⟨out.length,9,1,none⟩)],1,[]⟩
set_option maxRecDepth 8000 in
theorem aev(s:List al)(aq:s.length<=bN):b6 aQ 107 [.str s] (lU (iB s)):=by
 by_cases I:s.length<=100000;rotate_left
 ·have:iB s=none:=by unfold iB;rw[bq (fun h=>I h.1)]
  rw[this,lU];have yX:(100000:Int)<s.length:=Ω
  refine bQ hs Ni QQ fun aN=>?_;unfold Gr;clear aN;exact cw
 have yX:¬(100000:Int)<s.length:=Ω
 generalize bu:lU (iB s)=R;have pG:kin (fun _=>cZ) R:=by rw[<-bu];unfold lU;split<;>simp[kin,kinL]
 refine bQ hs Ni QQ (fun aN=>?_) (hr:=pG);unfold Gr;clear aN;simp[yX];refine h1 (mE s) (fun x=>s.length-x.2) (fun x=>x.2<=s.length/\x.1++gV (s.drop x.2)=gV s/\x.1.length<=x.2) ([],0) (by simp[mE,bZ];exact dw) ⟨Ψ,Ψ,Ψ⟩ ?_;rintro⟨out,i⟩ ⟨az,hinv,s0⟩ _;simp only at az hinv s0;rcases iX az with rfl|bS
 ·rw[jN,FF,List.append_nil]at hinv;subst hinv;simp[mE];refine h1 (tL s (gV s)) (fun k=>s.length-k) (fun k=>k<=s.length/\∀c∈s.take k,r4 c=true) 0 (by simp[tL];exact⟨by simp[fresh,kinL,kin,bt,au,Pv.look,cX,eJ],cR (by simp[fresh,kinL,kin,bt,au,Pv.look,cX,eJ]),cS (by simp[fresh,kinL,kin,cB,au,Pv.look,cX,eJ]),Ψ⟩) ⟨Ω,Ψ⟩ ?_;rintro k ⟨aa,dS⟩ _;rcases iX aa with rfl|bS
  ·rw[j4]at dS;have k9:∀c∈s,r4 c=true:=dS;by_cases aK:(gV s).length<=20000
   ·have gK:¬(20000:Int)<(gV s).length:=Ω
    have aD:iB s=some (gV s):=by unfold iB;rw[if_pos ⟨I,k9,aK⟩]
    simp[tL];(with_reducible repeat' first|refine aA ?_|simp[gK]);rw[<-bu,aD,lU];simp[cg,E9,a1,be,aV]
   ·have gK:(20000:Int)<(gV s).length:=Ω
    have aD:iB s=none:=by unfold iB;rw[bq fun h=>aK h.2.2]
    simp[tL];(with_reducible repeat' first|refine aA ?_|simp[gK]);rw[<-bu,aD,lU];simp[cg,E9,a1,be,aV]
  ·obtain⟨c,aE,fq⟩:=hj bS;have b1:aY ((k:Int)+1):=by unfold aY;omega
   have j9:=Qv c;have eG:=eB c.toNat 32 126;have hw:kD.wrap (c.toNat:Int)=c.toNat:=ng _ (by have:=c.toNat_lt;omega);by_cases vQ:r4 c=true
   ·have Br:∀x∈s.take (k+1),r4 x=true:=fun x af=>by
     rw[k3,aE]at af;rcases hv.1 af with af|af
     ·exact dS x af
     ·simp at af;subst af;exact vQ
    rcases j9.1 vQ with fC|A3
    ·have nt:((c.toNat:Int) !=10)=false:=by simpa using fC
     clear dS j9 vQ;simp[tL,bS,fq,aE];(with_reducible repeat' first|refine aA ?_|refine a8 eG ?_|refine ba eG ?_|simp[bS,fq,aE,nt,b1,hw]);refine b9.whl (k+1) Ω ⟨bS,Br⟩ (by simp[tL];exact⟨by simp[fresh,kinL,kin,bt,au,Pv.look,cX,eJ],cR (by simp[fresh,kinL,kin,bt,au,Pv.look,cX,eJ]),cS (by simp[fresh,kinL,kin,cB,au,Pv.look,cX,eJ]),Ψ⟩)
    ·have nt:((c.toNat:Int) !=10)=true:=bne_iff_ne.2 Ω;rw[nM A3]at eG;clear dS j9 vQ;simp[tL,bS,fq,aE];(with_reducible repeat' first|refine aA ?_|refine a8 eG ?_|refine ba eG ?_|simp[bS,fq,aE,nt,b1,hw]);refine b9.whl (k+1) Ω ⟨bS,Br⟩ (by simp[tL];exact⟨by simp[fresh,kinL,kin,bt,au,Pv.look,cX,eJ],cR (by simp[fresh,kinL,kin,bt,au,Pv.look,cX,eJ]),cS (by simp[fresh,kinL,kin,cB,au,Pv.look,cX,eJ]),Ψ⟩)
   ·have aD:iB s=none:=by unfold iB;rw[bq];intro h;exact vQ (h.2.1 c (fJ aE))
    have nt:((c.toNat:Int) !=10)=true:=bne_iff_ne.2 fun e=>vQ (j9.2 (.inl e));rw[decide_eq_false fun e=>vQ (j9.2 (.inr e))]at eG;clear dS j9 vQ;simp[tL,bS,fq,aE];(with_reducible repeat' first|refine aA ?_|refine a8 eG ?_|refine ba eG ?_|simp[bS,fq,aE,nt,b1,hw]);rw[<-bu,aD,lU];simp[cg,E9,a1,be,aV]
 obtain⟨c,aE,fq⟩:=hj bS;have b1:aY ((i:Int)+1):=by unfold aY;omega
 have xB:out.length+1<=bN:=by unfold bN;omega
 have mT:=Ad c;rw[fi aE,FE]at hinv;by_cases lg:c=32\/c=10
 ·rw[if_pos lg]at hinv;rcases lg with rfl|rfl
  ·have mT:b6 aQ 172 [.int .u8 32] (.bool true):=Ad 32;simp[mE,bS,fq,aE];(with_reducible repeat' first|refine aA ?_|refine a8 mT ?_|refine ba mT ?_|simp[bS,fq,aE,b1]);refine b9.whl (out,i+1) (by simp;omega) ⟨bS,hinv,by simp;omega⟩ (by simp[mE];exact⟨by simp[fresh,kinL,kin,bt,au,Pv.look,cX,eJ],cR (by simp[fresh,kinL,kin,bt,au,Pv.look,cX,eJ]),cS (by simp[fresh,kinL,kin,cB,au,Pv.look,cX,eJ]),Ψ⟩)
  ·have mT:b6 aQ 172 [.int .u8 10] (.bool true):=Ad 10;simp[mE,bS,fq,aE];(with_reducible repeat' first|refine aA ?_|refine a8 mT ?_|refine ba mT ?_|simp[bS,fq,aE,b1]);refine b9.whl (out,i+1) (by simp;omega) ⟨bS,hinv,by simp;omega⟩ (by simp[mE];exact⟨by simp[fresh,kinL,kin,bt,au,Pv.look,cX,eJ],cR (by simp[fresh,kinL,kin,bt,au,Pv.look,cX,eJ]),cS (by simp[fresh,kinL,kin,cB,au,Pv.look,cX,eJ]),Ψ⟩)
 rw[bq lg]at hinv;by_cases rA:c=59
 ·rw[if_pos rA]at hinv;subst rA;clear mT;simp[mE,bS,fq,aE];(with_reducible repeat' first|refine aA ?_|simp[bS,fq,aE,b1]);refine h1 (qj s out i) (fun k=>s.length-k) (fun k=>i+1<=k/\k<=s.length/\∀c∈(s.drop (i+1)).take (k-(i+1)),o4 c=true) (i+1) (by simp[qj];exact⟨by simp[fresh,kinL,kin,bt,au,Pv.look,cX,eJ],cR (by simp[fresh,kinL,kin,bt,au,Pv.look,cX,eJ]),cS (by simp[fresh,kinL,kin,cB,au,Pv.look,cX,eJ]),Ψ⟩) ⟨cq _,bS,Ψ⟩ ?_;rintro k ⟨iq,gh,hC⟩ _;have iK:(∀c,s[k]? =some c->o4 c=false)->k<=s.length/\out++gV (s.drop k)=gV s/\out.length<=k:=by intro he;refine⟨gh,?_,Ω⟩;rw[<-(Fv iq gh hC he).2];exact hinv
  rcases iX gh with rfl|ir
  ·have cm:=iK fun c h=>by simp at h
   clear iK hC;simp[qj];(with_reducible repeat' first|refine aA ?_|simp);refine b9.whl (out,s.length) (by simp;omega) cm (by simp[mE];exact⟨by simp[fresh,kinL,kin,bt,au,Pv.look,cX,eJ],cR (by simp[fresh,kinL,kin,bt,au,Pv.look,cX,eJ]),cS (by simp[fresh,kinL,kin,cB,au,Pv.look,cX,eJ]),Ψ⟩)
  ·obtain⟨d,aF,hdi⟩:=hj ir;have kQ:aY ((k:Int)+1):=by unfold aY;omega
   by_cases fC:d=10
   ·subst fC;have cm:=iK fun c h=>by rw[aF]at h;cases h;rfl
    clear iK hC;simp[qj,ir,hdi,aF];(with_reducible repeat' first|refine aA ?_|simp[ir,hdi,aF]);refine b9.whl (out,k) (by simp;omega) cm (by simp[mE];exact⟨by simp[fresh,kinL,kin,bt,au,Pv.look,cX,eJ],cR (by simp[fresh,kinL,kin,bt,au,Pv.look,cX,eJ]),cS (by simp[fresh,kinL,kin,cB,au,Pv.look,cX,eJ]),Ψ⟩)
   ·have aK:((d.toNat:Int) !=10)=true:=wL (d:=10) fC;have fD:∀c∈(s.drop (i+1)).take (k+1-(i+1)),o4 c=true:=fun x af=>by
     rw[show k+1-(i+1)=(k-(i+1))+1 by omega,k3,k2,show i+1+(k-(i+1))=k by omega,aF]at af;rcases hv.1 af with af|af
     ·exact hC x af
     ·simp at af;subst af;simp[o4,fC]
    clear iK hC;simp[qj,ir,hdi,aF];(with_reducible repeat' first|refine aA ?_|simp[ir,hdi,aF,aK,kQ]);refine b9.whl (k+1) Ω ⟨Ω,ir,fD⟩ (by simp[qj];exact⟨by simp[fresh,kinL,kin,bt,au,Pv.look,cX,eJ],cR (by simp[fresh,kinL,kin,bt,au,Pv.look,cX,eJ]),cS (by simp[fresh,kinL,kin,cB,au,Pv.look,cX,eJ]),Ψ⟩)
 rw[bq rA]at hinv;have I7:((c.toNat:Int)==59)=false:=pa (d:=59) rA;have hle:(i:Int)<=i+1:=Ω
 have Bn:(i:Int)+1<=s.length:=Ω
 by_cases rO:c=40\/c=41
 ·rw[if_pos rO]at hinv;have s5:(s.take (i+1)).drop i=[c]:=by rw[List.drop_take,fi aE];simp
  rcases rO with rfl|rfl
  ·have mT:b6 aQ 172 [.int .u8 40] (.bool true):=Ad 40;simp[mE,bS,fq,aE];(with_reducible repeat' first|refine aA ?_|refine a8 mT ?_|refine ba mT ?_|simp[bS,fq,aE,b1,s5,hle,Bn,xB]);refine b9.whl (out++[[40]],i+1) (by simp;omega) ⟨bS,(by simpa using hinv),by simp;omega⟩ (by simp[mE,bZ];exact⟨by simp[fresh,kinL,kin,bt,au,Pv.look,cX,eJ],cR (by simp[fresh,kinL,kin,bt,au,Pv.look,cX,eJ]),cS (by simp[fresh,kinL,kin,cB,au,Pv.look,cX,eJ]),Ψ⟩)
  ·have mT:b6 aQ 172 [.int .u8 41] (.bool true):=Ad 41;simp[mE,bS,fq,aE];(with_reducible repeat' first|refine aA ?_|refine a8 mT ?_|refine ba mT ?_|simp[bS,fq,aE,b1,s5,hle,Bn,xB]);refine b9.whl (out++[[41]],i+1) (by simp;omega) ⟨bS,(by simpa using hinv),by simp;omega⟩ (by simp[mE,bZ];exact⟨by simp[fresh,kinL,kin,bt,au,Pv.look,cX,eJ],cR (by simp[fresh,kinL,kin,bt,au,Pv.look,cX,eJ]),cS (by simp[fresh,kinL,kin,cB,au,Pv.look,cX,eJ]),Ψ⟩)
 rw[bq rO]at hinv;have Bb:h3 c=true:=(ze c).2 ⟨lg,rA,rO⟩;have X0:nY c=false:=by simpa[h3]using Bb
 rw[X0]at mT;simp[mE,bS,fq,aE];(with_reducible repeat' first|refine aA ?_|refine a8 mT ?_|refine ba mT ?_|simp[bS,fq,aE,I7,b1]);refine h1 (qj s out i) (fun k=>s.length-k) (fun k=>i+1<=k/\k<=s.length/\∀c∈(s.drop (i+1)).take (k-(i+1)),h3 c=true) (i+1) (by simp[qj];exact⟨by simp[fresh,kinL,kin,bt,au,Pv.look,cX,eJ],cR (by simp[fresh,kinL,kin,bt,au,Pv.look,cX,eJ]),cS (by simp[fresh,kinL,kin,cB,au,Pv.look,cX,eJ]),Ψ⟩) ⟨cq _,bS,Ψ⟩ ?_;rintro k ⟨iq,gh,hC⟩ _;have iK:(∀c,s[k]? =some c->h3 c=false)->k<=s.length/\(out++[(s.take k).drop i])++gV (s.drop k)=gV s/\(out++[(s.take k).drop i]).length<=k:=by intro he;refine⟨gh,?_,by simp;omega⟩;obtain⟨aD,aF⟩:=Fv iq gh hC he;rw[aD,aF]at hinv;rw[List.drop_take,fi aE,show k-i=(k-(i+1))+1 from by omega,sB,kE];exact hinv
 have fe:(i:Int)<=k:=Ω
 have Bl:(k:Int)<=s.length:=Ω
 clear hinv mT;rcases iX gh with rfl|ir
 ·have cm:=iK fun c h=>by simp at h
  clear iK hC;simp[qj];(with_reducible repeat' first|refine aA ?_|simp[fe,Bl,xB]);refine b9.whl (out++[(s.take s.length).drop i],s.length) (by simp;omega) cm (by simp[mE,bZ];exact⟨by simp[fresh,kinL,kin,bt,au,Pv.look,cX,eJ],cR (by simp[fresh,kinL,kin,bt,au,Pv.look,cX,eJ]),cS (by simp[fresh,kinL,kin,cB,au,Pv.look,cX,eJ]),Ψ⟩)
 ·obtain⟨d,aF,hdi⟩:=hj ir;have kQ:aY ((k:Int)+1):=by unfold aY;omega
  have jH:=Ad d;cases hw:h3 d
  ·have Hg:nY d=true:=by simpa[h3]using hw
   rw[Hg]at jH;have cm:=iK fun c h=>by rw[aF]at h;cases h;exact hw
   clear iK hC;simp[qj,ir,hdi,aF];(with_reducible repeat' first|refine aA ?_|refine a8 jH ?_|refine ba jH ?_|simp[ir,hdi,aF,fe,Bl,xB]);refine b9.whl (out++[(s.take k).drop i],k) (by simp;omega) cm (by simp[mE,bZ];exact⟨by simp[fresh,kinL,kin,bt,au,Pv.look,cX,eJ],cR (by simp[fresh,kinL,kin,bt,au,Pv.look,cX,eJ]),cS (by simp[fresh,kinL,kin,cB,au,Pv.look,cX,eJ]),Ψ⟩)
  ·have Hg:nY d=false:=by simpa[h3]using hw
   rw[Hg]at jH;have fD:∀c∈(s.drop (i+1)).take (k+1-(i+1)),h3 c=true:=fun x af=>by
    rw[show k+1-(i+1)=(k-(i+1))+1 by omega,k3,k2,show i+1+(k-(i+1))=k by omega,aF]at af;rcases hv.1 af with af|af
    ·exact hC x af
    ·simp at af;subst af;exact hw
   clear iK hC;simp[qj,ir,hdi,aF];(with_reducible repeat' first|refine aA ?_|refine a8 jH ?_|refine ba jH ?_|simp[ir,hdi,aF,kQ]);refine b9.whl (k+1) Ω ⟨Ω,ir,fD⟩ (by simp[qj];exact⟨by simp[fresh,kinL,kin,bt,au,Pv.look,cX,eJ],cR (by simp[fresh,kinL,kin,bt,au,Pv.look,cX,eJ]),cS (by simp[fresh,kinL,kin,cB,au,Pv.look,cX,eJ]),Ψ⟩)
end
end Go.Proofs.YtlnndmgfngfeiaaGreatDoor
