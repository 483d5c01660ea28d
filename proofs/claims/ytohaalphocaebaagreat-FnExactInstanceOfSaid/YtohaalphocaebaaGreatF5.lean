/- From a contract to the row. -/
import Derived.Test.YtohaalphocaebaaGreatProg
import Derived.ProofKit
import Derived.Carry
import Derived.WalkKit
import Derived.Test.YtohaalphocaebaaGreatF4
set_option linter.all false
set_option maxHeartbeats 4000000
set_option maxRecDepth 4000
open Bool renaming and_eq_true->cC,eq_iff_iff->oG,false_eq_true->hl,or_eq_true->lH
open Go renaming TypeId->fZ
open Go.DataW renaming trod->ib
open Go.IntWalk renaming i64_in->pz
open Go.Op renaming bytesLess->hF
open Go.Proofs.Tryz renaming prog->ak
open Go.Value renaming cells->pB
open Int renaming natCast_nonneg->rN
open List renaming all_eq_true->ga,cons_append->bZ,drop->ng,drop_eq_getElem_cons->lI,getElem?_eq_getElem->cc,getElem?_eq_none->qO,getElem?_eq_some_iff->eP,getElem_of_mem->nY,length_cons->pD,length_drop->tc,map_append->rO,map_cons->gS,map_nil->nh,mem_append->kn,mem_cons->fA,mem_filter->nZ,mem_map->hB,mem_of_getElem?->dE,nil_append->b6,pairwise_cons->ni,pairwise_iff_getElem->qg,pairwise_map->td,replicate->rP,take->ko,take_length->jJ,take_of_length_le->hQ,take_succ->ma
open List.Pairwise renaming filter->aav
open List.cons renaming injEq->oJ
open Nat renaming le_refl->e7,le_trans->kB
open Option renaming getD_none->nk,getD_some->jA,isSome_none->mc,isSome_some->pE
open Option.some renaming inj->eQ,injEq->dQ
open _root_ renaming False->e1,Option->ba,UInt8->dM,beq_iff_eq->dV,decide_eq_false->hG,decide_eq_false_iff_not->fJ,decide_eq_true->gK,decide_eq_true_eq->fc
namespace Go.Proofs.YtohaalphocaebaaGreat
section
open Go Go.Pv
structure fs where
 v:Int
 t:cp
def fs.e(b:fs):ai:= .agg [.int .i64 b.v,.int .i64 b.t.kind,.int .i64 b.t.num,b.t.name.e,b.t.args.e 4 cp.e]
@[simp]theorem atz(S:aI->Prop)(b:fs):aD S b.e=True:=by simp[fs.e,aD,aH]
@[simp]theorem avl(b:fs):dt b.e=b.e:=by simp[fs.e,dt,c2]
theorem VV(S:aI->Prop):∀l:List fs,aH S (l.map fs.e)
 |[]=>by simp[aH]
 |x::xs=>by simp[aH,VV S xs]
@[simp]theorem ato(S:aI->Prop)(l:List fs):aH S (l.map fs.e)=True:=eq_true (VV S l)
@[simp]theorem auU(b:fs):eF b.e=true:=rfl
@[simp]theorem as7(b:fs):Pv.isAgg 5 b.e:=⟨_,rfl,rfl⟩
@[simp]theorem arK(b:fs):cells b.e=[.int .i64 b.v,.int .i64 b.t.kind,.int .i64 b.t.num,b.t.name.e,b.t.args.e 4 cp.e]:=rfl
structure hR where
 v:Int
 s:ho
def hR.e(b:hR):ai:= .agg [.int .i64 b.v,b.s.e]
@[simp]theorem atL(S:aI->Prop)(b:hR):aD S b.e=True:=by simp[hR.e,aD,aH]
@[simp]theorem avx(b:hR):dt b.e=b.e:=by simp[hR.e,dt,c2]
theorem V0(S:aI->Prop):∀l:List hR,aH S (l.map hR.e)
 |[]=>by simp[aH]
 |x::xs=>by simp[aH,V0 S xs]
@[simp]theorem att(S:aI->Prop)(l:List hR):aH S (l.map hR.e)=True:=eq_true (V0 S l)
@[simp]theorem ava(b:hR):eF b.e=true:=rfl
@[simp]theorem atc(b:hR):Pv.isAgg 2 b.e:=⟨_,rfl,rfl⟩
@[simp]theorem arZ(b:hR):cells b.e=[.int .i64 b.v,b.s.e]:=rfl
def sV(b:fs)(m:Int):Int:=h8 b.t m
theorem OJ(b:fs)(m:Int)(h:0<=m): -1<=sV b m/\sV b m<=m:=vW b.t m h
def l8(b:hR)(m:Int):Int:=if m-b.s.len<0 then-1 else m-b.s.len
theorem ER(b:hR)(m:Int)(h:0<=m): -1<=l8 b m/\l8 b m<=m:=by have:=b.s.len_nn;unfold l8;split<;>omega
theorem Fo(t:cp):ai.agg [.int .i64 t.kind,.int .i64 t.num,t.name.e,t.args.e 4 cp.e]=t.e:=(cp.e_eq t).symm
theorem aqP(b:fs)(hw:b.t.wf)(m:Int)(bs:0<=m)(J:m<=1048576):bF ak 213 [b.e,.int .i64 m] (.int .i64 (sV b m)):=by
 have key:=Z9 b.t hw m bs J;have hle:=vW b.t m bs;unfold sV;generalize h8 b.t m=q at key hle⊢;by_cases bm:q<0
 ·have:q= -1:=Ω
  subst this;refine be fP Ti W9 fun aK=>?_;unfold JN;simp[Fo];(with_reducible repeat' first|refine aj ?_|refine aF key ?_|refine aG key ?_|simp[Fo]);all_goals simp[bz,NI,aX,aY,aW]
 ·refine be fP Ti W9 fun aK=>?_;unfold JN;simp[Fo];(with_reducible repeat' first|refine aj ?_|refine aF key ?_|refine aG key ?_|simp[bm,Fo]);all_goals simp[bz,NI,aX,aY,aW]
theorem aqX(b:cX):bF ak 222 [b.e] b.e:=by have key:=aae b.t;refine be fP aeF alH fun aK=>?_;unfold Rl;exact bJ
theorem apX(b:cX):bF ak 226 [b.e,b.e] (.bool true):=by have key:=ZN b.t;refine be fP aeu alw fun aK=>?_;unfold Q9;exact bJ
theorem aqS(b:hR)(hw:b.s.wf)(m:Int)(bs:0<=m)(J:m<=1048576):bF ak 214 [b.e,.int .i64 m] (.int .i64 (l8 b m)):=by
 have kH:m-b.s.len<0->l8 b m= -1:=fun g=>if_pos g;have ij:¬m-b.s.len<0->l8 b m=m-b.s.len:=fun g=>if_neg g;generalize l8 b m=R at kH ij;obtain⟨v,s⟩:=b;simp only[hR.e]at hw kH ij⊢;cases s with
 |b x=>
  simp only[ho.wf,nb,lim]at hw;have g:m-x.size<0:=Ω
  have aV:=kH g;subst aV;clear kH ij;simp only[ho.e];refine be fP Kz Na fun aK=>?_;unfold FH;exact bJ
 |s l=>
  simp only[ho.e];by_cases g:m-l.length<0
  ·have aV:=kH g;subst aV;clear kH ij hw;refine be fP Kz Na fun aK=>?_;unfold FH;have eB:l.length<=68719476736:=by simp[ek,ec,eg,lim]at aK;omega
   exact bJ
  ·have aV:R=m-l.length:=ij g;subst aV;clear kH ij hw;refine be fP Kz Na fun aK=>?_;unfold FH;have eB:l.length<=68719476736:=by simp[ek,ec,eg,lim]at aK;omega
   exact bJ
theorem aq3(b:bQ):bF ak 223 [b.e] b.e:=by refine be fP aeN alP fun aK=>?_;unfold Rt;exact bJ
theorem aq0(b:bj):bF ak 224 [b.e] b.e:=by refine be fP aeI alK fun aK=>?_;unfold Ro;exact bJ
theorem ap3(b:bQ):bF ak 227 [b.e,b.e] (.bool true):=by refine be fP aeC alE fun aK=>?_;unfold Ri;exact bJ
theorem ap0(b:bj):bF ak 228 [b.e,b.e] (.bool true):=by refine be fP aex alz fun aK=>?_;unfold Rc;exact bJ
@[simp high] theorem auN(x y:bj):mZ x.e 0 [.int .i64 y.v,.str y.s]=y.e:=rfl
@[simp high] theorem auM(x y:bQ):mZ x.e 0 [.int .i64 y.v,.int .i64 y.k]=y.e:=rfl
theorem aqQ(l:c0 fs)(hw:∀p n cap,l= .b p n cap->nb n)(aJ:∀xs,l= .l xs->∀x∈xs,∀m,0<=m->m<=1048576->bF ak 213 [fs.e x,.int .i64 m] (.int .i64 (sV x m)))(m:Int)(bs:0<=m)(J:m<=1048576):bF ak 137 [l.e 5 fs.e,.int .i64 m] (.int .i64 (gQ sV l m)):=by
 cases l with
 |b p n cap=>
  have ax:=hw p n cap rfl;simp only[nb,lim]at ax;have g:m-n<0:=Ω
  simp only[c0.e,gQ];clear hw aJ;refine be fP Tj Xa fun aK=>?_;unfold JO;exact bJ
 |l l=>
 have aJ:=aJ l rfl;clear hw;simp only[c0.e,gQ];generalize aV:oB sV l m=R;unfold oB at aV;refine be fP Tj Xa fun aK=>?_;unfold JO;have eB:l.length<=68719476736:=by simp[ek,ec,eg,lim]at aK;omega
 simp;by_cases g:m-l.length<0
 ·rw[if_pos g]at aV;subst aV;exact bJ
 rw[if_neg g]at aV;(with_reducible repeat' first|refine aj ?_|simp[g]);refine du [0] (fun i (k:Int)=>[(1,.int .i64 k),(5,.int .i64 i)]) l.length (fun i k=>(0<=k/\k<=1048576)/\ki sV (l.drop i) k=R) (m-l.length) bL ⟨⟨Ω,Ω⟩,by simpa using aV⟩ (fun k ae _=>?_) (fun i k hi ae _=>?_)
 ·obtain⟨_,ae⟩:=ae;rw[List.drop_length]at ae;simp only[ki]at ae;subst ae;exact bJ
 ·obtain⟨⟨fv,aU⟩,ae⟩:=ae;obtain⟨x,af,cJ⟩:=dB hi;have key:=aJ x (dE af) k fv aU;have hle:=OJ x k fv;rw[tX af]at ae;simp only[ki]at ae;generalize sV x k=q at key hle ae;clear af;by_cases bm:q<0
  ·rw[if_pos bm]at ae;subst ae;exact bJ
  ·rw[if_neg bm]at ae;simp[hi,cJ];((with_reducible repeat' first|refine aj ?_|refine aF key ?_|refine aG key ?_|simp[hi,cJ,bm]|((first|apply bS|apply bW|apply bV)<;>intro h<;>try simp at h))<;>(try exact cy));all_goals exact bO.rng q hi ⟨⟨Ω,Ω⟩,ae⟩ bL
theorem aqY(l:List cX)(aJ:∀x∈l,bF ak 222 [cX.e x] (cX.e x)):bF ak 149 [.slice 5 .no (l.map cX.e)] (.slice 5 .no (l.map cX.e)):=by
 refine be fP aeG alI fun aK=>?_;unfold Rm;have eB:l.length<=68719476736:=by simp[ek,ec,eg,lim]at aK;omega
 simp;all_goals first|(refine⟨by unfold lim;omega,?_⟩)|skip
 (with_reducible repeat' first|refine aj ?_|simp);have fo:∀(S:aI->Prop) (n:Nat),aH S (rP n (.agg [.int .i64 0,.int .i64 0,.int .i64 0,.str [],.slice 4 .nil []]))=True:=fun S n=>eq_true (yW S _ (by simp[aD,aH]) n);refine gT (fun i (_:Unit)=>⟨[(0,.slice 5 .no (l.map cX.e)),(3,.row 5 (.loc 0) l.length),(4,.int .i64 i)],[],[(.loc 0,⟨l.length,61,5,some (iB cX.e (.agg [.int .i64 0,.int .i64 0,.int .i64 0,.str [],.slice 4 .nil []]) l i)⟩)],1,[]⟩) l.length (fun _ _=>True) () ⟨by simp[fresh,aH,aD,b7,inObs,Pv.look,pb,fo],ee (by simp[fresh,aH,aD,b7,inObs,Pv.look,pb,fo]),ef (by simp[fresh,aH,aD,dW,inObs,Pv.look,pb,fo]),Ψ⟩ trivial (fun _ _ _=>?_) (fun i _ hi _ _=>?_)
 ·rw[D0];exact bJ
 ·obtain⟨x,af,cJ⟩:=dB hi;have key:=aJ x (dE af);have al:=D1 cX.e (.agg [.int .i64 0,.int .i64 0,.int .i64 0,.str [],.slice 4 .nil []]) l hi;have aE:=D2 cX.e (.agg [.int .i64 0,.int .i64 0,.int .i64 0,.str [],.slice 4 .nil []]) l af;have bn:∀S:aI->Prop,aH S (iB cX.e (.agg [.int .i64 0,.int .i64 0,.int .i64 0,.str [],.slice 4 .nil []]) l (i+1)):=fun S=>DP S _ _ _ _ (fun x=>by simp) (by simp[aD,aH]);generalize iB cX.e (.agg [.int .i64 0,.int .i64 0,.int .i64 0,.str [],.slice 4 .nil []]) l i=r0 at al aE;generalize p0:iB cX.e (.agg [.int .i64 0,.int .i64 0,.int .i64 0,.str [],.slice 4 .nil []]) l (i+1)=dy at aE bn;clear af;simp[hi,cJ];(with_reducible repeat' first|refine aj ?_|refine aF key ?_|refine aG key ?_|simp[hi,cJ,al,aE]);all_goals refine bO.rng () hi trivial ?_
  all_goals rw[p0]
  all_goals first
   |exact⟨by simp[fresh,aH,aD,b7,inObs,Pv.look,bn],ee (by simp[fresh,aH,aD,b7,inObs,Pv.look,bn]),ef (by simp[fresh,aH,aD,dW,inObs,Pv.look,bn]),Ψ⟩
   |exact⟨by simp[fresh,aH,aD,b7,inObs,Pv.look,bn],ee (by simp[fresh,aH,aD,b7,inObs,Pv.look,bn]),ef (by simp[fresh,aH,aD,dW,inObs,Pv.look,bn];exact aE),Ψ⟩
theorem apY(l:List cX)(aJ:∀x∈l,bF ak 226 [cX.e x,cX.e x] (.bool true)):bF ak 156 [.slice 5 .no (l.map cX.e),.slice 5 .no (l.map cX.e)] (.bool true):=by
 refine be fP aev alx fun aK=>?_;unfold Ra;have eB:l.length<=68719476736:=by simp[ek,ec,eg,lim]at aK;omega
 simp;(with_reducible repeat' first|refine aj ?_|simp);refine du [0,1] (fun i (_:Unit)=>[(5,.int .i64 i)]) l.length (fun _ _=>True) () bL trivial (fun _ _ _=>?_) (fun i _ hi _ _=>?_)
 ·exact bJ
 ·obtain⟨x,af,cJ⟩:=dB hi;have key:=aJ x (dE af);clear af;exact fO
theorem aqT(l:c0 hR)(hw:∀p n cap,l= .b p n cap->nb n)(aJ:∀xs,l= .l xs->∀x∈xs,∀m,0<=m->m<=1048576->bF ak 214 [hR.e x,.int .i64 m] (.int .i64 (l8 x m)))(m:Int)(bs:0<=m)(J:m<=1048576):bF ak 140 [l.e 2 hR.e,.int .i64 m] (.int .i64 (gQ l8 l m)):=by
 cases l with
 |b p n cap=>
  have ax:=hw p n cap rfl;simp only[nb,lim]at ax;have g:m-n<0:=Ω
  simp only[c0.e,gQ];clear hw aJ;refine be fP Tl Xc fun aK=>?_;unfold JQ;exact bJ
 |l l=>
 have aJ:=aJ l rfl;clear hw;simp only[c0.e,gQ];generalize aV:oB l8 l m=R;unfold oB at aV;refine be fP Tl Xc fun aK=>?_;unfold JQ;have eB:l.length<=68719476736:=by simp[ek,ec,eg,lim]at aK;omega
 simp;by_cases g:m-l.length<0
 ·rw[if_pos g]at aV;subst aV;exact bJ
 rw[if_neg g]at aV;(with_reducible repeat' first|refine aj ?_|simp[g]);refine du [0] (fun i (k:Int)=>[(1,.int .i64 k),(5,.int .i64 i)]) l.length (fun i k=>(0<=k/\k<=1048576)/\ki l8 (l.drop i) k=R) (m-l.length) bL ⟨⟨Ω,Ω⟩,by simpa using aV⟩ (fun k ae _=>?_) (fun i k hi ae _=>?_)
 ·obtain⟨_,ae⟩:=ae;rw[List.drop_length]at ae;simp only[ki]at ae;subst ae;exact bJ
 ·obtain⟨⟨fv,aU⟩,ae⟩:=ae;obtain⟨x,af,cJ⟩:=dB hi;have key:=aJ x (dE af) k fv aU;have hle:=ER x k fv;rw[tX af]at ae;simp only[ki]at ae;generalize l8 x k=q at key hle ae;clear af;by_cases bm:q<0
  ·rw[if_pos bm]at ae;subst ae;exact bJ
  ·rw[if_neg bm]at ae;simp[hi,cJ];((with_reducible repeat' first|refine aj ?_|refine aF key ?_|refine aG key ?_|simp[hi,cJ,bm]|((first|apply bS|apply bW|apply bV)<;>intro h<;>try simp at h))<;>(try exact cy));all_goals exact bO.rng q hi ⟨⟨Ω,Ω⟩,ae⟩ bL
theorem aq1(l:List bj)(aJ:∀x∈l,bF ak 224 [bj.e x] (bj.e x)):bF ak 152 [.slice 2 .no (l.map bj.e)] (.slice 2 .no (l.map bj.e)):=by
 refine be fP aeJ alL fun aK=>?_;unfold Rp;have eB:l.length<=68719476736:=by simp[ek,ec,eg,lim]at aK;omega
 simp;all_goals first|(refine⟨by unfold lim;omega,?_⟩)|skip
 (with_reducible repeat' first|refine aj ?_|simp);have fo:∀(S:aI->Prop) (n:Nat),aH S (rP n ((⟨0,[]⟩:bj).e))=True:=fun S n=>eq_true (yW S _ (by simp[aD,aH]) n);refine gT (fun i (_:Unit)=>⟨[(0,.slice 2 .no (l.map bj.e)),(3,.row 2 (.loc 0) l.length),(4,.int .i64 i)],[],[(.loc 0,⟨l.length,106,2,some (iB bj.e ((⟨0,[]⟩:bj).e) l i)⟩)],1,[]⟩) l.length (fun _ _=>True) () ⟨by simp[fresh,aH,aD,b7,inObs,Pv.look,pb,fo],ee (by simp[fresh,aH,aD,b7,inObs,Pv.look,pb,fo]),ef (by simp[fresh,aH,aD,dW,inObs,Pv.look,pb,fo]),Ψ⟩ trivial (fun _ _ _=>?_) (fun i _ hi _ _=>?_)
 ·rw[D0];exact bJ
 ·obtain⟨x,af,cJ⟩:=dB hi;have key:=aJ x (dE af);have al:=D1 bj.e ((⟨0,[]⟩:bj).e) l hi;have aE:=D2 bj.e ((⟨0,[]⟩:bj).e) l af;have bn:∀S:aI->Prop,aH S (iB bj.e ((⟨0,[]⟩:bj).e) l (i+1)):=fun S=>DP S _ _ _ _ (fun x=>by simp) (by simp[aD,aH]);generalize iB bj.e ((⟨0,[]⟩:bj).e) l i=r0 at al aE;generalize p0:iB bj.e ((⟨0,[]⟩:bj).e) l (i+1)=dy at aE bn;clear af;simp[hi,cJ];(with_reducible repeat' first|refine aj ?_|refine aF key ?_|refine aG key ?_|simp[hi,cJ,al,aE,-mZ]);all_goals refine bO.rng () hi trivial ?_
  all_goals rw[p0]
  all_goals first
   |exact⟨by simp[fresh,aH,aD,b7,inObs,Pv.look,bn],ee (by simp[fresh,aH,aD,b7,inObs,Pv.look,bn]),ef (by simp[fresh,aH,aD,dW,inObs,Pv.look,bn]),Ψ⟩
   |exact⟨by simp[fresh,aH,aD,b7,inObs,Pv.look,bn],ee (by simp[fresh,aH,aD,b7,inObs,Pv.look,bn]),ef (by simp[fresh,aH,aD,dW,inObs,Pv.look,bn];exact aE),Ψ⟩
theorem ap1(l:List bj)(aJ:∀x∈l,bF ak 228 [bj.e x,bj.e x] (.bool true)):bF ak 159 [.slice 2 .no (l.map bj.e),.slice 2 .no (l.map bj.e)] (.bool true):=by
 refine be fP aey alA fun aK=>?_;unfold Re;have eB:l.length<=68719476736:=by simp[ek,ec,eg,lim]at aK;omega
 simp;(with_reducible repeat' first|refine aj ?_|simp);refine du [0,1] (fun i (_:Unit)=>[(5,.int .i64 i)]) l.length (fun _ _=>True) () bL trivial (fun _ _ _=>?_) (fun i _ hi _ _=>?_)
 ·exact bJ
 ·obtain⟨x,af,cJ⟩:=dB hi;have key:=aJ x (dE af);clear af;exact fO
theorem aq4(l:List bQ)(aJ:∀x∈l,bF ak 223 [bQ.e x] (bQ.e x)):bF ak 151 [.slice 2 .no (l.map bQ.e)] (.slice 2 .no (l.map bQ.e)):=by
 refine be fP aeO alQ fun aK=>?_;unfold Ru;have eB:l.length<=68719476736:=by simp[ek,ec,eg,lim]at aK;omega
 simp;all_goals first|(refine⟨by unfold lim;omega,?_⟩)|skip
 (with_reducible repeat' first|refine aj ?_|simp);have fo:∀(S:aI->Prop) (n:Nat),aH S (rP n ((⟨0,0⟩:bQ).e))=True:=fun S n=>eq_true (yW S _ (by simp[aD,aH]) n);refine gT (fun i (_:Unit)=>⟨[(0,.slice 2 .no (l.map bQ.e)),(3,.row 2 (.loc 0) l.length),(4,.int .i64 i)],[],[(.loc 0,⟨l.length,104,2,some (iB bQ.e ((⟨0,0⟩:bQ).e) l i)⟩)],1,[]⟩) l.length (fun _ _=>True) () ⟨by simp[fresh,aH,aD,b7,inObs,Pv.look,pb,fo],ee (by simp[fresh,aH,aD,b7,inObs,Pv.look,pb,fo]),ef (by simp[fresh,aH,aD,dW,inObs,Pv.look,pb,fo]),Ψ⟩ trivial (fun _ _ _=>?_) (fun i _ hi _ _=>?_)
 ·rw[D0];exact bJ
 ·obtain⟨x,af,cJ⟩:=dB hi;have key:=aJ x (dE af);have al:=D1 bQ.e ((⟨0,0⟩:bQ).e) l hi;have aE:=D2 bQ.e ((⟨0,0⟩:bQ).e) l af;have bn:∀S:aI->Prop,aH S (iB bQ.e ((⟨0,0⟩:bQ).e) l (i+1)):=fun S=>DP S _ _ _ _ (fun x=>by simp) (by simp[aD,aH]);generalize iB bQ.e ((⟨0,0⟩:bQ).e) l i=r0 at al aE;generalize p0:iB bQ.e ((⟨0,0⟩:bQ).e) l (i+1)=dy at aE bn;clear af;simp[hi,cJ];(with_reducible repeat' first|refine aj ?_|refine aF key ?_|refine aG key ?_|simp[hi,cJ,al,aE,-mZ]);all_goals refine bO.rng () hi trivial ?_
  all_goals rw[p0]
  all_goals first
   |exact⟨by simp[fresh,aH,aD,b7,inObs,Pv.look,bn],ee (by simp[fresh,aH,aD,b7,inObs,Pv.look,bn]),ef (by simp[fresh,aH,aD,dW,inObs,Pv.look,bn]),Ψ⟩
   |exact⟨by simp[fresh,aH,aD,b7,inObs,Pv.look,bn],ee (by simp[fresh,aH,aD,b7,inObs,Pv.look,bn]),ef (by simp[fresh,aH,aD,dW,inObs,Pv.look,bn];exact aE),Ψ⟩
theorem ap4(l:List bQ)(aJ:∀x∈l,bF ak 227 [bQ.e x,bQ.e x] (.bool true)):bF ak 158 [.slice 2 .no (l.map bQ.e),.slice 2 .no (l.map bQ.e)] (.bool true):=by
 refine be fP aeD alF fun aK=>?_;unfold Rj;have eB:l.length<=68719476736:=by simp[ek,ec,eg,lim]at aK;omega
 simp;(with_reducible repeat' first|refine aj ?_|simp);refine du [0,1] (fun i (_:Unit)=>[(5,.int .i64 i)]) l.length (fun _ _=>True) () bL trivial (fun _ _ _=>?_) (fun i _ hi _ _=>?_)
 ·exact bJ
 ·obtain⟨x,af,cJ⟩:=dB hi;have key:=aJ x (dE af);clear af;exact fO
def pk:c0 bQ->Int->Int
 | .l l,m=>if m-l.length<0 then-1 else m-l.length
 | .b _ _ _,_=> -1
theorem OK(l:c0 bQ)(m:Int)(h:0<=m): -1<=pk l m/\pk l m<=m:=by
 cases l with
 |l l=>simp only[pk];split<;>omega
 |b=>simp only[pk];omega
theorem aqV(l:c0 bQ)(hw:∀p n cap,l= .b p n cap->nb n)(m:Int)(bs:0<=m)(J:m<=1048576):bF ak 139 [l.e 2 bQ.e,.int .i64 m] (.int .i64 (pk l m)):=by
 cases l with
 |b p n cap=>
  have ax:=hw p n cap rfl;simp only[nb,lim]at ax;have g:m-n<0:=Ω
  simp only[c0.e,pk];clear hw;refine be fP KA Nb fun aK=>?_;unfold FI;exact bJ
 |l l=>
  simp only[c0.e,pk];clear hw;by_cases g:m-l.length<0
  ·rw[if_pos g];refine be fP KA Nb fun aK=>?_;unfold FI;have eB:l.length<=68719476736:=by simp[ek,ec,eg,lim]at aK;omega
   exact bJ
  ·rw[if_neg g];refine be fP KA Nb fun aK=>?_;unfold FI;have eB:l.length<=68719476736:=by simp[ek,ec,eg,lim]at aK;omega
   exact bJ
def ks(d:c0 fs):ai:=d.e 5 fs.e
@[simp]theorem atC(S:aI->Prop)(d:c0 fs):aD S (ks d)=True:=by cases d<;>simp[ks,c0.e,aD]
@[simp]theorem avo(d:c0 fs):dt (ks d)=ks d:=by
 cases d with
 |l l=>
  have:∀l:List fs,c2 (l.map fs.e)=l.map fs.e:=by
   intro l;induction l with
   |nil=>rfl
   |cons x l bR=>simp[c2,bR]
  simp[ks,c0.e,dt,this]
 |b=>simp[ks,c0.e,dt]
theorem V3(S:aI->Prop):∀l:List (c0 fs),aH S (l.map ks)
 |[]=>by simp[aH]
 |x::xs=>by simp[aH,V3 S xs]
@[simp]theorem atv(S:aI->Prop)(l:List (c0 fs)):aH S (l.map ks)=True:=eq_true (V3 S l)
@[simp]theorem au0(d:c0 fs):eF (ks d)=true:=by cases d<;>rfl
@[simp]theorem arO(d:c0 fs):cells (ks d)=[ks d]:=by cases d<;>rfl
def im(d:c0 fs)(m:Int):Int:=gQ sV d m
theorem xB(d:c0 fs)(m:Int)(h:0<=m): -1<=im d m/\im d m<=m:=uo OJ d m h
def xM(d:c0 fs):Prop:=d.wf fun b=>b.t.wf
@[simp]theorem ao8:∀l:List (List cX),c2 (l.map gg)=l.map gg
 |[]=>rfl
 |x::xs=>by simp[c2,ao8 xs]
theorem Z8(d:c0 fs)(hw:xM d)(m:Int)(bs:0<=m)(J:m<=1048576):bF ak 137 [ks d,.int .i64 m] (.int .i64 (im d m)):=aqQ d (fun p n c e=>by subst e;exact hw) (fun xs e x af m bs J=>by subst e;exact aqP x (hw x af) m bs J) m bs J
theorem aad(d:List cX):bF ak 149 [gg d] (gg d):=aqY d fun x _=>aqX x
theorem ZM(d:List cX):bF ak 156 [gg d,gg d] (.bool true):=apY d fun x _=>apX x
theorem aqR(l:c0 (c0 fs))(hw:∀p n cap,l= .b p n cap->nb n)(aJ:∀xs,l= .l xs->∀x∈xs,∀m,0<=m->m<=1048576->bF ak 137 [ks x,.int .i64 m] (.int .i64 (im x m)))(m:Int)(bs:0<=m)(J:m<=1048576):bF ak 138 [l.e 1 ks,.int .i64 m] (.int .i64 (gQ im l m)):=by
 cases l with
 |b p n cap=>
  have ax:=hw p n cap rfl;simp only[nb,lim]at ax;have g:m-n<0:=Ω
  simp only[c0.e,gQ];clear hw aJ;refine be fP Tk Xb fun aK=>?_;unfold JP;exact bJ
 |l l=>
 have aJ:=aJ l rfl;clear hw;simp only[c0.e,gQ];generalize aV:oB im l m=R;unfold oB at aV;refine be fP Tk Xb fun aK=>?_;unfold JP;have eB:l.length<=68719476736:=by simp[ek,ec,eg,lim]at aK;omega
 simp;by_cases g:m-l.length<0
 ·rw[if_pos g]at aV;subst aV;exact bJ
 rw[if_neg g]at aV;(with_reducible repeat' first|refine aj ?_|simp[g]);refine du [0] (fun i (k:Int)=>[(1,.int .i64 k),(5,.int .i64 i)]) l.length (fun i k=>(0<=k/\k<=1048576)/\ki im (l.drop i) k=R) (m-l.length) bL ⟨⟨Ω,Ω⟩,by simpa using aV⟩ (fun k ae _=>?_) (fun i k hi ae _=>?_)
 ·obtain⟨_,ae⟩:=ae;rw[List.drop_length]at ae;simp only[ki]at ae;subst ae;exact bJ
 ·obtain⟨⟨fv,aU⟩,ae⟩:=ae;obtain⟨x,af,cJ⟩:=dB hi;have key:=aJ x (dE af) k fv aU;have hle:=xB x k fv;rw[tX af]at ae;simp only[ki]at ae;generalize im x k=q at key hle ae;clear af;by_cases bm:q<0
  ·rw[if_pos bm]at ae;subst ae;exact bJ
  ·rw[if_neg bm]at ae;simp[hi,cJ];((with_reducible repeat' first|refine aj ?_|refine aF key ?_|refine aG key ?_|simp[hi,cJ,bm]|((first|apply bS|apply bW|apply bV)<;>intro h<;>try simp at h))<;>(try exact cy));all_goals exact bO.rng q hi ⟨⟨Ω,Ω⟩,ae⟩ bL
theorem aqZ(l:List (List cX))(aJ:∀x∈l,bF ak 149 [gg x] (gg x)):bF ak 150 [.slice 1 .no (l.map gg)] (.slice 1 .no (l.map gg)):=by
 refine be fP aeH alJ fun aK=>?_;unfold Rn;have eB:l.length<=68719476736:=by simp[ek,ec,eg,lim]at aK;omega
 simp;all_goals first|(refine⟨by unfold lim;omega,?_⟩)|skip
 (with_reducible repeat' first|refine aj ?_|simp);have fo:∀(S:aI->Prop) (n:Nat),aH S (rP n (.slice 5 .nil []))=True:=fun S n=>eq_true (yW S _ (by simp[aD,aH]) n);refine gT (fun i (_:Unit)=>⟨[(0,.slice 1 .no (l.map gg)),(3,.row 1 (.loc 0) l.length),(4,.int .i64 i)],[],[(.loc 0,⟨l.length,23,1,some (iB gg (.slice 5 .nil []) l i)⟩)],1,[]⟩) l.length (fun _ _=>True) () ⟨by simp[fresh,aH,aD,b7,inObs,Pv.look,pb,fo],ee (by simp[fresh,aH,aD,b7,inObs,Pv.look,pb,fo]),ef (by simp[fresh,aH,aD,dW,inObs,Pv.look,pb,fo]),Ψ⟩ trivial (fun _ _ _=>?_) (fun i _ hi _ _=>?_)
 ·rw[D0];exact bJ
 ·obtain⟨x,af,cJ⟩:=dB hi;have key:=aJ x (dE af);have al:=D1 gg (.slice 5 .nil []) l hi;have aE:=D2 gg (.slice 5 .nil []) l af;have bn:∀S:aI->Prop,aH S (iB gg (.slice 5 .nil []) l (i+1)):=fun S=>DP S _ _ _ _ (fun x=>by simp) (by simp[aD,aH]);generalize iB gg (.slice 5 .nil []) l i=r0 at al aE;generalize p0:iB gg (.slice 5 .nil []) l (i+1)=dy at aE bn;clear af;simp[hi,cJ];(with_reducible repeat' first|refine aj ?_|refine aF key ?_|refine aG key ?_|simp[hi,cJ,al,aE]);all_goals refine bO.rng () hi trivial ?_
  all_goals rw[p0]
  all_goals first
   |exact⟨by simp[fresh,aH,aD,b7,inObs,Pv.look,bn],ee (by simp[fresh,aH,aD,b7,inObs,Pv.look,bn]),ef (by simp[fresh,aH,aD,dW,inObs,Pv.look,bn]),Ψ⟩
   |exact⟨by simp[fresh,aH,aD,b7,inObs,Pv.look,bn],ee (by simp[fresh,aH,aD,b7,inObs,Pv.look,bn]),ef (by simp[fresh,aH,aD,dW,inObs,Pv.look,bn];exact aE),Ψ⟩
theorem apZ(l:List (List cX))(aJ:∀x∈l,bF ak 156 [gg x,gg x] (.bool true)):bF ak 157 [.slice 1 .no (l.map gg),.slice 1 .no (l.map gg)] (.bool true):=by
 refine be fP aew aly fun aK=>?_;unfold Rb;have eB:l.length<=68719476736:=by simp[ek,ec,eg,lim]at aK;omega
 simp;(with_reducible repeat' first|refine aj ?_|simp);refine du [0,1] (fun i (_:Unit)=>[(5,.int .i64 i)]) l.length (fun _ _=>True) () bL trivial (fun _ _ _=>?_) (fun i _ hi _ _=>?_)
 ·exact bJ
 ·obtain⟨x,af,cJ⟩:=dB hi;have key:=aJ x (dE af);clear af;exact fO
def FN:C:=(aa [cO 3 1,c9 4 dj] (.seq (aa [aC 7 0 1 3,av 8 1 7,aT 9 .eql 8 1] (aS 9 (aa [I 11 0,aC 12 1 1 3,av 13 1 12,bY 14 161 11 13,I 10 14,cD 15 0 10,cD 16 1 10,c9 5 dj,bM 4 5 15,I 6 16] (aa [I 17 6] (aS 17 (aa [a1 18 4 5,bM 4 4 18] .ret) .skip))) .skip)) (.seq (aa [aC 19 0 1 3,av 20 1 19,aT 21 .eql 20 4] (aS 21 (.seq (.drawn true 36 [I 22 0,aC 23 3 1 3,av 24 1 23,iO 25 4 24 0,a1 26 4 25,bY 27 75 22 26,I 28 0,aC 29 3 1 3,av 30 1 29,iO 31 4 30 1,a1 32 4 31,bY 33 75 28 32,bY 34 114 27 33,bM 4 4 34]) .ret) .skip)) (aa [a1 35 4 3,bM 4 4 35] .ret))))
@[simp] def H8:List bN:=[.cell 4 true 4]
def RX:C:=(aa [cO 1 0,a8 2 false] (aa [a1 3 4 1,dL 4 162 [.t 3,(gI 5000)],aT 5 .leq 4 5000,I 6 5,ao 6 true (a1 7 4 1),ao 6 true (cE 8 163 7),dx 9 6 8,I 2 9] .ret))
@[simp] def an4:List bN:=[.tmp 2]
def R4:C:=(aa [cO 1 0,a8 2 false] (aa [a1 3 4 1,dL 4 162 [.t 3,(gI 5000)],aT 5 .leq 4 5000,I 2 5] .ret))
@[simp] def Yj:List bN:=[.tmp 2]
def RZ:C:=(aa [a8 6 false] (aa [I 7 0,I 8 1,bh 9 .geq 7 8,I 10 9,b4 10 true 11 0,b4 10 true 12 2,ao 10 true (bh 13 .leq 11 12),dx 14 10 13,I 6 14] .ret))
@[simp] def Yi:List bN:=[.tmp 6]
def J0:C:=(aa [a8 2 false] (.seq (aa [I 9 0,cE 10 164 9,cn 11 10] (aS 11 (aa [a8 2 false] .ret) .skip)) (.seq (aa [I 12 0,b2 13 12,bP 14 0] (eH 15 14 13 (.seq (.block 1 (aa [b9 16 5 12 14,a1 17 5 16,c9 4 iA,bM 5 4 17] (.seq (aa [fi 18 1 4 4,aC 19 0 1 18,av 20 1 19,aT 21 .eql 20 1,I 22 21,ao 22 true (fi 23 1 4 4),ao 22 true (aC 24 1 1 23),ao 22 true (av 25 1 24),ao 22 true (aC 26 0 1 4),ao 22 true (av 27 1 26),ao 22 true (bh 28 .geq 25 27),dx 29 22 28] (aS 29 (aa [a8 2 false] .ret) .skip)) (aa [fi 30 1 4 4,a1 31 4 30,dL 32 165 [.t 31,(.c (.slice 1 .nil []))],b2 33 32,bP 34 0] (.block 2 (.loop (aa [bh 35 .lss 34 33] (.seq (aS 35 .skip (.exit 2)) (.seq (.block 3 (aa [b9 36 1 32 34,av 37 1 36,I 6 37] (aa [I 39 0,I 40 6,bY 41 161 39 40,I 38 41,cD 42 0 38,cD 43 1 38,c9 7 dj,bM 4 7 42,I 8 43] (aa [I 44 8] (aS 44 (aa [a8 2 false] .ret) .skip))))) (.region [aT 45 .add 34 1,I 34 45])))))))))) (.region [aT 46 .add 14 1,I 14 46])))) (aa [a8 2 true] .ret))))
@[simp] def NN:List bN:=[.tmp 2]
def Sd:C:=(aa [c9 4 dj,a8 5 false] (.seq (aa [I 8 0,b2 9 8,bP 10 0] (eH 11 10 9 (.seq (.block 1 (aa [b9 12 5 8 10,a1 13 5 12,c9 7 iA,bM 5 7 13] (aa [aC 14 0 1 7,av 15 1 14,I 16 1,bh 17 .eql 15 16] (aS 17 (aa [fi 18 1 4 7,a1 19 4 18,bM 4 4 19,a8 5 true] .ret) .skip)))) (.region [aT 20 .add 10 1,I 10 20])))) (aa [j5 21 dj [],bM 4 4 21,a8 5 false] .ret)))
@[simp] def NR:List bN:=[.cell 4 true 4,.tmp 5]
def R3:C:=(aa [cO 2 0,bP 4 0] (aa [bP 5 1] (.seq (aa [aC 8 3 1 2,av 9 1 8,b2 10 9,bP 11 0] (eH 12 11 10 (.seq (.block 1 (aa [b9 13 4 9 11,a1 14 4 13,c9 7 dj,bM 4 7 14] (.seq (aa [I 15 5,I 16 1,bh 17 .gtr 15 16] (aS 17 (aa [I 18 5,I 4 18] .ret) .skip)) (.region [I 19 5,a1 20 4 7,I 21 1,I 22 5,bh 23 .sub 21 22,bY 24 162 20 23,bh 25 .add 19 24,I 5 25])))) (.region [aT 26 .add 11 1,I 11 26])))) (aa [I 27 5,I 4 27] .ret))))
@[simp] def NO:List bN:=[.tmp 4]
def mg:C:=(aa [cO 1 0,a8 2 false] (.seq (aa [aC 3 0 1 1,av 4 1 3,aT 5 .neq 4 1,I 6 5,ao 6 true (aC 7 0 1 1),ao 6 true (av 8 1 7),ao 6 true (aT 9 .neq 8 3),dx 10 6 9,I 11 10,ao 11 true (aC 12 1 1 1),ao 11 true (av 13 1 12),ao 11 true (aT 14 .neq 13 0),dx 15 11 14,I 16 15,ao 16 false (aC 17 0 1 1),ao 16 false (av 18 1 17),ao 16 false (aT 19 .neq 18 2),b4 16 false 20 19,ao 20 true (aC 21 2 1 1),ao 20 true (av 22 1 21),xN 20 true 23 (.bin .neq false (.t 22) (.c (.str []))),ao 16 false (dx 24 20 23),cZ 25 16 24,I 26 25,ao 26 false (aC 27 0 1 1),ao 26 false (av 28 1 27),ao 26 false (aT 29 .neq 28 4),b4 26 false 30 29,ao 30 true (aC 31 3 1 1),ao 30 true (av 32 1 31),ao 30 true (b2 33 32),ao 30 true (aT 34 .gtr 33 0),ao 26 false (dx 35 30 34),cZ 36 26 35] (aS 36 (aa [a8 2 false] .ret) .skip)) (.seq (aa [aC 37 0 1 1,av 38 1 37] (.block 0 (aa [aT 40 .eql 38 0,I 39 40] (aS 39 (aa [a8 2 true] .ret) (aa [aT 42 .eql 38 1,I 41 42] (aS 41 (aa [aC 43 1 1 1,av 44 1 43,dL 45 141 [.t 44,(gI 0),(gI 100000)],I 2 45] .ret) (aa [aT 47 .eql 38 2,I 46 47] (aS 46 (aa [aC 48 2 1 1,av 49 1 48,cE 50 216 49,I 2 50] .ret) (aa [aT 52 .eql 38 3,I 51 52] (aS 51 (aa [aC 53 1 1 1,av 54 1 53,dL 55 141 [.t 54,(gI (-1000000000)),(gI 1000000000)],I 2 55] .ret) (aa [aT 57 .eql 38 4,I 56 57] (aS 56 (aa [aC 58 3 1 1,av 59 1 58,b2 60 59,aT 61 .eql 60 2,I 62 61,ao 62 true (aC 63 3 1 1),ao 62 true (av 64 1 63),ao 62 true (iO 65 4 64 0),ao 62 true (a1 66 4 65),ao 62 true (cE 67 163 66),dx 68 62 67,I 69 68,ao 69 true (aC 70 3 1 1),ao 69 true (av 71 1 70),ao 69 true (iO 72 4 71 1),ao 69 true (a1 73 4 72),ao 69 true (cE 74 163 73),dx 75 69 74,I 2 75] .ret) .skip)))))))))))) (aa [a8 2 false] .ret))))
@[simp] def l6:List bN:=[.tmp 2]
def Sf:C:=(aa [a8 2 false] (.seq (aa [I 5 0,b2 6 5,bP 7 0] (eH 8 7 6 (.seq (.block 1 (aa [I 9 7,b9 10 5 5 7,a1 11 5 10,c9 4 iA,I 3 9,bM 5 4 11] (.seq (.drawn true 41 [I 12 3,aT 13 .gtr 12 0,I 14 13,b4 14 true 15 0,b4 14 true 16 3,ao 14 true (aT 17 .sub 16 1),ao 14 true (b9 18 5 15 17),ao 14 true (aC 19 0 1 18),ao 14 true (av 20 1 19),ao 14 true (aC 21 0 1 4),ao 14 true (av 22 1 21),ao 14 true (bh 23 .geq 20 22),dx 24 14 23,I 25 24,ao 25 false (aC 26 0 1 4),ao 25 false (av 27 1 26),ao 25 false (dL 28 141 [.t 27,(gI 0),(gI 100000)]),ao 25 false (cn 29 28),cZ 30 25 29,I 31 30,ao 31 false (fi 32 1 4 4),ao 31 false (a1 33 4 32),ao 31 false (cE 34 76 33),ao 31 false (cn 35 34),cZ 36 31 35]) (aS 36 (aa [a8 2 false] .ret) .skip)))) (.region [aT 37 .add 7 1,I 7 37])))) (aa [I 38 0,b2 39 38,aT 40 .leq 39 400,I 2 40] .ret)))
@[simp] def NT:List bN:=[.tmp 2]
def z7:C:=(aa [cO 2 0,ep 4 1] (.seq (aa [aC 7 0 1 2,av 8 1 7,aT 9 .eql 8 1] (aS 9 (aa [I 10 1,aC 11 1 1 2,av 12 1 11,bY 13 230 10 12,I 4 13] .ret) .skip)) (.seq (aa [aC 14 3 1 2,av 15 1 14,b2 16 15,bP 17 0] (eH 18 17 16 (.seq (.block 1 (aa [b9 19 4 15 17,a1 20 4 19,c9 6 dj,bM 4 6 20] (.region [a1 21 4 6,I 22 1,bY 23 165 21 22,I 1 23]))) (.region [aT 24 .add 17 1,I 17 24])))) (aa [I 25 1,I 4 25] .ret))))
@[simp] def BN:List bN:=[.tmp 4]
def Sc:C:=(aa [cO 3 1,c9 4 dj,a8 5 false] (aa [I 7 0,a1 8 4 3,bY 9 75 7 8,c9 6 dj,bM 4 6 9] (.seq (.drawn true 13 [a1 10 4 6,a1 11 4 6,cE 12 92 11,bM 4 4 10,I 5 12]) .ret)))
@[simp] def Yn:List bN:=[.cell 4 true 4,.tmp 5]
def tq:C:=(aa [cO 4 1,cO 5 2,ep 6 5,a8 7 false] (aa [I 12 0,a1 13 4 4,bY 14 236 12 13,bM 4 4 14] (aa [I 15 0,a1 16 4 5,bY 17 236 15 16,bM 4 5 17] (.seq (aa [aC 18 0 1 4,av 19 1 18,aT 20 .eql 19 1,I 21 20,ao 21 true (aC 22 0 1 5),ao 21 true (av 23 1 22),ao 21 true (aT 24 .eql 23 1),dx 25 21 24,I 26 25,ao 26 true (aC 27 1 1 4),ao 26 true (av 28 1 27),ao 26 true (aC 29 1 1 5),ao 26 true (av 30 1 29),ao 26 true (bh 31 .lss 28 30),dx 32 26 31] (aS 32 (aa [I 33 0,aC 34 1 1 5,av 35 1 34,a1 36 4 4,dL 37 237 [.t 33,.t 35,.t 36],cD 38 0 37,cD 39 1 37,I 6 38,I 7 39] .ret) .skip)) (.seq (aa [aC 40 0 1 4,av 41 1 40,aT 42 .eql 41 1,I 43 42,ao 43 true (aC 44 0 1 5),ao 43 true (av 45 1 44),ao 43 true (aT 46 .eql 45 1),dx 47 43 46,I 48 47,ao 48 true (aC 49 1 1 4),ao 48 true (av 50 1 49),ao 48 true (aC 51 1 1 5),ao 48 true (av 52 1 51),ao 48 true (bh 53 .eql 50 52),dx 54 48 53] (aS 54 (aa [I 55 0,I 6 55,a8 7 true] .ret) .skip)) (.seq (aa [aC 56 0 1 4,av 57 1 56,aT 58 .eql 57 1] (aS 58 (aa [I 59 0,aC 60 1 1 4,av 61 1 60,a1 62 4 5,dL 63 237 [.t 59,.t 61,.t 62],cD 64 0 63,cD 65 1 63,I 6 64,I 7 65] .ret) .skip)) (.seq (aa [aC 66 0 1 5,av 67 1 66,aT 68 .eql 67 1] (aS 68 (aa [I 69 0,aC 70 1 1 5,av 71 1 70,a1 72 4 4,dL 73 237 [.t 69,.t 71,.t 72],cD 74 0 73,cD 75 1 73,I 6 74,I 7 75] .ret) .skip)) (.seq (aa [aC 76 0 1 4,av 77 1 76,aC 78 0 1 5,av 79 1 78,bh 80 .neq 77 79,I 81 80,ao 81 false (aC 82 1 1 4),ao 81 false (av 83 1 82),ao 81 false (aC 84 1 1 5),ao 81 false (av 85 1 84),ao 81 false (bh 86 .neq 83 85),cZ 87 81 86,I 88 87,ao 88 false (aC 89 2 1 4),ao 88 false (av 90 1 89),ao 88 false (aC 91 2 1 5),ao 88 false (av 92 1 91),ao 88 false (bh 93 .neq 90 92),cZ 94 88 93] (aS 94 (aa [ep 6 5,a8 7 false] .ret) .skip)) (.seq (aa [aC 95 3 1 4,av 96 1 95,b2 97 96,bP 98 0] (eH 99 98 97 (.seq (.block 1 (aa [I 100 98,b9 101 4 96 98,a1 102 4 101,c9 9 dj,I 8 100,bM 4 9 102] (.seq (.drawn true 119 [I 104 0,a1 105 4 9,aC 106 3 1 5,av 107 1 106,I 108 8,b9 109 4 107 108,a1 110 4 109,dL 111 176 [.t 104,.t 105,.t 110],I 103 111,cD 112 0 103,cD 113 1 103,I 10 112,I 11 113]) (.seq (aa [I 114 11,cn 115 114] (aS 115 (aa [ep 6 5,a8 7 false] .ret) .skip)) (.region [I 116 10,I 0 116]))))) (.region [aT 117 .add 98 1,I 98 117])))) (aa [I 118 0,I 6 118,a8 7 true] .ret))))))))))
@[simp] def sP:List bN:=[.tmp 6,.tmp 7]
def RS:C:=(aa [a8 2 false] (.seq (aa [bP 3 0] (.block 0 (.loop (.seq (aa [I 5 3,I 6 0,b5 7 (.slen (.t 6)),bh 8 .lss 5 7] (aS 8 .skip (.exit 0))) (.seq (.block 1 (aa [I 11 0,I 12 3,b5 13 (.sidx (.t 11) (.t 12)),b5 14 (.bin .geq false (.t 13) (.c (.int .u8 97))),I 15 14,b4 15 true 16 0,b4 15 true 17 3,ao 15 true (b5 18 (.sidx (.t 16) (.t 17))),ao 15 true (b5 19 (.bin .leq false (.t 18) (.c (.int .u8 122)))),dx 20 15 19,I 4 20] (aa [I 21 4,cn 22 21,I 23 22,b4 23 true 24 3,ao 23 true (aT 25 .eql 24 0),b4 23 true 26 25,b4 26 false 27 0,b4 26 false 28 3,ao 26 false (b5 29 (.sidx (.t 27) (.t 28))),ao 26 false (b5 30 (.bin .neq false (.t 29) (.c (.int .u8 45)))),b4 26 false 31 30,b4 31 true 32 0,b4 31 true 33 3,ao 31 true (b5 34 (.sidx (.t 32) (.t 33))),ao 31 true (b5 35 (.conv .i64 (.t 34))),ao 31 true (dL 36 141 [.t 35,(gI 48),(gI 57)]),ao 31 true (cn 37 36),ao 26 false (dx 38 31 37),ao 23 true (cZ 39 26 38),dx 40 23 39] (aS 40 (aa [a8 2 false] .ret) .skip)))) (.region [I 9 3,aT 10 .add 9 1,I 3 10])))))) (aa [I 41 0,b5 42 (.slen (.t 41)),dL 43 141 [.t 42,(gI 1),(gI 12)],I 2 43] .ret)))
@[simp] def BK:List bN:=[.tmp 2]
def Sh:C:=(aa [ep 4 5,a8 5 false] (aa [fj 10 4 32 [],I 6 10] (aa [fj 11 4 32 [],I 7 11] (.seq (aa [I 12 1,b2 13 12,bP 14 0] (eH 15 14 13 (.seq (.block 1 (aa [b9 16 5 12 14,a1 17 5 16,c9 9 iA,bM 5 9 17] (aa [I 18 6,aC 19 0 1 9,av 20 1 19,cE 21 91 20,fj 22 4 32 [.t 21],iP 23 4 32 18 22,I 6 23] (.region [I 24 7,fi 25 1 4 9,a1 26 4 25,fj 27 4 32 [.t 26],iP 28 4 32 24 27,I 7 28])))) (.region [aT 29 .add 14 1,I 14 29])))) (aa [I 30 0,I 31 6,I 32 7,dL 33 268 [.t 30,.t 31,.t 32],cD 34 0 33,cD 35 1 33,I 4 34,I 5 35] .ret)))))
@[simp] def Yo:List bN:=[.tmp 4,.tmp 5]
def R6:C:=(aa [ep 4 1] (aa [I 7 0,b2 8 7,I 5 8] (.seq (.block 0 (.loop (.seq (aa [I 9 5,aT 10 .gtr 9 0,I 11 10,b4 11 true 12 0,b4 11 true 13 5,ao 11 true (aT 14 .sub 13 1),ao 11 true (b9 15 1 12 14),ao 11 true (av 16 1 15),b4 11 true 17 1,ao 11 true (bh 18 .geq 16 17),dx 19 11 18] (aS 19 .skip (.exit 0))) (.block 1 (.region [I 20 5,aT 21 .sub 20 1,I 5 21]))))) (.seq (aa [I 22 5,I 23 0,b2 24 23,bh 25 .lss 22 24,I 26 25,b4 26 true 27 0,b4 26 true 28 5,ao 26 true (b9 29 1 27 28),ao 26 true (av 30 1 29),b4 26 true 31 1,ao 26 true (bh 32 .eql 30 31),dx 33 26 32] (aS 33 (aa [I 34 0,I 4 34] .ret) .skip)) (aa [fj 35 1 3 [],I 36 0,I 37 5,b5 38 (.lsl 1 (.t 36) none (some (.t 37))),iP 39 1 3 35 38,I 6 39] (aa [I 40 6,I 41 1,fj 42 1 3 [.t 41],iP 43 1 3 40 42,I 6 43] (aa [I 44 6,I 45 0,I 46 5,b5 47 (.lsl 1 (.t 45) (some (.t 46)) none),iP 48 1 3 44 47,I 4 48] .ret)))))))
@[simp] def zk:List bN:=[.tmp 4]
def Se:C:=(aa [cO 3 1,ep 4 5] (aa [I 7 0,b2 8 7,I 5 8] (.seq (.block 0 (.loop (.seq (.seq (.drawn true 38 [I 9 5,aT 10 .gtr 9 0,I 11 10,b4 11 true 12 0,b4 11 true 13 5,ao 11 true (aT 14 .sub 13 1),ao 11 true (b9 15 5 12 14),ao 11 true (aC 16 0 1 15),ao 11 true (av 17 1 16),ao 11 true (aC 18 0 1 3),ao 11 true (av 19 1 18),ao 11 true (bh 20 .gtr 17 19),dx 21 11 20]) (aS 21 .skip (.exit 0))) (.block 1 (.region [I 22 5,aT 23 .sub 22 1,I 5 23]))))) (aa [fj 24 5 61 [],I 25 0,I 26 5,b5 27 (.lsl 5 (.t 25) none (some (.t 26))),iP 28 5 61 24 27,I 6 28] (aa [I 29 6,a1 30 5 3,fj 31 5 61 [.t 30],iP 32 5 61 29 31,I 6 32] (aa [I 33 6,I 34 0,I 35 5,b5 36 (.lsl 5 (.t 34) (some (.t 35)) none),iP 37 5 61 33 36,I 4 37] .ret))))))
@[simp] def NS:List bN:=[.tmp 4]
def FO:C:=(aa [cO 3 1,c9 4 dj] (.seq (aa [aC 7 0 1 3,av 8 1 7,aT 9 .eql 8 1] (aS 9 (aa [I 11 0,aC 12 1 1 3,av 13 1 12,bY 14 161 11 13,I 10 14,cD 15 0 10,cD 16 1 10,c9 5 dj,bM 4 5 15,I 6 16] (aa [I 17 6] (aS 17 (aa [a1 18 4 5,bM 4 4 18] .ret) .skip))) .skip)) (aa [a1 19 4 3,bM 4 4 19] .ret)))
@[simp] def H9:List bN:=[.cell 4 true 4]
def CB:C:=(aa [cO 5 2,ep 6 5,a8 7 false] (aa [I 15 0,a1 16 4 5,bY 17 166 15 16,I 14 17,cD 18 0 14,cD 19 1 14,c9 8 dj,bM 4 8 18,I 9 19] (.seq (aa [I 20 9,cn 21 20,I 22 21,b4 22 false 23 1,ao 22 false (a1 24 4 8),ao 22 false (bY 25 270 23 24),cZ 26 22 25,I 27 26,b4 27 false 28 0,ao 27 false (b2 29 28),ao 27 false (aT 30 .geq 29 400),cZ 31 27 30] (aS 31 (aa [ep 6 5,a8 7 false] .ret) .skip)) (aa [fj 32 5 61 [],I 10 32] (.seq (aa [I 33 0,b2 34 33,bP 35 0] (eH 36 35 34 (.seq (.block 1 (aa [b9 37 5 33 35,a1 38 5 37,c9 12 iA,bM 5 12 38] (aa [fi 39 1 4 12,a1 40 4 39,I 41 1,a1 42 4 8,dL 43 271 [.t 40,.t 41,.t 42],c9 13 dj,bM 4 13 43] (.seq (aa [a1 44 4 13,cE 45 92 44,cn 46 45] (aS 46 (aa [ep 6 5,a8 7 false] .ret) .skip)) (.region [I 47 10,aC 48 0 1 12,av 49 1 48,a1 50 4 13,j5 51 iA [(0,1,(.t 49)),(1,4,(.t 50))],fj 52 5 61 [.t 51],iP 53 5 61 47 52,I 10 53]))))) (.region [aT 54 .add 35 1,I 35 54])))) (aa [I 55 10,I 56 1,a1 57 4 8,j5 58 iA [(0,1,(.t 56)),(1,4,(.t 57))],bY 59 234 55 58,I 6 59,a8 7 true] .ret))))))
@[simp] def BO:List bN:=[.tmp 6,.tmp 7]
def Sg:C:=(aa [ep 6 5,a8 7 false] (.seq (aa [I 12 1,b2 13 12,bP 14 0] (eH 15 14 13 (.seq (.block 1 (aa [I 16 14,b9 17 4 12 14,a1 18 4 17,c9 9 dj,I 8 16,bM 4 9 18] (.seq (.drawn true 34 [I 20 0,a1 21 4 9,I 22 2,I 23 8,b9 24 4 22 23,a1 25 4 24,dL 26 176 [.t 20,.t 21,.t 25],I 19 26,cD 27 0 19,cD 28 1 19,I 10 27,I 11 28]) (.seq (aa [I 29 11,cn 30 29] (aS 30 (aa [ep 6 5,a8 7 false] .ret) .skip)) (.region [I 31 10,I 0 31]))))) (.region [aT 32 .add 14 1,I 14 32])))) (aa [I 33 0,I 6 33,a8 7 true] .ret)))
@[simp] def NU:List bN:=[.tmp 6,.tmp 7]
def R7:C:=(aa [cO 3 1,a8 4 false] (.seq (aa [aC 7 3 1 3,av 8 1 7,b2 9 8,bP 10 0] (eH 11 10 9 (.seq (.block 1 (aa [b9 12 4 8 10,a1 13 4 12,c9 6 dj,bM 4 6 13] (aa [I 14 0,a1 15 4 6,bY 16 270 14 15] (aS 16 (aa [a8 4 true] .ret) .skip)))) (.region [aT 17 .add 10 1,I 10 17])))) (aa [aC 18 0 1 3,av 19 1 18,aT 20 .eql 19 1,I 21 20,ao 21 true (aC 22 1 1 3),ao 21 true (av 23 1 22),b4 21 true 24 0,ao 21 true (bh 25 .eql 23 24),dx 26 21 25,I 4 26] .ret)))
@[simp] def NQ:List bN:=[.tmp 4]
def FM:C:=(aa [cO 3 0,cO 5 2,c9 6 dj] (.seq (aa [aC 7 0 1 3,av 8 1 7,aT 9 .eql 8 1,I 10 9,ao 10 true (aC 11 1 1 3),ao 10 true (av 12 1 11),b4 10 true 13 1,ao 10 true (bh 14 .eql 12 13),dx 15 10 14] (aS 15 (aa [a1 16 4 5,bM 4 6 16] .ret) .skip)) (.seq (aa [aC 17 0 1 3,av 18 1 17,aT 19 .eql 18 4] (aS 19 (.seq (.drawn true 36 [aC 20 3 1 3,av 21 1 20,iO 22 4 21 0,a1 23 4 22,I 24 1,a1 25 4 5,dL 26 271 [.t 23,.t 24,.t 25],aC 27 3 1 3,av 28 1 27,iO 29 4 28 1,a1 30 4 29,I 31 1,a1 32 4 5,dL 33 271 [.t 30,.t 31,.t 32],bY 34 114 26 33,bM 4 6 34]) .ret) .skip)) (aa [a1 35 4 3,bM 4 6 35] .ret))))
@[simp] def H7:List bN:=[.cell 6 true 4]
def k9:List (Nat×dH):=[
 (3,⟨1,8,.int .i64,.int .i64 0⟩),
 (5,⟨1,1,.int .u8,.int .u8 0⟩),
 (9,⟨1,16,.str,.str []⟩),
 (23,⟨1,24,.slice 61,.slice 5 .nil []⟩),
 (30,⟨1,24,.slice 32,.slice 4 .nil []⟩),
 (32,⟨4,56,.struct [(0,3),(1,3),(2,9),(3,30)],.agg [.int .i64 0,.int .i64 0,.str [],.slice 4 .nil []]⟩),
 (61,⟨5,64,.struct [(0,3),(1,32)],.agg [.int .i64 0,.int .i64 0,.int .i64 0,.str [],.slice 4 .nil []]⟩),
 (112,⟨1,24,.slice 3,.slice 1 .nil []⟩)]
theorem eN:fS ak k9=true:=by kernel_rfl
theorem Nf:bU k9 FN H8 2 Tryz.f75=true:=by kernel_rfl
theorem KD:ak.funcs[(75:Nat)]? =some Tryz.f75:=Tryz.func75
theorem amj:bU k9 RX an4 1 Tryz.f76=true:=by kernel_rfl
theorem afh:ak.funcs[(76:Nat)]? =some Tryz.f76:=Tryz.func76
theorem amo:bU k9 R4 Yj 1 Tryz.f92=true:=by kernel_rfl
theorem afm:ak.funcs[(92:Nat)]? =some Tryz.f92:=Tryz.func92
theorem aml:bU k9 RZ Yi 3 Tryz.f141=true:=by kernel_rfl
theorem afj:ak.funcs[(141:Nat)]? =some Tryz.f141:=Tryz.func141
theorem Xh:bU k9 J0 NN 1 Tryz.f142=true:=by kernel_rfl
theorem Tq:ak.funcs[(142:Nat)]? =some Tryz.f142:=Tryz.func142
theorem amx:bU k9 Sd NR 2 Tryz.f161=true:=by kernel_rfl
theorem afv:ak.funcs[(161:Nat)]? =some Tryz.f161:=Tryz.func161
theorem amn:bU k9 R3 NO 2 Tryz.f162=true:=by kernel_rfl
theorem afl:ak.funcs[(162:Nat)]? =some Tryz.f162:=Tryz.func162
theorem mY:bU k9 mg l6 1 Tryz.f163=true:=by kernel_rfl
theorem mH:ak.funcs[(163:Nat)]? =some Tryz.f163:=Tryz.func163
theorem amz:bU k9 Sf NT 1 Tryz.f164=true:=by kernel_rfl
theorem afx:ak.funcs[(164:Nat)]? =some Tryz.f164:=Tryz.func164
theorem Ee:bU k9 z7 BN 2 Tryz.f165=true:=by kernel_rfl
theorem CM:ak.funcs[(165:Nat)]? =some Tryz.f165:=Tryz.func165
theorem amw:bU k9 Sc Yn 2 Tryz.f166=true:=by kernel_rfl
theorem afu:ak.funcs[(166:Nat)]? =some Tryz.f166:=Tryz.func166
theorem vD:bU k9 tq sP 3 Tryz.f176=true:=by kernel_rfl
theorem u2:ak.funcs[(176:Nat)]? =some Tryz.f176:=Tryz.func176
theorem ame:bU k9 RS BK 1 Tryz.f216=true:=by kernel_rfl
theorem afc:ak.funcs[(216:Nat)]? =some Tryz.f216:=Tryz.func216
theorem amB:bU k9 Sh Yo 2 Tryz.f219=true:=by kernel_rfl
theorem afz:ak.funcs[(219:Nat)]? =some Tryz.f219:=Tryz.func219
theorem amq:bU k9 R6 zk 2 Tryz.f230=true:=by kernel_rfl
theorem afo:ak.funcs[(230:Nat)]? =some Tryz.f230:=Tryz.func230
theorem amy:bU k9 Se NS 2 Tryz.f234=true:=by kernel_rfl
theorem afw:ak.funcs[(234:Nat)]? =some Tryz.f234:=Tryz.func234
theorem Ng:bU k9 FO H9 2 Tryz.f236=true:=by kernel_rfl
theorem KE:ak.funcs[(236:Nat)]? =some Tryz.f236:=Tryz.func236
theorem HH:bU k9 CB BO 3 Tryz.f237=true:=by kernel_rfl
theorem F7:ak.funcs[(237:Nat)]? =some Tryz.f237:=Tryz.func237
theorem amA:bU k9 Sg NU 3 Tryz.f268=true:=by kernel_rfl
theorem afy:ak.funcs[(268:Nat)]? =some Tryz.f268:=Tryz.func268
theorem amr:bU k9 R7 NQ 2 Tryz.f270=true:=by kernel_rfl
theorem afp:ak.funcs[(270:Nat)]? =some Tryz.f270:=Tryz.func270
theorem Nd:bU k9 FM H7 3 Tryz.f271=true:=by kernel_rfl
theorem KC:ak.funcs[(271:Nat)]? =some Tryz.f271:=Tryz.func271
mutual
def lM:bI->Int->Int
 | .mk _ _ _ args,m=>oV args 1 m
def oV:List bI->Int->Int->Int
 |[],n,_=>n
 |x::xs,n,m=>if m<n then n else oV xs (n+lM x (m-n)) m
end
mutual
theorem J5:∀(t:bI) (m:Int),0<=m->1<=lM t m/\lM t m<=m+1
 | .mk _ _ _ args,m,h=>by simp only[lM];exact SG args 1 m h Ω Ω
theorem SG:∀(l:List bI) (n m:Int),0<=m->1<=n->n<=m+1->1<=oV l n m/\oV l n m<=m+1
 |[],n,m,_,J,U=>by simp only[oV];exact⟨J,U⟩
 |x::xs,n,m,bs,J,U=>by
  simp only[oV];split
  ·exact⟨J,U⟩
  ·have:=J5 x (m-n) Ω;exact SG xs _ m bs Ω Ω
end
theorem FV:∀(t:T) (m:Int),0<=m->(lM t.tm m<=m↔(t.size:Int)<=m)/\((t.size:Int)<=m->lM t.tm m=t.size)
 | .pair a b,m,h=>by
  have bu:=T.size_pos a;have ab:=T.size_pos b;simp only[T.tm,lM,oV,T.size];by_cases J:m<1
  ·rw[if_pos J];exact⟨Ω,fun h=>Ω⟩
  ·rw[if_neg J];obtain⟨bC,a2⟩:=FV a (m-1) Ω;have a3:=J5 a.tm (m-1) Ω;by_cases U:(a.size:Int)<=m-1
   ·have e:=a2 U;rw[e];by_cases au:m<1+(a.size:Int)
    ·omega
    ·rw[if_neg au];obtain⟨ch,ca⟩:=FV b (m-(1+a.size)) Ω;refine⟨Ω,fun h=>?_⟩;rw[ca Ω];omega
   ·have:¬lM a.tm (m-1)<=m-1:=fun h=>U (bC.1 h);rw[if_pos Ω];exact⟨Ω,fun h=>Ω⟩
 | .nil,m,h=>by simp[T.tm,lM,oV,T.size]
 | .var _,m,h=>by simp[T.tm,lM,oV,T.size]
 | .sym _,m,h=>by simp[T.tm,lM,oV,T.size]
 | .num _,m,h=>by simp[T.tm,lM,oV,T.size]
theorem aco(t:bI)(m:Int):lM t m=oV t.args 1 m:=by cases t;rfl
theorem ZU(t:bI):∀m:Int,0<=m->m<=1000000->bF ak 162 [enc t,.int .i64 m] (.int .i64 (lM t m)):=by
 suffices H:∀(k:Nat) (t:bI),t.sz<=k->∀m:Int,0<=m->m<=1000000->bF ak 162 [enc t,.int .i64 m] (.int .i64 (lM t m))from H _ t (e7 _)
 intro k;induction k with
 |zero=>intro t aN;cases t;simp[bI.sz]at aN
 |succ k bR=>
  intro t aN m bs J;refine be eN afl amn fun aK=>?_;unfold R3;have eB:t.args.length<=68719476736:=by rw[Af]at aK;simp[ek,ec,eg,lim]at aK;omega
  simp;refine du [1,9,10] (fun i (n:Int)=>[(5,.int .i64 n),(11,.int .i64 i)]) t.args.length (fun i n=>(1<=n/\n<=m+1)/\oV (t.args.drop i) n m=lM t m) 1 bL ⟨Ω,by simp[aco]⟩ (fun n ae _=>?_) (fun i n hi ae _=>?_)
  ·simp;(with_reducible repeat' first|refine aj ?_|simp);simp[bz,NO,aX,aY,aW];have:=ae.2;simp[oV]at this;exact this
  ·obtain⟨⟨pZ,rh⟩,ae⟩:=ae;obtain⟨x,af,cJ⟩:=dB hi;have aR:t.args.drop i=x::t.args.drop (i+1):=by rw[lI hi,cJ]
   have en:x.sz<=k:=by have:=OM (dE af);omega
   rw[aR]at ae;simp only[oV]at ae;simp[hi,cJ];by_cases ab:m<n
   ·rw[if_pos ab]at ae;(with_reducible repeat' first|refine aj ?_|simp[ab]);simp[bz,NO,aX,aY,aW];exact ae
   ·rw[if_neg ab]at ae;have aw:=J5 x (m-n) Ω;((with_reducible repeat' first|refine aj ?_|refine aF (bR x en (m-n) Ω Ω) ?_|refine aG (bR x en (m-n) Ω Ω) ?_|simp[ab]|((first|apply bS|apply bW|apply bV)<;>intro h<;>try simp at h))<;>(try exact cy));exact bO.rng (n+lM x (m-n)) hi ⟨Ω,ae⟩ bL
theorem B8(t:T):bF ak 92 [t.e] (.bool (decide (t.size<=5000))):=by
 have aw:=(FV t 5000 Ω).1;have key:=ZU t.tm 5000 Ω Ω;rw[qm]at key;refine be eN afm amo fun aK=>?_;unfold R4;simp;(with_reducible repeat' first|refine aj ?_|refine aF key ?_|refine aG key ?_|simp);simp[bz,Yj,aX,aY,aW];have:(lM t.tm 5000<=5000)=(t.size<=5000):=by rw[aw];simp;omega
 simp[this]
def ai1(l:List aq)(v:Int)(k:Nat)(st:br):Prop:=∃i:Nat,i<=l.length/\k=l.length-i/\cP l v=cP (l.drop i) v/\st=⟨[(1,.int .i64 v),(4,.ptr (.loc 0) 0),(8,.slice 5 .no (l.map aq.e)),(9,.int .i64 l.length),(10,.int .i64 i)],[(.loc 0,[.int .i64 0,.int .i64 0,.str [],.slice 4 .nil []])],[],1,[]⟩
theorem qK(l:List aq)(v:Int)(ar:l.length<=1000000):bF ak 161 [.slice 5 .no (l.map aq.e),.int .i64 v] (.tuple [((cP l v).getD .nil).e,.bool (cP l v).isSome]):=by
 refine be eN afv amx fun aK=>?_;unfold Sd;simp;refine oX (ai1 l v) l.length _ bL ⟨0,Ω,rfl,Ψ,rfl⟩ ?_;rintro k st ⟨i,hi,ad,a7,rfl⟩ ku cB;clear ku cB;by_cases bD:i<l.length
 ·obtain⟨b,ab⟩:∃b,l[i]? =some b:=⟨_,cc bD⟩;have Un:l.drop i=b::l.drop (i+1):=by rw[lI bD];rw[cc bD]at ab;simp at ab;rw[ab]
  have cr:∀h,l[i]'h=b:=fun h=>by rw[cc h]at ab;simpa using ab
  simp[cr,bD];(with_reducible repeat' first|((first|apply bS|apply bW|apply bV)<;>intro h<;>try simp at h)|refine aj ?_|simp[cr])
  ·have:cP l v=some b.t:=by rw[a7,Un];simp[cP,h]
   simp[bz,NR,aX,aY,aW];simp[this]
  ·refine bO.next (l.length-(i+1)) Ω ⟨i+1,Ω,rfl,?_,rfl⟩ bL;rw[a7,Un];simp[cP,h]
 ·have:cP l v=none:=by rw[a7,List.drop_of_length_le Ω];simp[cP]
  simp[bD];(with_reducible repeat' first|((first|apply bS|apply bW|apply bV)<;>intro h<;>try simp at h)|refine aj ?_|simp);simp[bz,NR,aX,aY,aW];simp[this]
theorem aqd(l:List aq)(ar:l.length<=1000000)(t:T):bF ak 75 [.slice 5 .no (l.map aq.e),t.e] (t.sub (cP l)).e:=by
 induction t with
 |pair a b ds dv=>
  refine be eN KD Nf fun aK=>?_;unfold FN;simp;(with_reducible repeat' first|refine aj ?_|refine aF ds ?_|refine aG ds ?_|refine aF dv ?_|refine aG dv ?_|refine aF (IT _ _) ?_|refine aG (IT _ _) ?_|simp);all_goals simp[bz,H8,aX,aY,aW]
  all_goals simp[T.sub]
 |var n=>
  refine be eN KD Nf fun aK=>?_;unfold FN;simp;((with_reducible repeat' first|refine aj ?_|refine aF (qK l n ar) ?_|refine aG (qK l n ar) ?_|simp|((first|apply bS|apply bW|apply bV)<;>intro h<;>try simp at h))<;>(try exact cy));all_goals simp[bz,H8,aX,aY,aW]
  all_goals cases ab:cP l n<;>simp_all[T.sub]
 |_=>
  refine be eN KD Nf fun aK=>?_;unfold FN;simp;(with_reducible repeat' first|refine aj ?_|simp);all_goals simp[bz,H8,aX,aY,aW]
  all_goals simp[T.sub]
theorem ZW(l:List aq)(ar:l.length<=1000000)(t:T):bF ak 75 [.slice 5 .no (l.map aq.e),t.e] (t.ap (bX l)).e:=by have:=aqd l ar t;rw[Zb]at this;exact this
theorem EZ(l:List aq)(ar:l.length<=1000000)(t:T):bF ak 166 [.slice 5 .no (l.map aq.e),t.e] (.tuple [(t.ap (bX l)).e,.bool (decide ((t.ap (bX l)).size<=5000))]):=by refine be eN afu amw fun aK=>?_;unfold Sc;simp;(with_reducible repeat' first|refine aj ?_|refine aF (ZW l ar t) ?_|refine aG (ZW l ar t) ?_|refine aF (B8 _) ?_|refine aG (B8 _) ?_|simp);simp[bz,Yn,aX,aY,aW]
def xg(v:Int)(l:List T):Bool:=l.any (T.occ v)
theorem WZ(v:Int)(t:T):t.occ v=(xg v t.args||(t.kind==1&&t.int==v)):=by cases t<;>simp[T.occ,xg]
theorem xJ(v:Int)(t:T):bF ak 270 [.int .i64 v,t.e] (.bool (t.occ v)):=by
 suffices H:∀(k:Nat) (t:T),t.size<=k->bF ak 270 [.int .i64 v,t.e] (.bool (t.occ v))from H _ t (e7 _)
 intro k;induction k with
 |zero=>intro t aN;have:=T.size_pos t;omega
 |succ k bR=>
  intro t aN;have sd:t.args.length<=2:=by cases t<;>simp
  refine be eN afp amr fun aK=>?_;unfold R7;simp;refine du [0,3,8,9] (fun i (_:Unit)=>[(10,.int .i64 i)]) t.args.length (fun i _=>xg v (t.args.drop i)=xg v t.args) () bL Ψ (fun _ ae _=>?_) (fun i _ hi ae _=>?_)
  ·have bs:xg v t.args=false:=by rw[<-ae];simp[xg]
   rw[WZ,bs];simp;((with_reducible repeat' first|refine aj ?_|simp|((first|apply bS|apply bW|apply bV)<;>intro h<;>try simp at h))<;>(try exact cy));all_goals simp[bz,NQ,aX,aY,aW]
   all_goals simp_all
  ·obtain⟨x,af,cJ⟩:=dB hi;have aR:t.args.drop i=x::t.args.drop (i+1):=by rw[lI hi,cJ]
   have en:x.size<=k:=by have hm:=dE af;have:=T.size_pos x;cases t<;>simp at hm;rcases hm with rfl|rfl<;>simp[T.size]at aN<;>omega
   simp only[aR,xg,List.any_cons]at ae;simp[hi,cJ];cases ay:x.occ v with
   |true=>
    rw[ay]at ae;simp at ae;have bs:t.occ v=true:=by rw[WZ];simp[xg];left;simpa using ae
    (with_reducible repeat' first|refine aj ?_|refine aF (bR x en) ?_|refine aG (bR x en) ?_|simp[ay]);simp[bz,NQ,aX,aY,aW];simp[bs]
   |false=>rw[ay]at ae;have V9:=bR x en;exact fO
theorem IU(v:Int)(x t:T):bF ak 271 [t.e,.int .i64 v,x.e] (t.ap (Go.Pv.one v x)).e:=by
 induction t with
 |pair a b ds dv=>
  refine be eN KC Nd fun aK=>?_;unfold FM;simp;(with_reducible repeat' first|refine aj ?_|refine aF ds ?_|refine aG ds ?_|refine aF dv ?_|refine aG dv ?_|refine aF (IT _ _) ?_|refine aG (IT _ _) ?_|simp);all_goals simp[bz,H7,aX,aY,aW]
  all_goals simp[T.ap]
 |var n=>
  refine be eN KC Nd fun aK=>?_;unfold FM;simp;((with_reducible repeat' first|refine aj ?_|simp|((first|apply bS|apply bW|apply bV)<;>intro h<;>try simp at h))<;>(try exact cy));all_goals simp[bz,H7,aX,aY,aW]
  all_goals simp_all[T.ap,Go.Pv.one]
 |_=>
  refine be eN KC Nd fun aK=>?_;unfold FM;simp;(with_reducible repeat' first|refine aj ?_|simp);all_goals simp[bz,H7,aX,aY,aW]
  all_goals simp[T.ap]
theorem IW(s:List aq)(ar:s.length<=1000000)(t:T):bF ak 236 [.slice 5 .no (s.map aq.e),t.e] (hz s t).e:=by
 cases t with
 |var n=>
  cases ab:cP s n with
  |none=>refine be eN KE Ng fun aK=>?_;unfold FO;simp;(with_reducible repeat' first|refine aj ?_|refine aF (qK s n ar) ?_|refine aG (qK s n ar) ?_|simp[ab]);simp[bz,H9,aX,aY,aW];simp[hz,bX,ab]
  |some x=>refine be eN KE Ng fun aK=>?_;unfold FO;simp;(with_reducible repeat' first|refine aj ?_|refine aF (qK s n ar) ?_|refine aG (qK s n ar) ?_|simp[ab]);simp[bz,H9,aX,aY,aW];simp[hz,bX,ab]
 |_=>refine be eN KE Ng fun aK=>?_;unfold FO;simp;(with_reducible repeat' first|refine aj ?_|simp);simp[bz,H9,aX,aY,aW];simp[hz]
theorem Vj(b:aq):∀(s:List aq) (k:Nat),(∀i c,i<k->s[i]? =some c->c.v<=b.v)->(∀c,s[k]? =some c->b.v<c.v)->k<=s.length->lX b s=s.take k++b::s.drop k
 |[],k,_,_,ad=>by simp at ad;subst ad;rfl
 |c::s,0,_,U,_=>by have:=U c rfl;simp[lX,this]
 |c::s,k+1,J,U,ad=>by have:=J 0 c Ω rfl;simp only[lX,if_neg (by omega:¬b.v<c.v),List.take_succ_cons,List.drop_succ_cons,bZ];rw[Vj b s k (fun i d hi aR=>J (i+1) d Ω (by simpa using aR)) (fun d aR=>U d (by simpa using aR)) (by simpa using ad)]
theorem ZV(s:List aq)(b:aq)(ar:s.length<=1000000)(bu:gk s):bF ak 234 [.slice 5 .no (s.map aq.e),b.e] (.slice 5 .no ((lX b s).map aq.e)):=by
 refine be eN afw amy fun aK=>?_;unfold Se;simp;refine uY [0,3] (fun(k:Nat)=>[(5,.int .i64 k)]) (fun k=>k) (fun k=>k<=s.length/\∀c,s[k]? =some c->b.v<c.v) s.length bL ⟨Ω,fun c h=>by simp at h⟩ (fun k ae _=>?_);obtain⟨ad,ae⟩:=ae;have lp:(∀c,0<k->s[k-1]? =some c->c.v<=b.v)->lX b s=s.take k++b::s.drop k:=fun h=>Vj b s k (fun i c hi aw=>by
  obtain⟨d,aR⟩:∃d,s[k-1]? =some d:=⟨_,cc Ω⟩;have J:=h d Ω aR;rcases Nat.lt_or_ge i (k-1)with U|U
  ·have tG:=(eP.1 aw);have k1:=(eP.1 aR);have:=qg.1 bu i (k-1) tG.1 k1.1 U;rw[tG.2,k1.2]at this;omega
  ·have:i=k-1:=Ω
   subst this;rw[aR]at aw;cases aw;exact J) ae ad
 rcases Nat.eq_zero_or_pos k with rfl|fE
 ·have e:=lp fun c h=>Ω
  rw[e];simp;(with_reducible repeat' first|refine aj ?_|simp);simp[bz,NS,aX,aY,aW];try simp[hQ]
 ·obtain⟨d,aR⟩:∃d,s[k-1]? =some d:=⟨_,cc Ω⟩;have al:((k:Int)-1).toNat=k-1:=Ω
  have aE:∀h,(s[k-1]'h)=d:=fun h=>by rw[cc h]at aR;exact eQ aR
  have jb:(0:Int)<k:=Ω
  by_cases ab:b.v<d.v
  ·simp[fE,jb,al,aE,ab,aR];(with_reducible repeat' first|refine aj ?_|simp[fE,jb,al,aE,ab,aR]);refine bO.whl (k-1) Ω ⟨Ω,fun c aw=>by rw[aR]at aw;cases aw;exact ab⟩ ?_;have bn:((k-1:Nat):Int)=(k:Int)-1:=Ω
   simp[bn];exact bL
  ·have e:=lp fun c _ aw=>by rw[aR]at aw;cases aw;omega
   rw[e];simp[fE,jb,al,aE,ab,aR];(with_reducible repeat' first|refine aj ?_|simp[fE,jb,al,aE,ab,aR]);simp[bz,NS,aX,aY,aW];have dh:ko s.length (s.map aq.e)=s.map aq.e:=hQ Ψ;rw[dh,<-List.map_take,<-List.map_drop,<-gS,<-rO];exact Y8 _
def OA(v:Int)(x:T)(b:aq):aq:=⟨b.v,b.t.ap (Go.Pv.one v x)⟩
def ajc(s:List aq)(v:Int)(x:T)(i:Nat)(out:List aq):Prop:=out=(s.take i).map (OA v x)/\∀b∈s.take i,(b.t.ap (Go.Pv.one v x)).size<=5000
theorem aqf(s:List aq)(v:Int)(t:T)(ar:s.length<=1000000)(bu:gk s):bF ak 237 [.slice 5 .no (s.map aq.e),.int .i64 v,t.e] (gx (n7 s v t)):=by
 obtain⟨x,af⟩:∃x,x=t.ap (bX s):=⟨_,rfl⟩;have se:=EZ s ar t;rw[<-af]at se;obtain⟨o,ay⟩:∃o,o=n7 s v t:=⟨_,rfl⟩;have jr:x.size<=5000->x.occ v=false->s.length<400->(∀b∈s,(b.t.ap (Go.Pv.one v x)).size<=5000)->o=some (mE s v x):=fun bc bE b1 c5=>by rw[ay,n7,<-af,if_pos ⟨bc,bE,b1,c5⟩]
 have cI:¬(x.size<=5000/\x.occ v=false/\s.length<400/\∀b∈s,(b.t.ap (Go.Pv.one v x)).size<=5000)->o=none:=fun q=>by rw[ay,n7,<-af,if_neg q]
 rw[<-ay];clear ay;by_cases J:x.size<=5000;rotate_left
 ·rw[cI fun h=>J h.1];refine be eN F7 HH fun aK=>?_;unfold CB;simp;(with_reducible repeat' first|refine aj ?_|refine aF se ?_|refine aG se ?_|refine aF (xJ _ _) ?_|refine aG (xJ _ _) ?_|simp[J]);simp[bz,BO,aX,aY,aW];simp[gx]
 cases U:x.occ v with
 |true=>rw[cI fun h=>by rw[U]at h;cases h.2.1];refine be eN F7 HH fun aK=>?_;unfold CB;simp;(with_reducible repeat' first|refine aj ?_|refine aF se ?_|refine aG se ?_|refine aF (xJ _ _) ?_|refine aG (xJ _ _) ?_|simp[J,U]);simp[bz,BO,aX,aY,aW];simp[gx]
 |false=>
 by_cases au:s.length<400;rotate_left
 ·rw[cI fun h=>au h.2.2.1];have tz:(400:Int)<=s.length:=Ω
  refine be eN F7 HH fun aK=>?_;unfold CB;simp;(with_reducible repeat' first|refine aj ?_|refine aF se ?_|refine aG se ?_|refine aF (xJ _ _) ?_|refine aG (xJ _ _) ?_|simp[J,U,tz]);simp[bz,BO,aX,aY,aW];simp[gx]
 have tz:¬(400:Int)<=s.length:=Ω
 refine be eN F7 HH fun aK=>?_;unfold CB;simp;(with_reducible repeat' first|refine aj ?_|refine aF se ?_|refine aG se ?_|refine aF (xJ _ _) ?_|refine aG (xJ _ _) ?_|simp[J,U,tz]);refine gT (α:=List aq) (fun i out=>⟨[(1,.int .i64 v),(8,.ptr (.loc 1) 0),(33,.slice 5 .no (s.map aq.e)),(34,.int .i64 s.length),(10,.slice 5 (.own (.loc 2)) (out.map aq.e)),(35,.int .i64 i)],[(.loc 1,[.int .i64 x.kind,.int .i64 x.int,.str x.name,.slice 4 .no (x.args.map T.e)])],[(.loc 2,⟨out.length,61,5,none⟩)],3,[]⟩) s.length (ajc s v x) [] bL ⟨Ψ,Ψ⟩ (fun out ae _=>?_) (fun i out hi ae _=>?_)
 ·obtain⟨eh,oe⟩:=ae;rw[hQ (e7 _)]at eh oe;have ahg:gk out:=by rw[eh,gk,td];exact bu
  have vl:out.length<=1000000:=by rw[eh];simpa using ar
  rw[jr J U au oe];have key:=ZV out ⟨v,x⟩ vl ahg;simp;(with_reducible repeat' first|refine aj ?_|refine aF key ?_|refine aG key ?_|simp);simp[bz,BO,aX,aY,aW];simp[gx,mE,eh];rfl
 ·obtain⟨eh,oe⟩:=ae;obtain⟨b,aB,gN⟩:=dB hi;have wR:s.take (i+1)=s.take i++[b]:=by rw[ma,aB];rfl
  have vl:out.length<=1000000:=by rw[eh];simp;omega
  simp[hi,gN];by_cases bp:(b.t.ap (Go.Pv.one v x)).size<=5000
  ·(with_reducible repeat' first|refine aj ?_|refine aF (IU _ _ _) ?_|refine aG (IU _ _ _) ?_|refine aF (B8 _) ?_|refine aG (B8 _) ?_|simp[gN,hi,bp]);all_goals first|(refine⟨by unfold lim;omega,?_⟩)|skip
   (with_reducible repeat' first|refine aj ?_|simp);refine bO.rng (out++[OA v x b]) hi ⟨by rw[wR,eh,rO];rfl,fun c aw=>?_⟩ ?_
   ·rw[wR]at aw;rcases kn.1 aw with aw|aw
    ·exact oe c aw
    ·simp at aw;subst aw;exact bp
   ·simp[OA];exact⟨by simp[fresh,aH,aD,b7,inObs,Pv.look,kc],ee (by simp[fresh,aH,aD,b7,inObs,Pv.look,kc]),ef (by simp[fresh,aH,aD,dW,inObs,Pv.look,kc]),Ψ⟩
  ·rw[cI fun h=>bp (h.2.2.2 b (dE aB))];(with_reducible repeat' first|refine aj ?_|refine aF (IU _ _ _) ?_|refine aG (IU _ _ _) ?_|refine aF (B8 _) ?_|refine aG (B8 _) ?_|simp[gN,hi,bp]);simp[bz,BO,aX,aY,aW];simp[gx]
theorem apz{s:List aq}(ag:fQ s)(aJ:gy s){n:Nat}{a b:T}{o:ba (List aq)}(h:kU n s a b=some o):iT s [(a,b)] o:=by obtain⟨n',o',J,U⟩:=IN ag aJ a b;have al:=EU (Nat.le_max_left n n') h;have aE:=EU (Nat.le_max_right n n') J;rw[al]at aE;cases aE;exact U
def B5(n:Nat):List (T×T)->List aq->ba (ba (List aq))
 |[],s=>some (some s)
 |e::r,s=>match kU n s e.1 e.2 with
  |none=>none
  |some none=>some none
  |some (some s1)=>B5 n r s1
def yZ(x y:T):Bool:=x.kind==y.kind&&x.int==y.int&&x.name==y.name
theorem apx(n:Nat)(s:List aq){x y:T}(af:x.kind≠1)(aO:y.kind≠1):kl (kU n) s x y=if yZ x y then B5 n (x.args.zip y.args) s else some none:=by
 cases x<;>cases y<;>simp[kl,yZ,B5]at af aO⊢
 ·rename_i a b;split<;>simp_all
 ·rename_i a b;split<;>simp_all
 ·rename_i bC a2 ch ca;cases kU n s bC ch with
  |none=>rfl
  |some o=>cases o with
   |none=>rfl
   |some s1=>
    simp only
    cases kU n s1 a2 ca with
    |none=>rfl
    |some o=>cases o<;>rfl
theorem ajD{x y:T}(h:yZ x y=true):x.args.length=y.args.length:=by cases x<;>cases y<;>simp[yZ]at h⊢
@[simp]theorem asd(o:ba (List aq)):Ag 0 (gx o)=some (True,.slice 5 .no ((o.getD []).map aq.e)):=rfl
@[simp]theorem ase(o:ba (List aq)):Ag 1 (gx o)=some (True,.bool o.isSome):=rfl
theorem aqj(n:Nat):∀(s:List aq) (a b:T) (o:ba (List aq)),fQ s->gy s->kU n s a b=some o->bF ak 176 [.slice 5 .no (s.map aq.e),a.e,b.e] (gx o):=by
 induction n with
 |zero=>intro s a b o _ _ h;simp[kU]at h
 |succ n bR=>
  intro s a b o ag aJ he;have ar:s.length<=1000000:=by have:=aJ.1;omega
  have dU:=IW s ar a;have dk:=IW s ar b;simp only[kU]at he;generalize hz s a=x at he dU;generalize hz s b=y at he dk;have ab:=fun v t=>aqf s v t ar ag.asc;have q6:∀z:T,¬z.kind=1->(z.kind==1)=false:=fun z h=>by simp[h]
  by_cases af:x.kind=1
  ·obtain⟨i,rfl⟩:∃i,x= .var i:=by cases x<;>simp at af;exact⟨_,rfl⟩
   by_cases aO:y.kind=1
   ·obtain⟨j,rfl⟩:∃j,y= .var j:=by cases y<;>simp at aO;exact⟨_,rfl⟩
    simp only[kl,dQ]at he;subst he;rcases Int.lt_trichotomy i j with h|h|h
    ·rw[if_pos h];have key:=ab j (.var i);refine be eN u2 vD fun aK=>?_;unfold tq;simp;(with_reducible repeat' first|refine aj ?_|refine aF dU ?_|refine aG dU ?_|refine aF dk ?_|refine aG dk ?_|refine aF key ?_|refine aG key ?_|simp[h]);simp[bz,sP,aX,aY,aW];simp[gx]
    ·subst h;rw[if_neg Ω,if_pos rfl];have bs:¬i<i:=Ω
     refine be eN u2 vD fun aK=>?_;unfold tq;simp;(with_reducible repeat' first|refine aj ?_|refine aF dU ?_|refine aG dU ?_|refine aF dk ?_|refine aG dk ?_|simp[bs]);simp[bz,sP,aX,aY,aW];simp[gx]
    ·rw[if_neg Ω,if_neg Ω];have key:=ab i (.var j);have bs:¬i<j:=Ω
     have U:¬i=j:=Ω
     refine be eN u2 vD fun aK=>?_;unfold tq;simp;((with_reducible repeat' first|refine aj ?_|refine aF dU ?_|refine aG dU ?_|refine aF dk ?_|refine aG dk ?_|refine aF key ?_|refine aG key ?_|simp[bs,U]|((first|apply bS|apply bW|apply bV)<;>intro h<;>try simp at h))<;>(try exact cy));simp[bz,sP,aX,aY,aW];simp[gx]
   ·have wE:n7 s i y=o:=by cases y<;>first|(simp at aO;done)|exact eQ he
    subst wE;have key:=ab i y;refine be eN u2 vD fun aK=>?_;unfold tq;simp;(with_reducible repeat' first|refine aj ?_|refine aF dU ?_|refine aG dU ?_|refine aF dk ?_|refine aG dk ?_|refine aF key ?_|refine aG key ?_|simp[q6 y aO]);simp[bz,sP,aX,aY,aW];simp[gx]
  ·by_cases aO:y.kind=1
   ·obtain⟨j,rfl⟩:∃j,y= .var j:=by cases y<;>simp at aO;exact⟨_,rfl⟩
    have wE:n7 s j x=o:=by cases x<;>first|(simp at af;done)|exact eQ he
    subst wE;have key:=ab j x;refine be eN u2 vD fun aK=>?_;unfold tq;simp;(with_reducible repeat' first|refine aj ?_|refine aF dU ?_|refine aG dU ?_|refine aF dk ?_|refine aG dk ?_|refine aF key ?_|refine aG key ?_|simp[q6 x af]);simp[bz,sP,aX,aY,aW];simp[gx]
   ·rw[apx n s af aO]at he;cases hle:yZ x y with
    |false=>
     rw[hle]at he;simp at he;subst he;have Lp:(x.kind !=y.kind)=true\/((x.kind !=y.kind)=false/\((x.int !=y.int)=true\/((x.int !=y.int)=false/\(x.name !=y.name)=true))):=by simp only[yZ]at hle;simp only[bne];cases al:(x.kind==y.kind)<;>cases aE:(x.int==y.int)<;>cases bn:(x.name==y.name)<;>simp_all
     rcases Lp with bc|⟨bc,bE|⟨bE,b1⟩⟩
     ·refine be eN u2 vD fun aK=>?_;unfold tq;simp;(with_reducible repeat' first|refine aj ?_|refine aF dU ?_|refine aG dU ?_|refine aF dk ?_|refine aG dk ?_|simp[q6 x af,q6 y aO,bc]);simp[bz,sP,aX,aY,aW];simp[gx]
     ·refine be eN u2 vD fun aK=>?_;unfold tq;simp;(with_reducible repeat' first|refine aj ?_|refine aF dU ?_|refine aG dU ?_|refine aF dk ?_|refine aG dk ?_|simp[q6 x af,q6 y aO,bc,bE]);simp[bz,sP,aX,aY,aW];simp[gx]
     ·refine be eN u2 vD fun aK=>?_;unfold tq;simp;have HS:¬x.name=y.name:=by simpa using b1
      have amZ:decide (x.name=y.name)=false:=by simp[HS]
      ((with_reducible repeat' first|refine aj ?_|refine aF dU ?_|refine aG dU ?_|refine aF dk ?_|refine aG dk ?_|simp[q6 x af,q6 y aO,bc,bE,b1,HS,amZ]|((first|apply bS|apply bW|apply bV)<;>intro h<;>try simp at h))<;>(try exact cy));simp[bz,sP,aX,aY,aW];simp[gx]
    |true=>
     rw[hle,if_pos rfl]at he;have Lp:(x.kind !=y.kind)=false/\(x.int !=y.int)=false/\(x.name !=y.name)=false:=by simp only[yZ]at hle;simp only[bne];cases al:(x.kind==y.kind)<;>cases aE:(x.int==y.int)<;>cases bn:(x.name==y.name)<;>simp_all
     obtain⟨bc,bE,b1⟩:=Lp;have hlen:=ajD hle;have HS:x.name=y.name:=by simpa using b1
     have sd:x.args.length<=2:=by cases x<;>simp
     refine be eN u2 vD fun aK=>?_;unfold tq;simp;(with_reducible repeat' first|refine aj ?_|refine aF dU ?_|refine aG dU ?_|refine aF dk ?_|refine aG dk ?_|simp[q6 x af,q6 y aO,bc,bE,HS]);refine gT (α:=List aq) (fun i ah=>⟨[(5,.ptr (.loc 1) 0),(96,.slice 4 .no (x.args.map T.e)),(97,.int .i64 x.args.length),(0,.slice 5 .no (ah.map aq.e)),(98,.int .i64 i)],[(.loc 1,[.int .i64 y.kind,.int .i64 y.int,.str y.name,.slice 4 .no (y.args.map T.e)])],[],2,[]⟩) x.args.length (fun i ah=>(fQ ah/\gy ah)/\B5 n ((x.args.zip y.args).drop i) ah=some o) s bL ⟨⟨ag,aJ⟩,by simpa using he⟩ (fun ah ae _=>?_) (fun i ah hi ae _=>?_)
     ·obtain⟨_,ae⟩:=ae;rw[List.drop_eq_nil_of_le (by simp[hlen])]at ae;simp[B5]at ae;subst ae;simp;(with_reducible repeat' first|refine aj ?_|simp);simp[bz,sP,aX,aY,aW];simp[gx]
     ·obtain⟨⟨g1,g2⟩,ae⟩:=ae;obtain⟨bC,bu⟩:∃a,x.args[i]? =some a:=⟨_,cc hi⟩;obtain⟨ch,fW⟩:∃b,y.args[i]? =some b:=⟨_,cc Ω⟩;have nB:∀h,(x.args[i]'h)=bC:=fun h=>by rw[cc hi]at bu;exact eQ bu
      have cr:∀h,(y.args[i]'h)=ch:=fun h=>by rw[cc h]at fW;exact eQ fW
      have sk:i<y.args.length:=Ω
      have aR:(x.args.zip y.args).drop i=(bC,ch)::(x.args.zip y.args).drop (i+1):=by rw[lI (by simp;omega)];simp[nB,cr]
      rw[aR]at ae;simp only[B5]at ae;simp[hi,nB,cr,sk];cases hu:kU n ah bC ch with
      |none=>rw[hu]at ae;cases ae
      |some gP=>
       have key:=bR ah bC ch gP g1 g2 hu;rw[hu]at ae;cases gP with
       |none=>simp at ae;subst ae;(with_reducible repeat' first|refine aj ?_|refine aF key ?_|refine aG key ?_|simp[nB,cr,hi,sk]);simp[bz,sP,aX,aY,aW];simp[gx]
       |some s1=>have aiz:=apz g1 g2 hu;(with_reducible repeat' first|refine aj ?_|refine aF key ?_|refine aG key ?_|simp[nB,cr,hi,sk]);refine bO.rng s1 hi ⟨aiz.1,ae⟩ ?_;exact bL
theorem aqi(s:List aq)(a b:T)(ag:fQ s)(aJ:gy s):bF ak 176 [.slice 5 .no (s.map aq.e),a.e,b.e] (gx (mgu s [(a,b)])):=by obtain⟨n,o,J,U⟩:=IN ag aJ a b;rw[sI U];exact aqj n s a b o ag aJ J
def ajb(s:List aq)(E:List (T×T))(i:Nat)(ah:List aq):Prop:=(fQ ah/\gy ah)/\mgu ah (E.drop i)=mgu s E
theorem aqe(s:List aq)(l r:List T)(ar:l.length=r.length)(ag:fQ s)(aJ:gy s)(yA:l.length<=1000000):bF ak 268 [.slice 5 .no (s.map aq.e),.slice 4 .no (l.map T.e),.slice 4 .no (r.map T.e)] (gx (mgu s (l.zip r))):=by
 refine be eN afy amA fun aK=>?_;unfold Sg;simp;refine gT (α:=List aq) (fun i ah=>⟨[(2,.slice 4 .no (r.map T.e)),(12,.slice 4 .no (l.map T.e)),(13,.int .i64 l.length),(0,.slice 5 .no (ah.map aq.e)),(14,.int .i64 i)],[],[],0,[]⟩) l.length (ajb s (l.zip r)) s bL ⟨⟨ag,aJ⟩,Ψ⟩ (fun ah ae _=>?_) (fun i ah hi ae _=>?_)
 ·obtain⟨⟨g1,g2⟩,ae⟩:=ae;rw[List.drop_eq_nil_of_le (by simp[ar]),MK g1 g2]at ae;rw[<-ae];simp;(with_reducible repeat' first|refine aj ?_|simp);simp[bz,NU,aX,aY,aW];simp[gx]
 ·obtain⟨⟨g1,g2⟩,ae⟩:=ae;obtain⟨a,bu⟩:∃a,l[i]? =some a:=⟨_,cc hi⟩;obtain⟨b,fW⟩:∃b,r[i]? =some b:=⟨_,cc Ω⟩;have nB:∀h,(l[i]'h)=a:=fun h=>by rw[cc hi]at bu;exact eQ bu
  have cr:∀h,(r[i]'h)=b:=fun h=>by rw[cc h]at fW;exact eQ fW
  have sk:i<r.length:=Ω
  have aR:(l.zip r).drop i=(a,b)::(l.zip r).drop (i+1):=by rw[lI (by simp;omega)];simp[nB,cr]
  rw[aR,MJ g1 g2]at ae;simp[hi,nB,cr,sk];have key:=aqi ah a b g1 g2;cases hu:mgu ah [(a,b)]with
  |none=>rw[hu]at ae key;simp only at ae;rw[<-ae];(with_reducible repeat' first|refine aj ?_|refine aF key ?_|refine aG key ?_|simp[nB,cr,hi,sk]);simp[bz,NU,aX,aY,aW];simp[gx]
  |some s1=>have oo:=Bk g1 g2 hu;rw[hu]at ae key;(with_reducible repeat' first|refine aj ?_|refine aF key ?_|refine aG key ?_|simp[nB,cr,hi,sk]);refine bO.rng s1 hi ⟨oo,ae⟩ ?_;exact bL
theorem km(n:Int):bF ak 91 [.int .i64 n] (T.var n).e:=by refine be fy aft amv fun aK=>?_;unfold Sb;exact bJ
def ajf(t:List aq)(i:Nat)(p:List T×List T):Prop:=p.1=(t.take i).map (fun b=>T.var b.v)/\p.2=(t.take i).map (·.t)
theorem aqg(s t:List aq)(ag:fQ s)(aJ:gy s)(aN:t.length<=1000000):bF ak 219 [.slice 5 .no (s.map aq.e),.slice 5 .no (t.map aq.e)] (gx (mgu s (hU t))):=by
 have bp:(t.map fun b=>T.var b.v).zip (t.map (·.t))=hU t:=by rw[hU,List.zip_map']
 refine be eN afz amB fun aK=>?_;unfold Sh;simp;refine gT (α:=List T×List T) (fun i p=>⟨[(0,.slice 5 .no (s.map aq.e)),(12,.slice 5 .no (t.map aq.e)),(13,.int .i64 t.length),(6,.slice 4 (.own (.loc 0)) (p.1.map T.e)),(7,.slice 4 (.own (.loc 1)) (p.2.map T.e)),(14,.int .i64 i)],[],[(.loc 0,⟨p.1.length,32,4,none⟩),(.loc 1,⟨p.2.length,32,4,none⟩)],2,[]⟩) t.length (ajf t) ([],[]) bL ⟨Ψ,Ψ⟩ (fun p ae _=>?_) (fun i p hi ae _=>?_)
 ·obtain⟨A,B⟩:=p;obtain⟨bk,jP⟩:=ae;simp only at bk jP⊢;rw[hQ (e7 _)]at bk jP;have key:=aqe s A B (by rw[bk,jP];simp) ag aJ (by rw[bk];simpa using aN);rw[bk,jP,bp,<-bk,<-jP]at key;simp;(with_reducible repeat' first|refine aj ?_|refine aF key ?_|refine aG key ?_|simp);simp[bz,Yo,aX,aY,aW];simp[gx]
 ·obtain⟨A,B⟩:=p;obtain⟨bk,jP⟩:=ae;simp only at bk jP⊢;obtain⟨b,aB,gN⟩:=dB hi;have wR:t.take (i+1)=t.take i++[b]:=by rw[ma,aB];rfl
  have ag2:A.length<=1000000:=by rw[bk];simp;omega
  have ag3:B.length<=1000000:=by rw[jP];simp;omega
  simp[hi,gN];(with_reducible repeat' first|refine aj ?_|refine aF (km _) ?_|refine aG (km _) ?_|simp[gN,hi]);all_goals first|(refine⟨by unfold lim;omega,?_⟩)|skip
  (with_reducible repeat' first|refine aj ?_|simp);all_goals first|(refine⟨by unfold lim;omega,?_⟩)|skip
  (with_reducible repeat' first|refine aj ?_|simp);refine bO.rng (A++[.var b.v],B++[b.t]) hi ⟨by rw[wR,bk];simp,by rw[wR,jP];simp⟩ ?_;simp;exact⟨by simp[fresh,aH,aD,b7,inObs,Pv.look,kc],ee (by simp[fresh,aH,aD,b7,inObs,Pv.look,kc]),ef (by simp[fresh,aH,aD,dW,inObs,Pv.look,kc]),Ψ⟩
theorem dD(n lo hi:Int):bF ak 141 [.int .i64 n,.int .i64 lo,.int .i64 hi] (.bool (decide (lo<=n/\n<=hi))):=by
 refine be eN afj aml fun aK=>?_;unfold RZ;simp;((with_reducible repeat' first|refine aj ?_|simp|((first|apply bS|apply bW|apply bV)<;>intro h<;>try simp at h))<;>(try exact cy));all_goals simp[bz,Yi,aX,aY,aW]
 all_goals first|omega|(simp;done)|(simp;omega)
def shp:bI->Bool
 | .mk k n s [a,b]=>k==4&&n==0&&s==[]&&shp a&&shp b
 | .mk k n s []=>lB k n s
 |_=>false
theorem Iw:∀x:T,shp x.tm=x.ok
 | .nil=>by simp[T.tm,shp,lB,T.ok]
 | .var _=>by simp[T.tm,shp,lB,T.ok]
 | .sym _=>by simp[T.tm,shp,lB,T.ok]
 | .num _=>by simp[T.tm,shp,lB,T.ok]
 | .pair a b=>by simp[T.tm,shp,T.ok,Iw a,Iw b]
theorem aoG:∀(m:Nat) (t:bI),t.sz<=m->shp t=true->∃x:T,x.tm=t:=by
 intro m;induction m with
 |zero=>intro t aN;cases t;simp[bI.sz]at aN
 |succ m bR=>
  rintro⟨k,n,s,args⟩ aN h;match args with
  |[a,b]=>
   simp[bI.sz,bI.szL]at aN;simp only[shp,cC,dV]at h;obtain⟨⟨⟨⟨rfl,rfl⟩,au⟩,J⟩,U⟩:=h;obtain⟨x,rfl⟩:=bR a Ω J;obtain⟨y,rfl⟩:=bR b Ω U;have:s=[]:=by simpa using au
   subst this;exact⟨.pair x y,rfl⟩
  |[]=>
   simp only[shp,lB]at h;split at h
   ·subst_vars;simp at h;exact⟨.nil,by simp[T.tm,h]⟩
   split at h
   ·subst_vars;simp at h;exact⟨.var n,by simp[T.tm,h]⟩
   split at h
   ·subst_vars;simp at h;exact⟨.sym s,by simp[T.tm,h]⟩
   split at h
   ·subst_vars;simp at h;exact⟨.num n,by simp[T.tm,h]⟩
   ·simp at h
  |[_]=>simp[shp]at h
  |_::_::_::_=>simp[shp]at h
theorem afN(t:bI):t.fits=(decide (lM t 5000<=5000)&&shp t):=by
 by_cases h:shp t=true
 ·obtain⟨x,rfl⟩:=aoG _ t (e7 _) h;have:=(FV x 5000 Ω).1;rw[bI.fits_T,T.fit,h];rw[Iw]at h;simp[h,this];omega
 ·have bs:t.fits=false:=by
   cases aJ:t.fits with
   |false=>rfl
   |true=>obtain⟨x,rfl,af⟩:=bI.fits_ex aJ;rw[Iw]at h;simp[T.fit]at af;exact absurd af.1 h
  simp at h;rw[bs,h];simp
def L5(s:List dM)(i:Nat):Prop:=i<=s.length/\∀k,k<i->mP (s.getD k 0)=true/\(k=0->low (s.getD k 0)=true)
theorem ai9{s:List dM}(h:L5 s s.length):jX s=decide (1<=s.length/\s.length<=12):=by
 unfold jX;by_cases ar:1<=s.length
 ·have J:=(h.2 0 Ω).2 rfl;have U:(s.drop 1).all mP=true:=by rw[ga];intro b ab;obtain⟨i,hi,e⟩:=nY ab;simp at hi e;have:=(h.2 (i+1) Ω).1;rw[List.getD_eq_getElem?_getD,cc Ω]at this;simp only[jA]at this;rw[<-e];exact this
  rw[J,U];simp
 ·have:decide (1<=s.length/\s.length<=12)=false:=by simp;omega
  rw[this];simp
theorem ai8{s:List dM}{i:Nat}(hi:i<s.length)(h:mP (s.getD i 0)=false\/(i=0/\low (s.getD i 0)=false)):jX s=false:=by
 cases e:jX s with
 |false=>rfl
 |true=>
  exfalso;simp only[jX,cC,ga]at e;obtain⟨⟨_,al⟩,aE⟩:=e;rcases h with h|⟨rfl,h⟩
  ·by_cases bs:i=0
   ·subst bs;rw[mP,al]at h;simp at h
   ·have:=aE (s.getD i 0) (by rw[List.getD_eq_getElem?_getD,cc hi];simp only[jA];refine List.mem_iff_getElem.2 ⟨i-1,by simp;omega,?_⟩;simp[show i-1+1=i from by omega])
    rw[this]at h;cases h
  ·rw[al]at h;cases h
theorem hk(s:List dM):bF ak 216 [.str s] (.bool (jX s)):=by
 generalize aV:jX s=R;refine be eN afc ame fun aK=>?_;unfold RS;have eB:s.length<=68719476736:=by simp[ek,ec,eg,lim]at aK;omega
 simp;refine uY [0] (fun(i:Nat)=>[(3,.int .i64 i)]) (fun i=>s.length-i) (L5 s) 0 bL ⟨Ω,fun k ad=>Ω⟩ (fun i ae _=>?_);have eh:=ae.1;by_cases hi:i<s.length
 ·have cI:=ai8 hi;rw[aV]at cI;obtain⟨c,aw,j7⟩:=dB hi;have Uh:s.getD i 0=c:=by simp[List.getD_eq_getElem?_getD,aw]
  rw[Uh]at cI;have cR:mP c=true->(i=0->low c=true)->L5 s (i+1):=fun J U=>⟨Ω,fun k ad=>by
   rcases(by omega:k<i\/k=i)with h|rfl
   ·exact ae.2 k h
   ·rw[Uh];exact⟨J,U⟩⟩
  have hw:IntKind.i64.wrap (c.toNat:Int)=c.toNat:=pz _ (by have:=c.toNat_lt;omega);simp[hi,j7,aw];by_cases bc:(97:Int)<=c.toNat
  ·by_cases bE:(c.toNat:Int)<=122
   ·have ar:low c=true:=by simp[low];omega
    (with_reducible repeat' first|refine aj ?_|refine aF (dD _ _ _) ?_|refine aG (dD _ _ _) ?_|simp[hi,j7,aw,bc,bE]);exact bO.whl (i+1) Ω (cR (by simp[mP,ar]) (fun _=>ar)) bL
   ·have ar:low c=false:=by simp[low];omega
    by_cases bs:i=0
    ·rw[cI (.inr ⟨bs,ar⟩)];have sa:((i:Int)==0)=true:=by simp[bs]
     (with_reducible repeat' first|refine aj ?_|refine aF (dD _ _ _) ?_|refine aG (dD _ _ _) ?_|simp[hi,j7,aw,bc,bE,sa,hw]);simp[bz,BK,aX,aY,aW]
    ·have sa:((i:Int)==0)=false:=by simp[bs]
     by_cases b1:(c.toNat:Int)=45
     ·have sO:((c.toNat:Int) !=45)=false:=by simp[b1]
      (with_reducible repeat' first|refine aj ?_|refine aF (dD _ _ _) ?_|refine aG (dD _ _ _) ?_|simp[hi,j7,aw,bc,bE,sa,hw,b1,sO]);all_goals exact bO.whl (i+1) Ω (cR (by simp[mP];omega) (fun h=>absurd h bs)) bL
     ·have sO:((c.toNat:Int) !=45)=true:=by simp[b1]
      by_cases c5:(48:Int)<=c.toNat/\(c.toNat:Int)<=57
      ·(with_reducible repeat' first|refine aj ?_|refine aF (dD _ _ _) ?_|refine aG (dD _ _ _) ?_|simp[hi,j7,aw,bc,bE,sa,hw,b1,sO,c5]);all_goals exact bO.whl (i+1) Ω (cR (by simp[mP];omega) (fun h=>absurd h bs)) bL
      ·rw[cI (.inl (by simp[mP,ar];omega))];(with_reducible repeat' first|refine aj ?_|refine aF (dD _ _ _) ?_|refine aG (dD _ _ _) ?_|simp[hi,j7,aw,bc,bE,sa,hw,b1,sO,c5]);simp[bz,BK,aX,aY,aW]
  ·have ar:low c=false:=by simp[low];omega
   by_cases bs:i=0
   ·rw[cI (.inr ⟨bs,ar⟩)];have sa:((i:Int)==0)=true:=by simp[bs]
    (with_reducible repeat' first|refine aj ?_|refine aF (dD _ _ _) ?_|refine aG (dD _ _ _) ?_|simp[hi,j7,aw,bc,sa,hw]);simp[bz,BK,aX,aY,aW]
   ·have sa:((i:Int)==0)=false:=by simp[bs]
    by_cases b1:(c.toNat:Int)=45
    ·have sO:((c.toNat:Int) !=45)=false:=by simp[b1]
     (with_reducible repeat' first|refine aj ?_|refine aF (dD _ _ _) ?_|refine aG (dD _ _ _) ?_|simp[hi,j7,aw,bc,sa,hw,b1,sO]);all_goals exact bO.whl (i+1) Ω (cR (by simp[mP];omega) (fun h=>absurd h bs)) bL
    ·have sO:((c.toNat:Int) !=45)=true:=by simp[b1]
     by_cases c5:(48:Int)<=c.toNat/\(c.toNat:Int)<=57
     ·(with_reducible repeat' first|refine aj ?_|refine aF (dD _ _ _) ?_|refine aG (dD _ _ _) ?_|simp[hi,j7,aw,bc,sa,hw,b1,sO,c5]);all_goals exact bO.whl (i+1) Ω (cR (by simp[mP];omega) (fun h=>absurd h bs)) bL
     ·rw[cI (.inl (by simp[mP,ar];omega))];(with_reducible repeat' first|refine aj ?_|refine aF (dD _ _ _) ?_|refine aG (dD _ _ _) ?_|simp[hi,j7,aw,bc,sa,hw,b1,sO,c5]);simp[bz,BK,aX,aY,aW]
 ·have:i=s.length:=Ω
  subst this;rw[ai9 ae]at aV;simp[hi];(with_reducible repeat' first|refine aj ?_|refine aF (dD _ _ _) ?_|refine aG (dD _ _ _) ?_|simp[hi]);simp[bz,BK,aX,aY,aW];rw[<-aV,oG];simp;omega
def vT:List bI->Bool
 |[a,b]=>shp a&&shp b
 |_=>false
theorem aoF(k n:Int)(s:List dM)(args:List bI):shp ⟨k,n,s,args⟩=if k≠1/\k≠3/\n≠0 then false else if k≠2/\s≠[]then false else if k≠4/\args≠[]then false else if k=0 then true else if k=1 then decide (0<=n/\n<=100000)else if k=2 then jX s else if k=3 then decide (-1000000000<=n/\n<=1000000000)else if k=4 then vT args else false:=by
 by_cases fv:k=0
 ·subst fv;match args with
  |[]=>by_cases ax:n=0<;>by_cases ag:s=[]<;>simp[shp,lB,ax,ag]
  |[a]=>simp[shp]
  |[a,b]=>simp[shp]
  |_::_::_::_=>simp[shp]
 by_cases aU:k=1
 ·subst aU;match args with
  |[]=>by_cases ag:s=[]<;>simp[shp,lB,ag]
  |[a]=>simp[shp]
  |[a,b]=>simp[shp]
  |_::_::_::_=>simp[shp]
 by_cases bo:k=2
 ·subst bo;match args with
  |[]=>by_cases ax:n=0<;>simp[shp,lB,ax]
  |[a]=>simp[shp]
  |[a,b]=>simp[shp]
  |_::_::_::_=>simp[shp]
 by_cases cd:k=3
 ·subst cd;match args with
  |[]=>by_cases ag:s=[]<;>simp[shp,lB,ag]
  |[a]=>simp[shp]
  |[a,b]=>simp[shp]
  |_::_::_::_=>simp[shp]
 by_cases e9:k=4
 ·subst e9;match args with
  |[]=>simp[shp,lB,vT]
  |[a]=>simp[shp,vT]
  |[a,b]=>by_cases ax:n=0<;>by_cases ag:s=[]<;>simp[shp,vT,ax,ag]
  |_::_::_::_=>simp[shp,vT]
 ·match args with
  |[]=>simp[shp,lB,fv,aU,bo,cd,e9]
  |[a]=>simp[shp,fv,aU,bo,cd,e9]
  |[a,b]=>simp[shp,fv,aU,bo,cd,e9]
  |_::_::_::_=>simp[shp,fv,aU,bo,cd,e9]
set_option maxRecDepth 8000 in
theorem aqc(m:Nat):∀(t:bI),t.sz<=m->bF ak 163 [enc t] (.bool (shp t)):=by
 induction m with
 |zero=>intro t aN;cases t;simp[bI.sz]at aN
 |succ m bR=>
 rintro⟨k,n,s,args⟩ aN;generalize aV:shp ⟨k,n,s,args⟩=R;have dJ:=aoF k n s args;rw[aV]at dJ;by_cases ch:k≠1/\k≠3/\n≠0
 ·rw[if_pos ch]at dJ;obtain⟨aU,cd,n0⟩:=ch;have Ba:(k !=1)=true:=by simp[aU]
  have Bb:(k !=3)=true:=by simp[cd]
  have MU:(n !=0)=true:=by simp[n0]
  subst dJ;refine be eN mH mY fun aK=>?_;unfold mg;simp[bI.kind,bI.num,bI.name,bI.args];(with_reducible repeat' first|refine aj ?_|refine aF (dD _ _ _) ?_|refine aG (dD _ _ _) ?_|refine aF (hk _) ?_|refine aG (hk _) ?_|simp[Ba,Bb,MU]);all_goals simp[bz,l6,aX,aY,aW]
 rw[if_neg ch]at dJ;have Ct:(if k !=1 then k !=3 else false)=true->(n !=0)=false:=by intro h;simp at h⊢;exact Classical.byContradiction fun ax=>ch ⟨h.1,h.2,ax⟩
 by_cases ca:k≠2/\s≠[]
 ·rw[if_pos ca]at dJ;have G7:(k !=2)=true:=by simp[ca.1]
  have Og:s.isEmpty=false:=by simp[ca.2]
  by_cases aU:k=1
  ·subst aU;subst dJ;refine be eN mH mY fun aK=>?_;unfold mg;simp[bI.kind,bI.num,bI.name,bI.args];(with_reducible repeat' first|refine aj ?_|refine aF (dD _ _ _) ?_|refine aG (dD _ _ _) ?_|refine aF (hk _) ?_|refine aG (hk _) ?_|simp[Og]);all_goals simp[bz,l6,aX,aY,aW]
  by_cases cd:k=3
  ·subst cd;subst dJ;refine be eN mH mY fun aK=>?_;unfold mg;simp[bI.kind,bI.num,bI.name,bI.args];(with_reducible repeat' first|refine aj ?_|refine aF (dD _ _ _) ?_|refine aG (dD _ _ _) ?_|refine aF (hk _) ?_|refine aG (hk _) ?_|simp[Og]);all_goals simp[bz,l6,aX,aY,aW]
  have Ba:(k !=1)=true:=by simp[aU]
  have Bb:(k !=3)=true:=by simp[cd]
  have MU:(n !=0)=false:=Ct (by simp[aU,cd]);subst dJ;refine be eN mH mY fun aK=>?_;unfold mg;simp[bI.kind,bI.num,bI.name,bI.args];(with_reducible repeat' first|refine aj ?_|refine aF (dD _ _ _) ?_|refine aG (dD _ _ _) ?_|refine aF (hk _) ?_|refine aG (hk _) ?_|simp[Ba,Bb,MU,G7,Og]);all_goals simp[bz,l6,aX,aY,aW]
 rw[if_neg ca]at dJ;by_cases fv:k=0
 ·subst fv;have n0:n=0:=by simpa using Ct (by decide)
  have s0:s=[]:=Classical.byContradiction fun h=>ca ⟨Ω,h⟩;subst n0 s0;by_cases a0:args=[];rotate_left
  ·rw[if_pos ⟨Ω,a0⟩]at dJ;have uM:(0:Int)<args.length:=by have:=List.length_pos_iff.2 a0;omega
   subst dJ;refine be eN mH mY fun aK=>?_;unfold mg;simp[bI.kind,bI.num,bI.name,bI.args];((with_reducible repeat' first|refine aj ?_|refine aF (dD _ _ _) ?_|refine aG (dD _ _ _) ?_|refine aF (hk _) ?_|refine aG (hk _) ?_|simp[rN,uM]|((first|apply bS|apply bW|apply bV)<;>intro h<;>try simp at h))<;>(try exact cy));all_goals simp[bz,l6,aX,aY,aW]
  rw[if_neg (by simp[a0])]at dJ;subst a0;simp at dJ;subst dJ;refine be eN mH mY fun aK=>?_;unfold mg;simp[bI.kind,bI.num,bI.name,bI.args];(with_reducible repeat' first|refine aj ?_|refine aF (dD _ _ _) ?_|refine aG (dD _ _ _) ?_|refine aF (hk _) ?_|refine aG (hk _) ?_|simp[rN]);all_goals simp[bz,l6,aX,aY,aW]
 by_cases aU:k=1
 ·subst aU;have s0:s=[]:=Classical.byContradiction fun h=>ca ⟨Ω,h⟩;subst s0;by_cases a0:args=[];rotate_left
  ·rw[if_pos ⟨Ω,a0⟩]at dJ;have uM:(0:Int)<args.length:=by have:=List.length_pos_iff.2 a0;omega
   subst dJ;refine be eN mH mY fun aK=>?_;unfold mg;simp[bI.kind,bI.num,bI.name,bI.args];((with_reducible repeat' first|refine aj ?_|refine aF (dD _ _ _) ?_|refine aG (dD _ _ _) ?_|refine aF (hk _) ?_|refine aG (hk _) ?_|simp[rN,uM]|((first|apply bS|apply bW|apply bV)<;>intro h<;>try simp at h))<;>(try exact cy));all_goals simp[bz,l6,aX,aY,aW]
  rw[if_neg (by simp[a0])]at dJ;subst a0;simp at dJ;subst dJ;refine be eN mH mY fun aK=>?_;unfold mg;simp[bI.kind,bI.num,bI.name,bI.args];(with_reducible repeat' first|refine aj ?_|refine aF (dD _ _ _) ?_|refine aG (dD _ _ _) ?_|refine aF (hk _) ?_|refine aG (hk _) ?_|simp[rN]);all_goals simp[bz,l6,aX,aY,aW]
 by_cases bo:k=2
 ·subst bo;have n0:n=0:=by simpa using Ct (by decide)
  subst n0;by_cases a0:args=[];rotate_left
  ·rw[if_pos ⟨Ω,a0⟩]at dJ;have uM:(0:Int)<args.length:=by have:=List.length_pos_iff.2 a0;omega
   subst dJ;refine be eN mH mY fun aK=>?_;unfold mg;simp[bI.kind,bI.num,bI.name,bI.args];((with_reducible repeat' first|refine aj ?_|refine aF (dD _ _ _) ?_|refine aG (dD _ _ _) ?_|refine aF (hk _) ?_|refine aG (hk _) ?_|simp[rN,uM]|((first|apply bS|apply bW|apply bV)<;>intro h<;>try simp at h))<;>(try exact cy));all_goals simp[bz,l6,aX,aY,aW]
  rw[if_neg (by simp[a0])]at dJ;subst a0;simp at dJ;subst dJ;refine be eN mH mY fun aK=>?_;unfold mg;simp[bI.kind,bI.num,bI.name,bI.args];(with_reducible repeat' first|refine aj ?_|refine aF (dD _ _ _) ?_|refine aG (dD _ _ _) ?_|refine aF (hk _) ?_|refine aG (hk _) ?_|simp[rN]);all_goals simp[bz,l6,aX,aY,aW]
 by_cases cd:k=3
 ·subst cd;have s0:s=[]:=Classical.byContradiction fun h=>ca ⟨Ω,h⟩;subst s0;by_cases a0:args=[];rotate_left
  ·rw[if_pos ⟨Ω,a0⟩]at dJ;have uM:(0:Int)<args.length:=by have:=List.length_pos_iff.2 a0;omega
   subst dJ;refine be eN mH mY fun aK=>?_;unfold mg;simp[bI.kind,bI.num,bI.name,bI.args];((with_reducible repeat' first|refine aj ?_|refine aF (dD _ _ _) ?_|refine aG (dD _ _ _) ?_|refine aF (hk _) ?_|refine aG (hk _) ?_|simp[rN,uM]|((first|apply bS|apply bW|apply bV)<;>intro h<;>try simp at h))<;>(try exact cy));all_goals simp[bz,l6,aX,aY,aW]
  rw[if_neg (by simp[a0])]at dJ;subst a0;simp at dJ;subst dJ;refine be eN mH mY fun aK=>?_;unfold mg;simp[bI.kind,bI.num,bI.name,bI.args];(with_reducible repeat' first|refine aj ?_|refine aF (dD _ _ _) ?_|refine aG (dD _ _ _) ?_|refine aF (hk _) ?_|refine aG (hk _) ?_|simp[rN]);all_goals simp[bz,l6,aX,aY,aW]
 by_cases e9:k=4
 ·subst e9;have n0:n=0:=by simpa using Ct (by decide)
  have s0:s=[]:=Classical.byContradiction fun h=>ca ⟨Ω,h⟩;subst n0 s0;simp at dJ;match args,dJ with
  |[a,b],dJ=>
   simp[bI.sz,bI.szL]at aN;have bu:=bR a Ω;have ab:=bR b Ω;simp only[vT]at dJ;subst dJ;refine be eN mH mY fun aK=>?_;unfold mg;simp[bI.kind,bI.num,bI.name,bI.args];cases q:shp a with
   |true=>rw[q]at bu;(with_reducible repeat' first|refine aj ?_|refine aF bu ?_|refine aG bu ?_|refine aF ab ?_|refine aG ab ?_|simp[rN]);all_goals simp[bz,l6,aX,aY,aW]
   |false=>rw[q]at bu;(with_reducible repeat' first|refine aj ?_|refine aF bu ?_|refine aG bu ?_|refine aF ab ?_|refine aG ab ?_|simp[rN]);all_goals simp[bz,l6,aX,aY,aW]
  |[],dJ=>simp only[vT]at dJ;subst dJ;refine be eN mH mY fun aK=>?_;unfold mg;simp[bI.kind,bI.num,bI.name,bI.args];(with_reducible repeat' first|refine aj ?_|refine aF (dD _ _ _) ?_|refine aG (dD _ _ _) ?_|refine aF (hk _) ?_|refine aG (hk _) ?_|simp[rN]);all_goals simp[bz,l6,aX,aY,aW]
  |[_],dJ=>simp only[vT]at dJ;subst dJ;refine be eN mH mY fun aK=>?_;unfold mg;simp[bI.kind,bI.num,bI.name,bI.args];(with_reducible repeat' first|refine aj ?_|refine aF (dD _ _ _) ?_|refine aG (dD _ _ _) ?_|refine aF (hk _) ?_|refine aG (hk _) ?_|simp[rN]);all_goals simp[bz,l6,aX,aY,aW]
  |_::_::_::l,dJ=>
   simp only[vT]at dJ;have ar:((l.length:Int)+1+1+1==2)=false:=by simp;omega
   subst dJ;refine be eN mH mY fun aK=>?_;unfold mg;simp[bI.kind,bI.num,bI.name,bI.args];(with_reducible repeat' first|refine aj ?_|refine aF (dD _ _ _) ?_|refine aG (dD _ _ _) ?_|refine aF (hk _) ?_|refine aG (hk _) ?_|simp[ar]);all_goals simp[bz,l6,aX,aY,aW]
 have n0:(n !=0)=false:=Ct (by simp[aU,cd]);have s0:s=[]:=Classical.byContradiction fun h=>ca ⟨bo,h⟩;subst s0;have Vy:(k==0)=false:=by simp[fv]
 have Ba:(k==1)=false:=by simp[aU]
 have G7:(k==2)=false:=by simp[bo]
 have Bb:(k==3)=false:=by simp[cd]
 have VC:(k==4)=false:=by simp[e9]
 have Vz:(k !=1)=true:=by simp[aU]
 have VA:(k !=2)=true:=by simp[bo]
 have VB:(k !=3)=true:=by simp[cd]
 have VD:(k !=4)=true:=by simp[e9]
 by_cases a0:args=[]
 ·subst a0;simp[fv,aU,bo,cd,e9]at dJ;subst dJ;refine be eN mH mY fun aK=>?_;unfold mg;simp[bI.kind,bI.num,bI.name,bI.args];(with_reducible repeat' first|refine aj ?_|refine aF (dD _ _ _) ?_|refine aG (dD _ _ _) ?_|refine aF (hk _) ?_|refine aG (hk _) ?_|simp[Vy,Ba,G7,Bb,VC,Vz,VA,VB,VD,n0]);all_goals simp[bz,l6,aX,aY,aW]
 ·rw[if_pos ⟨e9,a0⟩]at dJ;have uM:(0:Int)<args.length:=by have:=List.length_pos_iff.2 a0;omega
  subst dJ;refine be eN mH mY fun aK=>?_;unfold mg;simp[bI.kind,bI.num,bI.name,bI.args];((with_reducible repeat' first|refine aj ?_|refine aF (dD _ _ _) ?_|refine aG (dD _ _ _) ?_|refine aF (hk _) ?_|refine aG (hk _) ?_|simp[uM,Vy,Ba,G7,Bb,VC,Vz,VA,VB,VD,n0]|((first|apply bS|apply bW|apply bV)<;>intro h<;>try simp at h))<;>(try exact cy));all_goals simp[bz,l6,aX,aY,aW]
theorem zE(t:bI):bF ak 76 [enc t] (.bool t.fits):=by
 rw[afN];have aw:=ZU t 5000 Ω Ω;have ag:=aqc t.sz t (e7 _);refine be eN afh amj fun aK=>?_;unfold RX;simp;by_cases q:lM t 5000<=5000
 ·exact bJ
 ·exact bJ
def z8:C:=(aa [cO 2 0,a8 4 false] (.seq (aa [aC 7 3 1 2,av 8 1 7,b2 9 8,bP 10 0] (eH 11 10 9 (.seq (.block 1 (aa [b9 12 4 8 10,a1 13 4 12,c9 6 dj,bM 4 6 13] (aa [a1 14 4 6,I 15 1,bY 16 77 14 15] (aS 16 (aa [a8 4 true] .ret) .skip)))) (.region [aT 17 .add 10 1,I 10 17])))) (aa [aC 18 0 1 2,av 19 1 18,aT 20 .eql 19 2,I 21 20,ao 21 true (aC 22 2 1 2),ao 21 true (av 23 1 22),b4 21 true 24 1,ao 21 true (bh 25 .eql 23 24),dx 26 21 25,I 4 26] .ret)))
@[simp] def xp:List bN:=[.tmp 4]
def RT:C:=(aa [a8 2 false] (.seq (aa [I 5 0,b2 6 5,bP 7 0] (eH 8 7 6 (.seq (.block 1 (aa [I 9 7,b9 10 2 5 7,a1 11 2 10,cN (.alloc 4 none (.agg [.int .i64 0,.int .i64 0])),I 3 9,bM 2 4 11] (.seq (.drawn true 42 [I 12 3,aT 13 .gtr 12 0,I 14 13,b4 14 true 15 0,b4 14 true 16 3,ao 14 true (aT 17 .sub 16 1),ao 14 true (b9 18 2 15 17),ao 14 true (aC 19 0 1 18),ao 14 true (av 20 1 19),ao 14 true (aC 21 0 1 4),ao 14 true (av 22 1 21),ao 14 true (bh 23 .geq 20 22),dx 24 14 23,I 25 24,ao 25 false (aC 26 0 1 4),ao 25 false (av 27 1 26),ao 25 false (dL 28 141 [.t 27,(gI 0),(gI 100000)]),ao 25 false (cn 29 28),cZ 30 25 29,I 31 30,ao 31 false (aC 32 1 1 4),ao 31 false (av 33 1 32),ao 31 false (aT 34 .neq 33 2),b4 31 false 35 34,ao 35 true (aC 36 1 1 4),ao 35 true (av 37 1 36),ao 35 true (aT 38 .neq 37 3),ao 31 false (dx 39 35 38),cZ 40 31 39]) (aS 40 (aa [a8 2 false] .ret) .skip)))) (.region [aT 41 .add 7 1,I 7 41])))) (aa [a8 2 true] .ret)))
@[simp] def Ev:List bN:=[.tmp 2]
def RU:C:=(aa [a8 2 false] (.seq (aa [I 5 0,b2 6 5,bP 7 0] (eH 8 7 6 (.seq (.block 1 (aa [I 9 7,b9 10 2 5 7,a1 11 2 10,cN (.alloc 4 none (.agg [.int .i64 0,.str []])),I 3 9,bM 2 4 11] (.seq (.drawn true 37 [I 12 3,aT 13 .gtr 12 0,I 14 13,b4 14 true 15 0,b4 14 true 16 3,ao 14 true (aT 17 .sub 16 1),ao 14 true (b9 18 2 15 17),ao 14 true (a1 19 2 18),ao 14 true (a1 20 2 4),ao 14 true (bY 21 215 19 20),ao 14 true (cn 22 21),dx 23 14 22,I 24 23,ao 24 false (aC 25 0 1 4),ao 24 false (av 26 1 25),ao 24 false (dL 27 141 [.t 26,(gI 0),(gI 100000)]),ao 24 false (cn 28 27),cZ 29 24 28,I 30 29,ao 30 false (aC 31 1 1 4),ao 30 false (av 32 1 31),ao 30 false (cE 33 216 32),ao 30 false (cn 34 33),cZ 35 30 34]) (aS 35 (aa [a8 2 false] .ret) .skip)))) (.region [aT 36 .add 7 1,I 7 36])))) (aa [a8 2 true] .ret)))
@[simp] def BL:List bN:=[.tmp 2]
def Aa:C:=(aa [cO 4 1,ep 6 2,a8 7 false] (.seq (aa [aC 10 0 1 4,av 11 1 10,aT 12 .neq 11 1] (aS 12 (.seq (.drawn true 73 [I 13 0,aC 14 0 1 4,av 15 1 14,I 16 2,bh 17 .eql 15 16,I 6 13,I 7 17]) .ret) .skip)) (aa [bP 8 0] (.seq (.block 0 (.loop (.seq (.seq (.drawn true 73 [I 18 8,I 19 0,b2 20 19,bh 21 .lss 18 20,I 22 21,b4 22 true 23 0,b4 22 true 24 8,ao 22 true (b9 25 2 23 24),ao 22 true (aC 26 0 1 25),ao 22 true (av 27 1 26),ao 22 true (aC 28 1 1 4),ao 22 true (av 29 1 28),ao 22 true (bh 30 .lss 27 29),dx 31 22 30]) (aS 31 .skip (.exit 0))) (.block 1 (.region [I 32 8,aT 33 .add 32 1,I 8 33]))))) (.seq (.seq (.drawn true 73 [I 34 8,I 35 0,b2 36 35,bh 37 .lss 34 36,I 38 37,b4 38 true 39 0,b4 38 true 40 8,ao 38 true (b9 41 2 39 40),ao 38 true (aC 42 0 1 41),ao 38 true (av 43 1 42),ao 38 true (aC 44 1 1 4),ao 38 true (av 45 1 44),ao 38 true (bh 46 .eql 43 45),dx 47 38 46]) (aS 47 (.seq (.drawn true 73 [I 48 0,I 49 0,I 50 8,b9 51 2 49 50,aC 52 1 1 51,av 53 1 52,I 54 2,bh 55 .eql 53 54,I 6 48,I 7 55]) .ret) .skip)) (aa [fj 56 2 104 [],I 57 0,I 58 8,b5 59 (.lsl 2 (.t 57) none (some (.t 58))),iP 60 2 104 56 59,I 9 60] (aa [I 61 9,aC 62 1 1 4,av 63 1 62,I 64 2,b5 65 (.build [.int .i64 0,.int .i64 0] [(0,1,(.t 63)),(1,1,(.t 64))]),fj 66 2 104 [.t 65],iP 67 2 104 61 66,I 9 67] (aa [I 68 9,I 69 0,I 70 8,b5 71 (.lsl 2 (.t 69) (some (.t 70)) none),iP 72 2 104 68 71,I 6 72,a8 7 true] .ret))))))))
@[simp] def xq:List bN:=[.tmp 6,.tmp 7]
def J1:C:=(aa [cO 4 1,ep 6 2,a8 7 false] (.seq (aa [a1 13 4 4,I 14 2,bY 15 77 13 14] (aS 15 (aa [ep 6 2,a8 7 false] .ret) .skip)) (.seq (aa [a1 16 4 4,dL 17 165 [.t 16,(.c (.slice 1 .nil []))],b2 18 17,bP 19 0] (eH 20 19 18 (.seq (.block 1 (aa [b9 21 1 17 19,av 22 1 21,I 9 22] (aa [I 23 9,I 24 2,b5 25 (.build [.int .i64 0,.str []] [(0,1,(.t 23)),(1,1,(.t 24))]),cN (.alloc 10 none (.agg [.int .i64 0,.str []])),bM 2 10 25] (aa [bP 11 0] (.seq (.block 2 (.loop (.seq (.seq (.drawn true 68 [I 26 11,I 27 0,b2 28 27,bh 29 .lss 26 28,I 30 29,b4 30 true 31 0,b4 30 true 32 11,ao 30 true (b9 33 2 31 32),ao 30 true (a1 34 2 33),ao 30 true (a1 35 2 10),ao 30 true (bY 36 215 34 35),dx 37 30 36]) (aS 37 .skip (.exit 2))) (.block 3 (.region [I 38 11,aT 39 .add 38 1,I 11 39]))))) (.seq (.drawn true 68 [I 40 11,I 41 0,b2 42 41,bh 43 .eql 40 42,I 44 43,ao 44 false (a1 45 2 10),b4 44 false 46 0,b4 44 false 47 11,ao 44 false (b9 48 2 46 47),ao 44 false (a1 49 2 48),ao 44 false (bY 50 215 45 49),cZ 51 44 50]) (aS 51 (aa [fj 52 2 106 [],I 53 0,I 54 11,b5 55 (.lsl 2 (.t 53) none (some (.t 54))),iP 56 2 106 52 55,I 12 56] (aa [I 57 12,a1 58 2 10,fj 59 2 106 [.t 58],iP 60 2 106 57 59,I 12 60] (.region [I 61 12,I 62 0,I 63 11,b5 64 (.lsl 2 (.t 62) (some (.t 63)) none),iP 65 2 106 61 64,I 0 65]))) .skip))))))) (.fg false 0 (.region [aT 66 .add 19 1,I 19 66]))))) (aa [I 67 0,I 6 67,a8 7 true] .ret))))
@[simp] def NW:List bN:=[.tmp 6,.tmp 7]
def FP:C:=(aa [cO 2 0,cO 3 1,a8 4 false] (aa [aC 5 0 1 2,av 6 1 5,aC 7 0 1 3,av 8 1 7,bh 9 .lss 6 8,I 10 9,ao 10 false (aC 11 0 1 2),ao 10 false (av 12 1 11),ao 10 false (aC 13 0 1 3),ao 10 false (av 14 1 13),ao 10 false (bh 15 .eql 12 14),b4 10 false 16 15,ao 16 true (aC 17 1 1 2),ao 16 true (av 18 1 17),ao 16 true (aC 19 1 1 3),ao 16 true (av 20 1 19),ao 16 true (bh 21 .lss 18 20),ao 10 false (dx 22 16 21),cZ 23 10 22,I 4 23] .ret))
@[simp] def aod:List bN:=[.tmp 4]
def Sm:C:=(aa [ep 4 2,a8 5 false] (aa [fj 10 2 104 [],I 6 10] (aa [a8 7 true] (.seq (.seq (.fg false 6 (.region [I 11 1,b2 12 11,bP 13 0])) (eH 14 13 12 (.seq (.block 1 (aa [b9 15 2 11 13,a1 16 2 15,cN (.alloc 9 none (.agg [.int .i64 0,.int .i64 0])),bM 2 9 16] (.seq (.drawn true 33 [I 18 6,I 19 0,aC 20 0 1 9,av 21 1 20,cE 22 91 21,bY 23 236 19 22,aC 24 1 1 9,av 25 1 24,dL 26 178 [.t 18,.t 23,.t 25],I 17 26,cD 27 0 17,cD 28 1 17,I 6 27,I 7 28]) (aa [I 29 7,cn 30 29] (aS 30 (aa [ep 4 2,a8 5 false] .ret) .skip))))) (.region [aT 31 .add 13 1,I 13 31])))) (aa [I 32 6,I 4 32,a8 5 true] .ret)))))
@[simp] def NV:List bN:=[.tmp 4,.tmp 5]
def Sn:C:=(aa [ep 4 2,a8 5 false] (aa [fj 10 2 106 [],I 6 10] (aa [a8 7 true] (.seq (.seq (.fg false 6 (.region [I 11 1,b2 12 11,bP 13 0])) (eH 14 13 12 (.seq (.block 1 (aa [b9 15 2 11 13,a1 16 2 15,cN (.alloc 9 none (.agg [.int .i64 0,.str []])),bM 2 9 16] (.seq (.drawn true 33 [I 18 6,I 19 0,aC 20 0 1 9,av 21 1 20,cE 22 91 21,bY 23 236 19 22,aC 24 1 1 9,av 25 1 24,dL 26 179 [.t 18,.t 23,.t 25],I 17 26,cD 27 0 17,cD 28 1 17,I 6 27,I 7 28]) (aa [I 29 7,cn 30 29] (aS 30 (aa [ep 4 2,a8 5 false] .ret) .skip))))) (.region [aT 31 .add 13 1,I 13 31])))) (aa [I 32 6,I 4 32,a8 5 true] .ret)))))
@[simp] def NX:List bN:=[.tmp 4,.tmp 5]
def vZ:List (Nat×dH):=[
 (3,⟨1,8,.int .i64,.int .i64 0⟩),
 (9,⟨1,16,.str,.str []⟩),
 (25,⟨1,24,.slice 104,.slice 2 .nil []⟩),
 (26,⟨1,24,.slice 106,.slice 2 .nil []⟩),
 (30,⟨1,24,.slice 32,.slice 4 .nil []⟩),
 (32,⟨4,56,.struct [(0,3),(1,3),(2,9),(3,30)],.agg [.int .i64 0,.int .i64 0,.str [],.slice 4 .nil []]⟩),
 (104,⟨2,16,.struct [(0,3),(1,3)],.agg [.int .i64 0,.int .i64 0]⟩),
 (106,⟨2,24,.struct [(0,3),(1,9)],.agg [.int .i64 0,.str []]⟩),
 (112,⟨1,24,.slice 3,.slice 1 .nil []⟩)]
theorem mx:fS ak vZ=true:=by kernel_rfl
theorem Ef:bU vZ z8 xp 2 Tryz.f77=true:=by kernel_rfl
theorem CN:ak.funcs[(77:Nat)]? =some Tryz.f77:=Tryz.func77
theorem amf:bU vZ RT Ev 1 Tryz.f144=true:=by kernel_rfl
theorem afd:ak.funcs[(144:Nat)]? =some Tryz.f144:=Tryz.func144
theorem amg:bU vZ RU BL 1 Tryz.f145=true:=by kernel_rfl
theorem afe:ak.funcs[(145:Nat)]? =some Tryz.f145:=Tryz.func145
theorem Eg:bU vZ Aa xq 3 Tryz.f178=true:=by kernel_rfl
theorem CO:ak.funcs[(178:Nat)]? =some Tryz.f178:=Tryz.func178
theorem Xi:bU vZ J1 NW 3 Tryz.f179=true:=by kernel_rfl
theorem Tr:ak.funcs[(179:Nat)]? =some Tryz.f179:=Tryz.func179
theorem Nh:bU vZ FP aod 2 Tryz.f215=true:=by kernel_rfl
theorem KF:ak.funcs[(215:Nat)]? =some Tryz.f215:=Tryz.func215
theorem amG:bU vZ Sm NV 2 Tryz.f217=true:=by kernel_rfl
theorem afE:ak.funcs[(217:Nat)]? =some Tryz.f217:=Tryz.func217
theorem amH:bU vZ Sn NX 2 Tryz.f218=true:=by kernel_rfl
theorem afF:ak.funcs[(218:Nat)]? =some Tryz.f218:=Tryz.func218
open Classical in
theorem aqF(l:List bQ):bF ak 144 [.slice 2 .no (l.map bQ.e)] (.bool (decide (ju l))):=by
 generalize aV:decide (ju l)=R;refine be mx afd amf fun aK=>?_;unfold RT;have eB:l.length<=68719476736:=by simp[ek,ec,eg,lim]at aK;omega
 simp;refine du [0,5,6] (fun i (_:Unit)=>[(7,.int .i64 i)]) l.length (fun i _=> ∀j,j<i->iv mq nJ l j) () bL (fun k ad=>Ω) (fun _ ae _=>?_) (fun i _ hi ae _=>?_)
 ·have:R=true:=by rw[<-aV,fc,Hb];exact ae
  rw[this];exact bJ
 ·obtain⟨b,ab⟩:∃b,l[i]? =some b:=⟨_,cc hi⟩;obtain⟨c,aw⟩:∃c,l[i-1]? =some c:=⟨_,cc Ω⟩;have cr:∀h,(l[i]'h)=b:=fun h=>by rw[cc hi]at ab;exact eQ ab
  have cI:¬iv mq nJ l i->R=false:=fun h=>by rw[<-aV,fJ];exact fun cf=>h (Hb.1 cf i hi)
  have cR:iv mq nJ l i->∀j,j<i+1->iv mq nJ l j:=fun h j iK=>by
   by_cases e:j=i
   ·rw[e];exact h
   ·exact ae j Ω
  have nD:iv mq nJ l i->mq b:=fun h=>(h b ab).1;have bD:iv mq nJ l i->0<i->c.v<b.v:=fun h bs=>(h b ab).2 c bs aw;have dY:mq b->(0<i->c.v<b.v)->iv mq nJ l i:=fun J U cb fW=>by rw[ab]at fW;cases fW;exact⟨J,fun cw bs hJ=>by rw[aw]at hJ;cases hJ;exact U bs⟩
  unfold mq at nD dY;by_cases g0:0<i/\¬c.v<b.v
  ·rw[cI (fun h=>g0.2 (bD h g0.1))];have asx:=g0.1;have wy:b.v<=c.v:=Ω
   exact bJ
  have aR:(decide (0<i)&&decide (b.v<=c.v))=false:=by simp;intro h;by_cases cz:c.v<b.v;exact cz;exact absurd ⟨h,cz⟩ g0
  by_cases g1:0<=b.v/\b.v<=100000;rotate_left
  ·rw[cI (fun h=>g1 (nD h).1)];have ll:decide (0<=b.v/\b.v<=100000)=false:=by simp only[fJ];exact g1
   by_cases bs:0<i
   ·have wy:¬b.v<=c.v:=by simp[bs]at aR;omega
    simp[hi,cr,aw];(with_reducible repeat' first|refine aj ?_|refine aF (dD _ _ _) ?_|refine aG (dD _ _ _) ?_|simp[cr,aw,hi,bs,wy,ll,g1]);all_goals simp[bz,Ev,aX,aY,aW]
   ·obtain rfl:i=0:=Ω
    simp[hi,cr,aw];(with_reducible repeat' first|refine aj ?_|refine aF (dD _ _ _) ?_|refine aG (dD _ _ _) ?_|simp[cr,aw,hi,ll,g1]);all_goals simp[bz,Ev,aX,aY,aW]
  have ll:decide (0<=b.v/\b.v<=100000)=true:=by simp only[fc];exact g1
  by_cases g2:b.k=2\/b.k=3;rotate_left
  ·rw[cI (fun h=>g2 (nD h).2)];have g21:(b.k !=2)=true:=by simp;omega
   have g22:(b.k !=3)=true:=by simp;omega
   by_cases bs:0<i
   ·have wy:¬b.v<=c.v:=by simp[bs]at aR;omega
    simp[hi,cr,aw];(with_reducible repeat' first|refine aj ?_|refine aF (dD _ _ _) ?_|refine aG (dD _ _ _) ?_|simp[cr,aw,hi,bs,wy,ll,g1,g21,g22]);all_goals simp[bz,Ev,aX,aY,aW]
   ·obtain rfl:i=0:=Ω
    simp[hi,cr,aw];(with_reducible repeat' first|refine aj ?_|refine aF (dD _ _ _) ?_|refine aG (dD _ _ _) ?_|simp[cr,aw,hi,ll,g1,g21,g22]);all_goals simp[bz,Ev,aX,aY,aW]
  have dR:=cR (dY ⟨g1,g2⟩ fun bs=>by simp[bs]at aR;omega);have Gf:((b.k !=2)=false)\/((b.k !=2)=true/\(b.k !=3)=false):=by
   rcases g2 with h|h
   ·left;simp[h]
   ·right;simp[h]
  rcases Gf with g21|⟨g21,g22⟩
  ·by_cases bs:0<i
   ·have wy:¬b.v<=c.v:=by simp[bs]at aR;omega
    simp[hi,cr,aw];(with_reducible repeat' first|refine aj ?_|refine aF (dD _ _ _) ?_|refine aG (dD _ _ _) ?_|simp[cr,aw,hi,bs,wy,ll,g1,g21]);all_goals exact bO.rng () hi dR bL
   ·obtain rfl:i=0:=Ω
    simp[hi,cr,aw];(with_reducible repeat' first|refine aj ?_|refine aF (dD _ _ _) ?_|refine aG (dD _ _ _) ?_|simp[cr,aw,hi,ll,g1,g21]);all_goals exact bO.rng () hi dR bL
  ·by_cases bs:0<i
   ·have wy:¬b.v<=c.v:=by simp[bs]at aR;omega
    simp[hi,cr,aw];(with_reducible repeat' first|refine aj ?_|refine aF (dD _ _ _) ?_|refine aG (dD _ _ _) ?_|simp[cr,aw,hi,bs,wy,ll,g1,g21,g22]);all_goals exact bO.rng () hi dR bL
   ·obtain rfl:i=0:=Ω
    simp[hi,cr,aw];(with_reducible repeat' first|refine aj ?_|refine aF (dD _ _ _) ?_|refine aG (dD _ _ _) ?_|simp[cr,aw,hi,ll,g1,g21,g22]);all_goals exact bO.rng () hi dR bL
theorem l9(a b:bj):bF ak 215 [a.e,b.e] (.bool (hY fq a b)):=by
 rw[<-WO];have aV:ub a b=(decide (a.v<b.v)||(a.v==b.v&&hF a.s b.s)):=rfl;rcases Int.lt_trichotomy a.v b.v with h|h|h
 ·have:ub a b=true:=by rw[aV];simp[h]
  rw[this];refine be mx KF Nh fun aK=>?_;unfold FP;exact bJ
 ·have J:¬a.v<b.v:=Ω
  have U:(a.v==b.v)=true:=by simp[h]
  have:ub a b=hF a.s b.s:=by rw[aV];simp[h]
  rw[this];refine be mx KF Nh fun aK=>?_;unfold FP;exact bJ
 ·have J:¬a.v<b.v:=Ω
  have U:¬a.v=b.v:=Ω
  have au:(a.v==b.v)=false:=by simp[U]
  have:ub a b=false:=by rw[aV];simp[J,U]
  rw[this];refine be mx KF Nh fun aK=>?_;unfold FP;exact bJ
def Vv(l:List cX)(i:Nat)(_:Unit):Prop:= ∀j,j<i->Bu l j
open Classical in
theorem ZX(l:List cX):bF ak 164 [.slice 5 .no (l.map cX.e)] (.bool (decide (wg l))):=by
 generalize aV:decide (wg l)=R;refine be eN afx amz fun aK=>?_;unfold Sf;have eB:l.length<=68719476736:=by simp[ek,ec,eg,lim]at aK;omega
 simp;refine du [0,5,6] (fun i (_:Unit)=>[(7,.int .i64 i)]) l.length (Vv l) () bL (fun k ad=>Ω) (fun _ ae _=>?_) (fun i _ hi ae _=>?_)
 ·have:R=decide (l.length<=400):=by rw[<-aV,decide_eq_decide];exact⟨fun h=>h.1,fun h=>⟨h,fun j iK=>ae j iK⟩⟩
  rw[this];simp;(with_reducible repeat' first|refine aj ?_|simp);simp[bz,NT,aX,aY,aW];all_goals(first|done|omega|(simp;done)|(simp;omega))
 ·obtain⟨b,ab⟩:∃b,l[i]? =some b:=⟨_,cc hi⟩;obtain⟨c,aw⟩:∃c,l[i-1]? =some c:=⟨_,cc Ω⟩;have cr:∀h,(l[i]'h)=b:=fun h=>by rw[cc hi]at ab;exact eQ ab
  have cI:¬Bu l i->R=false:=fun h=>by rw[<-aV,fJ];exact fun cf=>h (cf.2 i hi)
  have cR:Bu l i->Vv l (i+1) ():=fun h j iK=>by
   by_cases e:j=i
   ·rw[e];exact h
   ·exact ae j Ω
  simp[hi,cr,aw];((with_reducible repeat' first|refine aj ?_|refine aF (dD _ _ _) ?_|refine aG (dD _ _ _) ?_|refine aF (zE _) ?_|refine aG (zE _) ?_|simp[cr,aw,hi]|((first|apply bS|apply bW|apply bV)<;>intro h<;>try simp at h))<;>(try exact cy));all_goals first
   |(have ax:¬Bu l i:=by(intro cf;have J:=cf b ab;have U:=J.2.1 c;have au:=J.2.2;first|omega|(have a6:=U Ω aw;omega)|(rw[au]at h;cases h)|(simp_all;done)|(simp_all;omega))
     rw[cI ax]
     simp[bz,NT,aX,aY,aW]
     done)
   |(refine bO.rng () hi (cR fun cb fW=>?_) ?_
     ·rw[ab]at fW;cases fW
      refine⟨?_,fun cw bs hJ=>?_,?_⟩
      ·omega
      ·rw[aw]at hJ;cases hJ;omega
      ·first|assumption|simp_all
     ·exact bL)
def mR(n:Int):List Int->List Int
 |[]=>[n]
 |c::l=>if c<n then c::mR n l else if c=n then c::l else n::c::l
def tf(l:List Int):Prop:=l.Pairwise (· < ·)
theorem Vl(n:Int):∀(l:List Int) (k:Nat),(∀i c,i<k->l[i]? =some c->c<n)->(∀c,l[k]? =some c->n<=c)->k<=l.length->mR n l=if l[k]? =some n then l else l.take k++n::l.drop k
 |[],k,_,_,ad=>by simp at ad;subst ad;rfl
 |c::l,0,_,U,_=>by
  have:=U c rfl;by_cases e:c=n
  ·simp[mR,e]
  ·have au:¬c<n:=Ω
   simp[mR,au,e]
 |c::l,k+1,J,U,ad=>by have bs:=J 0 c Ω rfl;simp only[mR,if_pos bs,List.take_succ_cons,List.drop_succ_cons,bZ,List.getElem?_cons_succ];rw[Vl n l k (fun i d hi aR=>J (i+1) d Ω (by simpa using aR)) (fun d aR=>U d (by simpa using aR)) (by simpa using ad)];split<;>rfl
theorem ME{n m:Int}:∀{l:List Int},m∈mR n l↔m=n\/m∈l
 |[]=>by simp[mR]
 |c::l=>by
  simp only[mR];split
  ·simp only[fA,ME (l:=l)];constructor
   ·rintro(h|h|h)
    ·exact .inr (.inl h)
    ·exact .inl h
    ·exact .inr (.inr h)
   ·rintro(h|h|h)
    ·exact .inr (.inl h)
    ·exact .inl h
    ·exact .inr (.inr h)
  ·split
   ·rename_i h;subst h;simp
   ·simp
theorem Vk{n:Int}:∀{l:List Int},tf l->tf (mR n l)
 |[],_=>by simp[mR,tf]
 |c::l,h=>by
  obtain⟨J,U⟩:=ni.1 h;simp only[mR];split
  ·rename_i au;refine ni.2 ⟨fun m hm=>?_,Vk U⟩;rcases ME.1 hm with rfl|hm
   ·exact au
   ·exact J m hm
  ·split
   ·exact h
   ·refine ni.2 ⟨fun m hm=>?_,h⟩;rcases fA.1 hm with rfl|hm
    ·omega
    ·have:=J m hm;omega
theorem Vm(n:Int):∀l:List Int,(mR n l).length<=l.length+1
 |[]=>by simp[mR]
 |c::l=>by
  have:=Vm n l;simp only[mR];split
  ·simp;omega
  ·split<;>simp
theorem DG(l:List Int)(i:Nat):(dF l)[i]? =(l[i]?).map (ai.int .i64):=by simp[dF]
theorem e6(l:List Int):(dF l).length=l.length:=by simp[dF]
theorem zz:∀l:List Int,c2 (dF l)=dF l
 |[]=>by simp[dF,c2]
 |a::l=>by have:=zz l;simp only[dF,gS,c2,dt]at this⊢;rw[this]
theorem GZ(l:List Int)(n:Int)(k:Nat):c2 (ko k (dF l)++ai.int .i64 n::ng k (ko l.length (dF l)))=dF (ko k l++n::ng k l):=by
 have e:ko l.length (dF l)=dF l:=hQ (by simp[dF]);have aE:ko k (dF l)++ai.int .i64 n::ng k (dF l)=dF (ko k l++n::ng k l):=by simp only[dF,rO,gS,List.map_take,List.map_drop]
 rw[e,aE];exact zz _
theorem aqb(l:List Int)(n:Int)(ar:l.length<=1000000)(bu:tf l):bF ak 230 [.slice 1 .no (dF l),.int .i64 n] (.slice 1 .no (dF (mR n l))):=by
 refine be eN afo amq fun aK=>?_;unfold R6;simp;refine uY [0,1] (fun(k:Nat)=>[(5,.int .i64 k)]) (fun k=>k) (fun k=>k<=l.length/\∀c,l[k]? =some c->n<=c) l.length bL ⟨Ω,fun c h=>by simp at h⟩ (fun k ae _=>?_);obtain⟨ad,ae⟩:=ae;have lp:(∀c,0<k->l[k-1]? =some c->c<n)->mR n l=if l[k]? =some n then l else l.take k++n::l.drop k:=fun h=>Vl n l k (fun i c hi aw=>by
  obtain⟨d,aR⟩:∃d,l[k-1]? =some d:=⟨_,cc Ω⟩;have J:=h d Ω aR;rcases Nat.lt_or_ge i (k-1)with U|U
  ·have tG:=(eP.1 aw);have k1:=(eP.1 aR);have:=qg.1 bu i (k-1) tG.1 k1.1 U;rw[tG.2,k1.2]at this;omega
  ·have:i=k-1:=Ω
   subst this;rw[aR]at aw;cases aw;exact J) ae ad
 have lR:∀c,l[k]? =some c->∀h,((dF l)[k]'h)= .int .i64 c:=fun c h cf=>by have:=DG l k;rw[h,cc cf]at this;exact eQ this
 have dR:(0<k->∃d,l[k-1]? =some d/\d<n)->∀P:Prop,(mR n l=(if l[k]? =some n then l else l.take k++n::l.drop k)->P)->P:=fun h P K6=>K6 (lp fun c bs aw=>by obtain⟨d,aR,J⟩:=h bs;rw[aR]at aw;cases aw;exact J)
 rcases Nat.eq_zero_or_pos k with bs|fE
 ·have bp:decide ((0:Int)<k)=false:=by simp;omega
  refine dR (fun h=>Ω) _ fun e=>?_;by_cases hW:k<l.length
  ·obtain⟨c,aw⟩:∃c,l[k]? =some c:=⟨_,cc hW⟩;have hJ:=lR c aw;rw[aw]at e;by_cases q:c=n
   ·have gH:(c==n)=true:=by simp[q]
    rw[if_pos (by rw[q])]at e;rw[e];simp[bp,hW];((with_reducible repeat' first|refine aj ?_|simp[bp,hW,hJ,gH]|((first|apply bS|apply bW|apply bV)<;>intro h<;>try simp at h))<;>(try exact cy));all_goals simp[bz,zk,aX,aY,aW]
   ·have gH:(c==n)=false:=by simp[q]
    rw[if_neg (by simp[q])]at e;rw[e];simp[bp,hW];((with_reducible repeat' first|refine aj ?_|simp[bp,hW,hJ,gH]|((first|apply bS|apply bW|apply bV)<;>intro h<;>try simp at h))<;>(try exact cy));all_goals simp[bz,zk,aX,aY,aW]
    all_goals exact GZ l n k
  ·rw[qO Ω]at e;simp only[reduceCtorEq,if_false]at e;rw[e];simp[bp,hW];((with_reducible repeat' first|refine aj ?_|simp[bp,hW]|((first|apply bS|apply bW|apply bV)<;>intro h<;>try simp at h))<;>(try exact cy));all_goals simp[bz,zk,aX,aY,aW]
   all_goals exact GZ l n k
 ·obtain⟨d,aR⟩:∃d,l[k-1]? =some d:=⟨_,cc Ω⟩;have al:((k:Int)-1).toNat=k-1:=Ω
  have aE:∀h,((dF l)[k-1]'h)= .int .i64 d:=fun cf=>by have:=DG l (k-1);rw[aR,cc cf]at this;exact eQ this
  have jb:(0:Int)<k:=Ω
  have mm:k-1<l.length:=Ω
  by_cases ab:n<=d
  ·simp[fE,jb,al,aE,ab,mm];(with_reducible repeat' first|refine aj ?_|simp[fE,jb,al,aE,ab,mm]);refine bO.whl (k-1) Ω ⟨Ω,fun c aw=>by rw[aR]at aw;cases aw;exact ab⟩ ?_;have bn:((k-1:Nat):Int)=(k:Int)-1:=Ω
   simp[bn];exact bL
  ·refine dR (fun _=>⟨d,aR,Ω⟩) _ fun e=>?_;by_cases hW:k<l.length
   ·obtain⟨c,aw⟩:∃c,l[k]? =some c:=⟨_,cc hW⟩;have hJ:=lR c aw;rw[aw]at e;by_cases q:c=n
    ·have gH:(c==n)=true:=by simp[q]
     rw[if_pos (by rw[q])]at e;rw[e];simp[fE,jb,al,aE,ab,mm,hW];((with_reducible repeat' first|refine aj ?_|simp[fE,jb,al,aE,ab,mm,hW,hJ,gH]|((first|apply bS|apply bW|apply bV)<;>intro h<;>try simp at h))<;>(try exact cy));all_goals simp[bz,zk,aX,aY,aW]
    ·have gH:(c==n)=false:=by simp[q]
     rw[if_neg (by simp[q])]at e;rw[e];simp[fE,jb,al,aE,ab,mm,hW];(with_reducible repeat' first|refine aj ?_|simp[fE,jb,al,aE,ab,mm,hW,hJ,gH]);all_goals simp[bz,zk,aX,aY,aW]
     all_goals exact GZ l n k
   ·rw[qO Ω]at e;simp only[reduceCtorEq,if_false]at e;rw[e];simp[fE,jb,al,aE,ab,mm,hW];(with_reducible repeat' first|refine aj ?_|simp[fE,jb,al,aE,ab,mm,hW]);all_goals simp[bz,zk,aX,aY,aW]
    all_goals exact GZ l n k
def iq:T->List Int->List Int
 | .var n,l=>mR n l
 | .pair a b,l=>iq b (iq a l)
 |_,l=>l
theorem O9:∀(t:T) {l:List Int},tf l->tf (iq t l)
 | .var _,_,h=>Vk h
 | .pair a b,_,h=>O9 b (O9 a h)
 | .nil,_,h=>h
 | .sym _,_,h=>h
 | .num _,_,h=>h
theorem DY{m:Int}:∀(t:T) {l:List Int},m∈iq t l↔t.occ m=true\/m∈l
 | .var n,l=>by simp only[iq,ME,T.occ,dV];constructor<;>rintro(h|h)<;>first|exact .inr h|exact .inl h.symm
 | .pair a b,l=>by
  simp only[iq,DY b,DY a,T.occ,lH];constructor
  ·rintro(h|h|h)
   ·exact .inl (.inr h)
   ·exact .inl (.inl h)
   ·exact .inr h
  ·rintro((h|h)|h)
   ·exact .inr (.inl h)
   ·exact .inl h
   ·exact .inr (.inr h)
 | .nil,l=>by simp[iq,T.occ]
 | .sym _,l=>by simp[iq,T.occ]
 | .num _,l=>by simp[iq,T.occ]
theorem Cb:∀(t:T) (l:List Int),(iq t l).length<=l.length+t.size
 | .var n,l=>by have:=Vm n l;simp only[iq,T.size];omega
 | .pair a b,l=>by have J:=Cb a l;have U:=Cb b (iq a l);simp only[iq,T.size];omega
 | .nil,l=>by simp[iq]
 | .sym _,l=>by simp[iq]
 | .num _,l=>by simp[iq]
theorem EY:∀(t:T) (l:List Int),l.length+t.size<=1000000->tf l->bF ak 165 [t.e,.slice 1 .no (dF l)] (.slice 1 .no (dF (iq t l)))
 | .var n,l,ar,bu=>by
  simp only[T.size]at ar;have key:=aqb l n Ω bu;refine be eN CM Ee fun aK=>?_;unfold z7;simp;(with_reducible repeat' first|refine aj ?_|refine aF key ?_|refine aG key ?_|simp);all_goals simp[bz,BN,aX,aY,aW]
  all_goals simp[iq,zz]
 | .pair a b,l,ar,bu=>by
  simp only[T.size]at ar;have DQ:=Cb a l;have aU:=EY a l Ω bu;have bo:=EY b (iq a l) Ω (O9 a bu);refine be eN CM Ee fun aK=>?_;unfold z7;simp;refine du [15,16] (fun i (_:Unit)=>[(1,.slice 1 .no (dF (if i=0 then l else if i=1 then iq a l else iq b (iq a l)))),(17,.int .i64 i)]) 2 (fun _ _=>True) () bL trivial (fun _ _ _=>?_) (fun i _ hi _ _=>?_)
  ·simp;(with_reducible repeat' first|refine aj ?_|simp);simp[bz,BN,aX,aY,aW];simp[iq,zz]
  ·rcases(by omega:i=0\/i=1)with rfl|rfl
   ·simp;((with_reducible repeat' first|refine aj ?_|refine aF aU ?_|refine aG aU ?_|simp|((first|apply bS|apply bW|apply bV)<;>intro h<;>try simp at h))<;>(try exact cy));exact bO.rng () hi trivial bL
   ·simp;((with_reducible repeat' first|refine aj ?_|refine aF bo ?_|refine aG bo ?_|simp|((first|apply bS|apply bW|apply bV)<;>intro h<;>try simp at h))<;>(try exact cy));exact bO.rng () hi trivial bL
 | .nil,l,ar,bu=>by refine be eN CM Ee fun aK=>?_;unfold z7;simp;refine du [15,16] (fun i (_:Unit)=>[(1,.slice 1 .no (dF l)),(17,.int .i64 i)]) 0 (fun _ _=>True) () bL trivial (fun _ _ _=>?_) (fun i _ hi _ _=>Ω);simp;((with_reducible repeat' first|refine aj ?_|simp|((first|apply bS|apply bW|apply bV)<;>intro h<;>try simp at h))<;>(try exact cy));simp[bz,BN,aX,aY,aW];simp[iq,zz]
 | .sym _,l,ar,bu=>by refine be eN CM Ee fun aK=>?_;unfold z7;simp;refine du [15,16] (fun i (_:Unit)=>[(1,.slice 1 .no (dF l)),(17,.int .i64 i)]) 0 (fun _ _=>True) () bL trivial (fun _ _ _=>?_) (fun i _ hi _ _=>Ω);simp;(with_reducible repeat' first|refine aj ?_|simp);simp[bz,BN,aX,aY,aW];simp[iq,zz]
 | .num _,l,ar,bu=>by refine be eN CM Ee fun aK=>?_;unfold z7;simp;refine du [15,16] (fun i (_:Unit)=>[(1,.slice 1 .no (dF l)),(17,.int .i64 i)]) 0 (fun _ _=>True) () bL trivial (fun _ _ _=>?_) (fun i _ hi _ _=>Ω);simp;(with_reducible repeat' first|refine aj ?_|simp);simp[bz,BN,aX,aY,aW];simp[iq,zz]
def aje(s:List dM)(a b:T)(i:Nat)(_:Unit):Prop:=(1<=i->a.has s=false)/\(2<=i->b.has s=false)
theorem IX(s:List dM):∀t:T,bF ak 77 [t.e,.str s] (.bool (t.has s))
 | .pair a b=>by
  have ds:=IX s a;have dv:=IX s b;refine be mx CN Ef fun aK=>?_;unfold z8;simp;refine du [1,2,8,9] (fun i (_:Unit)=>[(10,.int .i64 i)]) 2 (aje s a b) () bL ⟨fun h=>Ω,fun h=>Ω⟩ (fun _ ae _=>?_) (fun i _ hi ae _=>?_)
  ·simp;(with_reducible repeat' first|refine aj ?_|simp);simp[bz,xp,aX,aY,aW];simp[T.has,ae.1,ae.2]
  ·rcases(by omega:i=0\/i=1)with rfl|rfl
   ·cases bu:a.has s
    ·rw[bu]at ds;simp;((with_reducible repeat' first|refine aj ?_|refine aF ds ?_|refine aG ds ?_|simp|((first|apply bS|apply bW|apply bV)<;>intro h<;>try simp at h))<;>(try exact cy));exact bO.rng () hi ⟨fun _=>bu,fun h=>Ω⟩ bL
    ·rw[bu]at ds;simp;((with_reducible repeat' first|refine aj ?_|refine aF ds ?_|refine aG ds ?_|simp|((first|apply bS|apply bW|apply bV)<;>intro h<;>try simp at h))<;>(try exact cy));simp[bz,xp,aX,aY,aW];simp[T.has,bu]
   ·cases ab:b.has s
    ·rw[ab]at dv;simp;((with_reducible repeat' first|refine aj ?_|refine aF dv ?_|refine aG dv ?_|simp|((first|apply bS|apply bW|apply bV)<;>intro h<;>try simp at h))<;>(try exact cy));exact bO.rng () hi ⟨fun _=>ae.1 Ω,fun _=>ab⟩ bL
    ·rw[ab]at dv;simp;((with_reducible repeat' first|refine aj ?_|refine aF dv ?_|refine aG dv ?_|simp|((first|apply bS|apply bW|apply bV)<;>intro h<;>try simp at h))<;>(try exact cy));simp[bz,xp,aX,aY,aW];simp[T.has,ab]
 | .sym n=>by
  refine be mx CN Ef fun aK=>?_;unfold z8;simp;refine du [1,2,8,9] (fun i (_:Unit)=>[(10,.int .i64 i)]) 0 (fun i _=>True) () bL trivial (fun _ ae _=>?_) (fun i _ hi ae _=>Ω);simp;(with_reducible repeat' first|refine aj ?_|simp);all_goals simp[bz,xp,aX,aY,aW]
  all_goals simp[T.has]
 | .num n=>by
  refine be mx CN Ef fun aK=>?_;unfold z8;simp;refine du [1,2,8,9] (fun i (_:Unit)=>[(10,.int .i64 i)]) 0 (fun i _=>True) () bL trivial (fun _ ae _=>?_) (fun i _ hi ae _=>Ω);simp;(with_reducible repeat' first|refine aj ?_|simp);all_goals simp[bz,xp,aX,aY,aW]
  all_goals simp[T.has]
 | .var n=>by
  refine be mx CN Ef fun aK=>?_;unfold z8;simp;refine du [1,2,8,9] (fun i (_:Unit)=>[(10,.int .i64 i)]) 0 (fun i _=>True) () bL trivial (fun _ ae _=>?_) (fun i _ hi ae _=>Ω);simp;(with_reducible repeat' first|refine aj ?_|simp);all_goals simp[bz,xp,aX,aY,aW]
  all_goals simp[T.has]
 | .nil=>by
  refine be mx CN Ef fun aK=>?_;unfold z8;simp;refine du [1,2,8,9] (fun i (_:Unit)=>[(10,.int .i64 i)]) 0 (fun i _=>True) () bL trivial (fun _ ae _=>?_) (fun i _ hi ae _=>Ω);simp;(with_reducible repeat' first|refine aj ?_|simp);all_goals simp[bz,xp,aX,aY,aW]
  all_goals simp[T.has]
def pd(l:List bQ)(o:ba (List bQ)):ai:= .tuple [.slice 2 .no ((o.getD l).map bQ.e),.bool o.isSome]
@[simp]theorem atP(S:aI->Prop)(l:List bQ)(o:ba (List bQ)):aD S (pd l o)=True:=by simp[pd]
def wZ(l:List bQ)(n:Int)(i:Nat):Prop:=i<=l.length/\∀j y,j<i->l[j]? =some y->y.v<n
theorem wZ.none{l:List bQ}{n:Int}{i:Nat}(h:wZ l n i)(bu:l.Pairwise fun x y=>x.v<y.v)(aw:∀c,l[i]? =some c->n<c.v):lA l n=none:=yU.2 fun x af=>by
 obtain⟨j,eh,rfl⟩:=nY af;have e:=cc eh;rcases Nat.lt_or_ge j i with J|J
 ·have:=h.2 j _ J e;omega
 ·have Gx:i<l.length:=Ω
  have aE:=cc Gx;have au:=aw _ aE;rcases Nat.lt_or_ge i j with U|U
  ·have:=qg.1 bu i j Gx eh U;omega
  ·obtain rfl:i=j:=Ω
   omega
theorem wZ.ins{l:List bQ}{n k:Int}{i:Nat}(h:wZ l n i)(aw:∀c,l[i]? =some c->n<c.v):lY ⟨n,k⟩ l=l.take i++⟨n,k⟩::l.drop i:=Vn ⟨n,k⟩ l i (fun j y J U=>h.2 j y J U) (fun y aO=>by have:=aw y aO;simp;omega) h.1
theorem wZ.step{l:List bQ}{n:Int}{i:Nat}{b:bQ}(h:wZ l n i)(ab:l[i]? =some b)(ax:b.v<n):wZ l n (i+1):=⟨(eP.1 ab).1,fun j y J U=>by
 rcases(by omega:j<i\/j=i)with au|rfl
 ·exact h.2 j y au U
 ·rw[ab]at U;cases U;exact ax⟩
theorem aqo(l:List bQ)(ar:l.length<=1000000)(bu:l.Pairwise fun x y=>x.v<y.v)(n k:Int):bF ak 178 [.slice 2 .no (l.map bQ.e),(T.var n).e,.int .i64 k] (pd l (kC l (.var n) k)):=by
 generalize dp:kC l (.var n) k=O;have ed:(match lA l n with|some bT=>if bT=k then some l else none|none=>some (lY ⟨n,k⟩ l))=O:=by rw[<-dp];rfl
 clear dp;refine be mx CO Eg fun aK=>?_;unfold Aa;simp;refine uY [0,2,4] (fun(i:Nat)=>[(8,.int .i64 i)]) (fun i=>l.length-i) (wZ l n) 0 bL ⟨Ω,fun j y h=>Ω⟩ (fun i ae _=>?_);have ad:=ae.1;by_cases hi:i<l.length
 ·obtain⟨b,ab,cr⟩:=dB hi;rcases Int.lt_trichotomy b.v n with h|h|h
  ·have ag:=ae.step ab h;clear ed ae ab bu;simp[hi,cr,h];((with_reducible repeat' first|refine aj ?_|simp[hi,cr,h]|((first|apply bS|apply bW|apply bV)<;>intro h<;>try simp at h))<;>(try exact cy));exact bO.whl (i+1) Ω ag bL
  ·have a7:lA l n=some b.k:=by rw[<-h];exact Hc bu (dE ab)
   have J:¬b.v<n:=Ω
   have U:(b.v==n)=true:=by simp[h]
   rw[a7]at ed;simp only at ed;subst ed;clear ae ab bu a7;simp[hi,cr,J,U];(with_reducible repeat' first|refine aj ?_|simp[hi,cr,J,U]);all_goals simp[bz,xq,aX,aY,aW]
   all_goals(by_cases e:b.k=k<;>simp[pd,e])
  ·have J:¬b.v<n:=Ω
   have U:(b.v==n)=false:=by simp;omega
   have aw:∀c,l[i]? =some c->n<c.v:=fun c aw=>by rw[ab]at aw;cases aw;exact h
   rw[ae.none bu aw]at ed;simp only[ae.ins aw]at ed;subst ed;clear ae ab bu aw;simp[hi,cr,J,U];(with_reducible repeat' first|refine aj ?_|simp[hi,cr,J,U]);all_goals simp[bz,xq,aX,aY,aW]
   all_goals simp[pd]
   rw[hQ (by simp:(l.map bQ.e).length<=l.length),<-List.map_take,<-List.map_drop,<-gS,<-rO];exact OD _
 ·have aw:∀c,l[i]? =some c->n<c.v:=fun c aw=>by rw[qO Ω]at aw;cases aw
  rw[ae.none bu aw]at ed;simp only[ae.ins aw]at ed;have Gx:i=l.length:=Ω
  clear ae bu aw;subst ed;subst Gx;simp;(with_reducible repeat' first|refine aj ?_|simp);all_goals simp[bz,xq,aX,aY,aW]
  all_goals simp[pd]
  rw[hQ (by simp:(l.map bQ.e).length<=l.length),show [(⟨n,k⟩:bQ).e]=[(⟨n,k⟩:bQ)].map bQ.e from rfl,<-rO];exact OD _
theorem Z1(l:List bQ)(ar:l.length<=1000000)(bu:l.Pairwise fun x y=>x.v<y.v)(t:T)(k:Int):bF ak 178 [.slice 2 .no (l.map bQ.e),t.e,.int .i64 k] (pd l (kC l t k)):=by
 cases t with
 |var n=>exact aqo l ar bu n k
 |nil=>
  refine be mx CO Eg fun aK=>?_;unfold Aa;simp;(with_reducible repeat' first|refine aj ?_|simp);all_goals simp[bz,xq,aX,aY,aW]
  all_goals(by_cases e:0=k<;>simp[pd,kC,e])
 |sym n=>
  refine be mx CO Eg fun aK=>?_;unfold Aa;simp;(with_reducible repeat' first|refine aj ?_|simp);all_goals simp[bz,xq,aX,aY,aW]
  all_goals(by_cases e:2=k<;>simp[pd,kC,e])
 |num n=>
  refine be mx CO Eg fun aK=>?_;unfold Aa;simp;(with_reducible repeat' first|refine aj ?_|simp);all_goals simp[bz,xq,aX,aY,aW]
  all_goals(by_cases e:3=k<;>simp[pd,kC,e])
 |pair a b=>
  refine be mx CO Eg fun aK=>?_;unfold Aa;simp;(with_reducible repeat' first|refine aj ?_|simp);all_goals simp[bz,xq,aX,aY,aW]
  all_goals(by_cases e:4=k<;>simp[pd,kC,e])
theorem aak(s:List aq)(v:Int):hz s (.var v)=bX s v:=rfl
theorem O3{s:List aq}(ag:eU s){l:List bQ}(ar:ju l):bF ak 217 [.slice 5 .no (s.map aq.e),.slice 2 .no (l.map bQ.e)] (gj (gq s l [])):=by
 have yC:=tU ar;refine be mx afE amG fun aK=>?_;unfold Sm;simp;refine du [0,11,12] (fun i (a:List bQ)=>[(6,.slice 2 .no (a.map bQ.e)),(13,.int .i64 i)]) l.length (Vt s l) [] bL ⟨⟨Ψ,Ψ⟩,rfl⟩ (fun a ae _=>?_) (fun i a hi ae _=>?_)
 ·obtain⟨_,ae⟩:=ae;rw[List.drop_length]at ae;simp only[gq]at ae;rw[<-ae];simp;(with_reducible repeat' first|refine aj ?_|simp);simp[bz,NV,aX,aY,aW];simp[gj]
 ·obtain⟨bu,ae⟩:=ae;obtain⟨b,ab,cr⟩:=dB hi;have o1:=ar.at' b (dE ab);rw[lI hi,cr]at ae;simp only[gq]at ae;have lz:=IW s ag.len (.var b.v);rw[aak]at lz;have eS:=Z1 a (by have:=tU bu;omega) bu.asc (bX s b.v) b.k;simp[hi,cr];cases ed:kC a (bX s b.v) b.k with
  |none=>rw[ed]at ae eS;simp only at ae;rw[<-ae];simp only[pd]at eS;(with_reducible repeat' first|refine aj ?_|refine aF (km _) ?_|refine aG (km _) ?_|refine aF lz ?_|refine aG lz ?_|refine aF eS ?_|refine aG eS ?_|simp[cr,hi]);simp[bz,NV,aX,aY,aW];simp[gj]
  |some bq=>rw[ed]at ae eS;simp only[pd]at eS;(with_reducible repeat' first|refine aj ?_|refine aF (km _) ?_|refine aG (km _) ?_|refine aF lz ?_|refine aG lz ?_|refine aF eS ?_|refine aG eS ?_|simp[cr,hi]);exact bO.rng bq hi ⟨Jn bu (BX ag o1.1) o1.2 ed,ae⟩ bL
open Classical in
theorem aqG(l:List bj):bF ak 145 [.slice 2 .no (l.map bj.e)] (.bool (decide (h6 l))):=by
 generalize aV:decide (h6 l)=R;refine be mx afe amg fun aK=>?_;unfold RU;have eB:l.length<=68719476736:=by simp[ek,ec,eg,lim]at aK;omega
 simp;refine du [0,5,6] (fun i (_:Unit)=>[(7,.int .i64 i)]) l.length (fun i _=> ∀j,j<i->iv kx kQ l j) () bL (fun k ad=>Ω) (fun _ ae _=>?_) (fun i _ hi ae _=>?_)
 ·have:R=true:=by rw[<-aV,fc,Hr];exact ae
  rw[this];exact bJ
 ·obtain⟨b,ab⟩:∃b,l[i]? =some b:=⟨_,cc hi⟩;obtain⟨c,aw⟩:∃c,l[i-1]? =some c:=⟨_,cc Ω⟩;have cr:∀h,(l[i]'h)=b:=fun h=>by rw[cc hi]at ab;exact eQ ab
  have cI:¬iv kx kQ l i->R=false:=fun h=>by rw[<-aV,fJ];exact fun cf=>h (Hr.1 cf i hi)
  have cR:iv kx kQ l i->∀j,j<i+1->iv kx kQ l j:=fun h j iK=>by
   by_cases e:j=i
   ·rw[e];exact h
   ·exact ae j Ω
  have eM:∀p:Prop,(p->e1)->(iv kx kQ l i->p)->R=false:=fun p J U=>cI fun h=>J (U h);have nD:iv kx kQ l i->kx b:=fun h=>(h b ab).1;have bD:iv kx kQ l i->0<i->hY fq c b=true:=fun h bs=>by simpa[hY,kQ]using(h b ab).2 c bs aw
  have dY:kx b->(0<i->hY fq c b=true)->iv kx kQ l i:=fun J U cb fW=>by rw[ab]at fW;cases fW;exact⟨J,fun cw bs hJ=>by rw[aw]at hJ;cases hJ;simpa[hY,kQ]using U bs⟩
  unfold kx at nD dY;by_cases g4:0<i
  ·cases g5:hY fq c b
   ·rw[eM _ (fun h=>by rw[h]at g5;cases g5) (fun h=>bD h g4)];simp[hi,cr,aw];(with_reducible repeat' first|refine aj ?_|refine aF (l9 _ _) ?_|refine aG (l9 _ _) ?_|simp[cr,aw,hi,g4,g5]);all_goals simp[bz,BL,aX,aY,aW]
   ·by_cases g1:0<=b.v/\b.v<=100000;rotate_left
    ·rw[eM _ (fun h=>g1 h) (fun h=>(nD h).1)];have ll:decide (0<=b.v/\b.v<=100000)=false:=by simp only[fJ];exact g1
     simp[hi,cr,aw];(with_reducible repeat' first|refine aj ?_|refine aF (l9 _ _) ?_|refine aG (l9 _ _) ?_|refine aF (dD _ _ _) ?_|refine aG (dD _ _ _) ?_|simp[cr,aw,hi,g4,g5,ll,g1]);all_goals simp[bz,BL,aX,aY,aW]
    have ll:decide (0<=b.v/\b.v<=100000)=true:=by simp only[fc];exact g1
    cases g3:jX b.s
    ·rw[eM _ (fun h=>by rw[h]at g3;cases g3) (fun h=>(nD h).2)];have ck:=hk b.s;rw[g3]at ck;simp[hi,cr,aw];(with_reducible repeat' first|refine aj ?_|refine aF (l9 _ _) ?_|refine aG (l9 _ _) ?_|refine aF (dD _ _ _) ?_|refine aG (dD _ _ _) ?_|refine aF ck ?_|refine aG ck ?_|simp[cr,aw,hi,g4,g5,ll,g1]);all_goals simp[bz,BL,aX,aY,aW]
    have ck:=hk b.s;rw[g3]at ck;have dR:=cR (dY ⟨g1,g3⟩ fun _=>g5);simp[hi,cr,aw];(with_reducible repeat' first|refine aj ?_|refine aF (l9 _ _) ?_|refine aG (l9 _ _) ?_|refine aF (dD _ _ _) ?_|refine aG (dD _ _ _) ?_|refine aF ck ?_|refine aG ck ?_|simp[cr,aw,hi,g4,g5,ll,g1]);all_goals exact bO.rng () hi dR bL
  ·obtain rfl:i=0:=Ω
   by_cases g1:0<=b.v/\b.v<=100000;rotate_left
   ·rw[eM _ (fun h=>g1 h) (fun h=>(nD h).1)];have ll:decide (0<=b.v/\b.v<=100000)=false:=by simp only[fJ];exact g1
    simp[hi,cr,aw];(with_reducible repeat' first|refine aj ?_|refine aF (l9 _ _) ?_|refine aG (l9 _ _) ?_|refine aF (dD _ _ _) ?_|refine aG (dD _ _ _) ?_|simp[cr,aw,hi,g4,ll,g1]);all_goals simp[bz,BL,aX,aY,aW]
   have ll:decide (0<=b.v/\b.v<=100000)=true:=by simp only[fc];exact g1
   cases g3:jX b.s
   ·rw[eM _ (fun h=>by rw[h]at g3;cases g3) (fun h=>(nD h).2)];have ck:=hk b.s;rw[g3]at ck;simp[hi,cr,aw];(with_reducible repeat' first|refine aj ?_|refine aF (l9 _ _) ?_|refine aG (l9 _ _) ?_|refine aF (dD _ _ _) ?_|refine aG (dD _ _ _) ?_|refine aF ck ?_|refine aG ck ?_|simp[cr,aw,hi,g4,ll,g1]);all_goals simp[bz,BL,aX,aY,aW]
   have ck:=hk b.s;rw[g3]at ck;have dR:=cR (dY ⟨g1,g3⟩ fun h=>absurd h g4);simp[hi,cr,aw];(with_reducible repeat' first|refine aj ?_|refine aF (l9 _ _) ?_|refine aG (l9 _ _) ?_|refine aF (dD _ _ _) ?_|refine aG (dD _ _ _) ?_|refine aF ck ?_|refine aG ck ?_|simp[cr,aw,hi,g4,ll,g1]);all_goals exact bO.rng () hi dR bL
def pU(s:List dM)(bf:List Int)(l:List bj):List bj:=bf.foldl (fun a v=>kv fq ⟨v,s⟩ a) l
theorem KJ(s:List dM):∀(bf:List Int) {l:List bj},hZ fq l->hZ fq (pU s bf l)
 |[],_,h=>h
 |v::bf,_,h=>KJ s bf (L0 l4 h)
theorem Wz(s:List dM){x:bj}:∀(bf:List Int) {l:List bj},x∈pU s bf l↔x∈l\/(x.s=s/\x.v∈bf)
 |[],l=>by simp[pU]
 |v::bf,l=>by
  have:=Wz s (x:=x) bf (l:=kv fq ⟨v,s⟩ l);rw[show pU s (v::bf) l=pU s bf (kv fq ⟨v,s⟩ l)from rfl,this,Hu l4,fA];constructor
  ·rintro((rfl|h)|⟨J,U⟩)
   ·exact .inr ⟨rfl,.inl rfl⟩
   ·exact .inl h
   ·exact .inr ⟨J,.inr U⟩
  ·rintro(h|⟨J,U|U⟩)
   ·exact .inl (.inr h)
   ·refine .inl (.inl ?_);cases x;simp_all
   ·exact .inr ⟨J,U⟩
theorem TB(s:List dM):∀(bf:List Int) (l:List bj),(pU s bf l).length<=l.length+bf.length
 |[],l=>by simp[pU]
 |v::bf,l=>by have J:=TB s bf (kv fq ⟨v,s⟩ l);have U:=L2 (c:=fq) (⟨v,s⟩:bj) l;rw[show pU s (v::bf) l=pU s bf (kv fq ⟨v,s⟩ l)from rfl];simp only[pD];omega
theorem afQ{t:T}{s:List dM}(cz:t.has s=false){l:List bj}(bu:hZ fq l):mf l t s=some (pU s (iq t []) l):=Jo cz (KJ s _ bu) fun x=>by rw[Wz,DY];simp
def DK(l:List bj)(bf:List Int)(s:List dM)(i:Nat)(a:List bj):Prop:=a=pU s (bf.take i) l
def A9(a:List bj)(m:bj)(k:Nat):Prop:=k<=a.length/\∀j y,j<k->a[j]? =some y->fq y m<0
theorem A9.step{a:List bj}{m:bj}{k:Nat}{b:bj}(h:A9 a m k)(ab:a[k]? =some b)(ax:fq b m<0):A9 a m (k+1):=⟨(eP.1 ab).1,fun j y J U=>by
 rcases(by omega:j<k\/j=k)with au|rfl
 ·exact h.2 j y au U
 ·rw[ab]at U;cases U;exact ax⟩
theorem A9.fin{a:List bj}{m:bj}{k:Nat}(h:A9 a m k)(aw:∀y,a[k]? =some y->0<=fq y m):kv fq m a=if(match a[k]? with|some y=>decide (fq y m=0)|none=>false)=true then a else a.take k++m::a.drop k:=(L1 l4 m a k (fun j y J U=>h.2 j y J U) aw h.1).trans (by cases a[k]?<;>rfl)
theorem WM(a:List bj)(k:Nat)(m:bj):ko k (a.map bj.e)++m.e::ng k (a.map bj.e)=(a.take k++m::a.drop k).map bj.e:=by simp
theorem Bp(a:List bj)(k:Nat)(m:bj):c2 (ko k (a.map bj.e)++m.e::ng k (a.map bj.e))=ko k (a.map bj.e)++m.e::ng k (a.map bj.e):=by rw[WM,OE]
theorem Bo(S:aI->Prop)(a:List bj)(k:Nat)(m:bj):aH S (ko k (a.map bj.e)++m.e::ng k (a.map bj.e))=True:=by rw[WM,V1]
theorem WL(a:List bj)(m:bj):a.map bj.e++[m.e]=(a++[m]).map bj.e:=by simp
theorem Bn(a:List bj)(m:bj):c2 (a.map bj.e++[m.e])=a.map bj.e++[m.e]:=by rw[WL,OE]
theorem Bm(S:aI->Prop)(a:List bj)(m:bj):aH S (a.map bj.e++[m.e])=True:=by rw[WL,V1]
theorem aqp(l:List bj)(ar:l.length<=68719470000)(t:T)(aN:t.size<=5000)(s:List dM)(bu:hZ fq l):bF ak 179 [.slice 2 .no (l.map bj.e),t.e,.str s] (jy (mf l t s)):=by
 have kN:=IX s t;cases cz:t.has s;rotate_left
 ·have bs:mf l t s=none:=by simp[mf,cz]
  rw[bs];rw[cz]at kN;refine be mx Tr Xi fun aK=>?_;unfold J1;simp;(with_reducible repeat' first|refine aj ?_|refine aF kN ?_|refine aG kN ?_|simp);all_goals simp[bz,NW,aX,aY,aW]
  all_goals simp[jy]
 ·rw[cz]at kN;have ed:=afQ cz bu;have jG:=Cb t [];have gn:=EY t [] (by simp;omega) (by simp[tf]);have Ay:dF []=[]:=rfl;rw[Ay]at gn;rw[ed];clear ed cz;generalize iq t []=bf at gn jG⊢;have k5:bf.length<=5000:=by simp at jG;omega
  generalize hb:pU s bf l=F;refine be mx Tr Xi fun aK=>?_;unfold J1;simp;(with_reducible repeat' first|refine aj ?_|refine aF kN ?_|refine aG kN ?_|refine aF gn ?_|refine aG gn ?_|simp[e6]);refine du [2,17,18] (fun i (a:List bj)=>[(0,.slice 2 .no (a.map bj.e)),(19,.int .i64 i)]) bf.length (DK l bf s) l ⟨by simp[fresh,aH,aD,b7,inObs,Pv.look,e6],ee (by simp[fresh,aH,aD,b7,inObs,Pv.look,e6]),ef (by simp[fresh,aH,aD,dW,inObs,Pv.look,e6]),Ψ⟩ (by simp[DK,pU]) (fun a ae _=>?_) (fun i a hi ae _=>?_)
  ·rw[DK,jJ,hb]at ae;subst ae;simp[e6];(with_reducible repeat' first|refine aj ?_|simp[e6]);all_goals simp[bz,NW,aX,aY,aW]
   all_goals simp[jy]
  ·obtain⟨v,aB⟩:∃v,bf[i]? =some v:=⟨_,cc hi⟩;have rk:∀h,((dF bf)[i]'h)= .int .i64 v:=fun cf=>by have:=DG bf i;rw[aB,cc cf]at this;exact eQ this
   have sc:hZ fq a:=by rw[ae];exact KJ s _ bu
   have sd:a.length<=68719475000:=by have:=TB s (bf.take i) l;rw[ae];simp at this⊢;omega
   have fD:DK l bf s (i+1) (kv fq ⟨v,s⟩ a):=by rw[DK,ma,aB,ae];simp[pU]
   generalize hm:(⟨v,s⟩:bj)=m at fD;have ah2:m.v=v:=by rw[<-hm]
   have vj:m.s=s:=by rw[<-hm]
   subst ah2;subst vj;clear ae hb;simp[hi,rk,e6];(with_reducible repeat' first|refine aj ?_|simp[hi,rk,e6]);refine uY [0,2,10,17,18,19] (fun(k:Nat)=>[(11,.int .i64 k)]) (fun k=>a.length-k) (A9 a m) 0 ⟨by simp[fresh,aH,aD,b7,inObs,Pv.look,e6],ee (by simp[fresh,aH,aD,b7,inObs,Pv.look,e6]),ef (by simp[fresh,aH,aD,dW,inObs,Pv.look,e6]),Ψ⟩ ⟨Ω,fun j y h=>Ω⟩ (fun k ae _=>?_);have ad:=ae.1;by_cases hC:k<a.length
   ·obtain⟨b,ab,cr⟩:=dB hC;cases bD:hY fq b m
    ·have vf:0<=fq b m:=by simpa[hY]using bD
     have dR:=ae.fin (fun y aO=>by rw[ab]at aO;cases aO;exact vf);rw[ab]at dR;cases Gw:hY fq m b
     ·have hle:0<=fq m b:=by simpa[hY]using Gw
      have bs:fq b m=0:=by have:=l4.neg b m;omega
      rw[if_pos (by simp[bs])]at dR;rw[dR]at fD;clear ae ab dR sd sc;simp[hC,cr];((with_reducible repeat' first|refine aj ?_|refine aF (l9 _ _) ?_|refine aG (l9 _ _) ?_|simp[hC,cr,bD,Gw]|((first|apply bS|apply bW|apply bV)<;>intro h<;>try simp at h))<;>(try exact cy));all_goals exact bO.rng a hi fD ⟨by simp[fresh,aH,aD,b7,inObs,Pv.look,e6],ee (by simp[fresh,aH,aD,b7,inObs,Pv.look,e6]),ef (by simp[fresh,aH,aD,dW,inObs,Pv.look,e6]),Ψ⟩
     ·have hle:fq m b<0:=by simpa[hY]using Gw
      have bs:¬fq b m=0:=by have:=l4.neg b m;omega
      rw[if_neg (by simp[bs])]at dR;rw[dR]at fD;clear ae ab dR sc;simp[hC,cr];((with_reducible repeat' first|refine aj ?_|refine aF (l9 _ _) ?_|refine aG (l9 _ _) ?_|simp[hC,cr,bD,Gw]|((first|apply bS|apply bW|apply bV)<;>intro h<;>try simp at h))<;>(try exact cy));all_goals first|(refine⟨by unfold lim;omega,?_⟩)|skip
      all_goals(with_reducible repeat' first|refine aj ?_|simp)
      all_goals first|(refine⟨by unfold lim;omega,?_⟩)|skip
      all_goals((with_reducible repeat' first|refine aj ?_|simp|((first|apply bS|apply bW|apply bV)<;>intro h<;>try simp at h))<;>(try exact cy))
      all_goals exact bO.rng _ hi fD ⟨by simp[fresh,aH,aD,b7,inObs,Pv.look,e6,hQ,Bp,Bo,Bn,Bm],ee (by simp[fresh,aH,aD,b7,inObs,Pv.look,e6,hQ,Bp,Bo,Bn,Bm]),ef (by simp[fresh,aH,aD,dW,inObs,Pv.look,e6,hQ,Bp,Bo,Bn,Bm]),Ψ⟩
    ·have wK:fq b m<0:=by simpa[hY]using bD
     have ag:=ae.step ab wK;clear ae ab sc fD;simp[hC,cr];((with_reducible repeat' first|refine aj ?_|refine aF (l9 _ _) ?_|refine aG (l9 _ _) ?_|simp[hC,cr,bD]|((first|apply bS|apply bW|apply bV)<;>intro h<;>try simp at h))<;>(try exact cy));all_goals exact bO.whl (k+1) Ω ag ⟨by simp[fresh,aH,aD,b7,inObs,Pv.look,e6],ee (by simp[fresh,aH,aD,b7,inObs,Pv.look,e6]),ef (by simp[fresh,aH,aD,dW,inObs,Pv.look,e6]),Ψ⟩
   ·have dR:=ae.fin (fun y aO=>by rw[qO Ω]at aO;cases aO);rw[qO Ω]at dR;simp only[hl,if_false]at dR;rw[dR]at fD;have hW:k=a.length:=Ω
    clear ae dR sc;subst hW;simp;(with_reducible repeat' first|refine aj ?_|simp);all_goals first|(refine⟨by unfold lim;omega,?_⟩)|skip
    all_goals(with_reducible repeat' first|refine aj ?_|simp)
    all_goals first|(refine⟨by unfold lim;omega,?_⟩)|skip
    all_goals(with_reducible repeat' first|refine aj ?_|simp)
    all_goals exact bO.rng _ hi fD ⟨by simp[fresh,aH,aD,b7,inObs,Pv.look,e6,hQ,Bp,Bo,Bn,Bm],ee (by simp[fresh,aH,aD,b7,inObs,Pv.look,e6,hQ,Bp,Bo,Bn,Bm]),ef (by simp[fresh,aH,aD,dW,inObs,Pv.look,e6,hQ,Bp,Bo,Bn,Bm]),Ψ⟩
theorem O4{s:List aq}(ag:eU s){l:List bj}(ar:h6 l){G:List (List dM)}(ny:G.length<=687000)(a7:nT G l):bF ak 218 [.slice 5 .no (s.map aq.e),.slice 2 .no (l.map bj.e)] (jy (gr s l [])):=by
 have hlen:∀{a:List bj},h6 a->nT G a->a.length<=68719470000:=fun J U=>by have:=DV J U;omega
 have yC:=hlen ar a7;refine be mx afF amH fun aK=>?_;unfold Sn;simp;refine du [0,11,12] (fun i (a:List bj)=>[(6,.slice 2 .no (a.map bj.e)),(13,.int .i64 i)]) l.length (Vu s G l) [] bL ⟨⟨Ψ,by simp[hZ]⟩,fun x af=>by simp at af,rfl⟩ (fun a ae _=>?_) (fun i a hi ae _=>?_)
 ·obtain⟨_,_,ae⟩:=ae;rw[List.drop_length]at ae;simp only[gr]at ae;rw[<-ae];simp;(with_reducible repeat' first|refine aj ?_|simp);simp[bz,NX,aX,aY,aW];simp[jy]
 ·obtain⟨bu,Dz,ae⟩:=ae;obtain⟨b,ab,cr⟩:=dB hi;have o1:=ar.at' b (dE ab);have Lc:=a7 b (dE ab);rw[lI hi,cr]at ae;simp only[gr]at ae;have lz:=IW s ag.len (.var b.v);rw[aak]at lz;have eS:=aqp a (hlen bu Dz) (bX s b.v) (EI ag b.v) b.s bu.asc;simp[hi,cr];cases ed:mf a (bX s b.v) b.s with
  |none=>rw[ed]at ae eS;simp only at ae;rw[<-ae];simp only[jy]at eS;(with_reducible repeat' first|refine aj ?_|refine aF (km _) ?_|refine aG (km _) ?_|refine aF lz ?_|refine aG lz ?_|refine aF eS ?_|refine aG eS ?_|simp[cr,hi]);simp[bz,NX,aX,aY,aW];simp[jy]
  |some bq=>rw[ed]at ae eS;simp only[jy]at eS;(with_reducible repeat' first|refine aj ?_|refine aF (km _) ?_|refine aG (km _) ?_|refine aF lz ?_|refine aG lz ?_|refine aF eS ?_|refine aG eS ?_|simp[cr,hi]);exact bO.rng bq hi ⟨Jp bu (BX ag o1.1) o1.2 ed,Jq Dz Lc ed,ae⟩ bL
theorem ao9{s:List aq}(ay:kS s)(bu:gk s)(aJ:gy s):gY (s.map aq.b)=s.all (mB s):=by
 rw[oG,ga,rH,<-Y0 bu];constructor
 ·rintro⟨ah,J,U,au,a6⟩;rw[rW J];exact au
 ·intro au;exact⟨s,rfl,ay,au,aJ⟩
theorem abo{s:List aq}(bu:gk s)(b:aq):mB s b=true↔(∀v∈iq b.t [],cP s v=none)/\(b.t.kind==1&&decide (b.v<=b.t.int))=false:=by unfold mB;rw[cC,TC bu];simp only[true_and,Bool.not_eq_true',DY,List.not_mem_nil,or_false]
def DJ(s:List aq)(bf:List Int)(i:Nat)(_:Unit):Prop:= ∀v∈bf.take i,cP s v=none
theorem DJ.step{s:List aq}{bf:List Int}{i:Nat}(h:DJ s bf i ()){v:Int}(aB:bf[i]? =some v)(ax:cP s v=none):DJ s bf (i+1) ():=fun w hw=>by
 rw[ma,aB]at hw;simp only[kn,Option.toList_some,List.mem_singleton]at hw;rcases hw with hw|rfl
 ·exact h w hw
 ·exact ax
theorem O6(l:List cX):bF ak 142 [.slice 5 .no (l.map cX.e)] (.bool (gY l)):=by
 have aB:=ZX l;by_cases h:wg l;rotate_left
 ·have bs:gY l=false:=by unfold gY;simp only[fJ];rintro⟨s,J,U,au,a6⟩;exact h (xK.2 ⟨s,J,U,au.asc,a6⟩)
  rw[bs];refine be eN Tq Xh fun aK=>?_;unfold J0;exact bJ
 ·obtain⟨s,rfl,ay,bu,aJ⟩:=xK.1 h;have ar:s.length<=1000000:=by have:=aJ.1;omega
  rw[ao9 ay bu aJ];rw[sF]at aB⊢;simp only[h,decide_true]at aB;clear h;generalize aV:s.all (mB s)=R;refine be eN Tq Xh fun aK=>?_;unfold J0;simp;(with_reducible repeat' first|refine aj ?_|refine aF aB ?_|refine aG aB ?_|simp);refine du [0,12,13] (fun i (_:Unit)=>[(14,.int .i64 i)]) s.length (ka (mB s) s) () bL (fun k b ad=>Ω) (fun _ ae _=>?_) (fun i _ hi ae _=>?_)
  ·have:R=true:=by rw[<-aV,ga];intro b ab;obtain⟨k,ad,e⟩:=nY ab;exact ae k b ad (by rw[cc ad,e])
   rw[this];exact bJ
  ·obtain⟨b,ab,cr⟩:=dB hi;have eM:¬mB s b=true->R=false:=fun h=>by rw[<-aV,Bool.eq_false_iff];intro cf;rw[ga]at cf;exact h (cf b (dE ab))
   have sj:mB s b=true->ka (mB s) s (i+1) ():=fun h=>ae.step ab h;have ja:=abo bu b;have en:=aJ.2 b (dE ab);have jG:=Cb b.t [];have gn:=EY b.t [] (by simp;omega) (by simp[tf]);have Ay:dF []=[]:=rfl;rw[Ay]at gn;generalize iq b.t []=bf at gn jG ja;have k5:bf.length<=5000:=by simp at jG;omega
   rw[ja]at eM sj;clear ja ae jG ab;simp[hi,cr];cases ad:(b.t.kind==1&&decide (b.v<=b.t.int));rotate_left
   ·rw[eM (by rw[ad];simp)];rw[cC]at ad;have gE:=ad.1;have lr:b.v<=b.t.int:=of_decide_eq_true ad.2;exact bJ
   ·rw[ad]at eM sj;simp only[and_true]at eM sj;cases gE:(b.t.kind==1)
    ·clear ad;(with_reducible repeat' first|refine aj ?_|refine aF gn ?_|refine aG gn ?_|simp[cr,hi,e6,gE]);refine du [0,12,13,14,32,33] (fun j (_:Unit)=>[(34,.int .i64 j)]) bf.length (DJ s bf) () ⟨by simp[fresh,aH,aD,b7,inObs,Pv.look,e6],ee (by simp[fresh,aH,aD,b7,inObs,Pv.look,e6]),ef (by simp[fresh,aH,aD,dW,inObs,Pv.look,e6]),Ψ⟩ (fun v aB=>by simp at aB) (fun _ ae _=>?_) (fun j _ eh ae _=>?_)
     ·have a7:=sj (fun v aB=>ae v (by rwa[jJ]));simp[e6];(with_reducible repeat' first|refine aj ?_|simp[e6]);exact bO.rng () hi a7 ⟨by simp[fresh,aH,aD,b7,inObs,Pv.look,e6],ee (by simp[fresh,aH,aD,b7,inObs,Pv.look,e6]),ef (by simp[fresh,aH,aD,dW,inObs,Pv.look,e6]),Ψ⟩
     ·obtain⟨v,aB⟩:∃v,bf[j]? =some v:=⟨_,cc eh⟩;have rk:∀h,((dF bf)[j]'h)= .int .i64 v:=fun cf=>by have:=DG bf j;rw[aB,cc cf]at this;exact eQ this
      have iz:=qK s v ar;cases hr:cP s v with
      |none=>have ax:=ae.step aB hr;rw[hr]at iz;simp only[nk,mc]at iz;clear ae sj eM hr;simp[eh,rk,e6];(with_reducible repeat' first|refine aj ?_|refine aF iz ?_|refine aG iz ?_|simp[eh,rk,e6]);exact bO.rng () eh ax ⟨by simp[fresh,aH,aD,b7,inObs,Pv.look,e6],ee (by simp[fresh,aH,aD,b7,inObs,Pv.look,e6]),ef (by simp[fresh,aH,aD,dW,inObs,Pv.look,e6]),Ψ⟩
      |some x=>rw[eM (fun h=>by have:=h v (dE aB);rw[hr]at this;cases this)];rw[hr]at iz;simp only[jA,pE]at iz;clear ae sj eM hr;simp[eh,rk,e6];(with_reducible repeat' first|refine aj ?_|refine aF iz ?_|refine aG iz ?_|simp[eh,rk,e6]);simp[bz,NN,aX,aY,aW]
    ·have lr:¬b.v<=b.t.int:=by rw[gE]at ad;simpa using ad
     clear ad;(with_reducible repeat' first|refine aj ?_|refine aF gn ?_|refine aG gn ?_|simp[cr,hi,e6,gE,lr]);refine du [0,12,13,14,32,33] (fun j (_:Unit)=>[(34,.int .i64 j)]) bf.length (DJ s bf) () ⟨by simp[fresh,aH,aD,b7,inObs,Pv.look,e6],ee (by simp[fresh,aH,aD,b7,inObs,Pv.look,e6]),ef (by simp[fresh,aH,aD,dW,inObs,Pv.look,e6]),Ψ⟩ (fun v aB=>by simp at aB) (fun _ ae _=>?_) (fun j _ eh ae _=>?_)
     ·have a7:=sj (fun v aB=>ae v (by rwa[jJ]));simp[e6];(with_reducible repeat' first|refine aj ?_|simp[e6]);exact bO.rng () hi a7 ⟨by simp[fresh,aH,aD,b7,inObs,Pv.look,e6],ee (by simp[fresh,aH,aD,b7,inObs,Pv.look,e6]),ef (by simp[fresh,aH,aD,dW,inObs,Pv.look,e6]),Ψ⟩
     ·obtain⟨v,aB⟩:∃v,bf[j]? =some v:=⟨_,cc eh⟩;have rk:∀h,((dF bf)[j]'h)= .int .i64 v:=fun cf=>by have:=DG bf j;rw[aB,cc cf]at this;exact eQ this
      have iz:=qK s v ar;cases hr:cP s v with
      |none=>have ax:=ae.step aB hr;rw[hr]at iz;simp only[nk,mc]at iz;clear ae sj eM hr;simp[eh,rk,e6];(with_reducible repeat' first|refine aj ?_|refine aF iz ?_|refine aG iz ?_|simp[eh,rk,e6]);exact bO.rng () eh ax ⟨by simp[fresh,aH,aD,b7,inObs,Pv.look,e6],ee (by simp[fresh,aH,aD,b7,inObs,Pv.look,e6]),ef (by simp[fresh,aH,aD,dW,inObs,Pv.look,e6]),Ψ⟩
      |some x=>rw[eM (fun h=>by have:=h v (dE aB);rw[hr]at this;cases this)];rw[hr]at iz;simp only[jA,pE]at iz;clear ae sj eM hr;simp[eh,rk,e6];(with_reducible repeat' first|refine aj ?_|refine aF iz ?_|refine aG iz ?_|simp[eh,rk,e6]);simp[bz,NN,aX,aY,aW]
theorem O7{s:List aq}(h:eU s):bF ak 142 [.slice 5 .no (s.map aq.e)] (.bool true):=by have:=O6 (s.map aq.b);rw[sF,rH.2 ⟨s,rfl,h.ok,h.sol,h.fits⟩]at this;exact this
def Ab:C:=(aa [cO 2 0,a8 4 false] (.seq (aa [aC 7 3 1 2,av 8 1 7,b2 9 8,bP 10 0] (eH 11 10 9 (.seq (.block 1 (aa [b9 12 4 8 10,a1 13 4 12,c9 6 dj,bM 4 6 13] (aa [a1 14 4 6,I 15 1,bY 16 136 14 15,cn 17 16] (aS 17 (aa [a8 4 false] .ret) .skip)))) (.region [aT 18 .add 10 1,I 10 18])))) (aa [aC 19 0 1 2,av 20 1 19,aT 21 .neq 20 1,I 22 21,ao 22 false (aC 23 1 1 2),ao 22 false (av 24 1 23),b4 22 false 25 1,ao 22 false (bh 26 .lss 24 25),cZ 27 22 26,I 4 27] .ret)))
@[simp] def xr:List bN:=[.tmp 4]
def Sj:C:=(aa [a8 2 false] (.seq (aa [I 5 0,b2 6 5,bP 7 0] (eH 8 7 6 (.seq (.block 1 (aa [b9 9 1 5 7,av 10 1 9,I 4 10] (aa [I 11 4,cE 12 142 11,cn 13 12] (aS 13 (aa [a8 2 false] .ret) .skip)))) (.region [aT 14 .add 7 1,I 7 14])))) (aa [a8 2 true] .ret)))
@[simp] def aob:List bN:=[.tmp 2]
def Sp:C:=(aa [a8 4 false] (.seq (aa [I 7 0,b2 8 7,bP 9 0] (eH 10 9 8 (.seq (.block 1 (aa [b9 11 5 7 9,a1 12 5 11,c9 6 iA,bM 5 6 12] (aa [aC 13 0 1 6,av 14 1 13,I 15 1,bh 16 .geq 14 15,I 17 16,ao 17 false (fi 18 1 4 6),ao 17 false (a1 19 4 18),b4 17 false 20 1,ao 17 false (bY 21 136 19 20),ao 17 false (cn 22 21),cZ 23 17 22] (aS 23 (aa [a8 4 false] .ret) .skip)))) (.region [aT 24 .add 9 1,I 9 24])))) (aa [a8 4 true] .ret)))
@[simp] def aoe:List bN:=[.tmp 4]
def Si:C:=(aa [ep 4 5] (aa [fj 10 5 61 [],I 5 10] (.seq (aa [I 11 1,b2 12 11,bP 13 0] (eH 14 13 12 (.seq (.block 1 (aa [b9 15 5 11 13,a1 16 5 15,c9 7 iA,bM 5 7 16] (aa [I 18 0,aC 19 0 1 7,av 20 1 19,bY 21 161 18 20,I 17 21,cD 22 0 17,cD 23 1 17,c9 8 dj,bM 4 8 22,I 9 23] (aa [I 24 9,cn 25 24] (aS 25 (.region [I 26 5,a1 27 5 7,fj 28 5 61 [.t 27],iP 29 5 61 26 28,I 5 29]) .skip))))) (.region [aT 30 .add 13 1,I 13 30])))) (aa [I 31 5,I 4 31] .ret))))
@[simp] def an9:List bN:=[.tmp 4]
def Sk:C:=(aa [bP 4 0] (.seq (aa [bP 5 0] (.block 0 (.loop (.seq (aa [I 7 5,I 8 0,b2 9 8,bh 10 .lss 7 9,I 11 10,b4 11 true 12 5,b4 11 true 13 1,ao 11 true (b2 14 13),ao 11 true (bh 15 .lss 12 14),dx 16 11 15] (aS 16 .skip (.exit 0))) (.seq (.block 1 (.seq (.seq (.drawn true 67 [I 19 0,I 20 5,b9 21 5 19 20,aC 22 0 1 21,av 23 1 22,I 24 1,I 25 5,b9 26 5 24 25,aC 27 0 1 26,av 28 1 27,bh 29 .neq 23 28]) (aS 29 (.seq (.drawn true 67 [I 30 0,I 31 5,b9 32 5 30 31,aC 33 0 1 32,av 34 1 33,I 35 1,I 36 5,b9 37 5 35 36,aC 38 0 1 37,av 39 1 38,bh 40 .lss 34 39,cE 41 238 40,I 4 41]) .ret) .skip)) (.seq (.drawn true 67 [I 42 0,I 43 5,b9 44 5 42 43,fi 45 1 4 44,a1 46 4 45,I 47 1,I 48 5,b9 49 5 47 48,fi 50 1 4 49,a1 51 4 50,bY 52 229 46 51,I 6 52]) (aa [I 53 6,aT 54 .neq 53 0] (aS 54 (aa [I 55 6,I 4 55] .ret) .skip))))) (.region [I 17 5,aT 18 .add 17 1,I 5 18])))))) (.seq (aa [I 56 0,b2 57 56,I 58 1,b2 59 58,bh 60 .neq 57 59] (aS 60 (aa [I 61 0,b2 62 61,I 63 1,b2 64 63,bh 65 .lss 62 64,cE 66 238 65,I 4 66] .ret) .skip)) (aa [bP 4 0] .ret))))
@[simp] def Ew:List bN:=[.tmp 4]
def Sl:C:=(aa [ep 2 1] (aa [fj 11 1 23 [],I 3 11] (.seq (.seq (.fg false 3 (.region [I 12 0,b2 13 12,bP 14 0])) (eH 15 14 13 (.seq (.block 1 (aa [b9 16 1 12 14,av 17 1 16,I 5 17] (aa [a8 6 true] (.seq (aa [I 18 0,b2 19 18,bP 20 0] (.block 2 (.loop (aa [bh 21 .lss 20 19] (.seq (aS 21 .skip (.exit 2)) (.seq (.block 3 (aa [b9 22 1 18 20,av 23 1 22,I 8 23] (.region [I 24 6,I 25 24,b4 25 true 26 8,b4 25 true 27 5,ao 25 true (bY 28 180 26 27),ao 25 true (aT 29 .eql 28 0),b4 25 true 30 29,b4 30 false 31 8,b4 30 false 32 5,ao 30 false (bY 33 269 31 32),ao 30 false (cn 34 33),ao 25 true (cZ 35 30 34),dx 36 25 35,I 6 36]))) (.region [aT 37 .add 20 1,I 20 37]))))))) (aa [I 38 3,b2 39 38,I 9 39] (.seq (.block 4 (.loop (.seq (aa [I 40 9,aT 41 .gtr 40 0,I 42 41,b4 42 true 43 3,b4 42 true 44 9,ao 42 true (aT 45 .sub 44 1),ao 42 true (b9 46 1 43 45),ao 42 true (av 47 1 46),b4 42 true 48 5,ao 42 true (bY 49 180 47 48),ao 42 true (aT 50 .geq 49 0),dx 51 42 50] (aS 51 .skip (.exit 4))) (.block 5 (.region [I 52 9,aT 53 .sub 52 1,I 9 53]))))) (aa [I 54 6,I 55 54,b4 55 true 56 9,b4 55 true 57 3,ao 55 true (b2 58 57),ao 55 true (bh 59 .eql 56 58),b4 55 true 60 59,b4 60 false 61 3,b4 60 false 62 9,ao 60 false (b9 63 1 61 62),ao 60 false (av 64 1 63),b4 60 false 65 5,ao 60 false (bY 66 180 64 65),ao 60 false (aT 67 .neq 66 0),ao 55 true (cZ 68 60 67),dx 69 55 68] (aS 69 (aa [fj 70 1 23 [],I 71 3,I 72 9,b5 73 (.lsl 1 (.t 71) none (some (.t 72))),iP 74 1 23 70 73,I 10 74] (aa [I 75 10,I 76 5,fj 77 1 23 [.t 76],iP 78 1 23 75 77,I 10 78] (.region [I 79 10,I 80 3,I 81 9,b5 82 (.lsl 1 (.t 80) (some (.t 81)) none),iP 83 1 23 79 82,I 3 83]))) .skip)))))))) (.fg false 3 (.region [aT 84 .add 14 1,I 14 84]))))) (aa [I 85 3,I 2 85] .ret))))
@[simp] def aoc:List bN:=[.tmp 2]
def RV:C:=(aa [a8 4 false] (.seq (aa [I 11 0,cE 12 142 11,cn 13 12,I 14 13,b4 14 false 15 1,ao 14 false (cE 16 142 15),ao 14 false (cn 17 16),cZ 18 14 17] (aS 18 (aa [a8 4 false] .ret) .skip)) (.seq (aa [I 19 0,b2 20 19,bP 21 0] (eH 22 21 20 (.seq (.block 1 (aa [b9 23 5 19 21,a1 24 5 23,c9 6 iA,bM 5 6 24] (aa [I 26 1,aC 27 0 1 6,av 28 1 27,cE 29 91 28,bY 30 166 26 29,I 25 30,cD 31 0 25,cD 32 1 25,c9 7 dj,bM 4 7 31,I 8 32] (aa [I 34 1,fi 35 1 4 6,a1 36 4 35,bY 37 166 34 36,I 33 37,cD 38 0 33,cD 39 1 33,c9 9 dj,bM 4 9 38,I 10 39] (aa [I 40 8,cn 41 40,I 42 41,b4 42 false 43 10,ao 42 false (cn 44 43),cZ 45 42 44,I 46 45,ao 46 false (a1 47 4 7),ao 46 false (a1 48 4 9),ao 46 false (bY 49 167 47 48),ao 46 false (cn 50 49),cZ 51 46 50] (aS 51 (aa [a8 4 false] .ret) .skip)))))) (.region [aT 52 .add 21 1,I 21 52])))) (aa [a8 4 true] .ret))))
@[simp] def NM:List bN:=[.tmp 4]
def xE:List (Nat×dH):=[
 (3,⟨1,8,.int .i64,.int .i64 0⟩),
 (23,⟨1,24,.slice 61,.slice 5 .nil []⟩),
 (24,⟨1,24,.slice 23,.slice 1 .nil []⟩),
 (30,⟨1,24,.slice 32,.slice 4 .nil []⟩),
 (32,⟨4,56,.struct [(0,3),(1,3),(2,9),(3,30)],.agg [.int .i64 0,.int .i64 0,.str [],.slice 4 .nil []]⟩),
 (61,⟨5,64,.struct [(0,3),(1,32)],.agg [.int .i64 0,.int .i64 0,.int .i64 0,.str [],.slice 4 .nil []]⟩)]
theorem sY:fS ak xE=true:=by kernel_rfl
theorem Eh:bU xE Ab xr 2 Tryz.f136=true:=by kernel_rfl
theorem CP:ak.funcs[(136:Nat)]? =some Tryz.f136:=Tryz.func136
theorem amD:bU xE Sj aob 1 Tryz.f143=true:=by kernel_rfl
theorem afB:ak.funcs[(143:Nat)]? =some Tryz.f143:=Tryz.func143
theorem amI:bU xE Sp aoe 2 Tryz.f146=true:=by kernel_rfl
theorem afG:ak.funcs[(146:Nat)]? =some Tryz.f146:=Tryz.func146
theorem amC:bU xE Si an9 2 Tryz.f177=true:=by kernel_rfl
theorem afA:ak.funcs[(177:Nat)]? =some Tryz.f177:=Tryz.func177
theorem amE:bU xE Sk Ew 2 Tryz.f180=true:=by kernel_rfl
theorem afC:ak.funcs[(180:Nat)]? =some Tryz.f180:=Tryz.func180
theorem amF:bU xE Sl aoc 1 Tryz.f220=true:=by kernel_rfl
theorem afD:ak.funcs[(220:Nat)]? =some Tryz.f220:=Tryz.func220
theorem amh:bU xE RV NM 2 Tryz.f269=true:=by kernel_rfl
theorem aff:ak.funcs[(269:Nat)]? =some Tryz.f269:=Tryz.func269
def R9:C:=(aa [cO 2 0,cO 3 1,a8 4 false] (aa [a1 5 4 2,a1 6 4 3,bY 7 229 5 6,aT 8 .eql 7 0,I 4 8] .ret))
@[simp] def Yl:List bN:=[.tmp 4]
def QP:C:=(aa [cO 1 0,a8 2 false] (aa [cN (.alloc 3 (some 501) (.bool false)),cN (.store 1 (.t 3) (.c (.bool true)))] (aa [a1 4 4 1,b5 5 (.mkf 233 [.t 3]),bY 6 129 4 5] (aa [av 7 1 3,I 2 7] .ret))))
@[simp] def XW:List bN:=[.tmp 2]
def CA:C:=(aa [cO 2 0,cO 3 1,bP 4 0] (.seq (aa [aC 7 0 1 2,av 8 1 7,aC 9 0 1 3,av 10 1 9,bh 11 .neq 8 10] (aS 11 (aa [aC 12 0 1 2,av 13 1 12,aC 14 0 1 3,av 15 1 14,bh 16 .lss 13 15,cE 17 238 16,I 4 17] .ret) .skip)) (.seq (aa [aC 18 1 1 2,av 19 1 18,aC 20 1 1 3,av 21 1 20,bh 22 .neq 19 21] (aS 22 (aa [aC 23 1 1 2,av 24 1 23,aC 25 1 1 3,av 26 1 25,bh 27 .lss 24 26,cE 28 238 27,I 4 28] .ret) .skip)) (.seq (aa [aC 29 2 1 2,av 30 1 29,aC 31 2 1 3,av 32 1 31,bh 33 .neq 30 32] (aS 33 (aa [aC 34 2 1 2,av 35 1 34,aC 36 2 1 3,av 37 1 36,bh 38 .lss 35 37,cE 39 238 38,I 4 39] .ret) .skip)) (.seq (aa [bP 5 0] (.block 0 (.loop (.seq (aa [I 40 5,aC 41 3 1 2,av 42 1 41,b2 43 42,bh 44 .lss 40 43,I 45 44,b4 45 true 46 5,ao 45 true (aC 47 3 1 3),ao 45 true (av 48 1 47),ao 45 true (b2 49 48),ao 45 true (bh 50 .lss 46 49),dx 51 45 50] (aS 51 .skip (.exit 0))) (.seq (.block 1 (.seq (.drawn true 68 [aC 54 3 1 2,av 55 1 54,I 56 5,b9 57 4 55 56,a1 58 4 57,aC 59 3 1 3,av 60 1 59,I 61 5,b9 62 4 60 61,a1 63 4 62,bY 64 229 58 63,I 6 64]) (aa [I 65 6,aT 66 .neq 65 0] (aS 66 (aa [I 67 6,I 4 67] .ret) .skip)))) (.region [I 52 5,aT 53 .add 52 1,I 5 53])))))) (aa [bP 4 0] .ret))))))
@[simp] def BM:List bN:=[.tmp 4]
def QQ:C:=(.region [cN (.store 1 (.t 1) (.c (.bool false)))])
@[simp] def XX:List bN:=[]
def Sa:C:=(aa [bP 2 0] (.seq (aa [I 3 0] (aS 3 (aa [bP 2 (-1)] .ret) .skip)) (aa [bP 2 1] .ret)))
@[simp] def Ym:List bN:=[.tmp 2]
def B2:List (Nat×dH):=[
 (3,⟨1,8,.int .i64,.int .i64 0⟩),
 (4,⟨1,1,.bool,.bool false⟩),
 (9,⟨1,16,.str,.str []⟩),
 (23,⟨1,24,.slice 61,.slice 5 .nil []⟩),
 (24,⟨1,24,.slice 23,.slice 1 .nil []⟩),
 (30,⟨1,24,.slice 32,.slice 4 .nil []⟩),
 (32,⟨4,56,.struct [(0,3),(1,3),(2,9),(3,30)],.agg [.int .i64 0,.int .i64 0,.str [],.slice 4 .nil []]⟩),
 (61,⟨5,64,.struct [(0,3),(1,32)],.agg [.int .i64 0,.int .i64 0,.int .i64 0,.str [],.slice 4 .nil []]⟩),
 (112,⟨1,24,.slice 3,.slice 1 .nil []⟩)]
theorem xF:fS ak B2=true:=by kernel_rfl
theorem amt:bU B2 R9 Yl 2 Tryz.f167=true:=by kernel_rfl
theorem afr:ak.funcs[(167:Nat)]? =some Tryz.f167:=Tryz.func167
theorem ala:bU B2 QP XW 1 Tryz.f171=true:=by kernel_rfl
theorem aea:ak.funcs[(171:Nat)]? =some Tryz.f171:=Tryz.func171
theorem HG:bU B2 CA BM 2 Tryz.f229=true:=by kernel_rfl
theorem F6:ak.funcs[(229:Nat)]? =some Tryz.f229:=Tryz.func229
theorem alb:bU B2 QQ XX 2 Tryz.f233=true:=by kernel_rfl
theorem aeb:ak.funcs[(233:Nat)]? =some Tryz.f233:=Tryz.func233
theorem amu:bU B2 Sa Ym 1 Tryz.f238=true:=by kernel_rfl
theorem afs:ak.funcs[(238:Nat)]? =some Tryz.f238:=Tryz.func238
theorem aaS{t u:T}(J:t.kind=u.kind)(U:t.int=u.int)(au:t.name=u.name)(a6:t.args=u.args):t=u:=by cases t<;>cases u<;>simp_all
theorem rL(b:Bool):bF ak 238 [.bool b] (.int .i64 (if b then-1 else 1)):=by
 refine be xF afs amu fun aK=>?_;unfold Sa;simp;((with_reducible repeat' first|refine aj ?_|simp|((first|apply bS|apply bW|apply bV)<;>intro h<;>try simp at h))<;>(try exact cy));all_goals simp[bz,Ym,aX,aY,aW]
 all_goals simp_all
theorem amM{a b:T}(bu:a.args=[]\/b.args=[])(J:a.kind=b.kind)(U:a.int=b.int):eC a b=kT a.name b.name:=by cases a<;>cases b<;>simp_all[eC]
def DI(a b:T)(i:Nat)(_:Unit):Prop:=a.args.take i=b.args.take i
theorem ZT(a:T)(bR:∀x∈a.args,∀b:T,bF ak 229 [x.e,b.e] (.int .i64 (eC x b)))(b:T):bF ak 229 [a.e,b.e] (.int .i64 (eC a b)):=by
 have hle:a.args.length<=2:=by cases a<;>simp
 by_cases ad:a.kind=b.kind
 ·by_cases hi:a.int=b.int
  ·by_cases ax:a.name=b.name
   ·have hlen:a.args.length=b.args.length:=by cases a<;>cases b<;>simp at ad⊢
    refine be xF F6 HG fun aK=>?_;unfold CA;simp[ad,hi,ax];refine du [2,3] (fun i (_:Unit)=>[(5,.int .i64 i)]) a.args.length (DI a b) () bL (by simp[DI]) (fun _ ae _=>?_) (fun i _ bD ae _=>?_)
    ·simp;(with_reducible repeat' first|refine aj ?_|simp);simp[bz,BM,aX,aY,aW];unfold DI at ae;rw[hQ Ω,hQ Ω]at ae;exact((rs a b).2 (aaS ad hi ax ae)).symm
    ·have rf:i<b.args.length:=Ω
     obtain⟨x,af⟩:∃x,x=a.args[i]:=⟨_,rfl⟩;obtain⟨y,aO⟩:∃y,y=b.args[i]:=⟨_,rfl⟩;have lx:=bR x (by rw[af];exact List.getElem_mem bD) y;simp[bD,rf,<-af,<-aO];(with_reducible repeat' first|((first|apply bS|apply bW|apply bV)<;>intro h<;>try simp at h)|refine aj ?_|refine aF lx ?_|refine aG lx ?_|simp)
     ·simp[bz,BM,aX,aY,aW];unfold DI at ae;cases a with
      |pair bC a2=>
       cases b with
       |pair ch ca=>
        simp at bD ae af aO;rcases(by omega:i=0\/i=1)with rfl|rfl
        ·simp at af aO;subst af aO;simp[eC,h]
        ·simp at ae af aO;subst af aO ae;simp[eC,(rs bC bC).2 rfl]
       |_=>simp at ad
      |_=>simp at bD
     ·refine bO.rng () bD ?_ bL;unfold DI at ae⊢;rw[ma,ma,ae,cc bD,cc rf,<-af,<-aO,(rs x y).1 h]
   ·refine be xF F6 HG fun aK=>?_;unfold CA;simp[ad,hi,ax];((with_reducible repeat' first|refine aj ?_|refine aF (rL _) ?_|refine aG (rL _) ?_|simp|((first|apply bS|apply bW|apply bV)<;>intro h<;>try simp at h))<;>(try exact cy));simp[bz,BM,aX,aY,aW];have:a.args=[]\/b.args=[]:=by cases a<;>cases b<;>simp at ad ax⊢
    rw[amM this ad hi,kT,if_neg ax]
  ·refine be xF F6 HG fun aK=>?_;unfold CA;simp[ad,hi];((with_reducible repeat' first|refine aj ?_|refine aF (rL _) ?_|refine aG (rL _) ?_|simp|((first|apply bS|apply bW|apply bV)<;>intro h<;>try simp at h))<;>(try exact cy));simp[bz,BM,aX,aY,aW];cases a<;>cases b<;>simp at ad hi
   ·rw[Xp];simp[eE];split<;>(try split)<;>omega
   ·rw[Xo];simp[eE];split<;>(try split)<;>omega
 ·refine be xF F6 HG fun aK=>?_;unfold CA;simp[ad];((with_reducible repeat' first|refine aj ?_|refine aF (rL _) ?_|refine aG (rL _) ?_|simp|((first|apply bS|apply bW|apply bV)<;>intro h<;>try simp at h))<;>(try exact cy));simp[bz,BM,aX,aY,aW];rw[sM ad];simp[eE];split<;>(try split)<;>omega
theorem IS(a:T):∀b:T,bF ak 229 [a.e,b.e] (.int .i64 (eC a b)):=by
 induction a with
 |pair x y lx mO=>
  refine ZT _ fun z bp=>?_;simp at bp;rcases bp with rfl|rfl
  ·exact lx
  ·exact mO
 |_=>exact ZT _ fun x af=>by simp at af
theorem EX(a b:T):bF ak 167 [a.e,b.e] (.bool (decide (a=b))):=by refine be xF afr amt fun aK=>?_;unfold R9;simp;(with_reducible repeat' first|refine aj ?_|refine aF (IS _ _) ?_|refine aG (IS _ _) ?_|simp);simp[bz,Yl,aX,aY,aW];have:=rs a b;by_cases h:eC a b=0<;>simp_all
theorem aqh{s t:List aq}(ag:eU s)(aN:eU t):bF ak 177 [.slice 5 .no (s.map aq.e),.slice 5 .no (t.map aq.e)] (.slice 5 .no ((gO s t).map aq.e)):=by
 have aix:=aN.len;generalize aV:gO s t=R;refine be sY afA amC fun aK=>?_;unfold Si;simp;refine gT (α:=List aq) (fun i out=>⟨[(0,.slice 5 .no (s.map aq.e)),(11,.slice 5 .no (t.map aq.e)),(12,.int .i64 t.length),(5,.slice 5 (.own (.loc 0)) (out.map aq.e)),(13,.int .i64 i)],[],[(.loc 0,⟨out.length,61,5,none⟩)],1,[]⟩) t.length (rl s t) [] bL (by simp[rl,gO]) (fun out ae _=>?_) (fun i out hi ae _=>?_)
 ·rw[rl,hQ (e7 _),aV]at ae;rw[<-ae];exact bJ
 ·obtain⟨b,aB,gN⟩:=dB hi;have vl:out.length<=1000000:=by
   have:out.length<=(t.take i).length:=by rw[ae];exact List.length_filter_le _ _
   simp at this;omega
  have iz:=qK s b.v ag.len;cases ab:cP s b.v with
  |none=>
   have ax:rl s t (i+1) (out++[b]):=by rw[rl,rJ aB,gO,List.filter_append,ae];simp[gO,ab]
   rw[ab]at iz;simp only[nk,mc]at iz;clear ae aB ab;simp[hi,gN];(with_reducible repeat' first|refine aj ?_|refine aF iz ?_|refine aG iz ?_|simp[gN,hi]);all_goals first|(refine⟨by unfold lim;omega,?_⟩)|skip
   (with_reducible repeat' first|refine aj ?_|simp);refine bO.rng (out++[b]) hi ax ?_;simp;exact⟨by simp[fresh,aH,aD,b7,inObs,Pv.look,kc],ee (by simp[fresh,aH,aD,b7,inObs,Pv.look,kc]),ef (by simp[fresh,aH,aD,dW,inObs,Pv.look,kc]),Ψ⟩
  |some x=>
   have ax:rl s t (i+1) out:=by rw[rl,rJ aB,gO,List.filter_append,ae];simp[gO,ab]
   rw[ab]at iz;simp only[jA,pE]at iz;clear ae aB ab;simp[hi,gN];(with_reducible repeat' first|refine aj ?_|refine aF iz ?_|refine aG iz ?_|simp[gN,hi]);refine bO.rng out hi ax ?_;exact bL
theorem apP{s t:List aq}(ag:eU s)(aN:eU t):bF ak 269 [.slice 5 .no (s.map aq.e),.slice 5 .no (t.map aq.e)] (.bool (nN s t)):=by
 have p2:=ag.len;generalize aV:nN s t=R;have de:=O7 ag;have c6:=O7 aN;refine be sY aff amh fun aK=>?_;unfold RV;simp;(with_reducible repeat' first|refine aj ?_|refine aF de ?_|refine aG de ?_|refine aF c6 ?_|refine aG c6 ?_|simp);refine du [1,19,20] (fun i (_:Unit)=>[(21,.int .i64 i)]) s.length (ka (sH t) s) () bL (fun k b ad=>Ω) (fun _ ae _=>?_) (fun i _ hi ae _=>?_)
 ·have:R=true:=by rw[<-aV,nN,ga];intro b ab;obtain⟨k,ad,e⟩:=nY ab;exact ae k b ad (by rw[cc ad,e])
  rw[this];exact bJ
 ·obtain⟨b,aB,gN⟩:=dB hi;have eM:sH t b=false->R=false:=fun h=>by rw[<-aV,Bool.eq_false_iff];intro cf;rw[nN,ga]at cf;rw[cf b (dE aB)]at h;cases h
  have aU:=EZ t aN.len (.var b.v);have bo:=EZ t aN.len b.t;have yN:=EI aN b.v;have GU:((T.var b.v).ap (bX t)).size<=5000:=yN;rw[gK GU]at aU;rw[show(T.var b.v).ap (bX t)=bX t b.v from rfl]at aU;by_cases bp:(b.t.ap (bX t)).size<=5000
  ·rw[gK bp]at bo;by_cases he:bX t b.v=b.t.ap (bX t)
   ·have ax:=ae.step aB (by simp[sH,he]);have fN:=EX (bX t b.v) (b.t.ap (bX t));rw[gK he]at fN;clear ae aB;simp[hi,gN];(with_reducible repeat' first|refine aj ?_|refine aF (km _) ?_|refine aG (km _) ?_|refine aF aU ?_|refine aG aU ?_|refine aF bo ?_|refine aG bo ?_|refine aF fN ?_|refine aG fN ?_|simp[gN,hi]);exact bO.rng () hi ax bL
   ·rw[eM (by simp[sH,he])];have fN:=EX (bX t b.v) (b.t.ap (bX t));rw[hG he]at fN;clear ae aB;simp[hi,gN];(with_reducible repeat' first|refine aj ?_|refine aF (km _) ?_|refine aG (km _) ?_|refine aF aU ?_|refine aG aU ?_|refine aF bo ?_|refine aG bo ?_|refine aF fN ?_|refine aG fN ?_|simp[gN,hi]);simp[bz,NM,aX,aY,aW]
  ·rw[hG bp]at bo;rw[eM (by simp only[sH,fJ];intro e;rw[<-e]at bp;exact bp yN)];clear ae aB;simp[hi,gN];(with_reducible repeat' first|refine aj ?_|refine aF (km _) ?_|refine aG (km _) ?_|refine aF aU ?_|refine aG aU ?_|refine aF bo ?_|refine aG bo ?_|simp[gN,hi]);simp[bz,NM,aX,aY,aW]
theorem O2(d e:List aq):bF ak 180 [.slice 5 .no (d.map aq.e),.slice 5 .no (e.map aq.e)] (.int .i64 (eD d e)):=by
 generalize aV:eD d e=R;refine be sY afC amE fun aK=>?_;unfold Sk;have aR:d.length<=68719476736:=by simp[ek,ec,eg,lim]at aK;omega
 have he:e.length<=68719476736:=by simp[ek,ec,eg,lim]at aK;omega
 simp;refine uY [0,1] (fun(i:Nat)=>[(5,.int .i64 i)]) (fun i=>d.length-i) (L6 d e) 0 bL ⟨Ω,Ω,Ψ⟩ (fun i ae _=>?_);obtain⟨J,U,au⟩:=ae;rw[aV]at au;by_cases hi:i<d.length
 ·by_cases fM:i<e.length
  ·obtain⟨x,af⟩:∃x,d[i]? =some x:=⟨_,cc hi⟩;obtain⟨y,aO⟩:∃y,e[i]? =some y:=⟨_,cc fM⟩;have cJ:∀h,(d[i]'h)=x:=fun h=>by rw[cc hi]at af;exact eQ af
   have eX:∀h,(e[i]'h)=y:=fun h=>by rw[cc fM]at aO;exact eQ aO
   have AI:d.drop i=x::d.drop (i+1):=by rw[lI hi,cJ]
   have AJ:e.drop i=y::e.drop (i+1):=by rw[lI fM,eX]
   rw[AI,AJ]at au;rw[Xm]at au;by_cases bc:x.v=y.v
   ·have kg:eE x.v y.v=0:=(ky.zero _ _).2 bc;have uf:(x.v !=y.v)=false:=by simp[bc]
    rw[if_pos kg]at au;by_cases bE:eC x.t y.t=0
    ·rw[if_pos bE]at au;have ax:L6 d e (i+1):=⟨Ω,Ω,by rw[aV];exact au⟩;have kN:=IS x.t y.t;rw[bE]at kN;clear AI AJ af aO au kg;simp[hi,fM,cJ,eX];((with_reducible repeat' first|refine aj ?_|refine aF kN ?_|refine aG kN ?_|simp[cJ,eX,hi,fM,bc,uf]|((first|apply bS|apply bW|apply bV)<;>intro h<;>try simp at h))<;>(try exact cy));all_goals exact bO.whl (i+1) Ω ax bL
    ·rw[if_neg bE]at au;have kN:=IS x.t y.t;have zg:(eC x.t y.t !=0)=true:=by simp[bE]
     clear AI AJ af aO kg;simp[hi,fM,cJ,eX];(with_reducible repeat' first|refine aj ?_|refine aF kN ?_|refine aG kN ?_|simp[cJ,eX,hi,fM,bc,uf,bE,zg]);all_goals simp[bz,Ew,aX,aY,aW]
     all_goals exact au
   ·have kg:¬eE x.v y.v=0:=fun h=>bc ((ky.zero _ _).1 h);have uf:(x.v !=y.v)=true:=by simp[bc]
    rw[if_neg kg]at au;have dr:R=if decide (x.v<y.v)=true then-1 else 1:=by rw[<-au];unfold eE;simp only[fc];(repeat' split)<;>omega
    clear AI AJ af aO au kg;rw[dr];simp[hi,fM,cJ,eX];(with_reducible repeat' first|refine aj ?_|refine aF (rL _) ?_|refine aG (rL _) ?_|simp[cJ,eX,hi,fM,bc,uf]);all_goals simp[bz,Ew,aX,aY,aW]
  ·have hle:e.length<d.length:=Ω
   have:(1:Int)=R:=by rw[<-au,eD,DR _ _ _ (.inr (List.drop_eq_nil_of_le Ω))];simp only[tc];unfold eE;(repeat' split)<;>omega
   have cM:¬(d.length:Int)=e.length:=Ω
   have Lw:((d.length:Int) !=e.length)=true:=by simp;omega
   have jT:¬(d.length:Int)<e.length:=Ω
   have Dl:¬d.length<e.length:=Ω
   have ah5:¬d.length=e.length:=Ω
   clear au;rw[<-this];simp[hi,fM];(with_reducible repeat' first|refine aj ?_|refine aF (rL _) ?_|refine aG (rL _) ?_|simp[hi,fM,cM,Lw,jT,Dl,ah5]);all_goals simp[bz,Ew,aX,aY,aW]
   all_goals(try simp[Dl])
 ·have e5:i=d.length:=Ω
  by_cases ar:d.length=e.length
  ·have:(0:Int)=R:=by rw[<-au,eD,DR _ _ _ (.inl (List.drop_eq_nil_of_le Ω))];simp only[tc];unfold eE;(repeat' split)<;>omega
   clear au;rw[<-this];exact bJ
  ·have:(-1:Int)=R:=by rw[<-au,eD,DR _ _ _ (.inl (List.drop_eq_nil_of_le Ω))];simp only[tc];unfold eE;(repeat' split)<;>omega
   have cM:¬(d.length:Int)=e.length:=Ω
   have Lw:((d.length:Int) !=e.length)=true:=by simp;omega
   have jT:(d.length:Int)<e.length:=Ω
   have Dl:d.length<e.length:=Ω
   clear au;rw[<-this];simp[hi];(with_reducible repeat' first|refine aj ?_|refine aF (rL _) ?_|refine aG (rL _) ?_|simp[hi,cM,Lw,jT,Dl,ar]);all_goals simp[bz,Ew,aX,aY,aW]
   all_goals(try simp[Dl])
def ajd(n:Int)(a b:T)(i:Nat)(_:Unit):Prop:=(1<=i->iW n a=true)/\(2<=i->iW n b=true)
theorem O5(n:Int):∀t:T,bF ak 136 [t.e,.int .i64 n] (.bool (iW n t))
 | .pair a b=>by
  have ds:=O5 n a;have dv:=O5 n b;refine be sY CP Eh fun aK=>?_;unfold Ab;simp;refine du [1,2,8,9] (fun i (_:Unit)=>[(10,.int .i64 i)]) 2 (ajd n a b) () bL ⟨fun h=>Ω,fun h=>Ω⟩ (fun _ ae _=>?_) (fun i _ hi ae _=>?_)
  ·simp;(with_reducible repeat' first|refine aj ?_|simp);simp[bz,xr,aX,aY,aW];simp[iW,ae.1,ae.2]
  ·rcases(by omega:i=0\/i=1)with rfl|rfl
   ·cases bu:iW n a
    ·rw[bu]at ds;simp;(with_reducible repeat' first|refine aj ?_|refine aF ds ?_|refine aG ds ?_|simp);simp[bz,xr,aX,aY,aW];simp[iW,bu]
    ·rw[bu]at ds;simp;((with_reducible repeat' first|refine aj ?_|refine aF ds ?_|refine aG ds ?_|simp|((first|apply bS|apply bW|apply bV)<;>intro h<;>try simp at h))<;>(try exact cy));exact bO.rng () hi ⟨fun _=>bu,fun h=>Ω⟩ bL
   ·cases ab:iW n b
    ·rw[ab]at dv;simp;((with_reducible repeat' first|refine aj ?_|refine aF dv ?_|refine aG dv ?_|simp|((first|apply bS|apply bW|apply bV)<;>intro h<;>try simp at h))<;>(try exact cy));simp[bz,xr,aX,aY,aW];simp[iW,ab]
    ·rw[ab]at dv;simp;((with_reducible repeat' first|refine aj ?_|refine aF dv ?_|refine aG dv ?_|simp|((first|apply bS|apply bW|apply bV)<;>intro h<;>try simp at h))<;>(try exact cy));exact bO.rng () hi ⟨fun _=>ae.1 Ω,fun _=>ab⟩ bL
 | .sym v=>by
  refine be sY CP Eh fun aK=>?_;unfold Ab;simp;refine du [1,2,8,9] (fun i (_:Unit)=>[(10,.int .i64 i)]) 0 (fun i _=>True) () bL trivial (fun _ ae _=>?_) (fun i _ hi ae _=>Ω);simp;((with_reducible repeat' first|refine aj ?_|simp|((first|apply bS|apply bW|apply bV)<;>intro h<;>try simp at h))<;>(try exact cy));all_goals simp[bz,xr,aX,aY,aW]
  all_goals simp[iW]
 | .num v=>by
  refine be sY CP Eh fun aK=>?_;unfold Ab;simp;refine du [1,2,8,9] (fun i (_:Unit)=>[(10,.int .i64 i)]) 0 (fun i _=>True) () bL trivial (fun _ ae _=>?_) (fun i _ hi ae _=>Ω);simp;(with_reducible repeat' first|refine aj ?_|simp);all_goals simp[bz,xr,aX,aY,aW]
  all_goals simp[iW]
 | .var v=>by
  refine be sY CP Eh fun aK=>?_;unfold Ab;simp;refine du [1,2,8,9] (fun i (_:Unit)=>[(10,.int .i64 i)]) 0 (fun i _=>True) () bL trivial (fun _ ae _=>?_) (fun i _ hi ae _=>Ω);simp;(with_reducible repeat' first|refine aj ?_|simp);all_goals simp[bz,xr,aX,aY,aW]
  all_goals simp[iW]
 | .nil=>by
  refine be sY CP Eh fun aK=>?_;unfold Ab;simp;refine du [1,2,8,9] (fun i (_:Unit)=>[(10,.int .i64 i)]) 0 (fun i _=>True) () bL trivial (fun _ ae _=>?_) (fun i _ hi ae _=>Ω);simp;(with_reducible repeat' first|refine aj ?_|simp);all_goals simp[bz,xr,aX,aY,aW]
  all_goals simp[iW]
theorem Z2(s:List aq)(n:Int):bF ak 146 [.slice 5 .no (s.map aq.e),.int .i64 n] (.bool (s.all (k0 n))):=by
 generalize aV:s.all (k0 n)=R;refine be sY afG amI fun aK=>?_;unfold Sp;have eB:s.length<=68719476736:=by simp[ek,ec,eg,lim]at aK;omega
 simp;refine du [1,7,8] (fun i (_:Unit)=>[(9,.int .i64 i)]) s.length (ka (k0 n) s) () bL (fun k b ad=>Ω) (fun _ ae _=>?_) (fun i _ hi ae _=>?_)
 ·have:R=true:=by rw[<-aV,ga];intro b ab;obtain⟨k,ad,e⟩:=nY ab;exact ae k b ad (by rw[cc ad,e])
  rw[this];exact bJ
 ·obtain⟨b,aB,gN⟩:=dB hi;have eM:k0 n b=false->R=false:=fun h=>by rw[<-aV,Bool.eq_false_iff];intro cf;rw[ga]at cf;rw[cf b (dE aB)]at h;cases h
  have ly:=O5 n b.t;by_cases J:b.v<n
  ·have oc:¬n<=b.v:=Ω
   cases U:iW n b.t
   ·rw[eM (by simp[k0,U])];rw[U]at ly;clear ae aB;exact bJ
   ·have ax:=ae.step aB (by simp[k0,J,U]);rw[U]at ly;clear ae aB;exact fO
  ·have oc:n<=b.v:=Ω
   rw[eM (by simp[k0,J])];clear ae aB;exact bJ
theorem aql(l:List (List cX)):bF ak 143 [.slice 1 .no (l.map gg)] (.bool (l.all gY)):=by
 generalize aV:l.all gY=R;refine be sY afB amD fun aK=>?_;unfold Sj;have eB:l.length<=68719476736:=by simp[ek,ec,eg,lim]at aK;omega
 simp;refine du [5,6] (fun i (_:Unit)=>[(7,.int .i64 i)]) l.length (ka gY l) () bL (fun k b ad=>Ω) (fun _ ae _=>?_) (fun i _ hi ae _=>?_)
 ·have:R=true:=by rw[<-aV,ga];intro b ab;obtain⟨k,ad,e⟩:=nY ab;exact ae k b ad (by rw[cc ad,e])
  rw[this];exact bJ
 ·obtain⟨b,aB,gN⟩:=dB hi;have de:bF ak 142 [gg b] (.bool (gY b)):=O6 b;cases ab:gY b
  ·have:R=false:=by rw[<-aV,Bool.eq_false_iff];intro cf;rw[ga]at cf;rw[cf b (dE aB)]at ab;cases ab
   rw[this];rw[ab]at de;clear ae aB;exact bJ
  ·have ax:=ae.step aB ab;rw[ab]at de;clear ae aB;exact fO
theorem SN(a:List (List aq))(k:Nat)(m:List aq):ko k (a.map cU)++cU m::ng k (a.map cU)=(a.take k++m::a.drop k).map cU:=by simp
theorem q1(a:List (List aq))(k:Nat)(m:List aq):c2 (ko k (a.map cU)++cU m::ng k (a.map cU))=ko k (a.map cU)++cU m::ng k (a.map cU):=by rw[SN,OF]
theorem q0(S:aI->Prop)(a:List (List aq))(k:Nat)(m:List aq):aH S (ko k (a.map cU)++cU m::ng k (a.map cU))=True:=by rw[SN,V2]
theorem SM(a:List (List aq))(m:List aq):a.map cU++[cU m]=(a++[m]).map cU:=by simp
theorem qZ(a:List (List aq))(m:List aq):c2 (a.map cU++[cU m])=a.map cU++[cU m]:=by rw[SM,OF]
theorem qY(S:aI->Prop)(a:List (List aq))(m:List aq):aH S (a.map cU++[cU m])=True:=by rw[SM,V2]
theorem Z0(L:List (List aq))(jQ:∀d∈L,eU d):bF ak 220 [.slice 1 .no (L.map cU)] (.slice 1 .no ((k6 L).map cU)):=by
 generalize aV:k6 L=R;rw[akf]at aV;refine be sY afD amF fun aK=>?_;unfold Sl;have eB:L.length<=68719476736:=by simp[ek,ec,eg,lim]at aK;omega
 simp;refine du [0,12,13] (fun i (a:List (List aq))=>[(3,.slice 1 .no (a.map cU)),(14,.int .i64 i)]) L.length (yS L) [] bL (by simp[yS]) (fun a ae _=>?_) (fun i a hi ae _=>?_)
 ·rw[yS,jJ,aV]at ae;subst ae;exact bJ
 ·obtain⟨e,he,Lf⟩:=dB hi;have sc:hZ eD a:=by rw[ae];exact ML _ (by simp[hZ])
  have sd:a.length<=i:=by have:=WJ (L:=L) (L.take i) [];rw[ae];simp at this⊢;omega
  have fD:=ae.step he;have lU:=jQ e (dE he);have bo:∀d,bF ak 180 [cU d,cU e] (.int .i64 (eD d e)):=fun d=>O2 d e;clear ae he;simp[hi,Lf];(with_reducible repeat' first|refine aj ?_|simp[hi,Lf]);refine du [0,3,5,12,13,14,18,19] (fun j (b:Bool)=>[(6,.bool b),(20,.int .i64 j)]) L.length (qx L e) true bL (by simp[qx]) (fun keep ae _=>?_) (fun j keep eh ae _=>?_)
  ·rw[qx,jJ]at ae;have UA:keep=jd L e:=ae;rw[qD,<-UA]at fD;clear ae UA;simp;(with_reducible repeat' first|refine aj ?_|simp);refine uY [0,3,5,6,12,13,14] (fun(k:Nat)=>[(9,.int .i64 k)]) (fun k=>k) (G4 a e) a.length bL ⟨Ω,fun c h=>by simp at h⟩ (fun k ae _=>?_);have ad:=ae.1;rcases Nat.eq_zero_or_pos k with bs|fE
   ·have bp:decide ((0:Int)<k)=false:=by simp;omega
    have sx:¬(0:Int)<k:=Ω
    have dR:=ae.fin sc fun d h=>Ω
    clear ae sc;cases keep with
    |false=>simp only[hl,if_false]at fD;clear dR;exact fO
    |true=>
     simp only[if_true]at fD;by_cases hC:k<a.length
     ·obtain⟨c,aw,j7⟩:=dB hC;rw[aw]at dR;by_cases q:eD c e=0
      ·rw[if_pos (by simp[q])]at dR;rw[dR]at fD;clear dR aw;simp[hC,j7,bp,sx];((with_reducible repeat' first|refine aj ?_|refine aF (bo _) ?_|refine aG (bo _) ?_|simp[hC,j7,q,bp,sx]|((first|apply bS|apply bW|apply bV)<;>intro h<;>try simp at h))<;>(try exact cy));all_goals exact bO.rng a hi fD bL
      ·rw[if_neg (by simp[q])]at dR;have gH:(eD c e !=0)=true:=by simp[q]
       rw[dR]at fD;clear dR aw;simp[hC,j7,bp,sx];((with_reducible repeat' first|refine aj ?_|refine aF (bo _) ?_|refine aG (bo _) ?_|simp[hC,j7,q,gH,bp,sx]|((first|apply bS|apply bW|apply bV)<;>intro h<;>try simp at h))<;>(try exact cy));all_goals first|(refine⟨by unfold lim;omega,?_⟩)|skip
       all_goals(with_reducible repeat' first|refine aj ?_|simp)
       all_goals first|(refine⟨by unfold lim;omega,?_⟩)|skip
       all_goals((with_reducible repeat' first|refine aj ?_|simp|((first|apply bS|apply bW|apply bV)<;>intro h<;>try simp at h))<;>(try exact cy))
       all_goals exact bO.rng _ hi fD ⟨by simp[fresh,aH,aD,b7,inObs,Pv.look,hQ,q1,q0,qZ,qY],ee (by simp[fresh,aH,aD,b7,inObs,Pv.look,hQ,q1,q0,qZ,qY]),ef (by simp[fresh,aH,aD,dW,inObs,Pv.look,hQ,q1,q0,qZ,qY]),Ψ⟩
     ·rw[qO Ω]at dR;simp only[hl,if_false]at dR;rw[dR]at fD;have hW:k=a.length:=Ω
      have tF:a.take k++e::a.drop k=a++[e]:=by rw[hW];simp
      rw[tF]at fD;clear dR tF;simp[hC,bp,sx];((with_reducible repeat' first|refine aj ?_|refine aF (bo _) ?_|refine aG (bo _) ?_|simp[hC,hW,bp,sx]|((first|apply bS|apply bW|apply bV)<;>intro h<;>try simp at h))<;>(try exact cy));all_goals first|(refine⟨by unfold lim;omega,?_⟩)|skip
      all_goals(with_reducible repeat' first|refine aj ?_|simp)
      all_goals first|(refine⟨by unfold lim;omega,?_⟩)|skip
      all_goals((with_reducible repeat' first|refine aj ?_|simp|((first|apply bS|apply bW|apply bV)<;>intro h<;>try simp at h))<;>(try exact cy))
      all_goals exact bO.rng _ hi fD ⟨by simp[fresh,aH,aD,b7,inObs,Pv.look,hQ,q1,q0,qZ,qY],ee (by simp[fresh,aH,aD,b7,inObs,Pv.look,hQ,q1,q0,qZ,qY]),ef (by simp[fresh,aH,aD,dW,inObs,Pv.look,hQ,q1,q0,qZ,qY]),Ψ⟩
   ·obtain⟨d,aR⟩:∃d,a[k-1]? =some d:=⟨_,cc Ω⟩;have al:((k:Int)-1).toNat=k-1:=Ω
    have aE:∀h,(a[k-1]'h)=d:=fun h=>by rw[cc h]at aR;exact eQ aR
    have jb:(0:Int)<k:=Ω
    have mm:k-1<a.length:=Ω
    by_cases ab:0<=eD d e
    ·have ag:G4 a e (k-1):=⟨Ω,fun c aw=>by rw[aR]at aw;cases aw;exact ab⟩;clear ae sc fD aR;simp[fE,jb,al,aE,ab,mm];((with_reducible repeat' first|refine aj ?_|refine aF (bo _) ?_|refine aG (bo _) ?_|simp[fE,jb,al,aE,ab,mm]|((first|apply bS|apply bW|apply bV)<;>intro h<;>try simp at h))<;>(try exact cy));refine bO.whl (k-1) Ω ag ?_;have bn:((k-1:Nat):Int)=(k:Int)-1:=Ω
     simp[bn];exact bL
    ·have dR:=ae.fin sc fun cj _ k1=>by rw[aR]at k1;cases k1;omega
     clear ae sc aR;cases keep with
     |false=>simp only[hl,if_false]at fD;clear dR;simp[fE,jb,al,aE,ab,mm];(with_reducible repeat' first|refine aj ?_|refine aF (bo _) ?_|refine aG (bo _) ?_|simp[fE,jb,al,aE,ab,mm]);all_goals exact bO.rng a hi fD bL
     |true=>
      simp only[if_true]at fD;by_cases hC:k<a.length
      ·obtain⟨c,aw,j7⟩:=dB hC;rw[aw]at dR;by_cases q:eD c e=0
       ·rw[if_pos (by simp[q])]at dR;rw[dR]at fD;clear dR aw;simp[hC,j7,fE,jb,al,aE,ab,mm];((with_reducible repeat' first|refine aj ?_|refine aF (bo _) ?_|refine aG (bo _) ?_|simp[hC,j7,q,fE,jb,al,aE,ab,mm]|((first|apply bS|apply bW|apply bV)<;>intro h<;>try simp at h))<;>(try exact cy));all_goals exact bO.rng a hi fD bL
       ·rw[if_neg (by simp[q])]at dR;have gH:(eD c e !=0)=true:=by simp[q]
        rw[dR]at fD;clear dR aw;simp[hC,j7,fE,jb,al,aE,ab,mm];((with_reducible repeat' first|refine aj ?_|refine aF (bo _) ?_|refine aG (bo _) ?_|simp[hC,j7,q,gH,fE,jb,al,aE,ab,mm]|((first|apply bS|apply bW|apply bV)<;>intro h<;>try simp at h))<;>(try exact cy));all_goals first|(refine⟨by unfold lim;omega,?_⟩)|skip
        all_goals(with_reducible repeat' first|refine aj ?_|simp)
        all_goals first|(refine⟨by unfold lim;omega,?_⟩)|skip
        all_goals((with_reducible repeat' first|refine aj ?_|simp|((first|apply bS|apply bW|apply bV)<;>intro h<;>try simp at h))<;>(try exact cy))
        all_goals exact bO.rng _ hi fD ⟨by simp[fresh,aH,aD,b7,inObs,Pv.look,hQ,q1,q0,qZ,qY],ee (by simp[fresh,aH,aD,b7,inObs,Pv.look,hQ,q1,q0,qZ,qY]),ef (by simp[fresh,aH,aD,dW,inObs,Pv.look,hQ,q1,q0,qZ,qY]),Ψ⟩
      ·rw[qO Ω]at dR;simp only[hl,if_false]at dR;rw[dR]at fD;have hW:k=a.length:=Ω
       have tF:a.take k++e::a.drop k=a++[e]:=by rw[hW];simp
       rw[tF]at fD;clear dR tF;simp[hC,fE,jb,al,aE,ab,mm];((with_reducible repeat' first|refine aj ?_|refine aF (bo _) ?_|refine aG (bo _) ?_|simp[hC,hW,fE,jb,al,aE,ab,mm]|((first|apply bS|apply bW|apply bV)<;>intro h<;>try simp at h))<;>(try exact cy));all_goals first|(refine⟨by unfold lim;omega,?_⟩)|skip
       all_goals(with_reducible repeat' first|refine aj ?_|simp)
       all_goals first|(refine⟨by unfold lim;omega,?_⟩)|skip
       all_goals(with_reducible repeat' first|refine aj ?_|simp)
       all_goals exact bO.rng _ hi fD ⟨by simp[fresh,aH,aD,b7,inObs,Pv.look,hQ,q1,q0,qZ,qY],ee (by simp[fresh,aH,aD,b7,inObs,Pv.look,hQ,q1,q0,qZ,qY]),ef (by simp[fresh,aH,aD,dW,inObs,Pv.look,hQ,q1,q0,qZ,qY]),Ψ⟩
  ·obtain⟨d,aR,hdi⟩:=dB eh;have ax:=ae.step aR;have j9:=jQ d (dE aR);have dn:bF ak 269 [cU d,cU e] (.bool (nN d e)):=apP j9 lU;clear ae aR fD sc;cases keep with
   |false=>simp only[Bool.false_and]at ax;exact fO
   |true=>
    simp only[Bool.true_and,w7]at ax;by_cases q:eD d e=0
    ·rw[gK ((l3.zero _ _).1 q),Bool.true_or]at ax;simp[eh,hdi];(with_reducible repeat' first|refine aj ?_|refine aF (bo _) ?_|refine aG (bo _) ?_|simp[eh,hdi,q]);all_goals exact bO.rng true eh ax bL
    ·rw[hG (fun h=>q ((l3.zero _ _).2 h)),Bool.false_or]at ax;have gH:(eD d e==0)=false:=by simp[q]
     cases a7:nN d e
     ·rw[a7]at ax dn;simp[eh,hdi];(with_reducible repeat' first|refine aj ?_|refine aF (bo _) ?_|refine aG (bo _) ?_|refine aF dn ?_|refine aG dn ?_|simp[eh,hdi,q,gH]);all_goals exact bO.rng true eh ax bL
     ·rw[a7]at ax dn;simp[eh,hdi];(with_reducible repeat' first|refine aj ?_|refine aF (bo _) ?_|refine aG (bo _) ?_|refine aF dn ?_|refine aG dn ?_|simp[eh,hdi,q,gH]);all_goals exact bO.rng false eh ax bL
theorem mS.fst{s:List (List aq)}{t:List aq}{acc:List (List aq)}(h:mS s 0 acc)(aN:s[0]? =some t):mS s 1 (if jd s t=true then acc++[t]else acc):=by
 unfold mS at*;rw[tX aN]at h;have e:(if(1:Nat)=0 then none else s[1-1]?)=some t:=by simpa using aN
 have cf:acc++(t::cQ (some t) (s.drop 1)).filter (jd s)=(cQ none s).filter (jd s):=by rw[<-h];simp[cQ]
 rw[e,<-cf];by_cases ad:jd s t=true<;>simp[ad]
theorem mS.eq{s:List (List aq)}{i:Nat}{t:List aq}{acc:List (List aq)}(h:mS s i acc)(hi:i≠0)(bB:s[i-1]? =some t)(aN:s[i]? =some t):mS s (i+1) acc:=by
 unfold mS at*;rw[if_neg hi,bB,tX aN]at h;have e:(if i+1=0 then none else s[i+1-1]?)=some t:=by rw[if_neg Ω];exact aN
 rw[e,<-h];simp[cQ]
theorem mS.ne{s:List (List aq)}{i:Nat}{p t:List aq}{acc:List (List aq)}(h:mS s i acc)(hi:i≠0)(bB:s[i-1]? =some p)(aN:s[i]? =some t)(ax:¬p=t):mS s (i+1) (if jd s t=true then acc++[t]else acc):=by
 unfold mS at*;rw[if_neg hi,bB,tX aN]at h;have e:(if i+1=0 then none else s[i+1-1]?)=some t:=by rw[if_neg Ω];exact aN
 have aR:cQ (some p) (t::s.drop (i+1))=t::cQ (some t) (s.drop (i+1)):=by simp[cQ,ax]
 rw[aR]at h;rw[e,<-h];by_cases ad:jd s t=true<;>simp[ad]
theorem aoZ(l:List (List aq)):(pg eD l).length=l.length:=(zy eD l).length_eq
theorem yV(S:aI->Prop)(l:List (List aq))(d:List aq):aH S (l.map cU++[cU d])=True:=by have:=Mj S (l++[d]);rw[rO]at this;exact eq_true this
theorem apO(l:List (List aq))(jQ:∀d∈l,eU d):bF ak 124 [.slice 1 .no (l.map cU)] (.slice 1 .no ((k6 l).map cU)):=by
 generalize aV:k6 l=R;rw[ake]at aV;refine be xG adN akN fun aK=>?_;unfold Qs;have eB:l.length<=68719476736:=by simp[ek,ec,eg,lim]at aK;omega
 simp;refine du [0,12,13] (fun i (_:Unit)=>[(14,.int .i64 i)]) l.length (fun _ _=>True) () bL trivial (fun _ _ _=>?_) (fun i _ hi _ _=>?_);rotate_left
 ·obtain⟨e,he,Lf⟩:=dB hi;have de:bF ak 55 [cU e] (.bool true):=qf (jQ e (dE he));exact fO
 simp;(with_reducible repeat' first|refine aj ?_|simp);all_goals first|(refine⟨by unfold lim;omega,?_⟩)|skip
 all_goals(with_reducible repeat' first|refine aj ?_|simp)
 refine cT.ob (agJ l eB) (Ja l) (by unfold uJ dO;exact aL) (by unfold uJ dO;exact aL) (by simp[inObs,dO,Pv.look]) ?_;rintro r ah ⟨rfl,rfl⟩;refine⟨xW _ _,?_⟩;obtain⟨s,Dx⟩:∃s,s=pg eD l:=⟨_,rfl⟩;have p2:s.length=l.length:=by rw[Dx];exact aoZ l
 have ag:∀d∈s,eU d:=fun d aR=>jQ d (by rw[Dx,Y4]at aR;exact aR);rw[<-Dx]at aV;rw[<-Dx];clear Dx;simp[uJ,dO,cl];refine gT (fun i (acc:List (List aq))=>⟨[(5,.ptr (.obj 822) 0),(6,.slice 1 (.own (.loc 0)) (acc.map cU)),(30,.row 1 (.obj 821) s.length),(31,.int .i64 s.length),(32,.int .i64 i)],[(.obj 822,[.row 1 (.obj 821) s.length])],[(.loc 0,⟨acc.length,23,1,none⟩),(.obj 821,⟨s.length,23,1,some (s.map cU)⟩)],1,[.obj 821,.obj 822]⟩) s.length (fun i acc=>acc.length<=i/\mS s i acc) [] bL ⟨Ψ,by simp[mS]⟩ (fun acc ae _=>?_) (fun i acc hi ae _=>?_)
 ·have ae:=ae.2;rw[mS,List.drop_length]at ae;have:acc=R:=by rw[<-aV];simpa[cQ]using ae
  subst this;exact bJ
 ·obtain⟨asF,ae⟩:=ae;have sd:acc.length<=68719476735:=Ω
  obtain⟨t,qv,aN⟩:=dB hi;have cR:=ag t (dE qv);have kN:bF ak 119 [cU t] (cU t):=ZL t cR.len;have jV:(if jd s t=true then acc++[t]else acc).length<=acc.length+1:=by split<;>simp
  rcases Nat.eq_zero_or_pos i with rfl|fE
  ·have UK:=ae.fst qv;have fD:(if jd s t=true then acc++[t]else acc).length<=0+1/\mS s (0+1) (if jd s t=true then acc++[t]else acc):=⟨kB jV Ω,UK⟩;clear ae UK qv;simp[hi,aN];(with_reducible repeat' first|refine aj ?_|simp[hi,aN]);refine du [5,6,8,30,31,32,49,50] (fun j (b:Bool)=>[(9,.bool b),(51,.int .i64 j)]) s.length (qx s t) true bL (by simp[qx]) (fun keep ae _=>?_) (fun j keep eh ae _=>?_)
   ·rw[qx,jJ,<-VK]at ae;rw[<-ae]at fD;clear ae;cases keep with
    |false=>simp only[hl,if_false]at fD;simp;((with_reducible repeat' first|refine aj ?_|simp|((first|apply bS|apply bW|apply bV)<;>intro h<;>try simp at h))<;>(try exact cy));all_goals exact bO.rng acc hi fD bL
    |true=>
     simp only[if_true]at fD;clear jV;simp;((with_reducible repeat' first|refine aj ?_|refine aF kN ?_|refine aG kN ?_|simp|((first|apply bS|apply bW|apply bV)<;>intro h<;>try simp at h))<;>(try exact cy));all_goals first|(refine⟨by unfold lim;omega,?_⟩)|skip
     all_goals(with_reducible repeat' first|refine aj ?_|simp)
     all_goals exact bO.rng (acc++[t]) hi fD ⟨by simp[fresh,aH,aD,b7,inObs,Pv.look,yV],ee (by simp[fresh,aH,aD,b7,inObs,Pv.look,yV]),ef (by simp[fresh,aH,aD,dW,inObs,Pv.look,yV]),Ψ⟩
   ·obtain⟨d,aR,hdi⟩:=dB eh;have ax:=ae.step aR;have j9:=ag d (dE aR);have dn:bF ak 205 [cU d,cU t] (.bool (nN d t)):=Z3 d j9.len cR;have pa:bF ak 204 [cU d,cU t] (.int .i64 (eD d t)):=IY d t;clear ae aR fD;by_cases q:eD d t=0
    ·rw[w7,gK ((l3.zero _ _).1 q),Bool.true_or,Bool.and_true]at ax;rw[q]at pa;simp[eh,hdi];((with_reducible repeat' first|refine aj ?_|refine aF pa ?_|refine aG pa ?_|simp[eh,hdi]|((first|apply bS|apply bW|apply bV)<;>intro h<;>try simp at h))<;>(try exact cy));all_goals exact bO.rng keep eh ax bL
    ·rw[w7,hG (fun h=>q ((l3.zero _ _).2 h)),Bool.false_or]at ax;have gH:(eD d t !=0)=true:=by simp[q]
     cases a7:nN d t
     ·rw[a7]at ax dn;simp only[Bool.not_false,Bool.and_true]at ax;simp[eh,hdi];((with_reducible repeat' first|refine aj ?_|refine aF pa ?_|refine aG pa ?_|refine aF dn ?_|refine aG dn ?_|simp[eh,hdi,q,gH]|((first|apply bS|apply bW|apply bV)<;>intro h<;>try simp at h))<;>(try exact cy));all_goals exact bO.rng keep eh ax bL
     ·rw[a7]at ax dn;simp only[Bool.not_true,Bool.and_false]at ax;simp[eh,hdi];((with_reducible repeat' first|refine aj ?_|refine aF pa ?_|refine aG pa ?_|refine aF dn ?_|refine aG dn ?_|simp[eh,hdi,q,gH]|((first|apply bS|apply bW|apply bV)<;>intro h<;>try simp at h))<;>(try exact cy));all_goals exact bO.rng false eh ax bL
  ·obtain⟨p,AV⟩:∃p,s[i-1]? =some p:=⟨_,cc Ω⟩;have al:((i:Int)-1).toNat=i-1:=Ω
   have aE:∀h,(s[i-1]'h)=p:=fun h=>by rw[cc h]at AV;exact eQ AV
   have bn:¬i=0:=Ω
   have dh:i-1<s.length:=Ω
   have jb:(0:Int)<i:=Ω
   have ju:bF ak 204 [cU p,cU t] (.int .i64 (eD p t)):=IY p t;by_cases GN:p=t
   ·have fD:acc.length<=i+1/\mS s (i+1) acc:=⟨Ω,ae.eq bn (by rw[AV,GN]) qv⟩;rw[(l3.zero _ _).2 GN]at ju;clear ae qv AV;simp[hi,aN,al,aE,dh,jb];((with_reducible repeat' first|refine aj ?_|refine aF ju ?_|refine aG ju ?_|simp[hi,aN,al,aE,dh,fE,jb]|((first|apply bS|apply bW|apply bV)<;>intro h<;>try simp at h))<;>(try exact cy));all_goals exact bO.rng acc hi fD bL
   ·have fD:(if jd s t=true then acc++[t]else acc).length<=i+1/\mS s (i+1) (if jd s t=true then acc++[t]else acc):=⟨kB jV Ω,ae.ne bn AV qv GN⟩;have kg:¬eD p t=0:=fun h=>GN ((l3.zero _ _).1 h);have Xz:(eD p t==0)=false:=by simp[kg]
    clear ae qv AV;simp[hi,aN,al,aE,dh,jb];((with_reducible repeat' first|refine aj ?_|refine aF ju ?_|refine aG ju ?_|simp[hi,aN,al,aE,dh,fE,jb,kg,Xz]|((first|apply bS|apply bW|apply bV)<;>intro h<;>try simp at h))<;>(try exact cy));refine du [5,6,8,30,31,32,49,50] (fun j (b:Bool)=>[(9,.bool b),(51,.int .i64 j)]) s.length (qx s t) true bL (by simp[qx]) (fun keep ae _=>?_) (fun j keep eh ae _=>?_)
    ·rw[qx,jJ,<-VK]at ae;rw[<-ae]at fD;clear ae;cases keep with
     |false=>simp only[hl,if_false]at fD;simp;((with_reducible repeat' first|refine aj ?_|simp|((first|apply bS|apply bW|apply bV)<;>intro h<;>try simp at h))<;>(try exact cy));all_goals exact bO.rng acc hi fD bL
     |true=>
      simp only[if_true]at fD;clear jV;simp;(with_reducible repeat' first|refine aj ?_|refine aF kN ?_|refine aG kN ?_|simp);all_goals first|(refine⟨by unfold lim;omega,?_⟩)|skip
      all_goals(with_reducible repeat' first|refine aj ?_|simp)
      all_goals exact bO.rng (acc++[t]) hi fD ⟨by simp[fresh,aH,aD,b7,inObs,Pv.look,yV],ee (by simp[fresh,aH,aD,b7,inObs,Pv.look,yV]),ef (by simp[fresh,aH,aD,dW,inObs,Pv.look,yV]),Ψ⟩
    ·obtain⟨d,aR,hdi⟩:=dB eh;have ax:=ae.step aR;have j9:=ag d (dE aR);have dn:bF ak 205 [cU d,cU t] (.bool (nN d t)):=Z3 d j9.len cR;have pa:bF ak 204 [cU d,cU t] (.int .i64 (eD d t)):=IY d t;clear ae aR fD;by_cases q:eD d t=0
     ·rw[w7,gK ((l3.zero _ _).1 q),Bool.true_or,Bool.and_true]at ax;rw[q]at pa;simp[eh,hdi];((with_reducible repeat' first|refine aj ?_|refine aF pa ?_|refine aG pa ?_|simp[eh,hdi]|((first|apply bS|apply bW|apply bV)<;>intro h<;>try simp at h))<;>(try exact cy));all_goals exact bO.rng keep eh ax bL
     ·rw[w7,hG (fun h=>q ((l3.zero _ _).2 h)),Bool.false_or]at ax;have gH:(eD d t !=0)=true:=by simp[q]
      cases a7:nN d t
      ·rw[a7]at ax dn;simp only[Bool.not_false,Bool.and_true]at ax;simp[eh,hdi];((with_reducible repeat' first|refine aj ?_|refine aF pa ?_|refine aG pa ?_|refine aF dn ?_|refine aG dn ?_|simp[eh,hdi,q,gH]|((first|apply bS|apply bW|apply bV)<;>intro h<;>try simp at h))<;>(try exact cy));all_goals exact bO.rng keep eh ax bL
      ·rw[a7]at ax dn;simp only[Bool.not_true,Bool.and_false]at ax;simp[eh,hdi];((with_reducible repeat' first|refine aj ?_|refine aF pa ?_|refine aG pa ?_|refine aF dn ?_|refine aG dn ?_|simp[eh,hdi,q,gH]|((first|apply bS|apply bW|apply bV)<;>intro h<;>try simp at h))<;>(try exact cy));all_goals exact bO.rng false eh ax bL
theorem aac(l:List T)(h:∀t∈l,t.fit=true):bF ak 68 [.slice 4 .no (l.map T.e)] (.bool true):=by
 refine be fy Th W8 fun aK=>?_;unfold JM;have eB:l.length<=68719476736:=by simp[ek,ec,eg,lim]at aK;omega
 simp;refine du [5,6] (fun i (_:Unit)=>[(7,.int .i64 i)]) l.length (fun _ _=>True) () bL trivial (fun _ _ _=>?_) (fun i _ hi _ _=>?_)
 ·exact bJ
 ·obtain⟨t,aN,qv⟩:=dB hi;have c6:=O0 (h t (dE aN));clear aN;exact fO
def iR(m:Int):cH:=⟨[(.obj 831,[.int .i64 m])],[]⟩
theorem we(m:Int):dN (iR m):=by unfold iR;exact dN.of ⟨by intro m;simp[Pv.look],by intro m;simp[Pv.look]⟩ Ψ Ψ
theorem aaQ(a b:Int):Same (iR a) (iR b):=Same.keys (by simp[iR]) (by simp[iR])
theorem agb(v m ht:Int)(h:E3 v m=some ht):bH ak 193 [.int .i64 v,.ptr (.obj 831) 0] (iR m) fun r ah=>r= .tuple []/\ah=iR ht:=by
 unfold E3 at h;split at h;rotate_left
 ·cases h
 rename_i aB;cases h;have ag:=we m;simp only[iR]at ag⊢;by_cases hm:m<v+1
 ·rw[s5,if_pos hm];refine bH.mk mixed xG Tb W2 Ψ ag.obj fun aK cB=>?_;unfold JG;simp;(with_reducible repeat' first|refine aj ?_|simp[hm]);(refine cF.at (iR (v+1)) Ψ (by first|exact we _|exact we ‹_› _) (Same.keys (by simp[iR]) (by simp[iR])) (by simp only[iR,bZ,b6];exact aL) (by simp only[iR,bZ,b6];exact aL) ?_;simp[cL,NB,aX,aY,aW,inObs,Pv.look,iR])
 ·rw[s5,if_neg hm];refine bH.mk mixed xG Tb W2 Ψ ag.obj fun aK cB=>?_;unfold JG;simp;(with_reducible repeat' first|refine aj ?_|simp[hm]);(refine cF.at (iR m) Ψ (by first|exact we _|exact we ‹_› _) (Same.keys (by simp[iR]) (by simp[iR])) (by simp only[iR,bZ,b6];exact aL) (by simp only[iR,bZ,b6];exact aL) ?_;simp[cL,NB,aX,aY,aW,inObs,Pv.look,iR])
def E2(l:List T):Int:=l.foldl (fun m t=>t.fold s5 m) 0
def G5(l:List T)(i:Nat)(m:Int):Prop:=m=E2 (l.take i)
theorem apV(l:List T)(h:∀t∈l,t.fit=true):bF ak 116 [.slice 4 .no (l.map T.e)] (.int .i64 (E2 l)):=by
 have c6:=aac l h;generalize aV:E2 l=R;refine be xG adU akU fun aK=>?_;unfold Qz;have eB:l.length<=68719476736:=by simp[ek,ec,eg,lim]at aK;omega
 simp;(with_reducible repeat' first|refine aj ?_|refine aF c6 ?_|refine aG c6 ?_|simp);refine gT (fun i (m:Int)=>⟨[(3,.ptr (.obj 831) 0),(9,.slice 4 .no (l.map T.e)),(10,.int .i64 l.length),(11,.int .i64 i)],[(.obj 831,[.int .i64 m])],[],0,[.obj 831]⟩) l.length (G5 l) 0 bL rfl (fun m ae _=>?_) (fun i m hi ae _=>?_)
 ·rw[G5,jJ,aV]at ae;subst ae;exact bJ
 ·obtain⟨t,aN,qv⟩:=dB hi;have ahB:t.ok=true:=by have:=h t (dE aN);simp only[T.fit,cC]at this;exact this.1
  have ax:G5 l (i+1) (t.fold s5 m):=by rw[G5,rJ aN,E2,List.foldl_append,ae];rfl
  have key:=KQ iR we aaQ 193 [.ptr (.obj 831) 0] (fun a=>by simp[iR,inObs,Pv.look]) Ψ E3 (fun v a bq h=>agb v a bq h) t m _ (Pa t m ahB);clear ae aN;simp[hi,qv];(with_reducible repeat' first|refine aj ?_|simp[qv,hi]);(refine cT.ob (key) (by first|exact we _|exact we ‹_› _) (by simp only[iR,bZ,b6];exact aL) (by simp only[iR,bZ,b6];exact aL) (by simp[inObs,Pv.look,iR]) ?_;rintro r ah ⟨rfl,rfl⟩;refine⟨(Same.keys (by simp[iR]) (by simp[iR])),?_⟩;simp[cl,iR]);(with_reducible repeat' first|refine aj ?_|simp);refine bO.rng (t.fold s5 m) hi ax ?_;exact bL
theorem ZK{s:List aq}(ag:eU s){n:Int}(ax:0<=n):bF ak 58 [.slice 5 .no (s.map aq.e),.int .i64 n] (.bool (s.all (k0 n))):=by
 have p2:=ag.len;generalize aV:s.all (k0 n)=R;refine be xG adV akV fun aK=>?_;unfold QA;simp;refine du [1,7,8] (fun i (_:Unit)=>[(9,.int .i64 i)]) s.length (ka (k0 n) s) () bL (fun k b ad=>Ω) (fun _ ae _=>?_) (fun i _ hi ae _=>?_)
 ·have:R=true:=by rw[<-aV,ga];intro b ab;obtain⟨k,ad,e⟩:=nY ab;exact ae k b ad (by rw[cc ad,e])
  rw[this];exact bJ
 ·obtain⟨b,aB,gN⟩:=dB hi;have eM:k0 n b=false->R=false:=fun h=>by rw[<-aV,Bool.eq_false_iff];intro cf;rw[ga]at cf;rw[cf b (dE aB)]at h;cases h
  have ly:=apV [b.t] (fun t aN=>by simp at aN;subst aN;exact ag.fit b (dE aB));have hle:=Pb (n:=n) b.t 0;rw[show E2 [b.t]=b.t.fold s5 0 from rfl]at ly;simp only[gS,nh]at ly;generalize b.t.fold s5 0=m at ly hle;by_cases J:b.v<n
  ·have oc:¬n<=b.v:=Ω
   cases U:iW n b.t
   ·have au:n<m:=by rw[U]at hle;simp at hle;omega
    rw[eM (by simp[k0,U])];clear ae aB hle;exact bJ
   ·have au:¬n<m:=by rw[U]at hle;simp[ax]at hle;omega
    have oj:=ae.step aB (by simp[k0,J,U]);clear ae aB hle;exact fO
  ·have oc:n<=b.v:=Ω
   rw[eM (by simp[k0,J])];clear ae aB hle;exact bJ
def wi:C:=(aa [cO 1 0,a8 2 false] (.seq (aa [aC 11 0 1 1,av 12 1 11,aT 13 .lss 12 0,I 14 13,ao 14 false (aC 15 0 1 1),ao 14 false (av 16 1 15),ao 14 false (aT 17 .gtr 16 100000),cZ 18 14 17,I 19 18,ao 19 false (aC 20 1 1 1),ao 19 false (av 21 1 20),ao 19 false (cE 22 55 21),ao 19 false (cn 23 22),cZ 24 19 23,I 25 24,ao 25 false (aC 26 3 1 1),ao 25 false (av 27 1 26),ao 25 false (cE 28 56 27),ao 25 false (cn 29 28),cZ 30 25 29,I 31 30,ao 31 false (aC 32 4 1 1),ao 31 false (av 33 1 32),ao 31 false (cE 34 57 33),ao 31 false (cn 35 34),cZ 36 31 35,I 37 36,ao 37 false (aC 38 1 1 1),ao 37 false (av 39 1 38),ao 37 false (aC 40 0 1 1),ao 37 false (av 41 1 40),ao 37 false (bY 42 58 39 41),ao 37 false (cn 43 42),cZ 44 37 43] (aS 44 (aa [a8 2 false] .ret) .skip)) (.seq (aa [aC 45 2 1 1,av 46 1 45,b2 47 46,bP 48 0] (eH 49 48 47 (.seq (.block 1 (aa [b9 50 1 46 48,av 51 1 50,I 4 51] (aa [I 52 4,cE 53 55 52,cn 54 53,I 55 54,b4 55 false 56 4,ao 55 false (aC 57 0 1 1),ao 55 false (av 58 1 57),ao 55 false (bY 59 58 56 58),ao 55 false (cn 60 59),cZ 61 55 60] (aS 61 (aa [a8 2 false] .ret) .skip)))) (.region [aT 62 .add 48 1,I 48 62])))) (.seq (aa [aC 63 3 1 1,av 64 1 63,b2 65 64,bP 66 0] (.block 2 (.loop (aa [bh 67 .lss 66 65] (.seq (aS 67 .skip (.exit 2)) (.seq (.block 3 (aa [b9 68 2 64 66,a1 69 2 68,cN (.alloc 6 none (.agg [.int .i64 0,.int .i64 0])),bM 2 6 69] (aa [aC 70 0 1 6,av 71 1 70,aC 72 0 1 1,av 73 1 72,bh 74 .geq 71 73] (aS 74 (aa [a8 2 false] .ret) .skip)))) (.region [aT 75 .add 66 1,I 66 75]))))))) (.seq (aa [aC 76 4 1 1,av 77 1 76,b2 78 77,bP 79 0] (.block 4 (.loop (aa [bh 80 .lss 79 78] (.seq (aS 80 .skip (.exit 4)) (.seq (.block 5 (aa [b9 81 2 77 79,a1 82 2 81,cN (.alloc 8 none (.agg [.int .i64 0,.str []])),bM 2 8 82] (aa [aC 83 0 1 8,av 84 1 83,aC 85 0 1 1,av 86 1 85,bh 87 .geq 84 86] (aS 87 (aa [a8 2 false] .ret) .skip)))) (.region [aT 88 .add 79 1,I 79 88]))))))) (aa [a1 90 5 1,cE 91 50 90,I 89 91,cD 92 0 89,cD 93 1 89,c9 9 p5,bM 5 9 92,I 10 93] (aa [I 94 10,I 95 94,ao 95 true (a1 96 5 9),ao 95 true (a1 97 5 1),ao 95 true (bY 98 59 96 97),dx 99 95 98,I 2 99] .ret)))))))
@[simp] def am9:List bN:=[.tmp 2]
def FE:C:=(aa [cO 1 0,c9 2 p5,a8 3 false] (aa [aC 26 1 1 1,av 27 1 26,aC 28 3 1 1,av 29 1 28,bY 30 120 27 29,I 25 30,cD 31 0 25,cD 32 1 25,I 4 31,I 5 32] (aa [aC 34 1 1 1,av 35 1 34,aC 36 4 1 1,av 37 1 36,bY 38 121 35 37,I 33 38,cD 39 0 33,cD 40 1 33,I 6 39,I 7 40] (.seq (aa [I 41 5,cn 42 41,I 43 42,b4 43 false 44 7,ao 43 false (cn 45 44),cZ 46 43 45] (aS 46 (aa [j5 47 p5 [],bM 5 2 47,a8 3 false] .ret) .skip)) (aa [cN (.mkmap 48 none),I 8 48] (.seq (aa [I 49 4,b2 50 49,bP 51 0] (eH 52 51 50 (.seq (.block 1 (aa [b9 53 2 49 51,a1 54 2 53,cN (.alloc 10 none (.agg [.int .i64 0,.int .i64 0])),bM 2 10 54] (aa [aC 55 1 1 10,av 56 1 55,aT 57 .eql 56 3] (aS 57 (.region [I 58 8,aC 59 0 1 10,av 60 1 59,cN (.mput .i (.t 58) (.t 60) (.c (.bool true)))]) .skip)))) (.region [aT 61 .add 51 1,I 51 61])))) (aa [fj 62 2 106 [],I 11 62] (.seq (aa [I 63 6,b2 64 63,bP 65 0] (.block 2 (.loop (aa [bh 66 .lss 65 64] (.seq (aS 66 .skip (.exit 2)) (.seq (.block 3 (aa [b9 67 2 63 65,a1 68 2 67,cN (.alloc 13 none (.agg [.int .i64 0,.str []])),bM 2 13 68] (aa [I 69 8,aC 70 0 1 13,av 71 1 70,b5 72 (.mget .i (.bool false) false (.t 69) (.t 71)),cn 73 72] (aS 73 (.region [I 74 11,a1 75 2 13,fj 76 2 106 [.t 75],iP 77 2 106 74 76,I 11 77]) .skip)))) (.region [aT 78 .add 65 1,I 65 78]))))))) (aa [fj 79 1 23 [],I 14 79] (.seq (aa [aC 80 2 1 1,av 81 1 80,b2 82 81,bP 83 0] (.block 4 (.loop (aa [bh 84 .lss 83 82] (.seq (aS 84 .skip (.exit 4)) (.seq (.block 5 (aa [b9 85 1 81 83,av 86 1 85,I 16 86] (aa [aC 88 1 1 1,av 89 1 88,I 90 16,bY 91 122 89 90,I 87 91,cD 92 0 87,cD 93 1 87,I 17 92,I 18 93] (.seq (aa [I 94 18,cn 95 94] (aS 95 (.exit 5) .skip)) (aa [I 97 17,I 98 4,bY 99 120 97 98,I 96 99,cD 100 0 96,cD 101 1 96,I 19 100,I 20 101] (aa [I 103 17,I 104 11,bY 105 121 103 104,I 102 105,cD 106 0 102,cD 107 1 102,I 21 106,I 22 107] (.seq (aa [I 108 20,cn 109 108,I 110 109,b4 110 false 111 22,ao 110 false (cn 112 111),cZ 113 110 112] (aS 113 (.exit 5) .skip)) (aa [aC 114 1 1 1,av 115 1 114,I 116 17,bY 117 123 115 116,I 23 117] (.seq (aa [I 118 23,b2 119 118,aT 120 .eql 119 0] (aS 120 (aa [j5 121 p5 [],bM 5 2 121,a8 3 false] .ret) .skip)) (.region [I 122 14,I 123 23,fj 124 1 23 [.t 123],iP 125 1 23 122 124,I 14 125])))))))))) (.region [aT 126 .add 83 1,I 83 126]))))))) (aa [I 127 14,cE 128 124 127,I 24 128] (.seq (aa [I 129 24,b2 130 129,aT 131 .gtr 130 30] (aS 131 (aa [j5 132 p5 [],bM 5 2 132,a8 3 false] .ret) .skip)) (.seq (.drawn true 142 [aC 133 0 1 1,av 134 1 133,aC 135 1 1 1,av 136 1 135,cE 137 119 136,I 138 24,I 139 4,I 140 11,j5 141 p5 [(0,1,(.t 134)),(1,1,(.t 137)),(2,1,(.t 138)),(3,1,(.t 139)),(4,1,(.t 140))],bM 5 2 141,a8 3 true]) .ret)))))))))))))
@[simp] def BI:List bN:=[.cell 2 true 5,.tmp 3]
def x4:C:=(aa [cO 2 0,cO 3 1,a8 4 false] (.seq (aa [aC 8 0 1 2,av 9 1 8,aC 10 0 1 3,av 11 1 10,bh 12 .neq 9 11,I 13 12,ao 13 false (aC 14 1 1 2),ao 13 false (av 15 1 14),ao 13 false (aC 16 1 1 3),ao 13 false (av 17 1 16),ao 13 false (bY 18 135 15 17),ao 13 false (cn 19 18),cZ 20 13 19,I 21 20,ao 21 false (aC 22 2 1 2),ao 21 false (av 23 1 22),ao 21 false (b2 24 23),ao 21 false (aC 25 2 1 3),ao 21 false (av 26 1 25),ao 21 false (b2 27 26),ao 21 false (bh 28 .neq 24 27),cZ 29 21 28,I 30 29,ao 30 false (aC 31 3 1 2),ao 30 false (av 32 1 31),ao 30 false (b2 33 32),ao 30 false (aC 34 3 1 3),ao 30 false (av 35 1 34),ao 30 false (b2 36 35),ao 30 false (bh 37 .neq 33 36),cZ 38 30 37,I 39 38,ao 39 false (aC 40 4 1 2),ao 39 false (av 41 1 40),ao 39 false (b2 42 41),ao 39 false (aC 43 4 1 3),ao 39 false (av 44 1 43),ao 39 false (b2 45 44),ao 39 false (bh 46 .neq 42 45),cZ 47 39 46] (aS 47 (aa [a8 4 false] .ret) .skip)) (.seq (aa [aC 48 2 1 2,av 49 1 48,b2 50 49,bP 51 0] (eH 52 51 50 (.seq (.block 1 (aa [I 53 51,I 5 53] (.seq (.drawn true 103 [aC 54 2 1 2,av 55 1 54,I 56 5,b9 57 1 55 56,av 58 1 57,aC 59 2 1 3,av 60 1 59,I 61 5,b9 62 1 60 61,av 63 1 62,bY 64 135 58 63,cn 65 64]) (aS 65 (aa [a8 4 false] .ret) .skip)))) (.region [aT 66 .add 51 1,I 51 66])))) (.seq (aa [aC 67 3 1 2,av 68 1 67,b2 69 68,bP 70 0] (.block 2 (.loop (aa [bh 71 .lss 70 69] (.seq (aS 71 .skip (.exit 2)) (.seq (.block 3 (aa [I 72 70,I 6 72] (.seq (.drawn true 103 [aC 73 3 1 2,av 74 1 73,I 75 6,b9 76 2 74 75,a1 77 2 76,aC 78 3 1 3,av 79 1 78,I 80 6,b9 81 2 79 80,a1 82 2 81,b5 83 (.beq true (some [false,false]) (.t 77) (.t 82))]) (aS 83 (aa [a8 4 false] .ret) .skip)))) (.region [aT 84 .add 70 1,I 70 84]))))))) (.seq (aa [aC 85 4 1 2,av 86 1 85,b2 87 86,bP 88 0] (.block 4 (.loop (aa [bh 89 .lss 88 87] (.seq (aS 89 .skip (.exit 4)) (.seq (.block 5 (aa [I 90 88,I 7 90] (.seq (.drawn true 103 [aC 91 4 1 2,av 92 1 91,I 93 7,b9 94 2 92 93,a1 95 2 94,aC 96 4 1 3,av 97 1 96,I 98 7,b9 99 2 97 98,a1 100 2 99,b5 101 (.beq true (some [false,true]) (.t 95) (.t 100))]) (aS 101 (aa [a8 4 false] .ret) .skip)))) (.region [aT 102 .add 88 1,I 88 102]))))))) (aa [a8 4 true] .ret))))))
@[simp] def H4:List bN:=[.tmp 4]
def IL:List (Nat×dH):=[
 (3,⟨1,8,.int .i64,.int .i64 0⟩),
 (4,⟨1,1,.bool,.bool false⟩),
 (9,⟨1,16,.str,.str []⟩),
 (23,⟨1,24,.slice 61,.slice 5 .nil []⟩),
 (24,⟨1,24,.slice 23,.slice 1 .nil []⟩),
 (25,⟨1,24,.slice 104,.slice 2 .nil []⟩),
 (26,⟨1,24,.slice 106,.slice 2 .nil []⟩),
 (28,⟨5,104,.struct [(0,3),(1,23),(2,24),(3,25),(4,26)],.agg [.int .i64 0,.slice 5 .nil [],.slice 1 .nil [],.slice 2 .nil [],.slice 2 .nil []]⟩),
 (104,⟨2,16,.struct [(0,3),(1,3)],.agg [.int .i64 0,.int .i64 0]⟩),
 (106,⟨2,24,.struct [(0,3),(1,9)],.agg [.int .i64 0,.str []]⟩),
 (154,⟨1,8,.map 3 4,.junk⟩)]
theorem oD:fS ak IL=true:=by kernel_rfl
theorem za:bU IL wi am9 1 Tryz.f18=true:=by kernel_rfl
theorem x8:ak.funcs[(18:Nat)]? =some Tryz.f18:=Tryz.func18
theorem M7:bU IL FE BI 1 Tryz.f50=true:=by kernel_rfl
theorem Kw:ak.funcs[(50:Nat)]? =some Tryz.f50:=Tryz.func50
theorem Bx:bU IL x4 H4 2 Tryz.f59=true:=by kernel_rfl
theorem Aj:ak.funcs[(59:Nat)]? =some Tryz.f59:=Tryz.func59
def dA.e(s:dA):ai:= .agg [.int .i64 s.n,.slice 5 .no (s.b.map aq.e),.slice 1 .no (s.d.map cU),.slice 2 .no (s.k.map bQ.e),.slice 2 .no (s.m.map bj.e)]
@[simp]theorem atT(S:aI->Prop)(s:dA):aD S s.e=True:=by simp[dA.e,aD,aH]
def vO(o:ba dA):ai:= .tuple [(o.getD rM).e,.bool o.isSome]
@[simp]theorem atS(S:aI->Prop)(o:ba dA):aD S (vO o)=True:=by simp[vO,aD,aH]
def vo(k:List bQ)(i:Nat)(l:List (Int×Bool)):Prop:= ∀v,(c3 v l).getD false=(k.take i).any fun x=>x.v==v&&x.k==3
theorem vo.put{k:List bQ}{i:Nat}{l:List (Int×Bool)}(h:vo k i l){x:bQ}(af:k[i]? =some x)(au:x.k=3):vo k (i+1) (eK x.v true l):=fun v=>by
 rw[nU,rJ af,List.any_append,<-h v];by_cases e:v=x.v
 ·rw[if_pos e];simp[e,au]
 ·rw[if_neg e];have:(x.v==v)=false:=by simp;exact fun h=>e h.symm
  simp[this]
theorem vo.skip{k:List bQ}{i:Nat}{l:List (Int×Bool)}(h:vo k i l){x:bQ}(af:k[i]? =some x)(au:¬x.k=3):vo k (i+1) l:=fun v=>by
 rw[rJ af,List.any_append,<-h v];have:(x.k==3)=false:=by simp[au]
 simp[this]
theorem vo.fin{k:List bQ}{l:List (Int×Bool)}(h:vo k k.length l)(ad:ju k)(x:bj):(c3 x.v l).getD false= !kR k x:=by rw[h x.v,jJ,aa6 ad.asc,kR,bne,Bool.not_not]
def tR(k:List bQ)(m:List bj)(i:Nat)(a:List bj):Prop:=a=(m.take i).filter (kR k)
theorem tR.step{k:List bQ}{m:List bj}{i:Nat}{a:List bj}(h:tR k m i a){x:bj}(af:m[i]? =some x):tR k m (i+1) (if kR k x=true then a++[x]else a):=by
 rw[tR,rJ af,List.filter_append,<-h];by_cases e:kR k x=true
 ·rw[if_pos e];simp[e]
 ·rw[if_neg e];simp[e]
theorem Be(S:aI->Prop)(l:List bj)(d:bj):aH S (l.map bj.e++[d.e])=True:=by have:=Mi S (l++[d]);rw[rO]at this;exact eq_true this
theorem Wr{k:List bQ}{m:List bj}(h:h6 m):h6 (m.filter (kR k)):=⟨fun x af=>h.at' x (nZ.1 af).1,aav _ h.asc⟩
theorem Zm{G:List (List dM)}{k:List bQ}{m:List bj}(h:nT G m):nT G (m.filter (kR k)):=fun x af=>h x (nZ.1 af).1
theorem qy.skip{b:List aq}{k:List bQ}{m:List bj}{D:List (List aq)}{i:Nat}{a:List (List aq)}(h:qy b k m D i a){d:List aq}(aR:D[i]? =some d)(he:∀r,hd b k m (d::r)=hd b k m r):qy b k m D (i+1) a:=⟨by have:=h.1;omega,h.2.1,by rw[<-h.2.2,tX aR,he]⟩
theorem qy.snoc{b:List aq}{k:List bQ}{m:List bj}{D:List (List aq)}{i:Nat}{a:List (List aq)}(h:qy b k m D i a){d x:List aq}(aR:D[i]? =some d)(af:eU x)(he:∀r,hd b k m (d::r)=(hd b k m r).map (x:: ·)):qy b k m D (i+1) (a++[x]):=
 ⟨by have:=h.1;simp;omega,fun y aO=>by
  rcases kn.1 aO with aO|aO
  ·exact h.2.1 y aO
  ·simp at aO;subst aO;exact af,by
  rw[<-h.2.2,tX aR,he,Option.map_map];congr 1;funext r;simp⟩
theorem qy.stop{b:List aq}{k:List bQ}{m:List bj}{D:List (List aq)}{i:Nat}{a:List (List aq)}(h:qy b k m D i a){d:List aq}(aR:D[i]? =some d)(he:∀r,hd b k m (d::r)=none):hd b k m D=none:=by rw[<-h.2.2,tX aR,he];rfl
theorem qy.fin{b:List aq}{k:List bQ}{m:List bj}{D:List (List aq)}{a:List (List aq)}(h:qy b k m D D.length a):hd b k m D=some a:=by rw[<-h.2.2,List.drop_length];simp[hd]
theorem vq(S:aI->Prop)(l:List (List aq))(d:List aq):aH S (l.map cU++[.slice 5 .no (d.map aq.e)])=True:=yV S l d
theorem CF{d:List aq}(aR:eU d):∀e∈hU d,e.1.ok=true/\e.2.ok=true:=fun e he=>by obtain⟨c,aw,rfl⟩:=hB.1 he;have:=aR.ok c aw;exact⟨by simpa[T.ok]using this.1,this.2⟩
theorem aqM{s:dA}(h:vU s){G:List (List dM)}(ny:G.length<=687000)(a7:nT G s.m):bF ak 50 [s.e] (vO (nS s)):=by
 generalize dp:nS s=O;have kO:=ZI h.b h.k;have kP:=ZJ h.b h.m ny a7;have ot:=fun k=>Ic (acc:=[]) (a:=k) h.b h.k.at' ⟨Ψ,Ψ⟩;have qE:=fun m=>Ie (acc:=[]) (a:=m) h.b h.m.at' ⟨Ψ,by simp[hZ]⟩;have nv:=fun m=>N1 (acc:=[]) (a:=m) (s:=s.b) a7 (fun x af=>by simp at af);have ab:=h.b;have aR:=h.d;clear h a7;unfold nS at dp;obtain⟨n,b,d,fv,m0⟩:=s;simp only at kO kP ot qE nv ab aR dp;have e4:=ab.len;simp only[dA.e];generalize gq b fv []=ok at kO dp ot;generalize gr b m0 []=om at kP dp qE nv;cases ok with
 |none=>
  simp only at dp;subst dp;simp only[gj]at kO;simp only[jy]at kP;clear ot qE nv;refine be oD Kw M7 fun aK=>?_;unfold FE;simp;(with_reducible repeat' first|refine aj ?_|refine aF kO ?_|refine aG kO ?_|refine aF kP ?_|refine aG kP ?_|simp);all_goals simp[bz,BI,aX,aY,aW]
  all_goals simp[vO,rM,dA.e]
 |some k=>
  simp only at dp;cases om with
  |none=>
   simp only at dp;subst dp;simp only[gj]at kO;simp only[jy]at kP;clear ot qE nv;refine be oD Kw M7 fun aK=>?_;unfold FE;simp;(with_reducible repeat' first|refine aj ?_|refine aF kO ?_|refine aG kO ?_|refine aF kP ?_|refine aG kP ?_|simp);all_goals simp[bz,BI,aX,aY,aW]
   all_goals simp[vO,rM,dA.e]
  |some m=>
   simp only at dp;have wG:=ot k rfl;have yD:=qE m rfl;have yw:=nv m rfl;have hW:=tU wG;have kJ:m.length<=68719470000:=by have:=DV yD yw;omega
   have AR:=Wr (k:=k) yD;have AL:=Zm (k:=k) yw;have ah0:(m.filter (kR k)).length<=68719470000:=kB (List.length_filter_le _ _) kJ;simp only[gj,jA,pE]at kO;simp only[jy,jA,pE]at kP;clear ot qE nv;refine be oD Kw M7 fun aK=>?_;unfold FE;have yr:d.length<=68719476736:=by simp[ek,ec,eg,lim]at aK;omega
   simp;(with_reducible repeat' first|refine aj ?_|refine aF kO ?_|refine aG kO ?_|refine aF kP ?_|refine aG kP ?_|simp);refine gT (fun i (l:List (Int×Bool))=>⟨[(1,.ptr (.loc 0) 0),(2,.ptr (.loc 1) 0),(4,.slice 2 .no (k.map bQ.e)),(6,.slice 2 .no (m.map bj.e)),(8,.gmap (.loc 2)),(49,.slice 2 .no (k.map bQ.e)),(50,.int .i64 k.length),(51,.int .i64 i)],[(.loc 0,[.int .i64 n,.slice 5 .no (b.map aq.e),.slice 1 .no (d.map cU),.slice 2 .no (fv.map bQ.e),.slice 2 .no (m0.map bj.e)]),(.loc 1,[.int .i64 0,.slice 5 .nil [],.slice 1 .nil [],.slice 2 .nil [],.slice 2 .nil []]),(.loc 2,p6 l)],[],3,[]⟩) k.length (vo k) [] ⟨by simp[fresh,aH,aD,b7,inObs,Pv.look,Mu],ee (by simp[fresh,aH,aD,b7,inObs,Pv.look,Mu]),ef (by simp[fresh,aH,aD,dW,inObs,Pv.look,Mu]),Ψ⟩ (fun v=>by simp[c3]) (fun l ae _=>?_) (fun i l hi ae _=>?_);rotate_left
   ·obtain⟨x,af,cJ⟩:=dB hi;by_cases au:x.k=3
    ·have ax:=ae.put af au;clear ae af;exact fO
    ·have ax:=ae.skip af au;have tz:(x.k==3)=false:=by simp[au]
     clear ae af;exact fO
   have hints:=ae.fin wG;clear ae;simp;(with_reducible repeat' first|refine aj ?_|simp);refine gT (fun i (a:List bj)=>⟨[(1,.ptr (.loc 0) 0),(2,.ptr (.loc 1) 0),(4,.slice 2 .no (k.map bQ.e)),(8,.gmap (.loc 2)),(11,.slice 2 (.own (.loc 3)) (a.map bj.e)),(63,.slice 2 .no (m.map bj.e)),(64,.int .i64 m.length),(65,.int .i64 i)],[(.loc 0,[.int .i64 n,.slice 5 .no (b.map aq.e),.slice 1 .no (d.map cU),.slice 2 .no (fv.map bQ.e),.slice 2 .no (m0.map bj.e)]),(.loc 1,[.int .i64 0,.slice 5 .nil [],.slice 1 .nil [],.slice 2 .nil [],.slice 2 .nil []]),(.loc 2,p6 l)],[(.loc 3,⟨a.length,106,2,none⟩)],4,[]⟩) m.length (tR k m) [] bL (by simp[tR]) (fun a ae _=>?_) (fun i a hi ae _=>?_);rotate_left
   ·obtain⟨x,af,cJ⟩:=dB hi;have sd:a.length<=68719470000:=by
     have:a.length<=(m.take i).length:=by rw[ae];exact List.length_filter_le _ _
     simp at this;omega
    have ax:=ae.step af;have bm:=hints x;cases aJ:kR k x
    ·rw[aJ]at ax bm;simp only[hl,if_false,Bool.not_false]at ax bm;clear ae af aJ;simp[hi,cJ];((with_reducible repeat' first|refine aj ?_|simp[hi,cJ,bm]|((first|apply bS|apply bW|apply bV)<;>intro h<;>try simp at h))<;>(try exact cy));all_goals exact bO.rng a hi ax bL
    ·rw[aJ]at ax bm;simp only[if_true,Bool.not_true]at ax bm;clear ae af aJ;simp[hi,cJ];((with_reducible repeat' first|refine aj ?_|simp[hi,cJ,bm]|((first|apply bS|apply bW|apply bV)<;>intro h<;>try simp at h))<;>(try exact cy));all_goals first|(refine⟨by unfold lim;omega,?_⟩)|skip
     all_goals(with_reducible repeat' first|refine aj ?_|simp)
     all_goals exact bO.rng (a++[x]) hi ax ⟨by simp[fresh,aH,aD,b7,inObs,Pv.look,Be],ee (by simp[fresh,aH,aD,b7,inObs,Pv.look,Be]),ef (by simp[fresh,aH,aD,dW,inObs,Pv.look,Be]),Ψ⟩
   rw[tR,jJ]at ae;rw[<-ae]at AR AL ah0 dp;clear ae hints hW yD yw;simp;(with_reducible repeat' first|refine aj ?_|simp);refine gT (fun i (L:List (List aq))=>⟨[(1,.ptr (.loc 0) 0),(2,.ptr (.loc 1) 0),(4,.slice 2 .no (k.map bQ.e)),(11,.slice 2 (.own (.loc 3)) (a.map bj.e)),(14,.slice 1 (.own (.loc 4)) (L.map cU)),(81,.slice 1 .no (d.map cU)),(82,.int .i64 d.length),(83,.int .i64 i)],[(.loc 0,[.int .i64 n,.slice 5 .no (b.map aq.e),.slice 1 .no (d.map cU),.slice 2 .no (fv.map bQ.e),.slice 2 .no (m0.map bj.e)]),(.loc 1,[.int .i64 0,.slice 5 .nil [],.slice 1 .nil [],.slice 2 .nil [],.slice 2 .nil []])],[(.loc 3,⟨a.length,106,2,none⟩),(.loc 4,⟨L.length,23,1,none⟩)],5,[]⟩) d.length (qy b k a d) [] bL ⟨Ψ,Ψ,Ψ⟩ (fun L ae _=>?_) (fun i L hi ae _=>?_)
   ·have jQ:=ae.fin;have wB:=ae.2.1;rw[jQ]at dp;simp only at dp;have nI:=apO L wB;have kN:bF ak 119 [.slice 5 .no (b.map aq.e)] (.slice 5 .no (b.map aq.e)):=ZL b e4;clear ae jQ wB;generalize k6 L=M at nI dp;by_cases lO:M.length<=30
    ·have oZ:¬(30:Int)<M.length:=Ω
     rw[if_pos lO]at dp;subst dp;simp;(with_reducible repeat' first|refine aj ?_|refine aF nI ?_|refine aG nI ?_|refine aF kN ?_|refine aG kN ?_|simp[lO,oZ]);all_goals simp[bz,BI,aX,aY,aW]
     all_goals simp[vO,dA.e]
    ·have oZ:(30:Int)<M.length:=Ω
     rw[if_neg lO]at dp;subst dp;simp;(with_reducible repeat' first|refine aj ?_|refine aF nI ?_|refine aG nI ?_|refine aF kN ?_|refine aG kN ?_|simp[lO,oZ]);all_goals simp[bz,BI,aX,aY,aW]
     all_goals simp[vO,rM,dA.e]
   ·obtain⟨x,af,cJ⟩:=dB hi;have gV:=aR x (dE af);have T7:=ae.1;have h4:bF ak 122 [.slice 5 .no (b.map aq.e),cU x] (gx (mgu b (hU x))):=apL ab gV;simp only[gx]at h4;cases hu:mgu b (hU x)with
    |none=>have ax:=ae.skip af fun r=>Mo hu;rw[hu]at h4;simp only[nk,mc]at h4;clear ae af dp;exact fO
    |some y=>
     have js:=ab.mgu (CF gV) hu;rw[hu]at h4;simp only[jA,pE]at h4;have dq:=ZI js wG;have dn:=ZJ js AR ny AL;have h5:=apQ ab js;simp only[gj]at dq;simp only[jy]at dn;by_cases jS:gq y k []=none\/gr y a []=none
     ·have ax:=ae.skip af fun r=>Mn hu jS;clear ae af dp hu;rcases jS with e|e
      ·rw[e]at dq;simp only[nk,mc]at dq;exact fO
      ·rw[e]at dn;simp only[nk,mc]at dn;cases (gq y k []).isSome
       ·simp[hi,cJ];((with_reducible repeat' first|refine aj ?_|refine aF h4 ?_|refine aG h4 ?_|refine aF dq ?_|refine aG dq ?_|refine aF dn ?_|refine aG dn ?_|simp[hi,cJ]|((first|apply bS|apply bW|apply bV)<;>intro h<;>try simp at h))<;>(try exact cy));all_goals exact bO.rng L hi ax bL
       ·simp[hi,cJ];((with_reducible repeat' first|refine aj ?_|refine aF h4 ?_|refine aG h4 ?_|refine aF dq ?_|refine aG dq ?_|refine aF dn ?_|refine aG dn ?_|simp[hi,cJ]|((first|apply bS|apply bW|apply bV)<;>intro h<;>try simp at h))<;>(try exact cy));all_goals exact bO.rng L hi ax bL
     ·have al:(gq y k []).isSome=true:=by cases e:gq y k []with|none=>exact absurd (.inl e) jS|some _=>rfl
      have aE:(gr y a []).isSome=true:=by cases e:gr y a []with|none=>exact absurd (.inr e) jS|some _=>rfl
      rw[al]at dq;rw[aE]at dn;by_cases cM:gO b y=[]
      ·have ag:=ae.stop af fun r=>Mm hu jS cM;rw[ag]at dp;simp only at dp;subst dp;rw[cM]at h5;simp only[nh]at h5;clear ae af hu jS;simp[hi,cJ];((with_reducible repeat' first|refine aj ?_|refine aF h4 ?_|refine aG h4 ?_|refine aF dq ?_|refine aG dq ?_|refine aF dn ?_|refine aG dn ?_|refine aF h5 ?_|refine aG h5 ?_|simp[hi,cJ]|((first|apply bS|apply bW|apply bV)<;>intro h<;>try simp at h))<;>(try exact cy));all_goals simp[bz,BI,aX,aY,aW]
       all_goals simp[vO,rM,dA.e]
      ·have ax:=ae.snoc af (Hz (b:=b) js) fun r=>Mp hu jS cM;have wI:¬((gO b y).length:Int)=0:=by have:(gO b y).length≠0:=fun h=>cM (List.length_eq_zero_iff.1 h);omega
       have wJ:(((gO b y).length:Int)==0)=false:=by simp[cM]
       have Ha:bF ak 123 [.slice 5 .no (b.map aq.e),.slice 5 .no (y.map aq.e)] (cU (gO b y)):=h5;clear ae af hu jS dp h5;generalize gO b y=z at Ha ax wI wJ cM;simp only[cU]at Ha;simp[hi,cJ];(with_reducible repeat' first|refine aj ?_|refine aF h4 ?_|refine aG h4 ?_|refine aF dq ?_|refine aG dq ?_|refine aF dn ?_|refine aG dn ?_|refine aF Ha ?_|refine aG Ha ?_|simp[hi,cJ,wI,wJ,cM]);all_goals first|(refine⟨by unfold lim;omega,?_⟩)|skip
       all_goals(with_reducible repeat' first|refine aj ?_|simp)
       all_goals exact bO.rng (L++[z]) hi ax ⟨by simp[fresh,aH,aD,b7,inObs,Pv.look,vq,cU],ee (by simp[fresh,aH,aD,b7,inObs,Pv.look,vq,cU]),ef (by simp[fresh,aH,aD,dW,inObs,Pv.look,vq,cU]),Ψ⟩
@[simp]theorem arC(neg:Bool)(x y:bQ):iH neg (some [false,false]) x.e y.e=some (True,.bool (if neg then !decide (x=y)else decide (x=y))):=by
 have h:(x.v==y.v&&(x.k==y.k&&true))=decide (x=y):=by rw[oG];simp only[Bool.and_true,cC,dV,fc];cases x;cases y;simp
 rw[<-h];rfl
@[simp]theorem arD(neg:Bool)(x y:bj):iH neg (some [false,true]) x.e y.e=some (True,.bool (if neg then !decide (x=y)else decide (x=y))):=by
 have h:(x.v==y.v&&(x.s==y.s&&true))=decide (x=y):=by rw[oG];simp only[Bool.and_true,cC,dV,fc];cases x;cases y;simp
 rw[<-h];rfl
theorem ap5(x y:List aq)(h:x.length<=1000000):bF ak 135 [cU x,cU y] (.bool (decide (x=y))):=ZQ x y h
theorem aqK(a c:dA)(nA:a.b.length<=1000000)(C3:∀x∈a.d,x.length<=1000000):bF ak 59 [a.e,c.e] (.bool (decide (a=c))):=by
 obtain⟨n,b,d,k,m⟩:=a;obtain⟨n',cb,cj,bT,ht⟩:=c;simp only at nA C3;generalize aV:decide ((⟨n,b,d,k,m⟩:dA)=⟨n',cb,cj,bT,ht⟩)=R;simp only[dA.mk.injEq,dA.e]at aV⊢;by_cases bc:n=n';rotate_left
 ·have gi:R=false:=by rw[<-aV];simp[bc]
  have uf:(n !=n')=true:=by simp[bc]
  rw[gi];clear aV gi;refine be oD Aj Bx fun aK=>?_;unfold x4;exact bJ
 subst bc;have fN:=ZQ b cb nA;by_cases bE:b=cb;rotate_left
 ·have gi:R=false:=by rw[<-aV];simp[bE]
  rw[hG bE]at fN;rw[gi];clear aV gi;refine be oD Aj Bx fun aK=>?_;unfold x4;exact bJ
 subst bE;rw[gK rfl]at fN;by_cases b1:d.length=cj.length;rotate_left
 ·have gi:R=false:=by rw[<-aV];simp only[fJ];rintro⟨_,_,rfl,_⟩;exact b1 rfl
  have sO:((d.length:Int) !=cj.length)=true:=by simp;omega
  rw[gi];clear aV gi;refine be oD Aj Bx fun aK=>?_;unfold x4;exact bJ
 by_cases c5:k.length=bT.length;rotate_left
 ·have gi:R=false:=by rw[<-aV];simp only[fJ];rintro⟨_,_,_,rfl,_⟩;exact c5 rfl
  have am0:((k.length:Int) !=bT.length)=true:=by simp;omega
  rw[gi];clear aV gi;refine be oD Aj Bx fun aK=>?_;unfold x4;exact bJ
 by_cases df:m.length=ht.length;rotate_left
 ·have gi:R=false:=by rw[<-aV];simp only[fJ];rintro⟨_,_,_,_,rfl⟩;exact df rfl
  have am1:((m.length:Int) !=ht.length)=true:=by simp;omega
  rw[gi];clear aV gi;refine be oD Aj Bx fun aK=>?_;unfold x4;exact bJ
 have yG:d≠cj->R=false:=fun h=>by rw[<-aV];simp[h]
 have yH:k≠bT->R=false:=fun h=>by rw[<-aV];simp[h]
 have Lx:m≠ht->R=false:=fun h=>by rw[<-aV];simp[h]
 refine be oD Aj Bx fun aK=>?_;unfold x4;have mK:cj.length<=68719476736:=by simp[ek,ec,eg,lim]at aK;omega
 have ahQ:bT.length<=68719476736:=by simp[ek,ec,eg,lim]at aK;omega
 have ahR:ht.length<=68719476736:=by simp[ek,ec,eg,lim]at aK;omega
 clear aK;simp;(with_reducible repeat' first|refine aj ?_|refine aF fN ?_|refine aG fN ?_|simp[b1,c5,df]);have cI:=yG;refine du [2,3,50] (fun i (_:Unit)=>[(51,.int .i64 i)]) cj.length (r1 d cj) () bL (fun k ad=>Ω) (fun _ ae _=>?_) (fun i _ hi ae _=>?_);rotate_left
 ·obtain⟨x,af⟩:∃x,d[i]? =some x:=⟨_,cc Ω⟩;obtain⟨y,aO⟩:∃y,cj[i]? =some y:=⟨_,cc hi⟩;have gv:i<d.length:=Ω
  have cJ:∀h,(d[i]'h)=x:=fun h=>by rw[cc gv]at af;exact eQ af
  have eX:∀h,(cj[i]'h)=y:=fun h=>by rw[cc hi]at aO;exact eQ aO
  have fN:=ap5 x y (C3 x (dE af));by_cases q:x=y
  ·subst q;have ax:=ae.step af aO;rw[gK rfl]at fN;clear ae af aO;simp[hi,gv,cJ,eX,-iH];(with_reducible repeat' first|refine aj ?_|refine aF fN ?_|refine aG fN ?_|simp[cJ,eX,hi,gv,-iH]);all_goals exact bO.rng () hi ax bL
  ·rw[cI (fun h=>q (by rw[h]at af;rw[af]at aO;exact eQ aO))];rw[hG q]at fN;clear ae af aO;simp[hi,gv,cJ,eX,-iH];(with_reducible repeat' first|refine aj ?_|refine aF fN ?_|refine aG fN ?_|simp[cJ,eX,hi,gv,q,-iH]);all_goals simp[bz,H4,aX,aY,aW]
 have dJ:=ae.fin b1;subst dJ;clear ae cI yG b1;simp;(with_reducible repeat' first|refine aj ?_|simp[c5]);have cI:=yH;refine du [2,3,69] (fun i (_:Unit)=>[(70,.int .i64 i)]) bT.length (r1 k bT) () bL (fun k ad=>Ω) (fun _ ae _=>?_) (fun i _ hi ae _=>?_);rotate_left
 ·obtain⟨x,af⟩:∃x,k[i]? =some x:=⟨_,cc Ω⟩;obtain⟨y,aO⟩:∃y,bT[i]? =some y:=⟨_,cc hi⟩;have gv:i<k.length:=Ω
  have cJ:∀h,(k[i]'h)=x:=fun h=>by rw[cc gv]at af;exact eQ af
  have eX:∀h,(bT[i]'h)=y:=fun h=>by rw[cc hi]at aO;exact eQ aO
  have fN:=True.intro;by_cases q:x=y
  ·subst q;have ax:=ae.step af aO;skip;clear ae af aO;simp[hi,gv,cJ,eX,-iH];(with_reducible repeat' first|refine aj ?_|refine aF fN ?_|refine aG fN ?_|simp[cJ,eX,hi,gv,-iH]);all_goals exact bO.rng () hi ax bL
  ·rw[cI (fun h=>q (by rw[h]at af;rw[af]at aO;exact eQ aO))];skip;clear ae af aO;simp[hi,gv,cJ,eX,-iH];(with_reducible repeat' first|refine aj ?_|refine aF fN ?_|refine aG fN ?_|simp[cJ,eX,hi,gv,q,-iH]);all_goals simp[bz,H4,aX,aY,aW]
 have dJ:=ae.fin c5;subst dJ;clear ae cI yH c5;simp;(with_reducible repeat' first|refine aj ?_|simp[df]);have cI:=Lx;refine du [2,3,87] (fun i (_:Unit)=>[(88,.int .i64 i)]) ht.length (r1 m ht) () bL (fun k ad=>Ω) (fun _ ae _=>?_) (fun i _ hi ae _=>?_);rotate_left
 ·obtain⟨x,af⟩:∃x,m[i]? =some x:=⟨_,cc Ω⟩;obtain⟨y,aO⟩:∃y,ht[i]? =some y:=⟨_,cc hi⟩;have gv:i<m.length:=Ω
  have cJ:∀h,(m[i]'h)=x:=fun h=>by rw[cc gv]at af;exact eQ af
  have eX:∀h,(ht[i]'h)=y:=fun h=>by rw[cc hi]at aO;exact eQ aO
  have fN:=True.intro;by_cases q:x=y
  ·subst q;have ax:=ae.step af aO;skip;clear ae af aO;simp[hi,gv,cJ,eX,-iH];(with_reducible repeat' first|refine aj ?_|refine aF fN ?_|refine aG fN ?_|simp[cJ,eX,hi,gv,-iH]);all_goals exact bO.rng () hi ax bL
  ·rw[cI (fun h=>q (by rw[h]at af;rw[af]at aO;exact eQ aO))];skip;clear ae af aO;simp[hi,gv,cJ,eX,-iH];(with_reducible repeat' first|refine aj ?_|refine aF fN ?_|refine aG fN ?_|simp[cJ,eX,hi,gv,q,-iH]);all_goals simp[bz,H4,aX,aY,aW]
 have dJ:=ae.fin df;subst dJ;have gi:R=true:=by rw[<-aV];simp
 rw[gi];exact bJ
def iG.e(r:iG):ai:= .agg [.int .i64 r.n,.slice 5 .no (r.b.map cX.e),.slice 1 .no (r.d.map gg),.slice 2 .no (r.k.map bQ.e),.slice 2 .no (r.m.map bj.e)]
theorem OB(s:dA):s.r.e=s.e:=by simp only[dA.r,iG.e,dA.e,sF,Kc]
theorem apT(x:List cX):bF ak 55 [gg x] (.bool (gY x)):=OZ x
open Classical in
theorem apS(r:iG)(eb:h6 r.m->ES r.m):bF ak 18 [r.e] (.bool (decide (sT r))):=by
 generalize aV:decide (sT r)=R;have cI:¬NZ r->R=false:=fun h=>by rw[<-aV,fJ];exact fun cf=>h cf.raw
 obtain⟨n,b,d,k,m⟩:=r;simp only[iG.e]at eb⊢;by_cases g1:n<0
 ·rw[cI fun h=>by have:=h.n.1;simp only at this;omega];refine be oD x8 za fun aK=>?_;unfold wi;exact bJ
 by_cases g2:100000<n
 ·rw[cI fun h=>by have:=h.n.2;simp only at this;omega];refine be oD x8 za fun aK=>?_;unfold wi;exact bJ
 have ly:bF ak 55 [.slice 5 .no (b.map cX.e)] (.bool (gY b)):=OZ b;cases g3:gY b
 ·rw[cI fun h=>by obtain⟨s,al,aE,_⟩:=h.b;have:=rH.2 (xz.2 ⟨s,al,aE⟩);simp only at this;rw[g3]at this;cases this]
  rw[g3]at ly;refine be oD x8 za fun aK=>?_;unfold wi;exact bJ
 rw[g3]at ly;obtain⟨s,rfl,ag⟩:=xz.1 (rH.1 g3);clear g3;rw[sF]at ly⊢;have dq:=ZE k;by_cases g4:ju k;rotate_left
 ·rw[cI fun h=>g4 h.k];rw[hG g4]at dq;refine be oD x8 za fun aK=>?_;unfold wi;exact bJ
 rw[gK g4]at dq;have dn:=ZG m;by_cases g5:h6 m;rotate_left
 ·rw[cI fun h=>g5 h.m];rw[hG g5]at dn;refine be oD x8 za fun aK=>?_;unfold wi;exact bJ
 rw[gK g5]at dn;have lz:=ZK ag (n:=n) Ω;cases g6:s.all (k0 n)
 ·rw[cI fun h=>by obtain⟨ah,al,_,bn⟩:=h.b;have dh:=rW al;subst dh;rw[wh.2 bn]at g6;cases g6]
  rw[g6]at lz;refine be oD x8 za fun aK=>?_;unfold wi;exact bJ
 rw[g6]at lz;have cB:=wh.1 g6;clear g6;have Dj:=eb g5;have kJ:=Dj.len g5;refine be oD x8 za fun aK=>?_;unfold wi;have yr:d.length<=68719476736:=by simp[ek,ec,eg,lim]at aK;omega
 have hW:=tU g4;clear aK eb;simp;(with_reducible repeat' first|refine aj ?_|refine aF ly ?_|refine aG ly ?_|refine aF dq ?_|refine aG dq ?_|refine aF dn ?_|refine aG dn ?_|refine aF lz ?_|refine aG lz ?_|simp[g1,g2]);refine du [1,46,47] (fun i (_:Unit)=>[(48,.int .i64 i)]) d.length (sA (kr n) d) () bL (fun k b ad=>Ω) (fun _ ae _=>?_) (fun i _ hi ae _=>?_);rotate_left
 ·obtain⟨x,af,cJ⟩:=dB hi;have DE:=dE af;have de:=apT x;cases mI:gY x
  ·rw[cI fun h=>by obtain⟨ah,al,aE,_⟩:=h.d x DE;rw[rH.2 (xz.2 ⟨ah,al,aE⟩)]at mI;cases mI]
   rw[mI]at de;clear ae af DE;exact bJ
  ·rw[mI]at de;obtain⟨y,rfl,aO⟩:=xz.1 (rH.1 mI);clear mI;rw[Kb]at de;have mT:bF ak 58 [cU y,.int .i64 n] (.bool (y.all (k0 n))):=ZK aO (n:=n) Ω;have asV:∀h,gg (d[i]'h)=cU y:=fun h=>by rw[cJ h,Kb]
   cases r9:y.all (k0 n)
   ·rw[cI fun h=>by obtain⟨ah,al,_,bn⟩:=h.d _ DE;have dh:=rW al;subst dh;rw[wh.2 bn]at r9;cases r9]
    rw[r9]at mT;clear ae af DE cJ;exact bJ
   ·rw[r9]at mT;have ax:=ae.step af ⟨y,rfl,aO,wh.1 r9⟩;clear ae af DE cJ;exact fO
 obtain⟨D,rfl,u7,K4⟩:=SO ae.fin;clear ae;simp only[Kc];simp;(with_reducible repeat' first|refine aj ?_|simp);refine du [1,64,65] (fun i (_:Unit)=>[(66,.int .i64 i)]) k.length (sA (fun x=>x.v<n) k) () bL (fun k b ad=>Ω) (fun _ ae _=>?_) (fun i _ hi ae _=>?_);rotate_left
 ·obtain⟨x,af,cJ⟩:=dB hi;by_cases mI:x.v<n
  ·have yk:¬n<=x.v:=Ω
   have ax:=ae.step af mI;clear ae af;exact fO
  ·have yk:n<=x.v:=Ω
   rw[cI fun h=>mI (h.kb x (dE af))];clear ae af;exact bJ
 have yx:=ae.fin;clear ae;simp;(with_reducible repeat' first|refine aj ?_|simp);have qs:=yx;refine du [1,77,78] (fun i (_:Unit)=>[(79,.int .i64 i)]) m.length (sA (fun x=>x.v<n) m) () bL (fun k b ad=>Ω) (fun _ ae _=>?_) (fun i _ hi ae _=>?_);rotate_left
 ·obtain⟨x,af,cJ⟩:=dB hi;by_cases mI:x.v<n
  ·have yk:¬n<=x.v:=Ω
   have ax:=ae.step af mI;clear ae af;exact fO
  ·have yk:n<=x.v:=Ω
   rw[cI fun h=>mI (h.mb x (dE af))];clear ae af;exact bJ
 have yx:=ae.fin;clear ae;simp;(with_reducible repeat' first|refine aj ?_|simp);have pY:=yx;have cR:vU ⟨n,s,D,k,m⟩:=⟨by simp only;omega,ag,u7,g4,g5,cB,K4,qs,pY⟩;have ja:=Y6 cR;obtain⟨G,ny,a7⟩:=Dj;have c6:=aqM cR ny a7;have ls:sT ⟨n,s.map aq.b,D.map fun x=>x.map aq.b,k,m⟩↔nS ⟨n,s,D,k,m⟩=some ⟨n,s,D,k,m⟩:=ja;clear ja cI;simp only[vO]at c6;cases lU:nS ⟨n,s,D,k,m⟩with
 |none=>
  rw[lU]at c6 ls;have gi:R=false:=by rw[<-aV,fJ,ls];simp
  rw[gi];simp only[nk,mc,dA.e]at c6;clear aV gi ls;exact bJ
 |some t=>
  have wS:=aoy cR lU;rw[lU]at c6 ls;have w2:=aqK t ⟨n,s,D,k,m⟩ wS.1.1.b.len (fun x af=>(wS.1.1.d x af).len);have gi:R=decide (t=⟨n,s,D,k,m⟩):=by rw[<-aV,decide_eq_decide,ls];simp
  rw[gi];simp only[jA,pE]at c6;simp only[dA.e]at c6 w2;clear aV gi ls wS;generalize decide (t=(⟨n,s,D,k,m⟩:dA))=Q at w2⊢;obtain⟨uw,Zo,Zp,uv,tm⟩:=t;simp only at c6 w2;exact bJ
def wm:C:=(aa [cO 1 0,a8 2 false] (.seq (aa [aC 11 0 1 1,av 12 1 11,dL 13 141 [.t 12,(gI 0),(gI 100000)],cn 14 13,I 15 14,ao 15 false (aC 16 1 1 1),ao 15 false (av 17 1 16),ao 15 false (cE 18 142 17),ao 15 false (cn 19 18),cZ 20 15 19,I 21 20,ao 21 false (aC 22 2 1 1),ao 21 false (av 23 1 22),ao 21 false (cE 24 143 23),ao 21 false (cn 25 24),cZ 26 21 25,I 27 26,ao 27 false (aC 28 3 1 1),ao 27 false (av 29 1 28),ao 27 false (cE 30 144 29),ao 27 false (cn 31 30),cZ 32 27 31,I 33 32,ao 33 false (aC 34 4 1 1),ao 33 false (av 35 1 34),ao 33 false (cE 36 145 35),ao 33 false (cn 37 36),cZ 38 33 37,I 39 38,ao 39 false (aC 40 1 1 1),ao 39 false (av 41 1 40),ao 39 false (aC 42 0 1 1),ao 39 false (av 43 1 42),ao 39 false (bY 44 146 41 43),ao 39 false (cn 45 44),cZ 46 39 45] (aS 46 (aa [a8 2 false] .ret) .skip)) (.seq (aa [aC 47 2 1 1,av 48 1 47,b2 49 48,bP 50 0] (eH 51 50 49 (.seq (.block 1 (aa [b9 52 1 48 50,av 53 1 52,I 4 53] (aa [I 54 4,aC 55 0 1 1,av 56 1 55,bY 57 146 54 56,cn 58 57] (aS 58 (aa [a8 2 false] .ret) .skip)))) (.region [aT 59 .add 50 1,I 50 59])))) (.seq (aa [aC 60 3 1 1,av 61 1 60,b2 62 61,bP 63 0] (.block 2 (.loop (aa [bh 64 .lss 63 62] (.seq (aS 64 .skip (.exit 2)) (.seq (.block 3 (aa [b9 65 2 61 63,a1 66 2 65,cN (.alloc 6 none (.agg [.int .i64 0,.int .i64 0])),bM 2 6 66] (aa [aC 67 0 1 6,av 68 1 67,aC 69 0 1 1,av 70 1 69,bh 71 .geq 68 70] (aS 71 (aa [a8 2 false] .ret) .skip)))) (.region [aT 72 .add 63 1,I 63 72]))))))) (.seq (aa [aC 73 4 1 1,av 74 1 73,b2 75 74,bP 76 0] (.block 4 (.loop (aa [bh 77 .lss 76 75] (.seq (aS 77 .skip (.exit 4)) (.seq (.block 5 (aa [b9 78 2 74 76,a1 79 2 78,cN (.alloc 8 none (.agg [.int .i64 0,.str []])),bM 2 8 79] (aa [aC 80 0 1 8,av 81 1 80,aC 82 0 1 1,av 83 1 82,bh 84 .geq 81 83] (aS 84 (aa [a8 2 false] .ret) .skip)))) (.region [aT 85 .add 76 1,I 76 85]))))))) (aa [a1 87 5 1,cE 88 147 87,I 86 88,cD 89 0 86,cD 90 1 86,c9 9 p5,bM 5 9 89,I 10 90] (aa [I 91 10,I 92 91,ao 92 true (a1 93 5 9),ao 92 true (a1 94 5 1),ao 92 true (bY 95 94 93 94),dx 96 92 95,I 2 96] .ret)))))))
@[simp] def an3:List bN:=[.tmp 2]
def x6:C:=(aa [cO 2 0,cO 3 1,a8 4 false] (.seq (aa [aC 11 0 1 2,av 12 1 11,aC 13 0 1 3,av 14 1 13,bh 15 .neq 12 14,I 16 15,ao 16 false (aC 17 1 1 2),ao 16 false (av 18 1 17),ao 16 false (aC 19 1 1 3),ao 16 false (av 20 1 19),ao 16 false (bY 21 180 18 20),ao 16 false (aT 22 .neq 21 0),cZ 23 16 22,I 24 23,ao 24 false (aC 25 2 1 2),ao 24 false (av 26 1 25),ao 24 false (b2 27 26),ao 24 false (aC 28 2 1 3),ao 24 false (av 29 1 28),ao 24 false (b2 30 29),ao 24 false (bh 31 .neq 27 30),cZ 32 24 31,I 33 32,ao 33 false (aC 34 3 1 2),ao 33 false (av 35 1 34),ao 33 false (b2 36 35),ao 33 false (aC 37 3 1 3),ao 33 false (av 38 1 37),ao 33 false (b2 39 38),ao 33 false (bh 40 .neq 36 39),cZ 41 33 40,I 42 41,ao 42 false (aC 43 4 1 2),ao 42 false (av 44 1 43),ao 42 false (b2 45 44),ao 42 false (aC 46 4 1 3),ao 42 false (av 47 1 46),ao 42 false (b2 48 47),ao 42 false (bh 49 .neq 45 48),cZ 50 42 49] (aS 50 (aa [a8 4 false] .ret) .skip)) (.seq (aa [aC 51 2 1 2,av 52 1 51,b2 53 52,bP 54 0] (eH 55 54 53 (.seq (.block 1 (aa [I 56 54,b9 57 1 52 54,av 58 1 57,I 5 56,I 6 58] (aa [I 59 6,aC 60 2 1 3,av 61 1 60,I 62 5,b9 63 1 61 62,av 64 1 63,bY 65 180 59 64,aT 66 .neq 65 0] (aS 66 (aa [a8 4 false] .ret) .skip)))) (.region [aT 67 .add 54 1,I 54 67])))) (.seq (aa [aC 68 3 1 2,av 69 1 68,b2 70 69,bP 71 0] (.block 2 (.loop (aa [bh 72 .lss 71 70] (.seq (aS 72 .skip (.exit 2)) (.seq (.block 3 (aa [I 73 71,b9 74 2 69 71,a1 75 2 74,cN (.alloc 8 none (.agg [.int .i64 0,.int .i64 0])),I 7 73,bM 2 8 75] (.seq (.drawn true 100 [a1 76 2 8,aC 77 3 1 3,av 78 1 77,I 79 7,b9 80 2 78 79,a1 81 2 80,b5 82 (.beq true (some [false,false]) (.t 76) (.t 81))]) (aS 82 (aa [a8 4 false] .ret) .skip)))) (.region [aT 83 .add 71 1,I 71 83]))))))) (.seq (aa [aC 84 4 1 2,av 85 1 84,b2 86 85,bP 87 0] (.block 4 (.loop (aa [bh 88 .lss 87 86] (.seq (aS 88 .skip (.exit 4)) (.seq (.block 5 (aa [I 89 87,b9 90 2 85 87,a1 91 2 90,cN (.alloc 10 none (.agg [.int .i64 0,.str []])),I 9 89,bM 2 10 91] (.seq (.drawn true 100 [a1 92 2 10,aC 93 4 1 3,av 94 1 93,I 95 9,b9 96 2 94 95,a1 97 2 96,b5 98 (.beq true (some [false,true]) (.t 92) (.t 97))]) (aS 98 (aa [a8 4 false] .ret) .skip)))) (.region [aT 99 .add 87 1,I 87 99]))))))) (aa [a8 4 true] .ret))))))
@[simp] def Ia:List bN:=[.tmp 4]
def FQ:C:=(aa [cO 1 0,c9 2 p5,a8 3 false] (aa [aC 20 1 1 1,av 21 1 20,aC 22 3 1 1,av 23 1 22,bY 24 217 21 23,I 19 24,cD 25 0 19,cD 26 1 19,I 4 25,I 5 26] (aa [aC 28 1 1 1,av 29 1 28,aC 30 4 1 1,av 31 1 30,bY 32 218 29 31,I 27 32,cD 33 0 27,cD 34 1 27,I 6 33,I 7 34] (.seq (aa [I 35 5,cn 36 35,I 37 36,b4 37 false 38 7,ao 37 false (cn 39 38),cZ 40 37 39] (aS 40 (aa [j5 41 p5 [],bM 5 2 41,a8 3 false] .ret) .skip)) (aa [aC 42 0 1 1,av 43 1 42,aC 44 1 1 1,av 45 1 44,I 46 4,j5 47 p5 [(0,1,(.t 43)),(1,1,(.t 45)),(3,1,(.t 46))],c9 8 p5,bM 5 8 47] (.seq (aa [I 48 6,b2 49 48,bP 50 0] (eH 51 50 49 (.seq (.block 1 (aa [b9 52 2 48 50,a1 53 2 52,cN (.alloc 10 none (.agg [.int .i64 0,.str []])),bM 2 10 53] (aa [I 55 4,aC 56 0 1 10,av 57 1 56,cE 58 91 57,dL 59 178 [.t 55,.t 58,(gI 2)],I 54 59,cD 60 0 54,cD 61 1 54,I 11 60,I 12 61] (aa [I 62 12] (aS 62 (.region [aC 63 4 1 8,av 64 1 63,a1 65 2 10,fj 66 2 106 [.t 65],iP 67 2 106 64 66,aC 68 4 1 8,bM 1 68 67]) .skip))))) (.region [aT 69 .add 50 1,I 50 69])))) (aa [fj 70 1 23 [],I 13 70] (.seq (aa [aC 71 2 1 1,av 72 1 71,b2 73 72,bP 74 0] (.block 2 (.loop (aa [bh 75 .lss 74 73] (.seq (aS 75 .skip (.exit 2)) (.seq (.block 3 (aa [b9 76 1 72 74,av 77 1 76,I 15 77] (aa [aC 79 1 1 1,av 80 1 79,I 81 15,bY 82 219 80 81,I 78 82,cD 83 0 78,cD 84 1 78,I 16 83,I 17 84] (.seq (aa [I 85 17] (aS 85 (aa [I 87 16,aC 88 3 1 8,av 89 1 88,bY 90 217 87 89,I 86 90,cD 91 0 86,cD 92 1 86,I 5 92] (.region [I 94 16,aC 95 4 1 8,av 96 1 95,bY 97 218 94 96,I 93 97,cD 98 0 93,cD 99 1 93,I 7 99])) .skip)) (.seq (aa [I 100 17,cn 101 100,I 102 101,b4 102 false 103 5,ao 102 false (cn 104 103),cZ 105 102 104,I 106 105,b4 106 false 107 7,ao 106 false (cn 108 107),cZ 109 106 108] (aS 109 (aa [a8 5 true] (aa [a8 7 true] (.exit 3))) .skip)) (aa [aC 110 1 1 1,av 111 1 110,I 112 16,bY 113 177 111 112,I 18 113] (.seq (aa [I 114 18,b2 115 114,aT 116 .eql 115 0] (aS 116 (aa [j5 117 p5 [],bM 5 2 117,a8 3 false] .ret) .skip)) (.region [I 118 13,I 119 18,fj 120 1 23 [.t 119],iP 121 1 23 118 120,I 13 121])))))))) (.region [aT 122 .add 74 1,I 74 122]))))))) (aa [I 123 13,cE 124 220 123,aC 125 2 1 8,bM 1 125 124] (.seq (.fz true 8 (.drawn true 131 [b5 126 (.loadZ true 5 (.t 8)),aC 127 2 1 8,b5 128 (.loadZ false 1 (.t 127)),b2 129 128,aT 130 .leq 129 30,bM 5 2 126,I 3 130])) .ret))))))))))
@[simp] def vK:List bN:=[.cell 2 true 5,.tmp 3]
def IM:List (Nat×dH):=[
 (3,⟨1,8,.int .i64,.int .i64 0⟩),
 (9,⟨1,16,.str,.str []⟩),
 (23,⟨1,24,.slice 61,.slice 5 .nil []⟩),
 (24,⟨1,24,.slice 23,.slice 1 .nil []⟩),
 (25,⟨1,24,.slice 104,.slice 2 .nil []⟩),
 (26,⟨1,24,.slice 106,.slice 2 .nil []⟩),
 (28,⟨5,104,.struct [(0,3),(1,23),(2,24),(3,25),(4,26)],.agg [.int .i64 0,.slice 5 .nil [],.slice 1 .nil [],.slice 2 .nil [],.slice 2 .nil []]⟩),
 (104,⟨2,16,.struct [(0,3),(1,3)],.agg [.int .i64 0,.int .i64 0]⟩),
 (106,⟨2,24,.struct [(0,3),(1,9)],.agg [.int .i64 0,.str []]⟩)]
theorem oE:fS ak IM=true:=by kernel_rfl
theorem zd:bU IM wm an3 1 Tryz.f65=true:=by kernel_rfl
theorem yb:ak.funcs[(65:Nat)]? =some Tryz.f65:=Tryz.func65
theorem Bz:bU IM x6 Ia 2 Tryz.f94=true:=by kernel_rfl
theorem Al:ak.funcs[(94:Nat)]? =some Tryz.f94:=Tryz.func94
theorem Ni:bU IM FQ vK 1 Tryz.f147=true:=by kernel_rfl
theorem KG:ak.funcs[(147:Nat)]? =some Tryz.f147:=Tryz.func147
noncomputable def Oa(s:dA):ai:= .tuple [(BV s).e,.bool (nS s).isSome]
theorem aqn{k:List bQ}(ad:ju k)(v:Int):bF ak 178 [.slice 2 .no (k.map bQ.e),(T.var v).e,.int .i64 2] (pd k (kC k (.var v) 2)):=Z1 k (by have:=tU ad;omega) ad.asc (.var v) 2
theorem ZZ{b y:List aq}(ab:eU b)(aO:eU y):bF ak 177 [.slice 5 .no (b.map aq.e),.slice 5 .no (y.map aq.e)] (cU (gO b y)):=aqh ab aO
theorem ZY{b x:List aq}(ab:eU b)(af:eU x):bF ak 219 [.slice 5 .no (b.map aq.e),cU x] (gx (mgu b (hU x))):=aqg b x ab.sol ab.fits af.len
def My(a:List bj):ai:=match a with
 |[]=>.slice 2 .nil []
 |_::_=>.slice 2 (.own (.loc 5)) (a.map bj.e)
def Mx(a:List bj):List (aI×fY):=match a with
 |[]=>[]
 |_::_=>[(.loc 5,⟨a.length,106,2,none⟩)]
def Mw(a:List bj):Nat:=match a with
 |[]=>3
 |_::_=>6
@[simp]theorem aub:My []= .slice 2 .nil []:=rfl
@[simp]theorem aua(x:bj)(a:List bj):My (x::a)= .slice 2 (.own (.loc 5)) (x.e::a.map bj.e):=rfl
@[simp]theorem at9:Mx []=[]:=rfl
@[simp]theorem at8(x:bj)(a:List bj):Mx (x::a)=[(.loc 5,⟨a.length+1,106,2,none⟩)]:=rfl
@[simp]theorem at7:Mw []=3:=rfl
@[simp]theorem at6(x:bj)(a:List bj):Mw (x::a)=6:=rfl
theorem aqr{s:dA}(h:vU s){G:List (List dM)}(ny:G.length<=687000)(a7:nT G s.m):bF ak 147 [s.e] (Oa s):=by
 unfold Oa;generalize dp:nS s=O;generalize dr:BV s=SS;have kO:=O3 h.b h.k;have kP:=O4 h.b h.m ny a7;have ot:=fun k=>Ic (acc:=[]) (a:=k) h.b h.k.at' ⟨Ψ,Ψ⟩;have qE:=fun m=>Ie (acc:=[]) (a:=m) h.b h.m.at' ⟨Ψ,by simp[hZ]⟩;have nv:=fun m=>N1 (acc:=[]) (a:=m) (s:=s.b) a7 (fun x af=>by simp at af);have ab:=h.b;have aR:=h.d;clear h a7;unfold nS at dp;unfold BV at dr;obtain⟨n,b,d,fv,m0⟩:=s;simp only at kO kP ot qE nv ab aR dp dr;have e4:=ab.len;simp only[dA.e];generalize gq b fv []=ok at kO dp dr ot;generalize gr b m0 []=om at kP dp dr qE nv;cases ok with
 |none=>
  simp only at dp dr;subst dp;subst dr;simp only[gj]at kO;simp only[jy]at kP;clear ot qE nv;refine be oE KG Ni fun aK=>?_;unfold FQ;simp;(with_reducible repeat' first|refine aj ?_|refine aF kO ?_|refine aG kO ?_|refine aF kP ?_|refine aG kP ?_|simp);all_goals simp[bz,vK,aX,aY,aW]
  all_goals simp[rM,dA.e]
 |some k=>
  simp only at dp dr;cases om with
  |none=>
   simp only at dp dr;subst dp;subst dr;simp only[gj]at kO;simp only[jy]at kP;clear ot qE nv;refine be oE KG Ni fun aK=>?_;unfold FQ;simp;(with_reducible repeat' first|refine aj ?_|refine aF kO ?_|refine aG kO ?_|refine aF kP ?_|refine aG kP ?_|simp);all_goals simp[bz,vK,aX,aY,aW]
   all_goals simp[rM,dA.e]
  |some m=>
   simp only at dp dr;have wG:=ot k rfl;have yD:=qE m rfl;have yw:=nv m rfl;have kJ:m.length<=68719470000:=by have:=DV yD yw;omega
   have AR:=Wr (k:=k) yD;have AL:=Zm (k:=k) yw;simp only[gj,jA,pE]at kO;simp only[jy,jA,pE]at kP;clear ot qE nv;refine be oE KG Ni fun aK=>?_;unfold FQ;have yr:d.length<=68719476736:=by simp[ek,ec,eg,lim]at aK;omega
   clear aK;simp;(with_reducible repeat' first|refine aj ?_|refine aF kO ?_|refine aG kO ?_|refine aF kP ?_|refine aG kP ?_|simp);refine gT (fun i (a:List bj)=>⟨[(1,.ptr (.loc 0) 0),(2,.ptr (.loc 1) 0),(4,.slice 2 .no (k.map bQ.e)),(8,.ptr (.loc 2) 0),(48,.slice 2 .no (m.map bj.e)),(49,.int .i64 m.length),(50,.int .i64 i)],[(.loc 0,[.int .i64 n,.slice 5 .no (b.map aq.e),.slice 1 .no (d.map cU),.slice 2 .no (fv.map bQ.e),.slice 2 .no (m0.map bj.e)]),(.loc 1,[.int .i64 0,.slice 5 .nil [],.slice 1 .nil [],.slice 2 .nil [],.slice 2 .nil []]),(.loc 2,[.int .i64 n,.slice 5 .no (b.map aq.e),.slice 1 .nil [],.slice 2 .no (k.map bQ.e),My a])],Mx a,Mw a,[]⟩) m.length (tR k m) [] bL (by simp[tR]) (fun a ae _=>?_) (fun i a hi ae _=>?_);rotate_left
   ·obtain⟨x,af,cJ⟩:=dB hi;have sd:a.length<=68719470000:=by
     have:a.length<=(m.take i).length:=by rw[ae];exact List.length_filter_le _ _
     simp at this;omega
    have ax:=ae.step af;have mT:=aqn wG x.v;have bm:(kC k (.var x.v) 2).isSome=kR k x:=aa0 wG x.v;simp only[pd,bm]at mT;clear bm;generalize (kC k (.var x.v) 2).getD k=kz at mT;cases aJ:kR k x
    ·rw[aJ]at ax mT;simp only[hl,if_false]at ax;clear ae af aJ;cases a with
     |nil=>simp[hi,cJ];(with_reducible repeat' first|refine aj ?_|refine aF (km _) ?_|refine aG (km _) ?_|refine aF mT ?_|refine aG mT ?_|simp[hi,cJ]);all_goals exact bO.rng [] hi ax bL
     |cons y ys=>simp[hi,cJ];(with_reducible repeat' first|refine aj ?_|refine aF (km _) ?_|refine aG (km _) ?_|refine aF mT ?_|refine aG mT ?_|simp[hi,cJ]);all_goals exact bO.rng (y::ys) hi ax bL
    ·rw[aJ]at ax mT;simp only[if_true]at ax;clear ae af aJ;cases a with
     |nil=>
      simp[hi,cJ];(with_reducible repeat' first|refine aj ?_|refine aF (km _) ?_|refine aG (km _) ?_|refine aF mT ?_|refine aG mT ?_|simp[hi,cJ]);all_goals first|(refine⟨by unfold lim;omega,?_⟩)|skip
      all_goals(with_reducible repeat' first|refine aj ?_|simp)
      all_goals exact bO.rng [x] hi ax bL
     |cons y ys=>
      simp only[pD]at sd;simp[hi,cJ];(with_reducible repeat' first|refine aj ?_|refine aF (km _) ?_|refine aG (km _) ?_|refine aF mT ?_|refine aG mT ?_|simp[hi,cJ]);all_goals first|(refine⟨by unfold lim;omega,?_⟩)|skip
      all_goals(with_reducible repeat' first|refine aj ?_|simp)
      all_goals exact bO.rng (y::ys++[x]) hi ax ⟨by simp[fresh,aH,aD,b7,inObs,Pv.look,Be],ee (by simp[fresh,aH,aD,b7,inObs,Pv.look,Be]),ef (by simp[fresh,aH,aD,dW,inObs,Pv.look,Be]),Ψ⟩
   rw[tR,jJ]at ae;rw[<-ae]at AR AL dp dr;clear ae yD yw;cases a with
   |nil=>
    simp;(with_reducible repeat' first|refine aj ?_|simp);refine gT (fun i (L:List (List aq))=>⟨[(1,.ptr (.loc 0) 0),(2,.ptr (.loc 1) 0),(8,.ptr (.loc 2) 0),(13,.slice 1 (.own (.loc 3)) (L.map cU)),(72,.slice 1 .no (d.map cU)),(73,.int .i64 d.length),(74,.int .i64 i)],[(.loc 0,[.int .i64 n,.slice 5 .no (b.map aq.e),.slice 1 .no (d.map cU),.slice 2 .no (fv.map bQ.e),.slice 2 .no (m0.map bj.e)]),(.loc 1,[.int .i64 0,.slice 5 .nil [],.slice 1 .nil [],.slice 2 .nil [],.slice 2 .nil []]),(.loc 2,[.int .i64 n,.slice 5 .no (b.map aq.e),.slice 1 .nil [],.slice 2 .no (k.map bQ.e),.slice 2 .nil []])],[(.loc 3,⟨L.length,23,1,none⟩)],3+1,[]⟩) d.length (qy b k [] d) [] bL ⟨Ψ,Ψ,Ψ⟩ (fun L ae _=>?_) (fun i L hi ae _=>?_)
    ·have jQ:=ae.fin;have wB:=ae.2.1;rw[jQ]at dp dr;simp only at dp dr;have nI:=Z0 L wB;clear ae jQ wB;generalize k6 L=M at nI dp dr;subst dr;by_cases lO:M.length<=30
     ·have oZ:(M.length:Int)<=30:=Ω
      rw[if_pos lO]at dp;subst dp;simp;(with_reducible repeat' first|refine aj ?_|refine aF nI ?_|refine aG nI ?_|simp[lO,oZ]);all_goals simp[bz,vK,aX,aY,aW]
      all_goals try simp[dA.e,lO,oZ]
      all_goals first|exact⟨_,rfl,rfl⟩|skip
     ·have oZ:¬(M.length:Int)<=30:=Ω
      rw[if_neg lO]at dp;subst dp;simp;(with_reducible repeat' first|refine aj ?_|refine aF nI ?_|refine aG nI ?_|simp[lO,oZ]);all_goals simp[bz,vK,aX,aY,aW]
      all_goals try simp[dA.e,lO,oZ]
      all_goals first|exact⟨_,rfl,rfl⟩|skip
    ·obtain⟨x,af,cJ⟩:=dB hi;have gV:=aR x (dE af);have T7:=ae.1;have h4:=ZY ab gV;simp only[gx]at h4;cases hu:mgu b (hU x)with
     |none=>have ax:=ae.skip af fun r=>Mo hu;rw[hu]at h4;simp only[nk,mc]at h4;clear ae af dp dr;exact fO
     |some y=>
      have js:=ab.mgu (CF gV) hu;rw[hu]at h4;simp only[jA,pE]at h4;have dq:=O3 js wG;have dn:=O4 js AR ny AL;have h5:=ZZ ab js;simp only[gj]at dq;simp only[jy,nh,gS]at dn;by_cases jS:gq y k []=none\/gr y [] []=none
      ·have ax:=ae.skip af fun r=>Mn hu jS;clear ae af dp dr hu h5;rcases jS with e|e
       ·rw[e]at dq;simp only[nk,mc]at dq;exact fO
       ·rw[e]at dn;simp only[nk,mc]at dn;generalize (gq y k []).isSome=bc at dq;cases bc
        ·exact fO
        ·exact fO
      ·have al:(gq y k []).isSome=true:=by cases e:gq y k []with|none=>exact absurd (.inl e) jS|some _=>rfl
       have aE:(gr y [] []).isSome=true:=by cases e:gr y [] []with|none=>exact absurd (.inr e) jS|some _=>rfl
       rw[al]at dq;rw[aE]at dn;by_cases cM:gO b y=[]
       ·have ag:=ae.stop af fun r=>Mm hu jS cM;rw[ag]at dp dr;simp only at dp dr;subst dp;subst dr;rw[cM]at h5;simp only[cU,nh]at h5;clear ae af hu jS;simp[hi,cJ];(with_reducible repeat' first|refine aj ?_|refine aF h4 ?_|refine aG h4 ?_|refine aF dq ?_|refine aG dq ?_|refine aF dn ?_|refine aG dn ?_|refine aF h5 ?_|refine aG h5 ?_|simp[hi,cJ]);all_goals simp[bz,vK,aX,aY,aW]
        all_goals try simp[rM,dA.e]
       ·have ax:=ae.snoc af (Hz (b:=b) js) fun r=>Mp hu jS cM;have wI:¬((gO b y).length:Int)=0:=by have:(gO b y).length≠0:=fun h=>cM (List.length_eq_zero_iff.1 h);omega
        have wJ:(((gO b y).length:Int)==0)=false:=by simp[cM]
        clear ae af hu jS dp dr;generalize gO b y=z at h5 ax wI wJ cM;simp only[cU]at h5;simp[hi,cJ];(with_reducible repeat' first|refine aj ?_|refine aF h4 ?_|refine aG h4 ?_|refine aF dq ?_|refine aG dq ?_|refine aF dn ?_|refine aG dn ?_|refine aF h5 ?_|refine aG h5 ?_|simp[hi,cJ,wI,wJ,cM]);all_goals first|(refine⟨by unfold lim;omega,?_⟩)|skip
        all_goals(with_reducible repeat' first|refine aj ?_|simp)
        all_goals exact bO.rng (L++[z]) hi ax ⟨by simp[fresh,aH,aD,b7,inObs,Pv.look,vq,cU],ee (by simp[fresh,aH,aD,b7,inObs,Pv.look,vq,cU]),ef (by simp[fresh,aH,aD,dW,inObs,Pv.look,vq,cU]),Ψ⟩
   |cons E6 E7=>
    simp;(with_reducible repeat' first|refine aj ?_|simp);refine gT (fun i (L:List (List aq))=>⟨[(1,.ptr (.loc 0) 0),(2,.ptr (.loc 1) 0),(8,.ptr (.loc 2) 0),(13,.slice 1 (.own (.loc 6)) (L.map cU)),(72,.slice 1 .no (d.map cU)),(73,.int .i64 d.length),(74,.int .i64 i)],[(.loc 0,[.int .i64 n,.slice 5 .no (b.map aq.e),.slice 1 .no (d.map cU),.slice 2 .no (fv.map bQ.e),.slice 2 .no (m0.map bj.e)]),(.loc 1,[.int .i64 0,.slice 5 .nil [],.slice 1 .nil [],.slice 2 .nil [],.slice 2 .nil []]),(.loc 2,[.int .i64 n,.slice 5 .no (b.map aq.e),.slice 1 .nil [],.slice 2 .no (k.map bQ.e),.slice 2 (.own (.loc 5)) (E6.e::E7.map bj.e)])],[(.loc 6,⟨L.length,23,1,none⟩)],6+1,[]⟩) d.length (qy b k (E6::E7) d) [] bL ⟨Ψ,Ψ,Ψ⟩ (fun L ae _=>?_) (fun i L hi ae _=>?_)
    ·have jQ:=ae.fin;have wB:=ae.2.1;rw[jQ]at dp dr;simp only at dp dr;have nI:=Z0 L wB;clear ae jQ wB;generalize k6 L=M at nI dp dr;subst dr;by_cases lO:M.length<=30
     ·have oZ:(M.length:Int)<=30:=Ω
      rw[if_pos lO]at dp;subst dp;simp;(with_reducible repeat' first|refine aj ?_|refine aF nI ?_|refine aG nI ?_|simp[lO,oZ]);all_goals simp[bz,vK,aX,aY,aW]
      all_goals try simp[dA.e,lO,oZ]
      all_goals first|exact⟨_,rfl,rfl⟩|skip
     ·have oZ:¬(M.length:Int)<=30:=Ω
      rw[if_neg lO]at dp;subst dp;simp;(with_reducible repeat' first|refine aj ?_|refine aF nI ?_|refine aG nI ?_|simp[lO,oZ]);all_goals simp[bz,vK,aX,aY,aW]
      all_goals try simp[dA.e,lO,oZ]
      all_goals first|exact⟨_,rfl,rfl⟩|skip
    ·obtain⟨x,af,cJ⟩:=dB hi;have gV:=aR x (dE af);have T7:=ae.1;have h4:=ZY ab gV;simp only[gx]at h4;cases hu:mgu b (hU x)with
     |none=>have ax:=ae.skip af fun r=>Mo hu;rw[hu]at h4;simp only[nk,mc]at h4;clear ae af dp dr;exact fO
     |some y=>
      have js:=ab.mgu (CF gV) hu;rw[hu]at h4;simp only[jA,pE]at h4;have dq:=O3 js wG;have dn:=O4 js AR ny AL;have h5:=ZZ ab js;simp only[gj]at dq;simp only[jy,nh,gS]at dn;by_cases jS:gq y k []=none\/gr y (E6::E7) []=none
      ·have ax:=ae.skip af fun r=>Mn hu jS;clear ae af dp dr hu h5;rcases jS with e|e
       ·rw[e]at dq;simp only[nk,mc]at dq;exact fO
       ·rw[e]at dn;simp only[nk,mc]at dn;generalize (gq y k []).isSome=bc at dq;cases bc
        ·exact fO
        ·exact fO
      ·have al:(gq y k []).isSome=true:=by cases e:gq y k []with|none=>exact absurd (.inl e) jS|some _=>rfl
       have aE:(gr y (E6::E7) []).isSome=true:=by cases e:gr y (E6::E7) []with|none=>exact absurd (.inr e) jS|some _=>rfl
       rw[al]at dq;rw[aE]at dn;by_cases cM:gO b y=[]
       ·have ag:=ae.stop af fun r=>Mm hu jS cM;rw[ag]at dp dr;simp only at dp dr;subst dp;subst dr;rw[cM]at h5;simp only[cU,nh]at h5;clear ae af hu jS;simp[hi,cJ];(with_reducible repeat' first|refine aj ?_|refine aF h4 ?_|refine aG h4 ?_|refine aF dq ?_|refine aG dq ?_|refine aF dn ?_|refine aG dn ?_|refine aF h5 ?_|refine aG h5 ?_|simp[hi,cJ]);all_goals simp[bz,vK,aX,aY,aW]
        all_goals try simp[rM,dA.e]
       ·have ax:=ae.snoc af (Hz (b:=b) js) fun r=>Mp hu jS cM;have wI:¬((gO b y).length:Int)=0:=by have:(gO b y).length≠0:=fun h=>cM (List.length_eq_zero_iff.1 h);omega
        have wJ:(((gO b y).length:Int)==0)=false:=by simp[cM]
        clear ae af hu jS dp dr;generalize gO b y=z at h5 ax wI wJ cM;simp only[cU]at h5;simp[hi,cJ];(with_reducible repeat' first|refine aj ?_|refine aF h4 ?_|refine aG h4 ?_|refine aF dq ?_|refine aG dq ?_|refine aF dn ?_|refine aG dn ?_|refine aF h5 ?_|refine aG h5 ?_|simp[hi,cJ,wI,wJ,cM]);all_goals first|(refine⟨by unfold lim;omega,?_⟩)|skip
        all_goals(with_reducible repeat' first|refine aj ?_|simp)
        all_goals exact bO.rng (L++[z]) hi ax ⟨by simp[fresh,aH,aD,b7,inObs,Pv.look,vq,cU],ee (by simp[fresh,aH,aD,b7,inObs,Pv.look,vq,cU]),ef (by simp[fresh,aH,aD,dW,inObs,Pv.look,vq,cU]),Ψ⟩
theorem aqm(x y:List aq):bF ak 180 [cU x,cU y] (.int .i64 (eD x y)):=O2 x y
theorem aqv{x y:List aq}(h:¬x=y):(eD x y !=0)=true:=by have:¬eD x y=0:=fun e=>h ((l3.zero _ _).1 e);simp[this]
theorem aqq(a c:dA):bF ak 94 [a.e,c.e] (.bool (decide (a=c))):=by
 obtain⟨n,b,d,k,m⟩:=a;obtain⟨n',cb,cj,bT,ht⟩:=c;generalize aV:decide ((⟨n,b,d,k,m⟩:dA)=⟨n',cb,cj,bT,ht⟩)=R;simp only[dA.mk.injEq,dA.e]at aV⊢;by_cases bc:n=n';rotate_left
 ·have gi:R=false:=by rw[<-aV];simp[bc]
  have uf:(n !=n')=true:=by simp[bc]
  rw[gi];clear aV gi;refine be oE Al Bz fun aK=>?_;unfold x6;exact bJ
 subst bc;have fN:=O2 b cb;by_cases bE:b=cb;rotate_left
 ·have gi:R=false:=by rw[<-aV];simp[bE]
  have kg:¬eD b cb=0:=fun h=>bE ((l3.zero _ _).1 h);have Xz:(eD b cb !=0)=true:=by simp[kg]
  rw[gi];clear aV gi;refine be oE Al Bz fun aK=>?_;unfold x6;exact bJ
 subst bE;rw[(l3.zero b b).2 rfl]at fN;by_cases b1:d.length=cj.length;rotate_left
 ·have gi:R=false:=by rw[<-aV];simp only[fJ];rintro⟨_,_,rfl,_⟩;exact b1 rfl
  have sO:((d.length:Int) !=cj.length)=true:=by simp;omega
  rw[gi];clear aV gi;refine be oE Al Bz fun aK=>?_;unfold x6;exact bJ
 by_cases c5:k.length=bT.length;rotate_left
 ·have gi:R=false:=by rw[<-aV];simp only[fJ];rintro⟨_,_,_,rfl,_⟩;exact c5 rfl
  have am0:((k.length:Int) !=bT.length)=true:=by simp;omega
  rw[gi];clear aV gi;refine be oE Al Bz fun aK=>?_;unfold x6;exact bJ
 by_cases df:m.length=ht.length;rotate_left
 ·have gi:R=false:=by rw[<-aV];simp only[fJ];rintro⟨_,_,_,_,rfl⟩;exact df rfl
  have am1:((m.length:Int) !=ht.length)=true:=by simp;omega
  rw[gi];clear aV gi;refine be oE Al Bz fun aK=>?_;unfold x6;exact bJ
 have yG:d≠cj->R=false:=fun h=>by rw[<-aV];simp[h]
 have yH:k≠bT->R=false:=fun h=>by rw[<-aV];simp[h]
 have Lx:m≠ht->R=false:=fun h=>by rw[<-aV];simp[h]
 refine be oE Al Bz fun aK=>?_;unfold x6;have mK:cj.length<=68719476736:=by simp[ek,ec,eg,lim]at aK;omega
 have ahQ:bT.length<=68719476736:=by simp[ek,ec,eg,lim]at aK;omega
 have ahR:ht.length<=68719476736:=by simp[ek,ec,eg,lim]at aK;omega
 clear aK;simp;(with_reducible repeat' first|refine aj ?_|refine aF fN ?_|refine aG fN ?_|simp[b1,c5,df]);have cI:=yG;refine du [2,3,52,53] (fun i (_:Unit)=>[(54,.int .i64 i)]) cj.length (r1 d cj) () bL (fun k ad=>Ω) (fun _ ae _=>?_) (fun i _ hi ae _=>?_);rotate_left
 ·obtain⟨x,af⟩:∃x,d[i]? =some x:=⟨_,cc Ω⟩;obtain⟨y,aO⟩:∃y,cj[i]? =some y:=⟨_,cc hi⟩;have gv:i<d.length:=Ω
  have cJ:∀h,(d[i]'h)=x:=fun h=>by rw[cc gv]at af;exact eQ af
  have eX:∀h,(cj[i]'h)=y:=fun h=>by rw[cc hi]at aO;exact eQ aO
  have fN:=aqm x y;by_cases q:x=y
  ·subst q;have ax:=ae.step af aO;rw[(l3.zero _ _).2 rfl]at fN;clear ae af aO;simp[hi,gv,cJ,eX,-iH];(with_reducible repeat' first|refine aj ?_|refine aF fN ?_|refine aG fN ?_|simp[cJ,eX,hi,gv,-iH]);all_goals exact bO.rng () hi ax bL
  ·rw[cI (fun h=>q (by rw[h]at af;rw[af]at aO;exact eQ aO))];have kg:=aqv q;clear ae af aO;simp[hi,gv,cJ,eX,-iH];(with_reducible repeat' first|refine aj ?_|refine aF fN ?_|refine aG fN ?_|simp[cJ,eX,hi,gv,q,kg,-iH]);all_goals simp[bz,Ia,aX,aY,aW]
 have dJ:=ae.fin b1;subst dJ;clear ae cI yG b1;simp;(with_reducible repeat' first|refine aj ?_|simp[c5]);have cI:=yH;refine du [2,3,69,70] (fun i (_:Unit)=>[(71,.int .i64 i)]) bT.length (r1 k bT) () bL (fun k ad=>Ω) (fun _ ae _=>?_) (fun i _ hi ae _=>?_);rotate_left
 ·obtain⟨x,af⟩:∃x,k[i]? =some x:=⟨_,cc Ω⟩;obtain⟨y,aO⟩:∃y,bT[i]? =some y:=⟨_,cc hi⟩;have gv:i<k.length:=Ω
  have cJ:∀h,(k[i]'h)=x:=fun h=>by rw[cc gv]at af;exact eQ af
  have eX:∀h,(bT[i]'h)=y:=fun h=>by rw[cc hi]at aO;exact eQ aO
  have fN:=True.intro;by_cases q:x=y
  ·subst q;have ax:=ae.step af aO;skip;clear ae af aO;simp[hi,gv,cJ,eX,-iH];(with_reducible repeat' first|refine aj ?_|refine aF fN ?_|refine aG fN ?_|simp[cJ,eX,hi,gv,-iH]);all_goals exact bO.rng () hi ax bL
  ·rw[cI (fun h=>q (by rw[h]at af;rw[af]at aO;exact eQ aO))];skip;clear ae af aO;simp[hi,gv,cJ,eX,-iH];(with_reducible repeat' first|refine aj ?_|refine aF fN ?_|refine aG fN ?_|simp[cJ,eX,hi,gv,q,q,-iH]);all_goals simp[bz,Ia,aX,aY,aW]
 have dJ:=ae.fin c5;subst dJ;clear ae cI yH c5;simp;(with_reducible repeat' first|refine aj ?_|simp[df]);have cI:=Lx;refine du [3,85,86] (fun i (_:Unit)=>[(87,.int .i64 i)]) ht.length (r1 m ht) () bL (fun k ad=>Ω) (fun _ ae _=>?_) (fun i _ hi ae _=>?_);rotate_left
 ·obtain⟨x,af⟩:∃x,m[i]? =some x:=⟨_,cc Ω⟩;obtain⟨y,aO⟩:∃y,ht[i]? =some y:=⟨_,cc hi⟩;have gv:i<m.length:=Ω
  have cJ:∀h,(m[i]'h)=x:=fun h=>by rw[cc gv]at af;exact eQ af
  have eX:∀h,(ht[i]'h)=y:=fun h=>by rw[cc hi]at aO;exact eQ aO
  have fN:=True.intro;by_cases q:x=y
  ·subst q;have ax:=ae.step af aO;skip;clear ae af aO;simp[hi,gv,cJ,eX,-iH];(with_reducible repeat' first|refine aj ?_|refine aF fN ?_|refine aG fN ?_|simp[cJ,eX,hi,gv,-iH]);all_goals exact bO.rng () hi ax bL
  ·rw[cI (fun h=>q (by rw[h]at af;rw[af]at aO;exact eQ aO))];skip;clear ae af aO;simp[hi,gv,cJ,eX,-iH];(with_reducible repeat' first|refine aj ?_|refine aF fN ?_|refine aG fN ?_|simp[cJ,eX,hi,gv,q,q,-iH]);all_goals simp[bz,Ia,aX,aY,aW]
 have dJ:=ae.fin df;subst dJ;have gi:R=true:=by rw[<-aV];simp
 rw[gi];exact bJ
@[simp]theorem ao7:∀l:List (List cX),c2 (l.map gg)=l.map gg
 |[]=>rfl
 |x::xs=>by simp[c2,ao7 xs]
theorem Zc:∀{d:List (List cX)},d.all gY=true->∃D:List (List aq),d=(D.map fun x=>x.map aq.b)/\∀x∈D,eU x
 |[],_=>⟨[],rfl,Ψ⟩
 |x::d,h=>by
  rw[List.all_cons,cC]at h;obtain⟨D,J,U⟩:=Zc h.2;obtain⟨s,al,aE⟩:=xz.1 (rH.1 h.1);refine⟨s::D,by rw[J,al];rfl,fun y aO=>?_⟩;rcases fA.1 aO with rfl|aO
  ·exact aE
  ·exact U y aO
open Classical in
theorem aqH(r:iG)(eb:h6 r.m->ES r.m):bF ak 65 [r.e] (.bool (decide (sT r))):=by
 generalize aV:decide (sT r)=R;have cI:¬NZ r->R=false:=fun h=>by rw[<-aV,fJ];exact fun cf=>h cf.raw
 obtain⟨n,b,d,k,m⟩:=r;simp only[iG.e]at eb⊢;have tT:=dD n 0 100000;by_cases g1:0<=n/\n<=100000;rotate_left
 ·rw[cI fun h=>g1 h.n];rw[hG g1]at tT;refine be oE yb zd fun aK=>?_;unfold wm;exact bJ
 rw[gK g1]at tT;have ly:bF ak 142 [.slice 5 .no (b.map cX.e)] (.bool (gY b)):=O6 b;cases g3:gY b
 ·rw[cI fun h=>by obtain⟨s,al,aE,_⟩:=h.b;have:=rH.2 (xz.2 ⟨s,al,aE⟩);simp only at this;rw[g3]at this;cases this]
  rw[g3]at ly;refine be oE yb zd fun aK=>?_;unfold wm;exact bJ
 rw[g3]at ly;obtain⟨s,rfl,ag⟩:=xz.1 (rH.1 g3);clear g3;rw[sF]at ly⊢;have eS:=aql d;cases wz:d.all gY
 ·rw[cI fun h=>by
   have:d.all gY=true:=by rw[ga];intro x af;obtain⟨s,al,aE,_⟩:=h.d x af;exact rH.2 (xz.2 ⟨s,al,aE⟩)
   rw[wz]at this;cases this]
  rw[wz]at eS;refine be oE yb zd fun aK=>?_;unfold wm;exact bJ
 rw[wz]at eS;obtain⟨D,rfl,u7⟩:=Zc wz;clear wz;rw[Kc]at eS⊢;have dq:=aqF k;by_cases g4:ju k;rotate_left
 ·rw[cI fun h=>g4 h.k];rw[hG g4]at dq;refine be oE yb zd fun aK=>?_;unfold wm;exact bJ
 rw[gK g4]at dq;have dn:=aqG m;by_cases g5:h6 m;rotate_left
 ·rw[cI fun h=>g5 h.m];rw[hG g5]at dn;refine be oE yb zd fun aK=>?_;unfold wm;exact bJ
 rw[gK g5]at dn;have lz:=Z2 s n;cases g6:s.all (k0 n)
 ·rw[cI fun h=>by obtain⟨ah,al,_,bn⟩:=h.b;have dh:=rW al;subst dh;rw[wh.2 bn]at g6;cases g6]
  rw[g6]at lz;refine be oE yb zd fun aK=>?_;unfold wm;exact bJ
 rw[g6]at lz;have cB:=wh.1 g6;clear g6;have Dj:=eb g5;have kJ:=Dj.len g5;refine be oE yb zd fun aK=>?_;unfold wm;have yr:D.length<=68719476736:=by simp[ek,ec,eg,lim]at aK;omega
 have hW:=tU g4;clear aK eb;simp;(with_reducible repeat' first|refine aj ?_|refine aF tT ?_|refine aG tT ?_|refine aF ly ?_|refine aG ly ?_|refine aF eS ?_|refine aG eS ?_|refine aF dq ?_|refine aG dq ?_|refine aF dn ?_|refine aG dn ?_|refine aF lz ?_|refine aG lz ?_|simp);refine du [1,48,49] (fun i (_:Unit)=>[(50,.int .i64 i)]) D.length (sA (fun x=>qk x n) D) () bL (fun k b ad=>Ω) (fun _ ae _=>?_) (fun i _ hi ae _=>?_);rotate_left
 ·obtain⟨y,aO,eX⟩:=dB hi;have LV:=dE aO;have mT:bF ak 146 [cU y,.int .i64 n] (.bool (y.all (k0 n))):=Z2 y n;cases r9:y.all (k0 n)
  ·rw[cI fun h=>by obtain⟨ah,al,_,bn⟩:=h.d _ (List.mem_map_of_mem LV);have dh:=rW al;subst dh;rw[wh.2 bn]at r9;cases r9]
   rw[r9]at mT;clear ae aO LV;exact bJ
  ·rw[r9]at mT;have ax:=ae.step aO (wh.1 r9);clear ae aO LV;exact fO
 have K4:=ae.fin;clear ae;simp;(with_reducible repeat' first|refine aj ?_|simp);refine du [1,61,62] (fun i (_:Unit)=>[(63,.int .i64 i)]) k.length (sA (fun x=>x.v<n) k) () bL (fun k b ad=>Ω) (fun _ ae _=>?_) (fun i _ hi ae _=>?_);rotate_left
 ·obtain⟨x,af,cJ⟩:=dB hi;by_cases mI:x.v<n
  ·have yk:¬n<=x.v:=Ω
   have ax:=ae.step af mI;clear ae af;exact fO
  ·have yk:n<=x.v:=Ω
   rw[cI fun h=>mI (h.kb x (dE af))];clear ae af;exact bJ
 have yx:=ae.fin;clear ae;simp;(with_reducible repeat' first|refine aj ?_|simp);have qs:=yx;refine du [1,74,75] (fun i (_:Unit)=>[(76,.int .i64 i)]) m.length (sA (fun x=>x.v<n) m) () bL (fun k b ad=>Ω) (fun _ ae _=>?_) (fun i _ hi ae _=>?_);rotate_left
 ·obtain⟨x,af,cJ⟩:=dB hi;by_cases mI:x.v<n
  ·have yk:¬n<=x.v:=Ω
   have ax:=ae.step af mI;clear ae af;exact fO
  ·have yk:n<=x.v:=Ω
   rw[cI fun h=>mI (h.mb x (dE af))];clear ae af;exact bJ
 have yx:=ae.fin;clear ae;simp;(with_reducible repeat' first|refine aj ?_|simp);have pY:=yx;have cR:vU ⟨n,s,D,k,m⟩:=⟨g1,ag,u7,g4,g5,cB,K4,qs,pY⟩;have ja:=Y6 cR;obtain⟨G,ny,a7⟩:=Dj;have c6:=aqr cR ny a7;have ls:sT ⟨n,s.map aq.b,D.map fun x=>x.map aq.b,k,m⟩↔nS ⟨n,s,D,k,m⟩=some ⟨n,s,D,k,m⟩:=ja;clear ja cI;simp only[Oa]at c6;generalize K7:BV ⟨n,s,D,k,m⟩=t at c6;have w2:=aqq t ⟨n,s,D,k,m⟩;cases lU:nS ⟨n,s,D,k,m⟩with
 |none=>
  rw[lU]at c6 ls;have gi:R=false:=by rw[<-aV,fJ,ls];simp
  rw[gi];obtain⟨uw,Zo,Zp,uv,tm⟩:=t;simp only[mc,dA.e]at c6;clear aV gi ls K7 w2;exact bJ
 |some dZ=>
  have al:=aoz lU;rw[K7]at al;subst al;rw[lU]at c6 ls;have gi:R=decide (t=⟨n,s,D,k,m⟩):=by rw[<-aV,decide_eq_decide,ls];simp
  rw[gi];simp only[pE]at c6;simp only[dA.e]at c6 w2;clear aV gi ls lU;generalize decide (t=(⟨n,s,D,k,m⟩:dA))=Q at w2⊢;clear K7;obtain⟨uw,Zo,Zp,uv,tm⟩:=t;simp only at c6 w2;exact bJ
def rX(d:c0 (c0 fs)):ai:=d.e 1 ks
def sB(k:c0 bQ):ai:=k.e 2 bQ.e
def sJ(m:c0 hR):ai:=m.e 2 hR.e
@[simp]theorem atD(S:aI->Prop)(d:c0 (c0 fs)):aD S (rX d)=True:=by cases d<;>simp[rX,c0.e,aD]
@[simp]theorem avp(d:c0 (c0 fs)):dt (rX d)=rX d:=by
 cases d with
 |l l=>
  have:∀l:List (c0 fs),c2 (l.map ks)=l.map ks:=by
   intro l;induction l with
   |nil=>rfl
   |cons x l bR=>simp[c2,bR]
  simp[rX,c0.e,dt,this]
 |b=>simp[rX,c0.e,dt]
@[simp]theorem atK(S:aI->Prop)(d:c0 bQ):aD S (sB d)=True:=by cases d<;>simp[sB,c0.e,aD]
@[simp]theorem avw(d:c0 bQ):dt (sB d)=sB d:=by
 cases d with
 |l l=>
  have:∀l:List bQ,c2 (l.map bQ.e)=l.map bQ.e:=by
   intro l;induction l with
   |nil=>rfl
   |cons x l bR=>simp[c2,bR]
  simp[sB,c0.e,dt,this]
 |b=>simp[sB,c0.e,dt]
@[simp]theorem atM(S:aI->Prop)(d:c0 hR):aD S (sJ d)=True:=by cases d<;>simp[sJ,c0.e,aD]
@[simp]theorem avy(d:c0 hR):dt (sJ d)=sJ d:=by
 cases d with
 |l l=>
  have:∀l:List hR,c2 (l.map hR.e)=l.map hR.e:=by
   intro l;induction l with
   |nil=>rfl
   |cons x l bR=>simp[c2,bR]
  simp[sJ,c0.e,dt,this]
 |b=>simp[sJ,c0.e,dt]
structure n2 where
 n:Int
 b:c0 fs
 d:c0 (c0 fs)
 k:c0 bQ
 m:c0 hR
def n2.e(r:n2):ai:= .agg [.int .i64 r.n,ks r.b,rX r.d,sB r.k,sJ r.m]
structure n2.wf (r:n2):Prop where
 b:xM r.b
 d:r.d.wf xM
 k:∀p n cap,r.k= .b p n cap->nb n
 m:r.m.wf fun x=>x.s.wf
def ur(r:n2)(m:Int):Int:=if im r.b m<0 then-1 else if gQ im r.d (im r.b m)<0 then-1 else if pk r.k (gQ im r.d (im r.b m))<0 then-1 else if gQ l8 r.m (pk r.k (gQ im r.d (im r.b m)))<0 then-1 else gQ l8 r.m (pk r.k (gQ im r.d (im r.b m)))
def zU(b:cX):fs:=⟨b.v,qH b.t⟩
def y5(b:bj):hR:=⟨b.v,.s b.s⟩
theorem abz(b:cX):(zU b).e=b.e:=by have h:=OR b.t;rw[cp.e_eq,Af]at h;simp only[ai.agg.injEq,oJ,and_true,true_and]at h;obtain⟨J,U,au,a6⟩:=h;show ai.agg [_,_,_,_,_]=ai.agg [_,_,_,_,_];rw[show(zU b).t=qH b.t from rfl,J,U,au,a6];rfl
theorem akg(b:bj):(y5 b).e=b.e:=rfl
theorem abA(l:List cX):(l.map zU).map fs.e=l.map cX.e:=by rw[List.map_map];exact List.map_congr_left fun b _=>abz b
theorem akh(l:List bj):(l.map y5).map hR.e=l.map bj.e:=by rw[List.map_map];exact List.map_congr_left fun b _=>akg b
def uU(d:List cX):c0 fs:= .l (d.map zU)
theorem SU(d:List cX):ks (uU d)=gg d:=by simp only[ks,uU,c0.e,gg,abA]
theorem acs(l:List (List cX)):(l.map uU).map ks=l.map gg:=by rw[List.map_map];exact List.map_congr_left fun b _=>SU b
def iG.h(r:iG):n2:=⟨r.n,uU r.b,.l (r.d.map uU),.l r.k,.l (r.m.map y5)⟩
theorem ao2(r:iG):r.h.e=r.e:=by simp only[n2.e,iG.h,iG.e,SU,rX,sB,sJ,c0.e,acs,akh];rfl
theorem apf(x:fs)(m:Int)(hw:x.t.wf)(J:m<=1048576)(bs:0<=m)(h:0<=sV x m):∃y,x=zU y:=by obtain⟨u,hu⟩:=OL x.t m hw J bs h;exact⟨⟨x.v,u⟩,by cases x;simp only[zU]at hu⊢;rw[hu]⟩
theorem apg(x:hR)(m:Int)(hw:x.s.wf)(J:m<=1048576)(bs:0<=m)(h:0<=l8 x m):∃y,x=y5 y:=by
 unfold l8 at h;split at h
 ·omega
 ·obtain⟨l,ar⟩:=ho.small hw J h;exact⟨⟨x.v,l⟩,by cases x;simp only[y5]at ar⊢;rw[ar]⟩
theorem Zd(x:c0 fs)(m:Int)(hw:xM x)(J:m<=1048576)(bs:0<=m)(h:0<=im x m):∃y,x=uU y:=IE (P:=fun b:fs=>b.t.wf) OJ apf x m (show c0.wf (fun b:fs=>b.t.wf) x from hw) J bs h
theorem Zj:∀(l:List bj) (m:Int),(∀x∈l,1<=x.s.length)->0<=ki l8 (l.map y5) m->(l.length:Int)<=m
 |[],m,_,h=>by simpa[ki]using h
 |x::l,m,J,h=>by
  simp only[gS,ki]at h;split at h
  ·omega
  ·rename_i U;have au:=Zj l _ (fun y aO=>J y (by simp[aO])) h;have a6:=J x Ψ;have b3:l8 (y5 x) m=if m-x.s.length<0 then-1 else m-x.s.length:=rfl
   rw[b3]at U au;split at au
   ·rename_i c7;rw[if_pos c7]at U;omega
   ·simp only[pD];omega
theorem aku{s:List dM}(h:jX s=true):1<=s.length:=by
 cases s with
 |nil=>simp[jX]at h
 |cons c s=>simp
theorem aqU(r:n2)(hw:r.wf)(m:Int)(bs:0<=m)(J:m<=1048576):bF ak 63 [r.e,.int .i64 m] (.int .i64 (ur r m)):=by
 generalize aV:ur r m=R;obtain⟨n,b,d,k,l⟩:=r;obtain⟨dU,dk,pt,nc⟩:=hw;simp only at dU dk pt nc;unfold ur at aV;simp only[n2.e]at aV⊢;have aU:=Z8 b dU m bs J;have ch:=xB b m bs;generalize im b m=bc at aV aU ch;have bo:_->bF ak 138 [rX d,.int .i64 bc] (.int .i64 (gQ im d bc)):=fun h=>aqR d (fun p n c e=>by subst e;exact dk) (fun xs e x af m bs J=>by subst e;exact Z8 x (dk x af) m bs J) bc h Ω;have ca:=fun h=>uo xB d bc h;generalize gQ im d bc=bE at aV bo ca;have cd:_->_->bF ak 139 [sB k,.int .i64 bE] (.int .i64 (pk k bE)):=fun h cf=>aqV k pt bE h cf;have fB:=fun h=>OK k bE h;generalize pk k bE=b1 at aV cd fB;have e9:_->_->bF ak 140 [sJ l,.int .i64 b1] (.int .i64 (gQ l8 l b1)):=fun h cf=>aqT l (fun p n c e=>by subst e;exact nc) (fun xs e x af m bs J=>by subst e;exact aqS x (nc x af) m bs J) b1 h cf;have oT:=fun h=>uo ER l b1 h;generalize gQ l8 l b1=c5 at aV e9 oT;clear dU dk pt nc;by_cases g1:bc<0
 ·rw[if_pos g1]at aV;subst aV;clear bo cd e9;refine be fP CK Ec fun aK=>?_;unfold z1;exact bJ
 rw[if_neg g1]at aV;have bo:=bo Ω;have ca:=ca Ω;by_cases g2:bE<0
 ·rw[if_pos g2]at aV;subst aV;clear cd e9;refine be fP CK Ec fun aK=>?_;unfold z1;exact bJ
 rw[if_neg g2]at aV;have cd:=cd Ω Ω;have fB:=fB Ω;by_cases g3:b1<0
 ·rw[if_pos g3]at aV;subst aV;clear e9;refine be fP CK Ec fun aK=>?_;unfold z1;exact bJ
 rw[if_neg g3]at aV;have e9:=e9 Ω Ω;have oT:=oT Ω;by_cases g4:c5<0
 ·rw[if_pos g4]at aV;subst aV;refine be fP CK Ec fun aK=>?_;unfold z1;exact bJ
 rw[if_neg g4]at aV;subst aV;refine be fP CK Ec fun aK=>?_;unfold z1;exact bJ
theorem aq2(r:iG):bF ak 67 [r.e] r.e:=by obtain⟨n,b,d,k,l⟩:=r;simp only[iG.e];have aU:bF ak 149 [.slice 5 .no (b.map cX.e)] (.slice 5 .no (b.map cX.e)):=aad b;have bo:=aqZ d fun x _=>aad x;have cd:=aq4 k fun x _=>aq3 x;have e9:=aq1 l fun x _=>aq0 x;refine be fP aeK alM fun aK=>?_;unfold Rq;exact bJ
theorem ap2(r:iG):bF ak 72 [r.e,r.e] (.bool true):=by obtain⟨n,b,d,k,l⟩:=r;simp only[iG.e];have aU:bF ak 156 [.slice 5 .no (b.map cX.e),.slice 5 .no (b.map cX.e)] (.bool true):=ZM b;have bo:=apZ d fun x _=>ZM x;have cd:=ap4 k fun x _=>ap3 x;have e9:=ap1 l fun x _=>ap0 x;refine be fP aez alB fun aK=>?_;unfold Rf;exact bJ
end
section
open Go Go.Pv Go.ChangeShapes Go.WideShapes Go.ChangeAt Go.RowKit Go.Deep
section
variable {H:Type} {enc:fZ×Value->H} {W:World} {spare:Nat->Bool} {held:Bool} {cs:List Value} {x:DataW H×List MemPlace} {fuel:Nat}
theorem CC:ak.cellsOf 3=1:=by kernel_rfl
theorem SC:ak.cellsOf 9=1:=by kernel_rfl
theorem FU:ak.cellsOf 124=4:=by kernel_rfl
theorem SD:ak.cellsOf 43=1:=by kernel_rfl
theorem Sx:ak.cellsOf 227=5:=by kernel_rfl
theorem Sy:ak.cellsOf 44=1:=by kernel_rfl
theorem abL:ak.cellsOf 45=1:=by kernel_rfl
theorem Sz:ak.cellsOf 233=2:=by kernel_rfl
theorem abM:ak.cellsOf 46=1:=by kernel_rfl
theorem SA:ak.cellsOf 229=2:=by kernel_rfl
theorem abN:ak.cellsOf 47=1:=by kernel_rfl
theorem SB:ak.cellsOf 49=5:=by kernel_rfl
theorem yP(h:ib enc ak W 0 spare held fuel 3 cs=some x):∃(n:Int) (v:Value),cs=[v]/\uh W (.int .i64 n) v:=by obtain⟨n,rfl,_,_⟩:=DataW.trod_int Tryz.underlying3 h;exact⟨n,_,rfl,by simp only[bd],rfl,rfl⟩
theorem Y7(h:ib enc ak W 0 spare held fuel 9 cs=some x):∃(s:ho) (v:Value),s.wf/\cs=[v]/\uh W s.e v:=by
 obtain⟨s,rfl,_,hm⟩:=DataW.trod_string Tryz.underlying9 h;by_cases ag:lim<s.size
 ·exact⟨.b s,_,⟨ag,by unfold maxLen at hm;omega⟩,rfl,by simp only[ho.e,bd],rfl,rfl⟩
 ·refine⟨.s s.data.toList,_,trivial,rfl,?_,rfl,rfl⟩;simp only[ho.e,bd];refine⟨Ψ,?_⟩;have:s.data.toList.length=s.size:=rfl;omega
theorem We{α:Type}:∀{cs:List α},cs.length=2->∃a b,cs=[a,b]
 |[a,b],_=>⟨a,b,rfl⟩
theorem ajE{α:Type}:∀{cs:List α},cs.length=4->∃a b c d,cs=[a,b,c,d]
 |[a,b,c,d],_=>⟨a,b,c,d,rfl⟩
theorem Wf{α:Type}:∀{cs:List α},cs.length=5->∃a b c d e,cs=[a,b,c,d,e]
 |[a,b,c,d,e],_=>⟨a,b,c,d,e,rfl⟩
theorem Zq:∀(fuel:Nat) (cs:List Value) (x:DataW H×List MemPlace),ib enc ak W 0 spare held fuel 124 cs=some x->∃t:cp,t.wf/\dc W (q2 W) [.int .i64 t.kind,.int .i64 t.num,t.name.e,t.args.e 4 cp.e] cs:=by
 intro fuel;induction fuel using Nat.strongRecOn with
 |ind fuel bR=>
  intro cs x h;obtain⟨xs,n,rfl,_,hlen,jq,aJ⟩:=DataW.trod_struct Tryz.underlying124 h;rw[FU]at hlen;obtain⟨ie,bK,cq,da,rfl⟩:=ajE hlen;have DD:xs.length=4:=jq;have f0:ib enc ak W 0 spare held n 3 (([ie,bK,cq,da].drop 0).take (ak.cellsOf 3))=xs[0]?:=aJ 0 _ rfl;have f1:ib enc ak W 0 spare held n 3 (([ie,bK,cq,da].drop 1).take (ak.cellsOf 3))=xs[1]?:=aJ 1 _ rfl;have f2:ib enc ak W 0 spare held n 9 (([ie,bK,cq,da].drop 2).take (ak.cellsOf 9))=xs[2]?:=aJ 2 _ rfl;have f3:ib enc ak W 0 spare held n 43 (([ie,bK,cq,da].drop 3).take (ak.cellsOf 43))=xs[3]?:=aJ 3 _ rfl;simp only[CC,SC,SD,ng,ko]at f0 f1 f2 f3;rw[cc Ω]at f0 f1 f2 f3;obtain⟨k,v0,fo,r0⟩:=yP f0;obtain⟨m,v1,al,dy⟩:=yP f1;obtain⟨s,v2,dk,aE,fb⟩:=Y7 f2;obtain⟨l,pt,v3,bn,k7⟩:=BZ cp.e cp.wf Tryz.underlying43 FU Ω (fun n' cs' Cc ax cf=>by obtain⟨t,t1,t2⟩:=bR n' Ω cs' Cc cf;exact⟨t,t1,by rw[cp.e_eq];exact zm t2⟩) f3
  simp only[oJ,and_true]at fo al aE bn;subst fo al aE bn;cases l with
  |l a=>
   refine⟨.mk k m s a,?_,?_⟩
   ·simp only[cp.wf,cp.wfL_iff];exact⟨dk,pt⟩
   ·simp only[dc,cp.kind,cp.num,cp.name,cp.args];exact⟨_,_,rfl,⟨r0.1,r0.2.1⟩,_,_,rfl,⟨dy.1,dy.2.1⟩,_,_,rfl,⟨fb.1,fb.2.1⟩,_,_,rfl,⟨k7.1,k7.2.1⟩,rfl⟩
  |b p aZ c=>
   refine⟨.big k m s p aZ c,?_,?_⟩
   ·simp only[cp.wf];exact⟨dk,pt⟩
   ·simp only[dc,cp.kind,cp.num,cp.name,cp.args];exact⟨_,_,rfl,⟨r0.1,r0.2.1⟩,_,_,rfl,⟨dy.1,dy.2.1⟩,_,_,rfl,⟨fb.1,fb.2.1⟩,_,_,rfl,⟨k7.1,k7.2.1⟩,rfl⟩
theorem abr(h:ib enc ak W 0 spare held fuel 227 cs=some x):∃b:fs,b.t.wf/\reads W b.e cs:=by obtain⟨xs,n,rfl,_,hlen,jq,aJ⟩:=DataW.trod_struct Tryz.underlying227 h;rw[Sx]at hlen;obtain⟨ie,bK,cq,da,hT,rfl⟩:=Wf hlen;have DD:xs.length=2:=jq;have f0:ib enc ak W 0 spare held n 3 (([ie,bK,cq,da,hT].drop 0).take (ak.cellsOf 3))=xs[0]?:=aJ 0 _ rfl;have f1:ib enc ak W 0 spare held n 124 (([ie,bK,cq,da,hT].drop 1).take (ak.cellsOf 124))=xs[1]?:=aJ 1 _ rfl;simp only[CC,FU,ng,ko]at f0 f1;rw[cc Ω]at f0 f1;obtain⟨k,v0,fo,r0⟩:=yP f0;obtain⟨t,dU,dy⟩:=Zq _ _ _ f1;simp only[oJ,and_true]at fo;subst fo;refine⟨⟨k,t⟩,dU,zm ?_⟩;rw[dc];exact⟨_,_,rfl,⟨r0.1,r0.2.1⟩,dy⟩
theorem ajv(h:ib enc ak W 0 spare held fuel 233 cs=some x):∃b:bQ,True/\reads W b.e cs:=by obtain⟨xs,n,rfl,_,hlen,jq,aJ⟩:=DataW.trod_struct Tryz.underlying233 h;rw[Sz]at hlen;obtain⟨ie,bK,rfl⟩:=We hlen;have DD:xs.length=2:=jq;have f0:ib enc ak W 0 spare held n 3 (([ie,bK].drop 0).take (ak.cellsOf 3))=xs[0]?:=aJ 0 _ rfl;have f1:ib enc ak W 0 spare held n 3 (([ie,bK].drop 1).take (ak.cellsOf 3))=xs[1]?:=aJ 1 _ rfl;simp only[CC,ng,ko]at f0 f1;rw[cc Ω]at f0 f1;obtain⟨k,v0,fo,r0⟩:=yP f0;obtain⟨m,v1,al,dy⟩:=yP f1;simp only[oJ,and_true]at fo al;subst fo al;refine⟨⟨k,m⟩,trivial,zm ?_⟩;simp only[dc];exact⟨_,_,rfl,⟨r0.1,r0.2.1⟩,_,_,rfl,⟨dy.1,dy.2.1⟩,rfl⟩
theorem ajS(h:ib enc ak W 0 spare held fuel 229 cs=some x):∃b:hR,b.s.wf/\reads W b.e cs:=by obtain⟨xs,n,rfl,_,hlen,jq,aJ⟩:=DataW.trod_struct Tryz.underlying229 h;rw[SA]at hlen;obtain⟨ie,bK,rfl⟩:=We hlen;have DD:xs.length=2:=jq;have f0:ib enc ak W 0 spare held n 3 (([ie,bK].drop 0).take (ak.cellsOf 3))=xs[0]?:=aJ 0 _ rfl;have f1:ib enc ak W 0 spare held n 9 (([ie,bK].drop 1).take (ak.cellsOf 9))=xs[1]?:=aJ 1 _ rfl;simp only[CC,SC,ng,ko]at f0 f1;rw[cc Ω]at f0 f1;obtain⟨k,v0,fo,r0⟩:=yP f0;obtain⟨s,v1,dU,al,dy⟩:=Y7 f1;simp only[oJ,and_true]at fo al;subst fo al;refine⟨⟨k,s⟩,dU,zm ?_⟩;simp only[dc];exact⟨_,_,rfl,⟨r0.1,r0.2.1⟩,_,_,rfl,⟨dy.1,dy.2.1⟩,rfl⟩
theorem P5(h:ib enc ak W 0 spare held fuel 44 cs=some x):∃d:c0 fs,xM d/\∃v,cs=[v]/\uh W (ks d) v:=BZ fs.e (fun b=>b.t.wf) Tryz.underlying44 Sx Ω (fun _ _ _ _ cf=>abr cf) h
theorem abt(h:ib enc ak W 0 spare held fuel 45 cs=some x):∃d:c0 (c0 fs),d.wf xM/\∃v,cs=[v]/\uh W (rX d) v:=BZ ks xM Tryz.underlying45 Sy Ω (fun _ _ _ _ cf=>by obtain⟨d,w,v,rfl,r⟩:=P5 cf;exact⟨d,w,r.reads⟩) h
theorem ajy(h:ib enc ak W 0 spare held fuel 46 cs=some x):∃d:c0 bQ,d.wf (fun _=>True)/\∃v,cs=[v]/\uh W (sB d) v:=BZ bQ.e (fun _=>True) Tryz.underlying46 Sz Ω (fun _ _ _ _ cf=>ajv cf) h
theorem ajT(h:ib enc ak W 0 spare held fuel 47 cs=some x):∃d:c0 hR,d.wf (fun b=>b.s.wf)/\∃v,cs=[v]/\uh W (sJ d) v:=BZ hR.e (fun b=>b.s.wf) Tryz.underlying47 SA Ω (fun _ _ _ _ cf=>ajS cf) h
theorem ao1(h:ib enc ak W 0 spare held fuel 49 cs=some x):∃r:n2,r.wf/\reads W r.e cs:=by obtain⟨xs,n,rfl,_,hlen,jq,aJ⟩:=DataW.trod_struct Tryz.underlying49 h;rw[SB]at hlen;obtain⟨ie,bK,cq,da,hT,rfl⟩:=Wf hlen;have DD:xs.length=5:=jq;have f0:ib enc ak W 0 spare held n 3 (([ie,bK,cq,da,hT].drop 0).take (ak.cellsOf 3))=xs[0]?:=aJ 0 _ rfl;have f1:ib enc ak W 0 spare held n 44 (([ie,bK,cq,da,hT].drop 1).take (ak.cellsOf 44))=xs[1]?:=aJ 1 _ rfl;have f2:ib enc ak W 0 spare held n 45 (([ie,bK,cq,da,hT].drop 2).take (ak.cellsOf 45))=xs[2]?:=aJ 2 _ rfl;have f3:ib enc ak W 0 spare held n 46 (([ie,bK,cq,da,hT].drop 3).take (ak.cellsOf 46))=xs[3]?:=aJ 3 _ rfl;have f4:ib enc ak W 0 spare held n 47 (([ie,bK,cq,da,hT].drop 4).take (ak.cellsOf 47))=xs[4]?:=aJ 4 _ rfl;simp only[CC,Sy,abL,abM,abN,ng,ko]at f0 f1 f2 f3 f4;rw[cc Ω]at f0 f1 f2 f3 f4;obtain⟨k,v0,fo,r0⟩:=yP f0;obtain⟨d1,dU,v1,al,dy⟩:=P5 f1;obtain⟨d2,dk,v2,aE,fb⟩:=abt f2;obtain⟨d3,pt,v3,bn,k7⟩:=ajy f3;obtain⟨d4,nc,v4,dh,XA⟩:=ajT f4;simp only[oJ,and_true]at fo al aE bn dh;subst fo al aE bn dh;refine⟨⟨k,d1,d2,d3,d4⟩,⟨dU,dk,fun p n c e=>by simp only at e;subst e;exact pt,nc⟩,zm ?_⟩;simp only[dc];exact⟨_,_,rfl,⟨r0.1,r0.2.1⟩,_,_,rfl,⟨dy.1,dy.2.1⟩,_,_,rfl,⟨fb.1,fb.2.1⟩,_,_,rfl,⟨k7.1,k7.2.1⟩,_,_,rfl,⟨XA.1,XA.2.1⟩,rfl⟩
end
end
section
open Go Go.Pv Go.ChangeShapes Go.WideShapes Go.ChangeAt Go.RowKit
theorem aok:ownKnob ak.godebug=none:=by kernel_rfl
theorem YN:laidOutB ak=true:=by kernel_rfl
theorem abD{f:FuncId}{fn:Func}(q9:ak.funcs[f]? =some fn)(acA:∀args w,(callFunc f args).run ak w= .ok (.enter f args) w){w:World}{ν:bg}{args:List ai}{bf:Array Value}(h:bF ak f args (.bool true))(aN:∀k j b,¬ν.tr k j b)(bk:∀b o,ν.A b o->b<w.heap.size)(ab:∀k,ν.bx k=none)(ay:∀k,ν.ow k=none)(aM:cW w ν args bf.toList):
  Calls ak f bf w fun e w'=>e= .returned (.bool true)/\Below w.heap.size w w':=by
 have a7:Pv.Good (fK ν ⟨[],[]⟩) w ν [] []:=⟨bk,fun k cs ad=>by simp[Pv.look]at ad,fun k bT bl J=>by simp[Pv.look]at J,fun g o ad=>by simp[Pv.look]at ad,fun g fu n n' v v' bl J=>by simp[Pv.look]at J,fun g k n v bl J=>by simp[Pv.look]at J,fun k=>.inl (ab k),fun _ _ k j=>aN k j _⟩;rcases h w ν bf a7 (fun k=>⟨fun _=>ab k,fun _=>ay k,aN k⟩) aM with⟨_,aw⟩|⟨v,w',aw,_⟩
 ·refine aw.mono ?_;rintro e w' ⟨v,r,ah,bt,rfl,⟨rfl,rfl⟩,mM,_,_,_,mj⟩;simp only[bd]at mM;subst mM;refine⟨rfl,mj.os,mj.tape,mj.output,mj.size,fun k ad=>mj.block k ad ?_⟩;simp[fK,Pv.look]
 ·rw[acA]at aw;cases aw
theorem acD{W:World}{b o:Nat}(h:(q2 W).A b o):b<W.heap.size:=by
 obtain⟨u,hu⟩:=h;rcases Nat.lt_or_ge b W.heap.size with h|h
 ·exact h
 ·simp[World.cell?,Array.getElem?_eq_none h]at hu
theorem aoh{W:World}{b0:List ai}{us:Array Value}(h:reads W (.agg b0) us.toList):bd W (q2 W) (.agg b0) (.agg us):=by
 obtain⟨v,J,U,_⟩:=h;have au:=U;simp only[bd]at au;obtain⟨ws,rfl,_⟩:=au;have:ws=us:=by
  have:ws.toList=us.toList:=by simpa[pB]using J
  exact Array.toList_inj.1 this
 rw[<-this];exact U
end
end Go.Proofs.YtohaalphocaebaaGreat
