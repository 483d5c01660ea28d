/- From a contract to the row. -/
import Derived.Test.YtohaalphocaebaaGreatProg
import Derived.ProofKit
import Derived.Carry
import Derived.WalkKit
import Derived.Test.YtohaalphocaebaaGreatH4
set_option linter.all false
set_option maxHeartbeats 4000000
set_option maxRecDepth 4000
open Bool renaming and_eq_true->cy,eq_iff_iff->qY,false_eq_true->ho,or_eq_true->lu
open Go renaming TypeId->gu
open Go.DataW renaming trod->iC
open Go.IntWalk renaming i64_in->pN
open Go.Op renaming bytesLess->hP
open Go.Proofs.Tryz renaming prog->al
open Go.Value renaming cells->pP
open List renaming all_eq_true->jd,cons_append->bW,drop->ny,drop_eq_getElem_cons->lR,getElem?_eq_getElem->b6,getElem?_eq_none->qZ,getElem?_eq_some_iff->eV,getElem_of_mem->og,length_cons->oX,length_drop->tl,map_append->rT,map_cons->gM,map_nil->mN,mem_append->kt,mem_cons->fT,mem_filter->oi,mem_map->iu,mem_of_getElem?->dV,nil_append->b9,pairwise_cons->nz,pairwise_iff_getElem->qo,replicate->rU,take->ku,take_length->je,take_of_length_le->hY,take_succ->lS
open List.Pairwise renaming filter->aa9
open List.cons renaming injEq->oW
open Nat renaming le_refl->fc,le_trans->kJ
open Option renaming getD_none->kv,getD_some->jM,isSome_none->jN,isSome_some->oZ
open Option.some renaming inj->ed,injEq->ea
open _root_ renaming False->e8,UInt8->dw,beq_iff_eq->eb,decide_eq_false->hQ,decide_eq_false_iff_not->fC,decide_eq_true->gN,decide_eq_true_eq->eW
namespace Go.Proofs.YtohaalphocaebaaGreat
section
open Go Go.Pv
structure ft where
 v:Int
 t:cq
def ft.e(b:ft):aj:= .agg [.int .i64 b.v,.int .i64 b.t.kind,.int .i64 b.t.num,b.t.name.e,b.t.args.e 4 cq.e]
@[simp]theorem at3(S:aI->Prop)(b:ft):aB S b.e=True:=by simp[ft.e,aB,aC]
@[simp]theorem avO(b:ft):dz b.e=b.e:=by simp[ft.e,dz,c6]
theorem Wz(S:aI->Prop):∀l:List ft,aC S (l.map ft.e)
 |[]=>by simp[aC]
 |x::xs=>by simp[aC,Wz S xs]
@[simp]theorem atS(S:aI->Prop)(l:List ft):aC S (l.map ft.e)=True:=eq_true (Wz S l)
@[simp]theorem avn(b:ft):eT b.e=true:=rfl
@[simp]theorem atA(b:ft):Pv.isAgg 5 b.e:=⟨_,rfl,rfl⟩
@[simp]theorem asd(b:ft):cells b.e=[.int .i64 b.v,.int .i64 b.t.kind,.int .i64 b.t.num,b.t.name.e,b.t.args.e 4 cq.e]:=rfl
structure hZ where
 v:Int
 s:ht
def hZ.e(b:hZ):aj:= .agg [.int .i64 b.v,b.s.e]
@[simp]theorem auf(S:aI->Prop)(b:hZ):aB S b.e=True:=by simp[hZ.e,aB,aC]
@[simp]theorem av0(b:hZ):dz b.e=b.e:=by simp[hZ.e,dz,c6]
theorem WE(S:aI->Prop):∀l:List hZ,aC S (l.map hZ.e)
 |[]=>by simp[aC]
 |x::xs=>by simp[aC,WE S xs]
@[simp]theorem atX(S:aI->Prop)(l:List hZ):aC S (l.map hZ.e)=True:=eq_true (WE S l)
@[simp]theorem avD(b:hZ):eT b.e=true:=rfl
@[simp]theorem atF(b:hZ):Pv.isAgg 2 b.e:=⟨_,rfl,rfl⟩
@[simp]theorem ast(b:hZ):cells b.e=[.int .i64 b.v,b.s.e]:=rfl
def s9(b:ft)(m:Int):Int:=ik b.t m
theorem Pm(b:ft)(m:Int)(h:0<=m): -1<=s9 b m/\s9 b m<=m:=wg b.t m h
def mn(b:hZ)(m:Int):Int:=if m-b.s.len<0 then-1 else m-b.s.len
theorem E7(b:hZ)(m:Int)(h:0<=m): -1<=mn b m/\mn b m<=m:=by have:=b.s.len_nn;unfold mn;split<;>omega
theorem FG(t:cq):aj.agg [.int .i64 t.kind,.int .i64 t.num,t.name.e,t.args.e 4 cq.e]=t.e:=(cq.e_eq t).symm
theorem ari(b:ft)(hw:b.t.wf)(m:Int)(br:0<=m)(J:m<=1048576):bC al 213 [b.e,.int .i64 m] (.int .i64 (s9 b m)):=by
 have key:=aaN b.t hw m br J;have hle:=wg b.t m br;unfold s9;generalize ik b.t m=q at key hle⊢;by_cases bn:q<0
 ·have:q= -1:=Ω
  subst this;refine bc fS TY XO fun aM=>?_;unfold Kh;simp[FG];(with_reducible repeat' first|refine ai ?_|refine az key ?_|refine aA key ?_|simp[FG]);all_goals simp[bq,Ou,aX,aZ,aW]
 ·refine bc fS TY XO fun aM=>?_;unfold Kh;simp[FG];(with_reducible repeat' first|refine ai ?_|refine az key ?_|refine aA key ?_|simp[bn,FG]);all_goals simp[bq,Ou,aX,aZ,aW]
theorem ars(b:c3):bC al 222 [b.e] b.e:=by have key:=aaS b.t;refine bc fS afh amh fun aM=>?_;unfold R3;exact bQ
theorem aqB(b:c3):bC al 226 [b.e,b.e] (.bool true):=by have key:=aao b.t;refine bc fS ae6 al6 fun aM=>?_;unfold RQ;exact bQ
theorem arl(b:hZ)(hw:b.s.wf)(m:Int)(br:0<=m)(J:m<=1048576):bC al 214 [b.e,.int .i64 m] (.int .i64 (mn b m)):=by
 have kP:m-b.s.len<0->mn b m= -1:=fun g=>if_pos g;have gP:¬m-b.s.len<0->mn b m=m-b.s.len:=fun g=>if_neg g;generalize mn b m=R at kP gP;obtain⟨v,s⟩:=b;simp only[hZ.e]at hw kP gP⊢;cases s with
 |b x=>
  simp only[ht.wf,nu,lim]at hw;have g:m-x.size<0:=Ω
  have aU:=kP g;subst aU;clear kP gP;simp only[ht.e];refine bc fS K5 NU fun aM=>?_;unfold F0;exact bQ
 |s l=>
  simp only[ht.e];by_cases g:m-l.length<0
  ·have aU:=kP g;subst aU;clear kP gP hw;refine bc fS K5 NU fun aM=>?_;unfold F0;have ev:l.length<=68719476736:=by simp[eA,eo,et,lim]at aM;omega
   exact bQ
  ·have aU:R=m-l.length:=gP g;subst aU;clear kP gP hw;refine bc fS K5 NU fun aM=>?_;unfold F0;have ev:l.length<=68719476736:=by simp[eA,eo,et,lim]at aM;omega
   exact bQ
theorem arz(b:bN):bC al 223 [b.e] b.e:=by refine bc fS afp amp fun aM=>?_;unfold Sb;exact bQ
theorem arv(b:bj):bC al 224 [b.e] b.e:=by refine bc fS afk amk fun aM=>?_;unfold R6;exact bQ
theorem aqI(b:bN):bC al 227 [b.e,b.e] (.bool true):=by refine bc fS afe ame fun aM=>?_;unfold RY;exact bQ
theorem aqE(b:bj):bC al 228 [b.e,b.e] (.bool true):=by refine bc fS ae9 al9 fun aM=>?_;unfold RT;exact bQ
@[simp high] theorem avg(x y:bj):nr x.e 0 [.int .i64 y.v,.str y.s]=y.e:=rfl
@[simp high] theorem avf(x y:bN):nr x.e 0 [.int .i64 y.v,.int .i64 y.k]=y.e:=rfl
theorem arj(l:c4 ft)(hw:∀p n cap,l= .b p n cap->nu n)(aK:∀xs,l= .l xs->∀x∈xs,∀m,0<=m->m<=1048576->bC al 213 [ft.e x,.int .i64 m] (.int .i64 (s9 x m)))(m:Int)(br:0<=m)(J:m<=1048576):bC al 137 [l.e 5 ft.e,.int .i64 m] (.int .i64 (gV s9 l m)):=by
 cases l with
 |b p n cap=>
  have ax:=hw p n cap rfl;simp only[nu,lim]at ax;have g:m-n<0:=Ω
  simp only[c4.e,gV];clear hw aK;refine bc fS TZ XP fun aM=>?_;unfold Ki;exact bQ
 |l l=>
 have aK:=aK l rfl;clear hw;simp only[c4.e,gV];generalize aU:oP s9 l m=R;unfold oP at aU;refine bc fS TZ XP fun aM=>?_;unfold Ki;have ev:l.length<=68719476736:=by simp[eA,eo,et,lim]at aM;omega
 simp;by_cases g:m-l.length<0
 ·rw[if_pos g]at aU;subst aU;exact bQ
 rw[if_neg g]at aU;(with_reducible repeat' first|refine ai ?_|simp[g]);refine dO [0] (fun i (k:Int)=>[(1,.int .i64 k),(5,.int .i64 i)]) l.length (fun i k=>(0<=k/\k<=1048576)/\kq s9 (l.drop i) k=R) (m-l.length) bT ⟨⟨Ω,Ω⟩,by simpa using aU⟩ (fun k ae _=>?_) (fun i k hi ae _=>?_)
 ·obtain⟨_,ae⟩:=ae;rw[List.drop_length]at ae;simp only[kq]at ae;subst ae;exact bQ
 ·obtain⟨⟨dU,aS⟩,ae⟩:=ae;obtain⟨x,ab,cG⟩:=eh hi;have key:=aK x (dV ab) k dU aS;have hle:=Pm x k dU;rw[ub ab]at ae;simp only[kq]at ae;generalize s9 x k=q at key hle ae;clear ab;by_cases bn:q<0
  ·rw[if_pos bn]at ae;subst ae;exact bQ
  ·rw[if_neg bn]at ae;simp[hi,cG];((with_reducible repeat' first|refine ai ?_|refine az key ?_|refine aA key ?_|simp[hi,cG,bn]|((first|apply bU|apply bY|apply bX)<;>intro h<;>try simp at h))<;>(try exact cz));all_goals exact bK.rng q hi ⟨⟨Ω,Ω⟩,ae⟩ bT
theorem art(l:List c3)(aK:∀x∈l,bC al 222 [c3.e x] (c3.e x)):bC al 149 [.slice 5 .no (l.map c3.e)] (.slice 5 .no (l.map c3.e)):=by
 refine bc fS afi ami fun aM=>?_;unfold R4;have ev:l.length<=68719476736:=by simp[eA,eo,et,lim]at aM;omega
 simp;all_goals first|(refine⟨by unfold lim;omega,?_⟩)|skip
 (with_reducible repeat' first|refine ai ?_|simp);have fp:∀(S:aI->Prop) (n:Nat),aC S (rU n (.agg [.int .i64 0,.int .i64 0,.int .i64 0,.str [],.slice 4 .nil []]))=True:=fun S n=>eq_true (y8 S _ (by simp[aB,aC]) n);refine gA (fun i (_:Unit)=>⟨[(0,.slice 5 .no (l.map c3.e)),(3,.row 5 (.loc 0) l.length),(4,.int .i64 i)],[],[(.loc 0,⟨l.length,61,5,some (iL c3.e (.agg [.int .i64 0,.int .i64 0,.int .i64 0,.str [],.slice 4 .nil []]) l i)⟩)],1,[]⟩) l.length (fun _ _=>True) () ⟨by simp[fresh,aC,aB,bP,inObs,Pv.look,pC,fp],dD (by simp[fresh,aC,aB,bP,inObs,Pv.look,pC,fp]),dE (by simp[fresh,aC,aB,dt,inObs,Pv.look,pC,fp]),Ψ⟩ trivial (fun _ _ _=>?_) (fun i _ hi _ _=>?_)
 ·rw[Ee];exact bQ
 ·obtain⟨x,ab,cG⟩:=eh hi;have key:=aK x (dV ab);have ak:=Ef c3.e (.agg [.int .i64 0,.int .i64 0,.int .i64 0,.str [],.slice 4 .nil []]) l hi;have aD:=Eg c3.e (.agg [.int .i64 0,.int .i64 0,.int .i64 0,.str [],.slice 4 .nil []]) l ab;have bh:∀S:aI->Prop,aC S (iL c3.e (.agg [.int .i64 0,.int .i64 0,.int .i64 0,.str [],.slice 4 .nil []]) l (i+1)):=fun S=>D5 S _ _ _ _ (fun x=>by simp) (by simp[aB,aC]);generalize iL c3.e (.agg [.int .i64 0,.int .i64 0,.int .i64 0,.str [],.slice 4 .nil []]) l i=r0 at ak aD;generalize qc:iL c3.e (.agg [.int .i64 0,.int .i64 0,.int .i64 0,.str [],.slice 4 .nil []]) l (i+1)=dC at aD bh;clear ab;simp[hi,cG];(with_reducible repeat' first|refine ai ?_|refine az key ?_|refine aA key ?_|simp[hi,cG,ak,aD]);all_goals refine bK.rng () hi trivial ?_
  all_goals rw[qc]
  all_goals first
   |exact⟨by simp[fresh,aC,aB,bP,inObs,Pv.look,bh],dD gt,dE (by simp[fresh,aC,aB,dt,inObs,Pv.look,bh]),Ψ⟩
   |exact⟨by simp[fresh,aC,aB,bP,inObs,Pv.look,bh],dD gt,dE (by simp[fresh,aC,aB,dt,inObs,Pv.look,bh];exact aD),Ψ⟩
theorem aqC(l:List c3)(aK:∀x∈l,bC al 226 [c3.e x,c3.e x] (.bool true)):bC al 156 [.slice 5 .no (l.map c3.e),.slice 5 .no (l.map c3.e)] (.bool true):=by
 refine bc fS ae7 al7 fun aM=>?_;unfold RR;have ev:l.length<=68719476736:=by simp[eA,eo,et,lim]at aM;omega
 simp;(with_reducible repeat' first|refine ai ?_|simp);refine dO [0,1] (fun i (_:Unit)=>[(5,.int .i64 i)]) l.length (fun _ _=>True) () bT trivial (fun _ _ _=>?_) (fun i _ hi _ _=>?_)
 ·exact bQ
 ·obtain⟨x,ab,cG⟩:=eh hi;have key:=aK x (dV ab);clear ab;exact hE
theorem arn(l:c4 hZ)(hw:∀p n cap,l= .b p n cap->nu n)(aK:∀xs,l= .l xs->∀x∈xs,∀m,0<=m->m<=1048576->bC al 214 [hZ.e x,.int .i64 m] (.int .i64 (mn x m)))(m:Int)(br:0<=m)(J:m<=1048576):bC al 140 [l.e 2 hZ.e,.int .i64 m] (.int .i64 (gV mn l m)):=by
 cases l with
 |b p n cap=>
  have ax:=hw p n cap rfl;simp only[nu,lim]at ax;have g:m-n<0:=Ω
  simp only[c4.e,gV];clear hw aK;refine bc fS T1 XR fun aM=>?_;unfold Kk;exact bQ
 |l l=>
 have aK:=aK l rfl;clear hw;simp only[c4.e,gV];generalize aU:oP mn l m=R;unfold oP at aU;refine bc fS T1 XR fun aM=>?_;unfold Kk;have ev:l.length<=68719476736:=by simp[eA,eo,et,lim]at aM;omega
 simp;by_cases g:m-l.length<0
 ·rw[if_pos g]at aU;subst aU;exact bQ
 rw[if_neg g]at aU;(with_reducible repeat' first|refine ai ?_|simp[g]);refine dO [0] (fun i (k:Int)=>[(1,.int .i64 k),(5,.int .i64 i)]) l.length (fun i k=>(0<=k/\k<=1048576)/\kq mn (l.drop i) k=R) (m-l.length) bT ⟨⟨Ω,Ω⟩,by simpa using aU⟩ (fun k ae _=>?_) (fun i k hi ae _=>?_)
 ·obtain⟨_,ae⟩:=ae;rw[List.drop_length]at ae;simp only[kq]at ae;subst ae;exact bQ
 ·obtain⟨⟨dU,aS⟩,ae⟩:=ae;obtain⟨x,ab,cG⟩:=eh hi;have key:=aK x (dV ab) k dU aS;have hle:=E7 x k dU;rw[ub ab]at ae;simp only[kq]at ae;generalize mn x k=q at key hle ae;clear ab;by_cases bn:q<0
  ·rw[if_pos bn]at ae;subst ae;exact bQ
  ·rw[if_neg bn]at ae;simp[hi,cG];((with_reducible repeat' first|refine ai ?_|refine az key ?_|refine aA key ?_|simp[hi,cG,bn]|((first|apply bU|apply bY|apply bX)<;>intro h<;>try simp at h))<;>(try exact cz));all_goals exact bK.rng q hi ⟨⟨Ω,Ω⟩,ae⟩ bT
theorem arw(l:List bj)(aK:∀x∈l,bC al 224 [bj.e x] (bj.e x)):bC al 152 [.slice 2 .no (l.map bj.e)] (.slice 2 .no (l.map bj.e)):=by
 refine bc fS afl aml fun aM=>?_;unfold R7;have ev:l.length<=68719476736:=by simp[eA,eo,et,lim]at aM;omega
 simp;all_goals first|(refine⟨by unfold lim;omega,?_⟩)|skip
 (with_reducible repeat' first|refine ai ?_|simp);have fp:∀(S:aI->Prop) (n:Nat),aC S (rU n ((⟨0,[]⟩:bj).e))=True:=fun S n=>eq_true (y8 S _ (by simp[aB,aC]) n);refine gA (fun i (_:Unit)=>⟨[(0,.slice 2 .no (l.map bj.e)),(3,.row 2 (.loc 0) l.length),(4,.int .i64 i)],[],[(.loc 0,⟨l.length,106,2,some (iL bj.e ((⟨0,[]⟩:bj).e) l i)⟩)],1,[]⟩) l.length (fun _ _=>True) () ⟨by simp[fresh,aC,aB,bP,inObs,Pv.look,pC,fp],dD (by simp[fresh,aC,aB,bP,inObs,Pv.look,pC,fp]),dE (by simp[fresh,aC,aB,dt,inObs,Pv.look,pC,fp]),Ψ⟩ trivial (fun _ _ _=>?_) (fun i _ hi _ _=>?_)
 ·rw[Ee];exact bQ
 ·obtain⟨x,ab,cG⟩:=eh hi;have key:=aK x (dV ab);have ak:=Ef bj.e ((⟨0,[]⟩:bj).e) l hi;have aD:=Eg bj.e ((⟨0,[]⟩:bj).e) l ab;have bh:∀S:aI->Prop,aC S (iL bj.e ((⟨0,[]⟩:bj).e) l (i+1)):=fun S=>D5 S _ _ _ _ (fun x=>by simp) (by simp[aB,aC]);generalize iL bj.e ((⟨0,[]⟩:bj).e) l i=r0 at ak aD;generalize qc:iL bj.e ((⟨0,[]⟩:bj).e) l (i+1)=dC at aD bh;clear ab;simp[hi,cG];(with_reducible repeat' first|refine ai ?_|refine az key ?_|refine aA key ?_|simp[hi,cG,ak,aD,-nr]);all_goals refine bK.rng () hi trivial ?_
  all_goals rw[qc]
  all_goals first
   |exact⟨by simp[fresh,aC,aB,bP,inObs,Pv.look,bh],dD gt,dE (by simp[fresh,aC,aB,dt,inObs,Pv.look,bh]),Ψ⟩
   |exact⟨by simp[fresh,aC,aB,bP,inObs,Pv.look,bh],dD gt,dE (by simp[fresh,aC,aB,dt,inObs,Pv.look,bh];exact aD),Ψ⟩
theorem aqF(l:List bj)(aK:∀x∈l,bC al 228 [bj.e x,bj.e x] (.bool true)):bC al 159 [.slice 2 .no (l.map bj.e),.slice 2 .no (l.map bj.e)] (.bool true):=by
 refine bc fS afa ama fun aM=>?_;unfold RU;have ev:l.length<=68719476736:=by simp[eA,eo,et,lim]at aM;omega
 simp;(with_reducible repeat' first|refine ai ?_|simp);refine dO [0,1] (fun i (_:Unit)=>[(5,.int .i64 i)]) l.length (fun _ _=>True) () bT trivial (fun _ _ _=>?_) (fun i _ hi _ _=>?_)
 ·exact bQ
 ·obtain⟨x,ab,cG⟩:=eh hi;have key:=aK x (dV ab);clear ab;exact hE
theorem arA(l:List bN)(aK:∀x∈l,bC al 223 [bN.e x] (bN.e x)):bC al 151 [.slice 2 .no (l.map bN.e)] (.slice 2 .no (l.map bN.e)):=by
 refine bc fS afq amq fun aM=>?_;unfold Sc;have ev:l.length<=68719476736:=by simp[eA,eo,et,lim]at aM;omega
 simp;all_goals first|(refine⟨by unfold lim;omega,?_⟩)|skip
 (with_reducible repeat' first|refine ai ?_|simp);have fp:∀(S:aI->Prop) (n:Nat),aC S (rU n ((⟨0,0⟩:bN).e))=True:=fun S n=>eq_true (y8 S _ (by simp[aB,aC]) n);refine gA (fun i (_:Unit)=>⟨[(0,.slice 2 .no (l.map bN.e)),(3,.row 2 (.loc 0) l.length),(4,.int .i64 i)],[],[(.loc 0,⟨l.length,104,2,some (iL bN.e ((⟨0,0⟩:bN).e) l i)⟩)],1,[]⟩) l.length (fun _ _=>True) () ⟨by simp[fresh,aC,aB,bP,inObs,Pv.look,pC,fp],dD (by simp[fresh,aC,aB,bP,inObs,Pv.look,pC,fp]),dE (by simp[fresh,aC,aB,dt,inObs,Pv.look,pC,fp]),Ψ⟩ trivial (fun _ _ _=>?_) (fun i _ hi _ _=>?_)
 ·rw[Ee];exact bQ
 ·obtain⟨x,ab,cG⟩:=eh hi;have key:=aK x (dV ab);have ak:=Ef bN.e ((⟨0,0⟩:bN).e) l hi;have aD:=Eg bN.e ((⟨0,0⟩:bN).e) l ab;have bh:∀S:aI->Prop,aC S (iL bN.e ((⟨0,0⟩:bN).e) l (i+1)):=fun S=>D5 S _ _ _ _ (fun x=>by simp) (by simp[aB,aC]);generalize iL bN.e ((⟨0,0⟩:bN).e) l i=r0 at ak aD;generalize qc:iL bN.e ((⟨0,0⟩:bN).e) l (i+1)=dC at aD bh;clear ab;simp[hi,cG];(with_reducible repeat' first|refine ai ?_|refine az key ?_|refine aA key ?_|simp[hi,cG,ak,aD,-nr]);all_goals refine bK.rng () hi trivial ?_
  all_goals rw[qc]
  all_goals first
   |exact⟨by simp[fresh,aC,aB,bP,inObs,Pv.look,bh],dD gt,dE (by simp[fresh,aC,aB,dt,inObs,Pv.look,bh]),Ψ⟩
   |exact⟨by simp[fresh,aC,aB,bP,inObs,Pv.look,bh],dD gt,dE (by simp[fresh,aC,aB,dt,inObs,Pv.look,bh];exact aD),Ψ⟩
theorem aqJ(l:List bN)(aK:∀x∈l,bC al 227 [bN.e x,bN.e x] (.bool true)):bC al 158 [.slice 2 .no (l.map bN.e),.slice 2 .no (l.map bN.e)] (.bool true):=by
 refine bc fS aff amf fun aM=>?_;unfold RZ;have ev:l.length<=68719476736:=by simp[eA,eo,et,lim]at aM;omega
 simp;(with_reducible repeat' first|refine ai ?_|simp);refine dO [0,1] (fun i (_:Unit)=>[(5,.int .i64 i)]) l.length (fun _ _=>True) () bT trivial (fun _ _ _=>?_) (fun i _ hi _ _=>?_)
 ·exact bQ
 ·obtain⟨x,ab,cG⟩:=eh hi;have key:=aK x (dV ab);clear ab;exact hE
def pJ:c4 bN->Int->Int
 | .l l,m=>if m-l.length<0 then-1 else m-l.length
 | .b _ _ _,_=> -1
theorem Pn(l:c4 bN)(m:Int)(h:0<=m): -1<=pJ l m/\pJ l m<=m:=by
 cases l with
 |l l=>simp only[pJ];split<;>omega
 |b=>simp only[pJ];omega
theorem arq(l:c4 bN)(hw:∀p n cap,l= .b p n cap->nu n)(m:Int)(br:0<=m)(J:m<=1048576):bC al 139 [l.e 2 bN.e,.int .i64 m] (.int .i64 (pJ l m)):=by
 cases l with
 |b p n cap=>
  have ax:=hw p n cap rfl;simp only[nu,lim]at ax;have g:m-n<0:=Ω
  simp only[c4.e,pJ];clear hw;refine bc fS K6 NV fun aM=>?_;unfold F1;exact bQ
 |l l=>
  simp only[c4.e,pJ];clear hw;by_cases g:m-l.length<0
  ·rw[if_pos g];refine bc fS K6 NV fun aM=>?_;unfold F1;have ev:l.length<=68719476736:=by simp[eA,eo,et,lim]at aM;omega
   exact bQ
  ·rw[if_neg g];refine bc fS K6 NV fun aM=>?_;unfold F1;have ev:l.length<=68719476736:=by simp[eA,eo,et,lim]at aM;omega
   exact bQ
def kB(d:c4 ft):aj:=d.e 5 ft.e
@[simp]theorem at6(S:aI->Prop)(d:c4 ft):aB S (kB d)=True:=by cases d<;>simp[kB,c4.e,aB]
@[simp]theorem avR(d:c4 ft):dz (kB d)=kB d:=by
 cases d with
 |l l=>
  have:∀l:List ft,c6 (l.map ft.e)=l.map ft.e:=by
   intro l;induction l with
   |nil=>rfl
   |cons x l bR=>simp[c6,bR]
  simp[kB,c4.e,dz,this]
 |b=>simp[kB,c4.e,dz]
theorem WI(S:aI->Prop):∀l:List (c4 ft),aC S (l.map kB)
 |[]=>by simp[aC]
 |x::xs=>by simp[aC,WI S xs]
@[simp]theorem atZ(S:aI->Prop)(l:List (c4 ft)):aC S (l.map kB)=True:=eq_true (WI S l)
@[simp]theorem avt(d:c4 ft):eT (kB d)=true:=by cases d<;>rfl
@[simp]theorem ash(d:c4 ft):cells (kB d)=[kB d]:=by cases d<;>rfl
def iB(d:c4 ft)(m:Int):Int:=gV s9 d m
theorem xN(d:c4 ft)(m:Int)(h:0<=m): -1<=iB d m/\iB d m<=m:=ux Pm d m h
def xY(d:c4 ft):Prop:=d.wf fun b=>b.t.wf
@[simp]theorem apN:∀l:List (List c3),c6 (l.map gl)=l.map gl
 |[]=>rfl
 |x::xs=>by simp[c6,apN xs]
theorem aaM(d:c4 ft)(hw:xY d)(m:Int)(br:0<=m)(J:m<=1048576):bC al 137 [kB d,.int .i64 m] (.int .i64 (iB d m)):=arj d (fun p n c e=>by subst e;exact hw) (fun xs e x ab m br J=>by subst e;exact ari x (hw x ab) m br J) m br J
theorem aaR(d:List c3):bC al 149 [gl d] (gl d):=art d fun x _=>ars x
theorem aan(d:List c3):bC al 156 [gl d,gl d] (.bool true):=aqC d fun x _=>aqB x
theorem ark(l:c4 (c4 ft))(hw:∀p n cap,l= .b p n cap->nu n)(aK:∀xs,l= .l xs->∀x∈xs,∀m,0<=m->m<=1048576->bC al 137 [kB x,.int .i64 m] (.int .i64 (iB x m)))(m:Int)(br:0<=m)(J:m<=1048576):bC al 138 [l.e 1 kB,.int .i64 m] (.int .i64 (gV iB l m)):=by
 cases l with
 |b p n cap=>
  have ax:=hw p n cap rfl;simp only[nu,lim]at ax;have g:m-n<0:=Ω
  simp only[c4.e,gV];clear hw aK;refine bc fS T0 XQ fun aM=>?_;unfold Kj;exact bQ
 |l l=>
 have aK:=aK l rfl;clear hw;simp only[c4.e,gV];generalize aU:oP iB l m=R;unfold oP at aU;refine bc fS T0 XQ fun aM=>?_;unfold Kj;have ev:l.length<=68719476736:=by simp[eA,eo,et,lim]at aM;omega
 simp;by_cases g:m-l.length<0
 ·rw[if_pos g]at aU;subst aU;exact bQ
 rw[if_neg g]at aU;(with_reducible repeat' first|refine ai ?_|simp[g]);refine dO [0] (fun i (k:Int)=>[(1,.int .i64 k),(5,.int .i64 i)]) l.length (fun i k=>(0<=k/\k<=1048576)/\kq iB (l.drop i) k=R) (m-l.length) bT ⟨⟨Ω,Ω⟩,by simpa using aU⟩ (fun k ae _=>?_) (fun i k hi ae _=>?_)
 ·obtain⟨_,ae⟩:=ae;rw[List.drop_length]at ae;simp only[kq]at ae;subst ae;exact bQ
 ·obtain⟨⟨dU,aS⟩,ae⟩:=ae;obtain⟨x,ab,cG⟩:=eh hi;have key:=aK x (dV ab) k dU aS;have hle:=xN x k dU;rw[ub ab]at ae;simp only[kq]at ae;generalize iB x k=q at key hle ae;clear ab;by_cases bn:q<0
  ·rw[if_pos bn]at ae;subst ae;exact bQ
  ·rw[if_neg bn]at ae;simp[hi,cG];((with_reducible repeat' first|refine ai ?_|refine az key ?_|refine aA key ?_|simp[hi,cG,bn]|((first|apply bU|apply bY|apply bX)<;>intro h<;>try simp at h))<;>(try exact cz));all_goals exact bK.rng q hi ⟨⟨Ω,Ω⟩,ae⟩ bT
theorem aru(l:List (List c3))(aK:∀x∈l,bC al 149 [gl x] (gl x)):bC al 150 [.slice 1 .no (l.map gl)] (.slice 1 .no (l.map gl)):=by
 refine bc fS afj amj fun aM=>?_;unfold R5;have ev:l.length<=68719476736:=by simp[eA,eo,et,lim]at aM;omega
 simp;all_goals first|(refine⟨by unfold lim;omega,?_⟩)|skip
 (with_reducible repeat' first|refine ai ?_|simp);have fp:∀(S:aI->Prop) (n:Nat),aC S (rU n (.slice 5 .nil []))=True:=fun S n=>eq_true (y8 S _ (by simp[aB,aC]) n);refine gA (fun i (_:Unit)=>⟨[(0,.slice 1 .no (l.map gl)),(3,.row 1 (.loc 0) l.length),(4,.int .i64 i)],[],[(.loc 0,⟨l.length,23,1,some (iL gl (.slice 5 .nil []) l i)⟩)],1,[]⟩) l.length (fun _ _=>True) () ⟨by simp[fresh,aC,aB,bP,inObs,Pv.look,pC,fp],dD (by simp[fresh,aC,aB,bP,inObs,Pv.look,pC,fp]),dE (by simp[fresh,aC,aB,dt,inObs,Pv.look,pC,fp]),Ψ⟩ trivial (fun _ _ _=>?_) (fun i _ hi _ _=>?_)
 ·rw[Ee];exact bQ
 ·obtain⟨x,ab,cG⟩:=eh hi;have key:=aK x (dV ab);have ak:=Ef gl (.slice 5 .nil []) l hi;have aD:=Eg gl (.slice 5 .nil []) l ab;have bh:∀S:aI->Prop,aC S (iL gl (.slice 5 .nil []) l (i+1)):=fun S=>D5 S _ _ _ _ (fun x=>by simp) (by simp[aB,aC]);generalize iL gl (.slice 5 .nil []) l i=r0 at ak aD;generalize qc:iL gl (.slice 5 .nil []) l (i+1)=dC at aD bh;clear ab;simp[hi,cG];(with_reducible repeat' first|refine ai ?_|refine az key ?_|refine aA key ?_|simp[hi,cG,ak,aD]);all_goals refine bK.rng () hi trivial ?_
  all_goals rw[qc]
  all_goals first
   |exact⟨by simp[fresh,aC,aB,bP,inObs,Pv.look,bh],dD gt,dE (by simp[fresh,aC,aB,dt,inObs,Pv.look,bh]),Ψ⟩
   |exact⟨by simp[fresh,aC,aB,bP,inObs,Pv.look,bh],dD gt,dE (by simp[fresh,aC,aB,dt,inObs,Pv.look,bh];exact aD),Ψ⟩
theorem aqD(l:List (List c3))(aK:∀x∈l,bC al 156 [gl x,gl x] (.bool true)):bC al 157 [.slice 1 .no (l.map gl),.slice 1 .no (l.map gl)] (.bool true):=by
 refine bc fS ae8 al8 fun aM=>?_;unfold RS;have ev:l.length<=68719476736:=by simp[eA,eo,et,lim]at aM;omega
 simp;(with_reducible repeat' first|refine ai ?_|simp);refine dO [0,1] (fun i (_:Unit)=>[(5,.int .i64 i)]) l.length (fun _ _=>True) () bT trivial (fun _ _ _=>?_) (fun i _ hi _ _=>?_)
 ·exact bQ
 ·obtain⟨x,ab,cG⟩:=eh hi;have key:=aK x (dV ab);clear ab;exact hE
def F5:C:=(aa [cC 3 1,c1 4 dH] (.seq (aa [aE 7 0 1 3,av 8 1 7,aV 9 .eql 8 1] (aT 9 (aa [I 11 0,aE 12 1 1 3,av 13 1 12,b2 14 161 11 13,I 10 14,cr 15 0 10,cr 16 1 10,c1 5 dH,bB 4 5 15,I 6 16] (aa [I 17 6] (aT 17 (aa [aY 18 4 5,bB 4 4 18] .ret) .skip))) .skip)) (.seq (aa [aE 19 0 1 3,av 20 1 19,aV 21 .eql 20 4] (aT 21 (.seq (.drawn true 36 [I 22 0,aE 23 3 1 3,av 24 1 23,jb 25 4 24 0,aY 26 4 25,b2 27 75 22 26,I 28 0,aE 29 3 1 3,av 30 1 29,jb 31 4 30 1,aY 32 4 31,b2 33 75 28 32,b2 34 114 27 33,bB 4 4 34]) .ret) .skip)) (aa [aY 35 4 3,bB 4 4 35] .ret))))
@[simp] def It:List bO:=[.cell 4 true 4]
def SE:C:=(aa [cC 1 0,a8 2 false] (aa [aY 3 4 1,dn 4 162 [.t 3,(gd 5000)],aV 5 .leq 4 5000,I 6 5,aq 6 true (aY 7 4 1),aq 6 true (cB 8 163 7),dL 9 6 8,I 2 9] .ret))
@[simp] def aoC:List bO:=[.tmp 2]
def SI:C:=(aa [cC 1 0,a8 2 false] (aa [aY 3 4 1,dn 4 162 [.t 3,(gd 5000)],aV 5 .leq 4 5000,I 2 5] .ret))
@[simp] def YS:List bO:=[.tmp 2]
def SF:C:=(aa [a8 6 false] (aa [I 7 0,I 8 1,bk 9 .geq 7 8,I 10 9,cb 10 true 11 0,cb 10 true 12 2,aq 10 true (bk 13 .leq 11 12),dL 14 10 13,I 6 14] .ret))
@[simp] def YR:List bO:=[.tmp 6]
def Ks:C:=(aa [a8 2 false] (.seq (aa [I 9 0,cB 10 164 9,cj 11 10] (aT 11 (aa [a8 2 false] .ret) .skip)) (.seq (aa [I 12 0,ca 13 12,bS 14 0] (e0 15 14 13 (.seq (.block 1 (aa [cf 16 5 12 14,aY 17 5 16,c1 4 jF,bB 5 4 17] (.seq (aa [eO 18 1 4 4,aE 19 0 1 18,av 20 1 19,aV 21 .eql 20 1,I 22 21,aq 22 true (eO 23 1 4 4),aq 22 true (aE 24 1 1 23),aq 22 true (av 25 1 24),aq 22 true (aE 26 0 1 4),aq 22 true (av 27 1 26),aq 22 true (bk 28 .geq 25 27),dL 29 22 28] (aT 29 (aa [a8 2 false] .ret) .skip)) (aa [eO 30 1 4 4,aY 31 4 30,dn 32 165 [.t 31,(.c (.slice 1 .nil []))],ca 33 32,bS 34 0] (.block 2 (.loop (aa [bk 35 .lss 34 33] (.seq (aT 35 .skip (.exit 2)) (.seq (.block 3 (aa [cf 36 1 32 34,av 37 1 36,I 6 37] (aa [I 39 0,I 40 6,b2 41 161 39 40,I 38 41,cr 42 0 38,cr 43 1 38,c1 7 dH,bB 4 7 42,I 8 43] (aa [I 44 8] (aT 44 (aa [a8 2 false] .ret) .skip))))) (.region [aV 45 .add 34 1,I 34 45])))))))))) (.region [aV 46 .add 14 1,I 14 46])))) (aa [a8 2 true] .ret))))
@[simp] def Oz:List bO:=[.tmp 2]
def SR:C:=(aa [c1 4 dH,a8 5 false] (.seq (aa [I 8 0,ca 9 8,bS 10 0] (e0 11 10 9 (.seq (.block 1 (aa [cf 12 5 8 10,aY 13 5 12,c1 7 jF,bB 5 7 13] (aa [aE 14 0 1 7,av 15 1 14,I 16 1,bk 17 .eql 15 16] (aT 17 (aa [eO 18 1 4 7,aY 19 4 18,bB 4 4 19,a8 5 true] .ret) .skip)))) (.region [aV 20 .add 10 1,I 10 20])))) (aa [iq 21 dH [],bB 4 4 21,a8 5 false] .ret)))
@[simp] def OD:List bO:=[.cell 4 true 4,.tmp 5]
def SH:C:=(aa [cC 2 0,bS 4 0] (aa [bS 5 1] (.seq (aa [aE 8 3 1 2,av 9 1 8,ca 10 9,bS 11 0] (e0 12 11 10 (.seq (.block 1 (aa [cf 13 4 9 11,aY 14 4 13,c1 7 dH,bB 4 7 14] (.seq (aa [I 15 5,I 16 1,bk 17 .gtr 15 16] (aT 17 (aa [I 18 5,I 4 18] .ret) .skip)) (.region [I 19 5,aY 20 4 7,I 21 1,I 22 5,bk 23 .sub 21 22,b2 24 162 20 23,bk 25 .add 19 24,I 5 25])))) (.region [aV 26 .add 11 1,I 11 26])))) (aa [I 27 5,I 4 27] .ret))))
@[simp] def OA:List bO:=[.tmp 4]
def mv:C:=(aa [cC 1 0,a8 2 false] (.seq (aa [aE 3 0 1 1,av 4 1 3,aV 5 .neq 4 1,I 6 5,aq 6 true (aE 7 0 1 1),aq 6 true (av 8 1 7),aq 6 true (aV 9 .neq 8 3),dL 10 6 9,I 11 10,aq 11 true (aE 12 1 1 1),aq 11 true (av 13 1 12),aq 11 true (aV 14 .neq 13 0),dL 15 11 14,I 16 15,aq 16 false (aE 17 0 1 1),aq 16 false (av 18 1 17),aq 16 false (aV 19 .neq 18 2),cb 16 false 20 19,aq 20 true (aE 21 2 1 1),aq 20 true (av 22 1 21),xZ 20 true 23 (.bin .neq false (.t 22) (.c (.str []))),aq 16 false (dL 24 20 23),cW 25 16 24,I 26 25,aq 26 false (aE 27 0 1 1),aq 26 false (av 28 1 27),aq 26 false (aV 29 .neq 28 4),cb 26 false 30 29,aq 30 true (aE 31 3 1 1),aq 30 true (av 32 1 31),aq 30 true (ca 33 32),aq 30 true (aV 34 .gtr 33 0),aq 26 false (dL 35 30 34),cW 36 26 35] (aT 36 (aa [a8 2 false] .ret) .skip)) (.seq (aa [aE 37 0 1 1,av 38 1 37] (.block 0 (aa [aV 40 .eql 38 0,I 39 40] (aT 39 (aa [a8 2 true] .ret) (aa [aV 42 .eql 38 1,I 41 42] (aT 41 (aa [aE 43 1 1 1,av 44 1 43,dn 45 141 [.t 44,(gd 0),(gd 100000)],I 2 45] .ret) (aa [aV 47 .eql 38 2,I 46 47] (aT 46 (aa [aE 48 2 1 1,av 49 1 48,cB 50 216 49,I 2 50] .ret) (aa [aV 52 .eql 38 3,I 51 52] (aT 51 (aa [aE 53 1 1 1,av 54 1 53,dn 55 141 [.t 54,(gd (-1000000000)),(gd 1000000000)],I 2 55] .ret) (aa [aV 57 .eql 38 4,I 56 57] (aT 56 (aa [aE 58 3 1 1,av 59 1 58,ca 60 59,aV 61 .eql 60 2,I 62 61,aq 62 true (aE 63 3 1 1),aq 62 true (av 64 1 63),aq 62 true (jb 65 4 64 0),aq 62 true (aY 66 4 65),aq 62 true (cB 67 163 66),dL 68 62 67,I 69 68,aq 69 true (aE 70 3 1 1),aq 69 true (av 71 1 70),aq 69 true (jb 72 4 71 1),aq 69 true (aY 73 4 72),aq 69 true (cB 74 163 73),dL 75 69 74,I 2 75] .ret) .skip)))))))))))) (aa [a8 2 false] .ret))))
@[simp] def ml:List bO:=[.tmp 2]
def SV:C:=(aa [a8 2 false] (.seq (aa [I 5 0,ca 6 5,bS 7 0] (e0 8 7 6 (.seq (.block 1 (aa [I 9 7,cf 10 5 5 7,aY 11 5 10,c1 4 jF,I 3 9,bB 5 4 11] (.seq (.drawn true 41 [I 12 3,aV 13 .gtr 12 0,I 14 13,cb 14 true 15 0,cb 14 true 16 3,aq 14 true (aV 17 .sub 16 1),aq 14 true (cf 18 5 15 17),aq 14 true (aE 19 0 1 18),aq 14 true (av 20 1 19),aq 14 true (aE 21 0 1 4),aq 14 true (av 22 1 21),aq 14 true (bk 23 .geq 20 22),dL 24 14 23,I 25 24,aq 25 false (aE 26 0 1 4),aq 25 false (av 27 1 26),aq 25 false (dn 28 141 [.t 27,(gd 0),(gd 100000)]),aq 25 false (cj 29 28),cW 30 25 29,I 31 30,aq 31 false (eO 32 1 4 4),aq 31 false (aY 33 4 32),aq 31 false (cB 34 76 33),aq 31 false (cj 35 34),cW 36 31 35]) (aT 36 (aa [a8 2 false] .ret) .skip)))) (.region [aV 37 .add 7 1,I 7 37])))) (aa [I 38 0,ca 39 38,aV 40 .leq 39 400,I 2 40] .ret)))
@[simp] def OF:List bO:=[.tmp 2]
def Am:C:=(aa [cC 2 0,er 4 1] (.seq (aa [aE 7 0 1 2,av 8 1 7,aV 9 .eql 8 1] (aT 9 (aa [I 10 1,aE 11 1 1 2,av 12 1 11,b2 13 230 10 12,I 4 13] .ret) .skip)) (.seq (aa [aE 14 3 1 2,av 15 1 14,ca 16 15,bS 17 0] (e0 18 17 16 (.seq (.block 1 (aa [cf 19 4 15 17,aY 20 4 19,c1 6 dH,bB 4 6 20] (.region [aY 21 4 6,I 22 1,b2 23 165 21 22,I 1 23]))) (.region [aV 24 .add 17 1,I 17 24])))) (aa [I 25 1,I 4 25] .ret))))
@[simp] def B4:List bO:=[.tmp 4]
def SQ:C:=(aa [cC 3 1,c1 4 dH,a8 5 false] (aa [I 7 0,aY 8 4 3,b2 9 75 7 8,c1 6 dH,bB 4 6 9] (.seq (.drawn true 13 [aY 10 4 6,aY 11 4 6,cB 12 92 11,bB 4 4 10,I 5 12]) .ret)))
@[simp] def YW:List bO:=[.cell 4 true 4,.tmp 5]
def tx:C:=(aa [cC 4 1,cC 5 2,er 6 5,a8 7 false] (aa [I 12 0,aY 13 4 4,b2 14 236 12 13,bB 4 4 14] (aa [I 15 0,aY 16 4 5,b2 17 236 15 16,bB 4 5 17] (.seq (aa [aE 18 0 1 4,av 19 1 18,aV 20 .eql 19 1,I 21 20,aq 21 true (aE 22 0 1 5),aq 21 true (av 23 1 22),aq 21 true (aV 24 .eql 23 1),dL 25 21 24,I 26 25,aq 26 true (aE 27 1 1 4),aq 26 true (av 28 1 27),aq 26 true (aE 29 1 1 5),aq 26 true (av 30 1 29),aq 26 true (bk 31 .lss 28 30),dL 32 26 31] (aT 32 (aa [I 33 0,aE 34 1 1 5,av 35 1 34,aY 36 4 4,dn 37 237 [.t 33,.t 35,.t 36],cr 38 0 37,cr 39 1 37,I 6 38,I 7 39] .ret) .skip)) (.seq (aa [aE 40 0 1 4,av 41 1 40,aV 42 .eql 41 1,I 43 42,aq 43 true (aE 44 0 1 5),aq 43 true (av 45 1 44),aq 43 true (aV 46 .eql 45 1),dL 47 43 46,I 48 47,aq 48 true (aE 49 1 1 4),aq 48 true (av 50 1 49),aq 48 true (aE 51 1 1 5),aq 48 true (av 52 1 51),aq 48 true (bk 53 .eql 50 52),dL 54 48 53] (aT 54 (aa [I 55 0,I 6 55,a8 7 true] .ret) .skip)) (.seq (aa [aE 56 0 1 4,av 57 1 56,aV 58 .eql 57 1] (aT 58 (aa [I 59 0,aE 60 1 1 4,av 61 1 60,aY 62 4 5,dn 63 237 [.t 59,.t 61,.t 62],cr 64 0 63,cr 65 1 63,I 6 64,I 7 65] .ret) .skip)) (.seq (aa [aE 66 0 1 5,av 67 1 66,aV 68 .eql 67 1] (aT 68 (aa [I 69 0,aE 70 1 1 5,av 71 1 70,aY 72 4 4,dn 73 237 [.t 69,.t 71,.t 72],cr 74 0 73,cr 75 1 73,I 6 74,I 7 75] .ret) .skip)) (.seq (aa [aE 76 0 1 4,av 77 1 76,aE 78 0 1 5,av 79 1 78,bk 80 .neq 77 79,I 81 80,aq 81 false (aE 82 1 1 4),aq 81 false (av 83 1 82),aq 81 false (aE 84 1 1 5),aq 81 false (av 85 1 84),aq 81 false (bk 86 .neq 83 85),cW 87 81 86,I 88 87,aq 88 false (aE 89 2 1 4),aq 88 false (av 90 1 89),aq 88 false (aE 91 2 1 5),aq 88 false (av 92 1 91),aq 88 false (bk 93 .neq 90 92),cW 94 88 93] (aT 94 (aa [er 6 5,a8 7 false] .ret) .skip)) (.seq (aa [aE 95 3 1 4,av 96 1 95,ca 97 96,bS 98 0] (e0 99 98 97 (.seq (.block 1 (aa [I 100 98,cf 101 4 96 98,aY 102 4 101,c1 9 dH,I 8 100,bB 4 9 102] (.seq (.drawn true 119 [I 104 0,aY 105 4 9,aE 106 3 1 5,av 107 1 106,I 108 8,cf 109 4 107 108,aY 110 4 109,dn 111 176 [.t 104,.t 105,.t 110],I 103 111,cr 112 0 103,cr 113 1 103,I 10 112,I 11 113]) (.seq (aa [I 114 11,cj 115 114] (aT 115 (aa [er 6 5,a8 7 false] .ret) .skip)) (.region [I 116 10,I 0 116]))))) (.region [aV 117 .add 98 1,I 98 117])))) (aa [I 118 0,I 6 118,a8 7 true] .ret))))))))))
@[simp] def sZ:List bO:=[.tmp 6,.tmp 7]
def Sz:C:=(aa [a8 2 false] (.seq (aa [bS 3 0] (.block 0 (.loop (.seq (aa [I 5 3,I 6 0,b5 7 (.slen (.t 6)),bk 8 .lss 5 7] (aT 8 .skip (.exit 0))) (.seq (.block 1 (aa [I 11 0,I 12 3,b5 13 (.sidx (.t 11) (.t 12)),b5 14 (.bin .geq false (.t 13) (.c (.int .u8 97))),I 15 14,cb 15 true 16 0,cb 15 true 17 3,aq 15 true (b5 18 (.sidx (.t 16) (.t 17))),aq 15 true (b5 19 (.bin .leq false (.t 18) (.c (.int .u8 122)))),dL 20 15 19,I 4 20] (aa [I 21 4,cj 22 21,I 23 22,cb 23 true 24 3,aq 23 true (aV 25 .eql 24 0),cb 23 true 26 25,cb 26 false 27 0,cb 26 false 28 3,aq 26 false (b5 29 (.sidx (.t 27) (.t 28))),aq 26 false (b5 30 (.bin .neq false (.t 29) (.c (.int .u8 45)))),cb 26 false 31 30,cb 31 true 32 0,cb 31 true 33 3,aq 31 true (b5 34 (.sidx (.t 32) (.t 33))),aq 31 true (b5 35 (.conv .i64 (.t 34))),aq 31 true (dn 36 141 [.t 35,(gd 48),(gd 57)]),aq 31 true (cj 37 36),aq 26 false (dL 38 31 37),aq 23 true (cW 39 26 38),dL 40 23 39] (aT 40 (aa [a8 2 false] .ret) .skip)))) (.region [I 9 3,aV 10 .add 9 1,I 3 10])))))) (aa [I 41 0,b5 42 (.slen (.t 41)),dn 43 141 [.t 42,(gd 1),(gd 12)],I 2 43] .ret)))
@[simp] def B1:List bO:=[.tmp 2]
def SY:C:=(aa [er 4 5,a8 5 false] (aa [eI 10 4 32 [],I 6 10] (aa [eI 11 4 32 [],I 7 11] (.seq (aa [I 12 1,ca 13 12,bS 14 0] (e0 15 14 13 (.seq (.block 1 (aa [cf 16 5 12 14,aY 17 5 16,c1 9 jF,bB 5 9 17] (aa [I 18 6,aE 19 0 1 9,av 20 1 19,cB 21 91 20,eI 22 4 32 [.t 21],h6 23 4 32 18 22,I 6 23] (.region [I 24 7,eO 25 1 4 9,aY 26 4 25,eI 27 4 32 [.t 26],h6 28 4 32 24 27,I 7 28])))) (.region [aV 29 .add 14 1,I 14 29])))) (aa [I 30 0,I 31 6,I 32 7,dn 33 268 [.t 30,.t 31,.t 32],cr 34 0 33,cr 35 1 33,I 4 34,I 5 35] .ret)))))
@[simp] def YX:List bO:=[.tmp 4,.tmp 5]
def SK:C:=(aa [er 4 1] (aa [I 7 0,ca 8 7,I 5 8] (.seq (.block 0 (.loop (.seq (aa [I 9 5,aV 10 .gtr 9 0,I 11 10,cb 11 true 12 0,cb 11 true 13 5,aq 11 true (aV 14 .sub 13 1),aq 11 true (cf 15 1 12 14),aq 11 true (av 16 1 15),cb 11 true 17 1,aq 11 true (bk 18 .geq 16 17),dL 19 11 18] (aT 19 .skip (.exit 0))) (.block 1 (.region [I 20 5,aV 21 .sub 20 1,I 5 21]))))) (.seq (aa [I 22 5,I 23 0,ca 24 23,bk 25 .lss 22 24,I 26 25,cb 26 true 27 0,cb 26 true 28 5,aq 26 true (cf 29 1 27 28),aq 26 true (av 30 1 29),cb 26 true 31 1,aq 26 true (bk 32 .eql 30 31),dL 33 26 32] (aT 33 (aa [I 34 0,I 4 34] .ret) .skip)) (aa [eI 35 1 3 [],I 36 0,I 37 5,b5 38 (.lsl 1 (.t 36) none (some (.t 37))),h6 39 1 3 35 38,I 6 39] (aa [I 40 6,I 41 1,eI 42 1 3 [.t 41],h6 43 1 3 40 42,I 6 43] (aa [I 44 6,I 45 0,I 46 5,b5 47 (.lsl 1 (.t 45) (some (.t 46)) none),h6 48 1 3 44 47,I 4 48] .ret)))))))
@[simp] def zx:List bO:=[.tmp 4]
def SU:C:=(aa [cC 3 1,er 4 5] (aa [I 7 0,ca 8 7,I 5 8] (.seq (.block 0 (.loop (.seq (.seq (.drawn true 38 [I 9 5,aV 10 .gtr 9 0,I 11 10,cb 11 true 12 0,cb 11 true 13 5,aq 11 true (aV 14 .sub 13 1),aq 11 true (cf 15 5 12 14),aq 11 true (aE 16 0 1 15),aq 11 true (av 17 1 16),aq 11 true (aE 18 0 1 3),aq 11 true (av 19 1 18),aq 11 true (bk 20 .gtr 17 19),dL 21 11 20]) (aT 21 .skip (.exit 0))) (.block 1 (.region [I 22 5,aV 23 .sub 22 1,I 5 23]))))) (aa [eI 24 5 61 [],I 25 0,I 26 5,b5 27 (.lsl 5 (.t 25) none (some (.t 26))),h6 28 5 61 24 27,I 6 28] (aa [I 29 6,aY 30 5 3,eI 31 5 61 [.t 30],h6 32 5 61 29 31,I 6 32] (aa [I 33 6,I 34 0,I 35 5,b5 36 (.lsl 5 (.t 34) (some (.t 35)) none),h6 37 5 61 33 36,I 4 37] .ret))))))
@[simp] def OE:List bO:=[.tmp 4]
def F6:C:=(aa [cC 3 1,c1 4 dH] (.seq (aa [aE 7 0 1 3,av 8 1 7,aV 9 .eql 8 1] (aT 9 (aa [I 11 0,aE 12 1 1 3,av 13 1 12,b2 14 161 11 13,I 10 14,cr 15 0 10,cr 16 1 10,c1 5 dH,bB 4 5 15,I 6 16] (aa [I 17 6] (aT 17 (aa [aY 18 4 5,bB 4 4 18] .ret) .skip))) .skip)) (aa [aY 19 4 3,bB 4 4 19] .ret)))
@[simp] def Iu:List bO:=[.cell 4 true 4]
def CR:C:=(aa [cC 5 2,er 6 5,a8 7 false] (aa [I 15 0,aY 16 4 5,b2 17 166 15 16,I 14 17,cr 18 0 14,cr 19 1 14,c1 8 dH,bB 4 8 18,I 9 19] (.seq (aa [I 20 9,cj 21 20,I 22 21,cb 22 false 23 1,aq 22 false (aY 24 4 8),aq 22 false (b2 25 270 23 24),cW 26 22 25,I 27 26,cb 27 false 28 0,aq 27 false (ca 29 28),aq 27 false (aV 30 .geq 29 400),cW 31 27 30] (aT 31 (aa [er 6 5,a8 7 false] .ret) .skip)) (aa [eI 32 5 61 [],I 10 32] (.seq (aa [I 33 0,ca 34 33,bS 35 0] (e0 36 35 34 (.seq (.block 1 (aa [cf 37 5 33 35,aY 38 5 37,c1 12 jF,bB 5 12 38] (aa [eO 39 1 4 12,aY 40 4 39,I 41 1,aY 42 4 8,dn 43 271 [.t 40,.t 41,.t 42],c1 13 dH,bB 4 13 43] (.seq (aa [aY 44 4 13,cB 45 92 44,cj 46 45] (aT 46 (aa [er 6 5,a8 7 false] .ret) .skip)) (.region [I 47 10,aE 48 0 1 12,av 49 1 48,aY 50 4 13,iq 51 jF [(0,1,(.t 49)),(1,4,(.t 50))],eI 52 5 61 [.t 51],h6 53 5 61 47 52,I 10 53]))))) (.region [aV 54 .add 35 1,I 35 54])))) (aa [I 55 10,I 56 1,aY 57 4 8,iq 58 jF [(0,1,(.t 56)),(1,4,(.t 57))],b2 59 234 55 58,I 6 59,a8 7 true] .ret))))))
@[simp] def B5:List bO:=[.tmp 6,.tmp 7]
def SX:C:=(aa [er 6 5,a8 7 false] (.seq (aa [I 12 1,ca 13 12,bS 14 0] (e0 15 14 13 (.seq (.block 1 (aa [I 16 14,cf 17 4 12 14,aY 18 4 17,c1 9 dH,I 8 16,bB 4 9 18] (.seq (.drawn true 34 [I 20 0,aY 21 4 9,I 22 2,I 23 8,cf 24 4 22 23,aY 25 4 24,dn 26 176 [.t 20,.t 21,.t 25],I 19 26,cr 27 0 19,cr 28 1 19,I 10 27,I 11 28]) (.seq (aa [I 29 11,cj 30 29] (aT 30 (aa [er 6 5,a8 7 false] .ret) .skip)) (.region [I 31 10,I 0 31]))))) (.region [aV 32 .add 14 1,I 14 32])))) (aa [I 33 0,I 6 33,a8 7 true] .ret)))
@[simp] def OG:List bO:=[.tmp 6,.tmp 7]
def SL:C:=(aa [cC 3 1,a8 4 false] (.seq (aa [aE 7 3 1 3,av 8 1 7,ca 9 8,bS 10 0] (e0 11 10 9 (.seq (.block 1 (aa [cf 12 4 8 10,aY 13 4 12,c1 6 dH,bB 4 6 13] (aa [I 14 0,aY 15 4 6,b2 16 270 14 15] (aT 16 (aa [a8 4 true] .ret) .skip)))) (.region [aV 17 .add 10 1,I 10 17])))) (aa [aE 18 0 1 3,av 19 1 18,aV 20 .eql 19 1,I 21 20,aq 21 true (aE 22 1 1 3),aq 21 true (av 23 1 22),cb 21 true 24 0,aq 21 true (bk 25 .eql 23 24),dL 26 21 25,I 4 26] .ret)))
@[simp] def OC:List bO:=[.tmp 4]
def F4:C:=(aa [cC 3 0,cC 5 2,c1 6 dH] (.seq (aa [aE 7 0 1 3,av 8 1 7,aV 9 .eql 8 1,I 10 9,aq 10 true (aE 11 1 1 3),aq 10 true (av 12 1 11),cb 10 true 13 1,aq 10 true (bk 14 .eql 12 13),dL 15 10 14] (aT 15 (aa [aY 16 4 5,bB 4 6 16] .ret) .skip)) (.seq (aa [aE 17 0 1 3,av 18 1 17,aV 19 .eql 18 4] (aT 19 (.seq (.drawn true 36 [aE 20 3 1 3,av 21 1 20,jb 22 4 21 0,aY 23 4 22,I 24 1,aY 25 4 5,dn 26 271 [.t 23,.t 24,.t 25],aE 27 3 1 3,av 28 1 27,jb 29 4 28 1,aY 30 4 29,I 31 1,aY 32 4 5,dn 33 271 [.t 30,.t 31,.t 32],b2 34 114 26 33,bB 4 6 34]) .ret) .skip)) (aa [aY 35 4 3,bB 4 6 35] .ret))))
@[simp] def Is:List bO:=[.cell 6 true 4]
def lq:List (Nat×dN):=[
 (3,⟨1,8,.int .i64,.int .i64 0⟩),
 (5,⟨1,1,.int .u8,.int .u8 0⟩),
 (9,⟨1,16,.str,.str []⟩),
 (23,⟨1,24,.slice 61,.slice 5 .nil []⟩),
 (30,⟨1,24,.slice 32,.slice 4 .nil []⟩),
 (32,⟨4,56,.struct [(0,3),(1,3),(2,9),(3,30)],.agg [.int .i64 0,.int .i64 0,.str [],.slice 4 .nil []]⟩),
 (61,⟨5,64,.struct [(0,3),(1,32)],.agg [.int .i64 0,.int .i64 0,.int .i64 0,.str [],.slice 4 .nil []]⟩),
 (112,⟨1,24,.slice 3,.slice 1 .nil []⟩)]
theorem eX:fY al lq=true:=by kernel_rfl
theorem NX:bZ lq F5 It 2 Tryz.f75=true:=by kernel_rfl
theorem K8:al.funcs[(75:Nat)]? =some Tryz.f75:=Tryz.func75
theorem amS:bZ lq SE aoC 1 Tryz.f76=true:=by kernel_rfl
theorem afR:al.funcs[(76:Nat)]? =some Tryz.f76:=Tryz.func76
theorem amW:bZ lq SI YS 1 Tryz.f92=true:=by kernel_rfl
theorem afV:al.funcs[(92:Nat)]? =some Tryz.f92:=Tryz.func92
theorem amT:bZ lq SF YR 3 Tryz.f141=true:=by kernel_rfl
theorem afS:al.funcs[(141:Nat)]? =some Tryz.f141:=Tryz.func141
theorem XU:bZ lq Ks Oz 1 Tryz.f142=true:=by kernel_rfl
theorem T4:al.funcs[(142:Nat)]? =some Tryz.f142:=Tryz.func142
theorem am5:bZ lq SR OD 2 Tryz.f161=true:=by kernel_rfl
theorem af4:al.funcs[(161:Nat)]? =some Tryz.f161:=Tryz.func161
theorem amV:bZ lq SH OA 2 Tryz.f162=true:=by kernel_rfl
theorem afU:al.funcs[(162:Nat)]? =some Tryz.f162:=Tryz.func162
theorem nq:bZ lq mv ml 1 Tryz.f163=true:=by kernel_rfl
theorem mT:al.funcs[(163:Nat)]? =some Tryz.f163:=Tryz.func163
theorem am7:bZ lq SV OF 1 Tryz.f164=true:=by kernel_rfl
theorem af6:al.funcs[(164:Nat)]? =some Tryz.f164:=Tryz.func164
theorem Ep:bZ lq Am B4 2 Tryz.f165=true:=by kernel_rfl
theorem C1:al.funcs[(165:Nat)]? =some Tryz.f165:=Tryz.func165
theorem am4:bZ lq SQ YW 2 Tryz.f166=true:=by kernel_rfl
theorem af3:al.funcs[(166:Nat)]? =some Tryz.f166:=Tryz.func166
theorem vO:bZ lq tx sZ 3 Tryz.f176=true:=by kernel_rfl
theorem va:al.funcs[(176:Nat)]? =some Tryz.f176:=Tryz.func176
theorem amN:bZ lq Sz B1 1 Tryz.f216=true:=by kernel_rfl
theorem afM:al.funcs[(216:Nat)]? =some Tryz.f216:=Tryz.func216
theorem am9:bZ lq SY YX 2 Tryz.f219=true:=by kernel_rfl
theorem af8:al.funcs[(219:Nat)]? =some Tryz.f219:=Tryz.func219
theorem amY:bZ lq SK zx 2 Tryz.f230=true:=by kernel_rfl
theorem afX:al.funcs[(230:Nat)]? =some Tryz.f230:=Tryz.func230
theorem am6:bZ lq SU OE 2 Tryz.f234=true:=by kernel_rfl
theorem af5:al.funcs[(234:Nat)]? =some Tryz.f234:=Tryz.func234
theorem NY:bZ lq F6 Iu 2 Tryz.f236=true:=by kernel_rfl
theorem K9:al.funcs[(236:Nat)]? =some Tryz.f236:=Tryz.func236
theorem H2:bZ lq CR B5 3 Tryz.f237=true:=by kernel_rfl
theorem Gp:al.funcs[(237:Nat)]? =some Tryz.f237:=Tryz.func237
theorem am8:bZ lq SX OG 3 Tryz.f268=true:=by kernel_rfl
theorem af7:al.funcs[(268:Nat)]? =some Tryz.f268:=Tryz.func268
theorem amZ:bZ lq SL OC 2 Tryz.f270=true:=by kernel_rfl
theorem afY:al.funcs[(270:Nat)]? =some Tryz.f270:=Tryz.func270
theorem NW:bZ lq F4 Is 3 Tryz.f271=true:=by kernel_rfl
theorem K7:al.funcs[(271:Nat)]? =some Tryz.f271:=Tryz.func271
mutual
def lW:bL->Int->Int
 | .mk _ _ _ args,m=>pa args 1 m
def pa:List bL->Int->Int->Int
 |[],n,_=>n
 |x::xs,n,m=>if m<n then n else pa xs (n+lW x (m-n)) m
end
mutual
theorem Kz:∀(t:bL) (m:Int),0<=m->1<=lW t m/\lW t m<=m+1
 | .mk _ _ _ args,m,h=>by simp only[lW];exact To args 1 m h Ω Ω
theorem To:∀(l:List bL) (n m:Int),0<=m->1<=n->n<=m+1->1<=pa l n m/\pa l n m<=m+1
 |[],n,m,_,J,U=>by simp only[pa];exact⟨J,U⟩
 |x::xs,n,m,br,J,U=>by
  simp only[pa];split
  ·exact⟨J,U⟩
  ·have:=Kz x (m-n) Ω;exact To xs _ m br Ω Ω
end
theorem Gc:∀(t:T) (m:Int),0<=m->(lW t.tm m<=m↔(t.size:Int)<=m)/\((t.size:Int)<=m->lW t.tm m=t.size)
 | .pair a b,m,h=>by
  have bD:=T.size_pos a;have af:=T.size_pos b;simp only[T.tm,lW,pa,T.size];by_cases J:m<1
  ·rw[if_pos J];exact⟨Ω,fun h=>Ω⟩
  ·rw[if_neg J];obtain⟨bH,a2⟩:=Gc a (m-1) Ω;have a3:=Kz a.tm (m-1) Ω;by_cases U:(a.size:Int)<=m-1
   ·have e:=a2 U;rw[e];by_cases ar:m<1+(a.size:Int)
    ·omega
    ·rw[if_neg ar];obtain⟨bV,b7⟩:=Gc b (m-(1+a.size)) Ω;refine⟨Ω,fun h=>?_⟩;rw[b7 Ω];omega
   ·have:¬lW a.tm (m-1)<=m-1:=fun h=>U (bH.1 h);rw[if_pos Ω];exact⟨Ω,fun h=>Ω⟩
 | .nil,m,h=>by simp[T.tm,lW,pa,T.size]
 | .var _,m,h=>by simp[T.tm,lW,pa,T.size]
 | .sym _,m,h=>by simp[T.tm,lW,pa,T.size]
 | .num _,m,h=>by simp[T.tm,lW,pa,T.size]
theorem ac0(t:bL)(m:Int):lW t m=pa t.args 1 m:=by cases t;rfl
theorem aav(t:bL):∀m:Int,0<=m->m<=1000000->bC al 162 [enc t,.int .i64 m] (.int .i64 (lW t m)):=by
 suffices H:∀(k:Nat) (t:bL),t.sz<=k->∀m:Int,0<=m->m<=1000000->bC al 162 [enc t,.int .i64 m] (.int .i64 (lW t m))from H _ t (fc _)
 intro k;induction k with
 |zero=>intro t aJ;cases t;simp[bL.sz]at aJ
 |succ k bR=>
  intro t aJ m br J;refine bc eX afU amV fun aM=>?_;unfold SH;have ev:t.args.length<=68719476736:=by rw[Aw]at aM;simp[eA,eo,et,lim]at aM;omega
  simp;refine dO [1,9,10] (fun i (n:Int)=>[(5,.int .i64 n),(11,.int .i64 i)]) t.args.length (fun i n=>(1<=n/\n<=m+1)/\pa (t.args.drop i) n m=lW t m) 1 bT ⟨Ω,by simp[ac0]⟩ (fun n ae _=>?_) (fun i n hi ae _=>?_)
  ·simp;(with_reducible repeat' first|refine ai ?_|simp);simp[bq,OA,aX,aZ,aW];have:=ae.2;simp[pa]at this;exact this
  ·obtain⟨⟨po,vu⟩,ae⟩:=ae;obtain⟨x,ab,cG⟩:=eh hi;have aR:t.args.drop i=x::t.args.drop (i+1):=by rw[lR hi,cG]
   have eC:x.sz<=k:=by have:=Pq (dV ab);omega
   rw[aR]at ae;simp only[pa]at ae;simp[hi,cG];by_cases af:m<n
   ·rw[if_pos af]at ae;(with_reducible repeat' first|refine ai ?_|simp[af]);simp[bq,OA,aX,aZ,aW];exact ae
   ·rw[if_neg af]at ae;have aw:=Kz x (m-n) Ω;((with_reducible repeat' first|refine ai ?_|refine az (bR x eC (m-n) Ω Ω) ?_|refine aA (bR x eC (m-n) Ω Ω) ?_|simp[af]|((first|apply bU|apply bY|apply bX)<;>intro h<;>try simp at h))<;>(try exact cz));exact bK.rng (n+lW x (m-n)) hi ⟨Ω,ae⟩ bT
theorem xU(t:T):bC al 92 [t.e] (.bool (decide (t.size<=5000))):=by
 have aw:=(Gc t 5000 Ω).1;have key:=aav t.tm 5000 Ω Ω;rw[r5]at key;refine bc eX afV amW fun aM=>?_;unfold SI;simp;(with_reducible repeat' first|refine ai ?_|refine az key ?_|refine aA key ?_|simp);simp[bq,YS,aX,aZ,aW];have:(lW t.tm 5000<=5000)=(t.size<=5000):=by rw[aw];simp;omega
 simp[this]
def ajw(l:List ao)(v:Int)(k:Nat)(st:bu):Prop:=∃i:Nat,i<=l.length/\k=l.length-i/\cS l v=cS (l.drop i) v/\st=⟨[(1,.int .i64 v),(4,.ptr (.loc 0) 0),(8,.slice 5 .no (l.map ao.e)),(9,.int .i64 l.length),(10,.int .i64 i)],[(.loc 0,[.int .i64 0,.int .i64 0,.str [],.slice 4 .nil []])],[],1,[]⟩
theorem uF(l:List ao)(v:Int)(au:l.length<=1000000):bC al 161 [.slice 5 .no (l.map ao.e),.int .i64 v] (.tuple [((cS l v).getD .nil).e,.bool (cS l v).isSome]):=by
 refine bc eX af4 am5 fun aM=>?_;unfold SR;simp;refine tD (ajw l v) l.length _ bT ⟨0,Ω,rfl,Ψ,rfl⟩ ?_;rintro k st ⟨i,hi,ad,a7,rfl⟩ p9 cR;clear p9 cR;by_cases bE:i<l.length
 ·obtain⟨b,af⟩:∃b,l[i]? =some b:=⟨_,b6 bE⟩;have U4:l.drop i=b::l.drop (i+1):=by rw[lR bE];rw[b6 bE]at af;simp at af;rw[af]
  have cD:∀h,l[i]'h=b:=fun h=>by rw[b6 h]at af;simpa using af
  simp[cD,bE];(with_reducible repeat' first|((first|apply bU|apply bY|apply bX)<;>intro h<;>try simp at h)|refine ai ?_|simp[cD])
  ·have:cS l v=some b.t:=by rw[a7,U4];simp[cS,h]
   simp[bq,OD,aX,aZ,aW];simp[this]
  ·refine bK.next (l.length-(i+1)) Ω ⟨i+1,Ω,rfl,?_,rfl⟩ bT;rw[a7,U4];simp[cS,h]
 ·have:cS l v=none:=by rw[a7,List.drop_of_length_le Ω];simp[cS]
  simp[bE];(with_reducible repeat' first|((first|apply bU|apply bY|apply bX)<;>intro h<;>try simp at h)|refine ai ?_|simp);simp[bq,OD,aX,aZ,aW];simp[this]
theorem aqR(l:List ao)(au:l.length<=1000000)(t:T):bC al 75 [.slice 5 .no (l.map ao.e),t.e] (t.sub (cS l)).e:=by
 induction t with
 |pair a b dG dK=>
  refine bc eX K8 NX fun aM=>?_;unfold F5;simp;(with_reducible repeat' first|refine ai ?_|refine az dG ?_|refine aA dG ?_|refine az dK ?_|refine aA dK ?_|refine az (Jk _ _) ?_|refine aA (Jk _ _) ?_|simp);all_goals simp[bq,It,aX,aZ,aW]
  all_goals simp[T.sub]
 |var n=>
  refine bc eX K8 NX fun aM=>?_;unfold F5;simp;((with_reducible repeat' first|refine ai ?_|refine az (uF l n au) ?_|refine aA (uF l n au) ?_|simp|((first|apply bU|apply bY|apply bX)<;>intro h<;>try simp at h))<;>(try exact cz));all_goals simp[bq,It,aX,aZ,aW]
  all_goals cases af:cS l n<;>simp_all[T.sub]
 |_=>
  refine bc eX K8 NX fun aM=>?_;unfold F5;simp;(with_reducible repeat' first|refine ai ?_|simp);all_goals simp[bq,It,aX,aZ,aW]
  all_goals simp[T.sub]
theorem Cq(l:List ao)(au:l.length<=1000000)(t:T):bC al 75 [.slice 5 .no (l.map ao.e),t.e] (t.ap (bp l)).e:=by have:=aqR l au t;rw[ZJ]at this;exact this
theorem Ff(l:List ao)(au:l.length<=1000000)(t:T):bC al 166 [.slice 5 .no (l.map ao.e),t.e] (.tuple [(t.ap (bp l)).e,.bool (decide ((t.ap (bp l)).size<=5000))]):=by refine bc eX af3 am4 fun aM=>?_;unfold SQ;simp;(with_reducible repeat' first|refine ai ?_|refine az (Cq l au t) ?_|refine aA (Cq l au t) ?_|refine az (xU _) ?_|refine aA (xU _) ?_|simp);simp[bq,YW,aX,aZ,aW]
def xt(v:Int)(l:List T):Bool:=l.any (T.occ v)
theorem XD(v:Int)(t:T):t.occ v=(xt v t.args||(t.kind==1&&t.int==v)):=by cases t<;>simp[T.occ,xt]
theorem xV(v:Int)(t:T):bC al 270 [.int .i64 v,t.e] (.bool (t.occ v)):=by
 suffices H:∀(k:Nat) (t:T),t.size<=k->bC al 270 [.int .i64 v,t.e] (.bool (t.occ v))from H _ t (fc _)
 intro k;induction k with
 |zero=>intro t aJ;have:=T.size_pos t;omega
 |succ k bR=>
  intro t aJ;have sp:t.args.length<=2:=by cases t<;>simp
  refine bc eX afY amZ fun aM=>?_;unfold SL;simp;refine dO [0,3,8,9] (fun i (_:Unit)=>[(10,.int .i64 i)]) t.args.length (fun i _=>xt v (t.args.drop i)=xt v t.args) () bT Ψ (fun _ ae _=>?_) (fun i _ hi ae _=>?_)
  ·have br:xt v t.args=false:=by rw[<-ae];simp[xt]
   rw[XD,br];simp;((with_reducible repeat' first|refine ai ?_|simp|((first|apply bU|apply bY|apply bX)<;>intro h<;>try simp at h))<;>(try exact cz));all_goals simp[bq,OC,aX,aZ,aW]
   all_goals simp_all
  ·obtain⟨x,ab,cG⟩:=eh hi;have aR:t.args.drop i=x::t.args.drop (i+1):=by rw[lR hi,cG]
   have eC:x.size<=k:=by have hm:=dV ab;have:=T.size_pos x;cases t<;>simp at hm;rcases hm with rfl|rfl<;>simp[T.size]at aJ<;>omega
   simp only[aR,xt,List.any_cons]at ae;simp[hi,cG];cases ay:x.occ v with
   |true=>
    rw[ay]at ae;simp at ae;have br:t.occ v=true:=by rw[XD];simp[xt];left;simpa using ae
    (with_reducible repeat' first|refine ai ?_|refine az (bR x eC) ?_|refine aA (bR x eC) ?_|simp[ay]);simp[bq,OC,aX,aZ,aW];simp[br]
   |false=>rw[ay]at ae;have WO:=bR x eC;exact hE
theorem Jl(v:Int)(x t:T):bC al 271 [t.e,.int .i64 v,x.e] (t.ap (Go.Pv.one v x)).e:=by
 induction t with
 |pair a b dG dK=>
  refine bc eX K7 NW fun aM=>?_;unfold F4;simp;(with_reducible repeat' first|refine ai ?_|refine az dG ?_|refine aA dG ?_|refine az dK ?_|refine aA dK ?_|refine az (Jk _ _) ?_|refine aA (Jk _ _) ?_|simp);all_goals simp[bq,Is,aX,aZ,aW]
  all_goals simp[T.ap]
 |var n=>
  refine bc eX K7 NW fun aM=>?_;unfold F4;simp;((with_reducible repeat' first|refine ai ?_|simp|((first|apply bU|apply bY|apply bX)<;>intro h<;>try simp at h))<;>(try exact cz));all_goals simp[bq,Is,aX,aZ,aW]
  all_goals simp_all[T.ap,Go.Pv.one]
 |_=>
  refine bc eX K7 NW fun aM=>?_;unfold F4;simp;(with_reducible repeat' first|refine ai ?_|simp);all_goals simp[bq,Is,aX,aZ,aW]
  all_goals simp[T.ap]
theorem Jn(s:List ao)(au:s.length<=1000000)(t:T):bC al 236 [.slice 5 .no (s.map ao.e),t.e] (hH s t).e:=by
 cases t with
 |var n=>
  cases af:cS s n with
  |none=>refine bc eX K9 NY fun aM=>?_;unfold F6;simp;(with_reducible repeat' first|refine ai ?_|refine az (uF s n au) ?_|refine aA (uF s n au) ?_|simp[af]);simp[bq,Iu,aX,aZ,aW];simp[hH,bp,af]
  |some x=>refine bc eX K9 NY fun aM=>?_;unfold F6;simp;(with_reducible repeat' first|refine ai ?_|refine az (uF s n au) ?_|refine aA (uF s n au) ?_|simp[af]);simp[bq,Iu,aX,aZ,aW];simp[hH,bp,af]
 |_=>refine bc eX K9 NY fun aM=>?_;unfold F6;simp;(with_reducible repeat' first|refine ai ?_|simp);simp[bq,Iu,aX,aZ,aW];simp[hH]
theorem V0(b:ao):∀(s:List ao) (k:Nat),(∀i c,i<k->s[i]? =some c->c.v<=b.v)->(∀c,s[k]? =some c->b.v<c.v)->k<=s.length->l9 b s=s.take k++b::s.drop k
 |[],k,_,_,ad=>by simp at ad;subst ad;rfl
 |c::s,0,_,U,_=>by have:=U c rfl;simp[l9,this]
 |c::s,k+1,J,U,ad=>by have:=J 0 c Ω rfl;simp only[l9,if_neg (by omega:¬b.v<c.v),List.take_succ_cons,List.drop_succ_cons,bW];rw[V0 b s k (fun i d hi aR=>J (i+1) d Ω (by simpa using aR)) (fun d aR=>U d (by simpa using aR)) (by simpa using ad)]
theorem aaw(s:List ao)(b:ao)(au:s.length<=1000000)(bD:hg s):bC al 234 [.slice 5 .no (s.map ao.e),b.e] (.slice 5 .no ((l9 b s).map ao.e)):=by
 refine bc eX af5 am6 fun aM=>?_;unfold SU;simp;refine u5 [0,3] (fun(k:Nat)=>[(5,.int .i64 k)]) (fun k=>k) (fun k=>k<=s.length/\∀c,s[k]? =some c->b.v<c.v) s.length bT ⟨Ω,fun c h=>by simp at h⟩ (fun k ae _=>?_);obtain⟨ad,ae⟩:=ae;have wQ:(∀c,0<k->s[k-1]? =some c->c.v<=b.v)->l9 b s=s.take k++b::s.drop k:=fun h=>V0 b s k (fun i c hi aw=>by
  obtain⟨d,aR⟩:∃d,s[k-1]? =some d:=⟨_,b6 Ω⟩;have J:=h d Ω aR;rcases Nat.lt_or_ge i (k-1)with U|U
  ·have tM:=(eV.1 aw);have k9:=(eV.1 aR);have:=qo.1 bD i (k-1) tM.1 k9.1 U;rw[tM.2,k9.2]at this;omega
  ·have:i=k-1:=Ω
   subst this;rw[aR]at aw;cases aw;exact J) ae ad
 rcases Nat.eq_zero_or_pos k with rfl|fG
 ·have e:=wQ fun c h=>Ω
  rw[e];simp;(with_reducible repeat' first|refine ai ?_|simp);simp[bq,OE,aX,aZ,aW];try simp[hY]
 ·obtain⟨d,aR⟩:∃d,s[k-1]? =some d:=⟨_,b6 Ω⟩;have ak:((k:Int)-1).toNat=k-1:=Ω
  have aD:∀h,(s[k-1]'h)=d:=fun h=>by rw[b6 h]at aR;exact ed aR
  have jq:(0:Int)<k:=Ω
  by_cases af:b.v<d.v
  ·simp[fG,jq,ak,aD,af,aR];(with_reducible repeat' first|refine ai ?_|simp[fG,jq,ak,aD,af,aR]);refine bK.whl (k-1) Ω ⟨Ω,fun c aw=>by rw[aR]at aw;cases aw;exact af⟩ ?_;have bh:((k-1:Nat):Int)=(k:Int)-1:=Ω
   simp[bh];exact bT
  ·have e:=wQ fun c _ aw=>by rw[aR]at aw;cases aw;omega
   rw[e];simp[fG,jq,ak,aD,af,aR];(with_reducible repeat' first|refine ai ?_|simp[fG,jq,ak,aD,af,aR]);simp[bq,OE,aX,aZ,aW];have dk:ku s.length (s.map ao.e)=s.map ao.e:=hY Ψ;rw[dk,<-List.map_take,<-List.map_drop,<-gM,<-rT];exact ZF _
def Pd(v:Int)(x:T)(b:ao):ao:=⟨b.v,b.t.ap (Go.Pv.one v x)⟩
def ajH(s:List ao)(v:Int)(x:T)(i:Nat)(out:List ao):Prop:=out=(s.take i).map (Pd v x)/\∀b∈s.take i,(b.t.ap (Go.Pv.one v x)).size<=5000
theorem aqU(s:List ao)(v:Int)(t:T)(au:s.length<=1000000)(bD:hg s):bC al 237 [.slice 5 .no (s.map ao.e),.int .i64 v,t.e] (fR (ox s v t)):=by
 obtain⟨x,ab⟩:∃x,x=t.ap (bp s):=⟨_,rfl⟩;have sq:=Ff s au t;rw[<-ab]at sq;obtain⟨o,ay⟩:∃o,o=ox s v t:=⟨_,rfl⟩;have aji:x.size<=5000->x.occ v=false->s.length<400->(∀b∈s,(b.t.ap (Go.Pv.one v x)).size<=5000)->o=some (mQ s v x):=fun ba bo b3 c9=>by rw[ay,ox,<-ab,if_pos ⟨ba,bo,b3,c9⟩]
 have cU:¬(x.size<=5000/\x.occ v=false/\s.length<400/\∀b∈s,(b.t.ap (Go.Pv.one v x)).size<=5000)->o=none:=fun q=>by rw[ay,ox,<-ab,if_neg q]
 rw[<-ay];clear ay;by_cases J:x.size<=5000;rotate_left
 ·rw[cU fun h=>J h.1];refine bc eX Gp H2 fun aM=>?_;unfold CR;simp;(with_reducible repeat' first|refine ai ?_|refine az sq ?_|refine aA sq ?_|refine az (xV _ _) ?_|refine aA (xV _ _) ?_|simp[J]);simp[bq,B5,aX,aZ,aW];simp[fR]
 cases U:x.occ v with
 |true=>rw[cU fun h=>by rw[U]at h;cases h.2.1];refine bc eX Gp H2 fun aM=>?_;unfold CR;simp;(with_reducible repeat' first|refine ai ?_|refine az sq ?_|refine aA sq ?_|refine az (xV _ _) ?_|refine aA (xV _ _) ?_|simp[J,U]);simp[bq,B5,aX,aZ,aW];simp[fR]
 |false=>
 by_cases ar:s.length<400;rotate_left
 ·rw[cU fun h=>ar h.2.2.1];have tG:(400:Int)<=s.length:=Ω
  refine bc eX Gp H2 fun aM=>?_;unfold CR;simp;(with_reducible repeat' first|refine ai ?_|refine az sq ?_|refine aA sq ?_|refine az (xV _ _) ?_|refine aA (xV _ _) ?_|simp[J,U,tG]);simp[bq,B5,aX,aZ,aW];simp[fR]
 have tG:¬(400:Int)<=s.length:=Ω
 refine bc eX Gp H2 fun aM=>?_;unfold CR;simp;(with_reducible repeat' first|refine ai ?_|refine az sq ?_|refine aA sq ?_|refine az (xV _ _) ?_|refine aA (xV _ _) ?_|simp[J,U,tG]);refine gA (α:=List ao) (fun i out=>⟨[(1,.int .i64 v),(8,.ptr (.loc 1) 0),(33,.slice 5 .no (s.map ao.e)),(34,.int .i64 s.length),(10,.slice 5 (.own (.loc 2)) (out.map ao.e)),(35,.int .i64 i)],[(.loc 1,[.int .i64 x.kind,.int .i64 x.int,.str x.name,.slice 4 .no (x.args.map T.e)])],[(.loc 2,⟨out.length,61,5,none⟩)],3,[]⟩) s.length (ajH s v x) [] bT ⟨Ψ,Ψ⟩ (fun out ae _=>?_) (fun i out hi ae _=>?_)
 ·obtain⟨dj,oC⟩:=ae;rw[hY (fc _)]at dj oC;have ahK:hg out:=by rw[dj,hg,List.pairwise_map];exact bD
  have vw:out.length<=1000000:=by rw[dj];simpa using au
  rw[aji J U ar oC];have key:=aaw out ⟨v,x⟩ vw ahK;simp;(with_reducible repeat' first|refine ai ?_|refine az key ?_|refine aA key ?_|simp);simp[bq,B5,aX,aZ,aW];simp[fR,mQ,dj];rfl
 ·obtain⟨dj,oC⟩:=ae;obtain⟨b,aF,gS⟩:=eh hi;have w4:s.take (i+1)=s.take i++[b]:=by rw[lS,aF];rfl
  have vw:out.length<=1000000:=by rw[dj];simp;omega
  simp[hi,gS];by_cases bz:(b.t.ap (Go.Pv.one v x)).size<=5000
  ·(with_reducible repeat' first|refine ai ?_|refine az (Jl _ _ _) ?_|refine aA (Jl _ _ _) ?_|refine az (xU _) ?_|refine aA (xU _) ?_|simp[gS,hi,bz]);all_goals first|(refine⟨by unfold lim;omega,?_⟩)|skip
   (with_reducible repeat' first|refine ai ?_|simp);refine bK.rng (out++[Pd v x b]) hi ⟨by rw[w4,dj,rT];rfl,fun c aw=>?_⟩ ?_
   ·rw[w4]at aw;rcases kt.1 aw with aw|aw
    ·exact oC c aw
    ·simp at aw;subst aw;exact bz
   ·simp[Pd];exact⟨by simp[fresh,aC,aB,bP,inObs,Pv.look,kl],dD (by simp[fresh,aC,aB,bP,inObs,Pv.look,kl]),dE (by simp[fresh,aC,aB,dt,inObs,Pv.look,kl]),Ψ⟩
  ·rw[cU fun h=>bz (h.2.2.2 b (dV aF))];(with_reducible repeat' first|refine ai ?_|refine az (Jl _ _ _) ?_|refine aA (Jl _ _ _) ?_|refine az (xU _) ?_|refine aA (xU _) ?_|simp[gS,hi,bz]);simp[bq,B5,aX,aZ,aW];simp[fR]
theorem aqe{s:List ao}(ag:fU s)(aK:hR s){n:Nat}{a b:T}{o:Option (List ao)}(h:k1 n s a b=some o):ji s [(a,b)] o:=by obtain⟨n',o',J,U⟩:=Jf ag aK a b;have ak:=Fa (Nat.le_max_left n n') h;have aD:=Fa (Nat.le_max_right n n') J;rw[ak]at aD;cases aD;exact U
def Cm(n:Nat):List (T×T)->List ao->Option (Option (List ao))
 |[],s=>some (some s)
 |e::r,s=>match k1 n s e.1 e.2 with
  |none=>none
  |some none=>some none
  |some (some s1)=>Cm n r s1
def zb(x y:T):Bool:=x.kind==y.kind&&x.int==y.int&&x.name==y.name
theorem aqc(n:Nat)(s:List ao){x y:T}(ab:x.kind≠1)(aL:y.kind≠1):ks (k1 n) s x y=if zb x y then Cm n (x.args.zip y.args) s else some none:=by
 cases x<;>cases y<;>simp[ks,zb,Cm]at ab aL⊢
 ·rename_i a b;split<;>simp_all
 ·rename_i a b;split<;>simp_all
 ·rename_i bH a2 bV b7;cases k1 n s bH bV with
  |none=>rfl
  |some o=>cases o with
   |none=>rfl
   |some s1=>
    simp only
    cases k1 n s1 a2 b7 with
    |none=>rfl
    |some o=>cases o<;>rfl
theorem aj9{x y:T}(h:zb x y=true):x.args.length=y.args.length:=by cases x<;>cases y<;>simp[zb]at h⊢
@[simp]theorem asG(o:Option (List ao)):Ax 0 (fR o)=some (True,.slice 5 .no ((o.getD []).map ao.e)):=rfl
@[simp]theorem asH(o:Option (List ao)):Ax 1 (fR o)=some (True,.bool o.isSome):=rfl
theorem aqX(n:Nat):∀(s:List ao) (a b:T) (o:Option (List ao)),fU s->hR s->k1 n s a b=some o->bC al 176 [.slice 5 .no (s.map ao.e),a.e,b.e] (fR o):=by
 induction n with
 |zero=>intro s a b o _ _ h;simp[k1]at h
 |succ n bR=>
  intro s a b o ag aK he;have au:s.length<=1000000:=by have:=aK.1;omega
  have ej:=Jn s au a;have dp:=Jn s au b;simp only[k1]at he;generalize hH s a=x at he ej;generalize hH s b=y at he dp;have af:=fun v t=>aqU s v t au ag.asc;have rh:∀z:T,¬z.kind=1->(z.kind==1)=false:=fun z h=>by simp[h]
  by_cases ab:x.kind=1
  ·obtain⟨i,rfl⟩:∃i,x= .var i:=by cases x<;>simp at ab;exact⟨_,rfl⟩
   by_cases aL:y.kind=1
   ·obtain⟨j,rfl⟩:∃j,y= .var j:=by cases y<;>simp at aL;exact⟨_,rfl⟩
    simp only[ks,ea]at he;subst he;rcases Int.lt_trichotomy i j with h|h|h
    ·rw[if_pos h];have key:=af j (.var i);refine bc eX va vO fun aM=>?_;unfold tx;simp;(with_reducible repeat' first|refine ai ?_|refine az ej ?_|refine aA ej ?_|refine az dp ?_|refine aA dp ?_|refine az key ?_|refine aA key ?_|simp[h]);simp[bq,sZ,aX,aZ,aW];simp[fR]
    ·subst h;rw[if_neg Ω,if_pos rfl];have br:¬i<i:=Ω
     refine bc eX va vO fun aM=>?_;unfold tx;simp;(with_reducible repeat' first|refine ai ?_|refine az ej ?_|refine aA ej ?_|refine az dp ?_|refine aA dp ?_|simp[br]);simp[bq,sZ,aX,aZ,aW];simp[fR]
    ·rw[if_neg Ω,if_neg Ω];have key:=af i (.var j);have br:¬i<j:=Ω
     have U:¬i=j:=Ω
     refine bc eX va vO fun aM=>?_;unfold tx;simp;((with_reducible repeat' first|refine ai ?_|refine az ej ?_|refine aA ej ?_|refine az dp ?_|refine aA dp ?_|refine az key ?_|refine aA key ?_|simp[br,U]|((first|apply bU|apply bY|apply bX)<;>intro h<;>try simp at h))<;>(try exact cz));simp[bq,sZ,aX,aZ,aW];simp[fR]
   ·have wP:ox s i y=o:=by cases y<;>first|(simp at aL;done)|exact ed he
    subst wP;have key:=af i y;refine bc eX va vO fun aM=>?_;unfold tx;simp;(with_reducible repeat' first|refine ai ?_|refine az ej ?_|refine aA ej ?_|refine az dp ?_|refine aA dp ?_|refine az key ?_|refine aA key ?_|simp[rh y aL]);simp[bq,sZ,aX,aZ,aW];simp[fR]
  ·by_cases aL:y.kind=1
   ·obtain⟨j,rfl⟩:∃j,y= .var j:=by cases y<;>simp at aL;exact⟨_,rfl⟩
    have wP:ox s j x=o:=by cases x<;>first|(simp at ab;done)|exact ed he
    subst wP;have key:=af j x;refine bc eX va vO fun aM=>?_;unfold tx;simp;(with_reducible repeat' first|refine ai ?_|refine az ej ?_|refine aA ej ?_|refine az dp ?_|refine aA dp ?_|refine az key ?_|refine aA key ?_|simp[rh x ab]);simp[bq,sZ,aX,aZ,aW];simp[fR]
   ·rw[aqc n s ab aL]at he;cases hle:zb x y with
    |false=>
     rw[hle]at he;simp at he;subst he;have LZ:(x.kind !=y.kind)=true\/((x.kind !=y.kind)=false/\((x.int !=y.int)=true\/((x.int !=y.int)=false/\(x.name !=y.name)=true))):=by simp only[zb]at hle;simp only[bne];cases ak:(x.kind==y.kind)<;>cases aD:(x.int==y.int)<;>cases bh:(x.name==y.name)<;>simp_all
     rcases LZ with ba|⟨ba,bo|⟨bo,b3⟩⟩
     ·refine bc eX va vO fun aM=>?_;unfold tx;simp;(with_reducible repeat' first|refine ai ?_|refine az ej ?_|refine aA ej ?_|refine az dp ?_|refine aA dp ?_|simp[rh x ab,rh y aL,ba]);simp[bq,sZ,aX,aZ,aW];simp[fR]
     ·refine bc eX va vO fun aM=>?_;unfold tx;simp;(with_reducible repeat' first|refine ai ?_|refine az ej ?_|refine aA ej ?_|refine az dp ?_|refine aA dp ?_|simp[rh x ab,rh y aL,ba,bo]);simp[bq,sZ,aX,aZ,aW];simp[fR]
     ·refine bc eX va vO fun aM=>?_;unfold tx;simp;have Ie:¬x.name=y.name:=by simpa using b3
      have anx:decide (x.name=y.name)=false:=by simp[Ie]
      ((with_reducible repeat' first|refine ai ?_|refine az ej ?_|refine aA ej ?_|refine az dp ?_|refine aA dp ?_|simp[rh x ab,rh y aL,ba,bo,b3,Ie,anx]|((first|apply bU|apply bY|apply bX)<;>intro h<;>try simp at h))<;>(try exact cz));simp[bq,sZ,aX,aZ,aW];simp[fR]
    |true=>
     rw[hle,if_pos rfl]at he;have LZ:(x.kind !=y.kind)=false/\(x.int !=y.int)=false/\(x.name !=y.name)=false:=by simp only[zb]at hle;simp only[bne];cases ak:(x.kind==y.kind)<;>cases aD:(x.int==y.int)<;>cases bh:(x.name==y.name)<;>simp_all
     obtain⟨ba,bo,b3⟩:=LZ;have hlen:=aj9 hle;have Ie:x.name=y.name:=by simpa using b3
     have sp:x.args.length<=2:=by cases x<;>simp
     refine bc eX va vO fun aM=>?_;unfold tx;simp;(with_reducible repeat' first|refine ai ?_|refine az ej ?_|refine aA ej ?_|refine az dp ?_|refine aA dp ?_|simp[rh x ab,rh y aL,ba,bo,Ie]);refine gA (α:=List ao) (fun i ah=>⟨[(5,.ptr (.loc 1) 0),(96,.slice 4 .no (x.args.map T.e)),(97,.int .i64 x.args.length),(0,.slice 5 .no (ah.map ao.e)),(98,.int .i64 i)],[(.loc 1,[.int .i64 y.kind,.int .i64 y.int,.str y.name,.slice 4 .no (y.args.map T.e)])],[],2,[]⟩) x.args.length (fun i ah=>(fU ah/\hR ah)/\Cm n ((x.args.zip y.args).drop i) ah=some o) s bT ⟨⟨ag,aK⟩,by simpa using he⟩ (fun ah ae _=>?_) (fun i ah hi ae _=>?_)
     ·obtain⟨_,ae⟩:=ae;rw[List.drop_eq_nil_of_le (by simp[hlen])]at ae;simp[Cm]at ae;subst ae;simp;(with_reducible repeat' first|refine ai ?_|simp);simp[bq,sZ,aX,aZ,aW];simp[fR]
     ·obtain⟨⟨g1,g2⟩,ae⟩:=ae;obtain⟨bH,bD⟩:∃a,x.args[i]? =some a:=⟨_,b6 hi⟩;obtain⟨bV,gb⟩:∃b,y.args[i]? =some b:=⟨_,b6 Ω⟩;have nN:∀h,(x.args[i]'h)=bH:=fun h=>by rw[b6 hi]at bD;exact ed bD
      have cD:∀h,(y.args[i]'h)=bV:=fun h=>by rw[b6 h]at gb;exact ed gb
      have sv:i<y.args.length:=Ω
      have aR:(x.args.zip y.args).drop i=(bH,bV)::(x.args.zip y.args).drop (i+1):=by rw[lR d7];simp[nN,cD]
      rw[aR]at ae;simp only[Cm]at ae;simp[hi,nN,cD,sv];cases hu:k1 n ah bH bV with
      |none=>rw[hu]at ae;cases ae
      |some gU=>
       have key:=bR ah bH bV gU g1 g2 hu;rw[hu]at ae;cases gU with
       |none=>simp at ae;subst ae;(with_reducible repeat' first|refine ai ?_|refine az key ?_|refine aA key ?_|simp[nN,cD,hi,sv]);simp[bq,sZ,aX,aZ,aW];simp[fR]
       |some s1=>have ai4:=aqe g1 g2 hu;(with_reducible repeat' first|refine ai ?_|refine az key ?_|refine aA key ?_|simp[nN,cD,hi,sv]);refine bK.rng s1 hi ⟨ai4.1,ae⟩ ?_;exact bT
theorem aaz(s:List ao)(a b:T)(ag:fU s)(aK:hR s):bC al 176 [.slice 5 .no (s.map ao.e),a.e,b.e] (fR (mgu s [(a,b)])):=by obtain⟨n,o,J,U⟩:=Jf ag aK a b;rw[sQ U];exact aqX n s a b o ag aK J
def ajG(s:List ao)(E:List (T×T))(i:Nat)(ah:List ao):Prop:=(fU ah/\hR ah)/\mgu ah (E.drop i)=mgu s E
theorem aqT(s:List ao)(l r:List T)(au:l.length=r.length)(ag:fU s)(aK:hR s)(yM:l.length<=1000000):bC al 268 [.slice 5 .no (s.map ao.e),.slice 4 .no (l.map T.e),.slice 4 .no (r.map T.e)] (fR (mgu s (l.zip r))):=by
 refine bc eX af7 am8 fun aM=>?_;unfold SX;simp;refine gA (α:=List ao) (fun i ah=>⟨[(2,.slice 4 .no (r.map T.e)),(12,.slice 4 .no (l.map T.e)),(13,.int .i64 l.length),(0,.slice 5 .no (ah.map ao.e)),(14,.int .i64 i)],[],[],0,[]⟩) l.length (ajG s (l.zip r)) s bT ⟨⟨ag,aK⟩,Ψ⟩ (fun ah ae _=>?_) (fun i ah hi ae _=>?_)
 ·obtain⟨⟨g1,g2⟩,ae⟩:=ae;rw[List.drop_eq_nil_of_le (by simp[au]),Ns g1 g2]at ae;rw[<-ae];simp;(with_reducible repeat' first|refine ai ?_|simp);simp[bq,OG,aX,aZ,aW];simp[fR]
 ·obtain⟨⟨g1,g2⟩,ae⟩:=ae;obtain⟨a,bD⟩:∃a,l[i]? =some a:=⟨_,b6 hi⟩;obtain⟨b,gb⟩:∃b,r[i]? =some b:=⟨_,b6 Ω⟩;have nN:∀h,(l[i]'h)=a:=fun h=>by rw[b6 hi]at bD;exact ed bD
  have cD:∀h,(r[i]'h)=b:=fun h=>by rw[b6 h]at gb;exact ed gb
  have sv:i<r.length:=Ω
  have aR:(l.zip r).drop i=(a,b)::(l.zip r).drop (i+1):=by rw[lR d7];simp[nN,cD]
  rw[aR,Nr g1 g2]at ae;simp[hi,nN,cD,sv];have key:=aaz ah a b g1 g2;cases hu:mgu ah [(a,b)]with
  |none=>rw[hu]at ae key;simp only at ae;rw[<-ae];(with_reducible repeat' first|refine ai ?_|refine az key ?_|refine aA key ?_|simp[nN,cD,hi,sv]);simp[bq,OG,aX,aZ,aW];simp[fR]
  |some s1=>have qe:=BA g1 g2 hu;rw[hu]at ae key;(with_reducible repeat' first|refine ai ?_|refine az key ?_|refine aA key ?_|simp[nN,cD,hi,sv]);refine bK.rng s1 hi ⟨qe,ae⟩ ?_;exact bT
theorem jW(n:Int):bC al 91 [.int .i64 n] (T.var n).e:=by refine bc gj af2 am3 fun aM=>?_;unfold SP;exact bQ
def ajK(t:List ao)(i:Nat)(p:List T×List T):Prop:=p.1=(t.take i).map (fun b=>T.var b.v)/\p.2=(t.take i).map (·.t)
theorem aqV(s t:List ao)(ag:fU s)(aK:hR s)(aJ:t.length<=1000000):bC al 219 [.slice 5 .no (s.map ao.e),.slice 5 .no (t.map ao.e)] (fR (mgu s (h3 t))):=by
 have bz:(t.map fun b=>T.var b.v).zip (t.map (·.t))=h3 t:=by rw[h3,List.zip_map']
 refine bc eX af8 am9 fun aM=>?_;unfold SY;simp;refine gA (α:=List T×List T) (fun i p=>⟨[(0,.slice 5 .no (s.map ao.e)),(12,.slice 5 .no (t.map ao.e)),(13,.int .i64 t.length),(6,.slice 4 (.own (.loc 0)) (p.1.map T.e)),(7,.slice 4 (.own (.loc 1)) (p.2.map T.e)),(14,.int .i64 i)],[],[(.loc 0,⟨p.1.length,32,4,none⟩),(.loc 1,⟨p.2.length,32,4,none⟩)],2,[]⟩) t.length (ajK t) ([],[]) bT ⟨Ψ,Ψ⟩ (fun p ae _=>?_) (fun i p hi ae _=>?_)
 ·obtain⟨A,B⟩:=p;obtain⟨bm,k7⟩:=ae;simp only at bm k7⊢;rw[hY (fc _)]at bm k7;have key:=aqT s A B (by rw[bm,k7];simp) ag aK (by rw[bm];simpa using aJ);rw[bm,k7,bz,<-bm,<-k7]at key;simp;(with_reducible repeat' first|refine ai ?_|refine az key ?_|refine aA key ?_|simp);simp[bq,YX,aX,aZ,aW];simp[fR]
 ·obtain⟨A,B⟩:=p;obtain⟨bm,k7⟩:=ae;simp only at bm k7⊢;obtain⟨b,aF,gS⟩:=eh hi;have w4:t.take (i+1)=t.take i++[b]:=by rw[lS,aF];rfl
  have ahx:A.length<=1000000:=by rw[bm];simp;omega
  have ahy:B.length<=1000000:=by rw[k7];simp;omega
  simp[hi,gS];(with_reducible repeat' first|refine ai ?_|refine az (jW _) ?_|refine aA (jW _) ?_|simp[gS,hi]);all_goals first|(refine⟨by unfold lim;omega,?_⟩)|skip
  (with_reducible repeat' first|refine ai ?_|simp);all_goals first|(refine⟨by unfold lim;omega,?_⟩)|skip
  (with_reducible repeat' first|refine ai ?_|simp);refine bK.rng (A++[.var b.v],B++[b.t]) hi ⟨by rw[w4,bm];simp,by rw[w4,k7];simp⟩ ?_;simp;exact⟨by simp[fresh,aC,aB,bP,inObs,Pv.look,kl],dD (by simp[fresh,aC,aB,bP,inObs,Pv.look,kl]),dE (by simp[fresh,aC,aB,dt,inObs,Pv.look,kl]),Ψ⟩
theorem dJ(n lo hi:Int):bC al 141 [.int .i64 n,.int .i64 lo,.int .i64 hi] (.bool (decide (lo<=n/\n<=hi))):=by
 refine bc eX afS amT fun aM=>?_;unfold SF;simp;((with_reducible repeat' first|refine ai ?_|simp|((first|apply bU|apply bY|apply bX)<;>intro h<;>try simp at h))<;>(try exact cz));all_goals simp[bq,YR,aX,aZ,aW]
 all_goals first|omega|(simp;done)|(simp;omega)
def shp:bL->Bool
 | .mk k n s [a,b]=>k==4&&n==0&&s==[]&&shp a&&shp b
 | .mk k n s []=>lI k n s
 |_=>false
theorem IY:∀x:T,shp x.tm=x.ok
 | .nil=>by simp[T.tm,shp,lI,T.ok]
 | .var _=>by simp[T.tm,shp,lI,T.ok]
 | .sym _=>by simp[T.tm,shp,lI,T.ok]
 | .num _=>by simp[T.tm,shp,lI,T.ok]
 | .pair a b=>by simp[T.tm,shp,T.ok,IY a,IY b]
theorem api:∀(m:Nat) (t:bL),t.sz<=m->shp t=true->∃x:T,x.tm=t:=by
 intro m;induction m with
 |zero=>intro t aJ;cases t;simp[bL.sz]at aJ
 |succ m bR=>
  rintro⟨k,n,s,args⟩ aJ h;match args with
  |[a,b]=>
   simp[bL.sz,bL.szL]at aJ;simp only[shp,cy,eb]at h;obtain⟨⟨⟨⟨rfl,rfl⟩,ar⟩,J⟩,U⟩:=h;obtain⟨x,rfl⟩:=bR a Ω J;obtain⟨y,rfl⟩:=bR b Ω U;have:s=[]:=by simpa using ar
   subst this;exact⟨.pair x y,rfl⟩
  |[]=>
   simp only[shp,lI]at h;split at h
   ·subst_vars;simp at h;exact⟨.nil,by simp[T.tm,h]⟩
   split at h
   ·subst_vars;simp at h;exact⟨.var n,by simp[T.tm,h]⟩
   split at h
   ·subst_vars;simp at h;exact⟨.sym s,by simp[T.tm,h]⟩
   split at h
   ·subst_vars;simp at h;exact⟨.num n,by simp[T.tm,h]⟩
   ·simp at h
  |[_]=>simp[shp]at h
  |_::_::_::_=>simp[shp]at h
theorem agm(t:bL):t.fits=(decide (lW t 5000<=5000)&&shp t):=by
 by_cases h:shp t=true
 ·obtain⟨x,rfl⟩:=api _ t (fc _) h;have:=(Gc x 5000 Ω).1;rw[bL.fits_T,T.fit,h];rw[IY]at h;simp[h,this];omega
 ·have br:t.fits=false:=by
   cases aK:t.fits with
   |false=>rfl
   |true=>obtain⟨x,rfl,ab⟩:=bL.fits_ex aK;rw[IY]at h;simp[T.fit]at ab;exact absurd ab.1 h
  simp at h;rw[br,h];simp
def MG(s:List dw)(i:Nat):Prop:=i<=s.length/\∀k,k<i->nb (s.getD k 0)=true/\(k=0->low (s.getD k 0)=true)
theorem ajE{s:List dw}(h:MG s s.length):iX s=decide (1<=s.length/\s.length<=12):=by
 unfold iX;by_cases au:1<=s.length
 ·have J:=(h.2 0 Ω).2 rfl;have U:(s.drop 1).all nb=true:=by rw[jd];intro b af;obtain⟨i,hi,e⟩:=og af;simp at hi e;have:=(h.2 (i+1) Ω).1;rw[List.getD_eq_getElem?_getD,b6 Ω]at this;simp only[jM]at this;rw[<-e];exact this
  rw[J,U];simp
 ·have:decide (1<=s.length/\s.length<=12)=false:=by simp;omega
  rw[this];simp
theorem ajD{s:List dw}{i:Nat}(hi:i<s.length)(h:nb (s.getD i 0)=false\/(i=0/\low (s.getD i 0)=false)):iX s=false:=by
 cases e:iX s with
 |false=>rfl
 |true=>
  exfalso;simp only[iX,cy,jd]at e;obtain⟨⟨_,ak⟩,aD⟩:=e;rcases h with h|⟨rfl,h⟩
  ·by_cases br:i=0
   ·subst br;rw[nb,ak]at h;simp at h
   ·have:=aD (s.getD i 0) (by rw[List.getD_eq_getElem?_getD,b6 hi];simp only[jM];refine List.mem_iff_getElem.2 ⟨i-1,by simp;omega,?_⟩;simp[show i-1+1=i from by omega])
    rw[this]at h;cases h
  ·rw[ak]at h;cases h
theorem hs(s:List dw):bC al 216 [.str s] (.bool (iX s)):=by
 generalize aU:iX s=R;refine bc eX afM amN fun aM=>?_;unfold Sz;have ev:s.length<=68719476736:=by simp[eA,eo,et,lim]at aM;omega
 simp;refine u5 [0] (fun(i:Nat)=>[(3,.int .i64 i)]) (fun i=>s.length-i) (MG s) 0 bT ⟨Ω,fun k ad=>Ω⟩ (fun i ae _=>?_);have dj:=ae.1;by_cases hi:i<s.length
 ·have cU:=ajD hi;rw[aU]at cU;obtain⟨c,aw,kj⟩:=eh hi;have UY:s.getD i 0=c:=by simp[List.getD_eq_getElem?_getD,aw]
  rw[UY]at cU;have cF:nb c=true->(i=0->low c=true)->MG s (i+1):=fun J U=>⟨Ω,fun k ad=>by
   rcases(by omega:k<i\/k=i)with h|rfl
   ·exact ae.2 k h
   ·rw[UY];exact⟨J,U⟩⟩
  have hw:IntKind.i64.wrap (c.toNat:Int)=c.toNat:=pN _ (by have:=c.toNat_lt;omega);simp[hi,kj,aw];by_cases ba:(97:Int)<=c.toNat
  ·by_cases bo:(c.toNat:Int)<=122
   ·have au:low c=true:=by simp[low];omega
    (with_reducible repeat' first|refine ai ?_|refine az (dJ _ _ _) ?_|refine aA (dJ _ _ _) ?_|simp[hi,kj,aw,ba,bo]);exact bK.whl (i+1) Ω (cF (by simp[nb,au]) (fun _=>au)) bT
   ·have au:low c=false:=by simp[low];omega
    by_cases br:i=0
    ·rw[cU (.inr ⟨br,au⟩)];have sj:((i:Int)==0)=true:=by simp[br]
     (with_reducible repeat' first|refine ai ?_|refine az (dJ _ _ _) ?_|refine aA (dJ _ _ _) ?_|simp[hi,kj,aw,ba,bo,sj,hw]);simp[bq,B1,aX,aZ,aW]
    ·have sj:((i:Int)==0)=false:=by simp[br]
     by_cases b3:(c.toNat:Int)=45
     ·have sX:((c.toNat:Int) !=45)=false:=by simp[b3]
      (with_reducible repeat' first|refine ai ?_|refine az (dJ _ _ _) ?_|refine aA (dJ _ _ _) ?_|simp[hi,kj,aw,ba,bo,sj,hw,b3,sX]);all_goals exact bK.whl (i+1) Ω (cF (by simp[nb];omega) (fun h=>absurd h br)) bT
     ·have sX:((c.toNat:Int) !=45)=true:=by simp[b3]
      by_cases c9:(48:Int)<=c.toNat/\(c.toNat:Int)<=57
      ·(with_reducible repeat' first|refine ai ?_|refine az (dJ _ _ _) ?_|refine aA (dJ _ _ _) ?_|simp[hi,kj,aw,ba,bo,sj,hw,b3,sX,c9]);all_goals exact bK.whl (i+1) Ω (cF (by simp[nb];omega) (fun h=>absurd h br)) bT
      ·rw[cU (.inl (by simp[nb,au];omega))];(with_reducible repeat' first|refine ai ?_|refine az (dJ _ _ _) ?_|refine aA (dJ _ _ _) ?_|simp[hi,kj,aw,ba,bo,sj,hw,b3,sX,c9]);simp[bq,B1,aX,aZ,aW]
  ·have au:low c=false:=by simp[low];omega
   by_cases br:i=0
   ·rw[cU (.inr ⟨br,au⟩)];have sj:((i:Int)==0)=true:=by simp[br]
    (with_reducible repeat' first|refine ai ?_|refine az (dJ _ _ _) ?_|refine aA (dJ _ _ _) ?_|simp[hi,kj,aw,ba,sj,hw]);simp[bq,B1,aX,aZ,aW]
   ·have sj:((i:Int)==0)=false:=by simp[br]
    by_cases b3:(c.toNat:Int)=45
    ·have sX:((c.toNat:Int) !=45)=false:=by simp[b3]
     (with_reducible repeat' first|refine ai ?_|refine az (dJ _ _ _) ?_|refine aA (dJ _ _ _) ?_|simp[hi,kj,aw,ba,sj,hw,b3,sX]);all_goals exact bK.whl (i+1) Ω (cF (by simp[nb];omega) (fun h=>absurd h br)) bT
    ·have sX:((c.toNat:Int) !=45)=true:=by simp[b3]
     by_cases c9:(48:Int)<=c.toNat/\(c.toNat:Int)<=57
     ·(with_reducible repeat' first|refine ai ?_|refine az (dJ _ _ _) ?_|refine aA (dJ _ _ _) ?_|simp[hi,kj,aw,ba,sj,hw,b3,sX,c9]);all_goals exact bK.whl (i+1) Ω (cF (by simp[nb];omega) (fun h=>absurd h br)) bT
     ·rw[cU (.inl (by simp[nb,au];omega))];(with_reducible repeat' first|refine ai ?_|refine az (dJ _ _ _) ?_|refine aA (dJ _ _ _) ?_|simp[hi,kj,aw,ba,sj,hw,b3,sX,c9]);simp[bq,B1,aX,aZ,aW]
 ·have:i=s.length:=Ω
  subst this;rw[ajE ae]at aU;simp[hi];(with_reducible repeat' first|refine ai ?_|refine az (dJ _ _ _) ?_|refine aA (dJ _ _ _) ?_|simp[hi]);simp[bq,B1,aX,aZ,aW];rw[<-aU,qY];simp;omega
def wc:List bL->Bool
 |[a,b]=>shp a&&shp b
 |_=>false
theorem aph(k n:Int)(s:List dw)(args:List bL):shp ⟨k,n,s,args⟩=if k≠1/\k≠3/\n≠0 then false else if k≠2/\s≠[]then false else if k≠4/\args≠[]then false else if k=0 then true else if k=1 then decide (0<=n/\n<=100000)else if k=2 then iX s else if k=3 then decide (-1000000000<=n/\n<=1000000000)else if k=4 then wc args else false:=by
 by_cases dU:k=0
 ·subst dU;match args with
  |[]=>by_cases ax:n=0<;>by_cases ag:s=[]<;>simp[shp,lI,ax,ag]
  |[a]=>simp[shp]
  |[a,b]=>simp[shp]
  |_::_::_::_=>simp[shp]
 by_cases aS:k=1
 ·subst aS;match args with
  |[]=>by_cases ag:s=[]<;>simp[shp,lI,ag]
  |[a]=>simp[shp]
  |[a,b]=>simp[shp]
  |_::_::_::_=>simp[shp]
 by_cases be:k=2
 ·subst be;match args with
  |[]=>by_cases ax:n=0<;>simp[shp,lI,ax]
  |[a]=>simp[shp]
  |[a,b]=>simp[shp]
  |_::_::_::_=>simp[shp]
 by_cases b8:k=3
 ·subst b8;match args with
  |[]=>by_cases ag:s=[]<;>simp[shp,lI,ag]
  |[a]=>simp[shp]
  |[a,b]=>simp[shp]
  |_::_::_::_=>simp[shp]
 by_cases eg:k=4
 ·subst eg;match args with
  |[]=>simp[shp,lI,wc]
  |[a]=>simp[shp,wc]
  |[a,b]=>by_cases ax:n=0<;>by_cases ag:s=[]<;>simp[shp,wc,ax,ag]
  |_::_::_::_=>simp[shp,wc]
 ·match args with
  |[]=>simp[shp,lI,dU,aS,be,b8,eg]
  |[a]=>simp[shp,dU,aS,be,b8,eg]
  |[a,b]=>simp[shp,dU,aS,be,b8,eg]
  |_::_::_::_=>simp[shp,dU,aS,be,b8,eg]
set_option maxRecDepth 8000 in
theorem aqQ(m:Nat):∀(t:bL),t.sz<=m->bC al 163 [enc t] (.bool (shp t)):=by
 induction m with
 |zero=>intro t aJ;cases t;simp[bL.sz]at aJ
 |succ m bR=>
 rintro⟨k,n,s,args⟩ aJ;generalize aU:shp ⟨k,n,s,args⟩=R;have dQ:=aph k n s args;rw[aU]at dQ;by_cases bV:k≠1/\k≠3/\n≠0
 ·rw[if_pos bV]at dQ;obtain⟨aS,b8,n0⟩:=bV;have Bo:(k !=1)=true:=by simp[aS]
  have Bp:(k !=3)=true:=by simp[b8]
  have NB:(n !=0)=true:=by simp[n0]
  subst dQ;refine bc eX mT nq fun aM=>?_;unfold mv;simp[bL.kind,bL.num,bL.name,bL.args];(with_reducible repeat' first|refine ai ?_|refine az (dJ _ _ _) ?_|refine aA (dJ _ _ _) ?_|refine az (hs _) ?_|refine aA (hs _) ?_|simp[Bo,Bp,NB]);all_goals simp[bq,ml,aX,aZ,aW]
 rw[if_neg bV]at dQ;have CJ:(if k !=1 then k !=3 else false)=true->(n !=0)=false:=by intro h;simp at h⊢;exact Classical.byContradiction fun ax=>bV ⟨h.1,h.2,ax⟩
 by_cases b7:k≠2/\s≠[]
 ·rw[if_pos b7]at dQ;have Hn:(k !=2)=true:=by simp[b7.1]
  have OZ:s.isEmpty=false:=by simp[b7.2]
  by_cases aS:k=1
  ·subst aS;subst dQ;refine bc eX mT nq fun aM=>?_;unfold mv;simp[bL.kind,bL.num,bL.name,bL.args];(with_reducible repeat' first|refine ai ?_|refine az (dJ _ _ _) ?_|refine aA (dJ _ _ _) ?_|refine az (hs _) ?_|refine aA (hs _) ?_|simp[OZ]);all_goals simp[bq,ml,aX,aZ,aW]
  by_cases b8:k=3
  ·subst b8;subst dQ;refine bc eX mT nq fun aM=>?_;unfold mv;simp[bL.kind,bL.num,bL.name,bL.args];(with_reducible repeat' first|refine ai ?_|refine az (dJ _ _ _) ?_|refine aA (dJ _ _ _) ?_|refine az (hs _) ?_|refine aA (hs _) ?_|simp[OZ]);all_goals simp[bq,ml,aX,aZ,aW]
  have Bo:(k !=1)=true:=by simp[aS]
  have Bp:(k !=3)=true:=by simp[b8]
  have NB:(n !=0)=false:=CJ (by simp[aS,b8]);subst dQ;refine bc eX mT nq fun aM=>?_;unfold mv;simp[bL.kind,bL.num,bL.name,bL.args];(with_reducible repeat' first|refine ai ?_|refine az (dJ _ _ _) ?_|refine aA (dJ _ _ _) ?_|refine az (hs _) ?_|refine aA (hs _) ?_|simp[Bo,Bp,NB,Hn,OZ]);all_goals simp[bq,ml,aX,aZ,aW]
 rw[if_neg b7]at dQ;by_cases dU:k=0
 ·subst dU;have n0:n=0:=by simpa using CJ (by decide)
  have s0:s=[]:=Classical.byContradiction fun h=>b7 ⟨Ω,h⟩;subst n0 s0;by_cases a0:args=[];rotate_left
  ·rw[if_pos ⟨Ω,a0⟩]at dQ;have uQ:(0:Int)<args.length:=by have:=List.length_pos_iff.2 a0;omega
   subst dQ;refine bc eX mT nq fun aM=>?_;unfold mv;simp[bL.kind,bL.num,bL.name,bL.args];((with_reducible repeat' first|refine ai ?_|refine az (dJ _ _ _) ?_|refine aA (dJ _ _ _) ?_|refine az (hs _) ?_|refine aA (hs _) ?_|simp[Int.natCast_nonneg,uQ]|((first|apply bU|apply bY|apply bX)<;>intro h<;>try simp at h))<;>(try exact cz));all_goals simp[bq,ml,aX,aZ,aW]
  rw[if_neg (by simp[a0])]at dQ;subst a0;simp at dQ;subst dQ;refine bc eX mT nq fun aM=>?_;unfold mv;simp[bL.kind,bL.num,bL.name,bL.args];(with_reducible repeat' first|refine ai ?_|refine az (dJ _ _ _) ?_|refine aA (dJ _ _ _) ?_|refine az (hs _) ?_|refine aA (hs _) ?_|simp[Int.natCast_nonneg]);all_goals simp[bq,ml,aX,aZ,aW]
 by_cases aS:k=1
 ·subst aS;have s0:s=[]:=Classical.byContradiction fun h=>b7 ⟨Ω,h⟩;subst s0;by_cases a0:args=[];rotate_left
  ·rw[if_pos ⟨Ω,a0⟩]at dQ;have uQ:(0:Int)<args.length:=by have:=List.length_pos_iff.2 a0;omega
   subst dQ;refine bc eX mT nq fun aM=>?_;unfold mv;simp[bL.kind,bL.num,bL.name,bL.args];((with_reducible repeat' first|refine ai ?_|refine az (dJ _ _ _) ?_|refine aA (dJ _ _ _) ?_|refine az (hs _) ?_|refine aA (hs _) ?_|simp[Int.natCast_nonneg,uQ]|((first|apply bU|apply bY|apply bX)<;>intro h<;>try simp at h))<;>(try exact cz));all_goals simp[bq,ml,aX,aZ,aW]
  rw[if_neg (by simp[a0])]at dQ;subst a0;simp at dQ;subst dQ;refine bc eX mT nq fun aM=>?_;unfold mv;simp[bL.kind,bL.num,bL.name,bL.args];(with_reducible repeat' first|refine ai ?_|refine az (dJ _ _ _) ?_|refine aA (dJ _ _ _) ?_|refine az (hs _) ?_|refine aA (hs _) ?_|simp[Int.natCast_nonneg]);all_goals simp[bq,ml,aX,aZ,aW]
 by_cases be:k=2
 ·subst be;have n0:n=0:=by simpa using CJ (by decide)
  subst n0;by_cases a0:args=[];rotate_left
  ·rw[if_pos ⟨Ω,a0⟩]at dQ;have uQ:(0:Int)<args.length:=by have:=List.length_pos_iff.2 a0;omega
   subst dQ;refine bc eX mT nq fun aM=>?_;unfold mv;simp[bL.kind,bL.num,bL.name,bL.args];((with_reducible repeat' first|refine ai ?_|refine az (dJ _ _ _) ?_|refine aA (dJ _ _ _) ?_|refine az (hs _) ?_|refine aA (hs _) ?_|simp[Int.natCast_nonneg,uQ]|((first|apply bU|apply bY|apply bX)<;>intro h<;>try simp at h))<;>(try exact cz));all_goals simp[bq,ml,aX,aZ,aW]
  rw[if_neg (by simp[a0])]at dQ;subst a0;simp at dQ;subst dQ;refine bc eX mT nq fun aM=>?_;unfold mv;simp[bL.kind,bL.num,bL.name,bL.args];(with_reducible repeat' first|refine ai ?_|refine az (dJ _ _ _) ?_|refine aA (dJ _ _ _) ?_|refine az (hs _) ?_|refine aA (hs _) ?_|simp[Int.natCast_nonneg]);all_goals simp[bq,ml,aX,aZ,aW]
 by_cases b8:k=3
 ·subst b8;have s0:s=[]:=Classical.byContradiction fun h=>b7 ⟨Ω,h⟩;subst s0;by_cases a0:args=[];rotate_left
  ·rw[if_pos ⟨Ω,a0⟩]at dQ;have uQ:(0:Int)<args.length:=by have:=List.length_pos_iff.2 a0;omega
   subst dQ;refine bc eX mT nq fun aM=>?_;unfold mv;simp[bL.kind,bL.num,bL.name,bL.args];((with_reducible repeat' first|refine ai ?_|refine az (dJ _ _ _) ?_|refine aA (dJ _ _ _) ?_|refine az (hs _) ?_|refine aA (hs _) ?_|simp[Int.natCast_nonneg,uQ]|((first|apply bU|apply bY|apply bX)<;>intro h<;>try simp at h))<;>(try exact cz));all_goals simp[bq,ml,aX,aZ,aW]
  rw[if_neg (by simp[a0])]at dQ;subst a0;simp at dQ;subst dQ;refine bc eX mT nq fun aM=>?_;unfold mv;simp[bL.kind,bL.num,bL.name,bL.args];(with_reducible repeat' first|refine ai ?_|refine az (dJ _ _ _) ?_|refine aA (dJ _ _ _) ?_|refine az (hs _) ?_|refine aA (hs _) ?_|simp[Int.natCast_nonneg]);all_goals simp[bq,ml,aX,aZ,aW]
 by_cases eg:k=4
 ·subst eg;have n0:n=0:=by simpa using CJ (by decide)
  have s0:s=[]:=Classical.byContradiction fun h=>b7 ⟨Ω,h⟩;subst n0 s0;simp at dQ;match args,dQ with
  |[a,b],dQ=>
   simp[bL.sz,bL.szL]at aJ;have bD:=bR a Ω;have af:=bR b Ω;simp only[wc]at dQ;subst dQ;refine bc eX mT nq fun aM=>?_;unfold mv;simp[bL.kind,bL.num,bL.name,bL.args];cases q:shp a with
   |true=>rw[q]at bD;(with_reducible repeat' first|refine ai ?_|refine az bD ?_|refine aA bD ?_|refine az af ?_|refine aA af ?_|simp[Int.natCast_nonneg]);all_goals simp[bq,ml,aX,aZ,aW]
   |false=>rw[q]at bD;(with_reducible repeat' first|refine ai ?_|refine az bD ?_|refine aA bD ?_|refine az af ?_|refine aA af ?_|simp[Int.natCast_nonneg]);all_goals simp[bq,ml,aX,aZ,aW]
  |[],dQ=>simp only[wc]at dQ;subst dQ;refine bc eX mT nq fun aM=>?_;unfold mv;simp[bL.kind,bL.num,bL.name,bL.args];(with_reducible repeat' first|refine ai ?_|refine az (dJ _ _ _) ?_|refine aA (dJ _ _ _) ?_|refine az (hs _) ?_|refine aA (hs _) ?_|simp[Int.natCast_nonneg]);all_goals simp[bq,ml,aX,aZ,aW]
  |[_],dQ=>simp only[wc]at dQ;subst dQ;refine bc eX mT nq fun aM=>?_;unfold mv;simp[bL.kind,bL.num,bL.name,bL.args];(with_reducible repeat' first|refine ai ?_|refine az (dJ _ _ _) ?_|refine aA (dJ _ _ _) ?_|refine az (hs _) ?_|refine aA (hs _) ?_|simp[Int.natCast_nonneg]);all_goals simp[bq,ml,aX,aZ,aW]
  |_::_::_::l,dQ=>
   simp only[wc]at dQ;have au:((l.length:Int)+1+1+1==2)=false:=by simp;omega
   subst dQ;refine bc eX mT nq fun aM=>?_;unfold mv;simp[bL.kind,bL.num,bL.name,bL.args];(with_reducible repeat' first|refine ai ?_|refine az (dJ _ _ _) ?_|refine aA (dJ _ _ _) ?_|refine az (hs _) ?_|refine aA (hs _) ?_|simp[au]);all_goals simp[bq,ml,aX,aZ,aW]
 have n0:(n !=0)=false:=CJ (by simp[aS,b8]);have s0:s=[]:=Classical.byContradiction fun h=>b7 ⟨be,h⟩;subst s0;have Wd:(k==0)=false:=by simp[dU]
 have Bo:(k==1)=false:=by simp[aS]
 have Hn:(k==2)=false:=by simp[be]
 have Bp:(k==3)=false:=by simp[b8]
 have Wh:(k==4)=false:=by simp[eg]
 have We:(k !=1)=true:=by simp[aS]
 have Wf:(k !=2)=true:=by simp[be]
 have Wg:(k !=3)=true:=by simp[b8]
 have Wi:(k !=4)=true:=by simp[eg]
 by_cases a0:args=[]
 ·subst a0;simp[dU,aS,be,b8,eg]at dQ;subst dQ;refine bc eX mT nq fun aM=>?_;unfold mv;simp[bL.kind,bL.num,bL.name,bL.args];(with_reducible repeat' first|refine ai ?_|refine az (dJ _ _ _) ?_|refine aA (dJ _ _ _) ?_|refine az (hs _) ?_|refine aA (hs _) ?_|simp[Wd,Bo,Hn,Bp,Wh,We,Wf,Wg,Wi,n0]);all_goals simp[bq,ml,aX,aZ,aW]
 ·rw[if_pos ⟨eg,a0⟩]at dQ;have uQ:(0:Int)<args.length:=by have:=List.length_pos_iff.2 a0;omega
  subst dQ;refine bc eX mT nq fun aM=>?_;unfold mv;simp[bL.kind,bL.num,bL.name,bL.args];((with_reducible repeat' first|refine ai ?_|refine az (dJ _ _ _) ?_|refine aA (dJ _ _ _) ?_|refine az (hs _) ?_|refine aA (hs _) ?_|simp[uQ,Wd,Bo,Hn,Bp,Wh,We,Wf,Wg,Wi,n0]|((first|apply bU|apply bY|apply bX)<;>intro h<;>try simp at h))<;>(try exact cz));all_goals simp[bq,ml,aX,aZ,aW]
theorem PR(t:bL):bC al 76 [enc t] (.bool t.fits):=by
 rw[agm];have aw:=aav t 5000 Ω Ω;have ag:=aqQ t.sz t (fc _);refine bc eX afR amS fun aM=>?_;unfold SE;simp;by_cases q:lW t 5000<=5000
 ·exact bQ
 ·exact bQ
def Ao:C:=(aa [cC 2 0,a8 4 false] (.seq (aa [aE 7 3 1 2,av 8 1 7,ca 9 8,bS 10 0] (e0 11 10 9 (.seq (.block 1 (aa [cf 12 4 8 10,aY 13 4 12,c1 6 dH,bB 4 6 13] (aa [aY 14 4 6,I 15 1,b2 16 77 14 15] (aT 16 (aa [a8 4 true] .ret) .skip)))) (.region [aV 17 .add 10 1,I 10 17])))) (aa [aE 18 0 1 2,av 19 1 18,aV 20 .eql 19 2,I 21 20,aq 21 true (aE 22 2 1 2),aq 21 true (av 23 1 22),cb 21 true 24 1,aq 21 true (bk 25 .eql 23 24),dL 26 21 25,I 4 26] .ret)))
@[simp] def xC:List bO:=[.tmp 4]
def SA:C:=(aa [a8 2 false] (.seq (aa [I 5 0,ca 6 5,bS 7 0] (e0 8 7 6 (.seq (.block 1 (aa [I 9 7,cf 10 2 5 7,aY 11 2 10,cP (.alloc 4 none (.agg [.int .i64 0,.int .i64 0])),I 3 9,bB 2 4 11] (.seq (.drawn true 42 [I 12 3,aV 13 .gtr 12 0,I 14 13,cb 14 true 15 0,cb 14 true 16 3,aq 14 true (aV 17 .sub 16 1),aq 14 true (cf 18 2 15 17),aq 14 true (aE 19 0 1 18),aq 14 true (av 20 1 19),aq 14 true (aE 21 0 1 4),aq 14 true (av 22 1 21),aq 14 true (bk 23 .geq 20 22),dL 24 14 23,I 25 24,aq 25 false (aE 26 0 1 4),aq 25 false (av 27 1 26),aq 25 false (dn 28 141 [.t 27,(gd 0),(gd 100000)]),aq 25 false (cj 29 28),cW 30 25 29,I 31 30,aq 31 false (aE 32 1 1 4),aq 31 false (av 33 1 32),aq 31 false (aV 34 .neq 33 2),cb 31 false 35 34,aq 35 true (aE 36 1 1 4),aq 35 true (av 37 1 36),aq 35 true (aV 38 .neq 37 3),aq 31 false (dL 39 35 38),cW 40 31 39]) (aT 40 (aa [a8 2 false] .ret) .skip)))) (.region [aV 41 .add 7 1,I 7 41])))) (aa [a8 2 true] .ret)))
@[simp] def EF:List bO:=[.tmp 2]
def SB:C:=(aa [a8 2 false] (.seq (aa [I 5 0,ca 6 5,bS 7 0] (e0 8 7 6 (.seq (.block 1 (aa [I 9 7,cf 10 2 5 7,aY 11 2 10,cP (.alloc 4 none (.agg [.int .i64 0,.str []])),I 3 9,bB 2 4 11] (.seq (.drawn true 37 [I 12 3,aV 13 .gtr 12 0,I 14 13,cb 14 true 15 0,cb 14 true 16 3,aq 14 true (aV 17 .sub 16 1),aq 14 true (cf 18 2 15 17),aq 14 true (aY 19 2 18),aq 14 true (aY 20 2 4),aq 14 true (b2 21 215 19 20),aq 14 true (cj 22 21),dL 23 14 22,I 24 23,aq 24 false (aE 25 0 1 4),aq 24 false (av 26 1 25),aq 24 false (dn 27 141 [.t 26,(gd 0),(gd 100000)]),aq 24 false (cj 28 27),cW 29 24 28,I 30 29,aq 30 false (aE 31 1 1 4),aq 30 false (av 32 1 31),aq 30 false (cB 33 216 32),aq 30 false (cj 34 33),cW 35 30 34]) (aT 35 (aa [a8 2 false] .ret) .skip)))) (.region [aV 36 .add 7 1,I 7 36])))) (aa [a8 2 true] .ret)))
@[simp] def B2:List bO:=[.tmp 2]
def Ap:C:=(aa [cC 4 1,er 6 2,a8 7 false] (.seq (aa [aE 10 0 1 4,av 11 1 10,aV 12 .neq 11 1] (aT 12 (.seq (.drawn true 73 [I 13 0,aE 14 0 1 4,av 15 1 14,I 16 2,bk 17 .eql 15 16,I 6 13,I 7 17]) .ret) .skip)) (aa [bS 8 0] (.seq (.block 0 (.loop (.seq (.seq (.drawn true 73 [I 18 8,I 19 0,ca 20 19,bk 21 .lss 18 20,I 22 21,cb 22 true 23 0,cb 22 true 24 8,aq 22 true (cf 25 2 23 24),aq 22 true (aE 26 0 1 25),aq 22 true (av 27 1 26),aq 22 true (aE 28 1 1 4),aq 22 true (av 29 1 28),aq 22 true (bk 30 .lss 27 29),dL 31 22 30]) (aT 31 .skip (.exit 0))) (.block 1 (.region [I 32 8,aV 33 .add 32 1,I 8 33]))))) (.seq (.seq (.drawn true 73 [I 34 8,I 35 0,ca 36 35,bk 37 .lss 34 36,I 38 37,cb 38 true 39 0,cb 38 true 40 8,aq 38 true (cf 41 2 39 40),aq 38 true (aE 42 0 1 41),aq 38 true (av 43 1 42),aq 38 true (aE 44 1 1 4),aq 38 true (av 45 1 44),aq 38 true (bk 46 .eql 43 45),dL 47 38 46]) (aT 47 (.seq (.drawn true 73 [I 48 0,I 49 0,I 50 8,cf 51 2 49 50,aE 52 1 1 51,av 53 1 52,I 54 2,bk 55 .eql 53 54,I 6 48,I 7 55]) .ret) .skip)) (aa [eI 56 2 104 [],I 57 0,I 58 8,b5 59 (.lsl 2 (.t 57) none (some (.t 58))),h6 60 2 104 56 59,I 9 60] (aa [I 61 9,aE 62 1 1 4,av 63 1 62,I 64 2,b5 65 (.build [.int .i64 0,.int .i64 0] [(0,1,(.t 63)),(1,1,(.t 64))]),eI 66 2 104 [.t 65],h6 67 2 104 61 66,I 9 67] (aa [I 68 9,I 69 0,I 70 8,b5 71 (.lsl 2 (.t 69) (some (.t 70)) none),h6 72 2 104 68 71,I 6 72,a8 7 true] .ret))))))))
@[simp] def xD:List bO:=[.tmp 6,.tmp 7]
def Kt:C:=(aa [cC 4 1,er 6 2,a8 7 false] (.seq (aa [aY 13 4 4,I 14 2,b2 15 77 13 14] (aT 15 (aa [er 6 2,a8 7 false] .ret) .skip)) (.seq (aa [aY 16 4 4,dn 17 165 [.t 16,(.c (.slice 1 .nil []))],ca 18 17,bS 19 0] (e0 20 19 18 (.seq (.block 1 (aa [cf 21 1 17 19,av 22 1 21,I 9 22] (aa [I 23 9,I 24 2,b5 25 (.build [.int .i64 0,.str []] [(0,1,(.t 23)),(1,1,(.t 24))]),cP (.alloc 10 none (.agg [.int .i64 0,.str []])),bB 2 10 25] (aa [bS 11 0] (.seq (.block 2 (.loop (.seq (.seq (.drawn true 68 [I 26 11,I 27 0,ca 28 27,bk 29 .lss 26 28,I 30 29,cb 30 true 31 0,cb 30 true 32 11,aq 30 true (cf 33 2 31 32),aq 30 true (aY 34 2 33),aq 30 true (aY 35 2 10),aq 30 true (b2 36 215 34 35),dL 37 30 36]) (aT 37 .skip (.exit 2))) (.block 3 (.region [I 38 11,aV 39 .add 38 1,I 11 39]))))) (.seq (.drawn true 68 [I 40 11,I 41 0,ca 42 41,bk 43 .eql 40 42,I 44 43,aq 44 false (aY 45 2 10),cb 44 false 46 0,cb 44 false 47 11,aq 44 false (cf 48 2 46 47),aq 44 false (aY 49 2 48),aq 44 false (b2 50 215 45 49),cW 51 44 50]) (aT 51 (aa [eI 52 2 106 [],I 53 0,I 54 11,b5 55 (.lsl 2 (.t 53) none (some (.t 54))),h6 56 2 106 52 55,I 12 56] (aa [I 57 12,aY 58 2 10,eI 59 2 106 [.t 58],h6 60 2 106 57 59,I 12 60] (.region [I 61 12,I 62 0,I 63 11,b5 64 (.lsl 2 (.t 62) (some (.t 63)) none),h6 65 2 106 61 64,I 0 65]))) .skip))))))) (.fg false 0 (.region [aV 66 .add 19 1,I 19 66]))))) (aa [I 67 0,I 6 67,a8 7 true] .ret))))
@[simp] def OI:List bO:=[.tmp 6,.tmp 7]
def F7:C:=(aa [cC 2 0,cC 3 1,a8 4 false] (aa [aE 5 0 1 2,av 6 1 5,aE 7 0 1 3,av 8 1 7,bk 9 .lss 6 8,I 10 9,aq 10 false (aE 11 0 1 2),aq 10 false (av 12 1 11),aq 10 false (aE 13 0 1 3),aq 10 false (av 14 1 13),aq 10 false (bk 15 .eql 12 14),cb 10 false 16 15,aq 16 true (aE 17 1 1 2),aq 16 true (av 18 1 17),aq 16 true (aE 19 1 1 3),aq 16 true (av 20 1 19),aq 16 true (bk 21 .lss 18 20),aq 10 false (dL 22 16 21),cW 23 10 22,I 4 23] .ret))
@[simp] def aoJ:List bO:=[.tmp 4]
def S3:C:=(aa [er 4 2,a8 5 false] (aa [eI 10 2 104 [],I 6 10] (aa [a8 7 true] (.seq (.seq (.fg false 6 (.region [I 11 1,ca 12 11,bS 13 0])) (e0 14 13 12 (.seq (.block 1 (aa [cf 15 2 11 13,aY 16 2 15,cP (.alloc 9 none (.agg [.int .i64 0,.int .i64 0])),bB 2 9 16] (.seq (.drawn true 33 [I 18 6,I 19 0,aE 20 0 1 9,av 21 1 20,cB 22 91 21,b2 23 236 19 22,aE 24 1 1 9,av 25 1 24,dn 26 178 [.t 18,.t 23,.t 25],I 17 26,cr 27 0 17,cr 28 1 17,I 6 27,I 7 28]) (aa [I 29 7,cj 30 29] (aT 30 (aa [er 4 2,a8 5 false] .ret) .skip))))) (.region [aV 31 .add 13 1,I 13 31])))) (aa [I 32 6,I 4 32,a8 5 true] .ret)))))
@[simp] def OH:List bO:=[.tmp 4,.tmp 5]
def S4:C:=(aa [er 4 2,a8 5 false] (aa [eI 10 2 106 [],I 6 10] (aa [a8 7 true] (.seq (.seq (.fg false 6 (.region [I 11 1,ca 12 11,bS 13 0])) (e0 14 13 12 (.seq (.block 1 (aa [cf 15 2 11 13,aY 16 2 15,cP (.alloc 9 none (.agg [.int .i64 0,.str []])),bB 2 9 16] (.seq (.drawn true 33 [I 18 6,I 19 0,aE 20 0 1 9,av 21 1 20,cB 22 91 21,b2 23 236 19 22,aE 24 1 1 9,av 25 1 24,dn 26 179 [.t 18,.t 23,.t 25],I 17 26,cr 27 0 17,cr 28 1 17,I 6 27,I 7 28]) (aa [I 29 7,cj 30 29] (aT 30 (aa [er 4 2,a8 5 false] .ret) .skip))))) (.region [aV 31 .add 13 1,I 13 31])))) (aa [I 32 6,I 4 32,a8 5 true] .ret)))))
@[simp] def OJ:List bO:=[.tmp 4,.tmp 5]
def wj:List (Nat×dN):=[
 (3,⟨1,8,.int .i64,.int .i64 0⟩),
 (9,⟨1,16,.str,.str []⟩),
 (25,⟨1,24,.slice 104,.slice 2 .nil []⟩),
 (26,⟨1,24,.slice 106,.slice 2 .nil []⟩),
 (30,⟨1,24,.slice 32,.slice 4 .nil []⟩),
 (32,⟨4,56,.struct [(0,3),(1,3),(2,9),(3,30)],.agg [.int .i64 0,.int .i64 0,.str [],.slice 4 .nil []]⟩),
 (104,⟨2,16,.struct [(0,3),(1,3)],.agg [.int .i64 0,.int .i64 0]⟩),
 (106,⟨2,24,.struct [(0,3),(1,9)],.agg [.int .i64 0,.str []]⟩),
 (112,⟨1,24,.slice 3,.slice 1 .nil []⟩)]
theorem mL:fY al wj=true:=by kernel_rfl
theorem Er:bZ wj Ao xC 2 Tryz.f77=true:=by kernel_rfl
theorem C2:al.funcs[(77:Nat)]? =some Tryz.f77:=Tryz.func77
theorem amO:bZ wj SA EF 1 Tryz.f144=true:=by kernel_rfl
theorem afN:al.funcs[(144:Nat)]? =some Tryz.f144:=Tryz.func144
theorem amP:bZ wj SB B2 1 Tryz.f145=true:=by kernel_rfl
theorem afO:al.funcs[(145:Nat)]? =some Tryz.f145:=Tryz.func145
theorem Es:bZ wj Ap xD 3 Tryz.f178=true:=by kernel_rfl
theorem C3:al.funcs[(178:Nat)]? =some Tryz.f178:=Tryz.func178
theorem XV:bZ wj Kt OI 3 Tryz.f179=true:=by kernel_rfl
theorem T5:al.funcs[(179:Nat)]? =some Tryz.f179:=Tryz.func179
theorem NZ:bZ wj F7 aoJ 2 Tryz.f215=true:=by kernel_rfl
theorem La:al.funcs[(215:Nat)]? =some Tryz.f215:=Tryz.func215
theorem anf:bZ wj S3 OH 2 Tryz.f217=true:=by kernel_rfl
theorem agd:al.funcs[(217:Nat)]? =some Tryz.f217:=Tryz.func217
theorem ang:bZ wj S4 OJ 2 Tryz.f218=true:=by kernel_rfl
theorem age:al.funcs[(218:Nat)]? =some Tryz.f218:=Tryz.func218
open Classical in
theorem ara(l:List bN):bC al 144 [.slice 2 .no (l.map bN.e)] (.bool (decide (jE l))):=by
 generalize aU:decide (jE l)=R;refine bc mL afN amO fun aM=>?_;unfold SA;have ev:l.length<=68719476736:=by simp[eA,eo,et,lim]at aM;omega
 simp;refine dO [0,5,6] (fun i (_:Unit)=>[(7,.int .i64 i)]) l.length (fun i _=> ∀j,j<i->iF mG nW l j) () bT (fun k ad=>Ω) (fun _ ae _=>?_) (fun i _ hi ae _=>?_)
 ·have:R=true:=by rw[<-aU,eW,Hr];exact ae
  rw[this];exact bQ
 ·obtain⟨b,af⟩:∃b,l[i]? =some b:=⟨_,b6 hi⟩;obtain⟨c,aw⟩:∃c,l[i-1]? =some c:=⟨_,b6 Ω⟩;have cD:∀h,(l[i]'h)=b:=fun h=>by rw[b6 hi]at af;exact ed af
  have cU:¬iF mG nW l i->R=false:=fun h=>by rw[<-aU,fC];exact fun cn=>h (Hr.1 cn i hi)
  have cF:iF mG nW l i->∀j,j<i+1->iF mG nW l j:=fun h j gq=>by
   by_cases e:j=i
   ·rw[e];exact h
   ·exact ae j Ω
  have p8:iF mG nW l i->mG b:=fun h=>(h b af).1;have bE:iF mG nW l i->0<i->c.v<b.v:=fun h br=>(h b af).2 c br aw;have ef:mG b->(0<i->c.v<b.v)->iF mG nW l i:=fun J U b4 gb=>by rw[af]at gb;cases gb;exact⟨J,fun cw br hT=>by rw[aw]at hT;cases hT;exact U br⟩
  unfold mG at p8 ef;by_cases g0:0<i/\¬c.v<b.v
  ·rw[cU (fun h=>g0.2 (bE h g0.1))];have asY:=g0.1;have wJ:b.v<=c.v:=Ω
   exact bQ
  have aR:(decide (0<i)&&decide (b.v<=c.v))=false:=by simp;intro h;by_cases cZ:c.v<b.v;exact cZ;exact absurd ⟨h,cZ⟩ g0
  by_cases g1:0<=b.v/\b.v<=100000;rotate_left
  ·rw[cU (fun h=>g1 (p8 h).1)];have lz:decide (0<=b.v/\b.v<=100000)=false:=by simp only[fC];exact g1
   by_cases br:0<i
   ·have wJ:¬b.v<=c.v:=by simp[br]at aR;omega
    simp[hi,cD,aw];(with_reducible repeat' first|refine ai ?_|refine az (dJ _ _ _) ?_|refine aA (dJ _ _ _) ?_|simp[cD,aw,hi,br,wJ,lz,g1]);all_goals simp[bq,EF,aX,aZ,aW]
   ·obtain rfl:i=0:=Ω
    simp[hi,cD,aw];(with_reducible repeat' first|refine ai ?_|refine az (dJ _ _ _) ?_|refine aA (dJ _ _ _) ?_|simp[cD,aw,hi,lz,g1]);all_goals simp[bq,EF,aX,aZ,aW]
  have lz:decide (0<=b.v/\b.v<=100000)=true:=by simp only[eW];exact g1
  by_cases g2:b.k=2\/b.k=3;rotate_left
  ·rw[cU (fun h=>g2 (p8 h).2)];have g21:(b.k !=2)=true:=by simp;omega
   have g22:(b.k !=3)=true:=by simp;omega
   by_cases br:0<i
   ·have wJ:¬b.v<=c.v:=by simp[br]at aR;omega
    simp[hi,cD,aw];(with_reducible repeat' first|refine ai ?_|refine az (dJ _ _ _) ?_|refine aA (dJ _ _ _) ?_|simp[cD,aw,hi,br,wJ,lz,g1,g21,g22]);all_goals simp[bq,EF,aX,aZ,aW]
   ·obtain rfl:i=0:=Ω
    simp[hi,cD,aw];(with_reducible repeat' first|refine ai ?_|refine az (dJ _ _ _) ?_|refine aA (dJ _ _ _) ?_|simp[cD,aw,hi,lz,g1,g21,g22]);all_goals simp[bq,EF,aX,aZ,aW]
  have dX:=cF (ef ⟨g1,g2⟩ fun br=>by simp[br]at aR;omega);have agz:((b.k !=2)=false)\/((b.k !=2)=true/\(b.k !=3)=false):=by
   rcases g2 with h|h
   ·left;simp[h]
   ·right;simp[h]
  rcases agz with g21|⟨g21,g22⟩
  ·by_cases br:0<i
   ·have wJ:¬b.v<=c.v:=by simp[br]at aR;omega
    simp[hi,cD,aw];(with_reducible repeat' first|refine ai ?_|refine az (dJ _ _ _) ?_|refine aA (dJ _ _ _) ?_|simp[cD,aw,hi,br,wJ,lz,g1,g21]);all_goals exact bK.rng () hi dX bT
   ·obtain rfl:i=0:=Ω
    simp[hi,cD,aw];(with_reducible repeat' first|refine ai ?_|refine az (dJ _ _ _) ?_|refine aA (dJ _ _ _) ?_|simp[cD,aw,hi,lz,g1,g21]);all_goals exact bK.rng () hi dX bT
  ·by_cases br:0<i
   ·have wJ:¬b.v<=c.v:=by simp[br]at aR;omega
    simp[hi,cD,aw];(with_reducible repeat' first|refine ai ?_|refine az (dJ _ _ _) ?_|refine aA (dJ _ _ _) ?_|simp[cD,aw,hi,br,wJ,lz,g1,g21,g22]);all_goals exact bK.rng () hi dX bT
   ·obtain rfl:i=0:=Ω
    simp[hi,cD,aw];(with_reducible repeat' first|refine ai ?_|refine az (dJ _ _ _) ?_|refine aA (dJ _ _ _) ?_|simp[cD,aw,hi,lz,g1,g21,g22]);all_goals exact bK.rng () hi dX bT
theorem mq(a b:bj):bC al 215 [a.e,b.e] (.bool (h5 fs a b)):=by
 rw[<-Xu];have aU:uf a b=(decide (a.v<b.v)||(a.v==b.v&&hP a.s b.s)):=rfl;rcases Int.lt_trichotomy a.v b.v with h|h|h
 ·have:uf a b=true:=by rw[aU];simp[h]
  rw[this];refine bc mL La NZ fun aM=>?_;unfold F7;exact bQ
 ·have J:¬a.v<b.v:=Ω
  have U:(a.v==b.v)=true:=by simp[h]
  have:uf a b=hP a.s b.s:=by rw[aU];simp[h]
  rw[this];refine bc mL La NZ fun aM=>?_;unfold F7;exact bQ
 ·have J:¬a.v<b.v:=Ω
  have U:¬a.v=b.v:=Ω
  have ar:(a.v==b.v)=false:=by simp[U]
  have:uf a b=false:=by rw[aU];simp[J,U]
  rw[this];refine bc mL La NZ fun aM=>?_;unfold F7;exact bQ
def Wa(l:List c3)(i:Nat)(_:Unit):Prop:= ∀j,j<i->BK l j
open Classical in
theorem aqS(l:List c3):bC al 164 [.slice 5 .no (l.map c3.e)] (.bool (decide (Aa l))):=by
 generalize aU:decide (Aa l)=R;refine bc eX af6 am7 fun aM=>?_;unfold SV;have ev:l.length<=68719476736:=by simp[eA,eo,et,lim]at aM;omega
 simp;refine dO [0,5,6] (fun i (_:Unit)=>[(7,.int .i64 i)]) l.length (Wa l) () bT (fun k ad=>Ω) (fun _ ae _=>?_) (fun i _ hi ae _=>?_)
 ·have:R=decide (l.length<=400):=by rw[<-aU,decide_eq_decide];exact⟨fun h=>h.1,fun h=>⟨h,fun j gq=>ae j gq⟩⟩
  rw[this];simp;(with_reducible repeat' first|refine ai ?_|simp);simp[bq,OF,aX,aZ,aW];all_goals(first|done|omega|(simp;done)|(simp;omega))
 ·obtain⟨b,af⟩:∃b,l[i]? =some b:=⟨_,b6 hi⟩;obtain⟨c,aw⟩:∃c,l[i-1]? =some c:=⟨_,b6 Ω⟩;have cD:∀h,(l[i]'h)=b:=fun h=>by rw[b6 hi]at af;exact ed af
  have cU:¬BK l i->R=false:=fun h=>by rw[<-aU,fC];exact fun cn=>h (cn.2 i hi)
  have cF:BK l i->Wa l (i+1) ():=fun h j gq=>by
   by_cases e:j=i
   ·rw[e];exact h
   ·exact ae j Ω
  simp[hi,cD,aw];((with_reducible repeat' first|refine ai ?_|refine az (dJ _ _ _) ?_|refine aA (dJ _ _ _) ?_|refine az (PR _) ?_|refine aA (PR _) ?_|simp[cD,aw,hi]|((first|apply bU|apply bY|apply bX)<;>intro h<;>try simp at h))<;>(try exact cz));all_goals first
   |(have ax:¬BK l i:=by(intro cn;have J:=cn b af;have U:=J.2.1 c;have ar:=J.2.2;first|omega|(have a6:=U Ω aw;omega)|(rw[ar]at h;cases h)|(simp_all;done)|(simp_all;omega))
     rw[cU ax]
     simp[bq,OF,aX,aZ,aW]
     done)
   |(refine bK.rng () hi (cF fun b4 gb=>?_) ?_
     ·rw[af]at gb;cases gb
      refine⟨?_,fun cw br hT=>?_,?_⟩
      ·omega
      ·rw[aw]at hT;cases hT;omega
      ·first|assumption|simp_all
     ·exact bT)
def nf(n:Int):List Int->List Int
 |[]=>[n]
 |c::l=>if c<n then c::nf n l else if c=n then c::l else n::c::l
def uH(l:List Int):Prop:=l.Pairwise (· < ·)
theorem V2(n:Int):∀(l:List Int) (k:Nat),(∀i c,i<k->l[i]? =some c->c<n)->(∀c,l[k]? =some c->n<=c)->k<=l.length->nf n l=if l[k]? =some n then l else l.take k++n::l.drop k
 |[],k,_,_,ad=>by simp at ad;subst ad;rfl
 |c::l,0,_,U,_=>by
  have:=U c rfl;by_cases e:c=n
  ·simp[nf,e]
  ·have ar:¬c<n:=Ω
   simp[nf,ar,e]
 |c::l,k+1,J,U,ad=>by have br:=J 0 c Ω rfl;simp only[nf,if_pos br,List.take_succ_cons,List.drop_succ_cons,bW,List.getElem?_cons_succ];rw[V2 n l k (fun i d hi aR=>J (i+1) d Ω (by simpa using aR)) (fun d aR=>U d (by simpa using aR)) (by simpa using ad)];split<;>rfl
theorem Nj{n m:Int}:∀{l:List Int},m∈nf n l↔m=n\/m∈l
 |[]=>by simp[nf]
 |c::l=>by
  simp only[nf];split
  ·simp only[fT,Nj (l:=l)];constructor
   ·rintro(h|h|h)
    ·exact .inr (.inl h)
    ·exact .inl h
    ·exact .inr (.inr h)
   ·rintro(h|h|h)
    ·exact .inr (.inl h)
    ·exact .inl h
    ·exact .inr (.inr h)
  ·split
   ·rename_i h;subst h;simp
   ·simp
theorem V1{n:Int}:∀{l:List Int},uH l->uH (nf n l)
 |[],_=>by simp[nf,uH]
 |c::l,h=>by
  obtain⟨J,U⟩:=nz.1 h;simp only[nf];split
  ·rename_i ar;refine nz.2 ⟨fun m hm=>?_,V1 U⟩;rcases Nj.1 hm with rfl|hm
   ·exact ar
   ·exact J m hm
  ·split
   ·exact h
   ·refine nz.2 ⟨fun m hm=>?_,h⟩;rcases fT.1 hm with rfl|hm
    ·omega
    ·have:=J m hm;omega
theorem V3(n:Int):∀l:List Int,(nf n l).length<=l.length+1
 |[]=>by simp[nf]
 |c::l=>by
  have:=V3 n l;simp only[nf];split
  ·simp;omega
  ·split<;>simp
theorem DX(l:List Int)(i:Nat):(dM l)[i]? =(l[i]?).map (aj.int .i64):=by simp[dM]
theorem ff(l:List Int):(dM l).length=l.length:=by simp[dM]
theorem zM:∀l:List Int,c6 (dM l)=dM l
 |[]=>by simp[dM,c6]
 |a::l=>by have:=zM l;simp only[dM,gM,c6,dz]at this⊢;rw[this]
theorem Hh(l:List Int)(n:Int)(k:Nat):c6 (ku k (dM l)++aj.int .i64 n::ny k (ku l.length (dM l)))=dM (ku k l++n::ny k l):=by
 have e:ku l.length (dM l)=dM l:=hY (by simp[dM]);have aD:ku k (dM l)++aj.int .i64 n::ny k (dM l)=dM (ku k l++n::ny k l):=by simp only[dM,rT,gM,List.map_take,List.map_drop]
 rw[e,aD];exact zM _
theorem aqP(l:List Int)(n:Int)(au:l.length<=1000000)(bD:uH l):bC al 230 [.slice 1 .no (dM l),.int .i64 n] (.slice 1 .no (dM (nf n l))):=by
 refine bc eX afX amY fun aM=>?_;unfold SK;simp;refine u5 [0,1] (fun(k:Nat)=>[(5,.int .i64 k)]) (fun k=>k) (fun k=>k<=l.length/\∀c,l[k]? =some c->n<=c) l.length bT ⟨Ω,fun c h=>by simp at h⟩ (fun k ae _=>?_);obtain⟨ad,ae⟩:=ae;have wQ:(∀c,0<k->l[k-1]? =some c->c<n)->nf n l=if l[k]? =some n then l else l.take k++n::l.drop k:=fun h=>V2 n l k (fun i c hi aw=>by
  obtain⟨d,aR⟩:∃d,l[k-1]? =some d:=⟨_,b6 Ω⟩;have J:=h d Ω aR;rcases Nat.lt_or_ge i (k-1)with U|U
  ·have tM:=(eV.1 aw);have k9:=(eV.1 aR);have:=qo.1 bD i (k-1) tM.1 k9.1 U;rw[tM.2,k9.2]at this;omega
  ·have:i=k-1:=Ω
   subst this;rw[aR]at aw;cases aw;exact J) ae ad
 have l3:∀c,l[k]? =some c->∀h,((dM l)[k]'h)= .int .i64 c:=fun c h cn=>by have:=DX l k;rw[h,b6 cn]at this;exact ed this
 have dX:(0<k->∃d,l[k-1]? =some d/\d<n)->∀P:Prop,(nf n l=(if l[k]? =some n then l else l.take k++n::l.drop k)->P)->P:=fun h P LB=>LB (wQ fun c br aw=>by obtain⟨d,aR,J⟩:=h br;rw[aR]at aw;cases aw;exact J)
 rcases Nat.eq_zero_or_pos k with br|fG
 ·have bz:decide ((0:Int)<k)=false:=by simp;omega
  refine dX (fun h=>Ω) _ fun e=>?_;by_cases iV:k<l.length
  ·obtain⟨c,aw⟩:∃c,l[k]? =some c:=⟨_,b6 iV⟩;have hT:=l3 c aw;rw[aw]at e;by_cases q:c=n
   ·have gK:(c==n)=true:=by simp[q]
    rw[if_pos (by rw[q])]at e;rw[e];simp[bz,iV];((with_reducible repeat' first|refine ai ?_|simp[bz,iV,hT,gK]|((first|apply bU|apply bY|apply bX)<;>intro h<;>try simp at h))<;>(try exact cz));all_goals simp[bq,zx,aX,aZ,aW]
   ·have gK:(c==n)=false:=by simp[q]
    rw[if_neg (by simp[q])]at e;rw[e];simp[bz,iV];((with_reducible repeat' first|refine ai ?_|simp[bz,iV,hT,gK]|((first|apply bU|apply bY|apply bX)<;>intro h<;>try simp at h))<;>(try exact cz));all_goals simp[bq,zx,aX,aZ,aW]
    all_goals exact Hh l n k
  ·rw[qZ Ω]at e;simp only[reduceCtorEq,if_false]at e;rw[e];simp[bz,iV];((with_reducible repeat' first|refine ai ?_|simp[bz,iV]|((first|apply bU|apply bY|apply bX)<;>intro h<;>try simp at h))<;>(try exact cz));all_goals simp[bq,zx,aX,aZ,aW]
   all_goals exact Hh l n k
 ·obtain⟨d,aR⟩:∃d,l[k-1]? =some d:=⟨_,b6 Ω⟩;have ak:((k:Int)-1).toNat=k-1:=Ω
  have aD:∀h,((dM l)[k-1]'h)= .int .i64 d:=fun cn=>by have:=DX l (k-1);rw[aR,b6 cn]at this;exact ed this
  have jq:(0:Int)<k:=Ω
  have mB:k-1<l.length:=Ω
  by_cases af:n<=d
  ·simp[fG,jq,ak,aD,af,mB];(with_reducible repeat' first|refine ai ?_|simp[fG,jq,ak,aD,af,mB]);refine bK.whl (k-1) Ω ⟨Ω,fun c aw=>by rw[aR]at aw;cases aw;exact af⟩ ?_;have bh:((k-1:Nat):Int)=(k:Int)-1:=Ω
   simp[bh];exact bT
  ·refine dX (fun _=>⟨d,aR,Ω⟩) _ fun e=>?_;by_cases iV:k<l.length
   ·obtain⟨c,aw⟩:∃c,l[k]? =some c:=⟨_,b6 iV⟩;have hT:=l3 c aw;rw[aw]at e;by_cases q:c=n
    ·have gK:(c==n)=true:=by simp[q]
     rw[if_pos (by rw[q])]at e;rw[e];simp[fG,jq,ak,aD,af,mB,iV];((with_reducible repeat' first|refine ai ?_|simp[fG,jq,ak,aD,af,mB,iV,hT,gK]|((first|apply bU|apply bY|apply bX)<;>intro h<;>try simp at h))<;>(try exact cz));all_goals simp[bq,zx,aX,aZ,aW]
    ·have gK:(c==n)=false:=by simp[q]
     rw[if_neg (by simp[q])]at e;rw[e];simp[fG,jq,ak,aD,af,mB,iV];(with_reducible repeat' first|refine ai ?_|simp[fG,jq,ak,aD,af,mB,iV,hT,gK]);all_goals simp[bq,zx,aX,aZ,aW]
     all_goals exact Hh l n k
   ·rw[qZ Ω]at e;simp only[reduceCtorEq,if_false]at e;rw[e];simp[fG,jq,ak,aD,af,mB,iV];(with_reducible repeat' first|refine ai ?_|simp[fG,jq,ak,aD,af,mB,iV]);all_goals simp[bq,zx,aX,aZ,aW]
    all_goals exact Hh l n k
def iZ:T->List Int->List Int
 | .var n,l=>nf n l
 | .pair a b,l=>iZ b (iZ a l)
 |_,l=>l
theorem PU:∀(t:T) {l:List Int},uH l->uH (iZ t l)
 | .var _,_,h=>V1 h
 | .pair a b,_,h=>PU b (PU a h)
 | .nil,_,h=>h
 | .sym _,_,h=>h
 | .num _,_,h=>h
theorem HM{m:Int}:∀(t:T) {l:List Int},m∈iZ t l↔t.occ m=true\/m∈l
 | .var n,l=>by simp only[iZ,Nj,T.occ,eb];constructor<;>rintro(h|h)<;>first|exact .inr h|exact .inl h.symm
 | .pair a b,l=>by
  simp only[iZ,HM b,HM a,T.occ,lu];constructor
  ·rintro(h|h|h)
   ·exact .inl (.inr h)
   ·exact .inl (.inl h)
   ·exact .inr h
  ·rintro((h|h)|h)
   ·exact .inr (.inl h)
   ·exact .inl h
   ·exact .inr (.inr h)
 | .nil,l=>by simp[iZ,T.occ]
 | .sym _,l=>by simp[iZ,T.occ]
 | .num _,l=>by simp[iZ,T.occ]
theorem Fh:∀(t:T) (l:List Int),(iZ t l).length<=l.length+t.size
 | .var n,l=>by have:=V3 n l;simp only[iZ,T.size];omega
 | .pair a b,l=>by have J:=Fh a l;have U:=Fh b (iZ a l);simp only[iZ,T.size];omega
 | .nil,l=>by simp[iZ]
 | .sym _,l=>by simp[iZ]
 | .num _,l=>by simp[iZ]
theorem Jm:∀(t:T) (l:List Int),l.length+t.size<=1000000->uH l->bC al 165 [t.e,.slice 1 .no (dM l)] (.slice 1 .no (dM (iZ t l)))
 | .var n,l,au,bD=>by
  simp only[T.size]at au;have key:=aqP l n Ω bD;refine bc eX C1 Ep fun aM=>?_;unfold Am;simp;(with_reducible repeat' first|refine ai ?_|refine az key ?_|refine aA key ?_|simp);all_goals simp[bq,B4,aX,aZ,aW]
  all_goals simp[iZ,zM]
 | .pair a b,l,au,bD=>by
  simp only[T.size]at au;have D6:=Fh a l;have aS:=Jm a l Ω bD;have be:=Jm b (iZ a l) Ω (PU a bD);refine bc eX C1 Ep fun aM=>?_;unfold Am;simp;refine dO [15,16] (fun i (_:Unit)=>[(1,.slice 1 .no (dM (if i=0 then l else if i=1 then iZ a l else iZ b (iZ a l)))),(17,.int .i64 i)]) 2 (fun _ _=>True) () bT trivial (fun _ _ _=>?_) (fun i _ hi _ _=>?_)
  ·simp;(with_reducible repeat' first|refine ai ?_|simp);simp[bq,B4,aX,aZ,aW];simp[iZ,zM]
  ·rcases(by omega:i=0\/i=1)with rfl|rfl
   ·simp;((with_reducible repeat' first|refine ai ?_|refine az aS ?_|refine aA aS ?_|simp|((first|apply bU|apply bY|apply bX)<;>intro h<;>try simp at h))<;>(try exact cz));exact bK.rng () hi trivial bT
   ·simp;((with_reducible repeat' first|refine ai ?_|refine az be ?_|refine aA be ?_|simp|((first|apply bU|apply bY|apply bX)<;>intro h<;>try simp at h))<;>(try exact cz));exact bK.rng () hi trivial bT
 | .nil,l,au,bD=>by refine bc eX C1 Ep fun aM=>?_;unfold Am;simp;refine dO [15,16] (fun i (_:Unit)=>[(1,.slice 1 .no (dM l)),(17,.int .i64 i)]) 0 (fun _ _=>True) () bT trivial (fun _ _ _=>?_) (fun i _ hi _ _=>Ω);simp;((with_reducible repeat' first|refine ai ?_|simp|((first|apply bU|apply bY|apply bX)<;>intro h<;>try simp at h))<;>(try exact cz));simp[bq,B4,aX,aZ,aW];simp[iZ,zM]
 | .sym _,l,au,bD=>by refine bc eX C1 Ep fun aM=>?_;unfold Am;simp;refine dO [15,16] (fun i (_:Unit)=>[(1,.slice 1 .no (dM l)),(17,.int .i64 i)]) 0 (fun _ _=>True) () bT trivial (fun _ _ _=>?_) (fun i _ hi _ _=>Ω);simp;(with_reducible repeat' first|refine ai ?_|simp);simp[bq,B4,aX,aZ,aW];simp[iZ,zM]
 | .num _,l,au,bD=>by refine bc eX C1 Ep fun aM=>?_;unfold Am;simp;refine dO [15,16] (fun i (_:Unit)=>[(1,.slice 1 .no (dM l)),(17,.int .i64 i)]) 0 (fun _ _=>True) () bT trivial (fun _ _ _=>?_) (fun i _ hi _ _=>Ω);simp;(with_reducible repeat' first|refine ai ?_|simp);simp[bq,B4,aX,aZ,aW];simp[iZ,zM]
def ajJ(s:List dw)(a b:T)(i:Nat)(_:Unit):Prop:=(1<=i->a.has s=false)/\(2<=i->b.has s=false)
theorem PJ(s:List dw):∀t:T,bC al 77 [t.e,.str s] (.bool (t.has s))
 | .pair a b=>by
  have dG:=PJ s a;have dK:=PJ s b;refine bc mL C2 Er fun aM=>?_;unfold Ao;simp;refine dO [1,2,8,9] (fun i (_:Unit)=>[(10,.int .i64 i)]) 2 (ajJ s a b) () bT ⟨fun h=>Ω,fun h=>Ω⟩ (fun _ ae _=>?_) (fun i _ hi ae _=>?_)
  ·simp;(with_reducible repeat' first|refine ai ?_|simp);simp[bq,xC,aX,aZ,aW];simp[T.has,ae.1,ae.2]
  ·rcases(by omega:i=0\/i=1)with rfl|rfl
   ·cases bD:a.has s
    ·rw[bD]at dG;simp;((with_reducible repeat' first|refine ai ?_|refine az dG ?_|refine aA dG ?_|simp|((first|apply bU|apply bY|apply bX)<;>intro h<;>try simp at h))<;>(try exact cz));exact bK.rng () hi ⟨fun _=>bD,fun h=>Ω⟩ bT
    ·rw[bD]at dG;simp;((with_reducible repeat' first|refine ai ?_|refine az dG ?_|refine aA dG ?_|simp|((first|apply bU|apply bY|apply bX)<;>intro h<;>try simp at h))<;>(try exact cz));simp[bq,xC,aX,aZ,aW];simp[T.has,bD]
   ·cases af:b.has s
    ·rw[af]at dK;simp;((with_reducible repeat' first|refine ai ?_|refine az dK ?_|refine aA dK ?_|simp|((first|apply bU|apply bY|apply bX)<;>intro h<;>try simp at h))<;>(try exact cz));exact bK.rng () hi ⟨fun _=>ae.1 Ω,fun _=>af⟩ bT
    ·rw[af]at dK;simp;((with_reducible repeat' first|refine ai ?_|refine az dK ?_|refine aA dK ?_|simp|((first|apply bU|apply bY|apply bX)<;>intro h<;>try simp at h))<;>(try exact cz));simp[bq,xC,aX,aZ,aW];simp[T.has,af]
 | .sym n=>by
  refine bc mL C2 Er fun aM=>?_;unfold Ao;simp;refine dO [1,2,8,9] (fun i (_:Unit)=>[(10,.int .i64 i)]) 0 (fun i _=>True) () bT trivial (fun _ ae _=>?_) (fun i _ hi ae _=>Ω);simp;(with_reducible repeat' first|refine ai ?_|simp);all_goals simp[bq,xC,aX,aZ,aW]
  all_goals simp[T.has]
 | .num n=>by
  refine bc mL C2 Er fun aM=>?_;unfold Ao;simp;refine dO [1,2,8,9] (fun i (_:Unit)=>[(10,.int .i64 i)]) 0 (fun i _=>True) () bT trivial (fun _ ae _=>?_) (fun i _ hi ae _=>Ω);simp;(with_reducible repeat' first|refine ai ?_|simp);all_goals simp[bq,xC,aX,aZ,aW]
  all_goals simp[T.has]
 | .var n=>by
  refine bc mL C2 Er fun aM=>?_;unfold Ao;simp;refine dO [1,2,8,9] (fun i (_:Unit)=>[(10,.int .i64 i)]) 0 (fun i _=>True) () bT trivial (fun _ ae _=>?_) (fun i _ hi ae _=>Ω);simp;(with_reducible repeat' first|refine ai ?_|simp);all_goals simp[bq,xC,aX,aZ,aW]
  all_goals simp[T.has]
 | .nil=>by
  refine bc mL C2 Er fun aM=>?_;unfold Ao;simp;refine dO [1,2,8,9] (fun i (_:Unit)=>[(10,.int .i64 i)]) 0 (fun i _=>True) () bT trivial (fun _ ae _=>?_) (fun i _ hi ae _=>Ω);simp;(with_reducible repeat' first|refine ai ?_|simp);all_goals simp[bq,xC,aX,aZ,aW]
  all_goals simp[T.has]
def n4(l:List bN)(o:Option (List bN)):aj:= .tuple [.slice 2 .no ((o.getD l).map bN.e),.bool o.isSome]
@[simp]theorem auj(S:aI->Prop)(l:List bN)(o:Option (List bN)):aB S (n4 l o)=True:=by simp[n4]
def xc(l:List bN)(n:Int)(i:Nat):Prop:=i<=l.length/\∀j y,j<i->l[j]? =some y->y.v<n
theorem xc.none{l:List bN}{n:Int}{i:Nat}(h:xc l n i)(bD:l.Pairwise fun x y=>x.v<y.v)(aw:∀c,l[i]? =some c->n<c.v):lH l n=none:=y6.2 fun x ab=>by
 obtain⟨j,dj,rfl⟩:=og ab;have e:=b6 dj;rcases Nat.lt_or_ge j i with J|J
 ·have:=h.2 j _ J e;omega
 ·have GP:i<l.length:=Ω
  have aD:=b6 GP;have ar:=aw _ aD;rcases Nat.lt_or_ge i j with U|U
  ·have:=qo.1 bD i j GP dj U;omega
  ·obtain rfl:i=j:=Ω
   omega
theorem xc.ins{l:List bN}{n k:Int}{i:Nat}(h:xc l n i)(aw:∀c,l[i]? =some c->n<c.v):ma ⟨n,k⟩ l=l.take i++⟨n,k⟩::l.drop i:=V4 ⟨n,k⟩ l i (fun j y J U=>h.2 j y J U) (fun y aL=>by have:=aw y aL;simp;omega) h.1
theorem xc.step{l:List bN}{n:Int}{i:Nat}{b:bN}(h:xc l n i)(af:l[i]? =some b)(ax:b.v<n):xc l n (i+1):=⟨(eV.1 af).1,fun j y J U=>by
 rcases(by omega:j<i\/j=i)with ar|rfl
 ·exact h.2 j y ar U
 ·rw[af]at U;cases U;exact ax⟩
theorem aq2(l:List bN)(au:l.length<=1000000)(bD:l.Pairwise fun x y=>x.v<y.v)(n k:Int):bC al 178 [.slice 2 .no (l.map bN.e),(T.var n).e,.int .i64 k] (n4 l (jk l (.var n) k)):=by
 generalize du:jk l (.var n) k=O;have ek:(match lH l n with|some bJ=>if bJ=k then some l else none|none=>some (ma ⟨n,k⟩ l))=O:=by rw[<-du];rfl
 clear du;refine bc mL C3 Es fun aM=>?_;unfold Ap;simp;refine u5 [0,2,4] (fun(i:Nat)=>[(8,.int .i64 i)]) (fun i=>l.length-i) (xc l n) 0 bT ⟨Ω,fun j y h=>Ω⟩ (fun i ae _=>?_);have ad:=ae.1;by_cases hi:i<l.length
 ·obtain⟨b,af,cD⟩:=eh hi;rcases Int.lt_trichotomy b.v n with h|h|h
  ·have ag:=ae.step af h;clear ek ae af bD;simp[hi,cD,h];((with_reducible repeat' first|refine ai ?_|simp[hi,cD,h]|((first|apply bU|apply bY|apply bX)<;>intro h<;>try simp at h))<;>(try exact cz));exact bK.whl (i+1) Ω ag bT
  ·have a7:lH l n=some b.k:=by rw[<-h];exact Hs bD (dV af)
   have J:¬b.v<n:=Ω
   have U:(b.v==n)=true:=by simp[h]
   rw[a7]at ek;simp only at ek;subst ek;clear ae af bD a7;simp[hi,cD,J,U];(with_reducible repeat' first|refine ai ?_|simp[hi,cD,J,U]);all_goals simp[bq,xD,aX,aZ,aW]
   all_goals(by_cases e:b.k=k<;>simp[n4,e])
  ·have J:¬b.v<n:=Ω
   have U:(b.v==n)=false:=by simp;omega
   have aw:∀c,l[i]? =some c->n<c.v:=fun c aw=>by rw[af]at aw;cases aw;exact h
   rw[ae.none bD aw]at ek;simp only[ae.ins aw]at ek;subst ek;clear ae af bD aw;simp[hi,cD,J,U];(with_reducible repeat' first|refine ai ?_|simp[hi,cD,J,U]);all_goals simp[bq,xD,aX,aZ,aW]
   all_goals simp[n4]
   rw[hY (by simp:(l.map bN.e).length<=l.length),<-List.map_take,<-List.map_drop,<-gM,<-rT];exact Pf _
 ·have aw:∀c,l[i]? =some c->n<c.v:=fun c aw=>by rw[qZ Ω]at aw;cases aw
  rw[ae.none bD aw]at ek;simp only[ae.ins aw]at ek;have GP:i=l.length:=Ω
  clear ae bD aw;subst ek;subst GP;simp;(with_reducible repeat' first|refine ai ?_|simp);all_goals simp[bq,xD,aX,aZ,aW]
  all_goals simp[n4]
  rw[hY (by simp:(l.map bN.e).length<=l.length),show [(⟨n,k⟩:bN).e]=[(⟨n,k⟩:bN)].map bN.e from rfl,<-rT];exact Pf _
theorem PK(l:List bN)(au:l.length<=1000000)(bD:l.Pairwise fun x y=>x.v<y.v)(t:T)(k:Int):bC al 178 [.slice 2 .no (l.map bN.e),t.e,.int .i64 k] (n4 l (jk l t k)):=by
 cases t with
 |var n=>exact aq2 l au bD n k
 |nil=>
  refine bc mL C3 Es fun aM=>?_;unfold Ap;simp;(with_reducible repeat' first|refine ai ?_|simp);all_goals simp[bq,xD,aX,aZ,aW]
  all_goals(by_cases e:0=k<;>simp[n4,jk,e])
 |sym n=>
  refine bc mL C3 Es fun aM=>?_;unfold Ap;simp;(with_reducible repeat' first|refine ai ?_|simp);all_goals simp[bq,xD,aX,aZ,aW]
  all_goals(by_cases e:2=k<;>simp[n4,jk,e])
 |num n=>
  refine bc mL C3 Es fun aM=>?_;unfold Ap;simp;(with_reducible repeat' first|refine ai ?_|simp);all_goals simp[bq,xD,aX,aZ,aW]
  all_goals(by_cases e:3=k<;>simp[n4,jk,e])
 |pair a b=>
  refine bc mL C3 Es fun aM=>?_;unfold Ap;simp;(with_reducible repeat' first|refine ai ?_|simp);all_goals simp[bq,xD,aX,aZ,aW]
  all_goals(by_cases e:4=k<;>simp[n4,jk,e])
theorem aaY(s:List ao)(v:Int):hH s (.var v)=bp s v:=rfl
theorem PL{s:List ao}(ag:e5 s){l:List bN}(au:jE l):bC al 217 [.slice 5 .no (s.map ao.e),.slice 2 .no (l.map bN.e)] (fX (gx s l [])):=by
 have yO:=rv au;refine bc mL agd anf fun aM=>?_;unfold S3;simp;refine dO [0,11,12] (fun i (a:List bN)=>[(6,.slice 2 .no (a.map bN.e)),(13,.int .i64 i)]) l.length (V8 s l) [] bT ⟨⟨Ψ,Ψ⟩,rfl⟩ (fun a ae _=>?_) (fun i a hi ae _=>?_)
 ·obtain⟨_,ae⟩:=ae;rw[List.drop_length]at ae;simp only[gx]at ae;rw[<-ae];simp;(with_reducible repeat' first|refine ai ?_|simp);simp[bq,OH,aX,aZ,aW];simp[fX]
 ·obtain⟨bD,ae⟩:=ae;obtain⟨b,af,cD⟩:=eh hi;have pj:=au.at' b (dV af);rw[lR hi,cD]at ae;simp only[gx]at ae;have lF:=Jn s ag.len (.var b.v);rw[aaY]at lF;have dv:=PK a (by have:=rv bD;omega) bD.asc (bp s b.v) b.k;simp[hi,cD];cases ek:jk a (bp s b.v) b.k with
  |none=>rw[ek]at ae dv;simp only at ae;rw[<-ae];simp only[n4]at dv;(with_reducible repeat' first|refine ai ?_|refine az (jW _) ?_|refine aA (jW _) ?_|refine az lF ?_|refine aA lF ?_|refine az dv ?_|refine aA dv ?_|simp[cD,hi]);simp[bq,OH,aX,aZ,aW];simp[fX]
  |some bs=>rw[ek]at ae dv;simp only[n4]at dv;(with_reducible repeat' first|refine ai ?_|refine az (jW _) ?_|refine aA (jW _) ?_|refine az lF ?_|refine aA lF ?_|refine az dv ?_|refine aA dv ?_|simp[cD,hi]);exact bK.rng bs hi ⟨FD bD (Cd ag pj.1) pj.2 ek,ae⟩ bT
open Classical in
theorem arb(l:List bj):bC al 145 [.slice 2 .no (l.map bj.e)] (.bool (decide (hN l))):=by
 generalize aU:decide (hN l)=R;refine bc mL afO amP fun aM=>?_;unfold SB;have ev:l.length<=68719476736:=by simp[eA,eo,et,lim]at aM;omega
 simp;refine dO [0,5,6] (fun i (_:Unit)=>[(7,.int .i64 i)]) l.length (fun i _=> ∀j,j<i->iF kF kY l j) () bT (fun k ad=>Ω) (fun _ ae _=>?_) (fun i _ hi ae _=>?_)
 ·have:R=true:=by rw[<-aU,eW,HH];exact ae
  rw[this];exact bQ
 ·obtain⟨b,af⟩:∃b,l[i]? =some b:=⟨_,b6 hi⟩;obtain⟨c,aw⟩:∃c,l[i-1]? =some c:=⟨_,b6 Ω⟩;have cD:∀h,(l[i]'h)=b:=fun h=>by rw[b6 hi]at af;exact ed af
  have cU:¬iF kF kY l i->R=false:=fun h=>by rw[<-aU,fC];exact fun cn=>h (HH.1 cn i hi)
  have cF:iF kF kY l i->∀j,j<i+1->iF kF kY l j:=fun h j gq=>by
   by_cases e:j=i
   ·rw[e];exact h
   ·exact ae j Ω
  have gQ:∀p:Prop,(p->e8)->(iF kF kY l i->p)->R=false:=fun p J U=>cU fun h=>J (U h);have p8:iF kF kY l i->kF b:=fun h=>(h b af).1;have bE:iF kF kY l i->0<i->h5 fs c b=true:=fun h br=>by simpa[h5,kY]using(h b af).2 c br aw
  have ef:kF b->(0<i->h5 fs c b=true)->iF kF kY l i:=fun J U b4 gb=>by rw[af]at gb;cases gb;exact⟨J,fun cw br hT=>by rw[aw]at hT;cases hT;simpa[h5,kY]using U br⟩
  unfold kF at p8 ef;by_cases g4:0<i
  ·cases g5:h5 fs c b
   ·rw[gQ _ (fun h=>by rw[h]at g5;cases g5) (fun h=>bE h g4)];simp[hi,cD,aw];(with_reducible repeat' first|refine ai ?_|refine az (mq _ _) ?_|refine aA (mq _ _) ?_|simp[cD,aw,hi,g4,g5]);all_goals simp[bq,B2,aX,aZ,aW]
   ·by_cases g1:0<=b.v/\b.v<=100000;rotate_left
    ·rw[gQ _ (fun h=>g1 h) (fun h=>(p8 h).1)];have lz:decide (0<=b.v/\b.v<=100000)=false:=by simp only[fC];exact g1
     simp[hi,cD,aw];(with_reducible repeat' first|refine ai ?_|refine az (mq _ _) ?_|refine aA (mq _ _) ?_|refine az (dJ _ _ _) ?_|refine aA (dJ _ _ _) ?_|simp[cD,aw,hi,g4,g5,lz,g1]);all_goals simp[bq,B2,aX,aZ,aW]
    have lz:decide (0<=b.v/\b.v<=100000)=true:=by simp only[eW];exact g1
    cases g3:iX b.s
    ·rw[gQ _ (fun h=>by rw[h]at g3;cases g3) (fun h=>(p8 h).2)];have ck:=hs b.s;rw[g3]at ck;simp[hi,cD,aw];(with_reducible repeat' first|refine ai ?_|refine az (mq _ _) ?_|refine aA (mq _ _) ?_|refine az (dJ _ _ _) ?_|refine aA (dJ _ _ _) ?_|refine az ck ?_|refine aA ck ?_|simp[cD,aw,hi,g4,g5,lz,g1]);all_goals simp[bq,B2,aX,aZ,aW]
    have ck:=hs b.s;rw[g3]at ck;have dX:=cF (ef ⟨g1,g3⟩ fun _=>g5);simp[hi,cD,aw];(with_reducible repeat' first|refine ai ?_|refine az (mq _ _) ?_|refine aA (mq _ _) ?_|refine az (dJ _ _ _) ?_|refine aA (dJ _ _ _) ?_|refine az ck ?_|refine aA ck ?_|simp[cD,aw,hi,g4,g5,lz,g1]);all_goals exact bK.rng () hi dX bT
  ·obtain rfl:i=0:=Ω
   by_cases g1:0<=b.v/\b.v<=100000;rotate_left
   ·rw[gQ _ (fun h=>g1 h) (fun h=>(p8 h).1)];have lz:decide (0<=b.v/\b.v<=100000)=false:=by simp only[fC];exact g1
    simp[hi,cD,aw];(with_reducible repeat' first|refine ai ?_|refine az (mq _ _) ?_|refine aA (mq _ _) ?_|refine az (dJ _ _ _) ?_|refine aA (dJ _ _ _) ?_|simp[cD,aw,hi,g4,lz,g1]);all_goals simp[bq,B2,aX,aZ,aW]
   have lz:decide (0<=b.v/\b.v<=100000)=true:=by simp only[eW];exact g1
   cases g3:iX b.s
   ·rw[gQ _ (fun h=>by rw[h]at g3;cases g3) (fun h=>(p8 h).2)];have ck:=hs b.s;rw[g3]at ck;simp[hi,cD,aw];(with_reducible repeat' first|refine ai ?_|refine az (mq _ _) ?_|refine aA (mq _ _) ?_|refine az (dJ _ _ _) ?_|refine aA (dJ _ _ _) ?_|refine az ck ?_|refine aA ck ?_|simp[cD,aw,hi,g4,lz,g1]);all_goals simp[bq,B2,aX,aZ,aW]
   have ck:=hs b.s;rw[g3]at ck;have dX:=cF (ef ⟨g1,g3⟩ fun h=>absurd h g4);simp[hi,cD,aw];(with_reducible repeat' first|refine ai ?_|refine az (mq _ _) ?_|refine aA (mq _ _) ?_|refine az (dJ _ _ _) ?_|refine aA (dJ _ _ _) ?_|refine az ck ?_|refine aA ck ?_|simp[cD,aw,hi,g4,lz,g1]);all_goals exact bK.rng () hi dX bT
def p6(s:List dw)(bf:List Int)(l:List bj):List bj:=bf.foldl (fun a v=>kE fs ⟨v,s⟩ a) l
theorem Lf(s:List dw):∀(bf:List Int) {l:List bj},h7 fs l->h7 fs (p6 s bf l)
 |[],_,h=>h
 |v::bf,_,h=>Lf s bf (MB mi h)
theorem Xf(s:List dw){x:bj}:∀(bf:List Int) {l:List bj},x∈p6 s bf l↔x∈l\/(x.s=s/\x.v∈bf)
 |[],l=>by simp[p6]
 |v::bf,l=>by
  have:=Xf s (x:=x) bf (l:=kE fs ⟨v,s⟩ l);rw[show p6 s (v::bf) l=p6 s bf (kE fs ⟨v,s⟩ l)from rfl,this,HK mi,fT];constructor
  ·rintro((rfl|h)|⟨J,U⟩)
   ·exact .inr ⟨rfl,.inl rfl⟩
   ·exact .inl h
   ·exact .inr ⟨J,.inr U⟩
  ·rintro(h|⟨J,U|U⟩)
   ·exact .inl (.inr h)
   ·refine .inl (.inl ?_);cases x;simp_all
   ·exact .inr ⟨J,U⟩
theorem Uf(s:List dw):∀(bf:List Int) (l:List bj),(p6 s bf l).length<=l.length+bf.length
 |[],l=>by simp[p6]
 |v::bf,l=>by have J:=Uf s bf (kE fs ⟨v,s⟩ l);have U:=MD (c:=fs) (⟨v,s⟩:bj) l;rw[show p6 s (v::bf) l=p6 s bf (kE fs ⟨v,s⟩ l)from rfl];simp only[oX];omega
theorem agp{t:T}{s:List dw}(cZ:t.has s=false){l:List bj}(bD:h7 fs l):j1 l t s=some (p6 s (iZ t []) l):=JR cZ (Lf s _ bD) fun x=>by rw[Xf,HM];simp
def D0(l:List bj)(bf:List Int)(s:List dw)(i:Nat)(a:List bj):Prop:=a=p6 s (bf.take i) l
def Bn(a:List bj)(m:bj)(k:Nat):Prop:=k<=a.length/\∀j y,j<k->a[j]? =some y->fs y m<0
theorem Bn.step{a:List bj}{m:bj}{k:Nat}{b:bj}(h:Bn a m k)(af:a[k]? =some b)(ax:fs b m<0):Bn a m (k+1):=⟨(eV.1 af).1,fun j y J U=>by
 rcases(by omega:j<k\/j=k)with ar|rfl
 ·exact h.2 j y ar U
 ·rw[af]at U;cases U;exact ax⟩
theorem Bn.fin{a:List bj}{m:bj}{k:Nat}(h:Bn a m k)(aw:∀y,a[k]? =some y->0<=fs y m):kE fs m a=if(match a[k]? with|some y=>decide (fs y m=0)|none=>false)=true then a else a.take k++m::a.drop k:=(MC mi m a k (fun j y J U=>h.2 j y J U) aw h.1).trans (by cases a[k]?<;>rfl)
theorem Xr(a:List bj)(k:Nat)(m:bj):ku k (a.map bj.e)++m.e::ny k (a.map bj.e)=(a.take k++m::a.drop k).map bj.e:=by simp
theorem BF(a:List bj)(k:Nat)(m:bj):c6 (ku k (a.map bj.e)++m.e::ny k (a.map bj.e))=ku k (a.map bj.e)++m.e::ny k (a.map bj.e):=by rw[Xr,Pg]
theorem BE(S:aI->Prop)(a:List bj)(k:Nat)(m:bj):aC S (ku k (a.map bj.e)++m.e::ny k (a.map bj.e))=True:=by rw[Xr,WG]
theorem Xq(a:List bj)(m:bj):a.map bj.e++[m.e]=(a++[m]).map bj.e:=by simp
theorem BD(a:List bj)(m:bj):c6 (a.map bj.e++[m.e])=a.map bj.e++[m.e]:=by rw[Xq,Pg]
theorem BC(S:aI->Prop)(a:List bj)(m:bj):aC S (a.map bj.e++[m.e])=True:=by rw[Xq,WG]
theorem aaB(l:List bj)(au:l.length<=68719470000)(t:T)(aJ:t.size<=5000)(s:List dw)(bD:h7 fs l):bC al 179 [.slice 2 .no (l.map bj.e),t.e,.str s] (ig (j1 l t s)):=by
 have kV:=PJ s t;cases cZ:t.has s;rotate_left
 ·have br:j1 l t s=none:=by simp[j1,cZ]
  rw[br];rw[cZ]at kV;refine bc mL T5 XV fun aM=>?_;unfold Kt;simp;(with_reducible repeat' first|refine ai ?_|refine az kV ?_|refine aA kV ?_|simp);all_goals simp[bq,OI,aX,aZ,aW]
  all_goals simp[ig]
 ·rw[cZ]at kV;have ek:=agp cZ bD;have qD:=Fh t [];have mH:=Jm t [] d7 (by simp[uH]);have LD:dM []=[]:=rfl;rw[LD]at mH;rw[ek];clear ek cZ;generalize iZ t []=bf at mH qD⊢;have lh:bf.length<=5000:=by simp at qD;omega
  generalize hh:p6 s bf l=F;refine bc mL T5 XV fun aM=>?_;unfold Kt;simp;(with_reducible repeat' first|refine ai ?_|refine az kV ?_|refine aA kV ?_|refine az mH ?_|refine aA mH ?_|simp[ff]);refine dO [2,17,18] (fun i (a:List bj)=>[(0,.slice 2 .no (a.map bj.e)),(19,.int .i64 i)]) bf.length (D0 l bf s) l ⟨by simp[fresh,aC,aB,bP,inObs,Pv.look,ff],dD g8,dE g9,Ψ⟩ (by simp[D0,p6]) (fun a ae _=>?_) (fun i a hi ae _=>?_)
  ·rw[D0,je,hh]at ae;subst ae;simp[ff];(with_reducible repeat' first|refine ai ?_|simp[ff]);all_goals simp[bq,OI,aX,aZ,aW]
   all_goals simp[ig]
  ·obtain⟨v,aF⟩:∃v,bf[i]? =some v:=⟨_,b6 hi⟩;have rr:∀h,((dM bf)[i]'h)= .int .i64 v:=fun cn=>by have:=DX bf i;rw[aF,b6 cn]at this;exact ed this
   have sn:h7 fs a:=by rw[ae];exact Lf s _ bD
   have sp:a.length<=68719475000:=by have:=Uf s (bf.take i) l;rw[ae];simp at this⊢;omega
   have fF:D0 l bf s (i+1) (kE fs ⟨v,s⟩ a):=by rw[D0,lS,aF,ae];simp[p6]
   generalize hm:(⟨v,s⟩:bj)=m at fF;have aiv:m.v=v:=by rw[<-hm]
   have vt:m.s=s:=by rw[<-hm]
   subst aiv;subst vt;clear ae hh;simp[hi,rr,ff];(with_reducible repeat' first|refine ai ?_|simp[hi,rr,ff]);refine u5 [0,2,10,17,18,19] (fun(k:Nat)=>[(11,.int .i64 k)]) (fun k=>a.length-k) (Bn a m) 0 ⟨by simp[fresh,aC,aB,bP,inObs,Pv.look,ff],dD g8,dE g9,Ψ⟩ ⟨Ω,fun j y h=>Ω⟩ (fun k ae _=>?_);have ad:=ae.1;by_cases hK:k<a.length
   ·obtain⟨b,af,cD⟩:=eh hK;cases bE:h5 fs b m
    ·have vo:0<=fs b m:=by simpa[h5]using bE
     have dX:=ae.fin (fun y aL=>by rw[af]at aL;cases aL;exact vo);rw[af]at dX;cases GO:h5 fs m b
     ·have hle:0<=fs m b:=by simpa[h5]using GO
      have br:fs b m=0:=by have:=mi.neg b m;omega
      rw[if_pos (by simp[br])]at dX;rw[dX]at fF;clear ae af dX sp sn;simp[hK,cD];((with_reducible repeat' first|refine ai ?_|refine az (mq _ _) ?_|refine aA (mq _ _) ?_|simp[hK,cD,bE,GO]|((first|apply bU|apply bY|apply bX)<;>intro h<;>try simp at h))<;>(try exact cz));all_goals exact bK.rng a hi fF ⟨by simp[fresh,aC,aB,bP,inObs,Pv.look,ff],dD g8,dE g9,Ψ⟩
     ·have hle:fs m b<0:=by simpa[h5]using GO
      have br:¬fs b m=0:=by have:=mi.neg b m;omega
      rw[if_neg (by simp[br])]at dX;rw[dX]at fF;clear ae af dX sn;simp[hK,cD];((with_reducible repeat' first|refine ai ?_|refine az (mq _ _) ?_|refine aA (mq _ _) ?_|simp[hK,cD,bE,GO]|((first|apply bU|apply bY|apply bX)<;>intro h<;>try simp at h))<;>(try exact cz));all_goals first|(refine⟨by unfold lim;omega,?_⟩)|skip
      all_goals(with_reducible repeat' first|refine ai ?_|simp)
      all_goals first|(refine⟨by unfold lim;omega,?_⟩)|skip
      all_goals((with_reducible repeat' first|refine ai ?_|simp|((first|apply bU|apply bY|apply bX)<;>intro h<;>try simp at h))<;>(try exact cz))
      all_goals exact bK.rng _ hi fF ⟨by simp[fresh,aC,aB,bP,inObs,Pv.look,ff,hY,BF,BE,BD,BC],dD (by simp[fresh,aC,aB,bP,inObs,Pv.look,ff,hY,BF,BE,BD,BC]),dE (by simp[fresh,aC,aB,dt,inObs,Pv.look,ff,hY,BF,BE,BD,BC]),Ψ⟩
    ·have wW:fs b m<0:=by simpa[h5]using bE
     have ag:=ae.step af wW;clear ae af sn fF;simp[hK,cD];((with_reducible repeat' first|refine ai ?_|refine az (mq _ _) ?_|refine aA (mq _ _) ?_|simp[hK,cD,bE]|((first|apply bU|apply bY|apply bX)<;>intro h<;>try simp at h))<;>(try exact cz));all_goals exact bK.whl (k+1) Ω ag ⟨by simp[fresh,aC,aB,bP,inObs,Pv.look,ff],dD g8,dE g9,Ψ⟩
   ·have dX:=ae.fin (fun y aL=>by rw[qZ Ω]at aL;cases aL);rw[qZ Ω]at dX;simp only[ho,if_false]at dX;rw[dX]at fF;have iV:k=a.length:=Ω
    clear ae dX sn;subst iV;simp;(with_reducible repeat' first|refine ai ?_|simp);all_goals first|(refine⟨by unfold lim;omega,?_⟩)|skip
    all_goals(with_reducible repeat' first|refine ai ?_|simp)
    all_goals first|(refine⟨by unfold lim;omega,?_⟩)|skip
    all_goals(with_reducible repeat' first|refine ai ?_|simp)
    all_goals exact bK.rng _ hi fF ⟨by simp[fresh,aC,aB,bP,inObs,Pv.look,ff,hY,BF,BE,BD,BC],dD (by simp[fresh,aC,aB,bP,inObs,Pv.look,ff,hY,BF,BE,BD,BC]),dE (by simp[fresh,aC,aB,dt,inObs,Pv.look,ff,hY,BF,BE,BD,BC]),Ψ⟩
theorem PM{s:List ao}(ag:e5 s){l:List bj}(au:hN l){G:List (List dw)}(iI:G.length<=687000)(a7:n7 G l):bC al 218 [.slice 5 .no (s.map ao.e),.slice 2 .no (l.map bj.e)] (ig (gy s l [])):=by
 have hlen:∀{a:List bj},hN a->n7 G a->a.length<=68719470000:=fun J U=>by have:=Eb J U;omega
 have yO:=hlen au a7;refine bc mL age ang fun aM=>?_;unfold S4;simp;refine dO [0,11,12] (fun i (a:List bj)=>[(6,.slice 2 .no (a.map bj.e)),(13,.int .i64 i)]) l.length (V9 s G l) [] bT ⟨⟨Ψ,by simp[h7]⟩,fun x ab=>by simp at ab,rfl⟩ (fun a ae _=>?_) (fun i a hi ae _=>?_)
 ·obtain⟨_,_,ae⟩:=ae;rw[List.drop_length]at ae;simp only[gy]at ae;rw[<-ae];simp;(with_reducible repeat' first|refine ai ?_|simp);simp[bq,OJ,aX,aZ,aW];simp[ig]
 ·obtain⟨bD,DQ,ae⟩:=ae;obtain⟨b,af,cD⟩:=eh hi;have pj:=au.at' b (dV af);have LK:=a7 b (dV af);rw[lR hi,cD]at ae;simp only[gy]at ae;have lF:=Jn s ag.len (.var b.v);rw[aaY]at lF;have dv:=aaB a (hlen bD DQ) (bp s b.v) (EW ag b.v) b.s bD.asc;simp[hi,cD];cases ek:j1 a (bp s b.v) b.s with
  |none=>rw[ek]at ae dv;simp only at ae;rw[<-ae];simp only[ig]at dv;(with_reducible repeat' first|refine ai ?_|refine az (jW _) ?_|refine aA (jW _) ?_|refine az lF ?_|refine aA lF ?_|refine az dv ?_|refine aA dv ?_|simp[cD,hi]);simp[bq,OJ,aX,aZ,aW];simp[ig]
  |some bs=>rw[ek]at ae dv;simp only[ig]at dv;(with_reducible repeat' first|refine ai ?_|refine az (jW _) ?_|refine aA (jW _) ?_|refine az lF ?_|refine aA lF ?_|refine az dv ?_|refine aA dv ?_|simp[cD,hi]);exact bK.rng bs hi ⟨FE bD (Cd ag pj.1) pj.2 ek,FF DQ LK ek,ae⟩ bT
theorem apO{s:List ao}(ay:qO s)(bD:hg s)(aK:hR s):hc (s.map ao.b)=s.all (mP s):=by
 rw[qY,jd,rN,<-Zx bD];constructor
 ·rintro⟨ah,J,U,ar,a6⟩;rw[wv J];exact ar
 ·intro ar;exact⟨s,rfl,ay,ar,aK⟩
theorem abZ{s:List ao}(bD:hg s)(b:ao):mP s b=true↔(∀v∈iZ b.t [],cS s v=none)/\(b.t.kind==1&&decide (b.v<=b.t.int))=false:=by unfold mP;rw[cy,Ug bD];simp only[true_and,Bool.not_eq_true',HM,List.not_mem_nil,or_false]
def DZ(s:List ao)(bf:List Int)(i:Nat)(_:Unit):Prop:= ∀v∈bf.take i,cS s v=none
theorem DZ.step{s:List ao}{bf:List Int}{i:Nat}(h:DZ s bf i ()){v:Int}(aF:bf[i]? =some v)(ax:cS s v=none):DZ s bf (i+1) ():=fun w hw=>by
 rw[lS,aF]at hw;simp only[kt,Option.toList_some,List.mem_singleton]at hw;rcases hw with hw|rfl
 ·exact h w hw
 ·exact ax
theorem PQ(l:List c3):bC al 142 [.slice 5 .no (l.map c3.e)] (.bool (hc l)):=by
 have aF:=aqS l;by_cases h:Aa l;rotate_left
 ·have br:hc l=false:=by unfold hc;simp only[fC];rintro⟨s,J,U,ar,a6⟩;exact h (Js.2 ⟨s,J,U,ar.asc,a6⟩)
  rw[br];refine bc eX T4 XU fun aM=>?_;unfold Ks;exact bQ
 ·obtain⟨s,rfl,ay,bD,aK⟩:=Js.1 h;have au:s.length<=1000000:=by have:=aK.1;omega
  rw[apO ay bD aK];rw[zf]at aF⊢;simp only[h,decide_true]at aF;clear h;generalize aU:s.all (mP s)=R;refine bc eX T4 XU fun aM=>?_;unfold Ks;simp;(with_reducible repeat' first|refine ai ?_|refine az aF ?_|refine aA aF ?_|simp);refine dO [0,12,13] (fun i (_:Unit)=>[(14,.int .i64 i)]) s.length (pA (mP s) s) () bT (fun k b ad=>Ω) (fun _ ae _=>?_) (fun i _ hi ae _=>?_)
  ·have:R=true:=by rw[<-aU,jd];intro b af;obtain⟨k,ad,e⟩:=og af;exact ae k b ad (by rw[b6 ad,e])
   rw[this];exact bQ
  ·obtain⟨b,af,cD⟩:=eh hi;have gQ:¬mP s b=true->R=false:=fun h=>by rw[<-aU,Bool.eq_false_iff];intro cn;rw[jd]at cn;exact h (cn b (dV af))
   have su:mP s b=true->pA (mP s) s (i+1) ():=fun h=>ae.step af h;have j5:=abZ bD b;have eC:=aK.2 b (dV af);have qD:=Fh b.t [];have mH:=Jm b.t [] d7 (by simp[uH]);have LD:dM []=[]:=rfl;rw[LD]at mH;generalize iZ b.t []=bf at mH qD j5;have lh:bf.length<=5000:=by simp at qD;omega
   rw[j5]at gQ su;clear j5 ae qD af;simp[hi,cD];cases ad:(b.t.kind==1&&decide (b.v<=b.t.int));rotate_left
   ·rw[gQ (by rw[ad];simp)];rw[cy]at ad;have gI:=ad.1;have lB:b.v<=b.t.int:=of_decide_eq_true ad.2;exact bQ
   ·rw[ad]at gQ su;simp only[and_true]at gQ su;cases gI:(b.t.kind==1)
    ·clear ad;(with_reducible repeat' first|refine ai ?_|refine az mH ?_|refine aA mH ?_|simp[cD,hi,ff,gI]);refine dO [0,12,13,14,32,33] (fun j (_:Unit)=>[(34,.int .i64 j)]) bf.length (DZ s bf) () ⟨by simp[fresh,aC,aB,bP,inObs,Pv.look,ff],dD g8,dE g9,Ψ⟩ (fun v aF=>by simp at aF) (fun _ ae _=>?_) (fun j _ dj ae _=>?_)
     ·have a7:=su (fun v aF=>ae v (by rwa[je]));simp[ff];(with_reducible repeat' first|refine ai ?_|simp[ff]);exact bK.rng () hi a7 ⟨by simp[fresh,aC,aB,bP,inObs,Pv.look,ff],dD g8,dE g9,Ψ⟩
     ·obtain⟨v,aF⟩:∃v,bf[j]? =some v:=⟨_,b6 dj⟩;have rr:∀h,((dM bf)[j]'h)= .int .i64 v:=fun cn=>by have:=DX bf j;rw[aF,b6 cn]at this;exact ed this
      have iK:=uF s v au;cases hz:cS s v with
      |none=>have ax:=ae.step aF hz;rw[hz]at iK;simp only[kv,jN]at iK;clear ae su gQ hz;simp[dj,rr,ff];(with_reducible repeat' first|refine ai ?_|refine az iK ?_|refine aA iK ?_|simp[dj,rr,ff]);exact bK.rng () dj ax ⟨by simp[fresh,aC,aB,bP,inObs,Pv.look,ff],dD g8,dE g9,Ψ⟩
      |some x=>rw[gQ (fun h=>by have:=h v (dV aF);rw[hz]at this;cases this)];rw[hz]at iK;simp only[jM,oZ]at iK;clear ae su gQ hz;simp[dj,rr,ff];(with_reducible repeat' first|refine ai ?_|refine az iK ?_|refine aA iK ?_|simp[dj,rr,ff]);simp[bq,Oz,aX,aZ,aW]
    ·have lB:¬b.v<=b.t.int:=by rw[gI]at ad;simpa using ad
     clear ad;(with_reducible repeat' first|refine ai ?_|refine az mH ?_|refine aA mH ?_|simp[cD,hi,ff,gI,lB]);refine dO [0,12,13,14,32,33] (fun j (_:Unit)=>[(34,.int .i64 j)]) bf.length (DZ s bf) () ⟨by simp[fresh,aC,aB,bP,inObs,Pv.look,ff],dD g8,dE g9,Ψ⟩ (fun v aF=>by simp at aF) (fun _ ae _=>?_) (fun j _ dj ae _=>?_)
     ·have a7:=su (fun v aF=>ae v (by rwa[je]));simp[ff];(with_reducible repeat' first|refine ai ?_|simp[ff]);exact bK.rng () hi a7 ⟨by simp[fresh,aC,aB,bP,inObs,Pv.look,ff],dD g8,dE g9,Ψ⟩
     ·obtain⟨v,aF⟩:∃v,bf[j]? =some v:=⟨_,b6 dj⟩;have rr:∀h,((dM bf)[j]'h)= .int .i64 v:=fun cn=>by have:=DX bf j;rw[aF,b6 cn]at this;exact ed this
      have iK:=uF s v au;cases hz:cS s v with
      |none=>have ax:=ae.step aF hz;rw[hz]at iK;simp only[kv,jN]at iK;clear ae su gQ hz;simp[dj,rr,ff];(with_reducible repeat' first|refine ai ?_|refine az iK ?_|refine aA iK ?_|simp[dj,rr,ff]);exact bK.rng () dj ax ⟨by simp[fresh,aC,aB,bP,inObs,Pv.look,ff],dD g8,dE g9,Ψ⟩
      |some x=>rw[gQ (fun h=>by have:=h v (dV aF);rw[hz]at this;cases this)];rw[hz]at iK;simp only[jM,oZ]at iK;clear ae su gQ hz;simp[dj,rr,ff];(with_reducible repeat' first|refine ai ?_|refine az iK ?_|refine aA iK ?_|simp[dj,rr,ff]);simp[bq,Oz,aX,aZ,aW]
theorem aaJ{s:List ao}(h:e5 s):bC al 142 [.slice 5 .no (s.map ao.e)] (.bool true):=by have:=PQ (s.map ao.b);rw[zf,rN.2 ⟨s,rfl,h.ok,h.sol,h.fits⟩]at this;exact this
def Aq:C:=(aa [cC 2 0,a8 4 false] (.seq (aa [aE 7 3 1 2,av 8 1 7,ca 9 8,bS 10 0] (e0 11 10 9 (.seq (.block 1 (aa [cf 12 4 8 10,aY 13 4 12,c1 6 dH,bB 4 6 13] (aa [aY 14 4 6,I 15 1,b2 16 136 14 15,cj 17 16] (aT 17 (aa [a8 4 false] .ret) .skip)))) (.region [aV 18 .add 10 1,I 10 18])))) (aa [aE 19 0 1 2,av 20 1 19,aV 21 .neq 20 1,I 22 21,aq 22 false (aE 23 1 1 2),aq 22 false (av 24 1 23),cb 22 false 25 1,aq 22 false (bk 26 .lss 24 25),cW 27 22 26,I 4 27] .ret)))
@[simp] def xE:List bO:=[.tmp 4]
def S0:C:=(aa [a8 2 false] (.seq (aa [I 5 0,ca 6 5,bS 7 0] (e0 8 7 6 (.seq (.block 1 (aa [cf 9 1 5 7,av 10 1 9,I 4 10] (aa [I 11 4,cB 12 142 11,cj 13 12] (aT 13 (aa [a8 2 false] .ret) .skip)))) (.region [aV 14 .add 7 1,I 7 14])))) (aa [a8 2 true] .ret)))
@[simp] def aoH:List bO:=[.tmp 2]
def S5:C:=(aa [a8 4 false] (.seq (aa [I 7 0,ca 8 7,bS 9 0] (e0 10 9 8 (.seq (.block 1 (aa [cf 11 5 7 9,aY 12 5 11,c1 6 jF,bB 5 6 12] (aa [aE 13 0 1 6,av 14 1 13,I 15 1,bk 16 .geq 14 15,I 17 16,aq 17 false (eO 18 1 4 6),aq 17 false (aY 19 4 18),cb 17 false 20 1,aq 17 false (b2 21 136 19 20),aq 17 false (cj 22 21),cW 23 17 22] (aT 23 (aa [a8 4 false] .ret) .skip)))) (.region [aV 24 .add 9 1,I 9 24])))) (aa [a8 4 true] .ret)))
@[simp] def aoL:List bO:=[.tmp 4]
def SZ:C:=(aa [er 4 5] (aa [eI 10 5 61 [],I 5 10] (.seq (aa [I 11 1,ca 12 11,bS 13 0] (e0 14 13 12 (.seq (.block 1 (aa [cf 15 5 11 13,aY 16 5 15,c1 7 jF,bB 5 7 16] (aa [I 18 0,aE 19 0 1 7,av 20 1 19,b2 21 161 18 20,I 17 21,cr 22 0 17,cr 23 1 17,c1 8 dH,bB 4 8 22,I 9 23] (aa [I 24 9,cj 25 24] (aT 25 (.region [I 26 5,aY 27 5 7,eI 28 5 61 [.t 27],h6 29 5 61 26 28,I 5 29]) .skip))))) (.region [aV 30 .add 13 1,I 13 30])))) (aa [I 31 5,I 4 31] .ret))))
@[simp] def aoF:List bO:=[.tmp 4]
def S1:C:=(aa [bS 4 0] (.seq (aa [bS 5 0] (.block 0 (.loop (.seq (aa [I 7 5,I 8 0,ca 9 8,bk 10 .lss 7 9,I 11 10,cb 11 true 12 5,cb 11 true 13 1,aq 11 true (ca 14 13),aq 11 true (bk 15 .lss 12 14),dL 16 11 15] (aT 16 .skip (.exit 0))) (.seq (.block 1 (.seq (.seq (.drawn true 67 [I 19 0,I 20 5,cf 21 5 19 20,aE 22 0 1 21,av 23 1 22,I 24 1,I 25 5,cf 26 5 24 25,aE 27 0 1 26,av 28 1 27,bk 29 .neq 23 28]) (aT 29 (.seq (.drawn true 67 [I 30 0,I 31 5,cf 32 5 30 31,aE 33 0 1 32,av 34 1 33,I 35 1,I 36 5,cf 37 5 35 36,aE 38 0 1 37,av 39 1 38,bk 40 .lss 34 39,cB 41 238 40,I 4 41]) .ret) .skip)) (.seq (.drawn true 67 [I 42 0,I 43 5,cf 44 5 42 43,eO 45 1 4 44,aY 46 4 45,I 47 1,I 48 5,cf 49 5 47 48,eO 50 1 4 49,aY 51 4 50,b2 52 229 46 51,I 6 52]) (aa [I 53 6,aV 54 .neq 53 0] (aT 54 (aa [I 55 6,I 4 55] .ret) .skip))))) (.region [I 17 5,aV 18 .add 17 1,I 5 18])))))) (.seq (aa [I 56 0,ca 57 56,I 58 1,ca 59 58,bk 60 .neq 57 59] (aT 60 (aa [I 61 0,ca 62 61,I 63 1,ca 64 63,bk 65 .lss 62 64,cB 66 238 65,I 4 66] .ret) .skip)) (aa [bS 4 0] .ret))))
@[simp] def EG:List bO:=[.tmp 4]
def S2:C:=(aa [er 2 1] (aa [eI 11 1 23 [],I 3 11] (.seq (.seq (.fg false 3 (.region [I 12 0,ca 13 12,bS 14 0])) (e0 15 14 13 (.seq (.block 1 (aa [cf 16 1 12 14,av 17 1 16,I 5 17] (aa [a8 6 true] (.seq (aa [I 18 0,ca 19 18,bS 20 0] (.block 2 (.loop (aa [bk 21 .lss 20 19] (.seq (aT 21 .skip (.exit 2)) (.seq (.block 3 (aa [cf 22 1 18 20,av 23 1 22,I 8 23] (.region [I 24 6,I 25 24,cb 25 true 26 8,cb 25 true 27 5,aq 25 true (b2 28 180 26 27),aq 25 true (aV 29 .eql 28 0),cb 25 true 30 29,cb 30 false 31 8,cb 30 false 32 5,aq 30 false (b2 33 269 31 32),aq 30 false (cj 34 33),aq 25 true (cW 35 30 34),dL 36 25 35,I 6 36]))) (.region [aV 37 .add 20 1,I 20 37]))))))) (aa [I 38 3,ca 39 38,I 9 39] (.seq (.block 4 (.loop (.seq (aa [I 40 9,aV 41 .gtr 40 0,I 42 41,cb 42 true 43 3,cb 42 true 44 9,aq 42 true (aV 45 .sub 44 1),aq 42 true (cf 46 1 43 45),aq 42 true (av 47 1 46),cb 42 true 48 5,aq 42 true (b2 49 180 47 48),aq 42 true (aV 50 .geq 49 0),dL 51 42 50] (aT 51 .skip (.exit 4))) (.block 5 (.region [I 52 9,aV 53 .sub 52 1,I 9 53]))))) (aa [I 54 6,I 55 54,cb 55 true 56 9,cb 55 true 57 3,aq 55 true (ca 58 57),aq 55 true (bk 59 .eql 56 58),cb 55 true 60 59,cb 60 false 61 3,cb 60 false 62 9,aq 60 false (cf 63 1 61 62),aq 60 false (av 64 1 63),cb 60 false 65 5,aq 60 false (b2 66 180 64 65),aq 60 false (aV 67 .neq 66 0),aq 55 true (cW 68 60 67),dL 69 55 68] (aT 69 (aa [eI 70 1 23 [],I 71 3,I 72 9,b5 73 (.lsl 1 (.t 71) none (some (.t 72))),h6 74 1 23 70 73,I 10 74] (aa [I 75 10,I 76 5,eI 77 1 23 [.t 76],h6 78 1 23 75 77,I 10 78] (.region [I 79 10,I 80 3,I 81 9,b5 82 (.lsl 1 (.t 80) (some (.t 81)) none),h6 83 1 23 79 82,I 3 83]))) .skip)))))))) (.fg false 3 (.region [aV 84 .add 14 1,I 14 84]))))) (aa [I 85 3,I 2 85] .ret))))
@[simp] def aoI:List bO:=[.tmp 2]
def SC:C:=(aa [a8 4 false] (.seq (aa [I 11 0,cB 12 142 11,cj 13 12,I 14 13,cb 14 false 15 1,aq 14 false (cB 16 142 15),aq 14 false (cj 17 16),cW 18 14 17] (aT 18 (aa [a8 4 false] .ret) .skip)) (.seq (aa [I 19 0,ca 20 19,bS 21 0] (e0 22 21 20 (.seq (.block 1 (aa [cf 23 5 19 21,aY 24 5 23,c1 6 jF,bB 5 6 24] (aa [I 26 1,aE 27 0 1 6,av 28 1 27,cB 29 91 28,b2 30 166 26 29,I 25 30,cr 31 0 25,cr 32 1 25,c1 7 dH,bB 4 7 31,I 8 32] (aa [I 34 1,eO 35 1 4 6,aY 36 4 35,b2 37 166 34 36,I 33 37,cr 38 0 33,cr 39 1 33,c1 9 dH,bB 4 9 38,I 10 39] (aa [I 40 8,cj 41 40,I 42 41,cb 42 false 43 10,aq 42 false (cj 44 43),cW 45 42 44,I 46 45,aq 46 false (aY 47 4 7),aq 46 false (aY 48 4 9),aq 46 false (b2 49 167 47 48),aq 46 false (cj 50 49),cW 51 46 50] (aT 51 (aa [a8 4 false] .ret) .skip)))))) (.region [aV 52 .add 21 1,I 21 52])))) (aa [a8 4 true] .ret))))
@[simp] def Oy:List bO:=[.tmp 4]
def xQ:List (Nat×dN):=[
 (3,⟨1,8,.int .i64,.int .i64 0⟩),
 (23,⟨1,24,.slice 61,.slice 5 .nil []⟩),
 (24,⟨1,24,.slice 23,.slice 1 .nil []⟩),
 (30,⟨1,24,.slice 32,.slice 4 .nil []⟩),
 (32,⟨4,56,.struct [(0,3),(1,3),(2,9),(3,30)],.agg [.int .i64 0,.int .i64 0,.str [],.slice 4 .nil []]⟩),
 (61,⟨5,64,.struct [(0,3),(1,32)],.agg [.int .i64 0,.int .i64 0,.int .i64 0,.str [],.slice 4 .nil []]⟩)]
theorem tc:fY al xQ=true:=by kernel_rfl
theorem Et:bZ xQ Aq xE 2 Tryz.f136=true:=by kernel_rfl
theorem C4:al.funcs[(136:Nat)]? =some Tryz.f136:=Tryz.func136
theorem anb:bZ xQ S0 aoH 1 Tryz.f143=true:=by kernel_rfl
theorem aga:al.funcs[(143:Nat)]? =some Tryz.f143:=Tryz.func143
theorem anh:bZ xQ S5 aoL 2 Tryz.f146=true:=by kernel_rfl
theorem agf:al.funcs[(146:Nat)]? =some Tryz.f146:=Tryz.func146
theorem ana:bZ xQ SZ aoF 2 Tryz.f177=true:=by kernel_rfl
theorem af9:al.funcs[(177:Nat)]? =some Tryz.f177:=Tryz.func177
theorem anc:bZ xQ S1 EG 2 Tryz.f180=true:=by kernel_rfl
theorem agb:al.funcs[(180:Nat)]? =some Tryz.f180:=Tryz.func180
theorem ane:bZ xQ S2 aoI 1 Tryz.f220=true:=by kernel_rfl
theorem agc:al.funcs[(220:Nat)]? =some Tryz.f220:=Tryz.func220
theorem amQ:bZ xQ SC Oy 2 Tryz.f269=true:=by kernel_rfl
theorem afP:al.funcs[(269:Nat)]? =some Tryz.f269:=Tryz.func269
def SN:C:=(aa [cC 2 0,cC 3 1,a8 4 false] (aa [aY 5 4 2,aY 6 4 3,b2 7 229 5 6,aV 8 .eql 7 0,I 4 8] .ret))
@[simp] def YU:List bO:=[.tmp 4]
def CQ:C:=(aa [cC 2 0,cC 3 1,bS 4 0] (.seq (aa [aE 7 0 1 2,av 8 1 7,aE 9 0 1 3,av 10 1 9,bk 11 .neq 8 10] (aT 11 (aa [aE 12 0 1 2,av 13 1 12,aE 14 0 1 3,av 15 1 14,bk 16 .lss 13 15,cB 17 238 16,I 4 17] .ret) .skip)) (.seq (aa [aE 18 1 1 2,av 19 1 18,aE 20 1 1 3,av 21 1 20,bk 22 .neq 19 21] (aT 22 (aa [aE 23 1 1 2,av 24 1 23,aE 25 1 1 3,av 26 1 25,bk 27 .lss 24 26,cB 28 238 27,I 4 28] .ret) .skip)) (.seq (aa [aE 29 2 1 2,av 30 1 29,aE 31 2 1 3,av 32 1 31,bk 33 .neq 30 32] (aT 33 (aa [aE 34 2 1 2,av 35 1 34,aE 36 2 1 3,av 37 1 36,bk 38 .lss 35 37,cB 39 238 38,I 4 39] .ret) .skip)) (.seq (aa [bS 5 0] (.block 0 (.loop (.seq (aa [I 40 5,aE 41 3 1 2,av 42 1 41,ca 43 42,bk 44 .lss 40 43,I 45 44,cb 45 true 46 5,aq 45 true (aE 47 3 1 3),aq 45 true (av 48 1 47),aq 45 true (ca 49 48),aq 45 true (bk 50 .lss 46 49),dL 51 45 50] (aT 51 .skip (.exit 0))) (.seq (.block 1 (.seq (.drawn true 68 [aE 54 3 1 2,av 55 1 54,I 56 5,cf 57 4 55 56,aY 58 4 57,aE 59 3 1 3,av 60 1 59,I 61 5,cf 62 4 60 61,aY 63 4 62,b2 64 229 58 63,I 6 64]) (aa [I 65 6,aV 66 .neq 65 0] (aT 66 (aa [I 67 6,I 4 67] .ret) .skip)))) (.region [I 52 5,aV 53 .add 52 1,I 5 53])))))) (aa [bS 4 0] .ret))))))
@[simp] def B3:List bO:=[.tmp 4]
def SO:C:=(aa [bS 2 0] (.seq (aa [I 3 0] (aT 3 (aa [bS 2 (-1)] .ret) .skip)) (aa [bS 2 1] .ret)))
@[simp] def YV:List bO:=[.tmp 2]
def Jc:List (Nat×dN):=[
 (3,⟨1,8,.int .i64,.int .i64 0⟩),
 (4,⟨1,1,.bool,.bool false⟩),
 (9,⟨1,16,.str,.str []⟩),
 (23,⟨1,24,.slice 61,.slice 5 .nil []⟩),
 (24,⟨1,24,.slice 23,.slice 1 .nil []⟩),
 (30,⟨1,24,.slice 32,.slice 4 .nil []⟩),
 (32,⟨4,56,.struct [(0,3),(1,3),(2,9),(3,30)],.agg [.int .i64 0,.int .i64 0,.str [],.slice 4 .nil []]⟩),
 (61,⟨5,64,.struct [(0,3),(1,32)],.agg [.int .i64 0,.int .i64 0,.int .i64 0,.str [],.slice 4 .nil []]⟩),
 (112,⟨1,24,.slice 3,.slice 1 .nil []⟩)]
theorem Ck:fY al Jc=true:=by kernel_rfl
theorem am1:bZ Jc SN YU 2 Tryz.f167=true:=by kernel_rfl
theorem af0:al.funcs[(167:Nat)]? =some Tryz.f167:=Tryz.func167
theorem H0:bZ Jc CQ B3 2 Tryz.f229=true:=by kernel_rfl
theorem Gn:al.funcs[(229:Nat)]? =some Tryz.f229:=Tryz.func229
theorem am2:bZ Jc SO YV 1 Tryz.f238=true:=by kernel_rfl
theorem af1:al.funcs[(238:Nat)]? =some Tryz.f238:=Tryz.func238
theorem abx{t u:T}(J:t.kind=u.kind)(U:t.int=u.int)(ar:t.name=u.name)(a6:t.args=u.args):t=u:=by cases t<;>cases u<;>simp_all
theorem rR(b:Bool):bC al 238 [.bool b] (.int .i64 (if b then-1 else 1)):=by
 refine bc Ck af1 am2 fun aM=>?_;unfold SO;simp;((with_reducible repeat' first|refine ai ?_|simp|((first|apply bU|apply bY|apply bX)<;>intro h<;>try simp at h))<;>(try exact cz));all_goals simp[bq,YV,aX,aZ,aW]
 all_goals simp_all
theorem ank{a b:T}(bD:a.args=[]\/b.args=[])(J:a.kind=b.kind)(U:a.int=b.int):eK a b=k0 a.name b.name:=by cases a<;>cases b<;>simp_all[eK]
def DY(a b:T)(i:Nat)(_:Unit):Prop:=a.args.take i=b.args.take i
theorem aau(a:T)(bR:∀x∈a.args,∀b:T,bC al 229 [x.e,b.e] (.int .i64 (eK x b)))(b:T):bC al 229 [a.e,b.e] (.int .i64 (eK a b)):=by
 have hle:a.args.length<=2:=by cases a<;>simp
 by_cases ad:a.kind=b.kind
 ·by_cases hi:a.int=b.int
  ·by_cases ax:a.name=b.name
   ·have hlen:a.args.length=b.args.length:=by cases a<;>cases b<;>simp at ad⊢
    refine bc Ck Gn H0 fun aM=>?_;unfold CQ;simp[ad,hi,ax];refine dO [2,3] (fun i (_:Unit)=>[(5,.int .i64 i)]) a.args.length (DY a b) () bT (by simp[DY]) (fun _ ae _=>?_) (fun i _ bE ae _=>?_)
    ·simp;(with_reducible repeat' first|refine ai ?_|simp);simp[bq,B3,aX,aZ,aW];unfold DY at ae;rw[hY Ω,hY Ω]at ae;exact((rD a b).2 (abx ad hi ax ae)).symm
    ·have lb:i<b.args.length:=Ω
     obtain⟨x,ab⟩:∃x,x=a.args[i]:=⟨_,rfl⟩;obtain⟨y,aL⟩:∃y,y=b.args[i]:=⟨_,rfl⟩;have mF:=bR x (by rw[ab];exact List.getElem_mem bE) y;simp[bE,lb,<-ab,<-aL];(with_reducible repeat' first|((first|apply bU|apply bY|apply bX)<;>intro h<;>try simp at h)|refine ai ?_|refine az mF ?_|refine aA mF ?_|simp)
     ·simp[bq,B3,aX,aZ,aW];unfold DY at ae;cases a with
      |pair bH a2=>
       cases b with
       |pair bV b7=>
        simp at bE ae ab aL;rcases(by omega:i=0\/i=1)with rfl|rfl
        ·simp at ab aL;subst ab aL;simp[eK,h]
        ·simp at ae ab aL;subst ab aL ae;simp[eK,(rD bH bH).2 rfl]
       |_=>simp at ad
      |_=>simp at bE
     ·refine bK.rng () bE ?_ bT;unfold DY at ae⊢;rw[lS,lS,ae,b6 bE,b6 lb,<-ab,<-aL,(rD x y).1 h]
   ·refine bc Ck Gn H0 fun aM=>?_;unfold CQ;simp[ad,hi,ax];((with_reducible repeat' first|refine ai ?_|refine az (rR _) ?_|refine aA (rR _) ?_|simp|((first|apply bU|apply bY|apply bX)<;>intro h<;>try simp at h))<;>(try exact cz));simp[bq,B3,aX,aZ,aW];have:a.args=[]\/b.args=[]:=by cases a<;>cases b<;>simp at ad ax⊢
    rw[ank this ad hi,k0,if_neg ax]
  ·refine bc Ck Gn H0 fun aM=>?_;unfold CQ;simp[ad,hi];((with_reducible repeat' first|refine ai ?_|refine az (rR _) ?_|refine aA (rR _) ?_|simp|((first|apply bU|apply bY|apply bX)<;>intro h<;>try simp at h))<;>(try exact cz));simp[bq,B3,aX,aZ,aW];cases a<;>cases b<;>simp at ad hi
   ·rw[X2];simp[eN];split<;>(try split)<;>omega
   ·rw[X1];simp[eN];split<;>(try split)<;>omega
 ·refine bc Ck Gn H0 fun aM=>?_;unfold CQ;simp[ad];((with_reducible repeat' first|refine ai ?_|refine az (rR _) ?_|refine aA (rR _) ?_|simp|((first|apply bU|apply bY|apply bX)<;>intro h<;>try simp at h))<;>(try exact cz));simp[bq,B3,aX,aZ,aW];rw[sV ad];simp[eN];split<;>(try split)<;>omega
theorem Jj(a:T):∀b:T,bC al 229 [a.e,b.e] (.int .i64 (eK a b)):=by
 induction a with
 |pair x y mF oH=>
  refine aau _ fun z bz=>?_;simp at bz;rcases bz with rfl|rfl
  ·exact mF
  ·exact oH
 |_=>exact aau _ fun x ab=>by simp at ab
theorem PH(a b:T):bC al 167 [a.e,b.e] (.bool (decide (a=b))):=by refine bc Ck af0 am1 fun aM=>?_;unfold SN;simp;(with_reducible repeat' first|refine ai ?_|refine az (Jj _ _) ?_|refine aA (Jj _ _) ?_|simp);simp[bq,YU,aX,aZ,aW];have:=rD a b;by_cases h:eK a b=0<;>simp_all
theorem aqW{s t:List ao}(ag:e5 s)(aJ:e5 t):bC al 177 [.slice 5 .no (s.map ao.e),.slice 5 .no (t.map ao.e)] (.slice 5 .no ((gT s t).map ao.e)):=by
 have ai2:=aJ.len;generalize aU:gT s t=R;refine bc tc af9 ana fun aM=>?_;unfold SZ;simp;refine gA (α:=List ao) (fun i out=>⟨[(0,.slice 5 .no (s.map ao.e)),(11,.slice 5 .no (t.map ao.e)),(12,.int .i64 t.length),(5,.slice 5 (.own (.loc 0)) (out.map ao.e)),(13,.int .i64 i)],[],[(.loc 0,⟨out.length,61,5,none⟩)],1,[]⟩) t.length (rs s t) [] bT (by simp[rs,gT]) (fun out ae _=>?_) (fun i out hi ae _=>?_)
 ·rw[rs,hY (fc _),aU]at ae;rw[<-ae];exact bQ
 ·obtain⟨b,aF,gS⟩:=eh hi;have vw:out.length<=1000000:=by
   have:out.length<=(t.take i).length:=by rw[ae];exact List.length_filter_le _ _
   simp at this;omega
  have iK:=uF s b.v ag.len;cases af:cS s b.v with
  |none=>
   have ax:rs s t (i+1) (out++[b]):=by rw[rs,qQ aF,gT,List.filter_append,ae];simp[gT,af]
   rw[af]at iK;simp only[kv,jN]at iK;clear ae aF af;simp[hi,gS];(with_reducible repeat' first|refine ai ?_|refine az iK ?_|refine aA iK ?_|simp[gS,hi]);all_goals first|(refine⟨by unfold lim;omega,?_⟩)|skip
   (with_reducible repeat' first|refine ai ?_|simp);refine bK.rng (out++[b]) hi ax ?_;simp;exact⟨by simp[fresh,aC,aB,bP,inObs,Pv.look,kl],dD (by simp[fresh,aC,aB,bP,inObs,Pv.look,kl]),dE (by simp[fresh,aC,aB,dt,inObs,Pv.look,kl]),Ψ⟩
  |some x=>
   have ax:rs s t (i+1) out:=by rw[rs,qQ aF,gT,List.filter_append,ae];simp[gT,af]
   rw[af]at iK;simp only[jM,oZ]at iK;clear ae aF af;simp[hi,gS];(with_reducible repeat' first|refine ai ?_|refine az iK ?_|refine aA iK ?_|simp[gS,hi]);refine bK.rng out hi ax ?_;exact bT
theorem aqr{s t:List ao}(ag:e5 s)(aJ:e5 t):bC al 269 [.slice 5 .no (s.map ao.e),.slice 5 .no (t.map ao.e)] (.bool (nY s t)):=by
 have qd:=ag.len;generalize aU:nY s t=R;have cE:=aaJ ag;have ds:=aaJ aJ;refine bc tc afP amQ fun aM=>?_;unfold SC;simp;(with_reducible repeat' first|refine ai ?_|refine az cE ?_|refine aA cE ?_|refine az ds ?_|refine aA ds ?_|simp);refine dO [1,19,20] (fun i (_:Unit)=>[(21,.int .i64 i)]) s.length (pA (sP t) s) () bT (fun k b ad=>Ω) (fun _ ae _=>?_) (fun i _ hi ae _=>?_)
 ·have:R=true:=by rw[<-aU,nY,jd];intro b af;obtain⟨k,ad,e⟩:=og af;exact ae k b ad (by rw[b6 ad,e])
  rw[this];exact bQ
 ·obtain⟨b,aF,gS⟩:=eh hi;have gQ:sP t b=false->R=false:=fun h=>by rw[<-aU,Bool.eq_false_iff];intro cn;rw[nY,jd]at cn;rw[cn b (dV aF)]at h;cases h
  have aS:=Ff t aJ.len (.var b.v);have be:=Ff t aJ.len b.t;have yZ:=EW aJ b.v;have Hc:((T.var b.v).ap (bp t)).size<=5000:=yZ;rw[gN Hc]at aS;rw[show(T.var b.v).ap (bp t)=bp t b.v from rfl]at aS;by_cases bz:(b.t.ap (bp t)).size<=5000
  ·rw[gN bz]at be;by_cases he:bp t b.v=b.t.ap (bp t)
   ·have ax:=ae.step aF (by simp[sP,he]);have cT:=PH (bp t b.v) (b.t.ap (bp t));rw[gN he]at cT;clear ae aF;simp[hi,gS];(with_reducible repeat' first|refine ai ?_|refine az (jW _) ?_|refine aA (jW _) ?_|refine az aS ?_|refine aA aS ?_|refine az be ?_|refine aA be ?_|refine az cT ?_|refine aA cT ?_|simp[gS,hi]);exact bK.rng () hi ax bT
   ·rw[gQ (by simp[sP,he])];have cT:=PH (bp t b.v) (b.t.ap (bp t));rw[hQ he]at cT;clear ae aF;simp[hi,gS];(with_reducible repeat' first|refine ai ?_|refine az (jW _) ?_|refine aA (jW _) ?_|refine az aS ?_|refine aA aS ?_|refine az be ?_|refine aA be ?_|refine az cT ?_|refine aA cT ?_|simp[gS,hi]);simp[bq,Oy,aX,aZ,aW]
  ·rw[hQ bz]at be;rw[gQ (by simp only[sP,fC];intro e;rw[<-e]at bz;exact bz yZ)];clear ae aF;simp[hi,gS];(with_reducible repeat' first|refine ai ?_|refine az (jW _) ?_|refine aA (jW _) ?_|refine az aS ?_|refine aA aS ?_|refine az be ?_|refine aA be ?_|simp[gS,hi]);simp[bq,Oy,aX,aZ,aW]
theorem PI(d e:List ao):bC al 180 [.slice 5 .no (d.map ao.e),.slice 5 .no (e.map ao.e)] (.int .i64 (eM d e)):=by
 generalize aU:eM d e=R;refine bc tc agb anc fun aM=>?_;unfold S1;have aR:d.length<=68719476736:=by simp[eA,eo,et,lim]at aM;omega
 have he:e.length<=68719476736:=by simp[eA,eo,et,lim]at aM;omega
 simp;refine u5 [0,1] (fun(i:Nat)=>[(5,.int .i64 i)]) (fun i=>d.length-i) (MH d e) 0 bT ⟨Ω,Ω,Ψ⟩ (fun i ae _=>?_);obtain⟨J,U,ar⟩:=ae;rw[aU]at ar;by_cases hi:i<d.length
 ·by_cases fO:i<e.length
  ·obtain⟨x,ab⟩:∃x,d[i]? =some x:=⟨_,b6 hi⟩;obtain⟨y,aL⟩:∃y,e[i]? =some y:=⟨_,b6 fO⟩;have cG:∀h,(d[i]'h)=x:=fun h=>by rw[b6 hi]at ab;exact ed ab
   have e3:∀h,(e[i]'h)=y:=fun h=>by rw[b6 fO]at aL;exact ed aL
   have AW:d.drop i=x::d.drop (i+1):=by rw[lR hi,cG]
   have AX:e.drop i=y::e.drop (i+1):=by rw[lR fO,e3]
   rw[AW,AX]at ar;rw[XZ]at ar;by_cases ba:x.v=y.v
   ·have ko:eN x.v y.v=0:=(kG.zero _ _).2 ba;have uj:(x.v !=y.v)=false:=by simp[ba]
    rw[if_pos ko]at ar;by_cases bo:eK x.t y.t=0
    ·rw[if_pos bo]at ar;have ax:MH d e (i+1):=⟨Ω,Ω,by rw[aU];exact ar⟩;have kV:=Jj x.t y.t;rw[bo]at kV;clear AW AX ab aL ar ko;simp[hi,fO,cG,e3];((with_reducible repeat' first|refine ai ?_|refine az kV ?_|refine aA kV ?_|simp[cG,e3,hi,fO,ba,uj]|((first|apply bU|apply bY|apply bX)<;>intro h<;>try simp at h))<;>(try exact cz));all_goals exact bK.whl (i+1) Ω ax bT
    ·rw[if_neg bo]at ar;have kV:=Jj x.t y.t;have zt:(eK x.t y.t !=0)=true:=by simp[bo]
     clear AW AX ab aL ko;simp[hi,fO,cG,e3];(with_reducible repeat' first|refine ai ?_|refine az kV ?_|refine aA kV ?_|simp[cG,e3,hi,fO,ba,uj,bo,zt]);all_goals simp[bq,EG,aX,aZ,aW]
     all_goals exact ar
   ·have ko:¬eN x.v y.v=0:=fun h=>ba ((kG.zero _ _).1 h);have uj:(x.v !=y.v)=true:=by simp[ba]
    rw[if_neg ko]at ar;have dy:R=if decide (x.v<y.v)=true then-1 else 1:=by rw[<-ar];unfold eN;simp only[eW];(repeat' split)<;>omega
    clear AW AX ab aL ar ko;rw[dy];simp[hi,fO,cG,e3];(with_reducible repeat' first|refine ai ?_|refine az (rR _) ?_|refine aA (rR _) ?_|simp[cG,e3,hi,fO,ba,uj]);all_goals simp[bq,EG,aX,aZ,aW]
  ·have hle:e.length<d.length:=Ω
   have:(1:Int)=R:=by rw[<-ar,eM,D7 _ _ _ (.inr (List.drop_eq_nil_of_le Ω))];simp only[tl];unfold eN;(repeat' split)<;>omega
   have cM:¬(d.length:Int)=e.length:=Ω
   have L9:((d.length:Int) !=e.length)=true:=by simp;omega
   have j6:¬(d.length:Int)<e.length:=Ω
   have DE:¬d.length<e.length:=Ω
   have aiz:¬d.length=e.length:=Ω
   clear ar;rw[<-this];simp[hi,fO];(with_reducible repeat' first|refine ai ?_|refine az (rR _) ?_|refine aA (rR _) ?_|simp[hi,fO,cM,L9,j6,DE,aiz]);all_goals simp[bq,EG,aX,aZ,aW]
   all_goals(try simp[DE])
 ·have fb:i=d.length:=Ω
  by_cases au:d.length=e.length
  ·have:(0:Int)=R:=by rw[<-ar,eM,D7 _ _ _ (.inl (List.drop_eq_nil_of_le Ω))];simp only[tl];unfold eN;(repeat' split)<;>omega
   clear ar;rw[<-this];exact bQ
  ·have:(-1:Int)=R:=by rw[<-ar,eM,D7 _ _ _ (.inl (List.drop_eq_nil_of_le Ω))];simp only[tl];unfold eN;(repeat' split)<;>omega
   have cM:¬(d.length:Int)=e.length:=Ω
   have L9:((d.length:Int) !=e.length)=true:=by simp;omega
   have j6:(d.length:Int)<e.length:=Ω
   have DE:d.length<e.length:=Ω
   clear ar;rw[<-this];simp[hi];(with_reducible repeat' first|refine ai ?_|refine az (rR _) ?_|refine aA (rR _) ?_|simp[hi,cM,L9,j6,DE,au]);all_goals simp[bq,EG,aX,aZ,aW]
   all_goals(try simp[DE])
def ajI(n:Int)(a b:T)(i:Nat)(_:Unit):Prop:=(1<=i->ez n a=true)/\(2<=i->ez n b=true)
theorem PN(n:Int):∀t:T,bC al 136 [t.e,.int .i64 n] (.bool (ez n t))
 | .pair a b=>by
  have dG:=PN n a;have dK:=PN n b;refine bc tc C4 Et fun aM=>?_;unfold Aq;simp;refine dO [1,2,8,9] (fun i (_:Unit)=>[(10,.int .i64 i)]) 2 (ajI n a b) () bT ⟨fun h=>Ω,fun h=>Ω⟩ (fun _ ae _=>?_) (fun i _ hi ae _=>?_)
  ·simp;(with_reducible repeat' first|refine ai ?_|simp);simp[bq,xE,aX,aZ,aW];simp[ez,ae.1,ae.2]
  ·rcases(by omega:i=0\/i=1)with rfl|rfl
   ·cases bD:ez n a
    ·rw[bD]at dG;simp;(with_reducible repeat' first|refine ai ?_|refine az dG ?_|refine aA dG ?_|simp);simp[bq,xE,aX,aZ,aW];simp[ez,bD]
    ·rw[bD]at dG;simp;((with_reducible repeat' first|refine ai ?_|refine az dG ?_|refine aA dG ?_|simp|((first|apply bU|apply bY|apply bX)<;>intro h<;>try simp at h))<;>(try exact cz));exact bK.rng () hi ⟨fun _=>bD,fun h=>Ω⟩ bT
   ·cases af:ez n b
    ·rw[af]at dK;simp;((with_reducible repeat' first|refine ai ?_|refine az dK ?_|refine aA dK ?_|simp|((first|apply bU|apply bY|apply bX)<;>intro h<;>try simp at h))<;>(try exact cz));simp[bq,xE,aX,aZ,aW];simp[ez,af]
    ·rw[af]at dK;simp;((with_reducible repeat' first|refine ai ?_|refine az dK ?_|refine aA dK ?_|simp|((first|apply bU|apply bY|apply bX)<;>intro h<;>try simp at h))<;>(try exact cz));exact bK.rng () hi ⟨fun _=>ae.1 Ω,fun _=>af⟩ bT
 | .sym v=>by
  refine bc tc C4 Et fun aM=>?_;unfold Aq;simp;refine dO [1,2,8,9] (fun i (_:Unit)=>[(10,.int .i64 i)]) 0 (fun i _=>True) () bT trivial (fun _ ae _=>?_) (fun i _ hi ae _=>Ω);simp;((with_reducible repeat' first|refine ai ?_|simp|((first|apply bU|apply bY|apply bX)<;>intro h<;>try simp at h))<;>(try exact cz));all_goals simp[bq,xE,aX,aZ,aW]
  all_goals simp[ez]
 | .num v=>by
  refine bc tc C4 Et fun aM=>?_;unfold Aq;simp;refine dO [1,2,8,9] (fun i (_:Unit)=>[(10,.int .i64 i)]) 0 (fun i _=>True) () bT trivial (fun _ ae _=>?_) (fun i _ hi ae _=>Ω);simp;(with_reducible repeat' first|refine ai ?_|simp);all_goals simp[bq,xE,aX,aZ,aW]
  all_goals simp[ez]
 | .var v=>by
  refine bc tc C4 Et fun aM=>?_;unfold Aq;simp;refine dO [1,2,8,9] (fun i (_:Unit)=>[(10,.int .i64 i)]) 0 (fun i _=>True) () bT trivial (fun _ ae _=>?_) (fun i _ hi ae _=>Ω);simp;(with_reducible repeat' first|refine ai ?_|simp);all_goals simp[bq,xE,aX,aZ,aW]
  all_goals simp[ez]
 | .nil=>by
  refine bc tc C4 Et fun aM=>?_;unfold Aq;simp;refine dO [1,2,8,9] (fun i (_:Unit)=>[(10,.int .i64 i)]) 0 (fun i _=>True) () bT trivial (fun _ ae _=>?_) (fun i _ hi ae _=>Ω);simp;(with_reducible repeat' first|refine ai ?_|simp);all_goals simp[bq,xE,aX,aZ,aW]
  all_goals simp[ez]
theorem aaC(s:List ao)(n:Int):bC al 146 [.slice 5 .no (s.map ao.e),.int .i64 n] (.bool (s.all (k6 n))):=by
 generalize aU:s.all (k6 n)=R;refine bc tc agf anh fun aM=>?_;unfold S5;have ev:s.length<=68719476736:=by simp[eA,eo,et,lim]at aM;omega
 simp;refine dO [1,7,8] (fun i (_:Unit)=>[(9,.int .i64 i)]) s.length (pA (k6 n) s) () bT (fun k b ad=>Ω) (fun _ ae _=>?_) (fun i _ hi ae _=>?_)
 ·have:R=true:=by rw[<-aU,jd];intro b af;obtain⟨k,ad,e⟩:=og af;exact ae k b ad (by rw[b6 ad,e])
  rw[this];exact bQ
 ·obtain⟨b,aF,gS⟩:=eh hi;have gQ:k6 n b=false->R=false:=fun h=>by rw[<-aU,Bool.eq_false_iff];intro cn;rw[jd]at cn;rw[cn b (dV aF)]at h;cases h
  have eR:=PN n b.t;by_cases J:b.v<n
  ·have oA:¬n<=b.v:=Ω
   cases U:ez n b.t
   ·rw[gQ (by simp[k6,U])];rw[U]at eR;clear ae aF;exact bQ
   ·have ax:=ae.step aF (by simp[k6,J,U]);rw[U]at eR;clear ae aF;exact hE
  ·have oA:n<=b.v:=Ω
   rw[gQ (by simp[k6,J])];clear ae aF;exact bQ
theorem aqZ(l:List (List c3)):bC al 143 [.slice 1 .no (l.map gl)] (.bool (l.all hc)):=by
 generalize aU:l.all hc=R;refine bc tc aga anb fun aM=>?_;unfold S0;have ev:l.length<=68719476736:=by simp[eA,eo,et,lim]at aM;omega
 simp;refine dO [5,6] (fun i (_:Unit)=>[(7,.int .i64 i)]) l.length (pA hc l) () bT (fun k b ad=>Ω) (fun _ ae _=>?_) (fun i _ hi ae _=>?_)
 ·have:R=true:=by rw[<-aU,jd];intro b af;obtain⟨k,ad,e⟩:=og af;exact ae k b ad (by rw[b6 ad,e])
  rw[this];exact bQ
 ·obtain⟨b,aF,gS⟩:=eh hi;have cE:bC al 142 [gl b] (.bool (hc b)):=PQ b;cases af:hc b
  ·have:R=false:=by rw[<-aU,Bool.eq_false_iff];intro cn;rw[jd]at cn;rw[cn b (dV aF)]at af;cases af
   rw[this];rw[af]at cE;clear ae aF;exact bQ
  ·have ax:=ae.step aF af;rw[af]at cE;clear ae aF;exact hE
theorem Tv(a:List (List ao))(k:Nat)(m:List ao):ku k (a.map cO)++cO m::ny k (a.map cO)=(a.take k++m::a.drop k).map cO:=by simp
theorem rb(a:List (List ao))(k:Nat)(m:List ao):c6 (ku k (a.map cO)++cO m::ny k (a.map cO))=ku k (a.map cO)++cO m::ny k (a.map cO):=by rw[Tv,Ph]
theorem ra(S:aI->Prop)(a:List (List ao))(k:Nat)(m:List ao):aC S (ku k (a.map cO)++cO m::ny k (a.map cO))=True:=by rw[Tv,WH]
theorem Tu(a:List (List ao))(m:List ao):a.map cO++[cO m]=(a++[m]).map cO:=by simp
theorem q9(a:List (List ao))(m:List ao):c6 (a.map cO++[cO m])=a.map cO++[cO m]:=by rw[Tu,Ph]
theorem q8(S:aI->Prop)(a:List (List ao))(m:List ao):aC S (a.map cO++[cO m])=True:=by rw[Tu,WH]
theorem aaA(L:List (List ao))(j4:∀d∈L,e5 d):bC al 220 [.slice 1 .no (L.map cO)] (.slice 1 .no ((ll L).map cO)):=by
 generalize aU:ll L=R;rw[akK]at aU;refine bc tc agc ane fun aM=>?_;unfold S2;have ev:L.length<=68719476736:=by simp[eA,eo,et,lim]at aM;omega
 simp;refine dO [0,12,13] (fun i (a:List (List ao))=>[(3,.slice 1 .no (a.map cO)),(14,.int .i64 i)]) L.length (y4 L) [] bT (by simp[y4]) (fun a ae _=>?_) (fun i a hi ae _=>?_)
 ·rw[y4,je,aU]at ae;subst ae;exact bQ
 ·obtain⟨e,he,LO⟩:=eh hi;have sn:h7 eM a:=by rw[ae];exact Nt _ (by simp[h7])
  have sp:a.length<=i:=by have:=Xo (L:=L) (L.take i) [];rw[ae];simp at this⊢;omega
  have fF:=ae.step he;have l6:=j4 e (dV he);have be:∀d,bC al 180 [cO d,cO e] (.int .i64 (eM d e)):=fun d=>PI d e;clear ae he;simp[hi,LO];(with_reducible repeat' first|refine ai ?_|simp[hi,LO]);refine dO [0,3,5,12,13,14,18,19] (fun j (b:Bool)=>[(6,.bool b),(20,.int .i64 j)]) L.length (qF L e) true bT (by simp[qF]) (fun keep ae _=>?_) (fun j keep dj ae _=>?_)
  ·rw[qF,je]at ae;have Vi:keep=js L e:=ae;rw[qL,<-Vi]at fF;clear ae Vi;simp;(with_reducible repeat' first|refine ai ?_|simp);refine u5 [0,3,5,6,12,13,14] (fun(k:Nat)=>[(9,.int .i64 k)]) (fun k=>k) (Hl a e) a.length bT ⟨Ω,fun c h=>by simp at h⟩ (fun k ae _=>?_);have ad:=ae.1;rcases Nat.eq_zero_or_pos k with br|fG
   ·have bz:decide ((0:Int)<k)=false:=by simp;omega
    have sH:¬(0:Int)<k:=Ω
    have dX:=ae.fin sn fun d h=>Ω
    clear ae sn;cases keep with
    |false=>simp only[ho,if_false]at fF;clear dX;exact hE
    |true=>
     simp only[if_true]at fF;by_cases hK:k<a.length
     ·obtain⟨c,aw,kj⟩:=eh hK;rw[aw]at dX;by_cases q:eM c e=0
      ·rw[if_pos (by simp[q])]at dX;rw[dX]at fF;clear dX aw;simp[hK,kj,bz,sH];((with_reducible repeat' first|refine ai ?_|refine az (be _) ?_|refine aA (be _) ?_|simp[hK,kj,q,bz,sH]|((first|apply bU|apply bY|apply bX)<;>intro h<;>try simp at h))<;>(try exact cz));all_goals exact bK.rng a hi fF bT
      ·rw[if_neg (by simp[q])]at dX;have gK:(eM c e !=0)=true:=by simp[q]
       rw[dX]at fF;clear dX aw;simp[hK,kj,bz,sH];((with_reducible repeat' first|refine ai ?_|refine az (be _) ?_|refine aA (be _) ?_|simp[hK,kj,q,gK,bz,sH]|((first|apply bU|apply bY|apply bX)<;>intro h<;>try simp at h))<;>(try exact cz));all_goals first|(refine⟨by unfold lim;omega,?_⟩)|skip
       all_goals(with_reducible repeat' first|refine ai ?_|simp)
       all_goals first|(refine⟨by unfold lim;omega,?_⟩)|skip
       all_goals((with_reducible repeat' first|refine ai ?_|simp|((first|apply bU|apply bY|apply bX)<;>intro h<;>try simp at h))<;>(try exact cz))
       all_goals exact bK.rng _ hi fF ⟨by simp[fresh,aC,aB,bP,inObs,Pv.look,hY,rb,ra,q9,q8],dD (by simp[fresh,aC,aB,bP,inObs,Pv.look,hY,rb,ra,q9,q8]),dE (by simp[fresh,aC,aB,dt,inObs,Pv.look,hY,rb,ra,q9,q8]),Ψ⟩
     ·rw[qZ Ω]at dX;simp only[ho,if_false]at dX;rw[dX]at fF;have iV:k=a.length:=Ω
      have tL:a.take k++e::a.drop k=a++[e]:=by rw[iV];simp
      rw[tL]at fF;clear dX tL;simp[hK,bz,sH];((with_reducible repeat' first|refine ai ?_|refine az (be _) ?_|refine aA (be _) ?_|simp[hK,iV,bz,sH]|((first|apply bU|apply bY|apply bX)<;>intro h<;>try simp at h))<;>(try exact cz));all_goals first|(refine⟨by unfold lim;omega,?_⟩)|skip
      all_goals(with_reducible repeat' first|refine ai ?_|simp)
      all_goals first|(refine⟨by unfold lim;omega,?_⟩)|skip
      all_goals((with_reducible repeat' first|refine ai ?_|simp|((first|apply bU|apply bY|apply bX)<;>intro h<;>try simp at h))<;>(try exact cz))
      all_goals exact bK.rng _ hi fF ⟨by simp[fresh,aC,aB,bP,inObs,Pv.look,hY,rb,ra,q9,q8],dD (by simp[fresh,aC,aB,bP,inObs,Pv.look,hY,rb,ra,q9,q8]),dE (by simp[fresh,aC,aB,dt,inObs,Pv.look,hY,rb,ra,q9,q8]),Ψ⟩
   ·obtain⟨d,aR⟩:∃d,a[k-1]? =some d:=⟨_,b6 Ω⟩;have ak:((k:Int)-1).toNat=k-1:=Ω
    have aD:∀h,(a[k-1]'h)=d:=fun h=>by rw[b6 h]at aR;exact ed aR
    have jq:(0:Int)<k:=Ω
    have mB:k-1<a.length:=Ω
    by_cases af:0<=eM d e
    ·have ag:Hl a e (k-1):=⟨Ω,fun c aw=>by rw[aR]at aw;cases aw;exact af⟩;clear ae sn fF aR;simp[fG,jq,ak,aD,af,mB];((with_reducible repeat' first|refine ai ?_|refine az (be _) ?_|refine aA (be _) ?_|simp[fG,jq,ak,aD,af,mB]|((first|apply bU|apply bY|apply bX)<;>intro h<;>try simp at h))<;>(try exact cz));refine bK.whl (k-1) Ω ag ?_;have bh:((k-1:Nat):Int)=(k:Int)-1:=Ω
     simp[bh];exact bT
    ·have dX:=ae.fin sn fun cd _ k9=>by rw[aR]at k9;cases k9;omega
     clear ae sn aR;cases keep with
     |false=>simp only[ho,if_false]at fF;clear dX;simp[fG,jq,ak,aD,af,mB];(with_reducible repeat' first|refine ai ?_|refine az (be _) ?_|refine aA (be _) ?_|simp[fG,jq,ak,aD,af,mB]);all_goals exact bK.rng a hi fF bT
     |true=>
      simp only[if_true]at fF;by_cases hK:k<a.length
      ·obtain⟨c,aw,kj⟩:=eh hK;rw[aw]at dX;by_cases q:eM c e=0
       ·rw[if_pos (by simp[q])]at dX;rw[dX]at fF;clear dX aw;simp[hK,kj,fG,jq,ak,aD,af,mB];((with_reducible repeat' first|refine ai ?_|refine az (be _) ?_|refine aA (be _) ?_|simp[hK,kj,q,fG,jq,ak,aD,af,mB]|((first|apply bU|apply bY|apply bX)<;>intro h<;>try simp at h))<;>(try exact cz));all_goals exact bK.rng a hi fF bT
       ·rw[if_neg (by simp[q])]at dX;have gK:(eM c e !=0)=true:=by simp[q]
        rw[dX]at fF;clear dX aw;simp[hK,kj,fG,jq,ak,aD,af,mB];((with_reducible repeat' first|refine ai ?_|refine az (be _) ?_|refine aA (be _) ?_|simp[hK,kj,q,gK,fG,jq,ak,aD,af,mB]|((first|apply bU|apply bY|apply bX)<;>intro h<;>try simp at h))<;>(try exact cz));all_goals first|(refine⟨by unfold lim;omega,?_⟩)|skip
        all_goals(with_reducible repeat' first|refine ai ?_|simp)
        all_goals first|(refine⟨by unfold lim;omega,?_⟩)|skip
        all_goals((with_reducible repeat' first|refine ai ?_|simp|((first|apply bU|apply bY|apply bX)<;>intro h<;>try simp at h))<;>(try exact cz))
        all_goals exact bK.rng _ hi fF ⟨by simp[fresh,aC,aB,bP,inObs,Pv.look,hY,rb,ra,q9,q8],dD (by simp[fresh,aC,aB,bP,inObs,Pv.look,hY,rb,ra,q9,q8]),dE (by simp[fresh,aC,aB,dt,inObs,Pv.look,hY,rb,ra,q9,q8]),Ψ⟩
      ·rw[qZ Ω]at dX;simp only[ho,if_false]at dX;rw[dX]at fF;have iV:k=a.length:=Ω
       have tL:a.take k++e::a.drop k=a++[e]:=by rw[iV];simp
       rw[tL]at fF;clear dX tL;simp[hK,fG,jq,ak,aD,af,mB];((with_reducible repeat' first|refine ai ?_|refine az (be _) ?_|refine aA (be _) ?_|simp[hK,iV,fG,jq,ak,aD,af,mB]|((first|apply bU|apply bY|apply bX)<;>intro h<;>try simp at h))<;>(try exact cz));all_goals first|(refine⟨by unfold lim;omega,?_⟩)|skip
       all_goals(with_reducible repeat' first|refine ai ?_|simp)
       all_goals first|(refine⟨by unfold lim;omega,?_⟩)|skip
       all_goals(with_reducible repeat' first|refine ai ?_|simp)
       all_goals exact bK.rng _ hi fF ⟨by simp[fresh,aC,aB,bP,inObs,Pv.look,hY,rb,ra,q9,q8],dD (by simp[fresh,aC,aB,bP,inObs,Pv.look,hY,rb,ra,q9,q8]),dE (by simp[fresh,aC,aB,dt,inObs,Pv.look,hY,rb,ra,q9,q8]),Ψ⟩
  ·obtain⟨d,aR,hdi⟩:=eh dj;have ax:=ae.step aR;have mD:=j4 d (dV aR);have dg:bC al 269 [cO d,cO e] (.bool (nY d e)):=aqr mD l6;clear ae aR fF sn;cases keep with
   |false=>simp only[Bool.false_and]at ax;exact hE
   |true=>
    simp only[Bool.true_and,xi]at ax;by_cases q:eM d e=0
    ·rw[gN ((mh.zero _ _).1 q),Bool.true_or]at ax;simp[dj,hdi];(with_reducible repeat' first|refine ai ?_|refine az (be _) ?_|refine aA (be _) ?_|simp[dj,hdi,q]);all_goals exact bK.rng true dj ax bT
    ·rw[hQ (fun h=>q ((mh.zero _ _).2 h)),Bool.false_or]at ax;have gK:(eM d e==0)=false:=by simp[q]
     cases a7:nY d e
     ·rw[a7]at ax dg;simp[dj,hdi];(with_reducible repeat' first|refine ai ?_|refine az (be _) ?_|refine aA (be _) ?_|refine az dg ?_|refine aA dg ?_|simp[dj,hdi,q,gK]);all_goals exact bK.rng true dj ax bT
     ·rw[a7]at ax dg;simp[dj,hdi];(with_reducible repeat' first|refine ai ?_|refine az (be _) ?_|refine aA (be _) ?_|refine az dg ?_|refine aA dg ?_|simp[dj,hdi,q,gK]);all_goals exact bK.rng false dj ax bT
theorem ng.fst{s:List (List ao)}{t:List ao}{acc:List (List ao)}(h:ng s 0 acc)(aJ:s[0]? =some t):ng s 1 (if js s t=true then acc++[t]else acc):=by
 unfold ng at*;rw[ub aJ]at h;have e:(if(1:Nat)=0 then none else s[1-1]?)=some t:=by simpa using aJ
 have cn:acc++(t::cQ (some t) (s.drop 1)).filter (js s)=(cQ none s).filter (js s):=by rw[<-h];simp[cQ]
 rw[e,<-cn];by_cases ad:js s t=true<;>simp[ad]
theorem ng.eq{s:List (List ao)}{i:Nat}{t:List ao}{acc:List (List ao)}(h:ng s i acc)(hi:i≠0)(bF:s[i-1]? =some t)(aJ:s[i]? =some t):ng s (i+1) acc:=by
 unfold ng at*;rw[if_neg hi,bF,ub aJ]at h;have e:(if i+1=0 then none else s[i+1-1]?)=some t:=by rw[if_neg Ω];exact aJ
 rw[e,<-h];simp[cQ]
theorem ng.ne{s:List (List ao)}{i:Nat}{p t:List ao}{acc:List (List ao)}(h:ng s i acc)(hi:i≠0)(bF:s[i-1]? =some p)(aJ:s[i]? =some t)(ax:¬p=t):ng s (i+1) (if js s t=true then acc++[t]else acc):=by
 unfold ng at*;rw[if_neg hi,bF,ub aJ]at h;have e:(if i+1=0 then none else s[i+1-1]?)=some t:=by rw[if_neg Ω];exact aJ
 have aR:cQ (some p) (t::s.drop (i+1))=t::cQ (some t) (s.drop (i+1)):=by simp[cQ,ax]
 rw[aR]at h;rw[e,<-h];by_cases ad:js s t=true<;>simp[ad]
theorem apE(l:List (List ao)):(pG eM l).length=l.length:=(zL eM l).length_eq
theorem y7(S:aI->Prop)(l:List (List ao))(d:List ao):aC S (l.map cO++[cO d])=True:=by have:=MX S (l++[d]);rw[rT]at this;exact eq_true this
theorem aqq(l:List (List ao))(j4:∀d∈l,e5 d):bC al 124 [.slice 1 .no (l.map cO)] (.slice 1 .no ((ll l).map cO)):=by
 generalize aU:ll l=R;rw[akJ]at aU;refine bc xS aep alo fun aM=>?_;unfold Q8;have ev:l.length<=68719476736:=by simp[eA,eo,et,lim]at aM;omega
 simp;refine dO [0,12,13] (fun i (_:Unit)=>[(14,.int .i64 i)]) l.length (fun _ _=>True) () bT trivial (fun _ _ _=>?_) (fun i _ hi _ _=>?_);rotate_left
 ·obtain⟨e,he,LO⟩:=eh hi;have cE:bC al 55 [cO e] (.bool true):=qn (j4 e (dV he));exact hE
 simp;(with_reducible repeat' first|refine ai ?_|simp);all_goals first|(refine⟨by unfold lim;omega,?_⟩)|skip
 all_goals(with_reducible repeat' first|refine ai ?_|simp)
 refine cV.ob (ahf l ev) (JE l) (by unfold uO dS;exact aN) (by unfold uO dS;exact aN) (by simp[inObs,dS,Pv.look]) ?_;rintro r ah ⟨rfl,rfl⟩;refine⟨x8 _ _,?_⟩;obtain⟨s,DO⟩:∃s,s=pG eM l:=⟨_,rfl⟩;have qd:s.length=l.length:=by rw[DO];exact apE l
 have ag:∀d∈s,e5 d:=fun d aR=>j4 d (by rw[DO,ZB]at aR;exact aR);rw[<-DO]at aU;rw[<-DO];clear DO;simp[uO,dS,cl];refine gA (fun i (acc:List (List ao))=>⟨[(5,.ptr (.obj 822) 0),(6,.slice 1 (.own (.loc 0)) (acc.map cO)),(30,.row 1 (.obj 821) s.length),(31,.int .i64 s.length),(32,.int .i64 i)],[(.obj 822,[.row 1 (.obj 821) s.length])],[(.loc 0,⟨acc.length,23,1,none⟩),(.obj 821,⟨s.length,23,1,some (s.map cO)⟩)],1,[.obj 821,.obj 822]⟩) s.length (fun i acc=>acc.length<=i/\ng s i acc) [] bT ⟨Ψ,by simp[ng]⟩ (fun acc ae _=>?_) (fun i acc hi ae _=>?_)
 ·have ae:=ae.2;rw[ng,List.drop_length]at ae;have:acc=R:=by rw[<-aU];simpa[cQ]using ae
  subst this;exact bQ
 ·obtain⟨as6,ae⟩:=ae;have sp:acc.length<=68719476735:=Ω
  obtain⟨t,qC,aJ⟩:=eh hi;have cF:=ag t (dV qC);have kV:bC al 119 [cO t] (cO t):=Ji t cF.len;have j8:(if js s t=true then acc++[t]else acc).length<=acc.length+1:=by split<;>simp
  rcases Nat.eq_zero_or_pos i with rfl|fG
  ·have Vr:=ae.fst qC;have fF:(if js s t=true then acc++[t]else acc).length<=0+1/\ng s (0+1) (if js s t=true then acc++[t]else acc):=⟨kJ j8 Ω,Vr⟩;clear ae Vr qC;simp[hi,aJ];(with_reducible repeat' first|refine ai ?_|simp[hi,aJ]);refine dO [5,6,8,30,31,32,49,50] (fun j (b:Bool)=>[(9,.bool b),(51,.int .i64 j)]) s.length (qF s t) true bT (by simp[qF]) (fun keep ae _=>?_) (fun j keep dj ae _=>?_)
   ·rw[qF,je,<-Wo]at ae;rw[<-ae]at fF;clear ae;cases keep with
    |false=>simp only[ho,if_false]at fF;simp;((with_reducible repeat' first|refine ai ?_|simp|((first|apply bU|apply bY|apply bX)<;>intro h<;>try simp at h))<;>(try exact cz));all_goals exact bK.rng acc hi fF bT
    |true=>
     simp only[if_true]at fF;clear j8;simp;((with_reducible repeat' first|refine ai ?_|refine az kV ?_|refine aA kV ?_|simp|((first|apply bU|apply bY|apply bX)<;>intro h<;>try simp at h))<;>(try exact cz));all_goals first|(refine⟨by unfold lim;omega,?_⟩)|skip
     all_goals(with_reducible repeat' first|refine ai ?_|simp)
     all_goals exact bK.rng (acc++[t]) hi fF ⟨by simp[fresh,aC,aB,bP,inObs,Pv.look,y7],dD (by simp[fresh,aC,aB,bP,inObs,Pv.look,y7]),dE (by simp[fresh,aC,aB,dt,inObs,Pv.look,y7]),Ψ⟩
   ·obtain⟨d,aR,hdi⟩:=eh dj;have ax:=ae.step aR;have mD:=ag d (dV aR);have dg:bC al 205 [cO d,cO t] (.bool (nY d t)):=aaE d mD.len cF;have pB:bC al 204 [cO d,cO t] (.int .i64 (eM d t)):=Jp d t;clear ae aR fF;by_cases q:eM d t=0
    ·rw[xi,gN ((mh.zero _ _).1 q),Bool.true_or,Bool.and_true]at ax;rw[q]at pB;simp[dj,hdi];((with_reducible repeat' first|refine ai ?_|refine az pB ?_|refine aA pB ?_|simp[dj,hdi]|((first|apply bU|apply bY|apply bX)<;>intro h<;>try simp at h))<;>(try exact cz));all_goals exact bK.rng keep dj ax bT
    ·rw[xi,hQ (fun h=>q ((mh.zero _ _).2 h)),Bool.false_or]at ax;have gK:(eM d t !=0)=true:=by simp[q]
     cases a7:nY d t
     ·rw[a7]at ax dg;simp only[Bool.not_false,Bool.and_true]at ax;simp[dj,hdi];((with_reducible repeat' first|refine ai ?_|refine az pB ?_|refine aA pB ?_|refine az dg ?_|refine aA dg ?_|simp[dj,hdi,q,gK]|((first|apply bU|apply bY|apply bX)<;>intro h<;>try simp at h))<;>(try exact cz));all_goals exact bK.rng keep dj ax bT
     ·rw[a7]at ax dg;simp only[Bool.not_true,Bool.and_false]at ax;simp[dj,hdi];((with_reducible repeat' first|refine ai ?_|refine az pB ?_|refine aA pB ?_|refine az dg ?_|refine aA dg ?_|simp[dj,hdi,q,gK]|((first|apply bU|apply bY|apply bX)<;>intro h<;>try simp at h))<;>(try exact cz));all_goals exact bK.rng false dj ax bT
  ·obtain⟨p,A9⟩:∃p,s[i-1]? =some p:=⟨_,b6 Ω⟩;have ak:((i:Int)-1).toNat=i-1:=Ω
   have aD:∀h,(s[i-1]'h)=p:=fun h=>by rw[b6 h]at A9;exact ed A9
   have bh:¬i=0:=Ω
   have dk:i-1<s.length:=Ω
   have jq:(0:Int)<i:=Ω
   have jE:bC al 204 [cO p,cO t] (.int .i64 (eM p t)):=Jp p t;by_cases G6:p=t
   ·have fF:acc.length<=i+1/\ng s (i+1) acc:=⟨Ω,ae.eq bh (by rw[A9,G6]) qC⟩;rw[(mh.zero _ _).2 G6]at jE;clear ae qC A9;simp[hi,aJ,ak,aD,dk,jq];((with_reducible repeat' first|refine ai ?_|refine az jE ?_|refine aA jE ?_|simp[hi,aJ,ak,aD,dk,fG,jq]|((first|apply bU|apply bY|apply bX)<;>intro h<;>try simp at h))<;>(try exact cz));all_goals exact bK.rng acc hi fF bT
   ·have fF:(if js s t=true then acc++[t]else acc).length<=i+1/\ng s (i+1) (if js s t=true then acc++[t]else acc):=⟨kJ j8 Ω,ae.ne bh A9 qC G6⟩;have ko:¬eM p t=0:=fun h=>G6 ((mh.zero _ _).1 h);have Yd:(eM p t==0)=false:=by simp[ko]
    clear ae qC A9;simp[hi,aJ,ak,aD,dk,jq];((with_reducible repeat' first|refine ai ?_|refine az jE ?_|refine aA jE ?_|simp[hi,aJ,ak,aD,dk,fG,jq,ko,Yd]|((first|apply bU|apply bY|apply bX)<;>intro h<;>try simp at h))<;>(try exact cz));refine dO [5,6,8,30,31,32,49,50] (fun j (b:Bool)=>[(9,.bool b),(51,.int .i64 j)]) s.length (qF s t) true bT (by simp[qF]) (fun keep ae _=>?_) (fun j keep dj ae _=>?_)
    ·rw[qF,je,<-Wo]at ae;rw[<-ae]at fF;clear ae;cases keep with
     |false=>simp only[ho,if_false]at fF;simp;((with_reducible repeat' first|refine ai ?_|simp|((first|apply bU|apply bY|apply bX)<;>intro h<;>try simp at h))<;>(try exact cz));all_goals exact bK.rng acc hi fF bT
     |true=>
      simp only[if_true]at fF;clear j8;simp;(with_reducible repeat' first|refine ai ?_|refine az kV ?_|refine aA kV ?_|simp);all_goals first|(refine⟨by unfold lim;omega,?_⟩)|skip
      all_goals(with_reducible repeat' first|refine ai ?_|simp)
      all_goals exact bK.rng (acc++[t]) hi fF ⟨by simp[fresh,aC,aB,bP,inObs,Pv.look,y7],dD (by simp[fresh,aC,aB,bP,inObs,Pv.look,y7]),dE (by simp[fresh,aC,aB,dt,inObs,Pv.look,y7]),Ψ⟩
    ·obtain⟨d,aR,hdi⟩:=eh dj;have ax:=ae.step aR;have mD:=ag d (dV aR);have dg:bC al 205 [cO d,cO t] (.bool (nY d t)):=aaE d mD.len cF;have pB:bC al 204 [cO d,cO t] (.int .i64 (eM d t)):=Jp d t;clear ae aR fF;by_cases q:eM d t=0
     ·rw[xi,gN ((mh.zero _ _).1 q),Bool.true_or,Bool.and_true]at ax;rw[q]at pB;simp[dj,hdi];((with_reducible repeat' first|refine ai ?_|refine az pB ?_|refine aA pB ?_|simp[dj,hdi]|((first|apply bU|apply bY|apply bX)<;>intro h<;>try simp at h))<;>(try exact cz));all_goals exact bK.rng keep dj ax bT
     ·rw[xi,hQ (fun h=>q ((mh.zero _ _).2 h)),Bool.false_or]at ax;have gK:(eM d t !=0)=true:=by simp[q]
      cases a7:nY d t
      ·rw[a7]at ax dg;simp only[Bool.not_false,Bool.and_true]at ax;simp[dj,hdi];((with_reducible repeat' first|refine ai ?_|refine az pB ?_|refine aA pB ?_|refine az dg ?_|refine aA dg ?_|simp[dj,hdi,q,gK]|((first|apply bU|apply bY|apply bX)<;>intro h<;>try simp at h))<;>(try exact cz));all_goals exact bK.rng keep dj ax bT
      ·rw[a7]at ax dg;simp only[Bool.not_true,Bool.and_false]at ax;simp[dj,hdi];((with_reducible repeat' first|refine ai ?_|refine az pB ?_|refine aA pB ?_|refine az dg ?_|refine aA dg ?_|simp[dj,hdi,q,gK]|((first|apply bU|apply bY|apply bX)<;>intro h<;>try simp at h))<;>(try exact cz));all_goals exact bK.rng false dj ax bT
theorem aaP(l:List T)(h:∀t∈l,t.fit=true):bC al 68 [.slice 4 .no (l.map T.e)] (.bool true):=by
 refine bc gj TX XN fun aM=>?_;unfold Kg;have ev:l.length<=68719476736:=by simp[eA,eo,et,lim]at aM;omega
 simp;refine dO [5,6] (fun i (_:Unit)=>[(7,.int .i64 i)]) l.length (fun _ _=>True) () bT trivial (fun _ _ _=>?_) (fun i _ hi _ _=>?_)
 ·exact bQ
 ·obtain⟨t,aJ,qC⟩:=eh hi;have ds:=Fe (h t (dV aJ));clear aJ;exact hE
def jg(m:Int):cL:=⟨[(.obj 831,[.int .i64 m])],[]⟩
theorem wu(m:Int):dW (jg m):=by unfold jg;exact dW.of ⟨by intro m;simp[Pv.look],by intro m;simp[Pv.look]⟩ Ψ Ψ
theorem abv(a b:Int):Same (jg a) (jg b):=Same.keys (by simp[jg]) (by simp[jg])
theorem agK(v m ha:Int)(h:Fj v m=some ha):bI al 193 [.int .i64 v,.ptr (.obj 831) 0] (jg m) fun r ah=>r= .tuple []/\ah=jg ha:=by
 unfold Fj at h;split at h;rotate_left
 ·cases h
 rename_i aF;cases h;have ag:=wu m;simp only[jg]at ag⊢;by_cases hm:m<v+1
 ·rw[rS,if_pos hm];refine bI.mk mixed xS TR XH Ψ ag.obj fun aM cR=>?_;unfold Ka;simp;(with_reducible repeat' first|refine ai ?_|simp[hm]);(refine cH.at (jg (v+1)) Ψ (by first|exact wu _|exact wu ‹_› _) (Same.keys (by simp[jg]) (by simp[jg])) (by simp only[jg,bW,b9];exact aN) (by simp only[jg,bW,b9];exact aN) ?_;simp[cN,Oj,aX,aZ,aW,inObs,Pv.look,jg])
 ·rw[rS,if_neg hm];refine bI.mk mixed xS TR XH Ψ ag.obj fun aM cR=>?_;unfold Ka;simp;(with_reducible repeat' first|refine ai ?_|simp[hm]);(refine cH.at (jg m) Ψ (by first|exact wu _|exact wu ‹_› _) (Same.keys (by simp[jg]) (by simp[jg])) (by simp only[jg,bW,b9];exact aN) (by simp only[jg,bW,b9];exact aN) ?_;simp[cN,Oj,aX,aZ,aW,inObs,Pv.look,jg])
def xX(l:List T):Int:=l.foldl (fun m t=>t.fold rS m) 0
def Hm(l:List T)(i:Nat)(m:Int):Prop:=m=xX (l.take i)
theorem aak(l:List T)(h:∀t∈l,t.fit=true):bC al 116 [.slice 4 .no (l.map T.e)] (.int .i64 (xX l)):=by
 have ds:=aaP l h;generalize aU:xX l=R;refine bc xS aex alx fun aM=>?_;unfold Rh;have ev:l.length<=68719476736:=by simp[eA,eo,et,lim]at aM;omega
 simp;(with_reducible repeat' first|refine ai ?_|refine az ds ?_|refine aA ds ?_|simp);refine gA (fun i (m:Int)=>⟨[(3,.ptr (.obj 831) 0),(9,.slice 4 .no (l.map T.e)),(10,.int .i64 l.length),(11,.int .i64 i)],[(.obj 831,[.int .i64 m])],[],0,[.obj 831]⟩) l.length (Hm l) 0 bT rfl (fun m ae _=>?_) (fun i m hi ae _=>?_)
 ·rw[Hm,je,aU]at ae;subst ae;exact bQ
 ·obtain⟨t,aJ,qC⟩:=eh hi;have ah5:t.ok=true:=by have:=h t (dV aJ);simp only[T.fit,cy]at this;exact this.1
  have ax:Hm l (i+1) (t.fold rS m):=by rw[Hm,qQ aJ,xX,List.foldl_append,ae];rfl
  have key:=Ll jg wu abv 193 [.ptr (.obj 831) 0] (fun a=>by simp[jg,inObs,Pv.look]) Ψ Fj (fun v a bs h=>agK v a bs h) t m _ (PV t m ah5);clear ae aJ;simp[hi,qC];(with_reducible repeat' first|refine ai ?_|simp[qC,hi]);(refine cV.ob (key) (by first|exact wu _|exact wu ‹_› _) (by simp only[jg,bW,b9];exact aN) (by simp only[jg,bW,b9];exact aN) (by simp[inObs,Pv.look,jg]) ?_;rintro r ah ⟨rfl,rfl⟩;refine⟨(Same.keys (by simp[jg]) (by simp[jg])),?_⟩;simp[cl,jg]);(with_reducible repeat' first|refine ai ?_|simp);refine bK.rng (t.fold rS m) hi ax ?_;exact bT
theorem aal{s:List ao}(ag:e5 s){n:Int}(ax:0<=n):bC al 58 [.slice 5 .no (s.map ao.e),.int .i64 n] (.bool (s.all (k6 n))):=by
 have qd:=ag.len;generalize aU:s.all (k6 n)=R;refine bc xS aey aly fun aM=>?_;unfold Ri;simp;refine dO [1,7,8] (fun i (_:Unit)=>[(9,.int .i64 i)]) s.length (pA (k6 n) s) () bT (fun k b ad=>Ω) (fun _ ae _=>?_) (fun i _ hi ae _=>?_)
 ·have:R=true:=by rw[<-aU,jd];intro b af;obtain⟨k,ad,e⟩:=og af;exact ae k b ad (by rw[b6 ad,e])
  rw[this];exact bQ
 ·obtain⟨b,aF,gS⟩:=eh hi;have gQ:k6 n b=false->R=false:=fun h=>by rw[<-aU,Bool.eq_false_iff];intro cn;rw[jd]at cn;rw[cn b (dV aF)]at h;cases h
  have eR:=aak [b.t] (fun t aJ=>by simp at aJ;subst aJ;exact ag.fit b (dV aF));have hle:=Jt (n:=n) b.t 0;rw[show xX [b.t]=b.t.fold rS 0 from rfl]at eR;simp only[gM,mN]at eR;generalize b.t.fold rS 0=m at eR hle;by_cases J:b.v<n
  ·have oA:¬n<=b.v:=Ω
   cases U:ez n b.t
   ·have ar:n<m:=by rw[U]at hle;simp at hle;omega
    rw[gQ (by simp[k6,U])];clear ae aF hle;exact bQ
   ·have ar:¬n<m:=by rw[U]at hle;simp[ax]at hle;omega
    have oF:=ae.step aF (by simp[k6,J,U]);clear ae aF hle;exact hE
  ·have oA:n<=b.v:=Ω
   rw[gQ (by simp[k6,J])];clear ae aF hle;exact bQ
def wy:C:=(aa [cC 1 0,a8 2 false] (.seq (aa [aE 11 0 1 1,av 12 1 11,aV 13 .lss 12 0,I 14 13,aq 14 false (aE 15 0 1 1),aq 14 false (av 16 1 15),aq 14 false (aV 17 .gtr 16 100000),cW 18 14 17,I 19 18,aq 19 false (aE 20 1 1 1),aq 19 false (av 21 1 20),aq 19 false (cB 22 55 21),aq 19 false (cj 23 22),cW 24 19 23,I 25 24,aq 25 false (aE 26 3 1 1),aq 25 false (av 27 1 26),aq 25 false (cB 28 56 27),aq 25 false (cj 29 28),cW 30 25 29,I 31 30,aq 31 false (aE 32 4 1 1),aq 31 false (av 33 1 32),aq 31 false (cB 34 57 33),aq 31 false (cj 35 34),cW 36 31 35,I 37 36,aq 37 false (aE 38 1 1 1),aq 37 false (av 39 1 38),aq 37 false (aE 40 0 1 1),aq 37 false (av 41 1 40),aq 37 false (b2 42 58 39 41),aq 37 false (cj 43 42),cW 44 37 43] (aT 44 (aa [a8 2 false] .ret) .skip)) (.seq (aa [aE 45 2 1 1,av 46 1 45,ca 47 46,bS 48 0] (e0 49 48 47 (.seq (.block 1 (aa [cf 50 1 46 48,av 51 1 50,I 4 51] (aa [I 52 4,cB 53 55 52,cj 54 53,I 55 54,cb 55 false 56 4,aq 55 false (aE 57 0 1 1),aq 55 false (av 58 1 57),aq 55 false (b2 59 58 56 58),aq 55 false (cj 60 59),cW 61 55 60] (aT 61 (aa [a8 2 false] .ret) .skip)))) (.region [aV 62 .add 48 1,I 48 62])))) (.seq (aa [aE 63 3 1 1,av 64 1 63,ca 65 64,bS 66 0] (.block 2 (.loop (aa [bk 67 .lss 66 65] (.seq (aT 67 .skip (.exit 2)) (.seq (.block 3 (aa [cf 68 2 64 66,aY 69 2 68,cP (.alloc 6 none (.agg [.int .i64 0,.int .i64 0])),bB 2 6 69] (aa [aE 70 0 1 6,av 71 1 70,aE 72 0 1 1,av 73 1 72,bk 74 .geq 71 73] (aT 74 (aa [a8 2 false] .ret) .skip)))) (.region [aV 75 .add 66 1,I 66 75]))))))) (.seq (aa [aE 76 4 1 1,av 77 1 76,ca 78 77,bS 79 0] (.block 4 (.loop (aa [bk 80 .lss 79 78] (.seq (aT 80 .skip (.exit 4)) (.seq (.block 5 (aa [cf 81 2 77 79,aY 82 2 81,cP (.alloc 8 none (.agg [.int .i64 0,.str []])),bB 2 8 82] (aa [aE 83 0 1 8,av 84 1 83,aE 85 0 1 1,av 86 1 85,bk 87 .geq 84 86] (aT 87 (aa [a8 2 false] .ret) .skip)))) (.region [aV 88 .add 79 1,I 79 88]))))))) (aa [aY 90 5 1,cB 91 50 90,I 89 91,cr 92 0 89,cr 93 1 89,c1 9 gJ,bB 5 9 92,I 10 93] (aa [I 94 10,I 95 94,aq 95 true (aY 96 5 9),aq 95 true (aY 97 5 1),aq 95 true (b2 98 59 96 97),dL 99 95 98,I 2 99] .ret)))))))
@[simp] def anJ:List bO:=[.tmp 2]
def FX:C:=(aa [cC 1 0,c1 2 gJ,a8 3 false] (aa [aE 26 1 1 1,av 27 1 26,aE 28 3 1 1,av 29 1 28,b2 30 120 27 29,I 25 30,cr 31 0 25,cr 32 1 25,I 4 31,I 5 32] (aa [aE 34 1 1 1,av 35 1 34,aE 36 4 1 1,av 37 1 36,b2 38 121 35 37,I 33 38,cr 39 0 33,cr 40 1 33,I 6 39,I 7 40] (.seq (aa [I 41 5,cj 42 41,I 43 42,cb 43 false 44 7,aq 43 false (cj 45 44),cW 46 43 45] (aT 46 (aa [iq 47 gJ [],bB 5 2 47,a8 3 false] .ret) .skip)) (aa [cP (.mkmap 48 none),I 8 48] (.seq (aa [I 49 4,ca 50 49,bS 51 0] (e0 52 51 50 (.seq (.block 1 (aa [cf 53 2 49 51,aY 54 2 53,cP (.alloc 10 none (.agg [.int .i64 0,.int .i64 0])),bB 2 10 54] (aa [aE 55 1 1 10,av 56 1 55,aV 57 .eql 56 3] (aT 57 (.region [I 58 8,aE 59 0 1 10,av 60 1 59,cP (.mput .i (.t 58) (.t 60) (.c (.bool true)))]) .skip)))) (.region [aV 61 .add 51 1,I 51 61])))) (aa [eI 62 2 106 [],I 11 62] (.seq (aa [I 63 6,ca 64 63,bS 65 0] (.block 2 (.loop (aa [bk 66 .lss 65 64] (.seq (aT 66 .skip (.exit 2)) (.seq (.block 3 (aa [cf 67 2 63 65,aY 68 2 67,cP (.alloc 13 none (.agg [.int .i64 0,.str []])),bB 2 13 68] (aa [I 69 8,aE 70 0 1 13,av 71 1 70,b5 72 (.mget .i (.bool false) false (.t 69) (.t 71)),cj 73 72] (aT 73 (.region [I 74 11,aY 75 2 13,eI 76 2 106 [.t 75],h6 77 2 106 74 76,I 11 77]) .skip)))) (.region [aV 78 .add 65 1,I 65 78]))))))) (aa [eI 79 1 23 [],I 14 79] (.seq (aa [aE 80 2 1 1,av 81 1 80,ca 82 81,bS 83 0] (.block 4 (.loop (aa [bk 84 .lss 83 82] (.seq (aT 84 .skip (.exit 4)) (.seq (.block 5 (aa [cf 85 1 81 83,av 86 1 85,I 16 86] (aa [aE 88 1 1 1,av 89 1 88,I 90 16,b2 91 122 89 90,I 87 91,cr 92 0 87,cr 93 1 87,I 17 92,I 18 93] (.seq (aa [I 94 18,cj 95 94] (aT 95 (.exit 5) .skip)) (aa [I 97 17,I 98 4,b2 99 120 97 98,I 96 99,cr 100 0 96,cr 101 1 96,I 19 100,I 20 101] (aa [I 103 17,I 104 11,b2 105 121 103 104,I 102 105,cr 106 0 102,cr 107 1 102,I 21 106,I 22 107] (.seq (aa [I 108 20,cj 109 108,I 110 109,cb 110 false 111 22,aq 110 false (cj 112 111),cW 113 110 112] (aT 113 (.exit 5) .skip)) (aa [aE 114 1 1 1,av 115 1 114,I 116 17,b2 117 123 115 116,I 23 117] (.seq (aa [I 118 23,ca 119 118,aV 120 .eql 119 0] (aT 120 (aa [iq 121 gJ [],bB 5 2 121,a8 3 false] .ret) .skip)) (.region [I 122 14,I 123 23,eI 124 1 23 [.t 123],h6 125 1 23 122 124,I 14 125])))))))))) (.region [aV 126 .add 83 1,I 83 126]))))))) (aa [I 127 14,cB 128 124 127,I 24 128] (.seq (aa [I 129 24,ca 130 129,aV 131 .gtr 130 30] (aT 131 (aa [iq 132 gJ [],bB 5 2 132,a8 3 false] .ret) .skip)) (.seq (.drawn true 142 [aE 133 0 1 1,av 134 1 133,aE 135 1 1 1,av 136 1 135,cB 137 119 136,I 138 24,I 139 4,I 140 11,iq 141 gJ [(0,1,(.t 134)),(1,1,(.t 137)),(2,1,(.t 138)),(3,1,(.t 139)),(4,1,(.t 140))],bB 5 2 141,a8 3 true]) .ret)))))))))))))
@[simp] def BZ:List bO:=[.cell 2 true 5,.tmp 3]
def yh:C:=(aa [cC 2 0,cC 3 1,a8 4 false] (.seq (aa [aE 8 0 1 2,av 9 1 8,aE 10 0 1 3,av 11 1 10,bk 12 .neq 9 11,I 13 12,aq 13 false (aE 14 1 1 2),aq 13 false (av 15 1 14),aq 13 false (aE 16 1 1 3),aq 13 false (av 17 1 16),aq 13 false (b2 18 135 15 17),aq 13 false (cj 19 18),cW 20 13 19,I 21 20,aq 21 false (aE 22 2 1 2),aq 21 false (av 23 1 22),aq 21 false (ca 24 23),aq 21 false (aE 25 2 1 3),aq 21 false (av 26 1 25),aq 21 false (ca 27 26),aq 21 false (bk 28 .neq 24 27),cW 29 21 28,I 30 29,aq 30 false (aE 31 3 1 2),aq 30 false (av 32 1 31),aq 30 false (ca 33 32),aq 30 false (aE 34 3 1 3),aq 30 false (av 35 1 34),aq 30 false (ca 36 35),aq 30 false (bk 37 .neq 33 36),cW 38 30 37,I 39 38,aq 39 false (aE 40 4 1 2),aq 39 false (av 41 1 40),aq 39 false (ca 42 41),aq 39 false (aE 43 4 1 3),aq 39 false (av 44 1 43),aq 39 false (ca 45 44),aq 39 false (bk 46 .neq 42 45),cW 47 39 46] (aT 47 (aa [a8 4 false] .ret) .skip)) (.seq (aa [aE 48 2 1 2,av 49 1 48,ca 50 49,bS 51 0] (e0 52 51 50 (.seq (.block 1 (aa [I 53 51,I 5 53] (.seq (.drawn true 103 [aE 54 2 1 2,av 55 1 54,I 56 5,cf 57 1 55 56,av 58 1 57,aE 59 2 1 3,av 60 1 59,I 61 5,cf 62 1 60 61,av 63 1 62,b2 64 135 58 63,cj 65 64]) (aT 65 (aa [a8 4 false] .ret) .skip)))) (.region [aV 66 .add 51 1,I 51 66])))) (.seq (aa [aE 67 3 1 2,av 68 1 67,ca 69 68,bS 70 0] (.block 2 (.loop (aa [bk 71 .lss 70 69] (.seq (aT 71 .skip (.exit 2)) (.seq (.block 3 (aa [I 72 70,I 6 72] (.seq (.drawn true 103 [aE 73 3 1 2,av 74 1 73,I 75 6,cf 76 2 74 75,aY 77 2 76,aE 78 3 1 3,av 79 1 78,I 80 6,cf 81 2 79 80,aY 82 2 81,b5 83 (.beq true (some [false,false]) (.t 77) (.t 82))]) (aT 83 (aa [a8 4 false] .ret) .skip)))) (.region [aV 84 .add 70 1,I 70 84]))))))) (.seq (aa [aE 85 4 1 2,av 86 1 85,ca 87 86,bS 88 0] (.block 4 (.loop (aa [bk 89 .lss 88 87] (.seq (aT 89 .skip (.exit 4)) (.seq (.block 5 (aa [I 90 88,I 7 90] (.seq (.drawn true 103 [aE 91 4 1 2,av 92 1 91,I 93 7,cf 94 2 92 93,aY 95 2 94,aE 96 4 1 3,av 97 1 96,I 98 7,cf 99 2 97 98,aY 100 2 99,b5 101 (.beq true (some [false,true]) (.t 95) (.t 100))]) (aT 101 (aa [a8 4 false] .ret) .skip)))) (.region [aV 102 .add 88 1,I 88 102]))))))) (aa [a8 4 true] .ret))))))
@[simp] def Ip:List bO:=[.tmp 4]
def Jd:List (Nat×dN):=[
 (3,⟨1,8,.int .i64,.int .i64 0⟩),
 (4,⟨1,1,.bool,.bool false⟩),
 (9,⟨1,16,.str,.str []⟩),
 (23,⟨1,24,.slice 61,.slice 5 .nil []⟩),
 (24,⟨1,24,.slice 23,.slice 1 .nil []⟩),
 (25,⟨1,24,.slice 104,.slice 2 .nil []⟩),
 (26,⟨1,24,.slice 106,.slice 2 .nil []⟩),
 (28,⟨5,104,.struct [(0,3),(1,23),(2,24),(3,25),(4,26)],.agg [.int .i64 0,.slice 5 .nil [],.slice 1 .nil [],.slice 2 .nil [],.slice 2 .nil []]⟩),
 (104,⟨2,16,.struct [(0,3),(1,3)],.agg [.int .i64 0,.int .i64 0]⟩),
 (106,⟨2,24,.struct [(0,3),(1,9)],.agg [.int .i64 0,.str []]⟩),
 (154,⟨1,8,.map 3 4,.junk⟩)]
theorem oR:fY al Jd=true:=by kernel_rfl
theorem zn:bZ Jd wy anJ 1 Tryz.f18=true:=by kernel_rfl
theorem ym:al.funcs[(18:Nat)]? =some Tryz.f18:=Tryz.func18
theorem NR:bZ Jd FX BZ 1 Tryz.f50=true:=by kernel_rfl
theorem K2:al.funcs[(50:Nat)]? =some Tryz.f50:=Tryz.func50
theorem BO:bZ Jd yh Ip 2 Tryz.f59=true:=by kernel_rfl
theorem AB:al.funcs[(59:Nat)]? =some Tryz.f59:=Tryz.func59
def ch.e(s:ch):aj:= .agg [.int .i64 s.n,.slice 5 .no (s.b.map ao.e),.slice 1 .no (s.d.map cO),.slice 2 .no (s.k.map bN.e),.slice 2 .no (s.m.map bj.e)]
@[simp]theorem aum(S:aI->Prop)(s:ch):aB S s.e=True:=by simp[ch.e,aB,aC]
def lK(o:Option ch):aj:= .tuple [(o.getD ir).e,.bool o.isSome]
@[simp]theorem aul(S:aI->Prop)(o:Option ch):aB S (lK o)=True:=by simp[lK,aB,aC]
def vB(k:List bN)(i:Nat)(l:List (Int×Bool)):Prop:= ∀v,(c7 v l).getD false=(k.take i).any fun x=>x.v==v&&x.k==3
theorem vB.put{k:List bN}{i:Nat}{l:List (Int×Bool)}(h:vB k i l){x:bN}(ab:k[i]? =some x)(ar:x.k=3):vB k (i+1) (eU x.v true l):=fun v=>by
 rw[n9,qQ ab,List.any_append,<-h v];by_cases e:v=x.v
 ·rw[if_pos e];simp[e,ar]
 ·rw[if_neg e];have:(x.v==v)=false:=by simp;exact fun h=>e h.symm
  simp[this]
theorem vB.skip{k:List bN}{i:Nat}{l:List (Int×Bool)}(h:vB k i l){x:bN}(ab:k[i]? =some x)(ar:¬x.k=3):vB k (i+1) l:=fun v=>by
 rw[qQ ab,List.any_append,<-h v];have:(x.k==3)=false:=by simp[ar]
 simp[this]
theorem vB.fin{k:List bN}{l:List (Int×Bool)}(h:vB k k.length l)(ad:jE k)(x:bj):(c7 x.v l).getD false= !kZ k x:=by rw[h x.v,je,abK ad.asc,kZ,bne,Bool.not_not]
def tW(k:List bN)(m:List bj)(i:Nat)(a:List bj):Prop:=a=(m.take i).filter (kZ k)
theorem tW.step{k:List bN}{m:List bj}{i:Nat}{a:List bj}(h:tW k m i a){x:bj}(ab:m[i]? =some x):tW k m (i+1) (if kZ k x=true then a++[x]else a):=by
 rw[tW,qQ ab,List.filter_append,<-h];by_cases e:kZ k x=true
 ·rw[if_pos e];simp[e]
 ·rw[if_neg e];simp[e]
theorem Bt(S:aI->Prop)(l:List bj)(d:bj):aC S (l.map bj.e++[d.e])=True:=by have:=MW S (l++[d]);rw[rT]at this;exact eq_true this
theorem W7{k:List bN}{m:List bj}(h:hN m):hN (m.filter (kZ k)):=⟨fun x ab=>h.at' x (oi.1 ab).1,aa9 _ h.asc⟩
theorem Pr{G:List (List dw)}{k:List bN}{m:List bj}(h:n7 G m):n7 G (m.filter (kZ k)):=fun x ab=>h x (oi.1 ab).1
theorem qG.skip{b:List ao}{k:List bN}{m:List bj}{D:List (List ao)}{i:Nat}{a:List (List ao)}(h:qG b k m D i a){d:List ao}(aR:D[i]? =some d)(he:∀r,hk b k m (d::r)=hk b k m r):qG b k m D (i+1) a:=⟨by have:=h.1;omega,h.2.1,by rw[<-h.2.2,ub aR,he]⟩
theorem qG.snoc{b:List ao}{k:List bN}{m:List bj}{D:List (List ao)}{i:Nat}{a:List (List ao)}(h:qG b k m D i a){d x:List ao}(aR:D[i]? =some d)(ab:e5 x)(he:∀r,hk b k m (d::r)=(hk b k m r).map (x:: ·)):qG b k m D (i+1) (a++[x]):=
 ⟨by have:=h.1;simp;omega,fun y aL=>by
  rcases kt.1 aL with aL|aL
  ·exact h.2.1 y aL
  ·simp at aL;subst aL;exact ab,by
  rw[<-h.2.2,ub aR,he,Option.map_map];congr 1;funext r;simp⟩
theorem qG.stop{b:List ao}{k:List bN}{m:List bj}{D:List (List ao)}{i:Nat}{a:List (List ao)}(h:qG b k m D i a){d:List ao}(aR:D[i]? =some d)(he:∀r,hk b k m (d::r)=none):hk b k m D=none:=by rw[<-h.2.2,ub aR,he];rfl
theorem qG.fin{b:List ao}{k:List bN}{m:List bj}{D:List (List ao)}{a:List (List ao)}(h:qG b k m D D.length a):hk b k m D=some a:=by rw[<-h.2.2,List.drop_length];simp[hk]
theorem tZ(S:aI->Prop)(l:List (List ao))(d:List ao):aC S (l.map cO++[.slice 5 .no (d.map ao.e)])=True:=y7 S l d
theorem CV{d:List ao}(aR:e5 d):∀e∈h3 d,e.1.ok=true/\e.2.ok=true:=fun e he=>by obtain⟨c,aw,rfl⟩:=iu.1 he;have:=aR.ok c aw;exact⟨by simpa[T.ok]using this.1,this.2⟩
theorem Jr{s:ch}(h:jw s){G:List (List dw)}(iI:G.length<=687000)(a7:n7 G s.m):bC al 50 [s.e] (lK (ij s)):=by
 generalize du:ij s=O;have kW:=aah h.b h.k;have kX:=aai h.b h.m iI a7;have me:=fun k=>Ix (acc:=[]) (a:=k) h.b h.k.at' ⟨Ψ,Ψ⟩;have qM:=fun m=>Iy (acc:=[]) (a:=m) h.b h.m.at' ⟨Ψ,by simp[h7]⟩;have nJ:=fun m=>Iz (acc:=[]) (a:=m) (s:=s.b) a7 (fun x ab=>by simp at ab);have af:=h.b;have aR:=h.d;clear h a7;unfold ij at du;obtain⟨n,b,d,dU,m0⟩:=s;simp only at kW kX me qM nJ af aR du;have fw:=af.len;simp only[ch.e];generalize gx b dU []=ok at kW du me;generalize gy b m0 []=om at kX du qM nJ;cases ok with
 |none=>
  simp only at du;subst du;simp only[fX]at kW;simp only[ig]at kX;clear me qM nJ;refine bc oR K2 NR fun aM=>?_;unfold FX;simp;(with_reducible repeat' first|refine ai ?_|refine az kW ?_|refine aA kW ?_|refine az kX ?_|refine aA kX ?_|simp);all_goals simp[bq,BZ,aX,aZ,aW]
  all_goals simp[lK,ir,ch.e]
 |some k=>
  simp only at du;cases om with
  |none=>
   simp only at du;subst du;simp only[fX]at kW;simp only[ig]at kX;clear me qM nJ;refine bc oR K2 NR fun aM=>?_;unfold FX;simp;(with_reducible repeat' first|refine ai ?_|refine az kW ?_|refine aA kW ?_|refine az kX ?_|refine aA kX ?_|simp);all_goals simp[bq,BZ,aX,aZ,aW]
   all_goals simp[lK,ir,ch.e]
  |some m=>
   simp only at du;have wS:=me k rfl;have yP:=qM m rfl;have yH:=nJ m rfl;have iV:=rv wS;have lC:m.length<=68719470000:=by have:=Eb yP yH;omega
   have A5:=W7 (k:=k) yP;have AZ:=Pr (k:=k) yH;have ais:(m.filter (kZ k)).length<=68719470000:=kJ (List.length_filter_le _ _) lC;simp only[fX,jM,oZ]at kW;simp only[ig,jM,oZ]at kX;clear me qM nJ;refine bc oR K2 NR fun aM=>?_;unfold FX;have Dn:d.length<=68719476736:=by simp[eA,eo,et,lim]at aM;omega
   simp;(with_reducible repeat' first|refine ai ?_|refine az kW ?_|refine aA kW ?_|refine az kX ?_|refine aA kX ?_|simp);refine gA (fun i (l:List (Int×Bool))=>⟨[(1,.ptr (.loc 0) 0),(2,.ptr (.loc 1) 0),(4,.slice 2 .no (k.map bN.e)),(6,.slice 2 .no (m.map bj.e)),(8,.gmap (.loc 2)),(49,.slice 2 .no (k.map bN.e)),(50,.int .i64 k.length),(51,.int .i64 i)],[(.loc 0,[.int .i64 n,.slice 5 .no (b.map ao.e),.slice 1 .no (d.map cO),.slice 2 .no (dU.map bN.e),.slice 2 .no (m0.map bj.e)]),(.loc 1,[.int .i64 0,.slice 5 .nil [],.slice 1 .nil [],.slice 2 .nil [],.slice 2 .nil []]),(.loc 2,qg l)],[],3,[]⟩) k.length (vB k) [] ⟨by simp[fresh,aC,aB,bP,inObs,Pv.look,M8],dD (by simp[fresh,aC,aB,bP,inObs,Pv.look,M8]),dE (by simp[fresh,aC,aB,dt,inObs,Pv.look,M8]),Ψ⟩ (fun v=>by simp[c7]) (fun l ae _=>?_) (fun i l hi ae _=>?_);rotate_left
   ·obtain⟨x,ab,cG⟩:=eh hi;by_cases ar:x.k=3
    ·have ax:=ae.put ab ar;clear ae ab;exact hE
    ·have ax:=ae.skip ab ar;have tG:(x.k==3)=false:=by simp[ar]
     clear ae ab;exact hE
   have hints:=ae.fin wS;clear ae;simp;(with_reducible repeat' first|refine ai ?_|simp);refine gA (fun i (a:List bj)=>⟨[(1,.ptr (.loc 0) 0),(2,.ptr (.loc 1) 0),(4,.slice 2 .no (k.map bN.e)),(8,.gmap (.loc 2)),(11,.slice 2 (.own (.loc 3)) (a.map bj.e)),(63,.slice 2 .no (m.map bj.e)),(64,.int .i64 m.length),(65,.int .i64 i)],[(.loc 0,[.int .i64 n,.slice 5 .no (b.map ao.e),.slice 1 .no (d.map cO),.slice 2 .no (dU.map bN.e),.slice 2 .no (m0.map bj.e)]),(.loc 1,[.int .i64 0,.slice 5 .nil [],.slice 1 .nil [],.slice 2 .nil [],.slice 2 .nil []]),(.loc 2,qg l)],[(.loc 3,⟨a.length,106,2,none⟩)],4,[]⟩) m.length (tW k m) [] bT (by simp[tW]) (fun a ae _=>?_) (fun i a hi ae _=>?_);rotate_left
   ·obtain⟨x,ab,cG⟩:=eh hi;have sp:a.length<=68719470000:=by
     have:a.length<=(m.take i).length:=by rw[ae];exact List.length_filter_le _ _
     simp at this;omega
    have ax:=ae.step ab;have bn:=hints x;cases aK:kZ k x
    ·rw[aK]at ax bn;simp only[ho,if_false,Bool.not_false]at ax bn;clear ae ab aK;simp[hi,cG];((with_reducible repeat' first|refine ai ?_|simp[hi,cG,bn]|((first|apply bU|apply bY|apply bX)<;>intro h<;>try simp at h))<;>(try exact cz));all_goals exact bK.rng a hi ax bT
    ·rw[aK]at ax bn;simp only[if_true,Bool.not_true]at ax bn;clear ae ab aK;simp[hi,cG];((with_reducible repeat' first|refine ai ?_|simp[hi,cG,bn]|((first|apply bU|apply bY|apply bX)<;>intro h<;>try simp at h))<;>(try exact cz));all_goals first|(refine⟨by unfold lim;omega,?_⟩)|skip
     all_goals(with_reducible repeat' first|refine ai ?_|simp)
     all_goals exact bK.rng (a++[x]) hi ax ⟨by simp[fresh,aC,aB,bP,inObs,Pv.look,Bt],dD (by simp[fresh,aC,aB,bP,inObs,Pv.look,Bt]),dE (by simp[fresh,aC,aB,dt,inObs,Pv.look,Bt]),Ψ⟩
   rw[tW,je]at ae;rw[<-ae]at A5 AZ ais du;clear ae hints iV yP yH;simp;(with_reducible repeat' first|refine ai ?_|simp);refine gA (fun i (L:List (List ao))=>⟨[(1,.ptr (.loc 0) 0),(2,.ptr (.loc 1) 0),(4,.slice 2 .no (k.map bN.e)),(11,.slice 2 (.own (.loc 3)) (a.map bj.e)),(14,.slice 1 (.own (.loc 4)) (L.map cO)),(81,.slice 1 .no (d.map cO)),(82,.int .i64 d.length),(83,.int .i64 i)],[(.loc 0,[.int .i64 n,.slice 5 .no (b.map ao.e),.slice 1 .no (d.map cO),.slice 2 .no (dU.map bN.e),.slice 2 .no (m0.map bj.e)]),(.loc 1,[.int .i64 0,.slice 5 .nil [],.slice 1 .nil [],.slice 2 .nil [],.slice 2 .nil []])],[(.loc 3,⟨a.length,106,2,none⟩),(.loc 4,⟨L.length,23,1,none⟩)],5,[]⟩) d.length (qG b k a d) [] bT ⟨Ψ,Ψ,Ψ⟩ (fun L ae _=>?_) (fun i L hi ae _=>?_)
   ·have j4:=ae.fin;have wM:=ae.2.1;rw[j4]at du;simp only at du;have nV:=aqq L wM;have kV:bC al 119 [.slice 5 .no (b.map ao.e)] (.slice 5 .no (b.map ao.e)):=Ji b fw;clear ae j4 wM;generalize ll L=M at nV du;by_cases lY:M.length<=30
    ·have pe:¬(30:Int)<M.length:=Ω
     rw[if_pos lY]at du;subst du;simp;(with_reducible repeat' first|refine ai ?_|refine az nV ?_|refine aA nV ?_|refine az kV ?_|refine aA kV ?_|simp[lY,pe]);all_goals simp[bq,BZ,aX,aZ,aW]
     all_goals simp[lK,ch.e]
    ·have pe:(30:Int)<M.length:=Ω
     rw[if_neg lY]at du;subst du;simp;(with_reducible repeat' first|refine ai ?_|refine az nV ?_|refine aA nV ?_|refine az kV ?_|refine aA kV ?_|simp[lY,pe]);all_goals simp[bq,BZ,aX,aZ,aW]
     all_goals simp[lK,ir,ch.e]
   ·obtain⟨x,ab,cG⟩:=eh hi;have gY:=aR x (dV ab);have UM:=ae.1;have ic:bC al 122 [.slice 5 .no (b.map ao.e),cO x] (fR (mgu b (h3 x))):=aqm af gY;simp only[fR]at ic;cases hu:mgu b (h3 x)with
    |none=>have ax:=ae.skip ab fun r=>M2 hu;rw[hu]at ic;simp only[kv,jN]at ic;clear ae ab du;exact hE
    |some y=>
     have jC:=af.mgu (CV gY) hu;rw[hu]at ic;simp only[jM,oZ]at ic;have dx:=aah jC wS;have dg:=aai jC A5 iI AZ;have ie:=aqs af jC;simp only[fX]at dx;simp only[ig]at dg;by_cases fy:gx y k []=none\/gy y a []=none
     ·have ax:=ae.skip ab fun r=>M1 hu fy;clear ae ab du hu;rcases fy with e|e
      ·rw[e]at dx;simp only[kv,jN]at dx;exact hE
      ·rw[e]at dg;simp only[kv,jN]at dg;cases (gx y k []).isSome
       ·simp[hi,cG];((with_reducible repeat' first|refine ai ?_|refine az ic ?_|refine aA ic ?_|refine az dx ?_|refine aA dx ?_|refine az dg ?_|refine aA dg ?_|simp[hi,cG]|((first|apply bU|apply bY|apply bX)<;>intro h<;>try simp at h))<;>(try exact cz));all_goals exact bK.rng L hi ax bT
       ·simp[hi,cG];((with_reducible repeat' first|refine ai ?_|refine az ic ?_|refine aA ic ?_|refine az dx ?_|refine aA dx ?_|refine az dg ?_|refine aA dg ?_|simp[hi,cG]|((first|apply bU|apply bY|apply bX)<;>intro h<;>try simp at h))<;>(try exact cz));all_goals exact bK.rng L hi ax bT
     ·have ak:(gx y k []).isSome=true:=by cases e:gx y k []with|none=>exact absurd (.inl e) fy|some _=>rfl
      have aD:(gy y a []).isSome=true:=by cases e:gy y a []with|none=>exact absurd (.inr e) fy|some _=>rfl
      rw[ak]at dx;rw[aD]at dg;by_cases cM:gT b y=[]
      ·have ag:=ae.stop ab fun r=>M0 hu fy cM;rw[ag]at du;simp only at du;subst du;rw[cM]at ie;simp only[mN]at ie;clear ae ab hu fy;simp[hi,cG];((with_reducible repeat' first|refine ai ?_|refine az ic ?_|refine aA ic ?_|refine az dx ?_|refine aA dx ?_|refine az dg ?_|refine aA dg ?_|refine az ie ?_|refine aA ie ?_|simp[hi,cG]|((first|apply bU|apply bY|apply bX)<;>intro h<;>try simp at h))<;>(try exact cz));all_goals simp[bq,BZ,aX,aZ,aW]
       all_goals simp[lK,ir,ch.e]
      ·have ax:=ae.snoc ab (HS (b:=b) jC) fun r=>M3 hu fy cM;have wU:¬((gT b y).length:Int)=0:=by have:(gT b y).length≠0:=fun h=>cM (List.length_eq_zero_iff.1 h);omega
       have wV:(((gT b y).length:Int)==0)=false:=by simp[cM]
       have Hq:bC al 123 [.slice 5 .no (b.map ao.e),.slice 5 .no (y.map ao.e)] (cO (gT b y)):=ie;clear ae ab hu fy du ie;generalize gT b y=z at Hq ax wU wV cM;simp only[cO]at Hq;simp[hi,cG];(with_reducible repeat' first|refine ai ?_|refine az ic ?_|refine aA ic ?_|refine az dx ?_|refine aA dx ?_|refine az dg ?_|refine aA dg ?_|refine az Hq ?_|refine aA Hq ?_|simp[hi,cG,wU,wV,cM]);all_goals first|(refine⟨by unfold lim;omega,?_⟩)|skip
       all_goals(with_reducible repeat' first|refine ai ?_|simp)
       all_goals exact bK.rng (L++[z]) hi ax ⟨by simp[fresh,aC,aB,bP,inObs,Pv.look,tZ,cO],dD (by simp[fresh,aC,aB,bP,inObs,Pv.look,tZ,cO]),dE (by simp[fresh,aC,aB,dt,inObs,Pv.look,tZ,cO]),Ψ⟩
@[simp]theorem ar4(neg:Bool)(x y:bN):iR neg (some [false,false]) x.e y.e=some (True,.bool (if neg then !decide (x=y)else decide (x=y))):=by
 have h:(x.v==y.v&&(x.k==y.k&&true))=decide (x=y):=by rw[qY];simp only[Bool.and_true,cy,eb,eW];cases x;cases y;simp
 rw[<-h];rfl
@[simp]theorem ar5(neg:Bool)(x y:bj):iR neg (some [false,true]) x.e y.e=some (True,.bool (if neg then !decide (x=y)else decide (x=y))):=by
 have h:(x.v==y.v&&(x.s==y.s&&true))=decide (x=y):=by rw[qY];simp only[Bool.and_true,cy,eb,eW];cases x;cases y;simp
 rw[<-h];rfl
theorem aqK(x y:List ao)(h:x.length<=1000000):bC al 135 [cO x,cO y] (.bool (decide (x=y))):=aaq x y h
theorem PS(a c:ch)(nM:a.b.length<=1000000)(Dj:∀x∈a.d,x.length<=1000000):bC al 59 [a.e,c.e] (.bool (decide (a=c))):=by
 obtain⟨n,b,d,k,m⟩:=a;obtain⟨n',b4,cd,bJ,ha⟩:=c;simp only at nM Dj;generalize aU:decide ((⟨n,b,d,k,m⟩:ch)=⟨n',b4,cd,bJ,ha⟩)=R;simp only[ch.mk.injEq,ch.e]at aU⊢;by_cases ba:n=n';rotate_left
 ·have gn:R=false:=by rw[<-aU];simp[ba]
  have uj:(n !=n')=true:=by simp[ba]
  rw[gn];clear aU gn;refine bc oR AB BO fun aM=>?_;unfold yh;exact bQ
 subst ba;have cT:=aaq b b4 nM;by_cases bo:b=b4;rotate_left
 ·have gn:R=false:=by rw[<-aU];simp[bo]
  rw[hQ bo]at cT;rw[gn];clear aU gn;refine bc oR AB BO fun aM=>?_;unfold yh;exact bQ
 subst bo;rw[gN rfl]at cT;by_cases b3:d.length=cd.length;rotate_left
 ·have gn:R=false:=by rw[<-aU];simp only[fC];rintro⟨_,_,rfl,_⟩;exact b3 rfl
  have sX:((d.length:Int) !=cd.length)=true:=by simp;omega
  rw[gn];clear aU gn;refine bc oR AB BO fun aM=>?_;unfold yh;exact bQ
 by_cases c9:k.length=bJ.length;rotate_left
 ·have gn:R=false:=by rw[<-aU];simp only[fC];rintro⟨_,_,_,rfl,_⟩;exact c9 rfl
  have anz:((k.length:Int) !=bJ.length)=true:=by simp;omega
  rw[gn];clear aU gn;refine bc oR AB BO fun aM=>?_;unfold yh;exact bQ
 by_cases dh:m.length=ha.length;rotate_left
 ·have gn:R=false:=by rw[<-aU];simp only[fC];rintro⟨_,_,_,_,rfl⟩;exact dh rfl
  have anA:((m.length:Int) !=ha.length)=true:=by simp;omega
  rw[gn];clear aU gn;refine bc oR AB BO fun aM=>?_;unfold yh;exact bQ
 have yS:d≠cd->R=false:=fun h=>by rw[<-aU];simp[h]
 have yT:k≠bJ->R=false:=fun h=>by rw[<-aU];simp[h]
 have Ma:m≠ha->R=false:=fun h=>by rw[<-aU];simp[h]
 refine bc oR AB BO fun aM=>?_;unfold yh;have mW:cd.length<=68719476736:=by simp[eA,eo,et,lim]at aM;omega
 have ail:bJ.length<=68719476736:=by simp[eA,eo,et,lim]at aM;omega
 have aim:ha.length<=68719476736:=by simp[eA,eo,et,lim]at aM;omega
 clear aM;simp;(with_reducible repeat' first|refine ai ?_|refine az cT ?_|refine aA cT ?_|simp[b3,c9,dh]);have cU:=yS;refine dO [2,3,50] (fun i (_:Unit)=>[(51,.int .i64 i)]) cd.length (r7 d cd) () bT (fun k ad=>Ω) (fun _ ae _=>?_) (fun i _ hi ae _=>?_);rotate_left
 ·obtain⟨x,ab⟩:∃x,d[i]? =some x:=⟨_,b6 Ω⟩;obtain⟨y,aL⟩:∃y,cd[i]? =some y:=⟨_,b6 hi⟩;have gB:i<d.length:=Ω
  have cG:∀h,(d[i]'h)=x:=fun h=>by rw[b6 gB]at ab;exact ed ab
  have e3:∀h,(cd[i]'h)=y:=fun h=>by rw[b6 hi]at aL;exact ed aL
  have cT:=aqK x y (Dj x (dV ab));by_cases q:x=y
  ·subst q;have ax:=ae.step ab aL;rw[gN rfl]at cT;clear ae ab aL;simp[hi,gB,cG,e3,-iR];(with_reducible repeat' first|refine ai ?_|refine az cT ?_|refine aA cT ?_|simp[cG,e3,hi,gB,-iR]);all_goals exact bK.rng () hi ax bT
  ·rw[cU (fun h=>q (by rw[h]at ab;rw[ab]at aL;exact ed aL))];rw[hQ q]at cT;clear ae ab aL;simp[hi,gB,cG,e3,-iR];(with_reducible repeat' first|refine ai ?_|refine az cT ?_|refine aA cT ?_|simp[cG,e3,hi,gB,q,-iR]);all_goals simp[bq,Ip,aX,aZ,aW]
 have dQ:=ae.fin b3;subst dQ;clear ae cU yS b3;simp;(with_reducible repeat' first|refine ai ?_|simp[c9]);have cU:=yT;refine dO [2,3,69] (fun i (_:Unit)=>[(70,.int .i64 i)]) bJ.length (r7 k bJ) () bT (fun k ad=>Ω) (fun _ ae _=>?_) (fun i _ hi ae _=>?_);rotate_left
 ·obtain⟨x,ab⟩:∃x,k[i]? =some x:=⟨_,b6 Ω⟩;obtain⟨y,aL⟩:∃y,bJ[i]? =some y:=⟨_,b6 hi⟩;have gB:i<k.length:=Ω
  have cG:∀h,(k[i]'h)=x:=fun h=>by rw[b6 gB]at ab;exact ed ab
  have e3:∀h,(bJ[i]'h)=y:=fun h=>by rw[b6 hi]at aL;exact ed aL
  have cT:=True.intro;by_cases q:x=y
  ·subst q;have ax:=ae.step ab aL;skip;clear ae ab aL;simp[hi,gB,cG,e3,-iR];(with_reducible repeat' first|refine ai ?_|refine az cT ?_|refine aA cT ?_|simp[cG,e3,hi,gB,-iR]);all_goals exact bK.rng () hi ax bT
  ·rw[cU (fun h=>q (by rw[h]at ab;rw[ab]at aL;exact ed aL))];skip;clear ae ab aL;simp[hi,gB,cG,e3,-iR];(with_reducible repeat' first|refine ai ?_|refine az cT ?_|refine aA cT ?_|simp[cG,e3,hi,gB,q,-iR]);all_goals simp[bq,Ip,aX,aZ,aW]
 have dQ:=ae.fin c9;subst dQ;clear ae cU yT c9;simp;(with_reducible repeat' first|refine ai ?_|simp[dh]);have cU:=Ma;refine dO [2,3,87] (fun i (_:Unit)=>[(88,.int .i64 i)]) ha.length (r7 m ha) () bT (fun k ad=>Ω) (fun _ ae _=>?_) (fun i _ hi ae _=>?_);rotate_left
 ·obtain⟨x,ab⟩:∃x,m[i]? =some x:=⟨_,b6 Ω⟩;obtain⟨y,aL⟩:∃y,ha[i]? =some y:=⟨_,b6 hi⟩;have gB:i<m.length:=Ω
  have cG:∀h,(m[i]'h)=x:=fun h=>by rw[b6 gB]at ab;exact ed ab
  have e3:∀h,(ha[i]'h)=y:=fun h=>by rw[b6 hi]at aL;exact ed aL
  have cT:=True.intro;by_cases q:x=y
  ·subst q;have ax:=ae.step ab aL;skip;clear ae ab aL;simp[hi,gB,cG,e3,-iR];(with_reducible repeat' first|refine ai ?_|refine az cT ?_|refine aA cT ?_|simp[cG,e3,hi,gB,-iR]);all_goals exact bK.rng () hi ax bT
  ·rw[cU (fun h=>q (by rw[h]at ab;rw[ab]at aL;exact ed aL))];skip;clear ae ab aL;simp[hi,gB,cG,e3,-iR];(with_reducible repeat' first|refine ai ?_|refine az cT ?_|refine aA cT ?_|simp[cG,e3,hi,gB,q,-iR]);all_goals simp[bq,Ip,aX,aZ,aW]
 have dQ:=ae.fin dh;subst dQ;have gn:R=true:=by rw[<-aU];simp
 rw[gn];exact bQ
def h1.e(r:h1):aj:= .agg [.int .i64 r.n,.slice 5 .no (r.b.map c3.e),.slice 1 .no (r.d.map gl),.slice 2 .no (r.k.map bN.e),.slice 2 .no (r.m.map bj.e)]
theorem E5(s:ch):s.r.e=s.e:=by simp only[ch.r,h1.e,ch.e,zf,KG]
theorem aqu(x:List c3):bC al 55 [gl x] (.bool (hc x)):=PF x
open Classical in
theorem aaj(r:h1)(ei:hN r.m->nt r.m):bC al 18 [r.e] (.bool (decide (oO r))):=by
 generalize aU:decide (oO r)=R;have cU:¬OL r->R=false:=fun h=>by rw[<-aU,fC];exact fun cn=>h cn.raw
 obtain⟨n,b,d,k,m⟩:=r;simp only[h1.e]at ei⊢;by_cases g1:n<0
 ·rw[cU fun h=>by have:=h.n.1;simp only at this;omega];refine bc oR ym zn fun aM=>?_;unfold wy;exact bQ
 by_cases g2:100000<n
 ·rw[cU fun h=>by have:=h.n.2;simp only at this;omega];refine bc oR ym zn fun aM=>?_;unfold wy;exact bQ
 have eR:bC al 55 [.slice 5 .no (b.map c3.e)] (.bool (hc b)):=PF b;cases g3:hc b
 ·rw[cU fun h=>by obtain⟨s,ak,aD,_⟩:=h.b;have:=rN.2 (xL.2 ⟨s,ak,aD⟩);simp only at this;rw[g3]at this;cases this]
  rw[g3]at eR;refine bc oR ym zn fun aM=>?_;unfold wy;exact bQ
 rw[g3]at eR;obtain⟨s,rfl,ag⟩:=xL.1 (rN.1 g3);clear g3;rw[zf]at eR⊢;have dx:=aad k;by_cases g4:jE k;rotate_left
 ·rw[cU fun h=>g4 h.k];rw[hQ g4]at dx;refine bc oR ym zn fun aM=>?_;unfold wy;exact bQ
 rw[gN g4]at dx;have dg:=aaf m;by_cases g5:hN m;rotate_left
 ·rw[cU fun h=>g5 h.m];rw[hQ g5]at dg;refine bc oR ym zn fun aM=>?_;unfold wy;exact bQ
 rw[gN g5]at dg;have lF:=aal ag (n:=n) Ω;cases g6:s.all (k6 n)
 ·rw[cU fun h=>by obtain⟨ah,ak,_,bh⟩:=h.b;have dk:=wv ak;subst dk;rw[wx.2 bh]at g6;cases g6]
  rw[g6]at lF;refine bc oR ym zn fun aM=>?_;unfold wy;exact bQ
 rw[g6]at lF;have cR:=wx.1 g6;clear g6;have DD:=ei g5;have lC:=DD.len g5;refine bc oR ym zn fun aM=>?_;unfold wy;have Dn:d.length<=68719476736:=by simp[eA,eo,et,lim]at aM;omega
 have iV:=rv g4;clear aM ei;simp;(with_reducible repeat' first|refine ai ?_|refine az eR ?_|refine aA eR ?_|refine az dx ?_|refine aA dx ?_|refine az dg ?_|refine aA dg ?_|refine az lF ?_|refine aA lF ?_|simp[g1,g2]);refine dO [1,46,47] (fun i (_:Unit)=>[(48,.int .i64 i)]) d.length (sJ (kA n) d) () bT (fun k b ad=>Ω) (fun _ ae _=>?_) (fun i _ hi ae _=>?_);rotate_left
 ·obtain⟨x,ab,cG⟩:=eh hi;have DV:=dV ab;have cE:=aqu x;cases mU:hc x
  ·rw[cU fun h=>by obtain⟨ah,ak,aD,_⟩:=h.d x DV;rw[rN.2 (xL.2 ⟨ah,ak,aD⟩)]at mU;cases mU]
   rw[mU]at cE;clear ae ab DV;exact bQ
  ·rw[mU]at cE;obtain⟨y,rfl,aL⟩:=xL.1 (rN.1 mU);clear mU;rw[KF]at cE;have nh:bC al 58 [cO y,.int .i64 n] (.bool (y.all (k6 n))):=aal aL (n:=n) Ω;have ato:∀h,gl (d[i]'h)=cO y:=fun h=>by rw[cG h,KF]
   cases si:y.all (k6 n)
   ·rw[cU fun h=>by obtain⟨ah,ak,_,bh⟩:=h.d _ DV;have dk:=wv ak;subst dk;rw[wx.2 bh]at si;cases si]
    rw[si]at nh;clear ae ab DV cG;exact bQ
   ·rw[si]at nh;have ax:=ae.step ab ⟨y,rfl,aL,wx.1 si⟩;clear ae ab DV cG;exact hE
 obtain⟨D,rfl,pf,Ly⟩:=Tw ae.fin;clear ae;simp only[KG];simp;(with_reducible repeat' first|refine ai ?_|simp);refine dO [1,64,65] (fun i (_:Unit)=>[(66,.int .i64 i)]) k.length (sJ (fun x=>x.v<n) k) () bT (fun k b ad=>Ω) (fun _ ae _=>?_) (fun i _ hi ae _=>?_);rotate_left
 ·obtain⟨x,ab,cG⟩:=eh hi;by_cases mU:x.v<n
  ·have yx:¬n<=x.v:=Ω
   have ax:=ae.step ab mU;clear ae ab;exact hE
  ·have yx:n<=x.v:=Ω
   rw[cU fun h=>mU (h.kb x (dV ab))];clear ae ab;exact bQ
 have yI:=ae.fin;clear ae;simp;(with_reducible repeat' first|refine ai ?_|simp);have yJ:=yI;refine dO [1,77,78] (fun i (_:Unit)=>[(79,.int .i64 i)]) m.length (sJ (fun x=>x.v<n) m) () bT (fun k b ad=>Ω) (fun _ ae _=>?_) (fun i _ hi ae _=>?_);rotate_left
 ·obtain⟨x,ab,cG⟩:=eh hi;by_cases mU:x.v<n
  ·have yx:¬n<=x.v:=Ω
   have ax:=ae.step ab mU;clear ae ab;exact hE
  ·have yx:n<=x.v:=Ω
   rw[cU fun h=>mU (h.mb x (dV ab))];clear ae ab;exact bQ
 have yI:=ae.fin;clear ae;simp;(with_reducible repeat' first|refine ai ?_|simp);have wX:=yI;have cF:jw ⟨n,s,D,k,m⟩:=⟨by simp only;omega,ag,pf,g4,g5,cR,Ly,yJ,wX⟩;have j5:=ZD cF;obtain⟨G,iI,a7⟩:=DD;have ds:=Jr cF iI a7;have lD:oO ⟨n,s.map ao.b,D.map fun x=>x.map ao.b,k,m⟩↔ij ⟨n,s,D,k,m⟩=some ⟨n,s,D,k,m⟩:=j5;clear j5 cU;simp only[lK]at ds;cases l6:ij ⟨n,s,D,k,m⟩with
 |none=>
  rw[l6]at ds lD;have gn:R=false:=by rw[<-aU,fC,lD];simp
  rw[gn];simp only[kv,jN,ch.e]at ds;clear aU gn lD;exact bQ
 |some t=>
  have w5:=EU cF l6;rw[l6]at ds lD;have xd:=PS t ⟨n,s,D,k,m⟩ w5.1.1.b.len (fun x ab=>(w5.1.1.d x ab).len);have gn:R=decide (t=⟨n,s,D,k,m⟩):=by rw[<-aU,decide_eq_decide,lD];simp
  rw[gn];simp only[jM,oZ]at ds;simp only[ch.e]at ds xd;clear aU gn lD w5;generalize decide (t=(⟨n,s,D,k,m⟩:ch))=Q at xd⊢;obtain⟨qS,zO,E8,qR,tm⟩:=t;simp only at ds xd;exact bQ
def wB:C:=(aa [cC 1 0,a8 2 false] (.seq (aa [aE 11 0 1 1,av 12 1 11,dn 13 141 [.t 12,(gd 0),(gd 100000)],cj 14 13,I 15 14,aq 15 false (aE 16 1 1 1),aq 15 false (av 17 1 16),aq 15 false (cB 18 142 17),aq 15 false (cj 19 18),cW 20 15 19,I 21 20,aq 21 false (aE 22 2 1 1),aq 21 false (av 23 1 22),aq 21 false (cB 24 143 23),aq 21 false (cj 25 24),cW 26 21 25,I 27 26,aq 27 false (aE 28 3 1 1),aq 27 false (av 29 1 28),aq 27 false (cB 30 144 29),aq 27 false (cj 31 30),cW 32 27 31,I 33 32,aq 33 false (aE 34 4 1 1),aq 33 false (av 35 1 34),aq 33 false (cB 36 145 35),aq 33 false (cj 37 36),cW 38 33 37,I 39 38,aq 39 false (aE 40 1 1 1),aq 39 false (av 41 1 40),aq 39 false (aE 42 0 1 1),aq 39 false (av 43 1 42),aq 39 false (b2 44 146 41 43),aq 39 false (cj 45 44),cW 46 39 45] (aT 46 (aa [a8 2 false] .ret) .skip)) (.seq (aa [aE 47 2 1 1,av 48 1 47,ca 49 48,bS 50 0] (e0 51 50 49 (.seq (.block 1 (aa [cf 52 1 48 50,av 53 1 52,I 4 53] (aa [I 54 4,aE 55 0 1 1,av 56 1 55,b2 57 146 54 56,cj 58 57] (aT 58 (aa [a8 2 false] .ret) .skip)))) (.region [aV 59 .add 50 1,I 50 59])))) (.seq (aa [aE 60 3 1 1,av 61 1 60,ca 62 61,bS 63 0] (.block 2 (.loop (aa [bk 64 .lss 63 62] (.seq (aT 64 .skip (.exit 2)) (.seq (.block 3 (aa [cf 65 2 61 63,aY 66 2 65,cP (.alloc 6 none (.agg [.int .i64 0,.int .i64 0])),bB 2 6 66] (aa [aE 67 0 1 6,av 68 1 67,aE 69 0 1 1,av 70 1 69,bk 71 .geq 68 70] (aT 71 (aa [a8 2 false] .ret) .skip)))) (.region [aV 72 .add 63 1,I 63 72]))))))) (.seq (aa [aE 73 4 1 1,av 74 1 73,ca 75 74,bS 76 0] (.block 4 (.loop (aa [bk 77 .lss 76 75] (.seq (aT 77 .skip (.exit 4)) (.seq (.block 5 (aa [cf 78 2 74 76,aY 79 2 78,cP (.alloc 8 none (.agg [.int .i64 0,.str []])),bB 2 8 79] (aa [aE 80 0 1 8,av 81 1 80,aE 82 0 1 1,av 83 1 82,bk 84 .geq 81 83] (aT 84 (aa [a8 2 false] .ret) .skip)))) (.region [aV 85 .add 76 1,I 76 85]))))))) (aa [aY 87 5 1,cB 88 147 87,I 86 88,cr 89 0 86,cr 90 1 86,c1 9 gJ,bB 5 9 89,I 10 90] (aa [I 91 10,I 92 91,aq 92 true (aY 93 5 9),aq 92 true (aY 94 5 1),aq 92 true (b2 95 94 93 94),dL 96 92 95,I 2 96] .ret)))))))
@[simp] def aoB:List bO:=[.tmp 2]
def yj:C:=(aa [cC 2 0,cC 3 1,a8 4 false] (.seq (aa [aE 11 0 1 2,av 12 1 11,aE 13 0 1 3,av 14 1 13,bk 15 .neq 12 14,I 16 15,aq 16 false (aE 17 1 1 2),aq 16 false (av 18 1 17),aq 16 false (aE 19 1 1 3),aq 16 false (av 20 1 19),aq 16 false (b2 21 180 18 20),aq 16 false (aV 22 .neq 21 0),cW 23 16 22,I 24 23,aq 24 false (aE 25 2 1 2),aq 24 false (av 26 1 25),aq 24 false (ca 27 26),aq 24 false (aE 28 2 1 3),aq 24 false (av 29 1 28),aq 24 false (ca 30 29),aq 24 false (bk 31 .neq 27 30),cW 32 24 31,I 33 32,aq 33 false (aE 34 3 1 2),aq 33 false (av 35 1 34),aq 33 false (ca 36 35),aq 33 false (aE 37 3 1 3),aq 33 false (av 38 1 37),aq 33 false (ca 39 38),aq 33 false (bk 40 .neq 36 39),cW 41 33 40,I 42 41,aq 42 false (aE 43 4 1 2),aq 42 false (av 44 1 43),aq 42 false (ca 45 44),aq 42 false (aE 46 4 1 3),aq 42 false (av 47 1 46),aq 42 false (ca 48 47),aq 42 false (bk 49 .neq 45 48),cW 50 42 49] (aT 50 (aa [a8 4 false] .ret) .skip)) (.seq (aa [aE 51 2 1 2,av 52 1 51,ca 53 52,bS 54 0] (e0 55 54 53 (.seq (.block 1 (aa [I 56 54,cf 57 1 52 54,av 58 1 57,I 5 56,I 6 58] (aa [I 59 6,aE 60 2 1 3,av 61 1 60,I 62 5,cf 63 1 61 62,av 64 1 63,b2 65 180 59 64,aV 66 .neq 65 0] (aT 66 (aa [a8 4 false] .ret) .skip)))) (.region [aV 67 .add 54 1,I 54 67])))) (.seq (aa [aE 68 3 1 2,av 69 1 68,ca 70 69,bS 71 0] (.block 2 (.loop (aa [bk 72 .lss 71 70] (.seq (aT 72 .skip (.exit 2)) (.seq (.block 3 (aa [I 73 71,cf 74 2 69 71,aY 75 2 74,cP (.alloc 8 none (.agg [.int .i64 0,.int .i64 0])),I 7 73,bB 2 8 75] (.seq (.drawn true 100 [aY 76 2 8,aE 77 3 1 3,av 78 1 77,I 79 7,cf 80 2 78 79,aY 81 2 80,b5 82 (.beq true (some [false,false]) (.t 76) (.t 81))]) (aT 82 (aa [a8 4 false] .ret) .skip)))) (.region [aV 83 .add 71 1,I 71 83]))))))) (.seq (aa [aE 84 4 1 2,av 85 1 84,ca 86 85,bS 87 0] (.block 4 (.loop (aa [bk 88 .lss 87 86] (.seq (aT 88 .skip (.exit 4)) (.seq (.block 5 (aa [I 89 87,cf 90 2 85 87,aY 91 2 90,cP (.alloc 10 none (.agg [.int .i64 0,.str []])),I 9 89,bB 2 10 91] (.seq (.drawn true 100 [aY 92 2 10,aE 93 4 1 3,av 94 1 93,I 95 9,cf 96 2 94 95,aY 97 2 96,b5 98 (.beq true (some [false,true]) (.t 92) (.t 97))]) (aT 98 (aa [a8 4 false] .ret) .skip)))) (.region [aV 99 .add 87 1,I 87 99]))))))) (aa [a8 4 true] .ret))))))
@[simp] def Iv:List bO:=[.tmp 4]
def F8:C:=(aa [cC 1 0,c1 2 gJ,a8 3 false] (aa [aE 20 1 1 1,av 21 1 20,aE 22 3 1 1,av 23 1 22,b2 24 217 21 23,I 19 24,cr 25 0 19,cr 26 1 19,I 4 25,I 5 26] (aa [aE 28 1 1 1,av 29 1 28,aE 30 4 1 1,av 31 1 30,b2 32 218 29 31,I 27 32,cr 33 0 27,cr 34 1 27,I 6 33,I 7 34] (.seq (aa [I 35 5,cj 36 35,I 37 36,cb 37 false 38 7,aq 37 false (cj 39 38),cW 40 37 39] (aT 40 (aa [iq 41 gJ [],bB 5 2 41,a8 3 false] .ret) .skip)) (aa [aE 42 0 1 1,av 43 1 42,aE 44 1 1 1,av 45 1 44,I 46 4,iq 47 gJ [(0,1,(.t 43)),(1,1,(.t 45)),(3,1,(.t 46))],c1 8 gJ,bB 5 8 47] (.seq (aa [I 48 6,ca 49 48,bS 50 0] (e0 51 50 49 (.seq (.block 1 (aa [cf 52 2 48 50,aY 53 2 52,cP (.alloc 10 none (.agg [.int .i64 0,.str []])),bB 2 10 53] (aa [I 55 4,aE 56 0 1 10,av 57 1 56,cB 58 91 57,dn 59 178 [.t 55,.t 58,(gd 2)],I 54 59,cr 60 0 54,cr 61 1 54,I 11 60,I 12 61] (aa [I 62 12] (aT 62 (.region [aE 63 4 1 8,av 64 1 63,aY 65 2 10,eI 66 2 106 [.t 65],h6 67 2 106 64 66,aE 68 4 1 8,bB 1 68 67]) .skip))))) (.region [aV 69 .add 50 1,I 50 69])))) (aa [eI 70 1 23 [],I 13 70] (.seq (aa [aE 71 2 1 1,av 72 1 71,ca 73 72,bS 74 0] (.block 2 (.loop (aa [bk 75 .lss 74 73] (.seq (aT 75 .skip (.exit 2)) (.seq (.block 3 (aa [cf 76 1 72 74,av 77 1 76,I 15 77] (aa [aE 79 1 1 1,av 80 1 79,I 81 15,b2 82 219 80 81,I 78 82,cr 83 0 78,cr 84 1 78,I 16 83,I 17 84] (.seq (aa [I 85 17] (aT 85 (aa [I 87 16,aE 88 3 1 8,av 89 1 88,b2 90 217 87 89,I 86 90,cr 91 0 86,cr 92 1 86,I 5 92] (.region [I 94 16,aE 95 4 1 8,av 96 1 95,b2 97 218 94 96,I 93 97,cr 98 0 93,cr 99 1 93,I 7 99])) .skip)) (.seq (aa [I 100 17,cj 101 100,I 102 101,cb 102 false 103 5,aq 102 false (cj 104 103),cW 105 102 104,I 106 105,cb 106 false 107 7,aq 106 false (cj 108 107),cW 109 106 108] (aT 109 (aa [a8 5 true] (aa [a8 7 true] (.exit 3))) .skip)) (aa [aE 110 1 1 1,av 111 1 110,I 112 16,b2 113 177 111 112,I 18 113] (.seq (aa [I 114 18,ca 115 114,aV 116 .eql 115 0] (aT 116 (aa [iq 117 gJ [],bB 5 2 117,a8 3 false] .ret) .skip)) (.region [I 118 13,I 119 18,eI 120 1 23 [.t 119],h6 121 1 23 118 120,I 13 121])))))))) (.region [aV 122 .add 74 1,I 74 122]))))))) (aa [I 123 13,cB 124 220 123,aE 125 2 1 8,bB 1 125 124] (.seq (.fz true 8 (.drawn true 131 [b5 126 (.loadZ true 5 (.t 8)),aE 127 2 1 8,b5 128 (.loadZ false 1 (.t 127)),ca 129 128,aV 130 .leq 129 30,bB 5 2 126,I 3 130])) .ret))))))))))
@[simp] def vV:List bO:=[.cell 2 true 5,.tmp 3]
def Je:List (Nat×dN):=[
 (3,⟨1,8,.int .i64,.int .i64 0⟩),
 (9,⟨1,16,.str,.str []⟩),
 (23,⟨1,24,.slice 61,.slice 5 .nil []⟩),
 (24,⟨1,24,.slice 23,.slice 1 .nil []⟩),
 (25,⟨1,24,.slice 104,.slice 2 .nil []⟩),
 (26,⟨1,24,.slice 106,.slice 2 .nil []⟩),
 (28,⟨5,104,.struct [(0,3),(1,23),(2,24),(3,25),(4,26)],.agg [.int .i64 0,.slice 5 .nil [],.slice 1 .nil [],.slice 2 .nil [],.slice 2 .nil []]⟩),
 (104,⟨2,16,.struct [(0,3),(1,3)],.agg [.int .i64 0,.int .i64 0]⟩),
 (106,⟨2,24,.struct [(0,3),(1,9)],.agg [.int .i64 0,.str []]⟩)]
theorem oS:fY al Je=true:=by kernel_rfl
theorem zq:bZ Je wB aoB 1 Tryz.f65=true:=by kernel_rfl
theorem yp:al.funcs[(65:Nat)]? =some Tryz.f65:=Tryz.func65
theorem BQ:bZ Je yj Iv 2 Tryz.f94=true:=by kernel_rfl
theorem AE:al.funcs[(94:Nat)]? =some Tryz.f94:=Tryz.func94
theorem N0:bZ Je F8 vV 1 Tryz.f147=true:=by kernel_rfl
theorem Lb:al.funcs[(147:Nat)]? =some Tryz.f147:=Tryz.func147
noncomputable def uq(s:ch):aj:= .tuple [(wb s).e,.bool (ij s).isSome]
theorem aq1{k:List bN}(ad:jE k)(v:Int):bC al 178 [.slice 2 .no (k.map bN.e),(T.var v).e,.int .i64 2] (n4 k (jk k (.var v) 2)):=PK k (by have:=rv ad;omega) ad.asc (.var v) 2
theorem aay{b y:List ao}(af:e5 b)(aL:e5 y):bC al 177 [.slice 5 .no (b.map ao.e),.slice 5 .no (y.map ao.e)] (cO (gT b y)):=aqW af aL
theorem aax{b x:List ao}(af:e5 b)(ab:e5 x):bC al 219 [.slice 5 .no (b.map ao.e),cO x] (fR (mgu b (h3 x))):=aqV b x af.sol af.fits ab.len
def Nc(a:List bj):aj:=match a with
 |[]=>.slice 2 .nil []
 |_::_=>.slice 2 (.own (.loc 5)) (a.map bj.e)
def Nb(a:List bj):List (aI×gg):=match a with
 |[]=>[]
 |_::_=>[(.loc 5,⟨a.length,106,2,none⟩)]
def Na(a:List bj):Nat:=match a with
 |[]=>3
 |_::_=>6
@[simp]theorem auF:Nc []= .slice 2 .nil []:=rfl
@[simp]theorem auE(x:bj)(a:List bj):Nc (x::a)= .slice 2 (.own (.loc 5)) (x.e::a.map bj.e):=rfl
@[simp]theorem auD:Nb []=[]:=rfl
@[simp]theorem auC(x:bj)(a:List bj):Nb (x::a)=[(.loc 5,⟨a.length+1,106,2,none⟩)]:=rfl
@[simp]theorem auB:Na []=3:=rfl
@[simp]theorem auA(x:bj)(a:List bj):Na (x::a)=6:=rfl
theorem Jo{s:ch}(h:jw s){G:List (List dw)}(iI:G.length<=687000)(a7:n7 G s.m):bC al 147 [s.e] (uq s):=by
 unfold uq;generalize du:ij s=O;generalize dy:wb s=SS;have kW:=PL h.b h.k;have kX:=PM h.b h.m iI a7;have me:=fun k=>Ix (acc:=[]) (a:=k) h.b h.k.at' ⟨Ψ,Ψ⟩;have qM:=fun m=>Iy (acc:=[]) (a:=m) h.b h.m.at' ⟨Ψ,by simp[h7]⟩;have nJ:=fun m=>Iz (acc:=[]) (a:=m) (s:=s.b) a7 (fun x ab=>by simp at ab);have af:=h.b;have aR:=h.d;clear h a7;unfold ij at du;unfold wb at dy;obtain⟨n,b,d,dU,m0⟩:=s;simp only at kW kX me qM nJ af aR du dy;have fw:=af.len;simp only[ch.e];generalize gx b dU []=ok at kW du dy me;generalize gy b m0 []=om at kX du dy qM nJ;cases ok with
 |none=>
  simp only at du dy;subst du;subst dy;simp only[fX]at kW;simp only[ig]at kX;clear me qM nJ;refine bc oS Lb N0 fun aM=>?_;unfold F8;simp;(with_reducible repeat' first|refine ai ?_|refine az kW ?_|refine aA kW ?_|refine az kX ?_|refine aA kX ?_|simp);all_goals simp[bq,vV,aX,aZ,aW]
  all_goals simp[ir,ch.e]
 |some k=>
  simp only at du dy;cases om with
  |none=>
   simp only at du dy;subst du;subst dy;simp only[fX]at kW;simp only[ig]at kX;clear me qM nJ;refine bc oS Lb N0 fun aM=>?_;unfold F8;simp;(with_reducible repeat' first|refine ai ?_|refine az kW ?_|refine aA kW ?_|refine az kX ?_|refine aA kX ?_|simp);all_goals simp[bq,vV,aX,aZ,aW]
   all_goals simp[ir,ch.e]
  |some m=>
   simp only at du dy;have wS:=me k rfl;have yP:=qM m rfl;have yH:=nJ m rfl;have lC:m.length<=68719470000:=by have:=Eb yP yH;omega
   have A5:=W7 (k:=k) yP;have AZ:=Pr (k:=k) yH;simp only[fX,jM,oZ]at kW;simp only[ig,jM,oZ]at kX;clear me qM nJ;refine bc oS Lb N0 fun aM=>?_;unfold F8;have Dn:d.length<=68719476736:=by simp[eA,eo,et,lim]at aM;omega
   clear aM;simp;(with_reducible repeat' first|refine ai ?_|refine az kW ?_|refine aA kW ?_|refine az kX ?_|refine aA kX ?_|simp);refine gA (fun i (a:List bj)=>⟨[(1,.ptr (.loc 0) 0),(2,.ptr (.loc 1) 0),(4,.slice 2 .no (k.map bN.e)),(8,.ptr (.loc 2) 0),(48,.slice 2 .no (m.map bj.e)),(49,.int .i64 m.length),(50,.int .i64 i)],[(.loc 0,[.int .i64 n,.slice 5 .no (b.map ao.e),.slice 1 .no (d.map cO),.slice 2 .no (dU.map bN.e),.slice 2 .no (m0.map bj.e)]),(.loc 1,[.int .i64 0,.slice 5 .nil [],.slice 1 .nil [],.slice 2 .nil [],.slice 2 .nil []]),(.loc 2,[.int .i64 n,.slice 5 .no (b.map ao.e),.slice 1 .nil [],.slice 2 .no (k.map bN.e),Nc a])],Nb a,Na a,[]⟩) m.length (tW k m) [] bT (by simp[tW]) (fun a ae _=>?_) (fun i a hi ae _=>?_);rotate_left
   ·obtain⟨x,ab,cG⟩:=eh hi;have sp:a.length<=68719470000:=by
     have:a.length<=(m.take i).length:=by rw[ae];exact List.length_filter_le _ _
     simp at this;omega
    have ax:=ae.step ab;have nh:=aq1 wS x.v;have bn:(jk k (.var x.v) 2).isSome=kZ k x:=abF wS x.v;simp only[n4,bn]at nh;clear bn;generalize (jk k (.var x.v) 2).getD k=kz at nh;cases aK:kZ k x
    ·rw[aK]at ax nh;simp only[ho,if_false]at ax;clear ae ab aK;cases a with
     |nil=>simp[hi,cG];(with_reducible repeat' first|refine ai ?_|refine az (jW _) ?_|refine aA (jW _) ?_|refine az nh ?_|refine aA nh ?_|simp[hi,cG]);all_goals exact bK.rng [] hi ax bT
     |cons y ys=>simp[hi,cG];(with_reducible repeat' first|refine ai ?_|refine az (jW _) ?_|refine aA (jW _) ?_|refine az nh ?_|refine aA nh ?_|simp[hi,cG]);all_goals exact bK.rng (y::ys) hi ax bT
    ·rw[aK]at ax nh;simp only[if_true]at ax;clear ae ab aK;cases a with
     |nil=>
      simp[hi,cG];(with_reducible repeat' first|refine ai ?_|refine az (jW _) ?_|refine aA (jW _) ?_|refine az nh ?_|refine aA nh ?_|simp[hi,cG]);all_goals first|(refine⟨by unfold lim;omega,?_⟩)|skip
      all_goals(with_reducible repeat' first|refine ai ?_|simp)
      all_goals exact bK.rng [x] hi ax bT
     |cons y ys=>
      simp only[oX]at sp;simp[hi,cG];(with_reducible repeat' first|refine ai ?_|refine az (jW _) ?_|refine aA (jW _) ?_|refine az nh ?_|refine aA nh ?_|simp[hi,cG]);all_goals first|(refine⟨by unfold lim;omega,?_⟩)|skip
      all_goals(with_reducible repeat' first|refine ai ?_|simp)
      all_goals exact bK.rng (y::ys++[x]) hi ax ⟨by simp[fresh,aC,aB,bP,inObs,Pv.look,Bt],dD (by simp[fresh,aC,aB,bP,inObs,Pv.look,Bt]),dE (by simp[fresh,aC,aB,dt,inObs,Pv.look,Bt]),Ψ⟩
   rw[tW,je]at ae;rw[<-ae]at A5 AZ du dy;clear ae yP yH;cases a with
   |nil=>
    simp;(with_reducible repeat' first|refine ai ?_|simp);refine gA (fun i (L:List (List ao))=>⟨[(1,.ptr (.loc 0) 0),(2,.ptr (.loc 1) 0),(8,.ptr (.loc 2) 0),(13,.slice 1 (.own (.loc 3)) (L.map cO)),(72,.slice 1 .no (d.map cO)),(73,.int .i64 d.length),(74,.int .i64 i)],[(.loc 0,[.int .i64 n,.slice 5 .no (b.map ao.e),.slice 1 .no (d.map cO),.slice 2 .no (dU.map bN.e),.slice 2 .no (m0.map bj.e)]),(.loc 1,[.int .i64 0,.slice 5 .nil [],.slice 1 .nil [],.slice 2 .nil [],.slice 2 .nil []]),(.loc 2,[.int .i64 n,.slice 5 .no (b.map ao.e),.slice 1 .nil [],.slice 2 .no (k.map bN.e),.slice 2 .nil []])],[(.loc 3,⟨L.length,23,1,none⟩)],3+1,[]⟩) d.length (qG b k [] d) [] bT ⟨Ψ,Ψ,Ψ⟩ (fun L ae _=>?_) (fun i L hi ae _=>?_)
    ·have j4:=ae.fin;have wM:=ae.2.1;rw[j4]at du dy;simp only at du dy;have nV:=aaA L wM;clear ae j4 wM;generalize ll L=M at nV du dy;subst dy;by_cases lY:M.length<=30
     ·have pe:(M.length:Int)<=30:=Ω
      rw[if_pos lY]at du;subst du;simp;(with_reducible repeat' first|refine ai ?_|refine az nV ?_|refine aA nV ?_|simp[lY,pe]);all_goals simp[bq,vV,aX,aZ,aW]
      all_goals try simp[ch.e,lY,pe]
      all_goals first|exact⟨_,rfl,rfl⟩|skip
     ·have pe:¬(M.length:Int)<=30:=Ω
      rw[if_neg lY]at du;subst du;simp;(with_reducible repeat' first|refine ai ?_|refine az nV ?_|refine aA nV ?_|simp[lY,pe]);all_goals simp[bq,vV,aX,aZ,aW]
      all_goals try simp[ch.e,lY,pe]
      all_goals first|exact⟨_,rfl,rfl⟩|skip
    ·obtain⟨x,ab,cG⟩:=eh hi;have gY:=aR x (dV ab);have UM:=ae.1;have ic:=aax af gY;simp only[fR]at ic;cases hu:mgu b (h3 x)with
     |none=>have ax:=ae.skip ab fun r=>M2 hu;rw[hu]at ic;simp only[kv,jN]at ic;clear ae ab du dy;exact hE
     |some y=>
      have jC:=af.mgu (CV gY) hu;rw[hu]at ic;simp only[jM,oZ]at ic;have dx:=PL jC wS;have dg:=PM jC A5 iI AZ;have ie:=aay af jC;simp only[fX]at dx;simp only[ig,mN,gM]at dg;by_cases fy:gx y k []=none\/gy y [] []=none
      ·have ax:=ae.skip ab fun r=>M1 hu fy;clear ae ab du dy hu ie;rcases fy with e|e
       ·rw[e]at dx;simp only[kv,jN]at dx;exact hE
       ·rw[e]at dg;simp only[kv,jN]at dg;generalize (gx y k []).isSome=ba at dx;cases ba
        ·exact hE
        ·exact hE
      ·have ak:(gx y k []).isSome=true:=by cases e:gx y k []with|none=>exact absurd (.inl e) fy|some _=>rfl
       have aD:(gy y [] []).isSome=true:=by cases e:gy y [] []with|none=>exact absurd (.inr e) fy|some _=>rfl
       rw[ak]at dx;rw[aD]at dg;by_cases cM:gT b y=[]
       ·have ag:=ae.stop ab fun r=>M0 hu fy cM;rw[ag]at du dy;simp only at du dy;subst du;subst dy;rw[cM]at ie;simp only[cO,mN]at ie;clear ae ab hu fy;simp[hi,cG];(with_reducible repeat' first|refine ai ?_|refine az ic ?_|refine aA ic ?_|refine az dx ?_|refine aA dx ?_|refine az dg ?_|refine aA dg ?_|refine az ie ?_|refine aA ie ?_|simp[hi,cG]);all_goals simp[bq,vV,aX,aZ,aW]
        all_goals try simp[ir,ch.e]
       ·have ax:=ae.snoc ab (HS (b:=b) jC) fun r=>M3 hu fy cM;have wU:¬((gT b y).length:Int)=0:=by have:(gT b y).length≠0:=fun h=>cM (List.length_eq_zero_iff.1 h);omega
        have wV:(((gT b y).length:Int)==0)=false:=by simp[cM]
        clear ae ab hu fy du dy;generalize gT b y=z at ie ax wU wV cM;simp only[cO]at ie;simp[hi,cG];(with_reducible repeat' first|refine ai ?_|refine az ic ?_|refine aA ic ?_|refine az dx ?_|refine aA dx ?_|refine az dg ?_|refine aA dg ?_|refine az ie ?_|refine aA ie ?_|simp[hi,cG,wU,wV,cM]);all_goals first|(refine⟨by unfold lim;omega,?_⟩)|skip
        all_goals(with_reducible repeat' first|refine ai ?_|simp)
        all_goals exact bK.rng (L++[z]) hi ax ⟨by simp[fresh,aC,aB,bP,inObs,Pv.look,tZ,cO],dD (by simp[fresh,aC,aB,bP,inObs,Pv.look,tZ,cO]),dE (by simp[fresh,aC,aB,dt,inObs,Pv.look,tZ,cO]),Ψ⟩
   |cons Fo Fp=>
    simp;(with_reducible repeat' first|refine ai ?_|simp);refine gA (fun i (L:List (List ao))=>⟨[(1,.ptr (.loc 0) 0),(2,.ptr (.loc 1) 0),(8,.ptr (.loc 2) 0),(13,.slice 1 (.own (.loc 6)) (L.map cO)),(72,.slice 1 .no (d.map cO)),(73,.int .i64 d.length),(74,.int .i64 i)],[(.loc 0,[.int .i64 n,.slice 5 .no (b.map ao.e),.slice 1 .no (d.map cO),.slice 2 .no (dU.map bN.e),.slice 2 .no (m0.map bj.e)]),(.loc 1,[.int .i64 0,.slice 5 .nil [],.slice 1 .nil [],.slice 2 .nil [],.slice 2 .nil []]),(.loc 2,[.int .i64 n,.slice 5 .no (b.map ao.e),.slice 1 .nil [],.slice 2 .no (k.map bN.e),.slice 2 (.own (.loc 5)) (Fo.e::Fp.map bj.e)])],[(.loc 6,⟨L.length,23,1,none⟩)],6+1,[]⟩) d.length (qG b k (Fo::Fp) d) [] bT ⟨Ψ,Ψ,Ψ⟩ (fun L ae _=>?_) (fun i L hi ae _=>?_)
    ·have j4:=ae.fin;have wM:=ae.2.1;rw[j4]at du dy;simp only at du dy;have nV:=aaA L wM;clear ae j4 wM;generalize ll L=M at nV du dy;subst dy;by_cases lY:M.length<=30
     ·have pe:(M.length:Int)<=30:=Ω
      rw[if_pos lY]at du;subst du;simp;(with_reducible repeat' first|refine ai ?_|refine az nV ?_|refine aA nV ?_|simp[lY,pe]);all_goals simp[bq,vV,aX,aZ,aW]
      all_goals try simp[ch.e,lY,pe]
      all_goals first|exact⟨_,rfl,rfl⟩|skip
     ·have pe:¬(M.length:Int)<=30:=Ω
      rw[if_neg lY]at du;subst du;simp;(with_reducible repeat' first|refine ai ?_|refine az nV ?_|refine aA nV ?_|simp[lY,pe]);all_goals simp[bq,vV,aX,aZ,aW]
      all_goals try simp[ch.e,lY,pe]
      all_goals first|exact⟨_,rfl,rfl⟩|skip
    ·obtain⟨x,ab,cG⟩:=eh hi;have gY:=aR x (dV ab);have UM:=ae.1;have ic:=aax af gY;simp only[fR]at ic;cases hu:mgu b (h3 x)with
     |none=>have ax:=ae.skip ab fun r=>M2 hu;rw[hu]at ic;simp only[kv,jN]at ic;clear ae ab du dy;exact hE
     |some y=>
      have jC:=af.mgu (CV gY) hu;rw[hu]at ic;simp only[jM,oZ]at ic;have dx:=PL jC wS;have dg:=PM jC A5 iI AZ;have ie:=aay af jC;simp only[fX]at dx;simp only[ig,mN,gM]at dg;by_cases fy:gx y k []=none\/gy y (Fo::Fp) []=none
      ·have ax:=ae.skip ab fun r=>M1 hu fy;clear ae ab du dy hu ie;rcases fy with e|e
       ·rw[e]at dx;simp only[kv,jN]at dx;exact hE
       ·rw[e]at dg;simp only[kv,jN]at dg;generalize (gx y k []).isSome=ba at dx;cases ba
        ·exact hE
        ·exact hE
      ·have ak:(gx y k []).isSome=true:=by cases e:gx y k []with|none=>exact absurd (.inl e) fy|some _=>rfl
       have aD:(gy y (Fo::Fp) []).isSome=true:=by cases e:gy y (Fo::Fp) []with|none=>exact absurd (.inr e) fy|some _=>rfl
       rw[ak]at dx;rw[aD]at dg;by_cases cM:gT b y=[]
       ·have ag:=ae.stop ab fun r=>M0 hu fy cM;rw[ag]at du dy;simp only at du dy;subst du;subst dy;rw[cM]at ie;simp only[cO,mN]at ie;clear ae ab hu fy;simp[hi,cG];(with_reducible repeat' first|refine ai ?_|refine az ic ?_|refine aA ic ?_|refine az dx ?_|refine aA dx ?_|refine az dg ?_|refine aA dg ?_|refine az ie ?_|refine aA ie ?_|simp[hi,cG]);all_goals simp[bq,vV,aX,aZ,aW]
        all_goals try simp[ir,ch.e]
       ·have ax:=ae.snoc ab (HS (b:=b) jC) fun r=>M3 hu fy cM;have wU:¬((gT b y).length:Int)=0:=by have:(gT b y).length≠0:=fun h=>cM (List.length_eq_zero_iff.1 h);omega
        have wV:(((gT b y).length:Int)==0)=false:=by simp[cM]
        clear ae ab hu fy du dy;generalize gT b y=z at ie ax wU wV cM;simp only[cO]at ie;simp[hi,cG];(with_reducible repeat' first|refine ai ?_|refine az ic ?_|refine aA ic ?_|refine az dx ?_|refine aA dx ?_|refine az dg ?_|refine aA dg ?_|refine az ie ?_|refine aA ie ?_|simp[hi,cG,wU,wV,cM]);all_goals first|(refine⟨by unfold lim;omega,?_⟩)|skip
        all_goals(with_reducible repeat' first|refine ai ?_|simp)
        all_goals exact bK.rng (L++[z]) hi ax ⟨by simp[fresh,aC,aB,bP,inObs,Pv.look,tZ,cO],dD (by simp[fresh,aC,aB,bP,inObs,Pv.look,tZ,cO]),dE (by simp[fresh,aC,aB,dt,inObs,Pv.look,tZ,cO]),Ψ⟩
theorem aq0(x y:List ao):bC al 180 [cO x,cO y] (.int .i64 (eM x y)):=PI x y
theorem aq7{x y:List ao}(h:¬x=y):(eM x y !=0)=true:=by have:¬eM x y=0:=fun e=>h ((mh.zero _ _).1 e);simp[this]
theorem PO(a c:ch):bC al 94 [a.e,c.e] (.bool (decide (a=c))):=by
 obtain⟨n,b,d,k,m⟩:=a;obtain⟨n',b4,cd,bJ,ha⟩:=c;generalize aU:decide ((⟨n,b,d,k,m⟩:ch)=⟨n',b4,cd,bJ,ha⟩)=R;simp only[ch.mk.injEq,ch.e]at aU⊢;by_cases ba:n=n';rotate_left
 ·have gn:R=false:=by rw[<-aU];simp[ba]
  have uj:(n !=n')=true:=by simp[ba]
  rw[gn];clear aU gn;refine bc oS AE BQ fun aM=>?_;unfold yj;exact bQ
 subst ba;have cT:=PI b b4;by_cases bo:b=b4;rotate_left
 ·have gn:R=false:=by rw[<-aU];simp[bo]
  have ko:¬eM b b4=0:=fun h=>bo ((mh.zero _ _).1 h);have Yd:(eM b b4 !=0)=true:=by simp[ko]
  rw[gn];clear aU gn;refine bc oS AE BQ fun aM=>?_;unfold yj;exact bQ
 subst bo;rw[(mh.zero b b).2 rfl]at cT;by_cases b3:d.length=cd.length;rotate_left
 ·have gn:R=false:=by rw[<-aU];simp only[fC];rintro⟨_,_,rfl,_⟩;exact b3 rfl
  have sX:((d.length:Int) !=cd.length)=true:=by simp;omega
  rw[gn];clear aU gn;refine bc oS AE BQ fun aM=>?_;unfold yj;exact bQ
 by_cases c9:k.length=bJ.length;rotate_left
 ·have gn:R=false:=by rw[<-aU];simp only[fC];rintro⟨_,_,_,rfl,_⟩;exact c9 rfl
  have anz:((k.length:Int) !=bJ.length)=true:=by simp;omega
  rw[gn];clear aU gn;refine bc oS AE BQ fun aM=>?_;unfold yj;exact bQ
 by_cases dh:m.length=ha.length;rotate_left
 ·have gn:R=false:=by rw[<-aU];simp only[fC];rintro⟨_,_,_,_,rfl⟩;exact dh rfl
  have anA:((m.length:Int) !=ha.length)=true:=by simp;omega
  rw[gn];clear aU gn;refine bc oS AE BQ fun aM=>?_;unfold yj;exact bQ
 have yS:d≠cd->R=false:=fun h=>by rw[<-aU];simp[h]
 have yT:k≠bJ->R=false:=fun h=>by rw[<-aU];simp[h]
 have Ma:m≠ha->R=false:=fun h=>by rw[<-aU];simp[h]
 refine bc oS AE BQ fun aM=>?_;unfold yj;have mW:cd.length<=68719476736:=by simp[eA,eo,et,lim]at aM;omega
 have ail:bJ.length<=68719476736:=by simp[eA,eo,et,lim]at aM;omega
 have aim:ha.length<=68719476736:=by simp[eA,eo,et,lim]at aM;omega
 clear aM;simp;(with_reducible repeat' first|refine ai ?_|refine az cT ?_|refine aA cT ?_|simp[b3,c9,dh]);have cU:=yS;refine dO [2,3,52,53] (fun i (_:Unit)=>[(54,.int .i64 i)]) cd.length (r7 d cd) () bT (fun k ad=>Ω) (fun _ ae _=>?_) (fun i _ hi ae _=>?_);rotate_left
 ·obtain⟨x,ab⟩:∃x,d[i]? =some x:=⟨_,b6 Ω⟩;obtain⟨y,aL⟩:∃y,cd[i]? =some y:=⟨_,b6 hi⟩;have gB:i<d.length:=Ω
  have cG:∀h,(d[i]'h)=x:=fun h=>by rw[b6 gB]at ab;exact ed ab
  have e3:∀h,(cd[i]'h)=y:=fun h=>by rw[b6 hi]at aL;exact ed aL
  have cT:=aq0 x y;by_cases q:x=y
  ·subst q;have ax:=ae.step ab aL;rw[(mh.zero _ _).2 rfl]at cT;clear ae ab aL;simp[hi,gB,cG,e3,-iR];(with_reducible repeat' first|refine ai ?_|refine az cT ?_|refine aA cT ?_|simp[cG,e3,hi,gB,-iR]);all_goals exact bK.rng () hi ax bT
  ·rw[cU (fun h=>q (by rw[h]at ab;rw[ab]at aL;exact ed aL))];have ko:=aq7 q;clear ae ab aL;simp[hi,gB,cG,e3,-iR];(with_reducible repeat' first|refine ai ?_|refine az cT ?_|refine aA cT ?_|simp[cG,e3,hi,gB,q,ko,-iR]);all_goals simp[bq,Iv,aX,aZ,aW]
 have dQ:=ae.fin b3;subst dQ;clear ae cU yS b3;simp;(with_reducible repeat' first|refine ai ?_|simp[c9]);have cU:=yT;refine dO [2,3,69,70] (fun i (_:Unit)=>[(71,.int .i64 i)]) bJ.length (r7 k bJ) () bT (fun k ad=>Ω) (fun _ ae _=>?_) (fun i _ hi ae _=>?_);rotate_left
 ·obtain⟨x,ab⟩:∃x,k[i]? =some x:=⟨_,b6 Ω⟩;obtain⟨y,aL⟩:∃y,bJ[i]? =some y:=⟨_,b6 hi⟩;have gB:i<k.length:=Ω
  have cG:∀h,(k[i]'h)=x:=fun h=>by rw[b6 gB]at ab;exact ed ab
  have e3:∀h,(bJ[i]'h)=y:=fun h=>by rw[b6 hi]at aL;exact ed aL
  have cT:=True.intro;by_cases q:x=y
  ·subst q;have ax:=ae.step ab aL;skip;clear ae ab aL;simp[hi,gB,cG,e3,-iR];(with_reducible repeat' first|refine ai ?_|refine az cT ?_|refine aA cT ?_|simp[cG,e3,hi,gB,-iR]);all_goals exact bK.rng () hi ax bT
  ·rw[cU (fun h=>q (by rw[h]at ab;rw[ab]at aL;exact ed aL))];skip;clear ae ab aL;simp[hi,gB,cG,e3,-iR];(with_reducible repeat' first|refine ai ?_|refine az cT ?_|refine aA cT ?_|simp[cG,e3,hi,gB,q,q,-iR]);all_goals simp[bq,Iv,aX,aZ,aW]
 have dQ:=ae.fin c9;subst dQ;clear ae cU yT c9;simp;(with_reducible repeat' first|refine ai ?_|simp[dh]);have cU:=Ma;refine dO [3,85,86] (fun i (_:Unit)=>[(87,.int .i64 i)]) ha.length (r7 m ha) () bT (fun k ad=>Ω) (fun _ ae _=>?_) (fun i _ hi ae _=>?_);rotate_left
 ·obtain⟨x,ab⟩:∃x,m[i]? =some x:=⟨_,b6 Ω⟩;obtain⟨y,aL⟩:∃y,ha[i]? =some y:=⟨_,b6 hi⟩;have gB:i<m.length:=Ω
  have cG:∀h,(m[i]'h)=x:=fun h=>by rw[b6 gB]at ab;exact ed ab
  have e3:∀h,(ha[i]'h)=y:=fun h=>by rw[b6 hi]at aL;exact ed aL
  have cT:=True.intro;by_cases q:x=y
  ·subst q;have ax:=ae.step ab aL;skip;clear ae ab aL;simp[hi,gB,cG,e3,-iR];(with_reducible repeat' first|refine ai ?_|refine az cT ?_|refine aA cT ?_|simp[cG,e3,hi,gB,-iR]);all_goals exact bK.rng () hi ax bT
  ·rw[cU (fun h=>q (by rw[h]at ab;rw[ab]at aL;exact ed aL))];skip;clear ae ab aL;simp[hi,gB,cG,e3,-iR];(with_reducible repeat' first|refine ai ?_|refine az cT ?_|refine aA cT ?_|simp[cG,e3,hi,gB,q,q,-iR]);all_goals simp[bq,Iv,aX,aZ,aW]
 have dQ:=ae.fin dh;subst dQ;have gn:R=true:=by rw[<-aU];simp
 rw[gn];exact bQ
@[simp]theorem apM:∀l:List (List c3),c6 (l.map gl)=l.map gl
 |[]=>rfl
 |x::xs=>by simp[c6,apM xs]
theorem ZK:∀{d:List (List c3)},d.all hc=true->∃D:List (List ao),d=(D.map fun x=>x.map ao.b)/\∀x∈D,e5 x
 |[],_=>⟨[],rfl,Ψ⟩
 |x::d,h=>by
  rw[List.all_cons,cy]at h;obtain⟨D,J,U⟩:=ZK h.2;obtain⟨s,ak,aD⟩:=xL.1 (rN.1 h.1);refine⟨s::D,by rw[J,ak];rfl,fun y aL=>?_⟩;rcases fT.1 aL with rfl|aL
  ·exact aD
  ·exact U y aL
open Classical in
theorem arc(r:h1)(ei:hN r.m->nt r.m):bC al 65 [r.e] (.bool (decide (oO r))):=by
 generalize aU:decide (oO r)=R;have cU:¬OL r->R=false:=fun h=>by rw[<-aU,fC];exact fun cn=>h cn.raw
 obtain⟨n,b,d,k,m⟩:=r;simp only[h1.e]at ei⊢;have Bq:=dJ n 0 100000;by_cases g1:0<=n/\n<=100000;rotate_left
 ·rw[cU fun h=>g1 h.n];rw[hQ g1]at Bq;refine bc oS yp zq fun aM=>?_;unfold wB;exact bQ
 rw[gN g1]at Bq;have eR:bC al 142 [.slice 5 .no (b.map c3.e)] (.bool (hc b)):=PQ b;cases g3:hc b
 ·rw[cU fun h=>by obtain⟨s,ak,aD,_⟩:=h.b;have:=rN.2 (xL.2 ⟨s,ak,aD⟩);simp only at this;rw[g3]at this;cases this]
  rw[g3]at eR;refine bc oS yp zq fun aM=>?_;unfold wB;exact bQ
 rw[g3]at eR;obtain⟨s,rfl,ag⟩:=xL.1 (rN.1 g3);clear g3;rw[zf]at eR⊢;have dv:=aqZ d;cases wK:d.all hc
 ·rw[cU fun h=>by
   have:d.all hc=true:=by rw[jd];intro x ab;obtain⟨s,ak,aD,_⟩:=h.d x ab;exact rN.2 (xL.2 ⟨s,ak,aD⟩)
   rw[wK]at this;cases this]
  rw[wK]at dv;refine bc oS yp zq fun aM=>?_;unfold wB;exact bQ
 rw[wK]at dv;obtain⟨D,rfl,pf⟩:=ZK wK;clear wK;rw[KG]at dv⊢;have dx:=ara k;by_cases g4:jE k;rotate_left
 ·rw[cU fun h=>g4 h.k];rw[hQ g4]at dx;refine bc oS yp zq fun aM=>?_;unfold wB;exact bQ
 rw[gN g4]at dx;have dg:=arb m;by_cases g5:hN m;rotate_left
 ·rw[cU fun h=>g5 h.m];rw[hQ g5]at dg;refine bc oS yp zq fun aM=>?_;unfold wB;exact bQ
 rw[gN g5]at dg;have lF:=aaC s n;cases g6:s.all (k6 n)
 ·rw[cU fun h=>by obtain⟨ah,ak,_,bh⟩:=h.b;have dk:=wv ak;subst dk;rw[wx.2 bh]at g6;cases g6]
  rw[g6]at lF;refine bc oS yp zq fun aM=>?_;unfold wB;exact bQ
 rw[g6]at lF;have cR:=wx.1 g6;clear g6;have DD:=ei g5;have lC:=DD.len g5;refine bc oS yp zq fun aM=>?_;unfold wB;have Dn:D.length<=68719476736:=by simp[eA,eo,et,lim]at aM;omega
 have iV:=rv g4;clear aM ei;simp;(with_reducible repeat' first|refine ai ?_|refine az Bq ?_|refine aA Bq ?_|refine az eR ?_|refine aA eR ?_|refine az dv ?_|refine aA dv ?_|refine az dx ?_|refine aA dx ?_|refine az dg ?_|refine aA dg ?_|refine az lF ?_|refine aA lF ?_|simp);refine dO [1,48,49] (fun i (_:Unit)=>[(50,.int .i64 i)]) D.length (sJ (fun x=>qu x n) D) () bT (fun k b ad=>Ω) (fun _ ae _=>?_) (fun i _ hi ae _=>?_);rotate_left
 ·obtain⟨y,aL,e3⟩:=eh hi;have Mw:=dV aL;have nh:bC al 146 [cO y,.int .i64 n] (.bool (y.all (k6 n))):=aaC y n;cases si:y.all (k6 n)
  ·rw[cU fun h=>by obtain⟨ah,ak,_,bh⟩:=h.d _ (List.mem_map_of_mem Mw);have dk:=wv ak;subst dk;rw[wx.2 bh]at si;cases si]
   rw[si]at nh;clear ae aL Mw;exact bQ
  ·rw[si]at nh;have ax:=ae.step aL (wx.1 si);clear ae aL Mw;exact hE
 have Ly:=ae.fin;clear ae;simp;(with_reducible repeat' first|refine ai ?_|simp);refine dO [1,61,62] (fun i (_:Unit)=>[(63,.int .i64 i)]) k.length (sJ (fun x=>x.v<n) k) () bT (fun k b ad=>Ω) (fun _ ae _=>?_) (fun i _ hi ae _=>?_);rotate_left
 ·obtain⟨x,ab,cG⟩:=eh hi;by_cases mU:x.v<n
  ·have yx:¬n<=x.v:=Ω
   have ax:=ae.step ab mU;clear ae ab;exact hE
  ·have yx:n<=x.v:=Ω
   rw[cU fun h=>mU (h.kb x (dV ab))];clear ae ab;exact bQ
 have yI:=ae.fin;clear ae;simp;(with_reducible repeat' first|refine ai ?_|simp);have yJ:=yI;refine dO [1,74,75] (fun i (_:Unit)=>[(76,.int .i64 i)]) m.length (sJ (fun x=>x.v<n) m) () bT (fun k b ad=>Ω) (fun _ ae _=>?_) (fun i _ hi ae _=>?_);rotate_left
 ·obtain⟨x,ab,cG⟩:=eh hi;by_cases mU:x.v<n
  ·have yx:¬n<=x.v:=Ω
   have ax:=ae.step ab mU;clear ae ab;exact hE
  ·have yx:n<=x.v:=Ω
   rw[cU fun h=>mU (h.mb x (dV ab))];clear ae ab;exact bQ
 have yI:=ae.fin;clear ae;simp;(with_reducible repeat' first|refine ai ?_|simp);have wX:=yI;have cF:jw ⟨n,s,D,k,m⟩:=⟨g1,ag,pf,g4,g5,cR,Ly,yJ,wX⟩;have j5:=ZD cF;obtain⟨G,iI,a7⟩:=DD;have ds:=Jo cF iI a7;have lD:oO ⟨n,s.map ao.b,D.map fun x=>x.map ao.b,k,m⟩↔ij ⟨n,s,D,k,m⟩=some ⟨n,s,D,k,m⟩:=j5;clear j5 cU;simp only[uq]at ds;generalize LC:wb ⟨n,s,D,k,m⟩=t at ds;have xd:=PO t ⟨n,s,D,k,m⟩;cases l6:ij ⟨n,s,D,k,m⟩with
 |none=>
  rw[l6]at ds lD;have gn:R=false:=by rw[<-aU,fC,lD];simp
  rw[gn];obtain⟨qS,zO,E8,qR,tm⟩:=t;simp only[jN,ch.e]at ds;clear aU gn lD LC xd;exact bQ
 |some da=>
  have ak:=IX l6;rw[LC]at ak;subst ak;rw[l6]at ds lD;have gn:R=decide (t=⟨n,s,D,k,m⟩):=by rw[<-aU,decide_eq_decide,lD];simp
  rw[gn];simp only[oZ]at ds;simp only[ch.e]at ds xd;clear aU gn lD l6;generalize decide (t=(⟨n,s,D,k,m⟩:ch))=Q at xd⊢;clear LC;obtain⟨qS,zO,E8,qR,tm⟩:=t;simp only at ds xd;exact bQ
def r2(d:c4 (c4 ft)):aj:=d.e 1 kB
def sK(k:c4 bN):aj:=k.e 2 bN.e
def sR(m:c4 hZ):aj:=m.e 2 hZ.e
@[simp]theorem at7(S:aI->Prop)(d:c4 (c4 ft)):aB S (r2 d)=True:=by cases d<;>simp[r2,c4.e,aB]
@[simp]theorem avS(d:c4 (c4 ft)):dz (r2 d)=r2 d:=by
 cases d with
 |l l=>
  have:∀l:List (c4 ft),c6 (l.map kB)=l.map kB:=by
   intro l;induction l with
   |nil=>rfl
   |cons x l bR=>simp[c6,bR]
  simp[r2,c4.e,dz,this]
 |b=>simp[r2,c4.e,dz]
@[simp]theorem aue(S:aI->Prop)(d:c4 bN):aB S (sK d)=True:=by cases d<;>simp[sK,c4.e,aB]
@[simp]theorem avZ(d:c4 bN):dz (sK d)=sK d:=by
 cases d with
 |l l=>
  have:∀l:List bN,c6 (l.map bN.e)=l.map bN.e:=by
   intro l;induction l with
   |nil=>rfl
   |cons x l bR=>simp[c6,bR]
  simp[sK,c4.e,dz,this]
 |b=>simp[sK,c4.e,dz]
@[simp]theorem aug(S:aI->Prop)(d:c4 hZ):aB S (sR d)=True:=by cases d<;>simp[sR,c4.e,aB]
@[simp]theorem av1(d:c4 hZ):dz (sR d)=sR d:=by
 cases d with
 |l l=>
  have:∀l:List hZ,c6 (l.map hZ.e)=l.map hZ.e:=by
   intro l;induction l with
   |nil=>rfl
   |cons x l bR=>simp[c6,bR]
  simp[sR,c4.e,dz,this]
 |b=>simp[sR,c4.e,dz]
structure oo where
 n:Int
 b:c4 ft
 d:c4 (c4 ft)
 k:c4 bN
 m:c4 hZ
def oo.e(r:oo):aj:= .agg [.int .i64 r.n,kB r.b,r2 r.d,sK r.k,sR r.m]
structure oo.wf (r:oo):Prop where
 b:xY r.b
 d:r.d.wf xY
 k:∀p n cap,r.k= .b p n cap->nu n
 m:r.m.wf fun x=>x.s.wf
def uz(r:oo)(m:Int):Int:=if iB r.b m<0 then-1 else if gV iB r.d (iB r.b m)<0 then-1 else if pJ r.k (gV iB r.d (iB r.b m))<0 then-1 else if gV mn r.m (pJ r.k (gV iB r.d (iB r.b m)))<0 then-1 else gV mn r.m (pJ r.k (gV iB r.d (iB r.b m)))
def Af(b:c3):ft:=⟨b.v,rO b.t⟩
def zi(b:bj):hZ:=⟨b.v,.s b.s⟩
theorem ab9(b:c3):(Af b).e=b.e:=by have h:=Px b.t;rw[cq.e_eq,Aw]at h;simp only[aj.agg.injEq,oW,and_true,true_and]at h;obtain⟨J,U,ar,a6⟩:=h;show aj.agg [_,_,_,_,_]=aj.agg [_,_,_,_,_];rw[show(Af b).t=rO b.t from rfl,J,U,ar,a6];rfl
theorem akL(b:bj):(zi b).e=b.e:=rfl
theorem aca(l:List c3):(l.map Af).map ft.e=l.map c3.e:=by rw[List.map_map];exact List.map_congr_left fun b _=>ab9 b
theorem akM(l:List bj):(l.map zi).map hZ.e=l.map bj.e:=by rw[List.map_map];exact List.map_congr_left fun b _=>akL b
def u2(d:List c3):c4 ft:= .l (d.map Af)
theorem TA(d:List c3):kB (u2 d)=gl d:=by simp only[kB,u2,c4.e,gl,aca]
theorem ac5(l:List (List c3)):(l.map u2).map kB=l.map gl:=by rw[List.map_map];exact List.map_congr_left fun b _=>TA b
def h1.h(r:h1):oo:=⟨r.n,u2 r.b,.l (r.d.map u2),.l r.k,.l (r.m.map zi)⟩
theorem apH(r:h1):r.h.e=r.e:=by simp only[oo.e,h1.h,h1.e,TA,r2,sK,sR,c4.e,ac5,akM];rfl
theorem apS(x:ft)(m:Int)(hw:x.t.wf)(J:m<=1048576)(br:0<=m)(h:0<=s9 x m):∃y,x=Af y:=by obtain⟨u,hu⟩:=Po x.t m hw J br h;exact⟨⟨x.v,u⟩,by cases x;simp only[Af]at hu⊢;rw[hu]⟩
theorem apT(x:hZ)(m:Int)(hw:x.s.wf)(J:m<=1048576)(br:0<=m)(h:0<=mn x m):∃y,x=zi y:=by
 unfold mn at h;split at h
 ·omega
 ·obtain⟨l,au⟩:=ht.small hw J h;exact⟨⟨x.v,l⟩,by cases x;simp only[zi]at au⊢;rw[au]⟩
theorem ZO(x:c4 ft)(m:Int)(hw:xY x)(J:m<=1048576)(br:0<=m)(h:0<=iB x m):∃y,x=u2 y:=I7 (P:=fun b:ft=>b.t.wf) Pm apS x m (show c4.wf (fun b:ft=>b.t.wf) x from hw) J br h
theorem ZU:∀(l:List bj) (m:Int),(∀x∈l,1<=x.s.length)->0<=kq mn (l.map zi) m->(l.length:Int)<=m
 |[],m,_,h=>by simpa[kq]using h
 |x::l,m,J,h=>by
  simp only[gM,kq]at h;split at h
  ·omega
  ·rename_i U;have ar:=ZU l _ (fun y aL=>J y (by simp[aL])) h;have a6:=J x Ψ;have b0:mn (zi x) m=if m-x.s.length<0 then-1 else m-x.s.length:=rfl
   rw[b0]at U ar;split at ar
   ·rename_i df;rw[if_pos df]at U;omega
   ·simp only[oX];omega
theorem ak2{s:List dw}(h:iX s=true):1<=s.length:=by
 cases s with
 |nil=>simp[iX]at h
 |cons c s=>simp
theorem aro(r:oo)(hw:r.wf)(m:Int)(br:0<=m)(J:m<=1048576):bC al 63 [r.e,.int .i64 m] (.int .i64 (uz r m)):=by
 generalize aU:uz r m=R;obtain⟨n,b,d,k,l⟩:=r;obtain⟨ej,dp,pM,nv⟩:=hw;simp only at ej dp pM nv;unfold uz at aU;simp only[oo.e]at aU⊢;have aS:=aaM b ej m br J;have bV:=xN b m br;generalize iB b m=ba at aU aS bV;have be:_->bC al 138 [r2 d,.int .i64 ba] (.int .i64 (gV iB d ba)):=fun h=>ark d (fun p n c e=>by subst e;exact dp) (fun xs e x ab m br J=>by subst e;exact aaM x (dp x ab) m br J) ba h Ω;have b7:=fun h=>ux xN d ba h;generalize gV iB d ba=bo at aU be b7;have b8:_->_->bC al 139 [sK k,.int .i64 bo] (.int .i64 (pJ k bo)):=fun h cn=>arq k pM bo h cn;have fV:=fun h=>Pn k bo h;generalize pJ k bo=b3 at aU b8 fV;have eg:_->_->bC al 140 [sR l,.int .i64 b3] (.int .i64 (gV mn l b3)):=fun h cn=>arn l (fun p n c e=>by subst e;exact nv) (fun xs e x ab m br J=>by subst e;exact arl x (nv x ab) m br J) b3 h cn;have o8:=fun h=>ux E7 l b3 h;generalize gV mn l b3=c9 at aU eg o8;clear ej dp pM nv;by_cases g1:ba<0
 ·rw[if_pos g1]at aU;subst aU;clear be b8 eg;refine bc fS CZ En fun aM=>?_;unfold Ak;exact bQ
 rw[if_neg g1]at aU;have be:=be Ω;have b7:=b7 Ω;by_cases g2:bo<0
 ·rw[if_pos g2]at aU;subst aU;clear b8 eg;refine bc fS CZ En fun aM=>?_;unfold Ak;exact bQ
 rw[if_neg g2]at aU;have b8:=b8 Ω Ω;have fV:=fV Ω;by_cases g3:b3<0
 ·rw[if_pos g3]at aU;subst aU;clear eg;refine bc fS CZ En fun aM=>?_;unfold Ak;exact bQ
 rw[if_neg g3]at aU;have eg:=eg Ω Ω;have o8:=o8 Ω;by_cases g4:c9<0
 ·rw[if_pos g4]at aU;subst aU;refine bc fS CZ En fun aM=>?_;unfold Ak;exact bQ
 rw[if_neg g4]at aU;subst aU;refine bc fS CZ En fun aM=>?_;unfold Ak;exact bQ
theorem arx(r:h1):bC al 67 [r.e] r.e:=by obtain⟨n,b,d,k,l⟩:=r;simp only[h1.e];have aS:bC al 149 [.slice 5 .no (b.map c3.e)] (.slice 5 .no (b.map c3.e)):=aaR b;have be:=aru d fun x _=>aaR x;have b8:=arA k fun x _=>arz x;have eg:=arw l fun x _=>arv x;refine bc fS afm amm fun aM=>?_;unfold R8;exact bQ
theorem aqG(r:h1):bC al 72 [r.e,r.e] (.bool true):=by obtain⟨n,b,d,k,l⟩:=r;simp only[h1.e];have aS:bC al 156 [.slice 5 .no (b.map c3.e),.slice 5 .no (b.map c3.e)] (.bool true):=aan b;have be:=aqD d fun x _=>aan x;have b8:=aqJ k fun x _=>aqI x;have eg:=aqF l fun x _=>aqE x;refine bc fS afb amb fun aM=>?_;unfold RV;exact bQ
end
section
open Go Go.Pv Go.ChangeShapes Go.WideShapes Go.ChangeAt Go.RowKit Go.Deep
section
variable {H:Type} {enc:gu×Value->H} {W:World} {spare:Nat->Bool} {held:Bool} {cs:List Value} {x:DataW H×List MemPlace} {fuel:Nat}
theorem CS:al.cellsOf 3=1:=by kernel_rfl
theorem Tk:al.cellsOf 9=1:=by kernel_rfl
theorem Gb:al.cellsOf 124=4:=by kernel_rfl
theorem Tl:al.cellsOf 43=1:=by kernel_rfl
theorem Tf:al.cellsOf 227=5:=by kernel_rfl
theorem Tg:al.cellsOf 44=1:=by kernel_rfl
theorem aco:al.cellsOf 45=1:=by kernel_rfl
theorem Th:al.cellsOf 233=2:=by kernel_rfl
theorem acp:al.cellsOf 46=1:=by kernel_rfl
theorem Ti:al.cellsOf 229=2:=by kernel_rfl
theorem acq:al.cellsOf 47=1:=by kernel_rfl
theorem Tj:al.cellsOf 49=5:=by kernel_rfl
theorem y1(h:iC enc al W 0 spare held fuel 3 cs=some x):∃(n:Int) (v:Value),cs=[v]/\um W (.int .i64 n) v:=by obtain⟨n,rfl,_,_⟩:=DataW.trod_int Tryz.underlying3 h;exact⟨n,_,rfl,by simp only[bd],rfl,rfl⟩
theorem ZE(h:iC enc al W 0 spare held fuel 9 cs=some x):∃(s:ht) (v:Value),s.wf/\cs=[v]/\um W s.e v:=by
 obtain⟨s,rfl,_,hm⟩:=DataW.trod_string Tryz.underlying9 h;by_cases ag:lim<s.size
 ·exact⟨.b s,_,⟨ag,by unfold maxLen at hm;omega⟩,rfl,by simp only[ht.e,bd],rfl,rfl⟩
 ·refine⟨.s s.data.toList,_,trivial,rfl,?_,rfl,rfl⟩;simp only[ht.e,bd];refine⟨Ψ,?_⟩;have:s.data.toList.length=s.size:=rfl;omega
theorem WU{α:Type}:∀{cs:List α},cs.length=2->∃a b,cs=[a,b]
 |[a,b],_=>⟨a,b,rfl⟩
theorem aka{α:Type}:∀{cs:List α},cs.length=4->∃a b c d,cs=[a,b,c,d]
 |[a,b,c,d],_=>⟨a,b,c,d,rfl⟩
theorem WV{α:Type}:∀{cs:List α},cs.length=5->∃a b c d e,cs=[a,b,c,d,e]
 |[a,b,c,d,e],_=>⟨a,b,c,d,e,rfl⟩
theorem ZX:∀(fuel:Nat) (cs:List Value) (x:DataW H×List MemPlace),iC enc al W 0 spare held fuel 124 cs=some x->∃t:cq,t.wf/\dd W (r6 W) [.int .i64 t.kind,.int .i64 t.num,t.name.e,t.args.e 4 cq.e] cs:=by
 intro fuel;induction fuel using Nat.strongRecOn with
 |ind fuel bR=>
  intro cs x h;obtain⟨xs,n,rfl,_,hlen,jB,aK⟩:=DataW.trod_struct Tryz.underlying124 h;rw[Gb]at hlen;obtain⟨iw,bM,cp,dc,rfl⟩:=aka hlen;have DU:xs.length=4:=jB;have f0:iC enc al W 0 spare held n 3 (([iw,bM,cp,dc].drop 0).take (al.cellsOf 3))=xs[0]?:=aK 0 _ rfl;have f1:iC enc al W 0 spare held n 3 (([iw,bM,cp,dc].drop 1).take (al.cellsOf 3))=xs[1]?:=aK 1 _ rfl;have f2:iC enc al W 0 spare held n 9 (([iw,bM,cp,dc].drop 2).take (al.cellsOf 9))=xs[2]?:=aK 2 _ rfl;have f3:iC enc al W 0 spare held n 43 (([iw,bM,cp,dc].drop 3).take (al.cellsOf 43))=xs[3]?:=aK 3 _ rfl;simp only[CS,Tk,Tl,ny,ku]at f0 f1 f2 f3;rw[b6 Ω]at f0 f1 f2 f3;obtain⟨k,v0,fp,r0⟩:=y1 f0;obtain⟨m,v1,ak,dC⟩:=y1 f1;obtain⟨s,v2,dp,aD,eH⟩:=ZE f2;obtain⟨l,pM,v3,bh,ln⟩:=Cf cq.e cq.wf Tryz.underlying43 Gb Ω (fun n' cs' Fm ax cn=>by obtain⟨t,t1,t2⟩:=bR n' Ω cs' Fm cn;exact⟨t,t1,by rw[cq.e_eq];exact zz t2⟩) f3
  simp only[oW,and_true]at fp ak aD bh;subst fp ak aD bh;cases l with
  |l a=>
   refine⟨.mk k m s a,?_,?_⟩
   ·simp only[cq.wf,cq.wfL_iff];exact⟨dp,pM⟩
   ·simp only[dd,cq.kind,cq.num,cq.name,cq.args];exact⟨_,_,rfl,⟨r0.1,r0.2.1⟩,_,_,rfl,⟨dC.1,dC.2.1⟩,_,_,rfl,⟨eH.1,eH.2.1⟩,_,_,rfl,⟨ln.1,ln.2.1⟩,rfl⟩
  |b p a1 c=>
   refine⟨.big k m s p a1 c,?_,?_⟩
   ·simp only[cq.wf];exact⟨dp,pM⟩
   ·simp only[dd,cq.kind,cq.num,cq.name,cq.args];exact⟨_,_,rfl,⟨r0.1,r0.2.1⟩,_,_,rfl,⟨dC.1,dC.2.1⟩,_,_,rfl,⟨eH.1,eH.2.1⟩,_,_,rfl,⟨ln.1,ln.2.1⟩,rfl⟩
theorem ab2(h:iC enc al W 0 spare held fuel 227 cs=some x):∃b:ft,b.t.wf/\reads W b.e cs:=by obtain⟨xs,n,rfl,_,hlen,jB,aK⟩:=DataW.trod_struct Tryz.underlying227 h;rw[Tf]at hlen;obtain⟨iw,bM,cp,dc,h2,rfl⟩:=WV hlen;have DU:xs.length=2:=jB;have f0:iC enc al W 0 spare held n 3 (([iw,bM,cp,dc,h2].drop 0).take (al.cellsOf 3))=xs[0]?:=aK 0 _ rfl;have f1:iC enc al W 0 spare held n 124 (([iw,bM,cp,dc,h2].drop 1).take (al.cellsOf 124))=xs[1]?:=aK 1 _ rfl;simp only[CS,Gb,ny,ku]at f0 f1;rw[b6 Ω]at f0 f1;obtain⟨k,v0,fp,r0⟩:=y1 f0;obtain⟨t,ej,dC⟩:=ZX _ _ _ f1;simp only[oW,and_true]at fp;subst fp;refine⟨⟨k,t⟩,ej,zz ?_⟩;rw[dd];exact⟨_,_,rfl,⟨r0.1,r0.2.1⟩,dC⟩
theorem aj0(h:iC enc al W 0 spare held fuel 233 cs=some x):∃b:bN,True/\reads W b.e cs:=by obtain⟨xs,n,rfl,_,hlen,jB,aK⟩:=DataW.trod_struct Tryz.underlying233 h;rw[Th]at hlen;obtain⟨iw,bM,rfl⟩:=WU hlen;have DU:xs.length=2:=jB;have f0:iC enc al W 0 spare held n 3 (([iw,bM].drop 0).take (al.cellsOf 3))=xs[0]?:=aK 0 _ rfl;have f1:iC enc al W 0 spare held n 3 (([iw,bM].drop 1).take (al.cellsOf 3))=xs[1]?:=aK 1 _ rfl;simp only[CS,ny,ku]at f0 f1;rw[b6 Ω]at f0 f1;obtain⟨k,v0,fp,r0⟩:=y1 f0;obtain⟨m,v1,ak,dC⟩:=y1 f1;simp only[oW,and_true]at fp ak;subst fp ak;refine⟨⟨k,m⟩,trivial,zz ?_⟩;simp only[dd];exact⟨_,_,rfl,⟨r0.1,r0.2.1⟩,_,_,rfl,⟨dC.1,dC.2.1⟩,rfl⟩
theorem ako(h:iC enc al W 0 spare held fuel 229 cs=some x):∃b:hZ,b.s.wf/\reads W b.e cs:=by obtain⟨xs,n,rfl,_,hlen,jB,aK⟩:=DataW.trod_struct Tryz.underlying229 h;rw[Ti]at hlen;obtain⟨iw,bM,rfl⟩:=WU hlen;have DU:xs.length=2:=jB;have f0:iC enc al W 0 spare held n 3 (([iw,bM].drop 0).take (al.cellsOf 3))=xs[0]?:=aK 0 _ rfl;have f1:iC enc al W 0 spare held n 9 (([iw,bM].drop 1).take (al.cellsOf 9))=xs[1]?:=aK 1 _ rfl;simp only[CS,Tk,ny,ku]at f0 f1;rw[b6 Ω]at f0 f1;obtain⟨k,v0,fp,r0⟩:=y1 f0;obtain⟨s,v1,ej,ak,dC⟩:=ZE f1;simp only[oW,and_true]at fp ak;subst fp ak;refine⟨⟨k,s⟩,ej,zz ?_⟩;simp only[dd];exact⟨_,_,rfl,⟨r0.1,r0.2.1⟩,_,_,rfl,⟨dC.1,dC.2.1⟩,rfl⟩
theorem QM(h:iC enc al W 0 spare held fuel 44 cs=some x):∃d:c4 ft,xY d/\∃v,cs=[v]/\um W (kB d) v:=Cf ft.e (fun b=>b.t.wf) Tryz.underlying44 Tf Ω (fun _ _ _ _ cn=>ab2 cn) h
theorem ab3(h:iC enc al W 0 spare held fuel 45 cs=some x):∃d:c4 (c4 ft),d.wf xY/\∃v,cs=[v]/\um W (r2 d) v:=Cf kB xY Tryz.underlying45 Tg Ω (fun _ _ _ _ cn=>by obtain⟨d,w,v,rfl,r⟩:=QM cn;exact⟨d,w,r.reads⟩) h
theorem aj3(h:iC enc al W 0 spare held fuel 46 cs=some x):∃d:c4 bN,d.wf (fun _=>True)/\∃v,cs=[v]/\um W (sK d) v:=Cf bN.e (fun _=>True) Tryz.underlying46 Th Ω (fun _ _ _ _ cn=>aj0 cn) h
theorem akp(h:iC enc al W 0 spare held fuel 47 cs=some x):∃d:c4 hZ,d.wf (fun b=>b.s.wf)/\∃v,cs=[v]/\um W (sR d) v:=Cf hZ.e (fun b=>b.s.wf) Tryz.underlying47 Ti Ω (fun _ _ _ _ cn=>ako cn) h
theorem apG(h:iC enc al W 0 spare held fuel 49 cs=some x):∃r:oo,r.wf/\reads W r.e cs:=by obtain⟨xs,n,rfl,_,hlen,jB,aK⟩:=DataW.trod_struct Tryz.underlying49 h;rw[Tj]at hlen;obtain⟨iw,bM,cp,dc,h2,rfl⟩:=WV hlen;have DU:xs.length=5:=jB;have f0:iC enc al W 0 spare held n 3 (([iw,bM,cp,dc,h2].drop 0).take (al.cellsOf 3))=xs[0]?:=aK 0 _ rfl;have f1:iC enc al W 0 spare held n 44 (([iw,bM,cp,dc,h2].drop 1).take (al.cellsOf 44))=xs[1]?:=aK 1 _ rfl;have f2:iC enc al W 0 spare held n 45 (([iw,bM,cp,dc,h2].drop 2).take (al.cellsOf 45))=xs[2]?:=aK 2 _ rfl;have f3:iC enc al W 0 spare held n 46 (([iw,bM,cp,dc,h2].drop 3).take (al.cellsOf 46))=xs[3]?:=aK 3 _ rfl;have f4:iC enc al W 0 spare held n 47 (([iw,bM,cp,dc,h2].drop 4).take (al.cellsOf 47))=xs[4]?:=aK 4 _ rfl;simp only[CS,Tg,aco,acp,acq,ny,ku]at f0 f1 f2 f3 f4;rw[b6 Ω]at f0 f1 f2 f3 f4;obtain⟨k,v0,fp,r0⟩:=y1 f0;obtain⟨d1,ej,v1,ak,dC⟩:=QM f1;obtain⟨d2,dp,v2,aD,eH⟩:=ab3 f2;obtain⟨d3,pM,v3,bh,ln⟩:=aj3 f3;obtain⟨d4,nv,v4,dk,Ye⟩:=akp f4;simp only[oW,and_true]at fp ak aD bh dk;subst fp ak aD bh dk;refine⟨⟨k,d1,d2,d3,d4⟩,⟨ej,dp,fun p n c e=>by simp only at e;subst e;exact pM,nv⟩,zz ?_⟩;simp only[dd];exact⟨_,_,rfl,⟨r0.1,r0.2.1⟩,_,_,rfl,⟨dC.1,dC.2.1⟩,_,_,rfl,⟨eH.1,eH.2.1⟩,_,_,rfl,⟨ln.1,ln.2.1⟩,_,_,rfl,⟨Ye.1,Ye.2.1⟩,rfl⟩
end
end
section
open Go Go.Pv Go.ChangeShapes Go.WideShapes Go.ChangeAt Go.RowKit
theorem aoU:ownKnob al.godebug=none:=by kernel_rfl
theorem Zm:laidOutB al=true:=by kernel_rfl
theorem ace{f:FuncId}{fn:Func}(rk:al.funcs[f]? =some fn)(ade:∀args w,(callFunc f args).run al w= .ok (.enter f args) w){w:World}{Z:bg}{args:List aj}{bf:Array Value}(h:bC al f args (.bool true))(aJ:∀k j b,¬Z.tr k j b)(bm:∀b o,Z.A b o->b<w.heap.size)(af:∀k,Z.bx k=none)(ay:∀k,Z.ow k=none)(aO:cY w Z args bf.toList):
  Calls al f bf w fun e w'=>e= .returned (.bool true)/\Below w.heap.size w w':=by
 have a7:Pv.Good (fM Z ⟨[],[]⟩) w Z [] []:=⟨bm,fun k cs ad=>by simp[Pv.look]at ad,fun k bJ bl J=>by simp[Pv.look]at J,fun g o ad=>by simp[Pv.look]at ad,fun g fv n n' v v' bl J=>by simp[Pv.look]at J,fun g k n v bl J=>by simp[Pv.look]at J,fun k=>.inl (af k),fun _ _ k j=>aJ k j _⟩;rcases h w Z bf a7 (fun k=>⟨fun _=>af k,fun _=>ay k,aJ k⟩) aO with⟨_,aw⟩|⟨v,w',aw,_⟩
 ·refine aw.mono ?_;rintro e w' ⟨v,r,ah,bt,rfl,⟨rfl,rfl⟩,mZ,_,_,_,mz⟩;simp only[bd]at mZ;subst mZ;refine⟨rfl,mz.os,mz.tape,mz.output,mz.size,fun k ad=>mz.block k ad ?_⟩;simp[fM,Pv.look]
 ·rw[ade]at aw;cases aw
theorem adh{W:World}{b o:Nat}(h:(r6 W).A b o):b<W.heap.size:=by
 obtain⟨u,hu⟩:=h;rcases Nat.lt_or_ge b W.heap.size with h|h
 ·exact h
 ·simp[World.cell?,Array.getElem?_eq_none h]at hu
theorem aoO{W:World}{b1:List aj}{us:Array Value}(h:reads W (.agg b1) us.toList):bd W (r6 W) (.agg b1) (.agg us):=by
 obtain⟨v,J,U,_⟩:=h;have ar:=U;simp only[bd]at ar;obtain⟨ws,rfl,_⟩:=ar;have:ws=us:=by
  have:ws.toList=us.toList:=by simpa[pP]using J
  exact Array.toList_inj.1 this
 rw[<-this];exact U
end
end Go.Proofs.YtohaalphocaebaaGreat
