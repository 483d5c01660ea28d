/- Contracts of pattern-defeating quicksort: the partitions. -/
import Derived.Test.YtfeencekjcjalaaGreatDoorProg
import Derived.Lib.ItoaNum
import Derived.Lib.AtoiAll
import Derived.Lib.ItoaLen
import Derived.Sort.AssemblyPlain
import Derived.Sort.LotD5
import Derived.Test.YtfeencekjcjalaaGreatDoorZq4
set_option linter.all false
set_option maxHeartbeats 4000000
set_option maxRecDepth 4000
open Bool renaming and_eq_true->cD,eq_iff_iff->rO,false_eq_true->hI,or_eq_true->mR
open Go.IntKind renaming i64->oQ
open Go.IntWalk renaming i64_in->lY
open Go.Op renaming bytesLess->h5
open Go.Proofs.Tryz renaming prog->ar
open List renaming all_eq_true->iW,cons_append->b3,drop->n2,drop_eq_getElem_cons->mu,getElem?_append_left->rQ,getElem?_eq_getElem->cl,getElem?_eq_none->rR,getElem?_eq_some_iff->fp,getElem_of_mem->oS,length_append->ga,length_cons->ik,length_drop->sO,length_nil->nv,length_take->oT,map_cons->fG,mem_append->j0,mem_cons->gj,mem_filter->n3,mem_map->iA,mem_of_getElem?->ev,nil_append->b6,pairwise_iff_getElem->q1,take_of_length_le->gv,take_succ->pC
open List.Nodup renaming length_le_of_subset->QU
open List.Pairwise renaming filter->acq,imp_of_mem->atL,sublist->ayp
open List.Perm renaming eq_of_pairwise->QV
open List.cons renaming injEq->pA
open Nat renaming le_refl->e2,le_trans->j1
open Option renaming bind_eq_some_iff->n5,getD_none->oU,getD_some->mv,map_eq_some_iff->gI,map_some->nz
open Option.some renaming inj->ft,injEq->dz
open Prod.mk renaming injEq->hW
open UInt8 renaming ofNat->sS
open _root_ renaming False->eF,Option->aZ,UInt8->b7,beq_iff_eq->dW,congrArg->eG,decide_eq_false->l0,decide_eq_false_iff_not->hb,decide_eq_true->lL,decide_eq_true_eq->e3
namespace Go.Proofs.YtfeencekjcjalaaGreatDoor
section
open Go Go.Pv
@[simp]def NT:qN []=kL []:=rfl
@[simp]def ax4(t:T):yu (some t)=t.e:=rfl
@[simp]def ax3:yu none= .agg [.int .i64 0,.int .i64 0,.str [],.slice 4 .nil []]:=rfl
def Vt(n:Nat)(x:Int)(t:T)(c:bE)(p:Bool×bE)(he:wx n x t c=some p):bG ar 211 [aF,.int .i64 x,t.e] (aP c) fun r b=>r= .bool p.1/\b=aP p.2:=by have d:=cu c;simp only[wx,gI]at he;obtain⟨a,J,rfl⟩:=he;have e:z1 715:= .inl rfl;have key:=Hu e x n t (c.know x t) [] a J;simp only[aP,aE]at d⊢;refine bG.mk mixed a7 Tryz.func211 am7 Ψ d.obj fun g f=>?_;unfold R9;simp[aF];(refine cx.ob (key) gt (by simp only[e8,aE,aF,bE.know,b3,b6];exact aG) (by simp only[e8,aE,aF,bE.know,b3,b6];exact aG) (by simp[inObs,Pv.look,e8,aE,aF,bE.know]) ?_;rintro r b ⟨rfl,rfl⟩;refine⟨(Same.keys (by simp[e8,aE,aF,bE.know]) (by simp[e8,aE,aF,bE.know])),?_⟩;simp[bW,e8,aE,aF,bE.know]);(refine cJ.at (aP a.c) Ψ bv (Same.keys co co) bi bi ?_;simp[cM,aX,aY,aW,inObs,Pv.look,aP,aE,aF])
def Vr(n:Nat):∀(a b:T) (c:bE) (p:Bool×bE),hd n a b c=some p->bG ar 193 [aF,a.e,b.e] (aP c) fun r t=>r= .bool p.1/\t=aP p.2:=by
 induction n with
 |zero=>intro a b c p h;simp[hd]at h
 |succ n G=>
  intro a b c p he;have s:=cu c;have zG:∀i j,a= .var i->b= .var j->bG ar 193 [aF,a.e,b.e] (aP c) fun r t=>r= .bool p.1/\t=aP p.2:=by
   rintro i j rfl rfl;simp only[hd,n5]at he;obtain⟨⟨x,z⟩,J,⟨y,c2⟩,U,B⟩:=he;simp only at U B;simp only[aP,aE]at s⊢;refine bG.mk mixed a7 Tryz.func193 z7 Ψ s.obj fun H F=>?_;unfold xl;simp[aF];(refine cx.ob (s9 c i x z J) bv bi bi ge ?_;rintro r t ⟨rfl,rfl⟩;refine⟨(Same.keys co co),?_⟩;simp[bW,aP,aE,aF]);(repeat' first|refine ak ?_|simp);(refine cx.ob (s9 z j y c2 U) bv bi bi ge ?_;rintro r t ⟨rfl,rfl⟩;refine⟨(Same.keys co co),?_⟩;simp[bW,aP,aE,aF]);by_cases Q:x=y
   ·rw[if_pos Q]at B;cases B;(repeat' first|refine ak ?_|simp[Q]);(refine cJ.at (aP c2) Ψ bv (Same.keys co co) bi bi ?_;simp[cM,aX,aY,aW,inObs,Pv.look,aP,aE,aF])
   ·rw[if_neg Q]at B;have L:(x==y)=false:=by simp[Q]
    have VP:z1 715:= .inl rfl;have W:z1 716:= .inr rfl;obtain⟨u,v,M,w⟩:∃u v,((u=y/\v=x/\y<x)\/(u=x/\v=y/\¬y<x))/\s6 (hd n) n u v (c2.join u v)=some p:=by
     by_cases q:y<x
     ·rw[if_pos q]at B;exact⟨y,x,.inl ⟨rfl,rfl,q⟩,B⟩
     ·rw[if_neg q]at B;exact⟨x,y,.inr ⟨rfl,rfl,q⟩,B⟩
    clear B;obtain⟨d,E⟩:∃d,d=c2.join u v:=⟨_,rfl⟩;have m:d.up=fa v u c2.up:=by rw[E];rfl
    have f:d.shape=c2.shape:=by rw[E];rfl
    have e:d.shaped=c2.shaped:=by rw[E];rfl
    have l:d.color=c2.color:=by rw[E];rfl
    have k:d.size=c2.size:=by rw[E];rfl
    have g:d.full=c2.full:=by rw[E];rfl
    rw[<-E]at w;simp only[s6]at w;cases K:d.shd v with
    |false=>
     have D:(dp v c2.shaped).getD false=false:=by rw[<-e];exact K
     rw[if_pos K]at w;cases hu:d.shd u with
     |false=>
      have A:(dp u c2.shaped).getD false=false:=by rw[<-e];exact hu
      rw[if_pos hu]at w;cases w;rcases M with⟨rfl,rfl,q⟩|⟨rfl,rfl,q⟩;all_goals
       (repeat' first|refine ak ?_|simp[L,q,D,A])
       (refine cJ.at (aP d) Ψ bv (Same.keys (by simp[aP,aE,aF,m,f,e,l,k,g]) (by simp[aP,aE,aF,m,f,e,l,k,g])) (by simp only[aP,aE,aF,m,f,e,l,k,g,b3,b6];exact aG) (by simp only[aP,aE,aF,m,f,e,l,k,g,b3,b6];exact aG) ?_;simp[cM,aX,aY,aW,inObs,Pv.look,aP,aE,aF,m,f,e,l,k,g])
     |true=>
      have A:(dp u c2.shaped).getD false=true:=by rw[<-e];exact hu
      rw[if_neg (by simp[hu]),gI]at w;obtain⟨a,V,rfl⟩:=w;have key:=Hu VP u n _ _ _ _ V;rw[show d.shp u=(dp u c2.shape).getD .nil from by rw[<-f];rfl]at key;rcases M with⟨rfl,rfl,q⟩|⟨rfl,rfl,q⟩;all_goals
       (repeat' first|refine ak ?_|simp[L,q,D,A])
       (refine cx.ob (key) gt (by simp only[e8,aE,aF,m,f,e,l,k,g,b3,b6];exact aG) (by simp only[e8,aE,aF,m,f,e,l,k,g,b3,b6];exact aG) (by simp[inObs,Pv.look,e8,aE,aF,m,f,e,l,k,g]) ?_;rintro r t ⟨rfl,rfl⟩;refine⟨(Same.keys (by simp[e8,aE,aF,m,f,e,l,k,g]) (by simp[e8,aE,aF,m,f,e,l,k,g])),?_⟩;simp[bW,e8,aE,aF,m,f,e,l,k,g])
       (repeat' first|refine ak ?_|simp)
       (refine cJ.at (aP a.c) Ψ bv (Same.keys co co) bi bi ?_;simp[cM,aX,aY,aW,inObs,Pv.look,aP,aE,aF])
    |true=>
     have D:(dp v c2.shaped).getD false=true:=by rw[<-e];exact K
     rw[if_neg (by simp[K])]at w;rw[show d.shp v=(dp v c2.shape).getD .nil from by rw[<-f];rfl]at w;cases hu:d.shd u with
     |false=>
      have A:(dp u c2.shaped).getD false=false:=by rw[<-e];exact hu
      rw[if_pos hu]at w;have key:=Vt n u _ d p w;cases aM:dp v c2.shape;all_goals
       rw[aM]at key
       simp only[mv,oU]at key
       rcases M with⟨rfl,rfl,q⟩|⟨rfl,rfl,q⟩
       all_goals
        (repeat' first|refine ak ?_|simp[L,q,D,A,aM])
        (refine cx.ob (key) bv (by simp only[aP,aE,aF,m,f,e,l,k,g,b3,b6];exact aG) (by simp only[aP,aE,aF,m,f,e,l,k,g,b3,b6];exact aG) (by simp[inObs,Pv.look,aP,aE,aF,m,f,e,l,k,g]) ?_;rintro r t ⟨rfl,rfl⟩;refine⟨(Same.keys (by simp[aP,aE,aF,m,f,e,l,k,g]) (by simp[aP,aE,aF,m,f,e,l,k,g])),?_⟩;simp[bW,aP,aE,aF,m,f,e,l,k,g])
        (repeat' first|refine ak ?_|simp)
        (refine cJ.at (aP p.2) Ψ bv (Same.keys co co) bi bi ?_;simp[cM,aX,aY,aW,inObs,Pv.look,aP,aE,aF])
     |true=>
      have A:(dp u c2.shaped).getD false=true:=by rw[<-e];exact hu
      rw[if_neg (by simp[hu]),n5]at w;obtain⟨a,V,O⟩:=w;have key:=Hu VP u n _ _ _ _ V;obtain⟨o,aM⟩:∃o,dp v c2.shape=o:=⟨_,rfl⟩;rw[aM]at key O;obtain⟨ac,CS,KF⟩:=a;cases KF with
      |true=>
       simp at O;subst O;cases o;all_goals
        simp only[mv,oU]at key
        rcases M with⟨rfl,rfl,q⟩|⟨rfl,rfl,q⟩
        all_goals
         (repeat' first|refine ak ?_|simp[L,q,D,A,aM])
         (refine iY.ob (key) gt gt (Same.keys (by simp[e8,aE,aF,m,f,e,l,k,g]) (by simp[e8,aE,aF,m,f,e,l,k,g])) (by simp only[e8,aE,aF,m,f,e,l,k,g,b3,b6];exact aG) (by simp only[e8,aE,aF,m,f,e,l,k,g,b3,b6];exact aG) (by simp[inObs,Pv.look,e8,aE,aF,m,f,e,l,k,g]) ?_;simp[bW,e8,aE,aF,m,f,e,l,k,g])
         (repeat' first|refine ak ?_|simp)
         (refine cJ.at (aP ac) Ψ bv (Same.keys co co) bi bi ?_;simp[cM,aX,aY,aW,inObs,Pv.look,aP,aE,aF])
      |false=>
       simp only[hI,if_false,n5]at O;obtain⟨b,eh,P⟩:=O;have N:=Hu W u n _ _ _ _ eh;rw[show ac.shp u=(dp u ac.shape).getD .nil from rfl]at N;obtain⟨Z,at4,X⟩:=b;cases X with
       |true=>
        simp at P;subst P;cases o;all_goals
         simp only[mv,oU]at key
         rcases M with⟨rfl,rfl,q⟩|⟨rfl,rfl,q⟩
         all_goals
          (repeat' first|refine ak ?_|simp[L,q,D,A,aM])
          (refine iY.ob (key) gt gt (Same.keys (by simp[e8,aE,aF,m,f,e,l,k,g]) (by simp[e8,aE,aF,m,f,e,l,k,g])) (by simp only[e8,aE,aF,m,f,e,l,k,g,b3,b6];exact aG) (by simp only[e8,aE,aF,m,f,e,l,k,g,b3,b6];exact aG) (by simp[inObs,Pv.look,e8,aE,aF,m,f,e,l,k,g]) ?_;simp[bW,e8,aE,aF,m,f,e,l,k,g])
          (repeat' first|refine ak ?_|simp)
          (refine iY.ob (N) gt gt (Same.keys pu pu) i8 i8 ut ?_;simp[bW,e8,aE,aF])
          (repeat' first|refine ak ?_|simp)
          (refine cJ.at (aP Z) Ψ bv (Same.keys co co) bi bi ?_;simp[cM,aX,aY,aW,inObs,Pv.look,aP,aE,aF])
       |false=>
        simp only[hI,if_false]at P;have Y:=G _ _ _ _ P;rw[show Z.shp u=(dp u Z.shape).getD .nil from rfl]at Y;cases o;all_goals
         simp only[mv,oU]at key Y
         rcases M with⟨rfl,rfl,q⟩|⟨rfl,rfl,q⟩
         all_goals
          (repeat' first|refine ak ?_|simp[L,q,D,A,aM])
          (refine iY.ob (key) gt gt (Same.keys (by simp[e8,aE,aF,m,f,e,l,k,g]) (by simp[e8,aE,aF,m,f,e,l,k,g])) (by simp only[e8,aE,aF,m,f,e,l,k,g,b3,b6];exact aG) (by simp only[e8,aE,aF,m,f,e,l,k,g,b3,b6];exact aG) (by simp[inObs,Pv.look,e8,aE,aF,m,f,e,l,k,g]) ?_;simp[bW,e8,aE,aF,m,f,e,l,k,g])
          (repeat' first|refine ak ?_|simp)
          (refine iY.ob (N) gt gt (Same.keys pu pu) i8 i8 ut ?_;simp[bW,e8,aE,aF])
          (repeat' first|refine ak ?_|simp)
          (refine iY.ob (Y) bv bv (Same.keys co co) bi bi ge ?_;simp[bW,aP,aE,aF])
          (repeat' first|refine ak ?_|simp)
          (refine cJ.at (aP p.2) Ψ bv (Same.keys co co) bi bi ?_;simp[cM,aX,aY,aW,inObs,Pv.look,aP,aE,aF])
  have K:∀i,a= .var i->b.kind≠1->bG ar 193 [aF,a.e,b.e] (aP c) fun r t=>r= .bool p.1/\t=aP p.2:=by
   rintro i rfl ae;have xE:((rt c i).bind fun p=>if p.2.shd p.1=false then wx n p.1 b p.2 else hd n (p.2.shp p.1) b p.2)=some p:=by cases b<;>first|exact he|simp at ae
   simp only[n5]at xE;obtain⟨⟨x,z⟩,J,U⟩:=xE;simp only at U;have ek:(b.kind==1)=false:=by simp[ae]
   simp only[aP,aE]at s⊢;refine bG.mk mixed a7 Tryz.func193 z7 Ψ s.obj fun H F=>?_;unfold xl;simp[aF];(repeat' first|refine ak ?_|simp[ek,ae]);(refine cx.ob (s9 c i x z J) bv bi bi ge ?_;rintro r t ⟨rfl,rfl⟩;refine⟨(Same.keys co co),?_⟩;simp[bW,aP,aE,aF]);cases R:z.shd x with
   |false=>have S:(dp x z.shaped).getD false=false:=R;rw[if_pos R]at U;(repeat' first|refine ak ?_|simp[S]);(refine cx.ob (Vt n x b z p U) bv bi bi ge ?_;rintro r t ⟨rfl,rfl⟩;refine⟨(Same.keys co co),?_⟩;simp[bW,aP,aE,aF]);(refine cJ.at (aP p.2) Ψ bv (Same.keys co co) bi bi ?_;simp[cM,aX,aY,aW,inObs,Pv.look,aP,aE,aF])
   |true=>have S:(dp x z.shaped).getD false=true:=R;rw[if_neg (by simp[R])]at U;have key:=G _ _ _ _ U;(repeat' first|refine ak ?_|simp[S]);(refine iY.ob (key) bv bv (Same.keys co co) bi bi ge ?_;simp[bW,aP,aE,aF]);(repeat' first|refine ak ?_|simp);(refine cJ.at (aP p.2) Ψ bv (Same.keys co co) bi bi ?_;simp[cM,aX,aY,aW,inObs,Pv.look,aP,aE,aF])
  cases a with
  |var i=>
   cases b with
   |var j=>exact zG i j rfl rfl
   |_=>exact K i rfl Ψ
  |pair bL a2=>
   cases b with
   |var j=>simp only[hd]at he;have key:=G _ _ _ _ he;simp only[aP,aE]at s⊢;refine bG.mk mixed a7 Tryz.func193 z7 Ψ s.obj fun H F=>?_;unfold xl;simp[aF];(refine cx.ob (key) bv bi bi ge ?_;rintro r t ⟨rfl,rfl⟩;refine⟨(Same.keys co co),?_⟩;simp[bW,aP,aE,aF]);(refine cJ.at (aP p.2) Ψ bv (Same.keys co co) bi bi ?_;simp[cM,aX,aY,aW,inObs,Pv.look,aP,aE,aF])
   |pair cn b8=>
    simp only[hd,n5]at he;obtain⟨⟨f1,z⟩,J,U⟩:=he;have key:=G _ _ _ _ J;simp only[aP,aE]at s⊢;refine bG.mk mixed a7 Tryz.func193 z7 Ψ s.obj fun H F=>?_;unfold xl;simp[aF];(repeat' first|refine ak ?_|simp);(refine iY.ob (key) bv bv (Same.keys co co) bi bi ge ?_;simp[bW,aP,aE,aF]);cases f1 with
    |false=>simp at U;subst U;(repeat' first|refine ak ?_|simp);(refine cJ.at (aP z) Ψ bv (Same.keys co co) bi bi ?_;simp[cM,aX,aY,aW,inObs,Pv.look,aP,aE,aF])
    |true=>simp at U;have N:=G _ _ _ _ U;(repeat' first|refine ak ?_|simp);(refine iY.ob (N) bv bv (Same.keys co co) bi bi ge ?_;simp[bW,aP,aE,aF]);(repeat' first|refine ak ?_|simp);(refine cJ.at (aP p.2) Ψ bv (Same.keys co co) bi bi ?_;simp[cM,aX,aY,aW,inObs,Pv.look,aP,aE,aF])
   |_=>simp[hd]at he;subst he;simp only[aP,aE]at s⊢;refine bG.mk mixed a7 Tryz.func193 z7 Ψ s.obj fun H F=>?_;unfold xl;simp[aF];(refine cJ.at (aP c) Ψ bv (Same.keys co co) bi bi ?_;simp[cM,aX,aY,aW,inObs,Pv.look,aP,aE,aF])
  |_=>
   cases b with
   |var j=>simp only[hd]at he;have key:=G _ _ _ _ he;simp only[aP,aE]at s⊢;refine bG.mk mixed a7 Tryz.func193 z7 Ψ s.obj fun H F=>?_;unfold xl;simp[aF];(refine cx.ob (key) bv bi bi ge ?_;rintro r t ⟨rfl,rfl⟩;refine⟨(Same.keys co co),?_⟩;simp[bW,aP,aE,aF]);(refine cJ.at (aP p.2) Ψ bv (Same.keys co co) bi bi ?_;simp[cM,aX,aY,aW,inObs,Pv.look,aP,aE,aF])
   |_=>
    simp[hd]at he;subst he;simp only[aP,aE]at s⊢;refine bG.mk mixed a7 Tryz.func193 z7 Ψ s.obj fun H F=>?_;unfold xl;simp[aF];((repeat' first|refine ak ?_|simp|((first|apply bV|apply b0|apply bZ)<;>intro h<;>try simp at h))<;>(try exact cA));all_goals(refine cJ.at (aP c) Ψ bv (Same.keys co co) bi bi ?_;simp[cM,aX,aY,aW,inObs,Pv.look,aP,aE,aF])
    all_goals simp_all
def nA(c:bE):Prop:= ∀x,0<=c.sz x/\c.sz x<=5001
def nA.rt{c:bE}(h:nA c){v r:Int}{a:bE}(he:rt c v=some (r,a)):nA a:=by simp only[Pv.rt,gI,hW]at he;obtain⟨p,_,_,rfl⟩:=he;exact h
def nA.put{c:bE}(h:nA c){x k:Int}(a:0<=k/\k<=5001)(m:List (Int×Int)):nA {c with size:=fa x k c.size,color:=m}:=fun z=>by
 show 0<=(dp z (fa x k c.size)).getD 0/\(dp z (fa x k c.size)).getD 0<=5001;rw[oM];split
 ·exact a
 ·exact h z
def ai2(c:bE)(v:Int)(p:Int×bE)(he:Av v c=some p):bG ar 244 [.int .i64 v,.eptr aF] (aP c) fun r d=>r= .int .i64 p.1/\d=aP p.2:=by have b:=cu c;simp only[Av,gI]at he;obtain⟨⟨r,a⟩,J,rfl⟩:=he;simp only[aP,aE]at b⊢;refine bG.mk mixed a7 Tryz.func244 ang Ψ b.obj fun f e=>?_;unfold Sh;simp[aF];(refine iY.ob (s9 c v r a J) bv bv (Same.keys co co) bi bi ge ?_;simp[bW,aP,aE,aF]);(repeat' first|refine ak ?_|simp);(refine cJ.at (aP a) Ψ bv (Same.keys co co) bi bi ?_;simp[cM,aX,aY,aW,inObs,Pv.look,aP,aE,aF]);all_goals rfl
def gS(a:bE×Bool):cS:=⟨aE a.1++[(.obj 712,[.bool a.2])],[]⟩
def rW(a):ea (gS a):=by unfold gS aE;exact ea.of ⟨by intro m;simp[Pv.look],by intro m;simp[Pv.look]⟩ Ψ Ψ
def acP(a b):Same (gS a) (gS b):=Same.keys (by simp[gS,aE]) (by simp[gS,aE])
def ai1(n:Nat)(g:∀x c p,rM n x c=some p->nA c->nA p.2/\bG ar 213 [aF,.int .i64 x] (aP c) fun r d=>r= .bool p.1/\d=aP p.2)
  (v:Int) (a bu:bE×Bool) (e:nA a.1) (he:AF (rM n) v a=some bu):nA bu.1/\bG ar 243 [.int .i64 v,.ptr (.obj 712) 0,.eptr aF] (gS a) fun r d=>r= .tuple []/\d=gS bu:=by
 have b:=rW a;obtain⟨c,f⟩:=a;cases f with
 |false=>simp[AF]at he;subst he;refine⟨e,?_⟩;simp only[gS,aE,b3,b6]at b⊢;refine bG.mk mixed a7 Tryz.func243 YX Ψ b.obj fun j h=>?_;unfold KW;simp[aF];(repeat' first|refine ak ?_|simp);(refine cJ.at (gS (c,false)) Ψ nH (Same.keys ul ul) li li ?_;simp[cM,aX,aY,aW,inObs,Pv.look,gS,aE,aF])
 |true=>
  simp only[AF,if_true,n5,gI]at he;obtain⟨⟨r,i⟩,J,⟨f2,c2⟩,U,rfl⟩:=he;obtain⟨z2,key⟩:=g _ _ _ U (e.rt J);refine⟨z2,?_⟩;simp only[gS,aE,b3,b6]at b⊢;refine bG.mk mixed a7 Tryz.func243 YX Ψ b.obj fun j h=>?_;unfold KW;simp[aF];(repeat' first|refine ak ?_|simp);(refine iY.ob (s9 c v r i J) bv bv (Same.keys co co) bi bi ge ?_;simp[bW,aP,aE,aF]);(repeat' first|refine ak ?_|simp);(refine iY.ob (key) bv bv (Same.keys co co) bi bi ge ?_;simp[bW,aP,aE,aF]);cases f2 with
  |true=>(repeat' first|refine ak ?_|simp);(refine cJ.at (gS (c2,true)) Ψ nH (Same.keys ul ul) li li ?_;simp[cM,aX,aY,aW,inObs,Pv.look,gS,aE,aF])
  |false=>(repeat' first|refine ak ?_|simp);(refine cJ.at (gS (c2,false)) Ψ nH (Same.keys ul ul) li li ?_;simp[cM,aX,aY,aW,inObs,Pv.look,gS,aE,aF])
def ai0(n:Nat):∀(x:Int) (c:bE) (p:Bool×bE),rM n x c=some p->nA c->nA p.2/\bG ar 213 [aF,.int .i64 x] (aP c) fun r t=>r= .bool p.1/\t=aP p.2:=by
 induction n with
 |zero=>intro x c p h;simp[rM]at h
 |succ n z=>
  intro x c p he d;have b:=cu c;simp only[rM]at he;by_cases U:c.col x=2
  ·rw[if_pos U]at he;cases he;have g:iL c.color x=2:=U;refine⟨d,?_⟩;simp only[aP,aE]at b⊢;refine bG.mk mixed a7 Tryz.func213 Fm Ψ b.obj fun s q=>?_;unfold A0;simp[aF];(repeat' first|refine ak ?_|simp[g]);(refine cJ.at (aP c) Ψ bv (Same.keys co co) bi bi ?_;simp[cM,aX,aY,aW,inObs,Pv.look,aP,aE,aF])
  rw[if_neg U]at he;have g:(iL c.color x==2)=false:=by simp;exact U
  by_cases J:c.col x=1
  ·rw[if_pos J]at he;cases he;have i:iL c.color x=1:=J;refine⟨d,?_⟩;simp only[aP,aE]at b⊢;refine bG.mk mixed a7 Tryz.func213 Fm Ψ b.obj fun s q=>?_;unfold A0;simp[aF];(repeat' first|refine ak ?_|simp[i]);(refine cJ.at (aP c) Ψ bv (Same.keys co co) bi bi ?_;simp[cM,aX,aY,aW,inObs,Pv.look,aP,aE,aF])
  rw[if_neg J]at he;have i:(iL c.color x==1)=false:=by simp;exact J
  have y:nA (c.grey x):=d.put Ω _;cases o:(c.grey x).shd x with
  |false=>rw[if_pos o]at he;cases he;have m:(dp x c.shaped).getD false=false:=o;refine⟨y,?_⟩;simp only[aP,aE]at b⊢;refine bG.mk mixed a7 Tryz.func213 Fm Ψ b.obj fun s q=>?_;unfold A0;simp[aF];(repeat' first|refine ak ?_|simp[g,i,m]);(refine cJ.at (aP ((c.grey x).black x)) Ψ bv (Same.keys (by simp[aP,aE,aF,bE.grey,bE.black]) (by simp[aP,aE,aF,bE.grey,bE.black])) (by simp only[aP,aE,aF,bE.grey,bE.black,b3,b6];exact aG) (by simp only[aP,aE,aF,bE.grey,bE.black,b3,b6];exact aG) ?_;simp[cM,aX,aY,aW,inObs,Pv.look,aP,aE,aF,bE.grey,bE.black])
  |true=>
   rw[if_neg (by simp[o]),n5]at he;have m:(dp x c.shaped).getD false=true:=o;obtain⟨⟨e,f⟩,D,l⟩:=he;simp only at l;obtain⟨j,key⟩:=Vq gS rW acP 243 [.ptr (.obj 712) 0,.eptr aF] (fun a=>by simp[gS,aE,aF,inObs,Pv.look]) rfl (fun a=>nA a.1) (AF (rM n)) (fun v a bu d h=>ai1 n z v a bu d h) _ _ _ y D;rw[show(c.grey x).shp x=(dp x c.shape).getD .nil from rfl]at key;cases f with
   |false=>simp at l;subst l;refine⟨j,?_⟩;simp only[aP,aE]at b⊢;refine bG.mk mixed a7 Tryz.func213 Fm Ψ b.obj fun s q=>?_;unfold A0;simp[aF];(repeat' first|refine ak ?_|simp[g,i,m]);(refine cx.ob (key) nH oJ oJ (by simp[inObs,Pv.look,gS,aE,aF,bE.grey]) ?_;rintro r t ⟨rfl,rfl⟩;refine⟨(Same.keys un un),?_⟩;simp[bW,gS,aE,aF,bE.grey]);(repeat' first|refine ak ?_|simp);(refine cJ.at (aP e) Ψ bv (Same.keys co co) bi bi ?_;simp[cM,aX,aY,aW,inObs,Pv.look,aP,aE,aF])
   |true=>
    rw[if_neg Ψ,gI]at l;obtain⟨⟨k,w⟩,B,rfl⟩:=l;obtain⟨z2,A,u⟩:=aiR aP cu Gv 244 [.eptr aF] (fun a=>by simp[aP,aE,aF,inObs,Pv.look]) rfl nA Av (fun v a p d h=>by simp only[Av,gI]at h;obtain⟨⟨r,E⟩,J,rfl⟩:=h;exact⟨d.rt J,(d.rt J r).1,Int.le_trans (d.rt J r).2 Ω⟩) (fun v a p _ h=>ai2 a v p h) _ _ _ j B
    rw[show bE.shp e x=(dp x e.shape).getD .nil from rfl]at u;refine⟨z2.put A _,?_⟩;simp only[aP,aE]at b⊢;refine bG.mk mixed a7 Tryz.func213 Fm Ψ b.obj fun s q=>?_;unfold A0;simp[aF];(repeat' first|refine ak ?_|simp[g,i,m]);(refine cx.ob (key) nH oJ oJ (by simp[inObs,Pv.look,gS,aE,aF,bE.grey]) ?_;rintro r t ⟨rfl,rfl⟩;refine⟨(Same.keys un un),?_⟩;simp[bW,gS,aE,aF,bE.grey]);(repeat' first|refine ak ?_|simp);(refine iY.ob (u) bv bv (Same.keys co co) bi bi ge ?_;simp[bW,aP,aE,aF]);(repeat' first|refine ak ?_|simp);(refine cJ.at (aP (({w with size:=fa x k w.size}:bE).black x)) Ψ bv (Same.keys (by simp[aP,aE,aF,bE.black]) (by simp[aP,aE,aF,bE.black])) (by simp only[aP,aE,aF,bE.black,b3,b6];exact aG) (by simp only[aP,aE,aF,bE.black,b3,b6];exact aG) ?_;simp[cM,aX,aY,aW,inObs,Pv.look,aP,aE,aF,bE.black])
def aiZ(n:Nat)(d:∀x c p,rJ n x c=some p->bG ar 214 [aF,.int .i64 x] (aP c) fun r a=>r=p.1.e/\a=aP p.2)
  (v:Int) (c:bE) (p:T×bE) (he:C0 (rJ n) v c=some p):bG ar 245 [.int .i64 v,.eptr aF] (aP c) fun r a=>r= .tuple [p.1.e,.bool true]/\a=aP p.2:=by
 have b:=cu c;simp only[C0,n5]at he;obtain⟨⟨r,e⟩,J,U⟩:=he;have key:=d _ _ _ U;simp only[aP,aE]at b⊢;refine bG.mk mixed a7 Tryz.func245 anf Ψ b.obj fun g f=>?_;unfold Sg;simp[aF];(repeat' first|refine ak ?_|simp);(refine iY.ob (s9 c v r e J) bv bv (Same.keys co co) bi bi ge ?_;simp[bW,aP,aE,aF]);(repeat' first|refine ak ?_|simp);(refine iY.ob (key) bv bv (Same.keys co co) bi bi ge ?_;simp[bW,aP,aE,aF]);(repeat' first|refine ak ?_|simp);(refine cJ.at (aP p.2) Ψ bv (Same.keys co co) bi bi ?_;simp[cM,aX,aY,aW,inObs,Pv.look,aP,aE,aF])
def kR(n:Int):bK ar 50 [.int .i64 n] (T.var n).e:=by refine br a7 Tryz.func50 anB fun a=>?_;unfold SC;simp;(with_reducible repeat' first|((first|apply bV|apply b0|apply bZ)<;>intro h<;>try simp at h)|refine ak ?_|simp);all_goals simp[bF,aX,aY,aW]
def aiY(n:Nat):∀(x:Int) (c:bE) (p:T×bE),rJ n x c=some p->bG ar 214 [aF,.int .i64 x] (aP c) fun r j=>r=p.1.e/\j=aP p.2:=by
 induction n with
 |zero=>intro x c p h;simp[rJ]at h
 |succ n l=>
  intro x c p he;have b:=cu c;simp only[rJ]at he;cases d:dp x c.full with
  |some t=>rw[d]at he;cases he;simp only[aP,aE]at b⊢;refine bG.mk mixed a7 Tryz.func214 Ow Ψ b.obj fun k g=>?_;unfold GN;simp[aF];(repeat' first|refine ak ?_|simp[d]);(refine cJ.at (aP c) Ψ bv (Same.keys co co) bi bi ?_;simp[cM,aX,aY,aW,inObs,Pv.look,aP,aE,aF])
  |none=>
   rw[d]at he;simp only at he;cases e:c.shd x with
   |false=>have f:(dp x c.shaped).getD false=false:=e;rw[if_pos e]at he;cases he;simp only[aP,aE]at b⊢;refine bG.mk mixed a7 Tryz.func214 Ow Ψ b.obj fun k g=>?_;unfold GN;simp[aF];(repeat' first|refine ak ?_|refine aI (kR _) ?_|refine aJ (kR _) ?_|simp[d,f]);(refine cJ.at (aP {c with full:=fa x (.var x) c.full}) Ψ bv (Same.keys co co) bi bi ?_;simp[cM,aX,aY,aW,inObs,Pv.look,aP,aE,aF])
   |true=>have f:(dp x c.shaped).getD false=true:=e;rw[if_neg (by simp[e]),gI]at he;obtain⟨⟨t,i⟩,J,rfl⟩:=he;have key:=aiD aP cu Gv 245 [.eptr aF] (fun a=>by simp[aP,aE,aF,inObs,Pv.look]) rfl (C0 (rJ n)) (fun v a p h=>aiZ n l v a p h) _ _ _ J;rw[show c.shp x=(dp x c.shape).getD .nil from rfl]at key;simp only[aP,aE]at b⊢;refine bG.mk mixed a7 Tryz.func214 Ow Ψ b.obj fun k g=>?_;unfold GN;simp[aF];(repeat' first|refine ak ?_|refine aI (kR _) ?_|refine aJ (kR _) ?_|simp[d,f]);(refine cx.ob (key) bv bi bi ge ?_;rintro r j ⟨rfl,rfl⟩;refine⟨(Same.keys co co),?_⟩;simp[bW,aP,aE,aF]);(repeat' first|refine ak ?_|simp);(refine cJ.at (aP {i with full:=fa x t i.full}) Ψ bv (Same.keys co co) bi bi ?_;simp[cM,aX,aY,aW,inObs,Pv.look,aP,aE,aF])
def aiF:bG ar 190 [] ⟨[],[]⟩ fun r a=>r=aF/\a=aP bE.new:=by have b:ea ⟨[],[]⟩:=ea.of wD Ψ Ψ;refine bG.mk mixed a7 Tryz.func190 ano Ψ b.obj fun d c=>?_;unfold Sq;simp;refine cJ.new (aP bE.new) (.inl rfl) (cu _) ⟨trivial,trivial⟩ (by simp only[aP,aE,bE.new];exact aG) (by simp only[aP,aE,bE.new];exact aG) ?_;simp[cM,aX,aY,aW,inObs,Pv.look,aP,aE,aF]
def aaS{a b:List Int}(h:a.Perm b):sD a=sD b:=by
 have aM:∀a b c:Int,(decide (a<=b))=true->(decide (b<=c))=true->(decide (a<=c))=true:=by intro a b c;simp;omega
 have d:∀a b:Int,(decide (a<=b)||decide (b<=a))=true:=by intro a b;simp;omega
 have J:=List.pairwise_mergeSort aM d a;have U:=List.pairwise_mergeSort aM d b;refine QV (le:=fun x y:Int=>(decide (x<=y))=true) (fun x y _ _ J U=>by simp at J U;omega) J U ?_;exact(List.mergeSort_perm a _).trans (h.trans (List.mergeSort_perm b _).symm)
def alc(l:List Int)(k:Nat)(st:bn):Prop:=∃(seen:List Nat) (xs:List Int),seen.Nodup/\(∀b∈seen,b<l.length)/\k=l.length-seen.length/\xs=seen.filterMap (fun b=>l[b]?)/\xs.length=seen.length/\st=⟨[(3,.row 1 (.obj 306) xs.length),(7,.ptr (.loc 0) 0)],[(.obj 304,pM l),(.loc 0,bX l.length seen (.obj 304))],[(.obj 306,⟨xs.length,3,1,some (dT xs)⟩)],1,[.obj 306,.obj 304]⟩
@[simp]def avw(xs:List Int):(dT xs).length=xs.length:=by simp[dT]
@[simp]def axT(xs:List Int):cR (dT xs)=dT xs:=by
 induction xs with
 |nil=>rfl
 |cons x r a=>simp only[dT,fG,cR,de]at a⊢;rw[a]
@[simp]def avx:dT []=[]:=rfl
def Nq(xs:List Int)(x:Int):dT xs++[ah.int .i64 x]=dT (xs++[x]):=by simp[dT]
def aiX(l:List Int)(u:l.length<=1000000):bG ar 212 [.gmap (.obj 304)] (vu l) fun r n=>r= .slice 1 .no (dT (sD l))/\n=vu l:=by
 have e:=Q5 l;unfold vu at e⊢;refine bG.mk mixed a7 Tryz.func212 anA Ψ e.obj fun w m=>?_;unfold SB;simp;refine vJ (alc l) l.length _ ⟨by simp[fresh,ay,au,bX,inObs,Pv.look,nP,uZ],dH (by simp[fresh,ay,au,bX,inObs,Pv.look,nP,uZ]),dK (by simp[fresh,ay,au,dD,inObs,Pv.look,nP,uZ]),Ψ⟩ ⟨[],[],Ψ,Ψ,Ψ,Ψ,Ψ,rfl⟩ ?_;rintro k st ⟨seen,xs,d,a,v,i,q,rfl⟩ o m;clear o m;have hle:=JM d a;simp;refine aeP (mk:= .obj 304) (seen:=seen) (l:=l) Ψ Ψ rfl (fun p=>?_) (fun b x g ae=>?_)
 ·simp;have h:=PM d a p;rw[<-i]at h;refine cx.ob (aiV 306 xs Ω) (Ks 306 xs) (by unfold oc;exact aG) (by unfold oc;exact aG) (by simp[oc,inObs,Pv.look]) ?_;rintro r n ⟨rfl,rfl⟩;refine⟨⟨fun _=>rfl,fun k=>by simp only[oc,Pv.look];split<;>rfl⟩,?_⟩;unfold oc;simp[bW,aaR];refine cJ.at _ (.inl rfl) e (Same.refl _) aG aG ?_;simp[cM,aX,aY,aW];rw[aaS h];simp[au,uZ]
 ·have s:∀f:aB->aZ (List ah),f (.loc 0)=some (bX l.length (seen++[b]) (.obj 304))->f (.obj 304)=some (pM l)->qO f (.ptr (.loc 0) 0)=some (True,.tuple [.int .i64 x,.bool true]):=fun f J U=>al7 f (.loc 0) (.obj 304) l.length seen b l x J U rfl g;have j:b<l.length:=(fp.1 g).1;have t:=PN d a j ae;simp[s,Nq];refine⟨by unfold lim;omega,?_⟩;refine bQ.next (l.length-(seen.length+1)) Ω ⟨seen++[b],xs++[x],Ol d ae,(by simp;intro c aA;rcases aA with aA|rfl;exact a c aA;exact j),Ψ,by rw[List.filterMap_append,<-i];simp[g],by simp[q],rfl⟩ ⟨by simp[fresh,ay,au,bX,inObs,Pv.look,nP,uZ],dH (by simp[fresh,ay,au,bX,inObs,Pv.look,nP,uZ]),dK (by simp[fresh,ay,au,dD,inObs,Pv.look,nP,uZ]),Ψ⟩
@[simp]def avL(S:aB->Prop)(xs:List Int):ay S (dT xs)=True:=eq_true (uZ S xs)
@[simp]def auo:cells .junk=[.junk]:=rfl
def SA:C:=(aa [e1 6 5,bs 7 false] (aa [ec 12 190 [],I 8 12] (.seq (aa [I 13 0,cd 14 13,bT 15 0] (fo 16 15 14 (.seq (.block 1 (aa [cq 17 5 13 15,bh 18 5 17,dV 10 kI,b1 5 10 18] (aa [I 19 8,aK 20 0 1 10,aw 21 1 20,ch 22 191 19 21] (aa [I 23 8,fY 24 1 4 10,bh 25 4 24,ch 26 192 23 25] (.seq (.drawn false 69 [I 27 8,aK 28 0 1 10,aw 29 1 28,cI 30 50 29,fY 31 1 4 10,bh 32 4 31,ec 33 193 [.t 27,.t 30,.t 32],cH 34 33]) (aU 34 (aa [e1 6 5,bs 7 false] .ret) .skip)))))) (.region [aS 35 .add 15 1,I 15 35])))) (.seq (aa [I 36 1,cd 37 36,bT 38 0] (.block 2 (.loop (aa [bp 39 .lss 38 37] (.seq (aU 39 .skip (.exit 2)) (.seq (.block 3 (aa [I 40 38,I 11 40] (aa [I 41 8,I 42 1,I 43 11,cq 44 4 42 43,bh 45 4 44,ch 46 192 41 45] (aa [I 47 8,I 48 2,I 49 11,cq 50 4 48 49,bh 51 4 50,ch 52 192 47 51] (.seq (.drawn false 69 [I 53 8,I 54 1,I 55 11,cq 56 4 54 55,bh 57 4 56,I 58 2,I 59 11,cq 60 4 58 59,bh 61 4 60,ec 62 193 [.t 53,.t 57,.t 61],cH 63 62]) (aU 63 (aa [e1 6 5,bs 7 false] .ret) .skip)))))) (.region [aS 64 .add 38 1,I 38 64]))))))) (aa [I 65 8,cI 66 194 65,dr 67 0 66,dr 68 1 66,I 6 67,I 7 68] .ret)))))
def Sf:C:=(aa [e1 2 5,bs 3 false] (aa [cU (.mkmap 12 (some 304)),I 4 12] (.seq (aa [I 13 0,fT 14 13,aK 15 0 1 14,aw 16 1 15,cU (.range 17 none (.t 16))] (.block 0 (.loop (aa [⟨none,.next 18 (.t 17)⟩,dr 19 0 18] (.seq (aU 19 .skip (.exit 0)) (.block 1 (aa [bH 20 (.ment (.t 17)),dr 21 0 20,I 5 21] (.region [I 22 4,I 23 5,cU (.mput .i (.t 22) (.t 23) (.c (.bool true)))])))))))) (aa [I 24 4,cI 25 212 24,I 6 25] (aa [cU (.bslm 26 none 5 74 []),I 7 26] (.seq (aa [I 27 6,cd 28 27,bT 29 0] (.block 2 (.loop (aa [bp 30 .lss 29 28] (.seq (aU 30 .skip (.exit 2)) (.seq (.block 3 (aa [cq 31 1 27 29,aw 32 1 31,I 9 32] (aa [I 33 0,I 34 9,ch 35 191 33 34,I 10 35] (.seq (aa [I 36 0,I 37 10,ch 38 213 36 37,cH 39 38] (aU 39 (aa [e1 2 5,bs 3 false] .ret) .skip)) (.seq (aa [I 40 10,I 41 9,bp 42 .eql 40 41,I 43 42,ck 43 true 44 0,ax 43 true (fT 45 44),ax 43 true (aK 46 2 1 45),ax 43 true (aw 47 1 46),ck 43 true 48 10,ax 43 true (bH 49 (.mget .i (.bool false) false (.t 47) (.t 48))),ax 43 true (cH 50 49),ei 51 43 50] (aU 51 (.exit 3) .skip)) (aa [I 52 7,I 53 9,lJ 54 kI [(0,1,(.t 53))],eE 55 5 74 [.t 54],cU (.appm 56 none 5 74 (.t 52) (.t 55)),I 7 56] (aa [I 57 0,fT 58 57,aK 59 4 1 58,aw 60 1 59,I 61 10,bH 62 (.mget .i (.int .i64 0) false (.t 60) (.t 61)),aS 63 .gtr 62 5000,I 64 63,ck 64 false 65 7,ax 64 false (cd 66 65),ax 64 false (aS 67 .gtr 66 400),dy 68 64 67] (aU 68 (aa [e1 2 5,bs 3 false] .ret) .skip)))))))) (.region [aS 69 .add 29 1,I 29 69]))))))) (.seq (aa [I 70 7,cd 71 70,bT 72 0] (.block 4 (.loop (aa [bp 73 .lss 72 71] (.seq (aU 73 .skip (.exit 4)) (.seq (.block 5 (aa [I 74 72,I 11 74] (.region [I 75 7,I 76 11,I 77 0,I 78 0,I 79 7,I 80 11,cq 81 5 79 80,aK 82 0 1 81,aw 83 1 82,ch 84 191 78 83,ch 85 214 77 84,cI 86 170 85,cq 87 5 75 76,fY 88 1 4 87,b1 4 88 86]))) (.region [aS 89 .add 72 1,I 72 89]))))))) (.seq (.pub 7 (.region [I 90 7,I 2 90,bs 3 true])) .ret))))))))
def anz:b4 aT SA [.tmp 6,.tmp 7] 3 Tryz.f169=true:=an
def ane:b4 aT Sf [.tmp 2,.tmp 3] 1 Tryz.f194=true:=an
def gO(o:aZ (List az)):ah:= .tuple [.slice 5 .no ((o.getD []).map az.e),.bool o.isSome]
def al9(f:aB->aZ (List ah))(fV mk:aB)(n:Nat)(seen:List Nat)(b:Nat)(l:List (Int×Int))(x:Int×Int)(hi:f fV=some (bX n (seen++[b]) mk))(hm:f mk=some (mj l))(a:n=l.length)(c:l[b]? =some x):qO f (.ptr fV 0)=some (True,.tuple [.int .i64 x.1,.int .i64 x.2]):=by rw[Ys f fV mk n seen b _ hi hm (by simpa using a)];simp[c]
def aeQ{st:bn}{d:Nat}{K:bn->Prop}{fV mk:aB}{n:Nat}{seen:List Nat}{l:List (Int×Int)}(hi:Pv.look fV st.b=some (bX n seen mk))(hm:Pv.look mk st.b=some (mj l))(c:n=l.length)
  (J:(∀b,b<l.length->b∈seen)->K {st with t:=Pv.put d (.tuple [.bool false]) st.t}) (U:∀b x,l[b]? =some x->b∉seen->K {st with t:=Pv.put d (.tuple [.bool true,.int .i64 x.1,.int .i64 x.2]) st.t,b:=cG fV (bX n (seen++[b]) mk) st.b}):
  uz st d (.ptr fV 0) K:=by
 refine UC hi hm (by simpa using c) (fun h=>J fun b ae=>h b Ω) (fun b k v ae f=>?_);simp only[List.getElem?_map,gI]at ae;obtain⟨x,e,a⟩:=ae;simp only[hW]at a;obtain⟨rfl,rfl⟩:=a;exact U b x e f
@[simp]def aw6(m:aB)(l:List (Int×Int)):Ag m (mj l)=some (bX l.length [] m):=by simp[mj,tH]
def oY(v:Int):ah:= .agg [.int .i64 v,.int .i64 0,.int .i64 0,.str [],.slice 4 .nil []]
@[simp]def alA(S:aB->Prop)(l:List Int):ay S (l.map oY)=True:=by
 apply eq_true;induction l with
 |nil=>simp[ay]
 |cons x r a=>simp only[fG,ay];exact⟨by simp[oY,au,ay],a⟩
@[simp]def av0(S:aB->Prop)(v:Int):au S (oY v)=True:=by simp[oY,au,ay]
@[simp]def axg(v:Int):fh (oY v)=true:=rfl
@[simp]def at7(v:Int):cells (oY v)=[.int .i64 v,.int .i64 0,.int .i64 0,.str [],.slice 4 .nil []]:=rfl
def aqv(v:Int)(f:Nat)(cs:List ah):nW (oY v) f cs= .agg (po [.int .i64 v,.int .i64 0,.int .i64 0,.str [],.slice 4 .nil []] f cs):=rfl
def kG{S:aB->Prop}:∀{a b:List ah},ay S (a++b)↔(ay S a/\ay S b)
 |[],b=>by simp[ay]
 |x::a,b=>by simp[ay,kG (a:=a),and_assoc]
@[simp]def avK(S:aB->Prop)(k:Nat)(l:List Int):ay S (n2 k (l.map oY))=True:=by rw[<-List.map_drop];exact alA S _
@[simp]def awg(S:aB->Prop)(o:aZ (List az)):au S (gO o)=True:=by simp[gO]
def KK(l:List Int)(v:Int):l.map oY++[.agg [.int .i64 v,.int .i64 0,.int .i64 0,.str [],.slice 4 .nil []]]=(l++[v]).map oY:=by simp[oY]
def ak8(c:bE)(k:Nat)(st:bn):Prop:=∃(seen:List Nat) (xs:List Int),seen.Nodup/\(∀b∈seen,b<c.up.length)/\k=c.up.length-seen.length/\xs=seen.filterMap (fun b=>(c.up[b]?).map (·.1))/\xs.length=seen.length/\st=⟨[(0,aF),(4,.gmap (.obj 304)),(17,.ptr (.loc 0) 0)],aE c++[(.obj 304,pM xs),(.loc 0,bX c.up.length seen (.obj 702))],[],1,[.obj 304,.obj 702,.obj 703,.obj 704,.obj 705,.obj 706,.obj 707]⟩
def aqH{c:bE}{seen:List Nat}(e:seen.Nodup)(d:∀b∈seen,b<c.up.length)(a:∀b,b<c.up.length->b∈seen):(seen.filterMap fun b=>(c.up[b]?).map (·.1)).Perm (cC c.up):=by have:=PM (l:=cC c.up) e (by simpa[cC]using d) (by simpa[cC]using a);simpa[cC]using this
def aqI{c:bE}(e:(cC c.up).Nodup){seen:List Nat}{b:Nat}(ae:b∉seen){x:Int×Int}(j:c.up[b]? =some x):x.1∉seen.filterMap fun b=>(c.up[b]?).map (·.1):=by
 intro hm;rw[List.mem_filterMap]at hm;obtain⟨cf,J,U⟩:=hm;obtain⟨y,i,k⟩:=gI.1 U;have f:(cC c.up)[b]? =some x.1:=by simp[cC,j]
 have g:(cC c.up)[cf]? =some x.1:=by simp[cC,i,k]
 have d:=(fp.1 f).1;have a:=(fp.1 g).1;have f1:=(fp.1 f).2;have f2:=(fp.1 g).2;rcases Nat.lt_trichotomy b cf with h|h|h
 ·exact q1.1 e b cf d a h (f1.trans f2.symm)
 ·subst h;exact ae J
 ·exact q1.1 e cf b a d h (f2.trans f1.symm)
def aiT(n:Nat)(c:bE)(o:aZ (List az))(he:FX n (sE (cC c.up)) c=some o)(xO:(cC c.up).Nodup)(hlen:c.up.length<=1000000)(bI:nA c):bG ar 194 [aF] (aP c) fun r w=>r=gO o/\∃cB,w=aP cB:=by
 have ag:=cu c;simp only[aP,aE]at ag⊢;refine bG.mk mixed a7 Tryz.func194 ane Ψ ag.obj fun aN cP=>?_;unfold Sf;simp[aF];have W:∀S:aB->Prop,ay S (kL []):=fun S=>nP S [];refine vJ (ak8 c) c.up.length _ ⟨by simp[fresh,ay,au,bX,inObs,Pv.look,nP,aF,aE,W],dH (by simp[fresh,ay,au,bX,inObs,Pv.look,nP,aF,aE,W]),dK (by simp[fresh,ay,au,dD,inObs,Pv.look,nP,aF,aE,W]),Ψ⟩ ⟨[],[],Ψ,Ψ,Ψ,Ψ,Ψ,rfl⟩ ?_;rintro k st ⟨seen,xs,p,E,ad,H,iw,rfl⟩ o6 cP;clear o6 cP;have hle:=JM p E;simp[aE,aF];refine aeQ (mk:= .obj 702) (seen:=seen) (l:=c.up) Ψ Ψ rfl (fun mE=>?_) (fun b x G ae=>?_);rotate_left
 ·have BJ:∀f:aB->aZ (List ah),f (.loc 0)=some (bX c.up.length (seen++[b]) (.obj 702))->f (.obj 702)=some (mj c.up)->qO f (.ptr (.loc 0) 0)=some (True,.tuple [.int .i64 x.1,.int .i64 x.2]):=fun f J U=>al9 f (.loc 0) (.obj 702) c.up.length seen b c.up x J U rfl G;have ed:b<c.up.length:=(fp.1 G).1;have lu:=PN p E ed ae;have kA:=aqI xO ae G;rw[<-H]at kA;simp[BJ,qn,kA];refine bQ.next (c.up.length-(seen.length+1)) Ω ⟨seen++[b],xs++[x.1],Ol p ae,(by simp;intro c aA;rcases aA with aA|rfl;exact E c aA;exact ed),Ψ,by rw[List.filterMap_append,<-H];simp[G],by simp[iw],rfl⟩ ⟨by simp[fresh,ay,au,bX,inObs,Pv.look,nP,aF,aE],dH (by simp[fresh,ay,au,bX,inObs,Pv.look,nP,aF,aE]),dK (by simp[fresh,ay,au,dD,inObs,Pv.look,nP,aF,aE]),Ψ⟩
 ·simp;have X:=aqH p E mE;rw[<-H]at X;have O:xs.length<=1000000:=Ω
  refine cx.ob (aiX xs O) (Q5 _) (by simp only[vu];exact aG) (by simp only[vu];exact aG) (by simp[inObs,vu,Pv.look]) ?_;rintro r w ⟨rfl,rfl⟩;refine⟨Same.refl _,?_⟩;have BR:sD xs=sE (cC c.up):=aaS X;rw[BR];obtain⟨bf,ju⟩:∃bf,bf=sE (cC c.up):=⟨_,rfl⟩;rw[<-ju]at he⊢;simp[vu,bW];simp only[FX,n5]at he;obtain⟨res,BB,s⟩:=he;have mf:bf.length<=1000000:=by rw[ju,(F0 _).length_eq];simpa[cC]using hlen
  refine gb (α:=bE×List Int) (fun i a=>⟨[(0,aF),(27,.slice 1 .no (dT bf)),(28,.int .i64 bf.length),(7,.row 5 (.loc 1) a.2.length),(29,.int .i64 i)],aE a.1,[(.loc 1,⟨a.2.length,74,5,some (a.2.map oY)⟩)],2,[.obj 702,.obj 703,.obj 704,.obj 705,.obj 706,.obj 707]⟩) bf.length (fun i a=>tW n (bf.drop i) a.1 a.2=some res/\nA a.1/\a.2.length<=400) (c,[]) (by simp[aF,aE];exact⟨by simp[fresh,ay,au,bX,inObs,Pv.look,nP,aF,aE],dH (by simp[fresh,ay,au,bX,inObs,Pv.look,nP,aF,aE]),dK (by simp[fresh,ay,au,dD,inObs,Pv.look,nP,aF,aE]),Ψ⟩) ⟨by simpa using BB,bI,Ψ⟩ ?_ ?_
  ·rintro⟨K,out⟩ ⟨J,U,F⟩ ae;simp only at J U F ae⊢;simp[tW]at J;subst J;simp only[gI]at s;obtain⟨⟨L,V⟩,Q,rfl⟩:=s;simp[aF,aE];refine gb (α:=bE×List az) (fun j a=>⟨[(0,aF),(7,.row 5 (.loc 1) out.length),(71,.int .i64 out.length),(72,.int .i64 j)],aE a.1,[(.loc 1,⟨out.length,74,5,some (a.2.map az.e++(out.drop j).map oY)⟩)],2,[.obj 702,.obj 703,.obj 704,.obj 705,.obj 706,.obj 707]⟩) out.length (fun j a=>a.2.length=j/\∃rest,Aw n (out.drop j) a.1=some (rest,V)/\a.2++rest=L) (K,[]) (by simp[aF,aE];exact⟨by simp[fresh,ay,au,bX,inObs,Pv.look,aF,aE],dH lw,dK md,Ψ⟩) ⟨rfl,L,by simpa using Q,rfl⟩ ?_ ?_
   ·rintro⟨c2,done⟩ ⟨m,rest,g,d⟩ ae;simp only at m g d ae⊢;simp[Aw]at g;obtain⟨rfl,rfl⟩:=g;simp at d;subst d;simp[aF,aE,m];refine cJ.at (aP c2) Ψ (cu _) (Same.keys tT tT) lm lm ?_;simp[cM,aX,aY,aW,aP,aE,gO];exact⟨c2,Ψ⟩
   ·rintro j ⟨c2,done⟩ y ⟨m,rest,g,d⟩ ae;simp only at m g d ae⊢;obtain⟨v,q⟩:∃v,out[j]? =some v:=⟨_,cl y⟩;have p:out.drop j=v::out.drop (j+1):=by rw[mu y];rw[cl y]at q;cases q;rfl
    rw[p]at g;simp only[Aw,n5,gI,hW]at g;obtain⟨⟨x,c3⟩,eh,⟨t,c4⟩,Z,⟨M,auy⟩,Y,rfl,rfl⟩:=g;simp only at Z Y;have key:=aiY n x c3 _ Z;rw[p];have hL:∀R,(done.map az.e++oY v::R)[j]? =some (oY v):=fun R=>by rw[List.getElem?_append_right gc];simp[m]
    have uR:∀R x,(done.map az.e++oY v::R).set j x=done.map az.e++x::R:=fun R x=>by rw[List.set_append_right _ _ gc];simp[m]
    simp[aF,aE];(repeat' first|refine ak ?_|simp[hL,y]);(refine cx.ob (s9 c2 v x c3 eh) bv bi bi ge ?_;rintro r w ⟨rfl,rfl⟩;refine⟨(Same.keys co co),?_⟩;simp[bW,aP,aE,aF]);(repeat' first|refine ak ?_|simp);(refine cx.ob (key) bv bi bi ge ?_;rintro r w ⟨rfl,rfl⟩;refine⟨(Same.keys co co),?_⟩;simp[bW,aP,aE,aF]);(repeat' first|refine ak ?_|refine aI (vl _) ?_|refine aJ (vl _) ?_|simp[hL,uR,y,aqv,-nW]);refine bQ.rng (c4,done++[⟨v,t⟩]) y ⟨by simp[m],M,Y,by simpa using d⟩ ?_;simp[aF,aE];exact⟨by simp[fresh,ay,au,bX,inObs,Pv.look,aF,aE,kG],dH (by simp[fresh,ay,au,bX,inObs,Pv.look,aF,aE,kG]),dK (by simp[fresh,ay,au,dD,inObs,Pv.look,aF,aE,kG]),Ψ⟩
  ·rintro i ⟨K,out⟩ hi ⟨J,U,F⟩ ae;simp only at J U F ae⊢;obtain⟨v,q⟩:∃v,bf[i]? =some v:=⟨_,cl hi⟩;have p:bf.drop i=v::bf.drop (i+1):=by rw[mu hi];rw[cl hi]at q;cases q;rfl
   rw[p]at J;simp only[tW,n5]at J;obtain⟨⟨x,c2⟩,m,⟨f,c3⟩,g,d⟩:=J;simp only at g d;obtain⟨z3,key⟩:=ai0 n x c2 _ g (U.rt m);have P:∀h,(dT bf)[i]'h= .int .i64 v:=fun h=>by rw[cl hi]at q;simp only[dz]at q;simp[dT,q]
   simp[aF,aE];(repeat' first|refine ak ?_|simp[P,hi]);(refine cx.ob (s9 K v x c2 m) bv bi bi ge ?_;rintro r w ⟨rfl,rfl⟩;refine⟨(Same.keys co co),?_⟩;simp[bW,aP,aE,aF]);(repeat' first|refine ak ?_|simp);(refine cx.ob (key) bv bi bi ge ?_;rintro r w ⟨rfl,rfl⟩;refine⟨(Same.keys co co),?_⟩;simp[bW,aP,aE,aF]);cases f with
   |false=>simp at d;subst d;simp at s;subst s;(repeat' first|refine ak ?_|simp);refine cJ.at (aP c3) Ψ (cu _) (Same.keys tT tT) lm lm ?_;simp[cM,aX,aY,aW,aP,aE,gO];exact⟨c3,Ψ⟩
   |true=>
    simp only[Bool.true_eq_false,if_false]at d;by_cases aA:x=v/\c3.shd x=false
    ·rw[if_pos aA]at d;obtain⟨N,ng⟩:=aA;subst N;have uQ:(dp x c3.shaped).getD false=false:=ng;(repeat' first|refine ak ?_|simp[uQ]);refine bQ.rng (c3,out) hi ⟨d,z3,F⟩ ?_;exact⟨by simp[fresh,ay,au,bX,inObs,Pv.look,aF,aE],dH lw,dK md,Ψ⟩
    ·rw[if_neg aA]at d;have WI:(x==v)=false\/((x==v)=true/\(dp x c3.shaped).getD false=true):=by
      by_cases e:x=v
      ·right;refine⟨by simp[e],?_⟩;cases aC:c3.shd x with
       |false=>exact absurd ⟨e,aC⟩ aA
       |true=>exact aC
      ·left;simp[e]
     by_cases D:5000<c3.sz x\/400<out.length+1
     ·rw[if_pos D]at d;cases d;simp at s;subst s;have h1:(decide (5000<iL c3.size x))=true\/(decide (5000<iL c3.size x)=false/\400<out.length+1):=by
       by_cases e:5000<iL c3.size x
       ·left;simp[e]
       ·right;exact⟨by simp[e],D.resolve_left e⟩
      have z:True:=trivial;have A:True:=trivial;rcases WI with u|⟨u,z⟩;all_goals
       rcases h1 with B|⟨B,A⟩
       all_goals
        ((repeat' first|refine ak ?_|simp[u,z,B,A]|((first|apply bV|apply b0|apply bZ)<;>intro h<;>try simp at h))<;>(try exact cA))
        refine cJ.at (aP c3) Ψ (cu _) (Same.keys tT tT) lm lm ?_
        simp[cM,aX,aY,aW,aP,aE,gO]
        exact⟨c3,Ψ⟩
     ·rw[if_neg D]at d;have B:decide (5000<iL c3.size x)=false:=by simp;exact Int.not_lt.1 fun h=>D (.inl h)
      have A:¬400<out.length+1:=fun h=>D (.inr h);have z:True:=trivial;rcases WI with u|⟨u,z⟩;all_goals
       ((repeat' first|refine ak ?_|simp[u,z,B,A]|((first|apply bV|apply b0|apply bZ)<;>intro h<;>try simp at h))<;>(try exact cA))
       all_goals try refine⟨by unfold lim;omega,?_⟩
       ((repeat' first|refine ak ?_|simp[u,z,B,A]|((first|apply bV|apply b0|apply bZ)<;>intro h<;>try simp at h))<;>(try exact cA))
       refine bQ.rng (c3,out++[v]) hi ⟨d,z3,by simp;omega⟩ ?_
       exact⟨by simp[fresh,ay,au,bX,inObs,Pv.look,aF,aE,KK,kG],dH (by simp[fresh,ay,au,bX,inObs,Pv.look,aF,aE,KK,kG]),dK (by simp[fresh,ay,au,dD,inObs,Pv.look,aF,aE,KK,kG]),Ψ⟩
def Ql:∀{a b:T},a.tm=b.tm->a=b:=by
 intro a;induction a with
 |pair x y d c=>intro b h;cases b<;>simp[T.tm]at h;rw[d h.1,c h.2]
 |_=>intro b h;cases b<;>simp[T.tm]at h⊢ <;>exact h
def acW(l:List dm):Prop:= ∃s:List az,l=s.map az.b/\rD s/\iX s/\h7 s
def Kx(l:List dm):Prop:= ∃s:List az,l=s.map az.b/\rD s/\gm s/\h7 s
def RC:∀{l:List dm},(∀b∈l,b.t.fits=true)->∃s:List az,l=s.map az.b/\Bm s
 |[],_=>⟨[],rfl,fun b ae=>by simp at ae⟩
 |b::l,h=>by
  obtain⟨s,J,U⟩:=RC (l:=l) fun c aA=>h c (by simp[aA]);obtain⟨x,a,d⟩:=bO.fits_ex (h b Ψ);refine⟨⟨b.v,x⟩::s,by rw[J];simp[az.b,a],fun c aA=>?_⟩;rcases gj.1 aA with rfl|aA
  ·exact d
  ·exact U c aA
def Kg{l:List dm}:AQ l↔acW l:=by
 constructor
 ·rintro⟨J,U⟩;obtain⟨s,rfl,r⟩:=RC (l:=l) fun b ae=>by obtain⟨i,hi,e⟩:=oS ae;exact(U i hi b (by rw[cl hi,e])).2.2
  have k:∀b∈s,b.t.ok=true/\b.t.size<=5000:=fun b ae=>by have:=r b ae;simpa[T.fit]using this
  refine⟨s,rfl,fun b ae=>⟨?_,(k b ae).1⟩,?_,by simpa using J,fun b ae=>(k b ae).2⟩
  ·obtain⟨i,hi,e⟩:=oS ae;have:=(U i (by simpa using hi) b.b (by simp[cl hi,e])).1;exact this
  ·rw[iX,q1];have a:∀i (h:i+1<s.length),s[i].v<s[i+1].v:=fun i h=>by have:=(U (i+1) (by simpa using h) s[i+1].b (by simp[cl h])).2.1 s[i].b Ω (by simp[cl (show i<s.length by omega)]);exact this
   have:∀(d i:Nat) (h:i+d+1<s.length),s[i].v<s[i+d+1].v:=by
    intro d;induction d with
    |zero=>intro i h;exact a i h
    |succ d o=>intro i h;have m:=o i Ω;have a2:=a (i+d+1) Ω;simp only[Nat.add_assoc]at m a2⊢;omega
   intro i j hi v t;have:=this (j-i-1) i Ω;simpa[show i+(j-i-1)+1=j from by omega]using this
 ·rintro⟨s,rfl,al,n,g⟩;refine⟨by simpa using g.1,fun i hi b ae=>?_⟩;simp only[List.getElem?_map,gI]at ae;obtain⟨c,aA,rfl⟩:=ae;have hm:=ev aA;refine⟨(al c hm).1,fun d u f=>?_,?_⟩
  ·simp only[List.getElem?_map,gI]at f;obtain⟨e,he,rfl⟩:=f;obtain⟨J,p⟩:=fp.1 he;obtain⟨U,q⟩:=fp.1 aA;have:=q1.1 n (i-1) i J U Ω;rw[p,q]at this;exact this
  ·show c.t.tm.fits=true;rw[bO.fits_T];simp[T.fit,(al c hm).2,g.2 c hm]
def xq(s:List az)(v:Int)(f:Bool):Bool:=if 0<=oi s v then false else f
def nC(s:List az)(b:az):Bool:=b.t.fold (xq s) true&& !(b.t.kind==1&&decide (b.v<=b.t.int))
def Vf{s:List az}(e:iX s)(t:T):∀f:Bool,t.fold (xq s) f=true↔f=true/\∀w,t.occ w=true->dC s w=none:=by
 induction t with
 |var n=>
  intro f;simp only[T.fold,T.occ,dW,xq];have:=Vb e n;by_cases h:0<=oi s n
  ·rw[if_pos h];constructor
   ·intro h;cases h
   ·rintro⟨_,U⟩;have:=this.2 (U n rfl);omega
  ·rw[if_neg h];exact⟨fun i=>⟨i,fun w hw=>by subst hw;exact this.1 Ω⟩,fun h=>h.1⟩
 |pair a b d c=>
  intro f;simp only[T.fold,d,c,T.occ,mR];constructor
  ·rintro⟨⟨J,U⟩,g⟩;exact⟨J,fun w hw=>hw.elim (U w) (g w)⟩
  ·rintro⟨J,U⟩;exact⟨⟨J,fun w hw=>U w (.inl hw)⟩,fun w hw=>U w (.inr hw)⟩
 |_=>intro f;simp[T.fold,T.occ]
def KM{s:List az}(c:iX s)(b:az):nC s b=true↔(∀w,b.t.occ w=true->dC s w=none)/\∀w,b.t= .var w->w<b.v:=by
 unfold nC;rw[cD,Vf c];simp only[true_and];refine and_congr_right fun _=>?_;constructor
 ·intro h w hw;have a:(b.t.kind==1)=true:=by rw[hw];rfl
  have hi:b.t.int=w:=by rw[hw];rfl
  rw[a,hi]at h;simpa using h
 ·intro h;cases a:(b.t.kind==1)with
  |false=>rfl
  |true=>
   obtain⟨w,hw⟩:∃w,b.t= .var w:=by
    cases e:b.t with
    |var w=>exact⟨w,rfl⟩
    |_=>rw[e]at a;simp at a
   have hi:b.t.int=w:=by rw[hw];rfl
   have:=h w hw;rw[hi];simpa using this
def aaQ{s:List az}(a:iX s):gm s↔∀b∈s,nC s b=true:=by
 constructor
 ·intro h b ae;exact(KM a b).2 ⟨h.free b ae,h.ori b ae⟩
 ·intro h;exact⟨a,fun b ae=>((KM a b).1 (h b ae)).1,fun b ae=>((KM a b).1 (h b ae)).2⟩
def p3{α:Type}(p:α->Bool)(s:List α)(i:Nat)(_:Unit):Prop:= ∀k b,k<i->s[k]? =some b->p b=true
def p3.step{α:Type}{p:α->Bool}{s:List α}{i:Nat}(h:p3 p s i ()){b:α}(ae:s[i]? =some b)(a:p b=true):p3 p s (i+1) ():=fun k c d aA=>by
 rcases(by omega:k<i\/k=i)with J|rfl
 ·exact h k c J aA
 ·rw[ae]at aA;cases aA;exact a
open Classical in
noncomputable def hs(l:List dm):Bool:=decide (Kx l)
def sG{l:List dm}:hs l=true↔Kx l:=by unfold hs;simp
def jA(f:Bool):cS:=⟨[(.obj 731,[.bool f])],[]⟩
def xa(f:Bool):ea (jA f):=by unfold jA;exact ea.of ⟨by intro m;simp[Pv.look],by intro m;simp[Pv.look]⟩ Ψ Ψ
def acM(a b:Bool):Same (jA a) (jA b):=Same.keys wl wl
def aip(s:List az)(a:s.length<=1000000)(v:Int)(f:Bool):bG ar 132 [.int .i64 v,.eptr (.slice 5 .no (s.map az.e)),.ptr (.obj 731) 0] (jA f) fun r d=>r= .tuple []/\d=jA (xq s v f):=by
 have b:=xa f;simp only[jA]at b⊢;by_cases h:0<=oi s v
 ·rw[xq,if_pos h];refine bG.mk mixed a7 Tryz.func132 YV Ψ b.obj fun e c=>?_;unfold KU;simp;(repeat' first|refine ak ?_|refine aI (vm s v a) ?_|refine aJ (vm s v a) ?_|simp[h]);(refine cJ.at (jA false) Ψ rc (Same.keys wl wl) n8 n8 ?_;simp[cM,aX,aY,aW,inObs,Pv.look,jA])
 ·rw[xq,if_neg h];refine bG.mk mixed a7 Tryz.func132 YV Ψ b.obj fun e c=>?_;unfold KU;simp;(repeat' first|refine ak ?_|refine aI (vm s v a) ?_|refine aJ (vm s v a) ?_|simp[h]);(refine cJ.at (jA f) Ψ rc (Same.keys wl wl) n8 n8 ?_;simp[cM,aX,aY,aW,inObs,Pv.look,jA])
def Qt(l:List dm):bK ar 82 [.slice 5 .no (l.map dm.e)] (.bool (hs l)):=by
 have p:=asg l;by_cases h:AQ l;rotate_left
 ·have m:hs l=false:=by unfold hs;simp only[hb];rintro⟨s,J,U,f,B⟩;exact h (Kg.2 ⟨s,J,U,f.asc,B⟩)
  rw[m];refine br a7 Tryz.func82 YU fun H=>?_;unfold KT;exact ca
 ·obtain⟨s,rfl,al,D,A⟩:=Kg.1 h;have F:s.length<=1000000:=by have:=A.1;omega
  have G:(s.map az.b).map dm.e=s.map az.e:=by rw[List.map_map];exact List.map_congr_left fun b _=>az.b_e b
  have m:hs (s.map az.b)=s.all (nC s):=by
   rw[rO,iW,sG,<-aaQ D];constructor
   ·rintro⟨z,J,U,f,B⟩;have:z=s:=by
     have n:∀a b:List az,a.map az.b=b.map az.b->a=b:=by
      intro a;induction a with
      |nil=>intro b ae;cases b<;>simp at ae⊢
      |cons x a E=>
       intro b ae;cases b with
       |nil=>simp at ae
       |cons y b=>simp only[fG,pA,az.b,dm.mk.injEq]at ae;rw[E b ae.2];have:=Ql ae.1.2;obtain⟨⟨K,_⟩,_⟩:=ae;cases x;cases y;simp_all
     exact(n _ _ J).symm
    rw[<-this];exact f
   ·intro f;exact⟨s,rfl,al,f,A⟩
  rw[m];rw[G]at p⊢;refine br a7 Tryz.func82 YU fun H=>?_;unfold KT;simp;((repeat' first|refine ak ?_|refine aI p ?_|refine aJ p ?_|simp[h]|((first|apply bV|apply b0|apply bZ)<;>intro h<;>try simp at h))<;>(try exact cA));refine gb (α:=Unit) (fun i _=>⟨[(1,.eptr (.slice 5 .no (s.map az.e))),(9,.slice 5 .no (s.map az.e)),(10,.int .i64 s.length),(11,.int .i64 i)],[],[],1,[]⟩) s.length (p3 (nC s) s) () bU (fun k b c=>Ω) (fun _ j _=>?_) (fun i _ hi j _=>?_)
  ·have:s.all (nC s)=true:=by rw[iW];intro b ae;obtain⟨k,c,e⟩:=oS ae;exact j k b c (by rw[cl c,e])
   rw[this];exact ca
  ·obtain⟨b,d⟩:∃b,s[i]? =some b:=⟨_,cl hi⟩;have u:∀h,(s[i]'h)=b:=fun h=>by rw[cl hi]at d;exact ft d
   have key:=Vp jA xa acM 132 [.eptr (.slice 5 .no (s.map az.e)),.ptr (.obj 731) 0] (fun a=>by simp[jA,inObs,Pv.look]) Ψ (xq s) (fun v a=>aip s F v a) b.t true;have t:nC s b=false->s.all (nC s)=false:=fun h=>by rw[Bool.eq_false_iff];intro w;rw[iW]at w;rw[w b (ev d)]at h;cases h
   simp[hi,u];(repeat' first|refine ak ?_|simp[u,hi]);(refine cx.ob (key) rc n8 n8 (by simp[inObs,Pv.look,jA]) ?_;rintro r z ⟨rfl,rfl⟩;refine⟨(Same.keys wl wl),?_⟩;simp[bW,jA]);generalize o:b.t.fold (xq s) true=q;have g:nC s b=(q&& !(b.t.kind==1&&decide (b.v<=b.t.int))):=by unfold nC;rw[o]
   cases q with
   |false=>rw[t (by rw[g];rfl)];exact ca
   |true=>
    cases c:(b.t.kind==1)with
    |false=>(repeat' first|refine ak ?_|simp[c]);refine bQ.rng () hi (j.step d (by rw[g,c];rfl)) ?_;exact bU
    |true=>
     by_cases hle:b.v<=b.t.int
     ·rw[t (by rw[g,c];simp[hle])];exact ca
     ·(repeat' first|refine ak ?_|simp[c,hle]);refine bQ.rng () hi (j.step d (by rw[g,c];simp[hle])) ?_;exact bU
@[simp]def avS(S:aB->Prop):ay S (kL [])=True:=eq_true (nP S [])
def aiS(n:Nat)(s:List az)(l r:List T)(M:l.length=r.length)(P:s.length<=1000000)(O:l.length<=1000000)(o:aZ (List az))(he:CT n (iv s++l.zip r)=some o)
  (hinv:∀c,q8 n (iv s++l.zip r) bE.new=some (true,c)->(cC c.up).Nodup/\c.up.length<=1000000/\nA c):bK ar 169 [.slice 5 .no (s.map az.e),.slice 4 .no (l.map T.e),.slice 4 .no (r.map T.e)] (gO o):=by
 obtain⟨E,q⟩:∃E,E=iv s++l.zip r:=⟨_,rfl⟩;rw[<-q]at he hinv;simp only[CT,n5]at he;obtain⟨fin,F,e⟩:=he;have hlen:E.length=s.length+l.length:=by rw[q];simp[iv,M]
 have z:∀i b,s[i]? =some b->E.drop i=(.var b.v,b.t)::E.drop (i+1):=fun i b ae=>by
  have hi:=(fp.1 ae).1;have a1:E[i]? =some (.var b.v,b.t):=by rw[q,rQ (by simp[iv];exact hi)];simp[iv,ae]
  rw[mu Ω];rw[cl Ω]at a1;simp only[dz]at a1;rw[a1]
 have A:∀i a b,l[i]? =some a->r[i]? =some b->E.drop (s.length+i)=(a,b)::E.drop (s.length+(i+1)):=fun i a b j ae=>by
  have hi:=(fp.1 j).1;have a1:E[s.length+i]? =some (a,b):=by rw[q,List.getElem?_append_right (by simp[iv])];simp[iv,List.getElem?_zip_eq_some,j,ae]
  rw[mu Ω];rw[cl Ω]at a1;simp only[dz]at a1;rw[a1];rfl
 refine br a7 Tryz.func169 anz fun R=>?_;unfold SA;simp;refine cx.new aiF (ea.of wD Ψ Ψ) (fun k cs h=>by simp[Pv.look]at h) (fun k cs h=>by simp[Pv.look]at h) Ψ ?_;rintro r0 s0 ⟨rfl,rfl⟩;refine⟨fun m hm=>.inr Ψ,?_⟩;simp[aP,aE,bW,aF];refine gb (α:=bE) (fun i c=>⟨[(1,.slice 4 .no (l.map T.e)),(2,.slice 4 .no (r.map T.e)),(8,aF),(13,.slice 5 .no (s.map az.e)),(14,.int .i64 s.length),(15,.int .i64 i)],aE c,[],0,[.obj 702,.obj 703,.obj 704,.obj 705,.obj 706,.obj 707]⟩) s.length (fun i c=>q8 n (E.drop i) c=some fin) bE.new (by simp[aF,aE];exact⟨by simp[fresh,ay,au,bX,inObs,Pv.look,aF,aE,bE.new],dH (by simp[fresh,ay,au,bX,inObs,Pv.look,aF,aE,bE.new]),dK (by simp[fresh,ay,au,dD,inObs,Pv.look,aF,aE,bE.new]),Ψ⟩) (by simpa using F) ?_ ?_
 ·rintro c J ae;simp[aF,aE];refine gb (α:=bE) (fun i c=>⟨[(1,.slice 4 .no (l.map T.e)),(2,.slice 4 .no (r.map T.e)),(8,aF),(37,.int .i64 l.length),(38,.int .i64 i)],aE c,[],0,[.obj 702,.obj 703,.obj 704,.obj 705,.obj 706,.obj 707]⟩) l.length (fun i c=>q8 n (E.drop (s.length+i)) c=some fin) c (by simp[aF,aE];exact⟨by simp[fresh,ay,au,bX,inObs,Pv.look,aF,aE],dH lw,dK md,Ψ⟩) J ?_ ?_
  ·rintro g J ae;rw[List.drop_eq_nil_of_le Ω]at J;simp[q8]at J;subst J;simp at e;obtain⟨H,L,K⟩:=hinv g F;simp[aF,aE];refine cx.ob (aiT n g o e H L K) (cu _) lm lm ge ?_;rintro r0 s0 ⟨rfl,Q,rfl⟩;refine⟨Same.keys tT tT,?_⟩;simp[bW,aP,aE,gO];exact ca
  ·rintro i c hi J ae;simp only at J ae⊢;obtain⟨a,j⟩:∃a,l[i]? =some a:=⟨_,cl hi⟩;obtain⟨b,w⟩:∃b,r[i]? =some b:=⟨_,cl Ω⟩;have v:∀h,(l[i]'h)=a:=fun h=>by rw[cl hi]at j;exact ft j
   have y:∀h,(r[i]'h)=b:=fun h=>by rw[cl h]at w;exact ft w
   have u:i<r.length:=Ω
   rw[A i a b j w]at J;simp only[q8,n5]at J;obtain⟨g,U,c2,t,⟨f,c3⟩,p,d⟩:=J;simp only at p d;have key:=Vr n _ _ _ _ p;simp[aF,aE];(repeat' first|refine ak ?_|simp[v,y,hi,u]);(refine cx.ob (L9 c a g U) bv bi bi ge ?_;rintro r B ⟨rfl,rfl⟩;refine⟨(Same.keys co co),?_⟩;simp[bW,aP,aE,aF]);(repeat' first|refine ak ?_|simp[v,y,hi,u]);(refine cx.ob (L9 g b c2 t) bv bi bi ge ?_;rintro r B ⟨rfl,rfl⟩;refine⟨(Same.keys co co),?_⟩;simp[bW,aP,aE,aF]);(repeat' first|refine ak ?_|simp[v,y,hi,u]);(refine iY.ob (key) bv bv (Same.keys co co) bi bi ge ?_;simp[bW,aP,aE,aF]);cases f with
   |false=>simp at d;subst d;simp at e;subst e;(repeat' first|refine ak ?_|simp);simp[bF,aX,aY,aW];simp[gO]
   |true=>simp at d;(repeat' first|refine ak ?_|simp);refine bQ.rng c3 hi d ?_;simp[aF,aE];exact⟨by simp[fresh,ay,au,bX,inObs,Pv.look,aF,aE],dH lw,dK md,Ψ⟩
 ·rintro i c hi J ae;simp only at J ae⊢;obtain⟨b,N,G⟩:=dX hi;rw[z i b N]at J;simp only[q8,n5]at J;obtain⟨g,U,c2,t,⟨f,c3⟩,p,d⟩:=J;simp only[Cb,T.foldO,gI]at U;obtain⟨⟨x,D⟩,U,rfl⟩:=U;simp only at U t p d;have key:=Vr n _ _ _ _ p;simp[aF,aE];(repeat' first|refine ak ?_|simp[G,hi]);(refine cx.ob (s9 c b.v x D U) bv bi bi ge ?_;rintro r B ⟨rfl,rfl⟩;refine⟨(Same.keys co co),?_⟩;simp[bW,aP,aE,aF]);(repeat' first|refine ak ?_|simp);(refine cx.ob (L9 D b.t c2 t) bv bi bi ge ?_;rintro r B ⟨rfl,rfl⟩;refine⟨(Same.keys co co),?_⟩;simp[bW,aP,aE,aF]);(repeat' first|refine ak ?_|refine aI (kR _) ?_|refine aJ (kR _) ?_|simp);(refine iY.ob (key) bv bv (Same.keys co co) bi bi ge ?_;simp[bW,aP,aE,aF]);cases f with
  |false=>simp at d;subst d;simp at e;subst e;(repeat' first|refine ak ?_|simp);simp[bF,aX,aY,aW];simp[gO]
  |true=>simp at d;(repeat' first|refine ak ?_|simp);refine bQ.rng c3 hi d ?_;simp[aF,aE];exact⟨by simp[fresh,ay,au,bX,inObs,Pv.look,aF,aE],dH lw,dK md,Ψ⟩
def as1(s:List az)(l r:List T)(m:l.length=r.length)(q:gm s)(p:h7 s)(al:rD s)(g:l.length<=1000000)(J:∀t∈l,t.ok=true)(U:∀t∈r,t.ok=true):
  bK ar 169 [.slice 5 .no (s.map az.e),.slice 4 .no (l.map T.e),.slice 4 .no (r.map T.e)] (gO (mgu s (l.zip r))):=by
 have d:∀e∈iv s++l.zip r,e.1.ok=true/\e.2.ok=true:=fun e he=>by
  rcases j0.1 he with he|he
  ·obtain⟨b,ae,rfl⟩:=iA.1 he;have:=al b ae;exact⟨by simpa[T.ok]using this.1,this.2⟩
  ·exact⟨J _ (List.of_mem_zip he).1,U _ (List.of_mem_zip he).2⟩
 have h:Om (iv s++l.zip r):=fun e he v a=>by
  rcases a with a|a
  ·exact(yw (d e he).1 a).1
  ·exact(yw (d e he).2 a).1
 obtain⟨n,o,i,k,j⟩:=aq6 _ h;rw[tK (acU.1 k)];refine aiS n s l r m (by have:=p.1;omega) g o i fun c aA=>?_;obtain⟨f,a2,a3⟩:=j c aA;have:=XF f fun v a=>by
  obtain⟨e,he,a⟩:=a2 v a;rcases a with a|a
  ·exact yw (d e he).1 a
  ·exact yw (d e he).2 a
 refine⟨f,by simp[cC]at this;omega,fun x=>?_⟩;simp[bE.sz,a3,dp]
structure e7 (s:List az):Prop where
 ok:rD s
 sol:gm s
 fits:h7 s
def e7.len{s:List az}(h:e7 s):s.length<=1000000:=by have:=h.fits.1;omega
def e7.fit{s:List az}(h:e7 s):Bm s:=fun b ae=>by simp[T.fit,(h.ok b ae).2,h.fits.2 b ae]
def e7.mgu{s:List az}(h:e7 s){E:List (T×T)}(b:∀e∈E,e.1.ok=true/\e.2.ok=true){a:List az}(hm:mgu s E=some a):e7 a:=⟨ami h.sol h.fits h.ok b hm,(Cc h.sol h.fits hm).1,(Cc h.sol h.fits hm).2⟩
def zX(s:List az):(s.map az.b).map dm.e=s.map az.e:=by rw[List.map_map];exact List.map_congr_left fun b _=>az.b_e b
def rI{s:List az}(h:e7 s):bK ar 82 [.slice 5 .no (s.map az.e)] (.bool true):=by have:=Qt (s.map az.b);rw[zX,sG.2 ⟨s,rfl,h.ok,h.sol,h.fits⟩]at this;exact this
def alq(t:List az)(i:Nat)(p:List T×List T):Prop:=p.1=(t.take i).map (fun b=>T.var b.v)/\p.2=(t.take i).map (·.t)
def abG(t:List az)(aM:t.length<=1000000):bK ar 48 [.slice 5 .no (t.map az.e)] (.tuple [.slice 4 .no ((t.map fun b=>T.var b.v).map T.e),.slice 4 .no ((t.map (·.t)).map T.e)]):=by
 generalize bg:((t.map fun b=>T.var b.v).map T.e)=R1;generalize d:((t.map fun x=>x.t).map T.e)=R2;have g:∀S:aB->Prop,ay S R1=True:=fun S=>by rw[<-bg];exact E0 S _
 have f:∀S:aB->Prop,ay S R2=True:=fun S=>by rw[<-d];exact E0 S _
 refine bK.mk mixed a7 Tryz.func48 anj Ψ (by simp[au,g,f]) fun m=>?_;unfold Sk;simp;refine gb (α:=List T×List T) (fun i p=>⟨[(10,.slice 5 .no (t.map az.e)),(11,.int .i64 t.length),(4,.slice 4 (.own (.loc 0)) (p.1.map T.e)),(5,.slice 4 (.own (.loc 1)) (p.2.map T.e)),(12,.int .i64 i)],[],[(.loc 0,⟨p.1.length,71,4,none⟩),(.loc 1,⟨p.2.length,71,4,none⟩)],2,[]⟩) t.length (alq t) ([],[]) bU ⟨Ψ,Ψ⟩ (fun p a _=>?_) (fun i p hi a _=>?_)
 ·obtain⟨A,B⟩:=p;obtain⟨bj,hB⟩:=a;simp only at bj hB⊢;rw[gv (e2 _)]at bj hB;rw[<-bg,<-d,<-bj,<-hB];simp;(repeat' first|refine ak ?_|simp);simp[bF,aX,aY,aW]
 ·obtain⟨A,B⟩:=p;obtain⟨bj,hB⟩:=a;simp only at bj hB⊢;obtain⟨b,l,e⟩:=dX hi;have c:t.take (i+1)=t.take i++[b]:=by rw[pC,l];rfl
  have k:A.length<=1000000:=by rw[bj];simp;omega
  have j:B.length<=1000000:=by rw[hB];simp;omega
  simp[hi,e];((repeat' first|refine ak ?_|refine aI (kR _) ?_|refine aJ (kR _) ?_|simp[e,hi]|((first|apply bV|apply b0|apply bZ)<;>intro h<;>try simp at h))<;>(try exact cA));all_goals try refine⟨by unfold lim;omega,?_⟩
  (repeat' first|refine ak ?_|simp);all_goals try refine⟨by unfold lim;omega,?_⟩
  (repeat' first|refine ak ?_|simp);refine bQ.rng (A++[.var b.v],B++[b.t]) hi ⟨by rw[c,bj];simp,by rw[c,hB];simp⟩ ?_;simp;exact⟨by simp[fresh,ay,au,bX,inObs,Pv.look,kG],dH jp,dK kO,Ψ⟩
def ar6{s t:List az}(a:e7 s)(aM:e7 t):bK ar 138 [.slice 5 .no (s.map az.e),.slice 5 .no (t.map az.e)] (gO (mgu s (iv t))):=by
 have d:(t.map fun b=>T.var b.v).zip (t.map (·.t))=iv t:=by rw[iv,List.zip_map']
 have key:=as1 s (t.map fun b=>T.var b.v) (t.map (·.t)) Ψ a.sol a.fits a.ok (by simpa using aM.len) (fun x c=>by
  obtain⟨b,ae,rfl⟩:=iA.1 c;have:=aM.ok b ae;simpa[T.ok]using this.1) (fun x c=>by
  obtain⟨b,ae,rfl⟩:=iA.1 c;exact(aM.ok b ae).2)
 rw[d]at key;have heq:=abG t aM.len;generalize (t.map fun b=>T.var b.v)=A at key heq;generalize (t.map fun x=>x.t)=B at key heq;refine br a7 Tryz.func138 amV fun e=>?_;unfold RV;simp;(repeat' first|refine ak ?_|refine aI (rI a) ?_|refine aJ (rI a) ?_|refine aI (rI aM) ?_|refine aJ (rI aM) ?_|refine aI heq ?_|refine aJ heq ?_|refine aI key ?_|refine aJ key ?_|simp);simp[bF,aX,aY,aW];simp[gO]
def sJ{α:Type}{t:List α}{i:Nat}{b:α}(a:t[i]? =some b):t.take (i+1)=t.take i++[b]:=by rw[pC,a];rfl
def hk(s t:List az):List az:=t.filter fun b=>(dC s b.v).isNone
def sn(s t:List az)(i:Nat)(out:List az):Prop:=out=hk s (t.take i)
def asb{s t:List az}(a:e7 s)(aM:e7 t):bK ar 139 [.slice 5 .no (s.map az.e),.slice 5 .no (t.map az.e)] (.slice 5 .no ((hk s t).map az.e)):=by
 have h:=aM.len;generalize bg:hk s t=R;refine br a7 Tryz.func139 am0 fun k=>?_;unfold R0;simp;(repeat' first|refine ak ?_|refine aI (rI a) ?_|refine aJ (rI a) ?_|refine aI (rI aM) ?_|refine aJ (rI aM) ?_|simp);refine gb (α:=List az) (fun i out=>⟨[(0,.slice 5 .no (s.map az.e)),(17,.slice 5 .no (t.map az.e)),(18,.int .i64 t.length),(5,.slice 5 (.own (.loc 0)) (out.map az.e)),(19,.int .i64 i)],[],[(.loc 0,⟨out.length,74,5,none⟩)],1,[]⟩) t.length (sn s t) [] bU (by simp[sn,hk]) (fun out c _=>?_) (fun i out hi c _=>?_)
 ·rw[sn,gv (e2 _),bg]at c;rw[<-c];exact ca
 ·obtain⟨b,g,d⟩:=dX hi;have j:out.length<=1000000:=by
   have:out.length<=(t.take i).length:=by rw[c];exact List.length_filter_le _ _
   simp at this;omega
  have f:=Vb a.sol.asc b.v;simp[hi,d];by_cases ae:oi s b.v<0
  ·(repeat' first|refine ak ?_|refine aI (vm s b.v a.len) ?_|refine aJ (vm s b.v a.len) ?_|refine aI (vl _) ?_|refine aJ (vl _) ?_|simp[d,hi,ae]);all_goals try refine⟨by unfold lim;omega,?_⟩
   (repeat' first|refine ak ?_|simp);refine bQ.rng (out++[b]) hi (by rw[sn,sJ g,hk,List.filter_append,c];simp[hk,f.1 ae]) ?_;simp;exact⟨by simp[fresh,ay,au,bX,inObs,Pv.look,kG],dH jp,dK kO,Ψ⟩
  ·(repeat' first|refine ak ?_|refine aI (vm s b.v a.len) ?_|refine aJ (vm s b.v a.len) ?_|simp[d,hi,ae]);refine bQ.rng out hi (by
    have:dC s b.v≠none:=fun e=>ae (f.2 e);rw[sn,sJ g,hk,List.filter_append,c];cases e:dC s b.v with
    |none=>exact absurd e this
    |some x=>simp[hk,e]) ?_
   exact bU
def Ii(t:List az)(i:Nat)(out:List az):Prop:=out=t.take i
def abB(t:List az)(aM:t.length<=1000000):bK ar 141 [.slice 5 .no (t.map az.e)] (.slice 5 .no (t.map az.e)):=by
 refine br a7 Tryz.func141 anh fun f=>?_;unfold Si;simp;refine gb (α:=List az) (fun i out=>⟨[(7,.slice 5 .no (t.map az.e)),(8,.int .i64 t.length),(3,.slice 5 (.own (.loc 0)) (out.map az.e)),(9,.int .i64 i)],[],[(.loc 0,⟨out.length,74,5,none⟩)],1,[]⟩) t.length (Ii t) [] bU (by simp[Ii]) (fun out a _=>?_) (fun i out hi a _=>?_)
 ·rw[Ii,gv (e2 _)]at a;subst a;exact ca
 ·obtain⟨b,d,c⟩:=dX hi;have e:out.length<=1000000:=by rw[a];simp;omega
  simp[hi,c];(repeat' first|refine ak ?_|refine aI (vl _) ?_|refine aJ (vl _) ?_|simp[c,hi]);all_goals try refine⟨by unfold lim;omega,?_⟩
  (repeat' first|refine ak ?_|simp);refine bQ.rng (out++[b]) hi (by rw[Ii,sJ d,a]) ?_;simp;exact⟨by simp[fresh,ay,au,bX,inObs,Pv.look,kG],dH jp,dK kO,Ψ⟩
def tJ(t:List az)(b:az):Bool:=decide (cQ t b.v=b.t.ap (cQ t))
def oE(s t:List az):Bool:=s.all (tJ t)
def FU{t:List az}(aM:e7 t)(v:Int):(cQ t v).size<=5000:=by
 unfold cQ;cases e:dC t v with
 |none=>simp[T.size]
 |some x=>exact aM.fits.2 _ (kX e)
def abV(s:List az){t:List az}(q:s.length<=1000000)(aM:e7 t):bK ar 174 [.slice 5 .no (s.map az.e),.slice 5 .no (t.map az.e)] (.bool (oE s t)):=by
 refine br a7 Tryz.func174 ann fun r=>?_;unfold Sp;simp;refine eH [1,11,12] (fun i (_:Unit)=>[(13,.int .i64 i)]) s.length (p3 (tJ t) s) () bU (fun k b j=>Ω) (fun _ g _=>?_) (fun i _ hi g _=>?_)
 ·have:oE s t=true:=by rw[oE,iW];intro b ae;obtain⟨k,j,e⟩:=oS ae;exact g k b j (by rw[cl j,e])
  rw[this];exact ca
 ·obtain⟨b,o,f⟩:=dX hi;have m:tJ t b=false->oE s t=false:=fun h=>by rw[Bool.eq_false_iff];intro n;rw[oE,iW]at n;rw[n b (ev o)]at h;cases h
  have a:=Ke t (.var b.v) aM.len aM.sol.asc aM.fit;have c:=Ke t b.t aM.len aM.sol.asc aM.fit;have l:=FU aM b.v;have p:((T.var b.v).ap (cQ t)).size<=5000:=l;rw[if_pos p,lL p]at a;rw[show(T.var b.v).ap (cQ t)=cQ t b.v from rfl]at a;simp[hi,f];by_cases d:(b.t.ap (cQ t)).size<=5000
  ·rw[if_pos d,lL d]at c;by_cases he:cQ t b.v=b.t.ap (cQ t)
   ·rw[he]at a;((repeat' first|refine ak ?_|refine aI (kR _) ?_|refine aJ (kR _) ?_|refine aI a ?_|refine aJ a ?_|refine aI c ?_|refine aJ c ?_|refine aI (uc _ _) ?_|refine aJ (uc _ _) ?_|simp[f,hi,he]|((first|apply bV|apply b0|apply bZ)<;>intro h<;>try simp at h))<;>(try exact cA));exact bQ.rng () hi (g.step o (by simp[tJ,he])) bU
   ·rw[m (by simp[tJ,he])];((repeat' first|refine ak ?_|refine aI (kR _) ?_|refine aJ (kR _) ?_|refine aI a ?_|refine aJ a ?_|refine aI c ?_|refine aJ c ?_|refine aI (uc _ _) ?_|refine aJ (uc _ _) ?_|simp[f,hi,he]|((first|apply bV|apply b0|apply bZ)<;>intro h<;>try simp at h))<;>(try exact cA));simp[bF,aX,aY,aW]
  ·rw[if_neg d,l0 d]at c;rw[m (by simp only[tJ,hb];intro e;rw[<-e]at d;exact d l)];((repeat' first|refine ak ?_|refine aI (kR _) ?_|refine aJ (kR _) ?_|refine aI a ?_|refine aJ a ?_|refine aI c ?_|refine aJ c ?_|refine aI (uc _ _) ?_|refine aJ (uc _ _) ?_|simp[f,hi]|((first|apply bV|apply b0|apply bZ)<;>intro h<;>try simp at h))<;>(try exact cA));simp[bF,aX,aY,aW]
def E3(c:az->az->Int):∀a b:List az,a=[]\/b=[]->kJ c a b=e6 a.length b.length
 |[],[],_=>by simp[kJ,e6]
 |[],_::_,_=>by simp[kJ,e6]<;>omega
 |_::_,[],_=>by simp[kJ,e6]<;>omega
 |_::_,_::_,h=>by simp at h
def Zg(x y:az)(xs ys:List az):e5 (x::xs) (y::ys)=if e6 x.v y.v=0 then(if e0 x.t y.t=0 then e5 xs ys else e0 x.t y.t)else e6 x.v y.v:=by
 by_cases a:e6 x.v y.v=0
 ·by_cases b:e0 x.t y.t=0<;>simp[e5,kJ,Ab,a,b]
 ·simp[e5,kJ,Ab,a]
def Zh(a b k:Int):e6 (a-k) (b-k)=e6 a b:=by unfold e6;(repeat' split)<;>omega
def Ns(d e:List az)(i:Nat):Prop:=i<=d.length/\i<=e.length/\e5 (d.drop i) (e.drop i)=e5 d e
def Kc(d e:List az):bK ar 173 [.slice 5 .no (d.map az.e),.slice 5 .no (e.map az.e)] (.int .i64 (e5 d e)):=by
 generalize bg:e5 d e=R;refine br a7 Tryz.func173 anq fun m=>?_;unfold Ss;have q:d.length<=68719476736:=by simp[eV,eN,eS,lim]at m;omega
 have he:e.length<=68719476736:=by simp[eV,eN,eS,lim]at m;omega
 simp;refine xt [0,1] (fun(i:Nat)=>[(5,.int .i64 i)]) (fun i=>d.length-i) (Ns d e) 0 bU ⟨Ω,Ω,Ψ⟩ (fun i o _=>?_);obtain⟨J,U,a⟩:=o;rw[bg]at a;by_cases hi:i<d.length
 ·by_cases b:i<e.length
  ·obtain⟨x,k⟩:∃x,d[i]? =some x:=⟨_,cl hi⟩;obtain⟨y,l⟩:∃y,e[i]? =some y:=⟨_,cl b⟩;have f:∀h,(d[i]'h)=x:=fun h=>by rw[cl hi]at k;exact ft k
   have c:∀h,(e[i]'h)=y:=fun h=>by rw[cl b]at l;exact ft l
   have n:d.drop i=x::d.drop (i+1):=by rw[mu hi,f]
   have p:e.drop i=y::e.drop (i+1):=by rw[mu b,c]
   rw[n,p]at a;rw[Zg]at a;simp[hi,b,f,c];by_cases g:e6 x.v y.v=0
   ·rw[if_pos g]at a;by_cases j:e0 x.t y.t=0
    ·rw[if_pos j]at a;(repeat' first|refine ak ?_|refine aI (pt _ _) ?_|refine aJ (pt _ _) ?_|refine aI (CZ _ _) ?_|refine aJ (CZ _ _) ?_|simp[f,c,hi,b,g,j]);refine bQ.whl (i+1) Ω ⟨Ω,Ω,by rw[bg];exact a⟩ ?_;exact bU
    ·rw[if_neg j]at a;((repeat' first|refine ak ?_|refine aI (pt _ _) ?_|refine aJ (pt _ _) ?_|refine aI (CZ _ _) ?_|refine aJ (CZ _ _) ?_|simp[f,c,hi,b,g,j]|((first|apply bV|apply b0|apply bZ)<;>intro h<;>try simp at h))<;>(try exact cA));simp[bF,aX,aY,aW];exact a
   ·rw[if_neg g]at a;((repeat' first|refine ak ?_|refine aI (pt _ _) ?_|refine aJ (pt _ _) ?_|simp[f,c,hi,b,g]|((first|apply bV|apply b0|apply bZ)<;>intro h<;>try simp at h))<;>(try exact cA));simp[bF,aX,aY,aW];exact a
  ·have:e6 d.length e.length=R:=by rw[<-a,e5,E3 _ _ _ (.inr (List.drop_eq_nil_of_le Ω))];rw[<-Zh d.length e.length i];simp only[sO];congr 1<;>omega
   simp[hi,b];(repeat' first|refine ak ?_|refine aI (pt _ _) ?_|refine aJ (pt _ _) ?_|simp[hi,b]);simp[bF,aX,aY,aW];exact this
 ·have:e6 d.length e.length=R:=by rw[<-a,e5,E3 _ _ _ (.inl (List.drop_eq_nil_of_le Ω))];rw[<-Zh d.length e.length i];simp only[sO];congr 1<;>omega
  simp[hi];(repeat' first|refine ak ?_|refine aI (pt _ _) ?_|refine aJ (pt _ _) ?_|simp[hi]);simp[bF,aX,aY,aW];exact this
def abF(a b:List az)(w:a.length<=1000000):bK ar 142 [.slice 5 .no (a.map az.e),.slice 5 .no (b.map az.e)] (.bool (decide (a=b))):=by
 by_cases r:a.length=b.length;rotate_left
 ·have s:decide (a=b)=false:=by simp only[hb];rintro rfl;exact r rfl
  have u:((a.length:Int) !=(b.length:Int))=true:=by simp;omega
  have v:¬(a.length:Int)=b.length:=Ω
  rw[s];refine br a7 Tryz.func142 YZ fun t=>?_;unfold KY;exact ca
 ·generalize bg:decide (a=b)=R;refine br a7 Tryz.func142 YZ fun t=>?_;unfold KY;simp;(repeat' first|refine ak ?_|simp[r]);refine eH [0,1,12] (fun i (_:Unit)=>[(13,.int .i64 i)]) b.length (fun i (_:Unit)=> ∀k,k<i->a[k]? =b[k]?) () bU (fun k p=>Ω) (fun _ o _=>?_) (fun i _ hi o _=>?_)
  ·have:R=true:=by
    rw[<-bg,e3];apply List.ext_getElem?;intro k;by_cases p:k<b.length
    ·exact o k p
    ·rw[rR Ω,rR Ω]
   rw[this];exact ca
  ·obtain⟨x,g⟩:∃x,a[i]? =some x:=⟨_,cl Ω⟩;obtain⟨y,d⟩:∃y,b[i]? =some y:=⟨_,cl hi⟩;have f:i<a.length:=Ω
   have m:∀h,(a[i]'h)=x:=fun h=>by rw[cl f]at g;exact ft g
   have l:∀h,(b[i]'h)=y:=fun h=>by rw[cl hi]at d;exact ft d
   have q:x≠y->R=false:=fun h=>by rw[<-bg,hb];rintro rfl;rw[g]at d;cases d;exact h rfl
   simp[hi,f,m,l];by_cases c:x.v=y.v
   ·have j:(x.v !=y.v)=false:=by simp[c]
    by_cases n:x.t=y.t
    ·(repeat' first|refine ak ?_|refine aI (uc _ _) ?_|refine aJ (uc _ _) ?_|simp[m,l,hi,f,c,j,n]);refine bQ.rng () hi (fun k p=>?_) ?_
     ·rcases(by omega:k<i\/k=i)with h|rfl
      ·exact o k h
      ·rw[g,d];cases x;cases y;simp_all
     ·exact bU
    ·rw[q (fun e=>n (by rw[e]))];(repeat' first|refine ak ?_|refine aI (uc _ _) ?_|refine aJ (uc _ _) ?_|simp[m,l,hi,f,c,j,n]);simp[bF,aX,aY,aW]
   ·have j:(x.v !=y.v)=true:=by simp[c]
    rw[q (fun e=>c (by rw[e]))];exact ca
def jK(l:List (List az))(e:List az):Bool:=l.all fun d=>decide (d=e)|| !oE d e
def alv{l b:List (List az)}(h:∀x,x∈l↔x∈b)(e:List az):jK l e=jK b e:=by rw[rO,jK,jK,iW,iW];exact⟨fun J x a=>J x ((h x).2 a),fun J x a=>J x ((h x).1 a)⟩
def lV(l:List (List az)):List (List az):=(asc e5 l).filter (jK l)
def Cd{l:List (List az)}{x:List az}:x∈lV l↔x∈l/\jK l x=true:=by rw[lV,n3,Yq]
def Yx(l:List (List az)):iB e5 (lV l):=(KJ mM l).filter _
def Yy{l a:List (List az)}(b:iB e5 a)(hm:∀x,x∈a↔x∈l/\jK l x=true):lV l=a:=(Yx l).ext mM b fun x=>by rw[hm,Cd]
structure dR where
 n:Int
 b:List az
 d:List (List az)
 k:List bR
 m:List bq
 deriving DecidableEq,Inhabited
noncomputable def hA(b:List az)(k:List bR)(m:List bq):List (List az)->aZ (List (List az))
 |[]=>some []
 |d::r=>match mgu b (iv d)with
  |none=>hA b k m r
  |some x=>if gG x k []=none\/gH x m []=none then hA b k m r else if hk b x=[]then none else(hA b k m r).map (hk b x:: ·)
def lD(k:List bR)(x:bq):Bool:=mh k x.v !=some 3
noncomputable def nr(s:dR):aZ dR:=match gG s.b s.k []with
 |none=>none
 |some k=>match gH s.b s.m []with
  |none=>none
  |some m=>match hA s.b k (m.filter (lD k)) s.d with
   |none=>none
   |some L=>if(lV L).length<=30 then some ⟨s.n,s.b,lV L,k,m.filter (lD k)⟩else none
def yL(t:T)(n:Int):Prop:= ∀v,t.occ v=true->v<n
def q5(l:List az)(n:Int):Prop:= ∀b∈l,b.v<n/\yL b.t n
structure Az (s:dR):Prop where
 n:0<=s.n/\s.n<=100000
 b:e7 s.b
 d:∀x∈s.d,e7 x
 k:iR s.k
 m:iH s.m
 bb:q5 s.b s.n
 db:∀x∈s.d,q5 x s.n
 kb:∀x∈s.k,x.v<s.n
 mb:∀x∈s.m,x.v<s.n
def JV(s:dR):Prop:=Az s/\nr s=some s
def CQ{s:List az}(a:e7 s){v:Int}(b:0<=v/\v<=100000):(cQ s v).ok=true:=by have:=JN a.ok (t:= .var v) (by simpa[T.ok]using b);exact this
def Jx{s:List az}(c:e7 s):∀{l acc a:List bR},(∀x∈l,(0<=x.v/\x.v<=100000)/\(x.k=2\/x.k=3))->iR acc->gG s l acc=some a->iR a
 |[],acc,a,_,h,he=>by simp only[gG,dz]at he;rw[<-he];exact h
 |x::r,acc,a,b,h,he=>by
  simp only[gG]at he;split at he
  ·rename_i g e;have d:=b x Ψ;exact Jx c (fun y f=>b y (by simp[f])) (KB h (CQ c d.1) d.2 e) he
  ·cases he
def Jy{s:List az}(c:e7 s):∀{l acc a:List bq},(∀x∈l,(0<=x.v/\x.v<=100000)/\jg x.s=true)->iH acc->gH s l acc=some a->iH a
 |[],acc,a,_,h,he=>by simp only[gH,dz]at he;rw[<-he];exact h
 |x::r,acc,a,b,h,he=>by
  simp only[gH]at he;split at he
  ·rename_i g e;have d:=b x Ψ;exact Jy c (fun y f=>b y (by simp[f])) (KD h (CQ c d.1) d.2 e) he
  ·cases he
def oL(G:List (List b7))(l:List bq):Prop:= ∀x∈l,x.s∈G
def KE{G:List (List b7)}{l a:List bq}{t:T}{s:List b7}(h:oL G l)(b:s∈G)(he:mU l t s=some a):oL G a:=fun x c=>by
 rcases(Fa he x).1 c with J|⟨J,_⟩
 ·exact h x J
 ·rw[J];exact b
def Pm{G:List (List b7)}{s:List az}:∀{l acc a:List bq},oL G l->oL G acc->gH s l acc=some a->oL G a
 |[],acc,a,_,h,he=>by simp only[gH,dz]at he;rw[<-he];exact h
 |x::r,acc,a,b,h,he=>by
  simp only[gH]at he;split at he
  ·rename_i e c;exact Pm (fun y d=>b y (by simp[d])) (KE h (b x Ψ) c) he
  ·cases he
def ao3{α:Type}[DecidableEq α]:∀{G:List α} {l:List (Nat×α)},l.Nodup->(∀x∈l,x.1<100001/\x.2∈G)->l.length<=100001*G.length:=by
 intro G l b h;have:=QU b (l₂:=(List.range 100001).flatMap fun i=>G.map fun g=>(i,g)) (fun x c=>by obtain⟨J,U⟩:=h x c;rw[List.mem_flatMap];exact⟨x.1,List.mem_range.2 J,iA.2 ⟨x.2,U,rfl⟩⟩)
 have e:((List.range 100001).flatMap fun i=>G.map fun g=>(i,g)).length=100001*G.length:=by
  generalize 100001=n;induction n with
  |zero=>simp
  |succ n a=>rw[List.range_succ,List.flatMap_append,ga,a];simp[Nat.succ_mul]
 omega
def E8{G:List (List b7)}{l:List bq}(h:iH l)(a1:oL G l):l.length<=100001*G.length:=by
 have J:(l.map fun x=>(x.v.toNat,x.s)).Nodup:=by rw[List.nodup_iff_pairwise_ne,List.pairwise_map];refine atL (fun{a b} f ae d e=>d ?_) (h.asc.nodup mN);have:=(h.at' a f).1;have:=(h.at' b ae).1;simp only[hW]at e;cases a;cases b;simp only[bq.mk.injEq];simp only at*;exact⟨Ω,e.2⟩
 have:=ao3 (G:=G) J fun x g=>by obtain⟨y,c,rfl⟩:=iA.1 g;have:=(h.at' y c).1;exact⟨by simp;omega,a1 y c⟩
 simpa using this
def F4(m:List bq):Prop:= ∃G:List (List b7),G.length<=687000/\oL G m
def F4.len{m:List bq}(h:F4 m)(hm:iH m):m.length<=68719470000:=by obtain⟨G,J,U⟩:=h;have:=E8 hm U;omega
def aqG{s:List az}(h:e7 s)(p:az->Bool):e7 (s.filter p):=by
 have a:∀b∈s.filter p,b∈s:=fun b ae=>(n3.1 ae).1;have c:∀w,dC s w=none->dC (s.filter p) w=none:=fun w hw=>by rw[xi]at hw⊢;exact fun b ae=>hw b (a b ae)
 exact⟨fun b ae=>h.ok b (a b ae),⟨acq p h.sol.asc,fun b ae w hw=>c w (h.sol.free b (a b ae) w hw),fun b ae=>h.sol.ori b (a b ae)⟩,
  j1 (List.length_filter_le _ _) h.fits.1,fun b ae=>h.fits.2 b (a b ae)⟩
def IT{b x:List az}(h:e7 x):e7 (hk b x):=aqG h _
def amG{b x:List az}(ae:gm b)(d:gm x)(n:h7 x)(h:∀a,hE x a->hE b a):jD b (iv (hk b x)) (some x):=by
 refine⟨⟨d,n⟩,fun a=>⟨fun i=>⟨h a i,fun e he=>?_⟩,fun⟨J,U⟩ c aA=>?_⟩⟩
 ·obtain⟨c,aA,rfl⟩:=iA.1 he;exact i c (n3.1 aA).1
 ·have g:∀c∈x,dC b c.v=none->a c.v=c.t.ap a:=fun c aA l=>by have:=U (.var c.v,c.t) (iA.2 ⟨c,n3.2 ⟨aA,by simp[l]⟩,rfl⟩);exact this
  have j:∀w,dC b w=none->(cQ x w).ap a=a w:=fun w hw=>by
   unfold cQ;cases e:dC x w with
   |none=>rfl
   |some t=>have hm:=kX e;exact(g _ hm hw).symm
  cases e:dC b c.v with
  |none=>exact g c aA e
  |some t=>
   have m:a c.v=t.ap a:=J _ (kX e);have f:=h (cQ x) (Ax d) _ (kX e);simp only at f;have k:cQ x c.v=c.t:=by unfold cQ;rw[xh d.asc aA];rfl
   rw[k]at f;rw[m,f,Dj];exact vA fun w hw=>(j w (ae.free _ (kX e) w hw)).symm
def amk{s:List az}(b:gm s)(c:h7 s){E:List (T×T)}{x:List az}(h:mgu s E=some x):∀a,hE x a↔hE s a/\kd E a:=by have:=IN b c E;rw[h]at this;exact this.2
def amh{s:List az}(a:gm s)(b:h7 s){E:List (T×T)}{x:List az}(h:mgu s E=some x):mgu s (iv (hk s x))=some x:=tK (amG a (Cc a b h).1 (Cc a b h).2 fun d c=>((amk a b h d).1 c).1)
def amj(p:Int->Prop){E:List (T×T)}:∀{s g:List az},gm s->h7 s->(∀b∈s,p b.v/\∀w,b.t.occ w=true->p w)->(∀e∈E,(∀w,e.1.occ w=true->p w)/\∀w,e.2.occ w=true->p w)->mgu s E=some g->∀b∈g,p b.v/\∀w,b.t.occ w=true->p w:=by
 induction E with
 |nil=>intro s g d f J _ h;rw[N9 d f]at h;cases h;exact J
 |cons e E u=>
  intro s g d f J U h;rw[N8 d f]at h;split at h
  ·rename_i s1 j;obtain⟨V,a⟩:∃V,V=s.flatMap (fun b=>b.v::oO b.t)++oO e.1++oO e.2:=⟨_,rfl⟩;have k:∀w∈V,p w:=by
    intro w hw;rw[a]at hw;simp only[j0,List.mem_flatMap,gj]at hw;rcases hw with(⟨b,ae,rfl|hw⟩|hw)|hw
    ·exact(J b ae).1
    ·exact(J b ae).2 w (Ge.1 hw)
    ·exact(U e Ψ).1 w (Ge.1 hw)
    ·exact(U e Ψ).2 w (Ge.1 hw)
   obtain⟨n,o,v,r,q⟩:=abm V _ _ s e.1 e.2 d f (fun c aA=>⟨by rw[a];simp only[j0,List.mem_flatMap];exact .inl (.inl ⟨c,aA,Ψ⟩),fun w hw=>by rw[a];simp only[j0,List.mem_flatMap];exact .inl (.inl ⟨c,aA,by simp[zY hw]⟩)⟩)
    (fun w hw=>by rw[a];simp only[j0];exact .inl (.inr (zY hw))) (fun w hw=>by rw[a];simp only[j0];exact .inr (zY hw)) rfl rfl
   have m:=tK r;rw[j]at m;subst m;obtain⟨l,_⟩:=q s1 rfl;have i:=Cc d f j;exact u i.1 i.2 (fun b ae=>⟨k _ (l b ae).1,fun w hw=>k w ((l b ae).2 w hw)⟩) (fun t he=>U t (by simp[he])) h
  ·cases h
def aqN{s:List az}(a:gm s){v n:Int}(h:cQ s v= .var n):dC s n=none:=by have:=PQ a (t:= .var v) (w:=n) (by show(cQ s v).occ n=true;rw[h];simp[T.occ]);exact this
def Q9{l b:List bR}{t:T}{k:Int}(h:lf l t k=some b):∀x∈b,x∈l\/t= .var x.v:=by
 unfold lf at h;split at h
 ·rename_i n;split at h
  ·split at h
   ·cases h;exact fun x a=>.inl a
   ·cases h
  ·cases h;intro x a;rcases IL.1 a with rfl|a
   ·exact .inr rfl
   ·exact .inl a
 ·split at h
  ·cases h;exact fun x a=>.inl a
  ·cases h
def aaj{s:List az}(b:gm s):∀{l acc a:List bR},(∀x∈acc,dC s x.v=none)->gG s l acc=some a->∀x∈a,dC s x.v=none
 |[],acc,a,h,he=>by simp only[gG,dz]at he;rw[<-he];exact h
 |y::r,acc,a,h,he=>by
  simp only[gG]at he;split at he
  ·rename_i e c;refine aaj b (fun x d=>?_) he;rcases Q9 c x d with J|J
   ·exact h x J
   ·exact aqN b J
  ·cases he
def Xe{x:bR}:∀{l:List bR},(∀y∈l,y.v<x.v)->mJ x l=l++[x]
 |[],_=>rfl
 |y::l,h=>by simp only[mJ,if_pos (h y Ψ),Xe (l:=l) fun z a=>h z (by simp[a]),b3]
def aak{s:List az}:∀{l acc:List bR},(acc++l).Pairwise (fun x y=>x.v<y.v)->(∀x∈l,dC s x.v=none)->gG s l acc=some (acc++l)
 |[],acc,_,_=>by simp[gG]
 |x::r,acc,b,c=>by
  have J:∀y∈acc,y.v<x.v:=fun y a=>(List.pairwise_append.1 b).2.2 y a x Ψ;have U:mh acc x.v=none:=zQ.2 fun y a=>by have:=J y a;omega
  have d:lf acc (cQ s x.v) x.k=some (acc++[x]):=by rw[CP (c x Ψ)];simp only[lf,U];rw[Xe J]
  simp only[gG,d];rw[aak (by simpa using b) fun y a=>c y (by simp[a])];simp
def aam{s:List az}(b:gm s):∀{l acc a:List bq},(∀x∈acc,dC s x.v=none)->gH s l acc=some a->∀x∈a,dC s x.v=none
 |[],acc,a,h,he=>by simp only[gH,dz]at he;rw[<-he];exact h
 |y::r,acc,a,h,he=>by
  simp only[gH]at he;split at he
  ·rename_i e c;refine aam b (fun x d=>?_) he;rcases(Fa c x).1 d with J|⟨_,J⟩
   ·exact h x J
   ·exact PQ b (t:= .var y.v) J
  ·cases he
def aan{s:List az}:∀{l acc:List bq},iB fO (acc++l)->(∀x∈l,dC s x.v=none)->gH s l acc=some (acc++l)
 |[],acc,_,_=>by simp[gH]
 |x::r,acc,a,b=>by
  have c:mU acc (cQ s x.v) x.s=some (acc++[x]):=by
   rw[CP (b x Ψ)];refine KC rfl (ayp ?_ a) fun z=>?_
   ·simp
   ·simp only[j0,List.mem_singleton,T.occ,dW];refine or_congr_right ⟨fun h=>by rw[h];exact⟨rfl,rfl⟩,fun⟨J,U⟩=>?_⟩;cases z;cases x;simp_all
  simp only[gH,c];rw[aan (by simpa using a) fun y d=>b y (by simp[d])];simp
def F2(b:List az)(k:List bR)(m:List bq)(d:List az):Prop:= ∃x,mgu b (iv d)=some x/\¬(gG x k []=none\/gH x m []=none)/\hk b x=d/\d≠[]
def IA{b:List az}(ae:e7 b){k:List bR}{m:List bq}:∀{l L:List (List az)},hA b k m l=some L->∀d∈L,F2 b k m d
 |[],L,h=>by simp only[hA,dz]at h;rw[<-h];simp
 |d0::r,L,h=>by
  simp only[hA]at h;split at h
  ·exact IA ae h
  ·rename_i x f;split at h
   ·exact IA ae h
   ·rename_i e;split at h
    ·cases h
    ·rename_i c;rw[gI]at h;obtain⟨g,J,rfl⟩:=h;intro d a;rcases gj.1 a with rfl|a
     ·exact⟨x,amh ae.sol ae.fits f,e,rfl,c⟩
     ·exact IA ae J d a
def X4{b:List az}{k:List bR}{m:List bq}:∀{L:List (List az)},(∀d∈L,F2 b k m d)->hA b k m L=some L
 |[],_=>rfl
 |d::L,h=>by obtain⟨x,J,U,a,c⟩:=h d Ψ;simp only[hA,J,if_neg U,a,if_neg c,X4 (L:=L) fun e he=>h e (by simp[he]),nz]
def Iz{b:List az}(ae:e7 b){k:List bR}{m:List bq}:∀{l L:List (List az)},(∀d∈l,e7 d)->hA b k m l=some L->∀d∈L,e7 d
 |[],L,_,h=>by simp only[hA,dz]at h;rw[<-h];simp
 |d0::r,L,f,h=>by
  simp only[hA]at h;split at h
  ·exact Iz ae (fun d a=>f d (by simp[a])) h
  ·rename_i x g;split at h
   ·exact Iz ae (fun d a=>f d (by simp[a])) h
   ·split at h
    ·cases h
    ·rw[gI]at h;obtain⟨i,J,rfl⟩:=h;intro d a;rcases gj.1 a with rfl|a
     ·exact IT (ae.mgu (fun e he=>by obtain⟨c,aA,rfl⟩:=iA.1 he;have:=(f d0 Ψ).ok c aA;exact⟨by simpa[T.ok]using this.1,this.2⟩) g)
     ·exact Iz ae (fun d a=>f d (by simp[a])) J d a
def Iy{b:List az}(ae:e7 b){n:Int}(f:q5 b n){k:List bR}{m:List bq}:∀{l L:List (List az)},(∀d∈l,q5 d n)->hA b k m l=some L->∀d∈L,q5 d n
 |[],L,_,h=>by simp only[hA,dz]at h;rw[<-h];simp
 |d0::r,L,g,h=>by
  simp only[hA]at h;split at h
  ·exact Iy ae f (fun d a=>g d (by simp[a])) h
  ·rename_i x i;split at h
   ·exact Iy ae f (fun d a=>g d (by simp[a])) h
   ·split at h
    ·cases h
    ·rw[gI]at h;obtain⟨j,J,rfl⟩:=h;intro d a;rcases gj.1 a with rfl|a
     ·have:=amj (fun v=>v<n) ae.sol ae.fits f (fun e he=>by obtain⟨c,aA,rfl⟩:=iA.1 he;have:=g d0 Ψ c aA;exact⟨fun w hw=>by simp[T.occ]at hw;subst hw;exact this.1,this.2⟩) i
      exact fun c aA=>this c (n3.1 aA).1
     ·exact Iy ae f (fun d a=>g d (by simp[a])) J d a
def amn{L:List (List az)}:lV (lV L)=lV L:=Yy (Yx L) fun x=>by rw[Cd,and_assoc];refine⟨fun⟨J,U⟩=>⟨J,U,?_⟩,fun⟨J,U,_⟩=>⟨J,U⟩⟩;rw[jK,iW]at U⊢;exact fun d a=>U d (Cd.1 a).1
def Xx{b:List az}(ae:e7 b){n:Int}(a:q5 b n){v w:Int}(c:v<n)(h:(cQ b v).occ w=true):w<n:=by
 unfold cQ at h;cases e:dC b v with
 |none=>rw[e]at h;simp[T.occ]at h;omega
 |some t=>rw[e]at h;exact(a _ (kX e)).2 w h
def aai{b:List az}(ae:e7 b){n:Int}(d:q5 b n):∀{l acc a:List bR},(∀x∈l,x.v<n)->(∀x∈acc,x.v<n)->gG b l acc=some a->∀x∈a,x.v<n
 |[],acc,a,_,h,he=>by simp only[gG,dz]at he;rw[<-he];exact h
 |y::r,acc,a,e,h,he=>by
  simp only[gG]at he;split at he
  ·rename_i g f;refine aai ae d (fun x c=>e x (by simp[c])) (fun x c=>?_) he;rcases Q9 f x c with J|J
   ·exact h x J
   ·exact Xx ae d (e y Ψ) (by rw[J];simp[T.occ])
  ·cases he
def aal{b:List az}(ae:e7 b){n:Int}(d:q5 b n):∀{l acc a:List bq},(∀x∈l,x.v<n)->(∀x∈acc,x.v<n)->gH b l acc=some a->∀x∈a,x.v<n
 |[],acc,a,_,h,he=>by simp only[gH,dz]at he;rw[<-he];exact h
 |y::r,acc,a,e,h,he=>by
  simp only[gH]at he;split at he
  ·rename_i g f;refine aal ae d (fun x c=>e x (by simp[c])) (fun x c=>?_) he;rcases(Fa f x).1 c with J|⟨_,J⟩
   ·exact h x J
   ·exact Xx ae d (e y Ψ) J
  ·cases he
def aqK{s b:dR}(h:Az s)(he:nr s=some b):JV b/\b.n=s.n/\b.b=s.b:=by
 unfold nr at he;split at he
 ·cases he
 rename_i k e;split at he
 ·cases he
 rename_i m hm;split at he
 ·cases he
 rename_i L c;split at he;rotate_left
 ·cases he
 rename_i i;cases he;have f:=Jx h.b h.k.at' ⟨Ψ,Ψ⟩ e;have m1:=Jy h.b h.m.at' ⟨Ψ,by simp[iB]⟩ hm;have m2:iH (m.filter (lD k)):=⟨fun x a=>m1.at' x (n3.1 a).1,acq _ m1.asc⟩;have dd:=IA h.b c;have g:=Iz h.b h.d c;refine⟨⟨⟨h.n,h.b,fun x a=>g x (Cd.1 a).1,f,m2,h.bb,fun x a=>Iy h.b h.bb h.db c x (Cd.1 a).1,aai h.b h.bb h.kb Ψ e,fun x a=>aal h.b h.bb h.mb Ψ hm x (n3.1 a).1⟩,?_⟩,rfl,rfl⟩;unfold nr;have n:gG s.b k []=some k:=aak (acc:=[]) f.asc (aaj h.b.sol Ψ e);have p:gH s.b (m.filter (lD k)) []=some (m.filter (lD k)):=aan (acc:=[]) m2.asc fun x a=>aam h.b.sol Ψ hm x (n3.1 a).1;have l:(m.filter (lD k)).filter (lD k)=m.filter (lD k):=by rw[List.filter_filter];simp
 have j:hA s.b k (m.filter (lD k)) (lV L)=some (lV L):=X4 fun d o=>dd d (Cd.1 o).1;simp only[n,p,l,j,amn,if_pos i]
def u0{α:Type}{s:List α}{i:Nat}{t:α}(h:s[i]? =some t):s.drop i=t::s.drop (i+1):=by obtain⟨hi,e⟩:=fp.1 h;rw[mu hi,e]
def rA(L:List (List az))(a:List (List az))(e:List az):List (List az):=if jK L e=true then k5 e5 e a else a
def Oa{L:List (List az)}:∀(xs:List (List az)) {a:List (List az)},iB e5 a->iB e5 (xs.foldl (rA L) a)
 |[],_,h=>h
 |x::xs,a,h=>Oa xs (a:=rA L a x) (by unfold rA;split<;>first|exact Nk mM h|exact h)
def YA{L:List (List az)}{x:List az}:∀(xs:List (List az)) {a:List (List az)},x∈xs.foldl (rA L) a↔x∈a\/(x∈xs/\jK L x=true)
 |[],a=>by simp
 |y::xs,a=>by
  rw[List.foldl_cons,YA xs,gj];unfold rA;by_cases b:jK L y=true
  ·rw[if_pos b,IK mM];constructor
   ·rintro((rfl|h)|h)
    ·exact .inr ⟨.inl rfl,b⟩
    ·exact .inl h
    ·exact .inr ⟨.inr h.1,h.2⟩
   ·rintro(h|⟨rfl|J,U⟩)
    ·exact .inl (.inr h)
    ·exact .inl (.inl rfl)
    ·exact .inr ⟨J,U⟩
  ·rw[if_neg b];constructor
   ·rintro(h|h)
    ·exact .inl h
    ·exact .inr ⟨.inr h.1,h.2⟩
   ·rintro(h|⟨rfl|J,U⟩)
    ·exact .inl h
    ·exact absurd U b
    ·exact .inr ⟨J,U⟩
def Yz{L:List (List az)}:∀(xs a:List (List az)),(xs.foldl (rA L) a).length<=a.length+xs.length
 |[],a=>by simp
 |y::xs,a=>by
  have J:=Yz (L:=L) xs (rA L a y);have U:(rA L a y).length<=a.length+1:=by
   unfold rA;split
   ·exact Nn _ _
   ·omega
  simp only[List.foldl_cons,ik];omega
def amp(L:List (List az)):lV L=L.foldl (rA L) []:=Yy (Oa L (by simp[iB])) fun x=>by rw[YA];simp
def zO(L:List (List az))(i:Nat)(a:List (List az)):Prop:=a=(L.take i).foldl (rA L) []
def zO.step{L:List (List az)}{i:Nat}{a:List (List az)}(h:zO L i a){e:List az}(he:L[i]? =some e):zO L (i+1) (rA L a e):=by rw[zO,sJ he,List.foldl_append,h];rfl
def x3(e d:List az):Bool:=decide (d=e)|| !oE d e
def rq(L:List (List az))(e:List az)(j:Nat)(k:Bool):Prop:=k=(L.take j).all (x3 e)
def rq.step{L:List (List az)}{e:List az}{j:Nat}{k:Bool}(h:rq L e j k){d:List az}(a:L[j]? =some d):rq L e (j+1) (k&&x3 e d):=by rw[rq,sJ a,List.all_append,h];simp
def Ij(a:List (List az))(e:List az)(k:Nat):Prop:=k<=a.length/\∀c,a[k]? =some c->0<=e5 c e
def Ij.fin{a:List (List az)}{e:List az}{k:Nat}(h:Ij a e k)(l:iB e5 a)(aA:∀d,0<k->a[k-1]? =some d->e5 d e<0):k5 e5 e a=if(match a[k]? with|some y=>decide (e5 y e=0)|none=>false)=true then a else a.take k++e::a.drop k:=
 (Nl mM e a k (fun i c hi b=>by
  have m:=h.1;obtain⟨d,f⟩:∃d,a[k-1]? =some d:=⟨_,cl Ω⟩;have J:=aA d Ω f;rcases Nat.lt_or_ge i (k-1)with U|U
  ·have g:=(fp.1 b);have j:=(fp.1 f);have:=q1.1 l i (k-1) g.1 j.1 U;rw[g.2,j.2]at this;exact mM.ltr this Ω
  ·have:i=k-1:=Ω
   subst this;rw[f]at b;cases b;exact J) h.2 h.1).trans (by cases a[k]?<;>rfl)
def XA(L:List (List az))(e:List az):jK L e=L.all (x3 e):=rfl
def aaT{l:List (List az)}{x:List az}:x∈qb e5 l↔x∈l:=(Ay e5 l).mem_iff
def amo(l:List (List az)):lV l=(cX none (qb e5 l)).filter (jK (qb e5 l)):=by have h:jK l=jK (qb e5 l):=funext fun e=>alv (fun x=>aaT.symm) e;rw[lV,h];rfl
def nN(s:List (List az))(i:Nat)(acc:List (List az)):Prop:=acc++(cX (if i=0 then none else s[i-1]?) (s.drop i)).filter (jK s)=(cX none s).filter (jK s)
def sN:dR:=⟨0,[],[],[],[]⟩
noncomputable def CO(s:dR):dR:=match gG s.b s.k []with
 |none=>sN
 |some k=>match gH s.b s.m []with
  |none=>sN
  |some m=>match hA s.b k (m.filter (lD k)) s.d with
   |none=>sN
   |some L=>⟨s.n,s.b,lV L,k,m.filter (lD k)⟩
def aqL{s b:dR}(h:nr s=some b):CO s=b:=by
 unfold nr at h;unfold CO;cases J:gG s.b s.k []with
 |none=>rw[J]at h;cases h
 |some k=>
  rw[J]at h;simp only at h⊢;cases U:gH s.b s.m []with
  |none=>rw[U]at h;cases h
  |some m=>
   rw[U]at h;simp only at h⊢;cases a:hA s.b k (m.filter (lD k)) s.d with
   |none=>rw[a]at h;cases h
   |some L=>
    rw[a]at h;simp only at h⊢;split at h
    ·cases h;rfl
    ·cases h
def acY{k:List bR}(a:iR k)(v:Int):(lf k (.var v) 2).isSome=(mh k v !=some 3):=by
 unfold lf;simp only;cases h:mh k v with
 |none=>simp
 |some x=>have:=(a.at' _ (XH h)).2;simp only at this;rcases this with rfl|rfl<;>simp
def ac4{k:List bR}(a:k.Pairwise fun x y=>x.v<y.v)(v:Int):(k.any fun x=>x.v==v&&x.k==3)=(mh k v==some 3):=by
 rw[rO,List.any_eq_true,dW];constructor
 ·rintro⟨x,b,h⟩;simp only[cD,dW]at h;have:=Iq a b;rw[h.1,h.2]at this;exact this
 ·intro h;exact⟨_,XH h,Ψ⟩
def NL{b:List az}{k:List bR}{m:List bq}{d:List az}{r:List (List az)}(h:mgu b (iv d)=none):hA b k m (d::r)=hA b k m r:=by rw[hA,h]
def NK{b:List az}{k:List bR}{m:List bq}{d x:List az}{r:List (List az)}(h:mgu b (iv d)=some x)(a:gG x k []=none\/gH x m []=none):hA b k m (d::r)=hA b k m r:=by rw[hA,h];simp only[if_pos a]
def NJ{b:List az}{k:List bR}{m:List bq}{d x:List az}{r:List (List az)}(h:mgu b (iv d)=some x)(c:¬(gG x k []=none\/gH x m []=none))(a:hk b x=[]):hA b k m (d::r)=none:=by rw[hA,h];simp only[if_neg c,if_pos a]
def NM{b:List az}{k:List bR}{m:List bq}{d x:List az}{r:List (List az)}(h:mgu b (iv d)=some x)(c:¬(gG x k []=none\/gH x m []=none))(a:hk b x≠[]):hA b k m (d::r)=(hA b k m r).map (hk b x:: ·):=by rw[hA,h];simp only[if_neg c,if_neg a]
def rr(b:List az)(k:List bR)(m:List bq)(D:List (List az))(i:Nat)(a:List (List az)):Prop:=a.length<=i/\(∀x∈a,e7 x)/\(hA b k m (D.drop i)).map (a++ ·)=hA b k m D
def jF(n:Int):T->Bool
 | .var v=>decide (v<n)
 | .pair a b=>jF n a&&jF n b
 |_=>true
def KP{n:Int}:∀{t:T},jF n t=true↔yL t n
 | .var v=>by simp[jF,yL,T.occ]
 | .pair a b=>by simp only[jF,cD,KP (t:=a),KP (t:=b),yL,T.occ,mR];exact⟨fun h v c=>c.elim (h.1 v) (h.2 v),fun h=>⟨fun v c=>h v (.inl c),fun v c=>h v (.inr c)⟩⟩
 | .nil=>by simp[jF,yL,T.occ]
 | .sym _=>by simp[jF,yL,T.occ]
 | .num _=>by simp[jF,yL,T.occ]
def lP(n:Int)(b:az):Bool:=decide (b.v<n)&&jF n b.t
def xj{n:Int}{s:List az}:s.all (lP n)=true↔q5 s n:=by simp[iW,lP,q5,KP]
def ud(v m:Int):Int:=if m<v+1 then v+1 else m
def QG{n:Int}:∀(t:T) (m:Int),t.fold ud m<=n↔m<=n/\jF n t=true
 | .var v,m=>by simp only[T.fold,ud,jF,e3];split<;>omega
 | .pair a b,m=>by simp only[T.fold,QG b,QG a,jF,cD,and_assoc]
 | .nil,m=>by simp[T.fold,jF]
 | .sym _,m=>by simp[T.fold,jF]
 | .num _,m=>by simp[T.fold,jF]
def Gg(v m:Int):aZ Int:=if 0<=v/\v<=100000 then some (ud v m)else none
def QF:∀(t:T) (m:Int),t.ok=true->t.foldO Gg m=some (t.fold ud m)
 | .var v,m,h=>by
  have:0<=v/\v<=100000:=by simpa[T.ok]using h
  simp[T.foldO,T.fold,Gg,this]
 | .pair a b,m,h=>by
  have J:a.ok=true/\b.ok=true:=by simpa[T.ok]using h
  simp[T.foldO,T.fold,QF a m J.1,QF b _ J.2]
 | .nil,m,_=>rfl
 | .sym _,m,_=>rfl
 | .num _,m,_=>rfl
end
end Go.Proofs.YtfeencekjcjalaaGreatDoor
namespace Go.Pv
section
open Go Go.Lib
def yW{u:Nat}(h:u<10):decDigits u=[sS (48+u)]:=by rw[decDigits,dif_pos h]
def DA{u:Nat}(h:10<=u):decDigits u=decDigits (u/10)++[sS (48+u%10)]:=by rw[decDigits,dif_neg Ω]
def Ul(u:Nat):decDigits u≠[]:=by
 by_cases hu:u<10
 ·rw[yW hu];simp
 ·rw[DA Ω];simp
def aoZ(s:List b7):aZ Int:=match atoiAll s with
 | .ok n=>if itoa n=s then some n else none
 |_=>none
def uU(n:Int):itoa n≠[]:=by
 unfold itoa;split
 ·simp
 ·exact Ul _
def Lp:∀(k u:Nat),u<10 ^ k->(decDigits u).length<=max k 1
 |0,u,h=>by rw[yW (by simpa using Nat.lt_of_lt_of_le h Ψ)];simp
 |k+1,u,h=>by
  by_cases hu:u<10
  ·rw[yW hu];simp
  ·rw[DA Ω];have:=Lp k (u/10) (by rw[Nat.pow_succ]at h;omega);simp;have:k≠0:=fun e=>by subst e;simp at h;omega
   omega
def ali{n:Int}(h:eR n):(itoa n).length<=20:=by
 unfold eR at h;unfold itoa;split
 ·have:=Lp 19 n.natAbs Ω;simp;omega
 ·have:=Lp 19 n.toNat Ω;omega
def adz(c:b7):Bool:=c==32||c==10||c==40||c==41||c==59
def kK:List T->T->T
 |[],t=>t
 |x::r,t=>.pair x (kK r t)
def alV(a b:List T)(t:T):kK (a++b) t=kK a (kK b t):=by
 induction a with
 |nil=>rfl
 |cons x r c=>simp[kK,c]
mutual
def FK(at':List b7->aZ T):Nat->List (List b7)->aZ (T×List (List b7))
 |0,_=>none
 |_+1,[]=>none
 |n+1,w::r=>if w=[40]then gr at' n r []else if w=[41]\/w=[46]then none else(at' w).map fun t=>(t,r)
def gr(at':List b7->aZ T):Nat->List (List b7)->List T->aZ (T×List (List b7))
 |0,_,_=>none
 |_+1,[],_=>none
 |n+1,w::r,acc=>if w=[41]then some (kK acc .nil,r)
  else if w=[46]then(if acc=[]then none else match FK at' n r with
   |some (t,v::a)=>if v=[41]then some (kK acc t,a)else none
   |_=>none)
  else match FK at' n (w::r)with
   |some (t,a)=>gr at' n a (acc++[t])
   |none=>none
end
mutual
def cF:T->List b7
 | .nil=>[40,41]
 | .var n=>63::itoa n
 | .sym s=>s
 | .num n=>itoa n
 | .pair a b=>40::(cF a++fq b)
def fq:T->List b7
 | .nil=>[41]
 | .pair a b=>32::(cF a++fq b)
 | .var n=>32::46::32::63::(itoa n++[41])
 | .sym s=>32::46::32::(s++[41])
 | .num n=>32::46::32::(itoa n++[41])
end
def Uu:List b7->Prop
 |[]=>True
 |c::_=>adz c=true
def YJ{s:List b7}(h:jg s=true):∃c r,s=c::r/\low c=true/\(∀x∈r,nm x=true)/\r.length<=11:=by
 unfold jg at h;simp only[cD,e3,iW]at h;cases s with
 |nil=>simp at h
 |cons c r=>exact⟨c,r,rfl,by simpa using h.1.2,by simpa using h.2,by have:=h.1.1.2;simp at this;omega⟩
def YK{s:List b7}(h:jg s=true):s≠[]:=by obtain⟨c,r,rfl,_⟩:=YJ h;simp
def atw:List b7:=[116,114,117,101]
def att:List b7:=[102,97,105,108]
def ats:List b7:=[61]
def atr:List b7:=[47,61]
def yy:List b7:=[115,121,109,98,111,108]
def yx:List b7:=[110,117,109,98,101,114]
def atp:List b7:=[97,98,115,101,110,116]
def atq:List b7:=[97,110,100]
def atv:List b7:=[111,114]
def atu:List b7:=[110,111,116]
def IE:∀(a:List T) (t:T),(kK a t).ok=(a.all T.ok&&t.ok)
 |[],t=>by simp[kK]
 |x::r,t=>by simp[kK,T.ok,IE r t,Bool.and_assoc]
def LX{t:T}(h:t.fit=true):t.ok=true:=by unfold T.fit at h;simp only[cD]at h;exact h.1
def hQ(b:List b7):List (List b7)->List b7
 |[]=>[]
 |[x]=>x
 |x::y::r=>x++b++hQ b (y::r)
def Xo(b:List b7)(x:List b7):∀l:List (List b7),l≠[]->hQ b (l++[x])=hQ b l++b++x
 |[],h=>absurd rfl h
 |[y],_=>by simp[hQ]
 |y::z::r,_=>by have:=Xo b x (z::r) Ψ;simp only[b3,hQ]at this⊢;rw[this];simp
def Xp(b:List b7)(l:List (List b7)){k:Nat}{x:List b7}(h:l[k]? =some x):hQ b (l.take (k+1))=if k=0 then x else hQ b (l.take k)++b++x:=by
 have c:=(fp.1 h).1;have aM:l.take (k+1)=l.take k++[x]:=by rw[List.take_add_one,h];rfl
 rw[aM];by_cases a:k=0
 ·subst a;simp[hQ]
 ·rw[if_neg a,Xo];intro e;have:=eG List.length e;rw[oT]at this;simp only[nv]at this;omega
def ab6{v:Int}(h:0<=v/\v<=100000):(T.var v).fit=true:=by unfold T.fit T.ok T.size;simp[h]
def ato(s:List b7):Bool:=jg s||(match aoZ s with|some n=>decide (0<=n/\n<=100000)|none=>false)
def num:List (List b7)->List (List b7)->aZ (List (List b7)×List (List b7))
 |ns,[]=>some ([],ns)
 |ns,w::r=>match w with
  |63::s=>if ato s then(num (if w∈ns then ns else ns++[w]) r).map fun x=>((63::itoa (ns.idxOf w))::x.1,x.2)else none
  |_=>(num ns r).map fun x=>(w::x.1,x.2)
def oP(n:Int):List b7:=63::itoa n
def wO(ms:List (List b7)):T->T
 | .var n=>.var (ms.idxOf (oP n))
 | .pair a b=>.pair (wO ms a) (wO ms b)
 |t=>t
end
section
open Go Go.Lib
def Fh{s:List b7}(h:jg s=true):s.length<=12:=by obtain⟨c,r,rfl,_,_,a⟩:=YJ h;simp;omega
mutual
def Bd:∀t:T,t.ok=true->(cF t).length<=26*t.size
 | .nil,_=>by simp[cF,T.size]
 | .var n,h=>by simp only[T.ok,e3]at h;have:=itoa_length_le n Ω Ω;simp only[cF,T.size,ik];omega
 | .sym s,h=>by have:=Fh (s:=s) (by simpa[T.ok]using h);simp only[cF,T.size];omega
 | .num n,h=>by simp only[T.ok,e3]at h;have:=itoa_length_le n Ω Ω;simp only[cF,T.size];omega
 | .pair a b,h=>by simp only[T.ok,cD]at h;have J:=Bd a h.1;have U:=UH b h.2;simp only[cF,T.size,ik,ga];omega
def UH:∀t:T,t.ok=true->(fq t).length<=26*t.size
 | .nil,_=>by simp[fq,T.size]
 | .var n,h=>by simp only[T.ok,e3]at h;have:=itoa_length_le n Ω Ω;simp only[fq,T.size,ik,ga,nv];omega
 | .sym s,h=>by have:=Fh (s:=s) (by simpa[T.ok]using h);simp only[fq,T.size,ik,ga,nv];omega
 | .num n,h=>by simp only[T.ok,e3]at h;have:=itoa_length_le n Ω Ω;simp only[fq,T.size,ik,ga,nv];omega
 | .pair a b,h=>by simp only[T.ok,cD]at h;have J:=Bd a h.1;have U:=UH b h.2;simp only[fq,T.size,ik,ga];omega
end
structure QY (s t:List az):Prop where
 sa:iX s
 sv:∀b∈s,4<=b.v/\b.v<8
 so:∀b∈s,b.t.ok=true/\b.t.size<=16/\∀w,b.t.occ w=true->0<=w/\w<4
 ta:iX t
 tk:∃k:Int,∀b∈t,0<=b.v/\b.v<4/\k<=b.v/\∀w,b.t.occ w=true->0<=w/\w<k
 to:∀b∈t,b.t.ok=true/\b.t.size<=16
def KG(t:List az)(b:az):az:=⟨b.v,b.t.ap (cQ t)⟩
section
variable {s t:List az} (h:QY s t)
include h
end
section
variable {s t:List az} (h:QY s t)
include h
end
end
end Go.Pv
namespace Go.Proofs.YtfeencekjcjalaaGreatDoor
section
open Go Go.Pv
def Xn(L:List (List b7)):(hQ [32] L).length<=(L.map fun x=>x.length+1).sum:=by
 induction L with
 |nil=>simp[hQ]
 |cons x r a=>
  cases r with
  |nil=>simp[hQ]
  |cons y r=>simp only[hQ,ga,fG,List.sum_cons,List.length_singleton]at a⊢;omega
def F3{α:Type}{f:α->Nat}{W:Nat}:∀{l:List α},(∀x∈l,f x<=W)->(l.map f).sum<=W*l.length
 |[],_=>by simp
 |x::l,h=>by have J:=h x Ψ;have U:=F3 (l:=l) fun y a=>h y (by simp[a]);simp only[fG,List.sum_cons,ik,Nat.mul_add];omega
def BZ{n:Int}(h:0<=n/\n<=100000):(Lib.itoa n).length<=20:=ali t7
structure abk (s:dR):Prop where
 n:0<=s.n/\s.n<=100000
 b:e7 s.b
 d:∀x∈s.d,e7 x
 dl:s.d.length<=30
 k:iR s.k
 kl:s.k.length<=1048576
 m:iH s.m
 ml:s.m.length<=1048576
structure ja where
 n:Int
 b:List dm
 d:List (List dm)
 k:List bR
 m:List bq
def dR.r(s:dR):ja:=⟨s.n,s.b.map az.b,s.d.map fun x=>x.map az.b,s.k,s.m⟩
def tX(r:ja):Prop:= ∃s:dR,r=s.r/\JV s
def kv(n:Int)(x:List dm):Prop:= ∃s:List az,x=s.map az.b/\e7 s/\q5 s n
structure Pk (r:ja):Prop where
 n:0<=r.n/\r.n<=100000
 b:kv r.n r.b
 d:∀x∈r.d,kv r.n x
 k:iR r.k
 m:iH r.m
 kb:∀x∈r.k,x.v<r.n
 mb:∀x∈r.m,x.v<r.n
def tX.raw{r:ja}(h:tX r):Pk r:=by obtain⟨s,rfl,J,_⟩:=h;exact⟨J.n,⟨s.b,rfl,J.b,J.bb⟩,fun x b=>by obtain⟨y,a,rfl⟩:=iA.1 b;exact⟨y,rfl,J.d y a,J.db y a⟩,J.k,J.m,J.kb,J.mb⟩
def xg:∀{a b:List az},a.map az.b=b.map az.b->a=b
 |[],b,h=>by cases b<;>simp at h⊢
 |x::a,[],h=>by simp at h
 |x::a,y::b,h=>by simp only[fG,pA,az.b,dm.mk.injEq]at h;rw[xg h.2];have:=Ql h.1.2;obtain⟨⟨J,_⟩,_⟩:=h;cases x;cases y;simp_all
def Rt:∀{a b:List (List az)},(a.map fun x=>x.map az.b)=(b.map fun x=>x.map az.b)->a=b
 |[],b,h=>by cases b<;>simp at h⊢
 |x::a,[],h=>by simp at h
 |x::a,y::b,h=>by rw[fG,fG,pA]at h;rw[Rt h.2,xg h.1]
def dR.r_inj{s t:dR}(h:s.r=t.r):s=t:=by obtain⟨n,b,d,k,m⟩:=s;obtain⟨n',cf,g,i,f⟩:=t;simp only[dR.r,ja.mk.injEq]at h;obtain⟨J,U,c,e,a⟩:=h;rw[J,xg U,Rt c,e,a]
def Ui{n:Int}:∀{d:List (List dm)},(∀x∈d,kv n x)->∃D:List (List az),d=(D.map fun x=>x.map az.b)/\(∀x∈D,e7 x)/\∀x∈D,q5 x n
 |[],_=>⟨[],rfl,Ψ,Ψ⟩
 |x::d,h=>by
  obtain⟨D,J,U,c⟩:=Ui (d:=d) fun y a=>h y (by simp[a]);obtain⟨s,e,f,b⟩:=h x Ψ;refine⟨s::D,by rw[J,e];rfl,fun y a=>?_,fun y a=>?_⟩
  ·rcases gj.1 a with rfl|a
   ·exact f
   ·exact U y a
  ·rcases gj.1 a with rfl|a
   ·exact b
   ·exact c y a
def aaV{s:dR}(h:Az s):tX s.r↔nr s=some s:=by
 constructor
 ·rintro⟨t,e,_,U⟩;rw[dR.r_inj e];exact U
 ·intro U;exact⟨s,rfl,h,U⟩
def yr{l:List dm}:Kx l↔∃s:List az,l=s.map az.b/\e7 s:=⟨fun⟨s,J,U,a,b⟩=>⟨s,J,U,a,b⟩,fun⟨s,J,U⟩=>⟨s,J,U.ok,U.sol,U.fits⟩⟩
def s5{α:Type}(a b:List α)(i:Nat)(_:Unit):Prop:= ∀k,k<i->a[k]? =b[k]?
def s5.fin{α:Type}{a b:List α}(h:s5 a b b.length ())(d:a.length=b.length):a=b:=by
 apply List.ext_getElem?;intro k;by_cases c:k<b.length
 ·exact h k c
 ·rw[rR Ω,rR Ω]
def s5.step{α:Type}{a b:List α}{i:Nat}(h:s5 a b i ()){x:α}(c:a[i]? =some x)(ae:b[i]? =some x):s5 a b (i+1) ():=fun k d=>by
 rcases(by omega:k<i\/k=i)with J|rfl
 ·exact h k J
 ·rw[c,ae]
def tD{α:Type}(p:α->Prop)(s:List α)(i:Nat)(_:Unit):Prop:= ∀k b,k<i->s[k]? =some b->p b
def tD.step{α:Type}{p:α->Prop}{s:List α}{i:Nat}(h:tD p s i ()){b:α}(ae:s[i]? =some b)(a:p b):tD p s (i+1) ():=fun k c d aA=>by
 rcases(by omega:k<i\/k=i)with J|rfl
 ·exact h k c J aA
 ·rw[ae]at aA;cases aA;exact a
def tD.fin{α:Type}{p:α->Prop}{s:List α}(h:tD p s s.length ()):∀b∈s,p b:=fun b ae=>by obtain⟨k,a,e⟩:=oS ae;exact h k b a (by rw[cl a,e])
def RW:C:=(aa [bs 2 false] (.seq (aa [I 5 0,cd 6 5,bT 7 0] (fo 8 7 6 (.seq (.block 1 (aa [I 9 7,cq 10 2 5 7,bh 11 2 10,cU (.alloc 4 none (.agg [.int .i64 0,.int .i64 0])),I 3 9,b1 2 4 11] (.seq (.drawn true 46 (aK 12 0 1 4::aw 13 1 12::aS 14 .lss 13 0::I 15 14::ax 15 false (aK 16 0 1 4)::ax 15 false (aw 17 1 16)::ax 15 false (aS 18 .gtr 17 100000)::dy 19 15 18::I 20 19::ax 20 false (aK 21 1 1 4)::ax 20 false (aw 22 1 21)::ax 20 false (aS 23 .neq 22 2)::ck 20 false 24 23::ax 24 true (aK 25 1 1 4)::ax 24 true (aw 26 1 25)::ax 24 true (aS 27 .neq 26 3)::ax 20 false (ei 28 24 27)::dy 29 20 28::I 30 29::ck 30 false 31 3::ax 30 false (aS 32 .gtr 31 0)::ck 30 false 33 32::ck 33 true 34 0::ck 33 true 35 3::ax 33 true (aS 36 .sub 35 1)::ax 33 true (cq 37 2 34 36)::ax 33 true (aK 38 0 1 37)::ax 33 true (aw 39 1 38)::ax 33 true (aK 40 0 1 4)::ax 33 true (aw 41 1 40)::ax 33 true (bp 42 .geq 39 41)::ax 30 false (ei 43 33 42)::dy 44 30 43::[])) (aU 44 (aa [bs 2 false] .ret) .skip)))) (.region [aS 45 .add 7 1,I 7 45])))) (aa [bs 2 true] .ret)))
def RX:C:=(aa [bs 2 false] (.seq (aa [I 5 0,cd 6 5,bT 7 0] (fo 8 7 6 (.seq (.block 1 (aa [I 9 7,cq 10 2 5 7,bh 11 2 10,cU (.alloc 4 none (.agg [.int .i64 0,.str []])),I 3 9,b1 2 4 11] (.seq (.drawn true 41 [aK 12 0 1 4,aw 13 1 12,aS 14 .lss 13 0,I 15 14,ax 15 false (aK 16 0 1 4),ax 15 false (aw 17 1 16),ax 15 false (aS 18 .gtr 17 100000),dy 19 15 18,I 20 19,ax 20 false (aK 21 1 1 4),ax 20 false (aw 22 1 21),ax 20 false (cI 23 133 22),ax 20 false (cH 24 23),dy 25 20 24,I 26 25,ck 26 false 27 3,ax 26 false (aS 28 .gtr 27 0),ck 26 false 29 28,ck 29 true 30 0,ck 29 true 31 3,ax 29 true (aS 32 .sub 31 1),ax 29 true (cq 33 2 30 32),ax 29 true (bh 34 2 33),ax 29 true (bh 35 2 4),ax 29 true (ch 36 134 34 35),ax 29 true (cH 37 36),ax 26 false (ei 38 29 37),dy 39 26 38]) (aU 39 (aa [bs 2 false] .ret) .skip)))) (.region [aS 40 .add 7 1,I 7 40])))) (aa [bs 2 true] .ret)))
def GM:C:=(aa [c6 2 0,c6 3 1,bs 4 false] (aa [aK 5 0 1 2,aw 6 1 5,aK 7 0 1 3,aw 8 1 7,bp 9 .lss 6 8,I 10 9,ax 10 false (aK 11 0 1 2),ax 10 false (aw 12 1 11),ax 10 false (aK 13 0 1 3),ax 10 false (aw 14 1 13),ax 10 false (bp 15 .eql 12 14),ck 10 false 16 15,ax 16 true (aK 17 1 1 2),ax 16 true (aw 18 1 17),ax 16 true (aK 19 1 1 3),ax 16 true (aw 20 1 19),ax 16 true (bp 21 .lss 18 20),ax 10 false (ei 22 16 21),dy 23 10 22,I 4 23] .ret))
def r1:C:=(aa [c6 6 2,e1 8 2,bs 9 false] (.seq (aa [I 15 0,cI 16 82 15,cH 17 16,I 18 17,ax 18 false (bh 19 4 6),ax 18 false (cI 20 101 19),ax 18 false (cH 21 20),dy 22 18 21,I 23 22,ck 23 false 24 1,ax 23 false (cI 25 83 24),ax 23 false (cH 26 25),dy 27 23 26,I 28 27,ck 28 false 29 3,ax 28 false (aS 30 .neq 29 2),ck 28 false 31 30,ck 31 true 32 3,ax 31 true (aS 33 .neq 32 3),ax 28 false (ei 34 31 33),dy 35 28 34] (aU 35 (aa [e1 8 2,bs 9 false] .ret) .skip)) (aa [I 37 0,bh 38 4 6,ch 39 59 37 38,I 36 39,dr 40 0 36,dr 41 1 36,dV 10 eb,b1 4 10 40,I 11 41] (.seq (aa [I 42 11,cH 43 42] (aU 43 (aa [e1 8 2,bs 9 false] .ret) .skip)) (aa [cU (.bslm 44 (some 803) 2 78 []),I 45 1,cU (.appm 46 none 2 78 (.t 44) (.t 45)),cU (.alloc 12 (some 804) (.slice 2 .nil [])),b1 1 12 46] (.seq (aa [aK 47 0 1 10,aw 48 1 47,aS 49 .neq 48 1] (aU 49 (.seq (aa [aK 50 0 1 10,aw 51 1 50,I 52 3,bp 53 .neq 51 52] (aU 53 (aa [e1 8 2,bs 9 false] .ret) .skip)) (.seq (.pubB 12 (.region [aw 54 1 12,I 8 54,bs 9 true])) .ret)) .skip)) (.seq (aa [I 55 1,cd 56 55,bT 57 0] (fo 58 57 56 (.seq (.block 1 (aa [cq 59 2 55 57,bh 60 2 59,cU (.alloc 14 none (.agg [.int .i64 0,.int .i64 0])),b1 2 14 60] (aa [aK 61 0 1 14,aw 62 1 61,aK 63 1 1 10,aw 64 1 63,bp 65 .eql 62 64] (aU 65 (.seq (aa [aK 66 1 1 14,aw 67 1 66,I 68 3,bp 69 .neq 67 68] (aU 69 (aa [e1 8 2,bs 9 false] .ret) .skip)) (.seq (.pubB 12 (.region [aw 70 1 12,I 8 70,bs 9 true])) .ret)) .skip)))) (.region [aS 71 .add 57 1,I 57 71])))) (aa [aw 72 1 12,aK 73 1 1 10,aw 74 1 73,I 75 3,bH 76 (.build [.int .i64 0,.int .i64 0] [(0,1,(.t 74)),(1,1,(.t 75))]),eE 77 2 78 [.t 76],cU (.appm 78 none 2 78 (.t 72) (.t 77)),b1 1 12 78] (aa [aw 79 1 12,bH 80 (.mkif 32 (.t 79)),bH 81 (.mkf 186 [.t 12]),ch 82 185 80 81] (.seq (.pubB 12 (.region [aw 83 1 12,I 8 83,bs 9 true])) .ret))))))))))
def GL:C:=(aa [c6 6 2,cU (.box 7 (some 811) (.t 3)),e1 8 2,bs 9 false] (.seq (aa [I 17 0,cI 18 82 17,cH 19 18,I 20 19,ax 20 false (bh 21 4 6),ax 20 false (cI 22 101 21),ax 20 false (cH 23 22),dy 24 20 23,I 25 24,ck 25 false 26 1,ax 25 false (cI 27 84 26),ax 25 false (cH 28 27),dy 29 25 28,I 30 29,ax 30 false (aw 31 1 7),ax 30 false (cI 32 133 31),ax 30 false (cH 33 32),dy 34 30 33] (aU 34 (aa [e1 8 2,bs 9 false] .ret) .skip)) (aa [I 36 0,bh 37 4 6,ch 38 59 36 37,I 35 38,dr 39 0 35,dr 40 1 35,dV 10 eb,b1 4 10 39,I 11 40] (.seq (aa [I 41 11,cH 42 41,I 43 42,ax 43 false (bh 44 4 10),ax 43 false (aw 45 1 7),ax 43 false (ch 46 187 44 45),dy 47 43 46] (aU 47 (aa [e1 8 2,bs 9 false] .ret) .skip)) (aa [cU (.mkmap 48 (some 812)),cU (.alloc 12 (some 813) (.junk)),b1 1 12 48] (.seq (aa [I 49 1,cd 50 49,bT 51 0] (fo 52 51 50 (.seq (.block 1 (aa [cq 53 2 49 51,bh 54 2 53,cU (.alloc 14 none (.agg [.int .i64 0,.str []])),b1 2 14 54] (.region [aw 55 1 12,bh 56 2 14,cU (.mput (.a [false,true]) (.t 55) (.t 56) (.c (.bool true)))]))) (.region [aS 57 .add 51 1,I 51 57])))) (aa [bh 58 4 10,bH 59 (.mkf 188 [.t 12,.t 7]),ch 60 131 58 59] (aa [cU (.bslm 61 (some 814) 2 82 []),cU (.alloc 15 (some 815) (.slice 2 .nil [])),b1 1 15 61] (.seq (aa [aw 62 1 12,cU (.range 63 none (.t 62))] (.block 2 (.loop (aa [⟨none,.next 64 (.t 63)⟩,dr 65 0 64] (.seq (aU 65 .skip (.exit 2)) (.block 3 (aa [bH 66 (.ment (.t 63)),dr 67 0 66,cU (.alloc 16 none (.agg [.int .i64 0,.str []])),b1 2 16 67] (.region [aw 68 1 15,bh 69 2 16,eE 70 2 82 [.t 69],cU (.appm 71 none 2 82 (.t 68) (.t 70)),b1 1 15 71])))))))) (aa [aw 72 1 15,bH 73 (.mkif 33 (.t 72)),bH 74 (.mkf 189 [.t 15]),ch 75 185 73 74] (.seq (.pubB 15 (.region [aw 76 1 15,I 8 76,bs 9 true])) .ret)))))))))))
def RO:C:=(aa [bs 5 false] (.seq (.drawn true 17 [aw 6 1 2,I 7 0,cq 8 2 6 7,aK 9 0 1 8,aw 10 1 9,aw 11 1 2,I 12 1,cq 13 2 11 12,aK 14 0 1 13,aw 15 1 14,bp 16 .lss 10 15,I 5 16]) .ret))
def GO:C:=(aa [c6 2 0,bs 4 false] (.seq (aa [aK 5 0 1 2,aw 6 1 5,aS 7 .eql 6 4] (aU 7 (aa [aK 8 3 1 2,aw 9 1 8,iy 10 4 9 0,bh 11 4 10,I 12 1,ch 13 187 11 12,I 14 13,ax 14 false (aK 15 3 1 2),ax 14 false (aw 16 1 15),ax 14 false (iy 17 4 16 1),ax 14 false (bh 18 4 17),ck 14 false 19 1,ax 14 false (ch 20 187 18 19),dy 21 14 20,I 4 21] .ret) .skip)) (aa [aK 22 0 1 2,aw 23 1 22,aS 24 .eql 23 2,I 25 24,ax 25 true (aK 26 2 1 2),ax 25 true (aw 27 1 26),ck 25 true 28 1,ax 25 true (bp 29 .eql 27 28),ei 30 25 29,I 4 30] .ret)))
def RM:C:=(.region [aw 4 1 1,I 5 0,aw 6 1 2,bH 7 (.build [.int .i64 0,.str []] [(0,1,(.t 5)),(1,1,(.t 6))]),cU (.mput (.a [false,true]) (.t 4) (.t 7) (.c (.bool true)))])
def RN:C:=(aa [bs 5 false] (.seq (.drawn true 15 [aw 6 1 2,I 7 0,cq 8 2 6 7,bh 9 2 8,aw 10 1 2,I 11 1,cq 12 2 10 11,bh 13 2 12,ch 14 134 9 13,I 5 14]) .ret))
def amW:b4 aT RW [.tmp 2] 1 Tryz.f83=true:=an
def amX:b4 aT RX [.tmp 2] 1 Tryz.f84=true:=an
def Ov:b4 aT GM [.tmp 4] 2 Tryz.f134=true:=an
def tO:b4 aT r1 [.tmp 8,.tmp 9] 4 Tryz.f167=true:=an
def Ou:b4 aT GL [.tmp 8,.tmp 9] 4 Tryz.f168=true:=an
def amO:b4 aT RO [.tmp 5] 3 Tryz.f186=true:=an
def Ox:b4 aT GO [.tmp 4] 2 Tryz.f187=true:=an
def amM:b4 aT RM [] 3 Tryz.f188=true:=an
def amN:b4 aT RN [.tmp 5] 3 Tryz.f189=true:=an
def nn(x:bR):Prop:=(0<=x.v/\x.v<=100000)/\(x.k=2\/x.k=3)
def oC(x y:bR):Prop:=x.v<y.v
def Ip{l:List bR}:iR l↔∀i,i<l.length->jb nn oC l i:=by rw[Ra (p:=nn) (r:=oC) (fun a b c J U=>by unfold oC at*;omega)];exact⟨fun h=>⟨h.at',h.asc⟩,fun h=>⟨h.1,h.2⟩⟩
def k6(x:bq):Prop:=(0<=x.v/\x.v<=100000)/\jg x.s=true
def lC(x y:bq):Prop:=fO x y<0
def IG{l:List bq}:iH l↔∀i,i<l.length->jb k6 lC l i:=by rw[Ra (p:=k6) (r:=lC) (fun a b c J U=>by unfold lC at*;exact mN.ltr J (Int.le_of_lt U))];exact⟨fun h=>⟨h.at',h.asc⟩,fun h=>⟨h.1,h.2⟩⟩
open Classical in
def abt(l:List bR):bK ar 83 [.slice 2 .no (l.map bR.e)] (.bool (decide (iR l))):=by
 generalize bg:decide (iR l)=R;refine br a7 Tryz.func83 amW fun p=>?_;unfold RW;have r:l.length<=68719476736:=by simp[eV,eN,eS,lim]at p;omega
 simp;refine eH [0,5,6] (fun i (_:Unit)=>[(7,.int .i64 i)]) l.length (fun i _=> ∀j,j<i->jb nn oC l j) () bU (fun k v=>Ω) (fun _ d _=>?_) (fun i _ hi d _=>?_)
 ·have:R=true:=by rw[<-bg,e3,Ip];exact d
  rw[this];exact ca
 ·obtain⟨b,ae⟩:∃b,l[i]? =some b:=⟨_,cl hi⟩;obtain⟨c,aA⟩:∃c,l[i-1]? =some c:=⟨_,cl Ω⟩;have m:∀h,(l[i]'h)=b:=fun h=>by rw[cl hi]at ae;exact ft ae
  have n:¬jb nn oC l i->R=false:=fun h=>by rw[<-bg,hb];exact fun a=>h (Ip.1 a i hi)
  have dd:jb nn oC l i->∀j,j<i+1->jb nn oC l j:=fun h j q=>by
   by_cases e:j=i
   ·rw[e];exact h
   ·exact d j Ω
  simp[hi,m,aA];((repeat' first|refine ak ?_|simp[m,aA,hi]|((first|apply bV|apply b0|apply bZ)<;>intro h<;>try simp at h))<;>(try exact cA));all_goals first
   |(have o:¬jb nn oC l i:=by(intro a;have J:=a b ae;have U:=J.2 c;have u:=J.1;unfold nn oC at*;first|omega|(have w:=U Ω aA;omega)|(simp_all;done)|(simp_all;omega))
     rw[n o]
     simp[bF,aX,aY,aW]
     done)
   |(refine bQ.rng () hi (dd fun cf g=>?_) ?_
     ·rw[ae]at g;cases g
      refine⟨?_,fun s t f=>?_⟩
      ·unfold nn;first|(simp_all;done)|(simp_all;omega)
      ·rw[aA]at f;cases f;unfold oC;simp_all
     ·exact bU)
def CX(a b:bq):bK ar 134 [a.e,b.e] (.bool (ix fO a b)):=by
 rw[<-YE];have bg:u6 a b=(decide (a.v<b.v)||(a.v==b.v&&h5 a.s b.s)):=rfl;rcases Int.lt_trichotomy a.v b.v with h|h|h
 ·have:u6 a b=true:=by rw[bg];simp[h]
  rw[this];refine br a7 Tryz.func134 Ov fun c=>?_;unfold GM;exact ca
 ·have J:¬a.v<b.v:=Ω
  have U:(a.v==b.v)=true:=by simp[h]
  have:u6 a b=h5 a.s b.s:=by rw[bg];simp[h]
  rw[this];refine br a7 Tryz.func134 Ov fun c=>?_;unfold GM;exact ca
 ·have J:¬a.v<b.v:=Ω
  have U:¬a.v=b.v:=Ω
  have d:(a.v==b.v)=false:=by simp[U]
  have:u6 a b=false:=by rw[bg];simp[J,U]
  rw[this];refine br a7 Tryz.func134 Ov fun c=>?_;unfold GM;exact ca
open Classical in
def abv(l:List bq):bK ar 84 [.slice 2 .no (l.map bq.e)] (.bool (decide (iH l))):=by
 generalize bg:decide (iH l)=R;refine br a7 Tryz.func84 amX fun u=>?_;unfold RX;have w:l.length<=68719476736:=by simp[eV,eN,eS,lim]at u;omega
 simp;refine eH [0,5,6] (fun i (_:Unit)=>[(7,.int .i64 i)]) l.length (fun i _=> ∀j,j<i->jb k6 lC l j) () bU (fun k y=>Ω) (fun _ n _=>?_) (fun i _ hi n _=>?_)
 ·have:R=true:=by rw[<-bg,e3,IG];exact n
  rw[this];exact ca
 ·obtain⟨b,ae⟩:∃b,l[i]? =some b:=⟨_,cl hi⟩;obtain⟨c,aA⟩:∃c,l[i-1]? =some c:=⟨_,cl Ω⟩;have a:∀h,(l[i]'h)=b:=fun h=>by rw[cl hi]at ae;exact ft ae
  have r:¬jb k6 lC l i->R=false:=fun h=>by rw[<-bg,hb];exact fun t=>h (IG.1 t i hi)
  have dd:jb k6 lC l i->∀j,j<i+1->jb k6 lC l j:=fun h j v=>by
   by_cases e:j=i
   ·rw[e];exact h
   ·exact n j Ω
  have f:∀p:Prop,(p->eF)->(jb k6 lC l i->p)->R=false:=fun p J U=>r fun h=>J (U h);have d:jb k6 lC l i->k6 b:=fun h=>(h b ae).1;have s:jb k6 lC l i->0<i->ix fO c b=true:=fun h m=>by simpa[ix,lC]using(h b ae).2 c m aA
  have g:k6 b->(0<i->ix fO c b=true)->jb k6 lC l i:=fun J U cf q=>by rw[ae]at q;cases q;exact⟨J,fun x m o=>by rw[aA]at o;cases o;simpa[ix,lC]using U m⟩
  unfold k6 at d g;by_cases g1:b.v<0
  ·rw[f _ (fun h=>Ω) (fun h=>(d h).1.1)];exact ca
  by_cases g2:100000<b.v
  ·rw[f _ (fun h=>Ω) (fun h=>(d h).1.2)];exact ca
  cases g3:jg b.s
  ·rw[f _ (fun h=>by rw[h]at g3;cases g3) (fun h=>(d h).2)];simp[hi,a,aA];(repeat' first|refine ak ?_|refine aI (vk _) ?_|refine aJ (vk _) ?_|simp[a,aA,hi,g1,g2,g3]);simp[bF,aX,aY,aW]
  by_cases g4:0<i
  ·cases g5:ix fO c b
   ·rw[f _ (fun h=>by rw[h]at g5;cases g5) (fun h=>s h g4)];simp[hi,a,aA];(repeat' first|refine ak ?_|refine aI (vk _) ?_|refine aJ (vk _) ?_|refine aI (CX _ _) ?_|refine aJ (CX _ _) ?_|simp[a,aA,hi,g1,g2,g3,g4,g5]);simp[bF,aX,aY,aW]
   ·simp[hi,a,aA];(repeat' first|refine ak ?_|refine aI (vk _) ?_|refine aJ (vk _) ?_|refine aI (CX _ _) ?_|refine aJ (CX _ _) ?_|simp[a,aA,hi,g1,g2,g3,g4,g5]);exact bQ.rng () hi (dd (g ⟨⟨Ω,Ω⟩,g3⟩ fun _=>g5)) bU
  ·obtain rfl:i=0:=Ω
   simp[hi,a,aA];(repeat' first|refine ak ?_|refine aI (vk _) ?_|refine aJ (vk _) ?_|simp[a,aA,hi,g1,g2,g3,g4]);exact bQ.rng () hi (dd (g ⟨⟨Ω,Ω⟩,g3⟩ fun h=>Ω)) bU
def asu(s:List b7):∀t:T,bK ar 187 [t.e,.str s] (.bool (t.has s)):=by
 intro t;induction t with
 |pair a b d c=>
  refine br a7 Tryz.func187 Ox fun f=>?_;unfold GO;simp;cases e:a.has s<;>cases ae:b.has s<;>rw[e]at d<;>rw[ae]at c;all_goals(repeat' first|refine ak ?_|refine aI d ?_|refine aJ d ?_|refine aI c ?_|refine aJ c ?_|simp)
  all_goals simp[bF,aX,aY,aW]
  all_goals simp[T.has,e,ae]
 |sym n=>
  refine br a7 Tryz.func187 Ox fun f=>?_;unfold GO;simp;(repeat' first|refine ak ?_|simp);all_goals simp[bF,aX,aY,aW]
  all_goals simp[T.has]
 |_=>
  refine br a7 Tryz.func187 Ox fun f=>?_;unfold GO;simp;(repeat' first|refine ak ?_|simp);all_goals simp[bF,aX,aY,aW]
  all_goals simp[T.has]
def Tj:C:=(aa [c6 2 0] (aa [bT 4 20] (aa [I 8 4,bT 5 0,I 6 8] (.seq (.block 0 (.loop (.seq (aa [I 9 6,I 10 1,bp 11 .leq 9 10] (aU 11 .skip (.exit 0))) (.block 1 (aa [bh 12 2 2,I 13 5,I 14 6,ec 15 224 [.t 12,.t 13,.t 14]] (aa [I 16 6,I 5 16] (.region [I 17 6,I 18 4,bp 19 .add 17 18,I 6 19]))))))) (aa [bh 20 2 2,I 21 5,I 22 1,ec 23 224 [.t 20,.t 21,.t 22]] (.block 2 (.loop (.seq (aa [I 24 4,I 25 1,bp 26 .lss 24 25] (aU 26 .skip (.exit 2))) (.block 3 (aa [I 27 4,bH 28 (.bin .mul false (gu 2) (.t 27)),bT 5 0,I 6 28] (.seq (.block 4 (.loop (.seq (aa [I 29 6,I 30 1,bp 31 .leq 29 30] (aU 31 .skip (.exit 4))) (.block 5 (aa [bh 32 2 2,I 33 5,I 34 5,I 35 4,bp 36 .add 34 35,I 37 6,ec 38 225 [.t 32,.t 33,.t 36,.t 37]] (aa [I 39 6,I 5 39] (.region [I 40 6,I 41 4,bH 42 (.bin .mul false (gu 2) (.t 41)),bp 43 .add 40 42,I 6 43]))))))) (.seq (aa [I 44 5,I 45 4,bp 46 .add 44 45,I 7 46] (aa [I 47 7,I 48 1,bp 49 .lss 47 48] (aU 49 (.region [bh 50 2 2,I 51 5,I 52 7,I 53 1,ec 54 225 [.t 50,.t 51,.t 52,.t 53]]) .skip))) (.region [I 55 4,aS 56 .mul 55 2,I 4 56])))))))))))))
def K8:C:=(aa [c6 3 0] (aa [I 8 1,aS 9 .add 8 1,I 6 9] (.block 0 (.loop (.seq (aa [I 10 6,I 11 2,bp 12 .lss 10 11] (aU 12 .skip (.exit 0))) (.seq (.block 1 (aa [I 15 6,I 7 15] (.block 2 (.loop (.seq (aa [I 16 7,I 17 1,bp 18 .gtr 16 17,I 19 18,ax 19 true (aK 20 0 1 3),ax 19 true (aw 21 1 20),ck 19 true 22 7,ck 19 true 23 7,ax 19 true (aS 24 .sub 23 1),ax 19 true (hx 25 21 [.t 22,.t 24]),ei 26 19 25] (aU 26 .skip (.exit 2))) (.seq (.block 3 (.region [aK 29 1 1 3,aw 30 1 29,I 31 7,I 32 7,aS 33 .sub 32 1,hx 34 30 [.t 31,.t 33]])) (.region [I 27 7,aS 28 .sub 27 1,I 7 28]))))))) (.region [I 13 6,aS 14 .add 13 1,I 6 14])))))))
def GV:C:=(aa [I 164 16,I 165 22,bp 166 .lss 164 165,I 167 166,ck 167 true 168 22,ck 167 true 169 3,ax 167 true (bp 170 .lss 168 169),ei 171 167 170] (aU 171 (.region [bh 172 2 4,I 173 16,I 174 22,I 175 3,ec 176 225 [.t 172,.t 173,.t 174,.t 175]]) .skip))
def GW:C:=(.seq (aa [I 151 1,I 152 18,bp 153 .lss 151 152,I 154 153,ck 154 true 155 18,ck 154 true 156 16,ax 154 true (bp 157 .lss 155 156),ei 158 154 157] (aU 158 (.region [bh 159 2 4,I 160 1,I 161 18,I 162 16,ec 163 225 [.t 159,.t 160,.t 161,.t 162]]) .skip)) GV)
def Lc:C:=(.seq (aa [I 138 18,I 139 2,bp 140 .lss 138 139,I 141 140,ck 141 true 142 2,ck 141 true 143 22,ax 141 true (bp 144 .lss 142 143),ei 145 141 144] (aU 145 (.region [bh 146 2 4,I 147 18,I 148 2,I 149 22,ec 150 246 [.t 146,.t 147,.t 148,.t 149]]) .skip)) GW)
def Ld:C:=(aa [I 113 17,aS 114 .sub 113 1,I 20 114] (.seq (.block 8 (.loop (.seq (aa [I 115 18,I 116 19,bp 117 .lss 115 116] (aU 117 .skip (.exit 8))) (.block 9 (aa [I 118 18,I 119 19,bp 120 .add 118 119,bH 121 (.conv .u64 (.t 120)),bH 122 (.bin .shr false (.t 121) (.c (.int .u64 1))),bH 123 (.conv .i64 (.t 122)),I 21 123] (aa [aK 124 0 1 4,aw 125 1 124,I 126 20,I 127 21,bp 128 .sub 126 127,I 129 21,hx 130 125 [.t 128,.t 129],cH 131 130] (aU 131 (.region [I 132 21,aS 133 .add 132 1,I 18 133]) (.region [I 134 21,I 19 134])))))))) (aa [I 135 17,I 136 18,bp 137 .sub 135 136,I 22 137] Lc)))
def Tl:C:=(aa [c6 4 0] (.seq (aa [I 23 2,I 24 1,bp 25 .sub 23 24,aS 26 .eql 25 1] (aU 26 (aa [I 27 2,I 8 27] (aa [I 28 3,I 9 28] (.seq (.block 0 (.loop (.seq (aa [I 29 8,I 30 9,bp 31 .lss 29 30] (aU 31 .skip (.exit 0))) (.block 1 (aa [I 32 8,I 33 9,bp 34 .add 32 33,bH 35 (.conv .u64 (.t 34)),bH 36 (.bin .shr false (.t 35) (.c (.int .u64 1))),bH 37 (.conv .i64 (.t 36)),I 10 37] (aa [aK 38 0 1 4,aw 39 1 38,I 40 10,I 41 1,hx 42 39 [.t 40,.t 41]] (aU 42 (.region [I 43 10,aS 44 .add 43 1,I 8 44]) (.region [I 45 10,I 9 45])))))))) (.seq (aa [I 46 1,I 11 46] (.block 2 (.loop (.seq (aa [I 47 11,I 48 8,aS 49 .sub 48 1,bp 50 .lss 47 49] (aU 50 .skip (.exit 2))) (.seq (.block 3 (.region [aK 53 1 1 4,aw 54 1 53,I 55 11,I 56 11,aS 57 .add 56 1,hx 58 54 [.t 55,.t 57]])) (.region [I 51 11,aS 52 .add 51 1,I 11 52])))))) .ret)))) .skip)) (.seq (aa [I 59 3,I 60 2,bp 61 .sub 59 60,aS 62 .eql 61 1] (aU 62 (aa [I 63 1,I 12 63] (aa [I 64 2,I 13 64] (.seq (.block 4 (.loop (.seq (aa [I 65 12,I 66 13,bp 67 .lss 65 66] (aU 67 .skip (.exit 4))) (.block 5 (aa [I 68 12,I 69 13,bp 70 .add 68 69,bH 71 (.conv .u64 (.t 70)),bH 72 (.bin .shr false (.t 71) (.c (.int .u64 1))),bH 73 (.conv .i64 (.t 72)),I 14 73] (aa [aK 74 0 1 4,aw 75 1 74,I 76 2,I 77 14,hx 78 75 [.t 76,.t 77],cH 79 78] (aU 79 (.region [I 80 14,aS 81 .add 80 1,I 12 81]) (.region [I 82 14,I 13 82])))))))) (.seq (aa [I 83 2,I 15 83] (.block 6 (.loop (.seq (aa [I 84 15,I 85 12,bp 86 .gtr 84 85] (aU 86 .skip (.exit 6))) (.seq (.block 7 (.region [aK 89 1 1 4,aw 90 1 89,I 91 15,I 92 15,aS 93 .sub 92 1,hx 94 90 [.t 91,.t 93]])) (.region [I 87 15,aS 88 .sub 87 1,I 15 88])))))) .ret)))) .skip)) (aa [I 95 1,I 96 3,bp 97 .add 95 96,bH 98 (.conv .u64 (.t 97)),bH 99 (.bin .shr false (.t 98) (.c (.int .u64 1))),bH 100 (.conv .i64 (.t 99)),I 16 100] (aa [I 101 16,I 102 2,bp 103 .add 101 102,I 17 103] (aa [bT 18 0,bT 19 0] (.seq (aa [I 104 2,I 105 16,bp 106 .gtr 104 105] (aU 106 (aa [I 107 17,I 108 3,bp 109 .sub 107 108,I 18 109] (.region [I 110 16,I 19 110])) (aa [I 111 1,I 18 111] (.region [I 112 2,I 19 112])))) Ld)))))))
def Th:C:=(aa [c6 4 0] (aa [I 10 2,I 11 1,bp 12 .sub 10 11,I 8 12] (aa [I 13 3,I 14 2,bp 15 .sub 13 14,I 9 15] (.seq (.block 0 (.loop (.seq (aa [I 16 8,I 17 9,bp 18 .neq 16 17] (aU 18 .skip (.exit 0))) (.block 1 (aa [I 19 8,I 20 9,bp 21 .gtr 19 20] (aU 21 (aa [bh 22 2 4,I 23 2,I 24 8,bp 25 .sub 23 24,I 26 2,I 27 9,ec 28 255 [.t 22,.t 25,.t 26,.t 27]] (.region [I 29 8,I 30 9,bp 31 .sub 29 30,I 8 31])) (aa [bh 32 2 4,I 33 2,I 34 8,bp 35 .sub 33 34,I 36 2,I 37 9,bp 38 .add 36 37,I 39 8,bp 40 .sub 38 39,I 41 8,ec 42 255 [.t 32,.t 35,.t 40,.t 41]] (.region [I 43 9,I 44 8,bp 45 .sub 43 44,I 9 45])))))))) (.region [bh 46 2 4,I 47 2,I 48 8,bp 49 .sub 47 48,I 50 2,I 51 8,ec 52 255 [.t 46,.t 49,.t 50,.t 51]])))))
def Tk:C:=(aa [c6 4 0] (aa [bT 8 0] (.block 0 (.loop (.seq (aa [I 9 8,I 10 3,bp 11 .lss 9 10] (aU 11 .skip (.exit 0))) (.seq (.block 1 (.region [aK 14 1 1 4,aw 15 1 14,I 16 1,I 17 8,bp 18 .add 16 17,I 19 2,I 20 8,bp 21 .add 19 20,hx 22 15 [.t 18,.t 21]])) (.region [I 12 8,aS 13 .add 12 1,I 8 13])))))))
def aof:b4 aT Tj [] 2 Tryz.f197=true:=an
def Y9:b4 aT K8 [] 3 Tryz.f224=true:=an
def aoh:b4 aT Tl [] 4 Tryz.f225=true:=an
def aod:b4 aT Th [] 4 Tryz.f246=true:=an
def aog:b4 aT Tk [] 4 Tryz.f255=true:=an
end
section
open Go Go.Pv
structure fH {α:Type} (S:List α->cS) (n:Nat) (g cm:Nat) (lc cc:List ah) (lt:α->α->Bool):Prop where
 ok:∀l,ea (S l)
 same:∀l bc,l.length=n->bc.length=n->Same (S l) (S bc)
 klc:∀l,l.length=n->ay (inObs (S l)) lc
 ksc:∀l,l.length=n->ay (inObs (S l)) cc
 slc:cR lc=lc
 ssc:cR cc=cc
 le:n<=68719476736
 less:∀l,l.length=n->∀(i j:Nat) x y,l[i]? =some x->l[j]? =some y->bG ar g (.int .i64 i:: .int .i64 j::lc) (S l) fun r aj=>r= .bool (lt x y)/\aj=S l
 swap:∀l,l.length=n->2<=n->∀i j:Nat,i<n->j<n->bG ar cm (.int .i64 i:: .int .i64 j::cc) (S l) fun r aj=>r= .tuple []/\aj=S (hR l i j)
variable {α:Type} {S:List α->cS} {n g cm:Nat} {lc cc:List ah} {lt:α->α->Bool}
def fx(g cm:Nat)(lc cc:List ah):ah:= .agg [.func g lc,.func cm cc]
def Mc(H:fH S n g cm lc cc lt)(l:List α)(f:l.length=n)(a b c:Nat)(p:a+c<=b)(v:b+c<=n):
  bG ar 255 [fx g cm lc cc,.int .i64 a,.int .i64 b,.int .i64 c] (S l) fun r o=>r= .tuple []/\∃h,o=S h/\gT a (b+c) l h/\∀k,h[k]? =l[ua a b c k]?:=by
 have j:=H.ok l;have d:∀l m,Pv.look (.loc m) (S l).b=none:=fun l=>(H.ok l).obj.1;have hu:∀l m cs,cG (.loc m) cs (S l).b=(S l).b++[(.loc m,cs)]:=fun l m cs=>ku (d l m);have al:∀m,aB.loc m∉di (S l):=kq j.obj;have hle:=H.le;refine bG.mk mixed a7 Tryz.func255 aog Ψ j.obj fun u t=>?_;unfold Tk;simp[fx,hu,al,cT,d,H.slc,H.ssc];refine gb (fun i (lk:List α)=>⟨[(1,.int .i64 a),(2,.int .i64 b),(3,.int .i64 c),(4,.ptr (.loc 0) 0),(8,.int .i64 i)],[(.loc 0,[.func g lc,.func cm cc])]++(S lk).b,(S lk).e,1,di (S l)⟩) c (fun i lk=>lk.length=n/\gT a (b+c) l lk/\∀k,lk[k]? =l[ua a b i k]?) l
  (jE.obL j (Same.refl _) go (by simp[cT,d,au,ay,Ck (H.klc l f),Ck (H.ksc l f)]) aG aG) ⟨f,.refl _,fun k=>by simp[ua];split<;>(try split)<;>(try rfl)<;>(exfalso;omega)⟩ ?_ ?_
 ·rintro lk ⟨J,U,e⟩ _;simp;refine cJ.at (S lk) (.inr rfl) (H.ok lk) (H.same _ _ f J) aG aG ?_;simp[cM,aX,aY,aW];exact⟨lk,rfl,U,e⟩
 ·rintro i lk hi ⟨J,U,e⟩ _;have q:((a:Int)+i)=(a+i:Nat):=Ω
  have s:((b:Int)+i)=(b+i:Nat):=Ω
  simp[hi,cT,d,H.ssc];(repeat' first|refine ak ?_|simp);rw[q,s];refine cx.ob (H.swap lk J Ω (a+i) (b+i) Ω Ω) (H.ok lk) aG aG (by simp[H.ksc lk J]) ?_;rintro r o ⟨rfl,rfl⟩;refine⟨H.same _ _ J (by simp[J]),?_⟩;simp[hn,iM,bW,d];(repeat' first|refine ak ?_|simp);refine bQ.rng (hR lk (a+i) (b+i)) hi ⟨by simp[J],.step U Ω Ω Ω Ω Ω Ω,fun k=>?_⟩ (jE.obL (L:=[(.loc 0,[.func g lc,.func cm cc])]) (H.ok _) (H.same _ _ f (by simp[J])) go (by simp[cT,d,au,ay,Ck (H.klc (hR lk (a+i) (b+i)) (by simp[J])),Ck (H.ksc (hR lk (a+i) (b+i)) (by simp[J]))]) aG aG);rw[Ca _ _ _ _ Ω Ω,e,e,e];have:ua a b (i+1) k=if k=a+i then ua a b i (b+i)else if k=b+i then ua a b i (a+i)else ua a b i k:=by
   simp only[ua];repeat' split
   all_goals omega
  rw[this];split
  ·rfl
  ·split<;>rfl
section
variable (H:fH S n g cm lc cc lt)
include H
theorem fH.loc{l:List α}(m:Nat):Pv.look (.loc m) (S l).b=none:=(H.ok l).obj.1 m
theorem fH.weak{l lk:List α}(d:l.length=n)(a:lk.length=n){st:bn}{b:List (Nat×ah)}(aM:∀x∈b,Pv.get x.1 st.t=x.2/\au (nq (S lk) 1) x.2)(c:Pv.look (.loc 0) st.b=some [.func g lc,.func cm cc])
  (ae:∀k cs,Pv.look k (S lk).b=some cs->Pv.look k st.b=some cs) (he:∀k o,Pv.look k (S lk).e=some o->Pv.look k st.e=some o):
  jE (di (S l)) st ⟨b,(.loc 0,[.func g lc,.func cm cc])::(S lk).b,(S lk).e,1,di (S l)⟩:=
 jE.obL (L:=[(.loc 0,[.func g lc,.func cm cc])]) (H.ok _) (H.same _ _ d a) aM (by simp[c,au,ay,Ck (H.klc lk a),Ck (H.ksc lk a)]) ae he
theorem fH.weakC{l lk:List α}(c:l.length=n)(d:lk.length=n){t b:List (Nat×ah)}{q:Nat}{o:List aB}(aM:∀x∈b,Pv.get x.1 t=x.2/\au (nq (S lk) 1) x.2):
  jE (di (S l)) ⟨t,(.loc 0,[.func g lc,.func cm cc])::(S lk).b,(S lk).e,q,o⟩ ⟨b,(.loc 0,[.func g lc,.func cm cc])::(S lk).b,(S lk).e,1,di (S l)⟩:=
 H.weak c d aM i7 (fun k cs a=>by
  cases k with
  |loc m=>rw[H.loc m]at a;cases a
  |obj m=>simpa[Pv.look]using a) (fun _ _ a=>a)
theorem fH.call{lk:List α}(J:lk.length=n){f:Nat}{args:List ah}{R:ah->List α->Prop}(j:bG ar f args (S lk) fun r c=> ∃a,c=S a/\R r a)(bg:∀r a,R r a->a.length=n)(i:ay (inObs (S lk)) args){t:List (Nat×ah)}{D:List ah}{o:List aB}{d:aZ Nat}{K:bn->Prop}
  (h:∀r a,R r a->K ⟨eY d r t,(.loc 0,D)::(S a).b,(S a).e,1,o++di (S a)⟩):cx ar f args ⟨t,(.loc 0,D)::(S lk).b,(S lk).e,1,o⟩ d K:=by
 refine cx.ob j (H.ok lk) (fun k cs b=>?_) (fun _ _ b=>b) i ?_
 ·cases k with
  |loc m=>rw[H.loc m]at b;cases b
  |obj m=>simpa[Pv.look]using b
 ·rintro r c ⟨a,rfl,e⟩;refine⟨H.same _ _ J (bg _ _ e),?_⟩;have g:bW (S lk).b ((.loc 0,D)::(S lk).b)=[(.loc 0,D)]:=by have:=iM (S lk).b [(aB.loc 0,D)] (S lk).b;rw[hn]at this;simpa[bW,H.loc]using this
  have l:bW (S lk).e (S lk).e=[]:=hn _;have:=h _ _ e;simp only[g,l];exact this
theorem fH.doSwap{lk:List α}(J:lk.length=n)(i j:Nat)(hi:i<n)(c:j<n)(U:2<=n){t:List (Nat×ah)}{D:List ah}{o:List aB}{d:aZ Nat}{K:bn->Prop}
  (h:K ⟨eY d (.tuple []) t,(.loc 0,D)::(S (hR lk i j)).b,(S (hR lk i j)).e,1,o++di (S (hR lk i j))⟩):cx ar cm (.int .i64 i:: .int .i64 j::cc) ⟨t,(.loc 0,D)::(S lk).b,(S lk).e,1,o⟩ d K:=
 H.call J (R:=fun r a=>r= .tuple []/\a=hR lk i j) ((H.swap lk J U i j hi c).mono fun r g ⟨b,f⟩=>⟨_,f,b,rfl⟩) (fun r a ⟨_,e⟩=>by rw[e];simp[J]) (by simp[au,ay,H.ksc lk J]) (by rintro r a ⟨rfl,rfl⟩;exact h)
theorem fH.doLess{lk:List α}(J:lk.length=n)(i j:Nat){x y:α}(hi:lk[i]? =some x)(c:lk[j]? =some y){t:List (Nat×ah)}{D:List ah}{o:List aB}{d:aZ Nat}{K:bn->Prop}
  (h:K ⟨eY d (.bool (lt x y)) t,(.loc 0,D)::(S lk).b,(S lk).e,1,o++di (S lk)⟩):cx ar g (.int .i64 i:: .int .i64 j::lc) ⟨t,(.loc 0,D)::(S lk).b,(S lk).e,1,o⟩ d K:=
 H.call J (R:=fun r a=>r= .bool (lt x y)/\a=lk) ((H.less lk J i j x y hi c).mono fun r k ⟨b,f⟩=>⟨_,f,b,rfl⟩) (fun r a ⟨_,e⟩=>by rw[e];exact J) (by simp[au,ay,H.klc lk J]) (by rintro r a ⟨rfl,rfl⟩;exact h)
theorem fH.doFn{lk:List α}(J:lk.length=n){f:Nat}{args:List ah}{R:List α->Prop}(i:bG ar f args (S lk) fun r b=>r= .tuple []/\∃a,b=S a/\R a)(bg:∀a,R a->a.length=n)(g:ay (inObs (S lk)) args){t:List (Nat×ah)}{D:List ah}{o:List aB}{d:aZ Nat}{K:bn->Prop}
  (h:∀a,R a->K ⟨eY d (.tuple []) t,(.loc 0,D)::(S a).b,(S a).e,1,o++di (S a)⟩):cx ar f args ⟨t,(.loc 0,D)::(S lk).b,(S lk).e,1,o⟩ d K:=
 H.call J (R:=fun r a=>r= .tuple []/\R a) (i.mono fun r b ⟨e,a,k,c⟩=>⟨a,k,e,c⟩) (fun r a h=>bg a h.2) g (by rintro r a ⟨rfl,j⟩;exact h a j)
theorem fH.kdata{lk:List α}(J:lk.length=n):au (inObs (S lk)) (fx g cm lc cc):=by simp[fx,au,ay,H.klc lk J,H.ksc lk J]
theorem fH.ret{l lk:List α}(c:l.length=n)(J:lk.length=n){Q:ah->cS->Prop}{e:Exit}(he:e= .ret\/e= .normal){t:List (Nat×ah)}{D:List ah}{q:Nat}{o:List aB}(b:Q (.tuple []) (S lk)):cJ [] (S l) Q e ⟨t,(.loc 0,D)::(S lk).b,(S lk).e,q,o⟩:=by
 refine cJ.at (S lk) he (H.ok lk) (H.same _ _ c J) (fun k cs a=>?_) (fun _ _ a=>a) ?_
 ·cases k with
  |loc m=>rw[H.loc m]at a;cases a
  |obj m=>simpa[Pv.look]using a
 ·simp[cM,aX,aW,au,ay,b]
end
def jj(H:fH S n g cm lc cc lt):de (fx g cm lc cc)=fx g cm lc cc:=by simp[fx,de,cR,H.slc,H.ssc]
def jc:ah.agg [.func g lc,.func cm cc]=fx g cm lc cc:=rfl
def aiP(H:fH S n g cm lc cc lt)(l:List α)(f:l.length=n)(a m b:Nat)(E:a<m)(A:m<b)(ae:b<=n):
  bG ar 246 [fx g cm lc cc,.int .i64 a,.int .i64 m,.int .i64 b] (S l) fun r y=>r= .tuple []/\∃c,y=S c/\gT a b l c/\∀k,c[k]? =l[iJ a m b k]?:=by
 have u:=H.ok l;have q:∀l m,Pv.look (.loc m) (S l).b=none:=fun l=>(H.ok l).obj.1;have hu:∀l m cs,cG (.loc m) cs (S l).b=(S l).b++[(.loc m,cs)]:=fun l m cs=>ku (q l m);have al:∀m,aB.loc m∉di (S l):=kq u.obj;have hle:=H.le;refine bG.mk mixed a7 Tryz.func246 aod Ψ u.obj fun D B=>?_;unfold Th;simp[fx,hu,al,cT,q];(repeat' first|refine ak ?_|simp[hu,al,cT,q]);refine mB (fun(x:(Nat×Nat)×List α)=>⟨[(2,.int .i64 m),(4,.ptr (.loc 0) 0),(8,.int .i64 x.1.1),(9,.int .i64 x.1.2)],(.loc 0,[.func g lc,.func cm cc])::(S x.2).b,(S x.2).e,1,di (S l)⟩) (fun x=>x.1.1+x.1.2)
  (fun x=>x.2.length=n/\0<x.1.1/\0<x.1.2/\a+x.1.1<=m/\m+x.1.2<=b/\gT a b l x.2/\∀k,l[iJ a m b k]? =x.2[iJ (m-x.1.1) m (m+x.1.2) k]?) ((m-a,b-m),l)
  (H.weak f f pm (by simp[cT,q]) aG aG) ⟨f,by simp;omega,by simp;omega,by simp;omega,by simp;omega,.refl _,fun k=>by simp[show m-(m-a)=a by omega,show m+(b-m)=b by omega]⟩ ?_
 rintro⟨⟨i,j⟩,lk⟩ ⟨J,hi,v,t,w,U,s⟩ _;simp only at J hi v t w U s;simp[Pv.look];((repeat' first|refine ak ?_|simp[Pv.look]|((first|apply bV|apply b0|apply bZ)<;>intro h<;>try simp at h))<;>(try exact cA))
 ·have p:((m:Int)-i)=(m-i:Nat):=Ω
  simp only[jj H,H.slc,H.ssc,p,jc];refine H.doFn J (Mc H lk J (m-i) m j Ω Ω) (fun c h=>by rw[h.1.length];exact J) (by simp[ay,au,H.kdata J]) ?_;rintro c ⟨d,o⟩;have e:c.length=n:=by rw[d.length];exact J
  simp;((repeat' first|refine ak ?_|simp|((first|apply bV|apply b0|apply bZ)<;>intro h<;>try simp at h))<;>(try exact cA));refine bQ.whl ((i-j,j),c) gc ⟨e,by simp;omega,v,by simp;omega,w,U.trans (d.mono Ω Ω),fun k=>?_⟩ (H.weakC f e pm);rw[s,o];congr 1;simp only[iJ,ua];repeat' split
  all_goals omega
 ·have p:((m:Int)-i)=(m-i:Nat):=Ω
  have z:((m:Int)+j-i)=(m+j-i:Nat):=Ω
  simp only[jj H,H.slc,H.ssc,p,z,jc];refine H.doFn J (Mc H lk J (m-i) (m+j-i) i Ω Ω) (fun c h=>by rw[h.1.length];exact J) (by simp[ay,au,H.kdata J]) ?_;rintro c ⟨d,o⟩;have e:c.length=n:=by rw[d.length];exact J
  simp;(repeat' first|refine ak ?_|simp);refine bQ.whl ((i,j-i),c) gc ⟨e,hi,by simp;omega,t,by simp;omega,U.trans (d.mono Ω Ω),fun k=>?_⟩ (H.weakC f e pm);rw[s,o];congr 1;simp only[iJ,ua];repeat' split
  all_goals omega
 ·have p:((m:Int)-i)=(m-i:Nat):=Ω
  simp only[jj H,H.slc,H.ssc,p,jc];refine H.doFn J (Mc H lk J (m-i) m i Ω Ω) (fun c h=>by rw[h.1.length];exact J) (by simp[ay,au,H.kdata J]) ?_;rintro c ⟨d,o⟩;have e:c.length=n:=by rw[d.length];exact J
  simp;refine H.ret f e (.inr rfl) ⟨rfl,c,rfl,U.trans (d.mono Ω Ω),fun k=>?_⟩;rw[s,o];congr 1;simp only[iJ,ua];repeat' split
  all_goals omega
end
section
open Go Go.Pv
variable {α:Type} {S:List α->cS} {n g cm:Nat} {lc cc:List ah} {lt:α->α->Bool}
def vw(lt:α->α->Bool)(a b j:Nat)(l:List α):Prop:= ∀p q x y,a<=p->p<q->q<b->q≠j->l[p]? =some x->l[q]? =some y->lt y x=false
def vw.swap(n:rU lt){a b j:Nat}{l:List α}(h:vw lt a b (j+1) l)(s:a<=j)(t:j+1<b)(r:j+1<l.length){x y:α}(g:l[j+1]? =some x)(d:l[j]? =some y)(m:lt x y=true):vw lt a b j (hR l (j+1) j):=by
 intro p q u v i k f o hu c;rw[Ca _ _ _ _ r Ω]at hu c;rw[if_neg (by omega:¬(q=j))]at c;split at c
 ·rename_i e;subst e;rw[d]at c;cases c;split at hu
  ·omega
  ·split at hu
   ·rw[g]at hu;cases hu;exact n.asym _ _ m
   ·exact h p j u y i Ω Ω Ω hu d
 ·split at hu
  ·rename_i e;subst e;rw[d]at hu;cases hu;exact h j q y v s Ω f Ω d c
  ·split at hu
   ·rename_i e;subst e;rw[g]at hu;cases hu;exact h (p+1) q x v Ω Ω f Ω g c
   ·exact h p q u v i k f Ω hu c
def vw.done(k:rU lt){a b j:Nat}{l:List α}(h:vw lt a b (j+1) l)(r:a<=j)(s:j+1<b){x y:α}(n:l[j+1]? =some x)(g:l[j]? =some y)(d:lt x y=false):fL lt a b l:=by
 intro p q u v f i m hu c;by_cases e:q=j+1
 ·subst e;rw[n]at c;cases c;by_cases o:p=j
  ·subst o;rw[g]at hu;cases hu;exact d
  ·exact k.ntr _ _ _ (h p j u y f Ω Ω Ω hu g) d
 ·exact h p q u v f i m e hu c
def vw.first{a b:Nat}{l:List α}(h:vw lt a b a l):fL lt a b l:=fun p q u v d c e hu f=>h p q u v d c e Ω hu f
def fL.but{a b:Nat}{l:List α}(h:fL lt a b l):vw lt a (b+1) b l:=fun p q u v d c f g hu e=>h p q u v d c Ω hu e
def Vs(H:fH S n g cm lc cc lt)(D:rU lt)(l:List α)(e:l.length=n)(a b:Nat)(Q:a<=b)(ae:b<=n):
  bG ar 224 [fx g cm lc cc,.int .i64 a,.int .i64 b] (S l) fun r N=>r= .tuple []/\∃u,N=S u/\gT a b l u/\fL lt a b u:=by
 have E:=H.ok l;have t:∀l m,Pv.look (.loc m) (S l).b=none:=fun l=>(H.ok l).obj.1;have hu:∀l m cs,cG (.loc m) cs (S l).b=(S l).b++[(.loc m,cs)]:=fun l m cs=>ku (t l m);have al:∀m,aB.loc m∉di (S l):=kq E.obj;have hle:=H.le;refine bG.mk mixed a7 Tryz.func224 Y9 Ψ E.obj fun W R=>?_;unfold K8;simp[fx,hu,al,cT,t];(repeat' first|refine ak ?_|simp[hu,al,cT,t]);refine mB (fun(x:Nat×List α)=>⟨[(1,.int .i64 a),(2,.int .i64 b),(3,.ptr (.loc 0) 0),(6,.int .i64 x.1)],(.loc 0,[.func g lc,.func cm cc])::(S x.2).b,(S x.2).e,1,di (S l)⟩) (fun x=>b+1-x.1)
  (fun x=>x.2.length=n/\a<x.1/\x.1<=b+1/\(x.1<=b\/x.1=a+1)/\gT a b l x.2/\fL lt a x.1 x.2) (a+1,l)
  (H.weak e e go (by simp[cT,t]) aG aG) ⟨e,Ψ,by simp;omega,.inr rfl,.refl _,fun i j x y J U f=>by simp at f;omega⟩ ?_
 rintro⟨i,lk⟩ ⟨J,G,P,F,U,f⟩ _;simp only at J G P F U f;simp;((repeat' first|refine ak ?_|simp|((first|apply bV|apply b0|apply bZ)<;>intro h<;>try simp at h))<;>(try exact cA))
 ·refine mB (fun(x:Nat×List α)=>⟨[(1,.int .i64 a),(2,.int .i64 b),(3,.ptr (.loc 0) 0),(6,.int .i64 i),(7,.int .i64 x.1)],(.loc 0,[.func g lc,.func cm cc])::(S x.2).b,(S x.2).e,1,di (S l)⟩) (fun x=>x.1)
   (fun x=>x.2.length=n/\a<=x.1/\x.1<=i/\gT a b l x.2/\vw lt a (i+1) x.1 x.2) (i,lk)
   (H.weakC e J go) ⟨J,by simp;omega,Ψ,U,fL.but f⟩ ?_
  rintro⟨j,k⟩ ⟨d,v,w,s,o⟩ _;simp only at d v w s o;simp[Pv.look];((repeat' first|refine ak ?_|simp[Pv.look]|((first|apply bV|apply b0|apply bZ)<;>intro h<;>try simp at h))<;>(try exact cA))
  ·obtain⟨c,rfl⟩:∃c,j=c+1:=⟨j-1,Ω⟩;obtain⟨x,z⟩:∃x,k[c+1]? =some x:=⟨_,cl Ω⟩;obtain⟨y,A⟩:∃y,k[c]? =some y:=⟨_,cl Ω⟩;have O:(((c+1:Nat):Int)-1)=(c:Nat):=Ω
   rw[H.slc,O];refine H.doLess d (c+1) c z A ?_;simp;cases B:lt x y with
   |true=>
    simp[Pv.look];(repeat' first|refine ak ?_|simp[Pv.look]);have L:((c:Int)+1)=(c+1:Nat):=Ω
    rw[H.ssc,L];refine H.doSwap d (c+1) c Ω Ω Ω ?_;simp;(repeat' first|refine ak ?_|simp);refine bQ.whl (c,hR k (c+1) c) Ψ ⟨by simp[d],by simp;omega,by simp;omega,.step s Ω Ω Ω Ω Ω Ω,o.swap D Ω Ω Ω z A B⟩ (H.weakC e (by simp[d]) go)
   |false=>simp;((repeat' first|refine ak ?_|simp|((first|apply bV|apply b0|apply bZ)<;>intro h<;>try simp at h))<;>(try exact cA));refine bQ.whl (i+1,k) gc ⟨d,by simp;omega,by simp;omega,by simp;omega,s,o.done D Ω Ω z A B⟩ (H.weakC e d go)
  ·obtain rfl:j=a:=Ω
   refine bQ.whl (i+1,k) gc ⟨d,by simp;omega,by simp;omega,by simp;omega,s,o.first⟩ (H.weakC e d go)
 ·refine H.ret e J (.inr rfl) ⟨rfl,lk,rfl,U,fun p q x y M K V=>f p q x y M K Ω⟩
end
section
open Go Go.Pv
variable {α:Type} [Inhabited α] {S:List α->cS} {n g cm:Nat} {lc cc:List ah} {lt:α->α->Bool}
def AU{d:Array α}{i:Nat}(h:i<d.size):d.toList[i]? =some d[i]!:=by simp[getElem!_pos,h]
def IF(d:Array α){i j:Nat}(hi:i<d.size)(a:j<d.size):hR d.toList i j=(Sort.swp d i j).toList:=by simp[hR,Sort.swp,AU hi,AU a]
section
variable (H:fH S n g cm lc cc lt)
include H
theorem fH.swapA{d:Array α}(J:d.size=n)(U:2<=n)(i j:Nat)(hi:i<n)(b:j<n){t:List (Nat×ah)}{D:List ah}{o:List aB}{a:aZ Nat}{K:bn->Prop}
  (h:∀o,K ⟨eY a (.tuple []) t,(.loc 0,D)::(S (Sort.swp d i j).toList).b,(S (Sort.swp d i j).toList).e,1,o⟩):cx ar cm (.int .i64 i:: .int .i64 j::cc) ⟨t,(.loc 0,D)::(S d.toList).b,(S d.toList).e,1,o⟩ a K:=by
 refine H.doSwap (by simpa using J) i j hi b U ?_;rw[IF d Ω Ω];exact h _
theorem fH.lessA{d:Array α}(J:d.size=n)(i j:Nat)(hi:i<n)(b:j<n){t:List (Nat×ah)}{D:List ah}{o:List aB}{a:aZ Nat}{K:bn->Prop}
  (h:∀o,K ⟨eY a (.bool (lt d[i]! d[j]!)) t,(.loc 0,D)::(S d.toList).b,(S d.toList).e,1,o⟩):cx ar g (.int .i64 i:: .int .i64 j::lc) ⟨t,(.loc 0,D)::(S d.toList).b,(S d.toList).e,1,o⟩ a K:=
 H.doLess (by simpa using J) i j (AU Ω) (AU Ω) (h _)
theorem fH.fnA{d d2:Array α}(J:d.size=n)(U:d2.size=n){f:Nat}{args:List ah}{r:ah}(k:bG ar f args (S d.toList) fun a g=>a=r/\g=S d2.toList)(j:ay (inObs (S d.toList)) args){t:List (Nat×ah)}{D:List ah}{o:List aB}{c:aZ Nat}{K:bn->Prop}
  (h:∀o,K ⟨eY c r t,(.loc 0,D)::(S d2.toList).b,(S d2.toList).e,1,o⟩):cx ar f args ⟨t,(.loc 0,D)::(S d.toList).b,(S d.toList).e,1,o⟩ c K:=
 H.call (by simpa using J) (R:=fun a b=>a=r/\b=d2.toList) (k.mono fun r g ⟨i,l⟩=>⟨_,l,i,rfl⟩) (fun r b ⟨_,e⟩=>by rw[e];simpa using U) j (by rintro a b ⟨rfl,rfl⟩;exact h _)
end
section
variable (H:fH S n g cm lc cc lt)
include H
theorem fH.loopA{β:Type}{d:List α}(j:d.length=n){t:List (Nat×ah)}{b:List (aB×List ah)}{e:List (aB×er)}{q:Nat}{o:List aB}(f:List Nat)(cs:β->List (Nat×ah))(A:β->Array α)(μ:β->Nat)(fJ:β->Prop)(a0:β)(bj:(A a0).size=n)(i:fJ a0)
  (h:Pv.look (.loc 0) b=some [.func g lc,.func cm cc]) (ae:∀k cs,Pv.look k (S (A a0).toList).b=some cs->Pv.look k b=some cs) (he:∀k o,Pv.look k (S (A a0).toList).e=some o->Pv.look k e=some o)
  (aM:∀x∈wo t f++cs a0,Pv.get x.1 t=x.2/\au (nq (S (A a0).toList) 1) x.2) {c:C} {Q:Exit->bn->Prop}
  (l:∀a,fJ a->dh ar (di (S d)) c (bQ (di (S d)) (C5 (fun a=>⟨wo t f++cs a,(.loc 0,[.func g lc,.func cm cc])::(S (A a).toList).b,(S (A a).toList).e,1,di (S d)⟩) μ fJ) (μ a) Q) ⟨wo t f++cs a,(.loc 0,[.func g lc,.func cm cc])::(S (A a).toList).b,(S (A a).toList).e,1,di (S d)⟩):
  dh ar (di (S d)) (.loop c) Q ⟨t,b,e,q,o⟩:=
 mB (fun a=>⟨wo t f++cs a,(.loc 0,[.func g lc,.func cm cc])::(S (A a).toList).b,(S (A a).toList).e,1,di (S d)⟩) μ fJ a0 (H.weak j (by simpa using bj) aM h ae he) i fun a m _=>l a m
theorem fH.callA0{lk:List α}(J:lk.length=n){f:Nat}{args:List ah}{R:ah->List α->Prop}(j:bG ar f args (S lk) fun r c=> ∃a,c=S a/\R r a)(bg:∀r a,R r a->a.length=n)(i:ay (inObs (S lk)) args){t:List (Nat×ah)}{D:List ah}{o:List aB}{d:aZ Nat}{K:bn->Prop}
  (h:∀r a,R r a->∀o,K ⟨eY d r t,(.loc 0,D)::(S a).b,(S a).e,1,o⟩):cx ar f args ⟨t,(S lk).b++[(.loc 0,D)],(S lk).e,1,o⟩ d K:=by
 refine cx.ob j (H.ok lk) (fun k cs b=>by rw[cT,b]) (fun _ _ b=>b) i ?_;rintro r c ⟨a,rfl,e⟩;refine⟨H.same _ _ J (bg _ _ e),?_⟩;have g:bW (S lk).b ((S lk).b++[(.loc 0,D)])=[(.loc 0,D)]:=by rw[iM,hn];simp[bW,H.loc]
 have l:bW (S lk).e (S lk).e=[]:=hn _;have:=h _ _ e (o++di (S a));simp only[g,l];exact this
theorem fH.swapA0{d:Array α}(J:d.size=n)(U:2<=n)(i j:Nat)(hi:i<n)(f:j<n){t:List (Nat×ah)}{D:List ah}{o:List aB}{b:aZ Nat}{K:bn->Prop}
  (h:∀o,K ⟨eY b (.tuple []) t,(.loc 0,D)::(S (Sort.swp d i j).toList).b,(S (Sort.swp d i j).toList).e,1,o⟩):cx ar cm (.int .i64 i:: .int .i64 j::cc) ⟨t,(S d.toList).b++[(.loc 0,D)],(S d.toList).e,1,o⟩ b K:=by
 refine H.callA0 (by simpa using J) (R:=fun r a=>r= .tuple []/\a=(Sort.swp d i j).toList) ((H.swap d.toList (by simpa using J) U i j hi f).mono fun r k ⟨c,g⟩=>⟨_,g,c,IF d Ω Ω⟩) (fun r a ⟨_,e⟩=>by rw[e];simp[Sort.swp,J]) (by simp[au,ay,H.ksc d.toList (by simpa using J)]) ?_;rintro r a ⟨rfl,rfl⟩ o;exact h o
theorem fH.retA{l:List α}{d:Array α}(b:l.length=n)(J:d.size=n){Q:ah->cS->Prop}{e:Exit}(he:e= .ret\/e= .normal){t:List (Nat×ah)}{D:List ah}{q:Nat}{o:List aB}(a:Q (.tuple []) (S d.toList)):cJ [] (S l) Q e ⟨t,(.loc 0,D)::(S d.toList).b,(S d.toList).e,q,o⟩:=H.ret b (by simpa using J) he a
theorem fH.retR{b:List bS}{l:List α}{d:Array α}(c:l.length=n)(J:d.size=n){Q:ah->cS->Prop}{e:Exit}(he:e= .ret\/e= .normal){t:List (Nat×ah)}{D:List ah}{q:Nat}{o:List aB}(h:cM ⟨t,(.loc 0,D)::(S d.toList).b,(S d.toList).e,q,o⟩ b fun r=>au (inObs (S d.toList)) r/\Q r (S d.toList)):cJ b (S l) Q e ⟨t,(.loc 0,D)::(S d.toList).b,(S d.toList).e,q,o⟩:=by
 refine cJ.at (S d.toList) he (H.ok _) (H.same _ _ c (by simpa using J)) (fun k cs a=>?_) (fun _ _ a=>a) h;cases k with
 |loc m=>rw[H.loc m]at a;cases a
 |obj m=>simpa[Pv.look]using a
end
def hC(d:Array α)(i j:Nat):(Sort.swp d i j).size=d.size:=by simp[Sort.swp]
end
section
open Go Go.Pv
def S2:C:=(aa [bT 2 0] (.seq (.cond (.c (.bool false)) (aa [I 3 0,bH 4 (.conv .u32 (.t 3)),cI 5 233 4,I 2 5] .ret) .skip) (aa [I 6 0,cI 7 227 6,I 2 7] .ret)))
def K9:C:=(aa [bh 91 2 4,I 92 1,I 93 2,I 94 11,ec 95 240 [.t 91,.t 92,.t 93,.t 94],I 90 95,dr 96 0 90,dr 97 1 90,I 14 96,I 15 97] (aa [I 98 15,I 9 98] (aa [I 99 14,I 100 1,bp 101 .sub 99 100,I 102 2,I 103 14,bp 104 .sub 102 103,I 16 101,I 17 104] (aa [I 105 10,aS 106 .quo 105 8,I 18 106] (aa [I 107 16,I 108 17,bp 109 .lss 107 108] (aU 109 (aa [I 110 16,I 111 18,bp 112 .geq 110 111,I 8 112] (aa [bh 113 2 4,I 114 1,I 115 14,I 116 3,ec 117 208 [.t 113,.t 114,.t 115,.t 116]] (.region [I 118 14,aS 119 .add 118 1,I 1 119]))) (aa [I 120 17,I 121 18,bp 122 .geq 120 121,I 8 122] (aa [bh 123 2 4,I 124 14,aS 125 .add 124 1,I 126 2,I 127 3,ec 128 208 [.t 123,.t 125,.t 126,.t 127]] (.region [I 129 14,I 2 129])))))))))
def Dr:C:=(.seq (aa [I 73 1,aS 74 .gtr 73 0,I 75 74,ax 75 true (aK 76 0 1 4),ax 75 true (aw 77 1 76),ck 75 true 78 1,ax 75 true (aS 79 .sub 78 1),ck 75 true 80 11,ax 75 true (hx 81 77 [.t 79,.t 80]),ax 75 true (cH 82 81),ei 83 75 82] (aU 83 (aa [bh 84 2 4,I 85 1,I 86 2,I 87 11,ec 88 239 [.t 84,.t 85,.t 86,.t 87],I 13 88] (aa [I 89 13,I 1 89] (.exit 1))) .skip)) K9)
def La:C:=(.seq (aa [I 61 8,I 62 61,ck 62 true 63 9,ei 64 62 63,I 65 64,ck 65 true 66 12,ax 65 true (aS 67 .eql 66 1),ei 68 65 67] (aU 68 (aa [bh 69 2 4,I 70 1,I 71 2,ec 72 238 [.t 69,.t 70,.t 71]] (aU 72 .ret .skip)) .skip)) Dr)
def Lb:C:=(aa [bh 43 2 4,I 44 1,I 45 2,ec 46 236 [.t 43,.t 44,.t 45],I 42 46,dr 47 0 42,dr 48 1 42,I 11 47,I 12 48] (.seq (aa [I 49 12,aS 50 .eql 49 2] (aU 50 (aa [bh 51 2 4,I 52 1,I 53 2,ec 54 237 [.t 51,.t 52,.t 53]] (aa [I 55 2,aS 56 .sub 55 1,I 57 11,I 58 1,bp 59 .sub 57 58,bp 60 .sub 56 59,I 11 60] (.region [bT 12 1]))) .skip)) La))
def Tf:C:=(aa [c6 4 0] (aa [bs 8 true] (aa [bs 9 true] (.block 0 (.loop (.block 1 (aa [I 19 2,I 20 1,bp 21 .sub 19 20,I 10 21] (.seq (aa [I 22 10,aS 23 .leq 22 12] (aU 23 (aa [bh 24 2 4,I 25 1,I 26 2,ec 27 224 [.t 24,.t 25,.t 26]] .ret) .skip)) (.seq (aa [I 28 3,aS 29 .eql 28 0] (aU 29 (aa [bh 30 2 4,I 31 1,I 32 2,ec 33 234 [.t 30,.t 31,.t 32]] .ret) .skip)) (.seq (aa [I 34 8,cH 35 34] (aU 35 (aa [bh 36 2 4,I 37 1,I 38 2,ec 39 235 [.t 36,.t 37,.t 38]] (.region [I 40 3,aS 41 .sub 40 1,I 3 41])) .skip)) Lb))))))))))
def S3:C:=(aa [bT 2 0] (.seq (aa [I 3 0,bH 4 (.bin .geq false (.t 3) (.c (.int .u64 4294967296)))] (aU 4 (aa [I 5 0,bH 6 (.bin .shr false (.t 5) (.c (.int .u64 32))),I 0 6] (.region [bT 2 32])) .skip)) (.seq (aa [I 7 0,bH 8 (.bin .geq false (.t 7) (.c (.int .u64 65536)))] (aU 8 (aa [I 9 0,bH 10 (.bin .shr false (.t 9) (.c (.int .u64 16))),I 0 10] (.region [I 11 2,aS 12 .add 11 16,I 2 12])) .skip)) (.seq (aa [I 13 0,bH 14 (.bin .geq false (.t 13) (.c (.int .u64 256)))] (aU 14 (aa [I 15 0,bH 16 (.bin .shr false (.t 15) (.c (.int .u64 8))),I 0 16] (.region [I 17 2,aS 18 .add 17 8,I 2 18])) .skip)) (aa [I 19 2,I 20 0,bH 21 (.conv .u8 (.t 20)),bH 22 (.sidx (.c (.str Qe)) (.t 21)),bH 23 (.conv .i64 (.t 22)),bp 24 .add 19 23,I 2 24] .ret)))))
def S7:C:=(aa [c6 3 0] (aa [I 11 1,I 6 11] (aa [bT 7 0] (aa [I 12 2,I 13 1,bp 14 .sub 12 13,I 8 14] (.seq (aa [I 15 8,aS 16 .sub 15 1,aS 17 .quo 16 2,I 9 17] (.block 0 (.loop (.seq (aa [I 18 9,aS 19 .geq 18 0] (aU 19 .skip (.exit 0))) (.seq (.block 1 (.region [bh 22 2 3,I 23 9,I 24 8,I 25 6,ec 26 249 [.t 22,.t 23,.t 24,.t 25]])) (.region [I 20 9,aS 21 .sub 20 1,I 9 21])))))) (aa [I 27 8,aS 28 .sub 27 1,I 10 28] (.block 2 (.loop (.seq (aa [I 29 10,aS 30 .geq 29 0] (aU 30 .skip (.exit 2))) (.seq (.block 3 (aa [aK 33 1 1 3,aw 34 1 33,I 35 6,I 36 6,I 37 10,bp 38 .add 36 37,hx 39 34 [.t 35,.t 38]] (.region [bh 40 2 3,I 41 7,I 42 10,I 43 6,ec 44 249 [.t 40,.t 41,.t 42,.t 43]]))) (.region [I 31 10,aS 32 .sub 31 1,I 10 32])))))))))))
def S5:C:=(aa [c6 3 0] (aa [I 11 2,I 12 1,bp 13 .sub 11 12,I 6 13] (aa [I 14 6,aS 15 .geq 14 8] (aU 15 (aa [I 16 6,bH 17 (.conv .u64 (.t 16)),cU (.alloc 7 (some 902) (.int .u64 0)),b1 1 7 17] (aa [I 18 6,cI 19 250 18,I 8 19] (aa [I 20 1,I 21 6,aS 22 .quo 21 4,aS 23 .mul 22 2,bp 24 .add 20 23,aS 25 .sub 24 1,I 9 25] (.block 0 (.loop (.seq (aa [I 26 9,I 27 1,I 28 6,aS 29 .quo 28 4,aS 30 .mul 29 2,bp 31 .add 27 30,aS 32 .add 31 1,bp 33 .leq 26 32] (aU 33 .skip (.exit 0))) (.seq (.block 1 (aa [cI 36 251 7,I 37 8,bH 38 (.bin .sub true (.t 37) (.c (.int .u64 1))),bp 39 .and 36 38,bH 40 (.conv .i64 (.t 39)),I 10 40] (.seq (aa [I 41 10,I 42 6,bp 43 .geq 41 42] (aU 43 (.region [I 44 10,I 45 6,bp 46 .sub 44 45,I 10 46]) .skip)) (.region [aK 47 1 1 3,aw 48 1 47,I 49 9,I 50 1,I 51 10,bp 52 .add 50 51,hx 53 48 [.t 49,.t 52]])))) (.region [I 34 9,aS 35 .add 34 1,I 9 35])))))))) .skip))))
def S6:C:=(aa [c6 3 0,bT 6 0,bT 7 0] (aa [I 13 2,I 14 1,bp 15 .sub 13 14,I 8 15] (aa [cU (.alloc 9 (some 901) (.int .i64 0))] (aa [I 16 1,I 17 8,aS 18 .quo 17 4,aS 19 .mul 18 1,bp 20 .add 16 19,I 10 20] (aa [I 21 1,I 22 8,aS 23 .quo 22 4,aS 24 .mul 23 2,bp 25 .add 21 24,I 11 25] (aa [I 26 1,I 27 8,aS 28 .quo 27 4,aS 29 .mul 28 3,bp 30 .add 26 29,I 12 30] (.seq (aa [I 31 8,aS 32 .geq 31 8] (aU 32 (.seq (aa [I 33 8,aS 34 .geq 33 50] (aU 34 (aa [bh 35 2 3,I 36 10,ec 37 252 [.t 35,.t 36,.t 9],I 10 37] (aa [bh 38 2 3,I 39 11,ec 40 252 [.t 38,.t 39,.t 9],I 11 40] (.region [bh 41 2 3,I 42 12,ec 43 252 [.t 41,.t 42,.t 9],I 12 43]))) .skip)) (.region [bh 44 2 3,I 45 10,I 46 11,I 47 12,ec 48 253 [.t 44,.t 45,.t 46,.t 47,.t 9],I 11 48])) .skip)) (aa [aw 49 1 9] (.block 0 (aa [aS 52 .eql 49 0,I 51 52] (aU 51 (aa [I 53 11,I 6 53,bT 7 1] .ret) (aa [aS 55 .eql 49 12,I 54 55] (aU 54 (aa [I 56 11,I 6 56,bT 7 2] .ret) (aa [I 50 11,I 6 50,bT 7 0] .ret))))))))))))))
def Tg:C:=(aa [c6 3 0] (aa [I 8 1,I 6 8] (aa [I 9 2,aS 10 .sub 9 1,I 7 10] (.block 0 (.loop (.seq (aa [I 11 6,I 12 7,bp 13 .lss 11 12] (aU 13 .skip (.exit 0))) (.block 1 (aa [aK 14 1 1 3,aw 15 1 14,I 16 6,I 17 7,hx 18 15 [.t 16,.t 17]] (aa [I 19 6,aS 20 .add 19 1,I 6 20] (.region [I 21 7,aS 22 .sub 21 1,I 7 22]))))))))))
def Tc:C:=(aa [c6 3 0,bs 6 false] (aa [I 11 1,aS 12 .add 11 1,I 7 12] (.seq (aa [bT 8 0] (.block 0 (.loop (.seq (aa [I 13 8,aS 14 .lss 13 5] (aU 14 .skip (.exit 0))) (.seq (.block 1 (.seq (.block 2 (.loop (.seq (aa [I 17 7,I 18 2,bp 19 .lss 17 18,I 20 19,ax 20 true (aK 21 0 1 3),ax 20 true (aw 22 1 21),ck 20 true 23 7,ck 20 true 24 7,ax 20 true (aS 25 .sub 24 1),ax 20 true (hx 26 22 [.t 23,.t 25]),ax 20 true (cH 27 26),ei 28 20 27] (aU 28 .skip (.exit 2))) (.block 3 (.region [I 29 7,aS 30 .add 29 1,I 7 30]))))) (.seq (aa [I 31 7,I 32 2,bp 33 .eql 31 32] (aU 33 (aa [bs 6 true] .ret) .skip)) (.seq (aa [I 34 2,I 35 1,bp 36 .sub 34 35,aS 37 .lss 36 50] (aU 37 (aa [bs 6 false] .ret) .skip)) (aa [aK 38 1 1 3,aw 39 1 38,I 40 7,I 41 7,aS 42 .sub 41 1,hx 43 39 [.t 40,.t 42]] (.seq (aa [I 44 7,I 45 1,bp 46 .sub 44 45,aS 47 .geq 46 2] (aU 47 (aa [I 48 7,aS 49 .sub 48 1,I 9 49] (.block 4 (.loop (.seq (aa [I 50 9,aS 51 .geq 50 1] (aU 51 .skip (.exit 4))) (.seq (.block 5 (.seq (aa [aK 54 0 1 3,aw 55 1 54,I 56 9,I 57 9,aS 58 .sub 57 1,hx 59 55 [.t 56,.t 58],cH 60 59] (aU 60 (.exit 4) .skip)) (.region [aK 61 1 1 3,aw 62 1 61,I 63 9,I 64 9,aS 65 .sub 64 1,hx 66 62 [.t 63,.t 65]]))) (.region [I 52 9,aS 53 .sub 52 1,I 9 53])))))) .skip)) (aa [I 67 2,I 68 7,bp 69 .sub 67 68,aS 70 .geq 69 2] (aU 70 (aa [I 71 7,aS 72 .add 71 1,I 10 72] (.block 6 (.loop (.seq (aa [I 73 10,I 74 2,bp 75 .lss 73 74] (aU 75 .skip (.exit 6))) (.seq (.block 7 (.seq (aa [aK 78 0 1 3,aw 79 1 78,I 80 10,I 81 10,aS 82 .sub 81 1,hx 83 79 [.t 80,.t 82],cH 84 83] (aU 84 (.exit 6) .skip)) (.region [aK 85 1 1 3,aw 86 1 85,I 87 10,I 88 10,aS 89 .sub 88 1,hx 90 86 [.t 87,.t 89]]))) (.region [I 76 10,aS 77 .add 76 1,I 10 77])))))) .skip)))))))) (.region [I 15 8,aS 16 .add 15 1,I 8 16])))))) (aa [bs 6 false] .ret))))
def Td:C:=(aa [c6 4 0,bT 8 0] (aa [aK 11 1 1 4,aw 12 1 11,I 13 1,I 14 3,hx 15 12 [.t 13,.t 14]] (aa [I 16 1,aS 17 .add 16 1,I 18 2,aS 19 .sub 18 1,I 9 17,I 10 19] (.seq (.block 0 (.loop (.block 1 (.seq (.block 2 (.loop (.seq (aa [I 20 9,I 21 10,bp 22 .leq 20 21,I 23 22,ax 23 true (aK 24 0 1 4),ax 23 true (aw 25 1 24),ck 23 true 26 1,ck 23 true 27 9,ax 23 true (hx 28 25 [.t 26,.t 27]),ax 23 true (cH 29 28),ei 30 23 29] (aU 30 .skip (.exit 2))) (.block 3 (.region [I 31 9,aS 32 .add 31 1,I 9 32]))))) (.seq (.block 4 (.loop (.seq (aa [I 33 9,I 34 10,bp 35 .leq 33 34,I 36 35,ax 36 true (aK 37 0 1 4),ax 36 true (aw 38 1 37),ck 36 true 39 1,ck 36 true 40 10,ax 36 true (hx 41 38 [.t 39,.t 40]),ei 42 36 41] (aU 42 .skip (.exit 4))) (.block 5 (.region [I 43 10,aS 44 .sub 43 1,I 10 44]))))) (.seq (aa [I 45 9,I 46 10,bp 47 .gtr 45 46] (aU 47 (.exit 0) .skip)) (aa [aK 48 1 1 4,aw 49 1 48,I 50 9,I 51 10,hx 52 49 [.t 50,.t 51]] (aa [I 53 9,aS 54 .add 53 1,I 9 54] (.region [I 55 10,aS 56 .sub 55 1,I 10 56]))))))))) (aa [I 57 9,I 8 57] .ret)))))
def Te:C:=(aa [c6 4 0,bT 8 0,bs 9 false] (aa [aK 12 1 1 4,aw 13 1 12,I 14 1,I 15 3,hx 16 13 [.t 14,.t 15]] (aa [I 17 1,aS 18 .add 17 1,I 19 2,aS 20 .sub 19 1,I 10 18,I 11 20] (.seq (.block 0 (.loop (.seq (aa [I 21 10,I 22 11,bp 23 .leq 21 22,I 24 23,ax 24 true (aK 25 0 1 4),ax 24 true (aw 26 1 25),ck 24 true 27 10,ck 24 true 28 1,ax 24 true (hx 29 26 [.t 27,.t 28]),ei 30 24 29] (aU 30 .skip (.exit 0))) (.block 1 (.region [I 31 10,aS 32 .add 31 1,I 10 32]))))) (.seq (.block 2 (.loop (.seq (aa [I 33 10,I 34 11,bp 35 .leq 33 34,I 36 35,ax 36 true (aK 37 0 1 4),ax 36 true (aw 38 1 37),ck 36 true 39 11,ck 36 true 40 1,ax 36 true (hx 41 38 [.t 39,.t 40]),ax 36 true (cH 42 41),ei 43 36 42] (aU 43 .skip (.exit 2))) (.block 3 (.region [I 44 11,aS 45 .sub 44 1,I 11 45]))))) (.seq (aa [I 46 10,I 47 11,bp 48 .gtr 46 47] (aU 48 (aa [aK 49 1 1 4,aw 50 1 49,I 51 11,I 52 1,hx 53 50 [.t 51,.t 52]] (aa [I 54 11,I 8 54,bs 9 true] .ret)) .skip)) (aa [aK 55 1 1 4,aw 56 1 55,I 57 10,I 58 11,hx 59 56 [.t 57,.t 58]] (aa [I 60 10,aS 61 .add 60 1,I 10 61] (aa [I 62 11,aS 63 .sub 62 1,I 11 63] (.seq (.block 4 (.loop (.block 5 (.seq (.block 6 (.loop (.seq (aa [I 64 10,I 65 11,bp 66 .leq 64 65,I 67 66,ax 67 true (aK 68 0 1 4),ax 67 true (aw 69 1 68),ck 67 true 70 10,ck 67 true 71 1,ax 67 true (hx 72 69 [.t 70,.t 71]),ei 73 67 72] (aU 73 .skip (.exit 6))) (.block 7 (.region [I 74 10,aS 75 .add 74 1,I 10 75]))))) (.seq (.block 8 (.loop (.seq (aa [I 76 10,I 77 11,bp 78 .leq 76 77,I 79 78,ax 79 true (aK 80 0 1 4),ax 79 true (aw 81 1 80),ck 79 true 82 11,ck 79 true 83 1,ax 79 true (hx 84 81 [.t 82,.t 83]),ax 79 true (cH 85 84),ei 86 79 85] (aU 86 .skip (.exit 8))) (.block 9 (.region [I 87 11,aS 88 .sub 87 1,I 11 88]))))) (.seq (aa [I 89 10,I 90 11,bp 91 .gtr 89 90] (aU 91 (.exit 4) .skip)) (aa [aK 92 1 1 4,aw 93 1 92,I 94 10,I 95 11,hx 96 93 [.t 94,.t 95]] (aa [I 97 10,aS 98 .add 97 1,I 10 98] (.region [I 99 11,aS 100 .sub 99 1,I 11 100]))))))))) (aa [aK 101 1 1 4,aw 102 1 101,I 103 11,I 104 1,hx 105 102 [.t 103,.t 104]] (aa [I 106 11,I 8 106,bs 9 false] .ret))))))))))))
def Ti:C:=(aa [c6 4 0] (aa [I 10 1,I 8 10] (.block 0 (.loop (.block 1 (aa [I 11 8,bH 12 (.bin .mul false (gu 2) (.t 11)),aS 13 .add 12 1,I 9 13] (.seq (aa [I 14 9,I 15 2,bp 16 .geq 14 15] (aU 16 (.exit 0) .skip)) (.seq (aa [I 17 9,aS 18 .add 17 1,I 19 2,bp 20 .lss 18 19,I 21 20,ax 21 true (aK 22 0 1 4),ax 21 true (aw 23 1 22),ck 21 true 24 3,ck 21 true 25 9,ax 21 true (bp 26 .add 24 25),ck 21 true 27 3,ck 21 true 28 9,ax 21 true (bp 29 .add 27 28),ax 21 true (aS 30 .add 29 1),ax 21 true (hx 31 23 [.t 26,.t 30]),ei 32 21 31] (aU 32 (.region [I 33 9,aS 34 .add 33 1,I 9 34]) .skip)) (.seq (aa [aK 35 0 1 4,aw 36 1 35,I 37 3,I 38 8,bp 39 .add 37 38,I 40 3,I 41 9,bp 42 .add 40 41,hx 43 36 [.t 39,.t 42],cH 44 43] (aU 44 .ret .skip)) (aa [aK 45 1 1 4,aw 46 1 45,I 47 3,I 48 8,bp 49 .add 47 48,I 50 3,I 51 9,bp 52 .add 50 51,hx 53 46 [.t 49,.t 52]] (.region [I 54 9,I 8 54])))))))))))
def Ta:C:=(aa [bH 2 (.mov (.c (.int .u64 0)))] (aa [I 4 0,bH 5 (.conv .u64 (.t 4)),cI 6 207 5,bH 7 (.conv .u64 (.t 6)),I 3 7] (aa [I 8 3,bH 9 (.bin .shl false (.c (.int .u64 1)) (.t 8)),I 2 9] .ret)))
def Tm:C:=(aa [bH 2 (.mov (.c (.int .u64 0)))] (.seq (.drawn true 33 [I 3 0,fT 4 3,aw 5 1 4,I 6 0,fT 7 6,aw 8 1 7,bH 9 (.bin .shl false (.t 8) (.c (.int .u64 13))),bp 10 .xor 5 9,fT 11 3,b1 1 11 10]) (.seq (.drawn true 33 [I 12 0,fT 13 12,aw 14 1 13,I 15 0,fT 16 15,aw 17 1 16,bH 18 (.bin .shr false (.t 17) (.c (.int .u64 7))),bp 19 .xor 14 18,fT 20 12,b1 1 20 19]) (.seq (.drawn true 33 [I 21 0,fT 22 21,aw 23 1 22,I 24 0,fT 25 24,aw 26 1 25,bH 27 (.bin .shl false (.t 26) (.c (.int .u64 17))),bp 28 .xor 23 27,fT 29 21,b1 1 29 28]) (aa [I 30 0,fT 31 30,aw 32 1 31,I 2 32] .ret)))))
def S8:C:=(aa [c6 3 0,bT 6 0] (aa [bh 7 2 3,I 8 1,aS 9 .sub 8 1,I 10 1,I 11 1,aS 12 .add 11 1,I 13 2,ec 14 253 [.t 7,.t 9,.t 10,.t 12,.t 13],I 6 14] .ret))
def S9:C:=(aa [c6 5 0,bT 10 0] (aa [bh 12 2 5,I 13 1,I 14 2,I 15 4,ec 16 256 [.t 12,.t 13,.t 14,.t 15],I 11 16,dr 17 0 11,dr 18 1 11,I 1 17,I 2 18] (aa [bh 20 2 5,I 21 2,I 22 3,I 23 4,ec 24 256 [.t 20,.t 21,.t 22,.t 23],I 19 24,dr 25 0 19,dr 26 1 19,I 2 25,I 3 26] (aa [bh 28 2 5,I 29 1,I 30 2,I 31 4,ec 32 256 [.t 28,.t 29,.t 30,.t 31],I 27 32,dr 33 0 27,dr 34 1 27,I 1 33,I 2 34] (aa [I 35 2,I 10 35] .ret)))))
def Tb:C:=(aa [c6 4 0,bT 8 0,bT 9 0] (.seq (aa [aK 10 0 1 4,aw 11 1 10,I 12 2,I 13 1,hx 14 11 [.t 12,.t 13]] (aU 14 (aa [I 15 3,fT 16 15,aw 17 1 16,aS 18 .add 17 1,fT 19 15,b1 1 19 18] (aa [I 20 2,I 21 1,I 8 20,I 9 21] .ret)) .skip)) (aa [I 22 1,I 23 2,I 8 22,I 9 23] .ret)))
def anY:b4 aT S2 [.tmp 2] 1 Tryz.f207=true:=an
def aob:b4 aT Tf [] 4 Tryz.f208=true:=an
def anZ:b4 aT S3 [.tmp 2] 1 Tryz.f227=true:=an
def an3:b4 aT S7 [] 3 Tryz.f234=true:=an
def an1:b4 aT S5 [] 3 Tryz.f235=true:=an
def an2:b4 aT S6 [.tmp 6,.tmp 7] 3 Tryz.f236=true:=an
def aoc:b4 aT Tg [] 3 Tryz.f237=true:=an
def an8:b4 aT Tc [.tmp 6] 3 Tryz.f238=true:=an
def an9:b4 aT Td [.tmp 8] 4 Tryz.f239=true:=an
def aoa:b4 aT Te [.tmp 8,.tmp 9] 4 Tryz.f240=true:=an
def aoe:b4 aT Ti [] 4 Tryz.f249=true:=an
def an6:b4 aT Ta [.tmp 2] 1 Tryz.f250=true:=an
def aoi:b4 aT Tm [.tmp 2] 1 Tryz.f251=true:=an
def an4:b4 aT S8 [.tmp 6] 3 Tryz.f252=true:=an
def an5:b4 aT S9 [.tmp 10] 5 Tryz.f253=true:=an
def an7:b4 aT Tb [.tmp 8,.tmp 9] 4 Tryz.f256=true:=an
end
section
open Go Go.Pv
variable {α:Type} [Inhabited α] {S:List α->cS} {n g cm:Nat} {lc cc:List ah} {lt:α->α->Bool}
def Vw(H:fH S n g cm lc cc lt)(d:Array α)(q:d.size=n)(lo hi first:Nat)(J:first+hi<=n)(U:2<=n)(w:lo<=n):
  bG ar 249 [fx g cm lc cc,.int .i64 lo,.int .i64 hi,.int .i64 first] (S d.toList) fun r y=>r= .tuple []/\∃k,y=S k.toList/\k=Sort.siftDown lt hi first lo d/\k.size=n:=by
 have t:=H.ok d.toList;have e:d.toList.length=n:=by simpa using q
 have p:∀l m,Pv.look (.loc m) (S l).b=none:=fun l=>(H.ok l).obj.1;have hu:∀l m cs,cG (.loc m) cs (S l).b=(S l).b++[(.loc m,cs)]:=fun l m cs=>ku (p l m);have al:∀m,aB.loc m∉di (S d.toList):=kq t.obj;have hle:=H.le;refine bG.mk mixed a7 Tryz.func249 aoe Ψ t.obj fun B A=>?_;unfold Ti;simp[fx,hu,al,cT,p];refine H.loopA e [2,3,4] (fun(x:Nat×Array α)=>[(8,.int .i64 x.1)]) (·.2) (fun x=>hi-x.1) (fun x=>x.2.size=n/\x.1<=n/\Sort.siftDown lt hi first x.1 x.2=Sort.siftDown lt hi first lo d) (lo,d) q ⟨q,w,rfl⟩ (by simp[cT,p]) aG aG go ?_;rintro⟨root,c⟩ ⟨a,v,b⟩;simp only at a v b;have j:((first:Int)+(2*root+1))=(first+(2*root+1):Nat):=Ω
 have z:(((first+(2*root+1):Nat):Int)+1)=(first+(2*root+1)+1:Nat):=Ω
 have i:((first:Int)+root)=(first+root:Nat):=Ω
 have s:((first:Int)+(2*root+1+1))=(first+(2*root+2):Nat):=Ω
 simp[Pv.look,H.slc,H.ssc];(with_reducible repeat' first|((first|apply bV|apply b0|apply bZ)<;>intro h<;>try simp at h)|refine ak ?_|simp[Pv.look,H.slc,H.ssc])
 ·rw[Sort.siftDown,dif_pos Ω]at b;exact H.retA e a (.inr rfl) ⟨rfl,c,rfl,b,a⟩
 ·rw[Sort.siftDown,dif_neg Ω]at b;rw[j,z];refine H.lessA a _ _ Ω Ω fun o=>?_;have aA:decide (2*root+1+1<hi)=true:=by simp;omega
  cases u:lt c[first+(2*root+1)]! c[first+(2*root+1)+1]! with
  |true=>
   rw[if_pos (by rw[aA,u];rfl)]at b;simp;(repeat' first|refine ak ?_|simp[Pv.look,H.slc,H.ssc]);rw[i,s];refine H.lessA a _ _ Ω Ω fun o=>?_;cases f:lt c[first+root]! c[first+(2*root+2)]! with
   |true=>rw[if_neg (by simp[f]),dif_pos Ω]at b;simp;(repeat' first|refine ak ?_|simp[Pv.look,H.slc,H.ssc]);rw[i,s];refine H.swapA a U _ _ Ω Ω fun o=>?_;simp;(repeat' first|refine ak ?_|simp);refine bQ.whl (2*root+2,Sort.swp c (first+root) (first+(2*root+2))) gc ⟨by rw[hC,a],by simp;omega,b⟩ (H.weakC e (by simp[hC,a]) pm)
   |false=>rw[if_pos (by simp[f])]at b;simp;(repeat' first|refine ak ?_|simp);all_goals exact H.retA e a (.inl rfl) ⟨rfl,c,rfl,b,a⟩
  |false=>
   rw[if_neg (by simp[u])]at b;simp;(repeat' first|refine ak ?_|simp[Pv.look,H.slc,H.ssc]);rw[i,j];refine H.lessA a _ _ Ω Ω fun o=>?_;cases f:lt c[first+root]! c[first+(2*root+1)]! with
   |true=>rw[if_neg (by simp[f])]at b;simp;(repeat' first|refine ak ?_|simp[Pv.look,H.slc,H.ssc]);rw[i,j];refine H.swapA a U _ _ Ω Ω fun o=>?_;simp;(repeat' first|refine ak ?_|simp);refine bQ.whl (2*root+1,Sort.swp c (first+root) (first+(2*root+1))) gc ⟨by rw[hC,a],by simp;omega,b⟩ (H.weakC e (by simp[hC,a]) go)
   |false=>rw[if_pos (by simp[f])]at b;simp;(repeat' first|refine ak ?_|simp);all_goals exact H.retA e a (.inl rfl) ⟨rfl,c,rfl,b,a⟩
 ·rw[Sort.siftDown,dif_neg Ω]at b;have aA:decide (2*root+1+1<hi)=false:=by simp;omega
  rw[if_neg (by rw[aA];simp)]at b;rw[i,j];refine H.lessA a _ _ Ω Ω fun o=>?_;cases f:lt c[first+root]! c[first+(2*root+1)]! with
  |true=>rw[if_neg (by simp[f])]at b;simp;(repeat' first|refine ak ?_|simp[Pv.look,H.slc,H.ssc]);rw[i,j];refine H.swapA a U _ _ Ω Ω fun o=>?_;simp;(repeat' first|refine ak ?_|simp);refine bQ.whl (2*root+1,Sort.swp c (first+root) (first+(2*root+1))) gc ⟨by rw[hC,a],by simp;omega,b⟩ (H.weakC e (by simp[hC,a]) go)
  |false=>rw[if_pos (by simp[f])]at b;simp;(repeat' first|refine ak ?_|simp);all_goals exact H.retA e a (.inl rfl) ⟨rfl,c,rfl,b,a⟩
def aiO(H:fH S n g cm lc cc lt)(d:Array α)(q:d.size=n)(a b:Nat)(A:a<b)(ae:b<=n)(U:2<=n):
  bG ar 237 [fx g cm lc cc,.int .i64 a,.int .i64 b] (S d.toList) fun r w=>r= .tuple []/\∃k,w=S k.toList/\k=Sort.reverseRange d a b/\k.size=n:=by
 have t:=H.ok d.toList;have p:d.toList.length=n:=by simpa using q
 have f:∀l m,Pv.look (.loc m) (S l).b=none:=fun l=>(H.ok l).obj.1;have hu:∀l m cs,cG (.loc m) cs (S l).b=(S l).b++[(.loc m,cs)]:=fun l m cs=>ku (f l m);have al:∀m,aB.loc m∉di (S d.toList):=kq t.obj;have hle:=H.le;refine bG.mk mixed a7 Tryz.func237 aoc Ψ t.obj fun D B=>?_;unfold Tg;simp[fx,hu,al,cT,f];have u:((b:Int)-1)=(b-1:Nat):=Ω
 (repeat' first|refine ak ?_|simp[hu,al,cT,f]);rw[u];refine H.loopA p [3] (fun(x:(Nat×Nat)×Array α)=>[(6,.int .i64 x.1.1),(7,.int .i64 x.1.2)]) (·.2) (fun x=>x.1.2+1-x.1.1) (fun x=>x.2.size=n/\x.1.2<n/\Sort.reverseLoop x.1.1 x.1.2 x.2=Sort.reverseRange d a b) ((a,b-1),d) q ⟨q,by simp;omega,rfl⟩ (by simp[cT,f]) aG aG go ?_;rintro⟨⟨i,j⟩,s⟩ ⟨e,v,c⟩;simp only at e v c;rw[Sort.reverseLoop]at c;simp[Pv.look,H.slc,H.ssc];(with_reducible repeat' first|((first|apply bV|apply b0|apply bZ)<;>intro h<;>try simp at h)|refine ak ?_|simp[Pv.look,H.slc,H.ssc])
 ·rw[if_pos Ω]at c;refine H.swapA e U _ _ Ω Ω fun o=>?_;have y:((i:Int)+1)=(i+1:Nat):=Ω
  have z:((j:Int)-1)=(j-1:Nat):=Ω
  simp;((repeat' first|refine ak ?_|simp|((first|apply bV|apply b0|apply bZ)<;>intro h<;>try simp at h))<;>(try exact cA));rw[y,z];refine bQ.whl ((i+1,j-1),Sort.swp s i j) gc ⟨by rw[hC,e],by simp;omega,c⟩ (H.weakC p (by simp[hC,e]) go)
 ·rw[if_neg Ω]at c;exact H.retA p e (.inr rfl) ⟨rfl,s,rfl,c,e⟩
def aiz(H:fH S n g cm lc cc lt)(d:Array α)(J:d.size=n)(a b:Nat)(O:a<=b)(ae:b<=n)(U:2<=n):
  bG ar 234 [fx g cm lc cc,.int .i64 a,.int .i64 b] (S d.toList) fun r E=>r= .tuple []/\∃c,E=S c.toList/\c=Sort.heapSort lt d a b/\c.size=n:=by
 have M:=H.ok d.toList;have y:d.toList.length=n:=by simpa using J
 have z:∀l m,Pv.look (.loc m) (S l).b=none:=fun l=>(H.ok l).obj.1;have hu:∀l m cs,cG (.loc m) cs (S l).b=(S l).b++[(.loc m,cs)]:=fun l m cs=>ku (z l m);have al:∀m,aB.loc m∉di (S d.toList):=kq M.obj;have hle:=H.le;refine bG.mk mixed a7 Tryz.func234 an3 Ψ M.obj fun W V=>?_;unfold S7;simp[fx,hu,al,cT,z];(repeat' first|refine ak ?_|simp[hu,al,cT,z]);have P:oQ.wrap (((b:Int)-a-1).tdiv 2)=(((b-a-1)/2+1:Nat):Int)-1:=by
  have e:((b:Int)-a-1).tdiv 2=(((b-a-1)/2+1:Nat):Int)-1:=by
   rcases Nat.eq_or_lt_of_le O with h|h
   ·subst h;simp
   ·rw[show((b:Int)-a-1)=((b-a-1:Nat):Int) by omega,Int.tdiv_eq_ediv_of_nonneg Ω];omega
  rw[e,lY _ Ω]
 rw[P];refine H.loopA y [3,6,7,8] (fun(x:Nat×Array α)=>[(9,.int .i64 ((x.1:Int)-1))]) (·.2) (fun x=>x.1) (fun x=>x.2.size=n/\x.1<=n/\Sort.heapBuild lt (b-a) a x.1 x.2=Sort.heapBuild lt (b-a) a ((b-a-1)/2+1) d) ((b-a-1)/2+1,d) J ⟨J,by simp;omega,rfl⟩ (by simp[cT,z]) aG aG go ?_;rintro⟨k,i⟩ ⟨s,Q,w⟩;simp only at s Q w;have F:((b:Int)-a)=(b-a:Nat):=Ω
 simp[Pv.look,H.slc,H.ssc];(with_reducible repeat' first|((first|apply bV|apply b0|apply bZ)<;>intro h<;>try simp at h)|refine ak ?_|simp[Pv.look,H.slc,H.ssc])
 ·obtain⟨k,rfl⟩:∃B,k=B+1:=⟨k-1,Ω⟩;have L:(((k+1:Nat):Int)-1)=(k:Nat):=Ω
  rw[Sort.heapBuild]at w;simp only[jj H,H.slc,H.ssc,jc,L,F];refine H.doFn (lk:=i.toList) (by simpa using s) (R:=fun p=> ∃c,p=c.toList/\c=Sort.siftDown lt (b-a) a k i/\c.size=n) ((Vw H i s k (b-a) a Ω U Ω).mono fun r E ⟨j,c,f,D,A⟩=>⟨j,c.toList,f,c,rfl,D,A⟩) (by rintro p ⟨c,rfl,_,q⟩;simpa using q) (by simp[ay,au,H.kdata (lk:=i.toList) (by simpa using s)]) ?_;rintro p ⟨c,rfl,j,f⟩;simp;((repeat' first|refine ak ?_|simp|((first|apply bV|apply b0|apply bZ)<;>intro h<;>try simp at h))<;>(try exact cA));refine bQ.whl (k,c) Ψ ⟨f,by simp;omega,by rw[<-w,j]⟩ (H.weakC y (by simpa using f) go)
 ·obtain rfl:k=0:=Ω
  rw[Sort.heapBuild]at w;have X:i.size=n:=s;refine H.loopA y [3,6,7] (fun(x:Nat×Array α)=>[(10,.int .i64 ((x.1:Int)-1))]) (·.2) (fun x=>x.1) (fun x=>x.2.size=n/\x.1<=b-a/\Sort.heapPop lt a x.1 x.2=Sort.heapPop lt a (b-a) i) (b-a,i) s ⟨s,Ψ,rfl⟩ i7 aG aG pm ?_;rintro⟨k,t⟩ ⟨u,N,v⟩;simp only at u N v;simp[Pv.look,H.slc,H.ssc];(with_reducible repeat' first|((first|apply bV|apply b0|apply bZ)<;>intro h<;>try simp at h)|refine ak ?_|simp[Pv.look,H.slc,H.ssc])
  ·obtain⟨k,rfl⟩:∃B,k=B+1:=⟨k-1,Ω⟩;have L:(((k+1:Nat):Int)-1)=(k:Nat):=Ω
   have G:((a:Int)+k)=(a+k:Nat):=Ω
   rw[Sort.heapPop]at v;simp only[L,G];refine H.swapA u U _ _ Ω Ω fun o=>?_;have K:(Sort.swp t a (a+k)).size=n:=by rw[hC,u]
   simp;simp only[jj H,H.slc,H.ssc,jc];refine H.doFn (lk:=(Sort.swp t a (a+k)).toList) (by simpa using K) (R:=fun p=> ∃c,p=c.toList/\c=Sort.siftDown lt k a 0 (Sort.swp t a (a+k))/\c.size=n) ((Vw H (Sort.swp t a (a+k)) K 0 k a Ω U Ω).mono fun r E ⟨j,c,f,D,A⟩=>⟨j,c.toList,f,c,rfl,D,A⟩) (by rintro p ⟨c,rfl,_,q⟩;simpa using q) (by simp[ay,au,H.kdata (lk:=(Sort.swp t a (a+k)).toList) (by simpa using K)]) ?_;rintro p ⟨c,rfl,j,f⟩;simp;((repeat' first|refine ak ?_|simp|((first|apply bV|apply b0|apply bZ)<;>intro h<;>try simp at h))<;>(try exact cA));refine bQ.whl (k,c) Ψ ⟨f,by simp;omega,by rw[<-v,j]⟩ (H.weakC y (by simpa using f) go)
  ·obtain rfl:k=0:=Ω
   rw[Sort.heapPop]at v;refine H.retA y u (.inr rfl) ⟨rfl,t,rfl,?_,u⟩;rw[Sort.heapSort,<-w,<-v]
def aiA(H:fH S n g cm lc cc lt)(d:Array α)(y:d.size=n)(a b:Nat)(L:a<=b)(ae:b<=n):
  bG ar 224 [fx g cm lc cc,.int .i64 a,.int .i64 b] (S d.toList) fun r K=>r= .tuple []/\∃v,K=S v.toList/\v=Sort.insertionSort lt d a b/\v.size=n:=by
 have z:=H.ok d.toList;have p:d.toList.length=n:=by simpa using y
 have s:∀l m,Pv.look (.loc m) (S l).b=none:=fun l=>(H.ok l).obj.1;have hu:∀l m cs,cG (.loc m) cs (S l).b=(S l).b++[(.loc m,cs)]:=fun l m cs=>ku (s l m);have al:∀m,aB.loc m∉di (S d.toList):=kq z.obj;have hle:=H.le;refine bG.mk mixed a7 Tryz.func224 Y9 Ψ z.obj fun N M=>?_;unfold K8;simp[fx,hu,al,cT,s];have F:((a:Int)+1)=(a+1:Nat):=Ω
 (repeat' first|refine ak ?_|simp[hu,al,cT,s]);rw[F];refine H.loopA p [1,2,3] (fun(x:Nat×Array α)=>[(6,.int .i64 x.1)]) (·.2) (fun x=>b+1-x.1) (fun x=>x.2.size=n/\x.1<=b+1/\Sort.insOuter lt a b x.1 x.2=Sort.insertionSort lt d a b) (a+1,d) y ⟨y,by simp;omega,rfl⟩ (by simp[cT,s]) aG aG go ?_;rintro⟨i,u⟩ ⟨q,J,k⟩;simp only at q J k;rw[Sort.insOuter]at k;simp;(with_reducible repeat' first|((first|apply bV|apply b0|apply bZ)<;>intro h<;>try simp at h)|refine ak ?_|simp)
 ·rw[if_pos Ω]at k;refine H.loopA p [1,2,3,6] (fun(x:Nat×Array α)=>[(7,.int .i64 x.1)]) (·.2) (fun x=>x.1) (fun x=>x.2.size=n/\x.1<=i/\Sort.insInner lt a x.1 x.2=Sort.insInner lt a i u) (i,u) q ⟨q,Ψ,rfl⟩ i7 aG aG go ?_;rintro⟨j,f⟩ ⟨c,D,e⟩;simp only at c D e;simp[Pv.look,H.slc,H.ssc];(with_reducible repeat' first|((first|apply bV|apply b0|apply bZ)<;>intro h<;>try simp at h)|refine ak ?_|simp[Pv.look,H.slc,H.ssc])
  ·obtain⟨j,rfl⟩:∃G,j=G+1:=⟨j-1,Ω⟩;have E:(((j+1:Nat):Int)-1)=(j:Nat):=Ω
   have t:((i:Int)+1)=(i+1:Nat):=Ω
   have w:((j:Int)+1)=(j+1:Nat):=Ω
   rw[Sort.insInner]at e;have aA:decide (j+1>a)=true:=by simp;omega
   rw[E];refine H.lessA c _ _ Ω Ω fun o=>?_;cases A:lt f[j+1]! f[j]! with
   |true=>rw[if_pos (by rw[aA,A];rfl)]at e;simp;(repeat' first|refine ak ?_|simp[Pv.look,H.slc,H.ssc]);rw[w];refine H.swapA c Ω _ _ Ω Ω fun o=>?_;simp;(repeat' first|refine ak ?_|simp);refine bQ.whl (j,Sort.swp f (j+1) j) Ψ ⟨by rw[hC,c],by simp;omega,e⟩ (H.weakC p (by simp[hC,c]) go)
   |false=>rw[if_neg (by simp[A])]at e;simp;((repeat' first|refine ak ?_|simp|((first|apply bV|apply b0|apply bZ)<;>intro h<;>try simp at h))<;>(try exact cA));rw[t];refine bQ.whl (i+1,f) gc ⟨c,by simp;omega,by rw[<-k,<-e]⟩ (H.weakC p (by simpa using c) go)
  ·have t:((i:Int)+1)=(i+1:Nat):=Ω
   have B:Sort.insInner lt a j f=f:=by
    cases j with
    |zero=>rfl
    |succ j=>rw[Sort.insInner,if_neg gc]
   rw[t];refine bQ.whl (i+1,f) gc ⟨c,by simp;omega,by rw[<-k,<-e,B]⟩ (H.weakC p (by simpa using c) go)
 ·rw[if_neg Ω]at k;exact H.retA p q (.inr rfl) ⟨rfl,u,rfl,k,q⟩
end
section
open Go Go.Pv
variable {α:Type} [Inhabited α] {S:List α->cS} {n g cm:Nat} {lc cc:List ah} {lt:α->α->Bool}
def wW{p:α->Bool}{d:Array α}{i j:Nat}(h:¬(i<=j/\p d[j]! =true)):Sort.scanDown p d i j=j:=by
 cases j with
 |zero=>rfl
 |succ j=>rw[Sort.scanDown,if_neg (by simpa using h)]
def CN{p:α->Bool}{d:Array α}{i j:Nat}(h:¬(i<=j/\p d[i]! =true)):Sort.scanUp p d j i=i:=by rw[Sort.scanUp,if_neg (by simpa using h)]
def PL{p:α->Bool}{d:Array α}{i j:Nat}(J:i<=j)(U:p d[i]! =true):Sort.scanUp p d j i=Sort.scanUp p d j (i+1):=by rw[Sort.scanUp,if_pos (by simp[J,U])]
def PK{p:α->Bool}{d:Array α}{i j:Nat}(J:i<=j+1)(U:p d[j+1]! =true):Sort.scanDown p d i (j+1)=Sort.scanDown p d i j:=by rw[Sort.scanDown,if_pos (by simp[J,U])]
def aiI(H:fH S n g cm lc cc lt)(d:Array α)(P:d.size=n)(a b pivot:Nat)(th:a<=pivot)(akq:pivot<b)(ot:a+1<b)(ae:b<=n):
  bG ar 240 [fx g cm lc cc,.int .i64 a,.int .i64 b,.int .i64 pivot] (S d.toList) fun r aj=>r= .tuple [.int .i64 (Sort.partition lt d a b pivot).1,.bool (Sort.partition lt d a b pivot).2.1]/\∃N,aj=S N.toList/\N=(Sort.partition lt d a b pivot).2.2/\N.size=n:=by
 obtain⟨R,bg⟩:∃R,R=Sort.partition lt d a b pivot:=⟨_,rfl⟩;rw[<-bg];unfold Sort.partition at bg;have U:=H.ok d.toList;have s:d.toList.length=n:=by simpa using P
 have Q:∀l m,Pv.look (.loc m) (S l).b=none:=fun l=>(H.ok l).obj.1;have hu:∀l m cs,cG (.loc m) cs (S l).b=(S l).b++[(.loc m,cs)]:=fun l m cs=>ku (Q l m);have al:∀m,aB.loc m∉di (S d.toList):=kq U.obj;have hle:=H.le;refine bG.mk mixed a7 Tryz.func240 aoa Ψ U.obj fun aN cP=>?_;unfold Te;simp[fx,hu,al,cT,Q];rw[H.ssc];refine H.swapA0 P Ω a pivot Ω Ω fun o=>?_;obtain⟨d1,M⟩:∃d1,d1=Sort.swp d a pivot:=⟨_,rfl⟩;have s1:d1.size=n:=by rw[M,hC,P]
 rw[<-M];simp only[<-M]at bg;have ai:((a:Int)+1)=(a+1:Nat):=Ω
 have aC:((b:Int)-1)=(b-1:Nat):=Ω
 simp;(repeat' first|refine ak ?_|simp);rw[ai,aC];refine H.loopA s [1,4,11] (fun(i:Nat)=>[(10,.int .i64 i)]) (fun _=>d1) (fun i=>b+1-i) (fun i=>a+1<=i/\i<=b/\Sort.scanUp (fun x=>lt x d1[a]!) d1 (b-1) i=Sort.scanUp (fun x=>lt x d1[a]!) d1 (b-1) (a+1)) (a+1) s1 ⟨Ω,Ω,rfl⟩ i7 aG aG go ?_;rintro i ⟨i1,i2,i3⟩;simp[Pv.look,H.slc];((repeat' first|refine ak ?_|simp[Pv.look,H.slc]|((first|apply bV|apply b0|apply bZ)<;>intro h<;>try simp at h))<;>(try exact cA));refine H.lessA s1 i a Ω Ω fun o=>?_;cases O:lt d1[i]! d1[a]!;rotate_left
 ·have E:((i:Int)+1)=(i+1:Nat):=Ω
  simp;(repeat' first|refine ak ?_|simp);rw[E];refine bQ.whl (i+1) Ω ⟨Ω,Ω,by rw[<-i3];exact(PL (p:=fun x=>lt x d1[a]!) Ω O).symm⟩ (H.weakC s (by simpa using s1) go)
 rotate_left
 ·have i4:Sort.scanUp (fun x=>lt x d1[a]!) d1 (b-1) i=i:=CN (by simp[O]);rw[i4]at i3;rw[<-i3]at bg;simp;refine H.loopA s [1,4,10] (fun(j:Nat)=>[(11,.int .i64 j)]) (fun _=>d1) (fun j=>j) (fun j=>i<=j+1/\j<=b-1/\Sort.scanDown (fun x=> !lt x d1[a]!) d1 i j=Sort.scanDown (fun x=> !lt x d1[a]!) d1 i (b-1)) (b-1) s1 ⟨Ω,Ω,rfl⟩ i7 aG aG go ?_;rintro j ⟨hz,xW,w⟩;simp[Pv.look,H.slc];((repeat' first|refine ak ?_|simp[Pv.look,H.slc,H.ssc]|((first|apply bV|apply b0|apply bZ)<;>intro h<;>try simp at h))<;>(try exact cA))
  ·refine H.lessA s1 j a Ω Ω fun o=>?_;cases B:lt d1[j]! d1[a]!
   ·obtain⟨j,rfl⟩:∃k,j=k+1:=⟨j-1,Ω⟩;have F:(((j+1:Nat):Int)-1)=(j:Nat):=Ω
    simp;(repeat' first|refine ak ?_|simp);try rw[F]
    refine bQ.whl j Ω ⟨Ω,Ω,by rw[<-w];exact(PK (p:=fun x=> !lt x d1[a]!) Ω (by simp[B])).symm⟩ (H.weakC s (by simpa using s1) go)
   ·have u:Sort.scanDown (fun x=> !lt x d1[a]!) d1 i j=j:=wW (by simp[B]);have cL:i≠j:=fun e=>by subst e;rw[O]at B;cases B
    rw[u]at w;rw[<-w,if_neg Ω]at bg;simp;((repeat' first|refine ak ?_|simp[Pv.look,H.slc,H.ssc]|((first|apply bV|apply b0|apply bZ)<;>intro h<;>try simp at h))<;>(try exact cA));refine H.swapA s1 Ω i j Ω Ω fun o=>?_;obtain⟨d2,L⟩:∃d2,d2=Sort.swp d1 i j:=⟨_,rfl⟩;have s2:d2.size=n:=by rw[L,hC,s1]
    rw[<-L];rw[<-L]at bg;have bo:((i:Int)+1)=(i+1:Nat):=Ω
    have Z:((j:Int)-1)=(j-1:Nat):=Ω
    simp;(repeat' first|refine ak ?_|simp);rw[bo,Z];refine H.loopA s [1,4] (fun(x:(Nat×Nat)×Array α)=>[(10,.int .i64 x.1.1),(11,.int .i64 x.1.2)]) (·.2) (fun x=>x.1.2+1-x.1.1) (fun x=>x.2.size=n/\(a+1<=x.1.1/\x.1.1<=x.1.2+1/\x.1.2<=b-1)/\Sort.partLoop lt a x.1.1 x.1.2 x.2=Sort.partLoop lt a (i+1) (j-1) d2) ((i+1,j-1),d2) s2 ⟨s2,⟨by simp;omega,by simp;omega,by simp;omega⟩,rfl⟩ i7 aG aG go ?_;rintro⟨⟨K,k⟩,c⟩ ⟨f,⟨bJ,Y,W⟩,t⟩;simp only at f bJ Y W t;rw[Sort.partLoop]at t;generalize oo:Sort.partLoop lt a (i+1) (j-1) d2=G at t bg;simp;refine H.loopA s [1,4,11] (fun(x:Nat)=>[(10,.int .i64 x)]) (fun _=>c) (fun x=>b+1-x) (fun x=>K<=x/\x<=k+1/\Sort.scanUp (fun x=>lt x c[a]!) c k x=Sort.scanUp (fun x=>lt x c[a]!) c k K) K f ⟨Ω,Ω,rfl⟩ i7 aG aG go ?_;rintro p ⟨da,dx,v⟩;simp[Pv.look,H.slc];((repeat' first|refine ak ?_|simp[Pv.look,H.slc]|((first|apply bV|apply b0|apply bZ)<;>intro h<;>try simp at h))<;>(try exact cA))
    ·refine H.lessA f p a Ω Ω fun o=>?_;cases J:lt c[p]! c[a]!;rotate_left
     ·have E:((p:Int)+1)=(p+1:Nat):=Ω
      simp;(repeat' first|refine ak ?_|simp);rw[E];refine bQ.whl (p+1) Ω ⟨Ω,Ω,by rw[<-v];exact(PL (p:=fun x=>lt x c[a]!) Ω J).symm⟩ (H.weakC s (by simpa using f) go)
     ·have D:Sort.scanUp (fun x=>lt x c[a]!) c k p=p:=CN (by simp[J]);rw[D]at v;simp only[<-v]at t;simp;refine H.loopA s [1,4,10] (fun(x:Nat)=>[(11,.int .i64 x)]) (fun _=>c) (fun x=>x) (fun x=>p<=x+1/\x<=k/\Sort.scanDown (fun x=> !lt x c[a]!) c p x=Sort.scanDown (fun x=> !lt x c[a]!) c p k) k f ⟨Ω,Ω,rfl⟩ i7 aG aG go ?_;rintro q ⟨be,bC,z⟩;simp[Pv.look,H.slc];((repeat' first|refine ak ?_|simp[Pv.look,H.slc,H.ssc]|((first|apply bV|apply b0|apply bZ)<;>intro h<;>try simp at h))<;>(try exact cA))
      ·refine H.lessA f q a Ω Ω fun o=>?_;cases A:lt c[q]! c[a]!
       ·obtain⟨q,rfl⟩:∃k,q=k+1:=⟨q-1,Ω⟩;have F:(((q+1:Nat):Int)-1)=(q:Nat):=Ω
        simp;(repeat' first|refine ak ?_|simp);try rw[F]
        refine bQ.whl q Ω ⟨Ω,Ω,by rw[<-z];exact(PK (p:=fun x=> !lt x c[a]!) Ω (by simp[A])).symm⟩ (H.weakC s (by simpa using f) go)
       ·have y:Sort.scanDown (fun x=> !lt x c[a]!) c p q=q:=wW (by simp[A]);have cL:p≠q:=fun e=>by subst e;rw[J]at A;cases A
        rw[y]at z;simp only[<-z]at t;rw[if_neg Ω,dif_pos Ω]at t;simp;((repeat' first|refine ak ?_|simp[Pv.look,H.slc,H.ssc]|((first|apply bV|apply b0|apply bZ)<;>intro h<;>try simp at h))<;>(try exact cA));refine H.swapA f Ω p q Ω Ω fun o=>?_;have X:((p:Int)+1)=(p+1:Nat):=Ω
        have V:((q:Int)-1)=(q-1:Nat):=Ω
        simp;(with_reducible repeat' first|((first|apply bV|apply b0|apply bZ)<;>intro h<;>try simp at h)|refine ak ?_|simp);rw[X,V];refine bQ.whl ((p+1,q-1),Sort.swp c p q) gc ⟨by rw[hC,f],⟨by simp;omega,by simp;omega,by simp;omega⟩,t⟩ (H.weakC s (by simp[hC,f]) go)
      ·have y:Sort.scanDown (fun x=> !lt x c[a]!) c p q=q:=wW Ω;rw[y]at z;simp only[<-z]at t;rw[if_pos Ω]at t;rw[<-t]at bg;refine H.swapA f Ω q a Ω Ω fun o=>?_;simp;refine H.retR s (d:=Sort.swp c q a) (by rw[hC,f]) (.inl rfl) ?_;simp[cM,aX,aY,aW];rw[bg];exact⟨⟨rfl,rfl⟩,_,rfl,rfl,by rw[hC,f]⟩
    ·have D:Sort.scanUp (fun x=>lt x c[a]!) c k p=p:=CN Ω;rw[D]at v;simp only[<-v]at t;have y:Sort.scanDown (fun x=> !lt x c[a]!) c p k=k:=wW Ω;rw[y,if_pos Ω]at t;rw[<-t]at bg;refine H.loopA s [1,4,10] (fun(x:Nat)=>[(11,.int .i64 x)]) (fun _=>c) (fun x=>x) (fun x=>x=k) k f rfl i7 aG aG go ?_;rintro q rfl;simp[Pv.look,H.slc];((repeat' first|refine ak ?_|simp[Pv.look,H.slc,H.ssc]|((first|apply bV|apply b0|apply bZ)<;>intro h<;>try simp at h))<;>(try exact cA));refine H.swapA f Ω q a Ω Ω fun o=>?_;simp;refine H.retR s (d:=Sort.swp c q a) (by rw[hC,f]) (.inl rfl) ?_;simp[cM,aX,aY,aW];rw[bg];exact⟨⟨rfl,rfl⟩,_,rfl,rfl,by rw[hC,f]⟩
  ·have u:Sort.scanDown (fun x=> !lt x d1[a]!) d1 i j=j:=wW Ω;rw[u]at w;rw[<-w,if_pos Ω]at bg;refine H.swapA s1 Ω j a Ω Ω fun o=>?_;simp;refine H.retR s (d:=Sort.swp d1 j a) (by rw[hC,s1]) (.inl rfl) ?_;simp[cM,aX,aY,aW];rw[bg];exact⟨⟨rfl,rfl⟩,_,rfl,rfl,by rw[hC,s1]⟩
 ·have i4:Sort.scanUp (fun x=>lt x d1[a]!) d1 (b-1) i=i:=CN Ω;rw[i4]at i3;have u:Sort.scanDown (fun x=> !lt x d1[a]!) d1 i (b-1)=b-1:=wW Ω;rw[<-i3,u,if_pos Ω]at bg;refine H.loopA s [1,4,10] (fun(j:Nat)=>[(11,.int .i64 j)]) (fun _=>d1) (fun j=>j) (fun j=>j=b-1) (b-1) s1 rfl i7 aG aG go ?_;rintro j rfl;simp[Pv.look,H.slc];((repeat' first|refine ak ?_|simp[Pv.look,H.slc,H.ssc]|((first|apply bV|apply b0|apply bZ)<;>intro h<;>try simp at h))<;>(try exact cA));refine H.swapA s1 Ω (b-1) a Ω Ω fun o=>?_;simp;refine H.retR s (d:=Sort.swp d1 (b-1) a) (by rw[hC,s1]) (.inl rfl) ?_;simp[cM,aX,aY,aW];rw[bg];exact⟨⟨rfl,rfl⟩,_,rfl,rfl,by rw[hC,s1]⟩
end
end Go.Proofs.YtfeencekjcjalaaGreatDoor
