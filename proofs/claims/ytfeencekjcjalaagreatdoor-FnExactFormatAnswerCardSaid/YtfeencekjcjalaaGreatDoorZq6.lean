/- Data asQ they come: a part may be longer than any program can use. -/
import Derived.Lib.OwnBridge
import Derived.Shelf.GgSortMore.Stable
import Derived.Shelf.GgSortFunc.SmallK
import Derived.Shelf.GgSortFunc.Slice
import Derived.Ground.GgsProg
import Derived.Test.YtfeencekjcjalaaGreatDoorProg
import Derived.Test.YtfeencekjcjalaaGreatDoorZq5
set_option linter.all false
set_option maxHeartbeats 4000000
set_option maxRecDepth 4000
open Array renaming getElem?_toList->uh
open BitVec renaming ofInt->rN
open Bool renaming eq_iff_iff->rO,false_eq_true->hI,or_eq_true->mR
open Go renaming Program->cE,TypeId->fF
open Go.Extern.ReflectliteSwapper renaming swap->Gp,swapper->ayh
open Go.Extern.ReflectliteValue renaming len->ayi,method->ayj,unpack->atI,valueError->atJ
open Go.Extern.Rtype renaming kind->acp
open Go.IntKind renaming bits->pw,i64->oQ,signed->uj,u64->hV,wrap->uk
open Go.IntWalk renaming i64_in->lY
open Go.Proofs.Tryz renaming prog->ar
open List renaming cons_append->b3,drop_eq_getElem_cons->mu,getElem?_eq_getElem->cl,getElem?_eq_some_iff->fp,getElem_of_mem->oS,length_cons->ik,map_append->sP,map_cons->fG,map_nil->nx,mem_cons->gj,mem_cons_of_mem->pB,mem_of_getElem?->ev,nil_append->b6,nodup_append->rS,pairwise_iff_getElem->q1,take_length->lZ,take_of_length_le->gv,take_succ->pC
open List.cons renaming injEq->pA
open Nat renaming add_mul->q2,le_refl->e2,le_trans->j1
open Ne renaming symm->lb
open Option renaming isSome_none->ny,map_eq_some_iff->gI,map_some->nz
open Option.some renaming injEq->dz
open Prod.mk renaming injEq->hW
open _root_ renaming ByteArray->lK,Option->aZ,UInt8->b7,beq_iff_eq->dW,congrArg->eG,decide_eq_false->l0,decide_eq_false_iff_not->hb,decide_eq_true->lL,decide_eq_true_eq->e3
namespace Go.Proofs.YtfeencekjcjalaaGreatDoor
section
open Go Go.Pv
variable {α:Type} [Inhabited α] {S:List α->cS} {n g cm:Nat} {lc cc:List ah} {lt:α->α->Bool}
def aiJ(H:fH S n g cm lc cc lt)(d:Array α)(D:d.size=n)(a b pivot:Nat)(W:a<=pivot)(P:pivot<b)(X:a+1<b)(ae:b<=n):
  bG ar 239 [fx g cm lc cc,.int .i64 a,.int .i64 b,.int .i64 pivot] (S d.toList) fun r Q=>r= .int .i64 (Sort.partitionEqual lt d a b pivot).1/\∃B,Q=S B.toList/\B=(Sort.partitionEqual lt d a b pivot).2/\B.size=n:=by
 obtain⟨R,bg⟩:∃R,R=Sort.partitionEqual lt d a b pivot:=⟨_,rfl⟩;rw[<-bg];unfold Sort.partitionEqual at bg;have F:=H.ok d.toList;have k:d.toList.length=n:=by simpa using D
 have E:∀l m,Pv.look (.loc m) (S l).b=none:=fun l=>(H.ok l).obj.1;have hu:∀l m cs,cG (.loc m) cs (S l).b=(S l).b++[(.loc m,cs)]:=fun l m cs=>ku (E l m);have al:∀m,aB.loc m∉di (S d.toList):=kq F.obj;have hle:=H.le;refine bG.mk mixed a7 Tryz.func239 an9 Ψ F.obj fun aN cP=>?_;unfold Td;simp[fx,hu,al,cT,E];rw[H.ssc];refine H.swapA0 D Ω a pivot Ω Ω fun o=>?_;obtain⟨d1,A⟩:∃d1,d1=Sort.swp d a pivot:=⟨_,rfl⟩;have s1:d1.size=n:=by rw[A,hC,D]
 rw[<-A];rw[<-A]at bg;have U:((a:Int)+1)=(a+1:Nat):=Ω
 have V:((b:Int)-1)=(b-1:Nat):=Ω
 simp;(repeat' first|refine ak ?_|simp);rw[U,V];refine H.loopA k [1,4] (fun(x:(Nat×Nat)×Array α)=>[(9,.int .i64 x.1.1),(10,.int .i64 x.1.2)]) (·.2) (fun x=>x.1.2+1-x.1.1) (fun x=>x.2.size=n/\(a+1<=x.1.1/\x.1.1<=x.1.2+1/\x.1.2<=b-1)/\Sort.partEqLoop lt a x.1.1 x.1.2 x.2=R) ((a+1,b-1),d1) s1 ⟨s1,⟨Ψ,by simp;omega,Ψ⟩,bg.symm⟩ i7 aG aG go ?_;rintro⟨⟨z,i⟩,c⟩ ⟨f,⟨O,N,L⟩,j⟩;simp only at f O N L j;rw[Sort.partEqLoop]at j;simp;refine H.loopA k [1,4,10] (fun(x:Nat)=>[(9,.int .i64 x)]) (fun _=>c) (fun x=>b+1-x) (fun x=>z<=x/\x<=i+1/\Sort.scanUp (fun x=> !lt c[a]! x) c i x=Sort.scanUp (fun x=> !lt c[a]! x) c i z) z f ⟨Ω,Ω,rfl⟩ i7 aG aG go ?_;rintro p ⟨Z,Y,s⟩;simp[Pv.look,H.slc];((repeat' first|refine ak ?_|simp[Pv.look,H.slc]|((first|apply bV|apply b0|apply bZ)<;>intro h<;>try simp at h))<;>(try exact cA))
 ·refine H.lessA f a p Ω Ω fun o=>?_;cases y:lt c[a]! c[p]!
  ·have G:((p:Int)+1)=(p+1:Nat):=Ω
   simp;(repeat' first|refine ak ?_|simp);rw[G];refine bQ.whl (p+1) Ω ⟨Ω,Ω,by rw[<-s];exact(PL (p:=fun x=> !lt c[a]! x) Ω (by simp[y])).symm⟩ (H.weakC k (by simpa using f) go)
  ·have w:Sort.scanUp (fun x=> !lt c[a]! x) c i p=p:=CN (by simp[y]);rw[w]at s;simp only[<-s]at j;simp;refine H.loopA k [1,4,9] (fun(x:Nat)=>[(10,.int .i64 x)]) (fun _=>c) (fun x=>x) (fun x=>p<=x+1/\x<=i/\Sort.scanDown (fun x=>lt c[a]! x) c p x=Sort.scanDown (fun x=>lt c[a]! x) c p i) i f ⟨Ω,Ω,rfl⟩ i7 aG aG go ?_;rintro q ⟨be,bC,u⟩;simp[Pv.look,H.slc];((repeat' first|refine ak ?_|simp[Pv.look,H.slc,H.ssc]|((first|apply bV|apply b0|apply bZ)<;>intro h<;>try simp at h))<;>(try exact cA))
   ·refine H.lessA f a q Ω Ω fun o=>?_;cases v:lt c[a]! c[q]!;rotate_left
    ·obtain⟨q,rfl⟩:∃i,q=i+1:=⟨q-1,Ω⟩;have J:(((q+1:Nat):Int)-1)=(q:Nat):=Ω
     simp;(repeat' first|refine ak ?_|simp);try rw[J]
     refine bQ.whl q Ω ⟨Ω,Ω,by rw[<-u];exact(PK (p:=fun x=>lt c[a]! x) Ω (by simp[v])).symm⟩ (H.weakC k (by simpa using f) go)
    ·have t:Sort.scanDown (fun x=>lt c[a]! x) c p q=q:=wW (by simp[v]);have cL:p≠q:=fun e=>by subst e;rw[y]at v;cases v
     rw[t]at u;simp only[<-u]at j;rw[if_neg Ω,dif_pos Ω]at j;simp;((repeat' first|refine ak ?_|simp[Pv.look,H.slc,H.ssc]|((first|apply bV|apply b0|apply bZ)<;>intro h<;>try simp at h))<;>(try exact cA));refine H.swapA f Ω p q Ω Ω fun o=>?_;have M:((p:Int)+1)=(p+1:Nat):=Ω
     have K:((q:Int)-1)=(q-1:Nat):=Ω
     simp;(with_reducible repeat' first|((first|apply bV|apply b0|apply bZ)<;>intro h<;>try simp at h)|refine ak ?_|simp);rw[M,K];refine bQ.whl ((p+1,q-1),Sort.swp c p q) gc ⟨by rw[hC,f],⟨by simp;omega,by simp;omega,by simp;omega⟩,j⟩ (H.weakC k (by simp[hC,f]) go)
   ·have t:Sort.scanDown (fun x=>lt c[a]! x) c p q=q:=wW Ω;rw[t]at u;simp only[<-u]at j;rw[if_pos Ω]at j;refine H.retR k (d:=c) f (.inl rfl) ?_;simp[cM,aX,aY,aW];rw[<-j];exact⟨rfl,_,rfl,rfl,f⟩
 ·have w:Sort.scanUp (fun x=> !lt c[a]! x) c i p=p:=CN Ω;rw[w]at s;simp only[<-s]at j;have t:Sort.scanDown (fun x=>lt c[a]! x) c p i=i:=wW Ω;rw[t,if_pos Ω]at j;refine H.loopA k [1,4,9] (fun(x:Nat)=>[(10,.int .i64 x)]) (fun _=>c) (fun x=>x) (fun x=>x=i) i f rfl i7 aG aG go ?_;rintro q rfl;simp[Pv.look,H.slc];((repeat' first|refine ak ?_|simp[Pv.look,H.slc,H.ssc]|((first|apply bV|apply b0|apply bZ)<;>intro h<;>try simp at h))<;>(try exact cA));refine H.retR k (d:=c) f (.inl rfl) ?_;simp[cM,aX,aY,aW];rw[<-j];exact⟨rfl,_,rfl,rfl,f⟩
end
section
open Go Go.Pv
variable {α:Type} [Inhabited α] {S:List α->cS} {n g cm:Nat} {lc cc:List ah} {lt:α->α->Bool}
def aiH(H:fH S n g cm lc cc lt)(d:Array α)(X:d.size=n)(a b:Nat)(ot:a<b)(ae:b<=n)(U:2<=n):
  bG ar 238 [fx g cm lc cc,.int .i64 a,.int .i64 b] (S d.toList) fun r aj=>r= .bool (Sort.partialInsertionSort lt d a b).2/\∃Q,aj=S Q.toList/\Q=(Sort.partialInsertionSort lt d a b).1/\Q.size=n:=by
 obtain⟨R,bg⟩:∃R,R=Sort.partialInsertionSort lt d a b:=⟨_,rfl⟩;rw[<-bg];unfold Sort.partialInsertionSort at bg;have Z:=H.ok d.toList;have k:d.toList.length=n:=by simpa using X
 have V:∀l m,Pv.look (.loc m) (S l).b=none:=fun l=>(H.ok l).obj.1;have hu:∀l m cs,cG (.loc m) cs (S l).b=(S l).b++[(.loc m,cs)]:=fun l m cs=>ku (V l m);have al:∀m,aB.loc m∉di (S d.toList):=kq Z.obj;have hle:=H.le;refine bG.mk mixed a7 Tryz.func238 an8 Ψ Z.obj fun aN cP=>?_;unfold Tc;simp[fx,hu,al,cT,V];have ai:((a:Int)+1)=(a+1:Nat):=Ω
 (repeat' first|refine ak ?_|simp);rw[ai];refine H.loopA k [1,2,3] (fun(x:(Nat×Nat)×Array α)=>[(7,.int .i64 x.1.1),(8,.int .i64 x.1.2)]) (·.2) (fun x=>5-x.1.2) (fun x=>x.2.size=n/\(a+1<=x.1.1/\x.1.1<=b/\x.1.2<=5)/\Sort.partialIns lt a b (5-x.1.2) x.1.1 x.2=R) ((a+1,0),d) X ⟨X,⟨Ψ,by simp;omega,Ψ⟩,bg.symm⟩ (by simp[cT,V]) aG aG go ?_;rintro⟨⟨i0,s⟩,z⟩ ⟨w,⟨bJ,cz,fv⟩,c⟩;simp only at w bJ cz fv c;simp;((repeat' first|refine ak ?_|simp|((first|apply bV|apply b0|apply bZ)<;>intro h<;>try simp at h))<;>(try exact cA))
 ·obtain⟨m,hm⟩:∃m,5-s=m+1:=⟨5-s-1,Ω⟩;rw[hm,Sort.partialIns]at c;refine H.loopA k [1,2,3,8] (fun(x:Nat)=>[(7,.int .i64 x)]) (fun _=>z) (fun x=>b-x) (fun x=>i0<=x/\x<=b/\Sort.scanSorted lt z b x=Sort.scanSorted lt z b i0) i0 w ⟨Ω,Ω,rfl⟩ i7 aG aG go ?_;rintro i ⟨i1,i2,i3⟩;rw[Sort.scanSorted]at i3;have L:((i:Int)+1)=(i+1:Nat):=Ω
  have M:((i:Int)-1)=(i-1:Nat):=Ω
  have es:((s:Int)+1)=(s+1:Nat):=Ω
  have em:5-(s+1)=m:=Ω
  simp[Pv.look,H.slc];((repeat' first|refine ak ?_|simp[Pv.look,H.slc]|((first|apply bV|apply b0|apply bZ)<;>intro h<;>try simp at h))<;>(try exact cA))
  ·rw[M];refine H.lessA w i (i-1) Ω Ω fun o=>?_;cases ab:lt z[i]! z[i-1]!
   ·rw[if_pos (by simp[ab];omega)]at i3;simp;(repeat' first|refine ak ?_|simp);rw[L];refine bQ.whl (i+1) Ω ⟨Ω,Ω,i3⟩ (H.weakC k (by simpa using w) go)
   ·rw[if_neg (by simp[ab])]at i3;simp only[<-i3]at c;rw[if_neg Ω]at c;have BD:(i:Int)≠b:=Ω
    have W:((i:Int)==b)=false:=by simp;omega
    simp;((repeat' first|refine ak ?_|simp[BD,W,Pv.look,H.slc,H.ssc]|((first|apply bV|apply b0|apply bZ)<;>intro h<;>try simp at h))<;>(try exact cA))
    ·rw[if_pos Ω]at c;refine H.retR k (d:=z) w (.inl rfl) ?_;simp[cM,aX,aY,aW];rw[<-c];exact⟨rfl,_,rfl,rfl,w⟩
    ·rw[if_neg Ω]at c;rw[M];refine H.swapA w U i (i-1) Ω Ω fun o=>?_;obtain⟨d2,O⟩:∃d2,d2=Sort.swp z i (i-1):=⟨_,rfl⟩;have s2:d2.size=n:=by rw[O,hC,w]
     rw[<-O];simp only[<-O]at c;by_cases Y:2<=b-i
     ·rw[if_pos Y]at c;have y:(2:Int)<=(b:Int)-i:=Ω
      by_cases J:2<=i-a
      ·rw[if_pos J]at c;have B:(2:Int)<=(i:Int)-a:=Ω
       simp;(repeat' first|refine ak ?_|simp[B]);rw[M];refine H.loopA k [1,2,3,7,8] (fun(x:Nat×Array α)=>[(9,.int .i64 x.1)]) (·.2) (fun x=>x.1) (fun x=>x.2.size=n/\x.1<=i-1/\Sort.shiftDown lt x.1 x.2=Sort.shiftDown lt (i-1) d2) (i-1,d2) s2 ⟨s2,Ψ,rfl⟩ i7 aG aG go ?_;rintro⟨j,v⟩ ⟨p,N,u⟩;simp only at p N u;simp[Pv.look,H.slc,H.ssc];((repeat' first|refine ak ?_|simp[Pv.look,H.slc,H.ssc,y]|((first|apply bV|apply b0|apply bZ)<;>intro h<;>try simp at h))<;>(try exact cA))
       ·obtain⟨j,rfl⟩:∃P,j=P+1:=⟨j-1,Ω⟩;have D:(((j+1:Nat):Int)-1)=(j:Nat):=Ω
        rw[Sort.shiftDown]at u;try rw[D]
        refine H.lessA p (j+1) j Ω Ω fun o=>?_;cases F:lt v[j+1]! v[j]!
        ·rw[if_pos (by simp[F])]at u;rw[<-u]at c;try simp
         try(repeat' first|refine ak ?_|simp[Pv.look,H.slc,H.ssc,y])
         rw[L];refine H.loopA k [1,2,3,7,8] (fun(x:Nat×Array α)=>[(10,.int .i64 x.1)]) (·.2) (fun x=>b-x.1) (fun x=>x.2.size=n/\(i+1<=x.1/\x.1<=b)/\Sort.shiftUp lt b x.1 x.2=Sort.shiftUp lt b (i+1) v) (i+1,v) p ⟨p,⟨Ψ,by simp;omega⟩,rfl⟩ i7 aG aG go ?_;rintro⟨q,t⟩ ⟨e,⟨E,K⟩,f⟩;simp only at e E K f;rw[Sort.shiftUp]at f;have eq:((q:Int)-1)=(q-1:Nat):=Ω
         have G:((q:Int)+1)=(q+1:Nat):=Ω
         simp[Pv.look,H.slc,H.ssc];((repeat' first|refine ak ?_|simp[Pv.look,H.slc,H.ssc]|((first|apply bV|apply b0|apply bZ)<;>intro h<;>try simp at h))<;>(try exact cA))
         ·rw[if_pos Ω]at f;rw[eq];refine H.lessA e q (q-1) Ω Ω fun o=>?_;cases A:lt t[q]! t[q-1]!
          ·rw[if_pos (by simp[A])]at f;rw[<-f]at c;simp;(repeat' first|refine ak ?_|simp);rw[es];refine bQ.whl ((i,s+1),t) gc ⟨e,⟨by simp;omega,by simp;omega,by simp;omega⟩,by simp only[em];exact c⟩ (H.weakC k (by simpa using e) go)
          ·rw[if_neg (by simp[A])]at f;simp;(repeat' first|refine ak ?_|simp[Pv.look,H.slc,H.ssc]);rw[eq];refine H.swapA e Ω q (q-1) Ω Ω fun o=>?_;simp;((repeat' first|refine ak ?_|simp|((first|apply bV|apply b0|apply bZ)<;>intro h<;>try simp at h))<;>(try exact cA));rw[G];refine bQ.whl (q+1,Sort.swp t q (q-1)) gc ⟨by rw[hC,e],⟨by simp;omega,by simp;omega⟩,f⟩ (H.weakC k (by simp[hC,e]) go)
         ·rw[if_neg Ω]at f;rw[<-f]at c;rw[es];refine bQ.whl ((i,s+1),t) gc ⟨e,⟨by simp;omega,by simp;omega,by simp;omega⟩,by simp only[em];exact c⟩ (H.weakC k (by simpa using e) go)
        ·rw[if_neg (by simp[F])]at u;simp;(repeat' first|refine ak ?_|simp[Pv.look,H.slc,H.ssc]);try rw[D]
         refine H.swapA p U (j+1) j Ω Ω fun o=>?_;simp;((repeat' first|refine ak ?_|simp|((first|apply bV|apply b0|apply bZ)<;>intro h<;>try simp at h))<;>(try exact cA));try rw[D]
         refine bQ.whl (j,Sort.swp v (j+1) j) Ψ ⟨by rw[hC,p],by simp;omega,u⟩ (H.weakC k (by simp[hC,p]) go)
       ·obtain rfl:j=0:=Ω
        rw[Sort.shiftDown]at u;rw[<-u]at c;try simp
        try(repeat' first|refine ak ?_|simp[Pv.look,H.slc,H.ssc,y])
        rw[L];refine H.loopA k [1,2,3,7,8] (fun(x:Nat×Array α)=>[(10,.int .i64 x.1)]) (·.2) (fun x=>b-x.1) (fun x=>x.2.size=n/\(i+1<=x.1/\x.1<=b)/\Sort.shiftUp lt b x.1 x.2=Sort.shiftUp lt b (i+1) v) (i+1,v) p ⟨p,⟨Ψ,by simp;omega⟩,rfl⟩ i7 aG aG go ?_;rintro⟨q,t⟩ ⟨e,⟨E,K⟩,f⟩;simp only at e E K f;rw[Sort.shiftUp]at f;have eq:((q:Int)-1)=(q-1:Nat):=Ω
        have G:((q:Int)+1)=(q+1:Nat):=Ω
        simp[Pv.look,H.slc,H.ssc];((repeat' first|refine ak ?_|simp[Pv.look,H.slc,H.ssc]|((first|apply bV|apply b0|apply bZ)<;>intro h<;>try simp at h))<;>(try exact cA))
        ·rw[if_pos Ω]at f;rw[eq];refine H.lessA e q (q-1) Ω Ω fun o=>?_;cases A:lt t[q]! t[q-1]!
         ·rw[if_pos (by simp[A])]at f;rw[<-f]at c;simp;(repeat' first|refine ak ?_|simp);rw[es];refine bQ.whl ((i,s+1),t) gc ⟨e,⟨by simp;omega,by simp;omega,by simp;omega⟩,by simp only[em];exact c⟩ (H.weakC k (by simpa using e) go)
         ·rw[if_neg (by simp[A])]at f;simp;(repeat' first|refine ak ?_|simp[Pv.look,H.slc,H.ssc]);rw[eq];refine H.swapA e Ω q (q-1) Ω Ω fun o=>?_;simp;((repeat' first|refine ak ?_|simp|((first|apply bV|apply b0|apply bZ)<;>intro h<;>try simp at h))<;>(try exact cA));rw[G];refine bQ.whl (q+1,Sort.swp t q (q-1)) gc ⟨by rw[hC,e],⟨by simp;omega,by simp;omega⟩,f⟩ (H.weakC k (by simp[hC,e]) go)
        ·rw[if_neg Ω]at f;rw[<-f]at c;rw[es];refine bQ.whl ((i,s+1),t) gc ⟨e,⟨by simp;omega,by simp;omega,by simp;omega⟩,by simp only[em];exact c⟩ (H.weakC k (by simpa using e) go)
      ·rw[if_neg J]at c;have B:¬(2:Int)<=(i:Int)-a:=Ω
       simp;(repeat' first|refine ak ?_|simp[B,y]);try simp
       try(repeat' first|refine ak ?_|simp[Pv.look,H.slc,H.ssc,y])
       rw[L];refine H.loopA k [1,2,3,7,8] (fun(x:Nat×Array α)=>[(10,.int .i64 x.1)]) (·.2) (fun x=>b-x.1) (fun x=>x.2.size=n/\(i+1<=x.1/\x.1<=b)/\Sort.shiftUp lt b x.1 x.2=Sort.shiftUp lt b (i+1) d2) (i+1,d2) s2 ⟨s2,⟨Ψ,by simp;omega⟩,rfl⟩ i7 aG aG go ?_;rintro⟨q,t⟩ ⟨e,⟨E,K⟩,f⟩;simp only at e E K f;rw[Sort.shiftUp]at f;have eq:((q:Int)-1)=(q-1:Nat):=Ω
       have G:((q:Int)+1)=(q+1:Nat):=Ω
       simp[Pv.look,H.slc,H.ssc];((repeat' first|refine ak ?_|simp[Pv.look,H.slc,H.ssc]|((first|apply bV|apply b0|apply bZ)<;>intro h<;>try simp at h))<;>(try exact cA))
       ·rw[if_pos Ω]at f;rw[eq];refine H.lessA e q (q-1) Ω Ω fun o=>?_;cases A:lt t[q]! t[q-1]!
        ·rw[if_pos (by simp[A])]at f;rw[<-f]at c;simp;(repeat' first|refine ak ?_|simp);rw[es];refine bQ.whl ((i,s+1),t) gc ⟨e,⟨by simp;omega,by simp;omega,by simp;omega⟩,by simp only[em];exact c⟩ (H.weakC k (by simpa using e) go)
        ·rw[if_neg (by simp[A])]at f;simp;(repeat' first|refine ak ?_|simp[Pv.look,H.slc,H.ssc]);rw[eq];refine H.swapA e Ω q (q-1) Ω Ω fun o=>?_;simp;((repeat' first|refine ak ?_|simp|((first|apply bV|apply b0|apply bZ)<;>intro h<;>try simp at h))<;>(try exact cA));rw[G];refine bQ.whl (q+1,Sort.swp t q (q-1)) gc ⟨by rw[hC,e],⟨by simp;omega,by simp;omega⟩,f⟩ (H.weakC k (by simp[hC,e]) go)
       ·rw[if_neg Ω]at f;rw[<-f]at c;rw[es];refine bQ.whl ((i,s+1),t) gc ⟨e,⟨by simp;omega,by simp;omega,by simp;omega⟩,by simp only[em];exact c⟩ (H.weakC k (by simpa using e) go)
     ·rw[if_neg Y]at c;have y:¬(2:Int)<=(b:Int)-i:=Ω
      by_cases J:2<=i-a
      ·rw[if_pos J]at c;have B:(2:Int)<=(i:Int)-a:=Ω
       simp;(repeat' first|refine ak ?_|simp[B]);rw[M];refine H.loopA k [1,2,3,7,8] (fun(x:Nat×Array α)=>[(9,.int .i64 x.1)]) (·.2) (fun x=>x.1) (fun x=>x.2.size=n/\x.1<=i-1/\Sort.shiftDown lt x.1 x.2=Sort.shiftDown lt (i-1) d2) (i-1,d2) s2 ⟨s2,Ψ,rfl⟩ i7 aG aG go ?_;rintro⟨j,v⟩ ⟨p,N,u⟩;simp only at p N u;simp[Pv.look,H.slc,H.ssc];((repeat' first|refine ak ?_|simp[Pv.look,H.slc,H.ssc,y]|((first|apply bV|apply b0|apply bZ)<;>intro h<;>try simp at h))<;>(try exact cA))
       ·obtain⟨j,rfl⟩:∃P,j=P+1:=⟨j-1,Ω⟩;have D:(((j+1:Nat):Int)-1)=(j:Nat):=Ω
        rw[Sort.shiftDown]at u;try rw[D]
        refine H.lessA p (j+1) j Ω Ω fun o=>?_;cases F:lt v[j+1]! v[j]!
        ·rw[if_pos (by simp[F])]at u;rw[<-u]at c;try simp
         try(repeat' first|refine ak ?_|simp[Pv.look,H.slc,H.ssc,y])
         rw[es];refine bQ.whl ((i,s+1),v) gc ⟨p,⟨by simp;omega,by simp;omega,by simp;omega⟩,by simp only[em];exact c⟩ (H.weakC k (by simpa using p) go)
        ·rw[if_neg (by simp[F])]at u;simp;(repeat' first|refine ak ?_|simp[Pv.look,H.slc,H.ssc]);try rw[D]
         refine H.swapA p U (j+1) j Ω Ω fun o=>?_;simp;((repeat' first|refine ak ?_|simp|((first|apply bV|apply b0|apply bZ)<;>intro h<;>try simp at h))<;>(try exact cA));try rw[D]
         refine bQ.whl (j,Sort.swp v (j+1) j) Ψ ⟨by rw[hC,p],by simp;omega,u⟩ (H.weakC k (by simp[hC,p]) go)
       ·obtain rfl:j=0:=Ω
        rw[Sort.shiftDown]at u;rw[<-u]at c;try simp
        try(repeat' first|refine ak ?_|simp[Pv.look,H.slc,H.ssc,y])
        rw[es];refine bQ.whl ((i,s+1),v) gc ⟨p,⟨by simp;omega,by simp;omega,by simp;omega⟩,by simp only[em];exact c⟩ (H.weakC k (by simpa using p) go)
      ·rw[if_neg J]at c;have B:¬(2:Int)<=(i:Int)-a:=Ω
       simp;((repeat' first|refine ak ?_|simp[B,y]|((first|apply bV|apply b0|apply bZ)<;>intro h<;>try simp at h))<;>(try exact cA));done
  ·rw[if_neg gc]at i3;simp only[<-i3]at c;rw[if_pos Ω]at c;refine H.retR k (d:=z) w (.inl rfl) ?_;simp[cM,aX,aY,aW];rw[<-c];exact⟨rfl,_,rfl,rfl,w⟩
 ·have:5-s=0:=Ω
  rw[this,Sort.partialIns]at c;refine H.retR k (d:=z) w (.inl rfl) ?_;simp[cM,aX,aY,aW];rw[<-c];exact⟨rfl,_,rfl,rfl,w⟩
end
section
open Go Go.Pv
variable {α:Type} [Inhabited α] {S:List α->cS} {n g cm:Nat} {lc cc:List ah} {lt:α->α->Bool}
def fK(S:List α->cS)(d:Array α)(v:Nat):cS:=⟨(.obj 901,[.int .i64 v])::(S d.toList).b,(S d.toList).e⟩
def tM(S:List α->cS)(m:Nat):Prop:= ∀l,Pv.look (.obj m) (S l).b=none/\Pv.look (.obj m) (S l).e=none
def oW(H:fH S n g cm lc cc lt)(d:Array α)(v:Nat):ea (fK S d v):=by
 have h:=H.ok d.toList;have b:∀k,inObs (S d.toList) k->inObs (fK S d v) k:=fun k a=>by
  rcases a with a|a
  ·refine .inl ?_;simp only[fK,Pv.look];split
   ·rfl
   ·exact a
  ·exact .inr a
 refine⟨⟨fun m=>?_,h.obj.2⟩,fun k cs a=>?_,fun k o al xs c=>kH b _ (h.ke k o al xs c)⟩
 ·simp[fK,Pv.look,h.obj.1 m]
 ·simp only[fK,Pv.look]at a;split at a
  ·cases a;simp[ay,au]
  ·exact kH b _ (h.kb k cs a)
def ur(d:Array α)(v v':Nat):Same (fK S d v) (fK S d v'):=⟨fun k=>by simp only[fK,Pv.look];split<;>rfl,fun _=>rfl⟩
def Ma(H:fH S n g cm lc cc lt)(u:tM S 901)(d:Array α)(A:d.size=n)(a b v:Nat)(K:a<n)(ae:b<n)(M:v<=1000):
  bG ar 256 [fx g cm lc cc,.int .i64 a,.int .i64 b,.ptr (.obj 901) 0] (fK S d v) fun r h=>r= .tuple [.int .i64 (Sort.order2 lt d a b v).1,.int .i64 (Sort.order2 lt d a b v).2.1]/\h=fK S d (Sort.order2 lt d a b v).2.2:=by
 have z:=H.ok d.toList;have s:d.toList.length=n:=by simpa using A
 have f:∀l m,Pv.look (.loc m) (S l).b=none:=fun l=>(H.ok l).obj.1;have hu:∀l m cs,cG (.loc m) cs (S l).b=(S l).b++[(.loc m,cs)]:=fun l m cs=>ku (f l m);have al:∀m,aB.loc m∉di (S d.toList):=kq z.obj;have p:∀l,Pv.look (.obj 901) (S l).b=none:=fun l=>(u l).1;have G:∀l,Pv.look (.obj 901) (S l).e=none:=fun l=>(u l).2;have hle:=H.le;have j:=oW H d v;obtain⟨R,bg⟩:∃R,R=Sort.order2 lt d a b v:=⟨_,rfl⟩;rw[<-bg];unfold Sort.order2 at bg;refine bG.mk mixed a7 Tryz.func256 an7 Ψ j.obj fun L J=>?_;unfold Tb;have i:aB.loc 0∉di (fK S d v):=kq j.obj 0;generalize F:di (fK S d v)=ob at i⊢;unfold fK;simp[fx,hu,i,cT,f,Pv.look,cG];rw[H.slc];refine cx.ob (H.less d.toList s b a _ _ (AU Ω) (AU Ω)) (H.ok _) (fun k cs c=>?_) (fun _ _ c=>c) (by simp[au,ay,H.klc d.toList s]) ?_
 ·simp only[Pv.look];split
  ·rename_i e;subst e;rw[p]at c;cases c
  ·rw[cT,c]
 rintro r h ⟨rfl,rfl⟩;refine⟨Same.refl _,?_⟩;have hw:bW (S d.toList).b ((aB.obj 901,[ah.int .i64 v])::((S d.toList).b++[(aB.loc 0,[ah.func g lc,ah.func cm cc])]))=[(aB.obj 901,[ah.int .i64 v]),(aB.loc 0,[ah.func g lc,ah.func cm cc])]:=by simp only[bW,p];rw[iM,hn];simp[bW,f]
 rw[hw,hn];have q:∀(t:List (Nat×ah)) (o:List aB) (v':Nat) (D:List ah) (x y:Nat),Pv.get 8 t= .int .i64 x->Pv.get 9 t= .int .i64 y->R=(x,y,v')->
   cJ [.tmp 8,.tmp 9] (fK S d v) (fun r h=>r= .tuple [.int .i64 R.1,.int .i64 R.2.1]/\h=fK S d R.2.2) .ret ⟨t,(aB.obj 901,[.int .i64 v'])::(aB.loc 0,D)::(S d.toList).b,(S d.toList).e,1,o⟩:=by
  rintro t o v' D x y c B rfl;refine cJ.at (fK S d v') (.inl rfl) (oW H d v') (ur _ _ _) (fun k cs aA=>?_) (fun _ _ aA=>aA) ?_
  ·simp only[fK,Pv.look]at aA⊢;split at aA
   ·rename_i e;rw[if_pos e];exact aA
   ·rename_i e;rw[if_neg e];split
    ·rename_i E;subst E;rw[f]at aA;cases aA
    ·exact aA
  ·simp[cM,aX,aY,aW,c,B]
 cases c:lt d[b]! d[a]! with
 |true=>
  rw[if_pos c]at bg;simp[Pv.look,cG];(with_reducible repeat' first|refine ak ?_|simp[Pv.look,cG]);have w:((v:Int)+1)=(v+1:Nat):=Ω
  rw[w];exact q _ _ (v+1) _ b a rfl rfl bg
 |false=>rw[if_neg (by simp[c])]at bg;simp[Pv.look,cG];exact q _ _ v _ a b rfl rfl bg
def YM{s a:cS}{f:Nat}{args:List ah}{r:ah}(m:bG ar f args s fun g i=>g=r/\i=a)(c:ea s)(e:Same s a)(l:ay (inObs s) args){t:List (Nat×ah)}{D:List ah}{o:List aB}{d:aZ Nat}{K:bn->Prop}
  (h:∀o,K ⟨eY d r t,(.loc 0,D)::a.b,a.e,1,o⟩):cx ar f args ⟨t,s.b++[(.loc 0,D)],s.e,1,o⟩ d K:=by
 refine cx.ob m c (fun k cs b=>by rw[cT,b]) (fun _ _ b=>b) l ?_;rintro r a ⟨rfl,rfl⟩;refine⟨e,?_⟩;have j:bW s.b (s.b++[(.loc 0,D)])=[(.loc 0,D)]:=by rw[iM,hn];simp[bW,c.obj.1 0]
 have n:bW s.e s.e=[]:=hn _;simp only[j,n];exact h _
def Fk{s a:cS}{f:Nat}{args:List ah}{r:ah}(n:bG ar f args s fun g i=>g=r/\i=a)(c:ea s)(e:Same s a)(l:ay (inObs s) args){t:List (Nat×ah)}{D:List ah}{o:List aB}{d:aZ Nat}{K:bn->Prop}
  (h:∀o,K ⟨eY d r t,(.loc 0,D)::a.b,a.e,1,o⟩):cx ar f args ⟨t,(.loc 0,D)::s.b,s.e,1,o⟩ d K:=by
 refine cx.ob n c (fun k cs b=>?_) (fun _ _ b=>b) l ?_
 ·cases k with
  |loc m=>rw[c.obj.1 m]at b;cases b
  |obj m=>simpa[Pv.look]using b
 rintro r a ⟨rfl,rfl⟩;refine⟨e,?_⟩;have j:bW s.b ((.loc 0,D)::s.b)=[(.loc 0,D)]:=by have:=iM s.b [(aB.loc 0,D)] s.b;rw[hn]at this;simpa[bW,c.obj.1 0]using this
 have p:bW s.e s.e=[]:=hn _;simp only[j,p];exact h _
def Ct{d:Array α}{a b v n:Nat}(c:a<n)(ae:b<n):(Sort.order2 lt d a b v).1<n/\(Sort.order2 lt d a b v).2.1<n/\(Sort.order2 lt d a b v).2.2<=v+1:=by unfold Sort.order2;split<;>simp<;>omega
def wv(H:fH S n g cm lc cc lt){d:Array α}(b:d.size=n){v:Nat}:au (inObs (fK S d v)) (fx g cm lc cc)/\au (inObs (fK S d v)) (.ptr (.obj 901) 0):=by
 refine⟨tF (fun k a=>?_) _ (H.kdata (lk:=d.toList) (by simpa using b)),by simp[au,inObs,fK,Pv.look]⟩;rcases a with a|a
 ·refine .inl ?_;simp only[fK,Pv.look];split
  ·rfl
  ·exact a
 ·exact .inr a
def aaE(H:fH S n g cm lc cc lt){d:Array α}{v v':Nat}{b:List bS}{Q:ah->cS->Prop}{t:List (Nat×ah)}{D:List ah}{o:List aB}(h:cM ⟨t,(.loc 0,D)::(fK S d v').b,(S d.toList).e,1,o⟩ b fun r=>au (inObs (fK S d v')) r/\Q r (fK S d v')):
  cJ b (fK S d v) Q .ret ⟨t,(.loc 0,D)::(fK S d v').b,(S d.toList).e,1,o⟩:=by
 refine cJ.at (fK S d v') (.inl rfl) (oW H d v') (ur _ _ _) (fun k cs a=>?_) (fun _ _ aA=>aA) h;cases k with
 |loc m=>rw[(oW H d v').obj.1 m]at a;cases a
 |obj m=>simpa[Pv.look]using a
def L7(H:fH S n g cm lc cc lt)(l:tM S 901)(d:Array α)(e:d.size=n)(a b c v:Nat)(w:a<n)(ae:b<n)(aA:c<n)(L:v<=900):
  bG ar 253 [fx g cm lc cc,.int .i64 a,.int .i64 b,.int .i64 c,.ptr (.obj 901) 0] (fK S d v) fun r E=>r= .int .i64 (Sort.median lt d a b c v).1/\E=fK S d (Sort.median lt d a b c v).2:=by
 have t:=oW H d v;have q:∀v m,Pv.look (.loc m) (fK S d v).b=none:=fun v=>(oW H d v).obj.1;have y:∀v m cs,cG (.loc m) cs (fK S d v).b=(fK S d v).b++[(.loc m,cs)]:=fun v m cs=>ku (q v m);have z:aB.loc 0∉di (fK S d v):=kq t.obj 0;obtain⟨R,bg⟩:∃R,R=Sort.median lt d a b c v:=⟨_,rfl⟩;rw[<-bg];unfold Sort.median at bg;have f:=Ct (lt:=lt) (d:=d) (v:=v) w ae;have j:=Ma H l d e a b v w ae Ω;generalize Sort.order2 lt d a b v=D at f j bg;obtain⟨p,s,v1⟩:=D;simp only at f j bg;have h:=Ct (lt:=lt) (d:=d) (v:=v1) f.2.1 aA;have k:=Ma H l d e s c v1 f.2.1 aA Ω;generalize Sort.order2 lt d s c v1=B at h k bg;obtain⟨x,G,v2⟩:=B;simp only at h k bg;have u:=Ct (lt:=lt) (d:=d) (v:=v2) f.1 h.1;have i:=Ma H l d e p x v2 f.1 h.1 Ω;generalize Sort.order2 lt d p x v2=A at u i bg;obtain⟨F,M,v3⟩:=A;simp only at u i bg;refine bG.mk mixed a7 Tryz.func253 an5 Ψ t.obj fun K J=>?_;unfold S9;simp[fx,y,z,cT,q];simp only[jj H,H.slc,H.ssc,jc];refine YM j (oW H d v) (ur _ _ _) (by simp[au,ay,(wv H e).1];exact(wv H e).2) fun o=>?_;simp[Pv.look];simp only[jj H,H.slc,H.ssc,jc];refine Fk k (oW H d v1) (ur _ _ _) (by simp[au,ay,(wv H e).1];exact(wv H e).2) fun o=>?_;simp[Pv.look];simp only[jj H,H.slc,H.ssc,jc];refine Fk i (oW H d v2) (ur _ _ _) (by simp[au,ay,(wv H e).1];exact(wv H e).2) fun o=>?_;simp;refine aaE H ?_;simp[cM,aX,aY,aW];rw[bg];exact⟨rfl,rfl⟩
def L8(H:fH S n g cm lc cc lt)(l:tM S 901)(d:Array α)(b:d.size=n)(a v:Nat)(u:a+1<n)(s:1<=a)(p:v<=900):
  bG ar 252 [fx g cm lc cc,.int .i64 a,.ptr (.obj 901) 0] (fK S d v) fun r j=>r= .int .i64 (Sort.medianAdjacent lt d a v).1/\j=fK S d (Sort.medianAdjacent lt d a v).2:=by
 have e:=oW H d v;have c:∀v m,Pv.look (.loc m) (fK S d v).b=none:=fun v=>(oW H d v).obj.1;have f:∀v m cs,cG (.loc m) cs (fK S d v).b=(fK S d v).b++[(.loc m,cs)]:=fun v m cs=>ku (c v m);have h:aB.loc 0∉di (fK S d v):=kq e.obj 0;have hle:=H.le;have i:=L7 H l d b (a-1) a (a+1) v Ω Ω Ω p;unfold Sort.medianAdjacent;refine bG.mk mixed a7 Tryz.func252 an4 Ψ e.obj fun w t=>?_;unfold S8;have k:((a:Int)-1)=(a-1:Nat):=Ω
 have q:((a:Int)+1)=(a+1:Nat):=Ω
 simp[fx,f,h,cT,c];(with_reducible repeat' first|refine ak ?_|simp);simp only[jj H,H.slc,H.ssc,jc,k,q];refine YM i (oW H d v) (ur _ _ _) (by simp[au,ay,(wv H b).1];exact(wv H b).2) fun o=>?_;simp;refine aaE H ?_;simp[cM,aX,aY,aW]
def YN{m:Nat}(h:tM S m)(l:List α):aB.obj m∉di (S l):=fun hm=>by
 rcases W6 hm with J|J
 ·rw[(h l).1]at J;cases J
 ·rw[(h l).2]at J;cases J
def E9{d:Array α}{a b c v n:Nat}(g:a<n)(ae:b<n)(aA:c<n):(Sort.median lt d a b c v).1<n/\(Sort.median lt d a b c v).2<=v+3:=by have e:=Ct (lt:=lt) (d:=d) (v:=v) g ae;have h:=Ct (lt:=lt) (d:=d) (v:=(Sort.order2 lt d a b v).2.2) e.2.1 aA;have f:=Ct (lt:=lt) (d:=d) (v:=(Sort.order2 lt d (Sort.order2 lt d a b v).2.1 c (Sort.order2 lt d a b v).2.2).2.2) e.1 h.1;refine⟨f.2.1,j1 f.2.2 ?_⟩;omega
def BE:Sort.Hint->Int
 | .unknown=>0
 | .increasing=>1
 | .decreasing=>2
def aiu(H:fH S n g cm lc cc lt)(s:tM S 901)(d:Array α)(B:d.size=n)(a b:Nat)(ot:a<b)(ae:b<=n):
  bG ar 236 [fx g cm lc cc,.int .i64 a,.int .i64 b] (S d.toList) fun r U=>r= .tuple [.int .i64 (Sort.choosePivot lt d a b).1,.int .i64 (BE (Sort.choosePivot lt d a b).2)]/\U=S d.toList:=by
 have ag:=H.ok d.toList;have ao:d.toList.length=n:=by simpa using B
 have A:∀l m,Pv.look (.loc m) (S l).b=none:=fun l=>(H.ok l).obj.1;have hu:∀l m cs,cG (.loc m) cs (S l).b=(S l).b++[(.loc m,cs)]:=fun l m cs=>ku (A l m);have al:∀m,aB.loc m∉di (S d.toList):=kq ag.obj;have y:∀l,Pv.look (.obj 901) (S l).b=none:=fun l=>(s l).1;have Q:∀l,Pv.look (.obj 901) (S l).e=none:=fun l=>(s l).2;have hle:=H.le;have P:=YN s d.toList;obtain⟨R,bg⟩:∃R,R=Sort.choosePivot lt d a b:=⟨_,rfl⟩;rw[<-bg];unfold Sort.choosePivot at bg;refine bG.mk mixed a7 Tryz.func236 an2 Ψ ag.obj fun aN cP=>?_;unfold S6;have O:∀l D cs,cG (.obj 901) cs ((S l).b++[(.loc 0,D)])=(S l).b++[(.loc 0,D),(.obj 901,cs)]:=fun l D cs=>by rw[CV (y l)];rfl
 obtain⟨q,bA⟩:∃q,q=(b-a)/4:=⟨_,rfl⟩;have Z:oQ.wrap (((b:Int)-a).tdiv 4)=(q:Nat):=by rw[show((b:Int)-a)=((b-a:Nat):Int) by omega,Int.tdiv_eq_ediv_of_nonneg Ω,lY _ Ω];omega
 simp[fx,hu,O,al,P,cT,A,y,Q,Pv.look,cG];have z:∀(t:List (Nat×ah)) (o:List aB) (cf:List (aB×List ah)) (x:Nat) (h:Sort.Hint),Pv.get 6 t= .int .i64 x->Pv.get 7 t= .int .i64 (BE h)->R=(x,h)->(∀k cs,Pv.look k (S d.toList).b=some cs->Pv.look k cf=some cs)->
   cJ [.tmp 6,.tmp 7] (S d.toList) (fun r U=>r= .tuple [.int .i64 R.1,.int .i64 (BE R.2)]/\U=S d.toList) .ret ⟨t,cf,(S d.toList).e,1,o⟩:=by
  rintro t o cf x h j aO rfl ek;refine cJ.at (S d.toList) (.inl rfl) ag (Same.refl _) ek (fun _ _ aA=>aA) ?_;simp[cM,aX,aY,aW,j,aO]
 have F:∀(D:List ah) (v:Nat) k cs,Pv.look k (S d.toList).b=some cs->Pv.look k ((.loc 0,D)::(fK S d v).b)=some cs:=fun D v k cs h=>by
  simp only[fK,Pv.look];split
  ·rename_i e;subst e;rw[A]at h;cases h
  ·split
   ·rename_i e;subst e;rw[y]at h;cases h
   ·exact h
 have VX:∀{f:Nat} {args:List ah} {r:ah} {v:Nat},(bG ar f args (fK S d 0) fun eT dP=>eT=r/\dP=fK S d v)->ay (inObs (fK S d 0)) args->∀{t:List (Nat×ah)} {D:List ah} {o:List aB} {Y:aZ Nat} {K:bn->Prop},(∀o,K ⟨eY Y r t,(.loc 0,D)::(fK S d v).b,(S d.toList).e,1,o⟩)->
   cx ar f args ⟨t,(S d.toList).b++[(.loc 0,D),(.obj 901,[.int .i64 0])],(S d.toList).e,1,o⟩ Y K:=by
  intro f args r v aH p t D o Y K h;refine cx.ob aH (oW H d 0) (fun k cs j=>?_) (fun _ _ j=>j) p ?_
  ·simp only[fK,Pv.look]at j;rw[cT];split at j
   ·rename_i e;subst e;rw[y];simp[Pv.look];simpa using j
   ·rw[j]
  rintro r U ⟨rfl,rfl⟩;refine⟨ur _ _ _,?_⟩;have ai:bW (fK S d 0).b ((S d.toList).b++[(.loc 0,D),(.obj 901,[.int .i64 0])])=[(.loc 0,D)]:=by
   rw[iM];have:bW (fK S d 0).b (S d.toList).b=[]:=QN _ _ fun k x hm=>by
    have:=wA hm;simp only[fK,Pv.look];split
    ·rfl
    ·exact this
   rw[this];simp[bW,fK,Pv.look,A]
  have aC:bW (fK S d 0).e (S d.toList).e=[]:=hn _;simp only[ai,aC];exact h _
 have p:=fun(v:Nat)=>(wv H B (v:=v));have f1:((a:Int)+q)=(a+q:Nat):=Ω
 have f2:((a:Int)+q*2)=(a+q*2:Nat):=Ω
 have f3:((a:Int)+q*3)=(a+q*3:Nat):=Ω
 dsimp only at bg;rw[<-bA,Nat.mul_one]at bg;by_cases mD:b-a<8
 ·have V:¬(8:Int)<=(b:Int)-a:=Ω
  (with_reducible repeat' first|refine ak ?_|simp[V,Z,hu,O,al,P,cT,A,y,Q,Pv.look,cG]);rw[f2];refine z _ _ _ (a+q*2) .increasing rfl rfl (by rw[bg,if_neg Ω];simp) (fun k cs h=>by rw[cT,h])
 ·have V:(8:Int)<=(b:Int)-a:=Ω
  by_cases au2:b-a<50
  ·have Me:¬(50:Int)<=(b:Int)-a:=Ω
   (with_reducible repeat' first|refine ak ?_|simp[V,Me,Z,hu,O,al,P,cT,A,y,Q,Pv.look,cG]);simp only[jj H,H.slc,H.ssc,jc,f1,f2,f3];have E:=L7 H s d B (a+q) (a+q*2) (a+q*3) 0 Ω Ω Ω Ω;have G:=E9 (lt:=lt) (d:=d) (a:=a+q) (b:=a+q*2) (c:=a+q*3) (v:=0) (n:=n) Ω Ω Ω;rw[if_pos Ω,if_neg Ω]at bg;generalize Sort.median lt d (a+q) (a+q*2) (a+q*3) 0=m at E G bg;obtain⟨x,v⟩:=m;refine VX E (by simp[au,ay,(p 0).1];exact(p 0).2) fun o=>?_;have u:((v:Int)==0)=decide (v=0):=by rw[rO];simp
   have N:((v:Int)==12)=decide (v=12):=by rw[rO];simp;omega
   simp[Pv.look,fK];rcases(by omega:v=0\/v=12\/(v≠0/\v≠12))with i|i|i
   ·have j:((v:Int)==0)=true:=by rw[u];simp[i]
    (with_reducible repeat' first|refine ak ?_|simp[j]);all_goals exact z _ _ _ x .increasing rfl rfl (by rw[bg];simp[i]) (F _ v)
   ·have j:((v:Int)==0)=false:=by rw[u];simp[i]
    have w:((v:Int)==12)=true:=by rw[N];simp[i]
    (with_reducible repeat' first|refine ak ?_|simp[j,w]);all_goals exact z _ _ _ x .decreasing rfl rfl (by rw[bg];simp[i]) (F _ v)
   ·have j:((v:Int)==0)=false:=by rw[u];simp[i.1]
    have w:((v:Int)==12)=false:=by rw[N];simp[i.2]
    (with_reducible repeat' first|refine ak ?_|simp[j,w]);all_goals exact z _ _ _ x .unknown rfl rfl (by rw[bg];simp[i]) (F _ v)
  ·have Me:(50:Int)<=(b:Int)-a:=Ω
   (with_reducible repeat' first|refine ak ?_|simp[V,Me,Z,hu,O,al,P,cT,A,y,Q,Pv.look,cG]);simp only[jj H,H.slc,H.ssc,jc,f1,f2,f3];rw[if_pos Ω,if_pos Ω]at bg;have E:=L8 H s d B (a+q) 0 Ω Ω Ω;have M:=E9 (lt:=lt) (d:=d) (a:=a+q-1) (b:=a+q) (c:=a+q+1) (v:=0) (n:=n) Ω Ω Ω;change (Sort.medianAdjacent lt d (a+q) 0).1<n/\(Sort.medianAdjacent lt d (a+q) 0).2<=0+3 at M;generalize Sort.medianAdjacent lt d (a+q) 0=m1 at E M bg;obtain⟨ue,v1⟩:=m1;simp only at E M bg;have G:=L8 H s d B (a+q*2) v1 Ω Ω Ω;have L:=E9 (lt:=lt) (d:=d) (a:=a+q*2-1) (b:=a+q*2) (c:=a+q*2+1) (v:=v1) (n:=n) Ω Ω Ω;change (Sort.medianAdjacent lt d (a+q*2) v1).1<n/\(Sort.medianAdjacent lt d (a+q*2) v1).2<=v1+3 at L;generalize Sort.medianAdjacent lt d (a+q*2) v1=m2 at G L bg;obtain⟨AG,v2⟩:=m2;simp only at G L bg;have X:=L8 H s d B (a+q*3) v2 Ω Ω Ω;have J:=E9 (lt:=lt) (d:=d) (a:=a+q*3-1) (b:=a+q*3) (c:=a+q*3+1) (v:=v2) (n:=n) Ω Ω Ω;change (Sort.medianAdjacent lt d (a+q*3) v2).1<n/\(Sort.medianAdjacent lt d (a+q*3) v2).2<=v2+3 at J;generalize Sort.medianAdjacent lt d (a+q*3) v2=m3 at X J bg;obtain⟨ug,v3⟩:=m3;simp only at X J bg;have W:=L7 H s d B ue AG ug v3 M.1 L.1 J.1 Ω;have Xw:=E9 (lt:=lt) (d:=d) (v:=v3) M.1 L.1 J.1;generalize Sort.median lt d ue AG ug v3=m4 at W Xw bg;obtain⟨x,v⟩:=m4;simp only at W Xw bg;refine VX E (by simp[au,ay,(p 0).1];exact(p 0).2) fun o=>?_;simp[Pv.look];simp only[jj H,H.slc,H.ssc,jc,f1,f2,f3];refine Fk G (oW H d v1) (ur _ _ _) (by simp[au,ay,(p v1).1];exact(p v1).2) fun o=>?_;simp[Pv.look];simp only[jj H,H.slc,H.ssc,jc,f1,f2,f3];refine Fk X (oW H d v2) (ur _ _ _) (by simp[au,ay,(p v2).1];exact(p v2).2) fun o=>?_;simp[Pv.look];simp only[jj H,H.slc,H.ssc,jc,f1,f2,f3];refine Fk W (oW H d v3) (ur _ _ _) (by simp[au,ay,(p v3).1];exact(p v3).2) fun o=>?_;have u:((v:Int)==0)=decide (v=0):=by rw[rO];simp
   have N:((v:Int)==12)=decide (v=12):=by rw[rO];simp;omega
   simp[Pv.look,fK];rcases(by omega:v=0\/v=12\/(v≠0/\v≠12))with i|i|i
   ·have j:((v:Int)==0)=true:=by rw[u];simp[i]
    (with_reducible repeat' first|refine ak ?_|simp[j]);all_goals exact z _ _ _ x .increasing rfl rfl (by rw[bg];simp[i]) (F _ v)
   ·have j:((v:Int)==0)=false:=by rw[u];simp[i]
    have w:((v:Int)==12)=true:=by rw[N];simp[i]
    (with_reducible repeat' first|refine ak ?_|simp[j,w]);all_goals exact z _ _ _ x .decreasing rfl rfl (by rw[bg];simp[i]) (F _ v)
   ·have j:((v:Int)==0)=false:=by rw[u];simp[i.1]
    have w:((v:Int)==12)=false:=by rw[N];simp[i.2]
    (with_reducible repeat' first|refine ak ?_|simp[j,w]);all_goals exact z _ _ _ x .unknown rfl rfl (by rw[bg];simp[i]) (F _ v)
end
section
open Go Go.Pv
variable {α:Type} [Inhabited α] {S:List α->cS} {n g cm:Nat} {lc cc:List ah} {lt:α->α->Bool}
def arD:∀x:Nat,x<256->(((Qe:List b7)[x]?).getD 0).toNat=Sort.bitsLen x:=by decide+kernel
def DN(x:Int):x.fdiv (2 ^ (min 32 hV.bits))=x/4294967296:=by rw[show(2:Int) ^ (min 32 hV.bits)=4294967296 from by decide,Int.fdiv_eq_ediv_of_nonneg _ Ω]
def DM(x:Int):x.fdiv (2 ^ (min 16 hV.bits))=x/65536:=by rw[show(2:Int) ^ (min 16 hV.bits)=65536 from by decide,Int.fdiv_eq_ediv_of_nonneg _ Ω]
def DO(x:Int):x.fdiv (2 ^ (min 8 hV.bits))=x/256:=by rw[show(2:Int) ^ (min 8 hV.bits)=256 from by decide,Int.fdiv_eq_ediv_of_nonneg _ Ω]
def F6(x:Nat)(h:x<256):IntKind.u8.wrap (x:Int)=x:=by simp[uk,pw,uj];omega
def KN(x k:Nat)(h:2 ^ k<=x):Sort.bitsLen x=Sort.bitsLen (x/2 ^ k)+k:=by
 have a:x≠0:=by have:=Nat.two_pow_pos k;omega
 have b:x/2 ^ k≠0:=by have:=Nat.div_pos h (Nat.two_pow_pos k);omega
 unfold Sort.bitsLen;rw[if_neg a,if_neg b];have c:=Nat.log2_lt a (k:=Nat.log2 (x/2 ^ k)+k+1);have J:Nat.log2 (x/2 ^ k)+k<=Nat.log2 x:=by
  rw[Nat.le_log2 a,Nat.pow_add];have:=Nat.log2_self_le b;calc 2 ^ (x/2 ^ k).log2*2 ^ k<=(x/2 ^ k)*2 ^ k:=Nat.mul_le_mul_right _ this
   _<=x:=Nat.div_mul_le_self x _
 have U:Nat.log2 x<Nat.log2 (x/2 ^ k)+k+1:=by rw[c,show Nat.log2 (x/2 ^ k)+k+1=(Nat.log2 (x/2 ^ k)+1)+k by omega,Nat.pow_add];have:=Nat.lt_log2_self (n:=x/2 ^ k);exact(Nat.div_lt_iff_lt_mul (Nat.two_pow_pos k)).1 this
 omega
set_option maxRecDepth 20000 in
def ar8(x:Nat)(m:x<1099511627776):bK ar 227 [.int .u64 x] (.int .i64 (Sort.bitsLen x)):=by
 refine bK.mk mixed a7 Tryz.func227 anZ Ψ go fun n=>?_;unfold S3;have aM:=arD;generalize j:(Qe:List b7)=tab at aM⊢;have d:tab.length=256:=by rw[<-j];rfl
 clear j;simp[d];have ae:∀y:Nat,y<256->Sort.bitsLen y<=8:=by decide+kernel
 have i:4294967296<=x->Sort.bitsLen x=Sort.bitsLen (x/4294967296)+32:=fun h=>KN x 32 h;have l:∀y,65536<=y->Sort.bitsLen y=Sort.bitsLen (y/65536)+16:=fun y h=>KN y 16 h;have k:∀y,256<=y->Sort.bitsLen y=Sort.bitsLen (y/256)+8:=fun y h=>KN y 8 h;by_cases J:4294967296<=x
 ·have c:(4294967296:Int)<=x:=Ω
  have g1:¬(65536:Int)<=(x:Int)/4294967296:=Ω
  have g3:¬(256:Int)<=(x:Int)/4294967296:=Ω
  (repeat' first|refine ak ?_|simp[c,g1,g3,DN,DM,DO,d]);have a:x/4294967296<256:=Ω
  have f:=ae _ a;have b:(x:Int)/4294967296=((x/4294967296:Nat):Int):=Ω
  rw[b,F6 _ a,Int.toNat_natCast];refine⟨Ω,?_⟩;have e:=aM _ a;rw[e,lY _ Ω];refine⟨by unfold eR;omega,?_⟩;simp[bF,aX,aY,aW];try((rw[i J])<;>omega)
 ·have c:¬(4294967296:Int)<=x:=Ω
  by_cases U:65536<=x
  ·have g2:(65536:Int)<=x:=Ω
   by_cases g:256<=x/65536
   ·have g3:(256:Int)<=(x:Int)/65536:=Ω
    (repeat' first|refine ak ?_|simp[c,g2,g3,DN,DM,DO,d]);have a:x/65536/256<256:=Ω
    have f:=ae _ a;have b:(x:Int)/65536/256=((x/65536/256:Nat):Int):=Ω
    rw[b,F6 _ a,Int.toNat_natCast];refine⟨Ω,?_⟩;have e:=aM _ a;rw[e,lY _ Ω];refine⟨by unfold eR;omega,?_⟩;simp[bF,aX,aY,aW];try((rw[l x U,k _ g])<;>omega)
   ·have g3:¬(256:Int)<=(x:Int)/65536:=Ω
    (repeat' first|refine ak ?_|simp[c,g2,g3,DN,DM,DO,d]);have a:x/65536<256:=Ω
    have f:=ae _ a;have b:(x:Int)/65536=((x/65536:Nat):Int):=Ω
    rw[b,F6 _ a,Int.toNat_natCast];refine⟨Ω,?_⟩;have e:=aM _ a;rw[e,lY _ Ω];refine⟨by unfold eR;omega,?_⟩;simp[bF,aX,aY,aW];try((rw[l x U])<;>omega)
  ·have g2:¬(65536:Int)<=x:=Ω
   by_cases g:256<=x
   ·have g3:(256:Int)<=x:=Ω
    (repeat' first|refine ak ?_|simp[c,g2,g3,DN,DM,DO,d]);have a:x/256<256:=Ω
    have f:=ae _ a;have b:(x:Int)/256=((x/256:Nat):Int):=Ω
    rw[b,F6 _ a,Int.toNat_natCast];refine⟨Ω,?_⟩;have e:=aM _ a;rw[e,lY _ Ω];refine⟨by unfold eR;omega,?_⟩;simp[bF,aX,aY,aW];try((rw[k x g])<;>omega)
   ·have g3:¬(256:Int)<=x:=Ω
    (repeat' first|refine ak ?_|simp[c,g2,g3,DN,DM,DO,d]);have a:x<256:=Ω
    have f:=ae _ a;have b:(x:Int)=((x:Nat):Int):=Ω
    rw[b,F6 _ a,Int.toNat_natCast];refine⟨Ω,?_⟩;have e:=aM _ a;rw[e,lY _ Ω];refine⟨by unfold eR;omega,?_⟩;simp[bF,aX,aY,aW];try((rw[show Sort.bitsLen x=Sort.bitsLen x from rfl])<;>omega)
def ar7(x:Nat)(a:x<1099511627776):bK ar 207 [.int .u64 x] (.int .i64 (Sort.bitsLen x)):=by refine bK.mk mixed a7 Tryz.func207 anY Ψ go fun c=>?_;unfold S2;have b:=ar8 x a;exact ca
def adt(x:Nat)(a:x<1099511627776):Sort.bitsLen x<=40:=by
 unfold Sort.bitsLen;split
 ·omega
 ·rename_i h;have:=(Nat.log2_lt h (k:=40)).2 Ω;omega
def arO{x:Nat}(h:x≠0):2 ^ Sort.bitsLen x<=2*x/\x<2 ^ Sort.bitsLen x:=by unfold Sort.bitsLen;rw[if_neg h];have J:=Nat.log2_self_le h;have U:=Nat.lt_log2_self (n:=x);rw[Nat.pow_succ];rw[Nat.pow_succ]at U;omega
def asQ(x:Nat)(b:x<1099511627776):bK ar 250 [.int .i64 x] (.int .u64 (1<<<Sort.bitsLen x:Nat)):=by
 have ae:=adt x b;have a:hV.wrap ((x:Nat):Int)=x:=by simp[uk,pw,uj];omega
 have f:hV.wrap ((Sort.bitsLen x:Nat):Int)=Sort.bitsLen x:=by simp[uk,pw,uj];omega
 refine bK.mk mixed a7 Tryz.func250 an6 Ψ go fun g=>?_;unfold Ta;simp[a];refine cx.val Ψ (ar7 x b) ?_;simp[a,f];simp[bF,aX,aY,aW];have hm:min (Sort.bitsLen x) hV.bits=Sort.bitsLen x:=by simp[pw];omega
 have e:2 ^ Sort.bitsLen x<=2 ^ 40:=Nat.pow_le_pow_right Ω ae;rw[hm];have aA:((2:Int) ^ Sort.bitsLen x)=((2 ^ Sort.bitsLen x:Nat):Int):=Ψ
 have c:((1<<<Sort.bitsLen x:Nat):Int)=((2 ^ Sort.bitsLen x:Nat):Int):=by rw[Nat.one_shiftLeft]
 have d:hV.wrap ((2:Int) ^ Sort.bitsLen x)=((1<<<Sort.bitsLen x:Nat):Int):=by rw[aA,c];generalize 2 ^ Sort.bitsLen x=y at e;simp[uk,pw,uj];omega
 simpa using d
def od(r:Nat):cS:=⟨[(.obj 902,[.int .u64 r])],[]⟩
def Kw(r:Nat):ea (od r):=by unfold od;exact(ea.of ⟨by intro m;simp[Pv.look],by intro m;simp[Pv.look]⟩ g8 g8)
def Q6(a b:Nat):Same (od a) (od b):=⟨fun k=>by simp only[od,Pv.look];split<;>rfl,fun _=>rfl⟩
def KQ(a b:Nat)(d:a<18446744073709551616)(ae:b<18446744073709551616):hV.wrap ((rN hV.bits (a:Int) ^^^ rN hV.bits (b:Int)).toNat:Int)=(a ^^^ b:Nat):=by
 have f:a ^^^ b<18446744073709551616:=Nat.xor_lt_two_pow (n:=64) d ae;have e:(rN hV.bits (a:Int) ^^^ rN hV.bits (b:Int)).toNat=a ^^^ b:=by
  rw[BitVec.toNat_xor,BitVec.toNat_ofInt,BitVec.toNat_ofInt];have g:((a:Int)%(2 ^ hV.bits:Nat)).toNat=a:=by simp[pw];omega
  have h:((b:Int)%(2 ^ hV.bits:Nat)).toNat=b:=by simp[pw];omega
  rw[g,h]
 rw[e];generalize a ^^^ b=c at f;simp[uk,pw,uj];omega
def aqO(r:Nat):hV.wrap ((r:Int)*2 ^ (min 13 hV.bits))=(r*8192%18446744073709551616:Nat):=by simp[uk,pw,uj]
def aqP(r:Nat):hV.wrap ((r:Int)*2 ^ (min 17 hV.bits))=(r*131072%18446744073709551616:Nat):=by simp[uk,pw,uj]
def aqQ(r:Nat):((r:Int)).fdiv (2 ^ (min 7 hV.bits))=(r/128:Nat):=by rw[show(2:Int) ^ (min 7 hV.bits)=128 from by decide,Int.fdiv_eq_ediv_of_nonneg _ Ω];omega
def aim(r:Nat)(i:r<18446744073709551616):bG ar 251 [.ptr (.obj 902) 0] (od r) fun s t=>s= .int .u64 (Sort.xorNextN r)/\t=od (Sort.xorNextN r):=by
 have h:=Kw r;unfold od at h⊢;refine bG.mk mixed a7 Tryz.func251 aoi Ψ h.obj fun w v=>?_;unfold Tm;obtain⟨m1,p⟩:∃m,m=r*8192%18446744073709551616:=⟨_,rfl⟩;have s1:=aqO r;rw[<-p]at s1;have e:m1<18446744073709551616:=Ω
 obtain⟨a,c⟩:∃m,m=r ^^^ m1:=⟨_,rfl⟩;have t1:=KQ r m1 i e;rw[<-c]at t1;have k:a<18446744073709551616:=by rw[c];exact Nat.xor_lt_two_pow (n:=64) i e
 obtain⟨m2,o⟩:∃m,m=a/128:=⟨_,rfl⟩;have s2:=aqQ a;rw[<-o]at s2;have f:m2<18446744073709551616:=Ω
 obtain⟨a2,b⟩:∃m,m=a ^^^ m2:=⟨_,rfl⟩;have t2:=KQ a m2 k f;rw[<-b]at t2;have d:a2<18446744073709551616:=by rw[b];exact Nat.xor_lt_two_pow (n:=64) k f
 obtain⟨m3,l⟩:∃m,m=a2*131072%18446744073709551616:=⟨_,rfl⟩;have s3:=aqP a2;rw[<-l]at s3;have u:m3<18446744073709551616:=Ω
 obtain⟨a3,q⟩:∃m,m=a2 ^^^ m3:=⟨_,rfl⟩;have t3:=KQ a2 m3 d u;rw[<-q]at t3;have bg:Sort.xorNextN r=a3:=by unfold Sort.xorNextN;simp only[<-p,<-c,<-o,<-b,<-l,<-q]
 rw[bg];simp[-BitVec.toNat_xor,-BitVec.ofInt_natCast,s1,t1,s2,t2,s3,t3];have j:=Kw a3;have g:=Q6 r a3;unfold od at j g;refine cJ.at _ (.inl rfl) j g aG aG ?_;simp[cM,aX,aY,aW]
end
section
open Go Go.Pv
variable {α:Type} [Inhabited α] {S:List α->cS} {n g cm:Nat} {lc cc:List ah} {lt:α->α->Bool}
def adm(a b:Nat)(d:a<18446744073709551616)(ae:b<18446744073709551616):hV.wrap ((rN hV.bits (a:Int)&&& rN hV.bits (b:Int)).toNat:Int)=(a&&& b:Nat):=by
 have f:a&&& b<18446744073709551616:=Nat.lt_of_le_of_lt Nat.and_le_left d;have e:(rN hV.bits (a:Int)&&& rN hV.bits (b:Int)).toNat=a&&& b:=by
  rw[BitVec.toNat_and,BitVec.toNat_ofInt,BitVec.toNat_ofInt];have g:((a:Int)%(2 ^ hV.bits:Nat)).toNat=a:=by simp[pw];omega
  have h:((b:Int)%(2 ^ hV.bits:Nat)).toNat=b:=by simp[pw];omega
  rw[g,h]
 rw[e];generalize a&&& b=c at f;simp[uk,pw,uj];omega
def AW(a len M i0:Nat)(d:Array α):Nat->UInt64×Array α
 |0=>(UInt64.ofNat len,d)
 |k+1=>Sort.breakStep a len M (AW a len M i0 d k) (i0+k)
def ady(d:Array α)(a b:Nat)(h:8<=b-a):Sort.breakPatterns d a b=(AW a (b-a) (1<<<Sort.bitsLen (b-a)) (a+(b-a)/4*2-1) d 3).2:=by unfold Sort.breakPatterns;simp only[if_pos h,AW];rfl
def ace{ob O:List aB}{b:cS}(g:ea b)(p:∀k,inObs b k->k∈O)(j:∀k∈ob,k∈O){st:bn}{i:List (Nat×ah)}{L:List (aB×List ah)}{n:Nat}(aM:∀x∈i,Pv.get x.1 st.t=x.2/\au (nq b n) x.2)(l:∀x∈L,Pv.look x.1 st.b=some x.2/\nq b n x.1/\ay (nq b n) x.2)
  (ae:∀k cs,Pv.look k b.b=some cs->Pv.look k st.b=some cs) (he:∀k o,Pv.look k b.e=some o->Pv.look k st.e=some o):jE ob st ⟨i,L++b.b,b.e,n,O⟩:=by
 have c:∀{k},nq b n k->¬fresh n O k:=by
  rintro k (h|⟨m,hm,rfl⟩)
  ·exact fun f=>f.2 (p k h)
  ·intro f;have:=f.1;simp at this;omega
 refine⟨fun x d=>⟨(aM x d).1,tF (fun k a=>c a) _ (aM x d).2⟩,fun k cs a=>?_,fun k o al=>?_,j⟩
 ·simp only at a;rw[cT]at a;cases e:Pv.look k L with
  |some x=>rw[e]at a;simp only[dz]at a;subst a;obtain⟨J,U,q⟩:=l _ (u1 e);exact⟨J,c U,kH (fun k a=>c a) _ q⟩
  |none=>rw[e]at a;exact⟨ae k cs a,c (.inl (.inl (by simp[a]))),kH (fun k a=>c (.inl a)) _ (g.kb k cs a)⟩
 ·exact⟨he k o al,c (.inl (.inr (by simp at al;simp[al]))),fun xs d=>kH (fun k a=>c (.inl a)) _ (g.ke k o al xs d)⟩
def QL{a β:Type}(s:List (aB×β)):∀(l:List (aB×a)),(∀k x,(k,x)∈l->Pv.look k s=none)->bW s l=l
 |[],_=>rfl
 |(k,x)::r,h=>by have J:=h k x Ψ;simp only[bW,J];rw[QL s r fun k x b=>h k x (by simp[b])]
def j2(S:List α->cS)(d:Array α)(r:Nat):cS:=⟨(.obj 902,[.int .u64 r])::(S d.toList).b,(S d.toList).e⟩
def Gy(H:fH S n g cm lc cc lt)(d:Array α)(v:Nat):ea (j2 S d v):=by
 have h:=H.ok d.toList;have b:∀k,inObs (S d.toList) k->inObs (j2 S d v) k:=fun k a=>by
  rcases a with a|a
  ·refine .inl ?_;simp only[j2,Pv.look];split
   ·rfl
   ·exact a
  ·exact .inr a
 refine⟨⟨fun m=>?_,h.obj.2⟩,fun k cs a=>?_,fun k o al xs c=>kH b _ (h.ke k o al xs c)⟩
 ·simp[j2,Pv.look,h.obj.1 m]
 ·simp only[j2,Pv.look]at a;split at a
  ·cases a;simp[ay,au]
  ·exact kH b _ (h.kb k cs a)
def acd{ob O:List aB}{d2:Array α}{y:Nat}{D:List ah}(d:ea (j2 S d2 y))(e:∀k,inObs (j2 S d2 y) k->k∈O)(c:∀k∈ob,k∈O){st:bn}{a:List (Nat×ah)}(aM:∀x∈a,Pv.get x.1 st.t=x.2/\au (nq (j2 S d2 y) 1) x.2)(f:Pv.look (.loc 0) st.b=some D)(g:ay (nq (j2 S d2 y) 1) D)
  (ae:∀k cs,Pv.look k (j2 S d2 y).b=some cs->Pv.look k st.b=some cs) (he:∀k o,Pv.look k (j2 S d2 y).e=some o->Pv.look k st.e=some o):jE ob st ⟨a,(.loc 0,D)::(.obj 902,[.int .u64 y])::(S d2.toList).b,(S d2.toList).e,1,O⟩:=
 ace (L:=[(.loc 0,D)]) d e c aM (fun x b=>by simp only[List.mem_singleton]at b;subst b;exact⟨f,YL _ _ _ Ω,g⟩) ae he
def ait(H:fH S n g cm lc cc lt)(p:tM S 902)(d:Array α)(B:d.size=n)(a b:Nat)(ot:a<=b)(ae:b<=n)(mD:8<=b-a):
  bG ar 235 [fx g cm lc cc,.int .i64 a,.int .i64 b] (S d.toList) fun r A=>r= .tuple []/\∃P,A=S P.toList/\P=Sort.breakPatterns d a b/\P.size=n:=by
 have ag:=H.ok d.toList;have R:d.toList.length=n:=by simpa using B
 have i:∀l m,Pv.look (.loc m) (S l).b=none:=fun l=>(H.ok l).obj.1;have hu:∀l m cs,cG (.loc m) cs (S l).b=(S l).b++[(.loc m,cs)]:=fun l m cs=>ku (i l m);have al:∀m,aB.loc m∉di (S d.toList):=kq ag.obj;have j:∀l,Pv.look (.obj 902) (S l).b=none:=fun l=>(p l).1;have l7:∀l,Pv.look (.obj 902) (S l).e=none:=fun l=>(p l).2;have hle:=H.le;have mH:=YN p d.toList;rw[ady d a b mD];obtain⟨len,hlen⟩:∃len,len=b-a:=⟨_,rfl⟩;rw[<-hlen];obtain⟨M,N⟩:∃M,M=1<<<Sort.bitsLen len:=⟨_,rfl⟩;rw[<-N];have au3:len<M/\M<=2*len:=by have:=arO (x:=len) Ω;rw[N,Nat.one_shiftLeft];omega
 obtain⟨q,bA⟩:∃q,q=len/4:=⟨_,rfl⟩;rw[<-bA];have zE:∀l D cs,cG (.obj 902) cs ((S l).b++[(.loc 0,D)])=(S l).b++[(.loc 0,D),(.obj 902,cs)]:=fun l D cs=>by rw[CV (j l)];rfl
 have WX:∀l D x y,cG (.obj 902) y ((S l).b++[(.loc 0,D),(.obj 902,x)])=(S l).b++[(.loc 0,D),(.obj 902,y)]:=fun l D x y=>by rw[CV (j l)];simp[cG]
 have el:((b:Int)-a)=(len:Nat):=Ω
 have cY:oQ.wrap ((len:Int).tdiv 4)=(q:Nat):=by rw[Int.tdiv_eq_ediv_of_nonneg Ω,lY _ Ω];omega
 have ew:hV.wrap (len:Int)=len:=by simp[uk,pw,uj];omega
 refine bG.mk mixed a7 Tryz.func235 an1 Ψ ag.obj fun aN cP=>?_;unfold S5;have G:=asQ len Ω;rw[<-N]at G;simp[fx,hu,zE,WX,al,mH,cT,i,j,l7,Pv.look,cG,el,ew];have t:oQ.wrap ((len:Int)/4)=(q:Nat):=by rw[lY _ Ω];omega
 ((repeat' first|refine ak ?_|refine aI G ?_|refine aJ G ?_|simp[el,ew,cY,t,hu,zE,WX,al,mH,cT,i,j,l7,Pv.look,cG]|((first|apply bV|apply b0|apply bZ)<;>intro h<;>try simp at h))<;>(try exact cA));obtain⟨i0,Eg⟩:∃i0,i0=a+q*2-1:=⟨_,rfl⟩;rw[<-Eg];have Z:((a:Int)+q*2-1)=(i0:Nat):=Ω
 rw[Z];have O:∀(c:Array α) r k,inObs (j2 S c r) k->c.size=n->k∈aB.obj 902::di (S d.toList):=fun c r k h L=>by
  have eI:=H.same d.toList c.toList R (by simpa using L);rcases h with h|h
  ·simp only[j2,Pv.look]at h;split at h
   ·rename_i e;subst e;simp
   ·exact pB _ (u7 (.inl (by rw[eI.b];exact h)))
  ·exact pB _ (u7 (.inr (by rw[eI.e];exact h)))
 have F:∀(c:Array α) r,c.size=n->ay (nq (j2 S c r) 1) [.func g lc,.func cm cc]:=fun c r L=>by
  have J:=H.kdata (lk:=c.toList) (by simpa using L);have U:ay (inObs (S c.toList)) [.func g lc,.func cm cc]:=by simpa[fx,au,ay]using J
  refine kH (fun k p=>.inl ?_) _ U;rcases p with p|p
  ·refine .inl ?_;simp only[j2,Pv.look];split
   ·rfl
   ·exact p
  ·exact .inr p
 have avh:∀(c:Array α) r D k cs,Pv.look k (j2 S c r).b=some cs->Pv.look k ((.loc 0,D)::(j2 S c r).b)=some cs:=fun c r D k cs h=>by
  cases k with
  |loc m=>rw[(Gy H c r).obj.1 m]at h;cases h
  |obj m=>simpa[Pv.look]using h
 refine mB (fun(x:Nat×UInt64×Array α)=>⟨[(1,.int .i64 a),(3,.ptr (.loc 0) 0),(6,.int .i64 len),(7,.ptr (.obj 902) 0),(8,.int .u64 M),(9,.int .i64 ((i0+x.1:Nat):Int))],[(.loc 0,[.func g lc,.func cm cc])]++(j2 S x.2.2 x.2.1.toNat).b,(j2 S x.2.2 x.2.1.toNat).e,1,aB.obj 902::di (S d.toList)⟩) (fun x=>3-x.1)
  (fun x=>x.1<=3/\x.2.2.size=n/\AW a len M i0 d x.1=x.2) (0,UInt64.ofNat len,d) ?_ ⟨Ψ,B,rfl⟩ ?_
 ·refine ace (Gy H d _) (fun k h=>O d _ k h B) (fun k h=>pB _ h) uA ?_ ?_ aG
  ·intro x u;simp only[List.mem_singleton]at u;subst u;exact⟨by simp[cT,i,Pv.look],YL _ _ _ Ω,F d _ B⟩
  ·intro k cs h;simp only[j2,Pv.look]at h;rw[cT];split at h
   ·rename_i e;subst e;rw[j];have:(UInt64.ofNat len).toNat=len:=by simp;omega
    rw[this]at h;simpa[Pv.look]using h
   ·rw[h]
 rintro⟨k,r,c⟩ ⟨ba,f,w⟩ _;simp only at ba f w;have aD:=r.toNat_lt;obtain⟨x,u⟩:∃x,x=r.toNat:=⟨_,rfl⟩;rw[<-u]at aD⊢;have kB:Sort.xorNextN x<18446744073709551616:=Sort.xorNextN_lt x Ω;have MS:(Sort.xorNext r).toNat=Sort.xorNextN x:=by rw[Sort.xorNext_toNat,<-u]
 obtain⟨y,E⟩:∃y,y=Sort.xorNextN x:=⟨_,rfl⟩;have aeA:hV.wrap ((M:Int)-1)=(M-1:Nat):=by simp[uk,pw,uj];omega
 have ze:=adm y (M-1) Ω Ω;obtain⟨z,Q⟩:∃z,z=y&&& (M-1):=⟨_,rfl⟩;rw[<-Q]at ze;have avq:z<=M-1:=by rw[Q];exact Nat.and_le_right
 have o2:oQ.wrap (z:Int)=z:=by rw[lY _ Ω]
 by_cases W:k=3
 ·subst W;simp[j2,Pv.look,t];((repeat' first|refine ak ?_|simp[t]|((first|apply bV|apply b0|apply bZ)<;>intro h<;>try simp at h))<;>(try exact cA));refine cJ.at (S c.toList) (.inr rfl) (H.ok _) (H.same _ _ R (by simpa using f)) (fun k cs h=>?_) (fun _ _ h=>h) ?_
  ·simp only[Pv.look];split
   ·rename_i e;subst e;rw[i]at h;cases h
   ·split
    ·rename_i e;subst e;rw[j]at h;cases h
    ·exact h
  ·simp[cM,aX,aY,aW];exact⟨c,rfl,by rw[w],f⟩
 ·have HN:((i0+k:Nat):Int)<=(a:Int)+q*2+1:=Ω
  have Wm:((i0:Int)+k)<=(a:Int)+q*2+1:=Ω
  simp[j2,Pv.look,t,Wm,HN];(repeat' first|refine ak ?_|simp[t,Wm,HN,Pv.look]);have avm:=H.same d.toList c.toList R (by simpa using f);have V:∀(K:Array α) (v:List ah),bW [(aB.obj 902,v)] (S K.toList).b=(S K.toList).b:=fun K v=>QL _ _ fun k x hm=>by
   have:=wA hm;simp only[Pv.look];split
   ·rename_i e;subst e;rw[j]at this;cases this
   ·rfl
  refine cx.ob (aim x Ω) (Kw x) (fun k cs h=>?_) (fun k o h=>by simp[od,Pv.look]at h) (by simp[au,ay,inObs,od,Pv.look]) ?_
  ·simp only[od,Pv.look]at h⊢;split at h
   ·rename_i e;subst e;simpa using h
   ·cases h
  rintro eT A ⟨rfl,rfl⟩;refine⟨Q6 _ _,?_⟩;rw[<-E];have Y:bW (od x).b ((aB.loc 0,[ah.func g lc,ah.func cm cc])::(aB.obj 902,[ah.int .u64 x])::(S c.toList).b)=(aB.loc 0,[ah.func g lc,ah.func cm cc])::(S c.toList).b:=by simp[od,bW,Pv.look,V]
  have X:bW (od x).e (S c.toList).e=(S c.toList).e:=QL _ _ fun _ _ _=>rfl;rw[Y,X,show(od y).b=[(aB.obj 902,[ah.int .u64 y])]from rfl,show(od y).e=[]from rfl,List.append_nil];have au1:∀(v:List ah),Pv.look (.obj 902) ((aB.loc 0,[ah.func g lc,ah.func cm cc])::((S c.toList).b++[(aB.obj 902,v)]))=some v:=fun v=>by simp[Pv.look,cT,j]
  have RB:∀o',o'<len->o'=(if z≥len then z-len else z)->Sort.breakStep a len M (r,c) (i0+k)=(Sort.xorNext r,Sort.swp c (i0+k) (a+o')):=fun o' J U=>by unfold Sort.breakStep;simp only[MS,<-E,<-Q,<-U]
  have Ut:((i0:Int)+k)=((i0+k:Nat):Int):=Ω
  simp only[eY,aB.obj.injEq];simp[-BitVec.toNat_and,-BitVec.ofInt_natCast,aeA,ze,o2,Pv.look,H.ssc];by_cases avr:len<=z
  ·have Nh:(len:Int)<=z:=Ω
   have Ly:((a:Int)+(z-len))=((a+(z-len):Nat):Int):=Ω
   ((repeat' first|refine ak ?_|simp[Nh,Pv.look,H.ssc]|((first|apply bV|apply b0|apply bZ)<;>intro h<;>try simp at h))<;>(try exact cA));rw[Ly,Ut];refine cx.ob (H.swap c.toList (by simpa using f) Ω (i0+k) (a+(z-len)) Ω Ω) (H.ok _) (fun bt cs h=>?_) (fun _ _ h=>h) (by simp[au,ay,H.ksc c.toList (by simpa using f)]) ?_
   ·simp only[Pv.look];split
    ·rename_i e;subst e;rw[i]at h;cases h
    ·rw[cT,h]
   rintro eT A ⟨rfl,rfl⟩;refine⟨H.same _ _ (by simpa using f) (by simpa using f),?_⟩;rw[IF c Ω Ω];obtain⟨d2,s⟩:∃d2,d2=Sort.swp c (i0+k) (a+(z-len)):=⟨_,rfl⟩;have s2:d2.size=n:=by rw[s,hC,f]
   rw[<-s];have LF:∀v:List ah,bW (S c.toList).b ((aB.loc 0,[ah.func g lc,ah.func cm cc])::((S c.toList).b++[(aB.obj 902,v)]))=[(aB.loc 0,[ah.func g lc,ah.func cm cc]),(aB.obj 902,v)]:=fun v=>by simp only[bW,i];rw[iM,hn];simp[bW,j]
   dsimp only;rw[LF,hn];simp;(repeat' first|refine ak ?_|simp);have Lu:((i0:Int)+k+1)=((i0+(k+1):Nat):Int):=Ω
   rw[Lu];refine bQ.whl (k+1,Sort.xorNext r,d2) gc ⟨by simp;omega,s2,by simp only[AW,w];rw[RB (z-len) Ω (by rw[if_pos Ω]),s]⟩ ?_;rw[MS,<-E];refine acd (Gy H d2 y) (fun k h=>O d2 _ k h s2) (fun k h=>pB _ h) uA i7 (F d2 _ s2) ?_ (fun _ _ h=>h);intro k cs h;simp only[j2,Pv.look]at h⊢;split at h
   ·rename_i e;subst e;simpa using h
   ·rename_i e;split
    ·rename_i aC;subst aC;rw[i]at h;cases h
    ·exact h
  ·have Nh:¬(len:Int)<=z:=Ω
   have Ly:((a:Int)+z)=((a+z:Nat):Int):=Ω
   ((repeat' first|refine ak ?_|simp[Nh,Pv.look,H.ssc]|((first|apply bV|apply b0|apply bZ)<;>intro h<;>try simp at h))<;>(try exact cA));rw[Ly,Ut];refine cx.ob (H.swap c.toList (by simpa using f) Ω (i0+k) (a+z) Ω Ω) (H.ok _) (fun bt cs h=>?_) (fun _ _ h=>h) (by simp[au,ay,H.ksc c.toList (by simpa using f)]) ?_
   ·simp only[Pv.look];split
    ·rename_i e;subst e;rw[i]at h;cases h
    ·rw[cT,h]
   rintro eT A ⟨rfl,rfl⟩;refine⟨H.same _ _ (by simpa using f) (by simpa using f),?_⟩;rw[IF c Ω Ω];obtain⟨d2,s⟩:∃d2,d2=Sort.swp c (i0+k) (a+z):=⟨_,rfl⟩;have s2:d2.size=n:=by rw[s,hC,f]
   rw[<-s];have LF:∀v:List ah,bW (S c.toList).b ((aB.loc 0,[ah.func g lc,ah.func cm cc])::((S c.toList).b++[(aB.obj 902,v)]))=[(aB.loc 0,[ah.func g lc,ah.func cm cc]),(aB.obj 902,v)]:=fun v=>by simp only[bW,i];rw[iM,hn];simp[bW,j]
   dsimp only;rw[LF,hn];simp;(repeat' first|refine ak ?_|simp);have Lu:((i0:Int)+k+1)=((i0+(k+1):Nat):Int):=Ω
   rw[Lu];refine bQ.whl (k+1,Sort.xorNext r,d2) gc ⟨by simp;omega,s2,by simp only[AW,w];rw[RB z Ω (by rw[if_neg Ω]),s]⟩ ?_;rw[MS,<-E];refine acd (Gy H d2 y) (fun k h=>O d2 _ k h s2) (fun k h=>pB _ h) uA i7 (F d2 _ s2) ?_ (fun _ _ h=>h);intro k cs h;simp only[j2,Pv.look]at h⊢;split at h
   ·rename_i e;subst e;simpa using h
   ·rename_i e;split
    ·rename_i aC;subst aC;rw[i]at h;cases h
    ·exact h
end
section
open Go Go.Pv
variable {α:Type} [Inhabited α] {S:List α->cS} {n g cm:Nat} {lc cc:List ah} {lt:α->α->Bool}
def fH.fnD{d d2:Array α}(H:fH S n g cm lc cc lt)(J:d.size=n){f:Nat}{args:List ah}{r:ah}(p:bG ar f args (S d.toList) fun b j=>b=r/\∃a,j=S a.toList/\a=d2/\a.size=n)(m:ay (inObs (S d.toList)) args){t:List (Nat×ah)}{D:List ah}{o:List aB}{a:aZ Nat}{K:bn->Prop}
  (h:d2.size=n->∀o,K ⟨eY a r t,(.loc 0,D)::(S d2.toList).b,(S d2.toList).e,1,o⟩):cx ar f args ⟨t,(.loc 0,D)::(S d.toList).b,(S d.toList).e,1,o⟩ a K:=
 H.call (by simpa using J) (R:=fun b c=>b=r/\c=d2.toList/\d2.size=n) (p.mono fun r j ⟨l,a,q,i,k⟩=>⟨a.toList,q,l,by rw[i],by rw[<-i];exact k⟩) (fun r c ⟨_,e,h⟩=>by rw[e];simpa using h) m (by rintro b c ⟨rfl,rfl,U⟩;exact h U _)
attribute [local simp] pS
def C9(S:List α->cS)(n g cm:Nat)(lc cc:List ah)(lt:α->α->Bool)(m:Nat):Prop:=
 ∀k,k<m->∀(d:Array α),d.size=n->∀a b e:Nat,b-a<=k->a<=b->b<=n->e<=1000->Sort.Below lt a b d->
  bG ar 208 [fx g cm lc cc,.int .i64 a,.int .i64 b,.int .i64 e] (S d.toList) fun r f=>r= .tuple []/\∃c,f=S c.toList/\Sort.PermIn a b d c/\Sort.SortedIn lt a b c
structure yD (S:List α->cS) (n g cm:Nat) (lc cc:List ah) (lt:α->α->Bool) (bu cf lim:Nat) (d:Array α) (Q:Exit->bn->Prop):Prop where
 k:∀e,e= .normal\/e= .exit 1->∀(a2 b8:Nat) (w v:Bool) (L:Array α) (t:List (Nat×ah)) (o:List aB),L.size=n->a2<=b8->b8<=n->b8-a2<cf-bu->Sort.Below lt a2 b8 L->(∀R,Sort.PermIn a2 b8 L R->Sort.SortedIn lt a2 b8 R->Sort.PermIn bu cf d R/\Sort.SortedIn lt bu cf R)->
  Pv.get 1 t= .int .i64 a2->Pv.get 2 t= .int .i64 b8->Pv.get 3 t= .int .i64 lim->Pv.get 4 t= .ptr (.loc 0) 0->Pv.get 8 t= .bool w->Pv.get 9 t= .bool v->Q e ⟨t,(.loc 0,[.func g lc,.func cm cc])::(S L.toList).b,(S L.toList).e,1,o⟩
 r:∀(R:Array α) t o,Sort.PermIn bu cf d R->Sort.SortedIn lt bu cf R->Q .ret ⟨t,(.loc 0,[.func g lc,.func cm cc])::(S R.toList).b,(S R.toList).e,1,o⟩
def yD.mono{bu cf lim:Nat}{d f:Array α}{Q:Exit->bn->Prop}(h:yD S n g cm lc cc lt bu cf lim d Q)(p:Sort.PermIn bu cf d f):yD S n g cm lc cc lt bu cf lim f Q:=⟨fun e he a2 l w v L t o m q k j i c=>h.k e he a2 l w v L t o m q k j i fun R b a=>⟨Sort.permIn_trans _ _ _ bu cf p (c R b a).1,(c R b a).2⟩,fun R t o b a=>h.r R t o (Sort.permIn_trans _ _ _ bu cf p b) a⟩
structure AN (t:List (Nat×ah)) (bu cf lim:Nat):Prop where
 t1:Pv.get 1 t= .int .i64 bu
 t2:Pv.get 2 t= .int .i64 cf
 t3:Pv.get 3 t= .int .i64 lim
 t4:Pv.get 4 t= .ptr (.loc 0) 0
 t10:Pv.get 10 t= .int .i64 ((cf:Int)-bu)
section
variable {bu cf lim:Nat} {cX:Array α} {t:List (Nat×ah)} {o:List aB} {ob:List aB} {Q:Exit->bn->Prop}
def Zn(H:fH S n g cm lc cc lt)(E:Sort.SWO lt)(B:C9 S n g cm lc cc lt (cf-bu)){pv:Nat}(T:AN t bu cf lim)(t11:Pv.get 11 t= .int .i64 pv)(z:lim<=1000)(l:cX.size=n)(e:bu<=pv/\pv<cf)(s:cf<=n)(J:12<cf-bu)(D:Sort.Below lt bu cf cX)(A:yD S n g cm lc cc lt bu cf lim cX Q):
  dh ar ob K9 Q ⟨t,(.loc 0,[.func g lc,.func cm cc])::(S cX.toList).b,(S cX.toList).e,1,o⟩:=by
 obtain⟨t1,t2,t3,t4,t10⟩:=T;have j:∀f:Array α,f.size=n->au (inObs (S f.toList)) (fx g cm lc cc):=fun f h=>H.kdata (lk:=f.toList) (by simpa using h);have hle:=H.le;unfold K9;simp[t1,t2,t4,t11,Pv.look,H.slc,H.ssc];simp only[jj H,H.slc,H.ssc,jc];have d:=aiI H cX l bu cf pv e.1 e.2 Ω s;have i:Sort.partition lt cX bu cf pv=((Sort.partition lt cX bu cf pv).1,(Sort.partition lt cX bu cf pv).2.1,(Sort.partition lt cX bu cf pv).2.2):=rfl;generalize (Sort.partition lt cX bu cf pv).1=mid at d i;generalize (Sort.partition lt cX bu cf pv).2.1=ap at d i;generalize (Sort.partition lt cX bu cf pv).2.2=d4 at d i;obtain⟨g1,g2,g3,g4,g5,g6,g7⟩:=Sort.round_part E (Sort.partition_holds lt) e.1 e.2 Ω D i;refine H.fnD l d (by simp[au,ay,j cX l]) fun s4 o=>?_;have em:((mid:Int)+1)=(mid+1:Nat):=Ω
 simp[t1,t2,t3,t4,t10];by_cases F:mid-bu<cf-mid
 ·have y:(mid:Int)-bu<cf-mid:=Ω
  (repeat' first|refine ak ?_|simp[y,Pv.look,t1,t2,t3,t4,t10]);simp only[jj H,H.slc,H.ssc,jc];refine H.doFn (lk:=d4.toList) (by simpa using s4) (R:=fun a=> ∃L:Array α,a=L.toList/\Sort.PermIn bu mid d4 L/\Sort.SortedIn lt bu mid L) ((B (mid-bu) Ω d4 s4 bu mid lim (e2 _) g1 Ω z g4).mono fun r G ⟨v,c,x,w,u⟩=>⟨v,c.toList,x,c,rfl,w,u⟩) (by rintro a ⟨L,rfl,q,_⟩;simpa using q.1.trans s4) (by simp[ay,au,j d4 s4]) ?_;rintro a ⟨L,rfl,b,p⟩;obtain⟨m,k⟩:=g6 L b p;simp;(repeat' first|refine ak ?_|simp[t1,t2,t3,t4]);rw[em];exact A.k _ (.inl rfl) (mid+1) cf _ ap L _ _ (b.1.trans s4) Ω s Ω m k Ψ (by simp[t2]) vd vL (by simp;rfl) Ψ
 ·have y:¬(mid:Int)-bu<cf-mid:=Ω
  (repeat' first|refine ak ?_|simp[y,Pv.look,t1,t2,t3,t4,t10]);simp only[jj H,H.slc,H.ssc,jc];rw[em];refine H.doFn (lk:=d4.toList) (by simpa using s4) (R:=fun a=> ∃L:Array α,a=L.toList/\Sort.PermIn (mid+1) cf d4 L/\Sort.SortedIn lt (mid+1) cf L) ((B (cf-(mid+1)) Ω d4 s4 (mid+1) cf lim (e2 _) Ω s z g5).mono fun r G ⟨v,c,x,w,u⟩=>⟨v,c.toList,x,c,rfl,w,u⟩) (by rintro a ⟨L,rfl,q,_⟩;simpa using q.1.trans s4) (by simp[ay,au,j d4 s4]) ?_;rintro a ⟨L,rfl,b,p⟩;obtain⟨m,k⟩:=g7 L b p;simp;(repeat' first|refine ak ?_|simp[t1,t2,t3,t4]);exact A.k _ (.inl rfl) bu mid _ ap L _ _ (b.1.trans s4) g1 Ω Ω m k (by simp[t1]) Ψ vd vL (by simp;rfl) Ψ
def ao0(H:fH S n g cm lc cc lt)(i:Sort.SWO lt)(p:C9 S n g cm lc cc lt (cf-bu)){pv:Nat}(T:AN t bu cf lim)(t11:Pv.get 11 t= .int .i64 pv){w v:Bool}(t8:Pv.get 8 t= .bool w)(t9:Pv.get 9 t= .bool v)(m:lim<=1000)(b:cX.size=n)(a:bu<=pv/\pv<cf)(d:cf<=n)(l:12<cf-bu)(e:Sort.Below lt bu cf cX)(h:yD S n g cm lc cc lt bu cf lim cX Q):
  dh ar ob Dr Q ⟨t,(.loc 0,[.func g lc,.func cm cc])::(S cX.toList).b,(S cX.toList).e,1,o⟩:=by
 obtain⟨t1,t2,t3,t4,t10⟩:=id T;have hle:=H.le;unfold Dr;by_cases c:0<bu
 ·have k:(0:Int)<bu:=Ω
  simp[t1,t2,t4,t11,c,k,Pv.look,H.slc,H.ssc];(repeat' first|refine ak ?_|simp[t1,t2,t4,t11,c,k,Pv.look,H.slc,H.ssc]);rw[show((bu:Int)-1)=((bu-1:Nat):Int) by omega];refine H.lessA b (bu-1) pv Ω Ω fun o=>?_;cases q:lt cX[bu-1]! cX[pv]!
  ·simp;(repeat' first|refine ak ?_|simp[Pv.look,H.slc,H.ssc,t1,t2,t4,t11]);simp only[jj H,H.slc,H.ssc,jc];have f:=aiJ H cX b bu cf pv a.1 a.2 Ω d;have j:Sort.partitionEqual lt cX bu cf pv=((Sort.partitionEqual lt cX bu cf pv).1,(Sort.partitionEqual lt cX bu cf pv).2):=rfl;generalize (Sort.partitionEqual lt cX bu cf pv).1=mid at f j;generalize (Sort.partitionEqual lt cX bu cf pv).2=d4 at f j;obtain⟨g1,g2,g3,g4,g5⟩:=Sort.round_eq i (Sort.partitionEqual_holds lt) c a.1 a.2 Ω e q j;refine H.fnD b f (by simp[au,ay,H.kdata (lk:=cX.toList) (by simpa using b)]) fun s4 o=>?_;simp[t1,t2,t3,t4];exact h.k _ (.inr rfl) mid cf w v d4 _ _ s4 g2 d Ω g4 g5 Ψ (by simp[t2]) vd vL wn wt
  ·simp;exact Zn H i p ⟨by simp[t1],by simp[t2],by simp[t3],by simp[t4],by simp[t10]⟩ wM m b a d l e h
 ·have k:¬(0:Int)<bu:=Ω
  simp[t1,c];exact Zn H i p ⟨by simp[t1],by simp[t2],by simp[t3],by simp[t4],by simp[t10]⟩ wM m b a d l e h
def OP(H:fH S n g cm lc cc lt)(p:Sort.SWO lt)(z:C9 S n g cm lc cc lt (cf-bu)){pv:Nat}(T:AN t bu cf lim)(t11:Pv.get 11 t= .int .i64 pv){h:Nat}(t12:Pv.get 12 t= .int .i64 h){w v:Bool}(t8:Pv.get 8 t= .bool w)(t9:Pv.get 9 t= .bool v)(r:lim<=1000)(b:cX.size=n)(s:bu<=pv/\pv<cf)(m:cf<=n)(q:12<cf-bu)(c:Sort.Below lt bu cf cX)(l:yD S n g cm lc cc lt bu cf lim cX Q):
  dh ar ob La Q ⟨t,(.loc 0,[.func g lc,.func cm cc])::(S cX.toList).b,(S cX.toList).e,1,o⟩:=by
 obtain⟨t1,t2,t3,t4,t10⟩:=id T;have hle:=H.le;unfold La;have next:∀{d5:Array α} {t o},AN t bu cf lim->Pv.get 11 t= .int .i64 pv->Pv.get 8 t= .bool w->Pv.get 9 t= .bool v->d5.size=n->Sort.Below lt bu cf d5->Sort.PermIn bu cf cX d5->dh ar ob Dr Q ⟨t,(.loc 0,[.func g lc,.func cm cc])::(S d5.toList).b,(S d5.toList).e,1,o⟩:=fun j k f e y x u=>ao0 H p z j k f e r y s m q x (l.mono u)
 have skip:∀{t o},AN t bu cf lim->Pv.get 11 t= .int .i64 pv->Pv.get 8 t= .bool w->Pv.get 9 t= .bool v->dh ar ob Dr Q ⟨t,(.loc 0,[.func g lc,.func cm cc])::(S cX.toList).b,(S cX.toList).e,1,o⟩:=fun j k f e=>next j k f e b c (Sort.permIn_refl _ _ _)
 by_cases aA:(w=true/\v=true)/\h=1
 ·obtain⟨⟨rfl,rfl⟩,rfl⟩:=aA;simp[t1,t2,t4,t8,t9,t12,Pv.look,H.slc,H.ssc];simp only[jj H,H.slc,H.ssc,jc];have d:=aiH H cX b bu cf Ω m Ω;have a:=Sort.partialInsertionSort_holds p cX bu cf Ω Ω c;generalize (Sort.partialInsertionSort lt cX bu cf).1=d5 at d a;generalize (Sort.partialInsertionSort lt cX bu cf).2=ok at d a;refine H.fnD b d (by simp[au,ay,H.kdata (lk:=cX.toList) (by simpa using b)]) fun i o=>?_;cases ok
  ·simp;exact next ⟨by simp[t1],by simp[t2],by simp[t3],by simp[t4],by simp[t10]⟩ wM wn wt i (c.perm Ω a.1) a.1
  ·simp;exact l.r _ _ _ a.1 (a.2 rfl)
 ·cases w
  ·simp[t8,t9,t12];exact skip ⟨by simp[t1],by simp[t2],by simp[t3],by simp[t4],by simp[t10]⟩ wM wn wt
  ·cases v
   ·simp[t8,t9,t12];exact skip ⟨by simp[t1],by simp[t2],by simp[t3],by simp[t4],by simp[t10]⟩ wM wn wt
   ·have J:((h:Int)==1)=false:=by simp at aA⊢;omega
    simp[t8,t9,t12,J];exact skip ⟨by simp[t1],by simp[t2],by simp[t3],by simp[t4],by simp[t10]⟩ wM wn wt
def Zo(H:fH S n g cm lc cc lt)(r:tM S 901)(i:Sort.SWO lt)(j:C9 S n g cm lc cc lt (cf-bu))(T:AN t bu cf lim){w v:Bool}(t8:Pv.get 8 t= .bool w)(t9:Pv.get 9 t= .bool v)(e:lim<=1000)(s1:cX.size=n)(a:cf<=n)(d:12<cf-bu)(qi:Sort.Below lt bu cf cX)(f:yD S n g cm lc cc lt bu cf lim cX Q):
  dh ar ob Lb Q ⟨t,(.loc 0,[.func g lc,.func cm cc])::(S cX.toList).b,(S cX.toList).e,1,o⟩:=by
 obtain⟨t1,t2,t3,t4,t10⟩:=id T;have hle:=H.le;have l:∀c:Array α,c.size=n->au (inObs (S c.toList)) (fx g cm lc cc):=fun c h=>H.kdata (lk:=c.toList) (by simpa using h);unfold Lb;simp[t1,t2,t4,Pv.look,H.slc,H.ssc];simp only[jj H,H.slc,H.ssc,jc];have b:=Sort.choosePivot_holds lt cX bu cf Ω;have k:=aiu H r cX s1 bu cf Ω a;generalize Sort.choosePivot lt cX bu cf=s at k b;obtain⟨p,hint⟩:=s;simp only at k b;refine H.fnA s1 s1 k (by simp[au,ay,l cX s1]) fun o=>?_;cases hint
 ·simp[BE];exact OP H i j ⟨by simp[t1],by simp[t2],by simp[t3],by simp[t4],by simp[t10]⟩ (pv:=p) Ψ (h:=0) Ψ (w:=w) (v:=v) wn wt e s1 b a d qi f
 ·simp[BE];exact OP H i j ⟨by simp[t1],by simp[t2],by simp[t3],by simp[t4],by simp[t10]⟩ (pv:=p) Ψ (h:=1) Ψ (w:=w) (v:=v) wn wt e s1 b a d qi f
 ·simp[BE,t1,t2,t4,Pv.look,H.slc,H.ssc];simp only[jj H,H.slc,H.ssc,jc];refine H.fnD s1 (aiO H cX s1 bu cf Ω a Ω) (by simp[au,ay,l cX s1]) fun s2 o=>?_;have m:=Sort.reverseRange_holds cX bu cf Ω Ω;have q:((cf:Int)-1-(p-bu))=((cf-1)-(p-bu):Nat):=Ω
  simp[t1,t2,q];(repeat' first|refine ak ?_|simp[q,t1,t2]);exact OP H i j ⟨by simp[t1],by simp[t2],by simp[t3],by simp[t4],by simp[t10]⟩ (pv:=(cf-1)-(p-bu)) Ψ (h:=1) Ψ (w:=w) (v:=v) wn wt e s2 Ω a d (qi.perm Ω m) (f.mono m)
end
def aiK(H:fH S n g cm lc cc lt)(gW:tM S 901)(l7:tM S 902)(E:Sort.SWO lt)(m:Nat):∀(d:Array α) (G:d.size=n) (a b B:Nat) (hm:b-a<=m) (ot:a<=b) (ae:b<=n) (eK:B<=1000) (D6:Sort.Below lt a b d),
  bG ar 208 [fx g cm lc cc,.int .i64 a,.int .i64 b,.int .i64 B] (S d.toList) fun r aj=>r= .tuple []/\∃q,aj=S q.toList/\Sort.PermIn a b d q/\Sort.SortedIn lt a b q:=by
 induction m using Nat.strongRecOn with
 |ind m bB=>
 intro d G a b B hm ot ae eK D6;have ag:=H.ok d.toList;have F:d.toList.length=n:=by simpa using G
 have av:∀l m,Pv.look (.loc m) (S l).b=none:=fun l=>(H.ok l).obj.1;have hu:∀l m cs,cG (.loc m) cs (S l).b=(S l).b++[(.loc m,cs)]:=fun l m cs=>ku (av l m);have al:∀m,aB.loc m∉di (S d.toList):=kq ag.obj;have hle:=H.le;refine bG.mk mixed a7 Tryz.func208 aob Ψ ag.obj fun aN cP=>?_;unfold Tf;simp[fx,hu,al,cT,av];refine H.loopA F [4] (fun(x:((Nat×Nat×Nat)×Bool×Bool)×Array α)=>[(1,.int .i64 x.1.1.1),(2,.int .i64 x.1.1.2.1),(3,.int .i64 x.1.1.2.2),(8,.bool x.1.2.1),(9,.bool x.1.2.2)]) (·.2) (fun x=>x.1.1.2.1-x.1.1.1) (fun x=>x.2.size=n/\(x.1.1.1<=x.1.1.2.1/\x.1.1.2.1<=n/\x.1.1.2.1-x.1.1.1<=m/\x.1.1.2.2<=1000)/\Sort.Below lt x.1.1.1 x.1.1.2.1 x.2/\∀R,Sort.PermIn x.1.1.1 x.1.1.2.1 x.2 R->Sort.SortedIn lt x.1.1.1 x.1.1.2.1 R->Sort.PermIn a b d R/\Sort.SortedIn lt a b R)
  (((a,b,B),true,true),d) G ⟨G,⟨ot,ae,hm,eK⟩,D6,fun R J U=>⟨J,U⟩⟩ (by simp[cT,av]) aG aG go ?_
 rintro⟨⟨⟨bu,cf,i⟩,atx,wp⟩,f⟩ ⟨c,⟨s,u,fv,V⟩,Nx,M⟩;simp only at c s u fv V Nx M;have P:∀D:Array α,D.size=n->au (inObs (S D.toList)) (fx g cm lc cc):=fun D h=>H.kdata (lk:=D.toList) (by simpa using h);have K:∀(R:Array α) t o,Sort.PermIn bu cf f R->Sort.SortedIn lt bu cf R->cJ [] (S d.toList) (fun r aj=>r= .tuple []/\∃q,aj=S q.toList/\Sort.PermIn a b d q/\Sort.SortedIn lt a b q) .ret ⟨t,(.loc 0,[.func g lc,.func cm cc])::(S R.toList).b,(S R.toList).e,1,o⟩:=fun R t o J U=>by refine H.retA F (by rw[J.1];exact c) (.inl rfl) ⟨rfl,R,rfl,M R J U⟩
 simp;by_cases uE:cf-bu<=12
 ·have A:(cf:Int)-bu<=12:=Ω
  (repeat' first|refine ak ?_|simp[A,Pv.look,H.slc,H.ssc]);simp only[jj H,H.slc,H.ssc,jc];refine H.fnD c (aiA H f c bu cf s u) (by simp[au,ay,P f c]) fun s2 o=>?_;obtain⟨X,Y⟩:=Sort.insertionSort_holds E f bu cf s Ω;simp;exact K _ _ _ X Y
 have A:¬(cf:Int)-bu<=12:=Ω
 by_cases zr:i=0
 ·have N:(((i:Nat):Int)==0)=true:=by simp[zr]
  (repeat' first|refine ak ?_|simp[A,N,Pv.look,H.slc,H.ssc]);simp only[jj H,H.slc,H.ssc,jc];refine H.fnD c (aiz H f c bu cf s u Ω) (by simp[au,ay,P f c]) fun s2 o=>?_;obtain⟨X,Y⟩:=Sort.heapSort_holds E f bu cf s Ω;simp;exact K _ _ _ X Y
 have N:(((i:Nat):Int)==0)=false:=by simp[zr]
 have W4:C9 S n g cm lc cc lt (cf-bu):=fun k ad=>bB k Ω;cases atx
 ·(repeat' first|refine ak ?_|simp[A,N,Pv.look,H.slc,H.ssc]);simp only[jj H,H.slc,H.ssc,jc];refine H.fnD c (ait H l7 f c bu cf s u Ω) (by simp[au,ay,P f c]) fun s1 o=>?_;have O:=Sort.breakPatterns_holds f bu cf s Ω;generalize Sort.breakPatterns f bu cf=d1 at s1 O;have el:((i:Int)-1)=(i-1:Nat):=Ω
  simp[el];(repeat' first|refine ak ?_|simp[el,Pv.look]);refine Zo (lim:=i-1) H gW E W4 ⟨Ψ,Ψ,Ψ,Ψ,Ψ⟩ (w:=false) (v:=wp) Ψ Ψ Ω s1 u Ω (Nx.perm Ω O) ⟨?_,fun R t o p j=>?_⟩
  ·rintro e he a2 Z w v L t o z aC W cY Q y t1 t2 t3 t4 t8 t9;rcases he with rfl|rfl<;>simp<;>exact bQ.whl (((a2,Z,i-1),w,v),L) gc ⟨z,⟨aC,W,by simp;omega,by simp;omega⟩,Q,fun R p j=>M R (Sort.permIn_trans _ _ _ bu cf O (y R p j).1) (y R p j).2⟩ (H.weakC F (by simpa using z) (by simp[au,t1,t2,t3,t4,t8,t9]))
  ·simpa using K R t o (Sort.permIn_trans _ _ _ bu cf O p) j
 ·(repeat' first|refine ak ?_|simp[A,N,Pv.look,H.slc,H.ssc]);refine Zo (lim:=i) H gW E W4 ⟨Ψ,Ψ,Ψ,Ψ,Ψ⟩ (w:=true) (v:=wp) Ψ Ψ V c u Ω Nx ⟨?_,fun R t o p j=>?_⟩
  ·rintro e he a2 Z w v L t o z aC W cY Q y t1 t2 t3 t4 t8 t9;rcases he with rfl|rfl<;>simp<;>exact bQ.whl (((a2,Z,i),w,v),L) gc ⟨z,⟨aC,W,by simp;omega,V⟩,Q,fun R p j=>M R (y R p j).1 (y R p j).2⟩ (H.weakC F (by simpa using z) (by simp[au,t1,t2,t3,t4,t8,t9]))
  ·simpa using K R t o p j
end
section
open Go Go.Pv
variable {α:Type} {S:List α->cS} {n g cm:Nat} {lc cc:List ah} {lt:α->α->Bool}
def amb(n:rU lt){l lk:List α}{a b i:Nat}(t:a+1<=i)(B:i<=b)(ae:b<=l.length)(e:fL lt (a+1) b l){z:α}(g:l[a]? =some z)(r:∀h x,a+1<=h->h<i->l[h]? =some x->lt x z=true)(s:∀h x,i<=h->h<b->l[h]? =some x->lt x z=false)
  (o:∀k,lk[k]? =l[iJ a (a+1) i k]?):fL lt a b lk:=by
 intro p q x y A u m c d;rw[o]at c d;simp only[iJ]at c d;rw[if_neg Ω]at c d;by_cases w:q<i-1
 ·rw[if_pos Ω]at c d;exact e _ _ _ _ Ω Ω Ω c d
 ·rw[if_neg Ω]at d;by_cases j:q<i
  ·rw[if_pos j,show q-(i-(a+1))=a by omega,g]at d;cases d;rw[if_pos Ω]at c;exact n.asym _ _ (r _ _ Ω Ω c)
  ·rw[if_neg j]at d;by_cases v:p<i-1
   ·rw[if_pos Ω]at c;exact e _ _ _ _ Ω Ω Ω c d
   ·rw[if_neg Ω]at c;by_cases f:p<i
    ·rw[if_pos f,show p-(i-(a+1))=a by omega,g]at c;cases c;exact s _ _ Ω m d
    ·rw[if_neg f]at c;exact e _ _ _ _ Ω Ω m c d
def amc(o:rU lt){l lk:List α}{a m i:Nat}(v:a<=i)(r:i<=m)(ae:m+1<=l.length)(e:fL lt a m l){z:α}(g:l[m]? =some z)(t:∀h x,a<=h->h<i->l[h]? =some x->lt z x=false)(u:∀h x,i<=h->h<m->l[h]? =some x->lt z x=true)
  (s:∀k,lk[k]? =l[iJ i m (m+1) k]?):fL lt a (m+1) lk:=by
 intro p q x y d j B b c;rw[s]at b c;simp only[iJ]at b c;by_cases n:q<i
 ·rw[if_pos Ω]at b c;exact e _ _ _ _ d j Ω b c
 ·rw[if_neg n]at c;by_cases A:q=i
  ·rw[if_pos Ω,show q+(m-i)=m by omega,g]at c;cases c;rw[if_pos Ω]at b;exact t _ _ d Ω b
  ·rw[if_neg Ω,if_pos Ω]at c;by_cases f:p<i
   ·rw[if_pos f]at b;exact e _ _ _ _ d Ω Ω b c
   ·rw[if_neg f]at b;by_cases w:p=i
    ·rw[if_pos Ω,show p+(m-i)=m by omega,g]at b;cases b;exact o.asym _ _ (u _ _ Ω Ω c)
    ·rw[if_neg Ω,if_pos Ω]at b;exact e _ _ _ _ Ω Ω Ω b c
structure Gs (lt:α->α->Bool) (a s m e b mid:Nat) (lk:List α):Prop where
 s1:fL lt a s lk
 s2:fL lt s mid lk
 s3:fL lt mid e lk
 s4:fL lt e b lk
 cross:∀p q x y,a<=p->p<mid->mid<=q->q<b->lk[p]? =some x->lk[q]? =some y->lt y x=false
def fL.le(g:rU lt){a b:Nat}{l:List α}(h:fL lt a b l){i j:Nat}{x y:α}(J:a<=i)(U:i<=j)(k:j<b)(d:l[i]? =some x)(c:l[j]? =some y):lt y x=false:=by
 by_cases e:i=j
 ·subst e;rw[d]at c;cases c;cases f:lt x x with
  |false=>rfl
  |true=>have:=g.asym _ _ f;rw[f]at this;exact this
 ·exact h _ _ _ _ J Ω k d c
def aml(f:rU lt){l lk:List α}{a m b mid s e:Nat}(has:a<=s)(eI:s<=m)(F:m<=e)(G:e<=b)(ae:b<=l.length)(K:s+e=mid+m)(J:fL lt a m l)(U:fL lt m b l)
  (t:s=a\/e=b\/ ∃x y,l[s-1]? =some x/\l[e]? =some y/\lt y x=false) (c2:s=m\/e=m\/ ∃x y,l[s]? =some x/\l[e-1]? =some y/\lt y x=true) (j:∀k,lk[k]? =l[iJ s m e k]?):Gs lt a s m e b mid lk:=by
 have g1:∀p,p<s->lk[p]? =l[p]?:=fun p g=>by rw[j];simp[iJ,g]
 have g2:∀p,s<=p->p<mid->lk[p]? =l[p+(m-s)]?:=fun p A H=>by rw[j];simp only[iJ];rw[if_neg Ω,if_pos Ω]
 have g3:∀p,mid<=p->p<e->lk[p]? =l[p-(e-m)]?:=fun p A H=>by rw[j];simp only[iJ];rw[if_neg Ω,if_neg Ω,if_pos Ω]
 have g4:∀p,e<=p->lk[p]? =l[p]?:=fun p A=>by
  rw[j];simp only[iJ];rw[if_neg Ω];by_cases E:p<s+(e-m)
  ·omega
  ·rw[if_neg E,if_neg Ω]
 refine⟨fun p q x y g i h d c=>?_,fun p q x y g i h d c=>?_,fun p q x y g i h d c=>?_,fun p q x y g i h d c=>?_,fun p q x y g z h B d c=>?_⟩
 ·rw[g1 _ Ω]at d c;exact J _ _ _ _ g i Ω d c
 ·rw[g2 _ Ω Ω]at d c;exact U _ _ _ _ Ω Ω Ω d c
 ·rw[g3 _ Ω Ω]at d c;exact J _ _ _ _ Ω Ω Ω d c
 ·rw[g4 _ Ω]at d c;exact U _ _ _ _ Ω Ω Ω d c
 ·by_cases D:p<s
  ·rw[g1 _ D]at d;by_cases o:q<e
   ·rw[g3 _ h o]at c;exact J _ _ _ _ g Ω Ω d c
   ·rw[g4 _ Ω]at c;rcases t with t|t|⟨u,v,r,w,n⟩
    ·omega
    ·omega
    ·exact f.ntr _ _ _ (f.ntr _ _ _ (fL.le f J g Ω Ω d r) n) (fL.le f U Ω Ω B w c)
  ·rw[g2 _ Ω z]at d;by_cases o:q<e
   ·rw[g3 _ h o]at c;rcases c2 with c2|c2|⟨u,v,r,w,n⟩
    ·omega
    ·omega
    ·exact f.ntr _ _ _ (f.ntr _ _ _ (fL.le f U Ω Ω Ω d w) (f.asym _ _ n)) (fL.le f J Ω Ω Ω r c)
   ·rw[g4 _ Ω]at c;exact U _ _ _ _ Ω Ω B d c
def amm{a mid b:Nat}(u:a<=mid){lk e f:List α}(J:gT a mid lk e)(s1:fL lt a mid e)(U:gT mid b e f)(s2:fL lt mid b f)(i:∀p q x y,a<=p->p<mid->mid<=q->q<b->lk[p]? =some x->lk[q]? =some y->lt y x=false):fL lt a b f:=by
 intro p q x y m j n c d;by_cases s:q<mid
 ·rw[U.out _ (.inl Ω)]at c;rw[U.out _ (.inl Ω)]at d;exact s1 _ _ _ _ m j s c d
 ·by_cases t:mid<=p
  ·exact s2 _ _ _ _ t j n c d
  ·rw[U.out _ (.inl Ω)]at c;refine U.all (fun y=>lt y x=false) (fun k y l o d=>?_) q y Ω n d;rw[J.out _ (.inr l)]at d;exact J.all (fun x=>lt y x=false) (fun r x h g c=>i r k x y h g l o c d) p x m Ω c
end
section
open Go Go.Pv
variable {α:Type} {S:List α->cS} {n g cm:Nat} {lc cc:List ah} {lt:α->α->Bool}
def arp(lt:α->α->Bool)(l:List α)(mid m s0 r0:Nat)(x:Nat×Nat):Prop:=s0<=x.1/\x.1<=x.2/\x.2<=r0/\(x.1=s0\/ ∃u v,l[x.1-1]? =some u/\l[mid+m-x.1]? =some v/\lt v u=false)/\(x.2=r0\/ ∃u v,l[x.2]? =some u/\l[mid+m-x.2-1]? =some v/\lt v u=true)
attribute [local simp] pS
def Gz(S:List α->cS)(n g cm:Nat)(lc cc:List ah)(lt:α->α->Bool)(d:Nat):Prop:=
 ∀(l:List α) (a m b:Nat),l.length=n->b-a<=d->a<m->m<b->b<=n->fL lt a m l->fL lt m b l->
  bG ar 225 [fx g cm lc cc,.int .i64 a,.int .i64 m,.int .i64 b] (S l) fun r e=>r= .tuple []/\∃c,e=S c/\gT a b l c/\fL lt a b c
def GA(S:List α->cS)(g cm:Nat)(lc cc:List ah)(lt:α->α->Bool)(a b:Nat)(l:List α)(Q:Exit->bn->Prop):Prop:=∀c t o,gT a b l c->fL lt a b c->Q .normal ⟨t,(.loc 0,[.func g lc,.func cm cc])::(S c).b,(S c).e,1,o⟩
section
variable {a m b mid i e d:Nat} {l:List α} {t:List (Nat×ah)} {o:List aB} {ob:List aB} {Q:Exit->bn->Prop}
def aq0(H:fH S n g cm lc cc lt)(r:Gz S n g cm lc cc lt d)(t3:Pv.get 3 t= .int .i64 b)(t4:Pv.get 4 t= .ptr (.loc 0) 0)(t16:Pv.get 16 t= .int .i64 mid)(t22:Pv.get 22 t= .int .i64 e)(c:l.length=n)(J:mid<=e)(U:e<=b)(ae:b<=n)(s:b-mid<=d)(p:fL lt mid e l)(m:fL lt e b l)(i:GA S g cm lc cc lt mid b l Q):
  dh ar ob GV Q ⟨t,(.loc 0,[.func g lc,.func cm cc])::(S l).b,(S l).e,1,o⟩:=by
 unfold GV;by_cases a:mid<e/\e<b
 ·simp[t3,t4,t16,t22,a.1,a.2,Pv.look];simp only[jj H,H.slc,H.ssc,jc];refine H.doFn c (r l mid e b c s a.1 a.2 ae p m) (fun v h=>by rw[h.1.length];exact c) (by simp[ay,au,H.kdata c]) ?_;rintro u ⟨q,z2⟩;simp;exact i _ _ _ q z2
 ·have k:fL lt mid b l:=by
   by_cases f:mid<e
   ·rwa[show e=b by omega]at p
   ·rwa[show e=mid by omega]at m
  by_cases f:mid<e
  ·have j:¬e<b:=Ω
   simp[t3,t16,t22,f,j];exact i _ _ _ (.refl _) k
  ·simp[t16,t22,f];exact i _ _ _ (.refl _) k
def aq1(H:fH S n g cm lc cc lt)(B:Gz S n g cm lc cc lt d)(t1:Pv.get 1 t= .int .i64 a)(t3:Pv.get 3 t= .int .i64 b)(t4:Pv.get 4 t= .ptr (.loc 0) 0)(t16:Pv.get 16 t= .int .i64 mid)(t18:Pv.get 18 t= .int .i64 i)(t22:Pv.get 22 t= .int .i64 e)(j:l.length=n)(V:a<=i/\i<=mid/\a<=m)(J:mid<=e)(U:e<=b)(ae:b<=n)(O:b-mid<=d)(D:mid-a<=d)(f:Gs lt a i m e b mid l)(F:GA S g cm lc cc lt a b l Q):
  dh ar ob GW Q ⟨t,(.loc 0,[.func g lc,.func cm cc])::(S l).b,(S l).e,1,o⟩:=by
 unfold GW;have next:∀{k t o},Pv.get 3 t= .int .i64 b->Pv.get 4 t= .ptr (.loc 0) 0->Pv.get 16 t= .int .i64 mid->Pv.get 22 t= .int .i64 e->k.length=n->gT a mid l k->fL lt a mid k->dh ar ob GV Q ⟨t,(.loc 0,[.func g lc,.func cm cc])::(S k).b,(S k).e,1,o⟩:=fun N P L K E c r=>by
  refine aq0 H B N P L K E J U ae O (fun p q x y J U z s u=>?_) (fun p q x y J U z s u=>?_) fun G t o A M=>?_
  ·rw[c.out _ (.inr J)]at s;rw[c.out _ (.inr Ω)]at u;exact f.s3 p q x y J U z s u
  ·rw[c.out _ (.inr Ω)]at s;rw[c.out _ (.inr Ω)]at u;exact f.s4 p q x y J U z s u
  ·exact F G t o ((c.mono Ω Ω).trans (A.mono Ω Ω)) (amm Ω c r A M f.cross)
 by_cases v:a<i/\i<mid
 ·simp[t1,t4,t16,t18,v.1,v.2,Pv.look];simp only[jj H,H.slc,H.ssc,jc];refine H.doFn j (B l a i mid j D v.1 v.2 Ω f.s1 f.s2) (fun W h=>by rw[h.1.length];exact j) (by simp[ay,au,H.kdata j]) ?_;rintro k ⟨c,r⟩;simp;exact next vd vL xu yj (by rw[c.length];exact j) c r
 ·have r:fL lt a mid l:=by
   by_cases w:a<i
   ·have:=f.s1;rwa[show i=mid by omega]at this
   ·have:=f.s2;rwa[show i=a by omega]at this
  by_cases w:a<i
  ·have R:¬i<mid:=Ω
   simp[t1,t16,t18,w,R];exact next vd vL xu yj j (.refl _) r
  ·simp[t1,t18,w];exact next vd vL xu yj j (.refl _) r
def aq2(H:fH S n g cm lc cc lt)(G:Gz S n g cm lc cc lt d)(t1:Pv.get 1 t= .int .i64 a)(t2:Pv.get 2 t= .int .i64 m)(t3:Pv.get 3 t= .int .i64 b)(t4:Pv.get 4 t= .ptr (.loc 0) 0)(t16:Pv.get 16 t= .int .i64 mid)(t18:Pv.get 18 t= .int .i64 i)(t22:Pv.get 22 t= .int .i64 e)(c:l.length=n)(F:a<=i/\i<=mid/\a<=m)(J:mid<=e)(U:e<=b)(ae:b<=n)(L:b-mid<=d)(w:mid-a<=d)(u:∀lk:List α,(∀k,lk[k]? =l[iJ i m e k]?)->Gs lt a i m e b mid lk)(x:GA S g cm lc cc lt a b l Q):
  dh ar ob Lc Q ⟨t,(.loc 0,[.func g lc,.func cm cc])::(S l).b,(S l).e,1,o⟩:=by
 unfold Lc;have next:∀{lk t o},Pv.get 1 t= .int .i64 a->Pv.get 3 t= .int .i64 b->Pv.get 4 t= .ptr (.loc 0) 0->Pv.get 16 t= .int .i64 mid->Pv.get 18 t= .int .i64 i->Pv.get 22 t= .int .i64 e->lk.length=n->Gs lt a i m e b mid lk->gT a b l lk->dh ar ob GW Q ⟨t,(.loc 0,[.func g lc,.func cm cc])::(S lk).b,(S lk).e,1,o⟩:=fun K M E D B z y j v=>aq1 H G K M E D B z y F J U ae L w j fun A t o p q=>x A t o (v.trans p) q
 by_cases f:i<m/\m<e
 ·simp[t2,t4,t18,t22,f.1,f.2,Pv.look];simp only[jj H,H.slc,H.ssc,jc];refine H.doFn c (aiP H l c i m e f.1 f.2 Ω) (fun N h=>by rw[h.1.length];exact c) (by simp[ay,au,H.kdata c]) ?_;rintro lk ⟨p,q⟩;simp;exact next (by simp[t1]) vd vL xu (by simp[t18]) yj (by rw[p.length];exact c) (u lk q) (p.mono Ω Ω)
 ·have j:=u l (fun k=>by
   congr 1;simp only[iJ];repeat' split
   all_goals omega)
  by_cases s:i<m
  ·have r:¬m<e:=Ω
   simp[t2,t18,t22,s,r];exact next (by simp[t1]) vd vL xu (by simp[t18]) yj c j (.refl _)
  ·simp[t2,t18,s];exact next (by simp[t1]) vd vL xu (by simp[t18]) yj c j (.refl _)
def aaO{bb:List (aB×List ah)}(H:fH S n g cm lc cc lt)(K:Pv.look (.loc 0) bb=some [.func g lc,.func cm cc])(R:∀k cs,Pv.look k (S l).b=some cs->Pv.look k bb=some cs)(V:rU lt)(X:Gz S n g cm lc cc lt d){s0 r0:Nat}(t1:Pv.get 1 t= .int .i64 a)(t2:Pv.get 2 t= .int .i64 m)(t3:Pv.get 3 t= .int .i64 b)(t4:Pv.get 4 t= .ptr (.loc 0) 0)(t16:Pv.get 16 t= .int .i64 mid)(t17:Pv.get 17 t= .int .i64 ((mid:Int)+m))(t18:Pv.get 18 t= .int .i64 s0)(t19:Pv.get 19 t= .int .i64 r0)(f:l.length=n)(Z:a<m/\m<b/\mid=(a+b)/2)(J:mid<m/\s0=mid+m-b/\r0=mid\/m<=mid/\s0=a/\r0=m)(ae:b<=n)(aQ:b-a<=d+1)(M:fL lt a m l)(L:fL lt m b l)(N:GA S g cm lc cc lt a b l Q):
  dh ar (di (S l)) Ld Q ⟨t,bb,(S l).e,1,o⟩:=by
 have hle:=H.le;unfold Ld;simp[t17];(repeat' first|refine ak ?_|simp[t17]);refine mB (fun(x:Nat×Nat)=>⟨[(1,.int .i64 a),(2,.int .i64 m),(3,.int .i64 b),(4,.ptr (.loc 0) 0),(16,.int .i64 mid),(17,.int .i64 (mid+m)),(20,.int .i64 (mid+m-1)),(18,.int .i64 x.1),(19,.int .i64 x.2)],(.loc 0,[.func g lc,.func cm cc])::(S l).b,(S l).e,1,di (S l)⟩) (fun x=>x.2-x.1)
  (arp lt l mid m s0 r0) (s0,r0) (H.weak f f (by simp[au,t1,t2,t3,t4,t16,t17,t18,t19]) K R fun _ _ h=>h) ⟨Ψ,by simp;omega,Ψ,.inl rfl,.inl rfl⟩ ?_
 rintro⟨i,j⟩ ⟨G,W,F,p,q⟩ _;simp only at G W F p q;have D:=HD i j Ω;by_cases E:i<j
 ·simp[E];(repeat' first|refine ak ?_|simp[Pv.look]);obtain⟨c,aA⟩:∃c,c=(i+j)/2:=⟨_,rfl⟩;rw[<-aA]at D;simp only[D];(repeat' first|refine ak ?_|simp[Pv.look]);obtain⟨u,s⟩:∃u,l[c]? =some u:=⟨_,cl Ω⟩;obtain⟨v,r⟩:∃v,l[mid+m-1-c]? =some v:=⟨_,cl Ω⟩;have P:((mid:Int)+m-1-c)=(mid+m-1-c:Nat):=Ω
  simp only[H.slc,P];refine H.doLess f (mid+m-1-c) c r s ?_;simp;cases B:lt v u with
  |false=>simp;(repeat' first|refine ak ?_|simp);refine bQ.whl (c+1,j) gc ⟨by simp;omega,by simp;omega,F,.inr ⟨u,v,by simpa using s,?_,B⟩,q⟩ (H.weakC f f go);simp only;rw[show mid+m-(c+1)=mid+m-1-c by omega];exact r
  |true=>simp;(repeat' first|refine ak ?_|simp);refine bQ.whl (i,c) gc ⟨G,by simp;omega,by simp;omega,p,.inr ⟨u,v,s,?_,B⟩⟩ (H.weakC f f go);simp only;rw[show mid+m-c-1=mid+m-1-c by omega];exact r
 ·obtain rfl:i=j:=Ω
  obtain⟨e,he⟩:∃e,e=mid+m-i:=⟨_,rfl⟩;have O:((mid:Int)+m-i)=(e:Nat):=Ω
  have U:i=a\/e=b\/ ∃x y,l[i-1]? =some x/\l[e]? =some y/\lt y x=false:=by
   rcases p with p|⟨u,v,w,A,z⟩
   ·omega
   ·exact .inr (.inr ⟨u,v,w,by rw[he];exact A,z⟩)
  have c2:i=m\/e=m\/ ∃x y,l[i]? =some x/\l[e-1]? =some y/\lt y x=true:=by
   rcases q with q|⟨u,v,w,A,z⟩
   ·omega
   ·exact .inr (.inr ⟨u,v,w,by rw[he];exact A,z⟩)
  simp[E];(repeat' first|refine ak ?_|simp);rw[O];exact aq2 H X (a:=a) (m:=m) (b:=b) (mid:=mid) (i:=i) (e:=e) Ψ Ψ Ψ Ψ Ψ Ψ Ψ f Ω Ω Ω ae Ω Ω (fun lk Y=>aml V Ω Ω Ω Ω Ω Ω M L U c2 Y) N
end
def VA(H:fH S n g cm lc cc lt)(q:rU lt)(d:Nat):∀(l:List α) (a m b:Nat),l.length=n->b-a<=d->a<m->m<b->b<=n->fL lt a m l->fL lt m b l->
  bG ar 225 [fx g cm lc cc,.int .i64 a,.int .i64 m,.int .i64 b] (S l) fun r aj=>r= .tuple []/\∃R,aj=S R/\gT a b l R/\fL lt a b R:=by
 induction d with
 |zero=>intro l a m b f X D3 O;omega
 |succ d bB=>
 intro l a m b f X D3 O ae L K;have ag:=H.ok l;have v:∀l m,Pv.look (.loc m) (S l).b=none:=fun l=>(H.ok l).obj.1;have hu:∀l m cs,cG (.loc m) cs (S l).b=(S l).b++[(.loc m,cs)]:=fun l m cs=>ku (v l m);have al:∀m,aB.loc m∉di (S l):=kq ag.obj;have hle:=H.le;refine bG.mk mixed a7 Tryz.func225 aoh Ψ ag.obj fun aN cP=>?_;unfold Tl;simp[fx,hu,al,cT,v];(with_reducible repeat' first|((first|apply bV|apply b0|apply bZ)<;>intro h<;>try simp at h)|refine ak ?_|simp[hu,al,cT,v])
 ·obtain rfl:m=a+1:=Ω
  have Y:∀k,iJ a (a+1) (a+1) k=k:=by
   intro k;simp only[iJ];repeat' split
   all_goals omega
  obtain⟨z,N⟩:∃z,l[a]? =some z:=⟨_,cl Ω⟩;refine mB (fun(x:Nat×Nat)=>⟨[(1,.int .i64 a),(4,.ptr (.loc 0) 0),(8,.int .i64 x.1),(9,.int .i64 x.2)],(.loc 0,[.func g lc,.func cm cc])::(S l).b,(S l).e,1,di (S l)⟩) (fun x=>x.2-x.1)
   (fun x=>a+1<=x.1/\x.1<=x.2/\x.2<=b/\(∀h y,a+1<=h->h<x.1->l[h]? =some y->lt y z=true)/\(∀h y,x.2<=h->h<b->l[h]? =some y->lt y z=false)) (a+1,b)
   (H.weak f f go (by simp[cT,v]) aG aG) ⟨Ψ,by simp;omega,Ψ,fun h y J U=>by simp at U;omega,fun h y J U=>by simp at J;omega⟩ ?_
  rintro⟨i,j⟩ ⟨M,W,B,w,A⟩ _;simp only at M W B w A;have hw:=HD i j Ω;simp[Pv.look];(with_reducible repeat' first|((first|apply bV|apply b0|apply bZ)<;>intro h<;>try simp at h)|refine ak ?_|simp[Pv.look])
  ·obtain⟨c,aA⟩:∃c,c=(i+j)/2:=⟨_,rfl⟩;rw[<-aA]at hw;obtain⟨y,F⟩:∃y,l[c]? =some y:=⟨_,cl Ω⟩;simp only[hw,H.slc];refine H.doLess f c a F N ?_;simp;cases G:lt y z with
   |true=>
    simp;(repeat' first|refine ak ?_|simp);refine bQ.whl (c+1,j) gc ⟨by simp;omega,by simp;omega,B,fun h u J U hu=>?_,A⟩ (H.weakC f f go);cases e:lt u z with
    |true=>rfl
    |false=>simp only at U;have:=q.ntr _ _ _ e (fL.le q K J Ω Ω hu F);rw[G]at this;cases this
   |false=>simp;(repeat' first|refine ak ?_|simp);refine bQ.whl (i,c) gc ⟨M,by simp;omega,by simp;omega,w,fun h u J U hu=>?_⟩ (H.weakC f f go);exact q.ntr _ _ _ G (fL.le q K Ω J U F hu)
  ·obtain rfl:i=j:=Ω
   refine mB (fun(x:Nat×List α)=>⟨[(4,.ptr (.loc 0) 0),(8,.int .i64 i),(11,.int .i64 x.1)],(.loc 0,[.func g lc,.func cm cc])::(S x.2).b,(S x.2).e,1,di (S l)⟩) (fun x=>i-x.1)
    (fun x=>x.2.length=n/\a<=x.1/\x.1<i/\gT a b l x.2/\∀k,x.2[k]? =l[iJ a (a+1) (x.1+1) k]?) (a,l)
    (H.weakC f f go) ⟨f,Ψ,by simp;omega,.refl _,fun k=>by simp[Y]⟩ ?_
   rintro⟨k,lk⟩ ⟨p,E,V,D,s⟩ _;simp only at p E V D s;simp[Pv.look];((repeat' first|refine ak ?_|simp[Pv.look]|((first|apply bV|apply b0|apply bZ)<;>intro h<;>try simp at h))<;>(try exact cA))
   ·have Q:((k:Int)+1)=(k+1:Nat):=Ω
    rw[H.ssc,Q];refine H.doSwap p k (k+1) Ω Ω Ω ?_;simp;(with_reducible repeat' first|((first|apply bV|apply b0|apply bZ)<;>intro h<;>try simp at h)|refine ak ?_|simp);refine bQ.whl (k+1,hR lk k (k+1)) gc ⟨by simp[p],by simp;omega,by simp;omega,.step D Ω Ω Ω Ω Ω Ω,fun t=>?_⟩ (H.weakC f (by simp[p]) go);rw[Ca _ _ _ _ Ω Ω,s,s,s];have:iJ a (a+1) (k+1+1) t=if t=k then iJ a (a+1) (k+1) (k+1)else if t=k+1 then iJ a (a+1) (k+1) k else iJ a (a+1) (k+1) t:=by
     simp only[iJ];repeat' split
     all_goals omega
    rw[this];split
    ·rfl
    ·split<;>rfl
   ·obtain rfl:i=k+1:=Ω
    refine H.ret f p (.inl rfl) ⟨rfl,lk,rfl,D,amb q Ω B Ω K N w A s⟩
 ·obtain rfl:b=m+1:=Ω
  have Y:∀k,iJ m m (m+1) k=k:=by
   intro k;simp only[iJ];repeat' split
   all_goals omega
  obtain⟨z,N⟩:∃z,l[m]? =some z:=⟨_,cl Ω⟩;refine mB (fun(x:Nat×Nat)=>⟨[(2,.int .i64 m),(4,.ptr (.loc 0) 0),(12,.int .i64 x.1),(13,.int .i64 x.2)],(.loc 0,[.func g lc,.func cm cc])::(S l).b,(S l).e,1,di (S l)⟩) (fun x=>x.2-x.1)
   (fun x=>a<=x.1/\x.1<=x.2/\x.2<=m/\(∀h y,a<=h->h<x.1->l[h]? =some y->lt z y=false)/\(∀h y,x.2<=h->h<m->l[h]? =some y->lt z y=true)) (a,m)
   (H.weak f f go (by simp[cT,v]) aG aG) ⟨Ψ,by simp;omega,Ψ,fun h y J U=>by simp at U;omega,fun h y J U=>by simp at J;omega⟩ ?_
  rintro⟨i,j⟩ ⟨M,W,B,w,A⟩ _;simp only at M W B w A;have hw:=HD i j Ω;simp[Pv.look];(with_reducible repeat' first|((first|apply bV|apply b0|apply bZ)<;>intro h<;>try simp at h)|refine ak ?_|simp[Pv.look])
  ·obtain⟨c,aA⟩:∃c,c=(i+j)/2:=⟨_,rfl⟩;rw[<-aA]at hw;obtain⟨y,F⟩:∃y,l[c]? =some y:=⟨_,cl Ω⟩;simp only[hw,H.slc];refine H.doLess f m c N F ?_;simp;cases G:lt z y with
   |false=>simp;((repeat' first|refine ak ?_|simp|((first|apply bV|apply b0|apply bZ)<;>intro h<;>try simp at h))<;>(try exact cA));refine bQ.whl (c+1,j) gc ⟨by simp;omega,by simp;omega,B,fun h u J U hu=>?_,A⟩ (H.weakC f f go);simp only at U;exact q.ntr _ _ _ (fL.le q L J Ω Ω hu F) G
   |true=>
    simp;((repeat' first|refine ak ?_|simp|((first|apply bV|apply b0|apply bZ)<;>intro h<;>try simp at h))<;>(try exact cA));refine bQ.whl (i,c) gc ⟨M,by simp;omega,by simp;omega,w,fun h u J U hu=>?_⟩ (H.weakC f f go);cases e:lt z u with
    |true=>rfl
    |false=>have:=q.ntr _ _ _ (fL.le q L Ω J U F hu) e;rw[G]at this;cases this
  ·obtain rfl:i=j:=Ω
   refine mB (fun(x:Nat×List α)=>⟨[(4,.ptr (.loc 0) 0),(12,.int .i64 i),(15,.int .i64 x.1)],(.loc 0,[.func g lc,.func cm cc])::(S x.2).b,(S x.2).e,1,di (S l)⟩) (fun x=>x.1)
    (fun x=>x.2.length=n/\i<=x.1/\x.1<=m/\gT a (m+1) l x.2/\∀k,x.2[k]? =l[iJ x.1 m (m+1) k]?) (m,l)
    (H.weakC f f go) ⟨f,by simp;omega,Ψ,.refl _,fun k=>by simp[Y]⟩ ?_
   rintro⟨k,lk⟩ ⟨p,E,V,D,s⟩ _;simp only at p E V D s;simp[Pv.look];((repeat' first|refine ak ?_|simp[Pv.look]|((first|apply bV|apply b0|apply bZ)<;>intro h<;>try simp at h))<;>(try exact cA))
   ·have Q:((k:Int)-1)=(k-1:Nat):=Ω
    rw[H.ssc,Q];refine H.doSwap p k (k-1) Ω Ω Ω ?_;simp;(repeat' first|refine ak ?_|simp);refine bQ.whl (k-1,hR lk k (k-1)) gc ⟨by simp[p],by simp;omega,by simp;omega,.step D Ω Ω Ω Ω Ω Ω,fun t=>?_⟩ (H.weakC f (by simp[p]) pm);rw[Ca _ _ _ _ Ω Ω,s,s,s];have:iJ (k-1) m (m+1) t=if t=k then iJ k m (m+1) (k-1)else if t=k-1 then iJ k m (m+1) k else iJ k m (m+1) t:=by
     simp only[iJ];repeat' split
     all_goals omega
    rw[this];split
    ·rfl
    ·split<;>rfl
   ·obtain rfl:i=k:=Ω
    refine H.ret f p (.inl rfl) ⟨rfl,lk,rfl,D,amc q Ω B Ω L N w A s⟩
 ·obtain⟨mid,Z⟩:∃mid,mid=(a+b)/2:=⟨_,rfl⟩;have hw:=HD a b Ω;rw[<-Z]at hw;simp only[hw];(with_reducible repeat' first|((first|apply bV|apply b0|apply bZ)<;>intro h<;>try simp at h)|refine ak ?_|simp[hu,al,cT,v])
  ·exact aaO (s0:=mid+m-b) (r0:=mid) H (by simp[cT,v]) aG q bB (a:=a) (m:=m) (b:=b) (mid:=mid) Ψ Ψ Ψ Ψ Ψ Ψ gc Ψ f ⟨D3,O,Z⟩ Ω ae X L K fun P t o p E=>H.ret f (by rw[p.length];exact f) (.inr rfl) ⟨rfl,P,rfl,p,E⟩
  ·exact aaO (s0:=a) (r0:=m) H (by simp[cT,v]) aG q bB (a:=a) (m:=m) (b:=b) (mid:=mid) Ψ Ψ Ψ Ψ Ψ Ψ Ψ Ψ f ⟨D3,O,Z⟩ Ω ae X L K fun P t o p E=>H.ret f (by rw[p.length];exact f) (.inr rfl) ⟨rfl,P,rfl,p,E⟩
end
section
open Go Go.Pv
variable {α:Type} {S:List α->cS} {n g cm:Nat} {lc cc:List ah} {lt:α->α->Bool}
def qj(lt:α->α->Bool)(z a b:Nat)(l:List α):Prop:= ∀i j x y,a<=i->i<j->j<b->i/z=j/z->l[i]? =some x->l[j]? =some y->lt y x=false
def qj.snoc{z q:Nat}(f:0<z){l a:List α}(h:qj lt z 0 (q*z) l){b:Nat}(g:gT (q*z) b l a)(U:fL lt (q*z) b a):qj lt z 0 b a:=by
 intro i j x y hi e m n c d;by_cases k:j<q*z
 ·rw[g.out _ (.inl Ω)]at c;rw[g.out _ (.inl k)]at d;exact h i j x y hi e k n c d
 ·have p:q<=j/z:=(Nat.le_div_iff_mul_le f).2 Ω;have o:q*z<=i:=(Nat.le_div_iff_mul_le f).1 Ω;exact U i j x y o e m c d
def qj.srt{z q:Nat}(o:0<z){l:List α}{a b:Nat}(h:qj lt z a b l){c:Nat}(f:a<=q*z)(aA:c<=(q+1)*z)(e:c<=b):fL lt (q*z) c l:=by intro i j x y hi d p g k;have n:i/z=q:=Nat.div_eq_of_lt_le hi Ω;have m:j/z=q:=Nat.div_eq_of_lt_le Ω Ω;exact h i j x y Ω d Ω Ω g k
def qj.after{z a b bu cf:Nat}{l c:List α}(h:qj lt z a b l)(d:gT a bu l c)(m:a<=bu)(ae:cf<=b):qj lt z bu cf c:=by intro i j x y hi g n k e f;rw[d.out _ (.inr Ω)]at e;rw[d.out _ (.inr Ω)]at f;exact h i j x y Ω g Ω k e f
def Mb(H:fH S n g cm lc cc lt)(G:rU lt)(l:List α)(e:l.length=n):
  bG ar 197 [fx g cm lc cc,.int .i64 n] (S l) fun r aj=>r= .tuple []/\∃b,aj=S b/\gT 0 n l b/\fL lt 0 n b:=by
 have ag:=H.ok l;have N:∀l m,Pv.look (.loc m) (S l).b=none:=fun l=>(H.ok l).obj.1;have hu:∀l m cs,cG (.loc m) cs (S l).b=(S l).b++[(.loc m,cs)]:=fun l m cs=>ku (N l m);have al:∀m,aB.loc m∉di (S l):=kq ag.obj;have hle:=H.le;refine bG.mk mixed a7 Tryz.func197 aof Ψ ag.obj fun aN cP=>?_;unfold Tj;simp[fx,hu,al,cT,N];refine mB (fun(x:Nat×List α)=>⟨[(1,.int .i64 n),(2,.ptr (.loc 0) 0),(4,.int .i64 20),(5,.int .i64 (x.1*20)),(6,.int .i64 (x.1*20+20))],(.loc 0,[.func g lc,.func cm cc])::(S x.2).b,(S x.2).e,1,di (S l)⟩) (fun x=>n+20-x.1*20)
  (fun x=>x.2.length=n/\x.1*20<=n/\gT 0 n l x.2/\qj lt 20 0 (x.1*20) x.2) (0,l)
  (H.weak e e go (by simp[cT,N]) aG aG) ⟨e,Ψ,.refl _,fun i j x y J U f=>by simp at f⟩ ?_
 rintro⟨q,lk⟩ ⟨J,U,f,R⟩ _;simp only at J U f R;simp[Pv.look];((repeat' first|refine ak ?_|simp[Pv.look]|((first|apply bV|apply b0|apply bZ)<;>intro h<;>try simp at h))<;>(try exact cA))
 ·have Q:((q:Int)*20)=(q*20:Nat):=Ω
  have aC:((q:Int)*20+20)=(q*20+20:Nat):=Ω
  simp only[jj H,H.slc,H.ssc,jc,aC];simp only[Q];refine H.doFn J (Vs H G lk J (q*20) (q*20+20) Ω Ω) (fun b h=>by rw[h.1.length];exact J) (by simp[ay,au,H.kdata J]) ?_;rintro b ⟨o,L⟩;have u:b.length=n:=by rw[o.length];exact J
  simp;((repeat' first|refine ak ?_|simp|((first|apply bV|apply b0|apply bZ)<;>intro h<;>try simp at h))<;>(try exact cA));refine bQ.whl (q+1,b) gc ⟨u,by simp;omega,f.trans (o.mono Ω Ω),?_⟩ (H.weakC e u pm);have:=R.snoc Ω o L;rwa[show q*20+20=(q+1)*20 by omega]at this
 ·have Q:((q:Int)*20)=(q*20:Nat):=Ω
  simp only[jj H,H.slc,H.ssc,jc,Q];refine H.doFn J (Vs H G lk J (q*20) n Ω Ω) (fun b h=>by rw[h.1.length];exact J) (by simp[ay,au,H.kdata J]) ?_;rintro b ⟨o,L⟩;have u:b.length=n:=by rw[o.length];exact J
  have ed:=R.snoc Ω o L;simp;refine mB (fun(x:Nat×List α)=>⟨[(1,.int .i64 n),(2,.ptr (.loc 0) 0),(4,.int .i64 x.1)],(.loc 0,[.func g lc,.func cm cc])::(S x.2).b,(S x.2).e,1,di (S l)⟩) (fun x=>1099511627776-x.1)
   (fun x=>x.2.length=n/\20<=x.1/\x.1<=2*n+20/\gT 0 n l x.2/\qj lt x.1 0 n x.2) (20,b)
   (H.weakC e u go) ⟨u,Ψ,Ψ,f.trans (o.mono Ω Ω),ed⟩ ?_
  rintro⟨z,Yg⟩ ⟨F,z2,z3,z4,z5⟩ _;simp only at F z2 z3 z4 z5;simp[Pv.look];((repeat' first|refine ak ?_|simp[Pv.look]|((first|apply bV|apply b0|apply bZ)<;>intro h<;>try simp at h))<;>(try exact cA))
  ·refine mB (fun(x:Nat×List α)=>⟨[(1,.int .i64 n),(2,.ptr (.loc 0) 0),(4,.int .i64 z),(5,.int .i64 (x.1*(2*z):Nat)),(6,.int .i64 (x.1*(2*z)+2*z:Nat))],(.loc 0,[.func g lc,.func cm cc])::(S x.2).b,(S x.2).e,1,di (S l)⟩) (fun x=>n+2*z-x.1*(2*z))
    (fun x=>x.2.length=n/\x.1*(2*z)<=n/\gT 0 n l x.2/\qj lt (2*z) 0 (x.1*(2*z)) x.2/\qj lt z (x.1*(2*z)) n x.2) (0,Yg)
    (H.weakC e F go) ⟨F,Ψ,z4,fun i j x y J U f=>by simp at f,by simpa using z5⟩ ?_
   rintro⟨p,D⟩ ⟨a,Y,E,k,B⟩ _;simp only at a Y E k B;obtain⟨A,bj⟩:∃A,A=p*(2*z):=⟨_,rfl⟩;have zb:A=(2*p)*z:=by rw[bj,Nat.mul_comm 2 p,Nat.mul_assoc]
   have V:(2*p+1)*z=A+z:=by rw[q2,<-zb,Nat.one_mul]
   have P:(2*p+2)*z=A+2*z:=by rw[q2,<-zb]
   have s:(p+1)*(2*z)=A+2*z:=by rw[q2,<-bj,Nat.one_mul]
   have K:∀c,c<=A+z->c<=n->fL lt A c D:=fun c aA W=>by have:=qj.srt (q:=2*p) Ω B (c:=c) (by rw[<-zb,bj];omega) (by rw[V];exact aA) W;rwa[<-zb]at this
   have X:∀c,c<=A+2*z->c<=n->fL lt (A+z) c D:=fun c aA W=>by have:=qj.srt (q:=2*p+1) Ω B (c:=c) (by rw[V,bj];omega) (by rw[P];exact aA) W;rwa[V]at this
   rw[<-bj]at Y k B;simp only[<-bj];simp[Pv.look];((repeat' first|refine ak ?_|simp[Pv.look]|((first|apply bV|apply b0|apply bZ)<;>intro h<;>try simp at h))<;>(try exact cA))
   ·have M:((A:Int)+z)=(A+z:Nat):=Ω
    have cY:((A:Int)+2*z)=(A+2*z:Nat):=Ω
    simp only[jj H,H.slc,H.ssc,jc,M,cY];refine H.doFn a (VA H G (A+2*z-A) D A (A+z) (A+2*z) a Ω Ω Ω Ω (K _ Ω Ω) (X _ Ω Ω)) (fun b h=>by rw[h.1.length];exact a) (by simp[ay,au,H.kdata a]) ?_;rintro w ⟨d,t⟩;have v:w.length=n:=by rw[d.length];exact a
    simp;(repeat' first|refine ak ?_|simp);refine bQ.whl (p+1,w) (by simp only[s,<-bj];omega) ⟨v,by simp only[s];omega,E.trans (d.mono Ω Ω),?_,?_⟩ ?_
    ·simp only[s];rw[bj]at k d t;have:=k.snoc Ω d t;rwa[<-bj]at this
    ·simp only[s];exact B.after d Ω Ω
    ·simp only[s];have O:((p:Int)+1)*(2*(z:Int))=(A:Int)+2*z:=by have h:=eG (Nat.cast:Nat->Int) s;push_cast at h;exact h
     exact H.weakC e v (by simp[au,O])
   ·have M:((A:Int)+z)=(A+z:Nat):=Ω
    simp only[jj H,H.slc,H.ssc,jc,M];refine H.doFn a (VA H G (n-A) D A (A+z) n a Ω Ω Ω Ω (K _ Ω Ω) (X _ Ω Ω)) (fun b h=>by rw[h.1.length];exact a) (by simp[ay,au,H.kdata a]) ?_;rintro w ⟨d,t⟩;have v:w.length=n:=by rw[d.length];exact a
    simp;((repeat' first|refine ak ?_|simp|((first|apply bV|apply b0|apply bZ)<;>intro h<;>try simp at h))<;>(try exact cA));refine bQ.whl (2*z,w) gc ⟨v,by simp;omega,by simp;omega,E.trans (d.mono Ω Ω),?_⟩ (H.weakC e v pm);rw[bj]at k d t;exact k.snoc Ω d t
   ·refine bQ.whl (2*z,D) gc ⟨a,by simp;omega,by simp;omega,E,?_⟩ (H.weakC e a pm);have Z:=K n Ω Ω;rw[bj]at k Z;exact k.snoc Ω (.refl _) Z
  ·refine H.ret e F (.inr rfl) ?_;refine⟨rfl,Yg,rfl,z4,fun i j x y J U f=>z5 i j x y J U f ?_⟩;rw[Nat.div_eq_of_lt Ω,Nat.div_eq_of_lt Ω]
end
section
open Go Go.Pv Go.Sort Go.RowKit
def akn{w:World}{base:Nat}{e:fF}{sz:Nat}{v:Value}{n:Nat}{us:List Value}(h:w.ownsRow base e sz v n us)(l:v≠ .slice none 0 0):
  ∃g cap,v= .slice (some ⟨g,0,none⟩) n cap/\g<w.heap.size/\cap<=maxLen/\n<=cap/\us.length=n*sz/\Holds id w g 0 us.toArray:=by
 rcases h.2 with⟨d,_⟩|⟨g,cap,cur,rfl,ae,a1,i,hm,o,aM⟩
 ·exact absurd d l
 ·have f:g<w.heap.size:=by
   rcases Nat.lt_or_ge g w.heap.size with a|a
   ·exact a
   ·rw[Array.getElem?_eq_none a]at a1;cases a1
  refine⟨g,cap,rfl,f,hm,i,h.1,fun j k=>?_⟩;have b:j<us.length:=by simpa using k
  have m:=h.1;refine⟨?_,by simp[World.frozen?,a1]⟩;have c:(cur.toList.take (n*sz))[j]? =us[j]?:=by rw[aM]
  rw[List.getElem?_take,if_pos Ω,uh,cl b]at c;simp only[World.cell?,a1,Nat.zero_add];simp only[ny,hI,if_false];rw[c];simp[getElem!_pos,b]
def aoW{w:World}{base:Nat}{e:fF}{sz g n cap q:Nat}{us:List Value}{F:Array Value}(h:w.ownsRow base e sz (.slice (some ⟨g,0,none⟩) n cap) n us)(k:F.size=n*sz):
  (putRow id (Sort.ahead w q) g 0 F).ownsRow base e sz (.slice (some ⟨g,0,none⟩) n cap) n F.toList:=by
 rcases h.2 with⟨b,_⟩|⟨o,m,cur,b,ae,a1,d,hm,f,aM⟩
 ·cases b
 ·injection b with a _ l;injection a with a;injection a with a;subst a;subst l;refine⟨by simpa using k,.inr ⟨g,cap,putCells id 0 F cur,rfl,ae,?_,d,hm,by simpa[putCells]using f,?_⟩⟩
  ·simp[putRow,mapBlock,Sort.ahead,Array.getElem?_modify,a1,onCells]
  ·have hle:n*sz<=cur.size:=by rw[f];exact Nat.mul_le_mul_right _ d
   apply List.ext_getElem?;intro j;rw[List.getElem?_take,uh,uh];by_cases i:j<n*sz
   ·have c:j<cur.size:=Ω
    simp only[if_pos i,putCells,Array.getElem?_mapIdx,Array.getElem?_eq_getElem c,nz];rw[if_pos Ω];simp[getElem!_pos,show j<F.size by omega]
   ·simp[i];omega
end
end Go.Proofs.YtfeencekjcjalaaGreatDoor
namespace Go.Pv
section
open Go Go.RowKit Go.Lib Go.Sort Go.Proofs.YtfeencekjcjalaaGreatDoor
def XJ{S:aB->Prop}:∀{l:List ah},ay S l↔∀x∈l,au S x
 |[]=>by simp[ay]
 |x::r=>by simp only[ay,XJ (l:=r),gj,forall_eq_or_imp]
def XB{α:Type}{s:cS}{l:List (aB×α)}:ho s l↔∀k,(look k l).isSome->inObs s k:=by
 refine⟨fun h k c=>B4 h k c,fun h=>?_⟩;have:∀a:List (aB×α),(∀x∈a,inObs s x.1)->ho s a:=by
  intro a;induction a with
  |nil=>intro _;trivial
  |cons x r b=>obtain⟨k,x⟩:=x;exact fun h=>⟨h (k,x) Ψ,b fun y e=>h y (by simp[e])⟩
 exact this l fun x d=>h x.1 (wA (x:=x.2) d)
def Pr{w:World}{Z:a8}{sz:Nat}:∀{xs:List ah} {us:List Value} {i:Nat} {p:ah},dk w Z sz xs us->xs[i]? =some p->∃u,(us.drop (i*sz)).take sz=u.cells.toList/\aV w Z p u/\u.cells.size=sz/\∀c∈u.cells.toList,c.oneCell'=true
 |[],_,_,_,_,a=>by simp at a
 |x::xs,us,0,p,h,a=>by simp only[dk]at h;obtain⟨u,d,rfl,⟨J,U,b⟩,_⟩:=h;simp at a;subst a;refine⟨u,?_,J,U,b⟩;simp only[Nat.zero_mul,List.drop_zero];rw[List.take_append_of_le_length (by simp[U])];exact gv (by simp[U])
 |x::xs,us,i+1,p,h,a=>by simp only[dk]at h;obtain⟨u,d,rfl,⟨J,U,b⟩,e⟩:=h;obtain⟨v,f,g⟩:=Pr (i:=i) e (by simpa using a);refine⟨v,?_,g⟩;rw[<-f,Nat.succ_mul,Nat.add_comm,<-List.drop_drop];congr 2;rw[List.drop_append_of_le_length (by simp[U]),List.drop_of_length_le (by simp[U])];rfl
def PO:∀(bf:List Value) (s:Nat) (F:Array Value),s+bf.length<=F.size->(setMany F s bf).toList=F.toList.take s++bf++F.toList.drop (s+bf.length)
 |[],s,F,h=>by simp[setMany]
 |v::r,s,F,h=>by
  simp only[ik]at h;rw[setMany,PO r (s+1) _ gc];have b:s<F.toList.length:=by simp;omega
  have c:(F.setIfInBounds s v).toList=F.toList.set s v:=Ψ
  rw[c];have d:(F.toList.set s v).take (s+1)=F.toList.take s++[v]:=by rw[pC,List.getElem?_set_self b,List.take_set_of_le (e2 _)];simp
  have a:(F.toList.set s v).drop (s+1+r.length)=F.toList.drop (s+(v::r).length):=by rw[List.drop_set_of_lt Ω];congr 1;simp;omega
  rw[d,a];simp
def ac1(w:World):Sort.ahead w 0=w:=by simp[Sort.ahead]
def Vz{P:cE}(M:Bool)(cm:Nat)(ab:∀args W,(callFunc cm args).run P W=((Gp M args).run P W).andThen fun v w'=>.ok (.value v) w')(e:fF)(a:TypeInfo)(uM:P.info? e=some a)(G:(∀w,(Go.isAgg e).run P w= .ok true w)\/(a.size=1/\∀w,(Go.isAgg e).run P w= .ok false w)){s:cS}(B:ea s){K n el sz:Nat}(dS:a.size=sz){xs:List ah}(D:look (.obj K) s.e=some ⟨n,el,sz,some xs⟩)
  (i j:Nat) (hi:i<n) (af:j<n):bG P cm [.int .i64 i,.int .i64 j,.row sz (.obj K) n,.cst (typeHandle P e)] s fun r aj=>r= .tuple []/\aj=⟨s.b,cG (.obj K) ⟨n,el,sz,some (hR xs i j)⟩ s.e⟩:=by
 subst dS;refine bG.sem B.obj fun w Z bf _ ju E=>?_;right;have s0:=E.slot 0;have s1:=E.slot 1;have s2:=E.slot 2;have s3:=E.slot 3;simp[j7,get,aV]at s0 s1 s2 s3;obtain⟨v,us,be,bC,bY,c8⟩:=E.good.own (.obj K) _ D;obtain⟨df,Q,sw⟩:=c8 _ rfl;simp only at df Q be bC;obtain⟨⟨g0,Li,xC⟩,_,n',fl,ai,aC,bo⟩:=s2;rw[be]at ai;simp only[dz,hW]at ai;obtain⟨rfl,rfl⟩:=ai;have b:=bo rfl;have cL:v≠ .slice none 0 0:=by rw[<-b,xC];simp
 obtain⟨g,cap,rfl,pW,tp,ajL,X,D0⟩:=akn bC cL;have akN:bf= #[.int .i64 i,.int .i64 j,.slice (some ⟨g,0,none⟩) n cap,typeHandle P e]:=by
  have J:bf.size=4:=by simpa using ju
  apply Array.ext (by simpa using J);intro t U aq;simp at aq;rcases(by omega:t=0\/t=1\/t=2\/t=3)with rfl|rfl|rfl|rfl
  ·simpa[Array.getD,J]using s0
  ·simpa[Array.getD,J]using s1
  ·simpa[Array.getD,J]using b
  ·simpa[Array.getD,J]using s3
 subst akN;obtain⟨p,bM⟩:∃p,xs[i]? =some p:=⟨_,cl Ω⟩;obtain⟨q,bA⟩:∃q,xs[j]? =some q:=⟨_,cl Ω⟩;obtain⟨u,L,jy,y,Y⟩:=Pr Q bM;obtain⟨x,H,AG,l,R⟩:=Pr Q bA;have Wu:i*a.size+a.size<=n*a.size:=by have:=Nat.mul_le_mul_right a.size (show i+1<=n from hi);rwa[q2,Nat.one_mul]at this
 have Wv:j*a.size+a.size<=n*a.size:=by have:=Nat.mul_le_mul_right a.size (show j+1<=n from af);rwa[q2,Nat.one_mul]at this
 have cell:∀t v,us[t]? =some v->w.cell? ⟨g,t,none⟩=some v:=fun t v aM=>by obtain⟨J,U⟩:=fp.1 aM;have:=(D0 t (by simpa using J)).1;simp at this;rw[this];simp[getElem!_pos,J,U]
 have S:∀t,t<n*a.size->w.frozen? ⟨g,t,none⟩=false:=fun t aM=>by have:=(D0 t (by simpa[X]using aM)).2;simpa using this
 have run:(Gp M #[.int .i64 i,.int .i64 j,.slice (some ⟨g,0,none⟩) n cap,typeHandle P e]).run P w= .ok (.tuple #[]) ((w.setCells g (0+i*a.size) x.cells.toList).setCells g (0+j*a.size) u.cells.toList):=by
  rcases G with G|⟨N,G⟩
  ·exact run_swap_cells (P:=P) M e a uM G g 0 n cap i j hi af u.cells.toList x.cells.toList (by simp[y]) (by simp[l]) Y R w
     (fun k v b=>by
      rw[<-L,List.getElem?_take]at b;split at b
      ·rw[List.getElem?_drop]at b;simpa using cell _ _ b
      ·cases b)
     (fun k v b=>by
      rw[<-H,List.getElem?_take]at b;split at b
      ·rw[List.getElem?_drop]at b;simpa using cell _ _ b
      ·cases b)
     (fun k D=>by simpa using S (i*a.size+k) Ω) (fun k D=>by simpa using S (j*a.size+k) Ω)
  ·rw[N]at L y H l⊢;obtain⟨V,Ms⟩:∃c,u.cells.toList=[c]:=List.length_eq_one_iff.1 (by simpa using y);obtain⟨O,mF⟩:∃c,x.cells.toList=[c]:=List.length_eq_one_iff.1 (by simpa using l);rw[Ms]at L Y⊢;rw[mF]at H R⊢;simp only[World.setCells,Nat.mul_one]at L H⊢;have VD:us[i]? =some V:=by have:=eG (·[0]?) L;simpa using this
   have VF:us[j]? =some O:=by have:=eG (·[0]?) H;simpa using this
   have:=run_swap_one (P:=P) M e a uM N G g 0 n cap i j hi af V O (Y V Ψ) (R O Ψ) w (by simpa using cell i V VD) (by simpa using cell j O VF) (by simpa using S i (by rw[N];omega)) (by simpa using S j (by rw[N];omega));simpa using this
 have Nc:putRow id w g 0 us.toArray=w:=putRow_self id w g 0 _ D0;have akG:us.toArray.size=n*a.size:=by simpa using X
 have H7:w.setCells g (0+i*a.size) x.cells.toList=putRow id w g 0 (setMany us.toArray (i*a.size) x.cells.toList):=by have J:=setCells_putRow w g 0 x.cells.toList (i*a.size) us.toArray (by simp[l,X];exact Wu);rw[Nc]at J;exact J
 obtain⟨d,l5⟩:∃d,d=setMany us.toArray (i*a.size) x.cells.toList:=⟨_,rfl⟩;have ajh:d.toList=us.take (i*a.size)++x.cells.toList++us.drop (i*a.size+a.size):=by rw[l5,PO _ _ _ (by simp[l,X];exact Wu)];simp[l]
 have Ml:d.size=n*a.size:=by rw[l5,size_setMany];exact akG
 have nk:(w.setCells g (0+i*a.size) x.cells.toList).setCells g (0+j*a.size) u.cells.toList=putRow id w g 0 (setMany d (j*a.size) u.cells.toList):=by rw[H7,<-l5,setCells_putRow w g 0 u.cells.toList (j*a.size) d (by simp[y,Ml];exact Wv)]
 obtain⟨f,DZ⟩:∃f,f=setMany d (j*a.size) u.cells.toList:=⟨_,rfl⟩;have aji:f.toList=d.toList.take (j*a.size)++u.cells.toList++d.toList.drop (j*a.size+a.size):=by rw[DZ,PO _ _ _ (by simp[y,Ml];exact Wv)];simp[y]
 have ajj:f.size=n*a.size:=by rw[DZ,size_setMany];exact Ml
 have dN:=JB Q bM AG l R;rw[<-ajh]at dN;have ff:=JB (i:=j) (q:=q) dN (by rw[List.getElem?_set];split;(rename_i e;subst e;rw[if_pos Ω]);exact bA) jy y Y;rw[<-aji]at ff;have ED:(xs.set i q).set j p=hR xs i j:=by simp[hR,bM,bA]
 rw[ED]at ff;have hlen:(hR xs i j).length=n:=by simpa using df
 have kn:=aoW (q:=0) (F:=f) bC ajj;rw[ac1]at kn;obtain⟨lI,qf,_⟩:=E.setRowM (w':=putRow id w g 0 f) D rfl be (bl:=g) rfl (v':= .slice (some ⟨g,0,none⟩) n cap) rfl (xs':=hR xs i j) (us:=f.toList) (.inl ⟨hlen,rfl⟩) rfl rfl rfl
  (fun t aM=>by simp[putRow,mapBlock,Array.getElem?_modify,lb aM]) (by simp[putRow,mapBlock]) (by rw[hlen];exact kn) ff
 refine⟨.tuple #[],putRow id w g 0 f,?_,?_⟩
 ·rw[ab,run,nk,<-DZ];rfl
 ·have A:∀k,inObs ⟨s.b,cG (.obj K) ⟨n,el,a.size,some (hR xs i j)⟩ s.e⟩ k↔inObs s k:=fun k=>by
   unfold inObs;simp only[jL];by_cases dc:aB.obj K=k
   ·subst dc;simp[D]
   ·simp[dc]
  refine⟨_,_,_,_,.tuple [],⟨s.b,cG (.obj K) ⟨n,el,a.size,some (hR xs i j)⟩ s.e⟩,rfl,lI,by simp[aV,cN],XB.2 fun k hN=>(A k).2 (.inl hN),XB.2 fun k hN=>(A k).2 (.inr hN),fun k cs aA=>⟨aA,(A k).2 (.inl (by simp at aA;simp[aA])),kH (fun k h=>(A k).2 h) _ (B.kb k cs aA)⟩,fun k o al=>⟨by simpa[hlen]using al,?_,fun ys aO=>?_⟩,⟨B.obj.1,fun m=>?_⟩,by simp[au,ay],rfl,rfl⟩
  ·exact(.inr (by simp at al;simp[al]))
  ·simp only[jL]at al;split at al
   ·cases al;simp only[dz]at aO;subst aO;have Wo:=B.ke _ _ D xs rfl;refine kH (fun k h=>(A k).2 h) _ ?_;rw[XJ]at Wo⊢;exact fun z bI=>Wo z ((Yf xs i j).mem_iff.1 bI)
   ·exact kH (fun k h=>(A k).2 h) _ (B.ke k o al ys aO)
  ·simp only[jL];simp[B.obj.2 m]
def Vy{P:cE}(b:Bool)(cm:Nat)(m:∀args W,(callFunc cm args).run P W=((Gp b args).run P W).andThen fun v w'=>.ok (.value v) w')(e:fF)(a:TypeInfo)(d:P.info? e=some a)(c:∀w,(Go.isAgg e).run P w= .ok true w){s:cS}(h:ea s){K n el sz:Nat}(f:a.size=sz){xs:List ah}(l:look (.obj K) s.e=some ⟨n,el,sz,some xs⟩)
  (i j:Nat) (hi:i<n) (k:j<n):bG P cm [.int .i64 i,.int .i64 j,.row sz (.obj K) n,.cst (typeHandle P e)] s fun r g=>r= .tuple []/\g=⟨s.b,cG (.obj K) ⟨n,el,sz,some (hR xs i j)⟩ s.e⟩:=Vz b cm m e a d (.inl c) h f l i j hi k
end
end Go.Pv
namespace Go.Proofs.YtfeencekjcjalaaGreatDoor
section
open Go Go.RowKit Go.Lib Go.Sort Go.Pv
set_option maxRecDepth 100000 in
def aqV(t e:fF)(i eX:TypeInfo)(hi:ar.info? t=some i)(aQ:i.desc= .slice e)(Ew:ar.packed t=false)(uM:ar.info? e=some eX)(ke:Nat)(wa:∀w,(acp e).run ar w= .ok ke w)
  (p:aZ Addr) (n c:Nat) (av:n<4611686018427387904) (f:Nat) (aH:ar.funcs.findIdx? (·.name== "internal/reflectlite" ++ ".Swapper$" ++toString (swapperK n eX ke))=some f) (Yb:Fn) (E2 sr:Array Value) (w:World) (R:World->Prop)
  (bM:Calls ar 197 #[.agg #[.func Yb E2 sr,.func (.func f) #[] (sliceBound ar e eX ke p n c)],.int .i64 n] ((w.alloc (.cells #[.slice p n c] t)).alloc (.cells #[typeHandle ar t,.pointer (some ⟨w.heap.size,0,none⟩),.int .u64 151] 200)) fun e w'=>e= .returned (.tuple #[])/\R w'):
  Calls ar 171 #[.iface t (.slice p n c),.func Yb E2 sr] w fun e w'=>e= .returned (.tuple #[])/\R w':=by
 have aL:=run_valueOf_slice (P:=ar) t e i hi aQ p n c w;have ag:=fun w=>run_swapper_slice (P:=ar) t e i eX hi aQ uM ke wa p n c f aH w;have ao:=fun a w bD=>run_valueLen_slice (P:=ar) t e i hi aQ Ew a p n c w bD;unfold sliceBound at bM;generalize (if swapperK n eX ke<=2 then(#[]:Array Value)else #[.slice p n c,typeHandle ar e])=B at ag bM;have ajO:ar.globals.size=3:=an
 simp only[typeHandle,ajO]at aL ao bM;have Hd:∀args w,(callFunc 197 args).run ar w= .ok (.enter 197 args) w:=enters_of Tryz.func197 an rfl;go_enter Tryz.func171,Tryz.ntmps171;go_wp2;rw[run_callFunc_extern Tryz.func195 an an an (e:=fun args=>atI (args.getD 0 (.tuple #[]))) an,
  show Sem.run ar ((fun args:Array Value=>atI (args.getD 0 (.tuple #[]))) #[.iface t (.slice p n c)]) w=_ from aL]
 simp only[Result.andThen];rw[Oper.upon_value];go_wp2;rw[run_callFunc_extern Tryz.func196 an an an (e:=ayh "internal/reflectlite" (atJ "Swapper")) an,ag];simp only[Result.andThen];rw[Oper.upon_value];go_wp2;rw[run_callFunc_extern Tryz.func198 an an an (e:=ayj (atJ "reflectlite.Value.Len" 0) ayi) an,
  ao _ _ Ψ]
 simp only[Result.andThen];rw[Oper.upon_value];go_wp2_with (go_at_fn 197;refine bM.mono ?_;rintro e w' ⟨rfl,bg⟩);go_end0;exact⟨rfl,bg⟩
def _root_.Go.Pv.Good.prMono{pr d:Nat->Prop}{w:World}{Z:a8}{b:List (aB×List ah)}{e:List (aB×er)}(h:Pv.Good pr w Z b e)(a:∀bl,pr bl->gh Z ⟨b,e⟩ bl->d bl):Pv.Good d w Z b e:=by
 refine⟨h.alt,fun k cs c=>?_,h.inj,fun g o a1=>?_,h.oinj,h.obx,h.one,h.otr⟩
 ·obtain⟨bl,us,el,f1,f2,f3⟩:=h.box k cs c;exact⟨bl,us,el,f1,a bl f2 (.inl ⟨k,by simp[c],f1⟩),f3⟩
 ·obtain⟨v,us,f1,f2,f3,f4⟩:=h.own g o a1;exact⟨v,us,f1,f2,fun bl ae=>⟨a bl (f3 bl ae).1 (.inr ⟨g,o.n,v,by simp[a1],f1,ae⟩),(f3 bl ae).2⟩,f4⟩
def VH(w:World)(a b:Obj):w.grownBy ((w.alloc a).alloc b) none:=by
 have J:w.heap.size<=(w.alloc a).heap.size:=Ψ
 have U:(w.alloc a).heap.size<=((w.alloc a).alloc b).heap.size:=Ψ
 exact⟨rfl,rfl,rfl,j1 J U,fun k c _=>(Below.heap_alloc _ b k (Nat.lt_of_lt_of_le c J)).trans (Below.heap_alloc w a k c)⟩
def ey{α:Type}(e:α->ah)(K B el sz:Nat)(l:List α):cS:=⟨[(.obj B,[.row sz (.obj K) l.length])],[(.obj K,⟨l.length,el,sz,some (l.map e)⟩)]⟩
section
variable {α:Type} {e:α->ah} (he:∀S x,au S (e x)) {K B el sz:Nat}
include he
theorem alB(S:aB->Prop)(l:List α):ay S (l.map e):=by
 induction l with
 |nil=>simp[ay]
 |cons x r a=>simp only[fG,ay];exact⟨he S x,a⟩
theorem yG(l:List α):ea (ey e K B el sz l):=by unfold ey;refine ea.of ⟨by intro m;simp[Pv.look],by intro m;simp[Pv.look]⟩ g8 ?_;intro x b xs a;simp at b;subst b;simp at a;subst a;exact alB he _ l
omit he in
theorem yH(l a:List α):Same (ey e K B el sz l) (ey e K B el sz a):=by
 refine⟨fun k=>?_,fun k=>?_⟩
 ·simp only[ey,Pv.look];split<;>rfl
 ·simp only[ey,Pv.look];split<;>rfl
theorem aio(t:fF)(i eX:TypeInfo)(hi:ar.info? t=some i)(aQ:i.desc= .slice el)(Ew:ar.packed t=false)(uM:ar.info? el=some eX)(ke:Nat)(wa:∀w,(acp el).run ar w= .ok ke w)(uG:∀n,2<=n->swapperK n eX ke=9)
  (g:Nat) (Ec:g<1000000) (lt:α->α->Bool) (bN:rU lt) (l:List α) (ao:l.length<=68719476736)
  (zu:∀bc:List α,bc.length=l.length->∀(i j:Nat) x y,bc[i]? =some x->bc[j]? =some y->bG ar g [.int .i64 i,.int .i64 j,.ptr (.obj B) 0] (ey e K B el sz bc) fun r aj=>r= .bool (lt x y)/\aj=ey e K B el sz bc)
  (BS:∀bc:List α,bc.length=l.length->∀i j:Nat,i<l.length->j<l.length->bG ar 223 [.int .i64 i,.int .i64 j,.row sz (.obj K) l.length,.cst (typeHandle ar el)] (ey e K B el sz bc) fun r aj=>r= .tuple []/\aj=ey e K B el sz (hR bc i j)):
  bG ar 171 [.iface t (.row sz (.obj K) l.length),.func g [.ptr (.obj B) 0]] (ey e K B el sz l) fun r aj=>r= .tuple []/\∃bc,aj=ey e K B el sz bc/\bc.Perm l/\bc.Pairwise fun x y=>lt y x=false:=by
 have zj:ar.funcs.findIdx? (·.name== "internal/reflectlite" ++ ".Swapper$" ++toString 1)=some 215:=an
 have qB:ar.funcs.findIdx? (·.name== "internal/reflectlite" ++ ".Swapper$" ++toString 2)=some 216:=an
 have Mz:ar.funcs.findIdx? (·.name== "internal/reflectlite" ++ ".Swapper$" ++toString 9)=some 223:=an
 have M4:∃f cc,f<1000000/\ar.funcs.findIdx? (·.name== "internal/reflectlite" ++ ".Swapper$" ++toString (swapperK l.length eX ke))=some f/\(cc=(if swapperK l.length eX ke<=2 then []else [ah.row sz (.obj K) l.length,.cst (typeHandle ar el)]))/\
   bG ar 197 [fx g f [.ptr (.obj B) 0] cc,.int .i64 l.length] (ey e K B el sz l) fun r aj=>r= .tuple []/\∃bc,aj=ey e K B el sz bc/\gT 0 l.length l bc/\fL lt 0 l.length bc:=by
  have eM:=fun bc=>yG (K:=K) (B:=B) (el:=el) (sz:=sz) he bc;rcases(by omega:l.length=0\/l.length=1\/2<=l.length)with bm|J|U
  ·refine⟨215,[],by decide,by rw[bm];exact zj,by rw[bm];rfl,Mb (lt:=lt) ⟨eM,fun gp fk _ _=>yH gp fk,fun bc _=>by simp[ay,au,inObs,ey,Pv.look],fun bc _=>by simp[ay],by simp[de,cR],rfl,ao,fun bc h=>zu bc h,fun bc _ U i j hi=>Ω⟩ bN l rfl⟩
  ·refine⟨216,[],by decide,by rw[J];exact qB,by rw[J];rfl,Mb (lt:=lt) ⟨eM,fun gp fk _ _=>yH gp fk,fun bc _=>by simp[ay,au,inObs,ey,Pv.look],fun bc _=>by simp[ay],by simp[de,cR],rfl,ao,fun bc h=>zu bc h,fun bc _ U i j hi af=>Ω⟩ bN l rfl⟩
  ·refine⟨223,_,by decide,by rw[uG _ U];exact Mz,rfl,?_⟩;rw[uG _ U];simp only[show¬((9:Nat)<=2)from by decide,if_false];exact Mb (lt:=lt) ⟨eM,fun gp fk _ _=>yH gp fk,fun bc _=>by simp[ay,au,inObs,ey,Pv.look],fun bc _=>by simp[ay,au,inObs,ey,Pv.look],by simp[de,cR],by simp[de,cR],ao,fun bc h=>zu bc h,fun bc h _ i j hi af=>BS bc h i j hi af⟩ bN l rfl
 obtain⟨f,cc,vX,aH,M0,dd⟩:=M4;intro w Z bf ri a1 ab aD;have oA:=cZ.start ri (yG he l).obj a1 ab aD;have MW:=aD;simp only[cN,aV]at aD;obtain⟨v0,vs1,BU,⟨u,rfl,⟨b,cap,rfl⟩,eK,n',fl,ai,aC,bo⟩,v1,vs2,hv1,⟨sr,qH,pY⟩,rfl⟩:=aD;rw[y3 Ec]at qH;subst qH;have ju:bf= #[.iface t (.slice (some ⟨b,0,none⟩) l.length cap),.func (.func g) #[] sr]:=by apply Array.ext';rw[BU,hv1]
 subst ju;have qC:∃fn,ar.funcs[(171:Nat)]? =some fn/\fn.body.isSome=true/\(fn.name== "runtime.NumGoroutine")=false:=⟨_,Tryz.func171,by kernel_rfl,by kernel_rfl⟩;refine .inl ⟨qC,?_⟩;obtain⟨dB,nk⟩:∃dB,dB=(w.alloc (.cells #[.slice (some ⟨b,0,none⟩) l.length cap] t)).alloc (.cells #[typeHandle ar t,.pointer (some ⟨w.heap.size,0,none⟩),.int .u64 151] 200):=⟨_,rfl⟩;have je:w.grownBy dB none:=by rw[nk];exact VH _ _ _
 have MX:=oA.grown je;have km:l1 w Z dB Z:=⟨fun b o bj=>⟨bj,G3 je (a1.alt b o bj)⟩,fun _ _ _ h=>h,fun _ n u _ h=>⟨n,u,h,.inl ⟨rfl,rfl⟩⟩,fun b o bj=>wX (je.block b (a1.alt b o bj) Ψ),fun _ _ _ _ h=>h⟩;have tp:Pv.Good (gh Z (ey e K B el sz l)) dB Z (ey e K B el sz l).b (ey e K B el sz l).e:=MX.good.prMono fun bl _ h=>h;have l9:=JG km MW;simp only[cN]at l9;obtain⟨a0,adh,uH,Ey,bL,adi,kh,akv,rfl⟩:=l9;simp at uH;obtain⟨rfl,rfl⟩:=uH;simp at kh;subst kh;have qG:aV dB Z (.row sz (.obj K) l.length) (.slice (some ⟨b,0,none⟩) l.length cap):=by simp only[aV]at Ey;obtain⟨u,hu,h⟩:=Ey;simp at hu;obtain⟨_,rfl⟩:=hu;simp only[aV];exact h
 have si:cN dB Z cc (sliceBound ar el eX ke (some ⟨b,0,none⟩) l.length cap).toList:=by
  unfold sliceBound;rw[M0];split
  ·simp[cN]
  ·simp only[cN];exact⟨_,_,rfl,qG,_,_,rfl,by simp[aV],rfl⟩
 have j3:cN dB Z [fx g f [.ptr (.obj B) 0] cc,.int .i64 l.length] (#[.agg #[.func (.func g) #[] sr,.func (.func f) #[] (sliceBound ar el eX ke (some ⟨b,0,none⟩) l.length cap)],.int .i64 l.length]:Array Value).toList:=by simp only[cN,fx];refine⟨_,_,rfl,?_,_,_,rfl,by simp[aV],rfl⟩;simp only[aV,c1];exact⟨_,rfl,_,_,rfl,⟨⟨sr,(y3 Ec _).symm,JG km pY⟩,rfl⟩,_,_,rfl,⟨⟨_,(y3 vX _).symm,si⟩,rfl⟩,rfl⟩
 have Ee:n7 dB Z:=fun x ab=>⟨(ri x ab).1,(ri x ab).2.1.imp fun _ aL=>⟨(km.A _ _ (ri x ab).1).2.trans aL.1,aL.2⟩,(ri x ab).2.2.imp fun _ aL=>(km.sh _ _ (ri x ab).1).trans aL⟩;have Mv:=dd dB Z _ Ee tp ab j3;have Hd:∀args w,(callFunc 197 args).run ar w= .ok (.enter 197 args) w:=enters_of Tryz.func197 an rfl;rcases Mv with⟨_,aA⟩|⟨v,w',aA,_⟩
 ·have ML:=aqV t el i eX hi aQ Ew uM ke wa (some ⟨b,0,none⟩) l.length cap Ω f aH (.func g) #[] sr w
   (fun w'=> ∃aj Z',(∃bc,aj=ey e K B el sz bc/\gT 0 l.length l bc/\fL lt 0 l.length bc)/\Pv.Good (fun bl=>gh Z (ey e K B el sz l) bl\/dB.heap.size<=bl) w' Z' aj.b aj.e/\qx Z' aj/\jv aj/\ql ⟨dB,Z,gh Z (ey e K B el sz l),0,di (ey e K B el sz l),Ee,[]⟩ w' Z') (by
    rw[<-nk];refine aA.mono ?_;rintro e w' ⟨v,r,aj,Z',rfl,⟨rfl,bA⟩,xS,a6,b2,dq,eh⟩;simp only[aV,cN]at xS;obtain⟨us,rfl,pd⟩:=xS;have:us= #[]:=by apply Array.ext';simpa using pd
    subst this;exact⟨rfl,aj,Z',bA,a6,b2,dq,eh⟩)
  refine ML.mono ?_;rintro e w' ⟨rfl,aj,Z',⟨bc,rfl,H6,BR⟩,a6,b2,dq,eh⟩;refine⟨.tuple #[],.tuple [],_,Z',rfl,⟨rfl,bc,rfl,H6.perm,?_⟩,by simp[aV,cN],a6.prMono fun bl h _=>?_,b2,dq,⟨eh.os.trans je.os,eh.tape.trans je.tape,eh.output.trans je.output,j1 je.size eh.size,fun k ad hm=>?_,fun b o bj=>?_,fun b o bj=>?_,eh.obj,eh.obn,eh.row,eh.obr,eh.trd,fun k j b ae=>⟨(eh.trb k j b ae).1.imp id (fun h=>j1 je.size h),(eh.trb k j b ae).2⟩,eh.trn,fun b o bj=>(eh.sh b o bj).trans (km.sh b o bj),fun j n u b ai aC=>j1 je.size (eh.nrow j n u b ai aC)⟩⟩
  ·have zv:=H6.length;rw[<-zv]at BR;exact BR.pairwise
  ·rcases h with h|h
   ·exact .inl h
   ·exact .inr (j1 je.size h)
  ·rw[eh.block k (Nat.lt_of_lt_of_le ad je.size) hm];exact je.block k ad Ψ
  ·obtain⟨ba,bJ⟩:=eh.keep b o bj;exact⟨ba,bJ.trans (km.A b o bj).2⟩
  ·rcases eh.fresh b o bj with h|h|h
   ·exact .inl h
   ·exact .inr (.inl h)
   ·exact .inr (.inr (j1 je.size h))
 ·rw[Hd]at aA;cases aA
end
end
end Go.Proofs.YtfeencekjcjalaaGreatDoor
namespace Go.Proofs
section
open Go.Shelf
def Tryz.lays6_ren:Go.Shelf.Ren:=⟨fun|6=>185|10=>195|11=>196|12=>198|13=>207|14=>208|24=>233|25=>227|26=>224|27=>234|28=>235|29=>236|30=>237|31=>238|32=>239|33=>240|34=>249|35=>250|36=>251|37=>252|38=>253|39=>256|n=>n,fun|20=>20|26=>188|35=>200|0=>0|37=>202|3=>3|41=>178|44=>206|49=>231|51=>211|4=>4|54=>236|53=>235|58=>222|5=>5|9=>9|60=>242|64=>246|66=>250|67=>251|17=>17|32=>197|33=>198|82=>277|12=>12|75=>271|76=>272|77=>273|78=>173|79=>274|80=>275|n=>n,fun|n=>n⟩
def Tryz.lays6:Go.Proofs.LaysGg.n6 ar Tryz.lays6_ren:={
 mixed:=an
 f6:=Tryz.func185.trans (eG some an)
 f10:=Tryz.func195.trans (eG some an)
 f11:=Tryz.func196.trans (eG some an)
 f12:=Tryz.func198.trans (eG some an)
 f13:=Tryz.func207.trans (eG some an)
 f14:=Tryz.func208.trans (eG some an)
 f24:=Tryz.func233.trans (eG some an)
 f25:=Tryz.func227.trans (eG some an)
 f26:=Tryz.func224.trans (eG some an)
 f27:=Tryz.func234.trans (eG some an)
 f28:=Tryz.func235.trans (eG some an)
 f29:=Tryz.func236.trans (eG some an)
 f30:=Tryz.func237.trans (eG some an)
 f31:=Tryz.func238.trans (eG some an)
 f32:=Tryz.func239.trans (eG some an)
 f33:=Tryz.func240.trans (eG some an)
 f34:=Tryz.func249.trans (eG some an)
 f35:=Tryz.func250.trans (eG some an)
 f36:=Tryz.func251.trans (eG some an)
 f37:=Tryz.func252.trans (eG some an)
 f38:=Tryz.func253.trans (eG some an)
 f39:=Tryz.func256.trans (eG some an)
 t0:=Tryz.underlying0
 a0:=Tryz.isAgg0
 z0:=Tryz.sizeOf0
 v0:=Tryz.zeroValue0
 i0:=an
 t3:=Tryz.underlying3
 a3:=Tryz.isAgg3
 z3:=Tryz.sizeOf3
 v3:=Tryz.zeroValue3
 i3:=an
 t4:=Tryz.underlying4
 a4:=Tryz.isAgg4
 z4:=Tryz.sizeOf4
 v4:=Tryz.zeroValue4
 i4:=an
 t5:=Tryz.underlying5
 a5:=Tryz.isAgg5
 z5:=Tryz.sizeOf5
 v5:=Tryz.zeroValue5
 i5:=an
 t9:=Tryz.underlying9
 a9:=Tryz.isAgg9
 z9:=Tryz.sizeOf9
 v9:=Tryz.zeroValue9
 i9:=an
 t12:=Tryz.underlying12
 a12:=Tryz.isAgg12
 z12:=Tryz.sizeOf12
 v12:=Tryz.zeroValue12
 i12:=an
 t17:=Tryz.underlying17
 a17:=Tryz.isAgg17
 z17:=Tryz.sizeOf17
 v17:=Tryz.zeroValue17
 i17:=an
 t20:=Tryz.underlying20
 a20:=Tryz.isAgg20
 z20:=Tryz.sizeOf20
 v20:=Tryz.zeroValue20
 i20:=an
 t26:=Tryz.underlying188
 a26:=Tryz.isAgg188
 z26:=Tryz.sizeOf188
 v26:=Tryz.zeroValue188
 i26:=an
 t32:=Tryz.underlying197
 a32:=Tryz.isAgg197
 z32:=Tryz.sizeOf197
 v32:=Tryz.zeroValue197
 i32:=an
 t33:=Tryz.underlying198
 a33:=Tryz.isAgg198
 z33:=Tryz.sizeOf198
 v33:=Tryz.zeroValue198
 i33:=an
 t35:=Tryz.underlying200
 a35:=Tryz.isAgg200
 z35:=Tryz.sizeOf200
 v35:=Tryz.zeroValue200
 i35:=an
 t37:=Tryz.underlying202
 a37:=Tryz.isAgg202
 z37:=Tryz.sizeOf202
 v37:=Tryz.zeroValue202
 i37:=an
 t41:=Tryz.underlying178
 a41:=Tryz.isAgg178
 z41:=Tryz.sizeOf178
 v41:=Tryz.zeroValue178
 i41:=an
 t44:=Tryz.underlying206
 a44:=Tryz.isAgg206
 z44:=Tryz.sizeOf206
 v44:=Tryz.zeroValue206
 i44:=an
 t49:=Tryz.underlying231
 a49:=Tryz.isAgg231
 z49:=Tryz.sizeOf231
 v49:=Tryz.zeroValue231
 i49:=an
 t51:=Tryz.underlying211
 a51:=Tryz.isAgg211
 z51:=Tryz.sizeOf211
 v51:=Tryz.zeroValue211
 i51:=an
 t53:=Tryz.underlying235
 a53:=Tryz.isAgg235
 z53:=Tryz.sizeOf235
 v53:=Tryz.zeroValue235
 i53:=an
 t54:=Tryz.underlying236
 a54:=Tryz.isAgg236
 z54:=Tryz.sizeOf236
 v54:=Tryz.zeroValue236
 i54:=an
 t58:=Tryz.underlying222
 a58:=Tryz.isAgg222
 z58:=Tryz.sizeOf222
 v58:=Tryz.zeroValue222
 i58:=an
 t60:=Tryz.underlying242
 a60:=Tryz.isAgg242
 z60:=Tryz.sizeOf242
 v60:=Tryz.zeroValue242
 i60:=an
 t64:=Tryz.underlying246
 a64:=Tryz.isAgg246
 z64:=Tryz.sizeOf246
 v64:=Tryz.zeroValue246
 i64:=an
 t66:=Tryz.underlying250
 a66:=Tryz.isAgg250
 z66:=Tryz.sizeOf250
 v66:=Tryz.zeroValue250
 i66:=an
 t67:=Tryz.underlying251
 a67:=Tryz.isAgg251
 z67:=Tryz.sizeOf251
 v67:=Tryz.zeroValue251
 i67:=an
 t75:=Tryz.underlying271
 a75:=Tryz.isAgg271
 z75:=Tryz.sizeOf271
 v75:=Tryz.zeroValue271
 i75:=an
 t76:=Tryz.underlying272
 a76:=Tryz.isAgg272
 z76:=Tryz.sizeOf272
 v76:=Tryz.zeroValue272
 i76:=an
 t77:=Tryz.underlying273
 a77:=Tryz.isAgg273
 z77:=Tryz.sizeOf273
 v77:=Tryz.zeroValue273
 i77:=an
 t78:=Tryz.underlying173
 a78:=Tryz.isAgg173
 z78:=Tryz.sizeOf173
 v78:=Tryz.zeroValue173
 i78:=an
 t79:=Tryz.underlying274
 a79:=Tryz.isAgg274
 z79:=Tryz.sizeOf274
 v79:=Tryz.zeroValue274
 i79:=an
 t80:=Tryz.underlying275
 a80:=Tryz.isAgg275
 z80:=Tryz.sizeOf275
 v80:=Tryz.zeroValue275
 i80:=an
 t82:=Tryz.underlying277
 a82:=Tryz.isAgg277
 z82:=Tryz.sizeOf277
 v82:=Tryz.zeroValue277
 i82:=by kernel_rfl}
end
end Go.Proofs
namespace Go.Proofs.YtfeencekjcjalaaGreatDoor
section
open Go Go.RowKit Go.Lib Go.Pv Go.Proofs
def ads(n:Nat)(h:n<1099511627776):Lib.bitLen n<=1000:=by
 have:∀f x,bitLenAux f x<=f:=by
  intro f;induction f with
  |zero=>intro x;simp[bitLenAux]
  |succ f a=>
   intro x;rw[bitLenAux];split
   ·omega
   ·have:=a (x/2);omega
 have:=this 64 n;unfold Lib.bitLen;omega
def ao1{α:Type}[Inhabited α]{lt:α->α->Bool}{l:List α}{a:Array α}(h:Sort.PermIn 0 l.length l.toArray a)(m:Sort.SortedIn lt 0 l.length a):a.toList.Perm l/\a.toList.Pairwise fun x y=>lt y x=false:=by
 obtain⟨f,_,z3⟩:=h;have b:a.size=l.length:=by simpa using f
 have k:a.extract 0 l.length=a:=by rw[<-b];simp
 have n:l.toArray.extract 0 l.length=l.toArray:=Ψ
 rw[k,n]at z3;refine⟨by simpa using z3,?_⟩;rw[q1];intro i j hi c e;have J:=m i j Ω e (by simpa[b]using c);have d:i<a.size:=by simpa using hi
 have g:j<a.size:=by simpa using c
 rw[getElem!_pos a i d,getElem!_pos a j g]at J;simpa using J
section
variable {α:Type} {e:α->ah} (he:∀S x,au S (e x)) {K B el sz:Nat}
include he
theorem Vo[Inhabited α](VO:K≠901/\K≠902)(VN:B≠901/\B≠902)(t:fF)(i eX:TypeInfo)(hi:ar.info? t=some i)(aQ:i.desc= .slice el)(Ew:ar.packed t=false)(uM:ar.info? el=some eX)(ke:Nat)(wa:∀w,(acp el).run ar w= .ok ke w)(uG:∀n,2<=n->swapperK n eX ke=9)
  (g:Nat) (Ec:g<1000000) (lt:α->α->Bool) (bN:Sort.SWO lt) (l:List α) (ao:l.length<=68719476736)
  (zu:∀bc:List α,bc.length=l.length->∀(i j:Nat) x y,bc[i]? =some x->bc[j]? =some y->bG ar g [.int .i64 i,.int .i64 j,.ptr (.obj B) 0] (ey e K B el sz bc) fun r aj=>r= .bool (lt x y)/\aj=ey e K B el sz bc)
  (BS:∀bc:List α,bc.length=l.length->∀i j:Nat,i<l.length->j<l.length->bG ar 223 [.int .i64 i,.int .i64 j,.row sz (.obj K) l.length,.cst (typeHandle ar el)] (ey e K B el sz bc) fun r aj=>r= .tuple []/\aj=ey e K B el sz (hR bc i j)):
  bG ar 185 [.iface t (.row sz (.obj K) l.length),.func g [.ptr (.obj B) 0]] (ey e K B el sz l) fun r aj=>r= .tuple []/\∃bc,aj=ey e K B el sz bc/\bc.Perm l/\bc.Pairwise fun x y=>lt y x=false:=by
 have zj:ar.funcs.findIdx? (·.name== "internal/reflectlite" ++ ".Swapper$" ++toString 1)=some 215:=an
 have qB:ar.funcs.findIdx? (·.name== "internal/reflectlite" ++ ".Swapper$" ++toString 2)=some 216:=an
 have Mz:ar.funcs.findIdx? (·.name== "internal/reflectlite" ++ ".Swapper$" ++toString 9)=some 223:=an
 have zA:tM (ey e K B el sz) 901:=fun l=>⟨by simp[ey,Pv.look,VN.1],by simp[ey,Pv.look,VO.1]⟩;have zB:tM (ey e K B el sz) 902:=fun l=>⟨by simp[ey,Pv.look,VN.2],by simp[ey,Pv.look,VO.2]⟩;have ed:=ads l.length Ω;have M4:∃f cc,f<1000000/\ar.funcs.findIdx? (·.name== "internal/reflectlite" ++ ".Swapper$" ++toString (swapperK l.length eX ke))=some f/\(cc=(if swapperK l.length eX ke<=2 then []else [ah.row sz (.obj K) l.length,.cst (typeHandle ar el)]))/\
   bG ar 208 [fx g f [.ptr (.obj B) 0] cc,.int .i64 0,.int .i64 l.length,.int .i64 (Lib.bitLen l.length)] (ey e K B el sz l) fun r aj=>r= .tuple []/\∃bc,aj=ey e K B el sz bc/\bc.Perm l/\bc.Pairwise fun x y=>lt y x=false:=by
  have eM:=fun bc=>yG (K:=K) (B:=B) (el:=el) (sz:=sz) he bc;have key:∀{cm:Nat} {cc:List ah},fH (ey e K B el sz) l.length g cm [.ptr (.obj B) 0] cc lt->bG ar 208 [fx g cm [.ptr (.obj B) 0] cc,.int .i64 0,.int .i64 l.length,.int .i64 (Lib.bitLen l.length)] (ey e K B el sz l) fun r aj=>r= .tuple []/\∃bc,aj=ey e K B el sz bc/\bc.Perm l/\bc.Pairwise fun x y=>lt y x=false:=by intro cm cc H;have:=aiK H zA zB bN l.length l.toArray Ψ 0 l.length (Lib.bitLen l.length) Ω Ω (e2 _) Ω (.inl rfl);simp only[Int.ofNat_zero,Int.natCast_zero,Int.cast_ofNat_Int]at this;refine bG.mono this ?_;rintro r aj ⟨be,cr,bC,bY,c8⟩;obtain⟨da,dx⟩:=ao1 bY c8;exact⟨be,cr.toList,bC,da,dx⟩
  rcases(by omega:l.length=0\/l.length=1\/2<=l.length)with bm|J|U
  ·refine⟨215,[],by decide,by rw[bm];exact zj,by rw[bm];rfl,key ⟨eM,fun gp fk _ _=>yH gp fk,fun bc _=>by simp[ay,au,inObs,ey,Pv.look],fun bc _=>by simp[ay],by simp[de,cR],rfl,ao,fun bc h=>zu bc h,fun bc _ U i j hi=>Ω⟩⟩
  ·refine⟨216,[],by decide,by rw[J];exact qB,by rw[J];rfl,key ⟨eM,fun gp fk _ _=>yH gp fk,fun bc _=>by simp[ay,au,inObs,ey,Pv.look],fun bc _=>by simp[ay],by simp[de,cR],rfl,ao,fun bc h=>zu bc h,fun bc _ U i j hi af=>Ω⟩⟩
  ·refine⟨223,_,by decide,by rw[uG _ U];exact Mz,rfl,?_⟩;rw[uG _ U];simp only[show¬((9:Nat)<=2)from by decide,if_false];exact key ⟨eM,fun gp fk _ _=>yH gp fk,fun bc _=>by simp[ay,au,inObs,ey,Pv.look],fun bc _=>by simp[ay,au,inObs,ey,Pv.look],by simp[de,cR],by simp[de,cR],ao,fun bc h=>zu bc h,fun bc h _ i j hi af=>BS bc h i j hi af⟩
 obtain⟨f,cc,vX,aH,M0,dd⟩:=M4;intro w Z bf ri a1 ab aD;have oA:=cZ.start ri (yG he l).obj a1 ab aD;have MW:=aD;simp only[cN,aV]at aD;obtain⟨v0,vs1,BU,⟨u,rfl,⟨b,cap,rfl⟩,eK,n',fl,ai,aC,bo⟩,v1,vs2,hv1,⟨sr,qH,pY⟩,rfl⟩:=aD;rw[y3 Ec]at qH;subst qH;have ju:bf= #[.iface t (.slice (some ⟨b,0,none⟩) l.length cap),.func (.func g) #[] sr]:=by apply Array.ext';rw[BU,hv1]
 subst ju;have qC:∃fn,ar.funcs[(185:Nat)]? =some fn/\fn.body.isSome=true/\(fn.name== "runtime.NumGoroutine")=false:=⟨_,Tryz.func185,by kernel_rfl,by kernel_rfl⟩;refine .inl ⟨qC,?_⟩;obtain⟨dB,nk⟩:∃dB,dB=sliceWorld ar Tryz.lays6_ren t (some ⟨b,0,none⟩) l.length cap w:=⟨_,rfl⟩;have je:w.grownBy dB none:=by rw[nk];unfold sliceWorld;exact VH _ _ _
 have MX:=oA.grown je;have km:l1 w Z dB Z:=⟨fun b o bj=>⟨bj,G3 je (a1.alt b o bj)⟩,fun _ _ _ h=>h,fun _ n u _ h=>⟨n,u,h,.inl ⟨rfl,rfl⟩⟩,fun b o bj=>wX (je.block b (a1.alt b o bj) Ψ),fun _ _ _ _ h=>h⟩;have tp:Pv.Good (gh Z (ey e K B el sz l)) dB Z (ey e K B el sz l).b (ey e K B el sz l).e:=MX.good.prMono fun bl _ h=>h;have l9:=JG km MW;simp only[cN]at l9;obtain⟨a0,adh,uH,Ey,bL,adi,kh,akv,rfl⟩:=l9;simp at uH;obtain⟨rfl,rfl⟩:=uH;simp at kh;subst kh;have qG:aV dB Z (.row sz (.obj K) l.length) (.slice (some ⟨b,0,none⟩) l.length cap):=by simp only[aV]at Ey;obtain⟨u,hu,h⟩:=Ey;simp at hu;obtain⟨_,rfl⟩:=hu;simp only[aV];exact h
 have si:cN dB Z cc (sliceBound ar el eX ke (some ⟨b,0,none⟩) l.length cap).toList:=by
  unfold sliceBound;rw[M0];split
  ·simp[cN]
  ·simp only[cN];exact⟨_,_,rfl,qG,_,_,rfl,by simp[aV],rfl⟩
 have j3:cN dB Z [fx g f [.ptr (.obj B) 0] cc,.int .i64 0,.int .i64 l.length,.int .i64 (Lib.bitLen l.length)] (#[.agg #[.func (.func g) #[] sr,.func (.func f) #[] (sliceBound ar el eX ke (some ⟨b,0,none⟩) l.length cap)],.int .i64 0,.int .i64 l.length,.int .i64 (Lib.bitLen l.length)]:Array Value).toList:=by simp only[cN,fx];refine⟨_,_,rfl,?_,_,_,rfl,by simp[aV],_,_,rfl,by simp[aV],_,_,rfl,by simp[aV],rfl⟩;simp only[aV,c1];exact⟨_,rfl,_,_,rfl,⟨⟨sr,(y3 Ec _).symm,JG km pY⟩,rfl⟩,_,_,rfl,⟨⟨_,(y3 vX _).symm,si⟩,rfl⟩,rfl⟩
 have Ee:n7 dB Z:=fun x ab=>⟨(ri x ab).1,(ri x ab).2.1.imp fun _ aL=>⟨(km.A _ _ (ri x ab).1).2.trans aL.1,aL.2⟩,(ri x ab).2.2.imp fun _ aL=>(km.sh _ _ (ri x ab).1).trans aL⟩;have Mv:=dd dB Z _ Ee tp ab j3;have Hd:∀args w,(callFunc 208 args).run ar w= .ok (.enter 208 args) w:=enters_of Tryz.func208 an rfl;rcases Mv with⟨_,aA⟩|⟨v,w',aA,_⟩
 ·have ML:=Any.sort_Slice_of_pdq Tryz.lays6 t el i eX hi aQ Ew uM ke wa (some ⟨b,0,none⟩) l.length cap Ω f aH (.func g) #[] sr w
   (fun w'=> ∃aj Z',(∃bc,aj=ey e K B el sz bc/\bc.Perm l/\bc.Pairwise fun x y=>lt y x=false)/\Pv.Good (fun bl=>gh Z (ey e K B el sz l) bl\/dB.heap.size<=bl) w' Z' aj.b aj.e/\qx Z' aj/\jv aj/\ql ⟨dB,Z,gh Z (ey e K B el sz l),0,di (ey e K B el sz l),Ee,[]⟩ w' Z') (by
    rw[<-nk];refine aA.mono ?_;rintro e w' ⟨v,r,aj,Z',rfl,⟨rfl,bA⟩,xS,a6,b2,dq,eh⟩;simp only[aV,cN]at xS;obtain⟨us,rfl,pd⟩:=xS;have:us= #[]:=by apply Array.ext';simpa using pd
    subst this;exact⟨rfl,aj,Z',bA,a6,b2,dq,eh⟩)
  refine ML.mono ?_;rintro e w' ⟨rfl,aj,Z',⟨bc,rfl,H6,BR⟩,a6,b2,dq,eh⟩;refine⟨.tuple #[],.tuple [],_,Z',rfl,⟨rfl,bc,rfl,H6,BR⟩,by simp[aV,cN],a6.prMono fun bl h _=>?_,b2,dq,⟨eh.os.trans je.os,eh.tape.trans je.tape,eh.output.trans je.output,j1 je.size eh.size,fun k ad hm=>?_,fun b o bj=>?_,fun b o bj=>?_,eh.obj,eh.obn,eh.row,eh.obr,eh.trd,fun k j b ae=>⟨(eh.trb k j b ae).1.imp id (fun h=>j1 je.size h),(eh.trb k j b ae).2⟩,eh.trn,fun b o bj=>(eh.sh b o bj).trans (km.sh b o bj),fun j n u b ai aC=>j1 je.size (eh.nrow j n u b ai aC)⟩⟩
  ·rcases h with h|h
   ·exact .inl h
   ·exact .inr (j1 je.size h)
  ·rw[eh.block k (Nat.lt_of_lt_of_le ad je.size) hm];exact je.block k ad Ψ
  ·obtain⟨ba,bJ⟩:=eh.keep b o bj;exact⟨ba,bJ.trans (km.A b o bj).2⟩
  ·rcases eh.fresh b o bj with h|h|h
   ·exact .inl h
   ·exact .inr (.inl h)
   ·exact .inr (.inr (j1 je.size h))
 ·rw[Hd]at aA;cases aA
end
end
section
open Go Go.Pv Go.Lib
abbrev yF(l:List bq):cS:=ey bq.e 814 815 82 2 l
def YD:∀(S:aB->Prop) (x:bq),au S x.e:=fun S x=>by simp
def Kt(l:List bq):ea (yF l):=yG YD l
def alZ:Sort.SWO (ix fO):=by
 refine⟨fun x=>?_,fun x y z J U=>?_,fun x y z J U=>?_⟩
 ·simp only[ix,hb];have:=mN.refl x;omega
 ·simp only[ix,e3]at*;exact mN.ltr J Ω
 ·simp only[ix,hb]at*;have b:=mN.neg x y;have c:=mN.neg y z;have a:=mN.neg x z;have:=mN.tr z y x Ω Ω;omega
def aii(l:List bq)(i j:Nat)(x y:bq)(k:l.length<=68719476736)(hi:l[i]? =some x)(g:l[j]? =some y):bG ar 189 [.int .i64 i,.int .i64 j,.ptr (.obj 815) 0] (yF l) fun r f=>r= .bool (ix fO x y)/\f=yF l:=by have a:=Kt l;obtain⟨c,d⟩:=fp.1 hi;obtain⟨e,b⟩:=fp.1 g;unfold yF ey at a⊢;refine bG.mk mixed a7 Tryz.func189 amN Ψ a.obj fun m h=>?_;unfold RN;simp[c,e,d,b];(repeat' first|refine ak ?_|refine aI (CX _ _) ?_|refine aJ (CX _ _) ?_|simp[c,e,d,b]);refine cJ.at _ (.inl rfl) a (Same.refl _) aG aG ?_;simp[cM,aX,aY,aW]
noncomputable def Tryz.maT:TypeInfo:=(ar.info? 33).get an
noncomputable def Tryz.maE:TypeInfo:=(ar.info? 82).get an
def Tryz.maK(n:Nat)(U:2<=n):Lib.swapperK n Tryz.maE 25=9:=by
 have a:Tryz.maE.hasPointers=true:=an
 have b:Tryz.maE.bytes=24:=an
 have c:(n==0)=false:=by simp;omega
 have d:(n==1)=false:=by simp;omega
 simp[Lib.swapperK,a,b,c,d]
def Ye{α β:Type}(f:α->β)(l:List α)(i j:Nat):(hR l i j).map f=hR (l.map f) i j:=by
 unfold hR;simp only[List.getElem?_map];cases l[i]? with
 |none=>simp
 |some x=>
  cases l[j]? with
  |none=>simp
  |some y=>simp[List.map_set]
def aiW(l:List bq)(d:l.length<=68719476736):bG ar 185 [.iface 33 (.row 2 (.obj 814) l.length),.func 189 [.ptr (.obj 815) 0]] (yF l) fun r b=>r= .tuple []/\b=yF (qb fO l):=by
 refine(Vo YD (K:=814) (B:=815) (sz:=2) ww ww 33 Tryz.maT Tryz.maE an an an an 25 (fun _=>by kernel_rfl) Tryz.maK 189 ww (ix fO) alZ l d (fun a h i j x y hi c=>aii a i j x y Ω hi c) (fun a h i j hi c=>?_)).mono ?_
 ·have:=Vy (P:=ar) false 223 (fun args W=>run_callFunc_extern Tryz.func223 an an an (e:=Gp false) an args W)
   82 Tryz.maE an (fun _=>by kernel_rfl) (Kt a) (K:=814) (n:=l.length) (el:=82) (sz:=2) an (xs:=a.map bq.e) (by simp[ey,Pv.look,h]) i j hi c
  refine this.mono ?_;rintro r b ⟨rfl,rfl⟩;refine⟨rfl,?_⟩;simp[ey,cG,Ye,h]
 ·rintro r b ⟨rfl,a,rfl,J,U⟩;exact⟨rfl,by rw[aaU mN J U]⟩
def pg(l:List bq):List ah:= .hdm l.length (List.range l.length)::l.flatMap fun m=>[m.e,.bool true]
def l2(m:bq)(l:List bq):List bq:=if m∈l then l else l++[m]
def alw(a b:bq):uY (.a [false,true]) a.e b.e=some (decide (a=b)):=by simp only[bq.e,uY,kY,if_true,nz];congr 1;rw[rO];cases a;cases b;simp
def alx(a:bq):x1 (.a [false,true]) a.e=true:=by simp[bq.e,x1,kY,-KH]
def YI(m:bq):∀l:List bq,wC (.a [false,true]) m.e (.bool true) (l.flatMap fun m=>[m.e,.bool true])=some (if m∈l then some (l.flatMap fun m=>[m.e,.bool true])else none)
 |[]=>rfl
 |a::l=>by
  simp only[List.flatMap_cons,b3,b6,wC,alw];by_cases h:m=a
  ·subst h;simp
  ·have b:decide (m=a)=false:=by simp[h]
   rw[b];simp only[YI m l];by_cases hm:m∈l
   ·simp[hm]
   ·simp[hm,h]
@[simp]def awO(m:bq)(l:List bq):p5 (.a [false,true]) m.e (.bool true) (pg l)=some (pg (l2 m l)):=by
 simp only[pg,p5,alx,Bool.true_eq_false,reduceCtorEq,if_false,YI,l2];by_cases h:m∈l
 ·simp[h]
 ·simp[h,List.range_succ]
end
section
open Go Go.Pv
@[simp]def B7(S:aB->Prop)(l:List bq):ay S (pg l)=True:=by
 refine eq_true ?_;unfold pg;have:∀l:List bq,ay S (l.flatMap fun m=>[m.e,ah.bool true]):=fun l=>by
  induction l with
  |nil=>simp[ay]
  |cons x r a=>simp only[List.flatMap_cons,b3,b6,ay,alC,au,true_and];exact a
 simp only[ay,au,true_and];exact this l
@[simp]def awx:[ah.hdm 0 []]=pg []:=rfl
def pH(tag:List b7)(l:List bq):cS:=⟨[(.obj 811,[.str tag]),(.obj 812,pg l),(.obj 813,[.gmap (.obj 812)])],[]⟩
def Gx(tag:List b7)(l:List bq):ea (pH tag l):=by unfold pH;refine ea.of ⟨by intro m;simp[Pv.look],by intro m;simp[Pv.look]⟩ g8 Ψ
def Kv(tag:List b7)(l a:List bq):Same (pH tag l) (pH tag a):=Same.keys (by simp[pH]) (by simp[pH])
def aih(tag:List b7)(v:Int)(l:List bq):bG ar 188 [.int .i64 v,.ptr (.obj 813) 0,.ptr (.obj 811) 0] (pH tag l) fun r c=>r= .tuple []/\c=pH tag (l2 ⟨v,tag⟩ l):=by have b:=Gx tag l;have a:=Gx tag (l2 ⟨v,tag⟩ l);have eI:=Kv tag l (l2 ⟨v,tag⟩ l);unfold pH at b a eI⊢;refine bG.mk mixed a7 Tryz.func188 amM Ψ b.obj fun e d=>?_;unfold RM;simp;refine cJ.at _ (.inr rfl) a eI aG aG ?_;simp[cM,aX,aY,aW]
end
section
open Go Go.Pv Go.Lib
abbrev xb(l:List bR):cS:=ey bR.e 803 804 78 2 l
def Xy:∀(S:aB->Prop) (x:bR),au S x.e:=fun S x=>by simp
def Gu(l:List bR):ea (xb l):=yG Xy l
def x8(x y:bR):Bool:=decide (x.v<y.v)
def alY:Sort.SWO x8:=⟨fun x=>by simp[x8],fun x y z J U=>by simp[x8]at*;omega,fun x y z J U=>by simp[x8]at*;omega⟩
def aij(l:List bR)(i j:Nat)(x y:bR)(k:l.length<=68719476736)(hi:l[i]? =some x)(g:l[j]? =some y):bG ar 186 [.int .i64 i,.int .i64 j,.ptr (.obj 804) 0] (xb l) fun r f=>r= .bool (x8 x y)/\f=xb l:=by have a:=Gu l;obtain⟨c,d⟩:=fp.1 hi;obtain⟨e,b⟩:=fp.1 g;unfold xb ey at a⊢;refine bG.mk mixed a7 Tryz.func186 amO Ψ a.obj fun m h=>?_;unfold RO;simp[c,e,d,b];(repeat' first|refine ak ?_|simp);refine cJ.at _ (.inl rfl) a (Same.refl _) aG aG ?_;simp[cM,aX,aY,aW,x8]
noncomputable def Tryz.vkT:TypeInfo:=(ar.info? 32).get an
noncomputable def Tryz.vkE:TypeInfo:=(ar.info? 78).get an
def Tryz.vkK(n:Nat)(U:2<=n):Lib.swapperK n Tryz.vkE 25=9:=by
 have a:Tryz.vkE.hasPointers=false:=an
 have b:Tryz.vkE.bytes=16:=an
 have c:(n==0)=false:=by simp;omega
 have d:(n==1)=false:=by simp;omega
 simp[Lib.swapperK,a,b,c,d]
def alX{α β:Type}(f:α->β)(l:List α)(i j:Nat):(hR l i j).map f=hR (l.map f) i j:=by
 unfold hR;simp only[List.getElem?_map];cases l[i]? with
 |none=>simp
 |some x=>
  cases l[j]? with
  |none=>simp
  |some y=>simp[List.map_set]
def Vx(l:List bR)(d:l.length<=68719476736):bG ar 185 [.iface 32 (.row 2 (.obj 803) l.length),.func 186 [.ptr (.obj 804) 0]] (xb l) fun r c=>r= .tuple []/\∃a,c=xb a/\a.Perm l/\a.Pairwise fun x y=>x8 y x=false:=by
 refine(Vo Xy (K:=803) (B:=804) (sz:=2) ww ww 32 Tryz.vkT Tryz.vkE an an an an 25 (fun _=>by kernel_rfl) Tryz.vkK 186 ww x8 alY l d (fun a h i j x y hi b=>aij a i j x y Ω hi b) (fun a h i j hi b=>?_));have:=Vy (P:=ar) false 223 (fun args W=>run_callFunc_extern Tryz.func223 an an an (e:=Gp false) an args W)
  78 Tryz.vkE an (fun _=>by kernel_rfl) (Gu a) (K:=803) (n:=l.length) (el:=78) (sz:=2) an (xs:=a.map bR.e) (by simp[ey,Pv.look,h]) i j hi b
 refine this.mono ?_;rintro r c ⟨rfl,rfl⟩;refine⟨rfl,?_⟩;simp[ey,cG,alX,h]
end
section
open Go Go.Pv
def gC(o:aZ (List bR)):ah:= .tuple [.slice 2 .no ((o.getD []).map bR.e),.bool o.isSome]
@[simp]def awh(S:aB->Prop)(o:aZ (List bR)):au S (gC o)=True:=by simp[gC]
def abu{l:List bR}(h:iR l):bK ar 83 [.slice 2 .no (l.map bR.e)] (.bool true):=by have:=abt l;simpa only[h,decide_true]using this
def Qu{t:T}(h:t.fit=true):bK ar 101 [t.e] (.bool true):=by have:=abz t;rwa[h]at this
def arZ{s:List az}(N:e7 s){l:List bR}(M:iR l)(t:T)(aM:t.fit=true)(k:Int):
  bK ar 167 [.slice 5 .no (s.map az.e),.slice 2 .no (l.map bR.e),t.e,.int .i64 k] (gC (if(k=2\/k=3)/\(t.ap (cQ s)).size<=5000 then lf l (t.ap (cQ s)) k else none)):=by
 have zv:=xY M;have d:=rI N;have f:=Qu aM;have g:=abu M;have c:=Ke s t N.len N.sol.asc N.fit;generalize ab:t.ap (cQ s)=x at c⊢;generalize D:(if(k=2\/k=3)/\x.size<=5000 then lf l x k else none)=O;by_cases P:k=2\/k=3;rotate_left
 ·have W:(k !=2)=true:=by simp;omega
  have S:(k !=3)=true:=by simp;omega
  rw[if_neg (fun h=>P h.1)]at D;rw[<-D];refine br a7 Tryz.func167 tO fun E=>?_;unfold r1;simp;(repeat' first|refine ak ?_|refine aI d ?_|refine aJ d ?_|refine aI f ?_|refine aJ f ?_|refine aI g ?_|refine aJ g ?_|simp[W,S]);simp[bF,aX,aY,aW];simp[gC]
 by_cases L:x.size<=5000;rotate_left
 ·rw[if_neg (fun h=>L h.2)]at D;rw[<-D];rw[if_neg L,l0 L]at c;refine br a7 Tryz.func167 tO fun E=>?_;unfold r1;simp;rcases P with rfl|rfl;all_goals(repeat' first|refine ak ?_|refine aI d ?_|refine aJ d ?_|refine aI f ?_|refine aJ f ?_|refine aI g ?_|refine aJ g ?_|refine aI c ?_|refine aJ c ?_|simp)
  all_goals simp[bF,aX,aY,aW]
  all_goals simp[gC]
 rw[if_pos ⟨P,L⟩]at D;rw[if_pos L,lL L]at c;have Z:(k !=2)=true->(k !=3)=false:=fun h=>by simp at h⊢;omega
 have F:((k !=2)=false)\/((k !=2)=true/\(k !=3)=false):=by
  rcases P with rfl|rfl
  ·left;rfl
  ·right;exact⟨rfl,rfl⟩
 clear Z;cases x with
 |var n=>
  have o:O=match mh l n with|some X=>if X=k then some l else none|none=>some (mJ ⟨n,k⟩ l):=by rw[<-D];rfl
  refine br a7 Tryz.func167 tO fun E=>?_;unfold r1;simp;rcases F with q|⟨q,v⟩
  ·(repeat' first|refine ak ?_|refine aI d ?_|refine aJ d ?_|refine aI f ?_|refine aJ f ?_|refine aI g ?_|refine aJ g ?_|refine aI c ?_|refine aJ c ?_|simp[q]);refine eH [3,10,12,55,56] (fun i (_:Unit)=>[(57,.int .i64 i)]) l.length (fun i _=> ∀j y,j<i->l[j]? =some y->y.v≠n) () bU (fun j y G=>Ω) (fun _ G _=>?_) (fun i _ hi G _=>?_)
   ·have a1:mh l n=none:=zQ.2 fun y B=>by obtain⟨m,hm,e⟩:=oS B;exact G m y hm (by rw[cl hm,e])
    rw[a1]at o;simp only at o;simp;(repeat' first|refine ak ?_|simp);all_goals try refine⟨by unfold lim;omega,?_⟩
    have key:=Vx (l++[⟨n,k⟩]) gc;have K:=Gu (l++[⟨n,k⟩]);have hlen:(l++[(⟨n,k⟩:bR)]).length=l.length+1:=Ψ
    unfold xb ey at key K;rw[hlen,sP,fG,nx]at key K;refine cx.ob key K aG aG (by simp[inObs,Pv.look]) ?_;rintro r Y ⟨rfl,R,rfl,J,U⟩;have Q:R=mJ ⟨n,k⟩ l:=Xz (J.trans ((List.perm_append_comm (l₁:=l) (l₂:=[⟨n,k⟩])).trans (Np ⟨n,k⟩ l).symm)) (Ic M.asc (zQ.1 a1)) U;subst Q;refine⟨Same.keys Ψ Ψ,?_⟩;rw[o];simp[bW];(repeat' first|refine ak ?_|simp);simp[bF,aX,aY,aW];simp[gC]
   ·obtain⟨b,ae,z⟩:=dX hi;by_cases u:b.v=n
    ·have a1:mh l n=some b.k:=by rw[<-u];exact Iq M.asc (ev ae)
     rw[a1]at o;simp only at o;by_cases w:b.k=k
     ·rw[if_pos w]at o;rw[o];have H:(b.k !=k)=false:=by simp[w]
      have A:(b.v==n)=true:=by simp[u]
      simp[hi,z];(repeat' first|refine ak ?_|simp[z,hi,H,A,w,u]);simp[bF,aX,aY,aW];simp[gC]
     ·rw[if_neg w]at o;rw[o];have H:(b.k !=k)=true:=by simp[w]
      have A:(b.v==n)=true:=by simp[u]
      simp[hi,z];(repeat' first|refine ak ?_|simp[z,hi,H,A,w,u]);simp[bF,aX,aY,aW];simp[gC]
    ·have A:(b.v==n)=false:=by simp[u]
     simp[hi,z];(repeat' first|refine ak ?_|simp[z,hi,A,u]);exact bQ.rng () hi (fun j y V B=>by
      rcases(by omega:j<i\/j=i)with h|rfl
      ·exact G j y h B
      ·rw[ae]at B;cases B;exact u) bU
  ·(repeat' first|refine ak ?_|refine aI d ?_|refine aJ d ?_|refine aI f ?_|refine aJ f ?_|refine aI g ?_|refine aJ g ?_|refine aI c ?_|refine aJ c ?_|simp[q,v]);refine eH [3,10,12,55,56] (fun i (_:Unit)=>[(57,.int .i64 i)]) l.length (fun i _=> ∀j y,j<i->l[j]? =some y->y.v≠n) () bU (fun j y G=>Ω) (fun _ G _=>?_) (fun i _ hi G _=>?_)
   ·have a1:mh l n=none:=zQ.2 fun y B=>by obtain⟨m,hm,e⟩:=oS B;exact G m y hm (by rw[cl hm,e])
    rw[a1]at o;simp only at o;simp;(repeat' first|refine ak ?_|simp);all_goals try refine⟨by unfold lim;omega,?_⟩
    have key:=Vx (l++[⟨n,k⟩]) gc;have K:=Gu (l++[⟨n,k⟩]);have hlen:(l++[(⟨n,k⟩:bR)]).length=l.length+1:=Ψ
    unfold xb ey at key K;rw[hlen,sP,fG,nx]at key K;refine cx.ob key K aG aG (by simp[inObs,Pv.look]) ?_;rintro r Y ⟨rfl,R,rfl,J,U⟩;have Q:R=mJ ⟨n,k⟩ l:=Xz (J.trans ((List.perm_append_comm (l₁:=l) (l₂:=[⟨n,k⟩])).trans (Np ⟨n,k⟩ l).symm)) (Ic M.asc (zQ.1 a1)) U;subst Q;refine⟨Same.keys Ψ Ψ,?_⟩;rw[o];simp[bW];(repeat' first|refine ak ?_|simp);simp[bF,aX,aY,aW];simp[gC]
   ·obtain⟨b,ae,z⟩:=dX hi;by_cases u:b.v=n
    ·have a1:mh l n=some b.k:=by rw[<-u];exact Iq M.asc (ev ae)
     rw[a1]at o;simp only at o;by_cases w:b.k=k
     ·rw[if_pos w]at o;rw[o];have H:(b.k !=k)=false:=by simp[w]
      have A:(b.v==n)=true:=by simp[u]
      simp[hi,z];(repeat' first|refine ak ?_|simp[z,hi,H,A,w,u]);simp[bF,aX,aY,aW];simp[gC]
     ·rw[if_neg w]at o;rw[o];have H:(b.k !=k)=true:=by simp[w]
      have A:(b.v==n)=true:=by simp[u]
      simp[hi,z];(repeat' first|refine ak ?_|simp[z,hi,H,A,w,u]);simp[bF,aX,aY,aW];simp[gC]
    ·have A:(b.v==n)=false:=by simp[u]
     simp[hi,z];(repeat' first|refine ak ?_|simp[z,hi,A,u]);exact bQ.rng () hi (fun j y V B=>by
      rcases(by omega:j<i\/j=i)with h|rfl
      ·exact G j y h B
      ·rw[ae]at B;cases B;exact u) bU
 |nil=>
  have o:O=if T.nil.kind=k then some l else none:=by rw[<-D];rfl
  by_cases p:T.nil.kind=k
  ·rw[if_pos p]at o;rw[o];refine br a7 Tryz.func167 tO fun E=>?_;unfold r1;simp;simp at p;rcases F with q|⟨q,v⟩
   ·((repeat' first|refine ak ?_|refine aI d ?_|refine aJ d ?_|refine aI f ?_|refine aJ f ?_|refine aI g ?_|refine aJ g ?_|refine aI c ?_|refine aJ c ?_|simp[q,p]|((first|apply bV|apply b0|apply bZ)<;>intro h<;>try simp at h))<;>(try exact cA));all_goals simp[bF,aX,aY,aW]
    all_goals simp[gC]
   ·((repeat' first|refine ak ?_|refine aI d ?_|refine aJ d ?_|refine aI f ?_|refine aJ f ?_|refine aI g ?_|refine aJ g ?_|refine aI c ?_|refine aJ c ?_|simp[q,v,p]|((first|apply bV|apply b0|apply bZ)<;>intro h<;>try simp at h))<;>(try exact cA));all_goals simp[bF,aX,aY,aW]
    all_goals simp[gC]
  ·rw[if_neg p]at o;rw[o];refine br a7 Tryz.func167 tO fun E=>?_;unfold r1;simp;simp at p;rcases F with q|⟨q,v⟩
   ·((repeat' first|refine ak ?_|refine aI d ?_|refine aJ d ?_|refine aI f ?_|refine aJ f ?_|refine aI g ?_|refine aJ g ?_|refine aI c ?_|refine aJ c ?_|simp[q,p]|((first|apply bV|apply b0|apply bZ)<;>intro h<;>try simp at h))<;>(try exact cA));all_goals simp[bF,aX,aY,aW]
    all_goals simp[gC]
   ·((repeat' first|refine ak ?_|refine aI d ?_|refine aJ d ?_|refine aI f ?_|refine aJ f ?_|refine aI g ?_|refine aJ g ?_|refine aI c ?_|refine aJ c ?_|simp[q,v,p]|((first|apply bV|apply b0|apply bZ)<;>intro h<;>try simp at h))<;>(try exact cA));all_goals simp[bF,aX,aY,aW]
    all_goals simp[gC]
 |sym a=>
  have o:O=if(T.sym a).kind=k then some l else none:=by rw[<-D];rfl
  by_cases p:(T.sym a).kind=k
  ·rw[if_pos p]at o;rw[o];refine br a7 Tryz.func167 tO fun E=>?_;unfold r1;simp;simp at p;rcases F with q|⟨q,v⟩
   ·((repeat' first|refine ak ?_|refine aI d ?_|refine aJ d ?_|refine aI f ?_|refine aJ f ?_|refine aI g ?_|refine aJ g ?_|refine aI c ?_|refine aJ c ?_|simp[q,p]|((first|apply bV|apply b0|apply bZ)<;>intro h<;>try simp at h))<;>(try exact cA));all_goals simp[bF,aX,aY,aW]
    all_goals simp[gC]
   ·((repeat' first|refine ak ?_|refine aI d ?_|refine aJ d ?_|refine aI f ?_|refine aJ f ?_|refine aI g ?_|refine aJ g ?_|refine aI c ?_|refine aJ c ?_|simp[q,v,p]|((first|apply bV|apply b0|apply bZ)<;>intro h<;>try simp at h))<;>(try exact cA));all_goals simp[bF,aX,aY,aW]
    all_goals simp[gC]
  ·rw[if_neg p]at o;rw[o];refine br a7 Tryz.func167 tO fun E=>?_;unfold r1;simp;simp at p;rcases F with q|⟨q,v⟩
   ·((repeat' first|refine ak ?_|refine aI d ?_|refine aJ d ?_|refine aI f ?_|refine aJ f ?_|refine aI g ?_|refine aJ g ?_|refine aI c ?_|refine aJ c ?_|simp[q,p]|((first|apply bV|apply b0|apply bZ)<;>intro h<;>try simp at h))<;>(try exact cA));all_goals simp[bF,aX,aY,aW]
    all_goals simp[gC]
   ·((repeat' first|refine ak ?_|refine aI d ?_|refine aJ d ?_|refine aI f ?_|refine aJ f ?_|refine aI g ?_|refine aJ g ?_|refine aI c ?_|refine aJ c ?_|simp[q,v,p]|((first|apply bV|apply b0|apply bZ)<;>intro h<;>try simp at h))<;>(try exact cA));all_goals simp[bF,aX,aY,aW]
    all_goals simp[gC]
 |num a=>
  have o:O=if(T.num a).kind=k then some l else none:=by rw[<-D];rfl
  by_cases p:(T.num a).kind=k
  ·rw[if_pos p]at o;rw[o];refine br a7 Tryz.func167 tO fun E=>?_;unfold r1;simp;simp at p;rcases F with q|⟨q,v⟩
   ·((repeat' first|refine ak ?_|refine aI d ?_|refine aJ d ?_|refine aI f ?_|refine aJ f ?_|refine aI g ?_|refine aJ g ?_|refine aI c ?_|refine aJ c ?_|simp[q,p]|((first|apply bV|apply b0|apply bZ)<;>intro h<;>try simp at h))<;>(try exact cA));all_goals simp[bF,aX,aY,aW]
    all_goals simp[gC]
   ·((repeat' first|refine ak ?_|refine aI d ?_|refine aJ d ?_|refine aI f ?_|refine aJ f ?_|refine aI g ?_|refine aJ g ?_|refine aI c ?_|refine aJ c ?_|simp[q,v,p]|((first|apply bV|apply b0|apply bZ)<;>intro h<;>try simp at h))<;>(try exact cA));all_goals simp[bF,aX,aY,aW]
    all_goals simp[gC]
  ·rw[if_neg p]at o;rw[o];refine br a7 Tryz.func167 tO fun E=>?_;unfold r1;simp;simp at p;rcases F with q|⟨q,v⟩
   ·((repeat' first|refine ak ?_|refine aI d ?_|refine aJ d ?_|refine aI f ?_|refine aJ f ?_|refine aI g ?_|refine aJ g ?_|refine aI c ?_|refine aJ c ?_|simp[q,p]|((first|apply bV|apply b0|apply bZ)<;>intro h<;>try simp at h))<;>(try exact cA));all_goals simp[bF,aX,aY,aW]
    all_goals simp[gC]
   ·((repeat' first|refine ak ?_|refine aI d ?_|refine aJ d ?_|refine aI f ?_|refine aJ f ?_|refine aI g ?_|refine aJ g ?_|refine aI c ?_|refine aJ c ?_|simp[q,v,p]|((first|apply bV|apply b0|apply bZ)<;>intro h<;>try simp at h))<;>(try exact cA));all_goals simp[bF,aX,aY,aW]
    all_goals simp[gC]
 |pair a b=>
  have o:O=if(T.pair a b).kind=k then some l else none:=by rw[<-D];rfl
  by_cases p:(T.pair a b).kind=k
  ·rw[if_pos p]at o;rw[o];refine br a7 Tryz.func167 tO fun E=>?_;unfold r1;simp;simp at p;rcases F with q|⟨q,v⟩
   ·((repeat' first|refine ak ?_|refine aI d ?_|refine aJ d ?_|refine aI f ?_|refine aJ f ?_|refine aI g ?_|refine aJ g ?_|refine aI c ?_|refine aJ c ?_|simp[q,p]|((first|apply bV|apply b0|apply bZ)<;>intro h<;>try simp at h))<;>(try exact cA));all_goals simp[bF,aX,aY,aW]
    all_goals simp[gC]
   ·((repeat' first|refine ak ?_|refine aI d ?_|refine aJ d ?_|refine aI f ?_|refine aJ f ?_|refine aI g ?_|refine aJ g ?_|refine aI c ?_|refine aJ c ?_|simp[q,v,p]|((first|apply bV|apply b0|apply bZ)<;>intro h<;>try simp at h))<;>(try exact cA));all_goals simp[bF,aX,aY,aW]
    all_goals simp[gC]
  ·rw[if_neg p]at o;rw[o];refine br a7 Tryz.func167 tO fun E=>?_;unfold r1;simp;simp at p;rcases F with q|⟨q,v⟩
   ·((repeat' first|refine ak ?_|refine aI d ?_|refine aJ d ?_|refine aI f ?_|refine aJ f ?_|refine aI g ?_|refine aJ g ?_|refine aI c ?_|refine aJ c ?_|simp[q,p]|((first|apply bV|apply b0|apply bZ)<;>intro h<;>try simp at h))<;>(try exact cA));all_goals simp[bF,aX,aY,aW]
    all_goals simp[gC]
   ·((repeat' first|refine ak ?_|refine aI d ?_|refine aJ d ?_|refine aI f ?_|refine aJ f ?_|refine aI g ?_|refine aJ g ?_|refine aI c ?_|refine aJ c ?_|simp[q,v,p]|((first|apply bV|apply b0|apply bZ)<;>intro h<;>try simp at h))<;>(try exact cA));all_goals simp[bF,aX,aY,aW]
    all_goals simp[gC]
def jX(o:aZ (List bq)):ah:= .tuple [.slice 2 .no ((o.getD []).map bq.e),.bool o.isSome]
@[simp]def awj(S:aB->Prop)(o:aZ (List bq)):au S (jX o)=True:=by simp[jX]
def abw{l:List bq}(h:iH l):bK ar 84 [.slice 2 .no (l.map bq.e)] (.bool true):=by have:=abv l;simpa only[h,decide_true]using this
def ar4{s:List b7}(h:jg s=true):bK ar 133 [.str s] (.bool true):=by have:=vk s;rwa[h]at this
def E6(l:List bq):List ah:=l.flatMap fun m=>[m.e,.bool true]
def Yi(l:List bq):pg l= .hdm l.length (List.range l.length)::E6 l:=rfl
def N1(b:Nat):∀(n:Nat) (l:List bq),nT b (List.range' n l.length) (E6 l)=(if n<=b then(l[b-n]?).map fun x=>.tuple [x.e,.bool true]else none)
 |n,[]=>by simp[nT,E6]
 |n,x::r=>by
  have e:E6 (x::r)=x.e:: .bool true::E6 r:=rfl;simp only[ik,List.range'_succ,e,nT];by_cases h:n=b
  ·subst h;simp
  ·rw[if_neg h,N1 b (n+1) r];by_cases U:n<=b
   ·rw[if_pos U,if_pos Ω];have:b-n=(b-(n+1))+1:=Ω
    rw[this];simp
   ·rw[if_neg U,if_neg Ω]
@[simp]def aw0(l:List bq):gN (pg l)=false:=rfl
@[simp]def aw7(m:aB)(l:List bq):Ag m (pg l)=some (bX l.length [] m):=rfl
def ama(f:aB->aZ (List ah))(fV mk:aB)(n:Nat)(seen:List Nat)(b:Nat)(l:List bq)(x:bq)(hi:f fV=some (bX n (seen++[b]) mk))(hm:f mk=some (pg l))(a:n=l.length)(c:l[b]? =some x):qO f (.ptr fV 0)=some (True,.tuple [x.e,.bool true]):=by subst a;simp only[Yt,hi,hm,bX,Yi,List.getLast?_append,List.getLast?_singleton,Option.some_or,List.range_eq_range',N1,Nat.zero_le,if_true,Nat.sub_zero,Option.map_map];simp[c]
def aeR{st:bn}{d:Nat}{K:bn->Prop}{fV mk:aB}{n:Nat}{seen:List Nat}{l:List bq}(hi:Pv.look fV st.b=some (bX n seen mk))(hm:Pv.look mk st.b=some (pg l))(e:n=l.length)
  (J:(∀b,b<l.length->b∈seen)->K {st with t:=Pv.put d (.tuple [.bool false]) st.t}) (U:∀b x,l[b]? =some x->b∉seen->K {st with t:=Pv.put d (.tuple [.bool true,x.e,.bool true]) st.t,b:=cG fV (bX n (seen++[b]) mk) st.b}):
  uz st d (.ptr fV 0) K:=by
 subst e;simp only[uz,hi,bX,hm,Yi,Oe,and_self,true_and];refine⟨fun h=>J fun b ae=>h b (by simpa using ae),fun b k v a ae=>?_⟩;rw[List.range_eq_range',N1]at a;simp only[Nat.zero_le,if_true,Nat.sub_zero,gI,ah.tuple.injEq,pA,and_true]at a;obtain⟨x,f,g,c⟩:=a;subst g c;exact U b x f ae
def al5{m x:bq}{l:List bq}:x∈l2 m l↔x=m\/x∈l:=by
 unfold l2;split
 ·constructor
  ·exact .inr
  ·rintro(rfl|h)<;>assumption
 ·simp[or_comm]
def ac0{m:bq}{l:List bq}(h:l.Nodup):(l2 m l).Nodup:=by
 unfold l2;split
 ·exact h
 ·rw[rS];exact⟨h,Ψ,fun a c b ae=>by simp at ae;subst ae;intro e;subst e;contradiction⟩
def acZ(m:bq)(l:List bq):(l2 m l).length<=l.length+1:=by unfold l2;split<;>simp
def ah4(s:List b7)(t:T):∀l:List bq,(t.fold (fun v l=>l2 ⟨v,s⟩ l) l).length<=l.length+t.size:=by
 induction t with
 |var n=>intro l;simp only[T.fold,T.size];exact acZ _ _
 |pair a b d c=>intro l;simp only[T.fold,T.size];have:=d l;have:=c (a.fold (fun v l=>l2 ⟨v,s⟩ l) l);omega
 |_=>intro l;simp[T.fold,T.size]
def ah5(s:List b7)(t:T):∀{l:List bq},l.Nodup->(t.fold (fun v l=>l2 ⟨v,s⟩ l) l).Nodup:=by
 induction t with
 |var n=>intro l h;exact ac0 h
 |pair a b d c=>intro l h;exact c (d h)
 |_=>intro l h;exact h
def al6(s:List b7)(t:T)(x:bq):∀{l:List bq},x∈t.fold (fun v l=>l2 ⟨v,s⟩ l) l↔x∈l\/(x.s=s/\t.occ x.v=true):=by
 induction t with
 |var n=>
  intro l;simp only[T.fold,al5,T.occ,dW];constructor
  ·rintro(rfl|h)
   ·exact .inr ⟨rfl,rfl⟩
   ·exact .inl h
  ·rintro(h|⟨J,U⟩)
   ·exact .inr h
   ·left;cases x;simp at J U;subst J U;rfl
 |pair a b d c=>
  intro l;simp only[T.fold,c,d,T.occ,mR];constructor
  ·rintro((h|h)|h)
   ·exact .inl h
   ·exact .inr ⟨h.1,.inl h.2⟩
   ·exact .inr ⟨h.1,.inr h.2⟩
  ·rintro(h|⟨J,U|U⟩)
   ·exact .inl (.inl h)
   ·exact .inl (.inr ⟨J,U⟩)
   ·exact .inr ⟨J,U⟩
 |_=>intro l;simp[T.fold,T.occ]
def alb(M:List bq)(k:Nat)(st:bn):Prop:=∃(seen:List Nat) (xs:List bq),seen.Nodup/\(∀b∈seen,b<M.length)/\k=M.length-seen.length/\xs=seen.filterMap (fun b=>M[b]?)/\xs.length=seen.length/\st=⟨[(15,.ptr (.obj 815) 0),(63,.ptr (.loc 2) 0)],[(.obj 812,pg M),(.loc 2,bX M.length seen (.obj 812)),(.obj 815,[.row 2 (.obj 814) xs.length])],[(.obj 814,⟨xs.length,82,2,some (xs.map bq.e)⟩)],3,[.obj 815,.obj 814,.obj 813,.obj 812,.obj 811]⟩
def arY{s:List az}(B:e7 s){l:List bq}(Q:iH l)(zv:l.length<=68719470000)(t:T)(aM:t.fit=true){g:List b7}(a1:jg g=true):
  bK ar 168 [.slice 5 .no (s.map az.e),.slice 2 .no (l.map bq.e),t.e,.str g] (jX (if(t.ap (cQ s)).size<=5000 then mU l (t.ap (cQ s)) g else none)):=by
 have o:=rI B;have p:=Qu aM;have n:=abw Q;have m:=ar4 a1;have d:=Ke s t B.len B.sol.asc B.fit;generalize ab:t.ap (cQ s)=x at d⊢;generalize w:(if x.size<=5000 then mU l x g else none)=O;by_cases q:x.size<=5000;rotate_left
 ·rw[if_neg q]at w;rw[<-w];rw[if_neg q,l0 q]at d;refine br a7 Tryz.func168 Ou fun R=>?_;unfold GL;simp;(repeat' first|refine ak ?_|refine aI o ?_|refine aJ o ?_|refine aI p ?_|refine aJ p ?_|refine aI n ?_|refine aJ n ?_|refine aI m ?_|refine aJ m ?_|refine aI d ?_|refine aJ d ?_|simp);simp[bF,aX,aY,aW];simp[jX]
 rw[if_pos q]at w;rw[if_pos q,lL q]at d;have u:=asu g x;cases z:x.has g;rotate_left
 ·rw[z]at u;have ez:O=none:=by rw[<-w];unfold mU;rw[z];rfl
  rw[ez];refine br a7 Tryz.func168 Ou fun R=>?_;unfold GL;simp;(repeat' first|refine ak ?_|refine aI o ?_|refine aJ o ?_|refine aI p ?_|refine aJ p ?_|refine aI n ?_|refine aJ n ?_|refine aI m ?_|refine aJ m ?_|refine aI d ?_|refine aJ d ?_|refine aI u ?_|refine aJ u ?_|simp);simp[bF,aX,aY,aW];simp[jX]
 rw[z]at u;refine br a7 Tryz.func168 Ou fun R=>?_;unfold GL;simp;(repeat' first|refine ak ?_|refine aI o ?_|refine aJ o ?_|refine aI p ?_|refine aJ p ?_|refine aI n ?_|refine aJ n ?_|refine aI m ?_|refine aJ m ?_|refine aI d ?_|refine aJ d ?_|refine aI u ?_|refine aJ u ?_|simp);have H:l.Nodup:=iB.nodup mN Q.asc;have K:∀xs:List bq,xs.Perm (x.fold (fun v l=>l2 ⟨v,g⟩ l) l)->O=some (qb fO xs):=fun xs P=>by
  rw[<-w];refine KC z ?_ fun y=>?_
  ·have J:=PU mN xs;have U:(qb fO xs).Nodup:=(((Ay fO xs).trans P).nodup_iff).2 (ah5 g x H);exact(J.and U).imp fun{a b} h=>by have:=mt (mN.zero a b).1 h.2;omega
  ·rw[((Ay fO xs).trans P).mem_iff,al6]
 have hlen:(x.fold (fun v l=>l2 ⟨v,g⟩ l) l).length<=68719475000:=by have:=ah4 g x l;omega
 rw[show kL []=pg []from rfl];refine gb (fun i (_:Unit)=>⟨[(7,.ptr (.obj 811) 0),(10,.ptr (.loc 1) 0),(12,.ptr (.obj 813) 0),(49,.slice 2 .no (l.map bq.e)),(50,.int .i64 l.length),(51,.int .i64 i)],[(.obj 811,[.str g]),(.loc 1,[.int .i64 x.kind,.int .i64 x.int,.str x.name,.slice 4 .no (x.args.map T.e)]),(.obj 812,pg (l.take i)),(.obj 813,[.gmap (.obj 812)])],[],2,[.obj 813,.obj 812,.obj 811]⟩) l.length (fun _ _=>True) () bU trivial (fun _ _ _=>?_) (fun i _ hi _ _=>?_)
 ·rw[lZ];simp;(repeat' first|refine ak ?_|simp);have key:=Vp (pH g) (Gx g) (Kv g) 188 [.ptr (.obj 813) 0,.ptr (.obj 811) 0] (by intro a;simp[inObs,pH,Pv.look,ay,au]) Ψ (fun v l=>l2 ⟨v,g⟩ l) (fun v a=>aih g v a) x l;refine cx.ob key (Gx g l) (by unfold pH;exact aG) (by unfold pH;exact aG) (by simp[inObs,pH,Pv.look]) ?_;rintro r aj ⟨rfl,rfl⟩;refine⟨Kv g _ _,?_⟩;unfold pH;generalize eU:x.fold (fun v l=>l2 ⟨v,g⟩ l) l=M at K hlen⊢;simp[bW];(repeat' first|refine ak ?_|simp);refine vJ (alb M) M.length _ ⟨by simp[fresh,ay,au,bX,inObs,Pv.look,B7],dH (by simp[fresh,ay,au,bX,inObs,Pv.look,B7]),dK (by simp[fresh,ay,au,dD,inObs,Pv.look,B7]),Ψ⟩ ⟨[],[],Ψ,Ψ,Ψ,Ψ,Ψ,rfl⟩ ?_;rintro k st ⟨seen,xs,D,A,ad,V,Z,rfl⟩ X cP;clear X cP;have hle:=JM D A;simp;refine aeR (mk:= .obj 812) (seen:=seen) (l:=M) Ψ Ψ rfl (fun Y=>?_) (fun b y F ae=>?_)
  ·have G:=PM D A Y;rw[<-V]at G;have dY:=K xs G;simp;(repeat' first|refine ak ?_|simp);have key:=aiW xs Ω;have N:=Kt xs;unfold yF ey at key N;refine cx.ob key N aG aG (by simp[inObs,Pv.look]) ?_;rintro r aj ⟨rfl,rfl⟩;refine⟨Same.keys Ψ Ψ,?_⟩;rw[dY];simp[bW];(repeat' first|refine ak ?_|simp);simp[bF,aX,aY,aW];simp[jX]
  ·have W:∀f:aB->aZ (List ah),f (.loc 2)=some (bX M.length (seen++[b]) (.obj 812))->f (.obj 812)=some (pg M)->qO f (.ptr (.loc 2) 0)=some (True,.tuple [y.e,.bool true]):=fun f J U=>ama f (.loc 2) (.obj 812) M.length seen b M y J U rfl F;have L:b<M.length:=(fp.1 F).1;have lu:=PN D A L ae;simp[W];(repeat' first|refine ak ?_|simp[W]);all_goals try refine⟨by unfold lim;omega,?_⟩
   have E:∀S:aB->Prop,ay S (xs.map bq.e++[y.e])=True:=fun S=>by
    have e:xs.map bq.e++[y.e]=(xs++[y]).map bq.e:=Ψ
    rw[e];simp[-sP]
   refine bQ.next (M.length-(seen.length+1)) Ω ⟨seen++[b],xs++[y],Ol D ae,(by simp;intro c aA;rcases aA with aA|rfl;exact A c aA;exact L),Ψ,by rw[List.filterMap_append,<-V];simp[F],by simp[Z],rfl⟩ ⟨by simp[fresh,ay,au,bX,inObs,Pv.look,B7,E],dH (by simp[fresh,ay,au,bX,inObs,Pv.look,B7,E]),dK (by simp[fresh,ay,au,dD,inObs,Pv.look,B7,E]),Ψ⟩
 ·obtain⟨b,ae,cK⟩:=dX hi;have kA:l2 b (l.take i)=l.take (i+1):=by
   have J:b∉l.take i:=fun h=>by
    obtain⟨j,af,e⟩:=oS h;have hM:j<i:=by simp at af;omega
    rw[List.getElem_take]at e;have:=(List.nodup_iff_pairwise_ne.1 H);exact(q1.1 this j i Ω hi hM) (by rw[e,cK])
   rw[pC,ae];simp[l2,J]
  exact hS
def R8:C:=(aa [bs 4 false] (.seq (aa [I 7 0,cd 8 7,bT 9 0] (fo 10 9 8 (.seq (.block 1 (aa [cq 11 5 7 9,bh 12 5 11,dV 6 kI,b1 5 6 12] (aa [aK 13 0 1 6,aw 14 1 13,I 15 1,bp 16 .geq 14 15,I 17 16,ax 17 false (fY 18 1 4 6),ax 17 false (bh 19 4 18),ys 17 false (.bsl 20 4 71 [.t 19]),ax 17 false (cI 21 135 20),ck 17 false 22 1,ax 17 false (bp 23 .gtr 21 22),dy 24 17 23] (aU 24 (aa [bs 4 false] .ret) .skip)))) (.region [aS 25 .add 9 1,I 9 25])))) (aa [bs 4 true] .ret)))
def R7:C:=(aa [bT 2 0] (.seq (aa [I 6 0,cI 7 97 6,cH 8 7] (aU 8 (aa [bT 2 (-1)] .ret) .skip)) (aa [cU (.alloc 3 (some 831) (.int .i64 0)),cU (.store 1 (.t 3) (gu 0))] (.seq (aa [I 9 0,cd 10 9,bT 11 0] (fo 12 11 10 (.seq (.block 1 (aa [cq 13 4 9 11,bh 14 4 13,dV 5 eb,b1 4 5 14] (.region [bh 15 4 5,bH 16 (.mkf 166 [.t 3]),ch 17 131 15 16]))) (.region [aS 18 .add 11 1,I 11 18])))) (aa [aw 19 1 3,I 2 19] .ret)))))
def R3:C:=(aa [e1 4 2,bs 5 false] (.seq (aa [I 11 0,cI 12 82 11,cH 13 12,I 14 13,ck 14 false 15 1,ax 14 false (cI 16 83 15),ax 14 false (cH 17 16),dy 18 14 17] (aU 18 (aa [e1 4 2,bs 5 false] .ret) .skip)) (aa [eE 19 2 78 [],I 6 19] (.seq (.seq (.fg false 6 (.region [I 20 1,cd 21 20,bT 22 0])) (fo 23 22 21 (.seq (.block 1 (aa [cq 24 2 20 22,bh 25 2 24,cU (.alloc 8 none (.agg [.int .i64 0,.int .i64 0])),b1 2 8 25] (.seq (.drawn true 42 [I 27 0,I 28 6,aK 29 0 1 8,aw 30 1 29,cI 31 50 30,aK 32 1 1 8,aw 33 1 32,ec 34 167 [.t 27,.t 28,.t 31,.t 33],I 26 34,dr 35 0 26,dr 36 1 26,I 9 35,I 10 36]) (.seq (aa [I 37 10,cH 38 37] (aU 38 (aa [e1 4 2,bs 5 false] .ret) .skip)) (.region [I 39 9,I 6 39]))))) (.region [aS 40 .add 22 1,I 22 40])))) (aa [I 41 6,I 4 41,bs 5 true] .ret)))))
def R4:C:=(aa [e1 4 2,bs 5 false] (.seq (aa [I 11 0,cI 12 82 11,cH 13 12,I 14 13,ck 14 false 15 1,ax 14 false (cI 16 84 15),ax 14 false (cH 17 16),dy 18 14 17] (aU 18 (aa [e1 4 2,bs 5 false] .ret) .skip)) (aa [eE 19 2 82 [],I 6 19] (.seq (.seq (.fg false 6 (.region [I 20 1,cd 21 20,bT 22 0])) (fo 23 22 21 (.seq (.block 1 (aa [cq 24 2 20 22,bh 25 2 24,cU (.alloc 8 none (.agg [.int .i64 0,.str []])),b1 2 8 25] (.seq (.drawn true 42 [I 27 0,I 28 6,aK 29 0 1 8,aw 30 1 29,cI 31 50 30,aK 32 1 1 8,aw 33 1 32,ec 34 168 [.t 27,.t 28,.t 31,.t 33],I 26 34,dr 35 0 26,dr 36 1 26,I 9 35,I 10 36]) (.seq (aa [I 37 10,cH 38 37] (aU 38 (aa [e1 4 2,bs 5 false] .ret) .skip)) (.region [I 39 9,I 6 39]))))) (.region [aS 40 .add 22 1,I 22 40])))) (aa [I 41 6,I 4 41,bs 5 true] .ret)))))
def RY:C:=(aa [e1 2 1] (.seq (aa [I 12 0,cd 13 12,bT 14 0] (fo 15 14 13 (.seq (.block 1 (aa [cq 16 1 12 14,aw 17 1 16,I 4 17] (aa [I 18 4,cI 19 82 18,cH 20 19] (aU 20 (aa [e1 2 1] .ret) .skip)))) (.region [aS 21 .add 14 1,I 14 21])))) (aa [cU (.bslm 22 (some 821) 1 30 []),I 23 0,cU (.appm 24 none 1 30 (.t 22) (.t 23)),cU (.alloc 5 (some 822) (.slice 1 .nil [])),b1 1 5 24] (aa [aw 25 1 5,bH 26 (.mkif 31 (.t 25)),bH 27 (.mkf 172 [.t 5]),ch 28 171 26 27] (aa [eE 29 1 30 [],I 6 29] (.seq (aa [aw 30 1 5,cd 31 30,bT 32 0] (.block 2 (.loop (aa [bp 33 .lss 32 31] (.seq (aU 33 .skip (.exit 2)) (.seq (.block 3 (aa [I 34 32,cq 35 1 30 32,aw 36 1 35,I 7 34,I 8 36] (.seq (aa [I 37 7,aS 38 .gtr 37 0,I 39 38,ax 39 true (aw 40 1 5),ck 39 true 41 7,ax 39 true (aS 42 .sub 41 1),ax 39 true (cq 43 1 40 42),ax 39 true (aw 44 1 43),ck 39 true 45 8,ax 39 true (ch 46 173 44 45),ax 39 true (aS 47 .eql 46 0),ei 48 39 47] (aU 48 (.exit 3) .skip)) (aa [bs 9 true] (.seq (aa [aw 49 1 5,cd 50 49,bT 51 0] (.block 4 (.loop (aa [bp 52 .lss 51 50] (.seq (aU 52 .skip (.exit 4)) (.seq (.block 5 (aa [cq 53 1 49 51,aw 54 1 53,I 11 54] (aa [I 55 11,I 56 8,ch 57 173 55 56,aS 58 .neq 57 0,I 59 58,ck 59 true 60 11,ck 59 true 61 8,ax 59 true (ch 62 174 60 61),ei 63 59 62] (aU 63 (.region [bs 9 false]) .skip)))) (.region [aS 64 .add 51 1,I 51 64]))))))) (aa [I 65 9] (aU 65 (.region [I 66 6,I 67 8,cI 68 141 67,eE 69 1 30 [.t 68],hv 70 1 30 66 69,I 6 70]) .skip))))))) (.region [aS 71 .add 32 1,I 32 71]))))))) (aa [I 72 6,I 2 72] .ret)))))))
def KV:C:=(.region [aw 3 1 1,I 4 0,aS 5 .add 4 1,bH 6 (.max2 (.t 3) (.t 5)),b1 1 1 6])
def RZ:C:=(aa [bs 5 false] (.seq (.drawn true 16 [aw 6 1 2,I 7 0,cq 8 1 6 7,aw 9 1 8,aw 10 1 2,I 11 1,cq 12 1 10 11,aw 13 1 12,ch 14 173 9 13,aS 15 .lss 14 0,I 5 15]) .ret))
def am6:b4 aT R8 [.tmp 4] 2 Tryz.f85=true:=an
def am5:b4 aT R7 [.tmp 2] 1 Tryz.f135=true:=an
def am1:b4 aT R3 [.tmp 4,.tmp 5] 2 Tryz.f136=true:=an
def am2:b4 aT R4 [.tmp 4,.tmp 5] 2 Tryz.f137=true:=an
def amY:b4 aT RY [.tmp 2] 1 Tryz.f140=true:=an
def YW:b4 aT KV [] 2 Tryz.f166=true:=an
def amZ:b4 aT RZ [.tmp 5] 3 Tryz.f172=true:=an
def Xi(s:List az)(l:List bR)(i:Nat)(a:List bR):Prop:=iR a/\gG s (l.drop i) a=gG s l []
def abx{s:List az}(g:e7 s){l:List bR}(j:iR l):bK ar 136 [.slice 5 .no (s.map az.e),.slice 2 .no (l.map bR.e)] (gC (gG s l [])):=by
 have p:=xY j;have k:=rI g;have m:=abu j;refine br a7 Tryz.func136 am1 fun q=>?_;unfold R3;simp;(repeat' first|refine ak ?_|refine aI k ?_|refine aJ k ?_|refine aI m ?_|refine aJ m ?_|simp);refine eH [0,20,21] (fun i (a:List bR)=>[(6,.slice 2 .no (a.map bR.e)),(22,.int .i64 i)]) l.length (Xi s l) [] bU ⟨⟨Ψ,Ψ⟩,rfl⟩ (fun a c _=>?_) (fun i a hi c _=>?_)
 ·obtain⟨_,c⟩:=c;rw[List.drop_length]at c;simp only[gG]at c;rw[<-c];simp;(repeat' first|refine ak ?_|simp);simp[bF,aX,aY,aW];simp[gC]
 ·obtain⟨n,c⟩:=c;obtain⟨b,ae,f⟩:=dX hi;have e:=j.at' b (ev ae);rw[mu hi,f]at c;simp only[gG]at c;have d:=arZ g n (.var b.v) (by simp[T.fit,T.ok,T.size,e.1]) b.k;have o:((T.var b.v).ap (cQ s)).size<=5000:=FU g b.v;rw[if_pos ⟨e.2,o⟩,show(T.var b.v).ap (cQ s)=cQ s b.v from rfl]at d;simp[hi,f];cases h:lf a (cQ s b.v) b.k with
  |none=>rw[h]at c d;simp only at c;rw[<-c];simp only[gC]at d;(repeat' first|refine ak ?_|refine aI (kR _) ?_|refine aJ (kR _) ?_|refine aI d ?_|refine aJ d ?_|simp[f,hi]);simp[bF,aX,aY,aW];simp[gC]
  |some bu=>rw[h]at c d;simp only[gC]at d;(repeat' first|refine ak ?_|refine aI (kR _) ?_|refine aJ (kR _) ?_|refine aI d ?_|refine aJ d ?_|simp[f,hi]);exact bQ.rng bu hi ⟨KB n (CQ g e.1) e.2 h,c⟩ bU
def Xj(s:List az)(G:List (List b7))(l:List bq)(i:Nat)(a:List bq):Prop:=iH a/\oL G a/\gH s (l.drop i) a=gH s l []
def aby{s:List az}(h:e7 s){l:List bq}(k:iH l){G:List (List b7)}(u:G.length<=687000)(a1:oL G l):bK ar 137 [.slice 5 .no (s.map az.e),.slice 2 .no (l.map bq.e)] (jX (gH s l [])):=by
 have hlen:∀{a:List bq},iH a->oL G a->a.length<=68719470000:=fun J U=>by have:=E8 J U;omega
 have t:=hlen k a1;have m:=rI h;have n:=abw k;refine br a7 Tryz.func137 am2 fun v=>?_;unfold R4;simp;(repeat' first|refine ak ?_|refine aI m ?_|refine aJ m ?_|refine aI n ?_|refine aJ n ?_|simp);refine eH [0,20,21] (fun i (a:List bq)=>[(6,.slice 2 .no (a.map bq.e)),(22,.int .i64 i)]) l.length (Xj s G l) [] bU ⟨⟨Ψ,by simp[iB]⟩,fun x q=>by simp at q,rfl⟩ (fun a c _=>?_) (fun i a hi c _=>?_)
 ·obtain⟨_,_,c⟩:=c;rw[List.drop_length]at c;simp only[gH]at c;rw[<-c];simp;(repeat' first|refine ak ?_|simp);simp[bF,aX,aY,aW];simp[jX]
 ·obtain⟨j,o,c⟩:=c;obtain⟨b,ae,g⟩:=dX hi;have e:=k.at' b (ev ae);have r:=a1 b (ev ae);rw[mu hi,g]at c;simp only[gH]at c;have d:=arY h j (hlen j o) (.var b.v) (by simp[T.fit,T.ok,T.size,e.1]) e.2;have p:((T.var b.v).ap (cQ s)).size<=5000:=FU h b.v;rw[if_pos p,show(T.var b.v).ap (cQ s)=cQ s b.v from rfl]at d;simp[hi,g];cases f:mU a (cQ s b.v) b.s with
  |none=>rw[f]at c d;simp only at c;rw[<-c];simp only[jX]at d;(repeat' first|refine ak ?_|refine aI (kR _) ?_|refine aJ (kR _) ?_|refine aI d ?_|refine aJ d ?_|simp[g,hi]);simp[bF,aX,aY,aW];simp[jX]
  |some bu=>rw[f]at c d;simp only[jX]at d;(repeat' first|refine ak ?_|refine aI (kR _) ?_|refine aJ (kR _) ?_|refine aI d ?_|refine aJ d ?_|simp[g,hi]);exact bQ.rng bu hi ⟨KD j (CQ h e.1) e.2 f,KE o r f,c⟩ bU
end
section
open Go Go.Pv Go.Lib
def c7(d:List az):ah:= .slice 5 .no (d.map az.e)
@[simp]def av4(S:aB->Prop)(d:List az):au S (c7 d)=True:=by simp[c7]
@[simp]def aue(d:List az):cells (c7 d)=[c7 d]:=rfl
@[simp]def axn(d:List az):fh (c7 d)=true:=rfl
@[simp]def axM(d:List az):de (c7 d)=c7 d:=by simp[c7]
def Uj:∀(S:aB->Prop) (x:List az),au S (c7 x):=fun S x=>by simp
def NG(S:aB->Prop):∀l:List (List az),ay S (l.map c7)
 |[]=>by simp[ay]
 |x::xs=>by simp[ay,NG S xs]
@[simp]def XS(S:aB->Prop)(l:List (List az)):ay S (l.map c7)=True:=eq_true (NG S l)
@[simp]def P2:∀l:List (List az),cR (l.map c7)=l.map c7
 |[]=>rfl
 |x::xs=>by simp[cR,P2 xs]
def gz(d:List dm):ah:= .slice 5 .no (d.map dm.e)
@[simp]def aug(d:List dm):cells (gz d)=[gz d]:=rfl
@[simp]def axp(d:List dm):fh (gz d)=true:=rfl
def Lq(d:List az):gz (d.map az.b)=c7 d:=by simp only[gz,c7,zX]
def Lr(l:List (List az)):(l.map fun d=>d.map az.b).map gz=l.map c7:=by rw[List.map_map];exact List.map_congr_left fun d _=>Lq d
@[simp]def av7(S:aB->Prop)(d:List dm):au S (gz d)=True:=by simp[gz]
@[simp]def axP(d:List dm):de (gz d)=gz d:=by simp[gz]
def XU(S:aB->Prop):∀l:List (List dm),ay S (l.map gz)
 |[]=>by simp[ay]
 |x::xs=>by simp[ay,XU S xs]
@[simp]def avY(S:aB->Prop)(l:List (List dm)):ay S (l.map gz)=True:=eq_true (XU S l)
abbrev vv(l:List (List az)):cS:=ey c7 821 822 30 1 l
def Kq(l:List (List az)):ea (vv l):=yG Uj l
def ail(l:List (List az))(m:l.length<=68719476736)(i j:Nat)(x y:List az)(hi:l[i]? =some x)(h:l[j]? =some y):bG ar 172 [.int .i64 i,.int .i64 j,.ptr (.obj 822) 0] (vv l) fun r g=>r= .bool (ix e5 x y)/\g=vv l:=by have a:=Kq l;obtain⟨c,d⟩:=fp.1 hi;obtain⟨e,b⟩:=fp.1 h;have f:bK ar 173 [c7 x,c7 y] (.int .i64 (e5 x y)):=Kc x y;unfold vv ey at a⊢;refine bG.mk mixed a7 Tryz.func172 amZ Ψ a.obj fun n k=>?_;unfold RZ;simp[c,e,d,b];(repeat' first|refine ak ?_|refine aI f ?_|refine aJ f ?_|simp[c,e,d,b]);refine cJ.at _ (.inl rfl) a (Same.refl _) aG aG ?_;simp[cM,aX,aY,aW,ix]
noncomputable def Tryz.dsT:TypeInfo:=(ar.info? 31).get an
noncomputable def Tryz.dsE:TypeInfo:=(ar.info? 30).get an
def Tryz.dsK(n:Nat)(U:2<=n):Lib.swapperK n Tryz.dsE 23=9:=by
 have a:Tryz.dsE.hasPointers=true:=an
 have b:Tryz.dsE.bytes=24:=an
 have c:(n==0)=false:=by simp;omega
 have d:(n==1)=false:=by simp;omega
 simp[Lib.swapperK,a,b,c,d]
def aiU(l:List (List az))(d:l.length<=68719476736):bG ar 171 [.iface 31 (.row 1 (.obj 821) l.length),.func 172 [.ptr (.obj 822) 0]] (vv l) fun r b=>r= .tuple []/\b=vv (qb e5 l):=by
 refine(aio Uj (K:=821) (B:=822) (sz:=1) 31 Tryz.dsT Tryz.dsE an an an an 23 (fun _=>by kernel_rfl) Tryz.dsK 172 ww (ix e5) mM.ltOk l d (fun a h i j x y hi c=>ail a Ω i j x y hi c) (fun a h i j hi c=>?_)).mono ?_
 ·have:=Vz (P:=ar) false 223 (fun args W=>run_callFunc_extern Tryz.func223 an an an (e:=Gp false) an args W)
   30 Tryz.dsE an (.inr ⟨by kernel_rfl,fun _=>by kernel_rfl⟩) (Kq a) (K:=821) (n:=l.length) (el:=30) (sz:=1) an (xs:=a.map c7) (by simp[ey,Pv.look,h]) i j hi c
  refine this.mono ?_;rintro r b ⟨rfl,rfl⟩;refine⟨rfl,?_⟩;simp[ey,cG,Ye,h]
 ·rintro r b ⟨rfl,a,rfl,J,U⟩;exact⟨rfl,by rw[aaU mM J U]⟩
end
section
open Go Go.Pv
inductive hy where
 |s (l:List b7)
 |b (x:lK)
def hy.e:hy->ah
 | .s l=>.str l
 | .b x=>.cst (.string x)
def hy.len:hy->Int
 | .s l=>l.length
 | .b x=>x.size
def nZ(n:Nat):Prop:=lim<n/\n<=9223372036854775807
def hy.wf:hy->Prop
 | .s _=>True
 | .b x=>nZ x.size
inductive dn (α:Type) where
 |l (xs:List α)
 |b (p:aZ Addr) (n cap:Nat)
def dn.e{α:Type}(sz:Nat)(f:α->ah):dn α->ah
 | .l xs=>.slice sz .no (xs.map f)
 | .b p n cap=>.cst (.slice p n cap)
def dn.wf{α:Type}(P:α->Prop):dn α->Prop
 | .l xs=> ∀x∈xs,P x
 | .b _ n _=>nZ n
inductive cv where
 |mk (k n:Int) (s:hy) (a:List cv)
 |big (k n:Int) (s:hy) (p:aZ Addr) (len cap:Nat)
mutual
def cv.e:cv->ah
 | .mk k n s a=>.agg [.int .i64 k,.int .i64 n,s.e,.slice 4 .no (cv.eL a)]
 | .big k n s p len cap=>.agg [.int .i64 k,.int .i64 n,s.e,.cst (.slice p len cap)]
def cv.eL:List cv->List ah
 |[]=>[]
 |x::xs=>x.e::cv.eL xs
end
def cv.eL_map:∀l,cv.eL l=l.map cv.e
 |[]=>rfl
 |x::xs=>by simp[cv.eL,cv.eL_map xs]
def cv.kind:cv->Int| .mk k _ _ _=>k| .big k _ _ _ _ _=>k
def cv.num:cv->Int| .mk _ n _ _=>n| .big _ n _ _ _ _=>n
def cv.name:cv->hy| .mk _ _ s _=>s| .big _ _ s _ _ _=>s
def cv.args:cv->dn cv| .mk _ _ _ a=>.l a| .big _ _ _ p l c=>.b p l c
def cv.e_eq(t:cv):t.e= .agg [.int .i64 t.kind,.int .i64 t.num,t.name.e,t.args.e 4 cv.e]:=by
 cases t with
 |mk k n s a=>simp only[cv.e,cv.eL_map];rfl
 |big=>rfl
@[simp]def awb(S:aB->Prop)(s:hy):au S s.e=True:=by cases s<;>simp[hy.e,au]
@[simp]def axS(s:hy):de s.e=s.e:=by cases s<;>simp[hy.e,de]
mutual
def XX(S:aB->Prop):∀t:cv,au S t.e
 | .mk k n s a=>by simp[cv.e,au,ay,NH S a]
 | .big k n s p l c=>by simp[cv.e,au,ay]
def NH(S:aB->Prop):∀l:List cv,ay S (cv.eL l)
 |[]=>by simp[cv.eL,ay]
 |x::xs=>by simp[cv.eL,ay,XX S x,NH S xs]
end
mutual
def aa0:∀t:cv,de t.e=t.e
 | .mk k n s a=>by simp[cv.e,de,cR,P3 a]
 | .big k n s p l c=>by simp[cv.e,de,cR]
def P3:∀l:List cv,cR (cv.eL l)=cv.eL l
 |[]=>by simp[cv.eL,cR]
 |x::xs=>by simp[cv.eL,cR,aa0 x,P3 xs]
end
@[simp]def awm(S:aB->Prop)(t:cv):au S t.e=True:=eq_true (XX S t)
@[simp]def avW(S:aB->Prop)(l:List cv):ay S (l.map cv.e)=True:=by rw[<-cv.eL_map];exact eq_true (NH S l)
@[simp]def ax0(t:cv):de t.e=t.e:=aa0 t
@[simp]def axH(l:List cv):cR (l.map cv.e)=l.map cv.e:=by rw[<-cv.eL_map];exact P3 l
@[simp]def avG(t:cv):Pv.isAgg 4 t.e:=by rw[cv.e_eq];exact⟨_,rfl,rfl⟩
@[simp]def awa(S:aB->Prop)(x:dn cv):au S (x.e 4 cv.e)=True:=by cases x<;>simp[dn.e,au]
@[simp]def axR(x:dn cv):de (x.e 4 cv.e)=x.e 4 cv.e:=by cases x<;>simp[dn.e,de]
mutual
def cv.sz:cv->Nat
 | .mk _ _ _ a=>1+cv.szL a
 | .big _ _ _ _ _ _=>1
def cv.szL:List cv->Nat
 |[]=>0
 |x::xs=>x.sz+cv.szL xs
end
def cv.szL_mem:∀{l:List cv} {x:cv},x∈l->x.sz<=cv.szL l
 |y::l,x,h=>by
  rcases gj.1 h with rfl|h
  ·simp[cv.szL]
  ·have:=cv.szL_mem h;simp[cv.szL];omega
mutual
def cv.wf:cv->Prop
 | .mk _ _ s a=>s.wf/\cv.wfL a
 | .big _ _ s _ l _=>s.wf/\nZ l
def cv.wfL:List cv->Prop
 |[]=>True
 |x::xs=>x.wf/\cv.wfL xs
end
def cv.wfL_iff:∀{l:List cv},cv.wfL l↔∀x∈l,x.wf
 |[]=>by simp[cv.wfL]
 |x::l=>by simp[cv.wfL,cv.wfL_iff (l:=l)]
def kt{α:Type}(f:α->Int->Int):List α->Int->Int
 |[],m=>m
 |x::xs,m=>if f x m<0 then-1 else kt f xs (f x m)
def oK{α:Type}(f:α->Int->Int)(l:List α)(m:Int):Int:=if m-l.length<0 then-1 else kt f l (m-l.length)
def gP{α:Type}(f:α->Int->Int):dn α->Int->Int
 | .l xs,m=>oK f xs m
 | .b _ _ _,_=> -1
def aa5{α:Type}{f:α->Int->Int}(a:∀x m,0<=m-> -1<=f x m/\f x m<=m):∀(l:List α) (m:Int),0<=m-> -1<=kt f l m/\kt f l m<=m
 |[],m,h=>by simp only[kt];omega
 |x::xs,m,h=>by
  have J:=a x m h;simp only[kt];split
  ·omega
  ·have U:=aa5 a xs (f x m) Ω;omega
def arx{α:Type}{f:α->Int->Int}(a:∀x m,0<=m-> -1<=f x m/\f x m<=m)(l:List α)(m:Int)(h:0<=m): -1<=oK f l m/\oK f l m<=m:=by
 unfold oK;split
 ·omega
 ·have:=aa5 a l (m-l.length) Ω;omega
def w1{α:Type}{f:α->Int->Int}(a:∀x m,0<=m-> -1<=f x m/\f x m<=m)(l:dn α)(m:Int)(h:0<=m): -1<=gP f l m/\gP f l m<=m:=by
 cases l with
 |l xs=>exact arx a xs m h
 |b=>simp only[gP];omega
mutual
def h4:cv->Int->Int
 | .mk _ _ s a,m=>if m-s.len<0 then-1 else if m-s.len-a.length<0 then-1 else qW a (m-s.len-a.length)
 | .big _ _ s _ _ _,m=>if m-s.len<0 then-1 else-1
def qW:List cv->Int->Int
 |[],m=>m
 |x::xs,m=>if h4 x m<0 then-1 else qW xs (h4 x m)
end
def P9:∀(l:List cv) (m:Int),qW l m=kt h4 l m
 |[],m=>rfl
 |x::xs,m=>by simp only[qW,kt,P9 xs]
def JZ(t:cv)(m:Int):h4 t m=if m-t.name.len<0 then-1 else gP h4 t.args (m-t.name.len):=by
 cases t with
 |mk=>simp only[h4,gP,oK,P9,cv.name,cv.args];rfl
 |big=>simp only[h4,gP,cv.name,cv.args];rfl
def hy.len_nn(s:hy):0<=s.len:=by cases s<;>simp[hy.len]
mutual
def w2:∀(t:cv) (m:Int),0<=m-> -1<=h4 t m/\h4 t m<=m
 | .mk _ _ s a,m,h=>by
  have:=s.len_nn;simp only[h4];split
  ·omega
  ·split
   ·omega
   ·have:=aa8 a (m-s.len-a.length) Ω;omega
 | .big _ _ s _ _ _,m,h=>by simp only[h4];split<;>omega
def aa8:∀(l:List cv) (m:Int),0<=m-> -1<=qW l m/\qW l m<=m
 |[],m,h=>by simp only[qW];omega
 |x::xs,m,h=>by
  have J:=w2 x m h;simp only[qW];split
  ·omega
  ·have U:=aa8 xs (h4 x m) Ω;omega
end
def hy.small{s:hy}(hw:s.wf){m:Int}(a:m<=1048576)(h:0<=m-s.len):∃l,s= .s l:=by
 cases s with
 |s l=>exact⟨l,rfl⟩
 |b x=>simp only[hy.wf,nZ,lim]at hw;simp only[hy.len]at h;omega
mutual
def oN:bO->cv
 | .mk k n s a=>.mk k n (.s s) (rG a)
def rG:List bO->List cv
 |[]=>[]
 |x::xs=>oN x::rG xs
end
def Qj:∀l,rG l=l.map oN
 |[]=>rfl
 |x::xs=>by simp[rG,Qj xs]
mutual
def Qk:∀t:bO,(oN t).e=enc t
 | .mk k n s a=>by simp only[oN,cv.e,enc,abh a];rfl
def abh:∀l:List bO,cv.eL (rG l)=qu l
 |[]=>rfl
 |x::xs=>by simp only[rG,cv.eL,qu,Qk x,abh xs]
end
mutual
def Qb:∀(t:cv) (m:Int),t.wf->m<=1048576->0<=m->0<=h4 t m->∃u:bO,t=oN u
 | .mk k n s a,m,hw,J,c,h=>by
  simp only[cv.wf]at hw;simp only[h4]at h;have:=s.len_nn;split at h
  ·omega
  rename_i g;obtain⟨l,rfl⟩:=hy.small hw.1 J Ω;split at h
  ·omega
  obtain⟨b,ae⟩:=aa9 a _ hw.2 Ω Ω h;exact⟨.mk k n l b,by simp only[oN,ae]⟩
 | .big _ _ s _ _ _,m,_,_,_,h=>by simp only[h4]at h;split at h<;>omega
def aa9:∀(l:List cv) (m:Int),cv.wfL l->m<=1048576->0<=m->0<=qW l m->∃u:List bO,l=rG u
 |[],_,_,_,_,_=>⟨[],rfl⟩
 |x::xs,m,hw,J,a,h=>by
  simp only[cv.wfL]at hw;simp only[qW]at h;have U:=w2 x m a;split at h
  ·omega
  obtain⟨u,hu⟩:=Qb x m hw.1 J a Ω;obtain⟨v,b⟩:=aa9 xs _ hw.2 Ω Ω h;exact⟨u::v,by simp only[rG,hu,b]⟩
end
def aa6{α β:Type}{f:α->Int->Int}{P:α->Prop}{g:β->α}(hle:∀x m,0<=m-> -1<=f x m/\f x m<=m)(b:∀x m,P x->m<=1048576->0<=m->0<=f x m->∃y,x=g y):∀(l:List α) (m:Int),(∀x∈l,P x)->m<=1048576->0<=m->0<=kt f l m->∃u:List β,l=u.map g
 |[],_,_,_,_,_=>⟨[],rfl⟩
 |x::xs,m,hw,J,a,h=>by
  simp only[kt]at h;have U:=hle x m a;split at h
  ·omega
  obtain⟨u,hu⟩:=b x m (hw x Ψ) J a Ω;obtain⟨v,d⟩:=aa6 hle b xs _ (fun y c=>hw y (by simp[c])) Ω Ω h;exact⟨u::v,by rw[fG,<-hu,<-d]⟩
def JY{α β:Type}{f:α->Int->Int}{P:α->Prop}{g:β->α}(hle:∀x m,0<=m-> -1<=f x m/\f x m<=m)(a:∀x m,P x->m<=1048576->0<=m->0<=f x m->∃y,x=g y)(l:dn α)(m:Int)(hw:l.wf P)(J:m<=1048576)(c:0<=m)(h:0<=gP f l m):∃u:List β,l= .l (u.map g):=by
 cases l with
 |b=>simp only[gP]at h;omega
 |l xs=>
  simp only[gP,oK]at h;split at h
  ·omega
  obtain⟨u,hu⟩:=aa6 hle a xs _ hw Ω Ω h;exact⟨u,by rw[hu]⟩
end
end Go.Proofs.YtfeencekjcjalaaGreatDoor
