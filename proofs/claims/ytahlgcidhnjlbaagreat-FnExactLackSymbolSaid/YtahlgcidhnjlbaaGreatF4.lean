/- Contracts: disequalities in order. -/
import Derived.Lib.OwnBridge
import Derived.Shelf.GgSortMore.Stable
import Derived.Shelf.GgSortFunc.SmallK
import Derived.Shelf.GgSortFunc.Slice
import Derived.Ground.GgsProg
import Derived.Test.YtahlgcidhnjlbaaGreatProg
import Derived.Test.YtahlgcidhnjlbaaGreatF3
set_option linter.all false
set_option maxHeartbeats 4000000
set_option maxRecDepth 4000
open Array renaming getElem?_toList->vn
open BitVec renaming ofInt->rQ
open Bool renaming and_eq_true->cR,eq_iff_iff->q2,false_eq_true->hT,not_eq_true'->sN,or_eq_true->og
open Go renaming Program->cI,TypeId->gQ
open Go.Extern.ReflectliteSwapper renaming swap->Gi,swapper->ayk
open Go.Extern.ReflectliteValue renaming len->ayl,method->aym,unpack->atD,valueError->atE
open Go.Extern.Rtype renaming kind->adj
open Go.IntKind renaming bits->ps,i64->vo,signed->uc,u64->im,wrap->ud
open Go.IntWalk renaming i64_in->pt
open Go.Proofs.Tryz renaming prog->au
open Go.Result renaming andThen_ok->gC
open Go.Sem renaming run_bind->gy,run_pure->hG
open Go.Value.slice renaming injEq->ayp
open List renaming cons_append->b6,drop_eq_getElem_cons->lH,getElem?_append_left->rS,getElem?_append_right->vp,getElem?_eq_getElem->cl,getElem?_eq_none->q3,getElem?_eq_some_iff->fH,getElem_of_mem->pA,length_append->qe,length_cons->mw,map_cons->ha,mem_append->kg,mem_cons->gJ,mem_cons_of_mem->qf,mem_map->hb,mem_of_getElem?->ft,nil_append->ca,nodup_append->rT,pairwise_iff_getElem->q4,take_length->jC,take_of_length_le->ix
open List.Pairwise renaming map->ayq
open List.cons renaming injEq->rR
open Nat renaming add_mul->q5,le_refl->dP,le_trans->kE,mul_le_mul_right->rU
open Option renaming isSome_iff_exists->fx,isSome_none->kh,map_eq_some_iff->hs,map_some->pB
open Option.some renaming injEq->dU
open Prod.mk renaming injEq->js
open _root_ renaming False->er,Option->be,UInt8->cJ,and_true->jf,beq_iff_eq->ey,congrArg->fy,decide_eq_false->mx,decide_eq_false_iff_not->iR,decide_eq_true->lK,decide_eq_true_eq->gz,eq_true->h4
namespace Go.Proofs.YtahlgcidhnjlbaaGreat
section
open Go Go.Pv
variable {α:Type} [Inhabited α] {S:List α->cT} {n g cr:Nat} {lc ch:List af} {lt:α->α->Bool}
def wO{p:α->Bool}{d:Array α}{i j:Nat}(h:¬(i<=j/\p d[j]! =true)):Sort.scanDown p d i j=j:=by
 cases j with
 |zero=>rfl
 |succ j=>rw[Sort.scanDown,if_neg (by simpa using h)]
def CO{p:α->Bool}{d:Array α}{i j:Nat}(h:¬(i<=j/\p d[i]! =true)):Sort.scanUp p d j i=i:=by rw[Sort.scanUp,if_neg (by simpa using h)]
def Qe{p:α->Bool}{d:Array α}{i j:Nat}(J:i<=j)(U:p d[i]! =true):Sort.scanUp p d j i=Sort.scanUp p d j (i+1):=by rw[Sort.scanUp,if_pos (by simp[J,U])]
def Qd{p:α->Bool}{d:Array α}{i j:Nat}(J:i<=j+1)(U:p d[j+1]! =true):Sort.scanDown p d i (j+1)=Sort.scanDown p d i j:=by rw[Sort.scanDown,if_pos (by simp[J,U])]
def aje(H:fT S n g cr lc ch lt)(d:Array α)(P:d.size=n)(a b pivot:Nat)(tb:a<=pivot)(akW:pivot<b)(ni:a+1<b)(ag:b<=n):
  bH au 244 [fC g cr lc ch,aj a,aj b,aj pivot] (S d.toList) fun r ak=>r= .tuple [aj (Sort.partition lt d a b pivot).1,.bool (Sort.partition lt d a b pivot).2.1]/\∃N,ak=S N.toList/\N=(Sort.partition lt d a b pivot).2.2/\N.size=n:=by
 obtain⟨R,bt⟩:∃R,R=Sort.partition lt d a b pivot:=⟨_,rfl⟩;rw[<-bt];unfold Sort.partition at bt;have Q:=H.ok d.toList;have k:d.toList.length=n:=by simpa using P
 have U:∀l m,ae (.loc m) (S l).b=none:=fun l=>(H.ok l).obj.1;have hu:∀l m cs,cK (.loc m) cs (S l).b=(S l).b++[(.loc m,cs)]:=fun l m cs=>kO (U l m);have ar:∀m,aB.loc m∉cL (S d.toList):=kK Q.obj;have hle:=H.le;refine bH.mk mixed a1 Tryz.func244 aoJ Ψ Q.obj fun aR c4=>?_;unfold Tl;simp[fC,hu,ar,c6,U];rw[H.ssc];refine H.swapA0 P Ω a pivot Ω Ω fun o=>?_;obtain⟨d1,L⟩:∃d1,d1=Sort.swp d a pivot:=⟨_,rfl⟩;have s1:d1.size=n:=by rw[L,hR,P]
 rw[<-L];simp only[<-L]at bt;have al:((a:Int)+1)=(a+1:Nat):=Ω
 have aC:((b:Int)-1)=(b-1:Nat):=Ω
 simp;(repeat' first|refine ao ?_|simp);rw[al,aC];refine H.loopA k [1,4,11] (fun(i:Nat)=>[(10,aj i)]) (fun _=>d1) (fun i=>b+1-i) (fun i=>a+1<=i/\i<=b/\Sort.scanUp (fun x=>lt x d1[a]!) d1 (b-1) i=Sort.scanUp (fun x=>lt x d1[a]!) d1 (b-1) (a+1)) (a+1) s1 ⟨Ω,Ω,rfl⟩ (by simp[ae]) aX aX dl ?_;rintro i ⟨i1,i2,i3⟩;simp[ae,H.slc];((repeat' first|refine ao ?_|simp[ae,H.slc]|((first|apply ct|apply cz|apply cy)<;>intro h<;>try simp at h))<;>(try exact c3));refine H.lessA s1 i a Ω Ω fun o=>?_;cases O:lt d1[i]! d1[a]!;rotate_left
 ·have E:((i:Int)+1)=(i+1:Nat):=Ω
  simp;(repeat' first|refine ao ?_|simp);rw[E];refine bY.whl (i+1) Ω ⟨Ω,Ω,by rw[<-i3];exact(Qe (p:=fun x=>lt x d1[a]!) Ω O).symm⟩ (H.weakC k (by simpa using s1) dl)
 rotate_left
 ·have i4:Sort.scanUp (fun x=>lt x d1[a]!) d1 (b-1) i=i:=CO (by simp[O]);rw[i4]at i3;rw[<-i3]at bt;simp;refine H.loopA k [1,4,10] (fun(j:Nat)=>[(11,aj j)]) (fun _=>d1) (fun j=>j) (fun j=>i<=j+1/\j<=b-1/\Sort.scanDown (fun x=> !lt x d1[a]!) d1 i j=Sort.scanDown (fun x=> !lt x d1[a]!) d1 i (b-1)) (b-1) s1 ⟨Ω,Ω,rfl⟩ (by simp[ae]) aX aX dl ?_;rintro j ⟨iu,xP,u⟩;simp[ae,H.slc];((repeat' first|refine ao ?_|simp[ae,H.slc,H.ssc]|((first|apply ct|apply cz|apply cy)<;>intro h<;>try simp at h))<;>(try exact c3))
  ·refine H.lessA s1 j a Ω Ω fun o=>?_;cases A:lt d1[j]! d1[a]!
   ·obtain⟨j,rfl⟩:∃dh,j=dh+1:=⟨j-1,Ω⟩;have F:(((j+1:Nat):Int)-1)=(j:Nat):=Ω
    simp;(repeat' first|refine ao ?_|simp);try rw[F]
    refine bY.whl j Ω ⟨Ω,Ω,by rw[<-u];exact(Qd (p:=fun x=> !lt x d1[a]!) Ω (by simp[A])).symm⟩ (H.weakC k (by simpa using s1) dl)
   ·have t:Sort.scanDown (fun x=> !lt x d1[a]!) d1 i j=j:=wO (by simp[A]);have Y:i≠j:=fun e=>by subst e;rw[O]at A;cases A
    rw[t]at u;rw[<-u,if_neg Ω]at bt;simp;((repeat' first|refine ao ?_|simp[ae,H.slc,H.ssc]|((first|apply ct|apply cz|apply cy)<;>intro h<;>try simp at h))<;>(try exact c3));refine H.swapA s1 Ω i j Ω Ω fun o=>?_;obtain⟨d2,M⟩:∃d2,d2=Sort.swp d1 i j:=⟨_,rfl⟩;have s2:d2.size=n:=by rw[M,hR,s1]
    rw[<-M];rw[<-M]at bt;have bh:((i:Int)+1)=(i+1:Nat):=Ω
    have b3:((j:Int)-1)=(j-1:Nat):=Ω
    simp;(repeat' first|refine ao ?_|simp);rw[bh,b3];refine H.loopA k [1,4] (fun(x:(Nat×Nat)×Array α)=>[(10,aj x.1.1),(11,aj x.1.2)]) (·.2) (fun x=>x.1.2+1-x.1.1) (fun x=>x.2.size=n/\(a+1<=x.1.1/\x.1.1<=x.1.2+1/\x.1.2<=b-1)/\Sort.partLoop lt a x.1.1 x.1.2 x.2=Sort.partLoop lt a (i+1) (j-1) d2) ((i+1,j-1),d2) s2 ⟨s2,⟨by simp;omega,by simp;omega,by simp;omega⟩,rfl⟩ (by simp[ae]) aX aX dl ?_;rintro⟨⟨K,dh⟩,c⟩ ⟨f,⟨bE,Z,V⟩,s⟩;simp only at f bE Z V s;rw[Sort.partLoop]at s;generalize kG:Sort.partLoop lt a (i+1) (j-1) d2=G at s bt;simp;refine H.loopA k [1,4,11] (fun(x:Nat)=>[(10,aj x)]) (fun _=>c) (fun x=>b+1-x) (fun x=>K<=x/\x<=dh+1/\Sort.scanUp (fun x=>lt x c[a]!) c dh x=Sort.scanUp (fun x=>lt x c[a]!) c dh K) K f ⟨Ω,Ω,rfl⟩ (by simp[ae]) aX aX dl ?_;rintro p ⟨c2,dD,v⟩;simp[ae,H.slc];((repeat' first|refine ao ?_|simp[ae,H.slc]|((first|apply ct|apply cz|apply cy)<;>intro h<;>try simp at h))<;>(try exact c3))
    ·refine H.lessA f p a Ω Ω fun o=>?_;cases J:lt c[p]! c[a]!;rotate_left
     ·have E:((p:Int)+1)=(p+1:Nat):=Ω
      simp;(repeat' first|refine ao ?_|simp);rw[E];refine bY.whl (p+1) Ω ⟨Ω,Ω,by rw[<-v];exact(Qe (p:=fun x=>lt x c[a]!) Ω J).symm⟩ (H.weakC k (by simpa using f) dl)
     ·have B:Sort.scanUp (fun x=>lt x c[a]!) c dh p=p:=CO (by simp[J]);rw[B]at v;simp only[<-v]at s;simp;refine H.loopA k [1,4,10] (fun(x:Nat)=>[(11,aj x)]) (fun _=>c) (fun x=>x) (fun x=>p<=x+1/\x<=dh/\Sort.scanDown (fun x=> !lt x c[a]!) c p x=Sort.scanDown (fun x=> !lt x c[a]!) c p dh) dh f ⟨Ω,Ω,rfl⟩ (by simp[ae]) aX aX dl ?_;rintro q ⟨ba,bB,y⟩;simp[ae,H.slc];((repeat' first|refine ao ?_|simp[ae,H.slc,H.ssc]|((first|apply ct|apply cz|apply cy)<;>intro h<;>try simp at h))<;>(try exact c3))
      ·refine H.lessA f q a Ω Ω fun o=>?_;cases z:lt c[q]! c[a]!
       ·obtain⟨q,rfl⟩:∃dh,q=dh+1:=⟨q-1,Ω⟩;have F:(((q+1:Nat):Int)-1)=(q:Nat):=Ω
        simp;(repeat' first|refine ao ?_|simp);try rw[F]
        refine bY.whl q Ω ⟨Ω,Ω,by rw[<-y];exact(Qd (p:=fun x=> !lt x c[a]!) Ω (by simp[z])).symm⟩ (H.weakC k (by simpa using f) dl)
       ·have w:Sort.scanDown (fun x=> !lt x c[a]!) c p q=q:=wO (by simp[z]);have Y:p≠q:=fun e=>by subst e;rw[J]at z;cases z
        rw[w]at y;simp only[<-y]at s;rw[if_neg Ω,dif_pos Ω]at s;simp;((repeat' first|refine ao ?_|simp[ae,H.slc,H.ssc]|((first|apply ct|apply cz|apply cy)<;>intro h<;>try simp at h))<;>(try exact c3));refine H.swapA f Ω p q Ω Ω fun o=>?_;have X:((p:Int)+1)=(p+1:Nat):=Ω
        have W:((q:Int)-1)=(q-1:Nat):=Ω
        simp;(with_reducible repeat' first|((first|apply ct|apply cz|apply cy)<;>intro h<;>try simp at h)|refine ao ?_|simp);rw[X,W];refine bY.whl ((p+1,q-1),Sort.swp c p q) d6 ⟨by rw[hR,f],⟨by simp;omega,by simp;omega,by simp;omega⟩,s⟩ (H.weakC k (by simp[hR,f]) dl)
      ·have w:Sort.scanDown (fun x=> !lt x c[a]!) c p q=q:=wO Ω;rw[w]at y;simp only[<-y]at s;rw[if_pos Ω]at s;rw[<-s]at bt;refine H.swapA f Ω q a Ω Ω fun o=>?_;simp;refine H.retR k (d:=Sort.swp c q a) (by rw[hR,f]) (.inl rfl) ?_;simp[dd,bc,bf,a6];rw[bt];exact⟨⟨rfl,rfl⟩,_,rfl,rfl,by rw[hR,f]⟩
    ·have B:Sort.scanUp (fun x=>lt x c[a]!) c dh p=p:=CO Ω;rw[B]at v;simp only[<-v]at s;have w:Sort.scanDown (fun x=> !lt x c[a]!) c p dh=dh:=wO Ω;rw[w,if_pos Ω]at s;rw[<-s]at bt;refine H.loopA k [1,4,10] (fun(x:Nat)=>[(11,aj x)]) (fun _=>c) (fun x=>x) (fun x=>x=dh) dh f rfl (by simp[ae]) aX aX dl ?_;rintro q rfl;simp[ae,H.slc];((repeat' first|refine ao ?_|simp[ae,H.slc,H.ssc]|((first|apply ct|apply cz|apply cy)<;>intro h<;>try simp at h))<;>(try exact c3));refine H.swapA f Ω q a Ω Ω fun o=>?_;simp;refine H.retR k (d:=Sort.swp c q a) (by rw[hR,f]) (.inl rfl) ?_;simp[dd,bc,bf,a6];rw[bt];exact⟨⟨rfl,rfl⟩,_,rfl,rfl,by rw[hR,f]⟩
  ·have t:Sort.scanDown (fun x=> !lt x d1[a]!) d1 i j=j:=wO Ω;rw[t]at u;rw[<-u,if_pos Ω]at bt;refine H.swapA s1 Ω j a Ω Ω fun o=>?_;simp;refine H.retR k (d:=Sort.swp d1 j a) (by rw[hR,s1]) (.inl rfl) ?_;simp[dd,bc,bf,a6];rw[bt];exact⟨⟨rfl,rfl⟩,_,rfl,rfl,by rw[hR,s1]⟩
 ·have i4:Sort.scanUp (fun x=>lt x d1[a]!) d1 (b-1) i=i:=CO Ω;rw[i4]at i3;have t:Sort.scanDown (fun x=> !lt x d1[a]!) d1 i (b-1)=b-1:=wO Ω;rw[<-i3,t,if_pos Ω]at bt;refine H.loopA k [1,4,10] (fun(j:Nat)=>[(11,aj j)]) (fun _=>d1) (fun j=>j) (fun j=>j=b-1) (b-1) s1 rfl (by simp[ae]) aX aX dl ?_;rintro j rfl;simp[ae,H.slc];((repeat' first|refine ao ?_|simp[ae,H.slc,H.ssc]|((first|apply ct|apply cz|apply cy)<;>intro h<;>try simp at h))<;>(try exact c3));refine H.swapA s1 Ω (b-1) a Ω Ω fun o=>?_;simp;refine H.retR k (d:=Sort.swp d1 (b-1) a) (by rw[hR,s1]) (.inl rfl) ?_;simp[dd,bc,bf,a6];rw[bt];exact⟨⟨rfl,rfl⟩,_,rfl,rfl,by rw[hR,s1]⟩
end
section
open Go Go.Pv
variable {α:Type} [Inhabited α] {S:List α->cT} {n g cr:Nat} {lc ch:List af} {lt:α->α->Bool}
def ajf(H:fT S n g cr lc ch lt)(d:Array α)(B:d.size=n)(a b pivot:Nat)(W:a<=pivot)(Q:pivot<b)(X:a+1<b)(ag:b<=n):
  bH au 243 [fC g cr lc ch,aj a,aj b,aj pivot] (S d.toList) fun r U=>r=aj (Sort.partitionEqual lt d a b pivot).1/\∃A,U=S A.toList/\A=(Sort.partitionEqual lt d a b pivot).2/\A.size=n:=by
 obtain⟨R,bt⟩:∃R,R=Sort.partitionEqual lt d a b pivot:=⟨_,rfl⟩;rw[<-bt];unfold Sort.partitionEqual at bt;have E:=H.ok d.toList;have j:d.toList.length=n:=by simpa using B
 have F:∀l m,ae (.loc m) (S l).b=none:=fun l=>(H.ok l).obj.1;have hu:∀l m cs,cK (.loc m) cs (S l).b=(S l).b++[(.loc m,cs)]:=fun l m cs=>kO (F l m);have ar:∀m,aB.loc m∉cL (S d.toList):=kK E.obj;have hle:=H.le;refine bH.mk mixed a1 Tryz.func243 aoI Ψ E.obj fun aR c4=>?_;unfold Tk;simp[fC,hu,ar,c6,F];rw[H.ssc];refine H.swapA0 B Ω a pivot Ω Ω fun o=>?_;obtain⟨d1,z⟩:∃d1,d1=Sort.swp d a pivot:=⟨_,rfl⟩;have s1:d1.size=n:=by rw[z,hR,B]
 rw[<-z];rw[<-z]at bt;have P:((a:Int)+1)=(a+1:Nat):=Ω
 have V:((b:Int)-1)=(b-1:Nat):=Ω
 simp;(repeat' first|refine ao ?_|simp);rw[P,V];refine H.loopA j [1,4] (fun(x:(Nat×Nat)×Array α)=>[(9,aj x.1.1),(10,aj x.1.2)]) (·.2) (fun x=>x.1.2+1-x.1.1) (fun x=>x.2.size=n/\(a+1<=x.1.1/\x.1.1<=x.1.2+1/\x.1.2<=b-1)/\Sort.partEqLoop lt a x.1.1 x.1.2 x.2=R) ((a+1,b-1),d1) s1 ⟨s1,⟨Ψ,by simp;omega,Ψ⟩,bt.symm⟩ (by simp[ae]) aX aX dl ?_;rintro⟨⟨y,dh⟩,c⟩ ⟨f,⟨O,N,K⟩,i⟩;simp only at f O N K i;rw[Sort.partEqLoop]at i;simp;refine H.loopA j [1,4,10] (fun(x:Nat)=>[(9,aj x)]) (fun _=>c) (fun x=>b+1-x) (fun x=>y<=x/\x<=dh+1/\Sort.scanUp (fun x=> !lt c[a]! x) c dh x=Sort.scanUp (fun x=> !lt c[a]! x) c dh y) y f ⟨Ω,Ω,rfl⟩ (by simp[ae]) aX aX dl ?_;rintro p ⟨c2,Y,k⟩;simp[ae,H.slc];((repeat' first|refine ao ?_|simp[ae,H.slc]|((first|apply ct|apply cz|apply cy)<;>intro h<;>try simp at h))<;>(try exact c3))
 ·refine H.lessA f a p Ω Ω fun o=>?_;cases w:lt c[a]! c[p]!
  ·have G:((p:Int)+1)=(p+1:Nat):=Ω
   simp;(repeat' first|refine ao ?_|simp);rw[G];refine bY.whl (p+1) Ω ⟨Ω,Ω,by rw[<-k];exact(Qe (p:=fun x=> !lt c[a]! x) Ω (by simp[w])).symm⟩ (H.weakC j (by simpa using f) dl)
  ·have v:Sort.scanUp (fun x=> !lt c[a]! x) c dh p=p:=CO (by simp[w]);rw[v]at k;simp only[<-k]at i;simp;refine H.loopA j [1,4,9] (fun(x:Nat)=>[(10,aj x)]) (fun _=>c) (fun x=>x) (fun x=>p<=x+1/\x<=dh/\Sort.scanDown (fun x=>lt c[a]! x) c p x=Sort.scanDown (fun x=>lt c[a]! x) c p dh) dh f ⟨Ω,Ω,rfl⟩ (by simp[ae]) aX aX dl ?_;rintro q ⟨ba,bB,t⟩;simp[ae,H.slc];((repeat' first|refine ao ?_|simp[ae,H.slc,H.ssc]|((first|apply ct|apply cz|apply cy)<;>intro h<;>try simp at h))<;>(try exact c3))
   ·refine H.lessA f a q Ω Ω fun o=>?_;cases u:lt c[a]! c[q]!;rotate_left
    ·obtain⟨q,rfl⟩:∃dh,q=dh+1:=⟨q-1,Ω⟩;have J:(((q+1:Nat):Int)-1)=(q:Nat):=Ω
     simp;(repeat' first|refine ao ?_|simp);try rw[J]
     refine bY.whl q Ω ⟨Ω,Ω,by rw[<-t];exact(Qd (p:=fun x=>lt c[a]! x) Ω (by simp[u])).symm⟩ (H.weakC j (by simpa using f) dl)
    ·have s:Sort.scanDown (fun x=>lt c[a]! x) c p q=q:=wO (by simp[u]);have Z:p≠q:=fun e=>by subst e;rw[w]at u;cases u
     rw[s]at t;simp only[<-t]at i;rw[if_neg Ω,dif_pos Ω]at i;simp;((repeat' first|refine ao ?_|simp[ae,H.slc,H.ssc]|((first|apply ct|apply cz|apply cy)<;>intro h<;>try simp at h))<;>(try exact c3));refine H.swapA f Ω p q Ω Ω fun o=>?_;have M:((p:Int)+1)=(p+1:Nat):=Ω
     have L:((q:Int)-1)=(q-1:Nat):=Ω
     simp;(with_reducible repeat' first|((first|apply ct|apply cz|apply cy)<;>intro h<;>try simp at h)|refine ao ?_|simp);rw[M,L];refine bY.whl ((p+1,q-1),Sort.swp c p q) d6 ⟨by rw[hR,f],⟨by simp;omega,by simp;omega,by simp;omega⟩,i⟩ (H.weakC j (by simp[hR,f]) dl)
   ·have s:Sort.scanDown (fun x=>lt c[a]! x) c p q=q:=wO Ω;rw[s]at t;simp only[<-t]at i;rw[if_pos Ω]at i;refine H.retR j (d:=c) f (.inl rfl) ?_;simp[dd,bc,bf,a6];rw[<-i];exact⟨rfl,_,rfl,rfl,f⟩
 ·have v:Sort.scanUp (fun x=> !lt c[a]! x) c dh p=p:=CO Ω;rw[v]at k;simp only[<-k]at i;have s:Sort.scanDown (fun x=>lt c[a]! x) c p dh=dh:=wO Ω;rw[s,if_pos Ω]at i;refine H.loopA j [1,4,9] (fun(x:Nat)=>[(10,aj x)]) (fun _=>c) (fun x=>x) (fun x=>x=dh) dh f rfl (by simp[ae]) aX aX dl ?_;rintro q rfl;simp[ae,H.slc];((repeat' first|refine ao ?_|simp[ae,H.slc,H.ssc]|((first|apply ct|apply cz|apply cy)<;>intro h<;>try simp at h))<;>(try exact c3));refine H.retR j (d:=c) f (.inl rfl) ?_;simp[dd,bc,bf,a6];rw[<-i];exact⟨rfl,_,rfl,rfl,f⟩
end
section
open Go Go.Pv
variable {α:Type} [Inhabited α] {S:List α->cT} {n g cr:Nat} {lc ch:List af} {lt:α->α->Bool}
def ajd(H:fT S n g cr lc ch lt)(d:Array α)(W:d.size=n)(a b:Nat)(ni:a<b)(ag:b<=n)(U:2<=n):
  bH au 242 [fC g cr lc ch,aj a,aj b] (S d.toList) fun r ak=>r= .bool (Sort.partialInsertionSort lt d a b).2/\∃Q,ak=S Q.toList/\Q=(Sort.partialInsertionSort lt d a b).1/\Q.size=n:=by
 obtain⟨R,bt⟩:∃R,R=Sort.partialInsertionSort lt d a b:=⟨_,rfl⟩;rw[<-bt];unfold Sort.partialInsertionSort at bt;have Z:=H.ok d.toList;have k:d.toList.length=n:=by simpa using W
 have X:∀l m,ae (.loc m) (S l).b=none:=fun l=>(H.ok l).obj.1;have hu:∀l m cs,cK (.loc m) cs (S l).b=(S l).b++[(.loc m,cs)]:=fun l m cs=>kO (X l m);have ar:∀m,aB.loc m∉cL (S d.toList):=kK Z.obj;have hle:=H.le;refine bH.mk mixed a1 Tryz.func242 aoH Ψ Z.obj fun aR c4=>?_;unfold Tj;simp[fC,hu,ar,c6,X];have al:((a:Int)+1)=(a+1:Nat):=Ω
 (repeat' first|refine ao ?_|simp);rw[al];refine H.loopA k [1,2,3] (fun(x:(Nat×Nat)×Array α)=>[(7,aj x.1.1),(8,aj x.1.2)]) (·.2) (fun x=>5-x.1.2) (fun x=>x.2.size=n/\(a+1<=x.1.1/\x.1.1<=b/\x.1.2<=5)/\Sort.partialIns lt a b (5-x.1.2) x.1.1 x.2=R) ((a+1,0),d) W ⟨W,⟨Ψ,by simp;omega,Ψ⟩,bt.symm⟩ (by simp[c6,X]) aX aX dl ?_;rintro⟨⟨i0,s⟩,z⟩ ⟨w,⟨bE,cq,eD⟩,c⟩;simp only at w bE cq eD c;simp;((repeat' first|refine ao ?_|simp|((first|apply ct|apply cz|apply cy)<;>intro h<;>try simp at h))<;>(try exact c3))
 ·obtain⟨m,hm⟩:∃m,5-s=m+1:=⟨5-s-1,Ω⟩;rw[hm,Sort.partialIns]at c;refine H.loopA k [1,2,3,8] (fun(x:Nat)=>[(7,aj x)]) (fun _=>z) (fun x=>b-x) (fun x=>i0<=x/\x<=b/\Sort.scanSorted lt z b x=Sort.scanSorted lt z b i0) i0 w ⟨Ω,Ω,rfl⟩ (by simp[ae]) aX aX dl ?_;rintro i ⟨i1,i2,i3⟩;rw[Sort.scanSorted]at i3;have M:((i:Int)+1)=(i+1:Nat):=Ω
  have N:((i:Int)-1)=(i-1:Nat):=Ω
  have es:((s:Int)+1)=(s+1:Nat):=Ω
  have em:5-(s+1)=m:=Ω
  simp[ae,H.slc];((repeat' first|refine ao ?_|simp[ae,H.slc]|((first|apply ct|apply cz|apply cy)<;>intro h<;>try simp at h))<;>(try exact c3))
  ·rw[N];refine H.lessA w i (i-1) Ω Ω fun o=>?_;cases ad:lt z[i]! z[i-1]!
   ·rw[if_pos (by simp[ad];omega)]at i3;simp;(repeat' first|refine ao ?_|simp);rw[M];refine bY.whl (i+1) Ω ⟨Ω,Ω,i3⟩ (H.weakC k (by simpa using w) dl)
   ·rw[if_neg (by simp[ad])]at i3;simp only[<-i3]at c;rw[if_neg Ω]at c;have Bw:(i:Int)≠b:=Ω
    have V:((i:Int)==b)=false:=by simp;omega
    simp;((repeat' first|refine ao ?_|simp[Bw,V,ae,H.slc,H.ssc]|((first|apply ct|apply cz|apply cy)<;>intro h<;>try simp at h))<;>(try exact c3))
    ·rw[if_pos Ω]at c;refine H.retR k (d:=z) w (.inl rfl) ?_;simp[dd,bc,bf,a6];rw[<-c];exact⟨rfl,_,rfl,rfl,w⟩
    ·rw[if_neg Ω]at c;rw[N];refine H.swapA w U i (i-1) Ω Ω fun o=>?_;obtain⟨d2,P⟩:∃d2,d2=Sort.swp z i (i-1):=⟨_,rfl⟩;have s2:d2.size=n:=by rw[P,hR,w]
     rw[<-P];simp only[<-P]at c;by_cases Y:2<=b-i
     ·rw[if_pos Y]at c;have y:(2:Int)<=(b:Int)-i:=Ω
      by_cases K:2<=i-a
      ·rw[if_pos K]at c;have B:(2:Int)<=(i:Int)-a:=Ω
       simp;(repeat' first|refine ao ?_|simp[B]);rw[N];refine H.loopA k [1,2,3,7,8] (fun(x:Nat×Array α)=>[(9,aj x.1)]) (·.2) (fun x=>x.1) (fun x=>x.2.size=n/\x.1<=i-1/\Sort.shiftDown lt x.1 x.2=Sort.shiftDown lt (i-1) d2) (i-1,d2) s2 ⟨s2,Ψ,rfl⟩ (by simp[ae]) aX aX dl ?_;rintro⟨j,v⟩ ⟨p,O,u⟩;simp only at p O u;simp[ae,H.slc,H.ssc];((repeat' first|refine ao ?_|simp[ae,H.slc,H.ssc,y]|((first|apply ct|apply cz|apply cy)<;>intro h<;>try simp at h))<;>(try exact c3))
       ·obtain⟨j,rfl⟩:∃dh,j=dh+1:=⟨j-1,Ω⟩;have E:(((j+1:Nat):Int)-1)=(j:Nat):=Ω
        rw[Sort.shiftDown]at u;try rw[E]
        refine H.lessA p (j+1) j Ω Ω fun o=>?_;cases J:lt v[j+1]! v[j]!
        ·rw[if_pos (by simp[J])]at u;rw[<-u]at c;try simp
         try(repeat' first|refine ao ?_|simp[ae,H.slc,H.ssc,y])
         rw[M];refine H.loopA k [1,2,3,7,8] (fun(x:Nat×Array α)=>[(10,aj x.1)]) (·.2) (fun x=>b-x.1) (fun x=>x.2.size=n/\(i+1<=x.1/\x.1<=b)/\Sort.shiftUp lt b x.1 x.2=Sort.shiftUp lt b (i+1) v) (i+1,v) p ⟨p,⟨Ψ,by simp;omega⟩,rfl⟩ (by simp[ae]) aX aX dl ?_;rintro⟨q,t⟩ ⟨e,⟨G,F⟩,f⟩;simp only at e G F f;rw[Sort.shiftUp]at f;have eq:((q:Int)-1)=(q-1:Nat):=Ω
         have L:((q:Int)+1)=(q+1:Nat):=Ω
         simp[ae,H.slc,H.ssc];((repeat' first|refine ao ?_|simp[ae,H.slc,H.ssc]|((first|apply ct|apply cz|apply cy)<;>intro h<;>try simp at h))<;>(try exact c3))
         ·rw[if_pos Ω]at f;rw[eq];refine H.lessA e q (q-1) Ω Ω fun o=>?_;cases A:lt t[q]! t[q-1]!
          ·rw[if_pos (by simp[A])]at f;rw[<-f]at c;simp;(repeat' first|refine ao ?_|simp);rw[es];refine bY.whl ((i,s+1),t) d6 ⟨e,⟨by simp;omega,by simp;omega,by simp;omega⟩,by simp only[em];exact c⟩ (H.weakC k (by simpa using e) dl)
          ·rw[if_neg (by simp[A])]at f;simp;(repeat' first|refine ao ?_|simp[ae,H.slc,H.ssc]);rw[eq];refine H.swapA e Ω q (q-1) Ω Ω fun o=>?_;simp;((repeat' first|refine ao ?_|simp|((first|apply ct|apply cz|apply cy)<;>intro h<;>try simp at h))<;>(try exact c3));rw[L];refine bY.whl (q+1,Sort.swp t q (q-1)) d6 ⟨by rw[hR,e],⟨by simp;omega,by simp;omega⟩,f⟩ (H.weakC k (by simp[hR,e]) dl)
         ·rw[if_neg Ω]at f;rw[<-f]at c;rw[es];refine bY.whl ((i,s+1),t) d6 ⟨e,⟨by simp;omega,by simp;omega,by simp;omega⟩,by simp only[em];exact c⟩ (H.weakC k (by simpa using e) dl)
        ·rw[if_neg (by simp[J])]at u;simp;(repeat' first|refine ao ?_|simp[ae,H.slc,H.ssc]);try rw[E]
         refine H.swapA p U (j+1) j Ω Ω fun o=>?_;simp;((repeat' first|refine ao ?_|simp|((first|apply ct|apply cz|apply cy)<;>intro h<;>try simp at h))<;>(try exact c3));try rw[E]
         refine bY.whl (j,Sort.swp v (j+1) j) Ψ ⟨by rw[hR,p],by simp;omega,u⟩ (H.weakC k (by simp[hR,p]) dl)
       ·obtain rfl:j=0:=Ω
        rw[Sort.shiftDown]at u;rw[<-u]at c;try simp
        try(repeat' first|refine ao ?_|simp[ae,H.slc,H.ssc,y])
        rw[M];refine H.loopA k [1,2,3,7,8] (fun(x:Nat×Array α)=>[(10,aj x.1)]) (·.2) (fun x=>b-x.1) (fun x=>x.2.size=n/\(i+1<=x.1/\x.1<=b)/\Sort.shiftUp lt b x.1 x.2=Sort.shiftUp lt b (i+1) v) (i+1,v) p ⟨p,⟨Ψ,by simp;omega⟩,rfl⟩ (by simp[ae]) aX aX dl ?_;rintro⟨q,t⟩ ⟨e,⟨G,F⟩,f⟩;simp only at e G F f;rw[Sort.shiftUp]at f;have eq:((q:Int)-1)=(q-1:Nat):=Ω
        have L:((q:Int)+1)=(q+1:Nat):=Ω
        simp[ae,H.slc,H.ssc];((repeat' first|refine ao ?_|simp[ae,H.slc,H.ssc]|((first|apply ct|apply cz|apply cy)<;>intro h<;>try simp at h))<;>(try exact c3))
        ·rw[if_pos Ω]at f;rw[eq];refine H.lessA e q (q-1) Ω Ω fun o=>?_;cases A:lt t[q]! t[q-1]!
         ·rw[if_pos (by simp[A])]at f;rw[<-f]at c;simp;(repeat' first|refine ao ?_|simp);rw[es];refine bY.whl ((i,s+1),t) d6 ⟨e,⟨by simp;omega,by simp;omega,by simp;omega⟩,by simp only[em];exact c⟩ (H.weakC k (by simpa using e) dl)
         ·rw[if_neg (by simp[A])]at f;simp;(repeat' first|refine ao ?_|simp[ae,H.slc,H.ssc]);rw[eq];refine H.swapA e Ω q (q-1) Ω Ω fun o=>?_;simp;((repeat' first|refine ao ?_|simp|((first|apply ct|apply cz|apply cy)<;>intro h<;>try simp at h))<;>(try exact c3));rw[L];refine bY.whl (q+1,Sort.swp t q (q-1)) d6 ⟨by rw[hR,e],⟨by simp;omega,by simp;omega⟩,f⟩ (H.weakC k (by simp[hR,e]) dl)
        ·rw[if_neg Ω]at f;rw[<-f]at c;rw[es];refine bY.whl ((i,s+1),t) d6 ⟨e,⟨by simp;omega,by simp;omega,by simp;omega⟩,by simp only[em];exact c⟩ (H.weakC k (by simpa using e) dl)
      ·rw[if_neg K]at c;have B:¬(2:Int)<=(i:Int)-a:=Ω
       simp;(repeat' first|refine ao ?_|simp[B,y]);try simp
       try(repeat' first|refine ao ?_|simp[ae,H.slc,H.ssc,y])
       rw[M];refine H.loopA k [1,2,3,7,8] (fun(x:Nat×Array α)=>[(10,aj x.1)]) (·.2) (fun x=>b-x.1) (fun x=>x.2.size=n/\(i+1<=x.1/\x.1<=b)/\Sort.shiftUp lt b x.1 x.2=Sort.shiftUp lt b (i+1) d2) (i+1,d2) s2 ⟨s2,⟨Ψ,by simp;omega⟩,rfl⟩ (by simp[ae]) aX aX dl ?_;rintro⟨q,t⟩ ⟨e,⟨G,F⟩,f⟩;simp only at e G F f;rw[Sort.shiftUp]at f;have eq:((q:Int)-1)=(q-1:Nat):=Ω
       have L:((q:Int)+1)=(q+1:Nat):=Ω
       simp[ae,H.slc,H.ssc];((repeat' first|refine ao ?_|simp[ae,H.slc,H.ssc]|((first|apply ct|apply cz|apply cy)<;>intro h<;>try simp at h))<;>(try exact c3))
       ·rw[if_pos Ω]at f;rw[eq];refine H.lessA e q (q-1) Ω Ω fun o=>?_;cases A:lt t[q]! t[q-1]!
        ·rw[if_pos (by simp[A])]at f;rw[<-f]at c;simp;(repeat' first|refine ao ?_|simp);rw[es];refine bY.whl ((i,s+1),t) d6 ⟨e,⟨by simp;omega,by simp;omega,by simp;omega⟩,by simp only[em];exact c⟩ (H.weakC k (by simpa using e) dl)
        ·rw[if_neg (by simp[A])]at f;simp;(repeat' first|refine ao ?_|simp[ae,H.slc,H.ssc]);rw[eq];refine H.swapA e Ω q (q-1) Ω Ω fun o=>?_;simp;((repeat' first|refine ao ?_|simp|((first|apply ct|apply cz|apply cy)<;>intro h<;>try simp at h))<;>(try exact c3));rw[L];refine bY.whl (q+1,Sort.swp t q (q-1)) d6 ⟨by rw[hR,e],⟨by simp;omega,by simp;omega⟩,f⟩ (H.weakC k (by simp[hR,e]) dl)
       ·rw[if_neg Ω]at f;rw[<-f]at c;rw[es];refine bY.whl ((i,s+1),t) d6 ⟨e,⟨by simp;omega,by simp;omega,by simp;omega⟩,by simp only[em];exact c⟩ (H.weakC k (by simpa using e) dl)
     ·rw[if_neg Y]at c;have y:¬(2:Int)<=(b:Int)-i:=Ω
      by_cases K:2<=i-a
      ·rw[if_pos K]at c;have B:(2:Int)<=(i:Int)-a:=Ω
       simp;(repeat' first|refine ao ?_|simp[B]);rw[N];refine H.loopA k [1,2,3,7,8] (fun(x:Nat×Array α)=>[(9,aj x.1)]) (·.2) (fun x=>x.1) (fun x=>x.2.size=n/\x.1<=i-1/\Sort.shiftDown lt x.1 x.2=Sort.shiftDown lt (i-1) d2) (i-1,d2) s2 ⟨s2,Ψ,rfl⟩ (by simp[ae]) aX aX dl ?_;rintro⟨j,v⟩ ⟨p,O,u⟩;simp only at p O u;simp[ae,H.slc,H.ssc];((repeat' first|refine ao ?_|simp[ae,H.slc,H.ssc,y]|((first|apply ct|apply cz|apply cy)<;>intro h<;>try simp at h))<;>(try exact c3))
       ·obtain⟨j,rfl⟩:∃dh,j=dh+1:=⟨j-1,Ω⟩;have E:(((j+1:Nat):Int)-1)=(j:Nat):=Ω
        rw[Sort.shiftDown]at u;try rw[E]
        refine H.lessA p (j+1) j Ω Ω fun o=>?_;cases J:lt v[j+1]! v[j]!
        ·rw[if_pos (by simp[J])]at u;rw[<-u]at c;try simp
         try(repeat' first|refine ao ?_|simp[ae,H.slc,H.ssc,y])
         rw[es];refine bY.whl ((i,s+1),v) d6 ⟨p,⟨by simp;omega,by simp;omega,by simp;omega⟩,by simp only[em];exact c⟩ (H.weakC k (by simpa using p) dl)
        ·rw[if_neg (by simp[J])]at u;simp;(repeat' first|refine ao ?_|simp[ae,H.slc,H.ssc]);try rw[E]
         refine H.swapA p U (j+1) j Ω Ω fun o=>?_;simp;((repeat' first|refine ao ?_|simp|((first|apply ct|apply cz|apply cy)<;>intro h<;>try simp at h))<;>(try exact c3));try rw[E]
         refine bY.whl (j,Sort.swp v (j+1) j) Ψ ⟨by rw[hR,p],by simp;omega,u⟩ (H.weakC k (by simp[hR,p]) dl)
       ·obtain rfl:j=0:=Ω
        rw[Sort.shiftDown]at u;rw[<-u]at c;try simp
        try(repeat' first|refine ao ?_|simp[ae,H.slc,H.ssc,y])
        rw[es];refine bY.whl ((i,s+1),v) d6 ⟨p,⟨by simp;omega,by simp;omega,by simp;omega⟩,by simp only[em];exact c⟩ (H.weakC k (by simpa using p) dl)
      ·rw[if_neg K]at c;have B:¬(2:Int)<=(i:Int)-a:=Ω
       simp;((repeat' first|refine ao ?_|simp[B,y]|((first|apply ct|apply cz|apply cy)<;>intro h<;>try simp at h))<;>(try exact c3));done
  ·rw[if_neg d6]at i3;simp only[<-i3]at c;rw[if_pos Ω]at c;refine H.retR k (d:=z) w (.inl rfl) ?_;simp[dd,bc,bf,a6];rw[<-c];exact⟨rfl,_,rfl,rfl,w⟩
 ·have:5-s=0:=Ω
  rw[this,Sort.partialIns]at c;refine H.retR k (d:=z) w (.inl rfl) ?_;simp[dd,bc,bf,a6];rw[<-c];exact⟨rfl,_,rfl,rfl,w⟩
end
section
open Go Go.Pv
variable {α:Type} [Inhabited α] {S:List α->cT} {n g cr:Nat} {lc ch:List af} {lt:α->α->Bool}
def fZ(S:List α->cT)(d:Array α)(v:Nat):cT:=⟨(.obj 901,[aj v])::(S d.toList).b,(S d.toList).e⟩
def tL(S:List α->cT)(m:Nat):Prop:= ∀l,ae (.obj m) (S l).b=none/\ae (.obj m) (S l).e=none
def oX(H:fT S n g cr lc ch lt)(d:Array α)(v:Nat):eA (fZ S d v):=by
 have h:=H.ok d.toList;have a:∀k,aM (S d.toList) k->aM (fZ S d v) k:=fun k ab=>by
  rcases ab with ab|ab
  ·refine .inl ?_;simp only[fZ,ae];split
   ·rfl
   ·exact ab
  ·exact .inr ab
 refine⟨⟨fun m=>?_,h.obj.2⟩,fun k cs ab=>?_,fun k o ar xs b=>jl a _ (h.ke k o ar xs b)⟩
 ·simp[fZ,ae,h.obj.1 m]
 ·simp only[fZ,ae]at ab;split at ab
  ·cases ab;simp[aH,az]
  ·exact jl a _ (h.kb k cs ab)
def uj(d:Array α)(v v':Nat):Same (fZ S d v) (fZ S d v'):=⟨fun k=>by simp only[fZ,ae];split<;>rfl,fun _=>rfl⟩
def Mt(H:fT S n g cr lc ch lt)(ab:tL S 901)(d:Array α)(z:d.size=n)(a b v:Nat)(J:a<n)(K:b<n)(M:v<=1000):
  bH au 271 [fC g cr lc ch,aj a,aj b,.ptr (.obj 901) 0] (fZ S d v) fun r f=>r= .tuple [aj (Sort.order2 lt d a b v).1,aj (Sort.order2 lt d a b v).2.1]/\f=fZ S d (Sort.order2 lt d a b v).2.2:=by
 have w:=H.ok d.toList;have s:d.toList.length=n:=by simpa using z
 have h:∀l m,ae (.loc m) (S l).b=none:=fun l=>(H.ok l).obj.1;have hu:∀l m cs,cK (.loc m) cs (S l).b=(S l).b++[(.loc m,cs)]:=fun l m cs=>kO (h l m);have ar:∀m,aB.loc m∉cL (S d.toList):=kK w.obj;have p:∀l,ae (.obj 901) (S l).b=none:=fun l=>(ab l).1;have F:∀l,ae (.obj 901) (S l).e=none:=fun l=>(ab l).2;have hle:=H.le;have j:=oX H d v;obtain⟨R,bt⟩:∃R,R=Sort.order2 lt d a b v:=⟨_,rfl⟩;rw[<-bt];unfold Sort.order2 at bt;refine bH.mk mixed a1 Tryz.func271 aoG Ψ j.obj fun L G=>?_;unfold Ti;have i:aB.loc 0∉cL (fZ S d v):=kK j.obj 0;generalize E:cL (fZ S d v)=ob at i⊢;unfold fZ;simp[fC,hu,i,c6,h,ae,cK];rw[H.slc];refine CallDo.ob (H.less d.toList s b a _ _ (AJ Ω) (AJ Ω)) (H.ok _) (fun k cs c=>?_) (fun _ _ c=>c) (by simp[az,aH,H.klc d.toList s]) ?_
 ·simp only[ae];split
  ·rename_i e;subst e;rw[p]at c;cases c
  ·rw[c6,c]
 rintro r f ⟨rfl,rfl⟩;refine⟨Same.refl _,?_⟩;have hw:cM (S d.toList).b ((aB.obj 901,[af.int .i64 v])::((S d.toList).b++[(aB.loc 0,[af.func g lc,af.func cr ch])]))=[(aB.obj 901,[af.int .i64 v]),(aB.loc 0,[af.func g lc,af.func cr ch])]:=by simp only[cM,p];rw[jA,hK];simp[cM,h]
 rw[hw,hK];have q:∀(t:List (Nat×af)) (o:List aB) (v':Nat) (aY:List af) (x y:Nat),Pv.get 8 t=aj x->Pv.get 9 t=aj y->R=(x,y,v')->
   c5 [.tmp 8,.tmp 9] (fZ S d v) (fun r f=>r= .tuple [aj R.1,aj R.2.1]/\f=fZ S d R.2.2) .ret ⟨t,(aB.obj 901,[aj v'])::(aB.loc 0,aY)::(S d.toList).b,(S d.toList).e,1,o⟩:=by
  rintro t o v' aY x y c A rfl;refine c5.at (fZ S d v') (.inl rfl) (oX H d v') (uj _ _ _) (fun k cs aw=>?_) (fun _ _ aw=>aw) ?_
  ·simp only[fZ,ae]at aw⊢;split at aw
   ·rename_i e;rw[if_pos e];exact aw
   ·rename_i e;rw[if_neg e];split
    ·rename_i B;subst B;rw[h]at aw;cases aw
    ·exact aw
  ·simp[dd,bc,bf,a6,c,A]
 cases c:lt d[b]! d[a]! with
 |true=>
  rw[if_pos c]at bt;simp[ae,cK];(with_reducible repeat' first|refine ao ?_|simp[ae,cK]);have u:((v:Int)+1)=(v+1:Nat):=Ω
  rw[u];exact q _ _ (v+1) _ b a rfl rfl bt
 |false=>rw[if_neg (by simp[c])]at bt;simp[ae,cK];exact q _ _ v _ a b rfl rfl bt
def Y8{s a:cT}{f:Nat}{args:List af}{r:af}(j:bH au f args s fun g t'=>g=r/\t'=a)(c:eA s)(e:Same s a)(ab:aH (aM s) args){t:List (Nat×af)}{aY:List af}{o:List aB}{d:be Nat}{K:bp->Prop}
  (h:∀o,K ⟨e6 d r t,(.loc 0,aY)::a.b,a.e,1,o⟩):CallDo au f args ⟨t,s.b++[(.loc 0,aY)],s.e,1,o⟩ d K:=by
 refine CallDo.ob j c (fun k cs b=>by rw[c6,b]) (fun _ _ b=>b) ab ?_;rintro r a ⟨rfl,rfl⟩;refine⟨e,?_⟩;have i:cM s.b (s.b++[(.loc 0,aY)])=[(.loc 0,aY)]:=by rw[jA,hK];simp[cM,c.obj.1 0]
 have l:cM s.e s.e=[]:=hK _;simp only[i,l];exact h _
def Fa{s a:cT}{f:Nat}{args:List af}{r:af}(j:bH au f args s fun g t'=>g=r/\t'=a)(c:eA s)(e:Same s a)(ab:aH (aM s) args){t:List (Nat×af)}{aY:List af}{o:List aB}{d:be Nat}{K:bp->Prop}
  (h:∀o,K ⟨e6 d r t,(.loc 0,aY)::a.b,a.e,1,o⟩):CallDo au f args ⟨t,(.loc 0,aY)::s.b,s.e,1,o⟩ d K:=by
 refine CallDo.ob j c (fun k cs b=>?_) (fun _ _ b=>b) ab ?_
 ·cases k with
  |loc m=>rw[c.obj.1 m]at b;cases b
  |obj m=>simpa[ae]using b
 rintro r a ⟨rfl,rfl⟩;refine⟨e,?_⟩;have i:cM s.b ((.loc 0,aY)::s.b)=[(.loc 0,aY)]:=by have:=jA s.b [(aB.loc 0,aY)] s.b;rw[hK]at this;simpa[cM,c.obj.1 0]using this
 have l:cM s.e s.e=[]:=hK _;simp only[i,l];exact h _
def Cs{d:Array α}{a b v n:Nat}(c:a<n)(e:b<n):(Sort.order2 lt d a b v).1<n/\(Sort.order2 lt d a b v).2.1<n/\(Sort.order2 lt d a b v).2.2<=v+1:=by unfold Sort.order2;split<;>simp<;>omega
def wu(H:fT S n g cr lc ch lt){d:Array α}(a:d.size=n){v:Nat}:az (aM (fZ S d v)) (fC g cr lc ch)/\az (aM (fZ S d v)) (.ptr (.obj 901) 0):=by
 refine⟨tD (fun k ab=>?_) _ (H.kdata (lk:=d.toList) (by simpa using a)),by simp[az,aM,fZ,ae]⟩;rcases ab with ab|ab
 ·refine .inl ?_;simp only[fZ,ae];split
  ·rfl
  ·exact ab
 ·exact .inr ab
def abm(H:fT S n g cr lc ch lt){d:Array α}{v v':Nat}{b:List bW}{Q:af->cT->Prop}{t:List (Nat×af)}{aY:List af}{o:List aB}(h:dd ⟨t,(.loc 0,aY)::(fZ S d v').b,(S d.toList).e,1,o⟩ b fun r=>az (aM (fZ S d v')) r/\Q r (fZ S d v')):
  c5 b (fZ S d v) Q .ret ⟨t,(.loc 0,aY)::(fZ S d v').b,(S d.toList).e,1,o⟩:=by
 refine c5.at (fZ S d v') (.inl rfl) (oX H d v') (uj _ _ _) (fun k cs a=>?_) (fun _ _ aw=>aw) h;cases k with
 |loc m=>rw[(oX H d v').obj.1 m]at a;cases a
 |obj m=>simpa[ae]using a
def Mq(H:fT S n g cr lc ch lt)(ab:tL S 901)(d:Array α)(e:d.size=n)(a b c v:Nat)(u:a<n)(w:b<n)(aw:c<n)(M:v<=900):
  bH au 256 [fC g cr lc ch,aj a,aj b,aj c,.ptr (.obj 901) 0] (fZ S d v) fun r E=>r=aj (Sort.median lt d a b c v).1/\E=fZ S d (Sort.median lt d a b c v).2:=by
 have q:=oX H d v;have p:∀v m,ae (.loc m) (fZ S d v).b=none:=fun v=>(oX H d v).obj.1;have F:∀v m cs,cK (.loc m) cs (fZ S d v).b=(fZ S d v).b++[(.loc m,cs)]:=fun v m cs=>kO (p v m);have y:aB.loc 0∉cL (fZ S d v):=kK q.obj 0;obtain⟨R,bt⟩:∃R,R=Sort.median lt d a b c v:=⟨_,rfl⟩;rw[<-bt];unfold Sort.median at bt;have f:=Cs (lt:=lt) (d:=d) (v:=v) u w;have k:=Mt H ab d e a b v u w Ω;generalize Sort.order2 lt d a b v=B at f k bt;obtain⟨l,s,v1⟩:=B;simp only at f k bt;have h:=Cs (lt:=lt) (d:=d) (v:=v1) f.2.1 aw;have j:=Mt H ab d e s c v1 f.2.1 aw Ω;generalize Sort.order2 lt d s c v1=A at h j bt;obtain⟨x,J,v2⟩:=A;simp only at h j bt;have t:=Cs (lt:=lt) (d:=d) (v:=v2) f.1 h.1;have i:=Mt H ab d e l x v2 f.1 h.1 Ω;generalize Sort.order2 lt d l x v2=z at t i bt;obtain⟨G,N,v3⟩:=z;simp only at t i bt;refine bH.mk mixed a1 Tryz.func256 aoE Ψ q.obj fun L K=>?_;unfold Tg;simp[fC,F,y,c6,p];simp only[jn H,H.slc,H.ssc,ji];refine Y8 k (oX H d v) (uj _ _ _) (by simp[az,aH,(wu H e).1];exact(wu H e).2) fun o=>?_;simp[ae];simp only[jn H,H.slc,H.ssc,ji];refine Fa j (oX H d v1) (uj _ _ _) (by simp[az,aH,(wu H e).1];exact(wu H e).2) fun o=>?_;simp[ae];simp only[jn H,H.slc,H.ssc,ji];refine Fa i (oX H d v2) (uj _ _ _) (by simp[az,aH,(wu H e).1];exact(wu H e).2) fun o=>?_;simp;refine abm H ?_;simp[dd,bc,bf,a6];rw[bt];exact⟨rfl,rfl⟩
def Mr(H:fT S n g cr lc ch lt)(ab:tL S 901)(d:Array α)(b:d.size=n)(a v:Nat)(t:a+1<n)(q:1<=a)(j:v<=900):
  bH au 255 [fC g cr lc ch,aj a,.ptr (.obj 901) 0] (fZ S d v) fun r i=>r=aj (Sort.medianAdjacent lt d a v).1/\i=fZ S d (Sort.medianAdjacent lt d a v).2:=by
 have e:=oX H d v;have c:∀v m,ae (.loc m) (fZ S d v).b=none:=fun v=>(oX H d v).obj.1;have p:∀v m cs,cK (.loc m) cs (fZ S d v).b=(fZ S d v).b++[(.loc m,cs)]:=fun v m cs=>kO (c v m);have f:aB.loc 0∉cL (fZ S d v):=kK e.obj 0;have hle:=H.le;have l:=Mq H ab d b (a-1) a (a+1) v Ω Ω Ω j;unfold Sort.medianAdjacent;refine bH.mk mixed a1 Tryz.func255 aoD Ψ e.obj fun u s=>?_;unfold Tf;have h:((a:Int)-1)=(a-1:Nat):=Ω
 have k:((a:Int)+1)=(a+1:Nat):=Ω
 simp[fC,p,f,c6,c];(with_reducible repeat' first|refine ao ?_|simp);simp only[jn H,H.slc,H.ssc,ji,h,k];refine Y8 l (oX H d v) (uj _ _ _) (by simp[az,aH,(wu H b).1];exact(wu H b).2) fun o=>?_;simp;refine abm H ?_;simp[dd,bc,bf,a6]
def Y9{m:Nat}(h:tL S m)(l:List α):aB.obj m∉cL (S l):=fun hm=>by
 rcases NJ hm with J|J
 ·rw[(h l).1]at J;cases J
 ·rw[(h l).2]at J;cases J
def E2{d:Array α}{a b c v n:Nat}(g:a<n)(i:b<n)(aw:c<n):(Sort.median lt d a b c v).1<n/\(Sort.median lt d a b c v).2<=v+3:=by have e:=Cs (lt:=lt) (d:=d) (v:=v) g i;have h:=Cs (lt:=lt) (d:=d) (v:=(Sort.order2 lt d a b v).2.2) e.2.1 aw;have f:=Cs (lt:=lt) (d:=d) (v:=(Sort.order2 lt d (Sort.order2 lt d a b v).2.1 c (Sort.order2 lt d a b v).2.2).2.2) e.1 h.1;refine⟨f.2.1,kE f.2.2 ?_⟩;omega
def By:Sort.Hint->Int
 | .unknown=>0
 | .increasing=>1
 | .decreasing=>2
def aiO(H:fT S n g cr lc ch lt)(ab:tL S 901)(d:Array α)(z:d.size=n)(a b:Nat)(ni:a<b)(ag:b<=n):
  bH au 240 [fC g cr lc ch,aj a,aj b] (S d.toList) fun r Q=>r= .tuple [aj (Sort.choosePivot lt d a b).1,aj (By (Sort.choosePivot lt d a b).2)]/\Q=S d.toList:=by
 have Z:=H.ok d.toList;have av:d.toList.length=n:=by simpa using z
 have A:∀l m,ae (.loc m) (S l).b=none:=fun l=>(H.ok l).obj.1;have hu:∀l m cs,cK (.loc m) cs (S l).b=(S l).b++[(.loc m,cs)]:=fun l m cs=>kO (A l m);have ar:∀m,aB.loc m∉cL (S d.toList):=kK Z.obj;have w:∀l,ae (.obj 901) (S l).b=none:=fun l=>(ab l).1;have P:∀l,ae (.obj 901) (S l).e=none:=fun l=>(ab l).2;have hle:=H.le;have O:=Y9 ab d.toList;obtain⟨R,bt⟩:∃R,R=Sort.choosePivot lt d a b:=⟨_,rfl⟩;rw[<-bt];unfold Sort.choosePivot at bt;refine bH.mk mixed a1 Tryz.func240 aoB Ψ Z.obj fun aR c4=>?_;unfold Td;have N:∀l aY cs,cK (.obj 901) cs ((S l).b++[(.loc 0,aY)])=(S l).b++[(.loc 0,aY),(.obj 901,cs)]:=fun l aY cs=>by rw[C1 (w l)];rfl
 obtain⟨q,bM⟩:∃q,q=(b-a)/4:=⟨_,rfl⟩;have Y:vo.wrap (((b:Int)-a).tdiv 4)=(q:Nat):=by rw[show((b:Int)-a)=((b-a:Nat):Int) by omega,Int.tdiv_eq_ediv_of_nonneg Ω,pt _ Ω];omega
 simp[fC,hu,N,ar,O,c6,A,w,P,ae,cK];have y:∀(t:List (Nat×af)) (o:List aB) (b2:List (aB×List af)) (x:Nat) (h:Sort.Hint),Pv.get 6 t=aj x->Pv.get 7 t=aj (By h)->R=(x,h)->(∀k cs,ae k (S d.toList).b=some cs->ae k b2=some cs)->
   c5 [.tmp 6,.tmp 7] (S d.toList) (fun r Q=>r= .tuple [aj R.1,aj (By R.2)]/\Q=S d.toList) .ret ⟨t,b2,(S d.toList).e,1,o⟩:=by
  rintro t o b2 x h j aK rfl dZ;refine c5.at (S d.toList) (.inl rfl) Z (Same.refl _) dZ (fun _ _ aw=>aw) ?_;simp[dd,bc,bf,a6,j,aK]
 have E:∀(aY:List af) (v:Nat) k cs,ae k (S d.toList).b=some cs->ae k ((.loc 0,aY)::(fZ S d v).b)=some cs:=fun aY v k cs h=>by
  simp only[fZ,ae];split
  ·rename_i e;subst e;rw[A]at h;cases h
  ·split
   ·rename_i e;subst e;rw[w]at h;cases h
   ·exact h
 have Wd:∀{f:Nat} {args:List af} {r:af} {v:Nat},(bH au f args (fZ S d 0) fun ec t'=>ec=r/\t'=fZ S d v)->aH (aM (fZ S d 0)) args->∀{t:List (Nat×af)} {aY:List af} {o:List aB} {W:be Nat} {K:bp->Prop},(∀o,K ⟨e6 W r t,(.loc 0,aY)::(fZ S d v).b,(S d.toList).e,1,o⟩)->
   CallDo au f args ⟨t,(S d.toList).b++[(.loc 0,aY),(.obj 901,[aj 0])],(S d.toList).e,1,o⟩ W K:=by
  intro f args r v aG p t aY o W K h;refine CallDo.ob aG (oX H d 0) (fun k cs j=>?_) (fun _ _ j=>j) p ?_
  ·simp only[fZ,ae]at j;rw[c6];split at j
   ·rename_i e;subst e;rw[w];simp[ae];simpa using j
   ·rw[j]
  rintro r Q ⟨rfl,rfl⟩;refine⟨uj _ _ _,?_⟩;have al:cM (fZ S d 0).b ((S d.toList).b++[(.loc 0,aY),(.obj 901,[aj 0])])=[(.loc 0,aY)]:=by
   rw[jA];have:cM (fZ S d 0).b (S d.toList).b=[]:=Q7 _ _ fun k x hm=>by
    have:=u1 hm;simp only[fZ,ae];split
    ·rfl
    ·exact this
   rw[this];simp[cM,fZ,ae,A]
  have aC:cM (fZ S d 0).e (S d.toList).e=[]:=hK _;simp only[al,aC];exact h _
 have p:=fun(v:Nat)=>(wu H z (v:=v));have f1:((a:Int)+q)=(a+q:Nat):=Ω
 have f2:((a:Int)+q*2)=(a+q*2:Nat):=Ω
 have f3:((a:Int)+q*3)=(a+q*3:Nat):=Ω
 dsimp only at bt;rw[<-bM,Nat.mul_one]at bt;by_cases lP:b-a<8
 ·have U:¬(8:Int)<=(b:Int)-a:=Ω
  (with_reducible repeat' first|refine ao ?_|simp[U,Y,hu,N,ar,O,c6,A,w,P,ae,cK]);rw[f2];refine y _ _ _ (a+q*2) .increasing rfl rfl (by rw[bt,if_neg Ω];simp) (fun k cs h=>by rw[c6,h])
 ·have U:(8:Int)<=(b:Int)-a:=Ω
  by_cases au6:b-a<50
  ·have My:¬(50:Int)<=(b:Int)-a:=Ω
   (with_reducible repeat' first|refine ao ?_|simp[U,My,Y,hu,N,ar,O,c6,A,w,P,ae,cK]);simp only[jn H,H.slc,H.ssc,ji,f1,f2,f3];have B:=Mq H ab d z (a+q) (a+q*2) (a+q*3) 0 Ω Ω Ω Ω;have F:=E2 (lt:=lt) (d:=d) (a:=a+q) (b:=a+q*2) (c:=a+q*3) (v:=0) (n:=n) Ω Ω Ω;rw[if_pos Ω,if_neg Ω]at bt;generalize Sort.median lt d (a+q) (a+q*2) (a+q*3) 0=m at B F bt;obtain⟨x,v⟩:=m;refine Wd B (by simp[az,aH,(p 0).1];exact(p 0).2) fun o=>?_;have s:((v:Int)==0)=decide (v=0):=by rw[q2];simp
   have M:((v:Int)==12)=decide (v=12):=by rw[q2];simp;omega
   simp[ae,fZ];rcases(by omega:v=0\/v=12\/(v≠0/\v≠12))with i|i|i
   ·have j:((v:Int)==0)=true:=by rw[s];simp[i]
    (with_reducible repeat' first|refine ao ?_|simp[j]);all_goals exact y _ _ _ x .increasing rfl rfl (by rw[bt];simp[i]) (E _ v)
   ·have j:((v:Int)==0)=false:=by rw[s];simp[i]
    have u:((v:Int)==12)=true:=by rw[M];simp[i]
    (with_reducible repeat' first|refine ao ?_|simp[j,u]);all_goals exact y _ _ _ x .decreasing rfl rfl (by rw[bt];simp[i]) (E _ v)
   ·have j:((v:Int)==0)=false:=by rw[s];simp[i.1]
    have u:((v:Int)==12)=false:=by rw[M];simp[i.2]
    (with_reducible repeat' first|refine ao ?_|simp[j,u]);all_goals exact y _ _ _ x .unknown rfl rfl (by rw[bt];simp[i]) (E _ v)
  ·have My:(50:Int)<=(b:Int)-a:=Ω
   (with_reducible repeat' first|refine ao ?_|simp[U,My,Y,hu,N,ar,O,c6,A,w,P,ae,cK]);simp only[jn H,H.slc,H.ssc,ji,f1,f2,f3];rw[if_pos Ω,if_pos Ω]at bt;have B:=Mr H ab d z (a+q) 0 Ω Ω Ω;have L:=E2 (lt:=lt) (d:=d) (a:=a+q-1) (b:=a+q) (c:=a+q+1) (v:=0) (n:=n) Ω Ω Ω;change (Sort.medianAdjacent lt d (a+q) 0).1<n/\(Sort.medianAdjacent lt d (a+q) 0).2<=0+3 at L;generalize Sort.medianAdjacent lt d (a+q) 0=m1 at B L bt;obtain⟨ua,v1⟩:=m1;simp only at B L bt;have F:=Mr H ab d z (a+q*2) v1 Ω Ω Ω;have J:=E2 (lt:=lt) (d:=d) (a:=a+q*2-1) (b:=a+q*2) (c:=a+q*2+1) (v:=v1) (n:=n) Ω Ω Ω;change (Sort.medianAdjacent lt d (a+q*2) v1).1<n/\(Sort.medianAdjacent lt d (a+q*2) v1).2<=v1+3 at J;generalize Sort.medianAdjacent lt d (a+q*2) v1=m2 at F J bt;obtain⟨Aw,v2⟩:=m2;simp only at F J bt;have X:=Mr H ab d z (a+q*3) v2 Ω Ω Ω;have G:=E2 (lt:=lt) (d:=d) (a:=a+q*3-1) (b:=a+q*3) (c:=a+q*3+1) (v:=v2) (n:=n) Ω Ω Ω;change (Sort.medianAdjacent lt d (a+q*3) v2).1<n/\(Sort.medianAdjacent lt d (a+q*3) v2).2<=v2+3 at G;generalize Sort.medianAdjacent lt d (a+q*3) v2=m3 at X G bt;obtain⟨ub,v3⟩:=m3;simp only at X G bt;have V:=Mq H ab d z ua Aw ub v3 L.1 J.1 G.1 Ω;have XC:=E2 (lt:=lt) (d:=d) (v:=v3) L.1 J.1 G.1;generalize Sort.median lt d ua Aw ub v3=m4 at V XC bt;obtain⟨x,v⟩:=m4;simp only at V XC bt;refine Wd B (by simp[az,aH,(p 0).1];exact(p 0).2) fun o=>?_;simp[ae];simp only[jn H,H.slc,H.ssc,ji,f1,f2,f3];refine Fa F (oX H d v1) (uj _ _ _) (by simp[az,aH,(p v1).1];exact(p v1).2) fun o=>?_;simp[ae];simp only[jn H,H.slc,H.ssc,ji,f1,f2,f3];refine Fa X (oX H d v2) (uj _ _ _) (by simp[az,aH,(p v2).1];exact(p v2).2) fun o=>?_;simp[ae];simp only[jn H,H.slc,H.ssc,ji,f1,f2,f3];refine Fa V (oX H d v3) (uj _ _ _) (by simp[az,aH,(p v3).1];exact(p v3).2) fun o=>?_;have s:((v:Int)==0)=decide (v=0):=by rw[q2];simp
   have M:((v:Int)==12)=decide (v=12):=by rw[q2];simp;omega
   simp[ae,fZ];rcases(by omega:v=0\/v=12\/(v≠0/\v≠12))with i|i|i
   ·have j:((v:Int)==0)=true:=by rw[s];simp[i]
    (with_reducible repeat' first|refine ao ?_|simp[j]);all_goals exact y _ _ _ x .increasing rfl rfl (by rw[bt];simp[i]) (E _ v)
   ·have j:((v:Int)==0)=false:=by rw[s];simp[i]
    have u:((v:Int)==12)=true:=by rw[M];simp[i]
    (with_reducible repeat' first|refine ao ?_|simp[j,u]);all_goals exact y _ _ _ x .decreasing rfl rfl (by rw[bt];simp[i]) (E _ v)
   ·have j:((v:Int)==0)=false:=by rw[s];simp[i.1]
    have u:((v:Int)==12)=false:=by rw[M];simp[i.2]
    (with_reducible repeat' first|refine ao ?_|simp[j,u]);all_goals exact y _ _ _ x .unknown rfl rfl (by rw[bt];simp[i]) (E _ v)
end
section
open Go Go.Pv
variable {α:Type} [Inhabited α] {S:List α->cT} {n g cr:Nat} {lc ch:List af} {lt:α->α->Bool}
def arL:∀x:Nat,x<256->(((QI:List cJ)[x]?).getD 0).toNat=Sort.bitsLen x:=by decide+kernel
def DU(x:Int):x.fdiv (2 ^ (min 32 im.bits))=x/4294967296:=by rw[show(2:Int) ^ (min 32 im.bits)=4294967296 from by decide,Int.fdiv_eq_ediv_of_nonneg _ Ω]
def DT(x:Int):x.fdiv (2 ^ (min 16 im.bits))=x/65536:=by rw[show(2:Int) ^ (min 16 im.bits)=65536 from by decide,Int.fdiv_eq_ediv_of_nonneg _ Ω]
def DV(x:Int):x.fdiv (2 ^ (min 8 im.bits))=x/256:=by rw[show(2:Int) ^ (min 8 im.bits)=256 from by decide,Int.fdiv_eq_ediv_of_nonneg _ Ω]
def F6(x:Nat)(h:x<256):IntKind.u8.wrap (x:Int)=x:=by simp[ud,ps,uc];omega
def KZ(x k:Nat)(h:2 ^ k<=x):Sort.bitsLen x=Sort.bitsLen (x/2 ^ k)+k:=by
 have a:x≠0:=by have:=Nat.two_pow_pos k;omega
 have b:x/2 ^ k≠0:=by have:=Nat.div_pos h (Nat.two_pow_pos k);omega
 unfold Sort.bitsLen;rw[if_neg a,if_neg b];have c:=Nat.log2_lt a (k:=Nat.log2 (x/2 ^ k)+k+1);have J:Nat.log2 (x/2 ^ k)+k<=Nat.log2 x:=by
  rw[Nat.le_log2 a,Nat.pow_add];have:=Nat.log2_self_le b;calc 2 ^ (x/2 ^ k).log2*2 ^ k<=(x/2 ^ k)*2 ^ k:=rU _ this
   _<=x:=Nat.div_mul_le_self x _
 have U:Nat.log2 x<Nat.log2 (x/2 ^ k)+k+1:=by rw[c,show Nat.log2 (x/2 ^ k)+k+1=(Nat.log2 (x/2 ^ k)+1)+k by omega,Nat.pow_add];have:=Nat.lt_log2_self (n:=x/2 ^ k);exact(Nat.div_lt_iff_lt_mul (Nat.two_pow_pos k)).1 this
 omega
set_option maxRecDepth 20000 in
def ar7(x:Nat)(o:x<1099511627776):bT au 237 [.int .u64 x] (aj (Sort.bitsLen x)):=by
 refine bT.mk mixed a1 Tryz.func237 aoy Ψ dl fun p=>?_;unfold Ta;have d:=arL;generalize n:(QI:List cJ)=tab at d⊢;have f:tab.length=256:=by rw[<-n];rfl
 clear n;simp[f];have g:∀y:Nat,y<256->Sort.bitsLen y<=8:=by decide+kernel
 have k:4294967296<=x->Sort.bitsLen x=Sort.bitsLen (x/4294967296)+32:=fun h=>KZ x 32 h;have l:∀y,65536<=y->Sort.bitsLen y=Sort.bitsLen (y/65536)+16:=fun y h=>KZ y 16 h;have m:∀y,256<=y->Sort.bitsLen y=Sort.bitsLen (y/256)+8:=fun y h=>KZ y 8 h;by_cases J:4294967296<=x
 ·have c:(4294967296:Int)<=x:=Ω
  have g1:¬(65536:Int)<=(x:Int)/4294967296:=Ω
  have g3:¬(256:Int)<=(x:Int)/4294967296:=Ω
  (repeat' first|refine ao ?_|simp[c,g1,g3,DU,DT,DV,f]);have a:x/4294967296<256:=Ω
  have i:=g _ a;have b:(x:Int)/4294967296=((x/4294967296:Nat):Int):=Ω
  rw[b,F6 _ a,Int.toNat_natCast];refine⟨Ω,?_⟩;have e:=d _ a;rw[e,pt _ Ω];refine⟨by unfold tz;omega,?_⟩;simp[bZ,bc,bf,a6];try((rw[k J])<;>omega)
 ·have c:¬(4294967296:Int)<=x:=Ω
  by_cases U:65536<=x
  ·have g2:(65536:Int)<=x:=Ω
   by_cases j:256<=x/65536
   ·have g3:(256:Int)<=(x:Int)/65536:=Ω
    (repeat' first|refine ao ?_|simp[c,g2,g3,DU,DT,DV,f]);have a:x/65536/256<256:=Ω
    have i:=g _ a;have b:(x:Int)/65536/256=((x/65536/256:Nat):Int):=Ω
    rw[b,F6 _ a,Int.toNat_natCast];refine⟨Ω,?_⟩;have e:=d _ a;rw[e,pt _ Ω];refine⟨by unfold tz;omega,?_⟩;simp[bZ,bc,bf,a6];try((rw[l x U,m _ j])<;>omega)
   ·have g3:¬(256:Int)<=(x:Int)/65536:=Ω
    (repeat' first|refine ao ?_|simp[c,g2,g3,DU,DT,DV,f]);have a:x/65536<256:=Ω
    have i:=g _ a;have b:(x:Int)/65536=((x/65536:Nat):Int):=Ω
    rw[b,F6 _ a,Int.toNat_natCast];refine⟨Ω,?_⟩;have e:=d _ a;rw[e,pt _ Ω];refine⟨by unfold tz;omega,?_⟩;simp[bZ,bc,bf,a6];try((rw[l x U])<;>omega)
  ·have g2:¬(65536:Int)<=x:=Ω
   by_cases j:256<=x
   ·have g3:(256:Int)<=x:=Ω
    (repeat' first|refine ao ?_|simp[c,g2,g3,DU,DT,DV,f]);have a:x/256<256:=Ω
    have i:=g _ a;have b:(x:Int)/256=((x/256:Nat):Int):=Ω
    rw[b,F6 _ a,Int.toNat_natCast];refine⟨Ω,?_⟩;have e:=d _ a;rw[e,pt _ Ω];refine⟨by unfold tz;omega,?_⟩;simp[bZ,bc,bf,a6];try((rw[m x j])<;>omega)
   ·have g3:¬(256:Int)<=x:=Ω
    (repeat' first|refine ao ?_|simp[c,g2,g3,DU,DT,DV,f]);have a:x<256:=Ω
    have i:=g _ a;have b:(x:Int)=((x:Nat):Int):=Ω
    rw[b,F6 _ a,Int.toNat_natCast];refine⟨Ω,?_⟩;have e:=d _ a;rw[e,pt _ Ω];refine⟨by unfold tz;omega,?_⟩;simp[bZ,bc,bf,a6];try((rw[show Sort.bitsLen x=Sort.bitsLen x from rfl])<;>omega)
def ar6(x:Nat)(a:x<1099511627776):bT au 213 [.int .u64 x] (aj (Sort.bitsLen x)):=by refine bT.mk mixed a1 Tryz.func213 aox Ψ dl fun b=>?_;unfold S9;have c:=ar7 x a;exact cn
def aed(x:Nat)(a:x<1099511627776):Sort.bitsLen x<=40:=by
 unfold Sort.bitsLen;split
 ·omega
 ·rename_i h;have:=(Nat.log2_lt h (k:=40)).2 Ω;omega
def arU{x:Nat}(h:x≠0):2 ^ Sort.bitsLen x<=2*x/\x<2 ^ Sort.bitsLen x:=by unfold Sort.bitsLen;rw[if_neg h];have J:=Nat.log2_self_le h;have U:=Nat.lt_log2_self (n:=x);rw[Nat.pow_succ];rw[Nat.pow_succ]at U;omega
def as1(x:Nat)(b:x<1099511627776):bT au 253 [aj x] (.int .u64 (1<<<Sort.bitsLen x:Nat)):=by
 have f:=aed x b;have a:im.wrap ((x:Nat):Int)=x:=by simp[ud,ps,uc];omega
 have g:im.wrap ((Sort.bitsLen x:Nat):Int)=Sort.bitsLen x:=by simp[ud,ps,uc];omega
 refine bT.mk mixed a1 Tryz.func253 aoF Ψ dl fun h=>?_;unfold Th;simp[a];refine CallDo.val Ψ (ar6 x b) ?_;simp[a,g];simp[bZ,bc,bf,a6];have hm:min (Sort.bitsLen x) im.bits=Sort.bitsLen x:=by simp[ps];omega
 have e:2 ^ Sort.bitsLen x<=2 ^ 40:=Nat.pow_le_pow_right Ω f;rw[hm];have aw:((2:Int) ^ Sort.bitsLen x)=((2 ^ Sort.bitsLen x:Nat):Int):=Ψ
 have d:((1<<<Sort.bitsLen x:Nat):Int)=((2 ^ Sort.bitsLen x:Nat):Int):=by rw[Nat.one_shiftLeft]
 have c:im.wrap ((2:Int) ^ Sort.bitsLen x)=((1<<<Sort.bitsLen x:Nat):Int):=by rw[aw,d];generalize 2 ^ Sort.bitsLen x=y at e;simp[ud,ps,uc];omega
 simpa using c
def oq(r:Nat):cT:=⟨[(.obj 902,[.int .u64 r])],[]⟩
def KH(r:Nat):eA (oq r):=by unfold oq;exact(eA.of ⟨by intro m;simp[ae],by intro m;simp[ae]⟩ (by simp[aH,az,aM,ae]) (by simp[aH,az,aM,ae]))
def Rp(a b:Nat):Same (oq a) (oq b):=⟨fun k=>by simp only[oq,ae];split<;>rfl,fun _=>rfl⟩
def K1(a b:Nat)(d:a<18446744073709551616)(h:b<18446744073709551616):im.wrap ((rQ im.bits (a:Int) ^^^ rQ im.bits (b:Int)).toNat:Int)=(a ^^^ b:Nat):=by
 have f:a ^^^ b<18446744073709551616:=Nat.xor_lt_two_pow (n:=64) d h;have e:(rQ im.bits (a:Int) ^^^ rQ im.bits (b:Int)).toNat=a ^^^ b:=by
  rw[BitVec.toNat_xor,BitVec.toNat_ofInt,BitVec.toNat_ofInt];have g:((a:Int)%(2 ^ im.bits:Nat)).toNat=a:=by simp[ps];omega
  have i:((b:Int)%(2 ^ im.bits:Nat)).toNat=b:=by simp[ps];omega
  rw[g,i]
 rw[e];generalize a ^^^ b=c at f;simp[ud,ps,uc];omega
def aq1(r:Nat):im.wrap ((r:Int)*2 ^ (min 13 im.bits))=(r*8192%18446744073709551616:Nat):=by simp[ud,ps,uc]
def aq2(r:Nat):im.wrap ((r:Int)*2 ^ (min 17 im.bits))=(r*131072%18446744073709551616:Nat):=by simp[ud,ps,uc]
def aq3(r:Nat):((r:Int)).fdiv (2 ^ (min 7 im.bits))=(r/128:Nat):=by rw[show(2:Int) ^ (min 7 im.bits)=128 from by decide,Int.fdiv_eq_ediv_of_nonneg _ Ω];omega
def aiI(r:Nat)(k:r<18446744073709551616):bH au 254 [.ptr (.obj 902) 0] (oq r) fun t u=>t= .int .u64 (Sort.xorNextN r)/\u=oq (Sort.xorNextN r):=by
 have i:=KH r;unfold oq at i⊢;refine bH.mk mixed a1 Tryz.func254 aoR Ψ i.obj fun w v=>?_;unfold Tu;obtain⟨m1,e⟩:∃m,m=r*8192%18446744073709551616:=⟨_,rfl⟩;have s1:=aq1 r;rw[<-e]at s1;have f:m1<18446744073709551616:=Ω
 obtain⟨a,c⟩:∃m,m=r ^^^ m1:=⟨_,rfl⟩;have t1:=K1 r m1 k f;rw[<-c]at t1;have l:a<18446744073709551616:=by rw[c];exact Nat.xor_lt_two_pow (n:=64) k f
 obtain⟨m2,p⟩:∃m,m=a/128:=⟨_,rfl⟩;have s2:=aq3 a;rw[<-p]at s2;have g:m2<18446744073709551616:=Ω
 obtain⟨a2,b⟩:∃m,m=a ^^^ m2:=⟨_,rfl⟩;have t2:=K1 a m2 l g;rw[<-b]at t2;have d:a2<18446744073709551616:=by rw[b];exact Nat.xor_lt_two_pow (n:=64) l g
 obtain⟨m3,o⟩:∃m,m=a2*131072%18446744073709551616:=⟨_,rfl⟩;have s3:=aq2 a2;rw[<-o]at s3;have s:m3<18446744073709551616:=Ω
 obtain⟨a3,q⟩:∃m,m=a2 ^^^ m3:=⟨_,rfl⟩;have t3:=K1 a2 m3 d s;rw[<-q]at t3;have bt:Sort.xorNextN r=a3:=by unfold Sort.xorNextN;simp only[<-e,<-c,<-p,<-b,<-o,<-q]
 rw[bt];simp[-BitVec.toNat_xor,-BitVec.ofInt_natCast,s1,t1,s2,t2,s3,t3];have j:=KH a3;have h:=Rp r a3;unfold oq at j h;refine c5.at _ (.inl rfl) j h aX aX ?_;simp[dd,bc,bf,a6]
end
section
open Go Go.Pv
variable {α:Type} [Inhabited α] {S:List α->cT} {n g cr:Nat} {lc ch:List af} {lt:α->α->Bool}
def ad6(a b:Nat)(d:a<18446744073709551616)(i:b<18446744073709551616):im.wrap ((rQ im.bits (a:Int)&&& rQ im.bits (b:Int)).toNat:Int)=(a&&& b:Nat):=by
 have f:a&&& b<18446744073709551616:=Nat.lt_of_le_of_lt Nat.and_le_left d;have e:(rQ im.bits (a:Int)&&& rQ im.bits (b:Int)).toNat=a&&& b:=by
  rw[BitVec.toNat_and,BitVec.toNat_ofInt,BitVec.toNat_ofInt];have g:((a:Int)%(2 ^ im.bits:Nat)).toNat=a:=by simp[ps];omega
  have h:((b:Int)%(2 ^ im.bits:Nat)).toNat=b:=by simp[ps];omega
  rw[g,h]
 rw[e];generalize a&&& b=c at f;simp[ud,ps,uc];omega
def AL(a len M i0:Nat)(d:Array α):Nat->UInt64×Array α
 |0=>(UInt64.ofNat len,d)
 |k+1=>Sort.breakStep a len M (AL a len M i0 d k) (i0+k)
def aeh(d:Array α)(a b:Nat)(h:8<=b-a):Sort.breakPatterns d a b=(AL a (b-a) (1<<<Sort.bitsLen (b-a)) (a+(b-a)/4*2-1) d 3).2:=by unfold Sort.breakPatterns;simp only[if_pos h,AL];rfl
def ac5{ob O:List aB}{a:cT}(f:eA a)(l:∀k,aM a k->k∈O)(i:∀k∈ob,k∈O){st:bp}{t':List (Nat×af)}{L:List (aB×List af)}{n:Nat}(g:∀x∈t',Pv.get x.1 st.t=x.2/\az (nz a n) x.2)(j:∀x∈L,ae x.1 st.b=some x.2/\nz a n x.1/\aH (nz a n) x.2)
  (q:∀k cs,ae k a.b=some cs->ae k st.b=some cs) (he:∀k o,ae k a.e=some o->ae k st.e=some o):gp ob st ⟨t',L++a.b,a.e,n,O⟩:=by
 have b:∀{k},nz a n k->¬fresh n O k:=by
  rintro k (h|⟨m,hm,rfl⟩)
  ·exact fun e=>e.2 (l k h)
  ·intro e;have:=e.1;simp at this;omega
 refine⟨fun x c=>⟨(g x c).1,tD (fun k ab=>b ab) _ (g x c).2⟩,fun k cs ab=>?_,fun k o ar=>?_,i⟩
 ·simp only at ab;rw[c6]at ab;cases d:ae k L with
  |some x=>rw[d]at ab;simp only[dU]at ab;subst ab;obtain⟨J,U,p⟩:=j _ (u0 d);exact⟨J,b U,jl (fun k ab=>b ab) _ p⟩
  |none=>rw[d]at ab;exact⟨q k cs ab,b (.inl (.inl (by simp[ab]))),jl (fun k ab=>b (.inl ab)) _ (f.kb k cs ab)⟩
 ·exact⟨he k o ar,b (.inl (.inr (by simp at ar;simp[ar]))),fun xs c=>jl (fun k ab=>b (.inl ab)) _ (f.ke k o ar xs c)⟩
def Q6{a β:Type}(s:List (aB×β)):∀(l:List (aB×a)),(∀k x,(k,x)∈l->ae k s=none)->cM s l=l
 |[],_=>rfl
 |(k,x)::r,h=>by have J:=h k x Ψ;simp only[cM,J];rw[Q6 s r fun k x b=>h k x (by simp[b])]
def j8(S:List α->cT)(d:Array α)(r:Nat):cT:=⟨(.obj 902,[.int .u64 r])::(S d.toList).b,(S d.toList).e⟩
def Gu(H:fT S n g cr lc ch lt)(d:Array α)(v:Nat):eA (j8 S d v):=by
 have h:=H.ok d.toList;have a:∀k,aM (S d.toList) k->aM (j8 S d v) k:=fun k ab=>by
  rcases ab with ab|ab
  ·refine .inl ?_;simp only[j8,ae];split
   ·rfl
   ·exact ab
  ·exact .inr ab
 refine⟨⟨fun m=>?_,h.obj.2⟩,fun k cs ab=>?_,fun k o ar xs b=>jl a _ (h.ke k o ar xs b)⟩
 ·simp[j8,ae,h.obj.1 m]
 ·simp only[j8,ae]at ab;split at ab
  ·cases ab;simp[aH,az]
  ·exact jl a _ (h.kb k cs ab)
def ac4{ob O:List aB}{d2:Array α}{y:Nat}{aY:List af}(c:eA (j8 S d2 y))(d:∀k,aM (j8 S d2 y) k->k∈O)(b:∀k∈ob,k∈O){st:bp}{t':List (Nat×af)}(g:∀x∈t',Pv.get x.1 st.t=x.2/\az (nz (j8 S d2 y) 1) x.2)(e:ae (.loc 0) st.b=some aY)(h:aH (nz (j8 S d2 y) 1) aY)
  (f:∀k cs,ae k (j8 S d2 y).b=some cs->ae k st.b=some cs) (he:∀k o,ae k (j8 S d2 y).e=some o->ae k st.e=some o):gp ob st ⟨t',(.loc 0,aY)::(.obj 902,[.int .u64 y])::(S d2.toList).b,(S d2.toList).e,1,O⟩:=
 ac5 (L:=[(.loc 0,aY)]) c d b g (fun x a=>by simp only[List.mem_singleton]at a;subst a;exact⟨e,Y2 _ _ _ Ω,h⟩) f he
def aiN(H:fT S n g cr lc ch lt)(ab:tL S 902)(d:Array α)(A:d.size=n)(a b:Nat)(ni:a<=b)(ag:b<=n)(lP:8<=b-a):
  bH au 239 [fC g cr lc ch,aj a,aj b] (S d.toList) fun r w=>r= .tuple []/\∃O,w=S O.toList/\O=Sort.breakPatterns d a b/\O.size=n:=by
 have ai:=H.ok d.toList;have Q:d.toList.length=n:=by simpa using A
 have i:∀l m,ae (.loc m) (S l).b=none:=fun l=>(H.ok l).obj.1;have hu:∀l m cs,cK (.loc m) cs (S l).b=(S l).b++[(.loc m,cs)]:=fun l m cs=>kO (i l m);have ar:∀m,aB.loc m∉cL (S d.toList):=kK ai.obj;have j:∀l,ae (.obj 902) (S l).b=none:=fun l=>(ab l).1;have iF:∀l,ae (.obj 902) (S l).e=none:=fun l=>(ab l).2;have hle:=H.le;have mJ:=Y9 ab d.toList;rw[aeh d a b lP];obtain⟨len,hlen⟩:∃len,len=b-a:=⟨_,rfl⟩;rw[<-hlen];obtain⟨M,L⟩:∃M,M=1<<<Sort.bitsLen len:=⟨_,rfl⟩;rw[<-L];have MC:len<M/\M<=2*len:=by have:=arU (x:=len) Ω;rw[L,Nat.one_shiftLeft];omega
 obtain⟨q,bM⟩:∃q,q=len/4:=⟨_,rfl⟩;rw[<-bM];have zy:∀l aY cs,cK (.obj 902) cs ((S l).b++[(.loc 0,aY)])=(S l).b++[(.loc 0,aY),(.obj 902,cs)]:=fun l aY cs=>by rw[C1 (j l)];rfl
 have qF:∀l aY x y,cK (.obj 902) y ((S l).b++[(.loc 0,aY),(.obj 902,x)])=(S l).b++[(.loc 0,aY),(.obj 902,y)]:=fun l aY x y=>by rw[C1 (j l)];simp[cK]
 have el:((b:Int)-a)=(len:Nat):=Ω
 have b3:vo.wrap ((len:Int).tdiv 4)=(q:Nat):=by rw[Int.tdiv_eq_ediv_of_nonneg Ω,pt _ Ω];omega
 have ew:im.wrap (len:Int)=len:=by simp[ud,ps,uc];omega
 refine bH.mk mixed a1 Tryz.func239 aoA Ψ ai.obj fun aR c4=>?_;unfold Tc;have F:=as1 len Ω;rw[<-L]at F;simp[fC,hu,zy,qF,ar,mJ,c6,i,j,iF,ae,cK,el,ew];have s:vo.wrap ((len:Int)/4)=(q:Nat):=by rw[pt _ Ω];omega
 ((repeat' first|refine ao ?_|refine aO F ?_|refine aP F ?_|simp[el,ew,b3,s,hu,zy,qF,ar,mJ,c6,i,j,iF,ae,cK]|((first|apply ct|apply cz|apply cy)<;>intro h<;>try simp at h))<;>(try exact c3));obtain⟨i0,Ek⟩:∃i0,i0=a+q*2-1:=⟨_,rfl⟩;rw[<-Ek];have Y:((a:Int)+q*2-1)=(i0:Nat):=Ω
 rw[Y];have N:∀(c:Array α) r k,aM (j8 S c r) k->c.size=n->k∈aB.obj 902::cL (S d.toList):=fun c r k h G=>by
  have e8:=H.same d.toList c.toList Q (by simpa using G);rcases h with h|h
  ·simp only[j8,ae]at h;split at h
   ·rename_i e;subst e;simp
   ·exact qf _ (rH (.inl (by rw[e8.b];exact h)))
  ·exact qf _ (rH (.inr (by rw[e8.e];exact h)))
 have E:∀(c:Array α) r,c.size=n->aH (nz (j8 S c r) 1) [.func g lc,.func cr ch]:=fun c r G=>by
  have J:=H.kdata (lk:=c.toList) (by simpa using G);have U:aH (aM (S c.toList)) [.func g lc,.func cr ch]:=by simpa[fC,az,aH]using J
  refine jl (fun k ab=>.inl ?_) _ U;rcases ab with ab|ab
  ·refine .inl ?_;simp only[j8,ae];split
   ·rfl
   ·exact ab
  ·exact .inr ab
 have avh:∀(c:Array α) r aY k cs,ae k (j8 S c r).b=some cs->ae k ((.loc 0,aY)::(j8 S c r).b)=some cs:=fun c r aY k cs h=>by
  cases k with
  |loc m=>rw[(Gu H c r).obj.1 m]at h;cases h
  |obj m=>simpa[ae]using h
 refine o6 (fun(x:Nat×UInt64×Array α)=>⟨[(1,aj a),(3,.ptr (.loc 0) 0),(6,aj len),(7,.ptr (.obj 902) 0),(8,.int .u64 M),(9,aj ((i0+x.1:Nat):Int))],[(.loc 0,[.func g lc,.func cr ch])]++(j8 S x.2.2 x.2.1.toNat).b,(j8 S x.2.2 x.2.1.toNat).e,1,aB.obj 902::cL (S d.toList)⟩) (fun x=>3-x.1)
  (fun x=>x.1<=3/\x.2.2.size=n/\AL a len M i0 d x.1=x.2) (0,UInt64.ofNat len,d) ?_ ⟨Ψ,A,rfl⟩ ?_
 ·refine ac5 (Gu H d _) (fun k h=>N d _ k h A) (fun k h=>qf _ h) (by simp[az,aM,j8,ae,nz]) ?_ ?_ aX
  ·intro x t;simp only[List.mem_singleton]at t;subst t;exact⟨by simp[c6,i,ae],Y2 _ _ _ Ω,E d _ A⟩
  ·intro k cs h;simp only[j8,ae]at h;rw[c6];split at h
   ·rename_i e;subst e;rw[j];have:(UInt64.ofNat len).toNat=len:=by simp;omega
    rw[this]at h;simpa[ae]using h
   ·rw[h]
 rintro⟨k,r,c⟩ ⟨a8,f,u⟩ _;simp only at a8 f u;have aI:=r.toNat_lt;obtain⟨x,t⟩:∃x,x=r.toNat:=⟨_,rfl⟩;rw[<-t]at aI⊢;have BD:Sort.xorNextN x<18446744073709551616:=Sort.xorNextN_lt x Ω;have Nb:(Sort.xorNext r).toNat=Sort.xorNextN x:=by rw[Sort.xorNext_toNat,<-t]
 obtain⟨y,B⟩:∃y,y=Sort.xorNextN x:=⟨_,rfl⟩;have Z:im.wrap ((M:Int)-1)=(M-1:Nat):=by simp[ud,ps,uc];omega
 have zc:=ad6 y (M-1) Ω Ω;obtain⟨z,P⟩:∃z,z=y&&& (M-1):=⟨_,rfl⟩;rw[<-P]at zc;have avq:z<=M-1:=by rw[P];exact Nat.and_le_right
 have o7:vo.wrap (z:Int)=z:=by rw[pt _ Ω]
 by_cases V:k=3
 ·subst V;simp[j8,ae,s];((repeat' first|refine ao ?_|simp[s]|((first|apply ct|apply cz|apply cy)<;>intro h<;>try simp at h))<;>(try exact c3));refine c5.at (S c.toList) (.inr rfl) (H.ok _) (H.same _ _ Q (by simpa using f)) (fun k cs h=>?_) (fun _ _ h=>h) ?_
  ·simp only[ae];split
   ·rename_i e;subst e;rw[i]at h;cases h
   ·split
    ·rename_i e;subst e;rw[j]at h;cases h
    ·exact h
  ·simp[dd,bc,bf,a6];exact⟨c,rfl,by rw[u],f⟩
 ·have HU:((i0+k:Nat):Int)<=(a:Int)+q*2+1:=Ω
  have Wx:((i0:Int)+k)<=(a:Int)+q*2+1:=Ω
  simp[j8,ae,s,Wx,HU];(repeat' first|refine ao ?_|simp[s,Wx,HU,ae]);have avm:=H.same d.toList c.toList Q (by simpa using f);have R:∀(K:Array α) (v:List af),cM [(aB.obj 902,v)] (S K.toList).b=(S K.toList).b:=fun K v=>Q6 _ _ fun k x hm=>by
   have:=u1 hm;simp only[ae];split
   ·rename_i e;subst e;rw[j]at this;cases this
   ·rfl
  refine CallDo.ob (aiI x Ω) (KH x) (fun k cs h=>?_) (fun k o h=>by simp[oq,ae]at h) (by simp[az,aH,aM,oq,ae]) ?_
  ·simp only[oq,ae]at h⊢;split at h
   ·rename_i e;subst e;simpa using h
   ·cases h
  rintro ec w ⟨rfl,rfl⟩;refine⟨Rp _ _,?_⟩;rw[<-B];have X:cM (oq x).b ((aB.loc 0,[af.func g lc,af.func cr ch])::(aB.obj 902,[af.int .u64 x])::(S c.toList).b)=(aB.loc 0,[af.func g lc,af.func cr ch])::(S c.toList).b:=by simp[oq,cM,ae,R]
  have W:cM (oq x).e (S c.toList).e=(S c.toList).e:=Q6 _ _ fun _ _ _=>rfl;rw[X,W,show(oq y).b=[(aB.obj 902,[af.int .u64 y])]from rfl,show(oq y).e=[]from rfl,List.append_nil];have au5:∀(v:List af),ae (.obj 902) ((aB.loc 0,[af.func g lc,af.func cr ch])::((S c.toList).b++[(aB.obj 902,v)]))=some v:=fun v=>by simp[ae,c6,j]
  have RR:∀o',o'<len->o'=(if z≥len then z-len else z)->Sort.breakStep a len M (r,c) (i0+k)=(Sort.xorNext r,Sort.swp c (i0+k) (a+o')):=fun o' J U=>by unfold Sort.breakStep;simp only[Nb,<-B,<-P,<-U]
  have Uy:((i0:Int)+k)=((i0+k:Nat):Int):=Ω
  simp only[e6,aB.obj.injEq];simp[-BitVec.toNat_and,-BitVec.ofInt_natCast,Z,zc,o7,ae,H.ssc];by_cases avr:len<=z
  ·have NF:(len:Int)<=z:=Ω
   have LW:((a:Int)+(z-len))=((a+(z-len):Nat):Int):=Ω
   ((repeat' first|refine ao ?_|simp[NF,ae,H.ssc]|((first|apply ct|apply cz|apply cy)<;>intro h<;>try simp at h))<;>(try exact c3));rw[LW,Uy];refine CallDo.ob (H.swap c.toList (by simpa using f) Ω (i0+k) (a+(z-len)) Ω Ω) (H.ok _) (fun bs cs h=>?_) (fun _ _ h=>h) (by simp[az,aH,H.ksc c.toList (by simpa using f)]) ?_
   ·simp only[ae];split
    ·rename_i e;subst e;rw[i]at h;cases h
    ·rw[c6,h]
   rintro ec w ⟨rfl,rfl⟩;refine⟨H.same _ _ (by simpa using f) (by simpa using f),?_⟩;rw[IL c Ω Ω];obtain⟨d2,p⟩:∃d2,d2=Sort.swp c (i0+k) (a+(z-len)):=⟨_,rfl⟩;have s2:d2.size=n:=by rw[p,hR,f]
   rw[<-p];have L1:∀v:List af,cM (S c.toList).b ((aB.loc 0,[af.func g lc,af.func cr ch])::((S c.toList).b++[(aB.obj 902,v)]))=[(aB.loc 0,[af.func g lc,af.func cr ch]),(aB.obj 902,v)]:=fun v=>by simp only[cM,i];rw[jA,hK];simp[cM,j]
   dsimp only;rw[L1,hK];simp;(repeat' first|refine ao ?_|simp);have LS:((i0:Int)+k+1)=((i0+(k+1):Nat):Int):=Ω
   rw[LS];refine bY.whl (k+1,Sort.xorNext r,d2) d6 ⟨by simp;omega,s2,by simp only[AL,u];rw[RR (z-len) Ω (by rw[if_pos Ω]),p]⟩ ?_;rw[Nb,<-B];refine ac4 (Gu H d2 y) (fun k h=>N d2 _ k h s2) (fun k h=>qf _ h) (by simp[az,aM,j8,ae,nz]) (by simp[ae]) (E d2 _ s2) ?_ (fun _ _ h=>h);intro k cs h;simp only[j8,ae]at h⊢;split at h
   ·rename_i e;subst e;simpa using h
   ·rename_i e;split
    ·rename_i aC;subst aC;rw[i]at h;cases h
    ·exact h
  ·have NF:¬(len:Int)<=z:=Ω
   have LW:((a:Int)+z)=((a+z:Nat):Int):=Ω
   ((repeat' first|refine ao ?_|simp[NF,ae,H.ssc]|((first|apply ct|apply cz|apply cy)<;>intro h<;>try simp at h))<;>(try exact c3));rw[LW,Uy];refine CallDo.ob (H.swap c.toList (by simpa using f) Ω (i0+k) (a+z) Ω Ω) (H.ok _) (fun bs cs h=>?_) (fun _ _ h=>h) (by simp[az,aH,H.ksc c.toList (by simpa using f)]) ?_
   ·simp only[ae];split
    ·rename_i e;subst e;rw[i]at h;cases h
    ·rw[c6,h]
   rintro ec w ⟨rfl,rfl⟩;refine⟨H.same _ _ (by simpa using f) (by simpa using f),?_⟩;rw[IL c Ω Ω];obtain⟨d2,p⟩:∃d2,d2=Sort.swp c (i0+k) (a+z):=⟨_,rfl⟩;have s2:d2.size=n:=by rw[p,hR,f]
   rw[<-p];have L1:∀v:List af,cM (S c.toList).b ((aB.loc 0,[af.func g lc,af.func cr ch])::((S c.toList).b++[(aB.obj 902,v)]))=[(aB.loc 0,[af.func g lc,af.func cr ch]),(aB.obj 902,v)]:=fun v=>by simp only[cM,i];rw[jA,hK];simp[cM,j]
   dsimp only;rw[L1,hK];simp;(repeat' first|refine ao ?_|simp);have LS:((i0:Int)+k+1)=((i0+(k+1):Nat):Int):=Ω
   rw[LS];refine bY.whl (k+1,Sort.xorNext r,d2) d6 ⟨by simp;omega,s2,by simp only[AL,u];rw[RR z Ω (by rw[if_neg Ω]),p]⟩ ?_;rw[Nb,<-B];refine ac4 (Gu H d2 y) (fun k h=>N d2 _ k h s2) (fun k h=>qf _ h) (by simp[az,aM,j8,ae,nz]) (by simp[ae]) (E d2 _ s2) ?_ (fun _ _ h=>h);intro k cs h;simp only[j8,ae]at h⊢;split at h
   ·rename_i e;subst e;simpa using h
   ·rename_i e;split
    ·rename_i aC;subst aC;rw[i]at h;cases h
    ·exact h
end
section
open Go Go.Pv
variable {α:Type} [Inhabited α] {S:List α->cT} {n g cr:Nat} {lc ch:List af} {lt:α->α->Bool}
def fT.fnD{d d2:Array α}(H:fT S n g cr lc ch lt)(J:d.size=n){f:Nat}{args:List af}{r:af}(m:bH au f args (S d.toList) fun b j=>b=r/\∃a,j=S a.toList/\a=d2/\a.size=n)(ab:aH (aM (S d.toList)) args){t:List (Nat×af)}{aY:List af}{o:List aB}{a:be Nat}{K:bp->Prop}
  (h:d2.size=n->∀o,K ⟨e6 a r t,(.loc 0,aY)::(S d2.toList).b,(S d2.toList).e,1,o⟩):CallDo au f args ⟨t,(.loc 0,aY)::(S d.toList).b,(S d.toList).e,1,o⟩ a K:=
 H.call (by simpa using J) (R:=fun b c=>b=r/\c=d2.toList/\d2.size=n) (m.mono fun r j ⟨l,a,p,i,k⟩=>⟨a.toList,p,l,by rw[i],by rw[<-i];exact k⟩) (fun r c ⟨_,e,h⟩=>by rw[e];simpa using h) ab (by rintro b c ⟨rfl,rfl,U⟩;exact h U _)
attribute [local simp] qw
def Df(S:List α->cT)(n g cr:Nat)(lc ch:List af)(lt:α->α->Bool)(m:Nat):Prop:=
 ∀k,k<m->∀(d:Array α),d.size=n->∀a b e:Nat,b-a<=k->a<=b->b<=n->e<=1000->Sort.Below lt a b d->
  bH au 214 [fC g cr lc ch,aj a,aj b,aj e] (S d.toList) fun r f=>r= .tuple []/\∃c,f=S c.toList/\Sort.PermIn a b d c/\Sort.SortedIn lt a b c
structure yE (S:List α->cT) (n g cr:Nat) (lc ch:List af) (lt:α->α->Bool) (br b2 lim:Nat) (d:Array α) (Q:Exit->bp->Prop):Prop where
 k:∀e,e= .normal\/e= .exit 1->∀(a2 b8:Nat) (w v:Bool) (L:Array α) (t:List (Nat×af)) (o:List aB),L.size=n->a2<=b8->b8<=n->b8-a2<b2-br->Sort.Below lt a2 b8 L->(∀R,Sort.PermIn a2 b8 L R->Sort.SortedIn lt a2 b8 R->Sort.PermIn br b2 d R/\Sort.SortedIn lt br b2 R)->
  Pv.get 1 t=aj a2->Pv.get 2 t=aj b8->Pv.get 3 t=aj lim->Pv.get 4 t= .ptr (.loc 0) 0->Pv.get 8 t= .bool w->Pv.get 9 t= .bool v->Q e ⟨t,(.loc 0,[.func g lc,.func cr ch])::(S L.toList).b,(S L.toList).e,1,o⟩
 r:∀(R:Array α) t o,Sort.PermIn br b2 d R->Sort.SortedIn lt br b2 R->Q .ret ⟨t,(.loc 0,[.func g lc,.func cr ch])::(S R.toList).b,(S R.toList).e,1,o⟩
def yE.mono{br b2 lim:Nat}{d f:Array α}{Q:Exit->bp->Prop}(h:yE S n g cr lc ch lt br b2 lim d Q)(p:Sort.PermIn br b2 d f):yE S n g cr lc ch lt br b2 lim f Q:=⟨fun e he a2 k w v L t o m q j l i c=>h.k e he a2 k w v L t o m q j l i fun R b a=>⟨Sort.permIn_trans _ _ _ br b2 p (c R b a).1,(c R b a).2⟩,fun R t o b a=>h.r R t o (Sort.permIn_trans _ _ _ br b2 p b) a⟩
structure AE (t:List (Nat×af)) (br b2 lim:Nat):Prop where
 t1:Pv.get 1 t=aj br
 t2:Pv.get 2 t=aj b2
 t3:Pv.get 3 t=aj lim
 t4:Pv.get 4 t= .ptr (.loc 0) 0
 t10:Pv.get 10 t=aj ((b2:Int)-br)
section
variable {br b2 lim:Nat} {cU:Array α} {t:List (Nat×af)} {o:List aB} {ob:List aB} {Q:Exit->bp->Prop}
def ZO(H:fT S n g cr lc ch lt)(F:Sort.SWO lt)(B:Df S n g cr lc ch lt (b2-br)){pv:Nat}(T:AE t br b2 lim)(t11:Pv.get 11 t=aj pv)(z:lim<=1000)(l:cU.size=n)(e:br<=pv/\pv<b2)(u:b2<=n)(K:12<b2-br)(E:Sort.Below lt br b2 cU)(A:yE S n g cr lc ch lt br b2 lim cU Q):
  df au ob Ls Q ⟨t,(.loc 0,[.func g lc,.func cr ch])::(S cU.toList).b,(S cU.toList).e,1,o⟩:=by
 obtain⟨t1,t2,t3,t4,t10⟩:=T;have j:∀f:Array α,f.size=n->az (aM (S f.toList)) (fC g cr lc ch):=fun f h=>H.kdata (lk:=f.toList) (by simpa using h);have hle:=H.le;unfold Ls;simp[t1,t2,t4,t11,ae,H.slc,H.ssc];simp only[jn H,H.slc,H.ssc,ji];have d:=aje H cU l br b2 pv e.1 e.2 Ω u;have i:Sort.partition lt cU br b2 pv=((Sort.partition lt cU br b2 pv).1,(Sort.partition lt cU br b2 pv).2.1,(Sort.partition lt cU br b2 pv).2.2):=rfl;generalize (Sort.partition lt cU br b2 pv).1=mid at d i;generalize (Sort.partition lt cU br b2 pv).2.1=ap at d i;generalize (Sort.partition lt cU br b2 pv).2.2=d4 at d i;obtain⟨g1,g2,g3,g4,g5,g6,g7⟩:=Sort.round_part F (Sort.partition_holds lt) e.1 e.2 Ω E i;refine H.fnD l d (by simp[az,aH,j cU l]) fun s4 o=>?_;have em:((mid:Int)+1)=(mid+1:Nat):=Ω
 simp[t1,t2,t3,t4,t10];by_cases G:mid-br<b2-mid
 ·have y:(mid:Int)-br<b2-mid:=Ω
  (repeat' first|refine ao ?_|simp[y,ae,t1,t2,t3,t4,t10]);simp only[jn H,H.slc,H.ssc,ji];refine H.doFn (lk:=d4.toList) (by simpa using s4) (R:=fun a=> ∃L:Array α,a=L.toList/\Sort.PermIn br mid d4 L/\Sort.SortedIn lt br mid L) ((B (mid-br) Ω d4 s4 br mid lim (dP _) g1 Ω z g4).mono fun r J ⟨v,b,x,w,p⟩=>⟨v,b.toList,x,b,rfl,w,p⟩) (by rintro a ⟨L,rfl,q,_⟩;simpa using q.1.trans s4) (by simp[aH,az,j d4 s4]) ?_;rintro a ⟨L,rfl,c,s⟩;obtain⟨m,k⟩:=g6 L c s;simp;(repeat' first|refine ao ?_|simp[t1,t2,t3,t4]);rw[em];exact A.k _ (.inl rfl) (mid+1) b2 _ ap L _ _ (c.1.trans s4) Ω u Ω m k Ψ (by simp[t2]) (by simp[t3]) (by simp[t4]) (by simp;rfl) Ψ
 ·have y:¬(mid:Int)-br<b2-mid:=Ω
  (repeat' first|refine ao ?_|simp[y,ae,t1,t2,t3,t4,t10]);simp only[jn H,H.slc,H.ssc,ji];rw[em];refine H.doFn (lk:=d4.toList) (by simpa using s4) (R:=fun a=> ∃L:Array α,a=L.toList/\Sort.PermIn (mid+1) b2 d4 L/\Sort.SortedIn lt (mid+1) b2 L) ((B (b2-(mid+1)) Ω d4 s4 (mid+1) b2 lim (dP _) Ω u z g5).mono fun r J ⟨v,b,x,w,p⟩=>⟨v,b.toList,x,b,rfl,w,p⟩) (by rintro a ⟨L,rfl,q,_⟩;simpa using q.1.trans s4) (by simp[aH,az,j d4 s4]) ?_;rintro a ⟨L,rfl,c,s⟩;obtain⟨m,k⟩:=g7 L c s;simp;(repeat' first|refine ao ?_|simp[t1,t2,t3,t4]);exact A.k _ (.inl rfl) br mid _ ap L _ _ (c.1.trans s4) g1 Ω Ω m k (by simp[t1]) Ψ (by simp[t3]) (by simp[t4]) (by simp;rfl) Ψ
def apy(H:fT S n g cr lc ch lt)(i:Sort.SWO lt)(p:Df S n g cr lc ch lt (b2-br)){pv:Nat}(T:AE t br b2 lim)(t11:Pv.get 11 t=aj pv){w v:Bool}(t8:Pv.get 8 t= .bool w)(t9:Pv.get 9 t= .bool v)(m:lim<=1000)(b:cU.size=n)(a:br<=pv/\pv<b2)(d:b2<=n)(l:12<b2-br)(e:Sort.Below lt br b2 cU)(h:yE S n g cr lc ch lt br b2 lim cU Q):
  df au ob Dx Q ⟨t,(.loc 0,[.func g lc,.func cr ch])::(S cU.toList).b,(S cU.toList).e,1,o⟩:=by
 obtain⟨t1,t2,t3,t4,t10⟩:=id T;have hle:=H.le;unfold Dx;by_cases c:0<br
 ·have k:(0:Int)<br:=Ω
  simp[t1,t2,t4,t11,c,k,ae,H.slc,H.ssc];(repeat' first|refine ao ?_|simp[t1,t2,t4,t11,c,k,ae,H.slc,H.ssc]);rw[show((br:Int)-1)=((br-1:Nat):Int) by omega];refine H.lessA b (br-1) pv Ω Ω fun o=>?_;cases q:lt cU[br-1]! cU[pv]!
  ·simp;(repeat' first|refine ao ?_|simp[ae,H.slc,H.ssc,t1,t2,t4,t11]);simp only[jn H,H.slc,H.ssc,ji];have f:=ajf H cU b br b2 pv a.1 a.2 Ω d;have j:Sort.partitionEqual lt cU br b2 pv=((Sort.partitionEqual lt cU br b2 pv).1,(Sort.partitionEqual lt cU br b2 pv).2):=rfl;generalize (Sort.partitionEqual lt cU br b2 pv).1=mid at f j;generalize (Sort.partitionEqual lt cU br b2 pv).2=d4 at f j;obtain⟨g1,g2,g3,g4,g5⟩:=Sort.round_eq i (Sort.partitionEqual_holds lt) c a.1 a.2 Ω e q j;refine H.fnD b f (by simp[az,aH,H.kdata (lk:=cU.toList) (by simpa using b)]) fun s4 o=>?_;simp[t1,t2,t3,t4];exact h.k _ (.inr rfl) mid b2 w v d4 _ _ s4 g2 d Ω g4 g5 Ψ (by simp[t2]) (by simp[t3]) (by simp[t4]) (by simp[t8]) (by simp[t9])
  ·simp;exact ZO H i p ⟨by simp[t1],by simp[t2],by simp[t3],by simp[t4],by simp[t10]⟩ (by simp[t11]) m b a d l e h
 ·have k:¬(0:Int)<br:=Ω
  simp[t1,c];exact ZO H i p ⟨by simp[t1],by simp[t2],by simp[t3],by simp[t4],by simp[t10]⟩ (by simp[t11]) m b a d l e h
def Pm(H:fT S n g cr lc ch lt)(p:Sort.SWO lt)(z:Df S n g cr lc ch lt (b2-br)){pv:Nat}(T:AE t br b2 lim)(t11:Pv.get 11 t=aj pv){h:Nat}(t12:Pv.get 12 t=aj h){w v:Bool}(t8:Pv.get 8 t= .bool w)(t9:Pv.get 9 t= .bool v)(r:lim<=1000)(b:cU.size=n)(u:br<=pv/\pv<b2)(m:b2<=n)(q:12<b2-br)(c:Sort.Below lt br b2 cU)(l:yE S n g cr lc ch lt br b2 lim cU Q):
  df au ob Lt Q ⟨t,(.loc 0,[.func g lc,.func cr ch])::(S cU.toList).b,(S cU.toList).e,1,o⟩:=by
 obtain⟨t1,t2,t3,t4,t10⟩:=id T;have hle:=H.le;unfold Lt;have next:∀{d5:Array α} {t o},AE t br b2 lim->Pv.get 11 t=aj pv->Pv.get 8 t= .bool w->Pv.get 9 t= .bool v->d5.size=n->Sort.Below lt br b2 d5->Sort.PermIn br b2 cU d5->df au ob Dx Q ⟨t,(.loc 0,[.func g lc,.func cr ch])::(S d5.toList).b,(S d5.toList).e,1,o⟩:=fun j k e f y x s=>apy H p z j k e f r y u m q x (l.mono s)
 have skip:∀{t o},AE t br b2 lim->Pv.get 11 t=aj pv->Pv.get 8 t= .bool w->Pv.get 9 t= .bool v->df au ob Dx Q ⟨t,(.loc 0,[.func g lc,.func cr ch])::(S cU.toList).b,(S cU.toList).e,1,o⟩:=fun j k e f=>next j k e f b c (Sort.permIn_refl _ _ _)
 by_cases aw:(w=true/\v=true)/\h=1
 ·obtain⟨⟨rfl,rfl⟩,rfl⟩:=aw;simp[t1,t2,t4,t8,t9,t12,ae,H.slc,H.ssc];simp only[jn H,H.slc,H.ssc,ji];have d:=ajd H cU b br b2 Ω m Ω;have a:=Sort.partialInsertionSort_holds p cU br b2 Ω Ω c;generalize (Sort.partialInsertionSort lt cU br b2).1=d5 at d a;generalize (Sort.partialInsertionSort lt cU br b2).2=ok at d a;refine H.fnD b d (by simp[az,aH,H.kdata (lk:=cU.toList) (by simpa using b)]) fun i o=>?_;cases ok
  ·simp;exact next ⟨by simp[t1],by simp[t2],by simp[t3],by simp[t4],by simp[t10]⟩ (by simp[t11]) (by simp[t8]) (by simp[t9]) i (c.perm Ω a.1) a.1
  ·simp;exact l.r _ _ _ a.1 (a.2 rfl)
 ·cases w
  ·simp[t8,t9,t12];exact skip ⟨by simp[t1],by simp[t2],by simp[t3],by simp[t4],by simp[t10]⟩ (by simp[t11]) (by simp[t8]) (by simp[t9])
  ·cases v
   ·simp[t8,t9,t12];exact skip ⟨by simp[t1],by simp[t2],by simp[t3],by simp[t4],by simp[t10]⟩ (by simp[t11]) (by simp[t8]) (by simp[t9])
   ·have J:((h:Int)==1)=false:=by simp at aw⊢;omega
    simp[t8,t9,t12,J];exact skip ⟨by simp[t1],by simp[t2],by simp[t3],by simp[t4],by simp[t10]⟩ (by simp[t11]) (by simp[t8]) (by simp[t9])
def ZP(H:fT S n g cr lc ch lt)(s:tL S 901)(i:Sort.SWO lt)(j:Df S n g cr lc ch lt (b2-br))(T:AE t br b2 lim){w v:Bool}(t8:Pv.get 8 t= .bool w)(t9:Pv.get 9 t= .bool v)(e:lim<=1000)(s1:cU.size=n)(a:b2<=n)(d:12<b2-br)(l:Sort.Below lt br b2 cU)(f:yE S n g cr lc ch lt br b2 lim cU Q):
  df au ob Lu Q ⟨t,(.loc 0,[.func g lc,.func cr ch])::(S cU.toList).b,(S cU.toList).e,1,o⟩:=by
 obtain⟨t1,t2,t3,t4,t10⟩:=id T;have hle:=H.le;have m:∀c:Array α,c.size=n->az (aM (S c.toList)) (fC g cr lc ch):=fun c h=>H.kdata (lk:=c.toList) (by simpa using h);unfold Lu;simp[t1,t2,t4,ae,H.slc,H.ssc];simp only[jn H,H.slc,H.ssc,ji];have b:=Sort.choosePivot_holds lt cU br b2 Ω;have k:=aiO H s cU s1 br b2 Ω a;generalize Sort.choosePivot lt cU br b2=u at k b;obtain⟨p,hint⟩:=u;simp only at k b;refine H.fnA s1 s1 k (by simp[az,aH,m cU s1]) fun o=>?_;cases hint
 ·simp[By];exact Pm H i j ⟨by simp[t1],by simp[t2],by simp[t3],by simp[t4],by simp[t10]⟩ (pv:=p) Ψ (h:=0) Ψ (w:=w) (v:=v) (by simp[t8]) (by simp[t9]) e s1 b a d l f
 ·simp[By];exact Pm H i j ⟨by simp[t1],by simp[t2],by simp[t3],by simp[t4],by simp[t10]⟩ (pv:=p) Ψ (h:=1) Ψ (w:=w) (v:=v) (by simp[t8]) (by simp[t9]) e s1 b a d l f
 ·simp[By,t1,t2,t4,ae,H.slc,H.ssc];simp only[jn H,H.slc,H.ssc,ji];refine H.fnD s1 (ajk H cU s1 br b2 Ω a Ω) (by simp[az,aH,m cU s1]) fun s2 o=>?_;have q:=Sort.reverseRange_holds cU br b2 Ω Ω;have r:((b2:Int)-1-(p-br))=((b2-1)-(p-br):Nat):=Ω
  simp[t1,t2,r];(repeat' first|refine ao ?_|simp[r,t1,t2]);exact Pm H i j ⟨by simp[t1],by simp[t2],by simp[t3],by simp[t4],by simp[t10]⟩ (pv:=(b2-1)-(p-br)) Ψ (h:=1) Ψ (w:=w) (v:=v) (by simp[t8]) (by simp[t9]) e s2 Ω a d (l.perm Ω q) (f.mono q)
end
def ajg(H:fT S n g cr lc ch lt)(gF:tL S 901)(iF:tL S 902)(F:Sort.SWO lt)(m:Nat):∀(d:Array α) (K:d.size=n) (a b B:Nat) (hm:b-a<=m) (ni:a<=b) (ag:b<=n) (fh:B<=1000) (zd:Sort.Below lt a b d),
  bH au 214 [fC g cr lc ch,aj a,aj b,aj B] (S d.toList) fun r ak=>r= .tuple []/\∃q,ak=S q.toList/\Sort.PermIn a b d q/\Sort.SortedIn lt a b q:=by
 induction m using Nat.strongRecOn with
 |ind m b0=>
 intro d K a b B hm ni ag fh zd;have ai:=H.ok d.toList;have G:d.toList.length=n:=by simpa using K
 have aA:∀l m,ae (.loc m) (S l).b=none:=fun l=>(H.ok l).obj.1;have hu:∀l m cs,cK (.loc m) cs (S l).b=(S l).b++[(.loc m,cs)]:=fun l m cs=>kO (aA l m);have ar:∀m,aB.loc m∉cL (S d.toList):=kK ai.obj;have hle:=H.le;refine bH.mk mixed a1 Tryz.func214 aoK Ψ ai.obj fun aR c4=>?_;unfold Tn;simp[fC,hu,ar,c6,aA];refine H.loopA G [4] (fun(x:((Nat×Nat×Nat)×Bool×Bool)×Array α)=>[(1,aj x.1.1.1),(2,aj x.1.1.2.1),(3,aj x.1.1.2.2),(8,.bool x.1.2.1),(9,.bool x.1.2.2)]) (·.2) (fun x=>x.1.1.2.1-x.1.1.1) (fun x=>x.2.size=n/\(x.1.1.1<=x.1.1.2.1/\x.1.1.2.1<=n/\x.1.1.2.1-x.1.1.1<=m/\x.1.1.2.2<=1000)/\Sort.Below lt x.1.1.1 x.1.1.2.1 x.2/\∀R,Sort.PermIn x.1.1.1 x.1.1.2.1 x.2 R->Sort.SortedIn lt x.1.1.1 x.1.1.2.1 R->Sort.PermIn a b d R/\Sort.SortedIn lt a b R)
  (((a,b,B),true,true),d) K ⟨K,⟨ni,ag,hm,fh⟩,zd,fun R J U=>⟨J,U⟩⟩ (by simp[c6,aA]) aX aX dl ?_
 rintro⟨⟨⟨br,b2,i⟩,atp,wp⟩,f⟩ ⟨c,⟨s,u,eD,V⟩,EP,N⟩;simp only at c s u eD V EP N;have Q:∀E:Array α,E.size=n->az (aM (S E.toList)) (fC g cr lc ch):=fun E h=>H.kdata (lk:=E.toList) (by simpa using h);have M:∀(R:Array α) t o,Sort.PermIn br b2 f R->Sort.SortedIn lt br b2 R->c5 [] (S d.toList) (fun r ak=>r= .tuple []/\∃q,ak=S q.toList/\Sort.PermIn a b d q/\Sort.SortedIn lt a b q) .ret ⟨t,(.loc 0,[.func g lc,.func cr ch])::(S R.toList).b,(S R.toList).e,1,o⟩:=fun R t o J U=>by refine H.retA G (by rw[J.1];exact c) (.inl rfl) ⟨rfl,R,rfl,N R J U⟩
 simp;by_cases uE:b2-br<=12
 ·have A:(b2:Int)-br<=12:=Ω
  (repeat' first|refine ao ?_|simp[A,ae,H.slc,H.ssc]);simp only[jn H,H.slc,H.ssc,ji];refine H.fnD c (ai0 H f c br b2 s u) (by simp[az,aH,Q f c]) fun s2 o=>?_;obtain⟨Y,Z⟩:=Sort.insertionSort_holds F f br b2 s Ω;simp;exact M _ _ _ Y Z
 have A:¬(b2:Int)-br<=12:=Ω
 by_cases xz:i=0
 ·have O:(((i:Nat):Int)==0)=true:=by simp[xz]
  (repeat' first|refine ao ?_|simp[A,O,ae,H.slc,H.ssc]);simp only[jn H,H.slc,H.ssc,ji];refine H.fnD c (aiQ H f c br b2 s u Ω) (by simp[az,aH,Q f c]) fun s2 o=>?_;obtain⟨Y,Z⟩:=Sort.heapSort_holds F f br b2 s Ω;simp;exact M _ _ _ Y Z
 have O:(((i:Nat):Int)==0)=false:=by simp[xz]
 have Xc:Df S n g cr lc ch lt (b2-br):=fun k ab=>b0 k Ω;cases atp
 ·(repeat' first|refine ao ?_|simp[A,O,ae,H.slc,H.ssc]);simp only[jn H,H.slc,H.ssc,ji];refine H.fnD c (aiN H iF f c br b2 s u Ω) (by simp[az,aH,Q f c]) fun s1 o=>?_;have P:=Sort.breakPatterns_holds f br b2 s Ω;generalize Sort.breakPatterns f br b2=d1 at s1 P;have el:((i:Int)-1)=(i-1:Nat):=Ω
  simp[el];(repeat' first|refine ao ?_|simp[el,ae]);refine ZP (lim:=i-1) H gF F Xc ⟨Ψ,Ψ,Ψ,Ψ,Ψ⟩ (w:=false) (v:=wp) Ψ Ψ Ω s1 u Ω (EP.perm Ω P) ⟨?_,fun R t o p j=>?_⟩
  ·rintro e he a2 b8 w v L t o z aC X b3 W y t1 t2 t3 t4 t8 t9;rcases he with rfl|rfl<;>simp<;>exact bY.whl (((a2,b8,i-1),w,v),L) d6 ⟨z,⟨aC,X,by simp;omega,by simp;omega⟩,W,fun R p j=>N R (Sort.permIn_trans _ _ _ br b2 P (y R p j).1) (y R p j).2⟩ (H.weakC G (by simpa using z) (by simp[az,t1,t2,t3,t4,t8,t9]))
  ·simpa using M R t o (Sort.permIn_trans _ _ _ br b2 P p) j
 ·(repeat' first|refine ao ?_|simp[A,O,ae,H.slc,H.ssc]);refine ZP (lim:=i) H gF F Xc ⟨Ψ,Ψ,Ψ,Ψ,Ψ⟩ (w:=true) (v:=wp) Ψ Ψ V c u Ω EP ⟨?_,fun R t o p j=>?_⟩
  ·rintro e he a2 b8 w v L t o z aC X b3 W y t1 t2 t3 t4 t8 t9;rcases he with rfl|rfl<;>simp<;>exact bY.whl (((a2,b8,i),w,v),L) d6 ⟨z,⟨aC,X,by simp;omega,V⟩,W,fun R p j=>N R (y R p j).1 (y R p j).2⟩ (H.weakC G (by simpa using z) (by simp[az,t1,t2,t3,t4,t8,t9]))
  ·simpa using M R t o p j
end
section
open Go Go.Pv
variable {α:Type} {S:List α->cT} {n g cr:Nat} {lc ch:List af} {lt:α->α->Bool}
def amG(n:rX lt){l lk:List α}{a b i:Nat}(t:a+1<=i)(E:i<=b)(B:b<=l.length)(e:ga lt (a+1) b l){z:α}(j:l[a]? =some z)(r:∀h x,a+1<=h->h<i->l[h]? =some x->lt x z=true)(s:∀h x,i<=h->h<b->l[h]? =some x->lt x z=false)
  (o:∀k,lk[k]? =l[iY a (a+1) i k]?):ga lt a b lk:=by
 intro p q x y A u g c d;rw[o]at c d;simp only[iY]at c d;rw[if_neg Ω]at c d;by_cases w:q<i-1
 ·rw[if_pos Ω]at c d;exact e _ _ _ _ Ω Ω Ω c d
 ·rw[if_neg Ω]at d;by_cases m:q<i
  ·rw[if_pos m,show q-(i-(a+1))=a by omega,j]at d;cases d;rw[if_pos Ω]at c;exact n.asym _ _ (r _ _ Ω Ω c)
  ·rw[if_neg m]at d;by_cases v:p<i-1
   ·rw[if_pos Ω]at c;exact e _ _ _ _ Ω Ω Ω c d
   ·rw[if_neg Ω]at c;by_cases f:p<i
    ·rw[if_pos f,show p-(i-(a+1))=a by omega,j]at c;cases c;exact s _ _ Ω g d
    ·rw[if_neg f]at c;exact e _ _ _ _ Ω Ω g c d
def amH(o:rX lt){l lk:List α}{a m i:Nat}(v:a<=i)(r:i<=m)(E:m+1<=l.length)(e:ga lt a m l){z:α}(g:l[m]? =some z)(t:∀h x,a<=h->h<i->l[h]? =some x->lt z x=false)(u:∀h x,i<=h->h<m->l[h]? =some x->lt z x=true)
  (s:∀k,lk[k]? =l[iY i m (m+1) k]?):ga lt a (m+1) lk:=by
 intro p q x y d j A b c;rw[s]at b c;simp only[iY]at b c;by_cases n:q<i
 ·rw[if_pos Ω]at b c;exact e _ _ _ _ d j Ω b c
 ·rw[if_neg n]at c;by_cases B:q=i
  ·rw[if_pos Ω,show q+(m-i)=m by omega,g]at c;cases c;rw[if_pos Ω]at b;exact t _ _ d Ω b
  ·rw[if_neg Ω,if_pos Ω]at c;by_cases f:p<i
   ·rw[if_pos f]at b;exact e _ _ _ _ d Ω Ω b c
   ·rw[if_neg f]at b;by_cases w:p=i
    ·rw[if_pos Ω,show p+(m-i)=m by omega,g]at b;cases b;exact o.asym _ _ (u _ _ Ω Ω c)
    ·rw[if_neg Ω,if_pos Ω]at b;exact e _ _ _ _ Ω Ω Ω b c
structure Gm (lt:α->α->Bool) (a s m e b mid:Nat) (lk:List α):Prop where
 s1:ga lt a s lk
 s2:ga lt s mid lk
 s3:ga lt mid e lk
 s4:ga lt e b lk
 cross:∀p q x y,a<=p->p<mid->mid<=q->q<b->lk[p]? =some x->lk[q]? =some y->lt y x=false
def ga.le(g:rX lt){a b:Nat}{l:List α}(h:ga lt a b l){i j:Nat}{x y:α}(J:a<=i)(U:i<=j)(k:j<b)(d:l[i]? =some x)(c:l[j]? =some y):lt y x=false:=by
 by_cases e:i=j
 ·subst e;rw[d]at c;cases c;cases f:lt x x with
  |false=>rfl
  |true=>have:=g.asym _ _ f;rw[f]at this;exact this
 ·exact h _ _ _ _ J Ω k d c
def amQ(f:rX lt){l lk:List α}{a m b mid s e:Nat}(has:a<=s)(e8:s<=m)(H:m<=e)(K:e<=b)(N:b<=l.length)(M:s+e=mid+m)(J:ga lt a m l)(U:ga lt m b l)
  (t:s=a\/e=b\/ ∃x y,l[s-1]? =some x/\l[e]? =some y/\lt y x=false) (o:s=m\/e=m\/ ∃x y,l[s]? =some x/\l[e-1]? =some y/\lt y x=true) (j:∀k,lk[k]? =l[iY s m e k]?):Gm lt a s m e b mid lk:=by
 have g1:∀p,p<s->lk[p]? =l[p]?:=fun p g=>by rw[j];simp[iY,g]
 have g2:∀p,s<=p->p<mid->lk[p]? =l[p+(m-s)]?:=fun p B L=>by rw[j];simp only[iY];rw[if_neg Ω,if_pos Ω]
 have g3:∀p,mid<=p->p<e->lk[p]? =l[p-(e-m)]?:=fun p B L=>by rw[j];simp only[iY];rw[if_neg Ω,if_neg Ω,if_pos Ω]
 have g4:∀p,e<=p->lk[p]? =l[p]?:=fun p B=>by
  rw[j];simp only[iY];rw[if_neg Ω];by_cases G:p<s+(e-m)
  ·omega
  ·rw[if_neg G,if_neg Ω]
 refine⟨fun p q x y g i h d c=>?_,fun p q x y g i h d c=>?_,fun p q x y g i h d c=>?_,fun p q x y g i h d c=>?_,fun p q x y g z h E d c=>?_⟩
 ·rw[g1 _ Ω]at d c;exact J _ _ _ _ g i Ω d c
 ·rw[g2 _ Ω Ω]at d c;exact U _ _ _ _ Ω Ω Ω d c
 ·rw[g3 _ Ω Ω]at d c;exact J _ _ _ _ Ω Ω Ω d c
 ·rw[g4 _ Ω]at d c;exact U _ _ _ _ Ω Ω Ω d c
 ·by_cases F:p<s
  ·rw[g1 _ F]at d;by_cases r:q<e
   ·rw[g3 _ h r]at c;exact J _ _ _ _ g Ω Ω d c
   ·rw[g4 _ Ω]at c;rcases t with t|t|⟨u,v,A,w,n⟩
    ·omega
    ·omega
    ·exact f.ntr _ _ _ (f.ntr _ _ _ (ga.le f J g Ω Ω d A) n) (ga.le f U Ω Ω E w c)
  ·rw[g2 _ Ω z]at d;by_cases r:q<e
   ·rw[g3 _ h r]at c;rcases o with o|o|⟨u,v,A,w,n⟩
    ·omega
    ·omega
    ·exact f.ntr _ _ _ (f.ntr _ _ _ (ga.le f U Ω Ω Ω d w) (f.asym _ _ n)) (ga.le f J Ω Ω Ω A c)
   ·rw[g4 _ Ω]at c;exact U _ _ _ _ Ω Ω E d c
def amR{a mid b:Nat}(t:a<=mid){lk e f:List α}(J:hn a mid lk e)(s1:ga lt a mid e)(U:hn mid b e f)(s2:ga lt mid b f)(i:∀p q x y,a<=p->p<mid->mid<=q->q<b->lk[p]? =some x->lk[q]? =some y->lt y x=false):ga lt a b f:=by
 intro p q x y m j n c d;by_cases r:q<mid
 ·rw[U.out _ (.inl Ω)]at c;rw[U.out _ (.inl Ω)]at d;exact s1 _ _ _ _ m j r c d
 ·by_cases s:mid<=p
  ·exact s2 _ _ _ _ s j n c d
  ·rw[U.out _ (.inl Ω)]at c;refine U.all (fun y=>lt y x=false) (fun k y l o d=>?_) q y Ω n d;rw[J.out _ (.inr l)]at d;exact J.all (fun x=>lt y x=false) (fun bs x h g c=>i bs k x y h g l o c d) p x m Ω c
end
section
open Go Go.Pv
variable {α:Type} {S:List α->cT} {n g cr:Nat} {lc ch:List af} {lt:α->α->Bool}
def arE(lt:α->α->Bool)(l:List α)(mid m s0 r0:Nat)(x:Nat×Nat):Prop:=s0<=x.1/\x.1<=x.2/\x.2<=r0/\(x.1=s0\/ ∃u v,l[x.1-1]? =some u/\l[mid+m-x.1]? =some v/\lt v u=false)/\(x.2=r0\/ ∃u v,l[x.2]? =some u/\l[mid+m-x.2-1]? =some v/\lt v u=true)
attribute [local simp] qw
def Gv(S:List α->cT)(n g cr:Nat)(lc ch:List af)(lt:α->α->Bool)(d:Nat):Prop:=
 ∀(l:List α) (a m b:Nat),l.length=n->b-a<=d->a<m->m<b->b<=n->ga lt a m l->ga lt m b l->
  bH au 232 [fC g cr lc ch,aj a,aj m,aj b] (S l) fun r e=>r= .tuple []/\∃c,e=S c/\hn a b l c/\ga lt a b c
def Gw(S:List α->cT)(g cr:Nat)(lc ch:List af)(lt:α->α->Bool)(a b:Nat)(l:List α)(Q:Exit->bp->Prop):Prop:=∀c t o,hn a b l c->ga lt a b c->Q .normal ⟨t,(.loc 0,[.func g lc,.func cr ch])::(S c).b,(S c).e,1,o⟩
section
variable {a m b mid i e d:Nat} {l:List α} {t:List (Nat×af)} {o:List aB} {ob:List aB} {Q:Exit->bp->Prop}
def ard(H:fT S n g cr lc ch lt)(r:Gv S n g cr lc ch lt d)(t3:Pv.get 3 t=aj b)(t4:Pv.get 4 t= .ptr (.loc 0) 0)(t16:Pv.get 16 t=aj mid)(t22:Pv.get 22 t=aj e)(c:l.length=n)(J:mid<=e)(U:e<=b)(s:b<=n)(u:b-mid<=d)(m:ga lt mid e l)(p:ga lt e b l)(i:Gw S g cr lc ch lt mid b l Q):
  df au ob GS Q ⟨t,(.loc 0,[.func g lc,.func cr ch])::(S l).b,(S l).e,1,o⟩:=by
 unfold GS;by_cases a:mid<e/\e<b
 ·simp[t3,t4,t16,t22,a.1,a.2,ae];simp only[jn H,H.slc,H.ssc,ji];refine H.doFn c (r l mid e b c u a.1 a.2 s m p) (fun w h=>by rw[h.1.length];exact c) (by simp[aH,az,H.kdata c]) ?_;rintro v ⟨q,z2⟩;simp;exact i _ _ _ q z2
 ·have k:ga lt mid b l:=by
   by_cases f:mid<e
   ·rwa[show e=b by omega]at m
   ·rwa[show e=mid by omega]at p
  by_cases f:mid<e
  ·have j:¬e<b:=Ω
   simp[t3,t16,t22,f,j];exact i _ _ _ (.refl _) k
  ·simp[t16,t22,f];exact i _ _ _ (.refl _) k
def arf(H:fT S n g cr lc ch lt)(B:Gv S n g cr lc ch lt d)(t1:Pv.get 1 t=aj a)(t3:Pv.get 3 t=aj b)(t4:Pv.get 4 t= .ptr (.loc 0) 0)(t16:Pv.get 16 t=aj mid)(t18:Pv.get 18 t=aj i)(t22:Pv.get 22 t=aj e)(j:l.length=n)(Y:a<=i/\i<=mid/\a<=m)(J:mid<=e)(U:e<=b)(P:b<=n)(R:b-mid<=d)(F:mid-a<=d)(f:Gm lt a i m e b mid l)(G:Gw S g cr lc ch lt a b l Q):
  df au ob GU Q ⟨t,(.loc 0,[.func g lc,.func cr ch])::(S l).b,(S l).e,1,o⟩:=by
 unfold GU;have next:∀{k t o},Pv.get 3 t=aj b->Pv.get 4 t= .ptr (.loc 0) 0->Pv.get 16 t=aj mid->Pv.get 22 t=aj e->k.length=n->hn a mid l k->ga lt a mid k->df au ob GS Q ⟨t,(.loc 0,[.func g lc,.func cr ch])::(S k).b,(S k).e,1,o⟩:=fun O V L N E c r=>by
  refine ard H B O V L N E J U P R (fun p q x y J U z s u=>?_) (fun p q x y J U z s u=>?_) fun K t o A M=>?_
  ·rw[c.out _ (.inr J)]at s;rw[c.out _ (.inr Ω)]at u;exact f.s3 p q x y J U z s u
  ·rw[c.out _ (.inr Ω)]at s;rw[c.out _ (.inr Ω)]at u;exact f.s4 p q x y J U z s u
  ·exact G K t o ((c.mono Ω Ω).trans (A.mono Ω Ω)) (amR Ω c r A M f.cross)
 by_cases v:a<i/\i<mid
 ·simp[t1,t4,t16,t18,v.1,v.2,ae];simp only[jn H,H.slc,H.ssc,ji];refine H.doFn j (B l a i mid j F v.1 v.2 Ω f.s1 f.s2) (fun X h=>by rw[h.1.length];exact j) (by simp[aH,az,H.kdata j]) ?_;rintro k ⟨c,r⟩;simp;exact next (by simp[t3]) (by simp[t4]) (by simp[t16]) (by simp[t22]) (by rw[c.length];exact j) c r
 ·have r:ga lt a mid l:=by
   by_cases w:a<i
   ·have:=f.s1;rwa[show i=mid by omega]at this
   ·have:=f.s2;rwa[show i=a by omega]at this
  by_cases w:a<i
  ·have W:¬i<mid:=Ω
   simp[t1,t16,t18,w,W];exact next (by simp[t3]) (by simp[t4]) (by simp[t16]) (by simp[t22]) j (.refl _) r
  ·simp[t1,t18,w];exact next (by simp[t3]) (by simp[t4]) (by simp[t16]) (by simp[t22]) j (.refl _) r
def arh(H:fT S n g cr lc ch lt)(K:Gv S n g cr lc ch lt d)(t1:Pv.get 1 t=aj a)(t2:Pv.get 2 t=aj m)(t3:Pv.get 3 t=aj b)(t4:Pv.get 4 t= .ptr (.loc 0) 0)(t16:Pv.get 16 t=aj mid)(t18:Pv.get 18 t=aj i)(t22:Pv.get 22 t=aj e)(c:l.length=n)(F:a<=i/\i<=mid/\a<=m)(J:mid<=e)(U:e<=b)(M:b<=n)(N:b-mid<=d)(w:mid-a<=d)(u:∀lk:List α,(∀k,lk[k]? =l[iY i m e k]?)->Gm lt a i m e b mid lk)(x:Gw S g cr lc ch lt a b l Q):
  df au ob Lv Q ⟨t,(.loc 0,[.func g lc,.func cr ch])::(S l).b,(S l).e,1,o⟩:=by
 unfold Lv;have next:∀{lk t o},Pv.get 1 t=aj a->Pv.get 3 t=aj b->Pv.get 4 t= .ptr (.loc 0) 0->Pv.get 16 t=aj mid->Pv.get 18 t=aj i->Pv.get 22 t=aj e->lk.length=n->Gm lt a i m e b mid lk->hn a b l lk->df au ob GU Q ⟨t,(.loc 0,[.func g lc,.func cr ch])::(S lk).b,(S lk).e,1,o⟩:=fun L O E G B A y j v=>arf H K L O E G B A y F J U M N w j fun z t o p q=>x z t o (v.trans p) q
 by_cases f:i<m/\m<e
 ·simp[t2,t4,t18,t22,f.1,f.2,ae];simp only[jn H,H.slc,H.ssc,ji];refine H.doFn c (ajl H l c i m e f.1 f.2 Ω) (fun P h=>by rw[h.1.length];exact c) (by simp[aH,az,H.kdata c]) ?_;rintro lk ⟨p,q⟩;simp;exact next (by simp[t1]) (by simp[t3]) (by simp[t4]) (by simp[t16]) (by simp[t18]) (by simp[t22]) (by rw[p.length];exact c) (u lk q) (p.mono Ω Ω)
 ·have j:=u l (fun k=>by
   congr 1;simp only[iY];repeat' split
   all_goals omega)
  by_cases s:i<m
  ·have r:¬m<e:=Ω
   simp[t2,t18,t22,s,r];exact next (by simp[t1]) (by simp[t3]) (by simp[t4]) (by simp[t16]) (by simp[t18]) (by simp[t22]) c j (.refl _)
  ·simp[t2,t18,s];exact next (by simp[t1]) (by simp[t3]) (by simp[t4]) (by simp[t16]) (by simp[t18]) (by simp[t22]) c j (.refl _)
def abE{bb:List (aB×List af)}(H:fT S n g cr lc ch lt)(L:ae (.loc 0) bb=some [.func g lc,.func cr ch])(U:∀k cs,ae k (S l).b=some cs->ae k bb=some cs)(W:rX lt)(Z:Gv S n g cr lc ch lt d){s0 r0:Nat}(t1:Pv.get 1 t=aj a)(t2:Pv.get 2 t=aj m)(t3:Pv.get 3 t=aj b)(t4:Pv.get 4 t= .ptr (.loc 0) 0)(t16:Pv.get 16 t=aj mid)(t17:Pv.get 17 t=aj ((mid:Int)+m))(t18:Pv.get 18 t=aj s0)(t19:Pv.get 19 t=aj r0)(f:l.length=n)(bA:a<m/\m<b/\mid=(a+b)/2)(J:mid<m/\s0=mid+m-b/\r0=mid\/m<=mid/\s0=a/\r0=m)(ag:b<=n)(aL:b-a<=d+1)(N:ga lt a m l)(M:ga lt m b l)(O:Gw S g cr lc ch lt a b l Q):
  df au (cL (S l)) Lw Q ⟨t,bb,(S l).e,1,o⟩:=by
 have hle:=H.le;unfold Lw;simp[t17];(repeat' first|refine ao ?_|simp[t17]);refine o6 (fun(x:Nat×Nat)=>⟨[(1,aj a),(2,aj m),(3,aj b),(4,.ptr (.loc 0) 0),(16,aj mid),(17,aj (mid+m)),(20,aj (mid+m-1)),(18,aj x.1),(19,aj x.2)],(.loc 0,[.func g lc,.func cr ch])::(S l).b,(S l).e,1,cL (S l)⟩) (fun x=>x.2-x.1)
  (arE lt l mid m s0 r0) (s0,r0) (H.weak f f (by simp[az,t1,t2,t3,t4,t16,t17,t18,t19]) L U fun _ _ h=>h) ⟨Ψ,by simp;omega,Ψ,.inl rfl,.inl rfl⟩ ?_
 rintro⟨i,j⟩ ⟨K,X,G,p,q⟩ _;simp only at K X G p q;have E:=HI i j Ω;by_cases F:i<j
 ·simp[F];(repeat' first|refine ao ?_|simp[ae]);obtain⟨c,aw⟩:∃c,c=(i+j)/2:=⟨_,rfl⟩;rw[<-aw]at E;simp only[E];(repeat' first|refine ao ?_|simp[ae]);obtain⟨u,A⟩:∃u,l[c]? =some u:=⟨_,cl Ω⟩;obtain⟨v,z⟩:∃v,l[mid+m-1-c]? =some v:=⟨_,cl Ω⟩;have Y:((mid:Int)+m-1-c)=(mid+m-1-c:Nat):=Ω
  simp only[H.slc,Y];refine H.doLess f (mid+m-1-c) c z A ?_;simp;cases B:lt v u with
  |false=>simp;(repeat' first|refine ao ?_|simp);refine bY.whl (c+1,j) d6 ⟨by simp;omega,by simp;omega,G,.inr ⟨u,v,by simpa using A,?_,B⟩,q⟩ (H.weakC f f dl);simp only;rw[show mid+m-(c+1)=mid+m-1-c by omega];exact z
  |true=>simp;(repeat' first|refine ao ?_|simp);refine bY.whl (i,c) d6 ⟨K,by simp;omega,by simp;omega,p,.inr ⟨u,v,A,?_,B⟩⟩ (H.weakC f f dl);simp only;rw[show mid+m-c-1=mid+m-1-c by omega];exact z
 ·obtain rfl:i=j:=Ω
  obtain⟨e,he⟩:∃e,e=mid+m-i:=⟨_,rfl⟩;have P:((mid:Int)+m-i)=(e:Nat):=Ω
  have V:i=a\/e=b\/ ∃x y,l[i-1]? =some x/\l[e]? =some y/\lt y x=false:=by
   rcases p with p|⟨u,v,r,w,s⟩
   ·omega
   ·exact .inr (.inr ⟨u,v,r,by rw[he];exact w,s⟩)
  have R:i=m\/e=m\/ ∃x y,l[i]? =some x/\l[e-1]? =some y/\lt y x=true:=by
   rcases q with q|⟨u,v,r,w,s⟩
   ·omega
   ·exact .inr (.inr ⟨u,v,r,by rw[he];exact w,s⟩)
  simp[F];(repeat' first|refine ao ?_|simp);rw[P];exact arh H Z (a:=a) (m:=m) (b:=b) (mid:=mid) (i:=i) (e:=e) Ψ Ψ Ψ Ψ Ψ Ψ Ψ f Ω Ω Ω ag Ω Ω (fun lk aI=>amQ W Ω Ω Ω Ω Ω Ω N M V R aI) O
end
def VU(H:fT S n g cr lc ch lt)(q:rX lt)(d:Nat):∀(l:List α) (a m b:Nat),l.length=n->b-a<=d->a<m->m<b->b<=n->ga lt a m l->ga lt m b l->
  bH au 232 [fC g cr lc ch,aj a,aj m,aj b] (S l) fun r ak=>r= .tuple []/\∃V,ak=S V/\hn a b l V/\ga lt a b V:=by
 induction d with
 |zero=>intro l a m b f Y D9 P;omega
 |succ d b0=>
 intro l a m b f Y D9 P ag M L;have ai:=H.ok l;have v:∀l m,ae (.loc m) (S l).b=none:=fun l=>(H.ok l).obj.1;have hu:∀l m cs,cK (.loc m) cs (S l).b=(S l).b++[(.loc m,cs)]:=fun l m cs=>kO (v l m);have ar:∀m,aB.loc m∉cL (S l):=kK ai.obj;have hle:=H.le;refine bH.mk mixed a1 Tryz.func232 aoQ Ψ ai.obj fun aR c4=>?_;unfold Tt;simp[fC,hu,ar,c6,v];(with_reducible repeat' first|((first|apply ct|apply cz|apply cy)<;>intro h<;>try simp at h)|refine ao ?_|simp[hu,ar,c6,v])
 ·obtain rfl:m=a+1:=Ω
  have Z:∀k,iY a (a+1) (a+1) k=k:=by
   intro k;simp only[iY];repeat' split
   all_goals omega
  obtain⟨z,N⟩:∃z,l[a]? =some z:=⟨_,cl Ω⟩;refine o6 (fun(x:Nat×Nat)=>⟨[(1,aj a),(4,.ptr (.loc 0) 0),(8,aj x.1),(9,aj x.2)],(.loc 0,[.func g lc,.func cr ch])::(S l).b,(S l).e,1,cL (S l)⟩) (fun x=>x.2-x.1)
   (fun x=>a+1<=x.1/\x.1<=x.2/\x.2<=b/\(∀h y,a+1<=h->h<x.1->l[h]? =some y->lt y z=true)/\(∀h y,x.2<=h->h<b->l[h]? =some y->lt y z=false)) (a+1,b)
   (H.weak f f dl (by simp[c6,v]) aX aX) ⟨Ψ,by simp;omega,Ψ,fun h y J U=>by simp at U;omega,fun h y J U=>by simp at J;omega⟩ ?_
  rintro⟨i,j⟩ ⟨O,X,E,w,A⟩ _;simp only at O X E w A;have hw:=HI i j Ω;simp[ae];(with_reducible repeat' first|((first|apply ct|apply cz|apply cy)<;>intro h<;>try simp at h)|refine ao ?_|simp[ae])
  ·obtain⟨c,aw⟩:∃c,c=(i+j)/2:=⟨_,rfl⟩;rw[<-aw]at hw;obtain⟨y,G⟩:∃y,l[c]? =some y:=⟨_,cl Ω⟩;simp only[hw,H.slc];refine H.doLess f c a G N ?_;simp;cases K:lt y z with
   |true=>
    simp;(repeat' first|refine ao ?_|simp);refine bY.whl (c+1,j) d6 ⟨by simp;omega,by simp;omega,E,fun h u J U hu=>?_,A⟩ (H.weakC f f dl);cases e:lt u z with
    |true=>rfl
    |false=>simp only at U;have:=q.ntr _ _ _ e (ga.le q L J Ω Ω hu G);rw[K]at this;cases this
   |false=>simp;(repeat' first|refine ao ?_|simp);refine bY.whl (i,c) d6 ⟨O,by simp;omega,by simp;omega,w,fun h u J U hu=>?_⟩ (H.weakC f f dl);exact q.ntr _ _ _ K (ga.le q L Ω J U G hu)
  ·obtain rfl:i=j:=Ω
   refine o6 (fun(x:Nat×List α)=>⟨[(4,.ptr (.loc 0) 0),(8,aj i),(11,aj x.1)],(.loc 0,[.func g lc,.func cr ch])::(S x.2).b,(S x.2).e,1,cL (S l)⟩) (fun x=>i-x.1)
    (fun x=>x.2.length=n/\a<=x.1/\x.1<i/\hn a b l x.2/\∀k,x.2[k]? =l[iY a (a+1) (x.1+1) k]?) (a,l)
    (H.weakC f f dl) ⟨f,Ψ,by simp;omega,.refl _,fun k=>by simp[Z]⟩ ?_
   rintro⟨k,lk⟩ ⟨p,F,W,B,s⟩ _;simp only at p F W B s;simp[ae];((repeat' first|refine ao ?_|simp[ae]|((first|apply ct|apply cz|apply cy)<;>intro h<;>try simp at h))<;>(try exact c3))
   ·have R:((k:Int)+1)=(k+1:Nat):=Ω
    rw[H.ssc,R];refine H.doSwap p k (k+1) Ω Ω Ω ?_;simp;(with_reducible repeat' first|((first|apply ct|apply cz|apply cy)<;>intro h<;>try simp at h)|refine ao ?_|simp);refine bY.whl (k+1,ih lk k (k+1)) d6 ⟨by simp[p],by simp;omega,by simp;omega,.step B Ω Ω Ω Ω Ω Ω,fun t=>?_⟩ (H.weakC f (by simp[p]) dl);rw[B6 _ _ _ _ Ω Ω,s,s,s];have:iY a (a+1) (k+1+1) t=if t=k then iY a (a+1) (k+1) (k+1)else if t=k+1 then iY a (a+1) (k+1) k else iY a (a+1) (k+1) t:=by
     simp only[iY];repeat' split
     all_goals omega
    rw[this];split
    ·rfl
    ·split<;>rfl
   ·obtain rfl:i=k+1:=Ω
    refine H.ret f p (.inl rfl) ⟨rfl,lk,rfl,B,amG q Ω E Ω L N w A s⟩
 ·obtain rfl:b=m+1:=Ω
  have Z:∀k,iY m m (m+1) k=k:=by
   intro k;simp only[iY];repeat' split
   all_goals omega
  obtain⟨z,N⟩:∃z,l[m]? =some z:=⟨_,cl Ω⟩;refine o6 (fun(x:Nat×Nat)=>⟨[(2,aj m),(4,.ptr (.loc 0) 0),(12,aj x.1),(13,aj x.2)],(.loc 0,[.func g lc,.func cr ch])::(S l).b,(S l).e,1,cL (S l)⟩) (fun x=>x.2-x.1)
   (fun x=>a<=x.1/\x.1<=x.2/\x.2<=m/\(∀h y,a<=h->h<x.1->l[h]? =some y->lt z y=false)/\(∀h y,x.2<=h->h<m->l[h]? =some y->lt z y=true)) (a,m)
   (H.weak f f dl (by simp[c6,v]) aX aX) ⟨Ψ,by simp;omega,Ψ,fun h y J U=>by simp at U;omega,fun h y J U=>by simp at J;omega⟩ ?_
  rintro⟨i,j⟩ ⟨O,X,E,w,A⟩ _;simp only at O X E w A;have hw:=HI i j Ω;simp[ae];(with_reducible repeat' first|((first|apply ct|apply cz|apply cy)<;>intro h<;>try simp at h)|refine ao ?_|simp[ae])
  ·obtain⟨c,aw⟩:∃c,c=(i+j)/2:=⟨_,rfl⟩;rw[<-aw]at hw;obtain⟨y,G⟩:∃y,l[c]? =some y:=⟨_,cl Ω⟩;simp only[hw,H.slc];refine H.doLess f m c N G ?_;simp;cases K:lt z y with
   |false=>simp;((repeat' first|refine ao ?_|simp|((first|apply ct|apply cz|apply cy)<;>intro h<;>try simp at h))<;>(try exact c3));refine bY.whl (c+1,j) d6 ⟨by simp;omega,by simp;omega,E,fun h u J U hu=>?_,A⟩ (H.weakC f f dl);simp only at U;exact q.ntr _ _ _ (ga.le q M J Ω Ω hu G) K
   |true=>
    simp;((repeat' first|refine ao ?_|simp|((first|apply ct|apply cz|apply cy)<;>intro h<;>try simp at h))<;>(try exact c3));refine bY.whl (i,c) d6 ⟨O,by simp;omega,by simp;omega,w,fun h u J U hu=>?_⟩ (H.weakC f f dl);cases e:lt z u with
    |true=>rfl
    |false=>have:=q.ntr _ _ _ (ga.le q M Ω J U G hu) e;rw[K]at this;cases this
  ·obtain rfl:i=j:=Ω
   refine o6 (fun(x:Nat×List α)=>⟨[(4,.ptr (.loc 0) 0),(12,aj i),(15,aj x.1)],(.loc 0,[.func g lc,.func cr ch])::(S x.2).b,(S x.2).e,1,cL (S l)⟩) (fun x=>x.1)
    (fun x=>x.2.length=n/\i<=x.1/\x.1<=m/\hn a (m+1) l x.2/\∀k,x.2[k]? =l[iY x.1 m (m+1) k]?) (m,l)
    (H.weakC f f dl) ⟨f,by simp;omega,Ψ,.refl _,fun k=>by simp[Z]⟩ ?_
   rintro⟨k,lk⟩ ⟨p,F,W,B,s⟩ _;simp only at p F W B s;simp[ae];((repeat' first|refine ao ?_|simp[ae]|((first|apply ct|apply cz|apply cy)<;>intro h<;>try simp at h))<;>(try exact c3))
   ·have R:((k:Int)-1)=(k-1:Nat):=Ω
    rw[H.ssc,R];refine H.doSwap p k (k-1) Ω Ω Ω ?_;simp;(repeat' first|refine ao ?_|simp);refine bY.whl (k-1,ih lk k (k-1)) d6 ⟨by simp[p],by simp;omega,by simp;omega,.step B Ω Ω Ω Ω Ω Ω,fun t=>?_⟩ (H.weakC f (by simp[p]) (by simp[az];omega));rw[B6 _ _ _ _ Ω Ω,s,s,s];have:iY (k-1) m (m+1) t=if t=k then iY k m (m+1) (k-1)else if t=k-1 then iY k m (m+1) k else iY k m (m+1) t:=by
     simp only[iY];repeat' split
     all_goals omega
    rw[this];split
    ·rfl
    ·split<;>rfl
   ·obtain rfl:i=k:=Ω
    refine H.ret f p (.inl rfl) ⟨rfl,lk,rfl,B,amH q Ω E Ω M N w A s⟩
 ·obtain⟨mid,M6⟩:∃mid,mid=(a+b)/2:=⟨_,rfl⟩;have hw:=HI a b Ω;rw[<-M6]at hw;simp only[hw];(with_reducible repeat' first|((first|apply ct|apply cz|apply cy)<;>intro h<;>try simp at h)|refine ao ?_|simp[hu,ar,c6,v])
  ·exact abE (s0:=mid+m-b) (r0:=mid) H (by simp[c6,v]) aX q b0 (a:=a) (m:=m) (b:=b) (mid:=mid) Ψ Ψ Ψ Ψ Ψ Ψ d6 Ψ f ⟨D9,P,M6⟩ Ω ag Y M L fun Q t o p F=>H.ret f (by rw[p.length];exact f) (.inr rfl) ⟨rfl,Q,rfl,p,F⟩
  ·exact abE (s0:=a) (r0:=m) H (by simp[c6,v]) aX q b0 (a:=a) (m:=m) (b:=b) (mid:=mid) Ψ Ψ Ψ Ψ Ψ Ψ Ψ Ψ f ⟨D9,P,M6⟩ Ω ag Y M L fun Q t o p F=>H.ret f (by rw[p.length];exact f) (.inr rfl) ⟨rfl,Q,rfl,p,F⟩
end
section
open Go Go.Pv
variable {α:Type} {S:List α->cT} {n g cr:Nat} {lc ch:List af} {lt:α->α->Bool}
def qg(lt:α->α->Bool)(z a b:Nat)(l:List α):Prop:= ∀i j x y,a<=i->i<j->j<b->i/z=j/z->l[i]? =some x->l[j]? =some y->lt y x=false
def qg.snoc{z q:Nat}(f:0<z){l a:List α}(h:qg lt z 0 (q*z) l){b:Nat}(g:hn (q*z) b l a)(U:ga lt (q*z) b a):qg lt z 0 b a:=by
 intro i j x y hi e m o c d;by_cases k:j<q*z
 ·rw[g.out _ (.inl Ω)]at c;rw[g.out _ (.inl k)]at d;exact h i j x y hi e k o c d
 ·have p:q<=j/z:=(Nat.le_div_iff_mul_le f).2 Ω;have n:q*z<=i:=(Nat.le_div_iff_mul_le f).1 Ω;exact U i j x y n e m c d
def qg.srt{z q:Nat}(o:0<z){l:List α}{a b:Nat}(h:qg lt z a b l){c:Nat}(f:a<=q*z)(aw:c<=(q+1)*z)(e:c<=b):ga lt (q*z) c l:=by intro i j x y hi d p g k;have n:i/z=q:=Nat.div_eq_of_lt_le hi Ω;have m:j/z=q:=Nat.div_eq_of_lt_le Ω Ω;exact h i j x y Ω d Ω Ω g k
def qg.after{z a b br b2:Nat}{l c:List α}(h:qg lt z a b l)(d:hn a br l c)(m:a<=br)(o:b2<=b):qg lt z br b2 c:=by intro i j x y hi g n k e f;rw[d.out _ (.inr Ω)]at e;rw[d.out _ (.inr Ω)]at f;exact h i j x y Ω g Ω k e f
def Mu(H:fT S n g cr lc ch lt)(L:rX lt)(l:List α)(f:l.length=n):
  bH au 199 [fC g cr lc ch,aj n] (S l) fun r ak=>r= .tuple []/\∃b,ak=S b/\hn 0 n l b/\ga lt 0 n b:=by
 have ai:=H.ok l;have W:∀l m,ae (.loc m) (S l).b=none:=fun l=>(H.ok l).obj.1;have hu:∀l m cs,cK (.loc m) cs (S l).b=(S l).b++[(.loc m,cs)]:=fun l m cs=>kO (W l m);have ar:∀m,aB.loc m∉cL (S l):=kK ai.obj;have hle:=H.le;refine bH.mk mixed a1 Tryz.func199 aoO Ψ ai.obj fun aR c4=>?_;unfold Tr;simp[fC,hu,ar,c6,W];refine o6 (fun(x:Nat×List α)=>⟨[(1,aj n),(2,.ptr (.loc 0) 0),(4,aj 20),(5,aj (x.1*20)),(6,aj (x.1*20+20))],(.loc 0,[.func g lc,.func cr ch])::(S x.2).b,(S x.2).e,1,cL (S l)⟩) (fun x=>n+20-x.1*20)
  (fun x=>x.2.length=n/\x.1*20<=n/\hn 0 n l x.2/\qg lt 20 0 (x.1*20) x.2) (0,l)
  (H.weak f f dl (by simp[c6,W]) aX aX) ⟨f,Ψ,.refl _,fun i j x y J U k=>by simp at k⟩ ?_
 rintro⟨q,lk⟩ ⟨J,U,k,V⟩ _;simp only at J U k V;simp[ae];((repeat' first|refine ao ?_|simp[ae]|((first|apply ct|apply cz|apply cy)<;>intro h<;>try simp at h))<;>(try exact c3))
 ·have P:((q:Int)*20)=(q*20:Nat):=Ω
  have aC:((q:Int)*20+20)=(q*20+20:Nat):=Ω
  simp only[jn H,H.slc,H.ssc,ji,aC];simp only[P];refine H.doFn J (VK H L lk J (q*20) (q*20+20) Ω Ω) (fun b h=>by rw[h.1.length];exact J) (by simp[aH,az,H.kdata J]) ?_;rintro b ⟨s,N⟩;have w:b.length=n:=by rw[s.length];exact J
  simp;((repeat' first|refine ao ?_|simp|((first|apply ct|apply cz|apply cy)<;>intro h<;>try simp at h))<;>(try exact c3));refine bY.whl (q+1,b) d6 ⟨w,by simp;omega,k.trans (s.mono Ω Ω),?_⟩ (H.weakC f w (by simp[az];omega));have:=V.snoc Ω s N;rwa[show q*20+20=(q+1)*20 by omega]at this
 ·have P:((q:Int)*20)=(q*20:Nat):=Ω
  simp only[jn H,H.slc,H.ssc,ji,P];refine H.doFn J (VK H L lk J (q*20) n Ω Ω) (fun b h=>by rw[h.1.length];exact J) (by simp[aH,az,H.kdata J]) ?_;rintro b ⟨s,N⟩;have w:b.length=n:=by rw[s.length];exact J
  have gh:=V.snoc Ω s N;simp;refine o6 (fun(x:Nat×List α)=>⟨[(1,aj n),(2,.ptr (.loc 0) 0),(4,aj x.1)],(.loc 0,[.func g lc,.func cr ch])::(S x.2).b,(S x.2).e,1,cL (S l)⟩) (fun x=>1099511627776-x.1)
   (fun x=>x.2.length=n/\20<=x.1/\x.1<=2*n+20/\hn 0 n l x.2/\qg lt x.1 0 n x.2) (20,b)
   (H.weakC f w dl) ⟨w,Ψ,Ψ,k.trans (s.mono Ω Ω),gh⟩ ?_
  rintro⟨z,Yn⟩ ⟨K,z2,z3,z4,z5⟩ _;simp only at K z2 z3 z4 z5;simp[ae];((repeat' first|refine ao ?_|simp[ae]|((first|apply ct|apply cz|apply cy)<;>intro h<;>try simp at h))<;>(try exact c3))
  ·refine o6 (fun(x:Nat×List α)=>⟨[(1,aj n),(2,.ptr (.loc 0) 0),(4,aj z),(5,aj (x.1*(2*z):Nat)),(6,aj (x.1*(2*z)+2*z:Nat))],(.loc 0,[.func g lc,.func cr ch])::(S x.2).b,(S x.2).e,1,cL (S l)⟩) (fun x=>n+2*z-x.1*(2*z))
    (fun x=>x.2.length=n/\x.1*(2*z)<=n/\hn 0 n l x.2/\qg lt (2*z) 0 (x.1*(2*z)) x.2/\qg lt z (x.1*(2*z)) n x.2) (0,Yn)
    (H.weakC f K dl) ⟨K,Ψ,z4,fun i j x y J U k=>by simp at k,by simpa using z5⟩ ?_
   rintro⟨p,F⟩ ⟨a,dM,G,o,E⟩ _;simp only at a dM G o E;obtain⟨A,d⟩:∃A,A=p*(2*z):=⟨_,rfl⟩;have y9:A=(2*p)*z:=by rw[d,Nat.mul_comm 2 p,Nat.mul_assoc]
   have X:(2*p+1)*z=A+z:=by rw[q5,<-y9,Nat.one_mul]
   have R:(2*p+2)*z=A+2*z:=by rw[q5,<-y9]
   have t:(p+1)*(2*z)=A+2*z:=by rw[q5,<-d,Nat.one_mul]
   have M:∀c,c<=A+z->c<=n->ga lt A c F:=fun c aw Y=>by have:=qg.srt (q:=2*p) Ω E (c:=c) (by rw[<-y9,d];omega) (by rw[X];exact aw) Y;rwa[<-y9]at this
   have Z:∀c,c<=A+2*z->c<=n->ga lt (A+z) c F:=fun c aw Y=>by have:=qg.srt (q:=2*p+1) Ω E (c:=c) (by rw[X,d];omega) (by rw[R];exact aw) Y;rwa[X]at this
   rw[<-d]at dM o E;simp only[<-d];simp[ae];((repeat' first|refine ao ?_|simp[ae]|((first|apply ct|apply cz|apply cy)<;>intro h<;>try simp at h))<;>(try exact c3))
   ·have O:((A:Int)+z)=(A+z:Nat):=Ω
    have b3:((A:Int)+2*z)=(A+2*z:Nat):=Ω
    simp only[jn H,H.slc,H.ssc,ji,O,b3];refine H.doFn a (VU H L (A+2*z-A) F A (A+z) (A+2*z) a Ω Ω Ω Ω (M _ Ω Ω) (Z _ Ω Ω)) (fun b h=>by rw[h.1.length];exact a) (by simp[aH,az,H.kdata a]) ?_;rintro B ⟨e,u⟩;have v:B.length=n:=by rw[e.length];exact a
    simp;(repeat' first|refine ao ?_|simp);refine bY.whl (p+1,B) (by simp only[t,<-d];omega) ⟨v,by simp only[t];omega,G.trans (e.mono Ω Ω),?_,?_⟩ ?_
    ·simp only[t];rw[d]at o e u;have:=o.snoc Ω e u;rwa[<-d]at this
    ·simp only[t];exact E.after e Ω Ω
    ·simp only[t];have Q:((p:Int)+1)*(2*(z:Int))=(A:Int)+2*z:=by have h:=fy (Nat.cast:Nat->Int) t;push_cast at h;exact h
     exact H.weakC f v (by simp[az,Q])
   ·have O:((A:Int)+z)=(A+z:Nat):=Ω
    simp only[jn H,H.slc,H.ssc,ji,O];refine H.doFn a (VU H L (n-A) F A (A+z) n a Ω Ω Ω Ω (M _ Ω Ω) (Z _ Ω Ω)) (fun b h=>by rw[h.1.length];exact a) (by simp[aH,az,H.kdata a]) ?_;rintro B ⟨e,u⟩;have v:B.length=n:=by rw[e.length];exact a
    simp;((repeat' first|refine ao ?_|simp|((first|apply ct|apply cz|apply cy)<;>intro h<;>try simp at h))<;>(try exact c3));refine bY.whl (2*z,B) d6 ⟨v,by simp;omega,by simp;omega,G.trans (e.mono Ω Ω),?_⟩ (H.weakC f v (by simp[az];omega));rw[d]at o e u;exact o.snoc Ω e u
   ·refine bY.whl (2*z,F) d6 ⟨a,by simp;omega,by simp;omega,G,?_⟩ (H.weakC f a (by simp[az];omega));have bS:=M n Ω Ω;rw[d]at o bS;exact o.snoc Ω (.refl _) bS
  ·refine H.ret f K (.inr rfl) ?_;refine⟨rfl,Yn,rfl,z4,fun i j x y J U k=>z5 i j x y J U k ?_⟩;rw[Nat.div_eq_of_lt Ω,Nat.div_eq_of_lt Ω]
end
section
open Go Go.Pv Go.Sort Go.RowKit
def akT{w:World}{base:Nat}{e:gQ}{sz:Nat}{v:Value}{n:Nat}{us:List Value}(h:w.ownsRow base e sz v n us)(k:v≠ .slice none 0 0):
  ∃g cap,v= .slice (some ⟨g,0,none⟩) n cap/\g<w.heap.size/\cap<=maxLen/\n<=cap/\us.length=n*sz/\Holds id w g 0 us.toArray:=by
 rcases h.2 with⟨d,_⟩|⟨g,cap,cur,rfl,q,a7,m,hm,p,l⟩
 ·exact absurd d k
 ·have f:g<w.heap.size:=by
   rcases Nat.lt_or_ge g w.heap.size with a|a
   ·exact a
   ·rw[Array.getElem?_eq_none a]at a7;cases a7
  refine⟨g,cap,rfl,f,hm,m,h.1,fun j i=>?_⟩;have b:j<us.length:=by simpa using i
  have o:=h.1;refine⟨?_,by simp[World.frozen?,a7]⟩;have c:(cur.toList.take (n*sz))[j]? =us[j]?:=by rw[l]
  rw[List.getElem?_take,if_pos Ω,vn,cl b]at c;simp only[World.cell?,a7,Nat.zero_add];simp only[kh,hT,if_false];rw[c];simp[getElem!_pos,b]
def apu{w:World}{base:Nat}{e:gQ}{sz g n cap q:Nat}{us:List Value}{F:Array Value}(h:w.ownsRow base e sz (.slice (some ⟨g,0,none⟩) n cap) n us)(k:F.size=n*sz):
  (putRow id (Sort.ahead w q) g 0 F).ownsRow base e sz (.slice (some ⟨g,0,none⟩) n cap) n F.toList:=by
 rcases h.2 with⟨b,_⟩|⟨o,r,cur,b,m,a7,i,hm,d,p⟩
 ·cases b
 ·injection b with a _ l;injection a with a;injection a with a;subst a;subst l;refine⟨by simpa using k,.inr ⟨g,cap,putCells id 0 F cur,rfl,m,?_,i,hm,by simpa[putCells]using d,?_⟩⟩
  ·simp[putRow,mapBlock,Sort.ahead,Array.getElem?_modify,a7,onCells]
  ·have hle:n*sz<=cur.size:=by rw[d];exact rU _ i
   apply List.ext_getElem?;intro j;rw[List.getElem?_take,vn,vn];by_cases f:j<n*sz
   ·have c:j<cur.size:=Ω
    simp only[if_pos f,putCells,Array.getElem?_mapIdx,Array.getElem?_eq_getElem c,pB];rw[if_pos Ω];simp[getElem!_pos,show j<F.size by omega]
   ·simp[f];omega
end
end Go.Proofs.YtahlgcidhnjlbaaGreat
namespace Go.Pv
section
open Go Go.RowKit Go.Lib Go.Sort Go.Proofs.YtahlgcidhnjlbaaGreat
def XN{S:aB->Prop}:∀{l:List af},aH S l↔∀x∈l,az S x
 |[]=>by simp[aH]
 |x::r=>by simp only[aH,XN (l:=r),gJ,forall_eq_or_imp]
def XF{α:Type}{s:cT}{l:List (aB×α)}:lY s l↔∀k,(ae k l).isSome->aM s k:=by
 refine⟨fun h k ab=>xS h k ab,fun h=>?_⟩;have:∀a:List (aB×α),(∀x∈a,aM s x.1)->lY s a:=by
  intro a;induction a with
  |nil=>intro _;trivial
  |cons x r b=>obtain⟨k,x⟩:=x;exact fun h=>⟨h (k,x) Ψ,b fun y d=>h y (by simp[d])⟩
 exact this l fun x c=>h x.1 (u1 (x:=x.2) c)
def PZ{w:World}{ν:bd}{sz:Nat}:∀{xs:List af} {us:List Value} {i:Nat} {p:af},dw w ν sz xs us->xs[i]? =some p->∃u,(us.drop (i*sz)).take sz=u.cells.toList/\aU w ν p u/\u.cells.size=sz/\∀c∈u.cells.toList,c.oneCell'=true
 |[],_,_,_,_,a=>by simp at a
 |x::xs,us,0,p,h,a=>by simp only[dw]at h;obtain⟨u,e,rfl,⟨J,U,b⟩,_⟩:=h;simp at a;subst a;refine⟨u,?_,J,U,b⟩;simp only[Nat.zero_mul,List.drop_zero];rw[List.take_append_of_le_length (by simp[U])];exact ix (by simp[U])
 |x::xs,us,i+1,p,h,a=>by simp only[dw]at h;obtain⟨u,e,rfl,⟨J,U,b⟩,d⟩:=h;obtain⟨v,f,g⟩:=PZ (i:=i) d (by simpa using a);refine⟨v,?_,g⟩;rw[<-f,Nat.succ_mul,Nat.add_comm,<-List.drop_drop];congr 2;rw[List.drop_append_of_le_length (by simp[U]),List.drop_of_length_le (by simp[U])];rfl
def Qi:∀(bm:List Value) (s:Nat) (F:Array Value),s+bm.length<=F.size->(setMany F s bm).toList=F.toList.take s++bm++F.toList.drop (s+bm.length)
 |[],s,F,h=>by simp[setMany]
 |v::r,s,F,h=>by
  simp only[mw]at h;rw[setMany,Qi r (s+1) _ d6];have b:s<F.toList.length:=by simp;omega
  have c:(F.setIfInBounds s v).toList=F.toList.set s v:=Ψ
  rw[c];have d:(F.toList.set s v).take (s+1)=F.toList.take s++[v]:=by rw[List.take_succ,List.getElem?_set_self b,List.take_set_of_le (dP _)];simp
  have a:(F.toList.set s v).drop (s+1+r.length)=F.toList.drop (s+(v::r).length):=by rw[List.drop_set_of_lt Ω];congr 1;simp;omega
  rw[d,a];simp
def adP(w:World):Sort.ahead w 0=w:=by simp[Sort.ahead]
def VT{P:cI}(N:Bool)(cr:Nat)(ad:∀args W,(callFunc cr args).run P W=((Gi N args).run P W).andThen fun v w'=>.ok (.value v) w')(e:gQ)(a:TypeInfo)(uL:P.info? e=some a)(G:(∀w,(Go.isAgg e).run P w= .ok true w)\/(a.size=1/\∀w,(Go.isAgg e).run P w= .ok false w)){s:cT}(B:eA s){K n el sz:Nat}(en:a.size=sz){xs:List af}(ab:ae (.obj K) s.e=some ⟨n,el,sz,some xs⟩)
  (i j:Nat) (hi:i<n) (ah:j<n):bH P cr [.int .i64 i,.int .i64 j,.row sz (.obj K) n,.cst (typeHandle P e)] s fun r ak=>r= .tuple []/\ak=⟨s.b,cK (.obj K) ⟨n,el,sz,some (ih xs i j)⟩ s.e⟩:=by
 subst en;refine bH.sem B.obj fun w ν bm ls E=>?_;right;have s0:=E.slot 0;have s1:=E.slot 1;have s2:=E.slot 2;have s3:=E.slot 3;simp[je,get,aU]at s0 s1 s2 s3;obtain⟨v,us,ba,bB,bX,dq⟩:=E.good.own (.obj K) _ ab;obtain⟨dK,R,vc⟩:=dq _ rfl;simp only at dK R ba bB;obtain⟨⟨g0,aen,vT⟩,_,n',eM,al,aC,bh⟩:=s2;rw[ba]at al;simp only[dU,js]at al;obtain⟨rfl,rfl⟩:=al;have b:=bh rfl;have cv:v≠ .slice none 0 0:=by rw[<-b,vT];simp
 obtain⟨g,cap,rfl,se,pU,akf,Z,D6⟩:=akT bB cv;have ali:bm= #[.int .i64 i,.int .i64 j,.slice (some ⟨g,0,none⟩) n cap,typeHandle P e]:=by
  have J:bm.size=4:=by simpa using ls
  apply Array.ext (by simpa using J);intro t U aq;simp at aq;rcases(by omega:t=0\/t=1\/t=2\/t=3)with rfl|rfl|rfl|rfl
  ·simpa[Array.getD,J]using s0
  ·simpa[Array.getD,J]using s1
  ·simpa[Array.getD,J]using b
  ·simpa[Array.getD,J]using s3
 subst ali;obtain⟨p,bN⟩:∃p,xs[i]? =some p:=⟨_,cl Ω⟩;obtain⟨q,bM⟩:∃q,xs[j]? =some q:=⟨_,cl Ω⟩;obtain⟨u,L,jq,y,O⟩:=PZ R bN;obtain⟨x,H,Aw,l,S⟩:=PZ R bM;have WE:i*a.size+a.size<=n*a.size:=by have:=rU a.size (show i+1<=n from hi);rwa[q5,Nat.one_mul]at this
 have WG:j*a.size+a.size<=n*a.size:=by have:=rU a.size (show j+1<=n from ah);rwa[q5,Nat.one_mul]at this
 have cell:∀t v,us[t]? =some v->w.cell? ⟨g,t,none⟩=some v:=fun t v M=>by obtain⟨J,U⟩:=fH.1 M;have:=(D6 t (by simpa using J)).1;simp at this;rw[this];simp[getElem!_pos,J,U]
 have V:∀t,t<n*a.size->w.frozen? ⟨g,t,none⟩=false:=fun t M=>by have:=(D6 t (by simpa[Z]using M)).2;simpa using this
 have run:(Gi N #[.int .i64 i,.int .i64 j,.slice (some ⟨g,0,none⟩) n cap,typeHandle P e]).run P w= .ok (.tuple #[]) ((w.setCells g (0+i*a.size) x.cells.toList).setCells g (0+j*a.size) u.cells.toList):=by
  rcases G with G|⟨X,G⟩
  ·exact run_swap_cells (P:=P) N e a uL G g 0 n cap i j hi ah u.cells.toList x.cells.toList (by simp[y]) (by simp[l]) O S w
     (fun k v b=>by
      rw[<-L,List.getElem?_take]at b;split at b
      ·rw[List.getElem?_drop]at b;simpa using cell _ _ b
      ·cases b)
     (fun k v b=>by
      rw[<-H,List.getElem?_take]at b;split at b
      ·rw[List.getElem?_drop]at b;simpa using cell _ _ b
      ·cases b)
     (fun k ab=>by simpa using V (i*a.size+k) Ω) (fun k ab=>by simpa using V (j*a.size+k) Ω)
  ·rw[X]at L y H l⊢;obtain⟨Y,MN⟩:∃c,u.cells.toList=[c]:=List.length_eq_one_iff.1 (by simpa using y);obtain⟨Q,mI⟩:∃c,x.cells.toList=[c]:=List.length_eq_one_iff.1 (by simpa using l);rw[MN]at L O⊢;rw[mI]at H S⊢;simp only[World.setCells,Nat.mul_one]at L H⊢;have VW:us[i]? =some Y:=by have:=fy (·[0]?) L;simpa using this
   have VY:us[j]? =some Q:=by have:=fy (·[0]?) H;simpa using this
   have:=run_swap_one (P:=P) N e a uL X G g 0 n cap i j hi ah Y Q (O Y Ψ) (S Q Ψ) w (by simpa using cell i Y VW) (by simpa using cell j Q VY) (by simpa using V i (by rw[X];omega)) (by simpa using V j (by rw[X];omega));simpa using this
 have alk:putRow id w g 0 us.toArray=w:=putRow_self id w g 0 _ D6;have alb:us.toArray.size=n*a.size:=by simpa using Z
 have Ic:w.setCells g (0+i*a.size) x.cells.toList=putRow id w g 0 (setMany us.toArray (i*a.size) x.cells.toList):=by have J:=setCells_putRow w g 0 x.cells.toList (i*a.size) us.toArray (by simp[l,Z];exact WE);rw[alk]at J;exact J
 obtain⟨d,oB⟩:∃d,d=setMany us.toArray (i*a.size) x.cells.toList:=⟨_,rfl⟩;have ajL:d.toList=us.take (i*a.size)++x.cells.toList++us.drop (i*a.size+a.size):=by rw[oB,Qi _ _ _ (by simp[l,Z];exact WE)];simp[l]
 have MB:d.size=n*a.size:=by rw[oB,size_setMany];exact alb
 have pY:(w.setCells g (0+i*a.size) x.cells.toList).setCells g (0+j*a.size) u.cells.toList=putRow id w g 0 (setMany d (j*a.size) u.cells.toList):=by rw[Ic,<-oB,setCells_putRow w g 0 u.cells.toList (j*a.size) d (by simp[y,MB];exact WG)]
 obtain⟨f,D5⟩:∃f,f=setMany d (j*a.size) u.cells.toList:=⟨_,rfl⟩;have ajM:f.toList=d.toList.take (j*a.size)++u.cells.toList++d.toList.drop (j*a.size+a.size):=by rw[D5,Qi _ _ _ (by simp[y,MB];exact WG)];simp[y]
 have ajN:f.size=n*a.size:=by rw[D5,size_setMany];exact MB
 have dL:=JH R bN Aw l S;rw[<-ajL]at dL;have eE:=JH (i:=j) (q:=q) dL (by rw[List.getElem?_set];split;(rename_i e;subst e;rw[if_pos Ω]);exact bM) jq y O;rw[<-ajM]at eE;have EA:(xs.set i q).set j p=ih xs i j:=by simp[ih,bN,bM]
 rw[EA]at eE;have hlen:(ih xs i j).length=n:=by simpa using dK
 have mK:=apu (q:=0) (F:=f) bB ajN;rw[adP]at mK;obtain⟨lF,qc,_⟩:=E.setRowM (w':=putRow id w g 0 f) ab rfl ba (bl:=g) rfl (v':= .slice (some ⟨g,0,none⟩) n cap) rfl (xs':=ih xs i j) (us:=f.toList) (.inl ⟨hlen,rfl⟩) rfl rfl rfl
  (fun t M=>by simp[putRow,mapBlock,Array.getElem?_modify,Ne.symm M]) (by simp[putRow,mapBlock]) (by rw[hlen];exact mK) eE
 refine⟨.tuple #[],putRow id w g 0 f,?_,?_⟩
 ·rw[ad,run,pY,<-D5];rfl
 ·have A:∀k,aM ⟨s.b,cK (.obj K) ⟨n,el,a.size,some (ih xs i j)⟩ s.e⟩ k↔aM s k:=fun k=>by
   unfold aM;simp only[jm];by_cases dk:aB.obj K=k
   ·subst dk;simp[ab]
   ·simp[dk]
  refine⟨_,_,_,_,.tuple [],⟨s.b,cK (.obj K) ⟨n,el,a.size,some (ih xs i j)⟩ s.e⟩,rfl,lF,by simp[aU,c7],XF.2 fun k lV=>(A k).2 (.inl lV),XF.2 fun k lV=>(A k).2 (.inr lV),fun k cs aw=>⟨aw,(A k).2 (.inl (by simp at aw;simp[aw])),jl (fun k h=>(A k).2 h) _ (B.kb k cs aw)⟩,fun k o ar=>⟨by simpa[hlen]using ar,?_,fun ys aK=>?_⟩,⟨B.obj.1,fun m=>?_⟩,by simp[az,aH],rfl,rfl⟩
  ·exact(.inr (by simp at ar;simp[ar]))
  ·simp only[jm]at ar;split at ar
   ·cases ar;simp only[dU]at aK;subst aK;have Wz:=B.ke _ _ ab xs rfl;refine jl (fun k h=>(A k).2 h) _ ?_;rw[XN]at Wz⊢;exact fun z bC=>Wz z ((Ym xs i j).mem_iff.1 bC)
   ·exact jl (fun k h=>(A k).2 h) _ (B.ke k o ar ys aK)
  ·simp only[jm];simp[B.obj.2 m]
def VS{P:cI}(b:Bool)(cr:Nat)(l:∀args W,(callFunc cr args).run P W=((Gi b args).run P W).andThen fun v w'=>.ok (.value v) w')(e:gQ)(a:TypeInfo)(d:P.info? e=some a)(c:∀w,(Go.isAgg e).run P w= .ok true w){s:cT}(h:eA s){K n el sz:Nat}(f:a.size=sz){xs:List af}(ab:ae (.obj K) s.e=some ⟨n,el,sz,some xs⟩)
  (i j:Nat) (hi:i<n) (k:j<n):bH P cr [.int .i64 i,.int .i64 j,.row sz (.obj K) n,.cst (typeHandle P e)] s fun r g=>r= .tuple []/\g=⟨s.b,cK (.obj K) ⟨n,el,sz,some (ih xs i j)⟩ s.e⟩:=VT b cr l e a d (.inl c) h f ab i j hi k
end
end Go.Pv
namespace Go.Proofs.YtahlgcidhnjlbaaGreat
section
open Go Go.RowKit Go.Lib Go.Sort Go.Pv
set_option maxRecDepth 100000 in
def aq8(t e:gQ)(i e0:TypeInfo)(hi:au.info? t=some i)(aL:i.desc= .slice e)(Eu:au.packed t=false)(uL:au.info? e=some e0)(ke:Nat)(v7:∀w,(adj e).run au w= .ok ke w)
  (p:be Addr) (n c:Nat) (aA:n<4611686018427387904) (f:Nat) (aG:au.funcs.findIdx? (·.name== "internal/reflectlite" ++ ".Swapper$" ++toString (swapperK n e0 ke))=some f) (Yg:Fn) (Ob sv:Array Value) (w:World) (R:World->Prop)
  (bN:Calls au 199 #[.agg #[.func Yg Ob sv,.func (.func f) #[] (sliceBound au e e0 ke p n c)],.int .i64 n] ((w.alloc (.cells #[.slice p n c] t)).alloc (.cells #[typeHandle au t,.pointer (some ⟨w.heap.size,0,none⟩),.int .u64 151] 179)) fun e w'=>e= .returned (.tuple #[])/\R w'):
  Calls au 140 #[.iface t (.slice p n c),.func Yg Ob sv] w fun e w'=>e= .returned (.tuple #[])/\R w':=by
 have aN:=run_valueOf_slice (P:=au) t e i hi aL p n c w;have ai:=fun w=>run_swapper_slice (P:=au) t e i e0 hi aL uL ke v7 p n c f aG w;have av:=fun a w bO=>run_valueLen_slice (P:=au) t e i hi aL Eu a p n c w bO;unfold sliceBound at bN;generalize (if swapperK n e0 ke<=2 then(#[]:Array Value)else #[.slice p n c,typeHandle au e])=B at ai bN;have aki:au.globals.size=0:=bi
 simp only[typeHandle,aki]at aN av bN;have Hf:∀args w,(callFunc 199 args).run au w= .ok (.enter 199 args) w:=enters_of Tryz.func199 bi rfl;go_enter Tryz.func140,Tryz.ntmps140;go_wp2;rw[run_callFunc_extern Tryz.func197 bi bi bi (e:=fun args=>atD (args.getD 0 (.tuple #[]))) bi,
  show Sem.run au ((fun args:Array Value=>atD (args.getD 0 (.tuple #[]))) #[.iface t (.slice p n c)]) w=_ from aN]
 simp only[Result.andThen];rw[Oper.upon_value];go_wp2;rw[run_callFunc_extern Tryz.func198 bi bi bi (e:=ayk "internal/reflectlite" (atE "Swapper")) bi,ai];simp only[Result.andThen];rw[Oper.upon_value];go_wp2;rw[run_callFunc_extern Tryz.func200 bi bi bi (e:=aym (atE "reflectlite.Value.Len" 0) ayl) bi,
  av _ _ Ψ]
 simp only[Result.andThen];rw[Oper.upon_value];go_wp2_with (go_at_fn 199;refine bN.mono ?_;rintro e w' ⟨rfl,bt⟩);go_end0;exact⟨rfl,bt⟩
def _root_.Go.Pv.Good.prMono{pr d:Nat->Prop}{w:World}{ν:bd}{b:List (aB×List af)}{e:List (aB×dW)}(h:Pv.Good pr w ν b e)(c:∀bl,pr bl->fB ν ⟨b,e⟩ bl->d bl):Pv.Good d w ν b e:=by
 refine⟨h.alt,fun k cs ab=>?_,h.inj,fun g o a7=>?_,h.oinj,h.obx,h.one,h.otr⟩
 ·obtain⟨bl,us,el,f1,f2,f3⟩:=h.box k cs ab;exact⟨bl,us,el,f1,c bl f2 (.inl ⟨k,by simp[ab],f1⟩),f3⟩
 ·obtain⟨v,us,f1,f2,f3,f4⟩:=h.own g o a7;exact⟨v,us,f1,f2,fun bl a=>⟨c bl (f3 bl a).1 (.inr ⟨g,o.n,v,by simp[a7],f1,a⟩),(f3 bl a).2⟩,f4⟩
def VZ(w:World)(a b:Obj):w.grownBy ((w.alloc a).alloc b) none:=by
 have J:w.heap.size<=(w.alloc a).heap.size:=Ψ
 have U:(w.alloc a).heap.size<=((w.alloc a).alloc b).heap.size:=Ψ
 exact⟨rfl,rfl,rfl,kE J U,fun k ab _=>(Below.heap_alloc _ b k (Nat.lt_of_lt_of_le ab J)).trans (Below.heap_alloc w a k ab)⟩
def eB{α:Type}(e:α->af)(K B el sz:Nat)(l:List α):cT:=⟨[(.obj B,[.row sz (.obj K) l.length])],[(.obj K,⟨l.length,el,sz,some (l.map e)⟩)]⟩
section
variable {α:Type} {e:α->af} (he:∀S x,az S (e x)) {K B el sz:Nat}
include he
theorem al7(S:aB->Prop)(l:List α):aH S (l.map e):=by
 induction l with
 |nil=>simp[aH]
 |cons x r a=>simp only[ha,aH];exact⟨he S x,a⟩
theorem yJ(l:List α):eA (eB e K B el sz l):=by unfold eB;refine eA.of ⟨by intro m;simp[ae],by intro m;simp[ae]⟩ (by simp[aH,az,aM,ae]) ?_;intro x b xs a;simp at b;subst b;simp at a;subst a;exact al7 he _ l
omit he in
theorem yK(l a:List α):Same (eB e K B el sz l) (eB e K B el sz a):=by
 refine⟨fun k=>?_,fun k=>?_⟩
 ·simp only[eB,ae];split<;>rfl
 ·simp only[eB,ae];split<;>rfl
theorem aiK(t:gQ)(i e0:TypeInfo)(hi:au.info? t=some i)(aL:i.desc= .slice el)(Eu:au.packed t=false)(uL:au.info? el=some e0)(ke:Nat)(v7:∀w,(adj el).run au w= .ok ke w)(uG:∀n,2<=n->swapperK n e0 ke=9)
  (g:Nat) (lt:α->α->Bool) (bP:rX lt) (l:List α) (av:l.length<=68719476736)
  (zp:∀bg:List α,bg.length=l.length->∀(i j:Nat) x y,bg[i]? =some x->bg[j]? =some y->bH au g [.int .i64 i,.int .i64 j,.ptr (.obj B) 0] (eB e K B el sz bg) fun r ak=>r= .bool (lt x y)/\ak=eB e K B el sz bg)
  (BK:∀bg:List α,bg.length=l.length->∀i j:Nat,i<l.length->j<l.length->bH au 230 [.int .i64 i,.int .i64 j,.row sz (.obj K) l.length,.cst (typeHandle au el)] (eB e K B el sz bg) fun r ak=>r= .tuple []/\ak=eB e K B el sz (ih bg i j)):
  bH au 140 [.iface t (.row sz (.obj K) l.length),.func g [.ptr (.obj B) 0]] (eB e K B el sz l) fun r ak=>r= .tuple []/\∃bg,ak=eB e K B el sz bg/\bg.Perm l/\bg.Pairwise fun x y=>lt y x=false:=by
 have zi:au.funcs.findIdx? (·.name== "internal/reflectlite" ++ ".Swapper$" ++toString 1)=some 222:=bi
 have td:au.funcs.findIdx? (·.name== "internal/reflectlite" ++ ".Swapper$" ++toString 2)=some 223:=bi
 have MU:au.funcs.findIdx? (·.name== "internal/reflectlite" ++ ".Swapper$" ++toString 9)=some 230:=bi
 have Ns:∃f ch,au.funcs.findIdx? (·.name== "internal/reflectlite" ++ ".Swapper$" ++toString (swapperK l.length e0 ke))=some f/\(ch=(if swapperK l.length e0 ke<=2 then []else [af.row sz (.obj K) l.length,.cst (typeHandle au el)]))/\
   bH au 199 [fC g f [.ptr (.obj B) 0] ch,.int .i64 l.length] (eB e K B el sz l) fun r ak=>r= .tuple []/\∃bg,ak=eB e K B el sz bg/\hn 0 l.length l bg/\ga lt 0 l.length bg:=by
  have eO:=fun bg=>yJ (K:=K) (B:=B) (el:=el) (sz:=sz) he bg;rcases(by omega:l.length=0\/l.length=1\/2<=l.length)with bA|J|U
  ·refine⟨222,[],by rw[bA];exact zi,by rw[bA];rfl,Mu (lt:=lt) ⟨eO,fun fP eX _ _=>yK fP eX,fun bg _=>by simp[aH,az,aM,eB,ae],fun bg _=>by simp[aH],by simp[b7,cf],rfl,av,fun bg h=>zp bg h,fun bg _ U i j hi=>Ω⟩ bP l rfl⟩
  ·refine⟨223,[],by rw[J];exact td,by rw[J];rfl,Mu (lt:=lt) ⟨eO,fun fP eX _ _=>yK fP eX,fun bg _=>by simp[aH,az,aM,eB,ae],fun bg _=>by simp[aH],by simp[b7,cf],rfl,av,fun bg h=>zp bg h,fun bg _ U i j hi ah=>Ω⟩ bP l rfl⟩
  ·refine⟨230,_,by rw[uG _ U];exact MU,rfl,?_⟩;rw[uG _ U];simp only[show¬((9:Nat)<=2)from by decide,if_false];exact Mu (lt:=lt) ⟨eO,fun fP eX _ _=>yK fP eX,fun bg _=>by simp[aH,az,aM,eB,ae],fun bg _=>by simp[aH,az,aM,eB,ae],by simp[b7,cf],by simp[b7,cf],av,fun bg h=>zp bg h,fun bg h _ i j hi ah=>BK bg h i j hi ah⟩ bP l rfl
 obtain⟨f,ch,aG,Nn,dy⟩:=Ns;intro w ν bm a7 ad aI;have pV:=c9.start (yJ he l).obj a7 ad aI;have Ni:=aI;simp only[c7,aU]at aI;obtain⟨v0,vs1,BM,⟨u,rfl,⟨b,cap,rfl⟩,fh,n',eM,al,aC,bh⟩,v1,vs2,hv1,⟨sv,rfl,sg⟩,rfl⟩:=aI;have ls:bm= #[.iface t (.slice (some ⟨b,0,none⟩) l.length cap),.func (.func g) #[] sv]:=by apply Array.ext';rw[BM,hv1]
 subst ls;have qz:∃fn,au.funcs[(140:Nat)]? =some fn/\fn.body.isSome=true/\(fn.name== "runtime.NumGoroutine")=false:=⟨_,Tryz.func140,by kernel_rfl,by kernel_rfl⟩;refine .inl ⟨qz,?_⟩;obtain⟨dM,pY⟩:∃dM,dM=(w.alloc (.cells #[.slice (some ⟨b,0,none⟩) l.length cap] t)).alloc (.cells #[typeHandle au t,.pointer (some ⟨w.heap.size,0,none⟩),.int .u64 151] 179):=⟨_,rfl⟩;have kH:w.grownBy dM none:=by rw[pY];exact VZ _ _ _
 have Nj:=pV.grown kH;have kI:mz w ν dM ν:=⟨fun b o bj=>⟨bj,G2 kH (a7.alt b o bj)⟩,fun _ _ _ h=>h,fun _ n u _ h=>⟨n,u,h,.inl ⟨rfl,rfl⟩⟩,fun b o bj=>ym (kH.block b (a7.alt b o bj) Ψ),fun _ _ _ _ h=>h⟩;have pU:Pv.Good (fB ν (eB e K B el sz l)) dM ν (eB e K B el sz l).b (eB e K B el sz l).e:=Nj.good.prMono fun bl _ h=>h;have lq:=JK kI Ni;simp only[c7]at lq;obtain⟨a0,ad0,uI,Ew,bq,ad1,mg,ak0,rfl⟩:=lq;simp at uI;obtain⟨rfl,rfl⟩:=uI;simp at mg;subst mg;have gL:aU dM ν (.row sz (.obj K) l.length) (.slice (some ⟨b,0,none⟩) l.length cap):=by simp only[aU]at Ew;obtain⟨u,hu,h⟩:=Ew;simp at hu;obtain⟨_,rfl⟩:=hu;simp only[aU];exact h
 have sj:c7 dM ν ch (sliceBound au el e0 ke (some ⟨b,0,none⟩) l.length cap).toList:=by
  unfold sliceBound;rw[Nn];split
  ·simp[c7]
  ·simp only[c7];exact⟨_,_,rfl,gL,_,_,rfl,by simp[aU],rfl⟩
 have vS:c7 dM ν [fC g f [.ptr (.obj B) 0] ch,.int .i64 l.length] (#[.agg #[.func (.func g) #[] sv,.func (.func f) #[] (sliceBound au el e0 ke (some ⟨b,0,none⟩) l.length cap)],.int .i64 l.length]:Array Value).toList:=by simp only[c7,fC];refine⟨_,_,rfl,?_,_,_,rfl,by simp[aU],rfl⟩;simp only[aU,cW];exact⟨_,rfl,_,_,rfl,⟨⟨sv,rfl,JK kI sg⟩,rfl⟩,_,_,rfl,⟨⟨_,rfl,sj⟩,rfl⟩,rfl⟩
 have MR:=dy dM ν _ pU ad vS;have Hf:∀args w,(callFunc 199 args).run au w= .ok (.enter 199 args) w:=enters_of Tryz.func199 bi rfl;rcases MR with⟨_,aw⟩|⟨v,w',aw,_⟩
 ·have M5:=aq8 t el i e0 hi aL Eu uL ke v7 (some ⟨b,0,none⟩) l.length cap Ω f aG (.func g) #[] sv w
   (fun w'=> ∃ak bo,(∃bg,ak=eB e K B el sz bg/\hn 0 l.length l bg/\ga lt 0 l.length bg)/\Pv.Good (fun bl=>fB ν (eB e K B el sz l) bl\/dM.heap.size<=bl) w' bo ak.b ak.e/\pM bo ak/\h0 ak/\pC ⟨dM,ν,fB ν (eB e K B el sz l),0,cL (eB e K B el sz l)⟩ w' bo) (by
    rw[<-pY];refine aw.mono ?_;rintro e w' ⟨v,r,ak,bo,rfl,⟨rfl,bM⟩,xI,aZ,bS,di,eb⟩;simp only[aU,c7]at xI;obtain⟨us,rfl,sn⟩:=xI;have:us= #[]:=by apply Array.ext';simpa using sn
    subst this;exact⟨rfl,ak,bo,bM,aZ,bS,di,eb⟩)
  refine M5.mono ?_;rintro e w' ⟨rfl,ak,bo,⟨bg,rfl,H9,BJ⟩,aZ,bS,di,eb⟩;refine⟨.tuple #[],.tuple [],_,bo,rfl,⟨rfl,bg,rfl,H9.perm,?_⟩,by simp[aU,c7],aZ.prMono fun bl h _=>?_,bS,di,⟨eb.os.trans kH.os,eb.tape.trans kH.tape,eb.output.trans kH.output,kE kH.size eb.size,fun k ab hm=>?_,fun b o bj=>?_,fun b o bj=>?_,eb.obj,eb.obn,eb.row,eb.obr,eb.trd,fun k j b ag=>⟨(eb.trb k j b ag).1.imp id (fun h=>kE kH.size h),(eb.trb k j b ag).2⟩,eb.trn,fun b o bj=>(eb.sh b o bj).trans (kI.sh b o bj)⟩⟩
  ·have oF:=H9.length;rw[<-oF]at BJ;exact BJ.pairwise
  ·rcases h with h|h
   ·exact .inl h
   ·exact .inr (kE kH.size h)
  ·rw[eb.block k (Nat.lt_of_lt_of_le ab kH.size) hm];exact kH.block k ab Ψ
  ·obtain⟨a8,bE⟩:=eb.keep b o bj;exact⟨a8,bE.trans (kI.A b o bj).2⟩
  ·rcases eb.fresh b o bj with h|h|h
   ·exact .inl h
   ·exact .inr (.inl h)
   ·exact .inr (.inr (kE kH.size h))
 ·rw[Hf]at aw;cases aw
end
end
end Go.Proofs.YtahlgcidhnjlbaaGreat
namespace Go.Proofs
section
open Go.Shelf
def Tryz.lays6_ren:Go.Shelf.Ren:=⟨fun|6=>182|10=>197|11=>198|12=>200|13=>213|14=>214|24=>236|25=>237|26=>231|27=>238|28=>239|29=>240|30=>241|31=>242|32=>243|33=>244|34=>252|35=>253|36=>254|37=>255|38=>256|39=>271|n=>n,fun|20=>20|26=>143|35=>179|0=>0|37=>181|3=>3|41=>192|44=>185|49=>206|51=>208|4=>4|54=>210|53=>209|58=>214|5=>5|9=>9|60=>222|64=>226|66=>235|67=>236|17=>17|32=>176|33=>177|82=>256|12=>12|75=>249|76=>250|77=>251|78=>252|79=>253|80=>254|n=>n,fun|n=>n⟩
def Tryz.lays6:Go.Proofs.LaysGg.n6 au Tryz.lays6_ren:={
 mixed:=bi
 f6:=Tryz.func182.trans (fy some bi)
 f10:=Tryz.func197.trans (fy some bi)
 f11:=Tryz.func198.trans (fy some bi)
 f12:=Tryz.func200.trans (fy some bi)
 f13:=Tryz.func213.trans (fy some bi)
 f14:=Tryz.func214.trans (fy some bi)
 f24:=Tryz.func236.trans (fy some bi)
 f25:=Tryz.func237.trans (fy some bi)
 f26:=Tryz.func231.trans (fy some bi)
 f27:=Tryz.func238.trans (fy some bi)
 f28:=Tryz.func239.trans (fy some bi)
 f29:=Tryz.func240.trans (fy some bi)
 f30:=Tryz.func241.trans (fy some bi)
 f31:=Tryz.func242.trans (fy some bi)
 f32:=Tryz.func243.trans (fy some bi)
 f33:=Tryz.func244.trans (fy some bi)
 f34:=Tryz.func252.trans (fy some bi)
 f35:=Tryz.func253.trans (fy some bi)
 f36:=Tryz.func254.trans (fy some bi)
 f37:=Tryz.func255.trans (fy some bi)
 f38:=Tryz.func256.trans (fy some bi)
 f39:=Tryz.func271.trans (fy some bi)
 t0:=Tryz.underlying0
 a0:=Tryz.isAgg0
 z0:=Tryz.sizeOf0
 v0:=Tryz.zeroValue0
 i0:=bi
 t3:=Tryz.underlying3
 a3:=Tryz.isAgg3
 z3:=Tryz.sizeOf3
 v3:=Tryz.zeroValue3
 i3:=bi
 t4:=Tryz.underlying4
 a4:=Tryz.isAgg4
 z4:=Tryz.sizeOf4
 v4:=Tryz.zeroValue4
 i4:=bi
 t5:=Tryz.underlying5
 a5:=Tryz.isAgg5
 z5:=Tryz.sizeOf5
 v5:=Tryz.zeroValue5
 i5:=bi
 t9:=Tryz.underlying9
 a9:=Tryz.isAgg9
 z9:=Tryz.sizeOf9
 v9:=Tryz.zeroValue9
 i9:=bi
 t12:=Tryz.underlying12
 a12:=Tryz.isAgg12
 z12:=Tryz.sizeOf12
 v12:=Tryz.zeroValue12
 i12:=bi
 t17:=Tryz.underlying17
 a17:=Tryz.isAgg17
 z17:=Tryz.sizeOf17
 v17:=Tryz.zeroValue17
 i17:=bi
 t20:=Tryz.underlying20
 a20:=Tryz.isAgg20
 z20:=Tryz.sizeOf20
 v20:=Tryz.zeroValue20
 i20:=bi
 t26:=Tryz.underlying143
 a26:=Tryz.isAgg143
 z26:=Tryz.sizeOf143
 v26:=Tryz.zeroValue143
 i26:=bi
 t32:=Tryz.underlying176
 a32:=Tryz.isAgg176
 z32:=Tryz.sizeOf176
 v32:=Tryz.zeroValue176
 i32:=bi
 t33:=Tryz.underlying177
 a33:=Tryz.isAgg177
 z33:=Tryz.sizeOf177
 v33:=Tryz.zeroValue177
 i33:=bi
 t35:=Tryz.underlying179
 a35:=Tryz.isAgg179
 z35:=Tryz.sizeOf179
 v35:=Tryz.zeroValue179
 i35:=bi
 t37:=Tryz.underlying181
 a37:=Tryz.isAgg181
 z37:=Tryz.sizeOf181
 v37:=Tryz.zeroValue181
 i37:=bi
 t41:=Tryz.underlying192
 a41:=Tryz.isAgg192
 z41:=Tryz.sizeOf192
 v41:=Tryz.zeroValue192
 i41:=bi
 t44:=Tryz.underlying185
 a44:=Tryz.isAgg185
 z44:=Tryz.sizeOf185
 v44:=Tryz.zeroValue185
 i44:=bi
 t49:=Tryz.underlying206
 a49:=Tryz.isAgg206
 z49:=Tryz.sizeOf206
 v49:=Tryz.zeroValue206
 i49:=bi
 t51:=Tryz.underlying208
 a51:=Tryz.isAgg208
 z51:=Tryz.sizeOf208
 v51:=Tryz.zeroValue208
 i51:=bi
 t53:=Tryz.underlying209
 a53:=Tryz.isAgg209
 z53:=Tryz.sizeOf209
 v53:=Tryz.zeroValue209
 i53:=bi
 t54:=Tryz.underlying210
 a54:=Tryz.isAgg210
 z54:=Tryz.sizeOf210
 v54:=Tryz.zeroValue210
 i54:=bi
 t58:=Tryz.underlying214
 a58:=Tryz.isAgg214
 z58:=Tryz.sizeOf214
 v58:=Tryz.zeroValue214
 i58:=bi
 t60:=Tryz.underlying222
 a60:=Tryz.isAgg222
 z60:=Tryz.sizeOf222
 v60:=Tryz.zeroValue222
 i60:=bi
 t64:=Tryz.underlying226
 a64:=Tryz.isAgg226
 z64:=Tryz.sizeOf226
 v64:=Tryz.zeroValue226
 i64:=bi
 t66:=Tryz.underlying235
 a66:=Tryz.isAgg235
 z66:=Tryz.sizeOf235
 v66:=Tryz.zeroValue235
 i66:=bi
 t67:=Tryz.underlying236
 a67:=Tryz.isAgg236
 z67:=Tryz.sizeOf236
 v67:=Tryz.zeroValue236
 i67:=bi
 t75:=Tryz.underlying249
 a75:=Tryz.isAgg249
 z75:=Tryz.sizeOf249
 v75:=Tryz.zeroValue249
 i75:=bi
 t76:=Tryz.underlying250
 a76:=Tryz.isAgg250
 z76:=Tryz.sizeOf250
 v76:=Tryz.zeroValue250
 i76:=bi
 t77:=Tryz.underlying251
 a77:=Tryz.isAgg251
 z77:=Tryz.sizeOf251
 v77:=Tryz.zeroValue251
 i77:=bi
 t78:=Tryz.underlying252
 a78:=Tryz.isAgg252
 z78:=Tryz.sizeOf252
 v78:=Tryz.zeroValue252
 i78:=bi
 t79:=Tryz.underlying253
 a79:=Tryz.isAgg253
 z79:=Tryz.sizeOf253
 v79:=Tryz.zeroValue253
 i79:=bi
 t80:=Tryz.underlying254
 a80:=Tryz.isAgg254
 z80:=Tryz.sizeOf254
 v80:=Tryz.zeroValue254
 i80:=bi
 t82:=Tryz.underlying256
 a82:=Tryz.isAgg256
 z82:=Tryz.sizeOf256
 v82:=Tryz.zeroValue256
 i82:=by kernel_rfl}
end
end Go.Proofs
namespace Go.Proofs.YtahlgcidhnjlbaaGreat
section
open Go Go.RowKit Go.Lib Go.Pv Go.Proofs
def aec(n:Nat)(h:n<1099511627776):Lib.bitLen n<=1000:=by
 have:∀f x,bitLenAux f x<=f:=by
  intro f;induction f with
  |zero=>intro x;simp[bitLenAux]
  |succ f a=>
   intro x;rw[bitLenAux];split
   ·omega
   ·have:=a (x/2);omega
 have:=this 64 n;unfold Lib.bitLen;omega
def apz{α:Type}[Inhabited α]{lt:α->α->Bool}{l:List α}{a:Array α}(h:Sort.PermIn 0 l.length l.toArray a)(m:Sort.SortedIn lt 0 l.length a):a.toList.Perm l/\a.toList.Pairwise fun x y=>lt y x=false:=by
 obtain⟨f,_,z3⟩:=h;have b:a.size=l.length:=by simpa using f
 have k:a.extract 0 l.length=a:=by rw[<-b];simp
 have n:l.toArray.extract 0 l.length=l.toArray:=Ψ
 rw[k,n]at z3;refine⟨by simpa using z3,?_⟩;rw[q4];intro i j hi c e;have J:=m i j Ω e (by simpa[b]using c);have d:i<a.size:=by simpa using hi
 have g:j<a.size:=by simpa using c
 rw[getElem!_pos a i d,getElem!_pos a j g]at J;simpa using J
section
variable {α:Type} {e:α->af} (he:∀S x,az S (e x)) {K B el sz:Nat}
include he
theorem VD[Inhabited α](V4:K≠901/\K≠902)(V3:B≠901/\B≠902)(t:gQ)(i e0:TypeInfo)(hi:au.info? t=some i)(aL:i.desc= .slice el)(Eu:au.packed t=false)(uL:au.info? el=some e0)(ke:Nat)(v7:∀w,(adj el).run au w= .ok ke w)(uG:∀n,2<=n->swapperK n e0 ke=9)
  (g:Nat) (lt:α->α->Bool) (bP:Sort.SWO lt) (l:List α) (av:l.length<=68719476736)
  (zp:∀bg:List α,bg.length=l.length->∀(i j:Nat) x y,bg[i]? =some x->bg[j]? =some y->bH au g [.int .i64 i,.int .i64 j,.ptr (.obj B) 0] (eB e K B el sz bg) fun r ak=>r= .bool (lt x y)/\ak=eB e K B el sz bg)
  (BK:∀bg:List α,bg.length=l.length->∀i j:Nat,i<l.length->j<l.length->bH au 230 [.int .i64 i,.int .i64 j,.row sz (.obj K) l.length,.cst (typeHandle au el)] (eB e K B el sz bg) fun r ak=>r= .tuple []/\ak=eB e K B el sz (ih bg i j)):
  bH au 182 [.iface t (.row sz (.obj K) l.length),.func g [.ptr (.obj B) 0]] (eB e K B el sz l) fun r ak=>r= .tuple []/\∃bg,ak=eB e K B el sz bg/\bg.Perm l/\bg.Pairwise fun x y=>lt y x=false:=by
 have zi:au.funcs.findIdx? (·.name== "internal/reflectlite" ++ ".Swapper$" ++toString 1)=some 222:=bi
 have td:au.funcs.findIdx? (·.name== "internal/reflectlite" ++ ".Swapper$" ++toString 2)=some 223:=bi
 have MU:au.funcs.findIdx? (·.name== "internal/reflectlite" ++ ".Swapper$" ++toString 9)=some 230:=bi
 have zv:tL (eB e K B el sz) 901:=fun l=>⟨by simp[eB,ae,V3.1],by simp[eB,ae,V4.1]⟩;have zw:tL (eB e K B el sz) 902:=fun l=>⟨by simp[eB,ae,V3.2],by simp[eB,ae,V4.2]⟩;have gh:=aec l.length Ω;have Ns:∃f ch,au.funcs.findIdx? (·.name== "internal/reflectlite" ++ ".Swapper$" ++toString (swapperK l.length e0 ke))=some f/\(ch=(if swapperK l.length e0 ke<=2 then []else [af.row sz (.obj K) l.length,.cst (typeHandle au el)]))/\
   bH au 214 [fC g f [.ptr (.obj B) 0] ch,.int .i64 0,.int .i64 l.length,.int .i64 (Lib.bitLen l.length)] (eB e K B el sz l) fun r ak=>r= .tuple []/\∃bg,ak=eB e K B el sz bg/\bg.Perm l/\bg.Pairwise fun x y=>lt y x=false:=by
  have eO:=fun bg=>yJ (K:=K) (B:=B) (el:=el) (sz:=sz) he bg;have key:∀{cr:Nat} {ch:List af},fT (eB e K B el sz) l.length g cr [.ptr (.obj B) 0] ch lt->bH au 214 [fC g cr [.ptr (.obj B) 0] ch,.int .i64 0,.int .i64 l.length,.int .i64 (Lib.bitLen l.length)] (eB e K B el sz l) fun r ak=>r= .tuple []/\∃bg,ak=eB e K B el sz bg/\bg.Perm l/\bg.Pairwise fun x y=>lt y x=false:=by intro cr ch H;have:=ajg H zv zw bP l.length l.toArray Ψ 0 l.length (Lib.bitLen l.length) Ω Ω (dP _) Ω (.inl rfl);simp only[Int.ofNat_zero,Int.natCast_zero,Int.cast_ofNat_Int]at this;refine bH.mono this ?_;rintro r ak ⟨ba,cu,bB,bX,dq⟩;obtain⟨c2,dD⟩:=apz bX dq;exact⟨ba,cu.toList,bB,c2,dD⟩
  rcases(by omega:l.length=0\/l.length=1\/2<=l.length)with bA|J|U
  ·refine⟨222,[],by rw[bA];exact zi,by rw[bA];rfl,key ⟨eO,fun fP eX _ _=>yK fP eX,fun bg _=>by simp[aH,az,aM,eB,ae],fun bg _=>by simp[aH],by simp[b7,cf],rfl,av,fun bg h=>zp bg h,fun bg _ U i j hi=>Ω⟩⟩
  ·refine⟨223,[],by rw[J];exact td,by rw[J];rfl,key ⟨eO,fun fP eX _ _=>yK fP eX,fun bg _=>by simp[aH,az,aM,eB,ae],fun bg _=>by simp[aH],by simp[b7,cf],rfl,av,fun bg h=>zp bg h,fun bg _ U i j hi ah=>Ω⟩⟩
  ·refine⟨230,_,by rw[uG _ U];exact MU,rfl,?_⟩;rw[uG _ U];simp only[show¬((9:Nat)<=2)from by decide,if_false];exact key ⟨eO,fun fP eX _ _=>yK fP eX,fun bg _=>by simp[aH,az,aM,eB,ae],fun bg _=>by simp[aH,az,aM,eB,ae],by simp[b7,cf],by simp[b7,cf],av,fun bg h=>zp bg h,fun bg h _ i j hi ah=>BK bg h i j hi ah⟩
 obtain⟨f,ch,aG,Nn,dy⟩:=Ns;intro w ν bm a7 ad aI;have pV:=c9.start (yJ he l).obj a7 ad aI;have Ni:=aI;simp only[c7,aU]at aI;obtain⟨v0,vs1,BM,⟨u,rfl,⟨b,cap,rfl⟩,fh,n',eM,al,aC,bh⟩,v1,vs2,hv1,⟨sv,rfl,sg⟩,rfl⟩:=aI;have ls:bm= #[.iface t (.slice (some ⟨b,0,none⟩) l.length cap),.func (.func g) #[] sv]:=by apply Array.ext';rw[BM,hv1]
 subst ls;have qz:∃fn,au.funcs[(182:Nat)]? =some fn/\fn.body.isSome=true/\(fn.name== "runtime.NumGoroutine")=false:=⟨_,Tryz.func182,by kernel_rfl,by kernel_rfl⟩;refine .inl ⟨qz,?_⟩;obtain⟨dM,pY⟩:∃dM,dM=sliceWorld au Tryz.lays6_ren t (some ⟨b,0,none⟩) l.length cap w:=⟨_,rfl⟩;have kH:w.grownBy dM none:=by rw[pY];unfold sliceWorld;exact VZ _ _ _
 have Nj:=pV.grown kH;have kI:mz w ν dM ν:=⟨fun b o bj=>⟨bj,G2 kH (a7.alt b o bj)⟩,fun _ _ _ h=>h,fun _ n u _ h=>⟨n,u,h,.inl ⟨rfl,rfl⟩⟩,fun b o bj=>ym (kH.block b (a7.alt b o bj) Ψ),fun _ _ _ _ h=>h⟩;have pU:Pv.Good (fB ν (eB e K B el sz l)) dM ν (eB e K B el sz l).b (eB e K B el sz l).e:=Nj.good.prMono fun bl _ h=>h;have lq:=JK kI Ni;simp only[c7]at lq;obtain⟨a0,ad0,uI,Ew,bq,ad1,mg,ak0,rfl⟩:=lq;simp at uI;obtain⟨rfl,rfl⟩:=uI;simp at mg;subst mg;have gL:aU dM ν (.row sz (.obj K) l.length) (.slice (some ⟨b,0,none⟩) l.length cap):=by simp only[aU]at Ew;obtain⟨u,hu,h⟩:=Ew;simp at hu;obtain⟨_,rfl⟩:=hu;simp only[aU];exact h
 have sj:c7 dM ν ch (sliceBound au el e0 ke (some ⟨b,0,none⟩) l.length cap).toList:=by
  unfold sliceBound;rw[Nn];split
  ·simp[c7]
  ·simp only[c7];exact⟨_,_,rfl,gL,_,_,rfl,by simp[aU],rfl⟩
 have vS:c7 dM ν [fC g f [.ptr (.obj B) 0] ch,.int .i64 0,.int .i64 l.length,.int .i64 (Lib.bitLen l.length)] (#[.agg #[.func (.func g) #[] sv,.func (.func f) #[] (sliceBound au el e0 ke (some ⟨b,0,none⟩) l.length cap)],.int .i64 0,.int .i64 l.length,.int .i64 (Lib.bitLen l.length)]:Array Value).toList:=by simp only[c7,fC];refine⟨_,_,rfl,?_,_,_,rfl,by simp[aU],_,_,rfl,by simp[aU],_,_,rfl,by simp[aU],rfl⟩;simp only[aU,cW];exact⟨_,rfl,_,_,rfl,⟨⟨sv,rfl,JK kI sg⟩,rfl⟩,_,_,rfl,⟨⟨_,rfl,sj⟩,rfl⟩,rfl⟩
 have MR:=dy dM ν _ pU ad vS;have Hf:∀args w,(callFunc 214 args).run au w= .ok (.enter 214 args) w:=enters_of Tryz.func214 bi rfl;rcases MR with⟨_,aw⟩|⟨v,w',aw,_⟩
 ·have M5:=Any.sort_Slice_of_pdq Tryz.lays6 t el i e0 hi aL Eu uL ke v7 (some ⟨b,0,none⟩) l.length cap Ω f aG (.func g) #[] sv w
   (fun w'=> ∃ak bo,(∃bg,ak=eB e K B el sz bg/\bg.Perm l/\bg.Pairwise fun x y=>lt y x=false)/\Pv.Good (fun bl=>fB ν (eB e K B el sz l) bl\/dM.heap.size<=bl) w' bo ak.b ak.e/\pM bo ak/\h0 ak/\pC ⟨dM,ν,fB ν (eB e K B el sz l),0,cL (eB e K B el sz l)⟩ w' bo) (by
    rw[<-pY];refine aw.mono ?_;rintro e w' ⟨v,r,ak,bo,rfl,⟨rfl,bM⟩,xI,aZ,bS,di,eb⟩;simp only[aU,c7]at xI;obtain⟨us,rfl,sn⟩:=xI;have:us= #[]:=by apply Array.ext';simpa using sn
    subst this;exact⟨rfl,ak,bo,bM,aZ,bS,di,eb⟩)
  refine M5.mono ?_;rintro e w' ⟨rfl,ak,bo,⟨bg,rfl,H9,BJ⟩,aZ,bS,di,eb⟩;refine⟨.tuple #[],.tuple [],_,bo,rfl,⟨rfl,bg,rfl,H9,BJ⟩,by simp[aU,c7],aZ.prMono fun bl h _=>?_,bS,di,⟨eb.os.trans kH.os,eb.tape.trans kH.tape,eb.output.trans kH.output,kE kH.size eb.size,fun k ab hm=>?_,fun b o bj=>?_,fun b o bj=>?_,eb.obj,eb.obn,eb.row,eb.obr,eb.trd,fun k j b ag=>⟨(eb.trb k j b ag).1.imp id (fun h=>kE kH.size h),(eb.trb k j b ag).2⟩,eb.trn,fun b o bj=>(eb.sh b o bj).trans (kI.sh b o bj)⟩⟩
  ·rcases h with h|h
   ·exact .inl h
   ·exact .inr (kE kH.size h)
  ·rw[eb.block k (Nat.lt_of_lt_of_le ab kH.size) hm];exact kH.block k ab Ψ
  ·obtain⟨a8,bE⟩:=eb.keep b o bj;exact⟨a8,bE.trans (kI.A b o bj).2⟩
  ·rcases eb.fresh b o bj with h|h|h
   ·exact .inl h
   ·exact .inr (.inl h)
   ·exact .inr (.inr (kE kH.size h))
 ·rw[Hf]at aw;cases aw
end
end
section
open Go Go.Pv Go.Lib
abbrev yI(l:List bn):cT:=eB bn.e 814 815 100 2 l
def YV:∀(S:aB->Prop) (x:bn),az S x.e:=fun S x=>by simp
def KF(l:List bn):eA (yI l):=yJ YV l
def amu:Sort.SWO (iP gf):=by
 refine⟨fun x=>?_,fun x y z J U=>?_,fun x y z J U=>?_⟩
 ·simp only[iP,iR];have:=mR.refl x;omega
 ·simp only[iP,gz]at*;exact mR.ltr J Ω
 ·simp only[iP,iR]at*;have b:=mR.neg x y;have c:=mR.neg y z;have a:=mR.neg x z;have:=mR.tr z y x Ω Ω;omega
def aiF(l:List bn)(i j:Nat)(x y:bn)(k:l.length<=68719476736)(hi:l[i]? =some x)(g:l[j]? =some y):bH au 185 [aj i,aj j,.ptr (.obj 815) 0] (yI l) fun r f=>r= .bool (iP gf x y)/\f=yI l:=by have a:=KF l;obtain⟨c,d⟩:=fH.1 hi;obtain⟨e,b⟩:=fH.1 g;unfold yI eB at a⊢;refine bH.mk mixed a1 Tryz.func185 ant Ψ a.obj fun m h=>?_;unfold R2;simp[c,e,d,b];(repeat' first|refine ao ?_|refine aO (C2 _ _) ?_|refine aP (C2 _ _) ?_|simp[c,e,d,b]);refine c5.at _ (.inl rfl) a (Same.refl _) aX aX ?_;simp[dd,bc,bf,a6]
noncomputable def Tryz.maT:TypeInfo:=(au.info? 49).get bi
noncomputable def Tryz.maE:TypeInfo:=(au.info? 100).get bi
def Tryz.maK(n:Nat)(U:2<=n):Lib.swapperK n Tryz.maE 25=9:=by
 have a:Tryz.maE.hasPointers=true:=bi
 have b:Tryz.maE.bytes=24:=bi
 have c:(n==0)=false:=by simp;omega
 have d:(n==1)=false:=by simp;omega
 simp[Lib.swapperK,a,b,c,d]
def Yl{α β:Type}(f:α->β)(l:List α)(i j:Nat):(ih l i j).map f=ih (l.map f) i j:=by
 unfold ih;simp only[List.getElem?_map];cases l[i]? with
 |none=>simp
 |some x=>
  cases l[j]? with
  |none=>simp
  |some y=>simp[List.map_set]
def ajt(l:List bn)(d:l.length<=68719476736):bH au 182 [.iface 49 (.row 2 (.obj 814) l.length),.func 185 [.ptr (.obj 815) 0]] (yI l) fun r b=>r= .tuple []/\b=yI (p8 gf l):=by
 refine(VD YV (K:=814) (B:=815) (sz:=2) (by decide) (by decide) 49 Tryz.maT Tryz.maE bi bi bi bi 25 (fun _=>by kernel_rfl) Tryz.maK 185 (iP gf) amu l d (fun a h i j x y hi c=>aiF a i j x y Ω hi c) (fun a h i j hi c=>?_)).mono ?_
 ·have:=VS (P:=au) false 230 (fun args W=>run_callFunc_extern Tryz.func230 bi bi bi (e:=Gi false) bi args W)
   100 Tryz.maE bi (fun _=>by kernel_rfl) (KF a) (K:=814) (n:=l.length) (el:=100) (sz:=2) bi (xs:=a.map bn.e) (by simp[eB,ae,h]) i j hi c
  refine this.mono ?_;rintro r b ⟨rfl,rfl⟩;refine⟨rfl,?_⟩;simp[eB,cK,Yl,h]
 ·rintro r b ⟨rfl,a,rfl,J,U⟩;exact⟨rfl,by rw[abL mR J U]⟩
def pd(l:List bn):List af:= .hdm l.length (List.range l.length)::l.flatMap fun m=>[m.e,.bool true]
def l9(m:bn)(l:List bn):List bn:=if m∈l then l else l++[m]
def al2(a b:bn):uU (.a [false,true]) a.e b.e=some (decide (a=b)):=by simp only[bn.e,uU,kR,if_true,pB];congr 1;rw[q2];cases a;cases b;simp
def al3(a:bn):xU (.a [false,true]) a.e=true:=by simp[bn.e,xU,kR,-KR]
def Y1(m:bn):∀l:List bn,wB (.a [false,true]) m.e (.bool true) (l.flatMap fun m=>[m.e,.bool true])=some (if m∈l then some (l.flatMap fun m=>[m.e,.bool true])else none)
 |[]=>rfl
 |a::l=>by
  simp only[List.flatMap_cons,b6,ca,wB,al2];by_cases h:m=a
  ·subst h;simp
  ·have b:decide (m=a)=false:=by simp[h]
   rw[b];simp only[Y1 m l];by_cases hm:m∈l
   ·simp[hm]
   ·simp[hm,h]
@[simp]def awN(m:bn)(l:List bn):qO (.a [false,true]) m.e (.bool true) (pd l)=some (pd (l9 m l)):=by
 simp only[pd,qO,al3,Bool.true_eq_false,reduceCtorEq,if_false,Y1,l9];by_cases h:m∈l
 ·simp[h]
 ·simp[h,List.range_succ]
end
section
open Go Go.Pv
@[simp]def BZ(S:aB->Prop)(l:List bn):aH S (pd l)=True:=by
 refine h4 ?_;unfold pd;have:∀l:List bn,aH S (l.flatMap fun m=>[m.e,af.bool true]):=fun l=>by
  induction l with
  |nil=>simp[aH]
  |cons x r a=>simp only[List.flatMap_cons,b6,ca,aH,al8,az,true_and];exact a
 simp only[aH,az,true_and];exact this l
@[simp]def aww:[af.hdm 0 []]=pd []:=rfl
def pF(tag:List cJ)(l:List bn):cT:=⟨[(.obj 811,[.str tag]),(.obj 812,pd l),(.obj 813,[.gmap (.obj 812)])],[]⟩
def Gt(tag:List cJ)(l:List bn):eA (pF tag l):=by unfold pF;refine eA.of ⟨by intro m;simp[ae],by intro m;simp[ae]⟩ (by simp[aH,az,aM,ae]) Ψ
def KG(tag:List cJ)(l a:List bn):Same (pF tag l) (pF tag a):=Same.keys (by simp[pF]) (by simp[pF])
def aiE(tag:List cJ)(v:Int)(l:List bn):bH au 184 [aj v,.ptr (.obj 813) 0,.ptr (.obj 811) 0] (pF tag l) fun r c=>r= .tuple []/\c=pF tag (l9 ⟨v,tag⟩ l):=by have b:=Gt tag l;have a:=Gt tag (l9 ⟨v,tag⟩ l);have e8:=KG tag l (l9 ⟨v,tag⟩ l);unfold pF at b a e8⊢;refine bH.mk mixed a1 Tryz.func184 ans Ψ b.obj fun e d=>?_;unfold R1;simp;refine c5.at _ (.inr rfl) a e8 aX aX ?_;simp[dd,bc,bf,a6]
end
section
open Go Go.Pv Go.Lib
abbrev yH(l:List bJ):cT:=eB bJ.e 803 804 98 2 l
def XD:∀(S:aB->Prop) (x:bJ),az S x.e:=fun S x=>by simp
def KE(l:List bJ):eA (yH l):=yJ XD l
def xY(x y:bJ):Bool:=decide (x.v<y.v)
def amt:Sort.SWO xY:=⟨fun x=>by simp[xY],fun x y z J U=>by simp[xY]at*;omega,fun x y z J U=>by simp[xY]at*;omega⟩
def aiG(l:List bJ)(i j:Nat)(x y:bJ)(k:l.length<=68719476736)(hi:l[i]? =some x)(g:l[j]? =some y):bH au 183 [aj i,aj j,.ptr (.obj 804) 0] (yH l) fun r f=>r= .bool (xY x y)/\f=yH l:=by have a:=KE l;obtain⟨c,d⟩:=fH.1 hi;obtain⟨e,b⟩:=fH.1 g;unfold yH eB at a⊢;refine bH.mk mixed a1 Tryz.func183 anu Ψ a.obj fun m h=>?_;unfold R3;simp[c,e,d,b];(repeat' first|refine ao ?_|simp);refine c5.at _ (.inl rfl) a (Same.refl _) aX aX ?_;simp[dd,bc,bf,a6,xY]
noncomputable def Tryz.vkT:TypeInfo:=(au.info? 48).get bi
noncomputable def Tryz.vkE:TypeInfo:=(au.info? 98).get bi
def Tryz.vkK(n:Nat)(U:2<=n):Lib.swapperK n Tryz.vkE 25=9:=by
 have a:Tryz.vkE.hasPointers=false:=bi
 have b:Tryz.vkE.bytes=16:=bi
 have c:(n==0)=false:=by simp;omega
 have d:(n==1)=false:=by simp;omega
 simp[Lib.swapperK,a,b,c,d]
def ams{α β:Type}(f:α->β)(l:List α)(i j:Nat):(ih l i j).map f=ih (l.map f) i j:=by
 unfold ih;simp only[List.getElem?_map];cases l[i]? with
 |none=>simp
 |some x=>
  cases l[j]? with
  |none=>simp
  |some y=>simp[List.map_set]
def ajs(l:List bJ)(d:l.length<=68719476736):bH au 182 [.iface 48 (.row 2 (.obj 803) l.length),.func 183 [.ptr (.obj 804) 0]] (yH l) fun r c=>r= .tuple []/\∃a,c=yH a/\a.Perm l/\a.Pairwise fun x y=>xY y x=false:=by
 refine(VD XD (K:=803) (B:=804) (sz:=2) (by decide) (by decide) 48 Tryz.vkT Tryz.vkE bi bi bi bi 25 (fun _=>by kernel_rfl) Tryz.vkK 183 xY amt l d (fun a h i j x y hi b=>aiG a i j x y Ω hi b) (fun a h i j hi b=>?_));have:=VS (P:=au) false 230 (fun args W=>run_callFunc_extern Tryz.func230 bi bi bi (e:=Gi false) bi args W)
  98 Tryz.vkE bi (fun _=>by kernel_rfl) (KE a) (K:=803) (n:=l.length) (el:=98) (sz:=2) bi (xs:=a.map bJ.e) (by simp[eB,ae,h]) i j hi b
 refine this.mono ?_;rintro r c ⟨rfl,rfl⟩;refine⟨rfl,?_⟩;simp[eB,cK,ams,h]
end
end Go.Proofs.YtahlgcidhnjlbaaGreat
namespace Go.Pv
section
open Go Go.RowKit
mutual
def tn:af->List (aB×Nat)
 | .slice _ tag _=>match tag with| .tr k i=>[(k,i)]|_=>[]
 | .agg cs=>tnL cs
 |_=>[]
def tnL:List af->List (aB×Nat)
 |[]=>[]
 |x::xs=>tn x++tnL xs
end
mutual
def fm:af->Prop
 | .int _ _=>True
 | .bool _=>True
 | .str _=>True
 | .slice _ tag xs=>match tag with| .tr k _=>k≠eg|_=>xs=[]
 | .agg cs=>fX cs
 |_=>er
def fX:List af->Prop
 |[]=>True
 |x::xs=>fm x/\fX xs
end
def lz(ν:bd)(l:List (aB×Nat))(b:Nat):Prop:= ∃k i,(k,i)∈l/\ν.tr k i b
def Cj{ν:bd}{l a:List (aB×Nat)}(h:∀x∈l,x∈a)(b:Nat)(c:lz ν l b):lz ν a b:=by obtain⟨k,i,J,U⟩:=c;exact⟨k,i,h _ J,U⟩
def OQ{ν:bd}(hO:∀k j bs dh b,ν.tr k j b->ν.tr bs dh b->k=bs/\j=dh){l a:List (aB×Nat)}(h:(l++a).Nodup)(b:Nat)(J:lz ν l b):¬lz ν a b:=by rintro⟨bs,c,d,e⟩;obtain⟨k,i,J,U⟩:=J;obtain⟨rfl,rfl⟩:=hO k i bs c b U e;rw[rT]at h;exact h.2.2 _ J _ d rfl
mutual
def O0{w:World}{ν:bd}(hO:∀k j bs dh b,ν.tr k j b->ν.tr bs dh b->k=bs/\j=dh):∀(p:af) (v:Value),aU w ν p v->fm p->(tn p).Nodup->cZ true w ν.A (lz ν (tn p)) (b7 p) v
 | .int k n,v,h,_,_=>by simpa only[aU,b7,cZ]using h
 | .bool b,v,h,_,_=>by simpa only[aU,b7,cZ]using h
 | .str s,v,h,_,_=>by simpa only[aU,b7,cZ]using h
 | .slice sz tag xs,v,h,ar,_=>by
  simp only[aU]at h;obtain⟨⟨a,cap,J,U,f,m⟩,_,_,e,_⟩:=h;by_cases c:∃k i,tag= .tr k i
  ·obtain⟨k,i,rfl⟩:=c;refine Hy _ _ v (vR (fun _ _ h=>⟨h,rfl⟩) (fun _ _ _=>rfl) _ _ _ v (fun b g=>?_) (e k i rfl));exact⟨k,i,by simp[tn],g⟩
  ·have l:xs=[]:=by
    simp only[fm]at ar;split at ar
    ·exact absurd ⟨_,_,rfl⟩ c
    ·exact ar
   subst l;simp only[b7,cf,cZ];exact⟨a,cap,J,U,f,.inl trivial⟩
 | .agg cs,v,h,ar,d=>by simp only[aU,fm,tn,b7,cZ]at h ar d⊢;obtain⟨us,J,U⟩:=h;exact⟨us,J,Ze hO cs _ U ar d⟩
 | .junk,_,_,ar,_=>by simp[fm]at ar
 | .ptr _ _,_,_,ar,_=>by simp[fm]at ar
 | .eptr _,_,_,ar,_=>by simp[fm]at ar
 | .iface _ _,_,_,ar,_=>by simp[fm]at ar
 | .nilp,_,_,ar,_=>by simp[fm]at ar
 | .tuple _,_,_,ar,_=>by simp[fm]at ar
 | .func _ _,_,_,ar,_=>by simp[fm]at ar
 | .gmap _,_,_,ar,_=>by simp[fm]at ar
 | .row _ _ _,_,_,ar,_=>by simp[fm]at ar
 | .rptr _ _ _ _ _,_,_,ar,_=>by simp[fm]at ar
 | .hdm _ _,_,_,ar,_=>by simp[fm]at ar
 | .hdi _ _ _,_,_,ar,_=>by simp[fm]at ar
 | .cst _,_,_,ar,_=>by simp[fm]at ar
def Ze{w:World}{ν:bd}(hO:∀k j bs dh b,ν.tr k j b->ν.tr bs dh b->k=bs/\j=dh):∀(cs:List af) (us:List Value),cW w ν cs us->fX cs->(tnL cs).Nodup->kF true w ν.A (lz ν (tnL cs)) (cf cs) us
 |[],us,h,_,_=>by simpa only[cW,cf,kF]using h
 |c::cs,us,h,ar,d=>by simp only[cW,fX,tnL,cf,kF]at h ar d⊢;obtain⟨u,f,J,⟨U,g⟩,l⟩:=h;have e:=rT.1 d;exact⟨u,f,lz ν (tn c),lz ν (tnL cs),J,⟨Cj (fun x a=>List.mem_append_left _ a),Cj (fun x a=>List.mem_append_right _ a),fun _ b i=>OQ hO d b i⟩,⟨O0 hO c u U ar.1 e.1,g⟩,Ze hO cs f l ar.2 e.2.1⟩
end
def O1{w:World}{ν:bd}(hO:∀k j bs dh b,ν.tr k j b->ν.tr bs dh b->k=bs/\j=dh){sz:Nat}:∀(cs:List af) (us:List Value),dw w ν sz cs us->fX cs->(tnL cs).Nodup->jZ true w ν.A (lz ν (tnL cs)) sz (cf cs) us
 |[],us,h,_,_=>by simpa only[dw,cf,jZ]using h
 |c::cs,us,h,ar,d=>by simp only[dw,fX,tnL,cf,jZ]at h ar d⊢;obtain⟨u,f,J,⟨U,g⟩,l⟩:=h;have e:=rT.1 d;exact⟨u,f,lz ν (tn c),lz ν (tnL cs),J,⟨Cj (fun x a=>List.mem_append_left _ a),Cj (fun x a=>List.mem_append_right _ a),fun _ b i=>OQ hO d b i⟩,⟨O0 hO c u U ar.1 e.1,g⟩,O1 hO cs f l ar.2 e.2.1⟩
mutual
def Hx{t:Bool}{w:World}{A:Nat->Nat->Prop}{ν:bd}(c:∀b o,A b o->ν.A b o):∀(p:af) (F:Nat->Prop) (v:Value),cZ t w A F p v->aU w ν (b7 p) v
 | .int k n,_,_,h=>by simpa only[aU,b7,cZ]using h
 | .bool b,_,_,h=>by simpa only[aU,b7,cZ]using h
 | .str s,_,_,h=>by simpa only[aU,b7,cZ]using h
 | .slice sz tag xs,F,v,h=>by
  simp only[cZ,b7,aU]at h⊢;obtain⟨a,cap,J,U,i,l⟩:=h;refine⟨⟨a,cap,by rw[nD];exact J,by rw[nD];exact U,by rw[nD];exact i,?_⟩,fun e=>(by cases e),fun g e=>(by cases e),fun _ _ e=>(by cases e),fun _ e=>(by cases e)⟩;rcases l with rfl|⟨b,off,us,G,j,_,_,f,_,d⟩
  ·exact .inl rfl
  ·exact .inr ⟨b,off,us,j,B1 (fun b o h=>⟨c b o h,rfl⟩) _ _ f,Vw c xs G us d⟩
 | .agg cs,F,v,h=>by simp only[cZ,b7,aU]at h⊢;obtain⟨us,J,U⟩:=h;exact⟨us,J,Vy c cs F _ U⟩
 | .junk,_,_,h=>by simp[cZ]at h
 | .ptr _ _,_,_,h=>by simp[cZ]at h
 | .eptr _,_,_,h=>by simp[cZ]at h
 | .iface _ _,_,_,h=>by simp[cZ]at h
 | .nilp,_,_,h=>by simp[cZ]at h
 | .tuple _,_,_,h=>by simp[cZ]at h
 | .func _ _,_,_,h=>by simp[cZ]at h
 | .gmap _,_,_,h=>by simp[cZ]at h
 | .row _ _ _,_,_,h=>by simp[cZ]at h
 | .rptr _ _ _ _ _,_,_,h=>by simp[cZ]at h
 | .hdm _ _,_,_,h=>by simp[cZ]at h
 | .hdi _ _ _,_,_,h=>by simp[cZ]at h
 | .cst _,_,_,h=>by simp[cZ]at h
def Vy{t:Bool}{w:World}{A:Nat->Nat->Prop}{ν:bd}(a:∀b o,A b o->ν.A b o):∀(cs:List af) (F:Nat->Prop) (us:List Value),kF t w A F cs us->cW w ν (cf cs) us
 |[],_,_,h=>by simpa only[kF,cf,cW]using h
 |c::cs,F,us,h=>by simp only[kF,cf,cW]at h⊢;obtain⟨u,d,f,e,J,_,⟨j,i⟩,g⟩:=h;exact⟨u,d,J,⟨Hx a c f u j,i⟩,Vy a cs e d g⟩
def Vw{t:Bool}{w:World}{A:Nat->Nat->Prop}{ν:bd}(a:∀b o,A b o->ν.A b o){sz:Nat}:∀(cs:List af) (F:Nat->Prop) (us:List Value),jZ t w A F sz cs us->dw w ν sz (cf cs) us
 |[],_,_,h=>by simpa only[jZ,cf,dw]using h
 |c::cs,F,us,h=>by simp only[jZ,cf,dw]at h⊢;obtain⟨u,d,f,e,J,_,⟨j,i⟩,g⟩:=h;exact⟨u,d,J,⟨Hx a c f u j,i⟩,Vw a cs e d g⟩
end
mutual
def Qy:∀p:af,b7 (b7 p)=b7 p
 | .slice _ _ xs=>by simp[b7,vg xs]
 | .agg cs=>by simp[b7,vg cs]
 | .tuple bm=>by simp[b7,vg bm]
 | .eptr x=>by simp[b7,Qy x]
 | .iface t x=>by simp[b7,Qy x]
 | .func f dH=>by simp[b7,vg dH]
 | .junk=>rfl
 | .int _ _=>rfl
 | .bool _=>rfl
 | .str _=>rfl
 | .ptr _ _=>rfl
 | .nilp=>rfl
 | .gmap _=>rfl
 | .row _ _ _=>rfl
 | .rptr _ _ _ _ _=>rfl
 | .hdm _ _=>rfl
 | .hdi _ _ _=>rfl
 | .cst _=>rfl
def vg:∀xs:List af,cf (cf xs)=cf xs
 |[]=>rfl
 |x::xs=>by simp[cf,Qy x,vg xs]
end
mutual
def ed:af->List aB
 | .slice _ tag _=>match tag with| .own k=>[k]|_=>[]
 | .row _ k _=>[k]
 | .agg cs=>gH cs
 | .tuple cs=>gH cs
 |_=>[]
def gH:List af->List aB
 |[]=>[]
 |x::xs=>ed x++gH xs
end
def wN(e:List (aB×dW))(k:aB):List af:=((ae k e).bind (·.xs)).getD []
mutual
def ez(e:List (aB×dW)):af->List (aB×Nat)
 | .slice _ tag xs=>match tag with| .tr k i=>[(k,i)]| .own _=>tnL xs|_=>[]
 | .row _ k _=>tnL (wN e k)
 | .agg cs=>gO e cs
 | .tuple cs=>gO e cs
 |_=>[]
def gO(e:List (aB×dW)):List af->List (aB×Nat)
 |[]=>[]
 |x::xs=>ez e x++gO e xs
end
mutual
def e3(e:List (aB×dW)):af->Prop
 | .int _ _=>True
 | .bool _=>True
 | .str _=>True
 | .slice sz tag xs=>match tag with| .tr k _=>k≠eg| .own k=>True/\(∃el,ae k e=some ⟨xs.length,el,sz,none⟩)/\fX xs/\0<sz|_=>xs=[]
 | .row sz k n=>True/\(∃xs el,ae k e=some ⟨n,el,sz,some xs⟩/\fX xs)/\0<sz
 | .agg cs=>hj e cs
 | .tuple cs=>hj e cs
 |_=>er
def hj(e:List (aB×dW)):List af->Prop
 |[]=>True
 |x::xs=>e3 e x/\hj e xs
end
mutual
def hv:af->Nat
 | .slice _ _ _=>1
 | .row _ _ _=>1
 | .agg cs=>iA cs
 | .tuple cs=>iA cs
 |_=>0
def iA:List af->Nat
 |[]=>0
 |x::xs=>hv x+iA xs
end
mutual
def fold(κ:Nat)(e:List (aB×dW)):Nat->af->af
 |j,.slice sz _ xs=>.slice sz (.tr (.loc κ) j) (cf xs)
 |j,.row sz k _=>.slice sz (.tr (.loc κ) j) (cf (wN e k))
 |j,.agg cs=>.agg (hy κ e j cs)
 |j,.tuple cs=>.tuple (hy κ e j cs)
 |_,p=>p
def hy(κ:Nat)(e:List (aB×dW)):Nat->List af->List af
 |_,[]=>[]
 |j,x::xs=>fold κ e j x::hy κ e (j+hv x) xs
end
def oc(ν:bd)(k:aB)(b:Nat):Prop:= ∃n v,ν.ow k=some (n,v)/\v.ownBlock=some b
mutual
def fQ(ν:bd)(R:Nat->Prop)(e:List (aB×dW)):af->List (Nat->Prop)
 | .slice _ tag xs=>match tag with| .tr k i=>[fun b=>ν.tr k i b/\¬R b]| .own k=>[fun b=>oc ν k b\/(lz ν (tnL xs) b/\¬R b)]|_=>[fun _=>er]
 | .row _ k _=>[fun b=>oc ν k b\/(lz ν (tnL (wN e k)) b/\¬R b)]
 | .agg cs=>po ν R e cs
 | .tuple cs=>po ν R e cs
 |_=>[]
def po(ν:bd)(R:Nat->Prop)(e:List (aB×dW)):List af->List (Nat->Prop)
 |[]=>[]
 |x::xs=>fQ ν R e x++po ν R e xs
end
mutual
def Ao(ν:bd)(R:Nat->Prop)(e:List (aB×dW)):∀p,(fQ ν R e p).length=hv p
 | .slice _ tag _=>by cases tag<;>simp[fQ,hv]
 | .row _ k _=>by simp[fQ,hv]
 | .agg cs=>by simp[fQ,hv,Qq ν R e cs]
 | .tuple cs=>by simp[fQ,hv,Qq ν R e cs]
 | .int _ _=>rfl
 | .bool _=>rfl
 | .str _=>rfl
 | .junk=>rfl
 | .ptr _ _=>rfl
 | .eptr _=>rfl
 | .iface _ _=>rfl
 | .nilp=>rfl
 | .func _ _=>rfl
 | .gmap _=>rfl
 | .rptr _ _ _ _ _=>rfl
 | .hdm _ _=>rfl
 | .hdi _ _ _=>rfl
 | .cst _=>rfl
def Qq(ν:bd)(R:Nat->Prop)(e:List (aB×dW)):∀p,(po ν R e p).length=iA p
 |[]=>rfl
 |x::xs=>by simp[po,iA,Ao ν R e x,Qq ν R e xs]
end
def Ht(ν:bd)(R:Nat->Prop)(ns:List (aB×Nat))(rw:List aB)(b:Nat):Prop:=(∃k∈rw,oc ν k b)\/(lz ν ns b/\¬R b)
mutual
def FZ{ν:bd}{R:Nat->Prop}{e:List (aB×dW)}:∀(p:af) (i:Nat) (S:Nat->Prop),(fQ ν R e p)[i]? =some S->∀b,S b->Ht ν R (ez e p) (ed p) b
 | .slice _ tag _,i,S,h,b,a=>by
  cases tag<;>(simp only[fQ]at h;cases i<;>simp at h;subst h);all_goals first|exact a.elim|skip
  ·rcases a with a|a
   ·exact .inl ⟨_,by simp[ed],a⟩
   ·exact .inr (by simpa only[ez]using a)
  ·exact .inr ⟨⟨_,_,by simp[ez],a.1⟩,a.2⟩
 | .row _ k _,i,S,h,b,a=>by
  simp only[fQ]at h;cases i<;>simp at h;subst h;rcases a with a|a
  ·exact .inl ⟨k,by simp[ed],a⟩
  ·exact .inr (by simpa only[ez]using a)
 | .agg cs,i,S,h,b,a=>by simp only[fQ,ez,ed]at h⊢;exact FY cs i S h b a
 | .tuple cs,i,S,h,b,a=>by simp only[fQ,ez,ed]at h⊢;exact FY cs i S h b a
 | .int _ _,_,_,h,_,_=>by simp[fQ]at h
 | .bool _,_,_,h,_,_=>by simp[fQ]at h
 | .str _,_,_,h,_,_=>by simp[fQ]at h
 | .junk,_,_,h,_,_=>by simp[fQ]at h
 | .ptr _ _,_,_,h,_,_=>by simp[fQ]at h
 | .eptr _,_,_,h,_,_=>by simp[fQ]at h
 | .iface _ _,_,_,h,_,_=>by simp[fQ]at h
 | .nilp,_,_,h,_,_=>by simp[fQ]at h
 | .func _ _,_,_,h,_,_=>by simp[fQ]at h
 | .gmap _,_,_,h,_,_=>by simp[fQ]at h
 | .rptr _ _ _ _ _,_,_,h,_,_=>by simp[fQ]at h
 | .hdm _ _,_,_,h,_,_=>by simp[fQ]at h
 | .hdi _ _ _,_,_,h,_,_=>by simp[fQ]at h
 | .cst _,_,_,h,_,_=>by simp[fQ]at h
def FY{ν:bd}{R:Nat->Prop}{e:List (aB×dW)}:∀(p:List af) (i:Nat) (S:Nat->Prop),(po ν R e p)[i]? =some S->∀b,S b->Ht ν R (gO e p) (gH p) b
 |[],i,S,h,b,a=>by simp[po]at h
 |x::xs,i,S,h,b,a=>by
  simp only[po]at h;simp only[gO,gH];by_cases hi:i<(fQ ν R e x).length
  ·rw[rS hi]at h;rcases FZ x i S h b a with⟨k,J,U⟩|⟨J,U⟩
   ·exact .inl ⟨k,List.mem_append_left _ J,U⟩
   ·exact .inr ⟨Cj (fun _ h=>List.mem_append_left _ h) b J,U⟩
  ·rw[vp Ω]at h;rcases FY xs _ S h b a with⟨k,J,U⟩|⟨J,U⟩
   ·exact .inl ⟨k,List.mem_append_right _ J,U⟩
   ·exact .inr ⟨Cj (fun _ h=>List.mem_append_right _ h) b J,U⟩
end
structure Db (ν:bd) (R:Nat->Prop) (rw:List aB):Prop where
 trd:∀k j bs dh b,ν.tr k j b->ν.tr bs dh b->k=bs/\j=dh
 inj:∀k bs b,k∈rw->bs∈rw->oc ν k b->oc ν bs b->k=bs
 R:∀k b,k∈rw->oc ν k b->R b
def Vu{ν:bd}{R:Nat->Prop}{rw:List aB}(he:Db ν R rw){h i:List (aB×Nat)}{g f:List aB}(n:(h++i).Nodup)(m:(g++f).Nodup)(J:∀k∈g,k∈rw)(U:∀k∈f,k∈rw)(b:Nat)(l:Ht ν R h g b):¬Ht ν R i f b:=by
 rintro j;rcases l with⟨k,c,e⟩|⟨c,e⟩<;>rcases j with⟨bs,a,d⟩|⟨a,d⟩
 ·have:=he.inj k bs b (J k c) (U bs a) e d;subst this;exact(rT.1 m).2.2 _ c _ a rfl
 ·exact d (he.R k b (J k c) e)
 ·exact e (he.R bs b (U bs a) d)
 ·exact OQ he.trd n b c a
mutual
def abN{ν:bd}{R:Nat->Prop}{rw:List aB}(he:Db ν R rw){e:List (aB×dW)}:∀(p:af),(ez e p).Nodup->(ed p).Nodup->(∀k∈ed p,k∈rw)->∀(i d:Nat) (S c:Nat->Prop),(fQ ν R e p)[i]? =some S->(fQ ν R e p)[d]? =some c->∀b,S b->c b->i=d
 | .slice sz tag xs,_,_,_,i,d,S,c,h,a,b,_,_=>by have m:(fQ ν R e (.slice sz tag xs)).length=1:=Ao ν R e _;have:=(fH.1 h).1;have:=(fH.1 a).1;omega
 | .row sz k n,_,_,_,i,d,S,c,h,a,b,_,_=>by have m:(fQ ν R e (.row sz k n)).length=1:=Ao ν R e _;have:=(fH.1 h).1;have:=(fH.1 a).1;omega
 | .agg cs,g,f,ab,i,d,S,c,h,a,b,l,j=>by simp only[fQ,ez,ed]at h a g f ab;exact Qp he cs g f ab i d S c h a b l j
 | .tuple cs,g,f,ab,i,d,S,c,h,a,b,l,j=>by simp only[fQ,ez,ed]at h a g f ab;exact Qp he cs g f ab i d S c h a b l j
 | .int _ _,_,_,_,_,_,_,_,h,_,_,_,_=>by simp[fQ]at h
 | .bool _,_,_,_,_,_,_,_,h,_,_,_,_=>by simp[fQ]at h
 | .str _,_,_,_,_,_,_,_,h,_,_,_,_=>by simp[fQ]at h
 | .junk,_,_,_,_,_,_,_,h,_,_,_,_=>by simp[fQ]at h
 | .ptr _ _,_,_,_,_,_,_,_,h,_,_,_,_=>by simp[fQ]at h
 | .eptr _,_,_,_,_,_,_,_,h,_,_,_,_=>by simp[fQ]at h
 | .iface _ _,_,_,_,_,_,_,_,h,_,_,_,_=>by simp[fQ]at h
 | .nilp,_,_,_,_,_,_,_,h,_,_,_,_=>by simp[fQ]at h
 | .func _ _,_,_,_,_,_,_,_,h,_,_,_,_=>by simp[fQ]at h
 | .gmap _,_,_,_,_,_,_,_,h,_,_,_,_=>by simp[fQ]at h
 | .rptr _ _ _ _ _,_,_,_,_,_,_,_,h,_,_,_,_=>by simp[fQ]at h
 | .hdm _ _,_,_,_,_,_,_,_,h,_,_,_,_=>by simp[fQ]at h
 | .hdi _ _ _,_,_,_,_,_,_,_,h,_,_,_,_=>by simp[fQ]at h
 | .cst _,_,_,_,_,_,_,_,h,_,_,_,_=>by simp[fQ]at h
def Qp{ν:bd}{R:Nat->Prop}{rw:List aB}(he:Db ν R rw){e:List (aB×dW)}:∀(p:List af),(gO e p).Nodup->(gH p).Nodup->(∀k∈gH p,k∈rw)->∀(i d:Nat) (S c:Nat->Prop),(po ν R e p)[i]? =some S->(po ν R e p)[d]? =some c->∀b,S b->c b->i=d
 |[],_,_,_,i,d,S,c,h,_,_,_,_=>by simp[po]at h
 |x::xs,g,f,ab,i,d,S,c,h,a,b,l,j=>by
  simp only[po]at h a;simp only[gO]at g;simp only[gH]at f ab;have o:∀k∈ed x,k∈rw:=fun k m=>ab k (List.mem_append_left _ m);have n:∀k∈gH xs,k∈rw:=fun k m=>ab k (List.mem_append_right _ m);by_cases hi:i<(fQ ν R e x).length<;>by_cases q:d<(fQ ν R e x).length
  ·rw[rS hi]at h;rw[rS q]at a;exact abN he x (rT.1 g).1 (rT.1 f).1 o i d S c h a b l j
  ·rw[rS hi]at h;rw[vp Ω]at a;exact absurd (FY xs _ c a b j) (Vu he g f o n b (FZ x i S h b l))
  ·rw[vp Ω]at h;rw[rS q]at a;exact absurd (FY xs _ S h b l) (Vu he g f o n b (FZ x d c a b j))
  ·rw[vp Ω]at h a;have:=Qp he xs (rT.1 g).2.1 (rT.1 f).2.1 n _ _ S c h a b l j;omega
end
end
section
open Go Go.RowKit
def QP{w:World}{μ:bd}{k:aB}{j sz:Nat}{tag:jH}{ys:List af}{v:Value}(h:cZ true w μ.A (μ.tr k j) (.slice sz tag ys) v)(a:cf ys=ys):aU w μ (.slice sz (.tr k j) ys) v:=by have J:=Hx (ν:=μ) (fun _ _ h=>h) _ _ _ h;simp only[b7,a]at J;simp only[aU]at J⊢;refine⟨J.1,fun e=>(by cases e),fun _ e=>(by cases e),fun bs dh e=>?_,fun _ e=>(by cases e)⟩;cases e;simp only[cZ]at h⊢;exact h
section
variable {pr:Nat->Prop} {w:World} {ν μ:bd} {B:List (aB×List af)} {e:List (aB×dW)} {R:Nat->Prop} {rw:List aB} {κ:Nat}
 (a7:Good pr w ν B e) (he:Db ν R rw) (bt:∀b,R b->∀k j,¬ν.tr k j b) (D3:∀b o,ν.A b o->μ.A b o) (y9:∀k∈rw,∀own,ae k e=some own->∀b,oc ν k b->∀o,o<own.n*own.sz->μ.A b o)
include a7 he bt D3 y9
mutual
theorem Ml:∀(p:af) (v:Value) (j:Nat),aU w ν p v->e3 e p->(ez e p).Nodup->(∀k∈ed p,k∈rw)->(∀i S,(fQ ν R e p)[i]? =some S->∀b,S b->μ.tr (.loc κ) (j+i) b)->aU w μ (fold κ e j p) v
 | .int k n,v,_,h,_,_,_,_=>by simpa only[aU,fold]using h
 | .bool b,v,_,h,_,_,_,_=>by simpa only[aU,fold]using h
 | .str s,v,_,h,_,_,_,_=>by simpa only[aU,fold]using h
 | .slice sz tag xs,v,j,h,ar,q,ab,f=>by
  simp only[aU]at h;obtain⟨⟨a,cap,J,U,Y,aZ⟩,_,eb,lP,_⟩:=h;simp only[fold];refine QP (tag:= .no) ?_ (vg xs);by_cases y:∃k i,tag= .tr k i
  ·obtain⟨k,i,rfl⟩:=y;have aG:=DX .no v (lP k i rfl);refine vR (fun b o h=>⟨D3 b o h,rfl⟩) (fun _ _ _=>rfl) _ _ _ v (fun b d=>?_) aG;simpa using f 0 (fun b=>ν.tr k i b/\¬R b) (by simp[fQ]) b ⟨d,fun E=>bt b E _ _ d⟩
  by_cases V:∃k,tag= .own k
  ·obtain⟨k,rfl⟩:=V;simp only[e3]at ar;obtain⟨_,⟨el,A⟩,K,N⟩:=ar;obtain⟨n',u,g1,g2,g3⟩:=eb k rfl;obtain⟨v0,gm,l,r,O,W⟩:=a7.own k _ A;simp only at l r O;rw[g1]at l;simp only[dU,js]at l;obtain⟨rfl,rfl⟩:=l;have P:=g3 rfl;subst P;have H:k∈rw:=ab k (by simp[ed]);simp only[cZ];refine⟨a,cap,by rw[nD];exact J,by rw[nD];exact U,by rw[nD];exact Y,?_⟩;rcases aZ with rfl|⟨b,off,us,B,b3,X⟩
   ·exact .inl rfl
   by_cases z:xs=[]
   ·left;rw[z];rfl
   right;subst B;rcases r.2 with⟨B,_⟩|⟨g,DA,cur,f1,f2,f3,f4,f5,f6,f7⟩
   ·rw[B]at J;cases J
   have F:v.ownBlock=some g:=by rw[f1];rfl
   have x:oc ν k g:=⟨_,_,g1,F⟩;have t:∀b,(oc ν k b\/(lz ν (tnL xs) b/\¬R b))->μ.tr (.loc κ) j b:=fun b d=>by simpa using f 0 (fun b=>oc ν k b\/(lz ν (tnL xs) b/\¬R b)) (by simp[fQ]) b d
   rw[f1]at J;simp only[ayp,dU,Addr.mk.injEq]at J;obtain⟨⟨rfl,rfl,_⟩,_,rfl⟩:=J;have hlen:=rL X;refine⟨g,0,us,fun c=>lz ν (tnL xs) c/\¬R c,rfl,t g (.inl x),fun c aw=>⟨t c (.inr aw),fun _ Q=>aw.2 (by rw[Q];exact he.R k g H x)⟩,B1 (fun b o h=>⟨D3 b o h,rfl⟩) _ _ b3,fun _=>⟨rfl,?_,el,?_⟩,?_⟩
   ·rw[hlen];exact Nat.mul_pos (List.length_pos_iff.2 z) N
   ·simp only[shape,f3,f6]
   ·have J:=O1 he.trd xs us X K (by simpa only[ez]using q);exact Hv (fun b o h=>⟨D3 b o h,rfl⟩) (fun _ _ _=>rfl) _ _ _ us (fun b d=>⟨d,fun E=>by obtain⟨bs,jQ,_,y⟩:=d;exact bt b E _ _ y⟩) J
  ·have ad:xs=[]:=by
    simp only[e3]at ar;split at ar
    ·exact absurd ⟨_,_,rfl⟩ y
    ·exact absurd ⟨_,rfl⟩ V
    ·exact ar
   subst ad;simp only[cf,cZ];exact⟨a,cap,J,U,Y,.inl trivial⟩
 | .row sz k n,v,j,h,ar,q,ab,f=>by
  simp only[e3]at ar;obtain⟨⟨m,hm⟩,⟨xs,el,A,K⟩,N⟩:=ar;have M:wN e k=xs:=by simp[wN,A]
  simp only[aU]at h;obtain⟨⟨ad4,jv,Z⟩,fh,n',u,g1,g2,g3⟩:=h;obtain⟨v0,us,l,r,O,W⟩:=a7.own k _ A;simp only at l r O;rw[g1]at l;simp only[dU,js]at l;obtain⟨rfl,rfl⟩:=l;have P:=g3 rfl;subst P;obtain⟨G,L,vc⟩:=W xs rfl;simp only at G L;have H:k∈rw:=ab k (by simp[ed]);rcases r.2 with⟨B,_⟩|⟨g,cap,cur,f1,f2,f3,f4,f5,f6,f7⟩
  ·rw[B]at Z;cases Z
  have F:v.ownBlock=some g:=by rw[f1];rfl
  have x:oc ν k g:=⟨_,_,g1,F⟩;have t:∀b,(oc ν k b\/(lz ν (tnL (wN e k)) b/\¬R b))->μ.tr (.loc κ) j b:=fun b d=>by simpa using f 0 (fun b=>oc ν k b\/(lz ν (tnL (wN e k)) b/\¬R b)) (by simp[fQ]) b d
  rw[M]at t;simp only[fold,M];refine QP (tag:= .no) ?_ (vg xs);simp only[cZ];refine⟨some ⟨g,0,none⟩,cap,by rw[nD,G];exact f1,by rw[nD,G];exact f4,⟨f5,by rw[nD,G];exact fh⟩,?_⟩;by_cases z:xs=[]
  ·left;rw[z];rfl
  ·right;have hlen:=rL L;refine⟨g,0,us,fun c=>lz ν (tnL xs) c/\¬R c,rfl,t g (.inl x),fun c aw=>⟨t c (.inr aw),fun _ Q=>aw.2 (by rw[Q];exact he.R k g H x)⟩,IB us 0 fun i u hi=>?_,fun _=>⟨rfl,?_,el,?_⟩,?_⟩
   ·have Bx:i<us.length:=(fH.1 hi).1;refine⟨y9 k H _ A g x _ (by simp only;rw[r.1]at Bx;omega),?_⟩;have:=r.cells F i u hi;rwa[pI]at this
   ·rw[hlen];exact Nat.mul_pos (List.length_pos_iff.2 z) N
   ·simp only[shape,f3,f6]
   ·have J:=O1 he.trd xs us L K (by simpa only[ez,M]using q);exact Hv (fun b o h=>⟨D3 b o h,rfl⟩) (fun _ _ _=>rfl) _ _ _ us (fun b d=>⟨d,fun E=>by obtain⟨bs,jQ,_,y⟩:=d;exact bt b E _ _ y⟩) J
 | .agg cs,v,j,h,ar,q,ab,f=>by simp only[aU,e3,ez,ed,fQ,fold]at h ar q ab f⊢;obtain⟨us,J,U⟩:=h;exact⟨us,J,Vp cs _ j U ar q ab f⟩
 | .tuple cs,v,j,h,ar,q,ab,f=>by simp only[aU,e3,ez,ed,fQ,fold]at h ar q ab f⊢;obtain⟨us,J,U⟩:=h;exact⟨us,J,Vq cs _ j U ar q ab f⟩
 | .junk,_,_,_,ar,_,_,_=>by simp[e3]at ar
 | .ptr _ _,_,_,_,ar,_,_,_=>by simp[e3]at ar
 | .eptr _,_,_,_,ar,_,_,_=>by simp[e3]at ar
 | .iface _ _,_,_,_,ar,_,_,_=>by simp[e3]at ar
 | .nilp,_,_,_,ar,_,_,_=>by simp[e3]at ar
 | .func _ _,_,_,_,ar,_,_,_=>by simp[e3]at ar
 | .gmap _,_,_,_,ar,_,_,_=>by simp[e3]at ar
 | .rptr _ _ _ _ _,_,_,_,ar,_,_,_=>by simp[e3]at ar
 | .hdm _ _,_,_,_,ar,_,_,_=>by simp[e3]at ar
 | .hdi _ _ _,_,_,_,ar,_,_,_=>by simp[e3]at ar
 | .cst _,_,_,_,ar,_,_,_=>by simp[e3]at ar
theorem Vp:∀(cs:List af) (us:List Value) (j:Nat),cW w ν cs us->hj e cs->(gO e cs).Nodup->(∀k∈gH cs,k∈rw)->(∀i S,(po ν R e cs)[i]? =some S->∀b,S b->μ.tr (.loc κ) (j+i) b)->cW w μ (hy κ e j cs) us
 |[],us,j,h,_,_,_,_=>by simpa only[cW,hy]using h
 |c::cs,us,j,h,ar,m,ab,d=>by
  simp only[cW,hj,gO,gH,po,hy]at h ar m ab d⊢;obtain⟨u,l,J,⟨U,n⟩,o⟩:=h;have g:=rT.1 m;refine⟨u,l,J,⟨Ml c u j U ar.1 g.1 (fun k a=>ab k (List.mem_append_left _ a)) (fun i S hi b f=>d i S (by rw[rS (fH.1 hi).1];exact hi) b f),n⟩,
   Vp cs l _ o ar.2 g.2.1 (fun k a=>ab k (List.mem_append_right _ a)) (fun i S hi b f=>?_)⟩
  have:=d (hv c+i) S (by rw[vp (by rw[Ao];omega),Ao];simpa using hi) b f;rwa[<-Nat.add_assoc]at this
theorem Vq:∀(cs:List af) (us:List Value) (j:Nat),c7 w ν cs us->hj e cs->(gO e cs).Nodup->(∀k∈gH cs,k∈rw)->(∀i S,(po ν R e cs)[i]? =some S->∀b,S b->μ.tr (.loc κ) (j+i) b)->c7 w μ (hy κ e j cs) us
 |[],us,j,h,_,_,_,_=>by simpa only[c7,hy]using h
 |c::cs,us,j,h,ar,m,ab,d=>by
  simp only[c7,hj,gO,gH,po,hy]at h ar m ab d⊢;obtain⟨u,l,J,U,n⟩:=h;have g:=rT.1 m;refine⟨u,l,J,Ml c u j U ar.1 g.1 (fun k a=>ab k (List.mem_append_left _ a)) (fun i S hi b f=>d i S (by rw[rS (fH.1 hi).1];exact hi) b f),
   Vq cs l _ n ar.2 g.2.1 (fun k a=>ab k (List.mem_append_right _ a)) (fun i S hi b f=>?_)⟩
  have:=d (hv c+i) S (by rw[vp (by rw[Ao];omega),Ao];simpa using hi) b f;rwa[<-Nat.add_assoc]at this
end
end
end
section
open Go Go.RowKit
mutual
def Zc:∀p:af,fm p->∀x∈tn p,x.1≠eg
 | .slice _ tag xs,ar,x,a=>by cases tag<;>simp only[tn,fm]at ar a<;>simp at a;subst a;exact ar
 | .agg cs,ar,x,a=>by simp only[tn,fm]at ar a;exact I5 cs ar x a
 | .int _ _,_,_,a=>by simp[tn]at a
 | .bool _,_,_,a=>by simp[tn]at a
 | .str _,_,_,a=>by simp[tn]at a
 | .junk,_,_,a=>by simp[tn]at a
 | .ptr _ _,_,_,a=>by simp[tn]at a
 | .eptr _,_,_,a=>by simp[tn]at a
 | .iface _ _,_,_,a=>by simp[tn]at a
 | .nilp,_,_,a=>by simp[tn]at a
 | .tuple _,_,_,a=>by simp[tn]at a
 | .func _ _,_,_,a=>by simp[tn]at a
 | .gmap _,_,_,a=>by simp[tn]at a
 | .row _ _ _,_,_,a=>by simp[tn]at a
 | .rptr _ _ _ _ _,_,_,a=>by simp[tn]at a
 | .hdm _ _,_,_,a=>by simp[tn]at a
 | .hdi _ _ _,_,_,a=>by simp[tn]at a
 | .cst _,_,_,a=>by simp[tn]at a
def I5:∀p:List af,fX p->∀x∈tnL p,x.1≠eg
 |[],_,x,a=>by simp[tnL]at a
 |c::cs,ar,x,a=>by
  simp only[tnL,fX,kg]at ar a;rcases a with a|a
  ·exact Zc c ar.1 x a
  ·exact I5 cs ar.2 x a
end
mutual
def Zd{e:List (aB×dW)}:∀p:af,e3 e p->∀x∈ez e p,x.1≠eg
 | .slice _ tag xs,ar,x,a=>by
  cases tag with
  |own k=>simp only[ez,e3]at ar a;exact I5 xs ar.2.2.1 x a
  |tr k i=>simp only[ez,e3]at ar a;simp at a;subst a;exact ar
  |no=>simp[ez]at a
  |nil=>simp[ez]at a
  |lo k=>simp[ez]at a
 | .row _ k _,ar,x,a=>by simp only[ez,e3]at ar a;obtain⟨_,⟨xs,el,c,b⟩,_⟩:=ar;rw[show wN e k=xs from by simp[wN,c]]at a;exact I5 xs b x a
 | .agg cs,ar,x,a=>by simp only[ez,e3]at ar a;exact OY cs ar x a
 | .tuple cs,ar,x,a=>by simp only[ez,e3]at ar a;exact OY cs ar x a
 | .int _ _,_,_,a=>by simp[ez]at a
 | .bool _,_,_,a=>by simp[ez]at a
 | .str _,_,_,a=>by simp[ez]at a
 | .junk,_,_,a=>by simp[ez]at a
 | .ptr _ _,_,_,a=>by simp[ez]at a
 | .eptr _,_,_,a=>by simp[ez]at a
 | .iface _ _,_,_,a=>by simp[ez]at a
 | .nilp,_,_,a=>by simp[ez]at a
 | .func _ _,_,_,a=>by simp[ez]at a
 | .gmap _,_,_,a=>by simp[ez]at a
 | .rptr _ _ _ _ _,_,_,a=>by simp[ez]at a
 | .hdm _ _,_,_,a=>by simp[ez]at a
 | .hdi _ _ _,_,_,a=>by simp[ez]at a
 | .cst _,_,_,a=>by simp[ez]at a
def OY{e:List (aB×dW)}:∀p:List af,hj e p->∀x∈gO e p,x.1≠eg
 |[],_,x,a=>by simp[gO]at a
 |c::cs,ar,x,a=>by
  simp only[gO,hj,kg]at ar a;rcases a with a|a
  ·exact Zd c ar.1 x a
  ·exact OY cs ar.2 x a
end
mutual
def I6{e:List (aB×dW)}:∀p:af,e3 e p->∀k∈ed p,∃own,ae k e=some own
 | .row sz k n,ar,bs,ab=>by simp only[ed,e3]at ar ab;obtain⟨_,⟨xs,el,b,c⟩,_⟩:=ar;simp at ab;subst ab;exact⟨_,b⟩
 | .agg cs,ar,x,a=>by simp only[ed,e3]at ar a;exact OZ cs ar x a
 | .tuple cs,ar,x,a=>by simp only[ed,e3]at ar a;exact OZ cs ar x a
 | .slice sz tag xs,ar,bs,ab=>by
  cases tag with
  |own k=>simp only[ed,e3]at ar ab;obtain⟨_,⟨el,b⟩,_⟩:=ar;simp at ab;subst ab;exact⟨_,b⟩
  |tr k i=>simp[ed]at ab
  |no=>simp[ed]at ab
  |nil=>simp[ed]at ab
  |lo k=>simp[ed]at ab
 | .int _ _,_,_,a=>by simp[ed]at a
 | .bool _,_,_,a=>by simp[ed]at a
 | .str _,_,_,a=>by simp[ed]at a
 | .junk,_,_,a=>by simp[ed]at a
 | .ptr _ _,_,_,a=>by simp[ed]at a
 | .eptr _,_,_,a=>by simp[ed]at a
 | .iface _ _,_,_,a=>by simp[ed]at a
 | .nilp,_,_,a=>by simp[ed]at a
 | .func _ _,_,_,a=>by simp[ed]at a
 | .gmap _,_,_,a=>by simp[ed]at a
 | .rptr _ _ _ _ _,_,_,a=>by simp[ed]at a
 | .hdm _ _,_,_,a=>by simp[ed]at a
 | .hdi _ _ _,_,_,a=>by simp[ed]at a
 | .cst _,_,_,a=>by simp[ed]at a
def OZ{e:List (aB×dW)}:∀p:List af,hj e p->∀k∈gH p,∃own,ae k e=some own
 |[],_,x,a=>by simp[gH]at a
 |c::cs,ar,x,a=>by
  simp only[gH,hj,kg]at ar a;rcases a with a|a
  ·exact I6 c ar.1 x a
  ·exact OZ cs ar.2 x a
end
def hV(d:List bW)(s:cT)(κ:Nat)(Q:af->cT->Prop)(e:Exit)(st:bp):Prop:=
 (e= .ret\/e= .normal)/\match bc st d with
  |some (c,b)=>c/\∃a,a.e=[]/\lY a s.b/\hC (aM a) a.b st.b/\h0 a/\(e3 st.e (a6 b)/\(ez st.e (a6 b)).Nodup/\(ed (a6 b)).Nodup)/\Q (fold κ st.e 0 (a6 b)) a
  |none=>er
noncomputable def bd.fold(ν:bd)(a:cT)(κ:Nat)(e:List (aB×dW))(p:af):bd:=
 {A:=fun b o=>ν.A b o\/ ∃k,k∈ed p/\∃own,ae k e=some own/\oc ν k b/\o<own.n*own.sz,
  bx:=(ν.cut (aM a)).bx,ow:=fun _=>none,
  tr:=fun k j b=>k= .loc κ/\∃S,(fQ ν (fun b=> ∃k,k∈ed p/\oc ν k b) e p)[j]? =some S/\S b}
def uh.of{P:cI}(hm:P.follows .mixedOrders=true){aT:List (Nat×ev)}(aJ:h1 P aT=true){f:FuncId}{fn:Func}(aG:P.funcs[f]? =some fn){code:Code}(ag:fn.body=some code)(v8:(fn.name== "runtime.NumGoroutine")=false){c:C}(aw:hX fn.ntmps aT c code=true){ea:List bW}(iO:p5 aT ea fn.results.toList=true)
  {args:List af} (av:args.length<=fn.ntmps) {s:cT} (kU:h0 s) (ia:s.e=[]) {κ:Nat} {Q:af->cT->Prop} (he:eI args->(∀j cs,ae j s.b=some cs->gY cs=true->eJ cs)->df P (cL s) c (hV ea s κ Q) ⟨je 0 args,s.b,s.e,0,cL s⟩):uh P f κ args s Q:=by
 intro w ν bm a7 ad aI;refine .inl ⟨⟨fn,aG,by simp[ag],v8⟩,?_⟩;have pX:=Ac aI;have ls:bm.size=args.length:=by simpa using pX
 let X:fq:=⟨w,ν,fB ν s,fn.ntmps,cL s⟩
 have nS:∀k,fresh 0 (cL s) k->ν.bx k=none/\ν.ow k=none/\∀j b,¬ν.tr k j b:=by
  intro k ab;cases k with
  |loc m=>exact⟨(ad _).1 (kU.1 m),(ad _).2.1 (kU.2 m),(ad _).2.2⟩
  |obj m=>
   simp only[fresh,true_and]at ab;refine⟨?_,?_,(ad _).2.2⟩
   ·refine(ad _).1 ?_;cases h:ae (.obj m) s.b with
    |none=>rfl
    |some x=>exact absurd (rH (.inl (by simp[h]))) ab
   ·refine(ad _).2.1 ?_;cases h:ae (.obj m) s.e with
    |none=>rfl
    |some x=>exact absurd (rH (.inr (by simp[h]))) ab
 have jd:∀m,(ν.bx (.obj m)≠none\/ν.ow (.obj m)≠none)-> .obj m∈cL s:=by
  intro m hm;refine Classical.byContradiction fun aw=>?_;obtain⟨J,U,_⟩:=nS (.obj m) ⟨trivial,aw⟩;rcases hm with hm|hm
  ·exact hm J
  ·exact hm U
 have pV:c9 X ⟨je 0 args,s.b,s.e,0,cL s⟩ {tmps:=bm++Array.replicate (fn.ntmps-bm.size) undef,defers:=[]} w ν:=by
  refine⟨⟨a7.alt,fun k cs ab=>?_,a7.inj,fun g o fu=>?_,a7.oinj,a7.obx,a7.one,a7.otr⟩,⟨rfl,rfl,rfl,dP _,fun _ _ _=>rfl,fun b o h=>⟨h,rfl⟩,fun b o h=>.inl h,fun n b h=>h,fun n b h=>jd n (.inl (by rw[h];simp)),fun m n u h=>⟨n,u,h,.inl ⟨rfl,rfl⟩⟩,fun m n u h=>jd m (.inr (by rw[h];simp)),fun k j _ _ b h=>absurd h ((ad k).2.2 j b),fun k j b h=>absurd h ((ad k).2.2 j b),fun k j b h=>absurd h ((ad k).2.2 j b),fun _ _ _=>rfl⟩,rfl,?_,fun i=>?_,nS⟩
  ·obtain⟨bl,us,el,g1,g2,g3⟩:=a7.box k cs ab;exact⟨bl,us,el,g1,.inl g2,g3⟩
  ·obtain⟨v,us,g1,g2,g3,g4⟩:=a7.own g o fu;exact⟨v,us,g1,g2,fun bl gh=>⟨.inl (g3 bl gh).1,(g3 bl gh).2⟩,g4⟩
  ·show(bm++Array.replicate (fn.ntmps-bm.size) undef).size=fn.ntmps;simp;omega
  ·rw[HB];by_cases hi:i<args.length
   ·rw[if_pos Ω];have sf:args[i]? =some args[i]:=cl hi;obtain⟨v,al,aC⟩:=FF i aI sf;have aN:(bm++Array.replicate (fn.ntmps-bm.size) undef).getD i undef=v:=by
     have o4:bm[i]? =some v:=by simpa using al
     rw[Array.getD_eq_getD_getElem?,Array.getElem?_append_left Ω,o4];rfl
    show aU w ν _ ((bm++Array.replicate (fn.ntmps-bm.size) undef).getD i undef);rw[aN];simpa[List.getD,sf]using aC
   ·rw[if_neg Ω];simp[aU]
 have vW:=he (P1 aI) (fun j cs ah=>by obtain⟨bl,us,el,_,_,_,_,g5⟩:=a7.box j cs ah;exact PX g5);have NA:=qt hm aJ (X:=X) c code (hV ea s κ Q) _ aw vW _ w ν pV;refine calls_of_wp aG ag (wp_mono NA fun e br w' cN=>?_);obtain⟨st',bo,⟨rk,bM⟩,de⟩:=cN;cases qB:bc st' ea with
 |none=>simp[qB]at bM
 |some x=>
  obtain⟨cD,bU⟩:=x;simp only[qB]at bM;obtain⟨h8,ak,hs'e,kb,ba,bX,⟨ok,nd,rd⟩,dK⟩:=bM;obtain⟨oQ,g1,g2⟩:=JM aJ de ea fn.results.toList cD bU iO qB h8;have Nk:=Ac g2;have ef:br.defers=[]/\∃v,(results fn br.tmps).run P w'= .ok v w'/\(fun(e:Ending) w'=> ∃v r ak bo,e= .returned v/\Q r ak/\aU w' bo r v/\Good (fun bl=>fB ν s bl\/w.heap.size<=bl) w' bo ak.b ak.e/\A6 (some κ) bo ak/\h0 ak/\pC ⟨w,ν,fB ν s,0,cL s⟩ w' bo) (.returned v) w':=by
   refine⟨de.defers,?_⟩;have jO:(results fn br.tmps).run P w'= .ok (if h:oQ.toArray.size=1 then oQ.toArray[0]else .tuple oQ.toArray) w':=by rw[abl];simp only[gy,Array.mapM_eq_mapM_toList,Sem.run_map,g1,gC,hG]
   have xv:∀k,aM ak k->(ae k ak.b).isSome/\(ae k st'.b).isSome:=fun k ab=>by
    have J:(ae k ak.b).isSome:=by
     rcases ab with ab|ab
     ·exact ab
     ·rw[hs'e]at ab;simp[ae]at ab
    obtain⟨cs,dz⟩:=fx.1 J;exact⟨J,by simp[(ba k cs dz).1]⟩
   have gL:∀k b,k∈ed (a6 bU)->oc bo k b->∃own,ae k st'.e=some own/\(X.pr b)/\b<w'.heap.size/\(∀k j,¬bo.tr k j b)/\(∀bs,(ae bs st'.b).isSome->bo.bx bs≠some b):=by rintro k b ab ⟨n,v,J,U⟩;obtain⟨own,nn⟩:=I6 _ ok k ab;obtain⟨v0,us,hh,iQ,va,awX⟩:=de.good.own k _ nn;rw[J]at hh;simp only[dU,js]at hh;obtain⟨rfl,rfl⟩:=hh;exact⟨_,nn,(va b U).1,de.good.ownLt nn J U,de.good.otr b (.inr ⟨k,_,_,by simp[nn],J,U⟩),fun bs lV kp=>de.good.obx k bs _ _ b (by simp[nn]) lV J U kp⟩
   have zu:∀k b,k∈ed (a6 bU)->oc bo k b->w.heap.size<=b:=by
    intro k b ab dZ;obtain⟨own,_,J,_,_,bS⟩:=gL k b ab dZ;rcases J with J|J
    ·exfalso;rcases J with⟨bs,bq,a2⟩|⟨g,n,v,bq,_⟩
     ·cases bs with
      |loc m=>rw[kU.1 m]at bq;cases bq
      |obj m=>exact bS _ (xv _ (xS kb _ bq)).2 (de.fr.obj m b a2)
     ·rw[ia]at bq;simp[ae]at bq
    ·exact J
   have HP:Db bo (fun b=> ∃k,k∈ed (a6 bU)/\oc bo k b) (ed (a6 bU)):=by refine⟨de.fr.trd,fun k bs b ab lV J U=>?_,fun k b ab h=>⟨k,ab,h⟩⟩;obtain⟨n,v,bq,a2⟩:=J;obtain⟨n',v',cm,b8⟩:=U;obtain⟨_,bR⟩:=I6 _ ok k ab;obtain⟨_,cp⟩:=I6 _ ok bs lV;exact de.good.oinj k bs n n' v v' b (by simp[bR]) (by simp[cp]) bq cm a2 b8
   refine⟨_,jO,_,Pv.fold κ st'.e 0 (a6 bU),ak,bo.fold ak κ st'.e (a6 bU),rfl,dK,?_,?_,?_,bX,?_⟩
   ·show aU w' (bo.fold ak κ st'.e (a6 bU)) _ _;have nV:aU w' bo (a6 bU) (if h:oQ.toArray.size=1 then oQ.toArray[0]else .tuple oQ.toArray):=by
     match bU,oQ,g2,Nk with
     |[p],[v],g2,_=>simp only[c7]at g2;obtain⟨u,b1,al,aC,_⟩:=g2;cases al;simpa[a6]using aC
     |[],[],g2,_=>simp[a6,aU,c7]
     |p::dD::bU,v::v2::oQ,g2,_=>rw[dif_neg Ψ];simp only[a6,aU];exact⟨_,rfl,by simpa using g2⟩
     |[_],[],_,h=>simp at h
     |[],_::_,_,h=>simp at h
     |[_],_::_::_,_,h=>simp at h
     |_::_::_,[],_,h=>simp at h
     |_::_::_,[_],_,h=>simp at h
    refine Ml (μ:=bo.fold ak κ st'.e (a6 bU)) de.good HP (fun b bt=>?_) (fun b o h=>.inl h) (fun k ab own nn b dZ o ar=>.inr ⟨k,ab,own,nn,dZ,ar⟩) (a6 bU) _ 0 nV ok nd (fun k ab=>ab) (fun i S hi b dF=>⟨rfl,S,by simpa using hi,dF⟩);obtain⟨k,ab,dZ⟩:=bt;obtain⟨_,_,_,_,aZ,_⟩:=gL k b ab dZ;exact aZ
   ·have kI:oi (aM ak) w' bo w' (bo.fold ak κ st'.e (a6 bU)):=by
     refine⟨fun b o h=>⟨.inl h,rfl⟩,fun k b ab h=>by simp only[bd.fold];rw[bd.cut_bx ab];exact h,fun g n u HQ h=>?_,fun _ _ _=>rfl,fun k j b ab h=>?_⟩
     ·obtain⟨cs,dz⟩:=fx.1 (xv g HQ).2;obtain⟨bl,us,el,al,_⟩:=de.good.box g cs dz;rcases de.good.one g with J|J
      ·rw[J]at al;cases al
      ·rw[J]at h;cases h
     ·obtain⟨cs,dz⟩:=fx.1 (xv k ab).2;obtain⟨bl,us,el,al,_⟩:=de.good.box k cs dz;rw[(de.fr.trn k j b h).1]at al;cases al
    have kp:∀k bl,(bo.fold ak κ st'.e (a6 bU)).bx k=some bl->aM ak k/\bo.bx k=some bl:=fun k bl h=>bd.cut_some h;refine⟨fun bl o bj=>?_,fun k cs ab=>?_,fun k bs bl J U aq aZ=>?_,fun g o HQ=>?_,fun g fD n n' v v' bl J=>?_,fun g k n v bl J=>?_,fun k=>.inr rfl,fun bl aJ k j hO=>?_⟩
    ·rcases bj with bj|⟨k,ab,own,_,dZ,_⟩
     ·exact de.good.alt bl o bj
     ·obtain⟨_,_,_,aq,_⟩:=gL k bl ab dZ;exact aq
    ·obtain⟨f1,f2,f3⟩:=ba k cs ab;obtain⟨bl,us,el,al,aC,bh,b3,dN⟩:=de.good.box k cs f1;refine⟨bl,us,el,kI.bx k bl f2 al,aC,fun o bj=>?_,b3,PY kI f3 dN⟩;rcases bj with bj|⟨bs,lV,own,_,dZ,_⟩
     ·exact bh o bj
     ·obtain⟨_,_,_,_,_,bS⟩:=gL bs bl lV dZ;exact bS k (by simp[f1]) al
    ·exact de.good.inj k bs bl (xv k (.inl J)).2 (xv bs (.inl U)).2 (kp k bl aq).2 (kp bs bl aZ).2
    ·rw[hs'e]at HQ;simp[ae]at HQ
    ·rw[hs'e]at J;simp[ae]at J
    ·rw[hs'e]at J;simp[ae]at J
    ·rcases aJ with⟨bs,bq,a2⟩|⟨g,n,v,bq,_⟩
     ·obtain⟨_,S,dF,dZ⟩:=hO;obtain⟨cm,b8⟩:=kp bs bl a2;rcases FZ _ j S dF bl dZ with⟨bE,iF,J⟩|⟨⟨bE,i,_,J⟩,_⟩
      ·obtain⟨_,_,_,_,_,bS⟩:=gL bE bl iF J;exact bS bs (xv bs cm).2 b8
      ·exact de.good.otr bl (.inl ⟨bs,(xv bs cm).2,b8⟩) bE i J
     ·rw[hs'e]at bq;simp[ae]at bq
   ·intro k;refine⟨fun ab=>?_,fun _=>rfl,fun j b h=>⟨κ,rfl,h.1⟩⟩;refine(bd.cut_no fun cN=>?_).1;have:=(xv k cN).1;rw[ab]at this;cases this
   ·have WV:∀j b,(bo.fold ak κ st'.e (a6 bU)).tr (.loc κ) j b->w.heap.size<=b/\b<w'.heap.size:=by
     rintro j b ⟨_,S,dF,dZ⟩;rcases FZ _ j S dF b dZ with⟨k,ab,J⟩|⟨⟨k,i,fN,J⟩,_⟩
     ·obtain⟨_,_,_,aq,_⟩:=gL k b ab J;exact⟨zu k b ab J,aq⟩
     ·have:=de.fr.trb k i b J;exact⟨this.1.resolve_left (Zd _ ok _ fN),this.2⟩
    refine⟨de.fr.os,de.fr.tape,de.fr.output,de.fr.size,de.fr.block,fun b o h=>⟨.inl (de.fr.keep b o h).1,(de.fr.keep b o h).2⟩,fun b o bj=>?_,fun n b h=>?_,fun n b h=>jd n (.inl (by rw[h];simp)),fun m n u h=>?_,fun m n u h=>jd m (.inr (by rw[h];simp)),fun k j bs dh b J U=>?_,fun k j b h=>?_,fun k j b h=>?_,de.fr.sh⟩
    ·rcases bj with bj|⟨k,ab,own,_,dZ,_⟩
     ·exact de.fr.fresh b o bj
     ·obtain⟨_,_,U,_⟩:=gL k b ab dZ;exact .inr U
    ·have ai:aM ak (.obj n):=by
      cases nn:ae (.obj n) s.b with
      |none=>rw[(ad _).1 nn]at h;cases h
      |some x=>exact xS kb _ (by simp[nn])
     simp only[bd.fold];rw[bd.cut_bx ai];exact de.fr.obj n b h
    ·rw[(ad _).2.1 (by rw[ia];rfl)]at h;cases h
    ·obtain⟨rfl,S,bq,a2⟩:=J;obtain⟨rfl,na,cm,b8⟩:=U;exact⟨rfl,abN HP _ nd rd (fun k ab=>ab) j dh S na bq cm b a2 b8⟩
    ·obtain⟨rfl,_⟩:=id h;exact⟨.inr (WV j b h).1,(WV j b h).2⟩
    ·obtain⟨rfl,_⟩:=h;refine⟨(bd.cut_no fun cN=>?_).1,rfl⟩;rcases cN with cN|cN
     ·rw[bX.1 κ]at cN;cases cN
     ·rw[bX.2 κ]at cN;cases cN
  rcases rk with rfl|rfl<;>exact ef
def uh.mk{P:cI}(hm:P.follows .mixedOrders=true){aT:List (Nat×ev)}(l:h1 P aT=true){f:FuncId}{fn:Func}(m:P.funcs[f]? =some fn){c:C}{b:List bW}{n:Nat}(a:b4 aT c b n fn=true)
  {args:List af} (g:args.length<=n) {s:cT} (d:h0 s) (e:s.e=[]) {κ:Nat} {Q:af->cT->Prop} (he:eI args->(∀j cs,ae j s.b=some cs->gY cs=true->eJ cs)->df P (cL s) c (hV b s κ Q) ⟨je 0 args,s.b,s.e,0,cL s⟩):uh P f κ args s Q:=by
 unfold b4 at a;split at a
 ·rename_i code i;simp only[cR,sN,gz]at a;obtain⟨⟨⟨J,U⟩,h⟩,k⟩:=a;exact uh.of hm l m i h J U (kE g k) d e he
 ·cases a
def fJ(P:cI)(f:FuncId)(args:List af)(r:Nat->af):Prop:= ∀κ,uh P f κ args ⟨[],[]⟩ fun a b=>a=r κ/\b=⟨[],[]⟩
def fJ.mk{P:cI}(hm:P.follows .mixedOrders=true){aT:List (Nat×ev)}(i:h1 P aT=true){f:FuncId}{fn:Func}(j:P.funcs[f]? =some fn){c:C}{a:List bW}{n:Nat}(d:b4 aT c a n fn=true)
  {args:List af} (e:args.length<=n) {r:Nat->af} (he:eI args->∀κ,df P [] c (hV a ⟨[],[]⟩ κ fun b g=>b=r κ/\g=⟨[],[]⟩) ⟨je 0 args,[],[],0,[]⟩):fJ P f args r:=
 fun κ=>uh.mk hm i j d e sw rfl fun h _=>he h κ
def hV.val{b:List bW}{κ:Nat}{r:af}{e:Exit}{st:bp}(f:e= .ret\/e= .normal)(h:match bc st b with
  |some (c,a)=>c/\(e3 st.e (a6 a)/\(ez st.e (a6 a)).Nodup/\(ed (a6 a)).Nodup)/\fold κ st.e 0 (a6 a)=r
  |none=>er):hV b ⟨[],[]⟩ κ (fun g i=>g=r/\i=⟨[],[]⟩) e st:=by
 refine⟨f,?_⟩;cases d:bc st b with
 |none=>simp[d]at h
 |some x=>obtain⟨c,a⟩:=x;simp only[d]at h⊢;exact⟨h.1,⟨[],[]⟩,rfl,trivial,fun k cs ab=>by simp[ae]at ab,sw,h.2.1,h.2.2,rfl⟩
def CallDo.own{P:cI}{n:Nat}{args:List af}{st:bp}{d:be Nat}{K:bp->Prop}{r:Nat->af}(ab:aH (fun _=>er) args)(b:fJ P n args r)(a: .loc st.n∉st.o)(h:K {st with t:=e6 d (r st.n) st.t,n:=st.n+1}):CallDo P n args st d K:=by
 refine .inr ⟨⟨[],[]⟩,_,fun k cs ab=>by simp[ae]at ab,fun k cs ab=>by simp[ae]at ab,sw,jl (fun _ h=>h.elim) _ ab,a,b st.n,?_⟩;rintro c e ⟨rfl,rfl⟩;refine⟨⟨fun m h=>by simp[ae]at h,fun m h=>by simp[ae]at h⟩,?_⟩;have:({after st ⟨[],[]⟩ ⟨[],[]⟩ d (r st.n)with n:=st.n+1}:bp)={st with t:=e6 d (r st.n) st.t,n:=st.n+1}:=by simp[after,C8,cL]
 rw[this];exact h
def hM.own{P:cI}{q:Bool}{nw:List Nat}{n:Nat}{args:List af}{st:bp}{cU:Nat}{K:bp->Prop}{r:Nat->af}(ab:aH (fun _=>er) args)(b:fJ P n args r)(a:qv st.n cU st)(h:K {st with t:=put cU (r (st.n+cU)) st.t,o:= .loc (st.n+cU)::st.o}):hM P q nw n args st (some cU) K:=.inl ⟨cU,r (st.n+cU),rfl,a,ab,b (st.n+cU),h⟩
end
end Go.Pv
namespace Go.Proofs.YtahlgcidhnjlbaaGreat
section
open Go Go.Pv
def _root_.Go.Pv.T.k(t:T)(κ:Nat):af:= .agg [aj t.kind,aj t.int,.str t.name,.slice 4 (.tr (.loc κ) 0) (t.args.map T.e)]
def anj(t:T):fJ au 143 [t.e] t.k:=by
 induction t with
 |pair a b d c=>
  refine fJ.mk mixed a1 Tryz.func143 I8 Ψ fun e κ=>?_;unfold Dw;simp;repeat' first|with_reducible refine hM.own Ψ d (by simp[qv,ae]) ?_|with_reducible refine hM.own Ψ c (by simp[qv,ae]) ?_|simp[T.k]
  all_goals skip
  all_goals(refine hV.val (.inl rfl) ?_;simp[bc,bf,a6,e3,hj,ez,gO,ed,gH,tnL,tn,fm,fX,fold,hy,hv,ae,eg,cf])
 |_=>refine fJ.mk mixed a1 Tryz.func143 I8 Ψ fun e κ=>?_;unfold Dw;simp;all_goals(refine hV.val (.inl rfl) ?_;simp[bc,bf,a6,e3,hj,ez,gO,ed,gH,tnL,tn,fm,fX,fold,hy,hv,ae,T.k,cf])
end
end Go.Proofs.YtahlgcidhnjlbaaGreat
namespace Go.Pv
section
open Go Go.RowKit
mutual
def bF:af->Nat
 | .slice _ _ []=>0
 | .slice _ _ (x::xs)=>1+(bF x+dc xs)
 | .agg cs=>dc cs
 |_=>0
def dc:List af->Nat
 |[]=>0
 |x::xs=>bF x+dc xs
end
mutual
def dv:Nat->af->af
 |_,.slice sz _ []=>.slice sz .no []
 |b,.slice sz _ (_::xs)=>.row sz (.obj b) (xs.length+1)
 |b,.agg cs=>.agg (fL b cs)
 |_,p=>p
def fL:Nat->List af->List af
 |_,[]=>[]
 |b,x::xs=>dv b x::fL (b+bF x) xs
end
mutual
def dR(ε:Nat->Nat):Nat->af->List (aB×dW)
 |b,.slice sz _ (x::xs)=>(.obj b,⟨xs.length+1,ε b,sz,some (dv (b+1) x::fL (b+1+bF x) xs)⟩)::(dR ε (b+1) x++gP ε (b+1+bF x) xs)
 |b,.agg cs=>gP ε b cs
 |_,_=>[]
def gP(ε:Nat->Nat):Nat->List af->List (aB×dW)
 |_,[]=>[]
 |b,x::xs=>dR ε b x++gP ε (b+bF x) xs
end
def o5:∀(b:Nat) (xs:List af),(fL b xs).length=xs.length
 |_,[]=>rfl
 |b,x::xs=>by simp[fL,o5 _ xs]
mutual
def u3(ε:Nat->Nat):∀(p:af) (b:Nat) (k:aB) (o:dW),ae k (dR ε b p)=some o->∃m,k= .obj m/\b<=m/\m<b+bF p
 | .slice sz t (x::xs),b,k,o,h=>by
  simp only[dR,ae]at h;split at h
  ·rename_i e;exact⟨b,e.symm,dP _,by simp only[bF];omega⟩
  ·rw[n4]at h;simp only[bF];cases J:ae k (dR ε (b+1) x)with
   |some y=>obtain⟨m,e,a,c⟩:=u3 ε x _ k y J;exact⟨m,e,Ω,Ω⟩
   |none=>rw[J]at h;obtain⟨m,e,a,c⟩:=B4 ε xs _ k o h;exact⟨m,e,Ω,Ω⟩
 | .agg cs,b,k,o,h=>by simp only[dR,bF]at h⊢;exact B4 ε cs b k o h
 | .slice _ _ [],_,_,_,h=>by simp[dR,ae]at h
 | .int _ _,_,_,_,h=>by simp[dR,ae]at h
 | .bool _,_,_,_,h=>by simp[dR,ae]at h
 | .str _,_,_,_,h=>by simp[dR,ae]at h
 | .junk,_,_,_,h=>by simp[dR,ae]at h
 | .ptr _ _,_,_,_,h=>by simp[dR,ae]at h
 | .eptr _,_,_,_,h=>by simp[dR,ae]at h
 | .iface _ _,_,_,_,h=>by simp[dR,ae]at h
 | .nilp,_,_,_,h=>by simp[dR,ae]at h
 | .tuple _,_,_,_,h=>by simp[dR,ae]at h
 | .func _ _,_,_,_,h=>by simp[dR,ae]at h
 | .gmap _,_,_,_,h=>by simp[dR,ae]at h
 | .row _ _ _,_,_,_,h=>by simp[dR,ae]at h
 | .rptr _ _ _ _ _,_,_,_,h=>by simp[dR,ae]at h
 | .hdm _ _,_,_,_,h=>by simp[dR,ae]at h
 | .hdi _ _ _,_,_,_,h=>by simp[dR,ae]at h
 | .cst _,_,_,_,h=>by simp[dR,ae]at h
def B4(ε:Nat->Nat):∀(a:List af) (b:Nat) (k:aB) (o:dW),ae k (gP ε b a)=some o->∃m,k= .obj m/\b<=m/\m<b+dc a
 |[],_,_,_,h=>by simp[gP,ae]at h
 |x::xs,b,k,o,h=>by
  simp only[gP]at h;rw[n4]at h;simp only[dc];cases J:ae k (dR ε b x)with
  |some y=>obtain⟨m,e,c,d⟩:=u3 ε x _ k y J;exact⟨m,e,Ω,Ω⟩
  |none=>rw[J]at h;obtain⟨m,e,c,d⟩:=B4 ε xs _ k o h;exact⟨m,e,Ω,Ω⟩
end
structure um (F:Nat->Prop) (ω:Nat->be (Nat×Value)) (b c:Nat):Prop where
 dom:∀m,(ω m).isSome=true↔b<=m/\m<c
 blk:∀m n u,ω m=some (n,u)->∃bl,u.ownBlock=some bl/\F bl
 inj:∀m fV n n' u eM bl,ω m=some (n,u)->ω fV=some (n',eM)->u.ownBlock=some bl->eM.ownBlock=some bl->m=fV
def vA(w:World)(ω:Nat->be (Nat×Value))(e:List (aB×dW)):Prop:= ∀μ:bd,(∀m x,ω m=some x->μ.ow (.obj m)=some x)->
 ∀k o,ae k e=some o->∃u us,μ.ow k=some (o.n,u)/\w.ownsRow 0 o.el o.sz u o.n us/\∃xs,o.xs=some xs/\xs.length=o.n/\dw w μ o.sz xs us
def um.nil(F:Nat->Prop)(b:Nat):um F (fun _=>none) b b:=⟨fun m=>by simp,fun _ _ _ h=>(by cases h),fun _ _ _ _ _ _ _ h=>by cases h⟩
def wm(c:Nat)(b a:Nat->be (Nat×Value))(m:Nat):be (Nat×Value):=if m<c then b m else a m
def Xu{c:Nat}{a e:Nat->be (Nat×Value)}{F:Nat->Prop}{b:Nat}(h:um F a b c){m:Nat}{x:Nat×Value}(d:a m=some x):wm c a e m=some x:=by unfold wm;rw[if_pos ((h.dom m).1 (by rw[d];rfl)).2];exact d
def Xv{c d:Nat}{e a:Nat->be (Nat×Value)}{F:Nat->Prop}(h:um F a c d){m:Nat}{x:Nat×Value}(b:a m=some x):wm c e a m=some x:=by unfold wm;rw[if_neg (by have:=((h.dom m).1 (by rw[b];rfl)).1;omega)];exact b
def um.join{F o l:Nat->Prop}{r q:Nat->be (Nat×Value)}{b c d:Nat}(J:um o r b c)(U:um l q c d)(v:b<=c)(t:c<=d)(f1:∀x,o x->F x)(f2:∀x,l x->F x)(s:∀x,o x->¬l x):um F (wm c r q) b d:=by
 refine⟨fun m=>?_,fun m n u hm=>?_,fun m h n n' u i bl hm f k j=>?_⟩
 ·unfold wm;split
  ·rw[J.dom];omega
  ·rw[U.dom];omega
 ·unfold wm at hm;split at hm
  ·obtain⟨bl,a,e⟩:=J.blk m n u hm;exact⟨bl,a,f1 _ e⟩
  ·obtain⟨bl,a,e⟩:=U.blk m n u hm;exact⟨bl,a,f2 _ e⟩
 ·unfold wm at hm f;split at hm<;>split at f
  ·exact J.inj m h n n' u i bl hm f k j
  ·obtain⟨_,a,e⟩:=J.blk m n u hm;obtain⟨_,g,p⟩:=U.blk h n' i f;rw[k]at a;rw[j]at g;cases a;cases g;exact absurd p (s _ e)
  ·obtain⟨_,a,e⟩:=U.blk m n u hm;obtain⟨_,g,p⟩:=J.blk h n' i f;rw[k]at a;rw[j]at g;cases a;cases g;exact absurd e (s _ p)
  ·exact U.inj m h n n' u i bl hm f k j
def vA.app{w:World}{ω:Nat->be (Nat×Value)}{e b:List (aB×dW)}(h:vA w ω e)(c:vA w ω b):vA w ω (e++b):=fun μ a k o ab=>by
 rw[n4]at ab;cases J:ae k e with
 |some y=>rw[J]at ab;cases ab;exact h μ a k _ J
 |none=>rw[J]at ab;exact c μ a k o ab
def vA.sub{w:World}{ω a:Nat->be (Nat×Value)}{e:List (aB×dW)}(h:vA w ω e)(c:∀m x,ω m=some x->a m=some x):vA w a e:=fun μ b=>h μ fun m x d=>b m x (c m x d)
def Vv{t:Bool}{w:World}{A:Nat->Nat->Prop}{sz:Nat}:∀{xs:List af} {F:Nat->Prop} {us:List Value},jZ t w A F sz xs us->us.length=xs.length*sz
 |[],_,us,h=>by simp only[jZ]at h;subst h;simp
 |x::xs,F,us,h=>by
  simp only[jZ]at h;obtain⟨u,d,c,b,rfl,_,⟨_,U,_⟩,a⟩:=h;have:u.cells.toList.length=sz:=by simpa using U
  rw[qe,this,Vv a,mw,Nat.succ_mul];omega
def pH(w:World)(F:Nat->Prop)(b c:Nat)(e:(Nat->Nat)->List (aB×dW))(R:bd->Prop):Prop:=∃(ε:Nat->Nat) (ω:Nat->be (Nat×Value)),um F ω b c/\vA w ω (e ε)/\∀μ:bd,(∀m x,ω m=some x->μ.ow (.obj m)=some x)->R μ
def pH.flat{w:World}{F:Nat->Prop}{b:Nat}{R:bd->Prop}(h:∀μ,R μ):pH w F b b (fun _=>[]) R:=⟨fun _=>0,fun _=>none,um.nil F b,fun _ _ k o ab=>by simp[ae]at ab,fun μ _=>h μ⟩
mutual
def JR{ε ε':Nat->Nat}:∀(p:af) (b:Nat),(∀m,b<=m->m<b+bF p->ε m=ε' m)->dR ε b p=dR ε' b p
 | .slice sz t (x::xs),b,h=>by simp only[bF]at h;simp only[dR];rw[h b Ω Ω,JR x (b+1) fun m J U=>h m Ω Ω,FJ xs (b+1+bF x) fun m J U=>h m Ω Ω]
 | .agg cs,b,h=>by simp only[dR,bF]at h⊢;exact FJ cs b h
 | .slice _ _ [],_,_=>rfl
 | .int _ _,_,_=>rfl
 | .bool _,_,_=>rfl
 | .str _,_,_=>rfl
 | .junk,_,_=>rfl
 | .ptr _ _,_,_=>rfl
 | .eptr _,_,_=>rfl
 | .iface _ _,_,_=>rfl
 | .nilp,_,_=>rfl
 | .tuple _,_,_=>rfl
 | .func _ _,_,_=>rfl
 | .gmap _,_,_=>rfl
 | .row _ _ _,_,_=>rfl
 | .rptr _ _ _ _ _,_,_=>rfl
 | .hdm _ _,_,_=>rfl
 | .hdi _ _ _,_,_=>rfl
 | .cst _,_,_=>rfl
def FJ{ε ε':Nat->Nat}:∀(a:List af) (b:Nat),(∀m,b<=m->m<b+dc a->ε m=ε' m)->gP ε b a=gP ε' b a
 |[],_,_=>rfl
 |x::xs,b,h=>by simp only[dc]at h;simp only[gP];rw[JR x b fun m J U=>h m Ω Ω,FJ xs (b+bF x) fun m J U=>h m Ω Ω]
end
def pH.two{w:World}{F d c:Nat->Prop}{x:af}{xs:List af}{b:Nat}{i h R:bd->Prop}(J:pH w d b (b+bF x) (fun ε=>dR ε b x) i)(U:pH w c (b+bF x) (b+bF x+dc xs) (fun ε=>gP ε (b+bF x) xs) h)
  (f1:∀b,d b->F b) (f2:∀b,c b->F b) (o:∀b,d b->¬c b) (bt:∀μ,i μ->h μ->R μ):pH w F b (b+(bF x+dc xs)) (fun ε=>dR ε b x++gP ε (b+bF x) xs) R:=by
 obtain⟨ε1,k,e,a2,a3⟩:=J;obtain⟨ε2,j,f,n,l⟩:=U;refine⟨fun m=>if m<b+bF x then ε1 m else ε2 m,wm (b+bF x) k j,by rw[<-Nat.add_assoc];exact e.join f Ω Ω f1 f2 o,?_,fun μ g=>bt μ (a3 μ fun m y a=>g m y (Xu e a)) (l μ fun m y a=>g m y (Xv f a))⟩;refine vA.app ?_ ?_
 ·rw[JR (ε':=ε1) x b fun m J U=>by rw[if_pos U]];exact a2.sub fun m y a=>Xu e a
 ·rw[FJ (ε':=ε2) xs (b+bF x) fun m J U=>by rw[if_neg Ω]];exact n.sub fun m y a=>Xv f a
mutual
def QL{w:World}{A:Nat->Nat->Prop}:∀(p:af) (F:Nat->Prop) (v:Value) (b:Nat),cZ true w A F p v->pH w F b (b+bF p) (fun ε=>dR ε b p) fun μ=>aU w μ (dv b p) v
 | .int k n,F,v,b,h=>pH.flat fun μ=>by simpa only[cZ,dv,aU]using h
 | .bool _,F,v,b,h=>pH.flat fun μ=>by simpa only[cZ,dv,aU]using h
 | .str s,F,v,b,h=>pH.flat fun μ=>by simpa only[cZ,dv,aU]using h
 | .slice sz tag [],F,v,b,h=>pH.flat fun μ=>by simp only[cZ]at h;obtain⟨a,cap,J,U,t,_⟩:=h;simp only[dv,aU];exact⟨⟨a,cap,J,U,t,.inl trivial⟩,fun e=>(by cases e),fun _ e=>(by cases e),fun _ _ e=>(by cases e),fun _ e=>(by cases e)⟩
 | .agg cs,F,v,b,h=>by simp only[cZ]at h;obtain⟨us,rfl,U⟩:=h;obtain⟨ε,ω,d,a2,a3⟩:=aca cs F us.toList b U;exact⟨ε,ω,d,a2,fun μ j=>by simp only[dv,aU];exact⟨us,rfl,a3 μ j⟩⟩
 | .slice sz tag (x::xs),F,v,b,h=>by
  simp only[cZ]at h;obtain⟨a,cap,J,U,t,E⟩:=h;rcases E with E|⟨g,off,us,G,rfl,X,O,W,V,N⟩
  ·cases E
  obtain⟨rfl,gk,el,l⟩:=V trivial;obtain⟨ε,ω,d,a2,a3⟩:=ab9 sz (x::xs) G us (b+1) N;have hlen:=Vv N;have Q:¬G g:=fun a7=>(O g a7).2 trivial rfl;have R:∃cur,w.heap[g]? =some (.cells cur el (0,0))/\cur.size=cap*sz:=by
   unfold shape at l;split at l
   ·rename_i cur gK fz aw;simp only[dU,js]at l;obtain⟨c,rfl,rfl⟩:=l;exact⟨cur,aw,c⟩
   ·cases l
  obtain⟨cur,aw,M⟩:=R;have hle:(x::xs).length*sz<=cur.size:=by rw[M];exact rU _ U
  have Y:cur.toList.take ((x::xs).length*sz)=us:=by
   apply List.ext_getElem?;intro i;rw[List.getElem?_take];by_cases hi:i<(x::xs).length*sz
   ·rw[if_pos hi];obtain⟨u,hu⟩:∃u,us[i]? =some u:=⟨_,cl (by rw[hlen];exact hi)⟩;have H:=(uY W hu).2;simp only[World.cell?,Nat.zero_add,aw,kh,hT,if_false]at H;rw[hu];simpa using H
   ·rw[if_neg hi,q3 (by rw[hlen];omega)]
  have B:∀m y,ω m=some y->m≠b:=fun m y hm e=>by have:=(d.dom m).1 (by rw[hm];rfl);omega
  refine⟨fun m=>if m=b then el else ε m,fun m=>if m=b then some ((x::xs).length,v)else ω m,?_,?_,?_⟩
  ·refine⟨fun m=>?_,fun m n u hm=>?_,fun m K n n' u L bl hm q z r=>?_⟩
   ·simp only[bF];by_cases e:m=b
    ·subst e;simp;omega
    ·rw[if_neg e,d.dom];simp only[dc];omega
   ·split at hm
    ·cases hm;exact⟨g,by rw[J];rfl,X⟩
    ·obtain⟨bl,c,f⟩:=d.blk m n u hm;exact⟨bl,c,(O bl f).1⟩
   ·split at hm<;>split at q
    ·rename_i c f;rw[c,f]
    ·cases hm;obtain⟨_,c,f⟩:=d.blk K n' L q;rw[r]at c;cases c;rw[J]at z;cases z;exact absurd f Q
    ·cases q;obtain⟨_,c,f⟩:=d.blk m n u hm;rw[z]at c;cases c;rw[J]at r;cases r;exact absurd f Q
    ·exact d.inj m K n n' u L bl hm q z r
  ·intro μ j k o ab;have P:∀m y,ω m=some y->μ.ow (.obj m)=some y:=fun m y hm=>j m y ((if_neg (B m y hm)).trans hm);simp only[dR,ae]at ab;split at ab
   ·rename_i Z;subst Z;cases ab;refine⟨v,us,?_,⟨by rw[hlen];rfl,.inr ⟨g,cap,cur,J,Nat.zero_le _,by simpa using aw,U,t.1,M,Y⟩⟩,_,rfl,by simp[o5],?_⟩
    ·exact j b _ Ψ
    ·exact(a3 μ P)
   ·have S:(dR (fun m=>if m=b then el else ε m) (b+1) x++gP (fun m=>if m=b then el else ε m) (b+1+bF x) xs)=gP ε (b+1) (x::xs):=by simp only[gP];rw[JR (ε':=ε) x (b+1) fun m J _=>by rw[if_neg Ω],FJ (ε':=ε) xs (b+1+bF x) fun m J _=>by rw[if_neg Ω]]
    rw[S]at ab;exact a2 μ P k o ab
  ·intro μ j;simp only[dv,aU];exact⟨⟨g,cap,J⟩,t.2,(x::xs).length,v,j b _ Ψ,dP _,fun _=>rfl⟩
 | .junk,_,_,_,h=>by simp[cZ]at h
 | .ptr _ _,_,_,_,h=>by simp[cZ]at h
 | .eptr _,_,_,_,h=>by simp[cZ]at h
 | .iface _ _,_,_,_,h=>by simp[cZ]at h
 | .nilp,_,_,_,h=>by simp[cZ]at h
 | .tuple _,_,_,_,h=>by simp[cZ]at h
 | .func _ _,_,_,_,h=>by simp[cZ]at h
 | .gmap _,_,_,_,h=>by simp[cZ]at h
 | .row _ _ _,_,_,_,h=>by simp[cZ]at h
 | .rptr _ _ _ _ _,_,_,_,h=>by simp[cZ]at h
 | .hdm _ _,_,_,_,h=>by simp[cZ]at h
 | .hdi _ _ _,_,_,_,h=>by simp[cZ]at h
 | .cst _,_,_,_,h=>by simp[cZ]at h
def aca{w:World}{A:Nat->Nat->Prop}:∀(cs:List af) (F:Nat->Prop) (us:List Value) (b:Nat),kF true w A F cs us->pH w F b (b+dc cs) (fun ε=>gP ε b cs) fun μ=>cW w μ (fL b cs) us
 |[],F,us,b,h=>pH.flat fun μ=>by simpa only[kF,fL,cW]using h
 |c::cs,F,us,b,h=>by simp only[kF]at h;obtain⟨u,a,e,d,rfl,⟨f1,f2,f3⟩,⟨g1,g2⟩,g3⟩:=h;simp only[dc,gP,fL];exact(QL c e u b g1).two (aca cs d a (b+bF c) g3) f1 f2 (f3 trivial) fun μ g f=>by simp only[cW];exact⟨u,a,rfl,⟨g,g2⟩,f⟩
def ab9{w:World}{A:Nat->Nat->Prop}(sz:Nat):∀(cs:List af) (F:Nat->Prop) (us:List Value) (b:Nat),jZ true w A F sz cs us->pH w F b (b+dc cs) (fun ε=>gP ε b cs) fun μ=>dw w μ sz (fL b cs) us
 |[],F,us,b,h=>pH.flat fun μ=>by simpa only[jZ,fL,dw]using h
 |c::cs,F,us,b,h=>by simp only[jZ]at h;obtain⟨u,a,e,d,rfl,⟨f1,f2,f3⟩,⟨g1,g2,g4⟩,g3⟩:=h;simp only[dc,gP,fL];exact(QL c e u b g1).two (ab9 sz cs d a (b+bF c) g3) f1 f2 (f3 trivial) fun μ g f=>by simp only[dw];exact⟨u,a,rfl,⟨g,g2,g4⟩,f⟩
end
mutual
def cP:af->Prop
 | .int _ _=>True
 | .bool _=>True
 | .str _=>True
 | .slice sz _ xs=>0<sz/\dX xs
 | .agg cs=>dX cs
 |_=>er
def dX:List af->Prop
 |[]=>True
 |x::xs=>cP x/\dX xs
end
def xb{α:Type}(f:α->af):∀l:List α,dX (l.map f)↔∀x∈l,cP (f x)
 |[]=>by simp[dX]
 |x::l=>by simp[dX,xb f l]
mutual
def LP{w:World}{ν:bd}{F:Nat->Prop}(f:∀b o,ν.A b o->F b):∀(p:af) (v:Value),aU w ν p v->cP p->cZ false w ν.A F (b7 p) v
 | .int k n,v,h,_=>by simpa only[aU,b7,cZ]using h
 | .bool b,v,h,_=>by simpa only[aU,b7,cZ]using h
 | .str s,v,h,_=>by simpa only[aU,b7,cZ]using h
 | .slice sz tag xs,v,h,d=>by
  simp only[aU]at h;simp only[cP]at d;obtain⟨⟨a,cap,J,U,m,t⟩,_⟩:=h;simp only[b7,cZ,nD];refine⟨a,cap,J,U,m,?_⟩;rcases t with rfl|⟨b,off,us,q,j,g⟩
  ·exact .inl rfl
  ·cases xs with
   |nil=>exact .inl rfl
   |cons x xs=>
    have l:=rL g;have r:F b:=by
     cases us with
     |nil=>have i:0<(x::xs).length*sz:=Nat.mul_pos Ψ d.1;rw[<-l]at i;simp at i
     |cons u us=>exact f b _ j.1.1
    exact .inr ⟨b,off,us,F,q,r,fun c aw=>⟨aw,fun e=>(by cases e)⟩,j,fun e=>(by cases e),Uu f sz _ us g d.2⟩
 | .agg cs,v,h,d=>by simp only[aU,cP,b7,cZ]at h d⊢;obtain⟨us,J,U⟩:=h;exact⟨us,J,Uv f cs _ U d⟩
 | .junk,_,_,d=>by simp[cP]at d
 | .ptr _ _,_,_,d=>by simp[cP]at d
 | .eptr _,_,_,d=>by simp[cP]at d
 | .iface _ _,_,_,d=>by simp[cP]at d
 | .nilp,_,_,d=>by simp[cP]at d
 | .tuple _,_,_,d=>by simp[cP]at d
 | .func _ _,_,_,d=>by simp[cP]at d
 | .gmap _,_,_,d=>by simp[cP]at d
 | .row _ _ _,_,_,d=>by simp[cP]at d
 | .rptr _ _ _ _ _,_,_,d=>by simp[cP]at d
 | .hdm _ _,_,_,d=>by simp[cP]at d
 | .hdi _ _ _,_,_,d=>by simp[cP]at d
 | .cst _,_,_,d=>by simp[cP]at d
def Uv{w:World}{ν:bd}{F:Nat->Prop}(d:∀b o,ν.A b o->F b):∀(cs:List af) (us:List Value),cW w ν cs us->dX cs->kF false w ν.A F (cf cs) us
 |[],us,h,_=>by simpa only[cW,cf,kF]using h
 |c::cs,us,h,a=>by simp only[cW,dX,cf,kF]at h a⊢;obtain⟨u,f,J,⟨U,g⟩,i⟩:=h;exact⟨u,f,F,F,J,⟨fun _ h=>h,fun _ h=>h,fun e=>(by cases e)⟩,⟨LP d c u U a.1,g⟩,Uv d cs f i a.2⟩
def Uu{w:World}{ν:bd}{F:Nat->Prop}(d:∀b o,ν.A b o->F b)(sz:Nat):∀(cs:List af) (us:List Value),dw w ν sz cs us->dX cs->jZ false w ν.A F sz (cf cs) us
 |[],us,h,_=>by simpa only[dw,cf,jZ]using h
 |c::cs,us,h,a=>by simp only[dw,dX,cf,jZ]at h a⊢;obtain⟨u,f,J,⟨U,g⟩,i⟩:=h;exact⟨u,f,F,F,J,⟨fun _ h=>h,fun _ h=>h,fun e=>(by cases e)⟩,⟨LP d c u U a.1,g⟩,Uu d sz cs f i a.2⟩
end
def Yj{w:World}{μ:bd}{k:aB}{sz:Nat}{tag:jH}{ys:List af}{v:Value}(h:cZ false w μ.A (μ.tr k 0) (.slice sz tag ys) v)(a:cf ys=ys):aU w μ (.slice sz (.lo k) ys) v:=by have J:=Hx (ν:=μ) (fun _ _ h=>h) _ _ _ h;simp only[b7,a]at J;simp only[aU]at J⊢;refine⟨J.1,fun e=>(by cases e),fun _ e=>(by cases e),fun _ _ e=>(by cases e),fun bs e=>?_⟩;cases e;simp only[cZ]at h⊢;exact h
mutual
def lC:af->af
 | .int k n=>.int k n
 | .bool b=>.bool b
 | .str s=>.str s
 | .slice sz _ xs=>.slice sz (.lo eg) (cf xs)
 | .agg cs=>.agg (yk cs)
 | .ptr k o=>.ptr k o
 | .nilp=>.nilp
 |_=>.junk
def yk:List af->List af
 |[]=>[]
 |x::xs=>lC x::yk xs
end
mutual
def yl:af->Prop
 | .slice sz _ xs=>0<sz/\dX xs
 | .agg cs=>Ah cs
 |_=>True
def Ah:List af->Prop
 |[]=>True
 |x::xs=>yl x/\Ah xs
end
def CP(ν:bd):bd:={ν with tr:=fun k j b=>k=eg/\j=0/\∃o,ν.A b o}
mutual
def abz{w:World}{ν:bd}:∀(p:af) (v:Value),aU w ν p v->yl p->aU w (CP ν) (lC p) v
 | .int k n,v,h,_=>by simpa only[aU,lC]using h
 | .bool b,v,h,_=>by simpa only[aU,lC]using h
 | .str s,v,h,_=>by simpa only[aU,lC]using h
 | .slice sz tag xs,v,h,a=>by have J:=LP (F:=fun b=> ∃o,ν.A b o) (fun b o h=>⟨o,h⟩) _ v h (by simpa only[cP,yl]using a);simp only[lC];refine Yj (μ:=CP ν) (tag:= .no) ?_ (vg xs);simp only[b7]at J;exact vR (fun _ _ h=>⟨h,rfl⟩) (fun _ _ _=>rfl) _ _ _ v (fun b c=>⟨rfl,rfl,c⟩) J
 | .agg cs,v,h,a=>by simp only[aU,lC,yl]at h a⊢;obtain⟨us,J,U⟩:=h;exact⟨us,J,Qf cs _ U a⟩
 | .ptr k o,v,h,_=>by simp only[aU,lC]at h⊢;exact h
 | .nilp,v,h,_=>by simp only[aU,lC]at h⊢;exact h
 | .junk,_,_,_=>by simp[lC,aU]
 | .eptr _,_,_,_=>by simp[lC,aU]
 | .iface _ _,_,_,_=>by simp[lC,aU]
 | .tuple _,_,_,_=>by simp[lC,aU]
 | .func _ _,_,_,_=>by simp[lC,aU]
 | .gmap _,_,_,_=>by simp[lC,aU]
 | .row _ _ _,_,_,_=>by simp[lC,aU]
 | .rptr _ _ _ _ _,_,_,_=>by simp[lC,aU]
 | .hdm _ _,_,_,_=>by simp[lC,aU]
 | .hdi _ _ _,_,_,_=>by simp[lC,aU]
 | .cst _,_,_,_=>by simp[lC,aU]
def Qf{w:World}{ν:bd}:∀(cs:List af) (us:List Value),cW w ν cs us->Ah cs->cW w (CP ν) (yk cs) us
 |[],us,h,_=>by simpa only[cW,yk]using h
 |c::cs,us,h,a=>by simp only[cW,yk,Ah]at h a⊢;obtain⟨u,b,J,⟨U,d⟩,e⟩:=h;exact⟨u,b,J,⟨abz c u U a.1,d⟩,Qf cs b e a.2⟩
end
def JX(l:List (Nat×af)):List (Nat×af):=l.map fun x=>(x.1,lC x.2)
def FN(l:List (aB×List af)):List (aB×List af):=l.map fun x=>(x.1,yk x.2)
def wP(st:bp):bp:=⟨JX st.t,FN st.b,[],st.n,eg::st.o⟩
def JW:List (Nat×af)->Prop
 |[]=>True
 |(_,p)::r=>yl p/\JW r
def JV:List (aB×List af)->Prop
 |[]=>True
 |(_,cs)::r=>(gY cs=true/\Ah cs)/\JV r
def JU(st:bp):Prop:=eg∉st.o/\JW st.t/\JV st.b
def Mw{f:af->af}(a:f .junk= .junk)(i:Nat):∀l:List (Nat×af),get i (l.map fun x=>(x.1,f x.2))=f (get i l)
 |[]=>by simp[get,a]
 |(j,p)::r=>by
  simp only[ha,get];split
  ·rfl
  ·exact Mw a i r
def IJ{f:List af->List af}(k:aB):∀l:List (aB×List af),ae k (l.map fun x=>(x.1,f x.2))=(ae k l).map f
 |[]=>rfl
 |(j,p)::r=>by
  simp only[ha,ae];split
  ·rfl
  ·exact IJ k r
def aby:∀{l:List (Nat×af)} (i:Nat),JW l->yl (get i l)
 |[],_,_=>by simp[get,yl]
 |(j,p)::r,i,h=>by
  simp only[get];split
  ·exact h.1
  ·exact aby i h.2
def abx:∀{l:List (aB×List af)} {k:aB} {cs:List af},JV l->ae k l=some cs->gY cs=true/\Ah cs
 |[],_,_,_,h=>by simp[ae]at h
 |(j,p)::r,k,cs,h,ab=>by
  simp only[ae]at ab;split at ab
  ·cases ab;exact h.1
  ·exact abx h.2 ab
def aqU{C:fq}{st:bp}{a:Act}{w:World}{ν:bd}(h:c9 C st a w ν)(aw:JU st):c9 C (wP st) a w (CP ν):=by
 obtain⟨G,E,A⟩:=aw;obtain⟨x,y,_⟩:=h.new eg ⟨trivial,G⟩;have m:∀k cs,ae k (FN st.b)=some cs->∃c,ae k st.b=some c/\cs=yk c:=fun k cs ab=>by
  rw[FN,IJ]at ab;cases s:ae k st.b with
  |none=>rw[s]at ab;cases ab
  |some c=>rw[s]at ab;cases ab;exact⟨c,rfl,rfl⟩
 have l:∀k,(ae k (FN st.b)).isSome->(ae k st.b).isSome:=fun k ab=>by obtain⟨cs,z⟩:=fx.1 ab;obtain⟨c,e,_⟩:=m k cs z;simp[e]
 refine⟨⟨h.good.alt,fun k cs ab=>?_,fun k bs bl J U=>h.good.inj k bs bl (l k J) (l bs U),fun g o a7=>by simp[wP,ae]at a7,fun g M n n' v v' bl a7=>by simp[wP,ae]at a7,fun g k n v bl a7=>by simp[wP,ae]at a7,h.good.one,fun bl K k j d=>?_⟩,
  ⟨h.fr.os,h.fr.tape,h.fr.output,h.fr.size,h.fr.block,h.fr.keep,h.fr.fresh,h.fr.obj,h.fr.obn,h.fr.row,h.fr.obr,fun k j bs dh b J U=>⟨J.1.trans U.1.symm,J.2.1.trans U.2.1.symm⟩,fun k j b d=>⟨.inl d.1,?_⟩,fun k j b d=>by rw[d.1];exact⟨x,y⟩,h.fr.sh⟩,h.defers,h.size,fun i=>?_,fun k ab=>?_⟩
 ·obtain⟨c,f,rfl⟩:=m k cs ab;obtain⟨bl,us,el,g1,g2,g3,g4,g5⟩:=h.good.box k c f;obtain⟨q,B⟩:=abx A f;rw[pj q]at g5;rw[pg q]at g4;have g6:=Qf c _ g5 B;have p:=wK g6;exact⟨bl,us,el,g1,g2,g3,by rw[pg p];exact g4,by rw[pj p];exact g6⟩
 ·obtain⟨_,_,o,ar⟩:=d;rcases K with⟨bs,f,t⟩|⟨g,n,v,f,_⟩
  ·obtain⟨c,u⟩:=fx.1 (l bs f);obtain⟨L,us,el,g1,g2,g3,_⟩:=h.good.box bs c u;rw[show(CP ν).bx bs=ν.bx bs from rfl,g1]at t;cases t;exact g3 o ar
  ·simp[wP,ae]at f
 ·obtain⟨_,_,o,ar⟩:=d;exact h.good.alt b o ar
 ·show aU w (CP ν) (get i (JX st.t)) _;rw[JX,Mw (by simp[lC])];exact abz _ _ (h.slot i) (aby i E)
 ·obtain⟨F,H⟩:=ab;have r:k≠eg/\k∉st.o:=by simpa[wP]using H
  obtain⟨m1,m2,_⟩:=h.new k ⟨F,r.2⟩;exact⟨m1,m2,fun j b d=>r.1 d.1⟩
end
section
open Go Go.RowKit
def X8{w:World}{A a:Nat->Nat->Prop}{b:Nat}(c:∀o,A b o->a b o):∀(us:List Value) (off:Nat),kY w A b off us->kY w a b off us
 |[],_,_=>trivial
 |_::us,off,h=>⟨⟨c _ h.1.1,h.1.2⟩,X8 c us (off+1) h.2⟩
mutual
def Hw{t:Bool}{w:World}{A f:Nat->Nat->Prop}:∀(p:af) (F:Nat->Prop) (v:Value),(∀b o,F b->A b o->f b o)->cZ t w A F p v->cZ t w f F p v
 | .int k n,_,_,_,h=>by simp only[cZ]at h⊢;exact h
 | .bool b,_,_,_,h=>by simp only[cZ]at h⊢;exact h
 | .str s,_,_,_,h=>by simp only[cZ]at h⊢;exact h
 | .slice sz tag xs,F,v,d,h=>by
  simp only[cZ]at h⊢;obtain⟨a,cap,J,U,q,e⟩:=h;refine⟨a,cap,J,U,q,?_⟩;rcases e with e|⟨b,off,us,G,r,i,g,m,l,j⟩
  ·exact .inl e
  ·exact .inr ⟨b,off,us,G,r,i,g,X8 (fun o=>d b o i) _ _ m,l,Vz sz xs G us (fun c o aw=>d c o (g c aw).1) j⟩
 | .agg cs,F,v,d,h=>by simp only[cZ]at h⊢;obtain⟨us,J,U⟩:=h;exact⟨us,J,VA cs F _ d U⟩
 | .junk,_,_,_,h=>by simp[cZ]at h
 | .ptr _ _,_,_,_,h=>by simp[cZ]at h
 | .eptr _,_,_,_,h=>by simp[cZ]at h
 | .iface _ _,_,_,_,h=>by simp[cZ]at h
 | .nilp,_,_,_,h=>by simp[cZ]at h
 | .tuple _,_,_,_,h=>by simp[cZ]at h
 | .func _ _,_,_,_,h=>by simp[cZ]at h
 | .gmap _,_,_,_,h=>by simp[cZ]at h
 | .row _ _ _,_,_,_,h=>by simp[cZ]at h
 | .rptr _ _ _ _ _,_,_,_,h=>by simp[cZ]at h
 | .hdm _ _,_,_,_,h=>by simp[cZ]at h
 | .hdi _ _ _,_,_,_,h=>by simp[cZ]at h
 | .cst _,_,_,_,h=>by simp[cZ]at h
def VA{t:Bool}{w:World}{A f:Nat->Nat->Prop}:∀(cs:List af) (F:Nat->Prop) (us:List Value),(∀b o,F b->A b o->f b o)->kF t w A F cs us->kF t w f F cs us
 |[],_,_,_,h=>by simp only[kF]at h⊢;exact h
 |c::cs,F,us,g,h=>by simp only[kF]at h⊢;obtain⟨u,i,e,d,J,⟨U,j,n⟩,⟨m,l⟩,k⟩:=h;exact⟨u,i,e,d,J,⟨U,j,n⟩,⟨Hw c e u (fun b o a=>g b o (U b a)) m,l⟩,VA cs d i (fun b o a=>g b o (j b a)) k⟩
def Vz{t:Bool}{w:World}{A f:Nat->Nat->Prop}(sz:Nat):∀(cs:List af) (F:Nat->Prop) (us:List Value),(∀b o,F b->A b o->f b o)->jZ t w A F sz cs us->jZ t w f F sz cs us
 |[],_,_,_,h=>by simp only[jZ]at h⊢;exact h
 |c::cs,F,us,g,h=>by simp only[jZ]at h⊢;obtain⟨u,i,e,d,J,⟨U,j,n⟩,⟨m,l⟩,k⟩:=h;exact⟨u,i,e,d,J,⟨U,j,n⟩,⟨Hw c e u (fun b o a=>g b o (U b a)) m,l⟩,Vz sz cs d i (fun b o a=>g b o (j b a)) k⟩
end
mutual
def jJ(N:List (aB×Nat)):af->af
 | .int k n=>.int k n
 | .bool b=>.bool b
 | .str s=>.str s
 | .slice sz tag xs=>match tag with
  | .tr k j=>if(k,j)∈N then .junk else .slice sz (.tr k j) (cf xs)
  | .lo k=>if(k,0)∈N then .junk else .slice sz (.lo k) (cf xs)
  | .nil=>.slice sz .nil []
  |_=>match xs with
   |[]=>.slice sz .no []
   |_=>.junk
 | .agg cs=>.agg (ox N cs)
 | .tuple cs=>.tuple (ox N cs)
 | .ptr k o=>.ptr k o
 | .nilp=>.nilp
 |_=>.junk
def ox(N:List (aB×Nat)):List af->List af
 |[]=>[]
 |x::xs=>jJ N x::ox N xs
end
def l3(ν:bd)(N:List (aB×Nat))(ω:Nat->be (Nat×Value)):bd:={A:=fun b o=>ν.A b o/\¬lz ν N b,bx:=ν.bx,ow:=fun k=>match k with| .obj m=>(match ω m with|some x=>some x|none=>ν.ow k)|k=>ν.ow k,tr:=fun k j b=>ν.tr k j b/\(k,j)∉N}
section
variable {w:World} {ν:bd} {N:List (aB×Nat)} {ω:Nat->be (Nat×Value)} (hO:∀k j bs dh b,ν.tr k j b->ν.tr bs dh b->k=bs/\j=dh)
include hO
theorem ab8{k:aB}{j:Nat}(d:(k,j)∉N){b o:Nat}(c:ν.tr k j b)(a:ν.A b o):(l3 ν N ω).A b o:=by refine⟨a,?_⟩;rintro⟨bs,dh,J,U⟩;obtain⟨rfl,rfl⟩:=hO k j bs dh b c U;exact d J
mutual
theorem KT:∀(p:af) (v:Value),aU w ν p v->aU w (l3 ν N ω) (jJ N p) v
 | .int k n,v,h=>by simpa only[aU,jJ]using h
 | .bool b,v,h=>by simpa only[aU,jJ]using h
 | .str s,v,h=>by simpa only[aU,jJ]using h
 | .slice sz tag xs,v,h=>by
  simp only[aU]at h;obtain⟨⟨a,cap,J,U,r,t⟩,q,_,m,l⟩:=h;have i:xs=[]->aU w (l3 ν N ω) (.slice sz .no []) v:=fun e=>by subst e;simp only[aU];exact⟨⟨a,cap,J,U,r,.inl trivial⟩,fun e=>(by cases e),fun _ e=>(by cases e),fun _ _ e=>(by cases e),fun _ e=>(by cases e)⟩
  simp only[jJ];cases tag with
  |tr k j=>
   simp only;split
   ·simp[aU]
   ·rename_i d;refine QP (tag:= .no) ?_ (vg xs);refine vR (A:=(l3 ν N ω).A) (fun _ _ h=>⟨h,rfl⟩) (fun _ _ _=>rfl) _ (ν.tr k j) _ v (fun b c=>⟨c,d⟩) ?_;exact Hw _ _ v (fun b o c f=>ab8 hO d c f) (DX .no v (m k j rfl))
  |lo k=>
   simp only;split
   ·simp[aU]
   ·rename_i d;refine Yj (tag:= .no) ?_ (vg xs);refine vR (A:=(l3 ν N ω).A) (fun _ _ h=>⟨h,rfl⟩) (fun _ _ _=>rfl) _ (ν.tr k 0) _ v (fun b c=>⟨c,d⟩) ?_;exact Hw _ _ v (fun b o c f=>ab8 hO d c f) (DX .no v (l k rfl))
  |nil=>have e:=q rfl;subst e;simp only[aU];exact⟨⟨none,0,rfl,Ψ,Ψ,Ψ⟩,Ψ,fun _ e=>(by cases e),fun _ _ e=>(by cases e),fun _ e=>(by cases e)⟩
  |no=>
   simp only;split
   ·exact i rfl
   ·simp[aU]
  |own g=>
   simp only;split
   ·exact i rfl
   ·simp[aU]
 | .agg cs,v,h=>by simp only[aU,jJ]at h⊢;obtain⟨us,J,U⟩:=h;exact⟨us,J,KU cs _ U⟩
 | .tuple cs,v,h=>by simp only[aU,jJ]at h⊢;obtain⟨us,J,U⟩:=h;exact⟨us,J,RI cs _ U⟩
 | .ptr k o,v,h=>by simp only[aU,jJ]at h⊢;exact h
 | .nilp,v,h=>by simp only[aU,jJ]at h⊢;exact h
 | .junk,_,_=>by simp[jJ,aU]
 | .eptr _,_,_=>by simp[jJ,aU]
 | .iface _ _,_,_=>by simp[jJ,aU]
 | .func _ _,_,_=>by simp[jJ,aU]
 | .gmap _,_,_=>by simp[jJ,aU]
 | .row _ _ _,_,_=>by simp[jJ,aU]
 | .rptr _ _ _ _ _,_,_=>by simp[jJ,aU]
 | .hdm _ _,_,_=>by simp[jJ,aU]
 | .hdi _ _ _,_,_=>by simp[jJ,aU]
 | .cst _,_,_=>by simp[jJ,aU]
theorem KU:∀(cs:List af) (us:List Value),cW w ν cs us->cW w (l3 ν N ω) (ox N cs) us
 |[],us,h=>by simpa only[cW,ox]using h
 |c::cs,us,h=>by simp only[cW,ox]at h⊢;obtain⟨u,a,J,⟨U,b⟩,d⟩:=h;exact⟨u,a,J,⟨KT c u U,b⟩,KU cs a d⟩
theorem RI:∀(cs:List af) (us:List Value),c7 w ν cs us->c7 w (l3 ν N ω) (ox N cs) us
 |[],us,h=>by simpa only[c7,ox]using h
 |c::cs,us,h=>by simp only[c7,ox]at h⊢;obtain⟨u,a,J,U,b⟩:=h;exact⟨u,a,J,KT c u U,RI cs a b⟩
end
end
end
section
open Go Go.RowKit
def uu(N:List (aB×Nat))(l:List (Nat×af)):List (Nat×af):=l.map fun x=>(x.1,jJ N x.2)
def sR(N:List (aB×Nat))(l:List (aB×List af)):List (aB×List af):=l.map fun x=>(x.1,ox N x.2)
def Cw:List (aB×List af)->Prop
 |[]=>True
 |(_,cs)::r=>gY cs=true/\Cw r
def Po:∀{l:List (aB×List af)} {k:aB} {cs:List af},Cw l->ae k l=some cs->gY cs=true
 |[],_,_,_,h=>by simp[ae]at h
 |(j,p)::r,k,cs,h,ab=>by
  simp only[ae]at ab;split at ab
  ·cases ab;exact h.1
  ·exact Po h.2 ab
def qX(st:bp)(s:Nat):af:=match get s st.t with
 | .ptr k 0=>(match ae k st.b with|some cs=>.agg cs|none=>.junk)
 |p=>p
def F4(base n:Nat):List aB:=(List.range' base n).map .obj
def sG(st:bp)(p:af)(base:Nat)(ε:Nat->Nat):bp:=⟨uu (tn p) st.t,sR (tn p) st.b,dR ε base (b7 p),st.n,F4 base (bF (b7 p))++st.o⟩
def sH(st:bp)(s base:Nat)(ε:Nat->Nat):bp:=match get s st.t with
 | .ptr k 0=>(match ae k st.b with|some cs=>{sG st (.agg cs) base ε with b:=cK k (fL base (cf cs)) (sR (tn (.agg cs)) st.b)}|none=>sG st .junk base ε)
 |p=>{sG st p base ε with t:=put s (dv base (b7 p)) (uu (tn p) st.t)}
def Ar(st:bp)(p:af)(base:Nat):Prop:=fm p/\(tn p).Nodup/\(∀m,.obj m∈st.o->m<base)/\Cw st.b
def Yy{base n:Nat}{k:aB}:k∈F4 base n↔∃m,k= .obj m/\base<=m/\m<base+n:=by simp only[F4,hb,List.mem_range'_1];exact⟨fun⟨m,h,e⟩=>⟨m,e.symm,h⟩,fun⟨m,e,h⟩=>⟨m,h,e.symm⟩⟩
def ad3(N:List (aB×Nat))(p:af):(match jJ N p with| .hdm _ _=>false| .hdi _ _ _=>false|_=>true)=true:=by
 cases p with
 |slice sz tag xs=>
  cases tag with
  |tr k j=>by_cases e:(k,j)∈N<;>simp[jJ,e]
  |lo k=>by_cases e:(k,0)∈N<;>simp[jJ,e]
  |_=>cases xs<;>rfl
 |_=>rfl
def apB(N:List (aB×Nat)):∀cs,gY (ox N cs)=true
 |[]=>rfl
 |c::cs=>by have:=ad3 N c;simp only[ox];cases h:jJ N c<;>simp_all[gY]
def aqF{C:fq}{st:bp}{a:Act}{w:World}{ν:bd}(h:c9 C st a w ν){k:aB}{cs cs':List af}(ab:ae k st.b=some cs)(i:gY cs=true)
  (p:∀bl us el,ν.bx k=some bl->w.heap[bl]? =some (.cells us el)->cW w ν cs us.toList->cW w ν cs' us.toList):c9 C {st with b:=cK k cs' st.b} a w ν:=by
 have d:∀j,(ae j (cK k cs' st.b)).isSome->(ae j st.b).isSome:=fun j c=>by
  rw[jm]at c;split at c
  ·rename_i e;subst e;simp[ab]
  ·exact c
 refine⟨⟨h.good.alt,fun j l c=>?_,fun j dh bl J U=>h.good.inj j dh bl (d j J) (d dh U),h.good.own,h.good.oinj,fun g j n v bl J U=>h.good.obx g j n v bl J (d j U),h.good.one,fun bl o=>h.good.otr bl (o.imp (fun⟨j,m,q⟩=>⟨j,d j m,q⟩) id)⟩,h.fr,h.defers,h.size,h.slot,h.new⟩;rw[jm]at c;split at c
 ·rename_i e;subst e;cases c;obtain⟨bl,us,el,g1,g2,g3,g4,g5⟩:=h.good.box k cs ab;rw[pj i]at g5;rw[pg i]at g4;have g6:=p bl us el g1 g4 g5;have f:=wK g6;exact⟨bl,us,el,g1,g2,g3,by rw[pg f];exact g4,by rw[pj f];exact g6⟩
 ·exact h.good.box j l c
def ab7{C:fq}{st:bp}{a:Act}{w:World}{ν:bd}(h:c9 C st a w ν)(bA:∀b o,C.ν0.A b o->b<C.w0.heap.size){p:af}{v:Value}{base:Nat}(bN:aU w ν p v)(aw:Ar st p base):
  ∃ε bo,c9 C (sG st p base ε) a w bo/\aU w bo (dv base (b7 p)) v/\bo.bx=ν.bx:=by
 obtain⟨bR,cp,dj,h7⟩:=aw;obtain⟨ε,ω,E,tr,R⟩:=QL (b7 p) _ v base (O0 h.fr.trd p v bN bR cp);have Z:∀m,base<=m->fresh st.n st.o (.obj m):=fun m hm=>⟨trivial,fun ab=>by have:=dj m ab;omega⟩;have V:∀m x,ω m=some x->ν.bx (.obj m)=none/\ν.ow (.obj m)=none/\∀j b,¬ν.tr (.obj m) j b:=fun m x hm=>h.new _ (Z m ((E.dom m).1 (by rw[hm];rfl)).1);have z:∀m x,ω m=some x->(l3 ν (tn p) ω).ow (.obj m)=some x:=fun m x hm=>by simp only[l3,hm]
 have hold:∀k n u,ν.ow k=some (n,u)->(l3 ν (tn p) ω).ow k=some (n,u):=fun k n u ab=>by
  cases k with
  |loc m=>exact ab
  |obj m=>
   simp only[l3];cases hm:ω m with
   |none=>exact ab
   |some x=>rw[(V m x hm).2.1]at ab;cases ab
 have G:∀k n u,(l3 ν (tn p) ω).ow k=some (n,u)->ν.ow k=some (n,u)\/ ∃m,k= .obj m/\ω m=some (n,u):=fun k n u ab=>by
  cases k with
  |loc m=>exact .inl ab
  |obj m=>
   simp only[l3]at ab;cases hm:ω m with
   |none=>rw[hm]at ab;exact .inl ab
   |some x=>rw[hm]at ab;exact .inr ⟨m,rfl,by rw[<-ab];exact hm⟩
 have Y:∀bl,lz ν (tn p) bl->C.w0.heap.size<=bl:=fun bl ⟨k,j,d,f⟩=>by have ab:k≠eg:=Zc p bR _ d;exact(h.fr.trb k j bl f).1.resolve_left ab
 have H:∀g o,ae g (dR ε base (b7 p))=some o->∃m,g= .obj m/\base<=m/\m<base+bF (b7 p)/\∃u us,ω m=some (o.n,u)/\w.ownsRow 0 o.el o.sz u o.n us/\∃xs,o.xs=some xs/\xs.length=o.n/\dw w (l3 ν (tn p) ω) o.sz xs us:=fun g o a7=>by
  obtain⟨m,e,K,P⟩:=u3 ε _ base g o a7;obtain⟨u,us,r,y,t⟩:=tr (l3 ν (tn p) ω) z g o a7;subst e;refine⟨m,rfl,K,P,u,us,?_,y,t⟩;rcases G _ _ _ r with q|⟨M,q,hq⟩
  ·rw[(h.new _ (Z m K)).2.1]at q;cases q
  ·cases q;exact hq
 have hZ:∀k cs,ae k (sR (tn p) st.b)=some cs->∃s,ae k st.b=some s/\cs=ox (tn p) s:=fun k cs ab=>by
  rw[sR,IJ]at ab;cases av:ae k st.b with
  |none=>rw[av]at ab;cases ab
  |some s=>rw[av]at ab;cases ab;exact⟨s,rfl,rfl⟩
 have F:∀k,(ae k (sR (tn p) st.b)).isSome->(ae k st.b).isSome:=fun k ab=>by obtain⟨cs,dz⟩:=fx.1 ab;obtain⟨s,e,_⟩:=hZ k cs dz;simp[e]
 have W:∀g n v bl,(ae g (dR ε base (b7 p))).isSome->(l3 ν (tn p) ω).ow g=some (n,v)->v.ownBlock=some bl->lz ν (tn p) bl:=fun g n v bl J U B=>by obtain⟨o,ar⟩:=fx.1 J;obtain⟨m,rfl,K,P,u,us,r,y,t⟩:=H g o ar;rw[z m _ r]at U;cases U;obtain⟨A,d,f⟩:=E.blk m _ _ r;rw[B]at d;cases d;exact f
 refine⟨ε,l3 ν (tn p) ω,⟨⟨fun bl o l=>h.good.alt bl o l.1,fun k cs ab=>?_,fun k bs bl J U=>h.good.inj k bs bl (F k J) (F bs U),fun g o a7=>?_,fun g fD n n' v v' bl J U B L Q di=>?_,fun g k n v bl J U B L Q=>?_,fun k=>?_,fun bl aJ k j c=>?_⟩,
  ⟨h.fr.os,h.fr.tape,h.fr.output,h.fr.size,h.fr.block,fun b o l=>⟨⟨(h.fr.keep b o l).1,fun c=>?_⟩,(h.fr.keep b o l).2⟩,fun b o l=>h.fr.fresh b o l.1,h.fr.obj,h.fr.obn,fun m n u hm=>?_,h.fr.obr,fun k j bs dh b J U=>h.fr.trd k j bs dh b J.1 U.1,fun k j b c=>h.fr.trb k j b c.1,fun k j b c=>⟨(h.fr.trn k j b c.1).1,?_⟩,h.fr.sh⟩,h.defers,h.size,fun i=>?_,fun k ab=>?_⟩,R _ z,rfl⟩
 ·obtain⟨s,d,rfl⟩:=hZ k cs ab;obtain⟨bl,us,el,g1,g2,g3,g4,g5⟩:=h.good.box k s d;have c2:=Po h7 d;rw[pj c2]at g5;rw[pg c2]at g4;have g6:=KU (N:=tn p) (ω:=ω) h.fr.trd s _ g5;have hJ:=wK g6;exact⟨bl,us,el,g1,g2,fun o l=>g3 o l.1,by rw[pg hJ];exact g4,by rw[pj hJ];exact g6⟩
 ·obtain⟨m,rfl,K,P,u,us,r,y,xs,t,dq,dK⟩:=H g o a7;obtain⟨bl,d,f⟩:=E.blk m _ _ r;have dB:∀A,u.ownBlock=some A->∀j,¬(l3 ν (tn p) ω).A A j:=fun A c j l=>by rw[d]at c;cases c;exact l.2 f
  exact⟨u,us,z m _ r,y,fun A c=>⟨.inr (by rw[d]at c;cases c;exact Y _ f),fun j l=>absurd l (dB A c j)⟩,fun xs' ad=>by rw[t]at ad;cases ad;exact⟨dq,dK,dB⟩⟩
 ·obtain⟨o,ar⟩:=fx.1 J;obtain⟨o',h9⟩:=fx.1 U;obtain⟨m,rfl,_,_,u,us,r,_⟩:=H g o ar;obtain⟨M,rfl,_,_,eM,b1,X,_⟩:=H fD o' h9;rw[z m _ r]at B;cases B;rw[z M _ X]at L;cases L;rw[E.inj m M _ _ _ _ bl r X Q di]
 ·obtain⟨O,S,_,f⟩:=W g n v bl J B L;exact h.good.otr bl (.inl ⟨k,F k U,Q⟩) O S f
 ·rcases h.good.one k with J|J
  ·exact .inl J
  ·cases ab:(l3 ν (tn p) ω).ow k with
   |none=>exact .inr rfl
   |some x=>
    rcases G k x.1 x.2 ab with U|⟨m,rfl,U⟩
    ·rw[J]at U;cases U
    ·exact .inl (V m _ U).1
 ·rcases aJ with⟨bs,d,f⟩|⟨g,n,v,d,f,bh⟩
  ·exact h.good.otr bl (.inl ⟨bs,F bs d,f⟩) k j c.1
  ·obtain⟨O,S,f1,f2⟩:=W g n v bl d f bh;obtain⟨rfl,rfl⟩:=h.fr.trd k j O S bl c.1 f2;exact c.2 f1
 ·have:=Y b c;have:=bA b o l;omega
 ·obtain⟨n',eM,d,f⟩:=h.fr.row m n u hm;exact⟨n',eM,hold _ _ _ d,f⟩
 ·have e:=(h.fr.trn k j b c.1).2;cases ab:(l3 ν (tn p) ω).ow k with
  |none=>rfl
  |some x=>
   rcases G k x.1 x.2 ab with U|⟨m,rfl,U⟩
   ·rw[e]at U;cases U
   ·exact absurd c.1 ((V m _ U).2.2 j b)
 ·show aU w (l3 ν (tn p) ω) (get i (uu (tn p) st.t)) _;rw[uu,Mw (by simp[jJ])];exact KT h.fr.trd _ _ (h.slot i)
 ·obtain⟨r,y⟩:=ab;have t:k∉F4 base (bF (b7 p))/\k∉st.o:=by simp only[sG,kg,not_or]at y;exact y
  obtain⟨m1,m2,m3⟩:=h.new k ⟨r,t.2⟩;refine⟨m1,?_,fun j b c=>m3 j b c.1⟩;cases ab:(l3 ν (tn p) ω).ow k with
  |none=>rfl
  |some x=>
   rcases G k x.1 x.2 ab with U|⟨m,rfl,U⟩
   ·rw[m2]at U;cases U
   ·exact absurd (Yy.2 ⟨m,rfl,(E.dom m).1 (by rw[U];rfl)⟩) t.1
def arQ{C:fq}{st:bp}{a:Act}{w:World}{ν:bd}(h:c9 C st a w ν)(m:∀b o,C.ν0.A b o->b<C.w0.heap.size){s base:Nat}(aw:Ar st (qX st s) base):∃ε bo,c9 C (sH st s base ε) a w bo:=by
 have f:qX st s=get s st.t->∃ε bo,c9 C {sG st (get s st.t) base ε with t:=put s (dv base (b7 (get s st.t))) (uu (tn (get s st.t)) st.t)} a w bo:=fun e=>by rw[e]at aw;obtain⟨ε,bo,j,i,_⟩:=ab7 h m (h.slot s) aw;exact⟨ε,bo,JE j i⟩
 cases ab:get s st.t with
 |ptr k off=>
  cases off with
  |zero=>
   cases c:ae k st.b with
   |none=>simp only[qX,ab,c]at aw;exact absurd aw.1 (by simp[fm])
   |some cs=>
    have d:qX st s= .agg cs:=by simp only[qX,ab,c]
    have g:∀ε,sH st s base ε={sG st (.agg cs) base ε with b:=cK k (fL base (cf cs)) (sR (tn (.agg cs)) st.b)}:=fun ε=>by simp only[sH,ab,c]
    rw[d]at aw;simp only[g];obtain⟨bl,us,el,g1,g2,g3,g4,g5⟩:=h.good.box k cs c;have l:=Po aw.2.2.2 c;rw[pj l]at g5;rw[pg l]at g4;obtain⟨ε,bo,j,i,q⟩:=ab7 h m (p:= .agg cs) (v:= .agg us) (by simp only[aU];exact⟨us,rfl,g5⟩) aw;have n:ae k (sR (tn (.agg cs)) st.b)=some (ox (tn (.agg cs)) cs):=by rw[sR,IJ,c];rfl
    refine⟨ε,bo,aqF j n (apB _ _) fun z A y f1 f2 _=>?_⟩;rw[q,g1]at f1;cases f1;rw[g4]at f2;cases f2;simp only[dv,b7,aU]at i;obtain⟨x,r,u⟩:=i;cases r;exact u
  |succ off=>
   have d:qX st s=get s st.t:=by simp only[qX,ab]
   have g:∀ε,sH st s base ε={sG st (get s st.t) base ε with t:=put s (dv base (b7 (get s st.t))) (uu (tn (get s st.t)) st.t)}:=fun ε=>by simp only[sH,ab]
   simp only[g];exact f d
 |_=>
  have d:qX st s=get s st.t:=by simp only[qX,ab]
  have g:∀ε,sH st s base ε={sG st (get s st.t) base ε with t:=put s (dv base (b7 (get s st.t))) (uu (tn (get s st.t)) st.t)}:=fun ε=>by simp only[sH,ab]
  simp only[g];exact f d
end
section
open Go Go.RowKit
inductive aY where
 |of (c:C)
 |sq (c:C) (d:aY)
 |sl (d:aY)
 |th (s:Nat) (d:aY)
def pL(P:cI)(ob:List aB):aY->(Exit->bp->Prop)->bp->Prop
 | .of c,Q,st=>df P ob c Q st
 | .sq c d,Q,st=>df P ob c (fun e st'=>match e with| .normal=>pL P ob d Q st'|e=>Q e st') st
 | .sl d,Q,st=> ∃st',gp ob st st'/\JU st'/\pL P ob d Q (wP st')
 | .th s d,Q,st=> ∃st' base,gp ob st st'/\Ar st' (qX st' s) base/\∀ε,pL P ob d Q (sH st' s base ε)
def yV(N:Nat)(aT:List (Nat×ev)):aY->Code->Bool
 | .of c,code=>hX N aT c code
 | .sq c d,.seq x y=>hX N aT c x&&yV N aT d y
 | .sl d,code=>yV N aT d code
 | .th _ d,code=>yV N aT d code
 |_,_=>false
def Hi{P:cI}(hm:P.follows .mixedOrders=true){aT:List (Nat×ev)}(f:h1 P aT=true){X:fq}(i:∀b o,X.ν0.A b o->b<X.w0.heap.size):∀(d:aY) (code:Code) (Q:Exit->bp->Prop) (st:bp),yV X.N aT d code=true->pL P X.ob d Q st->Kx P X code Q st
 | .of c,code,Q,st,ar,he=>qt hm f c code Q st ar he
 | .sq c d,code,Q,st,ar,he=>by
  cases code<;>try(simp[yV]at ar;done)
  rename_i k l;simp only[yV,cR]at ar;intro a w ν g;refine wp_seq ?_;refine wp_mono (qt hm f c k _ st ar.1 he a w ν g) fun e br w' m=>?_;obtain⟨st',bo,j,h⟩:=m;cases e with
  |normal=>exact Hi hm f i d l Q st' ar.2 j br w' bo h
  |_=>exact⟨st',bo,j,h⟩
 | .sl d,code,Q,st,ar,he=>fun a w ν g=>by obtain⟨st',J,U,n⟩:=he;exact Hi hm f i d code Q _ ar n a w _ (aqU (g.weaker J) U)
 | .th s d,code,Q,st,ar,he=>fun a w ν g=>by obtain⟨st',base,hw,J,U⟩:=he;obtain⟨ε,bo,h⟩:=arQ (g.weaker hw) i J;exact Hi hm f i d code Q _ ar (U ε) a w bo h
def Hs(aT:List (Nat×ev))(d:aY)(ea:List bW)(OK:Nat)(fn:Func):Bool:=
 match fn.body with
 |some code=>yV fn.ntmps aT d code&&p5 aT ea fn.results.toList&& !(fn.name== "runtime.NumGoroutine")&&decide (OK<=fn.ntmps)
 |none=>false
def bH.mkD{P:cI}(hm:P.follows .mixedOrders=true){aT:List (Nat×ev)}(c:h1 P aT=true){f:FuncId}{fn:Func}(r:P.funcs[f]? =some fn){d:aY}{b:List bW}{n:Nat}(a:Hs aT d b n fn=true)
  {args:List af} (m:args.length<=n) {s:cT} (h:h0 s) {Q:af->cT->Prop} (he:eI args->(∀j cs,ae j s.b=some cs->gY cs=true->eJ cs)->pL P (cL s) d (c5 b s Q) ⟨je 0 args,s.b,s.e,0,cL s⟩):bH P f args s Q:=by
 unfold Hs at a;split at a
 ·rename_i code p;simp only[cR,gz,sN]at a;obtain⟨⟨⟨J,U⟩,o⟩,q⟩:=a;exact bH.ofW c r p o U (kE m q) h fun X g e l i k=>Hi hm c l d code _ _ (by rw[g];exact J) (by rw[e];exact he i k)
 ·cases a
def bT.mkD{P:cI}(hm:P.follows .mixedOrders=true){aT:List (Nat×ev)}(e:h1 P aT=true){f:FuncId}{fn:Func}(h:P.funcs[f]? =some fn){d:aY}{a:List bW}{n:Nat}(b:Hs aT d a n fn=true)
  {args:List af} (c:args.length<=n) {r:af} (g:az (fun _=>er) r) (he:eI args->pL P [] d (bZ a r) ⟨je 0 args,[],[],0,[]⟩):bT P f args r:=by
 refine bH.mkD hm e h b c sw fun J _=>?_;rw[<-Rn g];exact he J
def Gx(P:cI)(ob:List aB)(d:aY)(Q:Exit->bp->Prop)(e:Exit)(st:bp):Prop:=match e with
 | .normal=>pL P ob d Q st
 |e=>Q e st
section
variable {P:cI} {ob:List aB} {st:bp} {Q:Exit->bp->Prop} {c:C} {d:aY}
@[simp]def atI:Gx P ob d Q .normal st=pL P ob d Q st:=rfl
@[simp]def atJ:Gx P ob d Q .ret st=Q .ret st:=rfl
@[simp]def atH{n:Nat}:Gx P ob d Q (.exit n) st=Q (.exit n) st:=rfl
@[simp]def auK:pL P ob (.of c) Q st=df P ob c Q st:=rfl
@[simp]def auL:pL P ob (.sq c d) Q st=df P ob c (Gx P ob d Q) st:=by simp only[pL];congr 1
def af9(st':bp)(hw:gp ob st st')(aw:JU st')(h:pL P ob d Q (wP st')):pL P ob (.sl d) Q st:=⟨st',hw,aw,h⟩
def LZ{s:Nat}(st':bp)(base:Nat)(hw:gp ob st st')(aw:Ar st' (qX st' s) base)(h:∀ε,pL P ob d Q (sH st' s base ε)):pL P ob (.th s d) Q st:=⟨st',base,hw,aw,h⟩
end
end
section
open Go Go.RowKit
def LC:∀(xs ys:List af),dc (xs++ys)=dc xs+dc ys
 |[],ys=>by simp[dc]
 |x::xs,ys=>by simp[dc,LC xs ys];omega
def A3:∀(b:Nat) (xs ys:List af),fL b (xs++ys)=fL b xs++fL (b+dc xs) ys
 |b,[],ys=>by simp[fL,dc]
 |b,x::xs,ys=>by simp[fL,dc,A3 _ xs ys,Nat.add_assoc]
def FI(ε:Nat->Nat):∀(b:Nat) (xs ys:List af),gP ε b (xs++ys)=gP ε b xs++gP ε (b+dc xs) ys
 |b,[],ys=>by simp[gP,dc]
 |b,x::xs,ys=>by simp[gP,dc,FI ε _ xs ys,Nat.add_assoc]
mutual
def G9(ε:Nat->Nat):∀(p:af) (b m:Nat),b<=m->m<b+bF p->∃o,ae (.obj m) (dR ε b p)=some o
 | .slice sz t (x::xs),b,m,J,U=>by
  simp only[bF]at U;simp only[dR,ae];by_cases e:b=m
  ·subst e;exact⟨_,if_pos rfl⟩
  ·rw[if_neg (by simpa using e),n4];by_cases a:m<b+1+bF x
   ·obtain⟨o,ar⟩:=G9 ε x (b+1) m Ω a;exact⟨o,by rw[ar]⟩
   ·obtain⟨o,ar⟩:=LK ε xs (b+1+bF x) m Ω Ω;cases c:ae (.obj m) (dR ε (b+1) x)with
    |some y=>exact⟨y,rfl⟩
    |none=>exact⟨o,ar⟩
 | .agg cs,b,m,J,U=>by simp only[bF,dR]at U⊢;exact LK ε cs b m J U
 | .slice _ _ [],_,_,J,U=>by simp only[bF]at U;omega
 | .int _ _,_,_,J,U=>by simp only[bF]at U;omega
 | .bool _,_,_,J,U=>by simp only[bF]at U;omega
 | .str _,_,_,J,U=>by simp only[bF]at U;omega
 | .junk,_,_,J,U=>by simp only[bF]at U;omega
 | .ptr _ _,_,_,J,U=>by simp only[bF]at U;omega
 | .eptr _,_,_,J,U=>by simp only[bF]at U;omega
 | .iface _ _,_,_,J,U=>by simp only[bF]at U;omega
 | .nilp,_,_,J,U=>by simp only[bF]at U;omega
 | .tuple _,_,_,J,U=>by simp only[bF]at U;omega
 | .func _ _,_,_,J,U=>by simp only[bF]at U;omega
 | .gmap _,_,_,J,U=>by simp only[bF]at U;omega
 | .row _ _ _,_,_,J,U=>by simp only[bF]at U;omega
 | .rptr _ _ _ _ _,_,_,J,U=>by simp only[bF]at U;omega
 | .hdm _ _,_,_,J,U=>by simp only[bF]at U;omega
 | .hdi _ _ _,_,_,J,U=>by simp only[bF]at U;omega
 | .cst _,_,_,J,U=>by simp only[bF]at U;omega
def LK(ε:Nat->Nat):∀(a:List af) (b m:Nat),b<=m->m<b+dc a->∃o,ae (.obj m) (gP ε b a)=some o
 |[],b,m,J,U=>by simp only[dc]at U;omega
 |x::xs,b,m,J,U=>by
  simp only[dc]at U;simp only[gP];rw[n4];by_cases c:m<b+bF x
  ·obtain⟨o,ar⟩:=G9 ε x b m J c;exact⟨o,by rw[ar]⟩
  ·obtain⟨o,ar⟩:=LK ε xs (b+bF x) m Ω Ω;cases d:ae (.obj m) (dR ε b x)with
   |some y=>exact⟨y,rfl⟩
   |none=>exact⟨o,ar⟩
end
def B5{ε:Nat->Nat}{p:af}{b m:Nat}(h:m<b\/b+bF p<=m):ae (.obj m) (dR ε b p)=none:=by
 cases ab:ae (.obj m) (dR ε b p)with
 |none=>rfl
 |some o=>obtain⟨a,e,c,d⟩:=u3 ε p b _ o ab;cases e;omega
def Yk{ε:Nat->Nat}{p:List af}{b m:Nat}(h:m<b\/b+dc p<=m):ae (.obj m) (gP ε b p)=none:=by
 cases ab:ae (.obj m) (gP ε b p)with
 |none=>rfl
 |some o=>obtain⟨a,e,c,d⟩:=B4 ε p b _ o ab;cases e;omega
def amp{ε:Nat->Nat}{l r:List af}{y:af}{b:Nat}{k:aB}{o:dW}(h:ae k (dR ε (b+dc l) y)=some o):ae k (gP ε b (l++y::r))=some o:=by obtain⟨m,rfl,a,c⟩:=u3 ε y _ k o h;rw[FI,n4,Yk Ω];simp only[gP];rw[n4,h]
def amq{ε:Nat->Nat}{l r:List af}{y y':af}{b:Nat}(aw:bF y'=bF y){k:aB}{o:dW}(h:ae k (gP ε b (l++y'::r))=some o):
  ae k (dR ε (b+dc l) y')=some o\/(ae k (dR ε (b+dc l) y)=none/\ae k (dR ε (b+dc l) y')=none/\ae k (gP ε b (l++y::r))=some o):=by
 obtain⟨m,rfl,c,d⟩:=B4 ε _ _ k o h;simp only[FI,gP,n4,aw]at h⊢;by_cases J:m<b+dc l
 ·rw[B5 (p:=y) (.inl J),B5 (p:=y') (.inl J)];refine .inr ⟨rfl,rfl,?_⟩;rw[B5 (p:=y') (.inl J)]at h;exact h
 ·rw[Yk (p:=l) (.inr Ω)]at h⊢;by_cases U:m<b+dc l+bF y
  ·obtain⟨o',a⟩:=G9 ε y' (b+dc l) m Ω Ω;rw[a]at h⊢;exact .inl h
  ·rw[B5 (p:=y) (.inr Ω),B5 (p:=y') (.inr Ω)];rw[B5 (p:=y') (.inr Ω)]at h;exact .inr ⟨rfl,rfl,h⟩
end
section
open Go Go.RowKit
section
variable (c8:Int->List cJ)
mutual
def dJ:af->Int->af×Int
 | .int a _,k=>(.int a k,k+1)
 | .str _,k=>(.str (c8 k),k+1)
 | .slice sz t xs,k=>(.slice sz t (bD xs k).1,(bD xs k).2)
 | .agg cs,k=>(.agg (bD cs k).1,(bD cs k).2)
 |p,k=>(p,k)
def bD:List af->Int->List af×Int
 |[],k=>([],k)
 |x::xs,k=>((dJ x k).1::(bD xs (dJ x k).2).1,(bD xs (dJ x k).2).2)
end
def kL:∀(xs:List af) (k:Int),(bD c8 xs k).1.length=xs.length
 |[],k=>by simp[bD]
 |x::xs,k=>by simp[bD,kL xs]
mutual
def Uf:∀(p:af) (k:Int),bF (dJ c8 p k).1=bF p
 | .int _ _,k=>by simp[dJ,bF]
 | .str _,k=>by simp[dJ,bF]
 | .slice _ _ [],k=>by simp[dJ,bD,bF]
 | .slice _ _ (x::xs),k=>by simp[dJ,bD,bF,Uf x,mC xs]
 | .agg cs,k=>by simp[dJ,bF,mC cs]
 | .bool _,k=>by simp[dJ]
 | .junk,k=>by simp[dJ]
 | .ptr _ _,k=>by simp[dJ]
 | .eptr _,k=>by simp[dJ]
 | .iface _ _,k=>by simp[dJ]
 | .nilp,k=>by simp[dJ]
 | .tuple _,k=>by simp[dJ]
 | .func _ _,k=>by simp[dJ]
 | .gmap _,k=>by simp[dJ]
 | .row _ _ _,k=>by simp[dJ]
 | .rptr _ _ _ _ _,k=>by simp[dJ]
 | .hdm _ _,k=>by simp[dJ]
 | .hdi _ _ _,k=>by simp[dJ]
 | .cst _,k=>by simp[dJ]
def mC:∀(a:List af) (k:Int),dc (bD c8 a k).1=dc a
 |[],k=>by simp[bD]
 |x::xs,k=>by simp[bD,dc,Uf x,mC xs]
end
def IX:∀(xs ys:List af) (k:Int),bD c8 (xs++ys) k=((bD c8 xs k).1++(bD c8 ys (bD c8 xs k).2).1,(bD c8 ys (bD c8 xs k).2).2)
 |[],ys,k=>by simp[bD]
 |x::xs,ys,k=>by simp[bD,IX xs ys]
mutual
def am0:∀(p:af) (k:Int),k<=(dJ c8 p k).2
 | .int _ _,k=>by simp[dJ];omega
 | .str _,k=>by simp[dJ];omega
 | .slice _ _ xs,k=>by simp only[dJ];exact mn xs k
 | .agg cs,k=>by simp only[dJ];exact mn cs k
 | .bool _,k=>by simp[dJ]
 | .junk,k=>by simp[dJ]
 | .ptr _ _,k=>by simp[dJ]
 | .eptr _,k=>by simp[dJ]
 | .iface _ _,k=>by simp[dJ]
 | .nilp,k=>by simp[dJ]
 | .tuple _,k=>by simp[dJ]
 | .func _ _,k=>by simp[dJ]
 | .gmap _,k=>by simp[dJ]
 | .row _ _ _,k=>by simp[dJ]
 | .rptr _ _ _ _ _,k=>by simp[dJ]
 | .hdm _ _,k=>by simp[dJ]
 | .hdi _ _ _,k=>by simp[dJ]
 | .cst _,k=>by simp[dJ]
def mn:∀(a:List af) (k:Int),k<=(bD c8 a k).2
 |[],k=>by simp[bD]
 |x::xs,k=>by have J:=am0 x k;have U:=mn xs (dJ c8 x k).2;simp only[bD];omega
end
end
end
section
open Go Go.RowKit
inductive jE:af->Prop
 |mk (a b:Int) (s:List cJ) (ys:List af):(∀y∈ys,jE y)->jE (.agg [.int .i64 a,.int .i64 b,.str s,.slice 4 .no ys])
mutual
def CW:af->Nat
 | .slice _ _ xs=>qW xs
 | .agg cs=>1+qW cs
 |_=>0
def qW:List af->Nat
 |[]=>0
 |x::xs=>CW x+qW xs
end
def J9:∀{xs:List af} {x:af},x∈xs->CW x<=qW xs
 |y::ys,x,h=>by
  rcases gJ.1 h with rfl|h
  ·simp only[qW];omega
  ·have:=J9 h;simp only[qW];omega
def jE.inv{p:af}(h:jE p):∃a b s ys,p= .agg [.int .i64 a,.int .i64 b,.str s,.slice 4 .no ys]/\(∀y∈ys,jE y)/\CW p=1+qW ys:=by
 cases h with
 |mk a b s ys h=>exact⟨a,b,s,ys,rfl,h,by simp[CW,qW]⟩
def FK{ε:Nat->Nat}{p:af}{b:Nat}(k:aB):(ae k (dR ε b p)).isSome=true↔∃m,k= .obj m/\b<=m/\m<b+bF p:=by
 constructor
 ·intro h;obtain⟨o,ar⟩:=fx.1 h;exact u3 ε p b k o ar
 ·rintro⟨m,rfl,J,U⟩;obtain⟨o,ar⟩:=G9 ε p b m J U;rw[ar];rfl
def rng(b c:Nat)(k:aB):Prop:= ∃m,k= .obj m/\b<=m/\m<c
def CN{b c b2 a:Nat}(J:b2<=b)(U:c<=a)(k:aB)(h:rng b c k):rng b2 a k:=by obtain⟨m,e,d,f⟩:=h;exact⟨m,e,Ω,Ω⟩
mutual
def n2:∀(p:af) (b:Nat),cP p->az (rng b (b+bF p)) (dv b p)
 | .slice sz t [],b,h=>by simp[dv,az,aH]
 | .slice sz t (x::xs),b,h=>by simp only[dv,az,bF];exact⟨b,rfl,Ω,Ω⟩
 | .agg cs,b,h=>by simp only[dv,az,bF,cP]at h⊢;exact N2 cs b h
 | .int _ _,_,_=>by simp[dv,az]
 | .bool _,_,_=>by simp[dv,az]
 | .str _,_,_=>by simp[dv,az]
 | .junk,_,h=>by simp[cP]at h
 | .ptr _ _,_,h=>by simp[cP]at h
 | .eptr _,_,h=>by simp[cP]at h
 | .iface _ _,_,h=>by simp[cP]at h
 | .nilp,_,h=>by simp[cP]at h
 | .tuple _,_,h=>by simp[cP]at h
 | .func _ _,_,h=>by simp[cP]at h
 | .gmap _,_,h=>by simp[cP]at h
 | .row _ _ _,_,h=>by simp[cP]at h
 | .rptr _ _ _ _ _,_,h=>by simp[cP]at h
 | .hdm _ _,_,h=>by simp[cP]at h
 | .hdi _ _ _,_,h=>by simp[cP]at h
 | .cst _,_,h=>by simp[cP]at h
def N2:∀(a:List af) (b:Nat),dX a->aH (rng b (b+dc a)) (fL b a)
 |[],b,h=>by simp[fL,aH]
 |x::xs,b,h=>by simp only[dX]at h;simp only[fL,aH,dc];exact⟨tD (CN Ω Ω) _ (n2 x b h.1),jl (CN Ω Ω) _ (N2 xs _ h.2)⟩
end
def EU{S T:aB->Prop}(h:∀k,S k->T k){o:dW}(ab:dV S o):dV T o:=fun xs a=>jl h _ (ab xs a)
mutual
def N9{ε:Nat->Nat}:∀(p:af) (b:Nat),cP p->∀k o,ae k (dR ε b p)=some o->dV (rng b (b+bF p)) o
 | .slice sz t (x::xs),b,h,k,o,ab=>by
  simp only[cP]at h;simp only[dR,ae]at ab;simp only[bF];split at ab
  ·cases ab;intro ys a;cases a;have:=N2 (x::xs) (b+1) h.2;simp only[dc,fL]at this;exact jl (CN Ω Ω) _ this
  ·have:=N8 (ε:=ε) (x::xs) (b+1) h.2 k o (by simpa only[gP]using ab);simp only[dc]at this;exact EU (CN Ω Ω) this
 | .agg cs,b,h,k,o,ab=>by simp only[dR,bF,cP]at h ab⊢;exact N8 cs b h k o ab
 | .slice _ _ [],_,_,_,_,h=>by simp[dR,ae]at h
 | .int _ _,_,_,_,_,h=>by simp[dR,ae]at h
 | .bool _,_,_,_,_,h=>by simp[dR,ae]at h
 | .str _,_,_,_,_,h=>by simp[dR,ae]at h
 | .junk,_,h,_,_,_=>by simp[cP]at h
 | .ptr _ _,_,h,_,_,_=>by simp[cP]at h
 | .eptr _,_,h,_,_,_=>by simp[cP]at h
 | .iface _ _,_,h,_,_,_=>by simp[cP]at h
 | .nilp,_,h,_,_,_=>by simp[cP]at h
 | .tuple _,_,h,_,_,_=>by simp[cP]at h
 | .func _ _,_,h,_,_,_=>by simp[cP]at h
 | .gmap _,_,h,_,_,_=>by simp[cP]at h
 | .row _ _ _,_,h,_,_,_=>by simp[cP]at h
 | .rptr _ _ _ _ _,_,h,_,_,_=>by simp[cP]at h
 | .hdm _ _,_,h,_,_,_=>by simp[cP]at h
 | .hdi _ _ _,_,h,_,_,_=>by simp[cP]at h
 | .cst _,_,h,_,_,_=>by simp[cP]at h
def N8{ε:Nat->Nat}:∀(a:List af) (b:Nat),dX a->∀k o,ae k (gP ε b a)=some o->dV (rng b (b+dc a)) o
 |[],b,h,k,o,ab=>by simp[gP,ae]at ab
 |x::xs,b,h,k,o,ab=>by
  simp only[dX]at h;simp only[gP,n4]at ab;simp only[dc];cases J:ae k (dR ε b x)with
  |some y=>rw[J]at ab;cases ab;exact EU (CN Ω Ω) (N9 x b h.1 k _ J)
  |none=>rw[J]at ab;exact EU (CN Ω Ω) (N8 xs _ h.2 k _ ab)
end
abbrev c1(ε:Nat->Nat)(b:Nat)(p:af):cT:=⟨[],dR ε b p⟩
def Di{ε:Nat->Nat}{b:Nat}{p:af}(k:aB):aM (c1 ε b p) k↔rng b (b+bF p) k:=by unfold aM rng;rw[FK];simp[ae]
def KJ(ε:Nat->Nat)(b:Nat)(p:af):h0 (c1 ε b p):=by
 refine⟨fun m=>by simp[ae],fun m=>?_⟩;cases h:ae (.loc m) (dR ε b p)with
 |none=>rfl
 |some o=>obtain⟨a,e,_⟩:=u3 ε p b _ o h;cases e
def ou{ε:Nat->Nat}{b:Nat}{p:af}(h:cP p):eA (c1 ε b p):=⟨KJ ε b p,fun k cs ab=>by simp[ae]at ab,fun k o ab=>EU (fun k ab=>(Di k).2 ab) (N9 p b h k o ab)⟩
def oY{ε:Nat->Nat}{b:Nat}{p q:af}(h:bF q=bF p):Same (c1 ε b p) (c1 ε b q):=⟨fun k=>rfl,fun k=>by rw[q2,FK,FK,h]⟩
def adD{ε:Nat->Nat}{b:Nat}{p:af}(h:cP p):az (aM (c1 ε b p)) (dv b p):=tD (fun k ab=>(Di k).2 ab) _ (n2 p b h)
def adC{ε:Nat->Nat}{b:Nat}{p:af}{k:aB}:k∈cL (c1 ε b p)↔rng b (b+bF p) k:=by rw[<-Di (ε:=ε)];exact⟨NJ,fun h=>rH h⟩
def CallDo.sub{P:cI}{n:Nat}{args:List af}{st:bp}{d:be Nat}{K:bp->Prop}{ε:Nat->Nat}{b:Nat}{l r:List af}{y y' f:af}(s:cP y)(aw:bF y'=bF y)
  (t:bH P n args (c1 ε (b+dc l) y) fun g i=>g=f/\i=c1 ε (b+dc l) y')
  (he:∀k o,ae k (gP ε b (l++y::r))=some o->ae k st.e=some o) (ab:aH (rng (b+dc l) (b+dc l+bF y)) args)
  (h:∀a,(∀k o,ae k (gP ε b (l++y'::r))=some o->ae k a=some o)->(∀k,¬rng (b+dc l) (b+dc l+bF y) k->ae k a=ae k st.e)->K ⟨e6 d f st.t,st.b,a,st.n,st.o++cL (c1 ε (b+dc l) y')⟩):CallDo P n args st d K:=by
 refine CallDo.ob t (ou s) (fun k cs ab=>by simp[ae]at ab) (fun k o ab=>he k o (amp ab)) (jl (fun k ab=>(Di k).2 ab) _ ab) ?_;rintro g i ⟨rfl,rfl⟩;refine⟨oY aw,?_⟩;simp only[C8,List.append_nil];refine h _ (fun k o ab=>?_) fun k ab=>?_
 ·rw[n4,tF];rcases amq aw ab with J|⟨J,U,q⟩
  ·have:(ae k (dR ε (b+dc l) y)).isSome=true:=by have:=FK (ε:=ε) (p:=y') (b:=b+dc l) k;rw[FK,<-aw,<-this,J];rfl
   rw[this];simp[J]
  ·rw[J];simp[he k o q]
 ·have J:ae k (dR ε (b+dc l) y)=none:=by
   cases c:ae k (dR ε (b+dc l) y)with
   |none=>rfl
   |some o=>exact absurd (u3 ε y _ k o c) ab
  have U:ae k (dR ε (b+dc l) y')=none:=by
   cases c:ae k (dR ε (b+dc l) y')with
   |none=>rfl
   |some o=>obtain⟨m,e,j,u⟩:=u3 ε y' _ k o c;exact absurd ⟨m,e,j,Ω⟩ ab
  rw[n4,tF,J,U];simp;cases ae k st.e<;>rfl
def fJ.val{P:cI}{f:FuncId}{args:List af}{r:Nat->af}(h:fJ P f args r)(ab:az (fun _=>er) (b7 (r 0)):=by simp[b7,az,aH]):bT P f args (b7 (r 0)):=by
 intro w ν bm J U B;have hm:∀(e:Ending) (w':World),(∃v d a bo,e= .returned v/\(d=r 0/\a=⟨[],[]⟩)/\aU w' bo d v/\Good (fun bl=>fB ν ⟨[],[]⟩ bl\/w.heap.size<=bl) w' bo a.b a.e/\A6 (some 0) bo a/\h0 a/\pC ⟨w,ν,fB ν ⟨[],[]⟩,0,cL ⟨[],[]⟩⟩ w' bo)->
   (∃v d a bo,e= .returned v/\(d=b7 (r 0)/\a=⟨[],[]⟩)/\aU w' bo d v/\Good (fun bl=>fB ν ⟨[],[]⟩ bl\/w.heap.size<=bl) w' bo a.b a.e/\pM bo a/\h0 a/\pC ⟨w,ν,fB ν ⟨[],[]⟩,0,cL ⟨[],[]⟩⟩ w' bo):=by
  rintro e w' ⟨v,d,a,bo,t,⟨rfl,rfl⟩,a3,a4,a5,A,c⟩;have q:∀k,ν.bx k=none:=fun k=>(U k).1 rfl;have s:∀k,ν.ow k=none:=fun k=>(U k).2.1 rfl;refine⟨v,_,⟨[],[]⟩,bo.cut fun _=>er,t,⟨rfl,rfl⟩,vd (oi.cut _ w' bo) _ _ ab (yh _ v a3),a4.cut (fun k cs i=>by simp[ae]at i) (fun k o i=>by simp[ae]at i) (fun bl y _=>y),fun k=>?_,sw,
   ⟨c.os,c.tape,c.output,c.size,c.block,c.keep,c.fresh,fun n b g=>?_,c.obn,fun m n u hm=>?_,c.obr,fun k j bs dh b l _=>l.1.elim,fun k j b g=>g.1.elim,fun k j b g=>g.1.elim,c.sh⟩⟩
  ·obtain⟨l,z,x⟩:=bd.cut_no (ν:=bo) (S:=fun _=>er) (k:=k) (fun h=>h);exact⟨fun _=>l,fun _=>z,x⟩
  ·rw[q]at g;cases g
  ·rw[s]at hm;cases hm
 rcases h 0 w ν bm J U B with⟨p,aw⟩|⟨v,w',aw,E⟩
 ·exact .inl ⟨p,aw.mono hm⟩
 ·exact .inr ⟨v,w',aw,hm _ _ E⟩
def j3{α:Type}(f:α->Nat->af)(l:List (α×Nat)):List af:=l.map fun p=>f p.1 p.2
@[simp]def awT{α:Type}(f:α->Nat->af):j3 f []=[]:=rfl
@[simp]def awS{α:Type}(f:α->Nat->af)(l:List (α×Nat)):(j3 f l).length=l.length:=by simp[j3]
@[simp]def awU{α:Type}(f:α->Nat->af)(l:List (α×Nat))(x:α)(n:Nat):j3 f (l++[(x,n)])=j3 f l++[f x n]:=by simp[j3]
def Ck(n:Nat):aB.loc n≠eg:=fun e=>by unfold eg at e;cases e
structure q6 {α:Type} (n:Nat) (l:List (α×Nat)):Prop where
 nd:(l.map (·.2)).Nodup
 lt:∀p∈l,p.2<n
def q6.nil{α:Type}(n:Nat):q6 n ([]:List (α×Nat)):=⟨Ψ,Ψ⟩
def q6.snoc{α:Type}{n m n':Nat}{l:List (α×Nat)}(h:q6 n l)(x:α)(J:n<=m)(U:m<n'):q6 n' (l++[(x,m)]):=by
 refine⟨?_,fun p c=>?_⟩
 ·rw[List.map_append,rT];refine⟨h.nd,Ψ,fun a f b d e=>?_⟩;simp at d;subst d;obtain⟨p,c,rfl⟩:=hb.1 f;have:=h.lt p c;omega
 ·rcases kg.1 c with c|c
  ·have:=h.lt p c;omega
  ·simp at c;subst c;exact U
structure nH {α:Type} (f:α->Nat->af) (g:α->af):Prop where
 tn:∀x n,tn (f x n)=[(.loc n,0)]
 ok:∀x n,fm (f x n)
 st:∀x n,b7 (f x n)=g x
 ki:∀(S:aB->Prop) x n,S (.loc n)->az S (f x n)
def nH.tnL{α:Type}{f:α->Nat->af}{g:α->af}(h:nH f g):∀(l:List (α×Nat)),Pv.tnL (j3 f l)=(l.map (·.2)).map fun m=>(aB.loc m,0)
 |[]=>by simp[j3,Pv.tnL]
 |x::l=>by have:=h.tnL l;unfold j3 at this;simp[j3,Pv.tnL,h.tn,this]
def nH.nodup{α:Type}{f:α->Nat->af}{g:α->af}(h:nH f g){n:Nat}{l:List (α×Nat)}(d:q6 n l):(Pv.tnL (j3 f l)).Nodup:=by rw[h.tnL];refine ayq _ (fun a b c e=>c ?_) d.nd;simpa using e
def nH.okL{α:Type}{f:α->Nat->af}{g:α->af}(h:nH f g):∀(l:List (α×Nat)),fX (j3 f l)
 |[]=>by simp[j3,fX]
 |x::l=>by have:=h.okL l;unfold j3 at this;simp[j3,fX,h.ok,this]
def nH.stL{α:Type}{f:α->Nat->af}{g:α->af}(h:nH f g):∀(l:List (α×Nat)),cf (j3 f l)=(l.map (·.1)).map g
 |[]=>by simp[j3,cf]
 |x::l=>by have:=h.stL l;unfold j3 at this;simp[j3,cf,h.st,this]
def nH.kiL{α:Type}{f:α->Nat->af}{g:α->af}(h:nH f g){S:aB->Prop}:∀(l:List (α×Nat)),(∀p∈l,S (.loc p.2))->aH S (j3 f l)
 |[],_=>by simp[j3,aH]
 |x::l,dF=>by have:=h.kiL l fun p a=>dF p (by simp[a]);unfold j3 at this;simp only[j3,ha,aH];exact⟨h.ki S x.1 x.2 (dF x Ψ),this⟩
def nH.kin{α:Type}{f:α->Nat->af}{g:α->af}(h:nH f g){n m:Nat}{l:List (α×Nat)}(b:q6 n l)(hm:n<=m)(o:List aB):aH (fun k=> ¬fresh m o k) (j3 f l)=True:=h4 (h.kiL l fun p a c=>by have J:=b.lt p a;have U:m<=p.2:=c.1;omega)
def Fb{α:Type}{f:α->af}(h:∀x,fm (f x)):∀l:List α,fX (l.map f)
 |[]=>trivial
 |x::l=>⟨h x,Fb h l⟩
def Kb{α:Type}{f:α->af}(h:∀x,tn (f x)=[]):∀l:List α,tnL (l.map f)=[]
 |[]=>rfl
 |x::l=>by simp[tnL,h x,Kb h l]
def LN:∀(a b:List af),dX (a++b)↔dX a/\dX b
 |[],b=>by simp[dX]
 |x::a,b=>by simp[dX,LN a b,and_assoc]
mutual
def Uw(c8:Int->List cJ):∀(p:af) (k:Int),cP p->cP (dJ c8 p k).1
 | .int _ _,_,_=>by simp[dJ,cP]
 | .bool _,_,_=>by simp[dJ,cP]
 | .str _,_,_=>by simp[dJ,cP]
 | .slice sz _ xs,k,h=>by simp only[dJ,cP]at h⊢;exact⟨h.1,ra c8 xs k h.2⟩
 | .agg cs,k,h=>by simp only[dJ,cP]at h⊢;exact ra c8 cs k h
 | .junk,_,h=>by simp[cP]at h
 | .ptr _ _,_,h=>by simp[cP]at h
 | .eptr _,_,h=>by simp[cP]at h
 | .iface _ _,_,h=>by simp[cP]at h
 | .nilp,_,h=>by simp[cP]at h
 | .tuple _,_,h=>by simp[cP]at h
 | .func _ _,_,h=>by simp[cP]at h
 | .gmap _,_,h=>by simp[cP]at h
 | .row _ _ _,_,h=>by simp[cP]at h
 | .rptr _ _ _ _ _,_,h=>by simp[cP]at h
 | .hdm _ _,_,h=>by simp[cP]at h
 | .hdi _ _ _,_,h=>by simp[cP]at h
 | .cst _,_,h=>by simp[cP]at h
def ra(c8:Int->List cJ):∀(a:List af) (k:Int),dX a->dX (bD c8 a k).1
 |[],k,h=>by simp[bD,dX]
 |x::xs,k,h=>by simp only[bD,dX]at h⊢;exact⟨Uw c8 x k h.1,ra c8 xs _ h.2⟩
end
end
end Go.Pv
namespace Go.Proofs.YtahlgcidhnjlbaaGreat
section
open Go Go.Pv
def qS(o:be (List bJ)):af:= .tuple [b5 ((o.getD []).map bJ.e),.bool o.isSome]
@[simp]def awg(S:aB->Prop)(o:be (List bJ)):az S (qS o)=True:=by simp[qS]
def acq{l:List bJ}(h:jR l):bT au 87 [b5 (l.map bJ.e)] (.bool true):=by have:=acp l;simpa only[h,decide_true]using this
def Kf{t:T}(h:t.fit=true):bT au 64 [t.e] (.bool true):=by have:=ase t;rwa[h]at this
@[simp]def awZ(l:List bJ):fX (l.map bJ.e)=True:=h4 (Fb (f:=bJ.e) (fun _=>⟨trivial,trivial,trivial⟩) l)
@[simp]def ayb(l:List bJ):tnL (l.map bJ.e)=[]:=Kb (f:=bJ.e) (fun _=>rfl) l
def oa(o:be (List bJ))(κ:Nat):af:= .tuple [.slice 2 (.tr (.loc κ) 0) ((o.getD []).map bJ.e),.bool o.isSome]
def anf{s:List Bd}(G:fp s){l:List bJ}(F:jR l)(t:T)(Y:t.fit=true)(k:Int):
  fJ au 118 [bL (s.map Bd.e),b5 (l.map bJ.e),t.e,aj k] (oa (if(k=2\/k=3)/\(t.ap (cC s)).size<=5000 then k6 l (t.ap (cC s)) k else none)):=by
 have oF:=tB F;have d:=q1 G;have f:=Kf Y;have g:=acq F;have c:=Ko s t G.len G.sol.asc G.fit;generalize ad:t.ap (cC s)=x at c⊢;generalize u:(if(k=2\/k=3)/\x.size<=5000 then k6 l x k else none)=O;by_cases ab:k=2\/k=3;rotate_left
 ·have E:(k !=2)=true:=by simp;omega
  have W:(k !=3)=true:=by simp;omega
  rw[if_neg (fun h=>ab h.1)]at u;rw[<-u];refine fJ.mk mixed a1 Tryz.func118 Fc Ψ fun K κ=>?_;unfold AP;simp;(repeat' first|refine ao ?_|refine aO d ?_|refine aP d ?_|refine aO f ?_|refine aP f ?_|refine aO g ?_|refine aP g ?_|simp[E,W]);(refine hV.val Ψ ?_;simp[bc,bf,a6,e3,hj,ez,gO,ed,gH,tnL,tn,fm,fX,fold,hy,hv,iA,ae,eg,cf,b7]);simp[oa]
 by_cases z:x.size<=5000;rotate_left
 ·rw[if_neg (fun h=>z h.2)]at u;rw[<-u];rw[if_neg z,mx z]at c;refine fJ.mk mixed a1 Tryz.func118 Fc Ψ fun K κ=>?_;unfold AP;simp;rcases ab with rfl|rfl;all_goals(repeat' first|refine ao ?_|refine aO d ?_|refine aP d ?_|refine aO f ?_|refine aP f ?_|refine aO g ?_|refine aP g ?_|refine aO c ?_|refine aP c ?_|simp)
  all_goals(refine hV.val Ψ ?_;simp[bc,bf,a6,e3,hj,ez,gO,ed,gH,tnL,tn,fm,fX,fold,hy,hv,iA,ae,eg,cf,b7])
  all_goals simp[oa]
 rw[if_pos ⟨ab,z⟩]at u;rw[if_pos z,lK z]at c;have Z:(k !=2)=true->(k !=3)=false:=fun h=>by simp at h⊢;omega
 have R:((k !=2)=false/\(k !=2)=false)\/((k !=2)=true/\(k !=3)=false):=by
  rcases ab with rfl|rfl
  ·left;exact⟨rfl,rfl⟩
  ·right;exact⟨rfl,rfl⟩
 clear Z;by_cases P:∃n,x= .var n
 ·obtain⟨n,rfl⟩:=P;have a:O=match nx l n with|some bs=>if bs=k then some l else none|none=>some (nu ⟨n,k⟩ l):=by rw[<-u];rfl
  refine fJ.mk mixed a1 Tryz.func118 Fc Ψ fun K κ=>?_;unfold AP;simp;rcases R with⟨q,p⟩|⟨q,p⟩;all_goals
   (repeat' first|refine ao ?_|refine aO d ?_|refine aP d ?_|refine aO f ?_|refine aP f ?_|refine aO g ?_|refine aP g ?_|refine aO c ?_|refine aP c ?_|simp[q,p])
   refine eZ [3,10,12,55,56] (fun i (_:Unit)=>[(57,aj i)]) l.length (fun i _=> ∀j y,j<i->l[j]? =some y->y.v≠n) () b9 (fun j y H=>Ω) (fun _ H _=>?_) (fun i _ hi H _=>?_)
   ·have a7:nx l n=none:=ET.2 fun y A=>by obtain⟨m,hm,e⟩:=pA A;exact H m y hm (by rw[cl hm,e])
    rw[a7]at a
    simp only at a
    simp
    (repeat' first|refine ao ?_|simp)
    all_goals try refine⟨by unfold lim;omega,?_⟩
    have key:=ajs (l++[⟨n,k⟩]) d6
    have N:=KE (l++[⟨n,k⟩])
    have hlen:(l++[(⟨n,k⟩:bJ)]).length=l.length+1:=Ψ
    unfold yH eB at key N
    rw[hlen,List.map_append,ha,List.map_nil]at key N
    refine CallDo.ob key N aX aX (by simp[aM,ae]) ?_
    rintro r ak ⟨rfl,X,rfl,J,U⟩
    have V:X=nu ⟨n,k⟩ l:=al0 (J.trans ((List.perm_append_comm (l₁:=l) (l₂:=[⟨n,k⟩])).trans (Xm ⟨n,k⟩ l).symm)) (NO F.asc (ET.1 a7)) U
    subst V
    refine⟨Same.keys Ψ Ψ,?_⟩
    rw[a]
    simp[cM]
    (repeat' first|refine ao ?_|simp)
    (refine hV.val Ψ ?_;simp[bc,bf,a6,e3,hj,ez,gO,ed,gH,tnL,tn,fm,fX,fold,hy,hv,iA,ae,eg,cf,b7])
    simp[oa]
   ·obtain⟨b,S,w⟩:=eW hi
    by_cases o:b.v=n
    ·have a7:nx l n=some b.k:=by rw[<-o];exact N0 F.asc (ft S)
     rw[a7]at a
     simp only at a
     by_cases v:b.k=k
     ·rw[if_pos v]at a
      rw[a]
      have Q:(b.k !=k)=false:=by simp[v]
      have B:(b.v==n)=true:=by simp[o]
      simp[hi,w]
      (repeat' first|refine ao ?_|simp[w,hi,Q,B,v,o])
      (refine hV.val Ψ ?_;simp[bc,bf,a6,e3,hj,ez,gO,ed,gH,tnL,tn,fm,fX,fold,hy,hv,iA,ae,eg,cf,b7])
      simp[oa]
     ·rw[if_neg v]at a
      rw[a]
      have Q:(b.k !=k)=true:=by simp[v]
      have B:(b.v==n)=true:=by simp[o]
      simp[hi,w]
      (repeat' first|refine ao ?_|simp[w,hi,Q,B,v,o])
      (refine hV.val Ψ ?_;simp[bc,bf,a6,e3,hj,ez,gO,ed,gH,tnL,tn,fm,fX,fold,hy,hv,iA,ae,eg,cf,b7])
      simp[oa]
    ·have B:(b.v==n)=false:=by simp[o]
     simp[hi,w]
     (repeat' first|refine ao ?_|simp[w,hi,B,o])
     exact bY.rng () hi (fun j y kq A=>by
      rcases(by omega:j<i\/j=i)with h|rfl
      ·exact H j y h A
      ·rw[S]at A;cases A;exact o) b9
 ·have E:(x.kind !=1)=true:=by cases x<;>first|rfl|exact absurd ⟨_,rfl⟩ P
  have a:O=if x.kind=k then some l else none:=by rw[<-u];cases x<;>first|rfl|exact absurd ⟨_,rfl⟩ P
  by_cases L:x.kind=k
  ·rw[if_pos L]at a;rw[a];refine fJ.mk mixed a1 Tryz.func118 Fc Ψ fun K κ=>?_;unfold AP;simp;have M:(x.kind !=k)=false:=by simp[L]
   rcases R with⟨q,p⟩|⟨q,p⟩;all_goals(repeat' first|refine ao ?_|refine aO d ?_|refine aP d ?_|refine aO f ?_|refine aP f ?_|refine aO g ?_|refine aP g ?_|refine aO c ?_|refine aP c ?_|simp[q,p,E,M])
   all_goals(refine hV.val Ψ ?_;simp[bc,bf,a6,e3,hj,ez,gO,ed,gH,tnL,tn,fm,fX,fold,hy,hv,iA,ae,eg,cf,b7])
   all_goals simp[oa]
  ·rw[if_neg L]at a;rw[a];refine fJ.mk mixed a1 Tryz.func118 Fc Ψ fun K κ=>?_;unfold AP;simp;have M:(x.kind !=k)=true:=by simp[L]
   rcases R with⟨q,p⟩|⟨q,p⟩;all_goals(repeat' first|refine ao ?_|refine aO d ?_|refine aP d ?_|refine aO f ?_|refine aP f ?_|refine aO g ?_|refine aP g ?_|refine aO c ?_|refine aP c ?_|simp[q,p,E,M])
   all_goals(refine hV.val Ψ ?_;simp[bc,bf,a6,e3,hj,ez,gO,ed,gH,tnL,tn,fm,fX,fold,hy,hv,iA,ae,eg,cf,b7])
   all_goals simp[oa]
def iX(o:be (List bn)):af:= .tuple [b5 ((o.getD []).map bn.e),.bool o.isSome]
@[simp]def awi(S:aB->Prop)(o:be (List bn)):az S (iX o)=True:=by simp[iX]
def QU{l:List bn}(h:iv l):bT au 88 [b5 (l.map bn.e)] (.bool true):=by have:=acr l;simpa only[h,decide_true]using this
def ar4{s:List cJ}(h:ib s=true):bT au 160 [.str s] (.bool true):=by have:=tY s;rwa[h]at this
def E0(l:List bn):List af:=l.flatMap fun m=>[m.e,.bool true]
def Yp(l:List bn):pd l= .hdm l.length (List.range l.length)::E0 l:=rfl
def Ow(b:Nat):∀(n:Nat) (l:List bn),n5 b (List.range' n l.length) (E0 l)=(if n<=b then(l[b-n]?).map fun x=>.tuple [x.e,.bool true]else none)
 |n,[]=>by simp[n5,E0]
 |n,x::r=>by
  have e:E0 (x::r)=x.e:: .bool true::E0 r:=rfl;simp only[mw,List.range'_succ,e,n5];by_cases h:n=b
  ·subst h;simp
  ·rw[if_neg h,Ow b (n+1) r];by_cases U:n<=b
   ·rw[if_pos U,if_pos Ω];have:b-n=(b-(n+1))+1:=Ω
    rw[this];simp
   ·rw[if_neg U,if_neg Ω]
@[simp]def aw6(l:List bn):gY (pd l)=false:=rfl
@[simp]def axc(m:aB)(l:List bn):z8 m (pd l)=some (cd l.length [] m):=rfl
def amF(f:aB->be (List af))(gl mk:aB)(n:Nat)(seen:List Nat)(b:Nat)(l:List bn)(x:bn)(hi:f gl=some (cd n (seen++[b]) mk))(hm:f mk=some (pd l))(c:n=l.length)(a:l[b]? =some x):qM f (.ptr gl 0)=some (True,.tuple [x.e,.bool true]):=by subst c;simp only[YA,hi,hm,cd,Yp,List.getLast?_append,List.getLast?_singleton,Option.some_or,List.range_eq_range',Ow,Nat.zero_le,if_true,Nat.sub_zero,Option.map_map];simp[a]
def afz{st:bp}{d:Nat}{K:bp->Prop}{gl mk:aB}{n:Nat}{seen:List Nat}{l:List bn}(hi:ae gl st.b=some (cd n seen mk))(hm:ae mk st.b=some (pd l))(i:n=l.length)
  (J:(∀b,b<l.length->b∈seen)->K {st with t:=Pv.put d (.tuple [.bool false]) st.t}) (U:∀b x,l[b]? =some x->b∉seen->K {st with t:=Pv.put d (.tuple [.bool true,x.e,.bool true]) st.t,b:=cK gl (cd n (seen++[b]) mk) st.b}):
  uC st d (.ptr gl 0) K:=by
 subst i;simp only[uC,hi,cd,hm,Yp,OL,and_self,true_and];refine⟨fun h=>J fun b c=>h b (by simpa using c),fun b k v a c=>?_⟩;rw[List.range_eq_range',Ow]at a;simp only[Nat.zero_le,if_true,Nat.sub_zero,hs,af.tuple.injEq,rR,jf]at a;obtain⟨x,f,g,e⟩:=a;subst g e;exact U b x f c
def amA{m x:bn}{l:List bn}:x∈l9 m l↔x=m\/x∈l:=by
 unfold l9;split
 ·constructor
  ·exact .inr
  ·rintro(rfl|h)<;>assumption
 ·simp[or_comm]
def adO{m:bn}{l:List bn}(h:l.Nodup):(l9 m l).Nodup:=by
 unfold l9;split
 ·exact h
 ·rw[rT];exact⟨h,Ψ,fun a d b c=>by simp at c;subst c;intro e;subst e;contradiction⟩
def adN(m:bn)(l:List bn):(l9 m l).length<=l.length+1:=by unfold l9;split<;>simp
def aiw(s:List cJ)(t:T):∀l:List bn,(t.fold (fun v l=>l9 ⟨v,s⟩ l) l).length<=l.length+t.size:=by
 induction t with
 |var n=>intro l;simp only[T.fold,T.size];exact adN _ _
 |pair a b d c=>intro l;simp only[T.fold,T.size];have:=d l;have:=c (a.fold (fun v l=>l9 ⟨v,s⟩ l) l);omega
 |_=>intro l;simp[T.fold,T.size]
def aix(s:List cJ)(t:T):∀{l:List bn},l.Nodup->(t.fold (fun v l=>l9 ⟨v,s⟩ l) l).Nodup:=by
 induction t with
 |var n=>intro l h;exact adO h
 |pair a b d c=>intro l h;exact c (d h)
 |_=>intro l h;exact h
def amB(s:List cJ)(t:T)(x:bn):∀{l:List bn},x∈t.fold (fun v l=>l9 ⟨v,s⟩ l) l↔x∈l\/(x.s=s/\t.occ x.v=true):=by
 induction t with
 |var n=>
  intro l;simp only[T.fold,amA,T.occ,ey];constructor
  ·rintro(rfl|h)
   ·exact .inr ⟨rfl,rfl⟩
   ·exact .inl h
  ·rintro(h|⟨J,U⟩)
   ·exact .inr h
   ·left;cases x;simp at J U;subst J U;rfl
 |pair a b d c=>
  intro l;simp only[T.fold,c,d,T.occ,og];constructor
  ·rintro((h|h)|h)
   ·exact .inl h
   ·exact .inr ⟨h.1,.inl h.2⟩
   ·exact .inr ⟨h.1,.inr h.2⟩
  ·rintro(h|⟨J,U|U⟩)
   ·exact .inl (.inl h)
   ·exact .inl (.inr ⟨J,U⟩)
   ·exact .inr ⟨J,U⟩
 |_=>intro l;simp[T.fold,T.occ]
def alJ(M:List bn)(k:Nat)(st:bp):Prop:=∃(seen:List Nat) (xs:List bn),seen.Nodup/\(∀b∈seen,b<M.length)/\k=M.length-seen.length/\xs=seen.filterMap (fun b=>M[b]?)/\xs.length=seen.length/\st=⟨[(15,.ptr (.obj 815) 0),(63,.ptr (.loc 2) 0)],[(.obj 812,pd M),(.loc 2,cd M.length seen (.obj 812)),(.obj 815,[.row 2 (.obj 814) xs.length])],[(.obj 814,⟨xs.length,100,2,some (xs.map bn.e)⟩)],3,[.obj 815,.obj 814,.obj 813,.obj 812,.obj 811]⟩
def aco{s:List Bd}(B:fp s){l:List bn}(R:iv l)(oF:l.length<=68719470000)(t:T)(aJ:t.fit=true){g:List cJ}(a7:ib g=true):
  bT au 120 [bL (s.map Bd.e),b5 (l.map bn.e),t.e,.str g] (iX (if(t.ap (cC s)).size<=5000 then ko l (t.ap (cC s)) g else none)):=by
 have n:=q1 B;have o:=Kf aJ;have p:=QU R;have m:=ar4 a7;have d:=Ko s t B.len B.sol.asc B.fit;generalize ad:t.ap (cC s)=x at d⊢;generalize w:(if x.size<=5000 then ko l x g else none)=O;by_cases q:x.size<=5000;rotate_left
 ·rw[if_neg q]at w;rw[<-w];rw[if_neg q,mx q]at d;refine bI a1 Tryz.func120 I7 fun V=>?_;unfold Dv;simp;(repeat' first|refine ao ?_|refine aO n ?_|refine aP n ?_|refine aO o ?_|refine aP o ?_|refine aO p ?_|refine aP p ?_|refine aO m ?_|refine aP m ?_|refine aO d ?_|refine aP d ?_|simp);simp[bZ,bc,bf,a6];simp[iX]
 rw[if_pos q]at w;rw[if_pos q,lK q]at d;have u:=ast g x;cases z:x.has g;rotate_left
 ·rw[z]at u;have gE:O=none:=by rw[<-w];unfold ko;rw[z];rfl
  rw[gE];refine bI a1 Tryz.func120 I7 fun V=>?_;unfold Dv;simp;(repeat' first|refine ao ?_|refine aO n ?_|refine aP n ?_|refine aO o ?_|refine aP o ?_|refine aO p ?_|refine aP p ?_|refine aO m ?_|refine aP m ?_|refine aO d ?_|refine aP d ?_|refine aO u ?_|refine aP u ?_|simp);simp[bZ,bc,bf,a6];simp[iX]
 rw[z]at u;refine bI a1 Tryz.func120 I7 fun V=>?_;unfold Dv;simp;(repeat' first|refine ao ?_|refine aO n ?_|refine aP n ?_|refine aO o ?_|refine aP o ?_|refine aO p ?_|refine aP p ?_|refine aO m ?_|refine aP m ?_|refine aO d ?_|refine aP d ?_|refine aO u ?_|refine aP u ?_|simp);have X:l.Nodup:=iS.nodup mR R.asc;have L:∀xs:List bn,xs.Perm (x.fold (fun v l=>l9 ⟨v,g⟩ l) l)->O=some (p8 gf xs):=fun xs Q=>by
  rw[<-w];refine KO z ?_ fun y=>?_
  ·have J:=Qo mR xs;have U:(p8 gf xs).Nodup:=(((Am gf xs).trans Q).nodup_iff).2 (aix g x X);exact(J.and U).imp fun{a b} h=>by have:=mt (mR.zero a b).1 h.2;omega
  ·rw[((Am gf xs).trans Q).mem_iff,amB]
 have hlen:(x.fold (fun v l=>l9 ⟨v,g⟩ l) l).length<=68719475000:=by have:=aiw g x l;omega
 rw[show k0 []=pd []from rfl];refine fU (fun i (_:Unit)=>⟨[(7,.ptr (.obj 811) 0),(10,.ptr (.loc 1) 0),(12,.ptr (.obj 813) 0),(49,b5 (l.map bn.e)),(50,aj l.length),(51,aj i)],[(.obj 811,[.str g]),(.loc 1,[aj x.kind,aj x.int,.str x.name,dx (x.args.map T.e)]),(.obj 812,pd (l.take i)),(.obj 813,[.gmap (.obj 812)])],[],2,[.obj 813,.obj 812,.obj 811]⟩) l.length (fun _ _=>True) () b9 trivial (fun _ _ _=>?_) (fun i _ hi _ _=>?_)
 ·rw[jC];simp;(repeat' first|refine ao ?_|simp);have key:=VE (pF g) (Gt g) (KG g) 184 [.ptr (.obj 813) 0,.ptr (.obj 811) 0] (by intro a;simp[aM,pF,ae,aH,az]) Ψ (fun v l=>l9 ⟨v,g⟩ l) (fun v a=>aiE g v a) x l;refine CallDo.ob key (Gt g l) (by unfold pF;exact aX) (by unfold pF;exact aX) (by simp[aM,pF,ae]) ?_;rintro r ak ⟨rfl,rfl⟩;refine⟨KG g _ _,?_⟩;unfold pF;generalize eK:x.fold (fun v l=>l9 ⟨v,g⟩ l) l=M at L hlen⊢;simp[cM];(repeat' first|refine ao ?_|simp);refine qs (alJ M) M.length _ ⟨by simp[fresh,aH,az,cd,aM,ae,BZ],eo (by simp[fresh,aH,az,cd,aM,ae,BZ]),ep (by simp[fresh,aH,az,dV,aM,ae,BZ]),Ψ⟩ ⟨[],[],Ψ,Ψ,Ψ,Ψ,Ψ,rfl⟩ ?_;rintro k st ⟨seen,xs,F,A,ab,W,kW,rfl⟩ lS c4;clear lS c4;have hle:=JY F A;simp;refine afz (mk:= .obj 812) (seen:=seen) (l:=M) Ψ Ψ rfl (fun Z=>?_) (fun b y H E=>?_)
  ·have K:=Qg F A Z;rw[<-W]at K;have ef:=L xs K;simp;(repeat' first|refine ao ?_|simp);have key:=ajt xs Ω;have P:=KF xs;unfold yI eB at key P;refine CallDo.ob key P aX aX (by simp[aM,ae]) ?_;rintro r ak ⟨rfl,rfl⟩;refine⟨Same.keys Ψ Ψ,?_⟩;rw[ef];simp[cM];(repeat' first|refine ao ?_|simp);simp[bZ,bc,bf,a6];simp[iX]
  ·have Y:∀f:aB->be (List af),f (.loc 2)=some (cd M.length (seen++[b]) (.obj 812))->f (.obj 812)=some (pd M)->qM f (.ptr (.loc 2) 0)=some (True,.tuple [y.e,.bool true]):=fun f J U=>amF f (.loc 2) (.obj 812) M.length seen b M y J U rfl H;have N:b<M.length:=(fH.1 H).1;have qD:=Qh F A N E;simp[Y];(repeat' first|refine ao ?_|simp[Y]);all_goals try refine⟨by unfold lim;omega,?_⟩
   have G:∀S:aB->Prop,aH S (xs.map bn.e++[y.e])=True:=fun S=>by
    have e:xs.map bn.e++[y.e]=(xs++[y]).map bn.e:=Ψ
    rw[e];simp[-List.map_append]
   refine bY.next (M.length-(seen.length+1)) Ω ⟨seen++[b],xs++[y],OU F E,(by simp;intro c aw;rcases aw with aw|rfl;exact A c aw;exact N),Ψ,by rw[List.filterMap_append,<-W];simp[H],by simp[kW],rfl⟩ ⟨by simp[fresh,aH,az,cd,aM,ae,BZ,G],eo (by simp[fresh,aH,az,cd,aM,ae,BZ,G]),ep (by simp[fresh,aH,az,dV,aM,ae,BZ,G]),Ψ⟩
 ·obtain⟨b,E,dg⟩:=eW hi;have j0:l9 b (l.take i)=l.take (i+1):=by
   have J:b∉l.take i:=fun h=>by
    obtain⟨j,ah,e⟩:=pA h;have kq:j<i:=by simp at ah;omega
    rw[List.getElem_take]at e;have:=(List.nodup_iff_pairwise_ne.1 X);exact(q4.1 this j i Ω hi kq) (by rw[e,dg])
   rw[List.take_succ,E];simp[l9,J]
  exact iW
def Sg:C:=(aa [bz 4 false] (.seq (aa [I 7 0,cw 8 7,bQ 9 0] (gx 10 9 8 (.seq (.block 1 (aa [ck 11 5 7 9,bk 12 5 11,dI 6 kx,bV 5 6 12] (aa [aF 13 0 1 6,ay 14 1 13,I 15 1,bu 16 .geq 14 15,I 17 16,ax 17 false (hr 18 1 4 6),ax 17 false (bk 19 4 18),ys 17 false (.bsl 20 4 30 [.t 19]),ax 17 false (cY 21 162 20),cg 17 false 22 1,ax 17 false (bu 23 .gtr 21 22),ds 24 17 23] (aW 24 (aa [bz 4 false] .ret) .skip)))) (.region [aV 25 .add 9 1,I 9 25])))) (aa [bz 4 true] .ret)))
def Sf:C:=(aa [bQ 2 0] (.seq (aa [I 6 0,cY 7 172 6,cO 8 7] (aW 8 (aa [bQ 2 (-1)] .ret) .skip)) (aa [dt (.alloc 3 (some 831) (.int .i64 0)),dt (.store 1 (.t 3) (gV 0))] (.seq (aa [I 9 0,cw 10 9,bQ 11 0] (gx 12 11 10 (.seq (.block 1 (aa [ck 13 4 9 11,bk 14 4 13,dI 5 eC,bV 4 5 14] (.region [bk 15 4 5,cb 16 (.mkf 204 [.t 3]),cc 17 134 15 16]))) (.region [aV 18 .add 11 1,I 11 18])))) (aa [ay 19 1 3,I 2 19] .ret)))))
def Sb:C:=(aa [fw 4 2,bz 5 false] (.seq (aa [I 11 0,cY 12 86 11,cO 13 12,I 14 13,cg 14 false 15 1,ax 14 false (cY 16 87 15),ax 14 false (cO 17 16),ds 18 14 17] (aW 18 (aa [fw 4 2,bz 5 false] .ret) .skip)) (aa [fe 19 2 98 [],I 6 19] (.seq (.seq (.fg false 6 (.region [I 20 1,cw 21 20,bQ 22 0])) (gx 23 22 21 (.seq (.block 1 (aa [ck 24 2 20 22,bk 25 2 24,dt (.alloc 8 none (.agg [.int .i64 0,.int .i64 0])),bV 2 8 25] (.seq (.drawn true 42 [I 27 0,I 28 6,aF 29 0 1 8,ay 30 1 29,cY 31 116 30,aF 32 1 1 8,ay 33 1 32,dT 34 118 [.t 27,.t 28,.t 31,.t 33],I 26 34,cV 35 0 26,cV 36 1 26,I 9 35,I 10 36]) (.seq (aa [I 37 10,cO 38 37] (aW 38 (aa [fw 4 2,bz 5 false] .ret) .skip)) (.region [I 39 9,I 6 39]))))) (.region [aV 40 .add 22 1,I 22 40])))) (aa [I 41 6,I 4 41,bz 5 true] .ret)))))
def Sc:C:=(aa [fw 4 2,bz 5 false] (.seq (aa [I 11 0,cY 12 86 11,cO 13 12,I 14 13,cg 14 false 15 1,ax 14 false (cY 16 88 15),ax 14 false (cO 17 16),ds 18 14 17] (aW 18 (aa [fw 4 2,bz 5 false] .ret) .skip)) (aa [fe 19 2 100 [],I 6 19] (.seq (.seq (.fg false 6 (.region [I 20 1,cw 21 20,bQ 22 0])) (gx 23 22 21 (.seq (.block 1 (aa [ck 24 2 20 22,bk 25 2 24,dt (.alloc 8 none (.agg [.int .i64 0,.str []])),bV 2 8 25] (.seq (.drawn true 42 [I 27 0,I 28 6,aF 29 0 1 8,ay 30 1 29,cY 31 116 30,aF 32 1 1 8,ay 33 1 32,dT 34 120 [.t 27,.t 28,.t 31,.t 33],I 26 34,cV 35 0 26,cV 36 1 26,I 9 35,I 10 36]) (.seq (aa [I 37 10,cO 38 37] (aW 38 (aa [fw 4 2,bz 5 false] .ret) .skip)) (.region [I 39 9,I 6 39]))))) (.region [aV 40 .add 22 1,I 22 40])))) (aa [I 41 6,I 4 41,bz 5 true] .ret)))))
def R8:C:=(aa [fw 2 1] (.seq (aa [I 12 0,cw 13 12,bQ 14 0] (gx 15 14 13 (.seq (.block 1 (aa [ck 16 1 12 14,ay 17 1 16,I 4 17] (aa [I 18 4,cY 19 86 18,cO 20 19] (aW 20 (aa [fw 2 1] .ret) .skip)))) (.region [aV 21 .add 14 1,I 14 21])))) (aa [dt (.bslm 22 (some 821) 1 46 []),I 23 0,dt (.appm 24 none 1 46 (.t 22) (.t 23)),dt (.alloc 5 (some 822) (.slice 1 .nil [])),bV 1 5 24] (aa [ay 25 1 5,cb 26 (.mkif 47 (.t 25)),cb 27 (.mkf 206 [.t 5]),cc 28 140 26 27] (aa [fe 29 1 46 [],I 6 29] (.seq (aa [ay 30 1 5,cw 31 30,bQ 32 0] (.block 2 (.loop (aa [bu 33 .lss 32 31] (.seq (aW 33 .skip (.exit 2)) (.seq (.block 3 (aa [I 34 32,ck 35 1 30 32,ay 36 1 35,I 7 34,I 8 36] (.seq (aa [I 37 7,aV 38 .gtr 37 0,I 39 38,ax 39 true (ay 40 1 5),cg 39 true 41 7,ax 39 true (aV 42 .sub 41 1),ax 39 true (ck 43 1 40 42),ax 39 true (ay 44 1 43),cg 39 true 45 8,ax 39 true (cc 46 207 44 45),ax 39 true (aV 47 .eql 46 0),ei 48 39 47] (aW 48 (.exit 3) .skip)) (aa [bz 9 true] (.seq (aa [ay 49 1 5,cw 50 49,bQ 51 0] (.block 4 (.loop (aa [bu 52 .lss 51 50] (.seq (aW 52 .skip (.exit 4)) (.seq (.block 5 (aa [ck 53 1 49 51,ay 54 1 53,I 11 54] (aa [I 55 11,I 56 8,cc 57 207 55 56,aV 58 .neq 57 0,I 59 58,cg 59 true 60 11,cg 59 true 61 8,ax 59 true (cc 62 208 60 61),ei 63 59 62] (aW 63 (.region [bz 9 false]) .skip)))) (.region [aV 64 .add 51 1,I 51 64]))))))) (aa [I 65 9] (aW 65 (.region [I 66 6,I 67 8,cY 68 168 67,fe 69 1 46 [.t 68],h3 70 1 46 66 69,I 6 70]) .skip))))))) (.region [aV 71 .add 32 1,I 32 71]))))))) (aa [I 72 6,I 2 72] .ret)))))))
def K6:C:=(.region [ay 3 1 1,I 4 0,aV 5 .add 4 1,cb 6 (.max2 (.t 3) (.t 5)),bV 1 1 6])
def R9:C:=(aa [bz 5 false] (.seq (.drawn true 16 [ay 6 1 2,I 7 0,ck 8 1 6 7,ay 9 1 8,ay 10 1 2,I 11 1,ck 12 1 10 11,ay 13 1 12,cc 14 207 9 13,aV 15 .lss 14 0,I 5 15]) .ret))
def anI:b4 aT Sg [.tmp 4] 2 Tryz.f89=true:=bi
def anH:b4 aT Sf [.tmp 2] 1 Tryz.f162=true:=bi
def anD:b4 aT Sb [.tmp 4,.tmp 5] 2 Tryz.f163=true:=bi
def anE:b4 aT Sc [.tmp 4,.tmp 5] 2 Tryz.f164=true:=bi
def anA:b4 aT R8 [.tmp 2] 1 Tryz.f167=true:=bi
def Zh:b4 aT K6 [] 2 Tryz.f204=true:=bi
def anB:b4 aT R9 [.tmp 5] 3 Tryz.f206=true:=bi
def Xp(s:List Bd)(l:List bJ)(i:Nat)(a:List bJ):Prop:=jR a/\gU s (l.drop i) a=gU s l []
def arO{α:Type}(n:Nat)(dp:jH)(a:List α):Prop:=(dp= .no/\a=[])\/ ∃m,dp= .tr (.loc m) 0/\m<n
def Y4{s:List Bd}(g:fp s){l:List bJ}(o:jR l):fJ au 163 [bL (s.map Bd.e),b5 (l.map bJ.e)] (oa (gU s l [])):=by
 have u:=tB o;have p:=q1 g;have q:=acq o;refine fJ.mk mixed a1 Tryz.func163 anD Ψ fun v κ=>?_;unfold Sb;simp;(repeat' first|refine ao ?_|refine aO p ?_|refine aP p ?_|refine aO q ?_|refine aP q ?_|simp);refine fU (fun i (x:Nat×jH×List bJ)=>⟨[(0,bL (s.map Bd.e)),(20,b5 (l.map bJ.e)),(21,aj l.length),(6,.slice 2 x.2.1 (x.2.2.map bJ.e)),(22,aj i)],[],[],x.1,[]⟩) l.length (fun i x=>arO x.1 x.2.1 x.2.2/\Xp s l i x.2.2) (0,.no,[]) b9 ⟨.inl ⟨rfl,rfl⟩,⟨Ψ,Ψ⟩,rfl⟩ (fun x c _=>?_) (fun i x hi c _=>?_)
 ·obtain⟨n,dp,a⟩:=x;obtain⟨h,_,c⟩:=c;simp only at h c;rw[List.drop_length]at c;simp only[gU]at c;rw[<-c];rcases h with⟨rfl,rfl⟩|⟨m,rfl,hm⟩
  ·simp;(repeat' first|refine ao ?_|simp);(refine hV.val Ψ ?_;simp[bc,bf,a6,e3,hj,ez,gO,ed,gH,tnL,tn,fm,fX,fold,hy,hv,iA,ae,eg,cf,b7]);simp[oa]
  ·simp;(repeat' first|refine ao ?_|simp);(refine hV.val Ψ ?_;simp[bc,bf,a6,e3,hj,ez,gO,ed,gH,tnL,tn,fm,fX,fold,hy,hv,iA,ae,eg,cf,b7]);simp[oa]
 ·obtain⟨n,dp,a⟩:=x;obtain⟨h,k,c⟩:=c;simp only at h k c;obtain⟨b,t,f⟩:=eW hi;have e:=o.at' b (ft t);rw[lH hi,f]at c;simp only[gU]at c;have d:=anf g k (.var b.v) (by simp[T.fit,T.ok,T.size,e.1]) b.k;have r:((T.var b.v).ap (cC s)).size<=5000:=FP g b.v;rw[if_pos ⟨e.2,r⟩,show(T.var b.v).ap (cC s)=cC s b.v from rfl]at d;have dy:b7 (.slice 2 dp (a.map bJ.e))=b5 (a.map bJ.e):=by simp[b7]
  simp[hi,f];cases j:k6 a (cC s b.v) b.k with
  |none=>rw[j]at c d;simp only at c;rw[<-c];unfold oa at d;(repeat' first|refine ao ?_|refine aO (l4 _) ?_|refine aP (l4 _) ?_|simp[f,hi]);(refine hM.own Ψ (d) (by simp[qv,ae]<;>omega) ?_;simp);(repeat' first|refine ao ?_|simp);(refine hV.val Ψ ?_;simp[bc,bf,a6,e3,hj,ez,gO,ed,gH,tnL,tn,fm,fX,fold,hy,hv,iA,ae,eg,cf,b7]);simp[oa]
  |some br=>
   rw[j]at c d;unfold oa at d;(repeat' first|refine ao ?_|refine aO (l4 _) ?_|refine aP (l4 _) ?_|simp[f,hi]);(refine hM.own Ψ (d) (by simp[qv,ae]<;>omega) ?_;simp);(repeat' first|refine ao ?_|simp);refine bY.rng (n+1+42,.tr (.loc (n+1+34)) 0,br) hi ?_ ?_
   ·exact⟨.inr ⟨n+1+34,rfl,(by omega:n+1+34<n+1+42)⟩,KN k (CR g e.1) e.2 j,c⟩
   simp;exact b9
def asa{s:List Bd}(b:fp s){l:List bJ}(a:jR l):bT au 163 [bL (s.map Bd.e),b5 (l.map bJ.e)] (qS (gU s l [])):=by have:=(Y4 b a).val (by simp[oa,b7]);simpa[oa,b7,cf,qS]using this
def Xq(s:List Bd)(G:List (List cJ))(l:List bn)(i:Nat)(a:List bn):Prop:=iv a/\oe G a/\gZ s (l.drop i) a=gZ s l []
def acs{s:List Bd}(h:fp s){l:List bn}(k:iv l){G:List (List cJ)}(v:G.length<=687000)(a7:oe G l):bT au 164 [bL (s.map Bd.e),b5 (l.map bn.e)] (iX (gZ s l [])):=by
 have hlen:∀{a:List bn},iv a->oe G a->a.length<=68719470000:=fun J U=>by have:=E1 J U;omega
 have u:=hlen k a7;have m:=q1 h;have n:=QU k;refine bI a1 Tryz.func164 anE fun w=>?_;unfold Sc;simp;(repeat' first|refine ao ?_|refine aO m ?_|refine aP m ?_|refine aO n ?_|refine aP n ?_|simp);refine eZ [0,20,21] (fun i (a:List bn)=>[(6,b5 (a.map bn.e)),(22,aj i)]) l.length (Xq s G l) [] b9 ⟨⟨Ψ,by simp[iS]⟩,fun x r=>by simp at r,rfl⟩ (fun a c _=>?_) (fun i a hi c _=>?_)
 ·obtain⟨_,_,c⟩:=c;rw[List.drop_length]at c;simp only[gZ]at c;rw[<-c];simp;(repeat' first|refine ao ?_|simp);simp[bZ,bc,bf,a6];simp[iX]
 ·obtain⟨j,p,c⟩:=c;obtain⟨b,o,g⟩:=eW hi;have e:=k.at' b (ft o);have t:=a7 b (ft o);rw[lH hi,g]at c;simp only[gZ]at c;have d:=aco h j (hlen j p) (.var b.v) (by simp[T.fit,T.ok,T.size,e.1]) e.2;have q:((T.var b.v).ap (cC s)).size<=5000:=FP h b.v;rw[if_pos q,show(T.var b.v).ap (cC s)=cC s b.v from rfl]at d;simp[hi,g];cases f:ko a (cC s b.v) b.s with
  |none=>rw[f]at c d;simp only at c;rw[<-c];simp only[iX]at d;(repeat' first|refine ao ?_|refine aO (l4 _) ?_|refine aP (l4 _) ?_|refine aO d ?_|refine aP d ?_|simp[g,hi]);simp[bZ,bc,bf,a6];simp[iX]
  |some br=>rw[f]at c d;simp only[iX]at d;(repeat' first|refine ao ?_|refine aO (l4 _) ?_|refine aP (l4 _) ?_|refine aO d ?_|refine aP d ?_|simp[g,hi]);exact bY.rng br hi ⟨Gz j (CR h e.1) e.2 f,GA p t f,c⟩ b9
end
section
open Go Go.Pv Go.Lib
def cQ(d:List Bd):af:=bL (d.map Bd.e)
@[simp]def av3(S:aB->Prop)(d:List Bd):az S (cQ d)=True:=by simp[cQ]
@[simp]def aua(d:List Bd):cells (cQ d)=[cQ d]:=rfl
@[simp]def axt(d:List Bd):eU (cQ d)=true:=rfl
@[simp]def axU(d:List Bd):b7 (cQ d)=cQ d:=by simp[cQ]
def Uo:∀(S:aB->Prop) (x:List Bd),az S (cQ x):=fun S x=>by simp
def N6(S:aB->Prop):∀l:List (List Bd),aH S (l.map cQ)
 |[]=>by simp[aH]
 |x::xs=>by simp[aH,N6 S xs]
@[simp]def XX(S:aB->Prop)(l:List (List Bd)):aH S (l.map cQ)=True:=h4 (N6 S l)
@[simp]def Qw:∀l:List (List Bd),cf (l.map cQ)=l.map cQ
 |[]=>rfl
 |x::xs=>by simp[cf,Qw xs]
def gA(d:List Bt):af:=bL (d.map Bt.e)
@[simp]def auc(d:List Bt):cells (gA d)=[gA d]:=rfl
@[simp]def axv(d:List Bt):eU (gA d)=true:=rfl
def LL(d:List Bd):gA (d.map Bd.b)=cQ d:=by simp only[gA,cQ,zN]
def LM(l:List (List Bd)):(l.map fun d=>d.map Bd.b).map gA=l.map cQ:=by rw[List.map_map];exact List.map_congr_left fun d _=>LL d
@[simp]def av6(S:aB->Prop)(d:List Bt):az S (gA d)=True:=by simp[gA]
@[simp]def axX(d:List Bt):b7 (gA d)=gA d:=by simp[gA]
def XZ(S:aB->Prop):∀l:List (List Bt),aH S (l.map gA)
 |[]=>by simp[aH]
 |x::xs=>by simp[aH,XZ S xs]
@[simp]def avY(S:aB->Prop)(l:List (List Bt)):aH S (l.map gA)=True:=h4 (XZ S l)
abbrev vx(l:List (List Bd)):cT:=eB cQ 821 822 46 1 l
def KB(l:List (List Bd)):eA (vx l):=yJ Uo l
def aiH(l:List (List Bd))(m:l.length<=68719476736)(i j:Nat)(x y:List Bd)(hi:l[i]? =some x)(h:l[j]? =some y):bH au 206 [aj i,aj j,.ptr (.obj 822) 0] (vx l) fun r g=>r= .bool (iP fa x y)/\g=vx l:=by have a:=KB l;obtain⟨c,d⟩:=fH.1 hi;obtain⟨e,b⟩:=fH.1 h;have f:bT au 207 [cQ x,cQ y] (aj (fa x y)):=Km x y;unfold vx eB at a⊢;refine bH.mk mixed a1 Tryz.func206 anB Ψ a.obj fun n k=>?_;unfold R9;simp[c,e,d,b];(repeat' first|refine ao ?_|refine aO f ?_|refine aP f ?_|simp[c,e,d,b]);refine c5.at _ (.inl rfl) a (Same.refl _) aX aX ?_;simp[dd,bc,bf,a6,iP]
noncomputable def Tryz.dsT:TypeInfo:=(au.info? 47).get bi
noncomputable def Tryz.dsE:TypeInfo:=(au.info? 46).get bi
def Tryz.dsK(n:Nat)(U:2<=n):Lib.swapperK n Tryz.dsE 23=9:=by
 have a:Tryz.dsE.hasPointers=true:=bi
 have b:Tryz.dsE.bytes=24:=bi
 have c:(n==0)=false:=by simp;omega
 have d:(n==1)=false:=by simp;omega
 simp[Lib.swapperK,a,b,c,d]
def ajq(l:List (List Bd))(d:l.length<=68719476736):bH au 140 [.iface 47 (.row 1 (.obj 821) l.length),.func 206 [.ptr (.obj 822) 0]] (vx l) fun r b=>r= .tuple []/\b=vx (p8 fa l):=by
 refine(aiK Uo (K:=821) (B:=822) (sz:=1) 47 Tryz.dsT Tryz.dsE bi bi bi bi 23 (fun _=>by kernel_rfl) Tryz.dsK 206 (iP fa) mQ.ltOk l d (fun a h i j x y hi c=>aiH a Ω i j x y hi c) (fun a h i j hi c=>?_)).mono ?_
 ·have:=VT (P:=au) false 230 (fun args W=>run_callFunc_extern Tryz.func230 bi bi bi (e:=Gi false) bi args W)
   46 Tryz.dsE bi (.inr ⟨by kernel_rfl,fun _=>by kernel_rfl⟩) (KB a) (K:=821) (n:=l.length) (el:=46) (sz:=1) bi (xs:=a.map cQ) (by simp[eB,ae,h]) i j hi c
  refine this.mono ?_;rintro r b ⟨rfl,rfl⟩;refine⟨rfl,?_⟩;simp[eB,cK,Yl,h]
 ·rintro r b ⟨rfl,a,rfl,J,U⟩;exact⟨rfl,by rw[abL mQ J U]⟩
end
end Go.Proofs.YtahlgcidhnjlbaaGreat
