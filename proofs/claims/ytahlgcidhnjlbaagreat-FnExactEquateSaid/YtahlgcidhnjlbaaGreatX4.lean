/- Contracts: disequalities in order. -/
import Derived.Lib.OwnBridge
import Derived.Shelf.GgSortMore.Stable
import Derived.Shelf.GgSortFunc.SmallK
import Derived.Shelf.GgSortFunc.Slice
import Derived.Ground.GgsProg
import Derived.Test.YtahlgcidhnjlbaaGreatProg
import Derived.Test.YtahlgcidhnjlbaaGreatX3
set_option linter.all false
set_option maxHeartbeats 4000000
set_option maxRecDepth 4000
open Array renaming getElem?_toList->vt
open BitVec renaming ofInt->rW
open Bool renaming and_eq_true->cP,eq_iff_iff->q3,false_eq_true->hQ,not_eq_true'->sS,or_eq_true->og
open Go renaming Program->cH,TypeId->gU
open Go.Extern.ReflectliteSwapper renaming swap->Gb,swapper->aye
open Go.Extern.ReflectliteValue renaming len->ayf,method->ayg,unpack->atw,valueError->atx
open Go.Extern.Rtype renaming kind->adp
open Go.IntKind renaming bits->pt,i64->vu,signed->ug,u64->ig,wrap->uh
open Go.IntWalk renaming i64_in->pw
open Go.Proofs.Tryz renaming prog->au
open Go.Result renaming andThen_ok->gC
open Go.Sem renaming run_bind->gx,run_pure->hA
open Go.Value.slice renaming injEq->ayj
open List renaming cons_append->b5,drop_eq_getElem_cons->lG,getElem?_append_left->rY,getElem?_append_right->vv,getElem?_eq_getElem->cl,getElem?_eq_none->q4,getElem?_eq_some_iff->fI,getElem_of_mem->pB,length_append->qi,length_cons->mT,map_cons->gV,map_nil->rZ,mem_append->kc,mem_cons->gI,mem_cons_of_mem->q5,mem_map->hb,mem_of_getElem?->fu,nil_append->cb,nodup_append->r1,pairwise_iff_getElem->q6,take_length->jz,take_of_length_le->iu
open List.Pairwise renaming map->ayk
open List.cons renaming injEq->rX
open Nat renaming add_mul->q7,le_refl->dP,le_trans->kC,mul_le_mul_right->r2
open Option renaming isSome_iff_exists->fx,isSome_none->lH,map_eq_some_iff->hr,map_some->pC
open Option.some renaming injEq->dU
open Prod.mk renaming injEq->jn
open _root_ renaming False->er,Option->bd,UInt8->cU,and_true->jc,beq_iff_eq->ey,congrArg->fy,decide_eq_false->mX,decide_eq_false_iff_not->iM,decide_eq_true->l6,decide_eq_true_eq->gy,eq_true->h1
namespace Go.Proofs.YtahlgcidhnjlbaaGreat
section
open Go Go.Pv
variable {α:Type} [Inhabited α] {S:List α->cS} {n g cr:Nat} {lc ch:List af} {lt:α->α->Bool}
def wT{p:α->Bool}{d:Array α}{i j:Nat}(h:¬(i<=j/\p d[j]! =true)):Sort.scanDown p d i j=j:=by
 cases j with
 |zero=>rfl
 |succ j=>rw[Sort.scanDown,if_neg (by simpa using h)]
def CM{p:α->Bool}{d:Array α}{i j:Nat}(h:¬(i<=j/\p d[i]! =true)):Sort.scanUp p d j i=i:=by rw[Sort.scanUp,if_neg (by simpa using h)]
def Qc{p:α->Bool}{d:Array α}{i j:Nat}(J:i<=j)(U:p d[i]! =true):Sort.scanUp p d j i=Sort.scanUp p d j (i+1):=by rw[Sort.scanUp,if_pos (by simp[J,U])]
def Qb{p:α->Bool}{d:Array α}{i j:Nat}(J:i<=j+1)(U:p d[j+1]! =true):Sort.scanDown p d i (j+1)=Sort.scanDown p d i j:=by rw[Sort.scanDown,if_pos (by simp[J,U])]
def aje(H:fS S n g cr lc ch lt)(d:Array α)(P:d.size=n)(a b pivot:Nat)(tg:a<=pivot)(akU:pivot<b)(nj:a+1<b)(ag:b<=n):
  bG au 244 [fD g cr lc ch,aj a,aj b,aj pivot] (S d.toList) fun r ak=>r= .tuple [aj (Sort.partition lt d a b pivot).1,.bool (Sort.partition lt d a b pivot).2.1]/\∃N,ak=S N.toList/\N=(Sort.partition lt d a b pivot).2.2/\N.size=n:=by
 obtain⟨R,bs⟩:∃R,R=Sort.partition lt d a b pivot:=⟨_,rfl⟩;rw[<-bs];unfold Sort.partition at bs;have Q:=H.ok d.toList;have k:d.toList.length=n:=by simpa using P
 have U:∀l m,ae (.loc m) (S l).b=none:=fun l=>(H.ok l).obj.1;have hu:∀l m cs,cI (.loc m) cs (S l).b=(S l).b++[(.loc m,cs)]:=fun l m cs=>kM (U l m);have ar:∀m,aB.loc m∉cJ (S d.toList):=kI Q.obj;have hle:=H.le;refine bG.mk mixed a1 Tryz.func244 aoH Ψ Q.obj fun aR c4=>?_;unfold Ti;simp[fD,hu,ar,c6,U];rw[H.ssc];refine H.swapA0 P Ω a pivot Ω Ω fun o=>?_;obtain⟨d1,L⟩:∃d1,d1=Sort.swp d a pivot:=⟨_,rfl⟩;have s1:d1.size=n:=by rw[L,hO,P]
 rw[<-L];simp only[<-L]at bs;have ao:((a:Int)+1)=(a+1:Nat):=Ω
 have aC:((b:Int)-1)=(b-1:Nat):=Ω
 simp;(repeat' first|refine al ?_|simp);rw[ao,aC];refine H.loopA k [1,4,11] (fun(i:Nat)=>[(10,aj i)]) (fun _=>d1) (fun i=>b+1-i) (fun i=>a+1<=i/\i<=b/\Sort.scanUp (fun x=>lt x d1[a]!) d1 (b-1) i=Sort.scanUp (fun x=>lt x d1[a]!) d1 (b-1) (a+1)) (a+1) s1 ⟨Ω,Ω,rfl⟩ (by simp[ae]) aX aX dl ?_;rintro i ⟨i1,i2,i3⟩;simp[ae,H.slc];((repeat' first|refine al ?_|simp[ae,H.slc]|((first|apply ct|apply cz|apply cy)<;>intro h<;>try simp at h))<;>(try exact c3));refine H.lessA s1 i a Ω Ω fun o=>?_;cases O:lt d1[i]! d1[a]!;rotate_left
 ·have E:((i:Int)+1)=(i+1:Nat):=Ω
  simp;(repeat' first|refine al ?_|simp);rw[E];refine bY.whl (i+1) Ω ⟨Ω,Ω,by rw[<-i3];exact(Qc (p:=fun x=>lt x d1[a]!) Ω O).symm⟩ (H.weakC k (by simpa using s1) dl)
 rotate_left
 ·have i4:Sort.scanUp (fun x=>lt x d1[a]!) d1 (b-1) i=i:=CM (by simp[O]);rw[i4]at i3;rw[<-i3]at bs;simp;refine H.loopA k [1,4,10] (fun(j:Nat)=>[(11,aj j)]) (fun _=>d1) (fun j=>j) (fun j=>i<=j+1/\j<=b-1/\Sort.scanDown (fun x=> !lt x d1[a]!) d1 i j=Sort.scanDown (fun x=> !lt x d1[a]!) d1 i (b-1)) (b-1) s1 ⟨Ω,Ω,rfl⟩ (by simp[ae]) aX aX dl ?_;rintro j ⟨il,xU,v⟩;simp[ae,H.slc];((repeat' first|refine al ?_|simp[ae,H.slc,H.ssc]|((first|apply ct|apply cz|apply cy)<;>intro h<;>try simp at h))<;>(try exact c3))
  ·refine H.lessA s1 j a Ω Ω fun o=>?_;cases A:lt d1[j]! d1[a]!
   ·obtain⟨j,rfl⟩:∃dg,j=dg+1:=⟨j-1,Ω⟩;have F:(((j+1:Nat):Int)-1)=(j:Nat):=Ω
    simp;(repeat' first|refine al ?_|simp);try rw[F]
    refine bY.whl j Ω ⟨Ω,Ω,by rw[<-v];exact(Qb (p:=fun x=> !lt x d1[a]!) Ω (by simp[A])).symm⟩ (H.weakC k (by simpa using s1) dl)
   ·have t:Sort.scanDown (fun x=> !lt x d1[a]!) d1 i j=j:=wT (by simp[A]);have Y:i≠j:=fun e=>by subst e;rw[O]at A;cases A
    rw[t]at v;rw[<-v,if_neg Ω]at bs;simp;((repeat' first|refine al ?_|simp[ae,H.slc,H.ssc]|((first|apply ct|apply cz|apply cy)<;>intro h<;>try simp at h))<;>(try exact c3));refine H.swapA s1 Ω i j Ω Ω fun o=>?_;obtain⟨d2,M⟩:∃d2,d2=Sort.swp d1 i j:=⟨_,rfl⟩;have s2:d2.size=n:=by rw[M,hO,s1]
    rw[<-M];rw[<-M]at bs;have bh:((i:Int)+1)=(i+1:Nat):=Ω
    have b4:((j:Int)-1)=(j-1:Nat):=Ω
    simp;(repeat' first|refine al ?_|simp);rw[bh,b4];refine H.loopA k [1,4] (fun(x:(Nat×Nat)×Array α)=>[(10,aj x.1.1),(11,aj x.1.2)]) (·.2) (fun x=>x.1.2+1-x.1.1) (fun x=>x.2.size=n/\(a+1<=x.1.1/\x.1.1<=x.1.2+1/\x.1.2<=b-1)/\Sort.partLoop lt a x.1.1 x.1.2 x.2=Sort.partLoop lt a (i+1) (j-1) d2) ((i+1,j-1),d2) s2 ⟨s2,⟨by simp;omega,by simp;omega,by simp;omega⟩,rfl⟩ (by simp[ae]) aX aX dl ?_;rintro⟨⟨K,dg⟩,c⟩ ⟨f,⟨bN,Z,V⟩,s⟩;simp only at f bN Z V s;rw[Sort.partLoop]at s;generalize kE:Sort.partLoop lt a (i+1) (j-1) d2=G at s bs;simp;refine H.loopA k [1,4,11] (fun(x:Nat)=>[(10,aj x)]) (fun _=>c) (fun x=>b+1-x) (fun x=>K<=x/\x<=dg+1/\Sort.scanUp (fun x=>lt x c[a]!) c dg x=Sort.scanUp (fun x=>lt x c[a]!) c dg K) K f ⟨Ω,Ω,rfl⟩ (by simp[ae]) aX aX dl ?_;rintro p ⟨c2,dD,u⟩;simp[ae,H.slc];((repeat' first|refine al ?_|simp[ae,H.slc]|((first|apply ct|apply cz|apply cy)<;>intro h<;>try simp at h))<;>(try exact c3))
    ·refine H.lessA f p a Ω Ω fun o=>?_;cases J:lt c[p]! c[a]!;rotate_left
     ·have E:((p:Int)+1)=(p+1:Nat):=Ω
      simp;(repeat' first|refine al ?_|simp);rw[E];refine bY.whl (p+1) Ω ⟨Ω,Ω,by rw[<-u];exact(Qc (p:=fun x=>lt x c[a]!) Ω J).symm⟩ (H.weakC k (by simpa using f) dl)
     ·have B:Sort.scanUp (fun x=>lt x c[a]!) c dg p=p:=CM (by simp[J]);rw[B]at u;simp only[<-u]at s;simp;refine H.loopA k [1,4,10] (fun(x:Nat)=>[(11,aj x)]) (fun _=>c) (fun x=>x) (fun x=>p<=x+1/\x<=dg/\Sort.scanDown (fun x=> !lt x c[a]!) c p x=Sort.scanDown (fun x=> !lt x c[a]!) c p dg) dg f ⟨Ω,Ω,rfl⟩ (by simp[ae]) aX aX dl ?_;rintro q ⟨a7,bB,y⟩;simp[ae,H.slc];((repeat' first|refine al ?_|simp[ae,H.slc,H.ssc]|((first|apply ct|apply cz|apply cy)<;>intro h<;>try simp at h))<;>(try exact c3))
      ·refine H.lessA f q a Ω Ω fun o=>?_;cases z:lt c[q]! c[a]!
       ·obtain⟨q,rfl⟩:∃dg,q=dg+1:=⟨q-1,Ω⟩;have F:(((q+1:Nat):Int)-1)=(q:Nat):=Ω
        simp;(repeat' first|refine al ?_|simp);try rw[F]
        refine bY.whl q Ω ⟨Ω,Ω,by rw[<-y];exact(Qb (p:=fun x=> !lt x c[a]!) Ω (by simp[z])).symm⟩ (H.weakC k (by simpa using f) dl)
       ·have w:Sort.scanDown (fun x=> !lt x c[a]!) c p q=q:=wT (by simp[z]);have Y:p≠q:=fun e=>by subst e;rw[J]at z;cases z
        rw[w]at y;simp only[<-y]at s;rw[if_neg Ω,dif_pos Ω]at s;simp;((repeat' first|refine al ?_|simp[ae,H.slc,H.ssc]|((first|apply ct|apply cz|apply cy)<;>intro h<;>try simp at h))<;>(try exact c3));refine H.swapA f Ω p q Ω Ω fun o=>?_;have X:((p:Int)+1)=(p+1:Nat):=Ω
        have W:((q:Int)-1)=(q-1:Nat):=Ω
        simp;(with_reducible repeat' first|((first|apply ct|apply cz|apply cy)<;>intro h<;>try simp at h)|refine al ?_|simp);rw[X,W];refine bY.whl ((p+1,q-1),Sort.swp c p q) d6 ⟨by rw[hO,f],⟨by simp;omega,by simp;omega,by simp;omega⟩,s⟩ (H.weakC k (by simp[hO,f]) dl)
      ·have w:Sort.scanDown (fun x=> !lt x c[a]!) c p q=q:=wT Ω;rw[w]at y;simp only[<-y]at s;rw[if_pos Ω]at s;rw[<-s]at bs;refine H.swapA f Ω q a Ω Ω fun o=>?_;simp;refine H.retR k (d:=Sort.swp c q a) (by rw[hO,f]) (.inl rfl) ?_;simp[dc,ba,bf,a6];rw[bs];exact⟨⟨rfl,rfl⟩,_,rfl,rfl,by rw[hO,f]⟩
    ·have B:Sort.scanUp (fun x=>lt x c[a]!) c dg p=p:=CM Ω;rw[B]at u;simp only[<-u]at s;have w:Sort.scanDown (fun x=> !lt x c[a]!) c p dg=dg:=wT Ω;rw[w,if_pos Ω]at s;rw[<-s]at bs;refine H.loopA k [1,4,10] (fun(x:Nat)=>[(11,aj x)]) (fun _=>c) (fun x=>x) (fun x=>x=dg) dg f rfl (by simp[ae]) aX aX dl ?_;rintro q rfl;simp[ae,H.slc];((repeat' first|refine al ?_|simp[ae,H.slc,H.ssc]|((first|apply ct|apply cz|apply cy)<;>intro h<;>try simp at h))<;>(try exact c3));refine H.swapA f Ω q a Ω Ω fun o=>?_;simp;refine H.retR k (d:=Sort.swp c q a) (by rw[hO,f]) (.inl rfl) ?_;simp[dc,ba,bf,a6];rw[bs];exact⟨⟨rfl,rfl⟩,_,rfl,rfl,by rw[hO,f]⟩
  ·have t:Sort.scanDown (fun x=> !lt x d1[a]!) d1 i j=j:=wT Ω;rw[t]at v;rw[<-v,if_pos Ω]at bs;refine H.swapA s1 Ω j a Ω Ω fun o=>?_;simp;refine H.retR k (d:=Sort.swp d1 j a) (by rw[hO,s1]) (.inl rfl) ?_;simp[dc,ba,bf,a6];rw[bs];exact⟨⟨rfl,rfl⟩,_,rfl,rfl,by rw[hO,s1]⟩
 ·have i4:Sort.scanUp (fun x=>lt x d1[a]!) d1 (b-1) i=i:=CM Ω;rw[i4]at i3;have t:Sort.scanDown (fun x=> !lt x d1[a]!) d1 i (b-1)=b-1:=wT Ω;rw[<-i3,t,if_pos Ω]at bs;refine H.loopA k [1,4,10] (fun(j:Nat)=>[(11,aj j)]) (fun _=>d1) (fun j=>j) (fun j=>j=b-1) (b-1) s1 rfl (by simp[ae]) aX aX dl ?_;rintro j rfl;simp[ae,H.slc];((repeat' first|refine al ?_|simp[ae,H.slc,H.ssc]|((first|apply ct|apply cz|apply cy)<;>intro h<;>try simp at h))<;>(try exact c3));refine H.swapA s1 Ω (b-1) a Ω Ω fun o=>?_;simp;refine H.retR k (d:=Sort.swp d1 (b-1) a) (by rw[hO,s1]) (.inl rfl) ?_;simp[dc,ba,bf,a6];rw[bs];exact⟨⟨rfl,rfl⟩,_,rfl,rfl,by rw[hO,s1]⟩
end
section
open Go Go.Pv
variable {α:Type} [Inhabited α] {S:List α->cS} {n g cr:Nat} {lc ch:List af} {lt:α->α->Bool}
def ajf(H:fS S n g cr lc ch lt)(d:Array α)(B:d.size=n)(a b pivot:Nat)(W:a<=pivot)(Q:pivot<b)(X:a+1<b)(ag:b<=n):
  bG au 243 [fD g cr lc ch,aj a,aj b,aj pivot] (S d.toList) fun r U=>r=aj (Sort.partitionEqual lt d a b pivot).1/\∃A,U=S A.toList/\A=(Sort.partitionEqual lt d a b pivot).2/\A.size=n:=by
 obtain⟨R,bs⟩:∃R,R=Sort.partitionEqual lt d a b pivot:=⟨_,rfl⟩;rw[<-bs];unfold Sort.partitionEqual at bs;have E:=H.ok d.toList;have j:d.toList.length=n:=by simpa using B
 have F:∀l m,ae (.loc m) (S l).b=none:=fun l=>(H.ok l).obj.1;have hu:∀l m cs,cI (.loc m) cs (S l).b=(S l).b++[(.loc m,cs)]:=fun l m cs=>kM (F l m);have ar:∀m,aB.loc m∉cJ (S d.toList):=kI E.obj;have hle:=H.le;refine bG.mk mixed a1 Tryz.func243 aoG Ψ E.obj fun aR c4=>?_;unfold Th;simp[fD,hu,ar,c6,F];rw[H.ssc];refine H.swapA0 B Ω a pivot Ω Ω fun o=>?_;obtain⟨d1,z⟩:∃d1,d1=Sort.swp d a pivot:=⟨_,rfl⟩;have s1:d1.size=n:=by rw[z,hO,B]
 rw[<-z];rw[<-z]at bs;have P:((a:Int)+1)=(a+1:Nat):=Ω
 have V:((b:Int)-1)=(b-1:Nat):=Ω
 simp;(repeat' first|refine al ?_|simp);rw[P,V];refine H.loopA j [1,4] (fun(x:(Nat×Nat)×Array α)=>[(9,aj x.1.1),(10,aj x.1.2)]) (·.2) (fun x=>x.1.2+1-x.1.1) (fun x=>x.2.size=n/\(a+1<=x.1.1/\x.1.1<=x.1.2+1/\x.1.2<=b-1)/\Sort.partEqLoop lt a x.1.1 x.1.2 x.2=R) ((a+1,b-1),d1) s1 ⟨s1,⟨Ψ,by simp;omega,Ψ⟩,bs.symm⟩ (by simp[ae]) aX aX dl ?_;rintro⟨⟨y,dg⟩,c⟩ ⟨f,⟨O,N,K⟩,i⟩;simp only at f O N K i;rw[Sort.partEqLoop]at i;simp;refine H.loopA j [1,4,10] (fun(x:Nat)=>[(9,aj x)]) (fun _=>c) (fun x=>b+1-x) (fun x=>y<=x/\x<=dg+1/\Sort.scanUp (fun x=> !lt c[a]! x) c dg x=Sort.scanUp (fun x=> !lt c[a]! x) c dg y) y f ⟨Ω,Ω,rfl⟩ (by simp[ae]) aX aX dl ?_;rintro p ⟨c2,Y,k⟩;simp[ae,H.slc];((repeat' first|refine al ?_|simp[ae,H.slc]|((first|apply ct|apply cz|apply cy)<;>intro h<;>try simp at h))<;>(try exact c3))
 ·refine H.lessA f a p Ω Ω fun o=>?_;cases w:lt c[a]! c[p]!
  ·have G:((p:Int)+1)=(p+1:Nat):=Ω
   simp;(repeat' first|refine al ?_|simp);rw[G];refine bY.whl (p+1) Ω ⟨Ω,Ω,by rw[<-k];exact(Qc (p:=fun x=> !lt c[a]! x) Ω (by simp[w])).symm⟩ (H.weakC j (by simpa using f) dl)
  ·have v:Sort.scanUp (fun x=> !lt c[a]! x) c dg p=p:=CM (by simp[w]);rw[v]at k;simp only[<-k]at i;simp;refine H.loopA j [1,4,9] (fun(x:Nat)=>[(10,aj x)]) (fun _=>c) (fun x=>x) (fun x=>p<=x+1/\x<=dg/\Sort.scanDown (fun x=>lt c[a]! x) c p x=Sort.scanDown (fun x=>lt c[a]! x) c p dg) dg f ⟨Ω,Ω,rfl⟩ (by simp[ae]) aX aX dl ?_;rintro q ⟨a7,bB,t⟩;simp[ae,H.slc];((repeat' first|refine al ?_|simp[ae,H.slc,H.ssc]|((first|apply ct|apply cz|apply cy)<;>intro h<;>try simp at h))<;>(try exact c3))
   ·refine H.lessA f a q Ω Ω fun o=>?_;cases u:lt c[a]! c[q]!;rotate_left
    ·obtain⟨q,rfl⟩:∃dg,q=dg+1:=⟨q-1,Ω⟩;have J:(((q+1:Nat):Int)-1)=(q:Nat):=Ω
     simp;(repeat' first|refine al ?_|simp);try rw[J]
     refine bY.whl q Ω ⟨Ω,Ω,by rw[<-t];exact(Qb (p:=fun x=>lt c[a]! x) Ω (by simp[u])).symm⟩ (H.weakC j (by simpa using f) dl)
    ·have s:Sort.scanDown (fun x=>lt c[a]! x) c p q=q:=wT (by simp[u]);have Z:p≠q:=fun e=>by subst e;rw[w]at u;cases u
     rw[s]at t;simp only[<-t]at i;rw[if_neg Ω,dif_pos Ω]at i;simp;((repeat' first|refine al ?_|simp[ae,H.slc,H.ssc]|((first|apply ct|apply cz|apply cy)<;>intro h<;>try simp at h))<;>(try exact c3));refine H.swapA f Ω p q Ω Ω fun o=>?_;have M:((p:Int)+1)=(p+1:Nat):=Ω
     have L:((q:Int)-1)=(q-1:Nat):=Ω
     simp;(with_reducible repeat' first|((first|apply ct|apply cz|apply cy)<;>intro h<;>try simp at h)|refine al ?_|simp);rw[M,L];refine bY.whl ((p+1,q-1),Sort.swp c p q) d6 ⟨by rw[hO,f],⟨by simp;omega,by simp;omega,by simp;omega⟩,i⟩ (H.weakC j (by simp[hO,f]) dl)
   ·have s:Sort.scanDown (fun x=>lt c[a]! x) c p q=q:=wT Ω;rw[s]at t;simp only[<-t]at i;rw[if_pos Ω]at i;refine H.retR j (d:=c) f (.inl rfl) ?_;simp[dc,ba,bf,a6];rw[<-i];exact⟨rfl,_,rfl,rfl,f⟩
 ·have v:Sort.scanUp (fun x=> !lt c[a]! x) c dg p=p:=CM Ω;rw[v]at k;simp only[<-k]at i;have s:Sort.scanDown (fun x=>lt c[a]! x) c p dg=dg:=wT Ω;rw[s,if_pos Ω]at i;refine H.loopA j [1,4,9] (fun(x:Nat)=>[(10,aj x)]) (fun _=>c) (fun x=>x) (fun x=>x=dg) dg f rfl (by simp[ae]) aX aX dl ?_;rintro q rfl;simp[ae,H.slc];((repeat' first|refine al ?_|simp[ae,H.slc,H.ssc]|((first|apply ct|apply cz|apply cy)<;>intro h<;>try simp at h))<;>(try exact c3));refine H.retR j (d:=c) f (.inl rfl) ?_;simp[dc,ba,bf,a6];rw[<-i];exact⟨rfl,_,rfl,rfl,f⟩
end
section
open Go Go.Pv
variable {α:Type} [Inhabited α] {S:List α->cS} {n g cr:Nat} {lc ch:List af} {lt:α->α->Bool}
def ajd(H:fS S n g cr lc ch lt)(d:Array α)(W:d.size=n)(a b:Nat)(nj:a<b)(ag:b<=n)(U:2<=n):
  bG au 242 [fD g cr lc ch,aj a,aj b] (S d.toList) fun r ak=>r= .bool (Sort.partialInsertionSort lt d a b).2/\∃Q,ak=S Q.toList/\Q=(Sort.partialInsertionSort lt d a b).1/\Q.size=n:=by
 obtain⟨R,bs⟩:∃R,R=Sort.partialInsertionSort lt d a b:=⟨_,rfl⟩;rw[<-bs];unfold Sort.partialInsertionSort at bs;have Z:=H.ok d.toList;have k:d.toList.length=n:=by simpa using W
 have X:∀l m,ae (.loc m) (S l).b=none:=fun l=>(H.ok l).obj.1;have hu:∀l m cs,cI (.loc m) cs (S l).b=(S l).b++[(.loc m,cs)]:=fun l m cs=>kM (X l m);have ar:∀m,aB.loc m∉cJ (S d.toList):=kI Z.obj;have hle:=H.le;refine bG.mk mixed a1 Tryz.func242 aoF Ψ Z.obj fun aR c4=>?_;unfold Tg;simp[fD,hu,ar,c6,X];have ao:((a:Int)+1)=(a+1:Nat):=Ω
 (repeat' first|refine al ?_|simp);rw[ao];refine H.loopA k [1,2,3] (fun(x:(Nat×Nat)×Array α)=>[(7,aj x.1.1),(8,aj x.1.2)]) (·.2) (fun x=>5-x.1.2) (fun x=>x.2.size=n/\(a+1<=x.1.1/\x.1.1<=b/\x.1.2<=5)/\Sort.partialIns lt a b (5-x.1.2) x.1.1 x.2=R) ((a+1,0),d) W ⟨W,⟨Ψ,by simp;omega,Ψ⟩,bs.symm⟩ (by simp[c6,X]) aX aX dl ?_;rintro⟨⟨i0,s⟩,z⟩ ⟨w,⟨bN,cn,eC⟩,c⟩;simp only at w bN cn eC c;simp;((repeat' first|refine al ?_|simp|((first|apply ct|apply cz|apply cy)<;>intro h<;>try simp at h))<;>(try exact c3))
 ·obtain⟨m,hm⟩:∃m,5-s=m+1:=⟨5-s-1,Ω⟩;rw[hm,Sort.partialIns]at c;refine H.loopA k [1,2,3,8] (fun(x:Nat)=>[(7,aj x)]) (fun _=>z) (fun x=>b-x) (fun x=>i0<=x/\x<=b/\Sort.scanSorted lt z b x=Sort.scanSorted lt z b i0) i0 w ⟨Ω,Ω,rfl⟩ (by simp[ae]) aX aX dl ?_;rintro i ⟨i1,i2,i3⟩;rw[Sort.scanSorted]at i3;have M:((i:Int)+1)=(i+1:Nat):=Ω
  have N:((i:Int)-1)=(i-1:Nat):=Ω
  have es:((s:Int)+1)=(s+1:Nat):=Ω
  have em:5-(s+1)=m:=Ω
  simp[ae,H.slc];((repeat' first|refine al ?_|simp[ae,H.slc]|((first|apply ct|apply cz|apply cy)<;>intro h<;>try simp at h))<;>(try exact c3))
  ·rw[N];refine H.lessA w i (i-1) Ω Ω fun o=>?_;cases ad:lt z[i]! z[i-1]!
   ·rw[if_pos (by simp[ad];omega)]at i3;simp;(repeat' first|refine al ?_|simp);rw[M];refine bY.whl (i+1) Ω ⟨Ω,Ω,i3⟩ (H.weakC k (by simpa using w) dl)
   ·rw[if_neg (by simp[ad])]at i3;simp only[<-i3]at c;rw[if_neg Ω]at c;have Bz:(i:Int)≠b:=Ω
    have V:((i:Int)==b)=false:=by simp;omega
    simp;((repeat' first|refine al ?_|simp[Bz,V,ae,H.slc,H.ssc]|((first|apply ct|apply cz|apply cy)<;>intro h<;>try simp at h))<;>(try exact c3))
    ·rw[if_pos Ω]at c;refine H.retR k (d:=z) w (.inl rfl) ?_;simp[dc,ba,bf,a6];rw[<-c];exact⟨rfl,_,rfl,rfl,w⟩
    ·rw[if_neg Ω]at c;rw[N];refine H.swapA w U i (i-1) Ω Ω fun o=>?_;obtain⟨d2,P⟩:∃d2,d2=Sort.swp z i (i-1):=⟨_,rfl⟩;have s2:d2.size=n:=by rw[P,hO,w]
     rw[<-P];simp only[<-P]at c;by_cases Y:2<=b-i
     ·rw[if_pos Y]at c;have y:(2:Int)<=(b:Int)-i:=Ω
      by_cases L:2<=i-a
      ·rw[if_pos L]at c;have B:(2:Int)<=(i:Int)-a:=Ω
       simp;(repeat' first|refine al ?_|simp[B]);rw[N];refine H.loopA k [1,2,3,7,8] (fun(x:Nat×Array α)=>[(9,aj x.1)]) (·.2) (fun x=>x.1) (fun x=>x.2.size=n/\x.1<=i-1/\Sort.shiftDown lt x.1 x.2=Sort.shiftDown lt (i-1) d2) (i-1,d2) s2 ⟨s2,Ψ,rfl⟩ (by simp[ae]) aX aX dl ?_;rintro⟨j,v⟩ ⟨p,O,u⟩;simp only at p O u;simp[ae,H.slc,H.ssc];((repeat' first|refine al ?_|simp[ae,H.slc,H.ssc,y]|((first|apply ct|apply cz|apply cy)<;>intro h<;>try simp at h))<;>(try exact c3))
       ·obtain⟨j,rfl⟩:∃dg,j=dg+1:=⟨j-1,Ω⟩;have E:(((j+1:Nat):Int)-1)=(j:Nat):=Ω
        rw[Sort.shiftDown]at u;try rw[E]
        refine H.lessA p (j+1) j Ω Ω fun o=>?_;cases J:lt v[j+1]! v[j]!
        ·rw[if_pos (by simp[J])]at u;rw[<-u]at c;try simp
         try(repeat' first|refine al ?_|simp[ae,H.slc,H.ssc,y])
         rw[M];refine H.loopA k [1,2,3,7,8] (fun(x:Nat×Array α)=>[(10,aj x.1)]) (·.2) (fun x=>b-x.1) (fun x=>x.2.size=n/\(i+1<=x.1/\x.1<=b)/\Sort.shiftUp lt b x.1 x.2=Sort.shiftUp lt b (i+1) v) (i+1,v) p ⟨p,⟨Ψ,by simp;omega⟩,rfl⟩ (by simp[ae]) aX aX dl ?_;rintro⟨q,t⟩ ⟨f,⟨G,F⟩,e⟩;simp only at f G F e;rw[Sort.shiftUp]at e;have eq:((q:Int)-1)=(q-1:Nat):=Ω
         have K:((q:Int)+1)=(q+1:Nat):=Ω
         simp[ae,H.slc,H.ssc];((repeat' first|refine al ?_|simp[ae,H.slc,H.ssc]|((first|apply ct|apply cz|apply cy)<;>intro h<;>try simp at h))<;>(try exact c3))
         ·rw[if_pos Ω]at e;rw[eq];refine H.lessA f q (q-1) Ω Ω fun o=>?_;cases A:lt t[q]! t[q-1]!
          ·rw[if_pos (by simp[A])]at e;rw[<-e]at c;simp;(repeat' first|refine al ?_|simp);rw[es];refine bY.whl ((i,s+1),t) d6 ⟨f,⟨by simp;omega,by simp;omega,by simp;omega⟩,by simp only[em];exact c⟩ (H.weakC k (by simpa using f) dl)
          ·rw[if_neg (by simp[A])]at e;simp;(repeat' first|refine al ?_|simp[ae,H.slc,H.ssc]);rw[eq];refine H.swapA f Ω q (q-1) Ω Ω fun o=>?_;simp;((repeat' first|refine al ?_|simp|((first|apply ct|apply cz|apply cy)<;>intro h<;>try simp at h))<;>(try exact c3));rw[K];refine bY.whl (q+1,Sort.swp t q (q-1)) d6 ⟨by rw[hO,f],⟨by simp;omega,by simp;omega⟩,e⟩ (H.weakC k (by simp[hO,f]) dl)
         ·rw[if_neg Ω]at e;rw[<-e]at c;rw[es];refine bY.whl ((i,s+1),t) d6 ⟨f,⟨by simp;omega,by simp;omega,by simp;omega⟩,by simp only[em];exact c⟩ (H.weakC k (by simpa using f) dl)
        ·rw[if_neg (by simp[J])]at u;simp;(repeat' first|refine al ?_|simp[ae,H.slc,H.ssc]);try rw[E]
         refine H.swapA p U (j+1) j Ω Ω fun o=>?_;simp;((repeat' first|refine al ?_|simp|((first|apply ct|apply cz|apply cy)<;>intro h<;>try simp at h))<;>(try exact c3));try rw[E]
         refine bY.whl (j,Sort.swp v (j+1) j) Ψ ⟨by rw[hO,p],by simp;omega,u⟩ (H.weakC k (by simp[hO,p]) dl)
       ·obtain rfl:j=0:=Ω
        rw[Sort.shiftDown]at u;rw[<-u]at c;try simp
        try(repeat' first|refine al ?_|simp[ae,H.slc,H.ssc,y])
        rw[M];refine H.loopA k [1,2,3,7,8] (fun(x:Nat×Array α)=>[(10,aj x.1)]) (·.2) (fun x=>b-x.1) (fun x=>x.2.size=n/\(i+1<=x.1/\x.1<=b)/\Sort.shiftUp lt b x.1 x.2=Sort.shiftUp lt b (i+1) v) (i+1,v) p ⟨p,⟨Ψ,by simp;omega⟩,rfl⟩ (by simp[ae]) aX aX dl ?_;rintro⟨q,t⟩ ⟨f,⟨G,F⟩,e⟩;simp only at f G F e;rw[Sort.shiftUp]at e;have eq:((q:Int)-1)=(q-1:Nat):=Ω
        have K:((q:Int)+1)=(q+1:Nat):=Ω
        simp[ae,H.slc,H.ssc];((repeat' first|refine al ?_|simp[ae,H.slc,H.ssc]|((first|apply ct|apply cz|apply cy)<;>intro h<;>try simp at h))<;>(try exact c3))
        ·rw[if_pos Ω]at e;rw[eq];refine H.lessA f q (q-1) Ω Ω fun o=>?_;cases A:lt t[q]! t[q-1]!
         ·rw[if_pos (by simp[A])]at e;rw[<-e]at c;simp;(repeat' first|refine al ?_|simp);rw[es];refine bY.whl ((i,s+1),t) d6 ⟨f,⟨by simp;omega,by simp;omega,by simp;omega⟩,by simp only[em];exact c⟩ (H.weakC k (by simpa using f) dl)
         ·rw[if_neg (by simp[A])]at e;simp;(repeat' first|refine al ?_|simp[ae,H.slc,H.ssc]);rw[eq];refine H.swapA f Ω q (q-1) Ω Ω fun o=>?_;simp;((repeat' first|refine al ?_|simp|((first|apply ct|apply cz|apply cy)<;>intro h<;>try simp at h))<;>(try exact c3));rw[K];refine bY.whl (q+1,Sort.swp t q (q-1)) d6 ⟨by rw[hO,f],⟨by simp;omega,by simp;omega⟩,e⟩ (H.weakC k (by simp[hO,f]) dl)
        ·rw[if_neg Ω]at e;rw[<-e]at c;rw[es];refine bY.whl ((i,s+1),t) d6 ⟨f,⟨by simp;omega,by simp;omega,by simp;omega⟩,by simp only[em];exact c⟩ (H.weakC k (by simpa using f) dl)
      ·rw[if_neg L]at c;have B:¬(2:Int)<=(i:Int)-a:=Ω
       simp;(repeat' first|refine al ?_|simp[B,y]);try simp
       try(repeat' first|refine al ?_|simp[ae,H.slc,H.ssc,y])
       rw[M];refine H.loopA k [1,2,3,7,8] (fun(x:Nat×Array α)=>[(10,aj x.1)]) (·.2) (fun x=>b-x.1) (fun x=>x.2.size=n/\(i+1<=x.1/\x.1<=b)/\Sort.shiftUp lt b x.1 x.2=Sort.shiftUp lt b (i+1) d2) (i+1,d2) s2 ⟨s2,⟨Ψ,by simp;omega⟩,rfl⟩ (by simp[ae]) aX aX dl ?_;rintro⟨q,t⟩ ⟨f,⟨G,F⟩,e⟩;simp only at f G F e;rw[Sort.shiftUp]at e;have eq:((q:Int)-1)=(q-1:Nat):=Ω
       have K:((q:Int)+1)=(q+1:Nat):=Ω
       simp[ae,H.slc,H.ssc];((repeat' first|refine al ?_|simp[ae,H.slc,H.ssc]|((first|apply ct|apply cz|apply cy)<;>intro h<;>try simp at h))<;>(try exact c3))
       ·rw[if_pos Ω]at e;rw[eq];refine H.lessA f q (q-1) Ω Ω fun o=>?_;cases A:lt t[q]! t[q-1]!
        ·rw[if_pos (by simp[A])]at e;rw[<-e]at c;simp;(repeat' first|refine al ?_|simp);rw[es];refine bY.whl ((i,s+1),t) d6 ⟨f,⟨by simp;omega,by simp;omega,by simp;omega⟩,by simp only[em];exact c⟩ (H.weakC k (by simpa using f) dl)
        ·rw[if_neg (by simp[A])]at e;simp;(repeat' first|refine al ?_|simp[ae,H.slc,H.ssc]);rw[eq];refine H.swapA f Ω q (q-1) Ω Ω fun o=>?_;simp;((repeat' first|refine al ?_|simp|((first|apply ct|apply cz|apply cy)<;>intro h<;>try simp at h))<;>(try exact c3));rw[K];refine bY.whl (q+1,Sort.swp t q (q-1)) d6 ⟨by rw[hO,f],⟨by simp;omega,by simp;omega⟩,e⟩ (H.weakC k (by simp[hO,f]) dl)
       ·rw[if_neg Ω]at e;rw[<-e]at c;rw[es];refine bY.whl ((i,s+1),t) d6 ⟨f,⟨by simp;omega,by simp;omega,by simp;omega⟩,by simp only[em];exact c⟩ (H.weakC k (by simpa using f) dl)
     ·rw[if_neg Y]at c;have y:¬(2:Int)<=(b:Int)-i:=Ω
      by_cases L:2<=i-a
      ·rw[if_pos L]at c;have B:(2:Int)<=(i:Int)-a:=Ω
       simp;(repeat' first|refine al ?_|simp[B]);rw[N];refine H.loopA k [1,2,3,7,8] (fun(x:Nat×Array α)=>[(9,aj x.1)]) (·.2) (fun x=>x.1) (fun x=>x.2.size=n/\x.1<=i-1/\Sort.shiftDown lt x.1 x.2=Sort.shiftDown lt (i-1) d2) (i-1,d2) s2 ⟨s2,Ψ,rfl⟩ (by simp[ae]) aX aX dl ?_;rintro⟨j,v⟩ ⟨p,O,u⟩;simp only at p O u;simp[ae,H.slc,H.ssc];((repeat' first|refine al ?_|simp[ae,H.slc,H.ssc,y]|((first|apply ct|apply cz|apply cy)<;>intro h<;>try simp at h))<;>(try exact c3))
       ·obtain⟨j,rfl⟩:∃dg,j=dg+1:=⟨j-1,Ω⟩;have E:(((j+1:Nat):Int)-1)=(j:Nat):=Ω
        rw[Sort.shiftDown]at u;try rw[E]
        refine H.lessA p (j+1) j Ω Ω fun o=>?_;cases J:lt v[j+1]! v[j]!
        ·rw[if_pos (by simp[J])]at u;rw[<-u]at c;try simp
         try(repeat' first|refine al ?_|simp[ae,H.slc,H.ssc,y])
         rw[es];refine bY.whl ((i,s+1),v) d6 ⟨p,⟨by simp;omega,by simp;omega,by simp;omega⟩,by simp only[em];exact c⟩ (H.weakC k (by simpa using p) dl)
        ·rw[if_neg (by simp[J])]at u;simp;(repeat' first|refine al ?_|simp[ae,H.slc,H.ssc]);try rw[E]
         refine H.swapA p U (j+1) j Ω Ω fun o=>?_;simp;((repeat' first|refine al ?_|simp|((first|apply ct|apply cz|apply cy)<;>intro h<;>try simp at h))<;>(try exact c3));try rw[E]
         refine bY.whl (j,Sort.swp v (j+1) j) Ψ ⟨by rw[hO,p],by simp;omega,u⟩ (H.weakC k (by simp[hO,p]) dl)
       ·obtain rfl:j=0:=Ω
        rw[Sort.shiftDown]at u;rw[<-u]at c;try simp
        try(repeat' first|refine al ?_|simp[ae,H.slc,H.ssc,y])
        rw[es];refine bY.whl ((i,s+1),v) d6 ⟨p,⟨by simp;omega,by simp;omega,by simp;omega⟩,by simp only[em];exact c⟩ (H.weakC k (by simpa using p) dl)
      ·rw[if_neg L]at c;have B:¬(2:Int)<=(i:Int)-a:=Ω
       simp;((repeat' first|refine al ?_|simp[B,y]|((first|apply ct|apply cz|apply cy)<;>intro h<;>try simp at h))<;>(try exact c3));done
  ·rw[if_neg d6]at i3;simp only[<-i3]at c;rw[if_pos Ω]at c;refine H.retR k (d:=z) w (.inl rfl) ?_;simp[dc,ba,bf,a6];rw[<-c];exact⟨rfl,_,rfl,rfl,w⟩
 ·have:5-s=0:=Ω
  rw[this,Sort.partialIns]at c;refine H.retR k (d:=z) w (.inl rfl) ?_;simp[dc,ba,bf,a6];rw[<-c];exact⟨rfl,_,rfl,rfl,w⟩
end
section
open Go Go.Pv
variable {α:Type} [Inhabited α] {S:List α->cS} {n g cr:Nat} {lc ch:List af} {lt:α->α->Bool}
def fX(S:List α->cS)(d:Array α)(v:Nat):cS:=⟨(.obj 901,[aj v])::(S d.toList).b,(S d.toList).e⟩
def tQ(S:List α->cS)(m:Nat):Prop:= ∀l,ae (.obj m) (S l).b=none/\ae (.obj m) (S l).e=none
def oW(H:fS S n g cr lc ch lt)(d:Array α)(v:Nat):eA (fX S d v):=by
 have h:=H.ok d.toList;have a:∀k,aM (S d.toList) k->aM (fX S d v) k:=fun k ab=>by
  rcases ab with ab|ab
  ·refine .inl ?_;simp only[fX,ae];split
   ·rfl
   ·exact ab
  ·exact .inr ab
 refine⟨⟨fun m=>?_,h.obj.2⟩,fun k cs ab=>?_,fun k o ar xs b=>ji a _ (h.ke k o ar xs b)⟩
 ·simp[fX,ae,h.obj.1 m]
 ·simp only[fX,ae]at ab;split at ab
  ·cases ab;simp[aH,az]
  ·exact ji a _ (h.kb k cs ab)
def ur(d:Array α)(v v':Nat):Same (fX S d v) (fX S d v'):=⟨fun k=>by simp only[fX,ae];split<;>rfl,fun _=>rfl⟩
def Ms(H:fS S n g cr lc ch lt)(ab:tQ S 901)(d:Array α)(z:d.size=n)(a b v:Nat)(J:a<n)(K:b<n)(M:v<=1000):
  bG au 271 [fD g cr lc ch,aj a,aj b,.ptr (.obj 901) 0] (fX S d v) fun r f=>r= .tuple [aj (Sort.order2 lt d a b v).1,aj (Sort.order2 lt d a b v).2.1]/\f=fX S d (Sort.order2 lt d a b v).2.2:=by
 have w:=H.ok d.toList;have s:d.toList.length=n:=by simpa using z
 have h:∀l m,ae (.loc m) (S l).b=none:=fun l=>(H.ok l).obj.1;have hu:∀l m cs,cI (.loc m) cs (S l).b=(S l).b++[(.loc m,cs)]:=fun l m cs=>kM (h l m);have ar:∀m,aB.loc m∉cJ (S d.toList):=kI w.obj;have p:∀l,ae (.obj 901) (S l).b=none:=fun l=>(ab l).1;have F:∀l,ae (.obj 901) (S l).e=none:=fun l=>(ab l).2;have hle:=H.le;have j:=oW H d v;obtain⟨R,bs⟩:∃R,R=Sort.order2 lt d a b v:=⟨_,rfl⟩;rw[<-bs];unfold Sort.order2 at bs;refine bG.mk mixed a1 Tryz.func271 aoE Ψ j.obj fun L G=>?_;unfold Tf;have i:aB.loc 0∉cJ (fX S d v):=kI j.obj 0;generalize E:cJ (fX S d v)=ob at i⊢;unfold fX;simp[fD,hu,i,c6,h,ae,cI];rw[H.slc];refine CallDo.ob (H.less d.toList s b a _ _ (AN Ω) (AN Ω)) (H.ok _) (fun k cs c=>?_) (fun _ _ c=>c) (by simp[az,aH,H.klc d.toList s]) ?_
 ·simp only[ae];split
  ·rename_i e;subst e;rw[p]at c;cases c
  ·rw[c6,c]
 rintro r f ⟨rfl,rfl⟩;refine⟨Same.refl _,?_⟩;have hw:cK (S d.toList).b ((aB.obj 901,[af.int .i64 v])::((S d.toList).b++[(aB.loc 0,[af.func g lc,af.func cr ch])]))=[(aB.obj 901,[af.int .i64 v]),(aB.loc 0,[af.func g lc,af.func cr ch])]:=by simp only[cK,p];rw[jx,hF];simp[cK,h]
 rw[hw,hF];have q:∀(t:List (Nat×af)) (o:List aB) (v':Nat) (aY:List af) (x y:Nat),Pv.get 8 t=aj x->Pv.get 9 t=aj y->R=(x,y,v')->
   c5 [.tmp 8,.tmp 9] (fX S d v) (fun r f=>r= .tuple [aj R.1,aj R.2.1]/\f=fX S d R.2.2) .ret ⟨t,(aB.obj 901,[aj v'])::(aB.loc 0,aY)::(S d.toList).b,(S d.toList).e,1,o⟩:=by
  rintro t o v' aY x y c A rfl;refine c5.at (fX S d v') (.inl rfl) (oW H d v') (ur _ _ _) (fun k cs ax=>?_) (fun _ _ ax=>ax) ?_
  ·simp only[fX,ae]at ax⊢;split at ax
   ·rename_i e;rw[if_pos e];exact ax
   ·rename_i e;rw[if_neg e];split
    ·rename_i B;subst B;rw[h]at ax;cases ax
    ·exact ax
  ·simp[dc,ba,bf,a6,c,A]
 cases c:lt d[b]! d[a]! with
 |true=>
  rw[if_pos c]at bs;simp[ae,cI];(with_reducible repeat' first|refine al ?_|simp[ae,cI]);have u:((v:Int)+1)=(v+1:Nat):=Ω
  rw[u];exact q _ _ (v+1) _ b a rfl rfl bs
 |false=>rw[if_neg (by simp[c])]at bs;simp[ae,cI];exact q _ _ v _ a b rfl rfl bs
def Zb{s a:cS}{f:Nat}{args:List af}{r:af}(j:bG au f args s fun g t'=>g=r/\t'=a)(c:eA s)(e:Same s a)(ab:aH (aM s) args){t:List (Nat×af)}{aY:List af}{o:List aB}{d:bd Nat}{K:bp->Prop}
  (h:∀o,K ⟨e7 d r t,(.loc 0,aY)::a.b,a.e,1,o⟩):CallDo au f args ⟨t,s.b++[(.loc 0,aY)],s.e,1,o⟩ d K:=by
 refine CallDo.ob j c (fun k cs b=>by rw[c6,b]) (fun _ _ b=>b) ab ?_;rintro r a ⟨rfl,rfl⟩;refine⟨e,?_⟩;have i:cK s.b (s.b++[(.loc 0,aY)])=[(.loc 0,aY)]:=by rw[jx,hF];simp[cK,c.obj.1 0]
 have l:cK s.e s.e=[]:=hF _;simp only[i,l];exact h _
def E4{s a:cS}{f:Nat}{args:List af}{r:af}(j:bG au f args s fun g t'=>g=r/\t'=a)(c:eA s)(e:Same s a)(ab:aH (aM s) args){t:List (Nat×af)}{aY:List af}{o:List aB}{d:bd Nat}{K:bp->Prop}
  (h:∀o,K ⟨e7 d r t,(.loc 0,aY)::a.b,a.e,1,o⟩):CallDo au f args ⟨t,(.loc 0,aY)::s.b,s.e,1,o⟩ d K:=by
 refine CallDo.ob j c (fun k cs b=>?_) (fun _ _ b=>b) ab ?_
 ·cases k with
  |loc m=>rw[c.obj.1 m]at b;cases b
  |obj m=>simpa[ae]using b
 rintro r a ⟨rfl,rfl⟩;refine⟨e,?_⟩;have i:cK s.b ((.loc 0,aY)::s.b)=[(.loc 0,aY)]:=by have:=jx s.b [(aB.loc 0,aY)] s.b;rw[hF]at this;simpa[cK,c.obj.1 0]using this
 have l:cK s.e s.e=[]:=hF _;simp only[i,l];exact h _
def Ct{d:Array α}{a b v n:Nat}(c:a<n)(e:b<n):(Sort.order2 lt d a b v).1<n/\(Sort.order2 lt d a b v).2.1<n/\(Sort.order2 lt d a b v).2.2<=v+1:=by unfold Sort.order2;split<;>simp<;>omega
def wA(H:fS S n g cr lc ch lt){d:Array α}(a:d.size=n){v:Nat}:az (aM (fX S d v)) (fD g cr lc ch)/\az (aM (fX S d v)) (.ptr (.obj 901) 0):=by
 refine⟨tJ (fun k ab=>?_) _ (H.kdata (lk:=d.toList) (by simpa using a)),by simp[az,aM,fX,ae]⟩;rcases ab with ab|ab
 ·refine .inl ?_;simp only[fX,ae];split
  ·rfl
  ·exact ab
 ·exact .inr ab
def abr(H:fS S n g cr lc ch lt){d:Array α}{v v':Nat}{b:List bW}{Q:af->cS->Prop}{t:List (Nat×af)}{aY:List af}{o:List aB}(h:dc ⟨t,(.loc 0,aY)::(fX S d v').b,(S d.toList).e,1,o⟩ b fun r=>az (aM (fX S d v')) r/\Q r (fX S d v')):
  c5 b (fX S d v) Q .ret ⟨t,(.loc 0,aY)::(fX S d v').b,(S d.toList).e,1,o⟩:=by
 refine c5.at (fX S d v') (.inl rfl) (oW H d v') (ur _ _ _) (fun k cs a=>?_) (fun _ _ ax=>ax) h;cases k with
 |loc m=>rw[(oW H d v').obj.1 m]at a;cases a
 |obj m=>simpa[ae]using a
def Mp(H:fS S n g cr lc ch lt)(ab:tQ S 901)(d:Array α)(e:d.size=n)(a b c v:Nat)(u:a<n)(w:b<n)(ax:c<n)(M:v<=900):
  bG au 256 [fD g cr lc ch,aj a,aj b,aj c,.ptr (.obj 901) 0] (fX S d v) fun r E=>r=aj (Sort.median lt d a b c v).1/\E=fX S d (Sort.median lt d a b c v).2:=by
 have q:=oW H d v;have p:∀v m,ae (.loc m) (fX S d v).b=none:=fun v=>(oW H d v).obj.1;have F:∀v m cs,cI (.loc m) cs (fX S d v).b=(fX S d v).b++[(.loc m,cs)]:=fun v m cs=>kM (p v m);have y:aB.loc 0∉cJ (fX S d v):=kI q.obj 0;obtain⟨R,bs⟩:∃R,R=Sort.median lt d a b c v:=⟨_,rfl⟩;rw[<-bs];unfold Sort.median at bs;have f:=Ct (lt:=lt) (d:=d) (v:=v) u w;have k:=Ms H ab d e a b v u w Ω;generalize Sort.order2 lt d a b v=B at f k bs;obtain⟨l,s,v1⟩:=B;simp only at f k bs;have h:=Ct (lt:=lt) (d:=d) (v:=v1) f.2.1 ax;have j:=Ms H ab d e s c v1 f.2.1 ax Ω;generalize Sort.order2 lt d s c v1=A at h j bs;obtain⟨x,J,v2⟩:=A;simp only at h j bs;have t:=Ct (lt:=lt) (d:=d) (v:=v2) f.1 h.1;have i:=Ms H ab d e l x v2 f.1 h.1 Ω;generalize Sort.order2 lt d l x v2=z at t i bs;obtain⟨G,N,v3⟩:=z;simp only at t i bs;refine bG.mk mixed a1 Tryz.func256 aoC Ψ q.obj fun L K=>?_;unfold Td;simp[fD,F,y,c6,p];simp only[jk H,H.slc,H.ssc,jf];refine Zb k (oW H d v) (ur _ _ _) (by simp[az,aH,(wA H e).1];exact(wA H e).2) fun o=>?_;simp[ae];simp only[jk H,H.slc,H.ssc,jf];refine E4 j (oW H d v1) (ur _ _ _) (by simp[az,aH,(wA H e).1];exact(wA H e).2) fun o=>?_;simp[ae];simp only[jk H,H.slc,H.ssc,jf];refine E4 i (oW H d v2) (ur _ _ _) (by simp[az,aH,(wA H e).1];exact(wA H e).2) fun o=>?_;simp;refine abr H ?_;simp[dc,ba,bf,a6];rw[bs];exact⟨rfl,rfl⟩
def Mq(H:fS S n g cr lc ch lt)(ab:tQ S 901)(d:Array α)(b:d.size=n)(a v:Nat)(t:a+1<n)(q:1<=a)(j:v<=900):
  bG au 255 [fD g cr lc ch,aj a,.ptr (.obj 901) 0] (fX S d v) fun r i=>r=aj (Sort.medianAdjacent lt d a v).1/\i=fX S d (Sort.medianAdjacent lt d a v).2:=by
 have e:=oW H d v;have c:∀v m,ae (.loc m) (fX S d v).b=none:=fun v=>(oW H d v).obj.1;have p:∀v m cs,cI (.loc m) cs (fX S d v).b=(fX S d v).b++[(.loc m,cs)]:=fun v m cs=>kM (c v m);have f:aB.loc 0∉cJ (fX S d v):=kI e.obj 0;have hle:=H.le;have l:=Mp H ab d b (a-1) a (a+1) v Ω Ω Ω j;unfold Sort.medianAdjacent;refine bG.mk mixed a1 Tryz.func255 aoB Ψ e.obj fun u s=>?_;unfold Tc;have h:((a:Int)-1)=(a-1:Nat):=Ω
 have k:((a:Int)+1)=(a+1:Nat):=Ω
 simp[fD,p,f,c6,c];(with_reducible repeat' first|refine al ?_|simp);simp only[jk H,H.slc,H.ssc,jf,h,k];refine Zb l (oW H d v) (ur _ _ _) (by simp[az,aH,(wA H b).1];exact(wA H b).2) fun o=>?_;simp;refine abr H ?_;simp[dc,ba,bf,a6]
def Zc{m:Nat}(h:tQ S m)(l:List α):aB.obj m∉cJ (S l):=fun hm=>by
 rcases NJ hm with J|J
 ·rw[(h l).1]at J;cases J
 ·rw[(h l).2]at J;cases J
def EV{d:Array α}{a b c v n:Nat}(g:a<n)(i:b<n)(ax:c<n):(Sort.median lt d a b c v).1<n/\(Sort.median lt d a b c v).2<=v+3:=by have f:=Ct (lt:=lt) (d:=d) (v:=v) g i;have h:=Ct (lt:=lt) (d:=d) (v:=(Sort.order2 lt d a b v).2.2) f.2.1 ax;have e:=Ct (lt:=lt) (d:=d) (v:=(Sort.order2 lt d (Sort.order2 lt d a b v).2.1 c (Sort.order2 lt d a b v).2.2).2.2) f.1 h.1;refine⟨e.2.1,kC e.2.2 ?_⟩;omega
def BB:Sort.Hint->Int
 | .unknown=>0
 | .increasing=>1
 | .decreasing=>2
def aiP(H:fS S n g cr lc ch lt)(ab:tQ S 901)(d:Array α)(z:d.size=n)(a b:Nat)(nj:a<b)(ag:b<=n):
  bG au 240 [fD g cr lc ch,aj a,aj b] (S d.toList) fun r Q=>r= .tuple [aj (Sort.choosePivot lt d a b).1,aj (BB (Sort.choosePivot lt d a b).2)]/\Q=S d.toList:=by
 have Z:=H.ok d.toList;have av:d.toList.length=n:=by simpa using z
 have A:∀l m,ae (.loc m) (S l).b=none:=fun l=>(H.ok l).obj.1;have hu:∀l m cs,cI (.loc m) cs (S l).b=(S l).b++[(.loc m,cs)]:=fun l m cs=>kM (A l m);have ar:∀m,aB.loc m∉cJ (S d.toList):=kI Z.obj;have w:∀l,ae (.obj 901) (S l).b=none:=fun l=>(ab l).1;have P:∀l,ae (.obj 901) (S l).e=none:=fun l=>(ab l).2;have hle:=H.le;have O:=Zc ab d.toList;obtain⟨R,bs⟩:∃R,R=Sort.choosePivot lt d a b:=⟨_,rfl⟩;rw[<-bs];unfold Sort.choosePivot at bs;refine bG.mk mixed a1 Tryz.func240 aoz Ψ Z.obj fun aR c4=>?_;unfold Ta;have N:∀l aY cs,cI (.obj 901) cs ((S l).b++[(.loc 0,aY)])=(S l).b++[(.loc 0,aY),(.obj 901,cs)]:=fun l aY cs=>by rw[CY (w l)];rfl
 obtain⟨q,bK⟩:∃q,q=(b-a)/4:=⟨_,rfl⟩;have Y:vu.wrap (((b:Int)-a).tdiv 4)=(q:Nat):=by rw[show((b:Int)-a)=((b-a:Nat):Int) by omega,Int.tdiv_eq_ediv_of_nonneg Ω,pw _ Ω];omega
 simp[fD,hu,N,ar,O,c6,A,w,P,ae,cI];have y:∀(t:List (Nat×af)) (o:List aB) (b0:List (aB×List af)) (x:Nat) (h:Sort.Hint),Pv.get 6 t=aj x->Pv.get 7 t=aj (BB h)->R=(x,h)->(∀k cs,ae k (S d.toList).b=some cs->ae k b0=some cs)->
   c5 [.tmp 6,.tmp 7] (S d.toList) (fun r Q=>r= .tuple [aj R.1,aj (BB R.2)]/\Q=S d.toList) .ret ⟨t,b0,(S d.toList).e,1,o⟩:=by
  rintro t o b0 x h j aI rfl dZ;refine c5.at (S d.toList) (.inl rfl) Z (Same.refl _) dZ (fun _ _ ax=>ax) ?_;simp[dc,ba,bf,a6,j,aI]
 have E:∀(aY:List af) (v:Nat) k cs,ae k (S d.toList).b=some cs->ae k ((.loc 0,aY)::(fX S d v).b)=some cs:=fun aY v k cs h=>by
  simp only[fX,ae];split
  ·rename_i e;subst e;rw[A]at h;cases h
  ·split
   ·rename_i e;subst e;rw[w]at h;cases h
   ·exact h
 have Wh:∀{f:Nat} {args:List af} {r:af} {v:Nat},(bG au f args (fX S d 0) fun ec t'=>ec=r/\t'=fX S d v)->aH (aM (fX S d 0)) args->∀{t:List (Nat×af)} {aY:List af} {o:List aB} {W:bd Nat} {K:bp->Prop},(∀o,K ⟨e7 W r t,(.loc 0,aY)::(fX S d v).b,(S d.toList).e,1,o⟩)->
   CallDo au f args ⟨t,(S d.toList).b++[(.loc 0,aY),(.obj 901,[aj 0])],(S d.toList).e,1,o⟩ W K:=by
  intro f args r v aG p t aY o W K h;refine CallDo.ob aG (oW H d 0) (fun k cs j=>?_) (fun _ _ j=>j) p ?_
  ·simp only[fX,ae]at j;rw[c6];split at j
   ·rename_i e;subst e;rw[w];simp[ae];simpa using j
   ·rw[j]
  rintro r Q ⟨rfl,rfl⟩;refine⟨ur _ _ _,?_⟩;have ao:cK (fX S d 0).b ((S d.toList).b++[(.loc 0,aY),(.obj 901,[aj 0])])=[(.loc 0,aY)]:=by
   rw[jx];have:cK (fX S d 0).b (S d.toList).b=[]:=Q3 _ _ fun k x hm=>by
    have:=u7 hm;simp only[fX,ae];split
    ·rfl
    ·exact this
   rw[this];simp[cK,fX,ae,A]
  have aC:cK (fX S d 0).e (S d.toList).e=[]:=hF _;simp only[ao,aC];exact h _
 have p:=fun(v:Nat)=>(wA H z (v:=v));have f1:((a:Int)+q)=(a+q:Nat):=Ω
 have f2:((a:Int)+q*2)=(a+q*2:Nat):=Ω
 have f3:((a:Int)+q*3)=(a+q*3:Nat):=Ω
 dsimp only at bs;rw[<-bK,Nat.mul_one]at bs;by_cases lM:b-a<8
 ·have U:¬(8:Int)<=(b:Int)-a:=Ω
  (with_reducible repeat' first|refine al ?_|simp[U,Y,hu,N,ar,O,c6,A,w,P,ae,cI]);rw[f2];refine y _ _ _ (a+q*2) .increasing rfl rfl (by rw[bs,if_neg Ω];simp) (fun k cs h=>by rw[c6,h])
 ·have U:(8:Int)<=(b:Int)-a:=Ω
  by_cases auZ:b-a<50
  ·have Mx:¬(50:Int)<=(b:Int)-a:=Ω
   (with_reducible repeat' first|refine al ?_|simp[U,Mx,Y,hu,N,ar,O,c6,A,w,P,ae,cI]);simp only[jk H,H.slc,H.ssc,jf,f1,f2,f3];have B:=Mp H ab d z (a+q) (a+q*2) (a+q*3) 0 Ω Ω Ω Ω;have F:=EV (lt:=lt) (d:=d) (a:=a+q) (b:=a+q*2) (c:=a+q*3) (v:=0) (n:=n) Ω Ω Ω;rw[if_pos Ω,if_neg Ω]at bs;generalize Sort.median lt d (a+q) (a+q*2) (a+q*3) 0=m at B F bs;obtain⟨x,v⟩:=m;refine Wh B (by simp[az,aH,(p 0).1];exact(p 0).2) fun o=>?_;have u:((v:Int)==0)=decide (v=0):=by rw[q3];simp
   have G:((v:Int)==12)=decide (v=12):=by rw[q3];simp;omega
   simp[ae,fX];rcases(by omega:v=0\/v=12\/(v≠0/\v≠12))with i|i|i
   ·have j:((v:Int)==0)=true:=by rw[u];simp[i]
    (with_reducible repeat' first|refine al ?_|simp[j]);all_goals exact y _ _ _ x .increasing rfl rfl (by rw[bs];simp[i]) (E _ v)
   ·have j:((v:Int)==0)=false:=by rw[u];simp[i]
    have s:((v:Int)==12)=true:=by rw[G];simp[i]
    (with_reducible repeat' first|refine al ?_|simp[j,s]);all_goals exact y _ _ _ x .decreasing rfl rfl (by rw[bs];simp[i]) (E _ v)
   ·have j:((v:Int)==0)=false:=by rw[u];simp[i.1]
    have s:((v:Int)==12)=false:=by rw[G];simp[i.2]
    (with_reducible repeat' first|refine al ?_|simp[j,s]);all_goals exact y _ _ _ x .unknown rfl rfl (by rw[bs];simp[i]) (E _ v)
  ·have Mx:(50:Int)<=(b:Int)-a:=Ω
   (with_reducible repeat' first|refine al ?_|simp[U,Mx,Y,hu,N,ar,O,c6,A,w,P,ae,cI]);simp only[jk H,H.slc,H.ssc,jf,f1,f2,f3];rw[if_pos Ω,if_pos Ω]at bs;have B:=Mq H ab d z (a+q) 0 Ω Ω Ω;have M:=EV (lt:=lt) (d:=d) (a:=a+q-1) (b:=a+q) (c:=a+q+1) (v:=0) (n:=n) Ω Ω Ω;change (Sort.medianAdjacent lt d (a+q) 0).1<n/\(Sort.medianAdjacent lt d (a+q) 0).2<=0+3 at M;generalize Sort.medianAdjacent lt d (a+q) 0=m1 at B M bs;obtain⟨ue,v1⟩:=m1;simp only at B M bs;have F:=Mq H ab d z (a+q*2) v1 Ω Ω Ω;have L:=EV (lt:=lt) (d:=d) (a:=a+q*2-1) (b:=a+q*2) (c:=a+q*2+1) (v:=v1) (n:=n) Ω Ω Ω;change (Sort.medianAdjacent lt d (a+q*2) v1).1<n/\(Sort.medianAdjacent lt d (a+q*2) v1).2<=v1+3 at L;generalize Sort.medianAdjacent lt d (a+q*2) v1=m2 at F L bs;obtain⟨AA,v2⟩:=m2;simp only at F L bs;have X:=Mq H ab d z (a+q*3) v2 Ω Ω Ω;have J:=EV (lt:=lt) (d:=d) (a:=a+q*3-1) (b:=a+q*3) (c:=a+q*3+1) (v:=v2) (n:=n) Ω Ω Ω;change (Sort.medianAdjacent lt d (a+q*3) v2).1<n/\(Sort.medianAdjacent lt d (a+q*3) v2).2<=v2+3 at J;generalize Sort.medianAdjacent lt d (a+q*3) v2=m3 at X J bs;obtain⟨uf,v3⟩:=m3;simp only at X J bs;have V:=Mp H ab d z ue AA uf v3 M.1 L.1 J.1 Ω;have XG:=EV (lt:=lt) (d:=d) (v:=v3) M.1 L.1 J.1;generalize Sort.median lt d ue AA uf v3=m4 at V XG bs;obtain⟨x,v⟩:=m4;simp only at V XG bs;refine Wh B (by simp[az,aH,(p 0).1];exact(p 0).2) fun o=>?_;simp[ae];simp only[jk H,H.slc,H.ssc,jf,f1,f2,f3];refine E4 F (oW H d v1) (ur _ _ _) (by simp[az,aH,(p v1).1];exact(p v1).2) fun o=>?_;simp[ae];simp only[jk H,H.slc,H.ssc,jf,f1,f2,f3];refine E4 X (oW H d v2) (ur _ _ _) (by simp[az,aH,(p v2).1];exact(p v2).2) fun o=>?_;simp[ae];simp only[jk H,H.slc,H.ssc,jf,f1,f2,f3];refine E4 V (oW H d v3) (ur _ _ _) (by simp[az,aH,(p v3).1];exact(p v3).2) fun o=>?_;have u:((v:Int)==0)=decide (v=0):=by rw[q3];simp
   have G:((v:Int)==12)=decide (v=12):=by rw[q3];simp;omega
   simp[ae,fX];rcases(by omega:v=0\/v=12\/(v≠0/\v≠12))with i|i|i
   ·have j:((v:Int)==0)=true:=by rw[u];simp[i]
    (with_reducible repeat' first|refine al ?_|simp[j]);all_goals exact y _ _ _ x .increasing rfl rfl (by rw[bs];simp[i]) (E _ v)
   ·have j:((v:Int)==0)=false:=by rw[u];simp[i]
    have s:((v:Int)==12)=true:=by rw[G];simp[i]
    (with_reducible repeat' first|refine al ?_|simp[j,s]);all_goals exact y _ _ _ x .decreasing rfl rfl (by rw[bs];simp[i]) (E _ v)
   ·have j:((v:Int)==0)=false:=by rw[u];simp[i.1]
    have s:((v:Int)==12)=false:=by rw[G];simp[i.2]
    (with_reducible repeat' first|refine al ?_|simp[j,s]);all_goals exact y _ _ _ x .unknown rfl rfl (by rw[bs];simp[i]) (E _ v)
end
section
open Go Go.Pv
variable {α:Type} [Inhabited α] {S:List α->cS} {n g cr:Nat} {lc ch:List af} {lt:α->α->Bool}
def arF:∀x:Nat,x<256->(((QD:List cU)[x]?).getD 0).toNat=Sort.bitsLen x:=by decide+kernel
def DN(x:Int):x.fdiv (2 ^ (min 32 ig.bits))=x/4294967296:=by rw[show(2:Int) ^ (min 32 ig.bits)=4294967296 from by decide,Int.fdiv_eq_ediv_of_nonneg _ Ω]
def DM(x:Int):x.fdiv (2 ^ (min 16 ig.bits))=x/65536:=by rw[show(2:Int) ^ (min 16 ig.bits)=65536 from by decide,Int.fdiv_eq_ediv_of_nonneg _ Ω]
def DO(x:Int):x.fdiv (2 ^ (min 8 ig.bits))=x/256:=by rw[show(2:Int) ^ (min 8 ig.bits)=256 from by decide,Int.fdiv_eq_ediv_of_nonneg _ Ω]
def FY(x:Nat)(h:x<256):IntKind.u8.wrap (x:Int)=x:=by simp[uh,pt,ug];omega
def KY(x k:Nat)(h:2 ^ k<=x):Sort.bitsLen x=Sort.bitsLen (x/2 ^ k)+k:=by
 have a:x≠0:=by have:=Nat.two_pow_pos k;omega
 have b:x/2 ^ k≠0:=by have:=Nat.div_pos h (Nat.two_pow_pos k);omega
 unfold Sort.bitsLen;rw[if_neg a,if_neg b];have c:=Nat.log2_lt a (k:=Nat.log2 (x/2 ^ k)+k+1);have J:Nat.log2 (x/2 ^ k)+k<=Nat.log2 x:=by
  rw[Nat.le_log2 a,Nat.pow_add];have:=Nat.log2_self_le b;calc 2 ^ (x/2 ^ k).log2*2 ^ k<=(x/2 ^ k)*2 ^ k:=r2 _ this
   _<=x:=Nat.div_mul_le_self x _
 have U:Nat.log2 x<Nat.log2 (x/2 ^ k)+k+1:=by rw[c,show Nat.log2 (x/2 ^ k)+k+1=(Nat.log2 (x/2 ^ k)+1)+k by omega,Nat.pow_add];have:=Nat.lt_log2_self (n:=x/2 ^ k);exact(Nat.div_lt_iff_lt_mul (Nat.two_pow_pos k)).1 this
 omega
set_option maxRecDepth 20000 in
def arZ(x:Nat)(o:x<1099511627776):bU au 237 [.int .u64 x] (aj (Sort.bitsLen x)):=by
 refine bU.mk mixed a1 Tryz.func237 aow Ψ dl fun p=>?_;unfold S7;have d:=arF;generalize l:(QD:List cU)=tab at d⊢;have f:tab.length=256:=by rw[<-l];rfl
 clear l;simp[f];have g:∀y:Nat,y<256->Sort.bitsLen y<=8:=by decide+kernel
 have k:4294967296<=x->Sort.bitsLen x=Sort.bitsLen (x/4294967296)+32:=fun h=>KY x 32 h;have n:∀y,65536<=y->Sort.bitsLen y=Sort.bitsLen (y/65536)+16:=fun y h=>KY y 16 h;have m:∀y,256<=y->Sort.bitsLen y=Sort.bitsLen (y/256)+8:=fun y h=>KY y 8 h;by_cases J:4294967296<=x
 ·have c:(4294967296:Int)<=x:=Ω
  have g1:¬(65536:Int)<=(x:Int)/4294967296:=Ω
  have g3:¬(256:Int)<=(x:Int)/4294967296:=Ω
  (repeat' first|refine al ?_|simp[c,g1,g3,DN,DM,DO,f]);have a:x/4294967296<256:=Ω
  have i:=g _ a;have b:(x:Int)/4294967296=((x/4294967296:Nat):Int):=Ω
  rw[b,FY _ a,Int.toNat_natCast];refine⟨Ω,?_⟩;have e:=d _ a;rw[e,pw _ Ω];refine⟨by unfold tF;omega,?_⟩;simp[bZ,ba,bf,a6];try((rw[k J])<;>omega)
 ·have c:¬(4294967296:Int)<=x:=Ω
  by_cases U:65536<=x
  ·have g2:(65536:Int)<=x:=Ω
   by_cases j:256<=x/65536
   ·have g3:(256:Int)<=(x:Int)/65536:=Ω
    (repeat' first|refine al ?_|simp[c,g2,g3,DN,DM,DO,f]);have a:x/65536/256<256:=Ω
    have i:=g _ a;have b:(x:Int)/65536/256=((x/65536/256:Nat):Int):=Ω
    rw[b,FY _ a,Int.toNat_natCast];refine⟨Ω,?_⟩;have e:=d _ a;rw[e,pw _ Ω];refine⟨by unfold tF;omega,?_⟩;simp[bZ,ba,bf,a6];try((rw[n x U,m _ j])<;>omega)
   ·have g3:¬(256:Int)<=(x:Int)/65536:=Ω
    (repeat' first|refine al ?_|simp[c,g2,g3,DN,DM,DO,f]);have a:x/65536<256:=Ω
    have i:=g _ a;have b:(x:Int)/65536=((x/65536:Nat):Int):=Ω
    rw[b,FY _ a,Int.toNat_natCast];refine⟨Ω,?_⟩;have e:=d _ a;rw[e,pw _ Ω];refine⟨by unfold tF;omega,?_⟩;simp[bZ,ba,bf,a6];try((rw[n x U])<;>omega)
  ·have g2:¬(65536:Int)<=x:=Ω
   by_cases j:256<=x
   ·have g3:(256:Int)<=x:=Ω
    (repeat' first|refine al ?_|simp[c,g2,g3,DN,DM,DO,f]);have a:x/256<256:=Ω
    have i:=g _ a;have b:(x:Int)/256=((x/256:Nat):Int):=Ω
    rw[b,FY _ a,Int.toNat_natCast];refine⟨Ω,?_⟩;have e:=d _ a;rw[e,pw _ Ω];refine⟨by unfold tF;omega,?_⟩;simp[bZ,ba,bf,a6];try((rw[m x j])<;>omega)
   ·have g3:¬(256:Int)<=x:=Ω
    (repeat' first|refine al ?_|simp[c,g2,g3,DN,DM,DO,f]);have a:x<256:=Ω
    have i:=g _ a;have b:(x:Int)=((x:Nat):Int):=Ω
    rw[b,FY _ a,Int.toNat_natCast];refine⟨Ω,?_⟩;have e:=d _ a;rw[e,pw _ Ω];refine⟨by unfold tF;omega,?_⟩;simp[bZ,ba,bf,a6];try((rw[show Sort.bitsLen x=Sort.bitsLen x from rfl])<;>omega)
def arY(x:Nat)(a:x<1099511627776):bU au 213 [.int .u64 x] (aj (Sort.bitsLen x)):=by refine bU.mk mixed a1 Tryz.func213 aov Ψ dl fun b=>?_;unfold S6;have c:=arZ x a;exact cp
def aej(x:Nat)(a:x<1099511627776):Sort.bitsLen x<=40:=by
 unfold Sort.bitsLen;split
 ·omega
 ·rename_i h;have:=(Nat.log2_lt h (k:=40)).2 Ω;omega
def arM{x:Nat}(h:x≠0):2 ^ Sort.bitsLen x<=2*x/\x<2 ^ Sort.bitsLen x:=by unfold Sort.bitsLen;rw[if_neg h];have J:=Nat.log2_self_le h;have U:=Nat.lt_log2_self (n:=x);rw[Nat.pow_succ];rw[Nat.pow_succ]at U;omega
def asW(x:Nat)(b:x<1099511627776):bU au 253 [aj x] (.int .u64 (1<<<Sort.bitsLen x:Nat)):=by
 have f:=aej x b;have a:ig.wrap ((x:Nat):Int)=x:=by simp[uh,pt,ug];omega
 have g:ig.wrap ((Sort.bitsLen x:Nat):Int)=Sort.bitsLen x:=by simp[uh,pt,ug];omega
 refine bU.mk mixed a1 Tryz.func253 aoD Ψ dl fun h=>?_;unfold Te;simp[a];refine CallDo.val Ψ (arY x b) ?_;simp[a,g];simp[bZ,ba,bf,a6];have hm:min (Sort.bitsLen x) ig.bits=Sort.bitsLen x:=by simp[pt];omega
 have e:2 ^ Sort.bitsLen x<=2 ^ 40:=Nat.pow_le_pow_right Ω f;rw[hm];have ax:((2:Int) ^ Sort.bitsLen x)=((2 ^ Sort.bitsLen x:Nat):Int):=Ψ
 have d:((1<<<Sort.bitsLen x:Nat):Int)=((2 ^ Sort.bitsLen x:Nat):Int):=by rw[Nat.one_shiftLeft]
 have c:ig.wrap ((2:Int) ^ Sort.bitsLen x)=((1<<<Sort.bitsLen x:Nat):Int):=by rw[ax,d];generalize 2 ^ Sort.bitsLen x=y at e;simp[uh,pt,ug];omega
 simpa using c
def oq(r:Nat):cS:=⟨[(.obj 902,[.int .u64 r])],[]⟩
def KF(r:Nat):eA (oq r):=by unfold oq;exact(eA.of ⟨by intro m;simp[ae],by intro m;simp[ae]⟩ (by simp[aH,az,aM,ae]) (by simp[aH,az,aM,ae]))
def Rl(a b:Nat):Same (oq a) (oq b):=⟨fun k=>by simp only[oq,ae];split<;>rfl,fun _=>rfl⟩
def K0(a b:Nat)(d:a<18446744073709551616)(h:b<18446744073709551616):ig.wrap ((rW ig.bits (a:Int) ^^^ rW ig.bits (b:Int)).toNat:Int)=(a ^^^ b:Nat):=by
 have f:a ^^^ b<18446744073709551616:=Nat.xor_lt_two_pow (n:=64) d h;have e:(rW ig.bits (a:Int) ^^^ rW ig.bits (b:Int)).toNat=a ^^^ b:=by
  rw[BitVec.toNat_xor,BitVec.toNat_ofInt,BitVec.toNat_ofInt];have g:((a:Int)%(2 ^ ig.bits:Nat)).toNat=a:=by simp[pt];omega
  have i:((b:Int)%(2 ^ ig.bits:Nat)).toNat=b:=by simp[pt];omega
  rw[g,i]
 rw[e];generalize a ^^^ b=c at f;simp[uh,pt,ug];omega
def aqX(r:Nat):ig.wrap ((r:Int)*2 ^ (min 13 ig.bits))=(r*8192%18446744073709551616:Nat):=by simp[uh,pt,ug]
def aqY(r:Nat):ig.wrap ((r:Int)*2 ^ (min 17 ig.bits))=(r*131072%18446744073709551616:Nat):=by simp[uh,pt,ug]
def aqZ(r:Nat):((r:Int)).fdiv (2 ^ (min 7 ig.bits))=(r/128:Nat):=by rw[show(2:Int) ^ (min 7 ig.bits)=128 from by decide,Int.fdiv_eq_ediv_of_nonneg _ Ω];omega
def aiJ(r:Nat)(j:r<18446744073709551616):bG au 254 [.ptr (.obj 902) 0] (oq r) fun t u=>t= .int .u64 (Sort.xorNextN r)/\u=oq (Sort.xorNextN r):=by
 have h:=KF r;unfold oq at h⊢;refine bG.mk mixed a1 Tryz.func254 aoP Ψ h.obj fun w v=>?_;unfold Tr;obtain⟨m1,p⟩:∃m,m=r*8192%18446744073709551616:=⟨_,rfl⟩;have s1:=aqX r;rw[<-p]at s1;have e:m1<18446744073709551616:=Ω
 obtain⟨a,c⟩:∃m,m=r ^^^ m1:=⟨_,rfl⟩;have t1:=K0 r m1 j e;rw[<-c]at t1;have k:a<18446744073709551616:=by rw[c];exact Nat.xor_lt_two_pow (n:=64) j e
 obtain⟨m2,o⟩:∃m,m=a/128:=⟨_,rfl⟩;have s2:=aqZ a;rw[<-o]at s2;have f:m2<18446744073709551616:=Ω
 obtain⟨a2,b⟩:∃m,m=a ^^^ m2:=⟨_,rfl⟩;have t2:=K0 a m2 k f;rw[<-b]at t2;have d:a2<18446744073709551616:=by rw[b];exact Nat.xor_lt_two_pow (n:=64) k f
 obtain⟨m3,l⟩:∃m,m=a2*131072%18446744073709551616:=⟨_,rfl⟩;have s3:=aqY a2;rw[<-l]at s3;have s:m3<18446744073709551616:=Ω
 obtain⟨a3,q⟩:∃m,m=a2 ^^^ m3:=⟨_,rfl⟩;have t3:=K0 a2 m3 d s;rw[<-q]at t3;have bs:Sort.xorNextN r=a3:=by unfold Sort.xorNextN;simp only[<-p,<-c,<-o,<-b,<-l,<-q]
 rw[bs];simp[-BitVec.toNat_xor,-BitVec.ofInt_natCast,s1,t1,s2,t2,s3,t3];have i:=KF a3;have g:=Rl r a3;unfold oq at i g;refine c5.at _ (.inl rfl) i g aX aX ?_;simp[dc,ba,bf,a6]
end
section
open Go Go.Pv
variable {α:Type} [Inhabited α] {S:List α->cS} {n g cr:Nat} {lc ch:List af} {lt:α->α->Bool}
def aec(a b:Nat)(d:a<18446744073709551616)(i:b<18446744073709551616):ig.wrap ((rW ig.bits (a:Int)&&& rW ig.bits (b:Int)).toNat:Int)=(a&&& b:Nat):=by
 have f:a&&& b<18446744073709551616:=Nat.lt_of_le_of_lt Nat.and_le_left d;have e:(rW ig.bits (a:Int)&&& rW ig.bits (b:Int)).toNat=a&&& b:=by
  rw[BitVec.toNat_and,BitVec.toNat_ofInt,BitVec.toNat_ofInt];have g:((a:Int)%(2 ^ ig.bits:Nat)).toNat=a:=by simp[pt];omega
  have h:((b:Int)%(2 ^ ig.bits:Nat)).toNat=b:=by simp[pt];omega
  rw[g,h]
 rw[e];generalize a&&& b=c at f;simp[uh,pt,ug];omega
def AP(a len M i0:Nat)(d:Array α):Nat->UInt64×Array α
 |0=>(UInt64.ofNat len,d)
 |k+1=>Sort.breakStep a len M (AP a len M i0 d k) (i0+k)
def aen(d:Array α)(a b:Nat)(h:8<=b-a):Sort.breakPatterns d a b=(AP a (b-a) (1<<<Sort.bitsLen (b-a)) (a+(b-a)/4*2-1) d 3).2:=by unfold Sort.breakPatterns;simp only[if_pos h,AP];rfl
def adb{ob O:List aB}{a:cS}(f:eA a)(l:∀k,aM a k->k∈O)(i:∀k∈ob,k∈O){st:bp}{t':List (Nat×af)}{L:List (aB×List af)}{n:Nat}(g:∀x∈t',Pv.get x.1 st.t=x.2/\az (nC a n) x.2)(j:∀x∈L,ae x.1 st.b=some x.2/\nC a n x.1/\aH (nC a n) x.2)
  (q:∀k cs,ae k a.b=some cs->ae k st.b=some cs) (he:∀k o,ae k a.e=some o->ae k st.e=some o):gn ob st ⟨t',L++a.b,a.e,n,O⟩:=by
 have b:∀{k},nC a n k->¬fresh n O k:=by
  rintro k (h|⟨m,hm,rfl⟩)
  ·exact fun e=>e.2 (l k h)
  ·intro e;have:=e.1;simp at this;omega
 refine⟨fun x c=>⟨(g x c).1,tJ (fun k ab=>b ab) _ (g x c).2⟩,fun k cs ab=>?_,fun k o ar=>?_,i⟩
 ·simp only at ab;rw[c6]at ab;cases d:ae k L with
  |some x=>rw[d]at ab;simp only[dU]at ab;subst ab;obtain⟨J,U,p⟩:=j _ (u6 d);exact⟨J,b U,ji (fun k ab=>b ab) _ p⟩
  |none=>rw[d]at ab;exact⟨q k cs ab,b (.inl (.inl (by simp[ab]))),ji (fun k ab=>b (.inl ab)) _ (f.kb k cs ab)⟩
 ·exact⟨he k o ar,b (.inl (.inr (by simp at ar;simp[ar]))),fun xs c=>ji (fun k ab=>b (.inl ab)) _ (f.ke k o ar xs c)⟩
def Q2{a β:Type}(s:List (aB×β)):∀(l:List (aB×a)),(∀k x,(k,x)∈l->ae k s=none)->cK s l=l
 |[],_=>rfl
 |(k,x)::r,h=>by have J:=h k x Ψ;simp only[cK,J];rw[Q2 s r fun k x b=>h k x (by simp[b])]
def j5(S:List α->cS)(d:Array α)(r:Nat):cS:=⟨(.obj 902,[.int .u64 r])::(S d.toList).b,(S d.toList).e⟩
def Gm(H:fS S n g cr lc ch lt)(d:Array α)(v:Nat):eA (j5 S d v):=by
 have h:=H.ok d.toList;have a:∀k,aM (S d.toList) k->aM (j5 S d v) k:=fun k ab=>by
  rcases ab with ab|ab
  ·refine .inl ?_;simp only[j5,ae];split
   ·rfl
   ·exact ab
  ·exact .inr ab
 refine⟨⟨fun m=>?_,h.obj.2⟩,fun k cs ab=>?_,fun k o ar xs b=>ji a _ (h.ke k o ar xs b)⟩
 ·simp[j5,ae,h.obj.1 m]
 ·simp only[j5,ae]at ab;split at ab
  ·cases ab;simp[aH,az]
  ·exact ji a _ (h.kb k cs ab)
def ada{ob O:List aB}{d2:Array α}{y:Nat}{aY:List af}(c:eA (j5 S d2 y))(d:∀k,aM (j5 S d2 y) k->k∈O)(b:∀k∈ob,k∈O){st:bp}{t':List (Nat×af)}(g:∀x∈t',Pv.get x.1 st.t=x.2/\az (nC (j5 S d2 y) 1) x.2)(e:ae (.loc 0) st.b=some aY)(h:aH (nC (j5 S d2 y) 1) aY)
  (f:∀k cs,ae k (j5 S d2 y).b=some cs->ae k st.b=some cs) (he:∀k o,ae k (j5 S d2 y).e=some o->ae k st.e=some o):gn ob st ⟨t',(.loc 0,aY)::(.obj 902,[.int .u64 y])::(S d2.toList).b,(S d2.toList).e,1,O⟩:=
 adb (L:=[(.loc 0,aY)]) c d b g (fun x a=>by simp only[List.mem_singleton]at a;subst a;exact⟨e,Y6 _ _ _ Ω,h⟩) f he
def aiO(H:fS S n g cr lc ch lt)(ab:tQ S 902)(d:Array α)(A:d.size=n)(a b:Nat)(nj:a<=b)(ag:b<=n)(lM:8<=b-a):
  bG au 239 [fD g cr lc ch,aj a,aj b] (S d.toList) fun r w=>r= .tuple []/\∃O,w=S O.toList/\O=Sort.breakPatterns d a b/\O.size=n:=by
 have ai:=H.ok d.toList;have Q:d.toList.length=n:=by simpa using A
 have i:∀l m,ae (.loc m) (S l).b=none:=fun l=>(H.ok l).obj.1;have hu:∀l m cs,cI (.loc m) cs (S l).b=(S l).b++[(.loc m,cs)]:=fun l m cs=>kM (i l m);have ar:∀m,aB.loc m∉cJ (S d.toList):=kI ai.obj;have j:∀l,ae (.obj 902) (S l).b=none:=fun l=>(ab l).1;have iB:∀l,ae (.obj 902) (S l).e=none:=fun l=>(ab l).2;have hle:=H.le;have mG:=Zc ab d.toList;rw[aen d a b lM];obtain⟨len,hlen⟩:∃len,len=b-a:=⟨_,rfl⟩;rw[<-hlen];obtain⟨M,L⟩:∃M,M=1<<<Sort.bitsLen len:=⟨_,rfl⟩;rw[<-L];have au0:len<M/\M<=2*len:=by have:=arM (x:=len) Ω;rw[L,Nat.one_shiftLeft];omega
 obtain⟨q,bK⟩:∃q,q=len/4:=⟨_,rfl⟩;rw[<-bK];have zC:∀l aY cs,cI (.obj 902) cs ((S l).b++[(.loc 0,aY)])=(S l).b++[(.loc 0,aY),(.obj 902,cs)]:=fun l aY cs=>by rw[CY (j l)];rfl
 have qI:∀l aY x y,cI (.obj 902) y ((S l).b++[(.loc 0,aY),(.obj 902,x)])=(S l).b++[(.loc 0,aY),(.obj 902,y)]:=fun l aY x y=>by rw[CY (j l)];simp[cI]
 have el:((b:Int)-a)=(len:Nat):=Ω
 have b4:vu.wrap ((len:Int).tdiv 4)=(q:Nat):=by rw[Int.tdiv_eq_ediv_of_nonneg Ω,pw _ Ω];omega
 have ew:ig.wrap (len:Int)=len:=by simp[uh,pt,ug];omega
 refine bG.mk mixed a1 Tryz.func239 aoy Ψ ai.obj fun aR c4=>?_;unfold S9;have F:=asW len Ω;rw[<-L]at F;simp[fD,hu,zC,qI,ar,mG,c6,i,j,iB,ae,cI,el,ew];have s:vu.wrap ((len:Int)/4)=(q:Nat):=by rw[pw _ Ω];omega
 ((repeat' first|refine al ?_|refine aO F ?_|refine aP F ?_|simp[el,ew,b4,s,hu,zC,qI,ar,mG,c6,i,j,iB,ae,cI]|((first|apply ct|apply cz|apply cy)<;>intro h<;>try simp at h))<;>(try exact c3));obtain⟨i0,Ed⟩:∃i0,i0=a+q*2-1:=⟨_,rfl⟩;rw[<-Ed];have Y:((a:Int)+q*2-1)=(i0:Nat):=Ω
 rw[Y];have N:∀(c:Array α) r k,aM (j5 S c r) k->c.size=n->k∈aB.obj 902::cJ (S d.toList):=fun c r k h G=>by
  have e3:=H.same d.toList c.toList Q (by simpa using G);rcases h with h|h
  ·simp only[j5,ae]at h;split at h
   ·rename_i e;subst e;simp
   ·exact q5 _ (rJ (.inl (by rw[e3.b];exact h)))
  ·exact q5 _ (rJ (.inr (by rw[e3.e];exact h)))
 have E:∀(c:Array α) r,c.size=n->aH (nC (j5 S c r) 1) [.func g lc,.func cr ch]:=fun c r G=>by
  have J:=H.kdata (lk:=c.toList) (by simpa using G);have U:aH (aM (S c.toList)) [.func g lc,.func cr ch]:=by simpa[fD,az,aH]using J
  refine ji (fun k ab=>.inl ?_) _ U;rcases ab with ab|ab
  ·refine .inl ?_;simp only[j5,ae];split
   ·rfl
   ·exact ab
  ·exact .inr ab
 have avb:∀(c:Array α) r aY k cs,ae k (j5 S c r).b=some cs->ae k ((.loc 0,aY)::(j5 S c r).b)=some cs:=fun c r aY k cs h=>by
  cases k with
  |loc m=>rw[(Gm H c r).obj.1 m]at h;cases h
  |obj m=>simpa[ae]using h
 refine o7 (fun(x:Nat×UInt64×Array α)=>⟨[(1,aj a),(3,.ptr (.loc 0) 0),(6,aj len),(7,.ptr (.obj 902) 0),(8,.int .u64 M),(9,aj ((i0+x.1:Nat):Int))],[(.loc 0,[.func g lc,.func cr ch])]++(j5 S x.2.2 x.2.1.toNat).b,(j5 S x.2.2 x.2.1.toNat).e,1,aB.obj 902::cJ (S d.toList)⟩) (fun x=>3-x.1)
  (fun x=>x.1<=3/\x.2.2.size=n/\AP a len M i0 d x.1=x.2) (0,UInt64.ofNat len,d) ?_ ⟨Ψ,A,rfl⟩ ?_
 ·refine adb (Gm H d _) (fun k h=>N d _ k h A) (fun k h=>q5 _ h) (by simp[az,aM,j5,ae,nC]) ?_ ?_ aX
  ·intro x t;simp only[List.mem_singleton]at t;subst t;exact⟨by simp[c6,i,ae],Y6 _ _ _ Ω,E d _ A⟩
  ·intro k cs h;simp only[j5,ae]at h;rw[c6];split at h
   ·rename_i e;subst e;rw[j];have:(UInt64.ofNat len).toNat=len:=by simp;omega
    rw[this]at h;simpa[ae]using h
   ·rw[h]
 rintro⟨k,r,c⟩ ⟨a8,f,u⟩ _;simp only at a8 f u;have aJ:=r.toNat_lt;obtain⟨x,t⟩:∃x,x=r.toNat:=⟨_,rfl⟩;rw[<-t]at aJ⊢;have BG:Sort.xorNextN x<18446744073709551616:=Sort.xorNextN_lt x Ω;have M9:(Sort.xorNext r).toNat=Sort.xorNextN x:=by rw[Sort.xorNext_toNat,<-t]
 obtain⟨y,B⟩:∃y,y=Sort.xorNextN x:=⟨_,rfl⟩;have Z:ig.wrap ((M:Int)-1)=(M-1:Nat):=by simp[uh,pt,ug];omega
 have zh:=aec y (M-1) Ω Ω;obtain⟨z,P⟩:∃z,z=y&&& (M-1):=⟨_,rfl⟩;rw[<-P]at zh;have avk:z<=M-1:=by rw[P];exact Nat.and_le_right
 have o8:vu.wrap (z:Int)=z:=by rw[pw _ Ω]
 by_cases V:k=3
 ·subst V;simp[j5,ae,s];((repeat' first|refine al ?_|simp[s]|((first|apply ct|apply cz|apply cy)<;>intro h<;>try simp at h))<;>(try exact c3));refine c5.at (S c.toList) (.inr rfl) (H.ok _) (H.same _ _ Q (by simpa using f)) (fun k cs h=>?_) (fun _ _ h=>h) ?_
  ·simp only[ae];split
   ·rename_i e;subst e;rw[i]at h;cases h
   ·split
    ·rename_i e;subst e;rw[j]at h;cases h
    ·exact h
  ·simp[dc,ba,bf,a6];exact⟨c,rfl,by rw[u],f⟩
 ·have HN:((i0+k:Nat):Int)<=(a:Int)+q*2+1:=Ω
  have WB:((i0:Int)+k)<=(a:Int)+q*2+1:=Ω
  simp[j5,ae,s,WB,HN];(repeat' first|refine al ?_|simp[s,WB,HN,ae]);have avg:=H.same d.toList c.toList Q (by simpa using f);have R:∀(K:Array α) (v:List af),cK [(aB.obj 902,v)] (S K.toList).b=(S K.toList).b:=fun K v=>Q2 _ _ fun k x hm=>by
   have:=u7 hm;simp only[ae];split
   ·rename_i e;subst e;rw[j]at this;cases this
   ·rfl
  refine CallDo.ob (aiJ x Ω) (KF x) (fun k cs h=>?_) (fun k o h=>by simp[oq,ae]at h) (by simp[az,aH,aM,oq,ae]) ?_
  ·simp only[oq,ae]at h⊢;split at h
   ·rename_i e;subst e;simpa using h
   ·cases h
  rintro ec w ⟨rfl,rfl⟩;refine⟨Rl _ _,?_⟩;rw[<-B];have X:cK (oq x).b ((aB.loc 0,[af.func g lc,af.func cr ch])::(aB.obj 902,[af.int .u64 x])::(S c.toList).b)=(aB.loc 0,[af.func g lc,af.func cr ch])::(S c.toList).b:=by simp[oq,cK,ae,R]
  have W:cK (oq x).e (S c.toList).e=(S c.toList).e:=Q2 _ _ fun _ _ _=>rfl;rw[X,W,show(oq y).b=[(aB.obj 902,[af.int .u64 y])]from rfl,show(oq y).e=[]from rfl,List.append_nil];have auY:∀(v:List af),ae (.obj 902) ((aB.loc 0,[af.func g lc,af.func cr ch])::((S c.toList).b++[(aB.obj 902,v)]))=some v:=fun v=>by simp[ae,c6,j]
  have RN:∀o',o'<len->o'=(if z≥len then z-len else z)->Sort.breakStep a len M (r,c) (i0+k)=(Sort.xorNext r,Sort.swp c (i0+k) (a+o')):=fun o' J U=>by unfold Sort.breakStep;simp only[M9,<-B,<-P,<-U]
  have Uv:((i0:Int)+k)=((i0+k:Nat):Int):=Ω
  simp only[e7,aB.obj.injEq];simp[-BitVec.toNat_and,-BitVec.ofInt_natCast,Z,zh,o8,ae,H.ssc];by_cases avl:len<=z
  ·have NF:(len:Int)<=z:=Ω
   have LX:((a:Int)+(z-len))=((a+(z-len):Nat):Int):=Ω
   ((repeat' first|refine al ?_|simp[NF,ae,H.ssc]|((first|apply ct|apply cz|apply cy)<;>intro h<;>try simp at h))<;>(try exact c3));rw[LX,Uv];refine CallDo.ob (H.swap c.toList (by simpa using f) Ω (i0+k) (a+(z-len)) Ω Ω) (H.ok _) (fun bt cs h=>?_) (fun _ _ h=>h) (by simp[az,aH,H.ksc c.toList (by simpa using f)]) ?_
   ·simp only[ae];split
    ·rename_i e;subst e;rw[i]at h;cases h
    ·rw[c6,h]
   rintro ec w ⟨rfl,rfl⟩;refine⟨H.same _ _ (by simpa using f) (by simpa using f),?_⟩;rw[ID c Ω Ω];obtain⟨d2,p⟩:∃d2,d2=Sort.swp c (i0+k) (a+(z-len)):=⟨_,rfl⟩;have s2:d2.size=n:=by rw[p,hO,f]
   rw[<-p];have L1:∀v:List af,cK (S c.toList).b ((aB.loc 0,[af.func g lc,af.func cr ch])::((S c.toList).b++[(aB.obj 902,v)]))=[(aB.loc 0,[af.func g lc,af.func cr ch]),(aB.obj 902,v)]:=fun v=>by simp only[cK,i];rw[jx,hF];simp[cK,j]
   dsimp only;rw[L1,hF];simp;(repeat' first|refine al ?_|simp);have LU:((i0:Int)+k+1)=((i0+(k+1):Nat):Int):=Ω
   rw[LU];refine bY.whl (k+1,Sort.xorNext r,d2) d6 ⟨by simp;omega,s2,by simp only[AP,u];rw[RN (z-len) Ω (by rw[if_pos Ω]),p]⟩ ?_;rw[M9,<-B];refine ada (Gm H d2 y) (fun k h=>N d2 _ k h s2) (fun k h=>q5 _ h) (by simp[az,aM,j5,ae,nC]) (by simp[ae]) (E d2 _ s2) ?_ (fun _ _ h=>h);intro k cs h;simp only[j5,ae]at h⊢;split at h
   ·rename_i e;subst e;simpa using h
   ·rename_i e;split
    ·rename_i aC;subst aC;rw[i]at h;cases h
    ·exact h
  ·have NF:¬(len:Int)<=z:=Ω
   have LX:((a:Int)+z)=((a+z:Nat):Int):=Ω
   ((repeat' first|refine al ?_|simp[NF,ae,H.ssc]|((first|apply ct|apply cz|apply cy)<;>intro h<;>try simp at h))<;>(try exact c3));rw[LX,Uv];refine CallDo.ob (H.swap c.toList (by simpa using f) Ω (i0+k) (a+z) Ω Ω) (H.ok _) (fun bt cs h=>?_) (fun _ _ h=>h) (by simp[az,aH,H.ksc c.toList (by simpa using f)]) ?_
   ·simp only[ae];split
    ·rename_i e;subst e;rw[i]at h;cases h
    ·rw[c6,h]
   rintro ec w ⟨rfl,rfl⟩;refine⟨H.same _ _ (by simpa using f) (by simpa using f),?_⟩;rw[ID c Ω Ω];obtain⟨d2,p⟩:∃d2,d2=Sort.swp c (i0+k) (a+z):=⟨_,rfl⟩;have s2:d2.size=n:=by rw[p,hO,f]
   rw[<-p];have L1:∀v:List af,cK (S c.toList).b ((aB.loc 0,[af.func g lc,af.func cr ch])::((S c.toList).b++[(aB.obj 902,v)]))=[(aB.loc 0,[af.func g lc,af.func cr ch]),(aB.obj 902,v)]:=fun v=>by simp only[cK,i];rw[jx,hF];simp[cK,j]
   dsimp only;rw[L1,hF];simp;(repeat' first|refine al ?_|simp);have LU:((i0:Int)+k+1)=((i0+(k+1):Nat):Int):=Ω
   rw[LU];refine bY.whl (k+1,Sort.xorNext r,d2) d6 ⟨by simp;omega,s2,by simp only[AP,u];rw[RN z Ω (by rw[if_neg Ω]),p]⟩ ?_;rw[M9,<-B];refine ada (Gm H d2 y) (fun k h=>N d2 _ k h s2) (fun k h=>q5 _ h) (by simp[az,aM,j5,ae,nC]) (by simp[ae]) (E d2 _ s2) ?_ (fun _ _ h=>h);intro k cs h;simp only[j5,ae]at h⊢;split at h
   ·rename_i e;subst e;simpa using h
   ·rename_i e;split
    ·rename_i aC;subst aC;rw[i]at h;cases h
    ·exact h
end
section
open Go Go.Pv
variable {α:Type} [Inhabited α] {S:List α->cS} {n g cr:Nat} {lc ch:List af} {lt:α->α->Bool}
def fS.fnD{d d2:Array α}(H:fS S n g cr lc ch lt)(J:d.size=n){f:Nat}{args:List af}{r:af}(m:bG au f args (S d.toList) fun b j=>b=r/\∃a,j=S a.toList/\a=d2/\a.size=n)(ab:aH (aM (S d.toList)) args){t:List (Nat×af)}{aY:List af}{o:List aB}{a:bd Nat}{K:bp->Prop}
  (h:d2.size=n->∀o,K ⟨e7 a r t,(.loc 0,aY)::(S d2.toList).b,(S d2.toList).e,1,o⟩):CallDo au f args ⟨t,(.loc 0,aY)::(S d.toList).b,(S d.toList).e,1,o⟩ a K:=
 H.call (by simpa using J) (R:=fun b c=>b=r/\c=d2.toList/\d2.size=n) (m.mono fun r j ⟨l,a,p,i,k⟩=>⟨a.toList,p,l,by rw[i],by rw[<-i];exact k⟩) (fun r c ⟨_,e,h⟩=>by rw[e];simpa using h) ab (by rintro b c ⟨rfl,rfl,U⟩;exact h U _)
attribute [local simp] qy
def Dc(S:List α->cS)(n g cr:Nat)(lc ch:List af)(lt:α->α->Bool)(m:Nat):Prop:=
 ∀k,k<m->∀(d:Array α),d.size=n->∀a b e:Nat,b-a<=k->a<=b->b<=n->e<=1000->Sort.Below lt a b d->
  bG au 214 [fD g cr lc ch,aj a,aj b,aj e] (S d.toList) fun r f=>r= .tuple []/\∃c,f=S c.toList/\Sort.PermIn a b d c/\Sort.SortedIn lt a b c
structure yK (S:List α->cS) (n g cr:Nat) (lc ch:List af) (lt:α->α->Bool) (br b0 lim:Nat) (d:Array α) (Q:Exit->bp->Prop):Prop where
 k:∀e,e= .normal\/e= .exit 1->∀(a2 b9:Nat) (w v:Bool) (L:Array α) (t:List (Nat×af)) (o:List aB),L.size=n->a2<=b9->b9<=n->b9-a2<b0-br->Sort.Below lt a2 b9 L->(∀R,Sort.PermIn a2 b9 L R->Sort.SortedIn lt a2 b9 R->Sort.PermIn br b0 d R/\Sort.SortedIn lt br b0 R)->
  Pv.get 1 t=aj a2->Pv.get 2 t=aj b9->Pv.get 3 t=aj lim->Pv.get 4 t= .ptr (.loc 0) 0->Pv.get 8 t= .bool w->Pv.get 9 t= .bool v->Q e ⟨t,(.loc 0,[.func g lc,.func cr ch])::(S L.toList).b,(S L.toList).e,1,o⟩
 r:∀(R:Array α) t o,Sort.PermIn br b0 d R->Sort.SortedIn lt br b0 R->Q .ret ⟨t,(.loc 0,[.func g lc,.func cr ch])::(S R.toList).b,(S R.toList).e,1,o⟩
def yK.mono{br b0 lim:Nat}{d f:Array α}{Q:Exit->bp->Prop}(h:yK S n g cr lc ch lt br b0 lim d Q)(p:Sort.PermIn br b0 d f):yK S n g cr lc ch lt br b0 lim f Q:=⟨fun e he a2 k w v L t o m q j l i c=>h.k e he a2 k w v L t o m q j l i fun R b a=>⟨Sort.permIn_trans _ _ _ br b0 p (c R b a).1,(c R b a).2⟩,fun R t o b a=>h.r R t o (Sort.permIn_trans _ _ _ br b0 p b) a⟩
structure AI (t:List (Nat×af)) (br b0 lim:Nat):Prop where
 t1:Pv.get 1 t=aj br
 t2:Pv.get 2 t=aj b0
 t3:Pv.get 3 t=aj lim
 t4:Pv.get 4 t= .ptr (.loc 0) 0
 t10:Pv.get 10 t=aj ((b0:Int)-br)
section
variable {br b0 lim:Nat} {cV:Array α} {t:List (Nat×af)} {o:List aB} {ob:List aB} {Q:Exit->bp->Prop}
def ZT(H:fS S n g cr lc ch lt)(F:Sort.SWO lt)(B:Dc S n g cr lc ch lt (b0-br)){pv:Nat}(T:AI t br b0 lim)(t11:Pv.get 11 t=aj pv)(z:lim<=1000)(l:cV.size=n)(e:br<=pv/\pv<b0)(u:b0<=n)(K:12<b0-br)(E:Sort.Below lt br b0 cV)(A:yK S n g cr lc ch lt br b0 lim cV Q):
  de au ob Lr Q ⟨t,(.loc 0,[.func g lc,.func cr ch])::(S cV.toList).b,(S cV.toList).e,1,o⟩:=by
 obtain⟨t1,t2,t3,t4,t10⟩:=T;have j:∀f:Array α,f.size=n->az (aM (S f.toList)) (fD g cr lc ch):=fun f h=>H.kdata (lk:=f.toList) (by simpa using h);have hle:=H.le;unfold Lr;simp[t1,t2,t4,t11,ae,H.slc,H.ssc];simp only[jk H,H.slc,H.ssc,jf];have d:=aje H cV l br b0 pv e.1 e.2 Ω u;have i:Sort.partition lt cV br b0 pv=((Sort.partition lt cV br b0 pv).1,(Sort.partition lt cV br b0 pv).2.1,(Sort.partition lt cV br b0 pv).2.2):=rfl;generalize (Sort.partition lt cV br b0 pv).1=mid at d i;generalize (Sort.partition lt cV br b0 pv).2.1=ap at d i;generalize (Sort.partition lt cV br b0 pv).2.2=d4 at d i;obtain⟨g1,g2,g3,g4,g5,g6,g7⟩:=Sort.round_part F (Sort.partition_holds lt) e.1 e.2 Ω E i;refine H.fnD l d (by simp[az,aH,j cV l]) fun s4 o=>?_;have em:((mid:Int)+1)=(mid+1:Nat):=Ω
 simp[t1,t2,t3,t4,t10];by_cases G:mid-br<b0-mid
 ·have y:(mid:Int)-br<b0-mid:=Ω
  (repeat' first|refine al ?_|simp[y,ae,t1,t2,t3,t4,t10]);simp only[jk H,H.slc,H.ssc,jf];refine H.doFn (lk:=d4.toList) (by simpa using s4) (R:=fun a=> ∃L:Array α,a=L.toList/\Sort.PermIn br mid d4 L/\Sort.SortedIn lt br mid L) ((B (mid-br) Ω d4 s4 br mid lim (dP _) g1 Ω z g4).mono fun r J ⟨x,b,w,v,p⟩=>⟨x,b.toList,w,b,rfl,v,p⟩) (by rintro a ⟨L,rfl,q,_⟩;simpa using q.1.trans s4) (by simp[aH,az,j d4 s4]) ?_;rintro a ⟨L,rfl,c,s⟩;obtain⟨m,k⟩:=g6 L c s;simp;(repeat' first|refine al ?_|simp[t1,t2,t3,t4]);rw[em];exact A.k _ (.inl rfl) (mid+1) b0 _ ap L _ _ (c.1.trans s4) Ω u Ω m k Ψ (by simp[t2]) (by simp[t3]) (by simp[t4]) (by simp;rfl) Ψ
 ·have y:¬(mid:Int)-br<b0-mid:=Ω
  (repeat' first|refine al ?_|simp[y,ae,t1,t2,t3,t4,t10]);simp only[jk H,H.slc,H.ssc,jf];rw[em];refine H.doFn (lk:=d4.toList) (by simpa using s4) (R:=fun a=> ∃L:Array α,a=L.toList/\Sort.PermIn (mid+1) b0 d4 L/\Sort.SortedIn lt (mid+1) b0 L) ((B (b0-(mid+1)) Ω d4 s4 (mid+1) b0 lim (dP _) Ω u z g5).mono fun r J ⟨x,b,w,v,p⟩=>⟨x,b.toList,w,b,rfl,v,p⟩) (by rintro a ⟨L,rfl,q,_⟩;simpa using q.1.trans s4) (by simp[aH,az,j d4 s4]) ?_;rintro a ⟨L,rfl,c,s⟩;obtain⟨m,k⟩:=g7 L c s;simp;(repeat' first|refine al ?_|simp[t1,t2,t3,t4]);exact A.k _ (.inl rfl) br mid _ ap L _ _ (c.1.trans s4) g1 Ω Ω m k (by simp[t1]) Ψ (by simp[t3]) (by simp[t4]) (by simp;rfl) Ψ
def apu(H:fS S n g cr lc ch lt)(i:Sort.SWO lt)(p:Dc S n g cr lc ch lt (b0-br)){pv:Nat}(T:AI t br b0 lim)(t11:Pv.get 11 t=aj pv){w v:Bool}(t8:Pv.get 8 t= .bool w)(t9:Pv.get 9 t= .bool v)(m:lim<=1000)(b:cV.size=n)(a:br<=pv/\pv<b0)(d:b0<=n)(l:12<b0-br)(e:Sort.Below lt br b0 cV)(h:yK S n g cr lc ch lt br b0 lim cV Q):
  de au ob Dt Q ⟨t,(.loc 0,[.func g lc,.func cr ch])::(S cV.toList).b,(S cV.toList).e,1,o⟩:=by
 obtain⟨t1,t2,t3,t4,t10⟩:=id T;have hle:=H.le;unfold Dt;by_cases c:0<br
 ·have k:(0:Int)<br:=Ω
  simp[t1,t2,t4,t11,c,k,ae,H.slc,H.ssc];(repeat' first|refine al ?_|simp[t1,t2,t4,t11,c,k,ae,H.slc,H.ssc]);rw[show((br:Int)-1)=((br-1:Nat):Int) by omega];refine H.lessA b (br-1) pv Ω Ω fun o=>?_;cases q:lt cV[br-1]! cV[pv]!
  ·simp;(repeat' first|refine al ?_|simp[ae,H.slc,H.ssc,t1,t2,t4,t11]);simp only[jk H,H.slc,H.ssc,jf];have f:=ajf H cV b br b0 pv a.1 a.2 Ω d;have j:Sort.partitionEqual lt cV br b0 pv=((Sort.partitionEqual lt cV br b0 pv).1,(Sort.partitionEqual lt cV br b0 pv).2):=rfl;generalize (Sort.partitionEqual lt cV br b0 pv).1=mid at f j;generalize (Sort.partitionEqual lt cV br b0 pv).2=d4 at f j;obtain⟨g1,g2,g3,g4,g5⟩:=Sort.round_eq i (Sort.partitionEqual_holds lt) c a.1 a.2 Ω e q j;refine H.fnD b f (by simp[az,aH,H.kdata (lk:=cV.toList) (by simpa using b)]) fun s4 o=>?_;simp[t1,t2,t3,t4];exact h.k _ (.inr rfl) mid b0 w v d4 _ _ s4 g2 d Ω g4 g5 Ψ (by simp[t2]) (by simp[t3]) (by simp[t4]) (by simp[t8]) (by simp[t9])
  ·simp;exact ZT H i p ⟨by simp[t1],by simp[t2],by simp[t3],by simp[t4],by simp[t10]⟩ (by simp[t11]) m b a d l e h
 ·have k:¬(0:Int)<br:=Ω
  simp[t1,c];exact ZT H i p ⟨by simp[t1],by simp[t2],by simp[t3],by simp[t4],by simp[t10]⟩ (by simp[t11]) m b a d l e h
def Pk(H:fS S n g cr lc ch lt)(p:Sort.SWO lt)(z:Dc S n g cr lc ch lt (b0-br)){pv:Nat}(T:AI t br b0 lim)(t11:Pv.get 11 t=aj pv){h:Nat}(t12:Pv.get 12 t=aj h){w v:Bool}(t8:Pv.get 8 t= .bool w)(t9:Pv.get 9 t= .bool v)(r:lim<=1000)(b:cV.size=n)(u:br<=pv/\pv<b0)(m:b0<=n)(q:12<b0-br)(c:Sort.Below lt br b0 cV)(l:yK S n g cr lc ch lt br b0 lim cV Q):
  de au ob Ls Q ⟨t,(.loc 0,[.func g lc,.func cr ch])::(S cV.toList).b,(S cV.toList).e,1,o⟩:=by
 obtain⟨t1,t2,t3,t4,t10⟩:=id T;have hle:=H.le;unfold Ls;have next:∀{d5:Array α} {t o},AI t br b0 lim->Pv.get 11 t=aj pv->Pv.get 8 t= .bool w->Pv.get 9 t= .bool v->d5.size=n->Sort.Below lt br b0 d5->Sort.PermIn br b0 cV d5->de au ob Dt Q ⟨t,(.loc 0,[.func g lc,.func cr ch])::(S d5.toList).b,(S d5.toList).e,1,o⟩:=fun j k e f y x s=>apu H p z j k e f r y u m q x (l.mono s)
 have skip:∀{t o},AI t br b0 lim->Pv.get 11 t=aj pv->Pv.get 8 t= .bool w->Pv.get 9 t= .bool v->de au ob Dt Q ⟨t,(.loc 0,[.func g lc,.func cr ch])::(S cV.toList).b,(S cV.toList).e,1,o⟩:=fun j k e f=>next j k e f b c (Sort.permIn_refl _ _ _)
 by_cases ax:(w=true/\v=true)/\h=1
 ·obtain⟨⟨rfl,rfl⟩,rfl⟩:=ax;simp[t1,t2,t4,t8,t9,t12,ae,H.slc,H.ssc];simp only[jk H,H.slc,H.ssc,jf];have d:=ajd H cV b br b0 Ω m Ω;have a:=Sort.partialInsertionSort_holds p cV br b0 Ω Ω c;generalize (Sort.partialInsertionSort lt cV br b0).1=d5 at d a;generalize (Sort.partialInsertionSort lt cV br b0).2=ok at d a;refine H.fnD b d (by simp[az,aH,H.kdata (lk:=cV.toList) (by simpa using b)]) fun i o=>?_;cases ok
  ·simp;exact next ⟨by simp[t1],by simp[t2],by simp[t3],by simp[t4],by simp[t10]⟩ (by simp[t11]) (by simp[t8]) (by simp[t9]) i (c.perm Ω a.1) a.1
  ·simp;exact l.r _ _ _ a.1 (a.2 rfl)
 ·cases w
  ·simp[t8,t9,t12];exact skip ⟨by simp[t1],by simp[t2],by simp[t3],by simp[t4],by simp[t10]⟩ (by simp[t11]) (by simp[t8]) (by simp[t9])
  ·cases v
   ·simp[t8,t9,t12];exact skip ⟨by simp[t1],by simp[t2],by simp[t3],by simp[t4],by simp[t10]⟩ (by simp[t11]) (by simp[t8]) (by simp[t9])
   ·have J:((h:Int)==1)=false:=by simp at ax⊢;omega
    simp[t8,t9,t12,J];exact skip ⟨by simp[t1],by simp[t2],by simp[t3],by simp[t4],by simp[t10]⟩ (by simp[t11]) (by simp[t8]) (by simp[t9])
def ZU(H:fS S n g cr lc ch lt)(s:tQ S 901)(i:Sort.SWO lt)(j:Dc S n g cr lc ch lt (b0-br))(T:AI t br b0 lim){w v:Bool}(t8:Pv.get 8 t= .bool w)(t9:Pv.get 9 t= .bool v)(e:lim<=1000)(s1:cV.size=n)(a:b0<=n)(d:12<b0-br)(l:Sort.Below lt br b0 cV)(f:yK S n g cr lc ch lt br b0 lim cV Q):
  de au ob Lt Q ⟨t,(.loc 0,[.func g lc,.func cr ch])::(S cV.toList).b,(S cV.toList).e,1,o⟩:=by
 obtain⟨t1,t2,t3,t4,t10⟩:=id T;have hle:=H.le;have m:∀c:Array α,c.size=n->az (aM (S c.toList)) (fD g cr lc ch):=fun c h=>H.kdata (lk:=c.toList) (by simpa using h);unfold Lt;simp[t1,t2,t4,ae,H.slc,H.ssc];simp only[jk H,H.slc,H.ssc,jf];have b:=Sort.choosePivot_holds lt cV br b0 Ω;have k:=aiP H s cV s1 br b0 Ω a;generalize Sort.choosePivot lt cV br b0=u at k b;obtain⟨p,hint⟩:=u;simp only at k b;refine H.fnA s1 s1 k (by simp[az,aH,m cV s1]) fun o=>?_;cases hint
 ·simp[BB];exact Pk H i j ⟨by simp[t1],by simp[t2],by simp[t3],by simp[t4],by simp[t10]⟩ (pv:=p) Ψ (h:=0) Ψ (w:=w) (v:=v) (by simp[t8]) (by simp[t9]) e s1 b a d l f
 ·simp[BB];exact Pk H i j ⟨by simp[t1],by simp[t2],by simp[t3],by simp[t4],by simp[t10]⟩ (pv:=p) Ψ (h:=1) Ψ (w:=w) (v:=v) (by simp[t8]) (by simp[t9]) e s1 b a d l f
 ·simp[BB,t1,t2,t4,ae,H.slc,H.ssc];simp only[jk H,H.slc,H.ssc,jf];refine H.fnD s1 (ajk H cV s1 br b0 Ω a Ω) (by simp[az,aH,m cV s1]) fun s2 o=>?_;have q:=Sort.reverseRange_holds cV br b0 Ω Ω;have r:((b0:Int)-1-(p-br))=((b0-1)-(p-br):Nat):=Ω
  simp[t1,t2,r];(repeat' first|refine al ?_|simp[r,t1,t2]);exact Pk H i j ⟨by simp[t1],by simp[t2],by simp[t3],by simp[t4],by simp[t10]⟩ (pv:=(b0-1)-(p-br)) Ψ (h:=1) Ψ (w:=w) (v:=v) (by simp[t8]) (by simp[t9]) e s2 Ω a d (l.perm Ω q) (f.mono q)
end
def ajg(H:fS S n g cr lc ch lt)(gF:tQ S 901)(iB:tQ S 902)(F:Sort.SWO lt)(m:Nat):∀(d:Array α) (K:d.size=n) (a b B:Nat) (hm:b-a<=m) (nj:a<=b) (ag:b<=n) (fq:B<=1000) (zi:Sort.Below lt a b d),
  bG au 214 [fD g cr lc ch,aj a,aj b,aj B] (S d.toList) fun r ak=>r= .tuple []/\∃q,ak=S q.toList/\Sort.PermIn a b d q/\Sort.SortedIn lt a b q:=by
 induction m using Nat.strongRecOn with
 |ind m b1=>
 intro d K a b B hm nj ag fq zi;have ai:=H.ok d.toList;have G:d.toList.length=n:=by simpa using K
 have aA:∀l m,ae (.loc m) (S l).b=none:=fun l=>(H.ok l).obj.1;have hu:∀l m cs,cI (.loc m) cs (S l).b=(S l).b++[(.loc m,cs)]:=fun l m cs=>kM (aA l m);have ar:∀m,aB.loc m∉cJ (S d.toList):=kI ai.obj;have hle:=H.le;refine bG.mk mixed a1 Tryz.func214 aoI Ψ ai.obj fun aR c4=>?_;unfold Tj;simp[fD,hu,ar,c6,aA];refine H.loopA G [4] (fun(x:((Nat×Nat×Nat)×Bool×Bool)×Array α)=>[(1,aj x.1.1.1),(2,aj x.1.1.2.1),(3,aj x.1.1.2.2),(8,.bool x.1.2.1),(9,.bool x.1.2.2)]) (·.2) (fun x=>x.1.1.2.1-x.1.1.1) (fun x=>x.2.size=n/\(x.1.1.1<=x.1.1.2.1/\x.1.1.2.1<=n/\x.1.1.2.1-x.1.1.1<=m/\x.1.1.2.2<=1000)/\Sort.Below lt x.1.1.1 x.1.1.2.1 x.2/\∀R,Sort.PermIn x.1.1.1 x.1.1.2.1 x.2 R->Sort.SortedIn lt x.1.1.1 x.1.1.2.1 R->Sort.PermIn a b d R/\Sort.SortedIn lt a b R)
  (((a,b,B),true,true),d) K ⟨K,⟨nj,ag,hm,fq⟩,zi,fun R J U=>⟨J,U⟩⟩ (by simp[c6,aA]) aX aX dl ?_
 rintro⟨⟨⟨br,b0,i⟩,ati,wp⟩,f⟩ ⟨c,⟨s,u,eC,V⟩,EI,N⟩;simp only at c s u eC V EI N;have Q:∀E:Array α,E.size=n->az (aM (S E.toList)) (fD g cr lc ch):=fun E h=>H.kdata (lk:=E.toList) (by simpa using h);have M:∀(R:Array α) t o,Sort.PermIn br b0 f R->Sort.SortedIn lt br b0 R->c5 [] (S d.toList) (fun r ak=>r= .tuple []/\∃q,ak=S q.toList/\Sort.PermIn a b d q/\Sort.SortedIn lt a b q) .ret ⟨t,(.loc 0,[.func g lc,.func cr ch])::(S R.toList).b,(S R.toList).e,1,o⟩:=fun R t o J U=>by refine H.retA G (by rw[J.1];exact c) (.inl rfl) ⟨rfl,R,rfl,N R J U⟩
 simp;by_cases uJ:b0-br<=12
 ·have A:(b0:Int)-br<=12:=Ω
  (repeat' first|refine al ?_|simp[A,ae,H.slc,H.ssc]);simp only[jk H,H.slc,H.ssc,jf];refine H.fnD c (ai1 H f c br b0 s u) (by simp[az,aH,Q f c]) fun s2 o=>?_;obtain⟨a7,Y⟩:=Sort.insertionSort_holds F f br b0 s Ω;simp;exact M _ _ _ a7 Y
 have A:¬(b0:Int)-br<=12:=Ω
 by_cases xE:i=0
 ·have O:(((i:Nat):Int)==0)=true:=by simp[xE]
  (repeat' first|refine al ?_|simp[A,O,ae,H.slc,H.ssc]);simp only[jk H,H.slc,H.ssc,jf];refine H.fnD c (aiR H f c br b0 s u Ω) (by simp[az,aH,Q f c]) fun s2 o=>?_;obtain⟨a7,Y⟩:=Sort.heapSort_holds F f br b0 s Ω;simp;exact M _ _ _ a7 Y
 have O:(((i:Nat):Int)==0)=false:=by simp[xE]
 have Xg:Dc S n g cr lc ch lt (b0-br):=fun k ab=>b1 k Ω;cases ati
 ·(repeat' first|refine al ?_|simp[A,O,ae,H.slc,H.ssc]);simp only[jk H,H.slc,H.ssc,jf];refine H.fnD c (aiO H iB f c br b0 s u Ω) (by simp[az,aH,Q f c]) fun s1 o=>?_;have P:=Sort.breakPatterns_holds f br b0 s Ω;generalize Sort.breakPatterns f br b0=d1 at s1 P;have el:((i:Int)-1)=(i-1:Nat):=Ω
  simp[el];(repeat' first|refine al ?_|simp[el,ae]);refine ZU (lim:=i-1) H gF F Xg ⟨Ψ,Ψ,Ψ,Ψ,Ψ⟩ (w:=false) (v:=wp) Ψ Ψ Ω s1 u Ω (EI.perm Ω P) ⟨?_,fun R t o p j=>?_⟩
  ·rintro e he a2 Z w v L t o z aC X b4 W y t1 t2 t3 t4 t8 t9;rcases he with rfl|rfl<;>simp<;>exact bY.whl (((a2,Z,i-1),w,v),L) d6 ⟨z,⟨aC,X,by simp;omega,by simp;omega⟩,W,fun R p j=>N R (Sort.permIn_trans _ _ _ br b0 P (y R p j).1) (y R p j).2⟩ (H.weakC G (by simpa using z) (by simp[az,t1,t2,t3,t4,t8,t9]))
  ·simpa using M R t o (Sort.permIn_trans _ _ _ br b0 P p) j
 ·(repeat' first|refine al ?_|simp[A,O,ae,H.slc,H.ssc]);refine ZU (lim:=i) H gF F Xg ⟨Ψ,Ψ,Ψ,Ψ,Ψ⟩ (w:=true) (v:=wp) Ψ Ψ V c u Ω EI ⟨?_,fun R t o p j=>?_⟩
  ·rintro e he a2 Z w v L t o z aC X b4 W y t1 t2 t3 t4 t8 t9;rcases he with rfl|rfl<;>simp<;>exact bY.whl (((a2,Z,i),w,v),L) d6 ⟨z,⟨aC,X,by simp;omega,V⟩,W,fun R p j=>N R (y R p j).1 (y R p j).2⟩ (H.weakC G (by simpa using z) (by simp[az,t1,t2,t3,t4,t8,t9]))
  ·simpa using M R t o p j
end
section
open Go Go.Pv
variable {α:Type} {S:List α->cS} {n g cr:Nat} {lc ch:List af} {lt:α->α->Bool}
def amF(n:r4 lt){l lk:List α}{a b i:Nat}(t:a+1<=i)(E:i<=b)(A:b<=l.length)(e:fY lt (a+1) b l){z:α}(j:l[a]? =some z)(r:∀h x,a+1<=h->h<i->l[h]? =some x->lt x z=true)(s:∀h x,i<=h->h<b->l[h]? =some x->lt x z=false)
  (o:∀k,lk[k]? =l[iV a (a+1) i k]?):fY lt a b lk:=by
 intro p q x y w u g c d;rw[o]at c d;simp only[iV]at c d;rw[if_neg Ω]at c d;by_cases B:q<i-1
 ·rw[if_pos Ω]at c d;exact e _ _ _ _ Ω Ω Ω c d
 ·rw[if_neg Ω]at d;by_cases m:q<i
  ·rw[if_pos m,show q-(i-(a+1))=a by omega,j]at d;cases d;rw[if_pos Ω]at c;exact n.asym _ _ (r _ _ Ω Ω c)
  ·rw[if_neg m]at d;by_cases v:p<i-1
   ·rw[if_pos Ω]at c;exact e _ _ _ _ Ω Ω Ω c d
   ·rw[if_neg Ω]at c;by_cases f:p<i
    ·rw[if_pos f,show p-(i-(a+1))=a by omega,j]at c;cases c;exact s _ _ Ω g d
    ·rw[if_neg f]at c;exact e _ _ _ _ Ω Ω g c d
def amG(n:r4 lt){l lk:List α}{a m i:Nat}(v:a<=i)(o:i<=m)(E:m+1<=l.length)(e:fY lt a m l){z:α}(g:l[m]? =some z)(t:∀h x,a<=h->h<i->l[h]? =some x->lt z x=false)(u:∀h x,i<=h->h<m->l[h]? =some x->lt z x=true)
  (r:∀k,lk[k]? =l[iV i m (m+1) k]?):fY lt a (m+1) lk:=by
 intro p q x y d j A b c;rw[r]at b c;simp only[iV]at b c;by_cases s:q<i
 ·rw[if_pos Ω]at b c;exact e _ _ _ _ d j Ω b c
 ·rw[if_neg s]at c;by_cases B:q=i
  ·rw[if_pos Ω,show q+(m-i)=m by omega,g]at c;cases c;rw[if_pos Ω]at b;exact t _ _ d Ω b
  ·rw[if_neg Ω,if_pos Ω]at c;by_cases f:p<i
   ·rw[if_pos f]at b;exact e _ _ _ _ d Ω Ω b c
   ·rw[if_neg f]at b;by_cases w:p=i
    ·rw[if_pos Ω,show p+(m-i)=m by omega,g]at b;cases b;exact n.asym _ _ (u _ _ Ω Ω c)
    ·rw[if_neg Ω,if_pos Ω]at b;exact e _ _ _ _ Ω Ω Ω b c
structure Gf (lt:α->α->Bool) (a s m e b mid:Nat) (lk:List α):Prop where
 s1:fY lt a s lk
 s2:fY lt s mid lk
 s3:fY lt mid e lk
 s4:fY lt e b lk
 cross:∀p q x y,a<=p->p<mid->mid<=q->q<b->lk[p]? =some x->lk[q]? =some y->lt y x=false
def fY.le(g:r4 lt){a b:Nat}{l:List α}(h:fY lt a b l){i j:Nat}{x y:α}(J:a<=i)(U:i<=j)(k:j<b)(d:l[i]? =some x)(c:l[j]? =some y):lt y x=false:=by
 by_cases e:i=j
 ·subst e;rw[d]at c;cases c;cases f:lt x x with
  |false=>rfl
  |true=>have:=g.asym _ _ f;rw[f]at this;exact this
 ·exact h _ _ _ _ J Ω k d c
def amO(f:r4 lt){l lk:List α}{a m b mid s e:Nat}(has:a<=s)(e3:s<=m)(H:m<=e)(K:e<=b)(N:b<=l.length)(M:s+e=mid+m)(J:fY lt a m l)(U:fY lt m b l)
  (r:s=a\/e=b\/ ∃x y,l[s-1]? =some x/\l[e]? =some y/\lt y x=false) (n:s=m\/e=m\/ ∃x y,l[s]? =some x/\l[e-1]? =some y/\lt y x=true) (j:∀k,lk[k]? =l[iV s m e k]?):Gf lt a s m e b mid lk:=by
 have g1:∀p,p<s->lk[p]? =l[p]?:=fun p g=>by rw[j];simp[iV,g]
 have g2:∀p,s<=p->p<mid->lk[p]? =l[p+(m-s)]?:=fun p B L=>by rw[j];simp only[iV];rw[if_neg Ω,if_pos Ω]
 have g3:∀p,mid<=p->p<e->lk[p]? =l[p-(e-m)]?:=fun p B L=>by rw[j];simp only[iV];rw[if_neg Ω,if_neg Ω,if_pos Ω]
 have g4:∀p,e<=p->lk[p]? =l[p]?:=fun p B=>by
  rw[j];simp only[iV];rw[if_neg Ω];by_cases G:p<s+(e-m)
  ·omega
  ·rw[if_neg G,if_neg Ω]
 refine⟨fun p q x y g i h d c=>?_,fun p q x y g i h d c=>?_,fun p q x y g i h d c=>?_,fun p q x y g i h d c=>?_,fun p q x y g w h E d c=>?_⟩
 ·rw[g1 _ Ω]at d c;exact J _ _ _ _ g i Ω d c
 ·rw[g2 _ Ω Ω]at d c;exact U _ _ _ _ Ω Ω Ω d c
 ·rw[g3 _ Ω Ω]at d c;exact J _ _ _ _ Ω Ω Ω d c
 ·rw[g4 _ Ω]at d c;exact U _ _ _ _ Ω Ω Ω d c
 ·by_cases F:p<s
  ·rw[g1 _ F]at d;by_cases A:q<e
   ·rw[g3 _ h A]at c;exact J _ _ _ _ g Ω Ω d c
   ·rw[g4 _ Ω]at c;rcases r with r|r|⟨u,v,z,t,o⟩
    ·omega
    ·omega
    ·exact f.ntr _ _ _ (f.ntr _ _ _ (fY.le f J g Ω Ω d z) o) (fY.le f U Ω Ω E t c)
  ·rw[g2 _ Ω w]at d;by_cases A:q<e
   ·rw[g3 _ h A]at c;rcases n with n|n|⟨u,v,z,t,o⟩
    ·omega
    ·omega
    ·exact f.ntr _ _ _ (f.ntr _ _ _ (fY.le f U Ω Ω Ω d t) (f.asym _ _ o)) (fY.le f J Ω Ω Ω z c)
   ·rw[g4 _ Ω]at c;exact U _ _ _ _ Ω Ω E d c
def amP{a mid b:Nat}(t:a<=mid){lk e f:List α}(J:hl a mid lk e)(s1:fY lt a mid e)(U:hl mid b e f)(s2:fY lt mid b f)(i:∀p q x y,a<=p->p<mid->mid<=q->q<b->lk[p]? =some x->lk[q]? =some y->lt y x=false):fY lt a b f:=by
 intro p q x y m j n c d;by_cases r:q<mid
 ·rw[U.out _ (.inl Ω)]at c;rw[U.out _ (.inl Ω)]at d;exact s1 _ _ _ _ m j r c d
 ·by_cases s:mid<=p
  ·exact s2 _ _ _ _ s j n c d
  ·rw[U.out _ (.inl Ω)]at c;refine U.all (fun y=>lt y x=false) (fun k y l o d=>?_) q y Ω n d;rw[J.out _ (.inr l)]at d;exact J.all (fun x=>lt y x=false) (fun bt x h g c=>i bt k x y h g l o c d) p x m Ω c
end
section
open Go Go.Pv
variable {α:Type} {S:List α->cS} {n g cr:Nat} {lc ch:List af} {lt:α->α->Bool}
def ary(lt:α->α->Bool)(l:List α)(mid m s0 r0:Nat)(x:Nat×Nat):Prop:=s0<=x.1/\x.1<=x.2/\x.2<=r0/\(x.1=s0\/ ∃u v,l[x.1-1]? =some u/\l[mid+m-x.1]? =some v/\lt v u=false)/\(x.2=r0\/ ∃u v,l[x.2]? =some u/\l[mid+m-x.2-1]? =some v/\lt v u=true)
attribute [local simp] qy
def Gn(S:List α->cS)(n g cr:Nat)(lc ch:List af)(lt:α->α->Bool)(d:Nat):Prop:=
 ∀(l:List α) (a m b:Nat),l.length=n->b-a<=d->a<m->m<b->b<=n->fY lt a m l->fY lt m b l->
  bG au 232 [fD g cr lc ch,aj a,aj m,aj b] (S l) fun r e=>r= .tuple []/\∃c,e=S c/\hl a b l c/\fY lt a b c
def Gp(S:List α->cS)(g cr:Nat)(lc ch:List af)(lt:α->α->Bool)(a b:Nat)(l:List α)(Q:Exit->bp->Prop):Prop:=∀c t o,hl a b l c->fY lt a b c->Q .normal ⟨t,(.loc 0,[.func g lc,.func cr ch])::(S c).b,(S c).e,1,o⟩
section
variable {a m b mid i e d:Nat} {l:List α} {t:List (Nat×af)} {o:List aB} {ob:List aB} {Q:Exit->bp->Prop}
def aq9(H:fS S n g cr lc ch lt)(r:Gn S n g cr lc ch lt d)(t3:Pv.get 3 t=aj b)(t4:Pv.get 4 t= .ptr (.loc 0) 0)(t16:Pv.get 16 t=aj mid)(t22:Pv.get 22 t=aj e)(c:l.length=n)(J:mid<=e)(U:e<=b)(s:b<=n)(u:b-mid<=d)(p:fY lt mid e l)(m:fY lt e b l)(i:Gp S g cr lc ch lt mid b l Q):
  de au ob GK Q ⟨t,(.loc 0,[.func g lc,.func cr ch])::(S l).b,(S l).e,1,o⟩:=by
 unfold GK;by_cases a:mid<e/\e<b
 ·simp[t3,t4,t16,t22,a.1,a.2,ae];simp only[jk H,H.slc,H.ssc,jf];refine H.doFn c (r l mid e b c u a.1 a.2 s p m) (fun w h=>by rw[h.1.length];exact c) (by simp[aH,az,H.kdata c]) ?_;rintro v ⟨q,z2⟩;simp;exact i _ _ _ q z2
 ·have k:fY lt mid b l:=by
   by_cases f:mid<e
   ·rwa[show e=b by omega]at p
   ·rwa[show e=mid by omega]at m
  by_cases f:mid<e
  ·have j:¬e<b:=Ω
   simp[t3,t16,t22,f,j];exact i _ _ _ (.refl _) k
  ·simp[t16,t22,f];exact i _ _ _ (.refl _) k
def ara(H:fS S n g cr lc ch lt)(A:Gn S n g cr lc ch lt d)(t1:Pv.get 1 t=aj a)(t3:Pv.get 3 t=aj b)(t4:Pv.get 4 t= .ptr (.loc 0) 0)(t16:Pv.get 16 t=aj mid)(t18:Pv.get 18 t=aj i)(t22:Pv.get 22 t=aj e)(j:l.length=n)(Y:a<=i/\i<=mid/\a<=m)(J:mid<=e)(U:e<=b)(P:b<=n)(R:b-mid<=d)(F:mid-a<=d)(f:Gf lt a i m e b mid l)(G:Gp S g cr lc ch lt a b l Q):
  de au ob GL Q ⟨t,(.loc 0,[.func g lc,.func cr ch])::(S l).b,(S l).e,1,o⟩:=by
 unfold GL;have next:∀{k t o},Pv.get 3 t=aj b->Pv.get 4 t= .ptr (.loc 0) 0->Pv.get 16 t=aj mid->Pv.get 22 t=aj e->k.length=n->hl a mid l k->fY lt a mid k->de au ob GK Q ⟨t,(.loc 0,[.func g lc,.func cr ch])::(S k).b,(S k).e,1,o⟩:=fun O V L N E c r=>by
  refine aq9 H A O V L N E J U P R (fun p q x y J U z s u=>?_) (fun p q x y J U z s u=>?_) fun K t o B M=>?_
  ·rw[c.out _ (.inr J)]at s;rw[c.out _ (.inr Ω)]at u;exact f.s3 p q x y J U z s u
  ·rw[c.out _ (.inr Ω)]at s;rw[c.out _ (.inr Ω)]at u;exact f.s4 p q x y J U z s u
  ·exact G K t o ((c.mono Ω Ω).trans (B.mono Ω Ω)) (amP Ω c r B M f.cross)
 by_cases v:a<i/\i<mid
 ·simp[t1,t4,t16,t18,v.1,v.2,ae];simp only[jk H,H.slc,H.ssc,jf];refine H.doFn j (A l a i mid j F v.1 v.2 Ω f.s1 f.s2) (fun X h=>by rw[h.1.length];exact j) (by simp[aH,az,H.kdata j]) ?_;rintro k ⟨c,r⟩;simp;exact next (by simp[t3]) (by simp[t4]) (by simp[t16]) (by simp[t22]) (by rw[c.length];exact j) c r
 ·have r:fY lt a mid l:=by
   by_cases w:a<i
   ·have:=f.s1;rwa[show i=mid by omega]at this
   ·have:=f.s2;rwa[show i=a by omega]at this
  by_cases w:a<i
  ·have W:¬i<mid:=Ω
   simp[t1,t16,t18,w,W];exact next (by simp[t3]) (by simp[t4]) (by simp[t16]) (by simp[t22]) j (.refl _) r
  ·simp[t1,t18,w];exact next (by simp[t3]) (by simp[t4]) (by simp[t16]) (by simp[t22]) j (.refl _) r
def arb(H:fS S n g cr lc ch lt)(K:Gn S n g cr lc ch lt d)(t1:Pv.get 1 t=aj a)(t2:Pv.get 2 t=aj m)(t3:Pv.get 3 t=aj b)(t4:Pv.get 4 t= .ptr (.loc 0) 0)(t16:Pv.get 16 t=aj mid)(t18:Pv.get 18 t=aj i)(t22:Pv.get 22 t=aj e)(c:l.length=n)(F:a<=i/\i<=mid/\a<=m)(J:mid<=e)(U:e<=b)(M:b<=n)(N:b-mid<=d)(w:mid-a<=d)(u:∀lk:List α,(∀k,lk[k]? =l[iV i m e k]?)->Gf lt a i m e b mid lk)(x:Gp S g cr lc ch lt a b l Q):
  de au ob Lu Q ⟨t,(.loc 0,[.func g lc,.func cr ch])::(S l).b,(S l).e,1,o⟩:=by
 unfold Lu;have next:∀{lk t o},Pv.get 1 t=aj a->Pv.get 3 t=aj b->Pv.get 4 t= .ptr (.loc 0) 0->Pv.get 16 t=aj mid->Pv.get 18 t=aj i->Pv.get 22 t=aj e->lk.length=n->Gf lt a i m e b mid lk->hl a b l lk->de au ob GL Q ⟨t,(.loc 0,[.func g lc,.func cr ch])::(S lk).b,(S lk).e,1,o⟩:=fun L O E G B A y j v=>ara H K L O E G B A y F J U M N w j fun z t o p q=>x z t o (v.trans p) q
 by_cases f:i<m/\m<e
 ·simp[t2,t4,t18,t22,f.1,f.2,ae];simp only[jk H,H.slc,H.ssc,jf];refine H.doFn c (ajl H l c i m e f.1 f.2 Ω) (fun P h=>by rw[h.1.length];exact c) (by simp[aH,az,H.kdata c]) ?_;rintro lk ⟨p,q⟩;simp;exact next (by simp[t1]) (by simp[t3]) (by simp[t4]) (by simp[t16]) (by simp[t18]) (by simp[t22]) (by rw[p.length];exact c) (u lk q) (p.mono Ω Ω)
 ·have j:=u l (fun k=>by
   congr 1;simp only[iV];repeat' split
   all_goals omega)
  by_cases s:i<m
  ·have r:¬m<e:=Ω
   simp[t2,t18,t22,s,r];exact next (by simp[t1]) (by simp[t3]) (by simp[t4]) (by simp[t16]) (by simp[t18]) (by simp[t22]) c j (.refl _)
  ·simp[t2,t18,s];exact next (by simp[t1]) (by simp[t3]) (by simp[t4]) (by simp[t16]) (by simp[t18]) (by simp[t22]) c j (.refl _)
def abJ{bb:List (aB×List af)}(H:fS S n g cr lc ch lt)(L:ae (.loc 0) bb=some [.func g lc,.func cr ch])(U:∀k cs,ae k (S l).b=some cs->ae k bb=some cs)(W:r4 lt)(Z:Gn S n g cr lc ch lt d){s0 r0:Nat}(t1:Pv.get 1 t=aj a)(t2:Pv.get 2 t=aj m)(t3:Pv.get 3 t=aj b)(t4:Pv.get 4 t= .ptr (.loc 0) 0)(t16:Pv.get 16 t=aj mid)(t17:Pv.get 17 t=aj ((mid:Int)+m))(t18:Pv.get 18 t=aj s0)(t19:Pv.get 19 t=aj r0)(f:l.length=n)(bA:a<m/\m<b/\mid=(a+b)/2)(J:mid<m/\s0=mid+m-b/\r0=mid\/m<=mid/\s0=a/\r0=m)(ag:b<=n)(aK:b-a<=d+1)(N:fY lt a m l)(M:fY lt m b l)(O:Gp S g cr lc ch lt a b l Q):
  de au (cJ (S l)) Lv Q ⟨t,bb,(S l).e,1,o⟩:=by
 have hle:=H.le;unfold Lv;simp[t17];(repeat' first|refine al ?_|simp[t17]);refine o7 (fun(x:Nat×Nat)=>⟨[(1,aj a),(2,aj m),(3,aj b),(4,.ptr (.loc 0) 0),(16,aj mid),(17,aj (mid+m)),(20,aj (mid+m-1)),(18,aj x.1),(19,aj x.2)],(.loc 0,[.func g lc,.func cr ch])::(S l).b,(S l).e,1,cJ (S l)⟩) (fun x=>x.2-x.1)
  (ary lt l mid m s0 r0) (s0,r0) (H.weak f f (by simp[az,t1,t2,t3,t4,t16,t17,t18,t19]) L U fun _ _ h=>h) ⟨Ψ,by simp;omega,Ψ,.inl rfl,.inl rfl⟩ ?_
 rintro⟨i,j⟩ ⟨K,X,G,p,q⟩ _;simp only at K X G p q;have E:=HB i j Ω;by_cases F:i<j
 ·simp[F];(repeat' first|refine al ?_|simp[ae]);obtain⟨c,ax⟩:∃c,c=(i+j)/2:=⟨_,rfl⟩;rw[<-ax]at E;simp only[E];(repeat' first|refine al ?_|simp[ae]);obtain⟨u,A⟩:∃u,l[c]? =some u:=⟨_,cl Ω⟩;obtain⟨v,z⟩:∃v,l[mid+m-1-c]? =some v:=⟨_,cl Ω⟩;have Y:((mid:Int)+m-1-c)=(mid+m-1-c:Nat):=Ω
  simp only[H.slc,Y];refine H.doLess f (mid+m-1-c) c z A ?_;simp;cases B:lt v u with
  |false=>simp;(repeat' first|refine al ?_|simp);refine bY.whl (c+1,j) d6 ⟨by simp;omega,by simp;omega,G,.inr ⟨u,v,by simpa using A,?_,B⟩,q⟩ (H.weakC f f dl);simp only;rw[show mid+m-(c+1)=mid+m-1-c by omega];exact z
  |true=>simp;(repeat' first|refine al ?_|simp);refine bY.whl (i,c) d6 ⟨K,by simp;omega,by simp;omega,p,.inr ⟨u,v,A,?_,B⟩⟩ (H.weakC f f dl);simp only;rw[show mid+m-c-1=mid+m-1-c by omega];exact z
 ·obtain rfl:i=j:=Ω
  obtain⟨e,he⟩:∃e,e=mid+m-i:=⟨_,rfl⟩;have P:((mid:Int)+m-i)=(e:Nat):=Ω
  have V:i=a\/e=b\/ ∃x y,l[i-1]? =some x/\l[e]? =some y/\lt y x=false:=by
   rcases p with p|⟨u,v,w,s,r⟩
   ·omega
   ·exact .inr (.inr ⟨u,v,w,by rw[he];exact s,r⟩)
  have R:i=m\/e=m\/ ∃x y,l[i]? =some x/\l[e-1]? =some y/\lt y x=true:=by
   rcases q with q|⟨u,v,w,s,r⟩
   ·omega
   ·exact .inr (.inr ⟨u,v,w,by rw[he];exact s,r⟩)
  simp[F];(repeat' first|refine al ?_|simp);rw[P];exact arb H Z (a:=a) (m:=m) (b:=b) (mid:=mid) (i:=i) (e:=e) Ψ Ψ Ψ Ψ Ψ Ψ Ψ f Ω Ω Ω ag Ω Ω (fun lk aJ=>amO W Ω Ω Ω Ω Ω Ω N M V R aJ) O
end
def VY(H:fS S n g cr lc ch lt)(q:r4 lt)(d:Nat):∀(l:List α) (a m b:Nat),l.length=n->b-a<=d->a<m->m<b->b<=n->fY lt a m l->fY lt m b l->
  bG au 232 [fD g cr lc ch,aj a,aj m,aj b] (S l) fun r ak=>r= .tuple []/\∃R,ak=S R/\hl a b l R/\fY lt a b R:=by
 induction d with
 |zero=>intro l a m b f Y D2 P;omega
 |succ d b1=>
 intro l a m b f Y D2 P ag M L;have ai:=H.ok l;have v:∀l m,ae (.loc m) (S l).b=none:=fun l=>(H.ok l).obj.1;have hu:∀l m cs,cI (.loc m) cs (S l).b=(S l).b++[(.loc m,cs)]:=fun l m cs=>kM (v l m);have ar:∀m,aB.loc m∉cJ (S l):=kI ai.obj;have hle:=H.le;refine bG.mk mixed a1 Tryz.func232 aoO Ψ ai.obj fun aR c4=>?_;unfold Tq;simp[fD,hu,ar,c6,v];(with_reducible repeat' first|((first|apply ct|apply cz|apply cy)<;>intro h<;>try simp at h)|refine al ?_|simp[hu,ar,c6,v])
 ·obtain rfl:m=a+1:=Ω
  have Z:∀k,iV a (a+1) (a+1) k=k:=by
   intro k;simp only[iV];repeat' split
   all_goals omega
  obtain⟨z,N⟩:∃z,l[a]? =some z:=⟨_,cl Ω⟩;refine o7 (fun(x:Nat×Nat)=>⟨[(1,aj a),(4,.ptr (.loc 0) 0),(8,aj x.1),(9,aj x.2)],(.loc 0,[.func g lc,.func cr ch])::(S l).b,(S l).e,1,cJ (S l)⟩) (fun x=>x.2-x.1)
   (fun x=>a+1<=x.1/\x.1<=x.2/\x.2<=b/\(∀h y,a+1<=h->h<x.1->l[h]? =some y->lt y z=true)/\(∀h y,x.2<=h->h<b->l[h]? =some y->lt y z=false)) (a+1,b)
   (H.weak f f dl (by simp[c6,v]) aX aX) ⟨Ψ,by simp;omega,Ψ,fun h y J U=>by simp at U;omega,fun h y J U=>by simp at J;omega⟩ ?_
  rintro⟨i,j⟩ ⟨O,X,E,w,A⟩ _;simp only at O X E w A;have hw:=HB i j Ω;simp[ae];(with_reducible repeat' first|((first|apply ct|apply cz|apply cy)<;>intro h<;>try simp at h)|refine al ?_|simp[ae])
  ·obtain⟨c,ax⟩:∃c,c=(i+j)/2:=⟨_,rfl⟩;rw[<-ax]at hw;obtain⟨y,G⟩:∃y,l[c]? =some y:=⟨_,cl Ω⟩;simp only[hw,H.slc];refine H.doLess f c a G N ?_;simp;cases K:lt y z with
   |true=>
    simp;(repeat' first|refine al ?_|simp);refine bY.whl (c+1,j) d6 ⟨by simp;omega,by simp;omega,E,fun h u J U hu=>?_,A⟩ (H.weakC f f dl);cases e:lt u z with
    |true=>rfl
    |false=>simp only at U;have:=q.ntr _ _ _ e (fY.le q L J Ω Ω hu G);rw[K]at this;cases this
   |false=>simp;(repeat' first|refine al ?_|simp);refine bY.whl (i,c) d6 ⟨O,by simp;omega,by simp;omega,w,fun h u J U hu=>?_⟩ (H.weakC f f dl);exact q.ntr _ _ _ K (fY.le q L Ω J U G hu)
  ·obtain rfl:i=j:=Ω
   refine o7 (fun(x:Nat×List α)=>⟨[(4,.ptr (.loc 0) 0),(8,aj i),(11,aj x.1)],(.loc 0,[.func g lc,.func cr ch])::(S x.2).b,(S x.2).e,1,cJ (S l)⟩) (fun x=>i-x.1)
    (fun x=>x.2.length=n/\a<=x.1/\x.1<i/\hl a b l x.2/\∀k,x.2[k]? =l[iV a (a+1) (x.1+1) k]?) (a,l)
    (H.weakC f f dl) ⟨f,Ψ,by simp;omega,.refl _,fun k=>by simp[Z]⟩ ?_
   rintro⟨k,lk⟩ ⟨p,F,W,B,s⟩ _;simp only at p F W B s;simp[ae];((repeat' first|refine al ?_|simp[ae]|((first|apply ct|apply cz|apply cy)<;>intro h<;>try simp at h))<;>(try exact c3))
   ·have V:((k:Int)+1)=(k+1:Nat):=Ω
    rw[H.ssc,V];refine H.doSwap p k (k+1) Ω Ω Ω ?_;simp;(with_reducible repeat' first|((first|apply ct|apply cz|apply cy)<;>intro h<;>try simp at h)|refine al ?_|simp);refine bY.whl (k+1,ia lk k (k+1)) d6 ⟨by simp[p],by simp;omega,by simp;omega,.step B Ω Ω Ω Ω Ω Ω,fun t=>?_⟩ (H.weakC f (by simp[p]) dl);rw[B9 _ _ _ _ Ω Ω,s,s,s];have:iV a (a+1) (k+1+1) t=if t=k then iV a (a+1) (k+1) (k+1)else if t=k+1 then iV a (a+1) (k+1) k else iV a (a+1) (k+1) t:=by
     simp only[iV];repeat' split
     all_goals omega
    rw[this];split
    ·rfl
    ·split<;>rfl
   ·obtain rfl:i=k+1:=Ω
    refine H.ret f p (.inl rfl) ⟨rfl,lk,rfl,B,amF q Ω E Ω L N w A s⟩
 ·obtain rfl:b=m+1:=Ω
  have Z:∀k,iV m m (m+1) k=k:=by
   intro k;simp only[iV];repeat' split
   all_goals omega
  obtain⟨z,N⟩:∃z,l[m]? =some z:=⟨_,cl Ω⟩;refine o7 (fun(x:Nat×Nat)=>⟨[(2,aj m),(4,.ptr (.loc 0) 0),(12,aj x.1),(13,aj x.2)],(.loc 0,[.func g lc,.func cr ch])::(S l).b,(S l).e,1,cJ (S l)⟩) (fun x=>x.2-x.1)
   (fun x=>a<=x.1/\x.1<=x.2/\x.2<=m/\(∀h y,a<=h->h<x.1->l[h]? =some y->lt z y=false)/\(∀h y,x.2<=h->h<m->l[h]? =some y->lt z y=true)) (a,m)
   (H.weak f f dl (by simp[c6,v]) aX aX) ⟨Ψ,by simp;omega,Ψ,fun h y J U=>by simp at U;omega,fun h y J U=>by simp at J;omega⟩ ?_
  rintro⟨i,j⟩ ⟨O,X,E,w,A⟩ _;simp only at O X E w A;have hw:=HB i j Ω;simp[ae];(with_reducible repeat' first|((first|apply ct|apply cz|apply cy)<;>intro h<;>try simp at h)|refine al ?_|simp[ae])
  ·obtain⟨c,ax⟩:∃c,c=(i+j)/2:=⟨_,rfl⟩;rw[<-ax]at hw;obtain⟨y,G⟩:∃y,l[c]? =some y:=⟨_,cl Ω⟩;simp only[hw,H.slc];refine H.doLess f m c N G ?_;simp;cases K:lt z y with
   |false=>simp;((repeat' first|refine al ?_|simp|((first|apply ct|apply cz|apply cy)<;>intro h<;>try simp at h))<;>(try exact c3));refine bY.whl (c+1,j) d6 ⟨by simp;omega,by simp;omega,E,fun h u J U hu=>?_,A⟩ (H.weakC f f dl);simp only at U;exact q.ntr _ _ _ (fY.le q M J Ω Ω hu G) K
   |true=>
    simp;((repeat' first|refine al ?_|simp|((first|apply ct|apply cz|apply cy)<;>intro h<;>try simp at h))<;>(try exact c3));refine bY.whl (i,c) d6 ⟨O,by simp;omega,by simp;omega,w,fun h u J U hu=>?_⟩ (H.weakC f f dl);cases e:lt z u with
    |true=>rfl
    |false=>have:=q.ntr _ _ _ (fY.le q M Ω J U G hu) e;rw[K]at this;cases this
  ·obtain rfl:i=j:=Ω
   refine o7 (fun(x:Nat×List α)=>⟨[(4,.ptr (.loc 0) 0),(12,aj i),(15,aj x.1)],(.loc 0,[.func g lc,.func cr ch])::(S x.2).b,(S x.2).e,1,cJ (S l)⟩) (fun x=>x.1)
    (fun x=>x.2.length=n/\i<=x.1/\x.1<=m/\hl a (m+1) l x.2/\∀k,x.2[k]? =l[iV x.1 m (m+1) k]?) (m,l)
    (H.weakC f f dl) ⟨f,by simp;omega,Ψ,.refl _,fun k=>by simp[Z]⟩ ?_
   rintro⟨k,lk⟩ ⟨p,F,W,B,s⟩ _;simp only at p F W B s;simp[ae];((repeat' first|refine al ?_|simp[ae]|((first|apply ct|apply cz|apply cy)<;>intro h<;>try simp at h))<;>(try exact c3))
   ·have V:((k:Int)-1)=(k-1:Nat):=Ω
    rw[H.ssc,V];refine H.doSwap p k (k-1) Ω Ω Ω ?_;simp;(repeat' first|refine al ?_|simp);refine bY.whl (k-1,ia lk k (k-1)) d6 ⟨by simp[p],by simp;omega,by simp;omega,.step B Ω Ω Ω Ω Ω Ω,fun t=>?_⟩ (H.weakC f (by simp[p]) (by simp[az];omega));rw[B9 _ _ _ _ Ω Ω,s,s,s];have:iV (k-1) m (m+1) t=if t=k then iV k m (m+1) (k-1)else if t=k-1 then iV k m (m+1) k else iV k m (m+1) t:=by
     simp only[iV];repeat' split
     all_goals omega
    rw[this];split
    ·rfl
    ·split<;>rfl
   ·obtain rfl:i=k:=Ω
    refine H.ret f p (.inl rfl) ⟨rfl,lk,rfl,B,amG q Ω E Ω M N w A s⟩
 ·obtain⟨mid,M4⟩:∃mid,mid=(a+b)/2:=⟨_,rfl⟩;have hw:=HB a b Ω;rw[<-M4]at hw;simp only[hw];(with_reducible repeat' first|((first|apply ct|apply cz|apply cy)<;>intro h<;>try simp at h)|refine al ?_|simp[hu,ar,c6,v])
  ·exact abJ (s0:=mid+m-b) (r0:=mid) H (by simp[c6,v]) aX q b1 (a:=a) (m:=m) (b:=b) (mid:=mid) Ψ Ψ Ψ Ψ Ψ Ψ d6 Ψ f ⟨D2,P,M4⟩ Ω ag Y M L fun Q t o p F=>H.ret f (by rw[p.length];exact f) (.inr rfl) ⟨rfl,Q,rfl,p,F⟩
  ·exact abJ (s0:=a) (r0:=m) H (by simp[c6,v]) aX q b1 (a:=a) (m:=m) (b:=b) (mid:=mid) Ψ Ψ Ψ Ψ Ψ Ψ Ψ Ψ f ⟨D2,P,M4⟩ Ω ag Y M L fun Q t o p F=>H.ret f (by rw[p.length];exact f) (.inr rfl) ⟨rfl,Q,rfl,p,F⟩
end
section
open Go Go.Pv
variable {α:Type} {S:List α->cS} {n g cr:Nat} {lc ch:List af} {lt:α->α->Bool}
def qj(lt:α->α->Bool)(z a b:Nat)(l:List α):Prop:= ∀i j x y,a<=i->i<j->j<b->i/z=j/z->l[i]? =some x->l[j]? =some y->lt y x=false
def qj.snoc{z q:Nat}(f:0<z){l a:List α}(h:qj lt z 0 (q*z) l){b:Nat}(g:hl (q*z) b l a)(U:fY lt (q*z) b a):qj lt z 0 b a:=by
 intro i j x y hi e m o c d;by_cases k:j<q*z
 ·rw[g.out _ (.inl Ω)]at c;rw[g.out _ (.inl k)]at d;exact h i j x y hi e k o c d
 ·have p:q<=j/z:=(Nat.le_div_iff_mul_le f).2 Ω;have n:q*z<=i:=(Nat.le_div_iff_mul_le f).1 Ω;exact U i j x y n e m c d
def qj.srt{z q:Nat}(o:0<z){l:List α}{a b:Nat}(h:qj lt z a b l){c:Nat}(f:a<=q*z)(ax:c<=(q+1)*z)(e:c<=b):fY lt (q*z) c l:=by intro i j x y hi d p g k;have n:i/z=q:=Nat.div_eq_of_lt_le hi Ω;have m:j/z=q:=Nat.div_eq_of_lt_le Ω Ω;exact h i j x y Ω d Ω Ω g k
def qj.after{z a b br b0:Nat}{l c:List α}(h:qj lt z a b l)(d:hl a br l c)(m:a<=br)(o:b0<=b):qj lt z br b0 c:=by intro i j x y hi g n k e f;rw[d.out _ (.inr Ω)]at e;rw[d.out _ (.inr Ω)]at f;exact h i j x y Ω g Ω k e f
def Mt(H:fS S n g cr lc ch lt)(L:r4 lt)(l:List α)(f:l.length=n):
  bG au 199 [fD g cr lc ch,aj n] (S l) fun r ak=>r= .tuple []/\∃b,ak=S b/\hl 0 n l b/\fY lt 0 n b:=by
 have ai:=H.ok l;have W:∀l m,ae (.loc m) (S l).b=none:=fun l=>(H.ok l).obj.1;have hu:∀l m cs,cI (.loc m) cs (S l).b=(S l).b++[(.loc m,cs)]:=fun l m cs=>kM (W l m);have ar:∀m,aB.loc m∉cJ (S l):=kI ai.obj;have hle:=H.le;refine bG.mk mixed a1 Tryz.func199 aoM Ψ ai.obj fun aR c4=>?_;unfold To;simp[fD,hu,ar,c6,W];refine o7 (fun(x:Nat×List α)=>⟨[(1,aj n),(2,.ptr (.loc 0) 0),(4,aj 20),(5,aj (x.1*20)),(6,aj (x.1*20+20))],(.loc 0,[.func g lc,.func cr ch])::(S x.2).b,(S x.2).e,1,cJ (S l)⟩) (fun x=>n+20-x.1*20)
  (fun x=>x.2.length=n/\x.1*20<=n/\hl 0 n l x.2/\qj lt 20 0 (x.1*20) x.2) (0,l)
  (H.weak f f dl (by simp[c6,W]) aX aX) ⟨f,Ψ,.refl _,fun i j x y J U k=>by simp at k⟩ ?_
 rintro⟨q,lk⟩ ⟨J,U,k,V⟩ _;simp only at J U k V;simp[ae];((repeat' first|refine al ?_|simp[ae]|((first|apply ct|apply cz|apply cy)<;>intro h<;>try simp at h))<;>(try exact c3))
 ·have P:((q:Int)*20)=(q*20:Nat):=Ω
  have aC:((q:Int)*20+20)=(q*20+20:Nat):=Ω
  simp only[jk H,H.slc,H.ssc,jf,aC];simp only[P];refine H.doFn J (VN H L lk J (q*20) (q*20+20) Ω Ω) (fun b h=>by rw[h.1.length];exact J) (by simp[aH,az,H.kdata J]) ?_;rintro b ⟨s,N⟩;have w:b.length=n:=by rw[s.length];exact J
  simp;((repeat' first|refine al ?_|simp|((first|apply ct|apply cz|apply cy)<;>intro h<;>try simp at h))<;>(try exact c3));refine bY.whl (q+1,b) d6 ⟨w,by simp;omega,k.trans (s.mono Ω Ω),?_⟩ (H.weakC f w (by simp[az];omega));have:=V.snoc Ω s N;rwa[show q*20+20=(q+1)*20 by omega]at this
 ·have P:((q:Int)*20)=(q*20:Nat):=Ω
  simp only[jk H,H.slc,H.ssc,jf,P];refine H.doFn J (VN H L lk J (q*20) n Ω Ω) (fun b h=>by rw[h.1.length];exact J) (by simp[aH,az,H.kdata J]) ?_;rintro b ⟨s,N⟩;have w:b.length=n:=by rw[s.length];exact J
  have gg:=V.snoc Ω s N;simp;refine o7 (fun(x:Nat×List α)=>⟨[(1,aj n),(2,.ptr (.loc 0) 0),(4,aj x.1)],(.loc 0,[.func g lc,.func cr ch])::(S x.2).b,(S x.2).e,1,cJ (S l)⟩) (fun x=>1099511627776-x.1)
   (fun x=>x.2.length=n/\20<=x.1/\x.1<=2*n+20/\hl 0 n l x.2/\qj lt x.1 0 n x.2) (20,b)
   (H.weakC f w dl) ⟨w,Ψ,Ψ,k.trans (s.mono Ω Ω),gg⟩ ?_
  rintro⟨z,Ys⟩ ⟨K,z2,z3,z4,z5⟩ _;simp only at K z2 z3 z4 z5;simp[ae];((repeat' first|refine al ?_|simp[ae]|((first|apply ct|apply cz|apply cy)<;>intro h<;>try simp at h))<;>(try exact c3))
  ·refine o7 (fun(x:Nat×List α)=>⟨[(1,aj n),(2,.ptr (.loc 0) 0),(4,aj z),(5,aj (x.1*(2*z):Nat)),(6,aj (x.1*(2*z)+2*z:Nat))],(.loc 0,[.func g lc,.func cr ch])::(S x.2).b,(S x.2).e,1,cJ (S l)⟩) (fun x=>n+2*z-x.1*(2*z))
    (fun x=>x.2.length=n/\x.1*(2*z)<=n/\hl 0 n l x.2/\qj lt (2*z) 0 (x.1*(2*z)) x.2/\qj lt z (x.1*(2*z)) n x.2) (0,Ys)
    (H.weakC f K dl) ⟨K,Ψ,z4,fun i j x y J U k=>by simp at k,by simpa using z5⟩ ?_
   rintro⟨p,F⟩ ⟨a,dM,G,o,E⟩ _;simp only at a dM G o E;obtain⟨A,d⟩:∃A,A=p*(2*z):=⟨_,rfl⟩;have ze:A=(2*p)*z:=by rw[d,Nat.mul_comm 2 p,Nat.mul_assoc]
   have X:(2*p+1)*z=A+z:=by rw[q7,<-ze,Nat.one_mul]
   have R:(2*p+2)*z=A+2*z:=by rw[q7,<-ze]
   have t:(p+1)*(2*z)=A+2*z:=by rw[q7,<-d,Nat.one_mul]
   have M:∀c,c<=A+z->c<=n->fY lt A c F:=fun c ax Y=>by have:=qj.srt (q:=2*p) Ω E (c:=c) (by rw[<-ze,d];omega) (by rw[X];exact ax) Y;rwa[<-ze]at this
   have Z:∀c,c<=A+2*z->c<=n->fY lt (A+z) c F:=fun c ax Y=>by have:=qj.srt (q:=2*p+1) Ω E (c:=c) (by rw[X,d];omega) (by rw[R];exact ax) Y;rwa[X]at this
   rw[<-d]at dM o E;simp only[<-d];simp[ae];((repeat' first|refine al ?_|simp[ae]|((first|apply ct|apply cz|apply cy)<;>intro h<;>try simp at h))<;>(try exact c3))
   ·have O:((A:Int)+z)=(A+z:Nat):=Ω
    have b4:((A:Int)+2*z)=(A+2*z:Nat):=Ω
    simp only[jk H,H.slc,H.ssc,jf,O,b4];refine H.doFn a (VY H L (A+2*z-A) F A (A+z) (A+2*z) a Ω Ω Ω Ω (M _ Ω Ω) (Z _ Ω Ω)) (fun b h=>by rw[h.1.length];exact a) (by simp[aH,az,H.kdata a]) ?_;rintro B ⟨e,u⟩;have v:B.length=n:=by rw[e.length];exact a
    simp;(repeat' first|refine al ?_|simp);refine bY.whl (p+1,B) (by simp only[t,<-d];omega) ⟨v,by simp only[t];omega,G.trans (e.mono Ω Ω),?_,?_⟩ ?_
    ·simp only[t];rw[d]at o e u;have:=o.snoc Ω e u;rwa[<-d]at this
    ·simp only[t];exact E.after e Ω Ω
    ·simp only[t];have Q:((p:Int)+1)*(2*(z:Int))=(A:Int)+2*z:=by have h:=fy (Nat.cast:Nat->Int) t;push_cast at h;exact h
     exact H.weakC f v (by simp[az,Q])
   ·have O:((A:Int)+z)=(A+z:Nat):=Ω
    simp only[jk H,H.slc,H.ssc,jf,O];refine H.doFn a (VY H L (n-A) F A (A+z) n a Ω Ω Ω Ω (M _ Ω Ω) (Z _ Ω Ω)) (fun b h=>by rw[h.1.length];exact a) (by simp[aH,az,H.kdata a]) ?_;rintro B ⟨e,u⟩;have v:B.length=n:=by rw[e.length];exact a
    simp;((repeat' first|refine al ?_|simp|((first|apply ct|apply cz|apply cy)<;>intro h<;>try simp at h))<;>(try exact c3));refine bY.whl (2*z,B) d6 ⟨v,by simp;omega,by simp;omega,G.trans (e.mono Ω Ω),?_⟩ (H.weakC f v (by simp[az];omega));rw[d]at o e u;exact o.snoc Ω e u
   ·refine bY.whl (2*z,F) d6 ⟨a,by simp;omega,by simp;omega,G,?_⟩ (H.weakC f a (by simp[az];omega));have bR:=M n Ω Ω;rw[d]at o bR;exact o.snoc Ω (.refl _) bR
  ·refine H.ret f K (.inr rfl) ?_;refine⟨rfl,Ys,rfl,z4,fun i j x y J U k=>z5 i j x y J U k ?_⟩;rw[Nat.div_eq_of_lt Ω,Nat.div_eq_of_lt Ω]
end
section
open Go Go.Pv Go.Sort Go.RowKit
def akR{w:World}{base:Nat}{e:gU}{sz:Nat}{v:Value}{n:Nat}{us:List Value}(h:w.ownsRow base e sz v n us)(k:v≠ .slice none 0 0):
  ∃g cap,v= .slice (some ⟨g,0,none⟩) n cap/\g<w.heap.size/\cap<=maxLen/\n<=cap/\us.length=n*sz/\Holds id w g 0 us.toArray:=by
 rcases h.2 with⟨d,_⟩|⟨g,cap,cur,rfl,q,be,m,hm,p,l⟩
 ·exact absurd d k
 ·have f:g<w.heap.size:=by
   rcases Nat.lt_or_ge g w.heap.size with a|a
   ·exact a
   ·rw[Array.getElem?_eq_none a]at be;cases be
  refine⟨g,cap,rfl,f,hm,m,h.1,fun j i=>?_⟩;have b:j<us.length:=by simpa using i
  have o:=h.1;refine⟨?_,by simp[World.frozen?,be]⟩;have c:(cur.toList.take (n*sz))[j]? =us[j]?:=by rw[l]
  rw[List.getElem?_take,if_pos Ω,vt,cl b]at c;simp only[World.cell?,be,Nat.zero_add];simp only[lH,hQ,if_false];rw[c];simp[getElem!_pos,b]
def apq{w:World}{base:Nat}{e:gU}{sz g n cap q:Nat}{us:List Value}{F:Array Value}(h:w.ownsRow base e sz (.slice (some ⟨g,0,none⟩) n cap) n us)(k:F.size=n*sz):
  (putRow id (Sort.ahead w q) g 0 F).ownsRow base e sz (.slice (some ⟨g,0,none⟩) n cap) n F.toList:=by
 rcases h.2 with⟨b,_⟩|⟨o,r,cur,b,m,be,i,hm,d,p⟩
 ·cases b
 ·injection b with a _ l;injection a with a;injection a with a;subst a;subst l;refine⟨by simpa using k,.inr ⟨g,cap,putCells id 0 F cur,rfl,m,?_,i,hm,by simpa[putCells]using d,?_⟩⟩
  ·simp[putRow,mapBlock,Sort.ahead,Array.getElem?_modify,be,onCells]
  ·have hle:n*sz<=cur.size:=by rw[d];exact r2 _ i
   apply List.ext_getElem?;intro j;rw[List.getElem?_take,vt,vt];by_cases f:j<n*sz
   ·have c:j<cur.size:=Ω
    simp only[if_pos f,putCells,Array.getElem?_mapIdx,Array.getElem?_eq_getElem c,pC];rw[if_pos Ω];simp[getElem!_pos,show j<F.size by omega]
   ·simp[f];omega
end
end Go.Proofs.YtahlgcidhnjlbaaGreat
namespace Go.Pv
section
open Go Go.RowKit Go.Lib Go.Sort Go.Proofs.YtahlgcidhnjlbaaGreat
def XS{S:aB->Prop}:∀{l:List af},aH S l↔∀x∈l,az S x
 |[]=>by simp[aH]
 |x::r=>by simp only[aH,XS (l:=r),gI,forall_eq_or_imp]
def XK{α:Type}{s:cS}{l:List (aB×α)}:lV s l↔∀k,(ae k l).isSome->aM s k:=by
 refine⟨fun h k ab=>xX h k ab,fun h=>?_⟩;have:∀a:List (aB×α),(∀x∈a,aM s x.1)->lV s a:=by
  intro a;induction a with
  |nil=>intro _;trivial
  |cons x r b=>obtain⟨k,x⟩:=x;exact fun h=>⟨h (k,x) Ψ,b fun y d=>h y (by simp[d])⟩
 exact this l fun x c=>h x.1 (u7 (x:=x.2) c)
def PX{w:World}{ν:bc}{sz:Nat}:∀{xs:List af} {us:List Value} {i:Nat} {p:af},dw w ν sz xs us->xs[i]? =some p->∃u,(us.drop (i*sz)).take sz=u.cells.toList/\aV w ν p u/\u.cells.size=sz/\∀c∈u.cells.toList,c.oneCell'=true
 |[],_,_,_,_,a=>by simp at a
 |x::xs,us,0,p,h,a=>by simp only[dw]at h;obtain⟨u,e,rfl,⟨J,U,b⟩,_⟩:=h;simp at a;subst a;refine⟨u,?_,J,U,b⟩;simp only[Nat.zero_mul,List.drop_zero];rw[List.take_append_of_le_length (by simp[U])];exact iu (by simp[U])
 |x::xs,us,i+1,p,h,a=>by simp only[dw]at h;obtain⟨u,e,rfl,⟨J,U,b⟩,d⟩:=h;obtain⟨v,f,g⟩:=PX (i:=i) d (by simpa using a);refine⟨v,?_,g⟩;rw[<-f,Nat.succ_mul,Nat.add_comm,<-List.drop_drop];congr 2;rw[List.drop_append_of_le_length (by simp[U]),List.drop_of_length_le (by simp[U])];rfl
def Qg:∀(bm:List Value) (s:Nat) (F:Array Value),s+bm.length<=F.size->(setMany F s bm).toList=F.toList.take s++bm++F.toList.drop (s+bm.length)
 |[],s,F,h=>by simp[setMany]
 |v::r,s,F,h=>by
  simp only[mT]at h;rw[setMany,Qg r (s+1) _ d6];have b:s<F.toList.length:=by simp;omega
  have c:(F.setIfInBounds s v).toList=F.toList.set s v:=Ψ
  rw[c];have d:(F.toList.set s v).take (s+1)=F.toList.take s++[v]:=by rw[List.take_succ,List.getElem?_set_self b,List.take_set_of_le (dP _)];simp
  have a:(F.toList.set s v).drop (s+1+r.length)=F.toList.drop (s+(v::r).length):=by rw[List.drop_set_of_lt Ω];congr 1;simp;omega
  rw[d,a];simp
def adV(w:World):Sort.ahead w 0=w:=by simp[Sort.ahead]
def VX{P:cH}(N:Bool)(cr:Nat)(ad:∀args W,(callFunc cr args).run P W=((Gb N args).run P W).andThen fun v w'=>.ok (.value v) w')(e:gU)(a:TypeInfo)(uQ:P.info? e=some a)(G:(∀w,(Go.isAgg e).run P w= .ok true w)\/(a.size=1/\∀w,(Go.isAgg e).run P w= .ok false w)){s:cS}(B:eA s){K n el sz:Nat}(en:a.size=sz){xs:List af}(ab:ae (.obj K) s.e=some ⟨n,el,sz,some xs⟩)
  (i j:Nat) (hi:i<n) (ah:j<n):bG P cr [.int .i64 i,.int .i64 j,.row sz (.obj K) n,.cst (typeHandle P e)] s fun r ak=>r= .tuple []/\ak=⟨s.b,cI (.obj K) ⟨n,el,sz,some (ia xs i j)⟩ s.e⟩:=by
 subst en;refine bG.sem B.obj fun w ν bm lr E=>?_;right;have s0:=E.slot 0;have s1:=E.slot 1;have s2:=E.slot 2;have s3:=E.slot 3;simp[jb,get,aV]at s0 s1 s2 s3;obtain⟨v,us,a7,bB,bX,dq⟩:=E.good.own (.obj K) _ ab;obtain⟨dK,R,vh⟩:=dq _ rfl;simp only at dK R a7 bB;obtain⟨⟨g0,aet,vZ⟩,_,n',eJ,ao,aC,bh⟩:=s2;rw[a7]at ao;simp only[dU,jn]at ao;obtain⟨rfl,rfl⟩:=ao;have b:=bh rfl;have cv:v≠ .slice none 0 0:=by rw[<-b,vZ];simp
 obtain⟨g,cap,rfl,sr,tl,ake,Z,DZ⟩:=akR bB cv;have alh:bm= #[.int .i64 i,.int .i64 j,.slice (some ⟨g,0,none⟩) n cap,typeHandle P e]:=by
  have J:bm.size=4:=by simpa using lr
  apply Array.ext (by simpa using J);intro t U aq;simp at aq;rcases(by omega:t=0\/t=1\/t=2\/t=3)with rfl|rfl|rfl|rfl
  ·simpa[Array.getD,J]using s0
  ·simpa[Array.getD,J]using s1
  ·simpa[Array.getD,J]using b
  ·simpa[Array.getD,J]using s3
 subst alh;obtain⟨p,bM⟩:∃p,xs[i]? =some p:=⟨_,cl Ω⟩;obtain⟨q,bK⟩:∃q,xs[j]? =some q:=⟨_,cl Ω⟩;obtain⟨u,L,jm,y,O⟩:=PX R bM;obtain⟨x,H,AA,l,S⟩:=PX R bK;have WK:i*a.size+a.size<=n*a.size:=by have:=r2 a.size (show i+1<=n from hi);rwa[q7,Nat.one_mul]at this
 have WL:j*a.size+a.size<=n*a.size:=by have:=r2 a.size (show j+1<=n from ah);rwa[q7,Nat.one_mul]at this
 have cell:∀t v,us[t]? =some v->w.cell? ⟨g,t,none⟩=some v:=fun t v M=>by obtain⟨J,U⟩:=fI.1 M;have:=(DZ t (by simpa using J)).1;simp at this;rw[this];simp[getElem!_pos,J,U]
 have X:∀t,t<n*a.size->w.frozen? ⟨g,t,none⟩=false:=fun t M=>by have:=(DZ t (by simpa[Z]using M)).2;simpa using this
 have run:(Gb N #[.int .i64 i,.int .i64 j,.slice (some ⟨g,0,none⟩) n cap,typeHandle P e]).run P w= .ok (.tuple #[]) ((w.setCells g (0+i*a.size) x.cells.toList).setCells g (0+j*a.size) u.cells.toList):=by
  rcases G with G|⟨V,G⟩
  ·exact run_swap_cells (P:=P) N e a uQ G g 0 n cap i j hi ah u.cells.toList x.cells.toList (by simp[y]) (by simp[l]) O S w
     (fun k v b=>by
      rw[<-L,List.getElem?_take]at b;split at b
      ·rw[List.getElem?_drop]at b;simpa using cell _ _ b
      ·cases b)
     (fun k v b=>by
      rw[<-H,List.getElem?_take]at b;split at b
      ·rw[List.getElem?_drop]at b;simpa using cell _ _ b
      ·cases b)
     (fun k ab=>by simpa using X (i*a.size+k) Ω) (fun k ab=>by simpa using X (j*a.size+k) Ω)
  ·rw[V]at L y H l⊢;obtain⟨Y,ML⟩:∃c,u.cells.toList=[c]:=List.length_eq_one_iff.1 (by simpa using y);obtain⟨Q,mF⟩:∃c,x.cells.toList=[c]:=List.length_eq_one_iff.1 (by simpa using l);rw[ML]at L O⊢;rw[mF]at H S⊢;simp only[World.setCells,Nat.mul_one]at L H⊢;have V0:us[i]? =some Y:=by have:=fy (·[0]?) L;simpa using this
   have V2:us[j]? =some Q:=by have:=fy (·[0]?) H;simpa using this
   have:=run_swap_one (P:=P) N e a uQ V G g 0 n cap i j hi ah Y Q (O Y Ψ) (S Q Ψ) w (by simpa using cell i Y V0) (by simpa using cell j Q V2) (by simpa using X i (by rw[V];omega)) (by simpa using X j (by rw[V];omega));simpa using this
 have alj:putRow id w g 0 us.toArray=w:=putRow_self id w g 0 _ DZ;have ala:us.toArray.size=n*a.size:=by simpa using Z
 have H5:w.setCells g (0+i*a.size) x.cells.toList=putRow id w g 0 (setMany us.toArray (i*a.size) x.cells.toList):=by have J:=setCells_putRow w g 0 x.cells.toList (i*a.size) us.toArray (by simp[l,Z];exact WK);rw[alj]at J;exact J
 obtain⟨d,oA⟩:∃d,d=setMany us.toArray (i*a.size) x.cells.toList:=⟨_,rfl⟩;have ajL:d.toList=us.take (i*a.size)++x.cells.toList++us.drop (i*a.size+a.size):=by rw[oA,Qg _ _ _ (by simp[l,Z];exact WK)];simp[l]
 have MA:d.size=n*a.size:=by rw[oA,size_setMany];exact ala
 have p1:(w.setCells g (0+i*a.size) x.cells.toList).setCells g (0+j*a.size) u.cells.toList=putRow id w g 0 (setMany d (j*a.size) u.cells.toList):=by rw[H5,<-oA,setCells_putRow w g 0 u.cells.toList (j*a.size) d (by simp[y,MA];exact WL)]
 obtain⟨f,DY⟩:∃f,f=setMany d (j*a.size) u.cells.toList:=⟨_,rfl⟩;have ajM:f.toList=d.toList.take (j*a.size)++u.cells.toList++d.toList.drop (j*a.size+a.size):=by rw[DY,Qg _ _ _ (by simp[y,MA];exact WL)];simp[y]
 have ajN:f.size=n*a.size:=by rw[DY,size_setMany];exact MA
 have dL:=JC R bM AA l S;rw[<-ajL]at dL;have eE:=JC (i:=j) (q:=q) dL (by rw[List.getElem?_set];split;(rename_i e;subst e;rw[if_pos Ω]);exact bK) jm y O;rw[<-ajM]at eE;have Et:(xs.set i q).set j p=ia xs i j:=by simp[ia,bM,bK]
 rw[Et]at eE;have hlen:(ia xs i j).length=n:=by simpa using dK
 have mH:=apq (q:=0) (F:=f) bB ajN;rw[adV]at mH;obtain⟨lE,qg,_⟩:=E.setRowM (w':=putRow id w g 0 f) ab rfl a7 (bl:=g) rfl (v':= .slice (some ⟨g,0,none⟩) n cap) rfl (xs':=ia xs i j) (us:=f.toList) (.inl ⟨hlen,rfl⟩) rfl rfl rfl
  (fun t M=>by simp[putRow,mapBlock,Array.getElem?_modify,Ne.symm M]) (by simp[putRow,mapBlock]) (by rw[hlen];exact mH) eE
 refine⟨.tuple #[],putRow id w g 0 f,?_,?_⟩
 ·rw[ad,run,p1,<-DY];rfl
 ·have A:∀k,aM ⟨s.b,cI (.obj K) ⟨n,el,a.size,some (ia xs i j)⟩ s.e⟩ k↔aM s k:=fun k=>by
   unfold aM;simp only[jj];by_cases dj:aB.obj K=k
   ·subst dj;simp[ab]
   ·simp[dj]
  refine⟨_,_,_,_,.tuple [],⟨s.b,cI (.obj K) ⟨n,el,a.size,some (ia xs i j)⟩ s.e⟩,rfl,lE,by simp[aV,c7],XK.2 fun k lS=>(A k).2 (.inl lS),XK.2 fun k lS=>(A k).2 (.inr lS),fun k cs ax=>⟨ax,(A k).2 (.inl (by simp at ax;simp[ax])),ji (fun k h=>(A k).2 h) _ (B.kb k cs ax)⟩,fun k o ar=>⟨by simpa[hlen]using ar,?_,fun ys aI=>?_⟩,⟨B.obj.1,fun m=>?_⟩,by simp[az,aH],rfl,rfl⟩
  ·exact(.inr (by simp at ar;simp[ar]))
  ·simp only[jj]at ar;split at ar
   ·cases ar;simp only[dU]at aI;subst aI;have WD:=B.ke _ _ ab xs rfl;refine ji (fun k h=>(A k).2 h) _ ?_;rw[XS]at WD⊢;exact fun z bC=>WD z ((Yr xs i j).mem_iff.1 bC)
   ·exact ji (fun k h=>(A k).2 h) _ (B.ke k o ar ys aI)
  ·simp only[jj];simp[B.obj.2 m]
def VW{P:cH}(b:Bool)(cr:Nat)(l:∀args W,(callFunc cr args).run P W=((Gb b args).run P W).andThen fun v w'=>.ok (.value v) w')(e:gU)(a:TypeInfo)(d:P.info? e=some a)(c:∀w,(Go.isAgg e).run P w= .ok true w){s:cS}(h:eA s){K n el sz:Nat}(f:a.size=sz){xs:List af}(ab:ae (.obj K) s.e=some ⟨n,el,sz,some xs⟩)
  (i j:Nat) (hi:i<n) (k:j<n):bG P cr [.int .i64 i,.int .i64 j,.row sz (.obj K) n,.cst (typeHandle P e)] s fun r g=>r= .tuple []/\g=⟨s.b,cI (.obj K) ⟨n,el,sz,some (ia xs i j)⟩ s.e⟩:=VX b cr l e a d (.inl c) h f ab i j hi k
end
end Go.Pv
namespace Go.Proofs.YtahlgcidhnjlbaaGreat
section
open Go Go.RowKit Go.Lib Go.Sort Go.Pv
set_option maxRecDepth 100000 in
def aq4(t e:gU)(i e0:TypeInfo)(hi:au.info? t=some i)(aK:i.desc= .slice e)(Em:au.packed t=false)(uQ:au.info? e=some e0)(ke:Nat)(wg:∀w,(adp e).run au w= .ok ke w)
  (p:bd Addr) (n c:Nat) (aA:n<4611686018427387904) (f:Nat) (aG:au.funcs.findIdx? (·.name== "internal/reflectlite" ++ ".Swapper$" ++toString (swapperK n e0 ke))=some f) (Yl:Fn) (Oa sD:Array Value) (w:World) (R:World->Prop)
  (bM:Calls au 199 #[.agg #[.func Yl Oa sD,.func (.func f) #[] (sliceBound au e e0 ke p n c)],.int .i64 n] ((w.alloc (.cells #[.slice p n c] t)).alloc (.cells #[typeHandle au t,.pointer (some ⟨w.heap.size,0,none⟩),.int .u64 151] 179)) fun e w'=>e= .returned (.tuple #[])/\R w'):
  Calls au 140 #[.iface t (.slice p n c),.func Yl Oa sD] w fun e w'=>e= .returned (.tuple #[])/\R w':=by
 have aN:=run_valueOf_slice (P:=au) t e i hi aK p n c w;have ai:=fun w=>run_swapper_slice (P:=au) t e i e0 hi aK uQ ke wg p n c f aG w;have av:=fun a w bS=>run_valueLen_slice (P:=au) t e i hi aK Em a p n c w bS;unfold sliceBound at bM;generalize (if swapperK n e0 ke<=2 then(#[]:Array Value)else #[.slice p n c,typeHandle au e])=B at ai bM;have akh:au.globals.size=0:=bi
 simp only[typeHandle,akh]at aN av bM;have G6:∀args w,(callFunc 199 args).run au w= .ok (.enter 199 args) w:=enters_of Tryz.func199 bi rfl;go_enter Tryz.func140,Tryz.ntmps140;go_wp2;rw[run_callFunc_extern Tryz.func197 bi bi bi (e:=fun args=>atw (args.getD 0 (.tuple #[]))) bi,
  show Sem.run au ((fun args:Array Value=>atw (args.getD 0 (.tuple #[]))) #[.iface t (.slice p n c)]) w=_ from aN]
 simp only[Result.andThen];rw[Oper.upon_value];go_wp2;rw[run_callFunc_extern Tryz.func198 bi bi bi (e:=aye "internal/reflectlite" (atx "Swapper")) bi,ai];simp only[Result.andThen];rw[Oper.upon_value];go_wp2;rw[run_callFunc_extern Tryz.func200 bi bi bi (e:=ayg (atx "reflectlite.Value.Len" 0) ayf) bi,
  av _ _ Ψ]
 simp only[Result.andThen];rw[Oper.upon_value];go_wp2_with (go_at_fn 199;refine bM.mono ?_;rintro e w' ⟨rfl,bs⟩);go_end0;exact⟨rfl,bs⟩
def _root_.Go.Pv.Good.prMono{pr d:Nat->Prop}{w:World}{ν:bc}{b:List (aB×List af)}{e:List (aB×dW)}(h:Pv.Good pr w ν b e)(c:∀bl,pr bl->fC ν ⟨b,e⟩ bl->d bl):Pv.Good d w ν b e:=by
 refine⟨h.alt,fun k cs ab=>?_,h.inj,fun g o be=>?_,h.oinj,h.obx,h.one,h.otr⟩
 ·obtain⟨bl,us,el,f1,f2,f3⟩:=h.box k cs ab;exact⟨bl,us,el,f1,c bl f2 (.inl ⟨k,by simp[ab],f1⟩),f3⟩
 ·obtain⟨v,us,f1,f2,f3,f4⟩:=h.own g o be;exact⟨v,us,f1,f2,fun bl a=>⟨c bl (f3 bl a).1 (.inr ⟨g,o.n,v,by simp[be],f1,a⟩),(f3 bl a).2⟩,f4⟩
def V3(w:World)(a b:Obj):w.grownBy ((w.alloc a).alloc b) none:=by
 have J:w.heap.size<=(w.alloc a).heap.size:=Ψ
 have U:(w.alloc a).heap.size<=((w.alloc a).alloc b).heap.size:=Ψ
 exact⟨rfl,rfl,rfl,kC J U,fun k ab _=>(Below.heap_alloc _ b k (Nat.lt_of_lt_of_le ab J)).trans (Below.heap_alloc w a k ab)⟩
def eB{α:Type}(e:α->af)(K B el sz:Nat)(l:List α):cS:=⟨[(.obj B,[.row sz (.obj K) l.length])],[(.obj K,⟨l.length,el,sz,some (l.map e)⟩)]⟩
section
variable {α:Type} {e:α->af} (he:∀S x,az S (e x)) {K B el sz:Nat}
include he
theorem al6(S:aB->Prop)(l:List α):aH S (l.map e):=by
 induction l with
 |nil=>simp[aH]
 |cons x r a=>simp only[gV,aH];exact⟨he S x,a⟩
theorem yP(l:List α):eA (eB e K B el sz l):=by unfold eB;refine eA.of ⟨by intro m;simp[ae],by intro m;simp[ae]⟩ (by simp[aH,az,aM,ae]) ?_;intro x b xs a;simp at b;subst b;simp at a;subst a;exact al6 he _ l
omit he in
theorem yQ(l a:List α):Same (eB e K B el sz l) (eB e K B el sz a):=by
 refine⟨fun k=>?_,fun k=>?_⟩
 ·simp only[eB,ae];split<;>rfl
 ·simp only[eB,ae];split<;>rfl
theorem aiL(t:gU)(i e0:TypeInfo)(hi:au.info? t=some i)(aK:i.desc= .slice el)(Em:au.packed t=false)(uQ:au.info? el=some e0)(ke:Nat)(wg:∀w,(adp el).run au w= .ok ke w)(uL:∀n,2<=n->swapperK n e0 ke=9)
  (g:Nat) (lt:α->α->Bool) (bO:r4 lt) (l:List α) (av:l.length<=68719476736)
  (zu:∀bj:List α,bj.length=l.length->∀(i j:Nat) x y,bj[i]? =some x->bj[j]? =some y->bG au g [.int .i64 i,.int .i64 j,.ptr (.obj B) 0] (eB e K B el sz bj) fun r ak=>r= .bool (lt x y)/\ak=eB e K B el sz bj)
  (BN:∀bj:List α,bj.length=l.length->∀i j:Nat,i<l.length->j<l.length->bG au 230 [.int .i64 i,.int .i64 j,.row sz (.obj K) l.length,.cst (typeHandle au el)] (eB e K B el sz bj) fun r ak=>r= .tuple []/\ak=eB e K B el sz (ia bj i j)):
  bG au 140 [.iface t (.row sz (.obj K) l.length),.func g [.ptr (.obj B) 0]] (eB e K B el sz l) fun r ak=>r= .tuple []/\∃bj,ak=eB e K B el sz bj/\bj.Perm l/\bj.Pairwise fun x y=>lt y x=false:=by
 have zn:au.funcs.findIdx? (·.name== "internal/reflectlite" ++ ".Swapper$" ++toString 1)=some 222:=bi
 have tj:au.funcs.findIdx? (·.name== "internal/reflectlite" ++ ".Swapper$" ++toString 2)=some 223:=bi
 have MS:au.funcs.findIdx? (·.name== "internal/reflectlite" ++ ".Swapper$" ++toString 9)=some 230:=bi
 have Nr:∃f ch,au.funcs.findIdx? (·.name== "internal/reflectlite" ++ ".Swapper$" ++toString (swapperK l.length e0 ke))=some f/\(ch=(if swapperK l.length e0 ke<=2 then []else [af.row sz (.obj K) l.length,.cst (typeHandle au el)]))/\
   bG au 199 [fD g f [.ptr (.obj B) 0] ch,.int .i64 l.length] (eB e K B el sz l) fun r ak=>r= .tuple []/\∃bj,ak=eB e K B el sz bj/\hl 0 l.length l bj/\fY lt 0 l.length bj:=by
  have eK:=fun bj=>yP (K:=K) (B:=B) (el:=el) (sz:=sz) he bj;rcases(by omega:l.length=0\/l.length=1\/2<=l.length)with bA|J|U
  ·refine⟨222,[],by rw[bA];exact zn,by rw[bA];rfl,Mt (lt:=lt) ⟨eK,fun fO eX _ _=>yQ fO eX,fun bj _=>by simp[aH,az,aM,eB,ae],fun bj _=>by simp[aH],by simp[b7,cf],rfl,av,fun bj h=>zu bj h,fun bj _ U i j hi=>Ω⟩ bO l rfl⟩
  ·refine⟨223,[],by rw[J];exact tj,by rw[J];rfl,Mt (lt:=lt) ⟨eK,fun fO eX _ _=>yQ fO eX,fun bj _=>by simp[aH,az,aM,eB,ae],fun bj _=>by simp[aH],by simp[b7,cf],rfl,av,fun bj h=>zu bj h,fun bj _ U i j hi ah=>Ω⟩ bO l rfl⟩
  ·refine⟨230,_,by rw[uL _ U];exact MS,rfl,?_⟩;rw[uL _ U];simp only[show¬((9:Nat)<=2)from by decide,if_false];exact Mt (lt:=lt) ⟨eK,fun fO eX _ _=>yQ fO eX,fun bj _=>by simp[aH,az,aM,eB,ae],fun bj _=>by simp[aH,az,aM,eB,ae],by simp[b7,cf],by simp[b7,cf],av,fun bj h=>zu bj h,fun bj h _ i j hi ah=>BN bj h i j hi ah⟩ bO l rfl
 obtain⟨f,ch,aG,Nl,dy⟩:=Nr;intro w ν bm be ad aJ;have pY:=c9.start (yP he l).obj be ad aJ;have Nh:=aJ;simp only[c7,aV]at aJ;obtain⟨v0,vs1,BP,⟨u,rfl,⟨b,cap,rfl⟩,fq,n',eJ,ao,aC,bh⟩,v1,vs2,hv1,⟨sD,rfl,qC⟩,rfl⟩:=aJ;have lr:bm= #[.iface t (.slice (some ⟨b,0,none⟩) l.length cap),.func (.func g) #[] sD]:=by apply Array.ext';rw[BP,hv1]
 subst lr;have qB:∃fn,au.funcs[(140:Nat)]? =some fn/\fn.body.isSome=true/\(fn.name== "runtime.NumGoroutine")=false:=⟨_,Tryz.func140,by kernel_rfl,by kernel_rfl⟩;refine .inl ⟨qB,?_⟩;obtain⟨dM,p1⟩:∃dM,dM=(w.alloc (.cells #[.slice (some ⟨b,0,none⟩) l.length cap] t)).alloc (.cells #[typeHandle au t,.pointer (some ⟨w.heap.size,0,none⟩),.int .u64 151] 179):=⟨_,rfl⟩;have kF:w.grownBy dM none:=by rw[p1];exact V3 _ _ _
 have Ni:=pY.grown kF;have kG:mv w ν dM ν:=⟨fun b o bk=>⟨bk,GR kF (be.alt b o bk)⟩,fun _ _ _ h=>h,fun _ n u _ h=>⟨n,u,h,.inl ⟨rfl,rfl⟩⟩,fun b o bk=>yr (kF.block b (be.alt b o bk) Ψ),fun _ _ _ _ h=>h⟩;have tl:Pv.Good (fC ν (eB e K B el sz l)) dM ν (eB e K B el sz l).b (eB e K B el sz l).e:=Ni.good.prMono fun bl _ h=>h;have lp:=JF kG Nh;simp only[c7]at lp;obtain⟨a0,ad6,uN,Eo,bq,ad7,me,akZ,rfl⟩:=lp;simp at uN;obtain⟨rfl,rfl⟩:=uN;simp at me;subst me;have gK:aV dM ν (.row sz (.obj K) l.length) (.slice (some ⟨b,0,none⟩) l.length cap):=by simp only[aV]at Eo;obtain⟨u,hu,h⟩:=Eo;simp at hu;obtain⟨_,rfl⟩:=hu;simp only[aV];exact h
 have sv:c7 dM ν ch (sliceBound au el e0 ke (some ⟨b,0,none⟩) l.length cap).toList:=by
  unfold sliceBound;rw[Nl];split
  ·simp[c7]
  ·simp only[c7];exact⟨_,_,rfl,gK,_,_,rfl,by simp[aV],rfl⟩
 have vY:c7 dM ν [fD g f [.ptr (.obj B) 0] ch,.int .i64 l.length] (#[.agg #[.func (.func g) #[] sD,.func (.func f) #[] (sliceBound au el e0 ke (some ⟨b,0,none⟩) l.length cap)],.int .i64 l.length]:Array Value).toList:=by simp only[c7,fD];refine⟨_,_,rfl,?_,_,_,rfl,by simp[aV],rfl⟩;simp only[aV,cY];exact⟨_,rfl,_,_,rfl,⟨⟨sD,rfl,JF kG qC⟩,rfl⟩,_,_,rfl,⟨⟨_,rfl,sv⟩,rfl⟩,rfl⟩
 have MP:=dy dM ν _ tl ad vY;have G6:∀args w,(callFunc 199 args).run au w= .ok (.enter 199 args) w:=enters_of Tryz.func199 bi rfl;rcases MP with⟨_,ax⟩|⟨v,w',ax,_⟩
 ·have M3:=aq4 t el i e0 hi aK Em uQ ke wg (some ⟨b,0,none⟩) l.length cap Ω f aG (.func g) #[] sD w
   (fun w'=> ∃ak bn,(∃bj,ak=eB e K B el sz bj/\hl 0 l.length l bj/\fY lt 0 l.length bj)/\Pv.Good (fun bl=>fC ν (eB e K B el sz l) bl\/dM.heap.size<=bl) w' bn ak.b ak.e/\pQ bn ak/\hW ak/\pD ⟨dM,ν,fC ν (eB e K B el sz l),0,cJ (eB e K B el sz l)⟩ w' bn) (by
    rw[<-p1];refine ax.mono ?_;rintro e w' ⟨v,r,ak,bn,rfl,⟨rfl,bK⟩,xN,aZ,bR,dh,eb⟩;simp only[aV,c7]at xN;obtain⟨us,rfl,sx⟩:=xN;have:us= #[]:=by apply Array.ext';simpa using sx
    subst this;exact⟨rfl,ak,bn,bK,aZ,bR,dh,eb⟩)
  refine M3.mono ?_;rintro e w' ⟨rfl,ak,bn,⟨bj,rfl,H2,BM⟩,aZ,bR,dh,eb⟩;refine⟨.tuple #[],.tuple [],_,bn,rfl,⟨rfl,bj,rfl,H2.perm,?_⟩,by simp[aV,c7],aZ.prMono fun bl h _=>?_,bR,dh,⟨eb.os.trans kF.os,eb.tape.trans kF.tape,eb.output.trans kF.output,kC kF.size eb.size,fun k ab hm=>?_,fun b o bk=>?_,fun b o bk=>?_,eb.obj,eb.obn,eb.row,eb.obr,eb.trd,fun k j b ag=>⟨(eb.trb k j b ag).1.imp id (fun h=>kC kF.size h),(eb.trb k j b ag).2⟩,eb.trn,fun b o bk=>(eb.sh b o bk).trans (kG.sh b o bk)⟩⟩
  ·have oE:=H2.length;rw[<-oE]at BM;exact BM.pairwise
  ·rcases h with h|h
   ·exact .inl h
   ·exact .inr (kC kF.size h)
  ·rw[eb.block k (Nat.lt_of_lt_of_le ab kF.size) hm];exact kF.block k ab Ψ
  ·obtain⟨a8,bN⟩:=eb.keep b o bk;exact⟨a8,bN.trans (kG.A b o bk).2⟩
  ·rcases eb.fresh b o bk with h|h|h
   ·exact .inl h
   ·exact .inr (.inl h)
   ·exact .inr (.inr (kC kF.size h))
 ·rw[G6]at ax;cases ax
end
end
end Go.Proofs.YtahlgcidhnjlbaaGreat
namespace Go.Proofs
section
open Go.Shelf
def Tryz.lays6_ren:Go.Shelf.Ren:=⟨fun|6=>182|10=>197|11=>198|12=>200|13=>213|14=>214|24=>236|25=>237|26=>231|27=>238|28=>239|29=>240|30=>241|31=>242|32=>243|33=>244|34=>252|35=>253|36=>254|37=>255|38=>256|39=>271|n=>n,fun|20=>20|26=>143|35=>179|0=>0|37=>181|3=>3|41=>192|44=>185|49=>206|51=>208|4=>4|54=>210|53=>209|58=>214|5=>5|9=>9|60=>222|64=>226|66=>235|67=>236|17=>17|32=>176|33=>177|82=>256|12=>12|75=>249|76=>250|77=>251|78=>252|79=>253|80=>254|n=>n,fun|n=>n⟩
def Tryz.lays6:Go.Proofs.LaysGg.n6 au Tryz.lays6_ren:={
 mixed:=bi
 f6:=Tryz.func182.trans (fy some bi)
 f10:=Tryz.func197.trans (fy some bi)
 f11:=Tryz.func198.trans (fy some bi)
 f12:=Tryz.func200.trans (fy some bi)
 f13:=Tryz.func213.trans (fy some bi)
 f14:=Tryz.func214.trans (fy some bi)
 f24:=Tryz.func236.trans (fy some bi)
 f25:=Tryz.func237.trans (fy some bi)
 f26:=Tryz.func231.trans (fy some bi)
 f27:=Tryz.func238.trans (fy some bi)
 f28:=Tryz.func239.trans (fy some bi)
 f29:=Tryz.func240.trans (fy some bi)
 f30:=Tryz.func241.trans (fy some bi)
 f31:=Tryz.func242.trans (fy some bi)
 f32:=Tryz.func243.trans (fy some bi)
 f33:=Tryz.func244.trans (fy some bi)
 f34:=Tryz.func252.trans (fy some bi)
 f35:=Tryz.func253.trans (fy some bi)
 f36:=Tryz.func254.trans (fy some bi)
 f37:=Tryz.func255.trans (fy some bi)
 f38:=Tryz.func256.trans (fy some bi)
 f39:=Tryz.func271.trans (fy some bi)
 t0:=Tryz.underlying0
 a0:=Tryz.isAgg0
 z0:=Tryz.sizeOf0
 v0:=Tryz.zeroValue0
 i0:=bi
 t3:=Tryz.underlying3
 a3:=Tryz.isAgg3
 z3:=Tryz.sizeOf3
 v3:=Tryz.zeroValue3
 i3:=bi
 t4:=Tryz.underlying4
 a4:=Tryz.isAgg4
 z4:=Tryz.sizeOf4
 v4:=Tryz.zeroValue4
 i4:=bi
 t5:=Tryz.underlying5
 a5:=Tryz.isAgg5
 z5:=Tryz.sizeOf5
 v5:=Tryz.zeroValue5
 i5:=bi
 t9:=Tryz.underlying9
 a9:=Tryz.isAgg9
 z9:=Tryz.sizeOf9
 v9:=Tryz.zeroValue9
 i9:=bi
 t12:=Tryz.underlying12
 a12:=Tryz.isAgg12
 z12:=Tryz.sizeOf12
 v12:=Tryz.zeroValue12
 i12:=bi
 t17:=Tryz.underlying17
 a17:=Tryz.isAgg17
 z17:=Tryz.sizeOf17
 v17:=Tryz.zeroValue17
 i17:=bi
 t20:=Tryz.underlying20
 a20:=Tryz.isAgg20
 z20:=Tryz.sizeOf20
 v20:=Tryz.zeroValue20
 i20:=bi
 t26:=Tryz.underlying143
 a26:=Tryz.isAgg143
 z26:=Tryz.sizeOf143
 v26:=Tryz.zeroValue143
 i26:=bi
 t32:=Tryz.underlying176
 a32:=Tryz.isAgg176
 z32:=Tryz.sizeOf176
 v32:=Tryz.zeroValue176
 i32:=bi
 t33:=Tryz.underlying177
 a33:=Tryz.isAgg177
 z33:=Tryz.sizeOf177
 v33:=Tryz.zeroValue177
 i33:=bi
 t35:=Tryz.underlying179
 a35:=Tryz.isAgg179
 z35:=Tryz.sizeOf179
 v35:=Tryz.zeroValue179
 i35:=bi
 t37:=Tryz.underlying181
 a37:=Tryz.isAgg181
 z37:=Tryz.sizeOf181
 v37:=Tryz.zeroValue181
 i37:=bi
 t41:=Tryz.underlying192
 a41:=Tryz.isAgg192
 z41:=Tryz.sizeOf192
 v41:=Tryz.zeroValue192
 i41:=bi
 t44:=Tryz.underlying185
 a44:=Tryz.isAgg185
 z44:=Tryz.sizeOf185
 v44:=Tryz.zeroValue185
 i44:=bi
 t49:=Tryz.underlying206
 a49:=Tryz.isAgg206
 z49:=Tryz.sizeOf206
 v49:=Tryz.zeroValue206
 i49:=bi
 t51:=Tryz.underlying208
 a51:=Tryz.isAgg208
 z51:=Tryz.sizeOf208
 v51:=Tryz.zeroValue208
 i51:=bi
 t53:=Tryz.underlying209
 a53:=Tryz.isAgg209
 z53:=Tryz.sizeOf209
 v53:=Tryz.zeroValue209
 i53:=bi
 t54:=Tryz.underlying210
 a54:=Tryz.isAgg210
 z54:=Tryz.sizeOf210
 v54:=Tryz.zeroValue210
 i54:=bi
 t58:=Tryz.underlying214
 a58:=Tryz.isAgg214
 z58:=Tryz.sizeOf214
 v58:=Tryz.zeroValue214
 i58:=bi
 t60:=Tryz.underlying222
 a60:=Tryz.isAgg222
 z60:=Tryz.sizeOf222
 v60:=Tryz.zeroValue222
 i60:=bi
 t64:=Tryz.underlying226
 a64:=Tryz.isAgg226
 z64:=Tryz.sizeOf226
 v64:=Tryz.zeroValue226
 i64:=bi
 t66:=Tryz.underlying235
 a66:=Tryz.isAgg235
 z66:=Tryz.sizeOf235
 v66:=Tryz.zeroValue235
 i66:=bi
 t67:=Tryz.underlying236
 a67:=Tryz.isAgg236
 z67:=Tryz.sizeOf236
 v67:=Tryz.zeroValue236
 i67:=bi
 t75:=Tryz.underlying249
 a75:=Tryz.isAgg249
 z75:=Tryz.sizeOf249
 v75:=Tryz.zeroValue249
 i75:=bi
 t76:=Tryz.underlying250
 a76:=Tryz.isAgg250
 z76:=Tryz.sizeOf250
 v76:=Tryz.zeroValue250
 i76:=bi
 t77:=Tryz.underlying251
 a77:=Tryz.isAgg251
 z77:=Tryz.sizeOf251
 v77:=Tryz.zeroValue251
 i77:=bi
 t78:=Tryz.underlying252
 a78:=Tryz.isAgg252
 z78:=Tryz.sizeOf252
 v78:=Tryz.zeroValue252
 i78:=bi
 t79:=Tryz.underlying253
 a79:=Tryz.isAgg253
 z79:=Tryz.sizeOf253
 v79:=Tryz.zeroValue253
 i79:=bi
 t80:=Tryz.underlying254
 a80:=Tryz.isAgg254
 z80:=Tryz.sizeOf254
 v80:=Tryz.zeroValue254
 i80:=bi
 t82:=Tryz.underlying256
 a82:=Tryz.isAgg256
 z82:=Tryz.sizeOf256
 v82:=Tryz.zeroValue256
 i82:=by kernel_rfl}
end
end Go.Proofs
namespace Go.Proofs.YtahlgcidhnjlbaaGreat
section
open Go Go.RowKit Go.Lib Go.Pv Go.Proofs
def aei(n:Nat)(h:n<1099511627776):Lib.bitLen n<=1000:=by
 have:∀f x,bitLenAux f x<=f:=by
  intro f;induction f with
  |zero=>intro x;simp[bitLenAux]
  |succ f a=>
   intro x;rw[bitLenAux];split
   ·omega
   ·have:=a (x/2);omega
 have:=this 64 n;unfold Lib.bitLen;omega
def apv{α:Type}[Inhabited α]{lt:α->α->Bool}{l:List α}{a:Array α}(h:Sort.PermIn 0 l.length l.toArray a)(m:Sort.SortedIn lt 0 l.length a):a.toList.Perm l/\a.toList.Pairwise fun x y=>lt y x=false:=by
 obtain⟨f,_,z3⟩:=h;have b:a.size=l.length:=by simpa using f
 have k:a.extract 0 l.length=a:=by rw[<-b];simp
 have n:l.toArray.extract 0 l.length=l.toArray:=Ψ
 rw[k,n]at z3;refine⟨by simpa using z3,?_⟩;rw[q6];intro i j hi c e;have J:=m i j Ω e (by simpa[b]using c);have d:i<a.size:=by simpa using hi
 have g:j<a.size:=by simpa using c
 rw[getElem!_pos a i d,getElem!_pos a j g]at J;simpa using J
section
variable {α:Type} {e:α->af} (he:∀S x,az S (e x)) {K B el sz:Nat}
include he
theorem VG[Inhabited α](V8:K≠901/\K≠902)(V7:B≠901/\B≠902)(t:gU)(i e0:TypeInfo)(hi:au.info? t=some i)(aK:i.desc= .slice el)(Em:au.packed t=false)(uQ:au.info? el=some e0)(ke:Nat)(wg:∀w,(adp el).run au w= .ok ke w)(uL:∀n,2<=n->swapperK n e0 ke=9)
  (g:Nat) (lt:α->α->Bool) (bO:Sort.SWO lt) (l:List α) (av:l.length<=68719476736)
  (zu:∀bj:List α,bj.length=l.length->∀(i j:Nat) x y,bj[i]? =some x->bj[j]? =some y->bG au g [.int .i64 i,.int .i64 j,.ptr (.obj B) 0] (eB e K B el sz bj) fun r ak=>r= .bool (lt x y)/\ak=eB e K B el sz bj)
  (BN:∀bj:List α,bj.length=l.length->∀i j:Nat,i<l.length->j<l.length->bG au 230 [.int .i64 i,.int .i64 j,.row sz (.obj K) l.length,.cst (typeHandle au el)] (eB e K B el sz bj) fun r ak=>r= .tuple []/\ak=eB e K B el sz (ia bj i j)):
  bG au 182 [.iface t (.row sz (.obj K) l.length),.func g [.ptr (.obj B) 0]] (eB e K B el sz l) fun r ak=>r= .tuple []/\∃bj,ak=eB e K B el sz bj/\bj.Perm l/\bj.Pairwise fun x y=>lt y x=false:=by
 have zn:au.funcs.findIdx? (·.name== "internal/reflectlite" ++ ".Swapper$" ++toString 1)=some 222:=bi
 have tj:au.funcs.findIdx? (·.name== "internal/reflectlite" ++ ".Swapper$" ++toString 2)=some 223:=bi
 have MS:au.funcs.findIdx? (·.name== "internal/reflectlite" ++ ".Swapper$" ++toString 9)=some 230:=bi
 have zz:tQ (eB e K B el sz) 901:=fun l=>⟨by simp[eB,ae,V7.1],by simp[eB,ae,V8.1]⟩;have zA:tQ (eB e K B el sz) 902:=fun l=>⟨by simp[eB,ae,V7.2],by simp[eB,ae,V8.2]⟩;have gg:=aei l.length Ω;have Nr:∃f ch,au.funcs.findIdx? (·.name== "internal/reflectlite" ++ ".Swapper$" ++toString (swapperK l.length e0 ke))=some f/\(ch=(if swapperK l.length e0 ke<=2 then []else [af.row sz (.obj K) l.length,.cst (typeHandle au el)]))/\
   bG au 214 [fD g f [.ptr (.obj B) 0] ch,.int .i64 0,.int .i64 l.length,.int .i64 (Lib.bitLen l.length)] (eB e K B el sz l) fun r ak=>r= .tuple []/\∃bj,ak=eB e K B el sz bj/\bj.Perm l/\bj.Pairwise fun x y=>lt y x=false:=by
  have eK:=fun bj=>yP (K:=K) (B:=B) (el:=el) (sz:=sz) he bj;have key:∀{cr:Nat} {ch:List af},fS (eB e K B el sz) l.length g cr [.ptr (.obj B) 0] ch lt->bG au 214 [fD g cr [.ptr (.obj B) 0] ch,.int .i64 0,.int .i64 l.length,.int .i64 (Lib.bitLen l.length)] (eB e K B el sz l) fun r ak=>r= .tuple []/\∃bj,ak=eB e K B el sz bj/\bj.Perm l/\bj.Pairwise fun x y=>lt y x=false:=by intro cr ch H;have:=ajg H zz zA bO l.length l.toArray Ψ 0 l.length (Lib.bitLen l.length) Ω Ω (dP _) Ω (.inl rfl);simp only[Int.ofNat_zero,Int.natCast_zero,Int.cast_ofNat_Int]at this;refine bG.mono this ?_;rintro r ak ⟨a7,cu,bB,bX,dq⟩;obtain⟨c2,dD⟩:=apv bX dq;exact⟨a7,cu.toList,bB,c2,dD⟩
  rcases(by omega:l.length=0\/l.length=1\/2<=l.length)with bA|J|U
  ·refine⟨222,[],by rw[bA];exact zn,by rw[bA];rfl,key ⟨eK,fun fO eX _ _=>yQ fO eX,fun bj _=>by simp[aH,az,aM,eB,ae],fun bj _=>by simp[aH],by simp[b7,cf],rfl,av,fun bj h=>zu bj h,fun bj _ U i j hi=>Ω⟩⟩
  ·refine⟨223,[],by rw[J];exact tj,by rw[J];rfl,key ⟨eK,fun fO eX _ _=>yQ fO eX,fun bj _=>by simp[aH,az,aM,eB,ae],fun bj _=>by simp[aH],by simp[b7,cf],rfl,av,fun bj h=>zu bj h,fun bj _ U i j hi ah=>Ω⟩⟩
  ·refine⟨230,_,by rw[uL _ U];exact MS,rfl,?_⟩;rw[uL _ U];simp only[show¬((9:Nat)<=2)from by decide,if_false];exact key ⟨eK,fun fO eX _ _=>yQ fO eX,fun bj _=>by simp[aH,az,aM,eB,ae],fun bj _=>by simp[aH,az,aM,eB,ae],by simp[b7,cf],by simp[b7,cf],av,fun bj h=>zu bj h,fun bj h _ i j hi ah=>BN bj h i j hi ah⟩
 obtain⟨f,ch,aG,Nl,dy⟩:=Nr;intro w ν bm be ad aJ;have pY:=c9.start (yP he l).obj be ad aJ;have Nh:=aJ;simp only[c7,aV]at aJ;obtain⟨v0,vs1,BP,⟨u,rfl,⟨b,cap,rfl⟩,fq,n',eJ,ao,aC,bh⟩,v1,vs2,hv1,⟨sD,rfl,qC⟩,rfl⟩:=aJ;have lr:bm= #[.iface t (.slice (some ⟨b,0,none⟩) l.length cap),.func (.func g) #[] sD]:=by apply Array.ext';rw[BP,hv1]
 subst lr;have qB:∃fn,au.funcs[(182:Nat)]? =some fn/\fn.body.isSome=true/\(fn.name== "runtime.NumGoroutine")=false:=⟨_,Tryz.func182,by kernel_rfl,by kernel_rfl⟩;refine .inl ⟨qB,?_⟩;obtain⟨dM,p1⟩:∃dM,dM=sliceWorld au Tryz.lays6_ren t (some ⟨b,0,none⟩) l.length cap w:=⟨_,rfl⟩;have kF:w.grownBy dM none:=by rw[p1];unfold sliceWorld;exact V3 _ _ _
 have Ni:=pY.grown kF;have kG:mv w ν dM ν:=⟨fun b o bk=>⟨bk,GR kF (be.alt b o bk)⟩,fun _ _ _ h=>h,fun _ n u _ h=>⟨n,u,h,.inl ⟨rfl,rfl⟩⟩,fun b o bk=>yr (kF.block b (be.alt b o bk) Ψ),fun _ _ _ _ h=>h⟩;have tl:Pv.Good (fC ν (eB e K B el sz l)) dM ν (eB e K B el sz l).b (eB e K B el sz l).e:=Ni.good.prMono fun bl _ h=>h;have lp:=JF kG Nh;simp only[c7]at lp;obtain⟨a0,ad6,uN,Eo,bq,ad7,me,akZ,rfl⟩:=lp;simp at uN;obtain⟨rfl,rfl⟩:=uN;simp at me;subst me;have gK:aV dM ν (.row sz (.obj K) l.length) (.slice (some ⟨b,0,none⟩) l.length cap):=by simp only[aV]at Eo;obtain⟨u,hu,h⟩:=Eo;simp at hu;obtain⟨_,rfl⟩:=hu;simp only[aV];exact h
 have sv:c7 dM ν ch (sliceBound au el e0 ke (some ⟨b,0,none⟩) l.length cap).toList:=by
  unfold sliceBound;rw[Nl];split
  ·simp[c7]
  ·simp only[c7];exact⟨_,_,rfl,gK,_,_,rfl,by simp[aV],rfl⟩
 have vY:c7 dM ν [fD g f [.ptr (.obj B) 0] ch,.int .i64 0,.int .i64 l.length,.int .i64 (Lib.bitLen l.length)] (#[.agg #[.func (.func g) #[] sD,.func (.func f) #[] (sliceBound au el e0 ke (some ⟨b,0,none⟩) l.length cap)],.int .i64 0,.int .i64 l.length,.int .i64 (Lib.bitLen l.length)]:Array Value).toList:=by simp only[c7,fD];refine⟨_,_,rfl,?_,_,_,rfl,by simp[aV],_,_,rfl,by simp[aV],_,_,rfl,by simp[aV],rfl⟩;simp only[aV,cY];exact⟨_,rfl,_,_,rfl,⟨⟨sD,rfl,JF kG qC⟩,rfl⟩,_,_,rfl,⟨⟨_,rfl,sv⟩,rfl⟩,rfl⟩
 have MP:=dy dM ν _ tl ad vY;have G6:∀args w,(callFunc 214 args).run au w= .ok (.enter 214 args) w:=enters_of Tryz.func214 bi rfl;rcases MP with⟨_,ax⟩|⟨v,w',ax,_⟩
 ·have M3:=Any.sort_Slice_of_pdq Tryz.lays6 t el i e0 hi aK Em uQ ke wg (some ⟨b,0,none⟩) l.length cap Ω f aG (.func g) #[] sD w
   (fun w'=> ∃ak bn,(∃bj,ak=eB e K B el sz bj/\bj.Perm l/\bj.Pairwise fun x y=>lt y x=false)/\Pv.Good (fun bl=>fC ν (eB e K B el sz l) bl\/dM.heap.size<=bl) w' bn ak.b ak.e/\pQ bn ak/\hW ak/\pD ⟨dM,ν,fC ν (eB e K B el sz l),0,cJ (eB e K B el sz l)⟩ w' bn) (by
    rw[<-p1];refine ax.mono ?_;rintro e w' ⟨v,r,ak,bn,rfl,⟨rfl,bK⟩,xN,aZ,bR,dh,eb⟩;simp only[aV,c7]at xN;obtain⟨us,rfl,sx⟩:=xN;have:us= #[]:=by apply Array.ext';simpa using sx
    subst this;exact⟨rfl,ak,bn,bK,aZ,bR,dh,eb⟩)
  refine M3.mono ?_;rintro e w' ⟨rfl,ak,bn,⟨bj,rfl,H2,BM⟩,aZ,bR,dh,eb⟩;refine⟨.tuple #[],.tuple [],_,bn,rfl,⟨rfl,bj,rfl,H2,BM⟩,by simp[aV,c7],aZ.prMono fun bl h _=>?_,bR,dh,⟨eb.os.trans kF.os,eb.tape.trans kF.tape,eb.output.trans kF.output,kC kF.size eb.size,fun k ab hm=>?_,fun b o bk=>?_,fun b o bk=>?_,eb.obj,eb.obn,eb.row,eb.obr,eb.trd,fun k j b ag=>⟨(eb.trb k j b ag).1.imp id (fun h=>kC kF.size h),(eb.trb k j b ag).2⟩,eb.trn,fun b o bk=>(eb.sh b o bk).trans (kG.sh b o bk)⟩⟩
  ·rcases h with h|h
   ·exact .inl h
   ·exact .inr (kC kF.size h)
  ·rw[eb.block k (Nat.lt_of_lt_of_le ab kF.size) hm];exact kF.block k ab Ψ
  ·obtain⟨a8,bN⟩:=eb.keep b o bk;exact⟨a8,bN.trans (kG.A b o bk).2⟩
  ·rcases eb.fresh b o bk with h|h|h
   ·exact .inl h
   ·exact .inr (.inl h)
   ·exact .inr (.inr (kC kF.size h))
 ·rw[G6]at ax;cases ax
end
end
section
open Go Go.Pv Go.Lib
abbrev yO(l:List bo):cS:=eB bo.e 814 815 100 2 l
def Y1:∀(S:aB->Prop) (x:bo),az S x.e:=fun S x=>by simp
def KD(l:List bo):eA (yO l):=yP Y1 l
def amt:Sort.SWO (iK gd):=by
 refine⟨fun x=>?_,fun x y z J U=>?_,fun x y z J U=>?_⟩
 ·simp only[iK,iM];have:=mO.refl x;omega
 ·simp only[iK,gy]at*;exact mO.ltr J Ω
 ·simp only[iK,iM]at*;have b:=mO.neg x y;have c:=mO.neg y z;have a:=mO.neg x z;have:=mO.tr z y x Ω Ω;omega
def aiG(l:List bo)(i j:Nat)(x y:bo)(k:l.length<=68719476736)(hi:l[i]? =some x)(g:l[j]? =some y):bG au 185 [aj i,aj j,.ptr (.obj 815) 0] (yO l) fun r f=>r= .bool (iK gd x y)/\f=yO l:=by have a:=KD l;obtain⟨c,d⟩:=fI.1 hi;obtain⟨e,b⟩:=fI.1 g;unfold yO eB at a⊢;refine bG.mk mixed a1 Tryz.func185 anq Ψ a.obj fun m h=>?_;unfold RY;simp[c,e,d,b];(repeat' first|refine al ?_|refine aO (CZ _ _) ?_|refine aP (CZ _ _) ?_|simp[c,e,d,b]);refine c5.at _ (.inl rfl) a (Same.refl _) aX aX ?_;simp[dc,ba,bf,a6]
noncomputable def Tryz.maT:TypeInfo:=(au.info? 49).get bi
noncomputable def Tryz.maE:TypeInfo:=(au.info? 100).get bi
def Tryz.maK(n:Nat)(U:2<=n):Lib.swapperK n Tryz.maE 25=9:=by
 have a:Tryz.maE.hasPointers=true:=bi
 have b:Tryz.maE.bytes=24:=bi
 have c:(n==0)=false:=by simp;omega
 have d:(n==1)=false:=by simp;omega
 simp[Lib.swapperK,a,b,c,d]
def Yq{α β:Type}(f:α->β)(l:List α)(i j:Nat):(ia l i j).map f=ia (l.map f) i j:=by
 unfold ia;simp only[List.getElem?_map];cases l[i]? with
 |none=>simp
 |some x=>
  cases l[j]? with
  |none=>simp
  |some y=>simp[List.map_set]
def ajt(l:List bo)(d:l.length<=68719476736):bG au 182 [.iface 49 (.row 2 (.obj 814) l.length),.func 185 [.ptr (.obj 815) 0]] (yO l) fun r b=>r= .tuple []/\b=yO (qc gd l):=by
 refine(VG Y1 (K:=814) (B:=815) (sz:=2) (by decide) (by decide) 49 Tryz.maT Tryz.maE bi bi bi bi 25 (fun _=>by kernel_rfl) Tryz.maK 185 (iK gd) amt l d (fun a h i j x y hi c=>aiG a i j x y Ω hi c) (fun a h i j hi c=>?_)).mono ?_
 ·have:=VW (P:=au) false 230 (fun args W=>run_callFunc_extern Tryz.func230 bi bi bi (e:=Gb false) bi args W)
   100 Tryz.maE bi (fun _=>by kernel_rfl) (KD a) (K:=814) (n:=l.length) (el:=100) (sz:=2) bi (xs:=a.map bo.e) (by simp[eB,ae,h]) i j hi c
  refine this.mono ?_;rintro r b ⟨rfl,rfl⟩;refine⟨rfl,?_⟩;simp[eB,cI,Yq,h]
 ·rintro r b ⟨rfl,a,rfl,J,U⟩;exact⟨rfl,by rw[abQ mO J U]⟩
def pd(l:List bo):List af:= .hdm l.length (List.range l.length)::l.flatMap fun m=>[m.e,.bool true]
def l7(m:bo)(l:List bo):List bo:=if m∈l then l else l++[m]
def al1(a b:bo):u0 (.a [false,true]) a.e b.e=some (decide (a=b)):=by simp only[bo.e,u0,kQ,if_true,pC];congr 1;rw[q3];cases a;cases b;simp
def al2(a:bo):xZ (.a [false,true]) a.e=true:=by simp[bo.e,xZ,kQ,-KR]
def Y5(m:bo):∀l:List bo,wG (.a [false,true]) m.e (.bool true) (l.flatMap fun m=>[m.e,.bool true])=some (if m∈l then some (l.flatMap fun m=>[m.e,.bool true])else none)
 |[]=>rfl
 |a::l=>by
  simp only[List.flatMap_cons,b5,cb,wG,al1];by_cases h:m=a
  ·subst h;simp
  ·have b:decide (m=a)=false:=by simp[h]
   rw[b];simp only[Y5 m l];by_cases hm:m∈l
   ·simp[hm]
   ·simp[hm,h]
@[simp]def awH(m:bo)(l:List bo):qR (.a [false,true]) m.e (.bool true) (pd l)=some (pd (l7 m l)):=by
 simp only[pd,qR,al2,Bool.true_eq_false,reduceCtorEq,if_false,Y5,l7];by_cases h:m∈l
 ·simp[h]
 ·simp[h,List.range_succ]
end
section
open Go Go.Pv
@[simp]def B2(S:aB->Prop)(l:List bo):aH S (pd l)=True:=by
 refine h1 ?_;unfold pd;have:∀l:List bo,aH S (l.flatMap fun m=>[m.e,af.bool true]):=fun l=>by
  induction l with
  |nil=>simp[aH]
  |cons x r a=>simp only[List.flatMap_cons,b5,cb,aH,al7,az,true_and];exact a
 simp only[aH,az,true_and];exact this l
@[simp]def awq:[af.hdm 0 []]=pd []:=rfl
def pG(tag:List cU)(l:List bo):cS:=⟨[(.obj 811,[.str tag]),(.obj 812,pd l),(.obj 813,[.gmap (.obj 812)])],[]⟩
def Gl(tag:List cU)(l:List bo):eA (pG tag l):=by unfold pG;refine eA.of ⟨by intro m;simp[ae],by intro m;simp[ae]⟩ (by simp[aH,az,aM,ae]) Ψ
def KE(tag:List cU)(l a:List bo):Same (pG tag l) (pG tag a):=Same.keys (by simp[pG]) (by simp[pG])
def aiF(tag:List cU)(v:Int)(l:List bo):bG au 184 [aj v,.ptr (.obj 813) 0,.ptr (.obj 811) 0] (pG tag l) fun r c=>r= .tuple []/\c=pG tag (l7 ⟨v,tag⟩ l):=by have b:=Gl tag l;have a:=Gl tag (l7 ⟨v,tag⟩ l);have e3:=KE tag l (l7 ⟨v,tag⟩ l);unfold pG at b a e3⊢;refine bG.mk mixed a1 Tryz.func184 anp Ψ b.obj fun e d=>?_;unfold RX;simp;refine c5.at _ (.inr rfl) a e3 aX aX ?_;simp[dc,ba,bf,a6]
end
section
open Go Go.Pv Go.Lib
abbrev yN(l:List bI):cS:=eB bI.e 803 804 98 2 l
def XI:∀(S:aB->Prop) (x:bI),az S x.e:=fun S x=>by simp
def KC(l:List bI):eA (yN l):=yP XI l
def x3(x y:bI):Bool:=decide (x.v<y.v)
def ams:Sort.SWO x3:=⟨fun x=>by simp[x3],fun x y z J U=>by simp[x3]at*;omega,fun x y z J U=>by simp[x3]at*;omega⟩
def aiH(l:List bI)(i j:Nat)(x y:bI)(k:l.length<=68719476736)(hi:l[i]? =some x)(g:l[j]? =some y):bG au 183 [aj i,aj j,.ptr (.obj 804) 0] (yN l) fun r f=>r= .bool (x3 x y)/\f=yN l:=by have a:=KC l;obtain⟨c,d⟩:=fI.1 hi;obtain⟨e,b⟩:=fI.1 g;unfold yN eB at a⊢;refine bG.mk mixed a1 Tryz.func183 anr Ψ a.obj fun m h=>?_;unfold RZ;simp[c,e,d,b];(repeat' first|refine al ?_|simp);refine c5.at _ (.inl rfl) a (Same.refl _) aX aX ?_;simp[dc,ba,bf,a6,x3]
noncomputable def Tryz.vkT:TypeInfo:=(au.info? 48).get bi
noncomputable def Tryz.vkE:TypeInfo:=(au.info? 98).get bi
def Tryz.vkK(n:Nat)(U:2<=n):Lib.swapperK n Tryz.vkE 25=9:=by
 have a:Tryz.vkE.hasPointers=false:=bi
 have b:Tryz.vkE.bytes=16:=bi
 have c:(n==0)=false:=by simp;omega
 have d:(n==1)=false:=by simp;omega
 simp[Lib.swapperK,a,b,c,d]
def amr{α β:Type}(f:α->β)(l:List α)(i j:Nat):(ia l i j).map f=ia (l.map f) i j:=by
 unfold ia;simp only[List.getElem?_map];cases l[i]? with
 |none=>simp
 |some x=>
  cases l[j]? with
  |none=>simp
  |some y=>simp[List.map_set]
def ajs(l:List bI)(d:l.length<=68719476736):bG au 182 [.iface 48 (.row 2 (.obj 803) l.length),.func 183 [.ptr (.obj 804) 0]] (yN l) fun r c=>r= .tuple []/\∃a,c=yN a/\a.Perm l/\a.Pairwise fun x y=>x3 y x=false:=by
 refine(VG XI (K:=803) (B:=804) (sz:=2) (by decide) (by decide) 48 Tryz.vkT Tryz.vkE bi bi bi bi 25 (fun _=>by kernel_rfl) Tryz.vkK 183 x3 ams l d (fun a h i j x y hi b=>aiH a i j x y Ω hi b) (fun a h i j hi b=>?_));have:=VW (P:=au) false 230 (fun args W=>run_callFunc_extern Tryz.func230 bi bi bi (e:=Gb false) bi args W)
  98 Tryz.vkE bi (fun _=>by kernel_rfl) (KC a) (K:=803) (n:=l.length) (el:=98) (sz:=2) bi (xs:=a.map bI.e) (by simp[eB,ae,h]) i j hi b
 refine this.mono ?_;rintro r c ⟨rfl,rfl⟩;refine⟨rfl,?_⟩;simp[eB,cI,amr,h]
end
end Go.Proofs.YtahlgcidhnjlbaaGreat
namespace Go.Pv
section
open Go Go.RowKit
mutual
def tn:af->List (aB×Nat)
 | .slice _ tag _=>match tag with| .tr k i=>[(k,i)]|_=>[]
 | .agg cs=>tnL cs
 |_=>[]
def tnL:List af->List (aB×Nat)
 |[]=>[]
 |x::xs=>tn x++tnL xs
end
mutual
def fs:af->Prop
 | .int _ _=>True
 | .bool _=>True
 | .str _=>True
 | .slice _ tag xs=>match tag with| .tr k _=>k≠ef|_=>xs=[]
 | .agg cs=>gb cs
 |_=>er
def gb:List af->Prop
 |[]=>True
 |x::xs=>fs x/\gb xs
end
def ly(ν:bc)(l:List (aB×Nat))(b:Nat):Prop:= ∃k i,(k,i)∈l/\ν.tr k i b
def Cl{ν:bc}{l a:List (aB×Nat)}(h:∀x∈l,x∈a)(b:Nat)(c:ly ν l b):ly ν a b:=by obtain⟨k,i,J,U⟩:=c;exact⟨k,i,h _ J,U⟩
def OP{ν:bc}(hL:∀k j bt dg b,ν.tr k j b->ν.tr bt dg b->k=bt/\j=dg){l a:List (aB×Nat)}(h:(l++a).Nodup)(b:Nat)(J:ly ν l b):¬ly ν a b:=by rintro⟨bt,c,d,e⟩;obtain⟨k,i,J,U⟩:=J;obtain⟨rfl,rfl⟩:=hL k i bt c b U e;rw[r1]at h;exact h.2.2 _ J _ d rfl
mutual
def OY{w:World}{ν:bc}(hL:∀k j bt dg b,ν.tr k j b->ν.tr bt dg b->k=bt/\j=dg):∀(p:af) (v:Value),aV w ν p v->fs p->(tn p).Nodup->c0 true w ν.A (ly ν (tn p)) (b7 p) v
 | .int k n,v,h,_,_=>by simpa only[aV,b7,c0]using h
 | .bool b,v,h,_,_=>by simpa only[aV,b7,c0]using h
 | .str s,v,h,_,_=>by simpa only[aV,b7,c0]using h
 | .slice sz tag xs,v,h,ar,_=>by
  simp only[aV]at h;obtain⟨⟨a,cap,J,U,f,m⟩,_,_,e,_⟩:=h;by_cases c:∃k i,tag= .tr k i
  ·obtain⟨k,i,rfl⟩:=c;refine Hr _ _ v (vX (fun _ _ h=>⟨h,rfl⟩) (fun _ _ _=>rfl) _ _ _ v (fun b g=>?_) (e k i rfl));exact⟨k,i,by simp[tn],g⟩
  ·have l:xs=[]:=by
    simp only[fs]at ar;split at ar
    ·exact absurd ⟨_,_,rfl⟩ c
    ·exact ar
   subst l;simp only[b7,cf,c0];exact⟨a,cap,J,U,f,.inl trivial⟩
 | .agg cs,v,h,ar,d=>by simp only[aV,fs,tn,b7,c0]at h ar d⊢;obtain⟨us,J,U⟩:=h;exact⟨us,J,Zh hL cs _ U ar d⟩
 | .junk,_,_,ar,_=>by simp[fs]at ar
 | .ptr _ _,_,_,ar,_=>by simp[fs]at ar
 | .eptr _,_,_,ar,_=>by simp[fs]at ar
 | .iface _ _,_,_,ar,_=>by simp[fs]at ar
 | .nilp,_,_,ar,_=>by simp[fs]at ar
 | .tuple _,_,_,ar,_=>by simp[fs]at ar
 | .func _ _,_,_,ar,_=>by simp[fs]at ar
 | .gmap _,_,_,ar,_=>by simp[fs]at ar
 | .row _ _ _,_,_,ar,_=>by simp[fs]at ar
 | .rptr _ _ _ _ _,_,_,ar,_=>by simp[fs]at ar
 | .hdm _ _,_,_,ar,_=>by simp[fs]at ar
 | .hdi _ _ _,_,_,ar,_=>by simp[fs]at ar
 | .cst _,_,_,ar,_=>by simp[fs]at ar
def Zh{w:World}{ν:bc}(hL:∀k j bt dg b,ν.tr k j b->ν.tr bt dg b->k=bt/\j=dg):∀(cs:List af) (us:List Value),cY w ν cs us->gb cs->(tnL cs).Nodup->kD true w ν.A (ly ν (tnL cs)) (cf cs) us
 |[],us,h,_,_=>by simpa only[cY,cf,kD]using h
 |c::cs,us,h,ar,d=>by simp only[cY,gb,tnL,cf,kD]at h ar d⊢;obtain⟨u,f,J,⟨U,g⟩,l⟩:=h;have e:=r1.1 d;exact⟨u,f,ly ν (tn c),ly ν (tnL cs),J,⟨Cl (fun x a=>List.mem_append_left _ a),Cl (fun x a=>List.mem_append_right _ a),fun _ b i=>OP hL d b i⟩,⟨OY hL c u U ar.1 e.1,g⟩,Zh hL cs f l ar.2 e.2.1⟩
end
def OZ{w:World}{ν:bc}(hL:∀k j bt dg b,ν.tr k j b->ν.tr bt dg b->k=bt/\j=dg){sz:Nat}:∀(cs:List af) (us:List Value),dw w ν sz cs us->gb cs->(tnL cs).Nodup->jW true w ν.A (ly ν (tnL cs)) sz (cf cs) us
 |[],us,h,_,_=>by simpa only[dw,cf,jW]using h
 |c::cs,us,h,ar,d=>by simp only[dw,gb,tnL,cf,jW]at h ar d⊢;obtain⟨u,f,J,⟨U,g⟩,l⟩:=h;have e:=r1.1 d;exact⟨u,f,ly ν (tn c),ly ν (tnL cs),J,⟨Cl (fun x a=>List.mem_append_left _ a),Cl (fun x a=>List.mem_append_right _ a),fun _ b i=>OP hL d b i⟩,⟨OY hL c u U ar.1 e.1,g⟩,OZ hL cs f l ar.2 e.2.1⟩
mutual
def Hq{t:Bool}{w:World}{A:Nat->Nat->Prop}{ν:bc}(c:∀b o,A b o->ν.A b o):∀(p:af) (F:Nat->Prop) (v:Value),c0 t w A F p v->aV w ν (b7 p) v
 | .int k n,_,_,h=>by simpa only[aV,b7,c0]using h
 | .bool b,_,_,h=>by simpa only[aV,b7,c0]using h
 | .str s,_,_,h=>by simpa only[aV,b7,c0]using h
 | .slice sz tag xs,F,v,h=>by
  simp only[c0,b7,aV]at h⊢;obtain⟨a,cap,J,U,i,l⟩:=h;refine⟨⟨a,cap,by rw[nG];exact J,by rw[nG];exact U,by rw[nG];exact i,?_⟩,fun e=>(by cases e),fun g e=>(by cases e),fun _ _ e=>(by cases e),fun _ e=>(by cases e)⟩;rcases l with rfl|⟨b,off,us,G,j,_,_,f,_,d⟩
  ·exact .inl rfl
  ·exact .inr ⟨b,off,us,j,B4 (fun b o h=>⟨c b o h,rfl⟩) _ _ f,Vz c xs G us d⟩
 | .agg cs,F,v,h=>by simp only[c0,b7,aV]at h⊢;obtain⟨us,J,U⟩:=h;exact⟨us,J,VB c cs F _ U⟩
 | .junk,_,_,h=>by simp[c0]at h
 | .ptr _ _,_,_,h=>by simp[c0]at h
 | .eptr _,_,_,h=>by simp[c0]at h
 | .iface _ _,_,_,h=>by simp[c0]at h
 | .nilp,_,_,h=>by simp[c0]at h
 | .tuple _,_,_,h=>by simp[c0]at h
 | .func _ _,_,_,h=>by simp[c0]at h
 | .gmap _,_,_,h=>by simp[c0]at h
 | .row _ _ _,_,_,h=>by simp[c0]at h
 | .rptr _ _ _ _ _,_,_,h=>by simp[c0]at h
 | .hdm _ _,_,_,h=>by simp[c0]at h
 | .hdi _ _ _,_,_,h=>by simp[c0]at h
 | .cst _,_,_,h=>by simp[c0]at h
def VB{t:Bool}{w:World}{A:Nat->Nat->Prop}{ν:bc}(a:∀b o,A b o->ν.A b o):∀(cs:List af) (F:Nat->Prop) (us:List Value),kD t w A F cs us->cY w ν (cf cs) us
 |[],_,_,h=>by simpa only[kD,cf,cY]using h
 |c::cs,F,us,h=>by simp only[kD,cf,cY]at h⊢;obtain⟨u,d,f,e,J,_,⟨j,i⟩,g⟩:=h;exact⟨u,d,J,⟨Hq a c f u j,i⟩,VB a cs e d g⟩
def Vz{t:Bool}{w:World}{A:Nat->Nat->Prop}{ν:bc}(a:∀b o,A b o->ν.A b o){sz:Nat}:∀(cs:List af) (F:Nat->Prop) (us:List Value),jW t w A F sz cs us->dw w ν sz (cf cs) us
 |[],_,_,h=>by simpa only[jW,cf,dw]using h
 |c::cs,F,us,h=>by simp only[jW,cf,dw]at h⊢;obtain⟨u,d,f,e,J,_,⟨j,i⟩,g⟩:=h;exact⟨u,d,J,⟨Hq a c f u j,i⟩,Vz a cs e d g⟩
end
mutual
def Qv:∀p:af,b7 (b7 p)=b7 p
 | .slice _ _ xs=>by simp[b7,vl xs]
 | .agg cs=>by simp[b7,vl cs]
 | .tuple bm=>by simp[b7,vl bm]
 | .eptr x=>by simp[b7,Qv x]
 | .iface t x=>by simp[b7,Qv x]
 | .func f dI=>by simp[b7,vl dI]
 | .junk=>rfl
 | .int _ _=>rfl
 | .bool _=>rfl
 | .str _=>rfl
 | .ptr _ _=>rfl
 | .nilp=>rfl
 | .gmap _=>rfl
 | .row _ _ _=>rfl
 | .rptr _ _ _ _ _=>rfl
 | .hdm _ _=>rfl
 | .hdi _ _ _=>rfl
 | .cst _=>rfl
def vl:∀xs:List af,cf (cf xs)=cf xs
 |[]=>rfl
 |x::xs=>by simp[cf,Qv x,vl xs]
end
mutual
def eg:af->List aB
 | .slice _ tag _=>match tag with| .own k=>[k]|_=>[]
 | .row _ k _=>[k]
 | .agg cs=>gO cs
 | .tuple cs=>gO cs
 |_=>[]
def gO:List af->List aB
 |[]=>[]
 |x::xs=>eg x++gO xs
end
def wS(e:List (aB×dW))(k:aB):List af:=((ae k e).bind (·.xs)).getD []
mutual
def eD(e:List (aB×dW)):af->List (aB×Nat)
 | .slice _ tag xs=>match tag with| .tr k i=>[(k,i)]| .own _=>tnL xs|_=>[]
 | .row _ k _=>tnL (wS e k)
 | .agg cs=>gX e cs
 | .tuple cs=>gX e cs
 |_=>[]
def gX(e:List (aB×dW)):List af->List (aB×Nat)
 |[]=>[]
 |x::xs=>eD e x++gX e xs
end
mutual
def ff(e:List (aB×dW)):af->Prop
 | .int _ _=>True
 | .bool _=>True
 | .str _=>True
 | .slice sz tag xs=>match tag with| .tr k _=>k≠ef| .own k=>True/\(∃el,ae k e=some ⟨xs.length,el,sz,none⟩)/\gb xs/\0<sz|_=>xs=[]
 | .row sz k n=>True/\(∃xs el,ae k e=some ⟨n,el,sz,some xs⟩/\gb xs)/\0<sz
 | .agg cs=>hy e cs
 | .tuple cs=>hy e cs
 |_=>er
def hy(e:List (aB×dW)):List af->Prop
 |[]=>True
 |x::xs=>ff e x/\hy e xs
end
mutual
def hI:af->Nat
 | .slice _ _ _=>1
 | .row _ _ _=>1
 | .agg cs=>iO cs
 | .tuple cs=>iO cs
 |_=>0
def iO:List af->Nat
 |[]=>0
 |x::xs=>hI x+iO xs
end
mutual
def fold(κ:Nat)(e:List (aB×dW)):Nat->af->af
 |j,.slice sz _ xs=>.slice sz (.tr (.loc κ) j) (cf xs)
 |j,.row sz k _=>.slice sz (.tr (.loc κ) j) (cf (wS e k))
 |j,.agg cs=>.agg (hJ κ e j cs)
 |j,.tuple cs=>.tuple (hJ κ e j cs)
 |_,p=>p
def hJ(κ:Nat)(e:List (aB×dW)):Nat->List af->List af
 |_,[]=>[]
 |j,x::xs=>fold κ e j x::hJ κ e (j+hI x) xs
end
def oc(ν:bc)(k:aB)(b:Nat):Prop:= ∃n v,ν.ow k=some (n,v)/\v.ownBlock=some b
mutual
def fP(ν:bc)(R:Nat->Prop)(e:List (aB×dW)):af->List (Nat->Prop)
 | .slice _ tag xs=>match tag with| .tr k i=>[fun b=>ν.tr k i b/\¬R b]| .own k=>[fun b=>oc ν k b\/(ly ν (tnL xs) b/\¬R b)]|_=>[fun _=>er]
 | .row _ k _=>[fun b=>oc ν k b\/(ly ν (tnL (wS e k)) b/\¬R b)]
 | .agg cs=>pn ν R e cs
 | .tuple cs=>pn ν R e cs
 |_=>[]
def pn(ν:bc)(R:Nat->Prop)(e:List (aB×dW)):List af->List (Nat->Prop)
 |[]=>[]
 |x::xs=>fP ν R e x++pn ν R e xs
end
mutual
def Av(ν:bc)(R:Nat->Prop)(e:List (aB×dW)):∀p,(fP ν R e p).length=hI p
 | .slice _ tag _=>by cases tag<;>simp[fP,hI]
 | .row _ k _=>by simp[fP,hI]
 | .agg cs=>by simp[fP,hI,Qo ν R e cs]
 | .tuple cs=>by simp[fP,hI,Qo ν R e cs]
 | .int _ _=>rfl
 | .bool _=>rfl
 | .str _=>rfl
 | .junk=>rfl
 | .ptr _ _=>rfl
 | .eptr _=>rfl
 | .iface _ _=>rfl
 | .nilp=>rfl
 | .func _ _=>rfl
 | .gmap _=>rfl
 | .rptr _ _ _ _ _=>rfl
 | .hdm _ _=>rfl
 | .hdi _ _ _=>rfl
 | .cst _=>rfl
def Qo(ν:bc)(R:Nat->Prop)(e:List (aB×dW)):∀p,(pn ν R e p).length=iO p
 |[]=>rfl
 |x::xs=>by simp[pn,iO,Av ν R e x,Qo ν R e xs]
end
def Hm(ν:bc)(R:Nat->Prop)(ns:List (aB×Nat))(rw:List aB)(b:Nat):Prop:=(∃k∈rw,oc ν k b)\/(ly ν ns b/\¬R b)
mutual
def FR{ν:bc}{R:Nat->Prop}{e:List (aB×dW)}:∀(p:af) (i:Nat) (S:Nat->Prop),(fP ν R e p)[i]? =some S->∀b,S b->Hm ν R (eD e p) (eg p) b
 | .slice _ tag _,i,S,h,b,a=>by
  cases tag<;>(simp only[fP]at h;cases i<;>simp at h;subst h);all_goals first|exact a.elim|skip
  ·rcases a with a|a
   ·exact .inl ⟨_,by simp[eg],a⟩
   ·exact .inr (by simpa only[eD]using a)
  ·exact .inr ⟨⟨_,_,by simp[eD],a.1⟩,a.2⟩
 | .row _ k _,i,S,h,b,a=>by
  simp only[fP]at h;cases i<;>simp at h;subst h;rcases a with a|a
  ·exact .inl ⟨k,by simp[eg],a⟩
  ·exact .inr (by simpa only[eD]using a)
 | .agg cs,i,S,h,b,a=>by simp only[fP,eD,eg]at h⊢;exact FQ cs i S h b a
 | .tuple cs,i,S,h,b,a=>by simp only[fP,eD,eg]at h⊢;exact FQ cs i S h b a
 | .int _ _,_,_,h,_,_=>by simp[fP]at h
 | .bool _,_,_,h,_,_=>by simp[fP]at h
 | .str _,_,_,h,_,_=>by simp[fP]at h
 | .junk,_,_,h,_,_=>by simp[fP]at h
 | .ptr _ _,_,_,h,_,_=>by simp[fP]at h
 | .eptr _,_,_,h,_,_=>by simp[fP]at h
 | .iface _ _,_,_,h,_,_=>by simp[fP]at h
 | .nilp,_,_,h,_,_=>by simp[fP]at h
 | .func _ _,_,_,h,_,_=>by simp[fP]at h
 | .gmap _,_,_,h,_,_=>by simp[fP]at h
 | .rptr _ _ _ _ _,_,_,h,_,_=>by simp[fP]at h
 | .hdm _ _,_,_,h,_,_=>by simp[fP]at h
 | .hdi _ _ _,_,_,h,_,_=>by simp[fP]at h
 | .cst _,_,_,h,_,_=>by simp[fP]at h
def FQ{ν:bc}{R:Nat->Prop}{e:List (aB×dW)}:∀(p:List af) (i:Nat) (S:Nat->Prop),(pn ν R e p)[i]? =some S->∀b,S b->Hm ν R (gX e p) (gO p) b
 |[],i,S,h,b,a=>by simp[pn]at h
 |x::xs,i,S,h,b,a=>by
  simp only[pn]at h;simp only[gX,gO];by_cases hi:i<(fP ν R e x).length
  ·rw[rY hi]at h;rcases FR x i S h b a with⟨k,J,U⟩|⟨J,U⟩
   ·exact .inl ⟨k,List.mem_append_left _ J,U⟩
   ·exact .inr ⟨Cl (fun _ h=>List.mem_append_left _ h) b J,U⟩
  ·rw[vv Ω]at h;rcases FQ xs _ S h b a with⟨k,J,U⟩|⟨J,U⟩
   ·exact .inl ⟨k,List.mem_append_right _ J,U⟩
   ·exact .inr ⟨Cl (fun _ h=>List.mem_append_right _ h) b J,U⟩
end
structure C8 (ν:bc) (R:Nat->Prop) (rw:List aB):Prop where
 trd:∀k j bt dg b,ν.tr k j b->ν.tr bt dg b->k=bt/\j=dg
 inj:∀k bt b,k∈rw->bt∈rw->oc ν k b->oc ν bt b->k=bt
 R:∀k b,k∈rw->oc ν k b->R b
def Vx{ν:bc}{R:Nat->Prop}{rw:List aB}(he:C8 ν R rw){h i:List (aB×Nat)}{g f:List aB}(n:(h++i).Nodup)(m:(g++f).Nodup)(J:∀k∈g,k∈rw)(U:∀k∈f,k∈rw)(b:Nat)(l:Hm ν R h g b):¬Hm ν R i f b:=by
 rintro j;rcases l with⟨k,c,e⟩|⟨c,e⟩<;>rcases j with⟨bt,a,d⟩|⟨a,d⟩
 ·have:=he.inj k bt b (J k c) (U bt a) e d;subst this;exact(r1.1 m).2.2 _ c _ a rfl
 ·exact d (he.R k b (J k c) e)
 ·exact e (he.R bt b (U bt a) d)
 ·exact OP he.trd n b c a
mutual
def abS{ν:bc}{R:Nat->Prop}{rw:List aB}(he:C8 ν R rw){e:List (aB×dW)}:∀(p:af),(eD e p).Nodup->(eg p).Nodup->(∀k∈eg p,k∈rw)->∀(i d:Nat) (S c:Nat->Prop),(fP ν R e p)[i]? =some S->(fP ν R e p)[d]? =some c->∀b,S b->c b->i=d
 | .slice sz tag xs,_,_,_,i,d,S,c,h,a,b,_,_=>by have m:(fP ν R e (.slice sz tag xs)).length=1:=Av ν R e _;have:=(fI.1 h).1;have:=(fI.1 a).1;omega
 | .row sz k n,_,_,_,i,d,S,c,h,a,b,_,_=>by have m:(fP ν R e (.row sz k n)).length=1:=Av ν R e _;have:=(fI.1 h).1;have:=(fI.1 a).1;omega
 | .agg cs,g,f,ab,i,d,S,c,h,a,b,l,j=>by simp only[fP,eD,eg]at h a g f ab;exact Qn he cs g f ab i d S c h a b l j
 | .tuple cs,g,f,ab,i,d,S,c,h,a,b,l,j=>by simp only[fP,eD,eg]at h a g f ab;exact Qn he cs g f ab i d S c h a b l j
 | .int _ _,_,_,_,_,_,_,_,h,_,_,_,_=>by simp[fP]at h
 | .bool _,_,_,_,_,_,_,_,h,_,_,_,_=>by simp[fP]at h
 | .str _,_,_,_,_,_,_,_,h,_,_,_,_=>by simp[fP]at h
 | .junk,_,_,_,_,_,_,_,h,_,_,_,_=>by simp[fP]at h
 | .ptr _ _,_,_,_,_,_,_,_,h,_,_,_,_=>by simp[fP]at h
 | .eptr _,_,_,_,_,_,_,_,h,_,_,_,_=>by simp[fP]at h
 | .iface _ _,_,_,_,_,_,_,_,h,_,_,_,_=>by simp[fP]at h
 | .nilp,_,_,_,_,_,_,_,h,_,_,_,_=>by simp[fP]at h
 | .func _ _,_,_,_,_,_,_,_,h,_,_,_,_=>by simp[fP]at h
 | .gmap _,_,_,_,_,_,_,_,h,_,_,_,_=>by simp[fP]at h
 | .rptr _ _ _ _ _,_,_,_,_,_,_,_,h,_,_,_,_=>by simp[fP]at h
 | .hdm _ _,_,_,_,_,_,_,_,h,_,_,_,_=>by simp[fP]at h
 | .hdi _ _ _,_,_,_,_,_,_,_,h,_,_,_,_=>by simp[fP]at h
 | .cst _,_,_,_,_,_,_,_,h,_,_,_,_=>by simp[fP]at h
def Qn{ν:bc}{R:Nat->Prop}{rw:List aB}(he:C8 ν R rw){e:List (aB×dW)}:∀(p:List af),(gX e p).Nodup->(gO p).Nodup->(∀k∈gO p,k∈rw)->∀(i d:Nat) (S c:Nat->Prop),(pn ν R e p)[i]? =some S->(pn ν R e p)[d]? =some c->∀b,S b->c b->i=d
 |[],_,_,_,i,d,S,c,h,_,_,_,_=>by simp[pn]at h
 |x::xs,g,f,ab,i,d,S,c,h,a,b,l,j=>by
  simp only[pn]at h a;simp only[gX]at g;simp only[gO]at f ab;have o:∀k∈eg x,k∈rw:=fun k m=>ab k (List.mem_append_left _ m);have n:∀k∈gO xs,k∈rw:=fun k m=>ab k (List.mem_append_right _ m);by_cases hi:i<(fP ν R e x).length<;>by_cases q:d<(fP ν R e x).length
  ·rw[rY hi]at h;rw[rY q]at a;exact abS he x (r1.1 g).1 (r1.1 f).1 o i d S c h a b l j
  ·rw[rY hi]at h;rw[vv Ω]at a;exact absurd (FQ xs _ c a b j) (Vx he g f o n b (FR x i S h b l))
  ·rw[vv Ω]at h;rw[rY q]at a;exact absurd (FQ xs _ S h b l) (Vx he g f o n b (FR x d c a b j))
  ·rw[vv Ω]at h a;have:=Qn he xs (r1.1 g).2.1 (r1.1 f).2.1 n _ _ S c h a b l j;omega
end
end
section
open Go Go.RowKit
def QJ{w:World}{μ:bc}{k:aB}{j sz:Nat}{tag:jE}{ys:List af}{v:Value}(h:c0 true w μ.A (μ.tr k j) (.slice sz tag ys) v)(a:cf ys=ys):aV w μ (.slice sz (.tr k j) ys) v:=by have J:=Hq (ν:=μ) (fun _ _ h=>h) _ _ _ h;simp only[b7,a]at J;simp only[aV]at J⊢;refine⟨J.1,fun e=>(by cases e),fun _ e=>(by cases e),fun bt dg e=>?_,fun _ e=>(by cases e)⟩;cases e;simp only[c0]at h⊢;exact h
section
variable {pr:Nat->Prop} {w:World} {ν μ:bc} {B:List (aB×List af)} {e:List (aB×dW)} {R:Nat->Prop} {rw:List aB} {κ:Nat}
 (be:Good pr w ν B e) (he:C8 ν R rw) (bs:∀b,R b->∀k j,¬ν.tr k j b) (DW:∀b o,ν.A b o->μ.A b o) (ze:∀k∈rw,∀own,ae k e=some own->∀b,oc ν k b->∀o,o<own.n*own.sz->μ.A b o)
include be he bs DW ze
mutual
theorem Mk:∀(p:af) (v:Value) (j:Nat),aV w ν p v->ff e p->(eD e p).Nodup->(∀k∈eg p,k∈rw)->(∀i S,(fP ν R e p)[i]? =some S->∀b,S b->μ.tr (.loc κ) (j+i) b)->aV w μ (fold κ e j p) v
 | .int k n,v,_,h,_,_,_,_=>by simpa only[aV,fold]using h
 | .bool b,v,_,h,_,_,_,_=>by simpa only[aV,fold]using h
 | .str s,v,_,h,_,_,_,_=>by simpa only[aV,fold]using h
 | .slice sz tag xs,v,j,h,ar,l,ab,f=>by
  simp only[aV]at h;obtain⟨⟨a,cap,J,U,Y,aZ⟩,_,eb,lM,_⟩:=h;simp only[fold];refine QJ (tag:= .no) ?_ (vl xs);by_cases y:∃k i,tag= .tr k i
  ·obtain⟨k,i,rfl⟩:=y;have aG:=DQ .no v (lM k i rfl);refine vX (fun b o h=>⟨DW b o h,rfl⟩) (fun _ _ _=>rfl) _ _ _ v (fun b d=>?_) aG;simpa using f 0 (fun b=>ν.tr k i b/\¬R b) (by simp[fP]) b ⟨d,fun E=>bs b E _ _ d⟩
  by_cases V:∃k,tag= .own k
  ·obtain⟨k,rfl⟩:=V;simp only[ff]at ar;obtain⟨_,⟨el,A⟩,K,N⟩:=ar;obtain⟨n',u,g1,g2,g3⟩:=eb k rfl;obtain⟨v0,gl,q,r,O,W⟩:=be.own k _ A;simp only at q r O;rw[g1]at q;simp only[dU,jn]at q;obtain⟨rfl,rfl⟩:=q;have P:=g3 rfl;subst P;have H:k∈rw:=ab k (by simp[eg]);simp only[c0];refine⟨a,cap,by rw[nG];exact J,by rw[nG];exact U,by rw[nG];exact Y,?_⟩;rcases aZ with rfl|⟨b,off,us,B,b4,X⟩
   ·exact .inl rfl
   by_cases z:xs=[]
   ·left;rw[z];rfl
   right;subst B;rcases r.2 with⟨B,_⟩|⟨g,Dw,cur,f1,f2,f3,f4,f5,f6,f7⟩
   ·rw[B]at J;cases J
   have F:v.ownBlock=some g:=by rw[f1];rfl
   have x:oc ν k g:=⟨_,_,g1,F⟩;have t:∀b,(oc ν k b\/(ly ν (tnL xs) b/\¬R b))->μ.tr (.loc κ) j b:=fun b d=>by simpa using f 0 (fun b=>oc ν k b\/(ly ν (tnL xs) b/\¬R b)) (by simp[fP]) b d
   rw[f1]at J;simp only[ayj,dU,Addr.mk.injEq]at J;obtain⟨⟨rfl,rfl,_⟩,_,rfl⟩:=J;have hlen:=rN X;refine⟨g,0,us,fun c=>ly ν (tnL xs) c/\¬R c,rfl,t g (.inl x),fun c ax=>⟨t c (.inr ax),fun _ Q=>ax.2 (by rw[Q];exact he.R k g H x)⟩,B4 (fun b o h=>⟨DW b o h,rfl⟩) _ _ b4,fun _=>⟨rfl,?_,el,?_⟩,?_⟩
   ·rw[hlen];exact Nat.mul_pos (List.length_pos_iff.2 z) N
   ·simp only[shape,f3,f6]
   ·have J:=OZ he.trd xs us X K (by simpa only[eD]using l);exact Ho (fun b o h=>⟨DW b o h,rfl⟩) (fun _ _ _=>rfl) _ _ _ us (fun b d=>⟨d,fun E=>by obtain⟨bt,jM,_,y⟩:=d;exact bs b E _ _ y⟩) J
  ·have ad:xs=[]:=by
    simp only[ff]at ar;split at ar
    ·exact absurd ⟨_,_,rfl⟩ y
    ·exact absurd ⟨_,rfl⟩ V
    ·exact ar
   subst ad;simp only[cf,c0];exact⟨a,cap,J,U,Y,.inl trivial⟩
 | .row sz k n,v,j,h,ar,l,ab,f=>by
  simp only[ff]at ar;obtain⟨⟨m,hm⟩,⟨xs,el,A,K⟩,N⟩:=ar;have M:wS e k=xs:=by simp[wS,A]
  simp only[aV]at h;obtain⟨⟨aea,js,Z⟩,fq,n',u,g1,g2,g3⟩:=h;obtain⟨v0,us,q,r,O,W⟩:=be.own k _ A;simp only at q r O;rw[g1]at q;simp only[dU,jn]at q;obtain⟨rfl,rfl⟩:=q;have P:=g3 rfl;subst P;obtain⟨G,L,vh⟩:=W xs rfl;simp only at G L;have H:k∈rw:=ab k (by simp[eg]);rcases r.2 with⟨B,_⟩|⟨g,cap,cur,f1,f2,f3,f4,f5,f6,f7⟩
  ·rw[B]at Z;cases Z
  have F:v.ownBlock=some g:=by rw[f1];rfl
  have x:oc ν k g:=⟨_,_,g1,F⟩;have t:∀b,(oc ν k b\/(ly ν (tnL (wS e k)) b/\¬R b))->μ.tr (.loc κ) j b:=fun b d=>by simpa using f 0 (fun b=>oc ν k b\/(ly ν (tnL (wS e k)) b/\¬R b)) (by simp[fP]) b d
  rw[M]at t;simp only[fold,M];refine QJ (tag:= .no) ?_ (vl xs);simp only[c0];refine⟨some ⟨g,0,none⟩,cap,by rw[nG,G];exact f1,by rw[nG,G];exact f4,⟨f5,by rw[nG,G];exact fq⟩,?_⟩;by_cases z:xs=[]
  ·left;rw[z];rfl
  ·right;have hlen:=rN L;refine⟨g,0,us,fun c=>ly ν (tnL xs) c/\¬R c,rfl,t g (.inl x),fun c ax=>⟨t c (.inr ax),fun _ Q=>ax.2 (by rw[Q];exact he.R k g H x)⟩,Iu us 0 fun i u hi=>?_,fun _=>⟨rfl,?_,el,?_⟩,?_⟩
   ·have BA:i<us.length:=(fI.1 hi).1;refine⟨ze k H _ A g x _ (by simp only;rw[r.1]at BA;omega),?_⟩;have:=r.cells F i u hi;rwa[pL]at this
   ·rw[hlen];exact Nat.mul_pos (List.length_pos_iff.2 z) N
   ·simp only[shape,f3,f6]
   ·have J:=OZ he.trd xs us L K (by simpa only[eD,M]using l);exact Ho (fun b o h=>⟨DW b o h,rfl⟩) (fun _ _ _=>rfl) _ _ _ us (fun b d=>⟨d,fun E=>by obtain⟨bt,jM,_,y⟩:=d;exact bs b E _ _ y⟩) J
 | .agg cs,v,j,h,ar,l,ab,f=>by simp only[aV,ff,eD,eg,fP,fold]at h ar l ab f⊢;obtain⟨us,J,U⟩:=h;exact⟨us,J,Vs cs _ j U ar l ab f⟩
 | .tuple cs,v,j,h,ar,l,ab,f=>by simp only[aV,ff,eD,eg,fP,fold]at h ar l ab f⊢;obtain⟨us,J,U⟩:=h;exact⟨us,J,Vt cs _ j U ar l ab f⟩
 | .junk,_,_,_,ar,_,_,_=>by simp[ff]at ar
 | .ptr _ _,_,_,_,ar,_,_,_=>by simp[ff]at ar
 | .eptr _,_,_,_,ar,_,_,_=>by simp[ff]at ar
 | .iface _ _,_,_,_,ar,_,_,_=>by simp[ff]at ar
 | .nilp,_,_,_,ar,_,_,_=>by simp[ff]at ar
 | .func _ _,_,_,_,ar,_,_,_=>by simp[ff]at ar
 | .gmap _,_,_,_,ar,_,_,_=>by simp[ff]at ar
 | .rptr _ _ _ _ _,_,_,_,ar,_,_,_=>by simp[ff]at ar
 | .hdm _ _,_,_,_,ar,_,_,_=>by simp[ff]at ar
 | .hdi _ _ _,_,_,_,ar,_,_,_=>by simp[ff]at ar
 | .cst _,_,_,_,ar,_,_,_=>by simp[ff]at ar
theorem Vs:∀(cs:List af) (us:List Value) (j:Nat),cY w ν cs us->hy e cs->(gX e cs).Nodup->(∀k∈gO cs,k∈rw)->(∀i S,(pn ν R e cs)[i]? =some S->∀b,S b->μ.tr (.loc κ) (j+i) b)->cY w μ (hJ κ e j cs) us
 |[],us,j,h,_,_,_,_=>by simpa only[cY,hJ]using h
 |c::cs,us,j,h,ar,m,ab,d=>by
  simp only[cY,hy,gX,gO,pn,hJ]at h ar m ab d⊢;obtain⟨u,l,J,⟨U,n⟩,o⟩:=h;have g:=r1.1 m;refine⟨u,l,J,⟨Mk c u j U ar.1 g.1 (fun k a=>ab k (List.mem_append_left _ a)) (fun i S hi b f=>d i S (by rw[rY (fI.1 hi).1];exact hi) b f),n⟩,
   Vs cs l _ o ar.2 g.2.1 (fun k a=>ab k (List.mem_append_right _ a)) (fun i S hi b f=>?_)⟩
  have:=d (hI c+i) S (by rw[vv (by rw[Av];omega),Av];simpa using hi) b f;rwa[<-Nat.add_assoc]at this
theorem Vt:∀(cs:List af) (us:List Value) (j:Nat),c7 w ν cs us->hy e cs->(gX e cs).Nodup->(∀k∈gO cs,k∈rw)->(∀i S,(pn ν R e cs)[i]? =some S->∀b,S b->μ.tr (.loc κ) (j+i) b)->c7 w μ (hJ κ e j cs) us
 |[],us,j,h,_,_,_,_=>by simpa only[c7,hJ]using h
 |c::cs,us,j,h,ar,m,ab,d=>by
  simp only[c7,hy,gX,gO,pn,hJ]at h ar m ab d⊢;obtain⟨u,l,J,U,n⟩:=h;have g:=r1.1 m;refine⟨u,l,J,Mk c u j U ar.1 g.1 (fun k a=>ab k (List.mem_append_left _ a)) (fun i S hi b f=>d i S (by rw[rY (fI.1 hi).1];exact hi) b f),
   Vt cs l _ n ar.2 g.2.1 (fun k a=>ab k (List.mem_append_right _ a)) (fun i S hi b f=>?_)⟩
  have:=d (hI c+i) S (by rw[vv (by rw[Av];omega),Av];simpa using hi) b f;rwa[<-Nat.add_assoc]at this
end
end
end
section
open Go Go.RowKit
mutual
def Zf:∀p:af,fs p->∀x∈tn p,x.1≠ef
 | .slice _ tag xs,ar,x,a=>by cases tag<;>simp only[tn,fs]at ar a<;>simp at a;subst a;exact ar
 | .agg cs,ar,x,a=>by simp only[tn,fs]at ar a;exact IZ cs ar x a
 | .int _ _,_,_,a=>by simp[tn]at a
 | .bool _,_,_,a=>by simp[tn]at a
 | .str _,_,_,a=>by simp[tn]at a
 | .junk,_,_,a=>by simp[tn]at a
 | .ptr _ _,_,_,a=>by simp[tn]at a
 | .eptr _,_,_,a=>by simp[tn]at a
 | .iface _ _,_,_,a=>by simp[tn]at a
 | .nilp,_,_,a=>by simp[tn]at a
 | .tuple _,_,_,a=>by simp[tn]at a
 | .func _ _,_,_,a=>by simp[tn]at a
 | .gmap _,_,_,a=>by simp[tn]at a
 | .row _ _ _,_,_,a=>by simp[tn]at a
 | .rptr _ _ _ _ _,_,_,a=>by simp[tn]at a
 | .hdm _ _,_,_,a=>by simp[tn]at a
 | .hdi _ _ _,_,_,a=>by simp[tn]at a
 | .cst _,_,_,a=>by simp[tn]at a
def IZ:∀p:List af,gb p->∀x∈tnL p,x.1≠ef
 |[],_,x,a=>by simp[tnL]at a
 |c::cs,ar,x,a=>by
  simp only[tnL,gb,kc]at ar a;rcases a with a|a
  ·exact Zf c ar.1 x a
  ·exact IZ cs ar.2 x a
end
mutual
def Zg{e:List (aB×dW)}:∀p:af,ff e p->∀x∈eD e p,x.1≠ef
 | .slice _ tag xs,ar,x,a=>by
  cases tag with
  |own k=>simp only[eD,ff]at ar a;exact IZ xs ar.2.2.1 x a
  |tr k i=>simp only[eD,ff]at ar a;simp at a;subst a;exact ar
  |no=>simp[eD]at a
  |nil=>simp[eD]at a
  |lo k=>simp[eD]at a
 | .row _ k _,ar,x,a=>by simp only[eD,ff]at ar a;obtain⟨_,⟨xs,el,c,b⟩,_⟩:=ar;rw[show wS e k=xs from by simp[wS,c]]at a;exact IZ xs b x a
 | .agg cs,ar,x,a=>by simp only[eD,ff]at ar a;exact OW cs ar x a
 | .tuple cs,ar,x,a=>by simp only[eD,ff]at ar a;exact OW cs ar x a
 | .int _ _,_,_,a=>by simp[eD]at a
 | .bool _,_,_,a=>by simp[eD]at a
 | .str _,_,_,a=>by simp[eD]at a
 | .junk,_,_,a=>by simp[eD]at a
 | .ptr _ _,_,_,a=>by simp[eD]at a
 | .eptr _,_,_,a=>by simp[eD]at a
 | .iface _ _,_,_,a=>by simp[eD]at a
 | .nilp,_,_,a=>by simp[eD]at a
 | .func _ _,_,_,a=>by simp[eD]at a
 | .gmap _,_,_,a=>by simp[eD]at a
 | .rptr _ _ _ _ _,_,_,a=>by simp[eD]at a
 | .hdm _ _,_,_,a=>by simp[eD]at a
 | .hdi _ _ _,_,_,a=>by simp[eD]at a
 | .cst _,_,_,a=>by simp[eD]at a
def OW{e:List (aB×dW)}:∀p:List af,hy e p->∀x∈gX e p,x.1≠ef
 |[],_,x,a=>by simp[gX]at a
 |c::cs,ar,x,a=>by
  simp only[gX,hy,kc]at ar a;rcases a with a|a
  ·exact Zg c ar.1 x a
  ·exact OW cs ar.2 x a
end
mutual
def I0{e:List (aB×dW)}:∀p:af,ff e p->∀k∈eg p,∃own,ae k e=some own
 | .row sz k n,ar,bt,ab=>by simp only[eg,ff]at ar ab;obtain⟨_,⟨xs,el,b,c⟩,_⟩:=ar;simp at ab;subst ab;exact⟨_,b⟩
 | .agg cs,ar,x,a=>by simp only[eg,ff]at ar a;exact OX cs ar x a
 | .tuple cs,ar,x,a=>by simp only[eg,ff]at ar a;exact OX cs ar x a
 | .slice sz tag xs,ar,bt,ab=>by
  cases tag with
  |own k=>simp only[eg,ff]at ar ab;obtain⟨_,⟨el,b⟩,_⟩:=ar;simp at ab;subst ab;exact⟨_,b⟩
  |tr k i=>simp[eg]at ab
  |no=>simp[eg]at ab
  |nil=>simp[eg]at ab
  |lo k=>simp[eg]at ab
 | .int _ _,_,_,a=>by simp[eg]at a
 | .bool _,_,_,a=>by simp[eg]at a
 | .str _,_,_,a=>by simp[eg]at a
 | .junk,_,_,a=>by simp[eg]at a
 | .ptr _ _,_,_,a=>by simp[eg]at a
 | .eptr _,_,_,a=>by simp[eg]at a
 | .iface _ _,_,_,a=>by simp[eg]at a
 | .nilp,_,_,a=>by simp[eg]at a
 | .func _ _,_,_,a=>by simp[eg]at a
 | .gmap _,_,_,a=>by simp[eg]at a
 | .rptr _ _ _ _ _,_,_,a=>by simp[eg]at a
 | .hdm _ _,_,_,a=>by simp[eg]at a
 | .hdi _ _ _,_,_,a=>by simp[eg]at a
 | .cst _,_,_,a=>by simp[eg]at a
def OX{e:List (aB×dW)}:∀p:List af,hy e p->∀k∈gO p,∃own,ae k e=some own
 |[],_,x,a=>by simp[gO]at a
 |c::cs,ar,x,a=>by
  simp only[gO,hy,kc]at ar a;rcases a with a|a
  ·exact I0 c ar.1 x a
  ·exact OX cs ar.2 x a
end
def ih(d:List bW)(s:cS)(κ:Nat)(Q:af->cS->Prop)(e:Exit)(st:bp):Prop:=
 (e= .ret\/e= .normal)/\match ba st d with
  |some (c,b)=>c/\∃a,a.e=[]/\lV a s.b/\hz (aM a) a.b st.b/\hW a/\(ff st.e (a6 b)/\(eD st.e (a6 b)).Nodup/\(eg (a6 b)).Nodup)/\Q (fold κ st.e 0 (a6 b)) a
  |none=>er
noncomputable def bc.fold(ν:bc)(a:cS)(κ:Nat)(e:List (aB×dW))(p:af):bc:=
 {A:=fun b o=>ν.A b o\/ ∃k,k∈eg p/\∃own,ae k e=some own/\oc ν k b/\o<own.n*own.sz,
  bx:=(ν.cut (aM a)).bx,ow:=fun _=>none,
  tr:=fun k j b=>k= .loc κ/\∃S,(fP ν (fun b=> ∃k,k∈eg p/\oc ν k b) e p)[j]? =some S/\S b}
def uo.of{P:cH}(hm:P.follows .mixedOrders=true){aT:List (Nat×ev)}(aL:hX P aT=true){f:FuncId}{fn:Func}(aG:P.funcs[f]? =some fn){code:Code}(ag:fn.body=some code)(wh:(fn.name== "runtime.NumGoroutine")=false){c:C}(ax:hT fn.ntmps aT c code=true){ea:List bW}(iJ:p9 aT ea fn.results.toList=true)
  {args:List af} (av:args.length<=fn.ntmps) {s:cS} (kT:hW s) (h7:s.e=[]) {κ:Nat} {Q:af->cS->Prop} (he:eM args->(∀j cs,ae j s.b=some cs->gY cs=true->eN cs)->de P (cJ s) c (ih ea s κ Q) ⟨jb 0 args,s.b,s.e,0,cJ s⟩):uo P f κ args s Q:=by
 intro w ν bm be ad aJ;refine .inl ⟨⟨fn,aG,by simp[ag],wh⟩,?_⟩;have p0:=Ah aJ;have lr:bm.size=args.length:=by simpa using p0
 let X:fp:=⟨w,ν,fC ν s,fn.ntmps,cJ s⟩
 have nU:∀k,fresh 0 (cJ s) k->ν.bx k=none/\ν.ow k=none/\∀j b,¬ν.tr k j b:=by
  intro k ab;cases k with
  |loc m=>exact⟨(ad _).1 (kT.1 m),(ad _).2.1 (kT.2 m),(ad _).2.2⟩
  |obj m=>
   simp only[fresh,true_and]at ab;refine⟨?_,?_,(ad _).2.2⟩
   ·refine(ad _).1 ?_;cases h:ae (.obj m) s.b with
    |none=>rfl
    |some x=>exact absurd (rJ (.inl (by simp[h]))) ab
   ·refine(ad _).2.1 ?_;cases h:ae (.obj m) s.e with
    |none=>rfl
    |some x=>exact absurd (rJ (.inr (by simp[h]))) ab
 have ja:∀m,(ν.bx (.obj m)≠none\/ν.ow (.obj m)≠none)-> .obj m∈cJ s:=by
  intro m hm;refine Classical.byContradiction fun ax=>?_;obtain⟨J,U,_⟩:=nU (.obj m) ⟨trivial,ax⟩;rcases hm with hm|hm
  ·exact hm J
  ·exact hm U
 have pY:c9 X ⟨jb 0 args,s.b,s.e,0,cJ s⟩ {tmps:=bm++Array.replicate (fn.ntmps-bm.size) undef,defers:=[]} w ν:=by
  refine⟨⟨be.alt,fun k cs ab=>?_,be.inj,fun g o fv=>?_,be.oinj,be.obx,be.one,be.otr⟩,⟨rfl,rfl,rfl,dP _,fun _ _ _=>rfl,fun b o h=>⟨h,rfl⟩,fun b o h=>.inl h,fun n b h=>h,fun n b h=>ja n (.inl (by rw[h];simp)),fun m n u h=>⟨n,u,h,.inl ⟨rfl,rfl⟩⟩,fun m n u h=>ja m (.inr (by rw[h];simp)),fun k j _ _ b h=>absurd h ((ad k).2.2 j b),fun k j b h=>absurd h ((ad k).2.2 j b),fun k j b h=>absurd h ((ad k).2.2 j b),fun _ _ _=>rfl⟩,rfl,?_,fun i=>?_,nU⟩
  ·obtain⟨bl,us,el,g1,g2,g3⟩:=be.box k cs ab;exact⟨bl,us,el,g1,.inl g2,g3⟩
  ·obtain⟨v,us,g1,g2,g3,g4⟩:=be.own g o fv;exact⟨v,us,g1,g2,fun bl gg=>⟨.inl (g3 bl gg).1,(g3 bl gg).2⟩,g4⟩
  ·show(bm++Array.replicate (fn.ntmps-bm.size) undef).size=fn.ntmps;simp;omega
  ·rw[Hu];by_cases hi:i<args.length
   ·rw[if_pos Ω];have ss:args[i]? =some args[i]:=cl hi;obtain⟨v,ao,aC⟩:=Fy i aJ ss;have aN:(bm++Array.replicate (fn.ntmps-bm.size) undef).getD i undef=v:=by
     have o5:bm[i]? =some v:=by simpa using ao
     rw[Array.getD_eq_getD_getElem?,Array.getElem?_append_left Ω,o5];rfl
    show aV w ν _ ((bm++Array.replicate (fn.ntmps-bm.size) undef).getD i undef);rw[aN];simpa[List.getD,ss]using aC
   ·rw[if_neg Ω];simp[aV]
 have wa:=he (PZ aJ) (fun j cs ah=>by obtain⟨bl,us,el,_,_,_,_,g5⟩:=be.box j cs ah;exact PV g5);have Nz:=qv hm aL (X:=X) c code (ih ea s κ Q) _ ax wa _ w ν pY;refine calls_of_wp aG ag (wp_mono Nz fun e br w' cL=>?_);obtain⟨st',bn,⟨rl,bK⟩,dd⟩:=cL;cases qE:ba st' ea with
 |none=>simp[qE]at bK
 |some x=>
  obtain⟨cC,bT⟩:=x;simp only[qE]at bK;obtain⟨h5,ak,hs'e,kb,a7,bX,⟨ok,nd,rd⟩,dK⟩:=bK;obtain⟨oP,g1,g2⟩:=JI aL dd ea fn.results.toList cC bT iJ qE h5;have Nj:=Ah g2;have ee:br.defers=[]/\∃v,(results fn br.tmps).run P w'= .ok v w'/\(fun(e:Ending) w'=> ∃v r ak bn,e= .returned v/\Q r ak/\aV w' bn r v/\Good (fun bl=>fC ν s bl\/w.heap.size<=bl) w' bn ak.b ak.e/\A9 (some κ) bn ak/\hW ak/\pD ⟨w,ν,fC ν s,0,cJ s⟩ w' bn) (.returned v) w':=by
   refine⟨dd.defers,?_⟩;have jK:(results fn br.tmps).run P w'= .ok (if h:oP.toArray.size=1 then oP.toArray[0]else .tuple oP.toArray) w':=by rw[abq];simp only[gx,Array.mapM_eq_mapM_toList,Sem.run_map,g1,gC,hA]
   have xA:∀k,aM ak k->(ae k ak.b).isSome/\(ae k st'.b).isSome:=fun k ab=>by
    have J:(ae k ak.b).isSome:=by
     rcases ab with ab|ab
     ·exact ab
     ·rw[hs'e]at ab;simp[ae]at ab
    obtain⟨cs,dz⟩:=fx.1 J;exact⟨J,by simp[(a7 k cs dz).1]⟩
   have gK:∀k b,k∈eg (a6 bT)->oc bn k b->∃own,ae k st'.e=some own/\(X.pr b)/\b<w'.heap.size/\(∀k j,¬bn.tr k j b)/\(∀bt,(ae bt st'.b).isSome->bn.bx bt≠some b):=by rintro k b ab ⟨n,v,J,U⟩;obtain⟨own,np⟩:=I0 _ ok k ab;obtain⟨v0,us,hj,iL,rI,awR⟩:=dd.good.own k _ np;rw[J]at hj;simp only[dU,jn]at hj;obtain⟨rfl,rfl⟩:=hj;exact⟨_,np,(rI b U).1,dd.good.ownLt np J U,dd.good.otr b (.inr ⟨k,_,_,by simp[np],J,U⟩),fun bt lS kj=>dd.good.obx k bt _ _ b (by simp[np]) lS J U kj⟩
   have zy:∀k b,k∈eg (a6 bT)->oc bn k b->w.heap.size<=b:=by
    intro k b ab dZ;obtain⟨own,_,J,_,_,bR⟩:=gK k b ab dZ;rcases J with J|J
    ·exfalso;rcases J with⟨bt,bq,a2⟩|⟨g,n,v,bq,_⟩
     ·cases bt with
      |loc m=>rw[kT.1 m]at bq;cases bq
      |obj m=>exact bR _ (xA _ (xX kb _ bq)).2 (dd.fr.obj m b a2)
     ·rw[h7]at bq;simp[ae]at bq
    ·exact J
   have HI:C8 bn (fun b=> ∃k,k∈eg (a6 bT)/\oc bn k b) (eg (a6 bT)):=by refine⟨dd.fr.trd,fun k bt b ab lS J U=>?_,fun k b ab h=>⟨k,ab,h⟩⟩;obtain⟨n,v,bq,a2⟩:=J;obtain⟨n',v',cm,b9⟩:=U;obtain⟨_,bQ⟩:=I0 _ ok k ab;obtain⟨_,cq⟩:=I0 _ ok bt lS;exact dd.good.oinj k bt n n' v v' b (by simp[bQ]) (by simp[cq]) bq cm a2 b9
   refine⟨_,jK,_,Pv.fold κ st'.e 0 (a6 bT),ak,bn.fold ak κ st'.e (a6 bT),rfl,dK,?_,?_,?_,bX,?_⟩
   ·show aV w' (bn.fold ak κ st'.e (a6 bT)) _ _;have nW:aV w' bn (a6 bT) (if h:oP.toArray.size=1 then oP.toArray[0]else .tuple oP.toArray):=by
     match bT,oP,g2,Nj with
     |[p],[v],g2,_=>simp only[c7]at g2;obtain⟨u,b2,ao,aC,_⟩:=g2;cases ao;simpa[a6]using aC
     |[],[],g2,_=>simp[a6,aV,c7]
     |p::dD::bT,v::v2::oP,g2,_=>rw[dif_neg Ψ];simp only[a6,aV];exact⟨_,rfl,by simpa using g2⟩
     |[_],[],_,h=>simp at h
     |[],_::_,_,h=>simp at h
     |[_],_::_::_,_,h=>simp at h
     |_::_::_,[],_,h=>simp at h
     |_::_::_,[_],_,h=>simp at h
    refine Mk (μ:=bn.fold ak κ st'.e (a6 bT)) dd.good HI (fun b bs=>?_) (fun b o h=>.inl h) (fun k ab own np b dZ o ar=>.inr ⟨k,ab,own,np,dZ,ar⟩) (a6 bT) _ 0 nW ok nd (fun k ab=>ab) (fun i S hi b dF=>⟨rfl,S,by simpa using hi,dF⟩);obtain⟨k,ab,dZ⟩:=bs;obtain⟨_,_,_,_,aZ,_⟩:=gK k b ab dZ;exact aZ
   ·have kG:oi (aM ak) w' bn w' (bn.fold ak κ st'.e (a6 bT)):=by
     refine⟨fun b o h=>⟨.inl h,rfl⟩,fun k b ab h=>by simp only[bc.fold];rw[bc.cut_bx ab];exact h,fun g n u HJ h=>?_,fun _ _ _=>rfl,fun k j b ab h=>?_⟩
     ·obtain⟨cs,dz⟩:=fx.1 (xA g HJ).2;obtain⟨bl,us,el,ao,_⟩:=dd.good.box g cs dz;rcases dd.good.one g with J|J
      ·rw[J]at ao;cases ao
      ·rw[J]at h;cases h
     ·obtain⟨cs,dz⟩:=fx.1 (xA k ab).2;obtain⟨bl,us,el,ao,_⟩:=dd.good.box k cs dz;rw[(dd.fr.trn k j b h).1]at ao;cases ao
    have kj:∀k bl,(bn.fold ak κ st'.e (a6 bT)).bx k=some bl->aM ak k/\bn.bx k=some bl:=fun k bl h=>bc.cut_some h;refine⟨fun bl o bk=>?_,fun k cs ab=>?_,fun k bt bl J U aq aZ=>?_,fun g o HJ=>?_,fun g fE n n' v v' bl J=>?_,fun g k n v bl J=>?_,fun k=>.inr rfl,fun bl aL k j hL=>?_⟩
    ·rcases bk with bk|⟨k,ab,own,_,dZ,_⟩
     ·exact dd.good.alt bl o bk
     ·obtain⟨_,_,_,aq,_⟩:=gK k bl ab dZ;exact aq
    ·obtain⟨f1,f2,f3⟩:=a7 k cs ab;obtain⟨bl,us,el,ao,aC,bh,b4,dN⟩:=dd.good.box k cs f1;refine⟨bl,us,el,kG.bx k bl f2 ao,aC,fun o bk=>?_,b4,PW kG f3 dN⟩;rcases bk with bk|⟨bt,lS,own,_,dZ,_⟩
     ·exact bh o bk
     ·obtain⟨_,_,_,_,_,bR⟩:=gK bt bl lS dZ;exact bR k (by simp[f1]) ao
    ·exact dd.good.inj k bt bl (xA k (.inl J)).2 (xA bt (.inl U)).2 (kj k bl aq).2 (kj bt bl aZ).2
    ·rw[hs'e]at HJ;simp[ae]at HJ
    ·rw[hs'e]at J;simp[ae]at J
    ·rw[hs'e]at J;simp[ae]at J
    ·rcases aL with⟨bt,bq,a2⟩|⟨g,n,v,bq,_⟩
     ·obtain⟨_,S,dF,dZ⟩:=hL;obtain⟨cm,b9⟩:=kj bt bl a2;rcases FR _ j S dF bl dZ with⟨bN,iB,J⟩|⟨⟨bN,i,_,J⟩,_⟩
      ·obtain⟨_,_,_,_,_,bR⟩:=gK bN bl iB J;exact bR bt (xA bt cm).2 b9
      ·exact dd.good.otr bl (.inl ⟨bt,(xA bt cm).2,b9⟩) bN i J
     ·rw[hs'e]at bq;simp[ae]at bq
   ·intro k;refine⟨fun ab=>?_,fun _=>rfl,fun j b h=>⟨κ,rfl,h.1⟩⟩;refine(bc.cut_no fun cL=>?_).1;have:=(xA k cL).1;rw[ab]at this;cases this
   ·have W0:∀j b,(bn.fold ak κ st'.e (a6 bT)).tr (.loc κ) j b->w.heap.size<=b/\b<w'.heap.size:=by
     rintro j b ⟨_,S,dF,dZ⟩;rcases FR _ j S dF b dZ with⟨k,ab,J⟩|⟨⟨k,i,fM,J⟩,_⟩
     ·obtain⟨_,_,_,aq,_⟩:=gK k b ab J;exact⟨zy k b ab J,aq⟩
     ·have:=dd.fr.trb k i b J;exact⟨this.1.resolve_left (Zg _ ok _ fM),this.2⟩
    refine⟨dd.fr.os,dd.fr.tape,dd.fr.output,dd.fr.size,dd.fr.block,fun b o h=>⟨.inl (dd.fr.keep b o h).1,(dd.fr.keep b o h).2⟩,fun b o bk=>?_,fun n b h=>?_,fun n b h=>ja n (.inl (by rw[h];simp)),fun m n u h=>?_,fun m n u h=>ja m (.inr (by rw[h];simp)),fun k j bt dg b J U=>?_,fun k j b h=>?_,fun k j b h=>?_,dd.fr.sh⟩
    ·rcases bk with bk|⟨k,ab,own,_,dZ,_⟩
     ·exact dd.fr.fresh b o bk
     ·obtain⟨_,_,U,_⟩:=gK k b ab dZ;exact .inr U
    ·have ai:aM ak (.obj n):=by
      cases np:ae (.obj n) s.b with
      |none=>rw[(ad _).1 np]at h;cases h
      |some x=>exact xX kb _ (by simp[np])
     simp only[bc.fold];rw[bc.cut_bx ai];exact dd.fr.obj n b h
    ·rw[(ad _).2.1 (by rw[h7];rfl)]at h;cases h
    ·obtain⟨rfl,S,bq,a2⟩:=J;obtain⟨rfl,mZ,cm,b9⟩:=U;exact⟨rfl,abS HI _ nd rd (fun k ab=>ab) j dg S mZ bq cm b a2 b9⟩
    ·obtain⟨rfl,_⟩:=id h;exact⟨.inr (W0 j b h).1,(W0 j b h).2⟩
    ·obtain⟨rfl,_⟩:=h;refine⟨(bc.cut_no fun cL=>?_).1,rfl⟩;rcases cL with cL|cL
     ·rw[bX.1 κ]at cL;cases cL
     ·rw[bX.2 κ]at cL;cases cL
  rcases rl with rfl|rfl<;>exact ee
def uo.mk{P:cH}(hm:P.follows .mixedOrders=true){aT:List (Nat×ev)}(l:hX P aT=true){f:FuncId}{fn:Func}(m:P.funcs[f]? =some fn){c:C}{b:List bW}{n:Nat}(a:b3 aT c b n fn=true)
  {args:List af} (g:args.length<=n) {s:cS} (d:hW s) (e:s.e=[]) {κ:Nat} {Q:af->cS->Prop} (he:eM args->(∀j cs,ae j s.b=some cs->gY cs=true->eN cs)->de P (cJ s) c (ih b s κ Q) ⟨jb 0 args,s.b,s.e,0,cJ s⟩):uo P f κ args s Q:=by
 unfold b3 at a;split at a
 ·rename_i code i;simp only[cP,sS,gy]at a;obtain⟨⟨⟨J,U⟩,h⟩,k⟩:=a;exact uo.of hm l m i h J U (kC g k) d e he
 ·cases a
def gf(P:cH)(f:FuncId)(args:List af)(r:Nat->af):Prop:= ∀κ,uo P f κ args ⟨[],[]⟩ fun a b=>a=r κ/\b=⟨[],[]⟩
def gf.mk{P:cH}(hm:P.follows .mixedOrders=true){aT:List (Nat×ev)}(i:hX P aT=true){f:FuncId}{fn:Func}(j:P.funcs[f]? =some fn){c:C}{a:List bW}{n:Nat}(d:b3 aT c a n fn=true)
  {args:List af} (e:args.length<=n) {r:Nat->af} (he:eM args->∀κ,de P [] c (ih a ⟨[],[]⟩ κ fun b g=>b=r κ/\g=⟨[],[]⟩) ⟨jb 0 args,[],[],0,[]⟩):gf P f args r:=
 fun κ=>uo.mk hm i j d e sE rfl fun h _=>he h κ
def ih.val{b:List bW}{κ:Nat}{r:af}{e:Exit}{st:bp}(f:e= .ret\/e= .normal)(h:match ba st b with
  |some (c,a)=>c/\(ff st.e (a6 a)/\(eD st.e (a6 a)).Nodup/\(eg (a6 a)).Nodup)/\fold κ st.e 0 (a6 a)=r
  |none=>er):ih b ⟨[],[]⟩ κ (fun g i=>g=r/\i=⟨[],[]⟩) e st:=by
 refine⟨f,?_⟩;cases d:ba st b with
 |none=>simp[d]at h
 |some x=>obtain⟨c,a⟩:=x;simp only[d]at h⊢;exact⟨h.1,⟨[],[]⟩,rfl,trivial,fun k cs ab=>by simp[ae]at ab,sE,h.2.1,h.2.2,rfl⟩
def CallDo.own{P:cH}{n:Nat}{args:List af}{st:bp}{d:bd Nat}{K:bp->Prop}{r:Nat->af}(ab:aH (fun _=>er) args)(b:gf P n args r)(a: .loc st.n∉st.o)(h:K {st with t:=e7 d (r st.n) st.t,n:=st.n+1}):CallDo P n args st d K:=by
 refine .inr ⟨⟨[],[]⟩,_,fun k cs ab=>by simp[ae]at ab,fun k cs ab=>by simp[ae]at ab,sE,ji (fun _ h=>h.elim) _ ab,a,b st.n,?_⟩;rintro c e ⟨rfl,rfl⟩;refine⟨⟨fun m h=>by simp[ae]at h,fun m h=>by simp[ae]at h⟩,?_⟩;have:({after st ⟨[],[]⟩ ⟨[],[]⟩ d (r st.n)with n:=st.n+1}:bp)={st with t:=e7 d (r st.n) st.t,n:=st.n+1}:=by simp[after,C5,cJ]
 rw[this];exact h
def hH.own{P:cH}{q:Bool}{nw:List Nat}{n:Nat}{args:List af}{st:bp}{cV:Nat}{K:bp->Prop}{r:Nat->af}(ab:aH (fun _=>er) args)(b:gf P n args r)(a:qx st.n cV st)(h:K {st with t:=put cV (r (st.n+cV)) st.t,o:= .loc (st.n+cV)::st.o}):hH P q nw n args st (some cV) K:=.inl ⟨cV,r (st.n+cV),rfl,a,ab,b (st.n+cV),h⟩
end
end Go.Pv
namespace Go.Proofs.YtahlgcidhnjlbaaGreat
section
open Go Go.Pv
def _root_.Go.Pv.T.k(t:T)(κ:Nat):af:= .agg [aj t.kind,aj t.int,.str t.name,.slice 4 (.tr (.loc κ) 0) (t.args.map T.e)]
def anh(t:T):gf au 143 [t.e] t.k:=by
 induction t with
 |pair a b d c=>
  refine gf.mk mixed a1 Tryz.func143 I1 Ψ fun e κ=>?_;unfold Dr;simp;repeat' first|with_reducible refine hH.own Ψ d (by simp[qx,ae]) ?_|with_reducible refine hH.own Ψ c (by simp[qx,ae]) ?_|simp[T.k]
  all_goals skip
  all_goals(refine ih.val (.inl rfl) ?_;simp[ba,bf,a6,ff,hy,eD,gX,eg,gO,tnL,tn,fs,gb,fold,hJ,hI,ae,ef,cf])
 |_=>refine gf.mk mixed a1 Tryz.func143 I1 Ψ fun e κ=>?_;unfold Dr;simp;all_goals(refine ih.val (.inl rfl) ?_;simp[ba,bf,a6,ff,hy,eD,gX,eg,gO,tnL,tn,fs,gb,fold,hJ,hI,ae,T.k,cf])
end
end Go.Proofs.YtahlgcidhnjlbaaGreat
namespace Go.Pv
section
open Go Go.RowKit
mutual
def bF:af->Nat
 | .slice _ _ []=>0
 | .slice _ _ (x::xs)=>1+(bF x+da xs)
 | .agg cs=>da cs
 |_=>0
def da:List af->Nat
 |[]=>0
 |x::xs=>bF x+da xs
end
mutual
def dv:Nat->af->af
 |_,.slice sz _ []=>.slice sz .no []
 |b,.slice sz _ (_::xs)=>.row sz (.obj b) (xs.length+1)
 |b,.agg cs=>.agg (fL b cs)
 |_,p=>p
def fL:Nat->List af->List af
 |_,[]=>[]
 |b,x::xs=>dv b x::fL (b+bF x) xs
end
mutual
def dR(ε:Nat->Nat):Nat->af->List (aB×dW)
 |b,.slice sz _ (x::xs)=>(.obj b,⟨xs.length+1,ε b,sz,some (dv (b+1) x::fL (b+1+bF x) xs)⟩)::(dR ε (b+1) x++gN ε (b+1+bF x) xs)
 |b,.agg cs=>gN ε b cs
 |_,_=>[]
def gN(ε:Nat->Nat):Nat->List af->List (aB×dW)
 |_,[]=>[]
 |b,x::xs=>dR ε b x++gN ε (b+bF x) xs
end
def o6:∀(b:Nat) (xs:List af),(fL b xs).length=xs.length
 |_,[]=>rfl
 |b,x::xs=>by simp[fL,o6 _ xs]
mutual
def va(ε:Nat->Nat):∀(p:af) (b:Nat) (k:aB) (o:dW),ae k (dR ε b p)=some o->∃m,k= .obj m/\b<=m/\m<b+bF p
 | .slice sz t (x::xs),b,k,o,h=>by
  simp only[dR,ae]at h;split at h
  ·rename_i e;exact⟨b,e.symm,dP _,by simp only[bF];omega⟩
  ·rw[n4]at h;simp only[bF];cases J:ae k (dR ε (b+1) x)with
   |some y=>obtain⟨m,e,a,c⟩:=va ε x _ k y J;exact⟨m,e,Ω,Ω⟩
   |none=>rw[J]at h;obtain⟨m,e,a,c⟩:=B7 ε xs _ k o h;exact⟨m,e,Ω,Ω⟩
 | .agg cs,b,k,o,h=>by simp only[dR,bF]at h⊢;exact B7 ε cs b k o h
 | .slice _ _ [],_,_,_,h=>by simp[dR,ae]at h
 | .int _ _,_,_,_,h=>by simp[dR,ae]at h
 | .bool _,_,_,_,h=>by simp[dR,ae]at h
 | .str _,_,_,_,h=>by simp[dR,ae]at h
 | .junk,_,_,_,h=>by simp[dR,ae]at h
 | .ptr _ _,_,_,_,h=>by simp[dR,ae]at h
 | .eptr _,_,_,_,h=>by simp[dR,ae]at h
 | .iface _ _,_,_,_,h=>by simp[dR,ae]at h
 | .nilp,_,_,_,h=>by simp[dR,ae]at h
 | .tuple _,_,_,_,h=>by simp[dR,ae]at h
 | .func _ _,_,_,_,h=>by simp[dR,ae]at h
 | .gmap _,_,_,_,h=>by simp[dR,ae]at h
 | .row _ _ _,_,_,_,h=>by simp[dR,ae]at h
 | .rptr _ _ _ _ _,_,_,_,h=>by simp[dR,ae]at h
 | .hdm _ _,_,_,_,h=>by simp[dR,ae]at h
 | .hdi _ _ _,_,_,_,h=>by simp[dR,ae]at h
 | .cst _,_,_,_,h=>by simp[dR,ae]at h
def B7(ε:Nat->Nat):∀(a:List af) (b:Nat) (k:aB) (o:dW),ae k (gN ε b a)=some o->∃m,k= .obj m/\b<=m/\m<b+da a
 |[],_,_,_,h=>by simp[gN,ae]at h
 |x::xs,b,k,o,h=>by
  simp only[gN]at h;rw[n4]at h;simp only[da];cases J:ae k (dR ε b x)with
  |some y=>obtain⟨m,e,c,d⟩:=va ε x _ k y J;exact⟨m,e,Ω,Ω⟩
  |none=>rw[J]at h;obtain⟨m,e,c,d⟩:=B7 ε xs _ k o h;exact⟨m,e,Ω,Ω⟩
end
structure uv (F:Nat->Prop) (ω:Nat->bd (Nat×Value)) (b c:Nat):Prop where
 dom:∀m,(ω m).isSome=true↔b<=m/\m<c
 blk:∀m n u,ω m=some (n,u)->∃bl,u.ownBlock=some bl/\F bl
 inj:∀m fU n n' u eJ bl,ω m=some (n,u)->ω fU=some (n',eJ)->u.ownBlock=some bl->eJ.ownBlock=some bl->m=fU
def vG(w:World)(ω:Nat->bd (Nat×Value))(e:List (aB×dW)):Prop:= ∀μ:bc,(∀m x,ω m=some x->μ.ow (.obj m)=some x)->
 ∀k o,ae k e=some o->∃u us,μ.ow k=some (o.n,u)/\w.ownsRow 0 o.el o.sz u o.n us/\∃xs,o.xs=some xs/\xs.length=o.n/\dw w μ o.sz xs us
def uv.nil(F:Nat->Prop)(b:Nat):uv F (fun _=>none) b b:=⟨fun m=>by simp,fun _ _ _ h=>(by cases h),fun _ _ _ _ _ _ _ h=>by cases h⟩
def wx(c:Nat)(b a:Nat->bd (Nat×Value))(m:Nat):bd (Nat×Value):=if m<c then b m else a m
def Xy{c:Nat}{a e:Nat->bd (Nat×Value)}{F:Nat->Prop}{b:Nat}(h:uv F a b c){m:Nat}{x:Nat×Value}(d:a m=some x):wx c a e m=some x:=by unfold wx;rw[if_pos ((h.dom m).1 (by rw[d];rfl)).2];exact d
def Xz{c d:Nat}{e a:Nat->bd (Nat×Value)}{F:Nat->Prop}(h:uv F a c d){m:Nat}{x:Nat×Value}(b:a m=some x):wx c e a m=some x:=by unfold wx;rw[if_neg (by have:=((h.dom m).1 (by rw[b];rfl)).1;omega)];exact b
def uv.join{F o l:Nat->Prop}{r q:Nat->bd (Nat×Value)}{b c d:Nat}(J:uv o r b c)(U:uv l q c d)(v:b<=c)(t:c<=d)(f1:∀x,o x->F x)(f2:∀x,l x->F x)(s:∀x,o x->¬l x):uv F (wx c r q) b d:=by
 refine⟨fun m=>?_,fun m n u hm=>?_,fun m h n n' u i bl hm f k j=>?_⟩
 ·unfold wx;split
  ·rw[J.dom];omega
  ·rw[U.dom];omega
 ·unfold wx at hm;split at hm
  ·obtain⟨bl,a,e⟩:=J.blk m n u hm;exact⟨bl,a,f1 _ e⟩
  ·obtain⟨bl,a,e⟩:=U.blk m n u hm;exact⟨bl,a,f2 _ e⟩
 ·unfold wx at hm f;split at hm<;>split at f
  ·exact J.inj m h n n' u i bl hm f k j
  ·obtain⟨_,a,e⟩:=J.blk m n u hm;obtain⟨_,g,p⟩:=U.blk h n' i f;rw[k]at a;rw[j]at g;cases a;cases g;exact absurd p (s _ e)
  ·obtain⟨_,a,e⟩:=U.blk m n u hm;obtain⟨_,g,p⟩:=J.blk h n' i f;rw[k]at a;rw[j]at g;cases a;cases g;exact absurd e (s _ p)
  ·exact U.inj m h n n' u i bl hm f k j
def vG.app{w:World}{ω:Nat->bd (Nat×Value)}{e b:List (aB×dW)}(h:vG w ω e)(c:vG w ω b):vG w ω (e++b):=fun μ a k o ab=>by
 rw[n4]at ab;cases J:ae k e with
 |some y=>rw[J]at ab;cases ab;exact h μ a k _ J
 |none=>rw[J]at ab;exact c μ a k o ab
def vG.sub{w:World}{ω a:Nat->bd (Nat×Value)}{e:List (aB×dW)}(h:vG w ω e)(c:∀m x,ω m=some x->a m=some x):vG w a e:=fun μ b=>h μ fun m x d=>b m x (c m x d)
def Vy{t:Bool}{w:World}{A:Nat->Nat->Prop}{sz:Nat}:∀{xs:List af} {F:Nat->Prop} {us:List Value},jW t w A F sz xs us->us.length=xs.length*sz
 |[],_,us,h=>by simp only[jW]at h;subst h;simp
 |x::xs,F,us,h=>by
  simp only[jW]at h;obtain⟨u,d,c,b,rfl,_,⟨_,U,_⟩,a⟩:=h;have:u.cells.toList.length=sz:=by simpa using U
  rw[qi,this,Vy a,mT,Nat.succ_mul];omega
def pK(w:World)(F:Nat->Prop)(b c:Nat)(e:(Nat->Nat)->List (aB×dW))(R:bc->Prop):Prop:=∃(ε:Nat->Nat) (ω:Nat->bd (Nat×Value)),uv F ω b c/\vG w ω (e ε)/\∀μ:bc,(∀m x,ω m=some x->μ.ow (.obj m)=some x)->R μ
def pK.flat{w:World}{F:Nat->Prop}{b:Nat}{R:bc->Prop}(h:∀μ,R μ):pK w F b b (fun _=>[]) R:=⟨fun _=>0,fun _=>none,uv.nil F b,fun _ _ k o ab=>by simp[ae]at ab,fun μ _=>h μ⟩
mutual
def JM{ε ε':Nat->Nat}:∀(p:af) (b:Nat),(∀m,b<=m->m<b+bF p->ε m=ε' m)->dR ε b p=dR ε' b p
 | .slice sz t (x::xs),b,h=>by simp only[bF]at h;simp only[dR];rw[h b Ω Ω,JM x (b+1) fun m J U=>h m Ω Ω,FD xs (b+1+bF x) fun m J U=>h m Ω Ω]
 | .agg cs,b,h=>by simp only[dR,bF]at h⊢;exact FD cs b h
 | .slice _ _ [],_,_=>rfl
 | .int _ _,_,_=>rfl
 | .bool _,_,_=>rfl
 | .str _,_,_=>rfl
 | .junk,_,_=>rfl
 | .ptr _ _,_,_=>rfl
 | .eptr _,_,_=>rfl
 | .iface _ _,_,_=>rfl
 | .nilp,_,_=>rfl
 | .tuple _,_,_=>rfl
 | .func _ _,_,_=>rfl
 | .gmap _,_,_=>rfl
 | .row _ _ _,_,_=>rfl
 | .rptr _ _ _ _ _,_,_=>rfl
 | .hdm _ _,_,_=>rfl
 | .hdi _ _ _,_,_=>rfl
 | .cst _,_,_=>rfl
def FD{ε ε':Nat->Nat}:∀(a:List af) (b:Nat),(∀m,b<=m->m<b+da a->ε m=ε' m)->gN ε b a=gN ε' b a
 |[],_,_=>rfl
 |x::xs,b,h=>by simp only[da]at h;simp only[gN];rw[JM x b fun m J U=>h m Ω Ω,FD xs (b+bF x) fun m J U=>h m Ω Ω]
end
def pK.two{w:World}{F d c:Nat->Prop}{x:af}{xs:List af}{b:Nat}{i h R:bc->Prop}(J:pK w d b (b+bF x) (fun ε=>dR ε b x) i)(U:pK w c (b+bF x) (b+bF x+da xs) (fun ε=>gN ε (b+bF x) xs) h)
  (f1:∀b,d b->F b) (f2:∀b,c b->F b) (o:∀b,d b->¬c b) (bs:∀μ,i μ->h μ->R μ):pK w F b (b+(bF x+da xs)) (fun ε=>dR ε b x++gN ε (b+bF x) xs) R:=by
 obtain⟨ε1,k,e,a2,a3⟩:=J;obtain⟨ε2,j,f,n,l⟩:=U;refine⟨fun m=>if m<b+bF x then ε1 m else ε2 m,wx (b+bF x) k j,by rw[<-Nat.add_assoc];exact e.join f Ω Ω f1 f2 o,?_,fun μ g=>bs μ (a3 μ fun m y a=>g m y (Xy e a)) (l μ fun m y a=>g m y (Xz f a))⟩;refine vG.app ?_ ?_
 ·rw[JM (ε':=ε1) x b fun m J U=>by rw[if_pos U]];exact a2.sub fun m y a=>Xy e a
 ·rw[FD (ε':=ε2) xs (b+bF x) fun m J U=>by rw[if_neg Ω]];exact n.sub fun m y a=>Xz f a
mutual
def QG{w:World}{A:Nat->Nat->Prop}:∀(p:af) (F:Nat->Prop) (v:Value) (b:Nat),c0 true w A F p v->pK w F b (b+bF p) (fun ε=>dR ε b p) fun μ=>aV w μ (dv b p) v
 | .int k n,F,v,b,h=>pK.flat fun μ=>by simpa only[c0,dv,aV]using h
 | .bool _,F,v,b,h=>pK.flat fun μ=>by simpa only[c0,dv,aV]using h
 | .str s,F,v,b,h=>pK.flat fun μ=>by simpa only[c0,dv,aV]using h
 | .slice sz tag [],F,v,b,h=>pK.flat fun μ=>by simp only[c0]at h;obtain⟨a,cap,J,U,t,_⟩:=h;simp only[dv,aV];exact⟨⟨a,cap,J,U,t,.inl trivial⟩,fun e=>(by cases e),fun _ e=>(by cases e),fun _ _ e=>(by cases e),fun _ e=>(by cases e)⟩
 | .agg cs,F,v,b,h=>by simp only[c0]at h;obtain⟨us,rfl,U⟩:=h;obtain⟨ε,ω,d,a2,a3⟩:=aci cs F us.toList b U;exact⟨ε,ω,d,a2,fun μ j=>by simp only[dv,aV];exact⟨us,rfl,a3 μ j⟩⟩
 | .slice sz tag (x::xs),F,v,b,h=>by
  simp only[c0]at h;obtain⟨a,cap,J,U,t,E⟩:=h;rcases E with E|⟨g,off,us,G,rfl,X,O,W,V,N⟩
  ·cases E
  obtain⟨rfl,gj,el,l⟩:=V trivial;obtain⟨ε,ω,d,a2,a3⟩:=ach sz (x::xs) G us (b+1) N;have hlen:=Vy N;have Q:¬G g:=fun be=>(O g be).2 trivial rfl;have R:∃cur,w.heap[g]? =some (.cells cur el (0,0))/\cur.size=cap*sz:=by
   unfold shape at l;split at l
   ·rename_i cur gJ fz ax;simp only[dU,jn]at l;obtain⟨c,rfl,rfl⟩:=l;exact⟨cur,ax,c⟩
   ·cases l
  obtain⟨cur,ax,M⟩:=R;have hle:(x::xs).length*sz<=cur.size:=by rw[M];exact r2 _ U
  have Y:cur.toList.take ((x::xs).length*sz)=us:=by
   apply List.ext_getElem?;intro i;rw[List.getElem?_take];by_cases hi:i<(x::xs).length*sz
   ·rw[if_pos hi];obtain⟨u,hu⟩:∃u,us[i]? =some u:=⟨_,cl (by rw[hlen];exact hi)⟩;have H:=(u4 W hu).2;simp only[World.cell?,Nat.zero_add,ax,lH,hQ,if_false]at H;rw[hu];simpa using H
   ·rw[if_neg hi,q4 (by rw[hlen];omega)]
  have B:∀m y,ω m=some y->m≠b:=fun m y hm e=>by have:=(d.dom m).1 (by rw[hm];rfl);omega
  refine⟨fun m=>if m=b then el else ε m,fun m=>if m=b then some ((x::xs).length,v)else ω m,?_,?_,?_⟩
  ·refine⟨fun m=>?_,fun m n u hm=>?_,fun m K n n' u L bl hm q z r=>?_⟩
   ·simp only[bF];by_cases e:m=b
    ·subst e;simp;omega
    ·rw[if_neg e,d.dom];simp only[da];omega
   ·split at hm
    ·cases hm;exact⟨g,by rw[J];rfl,X⟩
    ·obtain⟨bl,c,f⟩:=d.blk m n u hm;exact⟨bl,c,(O bl f).1⟩
   ·split at hm<;>split at q
    ·rename_i c f;rw[c,f]
    ·cases hm;obtain⟨_,c,f⟩:=d.blk K n' L q;rw[r]at c;cases c;rw[J]at z;cases z;exact absurd f Q
    ·cases q;obtain⟨_,c,f⟩:=d.blk m n u hm;rw[z]at c;cases c;rw[J]at r;cases r;exact absurd f Q
    ·exact d.inj m K n n' u L bl hm q z r
  ·intro μ j k o ab;have P:∀m y,ω m=some y->μ.ow (.obj m)=some y:=fun m y hm=>j m y ((if_neg (B m y hm)).trans hm);simp only[dR,ae]at ab;split at ab
   ·rename_i Z;subst Z;cases ab;refine⟨v,us,?_,⟨by rw[hlen];rfl,.inr ⟨g,cap,cur,J,Nat.zero_le _,by simpa using ax,U,t.1,M,Y⟩⟩,_,rfl,by simp[o6],?_⟩
    ·exact j b _ Ψ
    ·exact(a3 μ P)
   ·have S:(dR (fun m=>if m=b then el else ε m) (b+1) x++gN (fun m=>if m=b then el else ε m) (b+1+bF x) xs)=gN ε (b+1) (x::xs):=by simp only[gN];rw[JM (ε':=ε) x (b+1) fun m J _=>by rw[if_neg Ω],FD (ε':=ε) xs (b+1+bF x) fun m J _=>by rw[if_neg Ω]]
    rw[S]at ab;exact a2 μ P k o ab
  ·intro μ j;simp only[dv,aV];exact⟨⟨g,cap,J⟩,t.2,(x::xs).length,v,j b _ Ψ,dP _,fun _=>rfl⟩
 | .junk,_,_,_,h=>by simp[c0]at h
 | .ptr _ _,_,_,_,h=>by simp[c0]at h
 | .eptr _,_,_,_,h=>by simp[c0]at h
 | .iface _ _,_,_,_,h=>by simp[c0]at h
 | .nilp,_,_,_,h=>by simp[c0]at h
 | .tuple _,_,_,_,h=>by simp[c0]at h
 | .func _ _,_,_,_,h=>by simp[c0]at h
 | .gmap _,_,_,_,h=>by simp[c0]at h
 | .row _ _ _,_,_,_,h=>by simp[c0]at h
 | .rptr _ _ _ _ _,_,_,_,h=>by simp[c0]at h
 | .hdm _ _,_,_,_,h=>by simp[c0]at h
 | .hdi _ _ _,_,_,_,h=>by simp[c0]at h
 | .cst _,_,_,_,h=>by simp[c0]at h
def aci{w:World}{A:Nat->Nat->Prop}:∀(cs:List af) (F:Nat->Prop) (us:List Value) (b:Nat),kD true w A F cs us->pK w F b (b+da cs) (fun ε=>gN ε b cs) fun μ=>cY w μ (fL b cs) us
 |[],F,us,b,h=>pK.flat fun μ=>by simpa only[kD,fL,cY]using h
 |c::cs,F,us,b,h=>by simp only[kD]at h;obtain⟨u,a,e,d,rfl,⟨f1,f2,f3⟩,⟨g1,g2⟩,g3⟩:=h;simp only[da,gN,fL];exact(QG c e u b g1).two (aci cs d a (b+bF c) g3) f1 f2 (f3 trivial) fun μ g f=>by simp only[cY];exact⟨u,a,rfl,⟨g,g2⟩,f⟩
def ach{w:World}{A:Nat->Nat->Prop}(sz:Nat):∀(cs:List af) (F:Nat->Prop) (us:List Value) (b:Nat),jW true w A F sz cs us->pK w F b (b+da cs) (fun ε=>gN ε b cs) fun μ=>dw w μ sz (fL b cs) us
 |[],F,us,b,h=>pK.flat fun μ=>by simpa only[jW,fL,dw]using h
 |c::cs,F,us,b,h=>by simp only[jW]at h;obtain⟨u,a,e,d,rfl,⟨f1,f2,f3⟩,⟨g1,g2,g4⟩,g3⟩:=h;simp only[da,gN,fL];exact(QG c e u b g1).two (ach sz cs d a (b+bF c) g3) f1 f2 (f3 trivial) fun μ g f=>by simp only[dw];exact⟨u,a,rfl,⟨g,g2,g4⟩,f⟩
end
mutual
def cN:af->Prop
 | .int _ _=>True
 | .bool _=>True
 | .str _=>True
 | .slice sz _ xs=>0<sz/\dX xs
 | .agg cs=>dX cs
 |_=>er
def dX:List af->Prop
 |[]=>True
 |x::xs=>cN x/\dX xs
end
def xg{α:Type}(f:α->af):∀l:List α,dX (l.map f)↔∀x∈l,cN (f x)
 |[]=>by simp[dX]
 |x::l=>by simp[dX,xg f l]
mutual
def LQ{w:World}{ν:bc}{F:Nat->Prop}(f:∀b o,ν.A b o->F b):∀(p:af) (v:Value),aV w ν p v->cN p->c0 false w ν.A F (b7 p) v
 | .int k n,v,h,_=>by simpa only[aV,b7,c0]using h
 | .bool b,v,h,_=>by simpa only[aV,b7,c0]using h
 | .str s,v,h,_=>by simpa only[aV,b7,c0]using h
 | .slice sz tag xs,v,h,d=>by
  simp only[aV]at h;simp only[cN]at d;obtain⟨⟨a,cap,J,U,m,t⟩,_⟩:=h;simp only[b7,c0,nG];refine⟨a,cap,J,U,m,?_⟩;rcases t with rfl|⟨b,off,us,q,j,g⟩
  ·exact .inl rfl
  ·cases xs with
   |nil=>exact .inl rfl
   |cons x xs=>
    have l:=rN g;have r:F b:=by
     cases us with
     |nil=>have i:0<(x::xs).length*sz:=Nat.mul_pos Ψ d.1;rw[<-l]at i;simp at i
     |cons u us=>exact f b _ j.1.1
    exact .inr ⟨b,off,us,F,q,r,fun c ax=>⟨ax,fun e=>(by cases e)⟩,j,fun e=>(by cases e),Ur f sz _ us g d.2⟩
 | .agg cs,v,h,d=>by simp only[aV,cN,b7,c0]at h d⊢;obtain⟨us,J,U⟩:=h;exact⟨us,J,Us f cs _ U d⟩
 | .junk,_,_,d=>by simp[cN]at d
 | .ptr _ _,_,_,d=>by simp[cN]at d
 | .eptr _,_,_,d=>by simp[cN]at d
 | .iface _ _,_,_,d=>by simp[cN]at d
 | .nilp,_,_,d=>by simp[cN]at d
 | .tuple _,_,_,d=>by simp[cN]at d
 | .func _ _,_,_,d=>by simp[cN]at d
 | .gmap _,_,_,d=>by simp[cN]at d
 | .row _ _ _,_,_,d=>by simp[cN]at d
 | .rptr _ _ _ _ _,_,_,d=>by simp[cN]at d
 | .hdm _ _,_,_,d=>by simp[cN]at d
 | .hdi _ _ _,_,_,d=>by simp[cN]at d
 | .cst _,_,_,d=>by simp[cN]at d
def Us{w:World}{ν:bc}{F:Nat->Prop}(d:∀b o,ν.A b o->F b):∀(cs:List af) (us:List Value),cY w ν cs us->dX cs->kD false w ν.A F (cf cs) us
 |[],us,h,_=>by simpa only[cY,cf,kD]using h
 |c::cs,us,h,a=>by simp only[cY,dX,cf,kD]at h a⊢;obtain⟨u,f,J,⟨U,g⟩,i⟩:=h;exact⟨u,f,F,F,J,⟨fun _ h=>h,fun _ h=>h,fun e=>(by cases e)⟩,⟨LQ d c u U a.1,g⟩,Us d cs f i a.2⟩
def Ur{w:World}{ν:bc}{F:Nat->Prop}(d:∀b o,ν.A b o->F b)(sz:Nat):∀(cs:List af) (us:List Value),dw w ν sz cs us->dX cs->jW false w ν.A F sz (cf cs) us
 |[],us,h,_=>by simpa only[dw,cf,jW]using h
 |c::cs,us,h,a=>by simp only[dw,dX,cf,jW]at h a⊢;obtain⟨u,f,J,⟨U,g⟩,i⟩:=h;exact⟨u,f,F,F,J,⟨fun _ h=>h,fun _ h=>h,fun e=>(by cases e)⟩,⟨LQ d c u U a.1,g⟩,Ur d sz cs f i a.2⟩
end
def Yo{w:World}{μ:bc}{k:aB}{sz:Nat}{tag:jE}{ys:List af}{v:Value}(h:c0 false w μ.A (μ.tr k 0) (.slice sz tag ys) v)(a:cf ys=ys):aV w μ (.slice sz (.lo k) ys) v:=by have J:=Hq (ν:=μ) (fun _ _ h=>h) _ _ _ h;simp only[b7,a]at J;simp only[aV]at J⊢;refine⟨J.1,fun e=>(by cases e),fun _ e=>(by cases e),fun _ _ e=>(by cases e),fun bt e=>?_⟩;cases e;simp only[c0]at h⊢;exact h
mutual
def lB:af->af
 | .int k n=>.int k n
 | .bool b=>.bool b
 | .str s=>.str s
 | .slice sz _ xs=>.slice sz (.lo ef) (cf xs)
 | .agg cs=>.agg (yp cs)
 | .ptr k o=>.ptr k o
 | .nilp=>.nilp
 |_=>.junk
def yp:List af->List af
 |[]=>[]
 |x::xs=>lB x::yp xs
end
mutual
def yq:af->Prop
 | .slice sz _ xs=>0<sz/\dX xs
 | .agg cs=>Am cs
 |_=>True
def Am:List af->Prop
 |[]=>True
 |x::xs=>yq x/\Am xs
end
def CN(ν:bc):bc:={ν with tr:=fun k j b=>k=ef/\j=0/\∃o,ν.A b o}
mutual
def abE{w:World}{ν:bc}:∀(p:af) (v:Value),aV w ν p v->yq p->aV w (CN ν) (lB p) v
 | .int k n,v,h,_=>by simpa only[aV,lB]using h
 | .bool b,v,h,_=>by simpa only[aV,lB]using h
 | .str s,v,h,_=>by simpa only[aV,lB]using h
 | .slice sz tag xs,v,h,a=>by have J:=LQ (F:=fun b=> ∃o,ν.A b o) (fun b o h=>⟨o,h⟩) _ v h (by simpa only[cN,yq]using a);simp only[lB];refine Yo (μ:=CN ν) (tag:= .no) ?_ (vl xs);simp only[b7]at J;exact vX (fun _ _ h=>⟨h,rfl⟩) (fun _ _ _=>rfl) _ _ _ v (fun b c=>⟨rfl,rfl,c⟩) J
 | .agg cs,v,h,a=>by simp only[aV,lB,yq]at h a⊢;obtain⟨us,J,U⟩:=h;exact⟨us,J,Qd cs _ U a⟩
 | .ptr k o,v,h,_=>by simp only[aV,lB]at h⊢;exact h
 | .nilp,v,h,_=>by simp only[aV,lB]at h⊢;exact h
 | .junk,_,_,_=>by simp[lB,aV]
 | .eptr _,_,_,_=>by simp[lB,aV]
 | .iface _ _,_,_,_=>by simp[lB,aV]
 | .tuple _,_,_,_=>by simp[lB,aV]
 | .func _ _,_,_,_=>by simp[lB,aV]
 | .gmap _,_,_,_=>by simp[lB,aV]
 | .row _ _ _,_,_,_=>by simp[lB,aV]
 | .rptr _ _ _ _ _,_,_,_=>by simp[lB,aV]
 | .hdm _ _,_,_,_=>by simp[lB,aV]
 | .hdi _ _ _,_,_,_=>by simp[lB,aV]
 | .cst _,_,_,_=>by simp[lB,aV]
def Qd{w:World}{ν:bc}:∀(cs:List af) (us:List Value),cY w ν cs us->Am cs->cY w (CN ν) (yp cs) us
 |[],us,h,_=>by simpa only[cY,yp]using h
 |c::cs,us,h,a=>by simp only[cY,yp,Am]at h a⊢;obtain⟨u,b,J,⟨U,d⟩,e⟩:=h;exact⟨u,b,J,⟨abE c u U a.1,d⟩,Qd cs b e a.2⟩
end
def JS(l:List (Nat×af)):List (Nat×af):=l.map fun x=>(x.1,lB x.2)
def FH(l:List (aB×List af)):List (aB×List af):=l.map fun x=>(x.1,yp x.2)
def wU(st:bp):bp:=⟨JS st.t,FH st.b,[],st.n,ef::st.o⟩
def JR:List (Nat×af)->Prop
 |[]=>True
 |(_,p)::r=>yq p/\JR r
def JQ:List (aB×List af)->Prop
 |[]=>True
 |(_,cs)::r=>(gY cs=true/\Am cs)/\JQ r
def JP(st:bp):Prop:=ef∉st.o/\JR st.t/\JQ st.b
def Mv{f:af->af}(a:f .junk= .junk)(i:Nat):∀l:List (Nat×af),get i (l.map fun x=>(x.1,f x.2))=f (get i l)
 |[]=>by simp[get,a]
 |(j,p)::r=>by
  simp only[gV,get];split
  ·rfl
  ·exact Mv a i r
def IB{f:List af->List af}(k:aB):∀l:List (aB×List af),ae k (l.map fun x=>(x.1,f x.2))=(ae k l).map f
 |[]=>rfl
 |(j,p)::r=>by
  simp only[gV,ae];split
  ·rfl
  ·exact IB k r
def abD:∀{l:List (Nat×af)} (i:Nat),JR l->yq (get i l)
 |[],_,_=>by simp[get,yq]
 |(j,p)::r,i,h=>by
  simp only[get];split
  ·exact h.1
  ·exact abD i h.2
def abC:∀{l:List (aB×List af)} {k:aB} {cs:List af},JQ l->ae k l=some cs->gY cs=true/\Am cs
 |[],_,_,_,h=>by simp[ae]at h
 |(j,p)::r,k,cs,h,ab=>by
  simp only[ae]at ab;split at ab
  ·cases ab;exact h.1
  ·exact abC h.2 ab
def aqQ{C:fp}{st:bp}{a:Act}{w:World}{ν:bc}(h:c9 C st a w ν)(ax:JP st):c9 C (wU st) a w (CN ν):=by
 obtain⟨F,E,A⟩:=ax;obtain⟨x,y,_⟩:=h.new ef ⟨trivial,F⟩;have m:∀k cs,ae k (FH st.b)=some cs->∃c,ae k st.b=some c/\cs=yp c:=fun k cs ab=>by
  rw[FH,IB]at ab;cases s:ae k st.b with
  |none=>rw[s]at ab;cases ab
  |some c=>rw[s]at ab;cases ab;exact⟨c,rfl,rfl⟩
 have l:∀k,(ae k (FH st.b)).isSome->(ae k st.b).isSome:=fun k ab=>by obtain⟨cs,z⟩:=fx.1 ab;obtain⟨c,e,_⟩:=m k cs z;simp[e]
 refine⟨⟨h.good.alt,fun k cs ab=>?_,fun k bt bl J U=>h.good.inj k bt bl (l k J) (l bt U),fun g o be=>by simp[wU,ae]at be,fun g M n n' v v' bl be=>by simp[wU,ae]at be,fun g k n v bl be=>by simp[wU,ae]at be,h.good.one,fun bl H k j d=>?_⟩,
  ⟨h.fr.os,h.fr.tape,h.fr.output,h.fr.size,h.fr.block,h.fr.keep,h.fr.fresh,h.fr.obj,h.fr.obn,h.fr.row,h.fr.obr,fun k j bt dg b J U=>⟨J.1.trans U.1.symm,J.2.1.trans U.2.1.symm⟩,fun k j b d=>⟨.inl d.1,?_⟩,fun k j b d=>by rw[d.1];exact⟨x,y⟩,h.fr.sh⟩,h.defers,h.size,fun i=>?_,fun k ab=>?_⟩
 ·obtain⟨c,f,rfl⟩:=m k cs ab;obtain⟨bl,us,el,g1,g2,g3,g4,g5⟩:=h.good.box k c f;obtain⟨q,B⟩:=abC A f;rw[pj q]at g5;rw[pg q]at g4;have g6:=Qd c _ g5 B;have p:=wP g6;exact⟨bl,us,el,g1,g2,g3,by rw[pg p];exact g4,by rw[pj p];exact g6⟩
 ·obtain⟨_,_,o,ar⟩:=d;rcases H with⟨bt,f,t⟩|⟨g,n,v,f,_⟩
  ·obtain⟨c,u⟩:=fx.1 (l bt f);obtain⟨L,us,el,g1,g2,g3,_⟩:=h.good.box bt c u;rw[show(CN ν).bx bt=ν.bx bt from rfl,g1]at t;cases t;exact g3 o ar
  ·simp[wU,ae]at f
 ·obtain⟨_,_,o,ar⟩:=d;exact h.good.alt b o ar
 ·show aV w (CN ν) (get i (JS st.t)) _;rw[JS,Mv (by simp[lB])];exact abE _ _ (h.slot i) (abD i E)
 ·obtain⟨K,G⟩:=ab;have r:k≠ef/\k∉st.o:=by simpa[wU]using G
  obtain⟨m1,m2,_⟩:=h.new k ⟨K,r.2⟩;exact⟨m1,m2,fun j b d=>r.1 d.1⟩
end
section
open Go Go.RowKit
def Yd{w:World}{A a:Nat->Nat->Prop}{b:Nat}(c:∀o,A b o->a b o):∀(us:List Value) (off:Nat),kX w A b off us->kX w a b off us
 |[],_,_=>trivial
 |_::us,off,h=>⟨⟨c _ h.1.1,h.1.2⟩,Yd c us (off+1) h.2⟩
mutual
def Hp{t:Bool}{w:World}{A f:Nat->Nat->Prop}:∀(p:af) (F:Nat->Prop) (v:Value),(∀b o,F b->A b o->f b o)->c0 t w A F p v->c0 t w f F p v
 | .int k n,_,_,_,h=>by simp only[c0]at h⊢;exact h
 | .bool b,_,_,_,h=>by simp only[c0]at h⊢;exact h
 | .str s,_,_,_,h=>by simp only[c0]at h⊢;exact h
 | .slice sz tag xs,F,v,d,h=>by
  simp only[c0]at h⊢;obtain⟨a,cap,J,U,q,e⟩:=h;refine⟨a,cap,J,U,q,?_⟩;rcases e with e|⟨b,off,us,G,r,i,g,m,l,j⟩
  ·exact .inl e
  ·exact .inr ⟨b,off,us,G,r,i,g,Yd (fun o=>d b o i) _ _ m,l,VC sz xs G us (fun c o ax=>d c o (g c ax).1) j⟩
 | .agg cs,F,v,d,h=>by simp only[c0]at h⊢;obtain⟨us,J,U⟩:=h;exact⟨us,J,VD cs F _ d U⟩
 | .junk,_,_,_,h=>by simp[c0]at h
 | .ptr _ _,_,_,_,h=>by simp[c0]at h
 | .eptr _,_,_,_,h=>by simp[c0]at h
 | .iface _ _,_,_,_,h=>by simp[c0]at h
 | .nilp,_,_,_,h=>by simp[c0]at h
 | .tuple _,_,_,_,h=>by simp[c0]at h
 | .func _ _,_,_,_,h=>by simp[c0]at h
 | .gmap _,_,_,_,h=>by simp[c0]at h
 | .row _ _ _,_,_,_,h=>by simp[c0]at h
 | .rptr _ _ _ _ _,_,_,_,h=>by simp[c0]at h
 | .hdm _ _,_,_,_,h=>by simp[c0]at h
 | .hdi _ _ _,_,_,_,h=>by simp[c0]at h
 | .cst _,_,_,_,h=>by simp[c0]at h
def VD{t:Bool}{w:World}{A f:Nat->Nat->Prop}:∀(cs:List af) (F:Nat->Prop) (us:List Value),(∀b o,F b->A b o->f b o)->kD t w A F cs us->kD t w f F cs us
 |[],_,_,_,h=>by simp only[kD]at h⊢;exact h
 |c::cs,F,us,g,h=>by simp only[kD]at h⊢;obtain⟨u,i,e,d,J,⟨U,j,n⟩,⟨m,l⟩,k⟩:=h;exact⟨u,i,e,d,J,⟨U,j,n⟩,⟨Hp c e u (fun b o a=>g b o (U b a)) m,l⟩,VD cs d i (fun b o a=>g b o (j b a)) k⟩
def VC{t:Bool}{w:World}{A f:Nat->Nat->Prop}(sz:Nat):∀(cs:List af) (F:Nat->Prop) (us:List Value),(∀b o,F b->A b o->f b o)->jW t w A F sz cs us->jW t w f F sz cs us
 |[],_,_,_,h=>by simp only[jW]at h⊢;exact h
 |c::cs,F,us,g,h=>by simp only[jW]at h⊢;obtain⟨u,i,e,d,J,⟨U,j,n⟩,⟨m,l⟩,k⟩:=h;exact⟨u,i,e,d,J,⟨U,j,n⟩,⟨Hp c e u (fun b o a=>g b o (U b a)) m,l⟩,VC sz cs d i (fun b o a=>g b o (j b a)) k⟩
end
mutual
def jq(N:List (aB×Nat)):af->af
 | .int k n=>.int k n
 | .bool b=>.bool b
 | .str s=>.str s
 | .slice sz tag xs=>match tag with
  | .tr k j=>if(k,j)∈N then .junk else .slice sz (.tr k j) (cf xs)
  | .lo k=>if(k,0)∈N then .junk else .slice sz (.lo k) (cf xs)
  | .nil=>.slice sz .nil []
  |_=>match xs with
   |[]=>.slice sz .no []
   |_=>.junk
 | .agg cs=>.agg (nL N cs)
 | .tuple cs=>.tuple (nL N cs)
 | .ptr k o=>.ptr k o
 | .nilp=>.nilp
 |_=>.junk
def nL(N:List (aB×Nat)):List af->List af
 |[]=>[]
 |x::xs=>jq N x::nL N xs
end
def l1(ν:bc)(N:List (aB×Nat))(ω:Nat->bd (Nat×Value)):bc:={A:=fun b o=>ν.A b o/\¬ly ν N b,bx:=ν.bx,ow:=fun k=>match k with| .obj m=>(match ω m with|some x=>some x|none=>ν.ow k)|k=>ν.ow k,tr:=fun k j b=>ν.tr k j b/\(k,j)∉N}
section
variable {w:World} {ν:bc} {N:List (aB×Nat)} {ω:Nat->bd (Nat×Value)} (hL:∀k j bt dg b,ν.tr k j b->ν.tr bt dg b->k=bt/\j=dg)
include hL
theorem acg{k:aB}{j:Nat}(d:(k,j)∉N){b o:Nat}(c:ν.tr k j b)(a:ν.A b o):(l1 ν N ω).A b o:=by refine⟨a,?_⟩;rintro⟨bt,dg,J,U⟩;obtain⟨rfl,rfl⟩:=hL k j bt dg b c U;exact d J
mutual
theorem KT:∀(p:af) (v:Value),aV w ν p v->aV w (l1 ν N ω) (jq N p) v
 | .int k n,v,h=>by simpa only[aV,jq]using h
 | .bool b,v,h=>by simpa only[aV,jq]using h
 | .str s,v,h=>by simpa only[aV,jq]using h
 | .slice sz tag xs,v,h=>by
  simp only[aV]at h;obtain⟨⟨a,cap,J,U,r,t⟩,q,_,m,l⟩:=h;have i:xs=[]->aV w (l1 ν N ω) (.slice sz .no []) v:=fun e=>by subst e;simp only[aV];exact⟨⟨a,cap,J,U,r,.inl trivial⟩,fun e=>(by cases e),fun _ e=>(by cases e),fun _ _ e=>(by cases e),fun _ e=>(by cases e)⟩
  simp only[jq];cases tag with
  |tr k j=>
   simp only;split
   ·simp[aV]
   ·rename_i d;refine QJ (tag:= .no) ?_ (vl xs);refine vX (A:=(l1 ν N ω).A) (fun _ _ h=>⟨h,rfl⟩) (fun _ _ _=>rfl) _ (ν.tr k j) _ v (fun b c=>⟨c,d⟩) ?_;exact Hp _ _ v (fun b o c f=>acg hL d c f) (DQ .no v (m k j rfl))
  |lo k=>
   simp only;split
   ·simp[aV]
   ·rename_i d;refine Yo (tag:= .no) ?_ (vl xs);refine vX (A:=(l1 ν N ω).A) (fun _ _ h=>⟨h,rfl⟩) (fun _ _ _=>rfl) _ (ν.tr k 0) _ v (fun b c=>⟨c,d⟩) ?_;exact Hp _ _ v (fun b o c f=>acg hL d c f) (DQ .no v (l k rfl))
  |nil=>have e:=q rfl;subst e;simp only[aV];exact⟨⟨none,0,rfl,Ψ,Ψ,Ψ⟩,Ψ,fun _ e=>(by cases e),fun _ _ e=>(by cases e),fun _ e=>(by cases e)⟩
  |no=>
   simp only;split
   ·exact i rfl
   ·simp[aV]
  |own g=>
   simp only;split
   ·exact i rfl
   ·simp[aV]
 | .agg cs,v,h=>by simp only[aV,jq]at h⊢;obtain⟨us,J,U⟩:=h;exact⟨us,J,KU cs _ U⟩
 | .tuple cs,v,h=>by simp only[aV,jq]at h⊢;obtain⟨us,J,U⟩:=h;exact⟨us,J,RE cs _ U⟩
 | .ptr k o,v,h=>by simp only[aV,jq]at h⊢;exact h
 | .nilp,v,h=>by simp only[aV,jq]at h⊢;exact h
 | .junk,_,_=>by simp[jq,aV]
 | .eptr _,_,_=>by simp[jq,aV]
 | .iface _ _,_,_=>by simp[jq,aV]
 | .func _ _,_,_=>by simp[jq,aV]
 | .gmap _,_,_=>by simp[jq,aV]
 | .row _ _ _,_,_=>by simp[jq,aV]
 | .rptr _ _ _ _ _,_,_=>by simp[jq,aV]
 | .hdm _ _,_,_=>by simp[jq,aV]
 | .hdi _ _ _,_,_=>by simp[jq,aV]
 | .cst _,_,_=>by simp[jq,aV]
theorem KU:∀(cs:List af) (us:List Value),cY w ν cs us->cY w (l1 ν N ω) (nL N cs) us
 |[],us,h=>by simpa only[cY,nL]using h
 |c::cs,us,h=>by simp only[cY,nL]at h⊢;obtain⟨u,a,J,⟨U,b⟩,d⟩:=h;exact⟨u,a,J,⟨KT c u U,b⟩,KU cs a d⟩
theorem RE:∀(cs:List af) (us:List Value),c7 w ν cs us->c7 w (l1 ν N ω) (nL N cs) us
 |[],us,h=>by simpa only[c7,nL]using h
 |c::cs,us,h=>by simp only[c7,nL]at h⊢;obtain⟨u,a,J,U,b⟩:=h;exact⟨u,a,J,KT c u U,RE cs a b⟩
end
end
end
section
open Go Go.RowKit
def sW(N:List (aB×Nat))(l:List (Nat×af)):List (Nat×af):=l.map fun x=>(x.1,jq N x.2)
def r9(N:List (aB×Nat))(l:List (aB×List af)):List (aB×List af):=l.map fun x=>(x.1,nL N x.2)
def z7:List (aB×List af)->Prop
 |[]=>True
 |(_,cs)::r=>gY cs=true/\z7 r
def Pm:∀{l:List (aB×List af)} {k:aB} {cs:List af},z7 l->ae k l=some cs->gY cs=true
 |[],_,_,_,h=>by simp[ae]at h
 |(j,p)::r,k,cs,h,ab=>by
  simp only[ae]at ab;split at ab
  ·cases ab;exact h.1
  ·exact Pm h.2 ab
def qe(st:bp)(s:Nat):af:=match get s st.t with
 | .ptr k 0=>(match ae k st.b with|some cs=>.agg cs|none=>.junk)
 |p=>p
def FW(base n:Nat):List aB:=(List.range' base n).map .obj
def rR(st:bp)(p:af)(base:Nat)(ε:Nat->Nat):bp:=⟨sW (tn p) st.t,r9 (tn p) st.b,dR ε base (b7 p),st.n,FW base (bF (b7 p))++st.o⟩
def rS(st:bp)(s base:Nat)(ε:Nat->Nat):bp:=match get s st.t with
 | .ptr k 0=>(match ae k st.b with|some cs=>{rR st (.agg cs) base ε with b:=cI k (fL base (cf cs)) (r9 (tn (.agg cs)) st.b)}|none=>rR st .junk base ε)
 |p=>{rR st p base ε with t:=put s (dv base (b7 p)) (sW (tn p) st.t)}
def yy(st:bp)(p:af)(base:Nat):Prop:=fs p/\(tn p).Nodup/\(∀m,.obj m∈st.o->m<base)/\z7 st.b
def YD{base n:Nat}{k:aB}:k∈FW base n↔∃m,k= .obj m/\base<=m/\m<base+n:=by simp only[FW,hb,List.mem_range'_1];exact⟨fun⟨m,h,e⟩=>⟨m,e.symm,h⟩,fun⟨m,e,h⟩=>⟨m,h,e.symm⟩⟩
def ad9(N:List (aB×Nat))(p:af):(match jq N p with| .hdm _ _=>false| .hdi _ _ _=>false|_=>true)=true:=by
 cases p with
 |slice sz tag xs=>
  cases tag with
  |tr k j=>by_cases e:(k,j)∈N<;>simp[jq,e]
  |lo k=>by_cases e:(k,0)∈N<;>simp[jq,e]
  |_=>cases xs<;>rfl
 |_=>rfl
def apx(N:List (aB×Nat)):∀cs,gY (nL N cs)=true
 |[]=>rfl
 |c::cs=>by have:=ad9 N c;simp only[nL];cases h:jq N c<;>simp_all[gY]
def aqC{C:fp}{st:bp}{a:Act}{w:World}{ν:bc}(h:c9 C st a w ν){k:aB}{cs cs':List af}(ab:ae k st.b=some cs)(i:gY cs=true)
  (p:∀bl us el,ν.bx k=some bl->w.heap[bl]? =some (.cells us el)->cY w ν cs us.toList->cY w ν cs' us.toList):c9 C {st with b:=cI k cs' st.b} a w ν:=by
 have d:∀j,(ae j (cI k cs' st.b)).isSome->(ae j st.b).isSome:=fun j c=>by
  rw[jj]at c;split at c
  ·rename_i e;subst e;simp[ab]
  ·exact c
 refine⟨⟨h.good.alt,fun j l c=>?_,fun j dg bl J U=>h.good.inj j dg bl (d j J) (d dg U),h.good.own,h.good.oinj,fun g j n v bl J U=>h.good.obx g j n v bl J (d j U),h.good.one,fun bl o=>h.good.otr bl (o.imp (fun⟨j,m,q⟩=>⟨j,d j m,q⟩) id)⟩,h.fr,h.defers,h.size,h.slot,h.new⟩;rw[jj]at c;split at c
 ·rename_i e;subst e;cases c;obtain⟨bl,us,el,g1,g2,g3,g4,g5⟩:=h.good.box k cs ab;rw[pj i]at g5;rw[pg i]at g4;have g6:=p bl us el g1 g4 g5;have f:=wP g6;exact⟨bl,us,el,g1,g2,g3,by rw[pg f];exact g4,by rw[pj f];exact g6⟩
 ·exact h.good.box j l c
def acf{C:fp}{st:bp}{a:Act}{w:World}{ν:bc}(h:c9 C st a w ν)(bA:∀b o,C.ν0.A b o->b<C.w0.heap.size){p:af}{v:Value}{base:Nat}(bM:aV w ν p v)(ax:yy st p base):
  ∃ε bn,c9 C (rR st p base ε) a w bn/\aV w bn (dv base (b7 p)) v/\bn.bx=ν.bx:=by
 obtain⟨bQ,cq,di,h4⟩:=ax;obtain⟨ε,ω,E,tr,R⟩:=QG (b7 p) _ v base (OY h.fr.trd p v bM bQ cq);have Z:∀m,base<=m->fresh st.n st.o (.obj m):=fun m hm=>⟨trivial,fun ab=>by have:=di m ab;omega⟩;have V:∀m x,ω m=some x->ν.bx (.obj m)=none/\ν.ow (.obj m)=none/\∀j b,¬ν.tr (.obj m) j b:=fun m x hm=>h.new _ (Z m ((E.dom m).1 (by rw[hm];rfl)).1);have z:∀m x,ω m=some x->(l1 ν (tn p) ω).ow (.obj m)=some x:=fun m x hm=>by simp only[l1,hm]
 have hold:∀k n u,ν.ow k=some (n,u)->(l1 ν (tn p) ω).ow k=some (n,u):=fun k n u ab=>by
  cases k with
  |loc m=>exact ab
  |obj m=>
   simp only[l1];cases hm:ω m with
   |none=>exact ab
   |some x=>rw[(V m x hm).2.1]at ab;cases ab
 have G:∀k n u,(l1 ν (tn p) ω).ow k=some (n,u)->ν.ow k=some (n,u)\/ ∃m,k= .obj m/\ω m=some (n,u):=fun k n u ab=>by
  cases k with
  |loc m=>exact .inl ab
  |obj m=>
   simp only[l1]at ab;cases hm:ω m with
   |none=>rw[hm]at ab;exact .inl ab
   |some x=>rw[hm]at ab;exact .inr ⟨m,rfl,by rw[<-ab];exact hm⟩
 have Y:∀bl,ly ν (tn p) bl->C.w0.heap.size<=bl:=fun bl ⟨k,j,d,f⟩=>by have ab:k≠ef:=Zf p bQ _ d;exact(h.fr.trb k j bl f).1.resolve_left ab
 have H:∀g o,ae g (dR ε base (b7 p))=some o->∃m,g= .obj m/\base<=m/\m<base+bF (b7 p)/\∃u us,ω m=some (o.n,u)/\w.ownsRow 0 o.el o.sz u o.n us/\∃xs,o.xs=some xs/\xs.length=o.n/\dw w (l1 ν (tn p) ω) o.sz xs us:=fun g o be=>by
  obtain⟨m,e,K,P⟩:=va ε _ base g o be;obtain⟨u,us,r,y,t⟩:=tr (l1 ν (tn p) ω) z g o be;subst e;refine⟨m,rfl,K,P,u,us,?_,y,t⟩;rcases G _ _ _ r with q|⟨M,q,hp⟩
  ·rw[(h.new _ (Z m K)).2.1]at q;cases q
  ·cases q;exact hp
 have hV:∀k cs,ae k (r9 (tn p) st.b)=some cs->∃s,ae k st.b=some s/\cs=nL (tn p) s:=fun k cs ab=>by
  rw[r9,IB]at ab;cases av:ae k st.b with
  |none=>rw[av]at ab;cases ab
  |some s=>rw[av]at ab;cases ab;exact⟨s,rfl,rfl⟩
 have F:∀k,(ae k (r9 (tn p) st.b)).isSome->(ae k st.b).isSome:=fun k ab=>by obtain⟨cs,dz⟩:=fx.1 ab;obtain⟨s,e,_⟩:=hV k cs dz;simp[e]
 have W:∀g n v bl,(ae g (dR ε base (b7 p))).isSome->(l1 ν (tn p) ω).ow g=some (n,v)->v.ownBlock=some bl->ly ν (tn p) bl:=fun g n v bl J U B=>by obtain⟨o,ar⟩:=fx.1 J;obtain⟨m,rfl,K,P,u,us,r,y,t⟩:=H g o ar;rw[z m _ r]at U;cases U;obtain⟨A,d,f⟩:=E.blk m _ _ r;rw[B]at d;cases d;exact f
 refine⟨ε,l1 ν (tn p) ω,⟨⟨fun bl o l=>h.good.alt bl o l.1,fun k cs ab=>?_,fun k bt bl J U=>h.good.inj k bt bl (F k J) (F bt U),fun g o be=>?_,fun g fE n n' v v' bl J U B L Q dh=>?_,fun g k n v bl J U B L Q=>?_,fun k=>?_,fun bl aL k j c=>?_⟩,
  ⟨h.fr.os,h.fr.tape,h.fr.output,h.fr.size,h.fr.block,fun b o l=>⟨⟨(h.fr.keep b o l).1,fun c=>?_⟩,(h.fr.keep b o l).2⟩,fun b o l=>h.fr.fresh b o l.1,h.fr.obj,h.fr.obn,fun m n u hm=>?_,h.fr.obr,fun k j bt dg b J U=>h.fr.trd k j bt dg b J.1 U.1,fun k j b c=>h.fr.trb k j b c.1,fun k j b c=>⟨(h.fr.trn k j b c.1).1,?_⟩,h.fr.sh⟩,h.defers,h.size,fun i=>?_,fun k ab=>?_⟩,R _ z,rfl⟩
 ·obtain⟨s,d,rfl⟩:=hV k cs ab;obtain⟨bl,us,el,g1,g2,g3,g4,g5⟩:=h.good.box k s d;have c2:=Pm h4 d;rw[pj c2]at g5;rw[pg c2]at g4;have g6:=KU (N:=tn p) (ω:=ω) h.fr.trd s _ g5;have hE:=wP g6;exact⟨bl,us,el,g1,g2,fun o l=>g3 o l.1,by rw[pg hE];exact g4,by rw[pj hE];exact g6⟩
 ·obtain⟨m,rfl,K,P,u,us,r,y,xs,t,dq,dK⟩:=H g o be;obtain⟨bl,d,f⟩:=E.blk m _ _ r;have dB:∀A,u.ownBlock=some A->∀j,¬(l1 ν (tn p) ω).A A j:=fun A c j l=>by rw[d]at c;cases c;exact l.2 f
  exact⟨u,us,z m _ r,y,fun A c=>⟨.inr (by rw[d]at c;cases c;exact Y _ f),fun j l=>absurd l (dB A c j)⟩,fun xs' ad=>by rw[t]at ad;cases ad;exact⟨dq,dK,dB⟩⟩
 ·obtain⟨o,ar⟩:=fx.1 J;obtain⟨o',h6⟩:=fx.1 U;obtain⟨m,rfl,_,_,u,us,r,_⟩:=H g o ar;obtain⟨M,rfl,_,_,eJ,b2,X,_⟩:=H fE o' h6;rw[z m _ r]at B;cases B;rw[z M _ X]at L;cases L;rw[E.inj m M _ _ _ _ bl r X Q dh]
 ·obtain⟨O,S,_,f⟩:=W g n v bl J B L;exact h.good.otr bl (.inl ⟨k,F k U,Q⟩) O S f
 ·rcases h.good.one k with J|J
  ·exact .inl J
  ·cases ab:(l1 ν (tn p) ω).ow k with
   |none=>exact .inr rfl
   |some x=>
    rcases G k x.1 x.2 ab with U|⟨m,rfl,U⟩
    ·rw[J]at U;cases U
    ·exact .inl (V m _ U).1
 ·rcases aL with⟨bt,d,f⟩|⟨g,n,v,d,f,bh⟩
  ·exact h.good.otr bl (.inl ⟨bt,F bt d,f⟩) k j c.1
  ·obtain⟨O,S,f1,f2⟩:=W g n v bl d f bh;obtain⟨rfl,rfl⟩:=h.fr.trd k j O S bl c.1 f2;exact c.2 f1
 ·have:=Y b c;have:=bA b o l;omega
 ·obtain⟨n',eJ,d,f⟩:=h.fr.row m n u hm;exact⟨n',eJ,hold _ _ _ d,f⟩
 ·have e:=(h.fr.trn k j b c.1).2;cases ab:(l1 ν (tn p) ω).ow k with
  |none=>rfl
  |some x=>
   rcases G k x.1 x.2 ab with U|⟨m,rfl,U⟩
   ·rw[e]at U;cases U
   ·exact absurd c.1 ((V m _ U).2.2 j b)
 ·show aV w (l1 ν (tn p) ω) (get i (sW (tn p) st.t)) _;rw[sW,Mv (by simp[jq])];exact KT h.fr.trd _ _ (h.slot i)
 ·obtain⟨r,y⟩:=ab;have t:k∉FW base (bF (b7 p))/\k∉st.o:=by simp only[rR,kc,not_or]at y;exact y
  obtain⟨m1,m2,m3⟩:=h.new k ⟨r,t.2⟩;refine⟨m1,?_,fun j b c=>m3 j b c.1⟩;cases ab:(l1 ν (tn p) ω).ow k with
  |none=>rfl
  |some x=>
   rcases G k x.1 x.2 ab with U|⟨m,rfl,U⟩
   ·rw[m2]at U;cases U
   ·exact absurd (YD.2 ⟨m,rfl,(E.dom m).1 (by rw[U];rfl)⟩) t.1
def arJ{C:fp}{st:bp}{a:Act}{w:World}{ν:bc}(h:c9 C st a w ν)(m:∀b o,C.ν0.A b o->b<C.w0.heap.size){s base:Nat}(ax:yy st (qe st s) base):∃ε bn,c9 C (rS st s base ε) a w bn:=by
 have f:qe st s=get s st.t->∃ε bn,c9 C {rR st (get s st.t) base ε with t:=put s (dv base (b7 (get s st.t))) (sW (tn (get s st.t)) st.t)} a w bn:=fun e=>by rw[e]at ax;obtain⟨ε,bn,j,i,_⟩:=acf h m (h.slot s) ax;exact⟨ε,bn,Jz j i⟩
 cases ab:get s st.t with
 |ptr k off=>
  cases off with
  |zero=>
   cases c:ae k st.b with
   |none=>simp only[qe,ab,c]at ax;exact absurd ax.1 (by simp[fs])
   |some cs=>
    have d:qe st s= .agg cs:=by simp only[qe,ab,c]
    have g:∀ε,rS st s base ε={rR st (.agg cs) base ε with b:=cI k (fL base (cf cs)) (r9 (tn (.agg cs)) st.b)}:=fun ε=>by simp only[rS,ab,c]
    rw[d]at ax;simp only[g];obtain⟨bl,us,el,g1,g2,g3,g4,g5⟩:=h.good.box k cs c;have l:=Pm ax.2.2.2 c;rw[pj l]at g5;rw[pg l]at g4;obtain⟨ε,bn,j,i,q⟩:=acf h m (p:= .agg cs) (v:= .agg us) (by simp only[aV];exact⟨us,rfl,g5⟩) ax;have n:ae k (r9 (tn (.agg cs)) st.b)=some (nL (tn (.agg cs)) cs):=by rw[r9,IB,c];rfl
    refine⟨ε,bn,aqC j n (apx _ _) fun z A y f1 f2 _=>?_⟩;rw[q,g1]at f1;cases f1;rw[g4]at f2;cases f2;simp only[dv,b7,aV]at i;obtain⟨x,r,u⟩:=i;cases r;exact u
  |succ off=>
   have d:qe st s=get s st.t:=by simp only[qe,ab]
   have g:∀ε,rS st s base ε={rR st (get s st.t) base ε with t:=put s (dv base (b7 (get s st.t))) (sW (tn (get s st.t)) st.t)}:=fun ε=>by simp only[rS,ab]
   simp only[g];exact f d
 |_=>
  have d:qe st s=get s st.t:=by simp only[qe,ab]
  have g:∀ε,rS st s base ε={rR st (get s st.t) base ε with t:=put s (dv base (b7 (get s st.t))) (sW (tn (get s st.t)) st.t)}:=fun ε=>by simp only[rS,ab]
  simp only[g];exact f d
end
section
open Go Go.RowKit
inductive aY where
 |of (c:C)
 |sq (c:C) (d:aY)
 |sl (d:aY)
 |th (s:Nat) (d:aY)
def pP(P:cH)(ob:List aB):aY->(Exit->bp->Prop)->bp->Prop
 | .of c,Q,st=>de P ob c Q st
 | .sq c d,Q,st=>de P ob c (fun e st'=>match e with| .normal=>pP P ob d Q st'|e=>Q e st') st
 | .sl d,Q,st=> ∃st',gn ob st st'/\JP st'/\pP P ob d Q (wU st')
 | .th s d,Q,st=> ∃st' base,gn ob st st'/\yy st' (qe st' s) base/\∀ε,pP P ob d Q (rS st' s base ε)
def y0(N:Nat)(aT:List (Nat×ev)):aY->Code->Bool
 | .of c,code=>hT N aT c code
 | .sq c d,.seq x y=>hT N aT c x&&y0 N aT d y
 | .sl d,code=>y0 N aT d code
 | .th _ d,code=>y0 N aT d code
 |_,_=>false
def G9{P:cH}(hm:P.follows .mixedOrders=true){aT:List (Nat×ev)}(f:hX P aT=true){X:fp}(i:∀b o,X.ν0.A b o->b<X.w0.heap.size):∀(d:aY) (code:Code) (Q:Exit->bp->Prop) (st:bp),y0 X.N aT d code=true->pP P X.ob d Q st->Kv P X code Q st
 | .of c,code,Q,st,ar,he=>qv hm f c code Q st ar he
 | .sq c d,code,Q,st,ar,he=>by
  cases code<;>try(simp[y0]at ar;done)
  rename_i k l;simp only[y0,cP]at ar;intro a w ν g;refine wp_seq ?_;refine wp_mono (qv hm f c k _ st ar.1 he a w ν g) fun e br w' m=>?_;obtain⟨st',bn,j,h⟩:=m;cases e with
  |normal=>exact G9 hm f i d l Q st' ar.2 j br w' bn h
  |_=>exact⟨st',bn,j,h⟩
 | .sl d,code,Q,st,ar,he=>fun a w ν g=>by obtain⟨st',J,U,n⟩:=he;exact G9 hm f i d code Q _ ar n a w _ (aqQ (g.weaker J) U)
 | .th s d,code,Q,st,ar,he=>fun a w ν g=>by obtain⟨st',base,hw,J,U⟩:=he;obtain⟨ε,bn,h⟩:=arJ (g.weaker hw) i J;exact G9 hm f i d code Q _ ar (U ε) a w bn h
def Hl(aT:List (Nat×ev))(d:aY)(ea:List bW)(OJ:Nat)(fn:Func):Bool:=
 match fn.body with
 |some code=>y0 fn.ntmps aT d code&&p9 aT ea fn.results.toList&& !(fn.name== "runtime.NumGoroutine")&&decide (OJ<=fn.ntmps)
 |none=>false
def bG.mkD{P:cH}(hm:P.follows .mixedOrders=true){aT:List (Nat×ev)}(c:hX P aT=true){f:FuncId}{fn:Func}(q:P.funcs[f]? =some fn){d:aY}{b:List bW}{n:Nat}(a:Hl aT d b n fn=true)
  {args:List af} (l:args.length<=n) {s:cS} (h:hW s) {Q:af->cS->Prop} (he:eM args->(∀j cs,ae j s.b=some cs->gY cs=true->eN cs)->pP P (cJ s) d (c5 b s Q) ⟨jb 0 args,s.b,s.e,0,cJ s⟩):bG P f args s Q:=by
 unfold Hl at a;split at a
 ·rename_i code o;simp only[cP,gy,sS]at a;obtain⟨⟨⟨J,U⟩,m⟩,p⟩:=a;exact bG.ofW c q o m U (kC l p) h fun X g e k r i=>G9 hm c k d code _ _ (by rw[g];exact J) (by rw[e];exact he r i)
 ·cases a
def bU.mkD{P:cH}(hm:P.follows .mixedOrders=true){aT:List (Nat×ev)}(e:hX P aT=true){f:FuncId}{fn:Func}(h:P.funcs[f]? =some fn){d:aY}{a:List bW}{n:Nat}(b:Hl aT d a n fn=true)
  {args:List af} (c:args.length<=n) {r:af} (g:az (fun _=>er) r) (he:eM args->pP P [] d (bZ a r) ⟨jb 0 args,[],[],0,[]⟩):bU P f args r:=by
 refine bG.mkD hm e h b c sE fun J _=>?_;rw[<-Rj g];exact he J
def Gq(P:cH)(ob:List aB)(d:aY)(Q:Exit->bp->Prop)(e:Exit)(st:bp):Prop:=match e with
 | .normal=>pP P ob d Q st
 |e=>Q e st
section
variable {P:cH} {ob:List aB} {st:bp} {Q:Exit->bp->Prop} {c:C} {d:aY}
@[simp]def atB:Gq P ob d Q .normal st=pP P ob d Q st:=rfl
@[simp]def atC:Gq P ob d Q .ret st=Q .ret st:=rfl
@[simp]def atA{n:Nat}:Gq P ob d Q (.exit n) st=Q (.exit n) st:=rfl
@[simp]def auD:pP P ob (.of c) Q st=de P ob c Q st:=rfl
@[simp]def auE:pP P ob (.sq c d) Q st=de P ob c (Gq P ob d Q) st:=by simp only[pP];congr 1
def agb(st':bp)(hw:gn ob st st')(ax:JP st')(h:pP P ob d Q (wU st')):pP P ob (.sl d) Q st:=⟨st',hw,ax,h⟩
def Ha{s:Nat}(st':bp)(base:Nat)(hw:gn ob st st')(ax:yy st' (qe st' s) base)(h:∀ε,pP P ob d Q (rS st' s base ε)):pP P ob (.th s d) Q st:=⟨st',base,hw,ax,h⟩
end
end
section
open Go Go.RowKit
def LD:∀(xs ys:List af),da (xs++ys)=da xs+da ys
 |[],ys=>by simp[da]
 |x::xs,ys=>by simp[da,LD xs ys];omega
def A5:∀(b:Nat) (xs ys:List af),fL b (xs++ys)=fL b xs++fL (b+da xs) ys
 |b,[],ys=>by simp[fL,da]
 |b,x::xs,ys=>by simp[fL,da,A5 _ xs ys,Nat.add_assoc]
def FC(ε:Nat->Nat):∀(b:Nat) (xs ys:List af),gN ε b (xs++ys)=gN ε b xs++gN ε (b+da xs) ys
 |b,[],ys=>by simp[gN,da]
 |b,x::xs,ys=>by simp[gN,da,FC ε _ xs ys,Nat.add_assoc]
mutual
def GZ(ε:Nat->Nat):∀(p:af) (b m:Nat),b<=m->m<b+bF p->∃o,ae (.obj m) (dR ε b p)=some o
 | .slice sz t (x::xs),b,m,J,U=>by
  simp only[bF]at U;simp only[dR,ae];by_cases e:b=m
  ·subst e;exact⟨_,if_pos rfl⟩
  ·rw[if_neg (by simpa using e),n4];by_cases a:m<b+1+bF x
   ·obtain⟨o,ar⟩:=GZ ε x (b+1) m Ω a;exact⟨o,by rw[ar]⟩
   ·obtain⟨o,ar⟩:=LL ε xs (b+1+bF x) m Ω Ω;cases c:ae (.obj m) (dR ε (b+1) x)with
    |some y=>exact⟨y,rfl⟩
    |none=>exact⟨o,ar⟩
 | .agg cs,b,m,J,U=>by simp only[bF,dR]at U⊢;exact LL ε cs b m J U
 | .slice _ _ [],_,_,J,U=>by simp only[bF]at U;omega
 | .int _ _,_,_,J,U=>by simp only[bF]at U;omega
 | .bool _,_,_,J,U=>by simp only[bF]at U;omega
 | .str _,_,_,J,U=>by simp only[bF]at U;omega
 | .junk,_,_,J,U=>by simp only[bF]at U;omega
 | .ptr _ _,_,_,J,U=>by simp only[bF]at U;omega
 | .eptr _,_,_,J,U=>by simp only[bF]at U;omega
 | .iface _ _,_,_,J,U=>by simp only[bF]at U;omega
 | .nilp,_,_,J,U=>by simp only[bF]at U;omega
 | .tuple _,_,_,J,U=>by simp only[bF]at U;omega
 | .func _ _,_,_,J,U=>by simp only[bF]at U;omega
 | .gmap _,_,_,J,U=>by simp only[bF]at U;omega
 | .row _ _ _,_,_,J,U=>by simp only[bF]at U;omega
 | .rptr _ _ _ _ _,_,_,J,U=>by simp only[bF]at U;omega
 | .hdm _ _,_,_,J,U=>by simp only[bF]at U;omega
 | .hdi _ _ _,_,_,J,U=>by simp only[bF]at U;omega
 | .cst _,_,_,J,U=>by simp only[bF]at U;omega
def LL(ε:Nat->Nat):∀(a:List af) (b m:Nat),b<=m->m<b+da a->∃o,ae (.obj m) (gN ε b a)=some o
 |[],b,m,J,U=>by simp only[da]at U;omega
 |x::xs,b,m,J,U=>by
  simp only[da]at U;simp only[gN];rw[n4];by_cases c:m<b+bF x
  ·obtain⟨o,ar⟩:=GZ ε x b m J c;exact⟨o,by rw[ar]⟩
  ·obtain⟨o,ar⟩:=LL ε xs (b+bF x) m Ω Ω;cases d:ae (.obj m) (dR ε b x)with
   |some y=>exact⟨y,rfl⟩
   |none=>exact⟨o,ar⟩
end
def B8{ε:Nat->Nat}{p:af}{b m:Nat}(h:m<b\/b+bF p<=m):ae (.obj m) (dR ε b p)=none:=by
 cases ab:ae (.obj m) (dR ε b p)with
 |none=>rfl
 |some o=>obtain⟨a,e,c,d⟩:=va ε p b _ o ab;cases e;omega
def Yp{ε:Nat->Nat}{p:List af}{b m:Nat}(h:m<b\/b+da p<=m):ae (.obj m) (gN ε b p)=none:=by
 cases ab:ae (.obj m) (gN ε b p)with
 |none=>rfl
 |some o=>obtain⟨a,e,c,d⟩:=B7 ε p b _ o ab;cases e;omega
def amo{ε:Nat->Nat}{l r:List af}{y:af}{b:Nat}{k:aB}{o:dW}(h:ae k (dR ε (b+da l) y)=some o):ae k (gN ε b (l++y::r))=some o:=by obtain⟨m,rfl,a,c⟩:=va ε y _ k o h;rw[FC,n4,Yp Ω];simp only[gN];rw[n4,h]
def amp{ε:Nat->Nat}{l r:List af}{y y':af}{b:Nat}(ax:bF y'=bF y){k:aB}{o:dW}(h:ae k (gN ε b (l++y'::r))=some o):
  ae k (dR ε (b+da l) y')=some o\/(ae k (dR ε (b+da l) y)=none/\ae k (dR ε (b+da l) y')=none/\ae k (gN ε b (l++y::r))=some o):=by
 obtain⟨m,rfl,c,d⟩:=B7 ε _ _ k o h;simp only[FC,gN,n4,ax]at h⊢;by_cases J:m<b+da l
 ·rw[B8 (p:=y) (.inl J),B8 (p:=y') (.inl J)];refine .inr ⟨rfl,rfl,?_⟩;rw[B8 (p:=y') (.inl J)]at h;exact h
 ·rw[Yp (p:=l) (.inr Ω)]at h⊢;by_cases U:m<b+da l+bF y
  ·obtain⟨o',a⟩:=GZ ε y' (b+da l) m Ω Ω;rw[a]at h⊢;exact .inl h
  ·rw[B8 (p:=y) (.inr Ω),B8 (p:=y') (.inr Ω)];rw[B8 (p:=y') (.inr Ω)]at h;exact .inr ⟨rfl,rfl,h⟩
end
section
open Go Go.RowKit
section
variable (c8:Int->List cU)
mutual
def dJ:af->Int->af×Int
 | .int a _,k=>(.int a k,k+1)
 | .str _,k=>(.str (c8 k),k+1)
 | .slice sz t xs,k=>(.slice sz t (bD xs k).1,(bD xs k).2)
 | .agg cs,k=>(.agg (bD cs k).1,(bD cs k).2)
 |p,k=>(p,k)
def bD:List af->Int->List af×Int
 |[],k=>([],k)
 |x::xs,k=>((dJ x k).1::(bD xs (dJ x k).2).1,(bD xs (dJ x k).2).2)
end
def kJ:∀(xs:List af) (k:Int),(bD c8 xs k).1.length=xs.length
 |[],k=>by simp[bD]
 |x::xs,k=>by simp[bD,kJ xs]
mutual
def Ud:∀(p:af) (k:Int),bF (dJ c8 p k).1=bF p
 | .int _ _,k=>by simp[dJ,bF]
 | .str _,k=>by simp[dJ,bF]
 | .slice _ _ [],k=>by simp[dJ,bD,bF]
 | .slice _ _ (x::xs),k=>by simp[dJ,bD,bF,Ud x,mz xs]
 | .agg cs,k=>by simp[dJ,bF,mz cs]
 | .bool _,k=>by simp[dJ]
 | .junk,k=>by simp[dJ]
 | .ptr _ _,k=>by simp[dJ]
 | .eptr _,k=>by simp[dJ]
 | .iface _ _,k=>by simp[dJ]
 | .nilp,k=>by simp[dJ]
 | .tuple _,k=>by simp[dJ]
 | .func _ _,k=>by simp[dJ]
 | .gmap _,k=>by simp[dJ]
 | .row _ _ _,k=>by simp[dJ]
 | .rptr _ _ _ _ _,k=>by simp[dJ]
 | .hdm _ _,k=>by simp[dJ]
 | .hdi _ _ _,k=>by simp[dJ]
 | .cst _,k=>by simp[dJ]
def mz:∀(a:List af) (k:Int),da (bD c8 a k).1=da a
 |[],k=>by simp[bD]
 |x::xs,k=>by simp[bD,da,Ud x,mz xs]
end
def IN:∀(xs ys:List af) (k:Int),bD c8 (xs++ys) k=((bD c8 xs k).1++(bD c8 ys (bD c8 xs k).2).1,(bD c8 ys (bD c8 xs k).2).2)
 |[],ys,k=>by simp[bD]
 |x::xs,ys,k=>by simp[bD,IN xs ys]
mutual
def amY:∀(p:af) (k:Int),k<=(dJ c8 p k).2
 | .int _ _,k=>by simp[dJ];omega
 | .str _,k=>by simp[dJ];omega
 | .slice _ _ xs,k=>by simp only[dJ];exact lX xs k
 | .agg cs,k=>by simp only[dJ];exact lX cs k
 | .bool _,k=>by simp[dJ]
 | .junk,k=>by simp[dJ]
 | .ptr _ _,k=>by simp[dJ]
 | .eptr _,k=>by simp[dJ]
 | .iface _ _,k=>by simp[dJ]
 | .nilp,k=>by simp[dJ]
 | .tuple _,k=>by simp[dJ]
 | .func _ _,k=>by simp[dJ]
 | .gmap _,k=>by simp[dJ]
 | .row _ _ _,k=>by simp[dJ]
 | .rptr _ _ _ _ _,k=>by simp[dJ]
 | .hdm _ _,k=>by simp[dJ]
 | .hdi _ _ _,k=>by simp[dJ]
 | .cst _,k=>by simp[dJ]
def lX:∀(a:List af) (k:Int),k<=(bD c8 a k).2
 |[],k=>by simp[bD]
 |x::xs,k=>by have J:=amY x k;have U:=lX xs (dJ c8 x k).2;simp only[bD];omega
end
end
end
section
open Go Go.RowKit
inductive jB:af->Prop
 |mk (a b:Int) (s:List cU) (ys:List af):(∀y∈ys,jB y)->jB (.agg [.int .i64 a,.int .i64 b,.str s,.slice 4 .no ys])
mutual
def CU:af->Nat
 | .slice _ _ xs=>qZ xs
 | .agg cs=>1+qZ cs
 |_=>0
def qZ:List af->Nat
 |[]=>0
 |x::xs=>CU x+qZ xs
end
def J7:∀{xs:List af} {x:af},x∈xs->CU x<=qZ xs
 |y::ys,x,h=>by
  rcases gI.1 h with rfl|h
  ·simp only[qZ];omega
  ·have:=J7 h;simp only[qZ];omega
def jB.inv{p:af}(h:jB p):∃a b s ys,p= .agg [.int .i64 a,.int .i64 b,.str s,.slice 4 .no ys]/\(∀y∈ys,jB y)/\CU p=1+qZ ys:=by
 cases h with
 |mk a b s ys h=>exact⟨a,b,s,ys,rfl,h,by simp[CU,qZ]⟩
def FE{ε:Nat->Nat}{p:af}{b:Nat}(k:aB):(ae k (dR ε b p)).isSome=true↔∃m,k= .obj m/\b<=m/\m<b+bF p:=by
 constructor
 ·intro h;obtain⟨o,ar⟩:=fx.1 h;exact va ε p b k o ar
 ·rintro⟨m,rfl,J,U⟩;obtain⟨o,ar⟩:=GZ ε p b m J U;rw[ar];rfl
def rng(b c:Nat)(k:aB):Prop:= ∃m,k= .obj m/\b<=m/\m<c
def CL{b c b0 a:Nat}(J:b0<=b)(U:c<=a)(k:aB)(h:rng b c k):rng b0 a k:=by obtain⟨m,e,d,f⟩:=h;exact⟨m,e,Ω,Ω⟩
mutual
def nA:∀(p:af) (b:Nat),cN p->az (rng b (b+bF p)) (dv b p)
 | .slice sz t [],b,h=>by simp[dv,az,aH]
 | .slice sz t (x::xs),b,h=>by simp only[dv,az,bF];exact⟨b,rfl,Ω,Ω⟩
 | .agg cs,b,h=>by simp only[dv,az,bF,cN]at h⊢;exact N1 cs b h
 | .int _ _,_,_=>by simp[dv,az]
 | .bool _,_,_=>by simp[dv,az]
 | .str _,_,_=>by simp[dv,az]
 | .junk,_,h=>by simp[cN]at h
 | .ptr _ _,_,h=>by simp[cN]at h
 | .eptr _,_,h=>by simp[cN]at h
 | .iface _ _,_,h=>by simp[cN]at h
 | .nilp,_,h=>by simp[cN]at h
 | .tuple _,_,h=>by simp[cN]at h
 | .func _ _,_,h=>by simp[cN]at h
 | .gmap _,_,h=>by simp[cN]at h
 | .row _ _ _,_,h=>by simp[cN]at h
 | .rptr _ _ _ _ _,_,h=>by simp[cN]at h
 | .hdm _ _,_,h=>by simp[cN]at h
 | .hdi _ _ _,_,h=>by simp[cN]at h
 | .cst _,_,h=>by simp[cN]at h
def N1:∀(a:List af) (b:Nat),dX a->aH (rng b (b+da a)) (fL b a)
 |[],b,h=>by simp[fL,aH]
 |x::xs,b,h=>by simp only[dX]at h;simp only[fL,aH,da];exact⟨tJ (CL Ω Ω) _ (nA x b h.1),ji (CL Ω Ω) _ (N1 xs _ h.2)⟩
end
def EM{S T:aB->Prop}(h:∀k,S k->T k){o:dW}(ab:dV S o):dV T o:=fun xs a=>ji h _ (ab xs a)
mutual
def N8{ε:Nat->Nat}:∀(p:af) (b:Nat),cN p->∀k o,ae k (dR ε b p)=some o->dV (rng b (b+bF p)) o
 | .slice sz t (x::xs),b,h,k,o,ab=>by
  simp only[cN]at h;simp only[dR,ae]at ab;simp only[bF];split at ab
  ·cases ab;intro ys a;cases a;have:=N1 (x::xs) (b+1) h.2;simp only[da,fL]at this;exact ji (CL Ω Ω) _ this
  ·have:=N7 (ε:=ε) (x::xs) (b+1) h.2 k o (by simpa only[gN]using ab);simp only[da]at this;exact EM (CL Ω Ω) this
 | .agg cs,b,h,k,o,ab=>by simp only[dR,bF,cN]at h ab⊢;exact N7 cs b h k o ab
 | .slice _ _ [],_,_,_,_,h=>by simp[dR,ae]at h
 | .int _ _,_,_,_,_,h=>by simp[dR,ae]at h
 | .bool _,_,_,_,_,h=>by simp[dR,ae]at h
 | .str _,_,_,_,_,h=>by simp[dR,ae]at h
 | .junk,_,h,_,_,_=>by simp[cN]at h
 | .ptr _ _,_,h,_,_,_=>by simp[cN]at h
 | .eptr _,_,h,_,_,_=>by simp[cN]at h
 | .iface _ _,_,h,_,_,_=>by simp[cN]at h
 | .nilp,_,h,_,_,_=>by simp[cN]at h
 | .tuple _,_,h,_,_,_=>by simp[cN]at h
 | .func _ _,_,h,_,_,_=>by simp[cN]at h
 | .gmap _,_,h,_,_,_=>by simp[cN]at h
 | .row _ _ _,_,h,_,_,_=>by simp[cN]at h
 | .rptr _ _ _ _ _,_,h,_,_,_=>by simp[cN]at h
 | .hdm _ _,_,h,_,_,_=>by simp[cN]at h
 | .hdi _ _ _,_,h,_,_,_=>by simp[cN]at h
 | .cst _,_,h,_,_,_=>by simp[cN]at h
def N7{ε:Nat->Nat}:∀(a:List af) (b:Nat),dX a->∀k o,ae k (gN ε b a)=some o->dV (rng b (b+da a)) o
 |[],b,h,k,o,ab=>by simp[gN,ae]at ab
 |x::xs,b,h,k,o,ab=>by
  simp only[dX]at h;simp only[gN,n4]at ab;simp only[da];cases J:ae k (dR ε b x)with
  |some y=>rw[J]at ab;cases ab;exact EM (CL Ω Ω) (N8 x b h.1 k _ J)
  |none=>rw[J]at ab;exact EM (CL Ω Ω) (N7 xs _ h.2 k _ ab)
end
abbrev c1(ε:Nat->Nat)(b:Nat)(p:af):cS:=⟨[],dR ε b p⟩
def Df{ε:Nat->Nat}{b:Nat}{p:af}(k:aB):aM (c1 ε b p) k↔rng b (b+bF p) k:=by unfold aM rng;rw[FE];simp[ae]
def KH(ε:Nat->Nat)(b:Nat)(p:af):hW (c1 ε b p):=by
 refine⟨fun m=>by simp[ae],fun m=>?_⟩;cases h:ae (.loc m) (dR ε b p)with
 |none=>rfl
 |some o=>obtain⟨a,e,_⟩:=va ε p b _ o h;cases e
def ot{ε:Nat->Nat}{b:Nat}{p:af}(h:cN p):eA (c1 ε b p):=⟨KH ε b p,fun k cs ab=>by simp[ae]at ab,fun k o ab=>EM (fun k ab=>(Df k).2 ab) (N8 p b h k o ab)⟩
def oZ{ε:Nat->Nat}{b:Nat}{p q:af}(h:bF q=bF p):Same (c1 ε b p) (c1 ε b q):=⟨fun k=>rfl,fun k=>by rw[q3,FE,FE,h]⟩
def adJ{ε:Nat->Nat}{b:Nat}{p:af}(h:cN p):az (aM (c1 ε b p)) (dv b p):=tJ (fun k ab=>(Df k).2 ab) _ (nA p b h)
def adI{ε:Nat->Nat}{b:Nat}{p:af}{k:aB}:k∈cJ (c1 ε b p)↔rng b (b+bF p) k:=by rw[<-Df (ε:=ε)];exact⟨NJ,fun h=>rJ h⟩
def CallDo.sub{P:cH}{n:Nat}{args:List af}{st:bp}{d:bd Nat}{K:bp->Prop}{ε:Nat->Nat}{b:Nat}{l r:List af}{y y' f:af}(s:cN y)(ax:bF y'=bF y)
  (t:bG P n args (c1 ε (b+da l) y) fun g i=>g=f/\i=c1 ε (b+da l) y')
  (he:∀k o,ae k (gN ε b (l++y::r))=some o->ae k st.e=some o) (ab:aH (rng (b+da l) (b+da l+bF y)) args)
  (h:∀a,(∀k o,ae k (gN ε b (l++y'::r))=some o->ae k a=some o)->(∀k,¬rng (b+da l) (b+da l+bF y) k->ae k a=ae k st.e)->K ⟨e7 d f st.t,st.b,a,st.n,st.o++cJ (c1 ε (b+da l) y')⟩):CallDo P n args st d K:=by
 refine CallDo.ob t (ot s) (fun k cs ab=>by simp[ae]at ab) (fun k o ab=>he k o (amo ab)) (ji (fun k ab=>(Df k).2 ab) _ ab) ?_;rintro g i ⟨rfl,rfl⟩;refine⟨oZ ax,?_⟩;simp only[C5,List.append_nil];refine h _ (fun k o ab=>?_) fun k ab=>?_
 ·rw[n4,tL];rcases amp ax ab with J|⟨J,U,q⟩
  ·have:(ae k (dR ε (b+da l) y)).isSome=true:=by have:=FE (ε:=ε) (p:=y') (b:=b+da l) k;rw[FE,<-ax,<-this,J];rfl
   rw[this];simp[J]
  ·rw[J];simp[he k o q]
 ·have J:ae k (dR ε (b+da l) y)=none:=by
   cases c:ae k (dR ε (b+da l) y)with
   |none=>rfl
   |some o=>exact absurd (va ε y _ k o c) ab
  have U:ae k (dR ε (b+da l) y')=none:=by
   cases c:ae k (dR ε (b+da l) y')with
   |none=>rfl
   |some o=>obtain⟨m,e,j,u⟩:=va ε y' _ k o c;exact absurd ⟨m,e,j,Ω⟩ ab
  rw[n4,tL,J,U];simp;cases ae k st.e<;>rfl
def gf.val{P:cH}{f:FuncId}{args:List af}{r:Nat->af}(h:gf P f args r)(ab:az (fun _=>er) (b7 (r 0)):=by simp[b7,az,aH]):bU P f args (b7 (r 0)):=by
 intro w ν bm J U B;have hm:∀(e:Ending) (w':World),(∃v d a bn,e= .returned v/\(d=r 0/\a=⟨[],[]⟩)/\aV w' bn d v/\Good (fun bl=>fC ν ⟨[],[]⟩ bl\/w.heap.size<=bl) w' bn a.b a.e/\A9 (some 0) bn a/\hW a/\pD ⟨w,ν,fC ν ⟨[],[]⟩,0,cJ ⟨[],[]⟩⟩ w' bn)->
   (∃v d a bn,e= .returned v/\(d=b7 (r 0)/\a=⟨[],[]⟩)/\aV w' bn d v/\Good (fun bl=>fC ν ⟨[],[]⟩ bl\/w.heap.size<=bl) w' bn a.b a.e/\pQ bn a/\hW a/\pD ⟨w,ν,fC ν ⟨[],[]⟩,0,cJ ⟨[],[]⟩⟩ w' bn):=by
  rintro e w' ⟨v,d,a,bn,t,⟨rfl,rfl⟩,a3,a4,a5,A,c⟩;have q:∀k,ν.bx k=none:=fun k=>(U k).1 rfl;have s:∀k,ν.ow k=none:=fun k=>(U k).2.1 rfl;refine⟨v,_,⟨[],[]⟩,bn.cut fun _=>er,t,⟨rfl,rfl⟩,vi (oi.cut _ w' bn) _ _ ab (ym _ v a3),a4.cut (fun k cs i=>by simp[ae]at i) (fun k o i=>by simp[ae]at i) (fun bl y _=>y),fun k=>?_,sE,
   ⟨c.os,c.tape,c.output,c.size,c.block,c.keep,c.fresh,fun n b g=>?_,c.obn,fun m n u hm=>?_,c.obr,fun k j bt dg b l _=>l.1.elim,fun k j b g=>g.1.elim,fun k j b g=>g.1.elim,c.sh⟩⟩
  ·obtain⟨l,z,x⟩:=bc.cut_no (ν:=bn) (S:=fun _=>er) (k:=k) (fun h=>h);exact⟨fun _=>l,fun _=>z,x⟩
  ·rw[q]at g;cases g
  ·rw[s]at hm;cases hm
 rcases h 0 w ν bm J U B with⟨p,ax⟩|⟨v,w',ax,E⟩
 ·exact .inl ⟨p,ax.mono hm⟩
 ·exact .inr ⟨v,w',ax,hm _ _ E⟩
def j0{α:Type}(f:α->Nat->af)(l:List (α×Nat)):List af:=l.map fun p=>f p.1 p.2
@[simp]def awN{α:Type}(f:α->Nat->af):j0 f []=[]:=rfl
@[simp]def awM{α:Type}(f:α->Nat->af)(l:List (α×Nat)):(j0 f l).length=l.length:=by simp[j0]
@[simp]def awO{α:Type}(f:α->Nat->af)(l:List (α×Nat))(x:α)(n:Nat):j0 f (l++[(x,n)])=j0 f l++[f x n]:=by simp[j0]
def Cm(n:Nat):aB.loc n≠ef:=fun e=>by unfold ef at e;cases e
structure q8 {α:Type} (n:Nat) (l:List (α×Nat)):Prop where
 nd:(l.map (·.2)).Nodup
 lt:∀p∈l,p.2<n
def q8.nil{α:Type}(n:Nat):q8 n ([]:List (α×Nat)):=⟨Ψ,Ψ⟩
def q8.snoc{α:Type}{n m n':Nat}{l:List (α×Nat)}(h:q8 n l)(x:α)(J:n<=m)(U:m<n'):q8 n' (l++[(x,m)]):=by
 refine⟨?_,fun p c=>?_⟩
 ·rw[List.map_append,r1];refine⟨h.nd,Ψ,fun a f b d e=>?_⟩;simp at d;subst d;obtain⟨p,c,rfl⟩:=hb.1 f;have:=h.lt p c;omega
 ·rcases kc.1 c with c|c
  ·have:=h.lt p c;omega
  ·simp at c;subst c;exact U
structure nJ {α:Type} (f:α->Nat->af) (g:α->af):Prop where
 tn:∀x n,tn (f x n)=[(.loc n,0)]
 ok:∀x n,fs (f x n)
 st:∀x n,b7 (f x n)=g x
 ki:∀(S:aB->Prop) x n,S (.loc n)->az S (f x n)
def nJ.tnL{α:Type}{f:α->Nat->af}{g:α->af}(h:nJ f g):∀(l:List (α×Nat)),Pv.tnL (j0 f l)=(l.map (·.2)).map fun m=>(aB.loc m,0)
 |[]=>by simp[j0,Pv.tnL]
 |x::l=>by have:=h.tnL l;unfold j0 at this;simp[j0,Pv.tnL,h.tn,this]
def nJ.nodup{α:Type}{f:α->Nat->af}{g:α->af}(h:nJ f g){n:Nat}{l:List (α×Nat)}(d:q8 n l):(Pv.tnL (j0 f l)).Nodup:=by rw[h.tnL];refine ayk _ (fun a b c e=>c ?_) d.nd;simpa using e
def nJ.okL{α:Type}{f:α->Nat->af}{g:α->af}(h:nJ f g):∀(l:List (α×Nat)),gb (j0 f l)
 |[]=>by simp[j0,gb]
 |x::l=>by have:=h.okL l;unfold j0 at this;simp[j0,gb,h.ok,this]
def nJ.stL{α:Type}{f:α->Nat->af}{g:α->af}(h:nJ f g):∀(l:List (α×Nat)),cf (j0 f l)=(l.map (·.1)).map g
 |[]=>by simp[j0,cf]
 |x::l=>by have:=h.stL l;unfold j0 at this;simp[j0,cf,h.st,this]
def nJ.kiL{α:Type}{f:α->Nat->af}{g:α->af}(h:nJ f g){S:aB->Prop}:∀(l:List (α×Nat)),(∀p∈l,S (.loc p.2))->aH S (j0 f l)
 |[],_=>by simp[j0,aH]
 |x::l,dF=>by have:=h.kiL l fun p a=>dF p (by simp[a]);unfold j0 at this;simp only[j0,gV,aH];exact⟨h.ki S x.1 x.2 (dF x Ψ),this⟩
def nJ.kin{α:Type}{f:α->Nat->af}{g:α->af}(h:nJ f g){n m:Nat}{l:List (α×Nat)}(b:q8 n l)(hm:n<=m)(o:List aB):aH (fun k=> ¬fresh m o k) (j0 f l)=True:=h1 (h.kiL l fun p a c=>by have J:=b.lt p a;have U:m<=p.2:=c.1;omega)
def E6{α:Type}{f:α->af}(h:∀x,fs (f x)):∀l:List α,gb (l.map f)
 |[]=>trivial
 |x::l=>⟨h x,E6 h l⟩
def Kb{α:Type}{f:α->af}(h:∀x,tn (f x)=[]):∀l:List α,tnL (l.map f)=[]
 |[]=>rfl
 |x::l=>by simp[tnL,h x,Kb h l]
def LO:∀(a b:List af),dX (a++b)↔dX a/\dX b
 |[],b=>by simp[dX]
 |x::a,b=>by simp[dX,LO a b,and_assoc]
mutual
def Ut(c8:Int->List cU):∀(p:af) (k:Int),cN p->cN (dJ c8 p k).1
 | .int _ _,_,_=>by simp[dJ,cN]
 | .bool _,_,_=>by simp[dJ,cN]
 | .str _,_,_=>by simp[dJ,cN]
 | .slice sz _ xs,k,h=>by simp only[dJ,cN]at h⊢;exact⟨h.1,rb c8 xs k h.2⟩
 | .agg cs,k,h=>by simp only[dJ,cN]at h⊢;exact rb c8 cs k h
 | .junk,_,h=>by simp[cN]at h
 | .ptr _ _,_,h=>by simp[cN]at h
 | .eptr _,_,h=>by simp[cN]at h
 | .iface _ _,_,h=>by simp[cN]at h
 | .nilp,_,h=>by simp[cN]at h
 | .tuple _,_,h=>by simp[cN]at h
 | .func _ _,_,h=>by simp[cN]at h
 | .gmap _,_,h=>by simp[cN]at h
 | .row _ _ _,_,h=>by simp[cN]at h
 | .rptr _ _ _ _ _,_,h=>by simp[cN]at h
 | .hdm _ _,_,h=>by simp[cN]at h
 | .hdi _ _ _,_,h=>by simp[cN]at h
 | .cst _,_,h=>by simp[cN]at h
def rb(c8:Int->List cU):∀(a:List af) (k:Int),dX a->dX (bD c8 a k).1
 |[],k,h=>by simp[bD,dX]
 |x::xs,k,h=>by simp only[bD,dX]at h⊢;exact⟨Ut c8 x k h.1,rb c8 xs _ h.2⟩
end
end
end Go.Pv
namespace Go.Proofs.YtahlgcidhnjlbaaGreat
section
open Go Go.Pv
def qV(o:bd (List bI)):af:= .tuple [b6 ((o.getD []).map bI.e),.bool o.isSome]
@[simp]def awa(S:aB->Prop)(o:bd (List bI)):az S (qV o)=True:=by simp[qV]
def acy{l:List bI}(h:jN l):bU au 87 [b6 (l.map bI.e)] (.bool true):=by have:=acx l;simpa only[h,decide_true]using this
def F2{t:T}(h:t.fit=true):bU au 64 [t.e] (.bool true):=by have:=ar5 t;rwa[h]at this
@[simp]def awT(l:List bI):gb (l.map bI.e)=True:=h1 (E6 (f:=bI.e) (fun _=>⟨trivial,trivial,trivial⟩) l)
@[simp]def ax5(l:List bI):tnL (l.map bI.e)=[]:=Kb (f:=bI.e) (fun _=>rfl) l
def oa(o:bd (List bI))(κ:Nat):af:= .tuple [.slice 2 (.tr (.loc κ) 0) ((o.getD []).map bI.e),.bool o.isSome]
def anc{s:List Bd}(G:fm s){l:List bI}(F:jN l)(t:T)(Y:t.fit=true)(k:Int):
  gf au 118 [bL (s.map Bd.e),b6 (l.map bI.e),t.e,aj k] (oa (if(k=2\/k=3)/\(t.ap (cQ s)).size<=5000 then k5 l (t.ap (cQ s)) k else none)):=by
 have oE:=tH F;have d:=q2 G;have f:=F2 Y;have g:=acy F;have c:=Km s t G.len G.sol.asc G.fit;generalize ad:t.ap (cQ s)=x at c⊢;generalize u:(if(k=2\/k=3)/\x.size<=5000 then k5 l x k else none)=O;by_cases ab:k=2\/k=3;rotate_left
 ·have E:(k !=2)=true:=by simp;omega
  have W:(k !=3)=true:=by simp;omega
  rw[if_neg (fun h=>ab h.1)]at u;rw[<-u];refine gf.mk mixed a1 Tryz.func118 E7 Ψ fun K κ=>?_;unfold AT;simp;(repeat' first|refine al ?_|refine aO d ?_|refine aP d ?_|refine aO f ?_|refine aP f ?_|refine aO g ?_|refine aP g ?_|simp[E,W]);(refine ih.val Ψ ?_;simp[ba,bf,a6,ff,hy,eD,gX,eg,gO,tnL,tn,fs,gb,fold,hJ,hI,iO,ae,ef,cf,b7]);simp[oa]
 by_cases z:x.size<=5000;rotate_left
 ·rw[if_neg (fun h=>z h.2)]at u;rw[<-u];rw[if_neg z,mX z]at c;refine gf.mk mixed a1 Tryz.func118 E7 Ψ fun K κ=>?_;unfold AT;simp;rcases ab with rfl|rfl;all_goals(repeat' first|refine al ?_|refine aO d ?_|refine aP d ?_|refine aO f ?_|refine aP f ?_|refine aO g ?_|refine aP g ?_|refine aO c ?_|refine aP c ?_|simp)
  all_goals(refine ih.val Ψ ?_;simp[ba,bf,a6,ff,hy,eD,gX,eg,gO,tnL,tn,fs,gb,fold,hJ,hI,iO,ae,ef,cf,b7])
  all_goals simp[oa]
 rw[if_pos ⟨ab,z⟩]at u;rw[if_pos z,l6 z]at c;have Z:(k !=2)=true->(k !=3)=false:=fun h=>by simp at h⊢;omega
 have R:((k !=2)=false/\(k !=2)=false)\/((k !=2)=true/\(k !=3)=false):=by
  rcases ab with rfl|rfl
  ·left;exact⟨rfl,rfl⟩
  ·right;exact⟨rfl,rfl⟩
 clear Z;by_cases P:∃n,x= .var n
 ·obtain⟨n,rfl⟩:=P;have a:O=match nz l n with|some bt=>if bt=k then some l else none|none=>some (nx ⟨n,k⟩ l):=by rw[<-u];rfl
  refine gf.mk mixed a1 Tryz.func118 E7 Ψ fun K κ=>?_;unfold AT;simp;rcases R with⟨q,p⟩|⟨q,p⟩;all_goals
   (repeat' first|refine al ?_|refine aO d ?_|refine aP d ?_|refine aO f ?_|refine aP f ?_|refine aO g ?_|refine aP g ?_|refine aO c ?_|refine aP c ?_|simp[q,p])
   refine eZ [3,10,12,55,56] (fun i (_:Unit)=>[(57,aj i)]) l.length (fun i _=> ∀j y,j<i->l[j]? =some y->y.v≠n) () ca (fun j y H=>Ω) (fun _ H _=>?_) (fun i _ hi H _=>?_)
   ·have be:nz l n=none:=EL.2 fun y A=>by obtain⟨m,hm,e⟩:=pB A;exact H m y hm (by rw[cl hm,e])
    rw[be]at a
    simp only at a
    simp
    (repeat' first|refine al ?_|simp)
    all_goals try refine⟨by unfold lim;omega,?_⟩
    have key:=ajs (l++[⟨n,k⟩]) d6
    have N:=KC (l++[⟨n,k⟩])
    have hlen:(l++[(⟨n,k⟩:bI)]).length=l.length+1:=Ψ
    unfold yN eB at key N
    rw[hlen,List.map_append,gV,rZ]at key N
    refine CallDo.ob key N aX aX (by simp[aM,ae]) ?_
    rintro r ak ⟨rfl,X,rfl,J,U⟩
    have V:X=nx ⟨n,k⟩ l:=alZ (J.trans ((List.perm_append_comm (l₁:=l) (l₂:=[⟨n,k⟩])).trans (Xq ⟨n,k⟩ l).symm)) (NO F.asc (EL.1 be)) U
    subst V
    refine⟨Same.keys Ψ Ψ,?_⟩
    rw[a]
    simp[cK]
    (repeat' first|refine al ?_|simp)
    (refine ih.val Ψ ?_;simp[ba,bf,a6,ff,hy,eD,gX,eg,gO,tnL,tn,fs,gb,fold,hJ,hI,iO,ae,ef,cf,b7])
    simp[oa]
   ·obtain⟨b,S,w⟩:=eW hi
    by_cases o:b.v=n
    ·have be:nz l n=some b.k:=by rw[<-o];exact NZ F.asc (fu S)
     rw[be]at a
     simp only at a
     by_cases v:b.k=k
     ·rw[if_pos v]at a
      rw[a]
      have Q:(b.k !=k)=false:=by simp[v]
      have B:(b.v==n)=true:=by simp[o]
      simp[hi,w]
      (repeat' first|refine al ?_|simp[w,hi,Q,B,v,o])
      (refine ih.val Ψ ?_;simp[ba,bf,a6,ff,hy,eD,gX,eg,gO,tnL,tn,fs,gb,fold,hJ,hI,iO,ae,ef,cf,b7])
      simp[oa]
     ·rw[if_neg v]at a
      rw[a]
      have Q:(b.k !=k)=true:=by simp[v]
      have B:(b.v==n)=true:=by simp[o]
      simp[hi,w]
      (repeat' first|refine al ?_|simp[w,hi,Q,B,v,o])
      (refine ih.val Ψ ?_;simp[ba,bf,a6,ff,hy,eD,gX,eg,gO,tnL,tn,fs,gb,fold,hJ,hI,iO,ae,ef,cf,b7])
      simp[oa]
    ·have B:(b.v==n)=false:=by simp[o]
     simp[hi,w]
     (repeat' first|refine al ?_|simp[w,hi,B,o])
     exact bY.rng () hi (fun j y kl A=>by
      rcases(by omega:j<i\/j=i)with h|rfl
      ·exact H j y h A
      ·rw[S]at A;cases A;exact o) ca
 ·have E:(x.kind !=1)=true:=by cases x<;>first|rfl|exact absurd ⟨_,rfl⟩ P
  have a:O=if x.kind=k then some l else none:=by rw[<-u];cases x<;>first|rfl|exact absurd ⟨_,rfl⟩ P
  by_cases L:x.kind=k
  ·rw[if_pos L]at a;rw[a];refine gf.mk mixed a1 Tryz.func118 E7 Ψ fun K κ=>?_;unfold AT;simp;have M:(x.kind !=k)=false:=by simp[L]
   rcases R with⟨q,p⟩|⟨q,p⟩;all_goals(repeat' first|refine al ?_|refine aO d ?_|refine aP d ?_|refine aO f ?_|refine aP f ?_|refine aO g ?_|refine aP g ?_|refine aO c ?_|refine aP c ?_|simp[q,p,E,M])
   all_goals(refine ih.val Ψ ?_;simp[ba,bf,a6,ff,hy,eD,gX,eg,gO,tnL,tn,fs,gb,fold,hJ,hI,iO,ae,ef,cf,b7])
   all_goals simp[oa]
  ·rw[if_neg L]at a;rw[a];refine gf.mk mixed a1 Tryz.func118 E7 Ψ fun K κ=>?_;unfold AT;simp;have M:(x.kind !=k)=true:=by simp[L]
   rcases R with⟨q,p⟩|⟨q,p⟩;all_goals(repeat' first|refine al ?_|refine aO d ?_|refine aP d ?_|refine aO f ?_|refine aP f ?_|refine aO g ?_|refine aP g ?_|refine aO c ?_|refine aP c ?_|simp[q,p,E,M])
   all_goals(refine ih.val Ψ ?_;simp[ba,bf,a6,ff,hy,eD,gX,eg,gO,tnL,tn,fs,gb,fold,hJ,hI,iO,ae,ef,cf,b7])
   all_goals simp[oa]
def j2(o:bd (List bo)):af:= .tuple [b6 ((o.getD []).map bo.e),.bool o.isSome]
@[simp]def awc(S:aB->Prop)(o:bd (List bo)):az S (j2 o)=True:=by simp[j2]
def acA{l:List bo}(h:iT l):bU au 88 [b6 (l.map bo.e)] (.bool true):=by have:=acz l;simpa only[h,decide_true]using this
def arW{s:List cU}(h:kq s=true):bU au 160 [.str s] (.bool true):=by have:=vp s;rwa[h]at this
def ET(l:List bo):List af:=l.flatMap fun m=>[m.e,.bool true]
def Yu(l:List bo):pd l= .hdm l.length (List.range l.length)::ET l:=rfl
def Ov(b:Nat):∀(n:Nat) (l:List bo),n5 b (List.range' n l.length) (ET l)=(if n<=b then(l[b-n]?).map fun x=>.tuple [x.e,.bool true]else none)
 |n,[]=>by simp[n5,ET]
 |n,x::r=>by
  have e:ET (x::r)=x.e:: .bool true::ET r:=rfl;simp only[mT,List.range'_succ,e,n5];by_cases h:n=b
  ·subst h;simp
  ·rw[if_neg h,Ov b (n+1) r];by_cases U:n<=b
   ·rw[if_pos U,if_pos Ω];have:b-n=(b-(n+1))+1:=Ω
    rw[this];simp
   ·rw[if_neg U,if_neg Ω]
@[simp]def aw0(l:List bo):gY (pd l)=false:=rfl
@[simp]def aw6(m:aB)(l:List bo):Ae m (pd l)=some (cc l.length [] m):=rfl
def amE(f:aB->bd (List af))(gk mk:aB)(n:Nat)(seen:List Nat)(b:Nat)(l:List bo)(x:bo)(hi:f gk=some (cc n (seen++[b]) mk))(hm:f mk=some (pd l))(c:n=l.length)(a:l[b]? =some x):qP f (.ptr gk 0)=some (True,.tuple [x.e,.bool true]):=by subst c;simp only[YF,hi,hm,cc,Yu,List.getLast?_append,List.getLast?_singleton,Option.some_or,List.range_eq_range',Ov,Nat.zero_le,if_true,Nat.sub_zero,Option.map_map];simp[a]
def afB{st:bp}{d:Nat}{K:bp->Prop}{gk mk:aB}{n:Nat}{seen:List Nat}{l:List bo}(hi:ae gk st.b=some (cc n seen mk))(hm:ae mk st.b=some (pd l))(i:n=l.length)
  (J:(∀b,b<l.length->b∈seen)->K {st with t:=Pv.put d (.tuple [.bool false]) st.t}) (U:∀b x,l[b]? =some x->b∉seen->K {st with t:=Pv.put d (.tuple [.bool true,x.e,.bool true]) st.t,b:=cI gk (cc n (seen++[b]) mk) st.b}):
  uH st d (.ptr gk 0) K:=by
 subst i;simp only[uH,hi,cc,hm,Yu,OK,and_self,true_and];refine⟨fun h=>J fun b c=>h b (by simpa using c),fun b k v a c=>?_⟩;rw[List.range_eq_range',Ov]at a;simp only[Nat.zero_le,if_true,Nat.sub_zero,hr,af.tuple.injEq,rX,jc]at a;obtain⟨x,f,g,e⟩:=a;subst g e;exact U b x f c
def amz{m x:bo}{l:List bo}:x∈l7 m l↔x=m\/x∈l:=by
 unfold l7;split
 ·constructor
  ·exact .inr
  ·rintro(rfl|h)<;>assumption
 ·simp[or_comm]
def adU{m:bo}{l:List bo}(h:l.Nodup):(l7 m l).Nodup:=by
 unfold l7;split
 ·exact h
 ·rw[r1];exact⟨h,Ψ,fun a d b c=>by simp at c;subst c;intro e;subst e;contradiction⟩
def adT(m:bo)(l:List bo):(l7 m l).length<=l.length+1:=by unfold l7;split<;>simp
def aix(s:List cU)(t:T):∀l:List bo,(t.fold (fun v l=>l7 ⟨v,s⟩ l) l).length<=l.length+t.size:=by
 induction t with
 |var n=>intro l;simp only[T.fold,T.size];exact adT _ _
 |pair a b d c=>intro l;simp only[T.fold,T.size];have:=d l;have:=c (a.fold (fun v l=>l7 ⟨v,s⟩ l) l);omega
 |_=>intro l;simp[T.fold,T.size]
def aiy(s:List cU)(t:T):∀{l:List bo},l.Nodup->(t.fold (fun v l=>l7 ⟨v,s⟩ l) l).Nodup:=by
 induction t with
 |var n=>intro l h;exact adU h
 |pair a b d c=>intro l h;exact c (d h)
 |_=>intro l h;exact h
def amA(s:List cU)(t:T)(x:bo):∀{l:List bo},x∈t.fold (fun v l=>l7 ⟨v,s⟩ l) l↔x∈l\/(x.s=s/\t.occ x.v=true):=by
 induction t with
 |var n=>
  intro l;simp only[T.fold,amz,T.occ,ey];constructor
  ·rintro(rfl|h)
   ·exact .inr ⟨rfl,rfl⟩
   ·exact .inl h
  ·rintro(h|⟨J,U⟩)
   ·exact .inr h
   ·left;cases x;simp at J U;subst J U;rfl
 |pair a b d c=>
  intro l;simp only[T.fold,c,d,T.occ,og];constructor
  ·rintro((h|h)|h)
   ·exact .inl h
   ·exact .inr ⟨h.1,.inl h.2⟩
   ·exact .inr ⟨h.1,.inr h.2⟩
  ·rintro(h|⟨J,U|U⟩)
   ·exact .inl (.inl h)
   ·exact .inl (.inr ⟨J,U⟩)
   ·exact .inr ⟨J,U⟩
 |_=>intro l;simp[T.fold,T.occ]
def alI(M:List bo)(k:Nat)(st:bp):Prop:=∃(seen:List Nat) (xs:List bo),seen.Nodup/\(∀b∈seen,b<M.length)/\k=M.length-seen.length/\xs=seen.filterMap (fun b=>M[b]?)/\xs.length=seen.length/\st=⟨[(15,.ptr (.obj 815) 0),(63,.ptr (.loc 2) 0)],[(.obj 812,pd M),(.loc 2,cc M.length seen (.obj 812)),(.obj 815,[.row 2 (.obj 814) xs.length])],[(.obj 814,⟨xs.length,100,2,some (xs.map bo.e)⟩)],3,[.obj 815,.obj 814,.obj 813,.obj 812,.obj 811]⟩
def arU{s:List Bd}(B:fm s){l:List bo}(R:iT l)(oE:l.length<=68719470000)(t:T)(aL:t.fit=true){g:List cU}(be:kq g=true):
  bU au 120 [bL (s.map Bd.e),b6 (l.map bo.e),t.e,.str g] (j2 (if(t.ap (cQ s)).size<=5000 then nc l (t.ap (cQ s)) g else none)):=by
 have n:=q2 B;have o:=F2 aL;have p:=acA R;have m:=arW be;have d:=Km s t B.len B.sol.asc B.fit;generalize ad:t.ap (cQ s)=x at d⊢;generalize w:(if x.size<=5000 then nc l x g else none)=O;by_cases q:x.size<=5000;rotate_left
 ·rw[if_neg q]at w;rw[<-w];rw[if_neg q,mX q]at d;refine bH a1 Tryz.func120 O0 fun V=>?_;unfold Gz;simp;(repeat' first|refine al ?_|refine aO n ?_|refine aP n ?_|refine aO o ?_|refine aP o ?_|refine aO p ?_|refine aP p ?_|refine aO m ?_|refine aP m ?_|refine aO d ?_|refine aP d ?_|simp);simp[bZ,ba,bf,a6];simp[j2]
 rw[if_pos q]at w;rw[if_pos q,l6 q]at d;have u:=asn g x;cases z:x.has g;rotate_left
 ·rw[z]at u;have gE:O=none:=by rw[<-w];unfold nc;rw[z];rfl
  rw[gE];refine bH a1 Tryz.func120 O0 fun V=>?_;unfold Gz;simp;(repeat' first|refine al ?_|refine aO n ?_|refine aP n ?_|refine aO o ?_|refine aP o ?_|refine aO p ?_|refine aP p ?_|refine aO m ?_|refine aP m ?_|refine aO d ?_|refine aP d ?_|refine aO u ?_|refine aP u ?_|simp);simp[bZ,ba,bf,a6];simp[j2]
 rw[z]at u;refine bH a1 Tryz.func120 O0 fun V=>?_;unfold Gz;simp;(repeat' first|refine al ?_|refine aO n ?_|refine aP n ?_|refine aO o ?_|refine aP o ?_|refine aO p ?_|refine aP p ?_|refine aO m ?_|refine aP m ?_|refine aO d ?_|refine aP d ?_|refine aO u ?_|refine aP u ?_|simp);have X:l.Nodup:=iN.nodup mO R.asc;have L:∀xs:List bo,xs.Perm (x.fold (fun v l=>l7 ⟨v,g⟩ l) l)->O=some (qc gd xs):=fun xs Q=>by
  rw[<-w];refine KM z ?_ fun y=>?_
  ·have J:=Qm mO xs;have U:(qc gd xs).Nodup:=(((Au gd xs).trans Q).nodup_iff).2 (aiy g x X);exact(J.and U).imp fun{a b} h=>by have:=mt (mO.zero a b).1 h.2;omega
  ·rw[((Au gd xs).trans Q).mem_iff,amA]
 have hlen:(x.fold (fun v l=>l7 ⟨v,g⟩ l) l).length<=68719475000:=by have:=aix g x l;omega
 rw[show kZ []=pd []from rfl];refine fT (fun i (_:Unit)=>⟨[(7,.ptr (.obj 811) 0),(10,.ptr (.loc 1) 0),(12,.ptr (.obj 813) 0),(49,b6 (l.map bo.e)),(50,aj l.length),(51,aj i)],[(.obj 811,[.str g]),(.loc 1,[aj x.kind,aj x.int,.str x.name,dx (x.args.map T.e)]),(.obj 812,pd (l.take i)),(.obj 813,[.gmap (.obj 812)])],[],2,[.obj 813,.obj 812,.obj 811]⟩) l.length (fun _ _=>True) () ca trivial (fun _ _ _=>?_) (fun i _ hi _ _=>?_)
 ·rw[jz];simp;(repeat' first|refine al ?_|simp);have key:=VH (pG g) (Gl g) (KE g) 184 [.ptr (.obj 813) 0,.ptr (.obj 811) 0] (by intro a;simp[aM,pG,ae,aH,az]) Ψ (fun v l=>l7 ⟨v,g⟩ l) (fun v a=>aiF g v a) x l;refine CallDo.ob key (Gl g l) (by unfold pG;exact aX) (by unfold pG;exact aX) (by simp[aM,pG,ae]) ?_;rintro r ak ⟨rfl,rfl⟩;refine⟨KE g _ _,?_⟩;unfold pG;generalize eH:x.fold (fun v l=>l7 ⟨v,g⟩ l) l=M at L hlen⊢;simp[cK];(repeat' first|refine al ?_|simp);refine qu (alI M) M.length _ ⟨by simp[fresh,aH,az,cc,aM,ae,B2],eo (by simp[fresh,aH,az,cc,aM,ae,B2]),ep (by simp[fresh,aH,az,dV,aM,ae,B2]),Ψ⟩ ⟨[],[],Ψ,Ψ,Ψ,Ψ,Ψ,rfl⟩ ?_;rintro k st ⟨seen,xs,F,A,ab,W,kV,rfl⟩ lP c4;clear lP c4;have hle:=JT F A;simp;refine afB (mk:= .obj 812) (seen:=seen) (l:=M) Ψ Ψ rfl (fun Z=>?_) (fun b y H E=>?_)
  ·have K:=Qe F A Z;rw[<-W]at K;have ee:=L xs K;simp;(repeat' first|refine al ?_|simp);have key:=ajt xs Ω;have P:=KD xs;unfold yO eB at key P;refine CallDo.ob key P aX aX (by simp[aM,ae]) ?_;rintro r ak ⟨rfl,rfl⟩;refine⟨Same.keys Ψ Ψ,?_⟩;rw[ee];simp[cK];(repeat' first|refine al ?_|simp);simp[bZ,ba,bf,a6];simp[j2]
  ·have Y:∀f:aB->bd (List af),f (.loc 2)=some (cc M.length (seen++[b]) (.obj 812))->f (.obj 812)=some (pd M)->qP f (.ptr (.loc 2) 0)=some (True,.tuple [y.e,.bool true]):=fun f J U=>amE f (.loc 2) (.obj 812) M.length seen b M y J U rfl H;have N:b<M.length:=(fI.1 H).1;have qG:=Qf F A N E;simp[Y];(repeat' first|refine al ?_|simp[Y]);all_goals try refine⟨by unfold lim;omega,?_⟩
   have G:∀S:aB->Prop,aH S (xs.map bo.e++[y.e])=True:=fun S=>by
    have e:xs.map bo.e++[y.e]=(xs++[y]).map bo.e:=Ψ
    rw[e];simp[-List.map_append]
   refine bY.next (M.length-(seen.length+1)) Ω ⟨seen++[b],xs++[y],OT F E,(by simp;intro c ax;rcases ax with ax|rfl;exact A c ax;exact N),Ψ,by rw[List.filterMap_append,<-W];simp[H],by simp[kV],rfl⟩ ⟨by simp[fresh,aH,az,cc,aM,ae,B2,G],eo (by simp[fresh,aH,az,cc,aM,ae,B2,G]),ep (by simp[fresh,aH,az,dV,aM,ae,B2,G]),Ψ⟩
 ·obtain⟨b,E,df⟩:=eW hi;have jX:l7 b (l.take i)=l.take (i+1):=by
   have J:b∉l.take i:=fun h=>by
    obtain⟨j,ah,e⟩:=pB h;have kl:j<i:=by simp at ah;omega
    rw[List.getElem_take]at e;have:=(List.nodup_iff_pairwise_ne.1 X);exact(q6.1 this j i Ω hi kl) (by rw[e,df])
   rw[List.take_succ,E];simp[l7,J]
  exact iU
def Sd:C:=(aa [bz 4 false] (.seq (aa [I 7 0,cw 8 7,bP 9 0] (gw 10 9 8 (.seq (.block 1 (aa [ck 11 5 7 9,bg 12 5 11,dG 6 ks,bV 5 6 12] (aa [aF 13 0 1 6,ay 14 1 13,I 15 1,bu 16 .geq 14 15,I 17 16,aw 17 false (hq 18 1 4 6),aw 17 false (bg 19 4 18),ys 17 false (.bsl 20 4 30 [.t 19]),aw 17 false (cT 21 162 20),cg 17 false 22 1,aw 17 false (bu 23 .gtr 21 22),dr 24 17 23] (aW 24 (aa [bz 4 false] .ret) .skip)))) (.region [aU 25 .add 9 1,I 9 25])))) (aa [bz 4 true] .ret)))
def Sc:C:=(aa [bP 2 0] (.seq (aa [I 6 0,cT 7 172 6,cM 8 7] (aW 8 (aa [bP 2 (-1)] .ret) .skip)) (aa [dt (.alloc 3 (some 831) (.int .i64 0)),dt (.store 1 (.t 3) (gT 0))] (.seq (aa [I 9 0,cw 10 9,bP 11 0] (gw 12 11 10 (.seq (.block 1 (aa [ck 13 4 9 11,bg 14 4 13,dG 5 ez,bV 4 5 14] (.region [bg 15 4 5,cd 16 (.mkf 204 [.t 3]),b8 17 134 15 16]))) (.region [aU 18 .add 11 1,I 11 18])))) (aa [ay 19 1 3,I 2 19] .ret)))))
def R7:C:=(aa [fo 4 2,bz 5 false] (.seq (aa [I 11 0,cT 12 86 11,cM 13 12,I 14 13,cg 14 false 15 1,aw 14 false (cT 16 87 15),aw 14 false (cM 17 16),dr 18 14 17] (aW 18 (aa [fo 4 2,bz 5 false] .ret) .skip)) (aa [e1 19 2 98 [],I 6 19] (.seq (.seq (.fg false 6 (.region [I 20 1,cw 21 20,bP 22 0])) (gw 23 22 21 (.seq (.block 1 (aa [ck 24 2 20 22,bg 25 2 24,dt (.alloc 8 none (.agg [.int .i64 0,.int .i64 0])),bV 2 8 25] (.seq (.drawn true 42 [I 27 0,I 28 6,aF 29 0 1 8,ay 30 1 29,cT 31 116 30,aF 32 1 1 8,ay 33 1 32,dS 34 118 [.t 27,.t 28,.t 31,.t 33],I 26 34,cX 35 0 26,cX 36 1 26,I 9 35,I 10 36]) (.seq (aa [I 37 10,cM 38 37] (aW 38 (aa [fo 4 2,bz 5 false] .ret) .skip)) (.region [I 39 9,I 6 39]))))) (.region [aU 40 .add 22 1,I 22 40])))) (aa [I 41 6,I 4 41,bz 5 true] .ret)))))
def R8:C:=(aa [fo 4 2,bz 5 false] (.seq (aa [I 11 0,cT 12 86 11,cM 13 12,I 14 13,cg 14 false 15 1,aw 14 false (cT 16 88 15),aw 14 false (cM 17 16),dr 18 14 17] (aW 18 (aa [fo 4 2,bz 5 false] .ret) .skip)) (aa [e1 19 2 100 [],I 6 19] (.seq (.seq (.fg false 6 (.region [I 20 1,cw 21 20,bP 22 0])) (gw 23 22 21 (.seq (.block 1 (aa [ck 24 2 20 22,bg 25 2 24,dt (.alloc 8 none (.agg [.int .i64 0,.str []])),bV 2 8 25] (.seq (.drawn true 42 [I 27 0,I 28 6,aF 29 0 1 8,ay 30 1 29,cT 31 116 30,aF 32 1 1 8,ay 33 1 32,dS 34 120 [.t 27,.t 28,.t 31,.t 33],I 26 34,cX 35 0 26,cX 36 1 26,I 9 35,I 10 36]) (.seq (aa [I 37 10,cM 38 37] (aW 38 (aa [fo 4 2,bz 5 false] .ret) .skip)) (.region [I 39 9,I 6 39]))))) (.region [aU 40 .add 22 1,I 22 40])))) (aa [I 41 6,I 4 41,bz 5 true] .ret)))))
def R4:C:=(aa [fo 2 1] (.seq (aa [I 12 0,cw 13 12,bP 14 0] (gw 15 14 13 (.seq (.block 1 (aa [ck 16 1 12 14,ay 17 1 16,I 4 17] (aa [I 18 4,cT 19 86 18,cM 20 19] (aW 20 (aa [fo 2 1] .ret) .skip)))) (.region [aU 21 .add 14 1,I 14 21])))) (aa [dt (.bslm 22 (some 821) 1 46 []),I 23 0,dt (.appm 24 none 1 46 (.t 22) (.t 23)),dt (.alloc 5 (some 822) (.slice 1 .nil [])),bV 1 5 24] (aa [ay 25 1 5,cd 26 (.mkif 47 (.t 25)),cd 27 (.mkf 206 [.t 5]),b8 28 140 26 27] (aa [e1 29 1 46 [],I 6 29] (.seq (aa [ay 30 1 5,cw 31 30,bP 32 0] (.block 2 (.loop (aa [bu 33 .lss 32 31] (.seq (aW 33 .skip (.exit 2)) (.seq (.block 3 (aa [I 34 32,ck 35 1 30 32,ay 36 1 35,I 7 34,I 8 36] (.seq (aa [I 37 7,aU 38 .gtr 37 0,I 39 38,aw 39 true (ay 40 1 5),cg 39 true 41 7,aw 39 true (aU 42 .sub 41 1),aw 39 true (ck 43 1 40 42),aw 39 true (ay 44 1 43),cg 39 true 45 8,aw 39 true (b8 46 207 44 45),aw 39 true (aU 47 .eql 46 0),ei 48 39 47] (aW 48 (.exit 3) .skip)) (aa [bz 9 true] (.seq (aa [ay 49 1 5,cw 50 49,bP 51 0] (.block 4 (.loop (aa [bu 52 .lss 51 50] (.seq (aW 52 .skip (.exit 4)) (.seq (.block 5 (aa [ck 53 1 49 51,ay 54 1 53,I 11 54] (aa [I 55 11,I 56 8,b8 57 207 55 56,aU 58 .neq 57 0,I 59 58,cg 59 true 60 11,cg 59 true 61 8,aw 59 true (b8 62 208 60 61),ei 63 59 62] (aW 63 (.region [bz 9 false]) .skip)))) (.region [aU 64 .add 51 1,I 51 64]))))))) (aa [I 65 9] (aW 65 (.region [I 66 6,I 67 8,cT 68 168 67,e1 69 1 46 [.t 68],h0 70 1 46 66 69,I 6 70]) .skip))))))) (.region [aU 71 .add 32 1,I 32 71]))))))) (aa [I 72 6,I 2 72] .ret)))))))
def K5:C:=(.region [ay 3 1 1,I 4 0,aU 5 .add 4 1,cd 6 (.max2 (.t 3) (.t 5)),bV 1 1 6])
def R5:C:=(aa [bz 5 false] (.seq (.drawn true 16 [ay 6 1 2,I 7 0,ck 8 1 6 7,ay 9 1 8,ay 10 1 2,I 11 1,ck 12 1 10 11,ay 13 1 12,b8 14 207 9 13,aU 15 .lss 14 0,I 5 15]) .ret))
def anG:b3 aT Sd [.tmp 4] 2 Tryz.f89=true:=bi
def anF:b3 aT Sc [.tmp 2] 1 Tryz.f162=true:=bi
def anA:b3 aT R7 [.tmp 4,.tmp 5] 2 Tryz.f163=true:=bi
def anB:b3 aT R8 [.tmp 4,.tmp 5] 2 Tryz.f164=true:=bi
def anw:b3 aT R4 [.tmp 2] 1 Tryz.f167=true:=bi
def Zk:b3 aT K5 [] 2 Tryz.f204=true:=bi
def anx:b3 aT R5 [.tmp 5] 3 Tryz.f206=true:=bi
def Xt(s:List Bd)(l:List bI)(i:Nat)(a:List bI):Prop:=jN a/\gS s (l.drop i) a=gS s l []
def arH{α:Type}(n:Nat)(dp:jE)(a:List α):Prop:=(dp= .no/\a=[])\/ ∃m,dp= .tr (.loc m) 0/\m<n
def Y7{s:List Bd}(g:fm s){l:List bI}(o:jN l):gf au 163 [bL (s.map Bd.e),b6 (l.map bI.e)] (oa (gS s l [])):=by
 have u:=tH o;have p:=q2 g;have q:=acy o;refine gf.mk mixed a1 Tryz.func163 anA Ψ fun v κ=>?_;unfold R7;simp;(repeat' first|refine al ?_|refine aO p ?_|refine aP p ?_|refine aO q ?_|refine aP q ?_|simp);refine fT (fun i (x:Nat×jE×List bI)=>⟨[(0,bL (s.map Bd.e)),(20,b6 (l.map bI.e)),(21,aj l.length),(6,.slice 2 x.2.1 (x.2.2.map bI.e)),(22,aj i)],[],[],x.1,[]⟩) l.length (fun i x=>arH x.1 x.2.1 x.2.2/\Xt s l i x.2.2) (0,.no,[]) ca ⟨.inl ⟨rfl,rfl⟩,⟨Ψ,Ψ⟩,rfl⟩ (fun x c _=>?_) (fun i x hi c _=>?_)
 ·obtain⟨n,dp,a⟩:=x;obtain⟨h,_,c⟩:=c;simp only at h c;rw[List.drop_length]at c;simp only[gS]at c;rw[<-c];rcases h with⟨rfl,rfl⟩|⟨m,rfl,hm⟩
  ·simp;(repeat' first|refine al ?_|simp);(refine ih.val Ψ ?_;simp[ba,bf,a6,ff,hy,eD,gX,eg,gO,tnL,tn,fs,gb,fold,hJ,hI,iO,ae,ef,cf,b7]);simp[oa]
  ·simp;(repeat' first|refine al ?_|simp);(refine ih.val Ψ ?_;simp[ba,bf,a6,ff,hy,eD,gX,eg,gO,tnL,tn,fs,gb,fold,hJ,hI,iO,ae,ef,cf,b7]);simp[oa]
 ·obtain⟨n,dp,a⟩:=x;obtain⟨h,k,c⟩:=c;simp only at h k c;obtain⟨b,t,f⟩:=eW hi;have e:=o.at' b (fu t);rw[lG hi,f]at c;simp only[gS]at c;have d:=anc g k (.var b.v) (by simp[T.fit,T.ok,T.size,e.1]) b.k;have r:((T.var b.v).ap (cQ s)).size<=5000:=FI g b.v;rw[if_pos ⟨e.2,r⟩,show(T.var b.v).ap (cQ s)=cQ s b.v from rfl]at d;have dy:b7 (.slice 2 dp (a.map bI.e))=b6 (a.map bI.e):=by simp[b7]
  simp[hi,f];cases j:k5 a (cQ s b.v) b.k with
  |none=>rw[j]at c d;simp only at c;rw[<-c];unfold oa at d;(repeat' first|refine al ?_|refine aO (l2 _) ?_|refine aP (l2 _) ?_|simp[f,hi]);(refine hH.own Ψ (d) (by simp[qx,ae]<;>omega) ?_;simp);(repeat' first|refine al ?_|simp);(refine ih.val Ψ ?_;simp[ba,bf,a6,ff,hy,eD,gX,eg,gO,tnL,tn,fs,gb,fold,hJ,hI,iO,ae,ef,cf,b7]);simp[oa]
  |some br=>
   rw[j]at c d;unfold oa at d;(repeat' first|refine al ?_|refine aO (l2 _) ?_|refine aP (l2 _) ?_|simp[f,hi]);(refine hH.own Ψ (d) (by simp[qx,ae]<;>omega) ?_;simp);(repeat' first|refine al ?_|simp);refine bY.rng (n+1+42,.tr (.loc (n+1+34)) 0,br) hi ?_ ?_
   ·exact⟨.inr ⟨n+1+34,rfl,(by omega:n+1+34<n+1+42)⟩,KL k (CP g e.1) e.2 j,c⟩
   simp;exact ca
def ar2{s:List Bd}(b:fm s){l:List bI}(a:jN l):bU au 163 [bL (s.map Bd.e),b6 (l.map bI.e)] (qV (gS s l [])):=by have:=(Y7 b a).val (by simp[oa,b7]);simpa[oa,b7,cf,qV]using this
def Xu(s:List Bd)(G:List (List cU))(l:List bo)(i:Nat)(a:List bo):Prop:=iT a/\oQ G a/\gZ s (l.drop i) a=gZ s l []
def acB{s:List Bd}(h:fm s){l:List bo}(k:iT l){G:List (List cU)}(v:G.length<=687000)(be:oQ G l):bU au 164 [bL (s.map Bd.e),b6 (l.map bo.e)] (j2 (gZ s l [])):=by
 have hlen:∀{a:List bo},iT a->oQ G a->a.length<=68719470000:=fun J U=>by have:=EU J U;omega
 have u:=hlen k be;have m:=q2 h;have n:=acA k;refine bH a1 Tryz.func164 anB fun w=>?_;unfold R8;simp;(repeat' first|refine al ?_|refine aO m ?_|refine aP m ?_|refine aO n ?_|refine aP n ?_|simp);refine eZ [0,20,21] (fun i (a:List bo)=>[(6,b6 (a.map bo.e)),(22,aj i)]) l.length (Xu s G l) [] ca ⟨⟨Ψ,by simp[iN]⟩,fun x r=>by simp at r,rfl⟩ (fun a c _=>?_) (fun i a hi c _=>?_)
 ·obtain⟨_,_,c⟩:=c;rw[List.drop_length]at c;simp only[gZ]at c;rw[<-c];simp;(repeat' first|refine al ?_|simp);simp[bZ,ba,bf,a6];simp[j2]
 ·obtain⟨j,p,c⟩:=c;obtain⟨b,o,g⟩:=eW hi;have e:=k.at' b (fu o);have t:=be b (fu o);rw[lG hi,g]at c;simp only[gZ]at c;have d:=arU h j (hlen j p) (.var b.v) (by simp[T.fit,T.ok,T.size,e.1]) e.2;have q:((T.var b.v).ap (cQ s)).size<=5000:=FI h b.v;rw[if_pos q,show(T.var b.v).ap (cQ s)=cQ s b.v from rfl]at d;simp[hi,g];cases f:nc a (cQ s b.v) b.s with
  |none=>rw[f]at c d;simp only at c;rw[<-c];simp only[j2]at d;(repeat' first|refine al ?_|refine aO (l2 _) ?_|refine aP (l2 _) ?_|refine aO d ?_|refine aP d ?_|simp[g,hi]);simp[bZ,ba,bf,a6];simp[j2]
  |some br=>rw[f]at c d;simp only[j2]at d;(repeat' first|refine al ?_|refine aO (l2 _) ?_|refine aP (l2 _) ?_|refine aO d ?_|refine aP d ?_|simp[g,hi]);exact bY.rng br hi ⟨KN j (CP h e.1) e.2 f,KO p t f,c⟩ ca
end
section
open Go Go.Pv Go.Lib
def cO(d:List Bd):af:=bL (d.map Bd.e)
@[simp]def avX(S:aB->Prop)(d:List Bd):az S (cO d)=True:=by simp[cO]
@[simp]def at3(d:List Bd):cells (cO d)=[cO d]:=rfl
@[simp]def axn(d:List Bd):eT (cO d)=true:=rfl
@[simp]def axO(d:List Bd):b7 (cO d)=cO d:=by simp[cO]
def Um:∀(S:aB->Prop) (x:List Bd),az S (cO x):=fun S x=>by simp
def N5(S:aB->Prop):∀l:List (List Bd),aH S (l.map cO)
 |[]=>by simp[aH]
 |x::xs=>by simp[aH,N5 S xs]
@[simp]def X2(S:aB->Prop)(l:List (List Bd)):aH S (l.map cO)=True:=h1 (N5 S l)
@[simp]def Qt:∀l:List (List Bd),cf (l.map cO)=l.map cO
 |[]=>rfl
 |x::xs=>by simp[cf,Qt xs]
def gz(d:List Bt):af:=bL (d.map Bt.e)
@[simp]def at5(d:List Bt):cells (gz d)=[gz d]:=rfl
@[simp]def axp(d:List Bt):eT (gz d)=true:=rfl
def LM(d:List Bd):gz (d.map Bd.b)=cO d:=by simp only[gz,cO,zR]
def LN(l:List (List Bd)):(l.map fun d=>d.map Bd.b).map gz=l.map cO:=by rw[List.map_map];exact List.map_congr_left fun d _=>LM d
@[simp]def av0(S:aB->Prop)(d:List Bt):az S (gz d)=True:=by simp[gz]
@[simp]def axR(d:List Bt):b7 (gz d)=gz d:=by simp[gz]
def X4(S:aB->Prop):∀l:List (List Bt),aH S (l.map gz)
 |[]=>by simp[aH]
 |x::xs=>by simp[aH,X4 S xs]
@[simp]def avS(S:aB->Prop)(l:List (List Bt)):aH S (l.map gz)=True:=h1 (X4 S l)
abbrev vE(l:List (List Bd)):cS:=eB cO 821 822 46 1 l
def Kz(l:List (List Bd)):eA (vE l):=yP Um l
def aiI(l:List (List Bd))(m:l.length<=68719476736)(i j:Nat)(x y:List Bd)(hi:l[i]? =some x)(h:l[j]? =some y):bG au 206 [aj i,aj j,.ptr (.obj 822) 0] (vE l) fun r g=>r= .bool (iK fa x y)/\g=vE l:=by have a:=Kz l;obtain⟨c,d⟩:=fI.1 hi;obtain⟨e,b⟩:=fI.1 h;have f:bU au 207 [cO x,cO y] (aj (fa x y)):=Kk x y;unfold vE eB at a⊢;refine bG.mk mixed a1 Tryz.func206 anx Ψ a.obj fun n k=>?_;unfold R5;simp[c,e,d,b];(repeat' first|refine al ?_|refine aO f ?_|refine aP f ?_|simp[c,e,d,b]);refine c5.at _ (.inl rfl) a (Same.refl _) aX aX ?_;simp[dc,ba,bf,a6,iK]
noncomputable def Tryz.dsT:TypeInfo:=(au.info? 47).get bi
noncomputable def Tryz.dsE:TypeInfo:=(au.info? 46).get bi
def Tryz.dsK(n:Nat)(U:2<=n):Lib.swapperK n Tryz.dsE 23=9:=by
 have a:Tryz.dsE.hasPointers=true:=bi
 have b:Tryz.dsE.bytes=24:=bi
 have c:(n==0)=false:=by simp;omega
 have d:(n==1)=false:=by simp;omega
 simp[Lib.swapperK,a,b,c,d]
def ajq(l:List (List Bd))(d:l.length<=68719476736):bG au 140 [.iface 47 (.row 1 (.obj 821) l.length),.func 206 [.ptr (.obj 822) 0]] (vE l) fun r b=>r= .tuple []/\b=vE (qc fa l):=by
 refine(aiL Um (K:=821) (B:=822) (sz:=1) 47 Tryz.dsT Tryz.dsE bi bi bi bi 23 (fun _=>by kernel_rfl) Tryz.dsK 206 (iK fa) mN.ltOk l d (fun a h i j x y hi c=>aiI a Ω i j x y hi c) (fun a h i j hi c=>?_)).mono ?_
 ·have:=VX (P:=au) false 230 (fun args W=>run_callFunc_extern Tryz.func230 bi bi bi (e:=Gb false) bi args W)
   46 Tryz.dsE bi (.inr ⟨by kernel_rfl,fun _=>by kernel_rfl⟩) (Kz a) (K:=821) (n:=l.length) (el:=46) (sz:=1) bi (xs:=a.map cO) (by simp[eB,ae,h]) i j hi c
  refine this.mono ?_;rintro r b ⟨rfl,rfl⟩;refine⟨rfl,?_⟩;simp[eB,cI,Yq,h]
 ·rintro r b ⟨rfl,a,rfl,J,U⟩;exact⟨rfl,by rw[abQ mN J U]⟩
end
end Go.Proofs.YtahlgcidhnjlbaaGreat
