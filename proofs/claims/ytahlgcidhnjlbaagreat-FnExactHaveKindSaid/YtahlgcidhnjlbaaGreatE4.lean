/- Contracts: disequalities in order. -/
import Derived.Lib.OwnBridge
import Derived.Shelf.GgSortMore.Stable
import Derived.Shelf.GgSortFunc.SmallK
import Derived.Shelf.GgSortFunc.Slice
import Derived.Ground.GgsProg
import Derived.Test.YtahlgcidhnjlbaaGreatProg
import Derived.Test.YtahlgcidhnjlbaaGreatE3
set_option linter.all false
set_option maxHeartbeats 4000000
set_option maxRecDepth 4000
open Array renaming getElem?_toList->vm
open BitVec renaming ofInt->rP
open Bool renaming and_eq_true->cQ,eq_iff_iff->qZ,false_eq_true->hR,not_eq_true'->sO,or_eq_true->oe
open Go renaming Program->cI,TypeId->gT
open Go.Extern.ReflectliteSwapper renaming swap->Ga,swapper->ayc
open Go.Extern.ReflectliteValue renaming len->ayd,method->aye,unpack->atu,valueError->atv
open Go.Extern.Rtype renaming kind->adf
open Go.IntKind renaming bits->ps,i64->vn,signed->ua,u64->ik,wrap->ub
open Go.IntWalk renaming i64_in->pt
open Go.Proofs.Tryz renaming prog->au
open Go.Result renaming andThen_ok->gC
open Go.Sem renaming run_bind->gx,run_pure->hA
open Go.Value.slice renaming injEq->ayh
open List renaming cons_append->b7,drop_eq_getElem_cons->lG,getElem?_append_left->rR,getElem?_append_right->vo,getElem?_eq_getElem->cl,getElem?_eq_none->q0,getElem?_eq_some_iff->fH,getElem_of_mem->pA,length_append->qe,length_cons->mV,map_cons->gY,mem_append->kd,mem_cons->gI,mem_cons_of_mem->q1,mem_map->gZ,mem_of_getElem?->ft,nil_append->ca,nodup_append->rS,pairwise_iff_getElem->q2,take_length->jA,take_of_length_le->iv
open List.Pairwise renaming map->ayi
open List.cons renaming injEq->rQ
open Nat renaming add_mul->q3,le_refl->dO,le_trans->kD,mul_le_mul_right->rT
open Option renaming isSome_iff_exists->fx,isSome_none->kf,map_eq_some_iff->hq,map_some->pB
open Option.some renaming injEq->dU
open Prod.mk renaming injEq->jo
open _root_ renaming False->eu,Option->bd,UInt8->cS,and_true->jd,beq_iff_eq->ey,congrArg->fy,decide_eq_false->mv,decide_eq_false_iff_not->iO,decide_eq_true->lJ,decide_eq_true_eq->gy,eq_true->h2
namespace Go.Proofs.YtahlgcidhnjlbaaGreat
section
open Go Go.Pv
variable {α:Type} [Inhabited α] {S:List α->cR} {n g cq:Nat} {lc ch:List af} {lt:α->α->Bool}
def wM{p:α->Bool}{d:Array α}{i j:Nat}(h:¬(i<=j/\p d[j]! =true)):Sort.scanDown p d i j=j:=by
 cases j with
 |zero=>rfl
 |succ j=>rw[Sort.scanDown,if_neg (by simpa using h)]
def CI{p:α->Bool}{d:Array α}{i j:Nat}(h:¬(i<=j/\p d[i]! =true)):Sort.scanUp p d j i=i:=by rw[Sort.scanUp,if_neg (by simpa using h)]
def Qc{p:α->Bool}{d:Array α}{i j:Nat}(J:i<=j)(U:p d[i]! =true):Sort.scanUp p d j i=Sort.scanUp p d j (i+1):=by rw[Sort.scanUp,if_pos (by simp[J,U])]
def Qb{p:α->Bool}{d:Array α}{i j:Nat}(J:i<=j+1)(U:p d[j+1]! =true):Sort.scanDown p d i (j+1)=Sort.scanDown p d i j:=by rw[Sort.scanDown,if_pos (by simp[J,U])]
def ai9(H:fR S n g cq lc ch lt)(d:Array α)(P:d.size=n)(a b pivot:Nat)(tc:a<=pivot)(akP:pivot<b)(nj:a+1<b)(ag:b<=n):
  bG au 244 [fC g cq lc ch,aj a,aj b,aj pivot] (S d.toList) fun r ak=>r= .tuple [aj (Sort.partition lt d a b pivot).1,.bool (Sort.partition lt d a b pivot).2.1]/\∃N,ak=S N.toList/\N=(Sort.partition lt d a b pivot).2.2/\N.size=n:=by
 obtain⟨R,bt⟩:∃R,R=Sort.partition lt d a b pivot:=⟨_,rfl⟩;rw[<-bt];unfold Sort.partition at bt;have Q:=H.ok d.toList;have k:d.toList.length=n:=by simpa using P
 have U:∀l m,ae (.loc m) (S l).b=none:=fun l=>(H.ok l).obj.1;have hu:∀l m cs,cJ (.loc m) cs (S l).b=(S l).b++[(.loc m,cs)]:=fun l m cs=>kO (U l m);have ar:∀m,aB.loc m∉cK (S d.toList):=kJ Q.obj;have hle:=H.le;refine bG.mk mixed a6 Tryz.func244 aoz Ψ Q.obj fun aR c4=>?_;unfold Ti;simp[fC,hu,ar,c6,U];rw[H.ssc];refine H.swapA0 P Ω a pivot Ω Ω fun o=>?_;obtain⟨d1,L⟩:∃d1,d1=Sort.swp d a pivot:=⟨_,rfl⟩;have s1:d1.size=n:=by rw[L,hP,P]
 rw[<-L];simp only[<-L]at bt;have ao:((a:Int)+1)=(a+1:Nat):=Ω
 have aC:((b:Int)-1)=(b-1:Nat):=Ω
 simp;(repeat' first|refine al ?_|simp);rw[ao,aC];refine H.loopA k [1,4,11] (fun(i:Nat)=>[(10,aj i)]) (fun _=>d1) (fun i=>b+1-i) (fun i=>a+1<=i/\i<=b/\Sort.scanUp (fun x=>lt x d1[a]!) d1 (b-1) i=Sort.scanUp (fun x=>lt x d1[a]!) d1 (b-1) (a+1)) (a+1) s1 ⟨Ω,Ω,rfl⟩ (by simp[ae]) aX aX dl ?_;rintro i ⟨i1,i2,i3⟩;simp[ae,H.slc];((repeat' first|refine al ?_|simp[ae,H.slc]|((first|apply ct|apply cz|apply cy)<;>intro h<;>try simp at h))<;>(try exact c3));refine H.lessA s1 i a Ω Ω fun o=>?_;cases O:lt d1[i]! d1[a]!;rotate_left
 ·have E:((i:Int)+1)=(i+1:Nat):=Ω
  simp;(repeat' first|refine al ?_|simp);rw[E];refine bY.whl (i+1) Ω ⟨Ω,Ω,by rw[<-i3];exact(Qc (p:=fun x=>lt x d1[a]!) Ω O).symm⟩ (H.weakC k (by simpa using s1) dl)
 rotate_left
 ·have i4:Sort.scanUp (fun x=>lt x d1[a]!) d1 (b-1) i=i:=CI (by simp[O]);rw[i4]at i3;rw[<-i3]at bt;simp;refine H.loopA k [1,4,10] (fun(j:Nat)=>[(11,aj j)]) (fun _=>d1) (fun j=>j) (fun j=>i<=j+1/\j<=b-1/\Sort.scanDown (fun x=> !lt x d1[a]!) d1 i j=Sort.scanDown (fun x=> !lt x d1[a]!) d1 i (b-1)) (b-1) s1 ⟨Ω,Ω,rfl⟩ (by simp[ae]) aX aX dl ?_;rintro j ⟨ir,xO,u⟩;simp[ae,H.slc];((repeat' first|refine al ?_|simp[ae,H.slc,H.ssc]|((first|apply ct|apply cz|apply cy)<;>intro h<;>try simp at h))<;>(try exact c3))
  ·refine H.lessA s1 j a Ω Ω fun o=>?_;cases A:lt d1[j]! d1[a]!
   ·obtain⟨j,rfl⟩:∃dh,j=dh+1:=⟨j-1,Ω⟩;have F:(((j+1:Nat):Int)-1)=(j:Nat):=Ω
    simp;(repeat' first|refine al ?_|simp);try rw[F]
    refine bY.whl j Ω ⟨Ω,Ω,by rw[<-u];exact(Qb (p:=fun x=> !lt x d1[a]!) Ω (by simp[A])).symm⟩ (H.weakC k (by simpa using s1) dl)
   ·have t:Sort.scanDown (fun x=> !lt x d1[a]!) d1 i j=j:=wM (by simp[A]);have Y:i≠j:=fun e=>by subst e;rw[O]at A;cases A
    rw[t]at u;rw[<-u,if_neg Ω]at bt;simp;((repeat' first|refine al ?_|simp[ae,H.slc,H.ssc]|((first|apply ct|apply cz|apply cy)<;>intro h<;>try simp at h))<;>(try exact c3));refine H.swapA s1 Ω i j Ω Ω fun o=>?_;obtain⟨d2,M⟩:∃d2,d2=Sort.swp d1 i j:=⟨_,rfl⟩;have s2:d2.size=n:=by rw[M,hP,s1]
    rw[<-M];rw[<-M]at bt;have bh:((i:Int)+1)=(i+1:Nat):=Ω
    have b3:((j:Int)-1)=(j-1:Nat):=Ω
    simp;(repeat' first|refine al ?_|simp);rw[bh,b3];refine H.loopA k [1,4] (fun(x:(Nat×Nat)×Array α)=>[(10,aj x.1.1),(11,aj x.1.2)]) (·.2) (fun x=>x.1.2+1-x.1.1) (fun x=>x.2.size=n/\(a+1<=x.1.1/\x.1.1<=x.1.2+1/\x.1.2<=b-1)/\Sort.partLoop lt a x.1.1 x.1.2 x.2=Sort.partLoop lt a (i+1) (j-1) d2) ((i+1,j-1),d2) s2 ⟨s2,⟨by simp;omega,by simp;omega,by simp;omega⟩,rfl⟩ (by simp[ae]) aX aX dl ?_;rintro⟨⟨K,dh⟩,c⟩ ⟨f,⟨bK,Z,V⟩,s⟩;simp only at f bK Z V s;rw[Sort.partLoop]at s;generalize kF:Sort.partLoop lt a (i+1) (j-1) d2=G at s bt;simp;refine H.loopA k [1,4,11] (fun(x:Nat)=>[(10,aj x)]) (fun _=>c) (fun x=>b+1-x) (fun x=>K<=x/\x<=dh+1/\Sort.scanUp (fun x=>lt x c[a]!) c dh x=Sort.scanUp (fun x=>lt x c[a]!) c dh K) K f ⟨Ω,Ω,rfl⟩ (by simp[ae]) aX aX dl ?_;rintro p ⟨c2,dD,v⟩;simp[ae,H.slc];((repeat' first|refine al ?_|simp[ae,H.slc]|((first|apply ct|apply cz|apply cy)<;>intro h<;>try simp at h))<;>(try exact c3))
    ·refine H.lessA f p a Ω Ω fun o=>?_;cases J:lt c[p]! c[a]!;rotate_left
     ·have E:((p:Int)+1)=(p+1:Nat):=Ω
      simp;(repeat' first|refine al ?_|simp);rw[E];refine bY.whl (p+1) Ω ⟨Ω,Ω,by rw[<-v];exact(Qc (p:=fun x=>lt x c[a]!) Ω J).symm⟩ (H.weakC k (by simpa using f) dl)
     ·have B:Sort.scanUp (fun x=>lt x c[a]!) c dh p=p:=CI (by simp[J]);rw[B]at v;simp only[<-v]at s;simp;refine H.loopA k [1,4,10] (fun(x:Nat)=>[(11,aj x)]) (fun _=>c) (fun x=>x) (fun x=>p<=x+1/\x<=dh/\Sort.scanDown (fun x=> !lt x c[a]!) c p x=Sort.scanDown (fun x=> !lt x c[a]!) c p dh) dh f ⟨Ω,Ω,rfl⟩ (by simp[ae]) aX aX dl ?_;rintro q ⟨a8,bB,y⟩;simp[ae,H.slc];((repeat' first|refine al ?_|simp[ae,H.slc,H.ssc]|((first|apply ct|apply cz|apply cy)<;>intro h<;>try simp at h))<;>(try exact c3))
      ·refine H.lessA f q a Ω Ω fun o=>?_;cases z:lt c[q]! c[a]!
       ·obtain⟨q,rfl⟩:∃dh,q=dh+1:=⟨q-1,Ω⟩;have F:(((q+1:Nat):Int)-1)=(q:Nat):=Ω
        simp;(repeat' first|refine al ?_|simp);try rw[F]
        refine bY.whl q Ω ⟨Ω,Ω,by rw[<-y];exact(Qb (p:=fun x=> !lt x c[a]!) Ω (by simp[z])).symm⟩ (H.weakC k (by simpa using f) dl)
       ·have w:Sort.scanDown (fun x=> !lt x c[a]!) c p q=q:=wM (by simp[z]);have Y:p≠q:=fun e=>by subst e;rw[J]at z;cases z
        rw[w]at y;simp only[<-y]at s;rw[if_neg Ω,dif_pos Ω]at s;simp;((repeat' first|refine al ?_|simp[ae,H.slc,H.ssc]|((first|apply ct|apply cz|apply cy)<;>intro h<;>try simp at h))<;>(try exact c3));refine H.swapA f Ω p q Ω Ω fun o=>?_;have X:((p:Int)+1)=(p+1:Nat):=Ω
        have W:((q:Int)-1)=(q-1:Nat):=Ω
        simp;(with_reducible repeat' first|((first|apply ct|apply cz|apply cy)<;>intro h<;>try simp at h)|refine al ?_|simp);rw[X,W];refine bY.whl ((p+1,q-1),Sort.swp c p q) d6 ⟨by rw[hP,f],⟨by simp;omega,by simp;omega,by simp;omega⟩,s⟩ (H.weakC k (by simp[hP,f]) dl)
      ·have w:Sort.scanDown (fun x=> !lt x c[a]!) c p q=q:=wM Ω;rw[w]at y;simp only[<-y]at s;rw[if_pos Ω]at s;rw[<-s]at bt;refine H.swapA f Ω q a Ω Ω fun o=>?_;simp;refine H.retR k (d:=Sort.swp c q a) (by rw[hP,f]) (.inl rfl) ?_;simp[dc,ba,be,a1];rw[bt];exact⟨⟨rfl,rfl⟩,_,rfl,rfl,by rw[hP,f]⟩
    ·have B:Sort.scanUp (fun x=>lt x c[a]!) c dh p=p:=CI Ω;rw[B]at v;simp only[<-v]at s;have w:Sort.scanDown (fun x=> !lt x c[a]!) c p dh=dh:=wM Ω;rw[w,if_pos Ω]at s;rw[<-s]at bt;refine H.loopA k [1,4,10] (fun(x:Nat)=>[(11,aj x)]) (fun _=>c) (fun x=>x) (fun x=>x=dh) dh f rfl (by simp[ae]) aX aX dl ?_;rintro q rfl;simp[ae,H.slc];((repeat' first|refine al ?_|simp[ae,H.slc,H.ssc]|((first|apply ct|apply cz|apply cy)<;>intro h<;>try simp at h))<;>(try exact c3));refine H.swapA f Ω q a Ω Ω fun o=>?_;simp;refine H.retR k (d:=Sort.swp c q a) (by rw[hP,f]) (.inl rfl) ?_;simp[dc,ba,be,a1];rw[bt];exact⟨⟨rfl,rfl⟩,_,rfl,rfl,by rw[hP,f]⟩
  ·have t:Sort.scanDown (fun x=> !lt x d1[a]!) d1 i j=j:=wM Ω;rw[t]at u;rw[<-u,if_pos Ω]at bt;refine H.swapA s1 Ω j a Ω Ω fun o=>?_;simp;refine H.retR k (d:=Sort.swp d1 j a) (by rw[hP,s1]) (.inl rfl) ?_;simp[dc,ba,be,a1];rw[bt];exact⟨⟨rfl,rfl⟩,_,rfl,rfl,by rw[hP,s1]⟩
 ·have i4:Sort.scanUp (fun x=>lt x d1[a]!) d1 (b-1) i=i:=CI Ω;rw[i4]at i3;have t:Sort.scanDown (fun x=> !lt x d1[a]!) d1 i (b-1)=b-1:=wM Ω;rw[<-i3,t,if_pos Ω]at bt;refine H.loopA k [1,4,10] (fun(j:Nat)=>[(11,aj j)]) (fun _=>d1) (fun j=>j) (fun j=>j=b-1) (b-1) s1 rfl (by simp[ae]) aX aX dl ?_;rintro j rfl;simp[ae,H.slc];((repeat' first|refine al ?_|simp[ae,H.slc,H.ssc]|((first|apply ct|apply cz|apply cy)<;>intro h<;>try simp at h))<;>(try exact c3));refine H.swapA s1 Ω (b-1) a Ω Ω fun o=>?_;simp;refine H.retR k (d:=Sort.swp d1 (b-1) a) (by rw[hP,s1]) (.inl rfl) ?_;simp[dc,ba,be,a1];rw[bt];exact⟨⟨rfl,rfl⟩,_,rfl,rfl,by rw[hP,s1]⟩
end
section
open Go Go.Pv
variable {α:Type} [Inhabited α] {S:List α->cR} {n g cq:Nat} {lc ch:List af} {lt:α->α->Bool}
def aja(H:fR S n g cq lc ch lt)(d:Array α)(B:d.size=n)(a b pivot:Nat)(W:a<=pivot)(Q:pivot<b)(X:a+1<b)(ag:b<=n):
  bG au 243 [fC g cq lc ch,aj a,aj b,aj pivot] (S d.toList) fun r U=>r=aj (Sort.partitionEqual lt d a b pivot).1/\∃A,U=S A.toList/\A=(Sort.partitionEqual lt d a b pivot).2/\A.size=n:=by
 obtain⟨R,bt⟩:∃R,R=Sort.partitionEqual lt d a b pivot:=⟨_,rfl⟩;rw[<-bt];unfold Sort.partitionEqual at bt;have E:=H.ok d.toList;have j:d.toList.length=n:=by simpa using B
 have F:∀l m,ae (.loc m) (S l).b=none:=fun l=>(H.ok l).obj.1;have hu:∀l m cs,cJ (.loc m) cs (S l).b=(S l).b++[(.loc m,cs)]:=fun l m cs=>kO (F l m);have ar:∀m,aB.loc m∉cK (S d.toList):=kJ E.obj;have hle:=H.le;refine bG.mk mixed a6 Tryz.func243 aoy Ψ E.obj fun aR c4=>?_;unfold Th;simp[fC,hu,ar,c6,F];rw[H.ssc];refine H.swapA0 B Ω a pivot Ω Ω fun o=>?_;obtain⟨d1,z⟩:∃d1,d1=Sort.swp d a pivot:=⟨_,rfl⟩;have s1:d1.size=n:=by rw[z,hP,B]
 rw[<-z];rw[<-z]at bt;have P:((a:Int)+1)=(a+1:Nat):=Ω
 have V:((b:Int)-1)=(b-1:Nat):=Ω
 simp;(repeat' first|refine al ?_|simp);rw[P,V];refine H.loopA j [1,4] (fun(x:(Nat×Nat)×Array α)=>[(9,aj x.1.1),(10,aj x.1.2)]) (·.2) (fun x=>x.1.2+1-x.1.1) (fun x=>x.2.size=n/\(a+1<=x.1.1/\x.1.1<=x.1.2+1/\x.1.2<=b-1)/\Sort.partEqLoop lt a x.1.1 x.1.2 x.2=R) ((a+1,b-1),d1) s1 ⟨s1,⟨Ψ,by simp;omega,Ψ⟩,bt.symm⟩ (by simp[ae]) aX aX dl ?_;rintro⟨⟨y,dh⟩,c⟩ ⟨f,⟨O,N,K⟩,i⟩;simp only at f O N K i;rw[Sort.partEqLoop]at i;simp;refine H.loopA j [1,4,10] (fun(x:Nat)=>[(9,aj x)]) (fun _=>c) (fun x=>b+1-x) (fun x=>y<=x/\x<=dh+1/\Sort.scanUp (fun x=> !lt c[a]! x) c dh x=Sort.scanUp (fun x=> !lt c[a]! x) c dh y) y f ⟨Ω,Ω,rfl⟩ (by simp[ae]) aX aX dl ?_;rintro p ⟨c2,Y,k⟩;simp[ae,H.slc];((repeat' first|refine al ?_|simp[ae,H.slc]|((first|apply ct|apply cz|apply cy)<;>intro h<;>try simp at h))<;>(try exact c3))
 ·refine H.lessA f a p Ω Ω fun o=>?_;cases w:lt c[a]! c[p]!
  ·have G:((p:Int)+1)=(p+1:Nat):=Ω
   simp;(repeat' first|refine al ?_|simp);rw[G];refine bY.whl (p+1) Ω ⟨Ω,Ω,by rw[<-k];exact(Qc (p:=fun x=> !lt c[a]! x) Ω (by simp[w])).symm⟩ (H.weakC j (by simpa using f) dl)
  ·have v:Sort.scanUp (fun x=> !lt c[a]! x) c dh p=p:=CI (by simp[w]);rw[v]at k;simp only[<-k]at i;simp;refine H.loopA j [1,4,9] (fun(x:Nat)=>[(10,aj x)]) (fun _=>c) (fun x=>x) (fun x=>p<=x+1/\x<=dh/\Sort.scanDown (fun x=>lt c[a]! x) c p x=Sort.scanDown (fun x=>lt c[a]! x) c p dh) dh f ⟨Ω,Ω,rfl⟩ (by simp[ae]) aX aX dl ?_;rintro q ⟨a8,bB,t⟩;simp[ae,H.slc];((repeat' first|refine al ?_|simp[ae,H.slc,H.ssc]|((first|apply ct|apply cz|apply cy)<;>intro h<;>try simp at h))<;>(try exact c3))
   ·refine H.lessA f a q Ω Ω fun o=>?_;cases u:lt c[a]! c[q]!;rotate_left
    ·obtain⟨q,rfl⟩:∃dh,q=dh+1:=⟨q-1,Ω⟩;have J:(((q+1:Nat):Int)-1)=(q:Nat):=Ω
     simp;(repeat' first|refine al ?_|simp);try rw[J]
     refine bY.whl q Ω ⟨Ω,Ω,by rw[<-t];exact(Qb (p:=fun x=>lt c[a]! x) Ω (by simp[u])).symm⟩ (H.weakC j (by simpa using f) dl)
    ·have s:Sort.scanDown (fun x=>lt c[a]! x) c p q=q:=wM (by simp[u]);have Z:p≠q:=fun e=>by subst e;rw[w]at u;cases u
     rw[s]at t;simp only[<-t]at i;rw[if_neg Ω,dif_pos Ω]at i;simp;((repeat' first|refine al ?_|simp[ae,H.slc,H.ssc]|((first|apply ct|apply cz|apply cy)<;>intro h<;>try simp at h))<;>(try exact c3));refine H.swapA f Ω p q Ω Ω fun o=>?_;have M:((p:Int)+1)=(p+1:Nat):=Ω
     have L:((q:Int)-1)=(q-1:Nat):=Ω
     simp;(with_reducible repeat' first|((first|apply ct|apply cz|apply cy)<;>intro h<;>try simp at h)|refine al ?_|simp);rw[M,L];refine bY.whl ((p+1,q-1),Sort.swp c p q) d6 ⟨by rw[hP,f],⟨by simp;omega,by simp;omega,by simp;omega⟩,i⟩ (H.weakC j (by simp[hP,f]) dl)
   ·have s:Sort.scanDown (fun x=>lt c[a]! x) c p q=q:=wM Ω;rw[s]at t;simp only[<-t]at i;rw[if_pos Ω]at i;refine H.retR j (d:=c) f (.inl rfl) ?_;simp[dc,ba,be,a1];rw[<-i];exact⟨rfl,_,rfl,rfl,f⟩
 ·have v:Sort.scanUp (fun x=> !lt c[a]! x) c dh p=p:=CI Ω;rw[v]at k;simp only[<-k]at i;have s:Sort.scanDown (fun x=>lt c[a]! x) c p dh=dh:=wM Ω;rw[s,if_pos Ω]at i;refine H.loopA j [1,4,9] (fun(x:Nat)=>[(10,aj x)]) (fun _=>c) (fun x=>x) (fun x=>x=dh) dh f rfl (by simp[ae]) aX aX dl ?_;rintro q rfl;simp[ae,H.slc];((repeat' first|refine al ?_|simp[ae,H.slc,H.ssc]|((first|apply ct|apply cz|apply cy)<;>intro h<;>try simp at h))<;>(try exact c3));refine H.retR j (d:=c) f (.inl rfl) ?_;simp[dc,ba,be,a1];rw[<-i];exact⟨rfl,_,rfl,rfl,f⟩
end
section
open Go Go.Pv
variable {α:Type} [Inhabited α] {S:List α->cR} {n g cq:Nat} {lc ch:List af} {lt:α->α->Bool}
def ai8(H:fR S n g cq lc ch lt)(d:Array α)(W:d.size=n)(a b:Nat)(nj:a<b)(ag:b<=n)(U:2<=n):
  bG au 242 [fC g cq lc ch,aj a,aj b] (S d.toList) fun r ak=>r= .bool (Sort.partialInsertionSort lt d a b).2/\∃Q,ak=S Q.toList/\Q=(Sort.partialInsertionSort lt d a b).1/\Q.size=n:=by
 obtain⟨R,bt⟩:∃R,R=Sort.partialInsertionSort lt d a b:=⟨_,rfl⟩;rw[<-bt];unfold Sort.partialInsertionSort at bt;have Z:=H.ok d.toList;have k:d.toList.length=n:=by simpa using W
 have X:∀l m,ae (.loc m) (S l).b=none:=fun l=>(H.ok l).obj.1;have hu:∀l m cs,cJ (.loc m) cs (S l).b=(S l).b++[(.loc m,cs)]:=fun l m cs=>kO (X l m);have ar:∀m,aB.loc m∉cK (S d.toList):=kJ Z.obj;have hle:=H.le;refine bG.mk mixed a6 Tryz.func242 aox Ψ Z.obj fun aR c4=>?_;unfold Tg;simp[fC,hu,ar,c6,X];have ao:((a:Int)+1)=(a+1:Nat):=Ω
 (repeat' first|refine al ?_|simp);rw[ao];refine H.loopA k [1,2,3] (fun(x:(Nat×Nat)×Array α)=>[(7,aj x.1.1),(8,aj x.1.2)]) (·.2) (fun x=>5-x.1.2) (fun x=>x.2.size=n/\(a+1<=x.1.1/\x.1.1<=b/\x.1.2<=5)/\Sort.partialIns lt a b (5-x.1.2) x.1.1 x.2=R) ((a+1,0),d) W ⟨W,⟨Ψ,by simp;omega,Ψ⟩,bt.symm⟩ (by simp[c6,X]) aX aX dl ?_;rintro⟨⟨i0,s⟩,z⟩ ⟨w,⟨bK,cp,eD⟩,c⟩;simp only at w bK cp eD c;simp;((repeat' first|refine al ?_|simp|((first|apply ct|apply cz|apply cy)<;>intro h<;>try simp at h))<;>(try exact c3))
 ·obtain⟨m,hm⟩:∃m,5-s=m+1:=⟨5-s-1,Ω⟩;rw[hm,Sort.partialIns]at c;refine H.loopA k [1,2,3,8] (fun(x:Nat)=>[(7,aj x)]) (fun _=>z) (fun x=>b-x) (fun x=>i0<=x/\x<=b/\Sort.scanSorted lt z b x=Sort.scanSorted lt z b i0) i0 w ⟨Ω,Ω,rfl⟩ (by simp[ae]) aX aX dl ?_;rintro i ⟨i1,i2,i3⟩;rw[Sort.scanSorted]at i3;have M:((i:Int)+1)=(i+1:Nat):=Ω
  have N:((i:Int)-1)=(i-1:Nat):=Ω
  have es:((s:Int)+1)=(s+1:Nat):=Ω
  have em:5-(s+1)=m:=Ω
  simp[ae,H.slc];((repeat' first|refine al ?_|simp[ae,H.slc]|((first|apply ct|apply cz|apply cy)<;>intro h<;>try simp at h))<;>(try exact c3))
  ·rw[N];refine H.lessA w i (i-1) Ω Ω fun o=>?_;cases ad:lt z[i]! z[i-1]!
   ·rw[if_pos (by simp[ad];omega)]at i3;simp;(repeat' first|refine al ?_|simp);rw[M];refine bY.whl (i+1) Ω ⟨Ω,Ω,i3⟩ (H.weakC k (by simpa using w) dl)
   ·rw[if_neg (by simp[ad])]at i3;simp only[<-i3]at c;rw[if_neg Ω]at c;have Br:(i:Int)≠b:=Ω
    have V:((i:Int)==b)=false:=by simp;omega
    simp;((repeat' first|refine al ?_|simp[Br,V,ae,H.slc,H.ssc]|((first|apply ct|apply cz|apply cy)<;>intro h<;>try simp at h))<;>(try exact c3))
    ·rw[if_pos Ω]at c;refine H.retR k (d:=z) w (.inl rfl) ?_;simp[dc,ba,be,a1];rw[<-c];exact⟨rfl,_,rfl,rfl,w⟩
    ·rw[if_neg Ω]at c;rw[N];refine H.swapA w U i (i-1) Ω Ω fun o=>?_;obtain⟨d2,P⟩:∃d2,d2=Sort.swp z i (i-1):=⟨_,rfl⟩;have s2:d2.size=n:=by rw[P,hP,w]
     rw[<-P];simp only[<-P]at c;by_cases Y:2<=b-i
     ·rw[if_pos Y]at c;have y:(2:Int)<=(b:Int)-i:=Ω
      by_cases L:2<=i-a
      ·rw[if_pos L]at c;have B:(2:Int)<=(i:Int)-a:=Ω
       simp;(repeat' first|refine al ?_|simp[B]);rw[N];refine H.loopA k [1,2,3,7,8] (fun(x:Nat×Array α)=>[(9,aj x.1)]) (·.2) (fun x=>x.1) (fun x=>x.2.size=n/\x.1<=i-1/\Sort.shiftDown lt x.1 x.2=Sort.shiftDown lt (i-1) d2) (i-1,d2) s2 ⟨s2,Ψ,rfl⟩ (by simp[ae]) aX aX dl ?_;rintro⟨j,v⟩ ⟨p,O,u⟩;simp only at p O u;simp[ae,H.slc,H.ssc];((repeat' first|refine al ?_|simp[ae,H.slc,H.ssc,y]|((first|apply ct|apply cz|apply cy)<;>intro h<;>try simp at h))<;>(try exact c3))
       ·obtain⟨j,rfl⟩:∃dh,j=dh+1:=⟨j-1,Ω⟩;have E:(((j+1:Nat):Int)-1)=(j:Nat):=Ω
        rw[Sort.shiftDown]at u;try rw[E]
        refine H.lessA p (j+1) j Ω Ω fun o=>?_;cases J:lt v[j+1]! v[j]!
        ·rw[if_pos (by simp[J])]at u;rw[<-u]at c;try simp
         try(repeat' first|refine al ?_|simp[ae,H.slc,H.ssc,y])
         rw[M];refine H.loopA k [1,2,3,7,8] (fun(x:Nat×Array α)=>[(10,aj x.1)]) (·.2) (fun x=>b-x.1) (fun x=>x.2.size=n/\(i+1<=x.1/\x.1<=b)/\Sort.shiftUp lt b x.1 x.2=Sort.shiftUp lt b (i+1) v) (i+1,v) p ⟨p,⟨Ψ,by simp;omega⟩,rfl⟩ (by simp[ae]) aX aX dl ?_;rintro⟨q,t⟩ ⟨f,⟨G,F⟩,e⟩;simp only at f G F e;rw[Sort.shiftUp]at e;have eq:((q:Int)-1)=(q-1:Nat):=Ω
         have K:((q:Int)+1)=(q+1:Nat):=Ω
         simp[ae,H.slc,H.ssc];((repeat' first|refine al ?_|simp[ae,H.slc,H.ssc]|((first|apply ct|apply cz|apply cy)<;>intro h<;>try simp at h))<;>(try exact c3))
         ·rw[if_pos Ω]at e;rw[eq];refine H.lessA f q (q-1) Ω Ω fun o=>?_;cases A:lt t[q]! t[q-1]!
          ·rw[if_pos (by simp[A])]at e;rw[<-e]at c;simp;(repeat' first|refine al ?_|simp);rw[es];refine bY.whl ((i,s+1),t) d6 ⟨f,⟨by simp;omega,by simp;omega,by simp;omega⟩,by simp only[em];exact c⟩ (H.weakC k (by simpa using f) dl)
          ·rw[if_neg (by simp[A])]at e;simp;(repeat' first|refine al ?_|simp[ae,H.slc,H.ssc]);rw[eq];refine H.swapA f Ω q (q-1) Ω Ω fun o=>?_;simp;((repeat' first|refine al ?_|simp|((first|apply ct|apply cz|apply cy)<;>intro h<;>try simp at h))<;>(try exact c3));rw[K];refine bY.whl (q+1,Sort.swp t q (q-1)) d6 ⟨by rw[hP,f],⟨by simp;omega,by simp;omega⟩,e⟩ (H.weakC k (by simp[hP,f]) dl)
         ·rw[if_neg Ω]at e;rw[<-e]at c;rw[es];refine bY.whl ((i,s+1),t) d6 ⟨f,⟨by simp;omega,by simp;omega,by simp;omega⟩,by simp only[em];exact c⟩ (H.weakC k (by simpa using f) dl)
        ·rw[if_neg (by simp[J])]at u;simp;(repeat' first|refine al ?_|simp[ae,H.slc,H.ssc]);try rw[E]
         refine H.swapA p U (j+1) j Ω Ω fun o=>?_;simp;((repeat' first|refine al ?_|simp|((first|apply ct|apply cz|apply cy)<;>intro h<;>try simp at h))<;>(try exact c3));try rw[E]
         refine bY.whl (j,Sort.swp v (j+1) j) Ψ ⟨by rw[hP,p],by simp;omega,u⟩ (H.weakC k (by simp[hP,p]) dl)
       ·obtain rfl:j=0:=Ω
        rw[Sort.shiftDown]at u;rw[<-u]at c;try simp
        try(repeat' first|refine al ?_|simp[ae,H.slc,H.ssc,y])
        rw[M];refine H.loopA k [1,2,3,7,8] (fun(x:Nat×Array α)=>[(10,aj x.1)]) (·.2) (fun x=>b-x.1) (fun x=>x.2.size=n/\(i+1<=x.1/\x.1<=b)/\Sort.shiftUp lt b x.1 x.2=Sort.shiftUp lt b (i+1) v) (i+1,v) p ⟨p,⟨Ψ,by simp;omega⟩,rfl⟩ (by simp[ae]) aX aX dl ?_;rintro⟨q,t⟩ ⟨f,⟨G,F⟩,e⟩;simp only at f G F e;rw[Sort.shiftUp]at e;have eq:((q:Int)-1)=(q-1:Nat):=Ω
        have K:((q:Int)+1)=(q+1:Nat):=Ω
        simp[ae,H.slc,H.ssc];((repeat' first|refine al ?_|simp[ae,H.slc,H.ssc]|((first|apply ct|apply cz|apply cy)<;>intro h<;>try simp at h))<;>(try exact c3))
        ·rw[if_pos Ω]at e;rw[eq];refine H.lessA f q (q-1) Ω Ω fun o=>?_;cases A:lt t[q]! t[q-1]!
         ·rw[if_pos (by simp[A])]at e;rw[<-e]at c;simp;(repeat' first|refine al ?_|simp);rw[es];refine bY.whl ((i,s+1),t) d6 ⟨f,⟨by simp;omega,by simp;omega,by simp;omega⟩,by simp only[em];exact c⟩ (H.weakC k (by simpa using f) dl)
         ·rw[if_neg (by simp[A])]at e;simp;(repeat' first|refine al ?_|simp[ae,H.slc,H.ssc]);rw[eq];refine H.swapA f Ω q (q-1) Ω Ω fun o=>?_;simp;((repeat' first|refine al ?_|simp|((first|apply ct|apply cz|apply cy)<;>intro h<;>try simp at h))<;>(try exact c3));rw[K];refine bY.whl (q+1,Sort.swp t q (q-1)) d6 ⟨by rw[hP,f],⟨by simp;omega,by simp;omega⟩,e⟩ (H.weakC k (by simp[hP,f]) dl)
        ·rw[if_neg Ω]at e;rw[<-e]at c;rw[es];refine bY.whl ((i,s+1),t) d6 ⟨f,⟨by simp;omega,by simp;omega,by simp;omega⟩,by simp only[em];exact c⟩ (H.weakC k (by simpa using f) dl)
      ·rw[if_neg L]at c;have B:¬(2:Int)<=(i:Int)-a:=Ω
       simp;(repeat' first|refine al ?_|simp[B,y]);try simp
       try(repeat' first|refine al ?_|simp[ae,H.slc,H.ssc,y])
       rw[M];refine H.loopA k [1,2,3,7,8] (fun(x:Nat×Array α)=>[(10,aj x.1)]) (·.2) (fun x=>b-x.1) (fun x=>x.2.size=n/\(i+1<=x.1/\x.1<=b)/\Sort.shiftUp lt b x.1 x.2=Sort.shiftUp lt b (i+1) d2) (i+1,d2) s2 ⟨s2,⟨Ψ,by simp;omega⟩,rfl⟩ (by simp[ae]) aX aX dl ?_;rintro⟨q,t⟩ ⟨f,⟨G,F⟩,e⟩;simp only at f G F e;rw[Sort.shiftUp]at e;have eq:((q:Int)-1)=(q-1:Nat):=Ω
       have K:((q:Int)+1)=(q+1:Nat):=Ω
       simp[ae,H.slc,H.ssc];((repeat' first|refine al ?_|simp[ae,H.slc,H.ssc]|((first|apply ct|apply cz|apply cy)<;>intro h<;>try simp at h))<;>(try exact c3))
       ·rw[if_pos Ω]at e;rw[eq];refine H.lessA f q (q-1) Ω Ω fun o=>?_;cases A:lt t[q]! t[q-1]!
        ·rw[if_pos (by simp[A])]at e;rw[<-e]at c;simp;(repeat' first|refine al ?_|simp);rw[es];refine bY.whl ((i,s+1),t) d6 ⟨f,⟨by simp;omega,by simp;omega,by simp;omega⟩,by simp only[em];exact c⟩ (H.weakC k (by simpa using f) dl)
        ·rw[if_neg (by simp[A])]at e;simp;(repeat' first|refine al ?_|simp[ae,H.slc,H.ssc]);rw[eq];refine H.swapA f Ω q (q-1) Ω Ω fun o=>?_;simp;((repeat' first|refine al ?_|simp|((first|apply ct|apply cz|apply cy)<;>intro h<;>try simp at h))<;>(try exact c3));rw[K];refine bY.whl (q+1,Sort.swp t q (q-1)) d6 ⟨by rw[hP,f],⟨by simp;omega,by simp;omega⟩,e⟩ (H.weakC k (by simp[hP,f]) dl)
       ·rw[if_neg Ω]at e;rw[<-e]at c;rw[es];refine bY.whl ((i,s+1),t) d6 ⟨f,⟨by simp;omega,by simp;omega,by simp;omega⟩,by simp only[em];exact c⟩ (H.weakC k (by simpa using f) dl)
     ·rw[if_neg Y]at c;have y:¬(2:Int)<=(b:Int)-i:=Ω
      by_cases L:2<=i-a
      ·rw[if_pos L]at c;have B:(2:Int)<=(i:Int)-a:=Ω
       simp;(repeat' first|refine al ?_|simp[B]);rw[N];refine H.loopA k [1,2,3,7,8] (fun(x:Nat×Array α)=>[(9,aj x.1)]) (·.2) (fun x=>x.1) (fun x=>x.2.size=n/\x.1<=i-1/\Sort.shiftDown lt x.1 x.2=Sort.shiftDown lt (i-1) d2) (i-1,d2) s2 ⟨s2,Ψ,rfl⟩ (by simp[ae]) aX aX dl ?_;rintro⟨j,v⟩ ⟨p,O,u⟩;simp only at p O u;simp[ae,H.slc,H.ssc];((repeat' first|refine al ?_|simp[ae,H.slc,H.ssc,y]|((first|apply ct|apply cz|apply cy)<;>intro h<;>try simp at h))<;>(try exact c3))
       ·obtain⟨j,rfl⟩:∃dh,j=dh+1:=⟨j-1,Ω⟩;have E:(((j+1:Nat):Int)-1)=(j:Nat):=Ω
        rw[Sort.shiftDown]at u;try rw[E]
        refine H.lessA p (j+1) j Ω Ω fun o=>?_;cases J:lt v[j+1]! v[j]!
        ·rw[if_pos (by simp[J])]at u;rw[<-u]at c;try simp
         try(repeat' first|refine al ?_|simp[ae,H.slc,H.ssc,y])
         rw[es];refine bY.whl ((i,s+1),v) d6 ⟨p,⟨by simp;omega,by simp;omega,by simp;omega⟩,by simp only[em];exact c⟩ (H.weakC k (by simpa using p) dl)
        ·rw[if_neg (by simp[J])]at u;simp;(repeat' first|refine al ?_|simp[ae,H.slc,H.ssc]);try rw[E]
         refine H.swapA p U (j+1) j Ω Ω fun o=>?_;simp;((repeat' first|refine al ?_|simp|((first|apply ct|apply cz|apply cy)<;>intro h<;>try simp at h))<;>(try exact c3));try rw[E]
         refine bY.whl (j,Sort.swp v (j+1) j) Ψ ⟨by rw[hP,p],by simp;omega,u⟩ (H.weakC k (by simp[hP,p]) dl)
       ·obtain rfl:j=0:=Ω
        rw[Sort.shiftDown]at u;rw[<-u]at c;try simp
        try(repeat' first|refine al ?_|simp[ae,H.slc,H.ssc,y])
        rw[es];refine bY.whl ((i,s+1),v) d6 ⟨p,⟨by simp;omega,by simp;omega,by simp;omega⟩,by simp only[em];exact c⟩ (H.weakC k (by simpa using p) dl)
      ·rw[if_neg L]at c;have B:¬(2:Int)<=(i:Int)-a:=Ω
       simp;((repeat' first|refine al ?_|simp[B,y]|((first|apply ct|apply cz|apply cy)<;>intro h<;>try simp at h))<;>(try exact c3));done
  ·rw[if_neg d6]at i3;simp only[<-i3]at c;rw[if_pos Ω]at c;refine H.retR k (d:=z) w (.inl rfl) ?_;simp[dc,ba,be,a1];rw[<-c];exact⟨rfl,_,rfl,rfl,w⟩
 ·have:5-s=0:=Ω
  rw[this,Sort.partialIns]at c;refine H.retR k (d:=z) w (.inl rfl) ?_;simp[dc,ba,be,a1];rw[<-c];exact⟨rfl,_,rfl,rfl,w⟩
end
section
open Go Go.Pv
variable {α:Type} [Inhabited α] {S:List α->cR} {n g cq:Nat} {lc ch:List af} {lt:α->α->Bool}
def fX(S:List α->cR)(d:Array α)(v:Nat):cR:=⟨(.obj 901,[aj v])::(S d.toList).b,(S d.toList).e⟩
def tL(S:List α->cR)(m:Nat):Prop:= ∀l,ae (.obj m) (S l).b=none/\ae (.obj m) (S l).e=none
def oY(H:fR S n g cq lc ch lt)(d:Array α)(v:Nat):ez (fX S d v):=by
 have h:=H.ok d.toList;have b:∀k,aM (S d.toList) k->aM (fX S d v) k:=fun k a=>by
  rcases a with a|a
  ·refine .inl ?_;simp only[fX,ae];split
   ·rfl
   ·exact a
  ·exact .inr a
 refine⟨⟨fun m=>?_,h.obj.2⟩,fun k cs a=>?_,fun k o ar xs c=>jj b _ (h.ke k o ar xs c)⟩
 ·simp[fX,ae,h.obj.1 m]
 ·simp only[fX,ae]at a;split at a
  ·cases a;simp[aH,az]
  ·exact jj b _ (h.kb k cs a)
def uh(d:Array α)(v v':Nat):Same (fX S d v) (fX S d v'):=⟨fun k=>by simp only[fX,ae];split<;>rfl,fun _=>rfl⟩
def Mp(H:fR S n g cq lc ch lt)(u:tL S 901)(d:Array α)(A:d.size=n)(a b v:Nat)(K:a<n)(L:b<n)(N:v<=1000):
  bG au 271 [fC g cq lc ch,aj a,aj b,.ptr (.obj 901) 0] (fX S d v) fun r f=>r= .tuple [aj (Sort.order2 lt d a b v).1,aj (Sort.order2 lt d a b v).2.1]/\f=fX S d (Sort.order2 lt d a b v).2.2:=by
 have z:=H.ok d.toList;have s:d.toList.length=n:=by simpa using A
 have h:∀l m,ae (.loc m) (S l).b=none:=fun l=>(H.ok l).obj.1;have hu:∀l m cs,cJ (.loc m) cs (S l).b=(S l).b++[(.loc m,cs)]:=fun l m cs=>kO (h l m);have ar:∀m,aB.loc m∉cK (S d.toList):=kJ z.obj;have p:∀l,ae (.obj 901) (S l).b=none:=fun l=>(u l).1;have G:∀l,ae (.obj 901) (S l).e=none:=fun l=>(u l).2;have hle:=H.le;have j:=oY H d v;obtain⟨R,bt⟩:∃R,R=Sort.order2 lt d a b v:=⟨_,rfl⟩;rw[<-bt];unfold Sort.order2 at bt;refine bG.mk mixed a6 Tryz.func271 aow Ψ j.obj fun M J=>?_;unfold Tf;have i:aB.loc 0∉cK (fX S d v):=kJ j.obj 0;generalize F:cK (fX S d v)=ob at i⊢;unfold fX;simp[fC,hu,i,c6,h,ae,cJ];rw[H.slc];refine CallDo.ob (H.less d.toList s b a _ _ (AH Ω) (AH Ω)) (H.ok _) (fun k cs c=>?_) (fun _ _ c=>c) (by simp[az,aH,H.klc d.toList s]) ?_
 ·simp only[ae];split
  ·rename_i e;subst e;rw[p]at c;cases c
  ·rw[c6,c]
 rintro r f ⟨rfl,rfl⟩;refine⟨Same.refl _,?_⟩;have hw:cL (S d.toList).b ((aB.obj 901,[af.int .i64 v])::((S d.toList).b++[(aB.loc 0,[af.func g lc,af.func cq ch])]))=[(aB.obj 901,[af.int .i64 v]),(aB.loc 0,[af.func g lc,af.func cq ch])]:=by simp only[cL,p];rw[jz,hH];simp[cL,h]
 rw[hw,hH];have q:∀(t:List (Nat×af)) (o:List aB) (v':Nat) (aY:List af) (x y:Nat),Pv.get 8 t=aj x->Pv.get 9 t=aj y->R=(x,y,v')->
   c5 [.tmp 8,.tmp 9] (fX S d v) (fun r f=>r= .tuple [aj R.1,aj R.2.1]/\f=fX S d R.2.2) .ret ⟨t,(aB.obj 901,[aj v'])::(aB.loc 0,aY)::(S d.toList).b,(S d.toList).e,1,o⟩:=by
  rintro t o v' aY x y c B rfl;refine c5.at (fX S d v') (.inl rfl) (oY H d v') (uh _ _ _) (fun k cs aw=>?_) (fun _ _ aw=>aw) ?_
  ·simp only[fX,ae]at aw⊢;split at aw
   ·rename_i e;rw[if_pos e];exact aw
   ·rename_i e;rw[if_neg e];split
    ·rename_i E;subst E;rw[h]at aw;cases aw
    ·exact aw
  ·simp[dc,ba,be,a1,c,B]
 cases c:lt d[b]! d[a]! with
 |true=>
  rw[if_pos c]at bt;simp[ae,cJ];(with_reducible repeat' first|refine al ?_|simp[ae,cJ]);have w:((v:Int)+1)=(v+1:Nat):=Ω
  rw[w];exact q _ _ (v+1) _ b a rfl rfl bt
 |false=>rw[if_neg (by simp[c])]at bt;simp[ae,cJ];exact q _ _ v _ a b rfl rfl bt
def Y7{s a:cR}{f:Nat}{args:List af}{r:af}(l:bG au f args s fun g t'=>g=r/\t'=a)(c:ez s)(e:Same s a)(j:aH (aM s) args){t:List (Nat×af)}{aY:List af}{o:List aB}{d:bd Nat}{K:bp->Prop}
  (h:∀o,K ⟨e5 d r t,(.loc 0,aY)::a.b,a.e,1,o⟩):CallDo au f args ⟨t,s.b++[(.loc 0,aY)],s.e,1,o⟩ d K:=by
 refine CallDo.ob l c (fun k cs b=>by rw[c6,b]) (fun _ _ b=>b) j ?_;rintro r a ⟨rfl,rfl⟩;refine⟨e,?_⟩;have i:cL s.b (s.b++[(.loc 0,aY)])=[(.loc 0,aY)]:=by rw[jz,hH];simp[cL,c.obj.1 0]
 have m:cL s.e s.e=[]:=hH _;simp only[i,m];exact h _
def E3{s a:cR}{f:Nat}{args:List af}{r:af}(l:bG au f args s fun g t'=>g=r/\t'=a)(c:ez s)(e:Same s a)(j:aH (aM s) args){t:List (Nat×af)}{aY:List af}{o:List aB}{d:bd Nat}{K:bp->Prop}
  (h:∀o,K ⟨e5 d r t,(.loc 0,aY)::a.b,a.e,1,o⟩):CallDo au f args ⟨t,(.loc 0,aY)::s.b,s.e,1,o⟩ d K:=by
 refine CallDo.ob l c (fun k cs b=>?_) (fun _ _ b=>b) j ?_
 ·cases k with
  |loc m=>rw[c.obj.1 m]at b;cases b
  |obj m=>simpa[ae]using b
 rintro r a ⟨rfl,rfl⟩;refine⟨e,?_⟩;have i:cL s.b ((.loc 0,aY)::s.b)=[(.loc 0,aY)]:=by have:=jz s.b [(aB.loc 0,aY)] s.b;rw[hH]at this;simpa[cL,c.obj.1 0]using this
 have n:cL s.e s.e=[]:=hH _;simp only[i,n];exact h _
def Cn{d:Array α}{a b v n:Nat}(c:a<n)(e:b<n):(Sort.order2 lt d a b v).1<n/\(Sort.order2 lt d a b v).2.1<n/\(Sort.order2 lt d a b v).2.2<=v+1:=by unfold Sort.order2;split<;>simp<;>omega
def wo(H:fR S n g cq lc ch lt){d:Array α}(b:d.size=n){v:Nat}:az (aM (fX S d v)) (fC g cq lc ch)/\az (aM (fX S d v)) (.ptr (.obj 901) 0):=by
 refine⟨tE (fun k a=>?_) _ (H.kdata (lk:=d.toList) (by simpa using b)),by simp[az,aM,fX,ae]⟩;rcases a with a|a
 ·refine .inl ?_;simp only[fX,ae];split
  ·rfl
  ·exact a
 ·exact .inr a
def abl(H:fR S n g cq lc ch lt){d:Array α}{v v':Nat}{b:List bW}{Q:af->cR->Prop}{t:List (Nat×af)}{aY:List af}{o:List aB}(h:dc ⟨t,(.loc 0,aY)::(fX S d v').b,(S d.toList).e,1,o⟩ b fun r=>az (aM (fX S d v')) r/\Q r (fX S d v')):
  c5 b (fX S d v) Q .ret ⟨t,(.loc 0,aY)::(fX S d v').b,(S d.toList).e,1,o⟩:=by
 refine c5.at (fX S d v') (.inl rfl) (oY H d v') (uh _ _ _) (fun k cs a=>?_) (fun _ _ aw=>aw) h;cases k with
 |loc m=>rw[(oY H d v').obj.1 m]at a;cases a
 |obj m=>simpa[ae]using a
def Mm(H:fR S n g cq lc ch lt)(k:tL S 901)(d:Array α)(e:d.size=n)(a b c v:Nat)(w:a<n)(x:b<n)(aw:c<n)(N:v<=900):
  bG au 256 [fC g cq lc ch,aj a,aj b,aj c,.ptr (.obj 901) 0] (fX S d v) fun r F=>r=aj (Sort.median lt d a b c v).1/\F=fX S d (Sort.median lt d a b c v).2:=by
 have s:=oY H d v;have p:∀v m,ae (.loc m) (fX S d v).b=none:=fun v=>(oY H d v).obj.1;have G:∀v m cs,cJ (.loc m) cs (fX S d v).b=(fX S d v).b++[(.loc m,cs)]:=fun v m cs=>kO (p v m);have z:aB.loc 0∉cK (fX S d v):=kJ s.obj 0;obtain⟨R,bt⟩:∃R,R=Sort.median lt d a b c v:=⟨_,rfl⟩;rw[<-bt];unfold Sort.median at bt;have f:=Cn (lt:=lt) (d:=d) (v:=v) w x;have l:=Mp H k d e a b v w x Ω;generalize Sort.order2 lt d a b v=E at f l bt;obtain⟨q,t,v1⟩:=E;simp only at f l bt;have h:=Cn (lt:=lt) (d:=d) (v:=v1) f.2.1 aw;have j:=Mp H k d e t c v1 f.2.1 aw Ω;generalize Sort.order2 lt d t c v1=B at h j bt;obtain⟨y,K,v2⟩:=B;simp only at h j bt;have u:=Cn (lt:=lt) (d:=d) (v:=v2) f.1 h.1;have i:=Mp H k d e q y v2 f.1 h.1 Ω;generalize Sort.order2 lt d q y v2=A at u i bt;obtain⟨J,O,v3⟩:=A;simp only at u i bt;refine bG.mk mixed a6 Tryz.func256 aou Ψ s.obj fun M L=>?_;unfold Td;simp[fC,G,z,c6,p];simp only[jl H,H.slc,H.ssc,jg];refine Y7 l (oY H d v) (uh _ _ _) (by simp[az,aH,(wo H e).1];exact(wo H e).2) fun o=>?_;simp[ae];simp only[jl H,H.slc,H.ssc,jg];refine E3 j (oY H d v1) (uh _ _ _) (by simp[az,aH,(wo H e).1];exact(wo H e).2) fun o=>?_;simp[ae];simp only[jl H,H.slc,H.ssc,jg];refine E3 i (oY H d v2) (uh _ _ _) (by simp[az,aH,(wo H e).1];exact(wo H e).2) fun o=>?_;simp;refine abl H ?_;simp[dc,ba,be,a1];rw[bt];exact⟨rfl,rfl⟩
def Mn(H:fR S n g cq lc ch lt)(j:tL S 901)(d:Array α)(b:d.size=n)(a v:Nat)(u:a+1<n)(s:1<=a)(k:v<=900):
  bG au 255 [fC g cq lc ch,aj a,.ptr (.obj 901) 0] (fX S d v) fun r i=>r=aj (Sort.medianAdjacent lt d a v).1/\i=fX S d (Sort.medianAdjacent lt d a v).2:=by
 have e:=oY H d v;have c:∀v m,ae (.loc m) (fX S d v).b=none:=fun v=>(oY H d v).obj.1;have q:∀v m cs,cJ (.loc m) cs (fX S d v).b=(fX S d v).b++[(.loc m,cs)]:=fun v m cs=>kO (c v m);have f:aB.loc 0∉cK (fX S d v):=kJ e.obj 0;have hle:=H.le;have p:=Mm H j d b (a-1) a (a+1) v Ω Ω Ω k;unfold Sort.medianAdjacent;refine bG.mk mixed a6 Tryz.func255 aot Ψ e.obj fun w t=>?_;unfold Tc;have h:((a:Int)-1)=(a-1:Nat):=Ω
 have l:((a:Int)+1)=(a+1:Nat):=Ω
 simp[fC,q,f,c6,c];(with_reducible repeat' first|refine al ?_|simp);simp only[jl H,H.slc,H.ssc,jg,h,l];refine Y7 p (oY H d v) (uh _ _ _) (by simp[az,aH,(wo H b).1];exact(wo H b).2) fun o=>?_;simp;refine abl H ?_;simp[dc,ba,be,a1]
def Y8{m:Nat}(h:tL S m)(l:List α):aB.obj m∉cK (S l):=fun hm=>by
 rcases ND hm with J|J
 ·rw[(h l).1]at J;cases J
 ·rw[(h l).2]at J;cases J
def EU{d:Array α}{a b c v n:Nat}(g:a<n)(i:b<n)(aw:c<n):(Sort.median lt d a b c v).1<n/\(Sort.median lt d a b c v).2<=v+3:=by have f:=Cn (lt:=lt) (d:=d) (v:=v) g i;have h:=Cn (lt:=lt) (d:=d) (v:=(Sort.order2 lt d a b v).2.2) f.2.1 aw;have e:=Cn (lt:=lt) (d:=d) (v:=(Sort.order2 lt d (Sort.order2 lt d a b v).2.1 c (Sort.order2 lt d a b v).2.2).2.2) f.1 h.1;refine⟨e.2.1,kD e.2.2 ?_⟩;omega
def Bu:Sort.Hint->Int
 | .unknown=>0
 | .increasing=>1
 | .decreasing=>2
def aiJ(H:fR S n g cq lc ch lt)(s:tL S 901)(d:Array α)(A:d.size=n)(a b:Nat)(nj:a<b)(ag:b<=n):
  bG au 240 [fC g cq lc ch,aj a,aj b] (S d.toList) fun r U=>r= .tuple [aj (Sort.choosePivot lt d a b).1,aj (Bu (Sort.choosePivot lt d a b).2)]/\U=S d.toList:=by
 have ai:=H.ok d.toList;have av:d.toList.length=n:=by simpa using A
 have B:∀l m,ae (.loc m) (S l).b=none:=fun l=>(H.ok l).obj.1;have hu:∀l m cs,cJ (.loc m) cs (S l).b=(S l).b++[(.loc m,cs)]:=fun l m cs=>kO (B l m);have ar:∀m,aB.loc m∉cK (S d.toList):=kJ ai.obj;have y:∀l,ae (.obj 901) (S l).b=none:=fun l=>(s l).1;have Q:∀l,ae (.obj 901) (S l).e=none:=fun l=>(s l).2;have hle:=H.le;have P:=Y8 s d.toList;obtain⟨R,bt⟩:∃R,R=Sort.choosePivot lt d a b:=⟨_,rfl⟩;rw[<-bt];unfold Sort.choosePivot at bt;refine bG.mk mixed a6 Tryz.func240 aor Ψ ai.obj fun aR c4=>?_;unfold Ta;have O:∀l aY cs,cJ (.obj 901) cs ((S l).b++[(.loc 0,aY)])=(S l).b++[(.loc 0,aY),(.obj 901,cs)]:=fun l aY cs=>by rw[CV (y l)];rfl
 obtain⟨q,bM⟩:∃q,q=(b-a)/4:=⟨_,rfl⟩;have Z:vn.wrap (((b:Int)-a).tdiv 4)=(q:Nat):=by rw[show((b:Int)-a)=((b-a:Nat):Int) by omega,Int.tdiv_eq_ediv_of_nonneg Ω,pt _ Ω];omega
 simp[fC,hu,O,ar,P,c6,B,y,Q,ae,cJ];have z:∀(t:List (Nat×af)) (o:List aB) (b2:List (aB×List af)) (x:Nat) (h:Sort.Hint),Pv.get 6 t=aj x->Pv.get 7 t=aj (Bu h)->R=(x,h)->(∀k cs,ae k (S d.toList).b=some cs->ae k b2=some cs)->
   c5 [.tmp 6,.tmp 7] (S d.toList) (fun r U=>r= .tuple [aj R.1,aj (Bu R.2)]/\U=S d.toList) .ret ⟨t,b2,(S d.toList).e,1,o⟩:=by
  rintro t o b2 x h j aK rfl dZ;refine c5.at (S d.toList) (.inl rfl) ai (Same.refl _) dZ (fun _ _ aw=>aw) ?_;simp[dc,ba,be,a1,j,aK]
 have F:∀(aY:List af) (v:Nat) k cs,ae k (S d.toList).b=some cs->ae k ((.loc 0,aY)::(fX S d v).b)=some cs:=fun aY v k cs h=>by
  simp only[fX,ae];split
  ·rename_i e;subst e;rw[B]at h;cases h
  ·split
   ·rename_i e;subst e;rw[y]at h;cases h
   ·exact h
 have Wa:∀{f:Nat} {args:List af} {r:af} {v:Nat},(bG au f args (fX S d 0) fun ec t'=>ec=r/\t'=fX S d v)->aH (aM (fX S d 0)) args->∀{t:List (Nat×af)} {aY:List af} {o:List aB} {X:bd Nat} {K:bp->Prop},(∀o,K ⟨e5 X r t,(.loc 0,aY)::(fX S d v).b,(S d.toList).e,1,o⟩)->
   CallDo au f args ⟨t,(S d.toList).b++[(.loc 0,aY),(.obj 901,[aj 0])],(S d.toList).e,1,o⟩ X K:=by
  intro f args r v aG p t aY o X K h;refine CallDo.ob aG (oY H d 0) (fun k cs j=>?_) (fun _ _ j=>j) p ?_
  ·simp only[fX,ae]at j;rw[c6];split at j
   ·rename_i e;subst e;rw[y];simp[ae];simpa using j
   ·rw[j]
  rintro r U ⟨rfl,rfl⟩;refine⟨uh _ _ _,?_⟩;have ao:cL (fX S d 0).b ((S d.toList).b++[(.loc 0,aY),(.obj 901,[aj 0])])=[(.loc 0,aY)]:=by
   rw[jz];have:cL (fX S d 0).b (S d.toList).b=[]:=Q5 _ _ fun k x hm=>by
    have:=uZ hm;simp only[fX,ae];split
    ·rfl
    ·exact this
   rw[this];simp[cL,fX,ae,B]
  have aC:cL (fX S d 0).e (S d.toList).e=[]:=hH _;simp only[ao,aC];exact h _
 have p:=fun(v:Nat)=>(wo H A (v:=v));have f1:((a:Int)+q)=(a+q:Nat):=Ω
 have f2:((a:Int)+q*2)=(a+q*2:Nat):=Ω
 have f3:((a:Int)+q*3)=(a+q*3:Nat):=Ω
 dsimp only at bt;rw[<-bM,Nat.mul_one]at bt;by_cases lO:b-a<8
 ·have V:¬(8:Int)<=(b:Int)-a:=Ω
  (with_reducible repeat' first|refine al ?_|simp[V,Z,hu,O,ar,P,c6,B,y,Q,ae,cJ]);rw[f2];refine z _ _ _ (a+q*2) .increasing rfl rfl (by rw[bt,if_neg Ω];simp) (fun k cs h=>by rw[c6,h])
 ·have V:(8:Int)<=(b:Int)-a:=Ω
  by_cases auX:b-a<50
  ·have Mu:¬(50:Int)<=(b:Int)-a:=Ω
   (with_reducible repeat' first|refine al ?_|simp[V,Mu,Z,hu,O,ar,P,c6,B,y,Q,ae,cJ]);simp only[jl H,H.slc,H.ssc,jg,f1,f2,f3];have E:=Mm H s d A (a+q) (a+q*2) (a+q*3) 0 Ω Ω Ω Ω;have G:=EU (lt:=lt) (d:=d) (a:=a+q) (b:=a+q*2) (c:=a+q*3) (v:=0) (n:=n) Ω Ω Ω;rw[if_pos Ω,if_neg Ω]at bt;generalize Sort.median lt d (a+q) (a+q*2) (a+q*3) 0=m at E G bt;obtain⟨x,v⟩:=m;refine Wa E (by simp[az,aH,(p 0).1];exact(p 0).2) fun o=>?_;have w:((v:Int)==0)=decide (v=0):=by rw[qZ];simp
   have J:((v:Int)==12)=decide (v=12):=by rw[qZ];simp;omega
   simp[ae,fX];rcases(by omega:v=0\/v=12\/(v≠0/\v≠12))with i|i|i
   ·have j:((v:Int)==0)=true:=by rw[w];simp[i]
    (with_reducible repeat' first|refine al ?_|simp[j]);all_goals exact z _ _ _ x .increasing rfl rfl (by rw[bt];simp[i]) (F _ v)
   ·have j:((v:Int)==0)=false:=by rw[w];simp[i]
    have u:((v:Int)==12)=true:=by rw[J];simp[i]
    (with_reducible repeat' first|refine al ?_|simp[j,u]);all_goals exact z _ _ _ x .decreasing rfl rfl (by rw[bt];simp[i]) (F _ v)
   ·have j:((v:Int)==0)=false:=by rw[w];simp[i.1]
    have u:((v:Int)==12)=false:=by rw[J];simp[i.2]
    (with_reducible repeat' first|refine al ?_|simp[j,u]);all_goals exact z _ _ _ x .unknown rfl rfl (by rw[bt];simp[i]) (F _ v)
  ·have Mu:(50:Int)<=(b:Int)-a:=Ω
   (with_reducible repeat' first|refine al ?_|simp[V,Mu,Z,hu,O,ar,P,c6,B,y,Q,ae,cJ]);simp only[jl H,H.slc,H.ssc,jg,f1,f2,f3];rw[if_pos Ω,if_pos Ω]at bt;have E:=Mn H s d A (a+q) 0 Ω Ω Ω;have N:=EU (lt:=lt) (d:=d) (a:=a+q-1) (b:=a+q) (c:=a+q+1) (v:=0) (n:=n) Ω Ω Ω;change (Sort.medianAdjacent lt d (a+q) 0).1<n/\(Sort.medianAdjacent lt d (a+q) 0).2<=0+3 at N;generalize Sort.medianAdjacent lt d (a+q) 0=m1 at E N bt;obtain⟨tY,v1⟩:=m1;simp only at E N bt;have G:=Mn H s d A (a+q*2) v1 Ω Ω Ω;have M:=EU (lt:=lt) (d:=d) (a:=a+q*2-1) (b:=a+q*2) (c:=a+q*2+1) (v:=v1) (n:=n) Ω Ω Ω;change (Sort.medianAdjacent lt d (a+q*2) v1).1<n/\(Sort.medianAdjacent lt d (a+q*2) v1).2<=v1+3 at M;generalize Sort.medianAdjacent lt d (a+q*2) v1=m2 at G M bt;obtain⟨Au,v2⟩:=m2;simp only at G M bt;have Y:=Mn H s d A (a+q*3) v2 Ω Ω Ω;have L:=EU (lt:=lt) (d:=d) (a:=a+q*3-1) (b:=a+q*3) (c:=a+q*3+1) (v:=v2) (n:=n) Ω Ω Ω;change (Sort.medianAdjacent lt d (a+q*3) v2).1<n/\(Sort.medianAdjacent lt d (a+q*3) v2).2<=v2+3 at L;generalize Sort.medianAdjacent lt d (a+q*3) v2=m3 at Y L bt;obtain⟨tZ,v3⟩:=m3;simp only at Y L bt;have W:=Mm H s d A tY Au tZ v3 N.1 M.1 L.1 Ω;have Xz:=EU (lt:=lt) (d:=d) (v:=v3) N.1 M.1 L.1;generalize Sort.median lt d tY Au tZ v3=m4 at W Xz bt;obtain⟨x,v⟩:=m4;simp only at W Xz bt;refine Wa E (by simp[az,aH,(p 0).1];exact(p 0).2) fun o=>?_;simp[ae];simp only[jl H,H.slc,H.ssc,jg,f1,f2,f3];refine E3 G (oY H d v1) (uh _ _ _) (by simp[az,aH,(p v1).1];exact(p v1).2) fun o=>?_;simp[ae];simp only[jl H,H.slc,H.ssc,jg,f1,f2,f3];refine E3 Y (oY H d v2) (uh _ _ _) (by simp[az,aH,(p v2).1];exact(p v2).2) fun o=>?_;simp[ae];simp only[jl H,H.slc,H.ssc,jg,f1,f2,f3];refine E3 W (oY H d v3) (uh _ _ _) (by simp[az,aH,(p v3).1];exact(p v3).2) fun o=>?_;have w:((v:Int)==0)=decide (v=0):=by rw[qZ];simp
   have J:((v:Int)==12)=decide (v=12):=by rw[qZ];simp;omega
   simp[ae,fX];rcases(by omega:v=0\/v=12\/(v≠0/\v≠12))with i|i|i
   ·have j:((v:Int)==0)=true:=by rw[w];simp[i]
    (with_reducible repeat' first|refine al ?_|simp[j]);all_goals exact z _ _ _ x .increasing rfl rfl (by rw[bt];simp[i]) (F _ v)
   ·have j:((v:Int)==0)=false:=by rw[w];simp[i]
    have u:((v:Int)==12)=true:=by rw[J];simp[i]
    (with_reducible repeat' first|refine al ?_|simp[j,u]);all_goals exact z _ _ _ x .decreasing rfl rfl (by rw[bt];simp[i]) (F _ v)
   ·have j:((v:Int)==0)=false:=by rw[w];simp[i.1]
    have u:((v:Int)==12)=false:=by rw[J];simp[i.2]
    (with_reducible repeat' first|refine al ?_|simp[j,u]);all_goals exact z _ _ _ x .unknown rfl rfl (by rw[bt];simp[i]) (F _ v)
end
section
open Go Go.Pv
variable {α:Type} [Inhabited α] {S:List α->cR} {n g cq:Nat} {lc ch:List af} {lt:α->α->Bool}
def ary:∀x:Nat,x<256->(((QF:List cS)[x]?).getD 0).toNat=Sort.bitsLen x:=by decide+kernel
def DM(x:Int):x.fdiv (2 ^ (min 32 ik.bits))=x/4294967296:=by rw[show(2:Int) ^ (min 32 ik.bits)=4294967296 from by decide,Int.fdiv_eq_ediv_of_nonneg _ Ω]
def DL(x:Int):x.fdiv (2 ^ (min 16 ik.bits))=x/65536:=by rw[show(2:Int) ^ (min 16 ik.bits)=65536 from by decide,Int.fdiv_eq_ediv_of_nonneg _ Ω]
def DN(x:Int):x.fdiv (2 ^ (min 8 ik.bits))=x/256:=by rw[show(2:Int) ^ (min 8 ik.bits)=256 from by decide,Int.fdiv_eq_ediv_of_nonneg _ Ω]
def FY(x:Nat)(h:x<256):IntKind.u8.wrap (x:Int)=x:=by simp[ub,ps,ua];omega
def KT(x k:Nat)(h:2 ^ k<=x):Sort.bitsLen x=Sort.bitsLen (x/2 ^ k)+k:=by
 have a:x≠0:=by have:=Nat.two_pow_pos k;omega
 have b:x/2 ^ k≠0:=by have:=Nat.div_pos h (Nat.two_pow_pos k);omega
 unfold Sort.bitsLen;rw[if_neg a,if_neg b];have c:=Nat.log2_lt a (k:=Nat.log2 (x/2 ^ k)+k+1);have J:Nat.log2 (x/2 ^ k)+k<=Nat.log2 x:=by
  rw[Nat.le_log2 a,Nat.pow_add];have:=Nat.log2_self_le b;calc 2 ^ (x/2 ^ k).log2*2 ^ k<=(x/2 ^ k)*2 ^ k:=rT _ this
   _<=x:=Nat.div_mul_le_self x _
 have U:Nat.log2 x<Nat.log2 (x/2 ^ k)+k+1:=by rw[c,show Nat.log2 (x/2 ^ k)+k+1=(Nat.log2 (x/2 ^ k)+1)+k by omega,Nat.pow_add];have:=Nat.lt_log2_self (n:=x/2 ^ k);exact(Nat.div_lt_iff_lt_mul (Nat.two_pow_pos k)).1 this
 omega
set_option maxRecDepth 20000 in
def arV(x:Nat)(o:x<1099511627776):bU au 237 [.int .u64 x] (aj (Sort.bitsLen x)):=by
 refine bU.mk mixed a6 Tryz.func237 aoo Ψ dl fun p=>?_;unfold S7;have d:=ary;generalize n:(QF:List cS)=tab at d⊢;have f:tab.length=256:=by rw[<-n];rfl
 clear n;simp[f];have g:∀y:Nat,y<256->Sort.bitsLen y<=8:=by decide+kernel
 have k:4294967296<=x->Sort.bitsLen x=Sort.bitsLen (x/4294967296)+32:=fun h=>KT x 32 h;have m:∀y,65536<=y->Sort.bitsLen y=Sort.bitsLen (y/65536)+16:=fun y h=>KT y 16 h;have l:∀y,256<=y->Sort.bitsLen y=Sort.bitsLen (y/256)+8:=fun y h=>KT y 8 h;by_cases J:4294967296<=x
 ·have c:(4294967296:Int)<=x:=Ω
  have g1:¬(65536:Int)<=(x:Int)/4294967296:=Ω
  have g3:¬(256:Int)<=(x:Int)/4294967296:=Ω
  (repeat' first|refine al ?_|simp[c,g1,g3,DM,DL,DN,f]);have a:x/4294967296<256:=Ω
  have i:=g _ a;have b:(x:Int)/4294967296=((x/4294967296:Nat):Int):=Ω
  rw[b,FY _ a,Int.toNat_natCast];refine⟨Ω,?_⟩;have e:=d _ a;rw[e,pt _ Ω];refine⟨by unfold tB;omega,?_⟩;simp[bZ,ba,be,a1];try((rw[k J])<;>omega)
 ·have c:¬(4294967296:Int)<=x:=Ω
  by_cases U:65536<=x
  ·have g2:(65536:Int)<=x:=Ω
   by_cases j:256<=x/65536
   ·have g3:(256:Int)<=(x:Int)/65536:=Ω
    (repeat' first|refine al ?_|simp[c,g2,g3,DM,DL,DN,f]);have a:x/65536/256<256:=Ω
    have i:=g _ a;have b:(x:Int)/65536/256=((x/65536/256:Nat):Int):=Ω
    rw[b,FY _ a,Int.toNat_natCast];refine⟨Ω,?_⟩;have e:=d _ a;rw[e,pt _ Ω];refine⟨by unfold tB;omega,?_⟩;simp[bZ,ba,be,a1];try((rw[m x U,l _ j])<;>omega)
   ·have g3:¬(256:Int)<=(x:Int)/65536:=Ω
    (repeat' first|refine al ?_|simp[c,g2,g3,DM,DL,DN,f]);have a:x/65536<256:=Ω
    have i:=g _ a;have b:(x:Int)/65536=((x/65536:Nat):Int):=Ω
    rw[b,FY _ a,Int.toNat_natCast];refine⟨Ω,?_⟩;have e:=d _ a;rw[e,pt _ Ω];refine⟨by unfold tB;omega,?_⟩;simp[bZ,ba,be,a1];try((rw[m x U])<;>omega)
  ·have g2:¬(65536:Int)<=x:=Ω
   by_cases j:256<=x
   ·have g3:(256:Int)<=x:=Ω
    (repeat' first|refine al ?_|simp[c,g2,g3,DM,DL,DN,f]);have a:x/256<256:=Ω
    have i:=g _ a;have b:(x:Int)/256=((x/256:Nat):Int):=Ω
    rw[b,FY _ a,Int.toNat_natCast];refine⟨Ω,?_⟩;have e:=d _ a;rw[e,pt _ Ω];refine⟨by unfold tB;omega,?_⟩;simp[bZ,ba,be,a1];try((rw[l x j])<;>omega)
   ·have g3:¬(256:Int)<=x:=Ω
    (repeat' first|refine al ?_|simp[c,g2,g3,DM,DL,DN,f]);have a:x<256:=Ω
    have i:=g _ a;have b:(x:Int)=((x:Nat):Int):=Ω
    rw[b,FY _ a,Int.toNat_natCast];refine⟨Ω,?_⟩;have e:=d _ a;rw[e,pt _ Ω];refine⟨by unfold tB;omega,?_⟩;simp[bZ,ba,be,a1];try((rw[show Sort.bitsLen x=Sort.bitsLen x from rfl])<;>omega)
def arU(x:Nat)(a:x<1099511627776):bU au 213 [.int .u64 x] (aj (Sort.bitsLen x)):=by refine bU.mk mixed a6 Tryz.func213 aon Ψ dl fun b=>?_;unfold S6;have c:=arV x a;exact cr
def ad9(x:Nat)(a:x<1099511627776):Sort.bitsLen x<=40:=by
 unfold Sort.bitsLen;split
 ·omega
 ·rename_i h;have:=(Nat.log2_lt h (k:=40)).2 Ω;omega
def arH{x:Nat}(h:x≠0):2 ^ Sort.bitsLen x<=2*x/\x<2 ^ Sort.bitsLen x:=by unfold Sort.bitsLen;rw[if_neg h];have J:=Nat.log2_self_le h;have U:=Nat.lt_log2_self (n:=x);rw[Nat.pow_succ];rw[Nat.pow_succ]at U;omega
def asR(x:Nat)(b:x<1099511627776):bU au 253 [aj x] (.int .u64 (1<<<Sort.bitsLen x:Nat)):=by
 have f:=ad9 x b;have a:ik.wrap ((x:Nat):Int)=x:=by simp[ub,ps,ua];omega
 have g:ik.wrap ((Sort.bitsLen x:Nat):Int)=Sort.bitsLen x:=by simp[ub,ps,ua];omega
 refine bU.mk mixed a6 Tryz.func253 aov Ψ dl fun h=>?_;unfold Te;simp[a];refine CallDo.val Ψ (arU x b) ?_;simp[a,g];simp[bZ,ba,be,a1];have hm:min (Sort.bitsLen x) ik.bits=Sort.bitsLen x:=by simp[ps];omega
 have e:2 ^ Sort.bitsLen x<=2 ^ 40:=Nat.pow_le_pow_right Ω f;rw[hm];have aw:((2:Int) ^ Sort.bitsLen x)=((2 ^ Sort.bitsLen x:Nat):Int):=Ψ
 have d:((1<<<Sort.bitsLen x:Nat):Int)=((2 ^ Sort.bitsLen x:Nat):Int):=by rw[Nat.one_shiftLeft]
 have c:ik.wrap ((2:Int) ^ Sort.bitsLen x)=((1<<<Sort.bitsLen x:Nat):Int):=by rw[aw,d];generalize 2 ^ Sort.bitsLen x=y at e;simp[ub,ps,ua];omega
 simpa using c
def oj(r:Nat):cR:=⟨[(.obj 902,[.int .u64 r])],[]⟩
def Kz(r:Nat):ez (oj r):=by unfold oj;exact(ez.of ⟨by intro m;simp[ae],by intro m;simp[ae]⟩ (by simp[aH,az,aM,ae]) (by simp[aH,az,aM,ae]))
def Rn(a b:Nat):Same (oj a) (oj b):=⟨fun k=>by simp only[oj,ae];split<;>rfl,fun _=>rfl⟩
def KV(a b:Nat)(d:a<18446744073709551616)(h:b<18446744073709551616):ik.wrap ((rP ik.bits (a:Int) ^^^ rP ik.bits (b:Int)).toNat:Int)=(a ^^^ b:Nat):=by
 have f:a ^^^ b<18446744073709551616:=Nat.xor_lt_two_pow (n:=64) d h;have e:(rP ik.bits (a:Int) ^^^ rP ik.bits (b:Int)).toNat=a ^^^ b:=by
  rw[BitVec.toNat_xor,BitVec.toNat_ofInt,BitVec.toNat_ofInt];have g:((a:Int)%(2 ^ ik.bits:Nat)).toNat=a:=by simp[ps];omega
  have i:((b:Int)%(2 ^ ik.bits:Nat)).toNat=b:=by simp[ps];omega
  rw[g,i]
 rw[e];generalize a ^^^ b=c at f;simp[ub,ps,ua];omega
def aqQ(r:Nat):ik.wrap ((r:Int)*2 ^ (min 13 ik.bits))=(r*8192%18446744073709551616:Nat):=by simp[ub,ps,ua]
def aqR(r:Nat):ik.wrap ((r:Int)*2 ^ (min 17 ik.bits))=(r*131072%18446744073709551616:Nat):=by simp[ub,ps,ua]
def aqS(r:Nat):((r:Int)).fdiv (2 ^ (min 7 ik.bits))=(r/128:Nat):=by rw[show(2:Int) ^ (min 7 ik.bits)=128 from by decide,Int.fdiv_eq_ediv_of_nonneg _ Ω];omega
def aiD(r:Nat)(j:r<18446744073709551616):bG au 254 [.ptr (.obj 902) 0] (oj r) fun t u=>t= .int .u64 (Sort.xorNextN r)/\u=oj (Sort.xorNextN r):=by
 have h:=Kz r;unfold oj at h⊢;refine bG.mk mixed a6 Tryz.func254 aoH Ψ h.obj fun w v=>?_;unfold Tr;obtain⟨m1,o⟩:∃m,m=r*8192%18446744073709551616:=⟨_,rfl⟩;have s1:=aqQ r;rw[<-o]at s1;have e:m1<18446744073709551616:=Ω
 obtain⟨a,c⟩:∃m,m=r ^^^ m1:=⟨_,rfl⟩;have t1:=KV r m1 j e;rw[<-c]at t1;have k:a<18446744073709551616:=by rw[c];exact Nat.xor_lt_two_pow (n:=64) j e
 obtain⟨m2,l⟩:∃m,m=a/128:=⟨_,rfl⟩;have s2:=aqS a;rw[<-l]at s2;have f:m2<18446744073709551616:=Ω
 obtain⟨a2,b⟩:∃m,m=a ^^^ m2:=⟨_,rfl⟩;have t2:=KV a m2 k f;rw[<-b]at t2;have d:a2<18446744073709551616:=by rw[b];exact Nat.xor_lt_two_pow (n:=64) k f
 obtain⟨m3,p⟩:∃m,m=a2*131072%18446744073709551616:=⟨_,rfl⟩;have s3:=aqR a2;rw[<-p]at s3;have s:m3<18446744073709551616:=Ω
 obtain⟨a3,q⟩:∃m,m=a2 ^^^ m3:=⟨_,rfl⟩;have t3:=KV a2 m3 d s;rw[<-q]at t3;have bt:Sort.xorNextN r=a3:=by unfold Sort.xorNextN;simp only[<-o,<-c,<-l,<-b,<-p,<-q]
 rw[bt];simp[-BitVec.toNat_xor,-BitVec.ofInt_natCast,s1,t1,s2,t2,s3,t3];have i:=Kz a3;have g:=Rn r a3;unfold oj at i g;refine c5.at _ (.inl rfl) i g aX aX ?_;simp[dc,ba,be,a1]
end
section
open Go Go.Pv
variable {α:Type} [Inhabited α] {S:List α->cR} {n g cq:Nat} {lc ch:List af} {lt:α->α->Bool}
def ad2(a b:Nat)(d:a<18446744073709551616)(i:b<18446744073709551616):ik.wrap ((rP ik.bits (a:Int)&&& rP ik.bits (b:Int)).toNat:Int)=(a&&& b:Nat):=by
 have f:a&&& b<18446744073709551616:=Nat.lt_of_le_of_lt Nat.and_le_left d;have e:(rP ik.bits (a:Int)&&& rP ik.bits (b:Int)).toNat=a&&& b:=by
  rw[BitVec.toNat_and,BitVec.toNat_ofInt,BitVec.toNat_ofInt];have g:((a:Int)%(2 ^ ik.bits:Nat)).toNat=a:=by simp[ps];omega
  have h:((b:Int)%(2 ^ ik.bits:Nat)).toNat=b:=by simp[ps];omega
  rw[g,h]
 rw[e];generalize a&&& b=c at f;simp[ub,ps,ua];omega
def AJ(a len M i0:Nat)(d:Array α):Nat->UInt64×Array α
 |0=>(UInt64.ofNat len,d)
 |k+1=>Sort.breakStep a len M (AJ a len M i0 d k) (i0+k)
def aed(d:Array α)(a b:Nat)(h:8<=b-a):Sort.breakPatterns d a b=(AJ a (b-a) (1<<<Sort.bitsLen (b-a)) (a+(b-a)/4*2-1) d 3).2:=by unfold Sort.breakPatterns;simp only[if_pos h,AJ];rfl
def ac2{ob O:List aB}{b:cR}(g:ez b)(p:∀k,aM b k->k∈O)(j:∀k∈ob,k∈O){st:bp}{t':List (Nat×af)}{L:List (aB×List af)}{n:Nat}(i:∀x∈t',Pv.get x.1 st.t=x.2/\az (nA b n) x.2)(l:∀x∈L,ae x.1 st.b=some x.2/\nA b n x.1/\aH (nA b n) x.2)
  (r:∀k cs,ae k b.b=some cs->ae k st.b=some cs) (he:∀k o,ae k b.e=some o->ae k st.e=some o):gn ob st ⟨t',L++b.b,b.e,n,O⟩:=by
 have c:∀{k},nA b n k->¬fresh n O k:=by
  rintro k (h|⟨m,hm,rfl⟩)
  ·exact fun f=>f.2 (p k h)
  ·intro f;have:=f.1;simp at this;omega
 refine⟨fun x d=>⟨(i x d).1,tE (fun k a=>c a) _ (i x d).2⟩,fun k cs a=>?_,fun k o ar=>?_,j⟩
 ·simp only at a;rw[c6]at a;cases e:ae k L with
  |some x=>rw[e]at a;simp only[dU]at a;subst a;obtain⟨J,U,q⟩:=l _ (uY e);exact⟨J,c U,jj (fun k a=>c a) _ q⟩
  |none=>rw[e]at a;exact⟨r k cs a,c (.inl (.inl (by simp[a]))),jj (fun k a=>c (.inl a)) _ (g.kb k cs a)⟩
 ·exact⟨he k o ar,c (.inl (.inr (by simp at ar;simp[ar]))),fun xs d=>jj (fun k a=>c (.inl a)) _ (g.ke k o ar xs d)⟩
def Q4{a β:Type}(s:List (aB×β)):∀(l:List (aB×a)),(∀k x,(k,x)∈l->ae k s=none)->cL s l=l
 |[],_=>rfl
 |(k,x)::r,h=>by have J:=h k x Ψ;simp only[cL,J];rw[Q4 s r fun k x b=>h k x (by simp[b])]
def j7(S:List α->cR)(d:Array α)(r:Nat):cR:=⟨(.obj 902,[.int .u64 r])::(S d.toList).b,(S d.toList).e⟩
def Gl(H:fR S n g cq lc ch lt)(d:Array α)(v:Nat):ez (j7 S d v):=by
 have h:=H.ok d.toList;have b:∀k,aM (S d.toList) k->aM (j7 S d v) k:=fun k a=>by
  rcases a with a|a
  ·refine .inl ?_;simp only[j7,ae];split
   ·rfl
   ·exact a
  ·exact .inr a
 refine⟨⟨fun m=>?_,h.obj.2⟩,fun k cs a=>?_,fun k o ar xs c=>jj b _ (h.ke k o ar xs c)⟩
 ·simp[j7,ae,h.obj.1 m]
 ·simp only[j7,ae]at a;split at a
  ·cases a;simp[aH,az]
  ·exact jj b _ (h.kb k cs a)
def ac1{ob O:List aB}{d2:Array α}{y:Nat}{aY:List af}(c:ez (j7 S d2 y))(d:∀k,aM (j7 S d2 y) k->k∈O)(b:∀k∈ob,k∈O){st:bp}{t':List (Nat×af)}(g:∀x∈t',Pv.get x.1 st.t=x.2/\az (nA (j7 S d2 y) 1) x.2)(e:ae (.loc 0) st.b=some aY)(h:aH (nA (j7 S d2 y) 1) aY)
  (f:∀k cs,ae k (j7 S d2 y).b=some cs->ae k st.b=some cs) (he:∀k o,ae k (j7 S d2 y).e=some o->ae k st.e=some o):gn ob st ⟨t',(.loc 0,aY)::(.obj 902,[.int .u64 y])::(S d2.toList).b,(S d2.toList).e,1,O⟩:=
 ac2 (L:=[(.loc 0,aY)]) c d b g (fun x a=>by simp only[List.mem_singleton]at a;subst a;exact⟨e,YZ _ _ _ Ω,h⟩) f he
def aiI(H:fR S n g cq lc ch lt)(p:tL S 902)(d:Array α)(B:d.size=n)(a b:Nat)(nj:a<=b)(ag:b<=n)(lO:8<=b-a):
  bG au 239 [fC g cq lc ch,aj a,aj b] (S d.toList) fun r A=>r= .tuple []/\∃P,A=S P.toList/\P=Sort.breakPatterns d a b/\P.size=n:=by
 have ai:=H.ok d.toList;have R:d.toList.length=n:=by simpa using B
 have i:∀l m,ae (.loc m) (S l).b=none:=fun l=>(H.ok l).obj.1;have hu:∀l m cs,cJ (.loc m) cs (S l).b=(S l).b++[(.loc m,cs)]:=fun l m cs=>kO (i l m);have ar:∀m,aB.loc m∉cK (S d.toList):=kJ ai.obj;have j:∀l,ae (.obj 902) (S l).b=none:=fun l=>(p l).1;have il:∀l,ae (.obj 902) (S l).e=none:=fun l=>(p l).2;have hle:=H.le;have mH:=Y8 p d.toList;rw[aed d a b lO];obtain⟨len,hlen⟩:∃len,len=b-a:=⟨_,rfl⟩;rw[<-hlen];obtain⟨M,N⟩:∃M,M=1<<<Sort.bitsLen len:=⟨_,rfl⟩;rw[<-N];have auY:len<M/\M<=2*len:=by have:=arH (x:=len) Ω;rw[N,Nat.one_shiftLeft];omega
 obtain⟨q,bM⟩:∃q,q=len/4:=⟨_,rfl⟩;rw[<-bM];have zw:∀l aY cs,cJ (.obj 902) cs ((S l).b++[(.loc 0,aY)])=(S l).b++[(.loc 0,aY),(.obj 902,cs)]:=fun l aY cs=>by rw[CV (j l)];rfl
 have qE:∀l aY x y,cJ (.obj 902) y ((S l).b++[(.loc 0,aY),(.obj 902,x)])=(S l).b++[(.loc 0,aY),(.obj 902,y)]:=fun l aY x y=>by rw[CV (j l)];simp[cJ]
 have el:((b:Int)-a)=(len:Nat):=Ω
 have b3:vn.wrap ((len:Int).tdiv 4)=(q:Nat):=by rw[Int.tdiv_eq_ediv_of_nonneg Ω,pt _ Ω];omega
 have ew:ik.wrap (len:Int)=len:=by simp[ub,ps,ua];omega
 refine bG.mk mixed a6 Tryz.func239 aoq Ψ ai.obj fun aR c4=>?_;unfold S9;have G:=asR len Ω;rw[<-N]at G;simp[fC,hu,zw,qE,ar,mH,c6,i,j,il,ae,cJ,el,ew];have t:vn.wrap ((len:Int)/4)=(q:Nat):=by rw[pt _ Ω];omega
 ((repeat' first|refine al ?_|refine aO G ?_|refine aP G ?_|simp[el,ew,b3,t,hu,zw,qE,ar,mH,c6,i,j,il,ae,cJ]|((first|apply ct|apply cz|apply cy)<;>intro h<;>try simp at h))<;>(try exact c3));obtain⟨i0,Ec⟩:∃i0,i0=a+q*2-1:=⟨_,rfl⟩;rw[<-Ec];have Z:((a:Int)+q*2-1)=(i0:Nat):=Ω
 rw[Z];have O:∀(c:Array α) r k,aM (j7 S c r) k->c.size=n->k∈aB.obj 902::cK (S d.toList):=fun c r k h K=>by
  have e7:=H.same d.toList c.toList R (by simpa using K);rcases h with h|h
  ·simp only[j7,ae]at h;split at h
   ·rename_i e;subst e;simp
   ·exact q1 _ (rF (.inl (by rw[e7.b];exact h)))
  ·exact q1 _ (rF (.inr (by rw[e7.e];exact h)))
 have F:∀(c:Array α) r,c.size=n->aH (nA (j7 S c r) 1) [.func g lc,.func cq ch]:=fun c r K=>by
  have J:=H.kdata (lk:=c.toList) (by simpa using K);have U:aH (aM (S c.toList)) [.func g lc,.func cq ch]:=by simpa[fC,az,aH]using J
  refine jj (fun k p=>.inl ?_) _ U;rcases p with p|p
  ·refine .inl ?_;simp only[j7,ae];split
   ·rfl
   ·exact p
  ·exact .inr p
 have au9:∀(c:Array α) r aY k cs,ae k (j7 S c r).b=some cs->ae k ((.loc 0,aY)::(j7 S c r).b)=some cs:=fun c r aY k cs h=>by
  cases k with
  |loc m=>rw[(Gl H c r).obj.1 m]at h;cases h
  |obj m=>simpa[ae]using h
 refine o7 (fun(x:Nat×UInt64×Array α)=>⟨[(1,aj a),(3,.ptr (.loc 0) 0),(6,aj len),(7,.ptr (.obj 902) 0),(8,.int .u64 M),(9,aj ((i0+x.1:Nat):Int))],[(.loc 0,[.func g lc,.func cq ch])]++(j7 S x.2.2 x.2.1.toNat).b,(j7 S x.2.2 x.2.1.toNat).e,1,aB.obj 902::cK (S d.toList)⟩) (fun x=>3-x.1)
  (fun x=>x.1<=3/\x.2.2.size=n/\AJ a len M i0 d x.1=x.2) (0,UInt64.ofNat len,d) ?_ ⟨Ψ,B,rfl⟩ ?_
 ·refine ac2 (Gl H d _) (fun k h=>O d _ k h B) (fun k h=>q1 _ h) (by simp[az,aM,j7,ae,nA]) ?_ ?_ aX
  ·intro x u;simp only[List.mem_singleton]at u;subst u;exact⟨by simp[c6,i,ae],YZ _ _ _ Ω,F d _ B⟩
  ·intro k cs h;simp only[j7,ae]at h;rw[c6];split at h
   ·rename_i e;subst e;rw[j];have:(UInt64.ofNat len).toNat=len:=by simp;omega
    rw[this]at h;simpa[ae]using h
   ·rw[h]
 rintro⟨k,r,c⟩ ⟨a7,f,w⟩ _;simp only at a7 f w;have aI:=r.toNat_lt;obtain⟨x,u⟩:∃x,x=r.toNat:=⟨_,rfl⟩;rw[<-u]at aI⊢;have Bz:Sort.xorNextN x<18446744073709551616:=Sort.xorNextN_lt x Ω;have M6:(Sort.xorNext r).toNat=Sort.xorNextN x:=by rw[Sort.xorNext_toNat,<-u]
 obtain⟨y,E⟩:∃y,y=Sort.xorNextN x:=⟨_,rfl⟩;have ae9:ik.wrap ((M:Int)-1)=(M-1:Nat):=by simp[ub,ps,ua];omega
 have zb:=ad2 y (M-1) Ω Ω;obtain⟨z,Q⟩:∃z,z=y&&& (M-1):=⟨_,rfl⟩;rw[<-Q]at zb;have avi:z<=M-1:=by rw[Q];exact Nat.and_le_right
 have o8:vn.wrap (z:Int)=z:=by rw[pt _ Ω]
 by_cases W:k=3
 ·subst W;simp[j7,ae,t];((repeat' first|refine al ?_|simp[t]|((first|apply ct|apply cz|apply cy)<;>intro h<;>try simp at h))<;>(try exact c3));refine c5.at (S c.toList) (.inr rfl) (H.ok _) (H.same _ _ R (by simpa using f)) (fun k cs h=>?_) (fun _ _ h=>h) ?_
  ·simp only[ae];split
   ·rename_i e;subst e;rw[i]at h;cases h
   ·split
    ·rename_i e;subst e;rw[j]at h;cases h
    ·exact h
  ·simp[dc,ba,be,a1];exact⟨c,rfl,by rw[w],f⟩
 ·have HN:((i0+k:Nat):Int)<=(a:Int)+q*2+1:=Ω
  have Wu:((i0:Int)+k)<=(a:Int)+q*2+1:=Ω
  simp[j7,ae,t,Wu,HN];(repeat' first|refine al ?_|simp[t,Wu,HN,ae]);have ave:=H.same d.toList c.toList R (by simpa using f);have V:∀(L:Array α) (v:List af),cL [(aB.obj 902,v)] (S L.toList).b=(S L.toList).b:=fun L v=>Q4 _ _ fun k x hm=>by
   have:=uZ hm;simp only[ae];split
   ·rename_i e;subst e;rw[j]at this;cases this
   ·rfl
  refine CallDo.ob (aiD x Ω) (Kz x) (fun k cs h=>?_) (fun k o h=>by simp[oj,ae]at h) (by simp[az,aH,aM,oj,ae]) ?_
  ·simp only[oj,ae]at h⊢;split at h
   ·rename_i e;subst e;simpa using h
   ·cases h
  rintro ec A ⟨rfl,rfl⟩;refine⟨Rn _ _,?_⟩;rw[<-E];have Y:cL (oj x).b ((aB.loc 0,[af.func g lc,af.func cq ch])::(aB.obj 902,[af.int .u64 x])::(S c.toList).b)=(aB.loc 0,[af.func g lc,af.func cq ch])::(S c.toList).b:=by simp[oj,cL,ae,V]
  have X:cL (oj x).e (S c.toList).e=(S c.toList).e:=Q4 _ _ fun _ _ _=>rfl;rw[Y,X,show(oj y).b=[(aB.obj 902,[af.int .u64 y])]from rfl,show(oj y).e=[]from rfl,List.append_nil];have auW:∀(v:List af),ae (.obj 902) ((aB.loc 0,[af.func g lc,af.func cq ch])::((S c.toList).b++[(aB.obj 902,v)]))=some v:=fun v=>by simp[ae,c6,j]
  have RO:∀o',o'<len->o'=(if z≥len then z-len else z)->Sort.breakStep a len M (r,c) (i0+k)=(Sort.xorNext r,Sort.swp c (i0+k) (a+o')):=fun o' J U=>by unfold Sort.breakStep;simp only[M6,<-E,<-Q,<-U]
  have Uv:((i0:Int)+k)=((i0+k:Nat):Int):=Ω
  simp only[e5,aB.obj.injEq];simp[-BitVec.toNat_and,-BitVec.ofInt_natCast,ae9,zb,o8,ae,H.ssc];by_cases avj:len<=z
  ·have Nz:(len:Int)<=z:=Ω
   have LP:((a:Int)+(z-len))=((a+(z-len):Nat):Int):=Ω
   ((repeat' first|refine al ?_|simp[Nz,ae,H.ssc]|((first|apply ct|apply cz|apply cy)<;>intro h<;>try simp at h))<;>(try exact c3));rw[LP,Uv];refine CallDo.ob (H.swap c.toList (by simpa using f) Ω (i0+k) (a+(z-len)) Ω Ω) (H.ok _) (fun bs cs h=>?_) (fun _ _ h=>h) (by simp[az,aH,H.ksc c.toList (by simpa using f)]) ?_
   ·simp only[ae];split
    ·rename_i e;subst e;rw[i]at h;cases h
    ·rw[c6,h]
   rintro ec A ⟨rfl,rfl⟩;refine⟨H.same _ _ (by simpa using f) (by simpa using f),?_⟩;rw[ID c Ω Ω];obtain⟨d2,s⟩:∃d2,d2=Sort.swp c (i0+k) (a+(z-len)):=⟨_,rfl⟩;have s2:d2.size=n:=by rw[s,hP,f]
   rw[<-s];have LV:∀v:List af,cL (S c.toList).b ((aB.loc 0,[af.func g lc,af.func cq ch])::((S c.toList).b++[(aB.obj 902,v)]))=[(aB.loc 0,[af.func g lc,af.func cq ch]),(aB.obj 902,v)]:=fun v=>by simp only[cL,i];rw[jz,hH];simp[cL,j]
   dsimp only;rw[LV,hH];simp;(repeat' first|refine al ?_|simp);have LM:((i0:Int)+k+1)=((i0+(k+1):Nat):Int):=Ω
   rw[LM];refine bY.whl (k+1,Sort.xorNext r,d2) d6 ⟨by simp;omega,s2,by simp only[AJ,w];rw[RO (z-len) Ω (by rw[if_pos Ω]),s]⟩ ?_;rw[M6,<-E];refine ac1 (Gl H d2 y) (fun k h=>O d2 _ k h s2) (fun k h=>q1 _ h) (by simp[az,aM,j7,ae,nA]) (by simp[ae]) (F d2 _ s2) ?_ (fun _ _ h=>h);intro k cs h;simp only[j7,ae]at h⊢;split at h
   ·rename_i e;subst e;simpa using h
   ·rename_i e;split
    ·rename_i aC;subst aC;rw[i]at h;cases h
    ·exact h
  ·have Nz:¬(len:Int)<=z:=Ω
   have LP:((a:Int)+z)=((a+z:Nat):Int):=Ω
   ((repeat' first|refine al ?_|simp[Nz,ae,H.ssc]|((first|apply ct|apply cz|apply cy)<;>intro h<;>try simp at h))<;>(try exact c3));rw[LP,Uv];refine CallDo.ob (H.swap c.toList (by simpa using f) Ω (i0+k) (a+z) Ω Ω) (H.ok _) (fun bs cs h=>?_) (fun _ _ h=>h) (by simp[az,aH,H.ksc c.toList (by simpa using f)]) ?_
   ·simp only[ae];split
    ·rename_i e;subst e;rw[i]at h;cases h
    ·rw[c6,h]
   rintro ec A ⟨rfl,rfl⟩;refine⟨H.same _ _ (by simpa using f) (by simpa using f),?_⟩;rw[ID c Ω Ω];obtain⟨d2,s⟩:∃d2,d2=Sort.swp c (i0+k) (a+z):=⟨_,rfl⟩;have s2:d2.size=n:=by rw[s,hP,f]
   rw[<-s];have LV:∀v:List af,cL (S c.toList).b ((aB.loc 0,[af.func g lc,af.func cq ch])::((S c.toList).b++[(aB.obj 902,v)]))=[(aB.loc 0,[af.func g lc,af.func cq ch]),(aB.obj 902,v)]:=fun v=>by simp only[cL,i];rw[jz,hH];simp[cL,j]
   dsimp only;rw[LV,hH];simp;(repeat' first|refine al ?_|simp);have LM:((i0:Int)+k+1)=((i0+(k+1):Nat):Int):=Ω
   rw[LM];refine bY.whl (k+1,Sort.xorNext r,d2) d6 ⟨by simp;omega,s2,by simp only[AJ,w];rw[RO z Ω (by rw[if_neg Ω]),s]⟩ ?_;rw[M6,<-E];refine ac1 (Gl H d2 y) (fun k h=>O d2 _ k h s2) (fun k h=>q1 _ h) (by simp[az,aM,j7,ae,nA]) (by simp[ae]) (F d2 _ s2) ?_ (fun _ _ h=>h);intro k cs h;simp only[j7,ae]at h⊢;split at h
   ·rename_i e;subst e;simpa using h
   ·rename_i e;split
    ·rename_i aC;subst aC;rw[i]at h;cases h
    ·exact h
end
section
open Go Go.Pv
variable {α:Type} [Inhabited α] {S:List α->cR} {n g cq:Nat} {lc ch:List af} {lt:α->α->Bool}
def fR.fnD{d d2:Array α}(H:fR S n g cq lc ch lt)(J:d.size=n){f:Nat}{args:List af}{r:af}(p:bG au f args (S d.toList) fun b j=>b=r/\∃a,j=S a.toList/\a=d2/\a.size=n)(m:aH (aM (S d.toList)) args){t:List (Nat×af)}{aY:List af}{o:List aB}{a:bd Nat}{K:bp->Prop}
  (h:d2.size=n->∀o,K ⟨e5 a r t,(.loc 0,aY)::(S d2.toList).b,(S d2.toList).e,1,o⟩):CallDo au f args ⟨t,(.loc 0,aY)::(S d.toList).b,(S d.toList).e,1,o⟩ a K:=
 H.call (by simpa using J) (R:=fun b c=>b=r/\c=d2.toList/\d2.size=n) (p.mono fun r j ⟨l,a,q,i,k⟩=>⟨a.toList,q,l,by rw[i],by rw[<-i];exact k⟩) (fun r c ⟨_,e,h⟩=>by rw[e];simpa using h) m (by rintro b c ⟨rfl,rfl,U⟩;exact h U _)
attribute [local simp] qv
def C9(S:List α->cR)(n g cq:Nat)(lc ch:List af)(lt:α->α->Bool)(m:Nat):Prop:=
 ∀k,k<m->∀(d:Array α),d.size=n->∀a b e:Nat,b-a<=k->a<=b->b<=n->e<=1000->Sort.Below lt a b d->
  bG au 214 [fC g cq lc ch,aj a,aj b,aj e] (S d.toList) fun r f=>r= .tuple []/\∃c,f=S c.toList/\Sort.PermIn a b d c/\Sort.SortedIn lt a b c
structure yD (S:List α->cR) (n g cq:Nat) (lc ch:List af) (lt:α->α->Bool) (br b2 lim:Nat) (d:Array α) (Q:Exit->bp->Prop):Prop where
 k:∀e,e= .normal\/e= .exit 1->∀(a2 b8:Nat) (w v:Bool) (L:Array α) (t:List (Nat×af)) (o:List aB),L.size=n->a2<=b8->b8<=n->b8-a2<b2-br->Sort.Below lt a2 b8 L->(∀R,Sort.PermIn a2 b8 L R->Sort.SortedIn lt a2 b8 R->Sort.PermIn br b2 d R/\Sort.SortedIn lt br b2 R)->
  Pv.get 1 t=aj a2->Pv.get 2 t=aj b8->Pv.get 3 t=aj lim->Pv.get 4 t= .ptr (.loc 0) 0->Pv.get 8 t= .bool w->Pv.get 9 t= .bool v->Q e ⟨t,(.loc 0,[.func g lc,.func cq ch])::(S L.toList).b,(S L.toList).e,1,o⟩
 r:∀(R:Array α) t o,Sort.PermIn br b2 d R->Sort.SortedIn lt br b2 R->Q .ret ⟨t,(.loc 0,[.func g lc,.func cq ch])::(S R.toList).b,(S R.toList).e,1,o⟩
def yD.mono{br b2 lim:Nat}{d f:Array α}{Q:Exit->bp->Prop}(h:yD S n g cq lc ch lt br b2 lim d Q)(p:Sort.PermIn br b2 d f):yD S n g cq lc ch lt br b2 lim f Q:=⟨fun e he a2 k w v L t o m q j l i c=>h.k e he a2 k w v L t o m q j l i fun R b a=>⟨Sort.permIn_trans _ _ _ br b2 p (c R b a).1,(c R b a).2⟩,fun R t o b a=>h.r R t o (Sort.permIn_trans _ _ _ br b2 p b) a⟩
structure AB (t:List (Nat×af)) (br b2 lim:Nat):Prop where
 t1:Pv.get 1 t=aj br
 t2:Pv.get 2 t=aj b2
 t3:Pv.get 3 t=aj lim
 t4:Pv.get 4 t= .ptr (.loc 0) 0
 t10:Pv.get 10 t=aj ((b2:Int)-br)
section
variable {br b2 lim:Nat} {cU:Array α} {t:List (Nat×af)} {o:List aB} {ob:List aB} {Q:Exit->bp->Prop}
def ZN(H:fR S n g cq lc ch lt)(F:Sort.SWO lt)(B:C9 S n g cq lc ch lt (b2-br)){pv:Nat}(T:AB t br b2 lim)(t11:Pv.get 11 t=aj pv)(z:lim<=1000)(l:cU.size=n)(e:br<=pv/\pv<b2)(u:b2<=n)(K:12<b2-br)(E:Sort.Below lt br b2 cU)(A:yD S n g cq lc ch lt br b2 lim cU Q):
  df au ob Lm Q ⟨t,(.loc 0,[.func g lc,.func cq ch])::(S cU.toList).b,(S cU.toList).e,1,o⟩:=by
 obtain⟨t1,t2,t3,t4,t10⟩:=T;have j:∀f:Array α,f.size=n->az (aM (S f.toList)) (fC g cq lc ch):=fun f h=>H.kdata (lk:=f.toList) (by simpa using h);have hle:=H.le;unfold Lm;simp[t1,t2,t4,t11,ae,H.slc,H.ssc];simp only[jl H,H.slc,H.ssc,jg];have d:=ai9 H cU l br b2 pv e.1 e.2 Ω u;have i:Sort.partition lt cU br b2 pv=((Sort.partition lt cU br b2 pv).1,(Sort.partition lt cU br b2 pv).2.1,(Sort.partition lt cU br b2 pv).2.2):=rfl;generalize (Sort.partition lt cU br b2 pv).1=mid at d i;generalize (Sort.partition lt cU br b2 pv).2.1=ap at d i;generalize (Sort.partition lt cU br b2 pv).2.2=d4 at d i;obtain⟨g1,g2,g3,g4,g5,g6,g7⟩:=Sort.round_part F (Sort.partition_holds lt) e.1 e.2 Ω E i;refine H.fnD l d (by simp[az,aH,j cU l]) fun s4 o=>?_;have em:((mid:Int)+1)=(mid+1:Nat):=Ω
 simp[t1,t2,t3,t4,t10];by_cases G:mid-br<b2-mid
 ·have y:(mid:Int)-br<b2-mid:=Ω
  (repeat' first|refine al ?_|simp[y,ae,t1,t2,t3,t4,t10]);simp only[jl H,H.slc,H.ssc,jg];refine H.doFn (lk:=d4.toList) (by simpa using s4) (R:=fun a=> ∃L:Array α,a=L.toList/\Sort.PermIn br mid d4 L/\Sort.SortedIn lt br mid L) ((B (mid-br) Ω d4 s4 br mid lim (dO _) g1 Ω z g4).mono fun r J ⟨x,b,w,v,p⟩=>⟨x,b.toList,w,b,rfl,v,p⟩) (by rintro a ⟨L,rfl,q,_⟩;simpa using q.1.trans s4) (by simp[aH,az,j d4 s4]) ?_;rintro a ⟨L,rfl,c,s⟩;obtain⟨m,k⟩:=g6 L c s;simp;(repeat' first|refine al ?_|simp[t1,t2,t3,t4]);rw[em];exact A.k _ (.inl rfl) (mid+1) b2 _ ap L _ _ (c.1.trans s4) Ω u Ω m k Ψ (by simp[t2]) (by simp[t3]) (by simp[t4]) (by simp;rfl) Ψ
 ·have y:¬(mid:Int)-br<b2-mid:=Ω
  (repeat' first|refine al ?_|simp[y,ae,t1,t2,t3,t4,t10]);simp only[jl H,H.slc,H.ssc,jg];rw[em];refine H.doFn (lk:=d4.toList) (by simpa using s4) (R:=fun a=> ∃L:Array α,a=L.toList/\Sort.PermIn (mid+1) b2 d4 L/\Sort.SortedIn lt (mid+1) b2 L) ((B (b2-(mid+1)) Ω d4 s4 (mid+1) b2 lim (dO _) Ω u z g5).mono fun r J ⟨x,b,w,v,p⟩=>⟨x,b.toList,w,b,rfl,v,p⟩) (by rintro a ⟨L,rfl,q,_⟩;simpa using q.1.trans s4) (by simp[aH,az,j d4 s4]) ?_;rintro a ⟨L,rfl,c,s⟩;obtain⟨m,k⟩:=g7 L c s;simp;(repeat' first|refine al ?_|simp[t1,t2,t3,t4]);exact A.k _ (.inl rfl) br mid _ ap L _ _ (c.1.trans s4) g1 Ω Ω m k (by simp[t1]) Ψ (by simp[t3]) (by simp[t4]) (by simp;rfl) Ψ
def apm(H:fR S n g cq lc ch lt)(i:Sort.SWO lt)(p:C9 S n g cq lc ch lt (b2-br)){pv:Nat}(T:AB t br b2 lim)(t11:Pv.get 11 t=aj pv){w v:Bool}(t8:Pv.get 8 t= .bool w)(t9:Pv.get 9 t= .bool v)(m:lim<=1000)(b:cU.size=n)(a:br<=pv/\pv<b2)(d:b2<=n)(l:12<b2-br)(e:Sort.Below lt br b2 cU)(h:yD S n g cq lc ch lt br b2 lim cU Q):
  df au ob Dr Q ⟨t,(.loc 0,[.func g lc,.func cq ch])::(S cU.toList).b,(S cU.toList).e,1,o⟩:=by
 obtain⟨t1,t2,t3,t4,t10⟩:=id T;have hle:=H.le;unfold Dr;by_cases c:0<br
 ·have k:(0:Int)<br:=Ω
  simp[t1,t2,t4,t11,c,k,ae,H.slc,H.ssc];(repeat' first|refine al ?_|simp[t1,t2,t4,t11,c,k,ae,H.slc,H.ssc]);rw[show((br:Int)-1)=((br-1:Nat):Int) by omega];refine H.lessA b (br-1) pv Ω Ω fun o=>?_;cases q:lt cU[br-1]! cU[pv]!
  ·simp;(repeat' first|refine al ?_|simp[ae,H.slc,H.ssc,t1,t2,t4,t11]);simp only[jl H,H.slc,H.ssc,jg];have f:=aja H cU b br b2 pv a.1 a.2 Ω d;have j:Sort.partitionEqual lt cU br b2 pv=((Sort.partitionEqual lt cU br b2 pv).1,(Sort.partitionEqual lt cU br b2 pv).2):=rfl;generalize (Sort.partitionEqual lt cU br b2 pv).1=mid at f j;generalize (Sort.partitionEqual lt cU br b2 pv).2=d4 at f j;obtain⟨g1,g2,g3,g4,g5⟩:=Sort.round_eq i (Sort.partitionEqual_holds lt) c a.1 a.2 Ω e q j;refine H.fnD b f (by simp[az,aH,H.kdata (lk:=cU.toList) (by simpa using b)]) fun s4 o=>?_;simp[t1,t2,t3,t4];exact h.k _ (.inr rfl) mid b2 w v d4 _ _ s4 g2 d Ω g4 g5 Ψ (by simp[t2]) (by simp[t3]) (by simp[t4]) (by simp[t8]) (by simp[t9])
  ·simp;exact ZN H i p ⟨by simp[t1],by simp[t2],by simp[t3],by simp[t4],by simp[t10]⟩ (by simp[t11]) m b a d l e h
 ·have k:¬(0:Int)<br:=Ω
  simp[t1,c];exact ZN H i p ⟨by simp[t1],by simp[t2],by simp[t3],by simp[t4],by simp[t10]⟩ (by simp[t11]) m b a d l e h
def Pj(H:fR S n g cq lc ch lt)(p:Sort.SWO lt)(z:C9 S n g cq lc ch lt (b2-br)){pv:Nat}(T:AB t br b2 lim)(t11:Pv.get 11 t=aj pv){h:Nat}(t12:Pv.get 12 t=aj h){w v:Bool}(t8:Pv.get 8 t= .bool w)(t9:Pv.get 9 t= .bool v)(r:lim<=1000)(b:cU.size=n)(u:br<=pv/\pv<b2)(m:b2<=n)(q:12<b2-br)(c:Sort.Below lt br b2 cU)(l:yD S n g cq lc ch lt br b2 lim cU Q):
  df au ob Ln Q ⟨t,(.loc 0,[.func g lc,.func cq ch])::(S cU.toList).b,(S cU.toList).e,1,o⟩:=by
 obtain⟨t1,t2,t3,t4,t10⟩:=id T;have hle:=H.le;unfold Ln;have next:∀{d5:Array α} {t o},AB t br b2 lim->Pv.get 11 t=aj pv->Pv.get 8 t= .bool w->Pv.get 9 t= .bool v->d5.size=n->Sort.Below lt br b2 d5->Sort.PermIn br b2 cU d5->df au ob Dr Q ⟨t,(.loc 0,[.func g lc,.func cq ch])::(S d5.toList).b,(S d5.toList).e,1,o⟩:=fun j k e f y x s=>apm H p z j k e f r y u m q x (l.mono s)
 have skip:∀{t o},AB t br b2 lim->Pv.get 11 t=aj pv->Pv.get 8 t= .bool w->Pv.get 9 t= .bool v->df au ob Dr Q ⟨t,(.loc 0,[.func g lc,.func cq ch])::(S cU.toList).b,(S cU.toList).e,1,o⟩:=fun j k e f=>next j k e f b c (Sort.permIn_refl _ _ _)
 by_cases aw:(w=true/\v=true)/\h=1
 ·obtain⟨⟨rfl,rfl⟩,rfl⟩:=aw;simp[t1,t2,t4,t8,t9,t12,ae,H.slc,H.ssc];simp only[jl H,H.slc,H.ssc,jg];have d:=ai8 H cU b br b2 Ω m Ω;have a:=Sort.partialInsertionSort_holds p cU br b2 Ω Ω c;generalize (Sort.partialInsertionSort lt cU br b2).1=d5 at d a;generalize (Sort.partialInsertionSort lt cU br b2).2=ok at d a;refine H.fnD b d (by simp[az,aH,H.kdata (lk:=cU.toList) (by simpa using b)]) fun i o=>?_;cases ok
  ·simp;exact next ⟨by simp[t1],by simp[t2],by simp[t3],by simp[t4],by simp[t10]⟩ (by simp[t11]) (by simp[t8]) (by simp[t9]) i (c.perm Ω a.1) a.1
  ·simp;exact l.r _ _ _ a.1 (a.2 rfl)
 ·cases w
  ·simp[t8,t9,t12];exact skip ⟨by simp[t1],by simp[t2],by simp[t3],by simp[t4],by simp[t10]⟩ (by simp[t11]) (by simp[t8]) (by simp[t9])
  ·cases v
   ·simp[t8,t9,t12];exact skip ⟨by simp[t1],by simp[t2],by simp[t3],by simp[t4],by simp[t10]⟩ (by simp[t11]) (by simp[t8]) (by simp[t9])
   ·have J:((h:Int)==1)=false:=by simp at aw⊢;omega
    simp[t8,t9,t12,J];exact skip ⟨by simp[t1],by simp[t2],by simp[t3],by simp[t4],by simp[t10]⟩ (by simp[t11]) (by simp[t8]) (by simp[t9])
def ZO(H:fR S n g cq lc ch lt)(s:tL S 901)(i:Sort.SWO lt)(j:C9 S n g cq lc ch lt (b2-br))(T:AB t br b2 lim){w v:Bool}(t8:Pv.get 8 t= .bool w)(t9:Pv.get 9 t= .bool v)(e:lim<=1000)(s1:cU.size=n)(a:b2<=n)(d:12<b2-br)(l:Sort.Below lt br b2 cU)(f:yD S n g cq lc ch lt br b2 lim cU Q):
  df au ob Lo Q ⟨t,(.loc 0,[.func g lc,.func cq ch])::(S cU.toList).b,(S cU.toList).e,1,o⟩:=by
 obtain⟨t1,t2,t3,t4,t10⟩:=id T;have hle:=H.le;have m:∀c:Array α,c.size=n->az (aM (S c.toList)) (fC g cq lc ch):=fun c h=>H.kdata (lk:=c.toList) (by simpa using h);unfold Lo;simp[t1,t2,t4,ae,H.slc,H.ssc];simp only[jl H,H.slc,H.ssc,jg];have b:=Sort.choosePivot_holds lt cU br b2 Ω;have k:=aiJ H s cU s1 br b2 Ω a;generalize Sort.choosePivot lt cU br b2=u at k b;obtain⟨p,hint⟩:=u;simp only at k b;refine H.fnA s1 s1 k (by simp[az,aH,m cU s1]) fun o=>?_;cases hint
 ·simp[Bu];exact Pj H i j ⟨by simp[t1],by simp[t2],by simp[t3],by simp[t4],by simp[t10]⟩ (pv:=p) Ψ (h:=0) Ψ (w:=w) (v:=v) (by simp[t8]) (by simp[t9]) e s1 b a d l f
 ·simp[Bu];exact Pj H i j ⟨by simp[t1],by simp[t2],by simp[t3],by simp[t4],by simp[t10]⟩ (pv:=p) Ψ (h:=1) Ψ (w:=w) (v:=v) (by simp[t8]) (by simp[t9]) e s1 b a d l f
 ·simp[Bu,t1,t2,t4,ae,H.slc,H.ssc];simp only[jl H,H.slc,H.ssc,jg];refine H.fnD s1 (ajf H cU s1 br b2 Ω a Ω) (by simp[az,aH,m cU s1]) fun s2 o=>?_;have q:=Sort.reverseRange_holds cU br b2 Ω Ω;have r:((b2:Int)-1-(p-br))=((b2-1)-(p-br):Nat):=Ω
  simp[t1,t2,r];(repeat' first|refine al ?_|simp[r,t1,t2]);exact Pj H i j ⟨by simp[t1],by simp[t2],by simp[t3],by simp[t4],by simp[t10]⟩ (pv:=(b2-1)-(p-br)) Ψ (h:=1) Ψ (w:=w) (v:=v) (by simp[t8]) (by simp[t9]) e s2 Ω a d (l.perm Ω q) (f.mono q)
end
def ajb(H:fR S n g cq lc ch lt)(gA:tL S 901)(il:tL S 902)(F:Sort.SWO lt)(m:Nat):∀(d:Array α) (K:d.size=n) (a b B:Nat) (hm:b-a<=m) (nj:a<=b) (ag:b<=n) (fo:B<=1000) (zc:Sort.Below lt a b d),
  bG au 214 [fC g cq lc ch,aj a,aj b,aj B] (S d.toList) fun r ak=>r= .tuple []/\∃q,ak=S q.toList/\Sort.PermIn a b d q/\Sort.SortedIn lt a b q:=by
 induction m using Nat.strongRecOn with
 |ind m b0=>
 intro d K a b B hm nj ag fo zc;have ai:=H.ok d.toList;have G:d.toList.length=n:=by simpa using K
 have aA:∀l m,ae (.loc m) (S l).b=none:=fun l=>(H.ok l).obj.1;have hu:∀l m cs,cJ (.loc m) cs (S l).b=(S l).b++[(.loc m,cs)]:=fun l m cs=>kO (aA l m);have ar:∀m,aB.loc m∉cK (S d.toList):=kJ ai.obj;have hle:=H.le;refine bG.mk mixed a6 Tryz.func214 aoA Ψ ai.obj fun aR c4=>?_;unfold Tj;simp[fC,hu,ar,c6,aA];refine H.loopA G [4] (fun(x:((Nat×Nat×Nat)×Bool×Bool)×Array α)=>[(1,aj x.1.1.1),(2,aj x.1.1.2.1),(3,aj x.1.1.2.2),(8,.bool x.1.2.1),(9,.bool x.1.2.2)]) (·.2) (fun x=>x.1.1.2.1-x.1.1.1) (fun x=>x.2.size=n/\(x.1.1.1<=x.1.1.2.1/\x.1.1.2.1<=n/\x.1.1.2.1-x.1.1.1<=m/\x.1.1.2.2<=1000)/\Sort.Below lt x.1.1.1 x.1.1.2.1 x.2/\∀R,Sort.PermIn x.1.1.1 x.1.1.2.1 x.2 R->Sort.SortedIn lt x.1.1.1 x.1.1.2.1 R->Sort.PermIn a b d R/\Sort.SortedIn lt a b R)
  (((a,b,B),true,true),d) K ⟨K,⟨nj,ag,hm,fo⟩,zc,fun R J U=>⟨J,U⟩⟩ (by simp[c6,aA]) aX aX dl ?_
 rintro⟨⟨⟨br,b2,i⟩,atf,wp⟩,f⟩ ⟨c,⟨s,u,eD,V⟩,EH,N⟩;simp only at c s u eD V EH N;have Q:∀E:Array α,E.size=n->az (aM (S E.toList)) (fC g cq lc ch):=fun E h=>H.kdata (lk:=E.toList) (by simpa using h);have M:∀(R:Array α) t o,Sort.PermIn br b2 f R->Sort.SortedIn lt br b2 R->c5 [] (S d.toList) (fun r ak=>r= .tuple []/\∃q,ak=S q.toList/\Sort.PermIn a b d q/\Sort.SortedIn lt a b q) .ret ⟨t,(.loc 0,[.func g lc,.func cq ch])::(S R.toList).b,(S R.toList).e,1,o⟩:=fun R t o J U=>by refine H.retA G (by rw[J.1];exact c) (.inl rfl) ⟨rfl,R,rfl,N R J U⟩
 simp;by_cases uC:b2-br<=12
 ·have A:(b2:Int)-br<=12:=Ω
  (repeat' first|refine al ?_|simp[A,ae,H.slc,H.ssc]);simp only[jl H,H.slc,H.ssc,jg];refine H.fnD c (aiV H f c br b2 s u) (by simp[az,aH,Q f c]) fun s2 o=>?_;obtain⟨a8,Y⟩:=Sort.insertionSort_holds F f br b2 s Ω;simp;exact M _ _ _ a8 Y
 have A:¬(b2:Int)-br<=12:=Ω
 by_cases xx:i=0
 ·have O:(((i:Nat):Int)==0)=true:=by simp[xx]
  (repeat' first|refine al ?_|simp[A,O,ae,H.slc,H.ssc]);simp only[jl H,H.slc,H.ssc,jg];refine H.fnD c (aiL H f c br b2 s u Ω) (by simp[az,aH,Q f c]) fun s2 o=>?_;obtain⟨a8,Y⟩:=Sort.heapSort_holds F f br b2 s Ω;simp;exact M _ _ _ a8 Y
 have O:(((i:Nat):Int)==0)=false:=by simp[xx]
 have W9:C9 S n g cq lc ch lt (b2-br):=fun k ab=>b0 k Ω;cases atf
 ·(repeat' first|refine al ?_|simp[A,O,ae,H.slc,H.ssc]);simp only[jl H,H.slc,H.ssc,jg];refine H.fnD c (aiI H il f c br b2 s u Ω) (by simp[az,aH,Q f c]) fun s1 o=>?_;have P:=Sort.breakPatterns_holds f br b2 s Ω;generalize Sort.breakPatterns f br b2=d1 at s1 P;have el:((i:Int)-1)=(i-1:Nat):=Ω
  simp[el];(repeat' first|refine al ?_|simp[el,ae]);refine ZO (lim:=i-1) H gA F W9 ⟨Ψ,Ψ,Ψ,Ψ,Ψ⟩ (w:=false) (v:=wp) Ψ Ψ Ω s1 u Ω (EH.perm Ω P) ⟨?_,fun R t o p j=>?_⟩
  ·rintro e he a2 Z w v L t o z aC X b3 W y t1 t2 t3 t4 t8 t9;rcases he with rfl|rfl<;>simp<;>exact bY.whl (((a2,Z,i-1),w,v),L) d6 ⟨z,⟨aC,X,by simp;omega,by simp;omega⟩,W,fun R p j=>N R (Sort.permIn_trans _ _ _ br b2 P (y R p j).1) (y R p j).2⟩ (H.weakC G (by simpa using z) (by simp[az,t1,t2,t3,t4,t8,t9]))
  ·simpa using M R t o (Sort.permIn_trans _ _ _ br b2 P p) j
 ·(repeat' first|refine al ?_|simp[A,O,ae,H.slc,H.ssc]);refine ZO (lim:=i) H gA F W9 ⟨Ψ,Ψ,Ψ,Ψ,Ψ⟩ (w:=true) (v:=wp) Ψ Ψ V c u Ω EH ⟨?_,fun R t o p j=>?_⟩
  ·rintro e he a2 Z w v L t o z aC X b3 W y t1 t2 t3 t4 t8 t9;rcases he with rfl|rfl<;>simp<;>exact bY.whl (((a2,Z,i),w,v),L) d6 ⟨z,⟨aC,X,by simp;omega,V⟩,W,fun R p j=>N R (y R p j).1 (y R p j).2⟩ (H.weakC G (by simpa using z) (by simp[az,t1,t2,t3,t4,t8,t9]))
  ·simpa using M R t o p j
end
section
open Go Go.Pv
variable {α:Type} {S:List α->cR} {n g cq:Nat} {lc ch:List af} {lt:α->α->Bool}
def amA(n:rW lt){l lk:List α}{a b i:Nat}(t:a+1<=i)(E:i<=b)(A:b<=l.length)(e:fY lt (a+1) b l){z:α}(j:l[a]? =some z)(r:∀h x,a+1<=h->h<i->l[h]? =some x->lt x z=true)(s:∀h x,i<=h->h<b->l[h]? =some x->lt x z=false)
  (o:∀k,lk[k]? =l[iW a (a+1) i k]?):fY lt a b lk:=by
 intro p q x y w u g c d;rw[o]at c d;simp only[iW]at c d;rw[if_neg Ω]at c d;by_cases B:q<i-1
 ·rw[if_pos Ω]at c d;exact e _ _ _ _ Ω Ω Ω c d
 ·rw[if_neg Ω]at d;by_cases m:q<i
  ·rw[if_pos m,show q-(i-(a+1))=a by omega,j]at d;cases d;rw[if_pos Ω]at c;exact n.asym _ _ (r _ _ Ω Ω c)
  ·rw[if_neg m]at d;by_cases v:p<i-1
   ·rw[if_pos Ω]at c;exact e _ _ _ _ Ω Ω Ω c d
   ·rw[if_neg Ω]at c;by_cases f:p<i
    ·rw[if_pos f,show p-(i-(a+1))=a by omega,j]at c;cases c;exact s _ _ Ω g d
    ·rw[if_neg f]at c;exact e _ _ _ _ Ω Ω g c d
def amB(n:rW lt){l lk:List α}{a m i:Nat}(v:a<=i)(o:i<=m)(E:m+1<=l.length)(e:fY lt a m l){z:α}(g:l[m]? =some z)(t:∀h x,a<=h->h<i->l[h]? =some x->lt z x=false)(u:∀h x,i<=h->h<m->l[h]? =some x->lt z x=true)
  (r:∀k,lk[k]? =l[iW i m (m+1) k]?):fY lt a (m+1) lk:=by
 intro p q x y d j A b c;rw[r]at b c;simp only[iW]at b c;by_cases s:q<i
 ·rw[if_pos Ω]at b c;exact e _ _ _ _ d j Ω b c
 ·rw[if_neg s]at c;by_cases B:q=i
  ·rw[if_pos Ω,show q+(m-i)=m by omega,g]at c;cases c;rw[if_pos Ω]at b;exact t _ _ d Ω b
  ·rw[if_neg Ω,if_pos Ω]at c;by_cases f:p<i
   ·rw[if_pos f]at b;exact e _ _ _ _ d Ω Ω b c
   ·rw[if_neg f]at b;by_cases w:p=i
    ·rw[if_pos Ω,show p+(m-i)=m by omega,g]at b;cases b;exact n.asym _ _ (u _ _ Ω Ω c)
    ·rw[if_neg Ω,if_pos Ω]at b;exact e _ _ _ _ Ω Ω Ω b c
structure Ge (lt:α->α->Bool) (a s m e b mid:Nat) (lk:List α):Prop where
 s1:fY lt a s lk
 s2:fY lt s mid lk
 s3:fY lt mid e lk
 s4:fY lt e b lk
 cross:∀p q x y,a<=p->p<mid->mid<=q->q<b->lk[p]? =some x->lk[q]? =some y->lt y x=false
def fY.le(g:rW lt){a b:Nat}{l:List α}(h:fY lt a b l){i j:Nat}{x y:α}(J:a<=i)(U:i<=j)(k:j<b)(d:l[i]? =some x)(c:l[j]? =some y):lt y x=false:=by
 by_cases e:i=j
 ·subst e;rw[d]at c;cases c;cases f:lt x x with
  |false=>rfl
  |true=>have:=g.asym _ _ f;rw[f]at this;exact this
 ·exact h _ _ _ _ J Ω k d c
def amK(f:rW lt){l lk:List α}{a m b mid s e:Nat}(has:a<=s)(e7:s<=m)(H:m<=e)(K:e<=b)(N:b<=l.length)(M:s+e=mid+m)(J:fY lt a m l)(U:fY lt m b l)
  (r:s=a\/e=b\/ ∃x y,l[s-1]? =some x/\l[e]? =some y/\lt y x=false) (o:s=m\/e=m\/ ∃x y,l[s]? =some x/\l[e-1]? =some y/\lt y x=true) (j:∀k,lk[k]? =l[iW s m e k]?):Ge lt a s m e b mid lk:=by
 have g1:∀p,p<s->lk[p]? =l[p]?:=fun p g=>by rw[j];simp[iW,g]
 have g2:∀p,s<=p->p<mid->lk[p]? =l[p+(m-s)]?:=fun p B L=>by rw[j];simp only[iW];rw[if_neg Ω,if_pos Ω]
 have g3:∀p,mid<=p->p<e->lk[p]? =l[p-(e-m)]?:=fun p B L=>by rw[j];simp only[iW];rw[if_neg Ω,if_neg Ω,if_pos Ω]
 have g4:∀p,e<=p->lk[p]? =l[p]?:=fun p B=>by
  rw[j];simp only[iW];rw[if_neg Ω];by_cases G:p<s+(e-m)
  ·omega
  ·rw[if_neg G,if_neg Ω]
 refine⟨fun p q x y g i h d c=>?_,fun p q x y g i h d c=>?_,fun p q x y g i h d c=>?_,fun p q x y g i h d c=>?_,fun p q x y g w h E d c=>?_⟩
 ·rw[g1 _ Ω]at d c;exact J _ _ _ _ g i Ω d c
 ·rw[g2 _ Ω Ω]at d c;exact U _ _ _ _ Ω Ω Ω d c
 ·rw[g3 _ Ω Ω]at d c;exact J _ _ _ _ Ω Ω Ω d c
 ·rw[g4 _ Ω]at d c;exact U _ _ _ _ Ω Ω Ω d c
 ·by_cases F:p<s
  ·rw[g1 _ F]at d;by_cases z:q<e
   ·rw[g3 _ h z]at c;exact J _ _ _ _ g Ω Ω d c
   ·rw[g4 _ Ω]at c;rcases r with r|r|⟨u,v,A,t,n⟩
    ·omega
    ·omega
    ·exact f.ntr _ _ _ (f.ntr _ _ _ (fY.le f J g Ω Ω d A) n) (fY.le f U Ω Ω E t c)
  ·rw[g2 _ Ω w]at d;by_cases z:q<e
   ·rw[g3 _ h z]at c;rcases o with o|o|⟨u,v,A,t,n⟩
    ·omega
    ·omega
    ·exact f.ntr _ _ _ (f.ntr _ _ _ (fY.le f U Ω Ω Ω d t) (f.asym _ _ n)) (fY.le f J Ω Ω Ω A c)
   ·rw[g4 _ Ω]at c;exact U _ _ _ _ Ω Ω E d c
def amL{a mid b:Nat}(t:a<=mid){lk e f:List α}(J:hj a mid lk e)(s1:fY lt a mid e)(U:hj mid b e f)(s2:fY lt mid b f)(i:∀p q x y,a<=p->p<mid->mid<=q->q<b->lk[p]? =some x->lk[q]? =some y->lt y x=false):fY lt a b f:=by
 intro p q x y m j n c d;by_cases r:q<mid
 ·rw[U.out _ (.inl Ω)]at c;rw[U.out _ (.inl Ω)]at d;exact s1 _ _ _ _ m j r c d
 ·by_cases s:mid<=p
  ·exact s2 _ _ _ _ s j n c d
  ·rw[U.out _ (.inl Ω)]at c;refine U.all (fun y=>lt y x=false) (fun k y l o d=>?_) q y Ω n d;rw[J.out _ (.inr l)]at d;exact J.all (fun x=>lt y x=false) (fun bs x h g c=>i bs k x y h g l o c d) p x m Ω c
end
section
open Go Go.Pv
variable {α:Type} {S:List α->cR} {n g cq:Nat} {lc ch:List af} {lt:α->α->Bool}
def arq(lt:α->α->Bool)(l:List α)(mid m s0 r0:Nat)(x:Nat×Nat):Prop:=s0<=x.1/\x.1<=x.2/\x.2<=r0/\(x.1=s0\/ ∃u v,l[x.1-1]? =some u/\l[mid+m-x.1]? =some v/\lt v u=false)/\(x.2=r0\/ ∃u v,l[x.2]? =some u/\l[mid+m-x.2-1]? =some v/\lt v u=true)
attribute [local simp] qv
def Gm(S:List α->cR)(n g cq:Nat)(lc ch:List af)(lt:α->α->Bool)(d:Nat):Prop:=
 ∀(l:List α) (a m b:Nat),l.length=n->b-a<=d->a<m->m<b->b<=n->fY lt a m l->fY lt m b l->
  bG au 232 [fC g cq lc ch,aj a,aj m,aj b] (S l) fun r e=>r= .tuple []/\∃c,e=S c/\hj a b l c/\fY lt a b c
def Gn(S:List α->cR)(g cq:Nat)(lc ch:List af)(lt:α->α->Bool)(a b:Nat)(l:List α)(Q:Exit->bp->Prop):Prop:=∀c t o,hj a b l c->fY lt a b c->Q .normal ⟨t,(.loc 0,[.func g lc,.func cq ch])::(S c).b,(S c).e,1,o⟩
section
variable {a m b mid i e d:Nat} {l:List α} {t:List (Nat×af)} {o:List aB} {ob:List aB} {Q:Exit->bp->Prop}
def aq2(H:fR S n g cq lc ch lt)(r:Gm S n g cq lc ch lt d)(t3:Pv.get 3 t=aj b)(t4:Pv.get 4 t= .ptr (.loc 0) 0)(t16:Pv.get 16 t=aj mid)(t22:Pv.get 22 t=aj e)(c:l.length=n)(J:mid<=e)(U:e<=b)(s:b<=n)(u:b-mid<=d)(p:fY lt mid e l)(m:fY lt e b l)(i:Gn S g cq lc ch lt mid b l Q):
  df au ob GL Q ⟨t,(.loc 0,[.func g lc,.func cq ch])::(S l).b,(S l).e,1,o⟩:=by
 unfold GL;by_cases a:mid<e/\e<b
 ·simp[t3,t4,t16,t22,a.1,a.2,ae];simp only[jl H,H.slc,H.ssc,jg];refine H.doFn c (r l mid e b c u a.1 a.2 s p m) (fun w h=>by rw[h.1.length];exact c) (by simp[aH,az,H.kdata c]) ?_;rintro v ⟨q,z2⟩;simp;exact i _ _ _ q z2
 ·have k:fY lt mid b l:=by
   by_cases f:mid<e
   ·rwa[show e=b by omega]at p
   ·rwa[show e=mid by omega]at m
  by_cases f:mid<e
  ·have j:¬e<b:=Ω
   simp[t3,t16,t22,f,j];exact i _ _ _ (.refl _) k
  ·simp[t16,t22,f];exact i _ _ _ (.refl _) k
def aq3(H:fR S n g cq lc ch lt)(A:Gm S n g cq lc ch lt d)(t1:Pv.get 1 t=aj a)(t3:Pv.get 3 t=aj b)(t4:Pv.get 4 t= .ptr (.loc 0) 0)(t16:Pv.get 16 t=aj mid)(t18:Pv.get 18 t=aj i)(t22:Pv.get 22 t=aj e)(j:l.length=n)(Y:a<=i/\i<=mid/\a<=m)(J:mid<=e)(U:e<=b)(P:b<=n)(R:b-mid<=d)(F:mid-a<=d)(f:Ge lt a i m e b mid l)(G:Gn S g cq lc ch lt a b l Q):
  df au ob GM Q ⟨t,(.loc 0,[.func g lc,.func cq ch])::(S l).b,(S l).e,1,o⟩:=by
 unfold GM;have next:∀{k t o},Pv.get 3 t=aj b->Pv.get 4 t= .ptr (.loc 0) 0->Pv.get 16 t=aj mid->Pv.get 22 t=aj e->k.length=n->hj a mid l k->fY lt a mid k->df au ob GL Q ⟨t,(.loc 0,[.func g lc,.func cq ch])::(S k).b,(S k).e,1,o⟩:=fun O V L N E c r=>by
  refine aq2 H A O V L N E J U P R (fun p q x y J U z s u=>?_) (fun p q x y J U z s u=>?_) fun K t o B M=>?_
  ·rw[c.out _ (.inr J)]at s;rw[c.out _ (.inr Ω)]at u;exact f.s3 p q x y J U z s u
  ·rw[c.out _ (.inr Ω)]at s;rw[c.out _ (.inr Ω)]at u;exact f.s4 p q x y J U z s u
  ·exact G K t o ((c.mono Ω Ω).trans (B.mono Ω Ω)) (amL Ω c r B M f.cross)
 by_cases v:a<i/\i<mid
 ·simp[t1,t4,t16,t18,v.1,v.2,ae];simp only[jl H,H.slc,H.ssc,jg];refine H.doFn j (A l a i mid j F v.1 v.2 Ω f.s1 f.s2) (fun X h=>by rw[h.1.length];exact j) (by simp[aH,az,H.kdata j]) ?_;rintro k ⟨c,r⟩;simp;exact next (by simp[t3]) (by simp[t4]) (by simp[t16]) (by simp[t22]) (by rw[c.length];exact j) c r
 ·have r:fY lt a mid l:=by
   by_cases w:a<i
   ·have:=f.s1;rwa[show i=mid by omega]at this
   ·have:=f.s2;rwa[show i=a by omega]at this
  by_cases w:a<i
  ·have W:¬i<mid:=Ω
   simp[t1,t16,t18,w,W];exact next (by simp[t3]) (by simp[t4]) (by simp[t16]) (by simp[t22]) j (.refl _) r
  ·simp[t1,t18,w];exact next (by simp[t3]) (by simp[t4]) (by simp[t16]) (by simp[t22]) j (.refl _) r
def aq4(H:fR S n g cq lc ch lt)(K:Gm S n g cq lc ch lt d)(t1:Pv.get 1 t=aj a)(t2:Pv.get 2 t=aj m)(t3:Pv.get 3 t=aj b)(t4:Pv.get 4 t= .ptr (.loc 0) 0)(t16:Pv.get 16 t=aj mid)(t18:Pv.get 18 t=aj i)(t22:Pv.get 22 t=aj e)(c:l.length=n)(F:a<=i/\i<=mid/\a<=m)(J:mid<=e)(U:e<=b)(M:b<=n)(N:b-mid<=d)(w:mid-a<=d)(u:∀lk:List α,(∀k,lk[k]? =l[iW i m e k]?)->Ge lt a i m e b mid lk)(x:Gn S g cq lc ch lt a b l Q):
  df au ob Lp Q ⟨t,(.loc 0,[.func g lc,.func cq ch])::(S l).b,(S l).e,1,o⟩:=by
 unfold Lp;have next:∀{lk t o},Pv.get 1 t=aj a->Pv.get 3 t=aj b->Pv.get 4 t= .ptr (.loc 0) 0->Pv.get 16 t=aj mid->Pv.get 18 t=aj i->Pv.get 22 t=aj e->lk.length=n->Ge lt a i m e b mid lk->hj a b l lk->df au ob GM Q ⟨t,(.loc 0,[.func g lc,.func cq ch])::(S lk).b,(S lk).e,1,o⟩:=fun L O E G B A y j v=>aq3 H K L O E G B A y F J U M N w j fun z t o p q=>x z t o (v.trans p) q
 by_cases f:i<m/\m<e
 ·simp[t2,t4,t18,t22,f.1,f.2,ae];simp only[jl H,H.slc,H.ssc,jg];refine H.doFn c (ajg H l c i m e f.1 f.2 Ω) (fun P h=>by rw[h.1.length];exact c) (by simp[aH,az,H.kdata c]) ?_;rintro lk ⟨p,q⟩;simp;exact next (by simp[t1]) (by simp[t3]) (by simp[t4]) (by simp[t16]) (by simp[t18]) (by simp[t22]) (by rw[p.length];exact c) (u lk q) (p.mono Ω Ω)
 ·have j:=u l (fun k=>by
   congr 1;simp only[iW];repeat' split
   all_goals omega)
  by_cases s:i<m
  ·have r:¬m<e:=Ω
   simp[t2,t18,t22,s,r];exact next (by simp[t1]) (by simp[t3]) (by simp[t4]) (by simp[t16]) (by simp[t18]) (by simp[t22]) c j (.refl _)
  ·simp[t2,t18,s];exact next (by simp[t1]) (by simp[t3]) (by simp[t4]) (by simp[t16]) (by simp[t18]) (by simp[t22]) c j (.refl _)
def abD{bb:List (aB×List af)}(H:fR S n g cq lc ch lt)(L:ae (.loc 0) bb=some [.func g lc,.func cq ch])(U:∀k cs,ae k (S l).b=some cs->ae k bb=some cs)(W:rW lt)(Z:Gm S n g cq lc ch lt d){s0 r0:Nat}(t1:Pv.get 1 t=aj a)(t2:Pv.get 2 t=aj m)(t3:Pv.get 3 t=aj b)(t4:Pv.get 4 t= .ptr (.loc 0) 0)(t16:Pv.get 16 t=aj mid)(t17:Pv.get 17 t=aj ((mid:Int)+m))(t18:Pv.get 18 t=aj s0)(t19:Pv.get 19 t=aj r0)(f:l.length=n)(bA:a<m/\m<b/\mid=(a+b)/2)(J:mid<m/\s0=mid+m-b/\r0=mid\/m<=mid/\s0=a/\r0=m)(ag:b<=n)(aL:b-a<=d+1)(N:fY lt a m l)(M:fY lt m b l)(O:Gn S g cq lc ch lt a b l Q):
  df au (cK (S l)) Lq Q ⟨t,bb,(S l).e,1,o⟩:=by
 have hle:=H.le;unfold Lq;simp[t17];(repeat' first|refine al ?_|simp[t17]);refine o7 (fun(x:Nat×Nat)=>⟨[(1,aj a),(2,aj m),(3,aj b),(4,.ptr (.loc 0) 0),(16,aj mid),(17,aj (mid+m)),(20,aj (mid+m-1)),(18,aj x.1),(19,aj x.2)],(.loc 0,[.func g lc,.func cq ch])::(S l).b,(S l).e,1,cK (S l)⟩) (fun x=>x.2-x.1)
  (arq lt l mid m s0 r0) (s0,r0) (H.weak f f (by simp[az,t1,t2,t3,t4,t16,t17,t18,t19]) L U fun _ _ h=>h) ⟨Ψ,by simp;omega,Ψ,.inl rfl,.inl rfl⟩ ?_
 rintro⟨i,j⟩ ⟨K,X,G,p,q⟩ _;simp only at K X G p q;have E:=HB i j Ω;by_cases F:i<j
 ·simp[F];(repeat' first|refine al ?_|simp[ae]);obtain⟨c,aw⟩:∃c,c=(i+j)/2:=⟨_,rfl⟩;rw[<-aw]at E;simp only[E];(repeat' first|refine al ?_|simp[ae]);obtain⟨u,A⟩:∃u,l[c]? =some u:=⟨_,cl Ω⟩;obtain⟨v,z⟩:∃v,l[mid+m-1-c]? =some v:=⟨_,cl Ω⟩;have Y:((mid:Int)+m-1-c)=(mid+m-1-c:Nat):=Ω
  simp only[H.slc,Y];refine H.doLess f (mid+m-1-c) c z A ?_;simp;cases B:lt v u with
  |false=>simp;(repeat' first|refine al ?_|simp);refine bY.whl (c+1,j) d6 ⟨by simp;omega,by simp;omega,G,.inr ⟨u,v,by simpa using A,?_,B⟩,q⟩ (H.weakC f f dl);simp only;rw[show mid+m-(c+1)=mid+m-1-c by omega];exact z
  |true=>simp;(repeat' first|refine al ?_|simp);refine bY.whl (i,c) d6 ⟨K,by simp;omega,by simp;omega,p,.inr ⟨u,v,A,?_,B⟩⟩ (H.weakC f f dl);simp only;rw[show mid+m-c-1=mid+m-1-c by omega];exact z
 ·obtain rfl:i=j:=Ω
  obtain⟨e,he⟩:∃e,e=mid+m-i:=⟨_,rfl⟩;have P:((mid:Int)+m-i)=(e:Nat):=Ω
  have V:i=a\/e=b\/ ∃x y,l[i-1]? =some x/\l[e]? =some y/\lt y x=false:=by
   rcases p with p|⟨u,v,w,s,r⟩
   ·omega
   ·exact .inr (.inr ⟨u,v,w,by rw[he];exact s,r⟩)
  have R:i=m\/e=m\/ ∃x y,l[i]? =some x/\l[e-1]? =some y/\lt y x=true:=by
   rcases q with q|⟨u,v,w,s,r⟩
   ·omega
   ·exact .inr (.inr ⟨u,v,w,by rw[he];exact s,r⟩)
  simp[F];(repeat' first|refine al ?_|simp);rw[P];exact aq4 H Z (a:=a) (m:=m) (b:=b) (mid:=mid) (i:=i) (e:=e) Ψ Ψ Ψ Ψ Ψ Ψ Ψ f Ω Ω Ω ag Ω Ω (fun lk aI=>amK W Ω Ω Ω Ω Ω Ω N M V R aI) O
end
def VR(H:fR S n g cq lc ch lt)(q:rW lt)(d:Nat):∀(l:List α) (a m b:Nat),l.length=n->b-a<=d->a<m->m<b->b<=n->fY lt a m l->fY lt m b l->
  bG au 232 [fC g cq lc ch,aj a,aj m,aj b] (S l) fun r ak=>r= .tuple []/\∃V,ak=S V/\hj a b l V/\fY lt a b V:=by
 induction d with
 |zero=>intro l a m b f Y D1 P;omega
 |succ d b0=>
 intro l a m b f Y D1 P ag M L;have ai:=H.ok l;have v:∀l m,ae (.loc m) (S l).b=none:=fun l=>(H.ok l).obj.1;have hu:∀l m cs,cJ (.loc m) cs (S l).b=(S l).b++[(.loc m,cs)]:=fun l m cs=>kO (v l m);have ar:∀m,aB.loc m∉cK (S l):=kJ ai.obj;have hle:=H.le;refine bG.mk mixed a6 Tryz.func232 aoG Ψ ai.obj fun aR c4=>?_;unfold Tq;simp[fC,hu,ar,c6,v];(with_reducible repeat' first|((first|apply ct|apply cz|apply cy)<;>intro h<;>try simp at h)|refine al ?_|simp[hu,ar,c6,v])
 ·obtain rfl:m=a+1:=Ω
  have Z:∀k,iW a (a+1) (a+1) k=k:=by
   intro k;simp only[iW];repeat' split
   all_goals omega
  obtain⟨z,N⟩:∃z,l[a]? =some z:=⟨_,cl Ω⟩;refine o7 (fun(x:Nat×Nat)=>⟨[(1,aj a),(4,.ptr (.loc 0) 0),(8,aj x.1),(9,aj x.2)],(.loc 0,[.func g lc,.func cq ch])::(S l).b,(S l).e,1,cK (S l)⟩) (fun x=>x.2-x.1)
   (fun x=>a+1<=x.1/\x.1<=x.2/\x.2<=b/\(∀h y,a+1<=h->h<x.1->l[h]? =some y->lt y z=true)/\(∀h y,x.2<=h->h<b->l[h]? =some y->lt y z=false)) (a+1,b)
   (H.weak f f dl (by simp[c6,v]) aX aX) ⟨Ψ,by simp;omega,Ψ,fun h y J U=>by simp at U;omega,fun h y J U=>by simp at J;omega⟩ ?_
  rintro⟨i,j⟩ ⟨O,X,E,w,A⟩ _;simp only at O X E w A;have hw:=HB i j Ω;simp[ae];(with_reducible repeat' first|((first|apply ct|apply cz|apply cy)<;>intro h<;>try simp at h)|refine al ?_|simp[ae])
  ·obtain⟨c,aw⟩:∃c,c=(i+j)/2:=⟨_,rfl⟩;rw[<-aw]at hw;obtain⟨y,G⟩:∃y,l[c]? =some y:=⟨_,cl Ω⟩;simp only[hw,H.slc];refine H.doLess f c a G N ?_;simp;cases K:lt y z with
   |true=>
    simp;(repeat' first|refine al ?_|simp);refine bY.whl (c+1,j) d6 ⟨by simp;omega,by simp;omega,E,fun h u J U hu=>?_,A⟩ (H.weakC f f dl);cases e:lt u z with
    |true=>rfl
    |false=>simp only at U;have:=q.ntr _ _ _ e (fY.le q L J Ω Ω hu G);rw[K]at this;cases this
   |false=>simp;(repeat' first|refine al ?_|simp);refine bY.whl (i,c) d6 ⟨O,by simp;omega,by simp;omega,w,fun h u J U hu=>?_⟩ (H.weakC f f dl);exact q.ntr _ _ _ K (fY.le q L Ω J U G hu)
  ·obtain rfl:i=j:=Ω
   refine o7 (fun(x:Nat×List α)=>⟨[(4,.ptr (.loc 0) 0),(8,aj i),(11,aj x.1)],(.loc 0,[.func g lc,.func cq ch])::(S x.2).b,(S x.2).e,1,cK (S l)⟩) (fun x=>i-x.1)
    (fun x=>x.2.length=n/\a<=x.1/\x.1<i/\hj a b l x.2/\∀k,x.2[k]? =l[iW a (a+1) (x.1+1) k]?) (a,l)
    (H.weakC f f dl) ⟨f,Ψ,by simp;omega,.refl _,fun k=>by simp[Z]⟩ ?_
   rintro⟨k,lk⟩ ⟨p,F,W,B,s⟩ _;simp only at p F W B s;simp[ae];((repeat' first|refine al ?_|simp[ae]|((first|apply ct|apply cz|apply cy)<;>intro h<;>try simp at h))<;>(try exact c3))
   ·have R:((k:Int)+1)=(k+1:Nat):=Ω
    rw[H.ssc,R];refine H.doSwap p k (k+1) Ω Ω Ω ?_;simp;(with_reducible repeat' first|((first|apply ct|apply cz|apply cy)<;>intro h<;>try simp at h)|refine al ?_|simp);refine bY.whl (k+1,ie lk k (k+1)) d6 ⟨by simp[p],by simp;omega,by simp;omega,.step B Ω Ω Ω Ω Ω Ω,fun t=>?_⟩ (H.weakC f (by simp[p]) dl);rw[B2 _ _ _ _ Ω Ω,s,s,s];have:iW a (a+1) (k+1+1) t=if t=k then iW a (a+1) (k+1) (k+1)else if t=k+1 then iW a (a+1) (k+1) k else iW a (a+1) (k+1) t:=by
     simp only[iW];repeat' split
     all_goals omega
    rw[this];split
    ·rfl
    ·split<;>rfl
   ·obtain rfl:i=k+1:=Ω
    refine H.ret f p (.inl rfl) ⟨rfl,lk,rfl,B,amA q Ω E Ω L N w A s⟩
 ·obtain rfl:b=m+1:=Ω
  have Z:∀k,iW m m (m+1) k=k:=by
   intro k;simp only[iW];repeat' split
   all_goals omega
  obtain⟨z,N⟩:∃z,l[m]? =some z:=⟨_,cl Ω⟩;refine o7 (fun(x:Nat×Nat)=>⟨[(2,aj m),(4,.ptr (.loc 0) 0),(12,aj x.1),(13,aj x.2)],(.loc 0,[.func g lc,.func cq ch])::(S l).b,(S l).e,1,cK (S l)⟩) (fun x=>x.2-x.1)
   (fun x=>a<=x.1/\x.1<=x.2/\x.2<=m/\(∀h y,a<=h->h<x.1->l[h]? =some y->lt z y=false)/\(∀h y,x.2<=h->h<m->l[h]? =some y->lt z y=true)) (a,m)
   (H.weak f f dl (by simp[c6,v]) aX aX) ⟨Ψ,by simp;omega,Ψ,fun h y J U=>by simp at U;omega,fun h y J U=>by simp at J;omega⟩ ?_
  rintro⟨i,j⟩ ⟨O,X,E,w,A⟩ _;simp only at O X E w A;have hw:=HB i j Ω;simp[ae];(with_reducible repeat' first|((first|apply ct|apply cz|apply cy)<;>intro h<;>try simp at h)|refine al ?_|simp[ae])
  ·obtain⟨c,aw⟩:∃c,c=(i+j)/2:=⟨_,rfl⟩;rw[<-aw]at hw;obtain⟨y,G⟩:∃y,l[c]? =some y:=⟨_,cl Ω⟩;simp only[hw,H.slc];refine H.doLess f m c N G ?_;simp;cases K:lt z y with
   |false=>simp;((repeat' first|refine al ?_|simp|((first|apply ct|apply cz|apply cy)<;>intro h<;>try simp at h))<;>(try exact c3));refine bY.whl (c+1,j) d6 ⟨by simp;omega,by simp;omega,E,fun h u J U hu=>?_,A⟩ (H.weakC f f dl);simp only at U;exact q.ntr _ _ _ (fY.le q M J Ω Ω hu G) K
   |true=>
    simp;((repeat' first|refine al ?_|simp|((first|apply ct|apply cz|apply cy)<;>intro h<;>try simp at h))<;>(try exact c3));refine bY.whl (i,c) d6 ⟨O,by simp;omega,by simp;omega,w,fun h u J U hu=>?_⟩ (H.weakC f f dl);cases e:lt z u with
    |true=>rfl
    |false=>have:=q.ntr _ _ _ (fY.le q M Ω J U G hu) e;rw[K]at this;cases this
  ·obtain rfl:i=j:=Ω
   refine o7 (fun(x:Nat×List α)=>⟨[(4,.ptr (.loc 0) 0),(12,aj i),(15,aj x.1)],(.loc 0,[.func g lc,.func cq ch])::(S x.2).b,(S x.2).e,1,cK (S l)⟩) (fun x=>x.1)
    (fun x=>x.2.length=n/\i<=x.1/\x.1<=m/\hj a (m+1) l x.2/\∀k,x.2[k]? =l[iW x.1 m (m+1) k]?) (m,l)
    (H.weakC f f dl) ⟨f,by simp;omega,Ψ,.refl _,fun k=>by simp[Z]⟩ ?_
   rintro⟨k,lk⟩ ⟨p,F,W,B,s⟩ _;simp only at p F W B s;simp[ae];((repeat' first|refine al ?_|simp[ae]|((first|apply ct|apply cz|apply cy)<;>intro h<;>try simp at h))<;>(try exact c3))
   ·have R:((k:Int)-1)=(k-1:Nat):=Ω
    rw[H.ssc,R];refine H.doSwap p k (k-1) Ω Ω Ω ?_;simp;(repeat' first|refine al ?_|simp);refine bY.whl (k-1,ie lk k (k-1)) d6 ⟨by simp[p],by simp;omega,by simp;omega,.step B Ω Ω Ω Ω Ω Ω,fun t=>?_⟩ (H.weakC f (by simp[p]) (by simp[az];omega));rw[B2 _ _ _ _ Ω Ω,s,s,s];have:iW (k-1) m (m+1) t=if t=k then iW k m (m+1) (k-1)else if t=k-1 then iW k m (m+1) k else iW k m (m+1) t:=by
     simp only[iW];repeat' split
     all_goals omega
    rw[this];split
    ·rfl
    ·split<;>rfl
   ·obtain rfl:i=k:=Ω
    refine H.ret f p (.inl rfl) ⟨rfl,lk,rfl,B,amB q Ω E Ω M N w A s⟩
 ·obtain⟨mid,M1⟩:∃mid,mid=(a+b)/2:=⟨_,rfl⟩;have hw:=HB a b Ω;rw[<-M1]at hw;simp only[hw];(with_reducible repeat' first|((first|apply ct|apply cz|apply cy)<;>intro h<;>try simp at h)|refine al ?_|simp[hu,ar,c6,v])
  ·exact abD (s0:=mid+m-b) (r0:=mid) H (by simp[c6,v]) aX q b0 (a:=a) (m:=m) (b:=b) (mid:=mid) Ψ Ψ Ψ Ψ Ψ Ψ d6 Ψ f ⟨D1,P,M1⟩ Ω ag Y M L fun Q t o p F=>H.ret f (by rw[p.length];exact f) (.inr rfl) ⟨rfl,Q,rfl,p,F⟩
  ·exact abD (s0:=a) (r0:=m) H (by simp[c6,v]) aX q b0 (a:=a) (m:=m) (b:=b) (mid:=mid) Ψ Ψ Ψ Ψ Ψ Ψ Ψ Ψ f ⟨D1,P,M1⟩ Ω ag Y M L fun Q t o p F=>H.ret f (by rw[p.length];exact f) (.inr rfl) ⟨rfl,Q,rfl,p,F⟩
end
section
open Go Go.Pv
variable {α:Type} {S:List α->cR} {n g cq:Nat} {lc ch:List af} {lt:α->α->Bool}
def qf(lt:α->α->Bool)(z a b:Nat)(l:List α):Prop:= ∀i j x y,a<=i->i<j->j<b->i/z=j/z->l[i]? =some x->l[j]? =some y->lt y x=false
def qf.snoc{z q:Nat}(f:0<z){l a:List α}(h:qf lt z 0 (q*z) l){b:Nat}(g:hj (q*z) b l a)(U:fY lt (q*z) b a):qf lt z 0 b a:=by
 intro i j x y hi e m o c d;by_cases k:j<q*z
 ·rw[g.out _ (.inl Ω)]at c;rw[g.out _ (.inl k)]at d;exact h i j x y hi e k o c d
 ·have p:q<=j/z:=(Nat.le_div_iff_mul_le f).2 Ω;have n:q*z<=i:=(Nat.le_div_iff_mul_le f).1 Ω;exact U i j x y n e m c d
def qf.srt{z q:Nat}(o:0<z){l:List α}{a b:Nat}(h:qf lt z a b l){c:Nat}(e:a<=q*z)(aw:c<=(q+1)*z)(f:c<=b):fY lt (q*z) c l:=by intro i j x y hi d p g k;have n:i/z=q:=Nat.div_eq_of_lt_le hi Ω;have m:j/z=q:=Nat.div_eq_of_lt_le Ω Ω;exact h i j x y Ω d Ω Ω g k
def qf.after{z a b br b2:Nat}{l c:List α}(h:qf lt z a b l)(d:hj a br l c)(m:a<=br)(o:b2<=b):qf lt z br b2 c:=by intro i j x y hi g n k e f;rw[d.out _ (.inr Ω)]at e;rw[d.out _ (.inr Ω)]at f;exact h i j x y Ω g Ω k e f
def Mq(H:fR S n g cq lc ch lt)(L:rW lt)(l:List α)(f:l.length=n):
  bG au 199 [fC g cq lc ch,aj n] (S l) fun r ak=>r= .tuple []/\∃b,ak=S b/\hj 0 n l b/\fY lt 0 n b:=by
 have ai:=H.ok l;have W:∀l m,ae (.loc m) (S l).b=none:=fun l=>(H.ok l).obj.1;have hu:∀l m cs,cJ (.loc m) cs (S l).b=(S l).b++[(.loc m,cs)]:=fun l m cs=>kO (W l m);have ar:∀m,aB.loc m∉cK (S l):=kJ ai.obj;have hle:=H.le;refine bG.mk mixed a6 Tryz.func199 aoE Ψ ai.obj fun aR c4=>?_;unfold To;simp[fC,hu,ar,c6,W];refine o7 (fun(x:Nat×List α)=>⟨[(1,aj n),(2,.ptr (.loc 0) 0),(4,aj 20),(5,aj (x.1*20)),(6,aj (x.1*20+20))],(.loc 0,[.func g lc,.func cq ch])::(S x.2).b,(S x.2).e,1,cK (S l)⟩) (fun x=>n+20-x.1*20)
  (fun x=>x.2.length=n/\x.1*20<=n/\hj 0 n l x.2/\qf lt 20 0 (x.1*20) x.2) (0,l)
  (H.weak f f dl (by simp[c6,W]) aX aX) ⟨f,Ψ,.refl _,fun i j x y J U k=>by simp at k⟩ ?_
 rintro⟨q,lk⟩ ⟨J,U,k,V⟩ _;simp only at J U k V;simp[ae];((repeat' first|refine al ?_|simp[ae]|((first|apply ct|apply cz|apply cy)<;>intro h<;>try simp at h))<;>(try exact c3))
 ·have P:((q:Int)*20)=(q*20:Nat):=Ω
  have aC:((q:Int)*20+20)=(q*20+20:Nat):=Ω
  simp only[jl H,H.slc,H.ssc,jg,aC];simp only[P];refine H.doFn J (VG H L lk J (q*20) (q*20+20) Ω Ω) (fun b h=>by rw[h.1.length];exact J) (by simp[aH,az,H.kdata J]) ?_;rintro b ⟨s,N⟩;have w:b.length=n:=by rw[s.length];exact J
  simp;((repeat' first|refine al ?_|simp|((first|apply ct|apply cz|apply cy)<;>intro h<;>try simp at h))<;>(try exact c3));refine bY.whl (q+1,b) d6 ⟨w,by simp;omega,k.trans (s.mono Ω Ω),?_⟩ (H.weakC f w (by simp[az];omega));have:=V.snoc Ω s N;rwa[show q*20+20=(q+1)*20 by omega]at this
 ·have P:((q:Int)*20)=(q*20:Nat):=Ω
  simp only[jl H,H.slc,H.ssc,jg,P];refine H.doFn J (VG H L lk J (q*20) n Ω Ω) (fun b h=>by rw[h.1.length];exact J) (by simp[aH,az,H.kdata J]) ?_;rintro b ⟨s,N⟩;have w:b.length=n:=by rw[s.length];exact J
  have gf:=V.snoc Ω s N;simp;refine o7 (fun(x:Nat×List α)=>⟨[(1,aj n),(2,.ptr (.loc 0) 0),(4,aj x.1)],(.loc 0,[.func g lc,.func cq ch])::(S x.2).b,(S x.2).e,1,cK (S l)⟩) (fun x=>1099511627776-x.1)
   (fun x=>x.2.length=n/\20<=x.1/\x.1<=2*n+20/\hj 0 n l x.2/\qf lt x.1 0 n x.2) (20,b)
   (H.weakC f w dl) ⟨w,Ψ,Ψ,k.trans (s.mono Ω Ω),gf⟩ ?_
  rintro⟨z,Ym⟩ ⟨K,z2,z3,z4,z5⟩ _;simp only at K z2 z3 z4 z5;simp[ae];((repeat' first|refine al ?_|simp[ae]|((first|apply ct|apply cz|apply cy)<;>intro h<;>try simp at h))<;>(try exact c3))
  ·refine o7 (fun(x:Nat×List α)=>⟨[(1,aj n),(2,.ptr (.loc 0) 0),(4,aj z),(5,aj (x.1*(2*z):Nat)),(6,aj (x.1*(2*z)+2*z:Nat))],(.loc 0,[.func g lc,.func cq ch])::(S x.2).b,(S x.2).e,1,cK (S l)⟩) (fun x=>n+2*z-x.1*(2*z))
    (fun x=>x.2.length=n/\x.1*(2*z)<=n/\hj 0 n l x.2/\qf lt (2*z) 0 (x.1*(2*z)) x.2/\qf lt z (x.1*(2*z)) n x.2) (0,Ym)
    (H.weakC f K dl) ⟨K,Ψ,z4,fun i j x y J U k=>by simp at k,by simpa using z5⟩ ?_
   rintro⟨p,F⟩ ⟨a,dR,G,o,E⟩ _;simp only at a dR G o E;obtain⟨A,d⟩:∃A,A=p*(2*z):=⟨_,rfl⟩;have y8:A=(2*p)*z:=by rw[d,Nat.mul_comm 2 p,Nat.mul_assoc]
   have X:(2*p+1)*z=A+z:=by rw[q3,<-y8,Nat.one_mul]
   have R:(2*p+2)*z=A+2*z:=by rw[q3,<-y8]
   have t:(p+1)*(2*z)=A+2*z:=by rw[q3,<-d,Nat.one_mul]
   have M:∀c,c<=A+z->c<=n->fY lt A c F:=fun c aw Y=>by have:=qf.srt (q:=2*p) Ω E (c:=c) (by rw[<-y8,d];omega) (by rw[X];exact aw) Y;rwa[<-y8]at this
   have Z:∀c,c<=A+2*z->c<=n->fY lt (A+z) c F:=fun c aw Y=>by have:=qf.srt (q:=2*p+1) Ω E (c:=c) (by rw[X,d];omega) (by rw[R];exact aw) Y;rwa[X]at this
   rw[<-d]at dR o E;simp only[<-d];simp[ae];((repeat' first|refine al ?_|simp[ae]|((first|apply ct|apply cz|apply cy)<;>intro h<;>try simp at h))<;>(try exact c3))
   ·have O:((A:Int)+z)=(A+z:Nat):=Ω
    have b3:((A:Int)+2*z)=(A+2*z:Nat):=Ω
    simp only[jl H,H.slc,H.ssc,jg,O,b3];refine H.doFn a (VR H L (A+2*z-A) F A (A+z) (A+2*z) a Ω Ω Ω Ω (M _ Ω Ω) (Z _ Ω Ω)) (fun b h=>by rw[h.1.length];exact a) (by simp[aH,az,H.kdata a]) ?_;rintro B ⟨e,u⟩;have v:B.length=n:=by rw[e.length];exact a
    simp;(repeat' first|refine al ?_|simp);refine bY.whl (p+1,B) (by simp only[t,<-d];omega) ⟨v,by simp only[t];omega,G.trans (e.mono Ω Ω),?_,?_⟩ ?_
    ·simp only[t];rw[d]at o e u;have:=o.snoc Ω e u;rwa[<-d]at this
    ·simp only[t];exact E.after e Ω Ω
    ·simp only[t];have Q:((p:Int)+1)*(2*(z:Int))=(A:Int)+2*z:=by have h:=fy (Nat.cast:Nat->Int) t;push_cast at h;exact h
     exact H.weakC f v (by simp[az,Q])
   ·have O:((A:Int)+z)=(A+z:Nat):=Ω
    simp only[jl H,H.slc,H.ssc,jg,O];refine H.doFn a (VR H L (n-A) F A (A+z) n a Ω Ω Ω Ω (M _ Ω Ω) (Z _ Ω Ω)) (fun b h=>by rw[h.1.length];exact a) (by simp[aH,az,H.kdata a]) ?_;rintro B ⟨e,u⟩;have v:B.length=n:=by rw[e.length];exact a
    simp;((repeat' first|refine al ?_|simp|((first|apply ct|apply cz|apply cy)<;>intro h<;>try simp at h))<;>(try exact c3));refine bY.whl (2*z,B) d6 ⟨v,by simp;omega,by simp;omega,G.trans (e.mono Ω Ω),?_⟩ (H.weakC f v (by simp[az];omega));rw[d]at o e u;exact o.snoc Ω e u
   ·refine bY.whl (2*z,F) d6 ⟨a,by simp;omega,by simp;omega,G,?_⟩ (H.weakC f a (by simp[az];omega));have bR:=M n Ω Ω;rw[d]at o bR;exact o.snoc Ω (.refl _) bR
  ·refine H.ret f K (.inr rfl) ?_;refine⟨rfl,Ym,rfl,z4,fun i j x y J U k=>z5 i j x y J U k ?_⟩;rw[Nat.div_eq_of_lt Ω,Nat.div_eq_of_lt Ω]
end
section
open Go Go.Pv Go.Sort Go.RowKit
def akM{w:World}{base:Nat}{e:gT}{sz:Nat}{v:Value}{n:Nat}{us:List Value}(h:w.ownsRow base e sz v n us)(k:v≠ .slice none 0 0):
  ∃g cap,v= .slice (some ⟨g,0,none⟩) n cap/\g<w.heap.size/\cap<=maxLen/\n<=cap/\us.length=n*sz/\Holds id w g 0 us.toArray:=by
 rcases h.2 with⟨d,_⟩|⟨g,cap,cur,rfl,q,bf,m,hm,p,l⟩
 ·exact absurd d k
 ·have f:g<w.heap.size:=by
   rcases Nat.lt_or_ge g w.heap.size with a|a
   ·exact a
   ·rw[Array.getElem?_eq_none a]at bf;cases bf
  refine⟨g,cap,rfl,f,hm,m,h.1,fun j i=>?_⟩;have b:j<us.length:=by simpa using i
  have o:=h.1;refine⟨?_,by simp[World.frozen?,bf]⟩;have c:(cur.toList.take (n*sz))[j]? =us[j]?:=by rw[l]
  rw[List.getElem?_take,if_pos Ω,vm,cl b]at c;simp only[World.cell?,bf,Nat.zero_add];simp only[kf,hR,if_false];rw[c];simp[getElem!_pos,b]
def api{w:World}{base:Nat}{e:gT}{sz g n cap q:Nat}{us:List Value}{F:Array Value}(h:w.ownsRow base e sz (.slice (some ⟨g,0,none⟩) n cap) n us)(k:F.size=n*sz):
  (putRow id (Sort.ahead w q) g 0 F).ownsRow base e sz (.slice (some ⟨g,0,none⟩) n cap) n F.toList:=by
 rcases h.2 with⟨b,_⟩|⟨o,r,cur,b,m,bf,i,hm,d,p⟩
 ·cases b
 ·injection b with a _ l;injection a with a;injection a with a;subst a;subst l;refine⟨by simpa using k,.inr ⟨g,cap,putCells id 0 F cur,rfl,m,?_,i,hm,by simpa[putCells]using d,?_⟩⟩
  ·simp[putRow,mapBlock,Sort.ahead,Array.getElem?_modify,bf,onCells]
  ·have hle:n*sz<=cur.size:=by rw[d];exact rT _ i
   apply List.ext_getElem?;intro j;rw[List.getElem?_take,vm,vm];by_cases f:j<n*sz
   ·have c:j<cur.size:=Ω
    simp only[if_pos f,putCells,Array.getElem?_mapIdx,Array.getElem?_eq_getElem c,pB];rw[if_pos Ω];simp[getElem!_pos,show j<F.size by omega]
   ·simp[f];omega
end
end Go.Proofs.YtahlgcidhnjlbaaGreat
namespace Go.Pv
section
open Go Go.RowKit Go.Lib Go.Sort Go.Proofs.YtahlgcidhnjlbaaGreat
def XK{S:aB->Prop}:∀{l:List af},aH S l↔∀x∈l,az S x
 |[]=>by simp[aH]
 |x::r=>by simp only[aH,XK (l:=r),gI,forall_eq_or_imp]
def XC{α:Type}{s:cR}{l:List (aB×α)}:lX s l↔∀k,(ae k l).isSome->aM s k:=by
 refine⟨fun h k d=>xR h k d,fun h=>?_⟩;have:∀a:List (aB×α),(∀x∈a,aM s x.1)->lX s a:=by
  intro a;induction a with
  |nil=>intro _;trivial
  |cons x r b=>obtain⟨k,x⟩:=x;exact fun h=>⟨h (k,x) Ψ,b fun y e=>h y (by simp[e])⟩
 exact this l fun x c=>h x.1 (uZ (x:=x.2) c)
def PX{w:World}{ν:bc}{sz:Nat}:∀{xs:List af} {us:List Value} {i:Nat} {p:af},dw w ν sz xs us->xs[i]? =some p->∃u,(us.drop (i*sz)).take sz=u.cells.toList/\aU w ν p u/\u.cells.size=sz/\∀c∈u.cells.toList,c.oneCell'=true
 |[],_,_,_,_,a=>by simp at a
 |x::xs,us,0,p,h,a=>by simp only[dw]at h;obtain⟨u,e,rfl,⟨J,U,b⟩,_⟩:=h;simp at a;subst a;refine⟨u,?_,J,U,b⟩;simp only[Nat.zero_mul,List.drop_zero];rw[List.take_append_of_le_length (by simp[U])];exact iv (by simp[U])
 |x::xs,us,i+1,p,h,a=>by simp only[dw]at h;obtain⟨u,e,rfl,⟨J,U,b⟩,d⟩:=h;obtain⟨v,f,g⟩:=PX (i:=i) d (by simpa using a);refine⟨v,?_,g⟩;rw[<-f,Nat.succ_mul,Nat.add_comm,<-List.drop_drop];congr 2;rw[List.drop_append_of_le_length (by simp[U]),List.drop_of_length_le (by simp[U])];rfl
def Qg:∀(bm:List Value) (s:Nat) (F:Array Value),s+bm.length<=F.size->(setMany F s bm).toList=F.toList.take s++bm++F.toList.drop (s+bm.length)
 |[],s,F,h=>by simp[setMany]
 |v::r,s,F,h=>by
  simp only[mV]at h;rw[setMany,Qg r (s+1) _ d6];have b:s<F.toList.length:=by simp;omega
  have c:(F.setIfInBounds s v).toList=F.toList.set s v:=Ψ
  rw[c];have d:(F.toList.set s v).take (s+1)=F.toList.take s++[v]:=by rw[List.take_succ,List.getElem?_set_self b,List.take_set_of_le (dO _)];simp
  have a:(F.toList.set s v).drop (s+1+r.length)=F.toList.drop (s+(v::r).length):=by rw[List.drop_set_of_lt Ω];congr 1;simp;omega
  rw[d,a];simp
def adL(w:World):Sort.ahead w 0=w:=by simp[Sort.ahead]
def VQ{P:cI}(O:Bool)(cq:Nat)(ad:∀args W,(callFunc cq args).run P W=((Ga O args).run P W).andThen fun v w'=>.ok (.value v) w')(e:gT)(a:TypeInfo)(uJ:P.info? e=some a)(H:(∀w,(Go.isAgg e).run P w= .ok true w)\/(a.size=1/\∀w,(Go.isAgg e).run P w= .ok false w)){s:cR}(B:ez s){K n el sz:Nat}(en:a.size=sz){xs:List af}(E:ae (.obj K) s.e=some ⟨n,el,sz,some xs⟩)
  (i j:Nat) (hi:i<n) (ah:j<n):bG P cq [.int .i64 i,.int .i64 j,.row sz (.obj K) n,.cst (typeHandle P e)] s fun r ak=>r= .tuple []/\ak=⟨s.b,cJ (.obj K) ⟨n,el,sz,some (ie xs i j)⟩ s.e⟩:=by
 subst en;refine bG.sem B.obj fun w ν bm lr G=>?_;right;have s0:=G.slot 0;have s1:=G.slot 1;have s2:=G.slot 2;have s3:=G.slot 3;simp[jc,get,aU]at s0 s1 s2 s3;obtain⟨v,us,a8,bB,bX,dq⟩:=G.good.own (.obj K) _ E;obtain⟨dK,S,va⟩:=dq _ rfl;simp only at dK S a8 bB;obtain⟨⟨g0,aej,vS⟩,_,n',eJ,ao,aC,bh⟩:=s2;rw[a8]at ao;simp only[dU,jo]at ao;obtain⟨rfl,rfl⟩:=ao;have b:=bh rfl;have cv:v≠ .slice none 0 0:=by rw[<-b,vS];simp
 obtain⟨g,cap,rfl,sd,tg,aj9,D8,DY⟩:=akM bB cv;have alc:bm= #[.int .i64 i,.int .i64 j,.slice (some ⟨g,0,none⟩) n cap,typeHandle P e]:=by
  have J:bm.size=4:=by simpa using lr
  apply Array.ext (by simpa using J);intro t U aq;simp at aq;rcases(by omega:t=0\/t=1\/t=2\/t=3)with rfl|rfl|rfl|rfl
  ·simpa[Array.getD,J]using s0
  ·simpa[Array.getD,J]using s1
  ·simpa[Array.getD,J]using b
  ·simpa[Array.getD,J]using s3
 subst alc;obtain⟨p,bN⟩:∃p,xs[i]? =some p:=⟨_,cl Ω⟩;obtain⟨q,bM⟩:∃q,xs[j]? =some q:=⟨_,cl Ω⟩;obtain⟨u,M,iN,y,Q⟩:=PX S bN;obtain⟨x,L,Au,l,V⟩:=PX S bM;have WC:i*a.size+a.size<=n*a.size:=by have:=rT a.size (show i+1<=n from hi);rwa[q3,Nat.one_mul]at this
 have WD:j*a.size+a.size<=n*a.size:=by have:=rT a.size (show j+1<=n from ah);rwa[q3,Nat.one_mul]at this
 have cell:∀t v,us[t]? =some v->w.cell? ⟨g,t,none⟩=some v:=fun t v N=>by obtain⟨J,U⟩:=fH.1 N;have:=(DY t (by simpa using J)).1;simp at this;rw[this];simp[getElem!_pos,J,U]
 have Y:∀t,t<n*a.size->w.frozen? ⟨g,t,none⟩=false:=fun t N=>by have:=(DY t (by simpa[D8]using N)).2;simpa using this
 have run:(Ga O #[.int .i64 i,.int .i64 j,.slice (some ⟨g,0,none⟩) n cap,typeHandle P e]).run P w= .ok (.tuple #[]) ((w.setCells g (0+i*a.size) x.cells.toList).setCells g (0+j*a.size) u.cells.toList):=by
  rcases H with H|⟨X,H⟩
  ·exact run_swap_cells (P:=P) O e a uJ H g 0 n cap i j hi ah u.cells.toList x.cells.toList (by simp[y]) (by simp[l]) Q V w
     (fun k v b=>by
      rw[<-M,List.getElem?_take]at b;split at b
      ·rw[List.getElem?_drop]at b;simpa using cell _ _ b
      ·cases b)
     (fun k v b=>by
      rw[<-L,List.getElem?_take]at b;split at b
      ·rw[List.getElem?_drop]at b;simpa using cell _ _ b
      ·cases b)
     (fun k E=>by simpa using Y (i*a.size+k) Ω) (fun k E=>by simpa using Y (j*a.size+k) Ω)
  ·rw[X]at M y L l⊢;obtain⟨Z,MI⟩:∃c,u.cells.toList=[c]:=List.length_eq_one_iff.1 (by simpa using y);obtain⟨R,mG⟩:∃c,x.cells.toList=[c]:=List.length_eq_one_iff.1 (by simpa using l);rw[MI]at M Q⊢;rw[mG]at L V⊢;simp only[World.setCells,Nat.mul_one]at M L⊢;have VT:us[i]? =some Z:=by have:=fy (·[0]?) M;simpa using this
   have VV:us[j]? =some R:=by have:=fy (·[0]?) L;simpa using this
   have:=run_swap_one (P:=P) O e a uJ X H g 0 n cap i j hi ah Z R (Q Z Ψ) (V R Ψ) w (by simpa using cell i Z VT) (by simpa using cell j R VV) (by simpa using Y i (by rw[X];omega)) (by simpa using Y j (by rw[X];omega));simpa using this
 have ale:putRow id w g 0 us.toArray=w:=putRow_self id w g 0 _ DY;have ak5:us.toArray.size=n*a.size:=by simpa using D8
 have H5:w.setCells g (0+i*a.size) x.cells.toList=putRow id w g 0 (setMany us.toArray (i*a.size) x.cells.toList):=by have J:=setCells_putRow w g 0 x.cells.toList (i*a.size) us.toArray (by simp[l,D8];exact WC);rw[ale]at J;exact J
 obtain⟨d,oz⟩:∃d,d=setMany us.toArray (i*a.size) x.cells.toList:=⟨_,rfl⟩;have ajG:d.toList=us.take (i*a.size)++x.cells.toList++us.drop (i*a.size+a.size):=by rw[oz,Qg _ _ _ (by simp[l,D8];exact WC)];simp[l]
 have Mx:d.size=n*a.size:=by rw[oz,size_setMany];exact ak5
 have pY:(w.setCells g (0+i*a.size) x.cells.toList).setCells g (0+j*a.size) u.cells.toList=putRow id w g 0 (setMany d (j*a.size) u.cells.toList):=by rw[H5,<-oz,setCells_putRow w g 0 u.cells.toList (j*a.size) d (by simp[y,Mx];exact WD)]
 obtain⟨f,DX⟩:∃f,f=setMany d (j*a.size) u.cells.toList:=⟨_,rfl⟩;have ajH:f.toList=d.toList.take (j*a.size)++u.cells.toList++d.toList.drop (j*a.size+a.size):=by rw[DX,Qg _ _ _ (by simp[y,Mx];exact WD)];simp[y]
 have ajI:f.size=n*a.size:=by rw[DX,size_setMany];exact Mx
 have dL:=JA S bN Au l V;rw[<-ajG]at dL;have eI:=JA (i:=j) (q:=q) dL (by rw[List.getElem?_set];split;(rename_i e;subst e;rw[if_pos Ω]);exact bM) iN y Q;rw[<-ajH]at eI;have Es:(xs.set i q).set j p=ie xs i j:=by simp[ie,bN,bM]
 rw[Es]at eI;have hlen:(ie xs i j).length=n:=by simpa using dK
 have mI:=api (q:=0) (F:=f) bB ajI;rw[adL]at mI;obtain⟨lE,qc,_⟩:=G.setRowM (w':=putRow id w g 0 f) E rfl a8 (bl:=g) rfl (v':= .slice (some ⟨g,0,none⟩) n cap) rfl (xs':=ie xs i j) (us:=f.toList) (.inl ⟨hlen,rfl⟩) rfl rfl rfl
  (fun t N=>by simp[putRow,mapBlock,Array.getElem?_modify,Ne.symm N]) (by simp[putRow,mapBlock]) (by rw[hlen];exact mI) eI
 refine⟨.tuple #[],putRow id w g 0 f,?_,?_⟩
 ·rw[ad,run,pY,<-DX];rfl
 ·have A:∀k,aM ⟨s.b,cJ (.obj K) ⟨n,el,a.size,some (ie xs i j)⟩ s.e⟩ k↔aM s k:=fun k=>by
   unfold aM;simp only[jk];by_cases dk:aB.obj K=k
   ·subst dk;simp[E]
   ·simp[dk]
  refine⟨_,_,_,_,.tuple [],⟨s.b,cJ (.obj K) ⟨n,el,a.size,some (ie xs i j)⟩ s.e⟩,rfl,lE,by simp[aU,c7],XC.2 fun k lU=>(A k).2 (.inl lU),XC.2 fun k lU=>(A k).2 (.inr lU),fun k cs aw=>⟨aw,(A k).2 (.inl (by simp at aw;simp[aw])),jj (fun k h=>(A k).2 h) _ (B.kb k cs aw)⟩,fun k o ar=>⟨by simpa[hlen]using ar,?_,fun ys aK=>?_⟩,⟨B.obj.1,fun m=>?_⟩,by simp[az,aH],rfl,rfl⟩
  ·exact(.inr (by simp at ar;simp[ar]))
  ·simp only[jk]at ar;split at ar
   ·cases ar;simp only[dU]at aK;subst aK;have Ww:=B.ke _ _ E xs rfl;refine jj (fun k h=>(A k).2 h) _ ?_;rw[XK]at Ww⊢;exact fun z bC=>Ww z ((Yl xs i j).mem_iff.1 bC)
   ·exact jj (fun k h=>(A k).2 h) _ (B.ke k o ar ys aK)
  ·simp only[jk];simp[B.obj.2 m]
def VP{P:cI}(b:Bool)(cq:Nat)(l:∀args W,(callFunc cq args).run P W=((Ga b args).run P W).andThen fun v w'=>.ok (.value v) w')(e:gT)(a:TypeInfo)(d:P.info? e=some a)(c:∀w,(Go.isAgg e).run P w= .ok true w){s:cR}(h:ez s){K n el sz:Nat}(f:a.size=sz){xs:List af}(m:ae (.obj K) s.e=some ⟨n,el,sz,some xs⟩)
  (i j:Nat) (hi:i<n) (k:j<n):bG P cq [.int .i64 i,.int .i64 j,.row sz (.obj K) n,.cst (typeHandle P e)] s fun r g=>r= .tuple []/\g=⟨s.b,cJ (.obj K) ⟨n,el,sz,some (ie xs i j)⟩ s.e⟩:=VQ b cq l e a d (.inl c) h f m i j hi k
end
end Go.Pv
namespace Go.Proofs.YtahlgcidhnjlbaaGreat
section
open Go Go.RowKit Go.Lib Go.Sort Go.Pv
set_option maxRecDepth 100000 in
def aqX(t e:gT)(i e0:TypeInfo)(hi:au.info? t=some i)(aL:i.desc= .slice e)(El:au.packed t=false)(uJ:au.info? e=some e0)(ke:Nat)(vZ:∀w,(adf e).run au w= .ok ke w)
  (p:bd Addr) (n c:Nat) (aA:n<4611686018427387904) (f:Nat) (aG:au.funcs.findIdx? (·.name== "internal/reflectlite" ++ ".Swapper$" ++toString (swapperK n e0 ke))=some f) (Yf:Fn) (N6 sw:Array Value) (w:World) (R:World->Prop)
  (bN:Calls au 199 #[.agg #[.func Yf N6 sw,.func (.func f) #[] (sliceBound au e e0 ke p n c)],.int .i64 n] ((w.alloc (.cells #[.slice p n c] t)).alloc (.cells #[typeHandle au t,.pointer (some ⟨w.heap.size,0,none⟩),.int .u64 151] 179)) fun e w'=>e= .returned (.tuple #[])/\R w'):
  Calls au 140 #[.iface t (.slice p n c),.func Yf N6 sw] w fun e w'=>e= .returned (.tuple #[])/\R w':=by
 have aN:=run_valueOf_slice (P:=au) t e i hi aL p n c w;have ai:=fun w=>run_swapper_slice (P:=au) t e i e0 hi aL uJ ke vZ p n c f aG w;have av:=fun a w bS=>run_valueLen_slice (P:=au) t e i hi aL El a p n c w bS;unfold sliceBound at bN;generalize (if swapperK n e0 ke<=2 then(#[]:Array Value)else #[.slice p n c,typeHandle au e])=B at ai bN;have akc:au.globals.size=0:=bi
 simp only[typeHandle,akc]at aN av bN;have G8:∀args w,(callFunc 199 args).run au w= .ok (.enter 199 args) w:=enters_of Tryz.func199 bi rfl;go_enter Tryz.func140,Tryz.ntmps140;go_wp2;rw[run_callFunc_extern Tryz.func197 bi bi bi (e:=fun args=>atu (args.getD 0 (.tuple #[]))) bi,
  show Sem.run au ((fun args:Array Value=>atu (args.getD 0 (.tuple #[]))) #[.iface t (.slice p n c)]) w=_ from aN]
 simp only[Result.andThen];rw[Oper.upon_value];go_wp2;rw[run_callFunc_extern Tryz.func198 bi bi bi (e:=ayc "internal/reflectlite" (atv "Swapper")) bi,ai];simp only[Result.andThen];rw[Oper.upon_value];go_wp2;rw[run_callFunc_extern Tryz.func200 bi bi bi (e:=aye (atv "reflectlite.Value.Len" 0) ayd) bi,
  av _ _ Ψ]
 simp only[Result.andThen];rw[Oper.upon_value];go_wp2_with (go_at_fn 199;refine bN.mono ?_;rintro e w' ⟨rfl,bt⟩);go_end0;exact⟨rfl,bt⟩
def _root_.Go.Pv.Good.prMono{pr f:Nat->Prop}{w:World}{ν:bc}{b:List (aB×List af)}{e:List (aB×dW)}(h:Pv.Good pr w ν b e)(c:∀bl,pr bl->fB ν ⟨b,e⟩ bl->f bl):Pv.Good f w ν b e:=by
 refine⟨h.alt,fun k cs d=>?_,h.inj,fun g o bf=>?_,h.oinj,h.obx,h.one,h.otr⟩
 ·obtain⟨bl,us,el,f1,f2,f3⟩:=h.box k cs d;exact⟨bl,us,el,f1,c bl f2 (.inl ⟨k,by simp[d],f1⟩),f3⟩
 ·obtain⟨v,us,f1,f2,f3,f4⟩:=h.own g o bf;exact⟨v,us,f1,f2,fun bl a=>⟨c bl (f3 bl a).1 (.inr ⟨g,o.n,v,by simp[bf],f1,a⟩),(f3 bl a).2⟩,f4⟩
def VW(w:World)(a b:Obj):w.grownBy ((w.alloc a).alloc b) none:=by
 have J:w.heap.size<=(w.alloc a).heap.size:=Ψ
 have U:(w.alloc a).heap.size<=((w.alloc a).alloc b).heap.size:=Ψ
 exact⟨rfl,rfl,rfl,kD J U,fun k c _=>(Below.heap_alloc _ b k (Nat.lt_of_lt_of_le c J)).trans (Below.heap_alloc w a k c)⟩
def eA{α:Type}(e:α->af)(K B el sz:Nat)(l:List α):cR:=⟨[(.obj B,[.row sz (.obj K) l.length])],[(.obj K,⟨l.length,el,sz,some (l.map e)⟩)]⟩
section
variable {α:Type} {e:α->af} (he:∀S x,az S (e x)) {K B el sz:Nat}
include he
theorem al1(S:aB->Prop)(l:List α):aH S (l.map e):=by
 induction l with
 |nil=>simp[aH]
 |cons x r a=>simp only[gY,aH];exact⟨he S x,a⟩
theorem yI(l:List α):ez (eA e K B el sz l):=by unfold eA;refine ez.of ⟨by intro m;simp[ae],by intro m;simp[ae]⟩ (by simp[aH,az,aM,ae]) ?_;intro x b xs a;simp at b;subst b;simp at a;subst a;exact al1 he _ l
omit he in
theorem yJ(l a:List α):Same (eA e K B el sz l) (eA e K B el sz a):=by
 refine⟨fun k=>?_,fun k=>?_⟩
 ·simp only[eA,ae];split<;>rfl
 ·simp only[eA,ae];split<;>rfl
theorem aiF(t:gT)(i e0:TypeInfo)(hi:au.info? t=some i)(aL:i.desc= .slice el)(El:au.packed t=false)(uJ:au.info? el=some e0)(ke:Nat)(vZ:∀w,(adf el).run au w= .ok ke w)(uE:∀n,2<=n->swapperK n e0 ke=9)
  (g:Nat) (lt:α->α->Bool) (bO:rW lt) (l:List α) (av:l.length<=68719476736)
  (zo:∀bg:List α,bg.length=l.length->∀(i j:Nat) x y,bg[i]? =some x->bg[j]? =some y->bG au g [.int .i64 i,.int .i64 j,.ptr (.obj B) 0] (eA e K B el sz bg) fun r ak=>r= .bool (lt x y)/\ak=eA e K B el sz bg)
  (BG:∀bg:List α,bg.length=l.length->∀i j:Nat,i<l.length->j<l.length->bG au 230 [.int .i64 i,.int .i64 j,.row sz (.obj K) l.length,.cst (typeHandle au el)] (eA e K B el sz bg) fun r ak=>r= .tuple []/\ak=eA e K B el sz (ie bg i j)):
  bG au 140 [.iface t (.row sz (.obj K) l.length),.func g [.ptr (.obj B) 0]] (eA e K B el sz l) fun r ak=>r= .tuple []/\∃bg,ak=eA e K B el sz bg/\bg.Perm l/\bg.Pairwise fun x y=>lt y x=false:=by
 have zh:au.funcs.findIdx? (·.name== "internal/reflectlite" ++ ".Swapper$" ++toString 1)=some 222:=bi
 have te:au.funcs.findIdx? (·.name== "internal/reflectlite" ++ ".Swapper$" ++toString 2)=some 223:=bi
 have MP:au.funcs.findIdx? (·.name== "internal/reflectlite" ++ ".Swapper$" ++toString 9)=some 230:=bi
 have Nl:∃f ch,au.funcs.findIdx? (·.name== "internal/reflectlite" ++ ".Swapper$" ++toString (swapperK l.length e0 ke))=some f/\(ch=(if swapperK l.length e0 ke<=2 then []else [af.row sz (.obj K) l.length,.cst (typeHandle au el)]))/\
   bG au 199 [fC g f [.ptr (.obj B) 0] ch,.int .i64 l.length] (eA e K B el sz l) fun r ak=>r= .tuple []/\∃bg,ak=eA e K B el sz bg/\hj 0 l.length l bg/\fY lt 0 l.length bg:=by
  have eK:=fun bg=>yI (K:=K) (B:=B) (el:=el) (sz:=sz) he bg;rcases(by omega:l.length=0\/l.length=1\/2<=l.length)with bA|J|U
  ·refine⟨222,[],by rw[bA];exact zh,by rw[bA];rfl,Mq (lt:=lt) ⟨eK,fun fN eX _ _=>yJ fN eX,fun bg _=>by simp[aH,az,aM,eA,ae],fun bg _=>by simp[aH],by simp[b5,cf],rfl,av,fun bg h=>zo bg h,fun bg _ U i j hi=>Ω⟩ bO l rfl⟩
  ·refine⟨223,[],by rw[J];exact te,by rw[J];rfl,Mq (lt:=lt) ⟨eK,fun fN eX _ _=>yJ fN eX,fun bg _=>by simp[aH,az,aM,eA,ae],fun bg _=>by simp[aH],by simp[b5,cf],rfl,av,fun bg h=>zo bg h,fun bg _ U i j hi ah=>Ω⟩ bO l rfl⟩
  ·refine⟨230,_,by rw[uE _ U];exact MP,rfl,?_⟩;rw[uE _ U];simp only[show¬((9:Nat)<=2)from by decide,if_false];exact Mq (lt:=lt) ⟨eK,fun fN eX _ _=>yJ fN eX,fun bg _=>by simp[aH,az,aM,eA,ae],fun bg _=>by simp[aH,az,aM,eA,ae],by simp[b5,cf],by simp[b5,cf],av,fun bg h=>zo bg h,fun bg h _ i j hi ah=>BG bg h i j hi ah⟩ bO l rfl
 obtain⟨f,ch,aG,Nh,dy⟩:=Nl;intro w ν bm bf ad aI;have pV:=c9.start (yI he l).obj bf ad aI;have Nc:=aI;simp only[c7,aU]at aI;obtain⟨v0,vs1,BI,⟨u,rfl,⟨b,cap,rfl⟩,fo,n',eJ,ao,aC,bh⟩,v1,vs2,hv1,⟨sw,rfl,sf⟩,rfl⟩:=aI;have lr:bm= #[.iface t (.slice (some ⟨b,0,none⟩) l.length cap),.func (.func g) #[] sw]:=by apply Array.ext';rw[BI,hv1]
 subst lr;have qy:∃fn,au.funcs[(140:Nat)]? =some fn/\fn.body.isSome=true/\(fn.name== "runtime.NumGoroutine")=false:=⟨_,Tryz.func140,by kernel_rfl,by kernel_rfl⟩;refine .inl ⟨qy,?_⟩;obtain⟨dR,pY⟩:∃dR,dR=(w.alloc (.cells #[.slice (some ⟨b,0,none⟩) l.length cap] t)).alloc (.cells #[typeHandle au t,.pointer (some ⟨w.heap.size,0,none⟩),.int .u64 151] 179):=⟨_,rfl⟩;have kG:w.grownBy dR none:=by rw[pY];exact VW _ _ _
 have Nd:=pV.grown kG;have kH:mx w ν dR ν:=⟨fun b o bj=>⟨bj,GV kG (bf.alt b o bj)⟩,fun _ _ _ h=>h,fun _ n u _ h=>⟨n,u,h,.inl ⟨rfl,rfl⟩⟩,fun b o bj=>yl (kG.block b (bf.alt b o bj) Ψ),fun _ _ _ _ h=>h⟩;have tg:Pv.Good (fB ν (eA e K B el sz l)) dR ν (eA e K B el sz l).b (eA e K B el sz l).e:=Nd.good.prMono fun bl _ h=>h;have lp:=JD kH Nc;simp only[c7]at lp;obtain⟨a0,adW,uG,En,bq,adX,mf,akU,rfl⟩:=lp;simp at uG;obtain⟨rfl,rfl⟩:=uG;simp at mf;subst mf;have gK:aU dR ν (.row sz (.obj K) l.length) (.slice (some ⟨b,0,none⟩) l.length cap):=by simp only[aU]at En;obtain⟨u,hu,h⟩:=En;simp at hu;obtain⟨_,rfl⟩:=hu;simp only[aU];exact h
 have si:c7 dR ν ch (sliceBound au el e0 ke (some ⟨b,0,none⟩) l.length cap).toList:=by
  unfold sliceBound;rw[Nh];split
  ·simp[c7]
  ·simp only[c7];exact⟨_,_,rfl,gK,_,_,rfl,by simp[aU],rfl⟩
 have vR:c7 dR ν [fC g f [.ptr (.obj B) 0] ch,.int .i64 l.length] (#[.agg #[.func (.func g) #[] sw,.func (.func f) #[] (sliceBound au el e0 ke (some ⟨b,0,none⟩) l.length cap)],.int .i64 l.length]:Array Value).toList:=by simp only[c7,fC];refine⟨_,_,rfl,?_,_,_,rfl,by simp[aU],rfl⟩;simp only[aU,cW];exact⟨_,rfl,_,_,rfl,⟨⟨sw,rfl,JD kH sf⟩,rfl⟩,_,_,rfl,⟨⟨_,rfl,si⟩,rfl⟩,rfl⟩
 have MM:=dy dR ν _ tg ad vR;have G8:∀args w,(callFunc 199 args).run au w= .ok (.enter 199 args) w:=enters_of Tryz.func199 bi rfl;rcases MM with⟨_,aw⟩|⟨v,w',aw,_⟩
 ·have M0:=aqX t el i e0 hi aL El uJ ke vZ (some ⟨b,0,none⟩) l.length cap Ω f aG (.func g) #[] sw w
   (fun w'=> ∃ak bn,(∃bg,ak=eA e K B el sz bg/\hj 0 l.length l bg/\fY lt 0 l.length bg)/\Pv.Good (fun bl=>fB ν (eA e K B el sz l) bl\/dR.heap.size<=bl) w' bn ak.b ak.e/\pN bn ak/\hX ak/\pC ⟨dR,ν,fB ν (eA e K B el sz l),0,cK (eA e K B el sz l)⟩ w' bn) (by
    rw[<-pY];refine aw.mono ?_;rintro e w' ⟨v,r,ak,bn,rfl,⟨rfl,bM⟩,xH,aZ,bR,di,eb⟩;simp only[aU,c7]at xH;obtain⟨us,rfl,sk⟩:=xH;have:us= #[]:=by apply Array.ext';simpa using sk
    subst this;exact⟨rfl,ak,bn,bM,aZ,bR,di,eb⟩)
  refine M0.mono ?_;rintro e w' ⟨rfl,ak,bn,⟨bg,rfl,H2,BF⟩,aZ,bR,di,eb⟩;refine⟨.tuple #[],.tuple [],_,bn,rfl,⟨rfl,bg,rfl,H2.perm,?_⟩,by simp[aU,c7],aZ.prMono fun bl h _=>?_,bR,di,⟨eb.os.trans kG.os,eb.tape.trans kG.tape,eb.output.trans kG.output,kD kG.size eb.size,fun k ab hm=>?_,fun b o bj=>?_,fun b o bj=>?_,eb.obj,eb.obn,eb.row,eb.obr,eb.trd,fun k j b ag=>⟨(eb.trb k j b ag).1.imp id (fun h=>kD kG.size h),(eb.trb k j b ag).2⟩,eb.trn,fun b o bj=>(eb.sh b o bj).trans (kH.sh b o bj)⟩⟩
  ·have oD:=H2.length;rw[<-oD]at BF;exact BF.pairwise
  ·rcases h with h|h
   ·exact .inl h
   ·exact .inr (kD kG.size h)
  ·rw[eb.block k (Nat.lt_of_lt_of_le ab kG.size) hm];exact kG.block k ab Ψ
  ·obtain⟨a7,bK⟩:=eb.keep b o bj;exact⟨a7,bK.trans (kH.A b o bj).2⟩
  ·rcases eb.fresh b o bj with h|h|h
   ·exact .inl h
   ·exact .inr (.inl h)
   ·exact .inr (.inr (kD kG.size h))
 ·rw[G8]at aw;cases aw
end
end
end Go.Proofs.YtahlgcidhnjlbaaGreat
namespace Go.Proofs
section
open Go.Shelf
def Tryz.lays6_ren:Go.Shelf.Ren:=⟨fun|6=>182|10=>197|11=>198|12=>200|13=>213|14=>214|24=>236|25=>237|26=>231|27=>238|28=>239|29=>240|30=>241|31=>242|32=>243|33=>244|34=>252|35=>253|36=>254|37=>255|38=>256|39=>271|n=>n,fun|20=>20|26=>143|35=>179|0=>0|37=>181|3=>3|41=>192|44=>185|49=>206|51=>208|4=>4|54=>210|53=>209|58=>214|5=>5|9=>9|60=>222|64=>226|66=>235|67=>236|17=>17|32=>176|33=>177|82=>256|12=>12|75=>249|76=>250|77=>251|78=>252|79=>253|80=>254|n=>n,fun|n=>n⟩
def Tryz.lays6:Go.Proofs.LaysGg.n6 au Tryz.lays6_ren:={
 mixed:=bi
 f6:=Tryz.func182.trans (fy some bi)
 f10:=Tryz.func197.trans (fy some bi)
 f11:=Tryz.func198.trans (fy some bi)
 f12:=Tryz.func200.trans (fy some bi)
 f13:=Tryz.func213.trans (fy some bi)
 f14:=Tryz.func214.trans (fy some bi)
 f24:=Tryz.func236.trans (fy some bi)
 f25:=Tryz.func237.trans (fy some bi)
 f26:=Tryz.func231.trans (fy some bi)
 f27:=Tryz.func238.trans (fy some bi)
 f28:=Tryz.func239.trans (fy some bi)
 f29:=Tryz.func240.trans (fy some bi)
 f30:=Tryz.func241.trans (fy some bi)
 f31:=Tryz.func242.trans (fy some bi)
 f32:=Tryz.func243.trans (fy some bi)
 f33:=Tryz.func244.trans (fy some bi)
 f34:=Tryz.func252.trans (fy some bi)
 f35:=Tryz.func253.trans (fy some bi)
 f36:=Tryz.func254.trans (fy some bi)
 f37:=Tryz.func255.trans (fy some bi)
 f38:=Tryz.func256.trans (fy some bi)
 f39:=Tryz.func271.trans (fy some bi)
 t0:=Tryz.underlying0
 a0:=Tryz.isAgg0
 z0:=Tryz.sizeOf0
 v0:=Tryz.zeroValue0
 i0:=bi
 t3:=Tryz.underlying3
 a3:=Tryz.isAgg3
 z3:=Tryz.sizeOf3
 v3:=Tryz.zeroValue3
 i3:=bi
 t4:=Tryz.underlying4
 a4:=Tryz.isAgg4
 z4:=Tryz.sizeOf4
 v4:=Tryz.zeroValue4
 i4:=bi
 t5:=Tryz.underlying5
 a5:=Tryz.isAgg5
 z5:=Tryz.sizeOf5
 v5:=Tryz.zeroValue5
 i5:=bi
 t9:=Tryz.underlying9
 a9:=Tryz.isAgg9
 z9:=Tryz.sizeOf9
 v9:=Tryz.zeroValue9
 i9:=bi
 t12:=Tryz.underlying12
 a12:=Tryz.isAgg12
 z12:=Tryz.sizeOf12
 v12:=Tryz.zeroValue12
 i12:=bi
 t17:=Tryz.underlying17
 a17:=Tryz.isAgg17
 z17:=Tryz.sizeOf17
 v17:=Tryz.zeroValue17
 i17:=bi
 t20:=Tryz.underlying20
 a20:=Tryz.isAgg20
 z20:=Tryz.sizeOf20
 v20:=Tryz.zeroValue20
 i20:=bi
 t26:=Tryz.underlying143
 a26:=Tryz.isAgg143
 z26:=Tryz.sizeOf143
 v26:=Tryz.zeroValue143
 i26:=bi
 t32:=Tryz.underlying176
 a32:=Tryz.isAgg176
 z32:=Tryz.sizeOf176
 v32:=Tryz.zeroValue176
 i32:=bi
 t33:=Tryz.underlying177
 a33:=Tryz.isAgg177
 z33:=Tryz.sizeOf177
 v33:=Tryz.zeroValue177
 i33:=bi
 t35:=Tryz.underlying179
 a35:=Tryz.isAgg179
 z35:=Tryz.sizeOf179
 v35:=Tryz.zeroValue179
 i35:=bi
 t37:=Tryz.underlying181
 a37:=Tryz.isAgg181
 z37:=Tryz.sizeOf181
 v37:=Tryz.zeroValue181
 i37:=bi
 t41:=Tryz.underlying192
 a41:=Tryz.isAgg192
 z41:=Tryz.sizeOf192
 v41:=Tryz.zeroValue192
 i41:=bi
 t44:=Tryz.underlying185
 a44:=Tryz.isAgg185
 z44:=Tryz.sizeOf185
 v44:=Tryz.zeroValue185
 i44:=bi
 t49:=Tryz.underlying206
 a49:=Tryz.isAgg206
 z49:=Tryz.sizeOf206
 v49:=Tryz.zeroValue206
 i49:=bi
 t51:=Tryz.underlying208
 a51:=Tryz.isAgg208
 z51:=Tryz.sizeOf208
 v51:=Tryz.zeroValue208
 i51:=bi
 t53:=Tryz.underlying209
 a53:=Tryz.isAgg209
 z53:=Tryz.sizeOf209
 v53:=Tryz.zeroValue209
 i53:=bi
 t54:=Tryz.underlying210
 a54:=Tryz.isAgg210
 z54:=Tryz.sizeOf210
 v54:=Tryz.zeroValue210
 i54:=bi
 t58:=Tryz.underlying214
 a58:=Tryz.isAgg214
 z58:=Tryz.sizeOf214
 v58:=Tryz.zeroValue214
 i58:=bi
 t60:=Tryz.underlying222
 a60:=Tryz.isAgg222
 z60:=Tryz.sizeOf222
 v60:=Tryz.zeroValue222
 i60:=bi
 t64:=Tryz.underlying226
 a64:=Tryz.isAgg226
 z64:=Tryz.sizeOf226
 v64:=Tryz.zeroValue226
 i64:=bi
 t66:=Tryz.underlying235
 a66:=Tryz.isAgg235
 z66:=Tryz.sizeOf235
 v66:=Tryz.zeroValue235
 i66:=bi
 t67:=Tryz.underlying236
 a67:=Tryz.isAgg236
 z67:=Tryz.sizeOf236
 v67:=Tryz.zeroValue236
 i67:=bi
 t75:=Tryz.underlying249
 a75:=Tryz.isAgg249
 z75:=Tryz.sizeOf249
 v75:=Tryz.zeroValue249
 i75:=bi
 t76:=Tryz.underlying250
 a76:=Tryz.isAgg250
 z76:=Tryz.sizeOf250
 v76:=Tryz.zeroValue250
 i76:=bi
 t77:=Tryz.underlying251
 a77:=Tryz.isAgg251
 z77:=Tryz.sizeOf251
 v77:=Tryz.zeroValue251
 i77:=bi
 t78:=Tryz.underlying252
 a78:=Tryz.isAgg252
 z78:=Tryz.sizeOf252
 v78:=Tryz.zeroValue252
 i78:=bi
 t79:=Tryz.underlying253
 a79:=Tryz.isAgg253
 z79:=Tryz.sizeOf253
 v79:=Tryz.zeroValue253
 i79:=bi
 t80:=Tryz.underlying254
 a80:=Tryz.isAgg254
 z80:=Tryz.sizeOf254
 v80:=Tryz.zeroValue254
 i80:=bi
 t82:=Tryz.underlying256
 a82:=Tryz.isAgg256
 z82:=Tryz.sizeOf256
 v82:=Tryz.zeroValue256
 i82:=by kernel_rfl}
end
end Go.Proofs
namespace Go.Proofs.YtahlgcidhnjlbaaGreat
section
open Go Go.RowKit Go.Lib Go.Pv Go.Proofs
def ad8(n:Nat)(h:n<1099511627776):Lib.bitLen n<=1000:=by
 have:∀f x,bitLenAux f x<=f:=by
  intro f;induction f with
  |zero=>intro x;simp[bitLenAux]
  |succ f a=>
   intro x;rw[bitLenAux];split
   ·omega
   ·have:=a (x/2);omega
 have:=this 64 n;unfold Lib.bitLen;omega
def apn{α:Type}[Inhabited α]{lt:α->α->Bool}{l:List α}{a:Array α}(h:Sort.PermIn 0 l.length l.toArray a)(m:Sort.SortedIn lt 0 l.length a):a.toList.Perm l/\a.toList.Pairwise fun x y=>lt y x=false:=by
 obtain⟨f,_,z3⟩:=h;have b:a.size=l.length:=by simpa using f
 have k:a.extract 0 l.length=a:=by rw[<-b];simp
 have n:l.toArray.extract 0 l.length=l.toArray:=Ψ
 rw[k,n]at z3;refine⟨by simpa using z3,?_⟩;rw[q2];intro i j hi c e;have J:=m i j Ω e (by simpa[b]using c);have d:i<a.size:=by simpa using hi
 have g:j<a.size:=by simpa using c
 rw[getElem!_pos a i d,getElem!_pos a j g]at J;simpa using J
section
variable {α:Type} {e:α->af} (he:∀S x,az S (e x)) {K B el sz:Nat}
include he
theorem VA[Inhabited α](V1:K≠901/\K≠902)(V0:B≠901/\B≠902)(t:gT)(i e0:TypeInfo)(hi:au.info? t=some i)(aL:i.desc= .slice el)(El:au.packed t=false)(uJ:au.info? el=some e0)(ke:Nat)(vZ:∀w,(adf el).run au w= .ok ke w)(uE:∀n,2<=n->swapperK n e0 ke=9)
  (g:Nat) (lt:α->α->Bool) (bO:Sort.SWO lt) (l:List α) (av:l.length<=68719476736)
  (zo:∀bg:List α,bg.length=l.length->∀(i j:Nat) x y,bg[i]? =some x->bg[j]? =some y->bG au g [.int .i64 i,.int .i64 j,.ptr (.obj B) 0] (eA e K B el sz bg) fun r ak=>r= .bool (lt x y)/\ak=eA e K B el sz bg)
  (BG:∀bg:List α,bg.length=l.length->∀i j:Nat,i<l.length->j<l.length->bG au 230 [.int .i64 i,.int .i64 j,.row sz (.obj K) l.length,.cst (typeHandle au el)] (eA e K B el sz bg) fun r ak=>r= .tuple []/\ak=eA e K B el sz (ie bg i j)):
  bG au 182 [.iface t (.row sz (.obj K) l.length),.func g [.ptr (.obj B) 0]] (eA e K B el sz l) fun r ak=>r= .tuple []/\∃bg,ak=eA e K B el sz bg/\bg.Perm l/\bg.Pairwise fun x y=>lt y x=false:=by
 have zh:au.funcs.findIdx? (·.name== "internal/reflectlite" ++ ".Swapper$" ++toString 1)=some 222:=bi
 have te:au.funcs.findIdx? (·.name== "internal/reflectlite" ++ ".Swapper$" ++toString 2)=some 223:=bi
 have MP:au.funcs.findIdx? (·.name== "internal/reflectlite" ++ ".Swapper$" ++toString 9)=some 230:=bi
 have zt:tL (eA e K B el sz) 901:=fun l=>⟨by simp[eA,ae,V0.1],by simp[eA,ae,V1.1]⟩;have zu:tL (eA e K B el sz) 902:=fun l=>⟨by simp[eA,ae,V0.2],by simp[eA,ae,V1.2]⟩;have gf:=ad8 l.length Ω;have Nl:∃f ch,au.funcs.findIdx? (·.name== "internal/reflectlite" ++ ".Swapper$" ++toString (swapperK l.length e0 ke))=some f/\(ch=(if swapperK l.length e0 ke<=2 then []else [af.row sz (.obj K) l.length,.cst (typeHandle au el)]))/\
   bG au 214 [fC g f [.ptr (.obj B) 0] ch,.int .i64 0,.int .i64 l.length,.int .i64 (Lib.bitLen l.length)] (eA e K B el sz l) fun r ak=>r= .tuple []/\∃bg,ak=eA e K B el sz bg/\bg.Perm l/\bg.Pairwise fun x y=>lt y x=false:=by
  have eK:=fun bg=>yI (K:=K) (B:=B) (el:=el) (sz:=sz) he bg;have key:∀{cq:Nat} {ch:List af},fR (eA e K B el sz) l.length g cq [.ptr (.obj B) 0] ch lt->bG au 214 [fC g cq [.ptr (.obj B) 0] ch,.int .i64 0,.int .i64 l.length,.int .i64 (Lib.bitLen l.length)] (eA e K B el sz l) fun r ak=>r= .tuple []/\∃bg,ak=eA e K B el sz bg/\bg.Perm l/\bg.Pairwise fun x y=>lt y x=false:=by intro cq ch H;have:=ajb H zt zu bO l.length l.toArray Ψ 0 l.length (Lib.bitLen l.length) Ω Ω (dO _) Ω (.inl rfl);simp only[Int.ofNat_zero,Int.natCast_zero,Int.cast_ofNat_Int]at this;refine bG.mono this ?_;rintro r ak ⟨a8,cu,bB,bX,dq⟩;obtain⟨c2,dD⟩:=apn bX dq;exact⟨a8,cu.toList,bB,c2,dD⟩
  rcases(by omega:l.length=0\/l.length=1\/2<=l.length)with bA|J|U
  ·refine⟨222,[],by rw[bA];exact zh,by rw[bA];rfl,key ⟨eK,fun fN eX _ _=>yJ fN eX,fun bg _=>by simp[aH,az,aM,eA,ae],fun bg _=>by simp[aH],by simp[b5,cf],rfl,av,fun bg h=>zo bg h,fun bg _ U i j hi=>Ω⟩⟩
  ·refine⟨223,[],by rw[J];exact te,by rw[J];rfl,key ⟨eK,fun fN eX _ _=>yJ fN eX,fun bg _=>by simp[aH,az,aM,eA,ae],fun bg _=>by simp[aH],by simp[b5,cf],rfl,av,fun bg h=>zo bg h,fun bg _ U i j hi ah=>Ω⟩⟩
  ·refine⟨230,_,by rw[uE _ U];exact MP,rfl,?_⟩;rw[uE _ U];simp only[show¬((9:Nat)<=2)from by decide,if_false];exact key ⟨eK,fun fN eX _ _=>yJ fN eX,fun bg _=>by simp[aH,az,aM,eA,ae],fun bg _=>by simp[aH,az,aM,eA,ae],by simp[b5,cf],by simp[b5,cf],av,fun bg h=>zo bg h,fun bg h _ i j hi ah=>BG bg h i j hi ah⟩
 obtain⟨f,ch,aG,Nh,dy⟩:=Nl;intro w ν bm bf ad aI;have pV:=c9.start (yI he l).obj bf ad aI;have Nc:=aI;simp only[c7,aU]at aI;obtain⟨v0,vs1,BI,⟨u,rfl,⟨b,cap,rfl⟩,fo,n',eJ,ao,aC,bh⟩,v1,vs2,hv1,⟨sw,rfl,sf⟩,rfl⟩:=aI;have lr:bm= #[.iface t (.slice (some ⟨b,0,none⟩) l.length cap),.func (.func g) #[] sw]:=by apply Array.ext';rw[BI,hv1]
 subst lr;have qy:∃fn,au.funcs[(182:Nat)]? =some fn/\fn.body.isSome=true/\(fn.name== "runtime.NumGoroutine")=false:=⟨_,Tryz.func182,by kernel_rfl,by kernel_rfl⟩;refine .inl ⟨qy,?_⟩;obtain⟨dR,pY⟩:∃dR,dR=sliceWorld au Tryz.lays6_ren t (some ⟨b,0,none⟩) l.length cap w:=⟨_,rfl⟩;have kG:w.grownBy dR none:=by rw[pY];unfold sliceWorld;exact VW _ _ _
 have Nd:=pV.grown kG;have kH:mx w ν dR ν:=⟨fun b o bj=>⟨bj,GV kG (bf.alt b o bj)⟩,fun _ _ _ h=>h,fun _ n u _ h=>⟨n,u,h,.inl ⟨rfl,rfl⟩⟩,fun b o bj=>yl (kG.block b (bf.alt b o bj) Ψ),fun _ _ _ _ h=>h⟩;have tg:Pv.Good (fB ν (eA e K B el sz l)) dR ν (eA e K B el sz l).b (eA e K B el sz l).e:=Nd.good.prMono fun bl _ h=>h;have lp:=JD kH Nc;simp only[c7]at lp;obtain⟨a0,adW,uG,En,bq,adX,mf,akU,rfl⟩:=lp;simp at uG;obtain⟨rfl,rfl⟩:=uG;simp at mf;subst mf;have gK:aU dR ν (.row sz (.obj K) l.length) (.slice (some ⟨b,0,none⟩) l.length cap):=by simp only[aU]at En;obtain⟨u,hu,h⟩:=En;simp at hu;obtain⟨_,rfl⟩:=hu;simp only[aU];exact h
 have si:c7 dR ν ch (sliceBound au el e0 ke (some ⟨b,0,none⟩) l.length cap).toList:=by
  unfold sliceBound;rw[Nh];split
  ·simp[c7]
  ·simp only[c7];exact⟨_,_,rfl,gK,_,_,rfl,by simp[aU],rfl⟩
 have vR:c7 dR ν [fC g f [.ptr (.obj B) 0] ch,.int .i64 0,.int .i64 l.length,.int .i64 (Lib.bitLen l.length)] (#[.agg #[.func (.func g) #[] sw,.func (.func f) #[] (sliceBound au el e0 ke (some ⟨b,0,none⟩) l.length cap)],.int .i64 0,.int .i64 l.length,.int .i64 (Lib.bitLen l.length)]:Array Value).toList:=by simp only[c7,fC];refine⟨_,_,rfl,?_,_,_,rfl,by simp[aU],_,_,rfl,by simp[aU],_,_,rfl,by simp[aU],rfl⟩;simp only[aU,cW];exact⟨_,rfl,_,_,rfl,⟨⟨sw,rfl,JD kH sf⟩,rfl⟩,_,_,rfl,⟨⟨_,rfl,si⟩,rfl⟩,rfl⟩
 have MM:=dy dR ν _ tg ad vR;have G8:∀args w,(callFunc 214 args).run au w= .ok (.enter 214 args) w:=enters_of Tryz.func214 bi rfl;rcases MM with⟨_,aw⟩|⟨v,w',aw,_⟩
 ·have M0:=Any.sort_Slice_of_pdq Tryz.lays6 t el i e0 hi aL El uJ ke vZ (some ⟨b,0,none⟩) l.length cap Ω f aG (.func g) #[] sw w
   (fun w'=> ∃ak bn,(∃bg,ak=eA e K B el sz bg/\bg.Perm l/\bg.Pairwise fun x y=>lt y x=false)/\Pv.Good (fun bl=>fB ν (eA e K B el sz l) bl\/dR.heap.size<=bl) w' bn ak.b ak.e/\pN bn ak/\hX ak/\pC ⟨dR,ν,fB ν (eA e K B el sz l),0,cK (eA e K B el sz l)⟩ w' bn) (by
    rw[<-pY];refine aw.mono ?_;rintro e w' ⟨v,r,ak,bn,rfl,⟨rfl,bM⟩,xH,aZ,bR,di,eb⟩;simp only[aU,c7]at xH;obtain⟨us,rfl,sk⟩:=xH;have:us= #[]:=by apply Array.ext';simpa using sk
    subst this;exact⟨rfl,ak,bn,bM,aZ,bR,di,eb⟩)
  refine M0.mono ?_;rintro e w' ⟨rfl,ak,bn,⟨bg,rfl,H2,BF⟩,aZ,bR,di,eb⟩;refine⟨.tuple #[],.tuple [],_,bn,rfl,⟨rfl,bg,rfl,H2,BF⟩,by simp[aU,c7],aZ.prMono fun bl h _=>?_,bR,di,⟨eb.os.trans kG.os,eb.tape.trans kG.tape,eb.output.trans kG.output,kD kG.size eb.size,fun k ab hm=>?_,fun b o bj=>?_,fun b o bj=>?_,eb.obj,eb.obn,eb.row,eb.obr,eb.trd,fun k j b ag=>⟨(eb.trb k j b ag).1.imp id (fun h=>kD kG.size h),(eb.trb k j b ag).2⟩,eb.trn,fun b o bj=>(eb.sh b o bj).trans (kH.sh b o bj)⟩⟩
  ·rcases h with h|h
   ·exact .inl h
   ·exact .inr (kD kG.size h)
  ·rw[eb.block k (Nat.lt_of_lt_of_le ab kG.size) hm];exact kG.block k ab Ψ
  ·obtain⟨a7,bK⟩:=eb.keep b o bj;exact⟨a7,bK.trans (kH.A b o bj).2⟩
  ·rcases eb.fresh b o bj with h|h|h
   ·exact .inl h
   ·exact .inr (.inl h)
   ·exact .inr (.inr (kD kG.size h))
 ·rw[G8]at aw;cases aw
end
end
section
open Go Go.Pv Go.Lib
abbrev yH(l:List bo):cR:=eA bo.e 814 815 100 2 l
def YU:∀(S:aB->Prop) (x:bo),az S x.e:=fun S x=>by simp
def Kx(l:List bo):ez (yH l):=yI YU l
def amo:Sort.SWO (iL gd):=by
 refine⟨fun x=>?_,fun x y z J U=>?_,fun x y z J U=>?_⟩
 ·simp only[iL,iO];have:=mP.refl x;omega
 ·simp only[iL,gy]at*;exact mP.ltr J Ω
 ·simp only[iL,iO]at*;have b:=mP.neg x y;have c:=mP.neg y z;have a:=mP.neg x z;have:=mP.tr z y x Ω Ω;omega
def aiA(l:List bo)(i j:Nat)(x y:bo)(k:l.length<=68719476736)(hi:l[i]? =some x)(g:l[j]? =some y):bG au 185 [aj i,aj j,.ptr (.obj 815) 0] (yH l) fun r f=>r= .bool (iL gd x y)/\f=yH l:=by have a:=Kx l;obtain⟨c,d⟩:=fH.1 hi;obtain⟨e,b⟩:=fH.1 g;unfold yH eA at a⊢;refine bG.mk mixed a6 Tryz.func185 anj Ψ a.obj fun m h=>?_;unfold RZ;simp[c,e,d,b];(repeat' first|refine al ?_|refine aO (CW _ _) ?_|refine aP (CW _ _) ?_|simp[c,e,d,b]);refine c5.at _ (.inl rfl) a (Same.refl _) aX aX ?_;simp[dc,ba,be,a1]
noncomputable def Tryz.maT:TypeInfo:=(au.info? 49).get bi
noncomputable def Tryz.maE:TypeInfo:=(au.info? 100).get bi
def Tryz.maK(n:Nat)(U:2<=n):Lib.swapperK n Tryz.maE 25=9:=by
 have a:Tryz.maE.hasPointers=true:=bi
 have b:Tryz.maE.bytes=24:=bi
 have c:(n==0)=false:=by simp;omega
 have d:(n==1)=false:=by simp;omega
 simp[Lib.swapperK,a,b,c,d]
def Yk{α β:Type}(f:α->β)(l:List α)(i j:Nat):(ie l i j).map f=ie (l.map f) i j:=by
 unfold ie;simp only[List.getElem?_map];cases l[i]? with
 |none=>simp
 |some x=>
  cases l[j]? with
  |none=>simp
  |some y=>simp[List.map_set]
def ajo(l:List bo)(d:l.length<=68719476736):bG au 182 [.iface 49 (.row 2 (.obj 814) l.length),.func 185 [.ptr (.obj 815) 0]] (yH l) fun r b=>r= .tuple []/\b=yH (p8 gd l):=by
 refine(VA YU (K:=814) (B:=815) (sz:=2) (by decide) (by decide) 49 Tryz.maT Tryz.maE bi bi bi bi 25 (fun _=>by kernel_rfl) Tryz.maK 185 (iL gd) amo l d (fun a h i j x y hi c=>aiA a i j x y Ω hi c) (fun a h i j hi c=>?_)).mono ?_
 ·have:=VP (P:=au) false 230 (fun args W=>run_callFunc_extern Tryz.func230 bi bi bi (e:=Ga false) bi args W)
   100 Tryz.maE bi (fun _=>by kernel_rfl) (Kx a) (K:=814) (n:=l.length) (el:=100) (sz:=2) bi (xs:=a.map bo.e) (by simp[eA,ae,h]) i j hi c
  refine this.mono ?_;rintro r b ⟨rfl,rfl⟩;refine⟨rfl,?_⟩;simp[eA,cJ,Yk,h]
 ·rintro r b ⟨rfl,a,rfl,J,U⟩;exact⟨rfl,by rw[abK mP J U]⟩
def pe(l:List bo):List af:= .hdm l.length (List.range l.length)::l.flatMap fun m=>[m.e,.bool true]
def l8(m:bo)(l:List bo):List bo:=if m∈l then l else l++[m]
def alW(a b:bo):uS (.a [false,true]) a.e b.e=some (decide (a=b)):=by simp only[bo.e,uS,kR,if_true,pB];congr 1;rw[qZ];cases a;cases b;simp
def alX(a:bo):xT (.a [false,true]) a.e=true:=by simp[bo.e,xT,kR,-KL]
def YY(m:bo):∀l:List bo,wz (.a [false,true]) m.e (.bool true) (l.flatMap fun m=>[m.e,.bool true])=some (if m∈l then some (l.flatMap fun m=>[m.e,.bool true])else none)
 |[]=>rfl
 |a::l=>by
  simp only[List.flatMap_cons,b7,ca,wz,alW];by_cases h:m=a
  ·subst h;simp
  ·have b:decide (m=a)=false:=by simp[h]
   rw[b];simp only[YY m l];by_cases hm:m∈l
   ·simp[hm]
   ·simp[hm,h]
@[simp]def awF(m:bo)(l:List bo):qN (.a [false,true]) m.e (.bool true) (pe l)=some (pe (l8 m l)):=by
 simp only[pe,qN,alX,Bool.true_eq_false,reduceCtorEq,if_false,YY,l8];by_cases h:m∈l
 ·simp[h]
 ·simp[h,List.range_succ]
end
section
open Go Go.Pv
@[simp]def BV(S:aB->Prop)(l:List bo):aH S (pe l)=True:=by
 refine h2 ?_;unfold pe;have:∀l:List bo,aH S (l.flatMap fun m=>[m.e,af.bool true]):=fun l=>by
  induction l with
  |nil=>simp[aH]
  |cons x r a=>simp only[List.flatMap_cons,b7,ca,aH,al2,az,true_and];exact a
 simp only[aH,az,true_and];exact this l
@[simp]def awo:[af.hdm 0 []]=pe []:=rfl
def pF(tag:List cS)(l:List bo):cR:=⟨[(.obj 811,[.str tag]),(.obj 812,pe l),(.obj 813,[.gmap (.obj 812)])],[]⟩
def Gk(tag:List cS)(l:List bo):ez (pF tag l):=by unfold pF;refine ez.of ⟨by intro m;simp[ae],by intro m;simp[ae]⟩ (by simp[aH,az,aM,ae]) Ψ
def Ky(tag:List cS)(l a:List bo):Same (pF tag l) (pF tag a):=Same.keys (by simp[pF]) (by simp[pF])
def aiz(tag:List cS)(v:Int)(l:List bo):bG au 184 [aj v,.ptr (.obj 813) 0,.ptr (.obj 811) 0] (pF tag l) fun r c=>r= .tuple []/\c=pF tag (l8 ⟨v,tag⟩ l):=by have b:=Gk tag l;have a:=Gk tag (l8 ⟨v,tag⟩ l);have e7:=Ky tag l (l8 ⟨v,tag⟩ l);unfold pF at b a e7⊢;refine bG.mk mixed a6 Tryz.func184 ani Ψ b.obj fun e d=>?_;unfold RY;simp;refine c5.at _ (.inr rfl) a e7 aX aX ?_;simp[dc,ba,be,a1]
end
section
open Go Go.Pv Go.Lib
abbrev yG(l:List bH):cR:=eA bH.e 803 804 98 2 l
def XA:∀(S:aB->Prop) (x:bH),az S x.e:=fun S x=>by simp
def Kw(l:List bH):ez (yG l):=yI XA l
def xX(x y:bH):Bool:=decide (x.v<y.v)
def amn:Sort.SWO xX:=⟨fun x=>by simp[xX],fun x y z J U=>by simp[xX]at*;omega,fun x y z J U=>by simp[xX]at*;omega⟩
def aiB(l:List bH)(i j:Nat)(x y:bH)(k:l.length<=68719476736)(hi:l[i]? =some x)(g:l[j]? =some y):bG au 183 [aj i,aj j,.ptr (.obj 804) 0] (yG l) fun r f=>r= .bool (xX x y)/\f=yG l:=by have a:=Kw l;obtain⟨c,d⟩:=fH.1 hi;obtain⟨e,b⟩:=fH.1 g;unfold yG eA at a⊢;refine bG.mk mixed a6 Tryz.func183 ank Ψ a.obj fun m h=>?_;unfold R0;simp[c,e,d,b];(repeat' first|refine al ?_|simp);refine c5.at _ (.inl rfl) a (Same.refl _) aX aX ?_;simp[dc,ba,be,a1,xX]
noncomputable def Tryz.vkT:TypeInfo:=(au.info? 48).get bi
noncomputable def Tryz.vkE:TypeInfo:=(au.info? 98).get bi
def Tryz.vkK(n:Nat)(U:2<=n):Lib.swapperK n Tryz.vkE 25=9:=by
 have a:Tryz.vkE.hasPointers=false:=bi
 have b:Tryz.vkE.bytes=16:=bi
 have c:(n==0)=false:=by simp;omega
 have d:(n==1)=false:=by simp;omega
 simp[Lib.swapperK,a,b,c,d]
def amm{α β:Type}(f:α->β)(l:List α)(i j:Nat):(ie l i j).map f=ie (l.map f) i j:=by
 unfold ie;simp only[List.getElem?_map];cases l[i]? with
 |none=>simp
 |some x=>
  cases l[j]? with
  |none=>simp
  |some y=>simp[List.map_set]
def ajn(l:List bH)(d:l.length<=68719476736):bG au 182 [.iface 48 (.row 2 (.obj 803) l.length),.func 183 [.ptr (.obj 804) 0]] (yG l) fun r c=>r= .tuple []/\∃a,c=yG a/\a.Perm l/\a.Pairwise fun x y=>xX y x=false:=by
 refine(VA XA (K:=803) (B:=804) (sz:=2) (by decide) (by decide) 48 Tryz.vkT Tryz.vkE bi bi bi bi 25 (fun _=>by kernel_rfl) Tryz.vkK 183 xX amn l d (fun a h i j x y hi b=>aiB a i j x y Ω hi b) (fun a h i j hi b=>?_));have:=VP (P:=au) false 230 (fun args W=>run_callFunc_extern Tryz.func230 bi bi bi (e:=Ga false) bi args W)
  98 Tryz.vkE bi (fun _=>by kernel_rfl) (Kw a) (K:=803) (n:=l.length) (el:=98) (sz:=2) bi (xs:=a.map bH.e) (by simp[eA,ae,h]) i j hi b
 refine this.mono ?_;rintro r c ⟨rfl,rfl⟩;refine⟨rfl,?_⟩;simp[eA,cJ,amm,h]
end
end Go.Proofs.YtahlgcidhnjlbaaGreat
namespace Go.Pv
section
open Go Go.RowKit
mutual
def tn:af->List (aB×Nat)
 | .slice _ tag _=>match tag with| .tr k i=>[(k,i)]|_=>[]
 | .agg cs=>tnL cs
 |_=>[]
def tnL:List af->List (aB×Nat)
 |[]=>[]
 |x::xs=>tn x++tnL xs
end
mutual
def fq:af->Prop
 | .int _ _=>True
 | .bool _=>True
 | .str _=>True
 | .slice _ tag xs=>match tag with| .tr k _=>k≠ei|_=>xs=[]
 | .agg cs=>gb cs
 |_=>eu
def gb:List af->Prop
 |[]=>True
 |x::xs=>fq x/\gb xs
end
def ly(ν:bc)(l:List (aB×Nat))(b:Nat):Prop:= ∃k i,(k,i)∈l/\ν.tr k i b
def Ce{ν:bc}{l a:List (aB×Nat)}(h:∀x∈l,x∈a)(b:Nat)(c:ly ν l b):ly ν a b:=by obtain⟨k,i,J,U⟩:=c;exact⟨k,i,h _ J,U⟩
def OL{ν:bc}(hM:∀k j bs dh b,ν.tr k j b->ν.tr bs dh b->k=bs/\j=dh){l a:List (aB×Nat)}(h:(l++a).Nodup)(b:Nat)(J:ly ν l b):¬ly ν a b:=by rintro⟨bs,c,d,e⟩;obtain⟨k,i,J,U⟩:=J;obtain⟨rfl,rfl⟩:=hM k i bs c b U e;rw[rS]at h;exact h.2.2 _ J _ d rfl
mutual
def OV{w:World}{ν:bc}(hM:∀k j bs dh b,ν.tr k j b->ν.tr bs dh b->k=bs/\j=dh):∀(p:af) (v:Value),aU w ν p v->fq p->(tn p).Nodup->cY true w ν.A (ly ν (tn p)) (b5 p) v
 | .int k n,v,h,_,_=>by simpa only[aU,b5,cY]using h
 | .bool b,v,h,_,_=>by simpa only[aU,b5,cY]using h
 | .str s,v,h,_,_=>by simpa only[aU,b5,cY]using h
 | .slice sz tag xs,v,h,ar,_=>by
  simp only[aU]at h;obtain⟨⟨a,cap,J,U,f,m⟩,_,_,e,_⟩:=h;by_cases c:∃k i,tag= .tr k i
  ·obtain⟨k,i,rfl⟩:=c;refine Hr _ _ v (vQ (fun _ _ h=>⟨h,rfl⟩) (fun _ _ _=>rfl) _ _ _ v (fun b g=>?_) (e k i rfl));exact⟨k,i,by simp[tn],g⟩
  ·have l:xs=[]:=by
    simp only[fq]at ar;split at ar
    ·exact absurd ⟨_,_,rfl⟩ c
    ·exact ar
   subst l;simp only[b5,cf,cY];exact⟨a,cap,J,U,f,.inl trivial⟩
 | .agg cs,v,h,ar,d=>by simp only[aU,fq,tn,b5,cY]at h ar d⊢;obtain⟨us,J,U⟩:=h;exact⟨us,J,Zd hM cs _ U ar d⟩
 | .junk,_,_,ar,_=>by simp[fq]at ar
 | .ptr _ _,_,_,ar,_=>by simp[fq]at ar
 | .eptr _,_,_,ar,_=>by simp[fq]at ar
 | .iface _ _,_,_,ar,_=>by simp[fq]at ar
 | .nilp,_,_,ar,_=>by simp[fq]at ar
 | .tuple _,_,_,ar,_=>by simp[fq]at ar
 | .func _ _,_,_,ar,_=>by simp[fq]at ar
 | .gmap _,_,_,ar,_=>by simp[fq]at ar
 | .row _ _ _,_,_,ar,_=>by simp[fq]at ar
 | .rptr _ _ _ _ _,_,_,ar,_=>by simp[fq]at ar
 | .hdm _ _,_,_,ar,_=>by simp[fq]at ar
 | .hdi _ _ _,_,_,ar,_=>by simp[fq]at ar
 | .cst _,_,_,ar,_=>by simp[fq]at ar
def Zd{w:World}{ν:bc}(hM:∀k j bs dh b,ν.tr k j b->ν.tr bs dh b->k=bs/\j=dh):∀(cs:List af) (us:List Value),cW w ν cs us->gb cs->(tnL cs).Nodup->kE true w ν.A (ly ν (tnL cs)) (cf cs) us
 |[],us,h,_,_=>by simpa only[cW,cf,kE]using h
 |c::cs,us,h,ar,d=>by simp only[cW,gb,tnL,cf,kE]at h ar d⊢;obtain⟨u,f,J,⟨U,g⟩,l⟩:=h;have e:=rS.1 d;exact⟨u,f,ly ν (tn c),ly ν (tnL cs),J,⟨Ce (fun x a=>List.mem_append_left _ a),Ce (fun x a=>List.mem_append_right _ a),fun _ b i=>OL hM d b i⟩,⟨OV hM c u U ar.1 e.1,g⟩,Zd hM cs f l ar.2 e.2.1⟩
end
def OW{w:World}{ν:bc}(hM:∀k j bs dh b,ν.tr k j b->ν.tr bs dh b->k=bs/\j=dh){sz:Nat}:∀(cs:List af) (us:List Value),dw w ν sz cs us->gb cs->(tnL cs).Nodup->jX true w ν.A (ly ν (tnL cs)) sz (cf cs) us
 |[],us,h,_,_=>by simpa only[dw,cf,jX]using h
 |c::cs,us,h,ar,d=>by simp only[dw,gb,tnL,cf,jX]at h ar d⊢;obtain⟨u,f,J,⟨U,g⟩,l⟩:=h;have e:=rS.1 d;exact⟨u,f,ly ν (tn c),ly ν (tnL cs),J,⟨Ce (fun x a=>List.mem_append_left _ a),Ce (fun x a=>List.mem_append_right _ a),fun _ b i=>OL hM d b i⟩,⟨OV hM c u U ar.1 e.1,g⟩,OW hM cs f l ar.2 e.2.1⟩
mutual
def Hq{t:Bool}{w:World}{A:Nat->Nat->Prop}{ν:bc}(c:∀b o,A b o->ν.A b o):∀(p:af) (F:Nat->Prop) (v:Value),cY t w A F p v->aU w ν (b5 p) v
 | .int k n,_,_,h=>by simpa only[aU,b5,cY]using h
 | .bool b,_,_,h=>by simpa only[aU,b5,cY]using h
 | .str s,_,_,h=>by simpa only[aU,b5,cY]using h
 | .slice sz tag xs,F,v,h=>by
  simp only[cY,b5,aU]at h⊢;obtain⟨a,cap,J,U,i,l⟩:=h;refine⟨⟨a,cap,by rw[nF];exact J,by rw[nF];exact U,by rw[nF];exact i,?_⟩,fun e=>(by cases e),fun g e=>(by cases e),fun _ _ e=>(by cases e),fun _ e=>(by cases e)⟩;rcases l with rfl|⟨b,off,us,G,j,_,_,f,_,d⟩
  ·exact .inl rfl
  ·exact .inr ⟨b,off,us,j,BX (fun b o h=>⟨c b o h,rfl⟩) _ _ f,Vt c xs G us d⟩
 | .agg cs,F,v,h=>by simp only[cY,b5,aU]at h⊢;obtain⟨us,J,U⟩:=h;exact⟨us,J,Vv c cs F _ U⟩
 | .junk,_,_,h=>by simp[cY]at h
 | .ptr _ _,_,_,h=>by simp[cY]at h
 | .eptr _,_,_,h=>by simp[cY]at h
 | .iface _ _,_,_,h=>by simp[cY]at h
 | .nilp,_,_,h=>by simp[cY]at h
 | .tuple _,_,_,h=>by simp[cY]at h
 | .func _ _,_,_,h=>by simp[cY]at h
 | .gmap _,_,_,h=>by simp[cY]at h
 | .row _ _ _,_,_,h=>by simp[cY]at h
 | .rptr _ _ _ _ _,_,_,h=>by simp[cY]at h
 | .hdm _ _,_,_,h=>by simp[cY]at h
 | .hdi _ _ _,_,_,h=>by simp[cY]at h
 | .cst _,_,_,h=>by simp[cY]at h
def Vv{t:Bool}{w:World}{A:Nat->Nat->Prop}{ν:bc}(a:∀b o,A b o->ν.A b o):∀(cs:List af) (F:Nat->Prop) (us:List Value),kE t w A F cs us->cW w ν (cf cs) us
 |[],_,_,h=>by simpa only[kE,cf,cW]using h
 |c::cs,F,us,h=>by simp only[kE,cf,cW]at h⊢;obtain⟨u,d,f,e,J,_,⟨j,i⟩,g⟩:=h;exact⟨u,d,J,⟨Hq a c f u j,i⟩,Vv a cs e d g⟩
def Vt{t:Bool}{w:World}{A:Nat->Nat->Prop}{ν:bc}(a:∀b o,A b o->ν.A b o){sz:Nat}:∀(cs:List af) (F:Nat->Prop) (us:List Value),jX t w A F sz cs us->dw w ν sz (cf cs) us
 |[],_,_,h=>by simpa only[jX,cf,dw]using h
 |c::cs,F,us,h=>by simp only[jX,cf,dw]at h⊢;obtain⟨u,d,f,e,J,_,⟨j,i⟩,g⟩:=h;exact⟨u,d,J,⟨Hq a c f u j,i⟩,Vt a cs e d g⟩
end
mutual
def Qv:∀p:af,b5 (b5 p)=b5 p
 | .slice _ _ xs=>by simp[b5,vf xs]
 | .agg cs=>by simp[b5,vf cs]
 | .tuple bm=>by simp[b5,vf bm]
 | .eptr x=>by simp[b5,Qv x]
 | .iface t x=>by simp[b5,Qv x]
 | .func f dH=>by simp[b5,vf dH]
 | .junk=>rfl
 | .int _ _=>rfl
 | .bool _=>rfl
 | .str _=>rfl
 | .ptr _ _=>rfl
 | .nilp=>rfl
 | .gmap _=>rfl
 | .row _ _ _=>rfl
 | .rptr _ _ _ _ _=>rfl
 | .hdm _ _=>rfl
 | .hdi _ _ _=>rfl
 | .cst _=>rfl
def vf:∀xs:List af,cf (cf xs)=cf xs
 |[]=>rfl
 |x::xs=>by simp[cf,Qv x,vf xs]
end
mutual
def ef:af->List aB
 | .slice _ tag _=>match tag with| .own k=>[k]|_=>[]
 | .row _ k _=>[k]
 | .agg cs=>gH cs
 | .tuple cs=>gH cs
 |_=>[]
def gH:List af->List aB
 |[]=>[]
 |x::xs=>ef x++gH xs
end
def wL(e:List (aB×dW))(k:aB):List af:=((ae k e).bind (·.xs)).getD []
mutual
def eC(e:List (aB×dW)):af->List (aB×Nat)
 | .slice _ tag xs=>match tag with| .tr k i=>[(k,i)]| .own _=>tnL xs|_=>[]
 | .row _ k _=>tnL (wL e k)
 | .agg cs=>gR e cs
 | .tuple cs=>gR e cs
 |_=>[]
def gR(e:List (aB×dW)):List af->List (aB×Nat)
 |[]=>[]
 |x::xs=>eC e x++gR e xs
end
mutual
def e9(e:List (aB×dW)):af->Prop
 | .int _ _=>True
 | .bool _=>True
 | .str _=>True
 | .slice sz tag xs=>match tag with| .tr k _=>k≠ei| .own k=>True/\(∃el,ae k e=some ⟨xs.length,el,sz,none⟩)/\gb xs/\0<sz|_=>xs=[]
 | .row sz k n=>True/\(∃xs el,ae k e=some ⟨n,el,sz,some xs⟩/\gb xs)/\0<sz
 | .agg cs=>hn e cs
 | .tuple cs=>hn e cs
 |_=>eu
def hn(e:List (aB×dW)):List af->Prop
 |[]=>True
 |x::xs=>e9 e x/\hn e xs
end
mutual
def hC:af->Nat
 | .slice _ _ _=>1
 | .row _ _ _=>1
 | .agg cs=>iH cs
 | .tuple cs=>iH cs
 |_=>0
def iH:List af->Nat
 |[]=>0
 |x::xs=>hC x+iH xs
end
mutual
def fold(κ:Nat)(e:List (aB×dW)):Nat->af->af
 |j,.slice sz _ xs=>.slice sz (.tr (.loc κ) j) (cf xs)
 |j,.row sz k _=>.slice sz (.tr (.loc κ) j) (cf (wL e k))
 |j,.agg cs=>.agg (hE κ e j cs)
 |j,.tuple cs=>.tuple (hE κ e j cs)
 |_,p=>p
def hE(κ:Nat)(e:List (aB×dW)):Nat->List af->List af
 |_,[]=>[]
 |j,x::xs=>fold κ e j x::hE κ e (j+hC x) xs
end
def oa(ν:bc)(k:aB)(b:Nat):Prop:= ∃n v,ν.ow k=some (n,v)/\v.ownBlock=some b
mutual
def fO(ν:bc)(R:Nat->Prop)(e:List (aB×dW)):af->List (Nat->Prop)
 | .slice _ tag xs=>match tag with| .tr k i=>[fun b=>ν.tr k i b/\¬R b]| .own k=>[fun b=>oa ν k b\/(ly ν (tnL xs) b/\¬R b)]|_=>[fun _=>eu]
 | .row _ k _=>[fun b=>oa ν k b\/(ly ν (tnL (wL e k)) b/\¬R b)]
 | .agg cs=>po ν R e cs
 | .tuple cs=>po ν R e cs
 |_=>[]
def po(ν:bc)(R:Nat->Prop)(e:List (aB×dW)):List af->List (Nat->Prop)
 |[]=>[]
 |x::xs=>fO ν R e x++po ν R e xs
end
mutual
def Al(ν:bc)(R:Nat->Prop)(e:List (aB×dW)):∀p,(fO ν R e p).length=hC p
 | .slice _ tag _=>by cases tag<;>simp[fO,hC]
 | .row _ k _=>by simp[fO,hC]
 | .agg cs=>by simp[fO,hC,Qo ν R e cs]
 | .tuple cs=>by simp[fO,hC,Qo ν R e cs]
 | .int _ _=>rfl
 | .bool _=>rfl
 | .str _=>rfl
 | .junk=>rfl
 | .ptr _ _=>rfl
 | .eptr _=>rfl
 | .iface _ _=>rfl
 | .nilp=>rfl
 | .func _ _=>rfl
 | .gmap _=>rfl
 | .rptr _ _ _ _ _=>rfl
 | .hdm _ _=>rfl
 | .hdi _ _ _=>rfl
 | .cst _=>rfl
def Qo(ν:bc)(R:Nat->Prop)(e:List (aB×dW)):∀p,(po ν R e p).length=iH p
 |[]=>rfl
 |x::xs=>by simp[po,iH,Al ν R e x,Qo ν R e xs]
end
def Hm(ν:bc)(R:Nat->Prop)(ns:List (aB×Nat))(rw:List aB)(b:Nat):Prop:=(∃k∈rw,oa ν k b)\/(ly ν ns b/\¬R b)
mutual
def FQ{ν:bc}{R:Nat->Prop}{e:List (aB×dW)}:∀(p:af) (i:Nat) (S:Nat->Prop),(fO ν R e p)[i]? =some S->∀b,S b->Hm ν R (eC e p) (ef p) b
 | .slice _ tag _,i,S,h,b,a=>by
  cases tag<;>(simp only[fO]at h;cases i<;>simp at h;subst h);all_goals first|exact a.elim|skip
  ·rcases a with a|a
   ·exact .inl ⟨_,by simp[ef],a⟩
   ·exact .inr (by simpa only[eC]using a)
  ·exact .inr ⟨⟨_,_,by simp[eC],a.1⟩,a.2⟩
 | .row _ k _,i,S,h,b,a=>by
  simp only[fO]at h;cases i<;>simp at h;subst h;rcases a with a|a
  ·exact .inl ⟨k,by simp[ef],a⟩
  ·exact .inr (by simpa only[eC]using a)
 | .agg cs,i,S,h,b,a=>by simp only[fO,eC,ef]at h⊢;exact FP cs i S h b a
 | .tuple cs,i,S,h,b,a=>by simp only[fO,eC,ef]at h⊢;exact FP cs i S h b a
 | .int _ _,_,_,h,_,_=>by simp[fO]at h
 | .bool _,_,_,h,_,_=>by simp[fO]at h
 | .str _,_,_,h,_,_=>by simp[fO]at h
 | .junk,_,_,h,_,_=>by simp[fO]at h
 | .ptr _ _,_,_,h,_,_=>by simp[fO]at h
 | .eptr _,_,_,h,_,_=>by simp[fO]at h
 | .iface _ _,_,_,h,_,_=>by simp[fO]at h
 | .nilp,_,_,h,_,_=>by simp[fO]at h
 | .func _ _,_,_,h,_,_=>by simp[fO]at h
 | .gmap _,_,_,h,_,_=>by simp[fO]at h
 | .rptr _ _ _ _ _,_,_,h,_,_=>by simp[fO]at h
 | .hdm _ _,_,_,h,_,_=>by simp[fO]at h
 | .hdi _ _ _,_,_,h,_,_=>by simp[fO]at h
 | .cst _,_,_,h,_,_=>by simp[fO]at h
def FP{ν:bc}{R:Nat->Prop}{e:List (aB×dW)}:∀(p:List af) (i:Nat) (S:Nat->Prop),(po ν R e p)[i]? =some S->∀b,S b->Hm ν R (gR e p) (gH p) b
 |[],i,S,h,b,a=>by simp[po]at h
 |x::xs,i,S,h,b,a=>by
  simp only[po]at h;simp only[gR,gH];by_cases hi:i<(fO ν R e x).length
  ·rw[rR hi]at h;rcases FQ x i S h b a with⟨k,J,U⟩|⟨J,U⟩
   ·exact .inl ⟨k,List.mem_append_left _ J,U⟩
   ·exact .inr ⟨Ce (fun _ h=>List.mem_append_left _ h) b J,U⟩
  ·rw[vo Ω]at h;rcases FP xs _ S h b a with⟨k,J,U⟩|⟨J,U⟩
   ·exact .inl ⟨k,List.mem_append_right _ J,U⟩
   ·exact .inr ⟨Ce (fun _ h=>List.mem_append_right _ h) b J,U⟩
end
structure C5 (ν:bc) (R:Nat->Prop) (rw:List aB):Prop where
 trd:∀k j bs dh b,ν.tr k j b->ν.tr bs dh b->k=bs/\j=dh
 inj:∀k bs b,k∈rw->bs∈rw->oa ν k b->oa ν bs b->k=bs
 R:∀k b,k∈rw->oa ν k b->R b
def Vr{ν:bc}{R:Nat->Prop}{rw:List aB}(he:C5 ν R rw){h i:List (aB×Nat)}{g f:List aB}(n:(h++i).Nodup)(m:(g++f).Nodup)(J:∀k∈g,k∈rw)(U:∀k∈f,k∈rw)(b:Nat)(l:Hm ν R h g b):¬Hm ν R i f b:=by
 rintro j;rcases l with⟨k,c,e⟩|⟨c,e⟩<;>rcases j with⟨bs,a,d⟩|⟨a,d⟩
 ·have:=he.inj k bs b (J k c) (U bs a) e d;subst this;exact(rS.1 m).2.2 _ c _ a rfl
 ·exact d (he.R k b (J k c) e)
 ·exact e (he.R bs b (U bs a) d)
 ·exact OL he.trd n b c a
mutual
def abM{ν:bc}{R:Nat->Prop}{rw:List aB}(he:C5 ν R rw){e:List (aB×dW)}:∀(p:af),(eC e p).Nodup->(ef p).Nodup->(∀k∈ef p,k∈rw)->∀(i d:Nat) (S c:Nat->Prop),(fO ν R e p)[i]? =some S->(fO ν R e p)[d]? =some c->∀b,S b->c b->i=d
 | .slice sz tag xs,_,_,_,i,d,S,c,h,a,b,_,_=>by have o:(fO ν R e (.slice sz tag xs)).length=1:=Al ν R e _;have:=(fH.1 h).1;have:=(fH.1 a).1;omega
 | .row sz k n,_,_,_,i,d,S,c,h,a,b,_,_=>by have o:(fO ν R e (.row sz k n)).length=1:=Al ν R e _;have:=(fH.1 h).1;have:=(fH.1 a).1;omega
 | .agg cs,j,g,f,i,d,S,c,h,a,b,m,l=>by simp only[fO,eC,ef]at h a j g f;exact Qn he cs j g f i d S c h a b m l
 | .tuple cs,j,g,f,i,d,S,c,h,a,b,m,l=>by simp only[fO,eC,ef]at h a j g f;exact Qn he cs j g f i d S c h a b m l
 | .int _ _,_,_,_,_,_,_,_,h,_,_,_,_=>by simp[fO]at h
 | .bool _,_,_,_,_,_,_,_,h,_,_,_,_=>by simp[fO]at h
 | .str _,_,_,_,_,_,_,_,h,_,_,_,_=>by simp[fO]at h
 | .junk,_,_,_,_,_,_,_,h,_,_,_,_=>by simp[fO]at h
 | .ptr _ _,_,_,_,_,_,_,_,h,_,_,_,_=>by simp[fO]at h
 | .eptr _,_,_,_,_,_,_,_,h,_,_,_,_=>by simp[fO]at h
 | .iface _ _,_,_,_,_,_,_,_,h,_,_,_,_=>by simp[fO]at h
 | .nilp,_,_,_,_,_,_,_,h,_,_,_,_=>by simp[fO]at h
 | .func _ _,_,_,_,_,_,_,_,h,_,_,_,_=>by simp[fO]at h
 | .gmap _,_,_,_,_,_,_,_,h,_,_,_,_=>by simp[fO]at h
 | .rptr _ _ _ _ _,_,_,_,_,_,_,_,h,_,_,_,_=>by simp[fO]at h
 | .hdm _ _,_,_,_,_,_,_,_,h,_,_,_,_=>by simp[fO]at h
 | .hdi _ _ _,_,_,_,_,_,_,_,h,_,_,_,_=>by simp[fO]at h
 | .cst _,_,_,_,_,_,_,_,h,_,_,_,_=>by simp[fO]at h
def Qn{ν:bc}{R:Nat->Prop}{rw:List aB}(he:C5 ν R rw){e:List (aB×dW)}:∀(p:List af),(gR e p).Nodup->(gH p).Nodup->(∀k∈gH p,k∈rw)->∀(i d:Nat) (S c:Nat->Prop),(po ν R e p)[i]? =some S->(po ν R e p)[d]? =some c->∀b,S b->c b->i=d
 |[],_,_,_,i,d,S,c,h,_,_,_,_=>by simp[po]at h
 |x::xs,g,f,o,i,d,S,c,h,a,b,l,j=>by
  simp only[po]at h a;simp only[gR]at g;simp only[gH]at f o;have q:∀k∈ef x,k∈rw:=fun k m=>o k (List.mem_append_left _ m);have n:∀k∈gH xs,k∈rw:=fun k m=>o k (List.mem_append_right _ m);by_cases hi:i<(fO ν R e x).length<;>by_cases r:d<(fO ν R e x).length
  ·rw[rR hi]at h;rw[rR r]at a;exact abM he x (rS.1 g).1 (rS.1 f).1 q i d S c h a b l j
  ·rw[rR hi]at h;rw[vo Ω]at a;exact absurd (FP xs _ c a b j) (Vr he g f q n b (FQ x i S h b l))
  ·rw[vo Ω]at h;rw[rR r]at a;exact absurd (FP xs _ S h b l) (Vr he g f q n b (FQ x d c a b j))
  ·rw[vo Ω]at h a;have:=Qn he xs (rS.1 g).2.1 (rS.1 f).2.1 n _ _ S c h a b l j;omega
end
end
section
open Go Go.RowKit
def QM{w:World}{μ:bc}{k:aB}{j sz:Nat}{tag:jF}{ys:List af}{v:Value}(h:cY true w μ.A (μ.tr k j) (.slice sz tag ys) v)(a:cf ys=ys):aU w μ (.slice sz (.tr k j) ys) v:=by have J:=Hq (ν:=μ) (fun _ _ h=>h) _ _ _ h;simp only[b5,a]at J;simp only[aU]at J⊢;refine⟨J.1,fun e=>(by cases e),fun _ e=>(by cases e),fun bs dh e=>?_,fun _ e=>(by cases e)⟩;cases e;simp only[cY]at h⊢;exact h
section
variable {pr:Nat->Prop} {w:World} {ν μ:bc} {B:List (aB×List af)} {e:List (aB×dW)} {R:Nat->Prop} {rw:List aB} {κ:Nat}
 (bf:Good pr w ν B e) (he:C5 ν R rw) (bt:∀b,R b->∀k j,¬ν.tr k j b) (DV:∀b o,ν.A b o->μ.A b o) (y8:∀k∈rw,∀own,ae k e=some own->∀b,oa ν k b->∀o,o<own.n*own.sz->μ.A b o)
include bf he bt DV y8
mutual
theorem Mh:∀(p:af) (v:Value) (j:Nat),aU w ν p v->e9 e p->(eC e p).Nodup->(∀k∈ef p,k∈rw)->(∀i S,(fO ν R e p)[i]? =some S->∀b,S b->μ.tr (.loc κ) (j+i) b)->aU w μ (fold κ e j p) v
 | .int k n,v,_,h,_,_,_,_=>by simpa only[aU,fold]using h
 | .bool b,v,_,h,_,_,_,_=>by simpa only[aU,fold]using h
 | .str s,v,_,h,_,_,_,_=>by simpa only[aU,fold]using h
 | .slice sz tag xs,v,j,h,ar,q,l,f=>by
  simp only[aU]at h;obtain⟨⟨a,cap,J,U,Z,aZ⟩,_,eb,lO,_⟩:=h;simp only[fold];refine QM (tag:= .no) ?_ (vf xs);by_cases z:∃k i,tag= .tr k i
  ·obtain⟨k,i,rfl⟩:=z;have aG:=DP .no v (lO k i rfl);refine vQ (fun b o h=>⟨DV b o h,rfl⟩) (fun _ _ _=>rfl) _ _ _ v (fun b d=>?_) aG;simpa using f 0 (fun b=>ν.tr k i b/\¬R b) (by simp[fO]) b ⟨d,fun F=>bt b F _ _ d⟩
  by_cases W:∃k,tag= .own k
  ·obtain⟨k,rfl⟩:=W;simp only[e9]at ar;obtain⟨_,⟨el,B⟩,L,O⟩:=ar;obtain⟨n',u,g1,g2,g3⟩:=eb k rfl;obtain⟨v0,gl,r,t,P,X⟩:=bf.own k _ B;simp only at r t P;rw[g1]at r;simp only[dU,jo]at r;obtain⟨rfl,rfl⟩:=r;have Q:=g3 rfl;subst Q;have K:k∈rw:=l k (by simp[ef]);simp only[cY];refine⟨a,cap,by rw[nF];exact J,by rw[nF];exact U,by rw[nF];exact Z,?_⟩;rcases aZ with rfl|⟨b,off,us,E,b3,Y⟩
   ·exact .inl rfl
   by_cases A:xs=[]
   ·left;rw[A];rfl
   right;subst E;rcases t.2 with⟨E,_⟩|⟨g,Du,cur,f1,f2,f3,f4,f5,f6,f7⟩
   ·rw[E]at J;cases J
   have G:v.ownBlock=some g:=by rw[f1];rfl
   have y:oa ν k g:=⟨_,_,g1,G⟩;have x:∀b,(oa ν k b\/(ly ν (tnL xs) b/\¬R b))->μ.tr (.loc κ) j b:=fun b d=>by simpa using f 0 (fun b=>oa ν k b\/(ly ν (tnL xs) b/\¬R b)) (by simp[fO]) b d
   rw[f1]at J;simp only[ayh,dU,Addr.mk.injEq]at J;obtain⟨⟨rfl,rfl,_⟩,_,rfl⟩:=J;have hlen:=rJ Y;refine⟨g,0,us,fun c=>ly ν (tnL xs) c/\¬R c,rfl,x g (.inl y),fun c aw=>⟨x c (.inr aw),fun _ V=>aw.2 (by rw[V];exact he.R k g K y)⟩,BX (fun b o h=>⟨DV b o h,rfl⟩) _ _ b3,fun _=>⟨rfl,?_,el,?_⟩,?_⟩
   ·rw[hlen];exact Nat.mul_pos (List.length_pos_iff.2 A) O
   ·simp only[shape,f3,f6]
   ·have J:=OW he.trd xs us Y L (by simpa only[eC]using q);exact Ho (fun b o h=>⟨DV b o h,rfl⟩) (fun _ _ _=>rfl) _ _ _ us (fun b d=>⟨d,fun F=>by obtain⟨bs,jO,_,z⟩:=d;exact bt b F _ _ z⟩) J
  ·have ad:xs=[]:=by
    simp only[e9]at ar;split at ar
    ·exact absurd ⟨_,_,rfl⟩ z
    ·exact absurd ⟨_,rfl⟩ W
    ·exact ar
   subst ad;simp only[cf,cY];exact⟨a,cap,J,U,Z,.inl trivial⟩
 | .row sz k n,v,j,h,ar,q,l,f=>by
  simp only[e9]at ar;obtain⟨⟨m,hm⟩,⟨xs,el,B,L⟩,O⟩:=ar;have N:wL e k=xs:=by simp[wL,B]
  simp only[aU]at h;obtain⟨⟨ad0,jt,BI⟩,fo,n',u,g1,g2,g3⟩:=h;obtain⟨v0,us,r,t,P,X⟩:=bf.own k _ B;simp only at r t P;rw[g1]at r;simp only[dU,jo]at r;obtain⟨rfl,rfl⟩:=r;have Q:=g3 rfl;subst Q;obtain⟨H,M,va⟩:=X xs rfl;simp only at H M;have K:k∈rw:=l k (by simp[ef]);rcases t.2 with⟨E,_⟩|⟨g,cap,cur,f1,f2,f3,f4,f5,f6,f7⟩
  ·rw[E]at BI;cases BI
  have G:v.ownBlock=some g:=by rw[f1];rfl
  have y:oa ν k g:=⟨_,_,g1,G⟩;have x:∀b,(oa ν k b\/(ly ν (tnL (wL e k)) b/\¬R b))->μ.tr (.loc κ) j b:=fun b d=>by simpa using f 0 (fun b=>oa ν k b\/(ly ν (tnL (wL e k)) b/\¬R b)) (by simp[fO]) b d
  rw[N]at x;simp only[fold,N];refine QM (tag:= .no) ?_ (vf xs);simp only[cY];refine⟨some ⟨g,0,none⟩,cap,by rw[nF,H];exact f1,by rw[nF,H];exact f4,⟨f5,by rw[nF,H];exact fo⟩,?_⟩;by_cases A:xs=[]
  ·left;rw[A];rfl
  ·right;have hlen:=rJ M;refine⟨g,0,us,fun c=>ly ν (tnL xs) c/\¬R c,rfl,x g (.inl y),fun c aw=>⟨x c (.inr aw),fun _ V=>aw.2 (by rw[V];exact he.R k g K y)⟩,Iu us 0 fun i u hi=>?_,fun _=>⟨rfl,?_,el,?_⟩,?_⟩
   ·have Bs:i<us.length:=(fH.1 hi).1;refine⟨y8 k K _ B g y _ (by simp only;rw[t.1]at Bs;omega),?_⟩;have:=t.cells G i u hi;rwa[pJ]at this
   ·rw[hlen];exact Nat.mul_pos (List.length_pos_iff.2 A) O
   ·simp only[shape,f3,f6]
   ·have J:=OW he.trd xs us M L (by simpa only[eC,N]using q);exact Ho (fun b o h=>⟨DV b o h,rfl⟩) (fun _ _ _=>rfl) _ _ _ us (fun b d=>⟨d,fun F=>by obtain⟨bs,jO,_,z⟩:=d;exact bt b F _ _ z⟩) J
 | .agg cs,v,j,h,ar,q,l,f=>by simp only[aU,e9,eC,ef,fO,fold]at h ar q l f⊢;obtain⟨us,J,U⟩:=h;exact⟨us,J,Vm cs _ j U ar q l f⟩
 | .tuple cs,v,j,h,ar,q,l,f=>by simp only[aU,e9,eC,ef,fO,fold]at h ar q l f⊢;obtain⟨us,J,U⟩:=h;exact⟨us,J,Vn cs _ j U ar q l f⟩
 | .junk,_,_,_,ar,_,_,_=>by simp[e9]at ar
 | .ptr _ _,_,_,_,ar,_,_,_=>by simp[e9]at ar
 | .eptr _,_,_,_,ar,_,_,_=>by simp[e9]at ar
 | .iface _ _,_,_,_,ar,_,_,_=>by simp[e9]at ar
 | .nilp,_,_,_,ar,_,_,_=>by simp[e9]at ar
 | .func _ _,_,_,_,ar,_,_,_=>by simp[e9]at ar
 | .gmap _,_,_,_,ar,_,_,_=>by simp[e9]at ar
 | .rptr _ _ _ _ _,_,_,_,ar,_,_,_=>by simp[e9]at ar
 | .hdm _ _,_,_,_,ar,_,_,_=>by simp[e9]at ar
 | .hdi _ _ _,_,_,_,ar,_,_,_=>by simp[e9]at ar
 | .cst _,_,_,_,ar,_,_,_=>by simp[e9]at ar
theorem Vm:∀(cs:List af) (us:List Value) (j:Nat),cW w ν cs us->hn e cs->(gR e cs).Nodup->(∀k∈gH cs,k∈rw)->(∀i S,(po ν R e cs)[i]? =some S->∀b,S b->μ.tr (.loc κ) (j+i) b)->cW w μ (hE κ e j cs) us
 |[],us,j,h,_,_,_,_=>by simpa only[cW,hE]using h
 |c::cs,us,j,h,ar,n,g,d=>by
  simp only[cW,hn,gR,gH,po,hE]at h ar n g d⊢;obtain⟨u,m,J,⟨U,o⟩,p⟩:=h;have l:=rS.1 n;refine⟨u,m,J,⟨Mh c u j U ar.1 l.1 (fun k a=>g k (List.mem_append_left _ a)) (fun i S hi b f=>d i S (by rw[rR (fH.1 hi).1];exact hi) b f),o⟩,
   Vm cs m _ p ar.2 l.2.1 (fun k a=>g k (List.mem_append_right _ a)) (fun i S hi b f=>?_)⟩
  have:=d (hC c+i) S (by rw[vo (by rw[Al];omega),Al];simpa using hi) b f;rwa[<-Nat.add_assoc]at this
theorem Vn:∀(cs:List af) (us:List Value) (j:Nat),c7 w ν cs us->hn e cs->(gR e cs).Nodup->(∀k∈gH cs,k∈rw)->(∀i S,(po ν R e cs)[i]? =some S->∀b,S b->μ.tr (.loc κ) (j+i) b)->c7 w μ (hE κ e j cs) us
 |[],us,j,h,_,_,_,_=>by simpa only[c7,hE]using h
 |c::cs,us,j,h,ar,n,g,d=>by
  simp only[c7,hn,gR,gH,po,hE]at h ar n g d⊢;obtain⟨u,m,J,U,o⟩:=h;have l:=rS.1 n;refine⟨u,m,J,Mh c u j U ar.1 l.1 (fun k a=>g k (List.mem_append_left _ a)) (fun i S hi b f=>d i S (by rw[rR (fH.1 hi).1];exact hi) b f),
   Vn cs m _ o ar.2 l.2.1 (fun k a=>g k (List.mem_append_right _ a)) (fun i S hi b f=>?_)⟩
  have:=d (hC c+i) S (by rw[vo (by rw[Al];omega),Al];simpa using hi) b f;rwa[<-Nat.add_assoc]at this
end
end
end
section
open Go Go.RowKit
mutual
def Zb:∀p:af,fq p->∀x∈tn p,x.1≠ei
 | .slice _ tag xs,ar,x,a=>by cases tag<;>simp only[tn,fq]at ar a<;>simp at a;subst a;exact ar
 | .agg cs,ar,x,a=>by simp only[tn,fq]at ar a;exact IY cs ar x a
 | .int _ _,_,_,a=>by simp[tn]at a
 | .bool _,_,_,a=>by simp[tn]at a
 | .str _,_,_,a=>by simp[tn]at a
 | .junk,_,_,a=>by simp[tn]at a
 | .ptr _ _,_,_,a=>by simp[tn]at a
 | .eptr _,_,_,a=>by simp[tn]at a
 | .iface _ _,_,_,a=>by simp[tn]at a
 | .nilp,_,_,a=>by simp[tn]at a
 | .tuple _,_,_,a=>by simp[tn]at a
 | .func _ _,_,_,a=>by simp[tn]at a
 | .gmap _,_,_,a=>by simp[tn]at a
 | .row _ _ _,_,_,a=>by simp[tn]at a
 | .rptr _ _ _ _ _,_,_,a=>by simp[tn]at a
 | .hdm _ _,_,_,a=>by simp[tn]at a
 | .hdi _ _ _,_,_,a=>by simp[tn]at a
 | .cst _,_,_,a=>by simp[tn]at a
def IY:∀p:List af,gb p->∀x∈tnL p,x.1≠ei
 |[],_,x,a=>by simp[tnL]at a
 |c::cs,ar,x,a=>by
  simp only[tnL,gb,kd]at ar a;rcases a with a|a
  ·exact Zb c ar.1 x a
  ·exact IY cs ar.2 x a
end
mutual
def Zc{e:List (aB×dW)}:∀p:af,e9 e p->∀x∈eC e p,x.1≠ei
 | .slice _ tag xs,ar,x,a=>by
  cases tag with
  |own k=>simp only[eC,e9]at ar a;exact IY xs ar.2.2.1 x a
  |tr k i=>simp only[eC,e9]at ar a;simp at a;subst a;exact ar
  |no=>simp[eC]at a
  |nil=>simp[eC]at a
  |lo k=>simp[eC]at a
 | .row _ k _,ar,x,a=>by simp only[eC,e9]at ar a;obtain⟨_,⟨xs,el,c,b⟩,_⟩:=ar;rw[show wL e k=xs from by simp[wL,c]]at a;exact IY xs b x a
 | .agg cs,ar,x,a=>by simp only[eC,e9]at ar a;exact OT cs ar x a
 | .tuple cs,ar,x,a=>by simp only[eC,e9]at ar a;exact OT cs ar x a
 | .int _ _,_,_,a=>by simp[eC]at a
 | .bool _,_,_,a=>by simp[eC]at a
 | .str _,_,_,a=>by simp[eC]at a
 | .junk,_,_,a=>by simp[eC]at a
 | .ptr _ _,_,_,a=>by simp[eC]at a
 | .eptr _,_,_,a=>by simp[eC]at a
 | .iface _ _,_,_,a=>by simp[eC]at a
 | .nilp,_,_,a=>by simp[eC]at a
 | .func _ _,_,_,a=>by simp[eC]at a
 | .gmap _,_,_,a=>by simp[eC]at a
 | .rptr _ _ _ _ _,_,_,a=>by simp[eC]at a
 | .hdm _ _,_,_,a=>by simp[eC]at a
 | .hdi _ _ _,_,_,a=>by simp[eC]at a
 | .cst _,_,_,a=>by simp[eC]at a
def OT{e:List (aB×dW)}:∀p:List af,hn e p->∀x∈gR e p,x.1≠ei
 |[],_,x,a=>by simp[gR]at a
 |c::cs,ar,x,a=>by
  simp only[gR,hn,kd]at ar a;rcases a with a|a
  ·exact Zc c ar.1 x a
  ·exact OT cs ar.2 x a
end
mutual
def IZ{e:List (aB×dW)}:∀p:af,e9 e p->∀k∈ef p,∃own,ae k e=some own
 | .row sz k n,ar,bs,b=>by simp only[ef,e9]at ar b;obtain⟨_,⟨xs,el,c,d⟩,_⟩:=ar;simp at b;subst b;exact⟨_,c⟩
 | .agg cs,ar,x,a=>by simp only[ef,e9]at ar a;exact OU cs ar x a
 | .tuple cs,ar,x,a=>by simp only[ef,e9]at ar a;exact OU cs ar x a
 | .slice sz tag xs,ar,bs,b=>by
  cases tag with
  |own k=>simp only[ef,e9]at ar b;obtain⟨_,⟨el,c⟩,_⟩:=ar;simp at b;subst b;exact⟨_,c⟩
  |tr k i=>simp[ef]at b
  |no=>simp[ef]at b
  |nil=>simp[ef]at b
  |lo k=>simp[ef]at b
 | .int _ _,_,_,a=>by simp[ef]at a
 | .bool _,_,_,a=>by simp[ef]at a
 | .str _,_,_,a=>by simp[ef]at a
 | .junk,_,_,a=>by simp[ef]at a
 | .ptr _ _,_,_,a=>by simp[ef]at a
 | .eptr _,_,_,a=>by simp[ef]at a
 | .iface _ _,_,_,a=>by simp[ef]at a
 | .nilp,_,_,a=>by simp[ef]at a
 | .func _ _,_,_,a=>by simp[ef]at a
 | .gmap _,_,_,a=>by simp[ef]at a
 | .rptr _ _ _ _ _,_,_,a=>by simp[ef]at a
 | .hdm _ _,_,_,a=>by simp[ef]at a
 | .hdi _ _ _,_,_,a=>by simp[ef]at a
 | .cst _,_,_,a=>by simp[ef]at a
def OU{e:List (aB×dW)}:∀p:List af,hn e p->∀k∈gH p,∃own,ae k e=some own
 |[],_,x,a=>by simp[gH]at a
 |c::cs,ar,x,a=>by
  simp only[gH,hn,kd]at ar a;rcases a with a|a
  ·exact IZ c ar.1 x a
  ·exact OU cs ar.2 x a
end
def h4(d:List bW)(s:cR)(κ:Nat)(Q:af->cR->Prop)(e:Exit)(st:bp):Prop:=
 (e= .ret\/e= .normal)/\match ba st d with
  |some (c,b)=>c/\∃a,a.e=[]/\lX a s.b/\hy (aM a) a.b st.b/\hX a/\(e9 st.e (a1 b)/\(eC st.e (a1 b)).Nodup/\(ef (a1 b)).Nodup)/\Q (fold κ st.e 0 (a1 b)) a
  |none=>eu
noncomputable def bc.fold(ν:bc)(a:cR)(κ:Nat)(e:List (aB×dW))(p:af):bc:=
 {A:=fun b o=>ν.A b o\/ ∃k,k∈ef p/\∃own,ae k e=some own/\oa ν k b/\o<own.n*own.sz,
  bx:=(ν.cut (aM a)).bx,ow:=fun _=>none,
  tr:=fun k j b=>k= .loc κ/\∃S,(fO ν (fun b=> ∃k,k∈ef p/\oa ν k b) e p)[j]? =some S/\S b}
def uf.of{P:cI}(hm:P.follows .mixedOrders=true){aT:List (Nat×ev)}(aJ:hY P aT=true){f:FuncId}{fn:Func}(aG:P.funcs[f]? =some fn){code:Code}(ag:fn.body=some code)(v7:(fn.name== "runtime.NumGoroutine")=false){c:C}(aw:hU fn.ntmps aT c code=true){ea:List bW}(iK:p5 aT ea fn.results.toList=true)
  {args:List af} (av:args.length<=fn.ntmps) {s:cR} (kU:hX s) (h9:s.e=[]) {κ:Nat} {Q:af->cR->Prop} (he:eM args->(∀j cs,ae j s.b=some cs->gV cs=true->eN cs)->df P (cK s) c (h4 ea s κ Q) ⟨jc 0 args,s.b,s.e,0,cK s⟩):uf P f κ args s Q:=by
 intro w ν bm bf ad aI;refine .inl ⟨⟨fn,aG,by simp[ag],v7⟩,?_⟩;have pX:=Aa aI;have lr:bm.size=args.length:=by simpa using pX
 let X:fm:=⟨w,ν,fB ν s,fn.ntmps,cK s⟩
 have nS:∀k,fresh 0 (cK s) k->ν.bx k=none/\ν.ow k=none/\∀j b,¬ν.tr k j b:=by
  intro k ab;cases k with
  |loc m=>exact⟨(ad _).1 (kU.1 m),(ad _).2.1 (kU.2 m),(ad _).2.2⟩
  |obj m=>
   simp only[fresh,true_and]at ab;refine⟨?_,?_,(ad _).2.2⟩
   ·refine(ad _).1 ?_;cases h:ae (.obj m) s.b with
    |none=>rfl
    |some x=>exact absurd (rF (.inl (by simp[h]))) ab
   ·refine(ad _).2.1 ?_;cases h:ae (.obj m) s.e with
    |none=>rfl
    |some x=>exact absurd (rF (.inr (by simp[h]))) ab
 have jb:∀m,(ν.bx (.obj m)≠none\/ν.ow (.obj m)≠none)-> .obj m∈cK s:=by
  intro m hm;refine Classical.byContradiction fun aw=>?_;obtain⟨J,U,_⟩:=nS (.obj m) ⟨trivial,aw⟩;rcases hm with hm|hm
  ·exact hm J
  ·exact hm U
 have pV:c9 X ⟨jc 0 args,s.b,s.e,0,cK s⟩ {tmps:=bm++Array.replicate (fn.ntmps-bm.size) undef,defers:=[]} w ν:=by
  refine⟨⟨bf.alt,fun k cs ab=>?_,bf.inj,fun g o fu=>?_,bf.oinj,bf.obx,bf.one,bf.otr⟩,⟨rfl,rfl,rfl,dO _,fun _ _ _=>rfl,fun b o h=>⟨h,rfl⟩,fun b o h=>.inl h,fun n b h=>h,fun n b h=>jb n (.inl (by rw[h];simp)),fun m n u h=>⟨n,u,h,.inl ⟨rfl,rfl⟩⟩,fun m n u h=>jb m (.inr (by rw[h];simp)),fun k j _ _ b h=>absurd h ((ad k).2.2 j b),fun k j b h=>absurd h ((ad k).2.2 j b),fun k j b h=>absurd h ((ad k).2.2 j b),fun _ _ _=>rfl⟩,rfl,?_,fun i=>?_,nS⟩
  ·obtain⟨bl,us,el,g1,g2,g3⟩:=bf.box k cs ab;exact⟨bl,us,el,g1,.inl g2,g3⟩
  ·obtain⟨v,us,g1,g2,g3,g4⟩:=bf.own g o fu;exact⟨v,us,g1,g2,fun bl gf=>⟨.inl (g3 bl gf).1,(g3 bl gf).2⟩,g4⟩
  ·show(bm++Array.replicate (fn.ntmps-bm.size) undef).size=fn.ntmps;simp;omega
  ·rw[Hu];by_cases hi:i<args.length
   ·rw[if_pos Ω];have se:args[i]? =some args[i]:=cl hi;obtain⟨v,ao,aC⟩:=Fx i aI se;have aN:(bm++Array.replicate (fn.ntmps-bm.size) undef).getD i undef=v:=by
     have o5:bm[i]? =some v:=by simpa using ao
     rw[Array.getD_eq_getD_getElem?,Array.getElem?_append_left Ω,o5];rfl
    show aU w ν _ ((bm++Array.replicate (fn.ntmps-bm.size) undef).getD i undef);rw[aN];simpa[List.getD,se]using aC
   ·rw[if_neg Ω];simp[aU]
 have vV:=he (PZ aI) (fun j cs ah=>by obtain⟨bl,us,el,_,_,_,_,g5⟩:=bf.box j cs ah;exact PV g5);have Nv:=qs hm aJ (X:=X) c code (h4 ea s κ Q) _ aw vV _ w ν pV;refine calls_of_wp aG ag (wp_mono Nv fun e br w' cM=>?_);obtain⟨st',bn,⟨ri,bM⟩,dd⟩:=cM;cases qA:ba st' ea with
 |none=>simp[qA]at bM
 |some x=>
  obtain⟨cC,bT⟩:=x;simp only[qA]at bM;obtain⟨h7,ak,hs'e,kb,a8,bX,⟨ok,nd,rd⟩,dK⟩:=bM;obtain⟨oP,g1,g2⟩:=JF aJ dd ea fn.results.toList cC bT iK qA h7;have Nf:=Aa g2;have ee:br.defers=[]/\∃v,(results fn br.tmps).run P w'= .ok v w'/\(fun(e:Ending) w'=> ∃v r ak bn,e= .returned v/\Q r ak/\aU w' bn r v/\Good (fun bl=>fB ν s bl\/w.heap.size<=bl) w' bn ak.b ak.e/\A2 (some κ) bn ak/\hX ak/\pC ⟨w,ν,fB ν s,0,cK s⟩ w' bn) (.returned v) w':=by
   refine⟨dd.defers,?_⟩;have jM:(results fn br.tmps).run P w'= .ok (if h:oP.toArray.size=1 then oP.toArray[0]else .tuple oP.toArray) w':=by rw[abk];simp only[gx,Array.mapM_eq_mapM_toList,Sem.run_map,g1,gC,hA]
   have xt:∀k,aM ak k->(ae k ak.b).isSome/\(ae k st'.b).isSome:=fun k ab=>by
    have J:(ae k ak.b).isSome:=by
     rcases ab with ab|ab
     ·exact ab
     ·rw[hs'e]at ab;simp[ae]at ab
    obtain⟨cs,dz⟩:=fx.1 J;exact⟨J,by simp[(a8 k cs dz).1]⟩
   have gK:∀k b,k∈ef (a1 bT)->oa bn k b->∃own,ae k st'.e=some own/\(X.pr b)/\b<w'.heap.size/\(∀k j,¬bn.tr k j b)/\(∀bs,(ae bs st'.b).isSome->bn.bx bs≠some b):=by rintro k b ab ⟨n,v,J,U⟩;obtain⟨own,np⟩:=IZ _ ok k ab;obtain⟨v0,us,hf,iM,u7,awP⟩:=dd.good.own k _ np;rw[J]at hf;simp only[dU,jo]at hf;obtain⟨rfl,rfl⟩:=hf;exact⟨_,np,(u7 b U).1,dd.good.ownLt np J U,dd.good.otr b (.inr ⟨k,_,_,by simp[np],J,U⟩),fun bs lU km=>dd.good.obx k bs _ _ b (by simp[np]) lU J U km⟩
   have zs:∀k b,k∈ef (a1 bT)->oa bn k b->w.heap.size<=b:=by
    intro k b ab dZ;obtain⟨own,_,J,_,_,bR⟩:=gK k b ab dZ;rcases J with J|J
    ·exfalso;rcases J with⟨bs,bq,a2⟩|⟨g,n,v,bq,_⟩
     ·cases bs with
      |loc m=>rw[kU.1 m]at bq;cases bq
      |obj m=>exact bR _ (xt _ (xR kb _ bq)).2 (dd.fr.obj m b a2)
     ·rw[h9]at bq;simp[ae]at bq
    ·exact J
   have HI:C5 bn (fun b=> ∃k,k∈ef (a1 bT)/\oa bn k b) (ef (a1 bT)):=by refine⟨dd.fr.trd,fun k bs b ab lU J U=>?_,fun k b ab h=>⟨k,ab,h⟩⟩;obtain⟨n,v,bq,a2⟩:=J;obtain⟨n',v',cm,b8⟩:=U;obtain⟨_,bQ⟩:=IZ _ ok k ab;obtain⟨_,cn⟩:=IZ _ ok bs lU;exact dd.good.oinj k bs n n' v v' b (by simp[bQ]) (by simp[cn]) bq cm a2 b8
   refine⟨_,jM,_,Pv.fold κ st'.e 0 (a1 bT),ak,bn.fold ak κ st'.e (a1 bT),rfl,dK,?_,?_,?_,bX,?_⟩
   ·show aU w' (bn.fold ak κ st'.e (a1 bT)) _ _;have nV:aU w' bn (a1 bT) (if h:oP.toArray.size=1 then oP.toArray[0]else .tuple oP.toArray):=by
     match bT,oP,g2,Nf with
     |[p],[v],g2,_=>simp only[c7]at g2;obtain⟨u,b1,ao,aC,_⟩:=g2;cases ao;simpa[a1]using aC
     |[],[],g2,_=>simp[a1,aU,c7]
     |p::dD::bT,v::v2::oP,g2,_=>rw[dif_neg Ψ];simp only[a1,aU];exact⟨_,rfl,by simpa using g2⟩
     |[_],[],_,h=>simp at h
     |[],_::_,_,h=>simp at h
     |[_],_::_::_,_,h=>simp at h
     |_::_::_,[],_,h=>simp at h
     |_::_::_,[_],_,h=>simp at h
    refine Mh (μ:=bn.fold ak κ st'.e (a1 bT)) dd.good HI (fun b bt=>?_) (fun b o h=>.inl h) (fun k ab own np b dZ o ar=>.inr ⟨k,ab,own,np,dZ,ar⟩) (a1 bT) _ 0 nV ok nd (fun k ab=>ab) (fun i S hi b dF=>⟨rfl,S,by simpa using hi,dF⟩);obtain⟨k,ab,dZ⟩:=bt;obtain⟨_,_,_,_,aZ,_⟩:=gK k b ab dZ;exact aZ
   ·have kH:oX (aM ak) w' bn w' (bn.fold ak κ st'.e (a1 bT)):=by
     refine⟨fun b o h=>⟨.inl h,rfl⟩,fun k b ab h=>by simp only[bc.fold];rw[bc.cut_bx ab];exact h,fun g n u HJ h=>?_,fun _ _ _=>rfl,fun k j b ab h=>?_⟩
     ·obtain⟨cs,dz⟩:=fx.1 (xt g HJ).2;obtain⟨bl,us,el,ao,_⟩:=dd.good.box g cs dz;rcases dd.good.one g with J|J
      ·rw[J]at ao;cases ao
      ·rw[J]at h;cases h
     ·obtain⟨cs,dz⟩:=fx.1 (xt k ab).2;obtain⟨bl,us,el,ao,_⟩:=dd.good.box k cs dz;rw[(dd.fr.trn k j b h).1]at ao;cases ao
    have km:∀k bl,(bn.fold ak κ st'.e (a1 bT)).bx k=some bl->aM ak k/\bn.bx k=some bl:=fun k bl h=>bc.cut_some h;refine⟨fun bl o bj=>?_,fun k cs ab=>?_,fun k bs bl J U aq aZ=>?_,fun g o HJ=>?_,fun g fD n n' v v' bl J=>?_,fun g k n v bl J=>?_,fun k=>.inr rfl,fun bl aJ k j hM=>?_⟩
    ·rcases bj with bj|⟨k,ab,own,_,dZ,_⟩
     ·exact dd.good.alt bl o bj
     ·obtain⟨_,_,_,aq,_⟩:=gK k bl ab dZ;exact aq
    ·obtain⟨f1,f2,f3⟩:=a8 k cs ab;obtain⟨bl,us,el,ao,aC,bh,b3,dM⟩:=dd.good.box k cs f1;refine⟨bl,us,el,kH.bx k bl f2 ao,aC,fun o bj=>?_,b3,PW kH f3 dM⟩;rcases bj with bj|⟨bs,lU,own,_,dZ,_⟩
     ·exact bh o bj
     ·obtain⟨_,_,_,_,_,bR⟩:=gK bs bl lU dZ;exact bR k (by simp[f1]) ao
    ·exact dd.good.inj k bs bl (xt k (.inl J)).2 (xt bs (.inl U)).2 (km k bl aq).2 (km bs bl aZ).2
    ·rw[hs'e]at HJ;simp[ae]at HJ
    ·rw[hs'e]at J;simp[ae]at J
    ·rw[hs'e]at J;simp[ae]at J
    ·rcases aJ with⟨bs,bq,a2⟩|⟨g,n,v,bq,_⟩
     ·obtain⟨_,S,dF,dZ⟩:=hM;obtain⟨cm,b8⟩:=km bs bl a2;rcases FQ _ j S dF bl dZ with⟨bK,il,J⟩|⟨⟨bK,i,_,J⟩,_⟩
      ·obtain⟨_,_,_,_,_,bR⟩:=gK bK bl il J;exact bR bs (xt bs cm).2 b8
      ·exact dd.good.otr bl (.inl ⟨bs,(xt bs cm).2,b8⟩) bK i J
     ·rw[hs'e]at bq;simp[ae]at bq
   ·intro k;refine⟨fun ab=>?_,fun _=>rfl,fun j b h=>⟨κ,rfl,h.1⟩⟩;refine(bc.cut_no fun cM=>?_).1;have:=(xt k cM).1;rw[ab]at this;cases this
   ·have WT:∀j b,(bn.fold ak κ st'.e (a1 bT)).tr (.loc κ) j b->w.heap.size<=b/\b<w'.heap.size:=by
     rintro j b ⟨_,S,dF,dZ⟩;rcases FQ _ j S dF b dZ with⟨k,ab,J⟩|⟨⟨k,i,fL,J⟩,_⟩
     ·obtain⟨_,_,_,aq,_⟩:=gK k b ab J;exact⟨zs k b ab J,aq⟩
     ·have:=dd.fr.trb k i b J;exact⟨this.1.resolve_left (Zc _ ok _ fL),this.2⟩
    refine⟨dd.fr.os,dd.fr.tape,dd.fr.output,dd.fr.size,dd.fr.block,fun b o h=>⟨.inl (dd.fr.keep b o h).1,(dd.fr.keep b o h).2⟩,fun b o bj=>?_,fun n b h=>?_,fun n b h=>jb n (.inl (by rw[h];simp)),fun m n u h=>?_,fun m n u h=>jb m (.inr (by rw[h];simp)),fun k j bs dh b J U=>?_,fun k j b h=>?_,fun k j b h=>?_,dd.fr.sh⟩
    ·rcases bj with bj|⟨k,ab,own,_,dZ,_⟩
     ·exact dd.fr.fresh b o bj
     ·obtain⟨_,_,U,_⟩:=gK k b ab dZ;exact .inr U
    ·have ai:aM ak (.obj n):=by
      cases np:ae (.obj n) s.b with
      |none=>rw[(ad _).1 np]at h;cases h
      |some x=>exact xR kb _ (by simp[np])
     simp only[bc.fold];rw[bc.cut_bx ai];exact dd.fr.obj n b h
    ·rw[(ad _).2.1 (by rw[h9];rfl)]at h;cases h
    ·obtain⟨rfl,S,bq,a2⟩:=J;obtain⟨rfl,mZ,cm,b8⟩:=U;exact⟨rfl,abM HI _ nd rd (fun k ab=>ab) j dh S mZ bq cm b a2 b8⟩
    ·obtain⟨rfl,_⟩:=id h;exact⟨.inr (WT j b h).1,(WT j b h).2⟩
    ·obtain⟨rfl,_⟩:=h;refine⟨(bc.cut_no fun cM=>?_).1,rfl⟩;rcases cM with cM|cM
     ·rw[bX.1 κ]at cM;cases cM
     ·rw[bX.2 κ]at cM;cases cM
  rcases ri with rfl|rfl<;>exact ee
def uf.mk{P:cI}(hm:P.follows .mixedOrders=true){aT:List (Nat×ev)}(l:hY P aT=true){f:FuncId}{fn:Func}(m:P.funcs[f]? =some fn){c:C}{b:List bW}{n:Nat}(a:b4 aT c b n fn=true)
  {args:List af} (g:args.length<=n) {s:cR} (d:hX s) (e:s.e=[]) {κ:Nat} {Q:af->cR->Prop} (he:eM args->(∀j cs,ae j s.b=some cs->gV cs=true->eN cs)->df P (cK s) c (h4 b s κ Q) ⟨jc 0 args,s.b,s.e,0,cK s⟩):uf P f κ args s Q:=by
 unfold b4 at a;split at a
 ·rename_i code i;simp only[cQ,sO,gy]at a;obtain⟨⟨⟨J,U⟩,h⟩,k⟩:=a;exact uf.of hm l m i h J U (kD g k) d e he
 ·cases a
def fW(P:cI)(f:FuncId)(args:List af)(r:Nat->af):Prop:= ∀κ,uf P f κ args ⟨[],[]⟩ fun a b=>a=r κ/\b=⟨[],[]⟩
def fW.mk{P:cI}(hm:P.follows .mixedOrders=true){aT:List (Nat×ev)}(i:hY P aT=true){f:FuncId}{fn:Func}(j:P.funcs[f]? =some fn){c:C}{a:List bW}{n:Nat}(d:b4 aT c a n fn=true)
  {args:List af} (e:args.length<=n) {r:Nat->af} (he:eM args->∀κ,df P [] c (h4 a ⟨[],[]⟩ κ fun b g=>b=r κ/\g=⟨[],[]⟩) ⟨jc 0 args,[],[],0,[]⟩):fW P f args r:=
 fun κ=>uf.mk hm i j d e sx rfl fun h _=>he h κ
def h4.val{b:List bW}{κ:Nat}{r:af}{e:Exit}{st:bp}(f:e= .ret\/e= .normal)(h:match ba st b with
  |some (c,a)=>c/\(e9 st.e (a1 a)/\(eC st.e (a1 a)).Nodup/\(ef (a1 a)).Nodup)/\fold κ st.e 0 (a1 a)=r
  |none=>eu):h4 b ⟨[],[]⟩ κ (fun g i=>g=r/\i=⟨[],[]⟩) e st:=by
 refine⟨f,?_⟩;cases d:ba st b with
 |none=>simp[d]at h
 |some x=>obtain⟨c,a⟩:=x;simp only[d]at h⊢;exact⟨h.1,⟨[],[]⟩,rfl,trivial,fun k cs j=>by simp[ae]at j,sx,h.2.1,h.2.2,rfl⟩
def CallDo.own{P:cI}{n:Nat}{args:List af}{st:bp}{d:bd Nat}{K:bp->Prop}{r:Nat->af}(a:aH (fun _=>eu) args)(c:fW P n args r)(b: .loc st.n∉st.o)(h:K {st with t:=e5 d (r st.n) st.t,n:=st.n+1}):CallDo P n args st d K:=by
 refine .inr ⟨⟨[],[]⟩,_,fun k cs a=>by simp[ae]at a,fun k cs a=>by simp[ae]at a,sx,jj (fun _ h=>h.elim) _ a,b,c st.n,?_⟩;rintro e f ⟨rfl,rfl⟩;refine⟨⟨fun m h=>by simp[ae]at h,fun m h=>by simp[ae]at h⟩,?_⟩;have:({after st ⟨[],[]⟩ ⟨[],[]⟩ d (r st.n)with n:=st.n+1}:bp)={st with t:=e5 d (r st.n) st.t,n:=st.n+1}:=by simp[after,C2,cK]
 rw[this];exact h
def hK.own{P:cI}{q:Bool}{nw:List Nat}{n:Nat}{args:List af}{st:bp}{cU:Nat}{K:bp->Prop}{r:Nat->af}(b:aH (fun _=>eu) args)(c:fW P n args r)(a:qu st.n cU st)(h:K {st with t:=put cU (r (st.n+cU)) st.t,o:= .loc (st.n+cU)::st.o}):hK P q nw n args st (some cU) K:=.inl ⟨cU,r (st.n+cU),rfl,a,b,c (st.n+cU),h⟩
end
end Go.Pv
namespace Go.Proofs.YtahlgcidhnjlbaaGreat
section
open Go Go.Pv
def _root_.Go.Pv.T.k(t:T)(κ:Nat):af:= .agg [aj t.kind,aj t.int,.str t.name,.slice 4 (.tr (.loc κ) 0) (t.args.map T.e)]
def am9(t:T):fW au 143 [t.e] t.k:=by
 induction t with
 |pair a b d c=>
  refine fW.mk mixed a6 Tryz.func143 I1 Ψ fun e κ=>?_;unfold Dq;simp;repeat' first|with_reducible refine hK.own Ψ d (by simp[qu,ae]) ?_|with_reducible refine hK.own Ψ c (by simp[qu,ae]) ?_|simp[T.k]
  all_goals skip
  all_goals(refine h4.val (.inl rfl) ?_;simp[ba,be,a1,e9,hn,eC,gR,ef,gH,tnL,tn,fq,gb,fold,hE,hC,ae,ei,cf])
 |_=>refine fW.mk mixed a6 Tryz.func143 I1 Ψ fun e κ=>?_;unfold Dq;simp;all_goals(refine h4.val (.inl rfl) ?_;simp[ba,be,a1,e9,hn,eC,gR,ef,gH,tnL,tn,fq,gb,fold,hE,hC,ae,T.k,cf])
end
end Go.Proofs.YtahlgcidhnjlbaaGreat
namespace Go.Pv
section
open Go Go.RowKit
mutual
def bE:af->Nat
 | .slice _ _ []=>0
 | .slice _ _ (x::xs)=>1+(bE x+da xs)
 | .agg cs=>da cs
 |_=>0
def da:List af->Nat
 |[]=>0
 |x::xs=>bE x+da xs
end
mutual
def dv:Nat->af->af
 |_,.slice sz _ []=>.slice sz .no []
 |b,.slice sz _ (_::xs)=>.row sz (.obj b) (xs.length+1)
 |b,.agg cs=>.agg (fK b cs)
 |_,p=>p
def fK:Nat->List af->List af
 |_,[]=>[]
 |b,x::xs=>dv b x::fK (b+bE x) xs
end
mutual
def dQ(ε:Nat->Nat):Nat->af->List (aB×dW)
 |b,.slice sz _ (x::xs)=>(.obj b,⟨xs.length+1,ε b,sz,some (dv (b+1) x::fK (b+1+bE x) xs)⟩)::(dQ ε (b+1) x++gN ε (b+1+bE x) xs)
 |b,.agg cs=>gN ε b cs
 |_,_=>[]
def gN(ε:Nat->Nat):Nat->List af->List (aB×dW)
 |_,[]=>[]
 |b,x::xs=>dQ ε b x++gN ε (b+bE x) xs
end
def o6:∀(b:Nat) (xs:List af),(fK b xs).length=xs.length
 |_,[]=>rfl
 |b,x::xs=>by simp[fK,o6 _ xs]
mutual
def u1(ε:Nat->Nat):∀(p:af) (b:Nat) (k:aB) (o:dW),ae k (dQ ε b p)=some o->∃m,k= .obj m/\b<=m/\m<b+bE p
 | .slice sz t (x::xs),b,k,o,h=>by
  simp only[dQ,ae]at h;split at h
  ·rename_i e;exact⟨b,e.symm,dO _,by simp only[bE];omega⟩
  ·rw[n4]at h;simp only[bE];cases J:ae k (dQ ε (b+1) x)with
   |some y=>obtain⟨m,e,a,c⟩:=u1 ε x _ k y J;exact⟨m,e,Ω,Ω⟩
   |none=>rw[J]at h;obtain⟨m,e,a,c⟩:=B0 ε xs _ k o h;exact⟨m,e,Ω,Ω⟩
 | .agg cs,b,k,o,h=>by simp only[dQ,bE]at h⊢;exact B0 ε cs b k o h
 | .slice _ _ [],_,_,_,h=>by simp[dQ,ae]at h
 | .int _ _,_,_,_,h=>by simp[dQ,ae]at h
 | .bool _,_,_,_,h=>by simp[dQ,ae]at h
 | .str _,_,_,_,h=>by simp[dQ,ae]at h
 | .junk,_,_,_,h=>by simp[dQ,ae]at h
 | .ptr _ _,_,_,_,h=>by simp[dQ,ae]at h
 | .eptr _,_,_,_,h=>by simp[dQ,ae]at h
 | .iface _ _,_,_,_,h=>by simp[dQ,ae]at h
 | .nilp,_,_,_,h=>by simp[dQ,ae]at h
 | .tuple _,_,_,_,h=>by simp[dQ,ae]at h
 | .func _ _,_,_,_,h=>by simp[dQ,ae]at h
 | .gmap _,_,_,_,h=>by simp[dQ,ae]at h
 | .row _ _ _,_,_,_,h=>by simp[dQ,ae]at h
 | .rptr _ _ _ _ _,_,_,_,h=>by simp[dQ,ae]at h
 | .hdm _ _,_,_,_,h=>by simp[dQ,ae]at h
 | .hdi _ _ _,_,_,_,h=>by simp[dQ,ae]at h
 | .cst _,_,_,_,h=>by simp[dQ,ae]at h
def B0(ε:Nat->Nat):∀(a:List af) (b:Nat) (k:aB) (o:dW),ae k (gN ε b a)=some o->∃m,k= .obj m/\b<=m/\m<b+da a
 |[],_,_,_,h=>by simp[gN,ae]at h
 |x::xs,b,k,o,h=>by
  simp only[gN]at h;rw[n4]at h;simp only[da];cases J:ae k (dQ ε b x)with
  |some y=>obtain⟨m,e,c,d⟩:=u1 ε x _ k y J;exact⟨m,e,Ω,Ω⟩
  |none=>rw[J]at h;obtain⟨m,e,c,d⟩:=B0 ε xs _ k o h;exact⟨m,e,Ω,Ω⟩
end
structure uj (F:Nat->Prop) (ω:Nat->bd (Nat×Value)) (b c:Nat):Prop where
 dom:∀m,(ω m).isSome=true↔b<=m/\m<c
 blk:∀m n u,ω m=some (n,u)->∃bl,u.ownBlock=some bl/\F bl
 inj:∀m fT n n' u eJ bl,ω m=some (n,u)->ω fT=some (n',eJ)->u.ownBlock=some bl->eJ.ownBlock=some bl->m=fT
def vz(w:World)(ω:Nat->bd (Nat×Value))(e:List (aB×dW)):Prop:= ∀μ:bc,(∀m x,ω m=some x->μ.ow (.obj m)=some x)->
 ∀k o,ae k e=some o->∃u us,μ.ow k=some (o.n,u)/\w.ownsRow 0 o.el o.sz u o.n us/\∃xs,o.xs=some xs/\xs.length=o.n/\dw w μ o.sz xs us
def uj.nil(F:Nat->Prop)(b:Nat):uj F (fun _=>none) b b:=⟨fun m=>by simp,fun _ _ _ h=>(by cases h),fun _ _ _ _ _ _ _ h=>by cases h⟩
def wj(c:Nat)(b a:Nat->bd (Nat×Value))(m:Nat):bd (Nat×Value):=if m<c then b m else a m
def Xr{c:Nat}{a e:Nat->bd (Nat×Value)}{F:Nat->Prop}{b:Nat}(h:uj F a b c){m:Nat}{x:Nat×Value}(d:a m=some x):wj c a e m=some x:=by unfold wj;rw[if_pos ((h.dom m).1 (by rw[d];rfl)).2];exact d
def Xs{c d:Nat}{e a:Nat->bd (Nat×Value)}{F:Nat->Prop}(h:uj F a c d){m:Nat}{x:Nat×Value}(b:a m=some x):wj c e a m=some x:=by unfold wj;rw[if_neg (by have:=((h.dom m).1 (by rw[b];rfl)).1;omega)];exact b
def uj.join{F o l:Nat->Prop}{r q:Nat->bd (Nat×Value)}{b c d:Nat}(J:uj o r b c)(U:uj l q c d)(v:b<=c)(t:c<=d)(f1:∀x,o x->F x)(f2:∀x,l x->F x)(s:∀x,o x->¬l x):uj F (wj c r q) b d:=by
 refine⟨fun m=>?_,fun m n u hm=>?_,fun m h n n' u i bl hm f k j=>?_⟩
 ·unfold wj;split
  ·rw[J.dom];omega
  ·rw[U.dom];omega
 ·unfold wj at hm;split at hm
  ·obtain⟨bl,a,e⟩:=J.blk m n u hm;exact⟨bl,a,f1 _ e⟩
  ·obtain⟨bl,a,e⟩:=U.blk m n u hm;exact⟨bl,a,f2 _ e⟩
 ·unfold wj at hm f;split at hm<;>split at f
  ·exact J.inj m h n n' u i bl hm f k j
  ·obtain⟨_,a,e⟩:=J.blk m n u hm;obtain⟨_,g,p⟩:=U.blk h n' i f;rw[k]at a;rw[j]at g;cases a;cases g;exact absurd p (s _ e)
  ·obtain⟨_,a,e⟩:=U.blk m n u hm;obtain⟨_,g,p⟩:=J.blk h n' i f;rw[k]at a;rw[j]at g;cases a;cases g;exact absurd e (s _ p)
  ·exact U.inj m h n n' u i bl hm f k j
def vz.app{w:World}{ω:Nat->bd (Nat×Value)}{e c:List (aB×dW)}(h:vz w ω e)(d:vz w ω c):vz w ω (e++c):=fun μ b k o a=>by
 rw[n4]at a;cases J:ae k e with
 |some y=>rw[J]at a;cases a;exact h μ b k _ J
 |none=>rw[J]at a;exact d μ b k o a
def vz.sub{w:World}{ω a:Nat->bd (Nat×Value)}{e:List (aB×dW)}(h:vz w ω e)(c:∀m x,ω m=some x->a m=some x):vz w a e:=fun μ b=>h μ fun m x d=>b m x (c m x d)
def Vs{t:Bool}{w:World}{A:Nat->Nat->Prop}{sz:Nat}:∀{xs:List af} {F:Nat->Prop} {us:List Value},jX t w A F sz xs us->us.length=xs.length*sz
 |[],_,us,h=>by simp only[jX]at h;subst h;simp
 |x::xs,F,us,h=>by
  simp only[jX]at h;obtain⟨u,d,c,b,rfl,_,⟨_,U,_⟩,a⟩:=h;have:u.cells.toList.length=sz:=by simpa using U
  rw[qe,this,Vs a,mV,Nat.succ_mul];omega
def pI(w:World)(F:Nat->Prop)(b c:Nat)(e:(Nat->Nat)->List (aB×dW))(R:bc->Prop):Prop:=∃(ε:Nat->Nat) (ω:Nat->bd (Nat×Value)),uj F ω b c/\vz w ω (e ε)/\∀μ:bc,(∀m x,ω m=some x->μ.ow (.obj m)=some x)->R μ
def pI.flat{w:World}{F:Nat->Prop}{b:Nat}{R:bc->Prop}(h:∀μ,R μ):pI w F b b (fun _=>[]) R:=⟨fun _=>0,fun _=>none,uj.nil F b,fun _ _ k o a=>by simp[ae]at a,fun μ _=>h μ⟩
mutual
def JK{ε ε':Nat->Nat}:∀(p:af) (b:Nat),(∀m,b<=m->m<b+bE p->ε m=ε' m)->dQ ε b p=dQ ε' b p
 | .slice sz t (x::xs),b,h=>by simp only[bE]at h;simp only[dQ];rw[h b Ω Ω,JK x (b+1) fun m J U=>h m Ω Ω,FB xs (b+1+bE x) fun m J U=>h m Ω Ω]
 | .agg cs,b,h=>by simp only[dQ,bE]at h⊢;exact FB cs b h
 | .slice _ _ [],_,_=>rfl
 | .int _ _,_,_=>rfl
 | .bool _,_,_=>rfl
 | .str _,_,_=>rfl
 | .junk,_,_=>rfl
 | .ptr _ _,_,_=>rfl
 | .eptr _,_,_=>rfl
 | .iface _ _,_,_=>rfl
 | .nilp,_,_=>rfl
 | .tuple _,_,_=>rfl
 | .func _ _,_,_=>rfl
 | .gmap _,_,_=>rfl
 | .row _ _ _,_,_=>rfl
 | .rptr _ _ _ _ _,_,_=>rfl
 | .hdm _ _,_,_=>rfl
 | .hdi _ _ _,_,_=>rfl
 | .cst _,_,_=>rfl
def FB{ε ε':Nat->Nat}:∀(a:List af) (b:Nat),(∀m,b<=m->m<b+da a->ε m=ε' m)->gN ε b a=gN ε' b a
 |[],_,_=>rfl
 |x::xs,b,h=>by simp only[da]at h;simp only[gN];rw[JK x b fun m J U=>h m Ω Ω,FB xs (b+bE x) fun m J U=>h m Ω Ω]
end
def pI.two{w:World}{F d c:Nat->Prop}{x:af}{xs:List af}{b:Nat}{i h R:bc->Prop}(J:pI w d b (b+bE x) (fun ε=>dQ ε b x) i)(U:pI w c (b+bE x) (b+bE x+da xs) (fun ε=>gN ε (b+bE x) xs) h)
  (f1:∀b,d b->F b) (f2:∀b,c b->F b) (o:∀b,d b->¬c b) (bt:∀μ,i μ->h μ->R μ):pI w F b (b+(bE x+da xs)) (fun ε=>dQ ε b x++gN ε (b+bE x) xs) R:=by
 obtain⟨ε1,k,e,a2,a3⟩:=J;obtain⟨ε2,j,f,n,l⟩:=U;refine⟨fun m=>if m<b+bE x then ε1 m else ε2 m,wj (b+bE x) k j,by rw[<-Nat.add_assoc];exact e.join f Ω Ω f1 f2 o,?_,fun μ g=>bt μ (a3 μ fun m y a=>g m y (Xr e a)) (l μ fun m y a=>g m y (Xs f a))⟩;refine vz.app ?_ ?_
 ·rw[JK (ε':=ε1) x b fun m J U=>by rw[if_pos U]];exact a2.sub fun m y a=>Xr e a
 ·rw[FB (ε':=ε2) xs (b+bE x) fun m J U=>by rw[if_neg Ω]];exact n.sub fun m y a=>Xs f a
mutual
def QI{w:World}{A:Nat->Nat->Prop}:∀(p:af) (F:Nat->Prop) (v:Value) (b:Nat),cY true w A F p v->pI w F b (b+bE p) (fun ε=>dQ ε b p) fun μ=>aU w μ (dv b p) v
 | .int k n,F,v,b,h=>pI.flat fun μ=>by simpa only[cY,dv,aU]using h
 | .bool _,F,v,b,h=>pI.flat fun μ=>by simpa only[cY,dv,aU]using h
 | .str s,F,v,b,h=>pI.flat fun μ=>by simpa only[cY,dv,aU]using h
 | .slice sz tag [],F,v,b,h=>pI.flat fun μ=>by simp only[cY]at h;obtain⟨a,cap,J,U,z,_⟩:=h;simp only[dv,aU];exact⟨⟨a,cap,J,U,z,.inl trivial⟩,fun e=>(by cases e),fun _ e=>(by cases e),fun _ _ e=>(by cases e),fun _ e=>(by cases e)⟩
 | .agg cs,F,v,b,h=>by simp only[cY]at h;obtain⟨us,rfl,U⟩:=h;obtain⟨ε,ω,d,a2,a3⟩:=aca cs F us.toList b U;exact⟨ε,ω,d,a2,fun μ j=>by simp only[dv,aU];exact⟨us,rfl,a3 μ j⟩⟩
 | .slice sz tag (x::xs),F,v,b,h=>by
  simp only[cY]at h;obtain⟨a,cap,J,U,z,H⟩:=h;rcases H with H|⟨g,off,us,G,rfl,Y,P,X,W,O⟩
  ·cases H
  obtain⟨rfl,gj,el,l⟩:=W trivial;obtain⟨ε,ω,d,a2,a3⟩:=ab9 sz (x::xs) G us (b+1) O;have hlen:=Vs O;have Q:¬G g:=fun bf=>(P g bf).2 trivial rfl;have S:∃cur,w.heap[g]? =some (.cells cur el (0,0))/\cur.size=cap*sz:=by
   unfold shape at l;split at l
   ·rename_i cur gJ fz aw;simp only[dU,jo]at l;obtain⟨c,rfl,rfl⟩:=l;exact⟨cur,aw,c⟩
   ·cases l
  obtain⟨cur,aw,N⟩:=S;have hle:(x::xs).length*sz<=cur.size:=by rw[N];exact rT _ U
  have Z:cur.toList.take ((x::xs).length*sz)=us:=by
   apply List.ext_getElem?;intro i;rw[List.getElem?_take];by_cases hi:i<(x::xs).length*sz
   ·rw[if_pos hi];obtain⟨u,hu⟩:∃u,us[i]? =some u:=⟨_,cl (by rw[hlen];exact hi)⟩;have K:=(uW X hu).2;simp only[World.cell?,Nat.zero_add,aw,kf,hR,if_false]at K;rw[hu];simpa using K
   ·rw[if_neg hi,q0 (by rw[hlen];omega)]
  have E:∀m y,ω m=some y->m≠b:=fun m y hm e=>by have:=(d.dom m).1 (by rw[hm];rfl);omega
  refine⟨fun m=>if m=b then el else ε m,fun m=>if m=b then some ((x::xs).length,v)else ω m,?_,?_,?_⟩
  ·refine⟨fun m=>?_,fun m n u hm=>?_,fun m L n n' u M bl hm r B t=>?_⟩
   ·simp only[bE];by_cases e:m=b
    ·subst e;simp;omega
    ·rw[if_neg e,d.dom];simp only[da];omega
   ·split at hm
    ·cases hm;exact⟨g,by rw[J];rfl,Y⟩
    ·obtain⟨bl,c,f⟩:=d.blk m n u hm;exact⟨bl,c,(P bl f).1⟩
   ·split at hm<;>split at r
    ·rename_i c f;rw[c,f]
    ·cases hm;obtain⟨_,c,f⟩:=d.blk L n' M r;rw[t]at c;cases c;rw[J]at B;cases B;exact absurd f Q
    ·cases r;obtain⟨_,c,f⟩:=d.blk m n u hm;rw[B]at c;cases c;rw[J]at t;cases t;exact absurd f Q
    ·exact d.inj m L n n' u M bl hm r B t
  ·intro μ j k o q;have R:∀m y,ω m=some y->μ.ow (.obj m)=some y:=fun m y hm=>j m y ((if_neg (E m y hm)).trans hm);simp only[dQ,ae]at q;split at q
   ·rename_i Dy;subst Dy;cases q;refine⟨v,us,?_,⟨by rw[hlen];rfl,.inr ⟨g,cap,cur,J,Nat.zero_le _,by simpa using aw,U,z.1,N,Z⟩⟩,_,rfl,by simp[o6],?_⟩
    ·exact j b _ Ψ
    ·exact(a3 μ R)
   ·have V:(dQ (fun m=>if m=b then el else ε m) (b+1) x++gN (fun m=>if m=b then el else ε m) (b+1+bE x) xs)=gN ε (b+1) (x::xs):=by simp only[gN];rw[JK (ε':=ε) x (b+1) fun m J _=>by rw[if_neg Ω],FB (ε':=ε) xs (b+1+bE x) fun m J _=>by rw[if_neg Ω]]
    rw[V]at q;exact a2 μ R k o q
  ·intro μ j;simp only[dv,aU];exact⟨⟨g,cap,J⟩,z.2,(x::xs).length,v,j b _ Ψ,dO _,fun _=>rfl⟩
 | .junk,_,_,_,h=>by simp[cY]at h
 | .ptr _ _,_,_,_,h=>by simp[cY]at h
 | .eptr _,_,_,_,h=>by simp[cY]at h
 | .iface _ _,_,_,_,h=>by simp[cY]at h
 | .nilp,_,_,_,h=>by simp[cY]at h
 | .tuple _,_,_,_,h=>by simp[cY]at h
 | .func _ _,_,_,_,h=>by simp[cY]at h
 | .gmap _,_,_,_,h=>by simp[cY]at h
 | .row _ _ _,_,_,_,h=>by simp[cY]at h
 | .rptr _ _ _ _ _,_,_,_,h=>by simp[cY]at h
 | .hdm _ _,_,_,_,h=>by simp[cY]at h
 | .hdi _ _ _,_,_,_,h=>by simp[cY]at h
 | .cst _,_,_,_,h=>by simp[cY]at h
def aca{w:World}{A:Nat->Nat->Prop}:∀(cs:List af) (F:Nat->Prop) (us:List Value) (b:Nat),kE true w A F cs us->pI w F b (b+da cs) (fun ε=>gN ε b cs) fun μ=>cW w μ (fK b cs) us
 |[],F,us,b,h=>pI.flat fun μ=>by simpa only[kE,fK,cW]using h
 |c::cs,F,us,b,h=>by simp only[kE]at h;obtain⟨u,a,e,d,rfl,⟨f1,f2,f3⟩,⟨g1,g2⟩,g3⟩:=h;simp only[da,gN,fK];exact(QI c e u b g1).two (aca cs d a (b+bE c) g3) f1 f2 (f3 trivial) fun μ g f=>by simp only[cW];exact⟨u,a,rfl,⟨g,g2⟩,f⟩
def ab9{w:World}{A:Nat->Nat->Prop}(sz:Nat):∀(cs:List af) (F:Nat->Prop) (us:List Value) (b:Nat),jX true w A F sz cs us->pI w F b (b+da cs) (fun ε=>gN ε b cs) fun μ=>dw w μ sz (fK b cs) us
 |[],F,us,b,h=>pI.flat fun μ=>by simpa only[jX,fK,dw]using h
 |c::cs,F,us,b,h=>by simp only[jX]at h;obtain⟨u,a,e,d,rfl,⟨f1,f2,f3⟩,⟨g1,g2,g4⟩,g3⟩:=h;simp only[da,gN,fK];exact(QI c e u b g1).two (ab9 sz cs d a (b+bE c) g3) f1 f2 (f3 trivial) fun μ g f=>by simp only[dw];exact⟨u,a,rfl,⟨g,g2,g4⟩,f⟩
end
mutual
def cN:af->Prop
 | .int _ _=>True
 | .bool _=>True
 | .str _=>True
 | .slice sz _ xs=>0<sz/\dX xs
 | .agg cs=>dX cs
 |_=>eu
def dX:List af->Prop
 |[]=>True
 |x::xs=>cN x/\dX xs
end
def w9{α:Type}(f:α->af):∀l:List α,dX (l.map f)↔∀x∈l,cN (f x)
 |[]=>by simp[dX]
 |x::l=>by simp[dX,w9 f l]
mutual
def LJ{w:World}{ν:bc}{F:Nat->Prop}(f:∀b o,ν.A b o->F b):∀(p:af) (v:Value),aU w ν p v->cN p->cY false w ν.A F (b5 p) v
 | .int k n,v,h,_=>by simpa only[aU,b5,cY]using h
 | .bool b,v,h,_=>by simpa only[aU,b5,cY]using h
 | .str s,v,h,_=>by simpa only[aU,b5,cY]using h
 | .slice sz tag xs,v,h,d=>by
  simp only[aU]at h;simp only[cN]at d;obtain⟨⟨a,cap,J,U,m,t⟩,_⟩:=h;simp only[b5,cY,nF];refine⟨a,cap,J,U,m,?_⟩;rcases t with rfl|⟨b,off,us,q,j,g⟩
  ·exact .inl rfl
  ·cases xs with
   |nil=>exact .inl rfl
   |cons x xs=>
    have l:=rJ g;have r:F b:=by
     cases us with
     |nil=>have i:0<(x::xs).length*sz:=Nat.mul_pos Ψ d.1;rw[<-l]at i;simp at i
     |cons u us=>exact f b _ j.1.1
    exact .inr ⟨b,off,us,F,q,r,fun c aw=>⟨aw,fun e=>(by cases e)⟩,j,fun e=>(by cases e),Ur f sz _ us g d.2⟩
 | .agg cs,v,h,d=>by simp only[aU,cN,b5,cY]at h d⊢;obtain⟨us,J,U⟩:=h;exact⟨us,J,Us f cs _ U d⟩
 | .junk,_,_,d=>by simp[cN]at d
 | .ptr _ _,_,_,d=>by simp[cN]at d
 | .eptr _,_,_,d=>by simp[cN]at d
 | .iface _ _,_,_,d=>by simp[cN]at d
 | .nilp,_,_,d=>by simp[cN]at d
 | .tuple _,_,_,d=>by simp[cN]at d
 | .func _ _,_,_,d=>by simp[cN]at d
 | .gmap _,_,_,d=>by simp[cN]at d
 | .row _ _ _,_,_,d=>by simp[cN]at d
 | .rptr _ _ _ _ _,_,_,d=>by simp[cN]at d
 | .hdm _ _,_,_,d=>by simp[cN]at d
 | .hdi _ _ _,_,_,d=>by simp[cN]at d
 | .cst _,_,_,d=>by simp[cN]at d
def Us{w:World}{ν:bc}{F:Nat->Prop}(d:∀b o,ν.A b o->F b):∀(cs:List af) (us:List Value),cW w ν cs us->dX cs->kE false w ν.A F (cf cs) us
 |[],us,h,_=>by simpa only[cW,cf,kE]using h
 |c::cs,us,h,a=>by simp only[cW,dX,cf,kE]at h a⊢;obtain⟨u,f,J,⟨U,g⟩,i⟩:=h;exact⟨u,f,F,F,J,⟨fun _ h=>h,fun _ h=>h,fun e=>(by cases e)⟩,⟨LJ d c u U a.1,g⟩,Us d cs f i a.2⟩
def Ur{w:World}{ν:bc}{F:Nat->Prop}(d:∀b o,ν.A b o->F b)(sz:Nat):∀(cs:List af) (us:List Value),dw w ν sz cs us->dX cs->jX false w ν.A F sz (cf cs) us
 |[],us,h,_=>by simpa only[dw,cf,jX]using h
 |c::cs,us,h,a=>by simp only[dw,dX,cf,jX]at h a⊢;obtain⟨u,f,J,⟨U,g⟩,i⟩:=h;exact⟨u,f,F,F,J,⟨fun _ h=>h,fun _ h=>h,fun e=>(by cases e)⟩,⟨LJ d c u U a.1,g⟩,Ur d sz cs f i a.2⟩
end
def Yi{w:World}{μ:bc}{k:aB}{sz:Nat}{tag:jF}{ys:List af}{v:Value}(h:cY false w μ.A (μ.tr k 0) (.slice sz tag ys) v)(a:cf ys=ys):aU w μ (.slice sz (.lo k) ys) v:=by have J:=Hq (ν:=μ) (fun _ _ h=>h) _ _ _ h;simp only[b5,a]at J;simp only[aU]at J⊢;refine⟨J.1,fun e=>(by cases e),fun _ e=>(by cases e),fun _ _ e=>(by cases e),fun bs e=>?_⟩;cases e;simp only[cY]at h⊢;exact h
mutual
def lB:af->af
 | .int k n=>.int k n
 | .bool b=>.bool b
 | .str s=>.str s
 | .slice sz _ xs=>.slice sz (.lo ei) (cf xs)
 | .agg cs=>.agg (yj cs)
 | .ptr k o=>.ptr k o
 | .nilp=>.nilp
 |_=>.junk
def yj:List af->List af
 |[]=>[]
 |x::xs=>lB x::yj xs
end
mutual
def yk:af->Prop
 | .slice sz _ xs=>0<sz/\dX xs
 | .agg cs=>Af cs
 |_=>True
def Af:List af->Prop
 |[]=>True
 |x::xs=>yk x/\Af xs
end
def CJ(ν:bc):bc:={ν with tr:=fun k j b=>k=ei/\j=0/\∃o,ν.A b o}
mutual
def aby{w:World}{ν:bc}:∀(p:af) (v:Value),aU w ν p v->yk p->aU w (CJ ν) (lB p) v
 | .int k n,v,h,_=>by simpa only[aU,lB]using h
 | .bool b,v,h,_=>by simpa only[aU,lB]using h
 | .str s,v,h,_=>by simpa only[aU,lB]using h
 | .slice sz tag xs,v,h,a=>by have J:=LJ (F:=fun b=> ∃o,ν.A b o) (fun b o h=>⟨o,h⟩) _ v h (by simpa only[cN,yk]using a);simp only[lB];refine Yi (μ:=CJ ν) (tag:= .no) ?_ (vf xs);simp only[b5]at J;exact vQ (fun _ _ h=>⟨h,rfl⟩) (fun _ _ _=>rfl) _ _ _ v (fun b c=>⟨rfl,rfl,c⟩) J
 | .agg cs,v,h,a=>by simp only[aU,lB,yk]at h a⊢;obtain⟨us,J,U⟩:=h;exact⟨us,J,Qd cs _ U a⟩
 | .ptr k o,v,h,_=>by simp only[aU,lB]at h⊢;exact h
 | .nilp,v,h,_=>by simp only[aU,lB]at h⊢;exact h
 | .junk,_,_,_=>by simp[lB,aU]
 | .eptr _,_,_,_=>by simp[lB,aU]
 | .iface _ _,_,_,_=>by simp[lB,aU]
 | .tuple _,_,_,_=>by simp[lB,aU]
 | .func _ _,_,_,_=>by simp[lB,aU]
 | .gmap _,_,_,_=>by simp[lB,aU]
 | .row _ _ _,_,_,_=>by simp[lB,aU]
 | .rptr _ _ _ _ _,_,_,_=>by simp[lB,aU]
 | .hdm _ _,_,_,_=>by simp[lB,aU]
 | .hdi _ _ _,_,_,_=>by simp[lB,aU]
 | .cst _,_,_,_=>by simp[lB,aU]
def Qd{w:World}{ν:bc}:∀(cs:List af) (us:List Value),cW w ν cs us->Af cs->cW w (CJ ν) (yj cs) us
 |[],us,h,_=>by simpa only[cW,yj]using h
 |c::cs,us,h,a=>by simp only[cW,yj,Af]at h a⊢;obtain⟨u,b,J,⟨U,d⟩,e⟩:=h;exact⟨u,b,J,⟨aby c u U a.1,d⟩,Qd cs b e a.2⟩
end
def JQ(l:List (Nat×af)):List (Nat×af):=l.map fun x=>(x.1,lB x.2)
def FF(l:List (aB×List af)):List (aB×List af):=l.map fun x=>(x.1,yj x.2)
def wN(st:bp):bp:=⟨JQ st.t,FF st.b,[],st.n,ei::st.o⟩
def JP:List (Nat×af)->Prop
 |[]=>True
 |(_,p)::r=>yk p/\JP r
def JO:List (aB×List af)->Prop
 |[]=>True
 |(_,cs)::r=>(gV cs=true/\Af cs)/\JO r
def JN(st:bp):Prop:=ei∉st.o/\JP st.t/\JO st.b
def Ms{f:af->af}(a:f .junk= .junk)(i:Nat):∀l:List (Nat×af),get i (l.map fun x=>(x.1,f x.2))=f (get i l)
 |[]=>by simp[get,a]
 |(j,p)::r=>by
  simp only[gY,get];split
  ·rfl
  ·exact Ms a i r
def IB{f:List af->List af}(k:aB):∀l:List (aB×List af),ae k (l.map fun x=>(x.1,f x.2))=(ae k l).map f
 |[]=>rfl
 |(j,p)::r=>by
  simp only[gY,ae];split
  ·rfl
  ·exact IB k r
def abx:∀{l:List (Nat×af)} (i:Nat),JP l->yk (get i l)
 |[],_,_=>by simp[get,yk]
 |(j,p)::r,i,h=>by
  simp only[get];split
  ·exact h.1
  ·exact abx i h.2
def abw:∀{l:List (aB×List af)} {k:aB} {cs:List af},JO l->ae k l=some cs->gV cs=true/\Af cs
 |[],_,_,_,h=>by simp[ae]at h
 |(j,p)::r,k,cs,h,a=>by
  simp only[ae]at a;split at a
  ·cases a;exact h.1
  ·exact abw h.2 a
def aqJ{C:fm}{st:bp}{a:Act}{w:World}{ν:bc}(h:c9 C st a w ν)(aw:JN st):c9 C (wN st) a w (CJ ν):=by
 obtain⟨G,F,B⟩:=aw;obtain⟨y,z,_⟩:=h.new ei ⟨trivial,G⟩;have p:∀k cs,ae k (FF st.b)=some cs->∃d,ae k st.b=some d/\cs=yj d:=fun k cs c=>by
  rw[FF,IB]at c;cases t:ae k st.b with
  |none=>rw[t]at c;cases c
  |some d=>rw[t]at c;cases c;exact⟨d,rfl,rfl⟩
 have m:∀k,(ae k (FF st.b)).isSome->(ae k st.b).isSome:=fun k c=>by obtain⟨cs,A⟩:=fx.1 c;obtain⟨d,e,_⟩:=p k cs A;simp[e]
 refine⟨⟨h.good.alt,fun k cs c=>?_,fun k bs bl J U=>h.good.inj k bs bl (m k J) (m bs U),fun g o bf=>by simp[wN,ae]at bf,fun g N n n' v v' bl bf=>by simp[wN,ae]at bf,fun g k n v bl bf=>by simp[wN,ae]at bf,h.good.one,fun bl K k j f=>?_⟩,
  ⟨h.fr.os,h.fr.tape,h.fr.output,h.fr.size,h.fr.block,h.fr.keep,h.fr.fresh,h.fr.obj,h.fr.obn,h.fr.row,h.fr.obr,fun k j bs dh b J U=>⟨J.1.trans U.1.symm,J.2.1.trans U.2.1.symm⟩,fun k j b f=>⟨.inl f.1,?_⟩,fun k j b f=>by rw[f.1];exact⟨y,z⟩,h.fr.sh⟩,h.defers,h.size,fun i=>?_,fun k c=>?_⟩
 ·obtain⟨d,l,rfl⟩:=p k cs c;obtain⟨bl,us,el,g1,g2,g3,g4,g5⟩:=h.good.box k d l;obtain⟨r,E⟩:=abw B l;rw[pk r]at g5;rw[pj r]at g4;have g6:=Qd d _ g5 E;have q:=wI g6;exact⟨bl,us,el,g1,g2,g3,by rw[pj q];exact g4,by rw[pk q];exact g6⟩
 ·obtain⟨_,_,o,ar⟩:=f;rcases K with⟨bs,l,u⟩|⟨g,n,v,l,_⟩
  ·obtain⟨d,x⟩:=fx.1 (m bs l);obtain⟨M,us,el,g1,g2,g3,_⟩:=h.good.box bs d x;rw[show(CJ ν).bx bs=ν.bx bs from rfl,g1]at u;cases u;exact g3 o ar
  ·simp[wN,ae]at l
 ·obtain⟨_,_,o,ar⟩:=f;exact h.good.alt b o ar
 ·show aU w (CJ ν) (get i (JQ st.t)) _;rw[JQ,Ms (by simp[lB])];exact aby _ _ (h.slot i) (abx i F)
 ·obtain⟨L,H⟩:=c;have s:k≠ei/\k∉st.o:=by simpa[wN]using H
  obtain⟨m1,m2,_⟩:=h.new k ⟨L,s.2⟩;exact⟨m1,m2,fun j b f=>s.1 f.1⟩
end
section
open Go Go.RowKit
def X7{w:World}{A a:Nat->Nat->Prop}{b:Nat}(c:∀o,A b o->a b o):∀(us:List Value) (off:Nat),kY w A b off us->kY w a b off us
 |[],_,_=>trivial
 |_::us,off,h=>⟨⟨c _ h.1.1,h.1.2⟩,X7 c us (off+1) h.2⟩
mutual
def Hp{t:Bool}{w:World}{A f:Nat->Nat->Prop}:∀(p:af) (F:Nat->Prop) (v:Value),(∀b o,F b->A b o->f b o)->cY t w A F p v->cY t w f F p v
 | .int k n,_,_,_,h=>by simp only[cY]at h⊢;exact h
 | .bool b,_,_,_,h=>by simp only[cY]at h⊢;exact h
 | .str s,_,_,_,h=>by simp only[cY]at h⊢;exact h
 | .slice sz tag xs,F,v,d,h=>by
  simp only[cY]at h⊢;obtain⟨a,cap,J,U,q,e⟩:=h;refine⟨a,cap,J,U,q,?_⟩;rcases e with e|⟨b,off,us,G,r,i,g,m,l,j⟩
  ·exact .inl e
  ·exact .inr ⟨b,off,us,G,r,i,g,X7 (fun o=>d b o i) _ _ m,l,Vw sz xs G us (fun c o aw=>d c o (g c aw).1) j⟩
 | .agg cs,F,v,d,h=>by simp only[cY]at h⊢;obtain⟨us,J,U⟩:=h;exact⟨us,J,Vx cs F _ d U⟩
 | .junk,_,_,_,h=>by simp[cY]at h
 | .ptr _ _,_,_,_,h=>by simp[cY]at h
 | .eptr _,_,_,_,h=>by simp[cY]at h
 | .iface _ _,_,_,_,h=>by simp[cY]at h
 | .nilp,_,_,_,h=>by simp[cY]at h
 | .tuple _,_,_,_,h=>by simp[cY]at h
 | .func _ _,_,_,_,h=>by simp[cY]at h
 | .gmap _,_,_,_,h=>by simp[cY]at h
 | .row _ _ _,_,_,_,h=>by simp[cY]at h
 | .rptr _ _ _ _ _,_,_,_,h=>by simp[cY]at h
 | .hdm _ _,_,_,_,h=>by simp[cY]at h
 | .hdi _ _ _,_,_,_,h=>by simp[cY]at h
 | .cst _,_,_,_,h=>by simp[cY]at h
def Vx{t:Bool}{w:World}{A f:Nat->Nat->Prop}:∀(cs:List af) (F:Nat->Prop) (us:List Value),(∀b o,F b->A b o->f b o)->kE t w A F cs us->kE t w f F cs us
 |[],_,_,_,h=>by simp only[kE]at h⊢;exact h
 |c::cs,F,us,g,h=>by simp only[kE]at h⊢;obtain⟨u,i,e,d,J,⟨U,j,n⟩,⟨m,l⟩,k⟩:=h;exact⟨u,i,e,d,J,⟨U,j,n⟩,⟨Hp c e u (fun b o a=>g b o (U b a)) m,l⟩,Vx cs d i (fun b o a=>g b o (j b a)) k⟩
def Vw{t:Bool}{w:World}{A f:Nat->Nat->Prop}(sz:Nat):∀(cs:List af) (F:Nat->Prop) (us:List Value),(∀b o,F b->A b o->f b o)->jX t w A F sz cs us->jX t w f F sz cs us
 |[],_,_,_,h=>by simp only[jX]at h⊢;exact h
 |c::cs,F,us,g,h=>by simp only[jX]at h⊢;obtain⟨u,i,e,d,J,⟨U,j,n⟩,⟨m,l⟩,k⟩:=h;exact⟨u,i,e,d,J,⟨U,j,n⟩,⟨Hp c e u (fun b o a=>g b o (U b a)) m,l⟩,Vw sz cs d i (fun b o a=>g b o (j b a)) k⟩
end
mutual
def jH(N:List (aB×Nat)):af->af
 | .int k n=>.int k n
 | .bool b=>.bool b
 | .str s=>.str s
 | .slice sz tag xs=>match tag with
  | .tr k j=>if(k,j)∈N then .junk else .slice sz (.tr k j) (cf xs)
  | .lo k=>if(k,0)∈N then .junk else .slice sz (.lo k) (cf xs)
  | .nil=>.slice sz .nil []
  |_=>match xs with
   |[]=>.slice sz .no []
   |_=>.junk
 | .agg cs=>.agg (ot N cs)
 | .tuple cs=>.tuple (ot N cs)
 | .ptr k o=>.ptr k o
 | .nilp=>.nilp
 |_=>.junk
def ot(N:List (aB×Nat)):List af->List af
 |[]=>[]
 |x::xs=>jH N x::ot N xs
end
def l2(ν:bc)(N:List (aB×Nat))(ω:Nat->bd (Nat×Value)):bc:={A:=fun b o=>ν.A b o/\¬ly ν N b,bx:=ν.bx,ow:=fun k=>match k with| .obj m=>(match ω m with|some x=>some x|none=>ν.ow k)|k=>ν.ow k,tr:=fun k j b=>ν.tr k j b/\(k,j)∉N}
section
variable {w:World} {ν:bc} {N:List (aB×Nat)} {ω:Nat->bd (Nat×Value)} (hM:∀k j bs dh b,ν.tr k j b->ν.tr bs dh b->k=bs/\j=dh)
include hM
theorem ab8{k:aB}{j:Nat}(d:(k,j)∉N){b o:Nat}(c:ν.tr k j b)(a:ν.A b o):(l2 ν N ω).A b o:=by refine⟨a,?_⟩;rintro⟨bs,dh,J,U⟩;obtain⟨rfl,rfl⟩:=hM k j bs dh b c U;exact d J
mutual
theorem KN:∀(p:af) (v:Value),aU w ν p v->aU w (l2 ν N ω) (jH N p) v
 | .int k n,v,h=>by simpa only[aU,jH]using h
 | .bool b,v,h=>by simpa only[aU,jH]using h
 | .str s,v,h=>by simpa only[aU,jH]using h
 | .slice sz tag xs,v,h=>by
  simp only[aU]at h;obtain⟨⟨a,cap,J,U,r,t⟩,q,_,m,l⟩:=h;have i:xs=[]->aU w (l2 ν N ω) (.slice sz .no []) v:=fun e=>by subst e;simp only[aU];exact⟨⟨a,cap,J,U,r,.inl trivial⟩,fun e=>(by cases e),fun _ e=>(by cases e),fun _ _ e=>(by cases e),fun _ e=>(by cases e)⟩
  simp only[jH];cases tag with
  |tr k j=>
   simp only;split
   ·simp[aU]
   ·rename_i d;refine QM (tag:= .no) ?_ (vf xs);refine vQ (A:=(l2 ν N ω).A) (fun _ _ h=>⟨h,rfl⟩) (fun _ _ _=>rfl) _ (ν.tr k j) _ v (fun b c=>⟨c,d⟩) ?_;exact Hp _ _ v (fun b o c f=>ab8 hM d c f) (DP .no v (m k j rfl))
  |lo k=>
   simp only;split
   ·simp[aU]
   ·rename_i d;refine Yi (tag:= .no) ?_ (vf xs);refine vQ (A:=(l2 ν N ω).A) (fun _ _ h=>⟨h,rfl⟩) (fun _ _ _=>rfl) _ (ν.tr k 0) _ v (fun b c=>⟨c,d⟩) ?_;exact Hp _ _ v (fun b o c f=>ab8 hM d c f) (DP .no v (l k rfl))
  |nil=>have e:=q rfl;subst e;simp only[aU];exact⟨⟨none,0,rfl,Ψ,Ψ,Ψ⟩,Ψ,fun _ e=>(by cases e),fun _ _ e=>(by cases e),fun _ e=>(by cases e)⟩
  |no=>
   simp only;split
   ·exact i rfl
   ·simp[aU]
  |own g=>
   simp only;split
   ·exact i rfl
   ·simp[aU]
 | .agg cs,v,h=>by simp only[aU,jH]at h⊢;obtain⟨us,J,U⟩:=h;exact⟨us,J,KO cs _ U⟩
 | .tuple cs,v,h=>by simp only[aU,jH]at h⊢;obtain⟨us,J,U⟩:=h;exact⟨us,J,RF cs _ U⟩
 | .ptr k o,v,h=>by simp only[aU,jH]at h⊢;exact h
 | .nilp,v,h=>by simp only[aU,jH]at h⊢;exact h
 | .junk,_,_=>by simp[jH,aU]
 | .eptr _,_,_=>by simp[jH,aU]
 | .iface _ _,_,_=>by simp[jH,aU]
 | .func _ _,_,_=>by simp[jH,aU]
 | .gmap _,_,_=>by simp[jH,aU]
 | .row _ _ _,_,_=>by simp[jH,aU]
 | .rptr _ _ _ _ _,_,_=>by simp[jH,aU]
 | .hdm _ _,_,_=>by simp[jH,aU]
 | .hdi _ _ _,_,_=>by simp[jH,aU]
 | .cst _,_,_=>by simp[jH,aU]
theorem KO:∀(cs:List af) (us:List Value),cW w ν cs us->cW w (l2 ν N ω) (ot N cs) us
 |[],us,h=>by simpa only[cW,ot]using h
 |c::cs,us,h=>by simp only[cW,ot]at h⊢;obtain⟨u,a,J,⟨U,b⟩,d⟩:=h;exact⟨u,a,J,⟨KN c u U,b⟩,KO cs a d⟩
theorem RF:∀(cs:List af) (us:List Value),c7 w ν cs us->c7 w (l2 ν N ω) (ot N cs) us
 |[],us,h=>by simpa only[c7,ot]using h
 |c::cs,us,h=>by simp only[c7,ot]at h⊢;obtain⟨u,a,J,U,b⟩:=h;exact⟨u,a,J,KN c u U,RF cs a b⟩
end
end
end
section
open Go Go.RowKit
def uq(N:List (aB×Nat))(l:List (Nat×af)):List (Nat×af):=l.map fun x=>(x.1,jH N x.2)
def sS(N:List (aB×Nat))(l:List (aB×List af)):List (aB×List af):=l.map fun x=>(x.1,ot N x.2)
def Cr:List (aB×List af)->Prop
 |[]=>True
 |(_,cs)::r=>gV cs=true/\Cr r
def Pl:∀{l:List (aB×List af)} {k:aB} {cs:List af},Cr l->ae k l=some cs->gV cs=true
 |[],_,_,_,h=>by simp[ae]at h
 |(j,p)::r,k,cs,h,a=>by
  simp only[ae]at a;split at a
  ·cases a;exact h.1
  ·exact Pl h.2 a
def qW(st:bp)(s:Nat):af:=match get s st.t with
 | .ptr k 0=>(match ae k st.b with|some cs=>.agg cs|none=>.junk)
 |p=>p
def FW(base n:Nat):List aB:=(List.range' base n).map .obj
def sH(st:bp)(p:af)(base:Nat)(ε:Nat->Nat):bp:=⟨uq (tn p) st.t,sS (tn p) st.b,dQ ε base (b5 p),st.n,FW base (bE (b5 p))++st.o⟩
def sI(st:bp)(s base:Nat)(ε:Nat->Nat):bp:=match get s st.t with
 | .ptr k 0=>(match ae k st.b with|some cs=>{sH st (.agg cs) base ε with b:=cJ k (fK base (cf cs)) (sS (tn (.agg cs)) st.b)}|none=>sH st .junk base ε)
 |p=>{sH st p base ε with t:=put s (dv base (b5 p)) (uq (tn p) st.t)}
def Ap(st:bp)(p:af)(base:Nat):Prop:=fq p/\(tn p).Nodup/\(∀m,.obj m∈st.o->m<base)/\Cr st.b
def Yx{base n:Nat}{k:aB}:k∈FW base n↔∃m,k= .obj m/\base<=m/\m<base+n:=by simp only[FW,gZ,List.mem_range'_1];exact⟨fun⟨m,h,e⟩=>⟨m,e.symm,h⟩,fun⟨m,e,h⟩=>⟨m,h,e.symm⟩⟩
def adZ(N:List (aB×Nat))(p:af):(match jH N p with| .hdm _ _=>false| .hdi _ _ _=>false|_=>true)=true:=by
 cases p with
 |slice sz tag xs=>
  cases tag with
  |tr k j=>by_cases e:(k,j)∈N<;>simp[jH,e]
  |lo k=>by_cases e:(k,0)∈N<;>simp[jH,e]
  |_=>cases xs<;>rfl
 |_=>rfl
def apr(N:List (aB×Nat)):∀cs,gV (ot N cs)=true
 |[]=>rfl
 |c::cs=>by have:=adZ N c;simp only[ot];cases h:jH N c<;>simp_all[gV]
def aqu{C:fm}{st:bp}{a:Act}{w:World}{ν:bc}(h:c9 C st a w ν){k:aB}{cs cs':List af}(l:ae k st.b=some cs)(i:gV cs=true)
  (q:∀bl us el,ν.bx k=some bl->w.heap[bl]? =some (.cells us el)->cW w ν cs us.toList->cW w ν cs' us.toList):c9 C {st with b:=cJ k cs' st.b} a w ν:=by
 have d:∀j,(ae j (cJ k cs' st.b)).isSome->(ae j st.b).isSome:=fun j c=>by
  rw[jk]at c;split at c
  ·rename_i e;subst e;simp[l]
  ·exact c
 refine⟨⟨h.good.alt,fun j m c=>?_,fun j dh bl J U=>h.good.inj j dh bl (d j J) (d dh U),h.good.own,h.good.oinj,fun g j n v bl J U=>h.good.obx g j n v bl J (d j U),h.good.one,fun bl p=>h.good.otr bl (p.imp (fun⟨j,o,r⟩=>⟨j,d j o,r⟩) id)⟩,h.fr,h.defers,h.size,h.slot,h.new⟩;rw[jk]at c;split at c
 ·rename_i e;subst e;cases c;obtain⟨bl,us,el,g1,g2,g3,g4,g5⟩:=h.good.box k cs l;rw[pk i]at g5;rw[pj i]at g4;have g6:=q bl us el g1 g4 g5;have f:=wI g6;exact⟨bl,us,el,g1,g2,g3,by rw[pj f];exact g4,by rw[pk f];exact g6⟩
 ·exact h.good.box j m c
def ab7{C:fm}{st:bp}{a:Act}{w:World}{ν:bc}(h:c9 C st a w ν)(bA:∀b o,C.ν0.A b o->b<C.w0.heap.size){p:af}{v:Value}{base:Nat}(bN:aU w ν p v)(aw:Ap st p base):
  ∃ε bn,c9 C (sH st p base ε) a w bn/\aU w bn (dv base (b5 p)) v/\bn.bx=ν.bx:=by
 obtain⟨bQ,cn,dj,h6⟩:=aw;obtain⟨ε,ω,F,tr,S⟩:=QI (b5 p) _ v base (OV h.fr.trd p v bN bQ cn);have lT:∀m,base<=m->fresh st.n st.o (.obj m):=fun m hm=>⟨trivial,fun c=>by have:=dj m c;omega⟩;have W:∀m x,ω m=some x->ν.bx (.obj m)=none/\ν.ow (.obj m)=none/\∀j b,¬ν.tr (.obj m) j b:=fun m x hm=>h.new _ (lT m ((F.dom m).1 (by rw[hm];rfl)).1);have A:∀m x,ω m=some x->(l2 ν (tn p) ω).ow (.obj m)=some x:=fun m x hm=>by simp only[l2,hm]
 have hold:∀k n u,ν.ow k=some (n,u)->(l2 ν (tn p) ω).ow k=some (n,u):=fun k n u c=>by
  cases k with
  |loc m=>exact c
  |obj m=>
   simp only[l2];cases hm:ω m with
   |none=>exact c
   |some x=>rw[(W m x hm).2.1]at c;cases c
 have H:∀k n u,(l2 ν (tn p) ω).ow k=some (n,u)->ν.ow k=some (n,u)\/ ∃m,k= .obj m/\ω m=some (n,u):=fun k n u c=>by
  cases k with
  |loc m=>exact .inl c
  |obj m=>
   simp only[l2]at c;cases hm:ω m with
   |none=>rw[hm]at c;exact .inl c
   |some x=>rw[hm]at c;exact .inr ⟨m,rfl,by rw[<-c];exact hm⟩
 have Z:∀bl,ly ν (tn p) bl->C.w0.heap.size<=bl:=fun bl ⟨k,j,f,l⟩=>by have c:k≠ei:=Zb p bQ _ f;exact(h.fr.trb k j bl l).1.resolve_left c
 have K:∀g o,ae g (dQ ε base (b5 p))=some o->∃m,g= .obj m/\base<=m/\m<base+bE (b5 p)/\∃u us,ω m=some (o.n,u)/\w.ownsRow 0 o.el o.sz u o.n us/\∃xs,o.xs=some xs/\xs.length=o.n/\dw w (l2 ν (tn p) ω) o.sz xs us:=fun g o bf=>by
  obtain⟨m,e,L,Q⟩:=u1 ε _ base g o bf;obtain⟨u,us,s,z,y⟩:=tr (l2 ν (tn p) ω) A g o bf;subst e;refine⟨m,rfl,L,Q,u,us,?_,z,y⟩;rcases H _ _ _ s with q|⟨O,q,ho⟩
  ·rw[(h.new _ (lT m L)).2.1]at q;cases q
  ·cases q;exact ho
 have hW:∀k cs,ae k (sS (tn p) st.b)=some cs->∃t,ae k st.b=some t/\cs=ot (tn p) t:=fun k cs c=>by
  rw[sS,IB]at c;cases av:ae k st.b with
  |none=>rw[av]at c;cases c
  |some t=>rw[av]at c;cases c;exact⟨t,rfl,rfl⟩
 have G:∀k,(ae k (sS (tn p) st.b)).isSome->(ae k st.b).isSome:=fun k c=>by obtain⟨cs,dz⟩:=fx.1 c;obtain⟨t,e,_⟩:=hW k cs dz;simp[e]
 have X:∀g n v bl,(ae g (dQ ε base (b5 p))).isSome->(l2 ν (tn p) ω).ow g=some (n,v)->v.ownBlock=some bl->ly ν (tn p) bl:=fun g n v bl J U E=>by obtain⟨o,ar⟩:=fx.1 J;obtain⟨m,rfl,L,Q,u,us,s,z,y⟩:=K g o ar;rw[A m _ s]at U;cases U;obtain⟨B,f,l⟩:=F.blk m _ _ s;rw[E]at f;cases f;exact l
 refine⟨ε,l2 ν (tn p) ω,⟨⟨fun bl o r=>h.good.alt bl o r.1,fun k cs c=>?_,fun k bs bl J U=>h.good.inj k bs bl (G k J) (G bs U),fun g o bf=>?_,fun g fD n n' v v' bl J U E M R di=>?_,fun g k n v bl J U E M R=>?_,fun k=>?_,fun bl aJ k j d=>?_⟩,
  ⟨h.fr.os,h.fr.tape,h.fr.output,h.fr.size,h.fr.block,fun b o r=>⟨⟨(h.fr.keep b o r).1,fun d=>?_⟩,(h.fr.keep b o r).2⟩,fun b o r=>h.fr.fresh b o r.1,h.fr.obj,h.fr.obn,fun m n u hm=>?_,h.fr.obr,fun k j bs dh b J U=>h.fr.trd k j bs dh b J.1 U.1,fun k j b d=>h.fr.trb k j b d.1,fun k j b d=>⟨(h.fr.trn k j b d.1).1,?_⟩,h.fr.sh⟩,h.defers,h.size,fun i=>?_,fun k c=>?_⟩,S _ A,rfl⟩
 ·obtain⟨t,f,rfl⟩:=hW k cs c;obtain⟨bl,us,el,g1,g2,g3,g4,g5⟩:=h.good.box k t f;have c2:=Pl h6 f;rw[pk c2]at g5;rw[pj c2]at g4;have g6:=KO (N:=tn p) (ω:=ω) h.fr.trd t _ g5;have hG:=wI g6;exact⟨bl,us,el,g1,g2,fun o r=>g3 o r.1,by rw[pj hG];exact g4,by rw[pk hG];exact g6⟩
 ·obtain⟨m,rfl,L,Q,u,us,s,z,xs,y,dq,dK⟩:=K g o bf;obtain⟨bl,f,l⟩:=F.blk m _ _ s;have dB:∀B,u.ownBlock=some B->∀j,¬(l2 ν (tn p) ω).A B j:=fun B d j r=>by rw[f]at d;cases d;exact r.2 l
  exact⟨u,us,A m _ s,z,fun B d=>⟨.inr (by rw[f]at d;cases d;exact Z _ l),fun j r=>absurd r (dB B d j)⟩,fun xs' ad=>by rw[y]at ad;cases ad;exact⟨dq,dK,dB⟩⟩
 ·obtain⟨o,ar⟩:=fx.1 J;obtain⟨o',h8⟩:=fx.1 U;obtain⟨m,rfl,_,_,u,us,s,_⟩:=K g o ar;obtain⟨O,rfl,_,_,eJ,b1,Y,_⟩:=K fD o' h8;rw[A m _ s]at E;cases E;rw[A O _ Y]at M;cases M;rw[F.inj m O _ _ _ _ bl s Y R di]
 ·obtain⟨P,V,_,l⟩:=X g n v bl J E M;exact h.good.otr bl (.inl ⟨k,G k U,R⟩) P V l
 ·rcases h.good.one k with J|J
  ·exact .inl J
  ·cases c:(l2 ν (tn p) ω).ow k with
   |none=>exact .inr rfl
   |some x=>
    rcases H k x.1 x.2 c with U|⟨m,rfl,U⟩
    ·rw[J]at U;cases U
    ·exact .inl (W m _ U).1
 ·rcases aJ with⟨bs,f,l⟩|⟨g,n,v,f,l,bh⟩
  ·exact h.good.otr bl (.inl ⟨bs,G bs f,l⟩) k j d.1
  ·obtain⟨P,V,f1,f2⟩:=X g n v bl f l bh;obtain⟨rfl,rfl⟩:=h.fr.trd k j P V bl d.1 f2;exact d.2 f1
 ·have:=Z b d;have:=bA b o r;omega
 ·obtain⟨n',eJ,f,l⟩:=h.fr.row m n u hm;exact⟨n',eJ,hold _ _ _ f,l⟩
 ·have e:=(h.fr.trn k j b d.1).2;cases c:(l2 ν (tn p) ω).ow k with
  |none=>rfl
  |some x=>
   rcases H k x.1 x.2 c with U|⟨m,rfl,U⟩
   ·rw[e]at U;cases U
   ·exact absurd d.1 ((W m _ U).2.2 j b)
 ·show aU w (l2 ν (tn p) ω) (get i (uq (tn p) st.t)) _;rw[uq,Ms (by simp[jH])];exact KN h.fr.trd _ _ (h.slot i)
 ·obtain⟨s,z⟩:=c;have y:k∉FW base (bE (b5 p))/\k∉st.o:=by simp only[sH,kd,not_or]at z;exact z
  obtain⟨m1,m2,m3⟩:=h.new k ⟨s,y.2⟩;refine⟨m1,?_,fun j b d=>m3 j b d.1⟩;cases c:(l2 ν (tn p) ω).ow k with
  |none=>rfl
  |some x=>
   rcases H k x.1 x.2 c with U|⟨m,rfl,U⟩
   ·rw[m2]at U;cases U
   ·exact absurd (Yx.2 ⟨m,rfl,(F.dom m).1 (by rw[U];rfl)⟩) y.1
def arD{C:fm}{st:bp}{a:Act}{w:World}{ν:bc}(h:c9 C st a w ν)(n:∀b o,C.ν0.A b o->b<C.w0.heap.size){s base:Nat}(aw:Ap st (qW st s) base):∃ε bn,c9 C (sI st s base ε) a w bn:=by
 have g:qW st s=get s st.t->∃ε bn,c9 C {sH st (get s st.t) base ε with t:=put s (dv base (b5 (get s st.t))) (uq (tn (get s st.t)) st.t)} a w bn:=fun e=>by rw[e]at aw;obtain⟨ε,bn,l,j,_⟩:=ab7 h n (h.slot s) aw;exact⟨ε,bn,Jx l j⟩
 cases c:get s st.t with
 |ptr k off=>
  cases off with
  |zero=>
   cases d:ae k st.b with
   |none=>simp only[qW,c,d]at aw;exact absurd aw.1 (by simp[fq])
   |some cs=>
    have f:qW st s= .agg cs:=by simp only[qW,c,d]
    have i:∀ε,sI st s base ε={sH st (.agg cs) base ε with b:=cJ k (fK base (cf cs)) (sS (tn (.agg cs)) st.b)}:=fun ε=>by simp only[sI,c,d]
    rw[f]at aw;simp only[i];obtain⟨bl,us,el,g1,g2,g3,g4,g5⟩:=h.good.box k cs d;have m:=Pl aw.2.2.2 d;rw[pk m]at g5;rw[pj m]at g4;obtain⟨ε,bn,l,j,r⟩:=ab7 h n (p:= .agg cs) (v:= .agg us) (by simp only[aU];exact⟨us,rfl,g5⟩) aw;have q:ae k (sS (tn (.agg cs)) st.b)=some (ot (tn (.agg cs)) cs):=by rw[sS,IB,d];rfl
    refine⟨ε,bn,aqu l q (apr _ _) fun A B z f1 f2 _=>?_⟩;rw[r,g1]at f1;cases f1;rw[g4]at f2;cases f2;simp only[dv,b5,aU]at j;obtain⟨y,u,x⟩:=j;cases u;exact x
  |succ off=>
   have f:qW st s=get s st.t:=by simp only[qW,c]
   have i:∀ε,sI st s base ε={sH st (get s st.t) base ε with t:=put s (dv base (b5 (get s st.t))) (uq (tn (get s st.t)) st.t)}:=fun ε=>by simp only[sI,c]
   simp only[i];exact g f
 |_=>
  have f:qW st s=get s st.t:=by simp only[qW,c]
  have i:∀ε,sI st s base ε={sH st (get s st.t) base ε with t:=put s (dv base (b5 (get s st.t))) (uq (tn (get s st.t)) st.t)}:=fun ε=>by simp only[sI,c]
  simp only[i];exact g f
end
section
open Go Go.RowKit
inductive aY where
 |of (c:C)
 |sq (c:C) (d:aY)
 |sl (d:aY)
 |th (s:Nat) (d:aY)
def pM(P:cI)(ob:List aB):aY->(Exit->bp->Prop)->bp->Prop
 | .of c,Q,st=>df P ob c Q st
 | .sq c d,Q,st=>df P ob c (fun e st'=>match e with| .normal=>pM P ob d Q st'|e=>Q e st') st
 | .sl d,Q,st=> ∃st',gn ob st st'/\JN st'/\pM P ob d Q (wN st')
 | .th s d,Q,st=> ∃st' base,gn ob st st'/\Ap st' (qW st' s) base/\∀ε,pM P ob d Q (sI st' s base ε)
def yU(N:Nat)(aT:List (Nat×ev)):aY->Code->Bool
 | .of c,code=>hU N aT c code
 | .sq c d,.seq x y=>hU N aT c x&&yU N aT d y
 | .sl d,code=>yU N aT d code
 | .th _ d,code=>yU N aT d code
 |_,_=>false
def Hb{P:cI}(hm:P.follows .mixedOrders=true){aT:List (Nat×ev)}(f:hY P aT=true){X:fm}(i:∀b o,X.ν0.A b o->b<X.w0.heap.size):∀(d:aY) (code:Code) (Q:Exit->bp->Prop) (st:bp),yU X.N aT d code=true->pM P X.ob d Q st->Kp P X code Q st
 | .of c,code,Q,st,ar,he=>qs hm f c code Q st ar he
 | .sq c d,code,Q,st,ar,he=>by
  cases code<;>try(simp[yU]at ar;done)
  rename_i k l;simp only[yU,cQ]at ar;intro a w ν g;refine wp_seq ?_;refine wp_mono (qs hm f c k _ st ar.1 he a w ν g) fun e br w' m=>?_;obtain⟨st',bn,j,h⟩:=m;cases e with
  |normal=>exact Hb hm f i d l Q st' ar.2 j br w' bn h
  |_=>exact⟨st',bn,j,h⟩
 | .sl d,code,Q,st,ar,he=>fun a w ν g=>by obtain⟨st',J,U,n⟩:=he;exact Hb hm f i d code Q _ ar n a w _ (aqJ (g.weaker J) U)
 | .th s d,code,Q,st,ar,he=>fun a w ν g=>by obtain⟨st',base,hw,J,U⟩:=he;obtain⟨ε,bn,h⟩:=arD (g.weaker hw) i J;exact Hb hm f i d code Q _ ar (U ε) a w bn h
def Hl(aT:List (Nat×ev))(d:aY)(ea:List bW)(OF:Nat)(fn:Func):Bool:=
 match fn.body with
 |some code=>yU fn.ntmps aT d code&&p5 aT ea fn.results.toList&& !(fn.name== "runtime.NumGoroutine")&&decide (OF<=fn.ntmps)
 |none=>false
def bG.mkD{P:cI}(hm:P.follows .mixedOrders=true){aT:List (Nat×ev)}(c:hY P aT=true){f:FuncId}{fn:Func}(q:P.funcs[f]? =some fn){d:aY}{b:List bW}{n:Nat}(a:Hl aT d b n fn=true)
  {args:List af} (l:args.length<=n) {s:cR} (h:hX s) {Q:af->cR->Prop} (he:eM args->(∀j cs,ae j s.b=some cs->gV cs=true->eN cs)->pM P (cK s) d (c5 b s Q) ⟨jc 0 args,s.b,s.e,0,cK s⟩):bG P f args s Q:=by
 unfold Hl at a;split at a
 ·rename_i code o;simp only[cQ,gy,sO]at a;obtain⟨⟨⟨J,U⟩,m⟩,p⟩:=a;exact bG.ofW c q o m U (kD l p) h fun X g e k r i=>Hb hm c k d code _ _ (by rw[g];exact J) (by rw[e];exact he r i)
 ·cases a
def bU.mkD{P:cI}(hm:P.follows .mixedOrders=true){aT:List (Nat×ev)}(e:hY P aT=true){f:FuncId}{fn:Func}(h:P.funcs[f]? =some fn){d:aY}{a:List bW}{n:Nat}(b:Hl aT d a n fn=true)
  {args:List af} (c:args.length<=n) {r:af} (g:az (fun _=>eu) r) (he:eM args->pM P [] d (bZ a r) ⟨jc 0 args,[],[],0,[]⟩):bU P f args r:=by
 refine bG.mkD hm e h b c sx fun J _=>?_;rw[<-Rl g];exact he J
def Gp(P:cI)(ob:List aB)(d:aY)(Q:Exit->bp->Prop)(e:Exit)(st:bp):Prop:=match e with
 | .normal=>pM P ob d Q st
 |e=>Q e st
section
variable {P:cI} {ob:List aB} {st:bp} {Q:Exit->bp->Prop} {c:C} {d:aY}
@[simp]def atz:Gp P ob d Q .normal st=pM P ob d Q st:=rfl
@[simp]def atA:Gp P ob d Q .ret st=Q .ret st:=rfl
@[simp]def aty{n:Nat}:Gp P ob d Q (.exit n) st=Q (.exit n) st:=rfl
@[simp]def auB:pM P ob (.of c) Q st=df P ob c Q st:=rfl
@[simp]def auC:pM P ob (.sq c d) Q st=df P ob c (Gp P ob d Q) st:=by simp only[pM];congr 1
def af4(st':bp)(hw:gn ob st st')(aw:JN st')(h:pM P ob d Q (wN st')):pM P ob (.sl d) Q st:=⟨st',hw,aw,h⟩
def LS{s:Nat}(st':bp)(base:Nat)(hw:gn ob st st')(aw:Ap st' (qW st' s) base)(h:∀ε,pM P ob d Q (sI st' s base ε)):pM P ob (.th s d) Q st:=⟨st',base,hw,aw,h⟩
end
end
section
open Go Go.RowKit
def Lw:∀(xs ys:List af),da (xs++ys)=da xs+da ys
 |[],ys=>by simp[da]
 |x::xs,ys=>by simp[da,Lw xs ys];omega
def AZ:∀(b:Nat) (xs ys:List af),fK b (xs++ys)=fK b xs++fK (b+da xs) ys
 |b,[],ys=>by simp[fK,da]
 |b,x::xs,ys=>by simp[fK,da,AZ _ xs ys,Nat.add_assoc]
def FA(ε:Nat->Nat):∀(b:Nat) (xs ys:List af),gN ε b (xs++ys)=gN ε b xs++gN ε (b+da xs) ys
 |b,[],ys=>by simp[gN,da]
 |b,x::xs,ys=>by simp[gN,da,FA ε _ xs ys,Nat.add_assoc]
mutual
def G2(ε:Nat->Nat):∀(p:af) (b m:Nat),b<=m->m<b+bE p->∃o,ae (.obj m) (dQ ε b p)=some o
 | .slice sz t (x::xs),b,m,J,U=>by
  simp only[bE]at U;simp only[dQ,ae];by_cases e:b=m
  ·subst e;exact⟨_,if_pos rfl⟩
  ·rw[if_neg (by simpa using e),n4];by_cases a:m<b+1+bE x
   ·obtain⟨o,ar⟩:=G2 ε x (b+1) m Ω a;exact⟨o,by rw[ar]⟩
   ·obtain⟨o,ar⟩:=LD ε xs (b+1+bE x) m Ω Ω;cases c:ae (.obj m) (dQ ε (b+1) x)with
    |some y=>exact⟨y,rfl⟩
    |none=>exact⟨o,ar⟩
 | .agg cs,b,m,J,U=>by simp only[bE,dQ]at U⊢;exact LD ε cs b m J U
 | .slice _ _ [],_,_,J,U=>by simp only[bE]at U;omega
 | .int _ _,_,_,J,U=>by simp only[bE]at U;omega
 | .bool _,_,_,J,U=>by simp only[bE]at U;omega
 | .str _,_,_,J,U=>by simp only[bE]at U;omega
 | .junk,_,_,J,U=>by simp only[bE]at U;omega
 | .ptr _ _,_,_,J,U=>by simp only[bE]at U;omega
 | .eptr _,_,_,J,U=>by simp only[bE]at U;omega
 | .iface _ _,_,_,J,U=>by simp only[bE]at U;omega
 | .nilp,_,_,J,U=>by simp only[bE]at U;omega
 | .tuple _,_,_,J,U=>by simp only[bE]at U;omega
 | .func _ _,_,_,J,U=>by simp only[bE]at U;omega
 | .gmap _,_,_,J,U=>by simp only[bE]at U;omega
 | .row _ _ _,_,_,J,U=>by simp only[bE]at U;omega
 | .rptr _ _ _ _ _,_,_,J,U=>by simp only[bE]at U;omega
 | .hdm _ _,_,_,J,U=>by simp only[bE]at U;omega
 | .hdi _ _ _,_,_,J,U=>by simp only[bE]at U;omega
 | .cst _,_,_,J,U=>by simp only[bE]at U;omega
def LD(ε:Nat->Nat):∀(a:List af) (b m:Nat),b<=m->m<b+da a->∃o,ae (.obj m) (gN ε b a)=some o
 |[],b,m,J,U=>by simp only[da]at U;omega
 |x::xs,b,m,J,U=>by
  simp only[da]at U;simp only[gN];rw[n4];by_cases c:m<b+bE x
  ·obtain⟨o,ar⟩:=G2 ε x b m J c;exact⟨o,by rw[ar]⟩
  ·obtain⟨o,ar⟩:=LD ε xs (b+bE x) m Ω Ω;cases d:ae (.obj m) (dQ ε b x)with
   |some y=>exact⟨y,rfl⟩
   |none=>exact⟨o,ar⟩
end
def B1{ε:Nat->Nat}{p:af}{b m:Nat}(h:m<b\/b+bE p<=m):ae (.obj m) (dQ ε b p)=none:=by
 cases a:ae (.obj m) (dQ ε b p)with
 |none=>rfl
 |some o=>obtain⟨c,e,d,f⟩:=u1 ε p b _ o a;cases e;omega
def Yj{ε:Nat->Nat}{p:List af}{b m:Nat}(h:m<b\/b+da p<=m):ae (.obj m) (gN ε b p)=none:=by
 cases a:ae (.obj m) (gN ε b p)with
 |none=>rfl
 |some o=>obtain⟨c,e,d,f⟩:=B0 ε p b _ o a;cases e;omega
def amj{ε:Nat->Nat}{l r:List af}{y:af}{b:Nat}{k:aB}{o:dW}(h:ae k (dQ ε (b+da l) y)=some o):ae k (gN ε b (l++y::r))=some o:=by obtain⟨m,rfl,a,c⟩:=u1 ε y _ k o h;rw[FA,n4,Yj Ω];simp only[gN];rw[n4,h]
def amk{ε:Nat->Nat}{l r:List af}{y y':af}{b:Nat}(aw:bE y'=bE y){k:aB}{o:dW}(h:ae k (gN ε b (l++y'::r))=some o):
  ae k (dQ ε (b+da l) y')=some o\/(ae k (dQ ε (b+da l) y)=none/\ae k (dQ ε (b+da l) y')=none/\ae k (gN ε b (l++y::r))=some o):=by
 obtain⟨m,rfl,c,d⟩:=B0 ε _ _ k o h;simp only[FA,gN,n4,aw]at h⊢;by_cases J:m<b+da l
 ·rw[B1 (p:=y) (.inl J),B1 (p:=y') (.inl J)];refine .inr ⟨rfl,rfl,?_⟩;rw[B1 (p:=y') (.inl J)]at h;exact h
 ·rw[Yj (p:=l) (.inr Ω)]at h⊢;by_cases U:m<b+da l+bE y
  ·obtain⟨o',a⟩:=G2 ε y' (b+da l) m Ω Ω;rw[a]at h⊢;exact .inl h
  ·rw[B1 (p:=y) (.inr Ω),B1 (p:=y') (.inr Ω)];rw[B1 (p:=y') (.inr Ω)]at h;exact .inr ⟨rfl,rfl,h⟩
end
section
open Go Go.RowKit
section
variable (c8:Int->List cS)
mutual
def dJ:af->Int->af×Int
 | .int a _,k=>(.int a k,k+1)
 | .str _,k=>(.str (c8 k),k+1)
 | .slice sz t xs,k=>(.slice sz t (bD xs k).1,(bD xs k).2)
 | .agg cs,k=>(.agg (bD cs k).1,(bD cs k).2)
 |p,k=>(p,k)
def bD:List af->Int->List af×Int
 |[],k=>([],k)
 |x::xs,k=>((dJ x k).1::(bD xs (dJ x k).2).1,(bD xs (dJ x k).2).2)
end
def kK:∀(xs:List af) (k:Int),(bD c8 xs k).1.length=xs.length
 |[],k=>by simp[bD]
 |x::xs,k=>by simp[bD,kK xs]
mutual
def Uc:∀(p:af) (k:Int),bE (dJ c8 p k).1=bE p
 | .int _ _,k=>by simp[dJ,bE]
 | .str _,k=>by simp[dJ,bE]
 | .slice _ _ [],k=>by simp[dJ,bD,bE]
 | .slice _ _ (x::xs),k=>by simp[dJ,bD,bE,Uc x,mA xs]
 | .agg cs,k=>by simp[dJ,bE,mA cs]
 | .bool _,k=>by simp[dJ]
 | .junk,k=>by simp[dJ]
 | .ptr _ _,k=>by simp[dJ]
 | .eptr _,k=>by simp[dJ]
 | .iface _ _,k=>by simp[dJ]
 | .nilp,k=>by simp[dJ]
 | .tuple _,k=>by simp[dJ]
 | .func _ _,k=>by simp[dJ]
 | .gmap _,k=>by simp[dJ]
 | .row _ _ _,k=>by simp[dJ]
 | .rptr _ _ _ _ _,k=>by simp[dJ]
 | .hdm _ _,k=>by simp[dJ]
 | .hdi _ _ _,k=>by simp[dJ]
 | .cst _,k=>by simp[dJ]
def mA:∀(a:List af) (k:Int),da (bD c8 a k).1=da a
 |[],k=>by simp[bD]
 |x::xs,k=>by simp[bD,da,Uc x,mA xs]
end
def IN:∀(xs ys:List af) (k:Int),bD c8 (xs++ys) k=((bD c8 xs k).1++(bD c8 ys (bD c8 xs k).2).1,(bD c8 ys (bD c8 xs k).2).2)
 |[],ys,k=>by simp[bD]
 |x::xs,ys,k=>by simp[bD,IN xs ys]
mutual
def amU:∀(p:af) (k:Int),k<=(dJ c8 p k).2
 | .int _ _,k=>by simp[dJ];omega
 | .str _,k=>by simp[dJ];omega
 | .slice _ _ xs,k=>by simp only[dJ];exact mm xs k
 | .agg cs,k=>by simp only[dJ];exact mm cs k
 | .bool _,k=>by simp[dJ]
 | .junk,k=>by simp[dJ]
 | .ptr _ _,k=>by simp[dJ]
 | .eptr _,k=>by simp[dJ]
 | .iface _ _,k=>by simp[dJ]
 | .nilp,k=>by simp[dJ]
 | .tuple _,k=>by simp[dJ]
 | .func _ _,k=>by simp[dJ]
 | .gmap _,k=>by simp[dJ]
 | .row _ _ _,k=>by simp[dJ]
 | .rptr _ _ _ _ _,k=>by simp[dJ]
 | .hdm _ _,k=>by simp[dJ]
 | .hdi _ _ _,k=>by simp[dJ]
 | .cst _,k=>by simp[dJ]
def mm:∀(a:List af) (k:Int),k<=(bD c8 a k).2
 |[],k=>by simp[bD]
 |x::xs,k=>by have J:=amU x k;have U:=mm xs (dJ c8 x k).2;simp only[bD];omega
end
end
end
section
open Go Go.RowKit
inductive jC:af->Prop
 |mk (a b:Int) (s:List cS) (ys:List af):(∀y∈ys,jC y)->jC (.agg [.int .i64 a,.int .i64 b,.str s,.slice 4 .no ys])
mutual
def CQ:af->Nat
 | .slice _ _ xs=>qV xs
 | .agg cs=>1+qV cs
 |_=>0
def qV:List af->Nat
 |[]=>0
 |x::xs=>CQ x+qV xs
end
def J2:∀{xs:List af} {x:af},x∈xs->CQ x<=qV xs
 |y::ys,x,h=>by
  rcases gI.1 h with rfl|h
  ·simp only[qV];omega
  ·have:=J2 h;simp only[qV];omega
def jC.inv{p:af}(h:jC p):∃a b s ys,p= .agg [.int .i64 a,.int .i64 b,.str s,.slice 4 .no ys]/\(∀y∈ys,jC y)/\CQ p=1+qV ys:=by
 cases h with
 |mk a b s ys h=>exact⟨a,b,s,ys,rfl,h,by simp[CQ,qV]⟩
def FC{ε:Nat->Nat}{p:af}{b:Nat}(k:aB):(ae k (dQ ε b p)).isSome=true↔∃m,k= .obj m/\b<=m/\m<b+bE p:=by
 constructor
 ·intro h;obtain⟨o,ar⟩:=fx.1 h;exact u1 ε p b k o ar
 ·rintro⟨m,rfl,J,U⟩;obtain⟨o,ar⟩:=G2 ε p b m J U;rw[ar];rfl
def rng(b c:Nat)(k:aB):Prop:= ∃m,k= .obj m/\b<=m/\m<c
def CH{b c b2 a:Nat}(J:b2<=b)(U:c<=a)(k:aB)(h:rng b c k):rng b2 a k:=by obtain⟨m,e,d,f⟩:=h;exact⟨m,e,Ω,Ω⟩
mutual
def n2:∀(p:af) (b:Nat),cN p->az (rng b (b+bE p)) (dv b p)
 | .slice sz t [],b,h=>by simp[dv,az,aH]
 | .slice sz t (x::xs),b,h=>by simp only[dv,az,bE];exact⟨b,rfl,Ω,Ω⟩
 | .agg cs,b,h=>by simp only[dv,az,bE,cN]at h⊢;exact NX cs b h
 | .int _ _,_,_=>by simp[dv,az]
 | .bool _,_,_=>by simp[dv,az]
 | .str _,_,_=>by simp[dv,az]
 | .junk,_,h=>by simp[cN]at h
 | .ptr _ _,_,h=>by simp[cN]at h
 | .eptr _,_,h=>by simp[cN]at h
 | .iface _ _,_,h=>by simp[cN]at h
 | .nilp,_,h=>by simp[cN]at h
 | .tuple _,_,h=>by simp[cN]at h
 | .func _ _,_,h=>by simp[cN]at h
 | .gmap _,_,h=>by simp[cN]at h
 | .row _ _ _,_,h=>by simp[cN]at h
 | .rptr _ _ _ _ _,_,h=>by simp[cN]at h
 | .hdm _ _,_,h=>by simp[cN]at h
 | .hdi _ _ _,_,h=>by simp[cN]at h
 | .cst _,_,h=>by simp[cN]at h
def NX:∀(a:List af) (b:Nat),dX a->aH (rng b (b+da a)) (fK b a)
 |[],b,h=>by simp[fK,aH]
 |x::xs,b,h=>by simp only[dX]at h;simp only[fK,aH,da];exact⟨tE (CH Ω Ω) _ (n2 x b h.1),jj (CH Ω Ω) _ (NX xs _ h.2)⟩
end
def EL{S T:aB->Prop}(h:∀k,S k->T k){o:dW}(b:dV S o):dV T o:=fun xs a=>jj h _ (b xs a)
mutual
def N4{ε:Nat->Nat}:∀(p:af) (b:Nat),cN p->∀k o,ae k (dQ ε b p)=some o->dV (rng b (b+bE p)) o
 | .slice sz t (x::xs),b,h,k,o,a=>by
  simp only[cN]at h;simp only[dQ,ae]at a;simp only[bE];split at a
  ·cases a;intro ys c;cases c;have:=NX (x::xs) (b+1) h.2;simp only[da,fK]at this;exact jj (CH Ω Ω) _ this
  ·have:=N3 (ε:=ε) (x::xs) (b+1) h.2 k o (by simpa only[gN]using a);simp only[da]at this;exact EL (CH Ω Ω) this
 | .agg cs,b,h,k,o,a=>by simp only[dQ,bE,cN]at h a⊢;exact N3 cs b h k o a
 | .slice _ _ [],_,_,_,_,h=>by simp[dQ,ae]at h
 | .int _ _,_,_,_,_,h=>by simp[dQ,ae]at h
 | .bool _,_,_,_,_,h=>by simp[dQ,ae]at h
 | .str _,_,_,_,_,h=>by simp[dQ,ae]at h
 | .junk,_,h,_,_,_=>by simp[cN]at h
 | .ptr _ _,_,h,_,_,_=>by simp[cN]at h
 | .eptr _,_,h,_,_,_=>by simp[cN]at h
 | .iface _ _,_,h,_,_,_=>by simp[cN]at h
 | .nilp,_,h,_,_,_=>by simp[cN]at h
 | .tuple _,_,h,_,_,_=>by simp[cN]at h
 | .func _ _,_,h,_,_,_=>by simp[cN]at h
 | .gmap _,_,h,_,_,_=>by simp[cN]at h
 | .row _ _ _,_,h,_,_,_=>by simp[cN]at h
 | .rptr _ _ _ _ _,_,h,_,_,_=>by simp[cN]at h
 | .hdm _ _,_,h,_,_,_=>by simp[cN]at h
 | .hdi _ _ _,_,h,_,_,_=>by simp[cN]at h
 | .cst _,_,h,_,_,_=>by simp[cN]at h
def N3{ε:Nat->Nat}:∀(c:List af) (b:Nat),dX c->∀k o,ae k (gN ε b c)=some o->dV (rng b (b+da c)) o
 |[],b,h,k,o,a=>by simp[gN,ae]at a
 |x::xs,b,h,k,o,a=>by
  simp only[dX]at h;simp only[gN,n4]at a;simp only[da];cases J:ae k (dQ ε b x)with
  |some y=>rw[J]at a;cases a;exact EL (CH Ω Ω) (N4 x b h.1 k _ J)
  |none=>rw[J]at a;exact EL (CH Ω Ω) (N3 xs _ h.2 k _ a)
end
abbrev c1(ε:Nat->Nat)(b:Nat)(p:af):cR:=⟨[],dQ ε b p⟩
def Dc{ε:Nat->Nat}{b:Nat}{p:af}(k:aB):aM (c1 ε b p) k↔rng b (b+bE p) k:=by unfold aM rng;rw[FC];simp[ae]
def KB(ε:Nat->Nat)(b:Nat)(p:af):hX (c1 ε b p):=by
 refine⟨fun m=>by simp[ae],fun m=>?_⟩;cases h:ae (.loc m) (dQ ε b p)with
 |none=>rfl
 |some o=>obtain⟨a,e,_⟩:=u1 ε p b _ o h;cases e
def oo{ε:Nat->Nat}{b:Nat}{p:af}(h:cN p):ez (c1 ε b p):=⟨KB ε b p,fun k cs a=>by simp[ae]at a,fun k o a=>EL (fun k a=>(Dc k).2 a) (N4 p b h k o a)⟩
def oZ{ε:Nat->Nat}{b:Nat}{p q:af}(h:bE q=bE p):Same (c1 ε b p) (c1 ε b q):=⟨fun k=>rfl,fun k=>by rw[qZ,FC,FC,h]⟩
def adz{ε:Nat->Nat}{b:Nat}{p:af}(h:cN p):az (aM (c1 ε b p)) (dv b p):=tE (fun k a=>(Dc k).2 a) _ (n2 p b h)
def ady{ε:Nat->Nat}{b:Nat}{p:af}{k:aB}:k∈cK (c1 ε b p)↔rng b (b+bE p) k:=by rw[<-Dc (ε:=ε)];exact⟨ND,fun h=>rF h⟩
def CallDo.sub{P:cI}{n:Nat}{args:List af}{st:bp}{d:bd Nat}{K:bp->Prop}{ε:Nat->Nat}{b:Nat}{l r:List af}{y y' g:af}(t:cN y)(aw:bE y'=bE y)
  (u:bG P n args (c1 ε (b+da l) y) fun i j=>i=g/\j=c1 ε (b+da l) y')
  (he:∀k o,ae k (gN ε b (l++y::r))=some o->ae k st.e=some o) (a:aH (rng (b+da l) (b+da l+bE y)) args)
  (h:∀c,(∀k o,ae k (gN ε b (l++y'::r))=some o->ae k c=some o)->(∀k,¬rng (b+da l) (b+da l+bE y) k->ae k c=ae k st.e)->K ⟨e5 d g st.t,st.b,c,st.n,st.o++cK (c1 ε (b+da l) y')⟩):CallDo P n args st d K:=by
 refine CallDo.ob u (oo t) (fun k cs a=>by simp[ae]at a) (fun k o a=>he k o (amj a)) (jj (fun k a=>(Dc k).2 a) _ a) ?_;rintro i j ⟨rfl,rfl⟩;refine⟨oZ aw,?_⟩;simp only[C2,List.append_nil];refine h _ (fun k o a=>?_) fun k a=>?_
 ·rw[n4,tG];rcases amk aw a with J|⟨J,U,s⟩
  ·have:(ae k (dQ ε (b+da l) y)).isSome=true:=by have:=FC (ε:=ε) (p:=y') (b:=b+da l) k;rw[FC,<-aw,<-this,J];rfl
   rw[this];simp[J]
  ·rw[J];simp[he k o s]
 ·have J:ae k (dQ ε (b+da l) y)=none:=by
   cases f:ae k (dQ ε (b+da l) y)with
   |none=>rfl
   |some o=>exact absurd (u1 ε y _ k o f) a
  have U:ae k (dQ ε (b+da l) y')=none:=by
   cases f:ae k (dQ ε (b+da l) y')with
   |none=>rfl
   |some o=>obtain⟨m,e,q,v⟩:=u1 ε y' _ k o f;exact absurd ⟨m,e,q,Ω⟩ a
  rw[n4,tG,J,U];simp;cases ae k st.e<;>rfl
def fW.val{P:cI}{f:FuncId}{args:List af}{r:Nat->af}(h:fW P f args r)(E:az (fun _=>eu) (b5 (r 0)):=by simp[b5,az,aH]):bU P f args (b5 (r 0)):=by
 intro w ν bm J U B;have hm:∀(e:Ending) (w':World),(∃v d a bn,e= .returned v/\(d=r 0/\a=⟨[],[]⟩)/\aU w' bn d v/\Good (fun bl=>fB ν ⟨[],[]⟩ bl\/w.heap.size<=bl) w' bn a.b a.e/\A2 (some 0) bn a/\hX a/\pC ⟨w,ν,fB ν ⟨[],[]⟩,0,cK ⟨[],[]⟩⟩ w' bn)->
   (∃v d a bn,e= .returned v/\(d=b5 (r 0)/\a=⟨[],[]⟩)/\aU w' bn d v/\Good (fun bl=>fB ν ⟨[],[]⟩ bl\/w.heap.size<=bl) w' bn a.b a.e/\pN bn a/\hX a/\pC ⟨w,ν,fB ν ⟨[],[]⟩,0,cK ⟨[],[]⟩⟩ w' bn):=by
  rintro e w' ⟨v,d,a,bn,t,⟨rfl,rfl⟩,a3,a4,a5,A,c⟩;have q:∀k,ν.bx k=none:=fun k=>(U k).1 rfl;have s:∀k,ν.ow k=none:=fun k=>(U k).2.1 rfl;refine⟨v,_,⟨[],[]⟩,bn.cut fun _=>eu,t,⟨rfl,rfl⟩,vb (oX.cut _ w' bn) _ _ E (yg _ v a3),a4.cut (fun k cs i=>by simp[ae]at i) (fun k o i=>by simp[ae]at i) (fun bl y _=>y),fun k=>?_,sx,
   ⟨c.os,c.tape,c.output,c.size,c.block,c.keep,c.fresh,fun n b g=>?_,c.obn,fun m n u hm=>?_,c.obr,fun k j bs dh b l _=>l.1.elim,fun k j b g=>g.1.elim,fun k j b g=>g.1.elim,c.sh⟩⟩
  ·obtain⟨l,z,x⟩:=bc.cut_no (ν:=bn) (S:=fun _=>eu) (k:=k) (fun h=>h);exact⟨fun _=>l,fun _=>z,x⟩
  ·rw[q]at g;cases g
  ·rw[s]at hm;cases hm
 rcases h 0 w ν bm J U B with⟨p,aw⟩|⟨v,w',aw,F⟩
 ·exact .inl ⟨p,aw.mono hm⟩
 ·exact .inr ⟨v,w',aw,hm _ _ F⟩
def j1{α:Type}(f:α->Nat->af)(l:List (α×Nat)):List af:=l.map fun p=>f p.1 p.2
@[simp]def awL{α:Type}(f:α->Nat->af):j1 f []=[]:=rfl
@[simp]def awK{α:Type}(f:α->Nat->af)(l:List (α×Nat)):(j1 f l).length=l.length:=by simp[j1]
@[simp]def awM{α:Type}(f:α->Nat->af)(l:List (α×Nat))(x:α)(n:Nat):j1 f (l++[(x,n)])=j1 f l++[f x n]:=by simp[j1]
def Cf(n:Nat):aB.loc n≠ei:=fun e=>by unfold ei at e;cases e
structure q4 {α:Type} (n:Nat) (l:List (α×Nat)):Prop where
 nd:(l.map (·.2)).Nodup
 lt:∀p∈l,p.2<n
def q4.nil{α:Type}(n:Nat):q4 n ([]:List (α×Nat)):=⟨Ψ,Ψ⟩
def q4.snoc{α:Type}{n m n':Nat}{l:List (α×Nat)}(h:q4 n l)(x:α)(J:n<=m)(U:m<n'):q4 n' (l++[(x,m)]):=by
 refine⟨?_,fun p c=>?_⟩
 ·rw[List.map_append,rS];refine⟨h.nd,Ψ,fun a f b d e=>?_⟩;simp at d;subst d;obtain⟨p,c,rfl⟩:=gZ.1 f;have:=h.lt p c;omega
 ·rcases kd.1 c with c|c
  ·have:=h.lt p c;omega
  ·simp at c;subst c;exact U
structure nI {α:Type} (f:α->Nat->af) (g:α->af):Prop where
 tn:∀x n,tn (f x n)=[(.loc n,0)]
 ok:∀x n,fq (f x n)
 st:∀x n,b5 (f x n)=g x
 ki:∀(S:aB->Prop) x n,S (.loc n)->az S (f x n)
def nI.tnL{α:Type}{f:α->Nat->af}{g:α->af}(h:nI f g):∀(l:List (α×Nat)),Pv.tnL (j1 f l)=(l.map (·.2)).map fun m=>(aB.loc m,0)
 |[]=>by simp[j1,Pv.tnL]
 |x::l=>by have:=h.tnL l;unfold j1 at this;simp[j1,Pv.tnL,h.tn,this]
def nI.nodup{α:Type}{f:α->Nat->af}{g:α->af}(h:nI f g){n:Nat}{l:List (α×Nat)}(d:q4 n l):(Pv.tnL (j1 f l)).Nodup:=by rw[h.tnL];refine ayi _ (fun a b c e=>c ?_) d.nd;simpa using e
def nI.okL{α:Type}{f:α->Nat->af}{g:α->af}(h:nI f g):∀(l:List (α×Nat)),gb (j1 f l)
 |[]=>by simp[j1,gb]
 |x::l=>by have:=h.okL l;unfold j1 at this;simp[j1,gb,h.ok,this]
def nI.stL{α:Type}{f:α->Nat->af}{g:α->af}(h:nI f g):∀(l:List (α×Nat)),cf (j1 f l)=(l.map (·.1)).map g
 |[]=>by simp[j1,cf]
 |x::l=>by have:=h.stL l;unfold j1 at this;simp[j1,cf,h.st,this]
def nI.kiL{α:Type}{f:α->Nat->af}{g:α->af}(h:nI f g){S:aB->Prop}:∀(l:List (α×Nat)),(∀p∈l,S (.loc p.2))->aH S (j1 f l)
 |[],_=>by simp[j1,aH]
 |x::l,dF=>by have:=h.kiL l fun p a=>dF p (by simp[a]);unfold j1 at this;simp only[j1,gY,aH];exact⟨h.ki S x.1 x.2 (dF x Ψ),this⟩
def nI.kin{α:Type}{f:α->Nat->af}{g:α->af}(h:nI f g){n m:Nat}{l:List (α×Nat)}(b:q4 n l)(hm:n<=m)(o:List aB):aH (fun k=> ¬fresh m o k) (j1 f l)=True:=h2 (h.kiL l fun p a c=>by have J:=b.lt p a;have U:m<=p.2:=c.1;omega)
def E4{α:Type}{f:α->af}(h:∀x,fq (f x)):∀l:List α,gb (l.map f)
 |[]=>trivial
 |x::l=>⟨h x,E4 h l⟩
def J4{α:Type}{f:α->af}(h:∀x,tn (f x)=[]):∀l:List α,tnL (l.map f)=[]
 |[]=>rfl
 |x::l=>by simp[tnL,h x,J4 h l]
def LH:∀(a b:List af),dX (a++b)↔dX a/\dX b
 |[],b=>by simp[dX]
 |x::a,b=>by simp[dX,LH a b,and_assoc]
mutual
def Ut(c8:Int->List cS):∀(p:af) (k:Int),cN p->cN (dJ c8 p k).1
 | .int _ _,_,_=>by simp[dJ,cN]
 | .bool _,_,_=>by simp[dJ,cN]
 | .str _,_,_=>by simp[dJ,cN]
 | .slice sz _ xs,k,h=>by simp only[dJ,cN]at h⊢;exact⟨h.1,q8 c8 xs k h.2⟩
 | .agg cs,k,h=>by simp only[dJ,cN]at h⊢;exact q8 c8 cs k h
 | .junk,_,h=>by simp[cN]at h
 | .ptr _ _,_,h=>by simp[cN]at h
 | .eptr _,_,h=>by simp[cN]at h
 | .iface _ _,_,h=>by simp[cN]at h
 | .nilp,_,h=>by simp[cN]at h
 | .tuple _,_,h=>by simp[cN]at h
 | .func _ _,_,h=>by simp[cN]at h
 | .gmap _,_,h=>by simp[cN]at h
 | .row _ _ _,_,h=>by simp[cN]at h
 | .rptr _ _ _ _ _,_,h=>by simp[cN]at h
 | .hdm _ _,_,h=>by simp[cN]at h
 | .hdi _ _ _,_,h=>by simp[cN]at h
 | .cst _,_,h=>by simp[cN]at h
def q8(c8:Int->List cS):∀(a:List af) (k:Int),dX a->dX (bD c8 a k).1
 |[],k,h=>by simp[bD,dX]
 |x::xs,k,h=>by simp only[bD,dX]at h⊢;exact⟨Ut c8 x k h.1,q8 c8 xs _ h.2⟩
end
end
end Go.Pv
namespace Go.Proofs.YtahlgcidhnjlbaaGreat
section
open Go Go.Pv
def nB(o:bd (List bH)):af:= .tuple [b6 ((o.getD []).map bH.e),.bool o.isSome]
@[simp]def av8(S:aB->Prop)(o:bd (List bH)):az S (nB o)=True:=by simp[nB]
def acp{l:List bH}(h:jx l):bU au 87 [b6 (l.map bH.e)] (.bool true):=by have:=aco l;simpa only[h,decide_true]using this
def QS{t:T}(h:t.fit=true):bU au 64 [t.e] (.bool true):=by have:=ar1 t;rwa[h]at this
@[simp]def awR(l:List bH):gb (l.map bH.e)=True:=h2 (E4 (f:=bH.e) (fun _=>⟨trivial,trivial,trivial⟩) l)
@[simp]def ax3(l:List bH):tnL (l.map bH.e)=[]:=J4 (f:=bH.e) (fun _=>rfl) l
def mS(o:bd (List bH))(κ:Nat):af:= .tuple [.slice 2 (.tr (.loc κ) 0) ((o.getD []).map bH.e),.bool o.isSome]
def Y0{s:List Bd}(G:fl s){l:List bH}(F:jx l)(t:T)(Z:t.fit=true)(k:Int):
  fW au 118 [bL (s.map Bd.e),b6 (l.map bH.e),t.e,aj k] (mS (if(k=2\/k=3)/\(t.ap (cG s)).size<=5000 then jr l (t.ap (cG s)) k else none)):=by
 have oD:=ss F;have d:=rM G;have f:=QS Z;have g:=acp F;have c:=Kg s t G.len G.sol.asc G.fit;generalize ad:t.ap (cG s)=x at c⊢;generalize u:(if(k=2\/k=3)/\x.size<=5000 then jr l x k else none)=O;by_cases K:k=2\/k=3;rotate_left
 ·have E:(k !=2)=true:=by simp;omega
  have X:(k !=3)=true:=by simp;omega
  rw[if_neg (fun h=>K h.1)]at u;rw[<-u];refine fW.mk mixed a6 Tryz.func118 E5 Ψ fun L κ=>?_;unfold AN;simp;(repeat' first|refine al ?_|refine aO d ?_|refine aP d ?_|refine aO f ?_|refine aP f ?_|refine aO g ?_|refine aP g ?_|simp[E,X]);(refine h4.val Ψ ?_;simp[ba,be,a1,e9,hn,eC,gR,ef,gH,tnL,tn,fq,gb,fold,hE,hC,iH,ae,ei,cf,b5]);simp[mS]
 by_cases z:x.size<=5000;rotate_left
 ·rw[if_neg (fun h=>z h.2)]at u;rw[<-u];rw[if_neg z,mv z]at c;refine fW.mk mixed a6 Tryz.func118 E5 Ψ fun L κ=>?_;unfold AN;simp;rcases K with rfl|rfl;all_goals(repeat' first|refine al ?_|refine aO d ?_|refine aP d ?_|refine aO f ?_|refine aP f ?_|refine aO g ?_|refine aP g ?_|refine aO c ?_|refine aP c ?_|simp)
  all_goals(refine h4.val Ψ ?_;simp[ba,be,a1,e9,hn,eC,gR,ef,gH,tnL,tn,fq,gb,fold,hE,hC,iH,ae,ei,cf,b5])
  all_goals simp[mS]
 rw[if_pos ⟨K,z⟩]at u;rw[if_pos z,lJ z]at c;have HN:(k !=2)=true->(k !=3)=false:=fun h=>by simp at h⊢;omega
 have R:((k !=2)=false/\(k !=2)=false)\/((k !=2)=true/\(k !=3)=false):=by
  rcases K with rfl|rfl
  ·left;exact⟨rfl,rfl⟩
  ·right;exact⟨rfl,rfl⟩
 clear HN;by_cases Q:∃n,x= .var n
 ·obtain⟨n,rfl⟩:=Q;have a:O=match ny l n with|some bs=>if bs=k then some l else none|none=>some (nv ⟨n,k⟩ l):=by rw[<-u];rfl
  refine fW.mk mixed a6 Tryz.func118 E5 Ψ fun L κ=>?_;unfold AN;simp;rcases R with⟨q,p⟩|⟨q,p⟩;all_goals
   (repeat' first|refine al ?_|refine aO d ?_|refine aP d ?_|refine aO f ?_|refine aP f ?_|refine aO g ?_|refine aP g ?_|refine aO c ?_|refine aP c ?_|simp[q,p])
   refine eZ [3,10,12,55,56] (fun i (_:Unit)=>[(57,aj i)]) l.length (fun i _=> ∀j y,j<i->l[j]? =some y->y.v≠n) () b9 (fun j y H=>Ω) (fun _ H _=>?_) (fun i _ hi H _=>?_)
   ·have bf:ny l n=none:=EK.2 fun y A=>by obtain⟨m,hm,e⟩:=pA A;exact H m y hm (by rw[cl hm,e])
    rw[bf]at a
    simp only at a
    simp
    (repeat' first|refine al ?_|simp)
    all_goals try refine⟨by unfold lim;omega,?_⟩
    have key:=ajn (l++[⟨n,k⟩]) d6
    have P:=Kw (l++[⟨n,k⟩])
    have hlen:(l++[(⟨n,k⟩:bH)]).length=l.length+1:=Ψ
    unfold yG eA at key P
    rw[hlen,List.map_append,gY,List.map_nil]at key P
    refine CallDo.ob key P aX aX (by simp[aM,ae]) ?_
    rintro r ak ⟨rfl,Y,rfl,J,U⟩
    have W:Y=nv ⟨n,k⟩ l:=alU (J.trans ((List.perm_append_comm (l₁:=l) (l₂:=[⟨n,k⟩])).trans (Xj ⟨n,k⟩ l).symm)) (NJ F.asc (EK.1 bf)) U
    subst W
    refine⟨Same.keys Ψ Ψ,?_⟩
    rw[a]
    simp[cL]
    (repeat' first|refine al ?_|simp)
    (refine h4.val Ψ ?_;simp[ba,be,a1,e9,hn,eC,gR,ef,gH,tnL,tn,fq,gb,fold,hE,hC,iH,ae,ei,cf,b5])
    simp[mS]
   ·obtain⟨b,V,w⟩:=eW hi
    by_cases o:b.v=n
    ·have bf:ny l n=some b.k:=by rw[<-o];exact NV F.asc (ft V)
     rw[bf]at a
     simp only at a
     by_cases v:b.k=k
     ·rw[if_pos v]at a
      rw[a]
      have S:(b.k !=k)=false:=by simp[v]
      have B:(b.v==n)=true:=by simp[o]
      simp[hi,w]
      (repeat' first|refine al ?_|simp[w,hi,S,B,v,o])
      (refine h4.val Ψ ?_;simp[ba,be,a1,e9,hn,eC,gR,ef,gH,tnL,tn,fq,gb,fold,hE,hC,iH,ae,ei,cf,b5])
      simp[mS]
     ·rw[if_neg v]at a
      rw[a]
      have S:(b.k !=k)=true:=by simp[v]
      have B:(b.v==n)=true:=by simp[o]
      simp[hi,w]
      (repeat' first|refine al ?_|simp[w,hi,S,B,v,o])
      (refine h4.val Ψ ?_;simp[ba,be,a1,e9,hn,eC,gR,ef,gH,tnL,tn,fq,gb,fold,hE,hC,iH,ae,ei,cf,b5])
      simp[mS]
    ·have B:(b.v==n)=false:=by simp[o]
     simp[hi,w]
     (repeat' first|refine al ?_|simp[w,hi,B,o])
     exact bY.rng () hi (fun j y kn A=>by
      rcases(by omega:j<i\/j=i)with h|rfl
      ·exact H j y h A
      ·rw[V]at A;cases A;exact o) b9
 ·have E:(x.kind !=1)=true:=by cases x<;>first|rfl|exact absurd ⟨_,rfl⟩ Q
  have a:O=if x.kind=k then some l else none:=by rw[<-u];cases x<;>first|rfl|exact absurd ⟨_,rfl⟩ Q
  by_cases M:x.kind=k
  ·rw[if_pos M]at a;rw[a];refine fW.mk mixed a6 Tryz.func118 E5 Ψ fun L κ=>?_;unfold AN;simp;have N:(x.kind !=k)=false:=by simp[M]
   rcases R with⟨q,p⟩|⟨q,p⟩;all_goals(repeat' first|refine al ?_|refine aO d ?_|refine aP d ?_|refine aO f ?_|refine aP f ?_|refine aO g ?_|refine aP g ?_|refine aO c ?_|refine aP c ?_|simp[q,p,E,N])
   all_goals(refine h4.val Ψ ?_;simp[ba,be,a1,e9,hn,eC,gR,ef,gH,tnL,tn,fq,gb,fold,hE,hC,iH,ae,ei,cf,b5])
   all_goals simp[mS]
  ·rw[if_neg M]at a;rw[a];refine fW.mk mixed a6 Tryz.func118 E5 Ψ fun L κ=>?_;unfold AN;simp;have N:(x.kind !=k)=true:=by simp[M]
   rcases R with⟨q,p⟩|⟨q,p⟩;all_goals(repeat' first|refine al ?_|refine aO d ?_|refine aP d ?_|refine aO f ?_|refine aP f ?_|refine aO g ?_|refine aP g ?_|refine aO c ?_|refine aP c ?_|simp[q,p,E,N])
   all_goals(refine h4.val Ψ ?_;simp[ba,be,a1,e9,hn,eC,gR,ef,gH,tnL,tn,fq,gb,fold,hE,hC,iH,ae,ei,cf,b5])
   all_goals simp[mS]
def arQ{s:List Bd}(b:fl s){l:List bH}(a:jx l)(t:T)(c:t.fit=true)(k:Int):
  bU au 118 [bL (s.map Bd.e),b6 (l.map bH.e),t.e,aj k] (nB (if(k=2\/k=3)/\(t.ap (cG s)).size<=5000 then jr l (t.ap (cG s)) k else none)):=by
 have:=(Y0 b a t c k).val (by simp[mS,b5]);simpa[mS,b5,cf,nB]using this
def j3(o:bd (List bo)):af:= .tuple [b6 ((o.getD []).map bo.e),.bool o.isSome]
@[simp]def awa(S:aB->Prop)(o:bd (List bo)):az S (j3 o)=True:=by simp[j3]
def acr{l:List bo}(h:iU l):bU au 88 [b6 (l.map bo.e)] (.bool true):=by have:=acq l;simpa only[h,decide_true]using this
def arS{s:List cS}(h:ks s=true):bU au 160 [.str s] (.bool true):=by have:=vi s;rwa[h]at this
def ES(l:List bo):List af:=l.flatMap fun m=>[m.e,.bool true]
def Yo(l:List bo):pe l= .hdm l.length (List.range l.length)::ES l:=rfl
def Oo(b:Nat):∀(n:Nat) (l:List bo),n5 b (List.range' n l.length) (ES l)=(if n<=b then(l[b-n]?).map fun x=>.tuple [x.e,.bool true]else none)
 |n,[]=>by simp[n5,ES]
 |n,x::r=>by
  have e:ES (x::r)=x.e:: .bool true::ES r:=rfl;simp only[mV,List.range'_succ,e,n5];by_cases h:n=b
  ·subst h;simp
  ·rw[if_neg h,Oo b (n+1) r];by_cases U:n<=b
   ·rw[if_pos U,if_pos Ω];have:b-n=(b-(n+1))+1:=Ω
    rw[this];simp
   ·rw[if_neg U,if_neg Ω]
@[simp]def awY(l:List bo):gV (pe l)=false:=rfl
@[simp]def aw4(m:aB)(l:List bo):z6 m (pe l)=some (cc l.length [] m):=rfl
def amz(f:aB->bd (List af))(gk mk:aB)(n:Nat)(seen:List Nat)(b:Nat)(l:List bo)(x:bo)(hi:f gk=some (cc n (seen++[b]) mk))(hm:f mk=some (pe l))(c:n=l.length)(a:l[b]? =some x):qL f (.ptr gk 0)=some (True,.tuple [x.e,.bool true]):=by subst c;simp only[Yz,hi,hm,cc,Yo,List.getLast?_append,List.getLast?_singleton,Option.some_or,List.range_eq_range',Oo,Nat.zero_le,if_true,Nat.sub_zero,Option.map_map];simp[a]
def afu{st:bp}{d:Nat}{K:bp->Prop}{gk mk:aB}{n:Nat}{seen:List Nat}{l:List bo}(hi:ae gk st.b=some (cc n seen mk))(hm:ae mk st.b=some (pe l))(i:n=l.length)
  (J:(∀b,b<l.length->b∈seen)->K {st with t:=Pv.put d (.tuple [.bool false]) st.t}) (U:∀b x,l[b]? =some x->b∉seen->K {st with t:=Pv.put d (.tuple [.bool true,x.e,.bool true]) st.t,b:=cJ gk (cc n (seen++[b]) mk) st.b}):
  uA st d (.ptr gk 0) K:=by
 subst i;simp only[uA,hi,cc,hm,Yo,OG,and_self,true_and];refine⟨fun h=>J fun b c=>h b (by simpa using c),fun b k v a c=>?_⟩;rw[List.range_eq_range',Oo]at a;simp only[Nat.zero_le,if_true,Nat.sub_zero,hq,af.tuple.injEq,rQ,jd]at a;obtain⟨x,f,g,e⟩:=a;subst g e;exact U b x f c
def amu{m x:bo}{l:List bo}:x∈l8 m l↔x=m\/x∈l:=by
 unfold l8;split
 ·constructor
  ·exact .inr
  ·rintro(rfl|h)<;>assumption
 ·simp[or_comm]
def adK{m:bo}{l:List bo}(h:l.Nodup):(l8 m l).Nodup:=by
 unfold l8;split
 ·exact h
 ·rw[rS];exact⟨h,Ψ,fun a d b c=>by simp at c;subst c;intro e;subst e;contradiction⟩
def adJ(m:bo)(l:List bo):(l8 m l).length<=l.length+1:=by unfold l8;split<;>simp
def air(s:List cS)(t:T):∀l:List bo,(t.fold (fun v l=>l8 ⟨v,s⟩ l) l).length<=l.length+t.size:=by
 induction t with
 |var n=>intro l;simp only[T.fold,T.size];exact adJ _ _
 |pair a b d c=>intro l;simp only[T.fold,T.size];have:=d l;have:=c (a.fold (fun v l=>l8 ⟨v,s⟩ l) l);omega
 |_=>intro l;simp[T.fold,T.size]
def ais(s:List cS)(t:T):∀{l:List bo},l.Nodup->(t.fold (fun v l=>l8 ⟨v,s⟩ l) l).Nodup:=by
 induction t with
 |var n=>intro l h;exact adK h
 |pair a b d c=>intro l h;exact c (d h)
 |_=>intro l h;exact h
def amv(s:List cS)(t:T)(x:bo):∀{l:List bo},x∈t.fold (fun v l=>l8 ⟨v,s⟩ l) l↔x∈l\/(x.s=s/\t.occ x.v=true):=by
 induction t with
 |var n=>
  intro l;simp only[T.fold,amu,T.occ,ey];constructor
  ·rintro(rfl|h)
   ·exact .inr ⟨rfl,rfl⟩
   ·exact .inl h
  ·rintro(h|⟨J,U⟩)
   ·exact .inr h
   ·left;cases x;simp at J U;subst J U;rfl
 |pair a b d c=>
  intro l;simp only[T.fold,c,d,T.occ,oe];constructor
  ·rintro((h|h)|h)
   ·exact .inl h
   ·exact .inr ⟨h.1,.inl h.2⟩
   ·exact .inr ⟨h.1,.inr h.2⟩
  ·rintro(h|⟨J,U|U⟩)
   ·exact .inl (.inl h)
   ·exact .inl (.inr ⟨J,U⟩)
   ·exact .inr ⟨J,U⟩
 |_=>intro l;simp[T.fold,T.occ]
def alD(M:List bo)(k:Nat)(st:bp):Prop:=∃(seen:List Nat) (xs:List bo),seen.Nodup/\(∀b∈seen,b<M.length)/\k=M.length-seen.length/\xs=seen.filterMap (fun b=>M[b]?)/\xs.length=seen.length/\st=⟨[(15,.ptr (.obj 815) 0),(63,.ptr (.loc 2) 0)],[(.obj 812,pe M),(.loc 2,cc M.length seen (.obj 812)),(.obj 815,[.row 2 (.obj 814) xs.length])],[(.obj 814,⟨xs.length,100,2,some (xs.map bo.e)⟩)],3,[.obj 815,.obj 814,.obj 813,.obj 812,.obj 811]⟩
def arP{s:List Bd}(B:fl s){l:List bo}(R:iU l)(oD:l.length<=68719470000)(t:T)(aJ:t.fit=true){g:List cS}(bf:ks g=true):
  bU au 120 [bL (s.map Bd.e),b6 (l.map bo.e),t.e,.str g] (j3 (if(t.ap (cG s)).size<=5000 then nb l (t.ap (cG s)) g else none)):=by
 have n:=rM B;have o:=QS aJ;have p:=acr R;have m:=arS bf;have d:=Kg s t B.len B.sol.asc B.fit;generalize ad:t.ap (cG s)=x at d⊢;generalize w:(if x.size<=5000 then nb l x g else none)=O;by_cases q:x.size<=5000;rotate_left
 ·rw[if_neg q]at w;rw[<-w];rw[if_neg q,mv q]at d;refine bI a6 Tryz.func120 OX fun V=>?_;unfold GA;simp;(repeat' first|refine al ?_|refine aO n ?_|refine aP n ?_|refine aO o ?_|refine aP o ?_|refine aO p ?_|refine aP p ?_|refine aO m ?_|refine aP m ?_|refine aO d ?_|refine aP d ?_|simp);simp[bZ,ba,be,a1];simp[j3]
 rw[if_pos q]at w;rw[if_pos q,lJ q]at d;have u:=ash g x;cases z:x.has g;rotate_left
 ·rw[z]at u;have gE:O=none:=by rw[<-w];unfold nb;rw[z];rfl
  rw[gE];refine bI a6 Tryz.func120 OX fun V=>?_;unfold GA;simp;(repeat' first|refine al ?_|refine aO n ?_|refine aP n ?_|refine aO o ?_|refine aP o ?_|refine aO p ?_|refine aP p ?_|refine aO m ?_|refine aP m ?_|refine aO d ?_|refine aP d ?_|refine aO u ?_|refine aP u ?_|simp);simp[bZ,ba,be,a1];simp[j3]
 rw[z]at u;refine bI a6 Tryz.func120 OX fun V=>?_;unfold GA;simp;(repeat' first|refine al ?_|refine aO n ?_|refine aP n ?_|refine aO o ?_|refine aP o ?_|refine aO p ?_|refine aP p ?_|refine aO m ?_|refine aP m ?_|refine aO d ?_|refine aP d ?_|refine aO u ?_|refine aP u ?_|simp);have X:l.Nodup:=iP.nodup mP R.asc;have L:∀xs:List bo,xs.Perm (x.fold (fun v l=>l8 ⟨v,g⟩ l) l)->O=some (p8 gd xs):=fun xs Q=>by
  rw[<-w];refine KG z ?_ fun y=>?_
  ·have J:=Qm mP xs;have U:(p8 gd xs).Nodup:=(((Ak gd xs).trans Q).nodup_iff).2 (ais g x X);exact(J.and U).imp fun{a b} h=>by have:=mt (mP.zero a b).1 h.2;omega
  ·rw[((Ak gd xs).trans Q).mem_iff,amv]
 have hlen:(x.fold (fun v l=>l8 ⟨v,g⟩ l) l).length<=68719475000:=by have:=air g x l;omega
 rw[show k0 []=pe []from rfl];refine fS (fun i (_:Unit)=>⟨[(7,.ptr (.obj 811) 0),(10,.ptr (.loc 1) 0),(12,.ptr (.obj 813) 0),(49,b6 (l.map bo.e)),(50,aj l.length),(51,aj i)],[(.obj 811,[.str g]),(.loc 1,[aj x.kind,aj x.int,.str x.name,dx (x.args.map T.e)]),(.obj 812,pe (l.take i)),(.obj 813,[.gmap (.obj 812)])],[],2,[.obj 813,.obj 812,.obj 811]⟩) l.length (fun _ _=>True) () b9 trivial (fun _ _ _=>?_) (fun i _ hi _ _=>?_)
 ·rw[jA];simp;(repeat' first|refine al ?_|simp);have key:=VB (pF g) (Gk g) (Ky g) 184 [.ptr (.obj 813) 0,.ptr (.obj 811) 0] (by intro a;simp[aM,pF,ae,aH,az]) Ψ (fun v l=>l8 ⟨v,g⟩ l) (fun v a=>aiz g v a) x l;refine CallDo.ob key (Gk g l) (by unfold pF;exact aX) (by unfold pF;exact aX) (by simp[aM,pF,ae]) ?_;rintro r ak ⟨rfl,rfl⟩;refine⟨Ky g _ _,?_⟩;unfold pF;generalize eG:x.fold (fun v l=>l8 ⟨v,g⟩ l) l=M at L hlen⊢;simp[cL];(repeat' first|refine al ?_|simp);refine qq (alD M) M.length _ ⟨by simp[fresh,aH,az,cc,aM,ae,BV],eo (by simp[fresh,aH,az,cc,aM,ae,BV]),ep (by simp[fresh,aH,az,dV,aM,ae,BV]),Ψ⟩ ⟨[],[],Ψ,Ψ,Ψ,Ψ,Ψ,rfl⟩ ?_;rintro k st ⟨seen,xs,F,A,ab,W,kW,rfl⟩ lR c4;clear lR c4;have hle:=JR F A;simp;refine afu (mk:= .obj 812) (seen:=seen) (l:=M) Ψ Ψ rfl (fun Z=>?_) (fun b y H E=>?_)
  ·have K:=Qe F A Z;rw[<-W]at K;have ee:=L xs K;simp;(repeat' first|refine al ?_|simp);have key:=ajo xs Ω;have P:=Kx xs;unfold yH eA at key P;refine CallDo.ob key P aX aX (by simp[aM,ae]) ?_;rintro r ak ⟨rfl,rfl⟩;refine⟨Same.keys Ψ Ψ,?_⟩;rw[ee];simp[cL];(repeat' first|refine al ?_|simp);simp[bZ,ba,be,a1];simp[j3]
  ·have Y:∀f:aB->bd (List af),f (.loc 2)=some (cc M.length (seen++[b]) (.obj 812))->f (.obj 812)=some (pe M)->qL f (.ptr (.loc 2) 0)=some (True,.tuple [y.e,.bool true]):=fun f J U=>amz f (.loc 2) (.obj 812) M.length seen b M y J U rfl H;have N:b<M.length:=(fH.1 H).1;have qC:=Qf F A N E;simp[Y];(repeat' first|refine al ?_|simp[Y]);all_goals try refine⟨by unfold lim;omega,?_⟩
   have G:∀S:aB->Prop,aH S (xs.map bo.e++[y.e])=True:=fun S=>by
    have e:xs.map bo.e++[y.e]=(xs++[y]).map bo.e:=Ψ
    rw[e];simp[-List.map_append]
   refine bY.next (M.length-(seen.length+1)) Ω ⟨seen++[b],xs++[y],OP F E,(by simp;intro c aw;rcases aw with aw|rfl;exact A c aw;exact N),Ψ,by rw[List.filterMap_append,<-W];simp[H],by simp[kW],rfl⟩ ⟨by simp[fresh,aH,az,cc,aM,ae,BV,G],eo (by simp[fresh,aH,az,cc,aM,ae,BV,G]),ep (by simp[fresh,aH,az,dV,aM,ae,BV,G]),Ψ⟩
 ·obtain⟨b,E,dg⟩:=eW hi;have jY:l8 b (l.take i)=l.take (i+1):=by
   have J:b∉l.take i:=fun h=>by
    obtain⟨j,ah,e⟩:=pA h;have kn:j<i:=by simp at ah;omega
    rw[List.getElem_take]at e;have:=(List.nodup_iff_pairwise_ne.1 X);exact(q2.1 this j i Ω hi kn) (by rw[e,dg])
   rw[List.take_succ,E];simp[l8,J]
  exact iV
def Sd:C:=(aa [bz 4 false] (.seq (aa [I 7 0,cw 8 7,bP 9 0] (gw 10 9 8 (.seq (.block 1 (aa [ck 11 5 7 9,bk 12 5 11,dI 6 ku,bV 5 6 12] (aa [aF 13 0 1 6,ay 14 1 13,I 15 1,bu 16 .geq 14 15,I 17 16,ax 17 false (hp 18 1 4 6),ax 17 false (bk 19 4 18),ys 17 false (.bsl 20 4 30 [.t 19]),ax 17 false (c0 21 162 20),cg 17 false 22 1,ax 17 false (bu 23 .gtr 21 22),ds 24 17 23] (aW 24 (aa [bz 4 false] .ret) .skip)))) (.region [aV 25 .add 9 1,I 9 25])))) (aa [bz 4 true] .ret)))
def Sc:C:=(aa [bP 2 0] (.seq (aa [I 6 0,c0 7 172 6,cO 8 7] (aW 8 (aa [bP 2 (-1)] .ret) .skip)) (aa [dt (.alloc 3 (some 831) (.int .i64 0)),dt (.store 1 (.t 3) (gX 0))] (.seq (aa [I 9 0,cw 10 9,bP 11 0] (gw 12 11 10 (.seq (.block 1 (aa [ck 13 4 9 11,bk 14 4 13,dI 5 eB,bV 4 5 14] (.region [bk 15 4 5,cd 16 (.mkf 204 [.t 3]),cb 17 134 15 16]))) (.region [aV 18 .add 11 1,I 11 18])))) (aa [ay 19 1 3,I 2 19] .ret)))))
def R8:C:=(aa [fw 4 2,bz 5 false] (.seq (aa [I 11 0,c0 12 86 11,cO 13 12,I 14 13,cg 14 false 15 1,ax 14 false (c0 16 87 15),ax 14 false (cO 17 16),ds 18 14 17] (aW 18 (aa [fw 4 2,bz 5 false] .ret) .skip)) (aa [fe 19 2 98 [],I 6 19] (.seq (.seq (.fg false 6 (.region [I 20 1,cw 21 20,bP 22 0])) (gw 23 22 21 (.seq (.block 1 (aa [ck 24 2 20 22,bk 25 2 24,dt (.alloc 8 none (.agg [.int .i64 0,.int .i64 0])),bV 2 8 25] (.seq (.drawn true 42 [I 27 0,I 28 6,aF 29 0 1 8,ay 30 1 29,c0 31 116 30,aF 32 1 1 8,ay 33 1 32,dT 34 118 [.t 27,.t 28,.t 31,.t 33],I 26 34,cV 35 0 26,cV 36 1 26,I 9 35,I 10 36]) (.seq (aa [I 37 10,cO 38 37] (aW 38 (aa [fw 4 2,bz 5 false] .ret) .skip)) (.region [I 39 9,I 6 39]))))) (.region [aV 40 .add 22 1,I 22 40])))) (aa [I 41 6,I 4 41,bz 5 true] .ret)))))
def R9:C:=(aa [fw 4 2,bz 5 false] (.seq (aa [I 11 0,c0 12 86 11,cO 13 12,I 14 13,cg 14 false 15 1,ax 14 false (c0 16 88 15),ax 14 false (cO 17 16),ds 18 14 17] (aW 18 (aa [fw 4 2,bz 5 false] .ret) .skip)) (aa [fe 19 2 100 [],I 6 19] (.seq (.seq (.fg false 6 (.region [I 20 1,cw 21 20,bP 22 0])) (gw 23 22 21 (.seq (.block 1 (aa [ck 24 2 20 22,bk 25 2 24,dt (.alloc 8 none (.agg [.int .i64 0,.str []])),bV 2 8 25] (.seq (.drawn true 42 [I 27 0,I 28 6,aF 29 0 1 8,ay 30 1 29,c0 31 116 30,aF 32 1 1 8,ay 33 1 32,dT 34 120 [.t 27,.t 28,.t 31,.t 33],I 26 34,cV 35 0 26,cV 36 1 26,I 9 35,I 10 36]) (.seq (aa [I 37 10,cO 38 37] (aW 38 (aa [fw 4 2,bz 5 false] .ret) .skip)) (.region [I 39 9,I 6 39]))))) (.region [aV 40 .add 22 1,I 22 40])))) (aa [I 41 6,I 4 41,bz 5 true] .ret)))))
def R5:C:=(aa [fw 2 1] (.seq (aa [I 12 0,cw 13 12,bP 14 0] (gw 15 14 13 (.seq (.block 1 (aa [ck 16 1 12 14,ay 17 1 16,I 4 17] (aa [I 18 4,c0 19 86 18,cO 20 19] (aW 20 (aa [fw 2 1] .ret) .skip)))) (.region [aV 21 .add 14 1,I 14 21])))) (aa [dt (.bslm 22 (some 821) 1 46 []),I 23 0,dt (.appm 24 none 1 46 (.t 22) (.t 23)),dt (.alloc 5 (some 822) (.slice 1 .nil [])),bV 1 5 24] (aa [ay 25 1 5,cd 26 (.mkif 47 (.t 25)),cd 27 (.mkf 206 [.t 5]),cb 28 140 26 27] (aa [fe 29 1 46 [],I 6 29] (.seq (aa [ay 30 1 5,cw 31 30,bP 32 0] (.block 2 (.loop (aa [bu 33 .lss 32 31] (.seq (aW 33 .skip (.exit 2)) (.seq (.block 3 (aa [I 34 32,ck 35 1 30 32,ay 36 1 35,I 7 34,I 8 36] (.seq (aa [I 37 7,aV 38 .gtr 37 0,I 39 38,ax 39 true (ay 40 1 5),cg 39 true 41 7,ax 39 true (aV 42 .sub 41 1),ax 39 true (ck 43 1 40 42),ax 39 true (ay 44 1 43),cg 39 true 45 8,ax 39 true (cb 46 207 44 45),ax 39 true (aV 47 .eql 46 0),eg 48 39 47] (aW 48 (.exit 3) .skip)) (aa [bz 9 true] (.seq (aa [ay 49 1 5,cw 50 49,bP 51 0] (.block 4 (.loop (aa [bu 52 .lss 51 50] (.seq (aW 52 .skip (.exit 4)) (.seq (.block 5 (aa [ck 53 1 49 51,ay 54 1 53,I 11 54] (aa [I 55 11,I 56 8,cb 57 207 55 56,aV 58 .neq 57 0,I 59 58,cg 59 true 60 11,cg 59 true 61 8,ax 59 true (cb 62 208 60 61),eg 63 59 62] (aW 63 (.region [bz 9 false]) .skip)))) (.region [aV 64 .add 51 1,I 51 64]))))))) (aa [I 65 9] (aW 65 (.region [I 66 6,I 67 8,c0 68 168 67,fe 69 1 46 [.t 68],h1 70 1 46 66 69,I 6 70]) .skip))))))) (.region [aV 71 .add 32 1,I 32 71]))))))) (aa [I 72 6,I 2 72] .ret)))))))
def KZ:C:=(.region [ay 3 1 1,I 4 0,aV 5 .add 4 1,cd 6 (.max2 (.t 3) (.t 5)),bV 1 1 6])
def R6:C:=(aa [bz 5 false] (.seq (.drawn true 16 [ay 6 1 2,I 7 0,ck 8 1 6 7,ay 9 1 8,ay 10 1 2,I 11 1,ck 12 1 10 11,ay 13 1 12,cb 14 207 9 13,aV 15 .lss 14 0,I 5 15]) .ret))
def anx:b4 aT Sd [.tmp 4] 2 Tryz.f89=true:=bi
def anw:b4 aT Sc [.tmp 2] 1 Tryz.f162=true:=bi
def ans:b4 aT R8 [.tmp 4,.tmp 5] 2 Tryz.f163=true:=bi
def ant:b4 aT R9 [.tmp 4,.tmp 5] 2 Tryz.f164=true:=bi
def anp:b4 aT R5 [.tmp 2] 1 Tryz.f167=true:=bi
def Zg:b4 aT KZ [] 2 Tryz.f204=true:=bi
def anq:b4 aT R6 [.tmp 5] 3 Tryz.f206=true:=bi
def Xm(s:List Bd)(l:List bH)(i:Nat)(a:List bH):Prop:=jx a/\gS s (l.drop i) a=gS s l []
def arB{α:Type}(n:Nat)(dp:jF)(a:List α):Prop:=(dp= .no/\a=[])\/ ∃m,dp= .tr (.loc m) 0/\m<n
def Y3{s:List Bd}(g:fl s){l:List bH}(o:jx l):fW au 163 [bL (s.map Bd.e),b6 (l.map bH.e)] (mS (gS s l [])):=by
 have u:=ss o;have p:=rM g;have q:=acp o;refine fW.mk mixed a6 Tryz.func163 ans Ψ fun v κ=>?_;unfold R8;simp;(repeat' first|refine al ?_|refine aO p ?_|refine aP p ?_|refine aO q ?_|refine aP q ?_|simp);refine fS (fun i (x:Nat×jF×List bH)=>⟨[(0,bL (s.map Bd.e)),(20,b6 (l.map bH.e)),(21,aj l.length),(6,.slice 2 x.2.1 (x.2.2.map bH.e)),(22,aj i)],[],[],x.1,[]⟩) l.length (fun i x=>arB x.1 x.2.1 x.2.2/\Xm s l i x.2.2) (0,.no,[]) b9 ⟨.inl ⟨rfl,rfl⟩,⟨Ψ,Ψ⟩,rfl⟩ (fun x c _=>?_) (fun i x hi c _=>?_)
 ·obtain⟨n,dp,a⟩:=x;obtain⟨h,_,c⟩:=c;simp only at h c;rw[List.drop_length]at c;simp only[gS]at c;rw[<-c];rcases h with⟨rfl,rfl⟩|⟨m,rfl,hm⟩
  ·simp;(repeat' first|refine al ?_|simp);(refine h4.val Ψ ?_;simp[ba,be,a1,e9,hn,eC,gR,ef,gH,tnL,tn,fq,gb,fold,hE,hC,iH,ae,ei,cf,b5]);simp[mS]
  ·simp;(repeat' first|refine al ?_|simp);(refine h4.val Ψ ?_;simp[ba,be,a1,e9,hn,eC,gR,ef,gH,tnL,tn,fq,gb,fold,hE,hC,iH,ae,ei,cf,b5]);simp[mS]
 ·obtain⟨n,dp,a⟩:=x;obtain⟨h,k,c⟩:=c;simp only at h k c;obtain⟨b,t,f⟩:=eW hi;have e:=o.at' b (ft t);rw[lG hi,f]at c;simp only[gS]at c;have d:=Y0 g k (.var b.v) (by simp[T.fit,T.ok,T.size,e.1]) b.k;have r:((T.var b.v).ap (cG s)).size<=5000:=FH g b.v;rw[if_pos ⟨e.2,r⟩,show(T.var b.v).ap (cG s)=cG s b.v from rfl]at d;have dy:b5 (.slice 2 dp (a.map bH.e))=b6 (a.map bH.e):=by simp[b5]
  simp[hi,f];cases j:jr a (cG s b.v) b.k with
  |none=>rw[j]at c d;simp only at c;rw[<-c];unfold mS at d;(repeat' first|refine al ?_|refine aO (l3 _) ?_|refine aP (l3 _) ?_|simp[f,hi]);(refine hK.own Ψ (d) (by simp[qu,ae]<;>omega) ?_;simp);(repeat' first|refine al ?_|simp);(refine h4.val Ψ ?_;simp[ba,be,a1,e9,hn,eC,gR,ef,gH,tnL,tn,fq,gb,fold,hE,hC,iH,ae,ei,cf,b5]);simp[mS]
  |some br=>
   rw[j]at c d;unfold mS at d;(repeat' first|refine al ?_|refine aO (l3 _) ?_|refine aP (l3 _) ?_|simp[f,hi]);(refine hK.own Ψ (d) (by simp[qu,ae]<;>omega) ?_;simp);(repeat' first|refine al ?_|simp);refine bY.rng (n+1+42,.tr (.loc (n+1+34)) 0,br) hi ?_ ?_
   ·exact⟨.inr ⟨n+1+34,rfl,(by omega:n+1+34<n+1+42)⟩,Gr k (CL g e.1) e.2 j,c⟩
   simp;exact b9
def arY{s:List Bd}(b:fl s){l:List bH}(a:jx l):bU au 163 [bL (s.map Bd.e),b6 (l.map bH.e)] (nB (gS s l [])):=by have:=(Y3 b a).val (by simp[mS,b5]);simpa[mS,b5,cf,nB]using this
def Xn(s:List Bd)(G:List (List cS))(l:List bo)(i:Nat)(a:List bo):Prop:=iU a/\oR G a/\gW s (l.drop i) a=gW s l []
def acs{s:List Bd}(h:fl s){l:List bo}(k:iU l){G:List (List cS)}(v:G.length<=687000)(bf:oR G l):bU au 164 [bL (s.map Bd.e),b6 (l.map bo.e)] (j3 (gW s l [])):=by
 have hlen:∀{a:List bo},iU a->oR G a->a.length<=68719470000:=fun J U=>by have:=ET J U;omega
 have u:=hlen k bf;have m:=rM h;have n:=acr k;refine bI a6 Tryz.func164 ant fun w=>?_;unfold R9;simp;(repeat' first|refine al ?_|refine aO m ?_|refine aP m ?_|refine aO n ?_|refine aP n ?_|simp);refine eZ [0,20,21] (fun i (a:List bo)=>[(6,b6 (a.map bo.e)),(22,aj i)]) l.length (Xn s G l) [] b9 ⟨⟨Ψ,by simp[iP]⟩,fun x r=>by simp at r,rfl⟩ (fun a c _=>?_) (fun i a hi c _=>?_)
 ·obtain⟨_,_,c⟩:=c;rw[List.drop_length]at c;simp only[gW]at c;rw[<-c];simp;(repeat' first|refine al ?_|simp);simp[bZ,ba,be,a1];simp[j3]
 ·obtain⟨j,p,c⟩:=c;obtain⟨b,o,g⟩:=eW hi;have e:=k.at' b (ft o);have t:=bf b (ft o);rw[lG hi,g]at c;simp only[gW]at c;have d:=arP h j (hlen j p) (.var b.v) (by simp[T.fit,T.ok,T.size,e.1]) e.2;have q:((T.var b.v).ap (cG s)).size<=5000:=FH h b.v;rw[if_pos q,show(T.var b.v).ap (cG s)=cG s b.v from rfl]at d;simp[hi,g];cases f:nb a (cG s b.v) b.s with
  |none=>rw[f]at c d;simp only at c;rw[<-c];simp only[j3]at d;(repeat' first|refine al ?_|refine aO (l3 _) ?_|refine aP (l3 _) ?_|refine aO d ?_|refine aP d ?_|simp[g,hi]);simp[bZ,ba,be,a1];simp[j3]
  |some br=>rw[f]at c d;simp only[j3]at d;(repeat' first|refine al ?_|refine aO (l3 _) ?_|refine aP (l3 _) ?_|refine aO d ?_|refine aP d ?_|simp[g,hi]);exact bY.rng br hi ⟨KH j (CL h e.1) e.2 f,KI p t f,c⟩ b9
end
section
open Go Go.Pv Go.Lib
def cP(d:List Bd):af:=bL (d.map Bd.e)
@[simp]def avV(S:aB->Prop)(d:List Bd):az S (cP d)=True:=by simp[cP]
@[simp]def at1(d:List Bd):cells (cP d)=[cP d]:=rfl
@[simp]def axl(d:List Bd):eT (cP d)=true:=rfl
@[simp]def axM(d:List Bd):b5 (cP d)=cP d:=by simp[cP]
def Ul:∀(S:aB->Prop) (x:List Bd),az S (cP x):=fun S x=>by simp
def N1(S:aB->Prop):∀l:List (List Bd),aH S (l.map cP)
 |[]=>by simp[aH]
 |x::xs=>by simp[aH,N1 S xs]
@[simp]def XU(S:aB->Prop)(l:List (List Bd)):aH S (l.map cP)=True:=h2 (N1 S l)
@[simp]def Qt:∀l:List (List Bd),cf (l.map cP)=l.map cP
 |[]=>rfl
 |x::xs=>by simp[cf,Qt xs]
def gz(d:List Bt):af:=bL (d.map Bt.e)
@[simp]def at3(d:List Bt):cells (gz d)=[gz d]:=rfl
@[simp]def axn(d:List Bt):eT (gz d)=true:=rfl
def LF(d:List Bd):gz (d.map Bd.b)=cP d:=by simp only[gz,cP,zL]
def LG(l:List (List Bd)):(l.map fun d=>d.map Bd.b).map gz=l.map cP:=by rw[List.map_map];exact List.map_congr_left fun d _=>LF d
@[simp]def avY(S:aB->Prop)(d:List Bt):az S (gz d)=True:=by simp[gz]
@[simp]def axP(d:List Bt):b5 (gz d)=gz d:=by simp[gz]
def XW(S:aB->Prop):∀l:List (List Bt),aH S (l.map gz)
 |[]=>by simp[aH]
 |x::xs=>by simp[aH,XW S xs]
@[simp]def avQ(S:aB->Prop)(l:List (List Bt)):aH S (l.map gz)=True:=h2 (XW S l)
abbrev vw(l:List (List Bd)):cR:=eA cP 821 822 46 1 l
def Kt(l:List (List Bd)):ez (vw l):=yI Ul l
def aiC(l:List (List Bd))(m:l.length<=68719476736)(i j:Nat)(x y:List Bd)(hi:l[i]? =some x)(h:l[j]? =some y):bG au 206 [aj i,aj j,.ptr (.obj 822) 0] (vw l) fun r g=>r= .bool (iL fa x y)/\g=vw l:=by have a:=Kt l;obtain⟨c,d⟩:=fH.1 hi;obtain⟨e,b⟩:=fH.1 h;have f:bU au 207 [cP x,cP y] (aj (fa x y)):=Ke x y;unfold vw eA at a⊢;refine bG.mk mixed a6 Tryz.func206 anq Ψ a.obj fun n k=>?_;unfold R6;simp[c,e,d,b];(repeat' first|refine al ?_|refine aO f ?_|refine aP f ?_|simp[c,e,d,b]);refine c5.at _ (.inl rfl) a (Same.refl _) aX aX ?_;simp[dc,ba,be,a1,iL]
noncomputable def Tryz.dsT:TypeInfo:=(au.info? 47).get bi
noncomputable def Tryz.dsE:TypeInfo:=(au.info? 46).get bi
def Tryz.dsK(n:Nat)(U:2<=n):Lib.swapperK n Tryz.dsE 23=9:=by
 have a:Tryz.dsE.hasPointers=true:=bi
 have b:Tryz.dsE.bytes=24:=bi
 have c:(n==0)=false:=by simp;omega
 have d:(n==1)=false:=by simp;omega
 simp[Lib.swapperK,a,b,c,d]
def ajl(l:List (List Bd))(d:l.length<=68719476736):bG au 140 [.iface 47 (.row 1 (.obj 821) l.length),.func 206 [.ptr (.obj 822) 0]] (vw l) fun r b=>r= .tuple []/\b=vw (p8 fa l):=by
 refine(aiF Ul (K:=821) (B:=822) (sz:=1) 47 Tryz.dsT Tryz.dsE bi bi bi bi 23 (fun _=>by kernel_rfl) Tryz.dsK 206 (iL fa) mO.ltOk l d (fun a h i j x y hi c=>aiC a Ω i j x y hi c) (fun a h i j hi c=>?_)).mono ?_
 ·have:=VQ (P:=au) false 230 (fun args W=>run_callFunc_extern Tryz.func230 bi bi bi (e:=Ga false) bi args W)
   46 Tryz.dsE bi (.inr ⟨by kernel_rfl,fun _=>by kernel_rfl⟩) (Kt a) (K:=821) (n:=l.length) (el:=46) (sz:=1) bi (xs:=a.map cP) (by simp[eA,ae,h]) i j hi c
  refine this.mono ?_;rintro r b ⟨rfl,rfl⟩;refine⟨rfl,?_⟩;simp[eA,cJ,Yk,h]
 ·rintro r b ⟨rfl,a,rfl,J,U⟩;exact⟨rfl,by rw[abK mO J U]⟩
end
end Go.Proofs.YtahlgcidhnjlbaaGreat
