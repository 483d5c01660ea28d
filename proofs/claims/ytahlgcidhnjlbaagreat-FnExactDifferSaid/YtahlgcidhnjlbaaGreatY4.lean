/- Contracts: disequalities in order. -/
import Derived.Lib.OwnBridge
import Derived.Shelf.GgSortMore.Stable
import Derived.Shelf.GgSortFunc.SmallK
import Derived.Shelf.GgSortFunc.Slice
import Derived.Ground.GgsProg
import Derived.Test.YtahlgcidhnjlbaaGreatProg
import Derived.Test.YtahlgcidhnjlbaaGreatY3
set_option linter.all false
set_option maxHeartbeats 4000000
set_option maxRecDepth 4000
open Array renaming getD_eq_getD_getElem?->vz,getElem?_toList->vA,replicate->sW
open BitVec renaming ofInt->r3
open Bool renaming and_eq_true->cO,eq_iff_iff->rf,false_eq_true->hU,not_eq_true'->r4,or_eq_true->oo
open Go renaming Program->cG,TypeId->gW
open Go.Extern.ReflectliteSwapper renaming swap->Gp,swapper->ayH
open Go.Extern.ReflectliteValue renaming len->ayI,method->ayJ,unpack->at1,valueError->at2
open Go.Extern.Rtype renaming kind->adQ
open Go.IntKind renaming bits->pI,i64->vB,signed->um,u64->ij,wrap->uo
open Go.IntWalk renaming i64_in->pJ
open Go.Proofs.Tryz renaming prog->au
open Go.Result renaming andThen_ok->gA
open Go.Sem renaming run_bind->gm,run_pure->hs
open Go.Value.slice renaming injEq->ayM
open List renaming cons_append->b6,drop_eq_getElem_cons->lJ,getElem?_append_left->r6,getElem?_append_right->vC,getElem?_eq_getElem->ck,getElem?_eq_none->rh,getElem?_eq_some_iff->fI,getElem_of_mem->pM,length_append->qv,length_cons->mZ,map_cons->gX,map_nil->o2,mem_append->jT,mem_cons->gJ,mem_cons_of_mem->ri,mem_map->hc,mem_of_getElem?->fx,nil_append->cc,nodup_append->r7,pairwise_iff_getElem->rj,take_length->jA,take_of_length_le->iv
open List.Pairwise renaming map->ayN
open List.cons renaming injEq->r5
open Nat renaming add_mul->rk,le_refl->dO,le_trans->kg,mul_le_mul_right->r8
open Option renaming isSome_iff_exists->fy,isSome_none->k6,map_eq_some_iff->ht,map_some->pN
open Option.some renaming injEq->dV
open Prod.mk renaming injEq->jo
open _root_ renaming False->eb,UInt8->cV,and_true->jb,beq_iff_eq->eA,congrArg->fC,decide_eq_false->mz,decide_eq_false_iff_not->iN,decide_eq_true->lK,decide_eq_true_eq->gn,eq_true->h1
namespace Go.Proofs.YtahlgcidhnjlbaaGreat
section
open Go Go.Pv
variable {α:Type} [Inhabited α] {S:List α->cT} {n g cr:Nat} {lc ch:List af} {lt:α->α->Bool}
def w2{p:α->Bool}{d:Array α}{i j:Nat}(h:¬(i<=j/\p d[j]! =true)):Sort.scanDown p d i j=j:=by
 cases j with
 |zero=>rfl
 |succ j=>rw[Sort.scanDown,if_neg (by simpa using h)]
def CW{p:α->Bool}{d:Array α}{i j:Nat}(h:¬(i<=j/\p d[i]! =true)):Sort.scanUp p d j i=i:=by rw[Sort.scanUp,if_neg (by simpa using h)]
def Qw{p:α->Bool}{d:Array α}{i j:Nat}(J:i<=j)(U:p d[i]! =true):Sort.scanUp p d j i=Sort.scanUp p d j (i+1):=by rw[Sort.scanUp,if_pos (by simp[J,U])]
def Qv{p:α->Bool}{d:Array α}{i j:Nat}(J:i<=j+1)(U:p d[j+1]! =true):Sort.scanDown p d i (j+1)=Sort.scanDown p d i j:=by rw[Sort.scanDown,if_pos (by simp[J,U])]
def ajF(H:fS S n g cr lc ch lt)(d:Array α)(P:d.size=n)(a b pivot:Nat)(tp:a<=pivot)(alo:pivot<b)(nn:a+1<b)(ag:b<=n):
  bE au 244 [fE g cr lc ch,aj a,aj b,aj pivot] (S d.toList) fun r ak=>r= .tuple [aj (Sort.partition lt d a b pivot).1,.bool (Sort.partition lt d a b pivot).2.1]/\∃N,ak=S N.toList/\N=(Sort.partition lt d a b pivot).2.2/\N.size=n:=by
 obtain⟨R,br⟩:∃R,R=Sort.partition lt d a b pivot:=⟨_,rfl⟩;rw[<-br];unfold Sort.partition at br;have U:=H.ok d.toList;have k:d.toList.length=n:=by simpa using P
 have Q:∀l m,ae (.loc m) (S l).b=none:=fun l=>(H.ok l).obj.1;have hu:∀l m cs,cL (.loc m) cs (S l).b=(S l).b++[(.loc m,cs)]:=fun l m cs=>kO (Q l m);have aq:∀m,aB.loc m∉cJ (S d.toList):=kJ U.obj;have hle:=H.le;refine bE.mk mixed a6 Tryz.func244 apb Ψ U.obj fun aR c5=>?_;unfold TJ;simp[fE,hu,aq,c7,Q];rw[H.ssc];refine H.swapA0 P Ω a pivot Ω Ω fun o=>?_;obtain⟨d1,L⟩:∃d1,d1=Sort.swp d a pivot:=⟨_,rfl⟩;have s1:d1.size=n:=by rw[L,hQ,P]
 rw[<-L];simp only[<-L]at br;have ao:((a:Int)+1)=(a+1:Nat):=Ω
 have aC:((b:Int)-1)=(b-1:Nat):=Ω
 simp;(repeat' first|refine al ?_|simp);rw[ao,aC];refine H.loopA k [1,4,11] (fun(i:Nat)=>[(10,aj i)]) (fun _=>d1) (fun i=>b+1-i) (fun i=>a+1<=i/\i<=b/\Sort.scanUp (fun x=>lt x d1[a]!) d1 (b-1) i=Sort.scanUp (fun x=>lt x d1[a]!) d1 (b-1) (a+1)) (a+1) s1 ⟨Ω,Ω,rfl⟩ gt aX aX dl ?_;rintro i ⟨i1,i2,i3⟩;simp[ae,H.slc];((repeat' first|refine al ?_|simp[ae,H.slc]|((first|apply cq|apply cu|apply ct)<;>intro h<;>try simp at h))<;>(try exact c0));refine H.lessA s1 i a Ω Ω fun o=>?_;cases O:lt d1[i]! d1[a]!;rotate_left
 ·have E:((i:Int)+1)=(i+1:Nat):=Ω
  simp;(repeat' first|refine al ?_|simp);rw[E];refine bX.whl (i+1) Ω ⟨Ω,Ω,by rw[<-i3];exact(Qw (p:=fun x=>lt x d1[a]!) Ω O).symm⟩ (H.weakC k (by simpa using s1) dl)
 rotate_left
 ·have i4:Sort.scanUp (fun x=>lt x d1[a]!) d1 (b-1) i=i:=CW (by simp[O]);rw[i4]at i3;rw[<-i3]at br;simp;refine H.loopA k [1,4,10] (fun(j:Nat)=>[(11,aj j)]) (fun _=>d1) (fun j=>j) (fun j=>i<=j+1/\j<=b-1/\Sort.scanDown (fun x=> !lt x d1[a]!) d1 i j=Sort.scanDown (fun x=> !lt x d1[a]!) d1 i (b-1)) (b-1) s1 ⟨Ω,Ω,rfl⟩ gt aX aX dl ?_;rintro j ⟨im,x2,v⟩;simp[ae,H.slc];((repeat' first|refine al ?_|simp[ae,H.slc,H.ssc]|((first|apply cq|apply cu|apply ct)<;>intro h<;>try simp at h))<;>(try exact c0))
  ·refine H.lessA s1 j a Ω Ω fun o=>?_;cases A:lt d1[j]! d1[a]!
   ·obtain⟨j,rfl⟩:∃dg,j=dg+1:=⟨j-1,Ω⟩;have F:(((j+1:Nat):Int)-1)=(j:Nat):=Ω
    simp;(repeat' first|refine al ?_|simp);try rw[F]
    refine bX.whl j Ω ⟨Ω,Ω,by rw[<-v];exact(Qv (p:=fun x=> !lt x d1[a]!) Ω (by simp[A])).symm⟩ (H.weakC k (by simpa using s1) dl)
   ·have t:Sort.scanDown (fun x=> !lt x d1[a]!) d1 i j=j:=w2 (by simp[A]);have Y:i≠j:=fun e=>by subst e;rw[O]at A;cases A
    rw[t]at v;rw[<-v,if_neg Ω]at br;simp;((repeat' first|refine al ?_|simp[ae,H.slc,H.ssc]|((first|apply cq|apply cu|apply ct)<;>intro h<;>try simp at h))<;>(try exact c0));refine H.swapA s1 Ω i j Ω Ω fun o=>?_;obtain⟨d2,M⟩:∃d2,d2=Sort.swp d1 i j:=⟨_,rfl⟩;have s2:d2.size=n:=by rw[M,hQ,s1]
    rw[<-M];rw[<-M]at br;have Z:((i:Int)+1)=(i+1:Nat):=Ω
    have b4:((j:Int)-1)=(j-1:Nat):=Ω
    simp;(repeat' first|refine al ?_|simp);rw[Z,b4];refine H.loopA k [1,4] (fun(x:(Nat×Nat)×Array α)=>[(10,aj x.1.1),(11,aj x.1.2)]) (·.2) (fun x=>x.1.2+1-x.1.1) (fun x=>x.2.size=n/\(a+1<=x.1.1/\x.1.1<=x.1.2+1/\x.1.2<=b-1)/\Sort.partLoop lt a x.1.1 x.1.2 x.2=Sort.partLoop lt a (i+1) (j-1) d2) ((i+1,j-1),d2) s2 ⟨s2,⟨by simp;omega,by simp;omega,by simp;omega⟩,rfl⟩ gt aX aX dl ?_;rintro⟨⟨K,dg⟩,c⟩ ⟨f,⟨bD,b7,V⟩,s⟩;simp only at f bD b7 V s;rw[Sort.partLoop]at s;generalize j9:Sort.partLoop lt a (i+1) (j-1) d2=G at s br;simp;refine H.loopA k [1,4,11] (fun(x:Nat)=>[(10,aj x)]) (fun _=>c) (fun x=>b+1-x) (fun x=>K<=x/\x<=dg+1/\Sort.scanUp (fun x=>lt x c[a]!) c dg x=Sort.scanUp (fun x=>lt x c[a]!) c dg K) K f ⟨Ω,Ω,rfl⟩ gt aX aX dl ?_;rintro p ⟨c4,dB,u⟩;simp[ae,H.slc];((repeat' first|refine al ?_|simp[ae,H.slc]|((first|apply cq|apply cu|apply ct)<;>intro h<;>try simp at h))<;>(try exact c0))
    ·refine H.lessA f p a Ω Ω fun o=>?_;cases J:lt c[p]! c[a]!;rotate_left
     ·have E:((p:Int)+1)=(p+1:Nat):=Ω
      simp;(repeat' first|refine al ?_|simp);rw[E];refine bX.whl (p+1) Ω ⟨Ω,Ω,by rw[<-u];exact(Qw (p:=fun x=>lt x c[a]!) Ω J).symm⟩ (H.weakC k (by simpa using f) dl)
     ·have B:Sort.scanUp (fun x=>lt x c[a]!) c dg p=p:=CW (by simp[J]);rw[B]at u;simp only[<-u]at s;simp;refine H.loopA k [1,4,10] (fun(x:Nat)=>[(11,aj x)]) (fun _=>c) (fun x=>x) (fun x=>p<=x+1/\x<=dg/\Sort.scanDown (fun x=> !lt x c[a]!) c p x=Sort.scanDown (fun x=> !lt x c[a]!) c p dg) dg f ⟨Ω,Ω,rfl⟩ gt aX aX dl ?_;rintro q ⟨a8,bB,y⟩;simp[ae,H.slc];((repeat' first|refine al ?_|simp[ae,H.slc,H.ssc]|((first|apply cq|apply cu|apply ct)<;>intro h<;>try simp at h))<;>(try exact c0))
      ·refine H.lessA f q a Ω Ω fun o=>?_;cases z:lt c[q]! c[a]!
       ·obtain⟨q,rfl⟩:∃dg,q=dg+1:=⟨q-1,Ω⟩;have F:(((q+1:Nat):Int)-1)=(q:Nat):=Ω
        simp;(repeat' first|refine al ?_|simp);try rw[F]
        refine bX.whl q Ω ⟨Ω,Ω,by rw[<-y];exact(Qv (p:=fun x=> !lt x c[a]!) Ω (by simp[z])).symm⟩ (H.weakC k (by simpa using f) dl)
       ·have w:Sort.scanDown (fun x=> !lt x c[a]!) c p q=q:=w2 (by simp[z]);have Y:p≠q:=fun e=>by subst e;rw[J]at z;cases z
        rw[w]at y;simp only[<-y]at s;rw[if_neg Ω,dif_pos Ω]at s;simp;((repeat' first|refine al ?_|simp[ae,H.slc,H.ssc]|((first|apply cq|apply cu|apply ct)<;>intro h<;>try simp at h))<;>(try exact c0));refine H.swapA f Ω p q Ω Ω fun o=>?_;have X:((p:Int)+1)=(p+1:Nat):=Ω
        have W:((q:Int)-1)=(q-1:Nat):=Ω
        simp;(with_reducible repeat' first|((first|apply cq|apply cu|apply ct)<;>intro h<;>try simp at h)|refine al ?_|simp);rw[X,W];refine bX.whl ((p+1,q-1),Sort.swp c p q) d6 ⟨by rw[hQ,f],⟨by simp;omega,by simp;omega,by simp;omega⟩,s⟩ (H.weakC k (by simp[hQ,f]) dl)
      ·have w:Sort.scanDown (fun x=> !lt x c[a]!) c p q=q:=w2 Ω;rw[w]at y;simp only[<-y]at s;rw[if_pos Ω]at s;rw[<-s]at br;refine H.swapA f Ω q a Ω Ω fun o=>?_;simp;refine H.retR k (d:=Sort.swp c q a) (by rw[hQ,f]) (.inl rfl) ?_;simp[dc,ba,be,a1];rw[br];exact⟨⟨rfl,rfl⟩,_,rfl,rfl,by rw[hQ,f]⟩
    ·have B:Sort.scanUp (fun x=>lt x c[a]!) c dg p=p:=CW Ω;rw[B]at u;simp only[<-u]at s;have w:Sort.scanDown (fun x=> !lt x c[a]!) c p dg=dg:=w2 Ω;rw[w,if_pos Ω]at s;rw[<-s]at br;refine H.loopA k [1,4,10] (fun(x:Nat)=>[(11,aj x)]) (fun _=>c) (fun x=>x) (fun x=>x=dg) dg f rfl gt aX aX dl ?_;rintro q rfl;simp[ae,H.slc];((repeat' first|refine al ?_|simp[ae,H.slc,H.ssc]|((first|apply cq|apply cu|apply ct)<;>intro h<;>try simp at h))<;>(try exact c0));refine H.swapA f Ω q a Ω Ω fun o=>?_;simp;refine H.retR k (d:=Sort.swp c q a) (by rw[hQ,f]) (.inl rfl) ?_;simp[dc,ba,be,a1];rw[br];exact⟨⟨rfl,rfl⟩,_,rfl,rfl,by rw[hQ,f]⟩
  ·have t:Sort.scanDown (fun x=> !lt x d1[a]!) d1 i j=j:=w2 Ω;rw[t]at v;rw[<-v,if_pos Ω]at br;refine H.swapA s1 Ω j a Ω Ω fun o=>?_;simp;refine H.retR k (d:=Sort.swp d1 j a) (by rw[hQ,s1]) (.inl rfl) ?_;simp[dc,ba,be,a1];rw[br];exact⟨⟨rfl,rfl⟩,_,rfl,rfl,by rw[hQ,s1]⟩
 ·have i4:Sort.scanUp (fun x=>lt x d1[a]!) d1 (b-1) i=i:=CW Ω;rw[i4]at i3;have t:Sort.scanDown (fun x=> !lt x d1[a]!) d1 i (b-1)=b-1:=w2 Ω;rw[<-i3,t,if_pos Ω]at br;refine H.loopA k [1,4,10] (fun(j:Nat)=>[(11,aj j)]) (fun _=>d1) (fun j=>j) (fun j=>j=b-1) (b-1) s1 rfl gt aX aX dl ?_;rintro j rfl;simp[ae,H.slc];((repeat' first|refine al ?_|simp[ae,H.slc,H.ssc]|((first|apply cq|apply cu|apply ct)<;>intro h<;>try simp at h))<;>(try exact c0));refine H.swapA s1 Ω (b-1) a Ω Ω fun o=>?_;simp;refine H.retR k (d:=Sort.swp d1 (b-1) a) (by rw[hQ,s1]) (.inl rfl) ?_;simp[dc,ba,be,a1];rw[br];exact⟨⟨rfl,rfl⟩,_,rfl,rfl,by rw[hQ,s1]⟩
end
section
open Go Go.Pv
variable {α:Type} [Inhabited α] {S:List α->cT} {n g cr:Nat} {lc ch:List af} {lt:α->α->Bool}
def ajG(H:fS S n g cr lc ch lt)(d:Array α)(B:d.size=n)(a b pivot:Nat)(W:a<=pivot)(Q:pivot<b)(X:a+1<b)(ag:b<=n):
  bE au 243 [fE g cr lc ch,aj a,aj b,aj pivot] (S d.toList) fun r U=>r=aj (Sort.partitionEqual lt d a b pivot).1/\∃A,U=S A.toList/\A=(Sort.partitionEqual lt d a b pivot).2/\A.size=n:=by
 obtain⟨R,br⟩:∃R,R=Sort.partitionEqual lt d a b pivot:=⟨_,rfl⟩;rw[<-br];unfold Sort.partitionEqual at br;have F:=H.ok d.toList;have j:d.toList.length=n:=by simpa using B
 have E:∀l m,ae (.loc m) (S l).b=none:=fun l=>(H.ok l).obj.1;have hu:∀l m cs,cL (.loc m) cs (S l).b=(S l).b++[(.loc m,cs)]:=fun l m cs=>kO (E l m);have aq:∀m,aB.loc m∉cJ (S d.toList):=kJ F.obj;have hle:=H.le;refine bE.mk mixed a6 Tryz.func243 apa Ψ F.obj fun aR c5=>?_;unfold TI;simp[fE,hu,aq,c7,E];rw[H.ssc];refine H.swapA0 B Ω a pivot Ω Ω fun o=>?_;obtain⟨d1,z⟩:∃d1,d1=Sort.swp d a pivot:=⟨_,rfl⟩;have s1:d1.size=n:=by rw[z,hQ,B]
 rw[<-z];rw[<-z]at br;have P:((a:Int)+1)=(a+1:Nat):=Ω
 have V:((b:Int)-1)=(b-1:Nat):=Ω
 simp;(repeat' first|refine al ?_|simp);rw[P,V];refine H.loopA j [1,4] (fun(x:(Nat×Nat)×Array α)=>[(9,aj x.1.1),(10,aj x.1.2)]) (·.2) (fun x=>x.1.2+1-x.1.1) (fun x=>x.2.size=n/\(a+1<=x.1.1/\x.1.1<=x.1.2+1/\x.1.2<=b-1)/\Sort.partEqLoop lt a x.1.1 x.1.2 x.2=R) ((a+1,b-1),d1) s1 ⟨s1,⟨Ψ,by simp;omega,Ψ⟩,br.symm⟩ gt aX aX dl ?_;rintro⟨⟨y,dg⟩,c⟩ ⟨f,⟨N,O,K⟩,i⟩;simp only at f N O K i;rw[Sort.partEqLoop]at i;simp;refine H.loopA j [1,4,10] (fun(x:Nat)=>[(9,aj x)]) (fun _=>c) (fun x=>b+1-x) (fun x=>y<=x/\x<=dg+1/\Sort.scanUp (fun x=> !lt c[a]! x) c dg x=Sort.scanUp (fun x=> !lt c[a]! x) c dg y) y f ⟨Ω,Ω,rfl⟩ gt aX aX dl ?_;rintro p ⟨c4,Y,k⟩;simp[ae,H.slc];((repeat' first|refine al ?_|simp[ae,H.slc]|((first|apply cq|apply cu|apply ct)<;>intro h<;>try simp at h))<;>(try exact c0))
 ·refine H.lessA f a p Ω Ω fun o=>?_;cases w:lt c[a]! c[p]!
  ·have G:((p:Int)+1)=(p+1:Nat):=Ω
   simp;(repeat' first|refine al ?_|simp);rw[G];refine bX.whl (p+1) Ω ⟨Ω,Ω,by rw[<-k];exact(Qw (p:=fun x=> !lt c[a]! x) Ω (by simp[w])).symm⟩ (H.weakC j (by simpa using f) dl)
  ·have v:Sort.scanUp (fun x=> !lt c[a]! x) c dg p=p:=CW (by simp[w]);rw[v]at k;simp only[<-k]at i;simp;refine H.loopA j [1,4,9] (fun(x:Nat)=>[(10,aj x)]) (fun _=>c) (fun x=>x) (fun x=>p<=x+1/\x<=dg/\Sort.scanDown (fun x=>lt c[a]! x) c p x=Sort.scanDown (fun x=>lt c[a]! x) c p dg) dg f ⟨Ω,Ω,rfl⟩ gt aX aX dl ?_;rintro q ⟨a8,bB,t⟩;simp[ae,H.slc];((repeat' first|refine al ?_|simp[ae,H.slc,H.ssc]|((first|apply cq|apply cu|apply ct)<;>intro h<;>try simp at h))<;>(try exact c0))
   ·refine H.lessA f a q Ω Ω fun o=>?_;cases u:lt c[a]! c[q]!;rotate_left
    ·obtain⟨q,rfl⟩:∃dg,q=dg+1:=⟨q-1,Ω⟩;have J:(((q+1:Nat):Int)-1)=(q:Nat):=Ω
     simp;(repeat' first|refine al ?_|simp);try rw[J]
     refine bX.whl q Ω ⟨Ω,Ω,by rw[<-t];exact(Qv (p:=fun x=>lt c[a]! x) Ω (by simp[u])).symm⟩ (H.weakC j (by simpa using f) dl)
    ·have s:Sort.scanDown (fun x=>lt c[a]! x) c p q=q:=w2 (by simp[u]);have Z:p≠q:=fun e=>by subst e;rw[w]at u;cases u
     rw[s]at t;simp only[<-t]at i;rw[if_neg Ω,dif_pos Ω]at i;simp;((repeat' first|refine al ?_|simp[ae,H.slc,H.ssc]|((first|apply cq|apply cu|apply ct)<;>intro h<;>try simp at h))<;>(try exact c0));refine H.swapA f Ω p q Ω Ω fun o=>?_;have M:((p:Int)+1)=(p+1:Nat):=Ω
     have L:((q:Int)-1)=(q-1:Nat):=Ω
     simp;(with_reducible repeat' first|((first|apply cq|apply cu|apply ct)<;>intro h<;>try simp at h)|refine al ?_|simp);rw[M,L];refine bX.whl ((p+1,q-1),Sort.swp c p q) d6 ⟨by rw[hQ,f],⟨by simp;omega,by simp;omega,by simp;omega⟩,i⟩ (H.weakC j (by simp[hQ,f]) dl)
   ·have s:Sort.scanDown (fun x=>lt c[a]! x) c p q=q:=w2 Ω;rw[s]at t;simp only[<-t]at i;rw[if_pos Ω]at i;refine H.retR j (d:=c) f (.inl rfl) ?_;simp[dc,ba,be,a1];rw[<-i];exact⟨rfl,_,rfl,rfl,f⟩
 ·have v:Sort.scanUp (fun x=> !lt c[a]! x) c dg p=p:=CW Ω;rw[v]at k;simp only[<-k]at i;have s:Sort.scanDown (fun x=>lt c[a]! x) c p dg=dg:=w2 Ω;rw[s,if_pos Ω]at i;refine H.loopA j [1,4,9] (fun(x:Nat)=>[(10,aj x)]) (fun _=>c) (fun x=>x) (fun x=>x=dg) dg f rfl gt aX aX dl ?_;rintro q rfl;simp[ae,H.slc];((repeat' first|refine al ?_|simp[ae,H.slc,H.ssc]|((first|apply cq|apply cu|apply ct)<;>intro h<;>try simp at h))<;>(try exact c0));refine H.retR j (d:=c) f (.inl rfl) ?_;simp[dc,ba,be,a1];rw[<-i];exact⟨rfl,_,rfl,rfl,f⟩
end
section
open Go Go.Pv
variable {α:Type} [Inhabited α] {S:List α->cT} {n g cr:Nat} {lc ch:List af} {lt:α->α->Bool}
def ajE(H:fS S n g cr lc ch lt)(d:Array α)(X:d.size=n)(a b:Nat)(nn:a<b)(ag:b<=n)(U:2<=n):
  bE au 242 [fE g cr lc ch,aj a,aj b] (S d.toList) fun r ak=>r= .bool (Sort.partialInsertionSort lt d a b).2/\∃Q,ak=S Q.toList/\Q=(Sort.partialInsertionSort lt d a b).1/\Q.size=n:=by
 obtain⟨R,br⟩:∃R,R=Sort.partialInsertionSort lt d a b:=⟨_,rfl⟩;rw[<-br];unfold Sort.partialInsertionSort at br;have Z:=H.ok d.toList;have k:d.toList.length=n:=by simpa using X
 have V:∀l m,ae (.loc m) (S l).b=none:=fun l=>(H.ok l).obj.1;have hu:∀l m cs,cL (.loc m) cs (S l).b=(S l).b++[(.loc m,cs)]:=fun l m cs=>kO (V l m);have aq:∀m,aB.loc m∉cJ (S d.toList):=kJ Z.obj;have hle:=H.le;refine bE.mk mixed a6 Tryz.func242 ao9 Ψ Z.obj fun aR c5=>?_;unfold TH;simp[fE,hu,aq,c7,V];have ao:((a:Int)+1)=(a+1:Nat):=Ω
 (repeat' first|refine al ?_|simp);rw[ao];refine H.loopA k [1,2,3] (fun(x:(Nat×Nat)×Array α)=>[(7,aj x.1.1),(8,aj x.1.2)]) (·.2) (fun x=>5-x.1.2) (fun x=>x.2.size=n/\(a+1<=x.1.1/\x.1.1<=b/\x.1.2<=5)/\Sort.partialIns lt a b (5-x.1.2) x.1.1 x.2=R) ((a+1,0),d) X ⟨X,⟨Ψ,by simp;omega,Ψ⟩,br.symm⟩ (by simp[c7,V]) aX aX dl ?_;rintro⟨⟨i0,s⟩,z⟩ ⟨w,⟨bD,b7,ea⟩,c⟩;simp only at w bD b7 ea c;simp;((repeat' first|refine al ?_|simp|((first|apply cq|apply cu|apply ct)<;>intro h<;>try simp at h))<;>(try exact c0))
 ·obtain⟨m,hm⟩:∃m,5-s=m+1:=⟨5-s-1,Ω⟩;rw[hm,Sort.partialIns]at c;refine H.loopA k [1,2,3,8] (fun(x:Nat)=>[(7,aj x)]) (fun _=>z) (fun x=>b-x) (fun x=>i0<=x/\x<=b/\Sort.scanSorted lt z b x=Sort.scanSorted lt z b i0) i0 w ⟨Ω,Ω,rfl⟩ gt aX aX dl ?_;rintro i ⟨i1,i2,i3⟩;rw[Sort.scanSorted]at i3;have M:((i:Int)+1)=(i+1:Nat):=Ω
  have N:((i:Int)-1)=(i-1:Nat):=Ω
  have es:((s:Int)+1)=(s+1:Nat):=Ω
  have em:5-(s+1)=m:=Ω
  simp[ae,H.slc];((repeat' first|refine al ?_|simp[ae,H.slc]|((first|apply cq|apply cu|apply ct)<;>intro h<;>try simp at h))<;>(try exact c0))
  ·rw[N];refine H.lessA w i (i-1) Ω Ω fun o=>?_;cases ab:lt z[i]! z[i-1]!
   ·rw[if_pos (by simp[ab];omega)]at i3;simp;(repeat' first|refine al ?_|simp);rw[M];refine bX.whl (i+1) Ω ⟨Ω,Ω,i3⟩ (H.weakC k (by simpa using w) dl)
   ·rw[if_neg (by simp[ab])]at i3;simp only[<-i3]at c;rw[if_neg Ω]at c;have BG:(i:Int)≠b:=Ω
    have W:((i:Int)==b)=false:=by simp;omega
    simp;((repeat' first|refine al ?_|simp[BG,W,ae,H.slc,H.ssc]|((first|apply cq|apply cu|apply ct)<;>intro h<;>try simp at h))<;>(try exact c0))
    ·rw[if_pos Ω]at c;refine H.retR k (d:=z) w (.inl rfl) ?_;simp[dc,ba,be,a1];rw[<-c];exact⟨rfl,_,rfl,rfl,w⟩
    ·rw[if_neg Ω]at c;rw[N];refine H.swapA w U i (i-1) Ω Ω fun o=>?_;obtain⟨d2,P⟩:∃d2,d2=Sort.swp z i (i-1):=⟨_,rfl⟩;have s2:d2.size=n:=by rw[P,hQ,w]
     rw[<-P];simp only[<-P]at c;by_cases Y:2<=b-i
     ·rw[if_pos Y]at c;have y:(2:Int)<=(b:Int)-i:=Ω
      by_cases J:2<=i-a
      ·rw[if_pos J]at c;have B:(2:Int)<=(i:Int)-a:=Ω
       simp;(repeat' first|refine al ?_|simp[B]);rw[N];refine H.loopA k [1,2,3,7,8] (fun(x:Nat×Array α)=>[(9,aj x.1)]) (·.2) (fun x=>x.1) (fun x=>x.2.size=n/\x.1<=i-1/\Sort.shiftDown lt x.1 x.2=Sort.shiftDown lt (i-1) d2) (i-1,d2) s2 ⟨s2,Ψ,rfl⟩ gt aX aX dl ?_;rintro⟨j,v⟩ ⟨p,O,u⟩;simp only at p O u;simp[ae,H.slc,H.ssc];((repeat' first|refine al ?_|simp[ae,H.slc,H.ssc,y]|((first|apply cq|apply cu|apply ct)<;>intro h<;>try simp at h))<;>(try exact c0))
       ·obtain⟨j,rfl⟩:∃dg,j=dg+1:=⟨j-1,Ω⟩;have E:(((j+1:Nat):Int)-1)=(j:Nat):=Ω
        rw[Sort.shiftDown]at u;try rw[E]
        refine H.lessA p (j+1) j Ω Ω fun o=>?_;cases G:lt v[j+1]! v[j]!
        ·rw[if_pos (by simp[G])]at u;rw[<-u]at c;try simp
         try(repeat' first|refine al ?_|simp[ae,H.slc,H.ssc,y])
         rw[M];refine H.loopA k [1,2,3,7,8] (fun(x:Nat×Array α)=>[(10,aj x.1)]) (·.2) (fun x=>b-x.1) (fun x=>x.2.size=n/\(i+1<=x.1/\x.1<=b)/\Sort.shiftUp lt b x.1 x.2=Sort.shiftUp lt b (i+1) v) (i+1,v) p ⟨p,⟨Ψ,by simp;omega⟩,rfl⟩ gt aX aX dl ?_;rintro⟨q,t⟩ ⟨f,⟨F,L⟩,e⟩;simp only at f F L e;rw[Sort.shiftUp]at e;have eq:((q:Int)-1)=(q-1:Nat):=Ω
         have K:((q:Int)+1)=(q+1:Nat):=Ω
         simp[ae,H.slc,H.ssc];((repeat' first|refine al ?_|simp[ae,H.slc,H.ssc]|((first|apply cq|apply cu|apply ct)<;>intro h<;>try simp at h))<;>(try exact c0))
         ·rw[if_pos Ω]at e;rw[eq];refine H.lessA f q (q-1) Ω Ω fun o=>?_;cases A:lt t[q]! t[q-1]!
          ·rw[if_pos (by simp[A])]at e;rw[<-e]at c;simp;(repeat' first|refine al ?_|simp);rw[es];refine bX.whl ((i,s+1),t) d6 ⟨f,⟨by simp;omega,by simp;omega,by simp;omega⟩,by simp only[em];exact c⟩ (H.weakC k (by simpa using f) dl)
          ·rw[if_neg (by simp[A])]at e;simp;(repeat' first|refine al ?_|simp[ae,H.slc,H.ssc]);rw[eq];refine H.swapA f Ω q (q-1) Ω Ω fun o=>?_;simp;((repeat' first|refine al ?_|simp|((first|apply cq|apply cu|apply ct)<;>intro h<;>try simp at h))<;>(try exact c0));rw[K];refine bX.whl (q+1,Sort.swp t q (q-1)) d6 ⟨by rw[hQ,f],⟨by simp;omega,by simp;omega⟩,e⟩ (H.weakC k (by simp[hQ,f]) dl)
         ·rw[if_neg Ω]at e;rw[<-e]at c;rw[es];refine bX.whl ((i,s+1),t) d6 ⟨f,⟨by simp;omega,by simp;omega,by simp;omega⟩,by simp only[em];exact c⟩ (H.weakC k (by simpa using f) dl)
        ·rw[if_neg (by simp[G])]at u;simp;(repeat' first|refine al ?_|simp[ae,H.slc,H.ssc]);try rw[E]
         refine H.swapA p U (j+1) j Ω Ω fun o=>?_;simp;((repeat' first|refine al ?_|simp|((first|apply cq|apply cu|apply ct)<;>intro h<;>try simp at h))<;>(try exact c0));try rw[E]
         refine bX.whl (j,Sort.swp v (j+1) j) Ψ ⟨by rw[hQ,p],by simp;omega,u⟩ (H.weakC k (by simp[hQ,p]) dl)
       ·obtain rfl:j=0:=Ω
        rw[Sort.shiftDown]at u;rw[<-u]at c;try simp
        try(repeat' first|refine al ?_|simp[ae,H.slc,H.ssc,y])
        rw[M];refine H.loopA k [1,2,3,7,8] (fun(x:Nat×Array α)=>[(10,aj x.1)]) (·.2) (fun x=>b-x.1) (fun x=>x.2.size=n/\(i+1<=x.1/\x.1<=b)/\Sort.shiftUp lt b x.1 x.2=Sort.shiftUp lt b (i+1) v) (i+1,v) p ⟨p,⟨Ψ,by simp;omega⟩,rfl⟩ gt aX aX dl ?_;rintro⟨q,t⟩ ⟨f,⟨F,L⟩,e⟩;simp only at f F L e;rw[Sort.shiftUp]at e;have eq:((q:Int)-1)=(q-1:Nat):=Ω
        have K:((q:Int)+1)=(q+1:Nat):=Ω
        simp[ae,H.slc,H.ssc];((repeat' first|refine al ?_|simp[ae,H.slc,H.ssc]|((first|apply cq|apply cu|apply ct)<;>intro h<;>try simp at h))<;>(try exact c0))
        ·rw[if_pos Ω]at e;rw[eq];refine H.lessA f q (q-1) Ω Ω fun o=>?_;cases A:lt t[q]! t[q-1]!
         ·rw[if_pos (by simp[A])]at e;rw[<-e]at c;simp;(repeat' first|refine al ?_|simp);rw[es];refine bX.whl ((i,s+1),t) d6 ⟨f,⟨by simp;omega,by simp;omega,by simp;omega⟩,by simp only[em];exact c⟩ (H.weakC k (by simpa using f) dl)
         ·rw[if_neg (by simp[A])]at e;simp;(repeat' first|refine al ?_|simp[ae,H.slc,H.ssc]);rw[eq];refine H.swapA f Ω q (q-1) Ω Ω fun o=>?_;simp;((repeat' first|refine al ?_|simp|((first|apply cq|apply cu|apply ct)<;>intro h<;>try simp at h))<;>(try exact c0));rw[K];refine bX.whl (q+1,Sort.swp t q (q-1)) d6 ⟨by rw[hQ,f],⟨by simp;omega,by simp;omega⟩,e⟩ (H.weakC k (by simp[hQ,f]) dl)
        ·rw[if_neg Ω]at e;rw[<-e]at c;rw[es];refine bX.whl ((i,s+1),t) d6 ⟨f,⟨by simp;omega,by simp;omega,by simp;omega⟩,by simp only[em];exact c⟩ (H.weakC k (by simpa using f) dl)
      ·rw[if_neg J]at c;have B:¬(2:Int)<=(i:Int)-a:=Ω
       simp;(repeat' first|refine al ?_|simp[B,y]);try simp
       try(repeat' first|refine al ?_|simp[ae,H.slc,H.ssc,y])
       rw[M];refine H.loopA k [1,2,3,7,8] (fun(x:Nat×Array α)=>[(10,aj x.1)]) (·.2) (fun x=>b-x.1) (fun x=>x.2.size=n/\(i+1<=x.1/\x.1<=b)/\Sort.shiftUp lt b x.1 x.2=Sort.shiftUp lt b (i+1) d2) (i+1,d2) s2 ⟨s2,⟨Ψ,by simp;omega⟩,rfl⟩ gt aX aX dl ?_;rintro⟨q,t⟩ ⟨f,⟨F,L⟩,e⟩;simp only at f F L e;rw[Sort.shiftUp]at e;have eq:((q:Int)-1)=(q-1:Nat):=Ω
       have K:((q:Int)+1)=(q+1:Nat):=Ω
       simp[ae,H.slc,H.ssc];((repeat' first|refine al ?_|simp[ae,H.slc,H.ssc]|((first|apply cq|apply cu|apply ct)<;>intro h<;>try simp at h))<;>(try exact c0))
       ·rw[if_pos Ω]at e;rw[eq];refine H.lessA f q (q-1) Ω Ω fun o=>?_;cases A:lt t[q]! t[q-1]!
        ·rw[if_pos (by simp[A])]at e;rw[<-e]at c;simp;(repeat' first|refine al ?_|simp);rw[es];refine bX.whl ((i,s+1),t) d6 ⟨f,⟨by simp;omega,by simp;omega,by simp;omega⟩,by simp only[em];exact c⟩ (H.weakC k (by simpa using f) dl)
        ·rw[if_neg (by simp[A])]at e;simp;(repeat' first|refine al ?_|simp[ae,H.slc,H.ssc]);rw[eq];refine H.swapA f Ω q (q-1) Ω Ω fun o=>?_;simp;((repeat' first|refine al ?_|simp|((first|apply cq|apply cu|apply ct)<;>intro h<;>try simp at h))<;>(try exact c0));rw[K];refine bX.whl (q+1,Sort.swp t q (q-1)) d6 ⟨by rw[hQ,f],⟨by simp;omega,by simp;omega⟩,e⟩ (H.weakC k (by simp[hQ,f]) dl)
       ·rw[if_neg Ω]at e;rw[<-e]at c;rw[es];refine bX.whl ((i,s+1),t) d6 ⟨f,⟨by simp;omega,by simp;omega,by simp;omega⟩,by simp only[em];exact c⟩ (H.weakC k (by simpa using f) dl)
     ·rw[if_neg Y]at c;have y:¬(2:Int)<=(b:Int)-i:=Ω
      by_cases J:2<=i-a
      ·rw[if_pos J]at c;have B:(2:Int)<=(i:Int)-a:=Ω
       simp;(repeat' first|refine al ?_|simp[B]);rw[N];refine H.loopA k [1,2,3,7,8] (fun(x:Nat×Array α)=>[(9,aj x.1)]) (·.2) (fun x=>x.1) (fun x=>x.2.size=n/\x.1<=i-1/\Sort.shiftDown lt x.1 x.2=Sort.shiftDown lt (i-1) d2) (i-1,d2) s2 ⟨s2,Ψ,rfl⟩ gt aX aX dl ?_;rintro⟨j,v⟩ ⟨p,O,u⟩;simp only at p O u;simp[ae,H.slc,H.ssc];((repeat' first|refine al ?_|simp[ae,H.slc,H.ssc,y]|((first|apply cq|apply cu|apply ct)<;>intro h<;>try simp at h))<;>(try exact c0))
       ·obtain⟨j,rfl⟩:∃dg,j=dg+1:=⟨j-1,Ω⟩;have E:(((j+1:Nat):Int)-1)=(j:Nat):=Ω
        rw[Sort.shiftDown]at u;try rw[E]
        refine H.lessA p (j+1) j Ω Ω fun o=>?_;cases G:lt v[j+1]! v[j]!
        ·rw[if_pos (by simp[G])]at u;rw[<-u]at c;try simp
         try(repeat' first|refine al ?_|simp[ae,H.slc,H.ssc,y])
         rw[es];refine bX.whl ((i,s+1),v) d6 ⟨p,⟨by simp;omega,by simp;omega,by simp;omega⟩,by simp only[em];exact c⟩ (H.weakC k (by simpa using p) dl)
        ·rw[if_neg (by simp[G])]at u;simp;(repeat' first|refine al ?_|simp[ae,H.slc,H.ssc]);try rw[E]
         refine H.swapA p U (j+1) j Ω Ω fun o=>?_;simp;((repeat' first|refine al ?_|simp|((first|apply cq|apply cu|apply ct)<;>intro h<;>try simp at h))<;>(try exact c0));try rw[E]
         refine bX.whl (j,Sort.swp v (j+1) j) Ψ ⟨by rw[hQ,p],by simp;omega,u⟩ (H.weakC k (by simp[hQ,p]) dl)
       ·obtain rfl:j=0:=Ω
        rw[Sort.shiftDown]at u;rw[<-u]at c;try simp
        try(repeat' first|refine al ?_|simp[ae,H.slc,H.ssc,y])
        rw[es];refine bX.whl ((i,s+1),v) d6 ⟨p,⟨by simp;omega,by simp;omega,by simp;omega⟩,by simp only[em];exact c⟩ (H.weakC k (by simpa using p) dl)
      ·rw[if_neg J]at c;have B:¬(2:Int)<=(i:Int)-a:=Ω
       simp;((repeat' first|refine al ?_|simp[B,y]|((first|apply cq|apply cu|apply ct)<;>intro h<;>try simp at h))<;>(try exact c0));done
  ·rw[if_neg d6]at i3;simp only[<-i3]at c;rw[if_pos Ω]at c;refine H.retR k (d:=z) w (.inl rfl) ?_;simp[dc,ba,be,a1];rw[<-c];exact⟨rfl,_,rfl,rfl,w⟩
 ·have:5-s=0:=Ω
  rw[this,Sort.partialIns]at c;refine H.retR k (d:=z) w (.inl rfl) ?_;simp[dc,ba,be,a1];rw[<-c];exact⟨rfl,_,rfl,rfl,w⟩
end
section
open Go Go.Pv
variable {α:Type} [Inhabited α] {S:List α->cT} {n g cr:Nat} {lc ch:List af} {lt:α->α->Bool}
def fZ(S:List α->cT)(d:Array α)(v:Nat):cT:=⟨(.obj 901,[aj v])::(S d.toList).b,(S d.toList).e⟩
def tV(S:List α->cT)(m:Nat):Prop:= ∀l,ae (.obj m) (S l).b=none/\ae (.obj m) (S l).e=none
def o4(H:fS S n g cr lc ch lt)(d:Array α)(v:Nat):ey (fZ S d v):=by
 have h:=H.ok d.toList;have a:∀k,aM (S d.toList) k->aM (fZ S d v) k:=fun k ad=>by
  rcases ad with ad|ad
  ·refine .inl ?_;simp only[fZ,ae];split
   ·rfl
   ·exact ad
  ·exact .inr ad
 refine⟨⟨fun m=>?_,h.obj.2⟩,fun k cs ad=>?_,fun k o aq xs b=>ji a _ (h.ke k o aq xs b)⟩
 ·simp[fZ,ae,h.obj.1 m]
 ·simp only[fZ,ae]at ad;split at ad
  ·cases ad;simp[aH,aA]
  ·exact ji a _ (h.kb k cs ad)
def ux(d:Array α)(v v':Nat):Same (fZ S d v) (fZ S d v'):=⟨fun k=>by simp only[fZ,ae];split<;>rfl,fun _=>rfl⟩
def MM(H:fS S n g cr lc ch lt)(ad:tV S 901)(d:Array α)(z:d.size=n)(a b v:Nat)(J:a<n)(K:b<n)(M:v<=1000):
  bE au 271 [fE g cr lc ch,aj a,aj b,.ptr (.obj 901) 0] (fZ S d v) fun r h=>r= .tuple [aj (Sort.order2 lt d a b v).1,aj (Sort.order2 lt d a b v).2.1]/\h=fZ S d (Sort.order2 lt d a b v).2.2:=by
 have w:=H.ok d.toList;have s:d.toList.length=n:=by simpa using z
 have f:∀l m,ae (.loc m) (S l).b=none:=fun l=>(H.ok l).obj.1;have hu:∀l m cs,cL (.loc m) cs (S l).b=(S l).b++[(.loc m,cs)]:=fun l m cs=>kO (f l m);have aq:∀m,aB.loc m∉cJ (S d.toList):=kJ w.obj;have p:∀l,ae (.obj 901) (S l).b=none:=fun l=>(ad l).1;have F:∀l,ae (.obj 901) (S l).e=none:=fun l=>(ad l).2;have hle:=H.le;have j:=o4 H d v;obtain⟨R,br⟩:∃R,R=Sort.order2 lt d a b v:=⟨_,rfl⟩;rw[<-br];unfold Sort.order2 at br;refine bE.mk mixed a6 Tryz.func271 ao8 Ψ j.obj fun L G=>?_;unfold TG;have i:aB.loc 0∉cJ (fZ S d v):=kJ j.obj 0;generalize E:cJ (fZ S d v)=ob at i⊢;unfold fZ;simp[fE,hu,i,c7,f,ae,cL];rw[H.slc];refine CallDo.ob (H.less d.toList s b a _ _ (AU Ω) (AU Ω)) (H.ok _) (fun k cs c=>?_) (fun _ _ c=>c) (by simp[aA,aH,H.klc d.toList s]) ?_
 ·simp only[ae];split
  ·rename_i e;subst e;rw[p]at c;cases c
  ·rw[c7,c]
 rintro r h ⟨rfl,rfl⟩;refine⟨Same.refl _,?_⟩;have hw:cH (S d.toList).b ((aB.obj 901,[af.int .i64 v])::((S d.toList).b++[(aB.loc 0,[af.func g lc,af.func cr ch])]))=[(aB.obj 901,[af.int .i64 v]),(aB.loc 0,[af.func g lc,af.func cr ch])]:=by simp only[cH,p];rw[jy,hH];simp[cH,f]
 rw[hw,hH];have q:∀(t:List (Nat×af)) (o:List aB) (v':Nat) (aY:List af) (x y:Nat),Pv.get 8 t=aj x->Pv.get 9 t=aj y->R=(x,y,v')->
   c6 [.tmp 8,.tmp 9] (fZ S d v) (fun r h=>r= .tuple [aj R.1,aj R.2.1]/\h=fZ S d R.2.2) .ret ⟨t,(aB.obj 901,[aj v'])::(aB.loc 0,aY)::(S d.toList).b,(S d.toList).e,1,o⟩:=by
  rintro t o v' aY x y c A rfl;refine c6.at (fZ S d v') (.inl rfl) (o4 H d v') (ux _ _ _) (fun k cs ay=>?_) (fun _ _ ay=>ay) ?_
  ·simp only[fZ,ae]at ay⊢;split at ay
   ·rename_i e;rw[if_pos e];exact ay
   ·rename_i e;rw[if_neg e];split
    ·rename_i B;subst B;rw[f]at ay;cases ay
    ·exact ay
  ·simp[dc,ba,be,a1,c,A]
 cases c:lt d[b]! d[a]! with
 |true=>
  rw[if_pos c]at br;simp[ae,cL];(with_reducible repeat' first|refine al ?_|simp[ae,cL]);have u:((v:Int)+1)=(v+1:Nat):=Ω
  rw[u];exact q _ _ (v+1) _ b a rfl rfl br
 |false=>rw[if_neg (by simp[c])]at br;simp[ae,cL];exact q _ _ v _ a b rfl rfl br
def ZB{s a:cT}{f:Nat}{args:List af}{r:af}(j:bE au f args s fun g t'=>g=r/\t'=a)(c:ey s)(e:Same s a)(ad:aH (aM s) args){t:List (Nat×af)}{aY:List af}{o:List aB}{d:Option Nat}{K:bo->Prop}
  (h:∀o,K ⟨e9 d r t,(.loc 0,aY)::a.b,a.e,1,o⟩):CallDo au f args ⟨t,s.b++[(.loc 0,aY)],s.e,1,o⟩ d K:=by
 refine CallDo.ob j c (fun k cs b=>by rw[c7,b]) (fun _ _ b=>b) ad ?_;rintro r a ⟨rfl,rfl⟩;refine⟨e,?_⟩;have i:cH s.b (s.b++[(.loc 0,aY)])=[(.loc 0,aY)]:=by rw[jy,hH];simp[cH,c.obj.1 0]
 have l:cH s.e s.e=[]:=hH _;simp only[i,l];exact h _
def Fl{s a:cT}{f:Nat}{args:List af}{r:af}(j:bE au f args s fun g t'=>g=r/\t'=a)(c:ey s)(e:Same s a)(ad:aH (aM s) args){t:List (Nat×af)}{aY:List af}{o:List aB}{d:Option Nat}{K:bo->Prop}
  (h:∀o,K ⟨e9 d r t,(.loc 0,aY)::a.b,a.e,1,o⟩):CallDo au f args ⟨t,(.loc 0,aY)::s.b,s.e,1,o⟩ d K:=by
 refine CallDo.ob j c (fun k cs b=>?_) (fun _ _ b=>b) ad ?_
 ·cases k with
  |loc m=>rw[c.obj.1 m]at b;cases b
  |obj m=>simpa[ae]using b
 rintro r a ⟨rfl,rfl⟩;refine⟨e,?_⟩;have i:cH s.b ((.loc 0,aY)::s.b)=[(.loc 0,aY)]:=by have:=jy s.b [(aB.loc 0,aY)] s.b;rw[hH]at this;simpa[cH,c.obj.1 0]using this
 have l:cH s.e s.e=[]:=hH _;simp only[i,l];exact h _
def CB{d:Array α}{a b v n:Nat}(c:a<n)(e:b<n):(Sort.order2 lt d a b v).1<n/\(Sort.order2 lt d a b v).2.1<n/\(Sort.order2 lt d a b v).2.2<=v+1:=by unfold Sort.order2;split<;>simp<;>omega
def wH(H:fS S n g cr lc ch lt){d:Array α}(a:d.size=n){v:Nat}:aA (aM (fZ S d v)) (fE g cr lc ch)/\aA (aM (fZ S d v)) (.ptr (.obj 901) 0):=by
 refine⟨tO (fun k ad=>?_) _ (H.kdata (lk:=d.toList) (by simpa using a)),by simp[aA,aM,fZ,ae]⟩;rcases ad with ad|ad
 ·refine .inl ?_;simp only[fZ,ae];split
  ·rfl
  ·exact ad
 ·exact .inr ad
def abV(H:fS S n g cr lc ch lt){d:Array α}{v v':Nat}{b:List bU}{Q:af->cT->Prop}{t:List (Nat×af)}{aY:List af}{o:List aB}(h:dc ⟨t,(.loc 0,aY)::(fZ S d v').b,(S d.toList).e,1,o⟩ b fun r=>aA (aM (fZ S d v')) r/\Q r (fZ S d v')):
  c6 b (fZ S d v) Q .ret ⟨t,(.loc 0,aY)::(fZ S d v').b,(S d.toList).e,1,o⟩:=by
 refine c6.at (fZ S d v') (.inl rfl) (o4 H d v') (ux _ _ _) (fun k cs a=>?_) (fun _ _ ay=>ay) h;cases k with
 |loc m=>rw[(o4 H d v').obj.1 m]at a;cases a
 |obj m=>simpa[ae]using a
def MJ(H:fS S n g cr lc ch lt)(ad:tV S 901)(d:Array α)(e:d.size=n)(a b c v:Nat)(u:a<n)(w:b<n)(ay:c<n)(M:v<=900):
  bE au 256 [fE g cr lc ch,aj a,aj b,aj c,.ptr (.obj 901) 0] (fZ S d v) fun r E=>r=aj (Sort.median lt d a b c v).1/\E=fZ S d (Sort.median lt d a b c v).2:=by
 have q:=o4 H d v;have p:∀v m,ae (.loc m) (fZ S d v).b=none:=fun v=>(o4 H d v).obj.1;have F:∀v m cs,cL (.loc m) cs (fZ S d v).b=(fZ S d v).b++[(.loc m,cs)]:=fun v m cs=>kO (p v m);have y:aB.loc 0∉cJ (fZ S d v):=kJ q.obj 0;obtain⟨R,br⟩:∃R,R=Sort.median lt d a b c v:=⟨_,rfl⟩;rw[<-br];unfold Sort.median at br;have f:=CB (lt:=lt) (d:=d) (v:=v) u w;have k:=MM H ad d e a b v u w Ω;generalize Sort.order2 lt d a b v=B at f k br;obtain⟨l,s,v1⟩:=B;simp only at f k br;have h:=CB (lt:=lt) (d:=d) (v:=v1) f.2.1 ay;have i:=MM H ad d e s c v1 f.2.1 ay Ω;generalize Sort.order2 lt d s c v1=A at h i br;obtain⟨x,J,v2⟩:=A;simp only at h i br;have t:=CB (lt:=lt) (d:=d) (v:=v2) f.1 h.1;have j:=MM H ad d e l x v2 f.1 h.1 Ω;generalize Sort.order2 lt d l x v2=z at t j br;obtain⟨G,N,v3⟩:=z;simp only at t j br;refine bE.mk mixed a6 Tryz.func256 ao6 Ψ q.obj fun L K=>?_;unfold TE;simp[fE,F,y,c7,p];simp only[jl H,H.slc,H.ssc,je];refine ZB k (o4 H d v) (ux _ _ _) (by simp[aA,aH,(wH H e).1];exact(wH H e).2) fun o=>?_;simp[ae];simp only[jl H,H.slc,H.ssc,je];refine Fl i (o4 H d v1) (ux _ _ _) (by simp[aA,aH,(wH H e).1];exact(wH H e).2) fun o=>?_;simp[ae];simp only[jl H,H.slc,H.ssc,je];refine Fl j (o4 H d v2) (ux _ _ _) (by simp[aA,aH,(wH H e).1];exact(wH H e).2) fun o=>?_;simp;refine abV H ?_;simp[dc,ba,be,a1];rw[br];exact⟨rfl,rfl⟩
def MK(H:fS S n g cr lc ch lt)(ad:tV S 901)(d:Array α)(b:d.size=n)(a v:Nat)(t:a+1<n)(q:1<=a)(j:v<=900):
  bE au 255 [fE g cr lc ch,aj a,.ptr (.obj 901) 0] (fZ S d v) fun r i=>r=aj (Sort.medianAdjacent lt d a v).1/\i=fZ S d (Sort.medianAdjacent lt d a v).2:=by
 have e:=o4 H d v;have c:∀v m,ae (.loc m) (fZ S d v).b=none:=fun v=>(o4 H d v).obj.1;have p:∀v m cs,cL (.loc m) cs (fZ S d v).b=(fZ S d v).b++[(.loc m,cs)]:=fun v m cs=>kO (c v m);have f:aB.loc 0∉cJ (fZ S d v):=kJ e.obj 0;have hle:=H.le;have l:=MJ H ad d b (a-1) a (a+1) v Ω Ω Ω j;unfold Sort.medianAdjacent;refine bE.mk mixed a6 Tryz.func255 ao5 Ψ e.obj fun u s=>?_;unfold TD;have h:((a:Int)-1)=(a-1:Nat):=Ω
 have k:((a:Int)+1)=(a+1:Nat):=Ω
 simp[fE,p,f,c7,c];(with_reducible repeat' first|refine al ?_|simp);simp only[jl H,H.slc,H.ssc,je,h,k];refine ZB l (o4 H d v) (ux _ _ _) (by simp[aA,aH,(wH H b).1];exact(wH H b).2) fun o=>?_;simp;refine abV H ?_;simp[dc,ba,be,a1]
def ZC{m:Nat}(h:tV S m)(l:List α):aB.obj m∉cJ (S l):=fun hm=>by
 rcases N1 hm with J|J
 ·rw[(h l).1]at J;cases J
 ·rw[(h l).2]at J;cases J
def Fa{d:Array α}{a b c v n:Nat}(g:a<n)(i:b<n)(ay:c<n):(Sort.median lt d a b c v).1<n/\(Sort.median lt d a b c v).2<=v+3:=by have f:=CB (lt:=lt) (d:=d) (v:=v) g i;have h:=CB (lt:=lt) (d:=d) (v:=(Sort.order2 lt d a b v).2.2) f.2.1 ay;have e:=CB (lt:=lt) (d:=d) (v:=(Sort.order2 lt d (Sort.order2 lt d a b v).2.1 c (Sort.order2 lt d a b v).2.2).2.2) f.1 h.1;refine⟨e.2.1,kg e.2.2 ?_⟩;omega
def BI:Sort.Hint->Int
 | .unknown=>0
 | .increasing=>1
 | .decreasing=>2
def ajf(H:fS S n g cr lc ch lt)(ad:tV S 901)(d:Array α)(A:d.size=n)(a b:Nat)(nn:a<b)(ag:b<=n):
  bE au 240 [fE g cr lc ch,aj a,aj b] (S d.toList) fun r Q=>r= .tuple [aj (Sort.choosePivot lt d a b).1,aj (BI (Sort.choosePivot lt d a b).2)]/\Q=S d.toList:=by
 have Z:=H.ok d.toList;have av:d.toList.length=n:=by simpa using A
 have z:∀l m,ae (.loc m) (S l).b=none:=fun l=>(H.ok l).obj.1;have hu:∀l m cs,cL (.loc m) cs (S l).b=(S l).b++[(.loc m,cs)]:=fun l m cs=>kO (z l m);have aq:∀m,aB.loc m∉cJ (S d.toList):=kJ Z.obj;have w:∀l,ae (.obj 901) (S l).b=none:=fun l=>(ad l).1;have P:∀l,ae (.obj 901) (S l).e=none:=fun l=>(ad l).2;have hle:=H.le;have O:=ZC ad d.toList;obtain⟨R,br⟩:∃R,R=Sort.choosePivot lt d a b:=⟨_,rfl⟩;rw[<-br];unfold Sort.choosePivot at br;refine bE.mk mixed a6 Tryz.func240 ao3 Ψ Z.obj fun aR c5=>?_;unfold TB;have N:∀l aY cs,cL (.obj 901) cs ((S l).b++[(.loc 0,aY)])=(S l).b++[(.loc 0,aY),(.obj 901,cs)]:=fun l aY cs=>by rw[Da (w l)];rfl
 obtain⟨q,bK⟩:∃q,q=(b-a)/4:=⟨_,rfl⟩;have Y:vB.wrap (((b:Int)-a).tdiv 4)=(q:Nat):=by rw[show((b:Int)-a)=((b-a:Nat):Int) by omega,Int.tdiv_eq_ediv_of_nonneg Ω,pJ _ Ω];omega
 simp[fE,hu,N,aq,O,c7,z,w,P,ae,cL];have y:∀(t:List (Nat×af)) (o:List aB) (b0:List (aB×List af)) (x:Nat) (h:Sort.Hint),Pv.get 6 t=aj x->Pv.get 7 t=aj (BI h)->R=(x,h)->(∀k cs,ae k (S d.toList).b=some cs->ae k b0=some cs)->
   c6 [.tmp 6,.tmp 7] (S d.toList) (fun r Q=>r= .tuple [aj R.1,aj (BI R.2)]/\Q=S d.toList) .ret ⟨t,b0,(S d.toList).e,1,o⟩:=by
  rintro t o b0 x h j aI rfl dZ;refine c6.at (S d.toList) (.inl rfl) Z (Same.refl _) dZ (fun _ _ ay=>ay) ?_;simp[dc,ba,be,a1,j,aI]
 have E:∀(aY:List af) (v:Nat) k cs,ae k (S d.toList).b=some cs->ae k ((.loc 0,aY)::(fZ S d v).b)=some cs:=fun aY v k cs h=>by
  simp only[fZ,ae];split
  ·rename_i e;subst e;rw[z]at h;cases h
  ·split
   ·rename_i e;subst e;rw[w]at h;cases h
   ·exact h
 have WH:∀{f:Nat} {args:List af} {r:af} {v:Nat},(bE au f args (fZ S d 0) fun ee t'=>ee=r/\t'=fZ S d v)->aH (aM (fZ S d 0)) args->∀{t:List (Nat×af)} {aY:List af} {o:List aB} {W:Option Nat} {K:bo->Prop},(∀o,K ⟨e9 W r t,(.loc 0,aY)::(fZ S d v).b,(S d.toList).e,1,o⟩)->
   CallDo au f args ⟨t,(S d.toList).b++[(.loc 0,aY),(.obj 901,[aj 0])],(S d.toList).e,1,o⟩ W K:=by
  intro f args r v aG p t aY o W K h;refine CallDo.ob aG (o4 H d 0) (fun k cs j=>?_) (fun _ _ j=>j) p ?_
  ·simp only[fZ,ae]at j;rw[c7];split at j
   ·rename_i e;subst e;rw[w];simp[ae];simpa using j
   ·rw[j]
  rintro r Q ⟨rfl,rfl⟩;refine⟨ux _ _ _,?_⟩;have ao:cH (fZ S d 0).b ((S d.toList).b++[(.loc 0,aY),(.obj 901,[aj 0])])=[(.loc 0,aY)]:=by
   rw[jy];have:cH (fZ S d 0).b (S d.toList).b=[]:=Rt _ _ fun k x hm=>by
    have:=vd hm;simp only[fZ,ae];split
    ·rfl
    ·exact this
   rw[this];simp[cH,fZ,ae,z]
  have aC:cH (fZ S d 0).e (S d.toList).e=[]:=hH _;simp only[ao,aC];exact h _
 have p:=fun(v:Nat)=>(wH H A (v:=v));have f1:((a:Int)+q)=(a+q:Nat):=Ω
 have f2:((a:Int)+q*2)=(a+q*2:Nat):=Ω
 have f3:((a:Int)+q*3)=(a+q*3:Nat):=Ω
 dsimp only at br;rw[<-bK,Nat.mul_one]at br;by_cases lP:b-a<8
 ·have U:¬(8:Int)<=(b:Int)-a:=Ω
  (with_reducible repeat' first|refine al ?_|simp[U,Y,hu,N,aq,O,c7,z,w,P,ae,cL]);rw[f2];refine y _ _ _ (a+q*2) .increasing rfl rfl (by rw[br,if_neg Ω];simp) (fun k cs h=>by rw[c7,h])
 ·have U:(8:Int)<=(b:Int)-a:=Ω
  by_cases avt:b-a<50
  ·have MR:¬(50:Int)<=(b:Int)-a:=Ω
   (with_reducible repeat' first|refine al ?_|simp[U,MR,Y,hu,N,aq,O,c7,z,w,P,ae,cL]);simp only[jl H,H.slc,H.ssc,je,f1,f2,f3];have B:=MJ H ad d A (a+q) (a+q*2) (a+q*3) 0 Ω Ω Ω Ω;have F:=Fa (lt:=lt) (d:=d) (a:=a+q) (b:=a+q*2) (c:=a+q*3) (v:=0) (n:=n) Ω Ω Ω;rw[if_pos Ω,if_neg Ω]at br;generalize Sort.median lt d (a+q) (a+q*2) (a+q*3) 0=m at B F br;obtain⟨x,v⟩:=m;refine WH B (by simp[aA,aH,(p 0).1];exact(p 0).2) fun o=>?_;have s:((v:Int)==0)=decide (v=0):=by rw[rf];simp
   have M:((v:Int)==12)=decide (v=12):=by rw[rf];simp;omega
   simp[ae,fZ];rcases(by omega:v=0\/v=12\/(v≠0/\v≠12))with i|i|i
   ·have j:((v:Int)==0)=true:=by rw[s];simp[i]
    (with_reducible repeat' first|refine al ?_|simp[j]);all_goals exact y _ _ _ x .increasing rfl rfl (by rw[br];simp[i]) (E _ v)
   ·have j:((v:Int)==0)=false:=by rw[s];simp[i]
    have u:((v:Int)==12)=true:=by rw[M];simp[i]
    (with_reducible repeat' first|refine al ?_|simp[j,u]);all_goals exact y _ _ _ x .decreasing rfl rfl (by rw[br];simp[i]) (E _ v)
   ·have j:((v:Int)==0)=false:=by rw[s];simp[i.1]
    have u:((v:Int)==12)=false:=by rw[M];simp[i.2]
    (with_reducible repeat' first|refine al ?_|simp[j,u]);all_goals exact y _ _ _ x .unknown rfl rfl (by rw[br];simp[i]) (E _ v)
  ·have MR:(50:Int)<=(b:Int)-a:=Ω
   (with_reducible repeat' first|refine al ?_|simp[U,MR,Y,hu,N,aq,O,c7,z,w,P,ae,cL]);simp only[jl H,H.slc,H.ssc,je,f1,f2,f3];rw[if_pos Ω,if_pos Ω]at br;have B:=MK H ad d A (a+q) 0 Ω Ω Ω;have L:=Fa (lt:=lt) (d:=d) (a:=a+q-1) (b:=a+q) (c:=a+q+1) (v:=0) (n:=n) Ω Ω Ω;change (Sort.medianAdjacent lt d (a+q) 0).1<n/\(Sort.medianAdjacent lt d (a+q) 0).2<=0+3 at L;generalize Sort.medianAdjacent lt d (a+q) 0=m1 at B L br;obtain⟨uj,v1⟩:=m1;simp only at B L br;have F:=MK H ad d A (a+q*2) v1 Ω Ω Ω;have J:=Fa (lt:=lt) (d:=d) (a:=a+q*2-1) (b:=a+q*2) (c:=a+q*2+1) (v:=v1) (n:=n) Ω Ω Ω;change (Sort.medianAdjacent lt d (a+q*2) v1).1<n/\(Sort.medianAdjacent lt d (a+q*2) v1).2<=v1+3 at J;generalize Sort.medianAdjacent lt d (a+q*2) v1=m2 at F J br;obtain⟨AI,v2⟩:=m2;simp only at F J br;have X:=MK H ad d A (a+q*3) v2 Ω Ω Ω;have G:=Fa (lt:=lt) (d:=d) (a:=a+q*3-1) (b:=a+q*3) (c:=a+q*3+1) (v:=v2) (n:=n) Ω Ω Ω;change (Sort.medianAdjacent lt d (a+q*3) v2).1<n/\(Sort.medianAdjacent lt d (a+q*3) v2).2<=v2+3 at G;generalize Sort.medianAdjacent lt d (a+q*3) v2=m3 at X G br;obtain⟨uk,v3⟩:=m3;simp only at X G br;have V:=MJ H ad d A uj AI uk v3 L.1 J.1 G.1 Ω;have X6:=Fa (lt:=lt) (d:=d) (v:=v3) L.1 J.1 G.1;generalize Sort.median lt d uj AI uk v3=m4 at V X6 br;obtain⟨x,v⟩:=m4;simp only at V X6 br;refine WH B (by simp[aA,aH,(p 0).1];exact(p 0).2) fun o=>?_;simp[ae];simp only[jl H,H.slc,H.ssc,je,f1,f2,f3];refine Fl F (o4 H d v1) (ux _ _ _) (by simp[aA,aH,(p v1).1];exact(p v1).2) fun o=>?_;simp[ae];simp only[jl H,H.slc,H.ssc,je,f1,f2,f3];refine Fl X (o4 H d v2) (ux _ _ _) (by simp[aA,aH,(p v2).1];exact(p v2).2) fun o=>?_;simp[ae];simp only[jl H,H.slc,H.ssc,je,f1,f2,f3];refine Fl V (o4 H d v3) (ux _ _ _) (by simp[aA,aH,(p v3).1];exact(p v3).2) fun o=>?_;have s:((v:Int)==0)=decide (v=0):=by rw[rf];simp
   have M:((v:Int)==12)=decide (v=12):=by rw[rf];simp;omega
   simp[ae,fZ];rcases(by omega:v=0\/v=12\/(v≠0/\v≠12))with i|i|i
   ·have j:((v:Int)==0)=true:=by rw[s];simp[i]
    (with_reducible repeat' first|refine al ?_|simp[j]);all_goals exact y _ _ _ x .increasing rfl rfl (by rw[br];simp[i]) (E _ v)
   ·have j:((v:Int)==0)=false:=by rw[s];simp[i]
    have u:((v:Int)==12)=true:=by rw[M];simp[i]
    (with_reducible repeat' first|refine al ?_|simp[j,u]);all_goals exact y _ _ _ x .decreasing rfl rfl (by rw[br];simp[i]) (E _ v)
   ·have j:((v:Int)==0)=false:=by rw[s];simp[i.1]
    have u:((v:Int)==12)=false:=by rw[M];simp[i.2]
    (with_reducible repeat' first|refine al ?_|simp[j,u]);all_goals exact y _ _ _ x .unknown rfl rfl (by rw[br];simp[i]) (E _ v)
end
section
open Go Go.Pv
variable {α:Type} [Inhabited α] {S:List α->cT} {n g cr:Nat} {lc ch:List af} {lt:α->α->Bool}
def ar8:∀x:Nat,x<256->(((QZ:List cV)[x]?).getD 0).toNat=Sort.bitsLen x:=by decide+kernel
def D0(x:Int):x.fdiv (2 ^ (min 32 ij.bits))=x/4294967296:=by rw[show(2:Int) ^ (min 32 ij.bits)=4294967296 from by decide,Int.fdiv_eq_ediv_of_nonneg _ Ω]
def DZ(x:Int):x.fdiv (2 ^ (min 16 ij.bits))=x/65536:=by rw[show(2:Int) ^ (min 16 ij.bits)=65536 from by decide,Int.fdiv_eq_ediv_of_nonneg _ Ω]
def D1(x:Int):x.fdiv (2 ^ (min 8 ij.bits))=x/256:=by rw[show(2:Int) ^ (min 8 ij.bits)=256 from by decide,Int.fdiv_eq_ediv_of_nonneg _ Ω]
def Gc(x:Nat)(h:x<256):IntKind.u8.wrap (x:Int)=x:=by simp[uo,pI,um];omega
def Lh(x k:Nat)(h:2 ^ k<=x):Sort.bitsLen x=Sort.bitsLen (x/2 ^ k)+k:=by
 have a:x≠0:=by have:=Nat.two_pow_pos k;omega
 have b:x/2 ^ k≠0:=by have:=Nat.div_pos h (Nat.two_pow_pos k);omega
 unfold Sort.bitsLen;rw[if_neg a,if_neg b];have c:=Nat.log2_lt a (k:=Nat.log2 (x/2 ^ k)+k+1);have J:Nat.log2 (x/2 ^ k)+k<=Nat.log2 x:=by
  rw[Nat.le_log2 a,Nat.pow_add];have:=Nat.log2_self_le b;calc 2 ^ (x/2 ^ k).log2*2 ^ k<=(x/2 ^ k)*2 ^ k:=r8 _ this
   _<=x:=Nat.div_mul_le_self x _
 have U:Nat.log2 x<Nat.log2 (x/2 ^ k)+k+1:=by rw[c,show Nat.log2 (x/2 ^ k)+k+1=(Nat.log2 (x/2 ^ k)+1)+k by omega,Nat.pow_add];have:=Nat.lt_log2_self (n:=x/2 ^ k);exact(Nat.div_lt_iff_lt_mul (Nat.two_pow_pos k)).1 this
 omega
set_option maxRecDepth 20000 in
def asv(x:Nat)(o:x<1099511627776):bT au 237 [.int .u64 x] (aj (Sort.bitsLen x)):=by
 refine bT.mk mixed a6 Tryz.func237 ao0 Ψ dl fun p=>?_;unfold Ty;have d:=ar8;generalize n:(QZ:List cV)=tab at d⊢;have f:tab.length=256:=by rw[<-n];rfl
 clear n;simp[f];have g:∀y:Nat,y<256->Sort.bitsLen y<=8:=by decide+kernel
 have k:4294967296<=x->Sort.bitsLen x=Sort.bitsLen (x/4294967296)+32:=fun h=>Lh x 32 h;have m:∀y,65536<=y->Sort.bitsLen y=Sort.bitsLen (y/65536)+16:=fun y h=>Lh y 16 h;have l:∀y,256<=y->Sort.bitsLen y=Sort.bitsLen (y/256)+8:=fun y h=>Lh y 8 h;by_cases J:4294967296<=x
 ·have c:(4294967296:Int)<=x:=Ω
  have g1:¬(65536:Int)<=(x:Int)/4294967296:=Ω
  have g3:¬(256:Int)<=(x:Int)/4294967296:=Ω
  (repeat' first|refine al ?_|simp[c,g1,g3,D0,DZ,D1,f]);have a:x/4294967296<256:=Ω
  have i:=g _ a;have b:(x:Int)/4294967296=((x/4294967296:Nat):Int):=Ω
  rw[b,Gc _ a,Int.toNat_natCast];refine⟨Ω,?_⟩;have e:=d _ a;rw[e,pJ _ Ω];refine⟨by unfold tK;omega,?_⟩;simp[bZ,ba,be,a1];try((rw[k J])<;>omega)
 ·have c:¬(4294967296:Int)<=x:=Ω
  by_cases U:65536<=x
  ·have g2:(65536:Int)<=x:=Ω
   by_cases j:256<=x/65536
   ·have g3:(256:Int)<=(x:Int)/65536:=Ω
    (repeat' first|refine al ?_|simp[c,g2,g3,D0,DZ,D1,f]);have a:x/65536/256<256:=Ω
    have i:=g _ a;have b:(x:Int)/65536/256=((x/65536/256:Nat):Int):=Ω
    rw[b,Gc _ a,Int.toNat_natCast];refine⟨Ω,?_⟩;have e:=d _ a;rw[e,pJ _ Ω];refine⟨by unfold tK;omega,?_⟩;simp[bZ,ba,be,a1];try((rw[m x U,l _ j])<;>omega)
   ·have g3:¬(256:Int)<=(x:Int)/65536:=Ω
    (repeat' first|refine al ?_|simp[c,g2,g3,D0,DZ,D1,f]);have a:x/65536<256:=Ω
    have i:=g _ a;have b:(x:Int)/65536=((x/65536:Nat):Int):=Ω
    rw[b,Gc _ a,Int.toNat_natCast];refine⟨Ω,?_⟩;have e:=d _ a;rw[e,pJ _ Ω];refine⟨by unfold tK;omega,?_⟩;simp[bZ,ba,be,a1];try((rw[m x U])<;>omega)
  ·have g2:¬(65536:Int)<=x:=Ω
   by_cases j:256<=x
   ·have g3:(256:Int)<=x:=Ω
    (repeat' first|refine al ?_|simp[c,g2,g3,D0,DZ,D1,f]);have a:x/256<256:=Ω
    have i:=g _ a;have b:(x:Int)/256=((x/256:Nat):Int):=Ω
    rw[b,Gc _ a,Int.toNat_natCast];refine⟨Ω,?_⟩;have e:=d _ a;rw[e,pJ _ Ω];refine⟨by unfold tK;omega,?_⟩;simp[bZ,ba,be,a1];try((rw[l x j])<;>omega)
   ·have g3:¬(256:Int)<=x:=Ω
    (repeat' first|refine al ?_|simp[c,g2,g3,D0,DZ,D1,f]);have a:x<256:=Ω
    have i:=g _ a;have b:(x:Int)=((x:Nat):Int):=Ω
    rw[b,Gc _ a,Int.toNat_natCast];refine⟨Ω,?_⟩;have e:=d _ a;rw[e,pJ _ Ω];refine⟨by unfold tK;omega,?_⟩;simp[bZ,ba,be,a1];try((rw[show Sort.bitsLen x=Sort.bitsLen x from rfl])<;>omega)
def asu(x:Nat)(a:x<1099511627776):bT au 213 [.int .u64 x] (aj (Sort.bitsLen x)):=by refine bT.mk mixed a6 Tryz.func213 aoZ Ψ dl fun b=>?_;unfold Tx;have c:=asv x a;exact cn
def aeK(x:Nat)(a:x<1099511627776):Sort.bitsLen x<=40:=by
 unfold Sort.bitsLen;split
 ·omega
 ·rename_i h;have:=(Nat.log2_lt h (k:=40)).2 Ω;omega
def asg{x:Nat}(h:x≠0):2 ^ Sort.bitsLen x<=2*x/\x<2 ^ Sort.bitsLen x:=by unfold Sort.bitsLen;rw[if_neg h];have J:=Nat.log2_self_le h;have U:=Nat.lt_log2_self (n:=x);rw[Nat.pow_succ];rw[Nat.pow_succ]at U;omega
def ato(x:Nat)(b:x<1099511627776):bT au 253 [aj x] (.int .u64 (1<<<Sort.bitsLen x:Nat)):=by
 have f:=aeK x b;have a:ij.wrap ((x:Nat):Int)=x:=by simp[uo,pI,um];omega
 have g:ij.wrap ((Sort.bitsLen x:Nat):Int)=Sort.bitsLen x:=by simp[uo,pI,um];omega
 refine bT.mk mixed a6 Tryz.func253 ao7 Ψ dl fun h=>?_;unfold TF;simp[a];refine CallDo.val Ψ (asu x b) ?_;simp[a,g];simp[bZ,ba,be,a1];have hm:min (Sort.bitsLen x) ij.bits=Sort.bitsLen x:=by simp[pI];omega
 have e:2 ^ Sort.bitsLen x<=2 ^ 40:=Nat.pow_le_pow_right Ω f;rw[hm];have ay:((2:Int) ^ Sort.bitsLen x)=((2 ^ Sort.bitsLen x:Nat):Int):=Ψ
 have d:((1<<<Sort.bitsLen x:Nat):Int)=((2 ^ Sort.bitsLen x:Nat):Int):=by rw[Nat.one_shiftLeft]
 have c:ij.wrap ((2:Int) ^ Sort.bitsLen x)=((1<<<Sort.bitsLen x:Nat):Int):=by rw[ay,d];generalize 2 ^ Sort.bitsLen x=y at e;simp[uo,pI,um];omega
 simpa using c
def oz(r:Nat):cT:=⟨[(.obj 902,[.int .u64 r])],[]⟩
def KX(r:Nat):ey (oz r):=by unfold oz;exact(ey.of ⟨by intro m;simp[ae],by intro m;simp[ae]⟩ go go)
def RL(a b:Nat):Same (oz a) (oz b):=⟨fun k=>by simp only[oz,ae];split<;>rfl,fun _=>rfl⟩
def Lj(a b:Nat)(d:a<18446744073709551616)(h:b<18446744073709551616):ij.wrap ((r3 ij.bits (a:Int) ^^^ r3 ij.bits (b:Int)).toNat:Int)=(a ^^^ b:Nat):=by
 have f:a ^^^ b<18446744073709551616:=Nat.xor_lt_two_pow (n:=64) d h;have e:(r3 ij.bits (a:Int) ^^^ r3 ij.bits (b:Int)).toNat=a ^^^ b:=by
  rw[BitVec.toNat_xor,BitVec.toNat_ofInt,BitVec.toNat_ofInt];have g:((a:Int)%(2 ^ ij.bits:Nat)).toNat=a:=by simp[pI];omega
  have i:((b:Int)%(2 ^ ij.bits:Nat)).toNat=b:=by simp[pI];omega
  rw[g,i]
 rw[e];generalize a ^^^ b=c at f;simp[uo,pI,um];omega
def aru(r:Nat):ij.wrap ((r:Int)*2 ^ (min 13 ij.bits))=(r*8192%18446744073709551616:Nat):=by simp[uo,pI,um]
def arv(r:Nat):ij.wrap ((r:Int)*2 ^ (min 17 ij.bits))=(r*131072%18446744073709551616:Nat):=by simp[uo,pI,um]
def arw(r:Nat):((r:Int)).fdiv (2 ^ (min 7 ij.bits))=(r/128:Nat):=by rw[show(2:Int) ^ (min 7 ij.bits)=128 from by decide,Int.fdiv_eq_ediv_of_nonneg _ Ω];omega
def ai9(r:Nat)(j:r<18446744073709551616):bE au 254 [.ptr (.obj 902) 0] (oz r) fun t u=>t= .int .u64 (Sort.xorNextN r)/\u=oz (Sort.xorNextN r):=by
 have h:=KX r;unfold oz at h⊢;refine bE.mk mixed a6 Tryz.func254 apj Ψ h.obj fun w v=>?_;unfold TR;obtain⟨m1,p⟩:∃m,m=r*8192%18446744073709551616:=⟨_,rfl⟩;have s1:=aru r;rw[<-p]at s1;have e:m1<18446744073709551616:=Ω
 obtain⟨a,c⟩:∃m,m=r ^^^ m1:=⟨_,rfl⟩;have t1:=Lj r m1 j e;rw[<-c]at t1;have k:a<18446744073709551616:=by rw[c];exact Nat.xor_lt_two_pow (n:=64) j e
 obtain⟨m2,o⟩:∃m,m=a/128:=⟨_,rfl⟩;have s2:=arw a;rw[<-o]at s2;have f:m2<18446744073709551616:=Ω
 obtain⟨a2,b⟩:∃m,m=a ^^^ m2:=⟨_,rfl⟩;have t2:=Lj a m2 k f;rw[<-b]at t2;have d:a2<18446744073709551616:=by rw[b];exact Nat.xor_lt_two_pow (n:=64) k f
 obtain⟨m3,l⟩:∃m,m=a2*131072%18446744073709551616:=⟨_,rfl⟩;have s3:=arv a2;rw[<-l]at s3;have s:m3<18446744073709551616:=Ω
 obtain⟨a3,q⟩:∃m,m=a2 ^^^ m3:=⟨_,rfl⟩;have t3:=Lj a2 m3 d s;rw[<-q]at t3;have br:Sort.xorNextN r=a3:=by unfold Sort.xorNextN;simp only[<-p,<-c,<-o,<-b,<-l,<-q]
 rw[br];simp[-BitVec.toNat_xor,-BitVec.ofInt_natCast,s1,t1,s2,t2,s3,t3];have i:=KX a3;have g:=RL r a3;unfold oz at i g;refine c6.at _ (.inl rfl) i g aX aX ?_;simp[dc,ba,be,a1]
end
section
open Go Go.Pv
variable {α:Type} [Inhabited α] {S:List α->cT} {n g cr:Nat} {lc ch:List af} {lt:α->α->Bool}
def aeD(a b:Nat)(d:a<18446744073709551616)(i:b<18446744073709551616):ij.wrap ((r3 ij.bits (a:Int)&&& r3 ij.bits (b:Int)).toNat:Int)=(a&&& b:Nat):=by
 have f:a&&& b<18446744073709551616:=Nat.lt_of_le_of_lt Nat.and_le_left d;have e:(r3 ij.bits (a:Int)&&& r3 ij.bits (b:Int)).toNat=a&&& b:=by
  rw[BitVec.toNat_and,BitVec.toNat_ofInt,BitVec.toNat_ofInt];have g:((a:Int)%(2 ^ ij.bits:Nat)).toNat=a:=by simp[pI];omega
  have h:((b:Int)%(2 ^ ij.bits:Nat)).toNat=b:=by simp[pI];omega
  rw[g,h]
 rw[e];generalize a&&& b=c at f;simp[uo,pI,um];omega
def AW(a len M i0:Nat)(d:Array α):Nat->UInt64×Array α
 |0=>(UInt64.ofNat len,d)
 |k+1=>Sort.breakStep a len M (AW a len M i0 d k) (i0+k)
def aeO(d:Array α)(a b:Nat)(h:8<=b-a):Sort.breakPatterns d a b=(AW a (b-a) (1<<<Sort.bitsLen (b-a)) (a+(b-a)/4*2-1) d 3).2:=by unfold Sort.breakPatterns;simp only[if_pos h,AW];rfl
def adE{ob O:List aB}{a:cT}(f:ey a)(l:∀k,aM a k->k∈O)(i:∀k∈ob,k∈O){st:bo}{t':List (Nat×af)}{L:List (aB×List af)}{n:Nat}(g:∀x∈t',Pv.get x.1 st.t=x.2/\aA (nG a n) x.2)(j:∀x∈L,ae x.1 st.b=some x.2/\nG a n x.1/\aH (nG a n) x.2)
  (q:∀k cs,ae k a.b=some cs->ae k st.b=some cs) (he:∀k o,ae k a.e=some o->ae k st.e=some o):gq ob st ⟨t',L++a.b,a.e,n,O⟩:=by
 have b:∀{k},nG a n k->¬fresh n O k:=by
  rintro k (h|⟨m,hm,rfl⟩)
  ·exact fun e=>e.2 (l k h)
  ·intro e;have:=e.1;simp at this;omega
 refine⟨fun x c=>⟨(g x c).1,tO (fun k ad=>b ad) _ (g x c).2⟩,fun k cs ad=>?_,fun k o aq=>?_,i⟩
 ·simp only at ad;rw[c7]at ad;cases d:ae k L with
  |some x=>rw[d]at ad;simp only[dV]at ad;subst ad;obtain⟨J,U,p⟩:=j _ (vc d);exact⟨J,b U,ji (fun k ad=>b ad) _ p⟩
  |none=>rw[d]at ad;exact⟨q k cs ad,b (.inl (.inl (by simp[ad]))),ji (fun k ad=>b (.inl ad)) _ (f.kb k cs ad)⟩
 ·exact⟨he k o aq,b (.inl (.inr (by simp at aq;simp[aq]))),fun xs c=>ji (fun k ad=>b (.inl ad)) _ (f.ke k o aq xs c)⟩
def Rs{a β:Type}(s:List (aB×β)):∀(l:List (aB×a)),(∀k x,(k,x)∈l->ae k s=none)->cH s l=l
 |[],_=>rfl
 |(k,x)::r,h=>by have J:=h k x Ψ;simp only[cH,J];rw[Rs s r fun k x b=>h k x (by simp[b])]
def j6(S:List α->cT)(d:Array α)(r:Nat):cT:=⟨(.obj 902,[.int .u64 r])::(S d.toList).b,(S d.toList).e⟩
def GA(H:fS S n g cr lc ch lt)(d:Array α)(v:Nat):ey (j6 S d v):=by
 have h:=H.ok d.toList;have a:∀k,aM (S d.toList) k->aM (j6 S d v) k:=fun k ad=>by
  rcases ad with ad|ad
  ·refine .inl ?_;simp only[j6,ae];split
   ·rfl
   ·exact ad
  ·exact .inr ad
 refine⟨⟨fun m=>?_,h.obj.2⟩,fun k cs ad=>?_,fun k o aq xs b=>ji a _ (h.ke k o aq xs b)⟩
 ·simp[j6,ae,h.obj.1 m]
 ·simp only[j6,ae]at ad;split at ad
  ·cases ad;simp[aH,aA]
  ·exact ji a _ (h.kb k cs ad)
def adD{ob O:List aB}{d2:Array α}{y:Nat}{aY:List af}(d:ey (j6 S d2 y))(e:∀k,aM (j6 S d2 y) k->k∈O)(c:∀k∈ob,k∈O){st:bo}{t':List (Nat×af)}(h:∀x∈t',Pv.get x.1 st.t=x.2/\aA (nG (j6 S d2 y) 1) x.2)(f:ae (.loc 0) st.b=some aY)(b:aH (nG (j6 S d2 y) 1) aY)
  (g:∀k cs,ae k (j6 S d2 y).b=some cs->ae k st.b=some cs) (he:∀k o,ae k (j6 S d2 y).e=some o->ae k st.e=some o):gq ob st ⟨t',(.loc 0,aY)::(.obj 902,[.int .u64 y])::(S d2.toList).b,(S d2.toList).e,1,O⟩:=
 adE (L:=[(.loc 0,aY)]) d e c h (fun x a=>by simp only[List.mem_singleton]at a;subst a;exact⟨f,Zx _ _ _ Ω,b⟩) g he
def aje(H:fS S n g cr lc ch lt)(ad:tV S 902)(d:Array α)(A:d.size=n)(a b:Nat)(nn:a<=b)(ag:b<=n)(lP:8<=b-a):
  bE au 239 [fE g cr lc ch,aj a,aj b] (S d.toList) fun r w=>r= .tuple []/\∃O,w=S O.toList/\O=Sort.breakPatterns d a b/\O.size=n:=by
 have ai:=H.ok d.toList;have Q:d.toList.length=n:=by simpa using A
 have i:∀l m,ae (.loc m) (S l).b=none:=fun l=>(H.ok l).obj.1;have hu:∀l m cs,cL (.loc m) cs (S l).b=(S l).b++[(.loc m,cs)]:=fun l m cs=>kO (i l m);have aq:∀m,aB.loc m∉cJ (S d.toList):=kJ ai.obj;have j:∀l,ae (.obj 902) (S l).b=none:=fun l=>(ad l).1;have iD:∀l,ae (.obj 902) (S l).e=none:=fun l=>(ad l).2;have hle:=H.le;have mL:=ZC ad d.toList;rw[aeO d a b lP];obtain⟨len,hlen⟩:∃len,len=b-a:=⟨_,rfl⟩;rw[<-hlen];obtain⟨M,L⟩:∃M,M=1<<<Sort.bitsLen len:=⟨_,rfl⟩;rw[<-L];have avu:len<M/\M<=2*len:=by have:=asg (x:=len) Ω;rw[L,Nat.one_shiftLeft];omega
 obtain⟨q,bK⟩:∃q,q=len/4:=⟨_,rfl⟩;rw[<-bK];have zL:∀l aY cs,cL (.obj 902) cs ((S l).b++[(.loc 0,aY)])=(S l).b++[(.loc 0,aY),(.obj 902,cs)]:=fun l aY cs=>by rw[Da (j l)];rfl
 have qT:∀l aY x y,cL (.obj 902) y ((S l).b++[(.loc 0,aY),(.obj 902,x)])=(S l).b++[(.loc 0,aY),(.obj 902,y)]:=fun l aY x y=>by rw[Da (j l)];simp[cL]
 have el:((b:Int)-a)=(len:Nat):=Ω
 have b4:vB.wrap ((len:Int).tdiv 4)=(q:Nat):=by rw[Int.tdiv_eq_ediv_of_nonneg Ω,pJ _ Ω];omega
 have ew:ij.wrap (len:Int)=len:=by simp[uo,pI,um];omega
 refine bE.mk mixed a6 Tryz.func239 ao2 Ψ ai.obj fun aR c5=>?_;unfold TA;have F:=ato len Ω;rw[<-L]at F;simp[fE,hu,zL,qT,aq,mL,c7,i,j,iD,ae,cL,el,ew];have s:vB.wrap ((len:Int)/4)=(q:Nat):=by rw[pJ _ Ω];omega
 ((repeat' first|refine al ?_|refine aO F ?_|refine aP F ?_|simp[el,ew,b4,s,hu,zL,qT,aq,mL,c7,i,j,iD,ae,cL]|((first|apply cq|apply cu|apply ct)<;>intro h<;>try simp at h))<;>(try exact c0));obtain⟨i0,Er⟩:∃i0,i0=a+q*2-1:=⟨_,rfl⟩;rw[<-Er];have Y:((a:Int)+q*2-1)=(i0:Nat):=Ω
 rw[Y];have N:∀(c:Array α) r k,aM (j6 S c r) k->c.size=n->k∈aB.obj 902::cJ (S d.toList):=fun c r k h G=>by
  have e5:=H.same d.toList c.toList Q (by simpa using G);rcases h with h|h
  ·simp only[j6,ae]at h;split at h
   ·rename_i e;subst e;simp
   ·exact ri _ (rR (.inl (by rw[e5.b];exact h)))
  ·exact ri _ (rR (.inr (by rw[e5.e];exact h)))
 have E:∀(c:Array α) r,c.size=n->aH (nG (j6 S c r) 1) [.func g lc,.func cr ch]:=fun c r G=>by
  have J:=H.kdata (lk:=c.toList) (by simpa using G);have U:aH (aM (S c.toList)) [.func g lc,.func cr ch]:=by simpa[fE,aA,aH]using J
  refine ji (fun k ad=>.inl ?_) _ U;rcases ad with ad|ad
  ·refine .inl ?_;simp only[j6,ae];split
   ·rfl
   ·exact ad
  ·exact .inr ad
 have avF:∀(c:Array α) r aY k cs,ae k (j6 S c r).b=some cs->ae k ((.loc 0,aY)::(j6 S c r).b)=some cs:=fun c r aY k cs h=>by
  cases k with
  |loc m=>rw[(GA H c r).obj.1 m]at h;cases h
  |obj m=>simpa[ae]using h
 refine pe (fun(x:Nat×UInt64×Array α)=>⟨[(1,aj a),(3,.ptr (.loc 0) 0),(6,aj len),(7,.ptr (.obj 902) 0),(8,.int .u64 M),(9,aj ((i0+x.1:Nat):Int))],[(.loc 0,[.func g lc,.func cr ch])]++(j6 S x.2.2 x.2.1.toNat).b,(j6 S x.2.2 x.2.1.toNat).e,1,aB.obj 902::cJ (S d.toList)⟩) (fun x=>3-x.1)
  (fun x=>x.1<=3/\x.2.2.size=n/\AW a len M i0 d x.1=x.2) (0,UInt64.ofNat len,d) ?_ ⟨Ψ,A,rfl⟩ ?_
 ·refine adE (GA H d _) (fun k h=>N d _ k h A) (fun k h=>ri _ h) (by simp[aA,aM,j6,ae,nG]) ?_ ?_ aX
  ·intro x t;simp only[List.mem_singleton]at t;subst t;exact⟨by simp[c7,i,ae],Zx _ _ _ Ω,E d _ A⟩
  ·intro k cs h;simp only[j6,ae]at h;rw[c7];split at h
   ·rename_i e;subst e;rw[j];have:(UInt64.ofNat len).toNat=len:=by simp;omega
    rw[this]at h;simpa[ae]using h
   ·rw[h]
 rintro⟨k,r,c⟩ ⟨a7,f,u⟩ _;simp only at a7 f u;have aJ:=r.toNat_lt;obtain⟨x,t⟩:∃x,x=r.toNat:=⟨_,rfl⟩;rw[<-t]at aJ⊢;have BN:Sort.xorNextN x<18446744073709551616:=Sort.xorNextN_lt x Ω;have Nw:(Sort.xorNext r).toNat=Sort.xorNextN x:=by rw[Sort.xorNext_toNat,<-t]
 obtain⟨y,B⟩:∃y,y=Sort.xorNextN x:=⟨_,rfl⟩;have Z:ij.wrap ((M:Int)-1)=(M-1:Nat):=by simp[uo,pI,um];omega
 have zq:=aeD y (M-1) Ω Ω;obtain⟨z,P⟩:∃z,z=y&&& (M-1):=⟨_,rfl⟩;rw[<-P]at zq;have avO:z<=M-1:=by rw[P];exact Nat.and_le_right
 have pg:vB.wrap (z:Int)=z:=by rw[pJ _ Ω]
 by_cases V:k=3
 ·subst V;simp[j6,ae,s];((repeat' first|refine al ?_|simp[s]|((first|apply cq|apply cu|apply ct)<;>intro h<;>try simp at h))<;>(try exact c0));refine c6.at (S c.toList) (.inr rfl) (H.ok _) (H.same _ _ Q (by simpa using f)) (fun k cs h=>?_) (fun _ _ h=>h) ?_
  ·simp only[ae];split
   ·rename_i e;subst e;rw[i]at h;cases h
   ·split
    ·rename_i e;subst e;rw[j]at h;cases h
    ·exact h
  ·simp[dc,ba,be,a1];exact⟨c,rfl,by rw[u],f⟩
 ·have H3:((i0+k:Nat):Int)<=(a:Int)+q*2+1:=Ω
  have W2:((i0:Int)+k)<=(a:Int)+q*2+1:=Ω
  simp[j6,ae,s,W2,H3];(repeat' first|refine al ?_|simp[s,W2,H3,ae]);have avK:=H.same d.toList c.toList Q (by simpa using f);have R:∀(K:Array α) (v:List af),cH [(aB.obj 902,v)] (S K.toList).b=(S K.toList).b:=fun K v=>Rs _ _ fun k x hm=>by
   have:=vd hm;simp only[ae];split
   ·rename_i e;subst e;rw[j]at this;cases this
   ·rfl
  refine CallDo.ob (ai9 x Ω) (KX x) (fun k cs h=>?_) (fun k o h=>by simp[oz,ae]at h) (by simp[aA,aH,aM,oz,ae]) ?_
  ·simp only[oz,ae]at h⊢;split at h
   ·rename_i e;subst e;simpa using h
   ·cases h
  rintro ee w ⟨rfl,rfl⟩;refine⟨RL _ _,?_⟩;rw[<-B];have X:cH (oz x).b ((aB.loc 0,[af.func g lc,af.func cr ch])::(aB.obj 902,[af.int .u64 x])::(S c.toList).b)=(aB.loc 0,[af.func g lc,af.func cr ch])::(S c.toList).b:=by simp[oz,cH,ae,R]
  have W:cH (oz x).e (S c.toList).e=(S c.toList).e:=Rs _ _ fun _ _ _=>rfl;rw[X,W,show(oz y).b=[(aB.obj 902,[af.int .u64 y])]from rfl,show(oz y).e=[]from rfl,List.append_nil];have avs:∀(v:List af),ae (.obj 902) ((aB.loc 0,[af.func g lc,af.func cr ch])::((S c.toList).b++[(aB.obj 902,v)]))=some v:=fun v=>by simp[ae,c7,j]
  have Sd:∀o',o'<len->o'=(if z≥len then z-len else z)->Sort.breakStep a len M (r,c) (i0+k)=(Sort.xorNext r,Sort.swp c (i0+k) (a+o')):=fun o' J U=>by unfold Sort.breakStep;simp only[Nw,<-B,<-P,<-U]
  have UX:((i0:Int)+k)=((i0+k:Nat):Int):=Ω
  simp only[e9,aB.obj.injEq];simp[-BitVec.toNat_and,-BitVec.ofInt_natCast,Z,zq,pg,ae,H.ssc];by_cases avP:len<=z
  ·have NX:(len:Int)<=z:=Ω
   have Mg:((a:Int)+(z-len))=((a+(z-len):Nat):Int):=Ω
   ((repeat' first|refine al ?_|simp[NX,ae,H.ssc]|((first|apply cq|apply cu|apply ct)<;>intro h<;>try simp at h))<;>(try exact c0));rw[Mg,UX];refine CallDo.ob (H.swap c.toList (by simpa using f) Ω (i0+k) (a+(z-len)) Ω Ω) (H.ok _) (fun bs cs h=>?_) (fun _ _ h=>h) (by simp[aA,aH,H.ksc c.toList (by simpa using f)]) ?_
   ·simp only[ae];split
    ·rename_i e;subst e;rw[i]at h;cases h
    ·rw[c7,h]
   rintro ee w ⟨rfl,rfl⟩;refine⟨H.same _ _ (by simpa using f) (by simpa using f),?_⟩;rw[IY c Ω Ω];obtain⟨d2,p⟩:∃d2,d2=Sort.swp c (i0+k) (a+(z-len)):=⟨_,rfl⟩;have s2:d2.size=n:=by rw[p,hQ,f]
   rw[<-p];have Mk:∀v:List af,cH (S c.toList).b ((aB.loc 0,[af.func g lc,af.func cr ch])::((S c.toList).b++[(aB.obj 902,v)]))=[(aB.loc 0,[af.func g lc,af.func cr ch]),(aB.obj 902,v)]:=fun v=>by simp only[cH,i];rw[jy,hH];simp[cH,j]
   dsimp only;rw[Mk,hH];simp;(repeat' first|refine al ?_|simp);have Md:((i0:Int)+k+1)=((i0+(k+1):Nat):Int):=Ω
   rw[Md];refine bX.whl (k+1,Sort.xorNext r,d2) d6 ⟨by simp;omega,s2,by simp only[AW,u];rw[Sd (z-len) Ω (by rw[if_pos Ω]),p]⟩ ?_;rw[Nw,<-B];refine adD (GA H d2 y) (fun k h=>N d2 _ k h s2) (fun k h=>ri _ h) (by simp[aA,aM,j6,ae,nG]) gt (E d2 _ s2) ?_ (fun _ _ h=>h);intro k cs h;simp only[j6,ae]at h⊢;split at h
   ·rename_i e;subst e;simpa using h
   ·rename_i e;split
    ·rename_i aC;subst aC;rw[i]at h;cases h
    ·exact h
  ·have NX:¬(len:Int)<=z:=Ω
   have Mg:((a:Int)+z)=((a+z:Nat):Int):=Ω
   ((repeat' first|refine al ?_|simp[NX,ae,H.ssc]|((first|apply cq|apply cu|apply ct)<;>intro h<;>try simp at h))<;>(try exact c0));rw[Mg,UX];refine CallDo.ob (H.swap c.toList (by simpa using f) Ω (i0+k) (a+z) Ω Ω) (H.ok _) (fun bs cs h=>?_) (fun _ _ h=>h) (by simp[aA,aH,H.ksc c.toList (by simpa using f)]) ?_
   ·simp only[ae];split
    ·rename_i e;subst e;rw[i]at h;cases h
    ·rw[c7,h]
   rintro ee w ⟨rfl,rfl⟩;refine⟨H.same _ _ (by simpa using f) (by simpa using f),?_⟩;rw[IY c Ω Ω];obtain⟨d2,p⟩:∃d2,d2=Sort.swp c (i0+k) (a+z):=⟨_,rfl⟩;have s2:d2.size=n:=by rw[p,hQ,f]
   rw[<-p];have Mk:∀v:List af,cH (S c.toList).b ((aB.loc 0,[af.func g lc,af.func cr ch])::((S c.toList).b++[(aB.obj 902,v)]))=[(aB.loc 0,[af.func g lc,af.func cr ch]),(aB.obj 902,v)]:=fun v=>by simp only[cH,i];rw[jy,hH];simp[cH,j]
   dsimp only;rw[Mk,hH];simp;(repeat' first|refine al ?_|simp);have Md:((i0:Int)+k+1)=((i0+(k+1):Nat):Int):=Ω
   rw[Md];refine bX.whl (k+1,Sort.xorNext r,d2) d6 ⟨by simp;omega,s2,by simp only[AW,u];rw[Sd z Ω (by rw[if_neg Ω]),p]⟩ ?_;rw[Nw,<-B];refine adD (GA H d2 y) (fun k h=>N d2 _ k h s2) (fun k h=>ri _ h) (by simp[aA,aM,j6,ae,nG]) gt (E d2 _ s2) ?_ (fun _ _ h=>h);intro k cs h;simp only[j6,ae]at h⊢;split at h
   ·rename_i e;subst e;simpa using h
   ·rename_i e;split
    ·rename_i aC;subst aC;rw[i]at h;cases h
    ·exact h
end
section
open Go Go.Pv
variable {α:Type} [Inhabited α] {S:List α->cT} {n g cr:Nat} {lc ch:List af} {lt:α->α->Bool}
def fS.fnD{d d2:Array α}(H:fS S n g cr lc ch lt)(J:d.size=n){f:Nat}{args:List af}{r:af}(m:bE au f args (S d.toList) fun b j=>b=r/\∃a,j=S a.toList/\a=d2/\a.size=n)(ad:aH (aM (S d.toList)) args){t:List (Nat×af)}{aY:List af}{o:List aB}{a:Option Nat}{K:bo->Prop}
  (h:d2.size=n->∀o,K ⟨e9 a r t,(.loc 0,aY)::(S d2.toList).b,(S d2.toList).e,1,o⟩):CallDo au f args ⟨t,(.loc 0,aY)::(S d.toList).b,(S d.toList).e,1,o⟩ a K:=
 H.call (by simpa using J) (R:=fun b c=>b=r/\c=d2.toList/\d2.size=n) (m.mono fun r j ⟨l,a,p,i,k⟩=>⟨a.toList,p,l,by rw[i],by rw[<-i];exact k⟩) (fun r c ⟨_,e,h⟩=>by rw[e];simpa using h) ad (by rintro b c ⟨rfl,rfl,U⟩;exact h U _)
attribute [local simp] qK
def Dp(S:List α->cT)(n g cr:Nat)(lc ch:List af)(lt:α->α->Bool)(m:Nat):Prop:=
 ∀k,k<m->∀(d:Array α),d.size=n->∀a b e:Nat,b-a<=k->a<=b->b<=n->e<=1000->Sort.Below lt a b d->
  bE au 214 [fE g cr lc ch,aj a,aj b,aj e] (S d.toList) fun r f=>r= .tuple []/\∃c,f=S c.toList/\Sort.PermIn a b d c/\Sort.SortedIn lt a b c
structure yT (S:List α->cT) (n g cr:Nat) (lc ch:List af) (lt:α->α->Bool) (bp b0 lim:Nat) (d:Array α) (Q:Exit->bo->Prop):Prop where
 k:∀e,e= .normal\/e= .exit 1->∀(a2 ca:Nat) (w v:Bool) (L:Array α) (t:List (Nat×af)) (o:List aB),L.size=n->a2<=ca->ca<=n->ca-a2<b0-bp->Sort.Below lt a2 ca L->(∀R,Sort.PermIn a2 ca L R->Sort.SortedIn lt a2 ca R->Sort.PermIn bp b0 d R/\Sort.SortedIn lt bp b0 R)->
  Pv.get 1 t=aj a2->Pv.get 2 t=aj ca->Pv.get 3 t=aj lim->Pv.get 4 t= .ptr (.loc 0) 0->Pv.get 8 t= .bool w->Pv.get 9 t= .bool v->Q e ⟨t,(.loc 0,[.func g lc,.func cr ch])::(S L.toList).b,(S L.toList).e,1,o⟩
 r:∀(R:Array α) t o,Sort.PermIn bp b0 d R->Sort.SortedIn lt bp b0 R->Q .ret ⟨t,(.loc 0,[.func g lc,.func cr ch])::(S R.toList).b,(S R.toList).e,1,o⟩
def yT.mono{bp b0 lim:Nat}{d f:Array α}{Q:Exit->bo->Prop}(h:yT S n g cr lc ch lt bp b0 lim d Q)(p:Sort.PermIn bp b0 d f):yT S n g cr lc ch lt bp b0 lim f Q:=⟨fun e he a2 j w v L t o m q k l i c=>h.k e he a2 j w v L t o m q k l i fun R b a=>⟨Sort.permIn_trans _ _ _ bp b0 p (c R b a).1,(c R b a).2⟩,fun R t o b a=>h.r R t o (Sort.permIn_trans _ _ _ bp b0 p b) a⟩
structure AP (t:List (Nat×af)) (bp b0 lim:Nat):Prop where
 t1:Pv.get 1 t=aj bp
 t2:Pv.get 2 t=aj b0
 t3:Pv.get 3 t=aj lim
 t4:Pv.get 4 t= .ptr (.loc 0) 0
 t10:Pv.get 10 t=aj ((b0:Int)-bp)
section
variable {bp b0 lim:Nat} {cX:Array α} {t:List (Nat×af)} {o:List aB} {ob:List aB} {Q:Exit->bo->Prop}
def aaj(H:fS S n g cr lc ch lt)(F:Sort.SWO lt)(B:Dp S n g cr lc ch lt (b0-bp)){pv:Nat}(T:AP t bp b0 lim)(t11:Pv.get 11 t=aj pv)(z:lim<=1000)(l:cX.size=n)(e:bp<=pv/\pv<b0)(w:b0<=n)(K:12<b0-bp)(E:Sort.Below lt bp b0 cX)(A:yT S n g cr lc ch lt bp b0 lim cX Q):
  de au ob LL Q ⟨t,(.loc 0,[.func g lc,.func cr ch])::(S cX.toList).b,(S cX.toList).e,1,o⟩:=by
 obtain⟨t1,t2,t3,t4,t10⟩:=T;have j:∀f:Array α,f.size=n->aA (aM (S f.toList)) (fE g cr lc ch):=fun f h=>H.kdata (lk:=f.toList) (by simpa using h);have hle:=H.le;unfold LL;simp[t1,t2,t4,t11,ae,H.slc,H.ssc];simp only[jl H,H.slc,H.ssc,je];have d:=ajF H cX l bp b0 pv e.1 e.2 Ω w;have i:Sort.partition lt cX bp b0 pv=((Sort.partition lt cX bp b0 pv).1,(Sort.partition lt cX bp b0 pv).2.1,(Sort.partition lt cX bp b0 pv).2.2):=rfl;generalize (Sort.partition lt cX bp b0 pv).1=mid at d i;generalize (Sort.partition lt cX bp b0 pv).2.1=ap at d i;generalize (Sort.partition lt cX bp b0 pv).2.2=d4 at d i;obtain⟨g1,g2,g3,g4,g5,g6,g7⟩:=Sort.round_part F (Sort.partition_holds lt) e.1 e.2 Ω E i;refine H.fnD l d (by simp[aA,aH,j cX l]) fun s4 o=>?_;have em:((mid:Int)+1)=(mid+1:Nat):=Ω
 simp[t1,t2,t3,t4,t10];by_cases G:mid-bp<b0-mid
 ·have y:(mid:Int)-bp<b0-mid:=Ω
  (repeat' first|refine al ?_|simp[y,ae,t1,t2,t3,t4,t10]);simp only[jl H,H.slc,H.ssc,je];refine H.doFn (lk:=d4.toList) (by simpa using s4) (R:=fun a=> ∃L:Array α,a=L.toList/\Sort.PermIn bp mid d4 L/\Sort.SortedIn lt bp mid L) ((B (mid-bp) Ω d4 s4 bp mid lim (dO _) g1 Ω z g4).mono fun r J ⟨x,b,v,u,p⟩=>⟨x,b.toList,v,b,rfl,u,p⟩) (by rintro a ⟨L,rfl,q,_⟩;simpa using q.1.trans s4) (by simp[aH,aA,j d4 s4]) ?_;rintro a ⟨L,rfl,c,s⟩;obtain⟨m,k⟩:=g6 L c s;simp;(repeat' first|refine al ?_|simp[t1,t2,t3,t4]);rw[em];exact A.k _ (.inl rfl) (mid+1) b0 _ ap L _ _ (c.1.trans s4) Ω w Ω m k Ψ (by simp[t2]) (by simp[t3]) (by simp[t4]) (by simp;rfl) Ψ
 ·have y:¬(mid:Int)-bp<b0-mid:=Ω
  (repeat' first|refine al ?_|simp[y,ae,t1,t2,t3,t4,t10]);simp only[jl H,H.slc,H.ssc,je];rw[em];refine H.doFn (lk:=d4.toList) (by simpa using s4) (R:=fun a=> ∃L:Array α,a=L.toList/\Sort.PermIn (mid+1) b0 d4 L/\Sort.SortedIn lt (mid+1) b0 L) ((B (b0-(mid+1)) Ω d4 s4 (mid+1) b0 lim (dO _) Ω w z g5).mono fun r J ⟨x,b,v,u,p⟩=>⟨x,b.toList,v,b,rfl,u,p⟩) (by rintro a ⟨L,rfl,q,_⟩;simpa using q.1.trans s4) (by simp[aH,aA,j d4 s4]) ?_;rintro a ⟨L,rfl,c,s⟩;obtain⟨m,k⟩:=g7 L c s;simp;(repeat' first|refine al ?_|simp[t1,t2,t3,t4]);exact A.k _ (.inl rfl) bp mid _ ap L _ _ (c.1.trans s4) g1 Ω Ω m k (by simp[t1]) Ψ (by simp[t3]) (by simp[t4]) (by simp;rfl) Ψ
def apY(H:fS S n g cr lc ch lt)(i:Sort.SWO lt)(p:Dp S n g cr lc ch lt (b0-bp)){pv:Nat}(T:AP t bp b0 lim)(t11:Pv.get 11 t=aj pv){w v:Bool}(t8:Pv.get 8 t= .bool w)(t9:Pv.get 9 t= .bool v)(m:lim<=1000)(b:cX.size=n)(a:bp<=pv/\pv<b0)(d:b0<=n)(l:12<b0-bp)(e:Sort.Below lt bp b0 cX)(h:yT S n g cr lc ch lt bp b0 lim cX Q):
  de au ob DG Q ⟨t,(.loc 0,[.func g lc,.func cr ch])::(S cX.toList).b,(S cX.toList).e,1,o⟩:=by
 obtain⟨t1,t2,t3,t4,t10⟩:=id T;have hle:=H.le;unfold DG;by_cases c:0<bp
 ·have k:(0:Int)<bp:=Ω
  simp[t1,t2,t4,t11,c,k,ae,H.slc,H.ssc];(repeat' first|refine al ?_|simp[t1,t2,t4,t11,c,k,ae,H.slc,H.ssc]);rw[show((bp:Int)-1)=((bp-1:Nat):Int) by omega];refine H.lessA b (bp-1) pv Ω Ω fun o=>?_;cases q:lt cX[bp-1]! cX[pv]!
  ·simp;(repeat' first|refine al ?_|simp[ae,H.slc,H.ssc,t1,t2,t4,t11]);simp only[jl H,H.slc,H.ssc,je];have f:=ajG H cX b bp b0 pv a.1 a.2 Ω d;have j:Sort.partitionEqual lt cX bp b0 pv=((Sort.partitionEqual lt cX bp b0 pv).1,(Sort.partitionEqual lt cX bp b0 pv).2):=rfl;generalize (Sort.partitionEqual lt cX bp b0 pv).1=mid at f j;generalize (Sort.partitionEqual lt cX bp b0 pv).2=d4 at f j;obtain⟨g1,g2,g3,g4,g5⟩:=Sort.round_eq i (Sort.partitionEqual_holds lt) c a.1 a.2 Ω e q j;refine H.fnD b f (by simp[aA,aH,H.kdata (lk:=cX.toList) (by simpa using b)]) fun s4 o=>?_;simp[t1,t2,t3,t4];exact h.k _ (.inr rfl) mid b0 w v d4 _ _ s4 g2 d Ω g4 g5 Ψ (by simp[t2]) (by simp[t3]) (by simp[t4]) (by simp[t8]) (by simp[t9])
  ·simp;exact aaj H i p ⟨by simp[t1],by simp[t2],by simp[t3],by simp[t4],by simp[t10]⟩ (by simp[t11]) m b a d l e h
 ·have k:¬(0:Int)<bp:=Ω
  simp[t1,c];exact aaj H i p ⟨by simp[t1],by simp[t2],by simp[t3],by simp[t4],by simp[t10]⟩ (by simp[t11]) m b a d l e h
def PE(H:fS S n g cr lc ch lt)(m:Sort.SWO lt)(z:Dp S n g cr lc ch lt (b0-bp)){pv:Nat}(T:AP t bp b0 lim)(t11:Pv.get 11 t=aj pv){h:Nat}(t12:Pv.get 12 t=aj h){w v:Bool}(t8:Pv.get 8 t= .bool w)(t9:Pv.get 9 t= .bool v)(r:lim<=1000)(b:cX.size=n)(u:bp<=pv/\pv<b0)(p:b0<=n)(q:12<b0-bp)(c:Sort.Below lt bp b0 cX)(l:yT S n g cr lc ch lt bp b0 lim cX Q):
  de au ob LM Q ⟨t,(.loc 0,[.func g lc,.func cr ch])::(S cX.toList).b,(S cX.toList).e,1,o⟩:=by
 obtain⟨t1,t2,t3,t4,t10⟩:=id T;have hle:=H.le;unfold LM;have next:∀{d5:Array α} {t o},AP t bp b0 lim->Pv.get 11 t=aj pv->Pv.get 8 t= .bool w->Pv.get 9 t= .bool v->d5.size=n->Sort.Below lt bp b0 d5->Sort.PermIn bp b0 cX d5->de au ob DG Q ⟨t,(.loc 0,[.func g lc,.func cr ch])::(S d5.toList).b,(S d5.toList).e,1,o⟩:=fun j k e f y x s=>apY H m z j k e f r y u p q x (l.mono s)
 have skip:∀{t o},AP t bp b0 lim->Pv.get 11 t=aj pv->Pv.get 8 t= .bool w->Pv.get 9 t= .bool v->de au ob DG Q ⟨t,(.loc 0,[.func g lc,.func cr ch])::(S cX.toList).b,(S cX.toList).e,1,o⟩:=fun j k e f=>next j k e f b c (Sort.permIn_refl _ _ _)
 by_cases ay:(w=true/\v=true)/\h=1
 ·obtain⟨⟨rfl,rfl⟩,rfl⟩:=ay;simp[t1,t2,t4,t8,t9,t12,ae,H.slc,H.ssc];simp only[jl H,H.slc,H.ssc,je];have d:=ajE H cX b bp b0 Ω p Ω;have a:=Sort.partialInsertionSort_holds m cX bp b0 Ω Ω c;generalize (Sort.partialInsertionSort lt cX bp b0).1=d5 at d a;generalize (Sort.partialInsertionSort lt cX bp b0).2=ok at d a;refine H.fnD b d (by simp[aA,aH,H.kdata (lk:=cX.toList) (by simpa using b)]) fun i o=>?_;cases ok
  ·simp;exact next ⟨by simp[t1],by simp[t2],by simp[t3],by simp[t4],by simp[t10]⟩ (by simp[t11]) (by simp[t8]) (by simp[t9]) i (c.perm Ω a.1) a.1
  ·simp;exact l.r _ _ _ a.1 (a.2 rfl)
 ·cases w
  ·simp[t8,t9,t12];exact skip ⟨by simp[t1],by simp[t2],by simp[t3],by simp[t4],by simp[t10]⟩ (by simp[t11]) (by simp[t8]) (by simp[t9])
  ·cases v
   ·simp[t8,t9,t12];exact skip ⟨by simp[t1],by simp[t2],by simp[t3],by simp[t4],by simp[t10]⟩ (by simp[t11]) (by simp[t8]) (by simp[t9])
   ·have J:((h:Int)==1)=false:=by simp at ay⊢;omega
    simp[t8,t9,t12,J];exact skip ⟨by simp[t1],by simp[t2],by simp[t3],by simp[t4],by simp[t10]⟩ (by simp[t11]) (by simp[t8]) (by simp[t9])
def aak(H:fS S n g cr lc ch lt)(s:tV S 901)(i:Sort.SWO lt)(j:Dp S n g cr lc ch lt (b0-bp))(T:AP t bp b0 lim){w v:Bool}(t8:Pv.get 8 t= .bool w)(t9:Pv.get 9 t= .bool v)(e:lim<=1000)(s1:cX.size=n)(a:b0<=n)(d:12<b0-bp)(l:Sort.Below lt bp b0 cX)(f:yT S n g cr lc ch lt bp b0 lim cX Q):
  de au ob LN Q ⟨t,(.loc 0,[.func g lc,.func cr ch])::(S cX.toList).b,(S cX.toList).e,1,o⟩:=by
 obtain⟨t1,t2,t3,t4,t10⟩:=id T;have hle:=H.le;have m:∀c:Array α,c.size=n->aA (aM (S c.toList)) (fE g cr lc ch):=fun c h=>H.kdata (lk:=c.toList) (by simpa using h);unfold LN;simp[t1,t2,t4,ae,H.slc,H.ssc];simp only[jl H,H.slc,H.ssc,je];have b:=Sort.choosePivot_holds lt cX bp b0 Ω;have k:=ajf H s cX s1 bp b0 Ω a;generalize Sort.choosePivot lt cX bp b0=u at k b;obtain⟨p,hint⟩:=u;simp only at k b;refine H.fnA s1 s1 k (by simp[aA,aH,m cX s1]) fun o=>?_;cases hint
 ·simp[BI];exact PE H i j ⟨by simp[t1],by simp[t2],by simp[t3],by simp[t4],by simp[t10]⟩ (pv:=p) Ψ (h:=0) Ψ (w:=w) (v:=v) (by simp[t8]) (by simp[t9]) e s1 b a d l f
 ·simp[BI];exact PE H i j ⟨by simp[t1],by simp[t2],by simp[t3],by simp[t4],by simp[t10]⟩ (pv:=p) Ψ (h:=1) Ψ (w:=w) (v:=v) (by simp[t8]) (by simp[t9]) e s1 b a d l f
 ·simp[BI,t1,t2,t4,ae,H.slc,H.ssc];simp only[jl H,H.slc,H.ssc,je];refine H.fnD s1 (ajL H cX s1 bp b0 Ω a Ω) (by simp[aA,aH,m cX s1]) fun s2 o=>?_;have q:=Sort.reverseRange_holds cX bp b0 Ω Ω;have r:((b0:Int)-1-(p-bp))=((b0-1)-(p-bp):Nat):=Ω
  simp[t1,t2,r];(repeat' first|refine al ?_|simp[r,t1,t2]);exact PE H i j ⟨by simp[t1],by simp[t2],by simp[t3],by simp[t4],by simp[t10]⟩ (pv:=(b0-1)-(p-bp)) Ψ (h:=1) Ψ (w:=w) (v:=v) (by simp[t8]) (by simp[t9]) e s2 Ω a d (l.perm Ω q) (f.mono q)
end
def ajH(H:fS S n g cr lc ch lt)(gF:tV S 901)(iD:tV S 902)(F:Sort.SWO lt)(m:Nat):∀(d:Array α) (K:d.size=n) (a b B:Nat) (hm:b-a<=m) (nn:a<=b) (ag:b<=n) (fv:B<=1000) (zr:Sort.Below lt a b d),
  bE au 214 [fE g cr lc ch,aj a,aj b,aj B] (S d.toList) fun r ak=>r= .tuple []/\∃q,ak=S q.toList/\Sort.PermIn a b d q/\Sort.SortedIn lt a b q:=by
 induction m using Nat.strongRecOn with
 |ind m b1=>
 intro d K a b B hm nn ag fv zr;have ai:=H.ok d.toList;have G:d.toList.length=n:=by simpa using K
 have aw:∀l m,ae (.loc m) (S l).b=none:=fun l=>(H.ok l).obj.1;have hu:∀l m cs,cL (.loc m) cs (S l).b=(S l).b++[(.loc m,cs)]:=fun l m cs=>kO (aw l m);have aq:∀m,aB.loc m∉cJ (S d.toList):=kJ ai.obj;have hle:=H.le;refine bE.mk mixed a6 Tryz.func214 apc Ψ ai.obj fun aR c5=>?_;unfold TK;simp[fE,hu,aq,c7,aw];refine H.loopA G [4] (fun(x:((Nat×Nat×Nat)×Bool×Bool)×Array α)=>[(1,aj x.1.1.1),(2,aj x.1.1.2.1),(3,aj x.1.1.2.2),(8,.bool x.1.2.1),(9,.bool x.1.2.2)]) (·.2) (fun x=>x.1.1.2.1-x.1.1.1) (fun x=>x.2.size=n/\(x.1.1.1<=x.1.1.2.1/\x.1.1.2.1<=n/\x.1.1.2.1-x.1.1.1<=m/\x.1.1.2.2<=1000)/\Sort.Below lt x.1.1.1 x.1.1.2.1 x.2/\∀R,Sort.PermIn x.1.1.1 x.1.1.2.1 x.2 R->Sort.SortedIn lt x.1.1.1 x.1.1.2.1 R->Sort.PermIn a b d R/\Sort.SortedIn lt a b R)
  (((a,b,B),true,true),d) K ⟨K,⟨nn,ag,hm,fv⟩,zr,fun R J U=>⟨J,U⟩⟩ (by simp[c7,aw]) aX aX dl ?_
 rintro⟨⟨⟨bp,b0,i⟩,atM,wp⟩,f⟩ ⟨c,⟨s,u,ea,V⟩,EY,N⟩;simp only at c s u ea V EY N;have Q:∀E:Array α,E.size=n->aA (aM (S E.toList)) (fE g cr lc ch):=fun E h=>H.kdata (lk:=E.toList) (by simpa using h);have M:∀(R:Array α) t o,Sort.PermIn bp b0 f R->Sort.SortedIn lt bp b0 R->c6 [] (S d.toList) (fun r ak=>r= .tuple []/\∃q,ak=S q.toList/\Sort.PermIn a b d q/\Sort.SortedIn lt a b q) .ret ⟨t,(.loc 0,[.func g lc,.func cr ch])::(S R.toList).b,(S R.toList).e,1,o⟩:=fun R t o J U=>by refine H.retA G (by rw[J.1];exact c) (.inl rfl) ⟨rfl,R,rfl,N R J U⟩
 simp;by_cases uN:b0-bp<=12
 ·have A:(b0:Int)-bp<=12:=Ω
  (repeat' first|refine al ?_|simp[A,ae,H.slc,H.ssc]);simp only[jl H,H.slc,H.ssc,je];refine H.fnD c (ajs H f c bp b0 s u) (by simp[aA,aH,Q f c]) fun s2 o=>?_;obtain⟨a8,Z⟩:=Sort.insertionSort_holds F f bp b0 s Ω;simp;exact M _ _ _ a8 Z
 have A:¬(b0:Int)-bp<=12:=Ω
 by_cases xM:i=0
 ·have O:(((i:Nat):Int)==0)=true:=by simp[xM]
  (repeat' first|refine al ?_|simp[A,O,ae,H.slc,H.ssc]);simp only[jl H,H.slc,H.ssc,je];refine H.fnD c (aji H f c bp b0 s u Ω) (by simp[aA,aH,Q f c]) fun s2 o=>?_;obtain⟨a8,Z⟩:=Sort.heapSort_holds F f bp b0 s Ω;simp;exact M _ _ _ a8 Z
 have O:(((i:Nat):Int)==0)=false:=by simp[xM]
 have XG:Dp S n g cr lc ch lt (b0-bp):=fun k ad=>b1 k Ω;cases atM
 ·(repeat' first|refine al ?_|simp[A,O,ae,H.slc,H.ssc]);simp only[jl H,H.slc,H.ssc,je];refine H.fnD c (aje H iD f c bp b0 s u Ω) (by simp[aA,aH,Q f c]) fun s1 o=>?_;have P:=Sort.breakPatterns_holds f bp b0 s Ω;generalize Sort.breakPatterns f bp b0=d1 at s1 P;have el:((i:Int)-1)=(i-1:Nat):=Ω
  simp[el];(repeat' first|refine al ?_|simp[el,ae]);refine aak (lim:=i-1) H gF F XG ⟨Ψ,Ψ,Ψ,Ψ,Ψ⟩ (w:=false) (v:=wp) Ψ Ψ Ω s1 u Ω (EY.perm Ω P) ⟨?_,fun R t o p j=>?_⟩
  ·rintro e he a2 X w v L t o z aC Y b4 W y t1 t2 t3 t4 t8 t9;rcases he with rfl|rfl<;>simp<;>exact bX.whl (((a2,X,i-1),w,v),L) d6 ⟨z,⟨aC,Y,by simp;omega,by simp;omega⟩,W,fun R p j=>N R (Sort.permIn_trans _ _ _ bp b0 P (y R p j).1) (y R p j).2⟩ (H.weakC G (by simpa using z) (by simp[aA,t1,t2,t3,t4,t8,t9]))
  ·simpa using M R t o (Sort.permIn_trans _ _ _ bp b0 P p) j
 ·(repeat' first|refine al ?_|simp[A,O,ae,H.slc,H.ssc]);refine aak (lim:=i) H gF F XG ⟨Ψ,Ψ,Ψ,Ψ,Ψ⟩ (w:=true) (v:=wp) Ψ Ψ V c u Ω EY ⟨?_,fun R t o p j=>?_⟩
  ·rintro e he a2 X w v L t o z aC Y b4 W y t1 t2 t3 t4 t8 t9;rcases he with rfl|rfl<;>simp<;>exact bX.whl (((a2,X,i),w,v),L) d6 ⟨z,⟨aC,Y,by simp;omega,V⟩,W,fun R p j=>N R (y R p j).1 (y R p j).2⟩ (H.weakC G (by simpa using z) (by simp[aA,t1,t2,t3,t4,t8,t9]))
  ·simpa using M R t o p j
end
section
open Go Go.Pv
variable {α:Type} {S:List α->cT} {n g cr:Nat} {lc ch:List af} {lt:α->α->Bool}
def am8(n:sa lt){l lk:List α}{a b i:Nat}(t:a+1<=i)(E:i<=b)(A:b<=l.length)(e:ga lt (a+1) b l){z:α}(g:l[a]? =some z)(r:∀h x,a+1<=h->h<i->l[h]? =some x->lt x z=true)(s:∀h x,i<=h->h<b->l[h]? =some x->lt x z=false)
  (o:∀k,lk[k]? =l[iV a (a+1) i k]?):ga lt a b lk:=by
 intro p q x y w u j c d;rw[o]at c d;simp only[iV]at c d;rw[if_neg Ω]at c d;by_cases B:q<i-1
 ·rw[if_pos Ω]at c d;exact e _ _ _ _ Ω Ω Ω c d
 ·rw[if_neg Ω]at d;by_cases m:q<i
  ·rw[if_pos m,show q-(i-(a+1))=a by omega,g]at d;cases d;rw[if_pos Ω]at c;exact n.asym _ _ (r _ _ Ω Ω c)
  ·rw[if_neg m]at d;by_cases v:p<i-1
   ·rw[if_pos Ω]at c;exact e _ _ _ _ Ω Ω Ω c d
   ·rw[if_neg Ω]at c;by_cases f:p<i
    ·rw[if_pos f,show p-(i-(a+1))=a by omega,g]at c;cases c;exact s _ _ Ω j d
    ·rw[if_neg f]at c;exact e _ _ _ _ Ω Ω j c d
def am9(n:sa lt){l lk:List α}{a m i:Nat}(v:a<=i)(o:i<=m)(E:m+1<=l.length)(e:ga lt a m l){z:α}(g:l[m]? =some z)(t:∀h x,a<=h->h<i->l[h]? =some x->lt z x=false)(u:∀h x,i<=h->h<m->l[h]? =some x->lt z x=true)
  (r:∀k,lk[k]? =l[iV i m (m+1) k]?):ga lt a (m+1) lk:=by
 intro p q x y d j A b c;rw[r]at b c;simp only[iV]at b c;by_cases s:q<i
 ·rw[if_pos Ω]at b c;exact e _ _ _ _ d j Ω b c
 ·rw[if_neg s]at c;by_cases B:q=i
  ·rw[if_pos Ω,show q+(m-i)=m by omega,g]at c;cases c;rw[if_pos Ω]at b;exact t _ _ d Ω b
  ·rw[if_neg Ω,if_pos Ω]at c;by_cases f:p<i
   ·rw[if_pos f]at b;exact e _ _ _ _ d Ω Ω b c
   ·rw[if_neg f]at b;by_cases w:p=i
    ·rw[if_pos Ω,show p+(m-i)=m by omega,g]at b;cases b;exact n.asym _ _ (u _ _ Ω Ω c)
    ·rw[if_neg Ω,if_pos Ω]at b;exact e _ _ _ _ Ω Ω Ω b c
structure Gt (lt:α->α->Bool) (a s m e b mid:Nat) (lk:List α):Prop where
 s1:ga lt a s lk
 s2:ga lt s mid lk
 s3:ga lt mid e lk
 s4:ga lt e b lk
 cross:∀p q x y,a<=p->p<mid->mid<=q->q<b->lk[p]? =some x->lk[q]? =some y->lt y x=false
def ga.le(g:sa lt){a b:Nat}{l:List α}(h:ga lt a b l){i j:Nat}{x y:α}(J:a<=i)(U:i<=j)(k:j<b)(d:l[i]? =some x)(c:l[j]? =some y):lt y x=false:=by
 by_cases e:i=j
 ·subst e;rw[d]at c;cases c;cases f:lt x x with
  |false=>rfl
  |true=>have:=g.asym _ _ f;rw[f]at this;exact this
 ·exact h _ _ _ _ J Ω k d c
def anh(f:sa lt){l lk:List α}{a m b mid s e:Nat}(has:a<=s)(e5:s<=m)(H:m<=e)(K:e<=b)(N:b<=l.length)(M:s+e=mid+m)(J:ga lt a m l)(U:ga lt m b l)
  (o:s=a\/e=b\/ ∃x y,l[s-1]? =some x/\l[e]? =some y/\lt y x=false) (n:s=m\/e=m\/ ∃x y,l[s]? =some x/\l[e-1]? =some y/\lt y x=true) (j:∀k,lk[k]? =l[iV s m e k]?):Gt lt a s m e b mid lk:=by
 have g1:∀p,p<s->lk[p]? =l[p]?:=fun p g=>by rw[j];simp[iV,g]
 have g2:∀p,s<=p->p<mid->lk[p]? =l[p+(m-s)]?:=fun p B L=>by rw[j];simp only[iV];rw[if_neg Ω,if_pos Ω]
 have g3:∀p,mid<=p->p<e->lk[p]? =l[p-(e-m)]?:=fun p B L=>by rw[j];simp only[iV];rw[if_neg Ω,if_neg Ω,if_pos Ω]
 have g4:∀p,e<=p->lk[p]? =l[p]?:=fun p B=>by
  rw[j];simp only[iV];rw[if_neg Ω];by_cases G:p<s+(e-m)
  ·omega
  ·rw[if_neg G,if_neg Ω]
 refine⟨fun p q x y g i h d c=>?_,fun p q x y g i h d c=>?_,fun p q x y g i h d c=>?_,fun p q x y g i h d c=>?_,fun p q x y g w h E d c=>?_⟩
 ·rw[g1 _ Ω]at d c;exact J _ _ _ _ g i Ω d c
 ·rw[g2 _ Ω Ω]at d c;exact U _ _ _ _ Ω Ω Ω d c
 ·rw[g3 _ Ω Ω]at d c;exact J _ _ _ _ Ω Ω Ω d c
 ·rw[g4 _ Ω]at d c;exact U _ _ _ _ Ω Ω Ω d c
 ·by_cases F:p<s
  ·rw[g1 _ F]at d;by_cases z:q<e
   ·rw[g3 _ h z]at c;exact J _ _ _ _ g Ω Ω d c
   ·rw[g4 _ Ω]at c;rcases o with o|o|⟨u,v,A,r,t⟩
    ·omega
    ·omega
    ·exact f.ntr _ _ _ (f.ntr _ _ _ (ga.le f J g Ω Ω d A) t) (ga.le f U Ω Ω E r c)
  ·rw[g2 _ Ω w]at d;by_cases z:q<e
   ·rw[g3 _ h z]at c;rcases n with n|n|⟨u,v,A,r,t⟩
    ·omega
    ·omega
    ·exact f.ntr _ _ _ (f.ntr _ _ _ (ga.le f U Ω Ω Ω d r) (f.asym _ _ t)) (ga.le f J Ω Ω Ω A c)
   ·rw[g4 _ Ω]at c;exact U _ _ _ _ Ω Ω E d c
def ani{a mid b:Nat}(t:a<=mid){lk e f:List α}(J:hl a mid lk e)(s1:ga lt a mid e)(U:hl mid b e f)(s2:ga lt mid b f)(i:∀p q x y,a<=p->p<mid->mid<=q->q<b->lk[p]? =some x->lk[q]? =some y->lt y x=false):ga lt a b f:=by
 intro p q x y m j n c d;by_cases r:q<mid
 ·rw[U.out _ (.inl Ω)]at c;rw[U.out _ (.inl Ω)]at d;exact s1 _ _ _ _ m j r c d
 ·by_cases s:mid<=p
  ·exact s2 _ _ _ _ s j n c d
  ·rw[U.out _ (.inl Ω)]at c;refine U.all (fun y=>lt y x=false) (fun k y l o d=>?_) q y Ω n d;rw[J.out _ (.inr l)]at d;exact J.all (fun x=>lt y x=false) (fun bs x h g c=>i bs k x y h g l o c d) p x m Ω c
end
section
open Go Go.Pv
variable {α:Type} {S:List α->cT} {n g cr:Nat} {lc ch:List af} {lt:α->α->Bool}
def ar1(lt:α->α->Bool)(l:List α)(mid m s0 r0:Nat)(x:Nat×Nat):Prop:=s0<=x.1/\x.1<=x.2/\x.2<=r0/\(x.1=s0\/ ∃u v,l[x.1-1]? =some u/\l[mid+m-x.1]? =some v/\lt v u=false)/\(x.2=r0\/ ∃u v,l[x.2]? =some u/\l[mid+m-x.2-1]? =some v/\lt v u=true)
attribute [local simp] qK
def GB(S:List α->cT)(n g cr:Nat)(lc ch:List af)(lt:α->α->Bool)(d:Nat):Prop:=
 ∀(l:List α) (a m b:Nat),l.length=n->b-a<=d->a<m->m<b->b<=n->ga lt a m l->ga lt m b l->
  bE au 232 [fE g cr lc ch,aj a,aj m,aj b] (S l) fun r e=>r= .tuple []/\∃c,e=S c/\hl a b l c/\ga lt a b c
def GC(S:List α->cT)(g cr:Nat)(lc ch:List af)(lt:α->α->Bool)(a b:Nat)(l:List α)(Q:Exit->bo->Prop):Prop:=∀c t o,hl a b l c->ga lt a b c->Q .normal ⟨t,(.loc 0,[.func g lc,.func cr ch])::(S c).b,(S c).e,1,o⟩
section
variable {a m b mid i e d:Nat} {l:List α} {t:List (Nat×af)} {o:List aB} {ob:List aB} {Q:Exit->bo->Prop}
def arG(H:fS S n g cr lc ch lt)(r:GB S n g cr lc ch lt d)(t3:Pv.get 3 t=aj b)(t4:Pv.get 4 t= .ptr (.loc 0) 0)(t16:Pv.get 16 t=aj mid)(t22:Pv.get 22 t=aj e)(c:l.length=n)(J:mid<=e)(U:e<=b)(s:b<=n)(u:b-mid<=d)(p:ga lt mid e l)(m:ga lt e b l)(i:GC S g cr lc ch lt mid b l Q):
  de au ob GY Q ⟨t,(.loc 0,[.func g lc,.func cr ch])::(S l).b,(S l).e,1,o⟩:=by
 unfold GY;by_cases a:mid<e/\e<b
 ·simp[t3,t4,t16,t22,a.1,a.2,ae];simp only[jl H,H.slc,H.ssc,je];refine H.doFn c (r l mid e b c u a.1 a.2 s p m) (fun w h=>by rw[h.1.length];exact c) (by simp[aH,aA,H.kdata c]) ?_;rintro v ⟨q,z2⟩;simp;exact i _ _ _ q z2
 ·have k:ga lt mid b l:=by
   by_cases f:mid<e
   ·rwa[show e=b by omega]at p
   ·rwa[show e=mid by omega]at m
  by_cases f:mid<e
  ·have j:¬e<b:=Ω
   simp[t3,t16,t22,f,j];exact i _ _ _ (.refl _) k
  ·simp[t16,t22,f];exact i _ _ _ (.refl _) k
def arH(H:fS S n g cr lc ch lt)(A:GB S n g cr lc ch lt d)(t1:Pv.get 1 t=aj a)(t3:Pv.get 3 t=aj b)(t4:Pv.get 4 t= .ptr (.loc 0) 0)(t16:Pv.get 16 t=aj mid)(t18:Pv.get 18 t=aj i)(t22:Pv.get 22 t=aj e)(j:l.length=n)(Y:a<=i/\i<=mid/\a<=m)(J:mid<=e)(U:e<=b)(P:b<=n)(R:b-mid<=d)(F:mid-a<=d)(f:Gt lt a i m e b mid l)(G:GC S g cr lc ch lt a b l Q):
  de au ob GZ Q ⟨t,(.loc 0,[.func g lc,.func cr ch])::(S l).b,(S l).e,1,o⟩:=by
 unfold GZ;have next:∀{k t o},Pv.get 3 t=aj b->Pv.get 4 t= .ptr (.loc 0) 0->Pv.get 16 t=aj mid->Pv.get 22 t=aj e->k.length=n->hl a mid l k->ga lt a mid k->de au ob GY Q ⟨t,(.loc 0,[.func g lc,.func cr ch])::(S k).b,(S k).e,1,o⟩:=fun O V L N E c r=>by
  refine arG H A O V L N E J U P R (fun p q x y J U z s u=>?_) (fun p q x y J U z s u=>?_) fun K t o B M=>?_
  ·rw[c.out _ (.inr J)]at s;rw[c.out _ (.inr Ω)]at u;exact f.s3 p q x y J U z s u
  ·rw[c.out _ (.inr Ω)]at s;rw[c.out _ (.inr Ω)]at u;exact f.s4 p q x y J U z s u
  ·exact G K t o ((c.mono Ω Ω).trans (B.mono Ω Ω)) (ani Ω c r B M f.cross)
 by_cases v:a<i/\i<mid
 ·simp[t1,t4,t16,t18,v.1,v.2,ae];simp only[jl H,H.slc,H.ssc,je];refine H.doFn j (A l a i mid j F v.1 v.2 Ω f.s1 f.s2) (fun X h=>by rw[h.1.length];exact j) (by simp[aH,aA,H.kdata j]) ?_;rintro k ⟨c,r⟩;simp;exact next (by simp[t3]) (by simp[t4]) (by simp[t16]) (by simp[t22]) (by rw[c.length];exact j) c r
 ·have r:ga lt a mid l:=by
   by_cases w:a<i
   ·have:=f.s1;rwa[show i=mid by omega]at this
   ·have:=f.s2;rwa[show i=a by omega]at this
  by_cases w:a<i
  ·have W:¬i<mid:=Ω
   simp[t1,t16,t18,w,W];exact next (by simp[t3]) (by simp[t4]) (by simp[t16]) (by simp[t22]) j (.refl _) r
  ·simp[t1,t18,w];exact next (by simp[t3]) (by simp[t4]) (by simp[t16]) (by simp[t22]) j (.refl _) r
def arI(H:fS S n g cr lc ch lt)(K:GB S n g cr lc ch lt d)(t1:Pv.get 1 t=aj a)(t2:Pv.get 2 t=aj m)(t3:Pv.get 3 t=aj b)(t4:Pv.get 4 t= .ptr (.loc 0) 0)(t16:Pv.get 16 t=aj mid)(t18:Pv.get 18 t=aj i)(t22:Pv.get 22 t=aj e)(c:l.length=n)(F:a<=i/\i<=mid/\a<=m)(J:mid<=e)(U:e<=b)(M:b<=n)(N:b-mid<=d)(w:mid-a<=d)(u:∀lk:List α,(∀k,lk[k]? =l[iV i m e k]?)->Gt lt a i m e b mid lk)(x:GC S g cr lc ch lt a b l Q):
  de au ob LO Q ⟨t,(.loc 0,[.func g lc,.func cr ch])::(S l).b,(S l).e,1,o⟩:=by
 unfold LO;have next:∀{lk t o},Pv.get 1 t=aj a->Pv.get 3 t=aj b->Pv.get 4 t= .ptr (.loc 0) 0->Pv.get 16 t=aj mid->Pv.get 18 t=aj i->Pv.get 22 t=aj e->lk.length=n->Gt lt a i m e b mid lk->hl a b l lk->de au ob GZ Q ⟨t,(.loc 0,[.func g lc,.func cr ch])::(S lk).b,(S lk).e,1,o⟩:=fun L O E G B A y j v=>arH H K L O E G B A y F J U M N w j fun z t o p q=>x z t o (v.trans p) q
 by_cases f:i<m/\m<e
 ·simp[t2,t4,t18,t22,f.1,f.2,ae];simp only[jl H,H.slc,H.ssc,je];refine H.doFn c (ajM H l c i m e f.1 f.2 Ω) (fun P h=>by rw[h.1.length];exact c) (by simp[aH,aA,H.kdata c]) ?_;rintro lk ⟨p,q⟩;simp;exact next (by simp[t1]) (by simp[t3]) (by simp[t4]) (by simp[t16]) (by simp[t18]) (by simp[t22]) (by rw[p.length];exact c) (u lk q) (p.mono Ω Ω)
 ·have j:=u l (fun k=>by
   congr 1;simp only[iV];repeat' split
   all_goals omega)
  by_cases s:i<m
  ·have r:¬m<e:=Ω
   simp[t2,t18,t22,s,r];exact next (by simp[t1]) (by simp[t3]) (by simp[t4]) (by simp[t16]) (by simp[t18]) (by simp[t22]) c j (.refl _)
  ·simp[t2,t18,s];exact next (by simp[t1]) (by simp[t3]) (by simp[t4]) (by simp[t16]) (by simp[t18]) (by simp[t22]) c j (.refl _)
def acd{bb:List (aB×List af)}(H:fS S n g cr lc ch lt)(L:ae (.loc 0) bb=some [.func g lc,.func cr ch])(U:∀k cs,ae k (S l).b=some cs->ae k bb=some cs)(W:sa lt)(Z:GB S n g cr lc ch lt d){s0 r0:Nat}(t1:Pv.get 1 t=aj a)(t2:Pv.get 2 t=aj m)(t3:Pv.get 3 t=aj b)(t4:Pv.get 4 t= .ptr (.loc 0) 0)(t16:Pv.get 16 t=aj mid)(t17:Pv.get 17 t=aj ((mid:Int)+m))(t18:Pv.get 18 t=aj s0)(t19:Pv.get 19 t=aj r0)(f:l.length=n)(bA:a<m/\m<b/\mid=(a+b)/2)(J:mid<m/\s0=mid+m-b/\r0=mid\/m<=mid/\s0=a/\r0=m)(ag:b<=n)(aK:b-a<=d+1)(N:ga lt a m l)(M:ga lt m b l)(O:GC S g cr lc ch lt a b l Q):
  de au (cJ (S l)) LP Q ⟨t,bb,(S l).e,1,o⟩:=by
 have hle:=H.le;unfold LP;simp[t17];(repeat' first|refine al ?_|simp[t17]);refine pe (fun(x:Nat×Nat)=>⟨[(1,aj a),(2,aj m),(3,aj b),(4,.ptr (.loc 0) 0),(16,aj mid),(17,aj (mid+m)),(20,aj (mid+m-1)),(18,aj x.1),(19,aj x.2)],(.loc 0,[.func g lc,.func cr ch])::(S l).b,(S l).e,1,cJ (S l)⟩) (fun x=>x.2-x.1)
  (ar1 lt l mid m s0 r0) (s0,r0) (H.weak f f (by simp[aA,t1,t2,t3,t4,t16,t17,t18,t19]) L U fun _ _ h=>h) ⟨Ψ,by simp;omega,Ψ,.inl rfl,.inl rfl⟩ ?_
 rintro⟨i,j⟩ ⟨K,X,G,p,q⟩ _;simp only at K X G p q;have E:=HQ i j Ω;by_cases F:i<j
 ·simp[F];(repeat' first|refine al ?_|simp[ae]);obtain⟨c,ay⟩:∃c,c=(i+j)/2:=⟨_,rfl⟩;rw[<-ay]at E;simp only[E];(repeat' first|refine al ?_|simp[ae]);obtain⟨u,A⟩:∃u,l[c]? =some u:=⟨_,ck Ω⟩;obtain⟨v,z⟩:∃v,l[mid+m-1-c]? =some v:=⟨_,ck Ω⟩;have Y:((mid:Int)+m-1-c)=(mid+m-1-c:Nat):=Ω
  simp only[H.slc,Y];refine H.doLess f (mid+m-1-c) c z A ?_;simp;cases B:lt v u with
  |false=>simp;(repeat' first|refine al ?_|simp);refine bX.whl (c+1,j) d6 ⟨by simp;omega,by simp;omega,G,.inr ⟨u,v,by simpa using A,?_,B⟩,q⟩ (H.weakC f f dl);simp only;rw[show mid+m-(c+1)=mid+m-1-c by omega];exact z
  |true=>simp;(repeat' first|refine al ?_|simp);refine bX.whl (i,c) d6 ⟨K,by simp;omega,by simp;omega,p,.inr ⟨u,v,A,?_,B⟩⟩ (H.weakC f f dl);simp only;rw[show mid+m-c-1=mid+m-1-c by omega];exact z
 ·obtain rfl:i=j:=Ω
  obtain⟨e,he⟩:∃e,e=mid+m-i:=⟨_,rfl⟩;have P:((mid:Int)+m-i)=(e:Nat):=Ω
  have V:i=a\/e=b\/ ∃x y,l[i-1]? =some x/\l[e]? =some y/\lt y x=false:=by
   rcases p with p|⟨u,v,w,s,r⟩
   ·omega
   ·exact .inr (.inr ⟨u,v,w,by rw[he];exact s,r⟩)
  have R:i=m\/e=m\/ ∃x y,l[i]? =some x/\l[e-1]? =some y/\lt y x=true:=by
   rcases q with q|⟨u,v,w,s,r⟩
   ·omega
   ·exact .inr (.inr ⟨u,v,w,by rw[he];exact s,r⟩)
  simp[F];(repeat' first|refine al ?_|simp);rw[P];exact arI H Z (a:=a) (m:=m) (b:=b) (mid:=mid) (i:=i) (e:=e) Ψ Ψ Ψ Ψ Ψ Ψ Ψ f Ω Ω Ω ag Ω Ω (fun lk aJ=>anh W Ω Ω Ω Ω Ω Ω N M V R aJ) O
end
def Wn(H:fS S n g cr lc ch lt)(q:sa lt)(d:Nat):∀(l:List α) (a m b:Nat),l.length=n->b-a<=d->a<m->m<b->b<=n->ga lt a m l->ga lt m b l->
  bE au 232 [fE g cr lc ch,aj a,aj m,aj b] (S l) fun r ak=>r= .tuple []/\∃R,ak=S R/\hl a b l R/\ga lt a b R:=by
 induction d with
 |zero=>intro l a m b f Y Ef P;omega
 |succ d b1=>
 intro l a m b f Y Ef P ag M L;have ai:=H.ok l;have v:∀l m,ae (.loc m) (S l).b=none:=fun l=>(H.ok l).obj.1;have hu:∀l m cs,cL (.loc m) cs (S l).b=(S l).b++[(.loc m,cs)]:=fun l m cs=>kO (v l m);have aq:∀m,aB.loc m∉cJ (S l):=kJ ai.obj;have hle:=H.le;refine bE.mk mixed a6 Tryz.func232 api Ψ ai.obj fun aR c5=>?_;unfold TQ;simp[fE,hu,aq,c7,v];(with_reducible repeat' first|((first|apply cq|apply cu|apply ct)<;>intro h<;>try simp at h)|refine al ?_|simp[hu,aq,c7,v])
 ·obtain rfl:m=a+1:=Ω
  have NG:∀k,iV a (a+1) (a+1) k=k:=by
   intro k;simp only[iV];repeat' split
   all_goals omega
  obtain⟨z,N⟩:∃z,l[a]? =some z:=⟨_,ck Ω⟩;refine pe (fun(x:Nat×Nat)=>⟨[(1,aj a),(4,.ptr (.loc 0) 0),(8,aj x.1),(9,aj x.2)],(.loc 0,[.func g lc,.func cr ch])::(S l).b,(S l).e,1,cJ (S l)⟩) (fun x=>x.2-x.1)
   (fun x=>a+1<=x.1/\x.1<=x.2/\x.2<=b/\(∀h y,a+1<=h->h<x.1->l[h]? =some y->lt y z=true)/\(∀h y,x.2<=h->h<b->l[h]? =some y->lt y z=false)) (a+1,b)
   (H.weak f f dl (by simp[c7,v]) aX aX) ⟨Ψ,by simp;omega,Ψ,fun h y J U=>by simp at U;omega,fun h y J U=>by simp at J;omega⟩ ?_
  rintro⟨i,j⟩ ⟨O,X,F,w,A⟩ _;simp only at O X F w A;have hw:=HQ i j Ω;simp[ae];(with_reducible repeat' first|((first|apply cq|apply cu|apply ct)<;>intro h<;>try simp at h)|refine al ?_|simp[ae])
  ·obtain⟨c,ay⟩:∃c,c=(i+j)/2:=⟨_,rfl⟩;rw[<-ay]at hw;obtain⟨y,G⟩:∃y,l[c]? =some y:=⟨_,ck Ω⟩;simp only[hw,H.slc];refine H.doLess f c a G N ?_;simp;cases K:lt y z with
   |true=>
    simp;(repeat' first|refine al ?_|simp);refine bX.whl (c+1,j) d6 ⟨by simp;omega,by simp;omega,F,fun h u J U hu=>?_,A⟩ (H.weakC f f dl);cases e:lt u z with
    |true=>rfl
    |false=>simp only at U;have:=q.ntr _ _ _ e (ga.le q L J Ω Ω hu G);rw[K]at this;cases this
   |false=>simp;(repeat' first|refine al ?_|simp);refine bX.whl (i,c) d6 ⟨O,by simp;omega,by simp;omega,w,fun h u J U hu=>?_⟩ (H.weakC f f dl);exact q.ntr _ _ _ K (ga.le q L Ω J U G hu)
  ·obtain rfl:i=j:=Ω
   refine pe (fun(x:Nat×List α)=>⟨[(4,.ptr (.loc 0) 0),(8,aj i),(11,aj x.1)],(.loc 0,[.func g lc,.func cr ch])::(S x.2).b,(S x.2).e,1,cJ (S l)⟩) (fun x=>i-x.1)
    (fun x=>x.2.length=n/\a<=x.1/\x.1<i/\hl a b l x.2/\∀k,x.2[k]? =l[iV a (a+1) (x.1+1) k]?) (a,l)
    (H.weakC f f dl) ⟨f,Ψ,by simp;omega,.refl _,fun k=>by simp[NG]⟩ ?_
   rintro⟨k,lk⟩ ⟨p,E,W,B,s⟩ _;simp only at p E W B s;simp[ae];((repeat' first|refine al ?_|simp[ae]|((first|apply cq|apply cu|apply ct)<;>intro h<;>try simp at h))<;>(try exact c0))
   ·have V:((k:Int)+1)=(k+1:Nat):=Ω
    rw[H.ssc,V];refine H.doSwap p k (k+1) Ω Ω Ω ?_;simp;(with_reducible repeat' first|((first|apply cq|apply cu|apply ct)<;>intro h<;>try simp at h)|refine al ?_|simp);refine bX.whl (k+1,ib lk k (k+1)) d6 ⟨by simp[p],by simp;omega,by simp;omega,.step B Ω Ω Ω Ω Ω Ω,fun t=>?_⟩ (H.weakC f (by simp[p]) dl);rw[Cg _ _ _ _ Ω Ω,s,s,s];have:iV a (a+1) (k+1+1) t=if t=k then iV a (a+1) (k+1) (k+1)else if t=k+1 then iV a (a+1) (k+1) k else iV a (a+1) (k+1) t:=by
     simp only[iV];repeat' split
     all_goals omega
    rw[this];split
    ·rfl
    ·split<;>rfl
   ·obtain rfl:i=k+1:=Ω
    refine H.ret f p (.inl rfl) ⟨rfl,lk,rfl,B,am8 q Ω F Ω L N w A s⟩
 ·obtain rfl:b=m+1:=Ω
  have NG:∀k,iV m m (m+1) k=k:=by
   intro k;simp only[iV];repeat' split
   all_goals omega
  obtain⟨z,N⟩:∃z,l[m]? =some z:=⟨_,ck Ω⟩;refine pe (fun(x:Nat×Nat)=>⟨[(2,aj m),(4,.ptr (.loc 0) 0),(12,aj x.1),(13,aj x.2)],(.loc 0,[.func g lc,.func cr ch])::(S l).b,(S l).e,1,cJ (S l)⟩) (fun x=>x.2-x.1)
   (fun x=>a<=x.1/\x.1<=x.2/\x.2<=m/\(∀h y,a<=h->h<x.1->l[h]? =some y->lt z y=false)/\(∀h y,x.2<=h->h<m->l[h]? =some y->lt z y=true)) (a,m)
   (H.weak f f dl (by simp[c7,v]) aX aX) ⟨Ψ,by simp;omega,Ψ,fun h y J U=>by simp at U;omega,fun h y J U=>by simp at J;omega⟩ ?_
  rintro⟨i,j⟩ ⟨O,X,F,w,A⟩ _;simp only at O X F w A;have hw:=HQ i j Ω;simp[ae];(with_reducible repeat' first|((first|apply cq|apply cu|apply ct)<;>intro h<;>try simp at h)|refine al ?_|simp[ae])
  ·obtain⟨c,ay⟩:∃c,c=(i+j)/2:=⟨_,rfl⟩;rw[<-ay]at hw;obtain⟨y,G⟩:∃y,l[c]? =some y:=⟨_,ck Ω⟩;simp only[hw,H.slc];refine H.doLess f m c N G ?_;simp;cases K:lt z y with
   |false=>simp;((repeat' first|refine al ?_|simp|((first|apply cq|apply cu|apply ct)<;>intro h<;>try simp at h))<;>(try exact c0));refine bX.whl (c+1,j) d6 ⟨by simp;omega,by simp;omega,F,fun h u J U hu=>?_,A⟩ (H.weakC f f dl);simp only at U;exact q.ntr _ _ _ (ga.le q M J Ω Ω hu G) K
   |true=>
    simp;((repeat' first|refine al ?_|simp|((first|apply cq|apply cu|apply ct)<;>intro h<;>try simp at h))<;>(try exact c0));refine bX.whl (i,c) d6 ⟨O,by simp;omega,by simp;omega,w,fun h u J U hu=>?_⟩ (H.weakC f f dl);cases e:lt z u with
    |true=>rfl
    |false=>have:=q.ntr _ _ _ (ga.le q M Ω J U G hu) e;rw[K]at this;cases this
  ·obtain rfl:i=j:=Ω
   refine pe (fun(x:Nat×List α)=>⟨[(4,.ptr (.loc 0) 0),(12,aj i),(15,aj x.1)],(.loc 0,[.func g lc,.func cr ch])::(S x.2).b,(S x.2).e,1,cJ (S l)⟩) (fun x=>x.1)
    (fun x=>x.2.length=n/\i<=x.1/\x.1<=m/\hl a (m+1) l x.2/\∀k,x.2[k]? =l[iV x.1 m (m+1) k]?) (m,l)
    (H.weakC f f dl) ⟨f,by simp;omega,Ψ,.refl _,fun k=>by simp[NG]⟩ ?_
   rintro⟨k,lk⟩ ⟨p,E,W,B,s⟩ _;simp only at p E W B s;simp[ae];((repeat' first|refine al ?_|simp[ae]|((first|apply cq|apply cu|apply ct)<;>intro h<;>try simp at h))<;>(try exact c0))
   ·have V:((k:Int)-1)=(k-1:Nat):=Ω
    rw[H.ssc,V];refine H.doSwap p k (k-1) Ω Ω Ω ?_;simp;(repeat' first|refine al ?_|simp);refine bX.whl (k-1,ib lk k (k-1)) d6 ⟨by simp[p],by simp;omega,by simp;omega,.step B Ω Ω Ω Ω Ω Ω,fun t=>?_⟩ (H.weakC f (by simp[p]) mW);rw[Cg _ _ _ _ Ω Ω,s,s,s];have:iV (k-1) m (m+1) t=if t=k then iV k m (m+1) (k-1)else if t=k-1 then iV k m (m+1) k else iV k m (m+1) t:=by
     simp only[iV];repeat' split
     all_goals omega
    rw[this];split
    ·rfl
    ·split<;>rfl
   ·obtain rfl:i=k:=Ω
    refine H.ret f p (.inl rfl) ⟨rfl,lk,rfl,B,am9 q Ω F Ω M N w A s⟩
 ·obtain⟨mid,Z⟩:∃mid,mid=(a+b)/2:=⟨_,rfl⟩;have hw:=HQ a b Ω;rw[<-Z]at hw;simp only[hw];(with_reducible repeat' first|((first|apply cq|apply cu|apply ct)<;>intro h<;>try simp at h)|refine al ?_|simp[hu,aq,c7,v])
  ·exact acd (s0:=mid+m-b) (r0:=mid) H (by simp[c7,v]) aX q b1 (a:=a) (m:=m) (b:=b) (mid:=mid) Ψ Ψ Ψ Ψ Ψ Ψ d6 Ψ f ⟨Ef,P,Z⟩ Ω ag Y M L fun Q t o p E=>H.ret f (by rw[p.length];exact f) (.inr rfl) ⟨rfl,Q,rfl,p,E⟩
  ·exact acd (s0:=a) (r0:=m) H (by simp[c7,v]) aX q b1 (a:=a) (m:=m) (b:=b) (mid:=mid) Ψ Ψ Ψ Ψ Ψ Ψ Ψ Ψ f ⟨Ef,P,Z⟩ Ω ag Y M L fun Q t o p E=>H.ret f (by rw[p.length];exact f) (.inr rfl) ⟨rfl,Q,rfl,p,E⟩
end
section
open Go Go.Pv
variable {α:Type} {S:List α->cT} {n g cr:Nat} {lc ch:List af} {lt:α->α->Bool}
def qw(lt:α->α->Bool)(z a b:Nat)(l:List α):Prop:= ∀i j x y,a<=i->i<j->j<b->i/z=j/z->l[i]? =some x->l[j]? =some y->lt y x=false
def qw.snoc{z q:Nat}(f:0<z){l a:List α}(h:qw lt z 0 (q*z) l){b:Nat}(g:hl (q*z) b l a)(U:ga lt (q*z) b a):qw lt z 0 b a:=by
 intro i j x y hi e m o c d;by_cases k:j<q*z
 ·rw[g.out _ (.inl Ω)]at c;rw[g.out _ (.inl k)]at d;exact h i j x y hi e k o c d
 ·have p:q<=j/z:=(Nat.le_div_iff_mul_le f).2 Ω;have n:q*z<=i:=(Nat.le_div_iff_mul_le f).1 Ω;exact U i j x y n e m c d
def qw.srt{z q:Nat}(o:0<z){l:List α}{a b:Nat}(h:qw lt z a b l){c:Nat}(f:a<=q*z)(ay:c<=(q+1)*z)(e:c<=b):ga lt (q*z) c l:=by intro i j x y hi d p g k;have n:i/z=q:=Nat.div_eq_of_lt_le hi Ω;have m:j/z=q:=Nat.div_eq_of_lt_le Ω Ω;exact h i j x y Ω d Ω Ω g k
def qw.after{z a b bp b0:Nat}{l c:List α}(h:qw lt z a b l)(d:hl a bp l c)(m:a<=bp)(o:b0<=b):qw lt z bp b0 c:=by intro i j x y hi g n k e f;rw[d.out _ (.inr Ω)]at e;rw[d.out _ (.inr Ω)]at f;exact h i j x y Ω g Ω k e f
def MN(H:fS S n g cr lc ch lt)(L:sa lt)(l:List α)(f:l.length=n):
  bE au 199 [fE g cr lc ch,aj n] (S l) fun r ak=>r= .tuple []/\∃b,ak=S b/\hl 0 n l b/\ga lt 0 n b:=by
 have ai:=H.ok l;have P:∀l m,ae (.loc m) (S l).b=none:=fun l=>(H.ok l).obj.1;have hu:∀l m cs,cL (.loc m) cs (S l).b=(S l).b++[(.loc m,cs)]:=fun l m cs=>kO (P l m);have aq:∀m,aB.loc m∉cJ (S l):=kJ ai.obj;have hle:=H.le;refine bE.mk mixed a6 Tryz.func199 apg Ψ ai.obj fun aR c5=>?_;unfold TO;simp[fE,hu,aq,c7,P];refine pe (fun(x:Nat×List α)=>⟨[(1,aj n),(2,.ptr (.loc 0) 0),(4,aj 20),(5,aj (x.1*20)),(6,aj (x.1*20+20))],(.loc 0,[.func g lc,.func cr ch])::(S x.2).b,(S x.2).e,1,cJ (S l)⟩) (fun x=>n+20-x.1*20)
  (fun x=>x.2.length=n/\x.1*20<=n/\hl 0 n l x.2/\qw lt 20 0 (x.1*20) x.2) (0,l)
  (H.weak f f dl (by simp[c7,P]) aX aX) ⟨f,Ψ,.refl _,fun i j x y J U k=>by simp at k⟩ ?_
 rintro⟨q,lk⟩ ⟨J,U,k,W⟩ _;simp only at J U k W;simp[ae];((repeat' first|refine al ?_|simp[ae]|((first|apply cq|apply cu|apply ct)<;>intro h<;>try simp at h))<;>(try exact c0))
 ·have Q:((q:Int)*20)=(q*20:Nat):=Ω
  have aC:((q:Int)*20+20)=(q*20+20:Nat):=Ω
  simp only[jl H,H.slc,H.ssc,je,aC];simp only[Q];refine H.doFn J (Wc H L lk J (q*20) (q*20+20) Ω Ω) (fun b h=>by rw[h.1.length];exact J) (by simp[aH,aA,H.kdata J]) ?_;rintro b ⟨s,N⟩;have w:b.length=n:=by rw[s.length];exact J
  simp;((repeat' first|refine al ?_|simp|((first|apply cq|apply cu|apply ct)<;>intro h<;>try simp at h))<;>(try exact c0));refine bX.whl (q+1,b) d6 ⟨w,by simp;omega,k.trans (s.mono Ω Ω),?_⟩ (H.weakC f w mW);have:=W.snoc Ω s N;rwa[show q*20+20=(q+1)*20 by omega]at this
 ·have Q:((q:Int)*20)=(q*20:Nat):=Ω
  simp only[jl H,H.slc,H.ssc,je,Q];refine H.doFn J (Wc H L lk J (q*20) n Ω Ω) (fun b h=>by rw[h.1.length];exact J) (by simp[aH,aA,H.kdata J]) ?_;rintro b ⟨s,N⟩;have w:b.length=n:=by rw[s.length];exact J
  have gg:=W.snoc Ω s N;simp;refine pe (fun(x:Nat×List α)=>⟨[(1,aj n),(2,.ptr (.loc 0) 0),(4,aj x.1)],(.loc 0,[.func g lc,.func cr ch])::(S x.2).b,(S x.2).e,1,cJ (S l)⟩) (fun x=>1099511627776-x.1)
   (fun x=>x.2.length=n/\20<=x.1/\x.1<=2*n+20/\hl 0 n l x.2/\qw lt x.1 0 n x.2) (20,b)
   (H.weakC f w dl) ⟨w,Ψ,Ψ,k.trans (s.mono Ω Ω),gg⟩ ?_
  rintro⟨z,YS⟩ ⟨K,z2,z3,z4,z5⟩ _;simp only at K z2 z3 z4 z5;simp[ae];((repeat' first|refine al ?_|simp[ae]|((first|apply cq|apply cu|apply ct)<;>intro h<;>try simp at h))<;>(try exact c0))
  ·refine pe (fun(x:Nat×List α)=>⟨[(1,aj n),(2,.ptr (.loc 0) 0),(4,aj z),(5,aj (x.1*(2*z):Nat)),(6,aj (x.1*(2*z)+2*z:Nat))],(.loc 0,[.func g lc,.func cr ch])::(S x.2).b,(S x.2).e,1,cJ (S l)⟩) (fun x=>n+2*z-x.1*(2*z))
    (fun x=>x.2.length=n/\x.1*(2*z)<=n/\hl 0 n l x.2/\qw lt (2*z) 0 (x.1*(2*z)) x.2/\qw lt z (x.1*(2*z)) n x.2) (0,YS)
    (H.weakC f K dl) ⟨K,Ψ,z4,fun i j x y J U k=>by simp at k,by simpa using z5⟩ ?_
   rintro⟨p,F⟩ ⟨a,dM,G,o,E⟩ _;simp only at a dM G o E;obtain⟨A,d⟩:∃A,A=p*(2*z):=⟨_,rfl⟩;have zn:A=(2*p)*z:=by rw[d,Nat.mul_comm 2 p,Nat.mul_assoc]
   have X:(2*p+1)*z=A+z:=by rw[rk,<-zn,Nat.one_mul]
   have V:(2*p+2)*z=A+2*z:=by rw[rk,<-zn]
   have t:(p+1)*(2*z)=A+2*z:=by rw[rk,<-d,Nat.one_mul]
   have M:∀c,c<=A+z->c<=n->ga lt A c F:=fun c ay Y=>by have:=qw.srt (q:=2*p) Ω E (c:=c) (by rw[<-zn,d];omega) (by rw[X];exact ay) Y;rwa[<-zn]at this
   have Z:∀c,c<=A+2*z->c<=n->ga lt (A+z) c F:=fun c ay Y=>by have:=qw.srt (q:=2*p+1) Ω E (c:=c) (by rw[X,d];omega) (by rw[V];exact ay) Y;rwa[X]at this
   rw[<-d]at dM o E;simp only[<-d];simp[ae];((repeat' first|refine al ?_|simp[ae]|((first|apply cq|apply cu|apply ct)<;>intro h<;>try simp at h))<;>(try exact c0))
   ·have O:((A:Int)+z)=(A+z:Nat):=Ω
    have b4:((A:Int)+2*z)=(A+2*z:Nat):=Ω
    simp only[jl H,H.slc,H.ssc,je,O,b4];refine H.doFn a (Wn H L (A+2*z-A) F A (A+z) (A+2*z) a Ω Ω Ω Ω (M _ Ω Ω) (Z _ Ω Ω)) (fun b h=>by rw[h.1.length];exact a) (by simp[aH,aA,H.kdata a]) ?_;rintro B ⟨e,u⟩;have v:B.length=n:=by rw[e.length];exact a
    simp;(repeat' first|refine al ?_|simp);refine bX.whl (p+1,B) (by simp only[t,<-d];omega) ⟨v,by simp only[t];omega,G.trans (e.mono Ω Ω),?_,?_⟩ ?_
    ·simp only[t];rw[d]at o e u;have:=o.snoc Ω e u;rwa[<-d]at this
    ·simp only[t];exact E.after e Ω Ω
    ·simp only[t];have R:((p:Int)+1)*(2*(z:Int))=(A:Int)+2*z:=by have h:=fC (Nat.cast:Nat->Int) t;push_cast at h;exact h
     exact H.weakC f v (by simp[aA,R])
   ·have O:((A:Int)+z)=(A+z:Nat):=Ω
    simp only[jl H,H.slc,H.ssc,je,O];refine H.doFn a (Wn H L (n-A) F A (A+z) n a Ω Ω Ω Ω (M _ Ω Ω) (Z _ Ω Ω)) (fun b h=>by rw[h.1.length];exact a) (by simp[aH,aA,H.kdata a]) ?_;rintro B ⟨e,u⟩;have v:B.length=n:=by rw[e.length];exact a
    simp;((repeat' first|refine al ?_|simp|((first|apply cq|apply cu|apply ct)<;>intro h<;>try simp at h))<;>(try exact c0));refine bX.whl (2*z,B) d6 ⟨v,by simp;omega,by simp;omega,G.trans (e.mono Ω Ω),?_⟩ (H.weakC f v mW);rw[d]at o e u;exact o.snoc Ω e u
   ·refine bX.whl (2*z,F) d6 ⟨a,by simp;omega,by simp;omega,G,?_⟩ (H.weakC f a mW);have bQ:=M n Ω Ω;rw[d]at o bQ;exact o.snoc Ω (.refl _) bQ
  ·refine H.ret f K (.inr rfl) ?_;refine⟨rfl,YS,rfl,z4,fun i j x y J U k=>z5 i j x y J U k ?_⟩;rw[Nat.div_eq_of_lt Ω,Nat.div_eq_of_lt Ω]
end
section
open Go Go.Pv Go.Sort Go.RowKit
def alk{w:World}{base:Nat}{e:gW}{sz:Nat}{v:Value}{n:Nat}{us:List Value}(h:w.ownsRow base e sz v n us)(l:v≠ .slice none 0 0):
  ∃g cap,v= .slice (some ⟨g,0,none⟩) n cap/\g<w.heap.size/\cap<=maxLen/\n<=cap/\us.length=n*sz/\Holds id w g 0 us.toArray:=by
 rcases h.2 with⟨d,_⟩|⟨g,cap,cur,rfl,q,bd,i,hm,p,m⟩
 ·exact absurd d l
 ·have f:g<w.heap.size:=by
   rcases Nat.lt_or_ge g w.heap.size with a|a
   ·exact a
   ·rw[Array.getElem?_eq_none a]at bd;cases bd
  refine⟨g,cap,rfl,f,hm,i,h.1,fun j k=>?_⟩;have b:j<us.length:=by simpa using k
  have o:=h.1;refine⟨?_,by simp[World.frozen?,bd]⟩;have c:(cur.toList.take (n*sz))[j]? =us[j]?:=by rw[m]
  rw[List.getElem?_take,if_pos Ω,vA,ck b]at c;simp only[World.cell?,bd,Nat.zero_add];simp only[k6,hU,if_false];rw[c];simp[getElem!_pos,b]
def apU{w:World}{base:Nat}{e:gW}{sz g n cap q:Nat}{us:List Value}{F:Array Value}(h:w.ownsRow base e sz (.slice (some ⟨g,0,none⟩) n cap) n us)(k:F.size=n*sz):
  (putRow id (Sort.ahead w q) g 0 F).ownsRow base e sz (.slice (some ⟨g,0,none⟩) n cap) n F.toList:=by
 rcases h.2 with⟨b,_⟩|⟨o,r,cur,b,m,bd,d,hm,f,p⟩
 ·cases b
 ·injection b with a _ l;injection a with a;injection a with a;subst a;subst l;refine⟨by simpa using k,.inr ⟨g,cap,putCells id 0 F cur,rfl,m,?_,d,hm,by simpa[putCells]using f,?_⟩⟩
  ·simp[putRow,mapBlock,Sort.ahead,Array.getElem?_modify,bd,onCells]
  ·have hle:n*sz<=cur.size:=by rw[f];exact r8 _ d
   apply List.ext_getElem?;intro j;rw[List.getElem?_take,vA,vA];by_cases i:j<n*sz
   ·have c:j<cur.size:=Ω
    simp only[if_pos i,putCells,Array.getElem?_mapIdx,Array.getElem?_eq_getElem c,pN];rw[if_pos Ω];simp[getElem!_pos,show j<F.size by omega]
   ·simp[i];omega
end
end Go.Proofs.YtahlgcidhnjlbaaGreat
namespace Go.Pv
section
open Go Go.RowKit Go.Lib Go.Sort Go.Proofs.YtahlgcidhnjlbaaGreat
def Yi{S:aB->Prop}:∀{l:List af},aH S l↔∀x∈l,aA S x
 |[]=>by simp[aH]
 |x::r=>by simp only[aH,Yi (l:=r),gJ,forall_eq_or_imp]
def Ya{α:Type}{s:cT}{l:List (aB×α)}:lY s l↔∀k,(ae k l).isSome->aM s k:=by
 refine⟨fun h k ad=>x5 h k ad,fun h=>?_⟩;have:∀a:List (aB×α),(∀x∈a,aM s x.1)->lY s a:=by
  intro a;induction a with
  |nil=>intro _;trivial
  |cons x r b=>obtain⟨k,x⟩:=x;exact fun h=>⟨h (k,x) Ψ,b fun y d=>h y (by simp[d])⟩
 exact this l fun x c=>h x.1 (vd (x:=x.2) c)
def Qh{w:World}{ν:bc}{sz:Nat}:∀{xs:List af} {us:List Value} {i:Nat} {p:af},dv w ν sz xs us->xs[i]? =some p->∃u,(us.drop (i*sz)).take sz=u.cells.toList/\aU w ν p u/\u.cells.size=sz/\∀c∈u.cells.toList,c.oneCell'=true
 |[],_,_,_,_,a=>by simp at a
 |x::xs,us,0,p,h,a=>by simp only[dv]at h;obtain⟨u,d,rfl,⟨J,U,b⟩,_⟩:=h;simp at a;subst a;refine⟨u,?_,J,U,b⟩;simp only[Nat.zero_mul,List.drop_zero];rw[List.take_append_of_le_length (by simp[U])];exact iv (by simp[U])
 |x::xs,us,i+1,p,h,a=>by simp only[dv]at h;obtain⟨u,d,rfl,⟨J,U,b⟩,e⟩:=h;obtain⟨v,f,g⟩:=Qh (i:=i) e (by simpa using a);refine⟨v,?_,g⟩;rw[<-f,Nat.succ_mul,Nat.add_comm,<-List.drop_drop];congr 2;rw[List.drop_append_of_le_length (by simp[U]),List.drop_of_length_le (by simp[U])];rfl
def QA:∀(bk:List Value) (s:Nat) (F:Array Value),s+bk.length<=F.size->(setMany F s bk).toList=F.toList.take s++bk++F.toList.drop (s+bk.length)
 |[],s,F,h=>by simp[setMany]
 |v::r,s,F,h=>by
  simp only[mZ]at h;rw[setMany,QA r (s+1) _ d6];have b:s<F.toList.length:=by simp;omega
  have c:(F.setIfInBounds s v).toList=F.toList.set s v:=Ψ
  rw[c];have d:(F.toList.set s v).take (s+1)=F.toList.take s++[v]:=by rw[List.take_succ,List.getElem?_set_self b,List.take_set_of_le (dO _)];simp
  have a:(F.toList.set s v).drop (s+1+r.length)=F.toList.drop (s+(v::r).length):=by rw[List.drop_set_of_lt Ω];congr 1;simp;omega
  rw[d,a];simp
def aem(w:World):Sort.ahead w 0=w:=by simp[Sort.ahead]
def Wm{P:cG}(N:Bool)(cr:Nat)(ab:∀args W,(callFunc cr args).run P W=((Gp N args).run P W).andThen fun v w'=>.ok (.value v) w')(e:gW)(a:TypeInfo)(uU:P.info? e=some a)(G:(∀w,(Go.isAgg e).run P w= .ok true w)\/(a.size=1/\∀w,(Go.isAgg e).run P w= .ok false w)){s:cT}(B:ey s){K n el sz:Nat}(eo:a.size=sz){xs:List af}(ad:ae (.obj K) s.e=some ⟨n,el,sz,some xs⟩)
  (i j:Nat) (hi:i<n) (ah:j<n):bE P cr [.int .i64 i,.int .i64 j,.row sz (.obj K) n,.cst (typeHandle P e)] s fun r ak=>r= .tuple []/\ak=⟨s.b,cL (.obj K) ⟨n,el,sz,some (ib xs i j)⟩ s.e⟩:=by
 subst eo;refine bE.sem B.obj fun w ν bk kV E=>?_;right;have s0:=E.slot 0;have s1:=E.slot 1;have s2:=E.slot 2;have s3:=E.slot 3;simp[iM,get,aU]at s0 s1 s2 s3;obtain⟨v,us,a8,bB,bW,dn⟩:=E.good.own (.obj K) _ ad;obtain⟨dI,R,vm⟩:=dn _ rfl;simp only at dI R a8 bB;obtain⟨⟨g0,aeU,wh⟩,_,n',eJ,ao,aC,bg⟩:=s2;rw[a8]at ao;simp only[dV,jo]at ao;obtain⟨rfl,rfl⟩:=ao;have b:=bg rfl;have cw:v≠ .slice none 0 0:=by rw[<-b,wh];simp
 obtain⟨g,cap,rfl,sx,tu,akF,Z,Ec⟩:=alk bB cw;have alM:bk= #[.int .i64 i,.int .i64 j,.slice (some ⟨g,0,none⟩) n cap,typeHandle P e]:=by
  have J:bk.size=4:=by simpa using kV
  apply Array.ext (by simpa using J);intro t U ar;simp at ar;rcases(by omega:t=0\/t=1\/t=2\/t=3)with rfl|rfl|rfl|rfl
  ·simpa[Array.getD,J]using s0
  ·simpa[Array.getD,J]using s1
  ·simpa[Array.getD,J]using b
  ·simpa[Array.getD,J]using s3
 subst alM;obtain⟨p,bN⟩:∃p,xs[i]? =some p:=⟨_,ck Ω⟩;obtain⟨q,bK⟩:∃q,xs[j]? =some q:=⟨_,ck Ω⟩;obtain⟨u,L,jn,y,O⟩:=Qh R bN;obtain⟨x,H,AI,l,S⟩:=Qh R bK;have Xb:i*a.size+a.size<=n*a.size:=by have:=r8 a.size (show i+1<=n from hi);rwa[rk,Nat.one_mul]at this
 have Xc:j*a.size+a.size<=n*a.size:=by have:=r8 a.size (show j+1<=n from ah);rwa[rk,Nat.one_mul]at this
 have cell:∀t v,us[t]? =some v->w.cell? ⟨g,t,none⟩=some v:=fun t v M=>by obtain⟨J,U⟩:=fI.1 M;have:=(Ec t (by simpa using J)).1;simp at this;rw[this];simp[getElem!_pos,J,U]
 have Y:∀t,t<n*a.size->w.frozen? ⟨g,t,none⟩=false:=fun t M=>by have:=(Ec t (by simpa[Z]using M)).2;simpa using this
 have run:(Gp N #[.int .i64 i,.int .i64 j,.slice (some ⟨g,0,none⟩) n cap,typeHandle P e]).run P w= .ok (.tuple #[]) ((w.setCells g (0+i*a.size) x.cells.toList).setCells g (0+j*a.size) u.cells.toList):=by
  rcases G with G|⟨X,G⟩
  ·exact run_swap_cells (P:=P) N e a uU G g 0 n cap i j hi ah u.cells.toList x.cells.toList (by simp[y]) (by simp[l]) O S w
     (fun k v b=>by
      rw[<-L,List.getElem?_take]at b;split at b
      ·rw[List.getElem?_drop]at b;simpa using cell _ _ b
      ·cases b)
     (fun k v b=>by
      rw[<-H,List.getElem?_take]at b;split at b
      ·rw[List.getElem?_drop]at b;simpa using cell _ _ b
      ·cases b)
     (fun k ad=>by simpa using Y (i*a.size+k) Ω) (fun k ad=>by simpa using Y (j*a.size+k) Ω)
  ·rw[X]at L y H l⊢;obtain⟨V,M5⟩:∃c,u.cells.toList=[c]:=List.length_eq_one_iff.1 (by simpa using y);obtain⟨Q,mK⟩:∃c,x.cells.toList=[c]:=List.length_eq_one_iff.1 (by simpa using l);rw[M5]at L O⊢;rw[mK]at H S⊢;simp only[World.setCells,Nat.mul_one]at L H⊢;have Wp:us[i]? =some V:=by have:=fC (·[0]?) L;simpa using this
   have Wr:us[j]? =some Q:=by have:=fC (·[0]?) H;simpa using this
   have:=run_swap_one (P:=P) N e a uU X G g 0 n cap i j hi ah V Q (O V Ψ) (S Q Ψ) w (by simpa using cell i V Wp) (by simpa using cell j Q Wr) (by simpa using Y i (by rw[X];omega)) (by simpa using Y j (by rw[X];omega));simpa using this
 have alO:putRow id w g 0 us.toArray=w:=putRow_self id w g 0 _ Ec;have alF:us.toArray.size=n*a.size:=by simpa using Z
 have Il:w.setCells g (0+i*a.size) x.cells.toList=putRow id w g 0 (setMany us.toArray (i*a.size) x.cells.toList):=by have J:=setCells_putRow w g 0 x.cells.toList (i*a.size) us.toArray (by simp[l,Z];exact Xb);rw[alO]at J;exact J
 obtain⟨d,oG⟩:∃d,d=setMany us.toArray (i*a.size) x.cells.toList:=⟨_,rfl⟩;have akc:d.toList=us.take (i*a.size)++x.cells.toList++us.drop (i*a.size+a.size):=by rw[oG,QA _ _ _ (by simp[l,Z];exact Xb)];simp[l]
 have MU:d.size=n*a.size:=by rw[oG,size_setMany];exact alF
 have qb:(w.setCells g (0+i*a.size) x.cells.toList).setCells g (0+j*a.size) u.cells.toList=putRow id w g 0 (setMany d (j*a.size) u.cells.toList):=by rw[Il,<-oG,setCells_putRow w g 0 u.cells.toList (j*a.size) d (by simp[y,MU];exact Xc)]
 obtain⟨f,Eb⟩:∃f,f=setMany d (j*a.size) u.cells.toList:=⟨_,rfl⟩;have akd:f.toList=d.toList.take (j*a.size)++u.cells.toList++d.toList.drop (j*a.size+a.size):=by rw[Eb,QA _ _ _ (by simp[y,MU];exact Xc)];simp[y]
 have ake:f.size=n*a.size:=by rw[Eb,size_setMany];exact MU
 have dK:=JU R bN AI l S;rw[<-akc]at dK;have eE:=JU (i:=j) (q:=q) dK (by rw[List.getElem?_set];split;(rename_i e;subst e;rw[if_pos Ω]);exact bK) jn y O;rw[<-akd]at eE;have EH:(xs.set i q).set j p=ib xs i j:=by simp[ib,bN,bK]
 rw[EH]at eE;have hlen:(ib xs i j).length=n:=by simpa using dI
 have mM:=apU (q:=0) (F:=f) bB ake;rw[aem]at mM;obtain⟨lH,qt,_⟩:=E.setRowM (w':=putRow id w g 0 f) ad rfl a8 (bl:=g) rfl (v':= .slice (some ⟨g,0,none⟩) n cap) rfl (xs':=ib xs i j) (us:=f.toList) (.inl ⟨hlen,rfl⟩) rfl rfl rfl
  (fun t M=>by simp[putRow,mapBlock,Array.getElem?_modify,Ne.symm M]) (by simp[putRow,mapBlock]) (by rw[hlen];exact mM) eE
 refine⟨.tuple #[],putRow id w g 0 f,?_,?_⟩
 ·rw[ab,run,qb,<-Eb];rfl
 ·have A:∀k,aM ⟨s.b,cL (.obj K) ⟨n,el,a.size,some (ib xs i j)⟩ s.e⟩ k↔aM s k:=fun k=>by
   unfold aM;simp only[jj];by_cases dj:aB.obj K=k
   ·subst dj;simp[ad]
   ·simp[dj]
  refine⟨_,_,_,_,.tuple [],⟨s.b,cL (.obj K) ⟨n,el,a.size,some (ib xs i j)⟩ s.e⟩,rfl,lH,by simp[aU,cZ],Ya.2 fun k lV=>(A k).2 (.inl lV),Ya.2 fun k lV=>(A k).2 (.inr lV),fun k cs ay=>⟨ay,(A k).2 (.inl (by simp at ay;simp[ay])),ji (fun k h=>(A k).2 h) _ (B.kb k cs ay)⟩,fun k o aq=>⟨by simpa[hlen]using aq,?_,fun ys aI=>?_⟩,⟨B.obj.1,fun m=>?_⟩,by simp[aA,aH],rfl,rfl⟩
  ·exact(.inr (by simp at aq;simp[aq]))
  ·simp only[jj]at aq;split at aq
   ·cases aq;simp only[dV]at aI;subst aI;have W4:=B.ke _ _ ad xs rfl;refine ji (fun k h=>(A k).2 h) _ ?_;rw[Yi]at W4⊢;exact fun z bz=>W4 z ((YR xs i j).mem_iff.1 bz)
   ·exact ji (fun k h=>(A k).2 h) _ (B.ke k o aq ys aI)
  ·simp only[jj];simp[B.obj.2 m]
def Wl{P:cG}(b:Bool)(cr:Nat)(l:∀args W,(callFunc cr args).run P W=((Gp b args).run P W).andThen fun v w'=>.ok (.value v) w')(e:gW)(a:TypeInfo)(d:P.info? e=some a)(c:∀w,(Go.isAgg e).run P w= .ok true w){s:cT}(h:ey s){K n el sz:Nat}(f:a.size=sz){xs:List af}(ad:ae (.obj K) s.e=some ⟨n,el,sz,some xs⟩)
  (i j:Nat) (hi:i<n) (k:j<n):bE P cr [.int .i64 i,.int .i64 j,.row sz (.obj K) n,.cst (typeHandle P e)] s fun r g=>r= .tuple []/\g=⟨s.b,cL (.obj K) ⟨n,el,sz,some (ib xs i j)⟩ s.e⟩:=Wm b cr l e a d (.inl c) h f ad i j hi k
end
end Go.Pv
namespace Go.Proofs.YtahlgcidhnjlbaaGreat
section
open Go Go.RowKit Go.Lib Go.Sort Go.Pv
set_option maxRecDepth 100000 in
def arB(t e:gW)(i e2:TypeInfo)(hi:au.info? t=some i)(aK:i.desc= .slice e)(EA:au.packed t=false)(uU:au.info? e=some e2)(ke:Nat)(wu:∀w,(adQ e).run au w= .ok ke w)
  (p:Option Addr) (n c:Nat) (aw:n<4611686018427387904) (f:Nat) (aG:au.funcs.findIdx? (·.name== "internal/reflectlite" ++ ".Swapper$" ++toString (swapperK n e2 ke))=some f) (YL:Fn) (Ox sI:Array Value) (w:World) (R:World->Prop)
  (bN:Calls au 199 #[.agg #[.func YL Ox sI,.func (.func f) #[] (sliceBound au e e2 ke p n c)],.int .i64 n] ((w.alloc (.cells #[.slice p n c] t)).alloc (.cells #[typeHandle au t,.pointer (some ⟨w.heap.size,0,none⟩),.int .u64 151] 179)) fun e w'=>e= .returned (.tuple #[])/\R w'):
  Calls au 140 #[.iface t (.slice p n c),.func YL Ox sI] w fun e w'=>e= .returned (.tuple #[])/\R w':=by
 have aN:=run_valueOf_slice (P:=au) t e i hi aK p n c w;have ai:=fun w=>run_swapper_slice (P:=au) t e i e2 hi aK uU ke wu p n c f aG w;have av:=fun a w bR=>run_valueLen_slice (P:=au) t e i hi aK EA a p n c w bR;unfold sliceBound at bN;generalize (if swapperK n e2 ke<=2 then(#[]:Array Value)else #[.slice p n c,typeHandle au e])=B at ai bN;have akJ:au.globals.size=0:=bi
 simp only[typeHandle,akJ]at aN av bN;have Hl:∀args w,(callFunc 199 args).run au w= .ok (.enter 199 args) w:=enters_of Tryz.func199 bi rfl;go_enter Tryz.func140,Tryz.ntmps140;go_wp2;rw[run_callFunc_extern Tryz.func197 bi bi bi (e:=fun args=>at1 (args.getD 0 (.tuple #[]))) bi,
  show Sem.run au ((fun args:Array Value=>at1 (args.getD 0 (.tuple #[]))) #[.iface t (.slice p n c)]) w=_ from aN]
 simp only[Result.andThen];rw[Oper.upon_value];go_wp2;rw[run_callFunc_extern Tryz.func198 bi bi bi (e:=ayH "internal/reflectlite" (at2 "Swapper")) bi,ai];simp only[Result.andThen];rw[Oper.upon_value];go_wp2;rw[run_callFunc_extern Tryz.func200 bi bi bi (e:=ayJ (at2 "reflectlite.Value.Len" 0) ayI) bi,
  av _ _ Ψ]
 simp only[Result.andThen];rw[Oper.upon_value];go_wp2_with (go_at_fn 199;refine bN.mono ?_;rintro e w' ⟨rfl,br⟩);go_end0;exact⟨rfl,br⟩
def _root_.Go.Pv.Good.prMono{pr d:Nat->Prop}{w:World}{ν:bc}{b:List (aB×List af)}{e:List (aB×dT)}(h:Pv.Good pr w ν b e)(c:∀bl,pr bl->ft ν ⟨b,e⟩ bl->d bl):Pv.Good d w ν b e:=by
 refine⟨h.alt,fun k cs ad=>?_,h.inj,fun g o bd=>?_,h.oinj,h.obx,h.one,h.otr⟩
 ·obtain⟨bl,us,el,f1,f2,f3⟩:=h.box k cs ad;exact⟨bl,us,el,f1,c bl f2 (.inl ⟨k,by simp[ad],f1⟩),f3⟩
 ·obtain⟨v,us,f1,f2,f3,f4⟩:=h.own g o bd;exact⟨v,us,f1,f2,fun bl a=>⟨c bl (f3 bl a).1 (.inr ⟨g,o.n,v,by simp[bd],f1,a⟩),(f3 bl a).2⟩,f4⟩
def Ws(w:World)(a b:Obj):w.grownBy ((w.alloc a).alloc b) none:=by
 have J:w.heap.size<=(w.alloc a).heap.size:=Ψ
 have U:(w.alloc a).heap.size<=((w.alloc a).alloc b).heap.size:=Ψ
 exact⟨rfl,rfl,rfl,kg J U,fun k ad _=>(Below.heap_alloc _ b k (Nat.lt_of_lt_of_le ad J)).trans (Below.heap_alloc w a k ad)⟩
def eC{α:Type}(e:α->af)(K B el sz:Nat)(l:List α):cT:=⟨[(.obj B,[.row sz (.obj K) l.length])],[(.obj K,⟨l.length,el,sz,some (l.map e)⟩)]⟩
section
variable {α:Type} {e:α->af} (he:∀S x,aA S (e x)) {K B el sz:Nat}
include he
theorem amz(S:aB->Prop)(l:List α):aH S (l.map e):=by
 induction l with
 |nil=>simp[aH]
 |cons x r a=>simp only[gX,aH];exact⟨he S x,a⟩
theorem yY(l:List α):ey (eC e K B el sz l):=by unfold eC;refine ey.of ⟨by intro m;simp[ae],by intro m;simp[ae]⟩ go ?_;intro x b xs a;simp at b;subst b;simp at a;subst a;exact amz he _ l
omit he in
theorem yZ(l a:List α):Same (eC e K B el sz l) (eC e K B el sz a):=by
 refine⟨fun k=>?_,fun k=>?_⟩
 ·simp only[eC,ae];split<;>rfl
 ·simp only[eC,ae];split<;>rfl
theorem ajb(t:gW)(i e2:TypeInfo)(hi:au.info? t=some i)(aK:i.desc= .slice el)(EA:au.packed t=false)(uU:au.info? el=some e2)(ke:Nat)(wu:∀w,(adQ el).run au w= .ok ke w)(uP:∀n,2<=n->swapperK n e2 ke=9)
  (g:Nat) (lt:α->α->Bool) (bO:sa lt) (l:List α) (av:l.length<=68719476736)
  (zD:∀bh:List α,bh.length=l.length->∀(i j:Nat) x y,bh[i]? =some x->bh[j]? =some y->bE au g [.int .i64 i,.int .i64 j,.ptr (.obj B) 0] (eC e K B el sz bh) fun r ak=>r= .bool (lt x y)/\ak=eC e K B el sz bh)
  (BU:∀bh:List α,bh.length=l.length->∀i j:Nat,i<l.length->j<l.length->bE au 230 [.int .i64 i,.int .i64 j,.row sz (.obj K) l.length,.cst (typeHandle au el)] (eC e K B el sz bh) fun r ak=>r= .tuple []/\ak=eC e K B el sz (ib bh i j)):
  bE au 140 [.iface t (.row sz (.obj K) l.length),.func g [.ptr (.obj B) 0]] (eC e K B el sz l) fun r ak=>r= .tuple []/\∃bh,ak=eC e K B el sz bh/\bh.Perm l/\bh.Pairwise fun x y=>lt y x=false:=by
 have zw:au.funcs.findIdx? (·.name== "internal/reflectlite" ++ ".Swapper$" ++toString 1)=some 222:=bi
 have ts:au.funcs.findIdx? (·.name== "internal/reflectlite" ++ ".Swapper$" ++toString 2)=some 223:=bi
 have Nc:au.funcs.findIdx? (·.name== "internal/reflectlite" ++ ".Swapper$" ++toString 9)=some 230:=bi
 have NL:∃f ch,au.funcs.findIdx? (·.name== "internal/reflectlite" ++ ".Swapper$" ++toString (swapperK l.length e2 ke))=some f/\(ch=(if swapperK l.length e2 ke<=2 then []else [af.row sz (.obj K) l.length,.cst (typeHandle au el)]))/\
   bE au 199 [fE g f [.ptr (.obj B) 0] ch,.int .i64 l.length] (eC e K B el sz l) fun r ak=>r= .tuple []/\∃bh,ak=eC e K B el sz bh/\hl 0 l.length l bh/\ga lt 0 l.length bh:=by
  have ez:=fun bh=>yY (K:=K) (B:=B) (el:=el) (sz:=sz) he bh;rcases(by omega:l.length=0\/l.length=1\/2<=l.length)with bA|J|U
  ·refine⟨222,[],by rw[bA];exact zw,by rw[bA];rfl,MN (lt:=lt) ⟨ez,fun fO eW _ _=>yZ fO eW,fun bh _=>by simp[aH,aA,aM,eC,ae],fun bh _=>by simp[aH],by simp[b3,b9],rfl,av,fun bh h=>zD bh h,fun bh _ U i j hi=>Ω⟩ bO l rfl⟩
  ·refine⟨223,[],by rw[J];exact ts,by rw[J];rfl,MN (lt:=lt) ⟨ez,fun fO eW _ _=>yZ fO eW,fun bh _=>by simp[aH,aA,aM,eC,ae],fun bh _=>by simp[aH],by simp[b3,b9],rfl,av,fun bh h=>zD bh h,fun bh _ U i j hi ah=>Ω⟩ bO l rfl⟩
  ·refine⟨230,_,by rw[uP _ U];exact Nc,rfl,?_⟩;rw[uP _ U];simp only[show¬((9:Nat)<=2)from by decide,if_false];exact MN (lt:=lt) ⟨ez,fun fO eW _ _=>yZ fO eW,fun bh _=>by simp[aH,aA,aM,eC,ae],fun bh _=>by simp[aH,aA,aM,eC,ae],by simp[b3,b9],by simp[b3,b9],av,fun bh h=>zD bh h,fun bh h _ i j hi ah=>BU bh h i j hi ah⟩ bO l rfl
 obtain⟨f,ch,aG,NH,dx⟩:=NL;intro w ν bk bd ab aJ;have oN:=c9.start (yY he l).obj bd ab aJ;have ND:=aJ;simp only[cZ,aU]at aJ;obtain⟨v0,vs1,BW,⟨u,rfl,⟨b,cap,rfl⟩,fv,n',eJ,ao,aC,bg⟩,v1,vs2,hv1,⟨sI,rfl,qO⟩,rfl⟩:=aJ;have kV:bk= #[.iface t (.slice (some ⟨b,0,none⟩) l.length cap),.func (.func g) #[] sI]:=by apply Array.ext';rw[BW,hv1]
 subst kV;have qN:∃fn,au.funcs[(140:Nat)]? =some fn/\fn.body.isSome=true/\(fn.name== "runtime.NumGoroutine")=false:=⟨_,Tryz.func140,by kernel_rfl,by kernel_rfl⟩;refine .inl ⟨qN,?_⟩;obtain⟨dM,qb⟩:∃dM,dM=(w.alloc (.cells #[.slice (some ⟨b,0,none⟩) l.length cap] t)).alloc (.cells #[typeHandle au t,.pointer (some ⟨w.heap.size,0,none⟩),.int .u64 151] 179):=⟨_,rfl⟩;have kG:w.grownBy dM none:=by rw[qb];exact Ws _ _ _
 have NF:=oN.grown kG;have kH:mB w ν dM ν:=⟨fun b o bj=>⟨bj,G6 kG (bd.alt b o bj)⟩,fun _ _ _ h=>h,fun _ n u _ h=>⟨n,u,h,.inl ⟨rfl,rfl⟩⟩,fun b o bj=>yB (kG.block b (bd.alt b o bj) Ψ),fun _ _ _ _ h=>h⟩;have tu:Pv.Good (ft ν (eC e K B el sz l)) dM ν (eC e K B el sz l).b (eC e K B el sz l).e:=NF.good.prMono fun bl _ h=>h;have lr:=JY kH ND;simp only[cZ]at lr;obtain⟨a0,aex,uR,EC,bq,aey,mi,alu,rfl⟩:=lr;simp at uR;obtain⟨rfl,rfl⟩:=uR;simp at mi;subst mi;have gL:aU dM ν (.row sz (.obj K) l.length) (.slice (some ⟨b,0,none⟩) l.length cap):=by simp only[aU]at EC;obtain⟨u,hu,h⟩:=EC;simp at hu;obtain⟨_,rfl⟩:=hu;simp only[aU];exact h
 have sA:cZ dM ν ch (sliceBound au el e2 ke (some ⟨b,0,none⟩) l.length cap).toList:=by
  unfold sliceBound;rw[NH];split
  ·simp[cZ]
  ·simp only[cZ];exact⟨_,_,rfl,gL,_,_,rfl,by simp[aU],rfl⟩
 have wg:cZ dM ν [fE g f [.ptr (.obj B) 0] ch,.int .i64 l.length] (#[.agg #[.func (.func g) #[] sI,.func (.func f) #[] (sliceBound au el e2 ke (some ⟨b,0,none⟩) l.length cap)],.int .i64 l.length]:Array Value).toList:=by simp only[cZ,fE];refine⟨_,_,rfl,?_,_,_,rfl,by simp[aU],rfl⟩;simp only[aU,cW];exact⟨_,rfl,_,_,rfl,⟨⟨sI,rfl,JY kH qO⟩,rfl⟩,_,_,rfl,⟨⟨_,rfl,sA⟩,rfl⟩,rfl⟩
 have M9:=dx dM ν _ tu ab wg;have Hl:∀args w,(callFunc 199 args).run au w= .ok (.enter 199 args) w:=enters_of Tryz.func199 bi rfl;rcases M9 with⟨_,ay⟩|⟨v,w',ay,_⟩
 ·have Nq:=arB t el i e2 hi aK EA uU ke wu (some ⟨b,0,none⟩) l.length cap Ω f aG (.func g) #[] sI w
   (fun w'=> ∃ak bm,(∃bh,ak=eC e K B el sz bh/\hl 0 l.length l bh/\ga lt 0 l.length bh)/\Pv.Good (fun bl=>ft ν (eC e K B el sz l) bl\/dM.heap.size<=bl) w' bm ak.b ak.e/\pf bm ak/\hP ak/\o3 ⟨dM,ν,ft ν (eC e K B el sz l),0,cJ (eC e K B el sz l)⟩ w' bm) (by
    rw[<-qb];refine ay.mono ?_;rintro e w' ⟨v,r,ak,bm,rfl,⟨rfl,bK⟩,xV,aZ,bQ,dh,ec⟩;simp only[aU,cZ]at xV;obtain⟨us,rfl,sC⟩:=xV;have:us= #[]:=by apply Array.ext';simpa using sC
    subst this;exact⟨rfl,ak,bm,bK,aZ,bQ,dh,ec⟩)
  refine Nq.mono ?_;rintro e w' ⟨rfl,ak,bm,⟨bh,rfl,Ii,BT⟩,aZ,bQ,dh,ec⟩;refine⟨.tuple #[],.tuple [],_,bm,rfl,⟨rfl,bh,rfl,Ii.perm,?_⟩,by simp[aU,cZ],aZ.prMono fun bl h _=>?_,bQ,dh,⟨ec.os.trans kG.os,ec.tape.trans kG.tape,ec.output.trans kG.output,kg kG.size ec.size,fun k ad hm=>?_,fun b o bj=>?_,fun b o bj=>?_,ec.obj,ec.obn,ec.row,ec.obr,ec.trd,fun k j b ag=>⟨(ec.trb k j b ag).1.imp id (fun h=>kg kG.size h),(ec.trb k j b ag).2⟩,ec.trn,fun b o bj=>(ec.sh b o bj).trans (kH.sh b o bj)⟩⟩
  ·have oK:=Ii.length;rw[<-oK]at BT;exact BT.pairwise
  ·rcases h with h|h
   ·exact .inl h
   ·exact .inr (kg kG.size h)
  ·rw[ec.block k (Nat.lt_of_lt_of_le ad kG.size) hm];exact kG.block k ad Ψ
  ·obtain⟨a7,bD⟩:=ec.keep b o bj;exact⟨a7,bD.trans (kH.A b o bj).2⟩
  ·rcases ec.fresh b o bj with h|h|h
   ·exact .inl h
   ·exact .inr (.inl h)
   ·exact .inr (.inr (kg kG.size h))
 ·rw[Hl]at ay;cases ay
end
end
end Go.Proofs.YtahlgcidhnjlbaaGreat
namespace Go.Proofs
section
open Go.Shelf
def Tryz.lays6_ren:Go.Shelf.Ren:=⟨fun|6=>182|10=>197|11=>198|12=>200|13=>213|14=>214|24=>236|25=>237|26=>231|27=>238|28=>239|29=>240|30=>241|31=>242|32=>243|33=>244|34=>252|35=>253|36=>254|37=>255|38=>256|39=>271|n=>n,fun|20=>20|26=>143|35=>179|0=>0|37=>181|3=>3|41=>192|44=>185|49=>206|51=>208|4=>4|54=>210|53=>209|58=>214|5=>5|9=>9|60=>222|64=>226|66=>235|67=>236|17=>17|32=>176|33=>177|82=>256|12=>12|75=>249|76=>250|77=>251|78=>252|79=>253|80=>254|n=>n,fun|n=>n⟩
def Tryz.lays6:Go.Proofs.LaysGg.n6 au Tryz.lays6_ren:={
 mixed:=bi
 f6:=Tryz.func182.trans (fC some bi)
 f10:=Tryz.func197.trans (fC some bi)
 f11:=Tryz.func198.trans (fC some bi)
 f12:=Tryz.func200.trans (fC some bi)
 f13:=Tryz.func213.trans (fC some bi)
 f14:=Tryz.func214.trans (fC some bi)
 f24:=Tryz.func236.trans (fC some bi)
 f25:=Tryz.func237.trans (fC some bi)
 f26:=Tryz.func231.trans (fC some bi)
 f27:=Tryz.func238.trans (fC some bi)
 f28:=Tryz.func239.trans (fC some bi)
 f29:=Tryz.func240.trans (fC some bi)
 f30:=Tryz.func241.trans (fC some bi)
 f31:=Tryz.func242.trans (fC some bi)
 f32:=Tryz.func243.trans (fC some bi)
 f33:=Tryz.func244.trans (fC some bi)
 f34:=Tryz.func252.trans (fC some bi)
 f35:=Tryz.func253.trans (fC some bi)
 f36:=Tryz.func254.trans (fC some bi)
 f37:=Tryz.func255.trans (fC some bi)
 f38:=Tryz.func256.trans (fC some bi)
 f39:=Tryz.func271.trans (fC some bi)
 t0:=Tryz.underlying0
 a0:=Tryz.isAgg0
 z0:=Tryz.sizeOf0
 v0:=Tryz.zeroValue0
 i0:=bi
 t3:=Tryz.underlying3
 a3:=Tryz.isAgg3
 z3:=Tryz.sizeOf3
 v3:=Tryz.zeroValue3
 i3:=bi
 t4:=Tryz.underlying4
 a4:=Tryz.isAgg4
 z4:=Tryz.sizeOf4
 v4:=Tryz.zeroValue4
 i4:=bi
 t5:=Tryz.underlying5
 a5:=Tryz.isAgg5
 z5:=Tryz.sizeOf5
 v5:=Tryz.zeroValue5
 i5:=bi
 t9:=Tryz.underlying9
 a9:=Tryz.isAgg9
 z9:=Tryz.sizeOf9
 v9:=Tryz.zeroValue9
 i9:=bi
 t12:=Tryz.underlying12
 a12:=Tryz.isAgg12
 z12:=Tryz.sizeOf12
 v12:=Tryz.zeroValue12
 i12:=bi
 t17:=Tryz.underlying17
 a17:=Tryz.isAgg17
 z17:=Tryz.sizeOf17
 v17:=Tryz.zeroValue17
 i17:=bi
 t20:=Tryz.underlying20
 a20:=Tryz.isAgg20
 z20:=Tryz.sizeOf20
 v20:=Tryz.zeroValue20
 i20:=bi
 t26:=Tryz.underlying143
 a26:=Tryz.isAgg143
 z26:=Tryz.sizeOf143
 v26:=Tryz.zeroValue143
 i26:=bi
 t32:=Tryz.underlying176
 a32:=Tryz.isAgg176
 z32:=Tryz.sizeOf176
 v32:=Tryz.zeroValue176
 i32:=bi
 t33:=Tryz.underlying177
 a33:=Tryz.isAgg177
 z33:=Tryz.sizeOf177
 v33:=Tryz.zeroValue177
 i33:=bi
 t35:=Tryz.underlying179
 a35:=Tryz.isAgg179
 z35:=Tryz.sizeOf179
 v35:=Tryz.zeroValue179
 i35:=bi
 t37:=Tryz.underlying181
 a37:=Tryz.isAgg181
 z37:=Tryz.sizeOf181
 v37:=Tryz.zeroValue181
 i37:=bi
 t41:=Tryz.underlying192
 a41:=Tryz.isAgg192
 z41:=Tryz.sizeOf192
 v41:=Tryz.zeroValue192
 i41:=bi
 t44:=Tryz.underlying185
 a44:=Tryz.isAgg185
 z44:=Tryz.sizeOf185
 v44:=Tryz.zeroValue185
 i44:=bi
 t49:=Tryz.underlying206
 a49:=Tryz.isAgg206
 z49:=Tryz.sizeOf206
 v49:=Tryz.zeroValue206
 i49:=bi
 t51:=Tryz.underlying208
 a51:=Tryz.isAgg208
 z51:=Tryz.sizeOf208
 v51:=Tryz.zeroValue208
 i51:=bi
 t53:=Tryz.underlying209
 a53:=Tryz.isAgg209
 z53:=Tryz.sizeOf209
 v53:=Tryz.zeroValue209
 i53:=bi
 t54:=Tryz.underlying210
 a54:=Tryz.isAgg210
 z54:=Tryz.sizeOf210
 v54:=Tryz.zeroValue210
 i54:=bi
 t58:=Tryz.underlying214
 a58:=Tryz.isAgg214
 z58:=Tryz.sizeOf214
 v58:=Tryz.zeroValue214
 i58:=bi
 t60:=Tryz.underlying222
 a60:=Tryz.isAgg222
 z60:=Tryz.sizeOf222
 v60:=Tryz.zeroValue222
 i60:=bi
 t64:=Tryz.underlying226
 a64:=Tryz.isAgg226
 z64:=Tryz.sizeOf226
 v64:=Tryz.zeroValue226
 i64:=bi
 t66:=Tryz.underlying235
 a66:=Tryz.isAgg235
 z66:=Tryz.sizeOf235
 v66:=Tryz.zeroValue235
 i66:=bi
 t67:=Tryz.underlying236
 a67:=Tryz.isAgg236
 z67:=Tryz.sizeOf236
 v67:=Tryz.zeroValue236
 i67:=bi
 t75:=Tryz.underlying249
 a75:=Tryz.isAgg249
 z75:=Tryz.sizeOf249
 v75:=Tryz.zeroValue249
 i75:=bi
 t76:=Tryz.underlying250
 a76:=Tryz.isAgg250
 z76:=Tryz.sizeOf250
 v76:=Tryz.zeroValue250
 i76:=bi
 t77:=Tryz.underlying251
 a77:=Tryz.isAgg251
 z77:=Tryz.sizeOf251
 v77:=Tryz.zeroValue251
 i77:=bi
 t78:=Tryz.underlying252
 a78:=Tryz.isAgg252
 z78:=Tryz.sizeOf252
 v78:=Tryz.zeroValue252
 i78:=bi
 t79:=Tryz.underlying253
 a79:=Tryz.isAgg253
 z79:=Tryz.sizeOf253
 v79:=Tryz.zeroValue253
 i79:=bi
 t80:=Tryz.underlying254
 a80:=Tryz.isAgg254
 z80:=Tryz.sizeOf254
 v80:=Tryz.zeroValue254
 i80:=bi
 t82:=Tryz.underlying256
 a82:=Tryz.isAgg256
 z82:=Tryz.sizeOf256
 v82:=Tryz.zeroValue256
 i82:=by kernel_rfl}
end
end Go.Proofs
namespace Go.Proofs.YtahlgcidhnjlbaaGreat
section
open Go Go.RowKit Go.Lib Go.Pv Go.Proofs
def aeJ(n:Nat)(h:n<1099511627776):Lib.bitLen n<=1000:=by
 have:∀f x,bitLenAux f x<=f:=by
  intro f;induction f with
  |zero=>intro x;simp[bitLenAux]
  |succ f a=>
   intro x;rw[bitLenAux];split
   ·omega
   ·have:=a (x/2);omega
 have:=this 64 n;unfold Lib.bitLen;omega
def apZ{α:Type}[Inhabited α]{lt:α->α->Bool}{l:List α}{a:Array α}(h:Sort.PermIn 0 l.length l.toArray a)(m:Sort.SortedIn lt 0 l.length a):a.toList.Perm l/\a.toList.Pairwise fun x y=>lt y x=false:=by
 obtain⟨f,_,z3⟩:=h;have b:a.size=l.length:=by simpa using f
 have k:a.extract 0 l.length=a:=by rw[<-b];simp
 have n:l.toArray.extract 0 l.length=l.toArray:=Ψ
 rw[k,n]at z3;refine⟨by simpa using z3,?_⟩;rw[rj];intro i j hi c e;have J:=m i j Ω e (by simpa[b]using c);have d:i<a.size:=by simpa using hi
 have g:j<a.size:=by simpa using c
 rw[getElem!_pos a i d,getElem!_pos a j g]at J;simpa using J
section
variable {α:Type} {e:α->af} (he:∀S x,aA S (e x)) {K B el sz:Nat}
include he
theorem V6[Inhabited α](Wx:K≠901/\K≠902)(Ww:B≠901/\B≠902)(t:gW)(i e2:TypeInfo)(hi:au.info? t=some i)(aK:i.desc= .slice el)(EA:au.packed t=false)(uU:au.info? el=some e2)(ke:Nat)(wu:∀w,(adQ el).run au w= .ok ke w)(uP:∀n,2<=n->swapperK n e2 ke=9)
  (g:Nat) (lt:α->α->Bool) (bO:Sort.SWO lt) (l:List α) (av:l.length<=68719476736)
  (zD:∀bh:List α,bh.length=l.length->∀(i j:Nat) x y,bh[i]? =some x->bh[j]? =some y->bE au g [.int .i64 i,.int .i64 j,.ptr (.obj B) 0] (eC e K B el sz bh) fun r ak=>r= .bool (lt x y)/\ak=eC e K B el sz bh)
  (BU:∀bh:List α,bh.length=l.length->∀i j:Nat,i<l.length->j<l.length->bE au 230 [.int .i64 i,.int .i64 j,.row sz (.obj K) l.length,.cst (typeHandle au el)] (eC e K B el sz bh) fun r ak=>r= .tuple []/\ak=eC e K B el sz (ib bh i j)):
  bE au 182 [.iface t (.row sz (.obj K) l.length),.func g [.ptr (.obj B) 0]] (eC e K B el sz l) fun r ak=>r= .tuple []/\∃bh,ak=eC e K B el sz bh/\bh.Perm l/\bh.Pairwise fun x y=>lt y x=false:=by
 have zw:au.funcs.findIdx? (·.name== "internal/reflectlite" ++ ".Swapper$" ++toString 1)=some 222:=bi
 have ts:au.funcs.findIdx? (·.name== "internal/reflectlite" ++ ".Swapper$" ++toString 2)=some 223:=bi
 have Nc:au.funcs.findIdx? (·.name== "internal/reflectlite" ++ ".Swapper$" ++toString 9)=some 230:=bi
 have zI:tV (eC e K B el sz) 901:=fun l=>⟨by simp[eC,ae,Ww.1],by simp[eC,ae,Wx.1]⟩;have zJ:tV (eC e K B el sz) 902:=fun l=>⟨by simp[eC,ae,Ww.2],by simp[eC,ae,Wx.2]⟩;have gg:=aeJ l.length Ω;have NL:∃f ch,au.funcs.findIdx? (·.name== "internal/reflectlite" ++ ".Swapper$" ++toString (swapperK l.length e2 ke))=some f/\(ch=(if swapperK l.length e2 ke<=2 then []else [af.row sz (.obj K) l.length,.cst (typeHandle au el)]))/\
   bE au 214 [fE g f [.ptr (.obj B) 0] ch,.int .i64 0,.int .i64 l.length,.int .i64 (Lib.bitLen l.length)] (eC e K B el sz l) fun r ak=>r= .tuple []/\∃bh,ak=eC e K B el sz bh/\bh.Perm l/\bh.Pairwise fun x y=>lt y x=false:=by
  have ez:=fun bh=>yY (K:=K) (B:=B) (el:=el) (sz:=sz) he bh;have key:∀{cr:Nat} {ch:List af},fS (eC e K B el sz) l.length g cr [.ptr (.obj B) 0] ch lt->bE au 214 [fE g cr [.ptr (.obj B) 0] ch,.int .i64 0,.int .i64 l.length,.int .i64 (Lib.bitLen l.length)] (eC e K B el sz l) fun r ak=>r= .tuple []/\∃bh,ak=eC e K B el sz bh/\bh.Perm l/\bh.Pairwise fun x y=>lt y x=false:=by intro cr ch H;have:=ajH H zI zJ bO l.length l.toArray Ψ 0 l.length (Lib.bitLen l.length) Ω Ω (dO _) Ω (.inl rfl);simp only[Int.ofNat_zero,Int.natCast_zero,Int.cast_ofNat_Int]at this;refine bE.mono this ?_;rintro r ak ⟨a8,cv,bB,bW,dn⟩;obtain⟨c4,dB⟩:=apZ bW dn;exact⟨a8,cv.toList,bB,c4,dB⟩
  rcases(by omega:l.length=0\/l.length=1\/2<=l.length)with bA|J|U
  ·refine⟨222,[],by rw[bA];exact zw,by rw[bA];rfl,key ⟨ez,fun fO eW _ _=>yZ fO eW,fun bh _=>by simp[aH,aA,aM,eC,ae],fun bh _=>by simp[aH],by simp[b3,b9],rfl,av,fun bh h=>zD bh h,fun bh _ U i j hi=>Ω⟩⟩
  ·refine⟨223,[],by rw[J];exact ts,by rw[J];rfl,key ⟨ez,fun fO eW _ _=>yZ fO eW,fun bh _=>by simp[aH,aA,aM,eC,ae],fun bh _=>by simp[aH],by simp[b3,b9],rfl,av,fun bh h=>zD bh h,fun bh _ U i j hi ah=>Ω⟩⟩
  ·refine⟨230,_,by rw[uP _ U];exact Nc,rfl,?_⟩;rw[uP _ U];simp only[show¬((9:Nat)<=2)from by decide,if_false];exact key ⟨ez,fun fO eW _ _=>yZ fO eW,fun bh _=>by simp[aH,aA,aM,eC,ae],fun bh _=>by simp[aH,aA,aM,eC,ae],by simp[b3,b9],by simp[b3,b9],av,fun bh h=>zD bh h,fun bh h _ i j hi ah=>BU bh h i j hi ah⟩
 obtain⟨f,ch,aG,NH,dx⟩:=NL;intro w ν bk bd ab aJ;have oN:=c9.start (yY he l).obj bd ab aJ;have ND:=aJ;simp only[cZ,aU]at aJ;obtain⟨v0,vs1,BW,⟨u,rfl,⟨b,cap,rfl⟩,fv,n',eJ,ao,aC,bg⟩,v1,vs2,hv1,⟨sI,rfl,qO⟩,rfl⟩:=aJ;have kV:bk= #[.iface t (.slice (some ⟨b,0,none⟩) l.length cap),.func (.func g) #[] sI]:=by apply Array.ext';rw[BW,hv1]
 subst kV;have qN:∃fn,au.funcs[(182:Nat)]? =some fn/\fn.body.isSome=true/\(fn.name== "runtime.NumGoroutine")=false:=⟨_,Tryz.func182,by kernel_rfl,by kernel_rfl⟩;refine .inl ⟨qN,?_⟩;obtain⟨dM,qb⟩:∃dM,dM=sliceWorld au Tryz.lays6_ren t (some ⟨b,0,none⟩) l.length cap w:=⟨_,rfl⟩;have kG:w.grownBy dM none:=by rw[qb];unfold sliceWorld;exact Ws _ _ _
 have NF:=oN.grown kG;have kH:mB w ν dM ν:=⟨fun b o bj=>⟨bj,G6 kG (bd.alt b o bj)⟩,fun _ _ _ h=>h,fun _ n u _ h=>⟨n,u,h,.inl ⟨rfl,rfl⟩⟩,fun b o bj=>yB (kG.block b (bd.alt b o bj) Ψ),fun _ _ _ _ h=>h⟩;have tu:Pv.Good (ft ν (eC e K B el sz l)) dM ν (eC e K B el sz l).b (eC e K B el sz l).e:=NF.good.prMono fun bl _ h=>h;have lr:=JY kH ND;simp only[cZ]at lr;obtain⟨a0,aex,uR,EC,bq,aey,mi,alu,rfl⟩:=lr;simp at uR;obtain⟨rfl,rfl⟩:=uR;simp at mi;subst mi;have gL:aU dM ν (.row sz (.obj K) l.length) (.slice (some ⟨b,0,none⟩) l.length cap):=by simp only[aU]at EC;obtain⟨u,hu,h⟩:=EC;simp at hu;obtain⟨_,rfl⟩:=hu;simp only[aU];exact h
 have sA:cZ dM ν ch (sliceBound au el e2 ke (some ⟨b,0,none⟩) l.length cap).toList:=by
  unfold sliceBound;rw[NH];split
  ·simp[cZ]
  ·simp only[cZ];exact⟨_,_,rfl,gL,_,_,rfl,by simp[aU],rfl⟩
 have wg:cZ dM ν [fE g f [.ptr (.obj B) 0] ch,.int .i64 0,.int .i64 l.length,.int .i64 (Lib.bitLen l.length)] (#[.agg #[.func (.func g) #[] sI,.func (.func f) #[] (sliceBound au el e2 ke (some ⟨b,0,none⟩) l.length cap)],.int .i64 0,.int .i64 l.length,.int .i64 (Lib.bitLen l.length)]:Array Value).toList:=by simp only[cZ,fE];refine⟨_,_,rfl,?_,_,_,rfl,by simp[aU],_,_,rfl,by simp[aU],_,_,rfl,by simp[aU],rfl⟩;simp only[aU,cW];exact⟨_,rfl,_,_,rfl,⟨⟨sI,rfl,JY kH qO⟩,rfl⟩,_,_,rfl,⟨⟨_,rfl,sA⟩,rfl⟩,rfl⟩
 have M9:=dx dM ν _ tu ab wg;have Hl:∀args w,(callFunc 214 args).run au w= .ok (.enter 214 args) w:=enters_of Tryz.func214 bi rfl;rcases M9 with⟨_,ay⟩|⟨v,w',ay,_⟩
 ·have Nq:=Any.sort_Slice_of_pdq Tryz.lays6 t el i e2 hi aK EA uU ke wu (some ⟨b,0,none⟩) l.length cap Ω f aG (.func g) #[] sI w
   (fun w'=> ∃ak bm,(∃bh,ak=eC e K B el sz bh/\bh.Perm l/\bh.Pairwise fun x y=>lt y x=false)/\Pv.Good (fun bl=>ft ν (eC e K B el sz l) bl\/dM.heap.size<=bl) w' bm ak.b ak.e/\pf bm ak/\hP ak/\o3 ⟨dM,ν,ft ν (eC e K B el sz l),0,cJ (eC e K B el sz l)⟩ w' bm) (by
    rw[<-qb];refine ay.mono ?_;rintro e w' ⟨v,r,ak,bm,rfl,⟨rfl,bK⟩,xV,aZ,bQ,dh,ec⟩;simp only[aU,cZ]at xV;obtain⟨us,rfl,sC⟩:=xV;have:us= #[]:=by apply Array.ext';simpa using sC
    subst this;exact⟨rfl,ak,bm,bK,aZ,bQ,dh,ec⟩)
  refine Nq.mono ?_;rintro e w' ⟨rfl,ak,bm,⟨bh,rfl,Ii,BT⟩,aZ,bQ,dh,ec⟩;refine⟨.tuple #[],.tuple [],_,bm,rfl,⟨rfl,bh,rfl,Ii,BT⟩,by simp[aU,cZ],aZ.prMono fun bl h _=>?_,bQ,dh,⟨ec.os.trans kG.os,ec.tape.trans kG.tape,ec.output.trans kG.output,kg kG.size ec.size,fun k ad hm=>?_,fun b o bj=>?_,fun b o bj=>?_,ec.obj,ec.obn,ec.row,ec.obr,ec.trd,fun k j b ag=>⟨(ec.trb k j b ag).1.imp id (fun h=>kg kG.size h),(ec.trb k j b ag).2⟩,ec.trn,fun b o bj=>(ec.sh b o bj).trans (kH.sh b o bj)⟩⟩
  ·rcases h with h|h
   ·exact .inl h
   ·exact .inr (kg kG.size h)
  ·rw[ec.block k (Nat.lt_of_lt_of_le ad kG.size) hm];exact kG.block k ad Ψ
  ·obtain⟨a7,bD⟩:=ec.keep b o bj;exact⟨a7,bD.trans (kH.A b o bj).2⟩
  ·rcases ec.fresh b o bj with h|h|h
   ·exact .inl h
   ·exact .inr (.inl h)
   ·exact .inr (.inr (kg kG.size h))
 ·rw[Hl]at ay;cases ay
end
end
section
open Go Go.Pv Go.Lib
abbrev yX(l:List bn):cT:=eC bn.e 814 815 100 2 l
def Zs:∀(S:aB->Prop) (x:bn),aA S x.e:=fun S x=>by simp
def KV(l:List bn):ey (yX l):=yY Zs l
def amW:Sort.SWO (iL gf):=by
 refine⟨fun x=>?_,fun x y z J U=>?_,fun x y z J U=>?_⟩
 ·simp only[iL,iN];have:=mU.refl x;omega
 ·simp only[iL,gn]at*;exact mU.ltr J Ω
 ·simp only[iL,iN]at*;have b:=mU.neg x y;have c:=mU.neg y z;have a:=mU.neg x z;have:=mU.tr z y x Ω Ω;omega
def ai6(l:List bn)(i j:Nat)(x y:bn)(k:l.length<=68719476736)(hi:l[i]? =some x)(g:l[j]? =some y):bE au 185 [aj i,aj j,.ptr (.obj 815) 0] (yX l) fun r f=>r= .bool (iL gf x y)/\f=yX l:=by have a:=KV l;obtain⟨c,d⟩:=fI.1 hi;obtain⟨e,b⟩:=fI.1 g;unfold yX eC at a⊢;refine bE.mk mixed a6 Tryz.func185 anV Ψ a.obj fun m h=>?_;unfold Sp;simp[c,e,d,b];(repeat' first|refine al ?_|refine aO (Db _ _) ?_|refine aP (Db _ _) ?_|simp[c,e,d,b]);refine c6.at _ (.inl rfl) a (Same.refl _) aX aX ?_;simp[dc,ba,be,a1]
noncomputable def Tryz.maT:TypeInfo:=(au.info? 49).get bi
noncomputable def Tryz.maE:TypeInfo:=(au.info? 100).get bi
def Tryz.maK(n:Nat)(U:2<=n):Lib.swapperK n Tryz.maE 25=9:=by
 have a:Tryz.maE.hasPointers=true:=bi
 have b:Tryz.maE.bytes=24:=bi
 have c:(n==0)=false:=by simp;omega
 have d:(n==1)=false:=by simp;omega
 simp[Lib.swapperK,a,b,c,d]
def YQ{α β:Type}(f:α->β)(l:List α)(i j:Nat):(ib l i j).map f=ib (l.map f) i j:=by
 unfold ib;simp only[List.getElem?_map];cases l[i]? with
 |none=>simp
 |some x=>
  cases l[j]? with
  |none=>simp
  |some y=>simp[List.map_set]
def ajU(l:List bn)(d:l.length<=68719476736):bE au 182 [.iface 49 (.row 2 (.obj 814) l.length),.func 185 [.ptr (.obj 815) 0]] (yX l) fun r b=>r= .tuple []/\b=yX (qn gf l):=by
 refine(V6 Zs (K:=814) (B:=815) (sz:=2) (by decide) (by decide) 49 Tryz.maT Tryz.maE bi bi bi bi 25 (fun _=>by kernel_rfl) Tryz.maK 185 (iL gf) amW l d (fun a h i j x y hi c=>ai6 a i j x y Ω hi c) (fun a h i j hi c=>?_)).mono ?_
 ·have:=Wl (P:=au) false 230 (fun args W=>run_callFunc_extern Tryz.func230 bi bi bi (e:=Gp false) bi args W)
   100 Tryz.maE bi (fun _=>by kernel_rfl) (KV a) (K:=814) (n:=l.length) (el:=100) (sz:=2) bi (xs:=a.map bn.e) (by simp[eC,ae,h]) i j hi c
  refine this.mono ?_;rintro r b ⟨rfl,rfl⟩;refine⟨rfl,?_⟩;simp[eC,cL,YQ,h]
 ·rintro r b ⟨rfl,a,rfl,J,U⟩;exact⟨rfl,by rw[ack mU J U]⟩
def ps(l:List bn):List af:= .hdm l.length (List.range l.length)::l.flatMap fun m=>[m.e,.bool true]
def mc(m:bn)(l:List bn):List bn:=if m∈l then l else l++[m]
def amu(a b:bn):u5 (.a [false,true]) a.e b.e=some (decide (a=b)):=by simp only[bn.e,u5,kR,if_true,pN];congr 1;rw[rf];cases a;cases b;simp
def amv(a:bn):x7 (.a [false,true]) a.e=true:=by simp[bn.e,x7,kR,-La]
def Zw(m:bn):∀l:List bn,wN (.a [false,true]) m.e (.bool true) (l.flatMap fun m=>[m.e,.bool true])=some (if m∈l then some (l.flatMap fun m=>[m.e,.bool true])else none)
 |[]=>rfl
 |a::l=>by
  simp only[List.flatMap_cons,b6,cc,wN,amu];by_cases h:m=a
  ·subst h;simp
  ·have b:decide (m=a)=false:=by simp[h]
   rw[b];simp only[Zw m l];by_cases hm:m∈l
   ·simp[hm]
   ·simp[hm,h]
@[simp]def axb(m:bn)(l:List bn):q1 (.a [false,true]) m.e (.bool true) (ps l)=some (ps (mc m l)):=by
 simp only[ps,q1,amv,Bool.true_eq_false,reduceCtorEq,if_false,Zw,mc];by_cases h:m∈l
 ·simp[h]
 ·simp[h,List.range_succ]
end
section
open Go Go.Pv
@[simp]def B9(S:aB->Prop)(l:List bn):aH S (ps l)=True:=by
 refine h1 ?_;unfold ps;have:∀l:List bn,aH S (l.flatMap fun m=>[m.e,af.bool true]):=fun l=>by
  induction l with
  |nil=>simp[aH]
  |cons x r a=>simp only[List.flatMap_cons,b6,cc,aH,amA,aA,true_and];exact a
 simp only[aH,aA,true_and];exact this l
@[simp]def awU:[af.hdm 0 []]=ps []:=rfl
def pQ(tag:List cV)(l:List bn):cT:=⟨[(.obj 811,[.str tag]),(.obj 812,ps l),(.obj 813,[.gmap (.obj 812)])],[]⟩
def Gz(tag:List cV)(l:List bn):ey (pQ tag l):=by unfold pQ;refine ey.of ⟨by intro m;simp[ae],by intro m;simp[ae]⟩ go Ψ
def KW(tag:List cV)(l a:List bn):Same (pQ tag l) (pQ tag a):=Same.keys (by simp[pQ]) (by simp[pQ])
def ai5(tag:List cV)(v:Int)(l:List bn):bE au 184 [aj v,.ptr (.obj 813) 0,.ptr (.obj 811) 0] (pQ tag l) fun r c=>r= .tuple []/\c=pQ tag (mc ⟨v,tag⟩ l):=by have b:=Gz tag l;have a:=Gz tag (mc ⟨v,tag⟩ l);have e5:=KW tag l (mc ⟨v,tag⟩ l);unfold pQ at b a e5⊢;refine bE.mk mixed a6 Tryz.func184 anU Ψ b.obj fun e d=>?_;unfold Sn;simp;refine c6.at _ (.inr rfl) a e5 aX aX ?_;simp[dc,ba,be,a1]
end
section
open Go Go.Pv Go.Lib
abbrev yW(l:List bJ):cT:=eC bJ.e 803 804 98 2 l
def X8:∀(S:aB->Prop) (x:bJ),aA S x.e:=fun S x=>by simp
def KU(l:List bJ):ey (yW l):=yY X8 l
def yb(x y:bJ):Bool:=decide (x.v<y.v)
def amV:Sort.SWO yb:=⟨fun x=>by simp[yb],fun x y z J U=>by simp[yb]at*;omega,fun x y z J U=>by simp[yb]at*;omega⟩
def ai7(l:List bJ)(i j:Nat)(x y:bJ)(k:l.length<=68719476736)(hi:l[i]? =some x)(g:l[j]? =some y):bE au 183 [aj i,aj j,.ptr (.obj 804) 0] (yW l) fun r f=>r= .bool (yb x y)/\f=yW l:=by have a:=KU l;obtain⟨c,d⟩:=fI.1 hi;obtain⟨e,b⟩:=fI.1 g;unfold yW eC at a⊢;refine bE.mk mixed a6 Tryz.func183 anW Ψ a.obj fun m h=>?_;unfold Sq;simp[c,e,d,b];(repeat' first|refine al ?_|simp);refine c6.at _ (.inl rfl) a (Same.refl _) aX aX ?_;simp[dc,ba,be,a1,yb]
noncomputable def Tryz.vkT:TypeInfo:=(au.info? 48).get bi
noncomputable def Tryz.vkE:TypeInfo:=(au.info? 98).get bi
def Tryz.vkK(n:Nat)(U:2<=n):Lib.swapperK n Tryz.vkE 25=9:=by
 have a:Tryz.vkE.hasPointers=false:=bi
 have b:Tryz.vkE.bytes=16:=bi
 have c:(n==0)=false:=by simp;omega
 have d:(n==1)=false:=by simp;omega
 simp[Lib.swapperK,a,b,c,d]
def amU{α β:Type}(f:α->β)(l:List α)(i j:Nat):(ib l i j).map f=ib (l.map f) i j:=by
 unfold ib;simp only[List.getElem?_map];cases l[i]? with
 |none=>simp
 |some x=>
  cases l[j]? with
  |none=>simp
  |some y=>simp[List.map_set]
def ajT(l:List bJ)(d:l.length<=68719476736):bE au 182 [.iface 48 (.row 2 (.obj 803) l.length),.func 183 [.ptr (.obj 804) 0]] (yW l) fun r c=>r= .tuple []/\∃a,c=yW a/\a.Perm l/\a.Pairwise fun x y=>yb y x=false:=by
 refine(V6 X8 (K:=803) (B:=804) (sz:=2) (by decide) (by decide) 48 Tryz.vkT Tryz.vkE bi bi bi bi 25 (fun _=>by kernel_rfl) Tryz.vkK 183 yb amV l d (fun a h i j x y hi b=>ai7 a i j x y Ω hi b) (fun a h i j hi b=>?_));have:=Wl (P:=au) false 230 (fun args W=>run_callFunc_extern Tryz.func230 bi bi bi (e:=Gp false) bi args W)
  98 Tryz.vkE bi (fun _=>by kernel_rfl) (KU a) (K:=803) (n:=l.length) (el:=98) (sz:=2) bi (xs:=a.map bJ.e) (by simp[eC,ae,h]) i j hi b
 refine this.mono ?_;rintro r c ⟨rfl,rfl⟩;refine⟨rfl,?_⟩;simp[eC,cL,amU,h]
end
end Go.Proofs.YtahlgcidhnjlbaaGreat
namespace Go.Pv
section
open Go Go.RowKit
mutual
def tn:af->List (aB×Nat)
 | .slice _ tag _=>match tag with| .tr k i=>[(k,i)]|_=>[]
 | .agg cs=>tnL cs
 |_=>[]
def tnL:List af->List (aB×Nat)
 |[]=>[]
 |x::xs=>tn x++tnL xs
end
mutual
def fq:af->Prop
 | .int _ _=>True
 | .bool _=>True
 | .str _=>True
 | .slice _ tag xs=>match tag with| .tr k _=>k≠ef|_=>xs=[]
 | .agg cs=>fW cs
 |_=>eb
def fW:List af->Prop
 |[]=>True
 |x::xs=>fq x/\fW xs
end
def lz(ν:bc)(l:List (aB×Nat))(b:Nat):Prop:= ∃k i,(k,i)∈l/\ν.tr k i b
def Ct{ν:bc}{l a:List (aB×Nat)}(h:∀x∈l,x∈a)(b:Nat)(c:lz ν l b):lz ν a b:=by obtain⟨k,i,J,U⟩:=c;exact⟨k,i,h _ J,U⟩
def O6{ν:bc}(hM:∀k j bs dg b,ν.tr k j b->ν.tr bs dg b->k=bs/\j=dg){l a:List (aB×Nat)}(h:(l++a).Nodup)(b:Nat)(J:lz ν l b):¬lz ν a b:=by rintro⟨bs,c,d,e⟩;obtain⟨k,i,J,U⟩:=J;obtain⟨rfl,rfl⟩:=hM k i bs c b U e;rw[r7]at h;exact h.2.2 _ J _ d rfl
mutual
def Pg{w:World}{ν:bc}(hM:∀k j bs dg b,ν.tr k j b->ν.tr bs dg b->k=bs/\j=dg):∀(p:af) (v:Value),aU w ν p v->fq p->(tn p).Nodup->c2 true w ν.A (lz ν (tn p)) (b3 p) v
 | .int k n,v,h,_,_=>by simpa only[aU,b3,c2]using h
 | .bool b,v,h,_,_=>by simpa only[aU,b3,c2]using h
 | .str s,v,h,_,_=>by simpa only[aU,b3,c2]using h
 | .slice sz tag xs,v,h,aq,_=>by
  simp only[aU]at h;obtain⟨⟨a,cap,J,U,f,m⟩,_,_,e,_⟩:=h;by_cases d:∃k i,tag= .tr k i
  ·obtain⟨k,i,rfl⟩:=d;refine HH _ _ v (wc (fun _ _ h=>⟨h,rfl⟩) (fun _ _ _=>rfl) _ _ _ v (fun b g=>?_) (e k i rfl));exact⟨k,i,by simp[tn],g⟩
  ·have l:xs=[]:=by
    simp only[fq]at aq;split at aq
    ·exact absurd ⟨_,_,rfl⟩ d
    ·exact aq
   subst l;simp only[b3,b9,c2];exact⟨a,cap,J,U,f,.inl trivial⟩
 | .agg cs,v,h,aq,c=>by simp only[aU,fq,tn,b3,c2]at h aq c⊢;obtain⟨us,J,U⟩:=h;exact⟨us,J,ZH hM cs _ U aq c⟩
 | .junk,_,_,aq,_=>by simp[fq]at aq
 | .ptr _ _,_,_,aq,_=>by simp[fq]at aq
 | .eptr _,_,_,aq,_=>by simp[fq]at aq
 | .iface _ _,_,_,aq,_=>by simp[fq]at aq
 | .nilp,_,_,aq,_=>by simp[fq]at aq
 | .tuple _,_,_,aq,_=>by simp[fq]at aq
 | .func _ _,_,_,aq,_=>by simp[fq]at aq
 | .gmap _,_,_,aq,_=>by simp[fq]at aq
 | .row _ _ _,_,_,aq,_=>by simp[fq]at aq
 | .rptr _ _ _ _ _,_,_,aq,_=>by simp[fq]at aq
 | .hdm _ _,_,_,aq,_=>by simp[fq]at aq
 | .hdi _ _ _,_,_,aq,_=>by simp[fq]at aq
 | .cst _,_,_,aq,_=>by simp[fq]at aq
def ZH{w:World}{ν:bc}(hM:∀k j bs dg b,ν.tr k j b->ν.tr bs dg b->k=bs/\j=dg):∀(cs:List af) (us:List Value),cW w ν cs us->fW cs->(tnL cs).Nodup->kF true w ν.A (lz ν (tnL cs)) (b9 cs) us
 |[],us,h,_,_=>by simpa only[cW,b9,kF]using h
 |c::cs,us,h,aq,a=>by simp only[cW,fW,tnL,b9,kF]at h aq a⊢;obtain⟨u,f,J,⟨U,g⟩,l⟩:=h;have e:=r7.1 a;exact⟨u,f,lz ν (tn c),lz ν (tnL cs),J,⟨Ct (fun x d=>List.mem_append_left _ d),Ct (fun x d=>List.mem_append_right _ d),fun _ b i=>O6 hM a b i⟩,⟨Pg hM c u U aq.1 e.1,g⟩,ZH hM cs f l aq.2 e.2.1⟩
end
def Ph{w:World}{ν:bc}(hM:∀k j bs dg b,ν.tr k j b->ν.tr bs dg b->k=bs/\j=dg){sz:Nat}:∀(cs:List af) (us:List Value),dv w ν sz cs us->fW cs->(tnL cs).Nodup->jX true w ν.A (lz ν (tnL cs)) sz (b9 cs) us
 |[],us,h,_,_=>by simpa only[dv,b9,jX]using h
 |c::cs,us,h,aq,a=>by simp only[dv,fW,tnL,b9,jX]at h aq a⊢;obtain⟨u,f,J,⟨U,g⟩,l⟩:=h;have e:=r7.1 a;exact⟨u,f,lz ν (tn c),lz ν (tnL cs),J,⟨Ct (fun x d=>List.mem_append_left _ d),Ct (fun x d=>List.mem_append_right _ d),fun _ b i=>O6 hM a b i⟩,⟨Pg hM c u U aq.1 e.1,g⟩,Ph hM cs f l aq.2 e.2.1⟩
mutual
def HG{t:Bool}{w:World}{A:Nat->Nat->Prop}{ν:bc}(c:∀b o,A b o->ν.A b o):∀(p:af) (F:Nat->Prop) (v:Value),c2 t w A F p v->aU w ν (b3 p) v
 | .int k n,_,_,h=>by simpa only[aU,b3,c2]using h
 | .bool b,_,_,h=>by simpa only[aU,b3,c2]using h
 | .str s,_,_,h=>by simpa only[aU,b3,c2]using h
 | .slice sz tag xs,F,v,h=>by
  simp only[c2,b3,aU]at h⊢;obtain⟨a,cap,J,U,i,l⟩:=h;refine⟨⟨a,cap,by rw[mu];exact J,by rw[mu];exact U,by rw[mu];exact i,?_⟩,fun e=>(by cases e),fun g e=>(by cases e),fun _ _ e=>(by cases e),fun _ e=>(by cases e)⟩;rcases l with rfl|⟨b,off,us,G,j,_,_,f,_,d⟩
  ·exact .inl rfl
  ·exact .inr ⟨b,off,us,j,Cb (fun b o h=>⟨c b o h,rfl⟩) _ _ f,VZ c xs G us d⟩
 | .agg cs,F,v,h=>by simp only[c2,b3,aU]at h⊢;obtain⟨us,J,U⟩:=h;exact⟨us,J,V1 c cs F _ U⟩
 | .junk,_,_,h=>by simp[c2]at h
 | .ptr _ _,_,_,h=>by simp[c2]at h
 | .eptr _,_,_,h=>by simp[c2]at h
 | .iface _ _,_,_,h=>by simp[c2]at h
 | .nilp,_,_,h=>by simp[c2]at h
 | .tuple _,_,_,h=>by simp[c2]at h
 | .func _ _,_,_,h=>by simp[c2]at h
 | .gmap _,_,_,h=>by simp[c2]at h
 | .row _ _ _,_,_,h=>by simp[c2]at h
 | .rptr _ _ _ _ _,_,_,h=>by simp[c2]at h
 | .hdm _ _,_,_,h=>by simp[c2]at h
 | .hdi _ _ _,_,_,h=>by simp[c2]at h
 | .cst _,_,_,h=>by simp[c2]at h
def V1{t:Bool}{w:World}{A:Nat->Nat->Prop}{ν:bc}(a:∀b o,A b o->ν.A b o):∀(cs:List af) (F:Nat->Prop) (us:List Value),kF t w A F cs us->cW w ν (b9 cs) us
 |[],_,_,h=>by simpa only[kF,b9,cW]using h
 |c::cs,F,us,h=>by simp only[kF,b9,cW]at h⊢;obtain⟨u,d,f,e,J,_,⟨j,i⟩,g⟩:=h;exact⟨u,d,J,⟨HG a c f u j,i⟩,V1 a cs e d g⟩
def VZ{t:Bool}{w:World}{A:Nat->Nat->Prop}{ν:bc}(a:∀b o,A b o->ν.A b o){sz:Nat}:∀(cs:List af) (F:Nat->Prop) (us:List Value),jX t w A F sz cs us->dv w ν sz (b9 cs) us
 |[],_,_,h=>by simpa only[jX,b9,dv]using h
 |c::cs,F,us,h=>by simp only[jX,b9,dv]at h⊢;obtain⟨u,d,f,e,J,_,⟨j,i⟩,g⟩:=h;exact⟨u,d,J,⟨HG a c f u j,i⟩,VZ a cs e d g⟩
end
mutual
def QR:∀p:af,b3 (b3 p)=b3 p
 | .slice _ _ xs=>by simp[b3,vq xs]
 | .agg cs=>by simp[b3,vq cs]
 | .tuple bk=>by simp[b3,vq bk]
 | .eptr x=>by simp[b3,QR x]
 | .iface t x=>by simp[b3,QR x]
 | .func f dH=>by simp[b3,vq dH]
 | .junk=>rfl
 | .int _ _=>rfl
 | .bool _=>rfl
 | .str _=>rfl
 | .ptr _ _=>rfl
 | .nilp=>rfl
 | .gmap _=>rfl
 | .row _ _ _=>rfl
 | .rptr _ _ _ _ _=>rfl
 | .hdm _ _=>rfl
 | .hdi _ _ _=>rfl
 | .cst _=>rfl
def vq:∀xs:List af,b9 (b9 xs)=b9 xs
 |[]=>rfl
 |x::xs=>by simp[b9,QR x,vq xs]
end
mutual
def eh:af->List aB
 | .slice _ tag _=>match tag with| .own k=>[k]|_=>[]
 | .row _ k _=>[k]
 | .agg cs=>gI cs
 | .tuple cs=>gI cs
 |_=>[]
def gI:List af->List aB
 |[]=>[]
 |x::xs=>eh x++gI xs
end
def w1(e:List (aB×dT))(k:aB):List af:=((ae k e).bind (·.xs)).getD []
mutual
def eD(e:List (aB×dT)):af->List (aB×Nat)
 | .slice _ tag xs=>match tag with| .tr k i=>[(k,i)]| .own _=>tnL xs|_=>[]
 | .row _ k _=>tnL (w1 e k)
 | .agg cs=>gS e cs
 | .tuple cs=>gS e cs
 |_=>[]
def gS(e:List (aB×dT)):List af->List (aB×Nat)
 |[]=>[]
 |x::xs=>eD e x++gS e xs
end
mutual
def fb(e:List (aB×dT)):af->Prop
 | .int _ _=>True
 | .bool _=>True
 | .str _=>True
 | .slice sz tag xs=>match tag with| .tr k _=>k≠ef| .own k=>True/\(∃el,ae k e=some ⟨xs.length,el,sz,none⟩)/\fW xs/\0<sz|_=>xs=[]
 | .row sz k n=>True/\(∃xs el,ae k e=some ⟨n,el,sz,some xs⟩/\fW xs)/\0<sz
 | .agg cs=>hp e cs
 | .tuple cs=>hp e cs
 |_=>eb
def hp(e:List (aB×dT)):List af->Prop
 |[]=>True
 |x::xs=>fb e x/\hp e xs
end
mutual
def hC:af->Nat
 | .slice _ _ _=>1
 | .row _ _ _=>1
 | .agg cs=>iJ cs
 | .tuple cs=>iJ cs
 |_=>0
def iJ:List af->Nat
 |[]=>0
 |x::xs=>hC x+iJ xs
end
mutual
def fold(κ:Nat)(e:List (aB×dT)):Nat->af->af
 |j,.slice sz _ xs=>.slice sz (.tr (.loc κ) j) (b9 xs)
 |j,.row sz k _=>.slice sz (.tr (.loc κ) j) (b9 (w1 e k))
 |j,.agg cs=>.agg (hE κ e j cs)
 |j,.tuple cs=>.tuple (hE κ e j cs)
 |_,p=>p
def hE(κ:Nat)(e:List (aB×dT)):Nat->List af->List af
 |_,[]=>[]
 |j,x::xs=>fold κ e j x::hE κ e (j+hC x) xs
end
def oh(ν:bc)(k:aB)(b:Nat):Prop:= ∃n v,ν.ow k=some (n,v)/\v.ownBlock=some b
mutual
def fP(ν:bc)(R:Nat->Prop)(e:List (aB×dT)):af->List (Nat->Prop)
 | .slice _ tag xs=>match tag with| .tr k i=>[fun b=>ν.tr k i b/\¬R b]| .own k=>[fun b=>oh ν k b\/(lz ν (tnL xs) b/\¬R b)]|_=>[fun _=>eb]
 | .row _ k _=>[fun b=>oh ν k b\/(lz ν (tnL (w1 e k)) b/\¬R b)]
 | .agg cs=>pE ν R e cs
 | .tuple cs=>pE ν R e cs
 |_=>[]
def pE(ν:bc)(R:Nat->Prop)(e:List (aB×dT)):List af->List (Nat->Prop)
 |[]=>[]
 |x::xs=>fP ν R e x++pE ν R e xs
end
mutual
def AB(ν:bc)(R:Nat->Prop)(e:List (aB×dT)):∀p,(fP ν R e p).length=hC p
 | .slice _ tag _=>by cases tag<;>simp[fP,hC]
 | .row _ k _=>by simp[fP,hC]
 | .agg cs=>by simp[fP,hC,QK ν R e cs]
 | .tuple cs=>by simp[fP,hC,QK ν R e cs]
 | .int _ _=>rfl
 | .bool _=>rfl
 | .str _=>rfl
 | .junk=>rfl
 | .ptr _ _=>rfl
 | .eptr _=>rfl
 | .iface _ _=>rfl
 | .nilp=>rfl
 | .func _ _=>rfl
 | .gmap _=>rfl
 | .rptr _ _ _ _ _=>rfl
 | .hdm _ _=>rfl
 | .hdi _ _ _=>rfl
 | .cst _=>rfl
def QK(ν:bc)(R:Nat->Prop)(e:List (aB×dT)):∀p,(pE ν R e p).length=iJ p
 |[]=>rfl
 |x::xs=>by simp[pE,iJ,AB ν R e x,QK ν R e xs]
end
def HC(ν:bc)(R:Nat->Prop)(ns:List (aB×Nat))(rw:List aB)(b:Nat):Prop:=(∃k∈rw,oh ν k b)\/(lz ν ns b/\¬R b)
mutual
def F8{ν:bc}{R:Nat->Prop}{e:List (aB×dT)}:∀(p:af) (i:Nat) (S:Nat->Prop),(fP ν R e p)[i]? =some S->∀b,S b->HC ν R (eD e p) (eh p) b
 | .slice _ tag _,i,S,h,b,a=>by
  cases tag<;>(simp only[fP]at h;cases i<;>simp at h;subst h);all_goals first|exact a.elim|skip
  ·rcases a with a|a
   ·exact .inl ⟨_,by simp[eh],a⟩
   ·exact .inr (by simpa only[eD]using a)
  ·exact .inr ⟨⟨_,_,by simp[eD],a.1⟩,a.2⟩
 | .row _ k _,i,S,h,b,a=>by
  simp only[fP]at h;cases i<;>simp at h;subst h;rcases a with a|a
  ·exact .inl ⟨k,by simp[eh],a⟩
  ·exact .inr (by simpa only[eD]using a)
 | .agg cs,i,S,h,b,a=>by simp only[fP,eD,eh]at h⊢;exact F7 cs i S h b a
 | .tuple cs,i,S,h,b,a=>by simp only[fP,eD,eh]at h⊢;exact F7 cs i S h b a
 | .int _ _,_,_,h,_,_=>by simp[fP]at h
 | .bool _,_,_,h,_,_=>by simp[fP]at h
 | .str _,_,_,h,_,_=>by simp[fP]at h
 | .junk,_,_,h,_,_=>by simp[fP]at h
 | .ptr _ _,_,_,h,_,_=>by simp[fP]at h
 | .eptr _,_,_,h,_,_=>by simp[fP]at h
 | .iface _ _,_,_,h,_,_=>by simp[fP]at h
 | .nilp,_,_,h,_,_=>by simp[fP]at h
 | .func _ _,_,_,h,_,_=>by simp[fP]at h
 | .gmap _,_,_,h,_,_=>by simp[fP]at h
 | .rptr _ _ _ _ _,_,_,h,_,_=>by simp[fP]at h
 | .hdm _ _,_,_,h,_,_=>by simp[fP]at h
 | .hdi _ _ _,_,_,h,_,_=>by simp[fP]at h
 | .cst _,_,_,h,_,_=>by simp[fP]at h
def F7{ν:bc}{R:Nat->Prop}{e:List (aB×dT)}:∀(p:List af) (i:Nat) (S:Nat->Prop),(pE ν R e p)[i]? =some S->∀b,S b->HC ν R (gS e p) (gI p) b
 |[],i,S,h,b,a=>by simp[pE]at h
 |x::xs,i,S,h,b,a=>by
  simp only[pE]at h;simp only[gS,gI];by_cases hi:i<(fP ν R e x).length
  ·rw[r6 hi]at h;rcases F8 x i S h b a with⟨k,J,U⟩|⟨J,U⟩
   ·exact .inl ⟨k,List.mem_append_left _ J,U⟩
   ·exact .inr ⟨Ct (fun _ h=>List.mem_append_left _ h) b J,U⟩
  ·rw[vC Ω]at h;rcases F7 xs _ S h b a with⟨k,J,U⟩|⟨J,U⟩
   ·exact .inl ⟨k,List.mem_append_right _ J,U⟩
   ·exact .inr ⟨Ct (fun _ h=>List.mem_append_right _ h) b J,U⟩
end
structure Dk (ν:bc) (R:Nat->Prop) (rw:List aB):Prop where
 trd:∀k j bs dg b,ν.tr k j b->ν.tr bs dg b->k=bs/\j=dg
 inj:∀k bs b,k∈rw->bs∈rw->oh ν k b->oh ν bs b->k=bs
 R:∀k b,k∈rw->oh ν k b->R b
def VX{ν:bc}{R:Nat->Prop}{rw:List aB}(he:Dk ν R rw){h i:List (aB×Nat)}{g f:List aB}(l:(h++i).Nodup)(n:(g++f).Nodup)(J:∀k∈g,k∈rw)(U:∀k∈f,k∈rw)(b:Nat)(m:HC ν R h g b):¬HC ν R i f b:=by
 rintro j;rcases m with⟨k,c,e⟩|⟨c,e⟩<;>rcases j with⟨bs,a,d⟩|⟨a,d⟩
 ·have:=he.inj k bs b (J k c) (U bs a) e d;subst this;exact(r7.1 n).2.2 _ c _ a rfl
 ·exact d (he.R k b (J k c) e)
 ·exact e (he.R bs b (U bs a) d)
 ·exact O6 he.trd l b c a
mutual
def acn{ν:bc}{R:Nat->Prop}{rw:List aB}(he:Dk ν R rw){e:List (aB×dT)}:∀(p:af),(eD e p).Nodup->(eh p).Nodup->(∀k∈eh p,k∈rw)->∀(i d:Nat) (S c:Nat->Prop),(fP ν R e p)[i]? =some S->(fP ν R e p)[d]? =some c->∀b,S b->c b->i=d
 | .slice sz tag xs,_,_,_,i,d,S,c,h,a,b,_,_=>by have m:(fP ν R e (.slice sz tag xs)).length=1:=AB ν R e _;have:=(fI.1 h).1;have:=(fI.1 a).1;omega
 | .row sz k n,_,_,_,i,d,S,c,h,a,b,_,_=>by have m:(fP ν R e (.row sz k n)).length=1:=AB ν R e _;have:=(fI.1 h).1;have:=(fI.1 a).1;omega
 | .agg cs,f,g,ad,i,d,S,c,h,a,b,l,j=>by simp only[fP,eD,eh]at h a f g ad;exact QJ he cs f g ad i d S c h a b l j
 | .tuple cs,f,g,ad,i,d,S,c,h,a,b,l,j=>by simp only[fP,eD,eh]at h a f g ad;exact QJ he cs f g ad i d S c h a b l j
 | .int _ _,_,_,_,_,_,_,_,h,_,_,_,_=>by simp[fP]at h
 | .bool _,_,_,_,_,_,_,_,h,_,_,_,_=>by simp[fP]at h
 | .str _,_,_,_,_,_,_,_,h,_,_,_,_=>by simp[fP]at h
 | .junk,_,_,_,_,_,_,_,h,_,_,_,_=>by simp[fP]at h
 | .ptr _ _,_,_,_,_,_,_,_,h,_,_,_,_=>by simp[fP]at h
 | .eptr _,_,_,_,_,_,_,_,h,_,_,_,_=>by simp[fP]at h
 | .iface _ _,_,_,_,_,_,_,_,h,_,_,_,_=>by simp[fP]at h
 | .nilp,_,_,_,_,_,_,_,h,_,_,_,_=>by simp[fP]at h
 | .func _ _,_,_,_,_,_,_,_,h,_,_,_,_=>by simp[fP]at h
 | .gmap _,_,_,_,_,_,_,_,h,_,_,_,_=>by simp[fP]at h
 | .rptr _ _ _ _ _,_,_,_,_,_,_,_,h,_,_,_,_=>by simp[fP]at h
 | .hdm _ _,_,_,_,_,_,_,_,h,_,_,_,_=>by simp[fP]at h
 | .hdi _ _ _,_,_,_,_,_,_,_,h,_,_,_,_=>by simp[fP]at h
 | .cst _,_,_,_,_,_,_,_,h,_,_,_,_=>by simp[fP]at h
def QJ{ν:bc}{R:Nat->Prop}{rw:List aB}(he:Dk ν R rw){e:List (aB×dT)}:∀(p:List af),(gS e p).Nodup->(gI p).Nodup->(∀k∈gI p,k∈rw)->∀(i d:Nat) (S c:Nat->Prop),(pE ν R e p)[i]? =some S->(pE ν R e p)[d]? =some c->∀b,S b->c b->i=d
 |[],_,_,_,i,d,S,c,h,_,_,_,_=>by simp[pE]at h
 |x::xs,f,g,ad,i,d,S,c,h,a,b,l,j=>by
  simp only[pE]at h a;simp only[gS]at f;simp only[gI]at g ad;have o:∀k∈eh x,k∈rw:=fun k m=>ad k (List.mem_append_left _ m);have n:∀k∈gI xs,k∈rw:=fun k m=>ad k (List.mem_append_right _ m);by_cases hi:i<(fP ν R e x).length<;>by_cases q:d<(fP ν R e x).length
  ·rw[r6 hi]at h;rw[r6 q]at a;exact acn he x (r7.1 f).1 (r7.1 g).1 o i d S c h a b l j
  ·rw[r6 hi]at h;rw[vC Ω]at a;exact absurd (F7 xs _ c a b j) (VX he f g o n b (F8 x i S h b l))
  ·rw[vC Ω]at h;rw[r6 q]at a;exact absurd (F7 xs _ S h b l) (VX he f g o n b (F8 x d c a b j))
  ·rw[vC Ω]at h a;have:=QJ he xs (r7.1 f).2.1 (r7.1 g).2.1 n _ _ S c h a b l j;omega
end
end
section
open Go Go.RowKit
def Q5{w:World}{μ:bc}{k:aB}{j sz:Nat}{tag:jF}{ys:List af}{v:Value}(h:c2 true w μ.A (μ.tr k j) (.slice sz tag ys) v)(a:b9 ys=ys):aU w μ (.slice sz (.tr k j) ys) v:=by have J:=HG (ν:=μ) (fun _ _ h=>h) _ _ _ h;simp only[b3,a]at J;simp only[aU]at J⊢;refine⟨J.1,fun e=>(by cases e),fun _ e=>(by cases e),fun bs dg e=>?_,fun _ e=>(by cases e)⟩;cases e;simp only[c2]at h⊢;exact h
section
variable {pr:Nat->Prop} {w:World} {ν μ:bc} {B:List (aB×List af)} {e:List (aB×dT)} {R:Nat->Prop} {rw:List aB} {κ:Nat}
 (bd:Good pr w ν B e) (he:Dk ν R rw) (br:∀b,R b->∀k j,¬ν.tr k j b) (Ea:∀b o,ν.A b o->μ.A b o) (zn:∀k∈rw,∀own,ae k e=some own->∀b,oh ν k b->∀o,o<own.n*own.sz->μ.A b o)
include bd he br Ea zn
mutual
theorem ME:∀(p:af) (v:Value) (j:Nat),aU w ν p v->fb e p->(eD e p).Nodup->(∀k∈eh p,k∈rw)->(∀i S,(fP ν R e p)[i]? =some S->∀b,S b->μ.tr (.loc κ) (j+i) b)->aU w μ (fold κ e j p) v
 | .int k n,v,_,h,_,_,_,_=>by simpa only[aU,fold]using h
 | .bool b,v,_,h,_,_,_,_=>by simpa only[aU,fold]using h
 | .str s,v,_,h,_,_,_,_=>by simpa only[aU,fold]using h
 | .slice sz tag xs,v,j,h,aq,l,ad,f=>by
  simp only[aU]at h;obtain⟨⟨a,cap,J,U,Y,aZ⟩,_,ec,lP,_⟩:=h;simp only[fold];refine Q5 (tag:= .no) ?_ (vq xs);by_cases y:∃k i,tag= .tr k i
  ·obtain⟨k,i,rfl⟩:=y;have aG:=D3 .no v (lP k i rfl);refine wc (fun b o h=>⟨Ea b o h,rfl⟩) (fun _ _ _=>rfl) _ _ _ v (fun b d=>?_) aG;simpa using f 0 (fun b=>ν.tr k i b/\¬R b) (by simp[fP]) b ⟨d,fun E=>br b E _ _ d⟩
  by_cases V:∃k,tag= .own k
  ·obtain⟨k,rfl⟩:=V;simp only[fb]at aq;obtain⟨_,⟨el,A⟩,K,N⟩:=aq;obtain⟨n',u,g1,g2,g3⟩:=ec k rfl;obtain⟨v0,gl,q,r,O,W⟩:=bd.own k _ A;simp only at q r O;rw[g1]at q;simp only[dV,jo]at q;obtain⟨rfl,rfl⟩:=q;have P:=g3 rfl;subst P;have H:k∈rw:=ad k (by simp[eh]);simp only[c2];refine⟨a,cap,by rw[mu];exact J,by rw[mu];exact U,by rw[mu];exact Y,?_⟩;rcases aZ with rfl|⟨b,off,us,B,b4,X⟩
   ·exact .inl rfl
   by_cases z:xs=[]
   ·left;rw[z];rfl
   right;subst B;rcases r.2 with⟨B,_⟩|⟨g,DJ,cur,f1,f2,f3,f4,f5,f6,f7⟩
   ·rw[B]at J;cases J
   have F:v.ownBlock=some g:=by rw[f1];rfl
   have x:oh ν k g:=⟨_,_,g1,F⟩;have t:∀b,(oh ν k b\/(lz ν (tnL xs) b/\¬R b))->μ.tr (.loc κ) j b:=fun b d=>by simpa using f 0 (fun b=>oh ν k b\/(lz ν (tnL xs) b/\¬R b)) (by simp[fP]) b d
   rw[f1]at J;simp only[ayM,dV,Addr.mk.injEq]at J;obtain⟨⟨rfl,rfl,_⟩,_,rfl⟩:=J;have hlen:=rV X;refine⟨g,0,us,fun c=>lz ν (tnL xs) c/\¬R c,rfl,t g (.inl x),fun c ay=>⟨t c (.inr ay),fun _ Q=>ay.2 (by rw[Q];exact he.R k g H x)⟩,Cb (fun b o h=>⟨Ea b o h,rfl⟩) _ _ b4,fun _=>⟨rfl,?_,el,?_⟩,?_⟩
   ·rw[hlen];exact Nat.mul_pos (List.length_pos_iff.2 z) N
   ·simp only[shape,f3,f6]
   ·have J:=Ph he.trd xs us X K (by simpa only[eD]using l);exact HE (fun b o h=>⟨Ea b o h,rfl⟩) (fun _ _ _=>rfl) _ _ _ us (fun b d=>⟨d,fun E=>by obtain⟨bs,jM,_,y⟩:=d;exact br b E _ _ y⟩) J
  ·have ab:xs=[]:=by
    simp only[fb]at aq;split at aq
    ·exact absurd ⟨_,_,rfl⟩ y
    ·exact absurd ⟨_,rfl⟩ V
    ·exact aq
   subst ab;simp only[b9,c2];exact⟨a,cap,J,U,Y,.inl trivial⟩
 | .row sz k n,v,j,h,aq,l,ad,f=>by
  simp only[fb]at aq;obtain⟨⟨m,hm⟩,⟨xs,el,A,K⟩,N⟩:=aq;have M:w1 e k=xs:=by simp[w1,A]
  simp only[aU]at h;obtain⟨⟨aeB,jt,Z⟩,fv,n',u,g1,g2,g3⟩:=h;obtain⟨v0,us,q,r,O,W⟩:=bd.own k _ A;simp only at q r O;rw[g1]at q;simp only[dV,jo]at q;obtain⟨rfl,rfl⟩:=q;have P:=g3 rfl;subst P;obtain⟨G,L,vm⟩:=W xs rfl;simp only at G L;have H:k∈rw:=ad k (by simp[eh]);rcases r.2 with⟨B,_⟩|⟨g,cap,cur,f1,f2,f3,f4,f5,f6,f7⟩
  ·rw[B]at Z;cases Z
  have F:v.ownBlock=some g:=by rw[f1];rfl
  have x:oh ν k g:=⟨_,_,g1,F⟩;have t:∀b,(oh ν k b\/(lz ν (tnL (w1 e k)) b/\¬R b))->μ.tr (.loc κ) j b:=fun b d=>by simpa using f 0 (fun b=>oh ν k b\/(lz ν (tnL (w1 e k)) b/\¬R b)) (by simp[fP]) b d
  rw[M]at t;simp only[fold,M];refine Q5 (tag:= .no) ?_ (vq xs);simp only[c2];refine⟨some ⟨g,0,none⟩,cap,by rw[mu,G];exact f1,by rw[mu,G];exact f4,⟨f5,by rw[mu,G];exact fv⟩,?_⟩;by_cases z:xs=[]
  ·left;rw[z];rfl
  ·right;have hlen:=rV L;refine⟨g,0,us,fun c=>lz ν (tnL xs) c/\¬R c,rfl,t g (.inl x),fun c ay=>⟨t c (.inr ay),fun _ Q=>ay.2 (by rw[Q];exact he.R k g H x)⟩,IM us 0 fun i u hi=>?_,fun _=>⟨rfl,?_,el,?_⟩,?_⟩
   ·have BH:i<us.length:=(fI.1 hi).1;refine⟨zn k H _ A g x _ (by simp only;rw[r.1]at BH;omega),?_⟩;have:=r.cells F i u hi;rwa[pV]at this
   ·rw[hlen];exact Nat.mul_pos (List.length_pos_iff.2 z) N
   ·simp only[shape,f3,f6]
   ·have J:=Ph he.trd xs us L K (by simpa only[eD,M]using l);exact HE (fun b o h=>⟨Ea b o h,rfl⟩) (fun _ _ _=>rfl) _ _ _ us (fun b d=>⟨d,fun E=>by obtain⟨bs,jM,_,y⟩:=d;exact br b E _ _ y⟩) J
 | .agg cs,v,j,h,aq,l,ad,f=>by simp only[aU,fb,eD,eh,fP,fold]at h aq l ad f⊢;obtain⟨us,J,U⟩:=h;exact⟨us,J,VS cs _ j U aq l ad f⟩
 | .tuple cs,v,j,h,aq,l,ad,f=>by simp only[aU,fb,eD,eh,fP,fold]at h aq l ad f⊢;obtain⟨us,J,U⟩:=h;exact⟨us,J,VT cs _ j U aq l ad f⟩
 | .junk,_,_,_,aq,_,_,_=>by simp[fb]at aq
 | .ptr _ _,_,_,_,aq,_,_,_=>by simp[fb]at aq
 | .eptr _,_,_,_,aq,_,_,_=>by simp[fb]at aq
 | .iface _ _,_,_,_,aq,_,_,_=>by simp[fb]at aq
 | .nilp,_,_,_,aq,_,_,_=>by simp[fb]at aq
 | .func _ _,_,_,_,aq,_,_,_=>by simp[fb]at aq
 | .gmap _,_,_,_,aq,_,_,_=>by simp[fb]at aq
 | .rptr _ _ _ _ _,_,_,_,aq,_,_,_=>by simp[fb]at aq
 | .hdm _ _,_,_,_,aq,_,_,_=>by simp[fb]at aq
 | .hdi _ _ _,_,_,_,aq,_,_,_=>by simp[fb]at aq
 | .cst _,_,_,_,aq,_,_,_=>by simp[fb]at aq
theorem VS:∀(cs:List af) (us:List Value) (j:Nat),cW w ν cs us->hp e cs->(gS e cs).Nodup->(∀k∈gI cs,k∈rw)->(∀i S,(pE ν R e cs)[i]? =some S->∀b,S b->μ.tr (.loc κ) (j+i) b)->cW w μ (hE κ e j cs) us
 |[],us,j,h,_,_,_,_=>by simpa only[cW,hE]using h
 |c::cs,us,j,h,aq,m,ad,d=>by
  simp only[cW,hp,gS,gI,pE,hE]at h aq m ad d⊢;obtain⟨u,l,J,⟨U,n⟩,o⟩:=h;have g:=r7.1 m;refine⟨u,l,J,⟨ME c u j U aq.1 g.1 (fun k a=>ad k (List.mem_append_left _ a)) (fun i S hi b f=>d i S (by rw[r6 (fI.1 hi).1];exact hi) b f),n⟩,
   VS cs l _ o aq.2 g.2.1 (fun k a=>ad k (List.mem_append_right _ a)) (fun i S hi b f=>?_)⟩
  have:=d (hC c+i) S (by rw[vC (by rw[AB];omega),AB];simpa using hi) b f;rwa[<-Nat.add_assoc]at this
theorem VT:∀(cs:List af) (us:List Value) (j:Nat),cZ w ν cs us->hp e cs->(gS e cs).Nodup->(∀k∈gI cs,k∈rw)->(∀i S,(pE ν R e cs)[i]? =some S->∀b,S b->μ.tr (.loc κ) (j+i) b)->cZ w μ (hE κ e j cs) us
 |[],us,j,h,_,_,_,_=>by simpa only[cZ,hE]using h
 |c::cs,us,j,h,aq,m,ad,d=>by
  simp only[cZ,hp,gS,gI,pE,hE]at h aq m ad d⊢;obtain⟨u,l,J,U,n⟩:=h;have g:=r7.1 m;refine⟨u,l,J,ME c u j U aq.1 g.1 (fun k a=>ad k (List.mem_append_left _ a)) (fun i S hi b f=>d i S (by rw[r6 (fI.1 hi).1];exact hi) b f),
   VT cs l _ n aq.2 g.2.1 (fun k a=>ad k (List.mem_append_right _ a)) (fun i S hi b f=>?_)⟩
  have:=d (hC c+i) S (by rw[vC (by rw[AB];omega),AB];simpa using hi) b f;rwa[<-Nat.add_assoc]at this
end
end
end
section
open Go Go.RowKit
mutual
def ZF:∀p:af,fq p->∀x∈tn p,x.1≠ef
 | .slice _ tag xs,aq,x,a=>by cases tag<;>simp only[tn,fq]at aq a<;>simp at a;subst a;exact aq
 | .agg cs,aq,x,a=>by simp only[tn,fq]at aq a;exact Jg cs aq x a
 | .int _ _,_,_,a=>by simp[tn]at a
 | .bool _,_,_,a=>by simp[tn]at a
 | .str _,_,_,a=>by simp[tn]at a
 | .junk,_,_,a=>by simp[tn]at a
 | .ptr _ _,_,_,a=>by simp[tn]at a
 | .eptr _,_,_,a=>by simp[tn]at a
 | .iface _ _,_,_,a=>by simp[tn]at a
 | .nilp,_,_,a=>by simp[tn]at a
 | .tuple _,_,_,a=>by simp[tn]at a
 | .func _ _,_,_,a=>by simp[tn]at a
 | .gmap _,_,_,a=>by simp[tn]at a
 | .row _ _ _,_,_,a=>by simp[tn]at a
 | .rptr _ _ _ _ _,_,_,a=>by simp[tn]at a
 | .hdm _ _,_,_,a=>by simp[tn]at a
 | .hdi _ _ _,_,_,a=>by simp[tn]at a
 | .cst _,_,_,a=>by simp[tn]at a
def Jg:∀p:List af,fW p->∀x∈tnL p,x.1≠ef
 |[],_,x,a=>by simp[tnL]at a
 |c::cs,aq,x,a=>by
  simp only[tnL,fW,jT]at aq a;rcases a with a|a
  ·exact ZF c aq.1 x a
  ·exact Jg cs aq.2 x a
end
mutual
def ZG{e:List (aB×dT)}:∀p:af,fb e p->∀x∈eD e p,x.1≠ef
 | .slice _ tag xs,aq,x,a=>by
  cases tag with
  |own k=>simp only[eD,fb]at aq a;exact Jg xs aq.2.2.1 x a
  |tr k i=>simp only[eD,fb]at aq a;simp at a;subst a;exact aq
  |no=>simp[eD]at a
  |nil=>simp[eD]at a
  |lo k=>simp[eD]at a
 | .row _ k _,aq,x,a=>by simp only[eD,fb]at aq a;obtain⟨_,⟨xs,el,c,b⟩,_⟩:=aq;rw[show w1 e k=xs from by simp[w1,c]]at a;exact Jg xs b x a
 | .agg cs,aq,x,a=>by simp only[eD,fb]at aq a;exact Pe cs aq x a
 | .tuple cs,aq,x,a=>by simp only[eD,fb]at aq a;exact Pe cs aq x a
 | .int _ _,_,_,a=>by simp[eD]at a
 | .bool _,_,_,a=>by simp[eD]at a
 | .str _,_,_,a=>by simp[eD]at a
 | .junk,_,_,a=>by simp[eD]at a
 | .ptr _ _,_,_,a=>by simp[eD]at a
 | .eptr _,_,_,a=>by simp[eD]at a
 | .iface _ _,_,_,a=>by simp[eD]at a
 | .nilp,_,_,a=>by simp[eD]at a
 | .func _ _,_,_,a=>by simp[eD]at a
 | .gmap _,_,_,a=>by simp[eD]at a
 | .rptr _ _ _ _ _,_,_,a=>by simp[eD]at a
 | .hdm _ _,_,_,a=>by simp[eD]at a
 | .hdi _ _ _,_,_,a=>by simp[eD]at a
 | .cst _,_,_,a=>by simp[eD]at a
def Pe{e:List (aB×dT)}:∀p:List af,hp e p->∀x∈gS e p,x.1≠ef
 |[],_,x,a=>by simp[gS]at a
 |c::cs,aq,x,a=>by
  simp only[gS,hp,jT]at aq a;rcases a with a|a
  ·exact ZG c aq.1 x a
  ·exact Pe cs aq.2 x a
end
mutual
def Jh{e:List (aB×dT)}:∀p:af,fb e p->∀k∈eh p,∃own,ae k e=some own
 | .row sz k n,aq,bs,ad=>by simp only[eh,fb]at aq ad;obtain⟨_,⟨xs,el,b,c⟩,_⟩:=aq;simp at ad;subst ad;exact⟨_,b⟩
 | .agg cs,aq,x,a=>by simp only[eh,fb]at aq a;exact Pf cs aq x a
 | .tuple cs,aq,x,a=>by simp only[eh,fb]at aq a;exact Pf cs aq x a
 | .slice sz tag xs,aq,bs,ad=>by
  cases tag with
  |own k=>simp only[eh,fb]at aq ad;obtain⟨_,⟨el,b⟩,_⟩:=aq;simp at ad;subst ad;exact⟨_,b⟩
  |tr k i=>simp[eh]at ad
  |no=>simp[eh]at ad
  |nil=>simp[eh]at ad
  |lo k=>simp[eh]at ad
 | .int _ _,_,_,a=>by simp[eh]at a
 | .bool _,_,_,a=>by simp[eh]at a
 | .str _,_,_,a=>by simp[eh]at a
 | .junk,_,_,a=>by simp[eh]at a
 | .ptr _ _,_,_,a=>by simp[eh]at a
 | .eptr _,_,_,a=>by simp[eh]at a
 | .iface _ _,_,_,a=>by simp[eh]at a
 | .nilp,_,_,a=>by simp[eh]at a
 | .func _ _,_,_,a=>by simp[eh]at a
 | .gmap _,_,_,a=>by simp[eh]at a
 | .rptr _ _ _ _ _,_,_,a=>by simp[eh]at a
 | .hdm _ _,_,_,a=>by simp[eh]at a
 | .hdi _ _ _,_,_,a=>by simp[eh]at a
 | .cst _,_,_,a=>by simp[eh]at a
def Pf{e:List (aB×dT)}:∀p:List af,hp e p->∀k∈gI p,∃own,ae k e=some own
 |[],_,x,a=>by simp[gI]at a
 |c::cs,aq,x,a=>by
  simp only[gI,hp,jT]at aq a;rcases a with a|a
  ·exact Jh c aq.1 x a
  ·exact Pf cs aq.2 x a
end
def h3(d:List bU)(s:cT)(κ:Nat)(Q:af->cT->Prop)(e:Exit)(st:bo):Prop:=
 (e= .ret\/e= .normal)/\match ba st d with
  |some (c,b)=>c/\∃a,a.e=[]/\lY a s.b/\hA (aM a) a.b st.b/\hP a/\(fb st.e (a1 b)/\(eD st.e (a1 b)).Nodup/\(eh (a1 b)).Nodup)/\Q (fold κ st.e 0 (a1 b)) a
  |none=>eb
noncomputable def bc.fold(ν:bc)(a:cT)(κ:Nat)(e:List (aB×dT))(p:af):bc:=
 {A:=fun b o=>ν.A b o\/ ∃k,k∈eh p/\∃own,ae k e=some own/\oh ν k b/\o<own.n*own.sz,
  bx:=(ν.cut (aM a)).bx,ow:=fun _=>none,
  tr:=fun k j b=>k= .loc κ/\∃S,(fP ν (fun b=> ∃k,k∈eh p/\oh ν k b) e p)[j]? =some S/\S b}
def uv.of{P:cG}(hm:P.follows .mixedOrders=true){aS:List (Nat×et)}(aL:hR P aS=true){f:FuncId}{fn:Func}(aG:P.funcs[f]? =some fn){code:Code}(ag:fn.body=some code)(uX:(fn.name== "runtime.NumGoroutine")=false){c:C}(ay:hX fn.ntmps aS c code=true){dL:List bU}(iF:qk aS dL fn.results.toList=true)
  {args:List af} (av:args.length<=fn.ntmps) {s:cT} (kU:hP s) (h7:s.e=[]) {κ:Nat} {Q:af->cT->Prop} (he:eK args->(∀j cs,ae j s.b=some cs->gZ cs=true->eM cs)->de P (cJ s) c (h3 dL s κ Q) ⟨iM 0 args,s.b,s.e,0,cJ s⟩):uv P f κ args s Q:=by
 intro w ν bk bd ab aJ;refine .inl ⟨⟨fn,aG,by simp[ag],uX⟩,?_⟩;have oP:=wX aJ;have kV:bk.size=args.length:=by simpa using oP
 let X:fj:=⟨w,ν,ft ν s,fn.ntmps,cJ s⟩
 have nY:∀k,fresh 0 (cJ s) k->ν.bx k=none/\ν.ow k=none/\∀j b,¬ν.tr k j b:=by
  intro k ad;cases k with
  |loc m=>exact⟨(ab _).1 (kU.1 m),(ab _).2.1 (kU.2 m),(ab _).2.2⟩
  |obj m=>
   simp only[fresh,true_and]at ad;refine⟨?_,?_,(ab _).2.2⟩
   ·refine(ab _).1 ?_;cases h:ae (.obj m) s.b with
    |none=>rfl
    |some x=>exact absurd (rR (.inl (by simp[h]))) ad
   ·refine(ab _).2.1 ?_;cases h:ae (.obj m) s.e with
    |none=>rfl
    |some x=>exact absurd (rR (.inr (by simp[h]))) ad
 have ja:∀m,(ν.bx (.obj m)≠none\/ν.ow (.obj m)≠none)-> .obj m∈cJ s:=by
  intro m hm;refine Classical.byContradiction fun ay=>?_;obtain⟨J,U,_⟩:=nY (.obj m) ⟨trivial,ay⟩;rcases hm with hm|hm
  ·exact hm J
  ·exact hm U
 have oN:c9 X ⟨iM 0 args,s.b,s.e,0,cJ s⟩ {tmps:=bk++sW (fn.ntmps-bk.size) undef,defers:=[]} w ν:=by
  refine⟨⟨bd.alt,fun k cs ad=>?_,bd.inj,fun g o fm=>?_,bd.oinj,bd.obx,bd.one,bd.otr⟩,⟨rfl,rfl,rfl,dO _,fun _ _ _=>rfl,fun b o h=>⟨h,rfl⟩,fun b o h=>.inl h,fun n b h=>h,fun n b h=>ja n (.inl (by rw[h];simp)),fun m n u h=>⟨n,u,h,.inl ⟨rfl,rfl⟩⟩,fun m n u h=>ja m (.inr (by rw[h];simp)),fun k j _ _ b h=>absurd h ((ab k).2.2 j b),fun k j b h=>absurd h ((ab k).2.2 j b),fun k j b h=>absurd h ((ab k).2.2 j b),fun _ _ _=>rfl⟩,rfl,?_,fun i=>?_,nY⟩
  ·obtain⟨bl,us,el,g1,g2,g3⟩:=bd.box k cs ad;exact⟨bl,us,el,g1,.inl g2,g3⟩
  ·obtain⟨v,us,g1,g2,g3,g4⟩:=bd.own g o fm;exact⟨v,us,g1,g2,fun bl gg=>⟨.inl (g3 bl gg).1,(g3 bl gg).2⟩,g4⟩
  ·show(bk++sW (fn.ntmps-bk.size) undef).size=fn.ntmps;simp;omega
  ·rw[D5];by_cases hi:i<args.length
   ·rw[if_pos Ω];have p9:args[i]? =some args[i]:=ck hi;obtain⟨v,ao,aC⟩:=CU i aJ p9;have aN:(bk++sW (fn.ntmps-bk.size) undef).getD i undef=v:=by
     have nT:bk[i]? =some v:=by simpa using ao
     rw[vz,Array.getElem?_append_left Ω,nT];rfl
    show aU w ν _ ((bk++sW (fn.ntmps-bk.size) undef).getD i undef);rw[aN];simpa[List.getD,p9]using aC
   ·rw[if_neg Ω];simp[aU]
 have wk:=he (JX aJ) (fun j cs ah=>by obtain⟨bl,us,el,_,_,_,_,g5⟩:=bd.box j cs ah;exact Qf g5);have EM:=pZ hm aL (X:=X) c code (h3 dL s κ Q) _ ay wk _ w ν oN;refine calls_of_wp aG ag (wp_mono EM fun e bp w' cI=>?_);obtain⟨st',bm,⟨p8,bK⟩,cY⟩:=cI;cases n1:ba st' dL with
 |none=>simp[n1]at bK
 |some x=>
  obtain⟨cB,bS⟩:=x;simp only[n1]at bK;obtain⟨hL,ak,hs'e,kb,a8,bW,⟨ok,nd,rd⟩,dI⟩:=bK;obtain⟨kA,g1,g2⟩:=FP aL cY dL fn.results.toList cB bS iF n1 hL;have EE:=wX g2;have ed:bp.defers=[]/\∃v,(results fn bp.tmps).run P w'= .ok v w'/\(fun(e:Ending) w'=> ∃v r ak bm,e= .returned v/\Q r ak/\aU w' bm r v/\Good (fun bl=>ft ν s bl\/w.heap.size<=bl) w' bm ak.b ak.e/\Bh (some κ) bm ak/\hP ak/\o3 ⟨w,ν,ft ν s,0,cJ s⟩ w' bm) (.returned v) w':=by
   refine⟨cY.defers,?_⟩;have jg:(results fn bp.tmps).run P w'= .ok (if h:kA.toArray.size=1 then kA.toArray[0]else .tuple kA.toArray) w':=by rw[Ql];simp only[gm,Array.mapM_eq_mapM_toList,Sem.run_map,g1,gA,hs]
   have xI:∀k,aM ak k->(ae k ak.b).isSome/\(ae k st'.b).isSome:=fun k ad=>by
    have J:(ae k ak.b).isSome:=by
     rcases ad with ad|ad
     ·exact ad
     ·rw[hs'e]at ad;simp[ae]at ad
    obtain⟨cs,dy⟩:=fy.1 J;exact⟨J,by simp[(a8 k cs dy).1]⟩
   have gL:∀k b,k∈eh (a1 bS)->oh bm k b->∃own,ae k st'.e=some own/\(X.pr b)/\b<w'.heap.size/\(∀k j,¬bm.tr k j b)/\(∀bs,(ae bs st'.b).isSome->bm.bx bs≠some b):=by rintro k b ad ⟨n,v,J,U⟩;obtain⟨own,nu⟩:=Jh _ ok k ad;obtain⟨v0,us,gT,ir,qh,anH⟩:=cY.good.own k _ nu;rw[J]at gT;simp only[dV,jo]at gT;obtain⟨rfl,rfl⟩:=gT;exact⟨_,nu,(qh b U).1,cY.good.ownLt nu J U,cY.good.otr b (.inr ⟨k,_,_,by simp[nu],J,U⟩),fun bs lV kn=>cY.good.obx k bs _ _ b (by simp[nu]) lV J U kn⟩
   have zH:∀k b,k∈eh (a1 bS)->oh bm k b->w.heap.size<=b:=by
    intro k b ad dZ;obtain⟨own,_,J,_,_,bQ⟩:=gL k b ad dZ;rcases J with J|J
    ·exfalso;rcases J with⟨bs,bq,a2⟩|⟨g,n,v,bq,_⟩
     ·cases bs with
      |loc m=>rw[kU.1 m]at bq;cases bq
      |obj m=>exact bQ _ (xI _ (x5 kb _ bq)).2 (cY.fr.obj m b a2)
     ·rw[h7]at bq;simp[ae]at bq
    ·exact J
   have HX:Dk bm (fun b=> ∃k,k∈eh (a1 bS)/\oh bm k b) (eh (a1 bS)):=by refine⟨cY.fr.trd,fun k bs b ad lV J U=>?_,fun k b ad h=>⟨k,ad,h⟩⟩;obtain⟨n,v,bq,a2⟩:=J;obtain⟨n',v',cm,ca⟩:=U;obtain⟨_,bP⟩:=Jh _ ok k ad;obtain⟨_,cp⟩:=Jh _ ok bs lV;exact cY.good.oinj k bs n n' v v' b (by simp[bP]) (by simp[cp]) bq cm a2 ca
   refine⟨_,jg,_,Pv.fold κ st'.e 0 (a1 bS),ak,bm.fold ak κ st'.e (a1 bS),rfl,dI,?_,?_,?_,bW,?_⟩
   ·show aU w' (bm.fold ak κ st'.e (a1 bS)) _ _;have mN:aU w' bm (a1 bS) (if h:kA.toArray.size=1 then kA.toArray[0]else .tuple kA.toArray):=by
     match bS,kA,g2,EE with
     |[p],[v],g2,_=>simp only[cZ]at g2;obtain⟨u,bY,ao,aC,_⟩:=g2;cases ao;simpa[a1]using aC
     |[],[],g2,_=>simp[a1,aU,cZ]
     |p::dB::bS,v::v2::kA,g2,_=>rw[dif_neg Ψ];simp only[a1,aU];exact⟨_,rfl,by simpa using g2⟩
     |[_],[],_,h=>simp at h
     |[],_::_,_,h=>simp at h
     |[_],_::_::_,_,h=>simp at h
     |_::_::_,[],_,h=>simp at h
     |_::_::_,[_],_,h=>simp at h
    refine ME (μ:=bm.fold ak κ st'.e (a1 bS)) cY.good HX (fun b br=>?_) (fun b o h=>.inl h) (fun k ad own nu b dZ o aq=>.inr ⟨k,ad,own,nu,dZ,aq⟩) (a1 bS) _ 0 mN ok nd (fun k ad=>ad) (fun i S hi b dE=>⟨rfl,S,by simpa using hi,dE⟩);obtain⟨k,ad,dZ⟩:=br;obtain⟨_,_,_,_,aZ,_⟩:=gL k b ad dZ;exact aZ
   ·have kH:ov (aM ak) w' bm w' (bm.fold ak κ st'.e (a1 bS)):=by
     refine⟨fun b o h=>⟨.inl h,rfl⟩,fun k b ad h=>by simp only[bc.fold];rw[bc.cut_bx ad];exact h,fun g n u HY h=>?_,fun _ _ _=>rfl,fun k j b ad h=>?_⟩
     ·obtain⟨cs,dy⟩:=fy.1 (xI g HY).2;obtain⟨bl,us,el,ao,_⟩:=cY.good.box g cs dy;rcases cY.good.one g with J|J
      ·rw[J]at ao;cases ao
      ·rw[J]at h;cases h
     ·obtain⟨cs,dy⟩:=fy.1 (xI k ad).2;obtain⟨bl,us,el,ao,_⟩:=cY.good.box k cs dy;rw[(cY.fr.trn k j b h).1]at ao;cases ao
    have kn:∀k bl,(bm.fold ak κ st'.e (a1 bS)).bx k=some bl->aM ak k/\bm.bx k=some bl:=fun k bl h=>bc.cut_some h;refine⟨fun bl o bj=>?_,fun k cs ad=>?_,fun k bs bl J U ar aZ=>?_,fun g o HY=>?_,fun g fA n n' v v' bl J=>?_,fun g k n v bl J=>?_,fun k=>.inr rfl,fun bl aL k j hM=>?_⟩
    ·rcases bj with bj|⟨k,ad,own,_,dZ,_⟩
     ·exact cY.good.alt bl o bj
     ·obtain⟨_,_,_,ar,_⟩:=gL k bl ad dZ;exact ar
    ·obtain⟨f1,f2,f3⟩:=a8 k cs ad;obtain⟨bl,us,el,ao,aC,bg,b4,dP⟩:=cY.good.box k cs f1;refine⟨bl,us,el,kH.bx k bl f2 ao,aC,fun o bj=>?_,b4,Qg kH f3 dP⟩;rcases bj with bj|⟨bs,lV,own,_,dZ,_⟩
     ·exact bg o bj
     ·obtain⟨_,_,_,_,_,bQ⟩:=gL bs bl lV dZ;exact bQ k (by simp[f1]) ao
    ·exact cY.good.inj k bs bl (xI k (.inl J)).2 (xI bs (.inl U)).2 (kn k bl ar).2 (kn bs bl aZ).2
    ·rw[hs'e]at HY;simp[ae]at HY
    ·rw[hs'e]at J;simp[ae]at J
    ·rw[hs'e]at J;simp[ae]at J
    ·rcases aL with⟨bs,bq,a2⟩|⟨g,n,v,bq,_⟩
     ·obtain⟨_,S,dE,dZ⟩:=hM;obtain⟨cm,ca⟩:=kn bs bl a2;rcases F8 _ j S dE bl dZ with⟨bD,iD,J⟩|⟨⟨bD,i,_,J⟩,_⟩
      ·obtain⟨_,_,_,_,_,bQ⟩:=gL bD bl iD J;exact bQ bs (xI bs cm).2 ca
      ·exact cY.good.otr bl (.inl ⟨bs,(xI bs cm).2,ca⟩) bD i J
     ·rw[hs'e]at bq;simp[ae]at bq
   ·intro k;refine⟨fun ad=>?_,fun _=>rfl,fun j b h=>⟨κ,rfl,h.1⟩⟩;refine(bc.cut_no fun cI=>?_).1;have:=(xI k cI).1;rw[ad]at this;cases this
   ·have Xq:∀j b,(bm.fold ak κ st'.e (a1 bS)).tr (.loc κ) j b->w.heap.size<=b/\b<w'.heap.size:=by
     rintro j b ⟨_,S,dE,dZ⟩;rcases F8 _ j S dE b dZ with⟨k,ad,J⟩|⟨⟨k,i,fM,J⟩,_⟩
     ·obtain⟨_,_,_,ar,_⟩:=gL k b ad J;exact⟨zH k b ad J,ar⟩
     ·have:=cY.fr.trb k i b J;exact⟨this.1.resolve_left (ZG _ ok _ fM),this.2⟩
    refine⟨cY.fr.os,cY.fr.tape,cY.fr.output,cY.fr.size,cY.fr.block,fun b o h=>⟨.inl (cY.fr.keep b o h).1,(cY.fr.keep b o h).2⟩,fun b o bj=>?_,fun n b h=>?_,fun n b h=>ja n (.inl (by rw[h];simp)),fun m n u h=>?_,fun m n u h=>ja m (.inr (by rw[h];simp)),fun k j bs dg b J U=>?_,fun k j b h=>?_,fun k j b h=>?_,cY.fr.sh⟩
    ·rcases bj with bj|⟨k,ad,own,_,dZ,_⟩
     ·exact cY.fr.fresh b o bj
     ·obtain⟨_,_,U,_⟩:=gL k b ad dZ;exact .inr U
    ·have ai:aM ak (.obj n):=by
      cases nu:ae (.obj n) s.b with
      |none=>rw[(ab _).1 nu]at h;cases h
      |some x=>exact x5 kb _ (by simp[nu])
     simp only[bc.fold];rw[bc.cut_bx ai];exact cY.fr.obj n b h
    ·rw[(ab _).2.1 (by rw[h7];rfl)]at h;cases h
    ·obtain⟨rfl,S,bq,a2⟩:=J;obtain⟨rfl,nc,cm,ca⟩:=U;exact⟨rfl,acn HX _ nd rd (fun k ad=>ad) j dg S nc bq cm b a2 ca⟩
    ·obtain⟨rfl,_⟩:=id h;exact⟨.inr (Xq j b h).1,(Xq j b h).2⟩
    ·obtain⟨rfl,_⟩:=h;refine⟨(bc.cut_no fun cI=>?_).1,rfl⟩;rcases cI with cI|cI
     ·rw[bW.1 κ]at cI;cases cI
     ·rw[bW.2 κ]at cI;cases cI
  rcases p8 with rfl|rfl<;>exact ed
def uv.mk{P:cG}(hm:P.follows .mixedOrders=true){aS:List (Nat×et)}(l:hR P aS=true){f:FuncId}{fn:Func}(m:P.funcs[f]? =some fn){c:C}{b:List bU}{n:Nat}(a:b2 aS c b n fn=true)
  {args:List af} (g:args.length<=n) {s:cT} (d:hP s) (e:s.e=[]) {κ:Nat} {Q:af->cT->Prop} (he:eK args->(∀j cs,ae j s.b=some cs->gZ cs=true->eM cs)->de P (cJ s) c (h3 b s κ Q) ⟨iM 0 args,s.b,s.e,0,cJ s⟩):uv P f κ args s Q:=by
 unfold b2 at a;split at a
 ·rename_i code i;simp only[cO,r4,gn]at a;obtain⟨⟨⟨J,U⟩,h⟩,k⟩:=a;exact uv.of hm l m i h J U (kg g k) d e he
 ·cases a
def fY(P:cG)(f:FuncId)(args:List af)(r:Nat->af):Prop:= ∀κ,uv P f κ args ⟨[],[]⟩ fun a b=>a=r κ/\b=⟨[],[]⟩
def fY.mk{P:cG}(hm:P.follows .mixedOrders=true){aS:List (Nat×et)}(i:hR P aS=true){f:FuncId}{fn:Func}(j:P.funcs[f]? =some fn){c:C}{a:List bU}{n:Nat}(b:b2 aS c a n fn=true)
  {args:List af} (e:args.length<=n) {r:Nat->af} (he:eK args->∀κ,de P [] c (h3 a ⟨[],[]⟩ κ fun d g=>d=r κ/\g=⟨[],[]⟩) ⟨iM 0 args,[],[],0,[]⟩):fY P f args r:=
 fun κ=>uv.mk hm i j b e q3 rfl fun h _=>he h κ
def h3.val{b:List bU}{κ:Nat}{r:af}{e:Exit}{st:bo}(f:e= .ret\/e= .normal)(h:match ba st b with
  |some (c,a)=>c/\(fb st.e (a1 a)/\(eD st.e (a1 a)).Nodup/\(eh (a1 a)).Nodup)/\fold κ st.e 0 (a1 a)=r
  |none=>eb):h3 b ⟨[],[]⟩ κ (fun g i=>g=r/\i=⟨[],[]⟩) e st:=by
 refine⟨f,?_⟩;cases d:ba st b with
 |none=>simp[d]at h
 |some x=>obtain⟨c,a⟩:=x;simp only[d]at h⊢;exact⟨h.1,⟨[],[]⟩,rfl,trivial,fun k cs ad=>by simp[ae]at ad,q3,h.2.1,h.2.2,rfl⟩
def CallDo.own{P:cG}{n:Nat}{args:List af}{st:bo}{d:Option Nat}{K:bo->Prop}{r:Nat->af}(ad:aH (fun _=>eb) args)(b:fY P n args r)(a: .loc st.n∉st.o)(h:K {st with t:=e9 d (r st.n) st.t,n:=st.n+1}):CallDo P n args st d K:=by
 refine .inr ⟨⟨[],[]⟩,_,fun k cs ad=>by simp[ae]at ad,fun k cs ad=>by simp[ae]at ad,q3,ji (fun _ h=>h.elim) _ ad,a,b st.n,?_⟩;rintro c e ⟨rfl,rfl⟩;refine⟨⟨fun m h=>by simp[ae]at h,fun m h=>by simp[ae]at h⟩,?_⟩;have:({after st ⟨[],[]⟩ ⟨[],[]⟩ d (r st.n)with n:=st.n+1}:bo)={st with t:=e9 d (r st.n) st.t,n:=st.n+1}:=by simp[after,Dh,cJ]
 rw[this];exact h
def hJ.own{P:cG}{q:Bool}{nw:List Nat}{n:Nat}{args:List af}{st:bo}{cX:Nat}{K:bo->Prop}{r:Nat->af}(ad:aH (fun _=>eb) args)(b:fY P n args r)(a:qJ st.n cX st)(h:K {st with t:=put cX (r (st.n+cX)) st.t,o:= .loc (st.n+cX)::st.o}):hJ P q nw n args st (some cX) K:=.inl ⟨cX,r (st.n+cX),rfl,a,ad,b (st.n+cX),h⟩
end
end Go.Pv
namespace Go.Proofs.YtahlgcidhnjlbaaGreat
section
open Go Go.Pv
def _root_.Go.Pv.T.k(t:T)(κ:Nat):af:= .agg [aj t.kind,aj t.int,.str t.name,.slice 4 (.tr (.loc κ) 0) (t.args.map T.e)]
def anM(t:T):fY au 143 [t.e] t.k:=by
 induction t with
 |pair a b d c=>
  refine fY.mk mixed a6 Tryz.func143 Jj Ψ fun e κ=>?_;unfold DE;simp;repeat' first|with_reducible refine hJ.own Ψ d (by simp[qJ,ae]) ?_|with_reducible refine hJ.own Ψ c (by simp[qJ,ae]) ?_|simp[T.k]
  all_goals skip
  all_goals(refine h3.val (.inl rfl) ?_;simp[ba,be,a1,fb,hp,eD,gS,eh,gI,tnL,tn,fq,fW,fold,hE,hC,ae,ef,b9])
 |_=>refine fY.mk mixed a6 Tryz.func143 Jj Ψ fun e κ=>?_;unfold DE;simp;all_goals(refine h3.val (.inl rfl) ?_;simp[ba,be,a1,fb,hp,eD,gS,eh,gI,tnL,tn,fq,fW,fold,hE,hC,ae,T.k,b9])
end
end Go.Proofs.YtahlgcidhnjlbaaGreat
namespace Go.Pv
section
open Go Go.RowKit
mutual
def bI:af->Nat
 | .slice _ _ []=>0
 | .slice _ _ (x::xs)=>1+(bI x+da xs)
 | .agg cs=>da cs
 |_=>0
def da:List af->Nat
 |[]=>0
 |x::xs=>bI x+da xs
end
mutual
def du:Nat->af->af
 |_,.slice sz _ []=>.slice sz .no []
 |b,.slice sz _ (_::xs)=>.row sz (.obj b) (xs.length+1)
 |b,.agg cs=>.agg (fL b cs)
 |_,p=>p
def fL:Nat->List af->List af
 |_,[]=>[]
 |b,x::xs=>du b x::fL (b+bI x) xs
end
mutual
def dS(ε:Nat->Nat):Nat->af->List (aB×dT)
 |b,.slice sz _ (x::xs)=>(.obj b,⟨xs.length+1,ε b,sz,some (du (b+1) x::fL (b+1+bI x) xs)⟩)::(dS ε (b+1) x++gO ε (b+1+bI x) xs)
 |b,.agg cs=>gO ε b cs
 |_,_=>[]
def gO(ε:Nat->Nat):Nat->List af->List (aB×dT)
 |_,[]=>[]
 |b,x::xs=>dS ε b x++gO ε (b+bI x) xs
end
def pd:∀(b:Nat) (xs:List af),(fL b xs).length=xs.length
 |_,[]=>rfl
 |b,x::xs=>by simp[fL,pd _ xs]
mutual
def vf(ε:Nat->Nat):∀(p:af) (b:Nat) (k:aB) (o:dT),ae k (dS ε b p)=some o->∃m,k= .obj m/\b<=m/\m<b+bI p
 | .slice sz t (x::xs),b,k,o,h=>by
  simp only[dS,ae]at h;split at h
  ·rename_i e;exact⟨b,e.symm,dO _,by simp only[bI];omega⟩
  ·rw[oa]at h;simp only[bI];cases J:ae k (dS ε (b+1) x)with
   |some y=>obtain⟨m,e,a,c⟩:=vf ε x _ k y J;exact⟨m,e,Ω,Ω⟩
   |none=>rw[J]at h;obtain⟨m,e,a,c⟩:=Ce ε xs _ k o h;exact⟨m,e,Ω,Ω⟩
 | .agg cs,b,k,o,h=>by simp only[dS,bI]at h⊢;exact Ce ε cs b k o h
 | .slice _ _ [],_,_,_,h=>by simp[dS,ae]at h
 | .int _ _,_,_,_,h=>by simp[dS,ae]at h
 | .bool _,_,_,_,h=>by simp[dS,ae]at h
 | .str _,_,_,_,h=>by simp[dS,ae]at h
 | .junk,_,_,_,h=>by simp[dS,ae]at h
 | .ptr _ _,_,_,_,h=>by simp[dS,ae]at h
 | .eptr _,_,_,_,h=>by simp[dS,ae]at h
 | .iface _ _,_,_,_,h=>by simp[dS,ae]at h
 | .nilp,_,_,_,h=>by simp[dS,ae]at h
 | .tuple _,_,_,_,h=>by simp[dS,ae]at h
 | .func _ _,_,_,_,h=>by simp[dS,ae]at h
 | .gmap _,_,_,_,h=>by simp[dS,ae]at h
 | .row _ _ _,_,_,_,h=>by simp[dS,ae]at h
 | .rptr _ _ _ _ _,_,_,_,h=>by simp[dS,ae]at h
 | .hdm _ _,_,_,_,h=>by simp[dS,ae]at h
 | .hdi _ _ _,_,_,_,h=>by simp[dS,ae]at h
 | .cst _,_,_,_,h=>by simp[dS,ae]at h
def Ce(ε:Nat->Nat):∀(a:List af) (b:Nat) (k:aB) (o:dT),ae k (gO ε b a)=some o->∃m,k= .obj m/\b<=m/\m<b+da a
 |[],_,_,_,h=>by simp[gO,ae]at h
 |x::xs,b,k,o,h=>by
  simp only[gO]at h;rw[oa]at h;simp only[da];cases J:ae k (dS ε b x)with
  |some y=>obtain⟨m,e,c,d⟩:=vf ε x _ k y J;exact⟨m,e,Ω,Ω⟩
  |none=>rw[J]at h;obtain⟨m,e,c,d⟩:=Ce ε xs _ k o h;exact⟨m,e,Ω,Ω⟩
end
structure uz (F:Nat->Prop) (ω:Nat->Option (Nat×Value)) (b c:Nat):Prop where
 dom:∀m,(ω m).isSome=true↔b<=m/\m<c
 blk:∀m n u,ω m=some (n,u)->∃bl,u.ownBlock=some bl/\F bl
 inj:∀m fU n n' u eJ bl,ω m=some (n,u)->ω fU=some (n',eJ)->u.ownBlock=some bl->eJ.ownBlock=some bl->m=fU
def vM(w:World)(ω:Nat->Option (Nat×Value))(e:List (aB×dT)):Prop:= ∀μ:bc,(∀m x,ω m=some x->μ.ow (.obj m)=some x)->
 ∀k o,ae k e=some o->∃u us,μ.ow k=some (o.n,u)/\w.ownsRow 0 o.el o.sz u o.n us/\∃xs,o.xs=some xs/\xs.length=o.n/\dv w μ o.sz xs us
def uz.nil(F:Nat->Prop)(b:Nat):uz F (fun _=>none) b b:=⟨fun m=>by simp,fun _ _ _ h=>(by cases h),fun _ _ _ _ _ _ _ h=>by cases h⟩
def wE(c:Nat)(b a:Nat->Option (Nat×Value))(m:Nat):Option (Nat×Value):=if m<c then b m else a m
def XY{c:Nat}{a e:Nat->Option (Nat×Value)}{F:Nat->Prop}{b:Nat}(h:uz F a b c){m:Nat}{x:Nat×Value}(d:a m=some x):wE c a e m=some x:=by unfold wE;rw[if_pos ((h.dom m).1 (by rw[d];rfl)).2];exact d
def XZ{c d:Nat}{e a:Nat->Option (Nat×Value)}{F:Nat->Prop}(h:uz F a c d){m:Nat}{x:Nat×Value}(b:a m=some x):wE c e a m=some x:=by unfold wE;rw[if_neg (by have:=((h.dom m).1 (by rw[b];rfl)).1;omega)];exact b
def uz.join{F o l:Nat->Prop}{r q:Nat->Option (Nat×Value)}{b c d:Nat}(J:uz o r b c)(U:uz l q c d)(v:b<=c)(t:c<=d)(f1:∀x,o x->F x)(f2:∀x,l x->F x)(s:∀x,o x->¬l x):uz F (wE c r q) b d:=by
 refine⟨fun m=>?_,fun m n u hm=>?_,fun m h n n' u i bl hm f k j=>?_⟩
 ·unfold wE;split
  ·rw[J.dom];omega
  ·rw[U.dom];omega
 ·unfold wE at hm;split at hm
  ·obtain⟨bl,a,e⟩:=J.blk m n u hm;exact⟨bl,a,f1 _ e⟩
  ·obtain⟨bl,a,e⟩:=U.blk m n u hm;exact⟨bl,a,f2 _ e⟩
 ·unfold wE at hm f;split at hm<;>split at f
  ·exact J.inj m h n n' u i bl hm f k j
  ·obtain⟨_,a,e⟩:=J.blk m n u hm;obtain⟨_,g,p⟩:=U.blk h n' i f;rw[k]at a;rw[j]at g;cases a;cases g;exact absurd p (s _ e)
  ·obtain⟨_,a,e⟩:=U.blk m n u hm;obtain⟨_,g,p⟩:=J.blk h n' i f;rw[k]at a;rw[j]at g;cases a;cases g;exact absurd e (s _ p)
  ·exact U.inj m h n n' u i bl hm f k j
def vM.app{w:World}{ω:Nat->Option (Nat×Value)}{e b:List (aB×dT)}(h:vM w ω e)(c:vM w ω b):vM w ω (e++b):=fun μ a k o ad=>by
 rw[oa]at ad;cases J:ae k e with
 |some y=>rw[J]at ad;cases ad;exact h μ a k _ J
 |none=>rw[J]at ad;exact c μ a k o ad
def vM.sub{w:World}{ω a:Nat->Option (Nat×Value)}{e:List (aB×dT)}(h:vM w ω e)(c:∀m x,ω m=some x->a m=some x):vM w a e:=fun μ b=>h μ fun m x d=>b m x (c m x d)
def VY{t:Bool}{w:World}{A:Nat->Nat->Prop}{sz:Nat}:∀{xs:List af} {F:Nat->Prop} {us:List Value},jX t w A F sz xs us->us.length=xs.length*sz
 |[],_,us,h=>by simp only[jX]at h;subst h;simp
 |x::xs,F,us,h=>by
  simp only[jX]at h;obtain⟨u,d,c,b,rfl,_,⟨_,U,_⟩,a⟩:=h;have:u.cells.toList.length=sz:=by simpa using U
  rw[qv,this,VY a,mZ,Nat.succ_mul];omega
def pU(w:World)(F:Nat->Prop)(b c:Nat)(e:(Nat->Nat)->List (aB×dT))(R:bc->Prop):Prop:=∃(ε:Nat->Nat) (ω:Nat->Option (Nat×Value)),uz F ω b c/\vM w ω (e ε)/\∀μ:bc,(∀m x,ω m=some x->μ.ow (.obj m)=some x)->R μ
def pU.flat{w:World}{F:Nat->Prop}{b:Nat}{R:bc->Prop}(h:∀μ,R μ):pU w F b b (fun _=>[]) R:=⟨fun _=>0,fun _=>none,uz.nil F b,fun _ _ k o ad=>by simp[ae]at ad,fun μ _=>h μ⟩
mutual
def J4{ε ε':Nat->Nat}:∀(p:af) (b:Nat),(∀m,b<=m->m<b+bI p->ε m=ε' m)->dS ε b p=dS ε' b p
 | .slice sz t (x::xs),b,h=>by simp only[bI]at h;simp only[dS];rw[h b Ω Ω,J4 x (b+1) fun m J U=>h m Ω Ω,FU xs (b+1+bI x) fun m J U=>h m Ω Ω]
 | .agg cs,b,h=>by simp only[dS,bI]at h⊢;exact FU cs b h
 | .slice _ _ [],_,_=>rfl
 | .int _ _,_,_=>rfl
 | .bool _,_,_=>rfl
 | .str _,_,_=>rfl
 | .junk,_,_=>rfl
 | .ptr _ _,_,_=>rfl
 | .eptr _,_,_=>rfl
 | .iface _ _,_,_=>rfl
 | .nilp,_,_=>rfl
 | .tuple _,_,_=>rfl
 | .func _ _,_,_=>rfl
 | .gmap _,_,_=>rfl
 | .row _ _ _,_,_=>rfl
 | .rptr _ _ _ _ _,_,_=>rfl
 | .hdm _ _,_,_=>rfl
 | .hdi _ _ _,_,_=>rfl
 | .cst _,_,_=>rfl
def FU{ε ε':Nat->Nat}:∀(a:List af) (b:Nat),(∀m,b<=m->m<b+da a->ε m=ε' m)->gO ε b a=gO ε' b a
 |[],_,_=>rfl
 |x::xs,b,h=>by simp only[da]at h;simp only[gO];rw[J4 x b fun m J U=>h m Ω Ω,FU xs (b+bI x) fun m J U=>h m Ω Ω]
end
def pU.two{w:World}{F d c:Nat->Prop}{x:af}{xs:List af}{b:Nat}{i h R:bc->Prop}(J:pU w d b (b+bI x) (fun ε=>dS ε b x) i)(U:pU w c (b+bI x) (b+bI x+da xs) (fun ε=>gO ε (b+bI x) xs) h)
  (f1:∀b,d b->F b) (f2:∀b,c b->F b) (o:∀b,d b->¬c b) (br:∀μ,i μ->h μ->R μ):pU w F b (b+(bI x+da xs)) (fun ε=>dS ε b x++gO ε (b+bI x) xs) R:=by
 obtain⟨ε1,k,e,a2,a3⟩:=J;obtain⟨ε2,j,f,n,l⟩:=U;refine⟨fun m=>if m<b+bI x then ε1 m else ε2 m,wE (b+bI x) k j,by rw[<-Nat.add_assoc];exact e.join f Ω Ω f1 f2 o,?_,fun μ g=>br μ (a3 μ fun m y a=>g m y (XY e a)) (l μ fun m y a=>g m y (XZ f a))⟩;refine vM.app ?_ ?_
 ·rw[J4 (ε':=ε1) x b fun m J U=>by rw[if_pos U]];exact a2.sub fun m y a=>XY e a
 ·rw[FU (ε':=ε2) xs (b+bI x) fun m J U=>by rw[if_neg Ω]];exact n.sub fun m y a=>XZ f a
mutual
def Q2{w:World}{A:Nat->Nat->Prop}:∀(p:af) (F:Nat->Prop) (v:Value) (b:Nat),c2 true w A F p v->pU w F b (b+bI p) (fun ε=>dS ε b p) fun μ=>aU w μ (du b p) v
 | .int k n,F,v,b,h=>pU.flat fun μ=>by simpa only[c2,du,aU]using h
 | .bool _,F,v,b,h=>pU.flat fun μ=>by simpa only[c2,du,aU]using h
 | .str s,F,v,b,h=>pU.flat fun μ=>by simpa only[c2,du,aU]using h
 | .slice sz tag [],F,v,b,h=>pU.flat fun μ=>by simp only[c2]at h;obtain⟨a,cap,J,U,t,_⟩:=h;simp only[du,aU];exact⟨⟨a,cap,J,U,t,.inl trivial⟩,fun e=>(by cases e),fun _ e=>(by cases e),fun _ _ e=>(by cases e),fun _ e=>(by cases e)⟩
 | .agg cs,F,v,b,h=>by simp only[c2]at h;obtain⟨us,rfl,U⟩:=h;obtain⟨ε,ω,d,a2,a3⟩:=acN cs F us.toList b U;exact⟨ε,ω,d,a2,fun μ j=>by simp only[du,aU];exact⟨us,rfl,a3 μ j⟩⟩
 | .slice sz tag (x::xs),F,v,b,h=>by
  simp only[c2]at h;obtain⟨a,cap,J,U,t,E⟩:=h;rcases E with E|⟨g,off,us,G,rfl,X,O,W,V,N⟩
  ·cases E
  obtain⟨rfl,gj,el,l⟩:=V trivial;obtain⟨ε,ω,d,a2,a3⟩:=acM sz (x::xs) G us (b+1) N;have hlen:=VY N;have Q:¬G g:=fun bd=>(O g bd).2 trivial rfl;have R:∃cur,w.heap[g]? =some (.cells cur el (0,0))/\cur.size=cap*sz:=by
   unfold shape at l;split at l
   ·rename_i cur gK fz ay;simp only[dV,jo]at l;obtain⟨c,rfl,rfl⟩:=l;exact⟨cur,ay,c⟩
   ·cases l
  obtain⟨cur,ay,M⟩:=R;have hle:(x::xs).length*sz<=cur.size:=by rw[M];exact r8 _ U
  have Y:cur.toList.take ((x::xs).length*sz)=us:=by
   apply List.ext_getElem?;intro i;rw[List.getElem?_take];by_cases hi:i<(x::xs).length*sz
   ·rw[if_pos hi];obtain⟨u,hu⟩:∃u,us[i]? =some u:=⟨_,ck (by rw[hlen];exact hi)⟩;have H:=(va W hu).2;simp only[World.cell?,Nat.zero_add,ay,k6,hU,if_false]at H;rw[hu];simpa using H
   ·rw[if_neg hi,rh (by rw[hlen];omega)]
  have B:∀m y,ω m=some y->m≠b:=fun m y hm e=>by have:=(d.dom m).1 (by rw[hm];rfl);omega
  refine⟨fun m=>if m=b then el else ε m,fun m=>if m=b then some ((x::xs).length,v)else ω m,?_,?_,?_⟩
  ·refine⟨fun m=>?_,fun m n u hm=>?_,fun m K n n' u L bl hm q z r=>?_⟩
   ·simp only[bI];by_cases e:m=b
    ·subst e;simp;omega
    ·rw[if_neg e,d.dom];simp only[da];omega
   ·split at hm
    ·cases hm;exact⟨g,by rw[J];rfl,X⟩
    ·obtain⟨bl,c,f⟩:=d.blk m n u hm;exact⟨bl,c,(O bl f).1⟩
   ·split at hm<;>split at q
    ·rename_i c f;rw[c,f]
    ·cases hm;obtain⟨_,c,f⟩:=d.blk K n' L q;rw[r]at c;cases c;rw[J]at z;cases z;exact absurd f Q
    ·cases q;obtain⟨_,c,f⟩:=d.blk m n u hm;rw[z]at c;cases c;rw[J]at r;cases r;exact absurd f Q
    ·exact d.inj m K n n' u L bl hm q z r
  ·intro μ j k o ad;have P:∀m y,ω m=some y->μ.ow (.obj m)=some y:=fun m y hm=>j m y ((if_neg (B m y hm)).trans hm);simp only[dS,ae]at ad;split at ad
   ·rename_i Z;subst Z;cases ad;refine⟨v,us,?_,⟨by rw[hlen];rfl,.inr ⟨g,cap,cur,J,Nat.zero_le _,by simpa using ay,U,t.1,M,Y⟩⟩,_,rfl,by simp[pd],?_⟩
    ·exact j b _ Ψ
    ·exact(a3 μ P)
   ·have S:(dS (fun m=>if m=b then el else ε m) (b+1) x++gO (fun m=>if m=b then el else ε m) (b+1+bI x) xs)=gO ε (b+1) (x::xs):=by simp only[gO];rw[J4 (ε':=ε) x (b+1) fun m J _=>by rw[if_neg Ω],FU (ε':=ε) xs (b+1+bI x) fun m J _=>by rw[if_neg Ω]]
    rw[S]at ad;exact a2 μ P k o ad
  ·intro μ j;simp only[du,aU];exact⟨⟨g,cap,J⟩,t.2,(x::xs).length,v,j b _ Ψ,dO _,fun _=>rfl⟩
 | .junk,_,_,_,h=>by simp[c2]at h
 | .ptr _ _,_,_,_,h=>by simp[c2]at h
 | .eptr _,_,_,_,h=>by simp[c2]at h
 | .iface _ _,_,_,_,h=>by simp[c2]at h
 | .nilp,_,_,_,h=>by simp[c2]at h
 | .tuple _,_,_,_,h=>by simp[c2]at h
 | .func _ _,_,_,_,h=>by simp[c2]at h
 | .gmap _,_,_,_,h=>by simp[c2]at h
 | .row _ _ _,_,_,_,h=>by simp[c2]at h
 | .rptr _ _ _ _ _,_,_,_,h=>by simp[c2]at h
 | .hdm _ _,_,_,_,h=>by simp[c2]at h
 | .hdi _ _ _,_,_,_,h=>by simp[c2]at h
 | .cst _,_,_,_,h=>by simp[c2]at h
def acN{w:World}{A:Nat->Nat->Prop}:∀(cs:List af) (F:Nat->Prop) (us:List Value) (b:Nat),kF true w A F cs us->pU w F b (b+da cs) (fun ε=>gO ε b cs) fun μ=>cW w μ (fL b cs) us
 |[],F,us,b,h=>pU.flat fun μ=>by simpa only[kF,fL,cW]using h
 |c::cs,F,us,b,h=>by simp only[kF]at h;obtain⟨u,a,e,d,rfl,⟨f1,f2,f3⟩,⟨g1,g2⟩,g3⟩:=h;simp only[da,gO,fL];exact(Q2 c e u b g1).two (acN cs d a (b+bI c) g3) f1 f2 (f3 trivial) fun μ g f=>by simp only[cW];exact⟨u,a,rfl,⟨g,g2⟩,f⟩
def acM{w:World}{A:Nat->Nat->Prop}(sz:Nat):∀(cs:List af) (F:Nat->Prop) (us:List Value) (b:Nat),jX true w A F sz cs us->pU w F b (b+da cs) (fun ε=>gO ε b cs) fun μ=>dv w μ sz (fL b cs) us
 |[],F,us,b,h=>pU.flat fun μ=>by simpa only[jX,fL,dv]using h
 |c::cs,F,us,b,h=>by simp only[jX]at h;obtain⟨u,a,e,d,rfl,⟨f1,f2,f3⟩,⟨g1,g2,g4⟩,g3⟩:=h;simp only[da,gO,fL];exact(Q2 c e u b g1).two (acM sz cs d a (b+bI c) g3) f1 f2 (f3 trivial) fun μ g f=>by simp only[dv];exact⟨u,a,rfl,⟨g,g2,g4⟩,f⟩
end
mutual
def cN:af->Prop
 | .int _ _=>True
 | .bool _=>True
 | .str _=>True
 | .slice sz _ xs=>0<sz/\dX xs
 | .agg cs=>dX cs
 |_=>eb
def dX:List af->Prop
 |[]=>True
 |x::xs=>cN x/\dX xs
end
def xp{α:Type}(f:α->af):∀l:List α,dX (l.map f)↔∀x∈l,cN (f x)
 |[]=>by simp[dX]
 |x::l=>by simp[dX,xp f l]
mutual
def L9{w:World}{ν:bc}{F:Nat->Prop}(f:∀b o,ν.A b o->F b):∀(p:af) (v:Value),aU w ν p v->cN p->c2 false w ν.A F (b3 p) v
 | .int k n,v,h,_=>by simpa only[aU,b3,c2]using h
 | .bool b,v,h,_=>by simpa only[aU,b3,c2]using h
 | .str s,v,h,_=>by simpa only[aU,b3,c2]using h
 | .slice sz tag xs,v,h,d=>by
  simp only[aU]at h;simp only[cN]at d;obtain⟨⟨a,cap,J,U,m,t⟩,_⟩:=h;simp only[b3,c2,mu];refine⟨a,cap,J,U,m,?_⟩;rcases t with rfl|⟨b,off,us,q,j,g⟩
  ·exact .inl rfl
  ·cases xs with
   |nil=>exact .inl rfl
   |cons x xs=>
    have l:=rV g;have r:F b:=by
     cases us with
     |nil=>have i:0<(x::xs).length*sz:=Nat.mul_pos Ψ d.1;rw[<-l]at i;simp at i
     |cons u us=>exact f b _ j.1.1
    exact .inr ⟨b,off,us,F,q,r,fun c ay=>⟨ay,fun e=>(by cases e)⟩,j,fun e=>(by cases e),US f sz _ us g d.2⟩
 | .agg cs,v,h,d=>by simp only[aU,cN,b3,c2]at h d⊢;obtain⟨us,J,U⟩:=h;exact⟨us,J,UT f cs _ U d⟩
 | .junk,_,_,d=>by simp[cN]at d
 | .ptr _ _,_,_,d=>by simp[cN]at d
 | .eptr _,_,_,d=>by simp[cN]at d
 | .iface _ _,_,_,d=>by simp[cN]at d
 | .nilp,_,_,d=>by simp[cN]at d
 | .tuple _,_,_,d=>by simp[cN]at d
 | .func _ _,_,_,d=>by simp[cN]at d
 | .gmap _,_,_,d=>by simp[cN]at d
 | .row _ _ _,_,_,d=>by simp[cN]at d
 | .rptr _ _ _ _ _,_,_,d=>by simp[cN]at d
 | .hdm _ _,_,_,d=>by simp[cN]at d
 | .hdi _ _ _,_,_,d=>by simp[cN]at d
 | .cst _,_,_,d=>by simp[cN]at d
def UT{w:World}{ν:bc}{F:Nat->Prop}(d:∀b o,ν.A b o->F b):∀(cs:List af) (us:List Value),cW w ν cs us->dX cs->kF false w ν.A F (b9 cs) us
 |[],us,h,_=>by simpa only[cW,b9,kF]using h
 |c::cs,us,h,a=>by simp only[cW,dX,b9,kF]at h a⊢;obtain⟨u,f,J,⟨U,g⟩,i⟩:=h;exact⟨u,f,F,F,J,⟨fun _ h=>h,fun _ h=>h,fun e=>(by cases e)⟩,⟨L9 d c u U a.1,g⟩,UT d cs f i a.2⟩
def US{w:World}{ν:bc}{F:Nat->Prop}(d:∀b o,ν.A b o->F b)(sz:Nat):∀(cs:List af) (us:List Value),dv w ν sz cs us->dX cs->jX false w ν.A F sz (b9 cs) us
 |[],us,h,_=>by simpa only[dv,b9,jX]using h
 |c::cs,us,h,a=>by simp only[dv,dX,b9,jX]at h a⊢;obtain⟨u,f,J,⟨U,g⟩,i⟩:=h;exact⟨u,f,F,F,J,⟨fun _ h=>h,fun _ h=>h,fun e=>(by cases e)⟩,⟨L9 d c u U a.1,g⟩,US d sz cs f i a.2⟩
end
def YO{w:World}{μ:bc}{k:aB}{sz:Nat}{tag:jF}{ys:List af}{v:Value}(h:c2 false w μ.A (μ.tr k 0) (.slice sz tag ys) v)(a:b9 ys=ys):aU w μ (.slice sz (.lo k) ys) v:=by have J:=HG (ν:=μ) (fun _ _ h=>h) _ _ _ h;simp only[b3,a]at J;simp only[aU]at J⊢;refine⟨J.1,fun e=>(by cases e),fun _ e=>(by cases e),fun _ _ e=>(by cases e),fun bs e=>?_⟩;cases e;simp only[c2]at h⊢;exact h
mutual
def lE:af->af
 | .int k n=>.int k n
 | .bool b=>.bool b
 | .str s=>.str s
 | .slice sz _ xs=>.slice sz (.lo ef) (b9 xs)
 | .agg cs=>.agg (yy cs)
 | .ptr k o=>.ptr k o
 | .nilp=>.nilp
 |_=>.junk
def yy:List af->List af
 |[]=>[]
 |x::xs=>lE x::yy xs
end
mutual
def yz:af->Prop
 | .slice sz _ xs=>0<sz/\dX xs
 | .agg cs=>Aw cs
 |_=>True
def Aw:List af->Prop
 |[]=>True
 |x::xs=>yz x/\Aw xs
end
def CX(ν:bc):bc:={ν with tr:=fun k j b=>k=ef/\j=0/\∃o,ν.A b o}
mutual
def ab7{w:World}{ν:bc}:∀(p:af) (v:Value),aU w ν p v->yz p->aU w (CX ν) (lE p) v
 | .int k n,v,h,_=>by simpa only[aU,lE]using h
 | .bool b,v,h,_=>by simpa only[aU,lE]using h
 | .str s,v,h,_=>by simpa only[aU,lE]using h
 | .slice sz tag xs,v,h,a=>by have J:=L9 (F:=fun b=> ∃o,ν.A b o) (fun b o h=>⟨o,h⟩) _ v h (by simpa only[cN,yz]using a);simp only[lE];refine YO (μ:=CX ν) (tag:= .no) ?_ (vq xs);simp only[b3]at J;exact wc (fun _ _ h=>⟨h,rfl⟩) (fun _ _ _=>rfl) _ _ _ v (fun b c=>⟨rfl,rfl,c⟩) J
 | .agg cs,v,h,a=>by simp only[aU,lE,yz]at h a⊢;obtain⟨us,J,U⟩:=h;exact⟨us,J,Qx cs _ U a⟩
 | .ptr k o,v,h,_=>by simp only[aU,lE]at h⊢;exact h
 | .nilp,v,h,_=>by simp only[aU,lE]at h⊢;exact h
 | .junk,_,_,_=>by simp[lE,aU]
 | .eptr _,_,_,_=>by simp[lE,aU]
 | .iface _ _,_,_,_=>by simp[lE,aU]
 | .tuple _,_,_,_=>by simp[lE,aU]
 | .func _ _,_,_,_=>by simp[lE,aU]
 | .gmap _,_,_,_=>by simp[lE,aU]
 | .row _ _ _,_,_,_=>by simp[lE,aU]
 | .rptr _ _ _ _ _,_,_,_=>by simp[lE,aU]
 | .hdm _ _,_,_,_=>by simp[lE,aU]
 | .hdi _ _ _,_,_,_=>by simp[lE,aU]
 | .cst _,_,_,_=>by simp[lE,aU]
def Qx{w:World}{ν:bc}:∀(cs:List af) (us:List Value),cW w ν cs us->Aw cs->cW w (CX ν) (yy cs) us
 |[],us,h,_=>by simpa only[cW,yy]using h
 |c::cs,us,h,a=>by simp only[cW,yy,Aw]at h a⊢;obtain⟨u,b,J,⟨U,d⟩,e⟩:=h;exact⟨u,b,J,⟨ab7 c u U a.1,d⟩,Qx cs b e a.2⟩
end
def Ka(l:List (Nat×af)):List (Nat×af):=l.map fun x=>(x.1,lE x.2)
def FY(l:List (aB×List af)):List (aB×List af):=l.map fun x=>(x.1,yy x.2)
def w3(st:bo):bo:=⟨Ka st.t,FY st.b,[],st.n,ef::st.o⟩
def J9:List (Nat×af)->Prop
 |[]=>True
 |(_,p)::r=>yz p/\J9 r
def J8:List (aB×List af)->Prop
 |[]=>True
 |(_,cs)::r=>(gZ cs=true/\Aw cs)/\J8 r
def J7(st:bo):Prop:=ef∉st.o/\J9 st.t/\J8 st.b
def MP{f:af->af}(a:f .junk= .junk)(i:Nat):∀l:List (Nat×af),get i (l.map fun x=>(x.1,f x.2))=f (get i l)
 |[]=>by simp[get,a]
 |(j,p)::r=>by
  simp only[gX,get];split
  ·rfl
  ·exact MP a i r
def IW{f:List af->List af}(k:aB):∀l:List (aB×List af),ae k (l.map fun x=>(x.1,f x.2))=(ae k l).map f
 |[]=>rfl
 |(j,p)::r=>by
  simp only[gX,ae];split
  ·rfl
  ·exact IW k r
def ab6:∀{l:List (Nat×af)} (i:Nat),J9 l->yz (get i l)
 |[],_,_=>by simp[get,yz]
 |(j,p)::r,i,h=>by
  simp only[get];split
  ·exact h.1
  ·exact ab6 i h.2
def ab5:∀{l:List (aB×List af)} {k:aB} {cs:List af},J8 l->ae k l=some cs->gZ cs=true/\Aw cs
 |[],_,_,_,h=>by simp[ae]at h
 |(j,p)::r,k,cs,h,ad=>by
  simp only[ae]at ad;split at ad
  ·cases ad;exact h.1
  ·exact ab5 h.2 ad
def aro{C:fj}{st:bo}{a:Act}{w:World}{ν:bc}(h:c9 C st a w ν)(ay:J7 st):c9 C (w3 st) a w (CX ν):=by
 obtain⟨F,E,A⟩:=ay;obtain⟨x,y,_⟩:=h.new ef ⟨trivial,F⟩;have m:∀k cs,ae k (FY st.b)=some cs->∃c,ae k st.b=some c/\cs=yy c:=fun k cs ad=>by
  rw[FY,IW]at ad;cases s:ae k st.b with
  |none=>rw[s]at ad;cases ad
  |some c=>rw[s]at ad;cases ad;exact⟨c,rfl,rfl⟩
 have l:∀k,(ae k (FY st.b)).isSome->(ae k st.b).isSome:=fun k ad=>by obtain⟨cs,z⟩:=fy.1 ad;obtain⟨c,e,_⟩:=m k cs z;simp[e]
 refine⟨⟨h.good.alt,fun k cs ad=>?_,fun k bs bl J U=>h.good.inj k bs bl (l k J) (l bs U),fun g o bd=>by simp[w3,ae]at bd,fun g M n n' v v' bl bd=>by simp[w3,ae]at bd,fun g k n v bl bd=>by simp[w3,ae]at bd,h.good.one,fun bl H k j d=>?_⟩,
  ⟨h.fr.os,h.fr.tape,h.fr.output,h.fr.size,h.fr.block,h.fr.keep,h.fr.fresh,h.fr.obj,h.fr.obn,h.fr.row,h.fr.obr,fun k j bs dg b J U=>⟨J.1.trans U.1.symm,J.2.1.trans U.2.1.symm⟩,fun k j b d=>⟨.inl d.1,?_⟩,fun k j b d=>by rw[d.1];exact⟨x,y⟩,h.fr.sh⟩,h.defers,h.size,fun i=>?_,fun k ad=>?_⟩
 ·obtain⟨c,f,rfl⟩:=m k cs ad;obtain⟨bl,us,el,g1,g2,g3,g4,g5⟩:=h.good.box k c f;obtain⟨q,B⟩:=ab5 A f;rw[pA q]at g5;rw[pz q]at g4;have g6:=Qx c _ g5 B;have p:=wW g6;exact⟨bl,us,el,g1,g2,g3,by rw[pz p];exact g4,by rw[pA p];exact g6⟩
 ·obtain⟨_,_,o,aq⟩:=d;rcases H with⟨bs,f,t⟩|⟨g,n,v,f,_⟩
  ·obtain⟨c,u⟩:=fy.1 (l bs f);obtain⟨L,us,el,g1,g2,g3,_⟩:=h.good.box bs c u;rw[show(CX ν).bx bs=ν.bx bs from rfl,g1]at t;cases t;exact g3 o aq
  ·simp[w3,ae]at f
 ·obtain⟨_,_,o,aq⟩:=d;exact h.good.alt b o aq
 ·show aU w (CX ν) (get i (Ka st.t)) _;rw[Ka,MP (by simp[lE])];exact ab7 _ _ (h.slot i) (ab6 i E)
 ·obtain⟨K,G⟩:=ad;have r:k≠ef/\k∉st.o:=by simpa[w3]using G
  obtain⟨m1,m2,_⟩:=h.new k ⟨K,r.2⟩;exact⟨m1,m2,fun j b d=>r.1 d.1⟩
end
section
open Go Go.RowKit
def YD{w:World}{A a:Nat->Nat->Prop}{b:Nat}(c:∀o,A b o->a b o):∀(us:List Value) (off:Nat),kZ w A b off us->kZ w a b off us
 |[],_,_=>trivial
 |_::us,off,h=>⟨⟨c _ h.1.1,h.1.2⟩,YD c us (off+1) h.2⟩
mutual
def HF{t:Bool}{w:World}{A f:Nat->Nat->Prop}:∀(p:af) (F:Nat->Prop) (v:Value),(∀b o,F b->A b o->f b o)->c2 t w A F p v->c2 t w f F p v
 | .int k n,_,_,_,h=>by simp only[c2]at h⊢;exact h
 | .bool b,_,_,_,h=>by simp only[c2]at h⊢;exact h
 | .str s,_,_,_,h=>by simp only[c2]at h⊢;exact h
 | .slice sz tag xs,F,v,d,h=>by
  simp only[c2]at h⊢;obtain⟨a,cap,J,U,q,e⟩:=h;refine⟨a,cap,J,U,q,?_⟩;rcases e with e|⟨b,off,us,G,r,i,g,m,l,j⟩
  ·exact .inl e
  ·exact .inr ⟨b,off,us,G,r,i,g,YD (fun o=>d b o i) _ _ m,l,V2 sz xs G us (fun c o ay=>d c o (g c ay).1) j⟩
 | .agg cs,F,v,d,h=>by simp only[c2]at h⊢;obtain⟨us,J,U⟩:=h;exact⟨us,J,V3 cs F _ d U⟩
 | .junk,_,_,_,h=>by simp[c2]at h
 | .ptr _ _,_,_,_,h=>by simp[c2]at h
 | .eptr _,_,_,_,h=>by simp[c2]at h
 | .iface _ _,_,_,_,h=>by simp[c2]at h
 | .nilp,_,_,_,h=>by simp[c2]at h
 | .tuple _,_,_,_,h=>by simp[c2]at h
 | .func _ _,_,_,_,h=>by simp[c2]at h
 | .gmap _,_,_,_,h=>by simp[c2]at h
 | .row _ _ _,_,_,_,h=>by simp[c2]at h
 | .rptr _ _ _ _ _,_,_,_,h=>by simp[c2]at h
 | .hdm _ _,_,_,_,h=>by simp[c2]at h
 | .hdi _ _ _,_,_,_,h=>by simp[c2]at h
 | .cst _,_,_,_,h=>by simp[c2]at h
def V3{t:Bool}{w:World}{A f:Nat->Nat->Prop}:∀(cs:List af) (F:Nat->Prop) (us:List Value),(∀b o,F b->A b o->f b o)->kF t w A F cs us->kF t w f F cs us
 |[],_,_,_,h=>by simp only[kF]at h⊢;exact h
 |c::cs,F,us,g,h=>by simp only[kF]at h⊢;obtain⟨u,i,e,d,J,⟨U,j,n⟩,⟨m,l⟩,k⟩:=h;exact⟨u,i,e,d,J,⟨U,j,n⟩,⟨HF c e u (fun b o a=>g b o (U b a)) m,l⟩,V3 cs d i (fun b o a=>g b o (j b a)) k⟩
def V2{t:Bool}{w:World}{A f:Nat->Nat->Prop}(sz:Nat):∀(cs:List af) (F:Nat->Prop) (us:List Value),(∀b o,F b->A b o->f b o)->jX t w A F sz cs us->jX t w f F sz cs us
 |[],_,_,_,h=>by simp only[jX]at h⊢;exact h
 |c::cs,F,us,g,h=>by simp only[jX]at h⊢;obtain⟨u,i,e,d,J,⟨U,j,n⟩,⟨m,l⟩,k⟩:=h;exact⟨u,i,e,d,J,⟨U,j,n⟩,⟨HF c e u (fun b o a=>g b o (U b a)) m,l⟩,V2 sz cs d i (fun b o a=>g b o (j b a)) k⟩
end
mutual
def jr(N:List (aB×Nat)):af->af
 | .int k n=>.int k n
 | .bool b=>.bool b
 | .str s=>.str s
 | .slice sz tag xs=>match tag with
  | .tr k j=>if(k,j)∈N then .junk else .slice sz (.tr k j) (b9 xs)
  | .lo k=>if(k,0)∈N then .junk else .slice sz (.lo k) (b9 xs)
  | .nil=>.slice sz .nil []
  |_=>match xs with
   |[]=>.slice sz .no []
   |_=>.junk
 | .agg cs=>.agg (nO N cs)
 | .tuple cs=>.tuple (nO N cs)
 | .ptr k o=>.ptr k o
 | .nilp=>.nilp
 |_=>.junk
def nO(N:List (aB×Nat)):List af->List af
 |[]=>[]
 |x::xs=>jr N x::nO N xs
end
def l4(ν:bc)(N:List (aB×Nat))(ω:Nat->Option (Nat×Value)):bc:={A:=fun b o=>ν.A b o/\¬lz ν N b,bx:=ν.bx,ow:=fun k=>match k with| .obj m=>(match ω m with|some x=>some x|none=>ν.ow k)|k=>ν.ow k,tr:=fun k j b=>ν.tr k j b/\(k,j)∉N}
section
variable {w:World} {ν:bc} {N:List (aB×Nat)} {ω:Nat->Option (Nat×Value)} (hM:∀k j bs dg b,ν.tr k j b->ν.tr bs dg b->k=bs/\j=dg)
include hM
theorem acL{k:aB}{j:Nat}(c:(k,j)∉N){b o:Nat}(d:ν.tr k j b)(a:ν.A b o):(l4 ν N ω).A b o:=by refine⟨a,?_⟩;rintro⟨bs,dg,J,U⟩;obtain⟨rfl,rfl⟩:=hM k j bs dg b d U;exact c J
mutual
theorem Lc:∀(p:af) (v:Value),aU w ν p v->aU w (l4 ν N ω) (jr N p) v
 | .int k n,v,h=>by simpa only[aU,jr]using h
 | .bool b,v,h=>by simpa only[aU,jr]using h
 | .str s,v,h=>by simpa only[aU,jr]using h
 | .slice sz tag xs,v,h=>by
  simp only[aU]at h;obtain⟨⟨a,cap,J,U,r,t⟩,q,_,m,l⟩:=h;have i:xs=[]->aU w (l4 ν N ω) (.slice sz .no []) v:=fun e=>by subst e;simp only[aU];exact⟨⟨a,cap,J,U,r,.inl trivial⟩,fun e=>(by cases e),fun _ e=>(by cases e),fun _ _ e=>(by cases e),fun _ e=>(by cases e)⟩
  simp only[jr];cases tag with
  |tr k j=>
   simp only;split
   ·simp[aU]
   ·rename_i d;refine Q5 (tag:= .no) ?_ (vq xs);refine wc (A:=(l4 ν N ω).A) (fun _ _ h=>⟨h,rfl⟩) (fun _ _ _=>rfl) _ (ν.tr k j) _ v (fun b c=>⟨c,d⟩) ?_;exact HF _ _ v (fun b o c f=>acL hM d c f) (D3 .no v (m k j rfl))
  |lo k=>
   simp only;split
   ·simp[aU]
   ·rename_i d;refine YO (tag:= .no) ?_ (vq xs);refine wc (A:=(l4 ν N ω).A) (fun _ _ h=>⟨h,rfl⟩) (fun _ _ _=>rfl) _ (ν.tr k 0) _ v (fun b c=>⟨c,d⟩) ?_;exact HF _ _ v (fun b o c f=>acL hM d c f) (D3 .no v (l k rfl))
  |nil=>have e:=q rfl;subst e;simp only[aU];exact⟨⟨none,0,rfl,Ψ,Ψ,Ψ⟩,Ψ,fun _ e=>(by cases e),fun _ _ e=>(by cases e),fun _ e=>(by cases e)⟩
  |no=>
   simp only;split
   ·exact i rfl
   ·simp[aU]
  |own g=>
   simp only;split
   ·exact i rfl
   ·simp[aU]
 | .agg cs,v,h=>by simp only[aU,jr]at h⊢;obtain⟨us,J,U⟩:=h;exact⟨us,J,Ld cs _ U⟩
 | .tuple cs,v,h=>by simp only[aU,jr]at h⊢;obtain⟨us,J,U⟩:=h;exact⟨us,J,R4 cs _ U⟩
 | .ptr k o,v,h=>by simp only[aU,jr]at h⊢;exact h
 | .nilp,v,h=>by simp only[aU,jr]at h⊢;exact h
 | .junk,_,_=>by simp[jr,aU]
 | .eptr _,_,_=>by simp[jr,aU]
 | .iface _ _,_,_=>by simp[jr,aU]
 | .func _ _,_,_=>by simp[jr,aU]
 | .gmap _,_,_=>by simp[jr,aU]
 | .row _ _ _,_,_=>by simp[jr,aU]
 | .rptr _ _ _ _ _,_,_=>by simp[jr,aU]
 | .hdm _ _,_,_=>by simp[jr,aU]
 | .hdi _ _ _,_,_=>by simp[jr,aU]
 | .cst _,_,_=>by simp[jr,aU]
theorem Ld:∀(cs:List af) (us:List Value),cW w ν cs us->cW w (l4 ν N ω) (nO N cs) us
 |[],us,h=>by simpa only[cW,nO]using h
 |c::cs,us,h=>by simp only[cW,nO]at h⊢;obtain⟨u,a,J,⟨U,b⟩,d⟩:=h;exact⟨u,a,J,⟨Lc c u U,b⟩,Ld cs a d⟩
theorem R4:∀(cs:List af) (us:List Value),cZ w ν cs us->cZ w (l4 ν N ω) (nO N cs) us
 |[],us,h=>by simpa only[cZ,nO]using h
 |c::cs,us,h=>by simp only[cZ,nO]at h⊢;obtain⟨u,a,J,U,b⟩:=h;exact⟨u,a,J,Lc c u U,R4 cs a b⟩
end
end
end
section
open Go Go.RowKit
def s6(N:List (aB×Nat))(l:List (Nat×af)):List (Nat×af):=l.map fun x=>(x.1,jr N x.2)
def sf(N:List (aB×Nat))(l:List (aB×List af)):List (aB×List af):=l.map fun x=>(x.1,nO N x.2)
def Ag:List (aB×List af)->Prop
 |[]=>True
 |(_,cs)::r=>gZ cs=true/\Ag r
def PG:∀{l:List (aB×List af)} {k:aB} {cs:List af},Ag l->ae k l=some cs->gZ cs=true
 |[],_,_,_,h=>by simp[ae]at h
 |(j,p)::r,k,cs,h,ad=>by
  simp only[ae]at ad;split at ad
  ·cases ad;exact h.1
  ·exact PG h.2 ad
def qp(st:bo)(s:Nat):af:=match get s st.t with
 | .ptr k 0=>(match ae k st.b with|some cs=>.agg cs|none=>.junk)
 |p=>p
def Ga(base n:Nat):List aB:=(List.range' base n).map .obj
def rY(st:bo)(p:af)(base:Nat)(ε:Nat->Nat):bo:=⟨s6 (tn p) st.t,sf (tn p) st.b,dS ε base (b3 p),st.n,Ga base (bI (b3 p))++st.o⟩
def rZ(st:bo)(s base:Nat)(ε:Nat->Nat):bo:=match get s st.t with
 | .ptr k 0=>(match ae k st.b with|some cs=>{rY st (.agg cs) base ε with b:=cL k (fL base (b9 cs)) (sf (tn (.agg cs)) st.b)}|none=>rY st .junk base ε)
 |p=>{rY st p base ε with t:=put s (du base (b3 p)) (s6 (tn p) st.t)}
def yH(st:bo)(p:af)(base:Nat):Prop:=fq p/\(tn p).Nodup/\(∀m,.obj m∈st.o->m<base)/\Ag st.b
def Y3{base n:Nat}{k:aB}:k∈Ga base n↔∃m,k= .obj m/\base<=m/\m<base+n:=by simp only[Ga,hc,List.mem_range'_1];exact⟨fun⟨m,h,e⟩=>⟨m,e.symm,h⟩,fun⟨m,e,h⟩=>⟨m,h,e.symm⟩⟩
def aeA(N:List (aB×Nat))(p:af):(match jr N p with| .hdm _ _=>false| .hdi _ _ _=>false|_=>true)=true:=by
 cases p with
 |slice sz tag xs=>
  cases tag with
  |tr k j=>by_cases e:(k,j)∈N<;>simp[jr,e]
  |lo k=>by_cases e:(k,0)∈N<;>simp[jr,e]
  |_=>cases xs<;>rfl
 |_=>rfl
def ap1(N:List (aB×Nat)):∀cs,gZ (nO N cs)=true
 |[]=>rfl
 |c::cs=>by have:=aeA N c;simp only[nO];cases h:jr N c<;>simp_all[gZ]
def aq6{C:fj}{st:bo}{a:Act}{w:World}{ν:bc}(h:c9 C st a w ν){k:aB}{cs cs':List af}(ad:ae k st.b=some cs)(i:gZ cs=true)
  (p:∀bl us el,ν.bx k=some bl->w.heap[bl]? =some (.cells us el)->cW w ν cs us.toList->cW w ν cs' us.toList):c9 C {st with b:=cL k cs' st.b} a w ν:=by
 have d:∀j,(ae j (cL k cs' st.b)).isSome->(ae j st.b).isSome:=fun j c=>by
  rw[jj]at c;split at c
  ·rename_i e;subst e;simp[ad]
  ·exact c
 refine⟨⟨h.good.alt,fun j l c=>?_,fun j dg bl J U=>h.good.inj j dg bl (d j J) (d dg U),h.good.own,h.good.oinj,fun g j n v bl J U=>h.good.obx g j n v bl J (d j U),h.good.one,fun bl o=>h.good.otr bl (o.imp (fun⟨j,m,q⟩=>⟨j,d j m,q⟩) id)⟩,h.fr,h.defers,h.size,h.slot,h.new⟩;rw[jj]at c;split at c
 ·rename_i e;subst e;cases c;obtain⟨bl,us,el,g1,g2,g3,g4,g5⟩:=h.good.box k cs ad;rw[pA i]at g5;rw[pz i]at g4;have g6:=p bl us el g1 g4 g5;have f:=wW g6;exact⟨bl,us,el,g1,g2,g3,by rw[pz f];exact g4,by rw[pA f];exact g6⟩
 ·exact h.good.box j l c
def acK{C:fj}{st:bo}{a:Act}{w:World}{ν:bc}(h:c9 C st a w ν)(bA:∀b o,C.ν0.A b o->b<C.w0.heap.size){p:af}{v:Value}{base:Nat}(bN:aU w ν p v)(ay:yH st p base):
  ∃ε bm,c9 C (rY st p base ε) a w bm/\aU w bm (du base (b3 p)) v/\bm.bx=ν.bx:=by
 obtain⟨bP,cp,di,h5⟩:=ay;obtain⟨ε,ω,E,tr,R⟩:=Q2 (b3 p) _ v base (Pg h.fr.trd p v bN bP cp);have Z:∀m,base<=m->fresh st.n st.o (.obj m):=fun m hm=>⟨trivial,fun ad=>by have:=di m ad;omega⟩;have S:∀m x,ω m=some x->ν.bx (.obj m)=none/\ν.ow (.obj m)=none/\∀j b,¬ν.tr (.obj m) j b:=fun m x hm=>h.new _ (Z m ((E.dom m).1 (by rw[hm];rfl)).1);have z:∀m x,ω m=some x->(l4 ν (tn p) ω).ow (.obj m)=some x:=fun m x hm=>by simp only[l4,hm]
 have hold:∀k n u,ν.ow k=some (n,u)->(l4 ν (tn p) ω).ow k=some (n,u):=fun k n u ad=>by
  cases k with
  |loc m=>exact ad
  |obj m=>
   simp only[l4];cases hm:ω m with
   |none=>exact ad
   |some x=>rw[(S m x hm).2.1]at ad;cases ad
 have G:∀k n u,(l4 ν (tn p) ω).ow k=some (n,u)->ν.ow k=some (n,u)\/ ∃m,k= .obj m/\ω m=some (n,u):=fun k n u ad=>by
  cases k with
  |loc m=>exact .inl ad
  |obj m=>
   simp only[l4]at ad;cases hm:ω m with
   |none=>rw[hm]at ad;exact .inl ad
   |some x=>rw[hm]at ad;exact .inr ⟨m,rfl,by rw[<-ad];exact hm⟩
 have Y:∀bl,lz ν (tn p) bl->C.w0.heap.size<=bl:=fun bl ⟨k,j,d,f⟩=>by have ad:k≠ef:=ZF p bP _ d;exact(h.fr.trb k j bl f).1.resolve_left ad
 have H:∀g o,ae g (dS ε base (b3 p))=some o->∃m,g= .obj m/\base<=m/\m<base+bI (b3 p)/\∃u us,ω m=some (o.n,u)/\w.ownsRow 0 o.el o.sz u o.n us/\∃xs,o.xs=some xs/\xs.length=o.n/\dv w (l4 ν (tn p) ω) o.sz xs us:=fun g o bd=>by
  obtain⟨m,e,K,P⟩:=vf ε _ base g o bd;obtain⟨u,us,r,y,t⟩:=tr (l4 ν (tn p) ω) z g o bd;subst e;refine⟨m,rfl,K,P,u,us,?_,y,t⟩;rcases G _ _ _ r with q|⟨M,q,hq⟩
  ·rw[(h.new _ (Z m K)).2.1]at q;cases q
  ·cases q;exact hq
 have hy:∀k cs,ae k (sf (tn p) st.b)=some cs->∃s,ae k st.b=some s/\cs=nO (tn p) s:=fun k cs ad=>by
  rw[sf,IW]at ad;cases av:ae k st.b with
  |none=>rw[av]at ad;cases ad
  |some s=>rw[av]at ad;cases ad;exact⟨s,rfl,rfl⟩
 have F:∀k,(ae k (sf (tn p) st.b)).isSome->(ae k st.b).isSome:=fun k ad=>by obtain⟨cs,dy⟩:=fy.1 ad;obtain⟨s,e,_⟩:=hy k cs dy;simp[e]
 have W:∀g n v bl,(ae g (dS ε base (b3 p))).isSome->(l4 ν (tn p) ω).ow g=some (n,v)->v.ownBlock=some bl->lz ν (tn p) bl:=fun g n v bl J U B=>by obtain⟨o,aq⟩:=fy.1 J;obtain⟨m,rfl,K,P,u,us,r,y,t⟩:=H g o aq;rw[z m _ r]at U;cases U;obtain⟨A,d,f⟩:=E.blk m _ _ r;rw[B]at d;cases d;exact f
 refine⟨ε,l4 ν (tn p) ω,⟨⟨fun bl o l=>h.good.alt bl o l.1,fun k cs ad=>?_,fun k bs bl J U=>h.good.inj k bs bl (F k J) (F bs U),fun g o bd=>?_,fun g fA n n' v v' bl J U B L Q dh=>?_,fun g k n v bl J U B L Q=>?_,fun k=>?_,fun bl aL k j c=>?_⟩,
  ⟨h.fr.os,h.fr.tape,h.fr.output,h.fr.size,h.fr.block,fun b o l=>⟨⟨(h.fr.keep b o l).1,fun c=>?_⟩,(h.fr.keep b o l).2⟩,fun b o l=>h.fr.fresh b o l.1,h.fr.obj,h.fr.obn,fun m n u hm=>?_,h.fr.obr,fun k j bs dg b J U=>h.fr.trd k j bs dg b J.1 U.1,fun k j b c=>h.fr.trb k j b c.1,fun k j b c=>⟨(h.fr.trn k j b c.1).1,?_⟩,h.fr.sh⟩,h.defers,h.size,fun i=>?_,fun k ad=>?_⟩,R _ z,rfl⟩
 ·obtain⟨s,d,rfl⟩:=hy k cs ad;obtain⟨bl,us,el,g1,g2,g3,g4,g5⟩:=h.good.box k s d;have c4:=PG h5 d;rw[pA c4]at g5;rw[pz c4]at g4;have g6:=Ld (N:=tn p) (ω:=ω) h.fr.trd s _ g5;have hG:=wW g6;exact⟨bl,us,el,g1,g2,fun o l=>g3 o l.1,by rw[pz hG];exact g4,by rw[pA hG];exact g6⟩
 ·obtain⟨m,rfl,K,P,u,us,r,y,xs,t,dn,dI⟩:=H g o bd;obtain⟨bl,d,f⟩:=E.blk m _ _ r;have dA:∀A,u.ownBlock=some A->∀j,¬(l4 ν (tn p) ω).A A j:=fun A c j l=>by rw[d]at c;cases c;exact l.2 f
  exact⟨u,us,z m _ r,y,fun A c=>⟨.inr (by rw[d]at c;cases c;exact Y _ f),fun j l=>absurd l (dA A c j)⟩,fun xs' ab=>by rw[t]at ab;cases ab;exact⟨dn,dI,dA⟩⟩
 ·obtain⟨o,aq⟩:=fy.1 J;obtain⟨o',h6⟩:=fy.1 U;obtain⟨m,rfl,_,_,u,us,r,_⟩:=H g o aq;obtain⟨M,rfl,_,_,eJ,bY,X,_⟩:=H fA o' h6;rw[z m _ r]at B;cases B;rw[z M _ X]at L;cases L;rw[E.inj m M _ _ _ _ bl r X Q dh]
 ·obtain⟨O,V,_,f⟩:=W g n v bl J B L;exact h.good.otr bl (.inl ⟨k,F k U,Q⟩) O V f
 ·rcases h.good.one k with J|J
  ·exact .inl J
  ·cases ad:(l4 ν (tn p) ω).ow k with
   |none=>exact .inr rfl
   |some x=>
    rcases G k x.1 x.2 ad with U|⟨m,rfl,U⟩
    ·rw[J]at U;cases U
    ·exact .inl (S m _ U).1
 ·rcases aL with⟨bs,d,f⟩|⟨g,n,v,d,f,bg⟩
  ·exact h.good.otr bl (.inl ⟨bs,F bs d,f⟩) k j c.1
  ·obtain⟨O,V,f1,f2⟩:=W g n v bl d f bg;obtain⟨rfl,rfl⟩:=h.fr.trd k j O V bl c.1 f2;exact c.2 f1
 ·have:=Y b c;have:=bA b o l;omega
 ·obtain⟨n',eJ,d,f⟩:=h.fr.row m n u hm;exact⟨n',eJ,hold _ _ _ d,f⟩
 ·have e:=(h.fr.trn k j b c.1).2;cases ad:(l4 ν (tn p) ω).ow k with
  |none=>rfl
  |some x=>
   rcases G k x.1 x.2 ad with U|⟨m,rfl,U⟩
   ·rw[e]at U;cases U
   ·exact absurd c.1 ((S m _ U).2.2 j b)
 ·show aU w (l4 ν (tn p) ω) (get i (s6 (tn p) st.t)) _;rw[s6,MP (by simp[jr])];exact Lc h.fr.trd _ _ (h.slot i)
 ·obtain⟨r,y⟩:=ad;have t:k∉Ga base (bI (b3 p))/\k∉st.o:=by simp only[rY,jT,not_or]at y;exact y
  obtain⟨m1,m2,m3⟩:=h.new k ⟨r,t.2⟩;refine⟨m1,?_,fun j b c=>m3 j b c.1⟩;cases ad:(l4 ν (tn p) ω).ow k with
  |none=>rfl
  |some x=>
   rcases G k x.1 x.2 ad with U|⟨m,rfl,U⟩
   ·rw[m2]at U;cases U
   ·exact absurd (Y3.2 ⟨m,rfl,(E.dom m).1 (by rw[U];rfl)⟩) t.1
def asd{C:fj}{st:bo}{a:Act}{w:World}{ν:bc}(h:c9 C st a w ν)(m:∀b o,C.ν0.A b o->b<C.w0.heap.size){s base:Nat}(ay:yH st (qp st s) base):∃ε bm,c9 C (rZ st s base ε) a w bm:=by
 have f:qp st s=get s st.t->∃ε bm,c9 C {rY st (get s st.t) base ε with t:=put s (du base (b3 (get s st.t))) (s6 (tn (get s st.t)) st.t)} a w bm:=fun e=>by rw[e]at ay;obtain⟨ε,bm,j,i,_⟩:=acK h m (h.slot s) ay;exact⟨ε,bm,JR j i⟩
 cases ad:get s st.t with
 |ptr k off=>
  cases off with
  |zero=>
   cases c:ae k st.b with
   |none=>simp only[qp,ad,c]at ay;exact absurd ay.1 (by simp[fq])
   |some cs=>
    have d:qp st s= .agg cs:=by simp only[qp,ad,c]
    have g:∀ε,rZ st s base ε={rY st (.agg cs) base ε with b:=cL k (fL base (b9 cs)) (sf (tn (.agg cs)) st.b)}:=fun ε=>by simp only[rZ,ad,c]
    rw[d]at ay;simp only[g];obtain⟨bl,us,el,g1,g2,g3,g4,g5⟩:=h.good.box k cs c;have l:=PG ay.2.2.2 c;rw[pA l]at g5;rw[pz l]at g4;obtain⟨ε,bm,j,i,q⟩:=acK h m (p:= .agg cs) (v:= .agg us) (by simp only[aU];exact⟨us,rfl,g5⟩) ay;have n:ae k (sf (tn (.agg cs)) st.b)=some (nO (tn (.agg cs)) cs):=by rw[sf,IW,c];rfl
    refine⟨ε,bm,aq6 j n (ap1 _ _) fun z A y f1 f2 _=>?_⟩;rw[q,g1]at f1;cases f1;rw[g4]at f2;cases f2;simp only[du,b3,aU]at i;obtain⟨x,r,u⟩:=i;cases r;exact u
  |succ off=>
   have d:qp st s=get s st.t:=by simp only[qp,ad]
   have g:∀ε,rZ st s base ε={rY st (get s st.t) base ε with t:=put s (du base (b3 (get s st.t))) (s6 (tn (get s st.t)) st.t)}:=fun ε=>by simp only[rZ,ad]
   simp only[g];exact f d
 |_=>
  have d:qp st s=get s st.t:=by simp only[qp,ad]
  have g:∀ε,rZ st s base ε={rY st (get s st.t) base ε with t:=put s (du base (b3 (get s st.t))) (s6 (tn (get s st.t)) st.t)}:=fun ε=>by simp only[rZ,ad]
  simp only[g];exact f d
end
section
open Go Go.RowKit
inductive aY where
 |of (c:C)
 |sq (c:C) (d:aY)
 |sl (d:aY)
 |th (s:Nat) (d:aY)
def p0(P:cG)(ob:List aB):aY->(Exit->bo->Prop)->bo->Prop
 | .of c,Q,st=>de P ob c Q st
 | .sq c d,Q,st=>de P ob c (fun e st'=>match e with| .normal=>p0 P ob d Q st'|e=>Q e st') st
 | .sl d,Q,st=> ∃st',gq ob st st'/\J7 st'/\p0 P ob d Q (w3 st')
 | .th s d,Q,st=> ∃st' base,gq ob st st'/\yH st' (qp st' s) base/\∀ε,p0 P ob d Q (rZ st' s base ε)
def y9(N:Nat)(aS:List (Nat×et)):aY->Code->Bool
 | .of c,code=>hX N aS c code
 | .sq c d,.seq x y=>hX N aS c x&&y9 N aS d y
 | .sl d,code=>y9 N aS d code
 | .th _ d,code=>y9 N aS d code
 |_,_=>false
def Ho{P:cG}(hm:P.follows .mixedOrders=true){aS:List (Nat×et)}(f:hR P aS=true){X:fj}(i:∀b o,X.ν0.A b o->b<X.w0.heap.size):∀(d:aY) (code:Code) (Q:Exit->bo->Prop) (st:bo),y9 X.N aS d code=true->p0 P X.ob d Q st->KN P X code Q st
 | .of c,code,Q,st,aq,he=>pZ hm f c code Q st aq he
 | .sq c d,code,Q,st,aq,he=>by
  cases code<;>try(simp[y9]at aq;done)
  rename_i k l;simp only[y9,cO]at aq;intro a w ν g;refine wp_seq ?_;refine wp_mono (pZ hm f c k _ st aq.1 he a w ν g) fun e bp w' m=>?_;obtain⟨st',bm,j,h⟩:=m;cases e with
  |normal=>exact Ho hm f i d l Q st' aq.2 j bp w' bm h
  |_=>exact⟨st',bm,j,h⟩
 | .sl d,code,Q,st,aq,he=>fun a w ν g=>by obtain⟨st',J,U,n⟩:=he;exact Ho hm f i d code Q _ aq n a w _ (aro (g.weaker J) U)
 | .th s d,code,Q,st,aq,he=>fun a w ν g=>by obtain⟨st',base,hw,J,U⟩:=he;obtain⟨ε,bm,h⟩:=asd (g.weaker hw) i J;exact Ho hm f i d code Q _ aq (U ε) a w bm h
def HB(aS:List (Nat×et))(d:aY)(dL:List bU)(O0:Nat)(fn:Func):Bool:=
 match fn.body with
 |some code=>y9 fn.ntmps aS d code&&qk aS dL fn.results.toList&& !(fn.name== "runtime.NumGoroutine")&&decide (O0<=fn.ntmps)
 |none=>false
def bE.mkD{P:cG}(hm:P.follows .mixedOrders=true){aS:List (Nat×et)}(c:hR P aS=true){f:FuncId}{fn:Func}(q:P.funcs[f]? =some fn){d:aY}{b:List bU}{n:Nat}(a:HB aS d b n fn=true)
  {args:List af} (l:args.length<=n) {s:cT} (h:hP s) {Q:af->cT->Prop} (he:eK args->(∀j cs,ae j s.b=some cs->gZ cs=true->eM cs)->p0 P (cJ s) d (c6 b s Q) ⟨iM 0 args,s.b,s.e,0,cJ s⟩):bE P f args s Q:=by
 unfold HB at a;split at a
 ·rename_i code o;simp only[cO,gn,r4]at a;obtain⟨⟨⟨J,U⟩,m⟩,p⟩:=a;exact bE.ofW c q o m U (kg l p) h fun X g e k r i=>Ho hm c k d code _ _ (by rw[g];exact J) (by rw[e];exact he r i)
 ·cases a
def bT.mkD{P:cG}(hm:P.follows .mixedOrders=true){aS:List (Nat×et)}(e:hR P aS=true){f:FuncId}{fn:Func}(h:P.funcs[f]? =some fn){d:aY}{a:List bU}{n:Nat}(b:HB aS d a n fn=true)
  {args:List af} (c:args.length<=n) {r:af} (g:aA (fun _=>eb) r) (he:eK args->p0 P [] d (bZ a r) ⟨iM 0 args,[],[],0,[]⟩):bT P f args r:=by
 refine bE.mkD hm e h b c q3 fun J _=>?_;rw[<-RJ g];exact he J
def GD(P:cG)(ob:List aB)(d:aY)(Q:Exit->bo->Prop)(e:Exit)(st:bo):Prop:=match e with
 | .normal=>p0 P ob d Q st
 |e=>Q e st
section
variable {P:cG} {ob:List aB} {st:bo} {Q:Exit->bo->Prop} {c:C} {d:aY}
@[simp]def at6:GD P ob d Q .normal st=p0 P ob d Q st:=rfl
@[simp]def at7:GD P ob d Q .ret st=Q .ret st:=rfl
@[simp]def at5{n:Nat}:GD P ob d Q (.exit n) st=Q (.exit n) st:=rfl
@[simp]def au7:p0 P ob (.of c) Q st=de P ob c Q st:=rfl
@[simp]def au8:p0 P ob (.sq c d) Q st=de P ob c (GD P ob d Q) st:=by simp only[p0];congr 1
def agC(st':bo)(hw:gq ob st st')(ay:J7 st')(h:p0 P ob d Q (w3 st')):p0 P ob (.sl d) Q st:=⟨st',hw,ay,h⟩
def Hp{s:Nat}(st':bo)(base:Nat)(hw:gq ob st st')(ay:yH st' (qp st' s) base)(h:∀ε,p0 P ob d Q (rZ st' s base ε)):p0 P ob (.th s d) Q st:=⟨st',base,hw,ay,h⟩
end
end
section
open Go Go.RowKit
def LX:∀(xs ys:List af),da (xs++ys)=da xs+da ys
 |[],ys=>by simp[da]
 |x::xs,ys=>by simp[da,LX xs ys];omega
def Bc:∀(b:Nat) (xs ys:List af),fL b (xs++ys)=fL b xs++fL (b+da xs) ys
 |b,[],ys=>by simp[fL,da]
 |b,x::xs,ys=>by simp[fL,da,Bc _ xs ys,Nat.add_assoc]
def FT(ε:Nat->Nat):∀(b:Nat) (xs ys:List af),gO ε b (xs++ys)=gO ε b xs++gO ε (b+da xs) ys
 |b,[],ys=>by simp[gO,da]
 |b,x::xs,ys=>by simp[gO,da,FT ε _ xs ys,Nat.add_assoc]
mutual
def He(ε:Nat->Nat):∀(p:af) (b m:Nat),b<=m->m<b+bI p->∃o,ae (.obj m) (dS ε b p)=some o
 | .slice sz t (x::xs),b,m,J,U=>by
  simp only[bI]at U;simp only[dS,ae];by_cases e:b=m
  ·subst e;exact⟨_,if_pos rfl⟩
  ·rw[if_neg (by simpa using e),oa];by_cases a:m<b+1+bI x
   ·obtain⟨o,aq⟩:=He ε x (b+1) m Ω a;exact⟨o,by rw[aq]⟩
   ·obtain⟨o,aq⟩:=L4 ε xs (b+1+bI x) m Ω Ω;cases c:ae (.obj m) (dS ε (b+1) x)with
    |some y=>exact⟨y,rfl⟩
    |none=>exact⟨o,aq⟩
 | .agg cs,b,m,J,U=>by simp only[bI,dS]at U⊢;exact L4 ε cs b m J U
 | .slice _ _ [],_,_,J,U=>by simp only[bI]at U;omega
 | .int _ _,_,_,J,U=>by simp only[bI]at U;omega
 | .bool _,_,_,J,U=>by simp only[bI]at U;omega
 | .str _,_,_,J,U=>by simp only[bI]at U;omega
 | .junk,_,_,J,U=>by simp only[bI]at U;omega
 | .ptr _ _,_,_,J,U=>by simp only[bI]at U;omega
 | .eptr _,_,_,J,U=>by simp only[bI]at U;omega
 | .iface _ _,_,_,J,U=>by simp only[bI]at U;omega
 | .nilp,_,_,J,U=>by simp only[bI]at U;omega
 | .tuple _,_,_,J,U=>by simp only[bI]at U;omega
 | .func _ _,_,_,J,U=>by simp only[bI]at U;omega
 | .gmap _,_,_,J,U=>by simp only[bI]at U;omega
 | .row _ _ _,_,_,J,U=>by simp only[bI]at U;omega
 | .rptr _ _ _ _ _,_,_,J,U=>by simp only[bI]at U;omega
 | .hdm _ _,_,_,J,U=>by simp only[bI]at U;omega
 | .hdi _ _ _,_,_,J,U=>by simp only[bI]at U;omega
 | .cst _,_,_,J,U=>by simp only[bI]at U;omega
def L4(ε:Nat->Nat):∀(a:List af) (b m:Nat),b<=m->m<b+da a->∃o,ae (.obj m) (gO ε b a)=some o
 |[],b,m,J,U=>by simp only[da]at U;omega
 |x::xs,b,m,J,U=>by
  simp only[da]at U;simp only[gO];rw[oa];by_cases c:m<b+bI x
  ·obtain⟨o,aq⟩:=He ε x b m J c;exact⟨o,by rw[aq]⟩
  ·obtain⟨o,aq⟩:=L4 ε xs (b+bI x) m Ω Ω;cases d:ae (.obj m) (dS ε b x)with
   |some y=>exact⟨y,rfl⟩
   |none=>exact⟨o,aq⟩
end
def Cf{ε:Nat->Nat}{p:af}{b m:Nat}(h:m<b\/b+bI p<=m):ae (.obj m) (dS ε b p)=none:=by
 cases ad:ae (.obj m) (dS ε b p)with
 |none=>rfl
 |some o=>obtain⟨a,e,c,d⟩:=vf ε p b _ o ad;cases e;omega
def YP{ε:Nat->Nat}{p:List af}{b m:Nat}(h:m<b\/b+da p<=m):ae (.obj m) (gO ε b p)=none:=by
 cases ad:ae (.obj m) (gO ε b p)with
 |none=>rfl
 |some o=>obtain⟨a,e,c,d⟩:=Ce ε p b _ o ad;cases e;omega
def amR{ε:Nat->Nat}{l r:List af}{y:af}{b:Nat}{k:aB}{o:dT}(h:ae k (dS ε (b+da l) y)=some o):ae k (gO ε b (l++y::r))=some o:=by obtain⟨m,rfl,a,c⟩:=vf ε y _ k o h;rw[FT,oa,YP Ω];simp only[gO];rw[oa,h]
def amS{ε:Nat->Nat}{l r:List af}{y y':af}{b:Nat}(ay:bI y'=bI y){k:aB}{o:dT}(h:ae k (gO ε b (l++y'::r))=some o):
  ae k (dS ε (b+da l) y')=some o\/(ae k (dS ε (b+da l) y)=none/\ae k (dS ε (b+da l) y')=none/\ae k (gO ε b (l++y::r))=some o):=by
 obtain⟨m,rfl,c,d⟩:=Ce ε _ _ k o h;simp only[FT,gO,oa,ay]at h⊢;by_cases J:m<b+da l
 ·rw[Cf (p:=y) (.inl J),Cf (p:=y') (.inl J)];refine .inr ⟨rfl,rfl,?_⟩;rw[Cf (p:=y') (.inl J)]at h;exact h
 ·rw[YP (p:=l) (.inr Ω)]at h⊢;by_cases U:m<b+da l+bI y
  ·obtain⟨o',a⟩:=He ε y' (b+da l) m Ω Ω;rw[a]at h⊢;exact .inl h
  ·rw[Cf (p:=y) (.inr Ω),Cf (p:=y') (.inr Ω)];rw[Cf (p:=y') (.inr Ω)]at h;exact .inr ⟨rfl,rfl,h⟩
end
section
open Go Go.RowKit
section
variable (c8:Int->List cV)
mutual
def dJ:af->Int->af×Int
 | .int a _,k=>(.int a k,k+1)
 | .str _,k=>(.str (c8 k),k+1)
 | .slice sz t xs,k=>(.slice sz t (bC xs k).1,(bC xs k).2)
 | .agg cs,k=>(.agg (bC cs k).1,(bC cs k).2)
 |p,k=>(p,k)
def bC:List af->Int->List af×Int
 |[],k=>([],k)
 |x::xs,k=>((dJ x k).1::(bC xs (dJ x k).2).1,(bC xs (dJ x k).2).2)
end
def kK:∀(xs:List af) (k:Int),(bC c8 xs k).1.length=xs.length
 |[],k=>by simp[bC]
 |x::xs,k=>by simp[bC,kK xs]
mutual
def UD:∀(p:af) (k:Int),bI (dJ c8 p k).1=bI p
 | .int _ _,k=>by simp[dJ,bI]
 | .str _,k=>by simp[dJ,bI]
 | .slice _ _ [],k=>by simp[dJ,bC,bI]
 | .slice _ _ (x::xs),k=>by simp[dJ,bC,bI,UD x,mE xs]
 | .agg cs,k=>by simp[dJ,bI,mE cs]
 | .bool _,k=>by simp[dJ]
 | .junk,k=>by simp[dJ]
 | .ptr _ _,k=>by simp[dJ]
 | .eptr _,k=>by simp[dJ]
 | .iface _ _,k=>by simp[dJ]
 | .nilp,k=>by simp[dJ]
 | .tuple _,k=>by simp[dJ]
 | .func _ _,k=>by simp[dJ]
 | .gmap _,k=>by simp[dJ]
 | .row _ _ _,k=>by simp[dJ]
 | .rptr _ _ _ _ _,k=>by simp[dJ]
 | .hdm _ _,k=>by simp[dJ]
 | .hdi _ _ _,k=>by simp[dJ]
 | .cst _,k=>by simp[dJ]
def mE:∀(a:List af) (k:Int),da (bC c8 a k).1=da a
 |[],k=>by simp[bC]
 |x::xs,k=>by simp[bC,da,UD x,mE xs]
end
def I8:∀(xs ys:List af) (k:Int),bC c8 (xs++ys) k=((bC c8 xs k).1++(bC c8 ys (bC c8 xs k).2).1,(bC c8 ys (bC c8 xs k).2).2)
 |[],ys,k=>by simp[bC]
 |x::xs,ys,k=>by simp[bC,I8 xs ys]
mutual
def anr:∀(p:af) (k:Int),k<=(dJ c8 p k).2
 | .int _ _,k=>by simp[dJ];omega
 | .str _,k=>by simp[dJ];omega
 | .slice _ _ xs,k=>by simp only[dJ];exact l0 xs k
 | .agg cs,k=>by simp only[dJ];exact l0 cs k
 | .bool _,k=>by simp[dJ]
 | .junk,k=>by simp[dJ]
 | .ptr _ _,k=>by simp[dJ]
 | .eptr _,k=>by simp[dJ]
 | .iface _ _,k=>by simp[dJ]
 | .nilp,k=>by simp[dJ]
 | .tuple _,k=>by simp[dJ]
 | .func _ _,k=>by simp[dJ]
 | .gmap _,k=>by simp[dJ]
 | .row _ _ _,k=>by simp[dJ]
 | .rptr _ _ _ _ _,k=>by simp[dJ]
 | .hdm _ _,k=>by simp[dJ]
 | .hdi _ _ _,k=>by simp[dJ]
 | .cst _,k=>by simp[dJ]
def l0:∀(a:List af) (k:Int),k<=(bC c8 a k).2
 |[],k=>by simp[bC]
 |x::xs,k=>by have J:=anr x k;have U:=l0 xs (dJ c8 x k).2;simp only[bC];omega
end
end
end
section
open Go Go.RowKit
inductive jC:af->Prop
 |mk (a b:Int) (s:List cV) (ys:List af):(∀y∈ys,jC y)->jC (.agg [.int .i64 a,.int .i64 b,.str s,.slice 4 .no ys])
mutual
def C4:af->Nat
 | .slice _ _ xs=>q9 xs
 | .agg cs=>1+q9 cs
 |_=>0
def q9:List af->Nat
 |[]=>0
 |x::xs=>C4 x+q9 xs
end
def Kp:∀{xs:List af} {x:af},x∈xs->C4 x<=q9 xs
 |y::ys,x,h=>by
  rcases gJ.1 h with rfl|h
  ·simp only[q9];omega
  ·have:=Kp h;simp only[q9];omega
def jC.inv{p:af}(h:jC p):∃a b s ys,p= .agg [.int .i64 a,.int .i64 b,.str s,.slice 4 .no ys]/\(∀y∈ys,jC y)/\C4 p=1+q9 ys:=by
 cases h with
 |mk a b s ys h=>exact⟨a,b,s,ys,rfl,h,by simp[C4,q9]⟩
def FV{ε:Nat->Nat}{p:af}{b:Nat}(k:aB):(ae k (dS ε b p)).isSome=true↔∃m,k= .obj m/\b<=m/\m<b+bI p:=by
 constructor
 ·intro h;obtain⟨o,aq⟩:=fy.1 h;exact vf ε p b k o aq
 ·rintro⟨m,rfl,J,U⟩;obtain⟨o,aq⟩:=He ε p b m J U;rw[aq];rfl
def rng(b c:Nat)(k:aB):Prop:= ∃m,k= .obj m/\b<=m/\m<c
def CV{b c b0 a:Nat}(J:b0<=b)(U:c<=a)(k:aB)(h:rng b c k):rng b0 a k:=by obtain⟨m,e,d,f⟩:=h;exact⟨m,e,Ω,Ω⟩
mutual
def nE:∀(p:af) (b:Nat),cN p->aA (rng b (b+bI p)) (du b p)
 | .slice sz t [],b,h=>by simp[du,aA,aH]
 | .slice sz t (x::xs),b,h=>by simp only[du,aA,bI];exact⟨b,rfl,Ω,Ω⟩
 | .agg cs,b,h=>by simp only[du,aA,bI,cN]at h⊢;exact Ol cs b h
 | .int _ _,_,_=>by simp[du,aA]
 | .bool _,_,_=>by simp[du,aA]
 | .str _,_,_=>by simp[du,aA]
 | .junk,_,h=>by simp[cN]at h
 | .ptr _ _,_,h=>by simp[cN]at h
 | .eptr _,_,h=>by simp[cN]at h
 | .iface _ _,_,h=>by simp[cN]at h
 | .nilp,_,h=>by simp[cN]at h
 | .tuple _,_,h=>by simp[cN]at h
 | .func _ _,_,h=>by simp[cN]at h
 | .gmap _,_,h=>by simp[cN]at h
 | .row _ _ _,_,h=>by simp[cN]at h
 | .rptr _ _ _ _ _,_,h=>by simp[cN]at h
 | .hdm _ _,_,h=>by simp[cN]at h
 | .hdi _ _ _,_,h=>by simp[cN]at h
 | .cst _,_,h=>by simp[cN]at h
def Ol:∀(a:List af) (b:Nat),dX a->aH (rng b (b+da a)) (fL b a)
 |[],b,h=>by simp[fL,aH]
 |x::xs,b,h=>by simp only[dX]at h;simp only[fL,aH,da];exact⟨tO (CV Ω Ω) _ (nE x b h.1),ji (CV Ω Ω) _ (Ol xs _ h.2)⟩
end
def E2{S T:aB->Prop}(h:∀k,S k->T k){o:dT}(ad:dW S o):dW T o:=fun xs a=>ji h _ (ad xs a)
mutual
def Ov{ε:Nat->Nat}:∀(p:af) (b:Nat),cN p->∀k o,ae k (dS ε b p)=some o->dW (rng b (b+bI p)) o
 | .slice sz t (x::xs),b,h,k,o,ad=>by
  simp only[cN]at h;simp only[dS,ae]at ad;simp only[bI];split at ad
  ·cases ad;intro ys a;cases a;have:=Ol (x::xs) (b+1) h.2;simp only[da,fL]at this;exact ji (CV Ω Ω) _ this
  ·have:=Ou (ε:=ε) (x::xs) (b+1) h.2 k o (by simpa only[gO]using ad);simp only[da]at this;exact E2 (CV Ω Ω) this
 | .agg cs,b,h,k,o,ad=>by simp only[dS,bI,cN]at h ad⊢;exact Ou cs b h k o ad
 | .slice _ _ [],_,_,_,_,h=>by simp[dS,ae]at h
 | .int _ _,_,_,_,_,h=>by simp[dS,ae]at h
 | .bool _,_,_,_,_,h=>by simp[dS,ae]at h
 | .str _,_,_,_,_,h=>by simp[dS,ae]at h
 | .junk,_,h,_,_,_=>by simp[cN]at h
 | .ptr _ _,_,h,_,_,_=>by simp[cN]at h
 | .eptr _,_,h,_,_,_=>by simp[cN]at h
 | .iface _ _,_,h,_,_,_=>by simp[cN]at h
 | .nilp,_,h,_,_,_=>by simp[cN]at h
 | .tuple _,_,h,_,_,_=>by simp[cN]at h
 | .func _ _,_,h,_,_,_=>by simp[cN]at h
 | .gmap _,_,h,_,_,_=>by simp[cN]at h
 | .row _ _ _,_,h,_,_,_=>by simp[cN]at h
 | .rptr _ _ _ _ _,_,h,_,_,_=>by simp[cN]at h
 | .hdm _ _,_,h,_,_,_=>by simp[cN]at h
 | .hdi _ _ _,_,h,_,_,_=>by simp[cN]at h
 | .cst _,_,h,_,_,_=>by simp[cN]at h
def Ou{ε:Nat->Nat}:∀(a:List af) (b:Nat),dX a->∀k o,ae k (gO ε b a)=some o->dW (rng b (b+da a)) o
 |[],b,h,k,o,ad=>by simp[gO,ae]at ad
 |x::xs,b,h,k,o,ad=>by
  simp only[dX]at h;simp only[gO,oa]at ad;simp only[da];cases J:ae k (dS ε b x)with
  |some y=>rw[J]at ad;cases ad;exact E2 (CV Ω Ω) (Ov x b h.1 k _ J)
  |none=>rw[J]at ad;exact E2 (CV Ω Ω) (Ou xs _ h.2 k _ ad)
end
abbrev c3(ε:Nat->Nat)(b:Nat)(p:af):cT:=⟨[],dS ε b p⟩
def Ds{ε:Nat->Nat}{b:Nat}{p:af}(k:aB):aM (c3 ε b p) k↔rng b (b+bI p) k:=by unfold aM rng;rw[FV];simp[ae]
def KZ(ε:Nat->Nat)(b:Nat)(p:af):hP (c3 ε b p):=by
 refine⟨fun m=>by simp[ae],fun m=>?_⟩;cases h:ae (.loc m) (dS ε b p)with
 |none=>rfl
 |some o=>obtain⟨a,e,_⟩:=vf ε p b _ o h;cases e
def oA{ε:Nat->Nat}{b:Nat}{p:af}(h:cN p):ey (c3 ε b p):=⟨KZ ε b p,fun k cs ad=>by simp[ae]at ad,fun k o ad=>E2 (fun k ad=>(Ds k).2 ad) (Ov p b h k o ad)⟩
def o7{ε:Nat->Nat}{b:Nat}{p q:af}(h:bI q=bI p):Same (c3 ε b p) (c3 ε b q):=⟨fun k=>rfl,fun k=>by rw[rf,FV,FV,h]⟩
def aea{ε:Nat->Nat}{b:Nat}{p:af}(h:cN p):aA (aM (c3 ε b p)) (du b p):=tO (fun k ad=>(Ds k).2 ad) _ (nE p b h)
def ad9{ε:Nat->Nat}{b:Nat}{p:af}{k:aB}:k∈cJ (c3 ε b p)↔rng b (b+bI p) k:=by rw[<-Ds (ε:=ε)];exact⟨N1,fun h=>rR h⟩
def CallDo.sub{P:cG}{n:Nat}{args:List af}{st:bo}{d:Option Nat}{K:bo->Prop}{ε:Nat->Nat}{b:Nat}{l r:List af}{y y' f:af}(s:cN y)(ay:bI y'=bI y)
  (t:bE P n args (c3 ε (b+da l) y) fun g i=>g=f/\i=c3 ε (b+da l) y')
  (he:∀k o,ae k (gO ε b (l++y::r))=some o->ae k st.e=some o) (ad:aH (rng (b+da l) (b+da l+bI y)) args)
  (h:∀a,(∀k o,ae k (gO ε b (l++y'::r))=some o->ae k a=some o)->(∀k,¬rng (b+da l) (b+da l+bI y) k->ae k a=ae k st.e)->K ⟨e9 d f st.t,st.b,a,st.n,st.o++cJ (c3 ε (b+da l) y')⟩):CallDo P n args st d K:=by
 refine CallDo.ob t (oA s) (fun k cs ad=>by simp[ae]at ad) (fun k o ad=>he k o (amR ad)) (ji (fun k ad=>(Ds k).2 ad) _ ad) ?_;rintro g i ⟨rfl,rfl⟩;refine⟨o7 ay,?_⟩;simp only[Dh,List.append_nil];refine h _ (fun k o ad=>?_) fun k ad=>?_
 ·rw[oa,tQ];rcases amS ay ad with J|⟨J,U,q⟩
  ·have:(ae k (dS ε (b+da l) y)).isSome=true:=by have:=FV (ε:=ε) (p:=y') (b:=b+da l) k;rw[FV,<-ay,<-this,J];rfl
   rw[this];simp[J]
  ·rw[J];simp[he k o q]
 ·have J:ae k (dS ε (b+da l) y)=none:=by
   cases c:ae k (dS ε (b+da l) y)with
   |none=>rfl
   |some o=>exact absurd (vf ε y _ k o c) ad
  have U:ae k (dS ε (b+da l) y')=none:=by
   cases c:ae k (dS ε (b+da l) y')with
   |none=>rfl
   |some o=>obtain⟨m,e,j,u⟩:=vf ε y' _ k o c;exact absurd ⟨m,e,j,Ω⟩ ad
  rw[oa,tQ,J,U];simp;cases ae k st.e<;>rfl
def fY.val{P:cG}{f:FuncId}{args:List af}{r:Nat->af}(h:fY P f args r)(ad:aA (fun _=>eb) (b3 (r 0)):=by simp[b3,aA,aH]):bT P f args (b3 (r 0)):=by
 intro w ν bk J U B;have hm:∀(e:Ending) (w':World),(∃v d a bm,e= .returned v/\(d=r 0/\a=⟨[],[]⟩)/\aU w' bm d v/\Good (fun bl=>ft ν ⟨[],[]⟩ bl\/w.heap.size<=bl) w' bm a.b a.e/\Bh (some 0) bm a/\hP a/\o3 ⟨w,ν,ft ν ⟨[],[]⟩,0,cJ ⟨[],[]⟩⟩ w' bm)->
   (∃v d a bm,e= .returned v/\(d=b3 (r 0)/\a=⟨[],[]⟩)/\aU w' bm d v/\Good (fun bl=>ft ν ⟨[],[]⟩ bl\/w.heap.size<=bl) w' bm a.b a.e/\pf bm a/\hP a/\o3 ⟨w,ν,ft ν ⟨[],[]⟩,0,cJ ⟨[],[]⟩⟩ w' bm):=by
  rintro e w' ⟨v,d,a,bm,t,⟨rfl,rfl⟩,a3,a4,a5,A,c⟩;have q:∀k,ν.bx k=none:=fun k=>(U k).1 rfl;have s:∀k,ν.ow k=none:=fun k=>(U k).2.1 rfl;refine⟨v,_,⟨[],[]⟩,bm.cut fun _=>eb,t,⟨rfl,rfl⟩,kL (ov.cut _ w' bm) _ _ ad (lC _ v a3),a4.cut (fun k cs i=>by simp[ae]at i) (fun k o i=>by simp[ae]at i) (fun bl y _=>y),fun k=>?_,q3,
   ⟨c.os,c.tape,c.output,c.size,c.block,c.keep,c.fresh,fun n b g=>?_,c.obn,fun m n u hm=>?_,c.obr,fun k j bs dg b l _=>l.1.elim,fun k j b g=>g.1.elim,fun k j b g=>g.1.elim,c.sh⟩⟩
  ·obtain⟨l,z,x⟩:=bc.cut_no (ν:=bm) (S:=fun _=>eb) (k:=k) (fun h=>h);exact⟨fun _=>l,fun _=>z,x⟩
  ·rw[q]at g;cases g
  ·rw[s]at hm;cases hm
 rcases h 0 w ν bk J U B with⟨p,ay⟩|⟨v,w',ay,E⟩
 ·exact .inl ⟨p,ay.mono hm⟩
 ·exact .inr ⟨v,w',ay,hm _ _ E⟩
def j1{α:Type}(f:α->Nat->af)(l:List (α×Nat)):List af:=l.map fun p=>f p.1 p.2
@[simp]def axh{α:Type}(f:α->Nat->af):j1 f []=[]:=rfl
@[simp]def axg{α:Type}(f:α->Nat->af)(l:List (α×Nat)):(j1 f l).length=l.length:=by simp[j1]
@[simp]def axi{α:Type}(f:α->Nat->af)(l:List (α×Nat))(x:α)(n:Nat):j1 f (l++[(x,n)])=j1 f l++[f x n]:=by simp[j1]
def Cu(n:Nat):aB.loc n≠ef:=fun e=>by unfold ef at e;cases e
structure rl {α:Type} (n:Nat) (l:List (α×Nat)):Prop where
 nd:(l.map (·.2)).Nodup
 lt:∀p∈l,p.2<n
def rl.nil{α:Type}(n:Nat):rl n ([]:List (α×Nat)):=⟨Ψ,Ψ⟩
def rl.snoc{α:Type}{n m n':Nat}{l:List (α×Nat)}(h:rl n l)(x:α)(J:n<=m)(U:m<n'):rl n' (l++[(x,m)]):=by
 refine⟨?_,fun p c=>?_⟩
 ·rw[List.map_append,r7];refine⟨h.nd,Ψ,fun a f b d e=>?_⟩;simp at d;subst d;obtain⟨p,c,rfl⟩:=hc.1 f;have:=h.lt p c;omega
 ·rcases jT.1 c with c|c
  ·have:=h.lt p c;omega
  ·simp at c;subst c;exact U
structure nM {α:Type} (f:α->Nat->af) (g:α->af):Prop where
 tn:∀x n,tn (f x n)=[(.loc n,0)]
 ok:∀x n,fq (f x n)
 st:∀x n,b3 (f x n)=g x
 ki:∀(S:aB->Prop) x n,S (.loc n)->aA S (f x n)
def nM.tnL{α:Type}{f:α->Nat->af}{g:α->af}(h:nM f g):∀(l:List (α×Nat)),Pv.tnL (j1 f l)=(l.map (·.2)).map fun m=>(aB.loc m,0)
 |[]=>by simp[j1,Pv.tnL]
 |x::l=>by have:=h.tnL l;unfold j1 at this;simp[j1,Pv.tnL,h.tn,this]
def nM.nodup{α:Type}{f:α->Nat->af}{g:α->af}(h:nM f g){n:Nat}{l:List (α×Nat)}(d:rl n l):(Pv.tnL (j1 f l)).Nodup:=by rw[h.tnL];refine ayN _ (fun a b c e=>c ?_) d.nd;simpa using e
def nM.okL{α:Type}{f:α->Nat->af}{g:α->af}(h:nM f g):∀(l:List (α×Nat)),fW (j1 f l)
 |[]=>by simp[j1,fW]
 |x::l=>by have:=h.okL l;unfold j1 at this;simp[j1,fW,h.ok,this]
def nM.stL{α:Type}{f:α->Nat->af}{g:α->af}(h:nM f g):∀(l:List (α×Nat)),b9 (j1 f l)=(l.map (·.1)).map g
 |[]=>by simp[j1,b9]
 |x::l=>by have:=h.stL l;unfold j1 at this;simp[j1,b9,h.st,this]
def nM.kiL{α:Type}{f:α->Nat->af}{g:α->af}(h:nM f g){S:aB->Prop}:∀(l:List (α×Nat)),(∀p∈l,S (.loc p.2))->aH S (j1 f l)
 |[],_=>by simp[j1,aH]
 |x::l,dE=>by have:=h.kiL l fun p a=>dE p (by simp[a]);unfold j1 at this;simp only[j1,gX,aH];exact⟨h.ki S x.1 x.2 (dE x Ψ),this⟩
def nM.kin{α:Type}{f:α->Nat->af}{g:α->af}(h:nM f g){n m:Nat}{l:List (α×Nat)}(b:rl n l)(hm:n<=m)(o:List aB):aH (fun k=> ¬fresh m o k) (j1 f l)=True:=h1 (h.kiL l fun p a c=>by have J:=b.lt p a;have U:m<=p.2:=c.1;omega)
def Fo{α:Type}{f:α->af}(h:∀x,fq (f x)):∀l:List α,fW (l.map f)
 |[]=>trivial
 |x::l=>⟨h x,Fo h l⟩
def Kt{α:Type}{f:α->af}(h:∀x,tn (f x)=[]):∀l:List α,tnL (l.map f)=[]
 |[]=>rfl
 |x::l=>by simp[tnL,h x,Kt h l]
def L7:∀(a b:List af),dX (a++b)↔dX a/\dX b
 |[],b=>by simp[dX]
 |x::a,b=>by simp[dX,L7 a b,and_assoc]
mutual
def UU(c8:Int->List cV):∀(p:af) (k:Int),cN p->cN (dJ c8 p k).1
 | .int _ _,_,_=>by simp[dJ,cN]
 | .bool _,_,_=>by simp[dJ,cN]
 | .str _,_,_=>by simp[dJ,cN]
 | .slice sz _ xs,k,h=>by simp only[dJ,cN]at h⊢;exact⟨h.1,rq c8 xs k h.2⟩
 | .agg cs,k,h=>by simp only[dJ,cN]at h⊢;exact rq c8 cs k h
 | .junk,_,h=>by simp[cN]at h
 | .ptr _ _,_,h=>by simp[cN]at h
 | .eptr _,_,h=>by simp[cN]at h
 | .iface _ _,_,h=>by simp[cN]at h
 | .nilp,_,h=>by simp[cN]at h
 | .tuple _,_,h=>by simp[cN]at h
 | .func _ _,_,h=>by simp[cN]at h
 | .gmap _,_,h=>by simp[cN]at h
 | .row _ _ _,_,h=>by simp[cN]at h
 | .rptr _ _ _ _ _,_,h=>by simp[cN]at h
 | .hdm _ _,_,h=>by simp[cN]at h
 | .hdi _ _ _,_,h=>by simp[cN]at h
 | .cst _,_,h=>by simp[cN]at h
def rq(c8:Int->List cV):∀(a:List af) (k:Int),dX a->dX (bC c8 a k).1
 |[],k,h=>by simp[bC,dX]
 |x::xs,k,h=>by simp only[bC,dX]at h⊢;exact⟨UU c8 x k h.1,rq c8 xs _ h.2⟩
end
end
end Go.Pv
namespace Go.Proofs.YtahlgcidhnjlbaaGreat
section
open Go Go.Pv
def q6(o:Option (List bJ)):af:= .tuple [b5 ((o.getD []).map bJ.e),.bool o.isSome]
@[simp]def awE(S:aB->Prop)(o:Option (List bJ)):aA S (q6 o)=True:=by simp[q6]
def ac1{l:List bJ}(h:jN l):bT au 87 [b5 (l.map bJ.e)] (.bool true):=by have:=ac0 l;simpa only[h,decide_true]using this
def AF{t:T}(h:t.fit=true):bT au 64 [t.e] (.bool true):=by have:=asA t;rwa[h]at this
@[simp]def axm(l:List bJ):fW (l.map bJ.e)=True:=h1 (Fo (f:=bJ.e) (fun _=>⟨trivial,trivial,trivial⟩) l)
@[simp]def ayy(l:List bJ):tnL (l.map bJ.e)=[]:=Kt (f:=bJ.e) (fun _=>rfl) l
def og(o:Option (List bJ))(κ:Nat):af:= .tuple [.slice 2 (.tr (.loc κ) 0) ((o.getD []).map bJ.e),.bool o.isSome]
def anI{s:List Bd}(G:e3 s){l:List bJ}(F:jN l)(t:T)(Y:t.fit=true)(k:Int):
  fY au 118 [bH (s.map Bd.e),b5 (l.map bJ.e),t.e,aj k] (og (if(k=2\/k=3)/\(t.ap (cR s)).size<=5000 then k7 l (t.ap (cR s)) k else none)):=by
 have oK:=tM F;have d:=qs G;have g:=AF Y;have f:=ac1 F;have c:=KE s t G.len G.sol.asc G.fit;generalize ab:t.ap (cR s)=x at c⊢;generalize u:(if(k=2\/k=3)/\x.size<=5000 then k7 l x k else none)=O;by_cases ad:k=2\/k=3;rotate_left
 ·have E:(k !=2)=true:=by simp;omega
  have W:(k !=3)=true:=by simp;omega
  rw[if_neg (fun h=>ad h.1)]at u;rw[<-u];refine fY.mk mixed a6 Tryz.func118 Fp Ψ fun K κ=>?_;unfold A0;simp;(repeat' first|refine al ?_|refine aO d ?_|refine aP d ?_|refine aO g ?_|refine aP g ?_|refine aO f ?_|refine aP f ?_|simp[E,W]);(refine h3.val Ψ ?_;simp[ba,be,a1,fb,hp,eD,gS,eh,gI,tnL,tn,fq,fW,fold,hE,hC,iJ,ae,ef,b9,b3]);simp[og]
 by_cases z:x.size<=5000;rotate_left
 ·rw[if_neg (fun h=>z h.2)]at u;rw[<-u];rw[if_neg z,mz z]at c;refine fY.mk mixed a6 Tryz.func118 Fp Ψ fun K κ=>?_;unfold A0;simp;rcases ad with rfl|rfl;all_goals(repeat' first|refine al ?_|refine aO d ?_|refine aP d ?_|refine aO g ?_|refine aP g ?_|refine aO f ?_|refine aP f ?_|refine aO c ?_|refine aP c ?_|simp)
  all_goals(refine h3.val Ψ ?_;simp[ba,be,a1,fb,hp,eD,gS,eh,gI,tnL,tn,fq,fW,fold,hE,hC,iJ,ae,ef,b9,b3])
  all_goals simp[og]
 rw[if_pos ⟨ad,z⟩]at u;rw[if_pos z,lK z]at c;have Z:(k !=2)=true->(k !=3)=false:=fun h=>by simp at h⊢;omega
 have Q:((k !=2)=false/\(k !=2)=false)\/((k !=2)=true/\(k !=3)=false):=by
  rcases ad with rfl|rfl
  ·left;exact⟨rfl,rfl⟩
  ·right;exact⟨rfl,rfl⟩
 clear Z;by_cases P:∃n,x= .var n
 ·obtain⟨n,rfl⟩:=P;have a:O=match nD l n with|some bs=>if bs=k then some l else none|none=>some (nB ⟨n,k⟩ l):=by rw[<-u];rfl
  refine fY.mk mixed a6 Tryz.func118 Fp Ψ fun K κ=>?_;unfold A0;simp;rcases Q with⟨q,p⟩|⟨q,p⟩;all_goals
   (repeat' first|refine al ?_|refine aO d ?_|refine aP d ?_|refine aO g ?_|refine aP g ?_|refine aO f ?_|refine aP f ?_|refine aO c ?_|refine aP c ?_|simp[q,p])
   refine e1 [3,10,12,55,56] (fun i (_:Unit)=>[(57,aj i)]) l.length (fun i _=> ∀j y,j<i->l[j]? =some y->y.v≠n) () cb (fun j y H=>Ω) (fun _ H _=>?_) (fun i _ hi H _=>?_)
   ·have bd:nD l n=none:=E1.2 fun y A=>by obtain⟨m,hm,e⟩:=pM A;exact H m y hm (by rw[ck hm,e])
    rw[bd]at a
    simp only at a
    simp
    (repeat' first|refine al ?_|simp)
    all_goals try refine⟨by unfold lim;omega,?_⟩
    have key:=ajT (l++[⟨n,k⟩]) d6
    have N:=KU (l++[⟨n,k⟩])
    have hlen:(l++[(⟨n,k⟩:bJ)]).length=l.length+1:=Ψ
    unfold yW eC at key N
    rw[hlen,List.map_append,gX,o2]at key N
    refine CallDo.ob key N aX aX (by simp[aM,ae]) ?_
    rintro r ak ⟨rfl,X,rfl,J,U⟩
    have V:X=nB ⟨n,k⟩ l:=ams (J.trans ((List.perm_append_comm (l₁:=l) (l₂:=[⟨n,k⟩])).trans (XQ ⟨n,k⟩ l).symm)) (N6 F.asc (E1.1 bd)) U
    subst V
    refine⟨Same.keys Ψ Ψ,?_⟩
    rw[a]
    simp[cH]
    (repeat' first|refine al ?_|simp)
    (refine h3.val Ψ ?_;simp[ba,be,a1,fb,hp,eD,gS,eh,gI,tnL,tn,fq,fW,fold,hE,hC,iJ,ae,ef,b9,b3])
    simp[og]
   ·obtain⟨b,S,w⟩:=eV hi
    by_cases o:b.v=n
    ·have bd:nD l n=some b.k:=by rw[<-o];exact Oi F.asc (fx S)
     rw[bd]at a
     simp only at a
     by_cases v:b.k=k
     ·rw[if_pos v]at a
      rw[a]
      have R:(b.k !=k)=false:=by simp[v]
      have B:(b.v==n)=true:=by simp[o]
      simp[hi,w]
      (repeat' first|refine al ?_|simp[w,hi,R,B,v,o])
      (refine h3.val Ψ ?_;simp[ba,be,a1,fb,hp,eD,gS,eh,gI,tnL,tn,fq,fW,fold,hE,hC,iJ,ae,ef,b9,b3])
      simp[og]
     ·rw[if_neg v]at a
      rw[a]
      have R:(b.k !=k)=true:=by simp[v]
      have B:(b.v==n)=true:=by simp[o]
      simp[hi,w]
      (repeat' first|refine al ?_|simp[w,hi,R,B,v,o])
      (refine h3.val Ψ ?_;simp[ba,be,a1,fb,hp,eD,gS,eh,gI,tnL,tn,fq,fW,fold,hE,hC,iJ,ae,ef,b9,b3])
      simp[og]
    ·have B:(b.v==n)=false:=by simp[o]
     simp[hi,w]
     (repeat' first|refine al ?_|simp[w,hi,B,o])
     exact bX.rng () hi (fun j y ko A=>by
      rcases(by omega:j<i\/j=i)with h|rfl
      ·exact H j y h A
      ·rw[S]at A;cases A;exact o) cb
 ·have E:(x.kind !=1)=true:=by cases x<;>first|rfl|exact absurd ⟨_,rfl⟩ P
  have a:O=if x.kind=k then some l else none:=by rw[<-u];cases x<;>first|rfl|exact absurd ⟨_,rfl⟩ P
  by_cases L:x.kind=k
  ·rw[if_pos L]at a;rw[a];refine fY.mk mixed a6 Tryz.func118 Fp Ψ fun K κ=>?_;unfold A0;simp;have M:(x.kind !=k)=false:=by simp[L]
   rcases Q with⟨q,p⟩|⟨q,p⟩;all_goals(repeat' first|refine al ?_|refine aO d ?_|refine aP d ?_|refine aO g ?_|refine aP g ?_|refine aO f ?_|refine aP f ?_|refine aO c ?_|refine aP c ?_|simp[q,p,E,M])
   all_goals(refine h3.val Ψ ?_;simp[ba,be,a1,fb,hp,eD,gS,eh,gI,tnL,tn,fq,fW,fold,hE,hC,iJ,ae,ef,b9,b3])
   all_goals simp[og]
  ·rw[if_neg L]at a;rw[a];refine fY.mk mixed a6 Tryz.func118 Fp Ψ fun K κ=>?_;unfold A0;simp;have M:(x.kind !=k)=true:=by simp[L]
   rcases Q with⟨q,p⟩|⟨q,p⟩;all_goals(repeat' first|refine al ?_|refine aO d ?_|refine aP d ?_|refine aO g ?_|refine aP g ?_|refine aO f ?_|refine aP f ?_|refine aO c ?_|refine aP c ?_|simp[q,p,E,M])
   all_goals(refine h3.val Ψ ?_;simp[ba,be,a1,fb,hp,eD,gS,eh,gI,tnL,tn,fq,fW,fold,hE,hC,iJ,ae,ef,b9,b3])
   all_goals simp[og]
def j3(o:Option (List bn)):af:= .tuple [b5 ((o.getD []).map bn.e),.bool o.isSome]
@[simp]def awG(S:aB->Prop)(o:Option (List bn)):aA S (j3 o)=True:=by simp[j3]
def ac3{l:List bn}(h:iT l):bT au 88 [b5 (l.map bn.e)] (.bool true):=by have:=ac2 l;simpa only[h,decide_true]using this
def ass{s:List cV}(h:kt s=true):bT au 160 [.str s] (.bool true):=by have:=vu s;rwa[h]at this
def E8(l:List bn):List af:=l.flatMap fun m=>[m.e,.bool true]
def YU(l:List bn):ps l= .hdm l.length (List.range l.length)::E8 l:=rfl
def ON(b:Nat):∀(n:Nat) (l:List bn),oc b (List.range' n l.length) (E8 l)=(if n<=b then(l[b-n]?).map fun x=>.tuple [x.e,.bool true]else none)
 |n,[]=>by simp[oc,E8]
 |n,x::r=>by
  have e:E8 (x::r)=x.e:: .bool true::E8 r:=rfl;simp only[mZ,List.range'_succ,e,oc];by_cases h:n=b
  ·subst h;simp
  ·rw[if_neg h,ON b (n+1) r];by_cases U:n<=b
   ·rw[if_pos U,if_pos Ω];have:b-n=(b-(n+1))+1:=Ω
    rw[this];simp
   ·rw[if_neg U,if_neg Ω]
@[simp]def axt(l:List bn):gZ (ps l)=false:=rfl
@[simp]def axz(m:aB)(l:List bn):Am m (ps l)=some (cd l.length [] m):=rfl
def am7(f:aB->Option (List af))(gk mk:aB)(n:Nat)(seen:List Nat)(b:Nat)(l:List bn)(x:bn)(hi:f gk=some (cd n (seen++[b]) mk))(hm:f mk=some (ps l))(a:n=l.length)(c:l[b]? =some x):qZ f (.ptr gk 0)=some (True,.tuple [x.e,.bool true]):=by subst a;simp only[Y5,hi,hm,cd,YU,List.getLast?_append,List.getLast?_singleton,Option.some_or,List.range_eq_range',ON,Nat.zero_le,if_true,Nat.sub_zero,Option.map_map];simp[c]
def af1{st:bo}{d:Nat}{K:bo->Prop}{gk mk:aB}{n:Nat}{seen:List Nat}{l:List bn}(hi:ae gk st.b=some (cd n seen mk))(hm:ae mk st.b=some (ps l))(f:n=l.length)
  (J:(∀b,b<l.length->b∈seen)->K {st with t:=Pv.put d (.tuple [.bool false]) st.t}) (U:∀b x,l[b]? =some x->b∉seen->K {st with t:=Pv.put d (.tuple [.bool true,x.e,.bool true]) st.t,b:=cL gk (cd n (seen++[b]) mk) st.b}):
  uL st d (.ptr gk 0) K:=by
 subst f;simp only[uL,hi,cd,hm,YU,O1,and_self,true_and];refine⟨fun h=>J fun b c=>h b (by simpa using c),fun b k v a c=>?_⟩;rw[List.range_eq_range',ON]at a;simp only[Nat.zero_le,if_true,Nat.sub_zero,ht,af.tuple.injEq,r5,jb]at a;obtain⟨x,g,i,e⟩:=a;subst i e;exact U b x g c
def am2{m x:bn}{l:List bn}:x∈mc m l↔x=m\/x∈l:=by
 unfold mc;split
 ·constructor
  ·exact .inr
  ·rintro(rfl|h)<;>assumption
 ·simp[or_comm]
def ael{m:bn}{l:List bn}(h:l.Nodup):(mc m l).Nodup:=by
 unfold mc;split
 ·exact h
 ·rw[r7];exact⟨h,Ψ,fun a d b c=>by simp at c;subst c;intro e;subst e;contradiction⟩
def aek(m:bn)(l:List bn):(mc m l).length<=l.length+1:=by unfold mc;split<;>simp
def aiX(s:List cV)(t:T):∀l:List bn,(t.fold (fun v l=>mc ⟨v,s⟩ l) l).length<=l.length+t.size:=by
 induction t with
 |var n=>intro l;simp only[T.fold,T.size];exact aek _ _
 |pair a b d c=>intro l;simp only[T.fold,T.size];have:=d l;have:=c (a.fold (fun v l=>mc ⟨v,s⟩ l) l);omega
 |_=>intro l;simp[T.fold,T.size]
def aiY(s:List cV)(t:T):∀{l:List bn},l.Nodup->(t.fold (fun v l=>mc ⟨v,s⟩ l) l).Nodup:=by
 induction t with
 |var n=>intro l h;exact ael h
 |pair a b d c=>intro l h;exact c (d h)
 |_=>intro l h;exact h
def am3(s:List cV)(t:T)(x:bn):∀{l:List bn},x∈t.fold (fun v l=>mc ⟨v,s⟩ l) l↔x∈l\/(x.s=s/\t.occ x.v=true):=by
 induction t with
 |var n=>
  intro l;simp only[T.fold,am2,T.occ,eA];constructor
  ·rintro(rfl|h)
   ·exact .inr ⟨rfl,rfl⟩
   ·exact .inl h
  ·rintro(h|⟨J,U⟩)
   ·exact .inr h
   ·left;cases x;simp at J U;subst J U;rfl
 |pair a b d c=>
  intro l;simp only[T.fold,c,d,T.occ,oo];constructor
  ·rintro((h|h)|h)
   ·exact .inl h
   ·exact .inr ⟨h.1,.inl h.2⟩
   ·exact .inr ⟨h.1,.inr h.2⟩
  ·rintro(h|⟨J,U|U⟩)
   ·exact .inl (.inl h)
   ·exact .inl (.inr ⟨J,U⟩)
   ·exact .inr ⟨J,U⟩
 |_=>intro l;simp[T.fold,T.occ]
def amb(M:List bn)(k:Nat)(st:bo):Prop:=∃(seen:List Nat) (xs:List bn),seen.Nodup/\(∀b∈seen,b<M.length)/\k=M.length-seen.length/\xs=seen.filterMap (fun b=>M[b]?)/\xs.length=seen.length/\st=⟨[(15,.ptr (.obj 815) 0),(63,.ptr (.loc 2) 0)],[(.obj 812,ps M),(.loc 2,cd M.length seen (.obj 812)),(.obj 815,[.row 2 (.obj 814) xs.length])],[(.obj 814,⟨xs.length,100,2,some (xs.map bn.e)⟩)],3,[.obj 815,.obj 814,.obj 813,.obj 812,.obj 811]⟩
def asp{s:List Bd}(B:e3 s){l:List bn}(R:iT l)(oK:l.length<=68719470000)(t:T)(aL:t.fit=true){g:List cV}(bd:kt g=true):
  bT au 120 [bH (s.map Bd.e),b5 (l.map bn.e),t.e,.str g] (j3 (if(t.ap (cR s)).size<=5000 then nh l (t.ap (cR s)) g else none)):=by
 have n:=qs B;have o:=AF aL;have p:=ac3 R;have m:=ass bd;have d:=KE s t B.len B.sol.asc B.fit;generalize ab:t.ap (cR s)=x at d⊢;generalize w:(if x.size<=5000 then nh l x g else none)=O;by_cases q:x.size<=5000;rotate_left
 ·rw[if_neg q]at w;rw[<-w];rw[if_neg q,mz q]at d;refine bF a6 Tryz.func120 Pj fun V=>?_;unfold GN;simp;(repeat' first|refine al ?_|refine aO n ?_|refine aP n ?_|refine aO o ?_|refine aP o ?_|refine aO p ?_|refine aP p ?_|refine aO m ?_|refine aP m ?_|refine aO d ?_|refine aP d ?_|simp);simp[bZ,ba,be,a1];simp[j3]
 rw[if_pos q]at w;rw[if_pos q,lK q]at d;have u:=asP g x;cases z:x.has g;rotate_left
 ·rw[z]at u;have gE:O=none:=by rw[<-w];unfold nh;rw[z];rfl
  rw[gE];refine bF a6 Tryz.func120 Pj fun V=>?_;unfold GN;simp;(repeat' first|refine al ?_|refine aO n ?_|refine aP n ?_|refine aO o ?_|refine aP o ?_|refine aO p ?_|refine aP p ?_|refine aO m ?_|refine aP m ?_|refine aO d ?_|refine aP d ?_|refine aO u ?_|refine aP u ?_|simp);simp[bZ,ba,be,a1];simp[j3]
 rw[z]at u;refine bF a6 Tryz.func120 Pj fun V=>?_;unfold GN;simp;(repeat' first|refine al ?_|refine aO n ?_|refine aP n ?_|refine aO o ?_|refine aP o ?_|refine aO p ?_|refine aP p ?_|refine aO m ?_|refine aP m ?_|refine aO d ?_|refine aP d ?_|refine aO u ?_|refine aP u ?_|simp);have X:l.Nodup:=iO.nodup mU R.asc;have L:∀xs:List bn,xs.Perm (x.fold (fun v l=>mc ⟨v,g⟩ l) l)->O=some (qn gf xs):=fun xs Q=>by
  rw[<-w];refine K5 z ?_ fun y=>?_
  ·have J:=QI mU xs;have U:(qn gf xs).Nodup:=(((AA gf xs).trans Q).nodup_iff).2 (aiY g x X);exact(J.and U).imp fun{a b} h=>by have:=mt (mU.zero a b).1 h.2;omega
  ·rw[((AA gf xs).trans Q).mem_iff,am3]
 have hlen:(x.fold (fun v l=>mc ⟨v,g⟩ l) l).length<=68719475000:=by have:=aiX g x l;omega
 rw[show k1 []=ps []from rfl];refine fT (fun i (_:Unit)=>⟨[(7,.ptr (.obj 811) 0),(10,.ptr (.loc 1) 0),(12,.ptr (.obj 813) 0),(49,b5 (l.map bn.e)),(50,aj l.length),(51,aj i)],[(.obj 811,[.str g]),(.loc 1,[aj x.kind,aj x.int,.str x.name,dw (x.args.map T.e)]),(.obj 812,ps (l.take i)),(.obj 813,[.gmap (.obj 812)])],[],2,[.obj 813,.obj 812,.obj 811]⟩) l.length (fun _ _=>True) () cb trivial (fun _ _ _=>?_) (fun i _ hi _ _=>?_)
 ·rw[jA];simp;(repeat' first|refine al ?_|simp);have key:=V7 (pQ g) (Gz g) (KW g) 184 [.ptr (.obj 813) 0,.ptr (.obj 811) 0] (by intro a;simp[aM,pQ,ae,aH,aA]) Ψ (fun v l=>mc ⟨v,g⟩ l) (fun v a=>ai5 g v a) x l;refine CallDo.ob key (Gz g l) (by unfold pQ;exact aX) (by unfold pQ;exact aX) (by simp[aM,pQ,ae]) ?_;rintro r ak ⟨rfl,rfl⟩;refine⟨KW g _ _,?_⟩;unfold pQ;generalize eH:x.fold (fun v l=>mc ⟨v,g⟩ l) l=M at L hlen⊢;simp[cH];(repeat' first|refine al ?_|simp);refine qH (amb M) M.length _ ⟨by simp[fresh,aH,aA,cd,aM,ae,B9],ep (by simp[fresh,aH,aA,cd,aM,ae,B9]),er (by simp[fresh,aH,aA,dW,aM,ae,B9]),Ψ⟩ ⟨[],[],Ψ,Ψ,Ψ,Ψ,Ψ,rfl⟩ ?_;rintro k st ⟨seen,xs,F,A,ad,W,kX,rfl⟩ lS c5;clear lS c5;have hle:=Kb F A;simp;refine af1 (mk:= .obj 812) (seen:=seen) (l:=M) Ψ Ψ rfl (fun Z=>?_) (fun b y H E=>?_)
  ·have K:=Qy F A Z;rw[<-W]at K;have ed:=L xs K;simp;(repeat' first|refine al ?_|simp);have key:=ajU xs Ω;have P:=KV xs;unfold yX eC at key P;refine CallDo.ob key P aX aX (by simp[aM,ae]) ?_;rintro r ak ⟨rfl,rfl⟩;refine⟨Same.keys Ψ Ψ,?_⟩;rw[ed];simp[cH];(repeat' first|refine al ?_|simp);simp[bZ,ba,be,a1];simp[j3]
  ·have Y:∀f:aB->Option (List af),f (.loc 2)=some (cd M.length (seen++[b]) (.obj 812))->f (.obj 812)=some (ps M)->qZ f (.ptr (.loc 2) 0)=some (True,.tuple [y.e,.bool true]):=fun f J U=>am7 f (.loc 2) (.obj 812) M.length seen b M y J U rfl H;have N:b<M.length:=(fI.1 H).1;have qR:=Qz F A N E;simp[Y];(repeat' first|refine al ?_|simp[Y]);all_goals try refine⟨by unfold lim;omega,?_⟩
   have G:∀S:aB->Prop,aH S (xs.map bn.e++[y.e])=True:=fun S=>by
    have e:xs.map bn.e++[y.e]=(xs++[y]).map bn.e:=Ψ
    rw[e];simp[-List.map_append]
   refine bX.next (M.length-(seen.length+1)) Ω ⟨seen++[b],xs++[y],Pa F E,(by simp;intro c ay;rcases ay with ay|rfl;exact A c ay;exact N),Ψ,by rw[List.filterMap_append,<-W];simp[H],by simp[kX],rfl⟩ ⟨by simp[fresh,aH,aA,cd,aM,ae,B9,G],ep (by simp[fresh,aH,aA,cd,aM,ae,B9,G]),er (by simp[fresh,aH,aA,dW,aM,ae,B9,G]),Ψ⟩
 ·obtain⟨b,E,df⟩:=eV hi;have jY:mc b (l.take i)=l.take (i+1):=by
   have J:b∉l.take i:=fun h=>by
    obtain⟨j,ah,e⟩:=pM h;have ko:j<i:=by simp at ah;omega
    rw[List.getElem_take]at e;have:=(List.nodup_iff_pairwise_ne.1 X);exact(rj.1 this j i Ω hi ko) (by rw[e,df])
   rw[List.take_succ,E];simp[mc,J]
  exact iU
def SE:C:=(aa [bu 4 false] (.seq (aa [I 7 0,cx 8 7,bM 9 0] (gz 10 9 8 (.seq (.block 1 (aa [cl 11 5 7 9,bf 12 5 11,dF 6 kv,bV 5 6 12] (aa [aF 13 0 1 6,az 14 1 13,I 15 1,bt 16 .geq 14 15,I 17 16,ax 17 false (hr 18 1 4 6),ax 17 false (bf 19 4 18),ys 17 false (.bsl 20 4 30 [.t 19]),ax 17 false (cQ 21 162 20),cg 17 false 22 1,ax 17 false (bt 23 .gtr 21 22),dq 24 17 23] (aW 24 (aa [bu 4 false] .ret) .skip)))) (.region [aV 25 .add 9 1,I 9 25])))) (aa [bu 4 true] .ret)))
def SD:C:=(aa [bM 2 0] (.seq (aa [I 6 0,cQ 7 172 6,cK 8 7] (aW 8 (aa [bM 2 (-1)] .ret) .skip)) (aa [ds (.alloc 3 (some 831) (.int .i64 0)),ds (.store 1 (.t 3) (gV 0))] (.seq (aa [I 9 0,cx 10 9,bM 11 0] (gz 12 11 10 (.seq (.block 1 (aa [cl 13 4 9 11,bf 14 4 13,dF 5 eB,bV 4 5 14] (.region [bf 15 4 5,cf 16 (.mkf 204 [.t 3]),b8 17 134 15 16]))) (.region [aV 18 .add 11 1,I 11 18])))) (aa [az 19 1 3,I 2 19] .ret)))))
def Sy:C:=(aa [eY 4 2,bu 5 false] (.seq (aa [I 11 0,cQ 12 86 11,cK 13 12,I 14 13,cg 14 false 15 1,ax 14 false (cQ 16 87 15),ax 14 false (cK 17 16),dq 18 14 17] (aW 18 (aa [eY 4 2,bu 5 false] .ret) .skip)) (aa [eX 19 2 98 [],I 6 19] (.seq (.seq (.fg false 6 (.region [I 20 1,cx 21 20,bM 22 0])) (gz 23 22 21 (.seq (.block 1 (aa [cl 24 2 20 22,bf 25 2 24,ds (.alloc 8 none (.agg [.int .i64 0,.int .i64 0])),bV 2 8 25] (.seq (.drawn true 42 [I 27 0,I 28 6,aF 29 0 1 8,az 30 1 29,cQ 31 116 30,aF 32 1 1 8,az 33 1 32,dN 34 118 [.t 27,.t 28,.t 31,.t 33],I 26 34,cS 35 0 26,cS 36 1 26,I 9 35,I 10 36]) (.seq (aa [I 37 10,cK 38 37] (aW 38 (aa [eY 4 2,bu 5 false] .ret) .skip)) (.region [I 39 9,I 6 39]))))) (.region [aV 40 .add 22 1,I 22 40])))) (aa [I 41 6,I 4 41,bu 5 true] .ret)))))
def Sz:C:=(aa [eY 4 2,bu 5 false] (.seq (aa [I 11 0,cQ 12 86 11,cK 13 12,I 14 13,cg 14 false 15 1,ax 14 false (cQ 16 88 15),ax 14 false (cK 17 16),dq 18 14 17] (aW 18 (aa [eY 4 2,bu 5 false] .ret) .skip)) (aa [eX 19 2 100 [],I 6 19] (.seq (.seq (.fg false 6 (.region [I 20 1,cx 21 20,bM 22 0])) (gz 23 22 21 (.seq (.block 1 (aa [cl 24 2 20 22,bf 25 2 24,ds (.alloc 8 none (.agg [.int .i64 0,.str []])),bV 2 8 25] (.seq (.drawn true 42 [I 27 0,I 28 6,aF 29 0 1 8,az 30 1 29,cQ 31 116 30,aF 32 1 1 8,az 33 1 32,dN 34 120 [.t 27,.t 28,.t 31,.t 33],I 26 34,cS 35 0 26,cS 36 1 26,I 9 35,I 10 36]) (.seq (aa [I 37 10,cK 38 37] (aW 38 (aa [eY 4 2,bu 5 false] .ret) .skip)) (.region [I 39 9,I 6 39]))))) (.region [aV 40 .add 22 1,I 22 40])))) (aa [I 41 6,I 4 41,bu 5 true] .ret)))))
def Sv:C:=(aa [eY 2 1] (.seq (aa [I 12 0,cx 13 12,bM 14 0] (gz 15 14 13 (.seq (.block 1 (aa [cl 16 1 12 14,az 17 1 16,I 4 17] (aa [I 18 4,cQ 19 86 18,cK 20 19] (aW 20 (aa [eY 2 1] .ret) .skip)))) (.region [aV 21 .add 14 1,I 14 21])))) (aa [ds (.bslm 22 (some 821) 1 46 []),I 23 0,ds (.appm 24 none 1 46 (.t 22) (.t 23)),ds (.alloc 5 (some 822) (.slice 1 .nil [])),bV 1 5 24] (aa [az 25 1 5,cf 26 (.mkif 47 (.t 25)),cf 27 (.mkf 206 [.t 5]),b8 28 140 26 27] (aa [eX 29 1 46 [],I 6 29] (.seq (aa [az 30 1 5,cx 31 30,bM 32 0] (.block 2 (.loop (aa [bt 33 .lss 32 31] (.seq (aW 33 .skip (.exit 2)) (.seq (.block 3 (aa [I 34 32,cl 35 1 30 32,az 36 1 35,I 7 34,I 8 36] (.seq (aa [I 37 7,aV 38 .gtr 37 0,I 39 38,ax 39 true (az 40 1 5),cg 39 true 41 7,ax 39 true (aV 42 .sub 41 1),ax 39 true (cl 43 1 40 42),ax 39 true (az 44 1 43),cg 39 true 45 8,ax 39 true (b8 46 207 44 45),ax 39 true (aV 47 .eql 46 0),ej 48 39 47] (aW 48 (.exit 3) .skip)) (aa [bu 9 true] (.seq (aa [az 49 1 5,cx 50 49,bM 51 0] (.block 4 (.loop (aa [bt 52 .lss 51 50] (.seq (aW 52 .skip (.exit 4)) (.seq (.block 5 (aa [cl 53 1 49 51,az 54 1 53,I 11 54] (aa [I 55 11,I 56 8,b8 57 207 55 56,aV 58 .neq 57 0,I 59 58,cg 59 true 60 11,cg 59 true 61 8,ax 59 true (b8 62 208 60 61),ej 63 59 62] (aW 63 (.region [bu 9 false]) .skip)))) (.region [aV 64 .add 51 1,I 51 64]))))))) (aa [I 65 9] (aW 65 (.region [I 66 6,I 67 8,cQ 68 168 67,eX 69 1 46 [.t 68],hT 70 1 46 66 69,I 6 70]) .skip))))))) (.region [aV 71 .add 32 1,I 32 71]))))))) (aa [I 72 6,I 2 72] .ret)))))))
def Lo:C:=(.region [az 3 1 1,I 4 0,aV 5 .add 4 1,cf 6 (.max2 (.t 3) (.t 5)),bV 1 1 6])
def Sw:C:=(aa [bu 5 false] (.seq (.drawn true 16 [az 6 1 2,I 7 0,cl 8 1 6 7,az 9 1 8,az 10 1 2,I 11 1,cl 12 1 10 11,az 13 1 12,b8 14 207 9 13,aV 15 .lss 14 0,I 5 15]) .ret))
def aoa:b2 aS SE [.tmp 4] 2 Tryz.f89=true:=bi
def an9:b2 aS SD [.tmp 2] 1 Tryz.f162=true:=bi
def an4:b2 aS Sy [.tmp 4,.tmp 5] 2 Tryz.f163=true:=bi
def an5:b2 aS Sz [.tmp 4,.tmp 5] 2 Tryz.f164=true:=bi
def an1:b2 aS Sv [.tmp 2] 1 Tryz.f167=true:=bi
def ZL:b2 aS Lo [] 2 Tryz.f204=true:=bi
def an2:b2 aS Sw [.tmp 5] 3 Tryz.f206=true:=bi
def XT(s:List Bd)(l:List bJ)(i:Nat)(a:List bJ):Prop:=jN a/\gU s (l.drop i) a=gU s l []
def asa{α:Type}(n:Nat)(dp:jF)(a:List α):Prop:=(dp= .no/\a=[])\/ ∃m,dp= .tr (.loc m) 0/\m<n
def Zy{s:List Bd}(g:e3 s){l:List bJ}(o:jN l):fY au 163 [bH (s.map Bd.e),b5 (l.map bJ.e)] (og (gU s l [])):=by
 have u:=tM o;have p:=qs g;have q:=ac1 o;refine fY.mk mixed a6 Tryz.func163 an4 Ψ fun v κ=>?_;unfold Sy;simp;(repeat' first|refine al ?_|refine aO p ?_|refine aP p ?_|refine aO q ?_|refine aP q ?_|simp);refine fT (fun i (x:Nat×jF×List bJ)=>⟨[(0,bH (s.map Bd.e)),(20,b5 (l.map bJ.e)),(21,aj l.length),(6,.slice 2 x.2.1 (x.2.2.map bJ.e)),(22,aj i)],[],[],x.1,[]⟩) l.length (fun i x=>asa x.1 x.2.1 x.2.2/\XT s l i x.2.2) (0,.no,[]) cb ⟨.inl ⟨rfl,rfl⟩,⟨Ψ,Ψ⟩,rfl⟩ (fun x c _=>?_) (fun i x hi c _=>?_)
 ·obtain⟨n,dp,a⟩:=x;obtain⟨h,_,c⟩:=c;simp only at h c;rw[List.drop_length]at c;simp only[gU]at c;rw[<-c];rcases h with⟨rfl,rfl⟩|⟨m,rfl,hm⟩
  ·simp;(repeat' first|refine al ?_|simp);(refine h3.val Ψ ?_;simp[ba,be,a1,fb,hp,eD,gS,eh,gI,tnL,tn,fq,fW,fold,hE,hC,iJ,ae,ef,b9,b3]);simp[og]
  ·simp;(repeat' first|refine al ?_|simp);(refine h3.val Ψ ?_;simp[ba,be,a1,fb,hp,eD,gS,eh,gI,tnL,tn,fq,fW,fold,hE,hC,iJ,ae,ef,b9,b3]);simp[og]
 ·obtain⟨n,dp,a⟩:=x;obtain⟨h,k,c⟩:=c;simp only at h k c;obtain⟨b,t,f⟩:=eV hi;have e:=o.at' b (fx t);rw[lJ hi,f]at c;simp only[gU]at c;have d:=anI g k (.var b.v) (by simp[T.fit,T.ok,T.size,e.1]) b.k;have r:((T.var b.v).ap (cR s)).size<=5000:=FZ g b.v;rw[if_pos ⟨e.2,r⟩,show(T.var b.v).ap (cR s)=cR s b.v from rfl]at d;have dx:b3 (.slice 2 dp (a.map bJ.e))=b5 (a.map bJ.e):=by simp[b3]
  simp[hi,f];cases j:k7 a (cR s b.v) b.k with
  |none=>rw[j]at c d;simp only at c;rw[<-c];unfold og at d;(repeat' first|refine al ?_|refine aO (l5 _) ?_|refine aP (l5 _) ?_|simp[f,hi]);(refine hJ.own Ψ (d) (by simp[qJ,ae]<;>omega) ?_;simp);(repeat' first|refine al ?_|simp);(refine h3.val Ψ ?_;simp[ba,be,a1,fb,hp,eD,gS,eh,gI,tnL,tn,fq,fW,fold,hE,hC,iJ,ae,ef,b9,b3]);simp[og]
  |some bp=>
   rw[j]at c d;unfold og at d;(repeat' first|refine al ?_|refine aO (l5 _) ?_|refine aP (l5 _) ?_|simp[f,hi]);(refine hJ.own Ψ (d) (by simp[qJ,ae]<;>omega) ?_;simp);(repeat' first|refine al ?_|simp);refine bX.rng (n+1+42,.tr (.loc (n+1+34)) 0,bp) hi ?_ ?_
   ·exact⟨.inr ⟨n+1+34,rfl,(by omega:n+1+34<n+1+42)⟩,K4 k (CZ g e.1) e.2 j,c⟩
   simp;exact cb
def asx{s:List Bd}(b:e3 s){l:List bJ}(a:jN l):bT au 163 [bH (s.map Bd.e),b5 (l.map bJ.e)] (q6 (gU s l [])):=by have:=(Zy b a).val (by simp[og,b3]);simpa[og,b3,b9,q6]using this
def XU(s:List Bd)(G:List (List cV))(l:List bn)(i:Nat)(a:List bn):Prop:=iT a/\oX G a/\ha s (l.drop i) a=ha s l []
def ac5{s:List Bd}(h:e3 s){l:List bn}(k:iT l){G:List (List cV)}(v:G.length<=687000)(bd:oX G l):bT au 164 [bH (s.map Bd.e),b5 (l.map bn.e)] (j3 (ha s l [])):=by
 have hlen:∀{a:List bn},iT a->oX G a->a.length<=68719470000:=fun J U=>by have:=E9 J U;omega
 have u:=hlen k bd;have m:=qs h;have n:=ac3 k;refine bF a6 Tryz.func164 an5 fun w=>?_;unfold Sz;simp;(repeat' first|refine al ?_|refine aO m ?_|refine aP m ?_|refine aO n ?_|refine aP n ?_|simp);refine e1 [0,20,21] (fun i (a:List bn)=>[(6,b5 (a.map bn.e)),(22,aj i)]) l.length (XU s G l) [] cb ⟨⟨Ψ,by simp[iO]⟩,fun x r=>by simp at r,rfl⟩ (fun a c _=>?_) (fun i a hi c _=>?_)
 ·obtain⟨_,_,c⟩:=c;rw[List.drop_length]at c;simp only[ha]at c;rw[<-c];simp;(repeat' first|refine al ?_|simp);simp[bZ,ba,be,a1];simp[j3]
 ·obtain⟨j,p,c⟩:=c;obtain⟨b,o,g⟩:=eV hi;have e:=k.at' b (fx o);have t:=bd b (fx o);rw[lJ hi,g]at c;simp only[ha]at c;have d:=asp h j (hlen j p) (.var b.v) (by simp[T.fit,T.ok,T.size,e.1]) e.2;have q:((T.var b.v).ap (cR s)).size<=5000:=FZ h b.v;rw[if_pos q,show(T.var b.v).ap (cR s)=cR s b.v from rfl]at d;simp[hi,g];cases f:nh a (cR s b.v) b.s with
  |none=>rw[f]at c d;simp only at c;rw[<-c];simp only[j3]at d;(repeat' first|refine al ?_|refine aO (l5 _) ?_|refine aP (l5 _) ?_|refine aO d ?_|refine aP d ?_|simp[g,hi]);simp[bZ,ba,be,a1];simp[j3]
  |some bp=>rw[f]at c d;simp only[j3]at d;(repeat' first|refine al ?_|refine aO (l5 _) ?_|refine aP (l5 _) ?_|refine aO d ?_|refine aP d ?_|simp[g,hi]);exact bX.rng bp hi ⟨K6 j (CZ h e.1) e.2 f,K7 p t f,c⟩ cb
end
section
open Go Go.Pv Go.Lib
def cM(d:List Bd):af:=bH (d.map Bd.e)
@[simp]def awr(S:aB->Prop)(d:List Bd):aA S (cM d)=True:=by simp[cM]
@[simp]def auy(d:List Bd):cells (cM d)=[cM d]:=rfl
@[simp]def axQ(d:List Bd):eS (cM d)=true:=rfl
@[simp]def ayh(d:List Bd):b3 (cM d)=cM d:=by simp[cM]
def UL:∀(S:aB->Prop) (x:List Bd),aA S (cM x):=fun S x=>by simp
def Oq(S:aB->Prop):∀l:List (List Bd),aH S (l.map cM)
 |[]=>by simp[aH]
 |x::xs=>by simp[aH,Oq S xs]
@[simp]def Ys(S:aB->Prop)(l:List (List Bd)):aH S (l.map cM)=True:=h1 (Oq S l)
@[simp]def QP:∀l:List (List Bd),b9 (l.map cM)=l.map cM
 |[]=>rfl
 |x::xs=>by simp[b9,QP xs]
def gB(d:List Bt):af:=bH (d.map Bt.e)
@[simp]def auA(d:List Bt):cells (gB d)=[gB d]:=rfl
@[simp]def axS(d:List Bt):eS (gB d)=true:=rfl
def L5(d:List Bd):gB (d.map Bd.b)=cM d:=by simp only[gB,cM,zZ]
def L6(l:List (List Bd)):(l.map fun d=>d.map Bd.b).map gB=l.map cM:=by rw[List.map_map];exact List.map_congr_left fun d _=>L5 d
@[simp]def awu(S:aB->Prop)(d:List Bt):aA S (gB d)=True:=by simp[gB]
@[simp]def ayk(d:List Bt):b3 (gB d)=gB d:=by simp[gB]
def Yu(S:aB->Prop):∀l:List (List Bt),aH S (l.map gB)
 |[]=>by simp[aH]
 |x::xs=>by simp[aH,Yu S xs]
@[simp]def awm(S:aB->Prop)(l:List (List Bt)):aH S (l.map gB)=True:=h1 (Yu S l)
abbrev vK(l:List (List Bd)):cT:=eC cM 821 822 46 1 l
def KR(l:List (List Bd)):ey (vK l):=yY UL l
def ai8(l:List (List Bd))(m:l.length<=68719476736)(i j:Nat)(x y:List Bd)(hi:l[i]? =some x)(h:l[j]? =some y):bE au 206 [aj i,aj j,.ptr (.obj 822) 0] (vK l) fun r g=>r= .bool (iL fc x y)/\g=vK l:=by have a:=KR l;obtain⟨c,d⟩:=fI.1 hi;obtain⟨e,b⟩:=fI.1 h;have f:bT au 207 [cM x,cM y] (aj (fc x y)):=KC x y;unfold vK eC at a⊢;refine bE.mk mixed a6 Tryz.func206 an2 Ψ a.obj fun n k=>?_;unfold Sw;simp[c,e,d,b];(repeat' first|refine al ?_|refine aO f ?_|refine aP f ?_|simp[c,e,d,b]);refine c6.at _ (.inl rfl) a (Same.refl _) aX aX ?_;simp[dc,ba,be,a1,iL]
noncomputable def Tryz.dsT:TypeInfo:=(au.info? 47).get bi
noncomputable def Tryz.dsE:TypeInfo:=(au.info? 46).get bi
def Tryz.dsK(n:Nat)(U:2<=n):Lib.swapperK n Tryz.dsE 23=9:=by
 have a:Tryz.dsE.hasPointers=true:=bi
 have b:Tryz.dsE.bytes=24:=bi
 have c:(n==0)=false:=by simp;omega
 have d:(n==1)=false:=by simp;omega
 simp[Lib.swapperK,a,b,c,d]
def ajR(l:List (List Bd))(d:l.length<=68719476736):bE au 140 [.iface 47 (.row 1 (.obj 821) l.length),.func 206 [.ptr (.obj 822) 0]] (vK l) fun r b=>r= .tuple []/\b=vK (qn fc l):=by
 refine(ajb UL (K:=821) (B:=822) (sz:=1) 47 Tryz.dsT Tryz.dsE bi bi bi bi 23 (fun _=>by kernel_rfl) Tryz.dsK 206 (iL fc) mT.ltOk l d (fun a h i j x y hi c=>ai8 a Ω i j x y hi c) (fun a h i j hi c=>?_)).mono ?_
 ·have:=Wm (P:=au) false 230 (fun args W=>run_callFunc_extern Tryz.func230 bi bi bi (e:=Gp false) bi args W)
   46 Tryz.dsE bi (.inr ⟨by kernel_rfl,fun _=>by kernel_rfl⟩) (KR a) (K:=821) (n:=l.length) (el:=46) (sz:=1) bi (xs:=a.map cM) (by simp[eC,ae,h]) i j hi c
  refine this.mono ?_;rintro r b ⟨rfl,rfl⟩;refine⟨rfl,?_⟩;simp[eC,cL,YQ,h]
 ·rintro r b ⟨rfl,a,rfl,J,U⟩;exact⟨rfl,by rw[ack mT J U]⟩
end
end Go.Proofs.YtahlgcidhnjlbaaGreat
