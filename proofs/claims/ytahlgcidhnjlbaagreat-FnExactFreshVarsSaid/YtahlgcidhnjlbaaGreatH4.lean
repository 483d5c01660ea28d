/- Contracts: disequalities in order. -/
import Derived.Lib.OwnBridge
import Derived.Shelf.GgSortMore.Stable
import Derived.Shelf.GgSortFunc.SmallK
import Derived.Shelf.GgSortFunc.Slice
import Derived.Ground.GgsProg
import Derived.Test.YtahlgcidhnjlbaaGreatProg
import Derived.Test.YtahlgcidhnjlbaaGreatH3
set_option linter.all false
set_option maxHeartbeats 4000000
set_option maxRecDepth 4000
open Array renaming getElem?_toList->ve
open BitVec renaming ofInt->rC
open Bool renaming and_eq_true->cP,eq_iff_iff->qP,false_eq_true->hN,not_eq_true'->sv,or_eq_true->n2
open Go renaming Program->cG,TypeId->gT
open Go.Extern.ReflectliteSwapper renaming swap->FM,swapper->aw7
open Go.Extern.ReflectliteValue renaming len->aw8,method->aw9,unpack->ass,valueError->ast
open Go.Extern.Rtype renaming kind->acn
open Go.IntKind renaming bits->pe,i64->vf,signed->tP,u64->ig,wrap->tQ
open Go.IntWalk renaming i64_in->pf
open Go.Proofs.Tryz renaming prog->au
open Go.Result renaming andThen_ok->gy
open Go.Sem renaming run_bind->gr,run_pure->hy
open Go.Value.slice renaming injEq->axc
open List renaming cons_append->b3,drop_eq_getElem_cons->lA,getElem?_append_left->rE,getElem?_append_right->vg,getElem?_eq_getElem->cl,getElem?_eq_none->qQ,getElem?_eq_some_iff->fM,getElem_of_mem->pk,length_append->p6,length_cons->mI,map_cons->hc,mem_append->j2,mem_cons->gK,mem_cons_of_mem->qR,mem_map->hz,mem_of_getElem?->fx,nil_append->ca,nodup_append->rF,pairwise_iff_getElem->qS,take_length->jv,take_of_length_le->iE
open List.Pairwise renaming map->axd
open List.cons renaming injEq->rD
open Nat renaming add_mul->qT,le_refl->dL,le_trans->kx,mul_le_mul_right->rG
open Option renaming isSome_iff_exists->fA,isSome_none->mL,map_eq_some_iff->hl,map_some->pn
open Option.some renaming injEq->dS
open Prod.mk renaming injEq->jj
open _root_ renaming False->et,Option->bc,UInt8->cW,and_true->jk,beq_iff_eq->ey,congrArg->ff,decide_eq_false->po,decide_eq_false_iff_not->iL,decide_eq_true->n5,decide_eq_true_eq->gu,eq_true->h0
namespace Go.Proofs.YtahlgcidhnjlbaaGreat
section
open Go Go.Pv
variable {α:Type} [Inhabited α] {S:List α->cQ} {n g cp:Nat} {lc cg:List af} {lt:α->α->Bool}
def wF{p:α->Bool}{d:Array α}{i j:Nat}(h:¬(i<=j/\p d[j]! =true)):Sort.scanDown p d i j=j:=by
 cases j with
 |zero=>rfl
 |succ j=>rw[Sort.scanDown,if_neg (by simpa using h)]
def Co{p:α->Bool}{d:Array α}{i j:Nat}(h:¬(i<=j/\p d[i]! =true)):Sort.scanUp p d j i=i:=by rw[Sort.scanUp,if_neg (by simpa using h)]
def Px{p:α->Bool}{d:Array α}{i j:Nat}(J:i<=j)(U:p d[i]! =true):Sort.scanUp p d j i=Sort.scanUp p d j (i+1):=by rw[Sort.scanUp,if_pos (by simp[J,U])]
def Pw{p:α->Bool}{d:Array α}{i j:Nat}(J:i<=j+1)(U:p d[j+1]! =true):Sort.scanDown p d i (j+1)=Sort.scanDown p d i j:=by rw[Sort.scanDown,if_pos (by simp[J,U])]
def aie(H:fQ S n g cp lc cg lt)(d:Array α)(P:d.size=n)(a b pivot:Nat)(sP:a<=pivot)(ajU:pivot<b)(mX:a+1<b)(ag:b<=n):
  bD au 244 [fC g cp lc cg,aj a,aj b,aj pivot] (S d.toList) fun r ak=>r= .tuple [aj (Sort.partition lt d a b pivot).1,.bool (Sort.partition lt d a b pivot).2.1]/\∃N,ak=S N.toList/\N=(Sort.partition lt d a b pivot).2.2/\N.size=n:=by
 obtain⟨R,bu⟩:∃R,R=Sort.partition lt d a b pivot:=⟨_,rfl⟩;rw[<-bu];unfold Sort.partition at bu;have Q:=H.ok d.toList;have k:d.toList.length=n:=by simpa using P
 have U:∀l m,ad (.loc m) (S l).b=none:=fun l=>(H.ok l).obj.1;have hu:∀l m cs,cH (.loc m) cs (S l).b=(S l).b++[(.loc m,cs)]:=fun l m cs=>kH (U l m);have ar:∀m,aA.loc m∉cI (S d.toList):=kE Q.obj;have hle:=H.le;refine bD.mk mixed a7 Tryz.func244 anL Ψ Q.obj fun aT cZ=>?_;unfold SA;simp[fC,hu,ar,c0,U];rw[H.ssc];refine H.swapA0 P Ω a pivot Ω Ω fun o=>?_;obtain⟨d1,L⟩:∃d1,d1=Sort.swp d a pivot:=⟨_,rfl⟩;have s1:d1.size=n:=by rw[L,hL,P]
 rw[<-L];simp only[<-L]at bu;have al:((a:Int)+1)=(a+1:Nat):=Ω
 have aC:((b:Int)-1)=(b-1:Nat):=Ω
 simp;(repeat' first|refine aq ?_|simp);rw[al,aC];refine H.loopA k [1,4,11] (fun(i:Nat)=>[(10,aj i)]) (fun _=>d1) (fun i=>b+1-i) (fun i=>a+1<=i/\i<=b/\Sort.scanUp (fun x=>lt x d1[a]!) d1 (b-1) i=Sort.scanUp (fun x=>lt x d1[a]!) d1 (b-1) (a+1)) (a+1) s1 ⟨Ω,Ω,rfl⟩ (by simp[ad]) aW aW dl ?_;rintro i ⟨i1,i2,i3⟩;simp[ad,H.slc];((repeat' first|refine aq ?_|simp[ad,H.slc]|((first|apply cu|apply cy|apply cx)<;>intro h<;>try simp at h))<;>(try exact c4));refine H.lessA s1 i a Ω Ω fun o=>?_;cases O:lt d1[i]! d1[a]!;rotate_left
 ·have E:((i:Int)+1)=(i+1:Nat):=Ω
  simp;(repeat' first|refine aq ?_|simp);rw[E];refine bV.whl (i+1) Ω ⟨Ω,Ω,by rw[<-i3];exact(Px (p:=fun x=>lt x d1[a]!) Ω O).symm⟩ (H.weakC k (by simpa using s1) dl)
 rotate_left
 ·have i4:Sort.scanUp (fun x=>lt x d1[a]!) d1 (b-1) i=i:=Co (by simp[O]);rw[i4]at i3;rw[<-i3]at bu;simp;refine H.loopA k [1,4,10] (fun(j:Nat)=>[(11,aj j)]) (fun _=>d1) (fun j=>j) (fun j=>i<=j+1/\j<=b-1/\Sort.scanDown (fun x=> !lt x d1[a]!) d1 i j=Sort.scanDown (fun x=> !lt x d1[a]!) d1 i (b-1)) (b-1) s1 ⟨Ω,Ω,rfl⟩ (by simp[ad]) aW aW dl ?_;rintro j ⟨ik,xE,v⟩;simp[ad,H.slc];((repeat' first|refine aq ?_|simp[ad,H.slc,H.ssc]|((first|apply cu|apply cy|apply cx)<;>intro h<;>try simp at h))<;>(try exact c4))
  ·refine H.lessA s1 j a Ω Ω fun o=>?_;cases A:lt d1[j]! d1[a]!
   ·obtain⟨j,rfl⟩:∃dg,j=dg+1:=⟨j-1,Ω⟩;have F:(((j+1:Nat):Int)-1)=(j:Nat):=Ω
    simp;(repeat' first|refine aq ?_|simp);try rw[F]
    refine bV.whl j Ω ⟨Ω,Ω,by rw[<-v];exact(Pw (p:=fun x=> !lt x d1[a]!) Ω (by simp[A])).symm⟩ (H.weakC k (by simpa using s1) dl)
   ·have t:Sort.scanDown (fun x=> !lt x d1[a]!) d1 i j=j:=wF (by simp[A]);have Y:i≠j:=fun e=>by subst e;rw[O]at A;cases A
    rw[t]at v;rw[<-v,if_neg Ω]at bu;simp;((repeat' first|refine aq ?_|simp[ad,H.slc,H.ssc]|((first|apply cu|apply cy|apply cx)<;>intro h<;>try simp at h))<;>(try exact c4));refine H.swapA s1 Ω i j Ω Ω fun o=>?_;obtain⟨d2,M⟩:∃d2,d2=Sort.swp d1 i j:=⟨_,rfl⟩;have s2:d2.size=n:=by rw[M,hL,s1]
    rw[<-M];rw[<-M]at bu;have bh:((i:Int)+1)=(i+1:Nat):=Ω
    have b2:((j:Int)-1)=(j-1:Nat):=Ω
    simp;(repeat' first|refine aq ?_|simp);rw[bh,b2];refine H.loopA k [1,4] (fun(x:(Nat×Nat)×Array α)=>[(10,aj x.1.1),(11,aj x.1.2)]) (·.2) (fun x=>x.1.2+1-x.1.1) (fun x=>x.2.size=n/\(a+1<=x.1.1/\x.1.1<=x.1.2+1/\x.1.2<=b-1)/\Sort.partLoop lt a x.1.1 x.1.2 x.2=Sort.partLoop lt a (i+1) (j-1) d2) ((i+1,j-1),d2) s2 ⟨s2,⟨by simp;omega,by simp;omega,by simp;omega⟩,rfl⟩ (by simp[ad]) aW aW dl ?_;rintro⟨⟨K,dg⟩,c⟩ ⟨f,⟨bY,Z,V⟩,s⟩;simp only at f bY Z V s;rw[Sort.partLoop]at s;generalize mV:Sort.partLoop lt a (i+1) (j-1) d2=G at s bu;simp;refine H.loopA k [1,4,11] (fun(x:Nat)=>[(10,aj x)]) (fun _=>c) (fun x=>b+1-x) (fun x=>K<=x/\x<=dg+1/\Sort.scanUp (fun x=>lt x c[a]!) c dg x=Sort.scanUp (fun x=>lt x c[a]!) c dg K) K f ⟨Ω,Ω,rfl⟩ (by simp[ad]) aW aW dl ?_;rintro p ⟨cY,dF,u⟩;simp[ad,H.slc];((repeat' first|refine aq ?_|simp[ad,H.slc]|((first|apply cu|apply cy|apply cx)<;>intro h<;>try simp at h))<;>(try exact c4))
    ·refine H.lessA f p a Ω Ω fun o=>?_;cases J:lt c[p]! c[a]!;rotate_left
     ·have E:((p:Int)+1)=(p+1:Nat):=Ω
      simp;(repeat' first|refine aq ?_|simp);rw[E];refine bV.whl (p+1) Ω ⟨Ω,Ω,by rw[<-u];exact(Px (p:=fun x=>lt x c[a]!) Ω J).symm⟩ (H.weakC k (by simpa using f) dl)
     ·have B:Sort.scanUp (fun x=>lt x c[a]!) c dg p=p:=Co (by simp[J]);rw[B]at u;simp only[<-u]at s;simp;refine H.loopA k [1,4,10] (fun(x:Nat)=>[(11,aj x)]) (fun _=>c) (fun x=>x) (fun x=>p<=x+1/\x<=dg/\Sort.scanDown (fun x=> !lt x c[a]!) c p x=Sort.scanDown (fun x=> !lt x c[a]!) c p dg) dg f ⟨Ω,Ω,rfl⟩ (by simp[ad]) aW aW dl ?_;rintro q ⟨a6,bB,y⟩;simp[ad,H.slc];((repeat' first|refine aq ?_|simp[ad,H.slc,H.ssc]|((first|apply cu|apply cy|apply cx)<;>intro h<;>try simp at h))<;>(try exact c4))
      ·refine H.lessA f q a Ω Ω fun o=>?_;cases z:lt c[q]! c[a]!
       ·obtain⟨q,rfl⟩:∃dg,q=dg+1:=⟨q-1,Ω⟩;have F:(((q+1:Nat):Int)-1)=(q:Nat):=Ω
        simp;(repeat' first|refine aq ?_|simp);try rw[F]
        refine bV.whl q Ω ⟨Ω,Ω,by rw[<-y];exact(Pw (p:=fun x=> !lt x c[a]!) Ω (by simp[z])).symm⟩ (H.weakC k (by simpa using f) dl)
       ·have w:Sort.scanDown (fun x=> !lt x c[a]!) c p q=q:=wF (by simp[z]);have Y:p≠q:=fun e=>by subst e;rw[J]at z;cases z
        rw[w]at y;simp only[<-y]at s;rw[if_neg Ω,dif_pos Ω]at s;simp;((repeat' first|refine aq ?_|simp[ad,H.slc,H.ssc]|((first|apply cu|apply cy|apply cx)<;>intro h<;>try simp at h))<;>(try exact c4));refine H.swapA f Ω p q Ω Ω fun o=>?_;have X:((p:Int)+1)=(p+1:Nat):=Ω
        have W:((q:Int)-1)=(q-1:Nat):=Ω
        simp;(with_reducible repeat' first|((first|apply cu|apply cy|apply cx)<;>intro h<;>try simp at h)|refine aq ?_|simp);rw[X,W];refine bV.whl ((p+1,q-1),Sort.swp c p q) d6 ⟨by rw[hL,f],⟨by simp;omega,by simp;omega,by simp;omega⟩,s⟩ (H.weakC k (by simp[hL,f]) dl)
      ·have w:Sort.scanDown (fun x=> !lt x c[a]!) c p q=q:=wF Ω;rw[w]at y;simp only[<-y]at s;rw[if_pos Ω]at s;rw[<-s]at bu;refine H.swapA f Ω q a Ω Ω fun o=>?_;simp;refine H.retR k (d:=Sort.swp c q a) (by rw[hL,f]) (.inl rfl) ?_;simp[c9,ba,bd,a1];rw[bu];exact⟨⟨rfl,rfl⟩,_,rfl,rfl,by rw[hL,f]⟩
    ·have B:Sort.scanUp (fun x=>lt x c[a]!) c dg p=p:=Co Ω;rw[B]at u;simp only[<-u]at s;have w:Sort.scanDown (fun x=> !lt x c[a]!) c p dg=dg:=wF Ω;rw[w,if_pos Ω]at s;rw[<-s]at bu;refine H.loopA k [1,4,10] (fun(x:Nat)=>[(11,aj x)]) (fun _=>c) (fun x=>x) (fun x=>x=dg) dg f rfl (by simp[ad]) aW aW dl ?_;rintro q rfl;simp[ad,H.slc];((repeat' first|refine aq ?_|simp[ad,H.slc,H.ssc]|((first|apply cu|apply cy|apply cx)<;>intro h<;>try simp at h))<;>(try exact c4));refine H.swapA f Ω q a Ω Ω fun o=>?_;simp;refine H.retR k (d:=Sort.swp c q a) (by rw[hL,f]) (.inl rfl) ?_;simp[c9,ba,bd,a1];rw[bu];exact⟨⟨rfl,rfl⟩,_,rfl,rfl,by rw[hL,f]⟩
  ·have t:Sort.scanDown (fun x=> !lt x d1[a]!) d1 i j=j:=wF Ω;rw[t]at v;rw[<-v,if_pos Ω]at bu;refine H.swapA s1 Ω j a Ω Ω fun o=>?_;simp;refine H.retR k (d:=Sort.swp d1 j a) (by rw[hL,s1]) (.inl rfl) ?_;simp[c9,ba,bd,a1];rw[bu];exact⟨⟨rfl,rfl⟩,_,rfl,rfl,by rw[hL,s1]⟩
 ·have i4:Sort.scanUp (fun x=>lt x d1[a]!) d1 (b-1) i=i:=Co Ω;rw[i4]at i3;have t:Sort.scanDown (fun x=> !lt x d1[a]!) d1 i (b-1)=b-1:=wF Ω;rw[<-i3,t,if_pos Ω]at bu;refine H.loopA k [1,4,10] (fun(j:Nat)=>[(11,aj j)]) (fun _=>d1) (fun j=>j) (fun j=>j=b-1) (b-1) s1 rfl (by simp[ad]) aW aW dl ?_;rintro j rfl;simp[ad,H.slc];((repeat' first|refine aq ?_|simp[ad,H.slc,H.ssc]|((first|apply cu|apply cy|apply cx)<;>intro h<;>try simp at h))<;>(try exact c4));refine H.swapA s1 Ω (b-1) a Ω Ω fun o=>?_;simp;refine H.retR k (d:=Sort.swp d1 (b-1) a) (by rw[hL,s1]) (.inl rfl) ?_;simp[c9,ba,bd,a1];rw[bu];exact⟨⟨rfl,rfl⟩,_,rfl,rfl,by rw[hL,s1]⟩
end
section
open Go Go.Pv
variable {α:Type} [Inhabited α] {S:List α->cQ} {n g cp:Nat} {lc cg:List af} {lt:α->α->Bool}
def aif(H:fQ S n g cp lc cg lt)(d:Array α)(B:d.size=n)(a b pivot:Nat)(W:a<=pivot)(U:pivot<b)(X:a+1<b)(ag:b<=n):
  bD au 243 [fC g cp lc cg,aj a,aj b,aj pivot] (S d.toList) fun r Q=>r=aj (Sort.partitionEqual lt d a b pivot).1/\∃A,Q=S A.toList/\A=(Sort.partitionEqual lt d a b pivot).2/\A.size=n:=by
 obtain⟨R,bu⟩:∃R,R=Sort.partitionEqual lt d a b pivot:=⟨_,rfl⟩;rw[<-bu];unfold Sort.partitionEqual at bu;have E:=H.ok d.toList;have j:d.toList.length=n:=by simpa using B
 have F:∀l m,ad (.loc m) (S l).b=none:=fun l=>(H.ok l).obj.1;have hu:∀l m cs,cH (.loc m) cs (S l).b=(S l).b++[(.loc m,cs)]:=fun l m cs=>kH (F l m);have ar:∀m,aA.loc m∉cI (S d.toList):=kE E.obj;have hle:=H.le;refine bD.mk mixed a7 Tryz.func243 anK Ψ E.obj fun aT cZ=>?_;unfold Sz;simp[fC,hu,ar,c0,F];rw[H.ssc];refine H.swapA0 B Ω a pivot Ω Ω fun o=>?_;obtain⟨d1,z⟩:∃d1,d1=Sort.swp d a pivot:=⟨_,rfl⟩;have s1:d1.size=n:=by rw[z,hL,B]
 rw[<-z];rw[<-z]at bu;have P:((a:Int)+1)=(a+1:Nat):=Ω
 have V:((b:Int)-1)=(b-1:Nat):=Ω
 simp;(repeat' first|refine aq ?_|simp);rw[P,V];refine H.loopA j [1,4] (fun(x:(Nat×Nat)×Array α)=>[(9,aj x.1.1),(10,aj x.1.2)]) (·.2) (fun x=>x.1.2+1-x.1.1) (fun x=>x.2.size=n/\(a+1<=x.1.1/\x.1.1<=x.1.2+1/\x.1.2<=b-1)/\Sort.partEqLoop lt a x.1.1 x.1.2 x.2=R) ((a+1,b-1),d1) s1 ⟨s1,⟨Ψ,by simp;omega,Ψ⟩,bu.symm⟩ (by simp[ad]) aW aW dl ?_;rintro⟨⟨y,dg⟩,c⟩ ⟨f,⟨O,N,K⟩,i⟩;simp only at f O N K i;rw[Sort.partEqLoop]at i;simp;refine H.loopA j [1,4,10] (fun(x:Nat)=>[(9,aj x)]) (fun _=>c) (fun x=>b+1-x) (fun x=>y<=x/\x<=dg+1/\Sort.scanUp (fun x=> !lt c[a]! x) c dg x=Sort.scanUp (fun x=> !lt c[a]! x) c dg y) y f ⟨Ω,Ω,rfl⟩ (by simp[ad]) aW aW dl ?_;rintro p ⟨cY,Y,k⟩;simp[ad,H.slc];((repeat' first|refine aq ?_|simp[ad,H.slc]|((first|apply cu|apply cy|apply cx)<;>intro h<;>try simp at h))<;>(try exact c4))
 ·refine H.lessA f a p Ω Ω fun o=>?_;cases w:lt c[a]! c[p]!
  ·have G:((p:Int)+1)=(p+1:Nat):=Ω
   simp;(repeat' first|refine aq ?_|simp);rw[G];refine bV.whl (p+1) Ω ⟨Ω,Ω,by rw[<-k];exact(Px (p:=fun x=> !lt c[a]! x) Ω (by simp[w])).symm⟩ (H.weakC j (by simpa using f) dl)
  ·have v:Sort.scanUp (fun x=> !lt c[a]! x) c dg p=p:=Co (by simp[w]);rw[v]at k;simp only[<-k]at i;simp;refine H.loopA j [1,4,9] (fun(x:Nat)=>[(10,aj x)]) (fun _=>c) (fun x=>x) (fun x=>p<=x+1/\x<=dg/\Sort.scanDown (fun x=>lt c[a]! x) c p x=Sort.scanDown (fun x=>lt c[a]! x) c p dg) dg f ⟨Ω,Ω,rfl⟩ (by simp[ad]) aW aW dl ?_;rintro q ⟨a6,bB,t⟩;simp[ad,H.slc];((repeat' first|refine aq ?_|simp[ad,H.slc,H.ssc]|((first|apply cu|apply cy|apply cx)<;>intro h<;>try simp at h))<;>(try exact c4))
   ·refine H.lessA f a q Ω Ω fun o=>?_;cases u:lt c[a]! c[q]!;rotate_left
    ·obtain⟨q,rfl⟩:∃dg,q=dg+1:=⟨q-1,Ω⟩;have J:(((q+1:Nat):Int)-1)=(q:Nat):=Ω
     simp;(repeat' first|refine aq ?_|simp);try rw[J]
     refine bV.whl q Ω ⟨Ω,Ω,by rw[<-t];exact(Pw (p:=fun x=>lt c[a]! x) Ω (by simp[u])).symm⟩ (H.weakC j (by simpa using f) dl)
    ·have s:Sort.scanDown (fun x=>lt c[a]! x) c p q=q:=wF (by simp[u]);have Z:p≠q:=fun e=>by subst e;rw[w]at u;cases u
     rw[s]at t;simp only[<-t]at i;rw[if_neg Ω,dif_pos Ω]at i;simp;((repeat' first|refine aq ?_|simp[ad,H.slc,H.ssc]|((first|apply cu|apply cy|apply cx)<;>intro h<;>try simp at h))<;>(try exact c4));refine H.swapA f Ω p q Ω Ω fun o=>?_;have M:((p:Int)+1)=(p+1:Nat):=Ω
     have L:((q:Int)-1)=(q-1:Nat):=Ω
     simp;(with_reducible repeat' first|((first|apply cu|apply cy|apply cx)<;>intro h<;>try simp at h)|refine aq ?_|simp);rw[M,L];refine bV.whl ((p+1,q-1),Sort.swp c p q) d6 ⟨by rw[hL,f],⟨by simp;omega,by simp;omega,by simp;omega⟩,i⟩ (H.weakC j (by simp[hL,f]) dl)
   ·have s:Sort.scanDown (fun x=>lt c[a]! x) c p q=q:=wF Ω;rw[s]at t;simp only[<-t]at i;rw[if_pos Ω]at i;refine H.retR j (d:=c) f (.inl rfl) ?_;simp[c9,ba,bd,a1];rw[<-i];exact⟨rfl,_,rfl,rfl,f⟩
 ·have v:Sort.scanUp (fun x=> !lt c[a]! x) c dg p=p:=Co Ω;rw[v]at k;simp only[<-k]at i;have s:Sort.scanDown (fun x=>lt c[a]! x) c p dg=dg:=wF Ω;rw[s,if_pos Ω]at i;refine H.loopA j [1,4,9] (fun(x:Nat)=>[(10,aj x)]) (fun _=>c) (fun x=>x) (fun x=>x=dg) dg f rfl (by simp[ad]) aW aW dl ?_;rintro q rfl;simp[ad,H.slc];((repeat' first|refine aq ?_|simp[ad,H.slc,H.ssc]|((first|apply cu|apply cy|apply cx)<;>intro h<;>try simp at h))<;>(try exact c4));refine H.retR j (d:=c) f (.inl rfl) ?_;simp[c9,ba,bd,a1];rw[<-i];exact⟨rfl,_,rfl,rfl,f⟩
end
section
open Go Go.Pv
variable {α:Type} [Inhabited α] {S:List α->cQ} {n g cp:Nat} {lc cg:List af} {lt:α->α->Bool}
def aid(H:fQ S n g cp lc cg lt)(d:Array α)(W:d.size=n)(a b:Nat)(mX:a<b)(ag:b<=n)(U:2<=n):
  bD au 242 [fC g cp lc cg,aj a,aj b] (S d.toList) fun r ak=>r= .bool (Sort.partialInsertionSort lt d a b).2/\∃Q,ak=S Q.toList/\Q=(Sort.partialInsertionSort lt d a b).1/\Q.size=n:=by
 obtain⟨R,bu⟩:∃R,R=Sort.partialInsertionSort lt d a b:=⟨_,rfl⟩;rw[<-bu];unfold Sort.partialInsertionSort at bu;have Z:=H.ok d.toList;have k:d.toList.length=n:=by simpa using W
 have X:∀l m,ad (.loc m) (S l).b=none:=fun l=>(H.ok l).obj.1;have hu:∀l m cs,cH (.loc m) cs (S l).b=(S l).b++[(.loc m,cs)]:=fun l m cs=>kH (X l m);have ar:∀m,aA.loc m∉cI (S d.toList):=kE Z.obj;have hle:=H.le;refine bD.mk mixed a7 Tryz.func242 anJ Ψ Z.obj fun aT cZ=>?_;unfold Sy;simp[fC,hu,ar,c0,X];have al:((a:Int)+1)=(a+1:Nat):=Ω
 (repeat' first|refine aq ?_|simp);rw[al];refine H.loopA k [1,2,3] (fun(x:(Nat×Nat)×Array α)=>[(7,aj x.1.1),(8,aj x.1.2)]) (·.2) (fun x=>5-x.1.2) (fun x=>x.2.size=n/\(a+1<=x.1.1/\x.1.1<=b/\x.1.2<=5)/\Sort.partialIns lt a b (5-x.1.2) x.1.1 x.2=R) ((a+1,0),d) W ⟨W,⟨Ψ,by simp;omega,Ψ⟩,bu.symm⟩ (by simp[c0,X]) aW aW dl ?_;rintro⟨⟨i0,s⟩,z⟩ ⟨w,⟨bY,cE,fv⟩,c⟩;simp only at w bY cE fv c;simp;((repeat' first|refine aq ?_|simp|((first|apply cu|apply cy|apply cx)<;>intro h<;>try simp at h))<;>(try exact c4))
 ·obtain⟨m,hm⟩:∃m,5-s=m+1:=⟨5-s-1,Ω⟩;rw[hm,Sort.partialIns]at c;refine H.loopA k [1,2,3,8] (fun(x:Nat)=>[(7,aj x)]) (fun _=>z) (fun x=>b-x) (fun x=>i0<=x/\x<=b/\Sort.scanSorted lt z b x=Sort.scanSorted lt z b i0) i0 w ⟨Ω,Ω,rfl⟩ (by simp[ad]) aW aW dl ?_;rintro i ⟨i1,i2,i3⟩;rw[Sort.scanSorted]at i3;have M:((i:Int)+1)=(i+1:Nat):=Ω
  have N:((i:Int)-1)=(i-1:Nat):=Ω
  have es:((s:Int)+1)=(s+1:Nat):=Ω
  have em:5-(s+1)=m:=Ω
  simp[ad,H.slc];((repeat' first|refine aq ?_|simp[ad,H.slc]|((first|apply cu|apply cy|apply cx)<;>intro h<;>try simp at h))<;>(try exact c4))
  ·rw[N];refine H.lessA w i (i-1) Ω Ω fun o=>?_;cases ae:lt z[i]! z[i-1]!
   ·rw[if_pos (by simp[ae];omega)]at i3;simp;(repeat' first|refine aq ?_|simp);rw[M];refine bV.whl (i+1) Ω ⟨Ω,Ω,i3⟩ (H.weakC k (by simpa using w) dl)
   ·rw[if_neg (by simp[ae])]at i3;simp only[<-i3]at c;rw[if_neg Ω]at c;have Bc:(i:Int)≠b:=Ω
    have V:((i:Int)==b)=false:=by simp;omega
    simp;((repeat' first|refine aq ?_|simp[Bc,V,ad,H.slc,H.ssc]|((first|apply cu|apply cy|apply cx)<;>intro h<;>try simp at h))<;>(try exact c4))
    ·rw[if_pos Ω]at c;refine H.retR k (d:=z) w (.inl rfl) ?_;simp[c9,ba,bd,a1];rw[<-c];exact⟨rfl,_,rfl,rfl,w⟩
    ·rw[if_neg Ω]at c;rw[N];refine H.swapA w U i (i-1) Ω Ω fun o=>?_;obtain⟨d2,P⟩:∃d2,d2=Sort.swp z i (i-1):=⟨_,rfl⟩;have s2:d2.size=n:=by rw[P,hL,w]
     rw[<-P];simp only[<-P]at c;by_cases Y:2<=b-i
     ·rw[if_pos Y]at c;have y:(2:Int)<=(b:Int)-i:=Ω
      by_cases L:2<=i-a
      ·rw[if_pos L]at c;have B:(2:Int)<=(i:Int)-a:=Ω
       simp;(repeat' first|refine aq ?_|simp[B]);rw[N];refine H.loopA k [1,2,3,7,8] (fun(x:Nat×Array α)=>[(9,aj x.1)]) (·.2) (fun x=>x.1) (fun x=>x.2.size=n/\x.1<=i-1/\Sort.shiftDown lt x.1 x.2=Sort.shiftDown lt (i-1) d2) (i-1,d2) s2 ⟨s2,Ψ,rfl⟩ (by simp[ad]) aW aW dl ?_;rintro⟨j,v⟩ ⟨p,O,u⟩;simp only at p O u;simp[ad,H.slc,H.ssc];((repeat' first|refine aq ?_|simp[ad,H.slc,H.ssc,y]|((first|apply cu|apply cy|apply cx)<;>intro h<;>try simp at h))<;>(try exact c4))
       ·obtain⟨j,rfl⟩:∃dg,j=dg+1:=⟨j-1,Ω⟩;have E:(((j+1:Nat):Int)-1)=(j:Nat):=Ω
        rw[Sort.shiftDown]at u;try rw[E]
        refine H.lessA p (j+1) j Ω Ω fun o=>?_;cases J:lt v[j+1]! v[j]!
        ·rw[if_pos (by simp[J])]at u;rw[<-u]at c;try simp
         try(repeat' first|refine aq ?_|simp[ad,H.slc,H.ssc,y])
         rw[M];refine H.loopA k [1,2,3,7,8] (fun(x:Nat×Array α)=>[(10,aj x.1)]) (·.2) (fun x=>b-x.1) (fun x=>x.2.size=n/\(i+1<=x.1/\x.1<=b)/\Sort.shiftUp lt b x.1 x.2=Sort.shiftUp lt b (i+1) v) (i+1,v) p ⟨p,⟨Ψ,by simp;omega⟩,rfl⟩ (by simp[ad]) aW aW dl ?_;rintro⟨q,t⟩ ⟨f,⟨G,F⟩,e⟩;simp only at f G F e;rw[Sort.shiftUp]at e;have eq:((q:Int)-1)=(q-1:Nat):=Ω
         have K:((q:Int)+1)=(q+1:Nat):=Ω
         simp[ad,H.slc,H.ssc];((repeat' first|refine aq ?_|simp[ad,H.slc,H.ssc]|((first|apply cu|apply cy|apply cx)<;>intro h<;>try simp at h))<;>(try exact c4))
         ·rw[if_pos Ω]at e;rw[eq];refine H.lessA f q (q-1) Ω Ω fun o=>?_;cases A:lt t[q]! t[q-1]!
          ·rw[if_pos (by simp[A])]at e;rw[<-e]at c;simp;(repeat' first|refine aq ?_|simp);rw[es];refine bV.whl ((i,s+1),t) d6 ⟨f,⟨by simp;omega,by simp;omega,by simp;omega⟩,by simp only[em];exact c⟩ (H.weakC k (by simpa using f) dl)
          ·rw[if_neg (by simp[A])]at e;simp;(repeat' first|refine aq ?_|simp[ad,H.slc,H.ssc]);rw[eq];refine H.swapA f Ω q (q-1) Ω Ω fun o=>?_;simp;((repeat' first|refine aq ?_|simp|((first|apply cu|apply cy|apply cx)<;>intro h<;>try simp at h))<;>(try exact c4));rw[K];refine bV.whl (q+1,Sort.swp t q (q-1)) d6 ⟨by rw[hL,f],⟨by simp;omega,by simp;omega⟩,e⟩ (H.weakC k (by simp[hL,f]) dl)
         ·rw[if_neg Ω]at e;rw[<-e]at c;rw[es];refine bV.whl ((i,s+1),t) d6 ⟨f,⟨by simp;omega,by simp;omega,by simp;omega⟩,by simp only[em];exact c⟩ (H.weakC k (by simpa using f) dl)
        ·rw[if_neg (by simp[J])]at u;simp;(repeat' first|refine aq ?_|simp[ad,H.slc,H.ssc]);try rw[E]
         refine H.swapA p U (j+1) j Ω Ω fun o=>?_;simp;((repeat' first|refine aq ?_|simp|((first|apply cu|apply cy|apply cx)<;>intro h<;>try simp at h))<;>(try exact c4));try rw[E]
         refine bV.whl (j,Sort.swp v (j+1) j) Ψ ⟨by rw[hL,p],by simp;omega,u⟩ (H.weakC k (by simp[hL,p]) dl)
       ·obtain rfl:j=0:=Ω
        rw[Sort.shiftDown]at u;rw[<-u]at c;try simp
        try(repeat' first|refine aq ?_|simp[ad,H.slc,H.ssc,y])
        rw[M];refine H.loopA k [1,2,3,7,8] (fun(x:Nat×Array α)=>[(10,aj x.1)]) (·.2) (fun x=>b-x.1) (fun x=>x.2.size=n/\(i+1<=x.1/\x.1<=b)/\Sort.shiftUp lt b x.1 x.2=Sort.shiftUp lt b (i+1) v) (i+1,v) p ⟨p,⟨Ψ,by simp;omega⟩,rfl⟩ (by simp[ad]) aW aW dl ?_;rintro⟨q,t⟩ ⟨f,⟨G,F⟩,e⟩;simp only at f G F e;rw[Sort.shiftUp]at e;have eq:((q:Int)-1)=(q-1:Nat):=Ω
        have K:((q:Int)+1)=(q+1:Nat):=Ω
        simp[ad,H.slc,H.ssc];((repeat' first|refine aq ?_|simp[ad,H.slc,H.ssc]|((first|apply cu|apply cy|apply cx)<;>intro h<;>try simp at h))<;>(try exact c4))
        ·rw[if_pos Ω]at e;rw[eq];refine H.lessA f q (q-1) Ω Ω fun o=>?_;cases A:lt t[q]! t[q-1]!
         ·rw[if_pos (by simp[A])]at e;rw[<-e]at c;simp;(repeat' first|refine aq ?_|simp);rw[es];refine bV.whl ((i,s+1),t) d6 ⟨f,⟨by simp;omega,by simp;omega,by simp;omega⟩,by simp only[em];exact c⟩ (H.weakC k (by simpa using f) dl)
         ·rw[if_neg (by simp[A])]at e;simp;(repeat' first|refine aq ?_|simp[ad,H.slc,H.ssc]);rw[eq];refine H.swapA f Ω q (q-1) Ω Ω fun o=>?_;simp;((repeat' first|refine aq ?_|simp|((first|apply cu|apply cy|apply cx)<;>intro h<;>try simp at h))<;>(try exact c4));rw[K];refine bV.whl (q+1,Sort.swp t q (q-1)) d6 ⟨by rw[hL,f],⟨by simp;omega,by simp;omega⟩,e⟩ (H.weakC k (by simp[hL,f]) dl)
        ·rw[if_neg Ω]at e;rw[<-e]at c;rw[es];refine bV.whl ((i,s+1),t) d6 ⟨f,⟨by simp;omega,by simp;omega,by simp;omega⟩,by simp only[em];exact c⟩ (H.weakC k (by simpa using f) dl)
      ·rw[if_neg L]at c;have B:¬(2:Int)<=(i:Int)-a:=Ω
       simp;(repeat' first|refine aq ?_|simp[B,y]);try simp
       try(repeat' first|refine aq ?_|simp[ad,H.slc,H.ssc,y])
       rw[M];refine H.loopA k [1,2,3,7,8] (fun(x:Nat×Array α)=>[(10,aj x.1)]) (·.2) (fun x=>b-x.1) (fun x=>x.2.size=n/\(i+1<=x.1/\x.1<=b)/\Sort.shiftUp lt b x.1 x.2=Sort.shiftUp lt b (i+1) d2) (i+1,d2) s2 ⟨s2,⟨Ψ,by simp;omega⟩,rfl⟩ (by simp[ad]) aW aW dl ?_;rintro⟨q,t⟩ ⟨f,⟨G,F⟩,e⟩;simp only at f G F e;rw[Sort.shiftUp]at e;have eq:((q:Int)-1)=(q-1:Nat):=Ω
       have K:((q:Int)+1)=(q+1:Nat):=Ω
       simp[ad,H.slc,H.ssc];((repeat' first|refine aq ?_|simp[ad,H.slc,H.ssc]|((first|apply cu|apply cy|apply cx)<;>intro h<;>try simp at h))<;>(try exact c4))
       ·rw[if_pos Ω]at e;rw[eq];refine H.lessA f q (q-1) Ω Ω fun o=>?_;cases A:lt t[q]! t[q-1]!
        ·rw[if_pos (by simp[A])]at e;rw[<-e]at c;simp;(repeat' first|refine aq ?_|simp);rw[es];refine bV.whl ((i,s+1),t) d6 ⟨f,⟨by simp;omega,by simp;omega,by simp;omega⟩,by simp only[em];exact c⟩ (H.weakC k (by simpa using f) dl)
        ·rw[if_neg (by simp[A])]at e;simp;(repeat' first|refine aq ?_|simp[ad,H.slc,H.ssc]);rw[eq];refine H.swapA f Ω q (q-1) Ω Ω fun o=>?_;simp;((repeat' first|refine aq ?_|simp|((first|apply cu|apply cy|apply cx)<;>intro h<;>try simp at h))<;>(try exact c4));rw[K];refine bV.whl (q+1,Sort.swp t q (q-1)) d6 ⟨by rw[hL,f],⟨by simp;omega,by simp;omega⟩,e⟩ (H.weakC k (by simp[hL,f]) dl)
       ·rw[if_neg Ω]at e;rw[<-e]at c;rw[es];refine bV.whl ((i,s+1),t) d6 ⟨f,⟨by simp;omega,by simp;omega,by simp;omega⟩,by simp only[em];exact c⟩ (H.weakC k (by simpa using f) dl)
     ·rw[if_neg Y]at c;have y:¬(2:Int)<=(b:Int)-i:=Ω
      by_cases L:2<=i-a
      ·rw[if_pos L]at c;have B:(2:Int)<=(i:Int)-a:=Ω
       simp;(repeat' first|refine aq ?_|simp[B]);rw[N];refine H.loopA k [1,2,3,7,8] (fun(x:Nat×Array α)=>[(9,aj x.1)]) (·.2) (fun x=>x.1) (fun x=>x.2.size=n/\x.1<=i-1/\Sort.shiftDown lt x.1 x.2=Sort.shiftDown lt (i-1) d2) (i-1,d2) s2 ⟨s2,Ψ,rfl⟩ (by simp[ad]) aW aW dl ?_;rintro⟨j,v⟩ ⟨p,O,u⟩;simp only at p O u;simp[ad,H.slc,H.ssc];((repeat' first|refine aq ?_|simp[ad,H.slc,H.ssc,y]|((first|apply cu|apply cy|apply cx)<;>intro h<;>try simp at h))<;>(try exact c4))
       ·obtain⟨j,rfl⟩:∃dg,j=dg+1:=⟨j-1,Ω⟩;have E:(((j+1:Nat):Int)-1)=(j:Nat):=Ω
        rw[Sort.shiftDown]at u;try rw[E]
        refine H.lessA p (j+1) j Ω Ω fun o=>?_;cases J:lt v[j+1]! v[j]!
        ·rw[if_pos (by simp[J])]at u;rw[<-u]at c;try simp
         try(repeat' first|refine aq ?_|simp[ad,H.slc,H.ssc,y])
         rw[es];refine bV.whl ((i,s+1),v) d6 ⟨p,⟨by simp;omega,by simp;omega,by simp;omega⟩,by simp only[em];exact c⟩ (H.weakC k (by simpa using p) dl)
        ·rw[if_neg (by simp[J])]at u;simp;(repeat' first|refine aq ?_|simp[ad,H.slc,H.ssc]);try rw[E]
         refine H.swapA p U (j+1) j Ω Ω fun o=>?_;simp;((repeat' first|refine aq ?_|simp|((first|apply cu|apply cy|apply cx)<;>intro h<;>try simp at h))<;>(try exact c4));try rw[E]
         refine bV.whl (j,Sort.swp v (j+1) j) Ψ ⟨by rw[hL,p],by simp;omega,u⟩ (H.weakC k (by simp[hL,p]) dl)
       ·obtain rfl:j=0:=Ω
        rw[Sort.shiftDown]at u;rw[<-u]at c;try simp
        try(repeat' first|refine aq ?_|simp[ad,H.slc,H.ssc,y])
        rw[es];refine bV.whl ((i,s+1),v) d6 ⟨p,⟨by simp;omega,by simp;omega,by simp;omega⟩,by simp only[em];exact c⟩ (H.weakC k (by simpa using p) dl)
      ·rw[if_neg L]at c;have B:¬(2:Int)<=(i:Int)-a:=Ω
       simp;((repeat' first|refine aq ?_|simp[B,y]|((first|apply cu|apply cy|apply cx)<;>intro h<;>try simp at h))<;>(try exact c4));done
  ·rw[if_neg d6]at i3;simp only[<-i3]at c;rw[if_pos Ω]at c;refine H.retR k (d:=z) w (.inl rfl) ?_;simp[c9,ba,bd,a1];rw[<-c];exact⟨rfl,_,rfl,rfl,w⟩
 ·have:5-s=0:=Ω
  rw[this,Sort.partialIns]at c;refine H.retR k (d:=z) w (.inl rfl) ?_;simp[c9,ba,bd,a1];rw[<-c];exact⟨rfl,_,rfl,rfl,w⟩
end
section
open Go Go.Pv
variable {α:Type} [Inhabited α] {S:List α->cQ} {n g cp:Nat} {lc cg:List af} {lt:α->α->Bool}
def fV(S:List α->cQ)(d:Array α)(v:Nat):cQ:=⟨(.obj 901,[aj v])::(S d.toList).b,(S d.toList).e⟩
def tv(S:List α->cQ)(m:Nat):Prop:= ∀l,ad (.obj m) (S l).b=none/\ad (.obj m) (S l).e=none
def oO(H:fQ S n g cp lc cg lt)(d:Array α)(v:Nat):eB (fV S d v):=by
 have h:=H.ok d.toList;have b:∀k,aK (S d.toList) k->aK (fV S d v) k:=fun k a=>by
  rcases a with a|a
  ·refine .inl ?_;simp only[fV,ad];split
   ·rfl
   ·exact a
  ·exact .inr a
 refine⟨⟨fun m=>?_,h.obj.2⟩,fun k cs a=>?_,fun k o ar xs c=>jd b _ (h.ke k o ar xs c)⟩
 ·simp[fV,ad,h.obj.1 m]
 ·simp only[fV,ad]at a;split at a
  ·cases a;simp[aH,az]
  ·exact jd b _ (h.kb k cs a)
def tW(d:Array α)(v v':Nat):Same (fV S d v) (fV S d v'):=⟨fun k=>by simp only[fV,ad];split<;>rfl,fun _=>rfl⟩
def LP(H:fQ S n g cp lc cg lt)(u:tv S 901)(d:Array α)(B:d.size=n)(a b v:Nat)(K:a<n)(L:b<n)(N:v<=1000):
  bD au 271 [fC g cp lc cg,aj a,aj b,.ptr (.obj 901) 0] (fV S d v) fun r f=>r= .tuple [aj (Sort.order2 lt d a b v).1,aj (Sort.order2 lt d a b v).2.1]/\f=fV S d (Sort.order2 lt d a b v).2.2:=by
 have z:=H.ok d.toList;have s:d.toList.length=n:=by simpa using B
 have h:∀l m,ad (.loc m) (S l).b=none:=fun l=>(H.ok l).obj.1;have hu:∀l m cs,cH (.loc m) cs (S l).b=(S l).b++[(.loc m,cs)]:=fun l m cs=>kH (h l m);have ar:∀m,aA.loc m∉cI (S d.toList):=kE z.obj;have p:∀l,ad (.obj 901) (S l).b=none:=fun l=>(u l).1;have G:∀l,ad (.obj 901) (S l).e=none:=fun l=>(u l).2;have hle:=H.le;have j:=oO H d v;obtain⟨R,bu⟩:∃R,R=Sort.order2 lt d a b v:=⟨_,rfl⟩;rw[<-bu];unfold Sort.order2 at bu;refine bD.mk mixed a7 Tryz.func271 anI Ψ j.obj fun M J=>?_;unfold Sx;have i:aA.loc 0∉cI (fV S d v):=kE j.obj 0;generalize F:cI (fV S d v)=ob at i⊢;unfold fV;simp[fC,hu,i,c0,h,ad,cH];rw[H.slc];refine CallDo.ob (H.less d.toList s b a _ _ (Ap Ω) (Ap Ω)) (H.ok _) (fun k cs c=>?_) (fun _ _ c=>c) (by simp[az,aH,H.klc d.toList s]) ?_
 ·simp only[ad];split
  ·rename_i e;subst e;rw[p]at c;cases c
  ·rw[c0,c]
 rintro r f ⟨rfl,rfl⟩;refine⟨Same.refl _,?_⟩;have hw:cJ (S d.toList).b ((aA.obj 901,[af.int .i64 v])::((S d.toList).b++[(aA.loc 0,[af.func g lc,af.func cp cg])]))=[(aA.obj 901,[af.int .i64 v]),(aA.loc 0,[af.func g lc,af.func cp cg])]:=by simp only[cJ,p];rw[jt,hM];simp[cJ,h]
 rw[hw,hM];have q:∀(t:List (Nat×af)) (o:List aA) (v':Nat) (aX:List af) (x y:Nat),Pv.get 8 t=aj x->Pv.get 9 t=aj y->R=(x,y,v')->
   c3 [.tmp 8,.tmp 9] (fV S d v) (fun r f=>r= .tuple [aj R.1,aj R.2.1]/\f=fV S d R.2.2) .ret ⟨t,(aA.obj 901,[aj v'])::(aA.loc 0,aX)::(S d.toList).b,(S d.toList).e,1,o⟩:=by
  rintro t o v' aX x y c A rfl;refine c3.at (fV S d v') (.inl rfl) (oO H d v') (tW _ _ _) (fun k cs aw=>?_) (fun _ _ aw=>aw) ?_
  ·simp only[fV,ad]at aw⊢;split at aw
   ·rename_i e;rw[if_pos e];exact aw
   ·rename_i e;rw[if_neg e];split
    ·rename_i E;subst E;rw[h]at aw;cases aw
    ·exact aw
  ·simp[c9,ba,bd,a1,c,A]
 cases c:lt d[b]! d[a]! with
 |true=>
  rw[if_pos c]at bu;simp[ad,cH];(with_reducible repeat' first|refine aq ?_|simp[ad,cH]);have w:((v:Int)+1)=(v+1:Nat):=Ω
  rw[w];exact q _ _ (v+1) _ b a rfl rfl bu
 |false=>rw[if_neg (by simp[c])]at bu;simp[ad,cH];exact q _ _ v _ a b rfl rfl bu
def Yi{s a:cQ}{f:Nat}{args:List af}{r:af}(l:bD au f args s fun g t'=>g=r/\t'=a)(c:eB s)(e:Same s a)(j:aH (aK s) args){t:List (Nat×af)}{aX:List af}{o:List aA}{d:bc Nat}{K:bo->Prop}
  (h:∀o,K ⟨e3 d r t,(.loc 0,aX)::a.b,a.e,1,o⟩):CallDo au f args ⟨t,s.b++[(.loc 0,aX)],s.e,1,o⟩ d K:=by
 refine CallDo.ob l c (fun k cs b=>by rw[c0,b]) (fun _ _ b=>b) j ?_;rintro r a ⟨rfl,rfl⟩;refine⟨e,?_⟩;have i:cJ s.b (s.b++[(.loc 0,aX)])=[(.loc 0,aX)]:=by rw[jt,hM];simp[cJ,c.obj.1 0]
 have m:cJ s.e s.e=[]:=hM _;simp only[i,m];exact h _
def EF{s a:cQ}{f:Nat}{args:List af}{r:af}(l:bD au f args s fun g t'=>g=r/\t'=a)(c:eB s)(e:Same s a)(j:aH (aK s) args){t:List (Nat×af)}{aX:List af}{o:List aA}{d:bc Nat}{K:bo->Prop}
  (h:∀o,K ⟨e3 d r t,(.loc 0,aX)::a.b,a.e,1,o⟩):CallDo au f args ⟨t,(.loc 0,aX)::s.b,s.e,1,o⟩ d K:=by
 refine CallDo.ob l c (fun k cs b=>?_) (fun _ _ b=>b) j ?_
 ·cases k with
  |loc m=>rw[c.obj.1 m]at b;cases b
  |obj m=>simpa[ad]using b
 rintro r a ⟨rfl,rfl⟩;refine⟨e,?_⟩;have i:cJ s.b ((.loc 0,aX)::s.b)=[(.loc 0,aX)]:=by have:=jt s.b [(aA.loc 0,aX)] s.b;rw[hM]at this;simpa[cJ,c.obj.1 0]using this
 have n:cJ s.e s.e=[]:=hM _;simp only[i,n];exact h _
def B6{d:Array α}{a b v n:Nat}(c:a<n)(e:b<n):(Sort.order2 lt d a b v).1<n/\(Sort.order2 lt d a b v).2.1<n/\(Sort.order2 lt d a b v).2.2<=v+1:=by unfold Sort.order2;split<;>simp<;>omega
def we(H:fQ S n g cp lc cg lt){d:Array α}(b:d.size=n){v:Nat}:az (aK (fV S d v)) (fC g cp lc cg)/\az (aK (fV S d v)) (.ptr (.obj 901) 0):=by
 refine⟨uN (fun k a=>?_) _ (H.kdata (lk:=d.toList) (by simpa using b)),by simp[az,aK,fV,ad]⟩;rcases a with a|a
 ·refine .inl ?_;simp only[fV,ad];split
  ·rfl
  ·exact a
 ·exact .inr a
def aau(H:fQ S n g cp lc cg lt){d:Array α}{v v':Nat}{b:List bU}{Q:af->cQ->Prop}{t:List (Nat×af)}{aX:List af}{o:List aA}(h:c9 ⟨t,(.loc 0,aX)::(fV S d v').b,(S d.toList).e,1,o⟩ b fun r=>az (aK (fV S d v')) r/\Q r (fV S d v')):
  c3 b (fV S d v) Q .ret ⟨t,(.loc 0,aX)::(fV S d v').b,(S d.toList).e,1,o⟩:=by
 refine c3.at (fV S d v') (.inl rfl) (oO H d v') (tW _ _ _) (fun k cs a=>?_) (fun _ _ aw=>aw) h;cases k with
 |loc m=>rw[(oO H d v').obj.1 m]at a;cases a
 |obj m=>simpa[ad]using a
def LM(H:fQ S n g cp lc cg lt)(l:tv S 901)(d:Array α)(e:d.size=n)(a b c v:Nat)(w:a<n)(x:b<n)(aw:c<n)(N:v<=900):
  bD au 256 [fC g cp lc cg,aj a,aj b,aj c,.ptr (.obj 901) 0] (fV S d v) fun r F=>r=aj (Sort.median lt d a b c v).1/\F=fV S d (Sort.median lt d a b c v).2:=by
 have t:=oO H d v;have q:∀v m,ad (.loc m) (fV S d v).b=none:=fun v=>(oO H d v).obj.1;have G:∀v m cs,cH (.loc m) cs (fV S d v).b=(fV S d v).b++[(.loc m,cs)]:=fun v m cs=>kH (q v m);have z:aA.loc 0∉cI (fV S d v):=kE t.obj 0;obtain⟨R,bu⟩:∃R,R=Sort.median lt d a b c v:=⟨_,rfl⟩;rw[<-bu];unfold Sort.median at bu;have f:=B6 (lt:=lt) (d:=d) (v:=v) w x;have j:=LP H l d e a b v w x Ω;generalize Sort.order2 lt d a b v=E at f j bu;obtain⟨p,s,v1⟩:=E;simp only at f j bu;have h:=B6 (lt:=lt) (d:=d) (v:=v1) f.2.1 aw;have k:=LP H l d e s c v1 f.2.1 aw Ω;generalize Sort.order2 lt d s c v1=B at h k bu;obtain⟨y,K,v2⟩:=B;simp only at h k bu;have u:=B6 (lt:=lt) (d:=d) (v:=v2) f.1 h.1;have i:=LP H l d e p y v2 f.1 h.1 Ω;generalize Sort.order2 lt d p y v2=A at u i bu;obtain⟨J,O,v3⟩:=A;simp only at u i bu;refine bD.mk mixed a7 Tryz.func256 anG Ψ t.obj fun M L=>?_;unfold Sv;simp[fC,G,z,c0,q];simp only[jh H,H.slc,H.ssc,ja];refine Yi j (oO H d v) (tW _ _ _) (by simp[az,aH,(we H e).1];exact(we H e).2) fun o=>?_;simp[ad];simp only[jh H,H.slc,H.ssc,ja];refine EF k (oO H d v1) (tW _ _ _) (by simp[az,aH,(we H e).1];exact(we H e).2) fun o=>?_;simp[ad];simp only[jh H,H.slc,H.ssc,ja];refine EF i (oO H d v2) (tW _ _ _) (by simp[az,aH,(we H e).1];exact(we H e).2) fun o=>?_;simp;refine aau H ?_;simp[c9,ba,bd,a1];rw[bu];exact⟨rfl,rfl⟩
def LN(H:fQ S n g cp lc cg lt)(k:tv S 901)(d:Array α)(b:d.size=n)(a v:Nat)(u:a+1<n)(s:1<=a)(l:v<=900):
  bD au 255 [fC g cp lc cg,aj a,.ptr (.obj 901) 0] (fV S d v) fun r j=>r=aj (Sort.medianAdjacent lt d a v).1/\j=fV S d (Sort.medianAdjacent lt d a v).2:=by
 have e:=oO H d v;have c:∀v m,ad (.loc m) (fV S d v).b=none:=fun v=>(oO H d v).obj.1;have q:∀v m cs,cH (.loc m) cs (fV S d v).b=(fV S d v).b++[(.loc m,cs)]:=fun v m cs=>kH (c v m);have f:aA.loc 0∉cI (fV S d v):=kE e.obj 0;have hle:=H.le;have h:=LM H k d b (a-1) a (a+1) v Ω Ω Ω l;unfold Sort.medianAdjacent;refine bD.mk mixed a7 Tryz.func255 anF Ψ e.obj fun w t=>?_;unfold Su;have i:((a:Int)-1)=(a-1:Nat):=Ω
 have p:((a:Int)+1)=(a+1:Nat):=Ω
 simp[fC,q,f,c0,c];(with_reducible repeat' first|refine aq ?_|simp);simp only[jh H,H.slc,H.ssc,ja,i,p];refine Yi h (oO H d v) (tW _ _ _) (by simp[az,aH,(we H b).1];exact(we H b).2) fun o=>?_;simp;refine aau H ?_;simp[c9,ba,bd,a1]
def Yj{m:Nat}(h:tv S m)(l:List α):aA.obj m∉cI (S l):=fun hm=>by
 rcases M0 hm with J|J
 ·rw[(h l).1]at J;cases J
 ·rw[(h l).2]at J;cases J
def Ev{d:Array α}{a b c v n:Nat}(g:a<n)(i:b<n)(aw:c<n):(Sort.median lt d a b c v).1<n/\(Sort.median lt d a b c v).2<=v+3:=by have f:=B6 (lt:=lt) (d:=d) (v:=v) g i;have h:=B6 (lt:=lt) (d:=d) (v:=(Sort.order2 lt d a b v).2.2) f.2.1 aw;have e:=B6 (lt:=lt) (d:=d) (v:=(Sort.order2 lt d (Sort.order2 lt d a b v).2.1 c (Sort.order2 lt d a b v).2.2).2.2) f.1 h.1;refine⟨e.2.1,kx e.2.2 ?_⟩;omega
def Bf:Sort.Hint->Int
 | .unknown=>0
 | .increasing=>1
 | .decreasing=>2
def ahO(H:fQ S n g cp lc cg lt)(s:tv S 901)(d:Array α)(A:d.size=n)(a b:Nat)(mX:a<b)(ag:b<=n):
  bD au 240 [fC g cp lc cg,aj a,aj b] (S d.toList) fun r U=>r= .tuple [aj (Sort.choosePivot lt d a b).1,aj (Bf (Sort.choosePivot lt d a b).2)]/\U=S d.toList:=by
 have ai:=H.ok d.toList;have av:d.toList.length=n:=by simpa using A
 have B:∀l m,ad (.loc m) (S l).b=none:=fun l=>(H.ok l).obj.1;have hu:∀l m cs,cH (.loc m) cs (S l).b=(S l).b++[(.loc m,cs)]:=fun l m cs=>kH (B l m);have ar:∀m,aA.loc m∉cI (S d.toList):=kE ai.obj;have y:∀l,ad (.obj 901) (S l).b=none:=fun l=>(s l).1;have Q:∀l,ad (.obj 901) (S l).e=none:=fun l=>(s l).2;have hle:=H.le;have P:=Yj s d.toList;obtain⟨R,bu⟩:∃R,R=Sort.choosePivot lt d a b:=⟨_,rfl⟩;rw[<-bu];unfold Sort.choosePivot at bu;refine bD.mk mixed a7 Tryz.func240 anD Ψ ai.obj fun aT cZ=>?_;unfold Ss;have O:∀l aX cs,cH (.obj 901) cs ((S l).b++[(.loc 0,aX)])=(S l).b++[(.loc 0,aX),(.obj 901,cs)]:=fun l aX cs=>by rw[CC (y l)];rfl
 obtain⟨q,bP⟩:∃q,q=(b-a)/4:=⟨_,rfl⟩;have Z:vf.wrap (((b:Int)-a).tdiv 4)=(q:Nat):=by rw[show((b:Int)-a)=((b-a:Nat):Int) by omega,Int.tdiv_eq_ediv_of_nonneg Ω,pf _ Ω];omega
 simp[fC,hu,O,ar,P,c0,B,y,Q,ad,cH];have z:∀(t:List (Nat×af)) (o:List aA) (b7:List (aA×List af)) (x:Nat) (h:Sort.Hint),Pv.get 6 t=aj x->Pv.get 7 t=aj (Bf h)->R=(x,h)->(∀k cs,ad k (S d.toList).b=some cs->ad k b7=some cs)->
   c3 [.tmp 6,.tmp 7] (S d.toList) (fun r U=>r= .tuple [aj R.1,aj (Bf R.2)]/\U=S d.toList) .ret ⟨t,b7,(S d.toList).e,1,o⟩:=by
  rintro t o b7 x h j aL rfl dX;refine c3.at (S d.toList) (.inl rfl) ai (Same.refl _) dX (fun _ _ aw=>aw) ?_;simp[c9,ba,bd,a1,j,aL]
 have F:∀(aX:List af) (v:Nat) k cs,ad k (S d.toList).b=some cs->ad k ((.loc 0,aX)::(fV S d v).b)=some cs:=fun aX v k cs h=>by
  simp only[fV,ad];split
  ·rename_i e;subst e;rw[B]at h;cases h
  ·split
   ·rename_i e;subst e;rw[y]at h;cases h
   ·exact h
 have Vo:∀{f:Nat} {args:List af} {r:af} {v:Nat},(bD au f args (fV S d 0) fun ea t'=>ea=r/\t'=fV S d v)->aH (aK (fV S d 0)) args->∀{t:List (Nat×af)} {aX:List af} {o:List aA} {X:bc Nat} {K:bo->Prop},(∀o,K ⟨e3 X r t,(.loc 0,aX)::(fV S d v).b,(S d.toList).e,1,o⟩)->
   CallDo au f args ⟨t,(S d.toList).b++[(.loc 0,aX),(.obj 901,[aj 0])],(S d.toList).e,1,o⟩ X K:=by
  intro f args r v aG p t aX o X K h;refine CallDo.ob aG (oO H d 0) (fun k cs j=>?_) (fun _ _ j=>j) p ?_
  ·simp only[fV,ad]at j;rw[c0];split at j
   ·rename_i e;subst e;rw[y];simp[ad];simpa using j
   ·rw[j]
  rintro r U ⟨rfl,rfl⟩;refine⟨tW _ _ _,?_⟩;have al:cJ (fV S d 0).b ((S d.toList).b++[(.loc 0,aX),(.obj 901,[aj 0])])=[(.loc 0,aX)]:=by
   rw[jt];have:cJ (fV S d 0).b (S d.toList).b=[]:=Qo _ _ fun k x hm=>by
    have:=uR hm;simp only[fV,ad];split
    ·rfl
    ·exact this
   rw[this];simp[cJ,fV,ad,B]
  have aC:cJ (fV S d 0).e (S d.toList).e=[]:=hM _;simp only[al,aC];exact h _
 have p:=fun(v:Nat)=>(we H A (v:=v));have f1:((a:Int)+q)=(a+q:Nat):=Ω
 have f2:((a:Int)+q*2)=(a+q*2:Nat):=Ω
 have f3:((a:Int)+q*3)=(a+q*3:Nat):=Ω
 dsimp only at bu;rw[<-bP,Nat.mul_one]at bu;by_cases lF:b-a<8
 ·have V:¬(8:Int)<=(b:Int)-a:=Ω
  (with_reducible repeat' first|refine aq ?_|simp[V,Z,hu,O,ar,P,c0,B,y,Q,ad,cH]);rw[f2];refine z _ _ _ (a+q*2) .increasing rfl rfl (by rw[bu,if_neg Ω];simp) (fun k cs h=>by rw[c0,h])
 ·have V:(8:Int)<=(b:Int)-a:=Ω
  by_cases atT:b-a<50
  ·have LV:¬(50:Int)<=(b:Int)-a:=Ω
   (with_reducible repeat' first|refine aq ?_|simp[V,LV,Z,hu,O,ar,P,c0,B,y,Q,ad,cH]);simp only[jh H,H.slc,H.ssc,ja,f1,f2,f3];have E:=LM H s d A (a+q) (a+q*2) (a+q*3) 0 Ω Ω Ω Ω;have G:=Ev (lt:=lt) (d:=d) (a:=a+q) (b:=a+q*2) (c:=a+q*3) (v:=0) (n:=n) Ω Ω Ω;rw[if_pos Ω,if_neg Ω]at bu;generalize Sort.median lt d (a+q) (a+q*2) (a+q*3) 0=m at E G bu;obtain⟨x,v⟩:=m;refine Vo E (by simp[az,aH,(p 0).1];exact(p 0).2) fun o=>?_;have w:((v:Int)==0)=decide (v=0):=by rw[qP];simp
   have N:((v:Int)==12)=decide (v=12):=by rw[qP];simp;omega
   simp[ad,fV];rcases(by omega:v=0\/v=12\/(v≠0/\v≠12))with i|i|i
   ·have j:((v:Int)==0)=true:=by rw[w];simp[i]
    (with_reducible repeat' first|refine aq ?_|simp[j]);all_goals exact z _ _ _ x .increasing rfl rfl (by rw[bu];simp[i]) (F _ v)
   ·have j:((v:Int)==0)=false:=by rw[w];simp[i]
    have u:((v:Int)==12)=true:=by rw[N];simp[i]
    (with_reducible repeat' first|refine aq ?_|simp[j,u]);all_goals exact z _ _ _ x .decreasing rfl rfl (by rw[bu];simp[i]) (F _ v)
   ·have j:((v:Int)==0)=false:=by rw[w];simp[i.1]
    have u:((v:Int)==12)=false:=by rw[N];simp[i.2]
    (with_reducible repeat' first|refine aq ?_|simp[j,u]);all_goals exact z _ _ _ x .unknown rfl rfl (by rw[bu];simp[i]) (F _ v)
  ·have LV:(50:Int)<=(b:Int)-a:=Ω
   (with_reducible repeat' first|refine aq ?_|simp[V,LV,Z,hu,O,ar,P,c0,B,y,Q,ad,cH]);simp only[jh H,H.slc,H.ssc,ja,f1,f2,f3];rw[if_pos Ω,if_pos Ω]at bu;have E:=LN H s d A (a+q) 0 Ω Ω Ω;have M:=Ev (lt:=lt) (d:=d) (a:=a+q-1) (b:=a+q) (c:=a+q+1) (v:=0) (n:=n) Ω Ω Ω;change (Sort.medianAdjacent lt d (a+q) 0).1<n/\(Sort.medianAdjacent lt d (a+q) 0).2<=0+3 at M;generalize Sort.medianAdjacent lt d (a+q) 0=m1 at E M bu;obtain⟨tN,v1⟩:=m1;simp only at E M bu;have G:=LN H s d A (a+q*2) v1 Ω Ω Ω;have L:=Ev (lt:=lt) (d:=d) (a:=a+q*2-1) (b:=a+q*2) (c:=a+q*2+1) (v:=v1) (n:=n) Ω Ω Ω;change (Sort.medianAdjacent lt d (a+q*2) v1).1<n/\(Sort.medianAdjacent lt d (a+q*2) v1).2<=v1+3 at L;generalize Sort.medianAdjacent lt d (a+q*2) v1=m2 at G L bu;obtain⟨Ac,v2⟩:=m2;simp only at G L bu;have Y:=LN H s d A (a+q*3) v2 Ω Ω Ω;have J:=Ev (lt:=lt) (d:=d) (a:=a+q*3-1) (b:=a+q*3) (c:=a+q*3+1) (v:=v2) (n:=n) Ω Ω Ω;change (Sort.medianAdjacent lt d (a+q*3) v2).1<n/\(Sort.medianAdjacent lt d (a+q*3) v2).2<=v2+3 at J;generalize Sort.medianAdjacent lt d (a+q*3) v2=m3 at Y J bu;obtain⟨tO,v3⟩:=m3;simp only at Y J bu;have W:=LM H s d A tN Ac tO v3 M.1 L.1 J.1 Ω;have WO:=Ev (lt:=lt) (d:=d) (v:=v3) M.1 L.1 J.1;generalize Sort.median lt d tN Ac tO v3=m4 at W WO bu;obtain⟨x,v⟩:=m4;simp only at W WO bu;refine Vo E (by simp[az,aH,(p 0).1];exact(p 0).2) fun o=>?_;simp[ad];simp only[jh H,H.slc,H.ssc,ja,f1,f2,f3];refine EF G (oO H d v1) (tW _ _ _) (by simp[az,aH,(p v1).1];exact(p v1).2) fun o=>?_;simp[ad];simp only[jh H,H.slc,H.ssc,ja,f1,f2,f3];refine EF Y (oO H d v2) (tW _ _ _) (by simp[az,aH,(p v2).1];exact(p v2).2) fun o=>?_;simp[ad];simp only[jh H,H.slc,H.ssc,ja,f1,f2,f3];refine EF W (oO H d v3) (tW _ _ _) (by simp[az,aH,(p v3).1];exact(p v3).2) fun o=>?_;have w:((v:Int)==0)=decide (v=0):=by rw[qP];simp
   have N:((v:Int)==12)=decide (v=12):=by rw[qP];simp;omega
   simp[ad,fV];rcases(by omega:v=0\/v=12\/(v≠0/\v≠12))with i|i|i
   ·have j:((v:Int)==0)=true:=by rw[w];simp[i]
    (with_reducible repeat' first|refine aq ?_|simp[j]);all_goals exact z _ _ _ x .increasing rfl rfl (by rw[bu];simp[i]) (F _ v)
   ·have j:((v:Int)==0)=false:=by rw[w];simp[i]
    have u:((v:Int)==12)=true:=by rw[N];simp[i]
    (with_reducible repeat' first|refine aq ?_|simp[j,u]);all_goals exact z _ _ _ x .decreasing rfl rfl (by rw[bu];simp[i]) (F _ v)
   ·have j:((v:Int)==0)=false:=by rw[w];simp[i.1]
    have u:((v:Int)==12)=false:=by rw[N];simp[i.2]
    (with_reducible repeat' first|refine aq ?_|simp[j,u]);all_goals exact z _ _ _ x .unknown rfl rfl (by rw[bu];simp[i]) (F _ v)
end
section
open Go Go.Pv
variable {α:Type} [Inhabited α] {S:List α->cQ} {n g cp:Nat} {lc cg:List af} {lt:α->α->Bool}
def aqC:∀x:Nat,x<256->(((PY:List cW)[x]?).getD 0).toNat=Sort.bitsLen x:=by decide+kernel
def Dq(x:Int):x.fdiv (2 ^ (min 32 ig.bits))=x/4294967296:=by rw[show(2:Int) ^ (min 32 ig.bits)=4294967296 from by decide,Int.fdiv_eq_ediv_of_nonneg _ Ω]
def Dp(x:Int):x.fdiv (2 ^ (min 16 ig.bits))=x/65536:=by rw[show(2:Int) ^ (min 16 ig.bits)=65536 from by decide,Int.fdiv_eq_ediv_of_nonneg _ Ω]
def Dr(x:Int):x.fdiv (2 ^ (min 8 ig.bits))=x/256:=by rw[show(2:Int) ^ (min 8 ig.bits)=256 from by decide,Int.fdiv_eq_ediv_of_nonneg _ Ω]
def Fz(x:Nat)(h:x<256):IntKind.u8.wrap (x:Int)=x:=by simp[tQ,pe,tP];omega
def Kp(x k:Nat)(h:2 ^ k<=x):Sort.bitsLen x=Sort.bitsLen (x/2 ^ k)+k:=by
 have a:x≠0:=by have:=Nat.two_pow_pos k;omega
 have b:x/2 ^ k≠0:=by have:=Nat.div_pos h (Nat.two_pow_pos k);omega
 unfold Sort.bitsLen;rw[if_neg a,if_neg b];have c:=Nat.log2_lt a (k:=Nat.log2 (x/2 ^ k)+k+1);have J:Nat.log2 (x/2 ^ k)+k<=Nat.log2 x:=by
  rw[Nat.le_log2 a,Nat.pow_add];have:=Nat.log2_self_le b;calc 2 ^ (x/2 ^ k).log2*2 ^ k<=(x/2 ^ k)*2 ^ k:=rG _ this
   _<=x:=Nat.div_mul_le_self x _
 have U:Nat.log2 x<Nat.log2 (x/2 ^ k)+k+1:=by rw[c,show Nat.log2 (x/2 ^ k)+k+1=(Nat.log2 (x/2 ^ k)+1)+k by omega,Nat.pow_add];have:=Nat.lt_log2_self (n:=x/2 ^ k);exact(Nat.div_lt_iff_lt_mul (Nat.two_pow_pos k)).1 this
 omega
set_option maxRecDepth 20000 in
def aqX(x:Nat)(o:x<1099511627776):bX au 237 [.int .u64 x] (aj (Sort.bitsLen x)):=by
 refine bX.mk mixed a7 Tryz.func237 anA Ψ dl fun p=>?_;unfold Sp;have d:=aqC;generalize m:(PY:List cW)=tab at d⊢;have f:tab.length=256:=by rw[<-m];rfl
 clear m;simp[f];have g:∀y:Nat,y<256->Sort.bitsLen y<=8:=by decide+kernel
 have k:4294967296<=x->Sort.bitsLen x=Sort.bitsLen (x/4294967296)+32:=fun h=>Kp x 32 h;have n:∀y,65536<=y->Sort.bitsLen y=Sort.bitsLen (y/65536)+16:=fun y h=>Kp y 16 h;have l:∀y,256<=y->Sort.bitsLen y=Sort.bitsLen (y/256)+8:=fun y h=>Kp y 8 h;by_cases J:4294967296<=x
 ·have c:(4294967296:Int)<=x:=Ω
  have g1:¬(65536:Int)<=(x:Int)/4294967296:=Ω
  have g3:¬(256:Int)<=(x:Int)/4294967296:=Ω
  (repeat' first|refine aq ?_|simp[c,g1,g3,Dq,Dp,Dr,f]);have a:x/4294967296<256:=Ω
  have i:=g _ a;have b:(x:Int)/4294967296=((x/4294967296:Nat):Int):=Ω
  rw[b,Fz _ a,Int.toNat_natCast];refine⟨Ω,?_⟩;have e:=d _ a;rw[e,pf _ Ω];refine⟨by unfold te;omega,?_⟩;simp[b0,ba,bd,a1];try((rw[k J])<;>omega)
 ·have c:¬(4294967296:Int)<=x:=Ω
  by_cases U:65536<=x
  ·have g2:(65536:Int)<=x:=Ω
   by_cases j:256<=x/65536
   ·have g3:(256:Int)<=(x:Int)/65536:=Ω
    (repeat' first|refine aq ?_|simp[c,g2,g3,Dq,Dp,Dr,f]);have a:x/65536/256<256:=Ω
    have i:=g _ a;have b:(x:Int)/65536/256=((x/65536/256:Nat):Int):=Ω
    rw[b,Fz _ a,Int.toNat_natCast];refine⟨Ω,?_⟩;have e:=d _ a;rw[e,pf _ Ω];refine⟨by unfold te;omega,?_⟩;simp[b0,ba,bd,a1];try((rw[n x U,l _ j])<;>omega)
   ·have g3:¬(256:Int)<=(x:Int)/65536:=Ω
    (repeat' first|refine aq ?_|simp[c,g2,g3,Dq,Dp,Dr,f]);have a:x/65536<256:=Ω
    have i:=g _ a;have b:(x:Int)/65536=((x/65536:Nat):Int):=Ω
    rw[b,Fz _ a,Int.toNat_natCast];refine⟨Ω,?_⟩;have e:=d _ a;rw[e,pf _ Ω];refine⟨by unfold te;omega,?_⟩;simp[b0,ba,bd,a1];try((rw[n x U])<;>omega)
  ·have g2:¬(65536:Int)<=x:=Ω
   by_cases j:256<=x
   ·have g3:(256:Int)<=x:=Ω
    (repeat' first|refine aq ?_|simp[c,g2,g3,Dq,Dp,Dr,f]);have a:x/256<256:=Ω
    have i:=g _ a;have b:(x:Int)/256=((x/256:Nat):Int):=Ω
    rw[b,Fz _ a,Int.toNat_natCast];refine⟨Ω,?_⟩;have e:=d _ a;rw[e,pf _ Ω];refine⟨by unfold te;omega,?_⟩;simp[b0,ba,bd,a1];try((rw[l x j])<;>omega)
   ·have g3:¬(256:Int)<=x:=Ω
    (repeat' first|refine aq ?_|simp[c,g2,g3,Dq,Dp,Dr,f]);have a:x<256:=Ω
    have i:=g _ a;have b:(x:Int)=((x:Nat):Int):=Ω
    rw[b,Fz _ a,Int.toNat_natCast];refine⟨Ω,?_⟩;have e:=d _ a;rw[e,pf _ Ω];refine⟨by unfold te;omega,?_⟩;simp[b0,ba,bd,a1];try((rw[show Sort.bitsLen x=Sort.bitsLen x from rfl])<;>omega)
def aqW(x:Nat)(a:x<1099511627776):bX au 213 [.int .u64 x] (aj (Sort.bitsLen x)):=by refine bX.mk mixed a7 Tryz.func213 anz Ψ dl fun b=>?_;unfold Sn;have c:=aqX x a;exact cB
def adj(x:Nat)(a:x<1099511627776):Sort.bitsLen x<=40:=by
 unfold Sort.bitsLen;split
 ·omega
 ·rename_i h;have:=(Nat.log2_lt h (k:=40)).2 Ω;omega
def aqK{x:Nat}(h:x≠0):2 ^ Sort.bitsLen x<=2*x/\x<2 ^ Sort.bitsLen x:=by unfold Sort.bitsLen;rw[if_neg h];have J:=Nat.log2_self_le h;have U:=Nat.lt_log2_self (n:=x);rw[Nat.pow_succ];rw[Nat.pow_succ]at U;omega
def arR(x:Nat)(b:x<1099511627776):bX au 253 [aj x] (.int .u64 (1<<<Sort.bitsLen x:Nat)):=by
 have f:=adj x b;have a:ig.wrap ((x:Nat):Int)=x:=by simp[tQ,pe,tP];omega
 have g:ig.wrap ((Sort.bitsLen x:Nat):Int)=Sort.bitsLen x:=by simp[tQ,pe,tP];omega
 refine bX.mk mixed a7 Tryz.func253 anH Ψ dl fun h=>?_;unfold Sw;simp[a];refine CallDo.val Ψ (aqW x b) ?_;simp[a,g];simp[b0,ba,bd,a1];have hm:min (Sort.bitsLen x) ig.bits=Sort.bitsLen x:=by simp[pe];omega
 have e:2 ^ Sort.bitsLen x<=2 ^ 40:=Nat.pow_le_pow_right Ω f;rw[hm];have aw:((2:Int) ^ Sort.bitsLen x)=((2 ^ Sort.bitsLen x:Nat):Int):=Ψ
 have d:((1<<<Sort.bitsLen x:Nat):Int)=((2 ^ Sort.bitsLen x:Nat):Int):=by rw[Nat.one_shiftLeft]
 have c:ig.wrap ((2:Int) ^ Sort.bitsLen x)=((1<<<Sort.bitsLen x:Nat):Int):=by rw[aw,d];generalize 2 ^ Sort.bitsLen x=y at e;simp[tQ,pe,tP];omega
 simpa using c
def oa(r:Nat):cQ:=⟨[(.obj 902,[.int .u64 r])],[]⟩
def J7(r:Nat):eB (oa r):=by unfold oa;exact(eB.of ⟨by intro m;simp[ad],by intro m;simp[ad]⟩ (by simp[aH,az,aK,ad]) (by simp[aH,az,aK,ad]))
def QE(a b:Nat):Same (oa a) (oa b):=⟨fun k=>by simp only[oa,ad];split<;>rfl,fun _=>rfl⟩
def Ks(a b:Nat)(d:a<18446744073709551616)(h:b<18446744073709551616):ig.wrap ((rC ig.bits (a:Int) ^^^ rC ig.bits (b:Int)).toNat:Int)=(a ^^^ b:Nat):=by
 have f:a ^^^ b<18446744073709551616:=Nat.xor_lt_two_pow (n:=64) d h;have e:(rC ig.bits (a:Int) ^^^ rC ig.bits (b:Int)).toNat=a ^^^ b:=by
  rw[BitVec.toNat_xor,BitVec.toNat_ofInt,BitVec.toNat_ofInt];have g:((a:Int)%(2 ^ ig.bits:Nat)).toNat=a:=by simp[pe];omega
  have i:((b:Int)%(2 ^ ig.bits:Nat)).toNat=b:=by simp[pe];omega
  rw[g,i]
 rw[e];generalize a ^^^ b=c at f;simp[tQ,pe,tP];omega
def apY(r:Nat):ig.wrap ((r:Int)*2 ^ (min 13 ig.bits))=(r*8192%18446744073709551616:Nat):=by simp[tQ,pe,tP]
def apZ(r:Nat):ig.wrap ((r:Int)*2 ^ (min 17 ig.bits))=(r*131072%18446744073709551616:Nat):=by simp[tQ,pe,tP]
def ap0(r:Nat):((r:Int)).fdiv (2 ^ (min 7 ig.bits))=(r/128:Nat):=by rw[show(2:Int) ^ (min 7 ig.bits)=128 from by decide,Int.fdiv_eq_ediv_of_nonneg _ Ω];omega
def ahI(r:Nat)(j:r<18446744073709551616):bD au 254 [.ptr (.obj 902) 0] (oa r) fun t u=>t= .int .u64 (Sort.xorNextN r)/\u=oa (Sort.xorNextN r):=by
 have h:=J7 r;unfold oa at h⊢;refine bD.mk mixed a7 Tryz.func254 anT Ψ h.obj fun w v=>?_;unfold SI;obtain⟨m1,p⟩:∃m,m=r*8192%18446744073709551616:=⟨_,rfl⟩;have s1:=apY r;rw[<-p]at s1;have e:m1<18446744073709551616:=Ω
 obtain⟨a,c⟩:∃m,m=r ^^^ m1:=⟨_,rfl⟩;have t1:=Ks r m1 j e;rw[<-c]at t1;have k:a<18446744073709551616:=by rw[c];exact Nat.xor_lt_two_pow (n:=64) j e
 obtain⟨m2,o⟩:∃m,m=a/128:=⟨_,rfl⟩;have s2:=ap0 a;rw[<-o]at s2;have f:m2<18446744073709551616:=Ω
 obtain⟨a2,b⟩:∃m,m=a ^^^ m2:=⟨_,rfl⟩;have t2:=Ks a m2 k f;rw[<-b]at t2;have d:a2<18446744073709551616:=by rw[b];exact Nat.xor_lt_two_pow (n:=64) k f
 obtain⟨m3,l⟩:∃m,m=a2*131072%18446744073709551616:=⟨_,rfl⟩;have s3:=apZ a2;rw[<-l]at s3;have s:m3<18446744073709551616:=Ω
 obtain⟨a3,q⟩:∃m,m=a2 ^^^ m3:=⟨_,rfl⟩;have t3:=Ks a2 m3 d s;rw[<-q]at t3;have bu:Sort.xorNextN r=a3:=by unfold Sort.xorNextN;simp only[<-p,<-c,<-o,<-b,<-l,<-q]
 rw[bu];simp[-BitVec.toNat_xor,-BitVec.ofInt_natCast,s1,t1,s2,t2,s3,t3];have i:=J7 a3;have g:=QE r a3;unfold oa at i g;refine c3.at _ (.inl rfl) i g aW aW ?_;simp[c9,ba,bd,a1]
end
section
open Go Go.Pv
variable {α:Type} [Inhabited α] {S:List α->cQ} {n g cp:Nat} {lc cg:List af} {lt:α->α->Bool}
def ada(a b:Nat)(d:a<18446744073709551616)(i:b<18446744073709551616):ig.wrap ((rC ig.bits (a:Int)&&& rC ig.bits (b:Int)).toNat:Int)=(a&&& b:Nat):=by
 have f:a&&& b<18446744073709551616:=Nat.lt_of_le_of_lt Nat.and_le_left d;have e:(rC ig.bits (a:Int)&&& rC ig.bits (b:Int)).toNat=a&&& b:=by
  rw[BitVec.toNat_and,BitVec.toNat_ofInt,BitVec.toNat_ofInt];have g:((a:Int)%(2 ^ ig.bits:Nat)).toNat=a:=by simp[pe];omega
  have h:((b:Int)%(2 ^ ig.bits:Nat)).toNat=b:=by simp[pe];omega
  rw[g,h]
 rw[e];generalize a&&& b=c at f;simp[tQ,pe,tP];omega
def Ar(a len M i0:Nat)(d:Array α):Nat->UInt64×Array α
 |0=>(UInt64.ofNat len,d)
 |k+1=>Sort.breakStep a len M (Ar a len M i0 d k) (i0+k)
def adn(d:Array α)(a b:Nat)(h:8<=b-a):Sort.breakPatterns d a b=(Ar a (b-a) (1<<<Sort.bitsLen (b-a)) (a+(b-a)/4*2-1) d 3).2:=by unfold Sort.breakPatterns;simp only[if_pos h,Ar];rfl
def ab9{ob O:List aA}{b:cQ}(g:eB b)(p:∀k,aK b k->k∈O)(j:∀k∈ob,k∈O){st:bo}{t':List (Nat×af)}{L:List (aA×List af)}{n:Nat}(i:∀x∈t',Pv.get x.1 st.t=x.2/\az (nm b n) x.2)(l:∀x∈L,ad x.1 st.b=some x.2/\nm b n x.1/\aH (nm b n) x.2)
  (r:∀k cs,ad k b.b=some cs->ad k st.b=some cs) (he:∀k o,ad k b.e=some o->ad k st.e=some o):gk ob st ⟨t',L++b.b,b.e,n,O⟩:=by
 have c:∀{k},nm b n k->¬fresh n O k:=by
  rintro k (h|⟨m,hm,rfl⟩)
  ·exact fun f=>f.2 (p k h)
  ·intro f;have:=f.1;simp at this;omega
 refine⟨fun x d=>⟨(i x d).1,uN (fun k a=>c a) _ (i x d).2⟩,fun k cs a=>?_,fun k o ar=>?_,j⟩
 ·simp only at a;rw[c0]at a;cases e:ad k L with
  |some x=>rw[e]at a;simp only[dS]at a;subst a;obtain⟨J,U,q⟩:=l _ (uQ e);exact⟨J,c U,jd (fun k a=>c a) _ q⟩
  |none=>rw[e]at a;exact⟨r k cs a,c (.inl (.inl (by simp[a]))),jd (fun k a=>c (.inl a)) _ (g.kb k cs a)⟩
 ·exact⟨he k o ar,c (.inl (.inr (by simp at ar;simp[ar]))),fun xs d=>jd (fun k a=>c (.inl a)) _ (g.ke k o ar xs d)⟩
def Qn{a β:Type}(s:List (aA×β)):∀(l:List (aA×a)),(∀k x,(k,x)∈l->ad k s=none)->cJ s l=l
 |[],_=>rfl
 |(k,x)::r,h=>by have J:=h k x Ψ;simp only[cJ,J];rw[Qn s r fun k x b=>h k x (by simp[b])]
def j3(S:List α->cQ)(d:Array α)(r:Nat):cQ:=⟨(.obj 902,[.int .u64 r])::(S d.toList).b,(S d.toList).e⟩
def FY(H:fQ S n g cp lc cg lt)(d:Array α)(v:Nat):eB (j3 S d v):=by
 have h:=H.ok d.toList;have b:∀k,aK (S d.toList) k->aK (j3 S d v) k:=fun k a=>by
  rcases a with a|a
  ·refine .inl ?_;simp only[j3,ad];split
   ·rfl
   ·exact a
  ·exact .inr a
 refine⟨⟨fun m=>?_,h.obj.2⟩,fun k cs a=>?_,fun k o ar xs c=>jd b _ (h.ke k o ar xs c)⟩
 ·simp[j3,ad,h.obj.1 m]
 ·simp only[j3,ad]at a;split at a
  ·cases a;simp[aH,az]
  ·exact jd b _ (h.kb k cs a)
def ab8{ob O:List aA}{d2:Array α}{y:Nat}{aX:List af}(c:eB (j3 S d2 y))(d:∀k,aK (j3 S d2 y) k->k∈O)(b:∀k∈ob,k∈O){st:bo}{t':List (Nat×af)}(g:∀x∈t',Pv.get x.1 st.t=x.2/\az (nm (j3 S d2 y) 1) x.2)(e:ad (.loc 0) st.b=some aX)(h:aH (nm (j3 S d2 y) 1) aX)
  (f:∀k cs,ad k (j3 S d2 y).b=some cs->ad k st.b=some cs) (he:∀k o,ad k (j3 S d2 y).e=some o->ad k st.e=some o):gk ob st ⟨t',(.loc 0,aX)::(.obj 902,[.int .u64 y])::(S d2.toList).b,(S d2.toList).e,1,O⟩:=
 ab9 (L:=[(.loc 0,aX)]) c d b g (fun x a=>by simp only[List.mem_singleton]at a;subst a;exact⟨e,Ye _ _ _ Ω,h⟩) f he
def ahN(H:fQ S n g cp lc cg lt)(p:tv S 902)(d:Array α)(E:d.size=n)(a b:Nat)(mX:a<=b)(ag:b<=n)(lF:8<=b-a):
  bD au 239 [fC g cp lc cg,aj a,aj b] (S d.toList) fun r A=>r= .tuple []/\∃P,A=S P.toList/\P=Sort.breakPatterns d a b/\P.size=n:=by
 have ai:=H.ok d.toList;have R:d.toList.length=n:=by simpa using E
 have i:∀l m,ad (.loc m) (S l).b=none:=fun l=>(H.ok l).obj.1;have hu:∀l m cs,cH (.loc m) cs (S l).b=(S l).b++[(.loc m,cs)]:=fun l m cs=>kH (i l m);have ar:∀m,aA.loc m∉cI (S d.toList):=kE ai.obj;have j:∀l,ad (.obj 902) (S l).b=none:=fun l=>(p l).1;have iB:∀l,ad (.obj 902) (S l).e=none:=fun l=>(p l).2;have hle:=H.le;have mo:=Yj p d.toList;rw[adn d a b lF];obtain⟨len,hlen⟩:∃len,len=b-a:=⟨_,rfl⟩;rw[<-hlen];obtain⟨M,N⟩:∃M,M=1<<<Sort.bitsLen len:=⟨_,rfl⟩;rw[<-N];have atU:len<M/\M<=2*len:=by have:=aqK (x:=len) Ω;rw[N,Nat.one_shiftLeft];omega
 obtain⟨q,bP⟩:∃q,q=len/4:=⟨_,rfl⟩;rw[<-bP];have zj:∀l aX cs,cH (.obj 902) cs ((S l).b++[(.loc 0,aX)])=(S l).b++[(.loc 0,aX),(.obj 902,cs)]:=fun l aX cs=>by rw[CC (j l)];rfl
 have qw:∀l aX x y,cH (.obj 902) y ((S l).b++[(.loc 0,aX),(.obj 902,x)])=(S l).b++[(.loc 0,aX),(.obj 902,y)]:=fun l aX x y=>by rw[CC (j l)];simp[cH]
 have el:((b:Int)-a)=(len:Nat):=Ω
 have b2:vf.wrap ((len:Int).tdiv 4)=(q:Nat):=by rw[Int.tdiv_eq_ediv_of_nonneg Ω,pf _ Ω];omega
 have ew:ig.wrap (len:Int)=len:=by simp[tQ,pe,tP];omega
 refine bD.mk mixed a7 Tryz.func239 anC Ψ ai.obj fun aT cZ=>?_;unfold Sr;have G:=arR len Ω;rw[<-N]at G;simp[fC,hu,zj,qw,ar,mo,c0,i,j,iB,ad,cH,el,ew];have t:vf.wrap ((len:Int)/4)=(q:Nat):=by rw[pf _ Ω];omega
 ((repeat' first|refine aq ?_|refine aP G ?_|refine aQ G ?_|simp[el,ew,b2,t,hu,zj,qw,ar,mo,c0,i,j,iB,ad,cH]|((first|apply cu|apply cy|apply cx)<;>intro h<;>try simp at h))<;>(try exact c4));obtain⟨i0,DQ⟩:∃i0,i0=a+q*2-1:=⟨_,rfl⟩;rw[<-DQ];have Z:((a:Int)+q*2-1)=(i0:Nat):=Ω
 rw[Z];have O:∀(c:Array α) r k,aK (j3 S c r) k->c.size=n->k∈aA.obj 902::cI (S d.toList):=fun c r k h K=>by
  have e9:=H.same d.toList c.toList R (by simpa using K);rcases h with h|h
  ·simp only[j3,ad]at h;split at h
   ·rename_i e;subst e;simp
   ·exact qR _ (rl (.inl (by rw[e9.b];exact h)))
  ·exact qR _ (rl (.inr (by rw[e9.e];exact h)))
 have F:∀(c:Array α) r,c.size=n->aH (nm (j3 S c r) 1) [.func g lc,.func cp cg]:=fun c r K=>by
  have J:=H.kdata (lk:=c.toList) (by simpa using K);have U:aH (aK (S c.toList)) [.func g lc,.func cp cg]:=by simpa[fC,az,aH]using J
  refine jd (fun k p=>.inl ?_) _ U;rcases p with p|p
  ·refine .inl ?_;simp only[j3,ad];split
   ·rfl
   ·exact p
  ·exact .inr p
 have at5:∀(c:Array α) r aX k cs,ad k (j3 S c r).b=some cs->ad k ((.loc 0,aX)::(j3 S c r).b)=some cs:=fun c r aX k cs h=>by
  cases k with
  |loc m=>rw[(FY H c r).obj.1 m]at h;cases h
  |obj m=>simpa[ad]using h
 refine oY (fun(x:Nat×UInt64×Array α)=>⟨[(1,aj a),(3,.ptr (.loc 0) 0),(6,aj len),(7,.ptr (.obj 902) 0),(8,.int .u64 M),(9,aj ((i0+x.1:Nat):Int))],[(.loc 0,[.func g lc,.func cp cg])]++(j3 S x.2.2 x.2.1.toNat).b,(j3 S x.2.2 x.2.1.toNat).e,1,aA.obj 902::cI (S d.toList)⟩) (fun x=>3-x.1)
  (fun x=>x.1<=3/\x.2.2.size=n/\Ar a len M i0 d x.1=x.2) (0,UInt64.ofNat len,d) ?_ ⟨Ψ,E,rfl⟩ ?_
 ·refine ab9 (FY H d _) (fun k h=>O d _ k h E) (fun k h=>qR _ h) (by simp[az,aK,j3,ad,nm]) ?_ ?_ aW
  ·intro x u;simp only[List.mem_singleton]at u;subst u;exact⟨by simp[c0,i,ad],Ye _ _ _ Ω,F d _ E⟩
  ·intro k cs h;simp only[j3,ad]at h;rw[c0];split at h
   ·rename_i e;subst e;rw[j];have:(UInt64.ofNat len).toNat=len:=by simp;omega
    rw[this]at h;simpa[ad]using h
   ·rw[h]
 rintro⟨k,r,c⟩ ⟨bj,f,w⟩ _;simp only at bj f w;have aI:=r.toNat_lt;obtain⟨x,u⟩:∃x,x=r.toNat:=⟨_,rfl⟩;rw[<-u]at aI⊢;have Bk:Sort.xorNextN x<18446744073709551616:=Sort.xorNextN_lt x Ω;have Mx:(Sort.xorNext r).toNat=Sort.xorNextN x:=by rw[Sort.xorNext_toNat,<-u]
 obtain⟨y,B⟩:∃y,y=Sort.xorNextN x:=⟨_,rfl⟩;have aej:ig.wrap ((M:Int)-1)=(M-1:Nat):=by simp[tQ,pe,tP];omega
 have yY:=ada y (M-1) Ω Ω;obtain⟨z,Q⟩:∃z,z=y&&& (M-1):=⟨_,rfl⟩;rw[<-Q]at yY;have aue:z<=M-1:=by rw[Q];exact Nat.and_le_right
 have oZ:vf.wrap (z:Int)=z:=by rw[pf _ Ω]
 by_cases W:k=3
 ·subst W;simp[j3,ad,t];((repeat' first|refine aq ?_|simp[t]|((first|apply cu|apply cy|apply cx)<;>intro h<;>try simp at h))<;>(try exact c4));refine c3.at (S c.toList) (.inr rfl) (H.ok _) (H.same _ _ R (by simpa using f)) (fun k cs h=>?_) (fun _ _ h=>h) ?_
  ·simp only[ad];split
   ·rename_i e;subst e;rw[i]at h;cases h
   ·split
    ·rename_i e;subst e;rw[j]at h;cases h
    ·exact h
  ·simp[c9,ba,bd,a1];exact⟨c,rfl,by rw[w],f⟩
 ·have Hm:((i0+k:Nat):Int)<=(a:Int)+q*2+1:=Ω
  have VJ:((i0:Int)+k)<=(a:Int)+q*2+1:=Ω
  simp[j3,ad,t,VJ,Hm];(repeat' first|refine aq ?_|simp[t,VJ,Hm,ad]);have aua:=H.same d.toList c.toList R (by simpa using f);have V:∀(L:Array α) (v:List af),cJ [(aA.obj 902,v)] (S L.toList).b=(S L.toList).b:=fun L v=>Qn _ _ fun k x hm=>by
   have:=uR hm;simp only[ad];split
   ·rename_i e;subst e;rw[j]at this;cases this
   ·rfl
  refine CallDo.ob (ahI x Ω) (J7 x) (fun k cs h=>?_) (fun k o h=>by simp[oa,ad]at h) (by simp[az,aH,aK,oa,ad]) ?_
  ·simp only[oa,ad]at h⊢;split at h
   ·rename_i e;subst e;simpa using h
   ·cases h
  rintro ea A ⟨rfl,rfl⟩;refine⟨QE _ _,?_⟩;rw[<-B];have Y:cJ (oa x).b ((aA.loc 0,[af.func g lc,af.func cp cg])::(aA.obj 902,[af.int .u64 x])::(S c.toList).b)=(aA.loc 0,[af.func g lc,af.func cp cg])::(S c.toList).b:=by simp[oa,cJ,ad,V]
  have X:cJ (oa x).e (S c.toList).e=(S c.toList).e:=Qn _ _ fun _ _ _=>rfl;rw[Y,X,show(oa y).b=[(aA.obj 902,[af.int .u64 y])]from rfl,show(oa y).e=[]from rfl,List.append_nil];have atS:∀(v:List af),ad (.obj 902) ((aA.loc 0,[af.func g lc,af.func cp cg])::((S c.toList).b++[(aA.obj 902,v)]))=some v:=fun v=>by simp[ad,c0,j]
  have Q7:∀o',o'<len->o'=(if z≥len then z-len else z)->Sort.breakStep a len M (r,c) (i0+k)=(Sort.xorNext r,Sort.swp c (i0+k) (a+o')):=fun o' J U=>by unfold Sort.breakStep;simp only[Mx,<-B,<-Q,<-U]
  have TO:((i0:Int)+k)=((i0+k:Nat):Int):=Ω
  simp only[e3,aA.obj.injEq];simp[-BitVec.toNat_and,-BitVec.ofInt_natCast,aej,yY,oZ,ad,H.ssc];by_cases auf:len<=z
  ·have MW:(len:Int)<=z:=Ω
   have Ll:((a:Int)+(z-len))=((a+(z-len):Nat):Int):=Ω
   ((repeat' first|refine aq ?_|simp[MW,ad,H.ssc]|((first|apply cu|apply cy|apply cx)<;>intro h<;>try simp at h))<;>(try exact c4));rw[Ll,TO];refine CallDo.ob (H.swap c.toList (by simpa using f) Ω (i0+k) (a+(z-len)) Ω Ω) (H.ok _) (fun bt cs h=>?_) (fun _ _ h=>h) (by simp[az,aH,H.ksc c.toList (by simpa using f)]) ?_
   ·simp only[ad];split
    ·rename_i e;subst e;rw[i]at h;cases h
    ·rw[c0,h]
   rintro ea A ⟨rfl,rfl⟩;refine⟨H.same _ _ (by simpa using f) (by simpa using f),?_⟩;rw[Ia c Ω Ω];obtain⟨d2,s⟩:∃d2,d2=Sort.swp c (i0+k) (a+(z-len)):=⟨_,rfl⟩;have s2:d2.size=n:=by rw[s,hL,f]
   rw[<-s];have Lp:∀v:List af,cJ (S c.toList).b ((aA.loc 0,[af.func g lc,af.func cp cg])::((S c.toList).b++[(aA.obj 902,v)]))=[(aA.loc 0,[af.func g lc,af.func cp cg]),(aA.obj 902,v)]:=fun v=>by simp only[cJ,i];rw[jt,hM];simp[cJ,j]
   dsimp only;rw[Lp,hM];simp;(repeat' first|refine aq ?_|simp);have Lh:((i0:Int)+k+1)=((i0+(k+1):Nat):Int):=Ω
   rw[Lh];refine bV.whl (k+1,Sort.xorNext r,d2) d6 ⟨by simp;omega,s2,by simp only[Ar,w];rw[Q7 (z-len) Ω (by rw[if_pos Ω]),s]⟩ ?_;rw[Mx,<-B];refine ab8 (FY H d2 y) (fun k h=>O d2 _ k h s2) (fun k h=>qR _ h) (by simp[az,aK,j3,ad,nm]) (by simp[ad]) (F d2 _ s2) ?_ (fun _ _ h=>h);intro k cs h;simp only[j3,ad]at h⊢;split at h
   ·rename_i e;subst e;simpa using h
   ·rename_i e;split
    ·rename_i aC;subst aC;rw[i]at h;cases h
    ·exact h
  ·have MW:¬(len:Int)<=z:=Ω
   have Ll:((a:Int)+z)=((a+z:Nat):Int):=Ω
   ((repeat' first|refine aq ?_|simp[MW,ad,H.ssc]|((first|apply cu|apply cy|apply cx)<;>intro h<;>try simp at h))<;>(try exact c4));rw[Ll,TO];refine CallDo.ob (H.swap c.toList (by simpa using f) Ω (i0+k) (a+z) Ω Ω) (H.ok _) (fun bt cs h=>?_) (fun _ _ h=>h) (by simp[az,aH,H.ksc c.toList (by simpa using f)]) ?_
   ·simp only[ad];split
    ·rename_i e;subst e;rw[i]at h;cases h
    ·rw[c0,h]
   rintro ea A ⟨rfl,rfl⟩;refine⟨H.same _ _ (by simpa using f) (by simpa using f),?_⟩;rw[Ia c Ω Ω];obtain⟨d2,s⟩:∃d2,d2=Sort.swp c (i0+k) (a+z):=⟨_,rfl⟩;have s2:d2.size=n:=by rw[s,hL,f]
   rw[<-s];have Lp:∀v:List af,cJ (S c.toList).b ((aA.loc 0,[af.func g lc,af.func cp cg])::((S c.toList).b++[(aA.obj 902,v)]))=[(aA.loc 0,[af.func g lc,af.func cp cg]),(aA.obj 902,v)]:=fun v=>by simp only[cJ,i];rw[jt,hM];simp[cJ,j]
   dsimp only;rw[Lp,hM];simp;(repeat' first|refine aq ?_|simp);have Lh:((i0:Int)+k+1)=((i0+(k+1):Nat):Int):=Ω
   rw[Lh];refine bV.whl (k+1,Sort.xorNext r,d2) d6 ⟨by simp;omega,s2,by simp only[Ar,w];rw[Q7 z Ω (by rw[if_neg Ω]),s]⟩ ?_;rw[Mx,<-B];refine ab8 (FY H d2 y) (fun k h=>O d2 _ k h s2) (fun k h=>qR _ h) (by simp[az,aK,j3,ad,nm]) (by simp[ad]) (F d2 _ s2) ?_ (fun _ _ h=>h);intro k cs h;simp only[j3,ad]at h⊢;split at h
   ·rename_i e;subst e;simpa using h
   ·rename_i e;split
    ·rename_i aC;subst aC;rw[i]at h;cases h
    ·exact h
end
section
open Go Go.Pv
variable {α:Type} [Inhabited α] {S:List α->cQ} {n g cp:Nat} {lc cg:List af} {lt:α->α->Bool}
def fQ.fnD{d d2:Array α}(H:fQ S n g cp lc cg lt)(J:d.size=n){f:Nat}{args:List af}{r:af}(p:bD au f args (S d.toList) fun b j=>b=r/\∃a,j=S a.toList/\a=d2/\a.size=n)(m:aH (aK (S d.toList)) args){t:List (Nat×af)}{aX:List af}{o:List aA}{a:bc Nat}{K:bo->Prop}
  (h:d2.size=n->∀o,K ⟨e3 a r t,(.loc 0,aX)::(S d2.toList).b,(S d2.toList).e,1,o⟩):CallDo au f args ⟨t,(.loc 0,aX)::(S d.toList).b,(S d.toList).e,1,o⟩ a K:=
 H.call (by simpa using J) (R:=fun b c=>b=r/\c=d2.toList/\d2.size=n) (p.mono fun r j ⟨l,a,q,i,k⟩=>⟨a.toList,q,l,by rw[i],by rw[<-i];exact k⟩) (fun r c ⟨_,e,h⟩=>by rw[e];simpa using h) m (by rintro b c ⟨rfl,rfl,U⟩;exact h U _)
attribute [local simp] ql
def CP(S:List α->cQ)(n g cp:Nat)(lc cg:List af)(lt:α->α->Bool)(m:Nat):Prop:=
 ∀k,k<m->∀(d:Array α),d.size=n->∀a b e:Nat,b-a<=k->a<=b->b<=n->e<=1000->Sort.Below lt a b d->
  bD au 214 [fC g cp lc cg,aj a,aj b,aj e] (S d.toList) fun r f=>r= .tuple []/\∃c,f=S c.toList/\Sort.PermIn a b d c/\Sort.SortedIn lt a b c
structure yq (S:List α->cQ) (n g cp:Nat) (lc cg:List af) (lt:α->α->Bool) (bs b7 lim:Nat) (d:Array α) (Q:Exit->bo->Prop):Prop where
 k:∀e,e= .normal\/e= .exit 1->∀(a2 b8:Nat) (w v:Bool) (L:Array α) (t:List (Nat×af)) (o:List aA),L.size=n->a2<=b8->b8<=n->b8-a2<b7-bs->Sort.Below lt a2 b8 L->(∀R,Sort.PermIn a2 b8 L R->Sort.SortedIn lt a2 b8 R->Sort.PermIn bs b7 d R/\Sort.SortedIn lt bs b7 R)->
  Pv.get 1 t=aj a2->Pv.get 2 t=aj b8->Pv.get 3 t=aj lim->Pv.get 4 t= .ptr (.loc 0) 0->Pv.get 8 t= .bool w->Pv.get 9 t= .bool v->Q e ⟨t,(.loc 0,[.func g lc,.func cp cg])::(S L.toList).b,(S L.toList).e,1,o⟩
 r:∀(R:Array α) t o,Sort.PermIn bs b7 d R->Sort.SortedIn lt bs b7 R->Q .ret ⟨t,(.loc 0,[.func g lc,.func cp cg])::(S R.toList).b,(S R.toList).e,1,o⟩
def yq.mono{bs b7 lim:Nat}{d f:Array α}{Q:Exit->bo->Prop}(h:yq S n g cp lc cg lt bs b7 lim d Q)(p:Sort.PermIn bs b7 d f):yq S n g cp lc cg lt bs b7 lim f Q:=⟨fun e he a2 k w v L t o m q j l i c=>h.k e he a2 k w v L t o m q j l i fun R b a=>⟨Sort.permIn_trans _ _ _ bs b7 p (c R b a).1,(c R b a).2⟩,fun R t o b a=>h.r R t o (Sort.permIn_trans _ _ _ bs b7 p b) a⟩
structure Aj (t:List (Nat×af)) (bs b7 lim:Nat):Prop where
 t1:Pv.get 1 t=aj bs
 t2:Pv.get 2 t=aj b7
 t3:Pv.get 3 t=aj lim
 t4:Pv.get 4 t= .ptr (.loc 0) 0
 t10:Pv.get 10 t=aj ((b7:Int)-bs)
section
variable {bs b7 lim:Nat} {cS:Array α} {t:List (Nat×af)} {o:List aA} {ob:List aA} {Q:Exit->bo->Prop}
def YX(H:fQ S n g cp lc cg lt)(F:Sort.SWO lt)(B:CP S n g cp lc cg lt (b7-bs)){pv:Nat}(T:Aj t bs b7 lim)(t11:Pv.get 11 t=aj pv)(z:lim<=1000)(l:cS.size=n)(e:bs<=pv/\pv<b7)(u:b7<=n)(K:12<b7-bs)(E:Sort.Below lt bs b7 cS)(A:yq S n g cp lc cg lt bs b7 lim cS Q):
  dd au ob KR Q ⟨t,(.loc 0,[.func g lc,.func cp cg])::(S cS.toList).b,(S cS.toList).e,1,o⟩:=by
 obtain⟨t1,t2,t3,t4,t10⟩:=T;have j:∀f:Array α,f.size=n->az (aK (S f.toList)) (fC g cp lc cg):=fun f h=>H.kdata (lk:=f.toList) (by simpa using h);have hle:=H.le;unfold KR;simp[t1,t2,t4,t11,ad,H.slc,H.ssc];simp only[jh H,H.slc,H.ssc,ja];have d:=aie H cS l bs b7 pv e.1 e.2 Ω u;have i:Sort.partition lt cS bs b7 pv=((Sort.partition lt cS bs b7 pv).1,(Sort.partition lt cS bs b7 pv).2.1,(Sort.partition lt cS bs b7 pv).2.2):=rfl;generalize (Sort.partition lt cS bs b7 pv).1=mid at d i;generalize (Sort.partition lt cS bs b7 pv).2.1=ap at d i;generalize (Sort.partition lt cS bs b7 pv).2.2=d4 at d i;obtain⟨g1,g2,g3,g4,g5,g6,g7⟩:=Sort.round_part F (Sort.partition_holds lt) e.1 e.2 Ω E i;refine H.fnD l d (by simp[az,aH,j cS l]) fun s4 o=>?_;have em:((mid:Int)+1)=(mid+1:Nat):=Ω
 simp[t1,t2,t3,t4,t10];by_cases G:mid-bs<b7-mid
 ·have y:(mid:Int)-bs<b7-mid:=Ω
  (repeat' first|refine aq ?_|simp[y,ad,t1,t2,t3,t4,t10]);simp only[jh H,H.slc,H.ssc,ja];refine H.doFn (lk:=d4.toList) (by simpa using s4) (R:=fun a=> ∃L:Array α,a=L.toList/\Sort.PermIn bs mid d4 L/\Sort.SortedIn lt bs mid L) ((B (mid-bs) Ω d4 s4 bs mid lim (dL _) g1 Ω z g4).mono fun r J ⟨x,b,w,v,p⟩=>⟨x,b.toList,w,b,rfl,v,p⟩) (by rintro a ⟨L,rfl,q,_⟩;simpa using q.1.trans s4) (by simp[aH,az,j d4 s4]) ?_;rintro a ⟨L,rfl,c,s⟩;obtain⟨m,k⟩:=g6 L c s;simp;(repeat' first|refine aq ?_|simp[t1,t2,t3,t4]);rw[em];exact A.k _ (.inl rfl) (mid+1) b7 _ ap L _ _ (c.1.trans s4) Ω u Ω m k Ψ (by simp[t2]) (by simp[t3]) (by simp[t4]) (by simp;rfl) Ψ
 ·have y:¬(mid:Int)-bs<b7-mid:=Ω
  (repeat' first|refine aq ?_|simp[y,ad,t1,t2,t3,t4,t10]);simp only[jh H,H.slc,H.ssc,ja];rw[em];refine H.doFn (lk:=d4.toList) (by simpa using s4) (R:=fun a=> ∃L:Array α,a=L.toList/\Sort.PermIn (mid+1) b7 d4 L/\Sort.SortedIn lt (mid+1) b7 L) ((B (b7-(mid+1)) Ω d4 s4 (mid+1) b7 lim (dL _) Ω u z g5).mono fun r J ⟨x,b,w,v,p⟩=>⟨x,b.toList,w,b,rfl,v,p⟩) (by rintro a ⟨L,rfl,q,_⟩;simpa using q.1.trans s4) (by simp[aH,az,j d4 s4]) ?_;rintro a ⟨L,rfl,c,s⟩;obtain⟨m,k⟩:=g7 L c s;simp;(repeat' first|refine aq ?_|simp[t1,t2,t3,t4]);exact A.k _ (.inl rfl) bs mid _ ap L _ _ (c.1.trans s4) g1 Ω Ω m k (by simp[t1]) Ψ (by simp[t3]) (by simp[t4]) (by simp;rfl) Ψ
def aox(H:fQ S n g cp lc cg lt)(j:Sort.SWO lt)(p:CP S n g cp lc cg lt (b7-bs)){pv:Nat}(T:Aj t bs b7 lim)(t11:Pv.get 11 t=aj pv){w v:Bool}(t8:Pv.get 8 t= .bool w)(t9:Pv.get 9 t= .bool v)(m:lim<=1000)(b:cS.size=n)(a:bs<=pv/\pv<b7)(d:b7<=n)(l:12<b7-bs)(e:Sort.Below lt bs b7 cS)(h:yq S n g cp lc cg lt bs b7 lim cS Q):
  dd au ob C4 Q ⟨t,(.loc 0,[.func g lc,.func cp cg])::(S cS.toList).b,(S cS.toList).e,1,o⟩:=by
 obtain⟨t1,t2,t3,t4,t10⟩:=id T;have hle:=H.le;unfold C4;by_cases c:0<bs
 ·have k:(0:Int)<bs:=Ω
  simp[t1,t2,t4,t11,c,k,ad,H.slc,H.ssc];(repeat' first|refine aq ?_|simp[t1,t2,t4,t11,c,k,ad,H.slc,H.ssc]);rw[show((bs:Int)-1)=((bs-1:Nat):Int) by omega];refine H.lessA b (bs-1) pv Ω Ω fun o=>?_;cases q:lt cS[bs-1]! cS[pv]!
  ·simp;(repeat' first|refine aq ?_|simp[ad,H.slc,H.ssc,t1,t2,t4,t11]);simp only[jh H,H.slc,H.ssc,ja];have f:=aif H cS b bs b7 pv a.1 a.2 Ω d;have i:Sort.partitionEqual lt cS bs b7 pv=((Sort.partitionEqual lt cS bs b7 pv).1,(Sort.partitionEqual lt cS bs b7 pv).2):=rfl;generalize (Sort.partitionEqual lt cS bs b7 pv).1=mid at f i;generalize (Sort.partitionEqual lt cS bs b7 pv).2=d4 at f i;obtain⟨g1,g2,g3,g4,g5⟩:=Sort.round_eq j (Sort.partitionEqual_holds lt) c a.1 a.2 Ω e q i;refine H.fnD b f (by simp[az,aH,H.kdata (lk:=cS.toList) (by simpa using b)]) fun s4 o=>?_;simp[t1,t2,t3,t4];exact h.k _ (.inr rfl) mid b7 w v d4 _ _ s4 g2 d Ω g4 g5 Ψ (by simp[t2]) (by simp[t3]) (by simp[t4]) (by simp[t8]) (by simp[t9])
  ·simp;exact YX H j p ⟨by simp[t1],by simp[t2],by simp[t3],by simp[t4],by simp[t10]⟩ (by simp[t11]) m b a d l e h
 ·have k:¬(0:Int)<bs:=Ω
  simp[t1,c];exact YX H j p ⟨by simp[t1],by simp[t2],by simp[t3],by simp[t4],by simp[t10]⟩ (by simp[t11]) m b a d l e h
def OE(H:fQ S n g cp lc cg lt)(p:Sort.SWO lt)(z:CP S n g cp lc cg lt (b7-bs)){pv:Nat}(T:Aj t bs b7 lim)(t11:Pv.get 11 t=aj pv){h:Nat}(t12:Pv.get 12 t=aj h){w v:Bool}(t8:Pv.get 8 t= .bool w)(t9:Pv.get 9 t= .bool v)(r:lim<=1000)(b:cS.size=n)(u:bs<=pv/\pv<b7)(m:b7<=n)(q:12<b7-bs)(c:Sort.Below lt bs b7 cS)(l:yq S n g cp lc cg lt bs b7 lim cS Q):
  dd au ob KS Q ⟨t,(.loc 0,[.func g lc,.func cp cg])::(S cS.toList).b,(S cS.toList).e,1,o⟩:=by
 obtain⟨t1,t2,t3,t4,t10⟩:=id T;have hle:=H.le;unfold KS;have next:∀{d5:Array α} {t o},Aj t bs b7 lim->Pv.get 11 t=aj pv->Pv.get 8 t= .bool w->Pv.get 9 t= .bool v->d5.size=n->Sort.Below lt bs b7 d5->Sort.PermIn bs b7 cS d5->dd au ob C4 Q ⟨t,(.loc 0,[.func g lc,.func cp cg])::(S d5.toList).b,(S d5.toList).e,1,o⟩:=fun j k e f y x s=>aox H p z j k e f r y u m q x (l.mono s)
 have skip:∀{t o},Aj t bs b7 lim->Pv.get 11 t=aj pv->Pv.get 8 t= .bool w->Pv.get 9 t= .bool v->dd au ob C4 Q ⟨t,(.loc 0,[.func g lc,.func cp cg])::(S cS.toList).b,(S cS.toList).e,1,o⟩:=fun j k e f=>next j k e f b c (Sort.permIn_refl _ _ _)
 by_cases aw:(w=true/\v=true)/\h=1
 ·obtain⟨⟨rfl,rfl⟩,rfl⟩:=aw;simp[t1,t2,t4,t8,t9,t12,ad,H.slc,H.ssc];simp only[jh H,H.slc,H.ssc,ja];have d:=aid H cS b bs b7 Ω m Ω;have a:=Sort.partialInsertionSort_holds p cS bs b7 Ω Ω c;generalize (Sort.partialInsertionSort lt cS bs b7).1=d5 at d a;generalize (Sort.partialInsertionSort lt cS bs b7).2=ok at d a;refine H.fnD b d (by simp[az,aH,H.kdata (lk:=cS.toList) (by simpa using b)]) fun i o=>?_;cases ok
  ·simp;exact next ⟨by simp[t1],by simp[t2],by simp[t3],by simp[t4],by simp[t10]⟩ (by simp[t11]) (by simp[t8]) (by simp[t9]) i (c.perm Ω a.1) a.1
  ·simp;exact l.r _ _ _ a.1 (a.2 rfl)
 ·cases w
  ·simp[t8,t9,t12];exact skip ⟨by simp[t1],by simp[t2],by simp[t3],by simp[t4],by simp[t10]⟩ (by simp[t11]) (by simp[t8]) (by simp[t9])
  ·cases v
   ·simp[t8,t9,t12];exact skip ⟨by simp[t1],by simp[t2],by simp[t3],by simp[t4],by simp[t10]⟩ (by simp[t11]) (by simp[t8]) (by simp[t9])
   ·have J:((h:Int)==1)=false:=by simp at aw⊢;omega
    simp[t8,t9,t12,J];exact skip ⟨by simp[t1],by simp[t2],by simp[t3],by simp[t4],by simp[t10]⟩ (by simp[t11]) (by simp[t8]) (by simp[t9])
def YY(H:fQ S n g cp lc cg lt)(s:tv S 901)(j:Sort.SWO lt)(i:CP S n g cp lc cg lt (b7-bs))(T:Aj t bs b7 lim){w v:Bool}(t8:Pv.get 8 t= .bool w)(t9:Pv.get 9 t= .bool v)(e:lim<=1000)(s1:cS.size=n)(a:b7<=n)(d:12<b7-bs)(l:Sort.Below lt bs b7 cS)(f:yq S n g cp lc cg lt bs b7 lim cS Q):
  dd au ob KT Q ⟨t,(.loc 0,[.func g lc,.func cp cg])::(S cS.toList).b,(S cS.toList).e,1,o⟩:=by
 obtain⟨t1,t2,t3,t4,t10⟩:=id T;have hle:=H.le;have m:∀c:Array α,c.size=n->az (aK (S c.toList)) (fC g cp lc cg):=fun c h=>H.kdata (lk:=c.toList) (by simpa using h);unfold KT;simp[t1,t2,t4,ad,H.slc,H.ssc];simp only[jh H,H.slc,H.ssc,ja];have b:=Sort.choosePivot_holds lt cS bs b7 Ω;have k:=ahO H s cS s1 bs b7 Ω a;generalize Sort.choosePivot lt cS bs b7=u at k b;obtain⟨p,hint⟩:=u;simp only at k b;refine H.fnA s1 s1 k (by simp[az,aH,m cS s1]) fun o=>?_;cases hint
 ·simp[Bf];exact OE H j i ⟨by simp[t1],by simp[t2],by simp[t3],by simp[t4],by simp[t10]⟩ (pv:=p) Ψ (h:=0) Ψ (w:=w) (v:=v) (by simp[t8]) (by simp[t9]) e s1 b a d l f
 ·simp[Bf];exact OE H j i ⟨by simp[t1],by simp[t2],by simp[t3],by simp[t4],by simp[t10]⟩ (pv:=p) Ψ (h:=1) Ψ (w:=w) (v:=v) (by simp[t8]) (by simp[t9]) e s1 b a d l f
 ·simp[Bf,t1,t2,t4,ad,H.slc,H.ssc];simp only[jh H,H.slc,H.ssc,ja];refine H.fnD s1 (ail H cS s1 bs b7 Ω a Ω) (by simp[az,aH,m cS s1]) fun s2 o=>?_;have q:=Sort.reverseRange_holds cS bs b7 Ω Ω;have r:((b7:Int)-1-(p-bs))=((b7-1)-(p-bs):Nat):=Ω
  simp[t1,t2,r];(repeat' first|refine aq ?_|simp[r,t1,t2]);exact OE H j i ⟨by simp[t1],by simp[t2],by simp[t3],by simp[t4],by simp[t10]⟩ (pv:=(b7-1)-(p-bs)) Ψ (h:=1) Ψ (w:=w) (v:=v) (by simp[t8]) (by simp[t9]) e s2 Ω a d (l.perm Ω q) (f.mono q)
end
def aih(H:fQ S n g cp lc cg lt)(gB:tv S 901)(iB:tv S 902)(F:Sort.SWO lt)(m:Nat):∀(d:Array α) (K:d.size=n) (a b B:Nat) (hm:b-a<=m) (mX:a<=b) (ag:b<=n) (ft:B<=1000) (A4:Sort.Below lt a b d),
  bD au 214 [fC g cp lc cg,aj a,aj b,aj B] (S d.toList) fun r ak=>r= .tuple []/\∃q,ak=S q.toList/\Sort.PermIn a b d q/\Sort.SortedIn lt a b q:=by
 induction m using Nat.strongRecOn with
 |ind m bZ=>
 intro d K a b B hm mX ag ft A4;have ai:=H.ok d.toList;have G:d.toList.length=n:=by simpa using K
 have aB:∀l m,ad (.loc m) (S l).b=none:=fun l=>(H.ok l).obj.1;have hu:∀l m cs,cH (.loc m) cs (S l).b=(S l).b++[(.loc m,cs)]:=fun l m cs=>kH (aB l m);have ar:∀m,aA.loc m∉cI (S d.toList):=kE ai.obj;have hle:=H.le;refine bD.mk mixed a7 Tryz.func214 anM Ψ ai.obj fun aT cZ=>?_;unfold SB;simp[fC,hu,ar,c0,aB];refine H.loopA G [4] (fun(x:((Nat×Nat×Nat)×Bool×Bool)×Array α)=>[(1,aj x.1.1.1),(2,aj x.1.1.2.1),(3,aj x.1.1.2.2),(8,.bool x.1.2.1),(9,.bool x.1.2.2)]) (·.2) (fun x=>x.1.1.2.1-x.1.1.1) (fun x=>x.2.size=n/\(x.1.1.1<=x.1.1.2.1/\x.1.1.2.1<=n/\x.1.1.2.1-x.1.1.1<=m/\x.1.1.2.2<=1000)/\Sort.Below lt x.1.1.1 x.1.1.2.1 x.2/\∀R,Sort.PermIn x.1.1.1 x.1.1.2.1 x.2 R->Sort.SortedIn lt x.1.1.1 x.1.1.2.1 R->Sort.PermIn a b d R/\Sort.SortedIn lt a b R)
  (((a,b,B),true,true),d) K ⟨K,⟨mX,ag,hm,ft⟩,A4,fun R J U=>⟨J,U⟩⟩ (by simp[c0,aB]) aW aW dl ?_
 rintro⟨⟨⟨bs,b7,i⟩,asd,wp⟩,f⟩ ⟨c,⟨s,u,fv,V⟩,Nd,O⟩;simp only at c s u fv V Nd O;have Q:∀E:Array α,E.size=n->az (aK (S E.toList)) (fC g cp lc cg):=fun E h=>H.kdata (lk:=E.toList) (by simpa using h);have M:∀(R:Array α) t o,Sort.PermIn bs b7 f R->Sort.SortedIn lt bs b7 R->c3 [] (S d.toList) (fun r ak=>r= .tuple []/\∃q,ak=S q.toList/\Sort.PermIn a b d q/\Sort.SortedIn lt a b q) .ret ⟨t,(.loc 0,[.func g lc,.func cp cg])::(S R.toList).b,(S R.toList).e,1,o⟩:=fun R t o J U=>by refine H.retA G (by rw[J.1];exact c) (.inl rfl) ⟨rfl,R,rfl,O R J U⟩
 simp;by_cases ur:b7-bs<=12
 ·have A:(b7:Int)-bs<=12:=Ω
  (repeat' first|refine aq ?_|simp[A,ad,H.slc,H.ssc]);simp only[jh H,H.slc,H.ssc,ja];refine H.fnD c (ah0 H f c bs b7 s u) (by simp[az,aH,Q f c]) fun s2 o=>?_;obtain⟨a6,Y⟩:=Sort.insertionSort_holds F f bs b7 s Ω;simp;exact M _ _ _ a6 Y
 have A:¬(b7:Int)-bs<=12:=Ω
 by_cases xm:i=0
 ·have N:(((i:Nat):Int)==0)=true:=by simp[xm]
  (repeat' first|refine aq ?_|simp[A,N,ad,H.slc,H.ssc]);simp only[jh H,H.slc,H.ssc,ja];refine H.fnD c (ahQ H f c bs b7 s u Ω) (by simp[az,aH,Q f c]) fun s2 o=>?_;obtain⟨a6,Y⟩:=Sort.heapSort_holds F f bs b7 s Ω;simp;exact M _ _ _ a6 Y
 have N:(((i:Nat):Int)==0)=false:=by simp[xm]
 have Wn:CP S n g cp lc cg lt (b7-bs):=fun k ab=>bZ k Ω;cases asd
 ·(repeat' first|refine aq ?_|simp[A,N,ad,H.slc,H.ssc]);simp only[jh H,H.slc,H.ssc,ja];refine H.fnD c (ahN H iB f c bs b7 s u Ω) (by simp[az,aH,Q f c]) fun s1 o=>?_;have P:=Sort.breakPatterns_holds f bs b7 s Ω;generalize Sort.breakPatterns f bs b7=d1 at s1 P;have el:((i:Int)-1)=(i-1:Nat):=Ω
  simp[el];(repeat' first|refine aq ?_|simp[el,ad]);refine YY (lim:=i-1) H gB F Wn ⟨Ψ,Ψ,Ψ,Ψ,Ψ⟩ (w:=false) (v:=wp) Ψ Ψ Ω s1 u Ω (Nd.perm Ω P) ⟨?_,fun R t o p j=>?_⟩
  ·rintro e he a2 Z w v L t o z aC X b2 W y t1 t2 t3 t4 t8 t9;rcases he with rfl|rfl<;>simp<;>exact bV.whl (((a2,Z,i-1),w,v),L) d6 ⟨z,⟨aC,X,by simp;omega,by simp;omega⟩,W,fun R p j=>O R (Sort.permIn_trans _ _ _ bs b7 P (y R p j).1) (y R p j).2⟩ (H.weakC G (by simpa using z) (by simp[az,t1,t2,t3,t4,t8,t9]))
  ·simpa using M R t o (Sort.permIn_trans _ _ _ bs b7 P p) j
 ·(repeat' first|refine aq ?_|simp[A,N,ad,H.slc,H.ssc]);refine YY (lim:=i) H gB F Wn ⟨Ψ,Ψ,Ψ,Ψ,Ψ⟩ (w:=true) (v:=wp) Ψ Ψ V c u Ω Nd ⟨?_,fun R t o p j=>?_⟩
  ·rintro e he a2 Z w v L t o z aC X b2 W y t1 t2 t3 t4 t8 t9;rcases he with rfl|rfl<;>simp<;>exact bV.whl (((a2,Z,i),w,v),L) d6 ⟨z,⟨aC,X,by simp;omega,V⟩,W,fun R p j=>O R (y R p j).1 (y R p j).2⟩ (H.weakC G (by simpa using z) (by simp[az,t1,t2,t3,t4,t8,t9]))
  ·simpa using M R t o p j
end
section
open Go Go.Pv
variable {α:Type} {S:List α->cQ} {n g cp:Nat} {lc cg:List af} {lt:α->α->Bool}
def alF(n:rI lt){l lk:List α}{a b i:Nat}(t:a+1<=i)(E:i<=b)(A:b<=l.length)(e:fW lt (a+1) b l){z:α}(j:l[a]? =some z)(r:∀h x,a+1<=h->h<i->l[h]? =some x->lt x z=true)(s:∀h x,i<=h->h<b->l[h]? =some x->lt x z=false)
  (o:∀k,lk[k]? =l[iR a (a+1) i k]?):fW lt a b lk:=by
 intro p q x y w u g c d;rw[o]at c d;simp only[iR]at c d;rw[if_neg Ω]at c d;by_cases B:q<i-1
 ·rw[if_pos Ω]at c d;exact e _ _ _ _ Ω Ω Ω c d
 ·rw[if_neg Ω]at d;by_cases m:q<i
  ·rw[if_pos m,show q-(i-(a+1))=a by omega,j]at d;cases d;rw[if_pos Ω]at c;exact n.asym _ _ (r _ _ Ω Ω c)
  ·rw[if_neg m]at d;by_cases v:p<i-1
   ·rw[if_pos Ω]at c;exact e _ _ _ _ Ω Ω Ω c d
   ·rw[if_neg Ω]at c;by_cases f:p<i
    ·rw[if_pos f,show p-(i-(a+1))=a by omega,j]at c;cases c;exact s _ _ Ω g d
    ·rw[if_neg f]at c;exact e _ _ _ _ Ω Ω g c d
def alG(n:rI lt){l lk:List α}{a m i:Nat}(v:a<=i)(o:i<=m)(E:m+1<=l.length)(e:fW lt a m l){z:α}(g:l[m]? =some z)(t:∀h x,a<=h->h<i->l[h]? =some x->lt z x=false)(u:∀h x,i<=h->h<m->l[h]? =some x->lt z x=true)
  (r:∀k,lk[k]? =l[iR i m (m+1) k]?):fW lt a (m+1) lk:=by
 intro p q x y d j A b c;rw[r]at b c;simp only[iR]at b c;by_cases s:q<i
 ·rw[if_pos Ω]at b c;exact e _ _ _ _ d j Ω b c
 ·rw[if_neg s]at c;by_cases B:q=i
  ·rw[if_pos Ω,show q+(m-i)=m by omega,g]at c;cases c;rw[if_pos Ω]at b;exact t _ _ d Ω b
  ·rw[if_neg Ω,if_pos Ω]at c;by_cases f:p<i
   ·rw[if_pos f]at b;exact e _ _ _ _ d Ω Ω b c
   ·rw[if_neg f]at b;by_cases w:p=i
    ·rw[if_pos Ω,show p+(m-i)=m by omega,g]at b;cases b;exact n.asym _ _ (u _ _ Ω Ω c)
    ·rw[if_neg Ω,if_pos Ω]at b;exact e _ _ _ _ Ω Ω Ω b c
structure FQ (lt:α->α->Bool) (a s m e b mid:Nat) (lk:List α):Prop where
 s1:fW lt a s lk
 s2:fW lt s mid lk
 s3:fW lt mid e lk
 s4:fW lt e b lk
 cross:∀p q x y,a<=p->p<mid->mid<=q->q<b->lk[p]? =some x->lk[q]? =some y->lt y x=false
def fW.le(g:rI lt){a b:Nat}{l:List α}(h:fW lt a b l){i j:Nat}{x y:α}(J:a<=i)(U:i<=j)(k:j<b)(d:l[i]? =some x)(c:l[j]? =some y):lt y x=false:=by
 by_cases e:i=j
 ·subst e;rw[d]at c;cases c;cases f:lt x x with
  |false=>rfl
  |true=>have:=g.asym _ _ f;rw[f]at this;exact this
 ·exact h _ _ _ _ J Ω k d c
def alP(f:rI lt){l lk:List α}{a m b mid s e:Nat}(has:a<=s)(e9:s<=m)(H:m<=e)(K:e<=b)(N:b<=l.length)(M:s+e=mid+m)(J:fW lt a m l)(U:fW lt m b l)
  (w:s=a\/e=b\/ ∃x y,l[s-1]? =some x/\l[e]? =some y/\lt y x=false) (n:s=m\/e=m\/ ∃x y,l[s]? =some x/\l[e-1]? =some y/\lt y x=true) (j:∀k,lk[k]? =l[iR s m e k]?):FQ lt a s m e b mid lk:=by
 have g1:∀p,p<s->lk[p]? =l[p]?:=fun p g=>by rw[j];simp[iR,g]
 have g2:∀p,s<=p->p<mid->lk[p]? =l[p+(m-s)]?:=fun p B L=>by rw[j];simp only[iR];rw[if_neg Ω,if_pos Ω]
 have g3:∀p,mid<=p->p<e->lk[p]? =l[p-(e-m)]?:=fun p B L=>by rw[j];simp only[iR];rw[if_neg Ω,if_neg Ω,if_pos Ω]
 have g4:∀p,e<=p->lk[p]? =l[p]?:=fun p B=>by
  rw[j];simp only[iR];rw[if_neg Ω];by_cases G:p<s+(e-m)
  ·omega
  ·rw[if_neg G,if_neg Ω]
 refine⟨fun p q x y g i h d c=>?_,fun p q x y g i h d c=>?_,fun p q x y g i h d c=>?_,fun p q x y g i h d c=>?_,fun p q x y g z h E d c=>?_⟩
 ·rw[g1 _ Ω]at d c;exact J _ _ _ _ g i Ω d c
 ·rw[g2 _ Ω Ω]at d c;exact U _ _ _ _ Ω Ω Ω d c
 ·rw[g3 _ Ω Ω]at d c;exact J _ _ _ _ Ω Ω Ω d c
 ·rw[g4 _ Ω]at d c;exact U _ _ _ _ Ω Ω Ω d c
 ·by_cases F:p<s
  ·rw[g1 _ F]at d;by_cases A:q<e
   ·rw[g3 _ h A]at c;exact J _ _ _ _ g Ω Ω d c
   ·rw[g4 _ Ω]at c;rcases w with w|w|⟨u,v,r,t,o⟩
    ·omega
    ·omega
    ·exact f.ntr _ _ _ (f.ntr _ _ _ (fW.le f J g Ω Ω d r) o) (fW.le f U Ω Ω E t c)
  ·rw[g2 _ Ω z]at d;by_cases A:q<e
   ·rw[g3 _ h A]at c;rcases n with n|n|⟨u,v,r,t,o⟩
    ·omega
    ·omega
    ·exact f.ntr _ _ _ (f.ntr _ _ _ (fW.le f U Ω Ω Ω d t) (f.asym _ _ o)) (fW.le f J Ω Ω Ω r c)
   ·rw[g4 _ Ω]at c;exact U _ _ _ _ Ω Ω E d c
def alQ{a mid b:Nat}(t:a<=mid){lk e f:List α}(J:hf a mid lk e)(s1:fW lt a mid e)(U:hf mid b e f)(s2:fW lt mid b f)(i:∀p q x y,a<=p->p<mid->mid<=q->q<b->lk[p]? =some x->lk[q]? =some y->lt y x=false):fW lt a b f:=by
 intro p q x y n j m c d;by_cases r:q<mid
 ·rw[U.out _ (.inl Ω)]at c;rw[U.out _ (.inl Ω)]at d;exact s1 _ _ _ _ n j r c d
 ·by_cases s:mid<=p
  ·exact s2 _ _ _ _ s j m c d
  ·rw[U.out _ (.inl Ω)]at c;refine U.all (fun y=>lt y x=false) (fun k y l o d=>?_) q y Ω m d;rw[J.out _ (.inr l)]at d;exact J.all (fun x=>lt y x=false) (fun bt x h g c=>i bt k x y h g l o c d) p x n Ω c
end
section
open Go Go.Pv
variable {α:Type} {S:List α->cQ} {n g cp:Nat} {lc cg:List af} {lt:α->α->Bool}
def aqv(lt:α->α->Bool)(l:List α)(mid m s0 r0:Nat)(x:Nat×Nat):Prop:=s0<=x.1/\x.1<=x.2/\x.2<=r0/\(x.1=s0\/ ∃u v,l[x.1-1]? =some u/\l[mid+m-x.1]? =some v/\lt v u=false)/\(x.2=r0\/ ∃u v,l[x.2]? =some u/\l[mid+m-x.2-1]? =some v/\lt v u=true)
attribute [local simp] ql
def FZ(S:List α->cQ)(n g cp:Nat)(lc cg:List af)(lt:α->α->Bool)(d:Nat):Prop:=
 ∀(l:List α) (a m b:Nat),l.length=n->b-a<=d->a<m->m<b->b<=n->fW lt a m l->fW lt m b l->
  bD au 232 [fC g cp lc cg,aj a,aj m,aj b] (S l) fun r e=>r= .tuple []/\∃c,e=S c/\hf a b l c/\fW lt a b c
def F0(S:List α->cQ)(g cp:Nat)(lc cg:List af)(lt:α->α->Bool)(a b:Nat)(l:List α)(Q:Exit->bo->Prop):Prop:=∀c t o,hf a b l c->fW lt a b c->Q .normal ⟨t,(.loc 0,[.func g lc,.func cp cg])::(S c).b,(S c).e,1,o⟩
section
variable {a m b mid i e d:Nat} {l:List α} {t:List (Nat×af)} {o:List aA} {ob:List aA} {Q:Exit->bo->Prop}
def aqa(H:fQ S n g cp lc cg lt)(r:FZ S n g cp lc cg lt d)(t3:Pv.get 3 t=aj b)(t4:Pv.get 4 t= .ptr (.loc 0) 0)(t16:Pv.get 16 t=aj mid)(t22:Pv.get 22 t=aj e)(c:l.length=n)(J:mid<=e)(U:e<=b)(s:b<=n)(u:b-mid<=d)(p:fW lt mid e l)(m:fW lt e b l)(i:F0 S g cp lc cg lt mid b l Q):
  dd au ob Gk Q ⟨t,(.loc 0,[.func g lc,.func cp cg])::(S l).b,(S l).e,1,o⟩:=by
 unfold Gk;by_cases a:mid<e/\e<b
 ·simp[t3,t4,t16,t22,a.1,a.2,ad];simp only[jh H,H.slc,H.ssc,ja];refine H.doFn c (r l mid e b c u a.1 a.2 s p m) (fun w h=>by rw[h.1.length];exact c) (by simp[aH,az,H.kdata c]) ?_;rintro v ⟨q,z2⟩;simp;exact i _ _ _ q z2
 ·have k:fW lt mid b l:=by
   by_cases f:mid<e
   ·rwa[show e=b by omega]at p
   ·rwa[show e=mid by omega]at m
  by_cases f:mid<e
  ·have j:¬e<b:=Ω
   simp[t3,t16,t22,f,j];exact i _ _ _ (.refl _) k
  ·simp[t16,t22,f];exact i _ _ _ (.refl _) k
def aqb(H:fQ S n g cp lc cg lt)(A:FZ S n g cp lc cg lt d)(t1:Pv.get 1 t=aj a)(t3:Pv.get 3 t=aj b)(t4:Pv.get 4 t= .ptr (.loc 0) 0)(t16:Pv.get 16 t=aj mid)(t18:Pv.get 18 t=aj i)(t22:Pv.get 22 t=aj e)(j:l.length=n)(X:a<=i/\i<=mid/\a<=m)(J:mid<=e)(U:e<=b)(P:b<=n)(R:b-mid<=d)(F:mid-a<=d)(f:FQ lt a i m e b mid l)(G:F0 S g cp lc cg lt a b l Q):
  dd au ob Gl Q ⟨t,(.loc 0,[.func g lc,.func cp cg])::(S l).b,(S l).e,1,o⟩:=by
 unfold Gl;have next:∀{k t o},Pv.get 3 t=aj b->Pv.get 4 t= .ptr (.loc 0) 0->Pv.get 16 t=aj mid->Pv.get 22 t=aj e->k.length=n->hf a mid l k->fW lt a mid k->dd au ob Gk Q ⟨t,(.loc 0,[.func g lc,.func cp cg])::(S k).b,(S k).e,1,o⟩:=fun O V L N E c r=>by
  refine aqa H A O V L N E J U P R (fun p q x y J U z s u=>?_) (fun p q x y J U z s u=>?_) fun K t o B M=>?_
  ·rw[c.out _ (.inr J)]at s;rw[c.out _ (.inr Ω)]at u;exact f.s3 p q x y J U z s u
  ·rw[c.out _ (.inr Ω)]at s;rw[c.out _ (.inr Ω)]at u;exact f.s4 p q x y J U z s u
  ·exact G K t o ((c.mono Ω Ω).trans (B.mono Ω Ω)) (alQ Ω c r B M f.cross)
 by_cases v:a<i/\i<mid
 ·simp[t1,t4,t16,t18,v.1,v.2,ad];simp only[jh H,H.slc,H.ssc,ja];refine H.doFn j (A l a i mid j F v.1 v.2 Ω f.s1 f.s2) (fun Y h=>by rw[h.1.length];exact j) (by simp[aH,az,H.kdata j]) ?_;rintro k ⟨c,r⟩;simp;exact next (by simp[t3]) (by simp[t4]) (by simp[t16]) (by simp[t22]) (by rw[c.length];exact j) c r
 ·have r:fW lt a mid l:=by
   by_cases w:a<i
   ·have:=f.s1;rwa[show i=mid by omega]at this
   ·have:=f.s2;rwa[show i=a by omega]at this
  by_cases w:a<i
  ·have W:¬i<mid:=Ω
   simp[t1,t16,t18,w,W];exact next (by simp[t3]) (by simp[t4]) (by simp[t16]) (by simp[t22]) j (.refl _) r
  ·simp[t1,t18,w];exact next (by simp[t3]) (by simp[t4]) (by simp[t16]) (by simp[t22]) j (.refl _) r
def aqc(H:fQ S n g cp lc cg lt)(G:FZ S n g cp lc cg lt d)(t1:Pv.get 1 t=aj a)(t2:Pv.get 2 t=aj m)(t3:Pv.get 3 t=aj b)(t4:Pv.get 4 t= .ptr (.loc 0) 0)(t16:Pv.get 16 t=aj mid)(t18:Pv.get 18 t=aj i)(t22:Pv.get 22 t=aj e)(c:l.length=n)(E:a<=i/\i<=mid/\a<=m)(J:mid<=e)(U:e<=b)(M:b<=n)(N:b-mid<=d)(w:mid-a<=d)(u:∀lk:List α,(∀k,lk[k]? =l[iR i m e k]?)->FQ lt a i m e b mid lk)(x:F0 S g cp lc cg lt a b l Q):
  dd au ob KU Q ⟨t,(.loc 0,[.func g lc,.func cp cg])::(S l).b,(S l).e,1,o⟩:=by
 unfold KU;have next:∀{lk t o},Pv.get 1 t=aj a->Pv.get 3 t=aj b->Pv.get 4 t= .ptr (.loc 0) 0->Pv.get 16 t=aj mid->Pv.get 18 t=aj i->Pv.get 22 t=aj e->lk.length=n->FQ lt a i m e b mid lk->hf a b l lk->dd au ob Gl Q ⟨t,(.loc 0,[.func g lc,.func cp cg])::(S lk).b,(S lk).e,1,o⟩:=fun L O F K B A y j v=>aqb H G L O F K B A y E J U M N w j fun z t o p q=>x z t o (v.trans p) q
 by_cases f:i<m/\m<e
 ·simp[t2,t4,t18,t22,f.1,f.2,ad];simp only[jh H,H.slc,H.ssc,ja];refine H.doFn c (aim H l c i m e f.1 f.2 Ω) (fun P h=>by rw[h.1.length];exact c) (by simp[aH,az,H.kdata c]) ?_;rintro lk ⟨p,q⟩;simp;exact next (by simp[t1]) (by simp[t3]) (by simp[t4]) (by simp[t16]) (by simp[t18]) (by simp[t22]) (by rw[p.length];exact c) (u lk q) (p.mono Ω Ω)
 ·have j:=u l (fun k=>by
   congr 1;simp only[iR];repeat' split
   all_goals omega)
  by_cases s:i<m
  ·have r:¬m<e:=Ω
   simp[t2,t18,t22,s,r];exact next (by simp[t1]) (by simp[t3]) (by simp[t4]) (by simp[t16]) (by simp[t18]) (by simp[t22]) c j (.refl _)
  ·simp[t2,t18,s];exact next (by simp[t1]) (by simp[t3]) (by simp[t4]) (by simp[t16]) (by simp[t18]) (by simp[t22]) c j (.refl _)
def aaM{bb:List (aA×List af)}(H:fQ S n g cp lc cg lt)(L:ad (.loc 0) bb=some [.func g lc,.func cp cg])(U:∀k cs,ad k (S l).b=some cs->ad k bb=some cs)(Y:rI lt)(V:FZ S n g cp lc cg lt d){s0 r0:Nat}(t1:Pv.get 1 t=aj a)(t2:Pv.get 2 t=aj m)(t3:Pv.get 3 t=aj b)(t4:Pv.get 4 t= .ptr (.loc 0) 0)(t16:Pv.get 16 t=aj mid)(t17:Pv.get 17 t=aj ((mid:Int)+m))(t18:Pv.get 18 t=aj s0)(t19:Pv.get 19 t=aj r0)(f:l.length=n)(bz:a<m/\m<b/\mid=(a+b)/2)(J:mid<m/\s0=mid+m-b/\r0=mid\/m<=mid/\s0=a/\r0=m)(ag:b<=n)(aJ:b-a<=d+1)(N:fW lt a m l)(M:fW lt m b l)(O:F0 S g cp lc cg lt a b l Q):
  dd au (cI (S l)) KV Q ⟨t,bb,(S l).e,1,o⟩:=by
 have hle:=H.le;unfold KV;simp[t17];(repeat' first|refine aq ?_|simp[t17]);refine oY (fun(x:Nat×Nat)=>⟨[(1,aj a),(2,aj m),(3,aj b),(4,.ptr (.loc 0) 0),(16,aj mid),(17,aj (mid+m)),(20,aj (mid+m-1)),(18,aj x.1),(19,aj x.2)],(.loc 0,[.func g lc,.func cp cg])::(S l).b,(S l).e,1,cI (S l)⟩) (fun x=>x.2-x.1)
  (aqv lt l mid m s0 r0) (s0,r0) (H.weak f f (by simp[az,t1,t2,t3,t4,t16,t17,t18,t19]) L U fun _ _ h=>h) ⟨Ψ,by simp;omega,Ψ,.inl rfl,.inl rfl⟩ ?_
 rintro⟨i,j⟩ ⟨K,W,G,p,q⟩ _;simp only at K W G p q;have E:=Ha i j Ω;by_cases F:i<j
 ·simp[F];(repeat' first|refine aq ?_|simp[ad]);obtain⟨c,aw⟩:∃c,c=(i+j)/2:=⟨_,rfl⟩;rw[<-aw]at E;simp only[E];(repeat' first|refine aq ?_|simp[ad]);obtain⟨u,A⟩:∃u,l[c]? =some u:=⟨_,cl Ω⟩;obtain⟨v,z⟩:∃v,l[mid+m-1-c]? =some v:=⟨_,cl Ω⟩;have Z:((mid:Int)+m-1-c)=(mid+m-1-c:Nat):=Ω
  simp only[H.slc,Z];refine H.doLess f (mid+m-1-c) c z A ?_;simp;cases B:lt v u with
  |false=>simp;(repeat' first|refine aq ?_|simp);refine bV.whl (c+1,j) d6 ⟨by simp;omega,by simp;omega,G,.inr ⟨u,v,by simpa using A,?_,B⟩,q⟩ (H.weakC f f dl);simp only;rw[show mid+m-(c+1)=mid+m-1-c by omega];exact z
  |true=>simp;(repeat' first|refine aq ?_|simp);refine bV.whl (i,c) d6 ⟨K,by simp;omega,by simp;omega,p,.inr ⟨u,v,A,?_,B⟩⟩ (H.weakC f f dl);simp only;rw[show mid+m-c-1=mid+m-1-c by omega];exact z
 ·obtain rfl:i=j:=Ω
  obtain⟨e,he⟩:∃e,e=mid+m-i:=⟨_,rfl⟩;have P:((mid:Int)+m-i)=(e:Nat):=Ω
  have X:i=a\/e=b\/ ∃x y,l[i-1]? =some x/\l[e]? =some y/\lt y x=false:=by
   rcases p with p|⟨u,v,w,s,r⟩
   ·omega
   ·exact .inr (.inr ⟨u,v,w,by rw[he];exact s,r⟩)
  have R:i=m\/e=m\/ ∃x y,l[i]? =some x/\l[e-1]? =some y/\lt y x=true:=by
   rcases q with q|⟨u,v,w,s,r⟩
   ·omega
   ·exact .inr (.inr ⟨u,v,w,by rw[he];exact s,r⟩)
  simp[F];(repeat' first|refine aq ?_|simp);rw[P];exact aqc H V (a:=a) (m:=m) (b:=b) (mid:=mid) (i:=i) (e:=e) Ψ Ψ Ψ Ψ Ψ Ψ Ψ f Ω Ω Ω ag Ω Ω (fun lk aI=>alP Y Ω Ω Ω Ω Ω Ω N M X R aI) O
end
def U5(H:fQ S n g cp lc cg lt)(q:rI lt)(d:Nat):∀(l:List α) (a m b:Nat),l.length=n->b-a<=d->a<m->m<b->b<=n->fW lt a m l->fW lt m b l->
  bD au 232 [fC g cp lc cg,aj a,aj m,aj b] (S l) fun r ak=>r= .tuple []/\∃V,ak=S V/\hf a b l V/\fW lt a b V:=by
 induction d with
 |zero=>intro l a m b f Y DF P;omega
 |succ d bZ=>
 intro l a m b f Y DF P ag M L;have ai:=H.ok l;have v:∀l m,ad (.loc m) (S l).b=none:=fun l=>(H.ok l).obj.1;have hu:∀l m cs,cH (.loc m) cs (S l).b=(S l).b++[(.loc m,cs)]:=fun l m cs=>kH (v l m);have ar:∀m,aA.loc m∉cI (S l):=kE ai.obj;have hle:=H.le;refine bD.mk mixed a7 Tryz.func232 anS Ψ ai.obj fun aT cZ=>?_;unfold SH;simp[fC,hu,ar,c0,v];(with_reducible repeat' first|((first|apply cu|apply cy|apply cx)<;>intro h<;>try simp at h)|refine aq ?_|simp[hu,ar,c0,v])
 ·obtain rfl:m=a+1:=Ω
  have MG:∀k,iR a (a+1) (a+1) k=k:=by
   intro k;simp only[iR];repeat' split
   all_goals omega
  obtain⟨z,O⟩:∃z,l[a]? =some z:=⟨_,cl Ω⟩;refine oY (fun(x:Nat×Nat)=>⟨[(1,aj a),(4,.ptr (.loc 0) 0),(8,aj x.1),(9,aj x.2)],(.loc 0,[.func g lc,.func cp cg])::(S l).b,(S l).e,1,cI (S l)⟩) (fun x=>x.2-x.1)
   (fun x=>a+1<=x.1/\x.1<=x.2/\x.2<=b/\(∀h y,a+1<=h->h<x.1->l[h]? =some y->lt y z=true)/\(∀h y,x.2<=h->h<b->l[h]? =some y->lt y z=false)) (a+1,b)
   (H.weak f f dl (by simp[c0,v]) aW aW) ⟨Ψ,by simp;omega,Ψ,fun h y J U=>by simp at U;omega,fun h y J U=>by simp at J;omega⟩ ?_
  rintro⟨i,j⟩ ⟨N,W,E,w,A⟩ _;simp only at N W E w A;have hw:=Ha i j Ω;simp[ad];(with_reducible repeat' first|((first|apply cu|apply cy|apply cx)<;>intro h<;>try simp at h)|refine aq ?_|simp[ad])
  ·obtain⟨c,aw⟩:∃c,c=(i+j)/2:=⟨_,rfl⟩;rw[<-aw]at hw;obtain⟨y,G⟩:∃y,l[c]? =some y:=⟨_,cl Ω⟩;simp only[hw,H.slc];refine H.doLess f c a G O ?_;simp;cases K:lt y z with
   |true=>
    simp;(repeat' first|refine aq ?_|simp);refine bV.whl (c+1,j) d6 ⟨by simp;omega,by simp;omega,E,fun h u J U hu=>?_,A⟩ (H.weakC f f dl);cases e:lt u z with
    |true=>rfl
    |false=>simp only at U;have:=q.ntr _ _ _ e (fW.le q L J Ω Ω hu G);rw[K]at this;cases this
   |false=>simp;(repeat' first|refine aq ?_|simp);refine bV.whl (i,c) d6 ⟨N,by simp;omega,by simp;omega,w,fun h u J U hu=>?_⟩ (H.weakC f f dl);exact q.ntr _ _ _ K (fW.le q L Ω J U G hu)
  ·obtain rfl:i=j:=Ω
   refine oY (fun(x:Nat×List α)=>⟨[(4,.ptr (.loc 0) 0),(8,aj i),(11,aj x.1)],(.loc 0,[.func g lc,.func cp cg])::(S x.2).b,(S x.2).e,1,cI (S l)⟩) (fun x=>i-x.1)
    (fun x=>x.2.length=n/\a<=x.1/\x.1<i/\hf a b l x.2/\∀k,x.2[k]? =l[iR a (a+1) (x.1+1) k]?) (a,l)
    (H.weakC f f dl) ⟨f,Ψ,by simp;omega,.refl _,fun k=>by simp[MG]⟩ ?_
   rintro⟨k,lk⟩ ⟨p,F,X,B,s⟩ _;simp only at p F X B s;simp[ad];((repeat' first|refine aq ?_|simp[ad]|((first|apply cu|apply cy|apply cx)<;>intro h<;>try simp at h))<;>(try exact c4))
   ·have R:((k:Int)+1)=(k+1:Nat):=Ω
    rw[H.ssc,R];refine H.doSwap p k (k+1) Ω Ω Ω ?_;simp;(with_reducible repeat' first|((first|apply cu|apply cy|apply cx)<;>intro h<;>try simp at h)|refine aq ?_|simp);refine bV.whl (k+1,h9 lk k (k+1)) d6 ⟨by simp[p],by simp;omega,by simp;omega,.step B Ω Ω Ω Ω Ω Ω,fun t=>?_⟩ (H.weakC f (by simp[p]) dl);rw[BM _ _ _ _ Ω Ω,s,s,s];have:iR a (a+1) (k+1+1) t=if t=k then iR a (a+1) (k+1) (k+1)else if t=k+1 then iR a (a+1) (k+1) k else iR a (a+1) (k+1) t:=by
     simp only[iR];repeat' split
     all_goals omega
    rw[this];split
    ·rfl
    ·split<;>rfl
   ·obtain rfl:i=k+1:=Ω
    refine H.ret f p (.inl rfl) ⟨rfl,lk,rfl,B,alF q Ω E Ω L O w A s⟩
 ·obtain rfl:b=m+1:=Ω
  have MG:∀k,iR m m (m+1) k=k:=by
   intro k;simp only[iR];repeat' split
   all_goals omega
  obtain⟨z,O⟩:∃z,l[m]? =some z:=⟨_,cl Ω⟩;refine oY (fun(x:Nat×Nat)=>⟨[(2,aj m),(4,.ptr (.loc 0) 0),(12,aj x.1),(13,aj x.2)],(.loc 0,[.func g lc,.func cp cg])::(S l).b,(S l).e,1,cI (S l)⟩) (fun x=>x.2-x.1)
   (fun x=>a<=x.1/\x.1<=x.2/\x.2<=m/\(∀h y,a<=h->h<x.1->l[h]? =some y->lt z y=false)/\(∀h y,x.2<=h->h<m->l[h]? =some y->lt z y=true)) (a,m)
   (H.weak f f dl (by simp[c0,v]) aW aW) ⟨Ψ,by simp;omega,Ψ,fun h y J U=>by simp at U;omega,fun h y J U=>by simp at J;omega⟩ ?_
  rintro⟨i,j⟩ ⟨N,W,E,w,A⟩ _;simp only at N W E w A;have hw:=Ha i j Ω;simp[ad];(with_reducible repeat' first|((first|apply cu|apply cy|apply cx)<;>intro h<;>try simp at h)|refine aq ?_|simp[ad])
  ·obtain⟨c,aw⟩:∃c,c=(i+j)/2:=⟨_,rfl⟩;rw[<-aw]at hw;obtain⟨y,G⟩:∃y,l[c]? =some y:=⟨_,cl Ω⟩;simp only[hw,H.slc];refine H.doLess f m c O G ?_;simp;cases K:lt z y with
   |false=>simp;((repeat' first|refine aq ?_|simp|((first|apply cu|apply cy|apply cx)<;>intro h<;>try simp at h))<;>(try exact c4));refine bV.whl (c+1,j) d6 ⟨by simp;omega,by simp;omega,E,fun h u J U hu=>?_,A⟩ (H.weakC f f dl);simp only at U;exact q.ntr _ _ _ (fW.le q M J Ω Ω hu G) K
   |true=>
    simp;((repeat' first|refine aq ?_|simp|((first|apply cu|apply cy|apply cx)<;>intro h<;>try simp at h))<;>(try exact c4));refine bV.whl (i,c) d6 ⟨N,by simp;omega,by simp;omega,w,fun h u J U hu=>?_⟩ (H.weakC f f dl);cases e:lt z u with
    |true=>rfl
    |false=>have:=q.ntr _ _ _ (fW.le q M Ω J U G hu) e;rw[K]at this;cases this
  ·obtain rfl:i=j:=Ω
   refine oY (fun(x:Nat×List α)=>⟨[(4,.ptr (.loc 0) 0),(12,aj i),(15,aj x.1)],(.loc 0,[.func g lc,.func cp cg])::(S x.2).b,(S x.2).e,1,cI (S l)⟩) (fun x=>x.1)
    (fun x=>x.2.length=n/\i<=x.1/\x.1<=m/\hf a (m+1) l x.2/\∀k,x.2[k]? =l[iR x.1 m (m+1) k]?) (m,l)
    (H.weakC f f dl) ⟨f,by simp;omega,Ψ,.refl _,fun k=>by simp[MG]⟩ ?_
   rintro⟨k,lk⟩ ⟨p,F,X,B,s⟩ _;simp only at p F X B s;simp[ad];((repeat' first|refine aq ?_|simp[ad]|((first|apply cu|apply cy|apply cx)<;>intro h<;>try simp at h))<;>(try exact c4))
   ·have R:((k:Int)-1)=(k-1:Nat):=Ω
    rw[H.ssc,R];refine H.doSwap p k (k-1) Ω Ω Ω ?_;simp;(repeat' first|refine aq ?_|simp);refine bV.whl (k-1,h9 lk k (k-1)) d6 ⟨by simp[p],by simp;omega,by simp;omega,.step B Ω Ω Ω Ω Ω Ω,fun t=>?_⟩ (H.weakC f (by simp[p]) (by simp[az];omega));rw[BM _ _ _ _ Ω Ω,s,s,s];have:iR (k-1) m (m+1) t=if t=k then iR k m (m+1) (k-1)else if t=k-1 then iR k m (m+1) k else iR k m (m+1) t:=by
     simp only[iR];repeat' split
     all_goals omega
    rw[this];split
    ·rfl
    ·split<;>rfl
   ·obtain rfl:i=k:=Ω
    refine H.ret f p (.inl rfl) ⟨rfl,lk,rfl,B,alG q Ω E Ω M O w A s⟩
 ·obtain⟨mid,Z⟩:∃mid,mid=(a+b)/2:=⟨_,rfl⟩;have hw:=Ha a b Ω;rw[<-Z]at hw;simp only[hw];(with_reducible repeat' first|((first|apply cu|apply cy|apply cx)<;>intro h<;>try simp at h)|refine aq ?_|simp[hu,ar,c0,v])
  ·exact aaM (s0:=mid+m-b) (r0:=mid) H (by simp[c0,v]) aW q bZ (a:=a) (m:=m) (b:=b) (mid:=mid) Ψ Ψ Ψ Ψ Ψ Ψ d6 Ψ f ⟨DF,P,Z⟩ Ω ag Y M L fun Q t o p F=>H.ret f (by rw[p.length];exact f) (.inr rfl) ⟨rfl,Q,rfl,p,F⟩
  ·exact aaM (s0:=a) (r0:=m) H (by simp[c0,v]) aW q bZ (a:=a) (m:=m) (b:=b) (mid:=mid) Ψ Ψ Ψ Ψ Ψ Ψ Ψ Ψ f ⟨DF,P,Z⟩ Ω ag Y M L fun Q t o p F=>H.ret f (by rw[p.length];exact f) (.inr rfl) ⟨rfl,Q,rfl,p,F⟩
end
section
open Go Go.Pv
variable {α:Type} {S:List α->cQ} {n g cp:Nat} {lc cg:List af} {lt:α->α->Bool}
def p7(lt:α->α->Bool)(z a b:Nat)(l:List α):Prop:= ∀i j x y,a<=i->i<j->j<b->i/z=j/z->l[i]? =some x->l[j]? =some y->lt y x=false
def p7.snoc{z q:Nat}(f:0<z){l a:List α}(h:p7 lt z 0 (q*z) l){b:Nat}(g:hf (q*z) b l a)(U:fW lt (q*z) b a):p7 lt z 0 b a:=by
 intro i j x y hi e m o c d;by_cases k:j<q*z
 ·rw[g.out _ (.inl Ω)]at c;rw[g.out _ (.inl k)]at d;exact h i j x y hi e k o c d
 ·have p:q<=j/z:=(Nat.le_div_iff_mul_le f).2 Ω;have n:q*z<=i:=(Nat.le_div_iff_mul_le f).1 Ω;exact U i j x y n e m c d
def p7.srt{z q:Nat}(o:0<z){l:List α}{a b:Nat}(h:p7 lt z a b l){c:Nat}(f:a<=q*z)(aw:c<=(q+1)*z)(e:c<=b):fW lt (q*z) c l:=by intro i j x y hi d p g k;have n:i/z=q:=Nat.div_eq_of_lt_le hi Ω;have m:j/z=q:=Nat.div_eq_of_lt_le Ω Ω;exact h i j x y Ω d Ω Ω g k
def p7.after{z a b bs b7:Nat}{l c:List α}(h:p7 lt z a b l)(d:hf a bs l c)(m:a<=bs)(o:b7<=b):p7 lt z bs b7 c:=by intro i j x y hi g n k e f;rw[d.out _ (.inr Ω)]at e;rw[d.out _ (.inr Ω)]at f;exact h i j x y Ω g Ω k e f
def LQ(H:fQ S n g cp lc cg lt)(L:rI lt)(l:List α)(f:l.length=n):
  bD au 199 [fC g cp lc cg,aj n] (S l) fun r ak=>r= .tuple []/\∃b,ak=S b/\hf 0 n l b/\fW lt 0 n b:=by
 have ai:=H.ok l;have W:∀l m,ad (.loc m) (S l).b=none:=fun l=>(H.ok l).obj.1;have hu:∀l m cs,cH (.loc m) cs (S l).b=(S l).b++[(.loc m,cs)]:=fun l m cs=>kH (W l m);have ar:∀m,aA.loc m∉cI (S l):=kE ai.obj;have hle:=H.le;refine bD.mk mixed a7 Tryz.func199 anQ Ψ ai.obj fun aT cZ=>?_;unfold SF;simp[fC,hu,ar,c0,W];refine oY (fun(x:Nat×List α)=>⟨[(1,aj n),(2,.ptr (.loc 0) 0),(4,aj 20),(5,aj (x.1*20)),(6,aj (x.1*20+20))],(.loc 0,[.func g lc,.func cp cg])::(S x.2).b,(S x.2).e,1,cI (S l)⟩) (fun x=>n+20-x.1*20)
  (fun x=>x.2.length=n/\x.1*20<=n/\hf 0 n l x.2/\p7 lt 20 0 (x.1*20) x.2) (0,l)
  (H.weak f f dl (by simp[c0,W]) aW aW) ⟨f,Ψ,.refl _,fun i j x y J U k=>by simp at k⟩ ?_
 rintro⟨q,lk⟩ ⟨J,U,k,V⟩ _;simp only at J U k V;simp[ad];((repeat' first|refine aq ?_|simp[ad]|((first|apply cu|apply cy|apply cx)<;>intro h<;>try simp at h))<;>(try exact c4))
 ·have P:((q:Int)*20)=(q*20:Nat):=Ω
  have aC:((q:Int)*20+20)=(q*20+20:Nat):=Ω
  simp only[jh H,H.slc,H.ssc,ja,aC];simp only[P];refine H.doFn J (UW H L lk J (q*20) (q*20+20) Ω Ω) (fun b h=>by rw[h.1.length];exact J) (by simp[aH,az,H.kdata J]) ?_;rintro b ⟨s,N⟩;have w:b.length=n:=by rw[s.length];exact J
  simp;((repeat' first|refine aq ?_|simp|((first|apply cu|apply cy|apply cx)<;>intro h<;>try simp at h))<;>(try exact c4));refine bV.whl (q+1,b) d6 ⟨w,by simp;omega,k.trans (s.mono Ω Ω),?_⟩ (H.weakC f w (by simp[az];omega));have:=V.snoc Ω s N;rwa[show q*20+20=(q+1)*20 by omega]at this
 ·have P:((q:Int)*20)=(q*20:Nat):=Ω
  simp only[jh H,H.slc,H.ssc,ja,P];refine H.doFn J (UW H L lk J (q*20) n Ω Ω) (fun b h=>by rw[h.1.length];exact J) (by simp[aH,az,H.kdata J]) ?_;rintro b ⟨s,N⟩;have w:b.length=n:=by rw[s.length];exact J
  have gd:=V.snoc Ω s N;simp;refine oY (fun(x:Nat×List α)=>⟨[(1,aj n),(2,.ptr (.loc 0) 0),(4,aj x.1)],(.loc 0,[.func g lc,.func cp cg])::(S x.2).b,(S x.2).e,1,cI (S l)⟩) (fun x=>1099511627776-x.1)
   (fun x=>x.2.length=n/\20<=x.1/\x.1<=2*n+20/\hf 0 n l x.2/\p7 lt x.1 0 n x.2) (20,b)
   (H.weakC f w dl) ⟨w,Ψ,Ψ,k.trans (s.mono Ω Ω),gd⟩ ?_
  rintro⟨z,XB⟩ ⟨K,z2,z3,z4,z5⟩ _;simp only at K z2 z3 z4 z5;simp[ad];((repeat' first|refine aq ?_|simp[ad]|((first|apply cu|apply cy|apply cx)<;>intro h<;>try simp at h))<;>(try exact c4))
  ·refine oY (fun(x:Nat×List α)=>⟨[(1,aj n),(2,.ptr (.loc 0) 0),(4,aj z),(5,aj (x.1*(2*z):Nat)),(6,aj (x.1*(2*z)+2*z:Nat))],(.loc 0,[.func g lc,.func cp cg])::(S x.2).b,(S x.2).e,1,cI (S l)⟩) (fun x=>n+2*z-x.1*(2*z))
    (fun x=>x.2.length=n/\x.1*(2*z)<=n/\hf 0 n l x.2/\p7 lt (2*z) 0 (x.1*(2*z)) x.2/\p7 lt z (x.1*(2*z)) n x.2) (0,XB)
    (H.weakC f K dl) ⟨K,Ψ,z4,fun i j x y J U k=>by simp at k,by simpa using z5⟩ ?_
   rintro⟨p,F⟩ ⟨a,dN,G,o,E⟩ _;simp only at a dN G o E;obtain⟨A,d⟩:∃A,A=p*(2*z):=⟨_,rfl⟩;have yV:A=(2*p)*z:=by rw[d,Nat.mul_comm 2 p,Nat.mul_assoc]
   have X:(2*p+1)*z=A+z:=by rw[qT,<-yV,Nat.one_mul]
   have R:(2*p+2)*z=A+2*z:=by rw[qT,<-yV]
   have t:(p+1)*(2*z)=A+2*z:=by rw[qT,<-d,Nat.one_mul]
   have M:∀c,c<=A+z->c<=n->fW lt A c F:=fun c aw Y=>by have:=p7.srt (q:=2*p) Ω E (c:=c) (by rw[<-yV,d];omega) (by rw[X];exact aw) Y;rwa[<-yV]at this
   have Z:∀c,c<=A+2*z->c<=n->fW lt (A+z) c F:=fun c aw Y=>by have:=p7.srt (q:=2*p+1) Ω E (c:=c) (by rw[X,d];omega) (by rw[R];exact aw) Y;rwa[X]at this
   rw[<-d]at dN o E;simp only[<-d];simp[ad];((repeat' first|refine aq ?_|simp[ad]|((first|apply cu|apply cy|apply cx)<;>intro h<;>try simp at h))<;>(try exact c4))
   ·have O:((A:Int)+z)=(A+z:Nat):=Ω
    have b2:((A:Int)+2*z)=(A+2*z:Nat):=Ω
    simp only[jh H,H.slc,H.ssc,ja,O,b2];refine H.doFn a (U5 H L (A+2*z-A) F A (A+z) (A+2*z) a Ω Ω Ω Ω (M _ Ω Ω) (Z _ Ω Ω)) (fun b h=>by rw[h.1.length];exact a) (by simp[aH,az,H.kdata a]) ?_;rintro B ⟨e,u⟩;have v:B.length=n:=by rw[e.length];exact a
    simp;(repeat' first|refine aq ?_|simp);refine bV.whl (p+1,B) (by simp only[t,<-d];omega) ⟨v,by simp only[t];omega,G.trans (e.mono Ω Ω),?_,?_⟩ ?_
    ·simp only[t];rw[d]at o e u;have:=o.snoc Ω e u;rwa[<-d]at this
    ·simp only[t];exact E.after e Ω Ω
    ·simp only[t];have Q:((p:Int)+1)*(2*(z:Int))=(A:Int)+2*z:=by have h:=ff (Nat.cast:Nat->Int) t;push_cast at h;exact h
     exact H.weakC f v (by simp[az,Q])
   ·have O:((A:Int)+z)=(A+z:Nat):=Ω
    simp only[jh H,H.slc,H.ssc,ja,O];refine H.doFn a (U5 H L (n-A) F A (A+z) n a Ω Ω Ω Ω (M _ Ω Ω) (Z _ Ω Ω)) (fun b h=>by rw[h.1.length];exact a) (by simp[aH,az,H.kdata a]) ?_;rintro B ⟨e,u⟩;have v:B.length=n:=by rw[e.length];exact a
    simp;((repeat' first|refine aq ?_|simp|((first|apply cu|apply cy|apply cx)<;>intro h<;>try simp at h))<;>(try exact c4));refine bV.whl (2*z,B) d6 ⟨v,by simp;omega,by simp;omega,G.trans (e.mono Ω Ω),?_⟩ (H.weakC f v (by simp[az];omega));rw[d]at o e u;exact o.snoc Ω e u
   ·refine bV.whl (2*z,F) d6 ⟨a,by simp;omega,by simp;omega,G,?_⟩ (H.weakC f a (by simp[az];omega));have bM:=M n Ω Ω;rw[d]at o bM;exact o.snoc Ω (.refl _) bM
  ·refine H.ret f K (.inr rfl) ?_;refine⟨rfl,XB,rfl,z4,fun i j x y J U k=>z5 i j x y J U k ?_⟩;rw[Nat.div_eq_of_lt Ω,Nat.div_eq_of_lt Ω]
end
section
open Go Go.Pv Go.Sort Go.RowKit
def ajR{w:World}{base:Nat}{e:gT}{sz:Nat}{v:Value}{n:Nat}{us:List Value}(h:w.ownsRow base e sz v n us)(k:v≠ .slice none 0 0):
  ∃g cap,v= .slice (some ⟨g,0,none⟩) n cap/\g<w.heap.size/\cap<=maxLen/\n<=cap/\us.length=n*sz/\Holds id w g 0 us.toArray:=by
 rcases h.2 with⟨d,_⟩|⟨g,cap,cur,rfl,q,be,m,hm,p,l⟩
 ·exact absurd d k
 ·have f:g<w.heap.size:=by
   rcases Nat.lt_or_ge g w.heap.size with a|a
   ·exact a
   ·rw[Array.getElem?_eq_none a]at be;cases be
  refine⟨g,cap,rfl,f,hm,m,h.1,fun j i=>?_⟩;have b:j<us.length:=by simpa using i
  have o:=h.1;refine⟨?_,by simp[World.frozen?,be]⟩;have c:(cur.toList.take (n*sz))[j]? =us[j]?:=by rw[l]
  rw[List.getElem?_take,if_pos Ω,ve,cl b]at c;simp only[World.cell?,be,Nat.zero_add];simp only[mL,hN,if_false];rw[c];simp[getElem!_pos,b]
def aot{w:World}{base:Nat}{e:gT}{sz g n cap q:Nat}{us:List Value}{F:Array Value}(h:w.ownsRow base e sz (.slice (some ⟨g,0,none⟩) n cap) n us)(k:F.size=n*sz):
  (putRow id (Sort.ahead w q) g 0 F).ownsRow base e sz (.slice (some ⟨g,0,none⟩) n cap) n F.toList:=by
 rcases h.2 with⟨b,_⟩|⟨o,r,cur,b,m,be,i,hm,d,p⟩
 ·cases b
 ·injection b with a _ l;injection a with a;injection a with a;subst a;subst l;refine⟨by simpa using k,.inr ⟨g,cap,putCells id 0 F cur,rfl,m,?_,i,hm,by simpa[putCells]using d,?_⟩⟩
  ·simp[putRow,mapBlock,Sort.ahead,Array.getElem?_modify,be,onCells]
  ·have hle:n*sz<=cur.size:=by rw[d];exact rG _ i
   apply List.ext_getElem?;intro j;rw[List.getElem?_take,ve,ve];by_cases f:j<n*sz
   ·have c:j<cur.size:=Ω
    simp only[if_pos f,putCells,Array.getElem?_mapIdx,Array.getElem?_eq_getElem c,pn];rw[if_pos Ω];simp[getElem!_pos,show j<F.size by omega]
   ·simp[f];omega
end
end Go.Proofs.YtahlgcidhnjlbaaGreat
namespace Go.Pv
section
open Go Go.RowKit Go.Lib Go.Sort Go.Proofs.YtahlgcidhnjlbaaGreat
def W1{S:aA->Prop}:∀{l:List af},aH S l↔∀x∈l,az S x
 |[]=>by simp[aH]
 |x::r=>by simp only[aH,W1 (l:=r),gK,forall_eq_or_imp]
def WT{α:Type}{s:cQ}{l:List (aA×α)}:lN s l↔∀k,(ad k l).isSome->aK s k:=by
 refine⟨fun h k d=>xG h k d,fun h=>?_⟩;have:∀a:List (aA×α),(∀x∈a,aK s x.1)->lN s a:=by
  intro a;induction a with
  |nil=>intro _;trivial
  |cons x r b=>obtain⟨k,x⟩:=x;exact fun h=>⟨h (k,x) Ψ,b fun y e=>h y (by simp[e])⟩
 exact this l fun x c=>h x.1 (uR (x:=x.2) c)
def Pg{w:World}{ν:a8}{sz:Nat}:∀{xs:List af} {us:List Value} {i:Nat} {p:af},dt w ν sz xs us->xs[i]? =some p->∃u,(us.drop (i*sz)).take sz=u.cells.toList/\aU w ν p u/\u.cells.size=sz/\∀c∈u.cells.toList,c.oneCell'=true
 |[],_,_,_,_,a=>by simp at a
 |x::xs,us,0,p,h,a=>by simp only[dt]at h;obtain⟨u,e,rfl,⟨J,U,b⟩,_⟩:=h;simp at a;subst a;refine⟨u,?_,J,U,b⟩;simp only[Nat.zero_mul,List.drop_zero];rw[List.take_append_of_le_length (by simp[U])];exact iE (by simp[U])
 |x::xs,us,i+1,p,h,a=>by simp only[dt]at h;obtain⟨u,e,rfl,⟨J,U,b⟩,d⟩:=h;obtain⟨v,f,g⟩:=Pg (i:=i) d (by simpa using a);refine⟨v,?_,g⟩;rw[<-f,Nat.succ_mul,Nat.add_comm,<-List.drop_drop];congr 2;rw[List.drop_append_of_le_length (by simp[U]),List.drop_of_length_le (by simp[U])];rfl
def PB:∀(bk:List Value) (s:Nat) (F:Array Value),s+bk.length<=F.size->(setMany F s bk).toList=F.toList.take s++bk++F.toList.drop (s+bk.length)
 |[],s,F,h=>by simp[setMany]
 |v::r,s,F,h=>by
  simp only[mI]at h;rw[setMany,PB r (s+1) _ d6];have b:s<F.toList.length:=by simp;omega
  have c:(F.setIfInBounds s v).toList=F.toList.set s v:=Ψ
  rw[c];have d:(F.toList.set s v).take (s+1)=F.toList.take s++[v]:=by rw[List.take_succ,List.getElem?_set_self b,List.take_set_of_le (dL _)];simp
  have a:(F.toList.set s v).drop (s+1+r.length)=F.toList.drop (s+(v::r).length):=by rw[List.drop_set_of_lt Ω];congr 1;simp;omega
  rw[d,a];simp
def acT(w:World):Sort.ahead w 0=w:=by simp[Sort.ahead]
def U4{P:cG}(O:Bool)(cp:Nat)(ae:∀args W,(callFunc cp args).run P W=((FM O args).run P W).andThen fun v w'=>.ok (.value v) w')(e:gT)(a:TypeInfo)(uA:P.info? e=some a)(H:(∀w,(Go.isAgg e).run P w= .ok true w)\/(a.size=1/\∀w,(Go.isAgg e).run P w= .ok false w)){s:cQ}(B:eB s){K n el sz:Nat}(ej:a.size=sz){xs:List af}(E:ad (.obj K) s.e=some ⟨n,el,sz,some xs⟩)
  (i j:Nat) (hi:i<n) (ah:j<n):bD P cp [.int .i64 i,.int .i64 j,.row sz (.obj K) n,.cst (typeHandle P e)] s fun r ak=>r= .tuple []/\ak=⟨s.b,cH (.obj K) ⟨n,el,sz,some (h9 xs i j)⟩ s.e⟩:=by
 subst ej;refine bD.sem B.obj fun w ν bk lg G=>?_;right;have s0:=G.slot 0;have s1:=G.slot 1;have s2:=G.slot 2;have s3:=G.slot 3;simp[iX,get,aU]at s0 s1 s2 s3;obtain⟨v,us,a6,bB,bT,dp⟩:=G.good.own (.obj K) _ E;obtain⟨dH,S,u1⟩:=dp _ rfl;simp only at dH S a6 bB;obtain⟨⟨g0,adt,vL⟩,_,n',eH,al,aC,bh⟩:=s2;rw[a6]at al;simp only[dS,jj]at al;obtain⟨rfl,rfl⟩:=al;have b:=bh rfl;have cr:v≠ .slice none 0 0:=by rw[<-b,vL];simp
 obtain⟨g,cap,rfl,r1,sT,ajf,DM,DC⟩:=ajR bB cr;have akh:bk= #[.int .i64 i,.int .i64 j,.slice (some ⟨g,0,none⟩) n cap,typeHandle P e]:=by
  have J:bk.size=4:=by simpa using lg
  apply Array.ext (by simpa using J);intro t U ao;simp at ao;rcases(by omega:t=0\/t=1\/t=2\/t=3)with rfl|rfl|rfl|rfl
  ·simpa[Array.getD,J]using s0
  ·simpa[Array.getD,J]using s1
  ·simpa[Array.getD,J]using b
  ·simpa[Array.getD,J]using s3
 subst akh;obtain⟨p,bI⟩:∃p,xs[i]? =some p:=⟨_,cl Ω⟩;obtain⟨q,bP⟩:∃q,xs[j]? =some q:=⟨_,cl Ω⟩;obtain⟨u,M,jN,y,Q⟩:=Pg S bI;obtain⟨x,L,Ac,l,V⟩:=Pg S bP;have VR:i*a.size+a.size<=n*a.size:=by have:=rG a.size (show i+1<=n from hi);rwa[qT,Nat.one_mul]at this
 have VS:j*a.size+a.size<=n*a.size:=by have:=rG a.size (show j+1<=n from ah);rwa[qT,Nat.one_mul]at this
 have cell:∀t v,us[t]? =some v->w.cell? ⟨g,t,none⟩=some v:=fun t v N=>by obtain⟨J,U⟩:=fM.1 N;have:=(DC t (by simpa using J)).1;simp at this;rw[this];simp[getElem!_pos,J,U]
 have Y:∀t,t<n*a.size->w.frozen? ⟨g,t,none⟩=false:=fun t N=>by have:=(DC t (by simpa[DM]using N)).2;simpa using this
 have run:(FM O #[.int .i64 i,.int .i64 j,.slice (some ⟨g,0,none⟩) n cap,typeHandle P e]).run P w= .ok (.tuple #[]) ((w.setCells g (0+i*a.size) x.cells.toList).setCells g (0+j*a.size) u.cells.toList):=by
  rcases H with H|⟨Z,H⟩
  ·exact run_swap_cells (P:=P) O e a uA H g 0 n cap i j hi ah u.cells.toList x.cells.toList (by simp[y]) (by simp[l]) Q V w
     (fun k v b=>by
      rw[<-M,List.getElem?_take]at b;split at b
      ·rw[List.getElem?_drop]at b;simpa using cell _ _ b
      ·cases b)
     (fun k v b=>by
      rw[<-L,List.getElem?_take]at b;split at b
      ·rw[List.getElem?_drop]at b;simpa using cell _ _ b
      ·cases b)
     (fun k E=>by simpa using Y (i*a.size+k) Ω) (fun k E=>by simpa using Y (j*a.size+k) Ω)
  ·rw[Z]at M y L l⊢;obtain⟨X,L9⟩:∃c,u.cells.toList=[c]:=List.length_eq_one_iff.1 (by simpa using y);obtain⟨R,mn⟩:∃c,x.cells.toList=[c]:=List.length_eq_one_iff.1 (by simpa using l);rw[L9]at M Q⊢;rw[mn]at L V⊢;simp only[World.setCells,Nat.mul_one]at M L⊢;have U7:us[i]? =some X:=by have:=ff (·[0]?) M;simpa using this
   have U9:us[j]? =some R:=by have:=ff (·[0]?) L;simpa using this
   have:=run_swap_one (P:=P) O e a uA Z H g 0 n cap i j hi ah X R (Q X Ψ) (V R Ψ) w (by simpa using cell i X U7) (by simpa using cell j R U9) (by simpa using Y i (by rw[Z];omega)) (by simpa using Y j (by rw[Z];omega));simpa using this
 have akj:putRow id w g 0 us.toArray=w:=putRow_self id w g 0 _ DC;have aka:us.toArray.size=n*a.size:=by simpa using DM
 have HD:w.setCells g (0+i*a.size) x.cells.toList=putRow id w g 0 (setMany us.toArray (i*a.size) x.cells.toList):=by have J:=setCells_putRow w g 0 x.cells.toList (i*a.size) us.toArray (by simp[l,DM];exact VR);rw[akj]at J;exact J
 obtain⟨d,oi⟩:∃d,d=setMany us.toArray (i*a.size) x.cells.toList:=⟨_,rfl⟩;have aiM:d.toList=us.take (i*a.size)++x.cells.toList++us.drop (i*a.size+a.size):=by rw[oi,PB _ _ _ (by simp[l,DM];exact VR)];simp[l]
 have LY:d.size=n*a.size:=by rw[oi,size_setMany];exact aka
 have pS:(w.setCells g (0+i*a.size) x.cells.toList).setCells g (0+j*a.size) u.cells.toList=putRow id w g 0 (setMany d (j*a.size) u.cells.toList):=by rw[HD,<-oi,setCells_putRow w g 0 u.cells.toList (j*a.size) d (by simp[y,LY];exact VS)]
 obtain⟨f,DB⟩:∃f,f=setMany d (j*a.size) u.cells.toList:=⟨_,rfl⟩;have aiN:f.toList=d.toList.take (j*a.size)++u.cells.toList++d.toList.drop (j*a.size+a.size):=by rw[DB,PB _ _ _ (by simp[y,LY];exact VS)];simp[y]
 have aiO:f.size=n*a.size:=by rw[DB,size_setMany];exact LY
 have dK:=I8 S bI Ac l V;rw[<-aiM]at dK;have eG:=I8 (i:=j) (q:=q) dK (by rw[List.getElem?_set];split;(rename_i e;subst e;rw[if_pos Ω]);exact bP) jN y Q;rw[<-aiN]at eG;have D5:(xs.set i q).set j p=h9 xs i j:=by simp[h9,bI,bP]
 rw[D5]at eG;have hlen:(h9 xs i j).length=n:=by simpa using dH
 have mq:=aot (q:=0) (F:=f) bB aiO;rw[acT]at mq;obtain⟨ly,p4,_⟩:=G.setRowM (w':=putRow id w g 0 f) E rfl a6 (bl:=g) rfl (v':= .slice (some ⟨g,0,none⟩) n cap) rfl (xs':=h9 xs i j) (us:=f.toList) (.inl ⟨hlen,rfl⟩) rfl rfl rfl
  (fun t N=>by simp[putRow,mapBlock,Array.getElem?_modify,Ne.symm N]) (by simp[putRow,mapBlock]) (by rw[hlen];exact mq) eG
 refine⟨.tuple #[],putRow id w g 0 f,?_,?_⟩
 ·rw[ae,run,pS,<-DB];rfl
 ·have A:∀k,aK ⟨s.b,cH (.obj K) ⟨n,el,a.size,some (h9 xs i j)⟩ s.e⟩ k↔aK s k:=fun k=>by
   unfold aK;simp only[je];by_cases di:aA.obj K=k
   ·subst di;simp[E]
   ·simp[di]
  refine⟨_,_,_,_,.tuple [],⟨s.b,cH (.obj K) ⟨n,el,a.size,some (h9 xs i j)⟩ s.e⟩,rfl,ly,by simp[aU,c1],WT.2 fun k lL=>(A k).2 (.inl lL),WT.2 fun k lL=>(A k).2 (.inr lL),fun k cs aw=>⟨aw,(A k).2 (.inl (by simp at aw;simp[aw])),jd (fun k h=>(A k).2 h) _ (B.kb k cs aw)⟩,fun k o ar=>⟨by simpa[hlen]using ar,?_,fun ys aL=>?_⟩,⟨B.obj.1,fun m=>?_⟩,by simp[az,aH],rfl,rfl⟩
  ·exact(.inr (by simp at ar;simp[ar]))
  ·simp only[je]at ar;split at ar
   ·cases ar;simp only[dS]at aL;subst aL;have VL:=B.ke _ _ E xs rfl;refine jd (fun k h=>(A k).2 h) _ ?_;rw[W1]at VL⊢;exact fun z bC=>VL z ((XA xs i j).mem_iff.1 bC)
   ·exact jd (fun k h=>(A k).2 h) _ (B.ke k o ar ys aL)
  ·simp only[je];simp[B.obj.2 m]
def U3{P:cG}(b:Bool)(cp:Nat)(l:∀args W,(callFunc cp args).run P W=((FM b args).run P W).andThen fun v w'=>.ok (.value v) w')(e:gT)(a:TypeInfo)(d:P.info? e=some a)(c:∀w,(Go.isAgg e).run P w= .ok true w){s:cQ}(h:eB s){K n el sz:Nat}(f:a.size=sz){xs:List af}(m:ad (.obj K) s.e=some ⟨n,el,sz,some xs⟩)
  (i j:Nat) (hi:i<n) (k:j<n):bD P cp [.int .i64 i,.int .i64 j,.row sz (.obj K) n,.cst (typeHandle P e)] s fun r g=>r= .tuple []/\g=⟨s.b,cH (.obj K) ⟨n,el,sz,some (h9 xs i j)⟩ s.e⟩:=U4 b cp l e a d (.inl c) h f m i j hi k
end
end Go.Pv
namespace Go.Proofs.YtahlgcidhnjlbaaGreat
section
open Go Go.RowKit Go.Lib Go.Sort Go.Pv
set_option maxRecDepth 100000 in
def ap5(t e:gT)(i eV:TypeInfo)(hi:au.info? t=some i)(aJ:i.desc= .slice e)(DZ:au.packed t=false)(uA:au.info? e=some eV)(ke:Nat)(vS:∀w,(acn e).run au w= .ok ke w)
  (p:bc Addr) (n c:Nat) (aB:n<4611686018427387904) (f:Nat) (aG:au.funcs.findIdx? (·.name== "internal/reflectlite" ++ ".Swapper$" ++toString (swapperK n eV ke))=some f) (Xu:Fn) (Nx sb:Array Value) (w:World) (R:World->Prop)
  (bI:Calls au 199 #[.agg #[.func Xu Nx sb,.func (.func f) #[] (sliceBound au e eV ke p n c)],.int .i64 n] ((w.alloc (.cells #[.slice p n c] t)).alloc (.cells #[typeHandle au t,.pointer (some ⟨w.heap.size,0,none⟩),.int .u64 151] 179)) fun e w'=>e= .returned (.tuple #[])/\R w'):
  Calls au 140 #[.iface t (.slice p n c),.func Xu Nx sb] w fun e w'=>e= .returned (.tuple #[])/\R w':=by
 have aN:=run_valueOf_slice (P:=au) t e i hi aJ p n c w;have ai:=fun w=>run_swapper_slice (P:=au) t e i eV hi aJ uA ke vS p n c f aG w;have av:=fun a w bR=>run_valueLen_slice (P:=au) t e i hi aJ DZ a p n c w bR;unfold sliceBound at bI;generalize (if swapperK n eV ke<=2 then(#[]:Array Value)else #[.slice p n c,typeHandle au e])=B at ai bI;have aji:au.globals.size=0:=bi
 simp only[typeHandle,aji]at aN av bI;have GF:∀args w,(callFunc 199 args).run au w= .ok (.enter 199 args) w:=enters_of Tryz.func199 bi rfl;go_enter Tryz.func140,Tryz.ntmps140;go_wp2;rw[run_callFunc_extern Tryz.func197 bi bi bi (e:=fun args=>ass (args.getD 0 (.tuple #[]))) bi,
  show Sem.run au ((fun args:Array Value=>ass (args.getD 0 (.tuple #[]))) #[.iface t (.slice p n c)]) w=_ from aN]
 simp only[Result.andThen];rw[Oper.upon_value];go_wp2;rw[run_callFunc_extern Tryz.func198 bi bi bi (e:=aw7 "internal/reflectlite" (ast "Swapper")) bi,ai];simp only[Result.andThen];rw[Oper.upon_value];go_wp2;rw[run_callFunc_extern Tryz.func200 bi bi bi (e:=aw9 (ast "reflectlite.Value.Len" 0) aw8) bi,
  av _ _ Ψ]
 simp only[Result.andThen];rw[Oper.upon_value];go_wp2_with (go_at_fn 199;refine bI.mono ?_;rintro e w' ⟨rfl,bu⟩);go_end0;exact⟨rfl,bu⟩
def _root_.Go.Pv.Good.prMono{pr f:Nat->Prop}{w:World}{ν:a8}{b:List (aA×List af)}{e:List (aA×dT)}(h:Pv.Good pr w ν b e)(c:∀bl,pr bl->fB ν ⟨b,e⟩ bl->f bl):Pv.Good f w ν b e:=by
 refine⟨h.alt,fun k cs d=>?_,h.inj,fun g o be=>?_,h.oinj,h.obx,h.one,h.otr⟩
 ·obtain⟨bl,us,el,f1,f2,f3⟩:=h.box k cs d;exact⟨bl,us,el,f1,c bl f2 (.inl ⟨k,by simp[d],f1⟩),f3⟩
 ·obtain⟨v,us,f1,f2,f3,f4⟩:=h.own g o be;exact⟨v,us,f1,f2,fun bl a=>⟨c bl (f3 bl a).1 (.inr ⟨g,o.n,v,by simp[be],f1,a⟩),(f3 bl a).2⟩,f4⟩
def Va(w:World)(a b:Obj):w.grownBy ((w.alloc a).alloc b) none:=by
 have J:w.heap.size<=(w.alloc a).heap.size:=Ψ
 have U:(w.alloc a).heap.size<=((w.alloc a).alloc b).heap.size:=Ψ
 exact⟨rfl,rfl,rfl,kx J U,fun k c _=>(Below.heap_alloc _ b k (Nat.lt_of_lt_of_le c J)).trans (Below.heap_alloc w a k c)⟩
def eA{α:Type}(e:α->af)(K B el sz:Nat)(l:List α):cQ:=⟨[(.obj B,[.row sz (.obj K) l.length])],[(.obj K,⟨l.length,el,sz,some (l.map e)⟩)]⟩
section
variable {α:Type} {e:α->af} (he:∀S x,az S (e x)) {K B el sz:Nat}
include he
theorem ak4(S:aA->Prop)(l:List α):aH S (l.map e):=by
 induction l with
 |nil=>simp[aH]
 |cons x r a=>simp only[hc,aH];exact⟨he S x,a⟩
theorem yw(l:List α):eB (eA e K B el sz l):=by unfold eA;refine eB.of ⟨by intro m;simp[ad],by intro m;simp[ad]⟩ (by simp[aH,az,aK,ad]) ?_;intro x b xs a;simp at b;subst b;simp at a;subst a;exact ak4 he _ l
omit he in
theorem yx(l a:List α):Same (eA e K B el sz l) (eA e K B el sz a):=by
 refine⟨fun k=>?_,fun k=>?_⟩
 ·simp only[eA,ad];split<;>rfl
 ·simp only[eA,ad];split<;>rfl
theorem ahK(t:gT)(i eV:TypeInfo)(hi:au.info? t=some i)(aJ:i.desc= .slice el)(DZ:au.packed t=false)(uA:au.info? el=some eV)(ke:Nat)(vS:∀w,(acn el).run au w= .ok ke w)(uv:∀n,2<=n->swapperK n eV ke=9)
  (g:Nat) (lt:α->α->Bool) (bN:rI lt) (l:List α) (av:l.length<=68719476736)
  (za:∀bf:List α,bf.length=l.length->∀(i j:Nat) x y,bf[i]? =some x->bf[j]? =some y->bD au g [.int .i64 i,.int .i64 j,.ptr (.obj B) 0] (eA e K B el sz bf) fun r ak=>r= .bool (lt x y)/\ak=eA e K B el sz bf)
  (Br:∀bf:List α,bf.length=l.length->∀i j:Nat,i<l.length->j<l.length->bD au 230 [.int .i64 i,.int .i64 j,.row sz (.obj K) l.length,.cst (typeHandle au el)] (eA e K B el sz bf) fun r ak=>r= .tuple []/\ak=eA e K B el sz (h9 bf i j)):
  bD au 140 [.iface t (.row sz (.obj K) l.length),.func g [.ptr (.obj B) 0]] (eA e K B el sz l) fun r ak=>r= .tuple []/\∃bf,ak=eA e K B el sz bf/\bf.Perm l/\bf.Pairwise fun x y=>lt y x=false:=by
 have y3:au.funcs.findIdx? (·.name== "internal/reflectlite" ++ ".Swapper$" ++toString 1)=some 222:=bi
 have sR:au.funcs.findIdx? (·.name== "internal/reflectlite" ++ ".Swapper$" ++toString 2)=some 223:=bi
 have Mg:au.funcs.findIdx? (·.name== "internal/reflectlite" ++ ".Swapper$" ++toString 9)=some 230:=bi
 have ML:∃f cg,au.funcs.findIdx? (·.name== "internal/reflectlite" ++ ".Swapper$" ++toString (swapperK l.length eV ke))=some f/\(cg=(if swapperK l.length eV ke<=2 then []else [af.row sz (.obj K) l.length,.cst (typeHandle au el)]))/\
   bD au 199 [fC g f [.ptr (.obj B) 0] cg,.int .i64 l.length] (eA e K B el sz l) fun r ak=>r= .tuple []/\∃bf,ak=eA e K B el sz bf/\hf 0 l.length l bf/\fW lt 0 l.length bf:=by
  have eI:=fun bf=>yw (K:=K) (B:=B) (el:=el) (sz:=sz) he bf;rcases(by omega:l.length=0\/l.length=1\/2<=l.length)with bz|J|U
  ·refine⟨222,[],by rw[bz];exact y3,by rw[bz];rfl,LQ (lt:=lt) ⟨eI,fun fK eR _ _=>yx fK eR,fun bf _=>by simp[aH,az,aK,eA,ad],fun bf _=>by simp[aH],by simp[b5,cf],rfl,av,fun bf h=>za bf h,fun bf _ U i j hi=>Ω⟩ bN l rfl⟩
  ·refine⟨223,[],by rw[J];exact sR,by rw[J];rfl,LQ (lt:=lt) ⟨eI,fun fK eR _ _=>yx fK eR,fun bf _=>by simp[aH,az,aK,eA,ad],fun bf _=>by simp[aH],by simp[b5,cf],rfl,av,fun bf h=>za bf h,fun bf _ U i j hi ah=>Ω⟩ bN l rfl⟩
  ·refine⟨230,_,by rw[uv _ U];exact Mg,rfl,?_⟩;rw[uv _ U];simp only[show¬((9:Nat)<=2)from by decide,if_false];exact LQ (lt:=lt) ⟨eI,fun fK eR _ _=>yx fK eR,fun bf _=>by simp[aH,az,aK,eA,ad],fun bf _=>by simp[aH,az,aK,eA,ad],by simp[b5,cf],by simp[b5,cf],av,fun bf h=>za bf h,fun bf h _ i j hi ah=>Br bf h i j hi ah⟩ bN l rfl
 obtain⟨f,cg,aG,MH,du⟩:=ML;intro w ν bk be ae aI;have pP:=c5.start (yw he l).obj be ae aI;have MD:=aI;simp only[c1,aU]at aI;obtain⟨v0,vs1,Bu,⟨u,rfl,⟨b,cap,rfl⟩,ft,n',eH,al,aC,bh⟩,v1,vs2,hv1,⟨sb,rfl,r3⟩,rfl⟩:=aI;have lg:bk= #[.iface t (.slice (some ⟨b,0,none⟩) l.length cap),.func (.func g) #[] sb]:=by apply Array.ext';rw[Bu,hv1]
 subst lg;have qo:∃fn,au.funcs[(140:Nat)]? =some fn/\fn.body.isSome=true/\(fn.name== "runtime.NumGoroutine")=false:=⟨_,Tryz.func140,by kernel_rfl,by kernel_rfl⟩;refine .inl ⟨qo,?_⟩;obtain⟨dN,pS⟩:∃dN,dN=(w.alloc (.cells #[.slice (some ⟨b,0,none⟩) l.length cap] t)).alloc (.cells #[typeHandle au t,.pointer (some ⟨w.heap.size,0,none⟩),.int .u64 151] 179):=⟨_,rfl⟩;have kA:w.grownBy dN none:=by rw[pS];exact Va _ _ _
 have ME:=pP.grown kA;have kB:mf w ν dN ν:=⟨fun b o bg=>⟨bg,Gs kA (be.alt b o bg)⟩,fun _ _ _ h=>h,fun _ n u _ h=>⟨n,u,h,.inl ⟨rfl,rfl⟩⟩,fun b o bg=>ya (kA.block b (be.alt b o bg) Ψ),fun _ _ _ _ h=>h⟩;have sT:Pv.Good (fB ν (eA e K B el sz l)) dN ν (eA e K B el sz l).b (eA e K B el sz l).e:=ME.good.prMono fun bl _ h=>h;have ld:=Jb kB MD;simp only[c1]at ld;obtain⟨a0,ac4,ux,D1,bp,ac5,l2,ajZ,rfl⟩:=ld;simp at ux;obtain⟨rfl,rfl⟩:=ux;simp at l2;subst l2;have gG:aU dN ν (.row sz (.obj K) l.length) (.slice (some ⟨b,0,none⟩) l.length cap):=by simp only[aU]at D1;obtain⟨u,hu,h⟩:=D1;simp at hu;obtain⟨_,rfl⟩:=hu;simp only[aU];exact h
 have r5:c1 dN ν cg (sliceBound au el eV ke (some ⟨b,0,none⟩) l.length cap).toList:=by
  unfold sliceBound;rw[MH];split
  ·simp[c1]
  ·simp only[c1];exact⟨_,_,rfl,gG,_,_,rfl,by simp[aU],rfl⟩
 have vK:c1 dN ν [fC g f [.ptr (.obj B) 0] cg,.int .i64 l.length] (#[.agg #[.func (.func g) #[] sb,.func (.func f) #[] (sliceBound au el eV ke (some ⟨b,0,none⟩) l.length cap)],.int .i64 l.length]:Array Value).toList:=by simp only[c1,fC];refine⟨_,_,rfl,?_,_,_,rfl,by simp[aU],rfl⟩;simp only[aU,cU];exact⟨_,rfl,_,_,rfl,⟨⟨sb,rfl,Jb kB r3⟩,rfl⟩,_,_,rfl,⟨⟨_,rfl,r5⟩,rfl⟩,rfl⟩
 have Md:=du dN ν _ sT ae vK;have GF:∀args w,(callFunc 199 args).run au w= .ok (.enter 199 args) w:=enters_of Tryz.func199 bi rfl;rcases Md with⟨_,aw⟩|⟨v,w',aw,_⟩
 ·have Mr:=ap5 t el i eV hi aJ DZ uA ke vS (some ⟨b,0,none⟩) l.length cap Ω f aG (.func g) #[] sb w
   (fun w'=> ∃ak bm,(∃bf,ak=eA e K B el sz bf/\hf 0 l.length l bf/\fW lt 0 l.length bf)/\Pv.Good (fun bl=>fB ν (eA e K B el sz l) bl\/dN.heap.size<=bl) w' bm ak.b ak.e/\pH bm ak/\hV ak/\pq ⟨dN,ν,fB ν (eA e K B el sz l),0,cI (eA e K B el sz l)⟩ w' bm) (by
    rw[<-pS];refine aw.mono ?_;rintro e w' ⟨v,r,ak,bm,rfl,⟨rfl,bP⟩,xx,aY,bM,de,dW⟩;simp only[aU,c1]at xx;obtain⟨us,rfl,r6⟩:=xx;have:us= #[]:=by apply Array.ext';simpa using r6
    subst this;exact⟨rfl,ak,bm,bP,aY,bM,de,dW⟩)
  refine Mr.mono ?_;rintro e w' ⟨rfl,ak,bm,⟨bf,rfl,HA,Bq⟩,aY,bM,de,dW⟩;refine⟨.tuple #[],.tuple [],_,bm,rfl,⟨rfl,bf,rfl,HA.perm,?_⟩,by simp[aU,c1],aY.prMono fun bl h _=>?_,bM,de,⟨dW.os.trans kA.os,dW.tape.trans kA.tape,dW.output.trans kA.output,kx kA.size dW.size,fun k ab hm=>?_,fun b o bg=>?_,fun b o bg=>?_,dW.obj,dW.obn,dW.row,dW.obr,dW.trd,fun k j b ag=>⟨(dW.trb k j b ag).1.imp id (fun h=>kx kA.size h),(dW.trb k j b ag).2⟩,dW.trn,fun b o bg=>(dW.sh b o bg).trans (kB.sh b o bg)⟩⟩
  ·have ot:=HA.length;rw[<-ot]at Bq;exact Bq.pairwise
  ·rcases h with h|h
   ·exact .inl h
   ·exact .inr (kx kA.size h)
  ·rw[dW.block k (Nat.lt_of_lt_of_le ab kA.size) hm];exact kA.block k ab Ψ
  ·obtain⟨bj,bY⟩:=dW.keep b o bg;exact⟨bj,bY.trans (kB.A b o bg).2⟩
  ·rcases dW.fresh b o bg with h|h|h
   ·exact .inl h
   ·exact .inr (.inl h)
   ·exact .inr (.inr (kx kA.size h))
 ·rw[GF]at aw;cases aw
end
end
end Go.Proofs.YtahlgcidhnjlbaaGreat
namespace Go.Proofs
section
open Go.Shelf
def Tryz.lays6_ren:Go.Shelf.Ren:=⟨fun|6=>182|10=>197|11=>198|12=>200|13=>213|14=>214|24=>236|25=>237|26=>231|27=>238|28=>239|29=>240|30=>241|31=>242|32=>243|33=>244|34=>252|35=>253|36=>254|37=>255|38=>256|39=>271|n=>n,fun|20=>20|26=>143|35=>179|0=>0|37=>181|3=>3|41=>192|44=>185|49=>206|51=>208|4=>4|54=>210|53=>209|58=>214|5=>5|9=>9|60=>222|64=>226|66=>235|67=>236|17=>17|32=>176|33=>177|82=>256|12=>12|75=>249|76=>250|77=>251|78=>252|79=>253|80=>254|n=>n,fun|n=>n⟩
def Tryz.lays6:Go.Proofs.LaysGg.n6 au Tryz.lays6_ren:={
 mixed:=bi
 f6:=Tryz.func182.trans (ff some bi)
 f10:=Tryz.func197.trans (ff some bi)
 f11:=Tryz.func198.trans (ff some bi)
 f12:=Tryz.func200.trans (ff some bi)
 f13:=Tryz.func213.trans (ff some bi)
 f14:=Tryz.func214.trans (ff some bi)
 f24:=Tryz.func236.trans (ff some bi)
 f25:=Tryz.func237.trans (ff some bi)
 f26:=Tryz.func231.trans (ff some bi)
 f27:=Tryz.func238.trans (ff some bi)
 f28:=Tryz.func239.trans (ff some bi)
 f29:=Tryz.func240.trans (ff some bi)
 f30:=Tryz.func241.trans (ff some bi)
 f31:=Tryz.func242.trans (ff some bi)
 f32:=Tryz.func243.trans (ff some bi)
 f33:=Tryz.func244.trans (ff some bi)
 f34:=Tryz.func252.trans (ff some bi)
 f35:=Tryz.func253.trans (ff some bi)
 f36:=Tryz.func254.trans (ff some bi)
 f37:=Tryz.func255.trans (ff some bi)
 f38:=Tryz.func256.trans (ff some bi)
 f39:=Tryz.func271.trans (ff some bi)
 t0:=Tryz.underlying0
 a0:=Tryz.isAgg0
 z0:=Tryz.sizeOf0
 v0:=Tryz.zeroValue0
 i0:=bi
 t3:=Tryz.underlying3
 a3:=Tryz.isAgg3
 z3:=Tryz.sizeOf3
 v3:=Tryz.zeroValue3
 i3:=bi
 t4:=Tryz.underlying4
 a4:=Tryz.isAgg4
 z4:=Tryz.sizeOf4
 v4:=Tryz.zeroValue4
 i4:=bi
 t5:=Tryz.underlying5
 a5:=Tryz.isAgg5
 z5:=Tryz.sizeOf5
 v5:=Tryz.zeroValue5
 i5:=bi
 t9:=Tryz.underlying9
 a9:=Tryz.isAgg9
 z9:=Tryz.sizeOf9
 v9:=Tryz.zeroValue9
 i9:=bi
 t12:=Tryz.underlying12
 a12:=Tryz.isAgg12
 z12:=Tryz.sizeOf12
 v12:=Tryz.zeroValue12
 i12:=bi
 t17:=Tryz.underlying17
 a17:=Tryz.isAgg17
 z17:=Tryz.sizeOf17
 v17:=Tryz.zeroValue17
 i17:=bi
 t20:=Tryz.underlying20
 a20:=Tryz.isAgg20
 z20:=Tryz.sizeOf20
 v20:=Tryz.zeroValue20
 i20:=bi
 t26:=Tryz.underlying143
 a26:=Tryz.isAgg143
 z26:=Tryz.sizeOf143
 v26:=Tryz.zeroValue143
 i26:=bi
 t32:=Tryz.underlying176
 a32:=Tryz.isAgg176
 z32:=Tryz.sizeOf176
 v32:=Tryz.zeroValue176
 i32:=bi
 t33:=Tryz.underlying177
 a33:=Tryz.isAgg177
 z33:=Tryz.sizeOf177
 v33:=Tryz.zeroValue177
 i33:=bi
 t35:=Tryz.underlying179
 a35:=Tryz.isAgg179
 z35:=Tryz.sizeOf179
 v35:=Tryz.zeroValue179
 i35:=bi
 t37:=Tryz.underlying181
 a37:=Tryz.isAgg181
 z37:=Tryz.sizeOf181
 v37:=Tryz.zeroValue181
 i37:=bi
 t41:=Tryz.underlying192
 a41:=Tryz.isAgg192
 z41:=Tryz.sizeOf192
 v41:=Tryz.zeroValue192
 i41:=bi
 t44:=Tryz.underlying185
 a44:=Tryz.isAgg185
 z44:=Tryz.sizeOf185
 v44:=Tryz.zeroValue185
 i44:=bi
 t49:=Tryz.underlying206
 a49:=Tryz.isAgg206
 z49:=Tryz.sizeOf206
 v49:=Tryz.zeroValue206
 i49:=bi
 t51:=Tryz.underlying208
 a51:=Tryz.isAgg208
 z51:=Tryz.sizeOf208
 v51:=Tryz.zeroValue208
 i51:=bi
 t53:=Tryz.underlying209
 a53:=Tryz.isAgg209
 z53:=Tryz.sizeOf209
 v53:=Tryz.zeroValue209
 i53:=bi
 t54:=Tryz.underlying210
 a54:=Tryz.isAgg210
 z54:=Tryz.sizeOf210
 v54:=Tryz.zeroValue210
 i54:=bi
 t58:=Tryz.underlying214
 a58:=Tryz.isAgg214
 z58:=Tryz.sizeOf214
 v58:=Tryz.zeroValue214
 i58:=bi
 t60:=Tryz.underlying222
 a60:=Tryz.isAgg222
 z60:=Tryz.sizeOf222
 v60:=Tryz.zeroValue222
 i60:=bi
 t64:=Tryz.underlying226
 a64:=Tryz.isAgg226
 z64:=Tryz.sizeOf226
 v64:=Tryz.zeroValue226
 i64:=bi
 t66:=Tryz.underlying235
 a66:=Tryz.isAgg235
 z66:=Tryz.sizeOf235
 v66:=Tryz.zeroValue235
 i66:=bi
 t67:=Tryz.underlying236
 a67:=Tryz.isAgg236
 z67:=Tryz.sizeOf236
 v67:=Tryz.zeroValue236
 i67:=bi
 t75:=Tryz.underlying249
 a75:=Tryz.isAgg249
 z75:=Tryz.sizeOf249
 v75:=Tryz.zeroValue249
 i75:=bi
 t76:=Tryz.underlying250
 a76:=Tryz.isAgg250
 z76:=Tryz.sizeOf250
 v76:=Tryz.zeroValue250
 i76:=bi
 t77:=Tryz.underlying251
 a77:=Tryz.isAgg251
 z77:=Tryz.sizeOf251
 v77:=Tryz.zeroValue251
 i77:=bi
 t78:=Tryz.underlying252
 a78:=Tryz.isAgg252
 z78:=Tryz.sizeOf252
 v78:=Tryz.zeroValue252
 i78:=bi
 t79:=Tryz.underlying253
 a79:=Tryz.isAgg253
 z79:=Tryz.sizeOf253
 v79:=Tryz.zeroValue253
 i79:=bi
 t80:=Tryz.underlying254
 a80:=Tryz.isAgg254
 z80:=Tryz.sizeOf254
 v80:=Tryz.zeroValue254
 i80:=bi
 t82:=Tryz.underlying256
 a82:=Tryz.isAgg256
 z82:=Tryz.sizeOf256
 v82:=Tryz.zeroValue256
 i82:=by kernel_rfl}
end
end Go.Proofs
namespace Go.Proofs.YtahlgcidhnjlbaaGreat
section
open Go Go.RowKit Go.Lib Go.Pv Go.Proofs
def adi(n:Nat)(h:n<1099511627776):Lib.bitLen n<=1000:=by
 have:∀f x,bitLenAux f x<=f:=by
  intro f;induction f with
  |zero=>intro x;simp[bitLenAux]
  |succ f a=>
   intro x;rw[bitLenAux];split
   ·omega
   ·have:=a (x/2);omega
 have:=this 64 n;unfold Lib.bitLen;omega
def aoy{α:Type}[Inhabited α]{lt:α->α->Bool}{l:List α}{a:Array α}(h:Sort.PermIn 0 l.length l.toArray a)(m:Sort.SortedIn lt 0 l.length a):a.toList.Perm l/\a.toList.Pairwise fun x y=>lt y x=false:=by
 obtain⟨f,_,z3⟩:=h;have b:a.size=l.length:=by simpa using f
 have k:a.extract 0 l.length=a:=by rw[<-b];simp
 have n:l.toArray.extract 0 l.length=l.toArray:=Ψ
 rw[k,n]at z3;refine⟨by simpa using z3,?_⟩;rw[qS];intro i j hi c e;have J:=m i j Ω e (by simpa[b]using c);have d:i<a.size:=by simpa using hi
 have g:j<a.size:=by simpa using c
 rw[getElem!_pos a i d,getElem!_pos a j g]at J;simpa using J
section
variable {α:Type} {e:α->af} (he:∀S x,az S (e x)) {K B el sz:Nat}
include he
theorem UP[Inhabited α](Vf:K≠901/\K≠902)(Ve:B≠901/\B≠902)(t:gT)(i eV:TypeInfo)(hi:au.info? t=some i)(aJ:i.desc= .slice el)(DZ:au.packed t=false)(uA:au.info? el=some eV)(ke:Nat)(vS:∀w,(acn el).run au w= .ok ke w)(uv:∀n,2<=n->swapperK n eV ke=9)
  (g:Nat) (lt:α->α->Bool) (bN:Sort.SWO lt) (l:List α) (av:l.length<=68719476736)
  (za:∀bf:List α,bf.length=l.length->∀(i j:Nat) x y,bf[i]? =some x->bf[j]? =some y->bD au g [.int .i64 i,.int .i64 j,.ptr (.obj B) 0] (eA e K B el sz bf) fun r ak=>r= .bool (lt x y)/\ak=eA e K B el sz bf)
  (Br:∀bf:List α,bf.length=l.length->∀i j:Nat,i<l.length->j<l.length->bD au 230 [.int .i64 i,.int .i64 j,.row sz (.obj K) l.length,.cst (typeHandle au el)] (eA e K B el sz bf) fun r ak=>r= .tuple []/\ak=eA e K B el sz (h9 bf i j)):
  bD au 182 [.iface t (.row sz (.obj K) l.length),.func g [.ptr (.obj B) 0]] (eA e K B el sz l) fun r ak=>r= .tuple []/\∃bf,ak=eA e K B el sz bf/\bf.Perm l/\bf.Pairwise fun x y=>lt y x=false:=by
 have y3:au.funcs.findIdx? (·.name== "internal/reflectlite" ++ ".Swapper$" ++toString 1)=some 222:=bi
 have sR:au.funcs.findIdx? (·.name== "internal/reflectlite" ++ ".Swapper$" ++toString 2)=some 223:=bi
 have Mg:au.funcs.findIdx? (·.name== "internal/reflectlite" ++ ".Swapper$" ++toString 9)=some 230:=bi
 have zf:tv (eA e K B el sz) 901:=fun l=>⟨by simp[eA,ad,Ve.1],by simp[eA,ad,Vf.1]⟩;have zg:tv (eA e K B el sz) 902:=fun l=>⟨by simp[eA,ad,Ve.2],by simp[eA,ad,Vf.2]⟩;have gd:=adi l.length Ω;have ML:∃f cg,au.funcs.findIdx? (·.name== "internal/reflectlite" ++ ".Swapper$" ++toString (swapperK l.length eV ke))=some f/\(cg=(if swapperK l.length eV ke<=2 then []else [af.row sz (.obj K) l.length,.cst (typeHandle au el)]))/\
   bD au 214 [fC g f [.ptr (.obj B) 0] cg,.int .i64 0,.int .i64 l.length,.int .i64 (Lib.bitLen l.length)] (eA e K B el sz l) fun r ak=>r= .tuple []/\∃bf,ak=eA e K B el sz bf/\bf.Perm l/\bf.Pairwise fun x y=>lt y x=false:=by
  have eI:=fun bf=>yw (K:=K) (B:=B) (el:=el) (sz:=sz) he bf;have key:∀{cp:Nat} {cg:List af},fQ (eA e K B el sz) l.length g cp [.ptr (.obj B) 0] cg lt->bD au 214 [fC g cp [.ptr (.obj B) 0] cg,.int .i64 0,.int .i64 l.length,.int .i64 (Lib.bitLen l.length)] (eA e K B el sz l) fun r ak=>r= .tuple []/\∃bf,ak=eA e K B el sz bf/\bf.Perm l/\bf.Pairwise fun x y=>lt y x=false:=by intro cp cg H;have:=aih H zf zg bN l.length l.toArray Ψ 0 l.length (Lib.bitLen l.length) Ω Ω (dL _) Ω (.inl rfl);simp only[Int.ofNat_zero,Int.natCast_zero,Int.cast_ofNat_Int]at this;refine bD.mono this ?_;rintro r ak ⟨a6,cq,bB,bT,dp⟩;obtain⟨cY,dF⟩:=aoy bT dp;exact⟨a6,cq.toList,bB,cY,dF⟩
  rcases(by omega:l.length=0\/l.length=1\/2<=l.length)with bz|J|U
  ·refine⟨222,[],by rw[bz];exact y3,by rw[bz];rfl,key ⟨eI,fun fK eR _ _=>yx fK eR,fun bf _=>by simp[aH,az,aK,eA,ad],fun bf _=>by simp[aH],by simp[b5,cf],rfl,av,fun bf h=>za bf h,fun bf _ U i j hi=>Ω⟩⟩
  ·refine⟨223,[],by rw[J];exact sR,by rw[J];rfl,key ⟨eI,fun fK eR _ _=>yx fK eR,fun bf _=>by simp[aH,az,aK,eA,ad],fun bf _=>by simp[aH],by simp[b5,cf],rfl,av,fun bf h=>za bf h,fun bf _ U i j hi ah=>Ω⟩⟩
  ·refine⟨230,_,by rw[uv _ U];exact Mg,rfl,?_⟩;rw[uv _ U];simp only[show¬((9:Nat)<=2)from by decide,if_false];exact key ⟨eI,fun fK eR _ _=>yx fK eR,fun bf _=>by simp[aH,az,aK,eA,ad],fun bf _=>by simp[aH,az,aK,eA,ad],by simp[b5,cf],by simp[b5,cf],av,fun bf h=>za bf h,fun bf h _ i j hi ah=>Br bf h i j hi ah⟩
 obtain⟨f,cg,aG,MH,du⟩:=ML;intro w ν bk be ae aI;have pP:=c5.start (yw he l).obj be ae aI;have MD:=aI;simp only[c1,aU]at aI;obtain⟨v0,vs1,Bu,⟨u,rfl,⟨b,cap,rfl⟩,ft,n',eH,al,aC,bh⟩,v1,vs2,hv1,⟨sb,rfl,r3⟩,rfl⟩:=aI;have lg:bk= #[.iface t (.slice (some ⟨b,0,none⟩) l.length cap),.func (.func g) #[] sb]:=by apply Array.ext';rw[Bu,hv1]
 subst lg;have qo:∃fn,au.funcs[(182:Nat)]? =some fn/\fn.body.isSome=true/\(fn.name== "runtime.NumGoroutine")=false:=⟨_,Tryz.func182,by kernel_rfl,by kernel_rfl⟩;refine .inl ⟨qo,?_⟩;obtain⟨dN,pS⟩:∃dN,dN=sliceWorld au Tryz.lays6_ren t (some ⟨b,0,none⟩) l.length cap w:=⟨_,rfl⟩;have kA:w.grownBy dN none:=by rw[pS];unfold sliceWorld;exact Va _ _ _
 have ME:=pP.grown kA;have kB:mf w ν dN ν:=⟨fun b o bg=>⟨bg,Gs kA (be.alt b o bg)⟩,fun _ _ _ h=>h,fun _ n u _ h=>⟨n,u,h,.inl ⟨rfl,rfl⟩⟩,fun b o bg=>ya (kA.block b (be.alt b o bg) Ψ),fun _ _ _ _ h=>h⟩;have sT:Pv.Good (fB ν (eA e K B el sz l)) dN ν (eA e K B el sz l).b (eA e K B el sz l).e:=ME.good.prMono fun bl _ h=>h;have ld:=Jb kB MD;simp only[c1]at ld;obtain⟨a0,ac4,ux,D1,bp,ac5,l2,ajZ,rfl⟩:=ld;simp at ux;obtain⟨rfl,rfl⟩:=ux;simp at l2;subst l2;have gG:aU dN ν (.row sz (.obj K) l.length) (.slice (some ⟨b,0,none⟩) l.length cap):=by simp only[aU]at D1;obtain⟨u,hu,h⟩:=D1;simp at hu;obtain⟨_,rfl⟩:=hu;simp only[aU];exact h
 have r5:c1 dN ν cg (sliceBound au el eV ke (some ⟨b,0,none⟩) l.length cap).toList:=by
  unfold sliceBound;rw[MH];split
  ·simp[c1]
  ·simp only[c1];exact⟨_,_,rfl,gG,_,_,rfl,by simp[aU],rfl⟩
 have vK:c1 dN ν [fC g f [.ptr (.obj B) 0] cg,.int .i64 0,.int .i64 l.length,.int .i64 (Lib.bitLen l.length)] (#[.agg #[.func (.func g) #[] sb,.func (.func f) #[] (sliceBound au el eV ke (some ⟨b,0,none⟩) l.length cap)],.int .i64 0,.int .i64 l.length,.int .i64 (Lib.bitLen l.length)]:Array Value).toList:=by simp only[c1,fC];refine⟨_,_,rfl,?_,_,_,rfl,by simp[aU],_,_,rfl,by simp[aU],_,_,rfl,by simp[aU],rfl⟩;simp only[aU,cU];exact⟨_,rfl,_,_,rfl,⟨⟨sb,rfl,Jb kB r3⟩,rfl⟩,_,_,rfl,⟨⟨_,rfl,r5⟩,rfl⟩,rfl⟩
 have Md:=du dN ν _ sT ae vK;have GF:∀args w,(callFunc 214 args).run au w= .ok (.enter 214 args) w:=enters_of Tryz.func214 bi rfl;rcases Md with⟨_,aw⟩|⟨v,w',aw,_⟩
 ·have Mr:=Any.sort_Slice_of_pdq Tryz.lays6 t el i eV hi aJ DZ uA ke vS (some ⟨b,0,none⟩) l.length cap Ω f aG (.func g) #[] sb w
   (fun w'=> ∃ak bm,(∃bf,ak=eA e K B el sz bf/\bf.Perm l/\bf.Pairwise fun x y=>lt y x=false)/\Pv.Good (fun bl=>fB ν (eA e K B el sz l) bl\/dN.heap.size<=bl) w' bm ak.b ak.e/\pH bm ak/\hV ak/\pq ⟨dN,ν,fB ν (eA e K B el sz l),0,cI (eA e K B el sz l)⟩ w' bm) (by
    rw[<-pS];refine aw.mono ?_;rintro e w' ⟨v,r,ak,bm,rfl,⟨rfl,bP⟩,xx,aY,bM,de,dW⟩;simp only[aU,c1]at xx;obtain⟨us,rfl,r6⟩:=xx;have:us= #[]:=by apply Array.ext';simpa using r6
    subst this;exact⟨rfl,ak,bm,bP,aY,bM,de,dW⟩)
  refine Mr.mono ?_;rintro e w' ⟨rfl,ak,bm,⟨bf,rfl,HA,Bq⟩,aY,bM,de,dW⟩;refine⟨.tuple #[],.tuple [],_,bm,rfl,⟨rfl,bf,rfl,HA,Bq⟩,by simp[aU,c1],aY.prMono fun bl h _=>?_,bM,de,⟨dW.os.trans kA.os,dW.tape.trans kA.tape,dW.output.trans kA.output,kx kA.size dW.size,fun k ab hm=>?_,fun b o bg=>?_,fun b o bg=>?_,dW.obj,dW.obn,dW.row,dW.obr,dW.trd,fun k j b ag=>⟨(dW.trb k j b ag).1.imp id (fun h=>kx kA.size h),(dW.trb k j b ag).2⟩,dW.trn,fun b o bg=>(dW.sh b o bg).trans (kB.sh b o bg)⟩⟩
  ·rcases h with h|h
   ·exact .inl h
   ·exact .inr (kx kA.size h)
  ·rw[dW.block k (Nat.lt_of_lt_of_le ab kA.size) hm];exact kA.block k ab Ψ
  ·obtain⟨bj,bY⟩:=dW.keep b o bg;exact⟨bj,bY.trans (kB.A b o bg).2⟩
  ·rcases dW.fresh b o bg with h|h|h
   ·exact .inl h
   ·exact .inr (.inl h)
   ·exact .inr (.inr (kx kA.size h))
 ·rw[GF]at aw;cases aw
end
end
section
open Go Go.Pv Go.Lib
abbrev yv(l:List bn):cQ:=eA bn.e 814 815 100 2 l
def X9:∀(S:aA->Prop) (x:bn),az S x.e:=fun S x=>by simp
def J5(l:List bn):eB (yv l):=yw X9 l
def als:Sort.SWO (iJ gb):=by
 refine⟨fun x=>?_,fun x y z J U=>?_,fun x y z J U=>?_⟩
 ·simp only[iJ,iL];have:=mC.refl x;omega
 ·simp only[iJ,gu]at*;exact mC.ltr J Ω
 ·simp only[iJ,iL]at*;have b:=mC.neg x y;have c:=mC.neg y z;have a:=mC.neg x z;have:=mC.tr z y x Ω Ω;omega
def ahF(l:List bn)(i j:Nat)(x y:bn)(k:l.length<=68719476736)(hi:l[i]? =some x)(g:l[j]? =some y):bD au 185 [aj i,aj j,.ptr (.obj 815) 0] (yv l) fun r f=>r= .bool (iJ gb x y)/\f=yv l:=by have a:=J5 l;obtain⟨c,d⟩:=fM.1 hi;obtain⟨e,b⟩:=fM.1 g;unfold yv eA at a⊢;refine bD.mk mixed a7 Tryz.func185 amt Ψ a.obj fun m h=>?_;unfold Rj;simp[c,e,d,b];(repeat' first|refine aq ?_|refine aP (CD _ _) ?_|refine aQ (CD _ _) ?_|simp[c,e,d,b]);refine c3.at _ (.inl rfl) a (Same.refl _) aW aW ?_;simp[c9,ba,bd,a1]
noncomputable def Tryz.maT:TypeInfo:=(au.info? 49).get bi
noncomputable def Tryz.maE:TypeInfo:=(au.info? 100).get bi
def Tryz.maK(n:Nat)(U:2<=n):Lib.swapperK n Tryz.maE 25=9:=by
 have a:Tryz.maE.hasPointers=true:=bi
 have b:Tryz.maE.bytes=24:=bi
 have c:(n==0)=false:=by simp;omega
 have d:(n==1)=false:=by simp;omega
 simp[Lib.swapperK,a,b,c,d]
def Xz{α β:Type}(f:α->β)(l:List α)(i j:Nat):(h9 l i j).map f=h9 (l.map f) i j:=by
 unfold h9;simp only[List.getElem?_map];cases l[i]? with
 |none=>simp
 |some x=>
  cases l[j]? with
  |none=>simp
  |some y=>simp[List.map_set]
def aiu(l:List bn)(d:l.length<=68719476736):bD au 182 [.iface 49 (.row 2 (.obj 814) l.length),.func 185 [.ptr (.obj 815) 0]] (yv l) fun r b=>r= .tuple []/\b=yv (p1 gb l):=by
 refine(UP X9 (K:=814) (B:=815) (sz:=2) (by decide) (by decide) 49 Tryz.maT Tryz.maE bi bi bi bi 25 (fun _=>by kernel_rfl) Tryz.maK 185 (iJ gb) als l d (fun a h i j x y hi c=>ahF a i j x y Ω hi c) (fun a h i j hi c=>?_)).mono ?_
 ·have:=U3 (P:=au) false 230 (fun args W=>run_callFunc_extern Tryz.func230 bi bi bi (e:=FM false) bi args W)
   100 Tryz.maE bi (fun _=>by kernel_rfl) (J5 a) (K:=814) (n:=l.length) (el:=100) (sz:=2) bi (xs:=a.map bn.e) (by simp[eA,ad,h]) i j hi c
  refine this.mono ?_;rintro r b ⟨rfl,rfl⟩;refine⟨rfl,?_⟩;simp[eA,cH,Xz,h]
 ·rintro r b ⟨rfl,a,rfl,J,U⟩;exact⟨rfl,by rw[aaT mC J U]⟩
def o6(l:List bn):List af:= .hdm l.length (List.range l.length)::l.flatMap fun m=>[m.e,.bool true]
def lY(m:bn)(l:List bn):List bn:=if m∈l then l else l++[m]
def akZ(a b:bn):uJ (.a [false,true]) a.e b.e=some (decide (a=b)):=by simp only[bn.e,uJ,kK,if_true,pn];congr 1;rw[qP];cases a;cases b;simp
def ak0(a:bn):xI (.a [false,true]) a.e=true:=by simp[bn.e,xI,kK,-Ki]
def Yd(m:bn):∀l:List bn,wm (.a [false,true]) m.e (.bool true) (l.flatMap fun m=>[m.e,.bool true])=some (if m∈l then some (l.flatMap fun m=>[m.e,.bool true])else none)
 |[]=>rfl
 |a::l=>by
  simp only[List.flatMap_cons,b3,ca,wm,akZ];by_cases h:m=a
  ·subst h;simp
  ·have b:decide (m=a)=false:=by simp[h]
   rw[b];simp only[Yd m l];by_cases hm:m∈l
   ·simp[hm]
   ·simp[hm,h]
@[simp]def avB(m:bn)(l:List bn):qF (.a [false,true]) m.e (.bool true) (o6 l)=some (o6 (lY m l)):=by
 simp only[o6,qF,ak0,Bool.true_eq_false,reduceCtorEq,if_false,Yd,lY];by_cases h:m∈l
 ·simp[h]
 ·simp[h,List.range_succ]
end
section
open Go Go.Pv
@[simp]def BF(S:aA->Prop)(l:List bn):aH S (o6 l)=True:=by
 refine h0 ?_;unfold o6;have:∀l:List bn,aH S (l.flatMap fun m=>[m.e,af.bool true]):=fun l=>by
  induction l with
  |nil=>simp[aH]
  |cons x r a=>simp only[List.flatMap_cons,b3,ca,aH,ak5,az,true_and];exact a
 simp only[aH,az,true_and];exact this l
@[simp]def avk:[af.hdm 0 []]=o6 []:=rfl
def pw(tag:List cW)(l:List bn):cQ:=⟨[(.obj 811,[.str tag]),(.obj 812,o6 l),(.obj 813,[.gmap (.obj 812)])],[]⟩
def FX(tag:List cW)(l:List bn):eB (pw tag l):=by unfold pw;refine eB.of ⟨by intro m;simp[ad],by intro m;simp[ad]⟩ (by simp[aH,az,aK,ad]) Ψ
def J6(tag:List cW)(l a:List bn):Same (pw tag l) (pw tag a):=Same.keys (by simp[pw]) (by simp[pw])
def ahE(tag:List cW)(v:Int)(l:List bn):bD au 184 [aj v,.ptr (.obj 813) 0,.ptr (.obj 811) 0] (pw tag l) fun r c=>r= .tuple []/\c=pw tag (lY ⟨v,tag⟩ l):=by have b:=FX tag l;have a:=FX tag (lY ⟨v,tag⟩ l);have e9:=J6 tag l (lY ⟨v,tag⟩ l);unfold pw at b a e9⊢;refine bD.mk mixed a7 Tryz.func184 ams Ψ b.obj fun e d=>?_;unfold Ri;simp;refine c3.at _ (.inr rfl) a e9 aW aW ?_;simp[c9,ba,bd,a1]
end
section
open Go Go.Pv Go.Lib
abbrev yu(l:List bG):cQ:=eA bG.e 803 804 98 2 l
def WR:∀(S:aA->Prop) (x:bG),az S x.e:=fun S x=>by simp
def J4(l:List bG):eB (yu l):=yw WR l
def xM(x y:bG):Bool:=decide (x.v<y.v)
def alr:Sort.SWO xM:=⟨fun x=>by simp[xM],fun x y z J U=>by simp[xM]at*;omega,fun x y z J U=>by simp[xM]at*;omega⟩
def ahG(l:List bG)(i j:Nat)(x y:bG)(k:l.length<=68719476736)(hi:l[i]? =some x)(g:l[j]? =some y):bD au 183 [aj i,aj j,.ptr (.obj 804) 0] (yu l) fun r f=>r= .bool (xM x y)/\f=yu l:=by have a:=J4 l;obtain⟨c,d⟩:=fM.1 hi;obtain⟨e,b⟩:=fM.1 g;unfold yu eA at a⊢;refine bD.mk mixed a7 Tryz.func183 amu Ψ a.obj fun m h=>?_;unfold Rk;simp[c,e,d,b];(repeat' first|refine aq ?_|simp);refine c3.at _ (.inl rfl) a (Same.refl _) aW aW ?_;simp[c9,ba,bd,a1,xM]
noncomputable def Tryz.vkT:TypeInfo:=(au.info? 48).get bi
noncomputable def Tryz.vkE:TypeInfo:=(au.info? 98).get bi
def Tryz.vkK(n:Nat)(U:2<=n):Lib.swapperK n Tryz.vkE 25=9:=by
 have a:Tryz.vkE.hasPointers=false:=bi
 have b:Tryz.vkE.bytes=16:=bi
 have c:(n==0)=false:=by simp;omega
 have d:(n==1)=false:=by simp;omega
 simp[Lib.swapperK,a,b,c,d]
def alq{α β:Type}(f:α->β)(l:List α)(i j:Nat):(h9 l i j).map f=h9 (l.map f) i j:=by
 unfold h9;simp only[List.getElem?_map];cases l[i]? with
 |none=>simp
 |some x=>
  cases l[j]? with
  |none=>simp
  |some y=>simp[List.map_set]
def ait(l:List bG)(d:l.length<=68719476736):bD au 182 [.iface 48 (.row 2 (.obj 803) l.length),.func 183 [.ptr (.obj 804) 0]] (yu l) fun r c=>r= .tuple []/\∃a,c=yu a/\a.Perm l/\a.Pairwise fun x y=>xM y x=false:=by
 refine(UP WR (K:=803) (B:=804) (sz:=2) (by decide) (by decide) 48 Tryz.vkT Tryz.vkE bi bi bi bi 25 (fun _=>by kernel_rfl) Tryz.vkK 183 xM alr l d (fun a h i j x y hi b=>ahG a i j x y Ω hi b) (fun a h i j hi b=>?_));have:=U3 (P:=au) false 230 (fun args W=>run_callFunc_extern Tryz.func230 bi bi bi (e:=FM false) bi args W)
  98 Tryz.vkE bi (fun _=>by kernel_rfl) (J4 a) (K:=803) (n:=l.length) (el:=98) (sz:=2) bi (xs:=a.map bG.e) (by simp[eA,ad,h]) i j hi b
 refine this.mono ?_;rintro r c ⟨rfl,rfl⟩;refine⟨rfl,?_⟩;simp[eA,cH,alq,h]
end
end Go.Proofs.YtahlgcidhnjlbaaGreat
namespace Go.Pv
section
open Go Go.RowKit
mutual
def tn:af->List (aA×Nat)
 | .slice _ tag _=>match tag with| .tr k i=>[(k,i)]|_=>[]
 | .agg cs=>tnL cs
 |_=>[]
def tnL:List af->List (aA×Nat)
 |[]=>[]
 |x::xs=>tn x++tnL xs
end
mutual
def fl:af->Prop
 | .int _ _=>True
 | .bool _=>True
 | .str _=>True
 | .slice _ tag xs=>match tag with| .tr k _=>k≠eo|_=>xs=[]
 | .agg cs=>ga cs
 |_=>et
def ga:List af->Prop
 |[]=>True
 |x::xs=>fl x/\ga xs
end
def lq(ν:a8)(l:List (aA×Nat))(b:Nat):Prop:= ∃k i,(k,i)∈l/\ν.tr k i b
def BY{ν:a8}{l a:List (aA×Nat)}(h:∀x∈l,x∈a)(b:Nat)(c:lq ν l b):lq ν a b:=by obtain⟨k,i,J,U⟩:=c;exact⟨k,i,h _ J,U⟩
def N8{ν:a8}(hH:∀k j bt dg b,ν.tr k j b->ν.tr bt dg b->k=bt/\j=dg){l a:List (aA×Nat)}(h:(l++a).Nodup)(b:Nat)(J:lq ν l b):¬lq ν a b:=by rintro⟨bt,c,d,e⟩;obtain⟨k,i,J,U⟩:=J;obtain⟨rfl,rfl⟩:=hH k i bt c b U e;rw[rF]at h;exact h.2.2 _ J _ d rfl
mutual
def Oh{w:World}{ν:a8}(hH:∀k j bt dg b,ν.tr k j b->ν.tr bt dg b->k=bt/\j=dg):∀(p:af) (v:Value),aU w ν p v->fl p->(tn p).Nodup->cX true w ν.A (lq ν (tn p)) (b5 p) v
 | .int k n,v,h,_,_=>by simpa only[aU,b5,cX]using h
 | .bool b,v,h,_,_=>by simpa only[aU,b5,cX]using h
 | .str s,v,h,_,_=>by simpa only[aU,b5,cX]using h
 | .slice sz tag xs,v,h,ar,_=>by
  simp only[aU]at h;obtain⟨⟨a,cap,J,U,f,m⟩,_,_,e,_⟩:=h;by_cases c:∃k i,tag= .tr k i
  ·obtain⟨k,i,rfl⟩:=c;refine G0 _ _ v (vJ (fun _ _ h=>⟨h,rfl⟩) (fun _ _ _=>rfl) _ _ _ v (fun b g=>?_) (e k i rfl));exact⟨k,i,by simp[tn],g⟩
  ·have l:xs=[]:=by
    simp only[fl]at ar;split at ar
    ·exact absurd ⟨_,_,rfl⟩ c
    ·exact ar
   subst l;simp only[b5,cf,cX];exact⟨a,cap,J,U,f,.inl trivial⟩
 | .agg cs,v,h,ar,d=>by simp only[aU,fl,tn,b5,cX]at h ar d⊢;obtain⟨us,J,U⟩:=h;exact⟨us,J,Yo hH cs _ U ar d⟩
 | .junk,_,_,ar,_=>by simp[fl]at ar
 | .ptr _ _,_,_,ar,_=>by simp[fl]at ar
 | .eptr _,_,_,ar,_=>by simp[fl]at ar
 | .iface _ _,_,_,ar,_=>by simp[fl]at ar
 | .nilp,_,_,ar,_=>by simp[fl]at ar
 | .tuple _,_,_,ar,_=>by simp[fl]at ar
 | .func _ _,_,_,ar,_=>by simp[fl]at ar
 | .gmap _,_,_,ar,_=>by simp[fl]at ar
 | .row _ _ _,_,_,ar,_=>by simp[fl]at ar
 | .rptr _ _ _ _ _,_,_,ar,_=>by simp[fl]at ar
 | .hdm _ _,_,_,ar,_=>by simp[fl]at ar
 | .hdi _ _ _,_,_,ar,_=>by simp[fl]at ar
 | .cst _,_,_,ar,_=>by simp[fl]at ar
def Yo{w:World}{ν:a8}(hH:∀k j bt dg b,ν.tr k j b->ν.tr bt dg b->k=bt/\j=dg):∀(cs:List af) (us:List Value),cU w ν cs us->ga cs->(tnL cs).Nodup->ky true w ν.A (lq ν (tnL cs)) (cf cs) us
 |[],us,h,_,_=>by simpa only[cU,cf,ky]using h
 |c::cs,us,h,ar,d=>by simp only[cU,ga,tnL,cf,ky]at h ar d⊢;obtain⟨u,f,J,⟨U,g⟩,l⟩:=h;have e:=rF.1 d;exact⟨u,f,lq ν (tn c),lq ν (tnL cs),J,⟨BY (fun x a=>List.mem_append_left _ a),BY (fun x a=>List.mem_append_right _ a),fun _ b i=>N8 hH d b i⟩,⟨Oh hH c u U ar.1 e.1,g⟩,Yo hH cs f l ar.2 e.2.1⟩
end
def Oi{w:World}{ν:a8}(hH:∀k j bt dg b,ν.tr k j b->ν.tr bt dg b->k=bt/\j=dg){sz:Nat}:∀(cs:List af) (us:List Value),dt w ν sz cs us->ga cs->(tnL cs).Nodup->jU true w ν.A (lq ν (tnL cs)) sz (cf cs) us
 |[],us,h,_,_=>by simpa only[dt,cf,jU]using h
 |c::cs,us,h,ar,d=>by simp only[dt,ga,tnL,cf,jU]at h ar d⊢;obtain⟨u,f,J,⟨U,g⟩,l⟩:=h;have e:=rF.1 d;exact⟨u,f,lq ν (tn c),lq ν (tnL cs),J,⟨BY (fun x a=>List.mem_append_left _ a),BY (fun x a=>List.mem_append_right _ a),fun _ b i=>N8 hH d b i⟩,⟨Oh hH c u U ar.1 e.1,g⟩,Oi hH cs f l ar.2 e.2.1⟩
mutual
def GZ{t:Bool}{w:World}{A:Nat->Nat->Prop}{ν:a8}(c:∀b o,A b o->ν.A b o):∀(p:af) (F:Nat->Prop) (v:Value),cX t w A F p v->aU w ν (b5 p) v
 | .int k n,_,_,h=>by simpa only[aU,b5,cX]using h
 | .bool b,_,_,h=>by simpa only[aU,b5,cX]using h
 | .str s,_,_,h=>by simpa only[aU,b5,cX]using h
 | .slice sz tag xs,F,v,h=>by
  simp only[cX,b5,aU]at h⊢;obtain⟨a,cap,J,U,i,l⟩:=h;refine⟨⟨a,cap,by rw[nt];exact J,by rw[nt];exact U,by rw[nt];exact i,?_⟩,fun e=>(by cases e),fun g e=>(by cases e),fun _ _ e=>(by cases e),fun _ e=>(by cases e)⟩;rcases l with rfl|⟨b,off,us,G,j,_,_,f,_,d⟩
  ·exact .inl rfl
  ·exact .inr ⟨b,off,us,j,BH (fun b o h=>⟨c b o h,rfl⟩) _ _ f,UI c xs G us d⟩
 | .agg cs,F,v,h=>by simp only[cX,b5,aU]at h⊢;obtain⟨us,J,U⟩:=h;exact⟨us,J,UK c cs F _ U⟩
 | .junk,_,_,h=>by simp[cX]at h
 | .ptr _ _,_,_,h=>by simp[cX]at h
 | .eptr _,_,_,h=>by simp[cX]at h
 | .iface _ _,_,_,h=>by simp[cX]at h
 | .nilp,_,_,h=>by simp[cX]at h
 | .tuple _,_,_,h=>by simp[cX]at h
 | .func _ _,_,_,h=>by simp[cX]at h
 | .gmap _,_,_,h=>by simp[cX]at h
 | .row _ _ _,_,_,h=>by simp[cX]at h
 | .rptr _ _ _ _ _,_,_,h=>by simp[cX]at h
 | .hdm _ _,_,_,h=>by simp[cX]at h
 | .hdi _ _ _,_,_,h=>by simp[cX]at h
 | .cst _,_,_,h=>by simp[cX]at h
def UK{t:Bool}{w:World}{A:Nat->Nat->Prop}{ν:a8}(a:∀b o,A b o->ν.A b o):∀(cs:List af) (F:Nat->Prop) (us:List Value),ky t w A F cs us->cU w ν (cf cs) us
 |[],_,_,h=>by simpa only[ky,cf,cU]using h
 |c::cs,F,us,h=>by simp only[ky,cf,cU]at h⊢;obtain⟨u,d,f,e,J,_,⟨j,g⟩,i⟩:=h;exact⟨u,d,J,⟨GZ a c f u j,g⟩,UK a cs e d i⟩
def UI{t:Bool}{w:World}{A:Nat->Nat->Prop}{ν:a8}(a:∀b o,A b o->ν.A b o){sz:Nat}:∀(cs:List af) (F:Nat->Prop) (us:List Value),jU t w A F sz cs us->dt w ν sz (cf cs) us
 |[],_,_,h=>by simpa only[jU,cf,dt]using h
 |c::cs,F,us,h=>by simp only[jU,cf,dt]at h⊢;obtain⟨u,d,f,e,J,_,⟨j,g⟩,i⟩:=h;exact⟨u,d,J,⟨GZ a c f u j,g⟩,UI a cs e d i⟩
end
mutual
def PQ:∀p:af,b5 (b5 p)=b5 p
 | .slice _ _ xs=>by simp[b5,u6 xs]
 | .agg cs=>by simp[b5,u6 cs]
 | .tuple bk=>by simp[b5,u6 bk]
 | .eptr x=>by simp[b5,PQ x]
 | .iface t x=>by simp[b5,PQ x]
 | .func f dE=>by simp[b5,u6 dE]
 | .junk=>rfl
 | .int _ _=>rfl
 | .bool _=>rfl
 | .str _=>rfl
 | .ptr _ _=>rfl
 | .nilp=>rfl
 | .gmap _=>rfl
 | .row _ _ _=>rfl
 | .rptr _ _ _ _ _=>rfl
 | .hdm _ _=>rfl
 | .hdi _ _ _=>rfl
 | .cst _=>rfl
def u6:∀xs:List af,cf (cf xs)=cf xs
 |[]=>rfl
 |x::xs=>by simp[cf,PQ x,u6 xs]
end
mutual
def ec:af->List aA
 | .slice _ tag _=>match tag with| .own k=>[k]|_=>[]
 | .row _ k _=>[k]
 | .agg cs=>gD cs
 | .tuple cs=>gD cs
 |_=>[]
def gD:List af->List aA
 |[]=>[]
 |x::xs=>ec x++gD xs
end
def wE(e:List (aA×dT))(k:aA):List af:=((ad k e).bind (·.xs)).getD []
mutual
def ez(e:List (aA×dT)):af->List (aA×Nat)
 | .slice _ tag xs=>match tag with| .tr k i=>[(k,i)]| .own _=>tnL xs|_=>[]
 | .row _ k _=>tnL (wE e k)
 | .agg cs=>gI e cs
 | .tuple cs=>gI e cs
 |_=>[]
def gI(e:List (aA×dT)):List af->List (aA×Nat)
 |[]=>[]
 |x::xs=>ez e x++gI e xs
end
mutual
def e0(e:List (aA×dT)):af->Prop
 | .int _ _=>True
 | .bool _=>True
 | .str _=>True
 | .slice sz tag xs=>match tag with| .tr k _=>k≠eo| .own k=>True/\(∃el,ad k e=some ⟨xs.length,el,sz,none⟩)/\ga xs/\0<sz|_=>xs=[]
 | .row sz k n=>True/\(∃xs el,ad k e=some ⟨n,el,sz,some xs⟩/\ga xs)/\0<sz
 | .agg cs=>ha e cs
 | .tuple cs=>ha e cs
 |_=>et
def ha(e:List (aA×dT)):List af->Prop
 |[]=>True
 |x::xs=>e0 e x/\ha e xs
end
mutual
def ho:af->Nat
 | .slice _ _ _=>1
 | .row _ _ _=>1
 | .agg cs=>iw cs
 | .tuple cs=>iw cs
 |_=>0
def iw:List af->Nat
 |[]=>0
 |x::xs=>ho x+iw xs
end
mutual
def fold(κ:Nat)(e:List (aA×dT)):Nat->af->af
 |j,.slice sz _ xs=>.slice sz (.tr (.loc κ) j) (cf xs)
 |j,.row sz k _=>.slice sz (.tr (.loc κ) j) (cf (wE e k))
 |j,.agg cs=>.agg (hq κ e j cs)
 |j,.tuple cs=>.tuple (hq κ e j cs)
 |_,p=>p
def hq(κ:Nat)(e:List (aA×dT)):Nat->List af->List af
 |_,[]=>[]
 |j,x::xs=>fold κ e j x::hq κ e (j+ho x) xs
end
def nX(ν:a8)(k:aA)(b:Nat):Prop:= ∃n v,ν.ow k=some (n,v)/\v.ownBlock=some b
mutual
def fL(ν:a8)(R:Nat->Prop)(e:List (aA×dT)):af->List (Nat->Prop)
 | .slice _ tag xs=>match tag with| .tr k i=>[fun b=>ν.tr k i b/\¬R b]| .own k=>[fun b=>nX ν k b\/(lq ν (tnL xs) b/\¬R b)]|_=>[fun _=>et]
 | .row _ k _=>[fun b=>nX ν k b\/(lq ν (tnL (wE e k)) b/\¬R b)]
 | .agg cs=>pc ν R e cs
 | .tuple cs=>pc ν R e cs
 |_=>[]
def pc(ν:a8)(R:Nat->Prop)(e:List (aA×dT)):List af->List (Nat->Prop)
 |[]=>[]
 |x::xs=>fL ν R e x++pc ν R e xs
end
mutual
def z6(ν:a8)(R:Nat->Prop)(e:List (aA×dT)):∀p,(fL ν R e p).length=ho p
 | .slice _ tag _=>by cases tag<;>simp[fL,ho]
 | .row _ k _=>by simp[fL,ho]
 | .agg cs=>by simp[fL,ho,PI ν R e cs]
 | .tuple cs=>by simp[fL,ho,PI ν R e cs]
 | .int _ _=>rfl
 | .bool _=>rfl
 | .str _=>rfl
 | .junk=>rfl
 | .ptr _ _=>rfl
 | .eptr _=>rfl
 | .iface _ _=>rfl
 | .nilp=>rfl
 | .func _ _=>rfl
 | .gmap _=>rfl
 | .rptr _ _ _ _ _=>rfl
 | .hdm _ _=>rfl
 | .hdi _ _ _=>rfl
 | .cst _=>rfl
def PI(ν:a8)(R:Nat->Prop)(e:List (aA×dT)):∀p,(pc ν R e p).length=iw p
 |[]=>rfl
 |x::xs=>by simp[pc,iw,z6 ν R e x,PI ν R e xs]
end
def GV(ν:a8)(R:Nat->Prop)(ns:List (aA×Nat))(rw:List aA)(b:Nat):Prop:=(∃k∈rw,nX ν k b)\/(lq ν ns b/\¬R b)
mutual
def Fv{ν:a8}{R:Nat->Prop}{e:List (aA×dT)}:∀(p:af) (i:Nat) (S:Nat->Prop),(fL ν R e p)[i]? =some S->∀b,S b->GV ν R (ez e p) (ec p) b
 | .slice _ tag _,i,S,h,b,a=>by
  cases tag<;>(simp only[fL]at h;cases i<;>simp at h;subst h);all_goals first|exact a.elim|skip
  ·rcases a with a|a
   ·exact .inl ⟨_,by simp[ec],a⟩
   ·exact .inr (by simpa only[ez]using a)
  ·exact .inr ⟨⟨_,_,by simp[ez],a.1⟩,a.2⟩
 | .row _ k _,i,S,h,b,a=>by
  simp only[fL]at h;cases i<;>simp at h;subst h;rcases a with a|a
  ·exact .inl ⟨k,by simp[ec],a⟩
  ·exact .inr (by simpa only[ez]using a)
 | .agg cs,i,S,h,b,a=>by simp only[fL,ez,ec]at h⊢;exact Fu cs i S h b a
 | .tuple cs,i,S,h,b,a=>by simp only[fL,ez,ec]at h⊢;exact Fu cs i S h b a
 | .int _ _,_,_,h,_,_=>by simp[fL]at h
 | .bool _,_,_,h,_,_=>by simp[fL]at h
 | .str _,_,_,h,_,_=>by simp[fL]at h
 | .junk,_,_,h,_,_=>by simp[fL]at h
 | .ptr _ _,_,_,h,_,_=>by simp[fL]at h
 | .eptr _,_,_,h,_,_=>by simp[fL]at h
 | .iface _ _,_,_,h,_,_=>by simp[fL]at h
 | .nilp,_,_,h,_,_=>by simp[fL]at h
 | .func _ _,_,_,h,_,_=>by simp[fL]at h
 | .gmap _,_,_,h,_,_=>by simp[fL]at h
 | .rptr _ _ _ _ _,_,_,h,_,_=>by simp[fL]at h
 | .hdm _ _,_,_,h,_,_=>by simp[fL]at h
 | .hdi _ _ _,_,_,h,_,_=>by simp[fL]at h
 | .cst _,_,_,h,_,_=>by simp[fL]at h
def Fu{ν:a8}{R:Nat->Prop}{e:List (aA×dT)}:∀(p:List af) (i:Nat) (S:Nat->Prop),(pc ν R e p)[i]? =some S->∀b,S b->GV ν R (gI e p) (gD p) b
 |[],i,S,h,b,a=>by simp[pc]at h
 |x::xs,i,S,h,b,a=>by
  simp only[pc]at h;simp only[gI,gD];by_cases hi:i<(fL ν R e x).length
  ·rw[rE hi]at h;rcases Fv x i S h b a with⟨k,J,U⟩|⟨J,U⟩
   ·exact .inl ⟨k,List.mem_append_left _ J,U⟩
   ·exact .inr ⟨BY (fun _ h=>List.mem_append_left _ h) b J,U⟩
  ·rw[vg Ω]at h;rcases Fu xs _ S h b a with⟨k,J,U⟩|⟨J,U⟩
   ·exact .inl ⟨k,List.mem_append_right _ J,U⟩
   ·exact .inr ⟨BY (fun _ h=>List.mem_append_right _ h) b J,U⟩
end
structure CL (ν:a8) (R:Nat->Prop) (rw:List aA):Prop where
 trd:∀k j bt dg b,ν.tr k j b->ν.tr bt dg b->k=bt/\j=dg
 inj:∀k bt b,k∈rw->bt∈rw->nX ν k b->nX ν bt b->k=bt
 R:∀k b,k∈rw->nX ν k b->R b
def UG{ν:a8}{R:Nat->Prop}{rw:List aA}(he:CL ν R rw){i h:List (aA×Nat)}{g f:List aA}(n:(i++h).Nodup)(m:(g++f).Nodup)(J:∀k∈g,k∈rw)(U:∀k∈f,k∈rw)(b:Nat)(l:GV ν R i g b):¬GV ν R h f b:=by
 rintro j;rcases l with⟨k,c,e⟩|⟨c,e⟩<;>rcases j with⟨bt,a,d⟩|⟨a,d⟩
 ·have:=he.inj k bt b (J k c) (U bt a) e d;subst this;exact(rF.1 m).2.2 _ c _ a rfl
 ·exact d (he.R k b (J k c) e)
 ·exact e (he.R bt b (U bt a) d)
 ·exact N8 he.trd n b c a
mutual
def aaV{ν:a8}{R:Nat->Prop}{rw:List aA}(he:CL ν R rw){e:List (aA×dT)}:∀(p:af),(ez e p).Nodup->(ec p).Nodup->(∀k∈ec p,k∈rw)->∀(i d:Nat) (S c:Nat->Prop),(fL ν R e p)[i]? =some S->(fL ν R e p)[d]? =some c->∀b,S b->c b->i=d
 | .slice sz tag xs,_,_,_,i,d,S,c,h,a,b,_,_=>by have o:(fL ν R e (.slice sz tag xs)).length=1:=z6 ν R e _;have:=(fM.1 h).1;have:=(fM.1 a).1;omega
 | .row sz k n,_,_,_,i,d,S,c,h,a,b,_,_=>by have o:(fL ν R e (.row sz k n)).length=1:=z6 ν R e _;have:=(fM.1 h).1;have:=(fM.1 a).1;omega
 | .agg cs,j,g,f,i,d,S,c,h,a,b,m,l=>by simp only[fL,ez,ec]at h a j g f;exact PH he cs j g f i d S c h a b m l
 | .tuple cs,j,g,f,i,d,S,c,h,a,b,m,l=>by simp only[fL,ez,ec]at h a j g f;exact PH he cs j g f i d S c h a b m l
 | .int _ _,_,_,_,_,_,_,_,h,_,_,_,_=>by simp[fL]at h
 | .bool _,_,_,_,_,_,_,_,h,_,_,_,_=>by simp[fL]at h
 | .str _,_,_,_,_,_,_,_,h,_,_,_,_=>by simp[fL]at h
 | .junk,_,_,_,_,_,_,_,h,_,_,_,_=>by simp[fL]at h
 | .ptr _ _,_,_,_,_,_,_,_,h,_,_,_,_=>by simp[fL]at h
 | .eptr _,_,_,_,_,_,_,_,h,_,_,_,_=>by simp[fL]at h
 | .iface _ _,_,_,_,_,_,_,_,h,_,_,_,_=>by simp[fL]at h
 | .nilp,_,_,_,_,_,_,_,h,_,_,_,_=>by simp[fL]at h
 | .func _ _,_,_,_,_,_,_,_,h,_,_,_,_=>by simp[fL]at h
 | .gmap _,_,_,_,_,_,_,_,h,_,_,_,_=>by simp[fL]at h
 | .rptr _ _ _ _ _,_,_,_,_,_,_,_,h,_,_,_,_=>by simp[fL]at h
 | .hdm _ _,_,_,_,_,_,_,_,h,_,_,_,_=>by simp[fL]at h
 | .hdi _ _ _,_,_,_,_,_,_,_,h,_,_,_,_=>by simp[fL]at h
 | .cst _,_,_,_,_,_,_,_,h,_,_,_,_=>by simp[fL]at h
def PH{ν:a8}{R:Nat->Prop}{rw:List aA}(he:CL ν R rw){e:List (aA×dT)}:∀(p:List af),(gI e p).Nodup->(gD p).Nodup->(∀k∈gD p,k∈rw)->∀(i d:Nat) (S c:Nat->Prop),(pc ν R e p)[i]? =some S->(pc ν R e p)[d]? =some c->∀b,S b->c b->i=d
 |[],_,_,_,i,d,S,c,h,_,_,_,_=>by simp[pc]at h
 |x::xs,g,f,q,i,d,S,c,h,a,b,l,j=>by
  simp only[pc]at h a;simp only[gI]at g;simp only[gD]at f q;have n:∀k∈ec x,k∈rw:=fun k m=>q k (List.mem_append_left _ m);have o:∀k∈gD xs,k∈rw:=fun k m=>q k (List.mem_append_right _ m);by_cases hi:i<(fL ν R e x).length<;>by_cases r:d<(fL ν R e x).length
  ·rw[rE hi]at h;rw[rE r]at a;exact aaV he x (rF.1 g).1 (rF.1 f).1 n i d S c h a b l j
  ·rw[rE hi]at h;rw[vg Ω]at a;exact absurd (Fu xs _ c a b j) (UG he g f n o b (Fv x i S h b l))
  ·rw[vg Ω]at h;rw[rE r]at a;exact absurd (Fu xs _ S h b l) (UG he g f n o b (Fv x d c a b j))
  ·rw[vg Ω]at h a;have:=PH he xs (rF.1 g).2.1 (rF.1 f).2.1 o _ _ S c h a b l j;omega
end
end
section
open Go Go.RowKit
def P2{w:World}{μ:a8}{k:aA}{j sz:Nat}{tag:jS}{ys:List af}{v:Value}(h:cX true w μ.A (μ.tr k j) (.slice sz tag ys) v)(a:cf ys=ys):aU w μ (.slice sz (.tr k j) ys) v:=by have J:=GZ (ν:=μ) (fun _ _ h=>h) _ _ _ h;simp only[b5,a]at J;simp only[aU]at J⊢;refine⟨J.1,fun e=>(by cases e),fun _ e=>(by cases e),fun bt dg e=>?_,fun _ e=>(by cases e)⟩;cases e;simp only[cX]at h⊢;exact h
section
variable {pr:Nat->Prop} {w:World} {ν μ:a8} {B:List (aA×List af)} {e:List (aA×dT)} {R:Nat->Prop} {rw:List aA} {κ:Nat}
 (be:Good pr w ν B e) (he:CL ν R rw) (bu:∀b,R b->∀k j,¬ν.tr k j b) (Dz:∀b o,ν.A b o->μ.A b o) (yV:∀k∈rw,∀own,ad k e=some own->∀b,nX ν k b->∀o,o<own.n*own.sz->μ.A b o)
include be he bu Dz yV
mutual
theorem LH:∀(p:af) (v:Value) (j:Nat),aU w ν p v->e0 e p->(ez e p).Nodup->(∀k∈ec p,k∈rw)->(∀i S,(fL ν R e p)[i]? =some S->∀b,S b->μ.tr (.loc κ) (j+i) b)->aU w μ (fold κ e j p) v
 | .int k n,v,_,h,_,_,_,_=>by simpa only[aU,fold]using h
 | .bool b,v,_,h,_,_,_,_=>by simpa only[aU,fold]using h
 | .str s,v,_,h,_,_,_,_=>by simpa only[aU,fold]using h
 | .slice sz tag xs,v,j,h,ar,q,l,f=>by
  simp only[aU]at h;obtain⟨⟨a,cap,J,U,Z,aY⟩,_,dW,lF,_⟩:=h;simp only[fold];refine P2 (tag:= .no) ?_ (u6 xs);by_cases z:∃k i,tag= .tr k i
  ·obtain⟨k,i,rfl⟩:=z;have aG:=Dt .no v (lF k i rfl);refine vJ (fun b o h=>⟨Dz b o h,rfl⟩) (fun _ _ _=>rfl) _ _ _ v (fun b d=>?_) aG;simpa using f 0 (fun b=>ν.tr k i b/\¬R b) (by simp[fL]) b ⟨d,fun F=>bu b F _ _ d⟩
  by_cases W:∃k,tag= .own k
  ·obtain⟨k,rfl⟩:=W;simp only[e0]at ar;obtain⟨_,⟨el,B⟩,L,O⟩:=ar;obtain⟨n',u,g1,g2,g3⟩:=dW k rfl;obtain⟨v0,gj,r,t,P,X⟩:=be.own k _ B;simp only at r t P;rw[g1]at r;simp only[dS,jj]at r;obtain⟨rfl,rfl⟩:=r;have Q:=g3 rfl;subst Q;have K:k∈rw:=l k (by simp[ec]);simp only[cX];refine⟨a,cap,by rw[nt];exact J,by rw[nt];exact U,by rw[nt];exact Z,?_⟩;rcases aY with rfl|⟨b,off,us,E,b2,Y⟩
   ·exact .inl rfl
   by_cases A:xs=[]
   ·left;rw[A];rfl
   right;subst E;rcases t.2 with⟨E,_⟩|⟨g,C8,cur,f1,f2,f3,f4,f5,f6,f7⟩
   ·rw[E]at J;cases J
   have G:v.ownBlock=some g:=by rw[f1];rfl
   have y:nX ν k g:=⟨_,_,g1,G⟩;have x:∀b,(nX ν k b\/(lq ν (tnL xs) b/\¬R b))->μ.tr (.loc κ) j b:=fun b d=>by simpa using f 0 (fun b=>nX ν k b\/(lq ν (tnL xs) b/\¬R b)) (by simp[fL]) b d
   rw[f1]at J;simp only[axc,dS,Addr.mk.injEq]at J;obtain⟨⟨rfl,rfl,_⟩,_,rfl⟩:=J;have hlen:=rr Y;refine⟨g,0,us,fun c=>lq ν (tnL xs) c/\¬R c,rfl,x g (.inl y),fun c aw=>⟨x c (.inr aw),fun _ V=>aw.2 (by rw[V];exact he.R k g K y)⟩,BH (fun b o h=>⟨Dz b o h,rfl⟩) _ _ b2,fun _=>⟨rfl,?_,el,?_⟩,?_⟩
   ·rw[hlen];exact Nat.mul_pos (List.length_pos_iff.2 A) O
   ·simp only[shape,f3,f6]
   ·have J:=Oi he.trd xs us Y L (by simpa only[ez]using q);exact GX (fun b o h=>⟨Dz b o h,rfl⟩) (fun _ _ _=>rfl) _ _ _ us (fun b d=>⟨d,fun F=>by obtain⟨bt,jH,_,z⟩:=d;exact bu b F _ _ z⟩) J
  ·have ae:xs=[]:=by
    simp only[e0]at ar;split at ar
    ·exact absurd ⟨_,_,rfl⟩ z
    ·exact absurd ⟨_,rfl⟩ W
    ·exact ar
   subst ae;simp only[cf,cX];exact⟨a,cap,J,U,Z,.inl trivial⟩
 | .row sz k n,v,j,h,ar,q,l,f=>by
  simp only[e0]at ar;obtain⟨⟨m,hm⟩,⟨xs,el,B,L⟩,O⟩:=ar;have N:wE e k=xs:=by simp[wE,B]
  simp only[aU]at h;obtain⟨⟨ac8,jn,Bu⟩,ft,n',u,g1,g2,g3⟩:=h;obtain⟨v0,us,r,t,P,X⟩:=be.own k _ B;simp only at r t P;rw[g1]at r;simp only[dS,jj]at r;obtain⟨rfl,rfl⟩:=r;have Q:=g3 rfl;subst Q;obtain⟨H,M,u1⟩:=X xs rfl;simp only at H M;have K:k∈rw:=l k (by simp[ec]);rcases t.2 with⟨E,_⟩|⟨g,cap,cur,f1,f2,f3,f4,f5,f6,f7⟩
  ·rw[E]at Bu;cases Bu
  have G:v.ownBlock=some g:=by rw[f1];rfl
  have y:nX ν k g:=⟨_,_,g1,G⟩;have x:∀b,(nX ν k b\/(lq ν (tnL (wE e k)) b/\¬R b))->μ.tr (.loc κ) j b:=fun b d=>by simpa using f 0 (fun b=>nX ν k b\/(lq ν (tnL (wE e k)) b/\¬R b)) (by simp[fL]) b d
  rw[N]at x;simp only[fold,N];refine P2 (tag:= .no) ?_ (u6 xs);simp only[cX];refine⟨some ⟨g,0,none⟩,cap,by rw[nt,H];exact f1,by rw[nt,H];exact f4,⟨f5,by rw[nt,H];exact ft⟩,?_⟩;by_cases A:xs=[]
  ·left;rw[A];rfl
  ·right;have hlen:=rr M;refine⟨g,0,us,fun c=>lq ν (tnL xs) c/\¬R c,rfl,x g (.inl y),fun c aw=>⟨x c (.inr aw),fun _ V=>aw.2 (by rw[V];exact he.R k g K y)⟩,H0 us 0 fun i u hi=>?_,fun _=>⟨rfl,?_,el,?_⟩,?_⟩
   ·have Be:i<us.length:=(fM.1 hi).1;refine⟨yV k K _ B g y _ (by simp only;rw[t.1]at Be;omega),?_⟩;have:=t.cells G i u hi;rwa[pD]at this
   ·rw[hlen];exact Nat.mul_pos (List.length_pos_iff.2 A) O
   ·simp only[shape,f3,f6]
   ·have J:=Oi he.trd xs us M L (by simpa only[ez,N]using q);exact GX (fun b o h=>⟨Dz b o h,rfl⟩) (fun _ _ _=>rfl) _ _ _ us (fun b d=>⟨d,fun F=>by obtain⟨bt,jH,_,z⟩:=d;exact bu b F _ _ z⟩) J
 | .agg cs,v,j,h,ar,q,l,f=>by simp only[aU,e0,ez,ec,fL,fold]at h ar q l f⊢;obtain⟨us,J,U⟩:=h;exact⟨us,J,UB cs _ j U ar q l f⟩
 | .tuple cs,v,j,h,ar,q,l,f=>by simp only[aU,e0,ez,ec,fL,fold]at h ar q l f⊢;obtain⟨us,J,U⟩:=h;exact⟨us,J,UC cs _ j U ar q l f⟩
 | .junk,_,_,_,ar,_,_,_=>by simp[e0]at ar
 | .ptr _ _,_,_,_,ar,_,_,_=>by simp[e0]at ar
 | .eptr _,_,_,_,ar,_,_,_=>by simp[e0]at ar
 | .iface _ _,_,_,_,ar,_,_,_=>by simp[e0]at ar
 | .nilp,_,_,_,ar,_,_,_=>by simp[e0]at ar
 | .func _ _,_,_,_,ar,_,_,_=>by simp[e0]at ar
 | .gmap _,_,_,_,ar,_,_,_=>by simp[e0]at ar
 | .rptr _ _ _ _ _,_,_,_,ar,_,_,_=>by simp[e0]at ar
 | .hdm _ _,_,_,_,ar,_,_,_=>by simp[e0]at ar
 | .hdi _ _ _,_,_,_,ar,_,_,_=>by simp[e0]at ar
 | .cst _,_,_,_,ar,_,_,_=>by simp[e0]at ar
theorem UB:∀(cs:List af) (us:List Value) (j:Nat),cU w ν cs us->ha e cs->(gI e cs).Nodup->(∀k∈gD cs,k∈rw)->(∀i S,(pc ν R e cs)[i]? =some S->∀b,S b->μ.tr (.loc κ) (j+i) b)->cU w μ (hq κ e j cs) us
 |[],us,j,h,_,_,_,_=>by simpa only[cU,hq]using h
 |c::cs,us,j,h,ar,n,g,d=>by
  simp only[cU,ha,gI,gD,pc,hq]at h ar n g d⊢;obtain⟨u,m,J,⟨U,o⟩,p⟩:=h;have l:=rF.1 n;refine⟨u,m,J,⟨LH c u j U ar.1 l.1 (fun k a=>g k (List.mem_append_left _ a)) (fun i S hi b f=>d i S (by rw[rE (fM.1 hi).1];exact hi) b f),o⟩,
   UB cs m _ p ar.2 l.2.1 (fun k a=>g k (List.mem_append_right _ a)) (fun i S hi b f=>?_)⟩
  have:=d (ho c+i) S (by rw[vg (by rw[z6];omega),z6];simpa using hi) b f;rwa[<-Nat.add_assoc]at this
theorem UC:∀(cs:List af) (us:List Value) (j:Nat),c1 w ν cs us->ha e cs->(gI e cs).Nodup->(∀k∈gD cs,k∈rw)->(∀i S,(pc ν R e cs)[i]? =some S->∀b,S b->μ.tr (.loc κ) (j+i) b)->c1 w μ (hq κ e j cs) us
 |[],us,j,h,_,_,_,_=>by simpa only[c1,hq]using h
 |c::cs,us,j,h,ar,n,g,d=>by
  simp only[c1,ha,gI,gD,pc,hq]at h ar n g d⊢;obtain⟨u,m,J,U,o⟩:=h;have l:=rF.1 n;refine⟨u,m,J,LH c u j U ar.1 l.1 (fun k a=>g k (List.mem_append_left _ a)) (fun i S hi b f=>d i S (by rw[rE (fM.1 hi).1];exact hi) b f),
   UC cs m _ o ar.2 l.2.1 (fun k a=>g k (List.mem_append_right _ a)) (fun i S hi b f=>?_)⟩
  have:=d (ho c+i) S (by rw[vg (by rw[z6];omega),z6];simpa using hi) b f;rwa[<-Nat.add_assoc]at this
end
end
end
section
open Go Go.RowKit
mutual
def Ym:∀p:af,fl p->∀x∈tn p,x.1≠eo
 | .slice _ tag xs,ar,x,a=>by cases tag<;>simp only[tn,fl]at ar a<;>simp at a;subst a;exact ar
 | .agg cs,ar,x,a=>by simp only[tn,fl]at ar a;exact It cs ar x a
 | .int _ _,_,_,a=>by simp[tn]at a
 | .bool _,_,_,a=>by simp[tn]at a
 | .str _,_,_,a=>by simp[tn]at a
 | .junk,_,_,a=>by simp[tn]at a
 | .ptr _ _,_,_,a=>by simp[tn]at a
 | .eptr _,_,_,a=>by simp[tn]at a
 | .iface _ _,_,_,a=>by simp[tn]at a
 | .nilp,_,_,a=>by simp[tn]at a
 | .tuple _,_,_,a=>by simp[tn]at a
 | .func _ _,_,_,a=>by simp[tn]at a
 | .gmap _,_,_,a=>by simp[tn]at a
 | .row _ _ _,_,_,a=>by simp[tn]at a
 | .rptr _ _ _ _ _,_,_,a=>by simp[tn]at a
 | .hdm _ _,_,_,a=>by simp[tn]at a
 | .hdi _ _ _,_,_,a=>by simp[tn]at a
 | .cst _,_,_,a=>by simp[tn]at a
def It:∀p:List af,ga p->∀x∈tnL p,x.1≠eo
 |[],_,x,a=>by simp[tnL]at a
 |c::cs,ar,x,a=>by
  simp only[tnL,ga,j2]at ar a;rcases a with a|a
  ·exact Ym c ar.1 x a
  ·exact It cs ar.2 x a
end
mutual
def Yn{e:List (aA×dT)}:∀p:af,e0 e p->∀x∈ez e p,x.1≠eo
 | .slice _ tag xs,ar,x,a=>by
  cases tag with
  |own k=>simp only[ez,e0]at ar a;exact It xs ar.2.2.1 x a
  |tr k i=>simp only[ez,e0]at ar a;simp at a;subst a;exact ar
  |no=>simp[ez]at a
  |nil=>simp[ez]at a
  |lo k=>simp[ez]at a
 | .row _ k _,ar,x,a=>by simp only[ez,e0]at ar a;obtain⟨_,⟨xs,el,c,b⟩,_⟩:=ar;rw[show wE e k=xs from by simp[wE,c]]at a;exact It xs b x a
 | .agg cs,ar,x,a=>by simp only[ez,e0]at ar a;exact Oe cs ar x a
 | .tuple cs,ar,x,a=>by simp only[ez,e0]at ar a;exact Oe cs ar x a
 | .int _ _,_,_,a=>by simp[ez]at a
 | .bool _,_,_,a=>by simp[ez]at a
 | .str _,_,_,a=>by simp[ez]at a
 | .junk,_,_,a=>by simp[ez]at a
 | .ptr _ _,_,_,a=>by simp[ez]at a
 | .eptr _,_,_,a=>by simp[ez]at a
 | .iface _ _,_,_,a=>by simp[ez]at a
 | .nilp,_,_,a=>by simp[ez]at a
 | .func _ _,_,_,a=>by simp[ez]at a
 | .gmap _,_,_,a=>by simp[ez]at a
 | .rptr _ _ _ _ _,_,_,a=>by simp[ez]at a
 | .hdm _ _,_,_,a=>by simp[ez]at a
 | .hdi _ _ _,_,_,a=>by simp[ez]at a
 | .cst _,_,_,a=>by simp[ez]at a
def Oe{e:List (aA×dT)}:∀p:List af,ha e p->∀x∈gI e p,x.1≠eo
 |[],_,x,a=>by simp[gI]at a
 |c::cs,ar,x,a=>by
  simp only[gI,ha,j2]at ar a;rcases a with a|a
  ·exact Yn c ar.1 x a
  ·exact Oe cs ar.2 x a
end
mutual
def Iu{e:List (aA×dT)}:∀p:af,e0 e p->∀k∈ec p,∃own,ad k e=some own
 | .row sz k n,ar,bt,b=>by simp only[ec,e0]at ar b;obtain⟨_,⟨xs,el,c,d⟩,_⟩:=ar;simp at b;subst b;exact⟨_,c⟩
 | .agg cs,ar,x,a=>by simp only[ec,e0]at ar a;exact Og cs ar x a
 | .tuple cs,ar,x,a=>by simp only[ec,e0]at ar a;exact Og cs ar x a
 | .slice sz tag xs,ar,bt,b=>by
  cases tag with
  |own k=>simp only[ec,e0]at ar b;obtain⟨_,⟨el,c⟩,_⟩:=ar;simp at b;subst b;exact⟨_,c⟩
  |tr k i=>simp[ec]at b
  |no=>simp[ec]at b
  |nil=>simp[ec]at b
  |lo k=>simp[ec]at b
 | .int _ _,_,_,a=>by simp[ec]at a
 | .bool _,_,_,a=>by simp[ec]at a
 | .str _,_,_,a=>by simp[ec]at a
 | .junk,_,_,a=>by simp[ec]at a
 | .ptr _ _,_,_,a=>by simp[ec]at a
 | .eptr _,_,_,a=>by simp[ec]at a
 | .iface _ _,_,_,a=>by simp[ec]at a
 | .nilp,_,_,a=>by simp[ec]at a
 | .func _ _,_,_,a=>by simp[ec]at a
 | .gmap _,_,_,a=>by simp[ec]at a
 | .rptr _ _ _ _ _,_,_,a=>by simp[ec]at a
 | .hdm _ _,_,_,a=>by simp[ec]at a
 | .hdi _ _ _,_,_,a=>by simp[ec]at a
 | .cst _,_,_,a=>by simp[ec]at a
def Og{e:List (aA×dT)}:∀p:List af,ha e p->∀k∈gD p,∃own,ad k e=some own
 |[],_,x,a=>by simp[gD]at a
 |c::cs,ar,x,a=>by
  simp only[gD,ha,j2]at ar a;rcases a with a|a
  ·exact Iu c ar.1 x a
  ·exact Og cs ar.2 x a
end
def hP(d:List bU)(s:cQ)(κ:Nat)(Q:af->cQ->Prop)(e:Exit)(st:bo):Prop:=
 (e= .ret\/e= .normal)/\match ba st d with
  |some (c,b)=>c/\∃a,a.e=[]/\lN a s.b/\hx (aK a) a.b st.b/\hV a/\(e0 st.e (a1 b)/\(ez st.e (a1 b)).Nodup/\(ec (a1 b)).Nodup)/\Q (fold κ st.e 0 (a1 b)) a
  |none=>et
noncomputable def a8.fold(ν:a8)(a:cQ)(κ:Nat)(e:List (aA×dT))(p:af):a8:=
 {A:=fun b o=>ν.A b o\/ ∃k,k∈ec p/\∃own,ad k e=some own/\nX ν k b/\o<own.n*own.sz,
  bx:=(ν.cut (aK a)).bx,ow:=fun _=>none,
  tr:=fun k j b=>k= .loc κ/\∃S,(fL ν (fun b=> ∃k,k∈ec p/\nX ν k b) e p)[j]? =some S/\S b}
def tU.of{P:cG}(hm:P.follows .mixedOrders=true){aS:List (Nat×eu)}(aM:hW P aS=true){f:FuncId}{fn:Func}(aG:P.funcs[f]? =some fn){code:Code}(ag:fn.body=some code)(vT:(fn.name== "runtime.NumGoroutine")=false){c:C}(aw:hR fn.ntmps aS c code=true){dY:List bU}(iI:pY aS dY fn.results.toList=true)
  {args:List af} (av:args.length<=fn.ntmps) {s:cQ} (kN:hV s) (h6:s.e=[]) {κ:Nat} {Q:af->cQ->Prop} (he:eP args->(∀j cs,ad j s.b=some cs->gR cs=true->eQ cs)->dd P (cI s) c (hP dY s κ Q) ⟨iX 0 args,s.b,s.e,0,cI s⟩):tU P f κ args s Q:=by
 intro w ν bk be ae aI;refine .inl ⟨⟨fn,aG,by simp[ag],vT⟩,?_⟩;have pR:=zR aI;have lg:bk.size=args.length:=by simpa using pR
 let X:fh:=⟨w,ν,fB ν s,fn.ntmps,cI s⟩
 have nI:∀k,fresh 0 (cI s) k->ν.bx k=none/\ν.ow k=none/\∀j b,¬ν.tr k j b:=by
  intro k ab;cases k with
  |loc m=>exact⟨(ae _).1 (kN.1 m),(ae _).2.1 (kN.2 m),(ae _).2.2⟩
  |obj m=>
   simp only[fresh,true_and]at ab;refine⟨?_,?_,(ae _).2.2⟩
   ·refine(ae _).1 ?_;cases h:ad (.obj m) s.b with
    |none=>rfl
    |some x=>exact absurd (rl (.inl (by simp[h]))) ab
   ·refine(ae _).2.1 ?_;cases h:ad (.obj m) s.e with
    |none=>rfl
    |some x=>exact absurd (rl (.inr (by simp[h]))) ab
 have iV:∀m,(ν.bx (.obj m)≠none\/ν.ow (.obj m)≠none)-> .obj m∈cI s:=by
  intro m hm;refine Classical.byContradiction fun aw=>?_;obtain⟨J,U,_⟩:=nI (.obj m) ⟨trivial,aw⟩;rcases hm with hm|hm
  ·exact hm J
  ·exact hm U
 have pP:c5 X ⟨iX 0 args,s.b,s.e,0,cI s⟩ {tmps:=bk++Array.replicate (fn.ntmps-bk.size) undef,defers:=[]} w ν:=by
  refine⟨⟨be.alt,fun k cs ab=>?_,be.inj,fun g o fq=>?_,be.oinj,be.obx,be.one,be.otr⟩,⟨rfl,rfl,rfl,dL _,fun _ _ _=>rfl,fun b o h=>⟨h,rfl⟩,fun b o h=>.inl h,fun n b h=>h,fun n b h=>iV n (.inl (by rw[h];simp)),fun m n u h=>⟨n,u,h,.inl ⟨rfl,rfl⟩⟩,fun m n u h=>iV m (.inr (by rw[h];simp)),fun k j _ _ b h=>absurd h ((ae k).2.2 j b),fun k j b h=>absurd h ((ae k).2.2 j b),fun k j b h=>absurd h ((ae k).2.2 j b),fun _ _ _=>rfl⟩,rfl,?_,fun i=>?_,nI⟩
  ·obtain⟨bl,us,el,g1,g2,g3⟩:=be.box k cs ab;exact⟨bl,us,el,g1,.inl g2,g3⟩
  ·obtain⟨v,us,g1,g2,g3,g4⟩:=be.own g o fq;exact⟨v,us,g1,g2,fun bl gd=>⟨.inl (g3 bl gd).1,(g3 bl gd).2⟩,g4⟩
  ·show(bk++Array.replicate (fn.ntmps-bk.size) undef).size=fn.ntmps;simp;omega
  ·rw[G3];by_cases hi:i<args.length
   ·rw[if_pos Ω];have r2:args[i]? =some args[i]:=cl hi;obtain⟨v,al,aC⟩:=Fa i aI r2;have aN:(bk++Array.replicate (fn.ntmps-bk.size) undef).getD i undef=v:=by
     have oW:bk[i]? =some v:=by simpa using al
     rw[Array.getD_eq_getD_getElem?,Array.getElem?_append_left Ω,oW];rfl
    show aU w ν _ ((bk++Array.replicate (fn.ntmps-bk.size) undef).getD i undef);rw[aN];simpa[List.getD,r2]using aC
   ·rw[if_neg Ω];simp[aU]
 have vO:=he (Pj aI) (fun j cs ah=>by obtain⟨bl,us,el,_,_,_,_,g5⟩:=be.box j cs ah;exact Pe g5);have MT:=qj hm aM (X:=X) c code (hP dY s κ Q) _ aw vO _ w ν pP;refine calls_of_wp aG ag (wp_mono MT fun e bs w' cK=>?_);obtain⟨st',bm,⟨q2,bP⟩,c8⟩:=cK;cases qs:ba st' dY with
 |none=>simp[qs]at bP
 |some x=>
  obtain⟨cA,bS⟩:=x;simp only[qs]at bP;obtain⟨h4,ak,hs'e,kb,a6,bT,⟨ok,nd,rd⟩,dH⟩:=bP;obtain⟨oF,g1,g2⟩:=Jd aM c8 dY fn.results.toList cA bS iI qs h4;have MF:=zR g2;have ee:bs.defers=[]/\∃v,(results fn bs.tmps).run P w'= .ok v w'/\(fun(e:Ending) w'=> ∃v r ak bm,e= .returned v/\Q r ak/\aU w' bm r v/\Good (fun bl=>fB ν s bl\/w.heap.size<=bl) w' bm ak.b ak.e/\AN (some κ) bm ak/\hV ak/\pq ⟨w,ν,fB ν s,0,cI s⟩ w' bm) (.returned v) w':=by
   refine⟨c8.defers,?_⟩;have jF:(results fn bs.tmps).run P w'= .ok (if h:oF.toArray.size=1 then oF.toArray[0]else .tuple oF.toArray) w':=by rw[aat];simp only[gr,Array.mapM_eq_mapM_toList,Sem.run_map,g1,gy,hy]
   have xi:∀k,aK ak k->(ad k ak.b).isSome/\(ad k st'.b).isSome:=fun k ab=>by
    have J:(ad k ak.b).isSome:=by
     rcases ab with ab|ab
     ·exact ab
     ·rw[hs'e]at ab;simp[ad]at ab
    obtain⟨cs,dv⟩:=fA.1 J;exact⟨J,by simp[(a6 k cs dv).1]⟩
   have gG:∀k b,k∈ec (a1 bS)->nX bm k b->∃own,ad k st'.e=some own/\(X.pr b)/\b<w'.heap.size/\(∀k j,¬bm.tr k j b)/\(∀bt,(ad bt st'.b).isSome->bm.bx bt≠some b):=by rintro k b ab ⟨n,v,J,U⟩;obtain⟨own,nc⟩:=Iu _ ok k ab;obtain⟨v0,us,gZ,jg,uZ,avK⟩:=c8.good.own k _ nc;rw[J]at gZ;simp only[dS,jj]at gZ;obtain⟨rfl,rfl⟩:=gZ;exact⟨_,nc,(uZ b U).1,c8.good.ownLt nc J U,c8.good.otr b (.inr ⟨k,_,_,by simp[nc],J,U⟩),fun bt lL kf=>c8.good.obx k bt _ _ b (by simp[nc]) lL J U kf⟩
   have ze:∀k b,k∈ec (a1 bS)->nX bm k b->w.heap.size<=b:=by
    intro k b ab dX;obtain⟨own,_,J,_,_,bM⟩:=gG k b ab dX;rcases J with J|J
    ·exfalso;rcases J with⟨bt,bp,a2⟩|⟨g,n,v,bp,_⟩
     ·cases bt with
      |loc m=>rw[kN.1 m]at bp;cases bp
      |obj m=>exact bM _ (xi _ (xG kb _ bp)).2 (c8.fr.obj m b a2)
     ·rw[h6]at bp;simp[ad]at bp
    ·exact J
   have Hh:CL bm (fun b=> ∃k,k∈ec (a1 bS)/\nX bm k b) (ec (a1 bS)):=by refine⟨c8.fr.trd,fun k bt b ab lL J U=>?_,fun k b ab h=>⟨k,ab,h⟩⟩;obtain⟨n,v,bp,a2⟩:=J;obtain⟨n',v',cm,b8⟩:=U;obtain⟨_,bO⟩:=Iu _ ok k ab;obtain⟨_,cn⟩:=Iu _ ok bt lL;exact c8.good.oinj k bt n n' v v' b (by simp[bO]) (by simp[cn]) bp cm a2 b8
   refine⟨_,jF,_,Pv.fold κ st'.e 0 (a1 bS),ak,bm.fold ak κ st'.e (a1 bS),rfl,dH,?_,?_,?_,bT,?_⟩
   ·show aU w' (bm.fold ak κ st'.e (a1 bS)) _ _;have nK:aU w' bm (a1 bS) (if h:oF.toArray.size=1 then oF.toArray[0]else .tuple oF.toArray):=by
     match bS,oF,g2,MF with
     |[p],[v],g2,_=>simp only[c1]at g2;obtain⟨u,b1,al,aC,_⟩:=g2;cases al;simpa[a1]using aC
     |[],[],g2,_=>simp[a1,aU,c1]
     |p::dF::bS,v::v2::oF,g2,_=>rw[dif_neg Ψ];simp only[a1,aU];exact⟨_,rfl,by simpa using g2⟩
     |[_],[],_,h=>simp at h
     |[],_::_,_,h=>simp at h
     |[_],_::_::_,_,h=>simp at h
     |_::_::_,[],_,h=>simp at h
     |_::_::_,[_],_,h=>simp at h
    refine LH (μ:=bm.fold ak κ st'.e (a1 bS)) c8.good Hh (fun b bu=>?_) (fun b o h=>.inl h) (fun k ab own nc b dX o ar=>.inr ⟨k,ab,own,nc,dX,ar⟩) (a1 bS) _ 0 nK ok nd (fun k ab=>ab) (fun i S hi b dC=>⟨rfl,S,by simpa using hi,dC⟩);obtain⟨k,ab,dX⟩:=bu;obtain⟨_,_,_,_,aY,_⟩:=gG k b ab dX;exact aY
   ·have kB:oN (aK ak) w' bm w' (bm.fold ak κ st'.e (a1 bS)):=by
     refine⟨fun b o h=>⟨.inl h,rfl⟩,fun k b ab h=>by simp only[a8.fold];rw[a8.cut_bx ab];exact h,fun g n u Hi h=>?_,fun _ _ _=>rfl,fun k j b ab h=>?_⟩
     ·obtain⟨cs,dv⟩:=fA.1 (xi g Hi).2;obtain⟨bl,us,el,al,_⟩:=c8.good.box g cs dv;rcases c8.good.one g with J|J
      ·rw[J]at al;cases al
      ·rw[J]at h;cases h
     ·obtain⟨cs,dv⟩:=fA.1 (xi k ab).2;obtain⟨bl,us,el,al,_⟩:=c8.good.box k cs dv;rw[(c8.fr.trn k j b h).1]at al;cases al
    have kf:∀k bl,(bm.fold ak κ st'.e (a1 bS)).bx k=some bl->aK ak k/\bm.bx k=some bl:=fun k bl h=>a8.cut_some h;refine⟨fun bl o bg=>?_,fun k cs ab=>?_,fun k bt bl J U ao aY=>?_,fun g o Hi=>?_,fun g fD n n' v v' bl J=>?_,fun g k n v bl J=>?_,fun k=>.inr rfl,fun bl aM k j hH=>?_⟩
    ·rcases bg with bg|⟨k,ab,own,_,dX,_⟩
     ·exact c8.good.alt bl o bg
     ·obtain⟨_,_,_,ao,_⟩:=gG k bl ab dX;exact ao
    ·obtain⟨f1,f2,f3⟩:=a6 k cs ab;obtain⟨bl,us,el,al,aC,bh,b2,dI⟩:=c8.good.box k cs f1;refine⟨bl,us,el,kB.bx k bl f2 al,aC,fun o bg=>?_,b2,Pf kB f3 dI⟩;rcases bg with bg|⟨bt,lL,own,_,dX,_⟩
     ·exact bh o bg
     ·obtain⟨_,_,_,_,_,bM⟩:=gG bt bl lL dX;exact bM k (by simp[f1]) al
    ·exact c8.good.inj k bt bl (xi k (.inl J)).2 (xi bt (.inl U)).2 (kf k bl ao).2 (kf bt bl aY).2
    ·rw[hs'e]at Hi;simp[ad]at Hi
    ·rw[hs'e]at J;simp[ad]at J
    ·rw[hs'e]at J;simp[ad]at J
    ·rcases aM with⟨bt,bp,a2⟩|⟨g,n,v,bp,_⟩
     ·obtain⟨_,S,dC,dX⟩:=hH;obtain⟨cm,b8⟩:=kf bt bl a2;rcases Fv _ j S dC bl dX with⟨bY,iB,J⟩|⟨⟨bY,i,_,J⟩,_⟩
      ·obtain⟨_,_,_,_,_,bM⟩:=gG bY bl iB J;exact bM bt (xi bt cm).2 b8
      ·exact c8.good.otr bl (.inl ⟨bt,(xi bt cm).2,b8⟩) bY i J
     ·rw[hs'e]at bp;simp[ad]at bp
   ·intro k;refine⟨fun ab=>?_,fun _=>rfl,fun j b h=>⟨κ,rfl,h.1⟩⟩;refine(a8.cut_no fun cK=>?_).1;have:=(xi k cK).1;rw[ab]at this;cases this
   ·have V7:∀j b,(bm.fold ak κ st'.e (a1 bS)).tr (.loc κ) j b->w.heap.size<=b/\b<w'.heap.size:=by
     rintro j b ⟨_,S,dC,dX⟩;rcases Fv _ j S dC b dX with⟨k,ab,J⟩|⟨⟨k,i,fs,J⟩,_⟩
     ·obtain⟨_,_,_,ao,_⟩:=gG k b ab J;exact⟨ze k b ab J,ao⟩
     ·have:=c8.fr.trb k i b J;exact⟨this.1.resolve_left (Yn _ ok _ fs),this.2⟩
    refine⟨c8.fr.os,c8.fr.tape,c8.fr.output,c8.fr.size,c8.fr.block,fun b o h=>⟨.inl (c8.fr.keep b o h).1,(c8.fr.keep b o h).2⟩,fun b o bg=>?_,fun n b h=>?_,fun n b h=>iV n (.inl (by rw[h];simp)),fun m n u h=>?_,fun m n u h=>iV m (.inr (by rw[h];simp)),fun k j bt dg b J U=>?_,fun k j b h=>?_,fun k j b h=>?_,c8.fr.sh⟩
    ·rcases bg with bg|⟨k,ab,own,_,dX,_⟩
     ·exact c8.fr.fresh b o bg
     ·obtain⟨_,_,U,_⟩:=gG k b ab dX;exact .inr U
    ·have ai:aK ak (.obj n):=by
      cases nc:ad (.obj n) s.b with
      |none=>rw[(ae _).1 nc]at h;cases h
      |some x=>exact xG kb _ (by simp[nc])
     simp only[a8.fold];rw[a8.cut_bx ai];exact c8.fr.obj n b h
    ·rw[(ae _).2.1 (by rw[h6];rfl)]at h;cases h
    ·obtain⟨rfl,S,bp,a2⟩:=J;obtain⟨rfl,mN,cm,b8⟩:=U;exact⟨rfl,aaV Hh _ nd rd (fun k ab=>ab) j dg S mN bp cm b a2 b8⟩
    ·obtain⟨rfl,_⟩:=id h;exact⟨.inr (V7 j b h).1,(V7 j b h).2⟩
    ·obtain⟨rfl,_⟩:=h;refine⟨(a8.cut_no fun cK=>?_).1,rfl⟩;rcases cK with cK|cK
     ·rw[bT.1 κ]at cK;cases cK
     ·rw[bT.2 κ]at cK;cases cK
  rcases q2 with rfl|rfl<;>exact ee
def tU.mk{P:cG}(hm:P.follows .mixedOrders=true){aS:List (Nat×eu)}(l:hW P aS=true){f:FuncId}{fn:Func}(m:P.funcs[f]? =some fn){c:C}{b:List bU}{n:Nat}(a:b6 aS c b n fn=true)
  {args:List af} (g:args.length<=n) {s:cQ} (d:hV s) (e:s.e=[]) {κ:Nat} {Q:af->cQ->Prop} (he:eP args->(∀j cs,ad j s.b=some cs->gR cs=true->eQ cs)->dd P (cI s) c (hP b s κ Q) ⟨iX 0 args,s.b,s.e,0,cI s⟩):tU P f κ args s Q:=by
 unfold b6 at a;split at a
 ·rename_i code i;simp only[cP,sv,gu]at a;obtain⟨⟨⟨J,U⟩,h⟩,k⟩:=a;exact tU.of hm l m i h J U (kx g k) d e he
 ·cases a
def fP(P:cG)(f:FuncId)(args:List af)(r:Nat->af):Prop:= ∀κ,tU P f κ args ⟨[],[]⟩ fun a b=>a=r κ/\b=⟨[],[]⟩
def fP.mk{P:cG}(hm:P.follows .mixedOrders=true){aS:List (Nat×eu)}(i:hW P aS=true){f:FuncId}{fn:Func}(j:P.funcs[f]? =some fn){c:C}{a:List bU}{n:Nat}(d:b6 aS c a n fn=true)
  {args:List af} (e:args.length<=n) {r:Nat->af} (he:eP args->∀κ,dd P [] c (hP a ⟨[],[]⟩ κ fun b g=>b=r κ/\g=⟨[],[]⟩) ⟨iX 0 args,[],[],0,[]⟩):fP P f args r:=
 fun κ=>tU.mk hm i j d e sc rfl fun h _=>he h κ
def hP.val{b:List bU}{κ:Nat}{r:af}{e:Exit}{st:bo}(f:e= .ret\/e= .normal)(h:match ba st b with
  |some (c,a)=>c/\(e0 st.e (a1 a)/\(ez st.e (a1 a)).Nodup/\(ec (a1 a)).Nodup)/\fold κ st.e 0 (a1 a)=r
  |none=>et):hP b ⟨[],[]⟩ κ (fun g i=>g=r/\i=⟨[],[]⟩) e st:=by
 refine⟨f,?_⟩;cases d:ba st b with
 |none=>simp[d]at h
 |some x=>obtain⟨c,a⟩:=x;simp only[d]at h⊢;exact⟨h.1,⟨[],[]⟩,rfl,trivial,fun k cs j=>by simp[ad]at j,sc,h.2.1,h.2.2,rfl⟩
def CallDo.own{P:cG}{n:Nat}{args:List af}{st:bo}{d:bc Nat}{K:bo->Prop}{r:Nat->af}(a:aH (fun _=>et) args)(c:fP P n args r)(b: .loc st.n∉st.o)(h:K {st with t:=e3 d (r st.n) st.t,n:=st.n+1}):CallDo P n args st d K:=by
 refine .inr ⟨⟨[],[]⟩,_,fun k cs a=>by simp[ad]at a,fun k cs a=>by simp[ad]at a,sc,jd (fun _ h=>h.elim) _ a,b,c st.n,?_⟩;rintro e f ⟨rfl,rfl⟩;refine⟨⟨fun m h=>by simp[ad]at h,fun m h=>by simp[ad]at h⟩,?_⟩;have:({after st ⟨[],[]⟩ ⟨[],[]⟩ d (r st.n)with n:=st.n+1}:bo)={st with t:=e3 d (r st.n) st.t,n:=st.n+1}:=by simp[after,CI,cI]
 rw[this];exact h
def hn.own{P:cG}{q:Bool}{nw:List Nat}{n:Nat}{args:List af}{st:bo}{cS:Nat}{K:bo->Prop}{r:Nat->af}(b:aH (fun _=>et) args)(c:fP P n args r)(a:o0 st.n cS st)(h:K {st with t:=put cS (r (st.n+cS)) st.t,o:= .loc (st.n+cS)::st.o}):hn P q nw n args st (some cS) K:=.inl ⟨cS,r (st.n+cS),rfl,a,b,c (st.n+cS),h⟩
end
end Go.Pv
namespace Go.Proofs.YtahlgcidhnjlbaaGreat
section
open Go Go.Pv
def _root_.Go.Pv.T.k(t:T)(κ:Nat):af:= .agg [aj t.kind,aj t.int,.str t.name,.slice 4 (.tr (.loc κ) 0) (t.args.map T.e)]
def ami(t:T):fP au 143 [t.e] t.k:=by
 induction t with
 |pair a b d c=>
  refine fP.mk mixed a7 Tryz.func143 Iw Ψ fun e κ=>?_;unfold C3;simp;repeat' first|with_reducible refine hn.own Ψ d (by simp[o0,ad]) ?_|with_reducible refine hn.own Ψ c (by simp[o0,ad]) ?_|simp[T.k]
  all_goals skip
  all_goals(refine hP.val (.inl rfl) ?_;simp[ba,bd,a1,e0,ha,ez,gI,ec,gD,tnL,tn,fl,ga,fold,hq,ho,ad,eo,cf])
 |_=>refine fP.mk mixed a7 Tryz.func143 Iw Ψ fun e κ=>?_;unfold C3;simp;all_goals(refine hP.val (.inl rfl) ?_;simp[ba,bd,a1,e0,ha,ez,gI,ec,gD,tnL,tn,fl,ga,fold,hq,ho,ad,T.k,cf])
end
end Go.Proofs.YtahlgcidhnjlbaaGreat
namespace Go.Pv
section
open Go Go.RowKit
mutual
def bE:af->Nat
 | .slice _ _ []=>0
 | .slice _ _ (x::xs)=>1+(bE x+c6 xs)
 | .agg cs=>c6 cs
 |_=>0
def c6:List af->Nat
 |[]=>0
 |x::xs=>bE x+c6 xs
end
mutual
def dx:Nat->af->af
 |_,.slice sz _ []=>.slice sz .no []
 |b,.slice sz _ (_::xs)=>.row sz (.obj b) (xs.length+1)
 |b,.agg cs=>.agg (fR b cs)
 |_,p=>p
def fR:Nat->List af->List af
 |_,[]=>[]
 |b,x::xs=>dx b x::fR (b+bE x) xs
end
mutual
def dP(ε:Nat->Nat):Nat->af->List (aA×dT)
 |b,.slice sz _ (x::xs)=>(.obj b,⟨xs.length+1,ε b,sz,some (dx (b+1) x::fR (b+1+bE x) xs)⟩)::(dP ε (b+1) x++gJ ε (b+1+bE x) xs)
 |b,.agg cs=>gJ ε b cs
 |_,_=>[]
def gJ(ε:Nat->Nat):Nat->List af->List (aA×dT)
 |_,[]=>[]
 |b,x::xs=>dP ε b x++gJ ε (b+bE x) xs
end
def oX:∀(b:Nat) (xs:List af),(fR b xs).length=xs.length
 |_,[]=>rfl
 |b,x::xs=>by simp[fR,oX _ xs]
mutual
def uT(ε:Nat->Nat):∀(p:af) (b:Nat) (k:aA) (o:dT),ad k (dP ε b p)=some o->∃m,k= .obj m/\b<=m/\m<b+bE p
 | .slice sz t (x::xs),b,k,o,h=>by
  simp only[dP,ad]at h;split at h
  ·rename_i e;exact⟨b,e.symm,dL _,by simp only[bE];omega⟩
  ·rw[nS]at h;simp only[bE];cases J:ad k (dP ε (b+1) x)with
   |some y=>obtain⟨m,e,a,c⟩:=uT ε x _ k y J;exact⟨m,e,Ω,Ω⟩
   |none=>rw[J]at h;obtain⟨m,e,a,c⟩:=BK ε xs _ k o h;exact⟨m,e,Ω,Ω⟩
 | .agg cs,b,k,o,h=>by simp only[dP,bE]at h⊢;exact BK ε cs b k o h
 | .slice _ _ [],_,_,_,h=>by simp[dP,ad]at h
 | .int _ _,_,_,_,h=>by simp[dP,ad]at h
 | .bool _,_,_,_,h=>by simp[dP,ad]at h
 | .str _,_,_,_,h=>by simp[dP,ad]at h
 | .junk,_,_,_,h=>by simp[dP,ad]at h
 | .ptr _ _,_,_,_,h=>by simp[dP,ad]at h
 | .eptr _,_,_,_,h=>by simp[dP,ad]at h
 | .iface _ _,_,_,_,h=>by simp[dP,ad]at h
 | .nilp,_,_,_,h=>by simp[dP,ad]at h
 | .tuple _,_,_,_,h=>by simp[dP,ad]at h
 | .func _ _,_,_,_,h=>by simp[dP,ad]at h
 | .gmap _,_,_,_,h=>by simp[dP,ad]at h
 | .row _ _ _,_,_,_,h=>by simp[dP,ad]at h
 | .rptr _ _ _ _ _,_,_,_,h=>by simp[dP,ad]at h
 | .hdm _ _,_,_,_,h=>by simp[dP,ad]at h
 | .hdi _ _ _,_,_,_,h=>by simp[dP,ad]at h
 | .cst _,_,_,_,h=>by simp[dP,ad]at h
def BK(ε:Nat->Nat):∀(a:List af) (b:Nat) (k:aA) (o:dT),ad k (gJ ε b a)=some o->∃m,k= .obj m/\b<=m/\m<b+c6 a
 |[],_,_,_,h=>by simp[gJ,ad]at h
 |x::xs,b,k,o,h=>by
  simp only[gJ]at h;rw[nS]at h;simp only[c6];cases J:ad k (dP ε b x)with
  |some y=>obtain⟨m,e,c,d⟩:=uT ε x _ k y J;exact⟨m,e,Ω,Ω⟩
  |none=>rw[J]at h;obtain⟨m,e,c,d⟩:=BK ε xs _ k o h;exact⟨m,e,Ω,Ω⟩
end
structure tZ (F:Nat->Prop) (ω:Nat->bc (Nat×Value)) (b c:Nat):Prop where
 dom:∀m,(ω m).isSome=true↔b<=m/\m<c
 blk:∀m n u,ω m=some (n,u)->∃bl,u.ownBlock=some bl/\F bl
 inj:∀m fS n n' u eH bl,ω m=some (n,u)->ω fS=some (n',eH)->u.ownBlock=some bl->eH.ownBlock=some bl->m=fS
def vr(w:World)(ω:Nat->bc (Nat×Value))(e:List (aA×dT)):Prop:= ∀μ:a8,(∀m x,ω m=some x->μ.ow (.obj m)=some x)->
 ∀k o,ad k e=some o->∃u us,μ.ow k=some (o.n,u)/\w.ownsRow 0 o.el o.sz u o.n us/\∃xs,o.xs=some xs/\xs.length=o.n/\dt w μ o.sz xs us
def tZ.nil(F:Nat->Prop)(b:Nat):tZ F (fun _=>none) b b:=⟨fun m=>by simp,fun _ _ _ h=>(by cases h),fun _ _ _ _ _ _ _ h=>by cases h⟩
def wa(c:Nat)(b a:Nat->bc (Nat×Value))(m:Nat):bc (Nat×Value):=if m<c then b m else a m
def WG{c:Nat}{a e:Nat->bc (Nat×Value)}{F:Nat->Prop}{b:Nat}(h:tZ F a b c){m:Nat}{x:Nat×Value}(d:a m=some x):wa c a e m=some x:=by unfold wa;rw[if_pos ((h.dom m).1 (by rw[d];rfl)).2];exact d
def WH{c d:Nat}{e a:Nat->bc (Nat×Value)}{F:Nat->Prop}(h:tZ F a c d){m:Nat}{x:Nat×Value}(b:a m=some x):wa c e a m=some x:=by unfold wa;rw[if_neg (by have:=((h.dom m).1 (by rw[b];rfl)).1;omega)];exact b
def tZ.join{F o l:Nat->Prop}{r q:Nat->bc (Nat×Value)}{b c d:Nat}(J:tZ o r b c)(U:tZ l q c d)(v:b<=c)(t:c<=d)(f1:∀x,o x->F x)(f2:∀x,l x->F x)(s:∀x,o x->¬l x):tZ F (wa c r q) b d:=by
 refine⟨fun m=>?_,fun m n u hm=>?_,fun m h n n' u i bl hm f k j=>?_⟩
 ·unfold wa;split
  ·rw[J.dom];omega
  ·rw[U.dom];omega
 ·unfold wa at hm;split at hm
  ·obtain⟨bl,a,e⟩:=J.blk m n u hm;exact⟨bl,a,f1 _ e⟩
  ·obtain⟨bl,a,e⟩:=U.blk m n u hm;exact⟨bl,a,f2 _ e⟩
 ·unfold wa at hm f;split at hm<;>split at f
  ·exact J.inj m h n n' u i bl hm f k j
  ·obtain⟨_,a,e⟩:=J.blk m n u hm;obtain⟨_,g,p⟩:=U.blk h n' i f;rw[k]at a;rw[j]at g;cases a;cases g;exact absurd p (s _ e)
  ·obtain⟨_,a,e⟩:=U.blk m n u hm;obtain⟨_,g,p⟩:=J.blk h n' i f;rw[k]at a;rw[j]at g;cases a;cases g;exact absurd e (s _ p)
  ·exact U.inj m h n n' u i bl hm f k j
def vr.app{w:World}{ω:Nat->bc (Nat×Value)}{e c:List (aA×dT)}(h:vr w ω e)(d:vr w ω c):vr w ω (e++c):=fun μ b k o a=>by
 rw[nS]at a;cases J:ad k e with
 |some y=>rw[J]at a;cases a;exact h μ b k _ J
 |none=>rw[J]at a;exact d μ b k o a
def vr.sub{w:World}{ω a:Nat->bc (Nat×Value)}{e:List (aA×dT)}(h:vr w ω e)(c:∀m x,ω m=some x->a m=some x):vr w a e:=fun μ b=>h μ fun m x d=>b m x (c m x d)
def UH{t:Bool}{w:World}{A:Nat->Nat->Prop}{sz:Nat}:∀{xs:List af} {F:Nat->Prop} {us:List Value},jU t w A F sz xs us->us.length=xs.length*sz
 |[],_,us,h=>by simp only[jU]at h;subst h;simp
 |x::xs,F,us,h=>by
  simp only[jU]at h;obtain⟨u,d,c,b,rfl,_,⟨_,U,_⟩,a⟩:=h;have:u.cells.toList.length=sz:=by simpa using U
  rw[p6,this,UH a,mI,Nat.succ_mul];omega
def pC(w:World)(F:Nat->Prop)(b c:Nat)(e:(Nat->Nat)->List (aA×dT))(R:a8->Prop):Prop:=∃(ε:Nat->Nat) (ω:Nat->bc (Nat×Value)),tZ F ω b c/\vr w ω (e ε)/\∀μ:a8,(∀m x,ω m=some x->μ.ow (.obj m)=some x)->R μ
def pC.flat{w:World}{F:Nat->Prop}{b:Nat}{R:a8->Prop}(h:∀μ,R μ):pC w F b b (fun _=>[]) R:=⟨fun _=>0,fun _=>none,tZ.nil F b,fun _ _ k o a=>by simp[ad]at a,fun μ _=>h μ⟩
mutual
def Jh{ε ε':Nat->Nat}:∀(p:af) (b:Nat),(∀m,b<=m->m<b+bE p->ε m=ε' m)->dP ε b p=dP ε' b p
 | .slice sz t (x::xs),b,h=>by simp only[bE]at h;simp only[dP];rw[h b Ω Ω,Jh x (b+1) fun m J U=>h m Ω Ω,Ff xs (b+1+bE x) fun m J U=>h m Ω Ω]
 | .agg cs,b,h=>by simp only[dP,bE]at h⊢;exact Ff cs b h
 | .slice _ _ [],_,_=>rfl
 | .int _ _,_,_=>rfl
 | .bool _,_,_=>rfl
 | .str _,_,_=>rfl
 | .junk,_,_=>rfl
 | .ptr _ _,_,_=>rfl
 | .eptr _,_,_=>rfl
 | .iface _ _,_,_=>rfl
 | .nilp,_,_=>rfl
 | .tuple _,_,_=>rfl
 | .func _ _,_,_=>rfl
 | .gmap _,_,_=>rfl
 | .row _ _ _,_,_=>rfl
 | .rptr _ _ _ _ _,_,_=>rfl
 | .hdm _ _,_,_=>rfl
 | .hdi _ _ _,_,_=>rfl
 | .cst _,_,_=>rfl
def Ff{ε ε':Nat->Nat}:∀(a:List af) (b:Nat),(∀m,b<=m->m<b+c6 a->ε m=ε' m)->gJ ε b a=gJ ε' b a
 |[],_,_=>rfl
 |x::xs,b,h=>by simp only[c6]at h;simp only[gJ];rw[Jh x b fun m J U=>h m Ω Ω,Ff xs (b+bE x) fun m J U=>h m Ω Ω]
end
def pC.two{w:World}{F d c:Nat->Prop}{x:af}{xs:List af}{b:Nat}{i h R:a8->Prop}(J:pC w d b (b+bE x) (fun ε=>dP ε b x) i)(U:pC w c (b+bE x) (b+bE x+c6 xs) (fun ε=>gJ ε (b+bE x) xs) h)
  (f1:∀b,d b->F b) (f2:∀b,c b->F b) (o:∀b,d b->¬c b) (bu:∀μ,i μ->h μ->R μ):pC w F b (b+(bE x+c6 xs)) (fun ε=>dP ε b x++gJ ε (b+bE x) xs) R:=by
 obtain⟨ε1,k,e,a2,a3⟩:=J;obtain⟨ε2,j,f,n,l⟩:=U;refine⟨fun m=>if m<b+bE x then ε1 m else ε2 m,wa (b+bE x) k j,by rw[<-Nat.add_assoc];exact e.join f Ω Ω f1 f2 o,?_,fun μ g=>bu μ (a3 μ fun m y a=>g m y (WG e a)) (l μ fun m y a=>g m y (WH f a))⟩;refine vr.app ?_ ?_
 ·rw[Jh (ε':=ε1) x b fun m J U=>by rw[if_pos U]];exact a2.sub fun m y a=>WG e a
 ·rw[Ff (ε':=ε2) xs (b+bE x) fun m J U=>by rw[if_neg Ω]];exact n.sub fun m y a=>WH f a
mutual
def P0{w:World}{A:Nat->Nat->Prop}:∀(p:af) (F:Nat->Prop) (v:Value) (b:Nat),cX true w A F p v->pC w F b (b+bE p) (fun ε=>dP ε b p) fun μ=>aU w μ (dx b p) v
 | .int k n,F,v,b,h=>pC.flat fun μ=>by simpa only[cX,dx,aU]using h
 | .bool _,F,v,b,h=>pC.flat fun μ=>by simpa only[cX,dx,aU]using h
 | .str s,F,v,b,h=>pC.flat fun μ=>by simpa only[cX,dx,aU]using h
 | .slice sz tag [],F,v,b,h=>pC.flat fun μ=>by simp only[cX]at h;obtain⟨a,cap,J,U,z,_⟩:=h;simp only[dx,aU];exact⟨⟨a,cap,J,U,z,.inl trivial⟩,fun e=>(by cases e),fun _ e=>(by cases e),fun _ _ e=>(by cases e),fun _ e=>(by cases e)⟩
 | .agg cs,F,v,b,h=>by simp only[cX]at h;obtain⟨us,rfl,U⟩:=h;obtain⟨ε,ω,d,a2,a3⟩:=abo cs F us.toList b U;exact⟨ε,ω,d,a2,fun μ j=>by simp only[dx,aU];exact⟨us,rfl,a3 μ j⟩⟩
 | .slice sz tag (x::xs),F,v,b,h=>by
  simp only[cX]at h;obtain⟨a,cap,J,U,z,H⟩:=h;rcases H with H|⟨g,off,us,G,rfl,Y,P,X,W,O⟩
  ·cases H
  obtain⟨rfl,gh,el,l⟩:=W trivial;obtain⟨ε,ω,d,a2,a3⟩:=abn sz (x::xs) G us (b+1) O;have hlen:=UH O;have R:¬G g:=fun be=>(P g be).2 trivial rfl;have S:∃cur,w.heap[g]? =some (.cells cur el (0,0))/\cur.size=cap*sz:=by
   unfold shape at l;split at l
   ·rename_i cur gF fz aw;simp only[dS,jj]at l;obtain⟨c,rfl,rfl⟩:=l;exact⟨cur,aw,c⟩
   ·cases l
  obtain⟨cur,aw,N⟩:=S;have hle:(x::xs).length*sz<=cur.size:=by rw[N];exact rG _ U
  have Z:cur.toList.take ((x::xs).length*sz)=us:=by
   apply List.ext_getElem?;intro i;rw[List.getElem?_take];by_cases hi:i<(x::xs).length*sz
   ·rw[if_pos hi];obtain⟨u,hu⟩:∃u,us[i]? =some u:=⟨_,cl (by rw[hlen];exact hi)⟩;have K:=(uO X hu).2;simp only[World.cell?,Nat.zero_add,aw,mL,hN,if_false]at K;rw[hu];simpa using K
   ·rw[if_neg hi,qQ (by rw[hlen];omega)]
  have E:∀m y,ω m=some y->m≠b:=fun m y hm e=>by have:=(d.dom m).1 (by rw[hm];rfl);omega
  refine⟨fun m=>if m=b then el else ε m,fun m=>if m=b then some ((x::xs).length,v)else ω m,?_,?_,?_⟩
  ·refine⟨fun m=>?_,fun m n u hm=>?_,fun m L n n' u M bl hm r B t=>?_⟩
   ·simp only[bE];by_cases e:m=b
    ·subst e;simp;omega
    ·rw[if_neg e,d.dom];simp only[c6];omega
   ·split at hm
    ·cases hm;exact⟨g,by rw[J];rfl,Y⟩
    ·obtain⟨bl,c,f⟩:=d.blk m n u hm;exact⟨bl,c,(P bl f).1⟩
   ·split at hm<;>split at r
    ·rename_i c f;rw[c,f]
    ·cases hm;obtain⟨_,c,f⟩:=d.blk L n' M r;rw[t]at c;cases c;rw[J]at B;cases B;exact absurd f R
    ·cases r;obtain⟨_,c,f⟩:=d.blk m n u hm;rw[B]at c;cases c;rw[J]at t;cases t;exact absurd f R
    ·exact d.inj m L n n' u M bl hm r B t
  ·intro μ j k o q;have Q:∀m y,ω m=some y->μ.ow (.obj m)=some y:=fun m y hm=>j m y ((if_neg (E m y hm)).trans hm);simp only[dP,ad]at q;split at q
   ·rename_i Dc;subst Dc;cases q;refine⟨v,us,?_,⟨by rw[hlen];rfl,.inr ⟨g,cap,cur,J,Nat.zero_le _,by simpa using aw,U,z.1,N,Z⟩⟩,_,rfl,by simp[oX],?_⟩
    ·exact j b _ Ψ
    ·exact(a3 μ Q)
   ·have V:(dP (fun m=>if m=b then el else ε m) (b+1) x++gJ (fun m=>if m=b then el else ε m) (b+1+bE x) xs)=gJ ε (b+1) (x::xs):=by simp only[gJ];rw[Jh (ε':=ε) x (b+1) fun m J _=>by rw[if_neg Ω],Ff (ε':=ε) xs (b+1+bE x) fun m J _=>by rw[if_neg Ω]]
    rw[V]at q;exact a2 μ Q k o q
  ·intro μ j;simp only[dx,aU];exact⟨⟨g,cap,J⟩,z.2,(x::xs).length,v,j b _ Ψ,dL _,fun _=>rfl⟩
 | .junk,_,_,_,h=>by simp[cX]at h
 | .ptr _ _,_,_,_,h=>by simp[cX]at h
 | .eptr _,_,_,_,h=>by simp[cX]at h
 | .iface _ _,_,_,_,h=>by simp[cX]at h
 | .nilp,_,_,_,h=>by simp[cX]at h
 | .tuple _,_,_,_,h=>by simp[cX]at h
 | .func _ _,_,_,_,h=>by simp[cX]at h
 | .gmap _,_,_,_,h=>by simp[cX]at h
 | .row _ _ _,_,_,_,h=>by simp[cX]at h
 | .rptr _ _ _ _ _,_,_,_,h=>by simp[cX]at h
 | .hdm _ _,_,_,_,h=>by simp[cX]at h
 | .hdi _ _ _,_,_,_,h=>by simp[cX]at h
 | .cst _,_,_,_,h=>by simp[cX]at h
def abo{w:World}{A:Nat->Nat->Prop}:∀(cs:List af) (F:Nat->Prop) (us:List Value) (b:Nat),ky true w A F cs us->pC w F b (b+c6 cs) (fun ε=>gJ ε b cs) fun μ=>cU w μ (fR b cs) us
 |[],F,us,b,h=>pC.flat fun μ=>by simpa only[ky,fR,cU]using h
 |c::cs,F,us,b,h=>by simp only[ky]at h;obtain⟨u,a,e,d,rfl,⟨f1,f2,f3⟩,⟨g1,g2⟩,g3⟩:=h;simp only[c6,gJ,fR];exact(P0 c e u b g1).two (abo cs d a (b+bE c) g3) f1 f2 (f3 trivial) fun μ g f=>by simp only[cU];exact⟨u,a,rfl,⟨g,g2⟩,f⟩
def abn{w:World}{A:Nat->Nat->Prop}(sz:Nat):∀(cs:List af) (F:Nat->Prop) (us:List Value) (b:Nat),jU true w A F sz cs us->pC w F b (b+c6 cs) (fun ε=>gJ ε b cs) fun μ=>dt w μ sz (fR b cs) us
 |[],F,us,b,h=>pC.flat fun μ=>by simpa only[jU,fR,dt]using h
 |c::cs,F,us,b,h=>by simp only[jU]at h;obtain⟨u,a,e,d,rfl,⟨f1,f2,f3⟩,⟨g1,g2,g4⟩,g3⟩:=h;simp only[c6,gJ,fR];exact(P0 c e u b g1).two (abn sz cs d a (b+bE c) g3) f1 f2 (f3 trivial) fun μ g f=>by simp only[dt];exact⟨u,a,rfl,⟨g,g2,g4⟩,f⟩
end
mutual
def cN:af->Prop
 | .int _ _=>True
 | .bool _=>True
 | .str _=>True
 | .slice sz _ xs=>0<sz/\dZ xs
 | .agg cs=>dZ cs
 |_=>et
def dZ:List af->Prop
 |[]=>True
 |x::xs=>cN x/\dZ xs
end
def wZ{α:Type}(f:α->af):∀l:List α,dZ (l.map f)↔∀x∈l,cN (f x)
 |[]=>by simp[dZ]
 |x::l=>by simp[dZ,wZ f l]
mutual
def Le{w:World}{ν:a8}{F:Nat->Prop}(f:∀b o,ν.A b o->F b):∀(p:af) (v:Value),aU w ν p v->cN p->cX false w ν.A F (b5 p) v
 | .int k n,v,h,_=>by simpa only[aU,b5,cX]using h
 | .bool b,v,h,_=>by simpa only[aU,b5,cX]using h
 | .str s,v,h,_=>by simpa only[aU,b5,cX]using h
 | .slice sz tag xs,v,h,d=>by
  simp only[aU]at h;simp only[cN]at d;obtain⟨⟨a,cap,J,U,m,t⟩,_⟩:=h;simp only[b5,cX,nt];refine⟨a,cap,J,U,m,?_⟩;rcases t with rfl|⟨b,off,us,q,j,g⟩
  ·exact .inl rfl
  ·cases xs with
   |nil=>exact .inl rfl
   |cons x xs=>
    have l:=rr g;have r:F b:=by
     cases us with
     |nil=>have i:0<(x::xs).length*sz:=Nat.mul_pos Ψ d.1;rw[<-l]at i;simp at i
     |cons u us=>exact f b _ j.1.1
    exact .inr ⟨b,off,us,F,q,r,fun c aw=>⟨aw,fun e=>(by cases e)⟩,j,fun e=>(by cases e),TL f sz _ us g d.2⟩
 | .agg cs,v,h,d=>by simp only[aU,cN,b5,cX]at h d⊢;obtain⟨us,J,U⟩:=h;exact⟨us,J,TM f cs _ U d⟩
 | .junk,_,_,d=>by simp[cN]at d
 | .ptr _ _,_,_,d=>by simp[cN]at d
 | .eptr _,_,_,d=>by simp[cN]at d
 | .iface _ _,_,_,d=>by simp[cN]at d
 | .nilp,_,_,d=>by simp[cN]at d
 | .tuple _,_,_,d=>by simp[cN]at d
 | .func _ _,_,_,d=>by simp[cN]at d
 | .gmap _,_,_,d=>by simp[cN]at d
 | .row _ _ _,_,_,d=>by simp[cN]at d
 | .rptr _ _ _ _ _,_,_,d=>by simp[cN]at d
 | .hdm _ _,_,_,d=>by simp[cN]at d
 | .hdi _ _ _,_,_,d=>by simp[cN]at d
 | .cst _,_,_,d=>by simp[cN]at d
def TM{w:World}{ν:a8}{F:Nat->Prop}(d:∀b o,ν.A b o->F b):∀(cs:List af) (us:List Value),cU w ν cs us->dZ cs->ky false w ν.A F (cf cs) us
 |[],us,h,_=>by simpa only[cU,cf,ky]using h
 |c::cs,us,h,a=>by simp only[cU,dZ,cf,ky]at h a⊢;obtain⟨u,f,J,⟨U,g⟩,i⟩:=h;exact⟨u,f,F,F,J,⟨fun _ h=>h,fun _ h=>h,fun e=>(by cases e)⟩,⟨Le d c u U a.1,g⟩,TM d cs f i a.2⟩
def TL{w:World}{ν:a8}{F:Nat->Prop}(d:∀b o,ν.A b o->F b)(sz:Nat):∀(cs:List af) (us:List Value),dt w ν sz cs us->dZ cs->jU false w ν.A F sz (cf cs) us
 |[],us,h,_=>by simpa only[dt,cf,jU]using h
 |c::cs,us,h,a=>by simp only[dt,dZ,cf,jU]at h a⊢;obtain⟨u,f,J,⟨U,g⟩,i⟩:=h;exact⟨u,f,F,F,J,⟨fun _ h=>h,fun _ h=>h,fun e=>(by cases e)⟩,⟨Le d c u U a.1,g⟩,TL d sz cs f i a.2⟩
end
def Xx{w:World}{μ:a8}{k:aA}{sz:Nat}{tag:jS}{ys:List af}{v:Value}(h:cX false w μ.A (μ.tr k 0) (.slice sz tag ys) v)(a:cf ys=ys):aU w μ (.slice sz (.lo k) ys) v:=by have J:=GZ (ν:=μ) (fun _ _ h=>h) _ _ _ h;simp only[b5,a]at J;simp only[aU]at J⊢;refine⟨J.1,fun e=>(by cases e),fun _ e=>(by cases e),fun _ _ e=>(by cases e),fun bt e=>?_⟩;cases e;simp only[cX]at h⊢;exact h
mutual
def lu:af->af
 | .int k n=>.int k n
 | .bool b=>.bool b
 | .str s=>.str s
 | .slice sz _ xs=>.slice sz (.lo eo) (cf xs)
 | .agg cs=>.agg (x8 cs)
 | .ptr k o=>.ptr k o
 | .nilp=>.nilp
 |_=>.junk
def x8:List af->List af
 |[]=>[]
 |x::xs=>lu x::x8 xs
end
mutual
def x9:af->Prop
 | .slice sz _ xs=>0<sz/\dZ xs
 | .agg cs=>zW cs
 |_=>True
def zW:List af->Prop
 |[]=>True
 |x::xs=>x9 x/\zW xs
end
def Cp(ν:a8):a8:={ν with tr:=fun k j b=>k=eo/\j=0/\∃o,ν.A b o}
mutual
def aaI{w:World}{ν:a8}:∀(p:af) (v:Value),aU w ν p v->x9 p->aU w (Cp ν) (lu p) v
 | .int k n,v,h,_=>by simpa only[aU,lu]using h
 | .bool b,v,h,_=>by simpa only[aU,lu]using h
 | .str s,v,h,_=>by simpa only[aU,lu]using h
 | .slice sz tag xs,v,h,a=>by have J:=Le (F:=fun b=> ∃o,ν.A b o) (fun b o h=>⟨o,h⟩) _ v h (by simpa only[cN,x9]using a);simp only[lu];refine Xx (μ:=Cp ν) (tag:= .no) ?_ (u6 xs);simp only[b5]at J;exact vJ (fun _ _ h=>⟨h,rfl⟩) (fun _ _ _=>rfl) _ _ _ v (fun b c=>⟨rfl,rfl,c⟩) J
 | .agg cs,v,h,a=>by simp only[aU,lu,x9]at h a⊢;obtain⟨us,J,U⟩:=h;exact⟨us,J,Py cs _ U a⟩
 | .ptr k o,v,h,_=>by simp only[aU,lu]at h⊢;exact h
 | .nilp,v,h,_=>by simp only[aU,lu]at h⊢;exact h
 | .junk,_,_,_=>by simp[lu,aU]
 | .eptr _,_,_,_=>by simp[lu,aU]
 | .iface _ _,_,_,_=>by simp[lu,aU]
 | .tuple _,_,_,_=>by simp[lu,aU]
 | .func _ _,_,_,_=>by simp[lu,aU]
 | .gmap _,_,_,_=>by simp[lu,aU]
 | .row _ _ _,_,_,_=>by simp[lu,aU]
 | .rptr _ _ _ _ _,_,_,_=>by simp[lu,aU]
 | .hdm _ _,_,_,_=>by simp[lu,aU]
 | .hdi _ _ _,_,_,_=>by simp[lu,aU]
 | .cst _,_,_,_=>by simp[lu,aU]
def Py{w:World}{ν:a8}:∀(cs:List af) (us:List Value),cU w ν cs us->zW cs->cU w (Cp ν) (x8 cs) us
 |[],us,h,_=>by simpa only[cU,x8]using h
 |c::cs,us,h,a=>by simp only[cU,x8,zW]at h a⊢;obtain⟨u,b,J,⟨U,d⟩,e⟩:=h;exact⟨u,b,J,⟨aaI c u U a.1,d⟩,Py cs b e a.2⟩
end
def Jn(l:List (Nat×af)):List (Nat×af):=l.map fun x=>(x.1,lu x.2)
def Fj(l:List (aA×List af)):List (aA×List af):=l.map fun x=>(x.1,x8 x.2)
def wG(st:bo):bo:=⟨Jn st.t,Fj st.b,[],st.n,eo::st.o⟩
def Jm:List (Nat×af)->Prop
 |[]=>True
 |(_,p)::r=>x9 p/\Jm r
def Jl:List (aA×List af)->Prop
 |[]=>True
 |(_,cs)::r=>(gR cs=true/\zW cs)/\Jl r
def Jk(st:bo):Prop:=eo∉st.o/\Jm st.t/\Jl st.b
def LS{f:af->af}(a:f .junk= .junk)(i:Nat):∀l:List (Nat×af),get i (l.map fun x=>(x.1,f x.2))=f (get i l)
 |[]=>by simp[get,a]
 |(j,p)::r=>by
  simp only[hc,get];split
  ·rfl
  ·exact LS a i r
def H8{f:List af->List af}(k:aA):∀l:List (aA×List af),ad k (l.map fun x=>(x.1,f x.2))=(ad k l).map f
 |[]=>rfl
 |(j,p)::r=>by
  simp only[hc,ad];split
  ·rfl
  ·exact H8 k r
def aaH:∀{l:List (Nat×af)} (i:Nat),Jm l->x9 (get i l)
 |[],_,_=>by simp[get,x9]
 |(j,p)::r,i,h=>by
  simp only[get];split
  ·exact h.1
  ·exact aaH i h.2
def aaG:∀{l:List (aA×List af)} {k:aA} {cs:List af},Jl l->ad k l=some cs->gR cs=true/\zW cs
 |[],_,_,_,h=>by simp[ad]at h
 |(j,p)::r,k,cs,h,a=>by
  simp only[ad]at a;split at a
  ·cases a;exact h.1
  ·exact aaG h.2 a
def apQ{C:fh}{st:bo}{a:Act}{w:World}{ν:a8}(h:c5 C st a w ν)(aw:Jk st):c5 C (wG st) a w (Cp ν):=by
 obtain⟨G,F,B⟩:=aw;obtain⟨z,y,_⟩:=h.new eo ⟨trivial,G⟩;have p:∀k cs,ad k (Fj st.b)=some cs->∃d,ad k st.b=some d/\cs=x8 d:=fun k cs c=>by
  rw[Fj,H8]at c;cases t:ad k st.b with
  |none=>rw[t]at c;cases c
  |some d=>rw[t]at c;cases c;exact⟨d,rfl,rfl⟩
 have m:∀k,(ad k (Fj st.b)).isSome->(ad k st.b).isSome:=fun k c=>by obtain⟨cs,A⟩:=fA.1 c;obtain⟨d,e,_⟩:=p k cs A;simp[e]
 refine⟨⟨h.good.alt,fun k cs c=>?_,fun k bt bl J U=>h.good.inj k bt bl (m k J) (m bt U),fun g o be=>by simp[wG,ad]at be,fun g N n n' v v' bl be=>by simp[wG,ad]at be,fun g k n v bl be=>by simp[wG,ad]at be,h.good.one,fun bl K k j f=>?_⟩,
  ⟨h.fr.os,h.fr.tape,h.fr.output,h.fr.size,h.fr.block,h.fr.keep,h.fr.fresh,h.fr.obj,h.fr.obn,h.fr.row,h.fr.obr,fun k j bt dg b J U=>⟨J.1.trans U.1.symm,J.2.1.trans U.2.1.symm⟩,fun k j b f=>⟨.inl f.1,?_⟩,fun k j b f=>by rw[f.1];exact⟨z,y⟩,h.fr.sh⟩,h.defers,h.size,fun i=>?_,fun k c=>?_⟩
 ·obtain⟨d,l,rfl⟩:=p k cs c;obtain⟨bl,us,el,g1,g2,g3,g4,g5⟩:=h.good.box k d l;obtain⟨r,E⟩:=aaG B l;rw[pa r]at g5;rw[o9 r]at g4;have g6:=Py d _ g5 E;have q:=wB g6;exact⟨bl,us,el,g1,g2,g3,by rw[o9 q];exact g4,by rw[pa q];exact g6⟩
 ·obtain⟨_,_,o,ar⟩:=f;rcases K with⟨bt,l,u⟩|⟨g,n,v,l,_⟩
  ·obtain⟨d,x⟩:=fA.1 (m bt l);obtain⟨M,us,el,g1,g2,g3,_⟩:=h.good.box bt d x;rw[show(Cp ν).bx bt=ν.bx bt from rfl,g1]at u;cases u;exact g3 o ar
  ·simp[wG,ad]at l
 ·obtain⟨_,_,o,ar⟩:=f;exact h.good.alt b o ar
 ·show aU w (Cp ν) (get i (Jn st.t)) _;rw[Jn,LS (by simp[lu])];exact aaI _ _ (h.slot i) (aaH i F)
 ·obtain⟨L,H⟩:=c;have s:k≠eo/\k∉st.o:=by simpa[wG]using H
  obtain⟨m1,m2,_⟩:=h.new k ⟨L,s.2⟩;exact⟨m1,m2,fun j b f=>s.1 f.1⟩
end
section
open Go Go.RowKit
def Xm{w:World}{A a:Nat->Nat->Prop}{b:Nat}(c:∀o,A b o->a b o):∀(us:List Value) (off:Nat),kR w A b off us->kR w a b off us
 |[],_,_=>trivial
 |_::us,off,h=>⟨⟨c _ h.1.1,h.1.2⟩,Xm c us (off+1) h.2⟩
mutual
def GY{t:Bool}{w:World}{A f:Nat->Nat->Prop}:∀(p:af) (F:Nat->Prop) (v:Value),(∀b o,F b->A b o->f b o)->cX t w A F p v->cX t w f F p v
 | .int k n,_,_,_,h=>by simp only[cX]at h⊢;exact h
 | .bool b,_,_,_,h=>by simp only[cX]at h⊢;exact h
 | .str s,_,_,_,h=>by simp only[cX]at h⊢;exact h
 | .slice sz tag xs,F,v,d,h=>by
  simp only[cX]at h⊢;obtain⟨a,cap,J,U,q,e⟩:=h;refine⟨a,cap,J,U,q,?_⟩;rcases e with e|⟨b,off,us,G,r,i,g,m,l,j⟩
  ·exact .inl e
  ·exact .inr ⟨b,off,us,G,r,i,g,Xm (fun o=>d b o i) _ _ m,l,UL sz xs G us (fun c o aw=>d c o (g c aw).1) j⟩
 | .agg cs,F,v,d,h=>by simp only[cX]at h⊢;obtain⟨us,J,U⟩:=h;exact⟨us,J,UM cs F _ d U⟩
 | .junk,_,_,_,h=>by simp[cX]at h
 | .ptr _ _,_,_,_,h=>by simp[cX]at h
 | .eptr _,_,_,_,h=>by simp[cX]at h
 | .iface _ _,_,_,_,h=>by simp[cX]at h
 | .nilp,_,_,_,h=>by simp[cX]at h
 | .tuple _,_,_,_,h=>by simp[cX]at h
 | .func _ _,_,_,_,h=>by simp[cX]at h
 | .gmap _,_,_,_,h=>by simp[cX]at h
 | .row _ _ _,_,_,_,h=>by simp[cX]at h
 | .rptr _ _ _ _ _,_,_,_,h=>by simp[cX]at h
 | .hdm _ _,_,_,_,h=>by simp[cX]at h
 | .hdi _ _ _,_,_,_,h=>by simp[cX]at h
 | .cst _,_,_,_,h=>by simp[cX]at h
def UM{t:Bool}{w:World}{A f:Nat->Nat->Prop}:∀(cs:List af) (F:Nat->Prop) (us:List Value),(∀b o,F b->A b o->f b o)->ky t w A F cs us->ky t w f F cs us
 |[],_,_,_,h=>by simp only[ky]at h⊢;exact h
 |c::cs,F,us,g,h=>by simp only[ky]at h⊢;obtain⟨u,i,e,d,J,⟨U,j,n⟩,⟨m,k⟩,l⟩:=h;exact⟨u,i,e,d,J,⟨U,j,n⟩,⟨GY c e u (fun b o a=>g b o (U b a)) m,k⟩,UM cs d i (fun b o a=>g b o (j b a)) l⟩
def UL{t:Bool}{w:World}{A f:Nat->Nat->Prop}(sz:Nat):∀(cs:List af) (F:Nat->Prop) (us:List Value),(∀b o,F b->A b o->f b o)->jU t w A F sz cs us->jU t w f F sz cs us
 |[],_,_,_,h=>by simp only[jU]at h⊢;exact h
 |c::cs,F,us,g,h=>by simp only[jU]at h⊢;obtain⟨u,i,e,d,J,⟨U,j,n⟩,⟨m,k⟩,l⟩:=h;exact⟨u,i,e,d,J,⟨U,j,n⟩,⟨GY c e u (fun b o a=>g b o (U b a)) m,k⟩,UL sz cs d i (fun b o a=>g b o (j b a)) l⟩
end
mutual
def jT(N:List (aA×Nat)):af->af
 | .int k n=>.int k n
 | .bool b=>.bool b
 | .str s=>.str s
 | .slice sz tag xs=>match tag with
  | .tr k j=>if(k,j)∈N then .junk else .slice sz (.tr k j) (cf xs)
  | .lo k=>if(k,0)∈N then .junk else .slice sz (.lo k) (cf xs)
  | .nil=>.slice sz .nil []
  |_=>match xs with
   |[]=>.slice sz .no []
   |_=>.junk
 | .agg cs=>.agg (oQ N cs)
 | .tuple cs=>.tuple (oQ N cs)
 | .ptr k o=>.ptr k o
 | .nilp=>.nilp
 |_=>.junk
def oQ(N:List (aA×Nat)):List af->List af
 |[]=>[]
 |x::xs=>jT N x::oQ N xs
end
def lS(ν:a8)(N:List (aA×Nat))(ω:Nat->bc (Nat×Value)):a8:={A:=fun b o=>ν.A b o/\¬lq ν N b,bx:=ν.bx,ow:=fun k=>match k with| .obj m=>(match ω m with|some x=>some x|none=>ν.ow k)|k=>ν.ow k,tr:=fun k j b=>ν.tr k j b/\(k,j)∉N}
section
variable {w:World} {ν:a8} {N:List (aA×Nat)} {ω:Nat->bc (Nat×Value)} (hH:∀k j bt dg b,ν.tr k j b->ν.tr bt dg b->k=bt/\j=dg)
include hH
theorem abm{k:aA}{j:Nat}(d:(k,j)∉N){b o:Nat}(c:ν.tr k j b)(a:ν.A b o):(lS ν N ω).A b o:=by refine⟨a,?_⟩;rintro⟨bt,dg,J,U⟩;obtain⟨rfl,rfl⟩:=hH k j bt dg b c U;exact d J
mutual
theorem Kk:∀(p:af) (v:Value),aU w ν p v->aU w (lS ν N ω) (jT N p) v
 | .int k n,v,h=>by simpa only[aU,jT]using h
 | .bool b,v,h=>by simpa only[aU,jT]using h
 | .str s,v,h=>by simpa only[aU,jT]using h
 | .slice sz tag xs,v,h=>by
  simp only[aU]at h;obtain⟨⟨a,cap,J,U,r,t⟩,q,_,m,l⟩:=h;have i:xs=[]->aU w (lS ν N ω) (.slice sz .no []) v:=fun e=>by subst e;simp only[aU];exact⟨⟨a,cap,J,U,r,.inl trivial⟩,fun e=>(by cases e),fun _ e=>(by cases e),fun _ _ e=>(by cases e),fun _ e=>(by cases e)⟩
  simp only[jT];cases tag with
  |tr k j=>
   simp only;split
   ·simp[aU]
   ·rename_i d;refine P2 (tag:= .no) ?_ (u6 xs);refine vJ (A:=(lS ν N ω).A) (fun _ _ h=>⟨h,rfl⟩) (fun _ _ _=>rfl) _ (ν.tr k j) _ v (fun b c=>⟨c,d⟩) ?_;exact GY _ _ v (fun b o c f=>abm hH d c f) (Dt .no v (m k j rfl))
  |lo k=>
   simp only;split
   ·simp[aU]
   ·rename_i d;refine Xx (tag:= .no) ?_ (u6 xs);refine vJ (A:=(lS ν N ω).A) (fun _ _ h=>⟨h,rfl⟩) (fun _ _ _=>rfl) _ (ν.tr k 0) _ v (fun b c=>⟨c,d⟩) ?_;exact GY _ _ v (fun b o c f=>abm hH d c f) (Dt .no v (l k rfl))
  |nil=>have e:=q rfl;subst e;simp only[aU];exact⟨⟨none,0,rfl,Ψ,Ψ,Ψ⟩,Ψ,fun _ e=>(by cases e),fun _ _ e=>(by cases e),fun _ e=>(by cases e)⟩
  |no=>
   simp only;split
   ·exact i rfl
   ·simp[aU]
  |own g=>
   simp only;split
   ·exact i rfl
   ·simp[aU]
 | .agg cs,v,h=>by simp only[aU,jT]at h⊢;obtain⟨us,J,U⟩:=h;exact⟨us,J,Kl cs _ U⟩
 | .tuple cs,v,h=>by simp only[aU,jT]at h⊢;obtain⟨us,J,U⟩:=h;exact⟨us,J,QY cs _ U⟩
 | .ptr k o,v,h=>by simp only[aU,jT]at h⊢;exact h
 | .nilp,v,h=>by simp only[aU,jT]at h⊢;exact h
 | .junk,_,_=>by simp[jT,aU]
 | .eptr _,_,_=>by simp[jT,aU]
 | .iface _ _,_,_=>by simp[jT,aU]
 | .func _ _,_,_=>by simp[jT,aU]
 | .gmap _,_,_=>by simp[jT,aU]
 | .row _ _ _,_,_=>by simp[jT,aU]
 | .rptr _ _ _ _ _,_,_=>by simp[jT,aU]
 | .hdm _ _,_,_=>by simp[jT,aU]
 | .hdi _ _ _,_,_=>by simp[jT,aU]
 | .cst _,_,_=>by simp[jT,aU]
theorem Kl:∀(cs:List af) (us:List Value),cU w ν cs us->cU w (lS ν N ω) (oQ N cs) us
 |[],us,h=>by simpa only[cU,oQ]using h
 |c::cs,us,h=>by simp only[cU,oQ]at h⊢;obtain⟨u,a,J,⟨U,b⟩,d⟩:=h;exact⟨u,a,J,⟨Kk c u U,b⟩,Kl cs a d⟩
theorem QY:∀(cs:List af) (us:List Value),c1 w ν cs us->c1 w (lS ν N ω) (oQ N cs) us
 |[],us,h=>by simpa only[c1,oQ]using h
 |c::cs,us,h=>by simp only[c1,oQ]at h⊢;obtain⟨u,a,J,U,b⟩:=h;exact⟨u,a,J,Kk c u U,QY cs a b⟩
end
end
end
section
open Go Go.RowKit
def vv(N:List (aA×Nat))(l:List (Nat×af)):List (Nat×af):=l.map fun x=>(x.1,jT N x.2)
def ud(N:List (aA×Nat))(l:List (aA×List af)):List (aA×List af):=l.map fun x=>(x.1,oQ N x.2)
def EV:List (aA×List af)->Prop
 |[]=>True
 |(_,cs)::r=>gR cs=true/\EV r
def OG:∀{l:List (aA×List af)} {k:aA} {cs:List af},EV l->ad k l=some cs->gR cs=true
 |[],_,_,_,h=>by simp[ad]at h
 |(j,p)::r,k,cs,h,a=>by
  simp only[ad]at a;split at a
  ·cases a;exact h.1
  ·exact OG h.2 a
def rv(st:bo)(s:Nat):af:=match get s st.t with
 | .ptr k 0=>(match ad k st.b with|some cs=>.agg cs|none=>.junk)
 |p=>p
def Fx(base n:Nat):List aA:=(List.range' base n).map .obj
def tJ(st:bo)(p:af)(base:Nat)(ε:Nat->Nat):bo:=⟨vv (tn p) st.t,ud (tn p) st.b,dP ε base (b5 p),st.n,Fx base (bE (b5 p))++st.o⟩
def tK(st:bo)(s base:Nat)(ε:Nat->Nat):bo:=match get s st.t with
 | .ptr k 0=>(match ad k st.b with|some cs=>{tJ st (.agg cs) base ε with b:=cH k (fR base (cf cs)) (ud (tn (.agg cs)) st.b)}|none=>tJ st .junk base ε)
 |p=>{tJ st p base ε with t:=put s (dx base (b5 p)) (vv (tn p) st.t)}
def Cz(st:bo)(p:af)(base:Nat):Prop:=fl p/\(tn p).Nodup/\(∀m,.obj m∈st.o->m<base)/\EV st.b
def XM{base n:Nat}{k:aA}:k∈Fx base n↔∃m,k= .obj m/\base<=m/\m<base+n:=by simp only[Fx,hz,List.mem_range'_1];exact⟨fun⟨m,h,e⟩=>⟨m,e.symm,h⟩,fun⟨m,e,h⟩=>⟨m,h,e.symm⟩⟩
def ac7(N:List (aA×Nat))(p:af):(match jT N p with| .hdm _ _=>false| .hdi _ _ _=>false|_=>true)=true:=by
 cases p with
 |slice sz tag xs=>
  cases tag with
  |tr k j=>by_cases e:(k,j)∈N<;>simp[jT,e]
  |lo k=>by_cases e:(k,0)∈N<;>simp[jT,e]
  |_=>cases xs<;>rfl
 |_=>rfl
def aoA(N:List (aA×Nat)):∀cs,gR (oQ N cs)=true
 |[]=>rfl
 |c::cs=>by have:=ac7 N c;simp only[oQ];cases h:jT N c<;>simp_all[gR]
def apD{C:fh}{st:bo}{a:Act}{w:World}{ν:a8}(h:c5 C st a w ν){k:aA}{cs cs':List af}(l:ad k st.b=some cs)(i:gR cs=true)
  (q:∀bl us el,ν.bx k=some bl->w.heap[bl]? =some (.cells us el)->cU w ν cs us.toList->cU w ν cs' us.toList):c5 C {st with b:=cH k cs' st.b} a w ν:=by
 have d:∀j,(ad j (cH k cs' st.b)).isSome->(ad j st.b).isSome:=fun j c=>by
  rw[je]at c;split at c
  ·rename_i e;subst e;simp[l]
  ·exact c
 refine⟨⟨h.good.alt,fun j m c=>?_,fun j dg bl J U=>h.good.inj j dg bl (d j J) (d dg U),h.good.own,h.good.oinj,fun g j n v bl J U=>h.good.obx g j n v bl J (d j U),h.good.one,fun bl p=>h.good.otr bl (p.imp (fun⟨j,o,r⟩=>⟨j,d j o,r⟩) id)⟩,h.fr,h.defers,h.size,h.slot,h.new⟩;rw[je]at c;split at c
 ·rename_i e;subst e;cases c;obtain⟨bl,us,el,g1,g2,g3,g4,g5⟩:=h.good.box k cs l;rw[pa i]at g5;rw[o9 i]at g4;have g6:=q bl us el g1 g4 g5;have f:=wB g6;exact⟨bl,us,el,g1,g2,g3,by rw[o9 f];exact g4,by rw[pa f];exact g6⟩
 ·exact h.good.box j m c
def abl{C:fh}{st:bo}{a:Act}{w:World}{ν:a8}(h:c5 C st a w ν)(bz:∀b o,C.ν0.A b o->b<C.w0.heap.size){p:af}{v:Value}{base:Nat}(bI:aU w ν p v)(aw:Cz st p base):
  ∃ε bm,c5 C (tJ st p base ε) a w bm/\aU w bm (dx base (b5 p)) v/\bm.bx=ν.bx:=by
 obtain⟨bO,cn,dh,h3⟩:=aw;obtain⟨ε,ω,F,tr,S⟩:=P0 (b5 p) _ v base (Oh h.fr.trd p v bI bO cn);have lK:∀m,base<=m->fresh st.n st.o (.obj m):=fun m hm=>⟨trivial,fun c=>by have:=dh m c;omega⟩;have V:∀m x,ω m=some x->ν.bx (.obj m)=none/\ν.ow (.obj m)=none/\∀j b,¬ν.tr (.obj m) j b:=fun m x hm=>h.new _ (lK m ((F.dom m).1 (by rw[hm];rfl)).1);have A:∀m x,ω m=some x->(lS ν (tn p) ω).ow (.obj m)=some x:=fun m x hm=>by simp only[lS,hm]
 have hold:∀k n u,ν.ow k=some (n,u)->(lS ν (tn p) ω).ow k=some (n,u):=fun k n u c=>by
  cases k with
  |loc m=>exact c
  |obj m=>
   simp only[lS];cases hm:ω m with
   |none=>exact c
   |some x=>rw[(V m x hm).2.1]at c;cases c
 have H:∀k n u,(lS ν (tn p) ω).ow k=some (n,u)->ν.ow k=some (n,u)\/ ∃m,k= .obj m/\ω m=some (n,u):=fun k n u c=>by
  cases k with
  |loc m=>exact .inl c
  |obj m=>
   simp only[lS]at c;cases hm:ω m with
   |none=>rw[hm]at c;exact .inl c
   |some x=>rw[hm]at c;exact .inr ⟨m,rfl,by rw[<-c];exact hm⟩
 have Z:∀bl,lq ν (tn p) bl->C.w0.heap.size<=bl:=fun bl ⟨k,j,f,l⟩=>by have c:k≠eo:=Ym p bO _ f;exact(h.fr.trb k j bl l).1.resolve_left c
 have K:∀g o,ad g (dP ε base (b5 p))=some o->∃m,g= .obj m/\base<=m/\m<base+bE (b5 p)/\∃u us,ω m=some (o.n,u)/\w.ownsRow 0 o.el o.sz u o.n us/\∃xs,o.xs=some xs/\xs.length=o.n/\dt w (lS ν (tn p) ω) o.sz xs us:=fun g o be=>by
  obtain⟨m,e,L,Q⟩:=uT ε _ base g o be;obtain⟨u,us,s,z,y⟩:=tr (lS ν (tn p) ω) A g o be;subst e;refine⟨m,rfl,L,Q,u,us,?_,z,y⟩;rcases H _ _ _ s with q|⟨O,q,hj⟩
  ·rw[(h.new _ (lK m L)).2.1]at q;cases q
  ·cases q;exact hj
 have hT:∀k cs,ad k (ud (tn p) st.b)=some cs->∃t,ad k st.b=some t/\cs=oQ (tn p) t:=fun k cs c=>by
  rw[ud,H8]at c;cases av:ad k st.b with
  |none=>rw[av]at c;cases c
  |some t=>rw[av]at c;cases c;exact⟨t,rfl,rfl⟩
 have G:∀k,(ad k (ud (tn p) st.b)).isSome->(ad k st.b).isSome:=fun k c=>by obtain⟨cs,dv⟩:=fA.1 c;obtain⟨t,e,_⟩:=hT k cs dv;simp[e]
 have X:∀g n v bl,(ad g (dP ε base (b5 p))).isSome->(lS ν (tn p) ω).ow g=some (n,v)->v.ownBlock=some bl->lq ν (tn p) bl:=fun g n v bl J U E=>by obtain⟨o,ar⟩:=fA.1 J;obtain⟨m,rfl,L,Q,u,us,s,z,y⟩:=K g o ar;rw[A m _ s]at U;cases U;obtain⟨B,f,l⟩:=F.blk m _ _ s;rw[E]at f;cases f;exact l
 refine⟨ε,lS ν (tn p) ω,⟨⟨fun bl o r=>h.good.alt bl o r.1,fun k cs c=>?_,fun k bt bl J U=>h.good.inj k bt bl (G k J) (G bt U),fun g o be=>?_,fun g fD n n' v v' bl J U E M R de=>?_,fun g k n v bl J U E M R=>?_,fun k=>?_,fun bl aM k j d=>?_⟩,
  ⟨h.fr.os,h.fr.tape,h.fr.output,h.fr.size,h.fr.block,fun b o r=>⟨⟨(h.fr.keep b o r).1,fun d=>?_⟩,(h.fr.keep b o r).2⟩,fun b o r=>h.fr.fresh b o r.1,h.fr.obj,h.fr.obn,fun m n u hm=>?_,h.fr.obr,fun k j bt dg b J U=>h.fr.trd k j bt dg b J.1 U.1,fun k j b d=>h.fr.trb k j b d.1,fun k j b d=>⟨(h.fr.trn k j b d.1).1,?_⟩,h.fr.sh⟩,h.defers,h.size,fun i=>?_,fun k c=>?_⟩,S _ A,rfl⟩
 ·obtain⟨t,f,rfl⟩:=hT k cs c;obtain⟨bl,us,el,g1,g2,g3,g4,g5⟩:=h.good.box k t f;have cY:=OG h3 f;rw[pa cY]at g5;rw[o9 cY]at g4;have g6:=Kl (N:=tn p) (ω:=ω) h.fr.trd t _ g5;have hD:=wB g6;exact⟨bl,us,el,g1,g2,fun o r=>g3 o r.1,by rw[o9 hD];exact g4,by rw[pa hD];exact g6⟩
 ·obtain⟨m,rfl,L,Q,u,us,s,z,xs,y,dp,dH⟩:=K g o be;obtain⟨bl,f,l⟩:=F.blk m _ _ s;have dy:∀B,u.ownBlock=some B->∀j,¬(lS ν (tn p) ω).A B j:=fun B d j r=>by rw[f]at d;cases d;exact r.2 l
  exact⟨u,us,A m _ s,z,fun B d=>⟨.inr (by rw[f]at d;cases d;exact Z _ l),fun j r=>absurd r (dy B d j)⟩,fun xs' ae=>by rw[y]at ae;cases ae;exact⟨dp,dH,dy⟩⟩
 ·obtain⟨o,ar⟩:=fA.1 J;obtain⟨o',h5⟩:=fA.1 U;obtain⟨m,rfl,_,_,u,us,s,_⟩:=K g o ar;obtain⟨O,rfl,_,_,eH,b1,Y,_⟩:=K fD o' h5;rw[A m _ s]at E;cases E;rw[A O _ Y]at M;cases M;rw[F.inj m O _ _ _ _ bl s Y R de]
 ·obtain⟨P,W,_,l⟩:=X g n v bl J E M;exact h.good.otr bl (.inl ⟨k,G k U,R⟩) P W l
 ·rcases h.good.one k with J|J
  ·exact .inl J
  ·cases c:(lS ν (tn p) ω).ow k with
   |none=>exact .inr rfl
   |some x=>
    rcases H k x.1 x.2 c with U|⟨m,rfl,U⟩
    ·rw[J]at U;cases U
    ·exact .inl (V m _ U).1
 ·rcases aM with⟨bt,f,l⟩|⟨g,n,v,f,l,bh⟩
  ·exact h.good.otr bl (.inl ⟨bt,G bt f,l⟩) k j d.1
  ·obtain⟨P,W,f1,f2⟩:=X g n v bl f l bh;obtain⟨rfl,rfl⟩:=h.fr.trd k j P W bl d.1 f2;exact d.2 f1
 ·have:=Z b d;have:=bz b o r;omega
 ·obtain⟨n',eH,f,l⟩:=h.fr.row m n u hm;exact⟨n',eH,hold _ _ _ f,l⟩
 ·have e:=(h.fr.trn k j b d.1).2;cases c:(lS ν (tn p) ω).ow k with
  |none=>rfl
  |some x=>
   rcases H k x.1 x.2 c with U|⟨m,rfl,U⟩
   ·rw[e]at U;cases U
   ·exact absurd d.1 ((V m _ U).2.2 j b)
 ·show aU w (lS ν (tn p) ω) (get i (vv (tn p) st.t)) _;rw[vv,LS (by simp[jT])];exact Kk h.fr.trd _ _ (h.slot i)
 ·obtain⟨s,z⟩:=c;have y:k∉Fx base (bE (b5 p))/\k∉st.o:=by simp only[tJ,j2,not_or]at z;exact z
  obtain⟨m1,m2,m3⟩:=h.new k ⟨s,y.2⟩;refine⟨m1,?_,fun j b d=>m3 j b d.1⟩;cases c:(lS ν (tn p) ω).ow k with
  |none=>rfl
  |some x=>
   rcases H k x.1 x.2 c with U|⟨m,rfl,U⟩
   ·rw[m2]at U;cases U
   ·exact absurd (XM.2 ⟨m,rfl,(F.dom m).1 (by rw[U];rfl)⟩) y.1
def aqH{C:fh}{st:bo}{a:Act}{w:World}{ν:a8}(h:c5 C st a w ν)(n:∀b o,C.ν0.A b o->b<C.w0.heap.size){s base:Nat}(aw:Cz st (rv st s) base):∃ε bm,c5 C (tK st s base ε) a w bm:=by
 have g:rv st s=get s st.t->∃ε bm,c5 C {tJ st (get s st.t) base ε with t:=put s (dx base (b5 (get s st.t))) (vv (tn (get s st.t)) st.t)} a w bm:=fun e=>by rw[e]at aw;obtain⟨ε,bm,l,j,_⟩:=abl h n (h.slot s) aw;exact⟨ε,bm,I5 l j⟩
 cases c:get s st.t with
 |ptr k off=>
  cases off with
  |zero=>
   cases d:ad k st.b with
   |none=>simp only[rv,c,d]at aw;exact absurd aw.1 (by simp[fl])
   |some cs=>
    have f:rv st s= .agg cs:=by simp only[rv,c,d]
    have i:∀ε,tK st s base ε={tJ st (.agg cs) base ε with b:=cH k (fR base (cf cs)) (ud (tn (.agg cs)) st.b)}:=fun ε=>by simp only[tK,c,d]
    rw[f]at aw;simp only[i];obtain⟨bl,us,el,g1,g2,g3,g4,g5⟩:=h.good.box k cs d;have m:=OG aw.2.2.2 d;rw[pa m]at g5;rw[o9 m]at g4;obtain⟨ε,bm,l,j,r⟩:=abl h n (p:= .agg cs) (v:= .agg us) (by simp only[aU];exact⟨us,rfl,g5⟩) aw;have q:ad k (ud (tn (.agg cs)) st.b)=some (oQ (tn (.agg cs)) cs):=by rw[ud,H8,d];rfl
    refine⟨ε,bm,apD l q (aoA _ _) fun A B z f1 f2 _=>?_⟩;rw[r,g1]at f1;cases f1;rw[g4]at f2;cases f2;simp only[dx,b5,aU]at j;obtain⟨y,u,x⟩:=j;cases u;exact x
  |succ off=>
   have f:rv st s=get s st.t:=by simp only[rv,c]
   have i:∀ε,tK st s base ε={tJ st (get s st.t) base ε with t:=put s (dx base (b5 (get s st.t))) (vv (tn (get s st.t)) st.t)}:=fun ε=>by simp only[tK,c]
   simp only[i];exact g f
 |_=>
  have f:rv st s=get s st.t:=by simp only[rv,c]
  have i:∀ε,tK st s base ε={tJ st (get s st.t) base ε with t:=put s (dx base (b5 (get s st.t))) (vv (tn (get s st.t)) st.t)}:=fun ε=>by simp only[tK,c]
  simp only[i];exact g f
end
section
open Go Go.RowKit
inductive aX where
 |of (c:C)
 |sq (c:C) (d:aX)
 |sl (d:aX)
 |th (s:Nat) (d:aX)
def pG(P:cG)(ob:List aA):aX->(Exit->bo->Prop)->bo->Prop
 | .of c,Q,st=>dd P ob c Q st
 | .sq c d,Q,st=>dd P ob c (fun e st'=>match e with| .normal=>pG P ob d Q st'|e=>Q e st') st
 | .sl d,Q,st=> ∃st',gk ob st st'/\Jk st'/\pG P ob d Q (wG st')
 | .th s d,Q,st=> ∃st' base,gk ob st st'/\Cz st' (rv st' s) base/\∀ε,pG P ob d Q (tK st' s base ε)
def yH(N:Nat)(aS:List (Nat×eu)):aX->Code->Bool
 | .of c,code=>hR N aS c code
 | .sq c d,.seq x y=>hR N aS c x&&yH N aS d y
 | .sl d,code=>yH N aS d code
 | .th _ d,code=>yH N aS d code
 |_,_=>false
def GI{P:cG}(hm:P.follows .mixedOrders=true){aS:List (Nat×eu)}(f:hW P aS=true){X:fh}(i:∀b o,X.ν0.A b o->b<X.w0.heap.size):∀(d:aX) (code:Code) (Q:Exit->bo->Prop) (st:bo),yH X.N aS d code=true->pG P X.ob d Q st->JX P X code Q st
 | .of c,code,Q,st,ar,he=>qj hm f c code Q st ar he
 | .sq c d,code,Q,st,ar,he=>by
  cases code<;>try(simp[yH]at ar;done)
  rename_i k l;simp only[yH,cP]at ar;intro a w ν g;refine wp_seq ?_;refine wp_mono (qj hm f c k _ st ar.1 he a w ν g) fun e bs w' m=>?_;obtain⟨st',bm,j,h⟩:=m;cases e with
  |normal=>exact GI hm f i d l Q st' ar.2 j bs w' bm h
  |_=>exact⟨st',bm,j,h⟩
 | .sl d,code,Q,st,ar,he=>fun a w ν g=>by obtain⟨st',J,U,n⟩:=he;exact GI hm f i d code Q _ ar n a w _ (apQ (g.weaker J) U)
 | .th s d,code,Q,st,ar,he=>fun a w ν g=>by obtain⟨st',base,hw,J,U⟩:=he;obtain⟨ε,bm,h⟩:=aqH (g.weaker hw) i J;exact GI hm f i d code Q _ ar (U ε) a w bm h
def GU(aS:List (Nat×eu))(d:aX)(dY:List bU)(N2:Nat)(fn:Func):Bool:=
 match fn.body with
 |some code=>yH fn.ntmps aS d code&&pY aS dY fn.results.toList&& !(fn.name== "runtime.NumGoroutine")&&decide (N2<=fn.ntmps)
 |none=>false
def bD.mkD{P:cG}(hm:P.follows .mixedOrders=true){aS:List (Nat×eu)}(c:hW P aS=true){f:FuncId}{fn:Func}(q:P.funcs[f]? =some fn){d:aX}{b:List bU}{n:Nat}(a:GU aS d b n fn=true)
  {args:List af} (l:args.length<=n) {s:cQ} (h:hV s) {Q:af->cQ->Prop} (he:eP args->(∀j cs,ad j s.b=some cs->gR cs=true->eQ cs)->pG P (cI s) d (c3 b s Q) ⟨iX 0 args,s.b,s.e,0,cI s⟩):bD P f args s Q:=by
 unfold GU at a;split at a
 ·rename_i code o;simp only[cP,gu,sv]at a;obtain⟨⟨⟨J,U⟩,m⟩,p⟩:=a;exact bD.ofW c q o m U (kx l p) h fun X g e i r k=>GI hm c i d code _ _ (by rw[g];exact J) (by rw[e];exact he r k)
 ·cases a
def bX.mkD{P:cG}(hm:P.follows .mixedOrders=true){aS:List (Nat×eu)}(e:hW P aS=true){f:FuncId}{fn:Func}(h:P.funcs[f]? =some fn){d:aX}{a:List bU}{n:Nat}(b:GU aS d a n fn=true)
  {args:List af} (c:args.length<=n) {r:af} (g:az (fun _=>et) r) (he:eP args->pG P [] d (b0 a r) ⟨iX 0 args,[],[],0,[]⟩):bX P f args r:=by
 refine bD.mkD hm e h b c sc fun J _=>?_;rw[<-QC g];exact he J
def F1(P:cG)(ob:List aA)(d:aX)(Q:Exit->bo->Prop)(e:Exit)(st:bo):Prop:=match e with
 | .normal=>pG P ob d Q st
 |e=>Q e st
section
variable {P:cG} {ob:List aA} {st:bo} {Q:Exit->bo->Prop} {c:C} {d:aX}
@[simp]def asx:F1 P ob d Q .normal st=pG P ob d Q st:=rfl
@[simp]def asy:F1 P ob d Q .ret st=Q .ret st:=rfl
@[simp]def asw{n:Nat}:F1 P ob d Q (.exit n) st=Q (.exit n) st:=rfl
@[simp]def atw:pG P ob (.of c) Q st=dd P ob c Q st:=rfl
@[simp]def atx:pG P ob (.sq c d) Q st=dd P ob c (F1 P ob d Q) st:=by simp only[pG];congr 1
def afb(st':bo)(hw:gk ob st st')(aw:Jk st')(h:pG P ob d Q (wG st')):pG P ob (.sl d) Q st:=⟨st',hw,aw,h⟩
def T0{s:Nat}(st':bo)(base:Nat)(hw:gk ob st st')(aw:Cz st' (rv st' s) base)(h:∀ε,pG P ob d Q (tK st' s base ε)):pG P ob (.th s d) Q st:=⟨st',base,hw,aw,h⟩
end
end
section
open Go Go.RowKit
def K2:∀(xs ys:List af),c6 (xs++ys)=c6 xs+c6 ys
 |[],ys=>by simp[c6]
 |x::xs,ys=>by simp[c6,K2 xs ys];omega
def AK:∀(b:Nat) (xs ys:List af),fR b (xs++ys)=fR b xs++fR (b+c6 xs) ys
 |b,[],ys=>by simp[fR,c6]
 |b,x::xs,ys=>by simp[fR,c6,AK _ xs ys,Nat.add_assoc]
def Fe(ε:Nat->Nat):∀(b:Nat) (xs ys:List af),gJ ε b (xs++ys)=gJ ε b xs++gJ ε (b+c6 xs) ys
 |b,[],ys=>by simp[gJ,c6]
 |b,x::xs,ys=>by simp[gJ,c6,Fe ε _ xs ys,Nat.add_assoc]
mutual
def Gy(ε:Nat->Nat):∀(p:af) (b m:Nat),b<=m->m<b+bE p->∃o,ad (.obj m) (dP ε b p)=some o
 | .slice sz t (x::xs),b,m,J,U=>by
  simp only[bE]at U;simp only[dP,ad];by_cases e:b=m
  ·subst e;exact⟨_,if_pos rfl⟩
  ·rw[if_neg (by simpa using e),nS];by_cases a:m<b+1+bE x
   ·obtain⟨o,ar⟩:=Gy ε x (b+1) m Ω a;exact⟨o,by rw[ar]⟩
   ·obtain⟨o,ar⟩:=K9 ε xs (b+1+bE x) m Ω Ω;cases c:ad (.obj m) (dP ε (b+1) x)with
    |some y=>exact⟨y,rfl⟩
    |none=>exact⟨o,ar⟩
 | .agg cs,b,m,J,U=>by simp only[bE,dP]at U⊢;exact K9 ε cs b m J U
 | .slice _ _ [],_,_,J,U=>by simp only[bE]at U;omega
 | .int _ _,_,_,J,U=>by simp only[bE]at U;omega
 | .bool _,_,_,J,U=>by simp only[bE]at U;omega
 | .str _,_,_,J,U=>by simp only[bE]at U;omega
 | .junk,_,_,J,U=>by simp only[bE]at U;omega
 | .ptr _ _,_,_,J,U=>by simp only[bE]at U;omega
 | .eptr _,_,_,J,U=>by simp only[bE]at U;omega
 | .iface _ _,_,_,J,U=>by simp only[bE]at U;omega
 | .nilp,_,_,J,U=>by simp only[bE]at U;omega
 | .tuple _,_,_,J,U=>by simp only[bE]at U;omega
 | .func _ _,_,_,J,U=>by simp only[bE]at U;omega
 | .gmap _,_,_,J,U=>by simp only[bE]at U;omega
 | .row _ _ _,_,_,J,U=>by simp only[bE]at U;omega
 | .rptr _ _ _ _ _,_,_,J,U=>by simp only[bE]at U;omega
 | .hdm _ _,_,_,J,U=>by simp only[bE]at U;omega
 | .hdi _ _ _,_,_,J,U=>by simp only[bE]at U;omega
 | .cst _,_,_,J,U=>by simp only[bE]at U;omega
def K9(ε:Nat->Nat):∀(a:List af) (b m:Nat),b<=m->m<b+c6 a->∃o,ad (.obj m) (gJ ε b a)=some o
 |[],b,m,J,U=>by simp only[c6]at U;omega
 |x::xs,b,m,J,U=>by
  simp only[c6]at U;simp only[gJ];rw[nS];by_cases c:m<b+bE x
  ·obtain⟨o,ar⟩:=Gy ε x b m J c;exact⟨o,by rw[ar]⟩
  ·obtain⟨o,ar⟩:=K9 ε xs (b+bE x) m Ω Ω;cases d:ad (.obj m) (dP ε b x)with
   |some y=>exact⟨y,rfl⟩
   |none=>exact⟨o,ar⟩
end
def BL{ε:Nat->Nat}{p:af}{b m:Nat}(h:m<b\/b+bE p<=m):ad (.obj m) (dP ε b p)=none:=by
 cases a:ad (.obj m) (dP ε b p)with
 |none=>rfl
 |some o=>obtain⟨c,e,d,f⟩:=uT ε p b _ o a;cases e;omega
def Xy{ε:Nat->Nat}{p:List af}{b m:Nat}(h:m<b\/b+c6 p<=m):ad (.obj m) (gJ ε b p)=none:=by
 cases a:ad (.obj m) (gJ ε b p)with
 |none=>rfl
 |some o=>obtain⟨c,e,d,f⟩:=BK ε p b _ o a;cases e;omega
def aln{ε:Nat->Nat}{l r:List af}{y:af}{b:Nat}{k:aA}{o:dT}(h:ad k (dP ε (b+c6 l) y)=some o):ad k (gJ ε b (l++y::r))=some o:=by obtain⟨m,rfl,a,c⟩:=uT ε y _ k o h;rw[Fe,nS,Xy Ω];simp only[gJ];rw[nS,h]
def alo{ε:Nat->Nat}{l r:List af}{y y':af}{b:Nat}(aw:bE y'=bE y){k:aA}{o:dT}(h:ad k (gJ ε b (l++y'::r))=some o):
  ad k (dP ε (b+c6 l) y')=some o\/(ad k (dP ε (b+c6 l) y)=none/\ad k (dP ε (b+c6 l) y')=none/\ad k (gJ ε b (l++y::r))=some o):=by
 obtain⟨m,rfl,c,d⟩:=BK ε _ _ k o h;simp only[Fe,gJ,nS,aw]at h⊢;by_cases J:m<b+c6 l
 ·rw[BL (p:=y) (.inl J),BL (p:=y') (.inl J)];refine .inr ⟨rfl,rfl,?_⟩;rw[BL (p:=y') (.inl J)]at h;exact h
 ·rw[Xy (p:=l) (.inr Ω)]at h⊢;by_cases U:m<b+c6 l+bE y
  ·obtain⟨o',a⟩:=Gy ε y' (b+c6 l) m Ω Ω;rw[a]at h⊢;exact .inl h
  ·rw[BL (p:=y) (.inr Ω),BL (p:=y') (.inr Ω)];rw[BL (p:=y') (.inr Ω)]at h;exact .inr ⟨rfl,rfl,h⟩
end
section
open Go Go.RowKit
section
variable (c2:Int->List cW)
mutual
def dG:af->Int->af×Int
 | .int a _,k=>(.int a k,k+1)
 | .str _,k=>(.str (c2 k),k+1)
 | .slice sz t xs,k=>(.slice sz t (bF xs k).1,(bF xs k).2)
 | .agg cs,k=>(.agg (bF cs k).1,(bF cs k).2)
 |p,k=>(p,k)
def bF:List af->Int->List af×Int
 |[],k=>([],k)
 |x::xs,k=>((dG x k).1::(bF xs (dG x k).2).1,(bF xs (dG x k).2).2)
end
def lp:∀(xs:List af) (k:Int),(bF c2 xs k).1.length=xs.length
 |[],k=>by simp[bF]
 |x::xs,k=>by simp[bF,lp xs]
mutual
def Tx:∀(p:af) (k:Int),bE (dG c2 p k).1=bE p
 | .int _ _,k=>by simp[dG,bE]
 | .str _,k=>by simp[dG,bE]
 | .slice _ _ [],k=>by simp[dG,bF,bE]
 | .slice _ _ (x::xs),k=>by simp[dG,bF,bE,Tx x,nA xs]
 | .agg cs,k=>by simp[dG,bE,nA cs]
 | .bool _,k=>by simp[dG]
 | .junk,k=>by simp[dG]
 | .ptr _ _,k=>by simp[dG]
 | .eptr _,k=>by simp[dG]
 | .iface _ _,k=>by simp[dG]
 | .nilp,k=>by simp[dG]
 | .tuple _,k=>by simp[dG]
 | .func _ _,k=>by simp[dG]
 | .gmap _,k=>by simp[dG]
 | .row _ _ _,k=>by simp[dG]
 | .rptr _ _ _ _ _,k=>by simp[dG]
 | .hdm _ _,k=>by simp[dG]
 | .hdi _ _ _,k=>by simp[dG]
 | .cst _,k=>by simp[dG]
def nA:∀(a:List af) (k:Int),c6 (bF c2 a k).1=c6 a
 |[],k=>by simp[bF]
 |x::xs,k=>by simp[bF,c6,Tx x,nA xs]
end
def Ik:∀(xs ys:List af) (k:Int),bF c2 (xs++ys) k=((bF c2 xs k).1++(bF c2 ys (bF c2 xs k).2).1,(bF c2 ys (bF c2 xs k).2).2)
 |[],ys,k=>by simp[bF]
 |x::xs,ys,k=>by simp[bF,Ik xs ys]
mutual
def alZ:∀(p:af) (k:Int),k<=(dG c2 p k).2
 | .int _ _,k=>by simp[dG];omega
 | .str _,k=>by simp[dG];omega
 | .slice _ _ xs,k=>by simp only[dG];exact mz xs k
 | .agg cs,k=>by simp only[dG];exact mz cs k
 | .bool _,k=>by simp[dG]
 | .junk,k=>by simp[dG]
 | .ptr _ _,k=>by simp[dG]
 | .eptr _,k=>by simp[dG]
 | .iface _ _,k=>by simp[dG]
 | .nilp,k=>by simp[dG]
 | .tuple _,k=>by simp[dG]
 | .func _ _,k=>by simp[dG]
 | .gmap _,k=>by simp[dG]
 | .row _ _ _,k=>by simp[dG]
 | .rptr _ _ _ _ _,k=>by simp[dG]
 | .hdm _ _,k=>by simp[dG]
 | .hdi _ _ _,k=>by simp[dG]
 | .cst _,k=>by simp[dG]
def mz:∀(a:List af) (k:Int),k<=(bF c2 a k).2
 |[],k=>by simp[bF]
 |x::xs,k=>by have J:=alZ x k;have U:=mz xs (dG c2 x k).2;simp only[bF];omega
end
end
end
section
open Go Go.RowKit
inductive j9:af->Prop
 |mk (a b:Int) (s:List cW) (ys:List af):(∀y∈ys,j9 y)->j9 (.agg [.int .i64 a,.int .i64 b,.str s,.slice 4 .no ys])
mutual
def Cx:af->Nat
 | .slice _ _ xs=>qM xs
 | .agg cs=>1+qM cs
 |_=>0
def qM:List af->Nat
 |[]=>0
 |x::xs=>Cx x+qM xs
end
def JC:∀{xs:List af} {x:af},x∈xs->Cx x<=qM xs
 |y::ys,x,h=>by
  rcases gK.1 h with rfl|h
  ·simp only[qM];omega
  ·have:=JC h;simp only[qM];omega
def j9.inv{p:af}(h:j9 p):∃a b s ys,p= .agg [.int .i64 a,.int .i64 b,.str s,.slice 4 .no ys]/\(∀y∈ys,j9 y)/\Cx p=1+qM ys:=by
 cases h with
 |mk a b s ys h=>exact⟨a,b,s,ys,rfl,h,by simp[Cx,qM]⟩
def Fg{ε:Nat->Nat}{p:af}{b:Nat}(k:aA):(ad k (dP ε b p)).isSome=true↔∃m,k= .obj m/\b<=m/\m<b+bE p:=by
 constructor
 ·intro h;obtain⟨o,ar⟩:=fA.1 h;exact uT ε p b k o ar
 ·rintro⟨m,rfl,J,U⟩;obtain⟨o,ar⟩:=Gy ε p b m J U;rw[ar];rfl
def rng(b c:Nat)(k:aA):Prop:= ∃m,k= .obj m/\b<=m/\m<c
def Cn{b c b7 a:Nat}(J:b7<=b)(U:c<=a)(k:aA)(h:rng b c k):rng b7 a k:=by obtain⟨m,e,d,f⟩:=h;exact⟨m,e,Ω,Ω⟩
mutual
def o4:∀(p:af) (b:Nat),cN p->az (rng b (b+bE p)) (dx b p)
 | .slice sz t [],b,h=>by simp[dx,az,aH]
 | .slice sz t (x::xs),b,h=>by simp only[dx,az,bE];exact⟨b,rfl,Ω,Ω⟩
 | .agg cs,b,h=>by simp only[dx,az,bE,cN]at h⊢;exact Nn cs b h
 | .int _ _,_,_=>by simp[dx,az]
 | .bool _,_,_=>by simp[dx,az]
 | .str _,_,_=>by simp[dx,az]
 | .junk,_,h=>by simp[cN]at h
 | .ptr _ _,_,h=>by simp[cN]at h
 | .eptr _,_,h=>by simp[cN]at h
 | .iface _ _,_,h=>by simp[cN]at h
 | .nilp,_,h=>by simp[cN]at h
 | .tuple _,_,h=>by simp[cN]at h
 | .func _ _,_,h=>by simp[cN]at h
 | .gmap _,_,h=>by simp[cN]at h
 | .row _ _ _,_,h=>by simp[cN]at h
 | .rptr _ _ _ _ _,_,h=>by simp[cN]at h
 | .hdm _ _,_,h=>by simp[cN]at h
 | .hdi _ _ _,_,h=>by simp[cN]at h
 | .cst _,_,h=>by simp[cN]at h
def Nn:∀(a:List af) (b:Nat),dZ a->aH (rng b (b+c6 a)) (fR b a)
 |[],b,h=>by simp[fR,aH]
 |x::xs,b,h=>by simp only[dZ]at h;simp only[fR,aH,c6];exact⟨uN (Cn Ω Ω) _ (o4 x b h.1),jd (Cn Ω Ω) _ (Nn xs _ h.2)⟩
end
def Em{S T:aA->Prop}(h:∀k,S k->T k){o:dT}(b:dU S o):dU T o:=fun xs a=>jd h _ (b xs a)
mutual
def Nv{ε:Nat->Nat}:∀(p:af) (b:Nat),cN p->∀k o,ad k (dP ε b p)=some o->dU (rng b (b+bE p)) o
 | .slice sz t (x::xs),b,h,k,o,a=>by
  simp only[cN]at h;simp only[dP,ad]at a;simp only[bE];split at a
  ·cases a;intro ys c;cases c;have:=Nn (x::xs) (b+1) h.2;simp only[c6,fR]at this;exact jd (Cn Ω Ω) _ this
  ·have:=Nu (ε:=ε) (x::xs) (b+1) h.2 k o (by simpa only[gJ]using a);simp only[c6]at this;exact Em (Cn Ω Ω) this
 | .agg cs,b,h,k,o,a=>by simp only[dP,bE,cN]at h a⊢;exact Nu cs b h k o a
 | .slice _ _ [],_,_,_,_,h=>by simp[dP,ad]at h
 | .int _ _,_,_,_,_,h=>by simp[dP,ad]at h
 | .bool _,_,_,_,_,h=>by simp[dP,ad]at h
 | .str _,_,_,_,_,h=>by simp[dP,ad]at h
 | .junk,_,h,_,_,_=>by simp[cN]at h
 | .ptr _ _,_,h,_,_,_=>by simp[cN]at h
 | .eptr _,_,h,_,_,_=>by simp[cN]at h
 | .iface _ _,_,h,_,_,_=>by simp[cN]at h
 | .nilp,_,h,_,_,_=>by simp[cN]at h
 | .tuple _,_,h,_,_,_=>by simp[cN]at h
 | .func _ _,_,h,_,_,_=>by simp[cN]at h
 | .gmap _,_,h,_,_,_=>by simp[cN]at h
 | .row _ _ _,_,h,_,_,_=>by simp[cN]at h
 | .rptr _ _ _ _ _,_,h,_,_,_=>by simp[cN]at h
 | .hdm _ _,_,h,_,_,_=>by simp[cN]at h
 | .hdi _ _ _,_,h,_,_,_=>by simp[cN]at h
 | .cst _,_,h,_,_,_=>by simp[cN]at h
def Nu{ε:Nat->Nat}:∀(c:List af) (b:Nat),dZ c->∀k o,ad k (gJ ε b c)=some o->dU (rng b (b+c6 c)) o
 |[],b,h,k,o,a=>by simp[gJ,ad]at a
 |x::xs,b,h,k,o,a=>by
  simp only[dZ]at h;simp only[gJ,nS]at a;simp only[c6];cases J:ad k (dP ε b x)with
  |some y=>rw[J]at a;cases a;exact Em (Cn Ω Ω) (Nv x b h.1 k _ J)
  |none=>rw[J]at a;exact Em (Cn Ω Ω) (Nu xs _ h.2 k _ a)
end
abbrev c7(ε:Nat->Nat)(b:Nat)(p:af):cQ:=⟨[],dP ε b p⟩
def F2{ε:Nat->Nat}{b:Nat}{p:af}(k:aA):aK (c7 ε b p) k↔rng b (b+bE p) k:=by unfold aK rng;rw[Fg];simp[ad]
def QF(ε:Nat->Nat)(b:Nat)(p:af):hV (c7 ε b p):=by
 refine⟨fun m=>by simp[ad],fun m=>?_⟩;cases h:ad (.loc m) (dP ε b p)with
 |none=>rfl
 |some o=>obtain⟨a,e,_⟩:=uT ε p b _ o h;cases e
def pB{ε:Nat->Nat}{b:Nat}{p:af}(h:cN p):eB (c7 ε b p):=⟨QF ε b p,fun k cs a=>by simp[ad]at a,fun k o a=>Em (fun k a=>(F2 k).2 a) (Nv p b h k o a)⟩
def qb{ε:Nat->Nat}{b:Nat}{p q:af}(h:bE q=bE p):Same (c7 ε b p) (c7 ε b q):=⟨fun k=>rfl,fun k=>by rw[qP,Fg,Fg,h]⟩
def acH{ε:Nat->Nat}{b:Nat}{p:af}{k:aA}:k∈cI (c7 ε b p)↔rng b (b+bE p) k:=by rw[<-F2 (ε:=ε)];exact⟨M0,fun h=>rl h⟩
def CallDo.sub{P:cG}{n:Nat}{args:List af}{st:bo}{d:bc Nat}{K:bo->Prop}{ε:Nat->Nat}{b:Nat}{l r:List af}{y y' g:af}(t:cN y)(aw:bE y'=bE y)
  (u:bD P n args (c7 ε (b+c6 l) y) fun i j=>i=g/\j=c7 ε (b+c6 l) y')
  (he:∀k o,ad k (gJ ε b (l++y::r))=some o->ad k st.e=some o) (a:aH (rng (b+c6 l) (b+c6 l+bE y)) args)
  (h:∀c,(∀k o,ad k (gJ ε b (l++y'::r))=some o->ad k c=some o)->(∀k,¬rng (b+c6 l) (b+c6 l+bE y) k->ad k c=ad k st.e)->K ⟨e3 d g st.t,st.b,c,st.n,st.o++cI (c7 ε (b+c6 l) y')⟩):CallDo P n args st d K:=by
 refine CallDo.ob u (pB t) (fun k cs a=>by simp[ad]at a) (fun k o a=>he k o (aln a)) (jd (fun k a=>(F2 k).2 a) _ a) ?_;rintro i j ⟨rfl,rfl⟩;refine⟨qb aw,?_⟩;simp only[CI,List.append_nil];refine h _ (fun k o a=>?_) fun k a=>?_
 ·rw[nS,tp];rcases alo aw a with J|⟨J,U,s⟩
  ·have:(ad k (dP ε (b+c6 l) y)).isSome=true:=by have:=Fg (ε:=ε) (p:=y') (b:=b+c6 l) k;rw[Fg,<-aw,<-this,J];rfl
   rw[this];simp[J]
  ·rw[J];simp[he k o s]
 ·have J:ad k (dP ε (b+c6 l) y)=none:=by
   cases f:ad k (dP ε (b+c6 l) y)with
   |none=>rfl
   |some o=>exact absurd (uT ε y _ k o f) a
  have U:ad k (dP ε (b+c6 l) y')=none:=by
   cases f:ad k (dP ε (b+c6 l) y')with
   |none=>rfl
   |some o=>obtain⟨m,e,q,v⟩:=uT ε y' _ k o f;exact absurd ⟨m,e,q,Ω⟩ a
  rw[nS,tp,J,U];simp;cases ad k st.e<;>rfl
def fP.val{P:cG}{f:FuncId}{args:List af}{r:Nat->af}(h:fP P f args r)(E:az (fun _=>et) (b5 (r 0)):=by simp[b5,az,aH]):bX P f args (b5 (r 0)):=by
 intro w ν bk J U B;have hm:∀(e:Ending) (w':World),(∃v d a bm,e= .returned v/\(d=r 0/\a=⟨[],[]⟩)/\aU w' bm d v/\Good (fun bl=>fB ν ⟨[],[]⟩ bl\/w.heap.size<=bl) w' bm a.b a.e/\AN (some 0) bm a/\hV a/\pq ⟨w,ν,fB ν ⟨[],[]⟩,0,cI ⟨[],[]⟩⟩ w' bm)->
   (∃v d a bm,e= .returned v/\(d=b5 (r 0)/\a=⟨[],[]⟩)/\aU w' bm d v/\Good (fun bl=>fB ν ⟨[],[]⟩ bl\/w.heap.size<=bl) w' bm a.b a.e/\pH bm a/\hV a/\pq ⟨w,ν,fB ν ⟨[],[]⟩,0,cI ⟨[],[]⟩⟩ w' bm):=by
  rintro e w' ⟨v,d,a,bm,t,⟨rfl,rfl⟩,a3,a4,a5,A,c⟩;have s:∀k,ν.bx k=none:=fun k=>(U k).1 rfl;have q:∀k,ν.ow k=none:=fun k=>(U k).2.1 rfl;refine⟨v,_,⟨[],[]⟩,bm.cut fun _=>et,t,⟨rfl,rfl⟩,u2 (oN.cut _ w' bm) _ _ E (x4 _ v a3),a4.cut (fun k cs i=>by simp[ad]at i) (fun k o i=>by simp[ad]at i) (fun bl y _=>y),fun k=>?_,sc,
   ⟨c.os,c.tape,c.output,c.size,c.block,c.keep,c.fresh,fun n b g=>?_,c.obn,fun m n u hm=>?_,c.obr,fun k j bt dg b l _=>l.1.elim,fun k j b g=>g.1.elim,fun k j b g=>g.1.elim,c.sh⟩⟩
  ·obtain⟨l,z,x⟩:=a8.cut_no (ν:=bm) (S:=fun _=>et) (k:=k) (fun h=>h);exact⟨fun _=>l,fun _=>z,x⟩
  ·rw[s]at g;cases g
  ·rw[q]at hm;cases hm
 rcases h 0 w ν bk J U B with⟨p,aw⟩|⟨v,w',aw,F⟩
 ·exact .inl ⟨p,aw.mono hm⟩
 ·exact .inr ⟨v,w',aw,hm _ _ F⟩
def jf{α:Type}(f:α->Nat->af)(l:List (α×Nat)):List af:=l.map fun p=>f p.1 p.2
@[simp]def avG{α:Type}(f:α->Nat->af):jf f []=[]:=rfl
@[simp]def amc{α:Type}(f:α->Nat->af)(l:List (α×Nat)):(jf f l).length=l.length:=by simp[jf]
@[simp]def avH{α:Type}(f:α->Nat->af)(l:List (α×Nat))(x:α)(n:Nat):jf f (l++[(x,n)])=jf f l++[f x n]:=by simp[jf]
def BZ(n:Nat):aA.loc n≠eo:=fun e=>by unfold eo at e;cases e
structure qa {α:Type} (n:Nat) (l:List (α×Nat)):Prop where
 nd:(l.map (·.2)).Nodup
 lt:∀p∈l,p.2<n
def qa.nil{α:Type}(n:Nat):qa n ([]:List (α×Nat)):=⟨Ψ,Ψ⟩
def qa.snoc{α:Type}{n m n':Nat}{l:List (α×Nat)}(h:qa n l)(x:α)(J:n<=m)(U:m<n'):qa n' (l++[(x,m)]):=by
 refine⟨?_,fun p c=>?_⟩
 ·rw[List.map_append,rF];refine⟨h.nd,Ψ,fun a f b d e=>?_⟩;simp at d;subst d;obtain⟨p,c,rfl⟩:=hz.1 f;have:=h.lt p c;omega
 ·rcases j2.1 c with c|c
  ·have:=h.lt p c;omega
  ·simp at c;subst c;exact U
structure nv {α:Type} (f:α->Nat->af) (g:α->af):Prop where
 tn:∀x n,tn (f x n)=[(.loc n,0)]
 ok:∀x n,fl (f x n)
 st:∀x n,b5 (f x n)=g x
 ki:∀(S:aA->Prop) x n,S (.loc n)->az S (f x n)
def nv.tnL{α:Type}{f:α->Nat->af}{g:α->af}(h:nv f g):∀(l:List (α×Nat)),Pv.tnL (jf f l)=(l.map (·.2)).map fun m=>(aA.loc m,0)
 |[]=>by simp[jf,Pv.tnL]
 |x::l=>by have:=h.tnL l;unfold jf at this;simp[jf,Pv.tnL,h.tn,this]
def nv.nodup{α:Type}{f:α->Nat->af}{g:α->af}(h:nv f g){n:Nat}{l:List (α×Nat)}(d:qa n l):(Pv.tnL (jf f l)).Nodup:=by rw[h.tnL];refine axd _ (fun a b c e=>c ?_) d.nd;simpa using e
def nv.okL{α:Type}{f:α->Nat->af}{g:α->af}(h:nv f g):∀(l:List (α×Nat)),ga (jf f l)
 |[]=>by simp[jf,ga]
 |x::l=>by have:=h.okL l;unfold jf at this;simp[jf,ga,h.ok,this]
def nv.stL{α:Type}{f:α->Nat->af}{g:α->af}(h:nv f g):∀(l:List (α×Nat)),cf (jf f l)=(l.map (·.1)).map g
 |[]=>by simp[jf,cf]
 |x::l=>by have:=h.stL l;unfold jf at this;simp[jf,cf,h.st,this]
def nv.kiL{α:Type}{f:α->Nat->af}{g:α->af}(h:nv f g){S:aA->Prop}:∀(l:List (α×Nat)),(∀p∈l,S (.loc p.2))->aH S (jf f l)
 |[],_=>by simp[jf,aH]
 |x::l,dC=>by have:=h.kiL l fun p a=>dC p (by simp[a]);unfold jf at this;simp only[jf,hc,aH];exact⟨h.ki S x.1 x.2 (dC x Ψ),this⟩
def nv.kin{α:Type}{f:α->Nat->af}{g:α->af}(h:nv f g){n m:Nat}{l:List (α×Nat)}(b:qa n l)(hm:n<=m)(o:List aA):aH (fun k=> ¬fresh m o k) (jf f l)=True:=h0 (h.kiL l fun p a c=>by have J:=b.lt p a;have U:m<=p.2:=c.1;omega)
def EH{α:Type}{f:α->af}(h:∀x,fl (f x)):∀l:List α,ga (l.map f)
 |[]=>trivial
 |x::l=>⟨h x,EH h l⟩
def JF{α:Type}{f:α->af}(h:∀x,tn (f x)=[]):∀l:List α,tnL (l.map f)=[]
 |[]=>rfl
 |x::l=>by simp[tnL,h x,JF h l]
def Lc:∀(a b:List af),dZ (a++b)↔dZ a/\dZ b
 |[],b=>by simp[dZ]
 |x::a,b=>by simp[dZ,Lc a b,and_assoc]
mutual
def aef(c2:Int->List cW):∀(p:af) (k:Int),cN p->cN (dG c2 p k).1
 | .int _ _,_,_=>by simp[dG,cN]
 | .bool _,_,_=>by simp[dG,cN]
 | .str _,_,_=>by simp[dG,cN]
 | .slice sz _ xs,k,h=>by simp only[dG,cN]at h⊢;exact⟨h.1,qW c2 xs k h.2⟩
 | .agg cs,k,h=>by simp only[dG,cN]at h⊢;exact qW c2 cs k h
 | .junk,_,h=>by simp[cN]at h
 | .ptr _ _,_,h=>by simp[cN]at h
 | .eptr _,_,h=>by simp[cN]at h
 | .iface _ _,_,h=>by simp[cN]at h
 | .nilp,_,h=>by simp[cN]at h
 | .tuple _,_,h=>by simp[cN]at h
 | .func _ _,_,h=>by simp[cN]at h
 | .gmap _,_,h=>by simp[cN]at h
 | .row _ _ _,_,h=>by simp[cN]at h
 | .rptr _ _ _ _ _,_,h=>by simp[cN]at h
 | .hdm _ _,_,h=>by simp[cN]at h
 | .hdi _ _ _,_,h=>by simp[cN]at h
 | .cst _,_,h=>by simp[cN]at h
def qW(c2:Int->List cW):∀(a:List af) (k:Int),dZ a->dZ (bF c2 a k).1
 |[],k,h=>by simp[bF,dZ]
 |x::xs,k,h=>by simp only[bF,dZ]at h⊢;exact⟨aef c2 x k h.1,qW c2 xs _ h.2⟩
end
end
end Go.Pv
namespace Go.Proofs.YtahlgcidhnjlbaaGreat
section
open Go Go.Pv
def qJ(o:bc (List bG)):af:= .tuple [b4 ((o.getD []).map bG.e),.bool o.isSome]
@[simp]def au5(S:aA->Prop)(o:bc (List bG)):az S (qJ o)=True:=by simp[qJ]
def abD{l:List bG}(h:ht l):bX au 87 [b4 (l.map bG.e)] (.bool true):=by have:=abC l;simpa only[h,decide_true]using this
def P9{t:T}(h:t.fit=true):bX au 64 [t.e] (.bool true):=by have:=aq2 t;rwa[h]at this
@[simp]def avM(l:List bG):ga (l.map bG.e)=True:=h0 (EH (f:=bG.e) (fun _=>⟨trivial,trivial,trivial⟩) l)
@[simp]def awX(l:List bG):tnL (l.map bG.e)=[]:=JF (f:=bG.e) (fun _=>rfl) l
def nW(o:bc (List bG))(κ:Nat):af:= .tuple [.slice 2 (.tr (.loc κ) 0) ((o.getD []).map bG.e),.bool o.isSome]
def ame{s:List Bd}(G:fm s){l:List bG}(F:ht l)(t:T)(Z:t.fit=true)(k:Int):
  fP au 118 [bK (s.map Bd.e),b4 (l.map bG.e),t.e,aj k] (nW (if(k=2\/k=3)/\(t.ap (cO s)).size<=5000 then kY l (t.ap (cO s)) k else none)):=by
 have ot:=ti F;have d:=rz G;have f:=P9 Z;have g:=abD F;have c:=JP s t G.len G.sol.asc G.fit;generalize ae:t.ap (cO s)=x at c⊢;generalize u:(if(k=2\/k=3)/\x.size<=5000 then kY l x k else none)=O;by_cases K:k=2\/k=3;rotate_left
 ·have E:(k !=2)=true:=by simp;omega
  have X:(k !=3)=true:=by simp;omega
  rw[if_neg (fun h=>K h.1)]at u;rw[<-u];refine fP.mk mixed a7 Tryz.func118 EI Ψ fun L κ=>?_;unfold Aw;simp;(repeat' first|refine aq ?_|refine aP d ?_|refine aQ d ?_|refine aP f ?_|refine aQ f ?_|refine aP g ?_|refine aQ g ?_|simp[E,X]);(refine hP.val Ψ ?_;simp[ba,bd,a1,e0,ha,ez,gI,ec,gD,tnL,tn,fl,ga,fold,hq,ho,iw,ad,eo,cf,b5]);simp[nW]
 by_cases z:x.size<=5000;rotate_left
 ·rw[if_neg (fun h=>z h.2)]at u;rw[<-u];rw[if_neg z,po z]at c;refine fP.mk mixed a7 Tryz.func118 EI Ψ fun L κ=>?_;unfold Aw;simp;rcases K with rfl|rfl;all_goals(repeat' first|refine aq ?_|refine aP d ?_|refine aQ d ?_|refine aP f ?_|refine aQ f ?_|refine aP g ?_|refine aQ g ?_|refine aP c ?_|refine aQ c ?_|simp)
  all_goals(refine hP.val Ψ ?_;simp[ba,bd,a1,e0,ha,ez,gI,ec,gD,tnL,tn,fl,ga,fold,hq,ho,iw,ad,eo,cf,b5])
  all_goals simp[nW]
 rw[if_pos ⟨K,z⟩]at u;rw[if_pos z,n5 z]at c;have Hm:(k !=2)=true->(k !=3)=false:=fun h=>by simp at h⊢;omega
 have R:((k !=2)=false/\(k !=2)=false)\/((k !=2)=true/\(k !=3)=false):=by
  rcases K with rfl|rfl
  ·left;exact⟨rfl,rfl⟩
  ·right;exact⟨rfl,rfl⟩
 clear Hm;by_cases Q:∃n,x= .var n
 ·obtain⟨n,rfl⟩:=Q;have a:O=match nk l n with|some bt=>if bt=k then some l else none|none=>some (ni ⟨n,k⟩ l):=by rw[<-u];rfl
  refine fP.mk mixed a7 Tryz.func118 EI Ψ fun L κ=>?_;unfold Aw;simp;rcases R with⟨q,p⟩|⟨q,p⟩;all_goals
   (repeat' first|refine aq ?_|refine aP d ?_|refine aQ d ?_|refine aP f ?_|refine aQ f ?_|refine aP g ?_|refine aQ g ?_|refine aP c ?_|refine aQ c ?_|simp[q,p])
   refine eY [3,10,12,55,56] (fun i (_:Unit)=>[(57,aj i)]) l.length (fun i _=> ∀j y,j<i->l[j]? =some y->y.v≠n) () cc (fun j y H=>Ω) (fun _ H _=>?_) (fun i _ hi H _=>?_)
   ·have be:nk l n=none:=El.2 fun y A=>by obtain⟨m,hm,e⟩:=pk A;exact H m y hm (by rw[cl hm,e])
    rw[be]at a
    simp only at a
    simp
    (repeat' first|refine aq ?_|simp)
    all_goals try refine⟨by unfold lim;omega,?_⟩
    have key:=ait (l++[⟨n,k⟩]) d6
    have P:=J4 (l++[⟨n,k⟩])
    have hlen:(l++[(⟨n,k⟩:bG)]).length=l.length+1:=Ψ
    unfold yu eA at key P
    rw[hlen,List.map_append,hc,List.map_nil]at key P
    refine CallDo.ob key P aW aW (by simp[aK,ad]) ?_
    rintro r ak ⟨rfl,Y,rfl,J,U⟩
    have W:Y=ni ⟨n,k⟩ l:=akX (J.trans ((List.perm_append_comm (l₁:=l) (l₂:=[⟨n,k⟩])).trans (Wx ⟨n,k⟩ l).symm)) (M5 F.asc (El.1 be)) U
    subst W
    refine⟨Same.keys Ψ Ψ,?_⟩
    rw[a]
    simp[cJ]
    (repeat' first|refine aq ?_|simp)
    (refine hP.val Ψ ?_;simp[ba,bd,a1,e0,ha,ez,gI,ec,gD,tnL,tn,fl,ga,fold,hq,ho,iw,ad,eo,cf,b5])
    simp[nW]
   ·obtain⟨b,V,w⟩:=eX hi
    by_cases o:b.v=n
    ·have be:nk l n=some b.k:=by rw[<-o];exact Nj F.asc (fx V)
     rw[be]at a
     simp only at a
     by_cases v:b.k=k
     ·rw[if_pos v]at a
      rw[a]
      have S:(b.k !=k)=false:=by simp[v]
      have B:(b.v==n)=true:=by simp[o]
      simp[hi,w]
      (repeat' first|refine aq ?_|simp[w,hi,S,B,v,o])
      (refine hP.val Ψ ?_;simp[ba,bd,a1,e0,ha,ez,gI,ec,gD,tnL,tn,fl,ga,fold,hq,ho,iw,ad,eo,cf,b5])
      simp[nW]
     ·rw[if_neg v]at a
      rw[a]
      have S:(b.k !=k)=true:=by simp[v]
      have B:(b.v==n)=true:=by simp[o]
      simp[hi,w]
      (repeat' first|refine aq ?_|simp[w,hi,S,B,v,o])
      (refine hP.val Ψ ?_;simp[ba,bd,a1,e0,ha,ez,gI,ec,gD,tnL,tn,fl,ga,fold,hq,ho,iw,ad,eo,cf,b5])
      simp[nW]
    ·have B:(b.v==n)=false:=by simp[o]
     simp[hi,w]
     (repeat' first|refine aq ?_|simp[w,hi,B,o])
     exact bV.rng () hi (fun j y kg A=>by
      rcases(by omega:j<i\/j=i)with h|rfl
      ·exact H j y h A
      ·rw[V]at A;cases A;exact o) cc
 ·have E:(x.kind !=1)=true:=by cases x<;>first|rfl|exact absurd ⟨_,rfl⟩ Q
  have a:O=if x.kind=k then some l else none:=by rw[<-u];cases x<;>first|rfl|exact absurd ⟨_,rfl⟩ Q
  by_cases M:x.kind=k
  ·rw[if_pos M]at a;rw[a];refine fP.mk mixed a7 Tryz.func118 EI Ψ fun L κ=>?_;unfold Aw;simp;have N:(x.kind !=k)=false:=by simp[M]
   rcases R with⟨q,p⟩|⟨q,p⟩;all_goals(repeat' first|refine aq ?_|refine aP d ?_|refine aQ d ?_|refine aP f ?_|refine aQ f ?_|refine aP g ?_|refine aQ g ?_|refine aP c ?_|refine aQ c ?_|simp[q,p,E,N])
   all_goals(refine hP.val Ψ ?_;simp[ba,bd,a1,e0,ha,ez,gI,ec,gD,tnL,tn,fl,ga,fold,hq,ho,iw,ad,eo,cf,b5])
   all_goals simp[nW]
  ·rw[if_neg M]at a;rw[a];refine fP.mk mixed a7 Tryz.func118 EI Ψ fun L κ=>?_;unfold Aw;simp;have N:(x.kind !=k)=true:=by simp[M]
   rcases R with⟨q,p⟩|⟨q,p⟩;all_goals(repeat' first|refine aq ?_|refine aP d ?_|refine aQ d ?_|refine aP f ?_|refine aQ f ?_|refine aP g ?_|refine aQ g ?_|refine aP c ?_|refine aQ c ?_|simp[q,p,E,N])
   all_goals(refine hP.val Ψ ?_;simp[ba,bd,a1,e0,ha,ez,gI,ec,gD,tnL,tn,fl,ga,fold,hq,ho,iw,ad,eo,cf,b5])
   all_goals simp[nW]
def jY(o:bc (List bn)):af:= .tuple [b4 ((o.getD []).map bn.e),.bool o.isSome]
@[simp]def au7(S:aA->Prop)(o:bc (List bn)):az S (jY o)=True:=by simp[jY]
def abF{l:List bn}(h:jK l):bX au 88 [b4 (l.map bn.e)] (.bool true):=by have:=abE l;simpa only[h,decide_true]using this
def aqU{s:List cW}(h:kn s=true):bX au 160 [.str s] (.bool true):=by have:=vb s;rwa[h]at this
def Et(l:List bn):List af:=l.flatMap fun m=>[m.e,.bool true]
def XD(l:List bn):o6 l= .hdm l.length (List.range l.length)::Et l:=rfl
def NO(b:Nat):∀(n:Nat) (l:List bn),nT b (List.range' n l.length) (Et l)=(if n<=b then(l[b-n]?).map fun x=>.tuple [x.e,.bool true]else none)
 |n,[]=>by simp[nT,Et]
 |n,x::r=>by
  have e:Et (x::r)=x.e:: .bool true::Et r:=rfl;simp only[mI,List.range'_succ,e,nT];by_cases h:n=b
  ·subst h;simp
  ·rw[if_neg h,NO b (n+1) r];by_cases U:n<=b
   ·rw[if_pos U,if_pos Ω];have:b-n=(b-(n+1))+1:=Ω
    rw[this];simp
   ·rw[if_neg U,if_neg Ω]
@[simp]def avT(l:List bn):gR (o6 l)=false:=rfl
@[simp]def avZ(m:aA)(l:List bn):zO m (o6 l)=some (cb l.length [] m):=rfl
def alE(f:aA->bc (List af))(gi mk:aA)(n:Nat)(seen:List Nat)(b:Nat)(l:List bn)(x:bn)(hi:f gi=some (cb n (seen++[b]) mk))(hm:f mk=some (o6 l))(c:n=l.length)(a:l[b]? =some x):qD f (.ptr gi 0)=some (True,.tuple [x.e,.bool true]):=by subst c;simp only[XO,hi,hm,cb,XD,List.getLast?_append,List.getLast?_singleton,Option.some_or,List.range_eq_range',NO,Nat.zero_le,if_true,Nat.sub_zero,Option.map_map];simp[a]
def aeB{st:bo}{d:Nat}{K:bo->Prop}{gi mk:aA}{n:Nat}{seen:List Nat}{l:List bn}(hi:ad gi st.b=some (cb n seen mk))(hm:ad mk st.b=some (o6 l))(i:n=l.length)
  (J:(∀b,b<l.length->b∈seen)->K {st with t:=Pv.put d (.tuple [.bool false]) st.t}) (U:∀b x,l[b]? =some x->b∉seen->K {st with t:=Pv.put d (.tuple [.bool true,x.e,.bool true]) st.t,b:=cH gi (cb n (seen++[b]) mk) st.b}):
  uo st d (.ptr gi 0) K:=by
 subst i;simp only[uo,hi,cb,hm,XD,N3,and_self,true_and];refine⟨fun h=>J fun b c=>h b (by simpa using c),fun b k v a c=>?_⟩;rw[List.range_eq_range',NO]at a;simp only[Nat.zero_le,if_true,Nat.sub_zero,hl,af.tuple.injEq,rD,jk]at a;obtain⟨x,f,g,e⟩:=a;subst g e;exact U b x f c
def alz{m x:bn}{l:List bn}:x∈lY m l↔x=m\/x∈l:=by
 unfold lY;split
 ·constructor
  ·exact .inr
  ·rintro(rfl|h)<;>assumption
 ·simp[or_comm]
def acS{m:bn}{l:List bn}(h:l.Nodup):(lY m l).Nodup:=by
 unfold lY;split
 ·exact h
 ·rw[rF];exact⟨h,Ψ,fun a d b c=>by simp at c;subst c;intro e;subst e;contradiction⟩
def acR(m:bn)(l:List bn):(lY m l).length<=l.length+1:=by unfold lY;split<;>simp
def ahw(s:List cW)(t:T):∀l:List bn,(t.fold (fun v l=>lY ⟨v,s⟩ l) l).length<=l.length+t.size:=by
 induction t with
 |var n=>intro l;simp only[T.fold,T.size];exact acR _ _
 |pair a b d c=>intro l;simp only[T.fold,T.size];have:=d l;have:=c (a.fold (fun v l=>lY ⟨v,s⟩ l) l);omega
 |_=>intro l;simp[T.fold,T.size]
def ahx(s:List cW)(t:T):∀{l:List bn},l.Nodup->(t.fold (fun v l=>lY ⟨v,s⟩ l) l).Nodup:=by
 induction t with
 |var n=>intro l h;exact acS h
 |pair a b d c=>intro l h;exact c (d h)
 |_=>intro l h;exact h
def alA(s:List cW)(t:T)(x:bn):∀{l:List bn},x∈t.fold (fun v l=>lY ⟨v,s⟩ l) l↔x∈l\/(x.s=s/\t.occ x.v=true):=by
 induction t with
 |var n=>
  intro l;simp only[T.fold,alz,T.occ,ey];constructor
  ·rintro(rfl|h)
   ·exact .inr ⟨rfl,rfl⟩
   ·exact .inl h
  ·rintro(h|⟨J,U⟩)
   ·exact .inr h
   ·left;cases x;simp at J U;subst J U;rfl
 |pair a b d c=>
  intro l;simp only[T.fold,c,d,T.occ,n2];constructor
  ·rintro((h|h)|h)
   ·exact .inl h
   ·exact .inr ⟨h.1,.inl h.2⟩
   ·exact .inr ⟨h.1,.inr h.2⟩
  ·rintro(h|⟨J,U|U⟩)
   ·exact .inl (.inl h)
   ·exact .inl (.inr ⟨J,U⟩)
   ·exact .inr ⟨J,U⟩
 |_=>intro l;simp[T.fold,T.occ]
def akG(M:List bn)(k:Nat)(st:bo):Prop:=∃(seen:List Nat) (xs:List bn),seen.Nodup/\(∀b∈seen,b<M.length)/\k=M.length-seen.length/\xs=seen.filterMap (fun b=>M[b]?)/\xs.length=seen.length/\st=⟨[(15,.ptr (.obj 815) 0),(63,.ptr (.loc 2) 0)],[(.obj 812,o6 M),(.loc 2,cb M.length seen (.obj 812)),(.obj 815,[.row 2 (.obj 814) xs.length])],[(.obj 814,⟨xs.length,100,2,some (xs.map bn.e)⟩)],3,[.obj 815,.obj 814,.obj 813,.obj 812,.obj 811]⟩
def aqS{s:List Bd}(B:fm s){l:List bn}(R:jK l)(ot:l.length<=68719470000)(t:T)(aM:t.fit=true){g:List cW}(be:kn g=true):
  bX au 120 [bK (s.map Bd.e),b4 (l.map bn.e),t.e,.str g] (jY (if(t.ap (cO s)).size<=5000 then mP l (t.ap (cO s)) g else none)):=by
 have n:=rz B;have o:=P9 aM;have p:=abF R;have m:=aqU be;have d:=JP s t B.len B.sol.asc B.fit;generalize ae:t.ap (cO s)=x at d⊢;generalize w:(if x.size<=5000 then mP l x g else none)=O;by_cases q:x.size<=5000;rotate_left
 ·rw[if_neg q]at w;rw[<-w];rw[if_neg q,po q]at d;refine bL a7 Tryz.func120 Oj fun V=>?_;unfold Gc;simp;(repeat' first|refine aq ?_|refine aP n ?_|refine aQ n ?_|refine aP o ?_|refine aQ o ?_|refine aP p ?_|refine aQ p ?_|refine aP m ?_|refine aQ m ?_|refine aP d ?_|refine aQ d ?_|simp);simp[b0,ba,bd,a1];simp[jY]
 rw[if_pos q]at w;rw[if_pos q,n5 q]at d;have u:=ari g x;cases z:x.has g;rotate_left
 ·rw[z]at u;have gA:O=none:=by rw[<-w];unfold mP;rw[z];rfl
  rw[gA];refine bL a7 Tryz.func120 Oj fun V=>?_;unfold Gc;simp;(repeat' first|refine aq ?_|refine aP n ?_|refine aQ n ?_|refine aP o ?_|refine aQ o ?_|refine aP p ?_|refine aQ p ?_|refine aP m ?_|refine aQ m ?_|refine aP d ?_|refine aQ d ?_|refine aP u ?_|refine aQ u ?_|simp);simp[b0,ba,bd,a1];simp[jY]
 rw[z]at u;refine bL a7 Tryz.func120 Oj fun V=>?_;unfold Gc;simp;(repeat' first|refine aq ?_|refine aP n ?_|refine aQ n ?_|refine aP o ?_|refine aQ o ?_|refine aP p ?_|refine aQ p ?_|refine aP m ?_|refine aQ m ?_|refine aP d ?_|refine aQ d ?_|refine aP u ?_|refine aQ u ?_|simp);have X:l.Nodup:=iM.nodup mC R.asc;have L:∀xs:List bn,xs.Perm (x.fold (fun v l=>lY ⟨v,g⟩ l) l)->O=some (p1 gb xs):=fun xs Q=>by
  rw[<-w];refine Kd z ?_ fun y=>?_
  ·have J:=PG mC xs;have U:(p1 gb xs).Nodup:=(((z1 gb xs).trans Q).nodup_iff).2 (ahx g x X);exact(J.and U).imp fun{a b} h=>by have:=mt (mC.zero a b).1 h.2;omega
  ·rw[((z1 gb xs).trans Q).mem_iff,alA]
 have hlen:(x.fold (fun v l=>lY ⟨v,g⟩ l) l).length<=68719475000:=by have:=ahw g x l;omega
 rw[show kT []=o6 []from rfl];refine fX (fun i (_:Unit)=>⟨[(7,.ptr (.obj 811) 0),(10,.ptr (.loc 1) 0),(12,.ptr (.obj 813) 0),(49,b4 (l.map bn.e)),(50,aj l.length),(51,aj i)],[(.obj 811,[.str g]),(.loc 1,[aj x.kind,aj x.int,.str x.name,eb (x.args.map T.e)]),(.obj 812,o6 (l.take i)),(.obj 813,[.gmap (.obj 812)])],[],2,[.obj 813,.obj 812,.obj 811]⟩) l.length (fun _ _=>True) () cc trivial (fun _ _ _=>?_) (fun i _ hi _ _=>?_)
 ·rw[jv];simp;(repeat' first|refine aq ?_|simp);have key:=UQ (pw g) (FX g) (J6 g) 184 [.ptr (.obj 813) 0,.ptr (.obj 811) 0] (by intro a;simp[aK,pw,ad,aH,az]) Ψ (fun v l=>lY ⟨v,g⟩ l) (fun v a=>ahE g v a) x l;refine CallDo.ob key (FX g l) (by unfold pw;exact aW) (by unfold pw;exact aW) (by simp[aK,pw,ad]) ?_;rintro r ak ⟨rfl,rfl⟩;refine⟨J6 g _ _,?_⟩;unfold pw;generalize fY:x.fold (fun v l=>lY ⟨v,g⟩ l) l=M at L hlen⊢;simp[cJ];(repeat' first|refine aq ?_|simp);refine qi (akG M) M.length _ ⟨by simp[fresh,aH,az,cb,aK,ad,BF],ep (by simp[fresh,aH,az,cb,aK,ad,BF]),er (by simp[fresh,aH,az,dU,aK,ad,BF]),Ψ⟩ ⟨[],[],Ψ,Ψ,Ψ,Ψ,Ψ,rfl⟩ ?_;rintro k st ⟨seen,xs,F,A,ab,W,kP,rfl⟩ lI cZ;clear lI cZ;have hle:=Jo F A;simp;refine aeB (mk:= .obj 812) (seen:=seen) (l:=M) Ψ Ψ rfl (fun Z=>?_) (fun b y H E=>?_)
  ·have K:=Pz F A Z;rw[<-W]at K;have ee:=L xs K;simp;(repeat' first|refine aq ?_|simp);have key:=aiu xs Ω;have P:=J5 xs;unfold yv eA at key P;refine CallDo.ob key P aW aW (by simp[aK,ad]) ?_;rintro r ak ⟨rfl,rfl⟩;refine⟨Same.keys Ψ Ψ,?_⟩;rw[ee];simp[cJ];(repeat' first|refine aq ?_|simp);simp[b0,ba,bd,a1];simp[jY]
  ·have Y:∀f:aA->bc (List af),f (.loc 2)=some (cb M.length (seen++[b]) (.obj 812))->f (.obj 812)=some (o6 M)->qD f (.ptr (.loc 2) 0)=some (True,.tuple [y.e,.bool true]):=fun f J U=>alE f (.loc 2) (.obj 812) M.length seen b M y J U rfl H;have N:b<M.length:=(fM.1 H).1;have qu:=PA F A N E;simp[Y];(repeat' first|refine aq ?_|simp[Y]);all_goals try refine⟨by unfold lim;omega,?_⟩
   have G:∀S:aA->Prop,aH S (xs.map bn.e++[y.e])=True:=fun S=>by
    have e:xs.map bn.e++[y.e]=(xs++[y]).map bn.e:=Ψ
    rw[e];simp[-List.map_append]
   refine bV.next (M.length-(seen.length+1)) Ω ⟨seen++[b],xs++[y],Oc F E,(by simp;intro c aw;rcases aw with aw|rfl;exact A c aw;exact N),Ψ,by rw[List.filterMap_append,<-W];simp[H],by simp[kP],rfl⟩ ⟨by simp[fresh,aH,az,cb,aK,ad,BF,G],ep (by simp[fresh,aH,az,cb,aK,ad,BF,G]),er (by simp[fresh,aH,az,dU,aK,ad,BF,G]),Ψ⟩
 ·obtain⟨b,E,df⟩:=eX hi;have jV:lY b (l.take i)=l.take (i+1):=by
   have J:b∉l.take i:=fun h=>by
    obtain⟨j,ah,e⟩:=pk h;have kg:j<i:=by simp at ah;omega
    rw[List.getElem_take]at e;have:=(List.nodup_iff_pairwise_ne.1 X);exact(qS.1 this j i Ω hi kg) (by rw[e,df])
   rw[List.take_succ,E];simp[lY,J]
  exact iW
def Rx:C:=(aa [bA 4 false] (.seq (aa [I 7 0,cw 8 7,bQ 9 0] (gq 10 9 8 (.seq (.block 1 (aa [ck 11 5 7 9,bq 12 5 11,dR 6 kp,bW 5 6 12] (aa [aF 13 0 1 6,ay 14 1 13,I 15 1,br 16 .geq 14 15,I 17 16,ax 17 false (hk 18 1 4 6),ax 17 false (bq 19 4 18),ys 17 false (.bsl 20 4 30 [.t 19]),ax 17 false (da 21 162 20),cd 17 false 22 1,ax 17 false (br 23 .gtr 21 22),dq 24 17 23] (aZ 24 (aa [bA 4 false] .ret) .skip)))) (.region [aV 25 .add 9 1,I 9 25])))) (aa [bA 4 true] .ret)))
def Rw:C:=(aa [bQ 2 0] (.seq (aa [I 6 0,da 7 172 6,cR 8 7] (aZ 8 (aa [bQ 2 (-1)] .ret) .skip)) (aa [dr (.alloc 3 (some 831) (.int .i64 0)),dr (.store 1 (.t 3) (gP 0))] (.seq (aa [I 9 0,cw 10 9,bQ 11 0] (gq 12 11 10 (.seq (.block 1 (aa [ck 13 4 9 11,bq 14 4 13,dR 5 eE,bW 4 5 14] (.region [bq 15 4 5,b9 16 (.mkf 204 [.t 3]),cj 17 134 15 16]))) (.region [aV 18 .add 11 1,I 11 18])))) (aa [ay 19 1 3,I 2 19] .ret)))))
def Rs:C:=(aa [fw 4 2,bA 5 false] (.seq (aa [I 11 0,da 12 86 11,cR 13 12,I 14 13,cd 14 false 15 1,ax 14 false (da 16 87 15),ax 14 false (cR 17 16),dq 18 14 17] (aZ 18 (aa [fw 4 2,bA 5 false] .ret) .skip)) (aa [fp 19 2 98 [],I 6 19] (.seq (.seq (.fg false 6 (.region [I 20 1,cw 21 20,bQ 22 0])) (gq 23 22 21 (.seq (.block 1 (aa [ck 24 2 20 22,bq 25 2 24,dr (.alloc 8 none (.agg [.int .i64 0,.int .i64 0])),bW 2 8 25] (.seq (.drawn true 42 [I 27 0,I 28 6,aF 29 0 1 8,ay 30 1 29,da 31 116 30,aF 32 1 1 8,ay 33 1 32,eg 34 118 [.t 27,.t 28,.t 31,.t 33],I 26 34,dm 35 0 26,dm 36 1 26,I 9 35,I 10 36]) (.seq (aa [I 37 10,cR 38 37] (aZ 38 (aa [fw 4 2,bA 5 false] .ret) .skip)) (.region [I 39 9,I 6 39]))))) (.region [aV 40 .add 22 1,I 22 40])))) (aa [I 41 6,I 4 41,bA 5 true] .ret)))))
def Rt:C:=(aa [fw 4 2,bA 5 false] (.seq (aa [I 11 0,da 12 86 11,cR 13 12,I 14 13,cd 14 false 15 1,ax 14 false (da 16 88 15),ax 14 false (cR 17 16),dq 18 14 17] (aZ 18 (aa [fw 4 2,bA 5 false] .ret) .skip)) (aa [fp 19 2 100 [],I 6 19] (.seq (.seq (.fg false 6 (.region [I 20 1,cw 21 20,bQ 22 0])) (gq 23 22 21 (.seq (.block 1 (aa [ck 24 2 20 22,bq 25 2 24,dr (.alloc 8 none (.agg [.int .i64 0,.str []])),bW 2 8 25] (.seq (.drawn true 42 [I 27 0,I 28 6,aF 29 0 1 8,ay 30 1 29,da 31 116 30,aF 32 1 1 8,ay 33 1 32,eg 34 120 [.t 27,.t 28,.t 31,.t 33],I 26 34,dm 35 0 26,dm 36 1 26,I 9 35,I 10 36]) (.seq (aa [I 37 10,cR 38 37] (aZ 38 (aa [fw 4 2,bA 5 false] .ret) .skip)) (.region [I 39 9,I 6 39]))))) (.region [aV 40 .add 22 1,I 22 40])))) (aa [I 41 6,I 4 41,bA 5 true] .ret)))))
def Rp:C:=(aa [fw 2 1] (.seq (aa [I 12 0,cw 13 12,bQ 14 0] (gq 15 14 13 (.seq (.block 1 (aa [ck 16 1 12 14,ay 17 1 16,I 4 17] (aa [I 18 4,da 19 86 18,cR 20 19] (aZ 20 (aa [fw 2 1] .ret) .skip)))) (.region [aV 21 .add 14 1,I 14 21])))) (aa [dr (.bslm 22 (some 821) 1 46 []),I 23 0,dr (.appm 24 none 1 46 (.t 22) (.t 23)),dr (.alloc 5 (some 822) (.slice 1 .nil [])),bW 1 5 24] (aa [ay 25 1 5,b9 26 (.mkif 47 (.t 25)),b9 27 (.mkf 206 [.t 5]),cj 28 140 26 27] (aa [fp 29 1 46 [],I 6 29] (.seq (aa [ay 30 1 5,cw 31 30,bQ 32 0] (.block 2 (.loop (aa [br 33 .lss 32 31] (.seq (aZ 33 .skip (.exit 2)) (.seq (.block 3 (aa [I 34 32,ck 35 1 30 32,ay 36 1 35,I 7 34,I 8 36] (.seq (aa [I 37 7,aV 38 .gtr 37 0,I 39 38,ax 39 true (ay 40 1 5),cd 39 true 41 7,ax 39 true (aV 42 .sub 41 1),ax 39 true (ck 43 1 40 42),ax 39 true (ay 44 1 43),cd 39 true 45 8,ax 39 true (cj 46 207 44 45),ax 39 true (aV 47 .eql 46 0),ev 48 39 47] (aZ 48 (.exit 3) .skip)) (aa [bA 9 true] (.seq (aa [ay 49 1 5,cw 50 49,bQ 51 0] (.block 4 (.loop (aa [br 52 .lss 51 50] (.seq (aZ 52 .skip (.exit 4)) (.seq (.block 5 (aa [ck 53 1 49 51,ay 54 1 53,I 11 54] (aa [I 55 11,I 56 8,cj 57 207 55 56,aV 58 .neq 57 0,I 59 58,cd 59 true 60 11,cd 59 true 61 8,ax 59 true (cj 62 208 60 61),ev 63 59 62] (aZ 63 (.region [bA 9 false]) .skip)))) (.region [aV 64 .add 51 1,I 51 64]))))))) (aa [I 65 9] (aZ 65 (.region [I 66 6,I 67 8,da 68 168 67,fp 69 1 46 [.t 68],im 70 1 46 66 69,I 6 70]) .skip))))))) (.region [aV 71 .add 32 1,I 32 71]))))))) (aa [I 72 6,I 2 72] .ret)))))))
def Kw:C:=(.region [ay 3 1 1,I 4 0,aV 5 .add 4 1,b9 6 (.max2 (.t 3) (.t 5)),bW 1 1 6])
def Rq:C:=(aa [bA 5 false] (.seq (.drawn true 16 [ay 6 1 2,I 7 0,ck 8 1 6 7,ay 9 1 8,ay 10 1 2,I 11 1,ck 12 1 10 11,ay 13 1 12,cj 14 207 9 13,aV 15 .lss 14 0,I 5 15]) .ret))
def amH:b6 aS Rx [.tmp 4] 2 Tryz.f89=true:=bi
def amG:b6 aS Rw [.tmp 2] 1 Tryz.f162=true:=bi
def amC:b6 aS Rs [.tmp 4,.tmp 5] 2 Tryz.f163=true:=bi
def amD:b6 aS Rt [.tmp 4,.tmp 5] 2 Tryz.f164=true:=bi
def amz:b6 aS Rp [.tmp 2] 1 Tryz.f167=true:=bi
def Yr:b6 aS Kw [] 2 Tryz.f204=true:=bi
def amA:b6 aS Rq [.tmp 5] 3 Tryz.f206=true:=bi
def WA(s:List Bd)(l:List bG)(i:Nat)(a:List bG):Prop:=ht a/\gO s (l.drop i) a=gO s l []
def aqF{α:Type}(n:Nat)(dn:jS)(a:List α):Prop:=(dn= .no/\a=[])\/ ∃m,dn= .tr (.loc m) 0/\m<n
def Yf{s:List Bd}(g:fm s){l:List bG}(o:ht l):fP au 163 [bK (s.map Bd.e),b4 (l.map bG.e)] (nW (gO s l [])):=by
 have u:=ti o;have p:=rz g;have q:=abD o;refine fP.mk mixed a7 Tryz.func163 amC Ψ fun v κ=>?_;unfold Rs;simp;(repeat' first|refine aq ?_|refine aP p ?_|refine aQ p ?_|refine aP q ?_|refine aQ q ?_|simp);refine fX (fun i (x:Nat×jS×List bG)=>⟨[(0,bK (s.map Bd.e)),(20,b4 (l.map bG.e)),(21,aj l.length),(6,.slice 2 x.2.1 (x.2.2.map bG.e)),(22,aj i)],[],[],x.1,[]⟩) l.length (fun i x=>aqF x.1 x.2.1 x.2.2/\WA s l i x.2.2) (0,.no,[]) cc ⟨.inl ⟨rfl,rfl⟩,⟨Ψ,Ψ⟩,rfl⟩ (fun x c _=>?_) (fun i x hi c _=>?_)
 ·obtain⟨n,dn,a⟩:=x;obtain⟨h,_,c⟩:=c;simp only at h c;rw[List.drop_length]at c;simp only[gO]at c;rw[<-c];rcases h with⟨rfl,rfl⟩|⟨m,rfl,hm⟩
  ·simp;(repeat' first|refine aq ?_|simp);(refine hP.val Ψ ?_;simp[ba,bd,a1,e0,ha,ez,gI,ec,gD,tnL,tn,fl,ga,fold,hq,ho,iw,ad,eo,cf,b5]);simp[nW]
  ·simp;(repeat' first|refine aq ?_|simp);(refine hP.val Ψ ?_;simp[ba,bd,a1,e0,ha,ez,gI,ec,gD,tnL,tn,fl,ga,fold,hq,ho,iw,ad,eo,cf,b5]);simp[nW]
 ·obtain⟨n,dn,a⟩:=x;obtain⟨h,k,c⟩:=c;simp only at h k c;obtain⟨b,t,f⟩:=eX hi;have e:=o.at' b (fx t);rw[lA hi,f]at c;simp only[gO]at c;have d:=ame g k (.var b.v) (by simp[T.fit,T.ok,T.size,e.1]) b.k;have r:((T.var b.v).ap (cO s)).size<=5000:=Fk g b.v;rw[if_pos ⟨e.2,r⟩,show(T.var b.v).ap (cO s)=cO s b.v from rfl]at d;have du:b5 (.slice 2 dn (a.map bG.e))=b4 (a.map bG.e):=by simp[b5]
  simp[hi,f];cases j:kY a (cO s b.v) b.k with
  |none=>rw[j]at c d;simp only at c;rw[<-c];unfold nW at d;(repeat' first|refine aq ?_|refine aP (lT _) ?_|refine aQ (lT _) ?_|simp[f,hi]);(refine hn.own Ψ (d) (by simp[o0,ad]<;>omega) ?_;simp);(repeat' first|refine aq ?_|simp);(refine hP.val Ψ ?_;simp[ba,bd,a1,e0,ha,ez,gI,ec,gD,tnL,tn,fl,ga,fold,hq,ho,iw,ad,eo,cf,b5]);simp[nW]
  |some bs=>
   rw[j]at c d;unfold nW at d;(repeat' first|refine aq ?_|refine aP (lT _) ?_|refine aQ (lT _) ?_|simp[f,hi]);(refine hn.own Ψ (d) (by simp[o0,ad]<;>omega) ?_;simp);(repeat' first|refine aq ?_|simp);refine bV.rng (n+1+42,.tr (.loc (n+1+34)) 0,bs) hi ?_ ?_
   ·exact⟨.inr ⟨n+1+34,rfl,(by omega:n+1+34<n+1+42)⟩,Kc k (Cs g e.1) e.2 j,c⟩
   simp;exact cc
def aq0{s:List Bd}(b:fm s){l:List bG}(a:ht l):bX au 163 [bK (s.map Bd.e),b4 (l.map bG.e)] (qJ (gO s l [])):=by have:=(Yf b a).val (by simp[nW,b5]);simpa[nW,b5,cf,qJ]using this
def WB(s:List Bd)(G:List (List cW))(l:List bn)(i:Nat)(a:List bn):Prop:=jK a/\oG G a/\gS s (l.drop i) a=gS s l []
def abG{s:List Bd}(h:fm s){l:List bn}(k:jK l){G:List (List cW)}(v:G.length<=687000)(be:oG G l):bX au 164 [bK (s.map Bd.e),b4 (l.map bn.e)] (jY (gS s l [])):=by
 have hlen:∀{a:List bn},jK a->oG G a->a.length<=68719470000:=fun J U=>by have:=Eu J U;omega
 have u:=hlen k be;have m:=rz h;have n:=abF k;refine bL a7 Tryz.func164 amD fun w=>?_;unfold Rt;simp;(repeat' first|refine aq ?_|refine aP m ?_|refine aQ m ?_|refine aP n ?_|refine aQ n ?_|simp);refine eY [0,20,21] (fun i (a:List bn)=>[(6,b4 (a.map bn.e)),(22,aj i)]) l.length (WB s G l) [] cc ⟨⟨Ψ,by simp[iM]⟩,fun x r=>by simp at r,rfl⟩ (fun a c _=>?_) (fun i a hi c _=>?_)
 ·obtain⟨_,_,c⟩:=c;rw[List.drop_length]at c;simp only[gS]at c;rw[<-c];simp;(repeat' first|refine aq ?_|simp);simp[b0,ba,bd,a1];simp[jY]
 ·obtain⟨j,p,c⟩:=c;obtain⟨b,o,g⟩:=eX hi;have e:=k.at' b (fx o);have t:=be b (fx o);rw[lA hi,g]at c;simp only[gS]at c;have d:=aqS h j (hlen j p) (.var b.v) (by simp[T.fit,T.ok,T.size,e.1]) e.2;have q:((T.var b.v).ap (cO s)).size<=5000:=Fk h b.v;rw[if_pos q,show(T.var b.v).ap (cO s)=cO s b.v from rfl]at d;simp[hi,g];cases f:mP a (cO s b.v) b.s with
  |none=>rw[f]at c d;simp only at c;rw[<-c];simp only[jY]at d;(repeat' first|refine aq ?_|refine aP (lT _) ?_|refine aQ (lT _) ?_|refine aP d ?_|refine aQ d ?_|simp[g,hi]);simp[b0,ba,bd,a1];simp[jY]
  |some bs=>rw[f]at c d;simp only[jY]at d;(repeat' first|refine aq ?_|refine aP (lT _) ?_|refine aQ (lT _) ?_|refine aP d ?_|refine aQ d ?_|simp[g,hi]);exact bV.rng bs hi ⟨Ke j (Cs h e.1) e.2 f,Kf p t f,c⟩ cc
end
section
open Go Go.Pv Go.Lib
def cM(d:List Bd):af:=bK (d.map Bd.e)
@[simp]def auS(S:aA->Prop)(d:List Bd):az S (cM d)=True:=by simp[cM]
@[simp]def asY(d:List Bd):cells (cM d)=[cM d]:=rfl
@[simp]def awg(d:List Bd):eS (cM d)=true:=rfl
@[simp]def awG(d:List Bd):b5 (cM d)=cM d:=by simp[cM]
def TG:∀(S:aA->Prop) (x:List Bd),az S (cM x):=fun S x=>by simp
def Ns(S:aA->Prop):∀l:List (List Bd),aH S (l.map cM)
 |[]=>by simp[aH]
 |x::xs=>by simp[aH,Ns S xs]
@[simp]def Xb(S:aA->Prop)(l:List (List Bd)):aH S (l.map cM)=True:=h0 (Ns S l)
@[simp]def PN:∀l:List (List Bd),cf (l.map cM)=l.map cM
 |[]=>rfl
 |x::xs=>by simp[cf,PN xs]
def gv(d:List Bt):af:=bK (d.map Bt.e)
@[simp]def as0(d:List Bt):cells (gv d)=[gv d]:=rfl
@[simp]def awi(d:List Bt):eS (gv d)=true:=rfl
def La(d:List Bd):gv (d.map Bd.b)=cM d:=by simp only[gv,cM,zy]
def Lb(l:List (List Bd)):(l.map fun d=>d.map Bd.b).map gv=l.map cM:=by rw[List.map_map];exact List.map_congr_left fun d _=>La d
@[simp]def auV(S:aA->Prop)(d:List Bt):az S (gv d)=True:=by simp[gv]
@[simp]def awJ(d:List Bt):b5 (gv d)=gv d:=by simp[gv]
def Xd(S:aA->Prop):∀l:List (List Bt),aH S (l.map gv)
 |[]=>by simp[aH]
 |x::xs=>by simp[aH,Xd S xs]
@[simp]def auN(S:aA->Prop)(l:List (List Bt)):aH S (l.map gv)=True:=h0 (Xd S l)
abbrev vp(l:List (List Bd)):cQ:=eA cM 821 822 46 1 l
def J1(l:List (List Bd)):eB (vp l):=yw TG l
def ahH(l:List (List Bd))(m:l.length<=68719476736)(i j:Nat)(x y:List Bd)(hi:l[i]? =some x)(h:l[j]? =some y):bD au 206 [aj i,aj j,.ptr (.obj 822) 0] (vp l) fun r g=>r= .bool (iJ e5 x y)/\g=vp l:=by have a:=J1 l;obtain⟨c,d⟩:=fM.1 hi;obtain⟨e,b⟩:=fM.1 h;have f:bX au 207 [cM x,cM y] (aj (e5 x y)):=JN x y;unfold vp eA at a⊢;refine bD.mk mixed a7 Tryz.func206 amA Ψ a.obj fun n k=>?_;unfold Rq;simp[c,e,d,b];(repeat' first|refine aq ?_|refine aP f ?_|refine aQ f ?_|simp[c,e,d,b]);refine c3.at _ (.inl rfl) a (Same.refl _) aW aW ?_;simp[c9,ba,bd,a1,iJ]
noncomputable def Tryz.dsT:TypeInfo:=(au.info? 47).get bi
noncomputable def Tryz.dsE:TypeInfo:=(au.info? 46).get bi
def Tryz.dsK(n:Nat)(U:2<=n):Lib.swapperK n Tryz.dsE 23=9:=by
 have a:Tryz.dsE.hasPointers=true:=bi
 have b:Tryz.dsE.bytes=24:=bi
 have c:(n==0)=false:=by simp;omega
 have d:(n==1)=false:=by simp;omega
 simp[Lib.swapperK,a,b,c,d]
def air(l:List (List Bd))(d:l.length<=68719476736):bD au 140 [.iface 47 (.row 1 (.obj 821) l.length),.func 206 [.ptr (.obj 822) 0]] (vp l) fun r b=>r= .tuple []/\b=vp (p1 e5 l):=by
 refine(ahK TG (K:=821) (B:=822) (sz:=1) 47 Tryz.dsT Tryz.dsE bi bi bi bi 23 (fun _=>by kernel_rfl) Tryz.dsK 206 (iJ e5) mB.ltOk l d (fun a h i j x y hi c=>ahH a Ω i j x y hi c) (fun a h i j hi c=>?_)).mono ?_
 ·have:=U4 (P:=au) false 230 (fun args W=>run_callFunc_extern Tryz.func230 bi bi bi (e:=FM false) bi args W)
   46 Tryz.dsE bi (.inr ⟨by kernel_rfl,fun _=>by kernel_rfl⟩) (J1 a) (K:=821) (n:=l.length) (el:=46) (sz:=1) bi (xs:=a.map cM) (by simp[eA,ad,h]) i j hi c
  refine this.mono ?_;rintro r b ⟨rfl,rfl⟩;refine⟨rfl,?_⟩;simp[eA,cH,Xz,h]
 ·rintro r b ⟨rfl,a,rfl,J,U⟩;exact⟨rfl,by rw[aaT mB J U]⟩
end
end Go.Proofs.YtahlgcidhnjlbaaGreat
