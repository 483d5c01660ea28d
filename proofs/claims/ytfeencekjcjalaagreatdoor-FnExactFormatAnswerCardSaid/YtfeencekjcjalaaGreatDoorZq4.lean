/- Contracts: classes of variables, II. -/
import Derived.Test.YtfeencekjcjalaaGreatDoorProg
import Derived.Shelf.Sort.Plain
import Derived.Ground.NamesProg
import Derived.Sort.OwnSortedInts
import Derived.Lib.OwnBridge
import Derived.Test.YtfeencekjcjalaaGreatDoorZq3
set_option linter.all false
set_option maxHeartbeats 4000000
set_option maxRecDepth 4000
open Bool renaming and_eq_true->cD,eq_iff_iff->rO,false_eq_true->hI,or_eq_true->mR
open Go renaming Program->cE
open Go.IntKind renaming bits->pw,i64->oQ,signed->uj,u64->hV,wrap->uk
open Go.IntWalk renaming i64_in->lY
open Go.Op renaming bytesLess->h5
open Go.Proofs.Tryz renaming prog->ar
open Go.Value renaming cells->nu,int->pz
open List renaming cons_append->b3,drop_eq_getElem_cons->mu,getElem?_eq_getElem->cl,getElem?_eq_some_iff->fp,getElem_of_mem->oS,length_map->iz,map_cons->fG,mem_append->j0,mem_cons->gj,mem_cons_of_mem->pB,mem_filter->n3,mem_map->iA,mem_of_getElem?->ev,nil_append->b6,nodup_append->rS,pairwise_cons->n4,pairwise_iff_getElem->q1,take_of_length_le->gv
open List.Nodup renaming length_le_of_subset->QU
open List.Pairwise renaming imp_of_mem->atL
open List.Perm renaming eq_of_pairwise->QV,swap->ayq
open List.cons renaming injEq->pA
open Nat renaming le_refl->e2,le_trans->j1
open Ne renaming symm->lb
open Option renaming bind_eq_some_iff->n5,bind_some->ld,getD_some->mv,isSome_iff_exists->gk,map_eq_some_iff->gI,map_some->nz
open Option.some renaming inj->ft,injEq->dz
open Prod.mk renaming injEq->hW
open _root_ renaming False->eF,Option->aZ,UInt8->b7,beq_iff_eq->dW,congrArg->eG,decide_eq_false->l0,decide_eq_false_iff_not->hb,decide_eq_true_eq->e3
namespace Go.Pv
section
open Go
def dp{α:Type}(k:Int):List (Int×α)->aZ α
 |[]=>none
 |(i,v)::r=>if k=i then some v else dp k r
def fa{α:Type}(k:Int)(v:α):List (Int×α)->List (Int×α)
 |[]=>[(k,v)]
 |(i,w)::r=>if k=i then(i,v)::r else(i,w)::fa k v r
def cC{α:Type}(m:List (Int×α)):List Int:=m.map (·.1)
def oM{α:Type}(k:Int)(v:α)(j:Int):∀m:List (Int×α),dp j (fa k v m)=if j=k then some v else dp j m
 |[]=>by simp only[fa,dp]
 |(i,w)::r=>by
  simp only[fa];by_cases h:k=i
  ·subst h;by_cases U:j=k<;>simp[dp,U]
  ·by_cases U:j=i
   ·subst U;have:¬j=k:=fun e=>h e.symm;simp[dp,h,this]
   ·simp[dp,h,U,oM k v j r]
def J1{α:Type}{k:Int}:∀{m:List (Int×α)},(dp k m).isSome=true↔k∈cC m
 |[]=>by simp[dp,cC]
 |(i,w)::r=>by
  simp only[dp,cC,fG,gj];by_cases h:k=i
  ·simp[h]
  ·simp only[h,if_false,false_or];exact J1
def arI{α:Type}{k:Int}{m:List (Int×α)}:dp k m=none↔k∉cC m:=by rw[<-J1];cases dp k m<;>simp
def EY{α:Type}{k:Int}{v:α}:∀{m:List (Int×α)},k∈cC m->cC (fa k v m)=cC m
 |[],h=>by simp[cC]at h
 |(i,w)::r,h=>by
  simp only[fa];by_cases e:k=i
  ·simp[e,cC]
  ·rw[if_neg e];have a:k∈cC r:=by simpa[cC,e]using h
   have:=EY (v:=v) a;simp only[cC]at this⊢;simp[this]
def XG{α:Type}{k:Int}{v:α}:∀{m:List (Int×α)},k∉cC m->cC (fa k v m)=cC m++[k]
 |[],h=>by simp[cC,fa]
 |(i,w)::r,h=>by have e:¬k=i:=fun e=>h (by simp[cC,e]);have b:k∉cC r:=fun a=>h (by simp[cC]at a⊢;exact .inr a);have:=XG (v:=v) b;simp only[fa,if_neg e];simp only[cC]at this⊢;simp[this]
structure bE where
 up:List (Int×Int)
 shape:List (Int×T)
 shaped:List (Int×Bool)
 color:List (Int×Int)
 size:List (Int×Int)
 full:List (Int×T)
def bE.shd(c:bE)(x:Int):Bool:=(dp x c.shaped).getD false
def bE.shp(c:bE)(x:Int):T:=(dp x c.shape).getD .nil
def bE.col(c:bE)(x:Int):Int:=(dp x c.color).getD 0
def bE.sz(c:bE)(x:Int):Int:=(dp x c.size).getD 0
def iL(m:List (Int×Int))(v:Int):Int:=(dp v m).getD 0
def yn:Nat->List (Int×Int)->Int->aZ (Int×List (Int×Int))
 |0,_,_=>none
 |n+1,m,v=>if iL m v=v then some (v,m)else yn n (fa v (iL m (iL m v)) m) (iL (fa v (iL m (iL m v)) m) v)
def AR(v:Int)(m:List (Int×Int)):List (Int×Int):=if(dp v m).isSome then m else fa v v m
def rt(c:bE)(v:Int):aZ (Int×bE):=(yn (v.toNat+1) (AR v c.up) v).map fun p=>(p.1,{c with up:=p.2})
def T.foldO{α:Type}(f:Int->α->aZ α):T->α->aZ α
 | .var n,a=>f n a
 | .pair x y,a=>(x.foldO f a).bind (y.foldO f)
 |_,a=>some a
def T.mapO{α:Type}(f:Int->α->aZ (T×α)):T->α->aZ (T×α)
 | .var n,a=>f n a
 | .pair x y,a=>(x.mapO f a).bind fun p=>(y.mapO f p.2).map fun q=>(.pair p.1 q.1,q.2)
 |t,a=>some (t,a)
def T.sizeO{α:Type}(f:Int->α->aZ (Int×α)):T->α->aZ (Int×α)
 | .var n,a=>(f n a).map fun p=>(if 5001<p.1 then 5001 else p.1,p.2)
 | .pair x y,a=>(x.sizeO f a).bind fun p=>if 5000<p.1 then some p else(y.sizeO f p.2).map fun q=>(if 5001<1+p.1+q.1 then 5001 else 1+p.1+q.1,q.2)
 |_,a=>some (1,a)
def Cb(t:T)(c:bE):aZ bE:=t.foldO (fun v c=>(rt c v).map (·.2)) c
structure vt where
 c:bE
 seen:List (Int×Bool)
 found:Bool
def ym(rec:T->bE->List (Int×Bool)->aZ vt)(x:Int)(v:Int)(a:vt):aZ vt:=
 (rt a.c v).bind fun p=>if a.found=true\/p.1=x then some ⟨p.2,a.seen,true⟩
  else if(dp p.1 a.seen).getD false=false/\p.2.shd p.1=true then rec (p.2.shp p.1) p.2 (fa p.1 true a.seen)
  else some ⟨p.2,a.seen,a.found⟩
def qS:Nat->Int->T->bE->List (Int×Bool)->aZ vt
 |0,_,_,_,_=>none
 |n+1,x,t,c,seen=>t.foldO (ym (qS n x) x) ⟨c,seen,false⟩
def bE.know(c:bE)(x:Int)(t:T):bE:={c with shape:=fa x t c.shape,shaped:=fa x true c.shaped}
def wx(n:Nat)(x:Int)(t:T)(c:bE):aZ (Bool×bE):=(qS n x t (c.know x t) []).map fun a=>(!a.found,a.c)
def bE.join(c:bE)(x y:Int):bE:={c with up:=fa y x c.up}
def s6(rec:T->T->bE->aZ (Bool×bE))(n:Nat)(x y:Int)(c:bE):aZ (Bool×bE):=
 if c.shd y=false then
  (if c.shd x=false then some (true,c)else(qS n x (c.shp x) c []).map fun a=>(!a.found,a.c))
 else if c.shd x=false then wx n x (c.shp y) c
 else(qS n x (c.shp y) c []).bind fun a=>if a.found=true then some (false,a.c)else
  (qS n x (a.c.shp x) a.c []).bind fun b=>if b.found=true then some (false,b.c)else rec (b.c.shp x) (c.shp y) b.c
def hd:Nat->T->T->bE->aZ (Bool×bE)
 |0,_,_,_=>none
 |n+1,.var i,.var j,c=>(rt c i).bind fun p=>(rt p.2 j).bind fun q=>if p.1=q.1 then some (true,q.2)else if q.1<p.1 then s6 (hd n) n q.1 p.1 (q.2.join q.1 p.1)else s6 (hd n) n p.1 q.1 (q.2.join p.1 q.1)
 |n+1,.var i,b,c=>(rt c i).bind fun p=>if p.2.shd p.1=false then wx n p.1 b p.2 else hd n (p.2.shp p.1) b p.2
 |n+1,a,.var j,c=>hd n (.var j) a c
 |n+1,.pair e a2,.pair d f,c=>(hd n e d c).bind fun p=>if p.1=true then hd n a2 f p.2 else some (false,p.2)
 |_+1,a,b,c=>some (decide (a=b),c)
structure kc (m:List (Int×Int)) (ρ:Int->Int):Prop where
 up:∀v u,dp v m=some u->(0<=u/\u<=v/\u∈cC m)/\ρ u=ρ v/\(ρ v=v↔u=v)
 no:∀v,v∉cC m->ρ v=v
def kc.get{m:List (Int×Int)}{ρ:Int->Int}(h:kc m ρ){v:Int}(a:v∈cC m):∃u,dp v m=some u/\iL m v=u:=by have:=J1.2 a;obtain⟨u,hu⟩:=gk.1 this;exact⟨u,hu,by simp[iL,hu]⟩
def kc.root{m:List (Int×Int)}{ρ:Int->Int}(h:kc m ρ):∀(n:Nat) (v:Int),v.toNat<=n->(ρ v<=v/\ρ (ρ v)=ρ v/\(v∈cC m->ρ v∈cC m/\0<=ρ v)):=by
 intro n;induction n using Nat.strongRecOn with
 |ind n d=>
 intro v i;by_cases a:v∈cC m
 ·obtain⟨u,J,_⟩:=h.get a;obtain⟨⟨c,a2,a3⟩,a4,a5⟩:=h.up v u J;by_cases e:u=v
  ·have:=a5.2 e;subst e;rw[this];exact⟨Ω,this,fun _=>⟨a3,c⟩⟩
  ·obtain⟨g,f,b⟩:=d (u.toNat) Ω u Ω;rw[<-a4];exact⟨Ω,f,fun _=>b a3⟩
 ·have:=h.no v a;rw[this];exact⟨Ω,this,fun h=>absurd h a⟩
def kc.le{m:List (Int×Int)}{ρ:Int->Int}(h:kc m ρ)(v:Int):ρ v<=v:=(h.root v.toNat v (e2 _)).1
def kc.idem{m:List (Int×Int)}{ρ:Int->Int}(h:kc m ρ)(v:Int):ρ (ρ v)=ρ v:=(h.root v.toNat v (e2 _)).2.1
def kc.mem{m:List (Int×Int)}{ρ:Int->Int}(h:kc m ρ){v:Int}(a:v∈cC m):ρ v∈cC m/\0<=ρ v:=(h.root v.toNat v (e2 _)).2.2 a
def aaG{ρ:Int->Int}:∀(n:Nat) (m:List (Int×Int)) (v:Int),kc m ρ->v∈cC m->v.toNat<n->∃a,yn n m v=some (ρ v,a)/\kc a ρ/\cC a=cC m
 |0,_,_,_,_,l=>Ω
 |n+1,m,v,h,g,l=>by
  obtain⟨u,J,U⟩:=h.get g;obtain⟨⟨p,a2,a3⟩,a4,a5⟩:=h.up v u J;simp only[yn,U];by_cases e:u=v
  ·rw[if_pos e];have:=a5.2 e;exact⟨m,by rw[this],h,rfl⟩
  ·rw[if_neg e];obtain⟨x,g1,g2⟩:=h.get a3;obtain⟨⟨j,q,f⟩,d,s⟩:=h.up u x g1;rw[g2];have b:=EY (v:=x) g;have i:kc (fa v x m) ρ:=by
    refine⟨fun w y hw=>?_,fun w hw=>h.no w (by rw[b]at hw;exact hw)⟩;rw[oM]at hw;rw[b];by_cases ew:w=v
    ·subst ew;rw[if_pos rfl]at hw;cases hw;refine⟨⟨j,Ω,f⟩,by rw[d,a4],⟨fun o=>absurd (a5.1 o) e,fun r=>?_⟩⟩;have:u=w:=Ω
     exact absurd this e
    ·rw[if_neg ew]at hw;exact h.up w y hw
   have c:iL (fa v x m) v=x:=by simp[iL,oM]
   rw[c];obtain⟨a,k,c2,c3⟩:=aaG n (fa v x m) x i (by rw[b];exact f) Ω;exact⟨a,by rw[k,d,a4],c2,by rw[c3,b]⟩
structure jC (ρ:Int->Int) (c cB:bE):Prop where
 ru:kc cB.up ρ
 keys:cC cB.up=cC c.up
 eq:cB={c with up:=cB.up}
def jC.refl{ρ:Int->Int}{c:bE}(h:kc c.up ρ):jC ρ c c:=⟨h,rfl,rfl⟩
def jC.trans{ρ:Int->Int}{a b c:bE}(h:jC ρ a b)(k:jC ρ b c):jC ρ a c:=⟨k.ru,k.keys.trans h.keys,by rw[k.eq,h.eq]⟩
def jC.shd{ρ:Int->Int}{c a:bE}(h:jC ρ c a)(x:Int):a.shd x=c.shd x:=by rw[h.eq];rfl
def jC.shp{ρ:Int->Int}{c a:bE}(h:jC ρ c a)(x:Int):a.shp x=c.shp x:=by rw[h.eq];rfl
def vf{ρ:Int->Int}{c:bE}{v:Int}(h:kc c.up ρ)(b:v∈cC c.up):∃a,rt c v=some (ρ v,a)/\jC ρ c a:=by
 have e:AR v c.up=c.up:=by simp[AR,J1.2 b]
 obtain⟨d,J,U,f⟩:=aaG (v.toNat+1) c.up v h b Ω;exact⟨{c with up:=d},by simp[rt,e,J],⟨U,f,rfl⟩⟩
def aqx{ρ:Int->Int}{c:bE}{v:Int}(h:kc c.up ρ)(d:0<=v)(b:v∉cC c.up):rt c v=some (v,{c with up:=fa v v c.up})/\kc (fa v v c.up) ρ/\cC (fa v v c.up)=cC c.up++[v]:=by
 have g:=arI.2 b;have a:=XG (v:=v) b;refine⟨?_,⟨fun w u hw=>?_,fun w hw=>h.no w fun hm=>hw (by rw[a];simp[hm])⟩,a⟩
 ·simp[rt,AR,g,yn,iL,oM]
 ·rw[oM]at hw;rw[a];by_cases e:w=v
  ·subst e;rw[if_pos rfl]at hw;cases hw;exact⟨⟨d,Ω,Ψ⟩,rfl,⟨fun _=>rfl,fun _=>h.no _ b⟩⟩
  ·rw[if_neg e]at hw;obtain⟨⟨f,a2,a3⟩,a4⟩:=h.up w u hw;exact⟨⟨f,a2,by simp[a3]⟩,a4⟩
def bE.ph(c:bE)(x:Int):aZ T:=if c.shd x then some (c.shp x)else none
def jC.ph{ρ:Int->Int}{c a:bE}(h:jC ρ c a):a.ph=c.ph:=by funext x;simp only[bE.ph,h.shd,h.shp]
def kV(ph:Int->aZ T)(ρ:Int->Int)(a:Int->T):Prop:=(∀v,a v=a (ρ v))/\∀x t,ρ x=x->ph x=some t->a x=t.ap a
def jP(ph:Int->aZ T)(ρ:Int->Int)(z u:Int):Prop:=ρ z=z/\∃t w,ph z=some t/\t.occ w=true/\ρ w=u
inductive oa (E:Int->Int->Prop):Int->Int->Prop
 |refl (a:Int):oa E a a
 |step {a b c:Int}:E a b->oa E b c->oa E a c
def pJ(V:List Int)(ph:Int->aZ T):Prop:= ∀x t,ph x=some t->t.kind≠1/\(∀w,t.occ w=true->w∈V)/\x∈V
def J5(V:List Int)(ph:Int->aZ T)(seen:List (Int×Bool)):Nat:=(V.filter fun v=>(ph v).isSome&& !((dp v seen).getD false)).length
def nL(seen:List (Int×Bool))(z:Int):Prop:=(dp z seen).getD false=true
structure acK (V:List Int) (ph:Int->aZ T) (ρ:Int->Int) (x:Int) (occ:Int->Prop) (a bu:vt):Prop where
 sm:jC ρ a.c bu.c
 sub:∀z,nL a.seen z->nL bu.seen z
 yes:bu.found=true->a.found=true\/ ∃w,occ w/\oa (jP ph ρ) (ρ w) x
 kept:a.found=true->bu.found=true
 no:bu.found=false->(∀w,occ w->ρ w≠x/\((ph (ρ w)).isSome=true->nL bu.seen (ρ w)))/\∀r,nL bu.seen r->¬nL a.seen r->∀u,jP ph ρ r u->u≠x/\((ph u).isSome=true->nL bu.seen u)
def Hn{α:Type}{p q:α->Bool}:∀{V:List α},(∀x∈V,q x=true->p x=true)->(V.filter q).length<=(V.filter p).length
 |[],_=>by simp
 |y::V,h=>by have:=Hn (p:=p) (q:=q) (V:=V) fun x a=>h x (by simp[a]);have b:=h y Ψ;simp only[List.filter_cons];cases e:q y<;>cases c:p y<;>simp_all<;>omega
def Ho{α:Type}{p q:α->Bool}{v:α}:∀{V:List α},(∀x∈V,q x=true->p x=true)->v∈V->p v=true->q v=false->(V.filter q).length<(V.filter p).length
 |[],_,h,_,_=>by simp at h
 |x::V,h,b,c,d=>by
  have hle:=Hn (p:=p) (q:=q) (V:=V) fun x a=>h x (pB _ a);simp only[List.filter_cons];rcases gj.1 b with rfl|b
  ·simp[c,d];omega
  ·have:=Ho (fun x a=>h x (pB _ a)) b c d;have a:=h x Ψ;cases e:q x<;>cases f:p x<;>simp_all<;>omega
def arV{V:List Int}{ph:Int->aZ T}{s b:List (Int×Bool)}(h:∀z,nL s z->nL b z):J5 V ph b<=J5 V ph s:=
 Hn fun x _ a=>by
  simp only[cD,Bool.not_eq_true']at a⊢;refine⟨a.1,?_⟩;cases e:(dp x s).getD false with
  |false=>rfl
  |true=>have:=h x e;unfold nL at this;rw[a.2]at this;cases this
def Nj{s:List (Int×Bool)}{r z:Int}:nL (fa r true s) z↔z=r\/nL s z:=by unfold nL;rw[oM];by_cases h:z=r<;>simp[h]
def aql{V:List Int}{ph:Int->aZ T}{ρ:Int->Int}{x:Int}(Z:pJ V ph)(k:Nat):∀(t:T) (a:vt),kc a.c.up ρ->cC a.c.up=V->a.c.ph=ph->(∀w,t.occ w=true->w∈V)->J5 V ph a.seen<=k->
  ∃N bu,(∀n,N<=n->t.foldO (ym (qS n x) x) a=some bu)/\acK V ph ρ x (fun w=>t.occ w=true) a bu:=by
 induction k using Nat.strongRecOn with
 |ind k Ni=>
 intro t;induction t with
 |var v=>
  intro a m s g aM y;obtain⟨j,J,U⟩:=vf m (by rw[s];exact aM v (by simp[T.occ]));have S:j.shd (ρ v)=(ph (ρ v)).isSome:=by rw[U.shd,<-g];simp only[bE.ph];split<;>simp_all
  by_cases d:a.found=true\/ρ v=x
  ·refine⟨0,⟨j,a.seen,true⟩,fun n _=>by simp[T.foldO,ym,J,d],U,fun z c=>c,fun _=>?_,fun _=>rfl,fun h=>by cases h⟩;rcases d with d|d
   ·exact .inl d
   ·exact .inr ⟨v,by simp[T.occ],by rw[d];exact .refl _⟩
  ·by_cases o:(dp (ρ v) a.seen).getD false=false/\j.shd (ρ v)=true
   ·have E:ph (ρ v)=some (j.shp (ρ v)):=by rw[<-g];simp only[bE.ph,U.shp];rw[if_pos (by rw[<-U.shd];exact o.2)]
    obtain⟨g1,g2,g3⟩:=Z _ _ E;have bN:J5 V ph (fa (ρ v) true a.seen)<k:=by
     refine Nat.lt_of_lt_of_le (Ho (v:=ρ v) (fun z _ c=>?_) g3 ?_ ?_) y
     ·simp only[cD,Bool.not_eq_true']at c⊢;refine⟨c.1,?_⟩;rw[oM]at c;by_cases e:z=ρ v
      ·subst e;exact o.1
      ·rw[if_neg e]at c;exact c.2
     ·simp[E,o.1]
     ·simp[oM]
    obtain⟨N,bu,K,b⟩:=Ni _ bN (j.shp (ρ v)) ⟨j,fa (ρ v) true a.seen,false⟩ U.ru (by rw[U.keys];exact s) (by rw[U.ph];exact g) g2 (e2 _);refine⟨N+1,bu,fun n av=>?_,U.trans b.sm,fun z c=>b.sub z (Nj.2 (.inr c)),fun L=>?_,fun h=>absurd (.inl h) d,fun A=>?_⟩
    ·obtain⟨n',rfl⟩:∃n',n=n'+1:=⟨n-1,Ω⟩;simp only[T.foldO,ym,J,ld,if_neg d,if_pos o,qS];exact K n' Ω
    ·rcases b.yes L with h|⟨w,i,l⟩
     ·cases h
     ·exact .inr ⟨v,by simp[T.occ],.step ⟨by rw[kc.idem m],_,w,E,i,rfl⟩ l⟩
    ·obtain⟨i,l⟩:=b.no A;have X:nL bu.seen (ρ v):=b.sub _ (Nj.2 (.inl rfl));refine⟨fun w hw=>?_,fun r M B u hu=>?_⟩
     ·simp[T.occ]at hw;subst hw;exact⟨fun e=>d (.inr e),fun _=>X⟩
     ·by_cases O:r=ρ v
      ·subst O;obtain⟨_,dP,w,P,z2,rfl⟩:=hu;rw[E]at P;cases P;exact i w z2
      ·exact l r M (fun h=>(Nj.1 h).elim O B) u hu
   ·have vX:a.found=false:=by cases e:a.found with
     |false=>rfl
     |true=>exact absurd (.inl e) d
    refine⟨0,⟨j,a.seen,a.found⟩,fun n _=>by simp only[T.foldO,ym,J,ld,if_neg d,if_neg o],U,fun z c=>c,fun h=>.inl h,fun h=>h,fun _=>⟨fun w hw=>?_,fun r J U=>absurd J U⟩⟩;simp[T.occ]at hw;subst hw;refine⟨fun e=>d (.inr e),fun bM=>?_⟩;unfold nL;cases e:(dp (ρ v) a.seen).getD false with
    |true=>rfl
    |false=>exact absurd ⟨e,by rw[S];exact bM⟩ o
 |pair p q F G=>
  intro a m s g aM y;obtain⟨Y,D,K,b⟩:=F a m s g (fun w hw=>aM w (by simp[T.occ,hw])) y;obtain⟨W,a2,aC,f⟩:=G D b.sm.ru (by rw[b.sm.keys];exact s) (by rw[b.sm.ph];exact g) (fun w hw=>aM w (by simp[T.occ,hw])) (j1 (arV b.sub) y);refine⟨max Y W,a2,fun n av=>by simp only[T.foldO];rw[K n Ω];exact aC n Ω,b.sm.trans f.sm,fun z c=>f.sub z (b.sub z c),fun L=>?_,fun h=>f.kept (b.kept h),fun A=>?_⟩
  ·rcases f.yes L with h|⟨w,i,l⟩
   ·rcases b.yes h with h|⟨w,i,l⟩
    ·exact .inl h
    ·exact .inr ⟨w,by simp[T.occ,i],l⟩
   ·exact .inr ⟨w,by simp[T.occ,i],l⟩
  ·have H:D.found=false:=by cases e:D.found with
    |false=>rfl
    |true=>have:=f.kept e;rw[A]at this;cases this
   obtain⟨R,Q⟩:=b.no H;obtain⟨s1,s2⟩:=f.no A;refine⟨fun w hw=>?_,fun r M B u hu=>?_⟩
   ·simp only[T.occ,mR]at hw;rcases hw with hw|hw
    ·exact⟨(R w hw).1,fun h=>f.sub _ ((R w hw).2 h)⟩
    ·exact s1 w hw
   ·by_cases h:nL D.seen r
    ·exact⟨(Q r h B u hu).1,fun cV=>f.sub _ ((Q r h B u hu).2 cV)⟩
    ·exact s2 r M h u hu
 |_=>intro a m s g aM y;exact⟨0,a,fun n _=>rfl,jC.refl m,fun z c=>c,fun h=>.inl h,fun h=>h,fun _=>⟨fun w hw=>by simp[T.occ]at hw,fun r J U=>absurd J U⟩⟩
def Jw{ρ:Int->Int}{x:Int}{c:bE}{t:T}(f:kc c.up ρ)(j:pJ (cC c.up) c.ph)(aM:∀w,t.occ w=true->w∈cC c.up):
  ∃N a,(∀n,N<=n->qS n x t c []=some a)/\jC ρ c a.c/\(a.found=true↔∃w,t.occ w=true/\oa (jP c.ph ρ) (ρ w) x):=by
 obtain⟨N,a,J,U⟩:=aql (x:=x) j _ t ⟨c,[],false⟩ f rfl rfl aM (e2 _);refine⟨N+1,a,fun n B=>?_,U.sm,fun h=>?_,fun⟨w,hw,s⟩=>?_⟩
 ·obtain⟨n',rfl⟩:∃n',n=n'+1:=⟨n-1,Ω⟩;exact J n' Ω
 ·rcases U.yes h with h|h
  ·cases h
  ·exact h
 ·cases e:a.found with
  |true=>rfl
  |false=>
   obtain⟨d,l⟩:=U.no e;have key:∀z,oa (jP c.ph ρ) z x->z≠x->((c.ph z).isSome=true->nL a.seen z)->eF:=by
    have:∀z y,oa (jP c.ph ρ) z y->y=x->z≠x->((c.ph z).isSome=true->nL a.seen z)->eF:=by
     intro z y r;induction r with
     |refl z=>intro h o;exact absurd h o
     | @step z b A he _ m=>intro q v i;obtain⟨_,u,w',g,_,_⟩:=id he;have p:=i (by simp[g]);obtain⟨g1,g2⟩:=l z p (by simp[nL,dp]) b he;exact m q g1 g2
    exact fun z k=>this z x k rfl
   exact(key _ s (d w hw).1 (d w hw).2).elim
end
section
open Go
def acX{E:Int->Int->Prop}{x:Int}{r:Int->Nat}{M:Nat}(h:∀z u,z≠x->E z u->r u<r z)(c:∀u,E x u->r u<M)(d:∀u,E x u->¬oa E u x):∃a:Int->Nat,∀z u,E z u->a u<a z:=by
 classical
 refine⟨fun z=>if oa E z x then r z+M else r z,fun z u he=>?_⟩;show(if oa E u x then r u+M else r u)<(if oa E z x then r z+M else r z);by_cases b:z=x
 ·subst b;have J:=d u he;have U:=c u he;rw[if_neg J,if_pos (oa.refl z)];omega
 ·have J:=h z u b he;by_cases hu:oa E u x
  ·rw[if_pos hu,if_pos (oa.step he hu)];omega
  ·rw[if_neg hu];split<;>omega
def oh(ph:Int->aZ T)(ρ:Int->Int):Nat->Int->T
 |0,v=>.var (ρ v)
 |n+1,v=>match ph (ρ v)with
  |none=>.var (ρ v)
  |some t=>t.ap (oh ph ρ n)
section
variable {ph:Int->aZ T} {ρ:Int->Int} {r:Int->Nat}
def afK(hid:∀v,ρ (ρ v)=ρ v):∀(n:Nat) (v:Int),oh ph ρ n v=oh ph ρ n (ρ v)
 |0,v=>by simp[oh,hid]
 |n+1,v=>by simp[oh,hid]
def UG(hid:∀v,ρ (ρ v)=ρ v)(a:∀z u,jP ph ρ z u->r u<r z):∀(n:Nat) (v:Int),r (ρ v)<n->oh ph ρ n v=oh ph ρ (n+1) v
 |0,_,h=>Ω
 |n+1,v,h=>by
  show(match ph (ρ v)with|none=>T.var (ρ v)|some t=>t.ap (oh ph ρ n))=(match ph (ρ v)with|none=>T.var (ρ v)|some t=>t.ap (oh ph ρ (n+1)));cases e:ph (ρ v)with
  |none=>rfl
  |some t=>refine vA fun w hw=>UG hid a n w ?_;have:=a (ρ v) (ρ w) ⟨hid v,t,w,e,hw,rfl⟩;omega
def UF(hid:∀v,ρ (ρ v)=ρ v)(a:∀z u,jP ph ρ z u->r u<r z){n:Nat}{v:Int}(h:r (ρ v)<n):∀k,oh ph ρ (n+k) v=oh ph ρ n v
 |0=>rfl
 |k+1=>by rw[<-UF hid a h k];exact(UG hid a (n+k) v Ω).symm
def hF(ph:Int->aZ T)(ρ:Int->Int)(r:Int->Nat)(v:Int):T:=oh ph ρ (r (ρ v)+1) v
def Br(hid:∀v,ρ (ρ v)=ρ v)(v:Int):hF ph ρ r v=hF ph ρ r (ρ v):=by unfold hF;rw[afK hid,hid]
def DT{v:Int}(h:ph (ρ v)=none):hF ph ρ r v= .var (ρ v):=by simp[hF,oh,h]
def Bs(hid:∀v,ρ (ρ v)=ρ v)(a:∀z u,jP ph ρ z u->r u<r z){v:Int}{t:T}(h:ph (ρ v)=some t):hF ph ρ r v=t.ap (hF ph ρ r):=by show oh ph ρ (r (ρ v)+1) v=_;simp only[oh,h];refine vA fun w hw=>?_;have J:=a (ρ v) (ρ w) ⟨hid v,t,w,h,hw,rfl⟩;have:=UF hid a (n:=r (ρ w)+1) (v:=w) Ω (r (ρ v)-(r (ρ w)+1));rw[show r (ρ w)+1+(r (ρ v)-(r (ρ w)+1))=r (ρ v)from by omega]at this;exact this
def ai9(hid:∀v,ρ (ρ v)=ρ v)(b:∀z u,jP ph ρ z u->r u<r z):kV ph ρ (hF ph ρ r):=⟨Br hid,fun x t a h=>Bs hid b (by rw[a];exact h)⟩
def JS{V:List Int}(b:pJ V ph){a:Int->T}(h:kV ph ρ a){z u:Int}(he:jP ph ρ z u):(a u).size<(a z).size:=by obtain⟨J,t,w,U,c,rfl⟩:=he;rw[h.2 z t J U,<-h.1 w];exact(Cm a c).2 (b z t U).1
def JT{V:List Int}(b:pJ V ph){a:Int->T}(h:kV ph ρ a){z u:Int}(he:oa (jP ph ρ) z u):(a u).size<=(a z).size:=by
 induction he with
 |refl=>exact e2 _
 |step J _ c=>have:=JS b h J;omega
end
def adv(r:Int->Nat)(t:T):∃M,∀w,t.occ w=true->r w<M:=by
 induction t with
 |var n=>exact⟨r n+1,fun w hw=>by simp[T.occ]at hw;subst hw;omega⟩
 |pair a b f e=>
  obtain⟨d,J⟩:=f;obtain⟨c,U⟩:=e;refine⟨d+c,fun w hw=>?_⟩;simp only[T.occ,mR]at hw;rcases hw with hw|hw
  ·have:=J w hw;omega
  ·have:=U w hw;omega
 |_=>exact⟨0,fun w hw=>by simp[T.occ]at hw⟩
def FT{ph:Int->aZ T}{ρ:Int->Int}(hid:∀v,ρ (ρ v)=ρ v){x:Int}{r:Int->Nat}(h:∀z u,z≠x->jP ph ρ z u->r u<r z)(c:∀u,jP ph ρ x u->¬oa (jP ph ρ) u x):∃f,kV ph ρ f:=by
 have a:∃M,∀u,jP ph ρ x u->r u<M:=by
  cases e:ph x with
  |none=>exact⟨0,fun u ⟨_,t,w,J,_⟩=>by rw[e]at J;cases J⟩
  |some t=>obtain⟨M,a⟩:=adv (fun w=>r (ρ w)) t;refine⟨M,fun u ⟨_,i,w,J,U,d⟩=>?_⟩;rw[e]at J;cases J;subst d;exact a w U
 obtain⟨M,a⟩:=a;obtain⟨g,b⟩:=acX h a c;exact⟨_,ai9 hid b⟩
structure mS (c:bE) (ρ:Int->Int):Prop where
 ru:kc c.up ρ
 sh:pJ (cC c.up) c.ph
 sat:∃aR,kV c.ph ρ aR
def mS.sm{c a:bE}{ρ:Int->Int}(h:mS c ρ)(k:jC ρ c a):mS a ρ:=⟨k.ru,by rw[k.keys,k.ph];exact h.sh,by rw[k.ph];exact h.sat⟩
def jl(c:bE)(ρ:Int->Int):Nat:=((cC c.up).filter fun v=>decide (ρ v=v)).length+((cC c.up).filter fun v=>decide (ρ v=v)&& !(c.ph v).isSome).length
def yC{c a:bE}{ρ:Int->Int}(k:jC ρ c a):jl a ρ=jl c ρ:=by unfold jl;rw[k.keys,k.ph]
structure jQ (c:bE) (ρ:Int->Int) (p:(Int->T)->Prop) (o:Bool×bE):Prop where
 keys:cC o.2.up=cC c.up
 rest:o.2.color=c.color/\o.2.size=c.size/\o.2.full=c.full
 yes:o.1=true->∃ρ',mS o.2 ρ'/\(∀aR,kV o.2.ph ρ' aR↔kV c.ph ρ aR/\p aR)/\((ρ'=ρ/\o.2.ph=c.ph)\/jl o.2 ρ'<jl c ρ)
 no:o.1=false->∀aR,kV c.ph ρ aR->¬p aR
def jC.rest{ρ:Int->Int}{c a:bE}(h:jC ρ c a):a.color=c.color/\a.size=c.size/\a.full=c.full:=by rw[h.eq];exact⟨rfl,rfl,rfl⟩
def jQ.sm{c a:bE}{ρ:Int->Int}{p:(Int->T)->Prop}{o:Bool×bE}(k:jC ρ c a)(h:jQ a ρ p o):jQ c ρ p o:=⟨h.keys.trans k.keys,by rw[h.rest.1,h.rest.2.1,h.rest.2.2];exact k.rest,fun e=>by rw[<-yC k,<-k.ph];exact h.yes e,by rw[<-k.ph];exact h.no⟩
def jQ.congr{c:bE}{ρ:Int->Int}{p q:(Int->T)->Prop}{o:Bool×bE}(d:∀a,kV c.ph ρ a->(p a↔q a))(h:jQ c ρ p o):jQ c ρ q o:=⟨h.keys,h.rest,fun e=>by obtain⟨ρ',J,U,g⟩:=h.yes e;exact⟨ρ',J,fun a=>(U a).trans (and_congr_right fun b=>d a b),g⟩,fun e a b f=>h.no e a b ((d a b).2 f)⟩
def yh(c:bE)(x:Int)(t:T)(z:Int):(c.know x t).ph z=if z=x then some t else c.ph z:=by
 simp only[bE.ph,bE.know,bE.shd,bE.shp,oM];by_cases h:z=x
 ·simp[h]
 ·simp only[if_neg h];exact ite_congr rfl (fun _=>rfl) fun _=>rfl
def XY{c:bE}{ρ:Int->Int}(hi:mS c ρ){x:Int}(E:ρ x=x)(D:x∈cC c.up)(y:c.ph x=none){t:T}(aM:t.kind≠1)(F:∀w,t.occ w=true->w∈cC c.up):
  ∃N o,(∀n,N<=n->wx n x t c=some o)/\jQ c ρ (fun d=>d x=t.ap d) o:=by
 have i:pJ (cC (c.know x t).up) (c.know x t).ph:=by
  intro z u b;rw[yh]at b;split at b
  ·rename_i e;cases b;subst e;exact⟨aM,F,D⟩
  ·exact hi.sh z u b
 have s:∀d,kV (c.know x t).ph ρ d↔kV c.ph ρ d/\d x=t.ap d:=by
  intro d;constructor
  ·rintro⟨J,U⟩;refine⟨⟨J,fun z u b hu=>U z u b ?_⟩,U x t E (by rw[yh];simp)⟩;rw[yh];split
   ·rename_i e;subst e;rw[y]at hu;cases hu
   ·exact hu
  ·rintro⟨⟨J,U⟩,h⟩;refine⟨J,fun z u b hu=>?_⟩;rw[yh]at hu;split at hu
   ·rename_i e;subst e;cases hu;exact h
   ·exact U z u b hu
 obtain⟨N,a,J,U,h⟩:=Jw (x:=x) (c:=c.know x t) (t:=t) hi.ru i F;refine⟨N,(!a.found,a.c),fun n O=>by simp[wx,J n O],U.keys,U.rest,fun f=>?_,fun f d B he=>?_⟩
 ·simp only[Bool.not_eq_true']at f;have k:∀u,jP (c.know x t).ph ρ x u->¬oa (jP (c.know x t).ph ρ) u x:=by rintro u ⟨_,A,w,g,j,rfl⟩ P;rw[yh,if_pos rfl]at g;cases g;have:=h.2 ⟨w,j,P⟩;rw[f]at this;cases this
  obtain⟨K,H⟩:=hi.sat
  have l:=FT (ph:=(c.know x t).ph) (ρ:=ρ) hi.ru.idem (x:=x) (r:=fun z=>(K z).size) (fun z u b he=>by refine JS hi.sh H ?_;obtain⟨m,A,w,G,M⟩:=he;rw[yh,if_neg b]at G;exact⟨m,A,w,G,M⟩) k
  refine⟨ρ,⟨U.ru,?_,?_⟩,fun d=>?_,.inr ?_⟩
  ·simp only[U.keys,U.ph];exact i
  ·simp only[U.ph];exact l
  ·simp only[U.ph];exact s d
  ·simp only[yC U];unfold jl;have m:cC (c.know x t).up=cC c.up:=rfl;rw[m];have:=Ho (V:=cC c.up) (v:=x) (p:=fun v=>decide (ρ v=v)&& !(c.ph v).isSome) (q:=fun v=>decide (ρ v=v)&& !((c.know x t).ph v).isSome) (fun z _ b=>by
    rw[yh]at b;split at b
    ·simp at b
    ·exact b) D (by simp[E,y]) (by simp[yh])
   omega
 ·simp only[Bool.not_eq_false']at f;obtain⟨w,g,j⟩:=h.1 f;have L:=(s d).2 ⟨B,he⟩;have:=JT i L j;have Q:=(Cm d g).2 aM;rw[<-he]at Q;rw[<-B.1 w]at this;omega
def jW(ρ:Int->Int)(x y:Int)(v:Int):Int:=if ρ v=y then x else ρ v
section
variable {c:bE} {ρ:Int->Int} {x y:Int}
def rs(b:ρ x=x)(c:ρ y=y)(a:x≠y){z:Int}:jW ρ x y z=z↔ρ z=z/\z≠y:=by
 unfold jW;split
 ·rename_i e;constructor
  ·intro h;subst h;rw[b]at e;exact absurd e a
  ·rintro⟨J,U⟩;rw[J]at e;exact absurd e U
 ·rename_i e;constructor
  ·intro h;exact⟨h,fun d=>e (by rw[d,c])⟩
  ·exact fun h=>h.1
def kc.join(h:kc c.up ρ)(d:ρ x=x)(f:ρ y=y)(m:x<y)(i:x∈cC c.up)(g:y∈cC c.up):kc (c.join x y).up (jW ρ x y):=by
 have k:cC (c.join x y).up=cC c.up:=EY g;refine⟨fun v u b=>?_,fun v b=>?_⟩
 ·rw[k];have a:dp v (fa y x c.up)=some u:=b;rw[oM]at a;by_cases e:v=y
  ·subst e;rw[if_pos rfl]at a;cases a;have j:=(h.mem i).2;rw[d]at j;refine⟨⟨j,Ω,i⟩,?_,⟨fun e=>?_,fun e=>Ω⟩⟩
   ·unfold jW;rw[d,f,if_pos rfl,if_neg Ω]
   ·have:=((rs d f Ω).1 e).2;exact absurd rfl this
  ·rw[if_neg e]at a;obtain⟨l,a2,a3⟩:=h.up v u a;refine⟨l,by unfold jW;rw[a2],?_⟩;rw[rs d f Ω,a3];exact⟨fun h=>h.1,fun h=>⟨h,e⟩⟩
 ·rw[k]at b;have:=h.no v b;unfold jW;rw[this,if_neg fun e=>b (by rw[e];exact g)]
def aq3{ph:Int->aZ T}(h:ρ x=x)(c:ρ y=y)(g:x≠y)(a:Int->T):(kV ph (jW ρ x y) a/\∀t,ph y=some t->a x=t.ap a)↔(kV ph ρ a/\a x=a y):=by
 constructor
 ·rintro⟨⟨J,U⟩,b⟩;have f:a y=a x:=by have:=J y;simpa[jW,c]using this
  refine⟨⟨fun v=>?_,fun z t d aM=>?_⟩,f.symm⟩
  ·have:=J v;unfold jW at this;split at this
   ·rename_i e;rw[e,this,f]
   ·exact this
  ·by_cases e:z=y
   ·subst e;rw[f];exact b t aM
   ·exact U z t ((rs h c g).2 ⟨d,e⟩) aM
 ·rintro⟨⟨J,U⟩,b⟩;refine⟨⟨fun v=>?_,fun z t d aM=>U z t ((rs h c g).1 d).1 aM⟩,fun t aM=>by rw[b];exact U y t c aM⟩;unfold jW;split
  ·rename_i e;rw[J v,e,b]
  ·exact J v
def aqk{V:List Int}{ph:Int->aZ T}(d:pJ V ph)(i:ρ x=x)(j:ρ y=y)(c:x≠y){b:Int->T}(h:kV ph ρ b){z u:Int}(f:z≠x)(he:jP ph (jW ρ x y) z u):(if u=x then 0 else(b u).size)<(if z=x then 0 else(b z).size):=by
 obtain⟨J,t,w,U,g,rfl⟩:=he;have k:=(rs i j c).1 J;rw[if_neg f];split
 ·exact T.size_pos _
 ·rename_i a;have:jW ρ x y w=ρ w:=by
   unfold jW at a⊢;split
   ·rename_i e;rw[if_pos e]at a;exact absurd rfl a
   ·rfl
  rw[this];exact JS d h ⟨k.1,t,w,U,g,rfl⟩
def acD(e:ρ x=x)(b:ρ y=y)(d:x≠y)(f:y∈cC c.up):jl (c.join x y) (jW ρ x y)<jl c ρ:=by have i:cC (c.join x y).up=cC c.up:=EY f;have g:(c.join x y).ph=c.ph:=rfl;unfold jl;rw[i,g];have J:=Ho (V:=cC c.up) (v:=y) (p:=fun v=>decide (ρ v=v)) (q:=fun v=>decide (jW ρ x y v=v)) (fun z _ a=>by simp only[e3]at a⊢;exact((rs e b d).1 a).1) f (by simp[b]) (by simp only[hb];exact fun h=>((rs e b d).1 h).2 rfl);have U:=Hn (V:=cC c.up) (p:=fun v=>decide (ρ v=v)&& !(c.ph v).isSome) (q:=fun v=>decide (jW ρ x y v=v)&& !(c.ph v).isSome) (fun z _ a=>by simp only[cD,e3]at a⊢;exact⟨((rs e b d).1 a.1).1,a.2⟩);omega
end
def Cw{c:bE}{x:Int}(h:c.shd x=false):c.ph x=none:=by simp[bE.ph,h]
def Cx{c:bE}{x:Int}(h:¬c.shd x=false):c.ph x=some (c.shp x):=by simp[bE.ph];simpa using h
def Uy{c:bE}{ρ:Int->Int}(hi:mS c ρ){x y:Int}(g:ρ x=x)(D:ρ y=y)(iF:x<y)(en:x∈cC c.up)(V:y∈cC c.up)
  (rec:∀(L:bE) (W:Int->Int),mS L W->cC L.up=cC c.up->jl L W<jl c ρ->∀a b:T,(∀w,a.occ w=true->w∈cC c.up)->(∀w,b.occ w=true->w∈cC c.up)->∃N o,(∀n,N<=n->hd n a b L=some o)/\jQ L W (fun d=>a.ap d=b.ap d) o):
  ∃N o,(∀n,N<=n->s6 (hd n) n x y (c.join x y)=some o)/\jQ c ρ (fun d=>d x=d y) o:=by
 have i:x≠y:=Ω
 have l:cC (c.join x y).up=cC c.up:=EY V;have M:(c.join x y).ph=c.ph:=rfl;have E:=hi.ru.join g D iF en V;have Y:=acD (c:=c) g D i V;have K:pJ (cC (c.join x y).up) (c.join x y).ph:=by rw[l,M];exact hi.sh
 obtain⟨lX,wj⟩:=hi.sat
 have S:∀z u,z≠x->jP c.ph (jW ρ x y) z u->(fun z=>if z=x then 0 else(lX z).size) u<(fun z=>if z=x then 0 else(lX z).size) z:=fun z u bI he=>aqk hi.sh g D i wj bI he;have F:=fun d=>aq3 (ph:=c.ph) g D i d;have WS:∀{cB:bE},jC (jW ρ x y) (c.join x y) cB->(∃d,kV c.ph (jW ρ x y) d)->c.ph y=none->jQ c ρ (fun d=>d x=d y) (true,cB):=by intro cB k s B;refine⟨k.keys.trans l,k.rest,fun _=>⟨jW ρ x y,⟨k.ru,by simp only[k.keys,k.ph];exact K,by simp only[k.ph];exact s⟩,fun d=>?_,.inr (by simp only[yC k];exact Y)⟩,fun e=>by cases e⟩;simp only[k.ph,M];rw[<-F d];exact⟨fun h=>⟨h,fun t aM=>by rw[B]at aM;cases aM⟩,fun h=>h.1⟩
 by_cases J:(c.join x y).shd y=false
 ·have WD:c.ph y=none:=Cw J;by_cases U:(c.join x y).shd x=false
  ·have Q:c.ph x=none:=Cw U;refine⟨0,(true,c.join x y),fun n _=>by simp only[s6,if_pos J,if_pos U],WS (jC.refl E) ?_ WD⟩;exact FT E.idem (x:=x) S fun u ⟨_,t,w,q,_⟩=>by rw[Q]at q;cases q
  ·have p:c.ph x=some ((c.join x y).shp x):=Cx U;obtain⟨N,a,H,f,R⟩:=Jw (x:=x) (c:=c.join x y) (t:=(c.join x y).shp x) E K (by rw[l];exact(hi.sh _ _ p).2.1);refine⟨N,(!a.found,a.c),fun n B=>by simp only[s6,if_pos J,if_neg U,H n B,nz],?_⟩;cases v:a.found with
   |false=>refine WS f (FT E.idem (x:=x) S fun u ⟨_,t,w,j,r,G⟩ aD=>?_) WD;rw[p]at j;cases j;subst G;have:=R.2 ⟨w,r,aD⟩;rw[v]at this;cases this
   |true=>refine⟨f.keys.trans l,f.rest,(fun e=>by cases e),fun _ d s he=>?_⟩;obtain⟨w,j,r⟩:=R.1 v;have A:=((F d).2 ⟨s,he⟩).1;have O:=JT hi.sh A r;have P:=(Cm d j).2 (hi.sh _ _ p).1;rw[<-A.2 x _ ((rs g D i).2 ⟨g,i⟩) p]at P;rw[<-A.1 w]at O;omega
 ·have m:c.ph y=some ((c.join x y).shp y):=Cx J;by_cases U:(c.join x y).shd x=false
  ·have Q:c.ph x=none:=Cw U;have mY:mS (c.join x y) (jW ρ x y):=⟨E,K,FT E.idem (x:=x) S fun u ⟨_,t,w,q,_⟩=>by rw[M,Q]at q;cases q⟩;obtain⟨N,o,H,f⟩:=XY mY (x:=x) ((rs g D i).2 ⟨g,i⟩) (by rw[l];exact en) Q (t:=(c.join x y).shp y) (hi.sh _ _ m).1 (by rw[l];exact(hi.sh _ _ m).2.1);refine⟨N,o,fun n B=>by simp only[s6,if_neg J,if_pos U,H n B],f.keys.trans l,f.rest,fun v=>?_,fun v d s he=>?_⟩
   ·obtain⟨ρ',g1,g2,g3⟩:=f.yes v;refine⟨ρ',g1,fun d=>?_,.inr ?_⟩
    ·rw[g2 d,<-F d];refine and_congr_right fun _=>⟨fun h t aM=>by rw[m]at aM;cases aM;exact h,fun h=>h _ m⟩
    ·rcases g3 with⟨rfl,g3⟩|g3
     ·have:jl o.2 (jW ρ x y)=jl (c.join x y) (jW ρ x y):=by unfold jl;rw[f.keys,g3]
      omega
     ·omega
   ·obtain⟨s1,s2⟩:=(F d).2 ⟨s,he⟩;exact f.no v d s1 (s2 _ m)
  ·have p:c.ph x=some ((c.join x y).shp x):=Cx U;obtain⟨X,a,H,f,R⟩:=Jw (x:=x) (c:=c.join x y) (t:=(c.join x y).shp y) E K (by rw[l];exact(hi.sh _ _ m).2.1);cases v:a.found with
   |true=>refine⟨X,(false,a.c),fun n B=>by simp only[s6,if_neg J,if_neg U,H n B,ld,v,if_true],f.keys.trans l,f.rest,(fun e=>by cases e),fun _ d s he=>?_⟩;obtain⟨w,j,r⟩:=R.1 v;obtain⟨A,pb⟩:=(F d).2 ⟨s,he⟩;have O:=JT hi.sh A r;have P:=(Cm d j).2 (hi.sh _ _ m).1;rw[<-pb _ m]at P;rw[<-A.1 w]at O;omega
   |false=>
    have WV:a.c.shp x=(c.join x y).shp x:=f.shp x;obtain⟨jR,b,f1,f2,f3⟩:=Jw (x:=x) (c:=a.c) (t:=(c.join x y).shp x) f.ru (by rw[f.keys,f.ph];exact K) (by rw[f.keys,l];exact(hi.sh _ _ p).2.1);have eI:=f.trans f2;cases a1:b.found with
    |true=>refine⟨max X jR,(false,b.c),fun n B=>by simp only[s6,if_neg J,if_neg U,H n Ω,ld,v,WV,f1 n Ω,a1,if_true,hI,if_false],eI.keys.trans l,eI.rest,(fun e=>by cases e),fun _ d s he=>?_⟩;obtain⟨w,j,r⟩:=f3.1 a1;obtain⟨A,_⟩:=(F d).2 ⟨s,he⟩;rw[f.ph]at r;have O:=JT hi.sh A r;have P:=(Cm d j).2 (hi.sh _ _ p).1;rw[<-A.2 x _ ((rs g D i).2 ⟨g,i⟩) p]at P;rw[<-A.1 w]at O;omega
    |false=>
     have BD:mS b.c (jW ρ x y):=by refine⟨eI.ru,by rw[eI.keys,eI.ph];exact K,?_⟩;rw[eI.ph];refine FT E.idem (x:=x) S fun u ⟨_,t,w,j,r,G⟩ aD=>?_;rw[M,p]at j;cases j;subst G;have:=f3.2 ⟨w,r,by rw[f.ph];exact aD⟩;rw[a1]at this;cases this
     obtain⟨AM,o,g1,g2⟩:=rec b.c (jW ρ x y) BD (eI.keys.trans l) (by rw[yC eI];exact Y) ((c.join x y).shp x) ((c.join x y).shp y) (hi.sh _ _ p).2.1 (hi.sh _ _ m).2.1;refine⟨max (max X jR) AM,o,fun n B=>?_,g2.keys.trans (eI.keys.trans l),?_,fun Z=>?_,fun Z d s he=>?_⟩
     ·simp only[s6,if_neg J,if_neg U,H n Ω,ld,v,WV,f1 n Ω,a1,hI,if_false,eI.shp];exact g1 n Ω
     ·rw[g2.rest.1,g2.rest.2.1,g2.rest.2.2];exact eI.rest
     ·obtain⟨ρ',j,r,G⟩:=g2.yes Z;refine⟨ρ',j,fun d=>?_,.inr ?_⟩
      ·rw[r d,eI.ph,M,<-F d];refine and_congr_right fun h=>?_;have:=h.2 x _ ((rs g D i).2 ⟨g,i⟩) p;rw[<-this];exact⟨fun h t aM=>by rw[m]at aM;cases aM;exact h,fun h=>h _ m⟩
      ·have:jl b.c (jW ρ x y)<jl c ρ:=by rw[yC eI];exact Y
       rcases G with⟨rfl,G⟩|G
       ·have:jl o.2 (jW ρ x y)=jl b.c (jW ρ x y):=by unfold jl;rw[g2.keys,G]
        omega
       ·omega
     ·obtain⟨s1,s2⟩:=(F d).2 ⟨s,he⟩;refine g2.no Z d (by rw[eI.ph];exact s1) ?_;have:=s1.2 x _ ((rs g D i).2 ⟨g,i⟩) p;rw[<-this];exact s2 _ m
def vI:T->T->Nat
 | .var _,_=>1
 |_,.var _=>2
 |_,_=>0
def aeK(K:Nat):∀(m:Nat) (c:bE) (ρ:Int->Int) (a b:T) (k:Int->T),mS c ρ->kV c.ph ρ k->(∀w,a.occ w=true->w∈cC c.up)->(∀w,b.occ w=true->w∈cC c.up)->jl c ρ=K->((a.ap k).size+(b.ap k).size)*3+vI a b=m->
  ∃N o,(∀n,N<=n->hd n a b c=some o)/\jQ c ρ (fun d=>a.ap d=b.ap d) o:=by
 induction K using Nat.strongRecOn with
 |ind K akY=>
 have W5:∀(f:bE) (g:Int->Int),mS f g->jl f g<K->∀a b:T,(∀w,a.occ w=true->w∈cC f.up)->(∀w,b.occ w=true->w∈cC f.up)->∃N o,(∀n,N<=n->hd n a b f=some o)/\jQ f g (fun d=>a.ap d=b.ap d) o:=by
  intro f g J U a b u ae;obtain⟨d,h2⟩:=J.sat
  exact akY _ U _ f g a b d J h2 u ae rfl rfl
 intro m;induction m using Nat.strongRecOn with
 |ind m BY=>
 intro c ρ a b k hi P u ae M hm;have aj3:∀{a b:T},(∀n,hd (n+1) a b c=some (decide (a=b),c))->(∀d,a.ap d=a)->(∀d,b.ap d=b)->∃N o,(∀n,N<=n->hd n a b c=some o)/\jQ c ρ (fun d=>a.ap d=b.ap d) o:=by
  intro a b J U E;refine⟨1,(decide (a=b),c),fun n z=>?_,rfl,⟨rfl,rfl,rfl⟩,fun h=>?_,fun h d _ he=>?_⟩
  ·obtain⟨n',rfl⟩:∃n',n=n'+1:=⟨n-1,Ω⟩;exact J n'
  ·simp only[e3]at h;subst h;exact⟨ρ,hi,fun d=>⟨fun h=>⟨h,rfl⟩,fun h=>h.1⟩,.inl ⟨rfl,rfl⟩⟩
  ·simp only[hb]at h;rw[U,E]at he;exact h he
 have VZ:∀{a b:T},(∀n,hd (n+1) a b c=some (decide (a=b),c))->(∀d,a.ap d≠b.ap d)->a≠b->∃N o,(∀n,N<=n->hd n a b c=some o)/\jQ c ρ (fun d=>a.ap d=b.ap d) o:=by intro a b J U E;refine⟨1,(false,c),fun n z=>?_,rfl,⟨rfl,rfl,rfl⟩,(fun h=>by cases h),fun _ d _ he=>U d he⟩;obtain⟨n',rfl⟩:∃n',n=n'+1:=⟨n-1,Ω⟩;rw[J n',l0 E]
 have xV:∀(i:Int) (b:T),b.kind≠1->(∀n,hd (n+1) (.var i) b c=(rt c i).bind fun p=>if p.2.shd p.1=false then wx n p.1 b p.2 else hd n (p.2.shp p.1) b p.2)->i∈cC c.up->(∀w,b.occ w=true->w∈cC c.up)->((k i).size+(b.ap k).size)*3<m->∃N o,(∀n,N<=n->hd n (.var i) b c=some o)/\jQ c ρ (fun d=>d i=b.ap d) o:=by
  intro i b ov V4 B ae bN;obtain⟨f,v,r⟩:=vf hi.ru B;have L:=hi.sm r;by_cases l:f.shd (ρ i)=false
  ·obtain⟨N,o,A,s⟩:=XY L (x:=ρ i) (hi.ru.idem i) (by rw[r.keys];exact(hi.ru.mem B).1) (Cw l) ov (by rw[r.keys];exact ae);refine⟨N+1,o,fun n z=>?_,jQ.sm r (jQ.congr (fun d h=>?_) s)⟩
   ·obtain⟨n',rfl⟩:∃n',n=n'+1:=⟨n-1,Ω⟩;rw[V4,v];simp only[ld,if_pos l];exact A n' Ω
   ·rw[<-h.1 i]
  ·have Q:f.ph (ρ i)=some (f.shp (ρ i)):=Cx l;have ma:∀d,kV f.ph ρ d->d i=(f.shp (ρ i)).ap d:=fun d h=>by rw[h.1 i];exact h.2 _ _ (hi.ru.idem i) Q
   have h0:=(L.sh _ _ Q).1;have ajG:vI (f.shp (ρ i)) b=0:=by cases e:f.shp (ρ i)<;>cases b<;>simp_all[vI,T.kind]
   have W2:kV f.ph ρ k:=by rw[r.ph];exact P
   obtain⟨N,o,A,s⟩:=BY (((f.shp (ρ i)).ap k).size*3+(b.ap k).size*3) (by rw[<-ma k W2];omega) f ρ (f.shp (ρ i)) b k L W2 (L.sh _ _ Q).2.1 (by rw[r.keys];exact ae) (by rw[yC r];exact M) (by rw[ajG];omega);refine⟨N+1,o,fun n z=>?_,jQ.sm r (jQ.congr (fun d h=>?_) s)⟩
   ·obtain⟨n',rfl⟩:∃n',n=n'+1:=⟨n-1,Ω⟩;rw[V4,v];simp only[ld,if_neg l];exact A n' Ω
   ·rw[ma d h]
 have zG:∀(i j:Int),i∈cC c.up->j∈cC c.up->∃N o,(∀n,N<=n->hd n (.var i) (.var j) c=some o)/\jQ c ρ (fun d=>d i=d j) o:=by
  intro i j B O;obtain⟨f,v,r⟩:=vf hi.ru B;obtain⟨c2,A,bJ⟩:=vf r.ru (by rw[r.keys];exact O:j∈cC f.up);have y:=r.trans bJ;have V:=hi.sm y;have xJ:ρ i∈cC c2.up:=by rw[y.keys];exact(hi.ru.mem B).1
  have Wl:ρ j∈cC c2.up:=by rw[y.keys];exact(hi.ru.mem O).1
  have xR:∀(f:bE) (g:Int->Int),mS f g->cC f.up=cC c2.up->jl f g<jl c2 ρ->∀a b:T,(∀w,a.occ w=true->w∈cC c2.up)->(∀w,b.occ w=true->w∈cC c2.up)->∃N o,(∀n,N<=n->hd n a b f=some o)/\jQ f g (fun d=>a.ap d=b.ap d) o:=fun c3 ρ3 J U E a b u ae=>W5 c3 ρ3 J (by rw[yC y,M]at E;exact E) a b (by rw[U];exact u) (by rw[U];exact ae);rcases Int.lt_trichotomy (ρ i) (ρ j)with h|h|h
  ·obtain⟨N,o,X,R⟩:=Uy V (hi.ru.idem i) (hi.ru.idem j) h xJ Wl xR;refine⟨N+1,o,fun n z=>?_,jQ.sm y (jQ.congr (fun d h=>?_) R)⟩
   ·obtain⟨n',rfl⟩:∃n',n=n'+1:=⟨n-1,Ω⟩;simp only[hd,v,A,ld];rw[if_neg Ω,if_neg Ω];exact X n' Ω
   ·rw[h.1 i,h.1 j]
  ·refine⟨1,(true,c2),fun n z=>?_,y.keys,y.rest,fun _=>⟨ρ,V,fun d=>?_,.inl ⟨rfl,y.ph⟩⟩,fun e=>by cases e⟩
   ·obtain⟨n',rfl⟩:∃n',n=n'+1:=⟨n-1,Ω⟩;simp only[hd,v,A,ld,if_pos h]
   ·simp only[y.ph];exact⟨fun l=>⟨l,by rw[l.1 i,l.1 j,h]⟩,fun l=>l.1⟩
  ·obtain⟨N,o,X,R⟩:=Uy V (hi.ru.idem j) (hi.ru.idem i) h Wl xJ xR;refine⟨N+1,o,fun n z=>?_,jQ.sm y (jQ.congr (fun d h=>?_) R)⟩
   ·obtain⟨n',rfl⟩:∃n',n=n'+1:=⟨n-1,Ω⟩;simp only[hd,v,A,ld];rw[if_neg Ω,if_pos h];exact X n' Ω
   ·rw[h.1 i,h.1 j];exact⟨Eq.symm,Eq.symm⟩
 have BS:∀(a:T) (j:Int),a.kind≠1->(∀n,hd (n+1) a (.var j) c=hd n (.var j) a c)->(∀n,hd (n+1) (.var j) a c=(rt c j).bind fun p=>if p.2.shd p.1=false then wx n p.1 a p.2 else hd n (p.2.shp p.1) a p.2)->j∈cC c.up->(∀w,a.occ w=true->w∈cC c.up)->((k j).size+(a.ap k).size)*3<m->∃N o,(∀n,N<=n->hd n a (.var j) c=some o)/\jQ c ρ (fun d=>a.ap d=d j) o:=by intro a j J U E O u bN;obtain⟨N,o,v,D⟩:=xV j a J E O u bN;refine⟨N+1,o,fun n z=>?_,jQ.congr (fun d _=>⟨Eq.symm,Eq.symm⟩) D⟩;obtain⟨n',rfl⟩:∃n',n=n'+1:=⟨n-1,Ω⟩;rw[U];exact v n' Ω
 cases a with
 |var i=>
  have B:i∈cC c.up:=u i (by simp[T.occ]);cases b with
  |var j=>exact zG i j B (ae j (by simp[T.occ]))
  |_=>exact xV i _ (by simp[T.kind]) (fun n=>rfl) B ae (by simp only[T.ap,vI]at hm⊢;omega)
 |pair Z a2=>
  cases b with
  |var j=>exact BS _ j (by simp[T.kind]) (fun n=>rfl) (fun n=>rfl) (ae j (by simp[T.occ])) u (by simp only[T.ap,vI]at hm⊢;omega)
  |pair W G=>
   have uL:∀p q:T,vI p q<=2:=fun p q=>by cases p<;>cases q<;>simp[vI]
   have kh:∀w,Z.occ w=true->w∈cC c.up:=fun w hw=>u w (by simp[T.occ,hw]);have o5:∀w,a2.occ w=true->w∈cC c.up:=fun w hw=>u w (by simp[T.occ,hw]);have jr:∀w,W.occ w=true->w∈cC c.up:=fun w hw=>ae w (by simp[T.occ,hw]);have ln:∀w,G.occ w=true->w∈cC c.up:=fun w hw=>ae w (by simp[T.occ,hw]);simp only[T.ap,T.size,vI]at hm;have f1:=uL Z W;have f2:=uL a2 G;obtain⟨iq,gZ,v,D⟩:=BY _ (by rw[<-hm];omega) c ρ Z W k hi P kh jr M rfl;obtain⟨amI,f⟩:=gZ;cases amI with
   |false=>refine⟨iq+1,(false,f),fun n z=>?_,D.keys,D.rest,(fun e=>by cases e),fun _ d l he=>D.no rfl d l (by simp only[T.ap,T.pair.injEq]at he;exact he.1)⟩;obtain⟨n',rfl⟩:∃n',n=n'+1:=⟨n-1,Ω⟩;simp only[hd,v n' Ω,ld,hI,if_false]
   |true=>
    obtain⟨g,Y,bC,t⟩:=D.yes rfl;simp only at Y bC t;have F:cC f.up=cC c.up:=D.keys;have Ez:∃S H,(∀n,S<=n->hd n a2 G f=some H)/\jQ f g (fun d=>a2.ap d=G.ap d) H:=by
     rcases t with⟨rfl,t⟩|t
     ·exact BY _ (by rw[<-hm];omega) f g a2 G k Y (by rw[t];exact P) (by rw[F];exact o5) (by rw[F];exact ln) (by unfold jl;rw[F,t];exact M) rfl
     ·exact W5 f g Y Ω a2 G (by rw[F];exact o5) (by rw[F];exact ln)
    obtain⟨S,H,A,s⟩:=Ez;refine⟨max iq S+1,H,fun n z=>?_,s.keys.trans F,?_,fun aH=>?_,fun aH d l he=>?_⟩
    ·obtain⟨n',rfl⟩:∃n',n=n'+1:=⟨n-1,Ω⟩;simp only[hd,v n' Ω,ld,if_true];exact A n' Ω
    ·rw[s.rest.1,s.rest.2.1,s.rest.2.2];exact D.rest
    ·obtain⟨ρ2,s1,s2,s3⟩:=s.yes aH;refine⟨ρ2,s1,fun d=>?_,?_⟩
     ·rw[s2 d,bC d];simp only[T.ap,T.pair.injEq,and_assoc]
     ·rcases t with⟨rfl,t⟩|t
      ·rcases s3 with⟨rfl,s3⟩|s3
       ·exact .inl ⟨rfl,s3.trans t⟩
       ·have:jl f g=jl c g:=by unfold jl;rw[F,t]
        exact .inr Ω
      ·rcases s3 with⟨rfl,s3⟩|s3
       ·have:jl H.2 ρ2=jl f ρ2:=by unfold jl;rw[s.keys,s3]
        exact .inr Ω
       ·exact .inr Ω
    ·simp only[T.ap,T.pair.injEq]at he;exact s.no aH d ((bC d).2 ⟨l,he.1⟩) he.2
  |_=>exact VZ (fun n=>rfl) (fun d=>by simp[T.ap]) Ψ
 |_=>
  cases b with
  |var j=>exact BS _ j (by simp[T.kind]) (fun n=>rfl) (fun n=>rfl) (ae j (by simp[T.occ])) u (by simp only[T.ap,vI]at hm⊢;omega)
  |_=>first|exact aj3 (fun n=>rfl) (fun d=>rfl) (fun d=>rfl)|exact VZ (fun n=>rfl) (fun d=>by simp[T.ap]) Ψ
end
section
open Go
def AF(rec:Int->bE->aZ (Bool×bE))(v:Int)(a:bE×Bool):aZ (bE×Bool):=if a.2=true then(rt a.1 v).bind fun p=>(rec p.1 p.2).map fun q=>(q.2,q.1)else some a
def Av(v:Int)(c:bE):aZ (Int×bE):=(rt c v).map fun p=>(p.2.sz p.1,p.2)
def bE.grey(c:bE)(x:Int):bE:={c with color:=fa x 1 c.color,size:=fa x 1 c.size}
def bE.black(c:bE)(x:Int):bE:={c with color:=fa x 2 c.color}
def rM:Nat->Int->bE->aZ (Bool×bE)
 |0,_,_=>none
 |n+1,x,c=>if c.col x=2 then some (true,c)else if c.col x=1 then some (false,c)else
   if(c.grey x).shd x=false then some (true,(c.grey x).black x)else
   (((c.grey x).shp x).foldO (AF (rM n)) (c.grey x,true)).bind fun a=>if a.2=false then some (false,a.1)else
   (((a.1.shp x).sizeO Av a.1).map fun p=>(true,{p.2 with size:=fa x p.1 p.2.size}.black x))
def C0(rec:Int->bE->aZ (T×bE))(v:Int)(c:bE):aZ (T×bE):=(rt c v).bind fun p=>rec p.1 p.2
def rJ:Nat->Int->bE->aZ (T×bE)
 |0,_,_=>none
 |n+1,x,c=>match dp x c.full with
  |some t=>some (t,c)
  |none=>if c.shd x=false then some (.var x,{c with full:=fa x (.var x) c.full})else
   ((c.shp x).mapO (C0 (rJ n)) c).map fun p=>(p.1,{p.2 with full:=fa x p.1 p.2.full})
def tW(n:Nat):List Int->bE->List Int->aZ (aZ (List Int)×bE)
 |[],c,out=>some (some out,c)
 |v::bf,c,out=>(rt c v).bind fun p=>(rM n p.1 p.2).bind fun q=>if q.1=false then some (none,q.2)else
   if p.1=v/\q.2.shd p.1=false then tW n bf q.2 out else
   if 5000<q.2.sz p.1\/400<out.length+1 then some (none,q.2)else tW n bf q.2 (out++[v])
def Aw(n:Nat):List Int->bE->aZ (List az×bE)
 |[],c=>some ([],c)
 |v::bf,c=>(rt c v).bind fun p=>(rJ n p.1 p.2).bind fun q=>(Aw n bf q.2).map fun r=>(⟨v,q.1⟩::r.1,r.2)
def FX(n:Nat)(bf:List Int)(c:bE):aZ (aZ (List az)):=(tW n bf c []).bind fun a=>match a.1 with
 |none=>some none
 |some out=>(Aw n out a.2).map fun r=>some r.1
def q8(n:Nat):List (T×T)->bE->aZ (Bool×bE)
 |[],c=>some (true,c)
 |e::es,c=>(Cb e.1 c).bind fun a=>(Cb e.2 a).bind fun c2=>(hd n e.1 e.2 c2).bind fun p=>if p.1=true then q8 n es p.2 else some (false,p.2)
def mS.rank{c:bE}{ρ:Int->Int}(h:mS c ρ):∃r:Int->Nat,∀z u,jP c.ph ρ z u->r u<r z:=by
 obtain⟨b,a⟩:=h.sat
 exact⟨fun z=>(b z).size,fun z u he=>JS h.sh a he⟩
structure vr (V:List Int) (ph:Int->aZ T) (ρ:Int->Int) (c:bE):Prop where
 ru:kc c.up ρ
 keys:cC c.up=V
 ph:c.ph=ph
def vr.sm{V:List Int}{ph:Int->aZ T}{ρ:Int->Int}{c a:bE}(h:vr V ph ρ c)(k:jC ρ c a):vr V ph ρ a:=⟨k.ru,k.keys.trans h.keys,k.ph.trans h.ph⟩
def cut(n:Nat):Int:=if 5001<(n:Int)then 5001 else n
section
variable {V:List Int} {ph:Int->aZ T} {ρ:Int->Int} {r:Int->Nat}
def aqT(e:Int->T):∀(t:T) (c:bE),vr V ph ρ c->(∀w,t.occ w=true->w∈V/\c.sz (ρ w)=cut (e w).size)->∃g,t.sizeO Av c=some (cut (t.ap e).size,g)/\jC ρ c g:=by
 intro t;induction t with
 |var v=>
  intro c h aM;obtain⟨m,l⟩:=aM v (by simp[T.occ]);obtain⟨d,J,U⟩:=vf h.ru (by rw[h.keys];exact m:v∈cC c.up);refine⟨d,?_,U⟩;have:d.sz (ρ v)=cut (e v).size:=by rw[<-l,U.eq];rfl
  simp only[T.sizeO,Av,J,nz,this,T.ap,dz,hW,and_true];unfold cut;split<;>omega
 |pair a b j i=>
  intro c h aM;obtain⟨d,J,f⟩:=j c h fun w hw=>aM w (by simp[T.occ,hw]);obtain⟨c2,U,k⟩:=i d (h.sm f) fun w hw=>⟨(aM w (by simp[T.occ,hw])).1,by rw[<-(aM w (by simp[T.occ,hw])).2,f.eq];rfl⟩;have ae:=T.size_pos (b.ap e);simp only[T.sizeO,J,ld,T.ap,T.size];by_cases aA:5000<cut (a.ap e).size
  ·rw[if_pos aA];refine⟨d,?_,f⟩;simp only[dz,hW,and_true];unfold cut at aA⊢;split at aA<;>split<;>(try split)<;>omega
  ·rw[if_neg aA,U];refine⟨c2,?_,f.trans k⟩;simp only[nz,dz,hW,and_true];unfold cut at aA⊢;split at aA<;>(repeat' split)<;>omega
 |_=>intro c h aM;exact⟨c,by simp[T.sizeO,T.ap,T.size,cut],jC.refl h.ru⟩
structure rX (V:List Int) (ph:Int->aZ T) (ρ:Int->Int) (r:Int->Nat) (d:Nat) (c:bE):Prop where
 fin:vr V ph ρ c
 col:∀z,r z<d->c.col z=0\/(c.col z=2/\c.sz z=cut (hF ph ρ r z).size)
structure oe (ph:Int->aZ T) (ρ:Int->Int) (r:Int->Nat) (d:Nat) (c cB:bE):Prop where
 full:cB.full=c.full
 hi:∀z,d<=r z->cB.col z=c.col z/\cB.sz z=c.sz z
 lo:∀z,c.col z=2->cB.col z=2/\cB.sz z=c.sz z
def oe.refl{c:bE}{d:Nat}:oe ph ρ r d c c:=⟨rfl,fun _ _=>⟨rfl,rfl⟩,fun _ h=>⟨h,rfl⟩⟩
def oe.trans{a b c:bE}{d:Nat}(h:oe ph ρ r d a b)(k:oe ph ρ r d b c):oe ph ρ r d a c:=⟨k.full.trans h.full,fun z e=>⟨(k.hi z e).1.trans (h.hi z e).1,(k.hi z e).2.trans (h.hi z e).2⟩,fun z e=>⟨(k.lo z (h.lo z e).1).1,(k.lo z (h.lo z e).1).2.trans (h.lo z e).2⟩⟩
def oe.mono{a b:bE}{d c:Nat}(f:d<=c)(h:oe ph ρ r d a b):oe ph ρ r c a b:=⟨h.full,fun z e=>h.hi z Ω,h.lo⟩
def oe.sm{c a:bE}{d:Nat}(k:jC ρ c a):oe ph ρ r d c a:=by
 have b:∀z,a.col z=c.col z:=fun z=>by rw[k.eq];rfl
 have e:∀z,a.sz z=c.sz z:=fun z=>by rw[k.eq];rfl
 exact⟨k.rest.2.2,fun z _=>⟨b z,e z⟩,fun z h=>⟨by rw[b];exact h,e z⟩⟩
def rX.sm{c a:bE}{d:Nat}(h:rX V ph ρ r d c)(k:jC ρ c a):rX V ph ρ r d a:=by
 have e:∀z,a.col z=c.col z:=fun z=>by rw[k.eq];rfl
 have f:∀z,a.sz z=c.sz z:=fun z=>by rw[k.eq];rfl
 exact⟨h.fin.sm k,fun z b=>by rw[e,f];exact h.col z b⟩
def aty(fS:pJ V ph)(hid:∀v,ρ (ρ v)=ρ v)(aD:∀z u,jP ph ρ z u->r u<r z)(d:Nat):∀(x:Int) (c:bE),r x<d->ρ x=x->x∈V->rX V ph ρ r d c->
  ∃N A,(∀n,N<=n->rM n x c=some (true,A))/\rX V ph ρ r d A/\oe ph ρ r (r x+1) c A/\A.col x=2/\A.sz x=cut (hF ph ρ r x).size:=by
 induction d using Nat.strongRecOn with
 |ind d bB=>
 intro x c aQ M k0 hw;rcases hw.col x aQ with bm|⟨U,aq⟩;rotate_left
 ·refine⟨1,c,fun n F=>?_,hw,oe.refl,U,aq⟩;obtain⟨n',rfl⟩:∃n',n=n'+1:=⟨n-1,Ω⟩;simp only[rM,if_pos U]
 have k:∀z,(c.grey x).col z=if z=x then 1 else c.col z:=fun z=>by simp only[bE.grey,bE.col,oM];split<;>rfl
 have G:∀z,(c.grey x).sz z=if z=x then 1 else c.sz z:=fun z=>by simp only[bE.grey,bE.sz,oM];split<;>rfl
 have m:vr V ph ρ (c.grey x):=⟨hw.fin.ru,hw.fin.keys,hw.fin.ph⟩;have Q:rX V ph ρ r (r x) (c.grey x):=⟨m,fun z g=>by
  have Y:z≠x:=fun e=>by subst e;omega
  rw[k,G,if_neg Y,if_neg Y];exact hw.col z Ω⟩
 have Ep:¬c.col x=2:=Ω
 have W:¬c.col x=1:=Ω
 have q:∀(e:bE) (z:Int),(e.black x).col z=(if z=x then 2 else e.col z):=fun e z=>by simp only[bE.black,bE.col,oM];split<;>rfl
 by_cases L:(c.grey x).shd x=false
 ·have l:ph x=none:=by rw[<-m.ph];exact Cw L
  have a1:hF ph ρ r x= .var x:=by rw[DT (by rw[M];exact l),M]
  have H:∀z,((c.grey x).black x).sz z=if z=x then 1 else c.sz z:=G
  refine⟨1,(c.grey x).black x,fun n F=>?_,⟨⟨m.ru,m.keys,m.ph⟩,fun z g=>?_⟩,⟨rfl,fun z g=>?_,fun z g=>?_⟩,?_,?_⟩
  ·obtain⟨n',rfl⟩:∃n',n=n'+1:=⟨n-1,Ω⟩;simp only[rM,if_neg Ep,if_neg W,if_pos L]
  ·rw[q,H,k];by_cases e:z=x
   ·subst e;simp only[if_true,a1];exact .inr ⟨trivial,by simp[T.size,cut]⟩
   ·simp only[if_neg e];exact hw.col z g
  ·have e:z≠x:=fun e=>by subst e;omega
   rw[q,H,k];simp only[if_neg e];exact⟨trivial,trivial⟩
  ·have e:z≠x:=fun e=>by subst e;omega
   rw[q,H,k];simp only[if_neg e];exact⟨g,trivial⟩
  ·rw[q,if_pos rfl]
  ·rw[H,if_pos rfl,a1];simp[T.size,cut]
 ·have l:ph x=some ((c.grey x).shp x):=by rw[<-m.ph];exact Cx L
  obtain⟨g1,g2,g3⟩:=fS _ _ l;have MD:∀(t:T) (e:bE),(∀w,t.occ w=true->((c.grey x).shp x).occ w=true)->rX V ph ρ r (r x) e->∃N p,(∀n,N<=n->t.foldO (AF (rM n)) (e,true)=some (p,true))/\rX V ph ρ r (r x) p/\oe ph ρ r (r x) e p/\∀w,t.occ w=true->p.col (ρ w)=2/\p.sz (ρ w)=cut (hF ph ρ r w).size:=by
   intro t;induction t with
   |var v=>intro e o he;have aL:=g2 v (o v (by simp[T.occ]));have xS:r (ρ v)<r x:=aD x (ρ v) ⟨M,_,v,l,o v (by simp[T.occ]),rfl⟩;obtain⟨S,B,Z⟩:=vf he.fin.ru (by rw[he.fin.keys];exact aL:v∈cC e.up);obtain⟨N,i,E,j,y,c2,s2⟩:=bB (r x) aQ (ρ v) S xS (hid v) (by rw[<-he.fin.keys];exact(he.fin.ru.mem (by rw[he.fin.keys];exact aL)).1) (he.sm Z);refine⟨N,i,fun n F=>by simp[T.foldO,AF,B,E n F],j,(oe.sm Z).trans (y.mono Ω),fun w hw=>?_⟩;simp[T.occ]at hw;subst hw;exact⟨c2,by rw[s2,<-Br hid]⟩
   |pair a b ee ef=>
    intro e o he;obtain⟨iq,S,B,s,P,s1⟩:=ee e (fun w hw=>o w (by simp[T.occ,hw])) he;obtain⟨jR,i,E,j,y,s2⟩:=ef S (fun w hw=>o w (by simp[T.occ,hw])) s;refine⟨max iq jR,i,fun n F=>by simp only[T.foldO];rw[B n Ω];exact E n Ω,j,P.trans y,fun w hw=>?_⟩;simp only[T.occ,mR]at hw;rcases hw with hw|hw
    ·obtain⟨X,z2⟩:=s1 w hw;exact⟨(y.lo _ X).1,by rw[(y.lo _ X).2];exact z2⟩
    ·exact s2 w hw
   |_=>intro e _ he;exact⟨0,e,fun n _=>rfl,he,oe.refl,fun w hw=>by simp[T.occ]at hw⟩
  obtain⟨N,e,B,s,P,s1⟩:=MD ((c.grey x).shp x) (c.grey x) (fun w h=>h) Q;have R:e.shp x=(c.grey x).shp x:=by
   have J:e.ph x=some ((c.grey x).shp x):=by rw[s.fin.ph];exact l
   unfold bE.ph at J;split at J
   ·exact ft J
   ·cases J
  obtain⟨i,E,bJ⟩:=aqT (V:=V) (ph:=ph) (ρ:=ρ) (hF ph ρ r) ((c.grey x).shp x) e s.fin (fun w hw=>⟨g2 w hw,(s1 w hw).2⟩);have lT:hF ph ρ r x=((c.grey x).shp x).ap (hF ph ρ r):=Bs hid aD (by rw[M];exact l);have O:=P.trans (oe.sm (ph:=ph) (r:=r) (d:=r x) bJ);have j:=s.sm bJ;let K:bE:={i with size:=fa x (cut (hF ph ρ r x).size) i.size}.black x
  have c3:∀z,K.col z=if z=x then 2 else i.col z:=fun z=>q _ z
  have s3:∀z,K.sz z=if z=x then cut (hF ph ρ r x).size else i.sz z:=fun z=>by show(dp z (fa x _ i.size)).getD 0=_;rw[oM];split<;>rfl
  refine⟨N+1,K,fun n F=>?_,⟨⟨j.fin.ru,j.fin.keys,j.fin.ph⟩,fun z g=>?_⟩,⟨O.full,fun z g=>?_,fun z g=>?_⟩,by rw[c3,if_pos rfl],by rw[s3,if_pos rfl]⟩
  ·obtain⟨n',rfl⟩:∃n',n=n'+1:=⟨n-1,Ω⟩;simp only[rM,if_neg Ep,if_neg W,if_neg L,B n' Ω,ld,Bool.true_eq_false,if_false,R,E,nz,lT,K]
  ·rw[c3,s3];by_cases f:z=x
   ·subst f;simp only[if_true];exact .inr ⟨trivial,trivial⟩
   ·simp only[if_neg f];by_cases bN:r z<r x
    ·exact j.col z bN
    ·obtain⟨D,a2⟩:=O.hi z Ω;rw[D,a2,k,G,if_neg f,if_neg f];exact hw.col z g
  ·have f:z≠x:=fun e=>by subst e;omega
   obtain⟨D,a2⟩:=O.hi z Ω;rw[c3,s3,if_neg f,if_neg f,D,a2,k,G,if_neg f,if_neg f];exact⟨rfl,rfl⟩
  ·have f:z≠x:=fun e=>by subst e;omega
   obtain⟨D,a2⟩:=O.lo z (by rw[k,if_neg f];exact g);rw[c3,s3,if_neg f,if_neg f,D,a2,G,if_neg f];exact⟨rfl,rfl⟩
structure sV (V:List Int) (ph:Int->aZ T) (ρ:Int->Int) (r:Int->Nat) (c:bE):Prop where
 fin:vr V ph ρ c
 full:∀x t,dp x c.full=some t->t=hF ph ρ r x
def sV.sm{c a:bE}(h:sV V ph ρ r c)(k:jC ρ c a):sV V ph ρ r a:=⟨h.fin.sm k,by rw[k.rest.2.2];exact h.full⟩
def atn(O:pJ V ph)(hid:∀v,ρ (ρ v)=ρ v)(H:∀z u,jP ph ρ z u->r u<r z)(d:Nat):∀(x:Int) (c:bE),r x<d->ρ x=x->x∈V->sV V ph ρ r c->
  ∃N G,(∀n,N<=n->rJ n x c=some (hF ph ρ r x,G))/\sV V ph ρ r G:=by
 induction d with
 |zero=>intro x c h;omega
 |succ d U=>
 intro x c Y o X f;cases p:dp x c.full with
 |some t=>refine⟨1,c,fun n k=>?_,f⟩;obtain⟨n',rfl⟩:∃n',n=n'+1:=⟨n-1,Ω⟩;simp only[rJ,p,f.full x t p]
 |none=>
  have J:∀(e:bE),sV V ph ρ r e->sV V ph ρ r {e with full:=fa x (hF ph ρ r x) e.full}:=fun e he=>⟨⟨he.fin.ru,he.fin.keys,he.fin.ph⟩,fun z t S=>by
   have l:dp z (fa x (hF ph ρ r x) e.full)=some t:=S;rw[oM]at l;split at l
   ·rename_i e;subst e;cases l;rfl
   ·exact he.full z t l⟩
  by_cases m:c.shd x=false
  ·have i:ph x=none:=by rw[<-f.fin.ph];exact Cw m
   have a1:hF ph ρ r x= .var x:=by rw[DT (by rw[o];exact i),o]
   refine⟨1,_,fun n k=>?_,J c f⟩;obtain⟨n',rfl⟩:∃n',n=n'+1:=⟨n-1,Ω⟩;simp only[rJ,p,if_pos m,a1]
  ·have i:ph x=some (c.shp x):=by rw[<-f.fin.ph];exact Cx m
   obtain⟨g1,g2,g3⟩:=O _ _ i;have A:∀(t:T) (e:bE),(∀w,t.occ w=true->(c.shp x).occ w=true)->sV V ph ρ r e->∃N F,(∀n,N<=n->t.mapO (C0 (rJ n)) e=some (t.ap (hF ph ρ r),F))/\sV V ph ρ r F:=by
    intro t;induction t with
    |var v=>intro e g he;have E:=g2 v (g v (by simp[T.occ]));have W:r (ρ v)<r x:=H x (ρ v) ⟨o,_,v,i,g v (by simp[T.occ]),rfl⟩;obtain⟨B,j,R⟩:=vf he.fin.ru (by rw[he.fin.keys];exact E:v∈cC e.up);obtain⟨N,D,y,s⟩:=U (ρ v) B Ω (hid v) (by rw[<-he.fin.keys];exact(he.fin.ru.mem (by rw[he.fin.keys];exact E)).1) (he.sm R);exact⟨N,D,fun n k=>by simp only[T.mapO,C0,j,ld,y n k,T.ap];rw[<-Br hid],s⟩
    |pair a b Q P=>intro e g he;obtain⟨M,B,j,q⟩:=Q e (fun w hw=>g w (by simp[T.occ,hw])) he;obtain⟨L,D,y,s⟩:=P B (fun w hw=>g w (by simp[T.occ,hw])) q;exact⟨max M L,D,fun n k=>by simp only[T.mapO,j n Ω,ld,y n Ω,nz,T.ap],s⟩
    |_=>intro e _ he;exact⟨0,e,fun n _=>rfl,he⟩
   obtain⟨N,e,j,q⟩:=A (c.shp x) c (fun w h=>h) f;have K:hF ph ρ r x=(c.shp x).ap (hF ph ρ r):=Bs hid H (by rw[o];exact i);refine⟨N+1,_,fun n k=>?_,J e q⟩;obtain⟨n',rfl⟩:∃n',n=n'+1:=⟨n-1,Ω⟩;simp only[rJ,p,if_neg m,j n' Ω,nz,K]
def o0(ph:Int->aZ T)(ρ:Int->Int)(v:Int):Bool:= !(decide (ρ v=v)&&(ph v).isNone)
def aqW(Q:pJ V ph)(hid:∀v,ρ (ρ v)=ρ v)(X:∀z u,jP ph ρ z u->r u<r z)(P:∀v∈V,ρ v∈V):∀(bf:List Int) (c:bE) (out:List Int),(∀v∈bf,v∈V)->(∀d,rX V ph ρ r d c)->out.length<=400->(∀v∈out,(hF ph ρ r v).size<=5000)->
  ∃N p o,(∀n,N<=n->tW n bf c out=some (o,p))/\vr V ph ρ p/\p.full=c.full/\(∀l,o=some l->l=out++bf.filter (o0 ph ρ)/\l.length<=400/\∀v∈l,(hF ph ρ r v).size<=5000)/\(o=none->¬((out++bf.filter (o0 ph ρ)).length<=400/\∀v∈out++bf.filter (o0 ph ρ),(hF ph ρ r v).size<=5000)):=by
 intro bf;induction bf with
 |nil=>intro c out _ hw J U;exact⟨0,c,some out,fun n _=>rfl,(hw 0).fin,rfl,fun l e=>by cases e;simp;exact⟨J,U⟩,fun e=>by cases e⟩
 |cons v bf K=>
  intro c out y hw J U;have D:=y v Ψ;obtain⟨H,R,G⟩:=vf (hw 0).fin.ru (by rw[(hw 0).fin.keys];exact D:v∈cC c.up);have O:∀d,rX V ph ρ r d H:=fun d=>(hw d).sm G;obtain⟨f,c2,W,g,F,Y,s2⟩:=aty Q hid X (r (ρ v)+1) (ρ v) H Ω (hid v) (P v D) (O _);have E:∀d,rX V ph ρ r d c2:=fun d=>⟨g.fin,fun z t=>by
   by_cases S:r z<r (ρ v)+1
   ·exact g.col z S
   ·obtain⟨s,a2⟩:=F.hi z Ω;rw[s,a2];exact(O d).col z t⟩
  have A:c2.full=c.full:=F.full.trans G.rest.2.2;have M:(c2.shd (ρ v)=false)=((ph (ρ v)).isNone=true):=by rw[<-g.fin.ph];unfold bE.ph;cases c2.shd (ρ v)<;>simp
  have j:∀n,f<=n->tW n (v::bf) c out=(if ρ v=v/\c2.shd (ρ v)=false then tW n bf c2 out else if 5000<c2.sz (ρ v)\/400<out.length+1 then some (none,c2)else tW n bf c2 (out++[v])):=fun n b=>by simp only[tW,R,ld,W n b,Bool.true_eq_false,if_false]
  have L:hF ph ρ r (ρ v)=hF ph ρ r v:=(Br hid v).symm;by_cases aA:ρ v=v/\c2.shd (ρ v)=false
  ·have ae:o0 ph ρ v=false:=by have x:=aA.2;rw[M]at x;rw[aA.1]at x;simp[o0,aA.1,x]
   obtain⟨k,c3,o,q,f3,i,B,m⟩:=K c2 out (fun w hw=>y w (by simp[hw])) E J U;refine⟨max f k,c3,o,fun n b=>by rw[j n Ω,if_pos aA];exact q n Ω,f3,i.trans A,?_,?_⟩
   ·simp only[List.filter_cons,ae,hI,if_false];exact B
   ·simp only[List.filter_cons,ae,hI,if_false];exact m
  ·have ae:o0 ph ρ v=true:=by
    cases e:o0 ph ρ v with
    |true=>rfl
    |false=>simp only[o0,Bool.not_eq_false',cD,e3]at e;exact absurd ⟨e.1,by rw[M,e.1];exact e.2⟩ aA
   by_cases a:5000<c2.sz (ρ v)\/400<out.length+1
   ·refine⟨f,c2,none,fun n b=>by rw[j n b,if_neg aA,if_pos a],g.fin,A,(fun l e=>by cases e),fun _=>?_⟩;simp only[List.filter_cons,ae,if_true];rintro⟨s,a2⟩;rcases a with a|a
    ·rw[s2,L]at a;have:=a2 v Ψ;unfold cut at a;split at a<;>omega
    ·simp at s;omega
   ·have t:(hF ph ρ r v).size<=5000:=by have:¬5000<c2.sz (ρ v):=fun h=>a (.inl h);rw[s2,L]at this;unfold cut at this;split at this<;>omega
    obtain⟨k,c3,o,q,f3,i,B,m⟩:=K c2 (out++[v]) (fun w hw=>y w (by simp[hw])) E gc (fun w hw=>by
     rcases j0.1 hw with hw|hw
     ·exact U w hw
     ·simp at hw;subst hw;exact t)
    refine⟨max f k,c3,o,fun n b=>by rw[j n Ω,if_neg aA,if_neg a];exact q n Ω,f3,i.trans A,?_,?_⟩
    ·simp only[List.filter_cons,ae,if_true];simpa using B
    ·simp only[List.filter_cons,ae,if_true];simpa using m
def aqX(g:pJ V ph)(hid:∀v,ρ (ρ v)=ρ v)(q:∀z u,jP ph ρ z u->r u<r z)(d:∀v∈V,ρ v∈V):∀(bf:List Int) (c:bE),(∀v∈bf,v∈V)->sV V ph ρ r c->∃N i,∀n,N<=n->Aw n bf c=some (bf.map fun v=>⟨v,hF ph ρ r v⟩,i):=by
 intro bf;induction bf with
 |nil=>intro c _ _;exact⟨0,c,fun n _=>rfl⟩
 |cons v bf p=>intro c b hw;have a:=b v Ψ;obtain⟨m,j,k⟩:=vf hw.fin.ru (by rw[hw.fin.keys];exact a:v∈cC c.up);obtain⟨f,c2,o,h⟩:=atn g hid q (r (ρ v)+1) (ρ v) m Ω (hid v) (d v a) (hw.sm k);obtain⟨e,c3,l⟩:=p c2 (fun w hw=>b w (by simp[hw])) h;refine⟨max f e,c3,fun n s=>?_⟩;simp only[Aw,j,ld,o n Ω,l n Ω,nz,fG];rw[<-Br hid]
end
end
section
open Go
def bE.new:bE:=⟨[],[],[],[],[],[]⟩
def sE(l:List Int):List Int:=l.mergeSort fun x y=>decide (x<=y)
def CT(n:Nat)(E:List (T×T)):aZ (aZ (List az)):=(q8 n E bE.new).bind fun p=>if p.1=false then some none else FX n (sE (cC p.2.up)) p.2
def F0(l:List Int):(sE l).Perm l:=List.mergeSort_perm l _
def arb{l:List Int}(h:l.Nodup):(sE l).Pairwise (· < ·):=by have J:(sE l).Pairwise fun x y=>decide (x<=y)=true:=List.pairwise_mergeSort (fun a b c=>by simp;omega) (fun a b=>by simp;omega) l;have U:(sE l).Pairwise (· ≠ ·):=List.nodup_iff_pairwise_ne.1 ((F0 l).nodup_iff.2 h);exact(J.and U).imp fun h=>by simp at h;omega
structure acI (c:bE) (ρ:Int->Int) (cB:bE) (YO:Int->Prop):Prop where
 inv:mS cB ρ
 ph:cB.ph=c.ph
 nd:(cC cB.up).Nodup
 sub:∀v∈cC c.up,v∈cC cB.up
 occ:∀v,YO v->v∈cC cB.up
 rest:cB.color=c.color/\cB.size=c.size/\cB.full=c.full
 new:∀v∈cC cB.up,v∈cC c.up\/YO v
def Yp{ρ:Int->Int}(t:T):∀(c:bE),mS c ρ->(cC c.up).Nodup->(∀v,t.occ v=true->0<=v)->∃n,Cb t c=some n/\acI c ρ n fun v=>t.occ v=true:=by
 unfold Cb;induction t with
 |var v=>
  intro c hi i j;by_cases d:v∈cC c.up
  ·obtain⟨l,k,f⟩:=vf hi.ru d;refine⟨l,by simp[T.foldO,k],hi.sm f,f.ph,by rw[f.keys];exact i,fun w hw=>by rw[f.keys];exact hw,fun w hw=>?_,f.rest,fun w hw=>.inl (by rw[f.keys]at hw;exact hw)⟩;simp[T.occ]at hw;subst hw;rw[f.keys];exact d
  ·obtain⟨k,m,g⟩:=aqx hi.ru (j v (by simp[T.occ])) d;refine⟨{c with up:=fa v v c.up},by simp only[T.foldO,k,nz],⟨m,?_,hi.sat⟩,rfl,?_,fun w hw=>by rw[g];simp[hw],fun w hw=>?_,⟨rfl,rfl,rfl⟩,fun w hw=>?_⟩
   ·intro x u s;obtain⟨q,a2,a3⟩:=hi.sh x u s;refine⟨q,fun w hw=>?_,?_⟩
    ·show w∈cC (fa v v c.up);rw[g];simp[a2 w hw]
    ·show x∈cC (fa v v c.up);rw[g];simp[a3]
   ·rw[g];rw[rS];exact⟨i,Ψ,fun a r b ae e=>by simp at ae;subst ae;subst e;exact d r⟩
   ·simp[T.occ]at hw;subst hw;rw[g];simp
   ·rw[g]at hw;simp at hw;rcases hw with hw|rfl;exact .inl hw;exact .inr (by simp[T.occ])
 |pair a b p o=>
  intro c hi i j;obtain⟨l,k,m1⟩:=p c hi i fun v d=>j v (by simp[T.occ,d]);obtain⟨c2,m,m2⟩:=o l m1.inv m1.nd fun v d=>j v (by simp[T.occ,d]);refine⟨c2,by simp only[T.foldO,k,ld,m],m2.inv,m2.ph.trans m1.ph,m2.nd,fun v d=>m2.sub v (m1.sub v d),fun v d=>?_,?_,fun v d=>?_⟩
  ·simp only[T.occ,mR]at d;rcases d with d|d
   ·exact m2.sub v (m1.occ v d)
   ·exact m2.occ v d
  ·rw[m2.rest.1,m2.rest.2.1,m2.rest.2.2];exact m1.rest
  ·rcases m2.new v d with h|h
   ·rcases m1.new v h with h|h
    ·exact .inl h
    ·exact .inr (by simp[T.occ,h])
   ·exact .inr (by simp[T.occ,h])
 |_=>intro c hi i j;exact⟨c,rfl,hi,rfl,i,fun v d=>d,fun v d=>by simp[T.occ]at d,⟨rfl,rfl,rfl⟩,fun v d=>.inl d⟩
def Om(E:List (T×T)):Prop:= ∀e∈E,∀v,(e.1.occ v=true\/e.2.occ v=true)->0<=v
def DD:∀(E:List (T×T)) (c:bE) (ρ:Int->Int),mS c ρ->(cC c.up).Nodup->Om E->∃N o,(∀n,N<=n->q8 n E c=some o)/\((o.2.color=c.color/\o.2.size=c.size/\o.2.full=c.full)/\∀v∈cC o.2.up,v∈cC c.up\/ ∃e∈E,e.1.occ v=true\/e.2.occ v=true)/\(o.1=true->∃ρ',mS o.2 ρ'/\(cC o.2.up).Nodup/\∀a,kV o.2.ph ρ' a↔kV c.ph ρ a/\kd E a)/\(o.1=false->∀a,kV c.ph ρ a->¬kd E a):=by
 intro E;induction E with
 |nil=>intro c ρ hi g _;exact⟨0,(true,c),fun n _=>rfl,⟨⟨rfl,rfl,rfl⟩,fun v b=>.inl b⟩,fun _=>⟨ρ,hi,g,fun a=>⟨fun h=>⟨h,FZ a⟩,fun h=>h.1⟩⟩,fun e=>by cases e⟩
 |cons e E O=>
  intro c ρ hi g m;obtain⟨M,t,m1⟩:=Yp e.1 c hi g fun v b=>m e Ψ v (.inl b);obtain⟨c2,y,m2⟩:=Yp e.2 M m1.inv m1.nd fun v b=>m e Ψ v (.inr b);obtain⟨F,A⟩:=m2.inv.sat
  obtain⟨s,i,u,d⟩:=aeK _ _ c2 ρ e.1 e.2 F m2.inv A (fun w hw=>m2.sub w (m1.occ w hw)) (fun w hw=>m2.occ w hw) rfl rfl;have k:c2.ph=c.ph:=m2.ph.trans m1.ph;have r:i.2.color=c.color/\i.2.size=c.size/\i.2.full=c.full:=by rw[d.rest.1,d.rest.2.1,d.rest.2.2,m2.rest.1,m2.rest.2.1,m2.rest.2.2];exact m1.rest
  have z:∀v∈cC i.2.up,v∈cC c.up\/e.1.occ v=true\/e.2.occ v=true:=fun v b=>by
   rw[d.keys]at b;rcases m2.new v b with h|h
   ·rcases m1.new v h with h|h
    ·exact .inl h
    ·exact .inr (.inl h)
   ·exact .inr (.inr h)
  obtain⟨f,c3⟩:=i;cases f with
  |false=>refine⟨s,(false,c3),fun n g=>?_,⟨r,fun v b=>(z v b).imp id fun h=>⟨e,Ψ,h⟩⟩,(fun e=>by cases e),fun _ a p he=>d.no rfl a (by rw[k];exact p) (sC.1 he).1⟩;simp only[q8,t,y,ld,u n g,hI,if_false]
  |true=>
   obtain⟨D,x,a2,_⟩:=d.yes rfl;simp only at x a2;obtain⟨G,H,L,j,K,B⟩:=O c3 D x (by have:=d.keys;simp only at this;rw[this];exact m2.nd) fun l he=>m l (by simp[he]);refine⟨max s G,H,fun n g=>?_,?_,fun q=>?_,fun q a p he=>?_⟩
   ·simp only[q8,t,y,ld,u n Ω,if_true];exact L n Ω
   ·refine⟨by rw[j.1.1,j.1.2.1,j.1.2.2];exact r,fun v b=>?_⟩;rcases j.2 v b with h|⟨l,J,U⟩
    ·exact(z v h).imp id fun h=>⟨e,Ψ,h⟩
    ·exact .inr ⟨l,by simp[J],U⟩
   ·obtain⟨ρ2,d1,d2,d3⟩:=K q;exact⟨ρ2,d1,d2,fun a=>by rw[d3 a,a2 a,k,sC,and_assoc]⟩
   ·exact B q a ((a2 a).2 ⟨by rw[k];exact p,(sC.1 he).1⟩) (sC.1 he).2
def GI{ph:Int->aZ T}{ρ:Int->Int}{v:Int}:o0 ph ρ v=false↔ρ v=v/\ph v=none:=by simp[o0]
def VL{ph:Int->aZ T}{ρ:Int->Int}{r:Int->Nat}(hid:∀v,ρ (ρ v)=ρ v):∀(n:Nat) (v w:Int),(oh ph ρ n v).occ w=true->(∀z u,jP ph ρ z u->r u<r z)->r (ρ v)<n->ρ w=w/\ph w=none
 |0,v,w,_,_,h=>Ω
 |n+1,v,w,h,a,b=>by
  simp only[oh]at h;cases e:ph (ρ v)with
  |none=>rw[e]at h;simp[T.occ]at h;subst h;exact⟨hid v,e⟩
  |some t=>rw[e]at h;obtain⟨u,J,U⟩:=Fl.1 h;have:=a (ρ v) (ρ u) ⟨hid v,t,u,e,J,rfl⟩;exact VL hid n u w U a Ω
section
variable {V:List Int} {ph:Int->aZ T} {ρ:Int->Int} {r:Int->Nat}
def vh(ph:Int->aZ T)(ρ:Int->Int)(r:Int->Nat)(V:List Int):List az:=((sE V).filter (o0 ph ρ)).map fun v=>⟨v,hF ph ρ r v⟩
def PR(a:V.Nodup):iX (vh ph ρ r V):=by unfold vh;rw[iX,List.pairwise_map];exact((arb a).filter _)
def aaN(f:V.Nodup)(a:pJ V ph)(d:∀v,v∉V->ρ v=v)(v:Int):dC (vh ph ρ r V) v=if o0 ph ρ v then some (hF ph ρ r v)else none:=by
 by_cases ae:o0 ph ρ v=true
 ·rw[if_pos ae];have g:v∈V:=by
   refine Classical.byContradiction fun h=>?_;have J:=d v h;have U:ph v=none:=by cases e:ph v with
    |none=>rfl
    |some t=>exact absurd (a v t e).2.2 h
   rw[GI.2 ⟨J,U⟩]at ae;cases ae
  have:(⟨v,hF ph ρ r v⟩:az)∈vh ph ρ r V:=iA.2 ⟨v,n3.2 ⟨(F0 V).mem_iff.2 g,ae⟩,rfl⟩;exact xh (PR f) this
 ·rw[if_neg ae];refine xi.2 fun b c e=>?_;obtain⟨u,J,rfl⟩:=iA.1 c;simp only at e;subst e;exact ae (n3.1 J).2
def aqZ(d:V.Nodup)(c:pJ V ph)(g:∀v,v∉V->ρ v=v)(hid:∀v,ρ (ρ v)=ρ v)(hle:∀v,ρ v<=v)(f:∀z u,jP ph ρ z u->r u<r z):gm (vh ph ρ r V):=by
 refine⟨PR d,fun b ae w hw=>?_,fun b ae w hw=>?_⟩
 ·obtain⟨u,J,rfl⟩:=iA.1 ae;rw[aaN d c g];have:=VL hid _ u w hw f Ω;rw[GI.2 this];rfl
 ·obtain⟨u,J,rfl⟩:=iA.1 ae;have a:=(n3.1 J).2;simp only at hw⊢;cases e:ph (ρ u)with
  |none=>
   rw[DT e]at hw;cases hw;have U:=hle u;have i:ρ u≠u:=fun h=>by rw[GI.2 ⟨h,by rw[h]at e;exact e⟩]at a;cases a
   omega
  |some t=>rw[Bs hid f e]at hw;have:=(c _ _ e).1;cases t<;>simp[T.ap,T.kind]at hw this
def ai8(hid:∀v,ρ (ρ v)=ρ v)(b:∀z u,jP ph ρ z u->r u<r z)(a:Int->T):kV ph ρ a↔∀v,a v=(hF ph ρ r v).ap a:=by
 constructor
 ·intro h;have:∀(n:Nat) (v:Int),r (ρ v)<n->a v=(hF ph ρ r v).ap a:=by
   intro n;induction n with
   |zero=>intro v h;omega
   |succ n c=>
    intro v f;cases e:ph (ρ v)with
    |none=>rw[DT e];exact h.1 v
    |some t=>rw[Bs hid b e,Dj,h.1 v,h.2 _ t (hid v) e];refine vA fun w hw=>c w ?_;have:=b (ρ v) (ρ w) ⟨hid v,t,w,e,hw,rfl⟩;omega
  exact fun v=>this _ v (Nat.lt_succ_self _)
 ·intro h;refine⟨fun v=>by rw[h v,h (ρ v),<-Br hid],fun x t d aM=>?_⟩;rw[h x,Bs hid b (by rw[d];exact aM),Dj];exact vA fun w _=>(h w).symm
def aqY(a:V.Nodup)(c:pJ V ph)(d:∀v,v∉V->ρ v=v)(hid:∀v,ρ (ρ v)=ρ v)(f:∀z u,jP ph ρ z u->r u<r z)(b:Int->T):hE (vh ph ρ r V) b↔kV ph ρ b:=by
 rw[ai8 hid f,aq5 (PR a)];refine forall_congr' fun v=>?_;rw[cQ,aaN a c d];cases e:o0 ph ρ v with
 |true=>simp
 |false=>obtain⟨J,U⟩:=GI.1 e;rw[DT (by rw[J];exact U),J];simp
end
def aq6(E:List (T×T))(W:Om E):∃n o,CT n E=some o/\jD [] E o/\∀c,q8 n E bE.new=some (true,c)->(cC c.up).Nodup/\(∀v∈cC c.up,∃e∈E,e.1.occ v=true\/e.2.occ v=true)/\c.size=[]:=by
 have hi:mS bE.new id:=⟨⟨fun v u h=>by simp[bE.new,dp]at h,fun v _=>rfl⟩,fun x t h=>by simp[bE.new,bE.ph,bE.shd,dp]at h,⟨.var,fun v=>rfl,fun x t _ h=>by simp[bE.new,bE.ph,bE.shd,dp]at h⟩⟩;have B:∀a,kV bE.new.ph id a:=fun a=>⟨fun v=>rfl,fun x t _ h=>by simp[bE.new,bE.ph,bE.shd,dp]at h⟩;obtain⟨i,Q,q,m,R,N⟩:=DD E bE.new id hi (by simp[bE.new,cC]) W;obtain⟨m,H⟩:=m;obtain⟨f,c⟩:=Q;cases f with
 |false=>refine⟨i,none,by simp[CT,q i (e2 _)],GB fun a _ he=>N rfl a (B a) he,fun c h=>?_⟩;rw[q i (e2 _)]at h;cases h
 |true=>
  obtain⟨ρ,g,a2,a3⟩:=R rfl;simp only at g a2 a3 m H;have L:∀n,i<=n->∀p,q8 n E bE.new=some (true,p)->(cC p.up).Nodup/\(∀v∈cC p.up,∃e∈E,e.1.occ v=true\/e.2.occ v=true)/\p.size=[]:=fun n Y p h=>by rw[q n Y]at h;cases h;exact⟨a2,fun v j=>(H v j).resolve_left (by simp[bE.new,cC]),m.2.1⟩
  obtain⟨r,w⟩:=g.rank;have hid:=g.ru.idem;have F:∀v∈cC c.up,ρ v∈cC c.up:=fun v j=>(g.ru.mem j).1;have S:vr (cC c.up) c.ph ρ c:=⟨g.ru,rfl,rfl⟩;have hw:∀d,rX (cC c.up) c.ph ρ r d c:=fun d=>⟨S,fun z _=>.inl (by simp[bE.col,m.1,bE.new,dp])⟩;obtain⟨k,c2,o,G,X,P,M,Rs⟩:=aqW g.sh hid w F (sE (cC c.up)) c [] (fun v j=>(F0 _).mem_iff.1 j) hw Ψ (fun v j=>by simp at j);have du:=aqZ (r:=r) a2 g.sh g.ru.no hid g.ru.le w;have D:∀a,hE (vh c.ph ρ r (cC c.up)) a↔hE [] a/\kd E a:=fun a=>by rw[aqY a2 g.sh g.ru.no hid w,a3 a];exact⟨fun h=>⟨fun b ae=>by simp at ae,h.2⟩,fun h=>⟨B a,h.2⟩⟩
  have K:h7 (vh c.ph ρ r (cC c.up))↔(([]++(sE (cC c.up)).filter (o0 c.ph ρ)).length<=400/\∀v∈[]++(sE (cC c.up)).filter (o0 c.ph ρ),(hF c.ph ρ r v).size<=5000):=by unfold h7 vh;simp only[iz,b6,iA,forall_exists_index,and_imp,forall_apply_eq_imp_iff₂]
  cases o with
  |none=>refine⟨max i k,none,by simp[CT,q (max i k) Ω,FX,G (max i k) Ω],?_,L _ Ω⟩;exact fun aj J U Z=>Rs rfl (K.1 (U5 du J (fun a O=>(D a).2 (U a O)) Z))
  |some l=>
   obtain⟨s,aC,V⟩:=M l rfl;have A:sV (cC c.up) c.ph ρ r c2:=⟨X,fun x t h=>by rw[P,m.2.2]at h;simp[bE.new,dp]at h⟩;simp only[b6]at s;obtain⟨y,c3,d1⟩:=aqX g.sh hid w F l c2 (fun v j=>by rw[s]at j;exact(F0 _).mem_iff.1 (n3.1 j).1) A;refine⟨max (max i k) y,some (vh c.ph ρ r (cC c.up)),?_,⟨⟨du,K.2 ?_⟩,D⟩,L _ Ω⟩
   ·simp only[CT,q (max (max i k) y) Ω,ld,Bool.true_eq_false,if_false,FX,G (max (max i k) y) Ω,d1 (max (max i k) y) Ω,nz];rw[s];rfl
   ·rw[b6,<-s];exact⟨aC,V⟩
def iv(s:List az):List (T×T):=s.map fun b=>(.var b.v,b.t)
def aq4{s:List az}{a:Int->T}:kd (iv s) a↔hE s a:=by simp[kd,iv,hE,T.ap]
def acU{s:List az}{E:List (T×T)}{o:aZ (List az)}:jD [] (iv s++E) o↔jD s E o:=by
 have h:∀a,(hE [] a/\kd (iv s++E) a)↔(hE s a/\kd E a):=fun a=>by rw[FY,aq4];exact⟨fun h=>h.2,fun h=>⟨fun b ae=>by simp at ae,h⟩⟩
 exact⟨Dg h,Dg fun a=>(h a).symm⟩
end
section
open Go
open Classical in
noncomputable def mgu(s:List az)(E:List (T×T)):aZ (List az):=if h:∃o,jD s E o then h.choose else none
def tK{s:List az}{E:List (T×T)}{o:aZ (List az)}(h:jD s E o):mgu s E=o:=by have a:∃o,jD s E o:=⟨o,h⟩;unfold mgu;rw[dif_pos a];exact acV a.choose_spec h
def rD(s:List az):Prop:= ∀b∈s,(0<=b.v/\b.v<=100000)/\b.t.ok=true
def Rl{d:Int->T}{t:T}(aM:t.ok=true)(h:∀v,t.occ v=true->(d v).ok=true):(t.ap d).ok=true:=by
 induction t with
 |var n=>exact h n (by simp[T.occ])
 |pair a b f e=>simp only[T.ok,cD]at aM;simp only[T.ap,T.ok,cD];exact⟨f aM.1 fun v c=>h v (by simp[T.occ,c]),e aM.2 fun v c=>h v (by simp[T.occ,c])⟩
 |_=>exact aM
def yw{t:T}(aM:t.ok=true){v:Int}(h:t.occ v=true):0<=v/\v<=100000:=by
 induction t with
 |var n=>simp[T.occ]at h;subst h;simpa[T.ok]using aM
 |pair a b d c=>
  simp only[T.ok,cD]at aM;simp only[T.occ,mR]at h;rcases h with h|h
  ·exact d aM.1 h
  ·exact c aM.2 h
 |_=>simp[T.occ]at h
def JN{s:List az}(a:rD s){t:T}(aM:t.ok=true):(t.ap (cQ s)).ok=true:=Rl aM fun v b=>by
 unfold cQ;cases e:dC s v with
 |none=>have:=yw aM b;simpa[T.ok]using this
 |some x=>exact(a _ (kX e)).2
def Dn{s:List az}(a:rD s){v:Int}{t:T}(e:0<=v/\v<=100000)(aM:t.ok=true){d:List az}(h:oZ s v t=some d):rD d:=by
 unfold oZ at h;split at h
 ·cases h;intro b ae;rcases rz.1 ae with rfl|⟨c,aA,rfl⟩
  ·exact⟨e,JN a aM⟩
  ·refine⟨(a c aA).1,Rl (a c aA).2 fun w hw=>?_⟩;unfold one;split
   ·exact JN a aM
   ·have:=yw (a c aA).2 hw;simpa[T.ok]using this
 ·cases h
def ab9{s:List az}(a:rD s){t:T}(aM:t.ok=true):(hU s t).ok=true:=by
 cases t with
 |var n=>have:=JN a aM;simpa[hU,T.ap]using this
 |_=>exact aM
def Qr:∀(n:Nat) (s:List az) (a b:T) (g:List az),rD s->a.ok=true->b.ok=true->lG n s a b=some (some g)->rD g
 |0,_,_,_,_,_,_,_,h=>by simp[lG]at h
 |n+1,s,a,b,g,c,m,ae,h=>by
  have d:=ab9 c m;have e:=ab9 c ae;simp only[lG]at h;generalize hU s a=x at h d;generalize hU s b=y at h e;have f:∀{i:Int},(T.var i).ok=true->0<=i/\i<=100000:=fun h=>yw h (by simp[T.occ]);cases x with
  |var i=>
   cases y with
   |var j=>
    simp only[kP,dz]at h;split at h
    ·exact Dn c (f e) d h
    ·split at h
     ·cases h;exact c
     ·exact Dn c (f d) e h
   |_=>simp only[kP,dz]at h;exact Dn c (f d) e h
  |pair l a2=>
   cases y with
   |var j=>simp only[kP,dz]at h;exact Dn c (f e) d h
   |pair k o=>
    simp only[T.ok,cD]at d e;simp only[kP]at h;split at h
    ·cases h
    ·cases h
    ·rename_i s1 p;exact Qr n s1 a2 o g (Qr n s l k s1 c d.1 e.1 p) d.2 e.2 h
   |_=>simp[kP]at h
  |_=>
   cases y with
   |var j=>simp only[kP,dz]at h;exact Dn c (f e) d h
   |_=>
    simp only[kP,dz]at h;split at h
    ·cases h;exact c
    ·cases h
def oO:T->List Int
 | .var n=>[n]
 | .pair a b=>oO a++oO b
 |_=>[]
def zY{t:T}{v:Int}(h:t.occ v=true):v∈oO t:=by
 induction t with
 |var n=>simp[T.occ]at h;subst h;simp[oO]
 |pair a b d c=>simp only[T.occ,mR]at h;simp only[oO,j0];exact h.imp d c
 |_=>simp[T.occ]at h
def J4{s:List az}(d:gm s)(e:h7 s)(a b:T):∃n o,lG n s a b=some o/\jD s [(a,b)] o:=by obtain⟨n,o,J,U⟩:=abm (s.flatMap (fun b=>b.v::oO b.t)++oO a++oO b) _ _ s a b d e (fun c aA=>⟨by simp only[j0,List.mem_flatMap];exact .inl (.inl ⟨c,aA,Ψ⟩),fun w hw=>by simp only[j0,List.mem_flatMap];exact .inl (.inl ⟨c,aA,by simp[zY hw]⟩)⟩) (fun w hw=>by simp[zY hw]) (fun w hw=>by simp[zY hw]) rfl rfl;exact⟨n,o,J,U.1⟩
def Q8{s:List az}{e:T×T}{E:List (T×T)}{s1:List az}(h:jD s [e] (some s1)){o:aZ (List az)}(U:jD s1 E o):jD s (e::E) o:=Q7 (E:=[e]) h U
def IN{s:List az}(b:gm s)(c:h7 s)(E:List (T×T)):jD s E (mgu s E):=by
 induction E generalizing s with
 |nil=>rw[tK (KA b c)];exact KA b c
 |cons e E d=>
  obtain⟨n,o,_,U⟩:=J4 b c e.1 e.2;cases o with
  |none=>have a:jD s (e::E) none:=Kz E U;rw[tK a];exact a
  |some s1=>have a:=Q8 U (d U.1.1 U.1.2);rw[tK a];exact a
def N9{s:List az}(a:gm s)(b:h7 s):mgu s []=some s:=tK (KA a b)
def N8{s:List az}(b:gm s)(c:h7 s)(e:T×T)(E:List (T×T)):mgu s (e::E)=match mgu s [e]with|some s1=>mgu s1 E|none=>none:=by
 have J:=IN b c [e];cases h:mgu s [e]with
 |none=>rw[h]at J;have a:jD s (e::E) none:=Kz E J;exact tK a
 |some s1=>rw[h]at J;exact tK (Q8 J (IN J.1.1 J.1.2 E))
def Cc{s:List az}(b:gm s)(c:h7 s){E:List (T×T)}{a:List az}(h:mgu s E=some a):gm a/\h7 a:=by have J:=IN b c E;rw[h]at J;exact J.1
def ami{s:List az}(c:gm s)(d:h7 s)(al:rD s){E:List (T×T)}(a:∀e∈E,e.1.ok=true/\e.2.ok=true){f:List az}(h:mgu s E=some f):rD f:=by
 induction E generalizing s with
 |nil=>rw[N9 c d]at h;cases h;exact al
 |cons e E j=>
  rw[N8 c d]at h;split at h
  ·rename_i s1 J;obtain⟨n,o,U,b⟩:=J4 c d e.1 e.2;have g:=tK b;rw[J]at g;subst g;exact j b.1.1 b.1.2 (Qr n s e.1 e.2 s1 al (a e Ψ).1 (a e Ψ).2 U) (fun i he=>a i (by simp[he])) h
  ·cases h
def XF{l:List Int}(f:l.Nodup)(h:∀v∈l,0<=v/\v<=100000):l.length<=100001:=by
 have J:(l.map Int.toNat).Nodup:=by rw[List.nodup_iff_pairwise_ne,List.pairwise_map];exact atL (fun{a b} d ae c e=>c (by have:=h a d;have:=h b ae;omega)) f
 have:=QU J (l₂:=List.range 100001) (fun x g=>by obtain⟨v,i,rfl⟩:=iA.1 g;have:=h v i;simp;omega)
 simpa using this
end
section
open Go
structure bR where
 v:Int
 k:Int
 deriving DecidableEq,Inhabited
def bR.e(b:bR):ah:= .agg [.int .i64 b.v,.int .i64 b.k]
@[simp]def bR.eta(b:bR):bR.mk b.v b.k=b:=rfl
@[simp]def Re(v k:Int):ah.agg [.int .i64 v,.int .i64 k]=(bR.mk v k).e:=rfl
@[simp]def awc(S:aB->Prop)(b:bR):au S b.e=True:=by simp[bR.e,-Re]
@[simp]def axU(b:bR):de b.e=b.e:=by simp[bR.e,-Re]
def XP(S:aB->Prop):∀l:List bR,ay S (l.map bR.e)
 |[]=>by simp[ay]
 |x::xs=>by simp[ay,XP S xs]
@[simp]def avU(S:aB->Prop)(l:List bR):ay S (l.map bR.e)=True:=eq_true (XP S l)
@[simp]def P0:∀l:List bR,cR (l.map bR.e)=l.map bR.e
 |[]=>rfl
 |x::xs=>by simp[cR,P0 xs]
@[simp]def axx(b:bR):fh b.e=true:=rfl
@[simp]def aup(b:bR):cells b.e=[.int .i64 b.v,.int .i64 b.k]:=rfl
@[simp]def avD(b:bR):Pv.isAgg 2 b.e:=⟨_,rfl,rfl⟩
@[simp]def auT(off:Nat)(a:Bool)(sz:Nat)(b:bR):vN off a sz b.e=if a then some (off+sz<=2,.agg (([.int .i64 b.v,.int .i64 b.k].drop off).take sz))else(([.int .i64 b.v,.int .i64 b.k]:List ah)[off]?).map fun p=>(True,p):=rfl
@[simp]def auL(off:Nat)(a:Bool)(sz:Nat)(b:bR):s8 off a sz (.eptr b.e)=if a then some (off+sz<=2,.eptr (.agg (([.int .i64 b.v,.int .i64 b.k].drop off).take sz)))else(([.int .i64 b.v,.int .i64 b.k]:List ah)[off]?).map fun p=>(fh p=true/\cells p=[p],.eptr p):=rfl
structure bq where
 v:Int
 s:List b7
 deriving DecidableEq,Inhabited
def bq.e(b:bq):ah:= .agg [.int .i64 b.v,.str b.s]
@[simp]def bq.eta(b:bq):bq.mk b.v b.s=b:=rfl
@[simp]def KH(v:Int)(s:List b7):ah.agg [.int .i64 v,.str s]=(bq.mk v s).e:=rfl
@[simp]def alC(S:aB->Prop)(b:bq):au S b.e=True:=by simp[bq.e,-KH]
@[simp]def axY(b:bq):de b.e=b.e:=by simp[bq.e,-KH]
def NF(S:aB->Prop):∀l:List bq,ay S (l.map bq.e)
 |[]=>by simp[ay]
 |x::xs=>by simp[ay,NF S xs]
@[simp]def XR(S:aB->Prop)(l:List bq):ay S (l.map bq.e)=True:=eq_true (NF S l)
@[simp]def P1:∀l:List bq,cR (l.map bq.e)=l.map bq.e
 |[]=>rfl
 |x::xs=>by simp[cR,P1 xs]
@[simp]def axz(b:bq):fh b.e=true:=rfl
@[simp]def aur(b:bq):cells b.e=[.int .i64 b.v,.str b.s]:=rfl
@[simp]def avF(b:bq):Pv.isAgg 2 b.e:=⟨_,rfl,rfl⟩
@[simp]def auU(off:Nat)(a:Bool)(sz:Nat)(b:bq):vN off a sz b.e=if a then some (off+sz<=2,.agg (([.int .i64 b.v,.str b.s].drop off).take sz))else(([.int .i64 b.v,.str b.s]:List ah)[off]?).map fun p=>(True,p):=rfl
@[simp]def auM(off:Nat)(a:Bool)(sz:Nat)(b:bq):s8 off a sz (.eptr b.e)=if a then some (off+sz<=2,.eptr (.agg (([.int .i64 b.v,.str b.s].drop off).take sz)))else(([.int .i64 b.v,.str b.s]:List ah)[off]?).map fun p=>(fh p=true/\cells p=[p],.eptr p):=rfl
def fO(x y:bq):Int:=if e6 x.v y.v=0 then lE x.s y.s else e6 x.v y.v
def mN:j9 fO:=by
 refine⟨fun x y=>?_,fun x y z J U=>?_,fun x y=>?_⟩
 ·unfold fO;have:=k8.neg x.v y.v;have:=Fv.neg x.s y.s;by_cases e:e6 x.v y.v=0
  ·rw[if_pos e,if_pos Ω];omega
  ·rw[if_neg e,if_neg Ω];omega
 ·unfold fO at J U⊢;by_cases b:e6 x.v y.v=0
  ·rw[if_pos b]at J;rw[(k8.zero _ _).1 b];by_cases a:e6 y.v z.v=0
   ·rw[if_pos a]at U⊢;exact Fv.tr _ _ _ J U
   ·rw[if_neg a]at U⊢;exact U
  ·rw[if_neg b]at J;have c:e6 x.v y.v<0:=Ω
   by_cases a:e6 y.v z.v=0
   ·rw[<-(k8.zero _ _).1 a,if_neg b];exact J
   ·rw[if_neg a]at U;have:=k8.ltr c U;rw[if_neg Ω];omega
 ·unfold fO;by_cases e:e6 x.v y.v=0
  ·rw[if_pos e,Fv.zero];have:=(k8.zero _ _).1 e;cases x;cases y;simp_all
  ·rw[if_neg e];exact⟨fun h=>absurd h e,fun h=>by rw[h]at e;exact absurd (k8.refl _) e⟩
def u6(x y:bq):Bool:=decide (x.v<y.v)||(x.v==y.v&&h5 x.s y.s)
def adu(a:List b7):h5 a a=false:=by
 cases h:h5 a a with
 |false=>rfl
 |true=>rw[KO a a h]at h;cases h
def YE(x y:bq):u6 x y=ix fO x y:=by
 unfold u6 ix fO;rw[rO];simp only[mR,e3,cD,dW];by_cases e:x.v=y.v
 ·have:e6 x.v y.v=0:=(k8.zero _ _).2 e;rw[if_pos this];simp only[e,Int.lt_irrefl,false_or,true_and,lE];by_cases a:x.s=y.s
  ·rw[if_pos a,a,adu];simp
  ·rw[if_neg a];split<;>simp_all
 ·have b:¬e6 x.v y.v=0:=fun h=>e ((k8.zero _ _).1 h);rw[if_neg b];simp only[e,false_and,or_false];unfold e6;(repeat' split)<;>omega
def jb{α:Type}(p:α->Prop)(r:α->α->Prop)(l:List α)(i:Nat):Prop:= ∀b,l[i]? =some b->p b/\∀c,0<i->l[i-1]? =some c->r c b
def Ra{α:Type}{p:α->Prop}{r:α->α->Prop}(aM:∀a b c,r a b->r b c->r a c){l:List α}:(∀i,i<l.length->jb p r l i)↔(∀b∈l,p b)/\l.Pairwise r:=by
 constructor
 ·intro h;refine⟨fun b ae=>?_,?_⟩
  ·obtain⟨i,hi,e⟩:=oS ae;exact(h i hi b (by rw[cl hi,e])).1
  ·rw[q1];have f:∀i (h:i+1<l.length),r l[i] l[i+1]:=fun i hi=>(h (i+1) hi l[i+1] (by simp[cl hi])).2 l[i] Ω (by simp[cl (show i<l.length by omega)]);have:∀(d i:Nat) (h:i+d+1<l.length),r l[i] l[i+d+1]:=by
    intro d;induction d with
    |zero=>intro i h;exact f i h
    |succ d g=>intro i h;exact aM _ _ _ (g i Ω) (f (i+d+1) Ω)
   intro i j hi q n;have:=this (j-i-1) i Ω;simpa[show i+(j-i-1)+1=j from by omega]using this
 ·rintro⟨J,U⟩ i hi b ae;refine⟨J b (ev ae),fun c o aA=>?_⟩;obtain⟨g1,k⟩:=fp.1 aA;obtain⟨g2,m⟩:=fp.1 ae;have:=q1.1 U (i-1) i g1 g2 Ω;rw[k,m]at this;exact this
def k5{α:Type}(c:α->α->Int)(x:α):List α->List α
 |[]=>[x]
 |y::l=>if c y x<0 then y::k5 c x l else if c y x=0 then y::l else x::y::l
section
variable {α:Type} {c:α->α->Int}
def IK(aA:j9 c){x z:α}:∀{l:List α},z∈k5 c x l↔z=x\/z∈l
 |[]=>by simp[k5]
 |y::l=>by
  simp only[k5];split
  ·simp only[gj,IK aA (l:=l)];constructor
   ·rintro(h|h|h)
    ·exact .inr (.inl h)
    ·exact .inl h
    ·exact .inr (.inr h)
   ·rintro(h|h|h)
    ·exact .inr (.inl h)
    ·exact .inl h
    ·exact .inr (.inr h)
  ·split
   ·rename_i h;obtain rfl:=(aA.zero _ _).1 h;simp
   ·simp
def Nk(aA:j9 c){x:α}:∀{l:List α},iB c l->iB c (k5 c x l)
 |[],_=>by simp[k5,iB]
 |y::l,h=>by
  obtain⟨J,U⟩:=n4.1 h;simp only[k5];split
  ·rename_i d;refine n4.2 ⟨fun z a=>?_,Nk aA U⟩;rcases(IK aA).1 a with rfl|a
   ·exact d
   ·exact J z a
  ·split
   ·exact h
   ·rename_i d e;have b:c x y<0:=by have:=aA.neg x y;omega
    refine n4.2 ⟨fun z a=>?_,h⟩;rcases gj.1 a with rfl|a
    ·exact b
    ·exact aA.ltr b (by have:=J z a;omega)
def Nn(x:α):∀l:List α,(k5 c x l).length<=l.length+1
 |[]=>by simp[k5]
 |y::l=>by
  have:=Nn x l;simp only[k5];split
  ·simp;omega
  ·split<;>simp
def Nl(aA:j9 c)(x:α):∀(l:List α) (k:Nat),(∀i y,i<k->l[i]? =some y->c y x<0)->(∀y,l[k]? =some y->0<=c y x)->k<=l.length->k5 c x l=if(match l[k]? with|some y=>decide (c y x=0)|none=>false)=true then l else l.take k++x::l.drop k
 |[],k,_,_,a=>by simp at a;subst a;simp[k5]
 |y::l,0,_,U,_=>by
  have:=U y rfl;by_cases e:c y x=0
  ·simp[k5,e]
  ·have g:¬c y x<0:=Ω
   simp[k5,g,e]
 |y::l,k+1,J,U,a=>by
  have f:=J 0 y Ω rfl;simp only[k5,if_pos f,List.take_succ_cons,List.drop_succ_cons,b3,List.getElem?_cons_succ];rw[Nl aA x l k (fun i d hi b=>J (i+1) d Ω (by simpa using b)) (fun d b=>U d (by simpa using b)) (by simpa using a)];cases l[k]? with
  |none=>rfl
  |some z=>simp only[];split<;>rfl
end
structure iR (l:List bR):Prop where
 at':∀x∈l,(0<=x.v/\x.v<=100000)/\(x.k=2\/x.k=3)
 asc:l.Pairwise fun x y=>x.v<y.v
def mh(l:List bR)(v:Int):aZ Int:=(l.find? fun x=>x.v==v).map (·.k)
def mJ(x:bR):List bR->List bR
 |[]=>[x]
 |y::l=>if y.v<x.v then y::mJ x l else x::y::l
def IL{x z:bR}:∀{l:List bR},z∈mJ x l↔z=x\/z∈l
 |[]=>by simp[mJ]
 |y::l=>by
  simp only[mJ];split
  ·simp only[gj,IL (l:=l)];constructor
   ·rintro(h|h|h)
    ·exact .inr (.inl h)
    ·exact .inl h
    ·exact .inr (.inr h)
   ·rintro(h|h|h)
    ·exact .inr (.inl h)
    ·exact .inl h
    ·exact .inr (.inr h)
  ·simp
def Np(x:bR):∀l:List bR,(mJ x l).Perm (x::l)
 |[]=>.refl _
 |y::l=>by
  simp only[mJ];split
  ·exact((Np x l).cons y).trans (ayq _ _ _)
  ·exact .refl _
def Ic{x:bR}:∀{l:List bR},l.Pairwise (fun x y=>x.v<y.v)->(∀y∈l,y.v≠x.v)->(mJ x l).Pairwise fun x y=>x.v<y.v
 |[],_,_=>by simp[mJ]
 |y::l,h,b=>by
  obtain⟨J,U⟩:=n4.1 h;have d:=b y Ψ;simp only[mJ];split
  ·rename_i c;refine n4.2 ⟨fun z a=>?_,Ic U fun z a=>b z (by simp[a])⟩;rcases IL.1 a with rfl|a
   ·exact c
   ·exact J z a
  ·refine n4.2 ⟨fun z a=>?_,h⟩;rcases gj.1 a with rfl|a
   ·omega
   ·have:=J z a;omega
def Xd(x:bR):∀(l:List bR) (k:Nat),(∀i y,i<k->l[i]? =some y->y.v<x.v)->(∀y,l[k]? =some y->¬y.v<x.v)->k<=l.length->mJ x l=l.take k++x::l.drop k
 |[],k,_,_,a=>by simp at a;subst a;rfl
 |y::l,0,_,U,_=>by have:=U y rfl;simp[mJ,this]
 |y::l,k+1,J,U,a=>by have c:=J 0 y Ω rfl;simp only[mJ,if_pos c,List.take_succ_cons,List.drop_succ_cons,b3];rw[Xd x l k (fun i d hi b=>J (i+1) d Ω (by simpa using b)) (fun d b=>U d (by simpa using b)) (by simpa using a)]
def Xz{l a:List bR}(b:a.Perm l)(d:l.Pairwise fun x y=>x.v<y.v)(g:a.Pairwise fun x y=>decide (y.v<x.v)=false):a=l:=by
 refine QV (le:=fun x y:bR=>x.v<=y.v) (fun x y k m J U=>?_) (g.imp Ψ) (d.imp Ω) b;have f:x∈l:=b.mem_iff.1 k;have e:y∈l:=m;obtain⟨i,hi,rfl⟩:=oS f;obtain⟨j,c,rfl⟩:=oS e;have:=q1.1 d;rcases Nat.lt_trichotomy i j with h|h|h
 ·have:=this i j hi c h;omega
 ·subst h;rfl
 ·have:=this j i c hi h;omega
def zQ{l:List bR}{v:Int}:mh l v=none↔∀x∈l,x.v≠v:=by simp[mh]
def XH{l:List bR}{v k:Int}(h:mh l v=some k):(⟨v,k⟩:bR)∈l:=by unfold mh at h;rw[gI]at h;obtain⟨x,J,rfl⟩:=h;have U:=List.find?_some J;simp at U;subst U;exact List.mem_of_find?_eq_some J
def Iq{l:List bR}(a:l.Pairwise fun x y=>x.v<y.v){x:bR}(h:x∈l):mh l x.v=some x.k:=by
 induction l with
 |nil=>simp at h
 |cons y l b=>
  obtain⟨J,U⟩:=n4.1 a;rcases gj.1 h with rfl|h
  ·simp[mh]
  ·have:=J x h;have e:=b U h;unfold mh at e⊢;rw[List.find?_cons_of_neg gc];exact e
def lf(l:List bR)(t:T)(k:Int):aZ (List bR):=match t with
 | .var n=>match mh l n with
  |some a=>if a=k then some l else none
  |none=>some (mJ ⟨n,k⟩ l)
 |t=>if t.kind=k then some l else none
def KB{l b:List bR}{t:T}{k:Int}(h:iR l)(aM:t.ok=true)(d:k=2\/k=3)(he:lf l t k=some b):iR b:=by
 unfold lf at he;split at he
 ·rename_i n;split at he
  ·split at he
   ·cases he;exact h
   ·cases he
  ·rename_i c;cases he;rw[zQ]at c;refine⟨fun x a=>?_,Ic h.asc c⟩;rcases IL.1 a with rfl|a
   ·exact⟨by simpa[T.ok]using aM,d⟩
   ·exact h.at' x a
 ·split at he
  ·cases he;exact h
  ·cases he
def xY{l:List bR}(h:iR l):l.length<=100001:=by
 have J:(l.map (·.v)).Nodup:=by rw[List.nodup_iff_pairwise_ne,List.pairwise_map];exact h.asc.imp fun h e=>Ω
 have:=XF J fun v b=>by obtain⟨x,a,rfl⟩:=iA.1 b;exact(h.at' x a).1
 simpa using this
def gG(s:List az):List bR->List bR->aZ (List bR)
 |[],acc=>some acc
 |x::r,acc=>match lf acc (cQ s x.v) x.k with
  |some a=>gG s r a
  |none=>none
structure iH (l:List bq):Prop where
 at':∀x∈l,(0<=x.v/\x.v<=100000)/\jg x.s=true
 asc:iB fO l
def _root_.Go.Pv.T.has(s:List b7):T->Bool
 | .sym n=>n==s
 | .pair a b=>a.has s||b.has s
 |_=>false
def mU(l:List bq)(t:T)(s:List b7):aZ (List bq):=if t.has s then none else some (asc fO (l++(oO t).map fun v=>⟨v,s⟩))
def Ge{t:T}{v:Int}:v∈oO t↔t.occ v=true:=by
 refine⟨fun h=>?_,zY⟩;induction t with
 |var n=>simp[oO]at h;simp[T.occ,h]
 |pair a b d c=>simp only[oO,j0]at h;simp only[T.occ,mR];exact h.imp d c
 |_=>simp[oO]at h
def Fa{l a:List bq}{t:T}{s:List b7}(h:mU l t s=some a)(x:bq):x∈a↔x∈l\/(x.s=s/\t.occ x.v=true):=by
 unfold mU at h;split at h
 ·cases h
 ·cases h;rw[Yq,j0,iA];refine or_congr_right ?_;constructor
  ·rintro⟨v,b,rfl⟩;exact⟨rfl,Ge.1 b⟩
  ·rintro⟨J,U⟩;exact⟨x.v,Ge.2 U,by rw[<-J]⟩
def KC{l a:List bq}{t:T}{s:List b7}(b:t.has s=false)(c:iB fO a)(hm:∀x,x∈a↔x∈l\/(x.s=s/\t.occ x.v=true)):mU l t s=some a:=by
 have h:mU l t s=some (asc fO (l++(oO t).map fun v=>⟨v,s⟩)):=by unfold mU;rw[b];rfl
 rw[h];congr 1;exact(KJ mN _).ext mN c fun x=>by rw[hm,<-Fa h]
def KD{l a:List bq}{t:T}{s:List b7}(h:iH l)(aM:t.ok=true)(b:jg s=true)(he:mU l t s=some a):iH a:=by
 refine⟨fun x c=>?_,?_⟩
 ·rcases(Fa he x).1 c with J|⟨J,U⟩
  ·exact h.at' x J
  ·exact⟨yw aM U,by rw[J];exact b⟩
 ·unfold mU at he;split at he
  ·cases he
  ·cases he;exact KJ mN _
def gH(s:List az):List bq->List bq->aZ (List bq)
 |[],acc=>some acc
 |x::r,acc=>match mU acc (cQ s x.v) x.s with
  |some a=>gH s r a
  |none=>none
end
end Go.Pv
namespace Go.Proofs.YtfeencekjcjalaaGreatDoor
section
open Go Go.Pv
def TF:C:=(aa [dV 2 eb] (aa [I 3 0,lJ 4 eb [(0,1,(gu 1)),(1,1,(.t 3))],b1 4 2 4] .ret))
def Sl:C:=(aa [cU (.box 2 (some 101) (.t 0)),cU (.box 3 (some 102) (.t 1)),bT 4 0] (aa [aw 6 1 2,cd 7 6,bH 8 (.mkf 114 [.t 2,.t 3]),ch 9 113 7 8,I 5 9] (.seq (.seq (.drawn true 24 [I 10 5,aw 11 1 2,cd 12 11,bp 13 .lss 10 12,I 14 13,ax 14 true (aw 15 1 2),ck 14 true 16 5,ax 14 true (cq 17 5 15 16),ax 14 true (aK 18 0 1 17),ax 14 true (aw 19 1 18),ax 14 true (aw 20 1 3),ax 14 true (bp 21 .eql 19 20),ei 22 14 21]) (aU 22 (aa [I 23 5,I 4 23] .ret) .skip)) (aa [bT 4 (-1)] .ret))))
def Sw:C:=(aa [cU (.box 2 (some 201) (.t 0)),c6 3 1,dV 4 eb,bs 5 false] (aa [bh 6 4 3,bH 7 (.mkf 117 [.t 2]),ch 8 116 6 7,dr 9 0 8,dr 10 1 8,b1 4 4 9,I 5 10] .ret))
def TC:C:=(aa [c6 2 0,c6 3 1,dV 4 eb] (aa [bh 5 4 2,bh 6 4 3,eE 7 4 71 [.t 5,.t 6],lJ 8 eb [(0,1,(gu 4)),(3,1,(.t 7))],b1 4 4 8] .ret))
def K1:C:=(aa [bs 2 false] (.seq (aa [I 5 0,cd 6 5,bT 7 0] (fo 8 7 6 (.seq (.block 1 (aa [cq 9 4 5 7,bh 10 4 9,dV 4 eb,b1 4 4 10] (aa [bh 11 4 4,cI 12 101 11,cH 13 12] (aU 13 (aa [bs 2 false] .ret) .skip)))) (.region [aS 14 .add 7 1,I 7 14])))) (aa [bs 2 true] .ret)))
def R5:C:=(aa [c6 1 0,bs 2 false] (aa [bh 3 4 1,ec 4 149 [.t 3,(gu 5000)],aS 5 .gtr 4 0,I 2 5] .ret))
def S4:C:=(aa [bT 4 0] (aa [I 8 0,bT 5 0,I 6 8] (.seq (.block 0 (.loop (.seq (aa [I 9 5,I 10 6,bp 11 .lss 9 10] (aU 11 .skip (.exit 0))) (.block 1 (aa [I 12 5,I 13 6,bp 14 .add 12 13,bH 15 (.conv .u64 (.t 14)),bH 16 (.bin .shr false (.t 15) (.c (.int .u64 1))),bH 17 (.conv .i64 (.t 16)),I 7 17] (aa [I 18 1,I 19 7,hx 20 18 [.t 19],cH 21 20] (aU 21 (.region [I 22 7,aS 23 .add 22 1,I 5 23]) (.region [I 24 7,I 6 24])))))))) (aa [I 25 5,I 4 25] .ret))))
def Sm:C:=(aa [bs 4 false] (.seq (.drawn true 12 [aw 5 1 1,I 6 0,cq 7 5 5 6,aK 8 0 1 7,aw 9 1 8,aw 10 1 2,bp 11 .geq 9 10,I 4 11]) .ret))
def Sy:C:=(aa [c6 2 0,cU (.box 3 (some 202) (.t 1)),dV 4 eb,bs 5 false] (aa [bh 7 4 2,bH 8 (.mkf 159 [.t 3]),ch 9 158 7 8,I 6 9] (.seq (aa [I 10 6,aS 11 .gtr 10 5000] (aU 11 (aa [lJ 12 eb [],b1 4 4 12,bs 5 false] .ret) .skip)) (aa [bh 13 4 2,aw 14 1 3,ch 15 146 13 14,b1 4 4 15,bs 5 true] .ret))))
def Sx:C:=(aa [dV 3 eb,bs 4 false] (.seq (aa [aw 6 1 1,I 7 0,ch 8 55 6 7,I 5 8] (aa [I 9 5,aS 10 .geq 9 0] (aU 10 (aa [aw 11 1 1,I 12 5,cq 13 5 11 12,fY 14 1 4 13,bh 15 4 14,b1 4 3 15,bs 4 true] .ret) .skip))) (aa [lJ 16 eb [],b1 4 3 16,bs 4 false] .ret)))
def R6:C:=(aa [bs 2 false] (.seq (aa [I 5 0,cd 6 5,aS 7 .gtr 6 400] (aU 7 (aa [bs 2 false] .ret) .skip)) (.seq (aa [I 8 0,cd 9 8,bT 10 0] (fo 11 10 9 (.seq (.block 1 (aa [I 12 10,cq 13 5 8 10,bh 14 5 13,dV 4 kI,I 3 12,b1 5 4 14] (.seq (.drawn true 45 [aK 15 0 1 4,aw 16 1 15,aS 17 .lss 16 0,I 18 17,ax 18 false (aK 19 0 1 4),ax 18 false (aw 20 1 19),ax 18 false (aS 21 .gtr 20 100000),dy 22 18 21,I 23 22,ck 23 false 24 3,ax 23 false (aS 25 .gtr 24 0),ck 23 false 26 25,ck 26 true 27 0,ck 26 true 28 3,ax 26 true (aS 29 .sub 28 1),ax 26 true (cq 30 5 27 29),ax 26 true (aK 31 0 1 30),ax 26 true (aw 32 1 31),ax 26 true (aK 33 0 1 4),ax 26 true (aw 34 1 33),ax 26 true (bp 35 .geq 32 34),ax 23 false (ei 36 26 35),dy 37 23 36,I 38 37,ax 38 false (fY 39 1 4 4),ax 38 false (bh 40 4 39),ax 38 false (cI 41 101 40),ax 38 false (cH 42 41),dy 43 38 42]) (aU 43 (aa [bs 2 false] .ret) .skip)))) (.region [aS 44 .add 10 1,I 10 44])))) (aa [bs 2 true] .ret))))
def uw:C:=(aa [c6 2 0] (.seq (aa [aK 4 0 1 2,aw 5 1 4,aS 6 .eql 5 1] (aU 6 (.region [I 7 1,aK 8 1 1 2,aw 9 1 8,hx 10 7 [.t 9]]) .skip)) (aa [aK 11 0 1 2,aw 12 1 11,aS 13 .eql 12 4] (aU 13 (aa [aK 14 3 1 2,aw 15 1 14,iy 16 4 15 0,bh 17 4 16,I 18 1,ch 19 131 17 18] (.region [aK 20 3 1 2,aw 21 1 20,iy 22 4 21 1,bh 23 4 22,I 24 1,ch 25 131 23 24])) .skip))))
def RT:C:=(aa [bs 2 false] (.seq (aa [I 4 0,bH 5 (.slen (.t 4)),aS 6 .lss 5 1,I 7 6,ck 7 false 8 0,ax 7 false (bH 9 (.slen (.t 8))),ax 7 false (aS 10 .gtr 9 12),dy 11 7 10,I 12 11,ck 12 false 13 0,ax 12 false (bH 14 (.sidx (.t 13) (gu 0))),ax 12 false (bH 15 (.bin .lss false (.t 14) (.c (.int .u8 97)))),dy 16 12 15,I 17 16,ck 17 false 18 0,ax 17 false (bH 19 (.sidx (.t 18) (gu 0))),ax 17 false (bH 20 (.bin .gtr false (.t 19) (.c (.int .u8 122)))),dy 21 17 20] (aU 21 (aa [bs 2 false] .ret) .skip)) (.seq (aa [bT 3 1] (.block 0 (.loop (.seq (aa [I 22 3,I 23 0,bH 24 (.slen (.t 23)),bp 25 .lss 22 24] (aU 25 .skip (.exit 0))) (.seq (.block 1 (aa [I 28 0,I 29 3,bH 30 (.sidx (.t 28) (.t 29)),bH 31 (.bin .geq false (.t 30) (.c (.int .u8 97))),I 32 31,ck 32 true 33 0,ck 32 true 34 3,ax 32 true (bH 35 (.sidx (.t 33) (.t 34))),ax 32 true (bH 36 (.bin .leq false (.t 35) (.c (.int .u8 122)))),ei 37 32 36,I 38 37,ck 38 false 39 0,ck 38 false 40 3,ax 38 false (bH 41 (.sidx (.t 39) (.t 40))),ax 38 false (bH 42 (.bin .geq false (.t 41) (.c (.int .u8 48)))),ck 38 false 43 42,ck 43 true 44 0,ck 43 true 45 3,ax 43 true (bH 46 (.sidx (.t 44) (.t 45))),ax 43 true (bH 47 (.bin .leq false (.t 46) (.c (.int .u8 57)))),ax 38 false (ei 48 43 47),dy 49 38 48,I 50 49,ck 50 false 51 0,ck 50 false 52 3,ax 50 false (bH 53 (.sidx (.t 51) (.t 52))),ax 50 false (bH 54 (.bin .eql false (.t 53) (.c (.int .u8 45)))),dy 55 50 54,cH 56 55] (aU 56 (aa [bs 2 false] .ret) .skip))) (.region [I 26 3,aS 27 .add 26 1,I 3 27])))))) (aa [bs 2 true] .ret))))
def Sj:C:=(aa [c6 2 0,c6 3 1,bs 4 false] (aa [bh 5 4 2,bh 6 4 3,ch 7 178 5 6,aS 8 .eql 7 0,I 4 8] .ret))
def yP:C:=(aa [c6 2 0,dV 4 eb] (.seq (aa [aK 7 0 1 2,aw 8 1 7] (.block 0 (aa [aS 10 .eql 8 1,I 9 10] (aU 9 (.seq (aa [I 12 1,aK 13 1 1 2,aw 14 1 13,hx 15 12 [.t 14],I 11 15,dr 16 0 11,dr 17 1 11,dV 5 eb,b1 4 5 16,I 6 17] (aa [I 18 6] (aU 18 (aa [bh 19 4 5,cI 20 170 19,b1 4 4 20] .ret) .skip))) (aa [bh 21 4 2,b1 4 4 21] .ret)) (aa [aS 23 .eql 8 4,I 22 23] (aU 22 (.seq (.drawn false 38 [aK 24 3 1 2,aw 25 1 24,iy 26 4 25 0,bh 27 4 26,I 28 1,ch 29 146 27 28,aK 30 3 1 2,aw 31 1 30,iy 32 4 31 1,bh 33 4 32,I 34 1,ch 35 146 33 34,ch 36 179 29 35,b1 4 4 36]) .ret) .skip)))))) (aa [bh 37 4 2,b1 4 4 37] .ret)))
def Sr:C:=(aa [c6 2 0,bT 4 0] (.seq (aa [I 7 1,aS 8 .lss 7 1] (aU 8 (aa [bT 4 (-1)] .ret) .skip)) (.seq (aa [aK 9 0 1 2,aw 10 1 9,aS 11 .neq 10 4] (aU 11 (.seq (aa [aK 12 3 1 2,aw 13 1 12,cd 14 13,aS 15 .neq 14 0] (aU 15 (aa [bT 4 (-1)] .ret) .skip)) (.seq (aa [aK 16 0 1 2,aw 17 1 16] (.block 0 (aa [aS 19 .eql 17 0,I 18 19] (aU 18 (aa [aK 20 1 1 2,aw 21 1 20,aS 22 .neq 21 0,I 23 22,ax 23 false (aK 24 2 1 2),ax 23 false (aw 25 1 24),yA 23 false 26 (.bin .neq false (.t 25) (.c (.str []))),dy 27 23 26] (aU 27 (aa [bT 4 (-1)] .ret) .skip)) (aa [aS 29 .eql 17 1,I 28 29] (aU 28 (aa [aK 30 1 1 2,aw 31 1 30,aS 32 .lss 31 0,I 33 32,ax 33 false (aK 34 1 1 2),ax 33 false (aw 35 1 34),ax 33 false (aS 36 .gtr 35 100000),dy 37 33 36,I 38 37,ax 38 false (aK 39 2 1 2),ax 38 false (aw 40 1 39),yA 38 false 41 (.bin .neq false (.t 40) (.c (.str []))),dy 42 38 41] (aU 42 (aa [bT 4 (-1)] .ret) .skip)) (aa [aS 44 .eql 17 2,I 43 44] (aU 43 (aa [aK 45 1 1 2,aw 46 1 45,aS 47 .neq 46 0,I 48 47,ax 48 false (aK 49 2 1 2),ax 48 false (aw 50 1 49),ax 48 false (cI 51 133 50),ax 48 false (cH 52 51),dy 53 48 52] (aU 53 (aa [bT 4 (-1)] .ret) .skip)) (aa [aS 55 .eql 17 3,I 54 55] (aU 54 (aa [aK 56 1 1 2,aw 57 1 56,aS 58 .lss 57 (-1000000000),I 59 58,ax 59 false (aK 60 1 1 2),ax 59 false (aw 61 1 60),ax 59 false (aS 62 .gtr 61 1000000000),dy 63 59 62,I 64 63,ax 64 false (aK 65 2 1 2),ax 64 false (aw 66 1 65),yA 64 false 67 (.bin .neq false (.t 66) (.c (.str []))),dy 68 64 67] (aU 68 (aa [bT 4 (-1)] .ret) .skip)) (aa [bT 4 (-1)] .ret))))))))))) (aa [bT 4 1] .ret))) .skip)) (.seq (aa [aK 69 1 1 2,aw 70 1 69,aS 71 .neq 70 0,I 72 71,ax 72 false (aK 73 2 1 2),ax 72 false (aw 74 1 73),yA 72 false 75 (.bin .neq false (.t 74) (.c (.str []))),dy 76 72 75,I 77 76,ax 77 false (aK 78 3 1 2),ax 77 false (aw 79 1 78),ax 77 false (cd 80 79),ax 77 false (aS 81 .neq 80 2),dy 82 77 81] (aU 82 (aa [bT 4 (-1)] .ret) .skip)) (aa [aK 83 3 1 2,aw 84 1 83,iy 85 4 84 0,bh 86 4 85,I 87 1,aS 88 .sub 87 1,ch 89 149 86 88,I 5 89] (.seq (aa [I 90 5,aS 91 .lss 90 0] (aU 91 (aa [bT 4 (-1)] .ret) .skip)) (aa [aK 92 3 1 2,aw 93 1 92,iy 94 4 93 1,bh 95 4 94,I 96 1,aS 97 .sub 96 1,I 98 5,bp 99 .sub 97 98,ch 100 149 95 99,I 6 100] (.seq (aa [I 101 6,aS 102 .lss 101 0] (aU 102 (aa [bT 4 (-1)] .ret) .skip)) (aa [I 103 5,bH 104 (.bin .add false (gu 1) (.t 103)),I 105 6,bp 106 .add 104 105,I 4 106] .ret)))))))))
def xm:C:=(aa [c6 2 0,bT 4 0] (.seq (aa [aK 6 0 1 2,aw 7 1 6] (.block 0 (aa [aS 9 .eql 7 1,I 8 9] (aU 8 (aa [I 10 1,aK 11 1 1 2,aw 12 1 11,hx 13 10 [.t 12],bH 14 (.min2 (.t 13) (gu 5001)),I 4 14] .ret) (aa [aS 16 .eql 7 4,I 15 16] (aU 15 (aa [aK 17 3 1 2,aw 18 1 17,iy 19 4 18 0,bh 20 4 19,I 21 1,ch 22 158 20 21,I 5 22] (.seq (aa [I 23 5,aS 24 .gtr 23 5000] (aU 24 (aa [I 25 5,I 4 25] .ret) .skip)) (aa [I 26 5,bH 27 (.bin .add false (gu 1) (.t 26)),aK 28 3 1 2,aw 29 1 28,iy 30 4 29 1,bh 31 4 30,I 32 1,ch 33 158 31 32,bp 34 .add 27 33,bH 35 (.min2 (.t 34) (gu 5001)),I 4 35] .ret))) .skip)))))) (aa [bT 4 1] .ret)))
def Sz:C:=(aa [bT 3 0] (.seq (aa [aw 7 1 1,I 8 0,hx 9 7 [.t 8],I 6 9,dr 10 0 6,dr 11 1 6,dV 4 eb,b1 4 4 10,I 5 11] (aa [I 12 5] (aU 12 (aa [bh 13 4 4,ec 14 149 [.t 13,(gu 5000)],I 3 14] .ret) .skip))) (aa [bT 3 1] .ret)))
def KX:C:=(aa [c6 1 0,dV 2 eb] (.seq (aa [aK 3 0 1 1,aw 4 1 3,aS 5 .neq 4 4] (aU 5 (aa [aK 6 0 1 1,aw 7 1 6,aK 8 1 1 1,aw 9 1 8,aK 10 2 1 1,aw 11 1 10,lJ 12 eb [(0,1,(.t 7)),(1,1,(.t 9)),(2,1,(.t 11))],b1 4 2 12] .ret) .skip)) (.seq (.drawn true 25 [aK 13 3 1 1,aw 14 1 13,iy 15 4 14 0,bh 16 4 15,cI 17 170 16,aK 18 3 1 1,aw 19 1 18,iy 20 4 19 1,bh 21 4 20,cI 22 170 21,eE 23 4 71 [.t 17,.t 22],lJ 24 eb [(0,1,(gu 4)),(3,1,(.t 23))],b1 4 2 24]) .ret)))
def GP:C:=(aa [c6 2 0,c6 3 1,bT 4 0] (.seq (aa [aK 6 0 1 2,aw 7 1 6,aK 8 0 1 3,aw 9 1 8,bp 10 .neq 7 9] (aU 10 (aa [aK 11 0 1 2,aw 12 1 11,aK 13 0 1 3,aw 14 1 13,ch 15 199 12 14,I 4 15] .ret) .skip)) (.seq (aa [aK 16 1 1 2,aw 17 1 16,aK 18 1 1 3,aw 19 1 18,bp 20 .neq 17 19] (aU 20 (aa [aK 21 1 1 2,aw 22 1 21,aK 23 1 1 3,aw 24 1 23,ch 25 199 22 24,I 4 25] .ret) .skip)) (.seq (aa [aK 26 2 1 2,aw 27 1 26,aK 28 2 1 3,aw 29 1 28,bp 30 .neq 27 29] (aU 30 (.seq (aa [aK 31 2 1 2,aw 32 1 31,aK 33 2 1 3,aw 34 1 33,bp 35 .lss 32 34] (aU 35 (aa [bT 4 (-1)] .ret) .skip)) (aa [bT 4 1] .ret)) .skip)) (.seq (aa [aK 36 0 1 2,aw 37 1 36,aS 38 .neq 37 4] (aU 38 (aa [bT 4 0] .ret) .skip)) (.seq (.seq (.drawn true 60 [aK 39 3 1 2,aw 40 1 39,iy 41 4 40 0,bh 42 4 41,aK 43 3 1 3,aw 44 1 43,iy 45 4 44 0,bh 46 4 45,ch 47 178 42 46,I 5 47]) (aa [I 48 5,aS 49 .neq 48 0] (aU 49 (aa [I 50 5,I 4 50] .ret) .skip))) (.seq (.drawn true 60 [aK 51 3 1 2,aw 52 1 51,iy 53 4 52 1,bh 54 4 53,aK 55 3 1 3,aw 56 1 55,iy 57 4 56 1,bh 58 4 57,ch 59 178 54 58,I 4 59]) .ret)))))))
def Sv:C:=(aa [c6 2 0,c6 3 1,dV 4 eb] (aa [bh 5 4 2,bh 6 4 3,eE 7 4 71 [.t 5,.t 6],lJ 8 eb [(0,1,(gu 4)),(3,1,(.t 7))],b1 4 4 8] .ret))
def St:C:=(aa [bT 4 0] (.seq (aa [I 5 0,I 6 1,bp 7 .lss 5 6] (aU 7 (aa [bT 4 (-1)] .ret) .skip)) (.seq (aa [I 8 0,I 9 1,bp 10 .gtr 8 9] (aU 10 (aa [bT 4 1] .ret) .skip)) (aa [bT 4 0] .ret))))
def SB:C:=(aa [e1 2 1] (aa [cU (.bslm 5 (some 306) 1 3 []),I 3 5] (.seq (aa [I 6 0,cU (.range 7 none (.t 6))] (.block 0 (.loop (aa [⟨none,.next 8 (.t 7)⟩,dr 9 0 8] (.seq (aU 9 .skip (.exit 0)) (.block 1 (aa [bH 10 (.ment (.t 7)),dr 11 0 10,I 4 11] (.region [I 12 3,I 13 4,eE 14 1 3 [.t 13],cU (.appm 15 none 1 3 (.t 12) (.t 14)),I 3 15])))))))) (aa [I 16 3,cI 17 242 16] (.seq (.pub 3 (.region [I 18 3,I 2 18])) .ret)))))
def aT:List (Nat×eJ):=[(3,⟨1,8,.int .i64,.int .i64 0⟩),(4,⟨1,1,.bool,.bool false⟩),(5,⟨1,1,.int .u8,.int .u8 0⟩),(9,⟨1,16,.str,.str []⟩),(22,⟨1,24,.slice 106,.slice 5 .nil []⟩),(23,⟨1,24,.slice 22,.slice 1 .nil []⟩),(24,⟨1,24,.slice 121,.slice 2 .nil []⟩),(25,⟨1,24,.slice 108,.slice 2 .nil []⟩),(27,⟨5,104,.struct [(0,3),(1,22),(2,23),(3,24),(4,25)],.agg [.int .i64 0,.slice 5 .nil [],.slice 1 .nil [],.slice 2 .nil [],.slice 2 .nil []]⟩),(30,⟨1,24,.slice 74,.slice 5 .nil []⟩),(31,⟨1,24,.slice 30,.slice 1 .nil []⟩),(32,⟨1,24,.slice 78,.slice 2 .nil []⟩),(33,⟨1,24,.slice 82,.slice 2 .nil []⟩),(35,⟨5,104,.struct [(0,3),(1,30),(2,31),(3,32),(4,33)],.agg [.int .i64 0,.slice 5 .nil [],.slice 1 .nil [],.slice 2 .nil [],.slice 2 .nil []]⟩),(39,⟨1,24,.slice 104,.slice 4 .nil []⟩),(41,⟨6,128,.struct [(0,39),(1,27)],.agg [.slice 4 .nil [],.int .i64 0,.slice 5 .nil [],.slice 1 .nil [],.slice 2 .nil [],.slice 2 .nil []]⟩),(44,⟨1,24,.slice 71,.slice 4 .nil []⟩),(46,⟨6,128,.struct [(0,44),(1,35)],.agg [.slice 4 .nil [],.int .i64 0,.slice 5 .nil [],.slice 1 .nil [],.slice 2 .nil [],.slice 2 .nil []]⟩),(69,⟨1,24,.slice 9,.slice 1 .nil []⟩),(71,⟨4,56,.struct [(0,3),(1,3),(2,9),(3,44)],.agg [.int .i64 0,.int .i64 0,.str [],.slice 4 .nil []]⟩),(74,⟨5,64,.struct [(0,3),(1,71)],.agg [.int .i64 0,.int .i64 0,.int .i64 0,.str [],.slice 4 .nil []]⟩),(78,⟨2,16,.struct [(0,3),(1,3)],.agg [.int .i64 0,.int .i64 0]⟩),(82,⟨2,24,.struct [(0,3),(1,9)],.agg [.int .i64 0,.str []]⟩),(91,⟨1,8,.map 3 4,.junk⟩),(93,⟨1,8,.map 3 3,.junk⟩),(104,⟨4,56,.struct [(0,3),(1,3),(2,9),(3,39)],.agg [.int .i64 0,.int .i64 0,.str [],.slice 4 .nil []]⟩),(106,⟨5,64,.struct [(0,3),(1,104)],.agg [.int .i64 0,.int .i64 0,.int .i64 0,.str [],.slice 4 .nil []]⟩),(108,⟨2,24,.struct [(0,3),(1,9)],.agg [.int .i64 0,.str []]⟩),(121,⟨2,16,.struct [(0,3),(1,3)],.agg [.int .i64 0,.int .i64 0]⟩),(128,⟨1,24,.slice 3,.slice 1 .nil []⟩),(131,⟨1,24,.slice 5,.slice 1 .nil []⟩),(135,⟨1,8,.other,.nilp⟩),(137,⟨2,32,.struct [(0,135),(1,131)],.agg [.nilp,.slice 1 .nil []]⟩),(151,⟨1,8,.other,.junk⟩),(178,⟨1,8,.int .u64,.int .u64 0⟩),(188,⟨1,8,.other,.junk⟩),(193,⟨1,8,.map 82 4,.junk⟩),(194,⟨1,8,.other,.nilp⟩),(202,⟨1,8,.other,.junk⟩),(206,⟨2,16,.struct [(0,188),(1,202)],.agg [.junk,.junk]⟩),(211,⟨1,8,.int .u64,.int .u64 0⟩),(219,⟨1,8,.map 3 71,.junk⟩),(221,⟨6,48,.struct [(0,93),(1,219),(2,91),(3,93),(4,93),(5,219)],.agg [.junk,.junk,.junk,.junk,.junk,.junk]⟩),(231,⟨1,4,.int .u32,.int .u32 0⟩),(242,⟨1,8,.int .u64,.int .u64 0⟩)]
def mixed:ar.follows .mixedOrders=true:=an
def br{aT:List (Nat×eJ)}(aM:hl ar aT=true){f:FuncId}{fn:Func}(e:ar.funcs[f]? =some fn){c:C}{a:List bS}{n:Nat}(b:b4 aT c a n fn=true){args:List ah}{r:ah}(he:eV args->dh ar [] c (bF a r) ⟨j7 0 args,[],[],0,[]⟩)(d:args.length<=n:=by simp)(g:au (fun _=>eF) r:=by simp[au]):bK ar f args r:=bK.mk mixed aM e b d g he
def a7:hl ar aT=true:=an
def aoB:b4 aT TF [.cell 2 true 4] 1 Tryz.f40=true:=an
def ank:b4 aT Sl [.tmp 4] 2 Tryz.f55=true:=an
def anu:b4 aT Sw [.cell 4 true 4,.tmp 5] 2 Tryz.f59=true:=an
def aoy:b4 aT TC [.cell 4 true 4] 2 Tryz.f95=true:=an
def Y2:b4 aT K1 [.tmp 2] 1 Tryz.f97=true:=an
def am3:b4 aT R5 [.tmp 2] 1 Tryz.f101=true:=an
def an0:b4 aT S4 [.tmp 4] 2 Tryz.f113=true:=an
def anl:b4 aT Sm [.tmp 4] 3 Tryz.f114=true:=an
def anw:b4 aT Sy [.cell 4 true 4,.tmp 5] 2 Tryz.f116=true:=an
def anv:b4 aT Sx [.cell 3 true 4,.tmp 4] 2 Tryz.f117=true:=an
def am4:b4 aT R6 [.tmp 2] 1 Tryz.f130=true:=an
def wE:b4 aT uw [] 2 Tryz.f131=true:=an
def amT:b4 aT RT [.tmp 2] 1 Tryz.f133=true:=an
def ani:b4 aT Sj [.tmp 4] 2 Tryz.f145=true:=an
def Cp:b4 aT yP [.cell 4 true 4] 2 Tryz.f146=true:=an
def anp:b4 aT Sr [.tmp 4] 2 Tryz.f149=true:=an
def z8:b4 aT xm [.tmp 4] 2 Tryz.f158=true:=an
def anx:b4 aT Sz [.tmp 3] 2 Tryz.f159=true:=an
def YY:b4 aT KX [.cell 2 true 4] 1 Tryz.f170=true:=an
def Oy:b4 aT GP [.tmp 4] 2 Tryz.f178=true:=an
def ant:b4 aT Sv [.cell 4 true 4] 2 Tryz.f179=true:=an
def anr:b4 aT St [.tmp 4] 2 Tryz.f199=true:=an
def anA:b4 aT SB [.tmp 2] 1 Tryz.f212=true:=an
def ala(s:List b7)(k:Nat)(st:bn):Prop:=∃i:Nat,1<=i/\i<=s.length/\k=s.length-i/\((s.drop 1).all nm=(s.drop i).all nm)/\st=⟨[(0,.str s),(3,.int .i64 i)],[],[],0,[]⟩
def vk(s:List b7):bK ar 133 [.str s] (.bool (jg s)):=by
 refine bK.mk mixed a7 Tryz.func133 amT Ψ go fun ae=>?_;unfold RT;simp;(with_reducible repeat' first|((first|refine bV (fun h=>?_) fun h=>?_|refine b0 (fun h=>?_) fun h=>?_|refine bZ (fun h=>?_) fun h=>?_)<;>try simp at h)|refine ak ?_|simp);case refine_1.refine_1.refine_1.refine_2=>
  have b:jg s=(s.drop 1).all nm:=by simp[jg,low];omega
  rw[b];refine vJ (ala s) (s.length-1) _ ⟨Ψ,by simp[hs],by simp[qc],Ψ⟩ ⟨1,Ω,Ω,rfl,rfl,rfl⟩ ?_;rintro k st ⟨i,g,j,m,c,rfl⟩ f l;rw[c];simp;refine bV (fun a=>?_) (fun e=>?_)
  ·simp at a;have d:s.drop i=s[i]?.getD 0::s.drop (i+1):=by rw[mu a];simp[a]
   simp;(with_reducible repeat' first|((first|refine bV (fun h=>?_) fun h=>?_|refine b0 (fun h=>?_) fun h=>?_|refine bZ (fun h=>?_) fun h=>?_)<;>try simp at h)|refine ak ?_|simp);all_goals first
    |(simp[bF,aX,aY,aW,d,nm,low];omega)
    |(simp only[Gr];refine⟨s.length-(i+1),_,Ω,⟨Ψ,by simp[hs],by simp[qc],Ψ⟩,i+1,Ω,Ω,rfl,?_,rfl⟩;rw[c,d];simp[nm,low];omega)
  ·simp at e;have:s.drop i=[]:=by simp;omega
   simp[bF,aX,aY,aW,this]
 all_goals simp[bF,aX,aY,aW,jg,low]
 all_goals omega
def abW(m:Nat):∀(t:bO),t.sz<=m->∀(room:Int),0<=room/\room<=10000->bK ar 149 [enc t,.int .i64 room] (.int .i64 (gf t room)):=by
 induction m with
 |zero=>intro t aM;cases t;simp[bO.sz]at aM
 |succ m c=>
 rintro⟨k,n,s,args⟩ aM room e;refine br a7 Tryz.func149 anp fun l=>?_;unfold Sr;simp[bO.kind,bO.num,bO.name,bO.args];(with_reducible repeat' first|((first|refine bV (fun h=>?_) fun h=>?_|refine b0 (fun h=>?_) fun h=>?_|refine bZ (fun h=>?_) fun h=>?_)<;>try simp at h)|refine ak ?_|simp);all_goals try refine cx.val Ψ (vk _) ?_
 all_goals try simp
 (with_reducible repeat' first|((first|refine bV (fun h=>?_) fun h=>?_|refine b0 (fun h=>?_) fun h=>?_|refine bZ (fun h=>?_) fun h=>?_)<;>try simp at h)|refine ak ?_|simp);all_goals try simp[bF,aX,aY,aW]
 case succ.refine_2.refine_2.refine_1.refine_1.refine_2=>
  rename_i i J U d;match args,h with
  |[a,b],_=>
  simp[bO.sz,bO.szL]at aM;subst J U d;simp;(with_reducible repeat' first|((first|refine bV (fun h=>?_) fun h=>?_|refine b0 (fun h=>?_) fun h=>?_|refine bZ (fun h=>?_) fun h=>?_)<;>try simp at h)|refine ak ?_|simp);refine cx.val Ψ (c a Ω (room-1) Ω) ?_;simp;have j:=Oi a (room-1);have f:=Fi a (room-1);(with_reducible repeat' first|((first|refine bV (fun h=>?_) fun h=>?_|refine b0 (fun h=>?_) fun h=>?_|refine bZ (fun h=>?_) fun h=>?_)<;>try simp at h)|refine ak ?_|simp)
  ·simp[bF,aX,aY,aW];rw[Oh];simp;omega
  ·refine cx.val Ψ (c b Ω (room-1-gf a (room-1)) Ω) ?_;simp;have ae:=Oi b (room-1-gf a (room-1));have g:=Fi b (room-1-gf a (room-1));(with_reducible repeat' first|((first|refine bV (fun h=>?_) fun h=>?_|refine b0 (fun h=>?_) fun h=>?_|refine bZ (fun h=>?_) fun h=>?_)<;>try simp at h)|refine ak ?_|simp);all_goals simp[bF,aX,aY,aW]
   all_goals rw[Oh];simp;omega
 all_goals rw[Oh]
 all_goals simp_all[mi]
 all_goals first|omega|(split<;>simp at h⊢)
def J7(t:bO):bK ar 101 [enc t] (.bool t.fits):=by refine br a7 Tryz.func101 am3 fun a=>?_;unfold R5;simp;refine cx.val Ψ (abW t.sz t (e2 _) 5000 Ω) ?_;simp;simp[bF,aX,aY,aW];simp[bO.fits]
def abz(t:T):bK ar 101 [t.e] (.bool t.fit):=by have:=J7 t.tm;rwa[vH,bO.fits_T]at this
def Kd(a b:T):bK ar 179 [a.e,b.e] (T.pair a b).e:=by refine br a7 Tryz.func179 ant fun c=>?_;unfold Sv;simp;(with_reducible repeat' first|((first|refine bV (fun h=>?_) fun h=>?_|refine b0 (fun h=>?_) fun h=>?_|refine bZ (fun h=>?_) fun h=>?_)<;>try simp at h)|refine ak ?_|simp);all_goals try simp[bF,aX,aY,aW]
def Gb(a b:T):bK ar 95 [a.e,b.e] (T.pair a b).e:=by refine br a7 Tryz.func95 aoy fun c=>?_;unfold TC;simp;(with_reducible repeat' first|((first|refine bV (fun h=>?_) fun h=>?_|refine b0 (fun h=>?_) fun h=>?_|refine bZ (fun h=>?_) fun h=>?_)<;>try simp at h)|refine ak ?_|simp);all_goals try simp[bF,aX,aY,aW]
def vl(t:T):bK ar 170 [t.e] t.e:=by
 induction t with
 |pair a b e d=>refine br a7 Tryz.func170 YY fun c=>?_;unfold KX;exact ca
 |_=>refine br a7 Tryz.func170 YY fun c=>?_;unfold KX;exact ca
def pt(a b:Int):bK ar 199 [.int .i64 a,.int .i64 b] (.int .i64 (e6 a b)):=by
 refine br a7 Tryz.func199 anr fun c=>?_;unfold St;simp;((repeat' first|refine ak ?_|simp|((first|apply bV|apply b0|apply bZ)<;>intro h<;>try simp at h))<;>(try exact cA));all_goals simp[bF,aX,aY,aW]
 all_goals simp[e6]
 all_goals omega
def CZ(a:T):∀b:T,bK ar 178 [a.e,b.e] (.int .i64 (e0 a b)):=by
 induction a with
 |pair g a2 e d=>
  intro b;cases b with
  |pair f i=>
   refine br a7 Tryz.func178 Oy fun c=>?_;unfold GP;simp;((repeat' first|refine ak ?_|refine aI (e _) ?_|refine aJ (e _) ?_|refine aI (d _) ?_|refine aJ (d _) ?_|refine aI (pt _ _) ?_|refine aJ (pt _ _) ?_|simp|((first|apply bV|apply b0|apply bZ)<;>intro h<;>try simp at h))<;>(try exact cA));all_goals simp[bF,aX,aY,aW]
   all_goals simp_all[e0]
  |_=>
   refine br a7 Tryz.func178 Oy fun c=>?_;unfold GP;simp;(repeat' first|refine ak ?_|refine aI (pt _ _) ?_|refine aJ (pt _ _) ?_|simp);all_goals simp[bF,aX,aY,aW]
   all_goals simp_all[e0]
 |_=>
  intro b;cases b<;>
  (refine br a7 Tryz.func178 Oy fun c=>?_;unfold GP
   simp
   (with_reducible repeat' first|((first|apply bV|apply b0|apply bZ)<;>intro h<;>try simp at h)|refine ak ?_|refine aI (pt _ _) ?_|refine aJ (pt _ _) ?_|simp)
   all_goals simp[bF,aX,aY,aW]
   all_goals simp_all[e0,lE])
def uc(a b:T):bK ar 145 [a.e,b.e] (.bool (decide (a=b))):=by
 refine br a7 Tryz.func145 ani fun c=>?_;unfold Sj;simp;(repeat' first|refine ak ?_|refine aI (CZ _ _) ?_|refine aJ (CZ _ _) ?_|simp);all_goals simp[bF,aX,aY,aW]
 have:=su a b;by_cases h:e0 a b=0<;>simp_all
open Classical in
def ale(l:List dm)(k:Nat)(st:bn):Prop:=∃i:Nat,i<=l.length/\k=l.length-i/\(∀j,j<i->Cn l j)/\st=⟨[(0,.slice 5 .no (l.map dm.e)),(8,.slice 5 .no (l.map dm.e)),(9,.int .i64 l.length),(10,.int .i64 i)],[],[],0,[]⟩
open Classical in
def asg(l:List dm):bK ar 130 [.slice 5 .no (l.map dm.e)] (.bool (decide (AQ l))):=by
 refine br a7 Tryz.func130 am4 fun v=>?_;unfold R6;simp;(with_reducible repeat' first|((first|apply bV|apply b0|apply bZ)<;>intro h<;>try simp at h)|refine ak ?_|simp)
 ·simp[bF,aX,aY,aW];intro d;have:=d.1;omega
 ·refine vJ (ale l) l.length _ ⟨Ψ,by simp[hs],by simp[qc],Ψ⟩ ⟨0,Ω,Ω,Ψ,rfl⟩ ?_;rintro k st ⟨i,hi,u,f,rfl⟩ o p;simp;refine bV (fun a=>?_) (fun n=>?_)
  ·simp at a;obtain⟨b,ae⟩:∃b,l[i]? =some b:=⟨_,cl a⟩;obtain⟨c,aA⟩:∃c,l[i-1]? =some c:=⟨_,cl Ω⟩;clear o p;simp[ae,aA];((repeat' first|refine ak ?_|refine aI (J7 _) ?_|refine aJ (J7 _) ?_|simp[aA]|((first|apply bV|apply b0|apply bZ)<;>intro h<;>try simp at h))<;>(try exact cA));all_goals first
    |(simp[bF,aX,aY,aW];intro d;have J:=d.2 i a b ae;have U:=J.2.1 c;have q:=J.2.2;first|omega|(have:=U Ω aA;omega)|(rw[q]at h;cases h)|simp_all)
    |(simp only[Gr];refine⟨l.length-(i+1),_,Ω,⟨Ψ,by simp[hs],by simp[qc],Ψ⟩,i+1,Ω,rfl,fun j r=>?_,rfl⟩
      by_cases e:j=i
      ·subst e;intro cf m;rw[ae]at m;cases m;refine⟨Ω,fun s t g=>?_,by assumption⟩;rw[aA]at g;cases g;omega
      ·exact f j Ω)
  ·simp at n;simp[bF,aX,aY,aW];exact⟨Ω,fun j r=>f j Ω⟩
def nt(p:Nat->Bool)(i j:Nat):Nat:=if i<j then(if p ((i+j)/2)then nt p i ((i+j)/2)else nt p ((i+j)/2+1) j)else i
termination_by j-i
def ald(s:cS)(n g:Nat)(cW:List ah)(p:Nat->Bool)(k:Nat)(st:bn):Prop:=∃i j:Nat,i<=j/\j<=n/\k=j-i/\nt p i j=nt p 0 n/\st=⟨[(1,.func g cW),(5,.int .i64 i),(6,.int .i64 j)],s.b,s.e,0,di s⟩
def ain(s:cS)(a:ea s)(n g:Nat)(w:n<=1000000)(cW:List ah)(aA:ay (inObs s) cW)(dd:cR cW=cW)(p:Nat->Bool)(t:∀i:Nat,i<n->bG ar g (.int .i64 i::cW) s fun r b=>r= .bool (p i)/\b=s):
  bG ar 113 [.int .i64 n,.func g cW] s fun r b=>r= .int .i64 (nt p 0 n)/\b=s:=by
 refine bG.mk mixed a7 Tryz.func113 an0 Ψ a.obj fun z e=>?_;unfold S4;simp;refine vJ (ald s n g cW p) n _ (jE.ob a (by simp[aA]) aG aG) ⟨0,n,Ω,Ω,rfl,rfl,rfl⟩ ?_;rintro k st ⟨i,j,v,x,y,d,rfl⟩ l e;clear l e;simp;refine bV (fun c=>?_) (fun f=>?_)
 ·simp at c;have hw:hV.wrap ((i:Int)+j)=i+j:=by simp[uk,pw,uj];omega
  obtain⟨m,hm⟩:∃m,m=(i+j)/2:=⟨_,rfl⟩;have q:Int.fdiv ((i:Int)+j) 2=(m:Int):=by rw[Int.fdiv_eq_ediv_of_nonneg _ Ω];omega
  have o:oQ.wrap (m:Int)=m:=by rw[lY];omega
  have u:hV.bits=64:=rfl;simp[hw,dd,u,q,o];refine⟨by unfold eR;omega,?_⟩;refine cx.ob (t m Ω) a aG aG (by simp[aA]) ?_;rintro r b ⟨rfl,rfl⟩;refine⟨Same.refl _,?_⟩;simp[hn];(with_reducible repeat' first|((first|apply bV|apply b0|apply bZ)<;>intro h<;>try simp at h)|refine ak ?_|simp)
  ·simp only[Gr];refine⟨j-(m+1),_,Ω,jE.ob a (by simp[aA]) aG aG,m+1,j,Ω,Ω,rfl,?_,rfl⟩;rw[<-d];conv=>rhs;unfold nt
   simp[c,<-hm,h]
  ·simp only[Gr];refine⟨m-i,_,Ω,jE.ob a (by simp[aA]) aG aG,i,m,Ω,Ω,rfl,?_,rfl⟩;rw[<-d];conv=>rhs;unfold nt
   simp[c,<-hm,h]
 ·simp at f;have:nt p 0 n=i:=by rw[<-d];unfold nt;rw[if_neg Ω]
  rw[this];simp;refine cJ.at s (.inl rfl) a (Same.refl s) aG aG ?_;simp[cM,aX,aY,aW]
def oi(l:List az)(v:Int):Int:=
 let i:=nt (fun i=>match l[i]? with|some b=>decide (v<=b.v)|none=>false) 0 l.length
 match l[i]? with|some b=>if b.v=v then i else-1|none=> -1
def aiy(l:List az)(v:Int)(i:Nat)(b:az)(ae:l[i]? =some b):bG ar 114 [.int .i64 i,.ptr (.obj 101) 0,.ptr (.obj 102) 0] ⟨[(.obj 101,[.slice 5 .no (l.map az.e)]),(.obj 102,[.int .i64 v])],[]⟩ fun r c=>r= .bool (decide (v<=b.v))/\c=⟨[(.obj 101,[.slice 5 .no (l.map az.e)]),(.obj 102,[.int .i64 v])],[]⟩:=by have a:ea ⟨[(.obj 101,[.slice 5 .no (l.map az.e)]),(.obj 102,[.int .i64 v])],[]⟩:=(ea.of ⟨by intro m;simp[Pv.look],by intro m;simp[Pv.look]⟩ g8 g8);have e:i<l.length:=(fp.1 ae).1;refine bG.mk mixed a7 Tryz.func114 anl Ψ a.obj fun f d=>?_;unfold Sm;simp[ae];(repeat' first|refine ak ?_|simp);refine cJ.at _ (.inl rfl) a (Same.refl _) aG aG ?_;simp[cM,aX,aY,aW]
def vm(l:List az)(v:Int)(d:l.length<=1000000):bK ar 55 [.slice 5 .no (l.map az.e),.int .i64 v] (.int .i64 (oi l v)):=by
 refine br a7 Tryz.func55 ank fun f=>?_;unfold Sl;simp;have c:ea ⟨[(.obj 101,[.slice 5 .no (l.map az.e)]),(.obj 102,[.int .i64 v])],[]⟩:=(ea.of ⟨by intro m;simp[Pv.look],by intro m;simp[Pv.look]⟩ g8 g8);refine cx.ob (ain ⟨[(.obj 101,[.slice 5 .no (l.map az.e)]),(.obj 102,[.int .i64 v])],[]⟩ c l.length 114 d [.ptr (.obj 101) 0,.ptr (.obj 102) 0] (by simp[inObs]) Ψ (fun i=>match l[i]? with|some b=>decide (v<=b.v)|none=>false) fun i hi=>?_) c aG aG (by simp[inObs]) ?_
 ·obtain⟨b,ae⟩:∃b,l[i]? =some b:=⟨_,cl hi⟩;simp only[ae];exact aiy l v i b ae
 rintro r e ⟨rfl,rfl⟩;refine⟨Same.refl _,?_⟩;unfold oi;generalize nt _ 0 l.length=i;cases ae:l[i]? with
 |none=>
  have a:¬i<l.length:=by simpa using ae
  simp[bW,a];exact ca
 |some b=>
  have a:i<l.length:=(fp.1 ae).1;simp[bW,ae,a];((repeat' first|refine ak ?_|simp[ae]|((first|apply bV|apply b0|apply bZ)<;>intro h<;>try simp at h))<;>(try exact cA));all_goals simp[bF,aX,aY,aW]
  all_goals simp_all
def tQ(l:List az)(v:Int):aZ T:=if oi l v<0 then none else(l[(oi l v).toNat]?).map (·.t)
def Va(l:List az)(v:Int):oi l v<l.length/\ -1<=oi l v:=by
 unfold oi;simp only;split
 ·rename_i b ae;have:=(fp.1 ae).1;split<;>omega
 ·omega
def Vv(l:List az)(v:Int)(d:l.length<=1000000)(o:aZ T)(al:o=tQ l v):bG ar 117 [.int .i64 v,.ptr (.obj 201) 0] ⟨[(.obj 201,[.slice 5 .no (l.map az.e)])],[]⟩ fun r e=>r= .tuple [(o.getD .nil).e,.bool o.isSome]/\e=⟨[(.obj 201,[.slice 5 .no (l.map az.e)])],[]⟩:=by
 have c:ea ⟨[(.obj 201,[.slice 5 .no (l.map az.e)])],[]⟩:=(ea.of ⟨by intro m;simp[Pv.look],by intro m;simp[Pv.look]⟩ g8 g8);have g:=(Va l v).1;unfold tQ at al;refine bG.mk mixed a7 Tryz.func117 anv Ψ c.obj fun i f=>?_;unfold Sx;simp;(with_reducible repeat' first|((first|apply bV|apply b0|apply bZ)<;>intro h<;>try simp at h)|refine ak ?_|refine aI (vm l v d) ?_|refine aJ (vm l v d) ?_|simp)
 ·obtain⟨b,ae⟩:∃b,l[(oi l v).toNat]? =some b:=⟨_,cl Ω⟩;have a:o=some b.t:=by rw[al,if_neg Ω,ae];rfl
  simp[ae];(with_reducible repeat' first|((first|apply bV|apply b0|apply bZ)<;>intro h<;>try simp at h)|refine ak ?_|simp[ae]);refine cJ.at _ (.inl rfl) c (Same.refl _) aG aG ?_;simp[cM,aX,aY,aW];simp[a]
 ·have a:o=none:=by rw[al,if_pos h]
  refine cJ.at _ (.inl rfl) c (Same.refl _) aG aG ?_;simp[cM,aX,aY,aW];simp[a]
def aiQ(s:cS)(d:ea s)(g:Nat)(cW:List ah)(aA:ay (inObs s) cW)(dd:cR cW=cW)(f:Int->Int)(k:∀v,-1<=f v)(t:T)(j:∀v,t.occ v=true->bG ar g (.int .i64 v::cW) s fun r e=>r= .int .i64 (f v)/\e=s):
  bG ar 158 [t.e,.func g cW] s fun r e=>r= .int .i64 (mo f t)/\e=s:=by
 have c:∀m,Pv.look (.loc m) s.b=none:=d.obj.1;have hu:∀m cs,cG (.loc m) cs s.b=s.b++[(.loc m,cs)]:=fun m cs=>ku (c m);have al:∀m,aB.loc m∉di s:=kq d.obj;induction t with
 |pair a b q p=>
  have w:=JQ f k a;have u:=JQ f k b;refine bG.mk mixed a7 Tryz.func158 z8 Ψ d.obj fun o l=>?_;unfold xm;simp[hu,al,cT,c,dd];(repeat' first|refine ak ?_|simp[hu,al,cT,c]);refine cx.ob (q fun v i=>j v (by simp[T.occ,i])) d aG aG (by simp[aA]) ?_;rintro r e ⟨rfl,rfl⟩;refine⟨Same.refl _,?_⟩;simp[hn,iM,bW,c];(with_reducible repeat' first|((first|apply bV|apply b0|apply bZ)<;>intro h<;>try simp at h)|refine ak ?_|simp[hu,al,cT,c])
  ·refine cJ.at e (.inl rfl) d (Same.refl _) aG aG ?_;simp[cM,aX,aY,aW];simp[mo];omega
  ·rw[dd];refine cx.ob (p fun v i=>j v (by simp[T.occ,i])) d aG aG (by simp[aA]) ?_;rintro r s2 ⟨rfl,rfl⟩;refine⟨Same.refl _,?_⟩;simp[hn,iM,bW,c];(with_reducible repeat' first|((first|apply bV|apply b0|apply bZ)<;>intro h<;>try simp at h)|refine ak ?_|simp[hu,al,cT,c]);refine cJ.at s2 (.inl rfl) d (Same.refl _) aG aG ?_;simp[cM,aX,aY,aW];simp[mo];omega
 |var n=>refine bG.mk mixed a7 Tryz.func158 z8 Ψ d.obj fun o l=>?_;unfold xm;simp[hu,al,cT,c,dd];(with_reducible repeat' first|((first|apply bV|apply b0|apply bZ)<;>intro h<;>try simp at h)|refine ak ?_|simp[hu,al,cT,c]);refine cx.ob (j n (by simp[T.occ])) d aG aG (by simp[aA]) ?_;rintro r e ⟨rfl,rfl⟩;refine⟨Same.refl _,?_⟩;simp[hn,iM,bW,c];refine cJ.at e (.inl rfl) d (Same.refl _) aG aG ?_;simp[cM,aX,aY,aW];simp[mo]
 |_=>refine bG.mk mixed a7 Tryz.func158 z8 Ψ d.obj fun o l=>?_;unfold xm;simp[hu,al,cT,c,dd];(with_reducible repeat' first|((first|apply bV|apply b0|apply bZ)<;>intro h<;>try simp at h)|refine ak ?_|simp[hu,al,cT,c]);refine cJ.at s (.inl rfl) d (Same.refl _) aG aG ?_;simp[cM,aX,aY,aW];simp[mo]
def Vu(s:cS)(d:ea s)(g:Nat)(cW:List ah)(aA:ay (inObs s) cW)(dd:cR cW=cW)(f:Int->aZ T)(t:T)(k:∀v,t.occ v=true->bG ar g (.int .i64 v::cW) s fun r i=>r= .tuple [((f v).getD .nil).e,.bool (f v).isSome]/\i=s):
  bG ar 146 [t.e,.func g cW] s fun r i=>r=(t.sub f).e/\i=s:=by
 have c:∀m,Pv.look (.loc m) s.b=none:=d.obj.1;have o:∀m,Pv.look (.loc m) s.e=none:=d.obj.2;have hu:∀m cs,cG (.loc m) cs s.b=s.b++[(.loc m,cs)]:=fun m cs=>ku (c m);have al:∀m,aB.loc m∉di s:=kq d.obj;have e:∀m p r,cG (.loc m) p (s.b++r)=s.b++cG (.loc m) p r:=fun m p r=>CV (c m);induction t with
 |pair a b w u=>refine bG.mk mixed a7 Tryz.func146 Cp Ψ d.obj fun q l=>?_;unfold yP;simp[hu,al,cT,c,o,dd,e];(repeat' first|refine ak ?_|simp[hu,al,cT,c,o,e]);refine iY.ob (w fun v j=>k v (by simp[T.occ,j])) d d (Same.refl _) aG aG (by simp[aA]) ?_;simp[hn,iM,bW,c,dd];refine iY.ob (u fun v j=>k v (by simp[T.occ,j])) d d (Same.refl _) aG aG (by simp[aA]) ?_;simp[hn,iM,bW,c,dd];(repeat' first|refine ak ?_|refine aI (Kd _ _) ?_|refine aJ (Kd _ _) ?_|simp);refine cJ.at s (.inl rfl) d (Same.refl _) aG aG ?_;simp[cM,aX,aY,aW,cT,c];simp[T.sub]
 |var n=>
  refine bG.mk mixed a7 Tryz.func146 Cp Ψ d.obj fun q l=>?_;unfold yP;simp[hu,al,cT,c,dd,e];(with_reducible repeat' first|((first|apply bV|apply b0|apply bZ)<;>intro h<;>try simp at h)|refine ak ?_|simp[hu,al,cT,c,e]);refine cx.ob (k n (by simp[T.occ])) d aG aG (by simp[aA]) ?_;rintro r i ⟨rfl,rfl⟩;refine⟨Same.refl _,?_⟩;simp[hn,iM,bW,c,hu,al,cT];(with_reducible repeat' first|((first|apply bV|apply b0|apply bZ)<;>intro h<;>try simp at h)|refine ak ?_|refine aI (vl _) ?_|refine aJ (vl _) ?_|simp[hu,al,cT,c,e]);all_goals refine cJ.at i (.inl rfl) d (Same.refl _) aG aG ?_
  all_goals simp[cM,aX,aY,aW,cT,c]
  all_goals cases x:f n<;>simp_all[T.sub]
 |_=>refine bG.mk mixed a7 Tryz.func146 Cp Ψ d.obj fun q l=>?_;unfold yP;simp[hu,al,cT,c,dd,e];(with_reducible repeat' first|((first|apply bV|apply b0|apply bZ)<;>intro h<;>try simp at h)|refine ak ?_|simp[hu,al,cT,c,e]);refine cJ.at s (.inl rfl) d (Same.refl _) aG aG ?_;simp[cM,aX,aY,aW,cT,c];simp[T.sub]
def pF(l:List az):cS:=⟨[(.obj 201,[.slice 5 .no (l.map az.e)])],[]⟩
def sT(l:List az):cS:=⟨[(.obj 201,[.slice 5 .no (l.map az.e)]),(.obj 202,[.func 117 [.ptr (.obj 201) 0]])],[]⟩
def Da(l:List az):ea (pF l):=by unfold pF;exact(ea.of ⟨by intro m;simp[Pv.look],by intro m;simp[Pv.look]⟩ g8 g8)
def Ko(l:List az):ea (sT l):=by unfold sT;exact(ea.of ⟨by intro m;simp[Pv.look],by intro m;simp[Pv.look]⟩ g8 g8)
def vP(l:List az)(v:Int):Int:=match tQ l v with|some x=>gf x.tm 5000|none=>1
def aic(l:List az)(v:Int): -1<=vP l v:=by
 unfold vP;split
 ·rename_i x _;rcases Fi x.tm 5000 with h|h<;>omega
 ·omega
def abX(t:T):bK ar 149 [t.e,.int .i64 5000] (.int .i64 (gf t.tm 5000)):=by have:=abW t.tm.sz t.tm (e2 _) 5000 Ω;rwa[vH]at this
def aiN(l:List az)(v:Int)(c:l.length<=1000000):bG ar 159 [.int .i64 v,.ptr (.obj 202) 0] (sT l) fun r b=>r= .int .i64 (vP l v)/\b=sT l:=by
 have a:=Ko l;unfold sT at a⊢;refine bG.mk mixed a7 Tryz.func159 anx Ψ a.obj fun f d=>?_;unfold Sz;simp;refine cx.ob (Vv l v c _ rfl) (Da l) aG aG (by simp[inObs]) ?_;rintro r b ⟨rfl,rfl⟩;refine⟨Same.refl _,?_⟩;simp[bW];(with_reducible repeat' first|((first|apply bV|apply b0|apply bZ)<;>intro h<;>try simp at h)|refine ak ?_|refine aI (abX _) ?_|refine aJ (abX _) ?_|simp);all_goals refine cJ.at _ (.inl rfl) a (Same.refl _) aG aG ?_
 all_goals simp[cM,aX,aY,aW]
 all_goals unfold vP
 all_goals cases e:tQ l v<;>simp_all
def FD(l:List az)(t:T):T:=t.sub (tQ l)
def vb(l:List az)(t:T):Bool:=decide (mo (vP l) t<=5000)
def aiM(l:List az)(t:T)(c:l.length<=1000000):bG ar 116 [t.e,.func 117 [.ptr (.obj 201) 0]] (pF l) fun r b=>r= .tuple [(if vb l t then FD l t else .nil).e,.bool (vb l t)]/\b=pF l:=by
 have a:=Da l;unfold pF at a⊢;refine bG.mk mixed a7 Tryz.func116 anw Ψ a.obj fun f e=>?_;unfold Sy;simp;refine cx.ob (aiQ (sT l) (Ko l) 159 [.ptr (.obj 202) 0] (by simp[inObs,sT]) Ψ (vP l) (aic l) t fun v d=>aiN l v c) (Ko l) (by unfold sT;exact aG) (by unfold sT;exact aG) (by simp[inObs,sT]) ?_;rintro r b ⟨rfl,rfl⟩;refine⟨Same.refl _,?_⟩;unfold sT;simp[bW];(with_reducible repeat' first|((first|apply bV|apply b0|apply bZ)<;>intro h<;>try simp at h)|refine ak ?_|simp)
 ·refine cJ.at _ (.inl rfl) a (Same.refl _) aG aG ?_;simp[cM,aX,aY,aW];have:vb l t=false:=by simp[vb];omega
  simp[this]
 ·refine cx.ob (Vu (pF l) (Da l) 117 [.ptr (.obj 201) 0] (by simp[inObs,pF]) Ψ (tQ l) t fun v d=>Vv l v c _ rfl) (Da l) wd wd (by simp[inObs,pF]) ?_;rintro r b ⟨rfl,rfl⟩;refine⟨Same.refl _,?_⟩;unfold pF;simp[bW];refine cJ.at _ (.inl rfl) a (Same.refl _) aG aG ?_;simp[cM,aX,aY,aW];have:vb l t=true:=by simp[vb];omega
  simp[this,FD]
def asR(l:List az)(t:T)(a:l.length<=1000000):bK ar 59 [.slice 5 .no (l.map az.e),t.e] (.tuple [(if vb l t then FD l t else .nil).e,.bool (vb l t)]):=by refine br a7 Tryz.func59 anu fun c=>?_;unfold Sw;simp;refine cx.ob (aiM l t a) (Da l) wd wd (by simp[inObs,pF]) ?_;rintro r b ⟨rfl,rfl⟩;refine⟨Same.refl _,?_⟩;unfold pF;simp[bW];simp[bF,aX,aY,aW]
def PT(p:Nat->Bool)(n:Nat)(hm:∀k a,k<=a->a<n->p k=true->p a=true):∀(m i j:Nat),j-i<=m->i<=j->j<=n->(∀k,k<i->p k=false)->(∀k,j<=k->k<n->p k=true)->
  (i<=nt p i j/\nt p i j<=j)/\(∀k,k<nt p i j->p k=false)/\(∀k,nt p i j<=k->k<n->p k=true)
 |m,i,j,o,h,f,J,U=>by
  rw[nt];split
  ·rename_i l;obtain⟨m,rfl⟩:∃e,m=e+1:=⟨m-1,Ω⟩;split
   ·rename_i b;have:=PT p n hm m i ((i+j)/2) Ω Ω Ω J (fun k d g=>hm _ k d g b);exact⟨⟨this.1.1,Ω⟩,this.2⟩
   ·rename_i b;have:=PT p n hm m ((i+j)/2+1) j Ω Ω f (fun k d=>by
     by_cases c:p k=true
     ·exact absurd (hm k ((i+j)/2) Ω Ω c) b
     ·simpa using c) U
    exact⟨⟨Ω,this.1.2⟩,this.2⟩
  ·obtain rfl:i=j:=Ω
   exact⟨⟨e2 _,e2 _⟩,J,U⟩
def OQ{l:List az}(F:iX l)(v:Int):tQ l v=dC l v:=by
 have f:∀(i j:Nat) (x y:az),i<j->l[i]? =some x->l[j]? =some y->x.v<y.v:=by intro i j x y B H K;obtain⟨J,rfl⟩:=fp.1 H;obtain⟨U,rfl⟩:=fp.1 K;exact q1.1 F i j J U B
 obtain⟨p,q⟩:∃p:Nat->Bool,p=(fun i=>match l[i]? with|some b=>decide (v<=b.v)|none=>false):=⟨_,rfl⟩;have d:∀i b,l[i]? =some b->p i=decide (v<=b.v):=fun i b ae=>by rw[q];simp[ae]
 have hm:∀k a,k<=a->a<l.length->p k=true->p a=true:=by
  intro k a c D h;have s:l[k]? =some l[k]:=cl Ω;have u:l[a]? =some l[a]:=cl D;rw[d k _ s]at h;rw[d a _ u];simp only[e3]at h⊢;rcases Nat.lt_or_eq_of_le c with A|rfl
  ·have:=f k a _ _ A s u;omega
  ·exact h
 obtain⟨⟨_,hle⟩,hbef,haft⟩:=PT p l.length hm l.length 0 l.length Ω Ω (e2 _) (fun k c=>Ω) (fun k J U=>Ω);have n:oi l v=(match l[nt p 0 l.length]? with|some b=>if b.v=v then((nt p 0 l.length:Nat):Int)else-1|none=> -1):=by rw[q];rfl
 generalize nt p 0 l.length=r at hle hbef haft n;by_cases hex:∃(k:Nat) (b:az),l[k]? =some b/\b.v=v
 ·obtain⟨k,b,ae,w⟩:=hex;have o:k<l.length:=(fp.1 ae).1;have E:r<=k:=by
   rcases Nat.lt_or_ge k r with h|h
   ·have:=hbef k h;rw[d k b ae]at this;simp at this;omega
   ·exact h
  have t:l[r]? =some l[r]:=cl Ω;have z:=haft r (e2 _) Ω;rw[d r _ t]at z;simp only[e3]at z;have g:r=k:=by
   rcases Nat.lt_or_eq_of_le E with h|h
   ·have:=f r k _ _ h t ae;omega
   ·exact h
  subst g;have m:oi l v=r:=by rw[n,ae];simp[w]
  have J:tQ l v=some b.t:=by unfold tQ;rw[m,if_neg Ω];simp[ae]
  have U:l.find? (fun b=>b.v==v)=some b:=by
   rw[List.find?_eq_some_iff_getElem];refine⟨by simp[w],r,o,?_,fun j G=>?_⟩
   ·rw[cl o]at ae;simpa using ae
   ·have:=f j r l[j] b G (cl Ω) ae;simp;omega
  rw[J];simp[dC,U]
 ·have U:l.find? (fun b=>b.v==v)=none:=by rw[List.find?_eq_none];intro b ae;obtain⟨k,c,rfl⟩:=List.mem_iff_getElem.1 ae;simp;intro e;exact hex ⟨k,l[k],cl c,e⟩
  have m:oi l v= -1:=by
   rw[n];split
   ·rename_i b ae;rw[if_neg (fun e=>hex ⟨r,b,ae,e⟩)]
   ·rfl
  unfold tQ;rw[m];simp[dC,U]
def Vb{l:List az}(a:iX l)(v:Int):oi l v<0↔dC l v=none:=by
 rw[<-OQ a v];unfold tQ;have J:=Va l v;by_cases h:oi l v<0
 ·simp[h]
 ·simp only[h,if_false,false_iff];intro e;rw[Option.map_eq_none_iff,List.getElem?_eq_none_iff]at e;omega
def Bm(s:List az):Prop:= ∀b∈s,b.t.fit=true
def aib{l:List az}(a:iX l)(h:Bm l)(v:Int):vP l v=(cQ l v).size:=by
 unfold vP cQ;rw[OQ a];cases ae:dC l v with
 |none=>simp[T.size]
 |some x=>have:=h _ (kX ae);simp only[T.fit,cD,e3]at this;simp only[mv];rw[IW,if_pos ⟨this.1,Ω⟩]
def aqU{l:List az}(e:iX l)(h:Bm l)(t:T):mo (vP l) t=cut (t.ap (cQ l)).size:=by
 induction t with
 |var n=>simp only[mo,aib e h,T.ap];rfl
 |pair a b d c=>have ae:=T.size_pos (b.ap (cQ l));simp only[mo,d,c,T.ap,T.size];unfold cut;(repeat' split)<;>omega
 |_=>simp[mo,T.ap,T.size,cut]
def ao6{l:List az}(a:iX l)(h:Bm l)(t:T):vb l t=decide ((t.ap (cQ l)).size<=5000):=by unfold vb;rw[aqU a h];unfold cut;split<;>simp<;>omega
def ao7{l:List az}(a:iX l)(t:T):FD l t=t.ap (cQ l):=by unfold FD;rw[aa2];exact vA fun v _=>by rw[OQ a];rfl
def Ke(l:List az)(t:T)(b:l.length<=1000000)(a:iX l)(h:Bm l):bK ar 59 [.slice 5 .no (l.map az.e),t.e] (.tuple [(if(t.ap (cQ l)).size<=5000 then t.ap (cQ l)else .nil).e,.bool (decide ((t.ap (cQ l)).size<=5000))]):=by have:=asR l t b;rw[ao6 a h,ao7 a]at this;simpa using this
def Yh(l:List (Int×T)):List ah:=kL (l.map fun x=>(x.1,x.2.e))
@[simp]def awv:Yh []=kL []:=rfl
@[simp]def awY(l:List (Int×T)):gN (Yh l)=false:=rfl
end
end Go.Proofs.YtfeencekjcjalaaGreatDoor
namespace Go.Proofs
section
open Go.Shelf
def Tryz.lays191_ren:Go.Shelf.Ren:=⟨fun|191=>242|189=>254|125=>207|257=>257|128=>233|129=>227|294=>258|295=>259|296=>260|297=>261|298=>262|299=>263|216=>264|300=>265|301=>266|328=>267|329=>268|330=>269|331=>270|332=>271|215=>272|343=>273|n=>n,fun|28=>128|0=>0|3=>3|46=>178|51=>231|53=>211|4=>4|183=>256|182=>255|131=>222|5=>5|9=>9|218=>261|222=>246|228=>264|229=>251|n=>n,fun|n=>n⟩
def Tryz.lays191:Go.Proofs.Lays.n191 ar Tryz.lays191_ren:={
 mixed:=an
 f125:=Tryz.func207.trans (eG some an)
 f128:=Tryz.func233.trans (eG some an)
 f129:=Tryz.func227.trans (eG some an)
 f189:=Tryz.func254.trans (eG some an)
 f191:=Tryz.func242.trans (eG some an)
 f215:=Tryz.func272.trans (eG some an)
 f216:=Tryz.func264.trans (eG some an)
 f257:=Tryz.func257.trans (eG some an)
 f294:=Tryz.func258.trans (eG some an)
 f295:=Tryz.func259.trans (eG some an)
 f296:=Tryz.func260.trans (eG some an)
 f297:=Tryz.func261.trans (eG some an)
 f298:=Tryz.func262.trans (eG some an)
 f299:=Tryz.func263.trans (eG some an)
 f300:=Tryz.func265.trans (eG some an)
 f301:=Tryz.func266.trans (eG some an)
 f328:=Tryz.func267.trans (eG some an)
 f329:=Tryz.func268.trans (eG some an)
 f330:=Tryz.func269.trans (eG some an)
 f331:=Tryz.func270.trans (eG some an)
 f332:=Tryz.func271.trans (eG some an)
 f343:=Tryz.func273.trans (eG some an)
 t0:=Tryz.underlying0
 a0:=Tryz.isAgg0
 z0:=Tryz.sizeOf0
 v0:=Tryz.zeroValue0
 t3:=Tryz.underlying3
 a3:=Tryz.isAgg3
 z3:=Tryz.sizeOf3
 v3:=Tryz.zeroValue3
 t4:=Tryz.underlying4
 a4:=Tryz.isAgg4
 z4:=Tryz.sizeOf4
 v4:=Tryz.zeroValue4
 t5:=Tryz.underlying5
 a5:=Tryz.isAgg5
 z5:=Tryz.sizeOf5
 v5:=Tryz.zeroValue5
 t9:=Tryz.underlying9
 a9:=Tryz.isAgg9
 z9:=Tryz.sizeOf9
 v9:=Tryz.zeroValue9
 t28:=Tryz.underlying128
 a28:=Tryz.isAgg128
 z28:=Tryz.sizeOf128
 v28:=Tryz.zeroValue128
 t46:=Tryz.underlying178
 a46:=Tryz.isAgg178
 z46:=Tryz.sizeOf178
 v46:=Tryz.zeroValue178
 t51:=Tryz.underlying231
 a51:=Tryz.isAgg231
 z51:=Tryz.sizeOf231
 v51:=Tryz.zeroValue231
 t53:=Tryz.underlying211
 a53:=Tryz.isAgg211
 z53:=Tryz.sizeOf211
 v53:=Tryz.zeroValue211
 t131:=Tryz.underlying222
 a131:=Tryz.isAgg222
 z131:=Tryz.sizeOf222
 v131:=Tryz.zeroValue222
 t182:=Tryz.underlying255
 a182:=Tryz.isAgg255
 z182:=Tryz.sizeOf255
 v182:=Tryz.zeroValue255
 t183:=Tryz.underlying256
 a183:=Tryz.isAgg256
 z183:=Tryz.sizeOf256
 v183:=Tryz.zeroValue256
 t218:=Tryz.underlying261
 a218:=Tryz.isAgg261
 z218:=Tryz.sizeOf261
 v218:=Tryz.zeroValue261
 t222:=Tryz.underlying246
 a222:=Tryz.isAgg246
 z222:=Tryz.sizeOf246
 v222:=Tryz.zeroValue246
 t228:=Tryz.underlying264
 a228:=Tryz.isAgg264
 z228:=Tryz.sizeOf264
 v228:=Tryz.zeroValue264
 t229:=Tryz.underlying251
 a229:=Tryz.isAgg251
 z229:=Tryz.sizeOf251
 v229:=Tryz.zeroValue251}
end
end Go.Proofs

namespace Go.Proofs.YtfeencekjcjalaaGreatDoor
section
open Go Go.Pv
def dT(xs:List Int):List ah:=xs.map (ah.int .i64)
def aau{w:World}{Z:a8}:∀{xs:List Int} {us:List Value},dk w Z 1 (dT xs) us->us=xs.map (pz .i64)
 |[],us,h=>by simpa[dT,dk]using h
 |x::xs,us,h=>by simp only[dT,fG,dk]at h;obtain⟨u,a,rfl,⟨J,_,_⟩,U⟩:=h;simp only[aV]at J;subst J;rw[aau U];rfl
def Xf(w:World)(Z:a8):∀xs:List Int,dk w Z 1 (dT xs) (xs.map (pz .i64))
 |[]=>by simp[dT,dk]
 |x::xs=>by simp only[dT,fG,dk];exact⟨.int .i64 x,_,rfl,⟨by simp[aV],rfl,by intro c aA;simp[nu]at aA;subst aA;rfl⟩,Xf w Z xs⟩
def oc(K:Nat)(xs:List Int):cS:=⟨[],[(.obj K,⟨xs.length,3,1,some (dT xs)⟩)]⟩
def uZ(S:aB->Prop)(xs:List Int):ay S (dT xs):=by
 induction xs with
 |nil=>simp[dT,ay]
 |cons x r a=>simp only[dT,fG,ay,au];exact⟨trivial,a⟩
def Ks(K:Nat)(xs:List Int):ea (oc K xs):=by unfold oc;refine ea.of ⟨by intro m;simp[Pv.look],by intro m;simp[Pv.look]⟩ Ψ ?_;intro x a ys b;simp at a;subst a;simp at b;subst b;exact uZ _ xs
def sD(xs:List Int):List Int:=xs.mergeSort fun x y=>decide (x<=y)
def aaR(xs:List Int):(sD xs).length=xs.length:=List.length_mergeSort xs
def aiV(K:Nat)(xs:List Int)(ao:xs.length<=1000000):bG ar 242 [.row 1 (.obj K) xs.length] (oc K xs) fun r O=>r= .tuple []/\O=oc K (sD xs):=by
 refine bG.sem (Ks K xs).obj fun w Z bf _ E f=>?_;refine .inl ⟨⟨Tryz.f242,Tryz.func242,by kernel_rfl,by kernel_rfl⟩,?_⟩;have c:=f.slot 0;simp only[j7,Pv.get,if_true]at c;have h:Pv.look (.obj K) (oc K xs).e=some ⟨xs.length,3,1,some (dT xs)⟩:=by simp[oc,Pv.look]
 obtain⟨v,us,m,p,Y,L⟩:=f.good.own (.obj K) _ h;obtain⟨X,D,V⟩:=L _ rfl;have A:=aau D;subst A;simp only[aV]at c;obtain⟨⟨Q,Li,y⟩,_,n',u,d,aC,M⟩:=c;rw[m]at d;simp only[dz,hW]at d;obtain⟨rfl,rfl⟩:=d;have x:=M rfl;have z:bf= #[v]:=by
  have J:bf.size=1:=by simpa using E
  apply Array.ext (by simpa using J);intro i U s;simp at s;subst s;rw[<-x];simp[Array.getD,J]
 have H:v≠ .slice none 0 0:=by rw[<-x,y];simp
 obtain⟨g,cap,rfl,_,B,S,N,Eb,R⟩:=Lib.holds_of_ownsRow p H;have aA:=Any.sort_Ints Tryz.lays191 g 0 cap xs w R B Ω;subst z;refine aA.mono ?_;rintro e w' ⟨rfl,n,os,rfl⟩;have b:=aaR xs;have l:=Lib.ownsRow_putRow (q:=n) (k:=xs.length) (ys:=sD xs) p b (e2 _);rw[gv Ω]at l;obtain⟨G,W,_⟩:=f.setRowM (w':=Sort.putRow (pz .i64) (Sort.ahead w n) g 0 (sD xs).toArray) h rfl m (bl:=g) rfl (v':= .slice (some ⟨g,0,none⟩) xs.length cap) rfl (xs':=dT (sD xs)) (us:=(sD xs).map (pz .i64)) (.inl ⟨by simp[dT,b],rfl⟩) rfl rfl rfl
  (fun j P=>by simp[Sort.putRow,Sort.mapBlock,Sort.ahead,Array.getElem?_modify,lb P]) (by simp[Sort.putRow,Sort.mapBlock,Sort.ahead]) (by simpa[dT,b]using l) (Xf _ _ _)
 have F:=G.grown (w':=Sort.grow (Sort.putRow (pz .i64) (Sort.ahead w n) g 0 (sD xs).toArray) os) ⟨rfl,rfl,rfl,Ψ,fun k a _=>Sort.heap_grow_old _ _ a⟩;refine⟨_,_,_,_,.tuple [],oc K (sD xs),rfl,F,by simp[aV,cN],by simp[oc,ho],?_,?_,?_,(Ks K _).obj,by simp[au,ay],rfl,rfl⟩
 ·simp[oc,ho,inObs,Pv.look]
 ·intro k cs a;simp[oc,Pv.look]at a
 ·intro k o a;have hm:=u1 a;simp[oc]at hm;obtain⟨rfl,rfl⟩:=hm;refine⟨by simp[oc,Pv.look,cG,dT,b],.inr (by simp[a]),fun ys t=>?_⟩;simp at t;subst t;exact uZ _ _
def pM(l:List Int):List ah:=kL (l.map fun x=>(x,.bool true))
def nP(S:aB->Prop)(l:List Int):ay S (pM l):=by
 have:∀l:List Int,ay S (lg (l.map fun x=>(x,.bool true))):=by
  intro l;induction l with
  |nil=>simp[lg,ay]
  |cons x r a=>simp[lg,ay,a,au]
 simp[pM,kL,ay,this,au]
def qn(v:Int)(l:List Int):List Int:=if v∈l then l else l++[v]
def Rp(k:Int):∀l:List Int,qo k (.bool true) (l.map fun x=>(x,ah.bool true))=if k∈l then some (l.map fun x=>(x,ah.bool true))else none
 |[]=>rfl
 |i::r=>by
  by_cases h:k=i
  ·simp[qo,h]
  ·by_cases U:k∈r<;>simp[qo,h,U,Rp k r]
@[simp]def awL(k:Int)(l:List Int):p5 .i (.int .i64 k) (.bool true) (pM l)=some (pM (qn k l)):=by
 simp only[pM,YF,GF,Rp,qn];split<;>rename_i h
 ·split at h
  ·simp at h;subst h;simp[*]
  ·cases h
 ·split at h
  ·cases h
  ·simp[*]
@[simp]def at0:pM []=kL []:=rfl
@[simp]def awW(l:List Int):gN (pM l)=false:=rfl
@[simp]def aw5(m:aB)(l:List Int):Ag m (pM l)=some (bX l.length [] m):=by simp[pM]
def al7(f:aB->aZ (List ah))(fV mk:aB)(n:Nat)(seen:List Nat)(b:Nat)(l:List Int)(x:Int)(hi:f fV=some (bX n (seen++[b]) mk))(hm:f mk=some (pM l))(a:n=l.length)(c:l[b]? =some x):qO f (.ptr fV 0)=some (True,.tuple [.int .i64 x,.bool true]):=by rw[Ys f fV mk n seen b _ hi hm (by simpa using a)];simp[c]
def aeP{st:bn}{d:Nat}{K:bn->Prop}{fV mk:aB}{n:Nat}{seen:List Nat}{l:List Int}(hi:Pv.look fV st.b=some (bX n seen mk))(hm:Pv.look mk st.b=some (pM l))(c:n=l.length)
  (J:(∀b,b<l.length->b∈seen)->K {st with t:=Pv.put d (.tuple [.bool false]) st.t}) (U:∀b x,l[b]? =some x->b∉seen->K {st with t:=Pv.put d (.tuple [.bool true,.int .i64 x,.bool true]) st.t,b:=cG fV (bX n (seen++[b]) mk) st.b}):
  uz st d (.ptr fV 0) K:=by
 refine UC hi hm (by simpa using c) (fun h=>J fun b ae=>h b Ω) (fun b k v ae f=>?_);simp only[List.getElem?_map,gI]at ae;obtain⟨x,e,a⟩:=ae;simp only[hW]at a;obtain⟨rfl,rfl⟩:=a;exact U b x e f
def _root_.Go.Pv.T.fold{α:Type}(f:Int->α->α):T->α->α
 | .var n,a=>f n a
 | .pair x y,a=>y.fold f (x.fold f a)
 |_,a=>a
def Vp{α:Type}(S:α->cS)(du:∀a,ea (S a))(eI:∀a b,Same (S a) (S b))(g:Nat)(cW:List ah)(aA:∀a,ay (inObs (S a)) cW)(dd:cR cW=cW)(f:Int->α->α)(l:∀v a,bG ar g (.int .i64 v::cW) (S a) fun r e=>r= .tuple []/\e=S (f v a))(t:T):
  ∀a,bG ar 131 [t.e,.func g cW] (S a) fun r e=>r= .tuple []/\e=S (t.fold f a):=by
 have c:∀a m,Pv.look (.loc m) (S a).b=none:=fun a=>(du a).obj.1;have hu:∀a m cs,cG (.loc m) cs (S a).b=(S a).b++[(.loc m,cs)]:=fun a m cs=>ku (c a m);have al:∀a m,aB.loc m∉di (S a):=fun a=>kq (du a).obj;induction t with
 |pair x y k j=>intro a;have d:=du a;refine bG.mk mixed a7 Tryz.func131 wE Ψ d.obj fun i h=>?_;unfold uw;simp[hu,al,cT,c,dd];(repeat' first|refine ak ?_|simp[hu,al,cT,c]);refine cx.ob (k a) d aG aG (by simp[aA]) ?_;rintro r e ⟨rfl,rfl⟩;refine⟨eI _ _,?_⟩;simp[hn,iM,bW,c];(repeat' first|refine ak ?_|simp[hu,al,cT,c]);rw[dd];refine cx.ob (j (x.fold f a)) (du (x.fold f a)) aG aG (by simp[aA]) ?_;rintro r e ⟨rfl,rfl⟩;refine⟨eI _ _,?_⟩;simp[hn,iM,bW,c];refine cJ.at (S (y.fold f (x.fold f a))) (.inr rfl) (du _) (eI _ _) aG aG ?_;simp[cM,aX,aY,aW];simp[T.fold]
 |var n=>intro a;have d:=du a;refine bG.mk mixed a7 Tryz.func131 wE Ψ d.obj fun i h=>?_;unfold uw;simp[hu,al,cT,c,dd];(repeat' first|refine ak ?_|simp[hu,al,cT,c]);refine cx.ob (l n a) d aG aG (by simp[aA]) ?_;rintro r e ⟨rfl,rfl⟩;refine⟨eI _ _,?_⟩;simp[hn,iM,bW,c,cT];refine cJ.at (S (f n a)) (.inr rfl) (du _) (eI _ _) aG aG ?_;simp[cM,aX,aY,aW];simp[T.fold]
 |_=>intro a;have d:=du a;refine bG.mk mixed a7 Tryz.func131 wE Ψ d.obj fun i h=>?_;unfold uw;simp[hu,al,cT,c,dd];(repeat' first|refine ak ?_|simp[hu,al,cT,c]);refine cJ.at (S a) (.inr rfl) d (Same.refl _) aG aG ?_;simp[cM,aX,aY,aW];simp[T.fold]
def vu(l:List Int):cS:=⟨[(.obj 304,pM l)],[]⟩
def Q5(l:List Int):ea (vu l):=by unfold vu;exact ea.of ⟨by intro m;simp[Pv.look],by intro m;simp[Pv.look]⟩ (by simp[nP,ay,au,inObs,Pv.look]) Ψ
def Sk:C:=(aa [e1 2 4,e1 3 4] (aa [eE 8 4 71 [],I 4 8] (aa [eE 9 4 71 [],I 5 9] (.seq (aa [I 10 0,cd 11 10,bT 12 0] (fo 13 12 11 (.seq (.block 1 (aa [cq 14 5 10 12,bh 15 5 14,dV 7 kI,b1 5 7 15] (aa [I 16 4,aK 17 0 1 7,aw 18 1 17,cI 19 50 18,eE 20 4 71 [.t 19],hv 21 4 71 16 20,I 4 21] (.region [I 22 5,fY 23 1 4 7,bh 24 4 23,eE 25 4 71 [.t 24],hv 26 4 71 22 25,I 5 26])))) (.region [aS 27 .add 12 1,I 12 27])))) (aa [I 28 4,I 29 5,I 2 28,I 3 29] .ret)))))
def KT:C:=(aa [c6 1 0,bs 2 false] (.seq (.seq (.fz false 1 (.region [aw 6 1 1,cI 7 130 6,cH 8 7])) (aU 8 (aa [bs 2 false] .ret) .skip)) (.seq (aa [aw 9 1 1,cd 10 9,bT 11 0] (fo 12 11 10 (.seq (.block 1 (aa [cq 13 5 9 11,bh 14 5 13,dV 4 kI,b1 5 4 14] (aa [cU (.alloc 5 (some 731) (.bool false)),cU (.store 1 (.t 5) (.c (.bool true)))] (aa [fY 15 1 4 4,bh 16 4 15,bH 17 (.mkf 132 [.t 1,.t 5]),ch 18 131 16 17] (aa [aw 19 1 5,cH 20 19,I 21 20,ax 21 false (fY 22 1 4 4),ax 21 false (aK 23 0 1 22),ax 21 false (aw 24 1 23),ax 21 false (aS 25 .eql 24 1),ck 21 false 26 25,ax 26 true (fY 27 1 4 4),ax 26 true (aK 28 1 1 27),ax 26 true (aw 29 1 28),ax 26 true (aK 30 0 1 4),ax 26 true (aw 31 1 30),ax 26 true (bp 32 .geq 29 31),ax 21 false (ei 33 26 32),dy 34 21 33] (aU 34 (aa [bs 2 false] .ret) .skip)))))) (.region [aS 35 .add 11 1,I 11 35])))) (aa [bs 2 true] .ret))))
def KU:C:=(aa [aw 4 1 1,I 5 0,ch 6 55 4 5,aS 7 .geq 6 0] (aU 7 (.region [cU (.store 1 (.t 2) (.c (.bool false)))]) .skip))
def RV:C:=(aa [e1 4 5,bs 5 false] (.seq (aa [I 8 0,cI 9 82 8,cH 10 9,I 11 10,ck 11 false 12 1,ax 11 false (cI 13 82 12),ax 11 false (cH 14 13),dy 15 11 14] (aU 15 (aa [e1 4 5,bs 5 false] .ret) .skip)) (aa [I 17 1,cI 18 48 17,I 16 18,dr 19 0 16,dr 20 1 16,I 6 19,I 7 20] (aa [I 21 0,I 22 6,I 23 7,ec 24 169 [.t 21,.t 22,.t 23],dr 25 0 24,dr 26 1 24,I 4 25,I 5 26] .ret))))
def R0:C:=(aa [e1 4 5] (.seq (aa [I 8 0,cI 9 82 8,cH 10 9,I 11 10,ck 11 false 12 1,ax 11 false (cI 13 82 12),ax 11 false (cH 14 13),dy 15 11 14] (aU 15 (aa [e1 4 5] .ret) .skip)) (aa [eE 16 5 74 [],I 5 16] (.seq (aa [I 17 1,cd 18 17,bT 19 0] (fo 20 19 18 (.seq (.block 1 (aa [cq 21 5 17 19,bh 22 5 21,dV 7 kI,b1 5 7 22] (aa [I 23 0,aK 24 0 1 7,aw 25 1 24,ch 26 55 23 25,aS 27 .lss 26 0] (aU 27 (.drawn true 39 [I 28 5,aK 29 0 1 7,aw 30 1 29,fY 31 1 4 7,bh 32 4 31,cI 33 170 32,lJ 34 kI [(0,1,(.t 30)),(1,4,(.t 33))],eE 35 5 74 [.t 34],hv 36 5 74 28 35,I 5 36]) .skip)))) (.region [aS 37 .add 19 1,I 19 37])))) (aa [I 38 5,I 4 38] .ret)))))
def Si:C:=(aa [e1 2 5] (aa [eE 6 5 74 [],I 3 6] (.seq (aa [I 7 0,cd 8 7,bT 9 0] (fo 10 9 8 (.seq (.block 1 (aa [cq 11 5 7 9,bh 12 5 11,dV 5 kI,b1 5 5 12] (.drawn true 24 [I 13 3,aK 14 0 1 5,aw 15 1 14,fY 16 1 4 5,bh 17 4 16,cI 18 170 17,lJ 19 kI [(0,1,(.t 15)),(1,4,(.t 18))],eE 20 5 74 [.t 19],hv 21 5 74 13 20,I 3 21]))) (.region [aS 22 .add 9 1,I 9 22])))) (aa [I 23 3,I 2 23] .ret))))
def KY:C:=(aa [bs 4 false] (.seq (aa [I 6 0,cd 7 6,I 8 1,cd 9 8,bp 10 .neq 7 9] (aU 10 (aa [bs 4 false] .ret) .skip)) (.seq (aa [I 11 0,cd 12 11,bT 13 0] (fo 14 13 12 (.seq (.block 1 (aa [I 15 13,I 5 15] (.seq (.drawn true 42 [I 16 0,I 17 5,cq 18 5 16 17,aK 19 0 1 18,aw 20 1 19,I 21 1,I 22 5,cq 23 5 21 22,aK 24 0 1 23,aw 25 1 24,bp 26 .neq 20 25,I 27 26,ck 27 false 28 0,ck 27 false 29 5,ax 27 false (cq 30 5 28 29),ax 27 false (fY 31 1 4 30),ax 27 false (bh 32 4 31),ck 27 false 33 1,ck 27 false 34 5,ax 27 false (cq 35 5 33 34),ax 27 false (fY 36 1 4 35),ax 27 false (bh 37 4 36),ax 27 false (ch 38 145 32 37),ax 27 false (cH 39 38),dy 40 27 39]) (aU 40 (aa [bs 4 false] .ret) .skip)))) (.region [aS 41 .add 13 1,I 13 41])))) (aa [bs 4 true] .ret))))
def Ss:C:=(aa [bT 4 0] (.seq (aa [bT 5 0] (.block 0 (.loop (.seq (aa [I 8 5,I 9 0,cd 10 9,bp 11 .lss 8 10,I 12 11,ck 12 true 13 5,ck 12 true 14 1,ax 12 true (cd 15 14),ax 12 true (bp 16 .lss 13 15),ei 17 12 16] (aU 17 .skip (.exit 0))) (.seq (.block 1 (.seq (.seq (.drawn true 53 [I 20 0,I 21 5,cq 22 5 20 21,aK 23 0 1 22,aw 24 1 23,I 25 1,I 26 5,cq 27 5 25 26,aK 28 0 1 27,aw 29 1 28,ch 30 199 24 29,I 6 30]) (aa [I 31 6,aS 32 .neq 31 0] (aU 32 (aa [I 33 6,I 4 33] .ret) .skip))) (.seq (.drawn true 53 [I 34 0,I 35 5,cq 36 5 34 35,fY 37 1 4 36,bh 38 4 37,I 39 1,I 40 5,cq 41 5 39 40,fY 42 1 4 41,bh 43 4 42,ch 44 178 38 43,I 7 44]) (aa [I 45 7,aS 46 .neq 45 0] (aU 46 (aa [I 47 7,I 4 47] .ret) .skip))))) (.region [I 18 5,aS 19 .add 18 1,I 5 19])))))) (aa [I 48 0,cd 49 48,I 50 1,cd 51 50,ch 52 199 49 51,I 4 52] .ret)))
def Sp:C:=(aa [bs 4 false] (.seq (aa [I 11 0,cd 12 11,bT 13 0] (fo 14 13 12 (.seq (.block 1 (aa [cq 15 5 11 13,bh 16 5 15,dV 6 kI,b1 5 6 16] (aa [I 18 1,aK 19 0 1 6,aw 20 1 19,cI 21 50 20,ch 22 59 18 21,I 17 22,dr 23 0 17,dr 24 1 17,dV 7 eb,b1 4 7 23,I 8 24] (aa [I 26 1,fY 27 1 4 6,bh 28 4 27,ch 29 59 26 28,I 25 29,dr 30 0 25,dr 31 1 25,dV 9 eb,b1 4 9 30,I 10 31] (aa [I 32 8,cH 33 32,I 34 33,ck 34 false 35 10,ax 34 false (cH 36 35),dy 37 34 36,I 38 37,ax 38 false (bh 39 4 7),ax 38 false (bh 40 4 9),ax 38 false (ch 41 145 39 40),ax 38 false (cH 42 41),dy 43 38 42] (aU 43 (aa [bs 4 false] .ret) .skip)))))) (.region [aS 44 .add 13 1,I 13 44])))) (aa [bs 4 true] .ret)))
def anj:b4 aT Sk [.tmp 2,.tmp 3] 1 Tryz.f48=true:=an
def YU:b4 aT KT [.tmp 2] 1 Tryz.f82=true:=an
def YV:b4 aT KU [] 3 Tryz.f132=true:=an
def amV:b4 aT RV [.tmp 4,.tmp 5] 2 Tryz.f138=true:=an
def am0:b4 aT R0 [.tmp 4] 2 Tryz.f139=true:=an
def anh:b4 aT Si [.tmp 2] 1 Tryz.f141=true:=an
def YZ:b4 aT KY [.tmp 4] 2 Tryz.f142=true:=an
def anq:b4 aT Ss [.tmp 4] 2 Tryz.f173=true:=an
def ann:b4 aT Sp [.tmp 4] 2 Tryz.f174=true:=an
def SC:C:=(aa [dV 2 eb] (aa [I 3 0,lJ 4 eb [(0,1,(gu 1)),(1,1,(.t 3))],b1 4 2 4] .ret))
def Sq:C:=(aa [bH 0 (.mov (.c (.nilp)))] (aa [cU (.mkmap 1 (some 702)),cU (.mkmap 2 (some 703)),cU (.mkmap 3 (some 704)),cU (.mkmap 4 (some 705)),cU (.mkmap 5 (some 706)),cU (.mkmap 6 (some 707)),bH 7 (.build [.junk,.junk,.junk,.junk,.junk,.junk] [(0,1,(.t 1)),(1,1,(.t 2)),(2,1,(.t 3)),(3,1,(.t 4)),(4,1,(.t 5)),(5,1,(.t 6))]),c6 8 7,I 0 8] (.fz true 0 .ret)))
def Se:C:=(aa [bT 4 0] (.seq (aa [I 8 0,fT 9 8,aK 10 0 1 9,aw 11 1 10,I 12 1,bH 13 (.mget .i (.int .i64 0) true (.t 11) (.t 12)),I 7 13,dr 14 0 7,dr 15 1 7,I 5 14,I 6 15] (aa [I 16 6,cH 17 16] (aU 17 (.region [I 18 0,fT 19 18,aK 20 0 1 19,aw 21 1 20,I 22 1,I 23 1,cU (.mput .i (.t 21) (.t 22) (.t 23))]) .skip))) (.seq (.block 0 (.loop (.seq (aa [I 24 0,fT 25 24,aK 26 0 1 25,aw 27 1 26,I 28 1,bH 29 (.mget .i (.int .i64 0) false (.t 27) (.t 28)),I 30 1,bp 31 .neq 29 30] (aU 31 .skip (.exit 0))) (.block 1 (.seq (.drawn true 55 [I 32 0,fT 33 32,aK 34 0 1 33,aw 35 1 34,I 36 1,I 37 0,fT 38 37,aK 39 0 1 38,aw 40 1 39,I 41 0,fT 42 41,aK 43 0 1 42,aw 44 1 43,I 45 1,bH 46 (.mget .i (.int .i64 0) false (.t 44) (.t 45)),bH 47 (.mget .i (.int .i64 0) false (.t 40) (.t 46)),cU (.mput .i (.t 35) (.t 36) (.t 47))]) (.region [I 48 0,fT 49 48,aK 50 0 1 49,aw 51 1 50,I 52 1,bH 53 (.mget .i (.int .i64 0) false (.t 51) (.t 52)),I 1 53])))))) (aa [I 54 1,I 4 54] .ret))))
def Sa:C:=(aa [c6 2 0,c6 3 1] (.fz false 2 (.region [bh 4 4 3,bH 5 (.mkf 209 [.t 2]),ch 6 131 4 5])))
def xl:C:=(aa [c6 4 1,c6 5 2,bs 6 false] (.seq (.block 0 (aa [aK 12 0 1 4,aw 13 1 12,aS 14 .eql 13 1,I 15 14,ax 15 true (aK 16 0 1 5),ax 15 true (aw 17 1 16),ax 15 true (aS 18 .eql 17 1),ei 19 15 18,I 11 19] (aU 11 (aa [I 20 0,aK 21 1 1 4,aw 22 1 21,ch 23 191 20 22,I 7 23] (aa [I 24 0,aK 25 1 1 5,aw 26 1 25,ch 27 191 24 26,I 8 27] (.seq (aa [I 28 7,I 29 8,bp 30 .eql 28 29] (aU 30 (aa [bs 6 true] .ret) .skip)) (.seq (aa [I 31 8,I 32 7,bp 33 .lss 31 32] (aU 33 (.region [I 34 8,I 35 7,I 7 34,I 8 35]) .skip)) (aa [I 36 0,fT 37 36,aK 38 0 1 37,aw 39 1 38,I 40 8,I 41 7,cU (.mput .i (.t 39) (.t 40) (.t 41))] (.seq (aa [I 42 0,fT 43 42,aK 44 2 1 43,aw 45 1 44,I 46 8,bH 47 (.mget .i (.bool false) false (.t 45) (.t 46)),cH 48 47] (aU 48 (aa [I 49 0,fT 50 49,aK 51 2 1 50,aw 52 1 51,I 53 7,bH 54 (.mget .i (.bool false) false (.t 52) (.t 53)),cH 55 54,I 56 55,ck 56 false 57 0,ck 56 false 58 0,ax 56 false (fT 59 58),ax 56 false (aK 60 1 1 59),ax 56 false (aw 61 1 60),ck 56 false 62 7,yA 56 false 63 (.mget .i (.agg eb) false (.t 61) (.t 62)),ck 56 false 64 7,ys 56 false (.mkmap 65 (some 715)),ax 56 false (ec 66 210 [.t 57,.t 63,.t 64,.t 65]),ax 56 false (cH 67 66),dy 68 56 67,I 6 68] .ret) .skip)) (aa [I 69 0,fT 70 69,aK 71 1 1 70,aw 72 1 71,I 73 8,bH 74 (.mget .i (.agg eb) false (.t 72) (.t 73)),dV 9 eb,b1 4 9 74] (.seq (aa [I 75 0,fT 76 75,aK 77 2 1 76,aw 78 1 77,I 79 7,bH 80 (.mget .i (.bool false) false (.t 78) (.t 79)),cH 81 80] (aU 81 (aa [I 82 0,I 83 7,bh 84 4 9,ec 85 211 [.t 82,.t 83,.t 84],I 6 85] .ret) .skip)) (.seq (.drawnW [715,716] 198 [I 86 0,bh 87 4 9,I 88 7,cU (.mkmap 89 (some 715)),ec 90 210 [.t 86,.t 87,.t 88,.t 89],cH 91 90,I 92 91,ck 92 true 93 0,ck 92 true 94 0,ax 92 true (fT 95 94),ax 92 true (aK 96 1 1 95),ax 92 true (aw 97 1 96),ck 92 true 98 7,yA 92 true 99 (.mgetB .i (.agg eb) false (.t 97) (.t 98)),ck 92 true 100 7,ys 92 true (.mkmap 101 (some 716)),ax 92 true (ec 102 210 [.t 93,.t 99,.t 100,.t 101]),ax 92 true (cH 103 102),ei 104 92 103,I 105 104,ck 105 true 106 0,ck 105 true 107 0,ax 105 true (fT 108 107),ax 105 true (aK 109 1 1 108),ax 105 true (aw 110 1 109),ck 105 true 111 7,yA 105 true 112 (.mgetB .i (.agg eb) false (.t 110) (.t 111)),ax 105 true (bh 113 4 9),ax 105 true (ec 114 193 [.t 106,.t 112,.t 113]),ei 115 105 114,I 6 115]) .ret))))))))) (aa [aK 117 0 1 4,aw 118 1 117,aS 119 .eql 118 1,I 116 119] (aU 116 (aa [I 120 0,aK 121 1 1 4,aw 122 1 121,ch 123 191 120 122,I 10 123] (.seq (aa [I 124 0,fT 125 124,aK 126 2 1 125,aw 127 1 126,I 128 10,bH 129 (.mget .i (.bool false) false (.t 127) (.t 128)),cH 130 129] (aU 130 (aa [I 131 0,I 132 10,bh 133 4 5,ec 134 211 [.t 131,.t 132,.t 133],I 6 134] .ret) .skip)) (.seq (.drawn false 198 [I 135 0,I 136 0,fT 137 136,aK 138 1 1 137,aw 139 1 138,I 140 10,bH 141 (.mgetB .i (.agg eb) false (.t 139) (.t 140)),bh 142 4 5,ec 143 193 [.t 135,.t 141,.t 142],I 6 143]) .ret))) (aa [aK 145 0 1 5,aw 146 1 145,aS 147 .eql 146 1,I 144 147] (aU 144 (aa [I 148 0,bh 149 4 5,bh 150 4 4,ec 151 193 [.t 148,.t 149,.t 150],I 6 151] .ret) (aa [aK 153 0 1 4,aw 154 1 153,aK 155 0 1 5,aw 156 1 155,bp 157 .neq 154 156,I 158 157,ax 158 false (aK 159 1 1 4),ax 158 false (aw 160 1 159),ax 158 false (aK 161 1 1 5),ax 158 false (aw 162 1 161),ax 158 false (bp 163 .neq 160 162),dy 164 158 163,I 165 164,ax 165 false (aK 166 2 1 4),ax 165 false (aw 167 1 166),ax 165 false (aK 168 2 1 5),ax 165 false (aw 169 1 168),ax 165 false (bp 170 .neq 167 169),dy 171 165 170,I 152 171] (aU 152 (aa [bs 6 false] .ret) (aa [aK 173 0 1 4,aw 174 1 173,aS 175 .eql 174 4,I 172 175] (aU 172 (.seq (.drawn false 198 [I 176 0,aK 177 3 1 4,aw 178 1 177,iy 179 4 178 0,bh 180 4 179,aK 181 3 1 5,aw 182 1 181,iy 183 4 182 0,bh 184 4 183,ec 185 193 [.t 176,.t 180,.t 184],I 186 185,ck 186 true 187 0,ax 186 true (aK 188 3 1 4),ax 186 true (aw 189 1 188),ax 186 true (iy 190 4 189 1),ax 186 true (bh 191 4 190),ax 186 true (aK 192 3 1 5),ax 186 true (aw 193 1 192),ax 186 true (iy 194 4 193 1),ax 186 true (bh 195 4 194),ax 186 true (ec 196 193 [.t 187,.t 191,.t 195]),ei 197 186 196,I 6 197]) .ret) .skip))))))))))) (aa [bs 6 true] .ret)))
def Sb:C:=(.region [aw 3 1 1,I 4 0,ch 5 191 3 4])
def Sc:C:=(aa [c6 4 0,c6 5 1,c6 6 2,c6 7 3,bs 8 false] (aa [cU (.alloc 9 (some 712) (.bool false)),cU (.store 1 (.t 9) (.c (.bool false)))] (.seq (.fz false 7 (.fz false 6 (.fz false 4 (.region [bh 10 4 5,bH 11 (.mkf 241 [.t 4,.t 9,.t 6,.t 7]),ch 12 131 10 11])))) (aa [aw 13 1 9,I 8 13] .ret))))
def R9:C:=(aa [c6 5 2,bs 6 false] (.seq (.drawn true 24 [I 7 0,fT 8 7,aK 9 1 1 8,aw 10 1 9,I 11 1,bh 12 4 5,cU (.mput .i (.t 10) (.t 11) (.t 12))]) (aa [I 13 0,fT 14 13,aK 15 2 1 14,aw 16 1 15,I 17 1,cU (.mput .i (.t 16) (.t 17) (.c (.bool true)))] (aa [I 18 0,bh 19 4 5,I 20 1,cU (.mkmap 21 (some 715)),ec 22 210 [.t 18,.t 19,.t 20,.t 21],cH 23 22,I 6 23] .ret))))
def A0:C:=(aa [c6 2 0,bs 4 false] (.seq (.seq (.fz false 2 (.region [aw 6 1 2,fT 7 6,aK 8 3 1 7,aw 9 1 8,I 10 1,bH 11 (.mget .i (.int .i64 0) false (.t 9) (.t 10)),aS 12 .eql 11 2])) (aU 12 (aa [bs 4 true] .ret) .skip)) (.seq (aa [aw 13 1 2,fT 14 13,aK 15 3 1 14,aw 16 1 15,I 17 1,bH 18 (.mget .i (.int .i64 0) false (.t 16) (.t 17)),aS 19 .eql 18 1] (aU 19 (aa [bs 4 false] .ret) .skip)) (aa [aw 20 1 2,fT 21 20,aK 22 3 1 21,aw 23 1 22,I 24 1,cU (.mput .i (.t 23) (.t 24) (gu 1))] (aa [aw 25 1 2,fT 26 25,aK 27 4 1 26,aw 28 1 27,I 29 1,cU (.mput .i (.t 28) (.t 29) (gu 1))] (.seq (aa [aw 30 1 2,fT 31 30,aK 32 2 1 31,aw 33 1 32,I 34 1,bH 35 (.mget .i (.bool false) false (.t 33) (.t 34))] (aU 35 (aa [cU (.alloc 5 (some 712) (.bool false)),cU (.store 1 (.t 5) (.c (.bool true)))] (aa [aw 36 1 2,fT 37 36,aK 38 1 1 37,aw 39 1 38,I 40 1,bH 41 (.mget .i (.agg eb) false (.t 39) (.t 40)),bH 42 (.mkf 243 [.t 5,.t 2]),ch 43 131 41 42] (.seq (aa [aw 44 1 5,cH 45 44] (aU 45 (aa [bs 4 false] .ret) .skip)) (.drawn false 64 [aw 46 1 2,fT 47 46,aK 48 4 1 47,aw 49 1 48,I 50 1,aw 51 1 2,fT 52 51,aK 53 1 1 52,aw 54 1 53,I 55 1,bH 56 (.mgetB .i (.agg eb) false (.t 54) (.t 55)),bH 57 (.mkf 244 [.t 2]),ch 58 158 56 57,cU (.mput .i (.t 49) (.t 50) (.t 58))])))) .skip)) (aa [aw 59 1 2,fT 60 59,aK 61 3 1 60,aw 62 1 61,I 63 1,cU (.mput .i (.t 62) (.t 63) (gu 2))] (aa [bs 4 true] .ret))))))))
def GN:C:=(aa [c6 2 0,dV 4 eb] (.seq (.seq (.fz false 2 (.region [aw 9 1 2,fT 10 9,aK 11 5 1 10,aw 12 1 11,I 13 1,bH 14 (.mget .i (.agg eb) true (.t 12) (.t 13)),I 8 14,dr 15 0 8,dr 16 1 8,dV 5 eb,b1 4 5 15,I 6 16])) (aa [I 17 6] (aU 17 (aa [bh 18 4 5,b1 4 4 18] .ret) .skip))) (aa [I 19 1,cI 20 50 19,dV 7 eb,b1 4 7 20] (.seq (aa [aw 21 1 2,fT 22 21,aK 23 2 1 22,aw 24 1 23,I 25 1,bH 26 (.mget .i (.bool false) false (.t 24) (.t 25))] (aU 26 (.region [aw 27 1 2,fT 28 27,aK 29 1 1 28,aw 30 1 29,I 31 1,bH 32 (.mget .i (.agg eb) false (.t 30) (.t 31)),bH 33 (.mkf 245 [.t 2]),ch 34 146 32 33,b1 4 7 34]) .skip)) (.seq (.drawn true 42 [aw 35 1 2,fT 36 35,aK 37 5 1 36,aw 38 1 37,I 39 1,bh 40 4 7,cU (.mput .i (.t 38) (.t 39) (.t 40))]) (aa [bh 41 4 7,b1 4 4 41] .ret))))))
def Sd:C:=(aa [aw 7 1 1,I 8 0,ch 9 191 7 8,I 6 9] (.seq (aa [aw 10 1 2,I 11 10,ck 11 false 12 6,ax 11 false (aw 13 1 3),ax 11 false (bp 14 .eql 12 13),dy 15 11 14] (aU 15 (aa [cU (.store 1 (.t 2) (.c (.bool true)))] .ret) .skip)) (aa [aw 16 1 4,I 17 6,bH 18 (.mget .i (.bool false) false (.t 16) (.t 17)),cH 19 18,I 20 19,ax 20 true (aw 21 1 1),ax 20 true (fT 22 21),ax 20 true (aK 23 2 1 22),ax 20 true (aw 24 1 23),ck 20 true 25 6,ax 20 true (bH 26 (.mget .i (.bool false) false (.t 24) (.t 25))),ei 27 20 26] (aU 27 (aa [aw 28 1 4,I 29 6,cU (.mput .i (.t 28) (.t 29) (.c (.bool true)))] (.drawn false 40 [aw 30 1 1,aw 31 1 1,fT 32 31,aK 33 1 1 32,aw 34 1 33,I 35 6,bH 36 (.mgetB .i (.agg eb) false (.t 34) (.t 35)),aw 37 1 3,aw 38 1 4,ec 39 210 [.t 30,.t 36,.t 37,.t 38],b1 1 2 39])) .skip))))
def KW:C:=(.seq (.drawn false 13 [bH 4 (.loadB false 1 (.t 1)),I 5 4,ax 5 true (aw 6 1 2),ax 5 true (aw 7 1 2),ck 5 true 8 0,ax 5 true (ch 9 191 7 8),ax 5 true (ch 10 213 6 9),ax 5 true (cH 11 10),ei 12 5 11]) (aU 12 (.region [cU (.store 1 (.t 1) (.c (.bool false)))]) .skip))
def Sh:C:=(aa [bT 3 0] (.seq (.drawn false 12 [aw 4 1 1,fT 5 4,aK 6 4 1 5,aw 7 1 6,aw 8 1 1,I 9 0,ch 10 191 8 9,bH 11 (.mgetB .i (.int .i64 0) false (.t 7) (.t 10)),I 3 11]) .ret))
def Sg:C:=(aa [dV 3 eb,bs 4 false] (.seq (.drawn false 10 [aw 5 1 1,aw 6 1 1,I 7 0,ch 8 191 6 7,ch 9 214 5 8,b1 4 3 9,bs 4 true]) .ret))
def anB:b4 aT SC [.cell 2 true 4] 1 Tryz.f50=true:=an
def ano:b4 aT Sq [.tmp 0] 0 Tryz.f190=true:=an
def anc:b4 aT Se [.tmp 4] 2 Tryz.f191=true:=an
def am8:b4 aT Sa [] 2 Tryz.f192=true:=an
def z7:b4 aT xl [.tmp 6] 3 Tryz.f193=true:=an
def am9:b4 aT Sb [] 2 Tryz.f209=true:=an
def ana:b4 aT Sc [.tmp 8] 4 Tryz.f210=true:=an
def am7:b4 aT R9 [.tmp 6] 3 Tryz.f211=true:=an
def Fm:b4 aT A0 [.tmp 4] 2 Tryz.f213=true:=an
def Ow:b4 aT GN [.cell 4 true 4] 2 Tryz.f214=true:=an
def anb:b4 aT Sd [] 5 Tryz.f241=true:=an
def YX:b4 aT KW [] 3 Tryz.f243=true:=an
def ang:b4 aT Sh [.tmp 3] 2 Tryz.f244=true:=an
def anf:b4 aT Sg [.cell 3 true 4,.tmp 4] 2 Tryz.f245=true:=an
end
section
open Go Go.Pv
section
variable {α:Type} (S:α->cS) (du:∀a,ea (S a)) (eI:∀a b,Same (S a) (S b)) (g:Nat) (cW:List ah) (aA:∀a,ay (inObs (S a)) cW) (dd:cR cW=cW)
include du eI aA dd in
theorem Vq(e:α->Prop)(f:Int->α->aZ α)(o:∀v a bu,e a->f v a=some bu->e bu/\bG ar g (.int .i64 v::cW) (S a) fun r d=>r= .tuple []/\d=S bu)(t:T):
  ∀a bu,e a->t.foldO f a=some bu->e bu/\bG ar 131 [t.e,.func g cW] (S a) fun r d=>r= .tuple []/\d=S bu:=by
 have b:∀a m,Pv.look (.loc m) (S a).b=none:=fun a=>(du a).obj.1;have hu:∀a m cs,cG (.loc m) cs (S a).b=(S a).b++[(.loc m,cs)]:=fun a m cs=>ku (b a m);have al:∀a m,aB.loc m∉di (S a):=fun a=>kq (du a).obj;induction t with
 |pair x y l k=>intro a bu hi he;have c:=du a;simp only[T.foldO,n5]at he;obtain⟨h,J,U⟩:=he;obtain⟨i1,g1⟩:=l a h hi J;obtain⟨i2,g2⟩:=k h bu i1 U;refine⟨i2,?_⟩;refine bG.mk mixed a7 Tryz.func131 wE Ψ c.obj fun j i=>?_;unfold uw;simp[hu,al,cT,b,dd];(repeat' first|refine ak ?_|simp[hu,al,cT,b]);refine cx.ob g1 c aG aG (by simp[aA]) ?_;rintro r d ⟨rfl,rfl⟩;refine⟨eI _ _,?_⟩;simp[hn,iM,bW,b];(repeat' first|refine ak ?_|simp[hu,al,cT,b]);rw[dd];refine cx.ob g2 (du h) aG aG (by simp[aA]) ?_;rintro r d ⟨rfl,rfl⟩;refine⟨eI _ _,?_⟩;simp[hn,iM,bW,b];refine cJ.at (S bu) (.inr rfl) (du _) (eI _ _) aG aG ?_;simp[cM,aX,aY,aW]
 |var n=>intro a bu hi he;have c:=du a;simp only[T.foldO]at he;obtain⟨i1,g1⟩:=o n a bu hi he;refine⟨i1,?_⟩;refine bG.mk mixed a7 Tryz.func131 wE Ψ c.obj fun j i=>?_;unfold uw;simp[hu,al,cT,b,dd];(repeat' first|refine ak ?_|simp[hu,al,cT,b]);refine cx.ob g1 c aG aG (by simp[aA]) ?_;rintro r d ⟨rfl,rfl⟩;refine⟨eI _ _,?_⟩;simp[hn,iM,bW,b,cT];refine cJ.at (S bu) (.inr rfl) (du _) (eI _ _) aG aG ?_;simp[cM,aX,aY,aW]
 |_=>intro a bu hi he;have c:=du a;simp only[T.foldO,dz]at he;subst he;refine⟨hi,?_⟩;refine bG.mk mixed a7 Tryz.func131 wE Ψ c.obj fun j i=>?_;unfold uw;simp[hu,al,cT,b,dd];(repeat' first|refine ak ?_|simp[hu,al,cT,b]);refine cJ.at (S a) (.inr rfl) c (Same.refl _) aG aG ?_;simp[cM,aX,aY,aW]
include du eI aA dd in
theorem L6(f:Int->α->aZ α)(c:∀v a bu,f v a=some bu->bG ar g (.int .i64 v::cW) (S a) fun r b=>r= .tuple []/\b=S bu)(t:T)(a bu:α)(h:t.foldO f a=some bu):bG ar 131 [t.e,.func g cW] (S a) fun r b=>r= .tuple []/\b=S bu:=(Vq S du eI g cW aA dd (fun _=>True) f (fun v a bu _ h=>⟨trivial,c v a bu h⟩) t a bu trivial h).2
include du eI aA dd in
theorem aiD(f:Int->α->aZ (T×α))(s:∀v a p,f v a=some p->bG ar g (.int .i64 v::cW) (S a) fun r h=>r= .tuple [p.1.e,.bool true]/\h=S p.2)(t:T):
  ∀a p,t.mapO f a=some p->bG ar 146 [t.e,.func g cW] (S a) fun r h=>r=p.1.e/\h=S p.2:=by
 have b:∀a m,Pv.look (.loc m) (S a).b=none:=fun a=>(du a).obj.1;have j:∀a m,Pv.look (.loc m) (S a).e=none:=fun a=>(du a).obj.2;have hu:∀a m cs,cG (.loc m) cs (S a).b=(S a).b++[(.loc m,cs)]:=fun a m cs=>ku (b a m);have al:∀a m,aB.loc m∉di (S a):=fun a=>kq (du a).obj;have c:∀a m p r,cG (.loc m) p ((S a).b++r)=(S a).b++cG (.loc m) p r:=fun a m p r=>CV (b a m);induction t with
 |pair x y q o=>intro a p he;have d:=du a;simp only[T.mapO,n5,gI]at he;obtain⟨e,J,i,U,rfl⟩:=he;refine bG.mk mixed a7 Tryz.func146 Cp Ψ d.obj fun l k=>?_;unfold yP;simp[hu,al,cT,b,j,dd,c];(repeat' first|refine ak ?_|simp[hu,al,cT,b,j,c]);refine iY.ob (q a e J) d (du e.2) (eI _ _) aG aG (by simp[aA]) ?_;simp[hn,iM,bW,b,dd];(repeat' first|refine ak ?_|simp[hu,al,cT,b,j,c]);refine iY.ob (o e.2 i U) (du e.2) (du i.2) (eI _ _) aG aG (by simp[aA,dd]) ?_;simp[hn,iM,bW,b,dd];(repeat' first|refine ak ?_|refine aI (Kd _ _) ?_|refine aJ (Kd _ _) ?_|simp[cT,b,c]);refine cJ.at (S i.2) (.inl rfl) (du _) (eI _ _) aG aG ?_;simp[cM,aX,aY,aW,cT,b]
 |var n=>
  intro a p he;have d:=du a;simp only[T.mapO]at he;refine bG.mk mixed a7 Tryz.func146 Cp Ψ d.obj fun l k=>?_;unfold yP;simp[hu,al,cT,b,dd,c];(repeat' first|refine ak ?_|simp[hu,al,cT,b,c]);refine cx.ob (s n a p he) d aG aG (by simp[aA]) ?_;rintro r h ⟨rfl,rfl⟩;refine⟨eI _ _,?_⟩;simp[hn,iM,bW,b,hu,al,cT];(repeat' first|refine ak ?_|refine aI (vl _) ?_|refine aJ (vl _) ?_|simp[hu,al,cT,b,c]);all_goals refine cJ.at (S p.2) (.inl rfl) (du _) (eI _ _) aG aG ?_
  all_goals simp[cM,aX,aY,aW,cT,b]
 |_=>intro a p he;have d:=du a;simp only[T.mapO,dz]at he;subst he;refine bG.mk mixed a7 Tryz.func146 Cp Ψ d.obj fun l k=>?_;unfold yP;simp[hu,al,cT,b,dd,c];(repeat' first|refine ak ?_|simp[hu,al,cT,b,c]);refine cJ.at (S a) (.inl rfl) d (Same.refl _) aG aG ?_;simp[cM,aX,aY,aW,cT,b]
include du eI aA dd in
theorem aiR(i:α->Prop)(f:Int->α->aZ (Int×α))(q:∀v a p,i a->f v a=some p->i p.2/\0<=p.1/\p.1<=1000000)(z:∀v a p,i a->f v a=some p->bG ar g (.int .i64 v::cW) (S a) fun r e=>r= .int .i64 p.1/\e=S p.2)(t:T):
  ∀a p,i a->t.sizeO f a=some p->i p.2/\(0<=p.1/\p.1<=5001)/\bG ar 158 [t.e,.func g cW] (S a) fun r e=>r= .int .i64 p.1/\e=S p.2:=by
 have b:∀a m,Pv.look (.loc m) (S a).b=none:=fun a=>(du a).obj.1;have hu:∀a m cs,cG (.loc m) cs (S a).b=(S a).b++[(.loc m,cs)]:=fun a m cs=>ku (b a m);have al:∀a m,aB.loc m∉di (S a):=fun a=>kq (du a).obj;induction t with
 |pair x y u s=>
  intro a p hi he;have c:=du a;simp only[T.sizeO,n5]at he;obtain⟨d,J,U⟩:=he;obtain⟨i1,w,g1⟩:=u a d hi J;by_cases o:5000<d.1
  ·rw[if_pos o]at U;cases U;refine⟨i1,w,?_⟩;refine bG.mk mixed a7 Tryz.func158 z8 Ψ c.obj fun k j=>?_;unfold xm;simp[hu,al,cT,b,dd];(repeat' first|refine ak ?_|simp[hu,al,cT,b]);refine cx.ob g1 c aG aG (by simp[aA]) ?_;rintro r e ⟨rfl,rfl⟩;refine⟨eI _ _,?_⟩;simp[hn,iM,bW,b];((with_reducible repeat' first|((first|apply bV|apply b0|apply bZ)<;>intro h<;>try simp at h)|refine ak ?_|simp[hu,al,cT,b])<;>(try contradiction));all_goals first|omega|(refine cJ.at (S p.2) (.inl rfl) (du _) (eI _ _) aG aG ?_;simp[cM,aX,aY,aW])
  ·rw[if_neg o,gI]at U;obtain⟨l,U,rfl⟩:=U;obtain⟨i2,A,g2⟩:=s d.2 l i1 U;refine⟨i2,by simp only;split<;>omega,?_⟩;refine bG.mk mixed a7 Tryz.func158 z8 Ψ c.obj fun k j=>?_;unfold xm;simp[hu,al,cT,b,dd];(with_reducible repeat' first|((first|apply bV|apply b0|apply bZ)<;>intro h<;>try simp at h)|refine ak ?_|simp[hu,al,cT,b]);refine cx.ob g1 c aG aG (by simp[aA]) ?_;rintro r e ⟨rfl,rfl⟩;refine⟨eI _ _,?_⟩;simp[hn,iM,bW,b];((repeat' first|refine ak ?_|simp[hu,al,cT,b]|((first|apply bV|apply b0|apply bZ)<;>intro h<;>try simp at h))<;>(try exact cA));all_goals first|omega|skip
   rw[dd];refine cx.ob g2 (du d.2) aG aG (by simp[aA]) ?_;rintro r s2 ⟨rfl,rfl⟩;refine⟨eI _ _,?_⟩;simp[hn,iM,bW,b];(repeat' first|refine ak ?_|simp[hu,al,cT,b]);refine cJ.at (S l.2) (.inl rfl) (du _) (eI _ _) aG aG ?_;simp[cM,aX,aY,aW]
 |var n=>intro a p hi he;have c:=du a;simp only[T.sizeO,gI]at he;obtain⟨d,J,rfl⟩:=he;have ae:=q n a d hi J;refine⟨ae.1,by simp only;split<;>omega,?_⟩;refine bG.mk mixed a7 Tryz.func158 z8 Ψ c.obj fun k j=>?_;unfold xm;simp[hu,al,cT,b,dd];(repeat' first|refine ak ?_|simp[hu,al,cT,b]);refine cx.ob (z n a d hi J) c aG aG (by simp[aA]) ?_;rintro r e ⟨rfl,rfl⟩;refine⟨eI _ _,?_⟩;simp[hn,iM,bW,b];refine cJ.at (S d.2) (.inl rfl) (du _) (eI _ _) aG aG ?_;simp[cM,aX,aY,aW]
 |_=>intro a p hi he;have c:=du a;simp only[T.sizeO,dz]at he;subst he;refine⟨hi,Ψ,?_⟩;refine bG.mk mixed a7 Tryz.func158 z8 Ψ c.obj fun k j=>?_;unfold xm;simp[hu,al,cT,b,dd];(repeat' first|refine ak ?_|simp[hu,al,cT,b]);refine cJ.at (S a) (.inl rfl) c (Same.refl _) aG aG ?_;simp[cM,aX,aY,aW]
end
end
end Go.Proofs.YtfeencekjcjalaaGreatDoor
namespace Go.Pv
section
open Go Go.RowKit
section
variable {P:cE} {ob:List aB} {st:bn} {Q:Exit->bn->Prop} {c:C} {α:Type}
def eH(b:List Nat)(cs:Nat->α->List (Nat×ah))(n:Nat)(fJ:Nat->α->Prop)(a0:α)(hw:jE ob st (qP st b (cs 0 a0)))(f:fJ 0 a0)(d:∀a,fJ n a->(∀i,eN (get i (qP st b (cs n a)).t))->dh P ob c (bQ ob (AL (fun i a=>qP st b (cs i a)) n fJ) 0 Q) (qP st b (cs n a)))
  (e:∀i a,i<n->fJ i a->(∀j,eN (get j (qP st b (cs i a)).t))->dh P ob c (bQ ob (AL (fun i a=>qP st b (cs i a)) n fJ) (n-i) Q) (qP st b (cs i a))):dh P ob (.loop c) Q st:=
 gb (fun i a=>qP st b (cs i a)) n fJ a0 hw f d e
def xt(b:List Nat)(cs:α->List (Nat×ah))(μ:α->Nat)(fJ:α->Prop)(a0:α)(hw:jE ob st (qP st b (cs a0)))(e:fJ a0)
  (d:∀a,fJ a->(∀j,eN (get j (qP st b (cs a)).t))->dh P ob c (bQ ob (C5 (fun a=>qP st b (cs a)) μ fJ) (μ a) Q) (qP st b (cs a))):dh P ob (.loop c) Q st:=
 mB (fun a=>qP st b (cs a)) μ fJ a0 hw e d
end
attribute [simp] ams
end
end Go.Pv
namespace Go.Proofs.YtfeencekjcjalaaGreatDoor
section
open Go Go.Pv
def NR{α β:Type}(k:aB):∀{l:List (aB×α)} {a:List (aB×β)},l.map (·.1)=a.map (·.1)->(Pv.look k l).isSome=(Pv.look k a).isSome
 |[],[],_=>rfl
 |[],_::_,h=>by simp at h
 |_::_,[],h=>by simp at h
 |(i,x)::r,(j,y)::b,h=>by
  simp only[fG,pA]at h;simp only[Pv.look];obtain⟨rfl,h⟩:=h;split
  ·rfl
  ·exact NR k h
def _root_.Go.Pv.Same.keys{s a:cS}(ae:s.b.map (·.1)=a.b.map (·.1))(he:s.e.map (·.1)=a.e.map (·.1)):Same s a:=⟨fun k=>NR k ae,fun k=>NR k he⟩
section
variable {α:Type} (e:α->ah)
def tH(l:List (Int×α)):List ah:=kL (l.map fun x=>(x.1,e x.2))
def Rh(k:Int):∀l:List (Int×α),yJ k (l.map fun x=>(x.1,e x.2))=(dp k l).map e
 |[]=>rfl
 |(i,v)::r=>by
  simp only[fG,yJ,dp];split
  ·rfl
  ·exact Rh k r
def Rr(k:Int)(v:α):∀l:List (Int×α),qo k (e v) (l.map fun x=>(x.1,e x.2))=if(dp k l).isSome then some ((fa k v l).map fun x=>(x.1,e x.2))else none
 |[]=>rfl
 |(i,w)::r=>by
  simp only[fG,qo,dp,fa];by_cases h:k=i
  ·subst h;simp
  ·simp only[h,if_false,Rr k v r];cases (dp k r).isSome<;>simp
def J3{k:Int}{v:α}:∀{l:List (Int×α)},dp k l=none->fa k v l=l++[(k,v)]
 |[],_=>rfl
 |(i,w)::r,h=>by
  simp only[dp]at h;split at h
  ·cases h
  ·rename_i a;simp[fa,a,J3 h]
def Oc(k:Int)(v:α)(l:List (Int×α)):p5 .i (.int .i64 k) (e v) (tH e l)=some (tH e (fa k v l)):=by
 simp only[tH,YF,GF,Rr];cases h:dp k l with
 |some w=>simp
 |none=>simp[J3 h]
def N7(f:aB->aZ (List ah))(m:aB)(l:List (Int×α))(z:ah)(ok:Bool)(k:Int)(hm:f m=some (tH e l)):pj f .i z ok (.gmap m) (.int .i64 k)=some (True,if ok then .tuple [((dp k l).map e).getD z,.bool (dp k l).isSome]else((dp k l).map e).getD z):=by rw[amd f m _ z ok k hm,Rh];cases dp k l<;>rfl
@[simp]def aw2(l:List (Int×α)):gN (tH e l)=false:=rfl
def ND(S:aB->Prop)(he:∀x,au S (e x))(l:List (Int×α)):ay S (tH e l):=by
 have:∀l:List (Int×α),ay S (lg (l.map fun x=>(x.1,e x.2))):=by
  intro l;induction l with
  |nil=>simp[lg,ay]
  |cons x r a=>simp[lg,ay,a,he]
 simp[tH,kL,ay,this,au]
end
def mj:List (Int×Int)->List ah:=tH (ah.int .i64)
def qN:List (Int×Bool)->List ah:=tH ah.bool
def u4:List (Int×T)->List ah:=tH T.e
@[simp]def awZ(l):gN (mj l)=false:=rfl
@[simp]def awX(l):gN (qN l)=false:=rfl
@[simp]def aw1(l):gN (u4 l)=false:=rfl
@[simp]def avN(S:aB->Prop)(l):ay S (mj l)=True:=eq_true (ND _ S (fun _=>by simp) l)
@[simp]def avM(S:aB->Prop)(l):ay S (qN l)=True:=eq_true (ND _ S (fun _=>by simp) l)
@[simp]def avO(S:aB->Prop)(l):ay S (u4 l)=True:=eq_true (ND _ S (fun _=>by simp) l)
@[simp]def awN(k v:Int)(l):p5 .i (.int .i64 k) (.int .i64 v) (mj l)=some (mj (fa k v l)):=Oc _ k v l
@[simp]def awM(k:Int)(v:Bool)(l):p5 .i (.int .i64 k) (.bool v) (qN l)=some (qN (fa k v l)):=Oc _ k v l
@[simp]def awP(k:Int)(v:T)(l):p5 .i (.int .i64 k) v.e (u4 l)=some (u4 (fa k v l)):=Oc _ k v l
def Fb(a:ka)(z:ah)(ok:Bool)(o:aZ (List ah))(k:ah):aZ (Prop×ah):=pj (fun _=>o) a z ok (.gmap (.loc 0)) k
@[simp]def awK(f:aB->aZ (List ah))(a:ka)(z:ah)(ok:Bool)(m:aB)(k:ah):pj f a z ok (.gmap m) k=Fb a z ok (f m) k:=by simp only[Fb,Yw]
def amf(f:aB->aZ (List ah))(m:aB)(l:List (Int×Int))(ok:Bool)(k:Int)(hm:f m=some (mj l)):pj f .i (.int .i64 0) ok (.gmap m) (.int .i64 k)=some (True,if ok then .tuple [.int .i64 (iL l k),.bool (dp k l).isSome]else .int .i64 (iL l k)):=by rw[N7 _ f m l _ ok k hm];unfold iL;cases dp k l<;>rfl
def ame(f:aB->aZ (List ah))(m:aB)(l:List (Int×Bool))(ok:Bool)(k:Int)(hm:f m=some (qN l)):pj f .i (.bool false) ok (.gmap m) (.int .i64 k)=some (True,if ok then .tuple [.bool ((dp k l).getD false),.bool (dp k l).isSome]else .bool ((dp k l).getD false)):=by rw[N7 _ f m l _ ok k hm];cases dp k l<;>rfl
def abb:ah:= .agg [.int .i64 0,.int .i64 0,.str [],.slice 4 .nil []]
def yu(o:aZ T):ah:=(o.map T.e).getD abb
def amg(f:aB->aZ (List ah))(m:aB)(l:List (Int×T))(ok:Bool)(k:Int)(hm:f m=some (u4 l)):pj f .i (.agg [.int .i64 0,.int .i64 0,.str [],.slice 4 .nil []]) ok (.gmap m) (.int .i64 k)=some (True,if ok then .tuple [yu (dp k l),.bool (dp k l).isSome]else yu (dp k l)):=by rw[N7 _ f m l _ ok k hm];rfl
@[simp]def awI(l:List (Int×Int))(ok:Bool)(k:Int):Fb .i (.int .i64 0) ok (some (mj l)) (.int .i64 k)=some (True,if ok then .tuple [.int .i64 (iL l k),.bool (dp k l).isSome]else .int .i64 (iL l k)):=amf _ _ l ok k rfl
@[simp]def awH(l:List (Int×Bool))(ok:Bool)(k:Int):Fb .i (.bool false) ok (some (qN l)) (.int .i64 k)=some (True,if ok then .tuple [.bool ((dp k l).getD false),.bool (dp k l).isSome]else .bool ((dp k l).getD false)):=ame _ _ l ok k rfl
@[simp]def awJ(l:List (Int×T))(ok:Bool)(k:Int):Fb .i (.agg [.int .i64 0,.int .i64 0,.str [],.slice 4 .nil []]) ok (some (u4 l)) (.int .i64 k)=some (True,if ok then .tuple [yu (dp k l),.bool (dp k l).isSome]else yu (dp k l)):=amg _ _ l ok k rfl
@[simp]def axZ(o:aZ T):de (yu o)=(o.getD .nil).e:=by cases o<;>simp[yu,abb,de,cR]
@[simp]def aww:[ah.hdm 0 []]=kL []:=rfl
def aF:ah:= .eptr (.agg [.gmap (.obj 702),.gmap (.obj 703),.gmap (.obj 704),.gmap (.obj 705),.gmap (.obj 706),.gmap (.obj 707)])
def aE(c:bE):List (aB×List ah):=[(.obj 702,mj c.up),(.obj 703,u4 c.shape),(.obj 704,qN c.shaped),(.obj 705,mj c.color),(.obj 706,mj c.size),(.obj 707,u4 c.full)]
def aP(c:bE):cS:=⟨aE c,[]⟩
def cu(c:bE):ea (aP c):=by unfold aP aE;exact ea.of ⟨by intro m;simp[Pv.look],by intro m;simp[Pv.look]⟩ Ψ Ψ
def Gv(c a:bE):Same (aP c) (aP a):=by
 refine⟨fun k=>?_,fun k=>rfl⟩;simp only[aP,aE,Pv.look];repeat' split
 all_goals rfl
def s9(c:bE)(v r:Int)(d:bE)(he:rt c v=some (r,d)):bG ar 191 [aF,.int .i64 v] (aP c) fun g j=>g= .int .i64 r/\j=aP d:=by
 have f:=cu c;have e:=cu d;have eI:=Gv c d;simp only[rt,gI,hW]at he;obtain⟨⟨i,m1⟩,he,rfl,rfl⟩:=he;unfold aP aE at f e eI⊢;simp only at e eI⊢;unfold aF;refine bG.mk mixed a7 Tryz.func191 anc Ψ f.obj fun l k=>?_;unfold Se;simp;(with_reducible repeat' first|((first|apply bV|apply b0|apply bZ)<;>intro h<;>try simp at h)|refine ak ?_|simp);all_goals
  refine mB (α:=Nat×Int×List (Int×Int)) (fun a=>⟨[(0,aF),(1,.int .i64 a.2.1)],[(.obj 702,mj a.2.2),(.obj 703,u4 c.shape),(.obj 704,qN c.shaped),(.obj 705,mj c.color),(.obj 706,mj c.size),(.obj 707,u4 c.full)],[],0,[.obj 702,.obj 703,.obj 704,.obj 705,.obj 706,.obj 707]⟩) (fun a=>a.1) (fun a=>yn a.1 a.2.2 a.2.1=some (i,m1)) (v.toNat+1,v,AR v c.up) (by simp[AR,h,aF];exact⟨by simp[fresh,ay,au,bX,inObs,Pv.look,aF],dH (by simp[fresh,ay,au,bX,inObs,Pv.look,aF]),dK (by simp[fresh,ay,au,dD,inObs,Pv.look,aF]),Ψ⟩) he ?_
  rintro⟨n,u,m⟩ b ae
  simp only at b ae⊢
  cases n with
  |zero=>simp[yn]at b
  |succ n=>
   simp only[yn]at b
   simp[aF]
   (with_reducible repeat' first|((first|apply bV|apply b0|apply bZ)<;>intro h<;>try simp at h)|refine ak ?_|simp)
   ·rw[if_neg h]at b
    refine bQ.whl (n,iL (fa u (iL m (iL m u)) m) u,fa u (iL m (iL m u)) m) (Nat.lt_succ_self n) b ?_
    simp[aF]
    exact⟨by simp[fresh,ay,au,bX,inObs,Pv.look,aF],dH (by simp[fresh,ay,au,bX,inObs,Pv.look,aF]),dK (by simp[fresh,ay,au,dD,inObs,Pv.look,aF]),Ψ⟩
   ·rw[if_pos h]at b
    cases b
    refine cJ.at _ (.inl rfl) e eI aG aG ?_
    simp[cM,aX,aY,aW]
end
section
open Go Go.Pv
def aiE(c:bE)(v r:Int)(a:bE)(he:rt c v=some (r,a)):bG ar 209 [.int .i64 v,.eptr aF] (aP c) fun e b=>e= .tuple []/\b=aP a:=by have d:=cu c;simp only[aP,aE]at d⊢;refine bG.mk mixed a7 Tryz.func209 am9 Ψ d.obj fun g f=>?_;unfold Sb;simp[aF];(refine cx.ob (s9 c v r a he) bv bi bi ge ?_;rintro r b ⟨rfl,rfl⟩;refine⟨(Same.keys co co),?_⟩;simp[bW,aP,aE,aF]);(refine cJ.at (aP a) Ψ bv (Same.keys co co) bi bi ?_;simp[cM,aX,aY,aW,inObs,Pv.look,aP,aE,aF])
def L9(c:bE)(t:T)(b:bE)(he:Cb t c=some b):bG ar 192 [aF,t.e] (aP c) fun f d=>f= .tuple []/\d=aP b:=by
 have e:=cu c;have key:=L6 aP cu Gv 209 [.eptr aF] (fun a=>by simp[aP,aE,aF,inObs,Pv.look]) rfl (fun(v:Int) (c:bE)=>(rt c v).map Prod.snd) (fun v a bu h=>by rw[gI]at h;obtain⟨⟨r,g⟩,J,rfl⟩:=h;exact aiE a v r g J) t c b he
 simp only[aP,aE]at e⊢;refine bG.mk mixed a7 Tryz.func192 am8 Ψ e.obj fun j i=>?_;unfold Sa;simp[aF];(refine cx.ob (key) bv bi bi ge ?_;rintro r d ⟨rfl,rfl⟩;refine⟨(Same.keys co co),?_⟩;simp[bW,aP,aE,aF]);(refine cJ.at (aP b) Ψ bv (Same.keys co co) bi bi ?_;simp[cM,aX,aY,aW,inObs,Pv.look,aP,aE,aF])
def e8(K:Nat)(a:bE×List (Int×Bool)):cS:=⟨aE a.1++[(.obj K,qN a.2)],[]⟩
def gD(K:Nat)(a:vt):cS:=⟨aE a.c++[(.obj K,qN a.seen),(.obj 712,[.bool a.found])],[]⟩
def z1(K:Nat):Prop:=K=715\/K=716
def iZ{K:Nat}(b:z1 K)(a):ea (e8 K a):=by unfold e8 aE;rcases b with rfl|rfl;all_goals exact ea.of ⟨by intro m;simp[Pv.look],by intro m;simp[Pv.look]⟩ Ψ Ψ
def q3{K:Nat}(b:z1 K)(a):ea (gD K a):=by unfold gD aE;rcases b with rfl|rfl;all_goals exact ea.of ⟨by intro m;simp[Pv.look],by intro m;simp[Pv.look]⟩ Ψ Ψ
def Kr{K:Nat}(a b):Same (gD K a) (gD K b):=by
 refine⟨fun k=>?_,fun k=>rfl⟩;simp only[gD,aE,b3,b6,Pv.look];repeat' split
 all_goals rfl
def aiL{K:Nat}(k:z1 K)(n:Nat)(x:Int)(m:∀t c seen a,qS n x t c seen=some a->bG ar 210 [aF,t.e,.int .i64 x,.gmap (.obj K)] (e8 K (c,seen)) fun r g=>r= .bool a.found/\g=e8 K (a.c,a.seen))
  (v:Int) (a bu:vt) (he:ym (qS n x) x v a=some bu):bG ar 241 [.int .i64 v,.eptr aF,.ptr (.obj 712) 0,.eptr (.int .i64 x),.eptr (.gmap (.obj K))] (gD K a) fun r g=>r= .tuple []/\g=gD K bu:=by
 have l:=q3 k a;simp only[ym,n5]at he;obtain⟨⟨r,b⟩,J,U⟩:=he;simp only at U;have o:=k;rcases o with rfl|rfl;all_goals
  simp only[gD,aE,b3,b6]at l⊢
  refine bG.mk mixed a7 Tryz.func241 anb Ψ l.obj fun u s=>?_;unfold Sd
  simp[aF]
  (refine cx.ob (s9 a.c v r b J) bv bi bi ge ?_;rintro r g ⟨rfl,rfl⟩;refine⟨(Same.keys co co),?_⟩;simp[bW,aP,aE,aF])
  obtain⟨ac,e,q⟩:=a
  cases q with
  |true=>
   simp at U;subst U
   (repeat' first|refine ak ?_|simp)
   (refine cJ.at (gD _ ⟨b,e,true⟩) Ψ m9 (Same.keys pk pk) g9 g9 ?_;simp[cM,aX,aY,aW,inObs,Pv.look,gD,aE,aF])
  |false=>
   by_cases h:r=x
   ·simp[h]at U;subst U
    (repeat' first|refine ak ?_|simp[h])
    (refine cJ.at (gD _ ⟨b,e,true⟩) Ψ m9 (Same.keys pk pk) g9 g9 ?_;simp[cM,aX,aY,aW,inObs,Pv.look,gD,aE,aF])
   ·have i:(r==x)=false:=by simp[h]
    simp only[h,hI,or_self,if_false]at U
    cases d:(dp r e).getD false with
    |true=>
     simp[d]at U;subst U
     (repeat' first|refine ak ?_|simp[i,d])
     (refine cJ.at (gD _ ⟨b,e,false⟩) Ψ m9 (Same.keys pk pk) g9 g9 ?_;simp[cM,aX,aY,aW,inObs,Pv.look,gD,aE,aF])
    |false=>
     cases f:b.shd r with
     |false=>
      have j:(dp r b.shaped).getD false=false:=f
      simp[d,f]at U;subst U
      (repeat' first|refine ak ?_|simp[i,d,j])
      (refine cJ.at (gD _ ⟨b,e,false⟩) Ψ m9 (Same.keys pk pk) g9 g9 ?_;simp[cM,aX,aY,aW,inObs,Pv.look,gD,aE,aF])
     |true=>
      have j:(dp r b.shaped).getD false=true:=f
      simp[d,f]at U
      have p:=m _ _ _ _ U
      (repeat' first|refine ak ?_|simp[i,d,j])
      (refine iY.ob (p) gt gt (Same.keys pu pu) i8 i8 ut ?_;simp[bW,e8,aE,aF])
      (repeat' first|refine ak ?_|simp)
      (refine cJ.at (gD _ bu) Ψ m9 (Same.keys pk pk) g9 g9 ?_;simp[cM,aX,aY,aW,inObs,Pv.look,gD,aE,aF])
def Hu{K:Nat}(b:z1 K)(x:Int)(n:Nat):∀(t:T) (c:bE) (seen:List (Int×Bool)) (a:vt),qS n x t c seen=some a->bG ar 210 [aF,t.e,.int .i64 x,.gmap (.obj K)] (e8 K (c,seen)) fun r d=>r= .bool a.found/\d=e8 K (a.c,a.seen):=by
 induction n with
 |zero=>intro t c seen a h;simp[qS]at h
 |succ n f=>
  intro t c seen a h;simp only[qS]at h;have e:=iZ b (c,seen);have key:=L6 (gD K) (q3 b) Kr 241 [.eptr aF,.ptr (.obj 712) 0,.eptr (.int .i64 x),.eptr (.gmap (.obj K))] (fun a=>by rcases b with rfl|rfl<;>simp[gD,aE,aF,inObs,Pv.look]) rfl (ym (qS n x) x) (fun v a bu h=>aiL b n x f v a bu h) t ⟨c,seen,false⟩ a h;have g:=b;rcases g with rfl|rfl;all_goals
   simp only[e8,aE,b3,b6]at e⊢
   refine bG.mk mixed a7 Tryz.func210 ana Ψ e.obj fun j i=>?_;unfold Sc
   simp[aF]
   refine cx.new key (q3 b _) g9 g9 (by simp[inObs,Pv.look,gD,aE,aF]) ?_
   rintro r d ⟨rfl,rfl⟩
   refine⟨fun m hm=>.inl ⟨?_,Kr _ _⟩,?_⟩
   ·exact((Kr _ _).inObs _).2 hm
   simp[bW,gD,aE]
   (repeat' first|refine ak ?_|simp)
   (refine cJ.at (e8 _ (a.c,a.seen)) Ψ gt (Same.keys pu pu) i8 i8 ?_;simp[cM,aX,aY,aW,inObs,Pv.look,e8,aE,aF])
end
end Go.Proofs.YtfeencekjcjalaaGreatDoor
