/- Contracts: solutions of states. -/
import Derived.Lib.OwnBridge
import Derived.Shelf.GgSortMore.Stable
import Derived.Shelf.GgSortFunc.SmallK
import Derived.Shelf.GgSortFunc.Slice
import Derived.Ground.GgsProg
import Derived.Test.YtahlgcidhnjlbaaGreatProg
import Derived.ProofKit
import Derived.Carry
import Derived.WalkKit
import Derived.Deep.Slices
import Derived.Test.YtahlgcidhnjlbaaGreatRows
import Derived.Test.YtahlgcidhnjlbaaGreatP2
set_option linter.all false
set_option maxHeartbeats 4000000
set_option maxRecDepth 4000
open Array renaming getElem?_toList->nV
open Bool renaming and_eq_true->bN,false_eq_true->hX
open Go renaming Program->bp,TypeId->ey
open Go.Extern.ReflectliteSwapper renaming swap->CF,swapper->XW
open Go.Extern.ReflectliteValue renaming len->XX,method->XY,unpack->TR,valueError->TS
open Go.Extern.Rtype renaming kind->TT
open Go.IntKind renaming i64->nW
open Go.Proofs.Tryz renaming f3->hn,prog->aG
open Go.Proofs.YtahlgcidhnjlbaaGreat.Rows renaming fnExactGroundInstancesRow->gF,fnExactGroundInstancesSpec->mX
open Go.Result renaming andThen_ok->dV
open Go.Sem renaming run_bind->dQ,run_pure->eP
open Go.Value renaming cells->jV
open Go.Value.slice renaming injEq->X1
open List renaming drop_eq_getElem_cons->l9,getElem?_append_left->ks,getElem?_eq_getElem->cl,getElem?_eq_some_iff->eQ,length->lE,length_append->kt,length_cons->jX,length_map->k8,map_cons->gG,mem_append->lF,mem_cons->gw,mem_map->k9,mem_of_getElem?->mY,nodup_append->ma,take_of_length_le->lG
open List.Pairwise renaming map->X4
open List.cons renaming injEq->JY
open Nat renaming add_mul->ku,le_refl->di,le_trans->jB,mul_le_mul_right->kv
open Option renaming isSome_iff_exists->dt
open Option.some renaming inj->jg,injEq->dq
open Prod.mk renaming injEq->ho
open _root_ renaming False->c1,Option->aT,UInt8->cF,beq_iff_eq->c2,congrArg->eR,decide_eq_true_eq->e3,if_neg->bH
namespace Go.Proofs.YtahlgcidhnjlbaaGreat
section
open Go Go.Pv
variable {α:Type} {S:List α->b1} {n g cv:Nat} {lc cr:List aa} {lt:α->α->Bool}
def SP(lt:α->α->Bool)(l:List α)(mid m s0 r0:Nat)(x:Nat×Nat):Prop:=s0<=x.1/\x.1<=x.2/\x.2<=r0/\(x.1=s0\/ ∃u v,l[x.1-1]? =some u/\l[mid+m-x.1]? =some v/\lt v u=false)/\(x.2=r0\/ ∃u v,l[x.2]? =some u/\l[mid+m-x.2-1]? =some v/\lt v u=true)
attribute [local simp] kJ
def vg(S:List α->b1)(n g cv:Nat)(lc cr:List aa)(lt:α->α->Bool)(d:Nat):Prop:=
 ∀(l:List α) (a m b:Nat),l.length=n->b-a<=d->a<m->m<b->b<=n->dD lt a m l->dD lt m b l->
  cf aG 232 [h1 g cv lc cr,aB a,aB m,aB b] (S l) fun r e=>r= .tuple []/\∃c,e=S c/\eC a b l c/\dD lt a b c
def vh(S:List α->b1)(g cv:Nat)(lc cr:List aa)(lt:α->α->Bool)(a b:Nat)(l:List α)(Q:Exit->aN->Prop):Prop:=∀c t o,eC a b l c->dD lt a b c->Q .normal ⟨t,(.loc 0,[.func g lc,.func cv cr])::(S c).b,(S c).e,1,o⟩
section
variable {a m b mid i e d:Nat} {l:List α} {t:List (Nat×aa)} {o:List ar} {ob:List ar} {Q:Exit->aN->Prop}
def SD(H:hr S n g cv lc cr lt)(q:vg S n g cv lc cr lt d)(t3:Pv.get 3 t=aB b)(t4:Pv.get 4 t= .ptr (.loc 0) 0)(t16:Pv.get 16 t=aB mid)(t22:Pv.get 22 t=aB e)(c:l.length=n)(I:mid<=e)(J:e<=b)(r:b<=n)(s:b-mid<=d)(m:dD lt mid e l)(k:dD lt e b l)(i:vh S g cv lc cr lt mid b l Q):
  b5 aG ob vx Q ⟨t,(.loc 0,[.func g lc,.func cv cr])::(S l).b,(S l).e,1,o⟩:=by
 unfold vx;by_cases a:mid<e/\e<b
 ·simp[t3,t4,t16,t22,a.1,a.2,ab];simp only[nR H,H.slc,H.ssc,ng];refine H.doFn c (q l mid e b c s a.1 a.2 r m k) (fun w h=>by rw[h.1.length];exact c) (by simp[aV,aR,H.kdata c]) ?_;rintro v ⟨p,z2⟩;simp;exact i _ _ _ p z2
 ·have j:dD lt mid b l:=by
   by_cases f:mid<e
   ·rwa[show e=b by omega]at m
   ·rwa[show e=mid by omega]at k
  by_cases f:mid<e
  ·have u:¬e<b:=Ω
   simp[t3,t16,t22,f,u];exact i _ _ _ (.refl _) j
  ·simp[t16,t22,f];exact i _ _ _ (.refl _) j
def SE(H:hr S n g cv lc cr lt)(A:vg S n g cv lc cr lt d)(t1:Pv.get 1 t=aB a)(t3:Pv.get 3 t=aB b)(t4:Pv.get 4 t= .ptr (.loc 0) 0)(t16:Pv.get 16 t=aB mid)(t18:Pv.get 18 t=aB i)(t22:Pv.get 22 t=aB e)(j:l.length=n)(W:a<=i/\i<=mid/\a<=m)(I:mid<=e)(J:e<=b)(O:b<=n)(R:b-mid<=d)(F:mid-a<=d)(f:vb lt a i m e b mid l)(G:vh S g cv lc cr lt a b l Q):
  b5 aG ob vz Q ⟨t,(.loc 0,[.func g lc,.func cv cr])::(S l).b,(S l).e,1,o⟩:=by
 unfold vz;have next:∀{r t o},Pv.get 3 t=aB b->Pv.get 4 t= .ptr (.loc 0) 0->Pv.get 16 t=aB mid->Pv.get 22 t=aB e->r.length=n->eC a mid l r->dD lt a mid r->b5 aG ob vx Q ⟨t,(.loc 0,[.func g lc,.func cv cr])::(S r).b,(S r).e,1,o⟩:=fun N U P M E c k=>by
  refine SD H A N U P M E I J O R (fun p q x y I J z s u=>?_) (fun p q x y I J z s u=>?_) fun K t o B L=>?_
  ·rw[c.out _ (.inr I)]at s;rw[c.out _ (.inr Ω)]at u;exact f.s3 p q x y I J z s u
  ·rw[c.out _ (.inr Ω)]at s;rw[c.out _ (.inr Ω)]at u;exact f.s4 p q x y I J z s u
  ·exact G K t o ((c.mono Ω Ω).trans (B.mono Ω Ω)) (QF Ω c k B L f.cross)
 by_cases v:a<i/\i<mid
 ·simp[t1,t4,t16,t18,v.1,v.2,ab];simp only[nR H,H.slc,H.ssc,ng];refine H.doFn j (A l a i mid j F v.1 v.2 Ω f.s1 f.s2) (fun X h=>by rw[h.1.length];exact j) (by simp[aV,aR,H.kdata j]) ?_;rintro r ⟨c,k⟩;simp;exact next (by simp[t3]) (by simp[t4]) (by simp[t16]) (by simp[t22]) (by rw[c.length];exact j) c k
 ·have k:dD lt a mid l:=by
   by_cases w:a<i
   ·have:=f.s1;rwa[show i=mid by omega]at this
   ·have:=f.s2;rwa[show i=a by omega]at this
  by_cases w:a<i
  ·have V:¬i<mid:=Ω
   simp[t1,t16,t18,w,V];exact next (by simp[t3]) (by simp[t4]) (by simp[t16]) (by simp[t22]) j (.refl _) k
  ·simp[t1,t18,w];exact next (by simp[t3]) (by simp[t4]) (by simp[t16]) (by simp[t22]) j (.refl _) k
def SF(H:hr S n g cv lc cr lt)(F:vg S n g cv lc cr lt d)(t1:Pv.get 1 t=aB a)(t2:Pv.get 2 t=aB m)(t3:Pv.get 3 t=aB b)(t4:Pv.get 4 t= .ptr (.loc 0) 0)(t16:Pv.get 16 t=aB mid)(t18:Pv.get 18 t=aB i)(t22:Pv.get 22 t=aB e)(f:l.length=n)(E:a<=i/\i<=mid/\a<=m)(I:mid<=e)(J:e<=b)(L:b<=n)(N:b-mid<=d)(w:mid-a<=d)(u:∀c:List α,(∀k,c[k]? =l[fv i m e k]?)->vb lt a i m e b mid c)(x:vh S g cv lc cr lt a b l Q):
  b5 aG ob yN Q ⟨t,(.loc 0,[.func g lc,.func cv cr])::(S l).b,(S l).e,1,o⟩:=by
 unfold yN;have next:∀{c t o},Pv.get 1 t=aB a->Pv.get 3 t=aB b->Pv.get 4 t= .ptr (.loc 0) 0->Pv.get 16 t=aB mid->Pv.get 18 t=aB i->Pv.get 22 t=aB e->c.length=n->vb lt a i m e b mid c->eC a b l c->b5 aG ob vz Q ⟨t,(.loc 0,[.func g lc,.func cv cr])::(S c).b,(S c).e,1,o⟩:=fun K O M G z A y p v=>SE H F K O M G z A y E I J L N w p fun B t o q r=>x B t o (v.trans q) r
 by_cases j:i<m/\m<e
 ·simp[t2,t4,t18,t22,j.1,j.2,ab];simp only[nR H,H.slc,H.ssc,ng];refine H.doFn f (NJ H l f i m e j.1 j.2 Ω) (fun R h=>by rw[h.1.length];exact f) (by simp[aV,aR,H.kdata f]) ?_;rintro c ⟨q,r⟩;simp;exact next (by simp[t1]) (by simp[t3]) (by simp[t4]) (by simp[t16]) (by simp[t18]) (by simp[t22]) (by rw[q.length];exact f) (u c r) (q.mono Ω Ω)
 ·have p:=u l (fun k=>by
   congr 1;simp only[fv];repeat' split
   all_goals omega)
  by_cases s:i<m
  ·have P:¬m<e:=Ω
   simp[t2,t18,t22,s,P];exact next (by simp[t1]) (by simp[t3]) (by simp[t4]) (by simp[t16]) (by simp[t18]) (by simp[t22]) f p (.refl _)
  ·simp[t2,t18,s];exact next (by simp[t1]) (by simp[t3]) (by simp[t4]) (by simp[t16]) (by simp[t18]) (by simp[t22]) f p (.refl _)
def IX{s:List (ar×List aa)}(H:hr S n g cv lc cr lt)(L:ab (.loc 0) s=some [.func g lc,.func cv cr])(P:∀k cs,ab k (S l).b=some cs->ab k s=some cs)(Y:lI lt)(X:vg S n g cv lc cr lt d){s0 r0:Nat}(t1:Pv.get 1 t=aB a)(t2:Pv.get 2 t=aB m)(t3:Pv.get 3 t=aB b)(t4:Pv.get 4 t= .ptr (.loc 0) 0)(t16:Pv.get 16 t=aB mid)(t17:Pv.get 17 t=aB ((mid:Int)+m))(t18:Pv.get 18 t=aB s0)(t19:Pv.get 19 t=aB r0)(f:l.length=n)(bg:a<m/\m<b/\mid=(a+b)/2)(I:mid<m/\s0=mid+m-b/\r0=mid\/m<=mid/\s0=a/\r0=m)(af:b<=n)(aL:b-a<=d+1)(M:dD lt a m l)(N:dD lt m b l)(O:vh S g cv lc cr lt a b l Q):
  b5 aG (b2 (S l)) yO Q ⟨t,s,(S l).e,1,o⟩:=by
 have hle:=H.le;unfold yO;simp[t17];(repeat' first|refine aS ?_|simp[t17]);refine lg (fun(x:Nat×Nat)=>⟨[(1,aB a),(2,aB m),(3,aB b),(4,.ptr (.loc 0) 0),(16,aB mid),(17,aB (mid+m)),(20,aB (mid+m-1)),(18,aB x.1),(19,aB x.2)],(.loc 0,[.func g lc,.func cv cr])::(S l).b,(S l).e,1,b2 (S l)⟩) (fun x=>x.2-x.1)
  (SP lt l mid m s0 r0) (s0,r0) (H.weak f f (by simp[aR,t1,t2,t3,t4,t16,t17,t18,t19]) L P fun _ _ h=>h) ⟨Ψ,by simp;omega,Ψ,.inl rfl,.inl rfl⟩ ?_
 rintro⟨i,j⟩ ⟨K,W,J,q,p⟩ _;simp only at K W J q p;have E:=wk i j Ω;by_cases G:i<j
 ·simp[G];(repeat' first|refine aS ?_|simp[ab]);obtain⟨c,aA⟩:∃c,c=(i+j)/2:=⟨_,rfl⟩;rw[<-aA]at E;simp only[E];(repeat' first|refine aS ?_|simp[ab]);obtain⟨u,B⟩:∃u,l[c]? =some u:=⟨_,cl Ω⟩;obtain⟨v,r⟩:∃v,l[mid+m-1-c]? =some v:=⟨_,cl Ω⟩;have Z:((mid:Int)+m-1-c)=(mid+m-1-c:Nat):=Ω
  simp only[H.slc,Z];refine H.doLess f (mid+m-1-c) c r B ?_;simp;cases F:lt v u with
  |false=>simp;(repeat' first|refine aS ?_|simp);refine cP.whl (c+1,j) (by simp;omega) ⟨by simp;omega,by simp;omega,J,.inr ⟨u,v,by simpa using B,?_,F⟩,p⟩ (H.weakC f f (by simp[aR]));simp only;rw[show mid+m-(c+1)=mid+m-1-c by omega];exact r
  |true=>simp;(repeat' first|refine aS ?_|simp);refine cP.whl (i,c) (by simp;omega) ⟨K,by simp;omega,by simp;omega,q,.inr ⟨u,v,B,?_,F⟩⟩ (H.weakC f f (by simp[aR]));simp only;rw[show mid+m-c-1=mid+m-1-c by omega];exact r
 ·obtain rfl:i=j:=Ω
  obtain⟨e,he⟩:∃e,e=mid+m-i:=⟨_,rfl⟩;have R:((mid:Int)+m-i)=(e:Nat):=Ω
  have U:i=a\/e=b\/ ∃x y,l[i-1]? =some x/\l[e]? =some y/\lt y x=false:=by
   rcases q with q|⟨u,v,A,z,w⟩
   ·omega
   ·exact .inr (.inr ⟨u,v,A,by rw[he];exact z,w⟩)
  have V:i=m\/e=m\/ ∃x y,l[i]? =some x/\l[e-1]? =some y/\lt y x=true:=by
   rcases p with p|⟨u,v,A,z,w⟩
   ·omega
   ·exact .inr (.inr ⟨u,v,A,by rw[he];exact z,w⟩)
  simp[G];(repeat' first|refine aS ?_|simp);rw[R];exact SF H X (a:=a) (m:=m) (b:=b) (mid:=mid) (i:=i) (e:=e) Ψ Ψ Ψ Ψ Ψ Ψ Ψ f Ω Ω Ω af Ω Ω (fun bs aq=>QE Y Ω Ω Ω Ω Ω Ω M N U V aq) O
end
def E9(H:hr S n g cv lc cr lt)(q:lI lt)(d:Nat):∀(l:List α) (a m b:Nat),l.length=n->b-a<=d->a<m->m<b->b<=n->dD lt a m l->dD lt m b l->
  cf aG 232 [h1 g cv lc cr,aB a,aB m,aB b] (S l) fun r ak=>r= .tuple []/\∃Z,ak=S Z/\eC a b l Z/\dD lt a b Z:=by
 induction d with
 |zero=>intro l a m b f Y R Q;omega
 |succ d bF=>
 intro l a m b f Y R Q af L M;have aj:=H.ok l;have v:∀l m,ab (.loc m) (S l).b=none:=fun l=>(H.ok l).obj.1;have hu:∀l m cs,bW (.loc m) cs (S l).b=(S l).b++[(.loc m,cs)]:=fun l m cs=>o7 (v l m);have ag:∀m,ar.loc m∉b2 (S l):=pO aj.obj;have hle:=H.le;refine cf.mk mixed bC Tryz.func232 RB Ψ aj.obj fun bm eo=>?_;unfold DM;simp[h1,hu,ag,dM,v];(with_reducible repeat' first|((first|apply cN|apply cT|apply cS)<;>intro h<;>try simp at h)|refine aS ?_|simp[hu,ag,dM,v])
 ·obtain rfl:m=a+1:=Ω
  have Ao:∀k,fv a (a+1) (a+1) k=k:=by
   intro k;simp only[fv];repeat' split
   all_goals omega
  obtain⟨z,N⟩:∃z,l[a]? =some z:=⟨_,cl Ω⟩;refine lg (fun(x:Nat×Nat)=>⟨[(1,aB a),(4,.ptr (.loc 0) 0),(8,aB x.1),(9,aB x.2)],(.loc 0,[.func g lc,.func cv cr])::(S l).b,(S l).e,1,b2 (S l)⟩) (fun x=>x.2-x.1)
   (fun x=>a+1<=x.1/\x.1<=x.2/\x.2<=b/\(∀h y,a+1<=h->h<x.1->l[h]? =some y->lt y z=true)/\(∀h y,x.2<=h->h<b->l[h]? =some y->lt y z=false)) (a+1,b)
   (H.weak f f (by simp[aR]) (by simp[dM,v]) bU bU) ⟨Ψ,by simp;omega,Ψ,fun h y I J=>by simp at J;omega,fun h y I J=>by simp at I;omega⟩ ?_
  rintro⟨i,j⟩ ⟨P,W,B,A,w⟩ _;simp only at P W B A w;have hw:=wk i j Ω;simp[ab];(with_reducible repeat' first|((first|apply cN|apply cT|apply cS)<;>intro h<;>try simp at h)|refine aS ?_|simp[ab])
  ·obtain⟨c,aA⟩:∃c,c=(i+j)/2:=⟨_,rfl⟩;rw[<-aA]at hw;obtain⟨y,G⟩:∃y,l[c]? =some y:=⟨_,cl Ω⟩;simp only[hw,H.slc];refine H.doLess f c a G N ?_;simp;cases K:lt y z with
   |true=>
    simp;(repeat' first|refine aS ?_|simp);refine cP.whl (c+1,j) (by simp;omega) ⟨by simp;omega,by simp;omega,B,fun h u I J hu=>?_,w⟩ (H.weakC f f (by simp[aR]));cases e:lt u z with
    |true=>rfl
    |false=>simp only at J;have:=q.ntr _ _ _ e (dD.le q M I Ω Ω hu G);rw[K]at this;cases this
   |false=>simp;(repeat' first|refine aS ?_|simp);refine cP.whl (i,c) (by simp;omega) ⟨P,by simp;omega,by simp;omega,A,fun h u I J hu=>?_⟩ (H.weakC f f (by simp[aR]));exact q.ntr _ _ _ K (dD.le q M Ω I J G hu)
  ·obtain rfl:i=j:=Ω
   refine lg (fun(x:Nat×List α)=>⟨[(4,.ptr (.loc 0) 0),(8,aB i),(11,aB x.1)],(.loc 0,[.func g lc,.func cv cr])::(S x.2).b,(S x.2).e,1,b2 (S l)⟩) (fun x=>i-x.1)
    (fun x=>x.2.length=n/\a<=x.1/\x.1<i/\eC a b l x.2/\∀k,x.2[k]? =l[fv a (a+1) (x.1+1) k]?) (a,l)
    (H.weakC f f (by simp[aR])) ⟨f,Ψ,by simp;omega,.refl _,fun k=>by simp[Ao]⟩ ?_
   rintro⟨k,O⟩ ⟨p,F,V,E,s⟩ _;simp only at p F V E s;simp[ab];((repeat' first|refine aS ?_|simp[ab]|((first|apply cN|apply cT|apply cS)<;>intro h<;>try simp at h))<;>(try exact ev))
   ·have X:((k:Int)+1)=(k+1:Nat):=Ω
    rw[H.ssc,X];refine H.doSwap p k (k+1) Ω Ω Ω ?_;simp;(with_reducible repeat' first|((first|apply cN|apply cT|apply cS)<;>intro h<;>try simp at h)|refine aS ?_|simp);refine cP.whl (k+1,fE O k (k+1)) (by simp;omega) ⟨by simp[p],by simp;omega,by simp;omega,.step E Ω Ω Ω Ω Ω Ω,fun t=>?_⟩ (H.weakC f (by simp[p]) (by simp[aR]));rw[sg _ _ _ _ Ω Ω,s,s,s];have:fv a (a+1) (k+1+1) t=if t=k then fv a (a+1) (k+1) (k+1)else if t=k+1 then fv a (a+1) (k+1) k else fv a (a+1) (k+1) t:=by
     simp only[fv];repeat' split
     all_goals omega
    rw[this];split
    ·rfl
    ·split<;>rfl
   ·obtain rfl:i=k+1:=Ω
    refine H.ret f p (.inl rfl) ⟨rfl,O,rfl,E,QA q Ω B Ω M N A w s⟩
 ·obtain rfl:b=m+1:=Ω
  have Ao:∀k,fv m m (m+1) k=k:=by
   intro k;simp only[fv];repeat' split
   all_goals omega
  obtain⟨z,N⟩:∃z,l[m]? =some z:=⟨_,cl Ω⟩;refine lg (fun(x:Nat×Nat)=>⟨[(2,aB m),(4,.ptr (.loc 0) 0),(12,aB x.1),(13,aB x.2)],(.loc 0,[.func g lc,.func cv cr])::(S l).b,(S l).e,1,b2 (S l)⟩) (fun x=>x.2-x.1)
   (fun x=>a<=x.1/\x.1<=x.2/\x.2<=m/\(∀h y,a<=h->h<x.1->l[h]? =some y->lt z y=false)/\(∀h y,x.2<=h->h<m->l[h]? =some y->lt z y=true)) (a,m)
   (H.weak f f (by simp[aR]) (by simp[dM,v]) bU bU) ⟨Ψ,by simp;omega,Ψ,fun h y I J=>by simp at J;omega,fun h y I J=>by simp at I;omega⟩ ?_
  rintro⟨i,j⟩ ⟨P,W,B,A,w⟩ _;simp only at P W B A w;have hw:=wk i j Ω;simp[ab];(with_reducible repeat' first|((first|apply cN|apply cT|apply cS)<;>intro h<;>try simp at h)|refine aS ?_|simp[ab])
  ·obtain⟨c,aA⟩:∃c,c=(i+j)/2:=⟨_,rfl⟩;rw[<-aA]at hw;obtain⟨y,G⟩:∃y,l[c]? =some y:=⟨_,cl Ω⟩;simp only[hw,H.slc];refine H.doLess f m c N G ?_;simp;cases K:lt z y with
   |false=>simp;((repeat' first|refine aS ?_|simp|((first|apply cN|apply cT|apply cS)<;>intro h<;>try simp at h))<;>(try exact ev));refine cP.whl (c+1,j) (by simp;omega) ⟨by simp;omega,by simp;omega,B,fun h u I J hu=>?_,w⟩ (H.weakC f f (by simp[aR]));simp only at J;exact q.ntr _ _ _ (dD.le q L I Ω Ω hu G) K
   |true=>
    simp;((repeat' first|refine aS ?_|simp|((first|apply cN|apply cT|apply cS)<;>intro h<;>try simp at h))<;>(try exact ev));refine cP.whl (i,c) (by simp;omega) ⟨P,by simp;omega,by simp;omega,A,fun h u I J hu=>?_⟩ (H.weakC f f (by simp[aR]));cases e:lt z u with
    |true=>rfl
    |false=>have:=q.ntr _ _ _ (dD.le q L Ω I J G hu) e;rw[K]at this;cases this
  ·obtain rfl:i=j:=Ω
   refine lg (fun(x:Nat×List α)=>⟨[(4,.ptr (.loc 0) 0),(12,aB i),(15,aB x.1)],(.loc 0,[.func g lc,.func cv cr])::(S x.2).b,(S x.2).e,1,b2 (S l)⟩) (fun x=>x.1)
    (fun x=>x.2.length=n/\i<=x.1/\x.1<=m/\eC a (m+1) l x.2/\∀k,x.2[k]? =l[fv x.1 m (m+1) k]?) (m,l)
    (H.weakC f f (by simp[aR])) ⟨f,by simp;omega,Ψ,.refl _,fun k=>by simp[Ao]⟩ ?_
   rintro⟨k,O⟩ ⟨p,F,V,E,s⟩ _;simp only at p F V E s;simp[ab];((repeat' first|refine aS ?_|simp[ab]|((first|apply cN|apply cT|apply cS)<;>intro h<;>try simp at h))<;>(try exact ev))
   ·have X:((k:Int)-1)=(k-1:Nat):=Ω
    rw[H.ssc,X];refine H.doSwap p k (k-1) Ω Ω Ω ?_;simp;(repeat' first|refine aS ?_|simp);refine cP.whl (k-1,fE O k (k-1)) (by simp;omega) ⟨by simp[p],by simp;omega,by simp;omega,.step E Ω Ω Ω Ω Ω Ω,fun t=>?_⟩ (H.weakC f (by simp[p]) (by simp[aR];omega));rw[sg _ _ _ _ Ω Ω,s,s,s];have:fv (k-1) m (m+1) t=if t=k then fv k m (m+1) (k-1)else if t=k-1 then fv k m (m+1) k else fv k m (m+1) t:=by
     simp only[fv];repeat' split
     all_goals omega
    rw[this];split
    ·rfl
    ·split<;>rfl
   ·obtain rfl:i=k:=Ω
    refine H.ret f p (.inl rfl) ⟨rfl,O,rfl,E,QB q Ω B Ω L N A w s⟩
 ·obtain⟨mid,Ab⟩:∃mid,mid=(a+b)/2:=⟨_,rfl⟩;have hw:=wk a b Ω;rw[<-Ab]at hw;simp only[hw];(with_reducible repeat' first|((first|apply cN|apply cT|apply cS)<;>intro h<;>try simp at h)|refine aS ?_|simp[hu,ag,dM,v])
  ·exact IX (s0:=mid+m-b) (r0:=mid) H (by simp[dM,v]) bU q bF (a:=a) (m:=m) (b:=b) (mid:=mid) Ψ Ψ Ψ Ψ Ψ Ψ (by simp;omega) Ψ f ⟨R,Q,Ab⟩ Ω af Y L M fun U t o p F=>H.ret f (by rw[p.length];exact f) (.inr rfl) ⟨rfl,U,rfl,p,F⟩
  ·exact IX (s0:=a) (r0:=m) H (by simp[dM,v]) bU q bF (a:=a) (m:=m) (b:=b) (mid:=mid) Ψ Ψ Ψ Ψ Ψ Ψ Ψ Ψ f ⟨R,Q,Ab⟩ Ω af Y L M fun U t o p F=>H.ret f (by rw[p.length];exact f) (.inr rfl) ⟨rfl,U,rfl,p,F⟩
end
section
open Go Go.Pv
variable {α:Type} {S:List α->b1} {n g cv:Nat} {lc cr:List aa} {lt:α->α->Bool}
def kx(lt:α->α->Bool)(z a b:Nat)(l:List α):Prop:= ∀i j x y,a<=i->i<j->j<b->i/z=j/z->l[i]? =some x->l[j]? =some y->lt y x=false
def kx.snoc{z q:Nat}(f:0<z){l d:List α}(h:kx lt z 0 (q*z) l){b:Nat}(g:eC (q*z) b l d)(J:dD lt (q*z) b d):kx lt z 0 b d:=by
 intro i j x y az e m n a c;by_cases k:j<q*z
 ·rw[g.out _ (.inl Ω)]at a;rw[g.out _ (.inl k)]at c;exact h i j x y az e k n a c
 ·have p:q<=j/z:=(Nat.le_div_iff_mul_le f).2 Ω;have o:q*z<=i:=(Nat.le_div_iff_mul_le f).1 Ω;exact J i j x y o e m a c
def kx.srt{z q:Nat}(m:0<z){l:List α}{a b:Nat}(h:kx lt z a b l){c:Nat}(p:a<=q*z)(aA:c<=(q+1)*z)(o:c<=b):dD lt (q*z) c l:=by intro i j x y az d n e f;have g:i/z=q:=Nat.div_eq_of_lt_le az Ω;have k:j/z=q:=Nat.div_eq_of_lt_le Ω Ω;exact h i j x y Ω d Ω Ω e f
def kx.after{z a b bG dR:Nat}{l f:List α}(h:kx lt z a b l)(c:eC a bG l f)(m:a<=bG)(o:dR<=b):kx lt z bG dR f:=by intro i j x y az g n k d e;rw[c.out _ (.inr Ω)]at d;rw[c.out _ (.inr Ω)]at e;exact h i j x y Ω g Ω k d e
def zu(H:hr S n g cv lc cr lt)(L:lI lt)(l:List α)(f:l.length=n):
  cf aG 199 [h1 g cv lc cr,aB n] (S l) fun r ak=>r= .tuple []/\∃b,ak=S b/\eC 0 n l b/\dD lt 0 n b:=by
 have Z:=H.ok l;have U:∀l m,ab (.loc m) (S l).b=none:=fun l=>(H.ok l).obj.1;have hu:∀l m cs,bW (.loc m) cs (S l).b=(S l).b++[(.loc m,cs)]:=fun l m cs=>o7 (U l m);have ag:∀m,ar.loc m∉b2 (S l):=pO Z.obj;have hle:=H.le;refine cf.mk mixed bC Tryz.func199 Rz Ψ Z.obj fun bm eo=>?_;unfold DK;simp[h1,hu,ag,dM,U];refine lg (fun(x:Nat×List α)=>⟨[(1,aB n),(2,.ptr (.loc 0) 0),(4,aB 20),(5,aB (x.1*20)),(6,aB (x.1*20+20))],(.loc 0,[.func g lc,.func cv cr])::(S x.2).b,(S x.2).e,1,b2 (S l)⟩) (fun x=>n+20-x.1*20)
  (fun x=>x.2.length=n/\x.1*20<=n/\eC 0 n l x.2/\kx lt 20 0 (x.1*20) x.2) (0,l)
  (H.weak f f (by simp[aR]) (by simp[dM,U]) bU bU) ⟨f,Ψ,.refl _,fun i j x y I J k=>by simp at k⟩ ?_
 rintro⟨q,Y⟩ ⟨I,J,k,V⟩ _;simp only at I J k V;simp[ab];((repeat' first|refine aS ?_|simp[ab]|((first|apply cN|apply cT|apply cS)<;>intro h<;>try simp at h))<;>(try exact ev))
 ·have Q:((q:Int)*20)=(q*20:Nat):=Ω
  have aD:((q:Int)*20+20)=(q*20+20:Nat):=Ω
  simp only[nR H,H.slc,H.ssc,ng,aD];simp only[Q];refine H.doFn I (E6 H L Y I (q*20) (q*20+20) Ω Ω) (fun b h=>by rw[h.1.length];exact I) (by simp[aV,aR,H.kdata I]) ?_;rintro b ⟨s,P⟩;have E:b.length=n:=by rw[s.length];exact I
  simp;((repeat' first|refine aS ?_|simp|((first|apply cN|apply cT|apply cS)<;>intro h<;>try simp at h))<;>(try exact ev));refine cP.whl (q+1,b) (by simp;omega) ⟨E,by simp;omega,k.trans (s.mono Ω Ω),?_⟩ (H.weakC f E (by simp[aR];omega));have:=V.snoc Ω s P;rwa[show q*20+20=(q+1)*20 by omega]at this
 ·have Q:((q:Int)*20)=(q*20:Nat):=Ω
  simp only[nR H,H.slc,H.ssc,ng,Q];refine H.doFn I (E6 H L Y I (q*20) n Ω Ω) (fun b h=>by rw[h.1.length];exact I) (by simp[aV,aR,H.kdata I]) ?_;rintro b ⟨s,P⟩;have E:b.length=n:=by rw[s.length];exact I
  have fe:=V.snoc Ω s P;simp;refine lg (fun(x:Nat×List α)=>⟨[(1,aB n),(2,.ptr (.loc 0) 0),(4,aB x.1)],(.loc 0,[.func g lc,.func cv cr])::(S x.2).b,(S x.2).e,1,b2 (S l)⟩) (fun x=>1099511627776-x.1)
   (fun x=>x.2.length=n/\20<=x.1/\x.1<=2*n+20/\eC 0 n l x.2/\kx lt x.1 0 n x.2) (20,b)
   (H.weakC f E (by simp[aR])) ⟨E,Ψ,Ψ,k.trans (s.mono Ω Ω),fe⟩ ?_
  rintro⟨z,G3⟩ ⟨K,z2,z3,z4,z5⟩ _;simp only at K z2 z3 z4 z5;simp[ab];((repeat' first|refine aS ?_|simp[ab]|((first|apply cN|apply cT|apply cS)<;>intro h<;>try simp at h))<;>(try exact ev))
  ·refine lg (fun(x:Nat×List α)=>⟨[(1,aB n),(2,.ptr (.loc 0) 0),(4,aB z),(5,aB (x.1*(2*z):Nat)),(6,aB (x.1*(2*z)+2*z:Nat))],(.loc 0,[.func g lc,.func cv cr])::(S x.2).b,(S x.2).e,1,b2 (S l)⟩) (fun x=>n+2*z-x.1*(2*z))
    (fun x=>x.2.length=n/\x.1*(2*z)<=n/\eC 0 n l x.2/\kx lt (2*z) 0 (x.1*(2*z)) x.2/\kx lt z (x.1*(2*z)) n x.2) (0,G3)
    (H.weakC f K (by simp[aR])) ⟨K,Ψ,z4,fun i j x y I J k=>by simp at k,by simpa using z5⟩ ?_
   rintro⟨p,u⟩ ⟨a,X,G,o,v⟩ _;simp only at a X G o v;obtain⟨A,d⟩:∃A,A=p*(2*z):=⟨_,rfl⟩;have qq:A=(2*p)*z:=by rw[d,Nat.mul_comm 2 p,Nat.mul_assoc]
   have M:(2*p+1)*z=A+z:=by rw[ku,<-qq,Nat.one_mul]
   have NV:(2*p+2)*z=A+2*z:=by rw[ku,<-qq]
   have t:(p+1)*(2*z)=A+2*z:=by rw[ku,<-d,Nat.one_mul]
   have O:∀c,c<=A+z->c<=n->dD lt A c u:=fun c aA N=>by have:=kx.srt (q:=2*p) Ω v (c:=c) (by rw[<-qq,d];omega) (by rw[M];exact aA) N;rwa[<-qq]at this
   have W:∀c,c<=A+2*z->c<=n->dD lt (A+z) c u:=fun c aA N=>by have:=kx.srt (q:=2*p+1) Ω v (c:=c) (by rw[M,d];omega) (by rw[NV];exact aA) N;rwa[M]at this
   rw[<-d]at X o v;simp only[<-d];simp[ab];((repeat' first|refine aS ?_|simp[ab]|((first|apply cN|apply cT|apply cS)<;>intro h<;>try simp at h))<;>(try exact ev))
   ·have R:((A:Int)+z)=(A+z:Nat):=Ω
    have b4:((A:Int)+2*z)=(A+2*z:Nat):=Ω
    simp only[nR H,H.slc,H.ssc,ng,R,b4];refine H.doFn a (E9 H L (A+2*z-A) u A (A+z) (A+2*z) a Ω Ω Ω Ω (O _ Ω Ω) (W _ Ω Ω)) (fun b h=>by rw[h.1.length];exact a) (by simp[aV,aR,H.kdata a]) ?_;rintro F ⟨e,w⟩;have B:F.length=n:=by rw[e.length];exact a
    simp;(repeat' first|refine aS ?_|simp);refine cP.whl (p+1,F) (by simp only[t,<-d];omega) ⟨B,by simp only[t];omega,G.trans (e.mono Ω Ω),?_,?_⟩ ?_
    ·simp only[t];rw[d]at o e w;have:=o.snoc Ω e w;rwa[<-d]at this
    ·simp only[t];exact v.after e Ω Ω
    ·simp only[t];have NW:((p:Int)+1)*(2*(z:Int))=(A:Int)+2*z:=by have h:=eR (Nat.cast:Nat->Int) t;push_cast at h;exact h
     exact H.weakC f B (by simp[aR,NW])
   ·have R:((A:Int)+z)=(A+z:Nat):=Ω
    simp only[nR H,H.slc,H.ssc,ng,R];refine H.doFn a (E9 H L (n-A) u A (A+z) n a Ω Ω Ω Ω (O _ Ω Ω) (W _ Ω Ω)) (fun b h=>by rw[h.1.length];exact a) (by simp[aV,aR,H.kdata a]) ?_;rintro F ⟨e,w⟩;have B:F.length=n:=by rw[e.length];exact a
    simp;((repeat' first|refine aS ?_|simp|((first|apply cN|apply cT|apply cS)<;>intro h<;>try simp at h))<;>(try exact ev));refine cP.whl (2*z,F) (by simp;omega) ⟨B,by simp;omega,by simp;omega,G.trans (e.mono Ω Ω),?_⟩ (H.weakC f B (by simp[aR];omega));rw[d]at o e w;exact o.snoc Ω e w
   ·refine cP.whl (2*z,u) (by simp;omega) ⟨a,by simp;omega,by simp;omega,G,?_⟩ (H.weakC f a (by simp[aR];omega));have a6:=O n Ω Ω;rw[d]at o a6;exact o.snoc Ω (.refl _) a6
  ·refine H.ret f K (.inr rfl) ?_;refine⟨rfl,G3,rfl,z4,fun i j x y I J k=>z5 i j x y I J k ?_⟩;rw[Nat.div_eq_of_lt Ω,Nat.div_eq_of_lt Ω]
end
section
open Go Go.Pv Go.Sort Go.RowKit
def O9{w:World}{base:Nat}{e:ey}{sz:Nat}{v:Value}{n:Nat}{us:List Value}(h:w.ownsRow base e sz v n us)(l:v≠ .slice none 0 0):
  ∃g cap,v= .slice (some ⟨g,0,none⟩) n cap/\g<w.heap.size/\cap<=maxLen/\n<=cap/\us.length=n*sz/\Holds id w g 0 us.toArray:=by
 rcases h.2 with⟨d,_⟩|⟨g,cap,cur,rfl,q,aM,m,hm,p,i⟩
 ·exact absurd d l
 ·have f:g<w.heap.size:=by
   rcases Nat.lt_or_ge g w.heap.size with a|a
   ·exact a
   ·rw[Array.getElem?_eq_none a]at aM;cases aM
  refine⟨g,cap,rfl,f,hm,m,h.1,fun j k=>?_⟩;have b:j<us.length:=by simpa using k
  have o:=h.1;refine⟨?_,by simp[World.frozen?,aM]⟩;have c:(cur.toList.take (n*sz))[j]? =us[j]?:=by rw[i]
  rw[List.getElem?_take,if_pos Ω,nV,cl b]at c;simp only[World.cell?,aM,Nat.zero_add];simp only[Option.isSome_none,hX,if_false];rw[c];simp[getElem!_pos,b]
def RX{w:World}{base:Nat}{e:ey}{sz g n cap q:Nat}{us:List Value}{F:Array Value}(h:w.ownsRow base e sz (.slice (some ⟨g,0,none⟩) n cap) n us)(i:F.size=n*sz):
  (putRow id (Sort.ahead w q) g 0 F).ownsRow base e sz (.slice (some ⟨g,0,none⟩) n cap) n F.toList:=by
 rcases h.2 with⟨b,_⟩|⟨p,o,cur,b,k,aM,f,hm,d,r⟩
 ·cases b
 ·injection b with a _ l;injection a with a;injection a with a;subst a;subst l;refine⟨by simpa using i,.inr ⟨g,cap,putCells id 0 F cur,rfl,k,?_,f,hm,by simpa[putCells]using d,?_⟩⟩
  ·simp[putRow,mapBlock,Sort.ahead,Array.getElem?_modify,aM,onCells]
  ·have hle:n*sz<=cur.size:=by rw[d];exact kv _ f
   apply List.ext_getElem?;intro j;rw[List.getElem?_take,nV,nV];by_cases c:j<n*sz
   ·have m:j<cur.size:=Ω
    simp only[if_pos c,putCells,Array.getElem?_mapIdx,Array.getElem?_eq_getElem m,Option.map_some];rw[if_pos Ω];simp[getElem!_pos,show j<F.size by omega]
   ·simp[c];omega
end
end Go.Proofs.YtahlgcidhnjlbaaGreat
namespace Go.Pv
section
open Go Go.RowKit Go.Lib Go.Sort Go.Proofs.YtahlgcidhnjlbaaGreat
def GO{S:ar->Prop}:∀{l:List aa},aV S l↔∀x∈l,aR S x
 |[]=>by simp[aV]
 |x::r=>by simp only[aV,GO (l:=r),gw,forall_eq_or_imp]
def GJ{α:Type}{s:b1}{l:List (ar×α)}:iD s l↔∀k,(ab k l).isSome->a7 s k:=by
 refine⟨fun h k U=>pL h k U,fun h=>?_⟩;have:∀a:List (ar×α),(∀x∈a,a7 s x.1)->iD s a:=by
  intro a;induction a with
  |nil=>intro _;trivial
  |cons x r b=>obtain⟨k,x⟩:=x;exact fun h=>⟨h (k,x) Ψ,b fun y d=>h y (by simp[d])⟩
 exact this l fun x c=>h x.1 (pP (x:=x.2) c)
def BQ{w:World}{ν:aC}{sz:Nat}:∀{xs:List aa} {us:List Value} {i:Nat} {p:aa},b7 w ν sz xs us->xs[i]? =some p->∃u,(us.drop (i*sz)).take sz=u.cells.toList/\aw w ν p u/\u.cells.size=sz/\∀c∈u.cells.toList,c.oneCell'=true
 |[],_,_,_,_,a=>by simp at a
 |x::xs,us,0,p,h,a=>by simp only[b7]at h;obtain⟨u,e,rfl,⟨I,J,b⟩,_⟩:=h;simp at a;subst a;refine⟨u,?_,I,J,b⟩;simp only[Nat.zero_mul,List.drop_zero];rw[List.take_append_of_le_length (by simp[J])];exact lG (by simp[J])
 |x::xs,us,i+1,p,h,a=>by simp only[b7]at h;obtain⟨u,e,rfl,⟨I,J,b⟩,g⟩:=h;obtain⟨v,d,f⟩:=BQ (i:=i) g (by simpa using a);refine⟨v,?_,f⟩;rw[<-d,Nat.succ_mul,Nat.add_comm,<-List.drop_drop];congr 2;rw[List.drop_append_of_le_length (by simp[J]),List.drop_of_length_le (by simp[J])];rfl
def B5:∀(aJ:List Value) (s:Nat) (F:Array Value),s+aJ.length<=F.size->(setMany F s aJ).toList=F.toList.take s++aJ++F.toList.drop (s+aJ.length)
 |[],s,F,h=>by simp[setMany]
 |v::r,s,F,h=>by
  simp only[jX]at h;rw[setMany,B5 r (s+1) _ (by simp;omega)];have a:s<F.toList.length:=by simp;omega
  have b:(F.setIfInBounds s v).toList=F.toList.set s v:=Ψ
  rw[b];have d:(F.toList.set s v).take (s+1)=F.toList.take s++[v]:=by rw[List.take_succ,List.getElem?_set_self a,List.take_set_of_le (di _)];simp
  have c:(F.toList.set s v).drop (s+1+r.length)=F.toList.drop (s+(v::r).length):=by rw[List.drop_set_of_lt Ω];congr 1;simp;omega
  rw[d,c];simp
def Kh(w:World):Sort.ahead w 0=w:=by simp[Sort.ahead]
def NP{P:bp}(X:Bool)(cv:Nat)(ad:∀args W,(callFunc cv args).run P W=((CF X args).run P W).andThen fun v w'=>.ok (.value v) w')(e:ey)(a:TypeInfo)(pz:P.info? e=some a)(H:(∀w,(Go.isAgg e).run P w= .ok true w)\/(a.size=1/\∀w,(Go.isAgg e).run P w= .ok false w)){s:b1}(E:eB s){K n el sz:Nat}(df:a.size=sz){xs:List aa}(U:ab (.obj K) s.e=some ⟨n,el,sz,some xs⟩)
  (i j:Nat) (az:i<n) (au:j<n):cf P cv [.int .i64 i,.int .i64 j,.row sz (.obj K) n,.cst (typeHandle P e)] s fun r ak=>r= .tuple []/\ak=⟨s.b,bW (.obj K) ⟨n,el,sz,some (fE xs i j)⟩ s.e⟩:=by
 subst df;refine cf.sem E.obj fun w ν aJ jL B=>?_;right;have s0:=B.slot 0;have s1:=B.slot 1;have s2:=B.slot 2;have s3:=B.slot 3;simp[fG,get,aw]at s0 s1 s2 s3;obtain⟨v,us,a8,bK,cz,c5⟩:=B.good.own (.obj K) _ U;obtain⟨cD,Z,nO⟩:=c5 _ rfl;simp only at cD Z a8 bK;obtain⟨⟨g0,KB,qx⟩,_,n',c3,ai,aD,aZ⟩:=s2;rw[a8]at ai;simp only[dq,ho]at ai;obtain⟨rfl,rfl⟩:=ai;have b:=aZ rfl;have de:v≠ .slice none 0 0:=by rw[<-b,qx];simp
 obtain⟨g,cap,rfl,lR,oC,OB,V,tC⟩:=O9 bK de;have PE:aJ= #[.int .i64 i,.int .i64 j,.slice (some ⟨g,0,none⟩) n cap,typeHandle P e]:=by
  have I:aJ.size=4:=by simpa using jL
  apply Array.ext (by simpa using I);intro t J ah;simp at ah;rcases(by omega:t=0\/t=1\/t=2\/t=3)with rfl|rfl|rfl|rfl
  ·simpa[Array.getD,I]using s0
  ·simpa[Array.getD,I]using s1
  ·simpa[Array.getD,I]using b
  ·simpa[Array.getD,I]using s3
 subst PE;obtain⟨p,aX⟩:∃p,xs[i]? =some p:=⟨_,cl Ω⟩;obtain⟨q,bb⟩:∃q,xs[j]? =some q:=⟨_,cl Ω⟩;obtain⟨u,L,gL,y,O⟩:=BQ Z aX;obtain⟨x,G,TI,l,N⟩:=BQ Z bb;have wE:i*a.size+a.size<=n*a.size:=by have:=kv a.size (show i+1<=n from az);rwa[ku,Nat.one_mul]at this
 have FO:j*a.size+a.size<=n*a.size:=by have:=kv a.size (show j+1<=n from au);rwa[ku,Nat.one_mul]at this
 have cell:∀t v,us[t]? =some v->w.cell? ⟨g,t,none⟩=some v:=fun t v M=>by obtain⟨I,J⟩:=eQ.1 M;have:=(tC t (by simpa using I)).1;simp at this;rw[this];simp[getElem!_pos,I,J]
 have R:∀t,t<n*a.size->w.frozen? ⟨g,t,none⟩=false:=fun t M=>by have:=(tC t (by simpa[V]using M)).2;simpa using this
 have run:(CF X #[.int .i64 i,.int .i64 j,.slice (some ⟨g,0,none⟩) n cap,typeHandle P e]).run P w= .ok (.tuple #[]) ((w.setCells g (0+i*a.size) x.cells.toList).setCells g (0+j*a.size) u.cells.toList):=by
  rcases H with H|⟨Q,H⟩
  ·exact run_swap_cells (P:=P) X e a pz H g 0 n cap i j az au u.cells.toList x.cells.toList (by simp[y]) (by simp[l]) O N w
     (fun k v b=>by
      rw[<-L,List.getElem?_take]at b;split at b
      ·rw[List.getElem?_drop]at b;simpa using cell _ _ b
      ·cases b)
     (fun k v b=>by
      rw[<-G,List.getElem?_take]at b;split at b
      ·rw[List.getElem?_drop]at b;simpa using cell _ _ b
      ·cases b)
     (fun k U=>by simpa using R (i*a.size+k) Ω) (fun k U=>by simpa using R (j*a.size+k) Ω)
  ·rw[Q]at L y G l⊢;obtain⟨S,zK⟩:∃c,u.cells.toList=[c]:=List.length_eq_one_iff.1 (by simpa using y);obtain⟨Y,h4⟩:∃c,x.cells.toList=[c]:=List.length_eq_one_iff.1 (by simpa using l);rw[zK]at L O⊢;rw[h4]at G N⊢;simp only[World.setCells,Nat.mul_one]at L G⊢;have Fc:us[i]? =some S:=by have:=eR (·[0]?) L;simpa using this
   have Ff:us[j]? =some Y:=by have:=eR (·[0]?) G;simpa using this
   have:=run_swap_one (P:=P) X e a pz Q H g 0 n cap i j az au S Y (O S Ψ) (N Y Ψ) w (by simpa using cell i S Fc) (by simpa using cell j Y Ff) (by simpa using R i (by rw[Q];omega)) (by simpa using R j (by rw[Q];omega));simpa using this
 have PG:putRow id w g 0 us.toArray=w:=putRow_self id w g 0 _ tC;have Pz:us.toArray.size=n*a.size:=by simpa using V
 have PH:w.setCells g (0+i*a.size) x.cells.toList=putRow id w g 0 (setMany us.toArray (i*a.size) x.cells.toList):=by have I:=setCells_putRow w g 0 x.cells.toList (i*a.size) us.toArray (by simp[l,V];exact wE);rw[PG]at I;exact I
 obtain⟨d,h2⟩:∃d,d=setMany us.toArray (i*a.size) x.cells.toList:=⟨_,rfl⟩;have NY:d.toList=us.take (i*a.size)++x.cells.toList++us.drop (i*a.size+a.size):=by rw[h2,B5 _ _ _ (by simp[l,V];exact wE)];simp[l]
 have zB:d.size=n*a.size:=by rw[h2,size_setMany];exact Pz
 have oI:(w.setCells g (0+i*a.size) x.cells.toList).setCells g (0+j*a.size) u.cells.toList=putRow id w g 0 (setMany d (j*a.size) u.cells.toList):=by rw[PH,<-h2,setCells_putRow w g 0 u.cells.toList (j*a.size) d (by simp[y,zB];exact FO)]
 obtain⟨f,tB⟩:∃f,f=setMany d (j*a.size) u.cells.toList:=⟨_,rfl⟩;have NZ:f.toList=d.toList.take (j*a.size)++u.cells.toList++d.toList.drop (j*a.size+a.size):=by rw[tB,B5 _ _ _ (by simp[y,zB];exact FO)];simp[y]
 have N0:f.size=n*a.size:=by rw[tB,size_setMany];exact zB
 have dB:=xQ Z aX TI l N;rw[<-NY]at dB;have ei:=xQ (i:=j) (q:=q) dB (by rw[List.getElem?_set];split;(rename_i e;subst e;rw[if_pos Ω]);exact bb) gL y O;rw[<-NZ]at ei;have tY:(xs.set i q).set j p=fE xs i j:=by simp[fE,aX,bb]
 rw[tY]at ei;have hlen:(fE xs i j).length=n:=by simpa using cD
 have h7:=RX (q:=0) (F:=f) bK N0;rw[Kh]at h7;obtain⟨jU,nS,_⟩:=B.setRowM (w':=putRow id w g 0 f) U rfl a8 (bl:=g) rfl (v':= .slice (some ⟨g,0,none⟩) n cap) rfl (xs':=fE xs i j) (us:=f.toList) (.inl ⟨hlen,rfl⟩) rfl rfl rfl
  (fun t M=>by simp[putRow,mapBlock,Array.getElem?_modify,Ne.symm M]) (by simp[putRow,mapBlock]) (by rw[hlen];exact h7) ei
 refine⟨.tuple #[],putRow id w g 0 f,?_,?_⟩
 ·rw[ad,run,oI,<-tB];rfl
 ·have A:∀k,a7 ⟨s.b,bW (.obj K) ⟨n,el,a.size,some (fE xs i j)⟩ s.e⟩ k↔a7 s k:=fun k=>by
   unfold a7;simp only[fD];by_cases cL:ar.obj K=k
   ·subst cL;simp[U]
   ·simp[cL]
  refine⟨_,_,_,_,.tuple [],⟨s.b,bW (.obj K) ⟨n,el,a.size,some (fE xs i j)⟩ s.e⟩,rfl,jU,by simp[aw,bT],GJ.2 fun k hz=>(A k).2 (.inl hz),GJ.2 fun k hz=>(A k).2 (.inr hz),fun k cs aA=>⟨aA,(A k).2 (.inl (by simp at aA;simp[aA])),hg (fun k h=>(A k).2 h) _ (E.kb k cs aA)⟩,fun k o ag=>⟨by simpa[hlen]using ag,?_,fun ys aP=>?_⟩,⟨E.obj.1,fun m=>?_⟩,by simp[aR,aV],rfl,rfl⟩
  ·exact(.inr (by simp at ag;simp[ag]))
  ·simp only[fD]at ag;split at ag
   ·cases ag;simp only[dq]at aP;subst aP;have FL:=E.ke _ _ U xs rfl;refine hg (fun k h=>(A k).2 h) _ ?_;rw[GO]at FL⊢;exact fun z c7=>FL z ((G2 xs i j).mem_iff.1 c7)
   ·exact hg (fun k h=>(A k).2 h) _ (E.ke k o ag ys aP)
  ·simp only[fD];simp[E.obj.2 m]
def NO{P:bp}(b:Bool)(cv:Nat)(l:∀args W,(callFunc cv args).run P W=((CF b args).run P W).andThen fun v w'=>.ok (.value v) w')(e:ey)(a:TypeInfo)(d:P.info? e=some a)(c:∀w,(Go.isAgg e).run P w= .ok true w){s:b1}(k:eB s){K n el sz:Nat}(f:a.size=sz){xs:List aa}(U:ab (.obj K) s.e=some ⟨n,el,sz,some xs⟩)
  (i j:Nat) (az:i<n) (g:j<n):cf P cv [.int .i64 i,.int .i64 j,.row sz (.obj K) n,.cst (typeHandle P e)] s fun r h=>r= .tuple []/\h=⟨s.b,bW (.obj K) ⟨n,el,sz,some (fE xs i j)⟩ s.e⟩:=NP b cv l e a d (.inl c) k f U i j az g
end
end Go.Pv
namespace Go.Proofs.YtahlgcidhnjlbaaGreat
section
open Go Go.RowKit Go.Lib Go.Sort Go.Pv
set_option maxRecDepth 100000 in
def SC(t e:ey)(i ds:TypeInfo)(az:aG.info? t=some i)(aL:i.desc= .slice e)(Ai:aG.packed t=false)(pz:aG.info? e=some ds)(ke:Nat)(qC:∀w,(TT e).run aG w= .ok ke w)
  (p:aT Addr) (n c:Nat) (aO:n<4611686018427387904) (f:Nat) (aH:aG.funcs.findIdx? (·.name== "internal/reflectlite" ++ ".Swapper$" ++toString (swapperK n ds ke))=some f) (GX:Fn) (AU qN:Array Value) (w:World) (R:World->Prop)
  (aX:Calls aG 199 #[.agg #[.func GX AU qN,.func (.func f) #[] (sliceBound aG e ds ke p n c)],.int .i64 n] ((w.alloc (.cells #[.slice p n c] t)).alloc (.cells #[typeHandle aG t,.pointer (some ⟨w.heap.size,0,none⟩),.int .u64 151] 179)) fun e w'=>e= .returned (.tuple #[])/\R w'):
  Calls aG 140 #[.iface t (.slice p n c),.func GX AU qN] w fun e w'=>e= .returned (.tuple #[])/\R w':=by
 have aW:=run_valueOf_slice (P:=aG) t e i az aL p n c w;have aj:=fun w=>run_swapper_slice (P:=aG) t e i ds az aL pz ke qC p n c f aH w;have ao:=fun a w cn=>run_valueLen_slice (P:=aG) t e i az aL Ai a p n c w cn;unfold sliceBound at aX;generalize (if swapperK n ds ke<=2 then(#[]:Array Value)else #[.slice p n c,typeHandle aG e])=B at aj aX;have OF:aG.globals.size=0:=ac
 simp only[typeHandle,OF]at aW ao aX;have Er:∀args w,(callFunc 199 args).run aG w= .ok (.enter 199 args) w:=enters_of Tryz.func199 ac rfl;go_enter Tryz.func140,Tryz.ntmps140;go_wp2;rw[run_callFunc_extern Tryz.func197 ac ac ac (e:=fun args=>TR (args.getD 0 (.tuple #[]))) ac,
  show Sem.run aG ((fun args:Array Value=>TR (args.getD 0 (.tuple #[]))) #[.iface t (.slice p n c)]) w=_ from aW]
 simp only[Result.andThen];rw[Oper.upon_value];go_wp2;rw[run_callFunc_extern Tryz.func198 ac ac ac (e:=XW "internal/reflectlite" (TS "Swapper")) ac,aj];simp only[Result.andThen];rw[Oper.upon_value];go_wp2;rw[run_callFunc_extern Tryz.func200 ac ac ac (e:=XY (TS "reflectlite.Value.Len" 0) XX) ac,
  ao _ _ Ψ]
 simp only[Result.andThen];rw[Oper.upon_value];go_wp2_with (go_at_fn 199;refine aX.mono ?_;rintro e w' ⟨rfl,cR⟩);go_end0;exact⟨rfl,cR⟩
def _root_.Go.Pv.Good.prMono{pr c:Nat->Prop}{w:World}{ν:aC}{b:List (ar×List aa)}{e:List (ar×cw)}(h:Pv.Good pr w ν b e)(d:∀bl,pr bl->dE ν ⟨b,e⟩ bl->c bl):Pv.Good c w ν b e:=by
 refine⟨h.alt,fun k cs U=>?_,h.inj,fun g o aM=>?_,h.oinj,h.obx,h.one,h.otr⟩
 ·obtain⟨bl,us,el,f1,f2,f3⟩:=h.box k cs U;exact⟨bl,us,el,f1,d bl f2 (.inl ⟨k,by simp[U],f1⟩),f3⟩
 ·obtain⟨v,us,f1,f2,f3,f4⟩:=h.own g o aM;exact⟨v,us,f1,f2,fun bl a=>⟨d bl (f3 bl a).1 (.inr ⟨g,o.n,v,by simp[aM],f1,a⟩),(f3 bl a).2⟩,f4⟩
def NT(w:World)(a b:Obj):w.grownBy ((w.alloc a).alloc b) none:=by
 have I:w.heap.size<=(w.alloc a).heap.size:=Ψ
 have J:(w.alloc a).heap.size<=((w.alloc a).alloc b).heap.size:=Ψ
 exact⟨rfl,rfl,rfl,jB I J,fun k U _=>(Below.heap_alloc _ b k (Nat.lt_of_lt_of_le U I)).trans (Below.heap_alloc w a k U)⟩
def fo{α:Type}(e:α->aa)(K B el sz:Nat)(l:List α):b1:=⟨[(.obj B,[.row sz (.obj K) l.length])],[(.obj K,⟨l.length,el,sz,some (l.map e)⟩)]⟩
section
variable {α:Type} {e:α->aa} (he:∀S x,aR S (e x)) {K B el sz:Nat}
include he
theorem Qd(S:ar->Prop)(l:List α):aV S (l.map e):=by
 induction l with
 |nil=>simp[aV]
 |cons x r a=>simp only[gG,aV];exact⟨he S x,a⟩
theorem yy(l:List α):eB (fo e K B el sz l):=by unfold fo;refine eB.of ⟨by intro m;simp[ab],by intro m;simp[ab]⟩ (by simp[aV,aR,a7,ab]) ?_;intro x b xs a;simp at b;subst b;simp at a;subst a;exact Qd he _ l
omit he in
theorem ve(l a:List α):dW (fo e K B el sz l) (fo e K B el sz a):=by
 refine⟨fun k=>?_,fun k=>?_⟩
 ·simp only[fo,ab];split<;>rfl
 ·simp only[fo,ab];split<;>rfl
theorem Ny(t:ey)(i ds:TypeInfo)(az:aG.info? t=some i)(aL:i.desc= .slice el)(Ai:aG.packed t=false)(pz:aG.info? el=some ds)(ke:Nat)(qC:∀w,(TT el).run aG w= .ok ke w)(wb:∀n,2<=n->swapperK n ds ke=9)
  (g:Nat) (lt:α->α->Bool) (bA:lI lt) (l:List α) (ao:l.length<=68719476736)
  (z6:∀a1:List α,a1.length=l.length->∀(i j:Nat) x y,a1[i]? =some x->a1[j]? =some y->cf aG g [.int .i64 i,.int .i64 j,.ptr (.obj B) 0] (fo e K B el sz a1) fun r ak=>r= .bool (lt x y)/\ak=fo e K B el sz a1)
  (Px:∀a1:List α,a1.length=l.length->∀i j:Nat,i<l.length->j<l.length->cf aG 230 [.int .i64 i,.int .i64 j,.row sz (.obj K) l.length,.cst (typeHandle aG el)] (fo e K B el sz a1) fun r ak=>r= .tuple []/\ak=fo e K B el sz (fE a1 i j)):
  cf aG 140 [.iface t (.row sz (.obj K) l.length),.func g [.ptr (.obj B) 0]] (fo e K B el sz l) fun r ak=>r= .tuple []/\∃a1,ak=fo e K B el sz a1/\a1.Perm l/\a1.Pairwise fun x y=>lt y x=false:=by
 have tJ:aG.funcs.findIdx? (·.name== "internal/reflectlite" ++ ".Swapper$" ++toString 1)=some 222:=ac
 have oy:aG.funcs.findIdx? (·.name== "internal/reflectlite" ++ ".Swapper$" ++toString 2)=some 223:=ac
 have Oy:aG.funcs.findIdx? (·.name== "internal/reflectlite" ++ ".Swapper$" ++toString 9)=some 230:=ac
 have Ps:∃f cr,aG.funcs.findIdx? (·.name== "internal/reflectlite" ++ ".Swapper$" ++toString (swapperK l.length ds ke))=some f/\(cr=(if swapperK l.length ds ke<=2 then []else [aa.row sz (.obj K) l.length,.cst (typeHandle aG el)]))/\
   cf aG 199 [h1 g f [.ptr (.obj B) 0] cr,.int .i64 l.length] (fo e K B el sz l) fun r ak=>r= .tuple []/\∃a1,ak=fo e K B el sz a1/\eC 0 l.length l a1/\dD lt 0 l.length a1:=by
  have eh:=fun a1=>yy (K:=K) (B:=B) (el:=el) (sz:=sz) he a1;rcases(by omega:l.length=0\/l.length=1\/2<=l.length)with bg|I|J
  ·refine⟨222,[],by rw[bg];exact tJ,by rw[bg];rfl,zu (lt:=lt) ⟨eh,fun eG dL _ _=>ve eG dL,fun a1 _=>by simp[aV,aR,a7,fo,ab],fun a1 _=>by simp[aV],by simp[bE,bt],rfl,ao,fun a1 h=>z6 a1 h,fun a1 _ J i j az=>Ω⟩ bA l rfl⟩
  ·refine⟨223,[],by rw[I];exact oy,by rw[I];rfl,zu (lt:=lt) ⟨eh,fun eG dL _ _=>ve eG dL,fun a1 _=>by simp[aV,aR,a7,fo,ab],fun a1 _=>by simp[aV],by simp[bE,bt],rfl,ao,fun a1 h=>z6 a1 h,fun a1 _ J i j az au=>Ω⟩ bA l rfl⟩
  ·refine⟨230,_,by rw[wb _ J];exact Oy,rfl,?_⟩;rw[wb _ J];simp only[show¬((9:Nat)<=2)from by decide,if_false];exact zu (lt:=lt) ⟨eh,fun eG dL _ _=>ve eG dL,fun a1 _=>by simp[aV,aR,a7,fo,ab],fun a1 _=>by simp[aV,aR,a7,fo,ab],by simp[bE,bt],by simp[bE,bt],ao,fun a1 h=>z6 a1 h,fun a1 h _ i j az au=>Px a1 h i j az au⟩ bA l rfl
 obtain⟨f,cr,aH,Pq,dX⟩:=Ps;intro w ν aJ aM ad aq;have lp:=bO.start (yy he l).obj aM ad aq;have Pk:=aq;simp only[bT,aw]at aq;obtain⟨v0,vs1,wT,⟨u,rfl,⟨b,cap,rfl⟩,gy,n',c3,ai,aD,aZ⟩,v1,vs2,pI,⟨qN,rfl,nv⟩,rfl⟩:=aq;have jL:aJ= #[.iface t (.slice (some ⟨b,0,none⟩) l.length cap),.func (.func g) #[] qN]:=by apply Array.ext';rw[wT,pI]
 subst jL;have oz:∃fn,aG.funcs[(140:Nat)]? =some fn/\fn.body.isSome=true/\(fn.name== "runtime.NumGoroutine")=false:=⟨_,Tryz.func140,by kernel_rfl,by kernel_rfl⟩;refine .inl ⟨oz,?_⟩;obtain⟨jy,oI⟩:∃jy,jy=(w.alloc (.cells #[.slice (some ⟨b,0,none⟩) l.length cap] t)).alloc (.cells #[typeHandle aG t,.pointer (some ⟨w.heap.size,0,none⟩),.int .u64 151] 179):=⟨_,rfl⟩;have lT:w.grownBy jy none:=by rw[oI];exact NT _ _ _
 have Pm:=lp.grown lT;have h6:ij w ν jy ν:=⟨fun b o aK=>⟨aK,yP lT (aM.alt b o aK)⟩,fun _ _ _ h=>h,fun _ n u _ h=>⟨n,u,h,.inl ⟨rfl,rfl⟩⟩,fun b o aK=>q4 (lT.block b (aM.alt b o aK) Ψ),fun _ _ _ _ h=>h⟩;have oC:Pv.Good (dE ν (fo e K B el sz l)) jy ν (fo e K B el sz l).b (fo e K B el sz l).e:=Pm.good.prMono fun bl _ h=>h;have rX:=IA h6 Pk;simp only[bT]at rX;obtain⟨a0,Uk,Fo,F7,bd,Ul,oo,Vv,rfl⟩:=rX;simp at Fo;obtain⟨rfl,rfl⟩:=Fo;simp at oo;subst oo;have fV:aw jy ν (.row sz (.obj K) l.length) (.slice (some ⟨b,0,none⟩) l.length cap):=by simp only[aw]at F7;obtain⟨u,hu,h⟩:=F7;simp at hu;obtain⟨_,rfl⟩:=hu;simp only[aw];exact h
 have nz:bT jy ν cr (sliceBound aG el ds ke (some ⟨b,0,none⟩) l.length cap).toList:=by
  unfold sliceBound;rw[Pq];split
  ·simp[bT]
  ·simp only[bT];exact⟨_,_,rfl,fV,_,_,rfl,by simp[aw],rfl⟩
 have qw:bT jy ν [h1 g f [.ptr (.obj B) 0] cr,.int .i64 l.length] (#[.agg #[.func (.func g) #[] qN,.func (.func f) #[] (sliceBound aG el ds ke (some ⟨b,0,none⟩) l.length cap)],.int .i64 l.length]:Array Value).toList:=by simp only[bT,h1];refine⟨_,_,rfl,?_,_,_,rfl,by simp[aw],rfl⟩;simp only[aw,bL];exact⟨_,rfl,_,_,rfl,⟨⟨qN,rfl,IA h6 nv⟩,rfl⟩,_,_,rfl,⟨⟨_,rfl,nz⟩,rfl⟩,rfl⟩
 have Ou:=dX jy ν _ oC ad qw;have Er:∀args w,(callFunc 199 args).run aG w= .ok (.enter 199 args) w:=enters_of Tryz.func199 ac rfl;rcases Ou with⟨_,aA⟩|⟨v,w',aA,_⟩
 ·have OX:=SC t el i ds az aL Ai pz ke qC (some ⟨b,0,none⟩) l.length cap Ω f aH (.func g) #[] qN w
   (fun w'=> ∃ak aI,(∃a1,ak=fo e K B el sz a1/\eC 0 l.length l a1/\dD lt 0 l.length a1)/\Pv.Good (fun bl=>dE ν (fo e K B el sz l) bl\/jy.heap.size<=bl) w' aI ak.b ak.e/\kI aI ak/\e7 ak/\kA ⟨jy,ν,dE ν (fo e K B el sz l),0,b2 (fo e K B el sz l)⟩ w' aI) (by
    rw[<-oI];refine aA.mono ?_;rintro e w' ⟨v,r,ak,aI,rfl,⟨rfl,bb⟩,F8,aF,a6,cu,dn⟩;simp only[aw,bT]at F8;obtain⟨us,rfl,nC⟩:=F8;have:us= #[]:=by apply Array.ext';simpa using nC
    subst this;exact⟨rfl,ak,aI,bb,aF,a6,cu,dn⟩)
  refine OX.mono ?_;rintro e w' ⟨rfl,ak,aI,⟨a1,rfl,Gb,Gd⟩,aF,a6,cu,dn⟩;refine⟨.tuple #[],.tuple [],_,aI,rfl,⟨rfl,a1,rfl,Gb.perm,?_⟩,by simp[aw,bT],aF.prMono fun bl h _=>?_,a6,cu,⟨dn.os.trans lT.os,dn.tape.trans lT.tape,dn.output.trans lT.output,jB lT.size dn.size,fun k U hm=>?_,fun b o aK=>?_,fun b o aK=>?_,dn.obj,dn.obn,dn.row,dn.obr,dn.trd,fun k j b af=>⟨(dn.trb k j b af).1.imp id (fun h=>jB lT.size h),(dn.trb k j b af).2⟩,dn.trn,fun b o aK=>(dn.sh b o aK).trans (h6.sh b o aK)⟩⟩
  ·have z7:=Gb.length;rw[<-z7]at Gd;exact Gd.pairwise
  ·rcases h with h|h
   ·exact .inl h
   ·exact .inr (jB lT.size h)
  ·rw[dn.block k (Nat.lt_of_lt_of_le U lT.size) hm];exact lT.block k U Ψ
  ·obtain⟨bo,bY⟩:=dn.keep b o aK;exact⟨bo,bY.trans (h6.A b o aK).2⟩
  ·rcases dn.fresh b o aK with h|h|h
   ·exact .inl h
   ·exact .inr (.inl h)
   ·exact .inr (.inr (jB lT.size h))
 ·rw[Er]at aA;cases aA
end
end
end Go.Proofs.YtahlgcidhnjlbaaGreat
namespace Go.Proofs
section
open Go.Shelf
end
end Go.Proofs
namespace Go.Proofs.YtahlgcidhnjlbaaGreat
section
open Go Go.RowKit Go.Lib Go.Pv Go.Proofs
section
variable {α:Type} {e:α->aa} (he:∀S x,aR S (e x)) {K B el sz:Nat}
include he
end
end
section
open Go Go.Pv Go.Lib
def AY(l:List fy):List aa:= .hdm l.length (List.range l.length)::l.flatMap fun m=>[m.e,.bool true]
end
section
open Go Go.Pv
@[simp]def Wj:[aa.hdm 0 []]=AY []:=rfl
end
section
open Go Go.Pv Go.Lib
def Qp{α β:Type}(f:α->β)(l:List α)(i j:Nat):(fE l i j).map f=fE (l.map f) i j:=by
 unfold fE;simp only[List.getElem?_map];cases l[i]? with
 |none=>simp
 |some x=>
  cases l[j]? with
  |none=>simp
  |some y=>simp[List.map_set]
end
end Go.Proofs.YtahlgcidhnjlbaaGreat
namespace Go.Pv
section
open Go Go.RowKit
mutual
def tn:aa->List (ar×Nat)
 | .slice _ tag _=>match tag with| .tr k i=>[(k,i)]|_=>[]
 | .agg cs=>tnL cs
 |_=>[]
def tnL:List aa->List (ar×Nat)
 |[]=>[]
 |x::xs=>tn x++tnL xs
end
mutual
def e8:aa->Prop
 | .int _ _=>True
 | .bool _=>True
 | .str _=>True
 | .slice _ tag xs=>match tag with| .tr k _=>k≠dU|_=>xs=[]
 | .agg cs=>gq cs
 |_=>c1
def gq:List aa->Prop
 |[]=>True
 |x::xs=>e8 x/\gq xs
end
def hi(ν:aC)(l:List (ar×Nat))(b:Nat):Prop:= ∃k i,(k,i)∈l/\ν.tr k i b
def sp{ν:aC}{l a:List (ar×Nat)}(h:∀x∈l,x∈a)(b:Nat)(c:hi ν l b):hi ν a b:=by obtain⟨k,i,I,J⟩:=c;exact⟨k,i,h _ I,J⟩
def Bc{ν:aC}(eV:∀k j aQ cU b,ν.tr k j b->ν.tr aQ cU b->k=aQ/\j=cU){l a:List (ar×Nat)}(h:(l++a).Nodup)(b:Nat)(I:hi ν l b):¬hi ν a b:=by rintro⟨aQ,c,d,e⟩;obtain⟨k,i,I,J⟩:=I;obtain⟨rfl,rfl⟩:=eV k i aQ c b J e;rw[ma]at h;exact h.2.2 _ I _ d rfl
mutual
def Bk{w:World}{ν:aC}(eV:∀k j aQ cU b,ν.tr k j b->ν.tr aQ cU b->k=aQ/\j=cU):∀(p:aa) (v:Value),aw w ν p v->e8 p->(tn p).Nodup->bJ true w ν.A (hi ν (tn p)) (bE p) v
 | .int k n,v,h,_,_=>by simpa only[aw,bE,bJ]using h
 | .bool b,v,h,_,_=>by simpa only[aw,bE,bJ]using h
 | .str s,v,h,_,_=>by simpa only[aw,bE,bJ]using h
 | .slice sz tag xs,v,h,ag,_=>by
  simp only[aw]at h;obtain⟨⟨a,cap,I,J,f,m⟩,_,_,e,_⟩:=h;by_cases c:∃k i,tag= .tr k i
  ·obtain⟨k,i,rfl⟩:=c;refine vY _ _ v (oj (fun _ _ h=>⟨h,rfl⟩) (fun _ _ _=>rfl) _ _ _ v (fun b g=>?_) (e k i rfl));exact⟨k,i,by simp[tn],g⟩
  ·have l:xs=[]:=by
    simp only[e8]at ag;split at ag
    ·exact absurd ⟨_,_,rfl⟩ c
    ·exact ag
   subst l;simp only[bE,bt,bJ];exact⟨a,cap,I,J,f,.inl trivial⟩
 | .agg cs,v,h,ag,d=>by simp only[aw,e8,tn,bE,bJ]at h ag d⊢;obtain⟨us,I,J⟩:=h;exact⟨us,I,Ho eV cs _ J ag d⟩
 | .junk,_,_,ag,_=>by simp[e8]at ag
 | .ptr _ _,_,_,ag,_=>by simp[e8]at ag
 | .eptr _,_,_,ag,_=>by simp[e8]at ag
 | .iface _ _,_,_,ag,_=>by simp[e8]at ag
 | .nilp,_,_,ag,_=>by simp[e8]at ag
 | .tuple _,_,_,ag,_=>by simp[e8]at ag
 | .func _ _,_,_,ag,_=>by simp[e8]at ag
 | .gmap _,_,_,ag,_=>by simp[e8]at ag
 | .row _ _ _,_,_,ag,_=>by simp[e8]at ag
 | .rptr _ _ _ _ _,_,_,ag,_=>by simp[e8]at ag
 | .hdm _ _,_,_,ag,_=>by simp[e8]at ag
 | .hdi _ _ _,_,_,ag,_=>by simp[e8]at ag
 | .cst _,_,_,ag,_=>by simp[e8]at ag
def Ho{w:World}{ν:aC}(eV:∀k j aQ cU b,ν.tr k j b->ν.tr aQ cU b->k=aQ/\j=cU):∀(cs:List aa) (us:List Value),bL w ν cs us->gq cs->(tnL cs).Nodup->gI true w ν.A (hi ν (tnL cs)) (bt cs) us
 |[],us,h,_,_=>by simpa only[bL,bt,gI]using h
 |c::cs,us,h,ag,d=>by simp only[bL,gq,tnL,bt,gI]at h ag d⊢;obtain⟨u,f,I,⟨J,g⟩,l⟩:=h;have e:=ma.1 d;exact⟨u,f,hi ν (tn c),hi ν (tnL cs),I,⟨sp (fun x a=>List.mem_append_left _ a),sp (fun x a=>List.mem_append_right _ a),fun _ b i=>Bc eV d b i⟩,⟨Bk eV c u J ag.1 e.1,g⟩,Ho eV cs f l ag.2 e.2.1⟩
end
def Bl{w:World}{ν:aC}(eV:∀k j aQ cU b,ν.tr k j b->ν.tr aQ cU b->k=aQ/\j=cU){sz:Nat}:∀(cs:List aa) (us:List Value),b7 w ν sz cs us->gq cs->(tnL cs).Nodup->ga true w ν.A (hi ν (tnL cs)) sz (bt cs) us
 |[],us,h,_,_=>by simpa only[b7,bt,ga]using h
 |c::cs,us,h,ag,d=>by simp only[b7,gq,tnL,bt,ga]at h ag d⊢;obtain⟨u,f,I,⟨J,g⟩,l⟩:=h;have e:=ma.1 d;exact⟨u,f,hi ν (tn c),hi ν (tnL cs),I,⟨sp (fun x a=>List.mem_append_left _ a),sp (fun x a=>List.mem_append_right _ a),fun _ b i=>Bc eV d b i⟩,⟨Bk eV c u J ag.1 e.1,g⟩,Bl eV cs f l ag.2 e.2.1⟩
mutual
def vX{t:Bool}{w:World}{A:Nat->Nat->Prop}{ν:aC}(c:∀b o,A b o->ν.A b o):∀(p:aa) (F:Nat->Prop) (v:Value),bJ t w A F p v->aw w ν (bE p) v
 | .int k n,_,_,h=>by simpa only[aw,bE,bJ]using h
 | .bool b,_,_,h=>by simpa only[aw,bE,bJ]using h
 | .str s,_,_,h=>by simpa only[aw,bE,bJ]using h
 | .slice sz tag xs,F,v,h=>by
  simp only[bJ,bE,aw]at h⊢;obtain⟨a,cap,I,J,j,l⟩:=h;refine⟨⟨a,cap,by rw[iH];exact I,by rw[iH];exact J,by rw[iH];exact j,?_⟩,fun e=>(by cases e),fun g e=>(by cases e),fun _ _ e=>(by cases e),fun _ e=>(by cases e)⟩;rcases l with rfl|⟨b,off,us,G,i,_,_,f,_,d⟩
  ·exact .inl rfl
  ·exact .inr ⟨b,off,us,i,sb (fun b o h=>⟨c b o h,rfl⟩) _ _ f,EW c xs G us d⟩
 | .agg cs,F,v,h=>by simp only[bJ,bE,aw]at h⊢;obtain⟨us,I,J⟩:=h;exact⟨us,I,EY c cs F _ J⟩
 | .junk,_,_,h=>by simp[bJ]at h
 | .ptr _ _,_,_,h=>by simp[bJ]at h
 | .eptr _,_,_,h=>by simp[bJ]at h
 | .iface _ _,_,_,h=>by simp[bJ]at h
 | .nilp,_,_,h=>by simp[bJ]at h
 | .tuple _,_,_,h=>by simp[bJ]at h
 | .func _ _,_,_,h=>by simp[bJ]at h
 | .gmap _,_,_,h=>by simp[bJ]at h
 | .row _ _ _,_,_,h=>by simp[bJ]at h
 | .rptr _ _ _ _ _,_,_,h=>by simp[bJ]at h
 | .hdm _ _,_,_,h=>by simp[bJ]at h
 | .hdi _ _ _,_,_,h=>by simp[bJ]at h
 | .cst _,_,_,h=>by simp[bJ]at h
def EY{t:Bool}{w:World}{A:Nat->Nat->Prop}{ν:aC}(d:∀b o,A b o->ν.A b o):∀(cs:List aa) (F:Nat->Prop) (us:List Value),gI t w A F cs us->bL w ν (bt cs) us
 |[],_,_,h=>by simpa only[gI,bt,bL]using h
 |c::cs,F,us,h=>by simp only[gI,bt,bL]at h⊢;obtain⟨u,a,e,g,I,_,⟨j,i⟩,f⟩:=h;exact⟨u,a,I,⟨vX d c e u j,i⟩,EY d cs g a f⟩
def EW{t:Bool}{w:World}{A:Nat->Nat->Prop}{ν:aC}(d:∀b o,A b o->ν.A b o){sz:Nat}:∀(cs:List aa) (F:Nat->Prop) (us:List Value),ga t w A F sz cs us->b7 w ν sz (bt cs) us
 |[],_,_,h=>by simpa only[ga,bt,b7]using h
 |c::cs,F,us,h=>by simp only[ga,bt,b7]at h⊢;obtain⟨u,a,e,g,I,_,⟨j,i⟩,f⟩:=h;exact⟨u,a,I,⟨vX d c e u j,i⟩,EW d cs g a f⟩
end
mutual
def Cc:∀p:aa,bE (bE p)=bE p
 | .slice _ _ xs=>by simp[bE,nQ xs]
 | .agg cs=>by simp[bE,nQ cs]
 | .tuple aJ=>by simp[bE,nQ aJ]
 | .eptr x=>by simp[bE,Cc x]
 | .iface t x=>by simp[bE,Cc x]
 | .func f cx=>by simp[bE,nQ cx]
 | .junk=>rfl
 | .int _ _=>rfl
 | .bool _=>rfl
 | .str _=>rfl
 | .ptr _ _=>rfl
 | .nilp=>rfl
 | .gmap _=>rfl
 | .row _ _ _=>rfl
 | .rptr _ _ _ _ _=>rfl
 | .hdm _ _=>rfl
 | .hdi _ _ _=>rfl
 | .cst _=>rfl
def nQ:∀xs:List aa,bt (bt xs)=bt xs
 |[]=>rfl
 |x::xs=>by simp[bt,Cc x,nQ xs]
end
mutual
def dr:aa->List ar
 | .slice _ tag _=>match tag with| .own k=>[k]|_=>[]
 | .row _ k _=>[k]
 | .agg cs=>gD cs
 | .tuple cs=>gD cs
 |_=>[]
def gD:List aa->List ar
 |[]=>[]
 |x::xs=>dr x++gD xs
end
def o0(e:List (ar×cw))(k:ar):List aa:=((ab k e).bind (·.xs)).getD []
mutual
def dN(e:List (ar×cw)):aa->List (ar×Nat)
 | .slice _ tag xs=>match tag with| .tr k i=>[(k,i)]| .own _=>tnL xs|_=>[]
 | .row _ k _=>tnL (o0 e k)
 | .agg cs=>gT e cs
 | .tuple cs=>gT e cs
 |_=>[]
def gT(e:List (ar×cw)):List aa->List (ar×Nat)
 |[]=>[]
 |x::xs=>dN e x++gT e xs
end
mutual
def eN(e:List (ar×cw)):aa->Prop
 | .int _ _=>True
 | .bool _=>True
 | .str _=>True
 | .slice sz tag xs=>match tag with| .tr k _=>k≠dU| .own k=>True/\(∃el,ab k e=some ⟨xs.length,el,sz,none⟩)/\gq xs/\0<sz|_=>xs=[]
 | .row sz k n=>True/\(∃xs el,ab k e=some ⟨n,el,sz,some xs⟩/\gq xs)/\0<sz
 | .agg cs=>hS e cs
 | .tuple cs=>hS e cs
 |_=>c1
def hS(e:List (ar×cw)):List aa->Prop
 |[]=>True
 |x::xs=>eN e x/\hS e xs
end
mutual
def ir:aa->Nat
 | .slice _ _ _=>1
 | .row _ _ _=>1
 | .agg cs=>ld cs
 | .tuple cs=>ld cs
 |_=>0
def ld:List aa->Nat
 |[]=>0
 |x::xs=>ir x+ld xs
end
mutual
def fold(κ:Nat)(e:List (ar×cw)):Nat->aa->aa
 |j,.slice sz _ xs=>.slice sz (.tr (.loc κ) j) (bt xs)
 |j,.row sz k _=>.slice sz (.tr (.loc κ) j) (bt (o0 e k))
 |j,.agg cs=>.agg (iw κ e j cs)
 |j,.tuple cs=>.tuple (iw κ e j cs)
 |_,p=>p
def iw(κ:Nat)(e:List (ar×cw)):Nat->List aa->List aa
 |_,[]=>[]
 |j,x::xs=>fold κ e j x::iw κ e (j+ir x) xs
end
def je(ν:aC)(k:ar)(b:Nat):Prop:= ∃n v,ν.ow k=some (n,v)/\v.ownBlock=some b
mutual
def dw(ν:aC)(R:Nat->Prop)(e:List (ar×cw)):aa->List (Nat->Prop)
 | .slice _ tag xs=>match tag with| .tr k i=>[fun b=>ν.tr k i b/\¬R b]| .own k=>[fun b=>je ν k b\/(hi ν (tnL xs) b/\¬R b)]|_=>[fun _=>c1]
 | .row _ k _=>[fun b=>je ν k b\/(hi ν (tnL (o0 e k)) b/\¬R b)]
 | .agg cs=>jS ν R e cs
 | .tuple cs=>jS ν R e cs
 |_=>[]
def jS(ν:aC)(R:Nat->Prop)(e:List (ar×cw)):List aa->List (Nat->Prop)
 |[]=>[]
 |x::xs=>dw ν R e x++jS ν R e xs
end
mutual
def q5(ν:aC)(R:Nat->Prop)(e:List (ar×cw)):∀p,(dw ν R e p).length=ir p
 | .slice _ tag _=>by cases tag<;>simp[dw,ir]
 | .row _ k _=>by simp[dw,ir]
 | .agg cs=>by simp[dw,ir,B8 ν R e cs]
 | .tuple cs=>by simp[dw,ir,B8 ν R e cs]
 | .int _ _=>rfl
 | .bool _=>rfl
 | .str _=>rfl
 | .junk=>rfl
 | .ptr _ _=>rfl
 | .eptr _=>rfl
 | .iface _ _=>rfl
 | .nilp=>rfl
 | .func _ _=>rfl
 | .gmap _=>rfl
 | .rptr _ _ _ _ _=>rfl
 | .hdm _ _=>rfl
 | .hdi _ _ _=>rfl
 | .cst _=>rfl
def B8(ν:aC)(R:Nat->Prop)(e:List (ar×cw)):∀p,(jS ν R e p).length=ld p
 |[]=>rfl
 |x::xs=>by simp[jS,ld,q5 ν R e x,B8 ν R e xs]
end
def vT(ν:aC)(R:Nat->Prop)(ns:List (ar×Nat))(rw:List ar)(b:Nat):Prop:=(∃k∈rw,je ν k b)\/(hi ν ns b/\¬R b)
mutual
def uV{ν:aC}{R:Nat->Prop}{e:List (ar×cw)}:∀(p:aa) (i:Nat) (S:Nat->Prop),(dw ν R e p)[i]? =some S->∀b,S b->vT ν R (dN e p) (dr p) b
 | .slice _ tag _,i,S,h,b,a=>by
  cases tag<;>(simp only[dw]at h;cases i<;>simp at h;subst h);all_goals first|exact a.elim|skip
  ·rcases a with a|a
   ·exact .inl ⟨_,by simp[dr],a⟩
   ·exact .inr (by simpa only[dN]using a)
  ·exact .inr ⟨⟨_,_,by simp[dN],a.1⟩,a.2⟩
 | .row _ k _,i,S,h,b,a=>by
  simp only[dw]at h;cases i<;>simp at h;subst h;rcases a with a|a
  ·exact .inl ⟨k,by simp[dr],a⟩
  ·exact .inr (by simpa only[dN]using a)
 | .agg cs,i,S,h,b,a=>by simp only[dw,dN,dr]at h⊢;exact uU cs i S h b a
 | .tuple cs,i,S,h,b,a=>by simp only[dw,dN,dr]at h⊢;exact uU cs i S h b a
 | .int _ _,_,_,h,_,_=>by simp[dw]at h
 | .bool _,_,_,h,_,_=>by simp[dw]at h
 | .str _,_,_,h,_,_=>by simp[dw]at h
 | .junk,_,_,h,_,_=>by simp[dw]at h
 | .ptr _ _,_,_,h,_,_=>by simp[dw]at h
 | .eptr _,_,_,h,_,_=>by simp[dw]at h
 | .iface _ _,_,_,h,_,_=>by simp[dw]at h
 | .nilp,_,_,h,_,_=>by simp[dw]at h
 | .func _ _,_,_,h,_,_=>by simp[dw]at h
 | .gmap _,_,_,h,_,_=>by simp[dw]at h
 | .rptr _ _ _ _ _,_,_,h,_,_=>by simp[dw]at h
 | .hdm _ _,_,_,h,_,_=>by simp[dw]at h
 | .hdi _ _ _,_,_,h,_,_=>by simp[dw]at h
 | .cst _,_,_,h,_,_=>by simp[dw]at h
def uU{ν:aC}{R:Nat->Prop}{e:List (ar×cw)}:∀(p:List aa) (i:Nat) (S:Nat->Prop),(jS ν R e p)[i]? =some S->∀b,S b->vT ν R (gT e p) (gD p) b
 |[],i,S,h,b,a=>by simp[jS]at h
 |x::xs,i,S,h,b,a=>by
  simp only[jS]at h;simp only[gT,gD];by_cases az:i<(dw ν R e x).length
  ·rw[ks az]at h;rcases uV x i S h b a with⟨k,I,J⟩|⟨I,J⟩
   ·exact .inl ⟨k,List.mem_append_left _ I,J⟩
   ·exact .inr ⟨sp (fun _ h=>List.mem_append_left _ h) b I,J⟩
  ·rw[List.getElem?_append_right Ω]at h;rcases uU xs _ S h b a with⟨k,I,J⟩|⟨I,J⟩
   ·exact .inl ⟨k,List.mem_append_right _ I,J⟩
   ·exact .inr ⟨sp (fun _ h=>List.mem_append_right _ h) b I,J⟩
end
structure sW (ν:aC) (R:Nat->Prop) (rw:List ar):Prop where
 trd:∀k j aQ cU b,ν.tr k j b->ν.tr aQ cU b->k=aQ/\j=cU
 inj:∀k aQ b,k∈rw->aQ∈rw->je ν k b->je ν aQ b->k=aQ
 R:∀k b,k∈rw->je ν k b->R b
def EU{ν:aC}{R:Nat->Prop}{rw:List ar}(he:sW ν R rw){h i:List (ar×Nat)}{g f:List ar}(n:(h++i).Nodup)(l:(g++f).Nodup)(I:∀k∈g,k∈rw)(J:∀k∈f,k∈rw)(b:Nat)(m:vT ν R h g b):¬vT ν R i f b:=by
 rintro j;rcases m with⟨k,c,e⟩|⟨c,e⟩<;>rcases j with⟨aQ,a,d⟩|⟨a,d⟩
 ·have:=he.inj k aQ b (I k c) (J aQ a) e d;subst this;exact(ma.1 l).2.2 _ c _ a rfl
 ·exact d (he.R k b (I k c) e)
 ·exact e (he.R aQ b (J aQ a) d)
 ·exact Bc he.trd n b c a
mutual
def I0{ν:aC}{R:Nat->Prop}{rw:List ar}(he:sW ν R rw){e:List (ar×cw)}:∀(p:aa),(dN e p).Nodup->(dr p).Nodup->(∀k∈dr p,k∈rw)->∀(i d:Nat) (S c:Nat->Prop),(dw ν R e p)[i]? =some S->(dw ν R e p)[d]? =some c->∀b,S b->c b->i=d
 | .slice sz tag xs,_,_,_,i,d,S,c,h,a,b,_,_=>by have m:(dw ν R e (.slice sz tag xs)).length=1:=q5 ν R e _;have:=(eQ.1 h).1;have:=(eQ.1 a).1;omega
 | .row sz k n,_,_,_,i,d,S,c,h,a,b,_,_=>by have m:(dw ν R e (.row sz k n)).length=1:=q5 ν R e _;have:=(eQ.1 h).1;have:=(eQ.1 a).1;omega
 | .agg cs,g,f,U,i,d,S,c,h,a,b,l,j=>by simp only[dw,dN,dr]at h a g f U;exact B7 he cs g f U i d S c h a b l j
 | .tuple cs,g,f,U,i,d,S,c,h,a,b,l,j=>by simp only[dw,dN,dr]at h a g f U;exact B7 he cs g f U i d S c h a b l j
 | .int _ _,_,_,_,_,_,_,_,h,_,_,_,_=>by simp[dw]at h
 | .bool _,_,_,_,_,_,_,_,h,_,_,_,_=>by simp[dw]at h
 | .str _,_,_,_,_,_,_,_,h,_,_,_,_=>by simp[dw]at h
 | .junk,_,_,_,_,_,_,_,h,_,_,_,_=>by simp[dw]at h
 | .ptr _ _,_,_,_,_,_,_,_,h,_,_,_,_=>by simp[dw]at h
 | .eptr _,_,_,_,_,_,_,_,h,_,_,_,_=>by simp[dw]at h
 | .iface _ _,_,_,_,_,_,_,_,h,_,_,_,_=>by simp[dw]at h
 | .nilp,_,_,_,_,_,_,_,h,_,_,_,_=>by simp[dw]at h
 | .func _ _,_,_,_,_,_,_,_,h,_,_,_,_=>by simp[dw]at h
 | .gmap _,_,_,_,_,_,_,_,h,_,_,_,_=>by simp[dw]at h
 | .rptr _ _ _ _ _,_,_,_,_,_,_,_,h,_,_,_,_=>by simp[dw]at h
 | .hdm _ _,_,_,_,_,_,_,_,h,_,_,_,_=>by simp[dw]at h
 | .hdi _ _ _,_,_,_,_,_,_,_,h,_,_,_,_=>by simp[dw]at h
 | .cst _,_,_,_,_,_,_,_,h,_,_,_,_=>by simp[dw]at h
def B7{ν:aC}{R:Nat->Prop}{rw:List ar}(he:sW ν R rw){e:List (ar×cw)}:∀(p:List aa),(gT e p).Nodup->(gD p).Nodup->(∀k∈gD p,k∈rw)->∀(i d:Nat) (S c:Nat->Prop),(jS ν R e p)[i]? =some S->(jS ν R e p)[d]? =some c->∀b,S b->c b->i=d
 |[],_,_,_,i,d,S,c,h,_,_,_,_=>by simp[jS]at h
 |x::xs,g,f,U,i,d,S,c,h,a,b,l,j=>by
  simp only[jS]at h a;simp only[gT]at g;simp only[gD]at f U;have m:∀k∈dr x,k∈rw:=fun k o=>U k (List.mem_append_left _ o);have n:∀k∈gD xs,k∈rw:=fun k o=>U k (List.mem_append_right _ o);by_cases az:i<(dw ν R e x).length<;>by_cases q:d<(dw ν R e x).length
  ·rw[ks az]at h;rw[ks q]at a;exact I0 he x (ma.1 g).1 (ma.1 f).1 m i d S c h a b l j
  ·rw[ks az]at h;rw[List.getElem?_append_right Ω]at a;exact absurd (uU xs _ c a b j) (EU he g f m n b (uV x i S h b l))
  ·rw[List.getElem?_append_right Ω]at h;rw[ks q]at a;exact absurd (uU xs _ S h b l) (EU he g f m n b (uV x d c a b j))
  ·rw[List.getElem?_append_right Ω]at h a;have:=B7 he xs (ma.1 g).2.1 (ma.1 f).2.1 n _ _ S c h a b l j;omega
end
end
section
open Go Go.RowKit
def Co{w:World}{μ:aC}{k:ar}{j sz:Nat}{tag:hI}{ys:List aa}{v:Value}(h:bJ true w μ.A (μ.tr k j) (.slice sz tag ys) v)(a:bt ys=ys):aw w μ (.slice sz (.tr k j) ys) v:=by have I:=vX (ν:=μ) (fun _ _ h=>h) _ _ _ h;simp only[bE,a]at I;simp only[aw]at I⊢;refine⟨I.1,fun e=>(by cases e),fun _ e=>(by cases e),fun aQ cU e=>?_,fun _ e=>(by cases e)⟩;cases e;simp only[bJ]at h⊢;exact h
section
variable {pr:Nat->Prop} {w:World} {ν μ:aC} {B:List (ar×List aa)} {e:List (ar×cw)} {R:Nat->Prop} {rw:List ar} {κ:Nat}
 (aM:Good pr w ν B e) (he:sW ν R rw) (cR:∀b,R b->∀k j,¬ν.tr k j b) (tz:∀b o,ν.A b o->μ.A b o) (qq:∀k∈rw,∀own,ab k e=some own->∀b,je ν k b->∀o,o<own.n*own.sz->μ.A b o)
include aM he cR tz qq
mutual
theorem zq:∀(p:aa) (v:Value) (j:Nat),aw w ν p v->eN e p->(dN e p).Nodup->(∀k∈dr p,k∈rw)->(∀i S,(dw ν R e p)[i]? =some S->∀b,S b->μ.tr (.loc κ) (j+i) b)->aw w μ (fold κ e j p) v
 | .int k n,v,_,h,_,_,_,_=>by simpa only[aw,fold]using h
 | .bool b,v,_,h,_,_,_,_=>by simpa only[aw,fold]using h
 | .str s,v,_,h,_,_,_,_=>by simpa only[aw,fold]using h
 | .slice sz tag xs,v,j,h,ag,l,U,f=>by
  simp only[aw]at h;obtain⟨⟨a,cap,I,J,Z,aF⟩,_,dn,lP,_⟩:=h;simp only[fold];refine Co (tag:= .no) ?_ (nQ xs);by_cases y:∃k i,tag= .tr k i
  ·obtain⟨k,i,rfl⟩:=y;have aH:=tv .no v (lP k i rfl);refine oj (fun b o h=>⟨tz b o h,rfl⟩) (fun _ _ _=>rfl) _ _ _ v (fun b d=>?_) aH;simpa using f 0 (fun b=>ν.tr k i b/\¬R b) (by simp[dw]) b ⟨d,fun A=>cR b A _ _ d⟩
  by_cases W:∃k,tag= .own k
  ·obtain⟨k,rfl⟩:=W;simp only[eN]at ag;obtain⟨_,⟨el,B⟩,L,O⟩:=ag;obtain⟨n',u,g1,g2,g3⟩:=dn k rfl;obtain⟨v0,dJ,q,r,P,Y⟩:=aM.own k _ B;simp only at q r P;rw[g1]at q;simp only[dq,ho]at q;obtain⟨rfl,rfl⟩:=q;have Q:=g3 rfl;subst Q;have F:k∈rw:=U k (by simp[dr]);simp only[bJ];refine⟨a,cap,by rw[iH];exact I,by rw[iH];exact J,by rw[iH];exact Z,?_⟩;rcases aF with rfl|⟨b,off,us,E,b4,X⟩
   ·exact .inl rfl
   by_cases z:xs=[]
   ·left;rw[z];rfl
   right;subst E;rcases r.2 with⟨E,_⟩|⟨g,tg,cur,f1,f2,f3,f4,f5,f6,f7⟩
   ·rw[E]at I;cases I
   have G:v.ownBlock=some g:=by rw[f1];rfl
   have x:je ν k g:=⟨_,_,g1,G⟩;have t:∀b,(je ν k b\/(hi ν (tnL xs) b/\¬R b))->μ.tr (.loc κ) j b:=fun b d=>by simpa using f 0 (fun b=>je ν k b\/(hi ν (tnL xs) b/\¬R b)) (by simp[dw]) b d
   rw[f1]at I;simp only[X1,dq,Addr.mk.injEq]at I;obtain⟨⟨rfl,rfl,_⟩,_,rfl⟩:=I;have hlen:=lA X;refine⟨g,0,us,fun c=>hi ν (tnL xs) c/\¬R c,rfl,t g (.inl x),fun c aA=>⟨t c (.inr aA),fun _ K=>aA.2 (by rw[K];exact he.R k g F x)⟩,sb (fun b o h=>⟨tz b o h,rfl⟩) _ _ b4,fun _=>⟨rfl,?_,el,?_⟩,?_⟩
   ·rw[hlen];exact Nat.mul_pos (List.length_pos_iff.2 z) O
   ·simp only[shape,f3,f6]
   ·have I:=Bl he.trd xs us X L (by simpa only[dN]using l);exact vV (fun b o h=>⟨tz b o h,rfl⟩) (fun _ _ _=>rfl) _ _ _ us (fun b d=>⟨d,fun A=>by obtain⟨aQ,hP,_,y⟩:=d;exact cR b A _ _ y⟩) I
  ·have ad:xs=[]:=by
    simp only[eN]at ag;split at ag
    ·exact absurd ⟨_,_,rfl⟩ y
    ·exact absurd ⟨_,rfl⟩ W
    ·exact ag
   subst ad;simp only[bt,bJ];exact⟨a,cap,I,J,Z,.inl trivial⟩
 | .row sz k n,v,j,h,ag,l,U,f=>by
  simp only[eN]at ag;obtain⟨⟨m,hm⟩,⟨xs,el,B,L⟩,O⟩:=ag;have N:o0 e k=xs:=by simp[o0,B]
  simp only[aw]at h;obtain⟨⟨Kp,j5,V⟩,gy,n',u,g1,g2,g3⟩:=h;obtain⟨v0,us,q,r,P,Y⟩:=aM.own k _ B;simp only at q r P;rw[g1]at q;simp only[dq,ho]at q;obtain⟨rfl,rfl⟩:=q;have Q:=g3 rfl;subst Q;obtain⟨H,M,nO⟩:=Y xs rfl;simp only at H M;have F:k∈rw:=U k (by simp[dr]);rcases r.2 with⟨E,_⟩|⟨g,cap,cur,f1,f2,f3,f4,f5,f6,f7⟩
  ·rw[E]at V;cases V
  have G:v.ownBlock=some g:=by rw[f1];rfl
  have x:je ν k g:=⟨_,_,g1,G⟩;have t:∀b,(je ν k b\/(hi ν (tnL (o0 e k)) b/\¬R b))->μ.tr (.loc κ) j b:=fun b d=>by simpa using f 0 (fun b=>je ν k b\/(hi ν (tnL (o0 e k)) b/\¬R b)) (by simp[dw]) b d
  rw[N]at t;simp only[fold,N];refine Co (tag:= .no) ?_ (nQ xs);simp only[bJ];refine⟨some ⟨g,0,none⟩,cap,by rw[iH,H];exact f1,by rw[iH,H];exact f4,⟨f5,by rw[iH,H];exact gy⟩,?_⟩;by_cases z:xs=[]
  ·left;rw[z];rfl
  ·right;have hlen:=lA M;refine⟨g,0,us,fun c=>hi ν (tnL xs) c/\¬R c,rfl,t g (.inl x),fun c aA=>⟨t c (.inr aA),fun _ K=>aA.2 (by rw[K];exact he.R k g F x)⟩,w9 us 0 fun i u az=>?_,fun _=>⟨rfl,?_,el,?_⟩,?_⟩
   ·have zV:i<us.length:=(eQ.1 az).1;refine⟨qq k F _ B g x _ (by simp only;rw[r.1]at zV;omega),?_⟩;have:=r.cells G i u az;rwa[j3]at this
   ·rw[hlen];exact Nat.mul_pos (List.length_pos_iff.2 z) O
   ·simp only[shape,f3,f6]
   ·have I:=Bl he.trd xs us M L (by simpa only[dN,N]using l);exact vV (fun b o h=>⟨tz b o h,rfl⟩) (fun _ _ _=>rfl) _ _ _ us (fun b d=>⟨d,fun A=>by obtain⟨aQ,hP,_,y⟩:=d;exact cR b A _ _ y⟩) I
 | .agg cs,v,j,h,ag,l,U,f=>by simp only[aw,eN,dN,dr,dw,fold]at h ag l U f⊢;obtain⟨us,I,J⟩:=h;exact⟨us,I,ER cs _ j J ag l U f⟩
 | .tuple cs,v,j,h,ag,l,U,f=>by simp only[aw,eN,dN,dr,dw,fold]at h ag l U f⊢;obtain⟨us,I,J⟩:=h;exact⟨us,I,ES cs _ j J ag l U f⟩
 | .junk,_,_,_,ag,_,_,_=>by simp[eN]at ag
 | .ptr _ _,_,_,_,ag,_,_,_=>by simp[eN]at ag
 | .eptr _,_,_,_,ag,_,_,_=>by simp[eN]at ag
 | .iface _ _,_,_,_,ag,_,_,_=>by simp[eN]at ag
 | .nilp,_,_,_,ag,_,_,_=>by simp[eN]at ag
 | .func _ _,_,_,_,ag,_,_,_=>by simp[eN]at ag
 | .gmap _,_,_,_,ag,_,_,_=>by simp[eN]at ag
 | .rptr _ _ _ _ _,_,_,_,ag,_,_,_=>by simp[eN]at ag
 | .hdm _ _,_,_,_,ag,_,_,_=>by simp[eN]at ag
 | .hdi _ _ _,_,_,_,ag,_,_,_=>by simp[eN]at ag
 | .cst _,_,_,_,ag,_,_,_=>by simp[eN]at ag
theorem ER:∀(cs:List aa) (us:List Value) (j:Nat),bL w ν cs us->hS e cs->(gT e cs).Nodup->(∀k∈gD cs,k∈rw)->(∀i S,(jS ν R e cs)[i]? =some S->∀b,S b->μ.tr (.loc κ) (j+i) b)->bL w μ (iw κ e j cs) us
 |[],us,j,h,_,_,_,_=>by simpa only[bL,iw]using h
 |c::cs,us,j,h,ag,m,U,d=>by
  simp only[bL,hS,gT,gD,jS,iw]at h ag m U d⊢;obtain⟨u,l,I,⟨J,n⟩,o⟩:=h;have g:=ma.1 m;refine⟨u,l,I,⟨zq c u j J ag.1 g.1 (fun k a=>U k (List.mem_append_left _ a)) (fun i S az b f=>d i S (by rw[ks (eQ.1 az).1];exact az) b f),n⟩,
   ER cs l _ o ag.2 g.2.1 (fun k a=>U k (List.mem_append_right _ a)) (fun i S az b f=>?_)⟩
  have:=d (ir c+i) S (by rw[List.getElem?_append_right (by rw[q5];omega),q5];simpa using az) b f;rwa[<-Nat.add_assoc]at this
theorem ES:∀(cs:List aa) (us:List Value) (j:Nat),bT w ν cs us->hS e cs->(gT e cs).Nodup->(∀k∈gD cs,k∈rw)->(∀i S,(jS ν R e cs)[i]? =some S->∀b,S b->μ.tr (.loc κ) (j+i) b)->bT w μ (iw κ e j cs) us
 |[],us,j,h,_,_,_,_=>by simpa only[bT,iw]using h
 |c::cs,us,j,h,ag,m,U,d=>by
  simp only[bT,hS,gT,gD,jS,iw]at h ag m U d⊢;obtain⟨u,l,I,J,n⟩:=h;have g:=ma.1 m;refine⟨u,l,I,zq c u j J ag.1 g.1 (fun k a=>U k (List.mem_append_left _ a)) (fun i S az b f=>d i S (by rw[ks (eQ.1 az).1];exact az) b f),
   ES cs l _ n ag.2 g.2.1 (fun k a=>U k (List.mem_append_right _ a)) (fun i S az b f=>?_)⟩
  have:=d (ir c+i) S (by rw[List.getElem?_append_right (by rw[q5];omega),q5];simpa using az) b f;rwa[<-Nat.add_assoc]at this
end
end
end
section
open Go Go.RowKit
mutual
def Hl:∀p:aa,e8 p->∀x∈tn p,x.1≠dU
 | .slice _ tag xs,ag,x,a=>by cases tag<;>simp only[tn,e8]at ag a<;>simp at a;subst a;exact ag
 | .agg cs,ag,x,a=>by simp only[tn,e8]at ag a;exact xt cs ag x a
 | .int _ _,_,_,a=>by simp[tn]at a
 | .bool _,_,_,a=>by simp[tn]at a
 | .str _,_,_,a=>by simp[tn]at a
 | .junk,_,_,a=>by simp[tn]at a
 | .ptr _ _,_,_,a=>by simp[tn]at a
 | .eptr _,_,_,a=>by simp[tn]at a
 | .iface _ _,_,_,a=>by simp[tn]at a
 | .nilp,_,_,a=>by simp[tn]at a
 | .tuple _,_,_,a=>by simp[tn]at a
 | .func _ _,_,_,a=>by simp[tn]at a
 | .gmap _,_,_,a=>by simp[tn]at a
 | .row _ _ _,_,_,a=>by simp[tn]at a
 | .rptr _ _ _ _ _,_,_,a=>by simp[tn]at a
 | .hdm _ _,_,_,a=>by simp[tn]at a
 | .hdi _ _ _,_,_,a=>by simp[tn]at a
 | .cst _,_,_,a=>by simp[tn]at a
def xt:∀p:List aa,gq p->∀x∈tnL p,x.1≠dU
 |[],_,x,a=>by simp[tnL]at a
 |c::cs,ag,x,a=>by
  simp only[tnL,gq,lF]at ag a;rcases a with a|a
  ·exact Hl c ag.1 x a
  ·exact xt cs ag.2 x a
end
mutual
def Hn{e:List (ar×cw)}:∀p:aa,eN e p->∀x∈dN e p,x.1≠dU
 | .slice _ tag xs,ag,x,a=>by
  cases tag with
  |own k=>simp only[dN,eN]at ag a;exact xt xs ag.2.2.1 x a
  |tr k i=>simp only[dN,eN]at ag a;simp at a;subst a;exact ag
  |no=>simp[dN]at a
  |nil=>simp[dN]at a
  |lo k=>simp[dN]at a
 | .row _ k _,ag,x,a=>by simp only[dN,eN]at ag a;obtain⟨_,⟨xs,el,c,b⟩,_⟩:=ag;rw[show o0 e k=xs from by simp[o0,c]]at a;exact xt xs b x a
 | .agg cs,ag,x,a=>by simp only[dN,eN]at ag a;exact Bi cs ag x a
 | .tuple cs,ag,x,a=>by simp only[dN,eN]at ag a;exact Bi cs ag x a
 | .int _ _,_,_,a=>by simp[dN]at a
 | .bool _,_,_,a=>by simp[dN]at a
 | .str _,_,_,a=>by simp[dN]at a
 | .junk,_,_,a=>by simp[dN]at a
 | .ptr _ _,_,_,a=>by simp[dN]at a
 | .eptr _,_,_,a=>by simp[dN]at a
 | .iface _ _,_,_,a=>by simp[dN]at a
 | .nilp,_,_,a=>by simp[dN]at a
 | .func _ _,_,_,a=>by simp[dN]at a
 | .gmap _,_,_,a=>by simp[dN]at a
 | .rptr _ _ _ _ _,_,_,a=>by simp[dN]at a
 | .hdm _ _,_,_,a=>by simp[dN]at a
 | .hdi _ _ _,_,_,a=>by simp[dN]at a
 | .cst _,_,_,a=>by simp[dN]at a
def Bi{e:List (ar×cw)}:∀p:List aa,hS e p->∀x∈gT e p,x.1≠dU
 |[],_,x,a=>by simp[gT]at a
 |c::cs,ag,x,a=>by
  simp only[gT,hS,lF]at ag a;rcases a with a|a
  ·exact Hn c ag.1 x a
  ·exact Bi cs ag.2 x a
end
mutual
def xu{e:List (ar×cw)}:∀p:aa,eN e p->∀k∈dr p,∃own,ab k e=some own
 | .row sz k n,ag,aQ,U=>by simp only[dr,eN]at ag U;obtain⟨_,⟨xs,el,b,c⟩,_⟩:=ag;simp at U;subst U;exact⟨_,b⟩
 | .agg cs,ag,x,a=>by simp only[dr,eN]at ag a;exact Bj cs ag x a
 | .tuple cs,ag,x,a=>by simp only[dr,eN]at ag a;exact Bj cs ag x a
 | .slice sz tag xs,ag,aQ,U=>by
  cases tag with
  |own k=>simp only[dr,eN]at ag U;obtain⟨_,⟨el,b⟩,_⟩:=ag;simp at U;subst U;exact⟨_,b⟩
  |tr k i=>simp[dr]at U
  |no=>simp[dr]at U
  |nil=>simp[dr]at U
  |lo k=>simp[dr]at U
 | .int _ _,_,_,a=>by simp[dr]at a
 | .bool _,_,_,a=>by simp[dr]at a
 | .str _,_,_,a=>by simp[dr]at a
 | .junk,_,_,a=>by simp[dr]at a
 | .ptr _ _,_,_,a=>by simp[dr]at a
 | .eptr _,_,_,a=>by simp[dr]at a
 | .iface _ _,_,_,a=>by simp[dr]at a
 | .nilp,_,_,a=>by simp[dr]at a
 | .func _ _,_,_,a=>by simp[dr]at a
 | .gmap _,_,_,a=>by simp[dr]at a
 | .rptr _ _ _ _ _,_,_,a=>by simp[dr]at a
 | .hdm _ _,_,_,a=>by simp[dr]at a
 | .hdi _ _ _,_,_,a=>by simp[dr]at a
 | .cst _,_,_,a=>by simp[dr]at a
def Bj{e:List (ar×cw)}:∀p:List aa,hS e p->∀k∈gD p,∃own,ab k e=some own
 |[],_,x,a=>by simp[gD]at a
 |c::cs,ag,x,a=>by
  simp only[gD,hS,lF]at ag a;rcases a with a|a
  ·exact xu c ag.1 x a
  ·exact Bj cs ag.2 x a
end
def jD(d:List cg)(s:b1)(κ:Nat)(Q:aa->b1->Prop)(e:Exit)(st:aN):Prop:=
 (e= .ret\/e= .normal)/\match bq st d with
  |some (c,b)=>c/\∃a,a.e=[]/\iD a s.b/\ko (a7 a) a.b st.b/\e7 a/\(eN st.e (ba b)/\(dN st.e (ba b)).Nodup/\(dr (ba b)).Nodup)/\Q (fold κ st.e 0 (ba b)) a
  |none=>c1
noncomputable def aC.fold(ν:aC)(a:b1)(κ:Nat)(e:List (ar×cw))(p:aa):aC:=
 {A:=fun b o=>ν.A b o\/ ∃k,k∈dr p/\∃own,ab k e=some own/\je ν k b/\o<own.n*own.sz,
  bx:=(ν.cut (a7 a)).bx,ow:=fun _=>none,
  tr:=fun k j b=>k= .loc κ/\∃S,(dw ν (fun b=> ∃k,k∈dr p/\je ν k b) e p)[j]? =some S/\S b}
def na.of{P:bp}(hm:P.follows .mixedOrders=true){aE:List (Nat×cQ)}(av:e1 P aE=true){f:FuncId}{fn:Func}(aH:P.funcs[f]? =some fn){code:Code}(af:fn.body=some code)(oF:(fn.name== "runtime.NumGoroutine")=false){c:C}(aA:eY fn.ntmps aE c code=true){cV:List cg}(kQ:km aE cV fn.results.toList=true)
  {args:List aa} (ao:args.length<=fn.ntmps) {s:b1} (iz:e7 s) (iV:s.e=[]) {κ:Nat} {Q:aa->b1->Prop} (he:gQ args->(∀j cs,ab j s.b=some cs->et cs=true->gR cs)->b5 P (b2 s) c (jD cV s κ Q) ⟨fG 0 args,s.b,s.e,0,b2 s⟩):na P f κ args s Q:=by
 intro w ν aJ aM ad aq;refine .inl ⟨⟨fn,aH,by simp[af],oF⟩,?_⟩;have jo:=qY aq;have jL:aJ.size=args.length:=by simpa using jo
 let X:dk:=⟨w,ν,dE ν s,fn.ntmps,b2 s⟩
 have iT:∀k,fresh 0 (b2 s) k->ν.bx k=none/\ν.ow k=none/\∀j b,¬ν.tr k j b:=by
  intro k U;cases k with
  |loc m=>exact⟨(ad _).1 (iz.1 m),(ad _).2.1 (iz.2 m),(ad _).2.2⟩
  |obj m=>
   simp only[fresh,true_and]at U;refine⟨?_,?_,(ad _).2.2⟩
   ·refine(ad _).1 ?_;cases h:ab (.obj m) s.b with
    |none=>rfl
    |some x=>exact absurd (mJ (.inl (by simp[h]))) U
   ·refine(ad _).2.1 ?_;cases h:ab (.obj m) s.e with
    |none=>rfl
    |some x=>exact absurd (mJ (.inr (by simp[h]))) U
 have hy:∀m,(ν.bx (.obj m)≠none\/ν.ow (.obj m)≠none)-> .obj m∈b2 s:=by
  intro m hm;refine Classical.byContradiction fun aA=>?_;obtain⟨I,J,_⟩:=iT (.obj m) ⟨trivial,aA⟩;rcases hm with hm|hm
  ·exact hm I
  ·exact hm J
 have lp:bO X ⟨fG 0 args,s.b,s.e,0,b2 s⟩ {tmps:=aJ++Array.replicate (fn.ntmps-aJ.size) undef,defers:=[]} w ν:=by
  refine⟨⟨aM.alt,fun k cs U=>?_,aM.inj,fun g o cX=>?_,aM.oinj,aM.obx,aM.one,aM.otr⟩,⟨rfl,rfl,rfl,di _,fun _ _ _=>rfl,fun b o h=>⟨h,rfl⟩,fun b o h=>.inl h,fun n b h=>h,fun n b h=>hy n (.inl (by rw[h];simp)),fun m n u h=>⟨n,u,h,.inl ⟨rfl,rfl⟩⟩,fun m n u h=>hy m (.inr (by rw[h];simp)),fun k j _ _ b h=>absurd h ((ad k).2.2 j b),fun k j b h=>absurd h ((ad k).2.2 j b),fun k j b h=>absurd h ((ad k).2.2 j b),fun _ _ _=>rfl⟩,rfl,?_,fun i=>?_,iT⟩
  ·obtain⟨bl,us,el,g1,g2,g3⟩:=aM.box k cs U;exact⟨bl,us,el,g1,.inl g2,g3⟩
  ·obtain⟨v,us,g1,g2,g3,g4⟩:=aM.own g o cX;exact⟨v,us,g1,g2,fun bl fe=>⟨.inl (g3 bl fe).1,(g3 bl fe).2⟩,g4⟩
  ·show(aJ++Array.replicate (fn.ntmps-aJ.size) undef).size=fn.ntmps;simp;omega
  ·rw[v8];by_cases az:i<args.length
   ·rw[if_pos Ω];have lS:args[i]? =some args[i]:=cl az;obtain⟨v,ai,aD⟩:=uJ i aq lS;have aW:(aJ++Array.replicate (fn.ntmps-aJ.size) undef).getD i undef=v:=by
     have pe:aJ[i]? =some v:=by simpa using ai
     rw[Array.getD_eq_getD_getElem?,Array.getElem?_append_left Ω,pe];rfl
    show aw w ν _ ((aJ++Array.replicate (fn.ntmps-aJ.size) undef).getD i undef);rw[aW];simpa[List.getD,lS]using aD
   ·rw[bH Ω];simp[aw]
 have ox:=he (BS aq) (fun j cs au=>by obtain⟨bl,us,el,_,_,_,_,g5⟩:=aM.box j cs au;exact BO g5);have AD:=kH hm av (X:=X) c code (jD cV s κ Q) _ aA ox _ w ν lp;refine calls_of_wp aH af (wp_mono AD fun e bG w' bM=>?_);obtain⟨st',aI,⟨mu,bb⟩,bX⟩:=bM;cases kP:bq st' cV with
 |none=>simp[kP]at bb
 |some x=>
  obtain⟨fC,aU⟩:=x;simp only[kP]at bb;obtain⟨ix,ak,hs'e,kb,a8,cz,⟨ok,nd,rd⟩,cD⟩:=bb;obtain⟨ju,g1,g2⟩:=xU av bX cV fn.results.toList fC aU kQ kP ix;have wP:=qY g2;have iS:bG.defers=[]/\∃v,(results fn bG.tmps).run P w'= .ok v w'/\(fun(e:Ending) w'=> ∃v r ak aI,e= .returned v/\Q r ak/\aw w' aI r v/\Good (fun bl=>dE ν s bl\/w.heap.size<=bl) w' aI ak.b ak.e/\rE (some κ) aI ak/\e7 ak/\kA ⟨w,ν,dE ν s,0,b2 s⟩ w' aI) (.returned v) w':=by
   refine⟨bX.defers,?_⟩;have fW:(results fn bG.tmps).run P w'= .ok (if h:ju.toArray.size=1 then ju.toArray[0]else .tuple ju.toArray) w':=by rw[ID];simp only[dQ,Array.mapM_eq_mapM_toList,Sem.run_map,g1,dV,eP]
   have pA:∀k,a7 ak k->(ab k ak.b).isSome/\(ab k st'.b).isSome:=fun k U=>by
    have I:(ab k ak.b).isSome:=by
     rcases U with U|U
     ·exact U
     ·rw[hs'e]at U;simp[ab]at U
    obtain⟨cs,ck⟩:=dt.1 I;exact⟨I,by simp[(a8 k cs ck).1]⟩
   have fV:∀k b,k∈dr (ba aU)->je aI k b->∃own,ab k st'.e=some own/\(X.pr b)/\b<w'.heap.size/\(∀k j,¬aI.tr k j b)/\(∀aQ,(ab aQ st'.b).isSome->aI.bx aQ≠some b):=by rintro k b U ⟨n,v,I,J⟩;obtain⟨own,jI⟩:=xu _ ok k U;obtain⟨v0,us,gK,ib,nK,WK⟩:=bX.good.own k _ jI;rw[I]at gK;simp only[dq,ho]at gK;obtain⟨rfl,rfl⟩:=gK;exact⟨_,jI,(nK b J).1,bX.good.ownLt jI I J,bX.good.otr b (.inr ⟨k,_,_,by simp[jI],I,J⟩),fun aQ hz gx=>bX.good.obx k aQ _ _ b (by simp[jI]) hz I J gx⟩
   have O0:∀k b,k∈dr (ba aU)->je aI k b->w.heap.size<=b:=by
    intro k b U en;obtain⟨own,_,I,_,_,a6⟩:=fV k b U en;rcases I with I|I
    ·exfalso;rcases I with⟨aQ,bd,a2⟩|⟨g,n,v,bd,_⟩
     ·cases aQ with
      |loc m=>rw[iz.1 m]at bd;cases bd
      |obj m=>exact a6 _ (pA _ (pL kb _ bd)).2 (bX.fr.obj m b a2)
     ·rw[iV]at bd;simp[ab]at bd
    ·exact I
   have wv:sW aI (fun b=> ∃k,k∈dr (ba aU)/\je aI k b) (dr (ba aU)):=by refine⟨bX.fr.trd,fun k aQ b U hz I J=>?_,fun k b U h=>⟨k,U,h⟩⟩;obtain⟨n,v,bd,a2⟩:=I;obtain⟨n',v',bQ,b0⟩:=J;obtain⟨_,cm⟩:=xu _ ok k U;obtain⟨_,cM⟩:=xu _ ok aQ hz;exact bX.good.oinj k aQ n n' v v' b (by simp[cm]) (by simp[cM]) bd bQ a2 b0
   refine⟨_,fW,_,Pv.fold κ st'.e 0 (ba aU),ak,aI.fold ak κ st'.e (ba aU),rfl,cD,?_,?_,?_,cz,?_⟩
   ·show aw w' (aI.fold ak κ st'.e (ba aU)) _ _;have iU:aw w' aI (ba aU) (if h:ju.toArray.size=1 then ju.toArray[0]else .tuple ju.toArray):=by
     match aU,ju,g2,wP with
     |[p],[v],g2,_=>simp only[bT]at g2;obtain⟨u,aY,ai,aD,_⟩:=g2;cases ai;simpa[ba]using aD
     |[],[],g2,_=>simp[ba,aw,bT]
     |p::eU::aU,v::v2::ju,g2,_=>rw[dif_neg Ψ];simp only[ba,aw];exact⟨_,rfl,by simpa using g2⟩
     |[_],[],_,h=>simp at h
     |[],_::_,_,h=>simp at h
     |[_],_::_::_,_,h=>simp at h
     |_::_::_,[],_,h=>simp at h
     |_::_::_,[_],_,h=>simp at h
    refine zq (μ:=aI.fold ak κ st'.e (ba aU)) bX.good wv (fun b cR=>?_) (fun b o h=>.inl h) (fun k U own jI b en o ag=>.inr ⟨k,U,own,jI,en,ag⟩) (ba aU) _ 0 iU ok nd (fun k U=>U) (fun i S az b hx=>⟨rfl,S,by simpa using az,hx⟩);obtain⟨k,U,en⟩:=cR;obtain⟨_,_,_,_,aF,_⟩:=fV k b U en;exact aF
   ·have h6:jC (a7 ak) w' aI w' (aI.fold ak κ st'.e (ba aU)):=by
     refine⟨fun b o h=>⟨.inl h,rfl⟩,fun k b U h=>by simp only[aC.fold];rw[aC.cut_bx U];exact h,fun g n u wx h=>?_,fun _ _ _=>rfl,fun k j b U h=>?_⟩
     ·obtain⟨cs,ck⟩:=dt.1 (pA g wx).2;obtain⟨bl,us,el,ai,_⟩:=bX.good.box g cs ck;rcases bX.good.one g with I|I
      ·rw[I]at ai;cases ai
      ·rw[I]at h;cases h
     ·obtain⟨cs,ck⟩:=dt.1 (pA k U).2;obtain⟨bl,us,el,ai,_⟩:=bX.good.box k cs ck;rw[(bX.fr.trn k j b h).1]at ai;cases ai
    have gx:∀k bl,(aI.fold ak κ st'.e (ba aU)).bx k=some bl->a7 ak k/\aI.bx k=some bl:=fun k bl h=>aC.cut_some h;refine⟨fun bl o aK=>?_,fun k cs U=>?_,fun k aQ bl I J ah aF=>?_,fun g o wx=>?_,fun g cW n n' v v' bl I=>?_,fun g k n v bl I=>?_,fun k=>.inr rfl,fun bl av k j eV=>?_⟩
    ·rcases aK with aK|⟨k,U,own,_,en,_⟩
     ·exact bX.good.alt bl o aK
     ·obtain⟨_,_,_,ah,_⟩:=fV k bl U en;exact ah
    ·obtain⟨f1,f2,f3⟩:=a8 k cs U;obtain⟨bl,us,el,ai,aD,aZ,b4,eT⟩:=bX.good.box k cs f1;refine⟨bl,us,el,h6.bx k bl f2 ai,aD,fun o aK=>?_,b4,BP h6 f3 eT⟩;rcases aK with aK|⟨aQ,hz,own,_,en,_⟩
     ·exact aZ o aK
     ·obtain⟨_,_,_,_,_,a6⟩:=fV aQ bl hz en;exact a6 k (by simp[f1]) ai
    ·exact bX.good.inj k aQ bl (pA k (.inl I)).2 (pA aQ (.inl J)).2 (gx k bl ah).2 (gx aQ bl aF).2
    ·rw[hs'e]at wx;simp[ab]at wx
    ·rw[hs'e]at I;simp[ab]at I
    ·rw[hs'e]at I;simp[ab]at I
    ·rcases av with⟨aQ,bd,a2⟩|⟨g,n,v,bd,_⟩
     ·obtain⟨_,S,hx,en⟩:=eV;obtain⟨bQ,b0⟩:=gx aQ bl a2;rcases uV _ j S hx bl en with⟨bY,kd,I⟩|⟨⟨bY,i,_,I⟩,_⟩
      ·obtain⟨_,_,_,_,_,a6⟩:=fV bY bl kd I;exact a6 aQ (pA aQ bQ).2 b0
      ·exact bX.good.otr bl (.inl ⟨aQ,(pA aQ bQ).2,b0⟩) bY i I
     ·rw[hs'e]at bd;simp[ab]at bd
   ·intro k;refine⟨fun U=>?_,fun _=>rfl,fun j b h=>⟨κ,rfl,h.1⟩⟩;refine(aC.cut_no fun bM=>?_).1;have:=(pA k bM).1;rw[U]at this;cases this
   ·have F4:∀j b,(aI.fold ak κ st'.e (ba aU)).tr (.loc κ) j b->w.heap.size<=b/\b<w'.heap.size:=by
     rintro j b ⟨_,S,hx,en⟩;rcases uV _ j S hx b en with⟨k,U,I⟩|⟨⟨k,i,nu,I⟩,_⟩
     ·obtain⟨_,_,_,ah,_⟩:=fV k b U I;exact⟨O0 k b U I,ah⟩
     ·have:=bX.fr.trb k i b I;exact⟨this.1.resolve_left (Hn _ ok _ nu),this.2⟩
    refine⟨bX.fr.os,bX.fr.tape,bX.fr.output,bX.fr.size,bX.fr.block,fun b o h=>⟨.inl (bX.fr.keep b o h).1,(bX.fr.keep b o h).2⟩,fun b o aK=>?_,fun n b h=>?_,fun n b h=>hy n (.inl (by rw[h];simp)),fun m n u h=>?_,fun m n u h=>hy m (.inr (by rw[h];simp)),fun k j aQ cU b I J=>?_,fun k j b h=>?_,fun k j b h=>?_,bX.fr.sh⟩
    ·rcases aK with aK|⟨k,U,own,_,en,_⟩
     ·exact bX.fr.fresh b o aK
     ·obtain⟨_,_,J,_⟩:=fV k b U en;exact .inr J
    ·have aj:a7 ak (.obj n):=by
      cases jI:ab (.obj n) s.b with
      |none=>rw[(ad _).1 jI]at h;cases h
      |some x=>exact pL kb _ (by simp[jI])
     simp only[aC.fold];rw[aC.cut_bx aj];exact bX.fr.obj n b h
    ·rw[(ad _).2.1 (by rw[iV];rfl)]at h;cases h
    ·obtain⟨rfl,S,bd,a2⟩:=I;obtain⟨rfl,ik,bQ,b0⟩:=J;exact⟨rfl,I0 wv _ nd rd (fun k U=>U) j cU S ik bd bQ b a2 b0⟩
    ·obtain⟨rfl,_⟩:=id h;exact⟨.inr (F4 j b h).1,(F4 j b h).2⟩
    ·obtain⟨rfl,_⟩:=h;refine⟨(aC.cut_no fun bM=>?_).1,rfl⟩;rcases bM with bM|bM
     ·rw[cz.1 κ]at bM;cases bM
     ·rw[cz.2 κ]at bM;cases bM
  rcases mu with rfl|rfl<;>exact iS
def na.mk{P:bp}(hm:P.follows .mixedOrders=true){aE:List (Nat×cQ)}(g:e1 P aE=true){f:FuncId}{fn:Func}(l:P.funcs[f]? =some fn){c:C}{b:List cg}{n:Nat}(a:cJ aE c b n fn=true)
  {args:List aa} (h:args.length<=n) {s:b1} (d:e7 s) (e:s.e=[]) {κ:Nat} {Q:aa->b1->Prop} (he:gQ args->(∀j cs,ab j s.b=some cs->et cs=true->gR cs)->b5 P (b2 s) c (jD b s κ Q) ⟨fG 0 args,s.b,s.e,0,b2 s⟩):na P f κ args s Q:=by
 unfold cJ at a;split at a
 ·rename_i code k;simp only[bN,Bool.not_eq_true',e3]at a;obtain⟨⟨⟨I,J⟩,i⟩,m⟩:=a;exact na.of hm g l k i I J (jB h m) d e he
 ·cases a
def gO(P:bp)(f:FuncId)(args:List aa)(r:Nat->aa):Prop:= ∀κ,na P f κ args ⟨[],[]⟩ fun a b=>a=r κ/\b=⟨[],[]⟩
def gO.mk{P:bp}(hm:P.follows .mixedOrders=true){aE:List (Nat×cQ)}(e:e1 P aE=true){f:FuncId}{fn:Func}(j:P.funcs[f]? =some fn){c:C}{a:List cg}{n:Nat}(b:cJ aE c a n fn=true)
  {args:List aa} (g:args.length<=n) {r:Nat->aa} (he:gQ args->∀κ,b5 P [] c (jD a ⟨[],[]⟩ κ fun d i=>d=r κ/\i=⟨[],[]⟩) ⟨fG 0 args,[],[],0,[]⟩):gO P f args r:=
 fun κ=>na.mk hm e j b g nL rfl fun h _=>he h κ
def jD.val{b:List cg}{κ:Nat}{r:aa}{e:Exit}{st:aN}(f:e= .ret\/e= .normal)(h:match bq st b with
  |some (c,a)=>c/\(eN st.e (ba a)/\(dN st.e (ba a)).Nodup/\(dr (ba a)).Nodup)/\fold κ st.e 0 (ba a)=r
  |none=>c1):jD b ⟨[],[]⟩ κ (fun g i=>g=r/\i=⟨[],[]⟩) e st:=by
 refine⟨f,?_⟩;cases d:bq st b with
 |none=>simp[d]at h
 |some x=>obtain⟨c,a⟩:=x;simp only[d]at h⊢;exact⟨h.1,⟨[],[]⟩,rfl,trivial,fun k cs U=>by simp[ab]at U,nL,h.2.1,h.2.2,rfl⟩
def CallDo.own{P:bp}{n:Nat}{args:List aa}{st:aN}{d:aT Nat}{K:aN->Prop}{r:Nat->aa}(U:aV (fun _=>c1) args)(b:gO P n args r)(a: .loc st.n∉st.o)(h:K {st with t:=dH d (r st.n) st.t,n:=st.n+1}):CallDo P n args st d K:=by
 refine .inr ⟨⟨[],[]⟩,_,fun k cs U=>by simp[ab]at U,fun k cs U=>by simp[ab]at U,nL,hg (fun _ h=>h.elim) _ U,a,b st.n,?_⟩;rintro c e ⟨rfl,rfl⟩;refine⟨⟨fun m h=>by simp[ab]at h,fun m h=>by simp[ab]at h⟩,?_⟩;have:({after st ⟨[],[]⟩ ⟨[],[]⟩ d (r st.n)with n:=st.n+1}:aN)={st with t:=dH d (r st.n) st.t,n:=st.n+1}:=by simp[after,sT,b2]
 rw[this];exact h
def jY.own{P:bp}{q:Bool}{nw:List Nat}{n:Nat}{args:List aa}{st:aN}{cG:Nat}{K:aN->Prop}{r:Nat->aa}(U:aV (fun _=>c1) args)(b:gO P n args r)(a:nn st.n cG st)(h:K {st with t:=put cG (r (st.n+cG)) st.t,o:= .loc (st.n+cG)::st.o}):jY P q nw n args st (some cG) K:=.inl ⟨cG,r (st.n+cG),rfl,a,U,b (st.n+cG),h⟩
end
end Go.Pv
namespace Go.Proofs.YtahlgcidhnjlbaaGreat
section
open Go Go.Pv
def _root_.Go.Pv.T.k(t:T)(κ:Nat):aa:= .agg [aB t.kind,aB t.int,.str t.name,.slice 4 (.tr (.loc κ) 0) (t.args.map T.e)]
def Hk(t:T):gO aG 143 [t.e] t.k:=by
 induction t with
 |pair a b d c=>
  refine gO.mk mixed bC Tryz.func143 xw Ψ fun e κ=>?_;unfold td;simp;repeat' first|with_reducible refine jY.own Ψ d (by simp[nn,ab]) ?_|with_reducible refine jY.own Ψ c (by simp[nn,ab]) ?_|simp[T.k]
  all_goals skip
  all_goals(refine jD.val (.inl rfl) ?_;simp[bq,bD,ba,eN,hS,dN,gT,dr,gD,tnL,tn,e8,gq,fold,iw,ir,ab,dU,bt])
 |_=>refine gO.mk mixed bC Tryz.func143 xw Ψ fun e κ=>?_;unfold td;simp;all_goals(refine jD.val (.inl rfl) ?_;simp[bq,bD,ba,eN,hS,dN,gT,dr,gD,tnL,tn,e8,gq,fold,iw,ir,ab,T.k,bt])
end
end Go.Proofs.YtahlgcidhnjlbaaGreat
namespace Go.Pv
section
open Go Go.RowKit
mutual
def bS:aa->Nat
 | .slice _ _ []=>0
 | .slice _ _ (x::xs)=>1+(bS x+ch xs)
 | .agg cs=>ch cs
 |_=>0
def ch:List aa->Nat
 |[]=>0
 |x::xs=>bS x+ch xs
end
mutual
def ef:Nat->aa->aa
 |_,.slice sz _ []=>.slice sz .no []
 |b,.slice sz _ (_::xs)=>.row sz (.obj b) (xs.length+1)
 |b,.agg cs=>.agg (fq b cs)
 |_,p=>p
def fq:Nat->List aa->List aa
 |_,[]=>[]
 |b,x::xs=>ef b x::fq (b+bS x) xs
end
mutual
def cO(ε:Nat->Nat):Nat->aa->List (ar×cw)
 |b,.slice sz _ (x::xs)=>(.obj b,⟨xs.length+1,ε b,sz,some (ef (b+1) x::fq (b+1+bS x) xs)⟩)::(cO ε (b+1) x++eH ε (b+1+bS x) xs)
 |b,.agg cs=>eH ε b cs
 |_,_=>[]
def eH(ε:Nat->Nat):Nat->List aa->List (ar×cw)
 |_,[]=>[]
 |b,x::xs=>cO ε b x++eH ε (b+bS x) xs
end
def pf:∀(b:Nat) (xs:List aa),(fq b xs).length=xs.length
 |_,[]=>rfl
 |b,x::xs=>by simp[fq,pf _ xs]
mutual
def nH(ε:Nat->Nat):∀(p:aa) (b:Nat) (k:ar) (o:cw),ab k (cO ε b p)=some o->∃m,k= .obj m/\b<=m/\m<b+bS p
 | .slice sz t (x::xs),b,k,o,h=>by
  simp only[cO,ab]at h;split at h
  ·rename_i e;exact⟨b,e.symm,di _,by simp only[bS];omega⟩
  ·rw[ja]at h;simp only[bS];cases I:ab k (cO ε (b+1) x)with
   |some y=>obtain⟨m,e,a,c⟩:=nH ε x _ k y I;exact⟨m,e,Ω,Ω⟩
   |none=>rw[I]at h;obtain⟨m,e,a,c⟩:=se ε xs _ k o h;exact⟨m,e,Ω,Ω⟩
 | .agg cs,b,k,o,h=>by simp only[cO,bS]at h⊢;exact se ε cs b k o h
 | .slice _ _ [],_,_,_,h=>by simp[cO,ab]at h
 | .int _ _,_,_,_,h=>by simp[cO,ab]at h
 | .bool _,_,_,_,h=>by simp[cO,ab]at h
 | .str _,_,_,_,h=>by simp[cO,ab]at h
 | .junk,_,_,_,h=>by simp[cO,ab]at h
 | .ptr _ _,_,_,_,h=>by simp[cO,ab]at h
 | .eptr _,_,_,_,h=>by simp[cO,ab]at h
 | .iface _ _,_,_,_,h=>by simp[cO,ab]at h
 | .nilp,_,_,_,h=>by simp[cO,ab]at h
 | .tuple _,_,_,_,h=>by simp[cO,ab]at h
 | .func _ _,_,_,_,h=>by simp[cO,ab]at h
 | .gmap _,_,_,_,h=>by simp[cO,ab]at h
 | .row _ _ _,_,_,_,h=>by simp[cO,ab]at h
 | .rptr _ _ _ _ _,_,_,_,h=>by simp[cO,ab]at h
 | .hdm _ _,_,_,_,h=>by simp[cO,ab]at h
 | .hdi _ _ _,_,_,_,h=>by simp[cO,ab]at h
 | .cst _,_,_,_,h=>by simp[cO,ab]at h
def se(ε:Nat->Nat):∀(a:List aa) (b:Nat) (k:ar) (o:cw),ab k (eH ε b a)=some o->∃m,k= .obj m/\b<=m/\m<b+ch a
 |[],_,_,_,h=>by simp[eH,ab]at h
 |x::xs,b,k,o,h=>by
  simp only[eH]at h;rw[ja]at h;simp only[ch];cases I:ab k (cO ε b x)with
  |some y=>obtain⟨m,e,c,d⟩:=nH ε x _ k y I;exact⟨m,e,Ω,Ω⟩
  |none=>rw[I]at h;obtain⟨m,e,c,d⟩:=se ε xs _ k o h;exact⟨m,e,Ω,Ω⟩
end
structure nc (F:Nat->Prop) (ω:Nat->aT (Nat×Value)) (b c:Nat):Prop where
 dom:∀m,(ω m).isSome=true↔b<=m/\m<c
 blk:∀m n u,ω m=some (n,u)->∃bl,u.ownBlock=some bl/\F bl
 inj:∀m iE n n' u c3 bl,ω m=some (n,u)->ω iE=some (n',c3)->u.ownBlock=some bl->c3.ownBlock=some bl->m=iE
def n4(w:World)(ω:Nat->aT (Nat×Value))(e:List (ar×cw)):Prop:= ∀μ:aC,(∀m x,ω m=some x->μ.ow (.obj m)=some x)->
 ∀k o,ab k e=some o->∃u us,μ.ow k=some (o.n,u)/\w.ownsRow 0 o.el o.sz u o.n us/\∃xs,o.xs=some xs/\xs.length=o.n/\b7 w μ o.sz xs us
def nc.nil(F:Nat->Prop)(b:Nat):nc F (fun _=>none) b b:=⟨fun m=>by simp,fun _ _ _ h=>(by cases h),fun _ _ _ _ _ _ _ h=>by cases h⟩
def oL(c:Nat)(b a:Nat->aT (Nat×Value))(m:Nat):aT (Nat×Value):=if m<c then b m else a m
def Gz{c:Nat}{a e:Nat->aT (Nat×Value)}{F:Nat->Prop}{b:Nat}(h:nc F a b c){m:Nat}{x:Nat×Value}(d:a m=some x):oL c a e m=some x:=by unfold oL;rw[if_pos ((h.dom m).1 (by rw[d];rfl)).2];exact d
def GA{c d:Nat}{e a:Nat->aT (Nat×Value)}{F:Nat->Prop}(h:nc F a c d){m:Nat}{x:Nat×Value}(b:a m=some x):oL c e a m=some x:=by unfold oL;rw[bH (by have:=((h.dom m).1 (by rw[b];rfl)).1;omega)];exact b
def nc.join{F l o:Nat->Prop}{r q:Nat->aT (Nat×Value)}{b c d:Nat}(I:nc l r b c)(J:nc o q c d)(v:b<=c)(t:c<=d)(f1:∀x,l x->F x)(f2:∀x,o x->F x)(s:∀x,l x->¬o x):nc F (oL c r q) b d:=by
 refine⟨fun m=>?_,fun m n u hm=>?_,fun m h n n' u j bl hm f k i=>?_⟩
 ·unfold oL;split
  ·rw[I.dom];omega
  ·rw[J.dom];omega
 ·unfold oL at hm;split at hm
  ·obtain⟨bl,a,e⟩:=I.blk m n u hm;exact⟨bl,a,f1 _ e⟩
  ·obtain⟨bl,a,e⟩:=J.blk m n u hm;exact⟨bl,a,f2 _ e⟩
 ·unfold oL at hm f;split at hm<;>split at f
  ·exact I.inj m h n n' u j bl hm f k i
  ·obtain⟨_,a,e⟩:=I.blk m n u hm;obtain⟨_,g,p⟩:=J.blk h n' j f;rw[k]at a;rw[i]at g;cases a;cases g;exact absurd p (s _ e)
  ·obtain⟨_,a,e⟩:=J.blk m n u hm;obtain⟨_,g,p⟩:=I.blk h n' j f;rw[k]at a;rw[i]at g;cases a;cases g;exact absurd e (s _ p)
  ·exact J.inj m h n n' u j bl hm f k i
def n4.app{w:World}{ω:Nat->aT (Nat×Value)}{e b:List (ar×cw)}(h:n4 w ω e)(c:n4 w ω b):n4 w ω (e++b):=fun μ a k o U=>by
 rw[ja]at U;cases I:ab k e with
 |some y=>rw[I]at U;cases U;exact h μ a k _ I
 |none=>rw[I]at U;exact c μ a k o U
def n4.sub{w:World}{ω a:Nat->aT (Nat×Value)}{e:List (ar×cw)}(h:n4 w ω e)(c:∀m x,ω m=some x->a m=some x):n4 w a e:=fun μ b=>h μ fun m x d=>b m x (c m x d)
def EV{t:Bool}{w:World}{A:Nat->Nat->Prop}{sz:Nat}:∀{xs:List aa} {F:Nat->Prop} {us:List Value},ga t w A F sz xs us->us.length=xs.length*sz
 |[],_,us,h=>by simp only[ga]at h;subst h;simp
 |x::xs,F,us,h=>by
  simp only[ga]at h;obtain⟨u,d,b,c,rfl,_,⟨_,J,_⟩,a⟩:=h;have:u.cells.toList.length=sz:=by simpa using J
  rw[kt,this,EV a,jX,Nat.succ_mul];omega
def j2(w:World)(F:Nat->Prop)(b c:Nat)(e:(Nat->Nat)->List (ar×cw))(R:aC->Prop):Prop:=∃(ε:Nat->Nat) (ω:Nat->aT (Nat×Value)),nc F ω b c/\n4 w ω (e ε)/\∀μ:aC,(∀m x,ω m=some x->μ.ow (.obj m)=some x)->R μ
def j2.flat{w:World}{F:Nat->Prop}{b:Nat}{R:aC->Prop}(h:∀μ,R μ):j2 w F b b (fun _=>[]) R:=⟨fun _=>0,fun _=>none,nc.nil F b,fun _ _ k o U=>by simp[ab]at U,fun μ _=>h μ⟩
mutual
def xX{ε ε':Nat->Nat}:∀(p:aa) (b:Nat),(∀m,b<=m->m<b+bS p->ε m=ε' m)->cO ε b p=cO ε' b p
 | .slice sz t (x::xs),b,h=>by simp only[bS]at h;simp only[cO];rw[h b Ω Ω,xX x (b+1) fun m I J=>h m Ω Ω,uM xs (b+1+bS x) fun m I J=>h m Ω Ω]
 | .agg cs,b,h=>by simp only[cO,bS]at h⊢;exact uM cs b h
 | .slice _ _ [],_,_=>rfl
 | .int _ _,_,_=>rfl
 | .bool _,_,_=>rfl
 | .str _,_,_=>rfl
 | .junk,_,_=>rfl
 | .ptr _ _,_,_=>rfl
 | .eptr _,_,_=>rfl
 | .iface _ _,_,_=>rfl
 | .nilp,_,_=>rfl
 | .tuple _,_,_=>rfl
 | .func _ _,_,_=>rfl
 | .gmap _,_,_=>rfl
 | .row _ _ _,_,_=>rfl
 | .rptr _ _ _ _ _,_,_=>rfl
 | .hdm _ _,_,_=>rfl
 | .hdi _ _ _,_,_=>rfl
 | .cst _,_,_=>rfl
def uM{ε ε':Nat->Nat}:∀(a:List aa) (b:Nat),(∀m,b<=m->m<b+ch a->ε m=ε' m)->eH ε b a=eH ε' b a
 |[],_,_=>rfl
 |x::xs,b,h=>by simp only[ch]at h;simp only[eH];rw[xX x b fun m I J=>h m Ω Ω,uM xs (b+bS x) fun m I J=>h m Ω Ω]
end
def j2.two{w:World}{F c d:Nat->Prop}{x:aa}{xs:List aa}{b:Nat}{i h R:aC->Prop}(I:j2 w c b (b+bS x) (fun ε=>cO ε b x) i)(J:j2 w d (b+bS x) (b+bS x+ch xs) (fun ε=>eH ε (b+bS x) xs) h)
  (f1:∀b,c b->F b) (f2:∀b,d b->F b) (o:∀b,c b->¬d b) (cR:∀μ,i μ->h μ->R μ):j2 w F b (b+(bS x+ch xs)) (fun ε=>cO ε b x++eH ε (b+bS x) xs) R:=by
 obtain⟨ε1,k,f,a2,a3⟩:=I;obtain⟨ε2,j,e,n,l⟩:=J;refine⟨fun m=>if m<b+bS x then ε1 m else ε2 m,oL (b+bS x) k j,by rw[<-Nat.add_assoc];exact f.join e Ω Ω f1 f2 o,?_,fun μ g=>cR μ (a3 μ fun m y a=>g m y (Gz f a)) (l μ fun m y a=>g m y (GA e a))⟩;refine n4.app ?_ ?_
 ·rw[xX (ε':=ε1) x b fun m I J=>by rw[if_pos J]];exact a2.sub fun m y a=>Gz f a
 ·rw[uM (ε':=ε2) xs (b+bS x) fun m I J=>by rw[bH Ω]];exact n.sub fun m y a=>GA e a
mutual
def Cl{w:World}{A:Nat->Nat->Prop}:∀(p:aa) (F:Nat->Prop) (v:Value) (b:Nat),bJ true w A F p v->j2 w F b (b+bS p) (fun ε=>cO ε b p) fun μ=>aw w μ (ef b p) v
 | .int k n,F,v,b,h=>j2.flat fun μ=>by simpa only[bJ,ef,aw]using h
 | .bool _,F,v,b,h=>j2.flat fun μ=>by simpa only[bJ,ef,aw]using h
 | .str s,F,v,b,h=>j2.flat fun μ=>by simpa only[bJ,ef,aw]using h
 | .slice sz tag [],F,v,b,h=>j2.flat fun μ=>by simp only[bJ]at h;obtain⟨a,cap,I,J,t,_⟩:=h;simp only[ef,aw];exact⟨⟨a,cap,I,J,t,.inl trivial⟩,fun e=>(by cases e),fun _ e=>(by cases e),fun _ _ e=>(by cases e),fun _ e=>(by cases e)⟩
 | .agg cs,F,v,b,h=>by simp only[bJ]at h;obtain⟨us,rfl,J⟩:=h;obtain⟨ε,ω,d,a2,a3⟩:=Jk cs F us.toList b J;exact⟨ε,ω,d,a2,fun μ j=>by simp only[ef,aw];exact⟨us,rfl,a3 μ j⟩⟩
 | .slice sz tag (x::xs),F,v,b,h=>by
  simp only[bJ]at h;obtain⟨a,cap,I,J,t,B⟩:=h;rcases B with B|⟨g,off,us,G,rfl,X,N,W,V,K⟩
  ·cases B
  obtain⟨rfl,eM,el,l⟩:=V trivial;obtain⟨ε,ω,d,a2,a3⟩:=Jj sz (x::xs) G us (b+1) K;have hlen:=EV K;have P:¬G g:=fun aM=>(N g aM).2 trivial rfl;have S:∃cur,w.heap[g]? =some (.cells cur el (0,0))/\cur.size=cap*sz:=by
   unfold shape at l;split at l
   ·rename_i cur eb fz aA;simp only[dq,ho]at l;obtain⟨c,rfl,rfl⟩:=l;exact⟨cur,aA,c⟩
   ·cases l
  obtain⟨cur,aA,L⟩:=S;have hle:(x::xs).length*sz<=cur.size:=by rw[L];exact kv _ J
  have Q:cur.toList.take ((x::xs).length*sz)=us:=by
   apply List.ext_getElem?;intro i;rw[List.getElem?_take];by_cases az:i<(x::xs).length*sz
   ·rw[if_pos az];obtain⟨u,hu⟩:∃u,us[i]? =some u:=⟨_,cl (by rw[hlen];exact az)⟩;have E:=(nF W hu).2;simp only[World.cell?,Nat.zero_add,aA,Option.isSome_none,hX,if_false]at E;rw[hu];simpa using E
   ·rw[bH az,List.getElem?_eq_none (by rw[hlen];omega)]
  have Y:∀m y,ω m=some y->m≠b:=fun m y hm e=>by have:=(d.dom m).1 (by rw[hm];rfl);omega
  refine⟨fun m=>if m=b then el else ε m,fun m=>if m=b then some ((x::xs).length,v)else ω m,?_,?_,?_⟩
  ·refine⟨fun m=>?_,fun m n u hm=>?_,fun m H n n' u M bl hm q z r=>?_⟩
   ·simp only[bS];by_cases e:m=b
    ·subst e;simp;omega
    ·rw[bH e,d.dom];simp only[ch];omega
   ·split at hm
    ·cases hm;exact⟨g,by rw[I];rfl,X⟩
    ·obtain⟨bl,c,f⟩:=d.blk m n u hm;exact⟨bl,c,(N bl f).1⟩
   ·split at hm<;>split at q
    ·rename_i c f;rw[c,f]
    ·cases hm;obtain⟨_,c,f⟩:=d.blk H n' M q;rw[r]at c;cases c;rw[I]at z;cases z;exact absurd f P
    ·cases q;obtain⟨_,c,f⟩:=d.blk m n u hm;rw[z]at c;cases c;rw[I]at r;cases r;exact absurd f P
    ·exact d.inj m H n n' u M bl hm q z r
  ·intro μ j k o U;have O:∀m y,ω m=some y->μ.ow (.obj m)=some y:=fun m y hm=>j m y ((bH (Y m y hm)).trans hm);simp only[cO,ab]at U;split at U
   ·rename_i Z;subst Z;cases U;refine⟨v,us,?_,⟨by rw[hlen];rfl,.inr ⟨g,cap,cur,I,Nat.zero_le _,by simpa using aA,J,t.1,L,Q⟩⟩,_,rfl,by simp[pf],?_⟩
    ·exact j b _ Ψ
    ·exact(a3 μ O)
   ·have R:(cO (fun m=>if m=b then el else ε m) (b+1) x++eH (fun m=>if m=b then el else ε m) (b+1+bS x) xs)=eH ε (b+1) (x::xs):=by simp only[eH];rw[xX (ε':=ε) x (b+1) fun m I _=>by rw[bH Ω],uM (ε':=ε) xs (b+1+bS x) fun m I _=>by rw[bH Ω]]
    rw[R]at U;exact a2 μ O k o U
  ·intro μ j;simp only[ef,aw];exact⟨⟨g,cap,I⟩,t.2,(x::xs).length,v,j b _ Ψ,di _,fun _=>rfl⟩
 | .junk,_,_,_,h=>by simp[bJ]at h
 | .ptr _ _,_,_,_,h=>by simp[bJ]at h
 | .eptr _,_,_,_,h=>by simp[bJ]at h
 | .iface _ _,_,_,_,h=>by simp[bJ]at h
 | .nilp,_,_,_,h=>by simp[bJ]at h
 | .tuple _,_,_,_,h=>by simp[bJ]at h
 | .func _ _,_,_,_,h=>by simp[bJ]at h
 | .gmap _,_,_,_,h=>by simp[bJ]at h
 | .row _ _ _,_,_,_,h=>by simp[bJ]at h
 | .rptr _ _ _ _ _,_,_,_,h=>by simp[bJ]at h
 | .hdm _ _,_,_,_,h=>by simp[bJ]at h
 | .hdi _ _ _,_,_,_,h=>by simp[bJ]at h
 | .cst _,_,_,_,h=>by simp[bJ]at h
def Jk{w:World}{A:Nat->Nat->Prop}:∀(cs:List aa) (F:Nat->Prop) (us:List Value) (b:Nat),gI true w A F cs us->j2 w F b (b+ch cs) (fun ε=>eH ε b cs) fun μ=>bL w μ (fq b cs) us
 |[],F,us,b,h=>j2.flat fun μ=>by simpa only[gI,fq,bL]using h
 |c::cs,F,us,b,h=>by simp only[gI]at h;obtain⟨u,a,e,f,rfl,⟨f1,f2,f3⟩,⟨g1,g2⟩,g3⟩:=h;simp only[ch,eH,fq];exact(Cl c e u b g1).two (Jk cs f a (b+bS c) g3) f1 f2 (f3 trivial) fun μ g d=>by simp only[bL];exact⟨u,a,rfl,⟨g,g2⟩,d⟩
def Jj{w:World}{A:Nat->Nat->Prop}(sz:Nat):∀(cs:List aa) (F:Nat->Prop) (us:List Value) (b:Nat),ga true w A F sz cs us->j2 w F b (b+ch cs) (fun ε=>eH ε b cs) fun μ=>b7 w μ sz (fq b cs) us
 |[],F,us,b,h=>j2.flat fun μ=>by simpa only[ga,fq,b7]using h
 |c::cs,F,us,b,h=>by simp only[ga]at h;obtain⟨u,a,e,f,rfl,⟨f1,f2,f3⟩,⟨g1,g2,g4⟩,g3⟩:=h;simp only[ch,eH,fq];exact(Cl c e u b g1).two (Jj sz cs f a (b+bS c) g3) f1 f2 (f3 trivial) fun μ g d=>by simp only[b7];exact⟨u,a,rfl,⟨g,g2,g4⟩,d⟩
end
mutual
def b6:aa->Prop
 | .int _ _=>True
 | .bool _=>True
 | .str _=>True
 | .slice sz _ xs=>0<sz/\ea xs
 | .agg cs=>ea cs
 |_=>c1
def ea:List aa->Prop
 |[]=>True
 |x::xs=>b6 x/\ea xs
end
def tj{α:Type}(f:α->aa):∀l:List α,ea (l.map f)↔∀x∈l,b6 (f x)
 |[]=>by simp[ea]
 |x::l=>by simp[ea,tj f l]
mutual
def y5{w:World}{ν:aC}{F:Nat->Prop}(f:∀b o,ν.A b o->F b):∀(p:aa) (v:Value),aw w ν p v->b6 p->bJ false w ν.A F (bE p) v
 | .int k n,v,h,_=>by simpa only[aw,bE,bJ]using h
 | .bool b,v,h,_=>by simpa only[aw,bE,bJ]using h
 | .str s,v,h,_=>by simpa only[aw,bE,bJ]using h
 | .slice sz tag xs,v,h,d=>by
  simp only[aw]at h;simp only[b6]at d;obtain⟨⟨a,cap,I,J,q,t⟩,_⟩:=h;simp only[bE,bJ,iH];refine⟨a,cap,I,J,q,?_⟩;rcases t with rfl|⟨b,off,us,m,i,g⟩
  ·exact .inl rfl
  ·cases xs with
   |nil=>exact .inl rfl
   |cons x xs=>
    have l:=lA g;have r:F b:=by
     cases us with
     |nil=>have j:0<(x::xs).length*sz:=Nat.mul_pos Ψ d.1;rw[<-l]at j;simp at j
     |cons u us=>exact f b _ i.1.1
    exact .inr ⟨b,off,us,F,m,r,fun c aA=>⟨aA,fun e=>(by cases e)⟩,i,fun e=>(by cases e),Eo f sz _ us g d.2⟩
 | .agg cs,v,h,d=>by simp only[aw,b6,bE,bJ]at h d⊢;obtain⟨us,I,J⟩:=h;exact⟨us,I,Ep f cs _ J d⟩
 | .junk,_,_,d=>by simp[b6]at d
 | .ptr _ _,_,_,d=>by simp[b6]at d
 | .eptr _,_,_,d=>by simp[b6]at d
 | .iface _ _,_,_,d=>by simp[b6]at d
 | .nilp,_,_,d=>by simp[b6]at d
 | .tuple _,_,_,d=>by simp[b6]at d
 | .func _ _,_,_,d=>by simp[b6]at d
 | .gmap _,_,_,d=>by simp[b6]at d
 | .row _ _ _,_,_,d=>by simp[b6]at d
 | .rptr _ _ _ _ _,_,_,d=>by simp[b6]at d
 | .hdm _ _,_,_,d=>by simp[b6]at d
 | .hdi _ _ _,_,_,d=>by simp[b6]at d
 | .cst _,_,_,d=>by simp[b6]at d
def Ep{w:World}{ν:aC}{F:Nat->Prop}(d:∀b o,ν.A b o->F b):∀(cs:List aa) (us:List Value),bL w ν cs us->ea cs->gI false w ν.A F (bt cs) us
 |[],us,h,_=>by simpa only[bL,bt,gI]using h
 |c::cs,us,h,a=>by simp only[bL,ea,bt,gI]at h a⊢;obtain⟨u,f,I,⟨J,g⟩,i⟩:=h;exact⟨u,f,F,F,I,⟨fun _ h=>h,fun _ h=>h,fun e=>(by cases e)⟩,⟨y5 d c u J a.1,g⟩,Ep d cs f i a.2⟩
def Eo{w:World}{ν:aC}{F:Nat->Prop}(d:∀b o,ν.A b o->F b)(sz:Nat):∀(cs:List aa) (us:List Value),b7 w ν sz cs us->ea cs->ga false w ν.A F sz (bt cs) us
 |[],us,h,_=>by simpa only[b7,bt,ga]using h
 |c::cs,us,h,a=>by simp only[b7,ea,bt,ga]at h a⊢;obtain⟨u,f,I,⟨J,g⟩,i⟩:=h;exact⟨u,f,F,F,I,⟨fun _ h=>h,fun _ h=>h,fun e=>(by cases e)⟩,⟨y5 d c u J a.1,g⟩,Eo d sz cs f i a.2⟩
end
def G0{w:World}{μ:aC}{k:ar}{sz:Nat}{tag:hI}{ys:List aa}{v:Value}(h:bJ false w μ.A (μ.tr k 0) (.slice sz tag ys) v)(a:bt ys=ys):aw w μ (.slice sz (.lo k) ys) v:=by have I:=vX (ν:=μ) (fun _ _ h=>h) _ _ _ h;simp only[bE,a]at I;simp only[aw]at I⊢;refine⟨I.1,fun e=>(by cases e),fun _ e=>(by cases e),fun _ _ e=>(by cases e),fun aQ e=>?_⟩;cases e;simp only[bJ]at h⊢;exact h
mutual
def hk:aa->aa
 | .int k n=>.int k n
 | .bool b=>.bool b
 | .str s=>.str s
 | .slice sz _ xs=>.slice sz (.lo dU) (bt xs)
 | .agg cs=>.agg (p2 cs)
 | .ptr k o=>.ptr k o
 | .nilp=>.nilp
 |_=>.junk
def p2:List aa->List aa
 |[]=>[]
 |x::xs=>hk x::p2 xs
end
mutual
def p3:aa->Prop
 | .slice sz _ xs=>0<sz/\ea xs
 | .agg cs=>q3 cs
 |_=>True
def q3:List aa->Prop
 |[]=>True
 |x::xs=>p3 x/\q3 xs
end
def sJ(ν:aC):aC:={ν with tr:=fun k j b=>k=dU/\j=0/\∃o,ν.A b o}
mutual
def IS{w:World}{ν:aC}:∀(p:aa) (v:Value),aw w ν p v->p3 p->aw w (sJ ν) (hk p) v
 | .int k n,v,h,_=>by simpa only[aw,hk]using h
 | .bool b,v,h,_=>by simpa only[aw,hk]using h
 | .str s,v,h,_=>by simpa only[aw,hk]using h
 | .slice sz tag xs,v,h,a=>by have I:=y5 (F:=fun b=> ∃o,ν.A b o) (fun b o h=>⟨o,h⟩) _ v h (by simpa only[b6,p3]using a);simp only[hk];refine G0 (μ:=sJ ν) (tag:= .no) ?_ (nQ xs);simp only[bE]at I;exact oj (fun _ _ h=>⟨h,rfl⟩) (fun _ _ _=>rfl) _ _ _ v (fun b c=>⟨rfl,rfl,c⟩) I
 | .agg cs,v,h,a=>by simp only[aw,hk,p3]at h a⊢;obtain⟨us,I,J⟩:=h;exact⟨us,I,B4 cs _ J a⟩
 | .ptr k o,v,h,_=>by simp only[aw,hk]at h⊢;exact h
 | .nilp,v,h,_=>by simp only[aw,hk]at h⊢;exact h
 | .junk,_,_,_=>by simp[hk,aw]
 | .eptr _,_,_,_=>by simp[hk,aw]
 | .iface _ _,_,_,_=>by simp[hk,aw]
 | .tuple _,_,_,_=>by simp[hk,aw]
 | .func _ _,_,_,_=>by simp[hk,aw]
 | .gmap _,_,_,_=>by simp[hk,aw]
 | .row _ _ _,_,_,_=>by simp[hk,aw]
 | .rptr _ _ _ _ _,_,_,_=>by simp[hk,aw]
 | .hdm _ _,_,_,_=>by simp[hk,aw]
 | .hdi _ _ _,_,_,_=>by simp[hk,aw]
 | .cst _,_,_,_=>by simp[hk,aw]
def B4{w:World}{ν:aC}:∀(cs:List aa) (us:List Value),bL w ν cs us->q3 cs->bL w (sJ ν) (p2 cs) us
 |[],us,h,_=>by simpa only[bL,p2]using h
 |c::cs,us,h,a=>by simp only[bL,p2,q3]at h a⊢;obtain⟨u,b,I,⟨J,d⟩,e⟩:=h;exact⟨u,b,I,⟨IS c u J a.1,d⟩,B4 cs b e a.2⟩
end
def x3(l:List (Nat×aa)):List (Nat×aa):=l.map fun x=>(x.1,hk x.2)
def uQ(l:List (ar×List aa)):List (ar×List aa):=l.map fun x=>(x.1,p2 x.2)
def o1(st:aN):aN:=⟨x3 st.t,uQ st.b,[],st.n,dU::st.o⟩
def x2:List (Nat×aa)->Prop
 |[]=>True
 |(_,p)::r=>p3 p/\x2 r
def x1:List (ar×List aa)->Prop
 |[]=>True
 |(_,cs)::r=>(et cs=true/\q3 cs)/\x1 r
def x0(st:aN):Prop:=dU∉st.o/\x2 st.t/\x1 st.b
def zw{f:aa->aa}(a:f .junk= .junk)(i:Nat):∀l:List (Nat×aa),get i (l.map fun x=>(x.1,f x.2))=f (get i l)
 |[]=>by simp[get,a]
 |(j,p)::r=>by
  simp only[gG,get];split
  ·rfl
  ·exact zw a i r
def xd{f:List aa->List aa}(k:ar):∀l:List (ar×List aa),ab k (l.map fun x=>(x.1,f x.2))=(ab k l).map f
 |[]=>rfl
 |(j,p)::r=>by
  simp only[gG,ab];split
  ·rfl
  ·exact xd k r
def IQ:∀{l:List (Nat×aa)} (i:Nat),x2 l->p3 (get i l)
 |[],_,_=>by simp[get,p3]
 |(j,p)::r,i,h=>by
  simp only[get];split
  ·exact h.1
  ·exact IQ i h.2
def IP:∀{l:List (ar×List aa)} {k:ar} {cs:List aa},x1 l->ab k l=some cs->et cs=true/\q3 cs
 |[],_,_,_,h=>by simp[ab]at h
 |(j,p)::r,k,cs,h,U=>by
  simp only[ab]at U;split at U
  ·cases U;exact h.1
  ·exact IP h.2 U
def Sw{C:dk}{st:aN}{a:Act}{w:World}{ν:aC}(h:bO C st a w ν)(aA:x0 st):bO C (o1 st) a w (sJ ν):=by
 obtain⟨B,F,A⟩:=aA;obtain⟨u,y,_⟩:=h.new dU ⟨trivial,B⟩;have p:∀k cs,ab k (uQ st.b)=some cs->∃c,ab k st.b=some c/\cs=p2 c:=fun k cs U=>by
  rw[uQ,xd]at U;cases s:ab k st.b with
  |none=>rw[s]at U;cases U
  |some c=>rw[s]at U;cases U;exact⟨c,rfl,rfl⟩
 have l:∀k,(ab k (uQ st.b)).isSome->(ab k st.b).isSome:=fun k U=>by obtain⟨cs,E⟩:=dt.1 U;obtain⟨c,e,_⟩:=p k cs E;simp[e]
 refine⟨⟨h.good.alt,fun k cs U=>?_,fun k aQ bl I J=>h.good.inj k aQ bl (l k I) (l aQ J),fun g o aM=>by simp[o1,ab]at aM,fun g M n n' v v' bl aM=>by simp[o1,ab]at aM,fun g k n v bl aM=>by simp[o1,ab]at aM,h.good.one,fun bl H k j d=>?_⟩,
  ⟨h.fr.os,h.fr.tape,h.fr.output,h.fr.size,h.fr.block,h.fr.keep,h.fr.fresh,h.fr.obj,h.fr.obn,h.fr.row,h.fr.obr,fun k j aQ cU b I J=>⟨I.1.trans J.1.symm,I.2.1.trans J.2.1.symm⟩,fun k j b d=>⟨.inl d.1,?_⟩,fun k j b d=>by rw[d.1];exact⟨u,y⟩,h.fr.sh⟩,h.defers,h.size,fun i=>?_,fun k U=>?_⟩
 ·obtain⟨c,f,rfl⟩:=p k cs U;obtain⟨bl,us,el,g1,g2,g3,g4,g5⟩:=h.good.box k c f;obtain⟨q,z⟩:=IP A f;rw[jQ q]at g5;rw[jP q]at g4;have g6:=B4 c _ g5 z;have m:=oX g6;exact⟨bl,us,el,g1,g2,g3,by rw[jP m];exact g4,by rw[jQ m];exact g6⟩
 ·obtain⟨_,_,o,ag⟩:=d;rcases H with⟨aQ,f,t⟩|⟨g,n,v,f,_⟩
  ·obtain⟨c,x⟩:=dt.1 (l aQ f);obtain⟨L,us,el,g1,g2,g3,_⟩:=h.good.box aQ c x;rw[show(sJ ν).bx aQ=ν.bx aQ from rfl,g1]at t;cases t;exact g3 o ag
  ·simp[o1,ab]at f
 ·obtain⟨_,_,o,ag⟩:=d;exact h.good.alt b o ag
 ·show aw w (sJ ν) (get i (x3 st.t)) _;rw[x3,zw (by simp[hk])];exact IS _ _ (h.slot i) (IQ i F)
 ·obtain⟨K,G⟩:=U;have r:k≠dU/\k∉st.o:=by simpa[o1]using G
  obtain⟨m1,m2,_⟩:=h.new k ⟨K,r.2⟩;exact⟨m1,m2,fun j b d=>r.1 d.1⟩
end
section
open Go Go.RowKit
def GW{w:World}{A a:Nat->Nat->Prop}{b:Nat}(c:∀o,A b o->a b o):∀(us:List Value) (off:Nat),gS w A b off us->gS w a b off us
 |[],_,_=>trivial
 |_::us,off,h=>⟨⟨c _ h.1.1,h.1.2⟩,GW c us (off+1) h.2⟩
mutual
def vW{t:Bool}{w:World}{A f:Nat->Nat->Prop}:∀(p:aa) (F:Nat->Prop) (v:Value),(∀b o,F b->A b o->f b o)->bJ t w A F p v->bJ t w f F p v
 | .int k n,_,_,_,h=>by simp only[bJ]at h⊢;exact h
 | .bool b,_,_,_,h=>by simp only[bJ]at h⊢;exact h
 | .str s,_,_,_,h=>by simp only[bJ]at h⊢;exact h
 | .slice sz tag xs,F,v,d,h=>by
  simp only[bJ]at h⊢;obtain⟨a,cap,I,J,r,e⟩:=h;refine⟨a,cap,I,J,r,?_⟩;rcases e with e|⟨b,off,us,G,q,i,g,m,j,l⟩
  ·exact .inl e
  ·exact .inr ⟨b,off,us,G,q,i,g,GW (fun o=>d b o i) _ _ m,j,EZ sz xs G us (fun c o aA=>d c o (g c aA).1) l⟩
 | .agg cs,F,v,d,h=>by simp only[bJ]at h⊢;obtain⟨us,I,J⟩:=h;exact⟨us,I,E0 cs F _ d J⟩
 | .junk,_,_,_,h=>by simp[bJ]at h
 | .ptr _ _,_,_,_,h=>by simp[bJ]at h
 | .eptr _,_,_,_,h=>by simp[bJ]at h
 | .iface _ _,_,_,_,h=>by simp[bJ]at h
 | .nilp,_,_,_,h=>by simp[bJ]at h
 | .tuple _,_,_,_,h=>by simp[bJ]at h
 | .func _ _,_,_,_,h=>by simp[bJ]at h
 | .gmap _,_,_,_,h=>by simp[bJ]at h
 | .row _ _ _,_,_,_,h=>by simp[bJ]at h
 | .rptr _ _ _ _ _,_,_,_,h=>by simp[bJ]at h
 | .hdm _ _,_,_,_,h=>by simp[bJ]at h
 | .hdi _ _ _,_,_,_,h=>by simp[bJ]at h
 | .cst _,_,_,_,h=>by simp[bJ]at h
def E0{t:Bool}{w:World}{A e:Nat->Nat->Prop}:∀(cs:List aa) (F:Nat->Prop) (us:List Value),(∀b o,F b->A b o->e b o)->gI t w A F cs us->gI t w e F cs us
 |[],_,_,_,h=>by simp only[gI]at h⊢;exact h
 |c::cs,F,us,j,h=>by simp only[gI]at h⊢;obtain⟨u,i,d,f,I,⟨J,g,m⟩,⟨n,l⟩,k⟩:=h;exact⟨u,i,d,f,I,⟨J,g,m⟩,⟨vW c d u (fun b o a=>j b o (J b a)) n,l⟩,E0 cs f i (fun b o a=>j b o (g b a)) k⟩
def EZ{t:Bool}{w:World}{A e:Nat->Nat->Prop}(sz:Nat):∀(cs:List aa) (F:Nat->Prop) (us:List Value),(∀b o,F b->A b o->e b o)->ga t w A F sz cs us->ga t w e F sz cs us
 |[],_,_,_,h=>by simp only[ga]at h⊢;exact h
 |c::cs,F,us,j,h=>by simp only[ga]at h⊢;obtain⟨u,i,d,f,I,⟨J,g,m⟩,⟨n,l⟩,k⟩:=h;exact⟨u,i,d,f,I,⟨J,g,m⟩,⟨vW c d u (fun b o a=>j b o (J b a)) n,l⟩,EZ sz cs f i (fun b o a=>j b o (g b a)) k⟩
end
mutual
def fP(N:List (ar×Nat)):aa->aa
 | .int k n=>.int k n
 | .bool b=>.bool b
 | .str s=>.str s
 | .slice sz tag xs=>match tag with
  | .tr k j=>if(k,j)∈N then .junk else .slice sz (.tr k j) (bt xs)
  | .lo k=>if(k,0)∈N then .junk else .slice sz (.lo k) (bt xs)
  | .nil=>.slice sz .nil []
  |_=>match xs with
   |[]=>.slice sz .no []
   |_=>.junk
 | .agg cs=>.agg (ji N cs)
 | .tuple cs=>.tuple (ji N cs)
 | .ptr k o=>.ptr k o
 | .nilp=>.nilp
 |_=>.junk
def ji(N:List (ar×Nat)):List aa->List aa
 |[]=>[]
 |x::xs=>fP N x::ji N xs
end
def hF(ν:aC)(N:List (ar×Nat))(ω:Nat->aT (Nat×Value)):aC:={A:=fun b o=>ν.A b o/\¬hi ν N b,bx:=ν.bx,ow:=fun k=>match k with| .obj m=>(match ω m with|some x=>some x|none=>ν.ow k)|k=>ν.ow k,tr:=fun k j b=>ν.tr k j b/\(k,j)∉N}
section
variable {w:World} {ν:aC} {N:List (ar×Nat)} {ω:Nat->aT (Nat×Value)} (eV:∀k j aQ cU b,ν.tr k j b->ν.tr aQ cU b->k=aQ/\j=cU)
include eV
theorem Ji{k:ar}{j:Nat}(c:(k,j)∉N){b o:Nat}(a:ν.tr k j b)(d:ν.A b o):(hF ν N ω).A b o:=by refine⟨d,?_⟩;rintro⟨aQ,cU,I,J⟩;obtain⟨rfl,rfl⟩:=eV k j aQ cU b a J;exact c I
mutual
theorem yF:∀(p:aa) (v:Value),aw w ν p v->aw w (hF ν N ω) (fP N p) v
 | .int k n,v,h=>by simpa only[aw,fP]using h
 | .bool b,v,h=>by simpa only[aw,fP]using h
 | .str s,v,h=>by simpa only[aw,fP]using h
 | .slice sz tag xs,v,h=>by
  simp only[aw]at h;obtain⟨⟨a,cap,I,J,q,t⟩,r,_,m,l⟩:=h;have i:xs=[]->aw w (hF ν N ω) (.slice sz .no []) v:=fun e=>by subst e;simp only[aw];exact⟨⟨a,cap,I,J,q,.inl trivial⟩,fun e=>(by cases e),fun _ e=>(by cases e),fun _ _ e=>(by cases e),fun _ e=>(by cases e)⟩
  simp only[fP];cases tag with
  |tr k j=>
   simp only;split
   ·simp[aw]
   ·rename_i d;refine Co (tag:= .no) ?_ (nQ xs);refine oj (A:=(hF ν N ω).A) (fun _ _ h=>⟨h,rfl⟩) (fun _ _ _=>rfl) _ (ν.tr k j) _ v (fun b c=>⟨c,d⟩) ?_;exact vW _ _ v (fun b o c f=>Ji eV d c f) (tv .no v (m k j rfl))
  |lo k=>
   simp only;split
   ·simp[aw]
   ·rename_i d;refine G0 (tag:= .no) ?_ (nQ xs);refine oj (A:=(hF ν N ω).A) (fun _ _ h=>⟨h,rfl⟩) (fun _ _ _=>rfl) _ (ν.tr k 0) _ v (fun b c=>⟨c,d⟩) ?_;exact vW _ _ v (fun b o c f=>Ji eV d c f) (tv .no v (l k rfl))
  |nil=>have e:=r rfl;subst e;simp only[aw];exact⟨⟨none,0,rfl,Ψ,Ψ,Ψ⟩,Ψ,fun _ e=>(by cases e),fun _ _ e=>(by cases e),fun _ e=>(by cases e)⟩
  |no=>
   simp only;split
   ·exact i rfl
   ·simp[aw]
  |own g=>
   simp only;split
   ·exact i rfl
   ·simp[aw]
 | .agg cs,v,h=>by simp only[aw,fP]at h⊢;obtain⟨us,I,J⟩:=h;exact⟨us,I,yG cs _ J⟩
 | .tuple cs,v,h=>by simp only[aw,fP]at h⊢;obtain⟨us,I,J⟩:=h;exact⟨us,I,C0 cs _ J⟩
 | .ptr k o,v,h=>by simp only[aw,fP]at h⊢;exact h
 | .nilp,v,h=>by simp only[aw,fP]at h⊢;exact h
 | .junk,_,_=>by simp[fP,aw]
 | .eptr _,_,_=>by simp[fP,aw]
 | .iface _ _,_,_=>by simp[fP,aw]
 | .func _ _,_,_=>by simp[fP,aw]
 | .gmap _,_,_=>by simp[fP,aw]
 | .row _ _ _,_,_=>by simp[fP,aw]
 | .rptr _ _ _ _ _,_,_=>by simp[fP,aw]
 | .hdm _ _,_,_=>by simp[fP,aw]
 | .hdi _ _ _,_,_=>by simp[fP,aw]
 | .cst _,_,_=>by simp[fP,aw]
theorem yG:∀(cs:List aa) (us:List Value),bL w ν cs us->bL w (hF ν N ω) (ji N cs) us
 |[],us,h=>by simpa only[bL,ji]using h
 |c::cs,us,h=>by simp only[bL,ji]at h⊢;obtain⟨u,a,I,⟨J,b⟩,d⟩:=h;exact⟨u,a,I,⟨yF c u J,b⟩,yG cs a d⟩
theorem C0:∀(cs:List aa) (us:List Value),bT w ν cs us->bT w (hF ν N ω) (ji N cs) us
 |[],us,h=>by simpa only[bT,ji]using h
 |c::cs,us,h=>by simp only[bT,ji]at h⊢;obtain⟨u,a,I,J,b⟩:=h;exact⟨u,a,I,yF c u J,C0 cs a b⟩
end
end
end
section
open Go Go.RowKit
def nj(N:List (ar×Nat))(l:List (Nat×aa)):List (Nat×aa):=l.map fun x=>(x.1,fP N x.2)
def mg(N:List (ar×Nat))(l:List (ar×List aa)):List (ar×List aa):=l.map fun x=>(x.1,ji N x.2)
def su:List (ar×List aa)->Prop
 |[]=>True
 |(_,cs)::r=>et cs=true/\su r
def Bx:∀{l:List (ar×List aa)} {k:ar} {cs:List aa},su l->ab k l=some cs->et cs=true
 |[],_,_,_,h=>by simp[ab]at h
 |(j,p)::r,k,cs,h,U=>by
  simp only[ab]at U;split at U
  ·cases U;exact h.1
  ·exact Bx h.2 U
def k4(st:aN)(s:Nat):aa:=match get s st.t with
 | .ptr k 0=>(match ab k st.b with|some cs=>.agg cs|none=>.junk)
 |p=>p
def yd(base n:Nat):List ar:=(List.range' base n).map .obj
def l3(st:aN)(p:aa)(base:Nat)(ε:Nat->Nat):aN:=⟨nj (tn p) st.t,mg (tn p) st.b,cO ε base (bE p),st.n,yd base (bS (bE p))++st.o⟩
def l4(st:aN)(s base:Nat)(ε:Nat->Nat):aN:=match get s st.t with
 | .ptr k 0=>(match ab k st.b with|some cs=>{l3 st (.agg cs) base ε with b:=bW k (fq base (bt cs)) (mg (tn (.agg cs)) st.b)}|none=>l3 st .junk base ε)
 |p=>{l3 st p base ε with t:=put s (ef base (bE p)) (nj (tn p) st.t)}
def q9(st:aN)(p:aa)(base:Nat):Prop:=e8 p/\(tn p).Nodup/\(∀m,.obj m∈st.o->m<base)/\su st.b
def Qv{base n:Nat}{k:ar}:k∈yd base n↔∃m,k= .obj m/\base<=m/\m<base+n:=by simp only[yd,k9,List.mem_range'_1];exact⟨fun⟨m,h,e⟩=>⟨m,e.symm,h⟩,fun⟨m,e,h⟩=>⟨m,h,e.symm⟩⟩
def Ko(N:List (ar×Nat))(p:aa):(match fP N p with| .hdm _ _=>false| .hdi _ _ _=>false|_=>true)=true:=by
 cases p with
 |slice sz tag xs=>
  cases tag with
  |tr k j=>by_cases e:(k,j)∈N<;>simp[fP,e]
  |lo k=>by_cases e:(k,0)∈N<;>simp[fP,e]
  |_=>cases xs<;>rfl
 |_=>rfl
def R1(N:List (ar×Nat)):∀cs,et (ji N cs)=true
 |[]=>rfl
 |c::cs=>by have:=Ko N c;simp only[ji];cases h:fP N c<;>simp_all[et]
def Sn{C:dk}{st:aN}{a:Act}{w:World}{ν:aC}(h:bO C st a w ν){k:ar}{cs cs':List aa}(U:ab k st.b=some cs)(i:et cs=true)
  (o:∀bl us el,ν.bx k=some bl->w.heap[bl]? =some (.cells us el)->bL w ν cs us.toList->bL w ν cs' us.toList):bO C {st with b:=bW k cs' st.b} a w ν:=by
 have d:∀j,(ab j (bW k cs' st.b)).isSome->(ab j st.b).isSome:=fun j c=>by
  rw[fD]at c;split at c
  ·rename_i e;subst e;simp[U]
  ·exact c
 refine⟨⟨h.good.alt,fun j l c=>?_,fun j cU bl I J=>h.good.inj j cU bl (d j I) (d cU J),h.good.own,h.good.oinj,fun g j n v bl I J=>h.good.obx g j n v bl I (d j J),h.good.one,fun bl m=>h.good.otr bl (m.imp (fun⟨j,p,q⟩=>⟨j,d j p,q⟩) id)⟩,h.fr,h.defers,h.size,h.slot,h.new⟩;rw[fD]at c;split at c
 ·rename_i e;subst e;cases c;obtain⟨bl,us,el,g1,g2,g3,g4,g5⟩:=h.good.box k cs U;rw[jQ i]at g5;rw[jP i]at g4;have g6:=o bl us el g1 g4 g5;have f:=oX g6;exact⟨bl,us,el,g1,g2,g3,by rw[jP f];exact g4,by rw[jQ f];exact g6⟩
 ·exact h.good.box j l c
def Jh{C:dk}{st:aN}{a:Act}{w:World}{ν:aC}(h:bO C st a w ν)(bg:∀b o,C.ν0.A b o->b<C.w0.heap.size){p:aa}{v:Value}{base:Nat}(aX:aw w ν p v)(aA:q9 st p base):
  ∃ε aI,bO C (l3 st p base ε) a w aI/\aw w aI (ef base (bE p)) v/\aI.bx=ν.bx:=by
 obtain⟨cm,cM,dK,hJ⟩:=aA;obtain⟨ε,ω,E,tr,S7⟩:=Cl (bE p) _ v base (Bk h.fr.trd p v aX cm cM);have Y:∀m,base<=m->fresh st.n st.o (.obj m):=fun m hm=>⟨trivial,fun U=>by have:=dK m U;omega⟩;have S:∀m x,ω m=some x->ν.bx (.obj m)=none/\ν.ow (.obj m)=none/\∀j b,¬ν.tr (.obj m) j b:=fun m x hm=>h.new _ (Y m ((E.dom m).1 (by rw[hm];rfl)).1);have z:∀m x,ω m=some x->(hF ν (tn p) ω).ow (.obj m)=some x:=fun m x hm=>by simp only[hF,hm]
 have hold:∀k n u,ν.ow k=some (n,u)->(hF ν (tn p) ω).ow k=some (n,u):=fun k n u U=>by
  cases k with
  |loc m=>exact U
  |obj m=>
   simp only[hF];cases hm:ω m with
   |none=>exact U
   |some x=>rw[(S m x hm).2.1]at U;cases U
 have G:∀k n u,(hF ν (tn p) ω).ow k=some (n,u)->ν.ow k=some (n,u)\/ ∃m,k= .obj m/\ω m=some (n,u):=fun k n u U=>by
  cases k with
  |loc m=>exact .inl U
  |obj m=>
   simp only[hF]at U;cases hm:ω m with
   |none=>rw[hm]at U;exact .inl U
   |some x=>rw[hm]at U;exact .inr ⟨m,rfl,by rw[<-U];exact hm⟩
 have W:∀bl,hi ν (tn p) bl->C.w0.heap.size<=bl:=fun bl ⟨k,j,d,f⟩=>by have U:k≠dU:=Hl p cm _ d;exact(h.fr.trb k j bl f).1.resolve_left U
 have H:∀g o,ab g (cO ε base (bE p))=some o->∃m,g= .obj m/\base<=m/\m<base+bS (bE p)/\∃u us,ω m=some (o.n,u)/\w.ownsRow 0 o.el o.sz u o.n us/\∃xs,o.xs=some xs/\xs.length=o.n/\b7 w (hF ν (tn p) ω) o.sz xs us:=fun g o aM=>by
  obtain⟨m,e,K,P⟩:=nH ε _ base g o aM;obtain⟨u,us,r,y,t⟩:=tr (hF ν (tn p) ω) z g o aM;subst e;refine⟨m,rfl,K,P,u,us,?_,y,t⟩;rcases G _ _ _ r with q|⟨M,q,fF⟩
  ·rw[(h.new _ (Y m K)).2.1]at q;cases q
  ·cases q;exact fF
 have Z:∀k cs,ab k (mg (tn p) st.b)=some cs->∃s,ab k st.b=some s/\cs=ji (tn p) s:=fun k cs U=>by
  rw[mg,xd]at U;cases ao:ab k st.b with
  |none=>rw[ao]at U;cases U
  |some s=>rw[ao]at U;cases U;exact⟨s,rfl,rfl⟩
 have F:∀k,(ab k (mg (tn p) st.b)).isSome->(ab k st.b).isSome:=fun k U=>by obtain⟨cs,ck⟩:=dt.1 U;obtain⟨s,e,_⟩:=Z k cs ck;simp[e]
 have V:∀g n v bl,(ab g (cO ε base (bE p))).isSome->(hF ν (tn p) ω).ow g=some (n,v)->v.ownBlock=some bl->hi ν (tn p) bl:=fun g n v bl I J B=>by obtain⟨o,ag⟩:=dt.1 I;obtain⟨m,rfl,K,P,u,us,r,y,t⟩:=H g o ag;rw[z m _ r]at J;cases J;obtain⟨A,d,f⟩:=E.blk m _ _ r;rw[B]at d;cases d;exact f
 refine⟨ε,hF ν (tn p) ω,⟨⟨fun bl o l=>h.good.alt bl o l.1,fun k cs U=>?_,fun k aQ bl I J=>h.good.inj k aQ bl (F k I) (F aQ J),fun g o aM=>?_,fun g cW n n' v v' bl I J B L Q cu=>?_,fun g k n v bl I J B L Q=>?_,fun k=>?_,fun bl av k j c=>?_⟩,
  ⟨h.fr.os,h.fr.tape,h.fr.output,h.fr.size,h.fr.block,fun b o l=>⟨⟨(h.fr.keep b o l).1,fun c=>?_⟩,(h.fr.keep b o l).2⟩,fun b o l=>h.fr.fresh b o l.1,h.fr.obj,h.fr.obn,fun m n u hm=>?_,h.fr.obr,fun k j aQ cU b I J=>h.fr.trd k j aQ cU b I.1 J.1,fun k j b c=>h.fr.trb k j b c.1,fun k j b c=>⟨(h.fr.trn k j b c.1).1,?_⟩,h.fr.sh⟩,h.defers,h.size,fun i=>?_,fun k U=>?_⟩,S7 _ z,rfl⟩
 ·obtain⟨s,d,rfl⟩:=Z k cs U;obtain⟨bl,us,el,g1,g2,g3,g4,g5⟩:=h.good.box k s d;have dv:=Bx hJ d;rw[jQ dv]at g5;rw[jP dv]at g4;have g6:=yG (N:=tn p) (ω:=ω) h.fr.trd s _ g5;have X:=oX g6;exact⟨bl,us,el,g1,g2,fun o l=>g3 o l.1,by rw[jP X];exact g4,by rw[jQ X];exact g6⟩
 ·obtain⟨m,rfl,K,P,u,us,r,y,xs,t,c5,cD⟩:=H g o aM;obtain⟨bl,d,f⟩:=E.blk m _ _ r;have dI:∀A,u.ownBlock=some A->∀j,¬(hF ν (tn p) ω).A A j:=fun A c j l=>by rw[d]at c;cases c;exact l.2 f
  exact⟨u,us,z m _ r,y,fun A c=>⟨.inr (by rw[d]at c;cases c;exact W _ f),fun j l=>absurd l (dI A c j)⟩,fun xs' ad=>by rw[t]at ad;cases ad;exact⟨c5,cD,dI⟩⟩
 ·obtain⟨o,ag⟩:=dt.1 I;obtain⟨o',dT⟩:=dt.1 J;obtain⟨m,rfl,_,_,u,us,r,_⟩:=H g o ag;obtain⟨M,rfl,_,_,c3,aY,HI,_⟩:=H cW o' dT;rw[z m _ r]at B;cases B;rw[z M _ HI]at L;cases L;rw[E.inj m M _ _ _ _ bl r HI Q cu]
 ·obtain⟨O,R,_,f⟩:=V g n v bl I B L;exact h.good.otr bl (.inl ⟨k,F k J,Q⟩) O R f
 ·rcases h.good.one k with I|I
  ·exact .inl I
  ·cases U:(hF ν (tn p) ω).ow k with
   |none=>exact .inr rfl
   |some x=>
    rcases G k x.1 x.2 U with J|⟨m,rfl,J⟩
    ·rw[I]at J;cases J
    ·exact .inl (S m _ J).1
 ·rcases av with⟨aQ,d,f⟩|⟨g,n,v,d,f,aZ⟩
  ·exact h.good.otr bl (.inl ⟨aQ,F aQ d,f⟩) k j c.1
  ·obtain⟨O,R,f1,f2⟩:=V g n v bl d f aZ;obtain⟨rfl,rfl⟩:=h.fr.trd k j O R bl c.1 f2;exact c.2 f1
 ·have:=W b c;have:=bg b o l;omega
 ·obtain⟨n',c3,d,f⟩:=h.fr.row m n u hm;exact⟨n',c3,hold _ _ _ d,f⟩
 ·have e:=(h.fr.trn k j b c.1).2;cases U:(hF ν (tn p) ω).ow k with
  |none=>rfl
  |some x=>
   rcases G k x.1 x.2 U with J|⟨m,rfl,J⟩
   ·rw[e]at J;cases J
   ·exact absurd c.1 ((S m _ J).2.2 j b)
 ·show aw w (hF ν (tn p) ω) (get i (nj (tn p) st.t)) _;rw[nj,zw (by simp[fP])];exact yF h.fr.trd _ _ (h.slot i)
 ·obtain⟨r,y⟩:=U;have t:k∉yd base (bS (bE p))/\k∉st.o:=by simp only[l3,lF,not_or]at y;exact y
  obtain⟨m1,m2,m3⟩:=h.new k ⟨r,t.2⟩;refine⟨m1,?_,fun j b c=>m3 j b c.1⟩;cases U:(hF ν (tn p) ω).ow k with
  |none=>rfl
  |some x=>
   rcases G k x.1 x.2 U with J|⟨m,rfl,J⟩
   ·rw[m2]at J;cases J
   ·exact absurd (Qv.2 ⟨m,rfl,(E.dom m).1 (by rw[J];rfl)⟩) t.1
def S2{C:dk}{st:aN}{a:Act}{w:World}{ν:aC}(h:bO C st a w ν)(l:∀b o,C.ν0.A b o->b<C.w0.heap.size){s base:Nat}(aA:q9 st (k4 st s) base):∃ε aI,bO C (l4 st s base ε) a w aI:=by
 have m:k4 st s=get s st.t->∃ε aI,bO C {l3 st (get s st.t) base ε with t:=put s (ef base (bE (get s st.t))) (nj (tn (get s st.t)) st.t)} a w aI:=fun e=>by rw[e]at aA;obtain⟨ε,aI,i,g,_⟩:=Jh h l (h.slot s) aA;exact⟨ε,aI,xN i g⟩
 cases U:get s st.t with
 |ptr k off=>
  cases off with
  |zero=>
   cases c:ab k st.b with
   |none=>simp only[k4,U,c]at aA;exact absurd aA.1 (by simp[e8])
   |some cs=>
    have d:k4 st s= .agg cs:=by simp only[k4,U,c]
    have f:∀ε,l4 st s base ε={l3 st (.agg cs) base ε with b:=bW k (fq base (bt cs)) (mg (tn (.agg cs)) st.b)}:=fun ε=>by simp only[l4,U,c]
    rw[d]at aA;simp only[f];obtain⟨bl,us,el,g1,g2,g3,g4,g5⟩:=h.good.box k cs c;have j:=Bx aA.2.2.2 c;rw[jQ j]at g5;rw[jP j]at g4;obtain⟨ε,aI,i,g,q⟩:=Jh h l (p:= .agg cs) (v:= .agg us) (by simp only[aw];exact⟨us,rfl,g5⟩) aA;have n:ab k (mg (tn (.agg cs)) st.b)=some (ji (tn (.agg cs)) cs):=by rw[mg,xd,c];rfl
    refine⟨ε,aI,Sn i n (R1 _ _) fun A x z f1 f2 _=>?_⟩;rw[q,g1]at f1;cases f1;rw[g4]at f2;cases f2;simp only[ef,bE,aw]at g;obtain⟨y,u,r⟩:=g;cases u;exact r
  |succ off=>
   have d:k4 st s=get s st.t:=by simp only[k4,U]
   have f:∀ε,l4 st s base ε={l3 st (get s st.t) base ε with t:=put s (ef base (bE (get s st.t))) (nj (tn (get s st.t)) st.t)}:=fun ε=>by simp only[l4,U]
   simp only[f];exact m d
 |_=>
  have d:k4 st s=get s st.t:=by simp only[k4,U]
  have f:∀ε,l4 st s base ε={l3 st (get s st.t) base ε with t:=put s (ef base (bE (get s st.t))) (nj (tn (get s st.t)) st.t)}:=fun ε=>by simp only[l4,U]
  simp only[f];exact m d
end
section
open Go Go.RowKit
inductive fN where
 |of (c:C)
 |sq (c:C) (d:fN)
 |sl (d:fN)
 |th (s:Nat) (d:fN)
def j6(P:bp)(ob:List ar):fN->(Exit->aN->Prop)->aN->Prop
 | .of c,Q,st=>b5 P ob c Q st
 | .sq c d,Q,st=>b5 P ob c (fun e st'=>match e with| .normal=>j6 P ob d Q st'|e=>Q e st') st
 | .sl d,Q,st=> ∃st',fc ob st st'/\x0 st'/\j6 P ob d Q (o1 st')
 | .th s d,Q,st=> ∃st' base,fc ob st st'/\q9 st' (k4 st' s) base/\∀ε,j6 P ob d Q (l4 st' s base ε)
def qi(N:Nat)(aE:List (Nat×cQ)):fN->Code->Bool
 | .of c,code=>eY N aE c code
 | .sq c d,.seq x y=>eY N aE c x&&qi N aE d y
 | .sl d,code=>qi N aE d code
 | .th _ d,code=>qi N aE d code
 |_,_=>false
def vL{P:bp}(hm:P.follows .mixedOrders=true){aE:List (Nat×cQ)}(f:e1 P aE=true){X:dk}(h:∀b o,X.ν0.A b o->b<X.w0.heap.size):∀(d:fN) (code:Code) (Q:Exit->aN->Prop) (st:aN),qi X.N aE d code=true->j6 P X.ob d Q st->yn P X code Q st
 | .of c,code,Q,st,ag,he=>kH hm f c code Q st ag he
 | .sq c d,code,Q,st,ag,he=>by
  cases code<;>try(simp[qi]at ag;done)
  rename_i k l;simp only[qi,bN]at ag;intro a w ν g;refine wp_seq ?_;refine wp_mono (kH hm f c k _ st ag.1 he a w ν g) fun e bG w' m=>?_;obtain⟨st',aI,j,i⟩:=m;cases e with
  |normal=>exact vL hm f h d l Q st' ag.2 j bG w' aI i
  |_=>exact⟨st',aI,j,i⟩
 | .sl d,code,Q,st,ag,he=>fun a w ν g=>by obtain⟨st',I,J,n⟩:=he;exact vL hm f h d code Q _ ag n a w _ (Sw (g.weaker I) J)
 | .th s d,code,Q,st,ag,he=>fun a w ν g=>by obtain⟨st',base,hw,I,J⟩:=he;obtain⟨ε,aI,i⟩:=S2 (g.weaker hw) h I;exact vL hm f h d code Q _ ag (J ε) a w aI i
def vS(aE:List (Nat×cQ))(d:fN)(cV:List cg)(Ba:Nat)(fn:Func):Bool:=
 match fn.body with
 |some code=>qi fn.ntmps aE d code&&km aE cV fn.results.toList&& !(fn.name== "runtime.NumGoroutine")&&decide (Ba<=fn.ntmps)
 |none=>false
def cf.mkD{P:bp}(hm:P.follows .mixedOrders=true){aE:List (Nat×cQ)}(c:e1 P aE=true){f:FuncId}{fn:Func}(p:P.funcs[f]? =some fn){d:fN}{b:List cg}{n:Nat}(a:vS aE d b n fn=true)
  {args:List aa} (l:args.length<=n) {s:b1} (h:e7 s) {Q:aa->b1->Prop} (he:gQ args->(∀j cs,ab j s.b=some cs->et cs=true->gR cs)->j6 P (b2 s) d (eX b s Q) ⟨fG 0 args,s.b,s.e,0,b2 s⟩):cf P f args s Q:=by
 unfold vS at a;split at a
 ·rename_i code o;simp only[bN,e3,Bool.not_eq_true']at a;obtain⟨⟨⟨I,J⟩,m⟩,q⟩:=a;exact cf.ofW c p o m J (jB l q) h fun X g e i r k=>vL hm c i d code _ _ (by rw[g];exact I) (by rw[e];exact he r k)
 ·cases a
def ct.mkD{P:bp}(hm:P.follows .mixedOrders=true){aE:List (Nat×cQ)}(c:e1 P aE=true){f:FuncId}{fn:Func}(h:P.funcs[f]? =some fn){d:fN}{a:List cg}{n:Nat}(b:vS aE d a n fn=true)
  {args:List aa} (g:args.length<=n) {r:aa} (e:aR (fun _=>c1) r) (he:gQ args->j6 P [] d (b3 a r) ⟨fG 0 args,[],[],0,[]⟩):ct P f args r:=by
 refine cf.mkD hm c h b g nL fun I _=>?_;rw[<-CM e];exact he I
def vk(P:bp)(ob:List ar)(d:fN)(Q:Exit->aN->Prop)(e:Exit)(st:aN):Prop:=match e with
 | .normal=>j6 P ob d Q st
 |e=>Q e st
section
variable {P:bp} {ob:List ar} {st:aN} {Q:Exit->aN->Prop} {c:C} {d:fN}
@[simp]def TW:vk P ob d Q .normal st=j6 P ob d Q st:=rfl
@[simp]def TX:vk P ob d Q .ret st=Q .ret st:=rfl
@[simp]def TV{n:Nat}:vk P ob d Q (.exit n) st=Q (.exit n) st:=rfl
@[simp]def UT:j6 P ob (.of c) Q st=b5 P ob c Q st:=rfl
@[simp]def UU:j6 P ob (.sq c d) Q st=b5 P ob c (vk P ob d Q) st:=by simp only[j6];congr 1
def Mc(st':aN)(hw:fc ob st st')(aA:x0 st')(h:j6 P ob d Q (o1 st')):j6 P ob (.sl d) Q st:=⟨st',hw,aA,h⟩
def ze{s:Nat}(st':aN)(base:Nat)(hw:fc ob st st')(aA:q9 st' (k4 st' s) base)(h:∀ε,j6 P ob d Q (l4 st' s base ε)):j6 P ob (.th s d) Q st:=⟨st',base,hw,aA,h⟩
end
end
section
open Go Go.RowKit
def yT:∀(xs ys:List aa),ch (xs++ys)=ch xs+ch ys
 |[],ys=>by simp[ch]
 |x::xs,ys=>by simp[ch,yT xs ys];omega
def vJ:∀(b:Nat) (xs ys:List aa),fq b (xs++ys)=fq b xs++fq (b+ch xs) ys
 |b,[],ys=>by simp[fq,ch]
 |b,x::xs,ys=>by simp[fq,ch,vJ _ xs ys,Nat.add_assoc]
def BW(ε:Nat->Nat):∀(b:Nat) (xs ys:List aa),eH ε b (xs++ys)=eH ε b xs++eH ε (b+ch xs) ys
 |b,[],ys=>by simp[eH,ch]
 |b,x::xs,ys=>by simp[eH,ch,BW ε _ xs ys,Nat.add_assoc]
mutual
def vH(ε:Nat->Nat):∀(p:aa) (b m:Nat),b<=m->m<b+bS p->∃o,ab (.obj m) (cO ε b p)=some o
 | .slice sz t (x::xs),b,m,I,J=>by
  simp only[bS]at J;simp only[cO,ab];by_cases e:b=m
  ·subst e;exact⟨_,if_pos rfl⟩
  ·rw[bH (by simpa using e),ja];by_cases a:m<b+1+bS x
   ·obtain⟨o,ag⟩:=vH ε x (b+1) m Ω a;exact⟨o,by rw[ag]⟩
   ·obtain⟨o,ag⟩:=y1 ε xs (b+1+bS x) m Ω Ω;cases c:ab (.obj m) (cO ε (b+1) x)with
    |some y=>exact⟨y,rfl⟩
    |none=>exact⟨o,ag⟩
 | .agg cs,b,m,I,J=>by simp only[bS,cO]at J⊢;exact y1 ε cs b m I J
 | .slice _ _ [],_,_,I,J=>by simp only[bS]at J;omega
 | .int _ _,_,_,I,J=>by simp only[bS]at J;omega
 | .bool _,_,_,I,J=>by simp only[bS]at J;omega
 | .str _,_,_,I,J=>by simp only[bS]at J;omega
 | .junk,_,_,I,J=>by simp only[bS]at J;omega
 | .ptr _ _,_,_,I,J=>by simp only[bS]at J;omega
 | .eptr _,_,_,I,J=>by simp only[bS]at J;omega
 | .iface _ _,_,_,I,J=>by simp only[bS]at J;omega
 | .nilp,_,_,I,J=>by simp only[bS]at J;omega
 | .tuple _,_,_,I,J=>by simp only[bS]at J;omega
 | .func _ _,_,_,I,J=>by simp only[bS]at J;omega
 | .gmap _,_,_,I,J=>by simp only[bS]at J;omega
 | .row _ _ _,_,_,I,J=>by simp only[bS]at J;omega
 | .rptr _ _ _ _ _,_,_,I,J=>by simp only[bS]at J;omega
 | .hdm _ _,_,_,I,J=>by simp only[bS]at J;omega
 | .hdi _ _ _,_,_,I,J=>by simp only[bS]at J;omega
 | .cst _,_,_,I,J=>by simp only[bS]at J;omega
def y1(ε:Nat->Nat):∀(a:List aa) (b m:Nat),b<=m->m<b+ch a->∃o,ab (.obj m) (eH ε b a)=some o
 |[],b,m,I,J=>by simp only[ch]at J;omega
 |x::xs,b,m,I,J=>by
  simp only[ch]at J;simp only[eH];rw[ja];by_cases c:m<b+bS x
  ·obtain⟨o,ag⟩:=vH ε x b m I c;exact⟨o,by rw[ag]⟩
  ·obtain⟨o,ag⟩:=y1 ε xs (b+bS x) m Ω Ω;cases d:ab (.obj m) (cO ε b x)with
   |some y=>exact⟨y,rfl⟩
   |none=>exact⟨o,ag⟩
end
def sf{ε:Nat->Nat}{p:aa}{b m:Nat}(h:m<b\/b+bS p<=m):ab (.obj m) (cO ε b p)=none:=by
 cases U:ab (.obj m) (cO ε b p)with
 |none=>rfl
 |some o=>obtain⟨a,e,c,d⟩:=nH ε p b _ o U;cases e;omega
def G1{ε:Nat->Nat}{p:List aa}{b m:Nat}(h:m<b\/b+ch p<=m):ab (.obj m) (eH ε b p)=none:=by
 cases U:ab (.obj m) (eH ε b p)with
 |none=>rfl
 |some o=>obtain⟨a,e,c,d⟩:=se ε p b _ o U;cases e;omega
def Qm{ε:Nat->Nat}{l r:List aa}{y:aa}{b:Nat}{k:ar}{o:cw}(h:ab k (cO ε (b+ch l) y)=some o):ab k (eH ε b (l++y::r))=some o:=by obtain⟨m,rfl,a,c⟩:=nH ε y _ k o h;rw[BW,ja,G1 Ω];simp only[eH];rw[ja,h]
def Qn{ε:Nat->Nat}{l r:List aa}{y y':aa}{b:Nat}(aA:bS y'=bS y){k:ar}{o:cw}(h:ab k (eH ε b (l++y'::r))=some o):
  ab k (cO ε (b+ch l) y')=some o\/(ab k (cO ε (b+ch l) y)=none/\ab k (cO ε (b+ch l) y')=none/\ab k (eH ε b (l++y::r))=some o):=by
 obtain⟨m,rfl,c,d⟩:=se ε _ _ k o h;simp only[BW,eH,ja,aA]at h⊢;by_cases I:m<b+ch l
 ·rw[sf (p:=y) (.inl I),sf (p:=y') (.inl I)];refine .inr ⟨rfl,rfl,?_⟩;rw[sf (p:=y') (.inl I)]at h;exact h
 ·rw[G1 (p:=l) (.inr Ω)]at h⊢;by_cases J:m<b+ch l+bS y
  ·obtain⟨o',a⟩:=vH ε y' (b+ch l) m Ω Ω;rw[a]at h⊢;exact .inl h
  ·rw[sf (p:=y) (.inr Ω),sf (p:=y') (.inr Ω)];rw[sf (p:=y') (.inr Ω)]at h;exact .inr ⟨rfl,rfl,h⟩
end
section
open Go Go.RowKit
section
variable (bZ:Int->List cF)
mutual
def cA:aa->Int->aa×Int
 | .int a _,k=>(.int a k,k+1)
 | .str _,k=>(.str (bZ k),k+1)
 | .slice sz t xs,k=>(.slice sz t (bI xs k).1,(bI xs k).2)
 | .agg cs,k=>(.agg (bI cs k).1,(bI cs k).2)
 |p,k=>(p,k)
def bI:List aa->Int->List aa×Int
 |[],k=>([],k)
 |x::xs,k=>((cA x k).1::(bI xs (cA x k).2).1,(bI xs (cA x k).2).2)
end
def oS:∀(xs:List aa) (k:Int),(bI bZ xs k).1.length=xs.length
 |[],k=>by simp[bI]
 |x::xs,k=>by simp[bI,oS xs]
mutual
def Ec:∀(p:aa) (k:Int),bS (cA bZ p k).1=bS p
 | .int _ _,k=>by simp[cA,bS]
 | .str _,k=>by simp[cA,bS]
 | .slice _ _ [],k=>by simp[cA,bI,bS]
 | .slice _ _ (x::xs),k=>by simp[cA,bI,bS,Ec x,pd xs]
 | .agg cs,k=>by simp[cA,bS,pd cs]
 | .bool _,k=>by simp[cA]
 | .junk,k=>by simp[cA]
 | .ptr _ _,k=>by simp[cA]
 | .eptr _,k=>by simp[cA]
 | .iface _ _,k=>by simp[cA]
 | .nilp,k=>by simp[cA]
 | .tuple _,k=>by simp[cA]
 | .func _ _,k=>by simp[cA]
 | .gmap _,k=>by simp[cA]
 | .row _ _ _,k=>by simp[cA]
 | .rptr _ _ _ _ _,k=>by simp[cA]
 | .hdm _ _,k=>by simp[cA]
 | .hdi _ _ _,k=>by simp[cA]
 | .cst _,k=>by simp[cA]
def pd:∀(a:List aa) (k:Int),ch (bI bZ a k).1=ch a
 |[],k=>by simp[bI]
 |x::xs,k=>by simp[bI,ch,Ec x,pd xs]
end
def xk:∀(xs ys:List aa) (k:Int),bI bZ (xs++ys) k=((bI bZ xs k).1++(bI bZ ys (bI bZ xs k).2).1,(bI bZ ys (bI bZ xs k).2).2)
 |[],ys,k=>by simp[bI]
 |x::xs,ys,k=>by simp[bI,xk xs ys]
mutual
def QO:∀(p:aa) (k:Int),k<=(cA bZ p k).2
 | .int _ _,k=>by simp[cA];omega
 | .str _,k=>by simp[cA];omega
 | .slice _ _ xs,k=>by simp only[cA];exact oR xs k
 | .agg cs,k=>by simp only[cA];exact oR cs k
 | .bool _,k=>by simp[cA]
 | .junk,k=>by simp[cA]
 | .ptr _ _,k=>by simp[cA]
 | .eptr _,k=>by simp[cA]
 | .iface _ _,k=>by simp[cA]
 | .nilp,k=>by simp[cA]
 | .tuple _,k=>by simp[cA]
 | .func _ _,k=>by simp[cA]
 | .gmap _,k=>by simp[cA]
 | .row _ _ _,k=>by simp[cA]
 | .rptr _ _ _ _ _,k=>by simp[cA]
 | .hdm _ _,k=>by simp[cA]
 | .hdi _ _ _,k=>by simp[cA]
 | .cst _,k=>by simp[cA]
def oR:∀(a:List aa) (k:Int),k<=(bI bZ a k).2
 |[],k=>by simp[bI]
 |x::xs,k=>by have I:=QO x k;have J:=oR xs (cA bZ x k).2;simp only[bI];omega
end
end
end
section
open Go Go.RowKit
inductive fY:aa->Prop
 |mk (a b:Int) (s:List cF) (ys:List aa):(∀y∈ys,fY y)->fY (.agg [.int .i64 a,.int .i64 b,.str s,.slice 4 .no ys])
mutual
def sM:aa->Nat
 | .slice _ _ xs=>jw xs
 | .agg cs=>1+jw cs
 |_=>0
def jw:List aa->Nat
 |[]=>0
 |x::xs=>sM x+jw xs
end
def yc:∀{xs:List aa} {x:aa},x∈xs->sM x<=jw xs
 |y::ys,x,h=>by
  rcases gw.1 h with rfl|h
  ·simp only[jw];omega
  ·have:=yc h;simp only[jw];omega
def fY.inv{p:aa}(h:fY p):∃a b s ys,p= .agg [.int .i64 a,.int .i64 b,.str s,.slice 4 .no ys]/\(∀y∈ys,fY y)/\sM p=1+jw ys:=by
 cases h with
 |mk a b s ys h=>exact⟨a,b,s,ys,rfl,h,by simp[sM,jw]⟩
def uN{ε:Nat->Nat}{p:aa}{b:Nat}(k:ar):(ab k (cO ε b p)).isSome=true↔∃m,k= .obj m/\b<=m/\m<b+bS p:=by
 constructor
 ·intro h;obtain⟨o,ag⟩:=dt.1 h;exact nH ε p b k o ag
 ·rintro⟨m,rfl,I,J⟩;obtain⟨o,ag⟩:=vH ε p b m I J;rw[ag];rfl
def rng(b c:Nat)(k:ar):Prop:= ∃m,k= .obj m/\b<=m/\m<c
def sI{b c dR a:Nat}(I:dR<=b)(J:c<=a)(k:ar)(h:rng b c k):rng dR a k:=by obtain⟨m,e,d,f⟩:=h;exact⟨m,e,Ω,Ω⟩
mutual
def qM:∀(p:aa) (b:Nat),b6 p->aR (rng b (b+bS p)) (ef b p)
 | .slice sz t [],b,h=>by simp[ef,aR,aV]
 | .slice sz t (x::xs),b,h=>by simp only[ef,aR,bS];exact⟨b,rfl,Ω,Ω⟩
 | .agg cs,b,h=>by simp only[ef,aR,bS,b6]at h⊢;exact AO cs b h
 | .int _ _,_,_=>by simp[ef,aR]
 | .bool _,_,_=>by simp[ef,aR]
 | .str _,_,_=>by simp[ef,aR]
 | .junk,_,h=>by simp[b6]at h
 | .ptr _ _,_,h=>by simp[b6]at h
 | .eptr _,_,h=>by simp[b6]at h
 | .iface _ _,_,h=>by simp[b6]at h
 | .nilp,_,h=>by simp[b6]at h
 | .tuple _,_,h=>by simp[b6]at h
 | .func _ _,_,h=>by simp[b6]at h
 | .gmap _,_,h=>by simp[b6]at h
 | .row _ _ _,_,h=>by simp[b6]at h
 | .rptr _ _ _ _ _,_,h=>by simp[b6]at h
 | .hdm _ _,_,h=>by simp[b6]at h
 | .hdi _ _ _,_,h=>by simp[b6]at h
 | .cst _,_,h=>by simp[b6]at h
def AO:∀(a:List aa) (b:Nat),ea a->aV (rng b (b+ch a)) (fq b a)
 |[],b,h=>by simp[fq,aV]
 |x::xs,b,h=>by simp only[ea]at h;simp only[fq,aV,ch];exact⟨oN (sI Ω Ω) _ (qM x b h.1),hg (sI Ω Ω) _ (AO xs _ h.2)⟩
end
def uj{S T:ar->Prop}(h:∀k,S k->T k){o:cw}(U:hh S o):hh T o:=fun xs a=>hg h _ (U xs a)
mutual
def AS{ε:Nat->Nat}:∀(p:aa) (b:Nat),b6 p->∀k o,ab k (cO ε b p)=some o->hh (rng b (b+bS p)) o
 | .slice sz t (x::xs),b,h,k,o,U=>by
  simp only[b6]at h;simp only[cO,ab]at U;simp only[bS];split at U
  ·cases U;intro ys a;cases a;have:=AO (x::xs) (b+1) h.2;simp only[ch,fq]at this;exact hg (sI Ω Ω) _ this
  ·have:=AR (ε:=ε) (x::xs) (b+1) h.2 k o (by simpa only[eH]using U);simp only[ch]at this;exact uj (sI Ω Ω) this
 | .agg cs,b,h,k,o,U=>by simp only[cO,bS,b6]at h U⊢;exact AR cs b h k o U
 | .slice _ _ [],_,_,_,_,h=>by simp[cO,ab]at h
 | .int _ _,_,_,_,_,h=>by simp[cO,ab]at h
 | .bool _,_,_,_,_,h=>by simp[cO,ab]at h
 | .str _,_,_,_,_,h=>by simp[cO,ab]at h
 | .junk,_,h,_,_,_=>by simp[b6]at h
 | .ptr _ _,_,h,_,_,_=>by simp[b6]at h
 | .eptr _,_,h,_,_,_=>by simp[b6]at h
 | .iface _ _,_,h,_,_,_=>by simp[b6]at h
 | .nilp,_,h,_,_,_=>by simp[b6]at h
 | .tuple _,_,h,_,_,_=>by simp[b6]at h
 | .func _ _,_,h,_,_,_=>by simp[b6]at h
 | .gmap _,_,h,_,_,_=>by simp[b6]at h
 | .row _ _ _,_,h,_,_,_=>by simp[b6]at h
 | .rptr _ _ _ _ _,_,h,_,_,_=>by simp[b6]at h
 | .hdm _ _,_,h,_,_,_=>by simp[b6]at h
 | .hdi _ _ _,_,h,_,_,_=>by simp[b6]at h
 | .cst _,_,h,_,_,_=>by simp[b6]at h
def AR{ε:Nat->Nat}:∀(a:List aa) (b:Nat),ea a->∀k o,ab k (eH ε b a)=some o->hh (rng b (b+ch a)) o
 |[],b,h,k,o,U=>by simp[eH,ab]at U
 |x::xs,b,h,k,o,U=>by
  simp only[ea]at h;simp only[eH,ja]at U;simp only[ch];cases I:ab k (cO ε b x)with
  |some y=>rw[I]at U;cases U;exact uj (sI Ω Ω) (AS x b h.1 k _ I)
  |none=>rw[I]at U;exact uj (sI Ω Ω) (AR xs _ h.2 k _ U)
end
abbrev eK(ε:Nat->Nat)(b:Nat)(p:aa):b1:=⟨[],cO ε b p⟩
def s6{ε:Nat->Nat}{b:Nat}{p:aa}(k:ar):a7 (eK ε b p) k↔rng b (b+bS p) k:=by unfold a7 rng;rw[uN];simp[ab]
def CR(ε:Nat->Nat)(b:Nat)(p:aa):e7 (eK ε b p):=by
 refine⟨fun m=>by simp[ab],fun m=>?_⟩;cases h:ab (.loc m) (cO ε b p)with
 |none=>rfl
 |some o=>obtain⟨a,e,_⟩:=nH ε p b _ o h;cases e
def qd{ε:Nat->Nat}{b:Nat}{p:aa}(h:b6 p):eB (eK ε b p):=⟨CR ε b p,fun k cs U=>by simp[ab]at U,fun k o U=>uj (fun k U=>(s6 k).2 U) (AS p b h k o U)⟩
def rq{ε:Nat->Nat}{b:Nat}{p q:aa}(h:bS q=bS p):dW (eK ε b p) (eK ε b q):=⟨fun k=>rfl,fun k=>by rw[Bool.eq_iff_iff,uN,uN,h]⟩
def Kb{ε:Nat->Nat}{b:Nat}{p:aa}(h:b6 p):aR (a7 (eK ε b p)) (ef b p):=oN (fun k U=>(s6 k).2 U) _ (qM p b h)
def Ka{ε:Nat->Nat}{b:Nat}{p:aa}{k:ar}:k∈b2 (eK ε b p)↔rng b (b+bS p) k:=by rw[<-s6 (ε:=ε)];exact⟨Gh,fun h=>mJ h⟩
def CallDo.sub{P:bp}{n:Nat}{args:List aa}{st:aN}{d:aT Nat}{K:aN->Prop}{ε:Nat->Nat}{b:Nat}{l r:List aa}{y y' f:aa}(s:b6 y)(aA:bS y'=bS y)
  (t:cf P n args (eK ε (b+ch l) y) fun g i=>g=f/\i=eK ε (b+ch l) y')
  (he:∀k o,ab k (eH ε b (l++y::r))=some o->ab k st.e=some o) (U:aV (rng (b+ch l) (b+ch l+bS y)) args)
  (h:∀a,(∀k o,ab k (eH ε b (l++y'::r))=some o->ab k a=some o)->(∀k,¬rng (b+ch l) (b+ch l+bS y) k->ab k a=ab k st.e)->K ⟨dH d f st.t,st.b,a,st.n,st.o++b2 (eK ε (b+ch l) y')⟩):CallDo P n args st d K:=by
 refine CallDo.ob t (qd s) (fun k cs U=>by simp[ab]at U) (fun k o U=>he k o (Qm U)) (hg (fun k U=>(s6 k).2 U) _ U) ?_;rintro g i ⟨rfl,rfl⟩;refine⟨rq aA,?_⟩;simp only[sT,List.append_nil];refine h _ (fun k o U=>?_) fun k U=>?_
 ·rw[ja,mH];rcases Qn aA U with I|⟨I,J,q⟩
  ·have:(ab k (cO ε (b+ch l) y)).isSome=true:=by have:=uN (ε:=ε) (p:=y') (b:=b+ch l) k;rw[uN,<-aA,<-this,I];rfl
   rw[this];simp[I]
  ·rw[I];simp[he k o q]
 ·have I:ab k (cO ε (b+ch l) y)=none:=by
   cases c:ab k (cO ε (b+ch l) y)with
   |none=>rfl
   |some o=>exact absurd (nH ε y _ k o c) U
  have J:ab k (cO ε (b+ch l) y')=none:=by
   cases c:ab k (cO ε (b+ch l) y')with
   |none=>rfl
   |some o=>obtain⟨m,e,j,u⟩:=nH ε y' _ k o c;exact absurd ⟨m,e,j,Ω⟩ U
  rw[ja,mH,I,J];simp;cases ab k st.e<;>rfl
def gO.val{P:bp}{f:FuncId}{args:List aa}{r:Nat->aa}(h:gO P f args r)(U:aR (fun _=>c1) (bE (r 0)):=by simp[bE,aR,aV]):ct P f args (bE (r 0)):=by
 intro w ν aJ I J A;have hm:∀(e:Ending) (w':World),(∃v d a aI,e= .returned v/\(d=r 0/\a=⟨[],[]⟩)/\aw w' aI d v/\Good (fun bl=>dE ν ⟨[],[]⟩ bl\/w.heap.size<=bl) w' aI a.b a.e/\rE (some 0) aI a/\e7 a/\kA ⟨w,ν,dE ν ⟨[],[]⟩,0,b2 ⟨[],[]⟩⟩ w' aI)->
   (∃v d a aI,e= .returned v/\(d=bE (r 0)/\a=⟨[],[]⟩)/\aw w' aI d v/\Good (fun bl=>dE ν ⟨[],[]⟩ bl\/w.heap.size<=bl) w' aI a.b a.e/\kI aI a/\e7 a/\kA ⟨w,ν,dE ν ⟨[],[]⟩,0,b2 ⟨[],[]⟩⟩ w' aI):=by
  rintro e w' ⟨v,d,a,aI,x,⟨rfl,rfl⟩,a3,a4,a5,E,c⟩;have q:∀k,ν.bx k=none:=fun k=>(J k).1 rfl;have s:∀k,ν.ow k=none:=fun k=>(J k).2.1 rfl;refine⟨v,_,⟨[],[]⟩,aI.cut fun _=>c1,x,⟨rfl,rfl⟩,nP (jC.cut _ w' aI) _ _ U (p0 _ v a3),a4.cut (fun k cs i=>by simp[ab]at i) (fun k o i=>by simp[ab]at i) (fun bl B _=>B),fun k=>?_,nL,
   ⟨c.os,c.tape,c.output,c.size,c.block,c.keep,c.fresh,fun n b g=>?_,c.obn,fun m n u hm=>?_,c.obr,fun k j aQ cU b l _=>l.1.elim,fun k j b g=>g.1.elim,fun k j b g=>g.1.elim,c.sh⟩⟩
  ·obtain⟨l,y,t⟩:=aC.cut_no (ν:=aI) (S:=fun _=>c1) (k:=k) (fun h=>h);exact⟨fun _=>l,fun _=>y,t⟩
  ·rw[q]at g;cases g
  ·rw[s]at hm;cases hm
 rcases h 0 w ν aJ I J A with⟨p,aA⟩|⟨v,w',aA,z⟩
 ·exact .inl ⟨p,aA.mono hm⟩
 ·exact .inr ⟨v,w',aA,hm _ _ z⟩
def gp{α:Type}(f:α->Nat->aa)(l:List (α×Nat)):List aa:=l.map fun p=>f p.1 p.2
@[simp]def WE{α:Type}(f:α->Nat->aa):gp f []=[]:=rfl
@[simp]def WD{α:Type}(f:α->Nat->aa)(l:List (α×Nat)):(gp f l).length=l.length:=by simp[gp]
@[simp]def WG{α:Type}(f:α->Nat->aa)(l:List (α×Nat))(x:α)(n:Nat):gp f (l++[(x,n)])=gp f l++[f x n]:=by simp[gp]
def Bg(n:Nat):ar.loc n≠dU:=fun e=>by unfold dU at e;cases e
structure la {α:Type} (n:Nat) (l:List (α×Nat)):Prop where
 nd:(l.map (·.2)).Nodup
 lt:∀p∈l,p.2<n
def la.nil{α:Type}(n:Nat):la n ([]:List (α×Nat)):=⟨Ψ,Ψ⟩
def la.mono{α:Type}{n m:Nat}{l:List (α×Nat)}(h:la n l)(hm:n<=m):la m l:=⟨h.nd,fun p a=>by have:=h.lt p a;omega⟩
def la.snoc{α:Type}{n m n':Nat}{l:List (α×Nat)}(h:la n l)(x:α)(I:n<=m)(J:m<n'):la n' (l++[(x,m)]):=by
 refine⟨?_,fun p c=>?_⟩
 ·rw[List.map_append,ma];refine⟨h.nd,Ψ,fun a f b d e=>?_⟩;simp at d;subst d;obtain⟨p,c,rfl⟩:=k9.1 f;have:=h.lt p c;omega
 ·rcases lF.1 c with c|c
  ·have:=h.lt p c;omega
  ·simp at c;subst c;exact J
structure jZ {α:Type} (f:α->Nat->aa) (g:α->aa):Prop where
 tn:∀x n,tn (f x n)=[(.loc n,0)]
 ok:∀x n,e8 (f x n)
 st:∀x n,bE (f x n)=g x
 ki:∀(S:ar->Prop) x n,S (.loc n)->aR S (f x n)
def jZ.tnL{α:Type}{f:α->Nat->aa}{g:α->aa}(h:jZ f g):∀(l:List (α×Nat)),Pv.tnL (gp f l)=(l.map (·.2)).map fun m=>(ar.loc m,0)
 |[]=>by simp[gp,Pv.tnL]
 |x::l=>by have:=h.tnL l;unfold gp at this;simp[gp,Pv.tnL,h.tn,this]
def jZ.nodup{α:Type}{f:α->Nat->aa}{g:α->aa}(h:jZ f g){n:Nat}{l:List (α×Nat)}(d:la n l):(Pv.tnL (gp f l)).Nodup:=by rw[h.tnL];refine X4 _ (fun a b c e=>c ?_) d.nd;simpa using e
def jZ.okL{α:Type}{f:α->Nat->aa}{g:α->aa}(h:jZ f g):∀(l:List (α×Nat)),gq (gp f l)
 |[]=>by simp[gp,gq]
 |x::l=>by have:=h.okL l;unfold gp at this;simp[gp,gq,h.ok,this]
def jZ.stL{α:Type}{f:α->Nat->aa}{g:α->aa}(h:jZ f g):∀(l:List (α×Nat)),bt (gp f l)=(l.map (·.1)).map g
 |[]=>by simp[gp,bt]
 |x::l=>by have:=h.stL l;unfold gp at this;simp[gp,bt,h.st,this]
def jZ.kiL{α:Type}{f:α->Nat->aa}{g:α->aa}(h:jZ f g){S:ar->Prop}:∀(l:List (α×Nat)),(∀p∈l,S (.loc p.2))->aV S (gp f l)
 |[],_=>by simp[gp,aV]
 |x::l,hx=>by have:=h.kiL l fun p a=>hx p (by simp[a]);unfold gp at this;simp only[gp,gG,aV];exact⟨h.ki S x.1 x.2 (hx x Ψ),this⟩
def jZ.kin{α:Type}{f:α->Nat->aa}{g:α->aa}(h:jZ f g){n m:Nat}{l:List (α×Nat)}(a:la n l)(hm:n<=m)(o:List ar):aV (fun k=> ¬fresh m o k) (gp f l)=True:=eq_true (h.kiL l fun p b c=>by have I:=a.lt p b;have J:m<=p.2:=c.1;omega)
def y3:∀(a b:List aa),ea (a++b)↔ea a/\ea b
 |[],b=>by simp[ea]
 |x::a,b=>by simp[ea,y3 a b,and_assoc]
mutual
def y6(bZ:Int->List cF):∀(p:aa) (k:Int),b6 p->b6 (cA bZ p k).1
 | .int _ _,_,_=>by simp[cA,b6]
 | .bool _,_,_=>by simp[cA,b6]
 | .str _,_,_=>by simp[cA,b6]
 | .slice sz _ xs,k,h=>by simp only[cA,b6]at h⊢;exact⟨h.1,rC bZ xs k h.2⟩
 | .agg cs,k,h=>by simp only[cA,b6]at h⊢;exact rC bZ cs k h
 | .junk,_,h=>by simp[b6]at h
 | .ptr _ _,_,h=>by simp[b6]at h
 | .eptr _,_,h=>by simp[b6]at h
 | .iface _ _,_,h=>by simp[b6]at h
 | .nilp,_,h=>by simp[b6]at h
 | .tuple _,_,h=>by simp[b6]at h
 | .func _ _,_,h=>by simp[b6]at h
 | .gmap _,_,h=>by simp[b6]at h
 | .row _ _ _,_,h=>by simp[b6]at h
 | .rptr _ _ _ _ _,_,h=>by simp[b6]at h
 | .hdm _ _,_,h=>by simp[b6]at h
 | .hdi _ _ _,_,h=>by simp[b6]at h
 | .cst _,_,h=>by simp[b6]at h
def rC(bZ:Int->List cF):∀(a:List aa) (k:Int),ea a->ea (bI bZ a k).1
 |[],k,h=>by simp[bI,ea]
 |x::xs,k,h=>by simp only[bI,ea]at h⊢;exact⟨y6 bZ x k h.1,rC bZ xs _ h.2⟩
end
end
end Go.Pv
namespace Go.Proofs.YtahlgcidhnjlbaaGreat
section
open Go Go.Pv
def Jt{t:T}(h:t.fit=true):ct aG 64 [t.e] (.bool true):=by have:=Ct t;rwa[h]at this
@[simp]def WS(l:List fy):et (AY l)=false:=rfl
@[simp]def WX(m:ar)(l:List fy):sD m (AY l)=some (ep l.length [] m):=rfl
end
section
open Go Go.Pv Go.Lib
def yV(d:List bc):aa:=gv (d.map bc.e)
@[simp]def Uu(d:List bc):cells (yV d)=[yV d]:=rfl
@[simp]def Xk(d:List bc):dd (yV d)=true:=rfl
def y2(d:List iL):aa:=gv (d.map iL.e)
@[simp]def Uv(d:List iL):cells (y2 d)=[y2 d]:=rfl
@[simp]def Xl(d:List iL):dd (y2 d)=true:=rfl
end
section
open Go Go.Pv
inductive fb where
 |s (l:List cF)
 |b (x:ByteArray)
def fb.e:fb->aa
 | .s l=>.str l
 | .b x=>.cst (.string x)
def fb.len:fb->Int
 | .s l=>l.length
 | .b x=>x.size
def p7(n:Nat):Prop:=cH<n/\n<=9223372036854775807
def fb.wf:fb->Prop
 | .s _=>True
 | .b x=>p7 x.size
inductive dZ (α:Type) where
 |l (xs:List α)
 |b (p:aT Addr) (n cap:Nat)
def dZ.e{α:Type}(sz:Nat)(f:α->aa):dZ α->aa
 | .l xs=>.slice sz .no (xs.map f)
 | .b p n cap=>.cst (.slice p n cap)
def dZ.wf{α:Type}(P:α->Prop):dZ α->Prop
 | .l xs=> ∀x∈xs,P x
 | .b _ n _=>p7 n
inductive bj where
 |mk (k n:Int) (s:fb) (a:List bj)
 |big (k n:Int) (s:fb) (p:aT Addr) (len cap:Nat)
mutual
def bj.e:bj->aa
 | .mk k n s a=>.agg [aB k,aB n,s.e,b8 (bj.eL a)]
 | .big k n s p len cap=>.agg [aB k,aB n,s.e,.cst (.slice p len cap)]
def bj.eL:List bj->List aa
 |[]=>[]
 |x::xs=>x.e::bj.eL xs
end
def bj.eL_map:∀l,bj.eL l=l.map bj.e
 |[]=>rfl
 |x::xs=>by simp[bj.eL,bj.eL_map xs]
def bj.kind:bj->Int| .mk k _ _ _=>k| .big k _ _ _ _ _=>k
def bj.num:bj->Int| .mk _ n _ _=>n| .big _ n _ _ _ _=>n
def bj.name:bj->fb| .mk _ _ s _=>s| .big _ _ s _ _ _=>s
def bj.args:bj->dZ bj| .mk _ _ _ a=>.l a| .big _ _ _ p l c=>.b p l c
def bj.e_eq(t:bj):t.e= .agg [aB t.kind,aB t.num,t.name.e,t.args.e 4 bj.e]:=by
 cases t with
 |mk k n s a=>simp only[bj.e,bj.eL_map];rfl
 |big=>rfl
@[simp]def V0(S:ar->Prop)(s:fb):aR S s.e=True:=by cases s<;>simp[fb.e,aR]
@[simp]def XJ(s:fb):bE s.e=s.e:=by cases s<;>simp[fb.e,bE]
mutual
def GS(S:ar->Prop):∀t:bj,aR S t.e
 | .mk k n s a=>by simp[bj.e,aR,aV,AQ S a]
 | .big k n s p l c=>by simp[bj.e,aR,aV]
def AQ(S:ar->Prop):∀l:List bj,aV S (bj.eL l)
 |[]=>by simp[bj.eL,aV]
 |x::xs=>by simp[bj.eL,aV,GS S x,AQ S xs]
end
mutual
def I3:∀t:bj,bE t.e=t.e
 | .mk k n s a=>by simp[bj.e,bE,bt,Cb a]
 | .big k n s p l c=>by simp[bj.e,bE,bt]
def Cb:∀l:List bj,bt (bj.eL l)=bj.eL l
 |[]=>by simp[bj.eL,bt]
 |x::xs=>by simp[bj.eL,bt,I3 x,Cb xs]
end
@[simp]def V1(S:ar->Prop)(t:bj):aR S t.e=True:=eq_true (GS S t)
@[simp]def VV(S:ar->Prop)(l:List bj):aV S (l.map bj.e)=True:=by rw[<-bj.eL_map];exact eq_true (AQ S l)
@[simp]def XL(t:bj):bE t.e=t.e:=I3 t
@[simp]def XF(l:List bj):bt (l.map bj.e)=l.map bj.e:=by rw[<-bj.eL_map];exact Cb l
@[simp]def VO(t:bj):oK 4 t.e:=by rw[bj.e_eq];exact⟨_,rfl,rfl⟩
@[simp]def VZ(S:ar->Prop)(x:dZ bj):aR S (x.e 4 bj.e)=True:=by cases x<;>simp[dZ.e,aR]
@[simp]def XI(x:dZ bj):bE (x.e 4 bj.e)=x.e 4 bj.e:=by cases x<;>simp[dZ.e,bE]
mutual
def bj.sz:bj->Nat
 | .mk _ _ _ a=>1+bj.szL a
 | .big _ _ _ _ _ _=>1
def bj.szL:List bj->Nat
 |[]=>0
 |x::xs=>x.sz+bj.szL xs
end
def bj.szL_mem:∀{l:List bj} {x:bj},x∈l->x.sz<=bj.szL l
 |y::l,x,h=>by
  rcases gw.1 h with rfl|h
  ·simp[bj.szL]
  ·have:=bj.szL_mem h;simp[bj.szL];omega
mutual
def bj.wf:bj->Prop
 | .mk _ _ s a=>s.wf/\bj.wfL a
 | .big _ _ s _ l _=>s.wf/\p7 l
def bj.wfL:List bj->Prop
 |[]=>True
 |x::xs=>x.wf/\bj.wfL xs
end
def bj.wfL_iff:∀{l:List bj},bj.wfL l↔∀x∈l,x.wf
 |[]=>by simp[bj.wfL]
 |x::l=>by simp[bj.wfL,bj.wfL_iff (l:=l)]
def jv{α:Type}(f:α->Int->Int):List α->Int->Int
 |[],m=>m
 |x::xs,m=>if f x m<0 then-1 else jv f xs (f x m)
def mS{α:Type}(f:α->Int->Int)(l:List α)(m:Int):Int:=if m-l.length<0 then-1 else jv f l (m-l.length)
def jT{α:Type}(f:α->Int->Int):dZ α->Int->Int
 | .l xs,m=>mS f xs m
 | .b _ _ _,_=> -1
def I7{α:Type}{f:α->Int->Int}(a:∀x m,0<=m-> -1<=f x m/\f x m<=m):∀(l:List α) (m:Int),0<=m-> -1<=jv f l m/\jv f l m<=m
 |[],m,h=>by simp only[jv];omega
 |x::xs,m,h=>by
  have I:=a x m h;simp only[jv];split
  ·omega
  ·have J:=I7 a xs (f x m) Ω;omega
def SR{α:Type}{f:α->Int->Int}(a:∀x m,0<=m-> -1<=f x m/\f x m<=m)(l:List α)(m:Int)(h:0<=m): -1<=mS f l m/\mS f l m<=m:=by
 unfold mS;split
 ·omega
 ·have:=I7 a l (m-l.length) Ω;omega
def Ce{α:Type}{f:α->Int->Int}(a:∀x m,0<=m-> -1<=f x m/\f x m<=m)(l:dZ α)(m:Int)(h:0<=m): -1<=jT f l m/\jT f l m<=m:=by
 cases l with
 |l xs=>exact SR a xs m h
 |b=>simp only[jT];omega
mutual
def eW:bj->Int->Int
 | .mk _ _ s a,m=>if m-s.len<0 then-1 else if m-s.len-a.length<0 then-1 else k3 a (m-s.len-a.length)
 | .big _ _ s _ _ _,m=>if m-s.len<0 then-1 else-1
def k3:List bj->Int->Int
 |[],m=>m
 |x::xs,m=>if eW x m<0 then-1 else k3 xs (eW x m)
end
def Ja:∀(l:List bj) (m:Int),k3 l m=jv eW l m
 |[],m=>rfl
 |x::xs,m=>by simp only[k3,jv,Ja xs]
def yb(t:bj)(m:Int):eW t m=if m-t.name.len<0 then-1 else jT eW t.args (m-t.name.len):=by
 cases t with
 |mk=>simp only[eW,jT,mS,Ja,bj.name,bj.args];rfl
 |big=>simp only[eW,jT,bj.name,bj.args];rfl
def fb.len_nn(s:fb):0<=s.len:=by cases s<;>simp[fb.len]
mutual
def p6:∀(t:bj) (m:Int),0<=m-> -1<=eW t m/\eW t m<=m
 | .mk _ _ s a,m,h=>by
  have:=s.len_nn;simp only[eW];split
  ·omega
  ·split
   ·omega
   ·have:=Jb a (m-s.len-a.length) Ω;omega
 | .big _ _ s _ _ _,m,h=>by simp only[eW];split<;>omega
def Jb:∀(l:List bj) (m:Int),0<=m-> -1<=k3 l m/\k3 l m<=m
 |[],m,h=>by simp only[k3];omega
 |x::xs,m,h=>by
  have I:=p6 x m h;simp only[k3];split
  ·omega
  ·have J:=Jb xs (eW x m) Ω;omega
end
def fb.small{s:fb}(hw:s.wf){m:Int}(a:m<=1048576)(h:0<=m-s.len):∃l,s= .s l:=by
 cases s with
 |s l=>exact⟨l,rfl⟩
 |b x=>simp only[fb.wf,p7,cH]at hw;simp only[fb.len]at h;omega
mutual
def kp:Tm->bj
 | .mk k n s a=>.mk k n (.s s) (k5 a)
def k5:List Tm->List bj
 |[]=>[]
 |x::xs=>kp x::k5 xs
end
def Jm:∀l,k5 l=l.map kp
 |[]=>rfl
 |x::xs=>by simp[k5,Jm xs]
mutual
def Cm:∀t:Tm,(kp t).e=enc t
 | .mk k n s a=>by simp only[kp,bj.e,enc,Jl a];rfl
def Jl:∀l:List Tm,bj.eL (k5 l)=hK l
 |[]=>rfl
 |x::xs=>by simp only[k5,bj.eL,hK,Cm x,Jl xs]
end
mutual
def Cf:∀(t:bj) (m:Int),t.wf->m<=1048576->0<=m->0<=eW t m->∃u:Tm,t=kp u
 | .mk k n s a,m,hw,I,d,h=>by
  simp only[bj.wf]at hw;simp only[eW]at h;have:=s.len_nn;split at h
  ·omega
  rename_i g;obtain⟨l,rfl⟩:=fb.small hw.1 I Ω;split at h
  ·omega
  obtain⟨b,c⟩:=Jc a _ hw.2 Ω Ω h;exact⟨.mk k n l b,by simp only[kp,c]⟩
 | .big _ _ s _ _ _,m,_,_,_,h=>by simp only[eW]at h;split at h<;>omega
def Jc:∀(l:List bj) (m:Int),bj.wfL l->m<=1048576->0<=m->0<=k3 l m->∃u:List Tm,l=k5 u
 |[],_,_,_,_,_=>⟨[],rfl⟩
 |x::xs,m,hw,I,a,h=>by
  simp only[bj.wfL]at hw;simp only[k3]at h;have J:=p6 x m a;split at h
  ·omega
  obtain⟨u,hu⟩:=Cf x m hw.1 I a Ω;obtain⟨v,b⟩:=Jc xs _ hw.2 Ω Ω h;exact⟨u::v,by simp only[k5,hu,b]⟩
end
def I8{α β:Type}{f:α->Int->Int}{P:α->Prop}{g:β->α}(hle:∀x m,0<=m-> -1<=f x m/\f x m<=m)(b:∀x m,P x->m<=1048576->0<=m->0<=f x m->∃y,x=g y):∀(l:List α) (m:Int),(∀x∈l,P x)->m<=1048576->0<=m->0<=jv f l m->∃u:List β,l=u.map g
 |[],_,_,_,_,_=>⟨[],rfl⟩
 |x::xs,m,hw,I,a,h=>by
  simp only[jv]at h;have J:=hle x m a;split at h
  ·omega
  obtain⟨u,hu⟩:=b x m (hw x Ψ) I a Ω;obtain⟨v,c⟩:=I8 hle b xs _ (fun y d=>hw y (by simp[d])) Ω Ω h;exact⟨u::v,by rw[gG,<-hu,<-c]⟩
def SQ{α β:Type}{f:α->Int->Int}{P:α->Prop}{g:β->α}(hle:∀x m,0<=m-> -1<=f x m/\f x m<=m)(a:∀x m,P x->m<=1048576->0<=m->0<=f x m->∃y,x=g y)(l:dZ α)(m:Int)(hw:l.wf P)(I:m<=1048576)(c:0<=m)(h:0<=jT f l m):∃u:List β,l= .l (u.map g):=by
 cases l with
 |b=>simp only[jT]at h;omega
 |l xs=>
  simp only[jT,mS]at h;split at h
  ·omega
  obtain⟨u,hu⟩:=I8 hle a xs _ hw Ω Ω h;exact⟨u,by rw[hu]⟩
end
section
open Go Go.Pv Go.ChangeShapes Go.WideShapes Go.ChangeAt Go.RowKit Go.Deep
def lN(W:World):aC:=⟨fun b o=> ∃u,W.cell? ⟨b,o,none⟩=some u,fun _=>none,fun _=>none,fun _ _ _=>c1⟩
def GU(W:World)(b:Nat):∀(us:List Value) (off:Nat),(∀i u,us[i]? =some u->W.cell? ⟨b,off+i,none⟩=some u)->gS W (lN W).A b off us
 |[],_,_=>trivial
 |u::us,off,h=>by
  have a:W.cell? ⟨b,off,none⟩=some u:=by simpa using h 0 u rfl
  exact⟨⟨⟨u,a⟩,a⟩,GU W b us (off+1) fun i c hu=>by have:=h (i+1) c (by simpa using hu);rwa[show off+(i+1)=off+1+i from by omega]at this⟩
section
variable {H:Type} {enc:ey×Value->H} {W:World} {spare:Nat->Bool} {held:Bool}
def sE(W:World)(p:aa)(cs:List Value):Prop:= ∃v:Value,v.cells.toList=cs/\aw W (lN W) p v/\∀c∈cs,c.oneCell'=true
def BK{W:World}{a:List aa}{cs:List Value}(h:bL W (lN W) a cs):sE W (.agg a) cs:=by
 refine⟨.agg cs.toArray,by simp[jV],by simp only[aw];exact⟨cs.toArray,rfl,by simpa using h⟩,?_⟩;have:∀(a:List aa) (cs:List Value),bL W (lN W) a cs->∀c∈cs,c.oneCell'=true:=by
  intro a;induction a with
  |nil=>intro cs h;simp only[bL]at h;subst h;simp
  |cons p a b=>
   intro cs h c aA;simp only[bL]at h;obtain⟨u,us,rfl,I,J⟩:=h;rcases gw.1 aA with rfl|aA
   ·exact I.2
   ·exact b us J c aA
 exact this a cs h
def BJ(W:World)(p:aa)(v:Value):Prop:=aw W (lN W) p v/\v.oneCell'=true/\v.cells= #[v]
def KD{W:World}{b a k j:Nat}:W.cell? (((⟨b,a,none⟩:Addr).add k).add j)=W.cell? ⟨b,a+(k+j),none⟩:=by rw[add_add,Addr.add_lit]
def IU{α:Type}{t e:ey}{sz:Nat}(f:α->aa)(Q:α->Prop)(N:aG.underlying t=some (.slice e))(aA:aG.cellsOf e=sz)(G:0<sz){fuel:Nat}
  (E:∀n cs x,n<fuel->DataW.trod enc aG W 0 spare held n e cs=some x->∃a:α,Q a/\sE W (f a) cs)
  {cs:List Value} {x:DataW H×List MemPlace} (h:DataW.trod enc aG W 0 spare held fuel t cs=some x):∃l:dZ α,l.wf Q/\∃v,cs=[v]/\BJ W (l.e sz f) v:=by
 rcases DataW.trod_slice N h with⟨rfl,_⟩|⟨a,len,cap,elems,rest,n,rfl,rfl,_,_,O,hm,hlen,B,_,_⟩
 ·refine⟨.l [],by simp[dZ.wf],_,rfl,?_,rfl,rfl⟩;simp only[dZ.e,List.map_nil,aw];exact⟨⟨none,0,rfl,Ψ,⟨by simp[maxLen],by simp[cH]⟩,.inl Ψ⟩,fun e=>(by cases e),fun g e=>(by cases e),fun _ _ e=>(by cases e),fun _ e=>(by cases e)⟩
 by_cases V:cH<len
 ·refine⟨.b (some a) len cap,⟨V,by unfold maxLen at hm;omega⟩,_,rfl,?_,rfl,rfl⟩;simp only[dZ.e,aw]
 rcases Nat.eq_zero_or_pos len with rfl|F
 ·refine⟨.l [],by simp[dZ.wf],_,rfl,?_,rfl,rfl⟩;simp only[dZ.e,List.map_nil,aw];exact⟨⟨some a,cap,rfl,Ψ,⟨hm,by simp[cH]⟩,.inl Ψ⟩,fun e=>(by cases e),fun g e=>(by cases e),fun _ _ e=>(by cases e),fun _ e=>(by cases e)⟩
 rw[aA]at B;have z:∀i,i<len->∃cs',cs'.length=sz/\(∀j,j<sz->W.cell? ((a.add (i*sz)).add j)=cs'[j]?)/\∃b:α,Q b/\sE W (f b) cs':=by intro i az;have I:=B i az;rw[cl Ω]at I;obtain⟨cs',J,p⟩:=Option.bind_eq_some_iff.1 I;obtain⟨_,R,S⟩:=World.cells?_some J;exact⟨cs',R,S,E n cs' _ Ω p⟩
 obtain⟨m,k,spot⟩:=a;have U:spot=none:=by obtain⟨cs',I,J,_⟩:=z 0 F;have p:=J 0 G;rw[cl Ω]at p;simpa[Addr.add]using World.cell?_spot p
 subst U;have X:∀d,d<=len->∃xs:List α,xs.length=d/\(∀x∈xs,Q x)/\∃us:List Value,us.length=d*sz/\b7 W (lN W) sz (xs.map f) us/\∀j u,us[j]? =some u->W.cell? ⟨m,k+((len-d)*sz+j),none⟩=some u:=by
  intro d;induction d with
  |zero=>intro _;exact⟨[],rfl,Ψ,[],Ψ,by simp[b7],Ψ⟩
  |succ d L=>
   intro Z;obtain⟨xs,c,y,us,A,s,q⟩:=L Ω;obtain⟨cs',r,K,b,P,v,v1,v2,v3⟩:=z (len-(d+1)) Ω;have hmul:(len-d)*sz=(len-(d+1))*sz+sz:=by rw[show len-d=(len-(d+1))+1 from by omega,Nat.succ_mul]
   refine⟨b::xs,by simp[c],fun x w=>?_,cs'++us,by rw[kt,r,A,Nat.succ_mul];omega,?_,fun j u o=>?_⟩
   ·rcases gw.1 w with rfl|w
    ·exact P
    ·exact y x w
   ·simp only[gG,b7];exact⟨v,us,by rw[v1],⟨v2,by rw[<-r,<-v1];simp,by rw[v1];exact v3⟩,s⟩
   ·rcases Nat.lt_or_ge j sz with M|Y
    ·rw[ks Ω]at o;have:=K j M;rw[KD]at this;rw[this];exact o
    ·rw[List.getElem?_append_right Ω,r]at o;have:=q (j-sz) u o;rwa[show(len-d)*sz+(j-sz)=(len-(d+1))*sz+j from by omega]at this
 obtain⟨xs,c,y,us,A,s,q⟩:=X len (di _);refine⟨.l xs,y,_,rfl,?_,rfl,rfl⟩;simp only[dZ.e,aw];refine⟨⟨some ⟨m,k,none⟩,cap,by rw[k8,c],by rw[k8,c];exact O,⟨hm,by rw[k8,c];omega⟩,.inr ⟨m,k,us,rfl,GU W m us k fun i u hu=>?_,s⟩⟩,fun e=>(by cases e),fun g e=>(by cases e),fun _ _ e=>(by cases e),fun _ e=>(by cases e)⟩;have:=q i u hu;simpa using this
end
end
section
open Go Go.Pv
def n9:C:=(al [ed 2 0,cp 4 0] (al [ae 5 1,bu 6 2 1 2,bh 7 1 6,cd 8 (.slen (.t 7)),bV 9 .sub 5 8,ae 1 9] (.seq (al [ae 10 1,br 11 .lss 10 0] (bz 11 (al [cp 4 (-1)] .ret) .skip)) (al [bu 12 3 1 2,bh 13 1 12,ae 14 1,c8 15 16 13 14,ae 1 15] (.seq (al [ae 16 1,br 17 .lss 16 0] (bz 17 (al [cp 4 (-1)] .ret) .skip)) (al [ae 18 1,ae 4 18] .ret))))))
def yM:C:=(al [cp 4 0] (al [ae 6 1,ae 7 0,eu 8 7,bV 9 .sub 6 8,ae 1 9] (.seq (al [ae 10 1,br 11 .lss 10 0] (bz 11 (al [cp 4 (-1)] .ret) .skip)) (.seq (al [cp 5 0] (.block 0 (.loop (.seq (al [ae 12 5,ae 13 0,eu 14 13,bV 15 .lss 12 14] (bz 15 .skip (.exit 0))) (.seq (.block 1 (al [ae 18 0,ae 19 5,eO 20 4 18 19,bP 21 4 20,ae 22 1,c8 23 15 21 22,ae 1 23] (al [ae 24 1,br 25 .lss 24 0] (bz 25 (al [cp 4 (-1)] .ret) .skip)))) (.region [ae 16 5,br 17 .add 16 1,ae 5 17])))))) (al [ae 26 1,ae 4 26] .ret)))))
def DF:C:=(al [ed 1 0,fM 2 e0] (al [fM 3 e0] (al [bu 4 0 1 1,bh 5 1 4,bu 6 0 1 3,cZ 1 6 5] (al [bu 7 1 1 1,bh 8 1 7,bu 9 1 1 3,cZ 1 9 8] (al [bu 10 2 1 1,bh 11 1 10,bu 12 2 1 3,cZ 1 12 11] (al [bu 13 3 1 1,bh 14 1 13,eJ 15 19 14,bu 16 3 1 3,cZ 1 16 15] (al [bP 17 4 3,cZ 4 2 17] .ret)))))))
def DG:C:=(al [iK 2 4] (al [ae 5 0,eu 6 5,hH (.mks 7 none 4 30 (.agg e0) (.t 6)),ae 3 7] (.seq (al [cp 4 0] (.block 0 (.loop (.seq (al [ae 8 4,ae 9 0,eu 10 9,bV 11 .lss 8 10] (bz 11 .skip (.exit 0))) (.seq (.block 1 (.region [ae 14 3,ae 15 4,ae 16 0,ae 17 4,eO 18 4 16 17,bP 19 4 18,eJ 20 18 19,eO 21 4 14 15,cZ 4 21 20])) (.region [ae 12 4,br 13 .add 12 1,ae 4 13])))))) (.seq (.pub 3 (.region [ae 22 3,ae 2 22])) .ret))))
def DD:C:=(al [dg 4 false] (.seq (al [ae 6 0,eu 7 6,ae 8 1,eu 9 8,bV 10 .neq 7 9] (bz 10 (al [dg 4 false] .ret) .skip)) (.seq (al [cp 5 0] (.block 0 (.loop (.seq (al [ae 11 5,ae 12 0,eu 13 12,bV 14 .lss 11 13] (bz 14 .skip (.exit 0))) (.seq (.block 1 (.seq (.drawn true 27 [ae 17 0,ae 18 5,eO 19 4 17 18,bP 20 4 19,ae 21 1,ae 22 5,eO 23 4 21 22,bP 24 4 23,c8 25 22 20 24,gU 26 25]) (bz 26 (al [dg 4 false] .ret) .skip))) (.region [ae 15 5,br 16 .add 15 1,ae 5 16])))))) (al [dg 4 true] .ret))))
def DC:C:=(al [ed 2 0,ed 3 1,dg 4 false] (.seq (al [bu 5 0 1 2,bh 6 1 5,bu 7 0 1 3,bh 8 1 7,bV 9 .neq 6 8] (bz 9 (al [dg 4 false] .ret) .skip)) (.seq (al [bu 10 1 1 2,bh 11 1 10,bu 12 1 1 3,bh 13 1 12,bV 14 .neq 11 13] (bz 14 (al [dg 4 false] .ret) .skip)) (.seq (al [bu 15 2 1 2,bh 16 1 15,bu 17 2 1 3,bh 18 1 17,bV 19 .neq 16 18] (bz 19 (al [dg 4 false] .ret) .skip)) (.seq (al [bu 20 3 1 2,bh 21 1 20,bu 22 3 1 3,bh 23 1 22,c8 24 21 21 23,gU 25 24] (bz 25 (al [dg 4 false] .ret) .skip)) (al [dg 4 true] .ret))))))
def pW:cJ aE n9 [.tmp 4] 2 Tryz.f15=true:=ac
def Ht:cJ aE yM [.tmp 4] 2 Tryz.f16=true:=ac
def Ru:cJ aE DF [.cell 2 true 4] 1 Tryz.f18=true:=ac
def Rv:cJ aE DG [.tmp 2] 1 Tryz.f19=true:=ac
def Rs:cJ aE DD [.tmp 4] 2 Tryz.f21=true:=ac
def Rr:cJ aE DC [.tmp 4] 2 Tryz.f22=true:=ac
def GN(S:ar->Prop):∀{a b:List aa},aV S (a++b)↔aV S a/\aV S b
 |[],b=>by simp[aV]
 |x::a,b=>by simp[aV,GN S (a:=a),and_assoc]
def ui(S:ar->Prop)(z:aa)(a:aR S z):∀n,aV S (List.replicate n z)
 |0=>by simp[aV]
 |n+1=>by simp[List.replicate_succ,aV,ui S z a n,a]
def jO{α:Type}(f:α->Nat->aa)(z:aa)(out:List (α×Nat))(n:Nat):List aa:=gp f out++List.replicate (n-out.length) z
def Bb{α:Type}(f:α->Nat->aa)(z:aa)(n:Nat):List.replicate n z=jO f z [] n:=by simp[jO]
def QX{α:Type}(f:α->Nat->aa)(z:aa){out:List (α×Nat)}{n i:Nat}(az:i<n)(ag:out.length=i):(jO f z out n)[i]? =some z:=by subst ag;simp[jO,List.getElem?_append,List.getElem?_replicate,az];omega
def QZ{α:Type}(f:α->Nat->aa)(z:aa){out:List (α×Nat)}{n i:Nat}(az:i<n)(ag:out.length=i)(x:α)(m:Nat):(jO f z out n).set i (f x m)=jO f z (out++[(x,m)]) n:=by
 subst ag;obtain⟨d,a⟩:∃d,n-out.length=d+1:=⟨n-out.length-1,Ω⟩;have J:n-(out.length+1)=d:=Ω
 simp[jO,a,J,List.replicate_succ,List.set_append]
def QW{α:Type}(f:α->Nat->aa)(z:aa){out:List (α×Nat)}{n:Nat}(ag:out.length=n):jO f z out n=gp f out:=by subst ag;simp[jO]
@[simp]def QY{α:Type}(f:α->Nat->aa)(z:aa){out:List (α×Nat)}{n:Nat}(ag:out.length<=n):(jO f z out n).length=n:=by simp[jO];omega
def Qa{α:Type}{f:α->Nat->aa}{g:α->aa}(h:jZ f g){n m:Nat}{l:List (α×Nat)}{z:aa}(a:∀S,aR S z)(b:la n l)(hm:n<=m)(o:List ar)(N:Nat):aV (fun k=> ¬fresh m o k) (jO f z l N)=True:=by have I:=h.kin b hm o;unfold jO;rw[GN];simp only[I,true_and];exact eq_true (ui _ _ (a _) _)
def _root_.Go.Pv.Tm.k(t:Tm)(κ:Nat):aa:= .agg [aB t.kind,aB t.num,.str t.name,.slice 4 (.tr (.loc κ) 0) (t.args.map enc)]
def r9:jZ Tm.k enc:=⟨fun x n=>rfl,fun x n=>by simp[Tm.k,e8,gq,dU],fun x n=>by cases x;simp[Tm.k,bE,bt,enc,rD,Tm.kind,Tm.num,Tm.name,Tm.args],fun S x n h=>by simp[Tm.k,aR,aV,h]⟩
def Cu(l:dZ bj)(hw:∀p n cap,l= .b p n cap->p7 n)(c:∀xs,l= .l xs->∀x∈xs,∀m,0<=m->m<=1048576->ct aG 15 [bj.e x,aB m] (aB (eW x m)))(m:Int)(u:0<=m)(I:m<=1048576):ct aG 16 [l.e 4 bj.e,aB m] (aB (jT eW l m)):=by
 cases l with
 |b p n cap=>
  have s:=hw p n cap rfl;simp only[p7,cH]at s;have g:m-n<0:=Ω
  simp only[dZ.e,jT];clear hw c;refine cb bC Tryz.func16 Ht fun o=>?_;unfold yM;exact eA
 |l l=>
 have c:=c l rfl;clear hw;simp only[dZ.e,jT];generalize cR:mS eW l m=R;unfold mS at cR;refine cb bC Tryz.func16 Ht fun o=>?_;unfold yM;have t:l.length<=68719476736:=by simp[gQ,gZ,gR,cH]at o;omega
 simp;by_cases g:m-l.length<0
 ·rw[if_pos g]at cR;subst cR;exact eA
 rw[bH g]at cR;(repeat' first|refine aS ?_|simp[g]);refine lf [0] (fun i (k:Int)=>[(1,aB k),(5,aB i)]) l.length (fun i k=>(0<=k/\k<=1048576)/\jv eW (l.drop i) k=R) (m-l.length) dh ⟨⟨Ω,Ω⟩,by simpa using cR⟩ (fun k a _=>?_) (fun i k az a _=>?_)
 ·obtain⟨_,a⟩:=a;rw[List.drop_length]at a;simp only[jv]at a;subst a;exact eA
 ·obtain⟨⟨j,r⟩,a⟩:=a;obtain⟨x,e,f⟩:=pg az;have key:=c x (mY e) k j r;have hle:=p6 x k j;rw[Qi e]at a;simp only[jv]at a;generalize eW x k=q at key hle a;clear e;by_cases d:q<0
  ·rw[if_pos d]at a;subst a;exact eA
  ·rw[bH d]at a;simp[az,f];((repeat' first|refine aS ?_|refine be key ?_|refine bf key ?_|simp[az,f,d]|((first|apply cN|apply cT|apply cS)<;>intro h<;>try simp at h))<;>(try exact ev));all_goals exact cP.rng q az ⟨⟨Ω,Ω⟩,a⟩ dh
def Jx(l:List Tm)(c:∀x∈l,ct aG 22 [enc x,enc x] (.bool true)):ct aG 21 [b8 (l.map enc),b8 (l.map enc)] (.bool true):=by
 refine cb bC Tryz.func21 Rs fun b=>?_;unfold DD;have e:l.length<=68719476736:=by simp[gQ,gZ,gR,cH]at b;omega
 simp;(repeat' first|refine aS ?_|simp);refine lf [0,1] (fun i (_:Unit)=>[(5,aB i)]) l.length (fun _ _=>True) () dh trivial (fun _ _ _=>?_) (fun i _ az _ _=>?_)
 ·exact eA
 ·obtain⟨x,a,d⟩:=pg az;have key:=c x (mY a);clear a;exact R8
def JL(t:bj)(hw:t.wf):∀m:Int,0<=m->m<=1048576->ct aG 15 [t.e,aB m] (aB (eW t m)):=by
 suffices H:∀(k:Nat) (t:bj),t.sz<=k->t.wf->∀m:Int,0<=m->m<=1048576->ct aG 15 [t.e,aB m] (aB (eW t m))from H _ t (di _) hw
 intro k;clear hw t;induction k with
 |zero=>intro t u;cases t<;>simp[bj.sz]at u
 |succ k o=>
  intro t u hw m A I;cases t with
  |mk j tn s a=>
   simp only[bj.wf,bj.wfL_iff]at hw;obtain⟨v,q⟩:=hw;have d:m-s.len<0->eW (.mk j tn s a) m= -1:=fun g=>by rw[yb];exact if_pos g
   have f:¬m-s.len<0->eW (.mk j tn s a) m=jT eW (.l a) (m-s.len):=fun g=>by rw[yb];exact bH g
   generalize eW (.mk j tn s a) m=R at d f;have y:=s.len_nn;have key:=fun h=>Cu (.l a) (fun p n c e=>by cases e) (fun xs e x w=>by cases e;exact o x (by have:=bj.szL_mem w;simp only[bj.sz]at u;omega) (q x w)) (m-s.len) h Ω;have hle:=fun h=>Ce p6 (.l a) (m-s.len) h;simp only[bj.e,bj.eL_map];simp only[dZ.e]at key;clear u q;cases s with
   |b x=>
    simp only[fb.wf,p7,cH]at v;have g:m-x.size<0:=Ω
    have cR:=d g;subst cR;clear d f;clear key hle o;simp only[fb.e];refine cb bC Tryz.func15 pW fun i=>?_;unfold n9;exact eA
   |s l=>
    simp only[fb.len]at d f key hle;simp only[fb.e];by_cases g:m-l.length<0
    ·have cR:=d g;subst cR;clear d f;clear key hle o;refine cb bC Tryz.func15 pW fun i=>?_;unfold n9;have r:l.length<=68719476736:=by simp[gQ,gZ,gR,cH]at i;omega
     exact eA
    ·have cR:=f g;clear d f;have key:=key Ω;have hle:=hle Ω;rw[<-cR]at key hle;clear cR o;by_cases z:R<0
     ·have:R= -1:=Ω
      subst this;refine cb bC Tryz.func15 pW fun i=>?_;unfold n9;have r:l.length<=68719476736:=by simp[gQ,gZ,gR,cH]at i;omega
      exact eA
     ·refine cb bC Tryz.func15 pW fun i=>?_;unfold n9;have r:l.length<=68719476736:=by simp[gQ,gZ,gR,cH]at i;omega
      exact eA
  |big j tn s p n c=>
   simp only[bj.wf]at hw;obtain⟨v,q⟩:=hw;have d:m-s.len<0->eW (.big j tn s p n c) m= -1:=fun g=>by rw[yb];exact if_pos g
   have f:¬m-s.len<0->eW (.big j tn s p n c) m=jT eW (.b p n c) (m-s.len):=fun g=>by rw[yb];exact bH g
   generalize eW (.big j tn s p n c) m=R at d f;have y:=s.len_nn;have key:=fun h=>Cu (.b p n c) (fun p n c e=>by cases e;exact q) (fun xs e=>by cases e) (m-s.len) h Ω;have hle:=fun h=>Ce p6 (.b p n c) (m-s.len) h;simp only[bj.e];simp only[dZ.e]at key;clear u q;cases s with
   |b x=>
    simp only[fb.wf,p7,cH]at v;have g:m-x.size<0:=Ω
    have cR:=d g;subst cR;clear d f;clear key hle o;simp only[fb.e];refine cb bC Tryz.func15 pW fun i=>?_;unfold n9;exact eA
   |s l=>
    simp only[fb.len]at d f key hle;simp only[fb.e];by_cases g:m-l.length<0
    ·have cR:=d g;subst cR;clear d f;clear key hle o;refine cb bC Tryz.func15 pW fun i=>?_;unfold n9;have r:l.length<=68719476736:=by simp[gQ,gZ,gR,cH]at i;omega
     exact eA
    ·have cR:=f g;clear d f;have key:=key Ω;have hle:=hle Ω;rw[<-cR]at key hle;clear cR o;by_cases z:R<0
     ·have:R= -1:=Ω
      subst this;refine cb bC Tryz.func15 pW fun i=>?_;unfold n9;have r:l.length<=68719476736:=by simp[gQ,gZ,gR,cH]at i;omega
      exact eA
     ·refine cb bC Tryz.func15 pW fun i=>?_;unfold n9;have r:l.length<=68719476736:=by simp[gQ,gZ,gR,cH]at i;omega
      exact eA
def Bh(l:List Tm)(v:∀x∈l,gO aG 18 [enc x] (Tm.k x)):gO aG 19 [b8 (l.map enc)] fun κ=>.slice 4 (.tr (.loc κ) 0) (l.map enc):=by
 refine gO.mk mixed bC Tryz.func19 Rv Ψ fun u κ=>?_;unfold DG;have w:l.length<=68719476736:=by simp[gQ,gZ,gR,cH]at u;omega
 simp;all_goals try refine⟨by unfold cH;omega,?_⟩
 (repeat' first|refine aS ?_|simp);have c:∀S:ar->Prop,aR S (.agg [aB 0,aB 0,.str [],.slice 4 .nil []]):=fun S=>by simp[aR,aV]
 refine kG (fun i (x:Nat×List (Tm×Nat))=>⟨[(0,b8 (l.map enc)),(3,.row 4 (.loc 0) l.length),(4,aB i)],[],[(.loc 0,⟨l.length,30,4,some (jO Tm.k (.agg [aB 0,aB 0,.str [],.slice 4 .nil []]) x.2 l.length)⟩)],x.1,[]⟩) l.length (fun i x=>1<=x.1/\la x.1 x.2/\x.2.map (·.1)=l.take i) (1,[]) ⟨by simp[fresh,aV,aR,ep,a7,ab,<-Bb,ui _ _ (c _)],k1 (by simp[fresh,aV,aR,ep,a7,ab,<-Bb,ui _ _ (c _)]),k2 (by simp[fresh,aV,aR,hh,a7,ab,<-Bb,ui _ _ (c _)]),Ψ⟩ ⟨di _,.nil _,Ψ⟩ (fun x d _=>?_) (fun i x az d _=>?_)
 ·obtain⟨n,out⟩:=x;obtain⟨I,J,a⟩:=d;simp only[List.take_length]at I J a;have b:out.length=l.length:=by rw[<-a];simp
  simp;rw[QW _ _ b];(repeat' first|refine aS ?_|simp);(refine jD.val Ψ ?_;simp[bq,bD,ba,eN,hS,dN,gT,dr,gD,tnL,tn,e8,gq,fold,iw,ir,ld,ab,dU,bt,bE,r9.okL,r9.nodup J,r9.stL,a,b])
 ·obtain⟨n,out⟩:=x;obtain⟨I,J,a⟩:=d;simp only at I J a;obtain⟨x,o,k⟩:=pg az;have key:=v x (mY o);have b:out.length=i:=by have:=eR lE a;simp at this;omega
  have e:=QX Tm.k (.agg [aB 0,aB 0,.str [],.slice 4 .nil []]) az b;have g:∀h,((jO Tm.k (.agg [aB 0,aB 0,.str [],.slice 4 .nil []]) out l.length)[i]'h)= .agg [aB 0,aB 0,.str [],.slice 4 .nil []]:=fun h=>by rw[cl h]at e;exact jg e
  have f:=fun m=>QZ Tm.k (.agg [aB 0,aB 0,.str [],.slice 4 .nil []]) az b x m;have q:=QY Tm.k (.agg [aB 0,aB 0,.str [],.slice 4 .nil []]) (out:=out) (n:=l.length) Ω;have y:=fun m n' (h:n<=m) (t:m<n')=>J.snoc x h t;have s:∀m,(out++[(x,m)]).map (fun p:Tm×Nat=>p.1)=l.take (i+1):=fun m=>by rw[uX o,<-a];simp
  generalize jO Tm.k (.agg [aB 0,aB 0,.str [],.slice 4 .nil []]) out l.length=r0 at e g f q⊢;have r:=J.snoc x (di n) (Nat.lt_succ_self n);have j:=Qa r9 c r (di _) [] l.length;simp[fresh]at j;simp[az,k];(refine CallDo.own Ψ (key) (by simp[dU]) ?_;simp);(repeat' first|refine aS ?_|simp[az,k,g,q,f,Tm.k,jR]);refine cP.rng (n+1,out++[(x,n)]) az ?_ ?_
  ·exact⟨Ψ,r,s n⟩
  simp;rw[show(aa.agg [aB x.kind,aB x.num,.str x.name,.slice 4 (.tr (.loc n) 0) (x.args.map enc)])=Tm.k x n from rfl,f n];exact⟨by simp[fresh,aV,aR,ep,a7,ab],k1 Ψ,k2 (by simp[fresh,aV,aR,ep,a7,ab,hh];exact j),Ψ⟩
def xq(t:Tm):gO aG 18 [enc t] t.k:=by
 suffices H:∀(k:Nat) (t:Tm),t.sz<=k->gO aG 18 [enc t] t.k from H _ t (di _)
 intro k;induction k with
 |zero=>intro t b;cases t;simp[Tm.sz]at b
 |succ k a=>intro t b;have key:=Bh t.args (fun x c=>a x (by have:=Ch c;omega));clear a;refine gO.mk mixed bC Tryz.func18 Ru Ψ fun d κ=>?_;unfold DF;simp;(repeat' first|refine aS ?_|simp);(refine CallDo.own Ψ (key) (by simp[dU]) ?_;simp);(repeat' first|refine aS ?_|simp);(refine jD.val Ψ ?_;simp[bq,bD,ba,eN,hS,dN,gT,dr,gD,tnL,tn,e8,gq,fold,iw,ir,ld,ab,dU,bt,bE]);all_goals simp[Tm.k]
@[simp]def UN(t:Tm)(n:Nat):cells (t.k n)=[aB t.kind,aB t.num,.str t.name,.slice 4 (.tr (.loc n) 0) (t.args.map enc)]:=rfl
@[simp]def XC(t:Tm)(n:Nat):dd (t.k n)=true:=rfl
def TF(t:Tm):ct aG 18 [enc t] (enc t):=by have:=(xq t).val (by rw[r9.st];simp);rwa[r9.st]at this
def Jw(t:Tm):ct aG 22 [enc t,enc t] (.bool true):=by
 suffices H:∀(k:Nat) (t:Tm),t.sz<=k->ct aG 22 [enc t,enc t] (.bool true)from H _ t (di _)
 intro k;induction k with
 |zero=>intro t b;cases t;simp[Tm.sz]at b
 |succ k a=>intro t b;have key:=Jx t.args (fun x c=>a x (by have:=Ch c;omega));clear a;refine cb bC Tryz.func22 Rr fun d=>?_;unfold DC;exact eA
structure nX where
 v:Int
 t:bj
def nX.e(b:nX):aa:= .agg [aB b.v,aB b.t.kind,aB b.t.num,b.t.name.e,b.t.args.e 4 bj.e]
@[simp]def Xf(b:nX):dd b.e=true:=rfl
@[simp]def Ur(b:nX):cells b.e=[aB b.v,aB b.t.kind,aB b.t.num,b.t.name.e,b.t.args.e 4 bj.e]:=rfl
structure qb where
 v:Int
 s:fb
def qb.e(b:qb):aa:= .agg [aB b.v,b.s.e]
@[simp]def Xv(b:qb):dd b.e=true:=rfl
@[simp]def UG(b:qb):cells b.e=[aB b.v,b.s.e]:=rfl
@[simp high] def W5(x y:fy):kZ x.e 0 [aB y.v,.str y.s]=y.e:=rfl
@[simp high] def W4(x y:gH):kZ x.e 0 [aB y.v,aB y.k]=y.e:=rfl
def Ek(d:dZ nX):aa:=d.e 5 nX.e
def DO:C:=(al [ed 1 0,dg 2 false] (al [bP 3 4 1,gW 4 123 [.t 3,(fI 5000)],br 5 .leq 4 5000,ae 6 5,bk 6 true (bP 7 4 1),bk 6 true (eJ 8 124 7),fL 9 6 8,ae 2 9] .ret))
def rz:C:=(al [ed 2 0,iK 4 1] (.seq (al [bu 7 0 1 2,bh 8 1 7,br 9 .eql 8 1] (bz 9 (al [ae 10 1,bu 11 1 1 2,bh 12 1 11,c8 13 126 10 12,ae 4 13] .ret) .skip)) (.seq (al [bu 14 3 1 2,bh 15 1 14,eu 16 15,cp 17 0] (mW 18 17 16 (.seq (.block 1 (al [eO 19 4 15 17,bP 20 4 19,fM 6 e0,cZ 4 6 20] (.region [bP 21 4 6,ae 22 1,c8 23 58 21 22,ae 1 23]))) (.region [br 24 .add 17 1,ae 17 24])))) (al [ae 25 1,ae 4 25] .ret))))
def DY:C:=(al [ed 3 1,fM 4 e0,dg 5 false] (al [ae 7 0,bP 8 4 3,c8 9 127 7 8,fM 6 e0,cZ 4 6 9] (.seq (.drawn true 13 [bP 10 4 6,bP 11 4 6,eJ 12 128 11,cZ 4 4 10,ae 5 12]) .ret)))
def DQ:C:=(al [dg 6 false] (al [ae 7 0,ae 8 1,bV 9 .geq 7 8,ae 10 9,dc 10 true 11 0,dc 10 true 12 2,bk 10 true (bV 13 .leq 11 12),fL 14 10 13,ae 6 14] .ret))
def DN:C:=(al [dg 2 false] (.seq (al [cp 3 0] (.block 0 (.loop (.seq (al [ae 5 3,ae 6 0,cd 7 (.slen (.t 6)),bV 8 .lss 5 7] (bz 8 .skip (.exit 0))) (.seq (.block 1 (al [ae 11 0,ae 12 3,cd 13 (.sidx (.t 11) (.t 12)),cd 14 (.bin .geq false (.t 13) (.c (.int .u8 97))),ae 15 14,dc 15 true 16 0,dc 15 true 17 3,bk 15 true (cd 18 (.sidx (.t 16) (.t 17))),bk 15 true (cd 19 (.bin .leq false (.t 18) (.c (.int .u8 122)))),fL 20 15 19,ae 4 20] (al [ae 21 4,gU 22 21,ae 23 22,dc 23 true 24 3,bk 23 true (br 25 .eql 24 0),dc 23 true 26 25,dc 26 false 27 0,dc 26 false 28 3,bk 26 false (cd 29 (.sidx (.t 27) (.t 28))),bk 26 false (cd 30 (.bin .neq false (.t 29) (.c (.int .u8 45)))),dc 26 false 31 30,dc 31 true 32 0,dc 31 true 33 3,bk 31 true (cd 34 (.sidx (.t 32) (.t 33))),bk 31 true (cd 35 (.conv .i64 (.t 34))),bk 31 true (gW 36 75 [.t 35,(fI 48),(fI 57)]),bk 31 true (gU 37 36),bk 26 false (fL 38 31 37),bk 23 true (hj 39 26 38),fL 40 23 39] (bz 40 (al [dg 2 false] .ret) .skip)))) (.region [ae 9 3,br 10 .add 9 1,ae 3 10])))))) (al [ae 41 0,cd 42 (.slen (.t 41)),gW 43 75 [.t 42,(fI 1),(fI 12)],ae 2 43] .ret)))
def DS:C:=(al [ed 2 0,cp 4 0] (al [cp 5 1] (.seq (al [bu 8 3 1 2,bh 9 1 8,eu 10 9,cp 11 0] (mW 12 11 10 (.seq (.block 1 (al [eO 13 4 9 11,bP 14 4 13,fM 7 e0,cZ 4 7 14] (.seq (al [ae 15 5,ae 16 1,bV 17 .gtr 15 16] (bz 17 (al [ae 18 5,ae 4 18] .ret) .skip)) (.region [ae 19 5,bP 20 4 7,ae 21 1,ae 22 5,bV 23 .sub 21 22,c8 24 123 20 23,bV 25 .add 19 24,ae 5 25])))) (.region [br 26 .add 11 1,ae 11 26])))) (al [ae 27 5,ae 4 27] .ret))))
def iq:C:=(al [ed 1 0,dg 2 false] (.seq (al [bu 3 0 1 1,bh 4 1 3,br 5 .neq 4 1,ae 6 5,bk 6 true (bu 7 0 1 1),bk 6 true (bh 8 1 7),bk 6 true (br 9 .neq 8 3),fL 10 6 9,ae 11 10,bk 11 true (bu 12 1 1 1),bk 11 true (bh 13 1 12),bk 11 true (br 14 .neq 13 0),fL 15 11 14,ae 16 15,bk 16 false (bu 17 0 1 1),bk 16 false (bh 18 1 17),bk 16 false (br 19 .neq 18 2),dc 16 false 20 19,bk 20 true (bu 21 2 1 1),bk 20 true (bh 22 1 21),u7 20 true 23 (.bin .neq false (.t 22) (.c (.str []))),bk 16 false (fL 24 20 23),hj 25 16 24,ae 26 25,bk 26 false (bu 27 0 1 1),bk 26 false (bh 28 1 27),bk 26 false (br 29 .neq 28 4),dc 26 false 30 29,bk 30 true (bu 31 3 1 1),bk 30 true (bh 32 1 31),bk 30 true (eu 33 32),bk 30 true (br 34 .gtr 33 0),bk 26 false (fL 35 30 34),hj 36 26 35] (bz 36 (al [dg 2 false] .ret) .skip)) (.seq (al [bu 37 0 1 1,bh 38 1 37] (.block 0 (al [br 40 .eql 38 0,ae 39 40] (bz 39 (al [dg 2 true] .ret) (al [br 42 .eql 38 1,ae 41 42] (bz 41 (al [bu 43 1 1 1,bh 44 1 43,gW 45 75 [.t 44,(fI 0),(fI 100000)],ae 2 45] .ret) (al [br 47 .eql 38 2,ae 46 47] (bz 46 (al [bu 48 2 1 1,bh 49 1 48,eJ 50 119 49,ae 2 50] .ret) (al [br 52 .eql 38 3,ae 51 52] (bz 51 (al [bu 53 1 1 1,bh 54 1 53,gW 55 75 [.t 54,(fI (-1000000000)),(fI 1000000000)],ae 2 55] .ret) (al [br 57 .eql 38 4,ae 56 57] (bz 56 (al [bu 58 3 1 1,bh 59 1 58,eu 60 59,br 61 .eql 60 2,ae 62 61,bk 62 true (bu 63 3 1 1),bk 62 true (bh 64 1 63),bk 62 true (jf 65 4 64 0),bk 62 true (bP 66 4 65),bk 62 true (eJ 67 124 66),fL 68 62 67,ae 69 68,bk 69 true (bu 70 3 1 1),bk 69 true (bh 71 1 70),bk 69 true (jf 72 4 71 1),bk 69 true (bP 73 4 72),bk 69 true (eJ 74 124 73),fL 75 69 74,ae 2 75] .ret) .skip)))))))))))) (al [dg 2 false] .ret))))
def DU:C:=(al [iK 4 1] (al [ae 7 0,eu 8 7,ae 5 8] (.seq (.block 0 (.loop (.seq (al [ae 9 5,br 10 .gtr 9 0,ae 11 10,dc 11 true 12 0,dc 11 true 13 5,bk 11 true (br 14 .sub 13 1),bk 11 true (eO 15 1 12 14),bk 11 true (bh 16 1 15),dc 11 true 17 1,bk 11 true (bV 18 .geq 16 17),fL 19 11 18] (bz 19 .skip (.exit 0))) (.block 1 (.region [ae 20 5,br 21 .sub 20 1,ae 5 21]))))) (.seq (al [ae 22 5,ae 23 0,eu 24 23,bV 25 .lss 22 24,ae 26 25,dc 26 true 27 0,dc 26 true 28 5,bk 26 true (eO 29 1 27 28),bk 26 true (bh 30 1 29),dc 26 true 31 1,bk 26 true (bV 32 .eql 30 31),fL 33 26 32] (bz 33 (al [ae 34 0,ae 4 34] .ret) .skip)) (al [gN 35 1 3 [],ae 36 0,ae 37 5,cd 38 (.lsl 1 (.t 36) none (some (.t 37))),k7 39 1 3 35 38,ae 6 39] (al [ae 40 6,ae 41 1,gN 42 1 3 [.t 41],k7 43 1 3 40 42,ae 6 43] (al [ae 44 6,ae 45 0,ae 46 5,cd 47 (.lsl 1 (.t 45) (some (.t 46)) none),k7 48 1 3 44 47,ae 4 48] .ret)))))))
def vB:C:=(al [ed 3 1,fM 4 e0] (.seq (al [bu 7 0 1 3,bh 8 1 7,br 9 .eql 8 1] (bz 9 (al [ae 11 0,bu 12 1 1 3,bh 13 1 12,c8 14 146 11 13,ae 10 14,kX 15 0 10,kX 16 1 10,fM 5 e0,cZ 4 5 15,ae 6 16] (al [ae 17 6] (bz 17 (al [bP 18 4 5,cZ 4 4 18] .ret) .skip))) .skip)) (.seq (al [bu 19 0 1 3,bh 20 1 19,br 21 .eql 20 4] (bz 21 (.seq (.drawn true 36 [ae 22 0,bu 23 3 1 3,bh 24 1 23,jf 25 4 24 0,bP 26 4 25,c8 27 127 22 26,ae 28 0,bu 29 3 1 3,bh 30 1 29,jf 31 4 30 1,bP 32 4 31,c8 33 127 28 32,c8 34 189 27 33,cZ 4 4 34]) .ret) .skip)) (al [bP 35 4 3,cZ 4 4 35] .ret))))
def DT:C:=(al [ed 1 0,dg 2 false] (al [bP 3 4 1,gW 4 123 [.t 3,(fI 5000)],br 5 .leq 4 5000,ae 2 5] .ret))
def DZ:C:=(al [fM 4 e0,dg 5 false] (.seq (al [ae 8 0,eu 9 8,cp 10 0] (mW 11 10 9 (.seq (.block 1 (al [eO 12 5 8 10,bP 13 5 12,fM 7 AT,cZ 5 7 13] (al [bu 14 0 1 7,bh 15 1 14,ae 16 1,bV 17 .eql 15 16] (bz 17 (al [HJ 18 1 4 7,bP 19 4 18,cZ 4 4 19,dg 5 true] .ret) .skip)))) (.region [br 20 .add 10 1,ae 10 20])))) (al [nT 21 e0 [],cZ 4 4 21,dg 5 false] .ret)))
def RD:cJ aE DO [.tmp 2] 1 Tryz.f56=true:=ac
def uv:cJ aE rz [.tmp 4] 2 Tryz.f58=true:=ac
def RN:cJ aE DY [.cell 4 true 4,.tmp 5] 2 Tryz.f60=true:=ac
def RF:cJ aE DQ [.tmp 6] 3 Tryz.f75=true:=ac
def RC:cJ aE DN [.tmp 2] 1 Tryz.f119=true:=ac
def RH:cJ aE DS [.tmp 4] 2 Tryz.f123=true:=ac
def jd:cJ aE iq [.tmp 2] 1 Tryz.f124=true:=ac
def RJ:cJ aE DU [.tmp 4] 2 Tryz.f126=true:=ac
def Bt:cJ aE vB [.cell 4 true 4] 2 Tryz.f127=true:=ac
def RI:cJ aE DT [.tmp 2] 1 Tryz.f128=true:=ac
def RO:cJ aE DZ [.cell 4 true 4,.tmp 5] 2 Tryz.f146=true:=ac
mutual
def h0:Tm->Int->Int
 | .mk _ _ _ args,m=>cntLS args 1 m
def cntLS:List Tm->Int->Int->Int
 |[],n,_=>n
 |x::xs,n,m=>if m<n then n else cntLS xs (n+h0 x (m-n)) m
end
mutual
def yU:∀(t:Tm) (m:Int),0<=m->1<=h0 t m/\h0 t m<=m+1
 | .mk _ _ _ args,m,h=>by simp only[h0];exact Eb args 1 m h Ω Ω
def Eb:∀(l:List Tm) (n m:Int),0<=m->1<=n->n<=m+1->1<=cntLS l n m/\cntLS l n m<=m+1
 |[],n,m,_,I,J=>by simp only[cntLS];exact⟨I,J⟩
 |x::xs,n,m,a,I,J=>by
  simp only[cntLS];split
  ·exact⟨I,J⟩
  ·have:=yU x (m-n) Ω;exact Eb xs _ m a Ω Ω
end
def vD:∀(t:T) (m:Int),0<=m->(h0 t.tm m<=m↔(t.size:Int)<=m)/\((t.size:Int)<=m->h0 t.tm m=t.size)
 | .pair a b,m,h=>by
  have g:=T.size_pos a;have j:=T.size_pos b;simp only[T.tm,h0,cntLS,T.size];by_cases I:m<1
  ·rw[if_pos I];exact⟨Ω,fun h=>Ω⟩
  ·rw[bH I];obtain⟨c,a2⟩:=vD a (m-1) Ω;have a3:=yU a.tm (m-1) Ω;by_cases J:(a.size:Int)<=m-1
   ·have e:=a2 J;rw[e];by_cases f:m<1+(a.size:Int)
    ·omega
    ·rw[bH f];obtain⟨i,d⟩:=vD b (m-(1+a.size)) Ω;refine⟨Ω,fun h=>?_⟩;rw[d Ω];omega
   ·have:¬h0 a.tm (m-1)<=m-1:=fun h=>J (c.1 h);rw[if_pos Ω];exact⟨Ω,fun h=>Ω⟩
 | .nil,m,h=>by simp[T.tm,h0,cntLS,T.size]
 | .var _,m,h=>by simp[T.tm,h0,cntLS,T.size]
 | .sym _,m,h=>by simp[T.tm,h0,cntLS,T.size]
 | .num _,m,h=>by simp[T.tm,h0,cntLS,T.size]
def Lf(t:Tm)(m:Int):h0 t m=cntLS t.args 1 m:=by cases t;rfl
def JB(t:Tm):∀m:Int,0<=m->m<=1000000->ct aG 123 [enc t,aB m] (aB (h0 t m)):=by
 suffices H:∀(k:Nat) (t:Tm),t.sz<=k->∀m:Int,0<=m->m<=1000000->ct aG 123 [enc t,aB m] (aB (h0 t m))from H _ t (di _)
 intro k;induction k with
 |zero=>intro t g;cases t;simp[Tm.sz]at g
 |succ k f=>
  intro t g m p I;refine cb bC Tryz.func123 RH fun e=>?_;unfold DS;have o:t.args.length<=68719476736:=by rw[ql]at e;simp[gQ,gZ,gR,cH]at e;omega
  simp;refine lf [1,9,10] (fun i (n:Int)=>[(5,aB n),(11,aB i)]) t.args.length (fun i n=>(1<=n/\n<=m+1)/\cntLS (t.args.drop i) n m=h0 t m) 1 dh ⟨Ω,by simp[Lf]⟩ (fun n a _=>?_) (fun i n az a _=>?_)
  ·simp;(repeat' first|refine aS ?_|simp);simp[b3,bq,bD,ba];have:=a.2;simp[cntLS]at this;exact this
  ·obtain⟨⟨r,q⟩,a⟩:=a;obtain⟨x,j,c⟩:=pg az;have l:t.args.drop i=x::t.args.drop (i+1):=by rw[l9 az,c]
   have d:x.sz<=k:=by have:=Ch (mY j);omega
   rw[l]at a;simp only[cntLS]at a;simp[az,c];by_cases b:m<n
   ·rw[if_pos b]at a;(repeat' first|refine aS ?_|simp[b]);simp[b3,bq,bD,ba];exact a
   ·rw[bH b]at a;have aA:=yU x (m-n) Ω;((repeat' first|refine aS ?_|refine be (f x d (m-n) Ω Ω) ?_|refine bf (f x d (m-n) Ω Ω) ?_|simp[b]|((first|apply cN|apply cT|apply cS)<;>intro h<;>try simp at h))<;>(try exact ev));exact cP.rng (n+h0 x (m-n)) az ⟨Ω,a⟩ dh
def JC(t:T):ct aG 128 [t.e] (.bool (decide (t.size<=5000))):=by
 have aA:=(vD t 5000 Ω).1;have key:=JB t.tm 5000 Ω Ω;rw[fQ]at key;refine cb bC Tryz.func128 RI fun a=>?_;unfold DT;simp;(repeat' first|refine aS ?_|refine be key ?_|refine bf key ?_|simp);simp[b3,bq,bD,ba];have:(h0 t.tm 5000<=5000)=(t.size<=5000):=by rw[aA];simp;omega
 simp[this]
def PT(l:List bc)(v:Int)(k:Nat)(st:aN):Prop:=∃i:Nat,i<=l.length/\k=l.length-i/\gY l v=gY (l.drop i) v/\st=⟨[(1,aB v),(4,.ptr (.loc 0) 0),(8,gv (l.map bc.e)),(9,aB l.length),(10,aB i)],[(.loc 0,[aB 0,aB 0,.str [],.slice 4 .nil []])],[],1,[]⟩
def JE(l:List bc)(v:Int)(m:l.length<=1000000):ct aG 146 [gv (l.map bc.e),aB v] (.tuple [((gY l v).getD .nil).e,.bool (gY l v).isSome]):=by
 refine cb bC Tryz.func146 RO fun j=>?_;unfold DZ;simp;refine mj (PT l v) l.length _ dh ⟨0,Ω,rfl,Ψ,rfl⟩ ?_;rintro k st ⟨i,az,U,aM,rfl⟩ f g;clear f g;by_cases a:i<l.length
 ·obtain⟨b,c⟩:∃b,l[i]? =some b:=⟨_,cl a⟩;have d:l.drop i=b::l.drop (i+1):=by rw[l9 a];rw[cl a]at c;simp at c;rw[c]
  have e:∀h,l[i]'h=b:=fun h=>by rw[cl h]at c;simpa using c
  simp[e,a];(with_reducible repeat' first|((first|apply cN|apply cT|apply cS)<;>intro h<;>try simp at h)|refine aS ?_|simp[e])
  ·have:gY l v=some b.t:=by rw[aM,d];simp[gY,h]
   simp[b3,bq,bD,ba];simp[this]
  ·refine cP.next (l.length-(i+1)) Ω ⟨i+1,Ω,rfl,?_,rfl⟩ dh;rw[aM,d];simp[gY,h]
 ·have:gY l v=none:=by rw[aM,List.drop_of_length_le Ω];simp[gY]
  simp[a];(with_reducible repeat' first|((first|apply cN|apply cT|apply cS)<;>intro h<;>try simp at h)|refine aS ?_|simp);simp[b3,bq,bD,ba];simp[this]
def Ts(l:List bc)(f:l.length<=1000000)(t:T):ct aG 127 [gv (l.map bc.e),t.e] (t.sub (gY l)).e:=by
 induction t with
 |pair a b d c=>
  refine cb bC Tryz.func127 Bt fun e=>?_;unfold vB;simp;(repeat' first|refine aS ?_|refine be d ?_|refine bf d ?_|refine be c ?_|refine bf c ?_|refine be (JD _ _) ?_|refine bf (JD _ _) ?_|simp);all_goals simp[b3,bq,bD,ba]
  all_goals simp[T.sub]
 |var n=>
  refine cb bC Tryz.func127 Bt fun e=>?_;unfold vB;simp;((repeat' first|refine aS ?_|refine be (JE l n f) ?_|refine bf (JE l n f) ?_|simp|((first|apply cN|apply cT|apply cS)<;>intro h<;>try simp at h))<;>(try exact ev));all_goals simp[b3,bq,bD,ba]
  all_goals cases g:gY l n<;>simp_all[T.sub]
 |_=>
  refine cb bC Tryz.func127 Bt fun e=>?_;unfold vB;simp;(repeat' first|refine aS ?_|simp);all_goals simp[b3,bq,bD,ba]
  all_goals simp[T.sub]
def JF(l:List bc)(a:l.length<=1000000)(t:T):ct aG 127 [gv (l.map bc.e),t.e] (t.ap (eI l)).e:=by have:=Ts l a t;rw[I4]at this;exact this
def Tr(l:List bc)(a:l.length<=1000000)(t:T):ct aG 60 [gv (l.map bc.e),t.e] (.tuple [(t.ap (eI l)).e,.bool (decide ((t.ap (eI l)).size<=5000))]):=by refine cb bC Tryz.func60 RN fun b=>?_;unfold DY;simp;(repeat' first|refine aS ?_|refine be (JF l a t) ?_|refine bf (JF l a t) ?_|refine be (JC _) ?_|refine bf (JC _) ?_|simp);simp[b3,bq,bD,ba]
@[simp]def UW(o:aT (List bc)):rF 0 (IC o)=some (True,gv ((o.getD []).map bc.e)):=rfl
@[simp]def UX(o:aT (List bc)):rF 1 (IC o)=some (True,.bool o.isSome):=rfl
def dx(n lo az:Int):ct aG 75 [aB n,aB lo,aB az] (.bool (decide (lo<=n/\n<=az))):=by
 refine cb bC Tryz.func75 RF fun a=>?_;unfold DQ;simp;((repeat' first|refine aS ?_|simp|((first|apply cN|apply cT|apply cS)<;>intro h<;>try simp at h))<;>(try exact ev));all_goals simp[b3,bq,bD,ba]
 all_goals first|omega|(simp;done)|(simp;omega)
def ej:Tm->Bool
 | .mk k n s [a,b]=>k==4&&n==0&&s==[]&&ej a&&ej b
 | .mk k n s []=>hR k n s
 |_=>false
def x4:∀x:T,ej x.tm=x.ok
 | .nil=>by simp[T.tm,ej,hR,T.ok]
 | .var _=>by simp[T.tm,ej,hR,T.ok]
 | .sym _=>by simp[T.tm,ej,hR,T.ok]
 | .num _=>by simp[T.tm,ej,hR,T.ok]
 | .pair a b=>by simp[T.tm,ej,T.ok,x4 a,x4 b]
def SA:∀(m:Nat) (t:Tm),t.sz<=m->ej t=true->∃x:T,x.tm=t:=by
 intro m;induction m with
 |zero=>intro t c;cases t;simp[Tm.sz]at c
 |succ m d=>
  rintro⟨k,n,s,args⟩ c h;match args with
  |[a,b]=>
   simp[Tm.sz,Tm.szL]at c;simp only[ej,bN,c2]at h;obtain⟨⟨⟨⟨rfl,rfl⟩,e⟩,I⟩,J⟩:=h;obtain⟨x,rfl⟩:=d a Ω I;obtain⟨y,rfl⟩:=d b Ω J;have:s=[]:=by simpa using e
   subst this;exact⟨.pair x y,rfl⟩
  |[]=>
   simp only[ej,hR]at h;split at h
   ·subst_vars;simp at h;exact⟨.nil,by simp[T.tm,h]⟩
   split at h
   ·subst_vars;simp at h;exact⟨.var n,by simp[T.tm,h]⟩
   split at h
   ·subst_vars;simp at h;exact⟨.sym s,by simp[T.tm,h]⟩
   split at h
   ·subst_vars;simp at h;exact⟨.num n,by simp[T.tm,h]⟩
   ·simp at h
  |[_]=>simp[ej]at h
  |_::_::_::_=>simp[ej]at h
def Ni(t:Tm):t.fits=(decide (h0 t 5000<=5000)&&ej t):=by
 by_cases h:ej t=true
 ·obtain⟨x,rfl⟩:=SA _ t (di _) h;have:=(vD x 5000 Ω).1;rw[Tm.fits_T,T.fit,h];rw[x4]at h;simp[h,this];omega
 ·have b:t.fits=false:=by
   cases c:t.fits with
   |false=>rfl
   |true=>obtain⟨x,rfl,a⟩:=Tm.fits_ex c;rw[x4]at h;simp[T.fit]at a;exact absurd a.1 h
  simp at h;rw[b,h];simp
def AK(s:List cF)(i:Nat):Prop:=i<=s.length/\∀k,k<i->iW (s.getD k 0)=true/\(k=0->low (s.getD k 0)=true)
def PY{s:List cF}(h:AK s s.length):kj s=decide (1<=s.length/\s.length<=12):=by
 unfold kj;by_cases c:1<=s.length
 ·have I:=(h.2 0 Ω).2 rfl;have J:(s.drop 1).all iW=true:=by rw[List.all_eq_true];intro b a;obtain⟨i,az,e⟩:=List.getElem_of_mem a;simp at az e;have:=(h.2 (i+1) Ω).1;rw[List.getD_eq_getElem?_getD,cl Ω]at this;simp only[Option.getD_some]at this;rw[<-e];exact this
  rw[I,J];simp
 ·have:decide (1<=s.length/\s.length<=12)=false:=by simp;omega
  rw[this];simp
def PX{s:List cF}{i:Nat}(az:i<s.length)(h:iW (s.getD i 0)=false\/(i=0/\low (s.getD i 0)=false)):kj s=false:=by
 cases e:kj s with
 |false=>rfl
 |true=>
  exfalso;simp only[kj,bN,List.all_eq_true]at e;obtain⟨⟨_,a⟩,c⟩:=e;rcases h with h|⟨rfl,h⟩
  ·by_cases b:i=0
   ·subst b;rw[iW,a]at h;simp at h
   ·have:=c (s.getD i 0) (by rw[List.getD_eq_getElem?_getD,cl az];simp only[Option.getD_some];refine List.mem_iff_getElem.2 ⟨i-1,by simp;omega,?_⟩;simp[show i-1+1=i from by omega])
    rw[this]at h;cases h
  ·rw[a]at h;cases h
def fl(s:List cF):ct aG 119 [.str s] (.bool (kj s)):=by
 generalize cR:kj s=R;refine cb bC Tryz.func119 RC fun q=>?_;unfold DN;have t:s.length<=68719476736:=by simp[gQ,gZ,gR,cH]at q;omega
 simp;refine zc [0] (fun(i:Nat)=>[(3,aB i)]) (fun i=>s.length-i) (AK s) 0 dh ⟨Ω,fun k U=>Ω⟩ (fun i o _=>?_);have r:=o.1;by_cases az:i<s.length
 ·have l:=PX az;rw[cR]at l;obtain⟨c,aA,e⟩:=pg az;have p:s.getD i 0=c:=by simp[List.getD_eq_getElem?_getD,aA]
  rw[p]at l;have dX:iW c=true->(i=0->low c=true)->AK s (i+1):=fun I J=>⟨Ω,fun k U=>by
   rcases(by omega:k<i\/k=i)with h|rfl
   ·exact o.2 k h
   ·rw[p];exact⟨I,J⟩⟩
  have hw:nW.wrap (c.toNat:Int)=c.toNat:=IntWalk.i64_in _ (by have:=c.toNat_lt;omega);simp[az,e,aA];by_cases g:(97:Int)<=c.toNat
  ·by_cases n:(c.toNat:Int)<=122
   ·have j:low c=true:=by simp[low];omega
    (repeat' first|refine aS ?_|refine be (dx _ _ _) ?_|refine bf (dx _ _ _) ?_|simp[az,e,aA,g,n]);exact cP.whl (i+1) Ω (dX (by simp[iW,j]) (fun _=>j)) dh
   ·have j:low c=false:=by simp[low];omega
    by_cases d:i=0
    ·rw[l (.inr ⟨d,j⟩)];have a:((i:Int)==0)=true:=by simp[d]
     (repeat' first|refine aS ?_|refine be (dx _ _ _) ?_|refine bf (dx _ _ _) ?_|simp[az,e,aA,g,n,a,hw]);simp[b3,bq,bD,ba]
    ·have a:((i:Int)==0)=false:=by simp[d]
     by_cases b:(c.toNat:Int)=45
     ·have f:((c.toNat:Int) !=45)=false:=by simp[b]
      (repeat' first|refine aS ?_|refine be (dx _ _ _) ?_|refine bf (dx _ _ _) ?_|simp[az,e,aA,g,n,a,hw,b,f]);all_goals exact cP.whl (i+1) Ω (dX (by simp[iW];omega) (fun h=>absurd h d)) dh
     ·have f:((c.toNat:Int) !=45)=true:=by simp[b]
      by_cases m:(48:Int)<=c.toNat/\(c.toNat:Int)<=57
      ·(repeat' first|refine aS ?_|refine be (dx _ _ _) ?_|refine bf (dx _ _ _) ?_|simp[az,e,aA,g,n,a,hw,b,f,m]);all_goals exact cP.whl (i+1) Ω (dX (by simp[iW];omega) (fun h=>absurd h d)) dh
      ·rw[l (.inl (by simp[iW,j];omega))];(repeat' first|refine aS ?_|refine be (dx _ _ _) ?_|refine bf (dx _ _ _) ?_|simp[az,e,aA,g,n,a,hw,b,f,m]);simp[b3,bq,bD,ba]
  ·have j:low c=false:=by simp[low];omega
   by_cases d:i=0
   ·rw[l (.inr ⟨d,j⟩)];have a:((i:Int)==0)=true:=by simp[d]
    (repeat' first|refine aS ?_|refine be (dx _ _ _) ?_|refine bf (dx _ _ _) ?_|simp[az,e,aA,g,a,hw]);simp[b3,bq,bD,ba]
   ·have a:((i:Int)==0)=false:=by simp[d]
    by_cases b:(c.toNat:Int)=45
    ·have f:((c.toNat:Int) !=45)=false:=by simp[b]
     (repeat' first|refine aS ?_|refine be (dx _ _ _) ?_|refine bf (dx _ _ _) ?_|simp[az,e,aA,g,a,hw,b,f]);all_goals exact cP.whl (i+1) Ω (dX (by simp[iW];omega) (fun h=>absurd h d)) dh
    ·have f:((c.toNat:Int) !=45)=true:=by simp[b]
     by_cases m:(48:Int)<=c.toNat/\(c.toNat:Int)<=57
     ·(repeat' first|refine aS ?_|refine be (dx _ _ _) ?_|refine bf (dx _ _ _) ?_|simp[az,e,aA,g,a,hw,b,f,m]);all_goals exact cP.whl (i+1) Ω (dX (by simp[iW];omega) (fun h=>absurd h d)) dh
     ·rw[l (.inl (by simp[iW,j];omega))];(repeat' first|refine aS ?_|refine be (dx _ _ _) ?_|refine bf (dx _ _ _) ?_|simp[az,e,aA,g,a,hw,b,f,m]);simp[b3,bq,bD,ba]
 ·have:i=s.length:=Ω
  subst this;rw[PY o]at cR;simp[az];(repeat' first|refine aS ?_|refine be (dx _ _ _) ?_|refine bf (dx _ _ _) ?_|simp[az]);simp[b3,bq,bD,ba];rw[<-cR,Bool.eq_iff_iff];simp;omega
def o2:List Tm->Bool
 |[a,b]=>ej a&&ej b
 |_=>false
def Sz(k n:Int)(s:List cF)(args:List Tm):ej ⟨k,n,s,args⟩=if k≠1/\k≠3/\n≠0 then false else if k≠2/\s≠[]then false else if k≠4/\args≠[]then false else if k=0 then true else if k=1 then decide (0<=n/\n<=100000)else if k=2 then kj s else if k=3 then decide (-1000000000<=n/\n<=1000000000)else if k=4 then o2 args else false:=by
 by_cases e:k=0
 ·subst e;match args with
  |[]=>by_cases i:n=0<;>by_cases c:s=[]<;>simp[ej,hR,i,c]
  |[a]=>simp[ej]
  |[a,b]=>simp[ej]
  |_::_::_::_=>simp[ej]
 by_cases g:k=1
 ·subst g;match args with
  |[]=>by_cases c:s=[]<;>simp[ej,hR,c]
  |[a]=>simp[ej]
  |[a,b]=>simp[ej]
  |_::_::_::_=>simp[ej]
 by_cases h:k=2
 ·subst h;match args with
  |[]=>by_cases i:n=0<;>simp[ej,hR,i]
  |[a]=>simp[ej]
  |[a,b]=>simp[ej]
  |_::_::_::_=>simp[ej]
 by_cases f:k=3
 ·subst f;match args with
  |[]=>by_cases c:s=[]<;>simp[ej,hR,c]
  |[a]=>simp[ej]
  |[a,b]=>simp[ej]
  |_::_::_::_=>simp[ej]
 by_cases d:k=4
 ·subst d;match args with
  |[]=>simp[ej,hR,o2]
  |[a]=>simp[ej,o2]
  |[a,b]=>by_cases i:n=0<;>by_cases c:s=[]<;>simp[ej,o2,i,c]
  |_::_::_::_=>simp[ej,o2]
 ·match args with
  |[]=>simp[ej,hR,e,g,h,f,d]
  |[a]=>simp[ej,e,g,h,f,d]
  |[a,b]=>simp[ej,e,g,h,f,d]
  |_::_::_::_=>simp[ej,e,g,h,f,d]
set_option maxRecDepth 8000 in
def Tq(m:Nat):∀(t:Tm),t.sz<=m->ct aG 124 [enc t] (.bool (ej t)):=by
 induction m with
 |zero=>intro t A;cases t;simp[Tm.sz]at A
 |succ m F=>
 rintro⟨k,n,s,args⟩ A;generalize cR:ej ⟨k,n,s,args⟩=R;have c:=Sz k n s args;rw[cR]at c;by_cases x:k≠1/\k≠3/\n≠0
 ·rw[if_pos x]at c;obtain⟨f,e,n0⟩:=x;have o:(k !=1)=true:=by simp[f]
  have j:(k !=3)=true:=by simp[e]
  have E:(n !=0)=true:=by simp[n0]
  subst c;refine cb bC Tryz.func124 jd fun d=>?_;unfold iq;simp[Tm.kind,Tm.num,Tm.name,Tm.args];(repeat' first|refine aS ?_|refine be (dx _ _ _) ?_|refine bf (dx _ _ _) ?_|refine be (fl _) ?_|refine bf (fl _) ?_|simp[o,j,E]);all_goals simp[b3,bq,bD,ba]
 rw[bH x]at c;have r:(if k !=1 then k !=3 else false)=true->(n !=0)=false:=by intro h;simp at h⊢;exact Classical.byContradiction fun N=>x ⟨h.1,h.2,N⟩
 by_cases i:k≠2/\s≠[]
 ·rw[if_pos i]at c;have w:(k !=2)=true:=by simp[i.1]
  have B:s.isEmpty=false:=by simp[i.2]
  by_cases f:k=1
  ·subst f;subst c;refine cb bC Tryz.func124 jd fun d=>?_;unfold iq;simp[Tm.kind,Tm.num,Tm.name,Tm.args];(repeat' first|refine aS ?_|refine be (dx _ _ _) ?_|refine bf (dx _ _ _) ?_|refine be (fl _) ?_|refine bf (fl _) ?_|simp[B]);all_goals simp[b3,bq,bD,ba]
  by_cases e:k=3
  ·subst e;subst c;refine cb bC Tryz.func124 jd fun d=>?_;unfold iq;simp[Tm.kind,Tm.num,Tm.name,Tm.args];(repeat' first|refine aS ?_|refine be (dx _ _ _) ?_|refine bf (dx _ _ _) ?_|refine be (fl _) ?_|refine bf (fl _) ?_|simp[B]);all_goals simp[b3,bq,bD,ba]
  have o:(k !=1)=true:=by simp[f]
  have j:(k !=3)=true:=by simp[e]
  have E:(n !=0)=false:=r (by simp[f,e]);subst c;refine cb bC Tryz.func124 jd fun d=>?_;unfold iq;simp[Tm.kind,Tm.num,Tm.name,Tm.args];(repeat' first|refine aS ?_|refine be (dx _ _ _) ?_|refine bf (dx _ _ _) ?_|refine be (fl _) ?_|refine bf (fl _) ?_|simp[o,j,E,w,B]);all_goals simp[b3,bq,bD,ba]
 rw[bH i]at c;by_cases z:k=0
 ·subst z;have n0:n=0:=by simpa using r (by decide)
  have s0:s=[]:=Classical.byContradiction fun h=>i ⟨Ω,h⟩;subst n0 s0;by_cases a0:args=[];rotate_left
  ·rw[if_pos ⟨Ω,a0⟩]at c;have g:(0:Int)<args.length:=by have:=List.length_pos_iff.2 a0;omega
   subst c;refine cb bC Tryz.func124 jd fun d=>?_;unfold iq;simp[Tm.kind,Tm.num,Tm.name,Tm.args];((repeat' first|refine aS ?_|refine be (dx _ _ _) ?_|refine bf (dx _ _ _) ?_|refine be (fl _) ?_|refine bf (fl _) ?_|simp[Int.natCast_nonneg,g]|((first|apply cN|apply cT|apply cS)<;>intro h<;>try simp at h))<;>(try exact ev));all_goals simp[b3,bq,bD,ba]
  rw[bH (by simp[a0])]at c;subst a0;simp at c;subst c;refine cb bC Tryz.func124 jd fun d=>?_;unfold iq;simp[Tm.kind,Tm.num,Tm.name,Tm.args];(repeat' first|refine aS ?_|refine be (dx _ _ _) ?_|refine bf (dx _ _ _) ?_|refine be (fl _) ?_|refine bf (fl _) ?_|simp[Int.natCast_nonneg]);all_goals simp[b3,bq,bD,ba]
 by_cases f:k=1
 ·subst f;have s0:s=[]:=Classical.byContradiction fun h=>i ⟨Ω,h⟩;subst s0;by_cases a0:args=[];rotate_left
  ·rw[if_pos ⟨Ω,a0⟩]at c;have g:(0:Int)<args.length:=by have:=List.length_pos_iff.2 a0;omega
   subst c;refine cb bC Tryz.func124 jd fun d=>?_;unfold iq;simp[Tm.kind,Tm.num,Tm.name,Tm.args];((repeat' first|refine aS ?_|refine be (dx _ _ _) ?_|refine bf (dx _ _ _) ?_|refine be (fl _) ?_|refine bf (fl _) ?_|simp[Int.natCast_nonneg,g]|((first|apply cN|apply cT|apply cS)<;>intro h<;>try simp at h))<;>(try exact ev));all_goals simp[b3,bq,bD,ba]
  rw[bH (by simp[a0])]at c;subst a0;simp at c;subst c;refine cb bC Tryz.func124 jd fun d=>?_;unfold iq;simp[Tm.kind,Tm.num,Tm.name,Tm.args];(repeat' first|refine aS ?_|refine be (dx _ _ _) ?_|refine bf (dx _ _ _) ?_|refine be (fl _) ?_|refine bf (fl _) ?_|simp[Int.natCast_nonneg]);all_goals simp[b3,bq,bD,ba]
 by_cases v:k=2
 ·subst v;have n0:n=0:=by simpa using r (by decide)
  subst n0;by_cases a0:args=[];rotate_left
  ·rw[if_pos ⟨Ω,a0⟩]at c;have g:(0:Int)<args.length:=by have:=List.length_pos_iff.2 a0;omega
   subst c;refine cb bC Tryz.func124 jd fun d=>?_;unfold iq;simp[Tm.kind,Tm.num,Tm.name,Tm.args];((repeat' first|refine aS ?_|refine be (dx _ _ _) ?_|refine bf (dx _ _ _) ?_|refine be (fl _) ?_|refine bf (fl _) ?_|simp[Int.natCast_nonneg,g]|((first|apply cN|apply cT|apply cS)<;>intro h<;>try simp at h))<;>(try exact ev));all_goals simp[b3,bq,bD,ba]
  rw[bH (by simp[a0])]at c;subst a0;simp at c;subst c;refine cb bC Tryz.func124 jd fun d=>?_;unfold iq;simp[Tm.kind,Tm.num,Tm.name,Tm.args];(repeat' first|refine aS ?_|refine be (dx _ _ _) ?_|refine bf (dx _ _ _) ?_|refine be (fl _) ?_|refine bf (fl _) ?_|simp[Int.natCast_nonneg]);all_goals simp[b3,bq,bD,ba]
 by_cases e:k=3
 ·subst e;have s0:s=[]:=Classical.byContradiction fun h=>i ⟨Ω,h⟩;subst s0;by_cases a0:args=[];rotate_left
  ·rw[if_pos ⟨Ω,a0⟩]at c;have g:(0:Int)<args.length:=by have:=List.length_pos_iff.2 a0;omega
   subst c;refine cb bC Tryz.func124 jd fun d=>?_;unfold iq;simp[Tm.kind,Tm.num,Tm.name,Tm.args];((repeat' first|refine aS ?_|refine be (dx _ _ _) ?_|refine bf (dx _ _ _) ?_|refine be (fl _) ?_|refine bf (fl _) ?_|simp[Int.natCast_nonneg,g]|((first|apply cN|apply cT|apply cS)<;>intro h<;>try simp at h))<;>(try exact ev));all_goals simp[b3,bq,bD,ba]
  rw[bH (by simp[a0])]at c;subst a0;simp at c;subst c;refine cb bC Tryz.func124 jd fun d=>?_;unfold iq;simp[Tm.kind,Tm.num,Tm.name,Tm.args];(repeat' first|refine aS ?_|refine be (dx _ _ _) ?_|refine bf (dx _ _ _) ?_|refine be (fl _) ?_|refine bf (fl _) ?_|simp[Int.natCast_nonneg]);all_goals simp[b3,bq,bD,ba]
 by_cases u:k=4
 ·subst u;have n0:n=0:=by simpa using r (by decide)
  have s0:s=[]:=Classical.byContradiction fun h=>i ⟨Ω,h⟩;subst n0 s0;simp at c;match args,c with
  |[a,b],c=>
   simp[Tm.sz,Tm.szL]at A;have p:=F a Ω;have y:=F b Ω;simp only[o2]at c;subst c;refine cb bC Tryz.func124 jd fun d=>?_;unfold iq;simp[Tm.kind,Tm.num,Tm.name,Tm.args];cases q:ej a with
   |true=>rw[q]at p;(repeat' first|refine aS ?_|refine be p ?_|refine bf p ?_|refine be y ?_|refine bf y ?_|simp[Int.natCast_nonneg]);all_goals simp[b3,bq,bD,ba]
   |false=>rw[q]at p;(repeat' first|refine aS ?_|refine be p ?_|refine bf p ?_|refine be y ?_|refine bf y ?_|simp[Int.natCast_nonneg]);all_goals simp[b3,bq,bD,ba]
  |[],c=>simp only[o2]at c;subst c;refine cb bC Tryz.func124 jd fun d=>?_;unfold iq;simp[Tm.kind,Tm.num,Tm.name,Tm.args];(repeat' first|refine aS ?_|refine be (dx _ _ _) ?_|refine bf (dx _ _ _) ?_|refine be (fl _) ?_|refine bf (fl _) ?_|simp[Int.natCast_nonneg]);all_goals simp[b3,bq,bD,ba]
  |[_],c=>simp only[o2]at c;subst c;refine cb bC Tryz.func124 jd fun d=>?_;unfold iq;simp[Tm.kind,Tm.num,Tm.name,Tm.args];(repeat' first|refine aS ?_|refine be (dx _ _ _) ?_|refine bf (dx _ _ _) ?_|refine be (fl _) ?_|refine bf (fl _) ?_|simp[Int.natCast_nonneg]);all_goals simp[b3,bq,bD,ba]
  |_::_::_::l,c=>
   simp only[o2]at c;have M:((l.length:Int)+1+1+1==2)=false:=by simp;omega
   subst c;refine cb bC Tryz.func124 jd fun d=>?_;unfold iq;simp[Tm.kind,Tm.num,Tm.name,Tm.args];(repeat' first|refine aS ?_|refine be (dx _ _ _) ?_|refine bf (dx _ _ _) ?_|refine be (fl _) ?_|refine bf (fl _) ?_|simp[M]);all_goals simp[b3,bq,bD,ba]
 have n0:(n !=0)=false:=r (by simp[f,e]);have s0:s=[]:=Classical.byContradiction fun h=>i ⟨v,h⟩;subst s0;have L:(k==0)=false:=by simp[z]
 have o:(k==1)=false:=by simp[f]
 have w:(k==2)=false:=by simp[v]
 have j:(k==3)=false:=by simp[e]
 have H:(k==4)=false:=by simp[u]
 have K:(k !=1)=true:=by simp[f]
 have J:(k !=2)=true:=by simp[v]
 have I:(k !=3)=true:=by simp[e]
 have G:(k !=4)=true:=by simp[u]
 by_cases a0:args=[]
 ·subst a0;simp[z,f,v,e,u]at c;subst c;refine cb bC Tryz.func124 jd fun d=>?_;unfold iq;simp[Tm.kind,Tm.num,Tm.name,Tm.args];(repeat' first|refine aS ?_|refine be (dx _ _ _) ?_|refine bf (dx _ _ _) ?_|refine be (fl _) ?_|refine bf (fl _) ?_|simp[L,o,w,j,H,K,J,I,G,n0]);all_goals simp[b3,bq,bD,ba]
 ·rw[if_pos ⟨u,a0⟩]at c;have g:(0:Int)<args.length:=by have:=List.length_pos_iff.2 a0;omega
  subst c;refine cb bC Tryz.func124 jd fun d=>?_;unfold iq;simp[Tm.kind,Tm.num,Tm.name,Tm.args];((repeat' first|refine aS ?_|refine be (dx _ _ _) ?_|refine bf (dx _ _ _) ?_|refine be (fl _) ?_|refine bf (fl _) ?_|simp[g,L,o,w,j,H,K,J,I,G,n0]|((first|apply cN|apply cT|apply cS)<;>intro h<;>try simp at h))<;>(try exact ev));all_goals simp[b3,bq,bD,ba]
def yh(t:Tm):ct aG 56 [enc t] (.bool t.fits):=by
 rw[Ni];have aA:=JB t 5000 Ω Ω;have b:=Tq t.sz t (di _);refine cb bC Tryz.func56 RD fun a=>?_;unfold DO;simp;by_cases q:h0 t 5000<=5000
 ·exact eA
 ·exact eA
def iX(n:Int):List Int->List Int
 |[]=>[n]
 |c::l=>if c<n then c::iX n l else if c=n then c::l else n::c::l
def pa(l:List Int):Prop:=l.Pairwise (· < ·)
def Gj(n:Int):∀(l:List Int) (k:Nat),(∀i c,i<k->l[i]? =some c->c<n)->(∀c,l[k]? =some c->n<=c)->k<=l.length->iX n l=if l[k]? =some n then l else l.take k++n::l.drop k
 |[],k,_,_,U=>by simp at U;subst U;rfl
 |c::l,0,_,J,_=>by
  have:=J c rfl;by_cases e:c=n
  ·simp[iX,e]
  ·have f:¬c<n:=Ω
   simp[iX,f,e]
 |c::l,k+1,I,J,U=>by have b:=I 0 c Ω rfl;simp only[iX,if_pos b,List.take_succ_cons,List.drop_succ_cons,List.cons_append,List.getElem?_cons_succ];rw[Gj n l k (fun i d az a=>I (i+1) d Ω (by simpa using a)) (fun d a=>J d (by simpa using a)) (by simpa using U)];split<;>rfl
def A3{n m:Int}:∀{l:List Int},m∈iX n l↔m=n\/m∈l
 |[]=>by simp[iX]
 |c::l=>by
  simp only[iX];split
  ·simp only[gw,A3 (l:=l)];constructor
   ·rintro(h|h|h)
    ·exact .inr (.inl h)
    ·exact .inl h
    ·exact .inr (.inr h)
   ·rintro(h|h|h)
    ·exact .inr (.inl h)
    ·exact .inl h
    ·exact .inr (.inr h)
  ·split
   ·rename_i h;subst h;simp
   ·simp
def Gi{n:Int}:∀{l:List Int},pa l->pa (iX n l)
 |[],_=>by simp[iX,pa]
 |c::l,h=>by
  obtain⟨I,J⟩:=List.pairwise_cons.1 h;simp only[iX];split
  ·rename_i a;refine List.pairwise_cons.2 ⟨fun m hm=>?_,Gi J⟩;rcases A3.1 hm with rfl|hm
   ·exact a
   ·exact I m hm
  ·split
   ·exact h
   ·refine List.pairwise_cons.2 ⟨fun m hm=>?_,h⟩;rcases gw.1 hm with rfl|hm
    ·omega
    ·have:=I m hm;omega
def Gk(n:Int):∀l:List Int,(iX n l).length<=l.length+1
 |[]=>by simp[iX]
 |c::l=>by
  have:=Gk n l;simp only[iX];split
  ·simp;omega
  ·split<;>simp
def Gr(l:List Int)(i:Nat):(c0 l)[i]? =(l[i]?).map (aa.int .i64):=by simp[c0]
def PS(l:List Int):(c0 l).length=l.length:=by simp[c0]
def q7:∀l:List Int,bt (c0 l)=c0 l
 |[]=>by simp[c0,bt]
 |a::l=>by have:=q7 l;simp only[c0,gG,bt,bE]at this⊢;rw[this]
def w2(l:List Int)(n:Int)(k:Nat):bt (List.take k (c0 l)++aB n::List.drop k (List.take l.length (c0 l)))=c0 (List.take k l++n::List.drop k l):=by
 have e:List.take l.length (c0 l)=c0 l:=lG (by simp[c0]);have a:List.take k (c0 l)++aB n::List.drop k (c0 l)=c0 (List.take k l++n::List.drop k l):=by simp only[c0,List.map_append,gG,List.map_take,List.map_drop]
 rw[e,a];exact q7 _
def Tp(l:List Int)(n:Int)(K:l.length<=1000000)(F:pa l):ct aG 126 [hW (c0 l),aB n] (hW (c0 (iX n l))):=by
 refine cb bC Tryz.func126 RJ fun H=>?_;unfold DU;simp;refine zc [0,1] (fun(k:Nat)=>[(5,aB k)]) (fun k=>k) (fun k=>k<=l.length/\∀c,l[k]? =some c->n<=c) l.length dh ⟨Ω,fun c h=>by simp at h⟩ (fun k v _=>?_);obtain⟨U,v⟩:=v;have E:(∀c,0<k->l[k-1]? =some c->c<n)->iX n l=if l[k]? =some n then l else l.take k++n::l.drop k:=fun h=>Gj n l k (fun i c az aA=>by
  obtain⟨d,f⟩:∃d,l[k-1]? =some d:=⟨_,cl Ω⟩;have I:=h d Ω f;rcases Nat.lt_or_ge i (k-1)with J|J
  ·have w:=(eQ.1 aA);have x:=(eQ.1 f);have:=List.pairwise_iff_getElem.1 F i (k-1) w.1 x.1 J;rw[w.2,x.2]at this;omega
  ·have:i=k-1:=Ω
   subst this;rw[f]at aA;cases aA;exact I) v U
 have z:∀c,l[k]? =some c->∀h,((c0 l)[k]'h)=aB c:=fun c h u=>by have:=Gr l k;rw[h,cl u]at this;exact jg this
 have y:(0<k->∃d,l[k-1]? =some d/\d<n)->∀P:Prop,(iX n l=(if l[k]? =some n then l else l.take k++n::l.drop k)->P)->P:=fun h P B=>B (E fun c A aA=>by obtain⟨d,f,I⟩:=h A;rw[f]at aA;cases aA;exact I)
 rcases Nat.eq_zero_or_pos k with A|m
 ·have s:decide ((0:Int)<k)=false:=by simp;omega
  refine y (fun h=>Ω) _ fun e=>?_;by_cases a:k<l.length
  ·obtain⟨c,aA⟩:∃c,l[k]? =some c:=⟨_,cl a⟩;have t:=z c aA;rw[aA]at e;by_cases q:c=n
   ·have r:(c==n)=true:=by simp[q]
    rw[if_pos (by rw[q])]at e;rw[e];simp[s,a];((repeat' first|refine aS ?_|simp[s,a,t,r]|((first|apply cN|apply cT|apply cS)<;>intro h<;>try simp at h))<;>(try exact ev));all_goals simp[b3,bq,bD,ba]
   ·have r:(c==n)=false:=by simp[q]
    rw[bH (by simp[q])]at e;rw[e];simp[s,a];((repeat' first|refine aS ?_|simp[s,a,t,r]|((first|apply cN|apply cT|apply cS)<;>intro h<;>try simp at h))<;>(try exact ev));all_goals simp[b3,bq,bD,ba]
    all_goals exact w2 l n k
  ·rw[List.getElem?_eq_none Ω]at e;simp only[reduceCtorEq,if_false]at e;rw[e];simp[s,a];((repeat' first|refine aS ?_|simp[s,a]|((first|apply cN|apply cT|apply cS)<;>intro h<;>try simp at h))<;>(try exact ev));all_goals simp[b3,bq,bD,ba]
   all_goals exact w2 l n k
 ·obtain⟨d,f⟩:∃d,l[k-1]? =some d:=⟨_,cl Ω⟩;have o:((k:Int)-1).toNat=k-1:=Ω
  have p:∀h,((c0 l)[k-1]'h)=aB d:=fun u=>by have:=Gr l (k-1);rw[f,cl u]at this;exact jg this
  have j:(0:Int)<k:=Ω
  have g:k-1<l.length:=Ω
  by_cases b:n<=d
  ·simp[m,j,o,p,b,g];(repeat' first|refine aS ?_|simp[m,j,o,p,b,g]);refine cP.whl (k-1) Ω ⟨Ω,fun c aA=>by rw[f]at aA;cases aA;exact b⟩ ?_;have G:((k-1:Nat):Int)=(k:Int)-1:=Ω
   simp[G];exact dh
  ·refine y (fun _=>⟨d,f,Ω⟩) _ fun e=>?_;by_cases a:k<l.length
   ·obtain⟨c,aA⟩:∃c,l[k]? =some c:=⟨_,cl a⟩;have t:=z c aA;rw[aA]at e;by_cases q:c=n
    ·have r:(c==n)=true:=by simp[q]
     rw[if_pos (by rw[q])]at e;rw[e];simp[m,j,o,p,b,g,a];((repeat' first|refine aS ?_|simp[m,j,o,p,b,g,a,t,r]|((first|apply cN|apply cT|apply cS)<;>intro h<;>try simp at h))<;>(try exact ev));all_goals simp[b3,bq,bD,ba]
    ·have r:(c==n)=false:=by simp[q]
     rw[bH (by simp[q])]at e;rw[e];simp[m,j,o,p,b,g,a];(repeat' first|refine aS ?_|simp[m,j,o,p,b,g,a,t,r]);all_goals simp[b3,bq,bD,ba]
     all_goals exact w2 l n k
   ·rw[List.getElem?_eq_none Ω]at e;simp only[reduceCtorEq,if_false]at e;rw[e];simp[m,j,o,p,b,g,a];(repeat' first|refine aS ?_|simp[m,j,o,p,b,g,a]);all_goals simp[b3,bq,bD,ba]
    all_goals exact w2 l n k
def cC:T->List Int->List Int
 | .var n,l=>iX n l
 | .pair a b,l=>cC b (cC a l)
 |_,l=>l
def u3:∀(t:T) {l:List Int},pa l->pa (cC t l)
 | .var _,_,h=>Gi h
 | .pair a b,_,h=>u3 b (u3 a h)
 | .nil,_,h=>h
 | .sym _,_,h=>h
 | .num _,_,h=>h
def xi{m:Int}:∀(t:T) {l:List Int},m∈cC t l↔t.occ m=true\/m∈l
 | .var n,l=>by simp only[cC,A3,T.occ,c2];constructor<;>rintro(h|h)<;>first|exact .inr h|exact .inl h.symm
 | .pair a b,l=>by
  simp only[cC,xi b,xi a,T.occ,Bool.or_eq_true];constructor
  ·rintro(h|h|h)
   ·exact .inl (.inr h)
   ·exact .inl (.inl h)
   ·exact .inr h
  ·rintro((h|h)|h)
   ·exact .inr (.inl h)
   ·exact .inl h
   ·exact .inr (.inr h)
 | .nil,l=>by simp[cC,T.occ]
 | .sym _,l=>by simp[cC,T.occ]
 | .num _,l=>by simp[cC,T.occ]
def u4:∀(t:T) (l:List Int),(cC t l).length<=l.length+t.size
 | .var n,l=>by have:=Gk n l;simp only[cC,T.size];omega
 | .pair a b,l=>by have I:=u4 a l;have J:=u4 b (cC a l);simp only[cC,T.size];omega
 | .nil,l=>by simp[cC]
 | .sym _,l=>by simp[cC]
 | .num _,l=>by simp[cC]
def yg:∀(t:T) (l:List Int),l.length+t.size<=1000000->pa l->ct aG 58 [t.e,hW (c0 l)] (hW (c0 (cC t l)))
 | .var n,l,d,c=>by
  simp only[T.size]at d;have key:=Tp l n Ω c;refine cb bC Tryz.func58 uv fun e=>?_;unfold rz;simp;(repeat' first|refine aS ?_|refine be key ?_|refine bf key ?_|simp);all_goals simp[b3,bq,bD,ba]
  all_goals simp[cC,q7]
 | .pair a b,l,d,c=>by
  simp only[T.size]at d;have j:=u4 a l;have f:=yg a l Ω c;have g:=yg b (cC a l) Ω (u3 a c);refine cb bC Tryz.func58 uv fun e=>?_;unfold rz;simp;refine lf [15,16] (fun i (_:Unit)=>[(1,hW (c0 (if i=0 then l else if i=1 then cC a l else cC b (cC a l)))),(17,aB i)]) 2 (fun _ _=>True) () dh trivial (fun _ _ _=>?_) (fun i _ az _ _=>?_)
  ·simp;(repeat' first|refine aS ?_|simp);simp[b3,bq,bD,ba];simp[cC,q7]
  ·rcases(by omega:i=0\/i=1)with rfl|rfl
   ·simp;((repeat' first|refine aS ?_|refine be f ?_|refine bf f ?_|simp|((first|apply cN|apply cT|apply cS)<;>intro h<;>try simp at h))<;>(try exact ev));exact cP.rng () az trivial dh
   ·simp;((repeat' first|refine aS ?_|refine be g ?_|refine bf g ?_|simp|((first|apply cN|apply cT|apply cS)<;>intro h<;>try simp at h))<;>(try exact ev));exact cP.rng () az trivial dh
 | .nil,l,d,c=>by refine cb bC Tryz.func58 uv fun e=>?_;unfold rz;simp;refine lf [15,16] (fun i (_:Unit)=>[(1,hW (c0 l)),(17,aB i)]) 0 (fun _ _=>True) () dh trivial (fun _ _ _=>?_) (fun i _ az _ _=>Ω);simp;((repeat' first|refine aS ?_|simp|((first|apply cN|apply cT|apply cS)<;>intro h<;>try simp at h))<;>(try exact ev));simp[b3,bq,bD,ba];simp[cC,q7]
 | .sym _,l,d,c=>by refine cb bC Tryz.func58 uv fun e=>?_;unfold rz;simp;refine lf [15,16] (fun i (_:Unit)=>[(1,hW (c0 l)),(17,aB i)]) 0 (fun _ _=>True) () dh trivial (fun _ _ _=>?_) (fun i _ az _ _=>Ω);simp;(repeat' first|refine aS ?_|simp);simp[b3,bq,bD,ba];simp[cC,q7]
 | .num _,l,d,c=>by refine cb bC Tryz.func58 uv fun e=>?_;unfold rz;simp;refine lf [15,16] (fun i (_:Unit)=>[(1,hW (c0 l)),(17,aB i)]) 0 (fun _ _=>True) () dh trivial (fun _ _ _=>?_) (fun i _ az _ _=>Ω);simp;(repeat' first|refine aS ?_|simp);simp[b3,bq,bD,ba];simp[cC,q7]
def tc:C:=(al [ed 2 0,iK 4 4] (.seq (al [bP 11 4 2,eJ 12 64 11,gU 13 12,ae 14 13,dc 14 false 15 1,bk 14 false (eJ 16 65 15),bk 14 false (gU 17 16),hj 18 14 17] (bz 18 (al [iK 4 4] .ret) .skip)) (al [bP 19 4 2,eJ 20 66 19,ae 5 20] (.seq (al [ae 21 1,eu 22 21,ae 23 5,eu 24 23,c8 25 67 22 24,br 26 .gtr 25 512] (bz 26 (al [iK 4 4] .ret) .skip)) (al [gN 27 4 30 [],ae 6 27] (.seq (al [ae 28 5,ae 29 1,c8 30 68 28 29,eu 31 30,cp 32 0] (mW 33 32 31 (.seq (.block 1 (al [eO 34 1 30 32,bh 35 1 34,ae 8 35] (al [ae 37 8,bP 38 4 2,c8 39 69 37 38,ae 36 39,kX 40 0 36,kX 41 1 36,fM 9 e0,cZ 4 9 40,ae 10 41] (.seq (al [ae 42 10,gU 43 42] (bz 43 (al [iK 4 4] .ret) .skip)) (.region [ae 44 6,bP 45 4 9,gN 46 4 30 [.t 45],k7 47 4 30 44 46,ae 6 47]))))) (.region [br 48 .add 32 1,ae 32 48])))) (al [ae 49 6,eJ 50 70 49,ae 4 50] .ret)))))))
def vr:C:=(al [dg 2 false] (.seq (al [ae 5 0,eu 6 5,br 7 .lss 6 1,ae 8 7,dc 8 false 9 0,bk 8 false (eu 10 9),bk 8 false (br 11 .gtr 10 8),hj 12 8 11] (bz 12 (al [dg 2 false] .ret) .skip)) (.seq (al [ae 13 0,eu 14 13,cp 15 0] (mW 16 15 14 (.seq (.block 1 (al [ae 17 15,eO 18 4 13 15,bP 19 4 18,fM 4 e0,ae 3 17,cZ 4 4 19] (.seq (.drawn true 38 [bP 20 4 4,eJ 21 132 20,gU 22 21,ae 23 22,dc 23 false 24 3,bk 23 false (br 25 .gtr 24 0),dc 23 false 26 25,dc 26 true 27 0,dc 26 true 28 3,bk 26 true (br 29 .sub 28 1),bk 26 true (eO 30 4 27 29),bk 26 true (bP 31 4 30),bk 26 true (bP 32 4 4),bk 26 true (c8 33 133 31 32),bk 26 true (br 34 .geq 33 0),bk 23 false (fL 35 26 34),hj 36 23 35]) (bz 36 (al [dg 2 false] .ret) .skip)))) (.region [br 37 .add 15 1,ae 15 37])))) (al [dg 2 true] .ret))))
def Dw:C:=(al [cp 4 0] (al [cp 5 1] (.seq (al [cp 6 0] (.block 0 (.loop (.seq (al [ae 7 6,ae 8 1,bV 9 .lss 7 8,ae 10 9,dc 10 true 11 5,bk 10 true (br 12 .leq 11 512),fL 13 10 12,ae 14 13,dc 14 true 15 0,bk 14 true (br 16 .neq 15 1),fL 17 14 16] (bz 17 .skip (.exit 0))) (.seq (.block 1 (.region [ae 20 5,ae 21 0,bV 22 .mul 20 21,ae 5 22])) (.region [ae 18 6,br 19 .add 18 1,ae 6 19])))))) (al [ae 23 5,cd 24 (.min2 (.t 23) (fI 513)),ae 4 24] .ret))))
def Dm:C:=(al [iK 4 1] (al [gN 13 5 113 [],gN 14 1 46 [.t 13],ae 5 14] (.seq (.seq (.fg false 5 (.region [ae 15 0,eu 16 15,cp 17 0])) (mW 18 17 16 (.seq (.block 1 (al [eO 19 1 15 17,bh 20 1 19,ae 7 20] (al [gN 21 1 46 [],ae 8 21] (.seq (al [ae 22 5,eu 23 22,cp 24 0] (.block 2 (.loop (al [bV 25 .lss 24 23] (.seq (bz 25 .skip (.exit 2)) (.seq (.block 3 (al [eO 26 1 22 24,bh 27 1 26,ae 10 27] (al [ae 28 1,eu 29 28,cp 30 0] (.block 4 (.loop (al [bV 31 .lss 30 29] (.seq (bz 31 .skip (.exit 4)) (.seq (.block 5 (al [eO 32 4 28 30,bP 33 4 32,fM 12 e0,cZ 4 12 33] (.drawn true 50 [ae 34 8,gN 35 5 113 [],ae 36 10,k7 37 5 113 35 36,ae 38 7,bP 39 4 12,nT 40 AT [(0,1,(.t 38)),(1,4,(.t 39))],gN 41 5 113 [.t 40],k7 42 5 113 37 41,gN 43 1 46 [.t 42],k7 44 1 46 34 43,ae 8 44]))) (.fg true 8 (.region [br 45 .add 30 1,ae 30 45])))))))))) (.region [br 46 .add 24 1,ae 24 46]))))))) (.fg false 8 (.region [ae 47 8,ae 5 47])))))) (.region [br 48 .add 17 1,ae 17 48])))) (al [ae 49 5,ae 4 49] .ret))))
def Dk:C:=(al [iK 2 4] (al [hH (.bslm 7 (some 601) 4 30 []),ae 8 0,hH (.appm 9 none 4 30 (.t 7) (.t 8)),hH (.alloc 3 (some 602) (.slice 4 .nil [])),cZ 1 3 9] (al [bh 10 1 3,cd 11 (.mkif 27 (.t 10)),cd 12 (.mkf 141 [.t 3]),c8 13 140 11 12] (al [gN 14 4 30 [],ae 4 14] (.seq (al [bh 15 1 3,eu 16 15,cp 17 0] (mW 18 17 16 (.seq (.block 1 (al [ae 19 17,eO 20 4 15 17,bP 21 4 20,fM 6 e0,ae 5 19,cZ 4 6 21] (.seq (.drawn true 41 [ae 22 5,br 23 .eql 22 0,ae 24 23,bk 24 false (bh 25 1 3),dc 24 false 26 5,bk 24 false (br 27 .sub 26 1),bk 24 false (eO 28 4 25 27),bk 24 false (bP 29 4 28),bk 24 false (bP 30 4 6),bk 24 false (c8 31 142 29 30),bk 24 false (gU 32 31),hj 33 24 32]) (bz 33 (.region [ae 34 4,bP 35 4 6,eJ 36 143 35,gN 37 4 30 [.t 36],k7 38 4 30 34 37,ae 4 38]) .skip)))) (.region [br 39 .add 17 1,ae 17 39])))) (al [ae 40 4,ae 2 40] .ret))))))
def tf:C:=(al [ed 2 0,ed 3 1,cp 4 0] (.seq (al [bu 7 0 1 2,bh 8 1 7,bu 9 0 1 3,bh 10 1 9,bV 11 .neq 8 10] (bz 11 (al [bu 12 0 1 2,bh 13 1 12,bu 14 0 1 3,bh 15 1 14,bV 16 .lss 13 15,eJ 17 188 16,ae 4 17] .ret) .skip)) (.seq (al [bu 18 1 1 2,bh 19 1 18,bu 20 1 1 3,bh 21 1 20,bV 22 .neq 19 21] (bz 22 (al [bu 23 1 1 2,bh 24 1 23,bu 25 1 1 3,bh 26 1 25,bV 27 .lss 24 26,eJ 28 188 27,ae 4 28] .ret) .skip)) (.seq (al [bu 29 2 1 2,bh 30 1 29,bu 31 2 1 3,bh 32 1 31,bV 33 .neq 30 32] (bz 33 (al [bu 34 2 1 2,bh 35 1 34,bu 36 2 1 3,bh 37 1 36,bV 38 .lss 35 37,eJ 39 188 38,ae 4 39] .ret) .skip)) (.seq (al [cp 5 0] (.block 0 (.loop (.seq (al [ae 40 5,bu 41 3 1 2,bh 42 1 41,eu 43 42,bV 44 .lss 40 43,ae 45 44,dc 45 true 46 5,bk 45 true (bu 47 3 1 3),bk 45 true (bh 48 1 47),bk 45 true (eu 49 48),bk 45 true (bV 50 .lss 46 49),fL 51 45 50] (bz 51 .skip (.exit 0))) (.seq (.block 1 (.seq (.drawn true 68 [bu 54 3 1 2,bh 55 1 54,ae 56 5,eO 57 4 55 56,bP 58 4 57,bu 59 3 1 3,bh 60 1 59,ae 61 5,eO 62 4 60 61,bP 63 4 62,c8 64 125 58 63,ae 6 64]) (al [ae 65 6,br 66 .neq 65 0] (bz 66 (al [ae 67 6,ae 4 67] .ret) .skip)))) (.region [ae 52 5,br 53 .add 52 1,ae 5 53])))))) (al [cp 4 0] .ret))))))
def DW:C:=(al [ed 2 0,ed 3 1,dg 4 false] (al [bP 5 4 2,bP 6 4 3,c8 7 125 5 6,br 8 .eql 7 0,ae 4 8] .ret))
def yI:C:=(al [ed 1 0,dg 2 false] (al [bP 3 4 1,eJ 4 64 3,ae 5 4,bk 5 true (bP 6 4 1),bk 5 true (eJ 7 175 6),fL 8 5 7,ae 2 8] .ret))
def Dl:C:=(al [dg 5 false] (.seq (.drawn true 16 [bh 6 1 2,ae 7 0,eO 8 4 6 7,bP 9 4 8,bh 10 1 2,ae 11 1,eO 12 4 10 11,bP 13 4 12,c8 14 133 9 13,br 15 .lss 14 0,ae 5 15]) .ret))
def Dr:C:=(al [ed 1 0,dg 2 false] (al [hH (.alloc 3 (some 501) (.bool false)),hH (.store 1 (.t 3) (.c (.bool true)))] (al [bP 4 4 1,cd 5 (.mkf 211 [.t 3]),c8 6 134 4 5] (al [bh 7 1 3,ae 2 7] .ret))))
def DX:C:=(al [cp 2 0] (.seq (al [ae 3 0] (bz 3 (al [cp 2 (-1)] .ret) .skip)) (al [cp 2 1] .ret)))
def Ds:C:=(.region [hH (.store 1 (.t 1) (.c (.bool false)))])
def xv:cJ aE tc [.tmp 4] 2 Tryz.f20=true:=ac
def Bm:cJ aE vr [.tmp 2] 1 Tryz.f65=true:=ac
def Rl:cJ aE Dw [.tmp 4] 2 Tryz.f67=true:=ac
def Rb:cJ aE Dm [.tmp 4] 2 Tryz.f68=true:=ac
def Q9:cJ aE Dk [.tmp 2] 1 Tryz.f70=true:=ac
def xy:cJ aE tf [.tmp 4] 2 Tryz.f125=true:=ac
def RL:cJ aE DW [.tmp 4] 2 Tryz.f129=true:=ac
def Hp:cJ aE yI [.tmp 2] 1 Tryz.f132=true:=ac
def Ra:cJ aE Dl [.tmp 5] 3 Tryz.f141=true:=ac
def Rg:cJ aE Dr [.tmp 2] 1 Tryz.f175=true:=ac
def RM:cJ aE DX [.tmp 2] 1 Tryz.f188=true:=ac
def Rh:cJ aE Ds [] 2 Tryz.f211=true:=ac
def Kc{t u:T}(I:t.kind=u.kind)(J:t.int=u.int)(a:t.name=u.name)(b:t.args=u.args):t=u:=by cases t<;>cases u<;>simp_all
def sR(b:Bool):ct aG 188 [.bool b] (aB (if b then-1 else 1)):=by
 refine cb bC Tryz.func188 RM fun a=>?_;unfold DX;simp;((repeat' first|refine aS ?_|simp|((first|apply cN|apply cT|apply cS)<;>intro h<;>try simp at h))<;>(try exact ev));all_goals simp[b3,bq,bD,ba]
 all_goals simp_all
def RU{a b:T}(c:a.args=[]\/b.args=[])(I:a.kind=b.kind)(J:a.int=b.int):ca a b=hD a.name b.name:=by cases a<;>cases b<;>simp_all[ca]
def ug(a b:T)(i:Nat)(_:Unit):Prop:=a.args.take i=b.args.take i
def JA(a:T)(n:∀x∈a.args,∀b:T,ct aG 125 [x.e,b.e] (aB (ca x b)))(b:T):ct aG 125 [a.e,b.e] (aB (ca a b)):=by
 have hle:a.args.length<=2:=by cases a<;>simp
 by_cases U:a.kind=b.kind
 ·by_cases az:a.int=b.int
  ·by_cases g:a.name=b.name
   ·have hlen:a.args.length=b.args.length:=by cases a<;>cases b<;>simp at U⊢
    refine cb bC Tryz.func125 xy fun j=>?_;unfold tf;simp[U,az,g];refine lf [2,3] (fun i (_:Unit)=>[(5,aB i)]) a.args.length (ug a b) () dh (by simp[ug]) (fun _ c _=>?_) (fun i _ f c _=>?_)
    ·simp;(repeat' first|refine aS ?_|simp);simp[b3,bq,bD,ba];unfold ug at c;rw[lG Ω,lG Ω]at c;exact((ly a b).2 (Kc U az g c)).symm
    ·have k:i<b.args.length:=Ω
     obtain⟨x,d⟩:∃x,x=a.args[i]:=⟨_,rfl⟩;obtain⟨y,e⟩:∃y,y=b.args[i]:=⟨_,rfl⟩;have l:=n x (by rw[d];exact List.getElem_mem f) y;simp[f,k,<-d,<-e];(with_reducible repeat' first|((first|apply cN|apply cT|apply cS)<;>intro h<;>try simp at h)|refine aS ?_|refine be l ?_|refine bf l ?_|simp)
     ·simp[b3,bq,bD,ba];unfold ug at c;cases a with
      |pair m a2=>
       cases b with
       |pair o p=>
        simp at f c d e;rcases(by omega:i=0\/i=1)with rfl|rfl
        ·simp at d e;subst d e;simp[ca,h]
        ·simp at c d e;subst d e c;simp[ca,(ly m m).2 rfl]
       |_=>simp at U
      |_=>simp at f
     ·refine cP.rng () f ?_ dh;unfold ug at c⊢;rw[List.take_succ,List.take_succ,c,cl f,cl k,<-d,<-e,(ly x y).1 h]
   ·refine cb bC Tryz.func125 xy fun j=>?_;unfold tf;simp[U,az,g];((repeat' first|refine aS ?_|refine be (sR _) ?_|refine bf (sR _) ?_|simp|((first|apply cN|apply cT|apply cS)<;>intro h<;>try simp at h))<;>(try exact ev));simp[b3,bq,bD,ba];have:a.args=[]\/b.args=[]:=by cases a<;>cases b<;>simp at U g⊢
    rw[RU this U az,hD,bH g]
  ·refine cb bC Tryz.func125 xy fun j=>?_;unfold tf;simp[U,az];((repeat' first|refine aS ?_|refine be (sR _) ?_|refine bf (sR _) ?_|simp|((first|apply cN|apply cT|apply cS)<;>intro h<;>try simp at h))<;>(try exact ev));simp[b3,bq,bD,ba];cases a<;>cases b<;>simp at U az
   ·rw[Hx];simp[gg];split<;>(try split)<;>omega
   ·rw[Hw];simp[gg];split<;>(try split)<;>omega
 ·refine cb bC Tryz.func125 xy fun j=>?_;unfold tf;simp[U];((repeat' first|refine aS ?_|refine be (sR _) ?_|refine bf (sR _) ?_|simp|((first|apply cN|apply cT|apply cS)<;>intro h<;>try simp at h))<;>(try exact ev));simp[b3,bq,bD,ba];rw[mK U];simp[gg];split<;>(try split)<;>omega
def jx(a:T):∀b:T,ct aG 125 [a.e,b.e] (aB (ca a b)):=by
 induction a with
 |pair x y e d=>
  refine JA _ fun z c=>?_;simp at c;rcases c with rfl|rfl
  ·exact e
  ·exact d
 |_=>exact JA _ fun x f=>by simp at f
def l6(a b:T):ct aG 129 [a.e,b.e] (.bool (decide (a=b))):=by refine cb bC Tryz.func129 RL fun c=>?_;unfold DW;simp;(repeat' first|refine aS ?_|refine be (jx _ _) ?_|refine bf (jx _ _) ?_|simp);simp[b3,bq,bD,ba];have:=ly a b;by_cases h:ca a b=0<;>simp_all
def qL:jZ T.k T.e:=⟨fun x n=>rfl,fun x n=>⟨trivial,trivial,trivial,Bg n,trivial⟩,fun x n=>by simp[T.k,bE],fun S x n h=>by simp[T.k,aR,aV,h]⟩
@[simp]def UE(t:T)(n:Nat):cells (t.k n)=[aB t.kind,aB t.int,.str t.name,.slice 4 (.tr (.loc n) 0) (t.args.map T.e)]:=rfl
@[simp]def Xt(t:T)(n:Nat):dd (t.k n)=true:=rfl
def G8(a:List fy):aa:=match a with
 |[]=>.slice 2 .nil []
 |_::_=>.slice 2 (.own (.loc 5)) (a.map fy.e)
def G7(a:List fy):List (ar×cw):=match a with
 |[]=>[]
 |_::_=>[(.loc 5,⟨a.length,100,2,none⟩)]
def G6(a:List fy):Nat:=match a with
 |[]=>3
 |_::_=>6
@[simp]def Wp:G8 []= .slice 2 .nil []:=rfl
@[simp]def Wo(x:fy)(a:List fy):G8 (x::a)= .slice 2 (.own (.loc 5)) (x.e::a.map fy.e):=rfl
@[simp]def Wn:G7 []=[]:=rfl
@[simp]def Wm(x:fy)(a:List fy):G7 (x::a)=[(.loc 5,⟨a.length+1,100,2,none⟩)]:=rfl
@[simp]def Wl:G6 []=3:=rfl
@[simp]def Wk(x:fy)(a:List fy):G6 (x::a)=6:=rfl
def Lk(d:dZ (dZ nX)):aa:=d.e 1 Ek
def Qc(k:dZ gH):aa:=k.e 2 gH.e
def QD(m:dZ qb):aa:=m.e 2 qb.e
structure CP where
 n:Int
 b:dZ nX
 d:dZ (dZ nX)
 k:dZ gH
 m:dZ qb
def CP.e(r:CP):aa:= .agg [aB r.n,Ek r.b,Lk r.d,Qc r.k,QD r.m]
end
section
open Go Go.Pv Go.ChangeShapes Go.WideShapes Go.ChangeAt Go.RowKit Go.Deep
section
variable {H:Type} {enc:ey×Value->H} {W:World} {spare:Nat->Bool} {held:Bool} {cs:List Value} {x:DataW H×List MemPlace} {fuel:Nat}
def KE:aG.cellsOf 3=1:=ac
def KF:aG.cellsOf 9=1:=ac
def yR:aG.cellsOf 24=4:=ac
def KG:aG.cellsOf 22=1:=ac
def Gq(h:DataW.trod enc aG W 0 spare held fuel 3 cs=some x):∃(n:Int) (v:Value),cs=[v]/\BJ W (.int .i64 n) v:=by obtain⟨n,rfl,_,_⟩:=DataW.trod_int Tryz.underlying3 h;exact⟨n,_,rfl,by simp only[aw],rfl,rfl⟩
def SL(h:DataW.trod enc aG W 0 spare held fuel 9 cs=some x):∃(s:fb) (v:Value),s.wf/\cs=[v]/\BJ W s.e v:=by
 obtain⟨s,rfl,_,hm⟩:=DataW.trod_string Tryz.underlying9 h;by_cases a:cH<s.size
 ·exact⟨.b s,_,⟨a,by unfold maxLen at hm;omega⟩,rfl,by simp only[fb.e,aw],rfl,rfl⟩
 ·refine⟨.s s.data.toList,_,trivial,rfl,?_,rfl,rfl⟩;simp only[fb.e,aw];refine⟨Ψ,?_⟩;have:s.data.toList.length=s.size:=rfl;omega
def Qh{α:Type}:∀{cs:List α},cs.length=4->∃a b c d,cs=[a,b,c,d]
 |[a,b,c,d],_=>⟨a,b,c,d,rfl⟩
def Jg:∀(fuel:Nat) (cs:List Value) (x:DataW H×List MemPlace),DataW.trod enc aG W 0 spare held fuel 24 cs=some x->∃t:bj,t.wf/\bL W (lN W) [.int .i64 t.kind,.int .i64 t.num,t.name.e,t.args.e 4 bj.e] cs:=by
 intro fuel;induction fuel using Nat.strongRecOn with
 |ind fuel F=>
  intro cs x h;obtain⟨xs,n,rfl,_,hlen,B,q⟩:=DataW.trod_struct Tryz.underlying24 h;rw[yR]at hlen;obtain⟨d,j,o,g,rfl⟩:=Qh hlen;have J:xs.length=4:=B;have f0:DataW.trod enc aG W 0 spare held n 3 (([d,j,o,g].drop 0).take (aG.cellsOf 3))=xs[0]?:=q 0 _ rfl;have f1:DataW.trod enc aG W 0 spare held n 3 (([d,j,o,g].drop 1).take (aG.cellsOf 3))=xs[1]?:=q 1 _ rfl;have f2:DataW.trod enc aG W 0 spare held n 9 (([d,j,o,g].drop 2).take (aG.cellsOf 9))=xs[2]?:=q 2 _ rfl;have f3:DataW.trod enc aG W 0 spare held n 22 (([d,j,o,g].drop 3).take (aG.cellsOf 22))=xs[3]?:=q 3 _ rfl;simp only[KE,KF,KG,List.drop,List.take]at f0 f1 f2 f3;rw[cl Ω]at f0 f1 f2 f3;obtain⟨k,v0,u,r0⟩:=Gq f0;obtain⟨m,v1,w,i⟩:=Gq f1;obtain⟨s,v2,v,z,f⟩:=SL f2;obtain⟨l,r,v3,y,e⟩:=IU bj.e bj.wf Tryz.underlying22 yR Ω (fun n' cs' A I E=>by obtain⟨t,t1,t2⟩:=F n' Ω cs' A E;exact⟨t,t1,by rw[bj.e_eq];exact BK t2⟩) f3
  simp only[JY,and_true]at u w z y;subst u w z y;cases l with
  |l a=>
   refine⟨.mk k m s a,?_,?_⟩
   ·simp only[bj.wf,bj.wfL_iff];exact⟨v,r⟩
   ·simp only[bL,bj.kind,bj.num,bj.name,bj.args];exact⟨_,_,rfl,⟨r0.1,r0.2.1⟩,_,_,rfl,⟨i.1,i.2.1⟩,_,_,rfl,⟨f.1,f.2.1⟩,_,_,rfl,⟨e.1,e.2.1⟩,rfl⟩
  |b p G c=>
   refine⟨.big k m s p G c,?_,?_⟩
   ·simp only[bj.wf];exact⟨v,r⟩
   ·simp only[bL,bj.kind,bj.num,bj.name,bj.args];exact⟨_,_,rfl,⟨r0.1,r0.2.1⟩,_,_,rfl,⟨i.1,i.2.1⟩,_,_,rfl,⟨f.1,f.2.1⟩,_,_,rfl,⟨e.1,e.2.1⟩,rfl⟩
end
end
section
open Go Go.Pv Go.ChangeShapes Go.WideShapes Go.ChangeAt Go.RowKit
def Sp:ownKnob aG.godebug=none:=ac
def IE:laidOutB aG=true:=ac
def KA{f:FuncId}{fn:Func}(q:aG.funcs[f]? =some fn)(p:∀args w,(callFunc f args).run aG w= .ok (.enter f args) w){w:World}{ν:aC}{args:List aa}{aJ:Array Value}(h:ct aG f args (.bool true))(d:∀k j b,¬ν.tr k j b)(m:∀b o,ν.A b o->b<w.heap.size)(i:∀k,ν.bx k=none)(ag:∀k,ν.ow k=none)(l:bT w ν args aJ.toList):
  Calls aG f aJ w fun e w'=>e= .returned (.bool true)/\Below w.heap.size w w':=by
 have aM:Pv.Good (dE ν ⟨[],[]⟩) w ν [] []:=⟨m,fun k cs U=>by simp[ab]at U,fun k aQ bl I=>by simp[ab]at I,fun g o U=>by simp[ab]at U,fun g s n n' v v' bl I=>by simp[ab]at I,fun g k n v bl I=>by simp[ab]at I,fun k=>.inl (i k),fun _ _ k j=>d k j _⟩;rcases h w ν aJ aM (fun k=>⟨fun _=>i k,fun _=>ag k,d k⟩) l with⟨_,aA⟩|⟨v,w',aA,_⟩
 ·refine aA.mono ?_;rintro e w' ⟨v,r,t,aI,rfl,⟨rfl,rfl⟩,c,_,_,_,a⟩;simp only[aw]at c;subst c;refine⟨rfl,a.os,a.tape,a.output,a.size,fun k U=>a.block k U ?_⟩;simp[dE,ab]
 ·rw[p]at aA;cases aA
def Lu{W:World}{b o:Nat}(h:(lN W).A b o):b<W.heap.size:=by
 obtain⟨u,hu⟩:=h;rcases Nat.lt_or_ge b W.heap.size with h|h
 ·exact h
 ·simp[World.cell?,Array.getElem?_eq_none h]at hu
def Sm{W:World}{b:List aa}{us:Array Value}(h:sE W (.agg b) us.toList):aw W (lN W) (.agg b) (.agg us):=by
 obtain⟨v,I,J,_⟩:=h;have a:=J;simp only[aw]at a;obtain⟨ws,rfl,_⟩:=a;have:ws=us:=by
  have:ws.toList=us.toList:=by simpa[jV]using I
  exact Array.toList_inj.1 this
 rw[<-this];exact J
def SZ{H:Type}{enc:ey×Value->H}{W:World}{spare:Nat->Bool}{held:Bool}{us:Array Value}{x:DataW H×List MemPlace}{fuel:Nat}(h:DataW.trod enc aG W 0 spare held fuel 24 us.toList=some x):∃t:bj,t.wf/\aw W (lN W) t.e (.agg us):=by obtain⟨t,I,J⟩:=Jg fuel _ x h;exact⟨t,I,by rw[bj.e_eq];exact Sm (BK J)⟩
end
section
open Go
def fB{a b:Bool}(I:a=true)(J:b=true):(a&&b)=true:=by rw[I,J];rfl
def KI:(gF.wf (OpenSpec.ofChange mX))=true:=ac
def KJ:(laidOutB aG)=true:=ac
def KU:(mapsRowed aG)=true:=ac
def K5:(hn.params.all (aG.readableRec ·))=true:=ac
def K8:(namedTie aG gF.named mX.vars)=true:=ac
def K9:((gF.stops==[]))=true:=ac
def La:((aG.stops==[]))=true:=ac
def Lb:((gF.knobs==[]))=true:=ac
def Lc:((aG.stopKnobs==[]))=true:=ac
def Ld:((gF.inPlace==aG.inPlace 3))=true:=ac
def KK:((gF.unfollowed==aG.unfollowed 3))=true:=ac
def KL:((gF.recurses==aG.recurses 3))=true:=ac
def KM:((gF.named==aG.varsNamed 3))=true:=ac
def KN:((gF.maps==(hn.params.toList++mX.plain.varTypes aG).any (aG.mapsRec ·)))=true:=ac
def KO:((gF.ifaces==(hn.params.toList++mX.plain.varTypes aG).any (aG.ifacesRec ·)))=true:=ac
def KP:((gF.mapsOut==aG.mapsAmong hn.resultTypes.toList))=true:=ac
def KQ:((gF.loops==(hn.params.toList++mX.plain.varTypes aG).any (aG.loopsFrom ·)))=true:=ac
def KR:((gF.wideKeys==(hn.params.toList++mX.plain.varTypes aG++hn.resultTypes.toList).any (aG.wideKeysFrom ·)))=true:=ac
def KS:(mX.vars.all (aG.varReadable ·))=true:=ac
def KT:(hn.resultTypes.all (fun t=>aG.readableRec t&&decide (t<aG.types.size)))=true:=ac
def KV:((gF.ifacesOut==hn.resultTypes.toList.any (aG.ifacesRec ·)))=true:=ac
def KW:((gF.loopsOut==hn.resultTypes.toList.any (aG.loopsFrom ·)))=true:=ac
def KX:((gF.plainKeys==aG.plainKeys))=true:=ac
def KY:(gF.shortTexts.isNone)=true:=ac
def KZ:(aG.stopsHeard)=true:=ac
def K0:(aG.mayEnter)=true:=ac
def K1:((gF.lifted==aG.liftsFinal))=true:=ac
def K2:((aG.make==some gF.make))=true:=ac
def K3:((gF.kinds==(if gF.domain.isEmpty then []else hn.params.toList.map fun t=>match aG.underlying t with|some (.int k)=>some k|_=>none)))=true:=ac
def K4:((gF.pinned==gF.pinnedBy))=true:=ac
def K6:((gF.veiled==(hn.params.toList++mX.plain.varTypes aG++hn.resultTypes.toList).any (aG.veiledRec ·)))=true:=ac
def K7:(gF.veiledFits aG hn.params.toList (hn.params.toList++mX.plain.varTypes aG++hn.resultTypes.toList))=true:=ac
set_option maxRecDepth 100000 in
def Le:joinedFacts aG 3 hn mX gF=true:=(fB (fB (fB (fB (fB (fB (fB (fB (fB (fB (fB (fB (fB (fB (fB (fB (fB (fB (fB (fB (fB (fB (fB (fB (fB (fB (fB (fB (fB (fB (fB KI KJ) KU) K5) K8) K9) La) Lb) Lc) Ld) KK) KL) KM) KN) KO) KP) KQ) KR) KS) KT) KV) KW) KX) KY) KZ) K0) K1) K2) K3) K4) K6) K7)
end
end Go.Proofs.YtahlgcidhnjlbaaGreat
namespace Go.Pv
section
open Go Go.RowKit
def uO{ε:Nat->Nat}{b sz:Nat}{t:hI}:∀{xs:List aa},xs≠[]->cO ε b (.slice sz t xs)=(.obj b,⟨xs.length,ε b,sz,some (fq (b+1) xs)⟩)::eH ε (b+1) xs
 |[],h=>absurd rfl h
 |_::_,_=>rfl
def Ev{b sz:Nat}{t:hI}:∀{xs:List aa},xs≠[]->ef b (.slice sz t xs)= .row sz (.obj b) xs.length
 |[],h=>absurd rfl h
 |_::_,_=>rfl
def Ew{b sz:Nat}{t:hI}:∀{xs ys:List aa},xs.length=ys.length->ef b (.slice sz t xs)=ef b (.slice sz t ys)
 |[],[],_=>rfl
 |[],_::_,h=>by simp at h
 |_::_,[],h=>by simp at h
 |_::xs,_::ys,h=>by simp only[ef];simp at h;rw[h]
def Eu{b:Nat}{l r:List aa}{x:aa}{i:Nat}(az:l.length=i):(fq b (l++x::r))[i]? =some (ef (b+ch l) x):=by subst az;rw[vJ,List.getElem?_append_right (by rw[pf];exact di _)];simp[pf,fq]
def Lr{b:Nat}{l r:List aa}{x a:aa}{i:Nat}(az:l.length=i)(aA:bS a=bS x):(fq b (l++x::r)).set i (ef (b+ch l) a)=fq b (l++a::r):=by subst az;rw[vJ,vJ,List.set_append_right _ _ (by rw[pf];exact di _)];simp[pf,fq,aA]
def Hf(bZ:Int->List cF)(l:List aa)(x:aa)(k:Int):bI bZ (l++[x]) k=((bI bZ l k).1++[(cA bZ x (bI bZ l k).2).1],(cA bZ x (bI bZ l k).2).2):=by rw[xk];simp[bI]
def QM(bZ:Int->List cF)(l:List aa)(k:Int)(i:Nat):(bI bZ (l.take i) k).2<=(bI bZ l k).2:=by have h:=xk bZ (l.take i) (l.drop i) k;rw[List.take_append_drop]at h;rw[h];exact oR bZ _ _
def jc(bZ:Int->List cF)(l:List aa)(k:Int)(i:Nat):List aa:=(bI bZ (l.take i) k).1++l.drop i
def QK(bZ:Int->List cF)(l:List aa)(k:Int):jc bZ l k 0=l:=by simp[jc,bI]
def A6(bZ:Int->List cF)(l:List aa)(k:Int):jc bZ l k l.length=(bI bZ l k).1:=by simp[jc]
def uo(bZ:Int->List cF)(l:List aa)(k:Int)(i:Nat):(jc bZ l k i).length=l.length:=by simp[jc,oS];omega
def QH(bZ:Int->List cF)(l:List aa)(k:Int)(i:Nat):ch (jc bZ l k i)=ch l:=by unfold jc;rw[yT,pd,<-yT,List.take_append_drop]
def QI(bZ:Int->List cF){l:List aa}(k:Int)(i:Nat)(h:ea l):ea (jc bZ l k i):=by rw[<-List.take_append_drop i l,y3]at h;unfold jc;rw[y3];exact⟨rC bZ _ _ h.1,h.2⟩
def QG(bZ:Int->List cF){l:List aa}(k:Int){i:Nat}{x:aa}(h:l[i]? =some x):jc bZ l k i=(bI bZ (l.take i) k).1++x::l.drop (i+1):=by unfold jc;congr 1;obtain⟨az,e⟩:=eQ.1 h;rw[l9 az,e]
def QJ(bZ:Int->List cF){l:List aa}(k:Int){i:Nat}{x:aa}(h:l[i]? =some x):jc bZ l k (i+1)=(bI bZ (l.take i) k).1++(cA bZ x (bI bZ (l.take i) k).2).1::l.drop (i+1):=by
 unfold jc;have:l.take (i+1)=l.take i++[x]:=by rw[List.take_add_one,h];rfl
 rw[this,Hf];simp
def QQ(bZ:Int->List cF){l:List aa}(k:Int){i:Nat}{x:aa}(h:l[i]? =some x):(bI bZ l k).1=(bI bZ (l.take i) k).1++(cA bZ x (bI bZ (l.take i) k).2).1::(bI bZ (l.drop (i+1)) (cA bZ x (bI bZ (l.take i) k).2).2).1:=by
 obtain⟨az,e⟩:=eQ.1 h;have I:l=l.take i++x::l.drop (i+1):=by rw[<-e,<-l9 az,List.take_append_drop]
 have J:=xk bZ (l.take i) (x::l.drop (i+1)) k;rw[<-I]at J;rw[J];simp only[bI]
def QL(bZ:Int->List cF){l:List aa}(k:Int){i:Nat}{x:aa}(h:l[i]? =some x):(bI bZ (l.take (i+1)) k).2=(cA bZ x (bI bZ (l.take i) k).2).2:=by
 have:l.take (i+1)=l.take i++[x]:=by rw[List.take_add_one,h];rfl
 rw[this,Hf]
def A7(bZ:Int->List cF):∀{xs:List aa} (k:Int),(∀x∈xs,∃b a cs,x= .agg (.int b a::cs))->k+xs.length<=(bI bZ xs k).2
 |[],k,_=>by simp[bI]
 |x::xs,k,h=>by
  obtain⟨b,a,cs,rfl⟩:=h x Ψ;have I:=A7 bZ (xs:=xs) (cA bZ (.agg (.int b a::cs)) k).2 fun y c=>h y (by simp[c]);have J:k+1<=(cA bZ (.agg (.int b a::cs)) k).2:=by simp only[cA,bI];exact oR bZ cs (k+1)
  simp only[bI,jX];omega
def Em:∀{l:List aa},ea l↔∀x∈l,b6 x
 |[]=>by simp[ea]
 |x::l=>by simp[ea,Em (l:=l)]
def rA{sz:Nat}{t:hI}:∀{xs ys:List aa},xs.length=ys.length->ch xs=ch ys->bS (.slice sz t xs)=bS (.slice sz t ys)
 |[],[],_,_=>rfl
 |[],_::_,h,_=>by simp at h
 |_::_,[],h,_=>by simp at h
 |_::_,_::_,_,h=>by simp only[bS,ch]at h⊢;omega
@[simp]def I1{b sz:Nat}{t:hI}:∀{xs:List aa},bE (ef b (.slice sz t xs))=ef b (.slice sz t xs)
 |[]=>rfl
 |_::_=>rfl
@[simp]def WJ{ε:Nat->Nat}{b m:Nat}{p:aa}(x:cw):((ar.loc m,x)∈cO ε b p)=c1:=eq_false fun h=>by have:=pP h;rw[(CR ε b p).2 m]at this;cases this
def fc.to{ε:Nat->Nat}{b:Nat}{p a:aa}{st:aN}{t':List (Nat×aa)}(e:b6 p)(aA:bS p=bS a)(c:∀x∈t',get x.1 st.t=x.2/\aR (rng b (b+bS a)) x.2)(he:∀k o,ab k (cO ε b p)=some o->ab k st.e=some o):
  fc (b2 (eK ε b a)) st ⟨t',[],cO ε b p,0,b2 (eK ε b a)⟩:=by
 have hx:∀k,rng b (b+bS a) k->¬fresh 0 (b2 (eK ε b a)) k:=fun k U f=>f.2 (Ka.2 U);refine⟨fun x d=>⟨(c x d).1,oN hx _ (c x d).2⟩,fun k cs U=>by simp[ab]at U,fun k o U=>⟨he k o U,hx k ?_,uj hx ?_⟩,fun m hm=>hm⟩
 ·rw[<-aA];exact nH ε p b k o U
 ·rw[<-aA];exact AS p b e k o U
def Hg(bZ:Int->List cF){l:List aa}(k:Int){i:Nat}(az:i<l.length):∃x,l[i]? =some x/\x∈l/\k<=(bI bZ (l.take i) k).2/\(cA bZ x (bI bZ (l.take i) k).2).2<=(bI bZ l k).2/\(bI bZ (l.take (i+1)) k).2=(cA bZ x (bI bZ (l.take i) k).2).2/\(bI bZ (l.take i) k).1.length=i:=by have h:l[i]? =some l[i]:=cl az;have e:=QL bZ k h;have J:=QM bZ l k (i+1);rw[e]at J;exact⟨_,h,mY h,oR _ _ _,J,e,by rw[oS];simp;omega⟩
def CallDo.subR{P:bp}{n:Nat}{args:List aa}{st:aN}{d:aT Nat}{K:aN->Prop}{ε:Nat->Nat}{b:Nat}{l r:List aa}{y y' c:aa}{O:cw}(q:b6 y)(aA:bS y'=bS y)
  (s:cf P n args (eK ε (b+1+ch l) y) fun g p=>g=c/\p=eK ε (b+1+ch l) y') {Z:List aa} (t:Z=l++y::r) (he:st.e=(.obj b,O)::eH ε (b+1) Z) (U:aV (rng (b+1+ch l) (b+1+ch l+bS y)) args)
  (h:∀a,ab (.obj b) a=some O->(∀k o,ab k (eH ε (b+1) (l++y'::r))=some o->ab k a=some o)->K ⟨dH d c st.t,st.b,a,st.n,st.o++b2 (eK ε (b+1+ch l) y')⟩):CallDo P n args st d K:=by
 subst t;refine CallDo.sub q aA s (fun k o U=>?_) U fun a j hu=>h a ?_ j
 ·obtain⟨m,rfl,f,i⟩:=se _ _ _ _ _ U;rw[he];simp only[ab];rw[bH (by simp;omega)];exact U
 ·rw[hu (.obj b) (fun⟨m,e,f,i⟩=>by cases e;omega),he];simp[ab]
end
end Go.Pv
namespace Go.Proofs.YtahlgcidhnjlbaaGreat
section
open Go Go.Pv
def DE:C:=(al [ed 2 0,cp 4 0] (al [bu 5 3 1 2,bh 6 1 5,ae 7 1,c8 8 24 6 7,ae 1 8] (al [ae 9 1,ae 4 9] .ret)))
def yK:C:=(al [cp 4 0] (.seq (al [cp 5 0] (.block 0 (.loop (.seq (al [ae 6 5,ae 7 0,eu 8 7,bV 9 .lss 6 8] (bz 9 .skip (.exit 0))) (.seq (.block 1 (al [ae 12 0,ae 13 5,ae 14 1,eO 15 4 12 13,bu 16 0 1 15,cZ 1 16 14] (al [ae 17 1,br 18 .add 17 1,ae 1 18] (al [ae 19 0,ae 20 5,ae 21 1,eO 22 4 19 20,bu 23 1 1 22,cZ 1 23 21] (al [ae 24 1,br 25 .add 24 1,ae 1 25] (al [ae 26 0,ae 27 5,ae 28 1,eJ 29 71 28,eO 30 4 26 27,bu 31 2 1 30,cZ 1 31 29] (al [ae 32 1,br 33 .add 32 1,ae 1 33] (.region [ae 34 0,ae 35 5,eO 36 4 34 35,bu 37 3 1 36,bh 38 1 37,ae 39 1,c8 40 24 38 39,ae 1 40])))))))) (.region [ae 10 5,br 11 .add 10 1,ae 5 11])))))) (al [ae 41 1,ae 4 41] .ret)))
def yJ:C:=(al [cp 4 0] (.seq (al [cp 5 0] (.block 0 (.loop (.seq (al [ae 6 5,ae 7 0,eu 8 7,bV 9 .lss 6 8] (bz 9 .skip (.exit 0))) (.seq (.block 1 (.seq (al [ae 12 0,ae 13 5,eO 14 4 12 13,bu 15 0 1 14,bh 16 1 15,ae 17 1,bV 18 .neq 16 17] (bz 18 (al [cp 4 (-1)] .ret) .skip)) (al [ae 19 1,br 20 .add 19 1,ae 1 20] (.seq (al [ae 21 0,ae 22 5,eO 23 4 21 22,bu 24 1 1 23,bh 25 1 24,ae 26 1,bV 27 .neq 25 26] (bz 27 (al [cp 4 (-1)] .ret) .skip)) (al [ae 28 1,br 29 .add 28 1,ae 1 29] (.seq (.seq (.drawn true 50 [ae 30 0,ae 31 5,eO 32 4 30 31,bu 33 2 1 32,bh 34 1 33,ae 35 1,eJ 36 71 35,bV 37 .neq 34 36]) (bz 37 (al [cp 4 (-1)] .ret) .skip)) (al [ae 38 1,br 39 .add 38 1,ae 1 39] (al [ae 40 0,ae 41 5,eO 42 4 40 41,bu 43 3 1 42,bh 44 1 43,ae 45 1,c8 46 25 44 45,ae 1 46] (al [ae 47 1,br 48 .lss 47 0] (bz 48 (al [cp 4 (-1)] .ret) .skip)))))))))) (.region [ae 10 5,br 11 .add 10 1,ae 5 11])))))) (al [ae 49 1,ae 4 49] .ret)))
def yL:C:=(al [cd 2 (.mov (.c (.str [])))] (.seq (al [ae 4 0,br 5 .leq 4 0] (bz 5 (al [cd 2 (.mov (.c (.str [109,48])))] .ret) .skip)) (al [cd 3 (.mov (.c (.str [])))] (.seq (.block 0 (.loop (.seq (al [ae 6 0,br 7 .gtr 6 0] (bz 7 .skip (.exit 0))) (.block 1 (al [ae 8 0,br 9 .rem 8 10,cd 10 (.bin .add false (fI 48) (.t 9)),cd 11 (.conv .u8 (.t 10)),gN 12 1 5 [.t 11],cd 13 (.b2s (.t 12)),ae 14 3,bV 15 .add 13 14,ae 3 15] (.region [ae 16 0,br 17 .quo 16 10,ae 0 17])))))) (al [ae 18 3,cd 19 (.bin .add false (.c (.str [109])) (.t 18)),ae 2 19] .ret)))))
def Rt:cJ aE DE [.tmp 4] 2 Tryz.f23=true:=ac
def Hr:cJ aE yK [.tmp 4] 2 Tryz.f24=true:=ac
def Hq:cJ aE yJ [.tmp 4] 2 Tryz.f25=true:=ac
def Hs:cJ aE yL [.tmp 2] 1 Tryz.f71=true:=ac
def qP:Nat->Int->List cF->List cF
 |0,_,o=>o
 |f+1,k,o=>if k<=0 then o else qP f (k/10) (UInt8.ofNat (IntKind.u8.wrap (48+k.tmod 10)).toNat::o)
def cB(k:Int):List cF:=if k<=0 then [109,48]else 109::qP k.toNat k []
def JG(k:Int)(U:k<=4611686018427387904):ct aG 71 [aB k] (.str (cB k)):=by
 by_cases c:k<=0
 ·rw[cB,if_pos c];refine cb bC Tryz.func71 Hs fun m=>?_;unfold yL;exact eA
 rw[cB,bH c];refine cb bC Tryz.func71 Hs fun m=>?_;unfold yL;simp;(repeat' first|refine aS ?_|simp[c]);refine lg (fun(x:Int×List cF)=>⟨[(0,aB x.1),(3,.str x.2)],[],[],0,[]⟩) (fun x=>x.1.toNat) (fun x=>0<=x.1/\x.1<=4611686018427387904/\x.1.toNat*10 ^ x.2.length<=4611686018427387904/\x.2.length<=19/\∃f:Nat,x.1<=f/\qP f x.1 x.2=qP k.toNat k []) (k,[]) dh ⟨Ω,U,by simp;omega,Ψ,k.toNat,by simp;omega,rfl⟩ ?_;rintro⟨j,o⟩ ⟨I,J,n,i,f,q,a⟩ _;simp only at I J n i q a;by_cases g:0<j
 ·have r:o.length<=18:=by
   rcases Nat.lt_or_ge 18 o.length with h|h
   ·have e:10 ^ 19<=10 ^ o.length:=Nat.pow_le_pow_right Ω Ω;have d:1*10 ^ o.length<=j.toNat*10 ^ o.length:=kv _ Ω;omega
   ·exact h
  have p:j.tdiv 10=j/10:=Int.tdiv_eq_ediv_of_nonneg I;have hm:j.tmod 10=j%10:=Int.tmod_eq_emod_of_nonneg I;have hw:nW.wrap (j.tdiv 10)=j/10:=by rw[p];exact IntWalk.i64_in _ Ω
  simp[g];(repeat' first|refine aS ?_|simp);all_goals first|(refine⟨by unfold r3;omega,by unfold cH;omega,?_⟩)|skip
  rw[hw];obtain⟨b,rfl⟩:∃b,f=b+1:=⟨f-1,Ω⟩;refine cP.whl (j/10,UInt8.ofNat (IntKind.u8.wrap (48+j.tmod 10)).toNat::o) (by simp;omega) ⟨by simp;omega,by simp;omega,?_,by simp;omega,b,by simp;omega,?_⟩ dh
  ·simp only[jX,Nat.pow_succ];have e:(j/10).toNat*10<=j.toNat:=Ω
   have d:=kv (10 ^ o.length) e;rw[Nat.mul_assoc,Nat.mul_comm 10]at d;omega
  ·rw[<-a];simp only[qP];rw[bH Ω]
 ·simp[g];(repeat' first|refine aS ?_|simp);all_goals try refine⟨by unfold cH;omega,?_⟩
  have l:qP f j o=o:=by cases f<;>simp[qP];omega
  rw[l]at a;rw[<-a];simp[b3,bq,bD,ba]
def fY.dt':∀(n:Nat),(∀p,sM p<=n->fY p->b6 p)/\(∀c,jw c<=n->(∀p∈c,fY p)->ea c)
 |0=>by
  refine⟨fun p d h=>?_,fun c d h=>?_⟩
  ·obtain⟨a,b,s,ys,_,_,e⟩:=h.inv;omega
  ·cases c with
   |nil=>simp[ea]
   |cons p c=>obtain⟨a,b,s,ys,_,_,e⟩:=(h p Ψ).inv;simp only[jw]at d;omega
 |n+1=>by
  obtain⟨_,g⟩:=fY.dt' n;have I:∀p,sM p<=n+1->fY p->b6 p:=fun p d h=>by obtain⟨a,b,s,ys,rfl,i,e⟩:=h.inv;simp only[b6,ea,true_and,and_true];exact⟨Ω,g ys Ω i⟩
  refine⟨I,fun c d h=>Em.2 fun x f=>I x ?_ (h x f)⟩;have:=yc f;omega
def fY.dtL{a:List aa}(h:∀p∈a,fY p):ea a:=(fY.dt' _).2 a (di _) h
def tl(c:Nat)(a bG:Int)(s:List cF)(t:hI)(ys:List aa):ef c (.agg [aB a,aB bG,.str s,.slice 4 t ys])= .agg [aB a,aB bG,.str s,ef c (.slice 4 t ys)]:=rfl
def Hh(bZ:Int->List cF)(a bG:Int)(s:List cF)(t:hI)(ys:List aa)(k:Int):cA bZ (.agg [aB a,aB bG,.str s,.slice 4 t ys]) k=(.agg [aB k,aB (k+1),.str (bZ (k+1+1)),.slice 4 t (bI bZ ys (k+1+1+1)).1],(bI bZ ys (k+1+1+1)).2):=by simp[cA,bI]
def BX(ε:Nat->Nat)(c:Nat)(a bG:Int)(s:List cF)(t:hI)(ys:List aa):cO ε c (.agg [aB a,aB bG,.str s,.slice 4 t ys])=cO ε c (.slice 4 t ys):=by show []++([]++([]++(cO ε (c+0+0+0) (.slice 4 t ys)++[])))=_;simp
def pc(a bG:Int)(s:List cF)(t:hI)(ys:List aa):bS (.agg [aB a,aB bG,.str s,.slice 4 t ys])=bS (.slice 4 t ys):=by show 0+(0+(0+(bS (.slice 4 t ys)+0)))=_;omega
def Tw(k:Int):ct aG 24 [b8 [],aB k] (aB k):=by refine cb bC Tryz.func24 Hr fun a=>?_;unfold yK;simp;(repeat' first|refine aS ?_|simp);refine kG (fun i (_:Unit)=>⟨[(0,b8 []),(1,aB k),(5,aB i)],[],[],0,[]⟩) 0 (fun _ _=>True) () dh trivial (fun _ _ _=>?_) (fun i _ az _ _=>Ω);exact eA
def E7(k:Int)(b:Nat)(ε:Nat->Nat):cf aG 24 [ef b (b8 []),aB k] (eK ε b (b8 [])) fun r a=>r=aB k/\a=eK ε b (b8 []):=Tw k
def Tk(k:Int):ct aG 25 [b8 [],aB k] (aB k):=by refine cb bC Tryz.func25 Hq fun a=>?_;unfold yJ;simp;(repeat' first|refine aS ?_|simp);refine kG (fun i (_:Unit)=>⟨[(0,b8 []),(1,aB k),(5,aB i)],[],[],0,[]⟩) 0 (fun _ _=>True) () dh trivial (fun _ _ _=>?_) (fun i _ az _ _=>Ω);exact eA
def E5(k:Int)(b:Nat)(ε:Nat->Nat):cf aG 25 [ef b (b8 []),aB k] (eK ε b (b8 [])) fun r a=>r=aB k/\a=eK ε b (b8 []):=Tk k
def zt:∀(n:Nat) (xs:List aa),jw xs<=n->(∀x∈xs,fY x)->∀(k:Int) (b:Nat) (ε:Nat->Nat),0<=k->(bI cB xs k).2<=4611686018427387904->
  cf aG 24 [ef b (b8 xs),aB k] (eK ε b (b8 xs)) fun r ak=>r=aB (bI cB xs k).2/\ak=eK ε b (b8 (bI cB xs k).1):=by
 intro n;induction n with
 |zero=>
  intro xs N g k b ε Z U;cases xs with
  |nil=>exact E7 k b ε
  |cons x xs=>obtain⟨a,bG,s,ys,_,_,e⟩:=(g x Ψ).inv;simp only[jw]at N;omega
 |succ n bF=>
 intro xs N g k b ε Z U;have O:ea xs:=fY.dtL g;have aj:eB (eK ε b (b8 xs)):=qd (by simp[b6,O]);by_cases m:xs=[]
 ·subst m;exact E7 k b ε
 have qx:(bI cB (xs.take 0) k).2=k:=by simp[bI]
 refine cf.mk mixed bC Tryz.func24 Hr Ψ aj.obj fun bm eo=>?_;unfold yK;rw[Ev m];simp;(repeat' first|refine aS ?_|simp);have q:∀i,bS (b8 (jc cB xs k i))=bS (b8 xs):=fun i=>rA (uo ..) (QH ..);have t:∀i,b6 (b8 (jc cB xs k i)):=fun i=>by simp only[b6];exact⟨Ω,QI _ _ _ O⟩
 have G:rng b (b+bS (b8 xs)) (.obj b):=⟨b,rfl,di _,by cases xs with|nil=>exact absurd rfl m|cons x xs=>simp only[bS];omega⟩;have z7:=A7 cB (xs:=xs) k fun x h=>by obtain⟨a,bG,s,ys,rfl,_⟩:=(g x h).inv;exact⟨_,_,_,rfl⟩
 have Vs:∀i,jc cB xs k i≠[]:=fun i e=>m (List.length_eq_zero_iff.1 (by rw[<-uo cB xs k i,e];rfl));refine kG (fun i (_:Unit)=>⟨[(0,.row 4 (.obj b) xs.length),(1,aB (bI cB (xs.take i) k).2),(5,aB i)],[],cO ε b (b8 (jc cB xs k i)),0,b2 (eK ε b (b8 xs))⟩) xs.length (fun _ _=>True) () ?_ trivial (fun _ _ _=>?_) (fun i _ az _ _=>?_)
 ·refine fc.to (t _) (q _) ?_ (fun k o h=>by rw[QK]at h;exact h);simp[aR,G,bI]
 ·rw[A6,List.take_length];simp;(repeat' first|refine aS ?_|simp);refine eX.at (eK ε b (b8 (bI cB xs k).1)) Ψ (qd (by rw[<-A6];exact t _)) (rq (by rw[<-A6];exact q _)) (fun k cs h=>by simp[ab]at h) (fun k o h=>h) ?_;simp[fZ,bq,bD,ba]
 ·obtain⟨x,F,hm,I,J,p,v⟩:=Hg cB k az;have f:=QG cB k F;have c:=QJ cB k F;have S:=fun(t':List (Nat×aa)) (st:aN)=>fc.to (t':=t') (st:=st) (ε:=ε) (b:=b) (t (i+1)) (q (i+1));have hlen:((bI cB (xs.take i) k).1++x::xs.drop (i+1)).length=xs.length:=by rw[<-f];exact uo ..
  rw[f,uO (xs:=_++x::_) Ψ,hlen];generalize kM:(bI cB (xs.take i) k).1=M at v f c⊢;generalize cL:(bI cB (xs.take i) k).2=K at p c I J⊢;generalize cR:xs.drop (i+1)=R at f c⊢;obtain⟨a,bG,s,ys,rfl,B,Py⟩:=(g x hm).inv;have d:=Eu (b:=b+1) (r:=R) (x:= .agg [aB a,aB bG,.str s,b8 ys]) v;have u:(fq (b+1) (M++ .agg [aB a,aB bG,.str s,b8 ys]::R)).length=xs.length:=by rw[pf,<-f];exact uo ..
  rw[tl]at d;rw[Hh]at p c J;generalize L:ef (b+1+ch M) (b8 ys)=E at d;generalize V:fq (b+1) (M++ .agg [aB a,aB bG,.str s,b8 ys]::R)=X at d u⊢;have W:K+1+1+1<=(bI cB ys (K+1+1+1)).2:=oR ..;simp only at J;have H:=JG (K+1+1) Ω;have z:∀h,(X[i]'h)= .agg [aB a,aB bG,.str s,E]:=fun h=>by rw[cl h]at d;exact jg d
  clear d;simp[az,z,u];(repeat' first|refine aS ?_|refine be H ?_|refine bf H ?_|simp[z,u,az]);have A:ea ys:=fY.dtL B;have P:=bF ys (by have:=yc hm;omega) B (K+1+1+1) (b+1+ch M) ε Ω Ω;have j:(bI cB ys (K+1+1+1)).1.length=ys.length:=oS ..;have w:ch (bI cB ys (K+1+1+1)).1=ch ys:=pd ..;generalize bI cB ys (K+1+1+1)=Q at j w P p c J W;have Y:bE E=E:=by rw[<-L];exact I1
  rw[Y];subst L;refine CallDo.subR (ε:=ε) (b:=b) (l:=M) (r:=R) (y:= .agg [aB a,aB bG,.str s,b8 ys]) (y':= .agg [aB K,aB (K+1),.str (cB (K+1+1)),b8 Q.1]) (by simp[b6,ea,A]) (by rw[pc,pc];exact rA j w) (by simp only[eK,BX];exact P) rfl rfl ?_ (fun ek AA ao=>?_)
  ·rw[pc];simp only[aV,aR,and_true];exact qM _ _ (by simp only[b6];exact⟨Ω,A⟩)
  ·skip;simp;(repeat' first|refine aS ?_|simp);refine cP.rng () az ?_ ?_
   ·trivial
   rw[show(bI cB (xs.take (i+1)) k).2=Q.2 from p];refine S _ _ (by simp[aR,G]) fun k o h=>?_;rw[c,uO Ψ]at h;simp only[ab]at h;split at h
   ·rename_i e;subst e;rw[AA,<-h,<-V,<-Ew j,<-tl (b+1+ch M) K (K+1) (cB (K+1+1)),Lr v (by rw[pc,pc];exact rA j w),<-uo cB xs k (i+1),c]
   ·exact ao k o h
def NC:∀(n:Nat) (xs:List aa),jw xs<=n->(∀x∈xs,fY x)->∀(k:Int) (b:Nat) (ε:Nat->Nat),0<=k->(bI cB xs k).2<=4611686018427387904->
  cf aG 25 [ef b (b8 (bI cB xs k).1),aB k] (eK ε b (b8 (bI cB xs k).1)) fun r ak=>r=aB (bI cB xs k).2/\ak=eK ε b (b8 (bI cB xs k).1):=by
 intro n;induction n with
 |zero=>
  intro xs L j k b ε bg U;cases xs with
  |nil=>exact E5 k b ε
  |cons x xs=>obtain⟨a,bG,s,ys,_,_,e⟩:=(j x Ψ).inv;simp only[jw]at L;omega
 |succ n bF=>
 intro xs L j k b ε bg U;have aL:ea (bI cB xs k).1:=rC _ _ _ (fY.dtL j);have A:b6 (b8 (bI cB xs k).1):=by simp only[b6];exact⟨Ω,aL⟩
 have P:eB (eK ε b (b8 (bI cB xs k).1)):=qd A;by_cases N:xs=[]
 ·subst N;exact E5 k b ε
 have g:(bI cB xs k).1.length=xs.length:=oS ..;have f:(bI cB xs k).1≠[]:=fun e=>N (List.length_eq_zero_iff.1 (by rw[<-g,e];rfl));have z7:=A7 cB (xs:=xs) k fun x h=>by obtain⟨a,bG,s,ys,rfl,_⟩:=(j x h).inv;exact⟨_,_,_,rfl⟩
 have G:rng b (b+bS (b8 (bI cB xs k).1)) (.obj b):=⟨b,rfl,di _,by revert f;cases (bI cB xs k).1 with|nil=>exact fun h=>absurd rfl h|cons x xs=>intro _;simp only[bS];omega⟩;have w:=fun(t':List (Nat×aa)) (st:aN)=>fc.to (t':=t') (st:=st) (ε:=ε) (b:=b) A rfl;refine cf.mk mixed bC Tryz.func25 Hq Ψ P.obj fun bm eo=>?_;unfold yJ;rw[Ev f,g];simp;(repeat' first|refine aS ?_|simp);refine kG (fun i (_:Unit)=>⟨[(0,.row 4 (.obj b) xs.length),(1,aB (bI cB (xs.take i) k).2),(5,aB i)],[],cO ε b (b8 (bI cB xs k).1),0,b2 (eK ε b (b8 (bI cB xs k).1))⟩) xs.length (fun _ _=>True) () ?_ trivial (fun _ _ _=>?_) (fun i _ az _ _=>?_)
 ·refine w _ _ ?_ (fun k o h=>h);simp[aR,G,bI]
 ·rw[List.take_length];simp;(repeat' first|refine aS ?_|simp);refine eX.at (eK ε b (b8 (bI cB xs k).1)) Ψ P (rq rfl) (fun k cs h=>by simp[ab]at h) (fun k o h=>h) ?_;simp[fZ,bq,bD,ba]
 ·obtain⟨x,hO,hm,I,J,p,B⟩:=Hg cB k az;have c:=QQ cB k hO;generalize rK:(bI cB xs k).1=Y at*;have m:=uO (ε:=ε) (b:=b) (sz:=4) (t:= .no) f;rw[g]at m;rw[m];generalize kM:(bI cB (xs.take i) k).1=M at B c;generalize cL:(bI cB (xs.take i) k).2=K at p c I J⊢;obtain⟨a,bG,s,ys,rfl,F,Py⟩:=(j x hm).inv;rw[Hh]at p c J;simp only at J;generalize (bI cB (xs.drop (i+1)) _).1=R at c;have d:=Eu (b:=b+1) (r:=R) (x:= .agg [aB K,aB (K+1),.str (cB (K+1+1)),b8 (bI cB ys (K+1+1+1)).1]) B;rw[<-c,tl]at d;have q:(fq (b+1) Y).length=xs.length:=by rw[pf,g]
  generalize v:ef (b+1+ch M) (b8 (bI cB ys (K+1+1+1)).1)=E at d;generalize W:fq (b+1) Y=X at d q m⊢;have Z:K+1+1+1<=(bI cB ys (K+1+1+1)).2:=oR ..;have H:=JG (K+1+1) Ω;have z:∀h,(X[i]'h)= .agg [aB K,aB (K+1),.str (cB (K+1+1)),E]:=fun h=>by rw[cl h]at d;exact jg d
  clear d;have S:=bF ys (by have:=yc hm;omega) F (K+1+1+1) (b+1+ch M) ε Ω Ω;have u:ea (bI cB ys (K+1+1+1)).1:=rC _ _ _ (fY.dtL F);generalize bI cB ys (K+1+1+1)=Q at u v S p c J Z;simp[az,z,q];(repeat' first|refine aS ?_|refine be H ?_|refine bf H ?_|simp[z,q,az]);have iV:bE E=E:=by rw[<-v];exact I1
  rw[iV];subst v;refine CallDo.subR (ε:=ε) (b:=b) (l:=M) (r:=R) (y:= .agg [aB K,aB (K+1),.str (cB (K+1+1)),b8 Q.1]) (y':= .agg [aB K,aB (K+1),.str (cB (K+1+1)),b8 Q.1]) (by simp[b6,ea,u]) rfl (by simp only[eK,BX];exact S) c rfl ?_ (fun ek AA O=>?_)
  ·rw[pc];simp only[aV,aR,and_true];exact qM _ _ (by simp only[b6];exact⟨Ω,u⟩)
  ·skip;have V:¬(Q.2<0):=Ω
   simp[V];(repeat' first|refine aS ?_|simp[V]);refine cP.rng () az ?_ ?_
   ·trivial
   rw[show(bI cB (xs.take (i+1)) k).2=Q.2 from p];have O8:ar.obj b::(eH ε (b+1) Y).map (fun x=>x.1)=b2 (eK ε b (b8 Y)):=by simp[uO f]
   rw[O8,<-m];refine w _ _ ?_ (fun k o h=>?_)
   ·simp[aR,G]
   rw[uO f,g,W]at h;simp only[ab]at h;split at h
   ·rename_i e;subst e;rw[AA,<-h]
   ·rw[<-c]at O;exact O k o h
def NG(a bG:Int)(s:List cF)(ys:List aa)(i:∀y∈ys,fY y)(k:Int)(b:Nat)(ε:Nat->Nat)(m:0<=k)(U:(bI cB ys k).2<=4611686018427387904):
  cf aG 23 [ef b (.agg [aB a,aB bG,.str s,b8 ys]),aB k] (eK ε b (.agg [aB a,aB bG,.str s,b8 ys])) fun r f=>r=aB (bI cB ys k).2/\f=eK ε b (.agg [aB a,aB bG,.str s,b8 (bI cB ys k).1]):=by
 have l:ea ys:=fY.dtL i;have d:b6 (b8 ys):=by simp only[b6];exact⟨Ω,l⟩
 have e:b6 (b8 (bI cB ys k).1):=y6 cB (b8 ys) k d;have j:=zt _ ys (di _) i k b ε m U;have c:bS (b8 (bI cB ys k).1)=bS (b8 ys):=rA (oS ..) (pd ..);simp only[eK,BX];rw[tl];have g:eB (eK ε b (b8 ys)):=qd d;generalize bI cB ys k=Q at j c e;refine cf.mk mixed bC Tryz.func23 Rt Ψ g.obj fun p n=>?_;unfold DE;simp;(repeat' first|refine aS ?_|simp);refine CallDo.ob j g (fun k cs h=>by simp[ab]at h) (fun k o h=>?_) ?_ ?_
 ·exact h
 ·simp only[aV,and_true];exact⟨Kb d,by simp[aR]⟩
 rintro r f ⟨rfl,rfl⟩;refine⟨rq c,?_⟩;simp;(repeat' first|refine aS ?_|simp);refine eX.at (eK ε b (b8 Q.1)) Ψ (qd e) (rq c) (fun k cs h=>by simp[ab]at h) (fun k o h=>?_) ?_
 ·rw[jz];exact h
 simp[fZ,bq,bD,ba]
def DP:C:=(al [dg 2 false] (.seq (al [ae 5 0,eu 6 5,cp 7 0] (mW 8 7 6 (.seq (.block 1 (al [ae 9 7,eO 10 4 5 7,bP 11 4 10,fM 4 e0,ae 3 9,cZ 4 4 11] (.seq (.drawn true 33 [bP 12 4 4,eJ 13 99 12,gU 14 13,ae 15 14,dc 15 false 16 3,bk 15 false (br 17 .gtr 16 0),dc 15 false 18 17,dc 18 true 19 0,dc 18 true 20 3,bk 18 true (br 21 .sub 20 1),bk 18 true (eO 22 4 19 21),bk 18 true (bP 23 4 22),bk 18 true (bP 24 4 4),bk 18 true (c8 25 125 23 24),bk 18 true (br 26 .geq 25 0),bk 15 false (fL 27 18 26),hj 28 15 27]) (bz 28 (al [dg 2 false] .ret) .skip)))) (.region [br 29 .add 7 1,ae 7 29])))) (al [ae 30 0,eu 31 30,gW 32 75 [.t 31,(fI 1),(fI 8)],ae 2 32] .ret)))
def D2:C:=(al [cp 6 0] (al [cp 7 1] (.seq (al [cp 8 0] (.block 0 (.loop (.seq (al [ae 9 8,ae 10 1,bV 11 .lss 9 10,ae 12 11,dc 12 true 13 7,dc 12 true 14 2,bk 12 true (bV 15 .leq 13 14),fL 16 12 15] (bz 16 .skip (.exit 0))) (.seq (.block 1 (.region [ae 19 7,ae 20 0,bV 21 .mul 19 20,ae 7 21])) (.region [ae 17 8,br 18 .add 17 1,ae 8 18])))))) (al [ae 22 7,ae 6 22] .ret))))
def D1:C:=(al [iK 6 5] (al [gN 10 5 113 [],ae 7 10] (.seq (al [ae 11 0,eu 12 11,cp 13 0] (mW 14 13 12 (.seq (.block 1 (al [eO 15 1 11 13,bh 16 1 15,ae 9 16] (al [ae 17 7,ae 18 9,ae 19 1,ae 20 2,ae 21 1,eu 22 21,bV 23 .rem 20 22,eO 24 4 19 23,bP 25 4 24,nT 26 AT [(0,1,(.t 18)),(1,4,(.t 25))],gN 27 5 113 [.t 26],k7 28 5 113 17 27,ae 7 28] (.region [ae 29 2,ae 30 1,eu 31 30,bV 32 .quo 29 31,ae 2 32])))) (.region [br 33 .add 13 1,ae 13 33])))) (al [ae 34 7,ae 6 34] .ret))))
def vA:C:=(al [ed 1 0,dg 2 false] (al [bP 3 4 1,eJ 4 56 3,ae 5 4,bk 5 true (bP 6 4 1),⟨(some (5,true)),.call (some 7) (.c (.func 58 [])) [.t 6,(.c (.slice 1 .nil []))]⟩,bk 5 true (eu 8 7),bk 5 true (br 9 .eql 8 0),fL 10 5 9,ae 2 10] .ret))
def RE:cJ aE DP [.tmp 2] 1 Tryz.f57=true:=ac
def RR:cJ aE D2 [.tmp 6] 3 Tryz.f59=true:=ac
def RQ:cJ aE D1 [.tmp 6] 3 Tryz.f61=true:=ac
def Bs:cJ aE vA [.tmp 2] 1 Tryz.f99=true:=ac
def uf(t:T)(k:Nat)(st:aN):Prop:=
 (k=t.args.length/\st=⟨[(2,.ptr (.loc 1) 0),(3,.ptr (.loc 2) 0),(14,.slice 4 .no (t.args.map T.e)),(15,.int .i64 t.args.length),(16,.int .i64 0)],[(.loc 1,[.int .i64 0,.int .i64 0,.str [],.slice 4 .nil []]),(.loc 2,[.int .i64 t.kind,.int .i64 t.int,.str t.name,.slice 4 .nil []])],[],3,[]⟩)\/
 ∃i:Nat,1<=i/\i<=t.args.length/\k=t.args.length-i/\st=⟨[(2,.ptr (.loc 1) 0),(3,.ptr (.loc 2) 0),(14,.slice 4 .no (t.args.map T.e)),(15,.int .i64 t.args.length),(16,.int .i64 i)],[(.loc 1,[.int .i64 0,.int .i64 0,.str [],.slice 4 .nil []]),(.loc 2,[.int .i64 t.kind,.int .i64 t.int,.str t.name,.slice 4 (.own (.loc 29)) ((t.args.take i).map T.e)])],[(.loc 29,⟨i,30,4,none⟩)],30,[]⟩
def Tn(t:T):ct aG 130 [t.e] t.e:=by
 induction t with
 |pair a b g f=>
  refine cb bC Tryz.func130 uu fun e=>?_;unfold ry;simp;refine mj (uf (.pair a b)) 2 _ dh (.inl ⟨rfl,rfl⟩) ?_;rintro k st (⟨U,rfl⟩|⟨i,I,J,U,rfl⟩) c d;all_goals clear c d
  ·simp;(repeat' first|refine aS ?_|refine be g ?_|refine bf g ?_|simp);refine cP.next 1 (by rw[U];simp) (.inr ⟨1,Ω,Ψ,rfl,rfl⟩) dh
  ·rcases(by simp at J;omega:i=1\/i=2)with rfl|rfl
   ·simp;(repeat' first|refine aS ?_|refine be f ?_|refine bf f ?_|simp);refine cP.next 0 (by rw[U];simp) (.inr ⟨2,Ω,Ψ,rfl,rfl⟩) dh
   ·exact eA
 |nil=>
  refine cb bC Tryz.func130 uu fun e=>?_;unfold ry;simp;refine mj (uf (.nil)) 0 _ dh (.inl ⟨rfl,rfl⟩) ?_;rintro k st (⟨U,rfl⟩|⟨i,I,J,U,rfl⟩) c d;all_goals clear c d
  ·exact eA
  ·simp at J;omega
 |var n=>
  refine cb bC Tryz.func130 uu fun e=>?_;unfold ry;simp;refine mj (uf (.var n)) 0 _ dh (.inl ⟨rfl,rfl⟩) ?_;rintro k st (⟨U,rfl⟩|⟨i,I,J,U,rfl⟩) c d;all_goals clear c d
  ·exact eA
  ·simp at J;omega
 |sym s=>
  refine cb bC Tryz.func130 uu fun e=>?_;unfold ry;simp;refine mj (uf (.sym s)) 0 _ dh (.inl ⟨rfl,rfl⟩) ?_;rintro k st (⟨U,rfl⟩|⟨i,I,J,U,rfl⟩) c d;all_goals clear c d
  ·exact eA
  ·simp at J;omega
 |num n=>
  refine cb bC Tryz.func130 uu fun e=>?_;unfold ry;simp;refine mj (uf (.num n)) 0 _ dh (.inl ⟨rfl,rfl⟩) ?_;rintro k st (⟨U,rfl⟩|⟨i,I,J,U,rfl⟩) c d;all_goals clear c d
  ·exact eA
  ·simp at J;omega
def vK(l:List T):(l.map T.tm).map enc=l.map T.e:=by rw[List.map_map];exact List.map_congr_left fun t _=>fQ t
mutual
def gk:aa->Nat
 | .int _ _=>1
 | .str _=>1
 | .slice _ _ xs=>gM xs
 | .agg cs=>gM cs
 |_=>0
def gM:List aa->Nat
 |[]=>0
 |x::xs=>gk x+gM xs
end
mutual
def QP(bZ:Int->List cF):∀(p:aa) (k:Int),(cA bZ p k).2=k+gk p
 | .int _ _,k=>by simp[cA,gk]
 | .str _,k=>by simp[cA,gk]
 | .slice _ _ xs,k=>by simp only[cA,gk];exact sj bZ xs k
 | .agg cs,k=>by simp only[cA,gk];exact sj bZ cs k
 | .bool _,k=>by simp[cA,gk]
 | .junk,k=>by simp[cA,gk]
 | .ptr _ _,k=>by simp[cA,gk]
 | .eptr _,k=>by simp[cA,gk]
 | .iface _ _,k=>by simp[cA,gk]
 | .nilp,k=>by simp[cA,gk]
 | .tuple _,k=>by simp[cA,gk]
 | .func _ _,k=>by simp[cA,gk]
 | .gmap _,k=>by simp[cA,gk]
 | .row _ _ _,k=>by simp[cA,gk]
 | .rptr _ _ _ _ _,k=>by simp[cA,gk]
 | .hdm _ _,k=>by simp[cA,gk]
 | .hdi _ _ _,k=>by simp[cA,gk]
 | .cst _,k=>by simp[cA,gk]
def sj(bZ:Int->List cF):∀(a:List aa) (k:Int),(bI bZ a k).2=k+gM a
 |[],k=>by simp[bI,gM]
 |x::xs,k=>by simp only[bI,gM];rw[sj bZ xs,QP bZ x];omega
end
def JP{α:Type}{f:α->aa}{c:Nat}:∀(l:List α),(∀x∈l,gk (f x)<=c)->gM (l.map f)<=c*l.length
 |[],_=>by simp[gM]
 |x::l,h=>by have I:=h x Ψ;have J:=JP l fun y a=>h y (by simp[a]);simp only[gG,gM,jX,Nat.mul_succ];omega
mutual
def Cy:∀t:Tm,gk (enc t)=3*t.sz
 | .mk k n s a=>by simp only[enc,gk,gM,Tm.sz,JQ a];omega
def JQ:∀l:List Tm,gM (hK l)=3*Tm.szL l
 |[]=>rfl
 |x::xs=>by simp only[hK,gM,Tm.szL,Cy x,JQ xs];omega
end
mutual
def w4:∀t:Tm,fY (enc t)
 | .mk k n s a=>by simp only[enc];exact .mk k n s (hK a) fun y b=>Gu a y b
def Gu:∀(l:List Tm),∀y∈hK l,fY y
 |[],y,h=>by simp[hK]at h
 |x::xs,y,h=>by
  simp only[hK,gw]at h;rcases h with rfl|h
  ·exact w4 x
  ·exact Gu xs y h
end
def Gt(t:T):fY t.e:=by rw[<-fQ];exact w4 _
mutual
def Cg:∀(t:Tm) (m:Int),0<=eW (kp t) m->eW (kp t) m+t.sz<=m+1
 | .mk k n s a,m,h=>by
  simp only[kp,eW]at h⊢;have b:(fb.s s).len=s.length:=rfl;have c:(k5 a).length=a.length:=by rw[Jm];simp
  by_cases g1:m-(fb.s s).len<0
  ·rw[if_pos g1]at h;omega
  by_cases g2:m-(fb.s s).len-((k5 a).length:Int)<0
  ·rw[bH g1,if_pos g2]at h;omega
  rw[bH g1,bH g2]at h⊢;have:=Jd a _ h;simp only[Tm.sz];omega
def Jd:∀(l:List Tm) (m:Int),0<=k3 (k5 l) m->k3 (k5 l) m+Tm.szL l<=m+l.length
 |[],m,h=>by simp[k5,k3,Tm.szL]
 |x::xs,m,h=>by
  simp only[k5,k3]at h⊢;split at h
  ·omega
  rename_i g;rw[bH g];have I:=Cg x m Ω;have J:=Jd xs _ h;simp only[Tm.szL,jX];omega
end
def I9{α β:Type}{f:α->Int->Int}{g:β->α}{w:β->aa}:∀(l:List β) (m:Int),(∀x m,0<=f (g x) m->(gk (w x):Int)<=4*(m-f (g x) m)+4)->0<=jv f (l.map g) m->(gM (l.map w):Int)<=4*(m-jv f (l.map g) m)+4*l.length
 |[],m,_,h=>by simp[jv,gM]
 |x::xs,m,a,h=>by
  simp only[gG,jv]at h⊢;split at h
  ·omega
  rename_i q;rw[bH q];have I:=a x m Ω;have J:=I9 xs _ a h;simp only[gM,jX];omega
def SS{α β:Type}{f:α->Int->Int}{g:β->α}{w:β->aa}(l:List β)(m:Int)(a:∀x m,0<=f (g x) m->(gk (w x):Int)<=4*(m-f (g x) m)+4)(h:0<=mS f (l.map g) m):(gM (l.map w):Int)<=4*(m-mS f (l.map g) m):=by
 unfold mS at h⊢;split at h
 ·omega
 rename_i q;rw[bH q];have:=I9 l _ a h;simp at this q⊢;omega
def TH(t:T):gk t.e=3*t.size:=by
 induction t with
 |pair a b d c=>simp only[T.e,gk,gM,T.size,d,c];omega
 |_=>rfl
@[simp]def We(n:Nat):(ar.loc n=dU)=c1:=eq_false (Bg n)
@[simp]def W8(n:Nat):(dU=ar.loc n)=c1:=eq_false fun h=>Bg n h.symm
def _root_.Go.Pv.CallDo.tree{P:bp}{n:Nat}{args:List aa}{st:aN}{d:aT Nat}{K:aN->Prop}{ε:Nat->Nat}{b:Nat}{p a c:aa}(g:b6 p)(aA:bS a=bS p)
  (i:cf P n args (eK ε b p) fun f e=>f=c/\e=eK ε b a) (he:st.e=cO ε b p) (U:aV (rng b (b+bS p)) args) (h:K ⟨dH d c st.t,st.b,cO ε b a,st.n,st.o++b2 (eK ε b a)⟩):CallDo P n args st d K:=by
 refine CallDo.ob i (qd g) (fun k cs U=>by simp[ab]at U) (fun k o U=>by rw[he];exact U) (hg (fun k U=>(s6 k).2 U) _ U) ?_;rintro r e ⟨rfl,rfl⟩;refine⟨rq aA,?_⟩;rw[he,jz,sT];simpa using h
mutual
def vI:∀t:Tm,b6 (enc t)
 | .mk k n s a=>by simp only[enc,b6,ea,true_and,and_true];exact⟨Ω,y4 a⟩
def y4:∀l:List Tm,ea (hK l)
 |[]=>trivial
 |x::xs=>⟨vI x,y4 xs⟩
end
@[simp]def UQ(l:List Tm):ea (l.map enc)=True:=by rw[<-rD];exact eq_true (y4 l)
@[simp]def UP(l:List T):ea (l.map T.e)=True:=eq_true ((tj T.e l).2 fun x _=>by rw[<-fQ];exact vI _)
@[reducible,simp] def tb(t:Nat->hI)(a:Tm):List aa:=[aB a.kind,aB a.num,.str a.name,.slice 4 (t 0) (a.args.map enc)]
@[reducible,simp] def Ci(_:Nat):hI:= .lo dU
@[reducible,simp] def SX(n j:Nat):hI:= .tr (.loc n) j
@[reducible,simp] def SV(_:Nat):hI:= .no
def Lq(b:Nat)(a bG:Int)(s:List cF)(ys:List aa):fq b [aB a,aB bG,.str s,b8 ys]=[aB a,aB bG,.str s,ef b (b8 ys)]:=rfl
def S3{a:Tm}{q:Int}(b:q<=1048576)(h:0<=eW (kp a) q)(k:Int):(bI cB (a.args.map enc) k).2<=k+3145731:=by have I:=Cg a q h;have J:=Cy a;rw[ql]at J;simp only[gk,gM]at J;rw[sj];omega
def Lt{a:Tm}:∀y∈a.args.map enc,fY y:=fun y b=>by obtain⟨u,_,rfl⟩:=k9.1 b;exact w4 u
def Lg(a bG:Int)(s:List cF)(ys:List aa)(k:Int):bS (.agg [aB a,aB bG,.str s,b8 (bI cB ys k).1])=bS (.agg [aB a,aB bG,.str s,b8 ys]):=by rw[pc,pc];exact rA (oS ..) (pd ..)
def En(a:Tm):b6 (.agg [aB a.kind,aB a.num,.str a.name,b8 (a.args.map enc)]):=by simp[b6,ea]
def mT(a:dZ bj):aa:=a.e 4 bj.e
@[simp]def V2(S:ar->Prop)(d:dZ bj):aR S (mT d)=True:=by cases d<;>simp[mT,dZ.e,aR]
@[simp]def XM(d:dZ bj):bE (mT d)=mT d:=by
 cases d with
 |l l=>
  have:∀l:List bj,bt (l.map bj.e)=l.map bj.e:=by
   intro l;induction l with
   |nil=>rfl
   |cons x l a=>simp[bt,a]
  simp[mT,dZ.e,bE,this]
 |b=>simp[mT,dZ.e,bE]
def S5(l:List Tm):mT (.l (l.map kp))= .slice 4 .no (l.map enc):=by simp only[mT,dZ.e,List.map_map];congr 1;exact List.map_congr_left fun t _=>Cm t
def o4(a:dZ bj)(m:Int):Int:=jT eW a m
def SU(a:dZ bj)(m:Int)(h:0<=m): -1<=o4 a m/\o4 a m<=m:=Ce p6 a m h
def TE(a:dZ bj)(hw:a.wf fun t=>t.wf)(m:Int)(b:0<=m)(I:m<=1048576):ct aG 16 [mT a,.int .i64 m] (.int .i64 (o4 a m)):=Cu a (fun p n c e=>by subst e;exact hw) (fun xs e x d m b I=>by subst e;exact JL x (hw x d) m b I) m b I
def TG(l:List Tm):ct aG 19 [.slice 4 .no (l.map enc)] (.slice 4 .no (l.map enc)):=by have:=(Bh l fun x _=>xq x).val (by simp[bE]);simpa[bE]using this
def Jy(l:List Tm):ct aG 21 [.slice 4 .no (l.map enc),.slice 4 .no (l.map enc)] (.bool true):=Jx l fun x _=>Jw x
end
section
open Go Go.Pv Go.Lib
abbrev n1(l:List T):b1:=fo T.e 601 602 30 4 l
def Es:∀(S:ar->Prop) (x:T),aR S x.e:=fun S x=>by simp
def yv(l:List T):eB (n1 l):=yy Es l
def NA(l:List T)(m:l.length<=1000000)(i j:Nat)(x y:T)(az:l[i]? =some x)(f:l[j]? =some y):cf aG 141 [aB i,aB j,.ptr (.obj 602) 0] (n1 l) fun r g=>r= .bool (pQ ca x y)/\g=n1 l:=by have a:=yv l;obtain⟨c,b⟩:=eQ.1 az;obtain⟨e,d⟩:=eQ.1 f;unfold n1 fo at a⊢;refine cf.mk mixed bC Tryz.func141 Ra Ψ a.obj fun k h=>?_;unfold Dl;simp[c,e,b,d];(repeat' first|refine aS ?_|refine be (u1 x y) ?_|refine bf (u1 x y) ?_|simp[c,e,b,d]);refine eX.at _ (.inl rfl) a (dW.refl _) bU bU ?_;simp[fZ,bq,bD,ba,pQ]
noncomputable def Tryz.teT:TypeInfo:=(aG.info? 27).get ac
noncomputable def Tryz.teE:TypeInfo:=(aG.info? 30).get ac
def Tryz.teK(n:Nat)(J:2<=n):Lib.swapperK n Tryz.teE 25=9:=by
 have a:Tryz.teE.hasPointers=true:=ac
 have b:Tryz.teE.bytes=56:=ac
 have c:(n==0)=false:=by simp;omega
 have d:(n==1)=false:=by simp;omega
 simp[Lib.swapperK,a,b,c,d]
def NM(l:List T)(d:l.length<=1000000):cf aG 140 [.iface 27 (.row 4 (.obj 601) l.length),.func 141 [.ptr (.obj 602) 0]] (n1 l) fun r c=>r= .tuple []/\c=n1 (o3 ca l):=by
 refine(Ny Es (K:=601) (B:=602) (sz:=4) 27 Tryz.teT Tryz.teE ac ac ac ac 25 (fun _=>by kernel_rfl) Tryz.teK 141 (pQ ca) sr.ltOk l Ω (fun a h i j x y az b=>NA a Ω i j x y az b) (fun a h i j az b=>?_)).mono ?_
 ·have:=NO (P:=aG) false 230 (fun args W=>run_callFunc_extern Tryz.func230 ac ac ac (e:=CF false) ac args W)
   30 Tryz.teE ac (fun _=>by kernel_rfl) (yv a) (K:=601) (n:=l.length) (el:=30) (sz:=4) ac (xs:=a.map T.e) (by simp[fo,ab,h]) i j az b
  refine this.mono ?_;rintro r c ⟨rfl,rfl⟩;refine⟨rfl,?_⟩;simp[fo,bW,Qp,h]
 ·rintro r c ⟨rfl,a,rfl,I,J⟩;exact⟨rfl,by rw[SJ sr I J]⟩
def iC(s:List T)(i:Nat)(acc:List T):Prop:=acc++cG (if i=0 then none else s[i-1]?) (s.drop i)=cG none s
def SI(l:List T):(o3 ca l).length=l.length:=(uT ca l).length_eq
def iC.fst{s:List T}{t:T}(b:s[0]? =some t){acc:List T}(h:iC s 0 acc):iC s 1 (acc++[t]):=by
 have az:0<s.length:=(eQ.1 b).1;have d:s=t::s.drop 1:=by cases s with|nil=>simp at az|cons a l=>simp at b;simp[b]
 unfold iC at h⊢;have c:acc++cG none (t::s.drop 1)=cG none s:=by rw[<-d];simpa using h
 simp only[cG]at c;simp[b];simpa using c
def iC.eq{s:List T}{i:Nat}(b:¬i=0){t:T}(c:s[i-1]? =some t)(a:s[i]? =some t){acc:List T}(h:iC s i acc):iC s (i+1) acc:=by
 have az:i<s.length:=(eQ.1 a).1;have d:s.drop i=t::s.drop (i+1):=by rw[l9 az];rw[cl az]at a;rw[jg a]
 unfold iC at h⊢;rw[bH b,c,d]at h;simp[cG]at h;simp[a,h]
def iC.ne{s:List T}{i:Nat}(c:¬i=0){p t:T}(d:s[i-1]? =some p)(a:s[i]? =some t)(b:p≠t){acc:List T}(h:iC s i acc):iC s (i+1) (acc++[t]):=by
 have az:i<s.length:=(eQ.1 a).1;have e:s.drop i=t::s.drop (i+1):=by rw[l9 az];rw[cl az]at a;rw[jg a]
 unfold iC at h⊢;rw[bH c,d,e]at h;simp[cG,b]at h;simp[a,h]
def iC.le{s:List T}{i:Nat}{acc:List T}(h:iC s i acc):acc.length<=s.length:=by have I:=eR lE h;have:=yX s none;simp at I;omega
def zp{s:List T}{i:Nat}{out:List (T×Nat)}{A:List T}(e:out.map (·.1)=A)(h:iC s (i+1) A):iC s (i+1) (out.map (·.1)):=by subst e;exact h
def Q3(l:List T)(G:l.length<=1000000):gO aG 70 [b8 (l.map T.e)] fun κ=>.slice 4 (.tr (.loc κ) 0) ((asc ca l).map T.e):=by
 refine gO.mk mixed bC Tryz.func70 Q9 Ψ fun L κ=>?_;unfold Dk;simp;refine⟨by unfold cH;omega,?_⟩;refine CallDo.ob (NM l G) (yv l) (by unfold n1 fo;exact bU) (by unfold n1 fo;exact bU) (by simp[a7,fo,ab]) ?_;rintro r M ⟨rfl,rfl⟩;refine⟨ve _ _,?_⟩;obtain⟨s,u⟩:∃s,s=o3 ca l:=⟨_,rfl⟩;have K:s.length=l.length:=by rw[u];exact SI l
 have E:asc ca l=cG none s:=by rw[u];rfl
 rw[<-u,E];clear E u;simp[n1,fo,dy];refine kG (fun i (x:Nat×List (T×Nat))=>⟨[(3,.ptr (.obj 602) 0),(4,.slice 4 (.own (.loc 0)) (gp T.k x.2)),(15,.row 4 (.obj 601) s.length),(16,aB s.length),(17,aB i)],[(.obj 602,[.row 4 (.obj 601) s.length])],[(.loc 0,⟨x.2.length,30,4,none⟩),(.obj 601,⟨s.length,30,4,some (s.map T.e)⟩)],x.1,[.obj 601,.obj 602]⟩) s.length (fun i x=>1<=x.1/\la x.1 x.2/\iC s i (x.2.map (·.1))) (1,[]) dh ⟨di _,.nil _,by simp[iC]⟩ (fun x a _=>?_) (fun i x az a _=>?_)
 ·obtain⟨n,out⟩:=x;obtain⟨I,J,a⟩:=a;simp only at I J a;rw[iC,List.drop_length]at a;have H:out.map (·.1)=cG none s:=by simpa[cG]using a
  simp;(repeat' first|refine aS ?_|simp);(refine jD.val Ψ ?_;simp[bq,bD,ba,eN,hS,dN,gT,dr,gD,tnL,tn,e8,gq,fold,iw,ir,ld,ab,dU,bt,bE,qL.okL,qL.nodup J,qL.stL,H])
 ·obtain⟨n,out⟩:=x;obtain⟨I,J,a⟩:=a;simp only at I J a;have F:=qL.kin J (di _) [.obj 601,.obj 602];simp[fresh]at F;have O:¬n=0:=Ω
  have z:=a.le;have N:out.length<=s.length:=by simpa using z
  generalize y:out.map (·.1)=acc at z a;obtain⟨t,d,e⟩:=pg az;rcases Nat.eq_zero_or_pos i with rfl|A
  ·have g:=a.fst d;clear a d;simp[az,e];(repeat' first|refine aS ?_|simp[az,e]);(refine CallDo.own Ψ (Hk t) (by simp[dU]) ?_;simp);all_goals try refine⟨by unfold cH;omega,?_⟩
   all_goals(repeat' first|refine aS ?_|simp)
   have j:=J.snoc t (show n<=n+1+41 by omega) (show n+1+41<n+1+41+1+1 by omega);have b:=qL.kin j (di _) [.obj 601,.obj 602];simp[fresh]at b;refine cP.rng (n+1+41+1+1,out++[(t,n+1+41)]) az ?_ ?_
   ·exact⟨Ψ,j,zp (by simp[y]) g⟩
   simp;exact⟨by simp[fresh,aV,aR,ep,a7,ab];exact b,k1 (by simp[fresh,aV,aR,ep,a7,ab]),k2 (by simp[fresh,aV,aR,ep,a7,ab,hh]),Ψ⟩
  ·obtain⟨p,c⟩:∃p,s[i-1]? =some p:=⟨_,cl Ω⟩;have v:((i:Int)-1).toNat=i-1:=Ω
   have w:∀h,(s[i-1]'h)=p:=fun h=>by rw[cl h]at c;exact jg c
   have f:¬i=0:=Ω
   have q:i-1<s.length:=Ω
   have m:(0:Int)<i:=Ω
   have o:((i:Int)==0)=false:=by simp;omega
   have fu:=Tj p t;by_cases k:p=t
   ·have g:=a.eq f (by rw[c,k]) d;rw[decide_eq_true k]at fu;clear a d c;simp[az,e,v,w,q,m,f,o];(repeat' first|refine aS ?_|refine be fu ?_|refine bf fu ?_|simp[az,e,v,w,q,A,m,f,o]);have B:=J.mono (show n<=n+1+41 by omega);have b:=qL.kin B (di _) [.obj 601,.obj 602];simp[fresh]at b;refine cP.rng (n+1+41,out) az ⟨Ψ,B,zp y g⟩ ?_;simp;exact⟨by simp[fresh,aV,aR,ep,a7,ab];exact b,k1 (by simp[fresh,aV,aR,ep,a7,ab]),k2 (by simp[fresh,aV,aR,ep,a7,ab,hh]),Ψ⟩
   ·have g:=a.ne f c d k;rw[decide_eq_false k]at fu;clear a d c;simp[az,e,v,w,q,m,f,o];(repeat' first|refine aS ?_|refine be fu ?_|refine bf fu ?_|simp[az,e,v,w,q,A,m,f,o]);(refine CallDo.own Ψ (Hk t) (by simp[dU]) ?_;simp);all_goals try refine⟨by unfold cH;omega,?_⟩
    all_goals(repeat' first|refine aS ?_|simp)
    have j:=J.snoc t (show n<=n+1+41 by omega) (show n+1+41<n+1+41+1+1 by omega);have b:=qL.kin j (di _) [.obj 601,.obj 602];simp[fresh]at b;refine cP.rng (n+1+41+1+1,out++[(t,n+1+41)]) az ?_ ?_
    ·exact⟨Ψ,j,zp (by simp[y]) g⟩
    simp;exact⟨by simp[fresh,aV,aR,ep,a7,ab];exact b,k1 (by simp[fresh,aV,aR,ep,a7,ab]),k2 (by simp[fresh,aV,aR,ep,a7,ab,hh]),Ψ⟩
end
section
open Go Go.Pv
def _root_.Go.Pv.T.gnd:T->Bool
 | .var _=>false
 | .pair a b=>a.gnd&&b.gnd
 |_=>true
def iM(b:Bool):b1:=⟨[(.obj 501,[.bool b])],[]⟩
def vd(b:Bool):eB (iM b):=by unfold iM;exact(eB.of ⟨by intro m;simp[ab],by intro m;simp[ab]⟩ (by simp[aV,aR,a7,ab]) (by simp[aV,aR,a7,ab]))
def yw(a b:Bool):dW (iM a) (iM b):=⟨fun k=>by simp only[iM,ab];split<;>rfl,fun _=>rfl⟩
def ND(v:Int)(b:Bool):cf aG 211 [.int .i64 v,.ptr (.obj 501) 0] (iM b) fun r c=>r= .tuple []/\c=iM false:=by have a:=vd b;unfold iM at a⊢;refine cf.mk mixed bC Tryz.func211 Rh Ψ a.obj fun e d=>?_;unfold Ds;simp;refine eX.at (iM false) (.inr rfl) (vd _) (yw b false) (by unfold iM;exact bU) (by unfold iM;exact bU) ?_;simp[fZ,bq,bD,ba];simp[iM]
def Nn(t:T)(b:Bool):t.fold (fun _ _=>false) b=(b&&t.gnd):=by
 induction t generalizing b with
 |pair x y c a=>simp[T.fold,T.gnd,c,a,Bool.and_assoc]
 |_=>simp[T.fold,T.gnd]
def Tl(t:T):ct aG 175 [t.e] (.bool t.gnd):=by refine cb bC Tryz.func175 Rg fun b=>?_;unfold Dr;simp;refine CallDo.ob (E4 iM vd yw 211 [.ptr (.obj 501) 0] (by intro a;simp[a7,iM,ab,aV,aR]) Ψ (fun _ _=>false) ND t true) (vd true) (by unfold iM;exact bU) (by unfold iM;exact bU) (by simp[a7,iM,ab]) ?_;rintro r c ⟨rfl,rfl⟩;refine⟨yw _ _,?_⟩;unfold iM;simp[dy,Nn];simp[b3,bq,bD,ba]
end
end Go.Proofs.YtahlgcidhnjlbaaGreat
