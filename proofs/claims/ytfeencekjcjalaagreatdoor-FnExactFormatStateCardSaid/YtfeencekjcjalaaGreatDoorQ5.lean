/- Contracts: instances. -/
import Derived.Test.YtfeencekjcjalaaGreatDoorProg
import Derived.Test.YtfeencekjcjalaaGreatDoorQ4
set_option linter.all false
set_option maxHeartbeats 4000000
set_option maxRecDepth 4000
open Bool renaming and_eq_true->cD,eq_iff_iff->ry,false_eq_true->hz,or_eq_true->nL
open Go.IntKind renaming bits->pe,i64->oz,signed->tP,u64->hM,wrap->tQ
open Go.IntWalk renaming i64_in->lT
open Go.Op renaming bytesLess->hX
open Go.Proofs.Tryz renaming prog->ar
open List renaming cons_append->bX,drop_eq_getElem_cons->mh,getElem?_eq_getElem->cl,getElem?_eq_some_iff->fy,getElem_of_mem->oC,map_cons->fA,mem_append->kr,mem_cons->gp,mem_cons_of_mem->p4,mem_filter->nN,mem_map->iL,mem_of_getElem?->eQ,nil_append->b3,nodup_append->ss,pairwise_cons->nO,pairwise_iff_getElem->qN
open List.Nodup renaming length_le_of_subset->Qb
open List.Pairwise renaming imp_of_mem->arS
open List.Perm renaming eq_of_pairwise->Qc,swap->awq
open Nat renaming le_refl->eR,le_trans->jM
open Option renaming bind_some->k9,getD_some->mi,isSome_iff_exists->gd,map_eq_some_iff->gD,map_some->ni
open Option.some renaming inj->fK,injEq->dv
open Prod.mk renaming injEq->hN
open _root_ renaming False->et,Option->aW,UInt8->bV,beq_iff_eq->dS,decide_eq_false->pj,decide_eq_false_iff_not->iq,decide_eq_true_eq->e8
namespace Go.Pv
section
open Go
def hL(s:List au):T->T
 | .var n=>cI s n
 |t=>t
def oL(s:List au)(v:Int)(t:T):aW (List au):=if(t.ap (cI s)).size<=5000/\(t.ap (cI s)).occ v=false/\s.length<400/\∀b∈s,(b.t.ap (one v (t.ap (cI s)))).size<=5000 then some (nm s v (t.ap (cI s)))else none
def kK(rec:List au->T->T->aW (aW (List au)))(s:List au):T->T->aW (aW (List au))
 | .var i,.var j=>some (if i<j then oL s j (.var i)else if i=j then some s else oL s i (.var j))
 | .var i,y=>some (oL s i y)
 |x,.var j=>some (oL s j x)
 | .pair b a2,.pair a c=>match rec s b a with
  |none=>none
  |some none=>some none
  |some (some s1)=>rec s1 a2 c
 |x,y=>some (if x=y then some s else none)
def lD:Nat->List au->T->T->aW (aW (List au))
 |0,_,_,_=>none
 |n+1,s,a,b=>kK (lD n) s (hL s a) (hL s b)
theorem ap4{rec c:List au->T->T->aW (aW (List au))}(h:∀s a b o,rec s a b=some o->c s a b=some o){s:List au}{x y:T}{o:aW (List au)}(he:kK rec s x y=some o):kK c s x y=some o:=by
 cases x<;>cases y<;>simp only[kK]at he⊢ <;>try exact he
 rename_i g a2 f i;cases e:rec s g f with
 |none=>rw[e]at he;cases he
 |some d=>
  rw[e]at he;rw[h _ _ _ _ e];cases d with
  |none=>exact he
  |some s1=>exact h _ _ _ _ he
theorem FQ:∀{n m:Nat} {s:List au} {a b:T} {o:aW (List au)},n<=m->lD n s a b=some o->lD m s a b=some o
 |0,_,_,_,_,_,_,h=>by simp[lD]at h
 |n+1,0,_,_,_,_,hm,_=>Ω
 |n+1,m+1,s,a,b,o,hm,h=>by simp only[lD]at h⊢;exact ap4 (fun s a b o h=>FQ Ω h) h
theorem Ls{s:List au}{v:Int}{x:T}:hZ (nm s v x)↔(x.size<=5000/\s.length<400/\∀b∈s,(b.t.ap (one v x)).size<=5000):=by
 have a:(nm s v x).length=s.length+1:=by simp[nm,Xa]
 unfold hZ;rw[a];constructor
 ·rintro⟨J,U⟩;exact⟨U _ (re.2 (.inl rfl)),Ω,fun b ae=>U _ (re.2 (.inr ⟨b,ae,rfl⟩))⟩
 ·rintro⟨J,U,d⟩;refine⟨Ω,fun b ae=>?_⟩;rcases re.1 ae with rfl|⟨c,ax,rfl⟩
  ·exact J
  ·exact d c ax
theorem abG{s:List au}(g:gf s){v:Int}{t:T}(j:dx s v=none)(f:t.ap (cI s)≠ .var v)(d:∀w,t.ap (cI s)= .var w->w<v):jw s [(.var v,t)] (oL s v t):=by
 unfold oL;cases ak:(t.ap (cI s)).occ v with
 |true=>
  rw[if_neg Ψ];refine Gj fun i J U=>?_;have c:=(sd.1 U).1;simp only[T.ap]at c;rw[Pf J t]at c;have b:(t.ap (cI s)).kind≠1:=by
   intro b;cases e:t.ap (cI s)with
   |var w=>rw[e]at ak;simp[T.occ]at ak;subst ak;exact f e
   |_=>rw[e]at b;simp[T.kind]at b
  have:=(B4 i ak).2 b;rw[<-c]at this;omega
 |false=>
  have J:=abF g j ak d;by_cases a:hZ (nm s v (t.ap (cI s)))
  ·rw[if_pos a]at J;rw[if_pos ⟨(Ls.1 a).1,rfl,(Ls.1 a).2⟩];exact J
  ·rw[if_neg a]at J;rw[if_neg fun h=>a (Ls.2 ⟨h.1,h.2.2⟩)];exact J
theorem aa0{s:List au}(a:gf s){t:T}{i:Int}(h:hL s t= .var i):dx s i=none:=by
 cases t with
 |var n=>
  simp only[hL,cI]at h;cases e:dx s n with
  |none=>rw[e]at h;simp at h;subst h;exact e
  |some u=>rw[e]at h;simp at h;subst h;exact a.free _ (kQ e) i (by simp[T.occ])
 |_=>simp[hL]at h
theorem P1{s:List au}{a:Int->T}(h:hs s a)(t:T):(hL s t).ap a=t.ap a:=by
 cases t with
 |var n=>
  simp only[hL,T.ap,cI];cases e:dx s n with
  |none=>rfl
  |some u=>exact(h _ (kQ e)).symm
 |_=>rfl
theorem aa2{s:List au}(a:gf s)(t:T):(hL s t).ap (cI s)=t.ap (cI s):=P1 (Ab a) t
def q5(V:List Int)(t:T):Prop:= ∀w,t.occ w=true->w∈V
def zs(V:List Int)(s:List au):Prop:= ∀b∈s,b.v∈V/\q5 V b.t
def AQ(V:List Int)(s:List au):Nat:=(V.filter fun v=>(dx s v).isNone).length
theorem Uc{α:Type}{p q:α->Bool}{v:α}:∀{V:List α},(∀x∈V,q x=true->p x=true)->v∈V->p v=true->q v=false->(V.filter q).length<(V.filter p).length
 |[],_,h,_,_=>by simp at h
 |x::V,h,b,d,c=>by
  have hle:∀W:List α,(∀x∈W,q x=true->p x=true)->(W.filter q).length<=(W.filter p).length:=by
   intro W;induction W with
   |nil=>intro _;simp
   |cons y W g=>intro f;have:=g fun x a=>f x (by simp[a]);have j:=f y Ψ;simp only[List.filter_cons];cases e:q y<;>cases i:p y<;>simp_all<;>omega
  simp only[List.filter_cons];rcases gp.1 b with rfl|b
  ·have:=hle V fun x a=>h x (by simp[a]);simp[d,c];omega
  ·have:=Uc (fun x a=>h x (p4 _ a)) b d c;have a:=h x Ψ;cases e:q x<;>cases i:p x<;>simp_all<;>omega
theorem adf{V:List Int}{s:List au}{v:Int}{x:T}(b:v∈V)(a:dx s v=none):AQ V (nm s v x)<AQ V s:=by
 unfold AQ;refine Uc (v:=v) (fun w _ h=>?_) b (by simp[a]) ?_
 ·rw[Option.isNone_iff_eq_none,Gn]at h;simp[h.2]
 ·cases e:dx (nm s v x) v with
  |none=>exact absurd rfl (Gn.1 e).1
  |some _=>rfl
theorem Wb{V:List Int}{s:List au}(h:zs V s){t:T}(aM:q5 V t):q5 V (t.ap (cI s)):=fun w hw=>by
 obtain⟨u,J,U⟩:=E3.1 hw;unfold cI at U;cases e:dx s u with
 |none=>rw[e]at U;simp[T.occ]at U;subst U;exact aM _ J
 |some x=>rw[e]at U;exact(h _ (kQ e)).2 w U
theorem ajy{V:List Int}{s:List au}(h:zs V s){v:Int}{x:T}(d:v∈V)(a:q5 V x):zs V (nm s v x):=fun b ae=>by
 rcases re.1 ae with rfl|⟨c,ax,rfl⟩
 ·exact⟨d,a⟩
 ·refine⟨(h c ax).1,fun w hw=>?_⟩;obtain⟨u,J,U⟩:=E3.1 hw;unfold one at U;split at U
  ·exact a w U
  ·simp[T.occ]at U;subst U;exact(h c ax).2 _ J
theorem Wc{V:List Int}{s:List au}(h:zs V s){t:T}(aM:q5 V t):q5 V (hL s t):=by
 cases t with
 |var n=>have:=Wb h aM;simpa[hL,T.ap]using this
 |_=>exact aM
def C3(V:List Int)(s:List au)(a b:T)(o:aW (List au)):Prop:=jw s [(a,b)] o/\∀c,o=some c->zs V c/\(c=s\/AQ V c<AQ V s)
theorem FR{V:List Int}{s:List au}(j:gf s)(d:zs V s){v:Int}{t a b:T}(f:v∈V)(aM:q5 V t)(e:dx s v=none)(i:t.ap (cI s)≠ .var v)(g:∀w,t.ap (cI s)= .var w->w<v)(ax:∀c,hs s c->(c v=t.ap c↔a.ap c=b.ap c)):C3 V s a b (oL s v t):=by
 refine⟨C4 (fun c=>?_) (abG j e i g),fun k h=>?_⟩
 ·refine and_congr_right fun h=>?_;rw[sd,sd];simp only[T.ap,ax c h]
 ·unfold oL at h;split at h
  ·cases h;exact⟨ajy d f (Wb d aM),.inr (adf f e)⟩
  ·cases h
theorem Cw{s:List au}{i:Int}(h:dx s i=none):cI s i= .var i:=by simp[cI,h]
theorem aao(V:List Int)(k:Nat):∀(m:Nat) (s:List au) (a b:T),gf s->hZ s->zs V s->q5 V a->q5 V b->AQ V s=k->(a.ap (cI s)).size+(b.ap (cI s)).size=m->
  ∃n o,lD n s a b=some o/\C3 V s a b o:=by
 induction k using Nat.strongRecOn with
 |ind k MI=>
 intro m;induction m using Nat.strongRecOn with
 |ind m BF=>
 intro s a b v K y bC ae Y hm;have r:=Wc y bC;have u:=Wc y ae;have O:=aa2 v a;have N:=aa2 v b;have D:=fun c (h:hs s c)=>P1 h a;have A:=fun c (h:hs s c)=>P1 h b;have rT:=fun i=>aa0 v (t:=a) (i:=i);have P:=fun i=>aa0 v (t:=b) (i:=i);have key:∀(rec:List au->T->T->aW (aW (List au))) (o:aW (List au)),kK rec s (hL s a) (hL s b)=some o->(∀l a2 g f,hL s a= .pair l a2->hL s b= .pair g f->C3 V s a b o)->C3 V s a b o:=by
  intro rec o he bJ;cases ex:hL s a with
  |var i=>
   have L:=rT i ex;have x:=fun c h=>(D c h).symm.trans (by rw[ex]);cases d:hL s b with
   |var j=>
    have z:=P j d;have p:=fun c h=>(A c h).symm.trans (by rw[d]);rw[ex,d]at he;simp only[kK]at he;have hi:i∈V:=by rw[ex]at r;exact r i (by simp[T.occ])
    have af:j∈V:=by rw[d]at u;exact u j (by simp[T.occ])
    rcases Int.lt_trichotomy i j with h|h|h
    ·rw[if_pos h]at he;cases he;refine FR v y af (by rw[ex]at r;exact r) z (by simp[T.ap,Cw L];omega) (fun w hw=>by simp[T.ap,Cw L]at hw;omega) fun c q=>?_;rw[x c q,p c q];simp only[T.ap];exact⟨Eq.symm,Eq.symm⟩
    ·subst h;rw[if_neg Ω,if_pos rfl]at he;cases he;refine⟨⟨⟨v,K⟩,fun c=>⟨fun h=>⟨h,sd.2 ⟨?_,FJ c⟩⟩,fun h=>h.1⟩⟩,fun B e=>by cases e;exact⟨y,.inl rfl⟩⟩;simp only;rw[x c h,p c h]
    ·rw[if_neg Ω,if_neg Ω]at he;cases he;refine FR v y hi (by rw[d]at u;exact u) L (by simp[T.ap,Cw z];omega) (fun w hw=>by simp[T.ap,Cw z]at hw;omega) fun c q=>?_;rw[x c q,p c q];simp only[T.ap]
   |_=>have p:=fun c h=>(A c h).symm.trans (by rw[d]);rw[ex,d]at he;simp only[kK]at he;cases he;refine FR v y (by rw[ex]at r;exact r i (by simp[T.occ])) (by rw[d]at u;exact u) L (by simp[T.ap]) (fun w hw=>by simp[T.ap]at hw) fun c q=>?_;rw[x c q,p c q];simp only[T.ap]
  |pair l a2=>
   cases d:hL s b with
   |pair g f=>exact bJ l a2 g f ex d
   |var j=>have z:=P j d;have x:=fun c h=>(D c h).symm.trans (by rw[ex]);have p:=fun c h=>(A c h).symm.trans (by rw[d]);rw[ex,d]at he;simp only[kK]at he;cases he;refine FR v y (by rw[d]at u;exact u j (by simp[T.occ])) (by rw[ex]at r;exact r) z (by simp[T.ap]) (fun w hw=>by simp[T.ap]at hw) fun c q=>?_;rw[x c q,p c q];simp only[T.ap];exact⟨Eq.symm,Eq.symm⟩
   |_=>have x:=fun c h=>(D c h).symm.trans (by rw[ex]);have p:=fun c h=>(A c h).symm.trans (by rw[d]);rw[ex,d]at he;simp only[kK]at he;simp at he;subst he;refine⟨Gj fun c J U=>?_,fun B e=>by cases e⟩;have:=(sd.1 U).1;simp only at this;rw[x c J,p c J]at this;simp[T.ap]at this
  |_=>
   have x:=fun c h=>(D c h).symm.trans (by rw[ex]);cases d:hL s b with
   |var j=>have z:=P j d;have p:=fun c h=>(A c h).symm.trans (by rw[d]);rw[ex,d]at he;simp only[kK]at he;cases he;refine FR v y (by rw[d]at u;exact u j (by simp[T.occ])) (by rw[ex]at r;exact r) z (by simp[T.ap]) (fun w hw=>by simp[T.ap]at hw) fun c q=>?_;rw[x c q,p c q];simp only[T.ap];exact⟨Eq.symm,Eq.symm⟩
   |_=>
    have p:=fun c h=>(A c h).symm.trans (by rw[d]);rw[ex,d]at he;simp only[kK,dv]at he;split at he
    ·rename_i e;subst he;refine⟨⟨⟨v,K⟩,fun c=>⟨fun h=>⟨h,sd.2 ⟨?_,FJ c⟩⟩,fun h=>h.1⟩⟩,fun B e=>by cases e;exact⟨y,.inl rfl⟩⟩;simp only;rw[x c h,p c h];try rw[e]
    ·rename_i e;subst he;refine⟨Gj fun c J U=>?_,fun B e=>by cases e⟩;have:=(sd.1 U).1;simp only at this;rw[x c J,p c J]at this;simp[T.ap]at this e;try exact e this
 by_cases HH:∃l a2 g f,hL s a= .pair l a2/\hL s b= .pair g f
 ·obtain⟨l,a2,g,f,ex,d⟩:=HH;have W:(l.ap (cI s)).size+(g.ap (cI s)).size<m/\(a2.ap (cI s)).size+(f.ap (cI s)).size<m:=by rw[ex]at O;rw[d]at N;simp only[T.ap]at O N;rw[<-hm,<-O,<-N];simp only[T.size];omega
  have kf:q5 V l:=fun w hw=>by rw[ex]at r;exact r w (by simp[T.occ,hw])
  have Q:q5 V a2:=fun w hw=>by rw[ex]at r;exact r w (by simp[T.occ,hw])
  have jj:q5 V g:=fun w hw=>by rw[d]at u;exact u w (by simp[T.occ,hw])
  have R:q5 V f:=fun w hw=>by rw[d]at u;exact u w (by simp[T.occ,hw])
  have U8:∀c,(hs s c/\ka ([(l,g)]++[(a2,f)]) c)↔(hs s c/\ka [(a,b)] c):=fun c=>and_congr_right fun h=>by simp only[List.singleton_append,sd,FJ,and_true];rw[<-D c h,<-A c h,ex,d];simp[T.ap]
  obtain⟨H,gP,X,F⟩:=BF _ W.1 s l g v K y kf jj Y rfl;cases gP with
  |none=>refine⟨H+1,none,?_,C4 U8 (J8 _ F.1),fun B e=>by cases e⟩;simp only[lD,ex,d,kK,X]
  |some s1=>
   obtain⟨v1,v2⟩:=F.2 s1 rfl;have El:∃E G,lD E s1 a2 f=some G/\C3 V s1 a2 f G:=by
    rcases v2 with rfl|v2
    ·exact BF _ W.2 _ a2 f v K y Q R Y rfl
    ·exact MI _ Ω _ s1 a2 f F.1.1.1 F.1.1.2 v1 Q R rfl rfl
   obtain⟨E,G,aC,S⟩:=El;refine⟨max H E+1,G,?_,C4 U8 (Qo F.1 S.1),fun B e=>?_⟩
   ·simp only[lD,ex,d,kK,FQ (Nat.le_max_left H E) X];exact FQ (Nat.le_max_right H E) aC
   ·obtain⟨fc,M⟩:=S.2 B e;refine⟨fc,?_⟩;rcases v2 with rfl|v2
    ·exact M
    ·rcases M with rfl|M
     ·exact .inr v2
     ·exact .inr Ω
 ·have Z:∀l a2 g f,hL s a= .pair l a2->hL s b= .pair g f->et:=fun l a2 g f J U=>HH ⟨l,a2,g,f,J,U⟩;have:∃o,kK (lD 0) s (hL s a) (hL s b)=some o:=by cases ex:hL s a<;>cases d:hL s b<;>simp only[kK]<;>first|exact⟨_,rfl⟩|exact(Z _ _ _ _ ex d).elim
  obtain⟨o,ak⟩:=this;exact⟨1,o,ak,key _ o ak fun l a2 g f J U=>(Z l a2 g f J U).elim⟩
def dp{α:Type}(k:Int):List (Int×α)->aW α
 |[]=>none
 |(i,v)::r=>if k=i then some v else dp k r
def fj{α:Type}(k:Int)(v:α):List (Int×α)->List (Int×α)
 |[]=>[(k,v)]
 |(i,w)::r=>if k=i then(i,v)::r else(i,w)::fj k v r
def cy{α:Type}(m:List (Int×α)):List Int:=m.map (·.1)
theorem ov{α:Type}(k:Int)(v:α)(j:Int):∀m:List (Int×α),dp j (fj k v m)=if j=k then some v else dp j m
 |[]=>by simp only[fj,dp]
 |(i,w)::r=>by
  simp only[fj];by_cases h:k=i
  ·subst h;by_cases U:j=k<;>simp[dp,U]
  ·by_cases U:j=i
   ·subst U;have:¬j=k:=fun e=>h e.symm;simp[dp,h,this]
   ·simp[dp,h,U,ov k v j r]
theorem Jz{α:Type}{k:Int}:∀{m:List (Int×α)},(dp k m).isSome=true↔k∈cy m
 |[]=>by simp[dp,cy]
 |(i,w)::r=>by
  simp only[dp,cy,fA,gp];by_cases h:k=i
  ·simp[h]
  ·simp only[h,if_false,false_or];exact Jz
theorem apX{α:Type}{k:Int}{m:List (Int×α)}:dp k m=none↔k∉cy m:=by rw[<-Jz];cases dp k m<;>simp
theorem EK{α:Type}{k:Int}{v:α}:∀{m:List (Int×α)},k∈cy m->cy (fj k v m)=cy m
 |[],h=>by simp[cy]at h
 |(i,w)::r,h=>by
  simp only[fj];by_cases e:k=i
  ·simp[e,cy]
  ·rw[if_neg e];have a:k∈cy r:=by simpa[cy,e]using h
   have:=EK (v:=v) a;simp only[cy]at this⊢;simp[this]
theorem WK{α:Type}{k:Int}{v:α}:∀{m:List (Int×α)},k∉cy m->cy (fj k v m)=cy m++[k]
 |[],h=>by simp[cy,fj]
 |(i,w)::r,h=>by have e:¬k=i:=fun e=>h (by simp[cy,e]);have b:k∉cy r:=fun a=>h (by simp[cy]at a⊢;exact .inr a);have:=WK (v:=v) b;simp only[fj,if_neg e];simp only[cy]at this⊢;simp[this]
structure bD where
 up:List (Int×Int)
 shape:List (Int×T)
 shaped:List (Int×Bool)
 color:List (Int×Int)
 size:List (Int×Int)
 full:List (Int×T)
def bD.shd(c:bD)(x:Int):Bool:=(dp x c.shaped).getD false
def bD.shp(c:bD)(x:Int):T:=(dp x c.shape).getD .nil
def bD.col(c:bD)(x:Int):Int:=(dp x c.color).getD 0
def bD.sz(c:bD)(x:Int):Int:=(dp x c.size).getD 0
def jK(m:List (Int×Int))(v:Int):Int:=(dp v m).getD 0
def x2:Nat->List (Int×Int)->Int->aW (Int×List (Int×Int))
 |0,_,_=>none
 |n+1,m,v=>if jK m v=v then some (v,m)else x2 n (fj v (jK m (jK m v)) m) (jK (fj v (jK m (jK m v)) m) v)
def AA(v:Int)(m:List (Int×Int)):List (Int×Int):=if(dp v m).isSome then m else fj v v m
def rt(c:bD)(v:Int):aW (Int×bD):=(x2 (v.toNat+1) (AA v c.up) v).map fun p=>(p.1,{c with up:=p.2})
def T.foldO{α:Type}(f:Int->α->aW α):T->α->aW α
 | .var n,a=>f n a
 | .pair x y,a=>(x.foldO f a).bind (y.foldO f)
 |_,a=>some a
def T.mapO{α:Type}(f:Int->α->aW (T×α)):T->α->aW (T×α)
 | .var n,a=>f n a
 | .pair x y,a=>(x.mapO f a).bind fun p=>(y.mapO f p.2).map fun q=>(.pair p.1 q.1,q.2)
 |t,a=>some (t,a)
def T.sizeO{α:Type}(f:Int->α->aW (Int×α)):T->α->aW (Int×α)
 | .var n,a=>(f n a).map fun p=>(if 5001<p.1 then 5001 else p.1,p.2)
 | .pair x y,a=>(x.sizeO f a).bind fun p=>if 5000<p.1 then some p else(y.sizeO f p.2).map fun q=>(if 5001<1+p.1+q.1 then 5001 else 1+p.1+q.1,q.2)
 |_,a=>some (1,a)
def BT(t:T)(c:bD):aW bD:=t.foldO (fun v c=>(rt c v).map (·.2)) c
structure vd where
 c:bD
 seen:List (Int×Bool)
 found:Bool
def x1(rec:T->bD->List (Int×Bool)->aW vd)(x:Int)(v:Int)(a:vd):aW vd:=
 (rt a.c v).bind fun p=>if a.found=true\/p.1=x then some ⟨p.2,a.seen,true⟩
  else if(dp p.1 a.seen).getD false=false/\p.2.shd p.1=true then rec (p.2.shp p.1) p.2 (fj p.1 true a.seen)
  else some ⟨p.2,a.seen,a.found⟩
def qD:Nat->Int->T->bD->List (Int×Bool)->aW vd
 |0,_,_,_,_=>none
 |n+1,x,t,c,seen=>t.foldO (x1 (qD n x) x) ⟨c,seen,false⟩
def bD.know(c:bD)(x:Int)(t:T):bD:={c with shape:=fj x t c.shape,shaped:=fj x true c.shaped}
def vX(n:Nat)(x:Int)(t:T)(c:bD):aW (Bool×bD):=(qD n x t (c.know x t) []).map fun a=>(!a.found,a.c)
def bD.join(c:bD)(x y:Int):bD:={c with up:=fj y x c.up}
def sE(rec:T->T->bD->aW (Bool×bD))(n:Nat)(x y:Int)(c:bD):aW (Bool×bD):=
 if c.shd y=false then
  (if c.shd x=false then some (true,c)else(qD n x (c.shp x) c []).map fun a=>(!a.found,a.c))
 else if c.shd x=false then vX n x (c.shp y) c
 else(qD n x (c.shp y) c []).bind fun a=>if a.found=true then some (false,a.c)else
  (qD n x (a.c.shp x) a.c []).bind fun b=>if b.found=true then some (false,b.c)else rec (b.c.shp x) (c.shp y) b.c
def gT:Nat->T->T->bD->aW (Bool×bD)
 |0,_,_,_=>none
 |n+1,.var i,.var j,c=>(rt c i).bind fun p=>(rt p.2 j).bind fun q=>if p.1=q.1 then some (true,q.2)else if q.1<p.1 then sE (gT n) n q.1 p.1 (q.2.join q.1 p.1)else sE (gT n) n p.1 q.1 (q.2.join p.1 q.1)
 |n+1,.var i,b,c=>(rt c i).bind fun p=>if p.2.shd p.1=false then vX n p.1 b p.2 else gT n (p.2.shp p.1) b p.2
 |n+1,a,.var j,c=>gT n (.var j) a c
 |n+1,.pair e a2,.pair d f,c=>(gT n e d c).bind fun p=>if p.1=true then gT n a2 f p.2 else some (false,p.2)
 |_+1,a,b,c=>some (decide (a=b),c)
structure j9 (m:List (Int×Int)) (ρ:Int->Int):Prop where
 up:∀v u,dp v m=some u->(0<=u/\u<=v/\u∈cy m)/\ρ u=ρ v/\(ρ v=v↔u=v)
 no:∀v,v∉cy m->ρ v=v
theorem j9.get{m:List (Int×Int)}{ρ:Int->Int}(h:j9 m ρ){v:Int}(a:v∈cy m):∃u,dp v m=some u/\jK m v=u:=by have:=Jz.2 a;obtain⟨u,hu⟩:=gd.1 this;exact⟨u,hu,by simp[jK,hu]⟩
theorem j9.root{m:List (Int×Int)}{ρ:Int->Int}(h:j9 m ρ):∀(n:Nat) (v:Int),v.toNat<=n->(ρ v<=v/\ρ (ρ v)=ρ v/\(v∈cy m->ρ v∈cy m/\0<=ρ v)):=by
 intro n;induction n using Nat.strongRecOn with
 |ind n d=>
 intro v i;by_cases a:v∈cy m
 ·obtain⟨u,J,_⟩:=h.get a;obtain⟨⟨c,a2,a3⟩,a4,a5⟩:=h.up v u J;by_cases e:u=v
  ·have:=a5.2 e;subst e;rw[this];exact⟨Ω,this,fun _=>⟨a3,c⟩⟩
  ·obtain⟨g,f,b⟩:=d (u.toNat) Ω u Ω;rw[<-a4];exact⟨Ω,f,fun _=>b a3⟩
 ·have:=h.no v a;rw[this];exact⟨Ω,this,fun h=>absurd h a⟩
theorem j9.le{m:List (Int×Int)}{ρ:Int->Int}(h:j9 m ρ)(v:Int):ρ v<=v:=(h.root v.toNat v (eR _)).1
theorem j9.idem{m:List (Int×Int)}{ρ:Int->Int}(h:j9 m ρ)(v:Int):ρ (ρ v)=ρ v:=(h.root v.toNat v (eR _)).2.1
theorem j9.mem{m:List (Int×Int)}{ρ:Int->Int}(h:j9 m ρ){v:Int}(a:v∈cy m):ρ v∈cy m/\0<=ρ v:=(h.root v.toNat v (eR _)).2.2 a
theorem ZC{ρ:Int->Int}:∀(n:Nat) (m:List (Int×Int)) (v:Int),j9 m ρ->v∈cy m->v.toNat<n->∃a,x2 n m v=some (ρ v,a)/\j9 a ρ/\cy a=cy m
 |0,_,_,_,_,l=>Ω
 |n+1,m,v,h,g,l=>by
  obtain⟨u,J,U⟩:=h.get g;obtain⟨⟨p,a2,a3⟩,a4,a5⟩:=h.up v u J;simp only[x2,U];by_cases e:u=v
  ·rw[if_pos e];have:=a5.2 e;exact⟨m,by rw[this],h,rfl⟩
  ·rw[if_neg e];obtain⟨x,g1,g2⟩:=h.get a3;obtain⟨⟨j,q,f⟩,d,s⟩:=h.up u x g1;rw[g2];have b:=EK (v:=x) g;have i:j9 (fj v x m) ρ:=by
    refine⟨fun w y hw=>?_,fun w hw=>h.no w (by rw[b]at hw;exact hw)⟩;rw[ov]at hw;rw[b];by_cases ew:w=v
    ·subst ew;rw[if_pos rfl]at hw;cases hw;refine⟨⟨j,Ω,f⟩,by rw[d,a4],⟨fun o=>absurd (a5.1 o) e,fun r=>?_⟩⟩;have:u=w:=Ω
     exact absurd this e
    ·rw[if_neg ew]at hw;exact h.up w y hw
   have c:jK (fj v x m) v=x:=by simp[jK,ov]
   rw[c];obtain⟨a,k,c2,c3⟩:=ZC n (fj v x m) x i (by rw[b];exact f) Ω;exact⟨a,by rw[k,d,a4],c2,by rw[c3,b]⟩
structure jv (ρ:Int->Int) (c cw:bD):Prop where
 ru:j9 cw.up ρ
 keys:cy cw.up=cy c.up
 eq:cw={c with up:=cw.up}
theorem jv.refl{ρ:Int->Int}{c:bD}(h:j9 c.up ρ):jv ρ c c:=⟨h,rfl,rfl⟩
theorem jv.trans{ρ:Int->Int}{a b c:bD}(h:jv ρ a b)(k:jv ρ b c):jv ρ a c:=⟨k.ru,k.keys.trans h.keys,by rw[k.eq,h.eq]⟩
theorem jv.shd{ρ:Int->Int}{c a:bD}(h:jv ρ c a)(x:Int):a.shd x=c.shd x:=by rw[h.eq];rfl
theorem jv.shp{ρ:Int->Int}{c a:bD}(h:jv ρ c a)(x:Int):a.shp x=c.shp x:=by rw[h.eq];rfl
theorem uR{ρ:Int->Int}{c:bD}{v:Int}(h:j9 c.up ρ)(b:v∈cy c.up):∃a,rt c v=some (ρ v,a)/\jv ρ c a:=by
 have e:AA v c.up=c.up:=by simp[AA,Jz.2 b]
 obtain⟨d,J,U,f⟩:=ZC (v.toNat+1) c.up v h b Ω;exact⟨{c with up:=d},by simp[rt,e,J],⟨U,f,rfl⟩⟩
theorem aoW{ρ:Int->Int}{c:bD}{v:Int}(h:j9 c.up ρ)(d:0<=v)(b:v∉cy c.up):rt c v=some (v,{c with up:=fj v v c.up})/\j9 (fj v v c.up) ρ/\cy (fj v v c.up)=cy c.up++[v]:=by
 have g:=apX.2 b;have a:=WK (v:=v) b;refine⟨?_,⟨fun w u hw=>?_,fun w hw=>h.no w fun hm=>hw (by rw[a];simp[hm])⟩,a⟩
 ·simp[rt,AA,g,x2,jK,ov]
 ·rw[ov]at hw;rw[a];by_cases e:w=v
  ·subst e;rw[if_pos rfl]at hw;cases hw;exact⟨⟨d,Ω,Ψ⟩,rfl,⟨fun _=>rfl,fun _=>h.no _ b⟩⟩
  ·rw[if_neg e]at hw;obtain⟨⟨f,a2,a3⟩,a4⟩:=h.up w u hw;exact⟨⟨f,a2,by simp[a3]⟩,a4⟩
def bD.ph(c:bD)(x:Int):aW T:=if c.shd x then some (c.shp x)else none
theorem jv.ph{ρ:Int->Int}{c a:bD}(h:jv ρ c a):a.ph=c.ph:=by funext x;simp only[bD.ph,h.shd,h.shp]
def kO(ph:Int->aW T)(ρ:Int->Int)(a:Int->T):Prop:=(∀v,a v=a (ρ v))/\∀x t,ρ x=x->ph x=some t->a x=t.ap a
def jN(ph:Int->aW T)(ρ:Int->Int)(z u:Int):Prop:=ρ z=z/\∃t w,ph z=some t/\t.occ w=true/\ρ w=u
inductive nS (E:Int->Int->Prop):Int->Int->Prop
 |refl (a:Int):nS E a a
 |step {a b c:Int}:E a b->nS E b c->nS E a c
def ps(V:List Int)(ph:Int->aW T):Prop:= ∀x t,ph x=some t->t.kind≠1/\(∀w,t.occ w=true->w∈V)/\x∈V
def JF(V:List Int)(ph:Int->aW T)(seen:List (Int×Bool)):Nat:=(V.filter fun v=>(ph v).isSome&& !((dp v seen).getD false)).length
def nv(seen:List (Int×Bool))(z:Int):Prop:=(dp z seen).getD false=true
structure aby (V:List Int) (ph:Int->aW T) (ρ:Int->Int) (x:Int) (occ:Int->Prop) (a bo:vd):Prop where
 sm:jv ρ a.c bo.c
 sub:∀z,nv a.seen z->nv bo.seen z
 yes:bo.found=true->a.found=true\/ ∃w,occ w/\nS (jN ph ρ) (ρ w) x
 kept:a.found=true->bo.found=true
 no:bo.found=false->(∀w,occ w->ρ w≠x/\((ph (ρ w)).isSome=true->nv bo.seen (ρ w)))/\∀r,nv bo.seen r->¬nv a.seen r->∀u,jN ph ρ r u->u≠x/\((ph u).isSome=true->nv bo.seen u)
theorem G3{α:Type}{p q:α->Bool}:∀{V:List α},(∀x∈V,q x=true->p x=true)->(V.filter q).length<=(V.filter p).length
 |[],_=>by simp
 |y::V,h=>by have:=G3 (p:=p) (q:=q) (V:=V) fun x a=>h x (by simp[a]);have b:=h y Ψ;simp only[List.filter_cons];cases e:q y<;>cases c:p y<;>simp_all<;>omega
theorem G4{α:Type}{p q:α->Bool}{v:α}:∀{V:List α},(∀x∈V,q x=true->p x=true)->v∈V->p v=true->q v=false->(V.filter q).length<(V.filter p).length
 |[],_,h,_,_=>by simp at h
 |x::V,h,b,d,c=>by
  have hle:=G3 (p:=p) (q:=q) (V:=V) fun x a=>h x (p4 _ a);simp only[List.filter_cons];rcases gp.1 b with rfl|b
  ·simp[d,c];omega
  ·have:=G4 (fun x a=>h x (p4 _ a)) b d c;have a:=h x Ψ;cases e:q x<;>cases f:p x<;>simp_all<;>omega
theorem ap6{V:List Int}{ph:Int->aW T}{s b:List (Int×Bool)}(h:∀z,nv s z->nv b z):JF V ph b<=JF V ph s:=
 G3 fun x _ a=>by
  simp only[cD,Bool.not_eq_true']at a⊢;refine⟨a.1,?_⟩;cases e:(dp x s).getD false with
  |false=>rfl
  |true=>have:=h x e;unfold nv at this;rw[a.2]at this;cases this
theorem MJ{s:List (Int×Bool)}{r z:Int}:nv (fj r true s) z↔z=r\/nv s z:=by unfold nv;rw[ov];by_cases h:z=r<;>simp[h]
theorem aoK{V:List Int}{ph:Int->aW T}{ρ:Int->Int}{x:Int}(Z:ps V ph)(k:Nat):∀(t:T) (a:vd),j9 a.c.up ρ->cy a.c.up=V->a.c.ph=ph->(∀w,t.occ w=true->w∈V)->JF V ph a.seen<=k->
  ∃N bo,(∀n,N<=n->t.foldO (x1 (qD n x) x) a=some bo)/\aby V ph ρ x (fun w=>t.occ w=true) a bo:=by
 induction k using Nat.strongRecOn with
 |ind k MI=>
 intro t;induction t with
 |var v=>
  intro a m s g aM y;obtain⟨i,J,U⟩:=uR m (by rw[s];exact aM v (by simp[T.occ]));have S:i.shd (ρ v)=(ph (ρ v)).isSome:=by rw[U.shd,<-g];simp only[bD.ph];split<;>simp_all
  by_cases d:a.found=true\/ρ v=x
  ·refine⟨0,⟨i,a.seen,true⟩,fun n _=>by simp[T.foldO,x1,J,d],U,fun z c=>c,fun _=>?_,fun _=>rfl,fun h=>by cases h⟩;rcases d with d|d
   ·exact .inl d
   ·exact .inr ⟨v,by simp[T.occ],by rw[d];exact .refl _⟩
  ·by_cases o:(dp (ρ v) a.seen).getD false=false/\i.shd (ρ v)=true
   ·have E:ph (ρ v)=some (i.shp (ρ v)):=by rw[<-g];simp only[bD.ph,U.shp];rw[if_pos (by rw[<-U.shd];exact o.2)]
    obtain⟨g1,g2,g3⟩:=Z _ _ E;have bI:JF V ph (fj (ρ v) true a.seen)<k:=by
     refine Nat.lt_of_lt_of_le (G4 (v:=ρ v) (fun z _ c=>?_) g3 ?_ ?_) y
     ·simp only[cD,Bool.not_eq_true']at c⊢;refine⟨c.1,?_⟩;rw[ov]at c;by_cases e:z=ρ v
      ·subst e;exact o.1
      ·rw[if_neg e]at c;exact c.2
     ·simp[E,o.1]
     ·simp[ov]
    obtain⟨N,bo,H,b⟩:=MI _ bI (i.shp (ρ v)) ⟨i,fj (ρ v) true a.seen,false⟩ U.ru (by rw[U.keys];exact s) (by rw[U.ph];exact g) g2 (eR _);refine⟨N+1,bo,fun n az=>?_,U.trans b.sm,fun z c=>b.sub z (MJ.2 (.inr c)),fun L=>?_,fun h=>absurd (.inl h) d,fun A=>?_⟩
    ·obtain⟨n',rfl⟩:∃n',n=n'+1:=⟨n-1,Ω⟩;simp only[T.foldO,x1,J,k9,if_neg d,if_pos o,qD];exact H n' Ω
    ·rcases b.yes L with h|⟨w,l,j⟩
     ·cases h
     ·exact .inr ⟨v,by simp[T.occ],.step ⟨by rw[j9.idem m],_,w,E,l,rfl⟩ j⟩
    ·obtain⟨l,j⟩:=b.no A;have X:nv bo.seen (ρ v):=b.sub _ (MJ.2 (.inl rfl));refine⟨fun w hw=>?_,fun r M B u hu=>?_⟩
     ·simp[T.occ]at hw;subst hw;exact⟨fun e=>d (.inr e),fun _=>X⟩
     ·by_cases O:r=ρ v
      ·subst O;obtain⟨_,dK,w,P,z2,rfl⟩:=hu;rw[E]at P;cases P;exact l w z2
      ·exact j r M (fun h=>(MJ.1 h).elim O B) u hu
   ·have sU:a.found=false:=by cases e:a.found with
     |false=>rfl
     |true=>exact absurd (.inl e) d
    refine⟨0,⟨i,a.seen,a.found⟩,fun n _=>by simp only[T.foldO,x1,J,k9,if_neg d,if_neg o],U,fun z c=>c,fun h=>.inl h,fun h=>h,fun _=>⟨fun w hw=>?_,fun r J U=>absurd J U⟩⟩;simp[T.occ]at hw;subst hw;refine⟨fun e=>d (.inr e),fun bJ=>?_⟩;unfold nv;cases e:(dp (ρ v) a.seen).getD false with
    |true=>rfl
    |false=>exact absurd ⟨e,by rw[S];exact bJ⟩ o
 |pair p q G F=>
  intro a m s g aM y;obtain⟨Y,D,H,b⟩:=G a m s g (fun w hw=>aM w (by simp[T.occ,hw])) y;obtain⟨W,a2,aC,f⟩:=F D b.sm.ru (by rw[b.sm.keys];exact s) (by rw[b.sm.ph];exact g) (fun w hw=>aM w (by simp[T.occ,hw])) (jM (ap6 b.sub) y);refine⟨max Y W,a2,fun n az=>by simp only[T.foldO];rw[H n Ω];exact aC n Ω,b.sm.trans f.sm,fun z c=>f.sub z (b.sub z c),fun L=>?_,fun h=>f.kept (b.kept h),fun A=>?_⟩
  ·rcases f.yes L with h|⟨w,l,j⟩
   ·rcases b.yes h with h|⟨w,l,j⟩
    ·exact .inl h
    ·exact .inr ⟨w,by simp[T.occ,l],j⟩
   ·exact .inr ⟨w,by simp[T.occ,l],j⟩
  ·have K:D.found=false:=by cases e:D.found with
    |false=>rfl
    |true=>have:=f.kept e;rw[A]at this;cases this
   obtain⟨R,Q⟩:=b.no K;obtain⟨s1,s2⟩:=f.no A;refine⟨fun w hw=>?_,fun r M B u hu=>?_⟩
   ·simp only[T.occ,nL]at hw;rcases hw with hw|hw
    ·exact⟨(R w hw).1,fun h=>f.sub _ ((R w hw).2 h)⟩
    ·exact s1 w hw
   ·by_cases h:nv D.seen r
    ·exact⟨(Q r h B u hu).1,fun cP=>f.sub _ ((Q r h B u hu).2 cP)⟩
    ·exact s2 r M h u hu
 |_=>intro a m s g aM y;exact⟨0,a,fun n _=>rfl,jv.refl m,fun z c=>c,fun h=>.inl h,fun h=>h,fun _=>⟨fun w hw=>by simp[T.occ]at hw,fun r J U=>absurd J U⟩⟩
theorem I5{ρ:Int->Int}{x:Int}{c:bD}{t:T}(f:j9 c.up ρ)(j:ps (cy c.up) c.ph)(aM:∀w,t.occ w=true->w∈cy c.up):
  ∃N a,(∀n,N<=n->qD n x t c []=some a)/\jv ρ c a.c/\(a.found=true↔∃w,t.occ w=true/\nS (jN c.ph ρ) (ρ w) x):=by
 obtain⟨N,a,J,U⟩:=aoK (x:=x) j _ t ⟨c,[],false⟩ f rfl rfl aM (eR _);refine⟨N+1,a,fun n B=>?_,U.sm,fun h=>?_,fun⟨w,hw,s⟩=>?_⟩
 ·obtain⟨n',rfl⟩:∃n',n=n'+1:=⟨n-1,Ω⟩;exact J n' Ω
 ·rcases U.yes h with h|h
  ·cases h
  ·exact h
 ·cases e:a.found with
  |true=>rfl
  |false=>
   obtain⟨d,o⟩:=U.no e;have key:∀z,nS (jN c.ph ρ) z x->z≠x->((c.ph z).isSome=true->nv a.seen z)->et:=by
    have:∀z y,nS (jN c.ph ρ) z y->y=x->z≠x->((c.ph z).isSome=true->nv a.seen z)->et:=by
     intro z y r;induction r with
     |refl z=>intro h k;exact absurd h k
     | @step z b v he _ m=>intro q A i;obtain⟨_,u,w',g,_,_⟩:=id he;have p:=i (by simp[g]);obtain⟨g1,g2⟩:=o z p (by simp[nv,dp]) b he;exact m q g1 g2
    exact fun z l=>this z x l rfl
   exact(key _ s (d w hw).1 (d w hw).2).elim
end
section
open Go
theorem abK{E:Int->Int->Prop}{x:Int}{r:Int->Nat}{M:Nat}(h:∀z u,z≠x->E z u->r u<r z)(c:∀u,E x u->r u<M)(d:∀u,E x u->¬nS E u x):∃a:Int->Nat,∀z u,E z u->a u<a z:=by
 classical
 refine⟨fun z=>if nS E z x then r z+M else r z,fun z u he=>?_⟩;show(if nS E u x then r u+M else r u)<(if nS E z x then r z+M else r z);by_cases b:z=x
 ·subst b;have J:=d u he;have U:=c u he;rw[if_neg J,if_pos (nS.refl z)];omega
 ·have J:=h z u b he;by_cases hu:nS E u x
  ·rw[if_pos hu,if_pos (nS.step he hu)];omega
  ·rw[if_neg hu];split<;>omega
def nX(ph:Int->aW T)(ρ:Int->Int):Nat->Int->T
 |0,v=>.var (ρ v)
 |n+1,v=>match ph (ρ v)with
  |none=>.var (ρ v)
  |some t=>t.ap (nX ph ρ n)
section
variable {ph:Int->aW T} {ρ:Int->Int} {r:Int->Nat}
theorem aev(hid:∀v,ρ (ρ v)=ρ v):∀(n:Nat) (v:Int),nX ph ρ n v=nX ph ρ n (ρ v)
 |0,v=>by simp[nX,hid]
 |n+1,v=>by simp[nX,hid]
theorem TR(hid:∀v,ρ (ρ v)=ρ v)(a:∀z u,jN ph ρ z u->r u<r z):∀(n:Nat) (v:Int),r (ρ v)<n->nX ph ρ n v=nX ph ρ (n+1) v
 |0,_,h=>Ω
 |n+1,v,h=>by
  show(match ph (ρ v)with|none=>T.var (ρ v)|some t=>t.ap (nX ph ρ n))=(match ph (ρ v)with|none=>T.var (ρ v)|some t=>t.ap (nX ph ρ (n+1)));cases e:ph (ρ v)with
  |none=>rfl
  |some t=>refine vj fun w hw=>TR hid a n w ?_;have:=a (ρ v) (ρ w) ⟨hid v,t,w,e,hw,rfl⟩;omega
theorem TQ(hid:∀v,ρ (ρ v)=ρ v)(a:∀z u,jN ph ρ z u->r u<r z){n:Nat}{v:Int}(h:r (ρ v)<n):∀k,nX ph ρ (n+k) v=nX ph ρ n v
 |0=>rfl
 |k+1=>by rw[<-TQ hid a h k];exact(TR hid a (n+k) v Ω).symm
def ht(ph:Int->aW T)(ρ:Int->Int)(r:Int->Nat)(v:Int):T:=nX ph ρ (r (ρ v)+1) v
theorem A8(hid:∀v,ρ (ρ v)=ρ v)(v:Int):ht ph ρ r v=ht ph ρ r (ρ v):=by unfold ht;rw[aev hid,hid]
theorem DF{v:Int}(h:ph (ρ v)=none):ht ph ρ r v= .var (ρ v):=by simp[ht,nX,h]
theorem A9(hid:∀v,ρ (ρ v)=ρ v)(a:∀z u,jN ph ρ z u->r u<r z){v:Int}{t:T}(h:ph (ρ v)=some t):ht ph ρ r v=t.ap (ht ph ρ r):=by show nX ph ρ (r (ρ v)+1) v=_;simp only[nX,h];refine vj fun w hw=>?_;have J:=a (ρ v) (ρ w) ⟨hid v,t,w,h,hw,rfl⟩;have:=TQ hid a (n:=r (ρ w)+1) (v:=w) Ω (r (ρ v)-(r (ρ w)+1));rw[show r (ρ w)+1+(r (ρ v)-(r (ρ w)+1))=r (ρ v)from by omega]at this;exact this
theorem ahJ(hid:∀v,ρ (ρ v)=ρ v)(b:∀z u,jN ph ρ z u->r u<r z):kO ph ρ (ht ph ρ r):=⟨A8 hid,fun x t a h=>A9 hid b (by rw[a];exact h)⟩
theorem Jr{V:List Int}(b:ps V ph){a:Int->T}(h:kO ph ρ a){z u:Int}(he:jN ph ρ z u):(a u).size<(a z).size:=by obtain⟨J,t,w,U,c,rfl⟩:=he;rw[h.2 z t J U,<-h.1 w];exact(B4 a c).2 (b z t U).1
theorem Js{V:List Int}(b:ps V ph){a:Int->T}(h:kO ph ρ a){z u:Int}(he:nS (jN ph ρ) z u):(a u).size<=(a z).size:=by
 induction he with
 |refl=>exact eR _
 |step J _ c=>have:=Jr b h J;omega
end
theorem ace(r:Int->Nat)(t:T):∃M,∀w,t.occ w=true->r w<M:=by
 induction t with
 |var n=>exact⟨r n+1,fun w hw=>by simp[T.occ]at hw;subst hw;omega⟩
 |pair a b f e=>
  obtain⟨d,J⟩:=f;obtain⟨c,U⟩:=e;refine⟨d+c,fun w hw=>?_⟩;simp only[T.occ,nL]at hw;rcases hw with hw|hw
  ·have:=J w hw;omega
  ·have:=U w hw;omega
 |_=>exact⟨0,fun w hw=>by simp[T.occ]at hw⟩
theorem FC{ph:Int->aW T}{ρ:Int->Int}(hid:∀v,ρ (ρ v)=ρ v){x:Int}{r:Int->Nat}(h:∀z u,z≠x->jN ph ρ z u->r u<r z)(c:∀u,jN ph ρ x u->¬nS (jN ph ρ) u x):∃f,kO ph ρ f:=by
 have a:∃M,∀u,jN ph ρ x u->r u<M:=by
  cases e:ph x with
  |none=>exact⟨0,fun u ⟨_,t,w,J,_⟩=>by rw[e]at J;cases J⟩
  |some t=>obtain⟨M,a⟩:=ace (fun w=>r (ρ w)) t;refine⟨M,fun u ⟨_,i,w,J,U,d⟩=>?_⟩;rw[e]at J;cases J;subst d;exact a w U
 obtain⟨M,a⟩:=a;obtain⟨g,b⟩:=abK h a c;exact⟨_,ahJ hid b⟩
structure mI (c:bD) (ρ:Int->Int):Prop where
 ru:j9 c.up ρ
 sh:ps (cy c.up) c.ph
 sat:∃aR,kO c.ph ρ aR
theorem mI.sm{c a:bD}{ρ:Int->Int}(h:mI c ρ)(k:jv ρ c a):mI a ρ:=⟨k.ru,by rw[k.keys,k.ph];exact h.sh,by rw[k.ph];exact h.sat⟩
def jd(c:bD)(ρ:Int->Int):Nat:=((cy c.up).filter fun v=>decide (ρ v=v)).length+((cy c.up).filter fun v=>decide (ρ v=v)&& !(c.ph v).isSome).length
theorem yl{c a:bD}{ρ:Int->Int}(k:jv ρ c a):jd a ρ=jd c ρ:=by unfold jd;rw[k.keys,k.ph]
structure jO (c:bD) (ρ:Int->Int) (p:(Int->T)->Prop) (o:Bool×bD):Prop where
 keys:cy o.2.up=cy c.up
 rest:o.2.color=c.color/\o.2.size=c.size/\o.2.full=c.full
 yes:o.1=true->∃ρ',mI o.2 ρ'/\(∀aR,kO o.2.ph ρ' aR↔kO c.ph ρ aR/\p aR)/\((ρ'=ρ/\o.2.ph=c.ph)\/jd o.2 ρ'<jd c ρ)
 no:o.1=false->∀aR,kO c.ph ρ aR->¬p aR
theorem jv.rest{ρ:Int->Int}{c a:bD}(h:jv ρ c a):a.color=c.color/\a.size=c.size/\a.full=c.full:=by rw[h.eq];exact⟨rfl,rfl,rfl⟩
theorem jO.sm{c a:bD}{ρ:Int->Int}{p:(Int->T)->Prop}{o:Bool×bD}(k:jv ρ c a)(h:jO a ρ p o):jO c ρ p o:=⟨h.keys.trans k.keys,by rw[h.rest.1,h.rest.2.1,h.rest.2.2];exact k.rest,fun e=>by rw[<-yl k,<-k.ph];exact h.yes e,by rw[<-k.ph];exact h.no⟩
theorem jO.congr{c:bD}{ρ:Int->Int}{p q:(Int->T)->Prop}{o:Bool×bD}(d:∀a,kO c.ph ρ a->(p a↔q a))(h:jO c ρ p o):jO c ρ q o:=⟨h.keys,h.rest,fun e=>by obtain⟨ρ',J,U,g⟩:=h.yes e;exact⟨ρ',J,fun a=>(U a).trans (and_congr_right fun b=>d a b),g⟩,fun e a b f=>h.no e a b ((d a b).2 f)⟩
theorem xW(c:bD)(x:Int)(t:T)(z:Int):(c.know x t).ph z=if z=x then some t else c.ph z:=by
 simp only[bD.ph,bD.know,bD.shd,bD.shp,ov];by_cases h:z=x
 ·simp[h]
 ·simp only[if_neg h];exact ite_congr rfl (fun _=>rfl) fun _=>rfl
theorem W3{c:bD}{ρ:Int->Int}(hi:mI c ρ){x:Int}(E:ρ x=x)(D:x∈cy c.up)(y:c.ph x=none){t:T}(aM:t.kind≠1)(F:∀w,t.occ w=true->w∈cy c.up):
  ∃N o,(∀n,N<=n->vX n x t c=some o)/\jO c ρ (fun d=>d x=t.ap d) o:=by
 have i:ps (cy (c.know x t).up) (c.know x t).ph:=by
  intro z u b;rw[xW]at b;split at b
  ·rename_i e;cases b;subst e;exact⟨aM,F,D⟩
  ·exact hi.sh z u b
 have s:∀d,kO (c.know x t).ph ρ d↔kO c.ph ρ d/\d x=t.ap d:=by
  intro d;constructor
  ·rintro⟨J,U⟩;refine⟨⟨J,fun z u b hu=>U z u b ?_⟩,U x t E (by rw[xW];simp)⟩;rw[xW];split
   ·rename_i e;subst e;rw[y]at hu;cases hu
   ·exact hu
  ·rintro⟨⟨J,U⟩,g⟩;refine⟨J,fun z u b hu=>?_⟩;rw[xW]at hu;split at hu
   ·rename_i e;subst e;cases hu;exact g
   ·exact U z u b hu
 obtain⟨N,a,J,U,g⟩:=I5 (x:=x) (c:=c.know x t) (t:=t) hi.ru i F;refine⟨N,(!a.found,a.c),fun n O=>by simp[vX,J n O],U.keys,U.rest,fun f=>?_,fun f d B he=>?_⟩
 ·simp only[Bool.not_eq_true']at f;have k:∀u,jN (c.know x t).ph ρ x u->¬nS (jN (c.know x t).ph ρ) u x:=by rintro u ⟨_,A,w,h,j,rfl⟩ P;rw[xW,if_pos rfl]at h;cases h;have:=g.2 ⟨w,j,P⟩;rw[f]at this;cases this
  obtain⟨K,H⟩:=hi.sat
  have l:=FC (ph:=(c.know x t).ph) (ρ:=ρ) hi.ru.idem (x:=x) (r:=fun z=>(K z).size) (fun z u b he=>by refine Jr hi.sh H ?_;obtain⟨m,A,w,G,M⟩:=he;rw[xW,if_neg b]at G;exact⟨m,A,w,G,M⟩) k
  refine⟨ρ,⟨U.ru,?_,?_⟩,fun d=>?_,.inr ?_⟩
  ·simp only[U.keys,U.ph];exact i
  ·simp only[U.ph];exact l
  ·simp only[U.ph];exact s d
  ·simp only[yl U];unfold jd;have m:cy (c.know x t).up=cy c.up:=rfl;rw[m];have:=G4 (V:=cy c.up) (v:=x) (p:=fun v=>decide (ρ v=v)&& !(c.ph v).isSome) (q:=fun v=>decide (ρ v=v)&& !((c.know x t).ph v).isSome) (fun z _ b=>by
    rw[xW]at b;split at b
    ·simp at b
    ·exact b) D (by simp[E,y]) (by simp[xW])
   omega
 ·simp only[Bool.not_eq_false']at f;obtain⟨w,h,j⟩:=g.1 f;have L:=(s d).2 ⟨B,he⟩;have:=Js i L j;have Q:=(B4 d h).2 aM;rw[<-he]at Q;rw[<-B.1 w]at this;omega
def jV(ρ:Int->Int)(x y:Int)(v:Int):Int:=if ρ v=y then x else ρ v
section
variable {c:bD} {ρ:Int->Int} {x y:Int}
theorem q8(b:ρ x=x)(c:ρ y=y)(a:x≠y){z:Int}:jV ρ x y z=z↔ρ z=z/\z≠y:=by
 unfold jV;split
 ·rename_i e;constructor
  ·intro h;subst h;rw[b]at e;exact absurd e a
  ·rintro⟨J,U⟩;rw[J]at e;exact absurd e U
 ·rename_i e;constructor
  ·intro h;exact⟨h,fun d=>e (by rw[d,c])⟩
  ·exact fun h=>h.1
theorem j9.join(h:j9 c.up ρ)(d:ρ x=x)(f:ρ y=y)(m:x<y)(i:x∈cy c.up)(g:y∈cy c.up):j9 (c.join x y).up (jV ρ x y):=by
 have k:cy (c.join x y).up=cy c.up:=EK g;refine⟨fun v u b=>?_,fun v b=>?_⟩
 ·rw[k];have a:dp v (fj y x c.up)=some u:=b;rw[ov]at a;by_cases e:v=y
  ·subst e;rw[if_pos rfl]at a;cases a;have j:=(h.mem i).2;rw[d]at j;refine⟨⟨j,Ω,i⟩,?_,⟨fun e=>?_,fun e=>Ω⟩⟩
   ·unfold jV;rw[d,f,if_pos rfl,if_neg Ω]
   ·have:=((q8 d f Ω).1 e).2;exact absurd rfl this
  ·rw[if_neg e]at a;obtain⟨l,a2,a3⟩:=h.up v u a;refine⟨l,by unfold jV;rw[a2],?_⟩;rw[q8 d f Ω,a3];exact⟨fun h=>h.1,fun h=>⟨h,e⟩⟩
 ·rw[k]at b;have:=h.no v b;unfold jV;rw[this,if_neg fun e=>b (by rw[e];exact g)]
theorem apt{ph:Int->aW T}(h:ρ x=x)(c:ρ y=y)(g:x≠y)(a:Int->T):(kO ph (jV ρ x y) a/\∀t,ph y=some t->a x=t.ap a)↔(kO ph ρ a/\a x=a y):=by
 constructor
 ·rintro⟨⟨J,U⟩,b⟩;have f:a y=a x:=by have:=J y;simpa[jV,c]using this
  refine⟨⟨fun v=>?_,fun z t d aM=>?_⟩,f.symm⟩
  ·have:=J v;unfold jV at this;split at this
   ·rename_i e;rw[e,this,f]
   ·exact this
  ·by_cases e:z=y
   ·subst e;rw[f];exact b t aM
   ·exact U z t ((q8 h c g).2 ⟨d,e⟩) aM
 ·rintro⟨⟨J,U⟩,b⟩;refine⟨⟨fun v=>?_,fun z t d aM=>U z t ((q8 h c g).1 d).1 aM⟩,fun t aM=>by rw[b];exact U y t c aM⟩;unfold jV;split
  ·rename_i e;rw[J v,e,b]
  ·exact J v
theorem aoJ{V:List Int}{ph:Int->aW T}(d:ps V ph)(i:ρ x=x)(j:ρ y=y)(c:x≠y){b:Int->T}(h:kO ph ρ b){z u:Int}(f:z≠x)(he:jN ph (jV ρ x y) z u):(if u=x then 0 else(b u).size)<(if z=x then 0 else(b z).size):=by
 obtain⟨J,t,w,U,g,rfl⟩:=he;have k:=(q8 i j c).1 J;rw[if_neg f];split
 ·exact T.size_pos _
 ·rename_i a;have:jV ρ x y w=ρ w:=by
   unfold jV at a⊢;split
   ·rename_i e;rw[if_pos e]at a;exact absurd rfl a
   ·rfl
  rw[this];exact Jr d h ⟨k.1,t,w,U,g,rfl⟩
theorem abq(e:ρ x=x)(b:ρ y=y)(d:x≠y)(f:y∈cy c.up):jd (c.join x y) (jV ρ x y)<jd c ρ:=by have i:cy (c.join x y).up=cy c.up:=EK f;have g:(c.join x y).ph=c.ph:=rfl;unfold jd;rw[i,g];have J:=G4 (V:=cy c.up) (v:=y) (p:=fun v=>decide (ρ v=v)) (q:=fun v=>decide (jV ρ x y v=v)) (fun z _ a=>by simp only[e8]at a⊢;exact((q8 e b d).1 a).1) f (by simp[b]) (by simp only[iq];exact fun h=>((q8 e b d).1 h).2 rfl);have U:=G3 (V:=cy c.up) (p:=fun v=>decide (ρ v=v)&& !(c.ph v).isSome) (q:=fun v=>decide (jV ρ x y v=v)&& !(c.ph v).isSome) (fun z _ a=>by simp only[cD,e8]at a⊢;exact⟨((q8 e b d).1 a.1).1,a.2⟩);omega
end
theorem Cd{c:bD}{x:Int}(h:c.shd x=false):c.ph x=none:=by simp[bD.ph,h]
theorem Ce{c:bD}{x:Int}(h:¬c.shd x=false):c.ph x=some (c.shp x):=by simp[bD.ph];simpa using h
theorem TJ{c:bD}{ρ:Int->Int}(hi:mI c ρ){x y:Int}(g:ρ x=x)(D:ρ y=y)(ix:x<y)(fv:x∈cy c.up)(V:y∈cy c.up)
  (rec:∀(L:bD) (W:Int->Int),mI L W->cy L.up=cy c.up->jd L W<jd c ρ->∀a b:T,(∀w,a.occ w=true->w∈cy c.up)->(∀w,b.occ w=true->w∈cy c.up)->∃N o,(∀n,N<=n->gT n a b L=some o)/\jO L W (fun d=>a.ap d=b.ap d) o):
  ∃N o,(∀n,N<=n->sE (gT n) n x y (c.join x y)=some o)/\jO c ρ (fun d=>d x=d y) o:=by
 have i:x≠y:=Ω
 have j:cy (c.join x y).up=cy c.up:=EK V;have M:(c.join x y).ph=c.ph:=rfl;have E:=hi.ru.join g D ix fv V;have c7:=abq (c:=c) g D i V;have K:ps (cy (c.join x y).up) (c.join x y).ph:=by rw[j,M];exact hi.sh
 obtain⟨lS,vP⟩:=hi.sat
 have S:∀z u,z≠x->jN c.ph (jV ρ x y) z u->(fun z=>if z=x then 0 else(lS z).size) u<(fun z=>if z=x then 0 else(lS z).size) z:=fun z u bH he=>aoJ hi.sh g D i vP bH he;have F:=fun d=>apt (ph:=c.ph) g D i d;have VY:∀{Y:bD},jv (jV ρ x y) (c.join x y) Y->(∃d,kO c.ph (jV ρ x y) d)->c.ph y=none->jO c ρ (fun d=>d x=d y) (true,Y):=by intro Y k s B;refine⟨k.keys.trans j,k.rest,fun _=>⟨jV ρ x y,⟨k.ru,by simp only[k.keys,k.ph];exact K,by simp only[k.ph];exact s⟩,fun d=>?_,.inr (by simp only[yl k];exact c7)⟩,fun e=>by cases e⟩;simp only[k.ph,M];rw[<-F d];exact⟨fun h=>⟨h,fun t aM=>by rw[B]at aM;cases aM⟩,fun h=>h.1⟩
 by_cases J:(c.join x y).shd y=false
 ·have VL:c.ph y=none:=Cd J;by_cases U:(c.join x y).shd x=false
  ·have Q:c.ph x=none:=Cd U;refine⟨0,(true,c.join x y),fun n _=>by simp only[sE,if_pos J,if_pos U],VY (jv.refl E) ?_ VL⟩;exact FC E.idem (x:=x) S fun u ⟨_,t,w,q,_⟩=>by rw[Q]at q;cases q
  ·have p:c.ph x=some ((c.join x y).shp x):=Ce U;obtain⟨N,a,H,f,R⟩:=I5 (x:=x) (c:=c.join x y) (t:=(c.join x y).shp x) E K (by rw[j];exact(hi.sh _ _ p).2.1);refine⟨N,(!a.found,a.c),fun n B=>by simp only[sE,if_pos J,if_neg U,H n B,ni],?_⟩;cases v:a.found with
   |false=>refine VY f (FC E.idem (x:=x) S fun u ⟨_,t,w,l,r,G⟩ aD=>?_) VL;rw[p]at l;cases l;subst G;have:=R.2 ⟨w,r,aD⟩;rw[v]at this;cases this
   |true=>refine⟨f.keys.trans j,f.rest,(fun e=>by cases e),fun _ d s he=>?_⟩;obtain⟨w,l,r⟩:=R.1 v;have A:=((F d).2 ⟨s,he⟩).1;have O:=Js hi.sh A r;have P:=(B4 d l).2 (hi.sh _ _ p).1;rw[<-A.2 x _ ((q8 g D i).2 ⟨g,i⟩) p]at P;rw[<-A.1 w]at O;omega
 ·have m:c.ph y=some ((c.join x y).shp y):=Ce J;by_cases U:(c.join x y).shd x=false
  ·have Q:c.ph x=none:=Cd U;have mP:mI (c.join x y) (jV ρ x y):=⟨E,K,FC E.idem (x:=x) S fun u ⟨_,t,w,q,_⟩=>by rw[M,Q]at q;cases q⟩;obtain⟨N,o,H,f⟩:=W3 mP (x:=x) ((q8 g D i).2 ⟨g,i⟩) (by rw[j];exact fv) Q (t:=(c.join x y).shp y) (hi.sh _ _ m).1 (by rw[j];exact(hi.sh _ _ m).2.1);refine⟨N,o,fun n B=>by simp only[sE,if_neg J,if_pos U,H n B],f.keys.trans j,f.rest,fun v=>?_,fun v d s he=>?_⟩
   ·obtain⟨ρ',g1,g2,g3⟩:=f.yes v;refine⟨ρ',g1,fun d=>?_,.inr ?_⟩
    ·rw[g2 d,<-F d];refine and_congr_right fun _=>⟨fun h t aM=>by rw[m]at aM;cases aM;exact h,fun h=>h _ m⟩
    ·rcases g3 with⟨rfl,g3⟩|g3
     ·have:jd o.2 (jV ρ x y)=jd (c.join x y) (jV ρ x y):=by unfold jd;rw[f.keys,g3]
      omega
     ·omega
   ·obtain⟨s1,s2⟩:=(F d).2 ⟨s,he⟩;exact f.no v d s1 (s2 _ m)
  ·have p:c.ph x=some ((c.join x y).shp x):=Ce U;obtain⟨X,a,H,f,R⟩:=I5 (x:=x) (c:=c.join x y) (t:=(c.join x y).shp y) E K (by rw[j];exact(hi.sh _ _ m).2.1);cases v:a.found with
   |true=>refine⟨X,(false,a.c),fun n B=>by simp only[sE,if_neg J,if_neg U,H n B,k9,v,if_true],f.keys.trans j,f.rest,(fun e=>by cases e),fun _ d s he=>?_⟩;obtain⟨w,l,r⟩:=R.1 v;obtain⟨A,oX⟩:=(F d).2 ⟨s,he⟩;have O:=Js hi.sh A r;have P:=(B4 d l).2 (hi.sh _ _ m).1;rw[<-oX _ m]at P;rw[<-A.1 w]at O;omega
   |false=>
    have V1:a.c.shp x=(c.join x y).shp x:=f.shp x;obtain⟨jP,b,f1,f2,f3⟩:=I5 (x:=x) (c:=a.c) (t:=(c.join x y).shp x) f.ru (by rw[f.keys,f.ph];exact K) (by rw[f.keys,j];exact(hi.sh _ _ p).2.1);have fE:=f.trans f2;cases aY:b.found with
    |true=>refine⟨max X jP,(false,b.c),fun n B=>by simp only[sE,if_neg J,if_neg U,H n Ω,k9,v,V1,f1 n Ω,aY,if_true,hz,if_false],fE.keys.trans j,fE.rest,(fun e=>by cases e),fun _ d s he=>?_⟩;obtain⟨w,l,r⟩:=f3.1 aY;obtain⟨A,_⟩:=(F d).2 ⟨s,he⟩;rw[f.ph]at r;have O:=Js hi.sh A r;have P:=(B4 d l).2 (hi.sh _ _ p).1;rw[<-A.2 x _ ((q8 g D i).2 ⟨g,i⟩) p]at P;rw[<-A.1 w]at O;omega
    |false=>
     have Bl:mI b.c (jV ρ x y):=by refine⟨fE.ru,by rw[fE.keys,fE.ph];exact K,?_⟩;rw[fE.ph];refine FC E.idem (x:=x) S fun u ⟨_,t,w,l,r,G⟩ aD=>?_;rw[M,p]at l;cases l;subst G;have:=f3.2 ⟨w,r,by rw[f.ph];exact aD⟩;rw[aY]at this;cases this
     obtain⟨Av,o,g1,g2⟩:=rec b.c (jV ρ x y) Bl (fE.keys.trans j) (by rw[yl fE];exact c7) ((c.join x y).shp x) ((c.join x y).shp y) (hi.sh _ _ p).2.1 (hi.sh _ _ m).2.1;refine⟨max (max X jP) Av,o,fun n B=>?_,g2.keys.trans (fE.keys.trans j),?_,fun Z=>?_,fun Z d s he=>?_⟩
     ·simp only[sE,if_neg J,if_neg U,H n Ω,k9,v,V1,f1 n Ω,aY,hz,if_false,fE.shp];exact g1 n Ω
     ·rw[g2.rest.1,g2.rest.2.1,g2.rest.2.2];exact fE.rest
     ·obtain⟨ρ',l,r,G⟩:=g2.yes Z;refine⟨ρ',l,fun d=>?_,.inr ?_⟩
      ·rw[r d,fE.ph,M,<-F d];refine and_congr_right fun h=>?_;have:=h.2 x _ ((q8 g D i).2 ⟨g,i⟩) p;rw[<-this];exact⟨fun h t aM=>by rw[m]at aM;cases aM;exact h,fun h=>h _ m⟩
      ·have:jd b.c (jV ρ x y)<jd c ρ:=by rw[yl fE];exact c7
       rcases G with⟨rfl,G⟩|G
       ·have:jd o.2 (jV ρ x y)=jd b.c (jV ρ x y):=by unfold jd;rw[g2.keys,G]
        omega
       ·omega
     ·obtain⟨s1,s2⟩:=(F d).2 ⟨s,he⟩;refine g2.no Z d (by rw[fE.ph];exact s1) ?_;have:=s1.2 x _ ((q8 g D i).2 ⟨g,i⟩) p;rw[<-this];exact s2 _ m
def vq:T->T->Nat
 | .var _,_=>1
 |_,.var _=>2
 |_,_=>0
theorem adv(K:Nat):∀(m:Nat) (c:bD) (ρ:Int->Int) (a b:T) (k:Int->T),mI c ρ->kO c.ph ρ k->(∀w,a.occ w=true->w∈cy c.up)->(∀w,b.occ w=true->w∈cy c.up)->jd c ρ=K->((a.ap k).size+(b.ap k).size)*3+vq a b=m->
  ∃N o,(∀n,N<=n->gT n a b c=some o)/\jO c ρ (fun d=>a.ap d=b.ap d) o:=by
 induction K using Nat.strongRecOn with
 |ind K ajv=>
 have V9:∀(f:bD) (g:Int->Int),mI f g->jd f g<K->∀a b:T,(∀w,a.occ w=true->w∈cy f.up)->(∀w,b.occ w=true->w∈cy f.up)->∃N o,(∀n,N<=n->gT n a b f=some o)/\jO f g (fun d=>a.ap d=b.ap d) o:=by
  intro f g J U a b u ae;obtain⟨d,hS⟩:=J.sat
  exact ajv _ U _ f g a b d J hS u ae rfl rfl
 intro m;induction m using Nat.strongRecOn with
 |ind m BF=>
 intro c ρ a b k hi P u ae M hm;have aiz:∀{a b:T},(∀n,gT (n+1) a b c=some (decide (a=b),c))->(∀d,a.ap d=a)->(∀d,b.ap d=b)->∃N o,(∀n,N<=n->gT n a b c=some o)/\jO c ρ (fun d=>a.ap d=b.ap d) o:=by
  intro a b J U E;refine⟨1,(decide (a=b),c),fun n z=>?_,rfl,⟨rfl,rfl,rfl⟩,fun h=>?_,fun h d _ he=>?_⟩
  ·obtain⟨n',rfl⟩:∃n',n=n'+1:=⟨n-1,Ω⟩;exact J n'
  ·simp only[e8]at h;subst h;exact⟨ρ,hi,fun d=>⟨fun h=>⟨h,rfl⟩,fun h=>h.1⟩,.inl ⟨rfl,rfl⟩⟩
  ·simp only[iq]at h;rw[U,E]at he;exact h he
 have U6:∀{a b:T},(∀n,gT (n+1) a b c=some (decide (a=b),c))->(∀d,a.ap d≠b.ap d)->a≠b->∃N o,(∀n,N<=n->gT n a b c=some o)/\jO c ρ (fun d=>a.ap d=b.ap d) o:=by intro a b J U E;refine⟨1,(false,c),fun n z=>?_,rfl,⟨rfl,rfl,rfl⟩,(fun h=>by cases h),fun _ d _ he=>U d he⟩;obtain⟨n',rfl⟩:∃n',n=n'+1:=⟨n-1,Ω⟩;rw[J n',pj E]
 have xB:∀(i:Int) (b:T),b.kind≠1->(∀n,gT (n+1) (.var i) b c=(rt c i).bind fun p=>if p.2.shd p.1=false then vX n p.1 b p.2 else gT n (p.2.shp p.1) b p.2)->i∈cy c.up->(∀w,b.occ w=true->w∈cy c.up)->((k i).size+(b.ap k).size)*3<m->∃N o,(∀n,N<=n->gT n (.var i) b c=some o)/\jO c ρ (fun d=>d i=b.ap d) o:=by
  intro i b n5 Vb B ae bI;obtain⟨f,v,r⟩:=uR hi.ru B;have L:=hi.sm r;by_cases l:f.shd (ρ i)=false
  ·obtain⟨N,o,A,s⟩:=W3 L (x:=ρ i) (hi.ru.idem i) (by rw[r.keys];exact(hi.ru.mem B).1) (Cd l) n5 (by rw[r.keys];exact ae);refine⟨N+1,o,fun n z=>?_,jO.sm r (jO.congr (fun d h=>?_) s)⟩
   ·obtain⟨n',rfl⟩:∃n',n=n'+1:=⟨n-1,Ω⟩;rw[Vb,v];simp only[k9,if_pos l];exact A n' Ω
   ·rw[<-h.1 i]
  ·have Q:f.ph (ρ i)=some (f.shp (ρ i)):=Ce l;have l4:∀d,kO f.ph ρ d->d i=(f.shp (ρ i)).ap d:=fun d h=>by rw[h.1 i];exact h.2 _ _ (hi.ru.idem i) Q
   have hQ:=(L.sh _ _ Q).1;have aid:vq (f.shp (ρ i)) b=0:=by cases e:f.shp (ρ i)<;>cases b<;>simp_all[vq,T.kind]
   have V7:kO f.ph ρ k:=by rw[r.ph];exact P
   obtain⟨N,o,A,s⟩:=BF (((f.shp (ρ i)).ap k).size*3+(b.ap k).size*3) (by rw[<-l4 k V7];omega) f ρ (f.shp (ρ i)) b k L V7 (L.sh _ _ Q).2.1 (by rw[r.keys];exact ae) (by rw[yl r];exact M) (by rw[aid];omega);refine⟨N+1,o,fun n z=>?_,jO.sm r (jO.congr (fun d h=>?_) s)⟩
   ·obtain⟨n',rfl⟩:∃n',n=n'+1:=⟨n-1,Ω⟩;rw[Vb,v];simp only[k9,if_neg l];exact A n' Ω
   ·rw[l4 d h]
 have zp:∀(i j:Int),i∈cy c.up->j∈cy c.up->∃N o,(∀n,N<=n->gT n (.var i) (.var j) c=some o)/\jO c ρ (fun d=>d i=d j) o:=by
  intro i j B O;obtain⟨f,v,r⟩:=uR hi.ru B;obtain⟨c2,A,bP⟩:=uR r.ru (by rw[r.keys];exact O:j∈cy f.up);have y:=r.trans bP;have V:=hi.sm y;have xp:ρ i∈cy c2.up:=by rw[y.keys];exact(hi.ru.mem B).1
  have Vr:ρ j∈cy c2.up:=by rw[y.keys];exact(hi.ru.mem O).1
  have xx:∀(f:bD) (g:Int->Int),mI f g->cy f.up=cy c2.up->jd f g<jd c2 ρ->∀a b:T,(∀w,a.occ w=true->w∈cy c2.up)->(∀w,b.occ w=true->w∈cy c2.up)->∃N o,(∀n,N<=n->gT n a b f=some o)/\jO f g (fun d=>a.ap d=b.ap d) o:=fun c3 ρ3 J U E a b u ae=>V9 c3 ρ3 J (by rw[yl y,M]at E;exact E) a b (by rw[U];exact u) (by rw[U];exact ae);rcases Int.lt_trichotomy (ρ i) (ρ j)with h|h|h
  ·obtain⟨N,o,X,S⟩:=TJ V (hi.ru.idem i) (hi.ru.idem j) h xp Vr xx;refine⟨N+1,o,fun n z=>?_,jO.sm y (jO.congr (fun d h=>?_) S)⟩
   ·obtain⟨n',rfl⟩:∃n',n=n'+1:=⟨n-1,Ω⟩;simp only[gT,v,A,k9];rw[if_neg Ω,if_neg Ω];exact X n' Ω
   ·rw[h.1 i,h.1 j]
  ·refine⟨1,(true,c2),fun n z=>?_,y.keys,y.rest,fun _=>⟨ρ,V,fun d=>?_,.inl ⟨rfl,y.ph⟩⟩,fun e=>by cases e⟩
   ·obtain⟨n',rfl⟩:∃n',n=n'+1:=⟨n-1,Ω⟩;simp only[gT,v,A,k9,if_pos h]
   ·simp only[y.ph];exact⟨fun l=>⟨l,by rw[l.1 i,l.1 j,h]⟩,fun l=>l.1⟩
  ·obtain⟨N,o,X,S⟩:=TJ V (hi.ru.idem j) (hi.ru.idem i) h Vr xp xx;refine⟨N+1,o,fun n z=>?_,jO.sm y (jO.congr (fun d h=>?_) S)⟩
   ·obtain⟨n',rfl⟩:∃n',n=n'+1:=⟨n-1,Ω⟩;simp only[gT,v,A,k9];rw[if_neg Ω,if_pos h];exact X n' Ω
   ·rw[h.1 i,h.1 j];exact⟨Eq.symm,Eq.symm⟩
 have Bz:∀(a:T) (j:Int),a.kind≠1->(∀n,gT (n+1) a (.var j) c=gT n (.var j) a c)->(∀n,gT (n+1) (.var j) a c=(rt c j).bind fun p=>if p.2.shd p.1=false then vX n p.1 a p.2 else gT n (p.2.shp p.1) a p.2)->j∈cy c.up->(∀w,a.occ w=true->w∈cy c.up)->((k j).size+(a.ap k).size)*3<m->∃N o,(∀n,N<=n->gT n a (.var j) c=some o)/\jO c ρ (fun d=>a.ap d=d j) o:=by intro a j J U E O u bI;obtain⟨N,o,v,D⟩:=xB j a J E O u bI;refine⟨N+1,o,fun n z=>?_,jO.congr (fun d _=>⟨Eq.symm,Eq.symm⟩) D⟩;obtain⟨n',rfl⟩:∃n',n=n'+1:=⟨n-1,Ω⟩;rw[U];exact v n' Ω
 cases a with
 |var i=>
  have B:i∈cy c.up:=u i (by simp[T.occ]);cases b with
  |var j=>exact zp i j B (ae j (by simp[T.occ]))
  |_=>exact xB i _ (by simp[T.kind]) (fun n=>rfl) B ae (by simp only[T.ap,vq]at hm⊢;omega)
 |pair Y a2=>
  cases b with
  |var j=>exact Bz _ j (by simp[T.kind]) (fun n=>rfl) (fun n=>rfl) (ae j (by simp[T.occ])) u (by simp only[T.ap,vq]at hm⊢;omega)
  |pair W G=>
   have um:∀p q:T,vq p q<=2:=fun p q=>by cases p<;>cases q<;>simp[vq]
   have kf:∀w,Y.occ w=true->w∈cy c.up:=fun w hw=>u w (by simp[T.occ,hw]);have oQ:∀w,a2.occ w=true->w∈cy c.up:=fun w hw=>u w (by simp[T.occ,hw]);have jj:∀w,W.occ w=true->w∈cy c.up:=fun w hw=>ae w (by simp[T.occ,hw]);have lj:∀w,G.occ w=true->w∈cy c.up:=fun w hw=>ae w (by simp[T.occ,hw]);simp only[T.ap,T.size,vq]at hm;have f1:=um Y W;have f2:=um a2 G;obtain⟨ie,gP,v,D⟩:=BF _ (by rw[<-hm];omega) c ρ Y W k hi P kf jj M rfl;obtain⟨ald,f⟩:=gP;cases ald with
   |false=>refine⟨ie+1,(false,f),fun n z=>?_,D.keys,D.rest,(fun e=>by cases e),fun _ d l he=>D.no rfl d l (by simp only[T.ap,T.pair.injEq]at he;exact he.1)⟩;obtain⟨n',rfl⟩:∃n',n=n'+1:=⟨n-1,Ω⟩;simp only[gT,v n' Ω,k9,hz,if_false]
   |true=>
    obtain⟨g,a8,Z,t⟩:=D.yes rfl;simp only at a8 Z t;have F:cy f.up=cy c.up:=D.keys;have El:∃R H,(∀n,R<=n->gT n a2 G f=some H)/\jO f g (fun d=>a2.ap d=G.ap d) H:=by
     rcases t with⟨rfl,t⟩|t
     ·exact BF _ (by rw[<-hm];omega) f g a2 G k a8 (by rw[t];exact P) (by rw[F];exact oQ) (by rw[F];exact lj) (by unfold jd;rw[F,t];exact M) rfl
     ·exact V9 f g a8 Ω a2 G (by rw[F];exact oQ) (by rw[F];exact lj)
    obtain⟨R,H,A,s⟩:=El;refine⟨max ie R+1,H,fun n z=>?_,s.keys.trans F,?_,fun aG=>?_,fun aG d l he=>?_⟩
    ·obtain⟨n',rfl⟩:∃n',n=n'+1:=⟨n-1,Ω⟩;simp only[gT,v n' Ω,k9,if_true];exact A n' Ω
    ·rw[s.rest.1,s.rest.2.1,s.rest.2.2];exact D.rest
    ·obtain⟨ρ2,s1,s2,s3⟩:=s.yes aG;refine⟨ρ2,s1,fun d=>?_,?_⟩
     ·rw[s2 d,Z d];simp only[T.ap,T.pair.injEq,and_assoc]
     ·rcases t with⟨rfl,t⟩|t
      ·rcases s3 with⟨rfl,s3⟩|s3
       ·exact .inl ⟨rfl,s3.trans t⟩
       ·have:jd f g=jd c g:=by unfold jd;rw[F,t]
        exact .inr Ω
      ·rcases s3 with⟨rfl,s3⟩|s3
       ·have:jd H.2 ρ2=jd f ρ2:=by unfold jd;rw[s.keys,s3]
        exact .inr Ω
       ·exact .inr Ω
    ·simp only[T.ap,T.pair.injEq]at he;exact s.no aG d ((Z d).2 ⟨l,he.1⟩) he.2
  |_=>exact U6 (fun n=>rfl) (fun d=>by simp[T.ap]) Ψ
 |_=>
  cases b with
  |var j=>exact Bz _ j (by simp[T.kind]) (fun n=>rfl) (fun n=>rfl) (ae j (by simp[T.occ])) u (by simp only[T.ap,vq]at hm⊢;omega)
  |_=>first|exact aiz (fun n=>rfl) (fun d=>rfl) (fun d=>rfl)|exact U6 (fun n=>rfl) (fun d=>by simp[T.ap]) Ψ
end
section
open Go
def Al(rec:Int->bD->aW (Bool×bD))(v:Int)(a:bD×Bool):aW (bD×Bool):=if a.2=true then(rt a.1 v).bind fun p=>(rec p.1 p.2).map fun q=>(q.2,q.1)else some a
def z8(v:Int)(c:bD):aW (Int×bD):=(rt c v).map fun p=>(p.2.sz p.1,p.2)
def bD.grey(c:bD)(x:Int):bD:={c with color:=fj x 1 c.color,size:=fj x 1 c.size}
def bD.black(c:bD)(x:Int):bD:={c with color:=fj x 2 c.color}
def rs:Nat->Int->bD->aW (Bool×bD)
 |0,_,_=>none
 |n+1,x,c=>if c.col x=2 then some (true,c)else if c.col x=1 then some (false,c)else
   if(c.grey x).shd x=false then some (true,(c.grey x).black x)else
   (((c.grey x).shp x).foldO (Al (rs n)) (c.grey x,true)).bind fun a=>if a.2=false then some (false,a.1)else
   (((a.1.shp x).sizeO z8 a.1).map fun p=>(true,{p.2 with size:=fj x p.1 p.2.size}.black x))
def CN(rec:Int->bD->aW (T×bD))(v:Int)(c:bD):aW (T×bD):=(rt c v).bind fun p=>rec p.1 p.2
def rp:Nat->Int->bD->aW (T×bD)
 |0,_,_=>none
 |n+1,x,c=>match dp x c.full with
  |some t=>some (t,c)
  |none=>if c.shd x=false then some (.var x,{c with full:=fj x (.var x) c.full})else
   ((c.shp x).mapO (CN (rp n)) c).map fun p=>(p.1,{p.2 with full:=fj x p.1 p.2.full})
def tF(n:Nat):List Int->bD->List Int->aW (aW (List Int)×bD)
 |[],c,out=>some (some out,c)
 |v::ba,c,out=>(rt c v).bind fun p=>(rs n p.1 p.2).bind fun q=>if q.1=false then some (none,q.2)else
   if p.1=v/\q.2.shd p.1=false then tF n ba q.2 out else
   if 5000<q.2.sz p.1\/400<out.length+1 then some (none,q.2)else tF n ba q.2 (out++[v])
def Aa(n:Nat):List Int->bD->aW (List au×bD)
 |[],c=>some ([],c)
 |v::ba,c=>(rt c v).bind fun p=>(rp n p.1 p.2).bind fun q=>(Aa n ba q.2).map fun r=>(⟨v,q.1⟩::r.1,r.2)
def FH(n:Nat)(ba:List Int)(c:bD):aW (aW (List au)):=(tF n ba c []).bind fun a=>match a.1 with
 |none=>some none
 |some out=>(Aa n out a.2).map fun r=>some r.1
def qS(n:Nat):List (T×T)->bD->aW (Bool×bD)
 |[],c=>some (true,c)
 |e::es,c=>(BT e.1 c).bind fun a=>(BT e.2 a).bind fun c2=>(gT n e.1 e.2 c2).bind fun p=>if p.1=true then qS n es p.2 else some (false,p.2)
theorem mI.rank{c:bD}{ρ:Int->Int}(h:mI c ρ):∃r:Int->Nat,∀z u,jN c.ph ρ z u->r u<r z:=by
 obtain⟨b,a⟩:=h.sat
 exact⟨fun z=>(b z).size,fun z u he=>Jr h.sh a he⟩
structure vb (V:List Int) (ph:Int->aW T) (ρ:Int->Int) (c:bD):Prop where
 ru:j9 c.up ρ
 keys:cy c.up=V
 ph:c.ph=ph
theorem vb.sm{V:List Int}{ph:Int->aW T}{ρ:Int->Int}{c a:bD}(h:vb V ph ρ c)(k:jv ρ c a):vb V ph ρ a:=⟨k.ru,k.keys.trans h.keys,k.ph.trans h.ph⟩
def cut(n:Nat):Int:=if 5001<(n:Int)then 5001 else n
section
variable {V:List Int} {ph:Int->aW T} {ρ:Int->Int} {r:Int->Nat}
theorem api(e:Int->T):∀(t:T) (c:bD),vb V ph ρ c->(∀w,t.occ w=true->w∈V/\c.sz (ρ w)=cut (e w).size)->∃g,t.sizeO z8 c=some (cut (t.ap e).size,g)/\jv ρ c g:=by
 intro t;induction t with
 |var v=>
  intro c h aM;obtain⟨m,l⟩:=aM v (by simp[T.occ]);obtain⟨d,J,U⟩:=uR h.ru (by rw[h.keys];exact m:v∈cy c.up);refine⟨d,?_,U⟩;have:d.sz (ρ v)=cut (e v).size:=by rw[<-l,U.eq];rfl
  simp only[T.sizeO,z8,J,ni,this,T.ap,dv,hN,and_true];unfold cut;split<;>omega
 |pair a b j i=>
  intro c h aM;obtain⟨d,J,f⟩:=j c h fun w hw=>aM w (by simp[T.occ,hw]);obtain⟨c2,U,k⟩:=i d (h.sm f) fun w hw=>⟨(aM w (by simp[T.occ,hw])).1,by rw[<-(aM w (by simp[T.occ,hw])).2,f.eq];rfl⟩;have ae:=T.size_pos (b.ap e);simp only[T.sizeO,J,k9,T.ap,T.size];by_cases ax:5000<cut (a.ap e).size
  ·rw[if_pos ax];refine⟨d,?_,f⟩;simp only[dv,hN,and_true];unfold cut at ax⊢;split at ax<;>split<;>(try split)<;>omega
  ·rw[if_neg ax,U];refine⟨c2,?_,f.trans k⟩;simp only[ni,dv,hN,and_true];unfold cut at ax⊢;split at ax<;>(repeat' split)<;>omega
 |_=>intro c h aM;exact⟨c,by simp[T.sizeO,T.ap,T.size,cut],jv.refl h.ru⟩
structure rH (V:List Int) (ph:Int->aW T) (ρ:Int->Int) (r:Int->Nat) (d:Nat) (c:bD):Prop where
 fin:vb V ph ρ c
 col:∀z,r z<d->c.col z=0\/(c.col z=2/\c.sz z=cut (ht ph ρ r z).size)
structure nV (ph:Int->aW T) (ρ:Int->Int) (r:Int->Nat) (d:Nat) (c cw:bD):Prop where
 full:cw.full=c.full
 hi:∀z,d<=r z->cw.col z=c.col z/\cw.sz z=c.sz z
 lo:∀z,c.col z=2->cw.col z=2/\cw.sz z=c.sz z
theorem nV.refl{c:bD}{d:Nat}:nV ph ρ r d c c:=⟨rfl,fun _ _=>⟨rfl,rfl⟩,fun _ h=>⟨h,rfl⟩⟩
theorem nV.trans{a b c:bD}{d:Nat}(h:nV ph ρ r d a b)(k:nV ph ρ r d b c):nV ph ρ r d a c:=⟨k.full.trans h.full,fun z e=>⟨(k.hi z e).1.trans (h.hi z e).1,(k.hi z e).2.trans (h.hi z e).2⟩,fun z e=>⟨(k.lo z (h.lo z e).1).1,(k.lo z (h.lo z e).1).2.trans (h.lo z e).2⟩⟩
theorem nV.mono{a b:bD}{d c:Nat}(f:d<=c)(h:nV ph ρ r d a b):nV ph ρ r c a b:=⟨h.full,fun z e=>h.hi z Ω,h.lo⟩
theorem nV.sm{c a:bD}{d:Nat}(k:jv ρ c a):nV ph ρ r d c a:=by
 have b:∀z,a.col z=c.col z:=fun z=>by rw[k.eq];rfl
 have e:∀z,a.sz z=c.sz z:=fun z=>by rw[k.eq];rfl
 exact⟨k.rest.2.2,fun z _=>⟨b z,e z⟩,fun z h=>⟨by rw[b];exact h,e z⟩⟩
theorem rH.sm{c a:bD}{d:Nat}(h:rH V ph ρ r d c)(k:jv ρ c a):rH V ph ρ r d a:=by
 have e:∀z,a.col z=c.col z:=fun z=>by rw[k.eq];rfl
 have f:∀z,a.sz z=c.sz z:=fun z=>by rw[k.eq];rfl
 exact⟨h.fin.sm k,fun z b=>by rw[e,f];exact h.col z b⟩
theorem arF(fO:ps V ph)(hid:∀v,ρ (ρ v)=ρ v)(aD:∀z u,jN ph ρ z u->r u<r z)(d:Nat):∀(x:Int) (c:bD),r x<d->ρ x=x->x∈V->rH V ph ρ r d c->
  ∃N A,(∀n,N<=n->rs n x c=some (true,A))/\rH V ph ρ r d A/\nV ph ρ r (r x+1) c A/\A.col x=2/\A.sz x=cut (ht ph ρ r x).size:=by
 induction d using Nat.strongRecOn with
 |ind d bB=>
 intro x c aQ M kS hw;rcases hw.col x aQ with bm|⟨U,ao⟩;rotate_left
 ·refine⟨1,c,fun n E=>?_,hw,nV.refl,U,ao⟩;obtain⟨n',rfl⟩:∃n',n=n'+1:=⟨n-1,Ω⟩;simp only[rs,if_pos U]
 have k:∀z,(c.grey x).col z=if z=x then 1 else c.col z:=fun z=>by simp only[bD.grey,bD.col,ov];split<;>rfl
 have G:∀z,(c.grey x).sz z=if z=x then 1 else c.sz z:=fun z=>by simp only[bD.grey,bD.sz,ov];split<;>rfl
 have m:vb V ph ρ (c.grey x):=⟨hw.fin.ru,hw.fin.keys,hw.fin.ph⟩;have Q:rH V ph ρ r (r x) (c.grey x):=⟨m,fun z g=>by
  have Y:z≠x:=fun e=>by subst e;omega
  rw[k,G,if_neg Y,if_neg Y];exact hw.col z Ω⟩
 have Eb:¬c.col x=2:=Ω
 have W:¬c.col x=1:=Ω
 have y:∀(e:bD) (z:Int),(e.black x).col z=(if z=x then 2 else e.col z):=fun e z=>by simp only[bD.black,bD.col,ov];split<;>rfl
 by_cases L:(c.grey x).shd x=false
 ·have l:ph x=none:=by rw[<-m.ph];exact Cd L
  have aY:ht ph ρ r x= .var x:=by rw[DF (by rw[M];exact l),M]
  have H:∀z,((c.grey x).black x).sz z=if z=x then 1 else c.sz z:=G
  refine⟨1,(c.grey x).black x,fun n E=>?_,⟨⟨m.ru,m.keys,m.ph⟩,fun z g=>?_⟩,⟨rfl,fun z g=>?_,fun z g=>?_⟩,?_,?_⟩
  ·obtain⟨n',rfl⟩:∃n',n=n'+1:=⟨n-1,Ω⟩;simp only[rs,if_neg Eb,if_neg W,if_pos L]
  ·rw[y,H,k];by_cases e:z=x
   ·subst e;simp only[if_true,aY];exact .inr ⟨trivial,by simp[T.size,cut]⟩
   ·simp only[if_neg e];exact hw.col z g
  ·have e:z≠x:=fun e=>by subst e;omega
   rw[y,H,k];simp only[if_neg e];exact⟨trivial,trivial⟩
  ·have e:z≠x:=fun e=>by subst e;omega
   rw[y,H,k];simp only[if_neg e];exact⟨g,trivial⟩
  ·rw[y,if_pos rfl]
  ·rw[H,if_pos rfl,aY];simp[T.size,cut]
 ·have l:ph x=some ((c.grey x).shp x):=by rw[<-m.ph];exact Ce L
  obtain⟨g1,g2,g3⟩:=fO _ _ l;have L5:∀(t:T) (e:bD),(∀w,t.occ w=true->((c.grey x).shp x).occ w=true)->rH V ph ρ r (r x) e->∃N p,(∀n,N<=n->t.foldO (Al (rs n)) (e,true)=some (p,true))/\rH V ph ρ r (r x) p/\nV ph ρ r (r x) e p/\∀w,t.occ w=true->p.col (ρ w)=2/\p.sz (ρ w)=cut (ht ph ρ r w).size:=by
   intro t;induction t with
   |var v=>intro e o he;have aK:=g2 v (o v (by simp[T.occ]));have xy:r (ρ v)<r x:=aD x (ρ v) ⟨M,_,v,l,o v (by simp[T.occ]),rfl⟩;obtain⟨S,F,Z⟩:=uR he.fin.ru (by rw[he.fin.keys];exact aK:v∈cy e.up);obtain⟨N,i,D,j,s,c2,s2⟩:=bB (r x) aQ (ρ v) S xy (hid v) (by rw[<-he.fin.keys];exact(he.fin.ru.mem (by rw[he.fin.keys];exact aK)).1) (he.sm Z);refine⟨N,i,fun n E=>by simp[T.foldO,Al,F,D n E],j,(nV.sm Z).trans (s.mono Ω),fun w hw=>?_⟩;simp[T.occ]at hw;subst hw;exact⟨c2,by rw[s2,<-A8 hid]⟩
   |pair a b eB eC=>
    intro e o he;obtain⟨ie,S,F,q,P,s1⟩:=eB e (fun w hw=>o w (by simp[T.occ,hw])) he;obtain⟨jP,i,D,j,s,s2⟩:=eC S (fun w hw=>o w (by simp[T.occ,hw])) q;refine⟨max ie jP,i,fun n E=>by simp only[T.foldO];rw[F n Ω];exact D n Ω,j,P.trans s,fun w hw=>?_⟩;simp only[T.occ,nL]at hw;rcases hw with hw|hw
    ·obtain⟨X,z2⟩:=s1 w hw;exact⟨(s.lo _ X).1,by rw[(s.lo _ X).2];exact z2⟩
    ·exact s2 w hw
   |_=>intro e _ he;exact⟨0,e,fun n _=>rfl,he,nV.refl,fun w hw=>by simp[T.occ]at hw⟩
  obtain⟨N,e,F,q,P,s1⟩:=L5 ((c.grey x).shp x) (c.grey x) (fun w h=>h) Q;have R:e.shp x=(c.grey x).shp x:=by
   have J:e.ph x=some ((c.grey x).shp x):=by rw[q.fin.ph];exact l
   unfold bD.ph at J;split at J
   ·exact fK J
   ·cases J
  obtain⟨i,D,bP⟩:=api (V:=V) (ph:=ph) (ρ:=ρ) (ht ph ρ r) ((c.grey x).shp x) e q.fin (fun w hw=>⟨g2 w hw,(s1 w hw).2⟩);have lN:ht ph ρ r x=((c.grey x).shp x).ap (ht ph ρ r):=A9 hid aD (by rw[M];exact l);have O:=P.trans (nV.sm (ph:=ph) (r:=r) (d:=r x) bP);have j:=q.sm bP;let K:bD:={i with size:=fj x (cut (ht ph ρ r x).size) i.size}.black x
  have c3:∀z,K.col z=if z=x then 2 else i.col z:=fun z=>y _ z
  have s3:∀z,K.sz z=if z=x then cut (ht ph ρ r x).size else i.sz z:=fun z=>by show(dp z (fj x _ i.size)).getD 0=_;rw[ov];split<;>rfl
  refine⟨N+1,K,fun n E=>?_,⟨⟨j.fin.ru,j.fin.keys,j.fin.ph⟩,fun z g=>?_⟩,⟨O.full,fun z g=>?_,fun z g=>?_⟩,by rw[c3,if_pos rfl],by rw[s3,if_pos rfl]⟩
  ·obtain⟨n',rfl⟩:∃n',n=n'+1:=⟨n-1,Ω⟩;simp only[rs,if_neg Eb,if_neg W,if_neg L,F n' Ω,k9,Bool.true_eq_false,if_false,R,D,ni,lN,K]
  ·rw[c3,s3];by_cases f:z=x
   ·subst f;simp only[if_true];exact .inr ⟨trivial,trivial⟩
   ·simp only[if_neg f];by_cases bI:r z<r x
    ·exact j.col z bI
    ·obtain⟨B,a2⟩:=O.hi z Ω;rw[B,a2,k,G,if_neg f,if_neg f];exact hw.col z g
  ·have f:z≠x:=fun e=>by subst e;omega
   obtain⟨B,a2⟩:=O.hi z Ω;rw[c3,s3,if_neg f,if_neg f,B,a2,k,G,if_neg f,if_neg f];exact⟨rfl,rfl⟩
  ·have f:z≠x:=fun e=>by subst e;omega
   obtain⟨B,a2⟩:=O.lo z (by rw[k,if_neg f];exact g);rw[c3,s3,if_neg f,if_neg f,B,a2,G,if_neg f];exact⟨rfl,rfl⟩
structure sy (V:List Int) (ph:Int->aW T) (ρ:Int->Int) (r:Int->Nat) (c:bD):Prop where
 fin:vb V ph ρ c
 full:∀x t,dp x c.full=some t->t=ht ph ρ r x
theorem sy.sm{c a:bD}(h:sy V ph ρ r c)(k:jv ρ c a):sy V ph ρ r a:=⟨h.fin.sm k,by rw[k.rest.2.2];exact h.full⟩
theorem aru(O:ps V ph)(hid:∀v,ρ (ρ v)=ρ v)(H:∀z u,jN ph ρ z u->r u<r z)(d:Nat):∀(x:Int) (c:bD),r x<d->ρ x=x->x∈V->sy V ph ρ r c->
  ∃N G,(∀n,N<=n->rp n x c=some (ht ph ρ r x,G))/\sy V ph ρ r G:=by
 induction d with
 |zero=>intro x c h;omega
 |succ d U=>
 intro x c Y o X f;cases p:dp x c.full with
 |some t=>refine⟨1,c,fun n j=>?_,f⟩;obtain⟨n',rfl⟩:∃n',n=n'+1:=⟨n-1,Ω⟩;simp only[rp,p,f.full x t p]
 |none=>
  have J:∀(e:bD),sy V ph ρ r e->sy V ph ρ r {e with full:=fj x (ht ph ρ r x) e.full}:=fun e he=>⟨⟨he.fin.ru,he.fin.keys,he.fin.ph⟩,fun z t S=>by
   have l:dp z (fj x (ht ph ρ r x) e.full)=some t:=S;rw[ov]at l;split at l
   ·rename_i e;subst e;cases l;rfl
   ·exact he.full z t l⟩
  by_cases m:c.shd x=false
  ·have i:ph x=none:=by rw[<-f.fin.ph];exact Cd m
   have aY:ht ph ρ r x= .var x:=by rw[DF (by rw[o];exact i),o]
   refine⟨1,_,fun n j=>?_,J c f⟩;obtain⟨n',rfl⟩:∃n',n=n'+1:=⟨n-1,Ω⟩;simp only[rp,p,if_pos m,aY]
  ·have i:ph x=some (c.shp x):=by rw[<-f.fin.ph];exact Ce m
   obtain⟨g1,g2,g3⟩:=O _ _ i;have A:∀(t:T) (e:bD),(∀w,t.occ w=true->(c.shp x).occ w=true)->sy V ph ρ r e->∃N F,(∀n,N<=n->t.mapO (CN (rp n)) e=some (t.ap (ht ph ρ r),F))/\sy V ph ρ r F:=by
    intro t;induction t with
    |var v=>intro e g he;have E:=g2 v (g v (by simp[T.occ]));have W:r (ρ v)<r x:=H x (ρ v) ⟨o,_,v,i,g v (by simp[T.occ]),rfl⟩;obtain⟨B,k,R⟩:=uR he.fin.ru (by rw[he.fin.keys];exact E:v∈cy e.up);obtain⟨N,D,y,s⟩:=U (ρ v) B Ω (hid v) (by rw[<-he.fin.keys];exact(he.fin.ru.mem (by rw[he.fin.keys];exact E)).1) (he.sm R);exact⟨N,D,fun n j=>by simp only[T.mapO,CN,k,k9,y n j,T.ap];rw[<-A8 hid],s⟩
    |pair a b Q P=>intro e g he;obtain⟨M,B,k,q⟩:=Q e (fun w hw=>g w (by simp[T.occ,hw])) he;obtain⟨L,D,y,s⟩:=P B (fun w hw=>g w (by simp[T.occ,hw])) q;exact⟨max M L,D,fun n j=>by simp only[T.mapO,k n Ω,k9,y n Ω,ni,T.ap],s⟩
    |_=>intro e _ he;exact⟨0,e,fun n _=>rfl,he⟩
   obtain⟨N,e,k,q⟩:=A (c.shp x) c (fun w h=>h) f;have K:ht ph ρ r x=(c.shp x).ap (ht ph ρ r):=A9 hid H (by rw[o];exact i);refine⟨N+1,_,fun n j=>?_,J e q⟩;obtain⟨n',rfl⟩:∃n',n=n'+1:=⟨n-1,Ω⟩;simp only[rp,p,if_neg m,k n' Ω,ni,K]
def oM(ph:Int->aW T)(ρ:Int->Int)(v:Int):Bool:= !(decide (ρ v=v)&&(ph v).isNone)
theorem apl(Q:ps V ph)(hid:∀v,ρ (ρ v)=ρ v)(W:∀z u,jN ph ρ z u->r u<r z)(P:∀v∈V,ρ v∈V):∀(ba:List Int) (c:bD) (out:List Int),(∀v∈ba,v∈V)->(∀d,rH V ph ρ r d c)->out.length<=400->(∀v∈out,(ht ph ρ r v).size<=5000)->
  ∃N p o,(∀n,N<=n->tF n ba c out=some (o,p))/\vb V ph ρ p/\p.full=c.full/\(∀l,o=some l->l=out++ba.filter (oM ph ρ)/\l.length<=400/\∀v∈l,(ht ph ρ r v).size<=5000)/\(o=none->¬((out++ba.filter (oM ph ρ)).length<=400/\∀v∈out++ba.filter (oM ph ρ),(ht ph ρ r v).size<=5000)):=by
 intro ba;induction ba with
 |nil=>intro c out _ hw J U;exact⟨0,c,some out,fun n _=>rfl,(hw 0).fin,rfl,fun l e=>by cases e;simp;exact⟨J,U⟩,fun e=>by cases e⟩
 |cons v ba K=>
  intro c out y hw J U;have D:=y v Ψ;obtain⟨H,X,G⟩:=uR (hw 0).fin.ru (by rw[(hw 0).fin.keys];exact D:v∈cy c.up);have O:∀d,rH V ph ρ r d H:=fun d=>(hw d).sm G;obtain⟨f,c2,S,g,F,Y,s2⟩:=arF Q hid W (r (ρ v)+1) (ρ v) H Ω (hid v) (P v D) (O _);have E:∀d,rH V ph ρ r d c2:=fun d=>⟨g.fin,fun z s=>by
   by_cases R:r z<r (ρ v)+1
   ·exact g.col z R
   ·obtain⟨t,a2⟩:=F.hi z Ω;rw[t,a2];exact(O d).col z s⟩
  have A:c2.full=c.full:=F.full.trans G.rest.2.2;have M:(c2.shd (ρ v)=false)=((ph (ρ v)).isNone=true):=by rw[<-g.fin.ph];unfold bD.ph;cases c2.shd (ρ v)<;>simp
  have j:∀n,f<=n->tF n (v::ba) c out=(if ρ v=v/\c2.shd (ρ v)=false then tF n ba c2 out else if 5000<c2.sz (ρ v)\/400<out.length+1 then some (none,c2)else tF n ba c2 (out++[v])):=fun n b=>by simp only[tF,X,k9,S n b,Bool.true_eq_false,if_false]
  have L:ht ph ρ r (ρ v)=ht ph ρ r v:=(A8 hid v).symm;by_cases ax:ρ v=v/\c2.shd (ρ v)=false
  ·have ae:oM ph ρ v=false:=by have x:=ax.2;rw[M]at x;rw[ax.1]at x;simp[oM,ax.1,x]
   obtain⟨k,c3,o,q,f3,i,B,m⟩:=K c2 out (fun w hw=>y w (by simp[hw])) E J U;refine⟨max f k,c3,o,fun n b=>by rw[j n Ω,if_pos ax];exact q n Ω,f3,i.trans A,?_,?_⟩
   ·simp only[List.filter_cons,ae,hz,if_false];exact B
   ·simp only[List.filter_cons,ae,hz,if_false];exact m
  ·have ae:oM ph ρ v=true:=by
    cases e:oM ph ρ v with
    |true=>rfl
    |false=>simp only[oM,Bool.not_eq_false',cD,e8]at e;exact absurd ⟨e.1,by rw[M,e.1];exact e.2⟩ ax
   by_cases a:5000<c2.sz (ρ v)\/400<out.length+1
   ·refine⟨f,c2,none,fun n b=>by rw[j n b,if_neg ax,if_pos a],g.fin,A,(fun l e=>by cases e),fun _=>?_⟩;simp only[List.filter_cons,ae,if_true];rintro⟨t,a2⟩;rcases a with a|a
    ·rw[s2,L]at a;have:=a2 v Ψ;unfold cut at a;split at a<;>omega
    ·simp at t;omega
   ·have s:(ht ph ρ r v).size<=5000:=by have:¬5000<c2.sz (ρ v):=fun h=>a (.inl h);rw[s2,L]at this;unfold cut at this;split at this<;>omega
    obtain⟨k,c3,o,q,f3,i,B,m⟩:=K c2 (out++[v]) (fun w hw=>y w (by simp[hw])) E d7 (fun w hw=>by
     rcases kr.1 hw with hw|hw
     ·exact U w hw
     ·simp at hw;subst hw;exact s)
    refine⟨max f k,c3,o,fun n b=>by rw[j n Ω,if_neg ax,if_neg a];exact q n Ω,f3,i.trans A,?_,?_⟩
    ·simp only[List.filter_cons,ae,if_true];simpa using B
    ·simp only[List.filter_cons,ae,if_true];simpa using m
theorem apm(g:ps V ph)(hid:∀v,ρ (ρ v)=ρ v)(p:∀z u,jN ph ρ z u->r u<r z)(d:∀v∈V,ρ v∈V):∀(ba:List Int) (c:bD),(∀v∈ba,v∈V)->sy V ph ρ r c->∃N i,∀n,N<=n->Aa n ba c=some (ba.map fun v=>⟨v,ht ph ρ r v⟩,i):=by
 intro ba;induction ba with
 |nil=>intro c _ _;exact⟨0,c,fun n _=>rfl⟩
 |cons v ba m=>intro c b hw;have a:=b v Ψ;obtain⟨l,q,j⟩:=uR hw.fin.ru (by rw[hw.fin.keys];exact a:v∈cy c.up);obtain⟨f,c2,o,h⟩:=aru g hid p (r (ρ v)+1) (ρ v) l Ω (hid v) (d v a) (hw.sm j);obtain⟨e,c3,k⟩:=m c2 (fun w hw=>b w (by simp[hw])) h;refine⟨max f e,c3,fun n s=>?_⟩;simp only[Aa,q,k9,o n Ω,k n Ω,ni,fA];rw[<-A8 hid]
end
end
section
open Go
def bD.new:bD:=⟨[],[],[],[],[],[]⟩
def sf(l:List Int):List Int:=l.mergeSort fun x y=>decide (x<=y)
def Cz(n:Nat)(E:List (T×T)):aW (aW (List au)):=(qS n E bD.new).bind fun p=>if p.1=false then some none else FH n (sf (cy p.2.up)) p.2
theorem FK(l:List Int):(sf l).Perm l:=List.mergeSort_perm l _
theorem apB{l:List Int}(h:l.Nodup):(sf l).Pairwise (· < ·):=by have J:(sf l).Pairwise fun x y=>decide (x<=y)=true:=List.pairwise_mergeSort (fun a b c=>by simp;omega) (fun a b=>by simp;omega) l;have U:(sf l).Pairwise (· ≠ ·):=List.nodup_iff_pairwise_ne.1 ((FK l).nodup_iff.2 h);exact(J.and U).imp fun h=>by simp at h;omega
structure abw (c:bD) (ρ:Int->Int) (cw:bD) (XQ:Int->Prop):Prop where
 inv:mI cw ρ
 ph:cw.ph=c.ph
 nd:(cy cw.up).Nodup
 sub:∀v∈cy c.up,v∈cy cw.up
 occ:∀v,XQ v->v∈cy cw.up
 rest:cw.color=c.color/\cw.size=c.size/\cw.full=c.full
 new:∀v∈cy cw.up,v∈cy c.up\/XQ v
theorem Xs{ρ:Int->Int}(t:T):∀(c:bD),mI c ρ->(cy c.up).Nodup->(∀v,t.occ v=true->0<=v)->∃n,BT t c=some n/\abw c ρ n fun v=>t.occ v=true:=by
 unfold BT;induction t with
 |var v=>
  intro c hi i j;by_cases d:v∈cy c.up
  ·obtain⟨l,k,f⟩:=uR hi.ru d;refine⟨l,by simp[T.foldO,k],hi.sm f,f.ph,by rw[f.keys];exact i,fun w hw=>by rw[f.keys];exact hw,fun w hw=>?_,f.rest,fun w hw=>.inl (by rw[f.keys]at hw;exact hw)⟩;simp[T.occ]at hw;subst hw;rw[f.keys];exact d
  ·obtain⟨k,m,g⟩:=aoW hi.ru (j v (by simp[T.occ])) d;refine⟨{c with up:=fj v v c.up},by simp only[T.foldO,k,ni],⟨m,?_,hi.sat⟩,rfl,?_,fun w hw=>by rw[g];simp[hw],fun w hw=>?_,⟨rfl,rfl,rfl⟩,fun w hw=>?_⟩
   ·intro x u s;obtain⟨q,a2,a3⟩:=hi.sh x u s;refine⟨q,fun w hw=>?_,?_⟩
    ·show w∈cy (fj v v c.up);rw[g];simp[a2 w hw]
    ·show x∈cy (fj v v c.up);rw[g];simp[a3]
   ·rw[g];rw[ss];exact⟨i,Ψ,fun a r b ae e=>by simp at ae;subst ae;subst e;exact d r⟩
   ·simp[T.occ]at hw;subst hw;rw[g];simp
   ·rw[g]at hw;simp at hw;rcases hw with hw|rfl;exact .inl hw;exact .inr (by simp[T.occ])
 |pair a b p o=>
  intro c hi i j;obtain⟨l,k,m1⟩:=p c hi i fun v d=>j v (by simp[T.occ,d]);obtain⟨c2,m,m2⟩:=o l m1.inv m1.nd fun v d=>j v (by simp[T.occ,d]);refine⟨c2,by simp only[T.foldO,k,k9,m],m2.inv,m2.ph.trans m1.ph,m2.nd,fun v d=>m2.sub v (m1.sub v d),fun v d=>?_,?_,fun v d=>?_⟩
  ·simp only[T.occ,nL]at d;rcases d with d|d
   ·exact m2.sub v (m1.occ v d)
   ·exact m2.occ v d
  ·rw[m2.rest.1,m2.rest.2.1,m2.rest.2.2];exact m1.rest
  ·rcases m2.new v d with h|h
   ·rcases m1.new v h with h|h
    ·exact .inl h
    ·exact .inr (by simp[T.occ,h])
   ·exact .inr (by simp[T.occ,h])
 |_=>intro c hi i j;exact⟨c,rfl,hi,rfl,i,fun v d=>d,fun v d=>by simp[T.occ]at d,⟨rfl,rfl,rfl⟩,fun v d=>.inl d⟩
def NQ(E:List (T×T)):Prop:= ∀e∈E,∀v,(e.1.occ v=true\/e.2.occ v=true)->0<=v
theorem Dp:∀(E:List (T×T)) (c:bD) (ρ:Int->Int),mI c ρ->(cy c.up).Nodup->NQ E->∃N o,(∀n,N<=n->qS n E c=some o)/\((o.2.color=c.color/\o.2.size=c.size/\o.2.full=c.full)/\∀v∈cy o.2.up,v∈cy c.up\/ ∃e∈E,e.1.occ v=true\/e.2.occ v=true)/\(o.1=true->∃ρ',mI o.2 ρ'/\(cy o.2.up).Nodup/\∀a,kO o.2.ph ρ' a↔kO c.ph ρ a/\ka E a)/\(o.1=false->∀a,kO c.ph ρ a->¬ka E a):=by
 intro E;induction E with
 |nil=>intro c ρ hi g _;exact⟨0,(true,c),fun n _=>rfl,⟨⟨rfl,rfl,rfl⟩,fun v b=>.inl b⟩,fun _=>⟨ρ,hi,g,fun a=>⟨fun h=>⟨h,FJ a⟩,fun h=>h.1⟩⟩,fun e=>by cases e⟩
 |cons e E O=>
  intro c ρ hi g m;obtain⟨M,y,m1⟩:=Xs e.1 c hi g fun v b=>m e Ψ v (.inl b);obtain⟨c2,x,m2⟩:=Xs e.2 M m1.inv m1.nd fun v b=>m e Ψ v (.inr b);obtain⟨F,A⟩:=m2.inv.sat
  obtain⟨s,i,t,d⟩:=adv _ _ c2 ρ e.1 e.2 F m2.inv A (fun w hw=>m2.sub w (m1.occ w hw)) (fun w hw=>m2.occ w hw) rfl rfl;have k:c2.ph=c.ph:=m2.ph.trans m1.ph;have r:i.2.color=c.color/\i.2.size=c.size/\i.2.full=c.full:=by rw[d.rest.1,d.rest.2.1,d.rest.2.2,m2.rest.1,m2.rest.2.1,m2.rest.2.2];exact m1.rest
  have z:∀v∈cy i.2.up,v∈cy c.up\/e.1.occ v=true\/e.2.occ v=true:=fun v b=>by
   rw[d.keys]at b;rcases m2.new v b with h|h
   ·rcases m1.new v h with h|h
    ·exact .inl h
    ·exact .inr (.inl h)
   ·exact .inr (.inr h)
  obtain⟨f,c3⟩:=i;cases f with
  |false=>refine⟨s,(false,c3),fun n g=>?_,⟨r,fun v b=>(z v b).imp id fun h=>⟨e,Ψ,h⟩⟩,(fun e=>by cases e),fun _ a p he=>d.no rfl a (by rw[k];exact p) (sd.1 he).1⟩;simp only[qS,y,x,k9,t n g,hz,if_false]
  |true=>
   obtain⟨D,u,a2,_⟩:=d.yes rfl;simp only at u a2;obtain⟨G,H,L,j,K,B⟩:=O c3 D u (by have:=d.keys;simp only at this;rw[this];exact m2.nd) fun l he=>m l (by simp[he]);refine⟨max s G,H,fun n g=>?_,?_,fun q=>?_,fun q a p he=>?_⟩
   ·simp only[qS,y,x,k9,t n Ω,if_true];exact L n Ω
   ·refine⟨by rw[j.1.1,j.1.2.1,j.1.2.2];exact r,fun v b=>?_⟩;rcases j.2 v b with h|⟨l,J,U⟩
    ·exact(z v h).imp id fun h=>⟨e,Ψ,h⟩
    ·exact .inr ⟨l,by simp[J],U⟩
   ·obtain⟨ρ2,d1,d2,d3⟩:=K q;exact⟨ρ2,d1,d2,fun a=>by rw[d3 a,a2 a,k,sd,and_assoc]⟩
   ·exact B q a ((a2 a).2 ⟨by rw[k];exact p,(sd.1 he).1⟩) (sd.1 he).2
theorem Gp{ph:Int->aW T}{ρ:Int->Int}{v:Int}:oM ph ρ v=false↔ρ v=v/\ph v=none:=by simp[oM]
theorem UQ{ph:Int->aW T}{ρ:Int->Int}{r:Int->Nat}(hid:∀v,ρ (ρ v)=ρ v):∀(n:Nat) (v w:Int),(nX ph ρ n v).occ w=true->(∀z u,jN ph ρ z u->r u<r z)->r (ρ v)<n->ρ w=w/\ph w=none
 |0,v,w,_,_,h=>Ω
 |n+1,v,w,h,a,b=>by
  simp only[nX]at h;cases e:ph (ρ v)with
  |none=>rw[e]at h;simp[T.occ]at h;subst h;exact⟨hid v,e⟩
  |some t=>rw[e]at h;obtain⟨u,J,U⟩:=E3.1 h;have:=a (ρ v) (ρ u) ⟨hid v,t,u,e,J,rfl⟩;exact UQ hid n u w U a Ω
section
variable {V:List Int} {ph:Int->aW T} {ρ:Int->Int} {r:Int->Nat}
def uT(ph:Int->aW T)(ρ:Int->Int)(r:Int->Nat)(V:List Int):List au:=((sf V).filter (oM ph ρ)).map fun v=>⟨v,ht ph ρ r v⟩
theorem Pe(a:V.Nodup):iM (uT ph ρ r V):=by unfold uT;rw[iM,List.pairwise_map];exact((apB a).filter _)
theorem ZJ(f:V.Nodup)(a:ps V ph)(d:∀v,v∉V->ρ v=v)(v:Int):dx (uT ph ρ r V) v=if oM ph ρ v then some (ht ph ρ r v)else none:=by
 by_cases ae:oM ph ρ v=true
 ·rw[if_pos ae];have g:v∈V:=by
   refine Classical.byContradiction fun h=>?_;have J:=d v h;have U:ph v=none:=by cases e:ph v with
    |none=>rfl
    |some t=>exact absurd (a v t e).2.2 h
   rw[Gp.2 ⟨J,U⟩]at ae;cases ae
  have:(⟨v,ht ph ρ r v⟩:au)∈uT ph ρ r V:=iL.2 ⟨v,nN.2 ⟨(FK V).mem_iff.2 g,ae⟩,rfl⟩;exact wV (Pe f) this
 ·rw[if_neg ae];refine wW.2 fun b c e=>?_;obtain⟨u,J,rfl⟩:=iL.1 c;simp only at e;subst e;exact ae (nN.1 J).2
theorem apo(d:V.Nodup)(c:ps V ph)(g:∀v,v∉V->ρ v=v)(hid:∀v,ρ (ρ v)=ρ v)(hle:∀v,ρ v<=v)(f:∀z u,jN ph ρ z u->r u<r z):gf (uT ph ρ r V):=by
 refine⟨Pe d,fun b ae w hw=>?_,fun b ae w hw=>?_⟩
 ·obtain⟨u,J,rfl⟩:=iL.1 ae;rw[ZJ d c g];have:=UQ hid _ u w hw f Ω;rw[Gp.2 this];rfl
 ·obtain⟨u,J,rfl⟩:=iL.1 ae;have a:=(nN.1 J).2;simp only at hw⊢;cases e:ph (ρ u)with
  |none=>
   rw[DF e]at hw;cases hw;have U:=hle u;have i:ρ u≠u:=fun h=>by rw[Gp.2 ⟨h,by rw[h]at e;exact e⟩]at a;cases a
   omega
  |some t=>rw[A9 hid f e]at hw;have:=(c _ _ e).1;cases t<;>simp[T.ap,T.kind]at hw this
theorem ahI(hid:∀v,ρ (ρ v)=ρ v)(b:∀z u,jN ph ρ z u->r u<r z)(a:Int->T):kO ph ρ a↔∀v,a v=(ht ph ρ r v).ap a:=by
 constructor
 ·intro h;have:∀(n:Nat) (v:Int),r (ρ v)<n->a v=(ht ph ρ r v).ap a:=by
   intro n;induction n with
   |zero=>intro v h;omega
   |succ n c=>
    intro v f;cases e:ph (ρ v)with
    |none=>rw[DF e];exact h.1 v
    |some t=>rw[A9 hid b e,C6,h.1 v,h.2 _ t (hid v) e];refine vj fun w hw=>c w ?_;have:=b (ρ v) (ρ w) ⟨hid v,t,w,e,hw,rfl⟩;omega
  exact fun v=>this _ v (Nat.lt_succ_self _)
 ·intro h;refine⟨fun v=>by rw[h v,h (ρ v),<-A8 hid],fun x t d aM=>?_⟩;rw[h x,A9 hid b (by rw[d];exact aM),C6];exact vj fun w _=>(h w).symm
theorem apn(a:V.Nodup)(c:ps V ph)(d:∀v,v∉V->ρ v=v)(hid:∀v,ρ (ρ v)=ρ v)(f:∀z u,jN ph ρ z u->r u<r z)(b:Int->T):hs (uT ph ρ r V) b↔kO ph ρ b:=by
 rw[ahI hid f,apv (Pe a)];refine forall_congr' fun v=>?_;rw[cI,ZJ a c d];cases e:oM ph ρ v with
 |true=>simp
 |false=>obtain⟨J,U⟩:=Gp.1 e;rw[DF (by rw[J];exact U),J];simp
end
theorem apw(E:List (T×T))(V:NQ E):∃n o,Cz n E=some o/\jw [] E o/\∀c,qS n E bD.new=some (true,c)->(cy c.up).Nodup/\(∀v∈cy c.up,∃e∈E,e.1.occ v=true\/e.2.occ v=true)/\c.size=[]:=by
 have hi:mI bD.new id:=⟨⟨fun v u h=>by simp[bD.new,dp]at h,fun v _=>rfl⟩,fun x t h=>by simp[bD.new,bD.ph,bD.shd,dp]at h,⟨.var,fun v=>rfl,fun x t _ h=>by simp[bD.new,bD.ph,bD.shd,dp]at h⟩⟩;have B:∀a,kO bD.new.ph id a:=fun a=>⟨fun v=>rfl,fun x t _ h=>by simp[bD.new,bD.ph,bD.shd,dp]at h⟩;obtain⟨i,P,q,m,R,N⟩:=Dp E bD.new id hi (by simp[bD.new,cy]) V;obtain⟨m,H⟩:=m;obtain⟨f,c⟩:=P;cases f with
 |false=>refine⟨i,none,by simp[Cz,q i (eR _)],Gj fun a _ he=>N rfl a (B a) he,fun c h=>?_⟩;rw[q i (eR _)]at h;cases h
 |true=>
  obtain⟨ρ,g,a2,a3⟩:=R rfl;simp only at g a2 a3 m H;have L:∀n,i<=n->∀p,qS n E bD.new=some (true,p)->(cy p.up).Nodup/\(∀v∈cy p.up,∃e∈E,e.1.occ v=true\/e.2.occ v=true)/\p.size=[]:=fun n Y p h=>by rw[q n Y]at h;cases h;exact⟨a2,fun v j=>(H v j).resolve_left (by simp[bD.new,cy]),m.2.1⟩
  obtain⟨r,w⟩:=g.rank;have hid:=g.ru.idem;have F:∀v∈cy c.up,ρ v∈cy c.up:=fun v j=>(g.ru.mem j).1;have S:vb (cy c.up) c.ph ρ c:=⟨g.ru,rfl,rfl⟩;have hw:∀d,rH (cy c.up) c.ph ρ r d c:=fun d=>⟨S,fun z _=>.inl (by simp[bD.col,m.1,bD.new,dp])⟩;obtain⟨k,c2,o,G,X,Q,M,QG⟩:=apl g.sh hid w F (sf (cy c.up)) c [] (fun v j=>(FK _).mem_iff.1 j) hw Ψ (fun v j=>by simp at j);have dC:=apo (r:=r) a2 g.sh g.ru.no hid g.ru.le w;have D:∀a,hs (uT c.ph ρ r (cy c.up)) a↔hs [] a/\ka E a:=fun a=>by rw[apn a2 g.sh g.ru.no hid w,a3 a];exact⟨fun h=>⟨fun b ae=>by simp at ae,h.2⟩,fun h=>⟨B a,h.2⟩⟩
  have K:hZ (uT c.ph ρ r (cy c.up))↔(([]++(sf (cy c.up)).filter (oM c.ph ρ)).length<=400/\∀v∈[]++(sf (cy c.up)).filter (oM c.ph ρ),(ht c.ph ρ r v).size<=5000):=by unfold hZ uT;simp only[List.length_map,b3,iL,forall_exists_index,and_imp,forall_apply_eq_imp_iff₂]
  cases o with
  |none=>refine⟨max i k,none,by simp[Cz,q (max i k) Ω,FH,G (max i k) Ω],?_,L _ Ω⟩;exact fun aj J U Z=>QG rfl (K.1 (Ud dC J (fun a O=>(D a).2 (U a O)) Z))
  |some l=>
   obtain⟨s,aC,W⟩:=M l rfl;have A:sy (cy c.up) c.ph ρ r c2:=⟨X,fun x t h=>by rw[Q,m.2.2]at h;simp[bD.new,dp]at h⟩;simp only[b3]at s;obtain⟨y,c3,d1⟩:=apm g.sh hid w F l c2 (fun v j=>by rw[s]at j;exact(FK _).mem_iff.1 (nN.1 j).1) A;refine⟨max (max i k) y,some (uT c.ph ρ r (cy c.up)),?_,⟨⟨dC,K.2 ?_⟩,D⟩,L _ Ω⟩
   ·simp only[Cz,q (max (max i k) y) Ω,k9,Bool.true_eq_false,if_false,FH,G (max (max i k) y) Ω,d1 (max (max i k) y) Ω,ni];rw[s];rfl
   ·rw[b3,<-s];exact⟨aC,W⟩
def ig(s:List au):List (T×T):=s.map fun b=>(.var b.v,b.t)
theorem apu{s:List au}{a:Int->T}:ka (ig s) a↔hs s a:=by simp[ka,ig,hs,T.ap]
theorem abH{s:List au}{E:List (T×T)}{o:aW (List au)}:jw [] (ig s++E) o↔jw s E o:=by
 have h:∀a,(hs [] a/\ka (ig s++E) a)↔(hs s a/\ka E a):=fun a=>by rw[FI,apu];exact⟨fun h=>h.2,fun h=>⟨fun b ae=>by simp at ae,h⟩⟩
 exact⟨C4 h,C4 fun a=>(h a).symm⟩
end
section
open Go
open Classical in
noncomputable def mgu(s:List au)(E:List (T×T)):aW (List au):=if h:∃o,jw s E o then h.choose else none
theorem tt{s:List au}{E:List (T×T)}{o:aW (List au)}(h:jw s E o):mgu s E=o:=by have a:∃o,jw s E o:=⟨o,h⟩;unfold mgu;rw[dif_pos a];exact abI a.choose_spec h
def rj(s:List au):Prop:= ∀b∈s,(0<=b.v/\b.v<=100000)/\b.t.ok=true
theorem Qz{d:Int->T}{t:T}(aM:t.ok=true)(h:∀v,t.occ v=true->(d v).ok=true):(t.ap d).ok=true:=by
 induction t with
 |var n=>exact h n (by simp[T.occ])
 |pair a b f e=>simp only[T.ok,cD]at aM;simp only[T.ap,T.ok,cD];exact⟨f aM.1 fun v c=>h v (by simp[T.occ,c]),e aM.2 fun v c=>h v (by simp[T.occ,c])⟩
 |_=>exact aM
theorem yh{t:T}(aM:t.ok=true){v:Int}(h:t.occ v=true):0<=v/\v<=100000:=by
 induction t with
 |var n=>simp[T.occ]at h;subst h;simpa[T.ok]using aM
 |pair a b d c=>
  simp only[T.ok,cD]at aM;simp only[T.occ,nL]at h;rcases h with h|h
  ·exact d aM.1 h
  ·exact c aM.2 h
 |_=>simp[T.occ]at h
theorem Jm{s:List au}(a:rj s){t:T}(aM:t.ok=true):(t.ap (cI s)).ok=true:=Qz aM fun v b=>by
 unfold cI;cases e:dx s v with
 |none=>have:=yh aM b;simpa[T.ok]using this
 |some x=>exact(a _ (kQ e)).2
theorem Da{s:List au}(a:rj s){v:Int}{t:T}(e:0<=v/\v<=100000)(aM:t.ok=true){d:List au}(h:oL s v t=some d):rj d:=by
 unfold oL at h;split at h
 ·cases h;intro b ae;rcases re.1 ae with rfl|⟨c,ax,rfl⟩
  ·exact⟨e,Jm a aM⟩
  ·refine⟨(a c ax).1,Qz (a c ax).2 fun w hw=>?_⟩;unfold one;split
   ·exact Jm a aM
   ·have:=yh (a c ax).2 hw;simpa[T.ok]using this
 ·cases h
theorem aa1{s:List au}(a:rj s){t:T}(aM:t.ok=true):(hL s t).ok=true:=by
 cases t with
 |var n=>have:=Jm a aM;simpa[hL,T.ap]using this
 |_=>exact aM
theorem PI:∀(n:Nat) (s:List au) (a b:T) (g:List au),rj s->a.ok=true->b.ok=true->lD n s a b=some (some g)->rj g
 |0,_,_,_,_,_,_,_,h=>by simp[lD]at h
 |n+1,s,a,b,g,c,m,ae,h=>by
  have d:=aa1 c m;have e:=aa1 c ae;simp only[lD]at h;generalize hL s a=x at h d;generalize hL s b=y at h e;have f:∀{i:Int},(T.var i).ok=true->0<=i/\i<=100000:=fun h=>yh h (by simp[T.occ]);cases x with
  |var i=>
   cases y with
   |var j=>
    simp only[kK,dv]at h;split at h
    ·exact Da c (f e) d h
    ·split at h
     ·cases h;exact c
     ·exact Da c (f d) e h
   |_=>simp only[kK,dv]at h;exact Da c (f d) e h
  |pair l a2=>
   cases y with
   |var j=>simp only[kK,dv]at h;exact Da c (f e) d h
   |pair k o=>
    simp only[T.ok,cD]at d e;simp only[kK]at h;split at h
    ·cases h
    ·cases h
    ·rename_i s1 p;exact PI n s1 a2 o g (PI n s l k s1 c d.1 e.1 p) d.2 e.2 h
   |_=>simp[kK]at h
  |_=>
   cases y with
   |var j=>simp only[kK,dv]at h;exact Da c (f e) d h
   |_=>
    simp only[kK,dv]at h;split at h
    ·cases h;exact c
    ·cases h
def oy:T->List Int
 | .var n=>[n]
 | .pair a b=>oy a++oy b
 |_=>[]
theorem zG{t:T}{v:Int}(h:t.occ v=true):v∈oy t:=by
 induction t with
 |var n=>simp[T.occ]at h;subst h;simp[oy]
 |pair a b d c=>simp only[T.occ,nL]at h;simp only[oy,kr];exact h.imp d c
 |_=>simp[T.occ]at h
theorem JE{s:List au}(d:gf s)(e:hZ s)(a b:T):∃n o,lD n s a b=some o/\jw s [(a,b)] o:=by obtain⟨n,o,J,U⟩:=aao (s.flatMap (fun b=>b.v::oy b.t)++oy a++oy b) _ _ s a b d e (fun c ax=>⟨by simp only[kr,List.mem_flatMap];exact .inl (.inl ⟨c,ax,Ψ⟩),fun w hw=>by simp only[kr,List.mem_flatMap];exact .inl (.inl ⟨c,ax,by simp[zG hw]⟩)⟩) (fun w hw=>by simp[zG hw]) (fun w hw=>by simp[zG hw]) rfl rfl;exact⟨n,o,J,U.1⟩
theorem Qp{s:List au}{e:T×T}{E:List (T×T)}{s1:List au}(h:jw s [e] (some s1)){o:aW (List au)}(U:jw s1 E o):jw s (e::E) o:=Qo (E:=[e]) h U
theorem Iq{s:List au}(b:gf s)(c:hZ s)(E:List (T×T)):jw s E (mgu s E):=by
 induction E generalizing s with
 |nil=>rw[tt (J9 b c)];exact J9 b c
 |cons e E d=>
  obtain⟨n,o,_,U⟩:=JE b c e.1 e.2;cases o with
  |none=>have a:jw s (e::E) none:=J8 E U;rw[tt a];exact a
  |some s1=>have a:=Qp U (d U.1.1 U.1.2);rw[tt a];exact a
theorem NB{s:List au}(a:gf s)(b:hZ s):mgu s []=some s:=tt (J9 a b)
theorem NA{s:List au}(b:gf s)(c:hZ s)(e:T×T)(E:List (T×T)):mgu s (e::E)=match mgu s [e]with|some s1=>mgu s1 E|none=>none:=by
 have J:=Iq b c [e];cases h:mgu s [e]with
 |none=>rw[h]at J;have a:jw s (e::E) none:=J8 E J;exact tt a
 |some s1=>rw[h]at J;exact tt (Qp J (Iq J.1.1 J.1.2 E))
theorem BU{s:List au}(b:gf s)(c:hZ s){E:List (T×T)}{a:List au}(h:mgu s E=some a):gf a/\hZ a:=by have J:=Iq b c E;rw[h]at J;exact J.1
theorem akN{s:List au}(c:gf s)(d:hZ s)(ak:rj s){E:List (T×T)}(a:∀e∈E,e.1.ok=true/\e.2.ok=true){f:List au}(h:mgu s E=some f):rj f:=by
 induction E generalizing s with
 |nil=>rw[NB c d]at h;cases h;exact ak
 |cons e E j=>
  rw[NA c d]at h;split at h
  ·rename_i s1 J;obtain⟨n,o,U,b⟩:=JE c d e.1 e.2;have g:=tt b;rw[J]at g;subst g;exact j b.1.1 b.1.2 (PI n s e.1 e.2 s1 ak (a e Ψ).1 (a e Ψ).2 U) (fun i he=>a i (by simp[he])) h
  ·cases h
theorem WJ{l:List Int}(f:l.Nodup)(h:∀v∈l,0<=v/\v<=100000):l.length<=100001:=by
 have J:(l.map Int.toNat).Nodup:=by rw[List.nodup_iff_pairwise_ne,List.pairwise_map];exact arS (fun{a b} d ae c e=>c (by have:=h a d;have:=h b ae;omega)) f
 have:=Qb J (l₂:=List.range 100001) (fun x g=>by obtain⟨v,i,rfl⟩:=iL.1 g;have:=h v i;simp;omega)
 simpa using this
end
section
open Go
structure bN where
 v:Int
 k:Int
 deriving DecidableEq,Inhabited
def bN.e(b:bN):ah:= .agg [.int .i64 b.v,.int .i64 b.k]
@[simp]theorem bN.eta(b:bN):bN.mk b.v b.k=b:=rfl
@[simp]theorem Qu(v k:Int):ah.agg [.int .i64 v,.int .i64 k]=(bN.mk v k).e:=rfl
@[simp]theorem aue(S:aB->Prop)(b:bN):av S b.e=True:=by simp[bN.e,-Qu]
@[simp]theorem avV(b:bN):de b.e=b.e:=by simp[bN.e,-Qu]
theorem WV(S:aB->Prop):∀l:List bN,aA S (l.map bN.e)
 |[]=>by simp[aA]
 |x::xs=>by simp[aA,WV S xs]
@[simp]theorem atV(S:aB->Prop)(l:List bN):aA S (l.map bN.e)=True:=eq_true (WV S l)
@[simp]theorem Po:∀l:List bN,cK (l.map bN.e)=l.map bN.e
 |[]=>rfl
 |x::xs=>by simp[cK,Po xs]
@[simp]theorem avy(b:bN):e5 b.e=true:=rfl
@[simp]theorem asv(b:bN):cells b.e=[.int .i64 b.v,.int .i64 b.k]:=rfl
@[simp]theorem atD(b:bN):Pv.isAgg 2 b.e:=⟨_,rfl,rfl⟩
@[simp]theorem asY(off:Nat)(a:Bool)(sz:Nat)(b:bN):vu off a sz b.e=if a then some (off+sz<=2,.agg (([.int .i64 b.v,.int .i64 b.k].drop off).take sz))else(([.int .i64 b.v,.int .i64 b.k]:List ah)[off]?).map fun p=>(True,p):=rfl
@[simp]theorem asQ(off:Nat)(a:Bool)(sz:Nat)(b:bN):sG off a sz (.eptr b.e)=if a then some (off+sz<=2,.eptr (.agg (([.int .i64 b.v,.int .i64 b.k].drop off).take sz)))else(([.int .i64 b.v,.int .i64 b.k]:List ah)[off]?).map fun p=>(e5 p=true/\cells p=[p],.eptr p):=rfl
structure bk where
 v:Int
 s:List bV
 deriving DecidableEq,Inhabited
def bk.e(b:bk):ah:= .agg [.int .i64 b.v,.str b.s]
@[simp]theorem bk.eta(b:bk):bk.mk b.v b.s=b:=rfl
@[simp]theorem Kh(v:Int)(s:List bV):ah.agg [.int .i64 v,.str s]=(bk.mk v s).e:=rfl
@[simp]theorem aj7(S:aB->Prop)(b:bk):av S b.e=True:=by simp[bk.e,-Kh]
@[simp]theorem avZ(b:bk):de b.e=b.e:=by simp[bk.e,-Kh]
theorem M3(S:aB->Prop):∀l:List bk,aA S (l.map bk.e)
 |[]=>by simp[aA]
 |x::xs=>by simp[aA,M3 S xs]
@[simp]theorem WX(S:aB->Prop)(l:List bk):aA S (l.map bk.e)=True:=eq_true (M3 S l)
@[simp]theorem Pp:∀l:List bk,cK (l.map bk.e)=l.map bk.e
 |[]=>rfl
 |x::xs=>by simp[cK,Pp xs]
@[simp]theorem avA(b:bk):e5 b.e=true:=rfl
@[simp]theorem asx(b:bk):cells b.e=[.int .i64 b.v,.str b.s]:=rfl
@[simp]theorem atF(b:bk):Pv.isAgg 2 b.e:=⟨_,rfl,rfl⟩
@[simp]theorem asZ(off:Nat)(a:Bool)(sz:Nat)(b:bk):vu off a sz b.e=if a then some (off+sz<=2,.agg (([.int .i64 b.v,.str b.s].drop off).take sz))else(([.int .i64 b.v,.str b.s]:List ah)[off]?).map fun p=>(True,p):=rfl
@[simp]theorem asR(off:Nat)(a:Bool)(sz:Nat)(b:bk):sG off a sz (.eptr b.e)=if a then some (off+sz<=2,.eptr (.agg (([.int .i64 b.v,.str b.s].drop off).take sz)))else(([.int .i64 b.v,.str b.s]:List ah)[off]?).map fun p=>(e5 p=true/\cells p=[p],.eptr p):=rfl
def fJ(x y:bk):Int:=if eX x.v y.v=0 then lB x.s y.s else eX x.v y.v
theorem mD:j7 fJ:=by
 refine⟨fun x y=>?_,fun x y z J U=>?_,fun x y=>?_⟩
 ·unfold fJ;have:=k3.neg x.v y.v;have:=Fb.neg x.s y.s;by_cases e:eX x.v y.v=0
  ·rw[if_pos e,if_pos Ω];omega
  ·rw[if_neg e,if_neg Ω];omega
 ·unfold fJ at J U⊢;by_cases b:eX x.v y.v=0
  ·rw[if_pos b]at J;rw[(k3.zero _ _).1 b];by_cases a:eX y.v z.v=0
   ·rw[if_pos a]at U⊢;exact Fb.tr _ _ _ J U
   ·rw[if_neg a]at U⊢;exact U
  ·rw[if_neg b]at J;have c:eX x.v y.v<0:=Ω
   by_cases a:eX y.v z.v=0
   ·rw[<-(k3.zero _ _).1 a,if_neg b];exact J
   ·rw[if_neg a]at U;have:=k3.ltr c U;rw[if_neg Ω];omega
 ·unfold fJ;by_cases e:eX x.v y.v=0
  ·rw[if_pos e,Fb.zero];have:=(k3.zero _ _).1 e;cases x;cases y;simp_all
  ·rw[if_neg e];exact⟨fun h=>absurd h e,fun h=>by rw[h]at e;exact absurd (k3.refl _) e⟩
def uL(x y:bk):Bool:=decide (x.v<y.v)||(x.v==y.v&&hX x.s y.s)
theorem acd(a:List bV):hX a a=false:=by
 cases h:hX a a with
 |false=>rfl
 |true=>rw[Kn a a h]at h;cases h
theorem XH(x y:bk):uL x y=ij fJ x y:=by
 unfold uL ij fJ;rw[ry];simp only[nL,e8,cD,dS];by_cases e:x.v=y.v
 ·have:eX x.v y.v=0:=(k3.zero _ _).2 e;rw[if_pos this];simp only[e,Int.lt_irrefl,false_or,true_and,lB];by_cases a:x.s=y.s
  ·rw[if_pos a,a,acd];simp
  ·rw[if_neg a];split<;>simp_all
 ·have b:¬eX x.v y.v=0:=fun h=>e ((k3.zero _ _).1 h);rw[if_neg b];simp only[e,false_and,or_false];unfold eX;(repeat' split)<;>omega
def iP{α:Type}(p:α->Prop)(r:α->α->Prop)(l:List α)(i:Nat):Prop:= ∀b,l[i]? =some b->p b/\∀c,0<i->l[i-1]? =some c->r c b
theorem Qr{α:Type}{p:α->Prop}{r:α->α->Prop}(aM:∀a b c,r a b->r b c->r a c){l:List α}:(∀i,i<l.length->iP p r l i)↔(∀b∈l,p b)/\l.Pairwise r:=by
 constructor
 ·intro h;refine⟨fun b ae=>?_,?_⟩
  ·obtain⟨i,hi,e⟩:=oC ae;exact(h i hi b (by rw[cl hi,e])).1
  ·rw[qN];have f:∀i (h:i+1<l.length),r l[i] l[i+1]:=fun i hi=>(h (i+1) hi l[i+1] (by simp[cl hi])).2 l[i] Ω (by simp[cl (show i<l.length by omega)]);have:∀(d i:Nat) (h:i+d+1<l.length),r l[i] l[i+d+1]:=by
    intro d;induction d with
    |zero=>intro i h;exact f i h
    |succ d g=>intro i h;exact aM _ _ _ (g i Ω) (f (i+d+1) Ω)
   intro i j hi q n;have:=this (j-i-1) i Ω;simpa[show i+(j-i-1)+1=j from by omega]using this
 ·rintro⟨J,U⟩ i hi b ae;refine⟨J b (eQ ae),fun c o ax=>?_⟩;obtain⟨g1,k⟩:=fy.1 ax;obtain⟨g2,m⟩:=fy.1 ae;have:=qN.1 U (i-1) i g1 g2 Ω;rw[k,m]at this;exact this
def kY{α:Type}(c:α->α->Int)(x:α):List α->List α
 |[]=>[x]
 |y::l=>if c y x<0 then y::kY c x l else if c y x=0 then y::l else x::y::l
section
variable {α:Type} {c:α->α->Int}
theorem Im(ax:j7 c){x z:α}:∀{l:List α},z∈kY c x l↔z=x\/z∈l
 |[]=>by simp[kY]
 |y::l=>by
  simp only[kY];split
  ·simp only[gp,Im ax (l:=l)];constructor
   ·rintro(h|h|h)
    ·exact .inr (.inl h)
    ·exact .inl h
    ·exact .inr (.inr h)
   ·rintro(h|h|h)
    ·exact .inr (.inl h)
    ·exact .inl h
    ·exact .inr (.inr h)
  ·split
   ·rename_i h;obtain rfl:=(ax.zero _ _).1 h;simp
   ·simp
theorem MK(ax:j7 c){x:α}:∀{l:List α},ir c l->ir c (kY c x l)
 |[],_=>by simp[kY,ir]
 |y::l,h=>by
  obtain⟨J,U⟩:=nO.1 h;simp only[kY];split
  ·rename_i d;refine nO.2 ⟨fun z a=>?_,MK ax U⟩;rcases(Im ax).1 a with rfl|a
   ·exact d
   ·exact J z a
  ·split
   ·exact h
   ·rename_i d e;have b:c x y<0:=by have:=ax.neg x y;omega
    refine nO.2 ⟨fun z a=>?_,h⟩;rcases gp.1 a with rfl|a
    ·exact b
    ·exact ax.ltr b (by have:=J z a;omega)
theorem MM(x:α):∀l:List α,(kY c x l).length<=l.length+1
 |[]=>by simp[kY]
 |y::l=>by
  have:=MM x l;simp only[kY];split
  ·simp;omega
  ·split<;>simp
theorem ML(ax:j7 c)(x:α):∀(l:List α) (k:Nat),(∀i y,i<k->l[i]? =some y->c y x<0)->(∀y,l[k]? =some y->0<=c y x)->k<=l.length->kY c x l=if(match l[k]? with|some y=>decide (c y x=0)|none=>false)=true then l else l.take k++x::l.drop k
 |[],k,_,_,a=>by simp at a;subst a;simp[kY]
 |y::l,0,_,U,_=>by
  have:=U y rfl;by_cases e:c y x=0
  ·simp[kY,e]
  ·have g:¬c y x<0:=Ω
   simp[kY,g,e]
 |y::l,k+1,J,U,a=>by
  have f:=J 0 y Ω rfl;simp only[kY,if_pos f,List.take_succ_cons,List.drop_succ_cons,bX,List.getElem?_cons_succ];rw[ML ax x l k (fun i d hi b=>J (i+1) d Ω (by simpa using b)) (fun d b=>U d (by simpa using b)) (by simpa using a)];cases l[k]? with
  |none=>rfl
  |some z=>simp only[];split<;>rfl
end
structure jl (l:List bN):Prop where
 at':∀x∈l,(0<=x.v/\x.v<=100000)/\(x.k=2\/x.k=3)
 asc:l.Pairwise fun x y=>x.v<y.v
def l7(l:List bN)(v:Int):aW Int:=(l.find? fun x=>x.v==v).map (·.k)
def mA(x:bN):List bN->List bN
 |[]=>[x]
 |y::l=>if y.v<x.v then y::mA x l else x::y::l
theorem Io{x z:bN}:∀{l:List bN},z∈mA x l↔z=x\/z∈l
 |[]=>by simp[mA]
 |y::l=>by
  simp only[mA];split
  ·simp only[gp,Io (l:=l)];constructor
   ·rintro(h|h|h)
    ·exact .inr (.inl h)
    ·exact .inl h
    ·exact .inr (.inr h)
   ·rintro(h|h|h)
    ·exact .inr (.inl h)
    ·exact .inl h
    ·exact .inr (.inr h)
  ·simp
theorem MN(x:bN):∀l:List bN,(mA x l).Perm (x::l)
 |[]=>.refl _
 |y::l=>by
  simp only[mA];split
  ·exact((MN x l).cons y).trans (awq _ _ _)
  ·exact .refl _
theorem HS{x:bN}:∀{l:List bN},l.Pairwise (fun x y=>x.v<y.v)->(∀y∈l,y.v≠x.v)->(mA x l).Pairwise fun x y=>x.v<y.v
 |[],_,_=>by simp[mA]
 |y::l,h,b=>by
  obtain⟨J,U⟩:=nO.1 h;have d:=b y Ψ;simp only[mA];split
  ·rename_i c;refine nO.2 ⟨fun z a=>?_,HS U fun z a=>b z (by simp[a])⟩;rcases Io.1 a with rfl|a
   ·exact c
   ·exact J z a
  ·refine nO.2 ⟨fun z a=>?_,h⟩;rcases gp.1 a with rfl|a
   ·omega
   ·have:=J z a;omega
theorem Wh(x:bN):∀(l:List bN) (k:Nat),(∀i y,i<k->l[i]? =some y->y.v<x.v)->(∀y,l[k]? =some y->¬y.v<x.v)->k<=l.length->mA x l=l.take k++x::l.drop k
 |[],k,_,_,a=>by simp at a;subst a;rfl
 |y::l,0,_,U,_=>by have:=U y rfl;simp[mA,this]
 |y::l,k+1,J,U,a=>by have c:=J 0 y Ω rfl;simp only[mA,if_pos c,List.take_succ_cons,List.drop_succ_cons,bX];rw[Wh x l k (fun i d hi b=>J (i+1) d Ω (by simpa using b)) (fun d b=>U d (by simpa using b)) (by simpa using a)]
theorem WC{l a:List bN}(b:a.Perm l)(d:l.Pairwise fun x y=>x.v<y.v)(g:a.Pairwise fun x y=>decide (y.v<x.v)=false):a=l:=by
 refine Qc (le:=fun x y:bN=>x.v<=y.v) (fun x y k m J U=>?_) (g.imp Ψ) (d.imp Ω) b;have f:x∈l:=b.mem_iff.1 k;have e:y∈l:=m;obtain⟨i,hi,rfl⟩:=oC f;obtain⟨j,c,rfl⟩:=oC e;have:=qN.1 d;rcases Nat.lt_trichotomy i j with h|h|h
 ·have:=this i j hi c h;omega
 ·subst h;rfl
 ·have:=this j i c hi h;omega
theorem zy{l:List bN}{v:Int}:l7 l v=none↔∀x∈l,x.v≠v:=by simp[l7]
theorem WL{l:List bN}{v k:Int}(h:l7 l v=some k):(⟨v,k⟩:bN)∈l:=by unfold l7 at h;rw[gD]at h;obtain⟨x,J,rfl⟩:=h;have U:=List.find?_some J;simp at U;subst U;exact List.mem_of_find?_eq_some J
theorem H6{l:List bN}(a:l.Pairwise fun x y=>x.v<y.v){x:bN}(h:x∈l):l7 l x.v=some x.k:=by
 induction l with
 |nil=>simp at h
 |cons y l b=>
  obtain⟨J,U⟩:=nO.1 a;rcases gp.1 h with rfl|h
  ·simp[l7]
  ·have:=J x h;have e:=b U h;unfold l7 at e⊢;rw[List.find?_cons_of_neg d7];exact e
def la(l:List bN)(t:T)(k:Int):aW (List bN):=match t with
 | .var n=>match l7 l n with
  |some a=>if a=k then some l else none
  |none=>some (mA ⟨n,k⟩ l)
 |t=>if t.kind=k then some l else none
theorem Ka{l c:List bN}{t:T}{k:Int}(h:jl l)(aM:t.ok=true)(d:k=2\/k=3)(he:la l t k=some c):jl c:=by
 unfold la at he;split at he
 ·rename_i n;split at he
  ·split at he
   ·cases he;exact h
   ·cases he
  ·rename_i b;cases he;rw[zy]at b;refine⟨fun x a=>?_,HS h.asc b⟩;rcases Io.1 a with rfl|a
   ·exact⟨by simpa[T.ok]using aM,d⟩
   ·exact h.at' x a
 ·split at he
  ·cases he;exact h
  ·cases he
theorem xE{l:List bN}(h:jl l):l.length<=100001:=by
 have J:(l.map (·.v)).Nodup:=by rw[List.nodup_iff_pairwise_ne,List.pairwise_map];exact h.asc.imp fun h e=>Ω
 have:=WJ J fun v b=>by obtain⟨x,a,rfl⟩:=iL.1 b;exact(h.at' x a).1
 simpa using this
def gA(s:List au):List bN->List bN->aW (List bN)
 |[],acc=>some acc
 |x::r,acc=>match la acc (cI s x.v) x.k with
  |some a=>gA s r a
  |none=>none
structure iX (l:List bk):Prop where
 at':∀x∈l,(0<=x.v/\x.v<=100000)/\iW x.s=true
 asc:ir fJ l
def _root_.Go.Pv.T.has(s:List bV):T->Bool
 | .sym n=>n==s
 | .pair a b=>a.has s||b.has s
 |_=>false
def mK(l:List bk)(t:T)(s:List bV):aW (List bk):=if t.has s then none else some (asc fJ (l++(oy t).map fun v=>⟨v,s⟩))
theorem FX{t:T}{v:Int}:v∈oy t↔t.occ v=true:=by
 refine⟨fun h=>?_,zG⟩;induction t with
 |var n=>simp[oy]at h;simp[T.occ,h]
 |pair a b d c=>simp only[oy,kr]at h;simp only[T.occ,nL];exact h.imp d c
 |_=>simp[oy]at h
theorem EU{l a:List bk}{t:T}{s:List bV}(h:mK l t s=some a)(x:bk):x∈a↔x∈l\/(x.s=s/\t.occ x.v=true):=by
 unfold mK at h;split at h
 ·cases h
 ·cases h;rw[Xt,kr,iL];refine or_congr_right ?_;constructor
  ·rintro⟨v,b,rfl⟩;exact⟨rfl,FX.1 b⟩
  ·rintro⟨J,U⟩;exact⟨x.v,FX.2 U,by rw[<-J]⟩
theorem Kb{l a:List bk}{t:T}{s:List bV}(b:t.has s=false)(c:ir fJ a)(hm:∀x,x∈a↔x∈l\/(x.s=s/\t.occ x.v=true)):mK l t s=some a:=by
 have h:mK l t s=some (asc fJ (l++(oy t).map fun v=>⟨v,s⟩)):=by unfold mK;rw[b];rfl
 rw[h];congr 1;exact(Ki mD _).ext mD c fun x=>by rw[hm,<-EU h]
theorem Kc{l a:List bk}{t:T}{s:List bV}(h:iX l)(aM:t.ok=true)(b:iW s=true)(he:mK l t s=some a):iX a:=by
 refine⟨fun x c=>?_,?_⟩
 ·rcases(EU he x).1 c with J|⟨J,U⟩
  ·exact h.at' x J
  ·exact⟨yh aM U,by rw[J];exact b⟩
 ·unfold mK at he;split at he
  ·cases he
  ·cases he;exact Ki mD _
def gB(s:List au):List bk->List bk->aW (List bk)
 |[],acc=>some acc
 |x::r,acc=>match mK acc (cI s x.v) x.s with
  |some a=>gB s r a
  |none=>none
end
end Go.Pv
namespace Go.Proofs.YtfeencekjcjalaaGreatDoor
section
open Go Go.Pv
def SO:C:=(aa [eg 2 eI] (aa [I 3 0,mf 4 eI [(0,1,(gi 1)),(1,1,(.t 3))],b7 4 2 4] .ret))
def Rz:C:=(aa [c8 (.box 2 (some 101) (.t 0)),c8 (.box 3 (some 102) (.t 1)),b1 4 0] (aa [aw 6 1 2,cp 7 6,bG 8 (.mkf 114 [.t 2,.t 3]),cq 9 113 7 8,I 5 9] (.seq (.seq (.drawn true 24 [I 10 5,aw 11 1 2,cp 12 11,bp 13 .lss 10 12,I 14 13,ay 14 true (aw 15 1 2),cg 14 true 16 5,ay 14 true (cx 17 5 15 16),ay 14 true (aH 18 0 1 17),ay 14 true (aw 19 1 18),ay 14 true (aw 20 1 3),ay 14 true (bp 21 .eql 19 20),ef 22 14 21]) (aU 22 (aa [I 23 5,I 4 23] .ret) .skip)) (aa [b1 4 (-1)] .ret))))
def RI:C:=(aa [c8 (.box 2 (some 201) (.t 0)),dc 3 1,eg 4 eI,bt 5 false] (aa [bg 6 4 3,bG 7 (.mkf 117 [.t 2]),cq 8 116 6 7,dn 9 0 8,dn 10 1 8,b7 4 4 9,I 5 10] .ret))
def SL:C:=(aa [dc 2 0,dc 3 1,eg 4 eI] (aa [bg 5 4 2,bg 6 4 3,eD 7 4 71 [.t 5,.t 6],mf 8 eI [(0,1,(gi 4)),(3,1,(.t 7))],b7 4 4 8] .ret))
def RP:C:=(aa [bt 2 false] (.seq (aa [I 5 0,cp 6 5,b1 7 0] (fR 8 7 6 (.seq (.block 1 (aa [cx 9 4 5 7,bg 10 4 9,eg 4 eI,b7 4 4 10] (aa [bg 11 4 4,cG 12 101 11,cJ 13 12] (aU 13 (aa [bt 2 false] .ret) .skip)))) (.region [aT 14 .add 7 1,I 7 14])))) (aa [bt 2 true] .ret)))
def Rj:C:=(aa [dc 1 0,bt 2 false] (aa [bg 3 4 1,dU 4 149 [.t 3,(gi 5000)],aT 5 .gtr 4 0,I 2 5] .ret))
def Sf:C:=(aa [b1 4 0] (aa [I 8 0,b1 5 0,I 6 8] (.seq (.block 0 (.loop (.seq (aa [I 9 5,I 10 6,bp 11 .lss 9 10] (aU 11 .skip (.exit 0))) (.block 1 (aa [I 12 5,I 13 6,bp 14 .add 12 13,bG 15 (.conv .u64 (.t 14)),bG 16 (.bin .shr false (.t 15) (.c (.int .u64 1))),bG 17 (.conv .i64 (.t 16)),I 7 17] (aa [I 18 1,I 19 7,hj 20 18 [.t 19],cJ 21 20] (aU 21 (.region [I 22 7,aT 23 .add 22 1,I 5 23]) (.region [I 24 7,I 6 24])))))))) (aa [I 25 5,I 4 25] .ret))))
def RA:C:=(aa [bt 4 false] (.seq (.drawn true 12 [aw 5 1 1,I 6 0,cx 7 5 5 6,aH 8 0 1 7,aw 9 1 8,aw 10 1 2,bp 11 .geq 9 10,I 4 11]) .ret))
def RK:C:=(aa [dc 2 0,c8 (.box 3 (some 202) (.t 1)),eg 4 eI,bt 5 false] (aa [bg 7 4 2,bG 8 (.mkf 159 [.t 3]),cq 9 158 7 8,I 6 9] (.seq (aa [I 10 6,aT 11 .gtr 10 5000] (aU 11 (aa [mf 12 eI [],b7 4 4 12,bt 5 false] .ret) .skip)) (aa [bg 13 4 2,aw 14 1 3,cq 15 146 13 14,b7 4 4 15,bt 5 true] .ret))))
def RJ:C:=(aa [eg 3 eI,bt 4 false] (.seq (aa [aw 6 1 1,I 7 0,cq 8 55 6 7,I 5 8] (aa [I 9 5,aT 10 .geq 9 0] (aU 10 (aa [aw 11 1 1,I 12 5,cx 13 5 11 12,h9 14 1 4 13,bg 15 4 14,b7 4 3 15,bt 4 true] .ret) .skip))) (aa [mf 16 eI [],b7 4 3 16,bt 4 false] .ret)))
def Rk:C:=(aa [bt 2 false] (.seq (aa [I 5 0,cp 6 5,aT 7 .gtr 6 400] (aU 7 (aa [bt 2 false] .ret) .skip)) (.seq (aa [I 8 0,cp 9 8,b1 10 0] (fR 11 10 9 (.seq (.block 1 (aa [I 12 10,cx 13 5 8 10,bg 14 5 13,eg 4 ko,I 3 12,b7 5 4 14] (.seq (.drawn true 45 [aH 15 0 1 4,aw 16 1 15,aT 17 .lss 16 0,I 18 17,ay 18 false (aH 19 0 1 4),ay 18 false (aw 20 1 19),ay 18 false (aT 21 .gtr 20 100000),dy 22 18 21,I 23 22,cg 23 false 24 3,ay 23 false (aT 25 .gtr 24 0),cg 23 false 26 25,cg 26 true 27 0,cg 26 true 28 3,ay 26 true (aT 29 .sub 28 1),ay 26 true (cx 30 5 27 29),ay 26 true (aH 31 0 1 30),ay 26 true (aw 32 1 31),ay 26 true (aH 33 0 1 4),ay 26 true (aw 34 1 33),ay 26 true (bp 35 .geq 32 34),ay 23 false (ef 36 26 35),dy 37 23 36,I 38 37,ay 38 false (h9 39 1 4 4),ay 38 false (bg 40 4 39),ay 38 false (cG 41 101 40),ay 38 false (cJ 42 41),dy 43 38 42]) (aU 43 (aa [bt 2 false] .ret) .skip)))) (.region [aT 44 .add 10 1,I 10 44])))) (aa [bt 2 true] .ret))))
def yA:C:=(aa [dc 2 0] (.seq (aa [aH 4 0 1 2,aw 5 1 4,aT 6 .eql 5 1] (aU 6 (.region [I 7 1,aH 8 1 1 2,aw 9 1 8,hj 10 7 [.t 9]]) .skip)) (aa [aH 11 0 1 2,aw 12 1 11,aT 13 .eql 12 4] (aU 13 (aa [aH 14 3 1 2,aw 15 1 14,im 16 4 15 0,bg 17 4 16,I 18 1,cq 19 131 17 18] (.region [aH 20 3 1 2,aw 21 1 20,im 22 4 21 1,bg 23 4 22,I 24 1,cq 25 131 23 24])) .skip))))
def Q8:C:=(aa [bt 2 false] (.seq (aa [I 4 0,bG 5 (.slen (.t 4)),aT 6 .lss 5 1,I 7 6,cg 7 false 8 0,ay 7 false (bG 9 (.slen (.t 8))),ay 7 false (aT 10 .gtr 9 12),dy 11 7 10,I 12 11,cg 12 false 13 0,ay 12 false (bG 14 (.sidx (.t 13) (gi 0))),ay 12 false (bG 15 (.bin .lss false (.t 14) (.c (.int .u8 97)))),dy 16 12 15,I 17 16,cg 17 false 18 0,ay 17 false (bG 19 (.sidx (.t 18) (gi 0))),ay 17 false (bG 20 (.bin .gtr false (.t 19) (.c (.int .u8 122)))),dy 21 17 20] (aU 21 (aa [bt 2 false] .ret) .skip)) (.seq (aa [b1 3 1] (.block 0 (.loop (.seq (aa [I 22 3,I 23 0,bG 24 (.slen (.t 23)),bp 25 .lss 22 24] (aU 25 .skip (.exit 0))) (.seq (.block 1 (aa [I 28 0,I 29 3,bG 30 (.sidx (.t 28) (.t 29)),bG 31 (.bin .geq false (.t 30) (.c (.int .u8 97))),I 32 31,cg 32 true 33 0,cg 32 true 34 3,ay 32 true (bG 35 (.sidx (.t 33) (.t 34))),ay 32 true (bG 36 (.bin .leq false (.t 35) (.c (.int .u8 122)))),ef 37 32 36,I 38 37,cg 38 false 39 0,cg 38 false 40 3,ay 38 false (bG 41 (.sidx (.t 39) (.t 40))),ay 38 false (bG 42 (.bin .geq false (.t 41) (.c (.int .u8 48)))),cg 38 false 43 42,cg 43 true 44 0,cg 43 true 45 3,ay 43 true (bG 46 (.sidx (.t 44) (.t 45))),ay 43 true (bG 47 (.bin .leq false (.t 46) (.c (.int .u8 57)))),ay 38 false (ef 48 43 47),dy 49 38 48,I 50 49,cg 50 false 51 0,cg 50 false 52 3,ay 50 false (bG 53 (.sidx (.t 51) (.t 52))),ay 50 false (bG 54 (.bin .eql false (.t 53) (.c (.int .u8 45)))),dy 55 50 54,cJ 56 55] (aU 56 (aa [bt 2 false] .ret) .skip))) (.region [I 26 3,aT 27 .add 26 1,I 3 27])))))) (aa [bt 2 true] .ret))))
def Rx:C:=(aa [dc 2 0,dc 3 1,bt 4 false] (aa [bg 5 4 2,bg 6 4 3,cq 7 178 5 6,aT 8 .eql 7 0,I 4 8] .ret))
def yB:C:=(aa [dc 2 0,eg 4 eI] (.seq (aa [aH 7 0 1 2,aw 8 1 7] (.block 0 (aa [aT 10 .eql 8 1,I 9 10] (aU 9 (.seq (aa [I 12 1,aH 13 1 1 2,aw 14 1 13,hj 15 12 [.t 14],I 11 15,dn 16 0 11,dn 17 1 11,eg 5 eI,b7 4 5 16,I 6 17] (aa [I 18 6] (aU 18 (aa [bg 19 4 5,cG 20 170 19,b7 4 4 20] .ret) .skip))) (aa [bg 21 4 2,b7 4 4 21] .ret)) (aa [aT 23 .eql 8 4,I 22 23] (aU 22 (.seq (.drawn false 38 [aH 24 3 1 2,aw 25 1 24,im 26 4 25 0,bg 27 4 26,I 28 1,cq 29 146 27 28,aH 30 3 1 2,aw 31 1 30,im 32 4 31 1,bg 33 4 32,I 34 1,cq 35 146 33 34,cq 36 179 29 35,b7 4 4 36]) .ret) .skip)))))) (aa [bg 37 4 2,b7 4 4 37] .ret)))
def RE:C:=(aa [dc 2 0,b1 4 0] (.seq (aa [I 7 1,aT 8 .lss 7 1] (aU 8 (aa [b1 4 (-1)] .ret) .skip)) (.seq (aa [aH 9 0 1 2,aw 10 1 9,aT 11 .neq 10 4] (aU 11 (.seq (aa [aH 12 3 1 2,aw 13 1 12,cp 14 13,aT 15 .neq 14 0] (aU 15 (aa [b1 4 (-1)] .ret) .skip)) (.seq (aa [aH 16 0 1 2,aw 17 1 16] (.block 0 (aa [aT 19 .eql 17 0,I 18 19] (aU 18 (aa [aH 20 1 1 2,aw 21 1 20,aT 22 .neq 21 0,I 23 22,ay 23 false (aH 24 2 1 2),ay 23 false (aw 25 1 24),yj 23 false 26 (.bin .neq false (.t 25) (.c (.str []))),dy 27 23 26] (aU 27 (aa [b1 4 (-1)] .ret) .skip)) (aa [aT 29 .eql 17 1,I 28 29] (aU 28 (aa [aH 30 1 1 2,aw 31 1 30,aT 32 .lss 31 0,I 33 32,ay 33 false (aH 34 1 1 2),ay 33 false (aw 35 1 34),ay 33 false (aT 36 .gtr 35 100000),dy 37 33 36,I 38 37,ay 38 false (aH 39 2 1 2),ay 38 false (aw 40 1 39),yj 38 false 41 (.bin .neq false (.t 40) (.c (.str []))),dy 42 38 41] (aU 42 (aa [b1 4 (-1)] .ret) .skip)) (aa [aT 44 .eql 17 2,I 43 44] (aU 43 (aa [aH 45 1 1 2,aw 46 1 45,aT 47 .neq 46 0,I 48 47,ay 48 false (aH 49 2 1 2),ay 48 false (aw 50 1 49),ay 48 false (cG 51 133 50),ay 48 false (cJ 52 51),dy 53 48 52] (aU 53 (aa [b1 4 (-1)] .ret) .skip)) (aa [aT 55 .eql 17 3,I 54 55] (aU 54 (aa [aH 56 1 1 2,aw 57 1 56,aT 58 .lss 57 (-1000000000),I 59 58,ay 59 false (aH 60 1 1 2),ay 59 false (aw 61 1 60),ay 59 false (aT 62 .gtr 61 1000000000),dy 63 59 62,I 64 63,ay 64 false (aH 65 2 1 2),ay 64 false (aw 66 1 65),yj 64 false 67 (.bin .neq false (.t 66) (.c (.str []))),dy 68 64 67] (aU 68 (aa [b1 4 (-1)] .ret) .skip)) (aa [b1 4 (-1)] .ret))))))))))) (aa [b1 4 1] .ret))) .skip)) (.seq (aa [aH 69 1 1 2,aw 70 1 69,aT 71 .neq 70 0,I 72 71,ay 72 false (aH 73 2 1 2),ay 72 false (aw 74 1 73),yj 72 false 75 (.bin .neq false (.t 74) (.c (.str []))),dy 76 72 75,I 77 76,ay 77 false (aH 78 3 1 2),ay 77 false (aw 79 1 78),ay 77 false (cp 80 79),ay 77 false (aT 81 .neq 80 2),dy 82 77 81] (aU 82 (aa [b1 4 (-1)] .ret) .skip)) (aa [aH 83 3 1 2,aw 84 1 83,im 85 4 84 0,bg 86 4 85,I 87 1,aT 88 .sub 87 1,cq 89 149 86 88,I 5 89] (.seq (aa [I 90 5,aT 91 .lss 90 0] (aU 91 (aa [b1 4 (-1)] .ret) .skip)) (aa [aH 92 3 1 2,aw 93 1 92,im 94 4 93 1,bg 95 4 94,I 96 1,aT 97 .sub 96 1,I 98 5,bp 99 .sub 97 98,cq 100 149 95 99,I 6 100] (.seq (aa [I 101 6,aT 102 .lss 101 0] (aU 102 (aa [b1 4 (-1)] .ret) .skip)) (aa [I 103 5,bG 104 (.bin .add false (gi 1) (.t 103)),I 105 6,bp 106 .add 104 105,I 4 106] .ret)))))))))
def w1:C:=(aa [dc 2 0,b1 4 0] (.seq (aa [aH 6 0 1 2,aw 7 1 6] (.block 0 (aa [aT 9 .eql 7 1,I 8 9] (aU 8 (aa [I 10 1,aH 11 1 1 2,aw 12 1 11,hj 13 10 [.t 12],bG 14 (.min2 (.t 13) (gi 5001)),I 4 14] .ret) (aa [aT 16 .eql 7 4,I 15 16] (aU 15 (aa [aH 17 3 1 2,aw 18 1 17,im 19 4 18 0,bg 20 4 19,I 21 1,cq 22 158 20 21,I 5 22] (.seq (aa [I 23 5,aT 24 .gtr 23 5000] (aU 24 (aa [I 25 5,I 4 25] .ret) .skip)) (aa [I 26 5,bG 27 (.bin .add false (gi 1) (.t 26)),aH 28 3 1 2,aw 29 1 28,im 30 4 29 1,bg 31 4 30,I 32 1,cq 33 158 31 32,bp 34 .add 27 33,bG 35 (.min2 (.t 34) (gi 5001)),I 4 35] .ret))) .skip)))))) (aa [b1 4 1] .ret)))
def RL:C:=(aa [b1 3 0] (.seq (aa [aw 7 1 1,I 8 0,hj 9 7 [.t 8],I 6 9,dn 10 0 6,dn 11 1 6,eg 4 eI,b7 4 4 10,I 5 11] (aa [I 12 5] (aU 12 (aa [bg 13 4 4,dU 14 149 [.t 13,(gi 5000)],I 3 14] .ret) .skip))) (aa [b1 3 1] .ret)))
def Kw:C:=(aa [dc 1 0,eg 2 eI] (.seq (aa [aH 3 0 1 1,aw 4 1 3,aT 5 .neq 4 4] (aU 5 (aa [aH 6 0 1 1,aw 7 1 6,aH 8 1 1 1,aw 9 1 8,aH 10 2 1 1,aw 11 1 10,mf 12 eI [(0,1,(.t 7)),(1,1,(.t 9)),(2,1,(.t 11))],b7 4 2 12] .ret) .skip)) (.seq (.drawn true 25 [aH 13 3 1 1,aw 14 1 13,im 15 4 14 0,bg 16 4 15,cG 17 170 16,aH 18 3 1 1,aw 19 1 18,im 20 4 19 1,bg 21 4 20,cG 22 170 21,eD 23 4 71 [.t 17,.t 22],mf 24 eI [(0,1,(gi 4)),(3,1,(.t 23))],b7 4 2 24]) .ret)))
def Gw:C:=(aa [dc 2 0,dc 3 1,b1 4 0] (.seq (aa [aH 6 0 1 2,aw 7 1 6,aH 8 0 1 3,aw 9 1 8,bp 10 .neq 7 9] (aU 10 (aa [aH 11 0 1 2,aw 12 1 11,aH 13 0 1 3,aw 14 1 13,cq 15 199 12 14,I 4 15] .ret) .skip)) (.seq (aa [aH 16 1 1 2,aw 17 1 16,aH 18 1 1 3,aw 19 1 18,bp 20 .neq 17 19] (aU 20 (aa [aH 21 1 1 2,aw 22 1 21,aH 23 1 1 3,aw 24 1 23,cq 25 199 22 24,I 4 25] .ret) .skip)) (.seq (aa [aH 26 2 1 2,aw 27 1 26,aH 28 2 1 3,aw 29 1 28,bp 30 .neq 27 29] (aU 30 (.seq (aa [aH 31 2 1 2,aw 32 1 31,aH 33 2 1 3,aw 34 1 33,bp 35 .lss 32 34] (aU 35 (aa [b1 4 (-1)] .ret) .skip)) (aa [b1 4 1] .ret)) .skip)) (.seq (aa [aH 36 0 1 2,aw 37 1 36,aT 38 .neq 37 4] (aU 38 (aa [b1 4 0] .ret) .skip)) (.seq (.seq (.drawn true 60 [aH 39 3 1 2,aw 40 1 39,im 41 4 40 0,bg 42 4 41,aH 43 3 1 3,aw 44 1 43,im 45 4 44 0,bg 46 4 45,cq 47 178 42 46,I 5 47]) (aa [I 48 5,aT 49 .neq 48 0] (aU 49 (aa [I 50 5,I 4 50] .ret) .skip))) (.seq (.drawn true 60 [aH 51 3 1 2,aw 52 1 51,im 53 4 52 1,bg 54 4 53,aH 55 3 1 3,aw 56 1 55,im 57 4 56 1,bg 58 4 57,cq 59 178 54 58,I 4 59]) .ret)))))))
def RH:C:=(aa [dc 2 0,dc 3 1,eg 4 eI] (aa [bg 5 4 2,bg 6 4 3,eD 7 4 71 [.t 5,.t 6],mf 8 eI [(0,1,(gi 4)),(3,1,(.t 7))],b7 4 4 8] .ret))
def RG:C:=(aa [b1 4 0] (.seq (aa [I 5 0,I 6 1,bp 7 .lss 5 6] (aU 7 (aa [b1 4 (-1)] .ret) .skip)) (.seq (aa [I 8 0,I 9 1,bp 10 .gtr 8 9] (aU 10 (aa [b1 4 1] .ret) .skip)) (aa [b1 4 0] .ret))))
def RN:C:=(aa [fk 2 1] (aa [c8 (.bslm 5 (some 306) 1 3 []),I 3 5] (.seq (aa [I 6 0,c8 (.range 7 none (.t 6))] (.block 0 (.loop (aa [⟨none,.next 8 (.t 7)⟩,dn 9 0 8] (.seq (aU 9 .skip (.exit 0)) (.block 1 (aa [bG 10 (.ment (.t 7)),dn 11 0 10,I 4 11] (.region [I 12 3,I 13 4,eD 14 1 3 [.t 13],c8 (.appm 15 none 1 3 (.t 12) (.t 14)),I 3 15])))))))) (aa [I 16 3,cG 17 242 16] (.seq (.pub 3 (.region [I 18 3,I 2 18])) .ret)))))
def bu:List (Nat×dE):=[
 (3,⟨1,8,.int .i64,.int .i64 0⟩),
 (9,⟨1,16,.str,.str []⟩),
 (30,⟨1,24,.slice 74,.slice 5 .nil []⟩),
 (44,⟨1,24,.slice 71,.slice 4 .nil []⟩),
 (71,⟨4,56,.struct [(0,3),(1,3),(2,9),(3,44)],.agg [.int .i64 0,.int .i64 0,.str [],.slice 4 .nil []]⟩),
 (74,⟨5,64,.struct [(0,3),(1,71)],.agg [.int .i64 0,.int .i64 0,.int .i64 0,.str [],.slice 4 .nil []]⟩),
 (91,⟨1,8,.map 3 4,.junk⟩),
 (128,⟨1,24,.slice 3,.slice 1 .nil []⟩),
 (151,⟨1,8,.other,.junk⟩),
 (178,⟨1,8,.int .u64,.int .u64 0⟩)]
theorem mixed:ar.follows .mixedOrders=true:=an
theorem bs{bu:List (Nat×dE)}(aM:e6 ar bu=true){f:FuncId}{fn:Func}(e:ar.funcs[f]? =some fn){c:C}{a:List bU}{n:Nat}(b:b4 bu c a n fn=true){args:List ah}{r:ah}(he:e1 args->dd ar [] c (bE a r) ⟨j5 0 args,[],[],0,[]⟩)(d:args.length<=n:=by simp)(g:av (fun _=>et) r:=by simp[av]):bL ar f args r:=bL.mk mixed aM e b d g he
theorem gR:e6 ar bu=true:=an
theorem am1:b4 bu SO [.cell 2 true 4] 1 Tryz.f40=true:=an
theorem alP:b4 bu Rz [.tmp 4] 2 Tryz.f55=true:=an
theorem alY:b4 bu RI [.cell 4 true 4,.tmp 5] 2 Tryz.f59=true:=an
theorem amY:b4 bu SL [.cell 4 true 4] 2 Tryz.f95=true:=an
theorem al5:b4 bu RP [.tmp 2] 1 Tryz.f97=true:=an
theorem alz:b4 bu Rj [.tmp 2] 1 Tryz.f101=true:=an
theorem amt:b4 bu Sf [.tmp 4] 2 Tryz.f113=true:=an
theorem alQ:b4 bu RA [.tmp 4] 3 Tryz.f114=true:=an
theorem al0:b4 bu RK [.cell 4 true 4,.tmp 5] 2 Tryz.f116=true:=an
theorem alZ:b4 bu RJ [.cell 3 true 4,.tmp 4] 2 Tryz.f117=true:=an
theorem alA:b4 bu Rk [.tmp 2] 1 Tryz.f130=true:=an
theorem B6:b4 bu yA [] 2 Tryz.f131=true:=an
theorem alo:b4 bu Q8 [.tmp 2] 1 Tryz.f133=true:=an
theorem alN:b4 bu Rx [.tmp 4] 2 Tryz.f145=true:=an
theorem B7:b4 bu yB [.cell 4 true 4] 2 Tryz.f146=true:=an
theorem alU:b4 bu RE [.tmp 4] 2 Tryz.f149=true:=an
theorem zL:b4 bu w1 [.tmp 4] 2 Tryz.f158=true:=an
theorem al1:b4 bu RL [.tmp 3] 2 Tryz.f159=true:=an
theorem X0:b4 bu Kw [.cell 2 true 4] 1 Tryz.f170=true:=an
theorem NZ:b4 bu Gw [.tmp 4] 2 Tryz.f178=true:=an
theorem alX:b4 bu RH [.cell 4 true 4] 2 Tryz.f179=true:=an
theorem alW:b4 bu RG [.tmp 4] 2 Tryz.f199=true:=an
theorem al3:b4 bu RN [.tmp 2] 1 Tryz.f212=true:=an
def ajI(s:List bV)(k:Nat)(st:bh):Prop:=∃i:Nat,1<=i/\i<=s.length/\k=s.length-i/\((s.drop 1).all mZ=(s.drop i).all mZ)/\st=⟨[(0,.str s),(3,.int .i64 i)],[],[],0,[]⟩
theorem u2(s:List bV):bL ar 133 [.str s] (.bool (iW s)):=by
 refine bL.mk mixed gR Tryz.func133 alo Ψ d9 fun ae=>?_;unfold Q8;simp;(with_reducible repeat' first|((first|refine bQ (fun h=>?_) fun h=>?_|refine bT (fun h=>?_) fun h=>?_|refine bS (fun h=>?_) fun h=>?_)<;>try simp at h)|refine al ?_|simp);case refine_1.refine_1.refine_1.refine_2=>
  have b:iW s=(s.drop 1).all mZ:=by simp[iW,low];omega
  rw[b];refine vr (ajI s) (s.length-1) _ ⟨Ψ,by simp[hf],by simp[pX],Ψ⟩ ⟨1,Ω,Ω,rfl,rfl,rfl⟩ ?_;rintro k st ⟨i,g,j,m,c,rfl⟩ f l;rw[c];simp;refine bQ (fun a=>?_) (fun e=>?_)
  ·simp at a;have d:s.drop i=s[i]?.getD 0::s.drop (i+1):=by rw[mh a];simp[a]
   simp;(with_reducible repeat' first|((first|refine bQ (fun h=>?_) fun h=>?_|refine bT (fun h=>?_) fun h=>?_|refine bS (fun h=>?_) fun h=>?_)<;>try simp at h)|refine al ?_|simp);all_goals first
    |(simp[bE,aX,a1,aV,d,mZ,low];omega)
    |(simp only[Ga];refine⟨s.length-(i+1),_,Ω,⟨Ψ,by simp[hf],by simp[pX],Ψ⟩,i+1,Ω,Ω,rfl,?_,rfl⟩;rw[c,d];simp[mZ,low];omega)
  ·simp at e;have:s.drop i=[]:=by simp;omega
   simp[bE,aX,a1,aV,this]
 all_goals simp[bE,aX,a1,aV,iW,low]
 all_goals omega
theorem aaQ(m:Nat):∀(t:b2),t.sz<=m->∀(room:Int),0<=room/\room<=10000->bL ar 149 [enc t,.int .i64 room] (.int .i64 (fY t room)):=by
 induction m with
 |zero=>intro t aM;cases t;simp[b2.sz]at aM
 |succ m c=>
 rintro⟨k,n,s,args⟩ aM room e;refine bs gR Tryz.func149 alU fun l=>?_;unfold RE;simp[b2.kind,b2.num,b2.name,b2.args];(with_reducible repeat' first|((first|refine bQ (fun h=>?_) fun h=>?_|refine bT (fun h=>?_) fun h=>?_|refine bS (fun h=>?_) fun h=>?_)<;>try simp at h)|refine al ?_|simp);all_goals try refine cC.val Ψ (u2 _) ?_
 all_goals try simp
 (with_reducible repeat' first|((first|refine bQ (fun h=>?_) fun h=>?_|refine bT (fun h=>?_) fun h=>?_|refine bS (fun h=>?_) fun h=>?_)<;>try simp at h)|refine al ?_|simp);all_goals try simp[bE,aX,a1,aV]
 case succ.refine_2.refine_2.refine_1.refine_1.refine_2=>
  rename_i i J U d;match args,h with
  |[a,b],_=>
  simp[b2.sz,b2.szL]at aM;subst J U d;simp;(with_reducible repeat' first|((first|refine bQ (fun h=>?_) fun h=>?_|refine bT (fun h=>?_) fun h=>?_|refine bS (fun h=>?_) fun h=>?_)<;>try simp at h)|refine al ?_|simp);refine cC.val Ψ (c a Ω (room-1) Ω) ?_;simp;have j:=NN a (room-1);have f:=E0 a (room-1);(with_reducible repeat' first|((first|refine bQ (fun h=>?_) fun h=>?_|refine bT (fun h=>?_) fun h=>?_|refine bS (fun h=>?_) fun h=>?_)<;>try simp at h)|refine al ?_|simp)
  ·simp[bE,aX,a1,aV];rw[NM];simp;omega
  ·refine cC.val Ψ (c b Ω (room-1-fY a (room-1)) Ω) ?_;simp;have ae:=NN b (room-1-fY a (room-1));have g:=E0 b (room-1-fY a (room-1));(with_reducible repeat' first|((first|refine bQ (fun h=>?_) fun h=>?_|refine bT (fun h=>?_) fun h=>?_|refine bS (fun h=>?_) fun h=>?_)<;>try simp at h)|refine al ?_|simp);all_goals simp[bE,aX,a1,aV]
   all_goals rw[NM];simp;omega
 all_goals rw[NM]
 all_goals simp_all[l8]
 all_goals first|omega|(split<;>simp at h⊢)
theorem PL(t:b2):bL ar 101 [enc t] (.bool t.fits):=by refine bs gR Tryz.func101 alz fun a=>?_;unfold Rj;simp;refine cC.val Ψ (aaQ t.sz t (eR _) 5000 Ω) ?_;simp;simp[bE,aX,a1,aV];simp[b2.fits]
theorem aaB(t:T):bL ar 101 [t.e] (.bool t.fit):=by have:=PL t.tm;rwa[w6,b2.fits_T]at this
theorem JO(a b:T):bL ar 179 [a.e,b.e] (T.pair a b).e:=by refine bs gR Tryz.func179 alX fun c=>?_;unfold RH;simp;(with_reducible repeat' first|((first|refine bQ (fun h=>?_) fun h=>?_|refine bT (fun h=>?_) fun h=>?_|refine bS (fun h=>?_) fun h=>?_)<;>try simp at h)|refine al ?_|simp);all_goals try simp[bE,aX,a1,aV]
theorem JI(a b:T):bL ar 95 [a.e,b.e] (T.pair a b).e:=by refine bs gR Tryz.func95 amY fun c=>?_;unfold SL;simp;(with_reducible repeat' first|((first|refine bQ (fun h=>?_) fun h=>?_|refine bT (fun h=>?_) fun h=>?_|refine bS (fun h=>?_) fun h=>?_)<;>try simp at h)|refine al ?_|simp);all_goals try simp[bE,aX,a1,aV]
theorem u3(t:T):bL ar 170 [t.e] t.e:=by
 induction t with
 |pair a b e d=>refine bs gR Tryz.func170 X0 fun c=>?_;unfold Kw;exact cn
 |_=>refine bs gR Tryz.func170 X0 fun c=>?_;unfold Kw;exact cn
theorem pd(a b:Int):bL ar 199 [.int .i64 a,.int .i64 b] (.int .i64 (eX a b)):=by
 refine bs gR Tryz.func199 alW fun c=>?_;unfold RG;simp;((with_reducible repeat' first|refine al ?_|simp|((first|apply bQ|apply bT|apply bS)<;>intro h<;>try simp at h))<;>(try exact cv));all_goals simp[bE,aX,a1,aV]
 all_goals simp[eX]
 all_goals omega
theorem CL(a:T):∀b:T,bL ar 178 [a.e,b.e] (.int .i64 (eU a b)):=by
 induction a with
 |pair g a2 e d=>
  intro b;cases b with
  |pair f i=>
   refine bs gR Tryz.func178 NZ fun c=>?_;unfold Gw;simp;((with_reducible repeat' first|refine al ?_|refine aI (e _) ?_|refine aJ (e _) ?_|refine aI (d _) ?_|refine aJ (d _) ?_|refine aI (pd _ _) ?_|refine aJ (pd _ _) ?_|simp|((first|apply bQ|apply bT|apply bS)<;>intro h<;>try simp at h))<;>(try exact cv));all_goals simp[bE,aX,a1,aV]
   all_goals simp_all[eU]
  |_=>
   refine bs gR Tryz.func178 NZ fun c=>?_;unfold Gw;simp;(with_reducible repeat' first|refine al ?_|refine aI (pd _ _) ?_|refine aJ (pd _ _) ?_|simp);all_goals simp[bE,aX,a1,aV]
   all_goals simp_all[eU]
 |_=>
  intro b;cases b<;>
  (refine bs gR Tryz.func178 NZ fun c=>?_;unfold Gw
   simp
   (with_reducible repeat' first|((first|apply bQ|apply bT|apply bS)<;>intro h<;>try simp at h)|refine al ?_|refine aI (pd _ _) ?_|refine aJ (pd _ _) ?_|simp)
   all_goals simp[bE,aX,a1,aV]
   all_goals simp_all[eU,lB])
theorem u4(a b:T):bL ar 145 [a.e,b.e] (.bool (decide (a=b))):=by
 refine bs gR Tryz.func145 alN fun c=>?_;unfold Rx;simp;(with_reducible repeat' first|refine al ?_|refine aI (CL _ _) ?_|refine aJ (CL _ _) ?_|simp);all_goals simp[bE,aX,a1,aV]
 have:=r7 a b;by_cases h:eU a b=0<;>simp_all
open Classical in
def ajM(l:List dj)(k:Nat)(st:bh):Prop:=∃i:Nat,i<=l.length/\k=l.length-i/\(∀j,j<i->B5 l j)/\st=⟨[(0,.slice 5 .no (l.map dj.e)),(8,.slice 5 .no (l.map dj.e)),(9,.int .i64 l.length),(10,.int .i64 i)],[],[],0,[]⟩
open Classical in
theorem aqm(l:List dj):bL ar 130 [.slice 5 .no (l.map dj.e)] (.bool (decide (Az l))):=by
 refine bs gR Tryz.func130 alA fun v=>?_;unfold Rk;simp;(with_reducible repeat' first|((first|apply bQ|apply bT|apply bS)<;>intro h<;>try simp at h)|refine al ?_|simp)
 ·simp[bE,aX,a1,aV];intro a;have:=a.1;omega
 ·refine vr (ajM l) l.length _ ⟨Ψ,by simp[hf],by simp[pX],Ψ⟩ ⟨0,Ω,Ω,Ψ,rfl⟩ ?_;rintro k st ⟨i,hi,u,f,rfl⟩ o p;simp;refine bQ (fun d=>?_) (fun n=>?_)
  ·simp at d;obtain⟨b,ae⟩:∃b,l[i]? =some b:=⟨_,cl d⟩;obtain⟨c,ax⟩:∃c,l[i-1]? =some c:=⟨_,cl Ω⟩;clear o p;simp[ae,ax];((with_reducible repeat' first|refine al ?_|refine aI (PL _) ?_|refine aJ (PL _) ?_|simp[ax]|((first|apply bQ|apply bT|apply bS)<;>intro h<;>try simp at h))<;>(try exact cv));all_goals first
    |(simp[bE,aX,a1,aV];intro a;have J:=a.2 i d b ae;have U:=J.2.1 c;have q:=J.2.2;first|omega|(have:=U Ω ax;omega)|(rw[q]at h;cases h)|simp_all)
    |(simp only[Ga];refine⟨l.length-(i+1),_,Ω,⟨Ψ,by simp[hf],by simp[pX],Ψ⟩,i+1,Ω,rfl,fun j r=>?_,rfl⟩
      by_cases e:j=i
      ·subst e;intro cb m;rw[ae]at m;cases m;refine⟨Ω,fun s t g=>?_,by assumption⟩;rw[ax]at g;cases g;omega
      ·exact f j Ω)
  ·simp at n;simp[bE,aX,a1,aV];exact⟨Ω,fun j r=>f j Ω⟩
def nf(p:Nat->Bool)(i j:Nat):Nat:=if i<j then(if p ((i+j)/2)then nf p i ((i+j)/2)else nf p ((i+j)/2+1) j)else i
termination_by j-i
def ajL(s:cM)(n g:Nat)(cZ:List ah)(p:Nat->Bool)(k:Nat)(st:bh):Prop:=∃i j:Nat,i<=j/\j<=n/\k=j-i/\nf p i j=nf p 0 n/\st=⟨[(1,.func g cZ),(5,.int .i64 i),(6,.int .i64 j)],s.b,s.e,0,dh s⟩
theorem ag0(s:cM)(a:ek s)(n g:Nat)(w:n<=1000000)(cZ:List ah)(ax:aA (inObs s) cZ)(dr:cK cZ=cZ)(p:Nat->Bool)(t:∀i:Nat,i<n->bK ar g (.int .i64 i::cZ) s fun r b=>r= .bool (p i)/\b=s):
  bK ar 113 [.int .i64 n,.func g cZ] s fun r b=>r= .int .i64 (nf p 0 n)/\b=s:=by
 refine bK.mk mixed gR Tryz.func113 amt Ψ a.obj fun z e=>?_;unfold Sf;simp;refine vr (ajL s n g cZ p) n _ (jx.ob a (by simp[ax]) aL aL) ⟨0,n,Ω,Ω,rfl,rfl,rfl⟩ ?_;rintro k st ⟨i,j,v,x,y,d,rfl⟩ l e;clear l e;simp;refine bQ (fun c=>?_) (fun f=>?_)
 ·simp at c;have hw:hM.wrap ((i:Int)+j)=i+j:=by simp[tQ,pe,tP];omega
  obtain⟨m,hm⟩:∃m,m=(i+j)/2:=⟨_,rfl⟩;have q:Int.fdiv ((i:Int)+j) 2=(m:Int):=by rw[Int.fdiv_eq_ediv_of_nonneg _ Ω];omega
  have o:oz.wrap (m:Int)=m:=by rw[lT];omega
  have u:hM.bits=64:=rfl;simp[hw,dr,u,q,o];refine⟨by unfold e3;omega,?_⟩;refine cC.ob (t m Ω) a aL aL (by simp[ax]) ?_;rintro r b ⟨rfl,rfl⟩;refine⟨Same.refl _,?_⟩;simp[hy];(with_reducible repeat' first|((first|apply bQ|apply bT|apply bS)<;>intro h<;>try simp at h)|refine al ?_|simp)
  ·simp only[Ga];refine⟨j-(m+1),_,Ω,jx.ob a (by simp[ax]) aL aL,m+1,j,Ω,Ω,rfl,?_,rfl⟩;rw[<-d];conv=>rhs;unfold nf
   simp[c,<-hm,h]
  ·simp only[Ga];refine⟨m-i,_,Ω,jx.ob a (by simp[ax]) aL aL,i,m,Ω,Ω,rfl,?_,rfl⟩;rw[<-d];conv=>rhs;unfold nf
   simp[c,<-hm,h]
 ·simp at f;have:nf p 0 n=i:=by rw[<-d];unfold nf;rw[if_neg Ω]
  rw[this];simp;refine cO.at s (.inl rfl) a (Same.refl s) aL aL ?_;simp[cT,aX,a1,aV]
def nY(l:List au)(v:Int):Int:=
 let i:=nf (fun i=>match l[i]? with|some b=>decide (v<=b.v)|none=>false) 0 l.length
 match l[i]? with|some b=>if b.v=v then i else-1|none=> -1
theorem aha(l:List au)(v:Int)(i:Nat)(b:au)(ae:l[i]? =some b):bK ar 114 [.int .i64 i,.ptr (.obj 101) 0,.ptr (.obj 102) 0] ⟨[(.obj 101,[.slice 5 .no (l.map au.e)]),(.obj 102,[.int .i64 v])],[]⟩ fun r c=>r= .bool (decide (v<=b.v))/\c=⟨[(.obj 101,[.slice 5 .no (l.map au.e)]),(.obj 102,[.int .i64 v])],[]⟩:=by have a:ek ⟨[(.obj 101,[.slice 5 .no (l.map au.e)]),(.obj 102,[.int .i64 v])],[]⟩:=(ek.of ⟨by intro m;simp[Pv.look],by intro m;simp[Pv.look]⟩ g9 g9);have e:i<l.length:=(fy.1 ae).1;refine bK.mk mixed gR Tryz.func114 alQ Ψ a.obj fun f d=>?_;unfold RA;simp[ae];(with_reducible repeat' first|refine al ?_|simp);refine cO.at _ (.inl rfl) a (Same.refl _) aL aL ?_;simp[cT,aX,a1,aV]
theorem u5(l:List au)(v:Int)(d:l.length<=1000000):bL ar 55 [.slice 5 .no (l.map au.e),.int .i64 v] (.int .i64 (nY l v)):=by
 refine bs gR Tryz.func55 alP fun f=>?_;unfold Rz;simp;have c:ek ⟨[(.obj 101,[.slice 5 .no (l.map au.e)]),(.obj 102,[.int .i64 v])],[]⟩:=(ek.of ⟨by intro m;simp[Pv.look],by intro m;simp[Pv.look]⟩ g9 g9);refine cC.ob (ag0 ⟨[(.obj 101,[.slice 5 .no (l.map au.e)]),(.obj 102,[.int .i64 v])],[]⟩ c l.length 114 d [.ptr (.obj 101) 0,.ptr (.obj 102) 0] (by simp[inObs]) Ψ (fun i=>match l[i]? with|some b=>decide (v<=b.v)|none=>false) fun i hi=>?_) c aL aL (by simp[inObs]) ?_
 ·obtain⟨b,ae⟩:∃b,l[i]? =some b:=⟨_,cl hi⟩;simp only[ae];exact aha l v i b ae
 rintro r e ⟨rfl,rfl⟩;refine⟨Same.refl _,?_⟩;unfold nY;generalize nf _ 0 l.length=i;cases ae:l[i]? with
 |none=>
  have a:¬i<l.length:=by simpa using ae
  simp[bZ,a];exact cn
 |some b=>
  have a:i<l.length:=(fy.1 ae).1;simp[bZ,ae,a];((with_reducible repeat' first|refine al ?_|simp[ae]|((first|apply bQ|apply bT|apply bS)<;>intro h<;>try simp at h))<;>(try exact cv));all_goals simp[bE,aX,a1,aV]
  all_goals simp_all
def tz(l:List au)(v:Int):aW T:=if nY l v<0 then none else(l[(nY l v).toNat]?).map (·.t)
theorem Ui(l:List au)(v:Int):nY l v<l.length/\ -1<=nY l v:=by
 unfold nY;simp only;split
 ·rename_i b ae;have:=(fy.1 ae).1;split<;>omega
 ·omega
theorem UB(l:List au)(v:Int)(d:l.length<=1000000)(o:aW T)(ak:o=tz l v):bK ar 117 [.int .i64 v,.ptr (.obj 201) 0] ⟨[(.obj 201,[.slice 5 .no (l.map au.e)])],[]⟩ fun r e=>r= .tuple [(o.getD .nil).e,.bool o.isSome]/\e=⟨[(.obj 201,[.slice 5 .no (l.map au.e)])],[]⟩:=by
 have c:ek ⟨[(.obj 201,[.slice 5 .no (l.map au.e)])],[]⟩:=(ek.of ⟨by intro m;simp[Pv.look],by intro m;simp[Pv.look]⟩ g9 g9);have g:=(Ui l v).1;unfold tz at ak;refine bK.mk mixed gR Tryz.func117 alZ Ψ c.obj fun i f=>?_;unfold RJ;simp;(with_reducible repeat' first|((first|apply bQ|apply bT|apply bS)<;>intro h<;>try simp at h)|refine al ?_|refine aI (u5 l v d) ?_|refine aJ (u5 l v d) ?_|simp)
 ·obtain⟨b,ae⟩:∃b,l[(nY l v).toNat]? =some b:=⟨_,cl Ω⟩;have a:o=some b.t:=by rw[ak,if_neg Ω,ae];rfl
  simp[ae];(with_reducible repeat' first|((first|apply bQ|apply bT|apply bS)<;>intro h<;>try simp at h)|refine al ?_|simp[ae]);refine cO.at _ (.inl rfl) c (Same.refl _) aL aL ?_;simp[cT,aX,a1,aV];simp[a]
 ·have a:o=none:=by rw[ak,if_pos h]
  refine cO.at _ (.inl rfl) c (Same.refl _) aL aL ?_;simp[cT,aX,a1,aV];simp[a]
theorem ahq(s:cM)(d:ek s)(g:Nat)(cZ:List ah)(ax:aA (inObs s) cZ)(dr:cK cZ=cZ)(f:Int->Int)(k:∀v,-1<=f v)(t:T)(j:∀v,t.occ v=true->bK ar g (.int .i64 v::cZ) s fun r e=>r= .int .i64 (f v)/\e=s):
  bK ar 158 [t.e,.func g cZ] s fun r e=>r= .int .i64 (mc f t)/\e=s:=by
 have c:∀m,Pv.look (.loc m) s.b=none:=d.obj.1;have hu:∀m cs,cB (.loc m) cs s.b=s.b++[(.loc m,cs)]:=fun m cs=>kL (c m);have ak:∀m,aB.loc m∉dh s:=kD d.obj;induction t with
 |pair a b q p=>
  have w:=Jp f k a;have u:=Jp f k b;refine bK.mk mixed gR Tryz.func158 zL Ψ d.obj fun o l=>?_;unfold w1;simp[hu,ak,cV,c,dr];(with_reducible repeat' first|refine al ?_|simp[hu,ak,cV,c]);refine cC.ob (q fun v i=>j v (by simp[T.occ,i])) d aL aL (by simp[ax]) ?_;rintro r e ⟨rfl,rfl⟩;refine⟨Same.refl _,?_⟩;simp[hy,js,bZ,c];(with_reducible repeat' first|((first|apply bQ|apply bT|apply bS)<;>intro h<;>try simp at h)|refine al ?_|simp[hu,ak,cV,c])
  ·refine cO.at e (.inl rfl) d (Same.refl _) aL aL ?_;simp[cT,aX,a1,aV];simp[mc];omega
  ·rw[dr];refine cC.ob (p fun v i=>j v (by simp[T.occ,i])) d aL aL (by simp[ax]) ?_;rintro r s2 ⟨rfl,rfl⟩;refine⟨Same.refl _,?_⟩;simp[hy,js,bZ,c];(with_reducible repeat' first|((first|apply bQ|apply bT|apply bS)<;>intro h<;>try simp at h)|refine al ?_|simp[hu,ak,cV,c]);refine cO.at s2 (.inl rfl) d (Same.refl _) aL aL ?_;simp[cT,aX,a1,aV];simp[mc];omega
 |var n=>refine bK.mk mixed gR Tryz.func158 zL Ψ d.obj fun o l=>?_;unfold w1;simp[hu,ak,cV,c,dr];(with_reducible repeat' first|((first|apply bQ|apply bT|apply bS)<;>intro h<;>try simp at h)|refine al ?_|simp[hu,ak,cV,c]);refine cC.ob (j n (by simp[T.occ])) d aL aL (by simp[ax]) ?_;rintro r e ⟨rfl,rfl⟩;refine⟨Same.refl _,?_⟩;simp[hy,js,bZ,c];refine cO.at e (.inl rfl) d (Same.refl _) aL aL ?_;simp[cT,aX,a1,aV];simp[mc]
 |_=>refine bK.mk mixed gR Tryz.func158 zL Ψ d.obj fun o l=>?_;unfold w1;simp[hu,ak,cV,c,dr];(with_reducible repeat' first|((first|apply bQ|apply bT|apply bS)<;>intro h<;>try simp at h)|refine al ?_|simp[hu,ak,cV,c]);refine cO.at s (.inl rfl) d (Same.refl _) aL aL ?_;simp[cT,aX,a1,aV];simp[mc]
theorem ahd(s:cM)(d:ek s)(g:Nat)(cZ:List ah)(ax:aA (inObs s) cZ)(dr:cK cZ=cZ)(f:Int->aW T)(t:T)(k:∀v,t.occ v=true->bK ar g (.int .i64 v::cZ) s fun r i=>r= .tuple [((f v).getD .nil).e,.bool (f v).isSome]/\i=s):
  bK ar 146 [t.e,.func g cZ] s fun r i=>r=(t.sub f).e/\i=s:=by
 have c:∀m,Pv.look (.loc m) s.b=none:=d.obj.1;have o:∀m,Pv.look (.loc m) s.e=none:=d.obj.2;have hu:∀m cs,cB (.loc m) cs s.b=s.b++[(.loc m,cs)]:=fun m cs=>kL (c m);have ak:∀m,aB.loc m∉dh s:=kD d.obj;have e:∀m p r,cB (.loc m) p (s.b++r)=s.b++cB (.loc m) p r:=fun m p r=>CH (c m);induction t with
 |pair a b w u=>refine bK.mk mixed gR Tryz.func146 B7 Ψ d.obj fun q l=>?_;unfold yB;simp[hu,ak,cV,c,o,dr,e];(with_reducible repeat' first|refine al ?_|simp[hu,ak,cV,c,o,e]);refine iN.ob (w fun v j=>k v (by simp[T.occ,j])) d d (Same.refl _) aL aL (by simp[ax]) ?_;simp[hy,js,bZ,c,dr];refine iN.ob (u fun v j=>k v (by simp[T.occ,j])) d d (Same.refl _) aL aL (by simp[ax]) ?_;simp[hy,js,bZ,c,dr];(with_reducible repeat' first|refine al ?_|refine aI (JO _ _) ?_|refine aJ (JO _ _) ?_|simp);refine cO.at s (.inl rfl) d (Same.refl _) aL aL ?_;simp[cT,aX,a1,aV,cV,c];simp[T.sub]
 |var n=>
  refine bK.mk mixed gR Tryz.func146 B7 Ψ d.obj fun q l=>?_;unfold yB;simp[hu,ak,cV,c,dr,e];(with_reducible repeat' first|((first|apply bQ|apply bT|apply bS)<;>intro h<;>try simp at h)|refine al ?_|simp[hu,ak,cV,c,e]);refine cC.ob (k n (by simp[T.occ])) d aL aL (by simp[ax]) ?_;rintro r i ⟨rfl,rfl⟩;refine⟨Same.refl _,?_⟩;simp[hy,js,bZ,c,hu,ak,cV];(with_reducible repeat' first|((first|apply bQ|apply bT|apply bS)<;>intro h<;>try simp at h)|refine al ?_|refine aI (u3 _) ?_|refine aJ (u3 _) ?_|simp[hu,ak,cV,c,e]);all_goals refine cO.at i (.inl rfl) d (Same.refl _) aL aL ?_
  all_goals simp[cT,aX,a1,aV,cV,c]
  all_goals cases x:f n<;>simp_all[T.sub]
 |_=>refine bK.mk mixed gR Tryz.func146 B7 Ψ d.obj fun q l=>?_;unfold yB;simp[hu,ak,cV,c,dr,e];(with_reducible repeat' first|((first|apply bQ|apply bT|apply bS)<;>intro h<;>try simp at h)|refine al ?_|simp[hu,ak,cV,c,e]);refine cO.at s (.inl rfl) d (Same.refl _) aL aL ?_;simp[cT,aX,a1,aV,cV,c];simp[T.sub]
def po(l:List au):cM:=⟨[(.obj 201,[.slice 5 .no (l.map au.e)])],[]⟩
def sx(l:List au):cM:=⟨[(.obj 201,[.slice 5 .no (l.map au.e)]),(.obj 202,[.func 117 [.ptr (.obj 201) 0]])],[]⟩
theorem CX(l:List au):ek (po l):=by unfold po;exact(ek.of ⟨by intro m;simp[Pv.look],by intro m;simp[Pv.look]⟩ g9 g9)
theorem JZ(l:List au):ek (sx l):=by unfold sx;exact(ek.of ⟨by intro m;simp[Pv.look],by intro m;simp[Pv.look]⟩ g9 g9)
def vw(l:List au)(v:Int):Int:=match tz l v with|some x=>fY x.tm 5000|none=>1
theorem agS(l:List au)(v:Int): -1<=vw l v:=by
 unfold vw;split
 ·rename_i x _;rcases E0 x.tm 5000 with h|h<;>omega
 ·omega
theorem aaR(t:T):bL ar 149 [t.e,.int .i64 5000] (.int .i64 (fY t.tm 5000)):=by have:=aaQ t.tm.sz t.tm (eR _) 5000 Ω;rwa[w6]at this
theorem ahn(l:List au)(v:Int)(c:l.length<=1000000):bK ar 159 [.int .i64 v,.ptr (.obj 202) 0] (sx l) fun r b=>r= .int .i64 (vw l v)/\b=sx l:=by
 have a:=JZ l;unfold sx at a⊢;refine bK.mk mixed gR Tryz.func159 al1 Ψ a.obj fun f d=>?_;unfold RL;simp;refine cC.ob (UB l v c _ rfl) (CX l) aL aL (by simp[inObs]) ?_;rintro r b ⟨rfl,rfl⟩;refine⟨Same.refl _,?_⟩;simp[bZ];(with_reducible repeat' first|((first|apply bQ|apply bT|apply bS)<;>intro h<;>try simp at h)|refine al ?_|refine aI (aaR _) ?_|refine aJ (aaR _) ?_|simp);all_goals refine cO.at _ (.inl rfl) a (Same.refl _) aL aL ?_
 all_goals simp[cT,aX,a1,aV]
 all_goals unfold vw
 all_goals cases e:tz l v<;>simp_all
def Fk(l:List au)(t:T):T:=t.sub (tz l)
def uP(l:List au)(t:T):Bool:=decide (mc (vw l) t<=5000)
theorem ahm(l:List au)(t:T)(c:l.length<=1000000):bK ar 116 [t.e,.func 117 [.ptr (.obj 201) 0]] (po l) fun r b=>r= .tuple [(if uP l t then Fk l t else .nil).e,.bool (uP l t)]/\b=po l:=by
 have a:=CX l;unfold po at a⊢;refine bK.mk mixed gR Tryz.func116 al0 Ψ a.obj fun f e=>?_;unfold RK;simp;refine cC.ob (ahq (sx l) (JZ l) 159 [.ptr (.obj 202) 0] (by simp[inObs,sx]) Ψ (vw l) (agS l) t fun v d=>ahn l v c) (JZ l) (by unfold sx;exact aL) (by unfold sx;exact aL) (by simp[inObs,sx]) ?_;rintro r b ⟨rfl,rfl⟩;refine⟨Same.refl _,?_⟩;unfold sx;simp[bZ];(with_reducible repeat' first|((first|apply bQ|apply bT|apply bS)<;>intro h<;>try simp at h)|refine al ?_|simp)
 ·refine cO.at _ (.inl rfl) a (Same.refl _) aL aL ?_;simp[cT,aX,a1,aV];have:uP l t=false:=by simp[uP];omega
  simp[this]
 ·refine cC.ob (ahd (po l) (CX l) 117 [.ptr (.obj 201) 0] (by simp[inObs,po]) Ψ (tz l) t fun v d=>UB l v c _ rfl) (CX l) (by unfold po;exact aL) (by unfold po;exact aL) (by simp[inObs,po]) ?_;rintro r b ⟨rfl,rfl⟩;refine⟨Same.refl _,?_⟩;unfold po;simp[bZ];refine cO.at _ (.inl rfl) a (Same.refl _) aL aL ?_;simp[cT,aX,a1,aV];have:uP l t=true:=by simp[uP];omega
  simp[this,Fk]
theorem aqY(l:List au)(t:T)(a:l.length<=1000000):bL ar 59 [.slice 5 .no (l.map au.e),t.e] (.tuple [(if uP l t then Fk l t else .nil).e,.bool (uP l t)]):=by refine bs gR Tryz.func59 alY fun c=>?_;unfold RI;simp;refine cC.ob (ahm l t a) (CX l) (by unfold po;exact aL) (by unfold po;exact aL) (by simp[inObs,po]) ?_;rintro r b ⟨rfl,rfl⟩;refine⟨Same.refl _,?_⟩;unfold po;simp[bZ];simp[bE,aX,a1,aV]
theorem Pg(p:Nat->Bool)(n:Nat)(hm:∀k a,k<=a->a<n->p k=true->p a=true):∀(m i j:Nat),j-i<=m->i<=j->j<=n->(∀k,k<i->p k=false)->(∀k,j<=k->k<n->p k=true)->
  (i<=nf p i j/\nf p i j<=j)/\(∀k,k<nf p i j->p k=false)/\(∀k,nf p i j<=k->k<n->p k=true)
 |m,i,j,o,h,f,J,U=>by
  rw[nf];split
  ·rename_i l;obtain⟨m,rfl⟩:∃e,m=e+1:=⟨m-1,Ω⟩;split
   ·rename_i b;have:=Pg p n hm m i ((i+j)/2) Ω Ω Ω J (fun k d g=>hm _ k d g b);exact⟨⟨this.1.1,Ω⟩,this.2⟩
   ·rename_i b;have:=Pg p n hm m ((i+j)/2+1) j Ω Ω f (fun k d=>by
     by_cases c:p k=true
     ·exact absurd (hm k ((i+j)/2) Ω Ω c) b
     ·simpa using c) U
    exact⟨⟨Ω,this.1.2⟩,this.2⟩
  ·obtain rfl:i=j:=Ω
   exact⟨⟨eR _,eR _⟩,J,U⟩
theorem Od{l:List au}(F:iM l)(v:Int):tz l v=dx l v:=by
 have f:∀(i j:Nat) (x y:au),i<j->l[i]? =some x->l[j]? =some y->x.v<y.v:=by intro i j x y B H K;obtain⟨J,rfl⟩:=fy.1 H;obtain⟨U,rfl⟩:=fy.1 K;exact qN.1 F i j J U B
 obtain⟨p,q⟩:∃p:Nat->Bool,p=(fun i=>match l[i]? with|some b=>decide (v<=b.v)|none=>false):=⟨_,rfl⟩;have d:∀i b,l[i]? =some b->p i=decide (v<=b.v):=fun i b ae=>by rw[q];simp[ae]
 have hm:∀k a,k<=a->a<l.length->p k=true->p a=true:=by
  intro k a c D h;have s:l[k]? =some l[k]:=cl Ω;have u:l[a]? =some l[a]:=cl D;rw[d k _ s]at h;rw[d a _ u];simp only[e8]at h⊢;rcases Nat.lt_or_eq_of_le c with A|rfl
  ·have:=f k a _ _ A s u;omega
  ·exact h
 obtain⟨⟨_,hle⟩,hbef,haft⟩:=Pg p l.length hm l.length 0 l.length Ω Ω (eR _) (fun k c=>Ω) (fun k J U=>Ω);have n:nY l v=(match l[nf p 0 l.length]? with|some b=>if b.v=v then((nf p 0 l.length:Nat):Int)else-1|none=> -1):=by rw[q];rfl
 generalize nf p 0 l.length=r at hle hbef haft n;by_cases hex:∃(k:Nat) (b:au),l[k]? =some b/\b.v=v
 ·obtain⟨k,b,ae,w⟩:=hex;have o:k<l.length:=(fy.1 ae).1;have E:r<=k:=by
   rcases Nat.lt_or_ge k r with h|h
   ·have:=hbef k h;rw[d k b ae]at this;simp at this;omega
   ·exact h
  have t:l[r]? =some l[r]:=cl Ω;have z:=haft r (eR _) Ω;rw[d r _ t]at z;simp only[e8]at z;have g:r=k:=by
   rcases Nat.lt_or_eq_of_le E with h|h
   ·have:=f r k _ _ h t ae;omega
   ·exact h
  subst g;have m:nY l v=r:=by rw[n,ae];simp[w]
  have J:tz l v=some b.t:=by unfold tz;rw[m,if_neg Ω];simp[ae]
  have U:l.find? (fun b=>b.v==v)=some b:=by
   rw[List.find?_eq_some_iff_getElem];refine⟨by simp[w],r,o,?_,fun j G=>?_⟩
   ·rw[cl o]at ae;simpa using ae
   ·have:=f j r l[j] b G (cl Ω) ae;simp;omega
  rw[J];simp[dx,U]
 ·have U:l.find? (fun b=>b.v==v)=none:=by rw[List.find?_eq_none];intro b ae;obtain⟨k,c,rfl⟩:=List.mem_iff_getElem.1 ae;simp;intro e;exact hex ⟨k,l[k],cl c,e⟩
  have m:nY l v= -1:=by
   rw[n];split
   ·rename_i b ae;rw[if_neg (fun e=>hex ⟨r,b,ae,e⟩)]
   ·rfl
  unfold tz;rw[m];simp[dx,U]
theorem Uj{l:List au}(a:iM l)(v:Int):nY l v<0↔dx l v=none:=by
 rw[<-Od a v];unfold tz;have J:=Ui l v;by_cases h:nY l v<0
 ·simp[h]
 ·simp only[h,if_false,false_iff];intro e;rw[Option.map_eq_none_iff,List.getElem?_eq_none_iff]at e;omega
def A3(s:List au):Prop:= ∀b∈s,b.t.fit=true
theorem agR{l:List au}(a:iM l)(h:A3 l)(v:Int):vw l v=(cI l v).size:=by
 unfold vw cI;rw[Od a];cases ae:dx l v with
 |none=>simp[T.size]
 |some x=>have:=h _ (kQ ae);simp only[T.fit,cD,e8]at this;simp only[mi];rw[Iw,if_pos ⟨this.1,Ω⟩]
theorem apj{l:List au}(e:iM l)(h:A3 l)(t:T):mc (vw l) t=cut (t.ap (cI l)).size:=by
 induction t with
 |var n=>simp only[mc,agR e h,T.ap];rfl
 |pair a b d c=>have ae:=T.size_pos (b.ap (cI l));simp only[mc,d,c,T.ap,T.size];unfold cut;(repeat' split)<;>omega
 |_=>simp[mc,T.ap,T.size,cut]
theorem anA{l:List au}(a:iM l)(h:A3 l)(t:T):uP l t=decide ((t.ap (cI l)).size<=5000):=by unfold uP;rw[apj a h];unfold cut;split<;>simp<;>omega
theorem anB{l:List au}(a:iM l)(t:T):Fk l t=t.ap (cI l):=by unfold Fk;rw[ZY];exact vj fun v _=>by rw[Od a];rfl
theorem JP(l:List au)(t:T)(b:l.length<=1000000)(a:iM l)(h:A3 l):bL ar 59 [.slice 5 .no (l.map au.e),t.e] (.tuple [(if(t.ap (cI l)).size<=5000 then t.ap (cI l)else .nil).e,.bool (decide ((t.ap (cI l)).size<=5000))]):=by have:=aqY l t b;rw[anA a h,anB a]at this;simpa using this
def Xk(l:List (Int×T)):List ah:=k1 (l.map fun x=>(x.1,x.2.e))
@[simp]theorem auw:Xk []=k1 []:=rfl
@[simp]theorem au0(l:List (Int×T)):ik (Xk l)=false:=rfl
end
end Go.Proofs.YtfeencekjcjalaaGreatDoor
