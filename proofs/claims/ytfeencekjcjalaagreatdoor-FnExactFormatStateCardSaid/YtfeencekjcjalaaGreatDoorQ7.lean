/- Contracts of pattern-defeating quicksort: the pivot. -/
import Derived.Test.YtfeencekjcjalaaGreatDoorProg
import Derived.Sort.AssemblyPlain
import Derived.Sort.LotD5
import Derived.Test.YtfeencekjcjalaaGreatDoorQ6
set_option linter.all false
set_option maxHeartbeats 4000000
set_option maxRecDepth 4000
open Bool renaming and_eq_true->cD,eq_iff_iff->ry,or_eq_true->nL
open Go.IntKind renaming i64->oz
open Go.IntWalk renaming i64_in->lT
open Go.Op renaming bytesLess->hX
open Go.Proofs.Tryz renaming prog->ar
open List renaming all_eq_true->jL,cons_append->bX,drop_eq_getElem_cons->mh,getElem?_eq_getElem->cl,getElem?_eq_none->rC,getElem?_eq_some_iff->fy,getElem_of_mem->oC,length_cons->jc,map_cons->fA,mem_append->kr,mem_cons->gp,mem_filter->nN,mem_map->iL,pairwise_iff_getElem->qN
open List.Pairwise renaming filter->abg,sublist->awp
open List.cons renaming injEq->rA
open Nat renaming le_trans->jM
open Option renaming map_eq_some_iff->gD,map_some->ni
open Option.some renaming inj->fK,injEq->dv
open _root_ renaming False->et,Option->aW,UInt8->bV,beq_iff_eq->dS,decide_eq_false_iff_not->iq,decide_eq_true_eq->e8
namespace Go.Proofs.YtfeencekjcjalaaGreatDoor
section
open Go Go.Pv
theorem ao5{s:List au}(h:eJ s)(p:au->Bool):eJ (s.filter p):=by
 have a:∀b∈s.filter p,b∈s:=fun b ae=>(nN.1 ae).1;have c:∀w,dx s w=none->dx (s.filter p) w=none:=fun w hw=>by rw[wW]at hw⊢;exact fun b ae=>hw b (a b ae)
 exact⟨fun b ae=>h.ok b (a b ae),⟨abg p h.sol.asc,fun b ae w hw=>c w (h.sol.free b (a b ae) w hw),fun b ae=>h.sol.ori b (a b ae)⟩,
  jM (List.length_filter_le _ _) h.fits.1,fun b ae=>h.fits.2 b (a b ae)⟩
theorem Iu{b x:List au}(h:eJ x):eJ (ha b x):=ao5 h _
theorem alb{b x:List au}(ae:gf b)(d:gf x)(n:hZ x)(h:∀a,hs x a->hs b a):jw b (ig (ha b x)) (some x):=by
 refine⟨⟨d,n⟩,fun a=>⟨fun i=>⟨h a i,fun e he=>?_⟩,fun⟨J,U⟩ c ax=>?_⟩⟩
 ·obtain⟨c,ax,rfl⟩:=iL.1 he;exact i c (nN.1 ax).1
 ·have g:∀c∈x,dx b c.v=none->a c.v=c.t.ap a:=fun c ax l=>by have:=U (.var c.v,c.t) (iL.2 ⟨c,nN.2 ⟨ax,by simp[l]⟩,rfl⟩);exact this
  have j:∀w,dx b w=none->(cI x w).ap a=a w:=fun w hw=>by
   unfold cI;cases e:dx x w with
   |none=>rfl
   |some t=>have hm:=kQ e;exact(g _ hm hw).symm
  cases e:dx b c.v with
  |none=>exact g c ax e
  |some t=>
   have m:a c.v=t.ap a:=J _ (kQ e);have f:=h (cI x) (Ab d) _ (kQ e);simp only at f;have k:cI x c.v=c.t:=by unfold cI;rw[wV d.asc ax];rfl
   rw[k]at f;rw[m,f,C6];exact vj fun w hw=>(j w (ae.free _ (kQ e) w hw)).symm
theorem akP{s:List au}(b:gf s)(c:hZ s){E:List (T×T)}{x:List au}(h:mgu s E=some x):∀a,hs x a↔hs s a/\ka E a:=by have:=Iq b c E;rw[h]at this;exact this.2
theorem akM{s:List au}(a:gf s)(b:hZ s){E:List (T×T)}{x:List au}(h:mgu s E=some x):mgu s (ig (ha s x))=some x:=tt (alb a (BU a b h).1 (BU a b h).2 fun d c=>((akP a b h d).1 c).1)
theorem akO(p:Int->Prop){E:List (T×T)}:∀{s g:List au},gf s->hZ s->(∀b∈s,p b.v/\∀w,b.t.occ w=true->p w)->(∀e∈E,(∀w,e.1.occ w=true->p w)/\∀w,e.2.occ w=true->p w)->mgu s E=some g->∀b∈g,p b.v/\∀w,b.t.occ w=true->p w:=by
 induction E with
 |nil=>intro s g d f J _ h;rw[NB d f]at h;cases h;exact J
 |cons e E u=>
  intro s g d f J U h;rw[NA d f]at h;split at h
  ·rename_i s1 j;obtain⟨V,a⟩:∃V,V=s.flatMap (fun b=>b.v::oy b.t)++oy e.1++oy e.2:=⟨_,rfl⟩;have k:∀w∈V,p w:=by
    intro w hw;rw[a]at hw;simp only[kr,List.mem_flatMap,gp]at hw;rcases hw with(⟨b,ae,rfl|hw⟩|hw)|hw
    ·exact(J b ae).1
    ·exact(J b ae).2 w (FX.1 hw)
    ·exact(U e Ψ).1 w (FX.1 hw)
    ·exact(U e Ψ).2 w (FX.1 hw)
   obtain⟨n,o,v,r,q⟩:=aao V _ _ s e.1 e.2 d f (fun c ax=>⟨by rw[a];simp only[kr,List.mem_flatMap];exact .inl (.inl ⟨c,ax,Ψ⟩),fun w hw=>by rw[a];simp only[kr,List.mem_flatMap];exact .inl (.inl ⟨c,ax,by simp[zG hw]⟩)⟩)
    (fun w hw=>by rw[a];simp only[kr];exact .inl (.inr (zG hw))) (fun w hw=>by rw[a];simp only[kr];exact .inr (zG hw)) rfl rfl
   have m:=tt r;rw[j]at m;subst m;obtain⟨l,_⟩:=q s1 rfl;have i:=BU d f j;exact u i.1 i.2 (fun b ae=>⟨k _ (l b ae).1,fun w hw=>k w ((l b ae).2 w hw)⟩) (fun t he=>U t (by simp[he])) h
  ·cases h
theorem apc{s:List au}(a:gf s){v n:Int}(h:cI s v= .var n):dx s n=none:=by have:=Pd a (t:= .var v) (w:=n) (by show(cI s v).occ n=true;rw[h];simp[T.occ]);exact this
theorem Qq{l b:List bN}{t:T}{k:Int}(h:la l t k=some b):∀x∈b,x∈l\/t= .var x.v:=by
 unfold la at h;split at h
 ·rename_i n;split at h
  ·split at h
   ·cases h;exact fun x a=>.inl a
   ·cases h
  ·cases h;intro x a;rcases Io.1 a with rfl|a
   ·exact .inr rfl
   ·exact .inl a
 ·split at h
  ·cases h;exact fun x a=>.inl a
  ·cases h
theorem Zf{s:List au}(b:gf s):∀{l acc a:List bN},(∀x∈acc,dx s x.v=none)->gA s l acc=some a->∀x∈a,dx s x.v=none
 |[],acc,a,h,he=>by simp only[gA,dv]at he;rw[<-he];exact h
 |y::r,acc,a,h,he=>by
  simp only[gA]at he;split at he
  ·rename_i e c;refine Zf b (fun x d=>?_) he;rcases Qq c x d with J|J
   ·exact h x J
   ·exact apc b J
  ·cases he
theorem Wi{x:bN}:∀{l:List bN},(∀y∈l,y.v<x.v)->mA x l=l++[x]
 |[],_=>rfl
 |y::l,h=>by simp only[mA,if_pos (h y Ψ),Wi (l:=l) fun z a=>h z (by simp[a]),bX]
theorem Zg{s:List au}:∀{l acc:List bN},(acc++l).Pairwise (fun x y=>x.v<y.v)->(∀x∈l,dx s x.v=none)->gA s l acc=some (acc++l)
 |[],acc,_,_=>by simp[gA]
 |x::r,acc,b,c=>by
  have J:∀y∈acc,y.v<x.v:=fun y a=>(List.pairwise_append.1 b).2.2 y a x Ψ;have U:l7 acc x.v=none:=zy.2 fun y a=>by have:=J y a;omega
  have d:la acc (cI s x.v) x.k=some (acc++[x]):=by rw[Cw (c x Ψ)];simp only[la,U];rw[Wi J]
  simp only[gA,d];rw[Zg (by simpa using b) fun y a=>c y (by simp[a])];simp
theorem Zi{s:List au}(b:gf s):∀{l acc a:List bk},(∀x∈acc,dx s x.v=none)->gB s l acc=some a->∀x∈a,dx s x.v=none
 |[],acc,a,h,he=>by simp only[gB,dv]at he;rw[<-he];exact h
 |y::r,acc,a,h,he=>by
  simp only[gB]at he;split at he
  ·rename_i e c;refine Zi b (fun x d=>?_) he;rcases(EU c x).1 d with J|⟨_,J⟩
   ·exact h x J
   ·exact Pd b (t:= .var y.v) J
  ·cases he
theorem Zj{s:List au}:∀{l acc:List bk},ir fJ (acc++l)->(∀x∈l,dx s x.v=none)->gB s l acc=some (acc++l)
 |[],acc,_,_=>by simp[gB]
 |x::r,acc,a,b=>by
  have c:mK acc (cI s x.v) x.s=some (acc++[x]):=by
   rw[Cw (b x Ψ)];refine Kb rfl (awp ?_ a) fun z=>?_
   ·simp
   ·simp only[kr,List.mem_singleton,T.occ,dS];refine or_congr_right ⟨fun h=>by rw[h];exact⟨rfl,rfl⟩,fun⟨J,U⟩=>?_⟩;cases z;cases x;simp_all
  simp only[gB,c];rw[Zj (by simpa using a) fun y d=>b y (by simp[d])];simp
def FM(b:List au)(k:List bN)(m:List bk)(d:List au):Prop:= ∃x,mgu b (ig d)=some x/\¬(gA x k []=none\/gB x m []=none)/\ha b x=d/\d≠[]
theorem If{b:List au}(ae:eJ b){k:List bN}{m:List bk}:∀{l L:List (List au)},hn b k m l=some L->∀d∈L,FM b k m d
 |[],L,h=>by simp only[hn,dv]at h;rw[<-h];simp
 |d0::r,L,h=>by
  simp only[hn]at h;split at h
  ·exact If ae h
  ·rename_i x f;split at h
   ·exact If ae h
   ·rename_i e;split at h
    ·cases h
    ·rename_i c;rw[gD]at h;obtain⟨g,J,rfl⟩:=h;intro d a;rcases gp.1 a with rfl|a
     ·exact⟨x,akM ae.sol ae.fits f,e,rfl,c⟩
     ·exact If ae J d a
theorem W7{b:List au}{k:List bN}{m:List bk}:∀{L:List (List au)},(∀d∈L,FM b k m d)->hn b k m L=some L
 |[],_=>rfl
 |d::L,h=>by obtain⟨x,J,U,a,c⟩:=h d Ψ;simp only[hn,J,if_neg U,a,if_neg c,W7 (L:=L) fun e he=>h e (by simp[he]),ni]
theorem Ie{b:List au}(ae:eJ b){k:List bN}{m:List bk}:∀{l L:List (List au)},(∀d∈l,eJ d)->hn b k m l=some L->∀d∈L,eJ d
 |[],L,_,h=>by simp only[hn,dv]at h;rw[<-h];simp
 |d0::r,L,f,h=>by
  simp only[hn]at h;split at h
  ·exact Ie ae (fun d a=>f d (by simp[a])) h
  ·rename_i x g;split at h
   ·exact Ie ae (fun d a=>f d (by simp[a])) h
   ·split at h
    ·cases h
    ·rw[gD]at h;obtain⟨i,J,rfl⟩:=h;intro d a;rcases gp.1 a with rfl|a
     ·exact Iu (ae.mgu (fun e he=>by obtain⟨c,ax,rfl⟩:=iL.1 he;have:=(f d0 Ψ).ok c ax;exact⟨by simpa[T.ok]using this.1,this.2⟩) g)
     ·exact Ie ae (fun d a=>f d (by simp[a])) J d a
theorem Ic{b:List au}(ae:eJ b){n:Int}(f:qP b n){k:List bN}{m:List bk}:∀{l L:List (List au)},(∀d∈l,qP d n)->hn b k m l=some L->∀d∈L,qP d n
 |[],L,_,h=>by simp only[hn,dv]at h;rw[<-h];simp
 |d0::r,L,g,h=>by
  simp only[hn]at h;split at h
  ·exact Ic ae f (fun d a=>g d (by simp[a])) h
  ·rename_i x i;split at h
   ·exact Ic ae f (fun d a=>g d (by simp[a])) h
   ·split at h
    ·cases h
    ·rw[gD]at h;obtain⟨j,J,rfl⟩:=h;intro d a;rcases gp.1 a with rfl|a
     ·have:=akO (fun v=>v<n) ae.sol ae.fits f (fun e he=>by obtain⟨c,ax,rfl⟩:=iL.1 he;have:=g d0 Ψ c ax;exact⟨fun w hw=>by simp[T.occ]at hw;subst hw;exact this.1,this.2⟩) i
      exact fun c ax=>this c (nN.1 ax).1
     ·exact Ic ae f (fun d a=>g d (by simp[a])) J d a
theorem akS{L:List (List au)}:lP (lP L)=lP L:=XB (XA L) fun x=>by rw[BV,and_assoc];refine⟨fun⟨J,U⟩=>⟨J,U,?_⟩,fun⟨J,U,_⟩=>⟨J,U⟩⟩;rw[jF,jL]at U⊢;exact fun d a=>U d (BV.1 a).1
theorem WA{b:List au}(ae:eJ b){n:Int}(a:qP b n){v w:Int}(c:v<n)(h:(cI b v).occ w=true):w<n:=by
 unfold cI at h;cases e:dx b v with
 |none=>rw[e]at h;simp[T.occ]at h;omega
 |some t=>rw[e]at h;exact(a _ (kQ e)).2 w h
theorem Ze{b:List au}(ae:eJ b){n:Int}(d:qP b n):∀{l acc a:List bN},(∀x∈l,x.v<n)->(∀x∈acc,x.v<n)->gA b l acc=some a->∀x∈a,x.v<n
 |[],acc,a,_,h,he=>by simp only[gA,dv]at he;rw[<-he];exact h
 |y::r,acc,a,e,h,he=>by
  simp only[gA]at he;split at he
  ·rename_i g f;refine Ze ae d (fun x c=>e x (by simp[c])) (fun x c=>?_) he;rcases Qq f x c with J|J
   ·exact h x J
   ·exact WA ae d (e y Ψ) (by rw[J];simp[T.occ])
  ·cases he
theorem Zh{b:List au}(ae:eJ b){n:Int}(d:qP b n):∀{l acc a:List bk},(∀x∈l,x.v<n)->(∀x∈acc,x.v<n)->gB b l acc=some a->∀x∈a,x.v<n
 |[],acc,a,_,h,he=>by simp only[gB,dv]at he;rw[<-he];exact h
 |y::r,acc,a,e,h,he=>by
  simp only[gB]at he;split at he
  ·rename_i g f;refine Zh ae d (fun x c=>e x (by simp[c])) (fun x c=>?_) he;rcases(EU f x).1 c with J|⟨_,J⟩
   ·exact h x J
   ·exact WA ae d (e y Ψ) J
  ·cases he
theorem ao9{s b:dW}(h:Ad s)(he:nc s=some b):Pj b/\b.n=s.n/\b.b=s.b:=by
 unfold nc at he;split at he
 ·cases he
 rename_i k e;split at he
 ·cases he
 rename_i m hm;split at he
 ·cases he
 rename_i L c;split at he;rotate_left
 ·cases he
 rename_i i;cases he;have f:=I6 h.b h.k.at' ⟨Ψ,Ψ⟩ e;have m1:=I7 h.b h.m.at' ⟨Ψ,by simp[ir]⟩ hm;have m2:iX (m.filter (lA k)):=⟨fun x a=>m1.at' x (nN.1 a).1,abg _ m1.asc⟩;have dr:=If h.b c;have g:=Ie h.b h.d c;refine⟨⟨⟨h.n,h.b,fun x a=>g x (BV.1 a).1,f,m2,h.bb,fun x a=>Ic h.b h.bb h.db c x (BV.1 a).1,Ze h.b h.bb h.kb Ψ e,fun x a=>Zh h.b h.bb h.mb Ψ hm x (nN.1 a).1⟩,?_⟩,rfl,rfl⟩;unfold nc;have n:gA s.b k []=some k:=Zg (acc:=[]) f.asc (Zf h.b.sol Ψ e);have p:gB s.b (m.filter (lA k)) []=some (m.filter (lA k)):=Zj (acc:=[]) m2.asc fun x a=>Zi h.b.sol Ψ hm x (nN.1 a).1;have l:(m.filter (lA k)).filter (lA k)=m.filter (lA k):=by rw[List.filter_filter];simp
 have j:hn s.b k (m.filter (lA k)) (lP L)=some (lP L):=W7 fun d o=>dr d (BV.1 o).1;simp only[n,p,l,j,akS,if_pos i]
theorem uE{α:Type}{s:List α}{i:Nat}{t:α}(h:s[i]? =some t):s.drop i=t::s.drop (i+1):=by obtain⟨hi,e⟩:=fy.1 h;rw[mh hi,e]
def rf(L:List (List au))(a:List (List au))(e:List au):List (List au):=if jF L e=true then kY eW e a else a
theorem NC{L:List (List au)}:∀(xs:List (List au)) {a:List (List au)},ir eW a->ir eW (xs.foldl (rf L) a)
 |[],_,h=>h
 |x::xs,a,h=>NC xs (a:=rf L a x) (by unfold rf;split<;>first|exact MK mC h|exact h)
theorem XD{L:List (List au)}{x:List au}:∀(xs:List (List au)) {a:List (List au)},x∈xs.foldl (rf L) a↔x∈a\/(x∈xs/\jF L x=true)
 |[],a=>by simp
 |y::xs,a=>by
  rw[List.foldl_cons,XD xs,gp];unfold rf;by_cases b:jF L y=true
  ·rw[if_pos b,Im mC];constructor
   ·rintro((rfl|h)|h)
    ·exact .inr ⟨.inl rfl,b⟩
    ·exact .inl h
    ·exact .inr ⟨.inr h.1,h.2⟩
   ·rintro(h|⟨rfl|J,U⟩)
    ·exact .inl (.inr h)
    ·exact .inl (.inl rfl)
    ·exact .inr ⟨J,U⟩
  ·rw[if_neg b];constructor
   ·rintro(h|h)
    ·exact .inl h
    ·exact .inr ⟨.inr h.1,h.2⟩
   ·rintro(h|⟨rfl|J,U⟩)
    ·exact .inl h
    ·exact absurd U b
    ·exact .inr ⟨J,U⟩
theorem XC{L:List (List au)}:∀(xs a:List (List au)),(xs.foldl (rf L) a).length<=a.length+xs.length
 |[],a=>by simp
 |y::xs,a=>by
  have J:=XC (L:=L) xs (rf L a y);have U:(rf L a y).length<=a.length+1:=by
   unfold rf;split
   ·exact MM _ _
   ·omega
  simp only[List.foldl_cons,jc];omega
theorem akU(L:List (List au)):lP L=L.foldl (rf L) []:=XB (NC L (by simp[ir])) fun x=>by rw[XD];simp
def zw(L:List (List au))(i:Nat)(a:List (List au)):Prop:=a=(L.take i).foldl (rf L) []
theorem zw.step{L:List (List au)}{i:Nat}{a:List (List au)}(h:zw L i a){e:List au}(he:L[i]? =some e):zw L (i+1) (rf L a e):=by rw[zw,sj he,List.foldl_append,h];rfl
def xJ(e d:List au):Bool:=decide (d=e)|| !oi d e
def q6(L:List (List au))(e:List au)(j:Nat)(k:Bool):Prop:=k=(L.take j).all (xJ e)
theorem q6.step{L:List (List au)}{e:List au}{j:Nat}{k:Bool}(h:q6 L e j k){d:List au}(a:L[j]? =some d):q6 L e (j+1) (k&&xJ e d):=by rw[q6,sj a,List.all_append,h];simp
def HZ(a:List (List au))(e:List au)(k:Nat):Prop:=k<=a.length/\∀c,a[k]? =some c->0<=eW c e
theorem HZ.fin{a:List (List au)}{e:List au}{k:Nat}(h:HZ a e k)(l:ir eW a)(ax:∀d,0<k->a[k-1]? =some d->eW d e<0):kY eW e a=if(match a[k]? with|some y=>decide (eW y e=0)|none=>false)=true then a else a.take k++e::a.drop k:=
 (ML mC e a k (fun i c hi b=>by
  have m:=h.1;obtain⟨d,f⟩:∃d,a[k-1]? =some d:=⟨_,cl Ω⟩;have J:=ax d Ω f;rcases Nat.lt_or_ge i (k-1)with U|U
  ·have g:=(fy.1 b);have j:=(fy.1 f);have:=qN.1 l i (k-1) g.1 j.1 U;rw[g.2,j.2]at this;exact mC.ltr this Ω
  ·have:i=k-1:=Ω
   subst this;rw[f]at b;cases b;exact J) h.2 h.1).trans (by cases a[k]?<;>rfl)
theorem WD(L:List (List au))(e:List au):jF L e=L.all (xJ e):=rfl
theorem ZP{l:List (List au)}{x:List au}:x∈pW eW l↔x∈l:=(Ac eW l).mem_iff
theorem akT(l:List (List au)):lP l=(cQ none (pW eW l)).filter (jF (pW eW l)):=by have h:jF l=jF (pW eW l):=funext fun e=>aj0 (fun x=>ZP.symm) e;rw[lP,h];rfl
def ny(s:List (List au))(i:Nat)(acc:List (List au)):Prop:=acc++(cQ (if i=0 then none else s[i-1]?) (s.drop i)).filter (jF s)=(cQ none s).filter (jF s)
def sp:dW:=⟨0,[],[],[],[]⟩
noncomputable def Cv(s:dW):dW:=match gA s.b s.k []with
 |none=>sp
 |some k=>match gB s.b s.m []with
  |none=>sp
  |some m=>match hn s.b k (m.filter (lA k)) s.d with
   |none=>sp
   |some L=>⟨s.n,s.b,lP L,k,m.filter (lA k)⟩
theorem apa{s b:dW}(h:nc s=some b):Cv s=b:=by
 unfold nc at h;unfold Cv;cases J:gA s.b s.k []with
 |none=>rw[J]at h;cases h
 |some k=>
  rw[J]at h;simp only at h⊢;cases U:gB s.b s.m []with
  |none=>rw[U]at h;cases h
  |some m=>
   rw[U]at h;simp only at h⊢;cases a:hn s.b k (m.filter (lA k)) s.d with
   |none=>rw[a]at h;cases h
   |some L=>
    rw[a]at h;simp only at h⊢;split at h
    ·cases h;rfl
    ·cases h
theorem abL{k:List bN}(a:jl k)(v:Int):(la k (.var v) 2).isSome=(l7 k v !=some 3):=by
 unfold la;simp only;cases h:l7 k v with
 |none=>simp
 |some x=>have:=(a.at' _ (WL h)).2;simp only at this;rcases this with rfl|rfl<;>simp
theorem abP{k:List bN}(a:k.Pairwise fun x y=>x.v<y.v)(v:Int):(k.any fun x=>x.v==v&&x.k==3)=(l7 k v==some 3):=by
 rw[ry,List.any_eq_true,dS];constructor
 ·rintro⟨x,b,h⟩;simp only[cD,dS]at h;have:=H6 a b;rw[h.1,h.2]at this;exact this
 ·intro h;exact⟨_,WL h,Ψ⟩
theorem Na{b:List au}{k:List bN}{m:List bk}{d:List au}{r:List (List au)}(h:mgu b (ig d)=none):hn b k m (d::r)=hn b k m r:=by rw[hn,h]
theorem M9{b:List au}{k:List bN}{m:List bk}{d x:List au}{r:List (List au)}(h:mgu b (ig d)=some x)(a:gA x k []=none\/gB x m []=none):hn b k m (d::r)=hn b k m r:=by rw[hn,h];simp only[if_pos a]
theorem M8{b:List au}{k:List bN}{m:List bk}{d x:List au}{r:List (List au)}(h:mgu b (ig d)=some x)(c:¬(gA x k []=none\/gB x m []=none))(a:ha b x=[]):hn b k m (d::r)=none:=by rw[hn,h];simp only[if_neg c,if_pos a]
theorem Nb{b:List au}{k:List bN}{m:List bk}{d x:List au}{r:List (List au)}(h:mgu b (ig d)=some x)(c:¬(gA x k []=none\/gB x m []=none))(a:ha b x≠[]):hn b k m (d::r)=(hn b k m r).map (ha b x:: ·):=by rw[hn,h];simp only[if_neg c,if_neg a]
def q7(b:List au)(k:List bN)(m:List bk)(D:List (List au))(i:Nat)(a:List (List au)):Prop:=a.length<=i/\(∀x∈a,eJ x)/\(hn b k m (D.drop i)).map (a++ ·)=hn b k m D
def jy(n:Int):T->Bool
 | .var v=>decide (v<n)
 | .pair a b=>jy n a&&jy n b
 |_=>true
theorem Ko{n:Int}:∀{t:T},jy n t=true↔yx t n
 | .var v=>by simp[jy,yx,T.occ]
 | .pair a b=>by simp only[jy,cD,Ko (t:=a),Ko (t:=b),yx,T.occ,nL];exact⟨fun h v c=>c.elim (h.1 v) (h.2 v),fun h=>⟨fun v c=>h v (.inl c),fun v c=>h v (.inr c)⟩⟩
 | .nil=>by simp[jy,yx,T.occ]
 | .sym _=>by simp[jy,yx,T.occ]
 | .num _=>by simp[jy,yx,T.occ]
def lJ(n:Int)(b:au):Bool:=decide (b.v<n)&&jy n b.t
theorem wX{n:Int}{s:List au}:s.all (lJ n)=true↔qP s n:=by simp[jL,lJ,qP,Ko]
def tK(v m:Int):Int:=if m<v+1 then v+1 else m
theorem PY{n:Int}:∀(t:T) (m:Int),t.fold tK m<=n↔m<=n/\jy n t=true
 | .var v,m=>by simp only[T.fold,tK,jy,e8];split<;>omega
 | .pair a b,m=>by simp only[T.fold,PY b,PY a,jy,cD,and_assoc]
 | .nil,m=>by simp[T.fold,jy]
 | .sym _,m=>by simp[T.fold,jy]
 | .num _,m=>by simp[T.fold,jy]
def FZ(v m:Int):aW Int:=if 0<=v/\v<=100000 then some (tK v m)else none
theorem PX:∀(t:T) (m:Int),t.ok=true->t.foldO FZ m=some (t.fold tK m)
 | .var v,m,h=>by
  have:0<=v/\v<=100000:=by simpa[T.ok]using h
  simp[T.foldO,T.fold,FZ,this]
 | .pair a b,m,h=>by
  have J:a.ok=true/\b.ok=true:=by simpa[T.ok]using h
  simp[T.foldO,T.fold,PX a m J.1,PX b _ J.2]
 | .nil,m,_=>rfl
 | .sym _,m,_=>rfl
 | .num _,m,_=>rfl
structure j0 where
 n:Int
 b:List dj
 d:List (List dj)
 k:List bN
 m:List bk
def dW.r(s:dW):j0:=⟨s.n,s.b.map au.b,s.d.map fun x=>x.map au.b,s.k,s.m⟩
def uU(r:j0):Prop:= ∃s:dW,r=s.r/\Pj s
def ks(n:Int)(x:List dj):Prop:= ∃s:List au,x=s.map au.b/\eJ s/\qP s n
structure OJ (r:j0):Prop where
 n:0<=r.n/\r.n<=100000
 b:ks r.n r.b
 d:∀x∈r.d,ks r.n x
 k:jl r.k
 m:iX r.m
 kb:∀x∈r.k,x.v<r.n
 mb:∀x∈r.m,x.v<r.n
theorem uU.raw{r:j0}(h:uU r):OJ r:=by obtain⟨s,rfl,J,_⟩:=h;exact⟨J.n,⟨s.b,rfl,J.b,J.bb⟩,fun x b=>by obtain⟨y,a,rfl⟩:=iL.1 b;exact⟨y,rfl,J.d y a,J.db y a⟩,J.k,J.m,J.kb,J.mb⟩
theorem wU:∀{a b:List au},a.map au.b=b.map au.b->a=b
 |[],b,h=>by cases b<;>simp at h⊢
 |x::a,[],h=>by simp at h
 |x::a,y::b,h=>by simp only[fA,rA,au.b,dj.mk.injEq]at h;rw[wU h.2];have:=aaf h.1.2;obtain⟨⟨J,_⟩,_⟩:=h;cases x;cases y;simp_all
theorem QJ:∀{a b:List (List au)},(a.map fun x=>x.map au.b)=(b.map fun x=>x.map au.b)->a=b
 |[],b,h=>by cases b<;>simp at h⊢
 |x::a,[],h=>by simp at h
 |x::a,y::b,h=>by rw[fA,fA,rA]at h;rw[QJ h.2,wU h.1]
theorem dW.r_inj{s t:dW}(h:s.r=t.r):s=t:=by obtain⟨n,b,d,k,m⟩:=s;obtain⟨n',cb,g,i,f⟩:=t;simp only[dW.r,j0.mk.injEq]at h;obtain⟨J,U,c,e,a⟩:=h;rw[J,wU U,QJ c,e,a]
theorem Tu{n:Int}:∀{d:List (List dj)},(∀x∈d,ks n x)->∃D:List (List au),d=(D.map fun x=>x.map au.b)/\(∀x∈D,eJ x)/\∀x∈D,qP x n
 |[],_=>⟨[],rfl,Ψ,Ψ⟩
 |x::d,h=>by
  obtain⟨D,J,U,c⟩:=Tu (d:=d) fun y a=>h y (by simp[a]);obtain⟨s,e,f,b⟩:=h x Ψ;refine⟨s::D,by rw[J,e];rfl,fun y a=>?_,fun y a=>?_⟩
  ·rcases gp.1 a with rfl|a
   ·exact f
   ·exact U y a
  ·rcases gp.1 a with rfl|a
   ·exact b
   ·exact c y a
theorem ZR{s:dW}(h:Ad s):uU s.r↔nc s=some s:=by
 constructor
 ·rintro⟨t,e,_,U⟩;rw[dW.r_inj e];exact U
 ·intro U;exact⟨s,rfl,h,U⟩
theorem x8{l:List dj}:J6 l↔∃s:List au,l=s.map au.b/\eJ s:=⟨fun⟨s,J,U,a,b⟩=>⟨s,J,U,a,b⟩,fun⟨s,J,U⟩=>⟨s,J,U.ok,U.sol,U.fits⟩⟩
def sD{α:Type}(a b:List α)(i:Nat)(_:Unit):Prop:= ∀k,k<i->a[k]? =b[k]?
theorem sD.fin{α:Type}{a b:List α}(h:sD a b b.length ())(d:a.length=b.length):a=b:=by
 apply List.ext_getElem?;intro k;by_cases c:k<b.length
 ·exact h k c
 ·rw[rC Ω,rC Ω]
theorem sD.step{α:Type}{a b:List α}{i:Nat}(h:sD a b i ()){x:α}(c:a[i]? =some x)(ae:b[i]? =some x):sD a b (i+1) ():=fun k d=>by
 rcases(by omega:k<i\/k=i)with J|rfl
 ·exact h k J
 ·rw[c,ae]
def ti{α:Type}(p:α->Prop)(s:List α)(i:Nat)(_:Unit):Prop:= ∀k b,k<i->s[k]? =some b->p b
theorem ti.step{α:Type}{p:α->Prop}{s:List α}{i:Nat}(h:ti p s i ()){b:α}(ae:s[i]? =some b)(a:p b):ti p s (i+1) ():=fun k c d ax=>by
 rcases(by omega:k<i\/k=i)with J|rfl
 ·exact h k c J ax
 ·rw[ae]at ax;cases ax;exact a
theorem ti.fin{α:Type}{p:α->Prop}{s:List α}(h:ti p s s.length ()):∀b∈s,p b:=fun b ae=>by obtain⟨k,a,e⟩:=oC ae;exact h k b a (by rw[cl a,e])
def Rb:C:=(aa [bt 2 false] (.seq (aa [I 5 0,cp 6 5,b1 7 0] (fR 8 7 6 (.seq (.block 1 (aa [I 9 7,cx 10 2 5 7,bg 11 2 10,c8 (.alloc 4 none (.agg [.int .i64 0,.int .i64 0])),I 3 9,b7 2 4 11] (.seq (.drawn true 46 (aH 12 0 1 4::aw 13 1 12::aT 14 .lss 13 0::I 15 14::ay 15 false (aH 16 0 1 4)::ay 15 false (aw 17 1 16)::ay 15 false (aT 18 .gtr 17 100000)::dy 19 15 18::I 20 19::ay 20 false (aH 21 1 1 4)::ay 20 false (aw 22 1 21)::ay 20 false (aT 23 .neq 22 2)::cg 20 false 24 23::ay 24 true (aH 25 1 1 4)::ay 24 true (aw 26 1 25)::ay 24 true (aT 27 .neq 26 3)::ay 20 false (ef 28 24 27)::dy 29 20 28::I 30 29::cg 30 false 31 3::ay 30 false (aT 32 .gtr 31 0)::cg 30 false 33 32::cg 33 true 34 0::cg 33 true 35 3::ay 33 true (aT 36 .sub 35 1)::ay 33 true (cx 37 2 34 36)::ay 33 true (aH 38 0 1 37)::ay 33 true (aw 39 1 38)::ay 33 true (aH 40 0 1 4)::ay 33 true (aw 41 1 40)::ay 33 true (bp 42 .geq 39 41)::ay 30 false (ef 43 33 42)::dy 44 30 43::[])) (aU 44 (aa [bt 2 false] .ret) .skip)))) (.region [aT 45 .add 7 1,I 7 45])))) (aa [bt 2 true] .ret)))
def Rc:C:=(aa [bt 2 false] (.seq (aa [I 5 0,cp 6 5,b1 7 0] (fR 8 7 6 (.seq (.block 1 (aa [I 9 7,cx 10 2 5 7,bg 11 2 10,c8 (.alloc 4 none (.agg [.int .i64 0,.str []])),I 3 9,b7 2 4 11] (.seq (.drawn true 41 [aH 12 0 1 4,aw 13 1 12,aT 14 .lss 13 0,I 15 14,ay 15 false (aH 16 0 1 4),ay 15 false (aw 17 1 16),ay 15 false (aT 18 .gtr 17 100000),dy 19 15 18,I 20 19,ay 20 false (aH 21 1 1 4),ay 20 false (aw 22 1 21),ay 20 false (cG 23 133 22),ay 20 false (cJ 24 23),dy 25 20 24,I 26 25,cg 26 false 27 3,ay 26 false (aT 28 .gtr 27 0),cg 26 false 29 28,cg 29 true 30 0,cg 29 true 31 3,ay 29 true (aT 32 .sub 31 1),ay 29 true (cx 33 2 30 32),ay 29 true (bg 34 2 33),ay 29 true (bg 35 2 4),ay 29 true (cq 36 134 34 35),ay 29 true (cJ 37 36),ay 26 false (ef 38 29 37),dy 39 26 38]) (aU 39 (aa [bt 2 false] .ret) .skip)))) (.region [aT 40 .add 7 1,I 7 40])))) (aa [bt 2 true] .ret)))
def Gt:C:=(aa [dc 2 0,dc 3 1,bt 4 false] (aa [aH 5 0 1 2,aw 6 1 5,aH 7 0 1 3,aw 8 1 7,bp 9 .lss 6 8,I 10 9,ay 10 false (aH 11 0 1 2),ay 10 false (aw 12 1 11),ay 10 false (aH 13 0 1 3),ay 10 false (aw 14 1 13),ay 10 false (bp 15 .eql 12 14),cg 10 false 16 15,ay 16 true (aH 17 1 1 2),ay 16 true (aw 18 1 17),ay 16 true (aH 19 1 1 3),ay 16 true (aw 20 1 19),ay 16 true (bp 21 .lss 18 20),ay 10 false (ef 22 16 21),dy 23 10 22,I 4 23] .ret))
def rK:C:=(aa [dc 6 2,fk 8 2,bt 9 false] (.seq (aa [I 15 0,cG 16 82 15,cJ 17 16,I 18 17,ay 18 false (bg 19 4 6),ay 18 false (cG 20 101 19),ay 18 false (cJ 21 20),dy 22 18 21,I 23 22,cg 23 false 24 1,ay 23 false (cG 25 83 24),ay 23 false (cJ 26 25),dy 27 23 26,I 28 27,cg 28 false 29 3,ay 28 false (aT 30 .neq 29 2),cg 28 false 31 30,cg 31 true 32 3,ay 31 true (aT 33 .neq 32 3),ay 28 false (ef 34 31 33),dy 35 28 34] (aU 35 (aa [fk 8 2,bt 9 false] .ret) .skip)) (aa [I 37 0,bg 38 4 6,cq 39 59 37 38,I 36 39,dn 40 0 36,dn 41 1 36,eg 10 eI,b7 4 10 40,I 11 41] (.seq (aa [I 42 11,cJ 43 42] (aU 43 (aa [fk 8 2,bt 9 false] .ret) .skip)) (aa [c8 (.bslm 44 (some 803) 2 78 []),I 45 1,c8 (.appm 46 none 2 78 (.t 44) (.t 45)),c8 (.alloc 12 (some 804) (.slice 2 .nil [])),b7 1 12 46] (.seq (aa [aH 47 0 1 10,aw 48 1 47,aT 49 .neq 48 1] (aU 49 (.seq (aa [aH 50 0 1 10,aw 51 1 50,I 52 3,bp 53 .neq 51 52] (aU 53 (aa [fk 8 2,bt 9 false] .ret) .skip)) (.seq (.pubB 12 (.region [aw 54 1 12,I 8 54,bt 9 true])) .ret)) .skip)) (.seq (aa [I 55 1,cp 56 55,b1 57 0] (fR 58 57 56 (.seq (.block 1 (aa [cx 59 2 55 57,bg 60 2 59,c8 (.alloc 14 none (.agg [.int .i64 0,.int .i64 0])),b7 2 14 60] (aa [aH 61 0 1 14,aw 62 1 61,aH 63 1 1 10,aw 64 1 63,bp 65 .eql 62 64] (aU 65 (.seq (aa [aH 66 1 1 14,aw 67 1 66,I 68 3,bp 69 .neq 67 68] (aU 69 (aa [fk 8 2,bt 9 false] .ret) .skip)) (.seq (.pubB 12 (.region [aw 70 1 12,I 8 70,bt 9 true])) .ret)) .skip)))) (.region [aT 71 .add 57 1,I 57 71])))) (aa [aw 72 1 12,aH 73 1 1 10,aw 74 1 73,I 75 3,bG 76 (.build [.int .i64 0,.int .i64 0] [(0,1,(.t 74)),(1,1,(.t 75))]),eD 77 2 78 [.t 76],c8 (.appm 78 none 2 78 (.t 72) (.t 77)),b7 1 12 78] (aa [aw 79 1 12,bG 80 (.mkif 32 (.t 79)),bG 81 (.mkf 186 [.t 12]),cq 82 185 80 81] (.seq (.pubB 12 (.region [aw 83 1 12,I 8 83,bt 9 true])) .ret))))))))))
def Gs:C:=(aa [dc 6 2,c8 (.box 7 (some 811) (.t 3)),fk 8 2,bt 9 false] (.seq (aa [I 17 0,cG 18 82 17,cJ 19 18,I 20 19,ay 20 false (bg 21 4 6),ay 20 false (cG 22 101 21),ay 20 false (cJ 23 22),dy 24 20 23,I 25 24,cg 25 false 26 1,ay 25 false (cG 27 84 26),ay 25 false (cJ 28 27),dy 29 25 28,I 30 29,ay 30 false (aw 31 1 7),ay 30 false (cG 32 133 31),ay 30 false (cJ 33 32),dy 34 30 33] (aU 34 (aa [fk 8 2,bt 9 false] .ret) .skip)) (aa [I 36 0,bg 37 4 6,cq 38 59 36 37,I 35 38,dn 39 0 35,dn 40 1 35,eg 10 eI,b7 4 10 39,I 11 40] (.seq (aa [I 41 11,cJ 42 41,I 43 42,ay 43 false (bg 44 4 10),ay 43 false (aw 45 1 7),ay 43 false (cq 46 187 44 45),dy 47 43 46] (aU 47 (aa [fk 8 2,bt 9 false] .ret) .skip)) (aa [c8 (.mkmap 48 (some 812)),c8 (.alloc 12 (some 813) (.junk)),b7 1 12 48] (.seq (aa [I 49 1,cp 50 49,b1 51 0] (fR 52 51 50 (.seq (.block 1 (aa [cx 53 2 49 51,bg 54 2 53,c8 (.alloc 14 none (.agg [.int .i64 0,.str []])),b7 2 14 54] (.region [aw 55 1 12,bg 56 2 14,c8 (.mput (.a [false,true]) (.t 55) (.t 56) (.c (.bool true)))]))) (.region [aT 57 .add 51 1,I 51 57])))) (aa [bg 58 4 10,bG 59 (.mkf 188 [.t 12,.t 7]),cq 60 131 58 59] (aa [c8 (.bslm 61 (some 814) 2 82 []),c8 (.alloc 15 (some 815) (.slice 2 .nil [])),b7 1 15 61] (.seq (aa [aw 62 1 12,c8 (.range 63 none (.t 62))] (.block 2 (.loop (aa [⟨none,.next 64 (.t 63)⟩,dn 65 0 64] (.seq (aU 65 .skip (.exit 2)) (.block 3 (aa [bG 66 (.ment (.t 63)),dn 67 0 66,c8 (.alloc 16 none (.agg [.int .i64 0,.str []])),b7 2 16 67] (.region [aw 68 1 15,bg 69 2 16,eD 70 2 82 [.t 69],c8 (.appm 71 none 2 82 (.t 68) (.t 70)),b7 1 15 71])))))))) (aa [aw 72 1 15,bG 73 (.mkif 33 (.t 72)),bG 74 (.mkf 189 [.t 15]),cq 75 185 73 74] (.seq (.pubB 15 (.region [aw 76 1 15,I 8 76,bt 9 true])) .ret)))))))))))
def Q4:C:=(aa [bt 5 false] (.seq (.drawn true 17 [aw 6 1 2,I 7 0,cx 8 2 6 7,aH 9 0 1 8,aw 10 1 9,aw 11 1 2,I 12 1,cx 13 2 11 12,aH 14 0 1 13,aw 15 1 14,bp 16 .lss 10 15,I 5 16]) .ret))
def Gv:C:=(aa [dc 2 0,bt 4 false] (.seq (aa [aH 5 0 1 2,aw 6 1 5,aT 7 .eql 6 4] (aU 7 (aa [aH 8 3 1 2,aw 9 1 8,im 10 4 9 0,bg 11 4 10,I 12 1,cq 13 187 11 12,I 14 13,ay 14 false (aH 15 3 1 2),ay 14 false (aw 16 1 15),ay 14 false (im 17 4 16 1),ay 14 false (bg 18 4 17),cg 14 false 19 1,ay 14 false (cq 20 187 18 19),dy 21 14 20,I 4 21] .ret) .skip)) (aa [aH 22 0 1 2,aw 23 1 22,aT 24 .eql 23 2,I 25 24,ay 25 true (aH 26 2 1 2),ay 25 true (aw 27 1 26),cg 25 true 28 1,ay 25 true (bp 29 .eql 27 28),ef 30 25 29,I 4 30] .ret)))
def Q2:C:=(.region [aw 4 1 1,I 5 0,aw 6 1 2,bG 7 (.build [.int .i64 0,.str []] [(0,1,(.t 5)),(1,1,(.t 6))]),c8 (.mput (.a [false,true]) (.t 4) (.t 7) (.c (.bool true)))])
def Q3:C:=(aa [bt 5 false] (.seq (.drawn true 15 [aw 6 1 2,I 7 0,cx 8 2 6 7,bg 9 2 8,aw 10 1 2,I 11 1,cx 12 2 10 11,bg 13 2 12,cq 14 134 9 13,I 5 14]) .ret))
def u1:List (Nat×dE):=[
 (3,⟨1,8,.int .i64,.int .i64 0⟩),
 (9,⟨1,16,.str,.str []⟩),
 (32,⟨1,24,.slice 78,.slice 2 .nil []⟩),
 (33,⟨1,24,.slice 82,.slice 2 .nil []⟩),
 (44,⟨1,24,.slice 71,.slice 4 .nil []⟩),
 (71,⟨4,56,.struct [(0,3),(1,3),(2,9),(3,44)],.agg [.int .i64 0,.int .i64 0,.str [],.slice 4 .nil []]⟩),
 (78,⟨2,16,.struct [(0,3),(1,3)],.agg [.int .i64 0,.int .i64 0]⟩),
 (82,⟨2,24,.struct [(0,3),(1,9)],.agg [.int .i64 0,.str []]⟩),
 (193,⟨1,8,.map 82 4,.junk⟩)]
theorem kJ:e6 ar u1=true:=an
theorem alr:b4 u1 Rb [.tmp 2] 1 Tryz.f83=true:=an
theorem als:b4 u1 Rc [.tmp 2] 1 Tryz.f84=true:=an
theorem NW:b4 u1 Gt [.tmp 4] 2 Tryz.f134=true:=an
theorem tw:b4 u1 rK [.tmp 8,.tmp 9] 4 Tryz.f167=true:=an
theorem NV:b4 u1 Gs [.tmp 8,.tmp 9] 4 Tryz.f168=true:=an
theorem alj:b4 u1 Q4 [.tmp 5] 3 Tryz.f186=true:=an
theorem NY:b4 u1 Gv [.tmp 4] 2 Tryz.f187=true:=an
theorem alh:b4 u1 Q2 [] 3 Tryz.f188=true:=an
theorem ali:b4 u1 Q3 [.tmp 5] 3 Tryz.f189=true:=an
def na(x:bN):Prop:=(0<=x.v/\x.v<=100000)/\(x.k=2\/x.k=3)
def og(x y:bN):Prop:=x.v<y.v
theorem H5{l:List bN}:jl l↔∀i,i<l.length->iP na og l i:=by rw[Qr (p:=na) (r:=og) (fun a b c J U=>by unfold og at*;omega)];exact⟨fun h=>⟨h.at',h.asc⟩,fun h=>⟨h.1,h.2⟩⟩
def k0(x:bk):Prop:=(0<=x.v/\x.v<=100000)/\iW x.s=true
def lz(x y:bk):Prop:=fJ x y<0
theorem Ik{l:List bk}:iX l↔∀i,i<l.length->iP k0 lz l i:=by rw[Qr (p:=k0) (r:=lz) (fun a b c J U=>by unfold lz at*;exact mD.ltr J (Int.le_of_lt U))];exact⟨fun h=>⟨h.at',h.asc⟩,fun h=>⟨h.1,h.2⟩⟩
open Classical in
theorem aav(l:List bN):bL ar 83 [.slice 2 .no (l.map bN.e)] (.bool (decide (jl l))):=by
 generalize bq:decide (jl l)=R;refine bs kJ Tryz.func83 alr fun p=>?_;unfold Rb;have r:l.length<=68719476736:=by simp[e1,eK,eV,lim]at p;omega
 simp;refine eG [0,5,6] (fun i (_:Unit)=>[(7,.int .i64 i)]) l.length (fun i _=> ∀j,j<i->iP na og l j) () b6 (fun k v=>Ω) (fun _ d _=>?_) (fun i _ hi d _=>?_)
 ·have:R=true:=by rw[<-bq,e8,H5];exact d
  rw[this];exact cn
 ·obtain⟨b,ae⟩:∃b,l[i]? =some b:=⟨_,cl hi⟩;obtain⟨c,ax⟩:∃c,l[i-1]? =some c:=⟨_,cl Ω⟩;have m:∀h,(l[i]'h)=b:=fun h=>by rw[cl hi]at ae;exact fK ae
  have n:¬iP na og l i->R=false:=fun h=>by rw[<-bq,iq];exact fun a=>h (H5.1 a i hi)
  have dr:iP na og l i->∀j,j<i+1->iP na og l j:=fun h j q=>by
   by_cases e:j=i
   ·rw[e];exact h
   ·exact d j Ω
  simp[hi,m,ax];((with_reducible repeat' first|refine al ?_|simp[m,ax,hi]|((first|apply bQ|apply bT|apply bS)<;>intro h<;>try simp at h))<;>(try exact cv));all_goals first
   |(have o:¬iP na og l i:=by(intro a;have J:=a b ae;have U:=J.2 c;have u:=J.1;unfold na og at*;first|omega|(have w:=U Ω ax;omega)|(simp_all;done)|(simp_all;omega))
     rw[n o]
     simp[bE,aX,a1,aV]
     done)
   |(refine bO.rng () hi (dr fun cb g=>?_) ?_
     ·rw[ae]at g;cases g
      refine⟨?_,fun s t f=>?_⟩
      ·unfold na;first|(simp_all;done)|(simp_all;omega)
      ·rw[ax]at f;cases f;unfold og;simp_all
     ·exact b6)
theorem CJ(a b:bk):bL ar 134 [a.e,b.e] (.bool (ij fJ a b)):=by
 rw[<-XH];have bq:uL a b=(decide (a.v<b.v)||(a.v==b.v&&hX a.s b.s)):=rfl;rcases Int.lt_trichotomy a.v b.v with h|h|h
 ·have:uL a b=true:=by rw[bq];simp[h]
  rw[this];refine bs kJ Tryz.func134 NW fun c=>?_;unfold Gt;exact cn
 ·have J:¬a.v<b.v:=Ω
  have U:(a.v==b.v)=true:=by simp[h]
  have:uL a b=hX a.s b.s:=by rw[bq];simp[h]
  rw[this];refine bs kJ Tryz.func134 NW fun c=>?_;unfold Gt;exact cn
 ·have J:¬a.v<b.v:=Ω
  have U:¬a.v=b.v:=Ω
  have d:(a.v==b.v)=false:=by simp[U]
  have:uL a b=false:=by rw[bq];simp[J,U]
  rw[this];refine bs kJ Tryz.func134 NW fun c=>?_;unfold Gt;exact cn
open Classical in
theorem aax(l:List bk):bL ar 84 [.slice 2 .no (l.map bk.e)] (.bool (decide (iX l))):=by
 generalize bq:decide (iX l)=R;refine bs kJ Tryz.func84 als fun u=>?_;unfold Rc;have w:l.length<=68719476736:=by simp[e1,eK,eV,lim]at u;omega
 simp;refine eG [0,5,6] (fun i (_:Unit)=>[(7,.int .i64 i)]) l.length (fun i _=> ∀j,j<i->iP k0 lz l j) () b6 (fun k y=>Ω) (fun _ n _=>?_) (fun i _ hi n _=>?_)
 ·have:R=true:=by rw[<-bq,e8,Ik];exact n
  rw[this];exact cn
 ·obtain⟨b,ae⟩:∃b,l[i]? =some b:=⟨_,cl hi⟩;obtain⟨c,ax⟩:∃c,l[i-1]? =some c:=⟨_,cl Ω⟩;have a:∀h,(l[i]'h)=b:=fun h=>by rw[cl hi]at ae;exact fK ae
  have r:¬iP k0 lz l i->R=false:=fun h=>by rw[<-bq,iq];exact fun s=>h (Ik.1 s i hi)
  have dr:iP k0 lz l i->∀j,j<i+1->iP k0 lz l j:=fun h j v=>by
   by_cases e:j=i
   ·rw[e];exact h
   ·exact n j Ω
  have f:∀p:Prop,(p->et)->(iP k0 lz l i->p)->R=false:=fun p J U=>r fun h=>J (U h);have d:iP k0 lz l i->k0 b:=fun h=>(h b ae).1;have t:iP k0 lz l i->0<i->ij fJ c b=true:=fun h m=>by simpa[ij,lz]using(h b ae).2 c m ax
  have g:k0 b->(0<i->ij fJ c b=true)->iP k0 lz l i:=fun J U cb q=>by rw[ae]at q;cases q;exact⟨J,fun x m o=>by rw[ax]at o;cases o;simpa[ij,lz]using U m⟩
  unfold k0 at d g;by_cases g1:b.v<0
  ·rw[f _ (fun h=>Ω) (fun h=>(d h).1.1)];exact cn
  by_cases g2:100000<b.v
  ·rw[f _ (fun h=>Ω) (fun h=>(d h).1.2)];exact cn
  cases g3:iW b.s
  ·rw[f _ (fun h=>by rw[h]at g3;cases g3) (fun h=>(d h).2)];simp[hi,a,ax];(with_reducible repeat' first|refine al ?_|refine aI (u2 _) ?_|refine aJ (u2 _) ?_|simp[a,ax,hi,g1,g2,g3]);simp[bE,aX,a1,aV]
  by_cases g4:0<i
  ·cases g5:ij fJ c b
   ·rw[f _ (fun h=>by rw[h]at g5;cases g5) (fun h=>t h g4)];simp[hi,a,ax];(with_reducible repeat' first|refine al ?_|refine aI (u2 _) ?_|refine aJ (u2 _) ?_|refine aI (CJ _ _) ?_|refine aJ (CJ _ _) ?_|simp[a,ax,hi,g1,g2,g3,g4,g5]);simp[bE,aX,a1,aV]
   ·simp[hi,a,ax];(with_reducible repeat' first|refine al ?_|refine aI (u2 _) ?_|refine aJ (u2 _) ?_|refine aI (CJ _ _) ?_|refine aJ (CJ _ _) ?_|simp[a,ax,hi,g1,g2,g3,g4,g5]);exact bO.rng () hi (dr (g ⟨⟨Ω,Ω⟩,g3⟩ fun _=>g5)) b6
  ·obtain rfl:i=0:=Ω
   simp[hi,a,ax];(with_reducible repeat' first|refine al ?_|refine aI (u2 _) ?_|refine aJ (u2 _) ?_|simp[a,ax,hi,g1,g2,g3,g4]);exact bO.rng () hi (dr (g ⟨⟨Ω,Ω⟩,g3⟩ fun h=>Ω)) b6
theorem aqA(s:List bV):∀t:T,bL ar 187 [t.e,.str s] (.bool (t.has s)):=by
 intro t;induction t with
 |pair a b d c=>
  refine bs kJ Tryz.func187 NY fun f=>?_;unfold Gv;simp;cases e:a.has s<;>cases ae:b.has s<;>rw[e]at d<;>rw[ae]at c;all_goals(with_reducible repeat' first|refine al ?_|refine aI d ?_|refine aJ d ?_|refine aI c ?_|refine aJ c ?_|simp)
  all_goals simp[bE,aX,a1,aV]
  all_goals simp[T.has,e,ae]
 |sym n=>
  refine bs kJ Tryz.func187 NY fun f=>?_;unfold Gv;simp;(with_reducible repeat' first|refine al ?_|simp);all_goals simp[bE,aX,a1,aV]
  all_goals simp[T.has]
 |_=>
  refine bs kJ Tryz.func187 NY fun f=>?_;unfold Gv;simp;(with_reducible repeat' first|refine al ?_|simp);all_goals simp[bE,aX,a1,aV]
  all_goals simp[T.has]
def Sv:C:=(aa [dc 2 0] (aa [b1 4 20] (aa [I 8 4,b1 5 0,I 6 8] (.seq (.block 0 (.loop (.seq (aa [I 9 6,I 10 1,bp 11 .leq 9 10] (aU 11 .skip (.exit 0))) (.block 1 (aa [bg 12 2 2,I 13 5,I 14 6,dU 15 224 [.t 12,.t 13,.t 14]] (aa [I 16 6,I 5 16] (.region [I 17 6,I 18 4,bp 19 .add 17 18,I 6 19]))))))) (aa [bg 20 2 2,I 21 5,I 22 1,dU 23 224 [.t 20,.t 21,.t 22]] (.block 2 (.loop (.seq (aa [I 24 4,I 25 1,bp 26 .lss 24 25] (aU 26 .skip (.exit 2))) (.block 3 (aa [I 27 4,bG 28 (.bin .mul false (gi 2) (.t 27)),b1 5 0,I 6 28] (.seq (.block 4 (.loop (.seq (aa [I 29 6,I 30 1,bp 31 .leq 29 30] (aU 31 .skip (.exit 4))) (.block 5 (aa [bg 32 2 2,I 33 5,I 34 5,I 35 4,bp 36 .add 34 35,I 37 6,dU 38 225 [.t 32,.t 33,.t 36,.t 37]] (aa [I 39 6,I 5 39] (.region [I 40 6,I 41 4,bG 42 (.bin .mul false (gi 2) (.t 41)),bp 43 .add 40 42,I 6 43]))))))) (.seq (aa [I 44 5,I 45 4,bp 46 .add 44 45,I 7 46] (aa [I 47 7,I 48 1,bp 49 .lss 47 48] (aU 49 (.region [bg 50 2 2,I 51 5,I 52 7,I 53 1,dU 54 225 [.t 50,.t 51,.t 52,.t 53]]) .skip))) (.region [I 55 4,aT 56 .mul 55 2,I 4 56])))))))))))))
def KE:C:=(aa [dc 3 0] (aa [I 8 1,aT 9 .add 8 1,I 6 9] (.block 0 (.loop (.seq (aa [I 10 6,I 11 2,bp 12 .lss 10 11] (aU 12 .skip (.exit 0))) (.seq (.block 1 (aa [I 15 6,I 7 15] (.block 2 (.loop (.seq (aa [I 16 7,I 17 1,bp 18 .gtr 16 17,I 19 18,ay 19 true (aH 20 0 1 3),ay 19 true (aw 21 1 20),cg 19 true 22 7,cg 19 true 23 7,ay 19 true (aT 24 .sub 23 1),ay 19 true (hj 25 21 [.t 22,.t 24]),ef 26 19 25] (aU 26 .skip (.exit 2))) (.seq (.block 3 (.region [aH 29 1 1 3,aw 30 1 29,I 31 7,I 32 7,aT 33 .sub 32 1,hj 34 30 [.t 31,.t 33]])) (.region [I 27 7,aT 28 .sub 27 1,I 7 28]))))))) (.region [I 13 6,aT 14 .add 13 1,I 6 14])))))))
def GA:C:=(aa [I 164 16,I 165 22,bp 166 .lss 164 165,I 167 166,cg 167 true 168 22,cg 167 true 169 3,ay 167 true (bp 170 .lss 168 169),ef 171 167 170] (aU 171 (.region [bg 172 2 4,I 173 16,I 174 22,I 175 3,dU 176 225 [.t 172,.t 173,.t 174,.t 175]]) .skip))
def GB:C:=(.seq (aa [I 151 1,I 152 18,bp 153 .lss 151 152,I 154 153,cg 154 true 155 18,cg 154 true 156 16,ay 154 true (bp 157 .lss 155 156),ef 158 154 157] (aU 158 (.region [bg 159 2 4,I 160 1,I 161 18,I 162 16,dU 163 225 [.t 159,.t 160,.t 161,.t 162]]) .skip)) GA)
def KI:C:=(.seq (aa [I 138 18,I 139 2,bp 140 .lss 138 139,I 141 140,cg 141 true 142 2,cg 141 true 143 22,ay 141 true (bp 144 .lss 142 143),ef 145 141 144] (aU 145 (.region [bg 146 2 4,I 147 18,I 148 2,I 149 22,dU 150 246 [.t 146,.t 147,.t 148,.t 149]]) .skip)) GB)
def KJ:C:=(aa [I 113 17,aT 114 .sub 113 1,I 20 114] (.seq (.block 8 (.loop (.seq (aa [I 115 18,I 116 19,bp 117 .lss 115 116] (aU 117 .skip (.exit 8))) (.block 9 (aa [I 118 18,I 119 19,bp 120 .add 118 119,bG 121 (.conv .u64 (.t 120)),bG 122 (.bin .shr false (.t 121) (.c (.int .u64 1))),bG 123 (.conv .i64 (.t 122)),I 21 123] (aa [aH 124 0 1 4,aw 125 1 124,I 126 20,I 127 21,bp 128 .sub 126 127,I 129 21,hj 130 125 [.t 128,.t 129],cJ 131 130] (aU 131 (.region [I 132 21,aT 133 .add 132 1,I 18 133]) (.region [I 134 21,I 19 134])))))))) (aa [I 135 17,I 136 18,bp 137 .sub 135 136,I 22 137] KI)))
def Sx:C:=(aa [dc 4 0] (.seq (aa [I 23 2,I 24 1,bp 25 .sub 23 24,aT 26 .eql 25 1] (aU 26 (aa [I 27 2,I 8 27] (aa [I 28 3,I 9 28] (.seq (.block 0 (.loop (.seq (aa [I 29 8,I 30 9,bp 31 .lss 29 30] (aU 31 .skip (.exit 0))) (.block 1 (aa [I 32 8,I 33 9,bp 34 .add 32 33,bG 35 (.conv .u64 (.t 34)),bG 36 (.bin .shr false (.t 35) (.c (.int .u64 1))),bG 37 (.conv .i64 (.t 36)),I 10 37] (aa [aH 38 0 1 4,aw 39 1 38,I 40 10,I 41 1,hj 42 39 [.t 40,.t 41]] (aU 42 (.region [I 43 10,aT 44 .add 43 1,I 8 44]) (.region [I 45 10,I 9 45])))))))) (.seq (aa [I 46 1,I 11 46] (.block 2 (.loop (.seq (aa [I 47 11,I 48 8,aT 49 .sub 48 1,bp 50 .lss 47 49] (aU 50 .skip (.exit 2))) (.seq (.block 3 (.region [aH 53 1 1 4,aw 54 1 53,I 55 11,I 56 11,aT 57 .add 56 1,hj 58 54 [.t 55,.t 57]])) (.region [I 51 11,aT 52 .add 51 1,I 11 52])))))) .ret)))) .skip)) (.seq (aa [I 59 3,I 60 2,bp 61 .sub 59 60,aT 62 .eql 61 1] (aU 62 (aa [I 63 1,I 12 63] (aa [I 64 2,I 13 64] (.seq (.block 4 (.loop (.seq (aa [I 65 12,I 66 13,bp 67 .lss 65 66] (aU 67 .skip (.exit 4))) (.block 5 (aa [I 68 12,I 69 13,bp 70 .add 68 69,bG 71 (.conv .u64 (.t 70)),bG 72 (.bin .shr false (.t 71) (.c (.int .u64 1))),bG 73 (.conv .i64 (.t 72)),I 14 73] (aa [aH 74 0 1 4,aw 75 1 74,I 76 2,I 77 14,hj 78 75 [.t 76,.t 77],cJ 79 78] (aU 79 (.region [I 80 14,aT 81 .add 80 1,I 12 81]) (.region [I 82 14,I 13 82])))))))) (.seq (aa [I 83 2,I 15 83] (.block 6 (.loop (.seq (aa [I 84 15,I 85 12,bp 86 .gtr 84 85] (aU 86 .skip (.exit 6))) (.seq (.block 7 (.region [aH 89 1 1 4,aw 90 1 89,I 91 15,I 92 15,aT 93 .sub 92 1,hj 94 90 [.t 91,.t 93]])) (.region [I 87 15,aT 88 .sub 87 1,I 15 88])))))) .ret)))) .skip)) (aa [I 95 1,I 96 3,bp 97 .add 95 96,bG 98 (.conv .u64 (.t 97)),bG 99 (.bin .shr false (.t 98) (.c (.int .u64 1))),bG 100 (.conv .i64 (.t 99)),I 16 100] (aa [I 101 16,I 102 2,bp 103 .add 101 102,I 17 103] (aa [b1 18 0,b1 19 0] (.seq (aa [I 104 2,I 105 16,bp 106 .gtr 104 105] (aU 106 (aa [I 107 17,I 108 3,bp 109 .sub 107 108,I 18 109] (.region [I 110 16,I 19 110])) (aa [I 111 1,I 18 111] (.region [I 112 2,I 19 112])))) KJ)))))))
def St:C:=(aa [dc 4 0] (aa [I 10 2,I 11 1,bp 12 .sub 10 11,I 8 12] (aa [I 13 3,I 14 2,bp 15 .sub 13 14,I 9 15] (.seq (.block 0 (.loop (.seq (aa [I 16 8,I 17 9,bp 18 .neq 16 17] (aU 18 .skip (.exit 0))) (.block 1 (aa [I 19 8,I 20 9,bp 21 .gtr 19 20] (aU 21 (aa [bg 22 2 4,I 23 2,I 24 8,bp 25 .sub 23 24,I 26 2,I 27 9,dU 28 255 [.t 22,.t 25,.t 26,.t 27]] (.region [I 29 8,I 30 9,bp 31 .sub 29 30,I 8 31])) (aa [bg 32 2 4,I 33 2,I 34 8,bp 35 .sub 33 34,I 36 2,I 37 9,bp 38 .add 36 37,I 39 8,bp 40 .sub 38 39,I 41 8,dU 42 255 [.t 32,.t 35,.t 40,.t 41]] (.region [I 43 9,I 44 8,bp 45 .sub 43 44,I 9 45])))))))) (.region [bg 46 2 4,I 47 2,I 48 8,bp 49 .sub 47 48,I 50 2,I 51 8,dU 52 255 [.t 46,.t 49,.t 50,.t 51]])))))
def Sw:C:=(aa [dc 4 0] (aa [b1 8 0] (.block 0 (.loop (.seq (aa [I 9 8,I 10 3,bp 11 .lss 9 10] (aU 11 .skip (.exit 0))) (.seq (.block 1 (.region [aH 14 1 1 4,aw 15 1 14,I 16 1,I 17 8,bp 18 .add 16 17,I 19 2,I 20 8,bp 21 .add 19 20,hj 22 15 [.t 18,.t 21]])) (.region [I 12 8,aT 13 .add 12 1,I 8 13])))))))
def CB:List (Nat×dE):=[
 (3,⟨1,8,.int .i64,.int .i64 0⟩),
 (178,⟨1,8,.int .u64,.int .u64 0⟩),
 (188,⟨1,8,.other,.junk⟩),
 (202,⟨1,8,.other,.junk⟩),
 (206,⟨2,16,.struct [(0,188),(1,202)],.agg [.junk,.junk]⟩)]
theorem CF:e6 ar CB=true:=an
theorem amI:b4 CB Sv [] 2 Tryz.f197=true:=an
theorem X8:b4 CB KE [] 3 Tryz.f224=true:=an
theorem amK:b4 CB Sx [] 4 Tryz.f225=true:=an
theorem amG:b4 CB St [] 4 Tryz.f246=true:=an
theorem amJ:b4 CB Sw [] 4 Tryz.f255=true:=an
end
section
open Go Go.Pv
structure fB {α:Type} (S:List α->cM) (n:Nat) (g cf:Nat) (lc b9:List ah) (lt:α->α->Bool):Prop where
 ok:∀l,ek (S l)
 same:∀l a7,l.length=n->a7.length=n->Same (S l) (S a7)
 klc:∀l,l.length=n->aA (inObs (S l)) lc
 ksc:∀l,l.length=n->aA (inObs (S l)) b9
 slc:cK lc=lc
 ssc:cK b9=b9
 le:n<=68719476736
 less:∀l,l.length=n->∀(i j:Nat) x y,l[i]? =some x->l[j]? =some y->bK ar g (.int .i64 i:: .int .i64 j::lc) (S l) fun r aj=>r= .bool (lt x y)/\aj=S l
 swap:∀l,l.length=n->2<=n->∀i j:Nat,i<n->j<n->bK ar cf (.int .i64 i:: .int .i64 j::b9) (S l) fun r aj=>r= .tuple []/\aj=S (hJ l i j)
variable {α:Type} {S:List α->cM} {n g cf:Nat} {lc b9:List ah} {lt:α->α->Bool}
def fl(g cf:Nat)(lc b9:List ah):ah:= .agg [.func g lc,.func cf b9]
theorem LG(H:fB S n g cf lc b9 lt)(l:List α)(e:l.length=n)(a b c:Nat)(p:a+c<=b)(v:b+c<=n):
  bK ar 255 [fl g cf lc b9,.int .i64 a,.int .i64 b,.int .i64 c] (S l) fun r o=>r= .tuple []/\∃j,o=S j/\gK a (b+c) l j/\∀k,j[k]? =l[tG a b c k]?:=by
 have h:=H.ok l;have d:∀l m,Pv.look (.loc m) (S l).b=none:=fun l=>(H.ok l).obj.1;have hu:∀l m cs,cB (.loc m) cs (S l).b=(S l).b++[(.loc m,cs)]:=fun l m cs=>kL (d l m);have ak:∀m,aB.loc m∉dh (S l):=kD h.obj;have hle:=H.le;refine bK.mk mixed CF Tryz.func255 amJ Ψ h.obj fun u t=>?_;unfold Sw;simp[fl,hu,ak,cV,d,H.slc,H.ssc];refine hk (fun i (lk:List α)=>⟨[(1,.int .i64 a),(2,.int .i64 b),(3,.int .i64 c),(4,.ptr (.loc 0) 0),(8,.int .i64 i)],[(.loc 0,[.func g lc,.func cf b9])]++(S lk).b,(S lk).e,1,dh (S l)⟩) c (fun i lk=>lk.length=n/\gK a (b+c) l lk/\∀k,lk[k]? =l[tG a b i k]?) l
  (jx.obL h (Same.refl _) d9 (by simp[cV,d,av,aA,B2 (H.klc l e),B2 (H.ksc l e)]) aL aL) ⟨e,.refl _,fun k=>by simp[tG];split<;>(try split)<;>(try rfl)<;>(exfalso;omega)⟩ ?_ ?_
 ·rintro lk ⟨J,U,f⟩ _;simp;refine cO.at (S lk) (.inr rfl) (H.ok lk) (H.same _ _ e J) aL aL ?_;simp[cT,aX,a1,aV];exact⟨lk,rfl,U,f⟩
 ·rintro i lk hi ⟨J,U,f⟩ _;have q:((a:Int)+i)=(a+i:Nat):=Ω
  have s:((b:Int)+i)=(b+i:Nat):=Ω
  simp[hi,cV,d,H.ssc];(with_reducible repeat' first|refine al ?_|simp);rw[q,s];refine cC.ob (H.swap lk J Ω (a+i) (b+i) Ω Ω) (H.ok lk) aL aL (by simp[H.ksc lk J]) ?_;rintro r o ⟨rfl,rfl⟩;refine⟨H.same _ _ J (by simp[J]),?_⟩;simp[hy,js,bZ,d];(with_reducible repeat' first|refine al ?_|simp);refine bO.rng (hJ lk (a+i) (b+i)) hi ⟨by simp[J],.step U Ω Ω Ω Ω Ω Ω,fun k=>?_⟩ (jx.obL (L:=[(.loc 0,[.func g lc,.func cf b9])]) (H.ok _) (H.same _ _ e (by simp[J])) d9 (by simp[cV,d,av,aA,B2 (H.klc (hJ lk (a+i) (b+i)) (by simp[J])),B2 (H.ksc (hJ lk (a+i) (b+i)) (by simp[J]))]) aL aL);rw[BS _ _ _ _ Ω Ω,f,f,f];have:tG a b (i+1) k=if k=a+i then tG a b i (b+i)else if k=b+i then tG a b i (a+i)else tG a b i k:=by
   simp only[tG];repeat' split
   all_goals omega
  rw[this];split
  ·rfl
  ·split<;>rfl
section
variable (H:fB S n g cf lc b9 lt)
include H
theorem fB.loc{l:List α}(m:Nat):Pv.look (.loc m) (S l).b=none:=(H.ok l).obj.1 m
theorem fB.weak{l lk:List α}(d:l.length=n)(a:lk.length=n){st:bh}{b:List (Nat×ah)}(aM:∀x∈b,Pv.get x.1 st.t=x.2/\av (nb (S lk) 1) x.2)(c:Pv.look (.loc 0) st.b=some [.func g lc,.func cf b9])
  (ae:∀k cs,Pv.look k (S lk).b=some cs->Pv.look k st.b=some cs) (he:∀k o,Pv.look k (S lk).e=some o->Pv.look k st.e=some o):
  jx (dh (S l)) st ⟨b,(.loc 0,[.func g lc,.func cf b9])::(S lk).b,(S lk).e,1,dh (S l)⟩:=
 jx.obL (L:=[(.loc 0,[.func g lc,.func cf b9])]) (H.ok _) (H.same _ _ d a) aM (by simp[c,av,aA,B2 (H.klc lk a),B2 (H.ksc lk a)]) ae he
theorem fB.weakC{l lk:List α}(c:l.length=n)(d:lk.length=n){t b:List (Nat×ah)}{q:Nat}{o:List aB}(aM:∀x∈b,Pv.get x.1 t=x.2/\av (nb (S lk) 1) x.2):
  jx (dh (S l)) ⟨t,(.loc 0,[.func g lc,.func cf b9])::(S lk).b,(S lk).e,q,o⟩ ⟨b,(.loc 0,[.func g lc,.func cf b9])::(S lk).b,(S lk).e,1,dh (S l)⟩:=
 H.weak c d aM hV (fun k cs a=>by
  cases k with
  |loc m=>rw[H.loc m]at a;cases a
  |obj m=>simpa[Pv.look]using a) (fun _ _ a=>a)
theorem fB.call{lk:List α}(J:lk.length=n){f:Nat}{args:List ah}{R:ah->List α->Prop}(j:bK ar f args (S lk) fun r c=> ∃a,c=S a/\R r a)(bq:∀r a,R r a->a.length=n)(i:aA (inObs (S lk)) args){t:List (Nat×ah)}{D:List ah}{o:List aB}{d:aW Nat}{K:bh->Prop}
  (h:∀r a,R r a->K ⟨eP d r t,(.loc 0,D)::(S a).b,(S a).e,1,o++dh (S a)⟩):cC ar f args ⟨t,(.loc 0,D)::(S lk).b,(S lk).e,1,o⟩ d K:=by
 refine cC.ob j (H.ok lk) (fun k cs b=>?_) (fun _ _ b=>b) i ?_
 ·cases k with
  |loc m=>rw[H.loc m]at b;cases b
  |obj m=>simpa[Pv.look]using b
 ·rintro r c ⟨a,rfl,e⟩;refine⟨H.same _ _ J (bq _ _ e),?_⟩;have g:bZ (S lk).b ((.loc 0,D)::(S lk).b)=[(.loc 0,D)]:=by have:=js (S lk).b [(aB.loc 0,D)] (S lk).b;rw[hy]at this;simpa[bZ,H.loc]using this
  have l:bZ (S lk).e (S lk).e=[]:=hy _;have:=h _ _ e;simp only[g,l];exact this
theorem fB.doSwap{lk:List α}(J:lk.length=n)(i j:Nat)(hi:i<n)(c:j<n)(U:2<=n){t:List (Nat×ah)}{D:List ah}{o:List aB}{d:aW Nat}{K:bh->Prop}
  (h:K ⟨eP d (.tuple []) t,(.loc 0,D)::(S (hJ lk i j)).b,(S (hJ lk i j)).e,1,o++dh (S (hJ lk i j))⟩):cC ar cf (.int .i64 i:: .int .i64 j::b9) ⟨t,(.loc 0,D)::(S lk).b,(S lk).e,1,o⟩ d K:=
 H.call J (R:=fun r a=>r= .tuple []/\a=hJ lk i j) ((H.swap lk J U i j hi c).mono fun r g ⟨b,f⟩=>⟨_,f,b,rfl⟩) (fun r a ⟨_,e⟩=>by rw[e];simp[J]) (by simp[av,aA,H.ksc lk J]) (by rintro r a ⟨rfl,rfl⟩;exact h)
theorem fB.doLess{lk:List α}(J:lk.length=n)(i j:Nat){x y:α}(hi:lk[i]? =some x)(c:lk[j]? =some y){t:List (Nat×ah)}{D:List ah}{o:List aB}{d:aW Nat}{K:bh->Prop}
  (h:K ⟨eP d (.bool (lt x y)) t,(.loc 0,D)::(S lk).b,(S lk).e,1,o++dh (S lk)⟩):cC ar g (.int .i64 i:: .int .i64 j::lc) ⟨t,(.loc 0,D)::(S lk).b,(S lk).e,1,o⟩ d K:=
 H.call J (R:=fun r a=>r= .bool (lt x y)/\a=lk) ((H.less lk J i j x y hi c).mono fun r k ⟨b,f⟩=>⟨_,f,b,rfl⟩) (fun r a ⟨_,e⟩=>by rw[e];exact J) (by simp[av,aA,H.klc lk J]) (by rintro r a ⟨rfl,rfl⟩;exact h)
theorem fB.doFn{lk:List α}(J:lk.length=n){f:Nat}{args:List ah}{R:List α->Prop}(i:bK ar f args (S lk) fun r b=>r= .tuple []/\∃a,b=S a/\R a)(bq:∀a,R a->a.length=n)(g:aA (inObs (S lk)) args){t:List (Nat×ah)}{D:List ah}{o:List aB}{d:aW Nat}{K:bh->Prop}
  (h:∀a,R a->K ⟨eP d (.tuple []) t,(.loc 0,D)::(S a).b,(S a).e,1,o++dh (S a)⟩):cC ar f args ⟨t,(.loc 0,D)::(S lk).b,(S lk).e,1,o⟩ d K:=
 H.call J (R:=fun r a=>r= .tuple []/\R a) (i.mono fun r b ⟨e,a,k,c⟩=>⟨a,k,e,c⟩) (fun r a h=>bq a h.2) g (by rintro r a ⟨rfl,j⟩;exact h a j)
theorem fB.kdata{lk:List α}(J:lk.length=n):av (inObs (S lk)) (fl g cf lc b9):=by simp[fl,av,aA,H.klc lk J,H.ksc lk J]
theorem fB.ret{l lk:List α}(c:l.length=n)(J:lk.length=n){Q:ah->cM->Prop}{e:Exit}(he:e= .ret\/e= .normal){t:List (Nat×ah)}{D:List ah}{q:Nat}{o:List aB}(b:Q (.tuple []) (S lk)):cO [] (S l) Q e ⟨t,(.loc 0,D)::(S lk).b,(S lk).e,q,o⟩:=by
 refine cO.at (S lk) he (H.ok lk) (H.same _ _ c J) (fun k cs a=>?_) (fun _ _ a=>a) ?_
 ·cases k with
  |loc m=>rw[H.loc m]at a;cases a
  |obj m=>simpa[Pv.look]using a
 ·simp[cT,aX,aV,av,aA,b]
end
theorem ja(H:fB S n g cf lc b9 lt):de (fl g cf lc b9)=fl g cf lc b9:=by simp[fl,de,cK,H.slc,H.ssc]
theorem iQ:ah.agg [.func g lc,.func cf b9]=fl g cf lc b9:=rfl
theorem ahp(H:fB S n g cf lc b9 lt)(l:List α)(f:l.length=n)(a m b:Nat)(E:a<m)(A:m<b)(ae:b<=n):
  bK ar 246 [fl g cf lc b9,.int .i64 a,.int .i64 m,.int .i64 b] (S l) fun r y=>r= .tuple []/\∃c,y=S c/\gK a b l c/\∀k,c[k]? =l[iA a m b k]?:=by
 have u:=H.ok l;have q:∀l m,Pv.look (.loc m) (S l).b=none:=fun l=>(H.ok l).obj.1;have hu:∀l m cs,cB (.loc m) cs (S l).b=(S l).b++[(.loc m,cs)]:=fun l m cs=>kL (q l m);have ak:∀m,aB.loc m∉dh (S l):=kD u.obj;have hle:=H.le;refine bK.mk mixed CF Tryz.func246 amG Ψ u.obj fun D B=>?_;unfold St;simp[fl,hu,ak,cV,q];(with_reducible repeat' first|refine al ?_|simp[hu,ak,cV,q]);refine mM (fun(x:(Nat×Nat)×List α)=>⟨[(2,.int .i64 m),(4,.ptr (.loc 0) 0),(8,.int .i64 x.1.1),(9,.int .i64 x.1.2)],(.loc 0,[.func g lc,.func cf b9])::(S x.2).b,(S x.2).e,1,dh (S l)⟩) (fun x=>x.1.1+x.1.2)
  (fun x=>x.2.length=n/\0<x.1.1/\0<x.1.2/\a+x.1.1<=m/\m+x.1.2<=b/\gK a b l x.2/\∀k,l[iA a m b k]? =x.2[iA (m-x.1.1) m (m+x.1.2) k]?) ((m-a,b-m),l)
  (H.weak f f o4 (by simp[cV,q]) aL aL) ⟨f,by simp;omega,by simp;omega,by simp;omega,by simp;omega,.refl _,fun k=>by simp[show m-(m-a)=a by omega,show m+(b-m)=b by omega]⟩ ?_
 rintro⟨⟨i,j⟩,lk⟩ ⟨J,hi,v,t,w,U,s⟩ _;simp only at J hi v t w U s;simp[Pv.look];((with_reducible repeat' first|refine al ?_|simp[Pv.look]|((first|apply bQ|apply bT|apply bS)<;>intro h<;>try simp at h))<;>(try exact cv))
 ·have p:((m:Int)-i)=(m-i:Nat):=Ω
  simp only[ja H,H.slc,H.ssc,p,iQ];refine H.doFn J (LG H lk J (m-i) m j Ω Ω) (fun c h=>by rw[h.1.length];exact J) (by simp[aA,av,H.kdata J]) ?_;rintro c ⟨d,o⟩;have e:c.length=n:=by rw[d.length];exact J
  simp;((with_reducible repeat' first|refine al ?_|simp|((first|apply bQ|apply bT|apply bS)<;>intro h<;>try simp at h))<;>(try exact cv));refine bO.whl ((i-j,j),c) d7 ⟨e,by simp;omega,v,by simp;omega,w,U.trans (d.mono Ω Ω),fun k=>?_⟩ (H.weakC f e o4);rw[s,o];congr 1;simp only[iA,tG];repeat' split
  all_goals omega
 ·have p:((m:Int)-i)=(m-i:Nat):=Ω
  have z:((m:Int)+j-i)=(m+j-i:Nat):=Ω
  simp only[ja H,H.slc,H.ssc,p,z,iQ];refine H.doFn J (LG H lk J (m-i) (m+j-i) i Ω Ω) (fun c h=>by rw[h.1.length];exact J) (by simp[aA,av,H.kdata J]) ?_;rintro c ⟨d,o⟩;have e:c.length=n:=by rw[d.length];exact J
  simp;(with_reducible repeat' first|refine al ?_|simp);refine bO.whl ((i,j-i),c) d7 ⟨e,hi,by simp;omega,t,by simp;omega,U.trans (d.mono Ω Ω),fun k=>?_⟩ (H.weakC f e o4);rw[s,o];congr 1;simp only[iA,tG];repeat' split
  all_goals omega
 ·have p:((m:Int)-i)=(m-i:Nat):=Ω
  simp only[ja H,H.slc,H.ssc,p,iQ];refine H.doFn J (LG H lk J (m-i) m i Ω Ω) (fun c h=>by rw[h.1.length];exact J) (by simp[aA,av,H.kdata J]) ?_;rintro c ⟨d,o⟩;have e:c.length=n:=by rw[d.length];exact J
  simp;refine H.ret f e (.inr rfl) ⟨rfl,c,rfl,U.trans (d.mono Ω Ω),fun k=>?_⟩;rw[s,o];congr 1;simp only[iA,tG];repeat' split
  all_goals omega
end
section
open Go Go.Pv
variable {α:Type} {S:List α->cM} {n g cf:Nat} {lc b9:List ah} {lt:α->α->Bool}
def vg(lt:α->α->Bool)(a b j:Nat)(l:List α):Prop:= ∀p q x y,a<=p->p<q->q<b->q≠j->l[p]? =some x->l[q]? =some y->lt y x=false
theorem vg.swap(n:rE lt){a b j:Nat}{l:List α}(h:vg lt a b (j+1) l)(s:a<=j)(t:j+1<b)(r:j+1<l.length){x y:α}(g:l[j+1]? =some x)(d:l[j]? =some y)(m:lt x y=true):vg lt a b j (hJ l (j+1) j):=by
 intro p q u v i k f o hu c;rw[BS _ _ _ _ r Ω]at hu c;rw[if_neg (by omega:¬(q=j))]at c;split at c
 ·rename_i e;subst e;rw[d]at c;cases c;split at hu
  ·omega
  ·split at hu
   ·rw[g]at hu;cases hu;exact n.asym _ _ m
   ·exact h p j u y i Ω Ω Ω hu d
 ·split at hu
  ·rename_i e;subst e;rw[d]at hu;cases hu;exact h j q y v s Ω f Ω d c
  ·split at hu
   ·rename_i e;subst e;rw[g]at hu;cases hu;exact h (p+1) q x v Ω Ω f Ω g c
   ·exact h p q u v i k f Ω hu c
theorem vg.done(m:rE lt){a b j:Nat}{l:List α}(h:vg lt a b (j+1) l)(r:a<=j)(s:j+1<b){x y:α}(n:l[j+1]? =some x)(g:l[j]? =some y)(d:lt x y=false):fH lt a b l:=by
 intro p q u v f i k hu c;by_cases e:q=j+1
 ·subst e;rw[n]at c;cases c;by_cases o:p=j
  ·subst o;rw[g]at hu;cases hu;exact d
  ·exact m.ntr _ _ _ (h p j u y f Ω Ω Ω hu g) d
 ·exact h p q u v f i k e hu c
theorem vg.first{a b:Nat}{l:List α}(h:vg lt a b a l):fH lt a b l:=fun p q u v e c d hu f=>h p q u v e c d Ω hu f
theorem fH.but{a b:Nat}{l:List α}(h:fH lt a b l):vg lt a (b+1) b l:=fun p q u v d c f g hu e=>h p q u v d c Ω hu e
theorem Uz(H:fB S n g cf lc b9 lt)(D:rE lt)(l:List α)(e:l.length=n)(a b:Nat)(Q:a<=b)(ae:b<=n):
  bK ar 224 [fl g cf lc b9,.int .i64 a,.int .i64 b] (S l) fun r N=>r= .tuple []/\∃A,N=S A/\gK a b l A/\fH lt a b A:=by
 have E:=H.ok l;have t:∀l m,Pv.look (.loc m) (S l).b=none:=fun l=>(H.ok l).obj.1;have hu:∀l m cs,cB (.loc m) cs (S l).b=(S l).b++[(.loc m,cs)]:=fun l m cs=>kL (t l m);have ak:∀m,aB.loc m∉dh (S l):=kD E.obj;have hle:=H.le;refine bK.mk mixed CF Tryz.func224 X8 Ψ E.obj fun W R=>?_;unfold KE;simp[fl,hu,ak,cV,t];(with_reducible repeat' first|refine al ?_|simp[hu,ak,cV,t]);refine mM (fun(x:Nat×List α)=>⟨[(1,.int .i64 a),(2,.int .i64 b),(3,.ptr (.loc 0) 0),(6,.int .i64 x.1)],(.loc 0,[.func g lc,.func cf b9])::(S x.2).b,(S x.2).e,1,dh (S l)⟩) (fun x=>b+1-x.1)
  (fun x=>x.2.length=n/\a<x.1/\x.1<=b+1/\(x.1<=b\/x.1=a+1)/\gK a b l x.2/\fH lt a x.1 x.2) (a+1,l)
  (H.weak e e d9 (by simp[cV,t]) aL aL) ⟨e,Ψ,by simp;omega,.inr rfl,.refl _,fun i j x y J U f=>by simp at f;omega⟩ ?_
 rintro⟨i,lk⟩ ⟨J,G,P,F,U,f⟩ _;simp only at J G P F U f;simp;((with_reducible repeat' first|refine al ?_|simp|((first|apply bQ|apply bT|apply bS)<;>intro h<;>try simp at h))<;>(try exact cv))
 ·refine mM (fun(x:Nat×List α)=>⟨[(1,.int .i64 a),(2,.int .i64 b),(3,.ptr (.loc 0) 0),(6,.int .i64 i),(7,.int .i64 x.1)],(.loc 0,[.func g lc,.func cf b9])::(S x.2).b,(S x.2).e,1,dh (S l)⟩) (fun x=>x.1)
   (fun x=>x.2.length=n/\a<=x.1/\x.1<=i/\gK a b l x.2/\vg lt a (i+1) x.1 x.2) (i,lk)
   (H.weakC e J d9) ⟨J,by simp;omega,Ψ,U,fH.but f⟩ ?_
  rintro⟨j,k⟩ ⟨d,v,u,s,o⟩ _;simp only at d v u s o;simp[Pv.look];((with_reducible repeat' first|refine al ?_|simp[Pv.look]|((first|apply bQ|apply bT|apply bS)<;>intro h<;>try simp at h))<;>(try exact cv))
  ·obtain⟨c,rfl⟩:∃c,j=c+1:=⟨j-1,Ω⟩;obtain⟨x,w⟩:∃x,k[c+1]? =some x:=⟨_,cl Ω⟩;obtain⟨y,z⟩:∃y,k[c]? =some y:=⟨_,cl Ω⟩;have O:(((c+1:Nat):Int)-1)=(c:Nat):=Ω
   rw[H.slc,O];refine H.doLess d (c+1) c w z ?_;simp;cases B:lt x y with
   |true=>
    simp[Pv.look];(with_reducible repeat' first|refine al ?_|simp[Pv.look]);have L:((c:Int)+1)=(c+1:Nat):=Ω
    rw[H.ssc,L];refine H.doSwap d (c+1) c Ω Ω Ω ?_;simp;(with_reducible repeat' first|refine al ?_|simp);refine bO.whl (c,hJ k (c+1) c) Ψ ⟨by simp[d],by simp;omega,by simp;omega,.step s Ω Ω Ω Ω Ω Ω,o.swap D Ω Ω Ω w z B⟩ (H.weakC e (by simp[d]) d9)
   |false=>simp;((with_reducible repeat' first|refine al ?_|simp|((first|apply bQ|apply bT|apply bS)<;>intro h<;>try simp at h))<;>(try exact cv));refine bO.whl (i+1,k) d7 ⟨d,by simp;omega,by simp;omega,by simp;omega,s,o.done D Ω Ω w z B⟩ (H.weakC e d d9)
  ·obtain rfl:j=a:=Ω
   refine bO.whl (i+1,k) d7 ⟨d,by simp;omega,by simp;omega,by simp;omega,s,o.first⟩ (H.weakC e d d9)
 ·refine H.ret e J (.inr rfl) ⟨rfl,lk,rfl,U,fun p q x y M K V=>f p q x y M K Ω⟩
end
section
open Go Go.Pv
variable {α:Type} [Inhabited α] {S:List α->cM} {n g cf:Nat} {lc b9:List ah} {lt:α->α->Bool}
theorem AB{d:Array α}{i:Nat}(h:i<d.size):d.toList[i]? =some d[i]!:=by simp[getElem!_pos,h]
theorem Ij(d:Array α){i j:Nat}(hi:i<d.size)(a:j<d.size):hJ d.toList i j=(Sort.swp d i j).toList:=by simp[hJ,Sort.swp,AB hi,AB a]
section
variable (H:fB S n g cf lc b9 lt)
include H
theorem fB.swapA{d:Array α}(J:d.size=n)(U:2<=n)(i j:Nat)(hi:i<n)(b:j<n){t:List (Nat×ah)}{D:List ah}{o:List aB}{a:aW Nat}{K:bh->Prop}
  (h:∀o,K ⟨eP a (.tuple []) t,(.loc 0,D)::(S (Sort.swp d i j).toList).b,(S (Sort.swp d i j).toList).e,1,o⟩):cC ar cf (.int .i64 i:: .int .i64 j::b9) ⟨t,(.loc 0,D)::(S d.toList).b,(S d.toList).e,1,o⟩ a K:=by
 refine H.doSwap (by simpa using J) i j hi b U ?_;rw[Ij d Ω Ω];exact h _
theorem fB.lessA{d:Array α}(J:d.size=n)(i j:Nat)(hi:i<n)(b:j<n){t:List (Nat×ah)}{D:List ah}{o:List aB}{a:aW Nat}{K:bh->Prop}
  (h:∀o,K ⟨eP a (.bool (lt d[i]! d[j]!)) t,(.loc 0,D)::(S d.toList).b,(S d.toList).e,1,o⟩):cC ar g (.int .i64 i:: .int .i64 j::lc) ⟨t,(.loc 0,D)::(S d.toList).b,(S d.toList).e,1,o⟩ a K:=
 H.doLess (by simpa using J) i j (AB Ω) (AB Ω) (h _)
theorem fB.fnA{d d2:Array α}(J:d.size=n)(U:d2.size=n){f:Nat}{args:List ah}{r:ah}(k:bK ar f args (S d.toList) fun a g=>a=r/\g=S d2.toList)(j:aA (inObs (S d.toList)) args){t:List (Nat×ah)}{D:List ah}{o:List aB}{c:aW Nat}{K:bh->Prop}
  (h:∀o,K ⟨eP c r t,(.loc 0,D)::(S d2.toList).b,(S d2.toList).e,1,o⟩):cC ar f args ⟨t,(.loc 0,D)::(S d.toList).b,(S d.toList).e,1,o⟩ c K:=
 H.call (by simpa using J) (R:=fun a b=>a=r/\b=d2.toList) (k.mono fun r g ⟨i,l⟩=>⟨_,l,i,rfl⟩) (fun r b ⟨_,e⟩=>by rw[e];simpa using U) j (by rintro a b ⟨rfl,rfl⟩;exact h _)
end
section
variable (H:fB S n g cf lc b9 lt)
include H
theorem fB.loopA{β:Type}{d:List α}(l:d.length=n){t:List (Nat×ah)}{b:List (aB×List ah)}{e:List (aB×ec)}{q:Nat}{o:List aB}(h:List Nat)(cs:β->List (Nat×ah))(A:β->Array α)(μ:β->Nat)(f:β->Prop)(a0:β)(be:(A a0).size=n)(j:f a0)
  (i:Pv.look (.loc 0) b=some [.func g lc,.func cf b9]) (ae:∀k cs,Pv.look k (S (A a0).toList).b=some cs->Pv.look k b=some cs) (he:∀k o,Pv.look k (S (A a0).toList).e=some o->Pv.look k e=some o)
  (aM:∀x∈vT t h++cs a0,Pv.get x.1 t=x.2/\av (nb (S (A a0).toList) 1) x.2) {c:C} {Q:Exit->bh->Prop}
  (m:∀a,f a->dd ar (dh (S d)) c (bO (dh (S d)) (CS (fun a=>⟨vT t h++cs a,(.loc 0,[.func g lc,.func cf b9])::(S (A a).toList).b,(S (A a).toList).e,1,dh (S d)⟩) μ f) (μ a) Q) ⟨vT t h++cs a,(.loc 0,[.func g lc,.func cf b9])::(S (A a).toList).b,(S (A a).toList).e,1,dh (S d)⟩):
  dd ar (dh (S d)) (.loop c) Q ⟨t,b,e,q,o⟩:=
 mM (fun a=>⟨vT t h++cs a,(.loc 0,[.func g lc,.func cf b9])::(S (A a).toList).b,(S (A a).toList).e,1,dh (S d)⟩) μ f a0 (H.weak l (by simpa using be) aM i ae he) j fun a p _=>m a p
theorem fB.callA0{lk:List α}(J:lk.length=n){f:Nat}{args:List ah}{R:ah->List α->Prop}(j:bK ar f args (S lk) fun r c=> ∃a,c=S a/\R r a)(bq:∀r a,R r a->a.length=n)(i:aA (inObs (S lk)) args){t:List (Nat×ah)}{D:List ah}{o:List aB}{d:aW Nat}{K:bh->Prop}
  (h:∀r a,R r a->∀o,K ⟨eP d r t,(.loc 0,D)::(S a).b,(S a).e,1,o⟩):cC ar f args ⟨t,(S lk).b++[(.loc 0,D)],(S lk).e,1,o⟩ d K:=by
 refine cC.ob j (H.ok lk) (fun k cs b=>by rw[cV,b]) (fun _ _ b=>b) i ?_;rintro r c ⟨a,rfl,e⟩;refine⟨H.same _ _ J (bq _ _ e),?_⟩;have g:bZ (S lk).b ((S lk).b++[(.loc 0,D)])=[(.loc 0,D)]:=by rw[js,hy];simp[bZ,H.loc]
 have l:bZ (S lk).e (S lk).e=[]:=hy _;have:=h _ _ e (o++dh (S a));simp only[g,l];exact this
theorem fB.swapA0{d:Array α}(J:d.size=n)(U:2<=n)(i j:Nat)(hi:i<n)(f:j<n){t:List (Nat×ah)}{D:List ah}{o:List aB}{b:aW Nat}{K:bh->Prop}
  (h:∀o,K ⟨eP b (.tuple []) t,(.loc 0,D)::(S (Sort.swp d i j).toList).b,(S (Sort.swp d i j).toList).e,1,o⟩):cC ar cf (.int .i64 i:: .int .i64 j::b9) ⟨t,(S d.toList).b++[(.loc 0,D)],(S d.toList).e,1,o⟩ b K:=by
 refine H.callA0 (by simpa using J) (R:=fun r a=>r= .tuple []/\a=(Sort.swp d i j).toList) ((H.swap d.toList (by simpa using J) U i j hi f).mono fun r k ⟨c,g⟩=>⟨_,g,c,Ij d Ω Ω⟩) (fun r a ⟨_,e⟩=>by rw[e];simp[Sort.swp,J]) (by simp[av,aA,H.ksc d.toList (by simpa using J)]) ?_;rintro r a ⟨rfl,rfl⟩ o;exact h o
theorem fB.retA{l:List α}{d:Array α}(b:l.length=n)(J:d.size=n){Q:ah->cM->Prop}{e:Exit}(he:e= .ret\/e= .normal){t:List (Nat×ah)}{D:List ah}{q:Nat}{o:List aB}(a:Q (.tuple []) (S d.toList)):cO [] (S l) Q e ⟨t,(.loc 0,D)::(S d.toList).b,(S d.toList).e,q,o⟩:=H.ret b (by simpa using J) he a
theorem fB.retR{b:List bU}{l:List α}{d:Array α}(c:l.length=n)(J:d.size=n){Q:ah->cM->Prop}{e:Exit}(he:e= .ret\/e= .normal){t:List (Nat×ah)}{D:List ah}{q:Nat}{o:List aB}(h:cT ⟨t,(.loc 0,D)::(S d.toList).b,(S d.toList).e,q,o⟩ b fun r=>av (inObs (S d.toList)) r/\Q r (S d.toList)):cO b (S l) Q e ⟨t,(.loc 0,D)::(S d.toList).b,(S d.toList).e,q,o⟩:=by
 refine cO.at (S d.toList) he (H.ok _) (H.same _ _ c (by simpa using J)) (fun k cs a=>?_) (fun _ _ a=>a) h;cases k with
 |loc m=>rw[H.loc m]at a;cases a
 |obj m=>simpa[Pv.look]using a
end
theorem ho(d:Array α)(i j:Nat):(Sort.swp d i j).size=d.size:=by simp[Sort.swp]
end
section
open Go Go.Pv
def Sd:C:=(aa [b1 2 0] (.seq (.cond (.c (.bool false)) (aa [I 3 0,bG 4 (.conv .u32 (.t 3)),cG 5 233 4,I 2 5] .ret) .skip) (aa [I 6 0,cG 7 227 6,I 2 7] .ret)))
def KF:C:=(aa [bg 91 2 4,I 92 1,I 93 2,I 94 11,dU 95 240 [.t 91,.t 92,.t 93,.t 94],I 90 95,dn 96 0 90,dn 97 1 90,I 14 96,I 15 97] (aa [I 98 15,I 9 98] (aa [I 99 14,I 100 1,bp 101 .sub 99 100,I 102 2,I 103 14,bp 104 .sub 102 103,I 16 101,I 17 104] (aa [I 105 10,aT 106 .quo 105 8,I 18 106] (aa [I 107 16,I 108 17,bp 109 .lss 107 108] (aU 109 (aa [I 110 16,I 111 18,bp 112 .geq 110 111,I 8 112] (aa [bg 113 2 4,I 114 1,I 115 14,I 116 3,dU 117 208 [.t 113,.t 114,.t 115,.t 116]] (.region [I 118 14,aT 119 .add 118 1,I 1 119]))) (aa [I 120 17,I 121 18,bp 122 .geq 120 121,I 8 122] (aa [bg 123 2 4,I 124 14,aT 125 .add 124 1,I 126 2,I 127 3,dU 128 208 [.t 123,.t 125,.t 126,.t 127]] (.region [I 129 14,I 2 129])))))))))
def Dd:C:=(.seq (aa [I 73 1,aT 74 .gtr 73 0,I 75 74,ay 75 true (aH 76 0 1 4),ay 75 true (aw 77 1 76),cg 75 true 78 1,ay 75 true (aT 79 .sub 78 1),cg 75 true 80 11,ay 75 true (hj 81 77 [.t 79,.t 80]),ay 75 true (cJ 82 81),ef 83 75 82] (aU 83 (aa [bg 84 2 4,I 85 1,I 86 2,I 87 11,dU 88 239 [.t 84,.t 85,.t 86,.t 87],I 13 88] (aa [I 89 13,I 1 89] (.exit 1))) .skip)) KF)
def KG:C:=(.seq (aa [I 61 8,I 62 61,cg 62 true 63 9,ef 64 62 63,I 65 64,cg 65 true 66 12,ay 65 true (aT 67 .eql 66 1),ef 68 65 67] (aU 68 (aa [bg 69 2 4,I 70 1,I 71 2,dU 72 238 [.t 69,.t 70,.t 71]] (aU 72 .ret .skip)) .skip)) Dd)
def KH:C:=(aa [bg 43 2 4,I 44 1,I 45 2,dU 46 236 [.t 43,.t 44,.t 45],I 42 46,dn 47 0 42,dn 48 1 42,I 11 47,I 12 48] (.seq (aa [I 49 12,aT 50 .eql 49 2] (aU 50 (aa [bg 51 2 4,I 52 1,I 53 2,dU 54 237 [.t 51,.t 52,.t 53]] (aa [I 55 2,aT 56 .sub 55 1,I 57 11,I 58 1,bp 59 .sub 57 58,bp 60 .sub 56 59,I 11 60] (.region [b1 12 1]))) .skip)) KG))
def Sr:C:=(aa [dc 4 0] (aa [bt 8 true] (aa [bt 9 true] (.block 0 (.loop (.block 1 (aa [I 19 2,I 20 1,bp 21 .sub 19 20,I 10 21] (.seq (aa [I 22 10,aT 23 .leq 22 12] (aU 23 (aa [bg 24 2 4,I 25 1,I 26 2,dU 27 224 [.t 24,.t 25,.t 26]] .ret) .skip)) (.seq (aa [I 28 3,aT 29 .eql 28 0] (aU 29 (aa [bg 30 2 4,I 31 1,I 32 2,dU 33 234 [.t 30,.t 31,.t 32]] .ret) .skip)) (.seq (aa [I 34 8,cJ 35 34] (aU 35 (aa [bg 36 2 4,I 37 1,I 38 2,dU 39 235 [.t 36,.t 37,.t 38]] (.region [I 40 3,aT 41 .sub 40 1,I 3 41])) .skip)) KH))))))))))
def Se:C:=(aa [b1 2 0] (.seq (aa [I 3 0,bG 4 (.bin .geq false (.t 3) (.c (.int .u64 4294967296)))] (aU 4 (aa [I 5 0,bG 6 (.bin .shr false (.t 5) (.c (.int .u64 32))),I 0 6] (.region [b1 2 32])) .skip)) (.seq (aa [I 7 0,bG 8 (.bin .geq false (.t 7) (.c (.int .u64 65536)))] (aU 8 (aa [I 9 0,bG 10 (.bin .shr false (.t 9) (.c (.int .u64 16))),I 0 10] (.region [I 11 2,aT 12 .add 11 16,I 2 12])) .skip)) (.seq (aa [I 13 0,bG 14 (.bin .geq false (.t 13) (.c (.int .u64 256)))] (aU 14 (aa [I 15 0,bG 16 (.bin .shr false (.t 15) (.c (.int .u64 8))),I 0 16] (.region [I 17 2,aT 18 .add 17 8,I 2 18])) .skip)) (aa [I 19 2,I 20 0,bG 21 (.conv .u8 (.t 20)),bG 22 (.sidx (.c (.str [0,1,2,2,3,3,3,3,4,4,4,4,4,4,4,4,5,5,5,5,5,5,5,5,5,5,5,5,5,5,5,5,6,6,6,6,6,6,6,6,6,6,6,6,6,6,6,6,6,6,6,6,6,6,6,6,6,6,6,6,6,6,6,6,7,7,7,7,7,7,7,7,7,7,7,7,7,7,7,7,7,7,7,7,7,7,7,7,7,7,7,7,7,7,7,7,7,7,7,7,7,7,7,7,7,7,7,7,7,7,7,7,7,7,7,7,7,7,7,7,7,7,7,7,7,7,7,7,8,8,8,8,8,8,8,8,8,8,8,8,8,8,8,8,8,8,8,8,8,8,8,8,8,8,8,8,8,8,8,8,8,8,8,8,8,8,8,8,8,8,8,8,8,8,8,8,8,8,8,8,8,8,8,8,8,8,8,8,8,8,8,8,8,8,8,8,8,8,8,8,8,8,8,8,8,8,8,8,8,8,8,8,8,8,8,8,8,8,8,8,8,8,8,8,8,8,8,8,8,8,8,8,8,8,8,8,8,8,8,8,8,8,8,8,8,8,8,8,8,8,8,8,8,8,8,8])) (.t 21)),bG 23 (.conv .i64 (.t 22)),bp 24 .add 19 23,I 2 24] .ret)))))
def Si:C:=(aa [dc 3 0] (aa [I 11 1,I 6 11] (aa [b1 7 0] (aa [I 12 2,I 13 1,bp 14 .sub 12 13,I 8 14] (.seq (aa [I 15 8,aT 16 .sub 15 1,aT 17 .quo 16 2,I 9 17] (.block 0 (.loop (.seq (aa [I 18 9,aT 19 .geq 18 0] (aU 19 .skip (.exit 0))) (.seq (.block 1 (.region [bg 22 2 3,I 23 9,I 24 8,I 25 6,dU 26 249 [.t 22,.t 23,.t 24,.t 25]])) (.region [I 20 9,aT 21 .sub 20 1,I 9 21])))))) (aa [I 27 8,aT 28 .sub 27 1,I 10 28] (.block 2 (.loop (.seq (aa [I 29 10,aT 30 .geq 29 0] (aU 30 .skip (.exit 2))) (.seq (.block 3 (aa [aH 33 1 1 3,aw 34 1 33,I 35 6,I 36 6,I 37 10,bp 38 .add 36 37,hj 39 34 [.t 35,.t 38]] (.region [bg 40 2 3,I 41 7,I 42 10,I 43 6,dU 44 249 [.t 40,.t 41,.t 42,.t 43]]))) (.region [I 31 10,aT 32 .sub 31 1,I 10 32])))))))))))
def Sg:C:=(aa [dc 3 0] (aa [I 11 2,I 12 1,bp 13 .sub 11 12,I 6 13] (aa [I 14 6,aT 15 .geq 14 8] (aU 15 (aa [I 16 6,bG 17 (.conv .u64 (.t 16)),c8 (.alloc 7 (some 902) (.int .u64 0)),b7 1 7 17] (aa [I 18 6,cG 19 250 18,I 8 19] (aa [I 20 1,I 21 6,aT 22 .quo 21 4,aT 23 .mul 22 2,bp 24 .add 20 23,aT 25 .sub 24 1,I 9 25] (.block 0 (.loop (.seq (aa [I 26 9,I 27 1,I 28 6,aT 29 .quo 28 4,aT 30 .mul 29 2,bp 31 .add 27 30,aT 32 .add 31 1,bp 33 .leq 26 32] (aU 33 .skip (.exit 0))) (.seq (.block 1 (aa [cG 36 251 7,I 37 8,bG 38 (.bin .sub true (.t 37) (.c (.int .u64 1))),bp 39 .and 36 38,bG 40 (.conv .i64 (.t 39)),I 10 40] (.seq (aa [I 41 10,I 42 6,bp 43 .geq 41 42] (aU 43 (.region [I 44 10,I 45 6,bp 46 .sub 44 45,I 10 46]) .skip)) (.region [aH 47 1 1 3,aw 48 1 47,I 49 9,I 50 1,I 51 10,bp 52 .add 50 51,hj 53 48 [.t 49,.t 52]])))) (.region [I 34 9,aT 35 .add 34 1,I 9 35])))))))) .skip))))
def Sh:C:=(aa [dc 3 0,b1 6 0,b1 7 0] (aa [I 13 2,I 14 1,bp 15 .sub 13 14,I 8 15] (aa [c8 (.alloc 9 (some 901) (.int .i64 0))] (aa [I 16 1,I 17 8,aT 18 .quo 17 4,aT 19 .mul 18 1,bp 20 .add 16 19,I 10 20] (aa [I 21 1,I 22 8,aT 23 .quo 22 4,aT 24 .mul 23 2,bp 25 .add 21 24,I 11 25] (aa [I 26 1,I 27 8,aT 28 .quo 27 4,aT 29 .mul 28 3,bp 30 .add 26 29,I 12 30] (.seq (aa [I 31 8,aT 32 .geq 31 8] (aU 32 (.seq (aa [I 33 8,aT 34 .geq 33 50] (aU 34 (aa [bg 35 2 3,I 36 10,dU 37 252 [.t 35,.t 36,.t 9],I 10 37] (aa [bg 38 2 3,I 39 11,dU 40 252 [.t 38,.t 39,.t 9],I 11 40] (.region [bg 41 2 3,I 42 12,dU 43 252 [.t 41,.t 42,.t 9],I 12 43]))) .skip)) (.region [bg 44 2 3,I 45 10,I 46 11,I 47 12,dU 48 253 [.t 44,.t 45,.t 46,.t 47,.t 9],I 11 48])) .skip)) (aa [aw 49 1 9] (.block 0 (aa [aT 52 .eql 49 0,I 51 52] (aU 51 (aa [I 53 11,I 6 53,b1 7 1] .ret) (aa [aT 55 .eql 49 12,I 54 55] (aU 54 (aa [I 56 11,I 6 56,b1 7 2] .ret) (aa [I 50 11,I 6 50,b1 7 0] .ret))))))))))))))
def Ss:C:=(aa [dc 3 0] (aa [I 8 1,I 6 8] (aa [I 9 2,aT 10 .sub 9 1,I 7 10] (.block 0 (.loop (.seq (aa [I 11 6,I 12 7,bp 13 .lss 11 12] (aU 13 .skip (.exit 0))) (.block 1 (aa [aH 14 1 1 3,aw 15 1 14,I 16 6,I 17 7,hj 18 15 [.t 16,.t 17]] (aa [I 19 6,aT 20 .add 19 1,I 6 20] (.region [I 21 7,aT 22 .sub 21 1,I 7 22]))))))))))
def Sn:C:=(aa [dc 3 0,bt 6 false] (aa [I 11 1,aT 12 .add 11 1,I 7 12] (.seq (aa [b1 8 0] (.block 0 (.loop (.seq (aa [I 13 8,aT 14 .lss 13 5] (aU 14 .skip (.exit 0))) (.seq (.block 1 (.seq (.block 2 (.loop (.seq (aa [I 17 7,I 18 2,bp 19 .lss 17 18,I 20 19,ay 20 true (aH 21 0 1 3),ay 20 true (aw 22 1 21),cg 20 true 23 7,cg 20 true 24 7,ay 20 true (aT 25 .sub 24 1),ay 20 true (hj 26 22 [.t 23,.t 25]),ay 20 true (cJ 27 26),ef 28 20 27] (aU 28 .skip (.exit 2))) (.block 3 (.region [I 29 7,aT 30 .add 29 1,I 7 30]))))) (.seq (aa [I 31 7,I 32 2,bp 33 .eql 31 32] (aU 33 (aa [bt 6 true] .ret) .skip)) (.seq (aa [I 34 2,I 35 1,bp 36 .sub 34 35,aT 37 .lss 36 50] (aU 37 (aa [bt 6 false] .ret) .skip)) (aa [aH 38 1 1 3,aw 39 1 38,I 40 7,I 41 7,aT 42 .sub 41 1,hj 43 39 [.t 40,.t 42]] (.seq (aa [I 44 7,I 45 1,bp 46 .sub 44 45,aT 47 .geq 46 2] (aU 47 (aa [I 48 7,aT 49 .sub 48 1,I 9 49] (.block 4 (.loop (.seq (aa [I 50 9,aT 51 .geq 50 1] (aU 51 .skip (.exit 4))) (.seq (.block 5 (.seq (aa [aH 54 0 1 3,aw 55 1 54,I 56 9,I 57 9,aT 58 .sub 57 1,hj 59 55 [.t 56,.t 58],cJ 60 59] (aU 60 (.exit 4) .skip)) (.region [aH 61 1 1 3,aw 62 1 61,I 63 9,I 64 9,aT 65 .sub 64 1,hj 66 62 [.t 63,.t 65]]))) (.region [I 52 9,aT 53 .sub 52 1,I 9 53])))))) .skip)) (aa [I 67 2,I 68 7,bp 69 .sub 67 68,aT 70 .geq 69 2] (aU 70 (aa [I 71 7,aT 72 .add 71 1,I 10 72] (.block 6 (.loop (.seq (aa [I 73 10,I 74 2,bp 75 .lss 73 74] (aU 75 .skip (.exit 6))) (.seq (.block 7 (.seq (aa [aH 78 0 1 3,aw 79 1 78,I 80 10,I 81 10,aT 82 .sub 81 1,hj 83 79 [.t 80,.t 82],cJ 84 83] (aU 84 (.exit 6) .skip)) (.region [aH 85 1 1 3,aw 86 1 85,I 87 10,I 88 10,aT 89 .sub 88 1,hj 90 86 [.t 87,.t 89]]))) (.region [I 76 10,aT 77 .add 76 1,I 10 77])))))) .skip)))))))) (.region [I 15 8,aT 16 .add 15 1,I 8 16])))))) (aa [bt 6 false] .ret))))
def Sp:C:=(aa [dc 4 0,b1 8 0] (aa [aH 11 1 1 4,aw 12 1 11,I 13 1,I 14 3,hj 15 12 [.t 13,.t 14]] (aa [I 16 1,aT 17 .add 16 1,I 18 2,aT 19 .sub 18 1,I 9 17,I 10 19] (.seq (.block 0 (.loop (.block 1 (.seq (.block 2 (.loop (.seq (aa [I 20 9,I 21 10,bp 22 .leq 20 21,I 23 22,ay 23 true (aH 24 0 1 4),ay 23 true (aw 25 1 24),cg 23 true 26 1,cg 23 true 27 9,ay 23 true (hj 28 25 [.t 26,.t 27]),ay 23 true (cJ 29 28),ef 30 23 29] (aU 30 .skip (.exit 2))) (.block 3 (.region [I 31 9,aT 32 .add 31 1,I 9 32]))))) (.seq (.block 4 (.loop (.seq (aa [I 33 9,I 34 10,bp 35 .leq 33 34,I 36 35,ay 36 true (aH 37 0 1 4),ay 36 true (aw 38 1 37),cg 36 true 39 1,cg 36 true 40 10,ay 36 true (hj 41 38 [.t 39,.t 40]),ef 42 36 41] (aU 42 .skip (.exit 4))) (.block 5 (.region [I 43 10,aT 44 .sub 43 1,I 10 44]))))) (.seq (aa [I 45 9,I 46 10,bp 47 .gtr 45 46] (aU 47 (.exit 0) .skip)) (aa [aH 48 1 1 4,aw 49 1 48,I 50 9,I 51 10,hj 52 49 [.t 50,.t 51]] (aa [I 53 9,aT 54 .add 53 1,I 9 54] (.region [I 55 10,aT 56 .sub 55 1,I 10 56]))))))))) (aa [I 57 9,I 8 57] .ret)))))
def Sq:C:=(aa [dc 4 0,b1 8 0,bt 9 false] (aa [aH 12 1 1 4,aw 13 1 12,I 14 1,I 15 3,hj 16 13 [.t 14,.t 15]] (aa [I 17 1,aT 18 .add 17 1,I 19 2,aT 20 .sub 19 1,I 10 18,I 11 20] (.seq (.block 0 (.loop (.seq (aa [I 21 10,I 22 11,bp 23 .leq 21 22,I 24 23,ay 24 true (aH 25 0 1 4),ay 24 true (aw 26 1 25),cg 24 true 27 10,cg 24 true 28 1,ay 24 true (hj 29 26 [.t 27,.t 28]),ef 30 24 29] (aU 30 .skip (.exit 0))) (.block 1 (.region [I 31 10,aT 32 .add 31 1,I 10 32]))))) (.seq (.block 2 (.loop (.seq (aa [I 33 10,I 34 11,bp 35 .leq 33 34,I 36 35,ay 36 true (aH 37 0 1 4),ay 36 true (aw 38 1 37),cg 36 true 39 11,cg 36 true 40 1,ay 36 true (hj 41 38 [.t 39,.t 40]),ay 36 true (cJ 42 41),ef 43 36 42] (aU 43 .skip (.exit 2))) (.block 3 (.region [I 44 11,aT 45 .sub 44 1,I 11 45]))))) (.seq (aa [I 46 10,I 47 11,bp 48 .gtr 46 47] (aU 48 (aa [aH 49 1 1 4,aw 50 1 49,I 51 11,I 52 1,hj 53 50 [.t 51,.t 52]] (aa [I 54 11,I 8 54,bt 9 true] .ret)) .skip)) (aa [aH 55 1 1 4,aw 56 1 55,I 57 10,I 58 11,hj 59 56 [.t 57,.t 58]] (aa [I 60 10,aT 61 .add 60 1,I 10 61] (aa [I 62 11,aT 63 .sub 62 1,I 11 63] (.seq (.block 4 (.loop (.block 5 (.seq (.block 6 (.loop (.seq (aa [I 64 10,I 65 11,bp 66 .leq 64 65,I 67 66,ay 67 true (aH 68 0 1 4),ay 67 true (aw 69 1 68),cg 67 true 70 10,cg 67 true 71 1,ay 67 true (hj 72 69 [.t 70,.t 71]),ef 73 67 72] (aU 73 .skip (.exit 6))) (.block 7 (.region [I 74 10,aT 75 .add 74 1,I 10 75]))))) (.seq (.block 8 (.loop (.seq (aa [I 76 10,I 77 11,bp 78 .leq 76 77,I 79 78,ay 79 true (aH 80 0 1 4),ay 79 true (aw 81 1 80),cg 79 true 82 11,cg 79 true 83 1,ay 79 true (hj 84 81 [.t 82,.t 83]),ay 79 true (cJ 85 84),ef 86 79 85] (aU 86 .skip (.exit 8))) (.block 9 (.region [I 87 11,aT 88 .sub 87 1,I 11 88]))))) (.seq (aa [I 89 10,I 90 11,bp 91 .gtr 89 90] (aU 91 (.exit 4) .skip)) (aa [aH 92 1 1 4,aw 93 1 92,I 94 10,I 95 11,hj 96 93 [.t 94,.t 95]] (aa [I 97 10,aT 98 .add 97 1,I 10 98] (.region [I 99 11,aT 100 .sub 99 1,I 11 100]))))))))) (aa [aH 101 1 1 4,aw 102 1 101,I 103 11,I 104 1,hj 105 102 [.t 103,.t 104]] (aa [I 106 11,I 8 106,bt 9 false] .ret))))))))))))
def Su:C:=(aa [dc 4 0] (aa [I 10 1,I 8 10] (.block 0 (.loop (.block 1 (aa [I 11 8,bG 12 (.bin .mul false (gi 2) (.t 11)),aT 13 .add 12 1,I 9 13] (.seq (aa [I 14 9,I 15 2,bp 16 .geq 14 15] (aU 16 (.exit 0) .skip)) (.seq (aa [I 17 9,aT 18 .add 17 1,I 19 2,bp 20 .lss 18 19,I 21 20,ay 21 true (aH 22 0 1 4),ay 21 true (aw 23 1 22),cg 21 true 24 3,cg 21 true 25 9,ay 21 true (bp 26 .add 24 25),cg 21 true 27 3,cg 21 true 28 9,ay 21 true (bp 29 .add 27 28),ay 21 true (aT 30 .add 29 1),ay 21 true (hj 31 23 [.t 26,.t 30]),ef 32 21 31] (aU 32 (.region [I 33 9,aT 34 .add 33 1,I 9 34]) .skip)) (.seq (aa [aH 35 0 1 4,aw 36 1 35,I 37 3,I 38 8,bp 39 .add 37 38,I 40 3,I 41 9,bp 42 .add 40 41,hj 43 36 [.t 39,.t 42],cJ 44 43] (aU 44 .ret .skip)) (aa [aH 45 1 1 4,aw 46 1 45,I 47 3,I 48 8,bp 49 .add 47 48,I 50 3,I 51 9,bp 52 .add 50 51,hj 53 46 [.t 49,.t 52]] (.region [I 54 9,I 8 54])))))))))))
def Sl:C:=(aa [bG 2 (.mov (.c (.int .u64 0)))] (aa [I 4 0,bG 5 (.conv .u64 (.t 4)),cG 6 207 5,bG 7 (.conv .u64 (.t 6)),I 3 7] (aa [I 8 3,bG 9 (.bin .shl false (.c (.int .u64 1)) (.t 8)),I 2 9] .ret)))
def Sy:C:=(aa [bG 2 (.mov (.c (.int .u64 0)))] (.seq (.drawn true 33 [I 3 0,fQ 4 3,aw 5 1 4,I 6 0,fQ 7 6,aw 8 1 7,bG 9 (.bin .shl false (.t 8) (.c (.int .u64 13))),bp 10 .xor 5 9,fQ 11 3,b7 1 11 10]) (.seq (.drawn true 33 [I 12 0,fQ 13 12,aw 14 1 13,I 15 0,fQ 16 15,aw 17 1 16,bG 18 (.bin .shr false (.t 17) (.c (.int .u64 7))),bp 19 .xor 14 18,fQ 20 12,b7 1 20 19]) (.seq (.drawn true 33 [I 21 0,fQ 22 21,aw 23 1 22,I 24 0,fQ 25 24,aw 26 1 25,bG 27 (.bin .shl false (.t 26) (.c (.int .u64 17))),bp 28 .xor 23 27,fQ 29 21,b7 1 29 28]) (aa [I 30 0,fQ 31 30,aw 32 1 31,I 2 32] .ret)))))
def Sj:C:=(aa [dc 3 0,b1 6 0] (aa [bg 7 2 3,I 8 1,aT 9 .sub 8 1,I 10 1,I 11 1,aT 12 .add 11 1,I 13 2,dU 14 253 [.t 7,.t 9,.t 10,.t 12,.t 13],I 6 14] .ret))
def Sk:C:=(aa [dc 5 0,b1 10 0] (aa [bg 12 2 5,I 13 1,I 14 2,I 15 4,dU 16 256 [.t 12,.t 13,.t 14,.t 15],I 11 16,dn 17 0 11,dn 18 1 11,I 1 17,I 2 18] (aa [bg 20 2 5,I 21 2,I 22 3,I 23 4,dU 24 256 [.t 20,.t 21,.t 22,.t 23],I 19 24,dn 25 0 19,dn 26 1 19,I 2 25,I 3 26] (aa [bg 28 2 5,I 29 1,I 30 2,I 31 4,dU 32 256 [.t 28,.t 29,.t 30,.t 31],I 27 32,dn 33 0 27,dn 34 1 27,I 1 33,I 2 34] (aa [I 35 2,I 10 35] .ret)))))
def Sm:C:=(aa [dc 4 0,b1 8 0,b1 9 0] (.seq (aa [aH 10 0 1 4,aw 11 1 10,I 12 2,I 13 1,hj 14 11 [.t 12,.t 13]] (aU 14 (aa [I 15 3,fQ 16 15,aw 17 1 16,aT 18 .add 17 1,fQ 19 15,b7 1 19 18] (aa [I 20 2,I 21 1,I 8 20,I 9 21] .ret)) .skip)) (aa [I 22 1,I 23 2,I 8 22,I 9 23] .ret)))
def ox:List (Nat×dE):=[
 (3,⟨1,8,.int .i64,.int .i64 0⟩),
 (5,⟨1,1,.int .u8,.int .u8 0⟩),
 (9,⟨1,16,.str,.str []⟩),
 (178,⟨1,8,.int .u64,.int .u64 0⟩),
 (188,⟨1,8,.other,.junk⟩),
 (202,⟨1,8,.other,.junk⟩),
 (206,⟨2,16,.struct [(0,188),(1,202)],.agg [.junk,.junk]⟩),
 (211,⟨1,8,.int .u64,.int .u64 0⟩),
 (231,⟨1,4,.int .u32,.int .u32 0⟩),
 (242,⟨1,8,.int .u64,.int .u64 0⟩)]
theorem pa:e6 ar ox=true:=an
theorem amr:b4 ox Sd [.tmp 2] 1 Tryz.f207=true:=an
theorem amE:b4 ox Sr [] 4 Tryz.f208=true:=an
theorem ams:b4 ox Se [.tmp 2] 1 Tryz.f227=true:=an
theorem amw:b4 ox Si [] 3 Tryz.f234=true:=an
theorem amu:b4 ox Sg [] 3 Tryz.f235=true:=an
theorem amv:b4 ox Sh [.tmp 6,.tmp 7] 3 Tryz.f236=true:=an
theorem amF:b4 ox Ss [] 3 Tryz.f237=true:=an
theorem amB:b4 ox Sn [.tmp 6] 3 Tryz.f238=true:=an
theorem amC:b4 ox Sp [.tmp 8] 4 Tryz.f239=true:=an
theorem amD:b4 ox Sq [.tmp 8,.tmp 9] 4 Tryz.f240=true:=an
theorem amH:b4 ox Su [] 4 Tryz.f249=true:=an
theorem amz:b4 ox Sl [.tmp 2] 1 Tryz.f250=true:=an
theorem amL:b4 ox Sy [.tmp 2] 1 Tryz.f251=true:=an
theorem amx:b4 ox Sj [.tmp 6] 3 Tryz.f252=true:=an
theorem amy:b4 ox Sk [.tmp 10] 5 Tryz.f253=true:=an
theorem amA:b4 ox Sm [.tmp 8,.tmp 9] 4 Tryz.f256=true:=an
end
section
open Go Go.Pv
variable {α:Type} [Inhabited α] {S:List α->cM} {n g cf:Nat} {lc b9:List ah} {lt:α->α->Bool}
theorem UC(H:fB S n g cf lc b9 lt)(d:Array α)(q:d.size=n)(lo hi first:Nat)(J:first+hi<=n)(U:2<=n)(w:lo<=n):
  bK ar 249 [fl g cf lc b9,.int .i64 lo,.int .i64 hi,.int .i64 first] (S d.toList) fun r y=>r= .tuple []/\∃k,y=S k.toList/\k=Sort.siftDown lt hi first lo d/\k.size=n:=by
 have t:=H.ok d.toList;have e:d.toList.length=n:=by simpa using q
 have p:∀l m,Pv.look (.loc m) (S l).b=none:=fun l=>(H.ok l).obj.1;have hu:∀l m cs,cB (.loc m) cs (S l).b=(S l).b++[(.loc m,cs)]:=fun l m cs=>kL (p l m);have ak:∀m,aB.loc m∉dh (S d.toList):=kD t.obj;have hle:=H.le;refine bK.mk mixed pa Tryz.func249 amH Ψ t.obj fun B A=>?_;unfold Su;simp[fl,hu,ak,cV,p];refine H.loopA e [2,3,4] (fun(x:Nat×Array α)=>[(8,.int .i64 x.1)]) (·.2) (fun x=>hi-x.1) (fun x=>x.2.size=n/\x.1<=n/\Sort.siftDown lt hi first x.1 x.2=Sort.siftDown lt hi first lo d) (lo,d) q ⟨q,w,rfl⟩ (by simp[cV,p]) aL aL d9 ?_;rintro⟨root,c⟩ ⟨a,v,b⟩;simp only at a v b;have j:((first:Int)+(2*root+1))=(first+(2*root+1):Nat):=Ω
 have z:(((first+(2*root+1):Nat):Int)+1)=(first+(2*root+1)+1:Nat):=Ω
 have i:((first:Int)+root)=(first+root:Nat):=Ω
 have s:((first:Int)+(2*root+1+1))=(first+(2*root+2):Nat):=Ω
 simp[Pv.look,H.slc,H.ssc];(with_reducible repeat' first|((first|apply bQ|apply bT|apply bS)<;>intro h<;>try simp at h)|refine al ?_|simp[Pv.look,H.slc,H.ssc])
 ·rw[Sort.siftDown,dif_pos Ω]at b;exact H.retA e a (.inr rfl) ⟨rfl,c,rfl,b,a⟩
 ·rw[Sort.siftDown,dif_neg Ω]at b;rw[j,z];refine H.lessA a _ _ Ω Ω fun o=>?_;have ax:decide (2*root+1+1<hi)=true:=by simp;omega
  cases u:lt c[first+(2*root+1)]! c[first+(2*root+1)+1]! with
  |true=>
   rw[if_pos (by rw[ax,u];rfl)]at b;simp;(with_reducible repeat' first|refine al ?_|simp[Pv.look,H.slc,H.ssc]);rw[i,s];refine H.lessA a _ _ Ω Ω fun o=>?_;cases f:lt c[first+root]! c[first+(2*root+2)]! with
   |true=>rw[if_neg (by simp[f]),dif_pos Ω]at b;simp;(with_reducible repeat' first|refine al ?_|simp[Pv.look,H.slc,H.ssc]);rw[i,s];refine H.swapA a U _ _ Ω Ω fun o=>?_;simp;(with_reducible repeat' first|refine al ?_|simp);refine bO.whl (2*root+2,Sort.swp c (first+root) (first+(2*root+2))) d7 ⟨by rw[ho,a],by simp;omega,b⟩ (H.weakC e (by simp[ho,a]) o4)
   |false=>rw[if_pos (by simp[f])]at b;simp;(with_reducible repeat' first|refine al ?_|simp);all_goals exact H.retA e a (.inl rfl) ⟨rfl,c,rfl,b,a⟩
  |false=>
   rw[if_neg (by simp[u])]at b;simp;(with_reducible repeat' first|refine al ?_|simp[Pv.look,H.slc,H.ssc]);rw[i,j];refine H.lessA a _ _ Ω Ω fun o=>?_;cases f:lt c[first+root]! c[first+(2*root+1)]! with
   |true=>rw[if_neg (by simp[f])]at b;simp;(with_reducible repeat' first|refine al ?_|simp[Pv.look,H.slc,H.ssc]);rw[i,j];refine H.swapA a U _ _ Ω Ω fun o=>?_;simp;(with_reducible repeat' first|refine al ?_|simp);refine bO.whl (2*root+1,Sort.swp c (first+root) (first+(2*root+1))) d7 ⟨by rw[ho,a],by simp;omega,b⟩ (H.weakC e (by simp[ho,a]) d9)
   |false=>rw[if_pos (by simp[f])]at b;simp;(with_reducible repeat' first|refine al ?_|simp);all_goals exact H.retA e a (.inl rfl) ⟨rfl,c,rfl,b,a⟩
 ·rw[Sort.siftDown,dif_neg Ω]at b;have ax:decide (2*root+1+1<hi)=false:=by simp;omega
  rw[if_neg (by rw[ax];simp)]at b;rw[i,j];refine H.lessA a _ _ Ω Ω fun o=>?_;cases f:lt c[first+root]! c[first+(2*root+1)]! with
  |true=>rw[if_neg (by simp[f])]at b;simp;(with_reducible repeat' first|refine al ?_|simp[Pv.look,H.slc,H.ssc]);rw[i,j];refine H.swapA a U _ _ Ω Ω fun o=>?_;simp;(with_reducible repeat' first|refine al ?_|simp);refine bO.whl (2*root+1,Sort.swp c (first+root) (first+(2*root+1))) d7 ⟨by rw[ho,a],by simp;omega,b⟩ (H.weakC e (by simp[ho,a]) d9)
  |false=>rw[if_pos (by simp[f])]at b;simp;(with_reducible repeat' first|refine al ?_|simp);all_goals exact H.retA e a (.inl rfl) ⟨rfl,c,rfl,b,a⟩
theorem aho(H:fB S n g cf lc b9 lt)(d:Array α)(q:d.size=n)(a b:Nat)(A:a<b)(ae:b<=n)(U:2<=n):
  bK ar 237 [fl g cf lc b9,.int .i64 a,.int .i64 b] (S d.toList) fun r w=>r= .tuple []/\∃k,w=S k.toList/\k=Sort.reverseRange d a b/\k.size=n:=by
 have t:=H.ok d.toList;have p:d.toList.length=n:=by simpa using q
 have f:∀l m,Pv.look (.loc m) (S l).b=none:=fun l=>(H.ok l).obj.1;have hu:∀l m cs,cB (.loc m) cs (S l).b=(S l).b++[(.loc m,cs)]:=fun l m cs=>kL (f l m);have ak:∀m,aB.loc m∉dh (S d.toList):=kD t.obj;have hle:=H.le;refine bK.mk mixed pa Tryz.func237 amF Ψ t.obj fun D B=>?_;unfold Ss;simp[fl,hu,ak,cV,f];have u:((b:Int)-1)=(b-1:Nat):=Ω
 (with_reducible repeat' first|refine al ?_|simp[hu,ak,cV,f]);rw[u];refine H.loopA p [3] (fun(x:(Nat×Nat)×Array α)=>[(6,.int .i64 x.1.1),(7,.int .i64 x.1.2)]) (·.2) (fun x=>x.1.2+1-x.1.1) (fun x=>x.2.size=n/\x.1.2<n/\Sort.reverseLoop x.1.1 x.1.2 x.2=Sort.reverseRange d a b) ((a,b-1),d) q ⟨q,by simp;omega,rfl⟩ (by simp[cV,f]) aL aL d9 ?_;rintro⟨⟨i,j⟩,s⟩ ⟨e,v,c⟩;simp only at e v c;rw[Sort.reverseLoop]at c;simp[Pv.look,H.slc,H.ssc];(with_reducible repeat' first|((first|apply bQ|apply bT|apply bS)<;>intro h<;>try simp at h)|refine al ?_|simp[Pv.look,H.slc,H.ssc])
 ·rw[if_pos Ω]at c;refine H.swapA e U _ _ Ω Ω fun o=>?_;have y:((i:Int)+1)=(i+1:Nat):=Ω
  have z:((j:Int)-1)=(j-1:Nat):=Ω
  simp;((with_reducible repeat' first|refine al ?_|simp|((first|apply bQ|apply bT|apply bS)<;>intro h<;>try simp at h))<;>(try exact cv));rw[y,z];refine bO.whl ((i+1,j-1),Sort.swp s i j) d7 ⟨by rw[ho,e],by simp;omega,c⟩ (H.weakC p (by simp[ho,e]) d9)
 ·rw[if_neg Ω]at c;exact H.retA p e (.inr rfl) ⟨rfl,s,rfl,c,e⟩
theorem ahb(H:fB S n g cf lc b9 lt)(d:Array α)(J:d.size=n)(a b:Nat)(O:a<=b)(ae:b<=n)(U:2<=n):
  bK ar 234 [fl g cf lc b9,.int .i64 a,.int .i64 b] (S d.toList) fun r E=>r= .tuple []/\∃c,E=S c.toList/\c=Sort.heapSort lt d a b/\c.size=n:=by
 have M:=H.ok d.toList;have y:d.toList.length=n:=by simpa using J
 have z:∀l m,Pv.look (.loc m) (S l).b=none:=fun l=>(H.ok l).obj.1;have hu:∀l m cs,cB (.loc m) cs (S l).b=(S l).b++[(.loc m,cs)]:=fun l m cs=>kL (z l m);have ak:∀m,aB.loc m∉dh (S d.toList):=kD M.obj;have hle:=H.le;refine bK.mk mixed pa Tryz.func234 amw Ψ M.obj fun W V=>?_;unfold Si;simp[fl,hu,ak,cV,z];(with_reducible repeat' first|refine al ?_|simp[hu,ak,cV,z]);have P:oz.wrap (((b:Int)-a-1).tdiv 2)=(((b-a-1)/2+1:Nat):Int)-1:=by
  have e:((b:Int)-a-1).tdiv 2=(((b-a-1)/2+1:Nat):Int)-1:=by
   rcases Nat.eq_or_lt_of_le O with h|h
   ·subst h;simp
   ·rw[show((b:Int)-a-1)=((b-a-1:Nat):Int) by omega,Int.tdiv_eq_ediv_of_nonneg Ω];omega
  rw[e,lT _ Ω]
 rw[P];refine H.loopA y [3,6,7,8] (fun(x:Nat×Array α)=>[(9,.int .i64 ((x.1:Int)-1))]) (·.2) (fun x=>x.1) (fun x=>x.2.size=n/\x.1<=n/\Sort.heapBuild lt (b-a) a x.1 x.2=Sort.heapBuild lt (b-a) a ((b-a-1)/2+1) d) ((b-a-1)/2+1,d) J ⟨J,by simp;omega,rfl⟩ (by simp[cV,z]) aL aL d9 ?_;rintro⟨k,i⟩ ⟨j,Q,w⟩;simp only at j Q w;have F:((b:Int)-a)=(b-a:Nat):=Ω
 simp[Pv.look,H.slc,H.ssc];(with_reducible repeat' first|((first|apply bQ|apply bT|apply bS)<;>intro h<;>try simp at h)|refine al ?_|simp[Pv.look,H.slc,H.ssc])
 ·obtain⟨k,rfl⟩:∃B,k=B+1:=⟨k-1,Ω⟩;have L:(((k+1:Nat):Int)-1)=(k:Nat):=Ω
  rw[Sort.heapBuild]at w;simp only[ja H,H.slc,H.ssc,iQ,L,F];refine H.doFn (lk:=i.toList) (by simpa using j) (R:=fun s=> ∃c,s=c.toList/\c=Sort.siftDown lt (b-a) a k i/\c.size=n) ((UC H i j k (b-a) a Ω U Ω).mono fun r E ⟨p,c,f,D,A⟩=>⟨p,c.toList,f,c,rfl,D,A⟩) (by rintro s ⟨c,rfl,_,q⟩;simpa using q) (by simp[aA,av,H.kdata (lk:=i.toList) (by simpa using j)]) ?_;rintro s ⟨c,rfl,p,f⟩;simp;((with_reducible repeat' first|refine al ?_|simp|((first|apply bQ|apply bT|apply bS)<;>intro h<;>try simp at h))<;>(try exact cv));refine bO.whl (k,c) Ψ ⟨f,by simp;omega,by rw[<-w,p]⟩ (H.weakC y (by simpa using f) d9)
 ·obtain rfl:k=0:=Ω
  rw[Sort.heapBuild]at w;have X:i.size=n:=j;refine H.loopA y [3,6,7] (fun(x:Nat×Array α)=>[(10,.int .i64 ((x.1:Int)-1))]) (·.2) (fun x=>x.1) (fun x=>x.2.size=n/\x.1<=b-a/\Sort.heapPop lt a x.1 x.2=Sort.heapPop lt a (b-a) i) (b-a,i) j ⟨j,Ψ,rfl⟩ hV aL aL o4 ?_;rintro⟨k,t⟩ ⟨u,N,v⟩;simp only at u N v;simp[Pv.look,H.slc,H.ssc];(with_reducible repeat' first|((first|apply bQ|apply bT|apply bS)<;>intro h<;>try simp at h)|refine al ?_|simp[Pv.look,H.slc,H.ssc])
  ·obtain⟨k,rfl⟩:∃B,k=B+1:=⟨k-1,Ω⟩;have L:(((k+1:Nat):Int)-1)=(k:Nat):=Ω
   have G:((a:Int)+k)=(a+k:Nat):=Ω
   rw[Sort.heapPop]at v;simp only[L,G];refine H.swapA u U _ _ Ω Ω fun o=>?_;have K:(Sort.swp t a (a+k)).size=n:=by rw[ho,u]
   simp;simp only[ja H,H.slc,H.ssc,iQ];refine H.doFn (lk:=(Sort.swp t a (a+k)).toList) (by simpa using K) (R:=fun s=> ∃c,s=c.toList/\c=Sort.siftDown lt k a 0 (Sort.swp t a (a+k))/\c.size=n) ((UC H (Sort.swp t a (a+k)) K 0 k a Ω U Ω).mono fun r E ⟨p,c,f,D,A⟩=>⟨p,c.toList,f,c,rfl,D,A⟩) (by rintro s ⟨c,rfl,_,q⟩;simpa using q) (by simp[aA,av,H.kdata (lk:=(Sort.swp t a (a+k)).toList) (by simpa using K)]) ?_;rintro s ⟨c,rfl,p,f⟩;simp;((with_reducible repeat' first|refine al ?_|simp|((first|apply bQ|apply bT|apply bS)<;>intro h<;>try simp at h))<;>(try exact cv));refine bO.whl (k,c) Ψ ⟨f,by simp;omega,by rw[<-v,p]⟩ (H.weakC y (by simpa using f) d9)
  ·obtain rfl:k=0:=Ω
   rw[Sort.heapPop]at v;refine H.retA y u (.inr rfl) ⟨rfl,t,rfl,?_,u⟩;rw[Sort.heapSort,<-w,<-v]
theorem ahc(H:fB S n g cf lc b9 lt)(d:Array α)(y:d.size=n)(a b:Nat)(L:a<=b)(ae:b<=n):
  bK ar 224 [fl g cf lc b9,.int .i64 a,.int .i64 b] (S d.toList) fun r K=>r= .tuple []/\∃v,K=S v.toList/\v=Sort.insertionSort lt d a b/\v.size=n:=by
 have z:=H.ok d.toList;have p:d.toList.length=n:=by simpa using y
 have s:∀l m,Pv.look (.loc m) (S l).b=none:=fun l=>(H.ok l).obj.1;have hu:∀l m cs,cB (.loc m) cs (S l).b=(S l).b++[(.loc m,cs)]:=fun l m cs=>kL (s l m);have ak:∀m,aB.loc m∉dh (S d.toList):=kD z.obj;have hle:=H.le;refine bK.mk mixed CF Tryz.func224 X8 Ψ z.obj fun N M=>?_;unfold KE;simp[fl,hu,ak,cV,s];have F:((a:Int)+1)=(a+1:Nat):=Ω
 (with_reducible repeat' first|refine al ?_|simp[hu,ak,cV,s]);rw[F];refine H.loopA p [1,2,3] (fun(x:Nat×Array α)=>[(6,.int .i64 x.1)]) (·.2) (fun x=>b+1-x.1) (fun x=>x.2.size=n/\x.1<=b+1/\Sort.insOuter lt a b x.1 x.2=Sort.insertionSort lt d a b) (a+1,d) y ⟨y,by simp;omega,rfl⟩ (by simp[cV,s]) aL aL d9 ?_;rintro⟨i,u⟩ ⟨q,J,k⟩;simp only at q J k;rw[Sort.insOuter]at k;simp;(with_reducible repeat' first|((first|apply bQ|apply bT|apply bS)<;>intro h<;>try simp at h)|refine al ?_|simp)
 ·rw[if_pos Ω]at k;refine H.loopA p [1,2,3,6] (fun(x:Nat×Array α)=>[(7,.int .i64 x.1)]) (·.2) (fun x=>x.1) (fun x=>x.2.size=n/\x.1<=i/\Sort.insInner lt a x.1 x.2=Sort.insInner lt a i u) (i,u) q ⟨q,Ψ,rfl⟩ hV aL aL d9 ?_;rintro⟨j,f⟩ ⟨c,D,e⟩;simp only at c D e;simp[Pv.look,H.slc,H.ssc];(with_reducible repeat' first|((first|apply bQ|apply bT|apply bS)<;>intro h<;>try simp at h)|refine al ?_|simp[Pv.look,H.slc,H.ssc])
  ·obtain⟨j,rfl⟩:∃G,j=G+1:=⟨j-1,Ω⟩;have E:(((j+1:Nat):Int)-1)=(j:Nat):=Ω
   have t:((i:Int)+1)=(i+1:Nat):=Ω
   have w:((j:Int)+1)=(j+1:Nat):=Ω
   rw[Sort.insInner]at e;have ax:decide (j+1>a)=true:=by simp;omega
   rw[E];refine H.lessA c _ _ Ω Ω fun o=>?_;cases A:lt f[j+1]! f[j]! with
   |true=>rw[if_pos (by rw[ax,A];rfl)]at e;simp;(with_reducible repeat' first|refine al ?_|simp[Pv.look,H.slc,H.ssc]);rw[w];refine H.swapA c Ω _ _ Ω Ω fun o=>?_;simp;(with_reducible repeat' first|refine al ?_|simp);refine bO.whl (j,Sort.swp f (j+1) j) Ψ ⟨by rw[ho,c],by simp;omega,e⟩ (H.weakC p (by simp[ho,c]) d9)
   |false=>rw[if_neg (by simp[A])]at e;simp;((with_reducible repeat' first|refine al ?_|simp|((first|apply bQ|apply bT|apply bS)<;>intro h<;>try simp at h))<;>(try exact cv));rw[t];refine bO.whl (i+1,f) d7 ⟨c,by simp;omega,by rw[<-k,<-e]⟩ (H.weakC p (by simpa using c) d9)
  ·have t:((i:Int)+1)=(i+1:Nat):=Ω
   have B:Sort.insInner lt a j f=f:=by
    cases j with
    |zero=>rfl
    |succ j=>rw[Sort.insInner,if_neg d7]
   rw[t];refine bO.whl (i+1,f) d7 ⟨c,by simp;omega,by rw[<-k,<-e,B]⟩ (H.weakC p (by simpa using c) d9)
 ·rw[if_neg Ω]at k;exact H.retA p q (.inr rfl) ⟨rfl,u,rfl,k,q⟩
end
section
open Go Go.Pv
variable {α:Type} [Inhabited α] {S:List α->cM} {n g cf:Nat} {lc b9:List ah} {lt:α->α->Bool}
theorem wD{p:α->Bool}{d:Array α}{i j:Nat}(h:¬(i<=j/\p d[j]! =true)):Sort.scanDown p d i j=j:=by
 cases j with
 |zero=>rfl
 |succ j=>rw[Sort.scanDown,if_neg (by simpa using h)]
theorem Cu{p:α->Bool}{d:Array α}{i j:Nat}(h:¬(i<=j/\p d[i]! =true)):Sort.scanUp p d j i=i:=by rw[Sort.scanUp,if_neg (by simpa using h)]
theorem O9{p:α->Bool}{d:Array α}{i j:Nat}(J:i<=j)(U:p d[i]! =true):Sort.scanUp p d j i=Sort.scanUp p d j (i+1):=by rw[Sort.scanUp,if_pos (by simp[J,U])]
theorem O8{p:α->Bool}{d:Array α}{i j:Nat}(J:i<=j+1)(U:p d[j+1]! =true):Sort.scanDown p d i (j+1)=Sort.scanDown p d i j:=by rw[Sort.scanDown,if_pos (by simp[J,U])]
theorem ahi(H:fB S n g cf lc b9 lt)(d:Array α)(P:d.size=n)(a b pivot:Nat)(sP:a<=pivot)(aiW:pivot<b)(n3:a+1<b)(ae:b<=n):
  bK ar 240 [fl g cf lc b9,.int .i64 a,.int .i64 b,.int .i64 pivot] (S d.toList) fun r aj=>r= .tuple [.int .i64 (Sort.partition lt d a b pivot).1,.bool (Sort.partition lt d a b pivot).2.1]/\∃N,aj=S N.toList/\N=(Sort.partition lt d a b pivot).2.2/\N.size=n:=by
 obtain⟨R,bq⟩:∃R,R=Sort.partition lt d a b pivot:=⟨_,rfl⟩;rw[<-bq];unfold Sort.partition at bq;have U:=H.ok d.toList;have s:d.toList.length=n:=by simpa using P
 have Q:∀l m,Pv.look (.loc m) (S l).b=none:=fun l=>(H.ok l).obj.1;have hu:∀l m cs,cB (.loc m) cs (S l).b=(S l).b++[(.loc m,cs)]:=fun l m cs=>kL (Q l m);have ak:∀m,aB.loc m∉dh (S d.toList):=kD U.obj;have hle:=H.le;refine bK.mk mixed pa Tryz.func240 amD Ψ U.obj fun aP cU=>?_;unfold Sq;simp[fl,hu,ak,cV,Q];rw[H.ssc];refine H.swapA0 P Ω a pivot Ω Ω fun o=>?_;obtain⟨d1,L⟩:∃d1,d1=Sort.swp d a pivot:=⟨_,rfl⟩;have s1:d1.size=n:=by rw[L,ho,P]
 rw[<-L];simp only[<-L]at bq;have ai:((a:Int)+1)=(a+1:Nat):=Ω
 have aC:((b:Int)-1)=(b-1:Nat):=Ω
 simp;(with_reducible repeat' first|refine al ?_|simp);rw[ai,aC];refine H.loopA s [1,4,11] (fun(i:Nat)=>[(10,.int .i64 i)]) (fun _=>d1) (fun i=>b+1-i) (fun i=>a+1<=i/\i<=b/\Sort.scanUp (fun x=>lt x d1[a]!) d1 (b-1) i=Sort.scanUp (fun x=>lt x d1[a]!) d1 (b-1) (a+1)) (a+1) s1 ⟨Ω,Ω,rfl⟩ hV aL aL d9 ?_;rintro i ⟨i1,i2,i3⟩;simp[Pv.look,H.slc];((with_reducible repeat' first|refine al ?_|simp[Pv.look,H.slc]|((first|apply bQ|apply bT|apply bS)<;>intro h<;>try simp at h))<;>(try exact cv));refine H.lessA s1 i a Ω Ω fun o=>?_;cases O:lt d1[i]! d1[a]!;rotate_left
 ·have E:((i:Int)+1)=(i+1:Nat):=Ω
  simp;(with_reducible repeat' first|refine al ?_|simp);rw[E];refine bO.whl (i+1) Ω ⟨Ω,Ω,by rw[<-i3];exact(O9 (p:=fun x=>lt x d1[a]!) Ω O).symm⟩ (H.weakC s (by simpa using s1) d9)
 rotate_left
 ·have i4:Sort.scanUp (fun x=>lt x d1[a]!) d1 (b-1) i=i:=Cu (by simp[O]);rw[i4]at i3;rw[<-i3]at bq;simp;refine H.loopA s [1,4,10] (fun(j:Nat)=>[(11,.int .i64 j)]) (fun _=>d1) (fun j=>j) (fun j=>i<=j+1/\j<=b-1/\Sort.scanDown (fun x=> !lt x d1[a]!) d1 i j=Sort.scanDown (fun x=> !lt x d1[a]!) d1 i (b-1)) (b-1) s1 ⟨Ω,Ω,rfl⟩ hV aL aL d9 ?_;rintro j ⟨hT,xC,w⟩;simp[Pv.look,H.slc];((with_reducible repeat' first|refine al ?_|simp[Pv.look,H.slc,H.ssc]|((first|apply bQ|apply bT|apply bS)<;>intro h<;>try simp at h))<;>(try exact cv))
  ·refine H.lessA s1 j a Ω Ω fun o=>?_;cases B:lt d1[j]! d1[a]!
   ·obtain⟨j,rfl⟩:∃k,j=k+1:=⟨j-1,Ω⟩;have F:(((j+1:Nat):Int)-1)=(j:Nat):=Ω
    simp;(with_reducible repeat' first|refine al ?_|simp);try rw[F]
    refine bO.whl j Ω ⟨Ω,Ω,by rw[<-w];exact(O8 (p:=fun x=> !lt x d1[a]!) Ω (by simp[B])).symm⟩ (H.weakC s (by simpa using s1) d9)
   ·have u:Sort.scanDown (fun x=> !lt x d1[a]!) d1 i j=j:=wD (by simp[B]);have Z:i≠j:=fun e=>by subst e;rw[O]at B;cases B
    rw[u]at w;rw[<-w,if_neg Ω]at bq;simp;((with_reducible repeat' first|refine al ?_|simp[Pv.look,H.slc,H.ssc]|((first|apply bQ|apply bT|apply bS)<;>intro h<;>try simp at h))<;>(try exact cv));refine H.swapA s1 Ω i j Ω Ω fun o=>?_;obtain⟨d2,M⟩:∃d2,d2=Sort.swp d1 i j:=⟨_,rfl⟩;have s2:d2.size=n:=by rw[M,ho,s1]
    rw[<-M];rw[<-M]at bq;have bj:((i:Int)+1)=(i+1:Nat):=Ω
    have Y:((j:Int)-1)=(j-1:Nat):=Ω
    simp;(with_reducible repeat' first|refine al ?_|simp);rw[bj,Y];refine H.loopA s [1,4] (fun(x:(Nat×Nat)×Array α)=>[(10,.int .i64 x.1.1),(11,.int .i64 x.1.2)]) (·.2) (fun x=>x.1.2+1-x.1.1) (fun x=>x.2.size=n/\(a+1<=x.1.1/\x.1.1<=x.1.2+1/\x.1.2<=b-1)/\Sort.partLoop lt a x.1.1 x.1.2 x.2=Sort.partLoop lt a (i+1) (j-1) d2) ((i+1,j-1),d2) s2 ⟨s2,⟨by simp;omega,by simp;omega,by simp;omega⟩,rfl⟩ hV aL aL d9 ?_;rintro⟨⟨J,k⟩,c⟩ ⟨f,⟨bP,cA,W⟩,t⟩;simp only at f bP cA W t;rw[Sort.partLoop]at t;generalize n1:Sort.partLoop lt a (i+1) (j-1) d2=G at t bq;simp;refine H.loopA s [1,4,11] (fun(x:Nat)=>[(10,.int .i64 x)]) (fun _=>c) (fun x=>b+1-x) (fun x=>J<=x/\x<=k+1/\Sort.scanUp (fun x=>lt x c[a]!) c k x=Sort.scanUp (fun x=>lt x c[a]!) c k J) J f ⟨Ω,Ω,rfl⟩ hV aL aL d9 ?_;rintro p ⟨c1,du,v⟩;simp[Pv.look,H.slc];((with_reducible repeat' first|refine al ?_|simp[Pv.look,H.slc]|((first|apply bQ|apply bT|apply bS)<;>intro h<;>try simp at h))<;>(try exact cv))
    ·refine H.lessA f p a Ω Ω fun o=>?_;cases K:lt c[p]! c[a]!;rotate_left
     ·have E:((p:Int)+1)=(p+1:Nat):=Ω
      simp;(with_reducible repeat' first|refine al ?_|simp);rw[E];refine bO.whl (p+1) Ω ⟨Ω,Ω,by rw[<-v];exact(O9 (p:=fun x=>lt x c[a]!) Ω K).symm⟩ (H.weakC s (by simpa using f) d9)
     ·have D:Sort.scanUp (fun x=>lt x c[a]!) c k p=p:=Cu (by simp[K]);rw[D]at v;simp only[<-v]at t;simp;refine H.loopA s [1,4,10] (fun(x:Nat)=>[(11,.int .i64 x)]) (fun _=>c) (fun x=>x) (fun x=>p<=x+1/\x<=k/\Sort.scanDown (fun x=> !lt x c[a]!) c p x=Sort.scanDown (fun x=> !lt x c[a]!) c p k) k f ⟨Ω,Ω,rfl⟩ hV aL aL d9 ?_;rintro q ⟨a8,bA,z⟩;simp[Pv.look,H.slc];((with_reducible repeat' first|refine al ?_|simp[Pv.look,H.slc,H.ssc]|((first|apply bQ|apply bT|apply bS)<;>intro h<;>try simp at h))<;>(try exact cv))
      ·refine H.lessA f q a Ω Ω fun o=>?_;cases A:lt c[q]! c[a]!
       ·obtain⟨q,rfl⟩:∃k,q=k+1:=⟨q-1,Ω⟩;have F:(((q+1:Nat):Int)-1)=(q:Nat):=Ω
        simp;(with_reducible repeat' first|refine al ?_|simp);try rw[F]
        refine bO.whl q Ω ⟨Ω,Ω,by rw[<-z];exact(O8 (p:=fun x=> !lt x c[a]!) Ω (by simp[A])).symm⟩ (H.weakC s (by simpa using f) d9)
       ·have y:Sort.scanDown (fun x=> !lt x c[a]!) c p q=q:=wD (by simp[A]);have Z:p≠q:=fun e=>by subst e;rw[K]at A;cases A
        rw[y]at z;simp only[<-z]at t;rw[if_neg Ω,dif_pos Ω]at t;simp;((with_reducible repeat' first|refine al ?_|simp[Pv.look,H.slc,H.ssc]|((first|apply bQ|apply bT|apply bS)<;>intro h<;>try simp at h))<;>(try exact cv));refine H.swapA f Ω p q Ω Ω fun o=>?_;have X:((p:Int)+1)=(p+1:Nat):=Ω
        have V:((q:Int)-1)=(q-1:Nat):=Ω
        simp;(with_reducible repeat' first|((first|apply bQ|apply bT|apply bS)<;>intro h<;>try simp at h)|refine al ?_|simp);rw[X,V];refine bO.whl ((p+1,q-1),Sort.swp c p q) d7 ⟨by rw[ho,f],⟨by simp;omega,by simp;omega,by simp;omega⟩,t⟩ (H.weakC s (by simp[ho,f]) d9)
      ·have y:Sort.scanDown (fun x=> !lt x c[a]!) c p q=q:=wD Ω;rw[y]at z;simp only[<-z]at t;rw[if_pos Ω]at t;rw[<-t]at bq;refine H.swapA f Ω q a Ω Ω fun o=>?_;simp;refine H.retR s (d:=Sort.swp c q a) (by rw[ho,f]) (.inl rfl) ?_;simp[cT,aX,a1,aV];rw[bq];exact⟨⟨rfl,rfl⟩,_,rfl,rfl,by rw[ho,f]⟩
    ·have D:Sort.scanUp (fun x=>lt x c[a]!) c k p=p:=Cu Ω;rw[D]at v;simp only[<-v]at t;have y:Sort.scanDown (fun x=> !lt x c[a]!) c p k=k:=wD Ω;rw[y,if_pos Ω]at t;rw[<-t]at bq;refine H.loopA s [1,4,10] (fun(x:Nat)=>[(11,.int .i64 x)]) (fun _=>c) (fun x=>x) (fun x=>x=k) k f rfl hV aL aL d9 ?_;rintro q rfl;simp[Pv.look,H.slc];((with_reducible repeat' first|refine al ?_|simp[Pv.look,H.slc,H.ssc]|((first|apply bQ|apply bT|apply bS)<;>intro h<;>try simp at h))<;>(try exact cv));refine H.swapA f Ω q a Ω Ω fun o=>?_;simp;refine H.retR s (d:=Sort.swp c q a) (by rw[ho,f]) (.inl rfl) ?_;simp[cT,aX,a1,aV];rw[bq];exact⟨⟨rfl,rfl⟩,_,rfl,rfl,by rw[ho,f]⟩
  ·have u:Sort.scanDown (fun x=> !lt x d1[a]!) d1 i j=j:=wD Ω;rw[u]at w;rw[<-w,if_pos Ω]at bq;refine H.swapA s1 Ω j a Ω Ω fun o=>?_;simp;refine H.retR s (d:=Sort.swp d1 j a) (by rw[ho,s1]) (.inl rfl) ?_;simp[cT,aX,a1,aV];rw[bq];exact⟨⟨rfl,rfl⟩,_,rfl,rfl,by rw[ho,s1]⟩
 ·have i4:Sort.scanUp (fun x=>lt x d1[a]!) d1 (b-1) i=i:=Cu Ω;rw[i4]at i3;have u:Sort.scanDown (fun x=> !lt x d1[a]!) d1 i (b-1)=b-1:=wD Ω;rw[<-i3,u,if_pos Ω]at bq;refine H.loopA s [1,4,10] (fun(j:Nat)=>[(11,.int .i64 j)]) (fun _=>d1) (fun j=>j) (fun j=>j=b-1) (b-1) s1 rfl hV aL aL d9 ?_;rintro j rfl;simp[Pv.look,H.slc];((with_reducible repeat' first|refine al ?_|simp[Pv.look,H.slc,H.ssc]|((first|apply bQ|apply bT|apply bS)<;>intro h<;>try simp at h))<;>(try exact cv));refine H.swapA s1 Ω (b-1) a Ω Ω fun o=>?_;simp;refine H.retR s (d:=Sort.swp d1 (b-1) a) (by rw[ho,s1]) (.inl rfl) ?_;simp[cT,aX,a1,aV];rw[bq];exact⟨⟨rfl,rfl⟩,_,rfl,rfl,by rw[ho,s1]⟩
end
section
open Go Go.Pv
variable {α:Type} [Inhabited α] {S:List α->cM} {n g cf:Nat} {lc b9:List ah} {lt:α->α->Bool}
theorem ahj(H:fB S n g cf lc b9 lt)(d:Array α)(D:d.size=n)(a b pivot:Nat)(W:a<=pivot)(Q:pivot<b)(X:a+1<b)(ae:b<=n):
  bK ar 239 [fl g cf lc b9,.int .i64 a,.int .i64 b,.int .i64 pivot] (S d.toList) fun r P=>r= .int .i64 (Sort.partitionEqual lt d a b pivot).1/\∃B,P=S B.toList/\B=(Sort.partitionEqual lt d a b pivot).2/\B.size=n:=by
 obtain⟨R,bq⟩:∃R,R=Sort.partitionEqual lt d a b pivot:=⟨_,rfl⟩;rw[<-bq];unfold Sort.partitionEqual at bq;have F:=H.ok d.toList;have k:d.toList.length=n:=by simpa using D
 have E:∀l m,Pv.look (.loc m) (S l).b=none:=fun l=>(H.ok l).obj.1;have hu:∀l m cs,cB (.loc m) cs (S l).b=(S l).b++[(.loc m,cs)]:=fun l m cs=>kL (E l m);have ak:∀m,aB.loc m∉dh (S d.toList):=kD F.obj;have hle:=H.le;refine bK.mk mixed pa Tryz.func239 amC Ψ F.obj fun aP Z=>?_;unfold Sp;simp[fl,hu,ak,cV,E];rw[H.ssc];refine H.swapA0 D Ω a pivot Ω Ω fun o=>?_;obtain⟨d1,A⟩:∃d1,d1=Sort.swp d a pivot:=⟨_,rfl⟩;have s1:d1.size=n:=by rw[A,ho,D]
 rw[<-A];rw[<-A]at bq;have U:((a:Int)+1)=(a+1:Nat):=Ω
 have V:((b:Int)-1)=(b-1:Nat):=Ω
 simp;(with_reducible repeat' first|refine al ?_|simp);rw[U,V];refine H.loopA k [1,4] (fun(x:(Nat×Nat)×Array α)=>[(9,.int .i64 x.1.1),(10,.int .i64 x.1.2)]) (·.2) (fun x=>x.1.2+1-x.1.1) (fun x=>x.2.size=n/\(a+1<=x.1.1/\x.1.1<=x.1.2+1/\x.1.2<=b-1)/\Sort.partEqLoop lt a x.1.1 x.1.2 x.2=R) ((a+1,b-1),d1) s1 ⟨s1,⟨Ψ,by simp;omega,Ψ⟩,bq.symm⟩ hV aL aL d9 ?_;rintro⟨⟨y,i⟩,c⟩ ⟨f,⟨O,N,L⟩,j⟩;simp only at f O N L j;rw[Sort.partEqLoop]at j;simp;refine H.loopA k [1,4,10] (fun(x:Nat)=>[(9,.int .i64 x)]) (fun _=>c) (fun x=>b+1-x) (fun x=>y<=x/\x<=i+1/\Sort.scanUp (fun x=> !lt c[a]! x) c i x=Sort.scanUp (fun x=> !lt c[a]! x) c i y) y f ⟨Ω,Ω,rfl⟩ hV aL aL d9 ?_;rintro p ⟨c1,Y,s⟩;simp[Pv.look,H.slc];((with_reducible repeat' first|refine al ?_|simp[Pv.look,H.slc]|((first|apply bQ|apply bT|apply bS)<;>intro h<;>try simp at h))<;>(try exact cv))
 ·refine H.lessA f a p Ω Ω fun o=>?_;cases z:lt c[a]! c[p]!
  ·have G:((p:Int)+1)=(p+1:Nat):=Ω
   simp;(with_reducible repeat' first|refine al ?_|simp);rw[G];refine bO.whl (p+1) Ω ⟨Ω,Ω,by rw[<-s];exact(O9 (p:=fun x=> !lt c[a]! x) Ω (by simp[z])).symm⟩ (H.weakC k (by simpa using f) d9)
  ·have w:Sort.scanUp (fun x=> !lt c[a]! x) c i p=p:=Cu (by simp[z]);rw[w]at s;simp only[<-s]at j;simp;refine H.loopA k [1,4,9] (fun(x:Nat)=>[(10,.int .i64 x)]) (fun _=>c) (fun x=>x) (fun x=>p<=x+1/\x<=i/\Sort.scanDown (fun x=>lt c[a]! x) c p x=Sort.scanDown (fun x=>lt c[a]! x) c p i) i f ⟨Ω,Ω,rfl⟩ hV aL aL d9 ?_;rintro q ⟨a8,bA,u⟩;simp[Pv.look,H.slc];((with_reducible repeat' first|refine al ?_|simp[Pv.look,H.slc,H.ssc]|((first|apply bQ|apply bT|apply bS)<;>intro h<;>try simp at h))<;>(try exact cv))
   ·refine H.lessA f a q Ω Ω fun o=>?_;cases v:lt c[a]! c[q]!;rotate_left
    ·obtain⟨q,rfl⟩:∃i,q=i+1:=⟨q-1,Ω⟩;have J:(((q+1:Nat):Int)-1)=(q:Nat):=Ω
     simp;(with_reducible repeat' first|refine al ?_|simp);try rw[J]
     refine bO.whl q Ω ⟨Ω,Ω,by rw[<-u];exact(O8 (p:=fun x=>lt c[a]! x) Ω (by simp[v])).symm⟩ (H.weakC k (by simpa using f) d9)
    ·have t:Sort.scanDown (fun x=>lt c[a]! x) c p q=q:=wD (by simp[v]);have cF:p≠q:=fun e=>by subst e;rw[z]at v;cases v
     rw[t]at u;simp only[<-u]at j;rw[if_neg Ω,dif_pos Ω]at j;simp;((with_reducible repeat' first|refine al ?_|simp[Pv.look,H.slc,H.ssc]|((first|apply bQ|apply bT|apply bS)<;>intro h<;>try simp at h))<;>(try exact cv));refine H.swapA f Ω p q Ω Ω fun o=>?_;have M:((p:Int)+1)=(p+1:Nat):=Ω
     have K:((q:Int)-1)=(q-1:Nat):=Ω
     simp;(with_reducible repeat' first|((first|apply bQ|apply bT|apply bS)<;>intro h<;>try simp at h)|refine al ?_|simp);rw[M,K];refine bO.whl ((p+1,q-1),Sort.swp c p q) d7 ⟨by rw[ho,f],⟨by simp;omega,by simp;omega,by simp;omega⟩,j⟩ (H.weakC k (by simp[ho,f]) d9)
   ·have t:Sort.scanDown (fun x=>lt c[a]! x) c p q=q:=wD Ω;rw[t]at u;simp only[<-u]at j;rw[if_pos Ω]at j;refine H.retR k (d:=c) f (.inl rfl) ?_;simp[cT,aX,a1,aV];rw[<-j];exact⟨rfl,_,rfl,rfl,f⟩
 ·have w:Sort.scanUp (fun x=> !lt c[a]! x) c i p=p:=Cu Ω;rw[w]at s;simp only[<-s]at j;have t:Sort.scanDown (fun x=>lt c[a]! x) c p i=i:=wD Ω;rw[t,if_pos Ω]at j;refine H.loopA k [1,4,9] (fun(x:Nat)=>[(10,.int .i64 x)]) (fun _=>c) (fun x=>x) (fun x=>x=i) i f rfl hV aL aL d9 ?_;rintro q rfl;simp[Pv.look,H.slc];((with_reducible repeat' first|refine al ?_|simp[Pv.look,H.slc,H.ssc]|((first|apply bQ|apply bT|apply bS)<;>intro h<;>try simp at h))<;>(try exact cv));refine H.retR k (d:=c) f (.inl rfl) ?_;simp[cT,aX,a1,aV];rw[<-j];exact⟨rfl,_,rfl,rfl,f⟩
end
section
open Go Go.Pv
variable {α:Type} [Inhabited α] {S:List α->cM} {n g cf:Nat} {lc b9:List ah} {lt:α->α->Bool}
theorem ahh(H:fB S n g cf lc b9 lt)(d:Array α)(X:d.size=n)(a b:Nat)(n3:a<b)(ae:b<=n)(U:2<=n):
  bK ar 238 [fl g cf lc b9,.int .i64 a,.int .i64 b] (S d.toList) fun r aj=>r= .bool (Sort.partialInsertionSort lt d a b).2/\∃Q,aj=S Q.toList/\Q=(Sort.partialInsertionSort lt d a b).1/\Q.size=n:=by
 obtain⟨R,bq⟩:∃R,R=Sort.partialInsertionSort lt d a b:=⟨_,rfl⟩;rw[<-bq];unfold Sort.partialInsertionSort at bq;have Z:=H.ok d.toList;have k:d.toList.length=n:=by simpa using X
 have V:∀l m,Pv.look (.loc m) (S l).b=none:=fun l=>(H.ok l).obj.1;have hu:∀l m cs,cB (.loc m) cs (S l).b=(S l).b++[(.loc m,cs)]:=fun l m cs=>kL (V l m);have ak:∀m,aB.loc m∉dh (S d.toList):=kD Z.obj;have hle:=H.le;refine bK.mk mixed pa Tryz.func238 amB Ψ Z.obj fun aP cU=>?_;unfold Sn;simp[fl,hu,ak,cV,V];have ai:((a:Int)+1)=(a+1:Nat):=Ω
 (with_reducible repeat' first|refine al ?_|simp);rw[ai];refine H.loopA k [1,2,3] (fun(x:(Nat×Nat)×Array α)=>[(7,.int .i64 x.1.1),(8,.int .i64 x.1.2)]) (·.2) (fun x=>5-x.1.2) (fun x=>x.2.size=n/\(a+1<=x.1.1/\x.1.1<=b/\x.1.2<=5)/\Sort.partialIns lt a b (5-x.1.2) x.1.1 x.2=R) ((a+1,0),d) X ⟨X,⟨Ψ,by simp;omega,Ψ⟩,bq.symm⟩ (by simp[cV,V]) aL aL d9 ?_;rintro⟨⟨i0,s⟩,z⟩ ⟨w,⟨bP,cA,ff⟩,c⟩;simp only at w bP cA ff c;simp;((with_reducible repeat' first|refine al ?_|simp|((first|apply bQ|apply bT|apply bS)<;>intro h<;>try simp at h))<;>(try exact cv))
 ·obtain⟨m,hm⟩:∃m,5-s=m+1:=⟨5-s-1,Ω⟩;rw[hm,Sort.partialIns]at c;refine H.loopA k [1,2,3,8] (fun(x:Nat)=>[(7,.int .i64 x)]) (fun _=>z) (fun x=>b-x) (fun x=>i0<=x/\x<=b/\Sort.scanSorted lt z b x=Sort.scanSorted lt z b i0) i0 w ⟨Ω,Ω,rfl⟩ hV aL aL d9 ?_;rintro i ⟨i1,i2,i3⟩;rw[Sort.scanSorted]at i3;have L:((i:Int)+1)=(i+1:Nat):=Ω
  have M:((i:Int)-1)=(i-1:Nat):=Ω
  have es:((s:Int)+1)=(s+1:Nat):=Ω
  have em:5-(s+1)=m:=Ω
  simp[Pv.look,H.slc];((with_reducible repeat' first|refine al ?_|simp[Pv.look,H.slc]|((first|apply bQ|apply bT|apply bS)<;>intro h<;>try simp at h))<;>(try exact cv))
  ·rw[M];refine H.lessA w i (i-1) Ω Ω fun o=>?_;cases ab:lt z[i]! z[i-1]!
   ·rw[if_pos (by simp[ab];omega)]at i3;simp;(with_reducible repeat' first|refine al ?_|simp);rw[L];refine bO.whl (i+1) Ω ⟨Ω,Ω,i3⟩ (H.weakC k (by simpa using w) d9)
   ·rw[if_neg (by simp[ab])]at i3;simp only[<-i3]at c;rw[if_neg Ω]at c;have Bl:(i:Int)≠b:=Ω
    have W:((i:Int)==b)=false:=by simp;omega
    simp;((with_reducible repeat' first|refine al ?_|simp[Bl,W,Pv.look,H.slc,H.ssc]|((first|apply bQ|apply bT|apply bS)<;>intro h<;>try simp at h))<;>(try exact cv))
    ·rw[if_pos Ω]at c;refine H.retR k (d:=z) w (.inl rfl) ?_;simp[cT,aX,a1,aV];rw[<-c];exact⟨rfl,_,rfl,rfl,w⟩
    ·rw[if_neg Ω]at c;rw[M];refine H.swapA w U i (i-1) Ω Ω fun o=>?_;obtain⟨d2,O⟩:∃d2,d2=Sort.swp z i (i-1):=⟨_,rfl⟩;have s2:d2.size=n:=by rw[O,ho,w]
     rw[<-O];simp only[<-O]at c;by_cases Y:2<=b-i
     ·rw[if_pos Y]at c;have y:(2:Int)<=(b:Int)-i:=Ω
      by_cases K:2<=i-a
      ·rw[if_pos K]at c;have B:(2:Int)<=(i:Int)-a:=Ω
       simp;(with_reducible repeat' first|refine al ?_|simp[B]);rw[M];refine H.loopA k [1,2,3,7,8] (fun(x:Nat×Array α)=>[(9,.int .i64 x.1)]) (·.2) (fun x=>x.1) (fun x=>x.2.size=n/\x.1<=i-1/\Sort.shiftDown lt x.1 x.2=Sort.shiftDown lt (i-1) d2) (i-1,d2) s2 ⟨s2,Ψ,rfl⟩ hV aL aL d9 ?_;rintro⟨j,v⟩ ⟨p,N,u⟩;simp only at p N u;simp[Pv.look,H.slc,H.ssc];((with_reducible repeat' first|refine al ?_|simp[Pv.look,H.slc,H.ssc,y]|((first|apply bQ|apply bT|apply bS)<;>intro h<;>try simp at h))<;>(try exact cv))
       ·obtain⟨j,rfl⟩:∃P,j=P+1:=⟨j-1,Ω⟩;have D:(((j+1:Nat):Int)-1)=(j:Nat):=Ω
        rw[Sort.shiftDown]at u;try rw[D]
        refine H.lessA p (j+1) j Ω Ω fun o=>?_;cases G:lt v[j+1]! v[j]!
        ·rw[if_pos (by simp[G])]at u;rw[<-u]at c;try simp
         try(with_reducible repeat' first|refine al ?_|simp[Pv.look,H.slc,H.ssc,y])
         rw[L];refine H.loopA k [1,2,3,7,8] (fun(x:Nat×Array α)=>[(10,.int .i64 x.1)]) (·.2) (fun x=>b-x.1) (fun x=>x.2.size=n/\(i+1<=x.1/\x.1<=b)/\Sort.shiftUp lt b x.1 x.2=Sort.shiftUp lt b (i+1) v) (i+1,v) p ⟨p,⟨Ψ,by simp;omega⟩,rfl⟩ hV aL aL d9 ?_;rintro⟨q,t⟩ ⟨f,⟨F,E⟩,e⟩;simp only at f F E e;rw[Sort.shiftUp]at e;have eq:((q:Int)-1)=(q-1:Nat):=Ω
         have J:((q:Int)+1)=(q+1:Nat):=Ω
         simp[Pv.look,H.slc,H.ssc];((with_reducible repeat' first|refine al ?_|simp[Pv.look,H.slc,H.ssc]|((first|apply bQ|apply bT|apply bS)<;>intro h<;>try simp at h))<;>(try exact cv))
         ·rw[if_pos Ω]at e;rw[eq];refine H.lessA f q (q-1) Ω Ω fun o=>?_;cases A:lt t[q]! t[q-1]!
          ·rw[if_pos (by simp[A])]at e;rw[<-e]at c;simp;(with_reducible repeat' first|refine al ?_|simp);rw[es];refine bO.whl ((i,s+1),t) d7 ⟨f,⟨by simp;omega,by simp;omega,by simp;omega⟩,by simp only[em];exact c⟩ (H.weakC k (by simpa using f) d9)
          ·rw[if_neg (by simp[A])]at e;simp;(with_reducible repeat' first|refine al ?_|simp[Pv.look,H.slc,H.ssc]);rw[eq];refine H.swapA f Ω q (q-1) Ω Ω fun o=>?_;simp;((with_reducible repeat' first|refine al ?_|simp|((first|apply bQ|apply bT|apply bS)<;>intro h<;>try simp at h))<;>(try exact cv));rw[J];refine bO.whl (q+1,Sort.swp t q (q-1)) d7 ⟨by rw[ho,f],⟨by simp;omega,by simp;omega⟩,e⟩ (H.weakC k (by simp[ho,f]) d9)
         ·rw[if_neg Ω]at e;rw[<-e]at c;rw[es];refine bO.whl ((i,s+1),t) d7 ⟨f,⟨by simp;omega,by simp;omega,by simp;omega⟩,by simp only[em];exact c⟩ (H.weakC k (by simpa using f) d9)
        ·rw[if_neg (by simp[G])]at u;simp;(with_reducible repeat' first|refine al ?_|simp[Pv.look,H.slc,H.ssc]);try rw[D]
         refine H.swapA p U (j+1) j Ω Ω fun o=>?_;simp;((with_reducible repeat' first|refine al ?_|simp|((first|apply bQ|apply bT|apply bS)<;>intro h<;>try simp at h))<;>(try exact cv));try rw[D]
         refine bO.whl (j,Sort.swp v (j+1) j) Ψ ⟨by rw[ho,p],by simp;omega,u⟩ (H.weakC k (by simp[ho,p]) d9)
       ·obtain rfl:j=0:=Ω
        rw[Sort.shiftDown]at u;rw[<-u]at c;try simp
        try(with_reducible repeat' first|refine al ?_|simp[Pv.look,H.slc,H.ssc,y])
        rw[L];refine H.loopA k [1,2,3,7,8] (fun(x:Nat×Array α)=>[(10,.int .i64 x.1)]) (·.2) (fun x=>b-x.1) (fun x=>x.2.size=n/\(i+1<=x.1/\x.1<=b)/\Sort.shiftUp lt b x.1 x.2=Sort.shiftUp lt b (i+1) v) (i+1,v) p ⟨p,⟨Ψ,by simp;omega⟩,rfl⟩ hV aL aL d9 ?_;rintro⟨q,t⟩ ⟨f,⟨F,E⟩,e⟩;simp only at f F E e;rw[Sort.shiftUp]at e;have eq:((q:Int)-1)=(q-1:Nat):=Ω
        have J:((q:Int)+1)=(q+1:Nat):=Ω
        simp[Pv.look,H.slc,H.ssc];((with_reducible repeat' first|refine al ?_|simp[Pv.look,H.slc,H.ssc]|((first|apply bQ|apply bT|apply bS)<;>intro h<;>try simp at h))<;>(try exact cv))
        ·rw[if_pos Ω]at e;rw[eq];refine H.lessA f q (q-1) Ω Ω fun o=>?_;cases A:lt t[q]! t[q-1]!
         ·rw[if_pos (by simp[A])]at e;rw[<-e]at c;simp;(with_reducible repeat' first|refine al ?_|simp);rw[es];refine bO.whl ((i,s+1),t) d7 ⟨f,⟨by simp;omega,by simp;omega,by simp;omega⟩,by simp only[em];exact c⟩ (H.weakC k (by simpa using f) d9)
         ·rw[if_neg (by simp[A])]at e;simp;(with_reducible repeat' first|refine al ?_|simp[Pv.look,H.slc,H.ssc]);rw[eq];refine H.swapA f Ω q (q-1) Ω Ω fun o=>?_;simp;((with_reducible repeat' first|refine al ?_|simp|((first|apply bQ|apply bT|apply bS)<;>intro h<;>try simp at h))<;>(try exact cv));rw[J];refine bO.whl (q+1,Sort.swp t q (q-1)) d7 ⟨by rw[ho,f],⟨by simp;omega,by simp;omega⟩,e⟩ (H.weakC k (by simp[ho,f]) d9)
        ·rw[if_neg Ω]at e;rw[<-e]at c;rw[es];refine bO.whl ((i,s+1),t) d7 ⟨f,⟨by simp;omega,by simp;omega,by simp;omega⟩,by simp only[em];exact c⟩ (H.weakC k (by simpa using f) d9)
      ·rw[if_neg K]at c;have B:¬(2:Int)<=(i:Int)-a:=Ω
       simp;(with_reducible repeat' first|refine al ?_|simp[B,y]);try simp
       try(with_reducible repeat' first|refine al ?_|simp[Pv.look,H.slc,H.ssc,y])
       rw[L];refine H.loopA k [1,2,3,7,8] (fun(x:Nat×Array α)=>[(10,.int .i64 x.1)]) (·.2) (fun x=>b-x.1) (fun x=>x.2.size=n/\(i+1<=x.1/\x.1<=b)/\Sort.shiftUp lt b x.1 x.2=Sort.shiftUp lt b (i+1) d2) (i+1,d2) s2 ⟨s2,⟨Ψ,by simp;omega⟩,rfl⟩ hV aL aL d9 ?_;rintro⟨q,t⟩ ⟨f,⟨F,E⟩,e⟩;simp only at f F E e;rw[Sort.shiftUp]at e;have eq:((q:Int)-1)=(q-1:Nat):=Ω
       have J:((q:Int)+1)=(q+1:Nat):=Ω
       simp[Pv.look,H.slc,H.ssc];((with_reducible repeat' first|refine al ?_|simp[Pv.look,H.slc,H.ssc]|((first|apply bQ|apply bT|apply bS)<;>intro h<;>try simp at h))<;>(try exact cv))
       ·rw[if_pos Ω]at e;rw[eq];refine H.lessA f q (q-1) Ω Ω fun o=>?_;cases A:lt t[q]! t[q-1]!
        ·rw[if_pos (by simp[A])]at e;rw[<-e]at c;simp;(with_reducible repeat' first|refine al ?_|simp);rw[es];refine bO.whl ((i,s+1),t) d7 ⟨f,⟨by simp;omega,by simp;omega,by simp;omega⟩,by simp only[em];exact c⟩ (H.weakC k (by simpa using f) d9)
        ·rw[if_neg (by simp[A])]at e;simp;(with_reducible repeat' first|refine al ?_|simp[Pv.look,H.slc,H.ssc]);rw[eq];refine H.swapA f Ω q (q-1) Ω Ω fun o=>?_;simp;((with_reducible repeat' first|refine al ?_|simp|((first|apply bQ|apply bT|apply bS)<;>intro h<;>try simp at h))<;>(try exact cv));rw[J];refine bO.whl (q+1,Sort.swp t q (q-1)) d7 ⟨by rw[ho,f],⟨by simp;omega,by simp;omega⟩,e⟩ (H.weakC k (by simp[ho,f]) d9)
       ·rw[if_neg Ω]at e;rw[<-e]at c;rw[es];refine bO.whl ((i,s+1),t) d7 ⟨f,⟨by simp;omega,by simp;omega,by simp;omega⟩,by simp only[em];exact c⟩ (H.weakC k (by simpa using f) d9)
     ·rw[if_neg Y]at c;have y:¬(2:Int)<=(b:Int)-i:=Ω
      by_cases K:2<=i-a
      ·rw[if_pos K]at c;have B:(2:Int)<=(i:Int)-a:=Ω
       simp;(with_reducible repeat' first|refine al ?_|simp[B]);rw[M];refine H.loopA k [1,2,3,7,8] (fun(x:Nat×Array α)=>[(9,.int .i64 x.1)]) (·.2) (fun x=>x.1) (fun x=>x.2.size=n/\x.1<=i-1/\Sort.shiftDown lt x.1 x.2=Sort.shiftDown lt (i-1) d2) (i-1,d2) s2 ⟨s2,Ψ,rfl⟩ hV aL aL d9 ?_;rintro⟨j,v⟩ ⟨p,N,u⟩;simp only at p N u;simp[Pv.look,H.slc,H.ssc];((with_reducible repeat' first|refine al ?_|simp[Pv.look,H.slc,H.ssc,y]|((first|apply bQ|apply bT|apply bS)<;>intro h<;>try simp at h))<;>(try exact cv))
       ·obtain⟨j,rfl⟩:∃P,j=P+1:=⟨j-1,Ω⟩;have D:(((j+1:Nat):Int)-1)=(j:Nat):=Ω
        rw[Sort.shiftDown]at u;try rw[D]
        refine H.lessA p (j+1) j Ω Ω fun o=>?_;cases G:lt v[j+1]! v[j]!
        ·rw[if_pos (by simp[G])]at u;rw[<-u]at c;try simp
         try(with_reducible repeat' first|refine al ?_|simp[Pv.look,H.slc,H.ssc,y])
         rw[es];refine bO.whl ((i,s+1),v) d7 ⟨p,⟨by simp;omega,by simp;omega,by simp;omega⟩,by simp only[em];exact c⟩ (H.weakC k (by simpa using p) d9)
        ·rw[if_neg (by simp[G])]at u;simp;(with_reducible repeat' first|refine al ?_|simp[Pv.look,H.slc,H.ssc]);try rw[D]
         refine H.swapA p U (j+1) j Ω Ω fun o=>?_;simp;((with_reducible repeat' first|refine al ?_|simp|((first|apply bQ|apply bT|apply bS)<;>intro h<;>try simp at h))<;>(try exact cv));try rw[D]
         refine bO.whl (j,Sort.swp v (j+1) j) Ψ ⟨by rw[ho,p],by simp;omega,u⟩ (H.weakC k (by simp[ho,p]) d9)
       ·obtain rfl:j=0:=Ω
        rw[Sort.shiftDown]at u;rw[<-u]at c;try simp
        try(with_reducible repeat' first|refine al ?_|simp[Pv.look,H.slc,H.ssc,y])
        rw[es];refine bO.whl ((i,s+1),v) d7 ⟨p,⟨by simp;omega,by simp;omega,by simp;omega⟩,by simp only[em];exact c⟩ (H.weakC k (by simpa using p) d9)
      ·rw[if_neg K]at c;have B:¬(2:Int)<=(i:Int)-a:=Ω
       simp;((with_reducible repeat' first|refine al ?_|simp[B,y]|((first|apply bQ|apply bT|apply bS)<;>intro h<;>try simp at h))<;>(try exact cv));done
  ·rw[if_neg d7]at i3;simp only[<-i3]at c;rw[if_pos Ω]at c;refine H.retR k (d:=z) w (.inl rfl) ?_;simp[cT,aX,a1,aV];rw[<-c];exact⟨rfl,_,rfl,rfl,w⟩
 ·have:5-s=0:=Ω
  rw[this,Sort.partialIns]at c;refine H.retR k (d:=z) w (.inl rfl) ?_;simp[cT,aX,a1,aV];rw[<-c];exact⟨rfl,_,rfl,rfl,w⟩
end
section
open Go Go.Pv
variable {α:Type} [Inhabited α] {S:List α->cM} {n g cf:Nat} {lc b9:List ah} {lt:α->α->Bool}
def fG(S:List α->cM)(d:Array α)(v:Nat):cM:=⟨(.obj 901,[.int .i64 v])::(S d.toList).b,(S d.toList).e⟩
def tu(S:List α->cM)(m:Nat):Prop:= ∀l,Pv.look (.obj m) (S l).b=none/\Pv.look (.obj m) (S l).e=none
theorem oG(H:fB S n g cf lc b9 lt)(d:Array α)(v:Nat):ek (fG S d v):=by
 have h:=H.ok d.toList;have b:∀k,inObs (S d.toList) k->inObs (fG S d v) k:=fun k a=>by
  rcases a with a|a
  ·refine .inl ?_;simp only[fG,Pv.look];split
   ·rfl
   ·exact a
  ·exact .inr a
 refine⟨⟨fun m=>?_,h.obj.2⟩,fun k cs a=>?_,fun k o ak xs c=>kB b _ (h.ke k o ak xs c)⟩
 ·simp[fG,Pv.look,h.obj.1 m]
 ·simp only[fG,Pv.look]at a;split at a
  ·cases a;simp[aA,av]
  ·exact kB b _ (h.kb k cs a)
theorem tU(d:Array α)(v v':Nat):Same (fG S d v) (fG S d v'):=⟨fun k=>by simp only[fG,Pv.look];split<;>rfl,fun _=>rfl⟩
theorem LD(H:fB S n g cf lc b9 lt)(u:tu S 901)(d:Array α)(A:d.size=n)(a b v:Nat)(K:a<n)(ae:b<n)(M:v<=1000):
  bK ar 256 [fl g cf lc b9,.int .i64 a,.int .i64 b,.ptr (.obj 901) 0] (fG S d v) fun r h=>r= .tuple [.int .i64 (Sort.order2 lt d a b v).1,.int .i64 (Sort.order2 lt d a b v).2.1]/\h=fG S d (Sort.order2 lt d a b v).2.2:=by
 have z:=H.ok d.toList;have s:d.toList.length=n:=by simpa using A
 have f:∀l m,Pv.look (.loc m) (S l).b=none:=fun l=>(H.ok l).obj.1;have hu:∀l m cs,cB (.loc m) cs (S l).b=(S l).b++[(.loc m,cs)]:=fun l m cs=>kL (f l m);have ak:∀m,aB.loc m∉dh (S d.toList):=kD z.obj;have p:∀l,Pv.look (.obj 901) (S l).b=none:=fun l=>(u l).1;have G:∀l,Pv.look (.obj 901) (S l).e=none:=fun l=>(u l).2;have hle:=H.le;have j:=oG H d v;obtain⟨R,bq⟩:∃R,R=Sort.order2 lt d a b v:=⟨_,rfl⟩;rw[<-bq];unfold Sort.order2 at bq;refine bK.mk mixed pa Tryz.func256 amA Ψ j.obj fun L J=>?_;unfold Sm;have i:aB.loc 0∉dh (fG S d v):=kD j.obj 0;generalize F:dh (fG S d v)=ob at i⊢;unfold fG;simp[fl,hu,i,cV,f,Pv.look,cB];rw[H.slc];refine cC.ob (H.less d.toList s b a _ _ (AB Ω) (AB Ω)) (H.ok _) (fun k cs c=>?_) (fun _ _ c=>c) (by simp[av,aA,H.klc d.toList s]) ?_
 ·simp only[Pv.look];split
  ·rename_i e;subst e;rw[p]at c;cases c
  ·rw[cV,c]
 rintro r h ⟨rfl,rfl⟩;refine⟨Same.refl _,?_⟩;have hw:bZ (S d.toList).b ((aB.obj 901,[ah.int .i64 v])::((S d.toList).b++[(aB.loc 0,[ah.func g lc,ah.func cf b9])]))=[(aB.obj 901,[ah.int .i64 v]),(aB.loc 0,[ah.func g lc,ah.func cf b9])]:=by simp only[bZ,p];rw[js,hy];simp[bZ,f]
 rw[hw,hy];have q:∀(t:List (Nat×ah)) (o:List aB) (v':Nat) (D:List ah) (x y:Nat),Pv.get 8 t= .int .i64 x->Pv.get 9 t= .int .i64 y->R=(x,y,v')->
   cO [.tmp 8,.tmp 9] (fG S d v) (fun r h=>r= .tuple [.int .i64 R.1,.int .i64 R.2.1]/\h=fG S d R.2.2) .ret ⟨t,(aB.obj 901,[.int .i64 v'])::(aB.loc 0,D)::(S d.toList).b,(S d.toList).e,1,o⟩:=by
  rintro t o v' D x y c B rfl;refine cO.at (fG S d v') (.inl rfl) (oG H d v') (tU _ _ _) (fun k cs ax=>?_) (fun _ _ ax=>ax) ?_
  ·simp only[fG,Pv.look]at ax⊢;split at ax
   ·rename_i e;rw[if_pos e];exact ax
   ·rename_i e;rw[if_neg e];split
    ·rename_i E;subst E;rw[f]at ax;cases ax
    ·exact ax
  ·simp[cT,aX,a1,aV,c,B]
 cases c:lt d[b]! d[a]! with
 |true=>
  rw[if_pos c]at bq;simp[Pv.look,cB];(with_reducible repeat' first|refine al ?_|simp[Pv.look,cB]);have w:((v:Int)+1)=(v+1:Nat):=Ω
  rw[w];exact q _ _ (v+1) _ b a rfl rfl bq
 |false=>rw[if_neg (by simp[c])]at bq;simp[Pv.look,cB];exact q _ _ v _ a b rfl rfl bq
theorem XO{s a:cM}{f:Nat}{args:List ah}{r:ah}(m:bK ar f args s fun g i=>g=r/\i=a)(c:ek s)(e:Same s a)(l:aA (inObs s) args){t:List (Nat×ah)}{D:List ah}{o:List aB}{d:aW Nat}{K:bh->Prop}
  (h:∀o,K ⟨eP d r t,(.loc 0,D)::a.b,a.e,1,o⟩):cC ar f args ⟨t,s.b++[(.loc 0,D)],s.e,1,o⟩ d K:=by
 refine cC.ob m c (fun k cs b=>by rw[cV,b]) (fun _ _ b=>b) l ?_;rintro r a ⟨rfl,rfl⟩;refine⟨e,?_⟩;have j:bZ s.b (s.b++[(.loc 0,D)])=[(.loc 0,D)]:=by rw[js,hy];simp[bZ,c.obj.1 0]
 have n:bZ s.e s.e=[]:=hy _;simp only[j,n];exact h _
theorem E2{s a:cM}{f:Nat}{args:List ah}{r:ah}(n:bK ar f args s fun g i=>g=r/\i=a)(c:ek s)(e:Same s a)(l:aA (inObs s) args){t:List (Nat×ah)}{D:List ah}{o:List aB}{d:aW Nat}{K:bh->Prop}
  (h:∀o,K ⟨eP d r t,(.loc 0,D)::a.b,a.e,1,o⟩):cC ar f args ⟨t,(.loc 0,D)::s.b,s.e,1,o⟩ d K:=by
 refine cC.ob n c (fun k cs b=>?_) (fun _ _ b=>b) l ?_
 ·cases k with
  |loc m=>rw[c.obj.1 m]at b;cases b
  |obj m=>simpa[Pv.look]using b
 rintro r a ⟨rfl,rfl⟩;refine⟨e,?_⟩;have j:bZ s.b ((.loc 0,D)::s.b)=[(.loc 0,D)]:=by have:=js s.b [(aB.loc 0,D)] s.b;rw[hy]at this;simpa[bZ,c.obj.1 0]using this
 have p:bZ s.e s.e=[]:=hy _;simp only[j,p];exact h _
theorem Ca{d:Array α}{a b v n:Nat}(c:a<n)(ae:b<n):(Sort.order2 lt d a b v).1<n/\(Sort.order2 lt d a b v).2.1<n/\(Sort.order2 lt d a b v).2.2<=v+1:=by unfold Sort.order2;split<;>simp<;>omega
theorem vW(H:fB S n g cf lc b9 lt){d:Array α}(b:d.size=n){v:Nat}:av (inObs (fG S d v)) (fl g cf lc b9)/\av (inObs (fG S d v)) (.ptr (.obj 901) 0):=by
 refine⟨tl (fun k a=>?_) _ (H.kdata (lk:=d.toList) (by simpa using b)),by simp[av,inObs,fG,Pv.look]⟩;rcases a with a|a
 ·refine .inl ?_;simp only[fG,Pv.look];split
  ·rfl
  ·exact a
 ·exact .inr a
theorem ZA(H:fB S n g cf lc b9 lt){d:Array α}{v v':Nat}{b:List bU}{Q:ah->cM->Prop}{t:List (Nat×ah)}{D:List ah}{o:List aB}(h:cT ⟨t,(.loc 0,D)::(fG S d v').b,(S d.toList).e,1,o⟩ b fun r=>av (inObs (fG S d v')) r/\Q r (fG S d v')):
  cO b (fG S d v) Q .ret ⟨t,(.loc 0,D)::(fG S d v').b,(S d.toList).e,1,o⟩:=by
 refine cO.at (fG S d v') (.inl rfl) (oG H d v') (tU _ _ _) (fun k cs a=>?_) (fun _ _ ax=>ax) h;cases k with
 |loc m=>rw[(oG H d v').obj.1 m]at a;cases a
 |obj m=>simpa[Pv.look]using a
theorem LA(H:fB S n g cf lc b9 lt)(l:tu S 901)(d:Array α)(e:d.size=n)(a b c v:Nat)(w:a<n)(ae:b<n)(ax:c<n)(L:v<=900):
  bK ar 253 [fl g cf lc b9,.int .i64 a,.int .i64 b,.int .i64 c,.ptr (.obj 901) 0] (fG S d v) fun r E=>r= .int .i64 (Sort.median lt d a b c v).1/\E=fG S d (Sort.median lt d a b c v).2:=by
 have t:=oG H d v;have q:∀v m,Pv.look (.loc m) (fG S d v).b=none:=fun v=>(oG H d v).obj.1;have z:∀v m cs,cB (.loc m) cs (fG S d v).b=(fG S d v).b++[(.loc m,cs)]:=fun v m cs=>kL (q v m);have y:aB.loc 0∉dh (fG S d v):=kD t.obj 0;obtain⟨R,bq⟩:∃R,R=Sort.median lt d a b c v:=⟨_,rfl⟩;rw[<-bq];unfold Sort.median at bq;have f:=Ca (lt:=lt) (d:=d) (v:=v) w ae;have j:=LD H l d e a b v w ae Ω;generalize Sort.order2 lt d a b v=D at f j bq;obtain⟨p,s,v1⟩:=D;simp only at f j bq;have h:=Ca (lt:=lt) (d:=d) (v:=v1) f.2.1 ax;have k:=LD H l d e s c v1 f.2.1 ax Ω;generalize Sort.order2 lt d s c v1=B at h k bq;obtain⟨x,G,v2⟩:=B;simp only at h k bq;have u:=Ca (lt:=lt) (d:=d) (v:=v2) f.1 h.1;have i:=LD H l d e p x v2 f.1 h.1 Ω;generalize Sort.order2 lt d p x v2=A at u i bq;obtain⟨F,M,v3⟩:=A;simp only at u i bq;refine bK.mk mixed pa Tryz.func253 amy Ψ t.obj fun K J=>?_;unfold Sk;simp[fl,z,y,cV,q];simp only[ja H,H.slc,H.ssc,iQ];refine XO j (oG H d v) (tU _ _ _) (by simp[av,aA,(vW H e).1];exact(vW H e).2) fun o=>?_;simp[Pv.look];simp only[ja H,H.slc,H.ssc,iQ];refine E2 k (oG H d v1) (tU _ _ _) (by simp[av,aA,(vW H e).1];exact(vW H e).2) fun o=>?_;simp[Pv.look];simp only[ja H,H.slc,H.ssc,iQ];refine E2 i (oG H d v2) (tU _ _ _) (by simp[av,aA,(vW H e).1];exact(vW H e).2) fun o=>?_;simp;refine ZA H ?_;simp[cT,aX,a1,aV];rw[bq];exact⟨rfl,rfl⟩
theorem LB(H:fB S n g cf lc b9 lt)(l:tu S 901)(d:Array α)(b:d.size=n)(a v:Nat)(u:a+1<n)(s:1<=a)(p:v<=900):
  bK ar 252 [fl g cf lc b9,.int .i64 a,.ptr (.obj 901) 0] (fG S d v) fun r j=>r= .int .i64 (Sort.medianAdjacent lt d a v).1/\j=fG S d (Sort.medianAdjacent lt d a v).2:=by
 have e:=oG H d v;have c:∀v m,Pv.look (.loc m) (fG S d v).b=none:=fun v=>(oG H d v).obj.1;have h:∀v m cs,cB (.loc m) cs (fG S d v).b=(fG S d v).b++[(.loc m,cs)]:=fun v m cs=>kL (c v m);have f:aB.loc 0∉dh (fG S d v):=kD e.obj 0;have hle:=H.le;have i:=LA H l d b (a-1) a (a+1) v Ω Ω Ω p;unfold Sort.medianAdjacent;refine bK.mk mixed pa Tryz.func252 amx Ψ e.obj fun w t=>?_;unfold Sj;have k:((a:Int)-1)=(a-1:Nat):=Ω
 have q:((a:Int)+1)=(a+1:Nat):=Ω
 simp[fl,h,f,cV,c];(with_reducible repeat' first|refine al ?_|simp);simp only[ja H,H.slc,H.ssc,iQ,k,q];refine XO i (oG H d v) (tU _ _ _) (by simp[av,aA,(vW H b).1];exact(vW H b).2) fun o=>?_;simp;refine ZA H ?_;simp[cT,aX,a1,aV]
theorem XP{m:Nat}(h:tu S m)(l:List α):aB.obj m∉dh (S l):=fun hm=>by
 rcases Wa hm with J|J
 ·rw[(h l).1]at J;cases J
 ·rw[(h l).2]at J;cases J
theorem ET{d:Array α}{a b c v n:Nat}(g:a<n)(ae:b<n)(ax:c<n):(Sort.median lt d a b c v).1<n/\(Sort.median lt d a b c v).2<=v+3:=by have f:=Ca (lt:=lt) (d:=d) (v:=v) g ae;have h:=Ca (lt:=lt) (d:=d) (v:=(Sort.order2 lt d a b v).2.2) f.2.1 ax;have e:=Ca (lt:=lt) (d:=d) (v:=(Sort.order2 lt d (Sort.order2 lt d a b v).2.1 c (Sort.order2 lt d a b v).2.2).2.2) f.1 h.1;refine⟨e.2.1,jM e.2.2 ?_⟩;omega
def Bm:Sort.Hint->Int
 | .unknown=>0
 | .increasing=>1
 | .decreasing=>2
theorem ag7(H:fB S n g cf lc b9 lt)(s:tu S 901)(d:Array α)(B:d.size=n)(a b:Nat)(n3:a<b)(ae:b<=n):
  bK ar 236 [fl g cf lc b9,.int .i64 a,.int .i64 b] (S d.toList) fun r U=>r= .tuple [.int .i64 (Sort.choosePivot lt d a b).1,.int .i64 (Bm (Sort.choosePivot lt d a b).2)]/\U=S d.toList:=by
 have ag:=H.ok d.toList;have aq:d.toList.length=n:=by simpa using B
 have A:∀l m,Pv.look (.loc m) (S l).b=none:=fun l=>(H.ok l).obj.1;have hu:∀l m cs,cB (.loc m) cs (S l).b=(S l).b++[(.loc m,cs)]:=fun l m cs=>kL (A l m);have ak:∀m,aB.loc m∉dh (S d.toList):=kD ag.obj;have y:∀l,Pv.look (.obj 901) (S l).b=none:=fun l=>(s l).1;have Q:∀l,Pv.look (.obj 901) (S l).e=none:=fun l=>(s l).2;have hle:=H.le;have P:=XP s d.toList;obtain⟨R,bq⟩:∃R,R=Sort.choosePivot lt d a b:=⟨_,rfl⟩;rw[<-bq];unfold Sort.choosePivot at bq;refine bK.mk mixed pa Tryz.func236 amv Ψ ag.obj fun aP cU=>?_;unfold Sh;have O:∀l D cs,cB (.obj 901) cs ((S l).b++[(.loc 0,D)])=(S l).b++[(.loc 0,D),(.obj 901,cs)]:=fun l D cs=>by rw[CH (y l)];rfl
 obtain⟨q,bz⟩:∃q,q=(b-a)/4:=⟨_,rfl⟩;have Y:oz.wrap (((b:Int)-a).tdiv 4)=(q:Nat):=by rw[show((b:Int)-a)=((b-a:Nat):Int) by omega,Int.tdiv_eq_ediv_of_nonneg Ω,lT _ Ω];omega
 simp[fl,hu,O,ak,P,cV,A,y,Q,Pv.look,cB];have z:∀(t:List (Nat×ah)) (o:List aB) (cb:List (aB×List ah)) (x:Nat) (h:Sort.Hint),Pv.get 6 t= .int .i64 x->Pv.get 7 t= .int .i64 (Bm h)->R=(x,h)->(∀k cs,Pv.look k (S d.toList).b=some cs->Pv.look k cb=some cs)->
   cO [.tmp 6,.tmp 7] (S d.toList) (fun r U=>r= .tuple [.int .i64 R.1,.int .i64 (Bm R.2)]/\U=S d.toList) .ret ⟨t,cb,(S d.toList).e,1,o⟩:=by
  rintro t o cb x h j aN rfl ej;refine cO.at (S d.toList) (.inl rfl) ag (Same.refl _) ej (fun _ _ ax=>ax) ?_;simp[cT,aX,a1,aV,j,aN]
 have F:∀(D:List ah) (v:Nat) k cs,Pv.look k (S d.toList).b=some cs->Pv.look k ((.loc 0,D)::(fG S d v).b)=some cs:=fun D v k cs h=>by
  simp only[fG,Pv.look];split
  ·rename_i e;subst e;rw[A]at h;cases h
  ·split
   ·rename_i e;subst e;rw[y]at h;cases h
   ·exact h
 have U4:∀{f:Nat} {args:List ah} {r:ah} {v:Nat},(bK ar f args (fG S d 0) fun eF dK=>eF=r/\dK=fG S d v)->aA (inObs (fG S d 0)) args->∀{t:List (Nat×ah)} {D:List ah} {o:List aB} {X:aW Nat} {K:bh->Prop},(∀o,K ⟨eP X r t,(.loc 0,D)::(fG S d v).b,(S d.toList).e,1,o⟩)->
   cC ar f args ⟨t,(S d.toList).b++[(.loc 0,D),(.obj 901,[.int .i64 0])],(S d.toList).e,1,o⟩ X K:=by
  intro f args r v aG p t D o X K h;refine cC.ob aG (oG H d 0) (fun k cs j=>?_) (fun _ _ j=>j) p ?_
  ·simp only[fG,Pv.look]at j;rw[cV];split at j
   ·rename_i e;subst e;rw[y];simp[Pv.look];simpa using j
   ·rw[j]
  rintro r U ⟨rfl,rfl⟩;refine⟨tU _ _ _,?_⟩;have ai:bZ (fG S d 0).b ((S d.toList).b++[(.loc 0,D),(.obj 901,[.int .i64 0])])=[(.loc 0,D)]:=by
   rw[js];have:bZ (fG S d 0).b (S d.toList).b=[]:=P4 _ _ fun k x hm=>by
    have:=v8 hm;simp only[fG,Pv.look];split
    ·rfl
    ·exact this
   rw[this];simp[bZ,fG,Pv.look,A]
  have aC:bZ (fG S d 0).e (S d.toList).e=[]:=hy _;simp only[ai,aC];exact h _
 have p:=fun(v:Nat)=>(vW H B (v:=v));have f1:((a:Int)+q)=(a+q:Nat):=Ω
 have f2:((a:Int)+q*2)=(a+q*2:Nat):=Ω
 have f3:((a:Int)+q*3)=(a+q*3:Nat):=Ω
 dsimp only at bq;rw[<-bz,Nat.mul_one]at bq;by_cases mu:b-a<8
 ·have V:¬(8:Int)<=(b:Int)-a:=Ω
  (with_reducible repeat' first|refine al ?_|simp[V,Y,hu,O,ak,P,cV,A,y,Q,Pv.look,cB]);rw[f2];refine z _ _ _ (a+q*2) .increasing rfl rfl (by rw[bq,if_neg Ω];simp) (fun k cs h=>by rw[cV,h])
 ·have V:(8:Int)<=(b:Int)-a:=Ω
  by_cases as4:b-a<50
  ·have LJ:¬(50:Int)<=(b:Int)-a:=Ω
   (with_reducible repeat' first|refine al ?_|simp[V,LJ,Y,hu,O,ak,P,cV,A,y,Q,Pv.look,cB]);simp only[ja H,H.slc,H.ssc,iQ,f1,f2,f3];have E:=LA H s d B (a+q) (a+q*2) (a+q*3) 0 Ω Ω Ω Ω;have G:=ET (lt:=lt) (d:=d) (a:=a+q) (b:=a+q*2) (c:=a+q*3) (v:=0) (n:=n) Ω Ω Ω;rw[if_pos Ω,if_neg Ω]at bq;generalize Sort.median lt d (a+q) (a+q*2) (a+q*3) 0=m at E G bq;obtain⟨x,v⟩:=m;refine U4 E (by simp[av,aA,(p 0).1];exact(p 0).2) fun o=>?_;have u:((v:Int)==0)=decide (v=0):=by rw[ry];simp
   have J:((v:Int)==12)=decide (v=12):=by rw[ry];simp;omega
   simp[Pv.look,fG];rcases(by omega:v=0\/v=12\/(v≠0/\v≠12))with i|i|i
   ·have j:((v:Int)==0)=true:=by rw[u];simp[i]
    (with_reducible repeat' first|refine al ?_|simp[j]);all_goals exact z _ _ _ x .increasing rfl rfl (by rw[bq];simp[i]) (F _ v)
   ·have j:((v:Int)==0)=false:=by rw[u];simp[i]
    have w:((v:Int)==12)=true:=by rw[J];simp[i]
    (with_reducible repeat' first|refine al ?_|simp[j,w]);all_goals exact z _ _ _ x .decreasing rfl rfl (by rw[bq];simp[i]) (F _ v)
   ·have j:((v:Int)==0)=false:=by rw[u];simp[i.1]
    have w:((v:Int)==12)=false:=by rw[J];simp[i.2]
    (with_reducible repeat' first|refine al ?_|simp[j,w]);all_goals exact z _ _ _ x .unknown rfl rfl (by rw[bq];simp[i]) (F _ v)
  ·have LJ:(50:Int)<=(b:Int)-a:=Ω
   (with_reducible repeat' first|refine al ?_|simp[V,LJ,Y,hu,O,ak,P,cV,A,y,Q,Pv.look,cB]);simp only[ja H,H.slc,H.ssc,iQ,f1,f2,f3];rw[if_pos Ω,if_pos Ω]at bq;have E:=LB H s d B (a+q) 0 Ω Ω Ω;have N:=ET (lt:=lt) (d:=d) (a:=a+q-1) (b:=a+q) (c:=a+q+1) (v:=0) (n:=n) Ω Ω Ω;change (Sort.medianAdjacent lt d (a+q) 0).1<n/\(Sort.medianAdjacent lt d (a+q) 0).2<=0+3 at N;generalize Sort.medianAdjacent lt d (a+q) 0=m1 at E N bq;obtain⟨tL,v1⟩:=m1;simp only at E N bq;have G:=LB H s d B (a+q*2) v1 Ω Ω Ω;have M:=ET (lt:=lt) (d:=d) (a:=a+q*2-1) (b:=a+q*2) (c:=a+q*2+1) (v:=v1) (n:=n) Ω Ω Ω;change (Sort.medianAdjacent lt d (a+q*2) v1).1<n/\(Sort.medianAdjacent lt d (a+q*2) v1).2<=v1+3 at M;generalize Sort.medianAdjacent lt d (a+q*2) v1=m2 at G M bq;obtain⟨Am,v2⟩:=m2;simp only at G M bq;have Z:=LB H s d B (a+q*3) v2 Ω Ω Ω;have L:=ET (lt:=lt) (d:=d) (a:=a+q*3-1) (b:=a+q*3) (c:=a+q*3+1) (v:=v2) (n:=n) Ω Ω Ω;change (Sort.medianAdjacent lt d (a+q*3) v2).1<n/\(Sort.medianAdjacent lt d (a+q*3) v2).2<=v2+3 at L;generalize Sort.medianAdjacent lt d (a+q*3) v2=m3 at Z L bq;obtain⟨tM,v3⟩:=m3;simp only at Z L bq;have W:=LA H s d B tL Am tM v3 N.1 M.1 L.1 Ω;have Wz:=ET (lt:=lt) (d:=d) (v:=v3) N.1 M.1 L.1;generalize Sort.median lt d tL Am tM v3=m4 at W Wz bq;obtain⟨x,v⟩:=m4;simp only at W Wz bq;refine U4 E (by simp[av,aA,(p 0).1];exact(p 0).2) fun o=>?_;simp[Pv.look];simp only[ja H,H.slc,H.ssc,iQ,f1,f2,f3];refine E2 G (oG H d v1) (tU _ _ _) (by simp[av,aA,(p v1).1];exact(p v1).2) fun o=>?_;simp[Pv.look];simp only[ja H,H.slc,H.ssc,iQ,f1,f2,f3];refine E2 Z (oG H d v2) (tU _ _ _) (by simp[av,aA,(p v2).1];exact(p v2).2) fun o=>?_;simp[Pv.look];simp only[ja H,H.slc,H.ssc,iQ,f1,f2,f3];refine E2 W (oG H d v3) (tU _ _ _) (by simp[av,aA,(p v3).1];exact(p v3).2) fun o=>?_;have u:((v:Int)==0)=decide (v=0):=by rw[ry];simp
   have J:((v:Int)==12)=decide (v=12):=by rw[ry];simp;omega
   simp[Pv.look,fG];rcases(by omega:v=0\/v=12\/(v≠0/\v≠12))with i|i|i
   ·have j:((v:Int)==0)=true:=by rw[u];simp[i]
    (with_reducible repeat' first|refine al ?_|simp[j]);all_goals exact z _ _ _ x .increasing rfl rfl (by rw[bq];simp[i]) (F _ v)
   ·have j:((v:Int)==0)=false:=by rw[u];simp[i]
    have w:((v:Int)==12)=true:=by rw[J];simp[i]
    (with_reducible repeat' first|refine al ?_|simp[j,w]);all_goals exact z _ _ _ x .decreasing rfl rfl (by rw[bq];simp[i]) (F _ v)
   ·have j:((v:Int)==0)=false:=by rw[u];simp[i.1]
    have w:((v:Int)==12)=false:=by rw[J];simp[i.2]
    (with_reducible repeat' first|refine al ?_|simp[j,w]);all_goals exact z _ _ _ x .unknown rfl rfl (by rw[bq];simp[i]) (F _ v)
end
end Go.Proofs.YtfeencekjcjalaaGreatDoor
