/- Regions that draw their order, I: abstract states as functions, effects, and what an instruction does to them. -/
import Derived.WalkKit
import Derived.Orders
import Derived.KernelRfl
import Derived.IntWalk
import Derived.Laws.StructEq
import Derived.ChangeKeysEq
import Derived.MapKept
import Derived.ArgAppend
import Derived.Laws.OwnMore
set_option linter.all false
set_option maxHeartbeats 4000000
set_option maxRecDepth 4000
namespace Go
def ac{p:Prop}(h:p:=by kernel_rfl):p:=h
def Ω{p:Prop}(h:p:=by omega):p:=h
def Ψ{p:Prop}(h:p:=by simp):p:=h
end Go
open Array renaming getElem?_toList->nV
open Bool renaming and_eq_true->bN,false_eq_true->hX
open ByteArray renaming empty->TO,ext->TP,push->XS,size->XT
open Go renaming Program->bp,TypeId->ey
open Go.ByteArray renaming toList_eq->TQ
open Go.IntKind renaming i64->nW
open Go.Op renaming bytesLess->fX
open Go.Region renaming wanted->kr
open Go.Result renaming andThen_ok->dV
open Go.Sem renaming run_bind->dQ,run_pure->eP
open Go.Value renaming cells->jV,ownBlock->jW
open Go.Value.pointer renaming injEq->X0
open Go.World.grownBy renaming refl->TU
open List renaming getElem?_append_left->ks,getElem?_eq_getElem->cl,getElem?_eq_some_iff->eQ,length->lE,length_append->kt,length_cons->jX,length_map->k8,map_cons->gG,mem_append->lF,mem_cons->gw,mem_map->k9,take_of_length_le->lG
open List.cons renaming injEq->JY
open Nat renaming add_mul->ku,le_refl->di,le_trans->jB,mul_le_mul_right->kv
open Option renaming isSome_iff_exists->dt,map_eq_some_iff->ih
open Option.some renaming injEq->dq
open Prod.mk renaming injEq->ho
open _root_ renaming False->c1,Option->aT,UInt8->cF,beq_iff_eq->c2,congrArg->eR,decide_eq_true_eq->e3,if_neg->bH
namespace Go.Pv
section
open Go Go.RowKit
inductive ar where
 |loc (s:Nat)
 |obj (n:Nat)
 deriving DecidableEq,Inhabited
inductive hI where
 |no
 |nil
 |own (k:ar)
 |tr (k:ar) (j:Nat)
 |lo (k:ar)
 deriving DecidableEq,Inhabited
inductive aa where
 |junk
 |int (k:IntKind) (n:Int)
 |bool (b:Bool)
 |str (s:List cF)
 |slice (sz:Nat) (tag:hI) (xs:List aa)
 |agg (cs:List aa)
 |ptr (key:ar) (off:Nat)
 |eptr (x:aa)
 |iface (t:Nat) (x:aa)
 |nilp
 |tuple (aJ:List aa)
 |func (f:Nat) (cx:List aa)
 |gmap (key:ar)
 |row (sz:Nat) (key:ar) (n:Nat)
 |rptr (sz:Nat) (key:ar) (n i f:Nat)
 |hdm (clock:Nat) (borns:List Nat)
 |hdi (since:Nat) (seen:List Nat) (last:Nat)
 |cst (v:Value)
 deriving Inhabited
structure aC where
 A:Nat->Nat->Prop
 bx:ar->aT Nat
 ow:ar->aT (Nat×Value)
 tr:ar->Nat->Nat->Prop
def cH:Nat:=68719476736
def gS(w:World)(A:Nat->Nat->Prop)(b:Nat):Nat->List Value->Prop
 |_,[]=>True
 |off,u::us=>(A b off/\w.cell? ⟨b,off,none⟩=some u)/\gS w A b (off+1) us
def shape(w:World)(b:Nat):aT (Nat×ey×(Nat×Nat)):=
 match w.heap[b]? with
 |some (.cells cur el fz)=>some (cur.size,el,fz)
 |_=>none
def q4{w w':World}{b:Nat}(h:w'.heap[b]? =w.heap[b]?):shape w' b=shape w b:=by unfold shape;rw[h]
mutual
def bJ(t:Bool)(w:World)(A:Nat->Nat->Prop)(F:Nat->Prop):aa->Value->Prop
 | .int k n,v=>v= .int k n
 | .bool b,v=>v= .bool b
 | .str s,v=>v= .string ⟨s.toArray⟩/\s.length<=cH
 | .slice sz _ xs,v=> ∃a cap,v= .slice a xs.length cap/\xs.length<=cap/\(cap<=maxLen/\xs.length<=cH)/\
   (xs=[]\/ ∃b off us G,a=some ⟨b,off,none⟩/\F b/\(∀c,G c->F c/\(t=true->c≠b))/\gS w A b off us/\(t=true->off=0/\0<us.length/\∃el,shape w b=some (cap*sz,el,(0,0)))/\ga t w A G sz xs us)
 | .agg cs,v=> ∃us:Array Value,v= .agg us/\gI t w A F cs us.toList
 |_,_=>c1
def gI(t:Bool)(w:World)(A:Nat->Nat->Prop)(F:Nat->Prop):List aa->List Value->Prop
 |[],us=>us=[]
 |c::cs,us=> ∃u e a d,us=u::e/\((∀b,a b->F b)/\(∀b,d b->F b)/\(t=true->∀b,a b->¬d b))/\(bJ t w A a c u/\u.oneCell'=true)/\gI t w A d cs e
def ga(t:Bool)(w:World)(A:Nat->Nat->Prop)(F:Nat->Prop)(sz:Nat):List aa->List Value->Prop
 |[],us=>us=[]
 |x::xs,us=> ∃u e a d,us=u.cells.toList++e/\((∀b,a b->F b)/\(∀b,d b->F b)/\(t=true->∀b,a b->¬d b))/\(bJ t w A a x u/\u.cells.size=sz/\(∀c∈u.cells.toList,c.oneCell'=true))/\ga t w A d sz xs e
end
mutual
def aw(w:World)(ν:aC):aa->Value->Prop
 | .junk,_=>True
 | .int k n,v=>v= .int k n
 | .bool b,v=>v= .bool b
 | .str s,v=>v= .string ⟨s.toArray⟩/\s.length<=cH
 | .slice sz tag xs,v=>
   (∃a cap,v= .slice a xs.length cap/\xs.length<=cap/\(cap<=maxLen/\xs.length<=cH)/\(xs=[]\/ ∃b off us,a=some ⟨b,off,none⟩/\gS w ν.A b off us/\b7 w ν sz xs us))/\
   (tag= .nil->v= .slice none 0 0)/\
   (∀g,tag= .own g->∃n u,ν.ow g=some (n,u)/\xs.length<=n/\(xs.length=n->v=u))/\
   (∀k j,tag= .tr k j->bJ true w ν.A (ν.tr k j) (.slice sz tag xs) v)/\(∀k,tag= .lo k->bJ false w ν.A (ν.tr k 0) (.slice sz tag xs) v)
 | .agg cs,v=> ∃us:Array Value,v= .agg us/\bL w ν cs us.toList
 | .ptr key off,v=> ∃b,ν.bx key=some b/\v= .pointer (some ⟨b,off,none⟩)
 | .eptr x,v=> ∃b off u,v= .pointer (some ⟨b,off,none⟩)/\aw w ν x u/\gS w ν.A b off u.cells.toList
 | .iface t x,v=> ∃u,v= .iface t u/\aw w ν x u
 | .nilp,v=>v= .pointer none
 | .tuple aJ,v=> ∃us:Array Value,v= .tuple us/\bT w ν aJ us.toList
 | .func f cx,v=> ∃us:Array Value,v= .func (.func f) #[] us/\bT w ν cx us.toList
 | .gmap key,v=> ∃b,ν.bx key=some b/\v= .map (some b)
 | .row _ key n,v=>(∃b cap,v= .slice (some ⟨b,0,none⟩) n cap)/\n<=cH/\∃n' u,ν.ow key=some (n',u)/\n<=n'/\(n=n'->v=u)
 | .rptr sz key n i f,v=>(∃b o,v= .pointer (some ⟨b,o,none⟩))/\i<n/\∃n' u,ν.ow key=some (n',u)/\n<=n'/\(n=n'->∃b,u.ownBlock=some b/\v= .pointer (some ⟨b,i*sz+f,none⟩))
 | .hdm _ _,_=>c1
 | .hdi _ _ _,_=>c1
 | .cst c,v=>v=c
def bL(w:World)(ν:aC):List aa->List Value->Prop
 |[],us=>us=[]
 |c::cs,us=> ∃u a,us=u::a/\(aw w ν c u/\u.oneCell'=true)/\bL w ν cs a
def bT(w:World)(ν:aC):List aa->List Value->Prop
 |[],us=>us=[]
 |c::cs,us=> ∃u a,us=u::a/\aw w ν c u/\bT w ν cs a
def b7(w:World)(ν:aC)(sz:Nat):List aa->List Value->Prop
 |[],us=>us=[]
 |x::xs,us=> ∃u a,us=u.cells.toList++a/\(aw w ν x u/\u.cells.size=sz/\(∀c∈u.cells.toList,c.oneCell'=true))/\b7 w ν sz xs a
end
def sb{w w':World}{A c:Nat->Nat->Prop}{b:Nat}(a:∀b o,A b o->c b o/\w'.cell? ⟨b,o,none⟩=w.cell? ⟨b,o,none⟩):
  ∀(us:List Value) (off:Nat),gS w A b off us->gS w' c b off us
 |[],_,_=>trivial
 |_::us,off,h=>⟨⟨(a _ _ h.1.1).1,(a _ _ h.1.1).2.trans h.1.2⟩,sb a us (off+1) h.2⟩
mutual
def oj{t:Bool}{w w':World}{A j:Nat->Nat->Prop}(g:∀b o,A b o->j b o/\w'.cell? ⟨b,o,none⟩=w.cell? ⟨b,o,none⟩)(f:∀b o,A b o->shape w' b=shape w b):∀(p:aa) (F d:Nat->Prop) (v:Value),(∀b,F b->d b)->bJ t w A F p v->bJ t w' j d p v
 | .int k n,_,_,_,_,h=>by simp only[bJ]at h⊢;exact h
 | .bool b,_,_,_,_,h=>by simp only[bJ]at h⊢;exact h
 | .str s,_,_,_,_,h=>by simp only[bJ]at h⊢;exact h
 | .slice sz tag xs,F,d,v,e,h=>by
  simp only[bJ]at h⊢;obtain⟨a,cap,I,J,z,i⟩:=h;refine⟨a,cap,I,J,z,?_⟩;rcases i with i|⟨b,off,us,G,y,B,m,l,q,r⟩
  ·exact .inl i
  ·refine .inr ⟨b,off,us,G,y,e _ B,fun c aA=>⟨e _ (m c aA).1,(m c aA).2⟩,sb g _ _ l,fun x=>?_,vV g f xs G G _ (fun _ h=>h) r⟩;obtain⟨f1,f2,el,f3⟩:=q x;refine⟨f1,f2,el,?_⟩;cases us with
   |nil=>simp at f2
   |cons u us=>rw[f b off l.1.1];exact f3
 | .agg cs,F,d,v,e,h=>by simp only[bJ]at h⊢;obtain⟨us,I,J⟩:=h;exact⟨us,I,EX g f cs F d _ e J⟩
 | .junk,_,_,_,_,h=>by simp[bJ]at h
 | .ptr _ _,_,_,_,_,h=>by simp[bJ]at h
 | .eptr _,_,_,_,_,h=>by simp[bJ]at h
 | .iface _ _,_,_,_,_,h=>by simp[bJ]at h
 | .nilp,_,_,_,_,h=>by simp[bJ]at h
 | .tuple _,_,_,_,_,h=>by simp[bJ]at h
 | .func _ _,_,_,_,_,h=>by simp[bJ]at h
 | .gmap _,_,_,_,_,h=>by simp[bJ]at h
 | .row _ _ _,_,_,_,_,h=>by simp[bJ]at h
 | .rptr _ _ _ _ _,_,_,_,_,h=>by simp[bJ]at h
 | .hdm _ _,_,_,_,_,h=>by simp[bJ]at h
 | .hdi _ _ _,_,_,_,_,h=>by simp[bJ]at h
 | .cst _,_,_,_,_,h=>by simp[bJ]at h
def EX{t:Bool}{w w':World}{A g:Nat->Nat->Prop}(l:∀b o,A b o->g b o/\w'.cell? ⟨b,o,none⟩=w.cell? ⟨b,o,none⟩)(j:∀b o,A b o->shape w' b=shape w b):∀(cs:List aa) (F a:Nat->Prop) (us:List Value),(∀b,F b->a b)->gI t w A F cs us->gI t w' g a cs us
 |[],_,_,_,_,h=>by simp only[gI]at h⊢;exact h
 |c::cs,F,a,us,i,h=>by simp only[gI]at h⊢;obtain⟨u,k,d,e,I,⟨J,p,q⟩,⟨r,n⟩,m⟩:=h;exact⟨u,k,d,e,I,⟨fun b f=>i _ (J b f),fun b f=>i _ (p b f),q⟩,⟨oj l j c d d u (fun _ h=>h) r,n⟩,EX l j cs e e k (fun _ h=>h) m⟩
def vV{t:Bool}{w w':World}{A g:Nat->Nat->Prop}(l:∀b o,A b o->g b o/\w'.cell? ⟨b,o,none⟩=w.cell? ⟨b,o,none⟩)(j:∀b o,A b o->shape w' b=shape w b){sz:Nat}:∀(cs:List aa) (F a:Nat->Prop) (us:List Value),(∀b,F b->a b)->ga t w A F sz cs us->ga t w' g a sz cs us
 |[],_,_,_,_,h=>by simp only[ga]at h⊢;exact h
 |c::cs,F,a,us,i,h=>by simp only[ga]at h⊢;obtain⟨u,k,d,e,I,⟨J,p,q⟩,⟨r,n⟩,m⟩:=h;exact⟨u,k,d,e,I,⟨fun b f=>i _ (J b f),fun b f=>i _ (p b f),q⟩,⟨oj l j c d d u (fun _ h=>h) r,n⟩,vV l j cs e e k (fun _ h=>h) m⟩
end
mutual
def aR(S:ar->Prop):aa->Prop
 | .slice _ tag xs=>(match tag with| .own k=>S k| .tr k _=>S k| .lo k=>S k|_=>True)/\aV S xs
 | .agg cs=>aV S cs
 | .ptr k _=>S k
 | .eptr x=>aR S x
 | .iface _ x=>aR S x
 | .tuple aJ=>aV S aJ
 | .func _ cx=>aV S cx
 | .gmap k=>S k
 | .row _ k _=>S k
 | .rptr _ k _ _ _=>S k
 |_=>True
def aV(S:ar->Prop):List aa->Prop
 |[]=>True
 |x::xs=>aR S x/\aV S xs
end
mutual
def oN{S T:ar->Prop}(h:∀k,S k->T k):∀p:aa,aR S p->aR T p
 | .junk,_=>by simp[aR]
 | .int _ _,_=>by simp[aR]
 | .bool _,_=>by simp[aR]
 | .str _,_=>by simp[aR]
 | .slice sz tag xs,a=>by simp only[aR]at a⊢;exact⟨by cases tag<;>first|trivial|exact h _ a.1,hg h xs a.2⟩
 | .agg cs,a=>by simp only[aR]at a⊢;exact hg h cs a
 | .ptr k _,a=>by simp only[aR]at a⊢;exact h _ a
 | .eptr x,a=>by simp only[aR]at a⊢;exact oN h x a
 | .iface _ x,a=>by simp only[aR]at a⊢;exact oN h x a
 | .nilp,_=>by simp[aR]
 | .tuple aJ,a=>by simp only[aR]at a⊢;exact hg h aJ a
 | .func _ cx,a=>by simp only[aR]at a⊢;exact hg h cx a
 | .gmap k,a=>by simp only[aR]at a⊢;exact h _ a
 | .row _ k _,a=>by simp only[aR]at a⊢;exact h _ a
 | .rptr _ k _ _ _,a=>by simp only[aR]at a⊢;exact h _ a
 | .hdm _ _,_=>by simp[aR]
 | .hdi _ _ _,_=>by simp[aR]
 | .cst _,_=>by simp[aR]
def hg{S T:ar->Prop}(h:∀k,S k->T k):∀b:List aa,aV S b->aV T b
 |[],_=>by simp[aV]
 |x::xs,a=>by simp only[aV]at a⊢;exact⟨oN h x a.1,hg h xs a.2⟩
end
mutual
def w7:∀p:aa,aR (fun _=>True) p
 | .junk=>by simp[aR]
 | .int _ _=>by simp[aR]
 | .bool _=>by simp[aR]
 | .str _=>by simp[aR]
 | .slice sz tag xs=>by simp only[aR];exact⟨by cases tag<;>trivial,oM xs⟩
 | .agg cs=>by simp only[aR];exact oM cs
 | .ptr k _=>by simp[aR]
 | .eptr x=>by simp only[aR];exact w7 x
 | .iface _ x=>by simp only[aR];exact w7 x
 | .nilp=>by simp[aR]
 | .tuple aJ=>by simp only[aR];exact oM aJ
 | .func _ cx=>by simp only[aR];exact oM cx
 | .gmap k=>by simp[aR]
 | .row _ k _=>by simp[aR]
 | .rptr _ k _ _ _=>by simp[aR]
 | .hdm _ _=>by simp[aR]
 | .hdi _ _ _=>by simp[aR]
 | .cst _=>by simp[aR]
def oM:∀a:List aa,aV (fun _=>True) a
 |[]=>by simp[aV]
 |x::xs=>by simp only[aV];exact⟨w7 x,oM xs⟩
end
def eg:List Nat->List Value->List MapEntry
 |b::a,k::v::r=>⟨k,v,b⟩::eg a r
 |_,_=>[]
def hC(cs:List aa)(us:Array Value)(el:ey):Obj:=
 match cs with
 | .hdm clock borns::_=>.map (eg borns us.toList).toArray clock
 | .hdi since seen last::_=>.mapIter (match us.toList with|[.map m]=>m|_=>none) since seen.toArray last
 |_=>.cells us el
structure Qt (clock:Nat) (borns:List Nat) (r:List aa):Prop where
 len:r.length=2*borns.length
 inc:borns.Pairwise (· < ·)
 lt:∀b∈borns,b<clock
def gV(w:World)(ν:aC)(cs:List aa)(us:List Value):Prop:=
 match cs with
 | .hdm clock borns::r=>bT w ν r us/\Qt clock borns r
 | .hdi _ _ _::r=>bT w ν r us
 |cs=>bL w ν cs us
def et:List aa->Bool
 | .hdm _ _::_=>false
 | .hdi _ _ _::_=>false
 |_=>true
def oX{w:World}{ν:aC}{cs:List aa}{us:List Value}(h:bL w ν cs us):et cs=true:=by
 unfold et;split
 ·simp only[bL,aw]at h;obtain⟨_,_,_,⟨h,_⟩,_⟩:=h;exact h.elim
 ·simp only[bL,aw]at h;obtain⟨_,_,_,⟨h,_⟩,_⟩:=h;exact h.elim
 ·rfl
def jP{cs:List aa}(h:et cs=true)(us:Array Value)(el:ey):hC cs us el= .cells us el:=by
 unfold et at h;unfold hC;split at h<;>first|cases h|skip
 rfl
def jQ{w:World}{ν:aC}{cs:List aa}(h:et cs=true)(us:List Value):gV w ν cs us=bL w ν cs us:=by
 unfold et at h;unfold gV;split at h<;>first|cases h|skip
 rfl
structure jC (S:ar->Prop) (w:World) (ν:aC) (w':World) (aI:aC):Prop where
 A:∀b o,ν.A b o->aI.A b o/\w'.cell? ⟨b,o,none⟩=w.cell? ⟨b,o,none⟩
 bx:∀k b,S k->ν.bx k=some b->aI.bx k=some b
 ow:∀g n u,S g->ν.ow g=some (n,u)->∃n' c3,aI.ow g=some (n',c3)/\(n'=n/\c3=u\/n<n')
 sh:∀b o,ν.A b o->shape w' b=shape w b
 tr:∀k j b,S k->ν.tr k j b->aI.tr k j b
abbrev ij:=jC (fun _=>True)
mutual
def nP{S:ar->Prop}{w w':World}{ν aI:aC}(ag:jC S w ν w' aI):∀(p:aa) (v:Value),aR S p->aw w ν p v->aw w' aI p v
 | .junk,_,_,_=>by simp[aw]
 | .int k n,_,_,h=>by simp only[aw]at h⊢;exact h
 | .bool b,_,_,h=>by simp only[aw]at h⊢;exact h
 | .str s,_,_,h=>by simp only[aw]at h⊢;exact h
 | .slice sz tag xs,v,U,h=>by
  simp only[aw,aR]at h U⊢;obtain⟨⟨a,cap,I,J,l,d⟩,o,y,A,z⟩:=h;refine⟨⟨a,cap,I,J,l,?_⟩,o,fun g aM=>?_,fun k j m=>?_,fun k m=>?_⟩
  ·rcases d with d|⟨b,off,us,d,y,B⟩
   ·exact .inl d
   ·exact .inr ⟨b,off,us,d,sb ag.A _ _ y,xP ag sz xs us U.2 B⟩
  ·obtain⟨n,u,F,H,G⟩:=y g aM;subst aM;obtain⟨n',E,f1,f2⟩:=ag.ow g n u U.1 F;refine⟨n',E,f1,?_⟩;rcases f2 with⟨rfl,rfl⟩|f2
   ·exact⟨H,G⟩
   ·exact⟨Ω,fun e=>Ω⟩
  ·have:=A k j m;subst m;exact oj ag.A ag.sh _ _ _ _ (fun b=>ag.tr k j b U.1) this
  ·have:=z k m;subst m;exact oj ag.A ag.sh _ _ _ _ (fun b=>ag.tr k 0 b U.1) this
 | .agg cs,v,U,h=>by simp only[aw,aR]at h U⊢;obtain⟨us,I,J⟩:=h;exact⟨us,I,xS ag cs _ U J⟩
 | .ptr key off,v,U,h=>by simp only[aw,aR]at h U⊢;obtain⟨b,I,J⟩:=h;exact⟨b,ag.bx _ _ U I,J⟩
 | .iface t x,v,U,h=>by simp only[aw,aR]at h U⊢;obtain⟨u,I,J⟩:=h;exact⟨u,I,nP ag x u U J⟩
 | .eptr x,v,U,h=>by simp only[aw,aR]at h U⊢;obtain⟨b,off,u,I,J,l⟩:=h;exact⟨b,off,u,I,nP ag x u U J,sb ag.A _ _ l⟩
 | .nilp,_,_,h=>by simp only[aw]at h⊢;exact h
 | .tuple aJ,v,U,h=>by simp only[aw,aR]at h U⊢;obtain⟨us,I,J⟩:=h;exact⟨us,I,qZ ag aJ _ U J⟩
 | .func f cx,v,U,h=>by simp only[aw,aR]at h U⊢;obtain⟨us,I,J⟩:=h;exact⟨us,I,qZ ag cx _ U J⟩
 | .gmap key,v,U,h=>by simp only[aw,aR]at h U⊢;obtain⟨b,I,J⟩:=h;exact⟨b,ag.bx _ _ U I,J⟩
 | .row sz key n,v,U,h=>by
  simp only[aw,aR]at h U⊢;obtain⟨I,J,n',u,l,d,o⟩:=h;obtain⟨r,q,f1,f2⟩:=ag.ow key n' u U l;refine⟨I,J,r,q,f1,?_⟩;rcases f2 with⟨rfl,rfl⟩|f2
  ·exact⟨d,o⟩
  ·exact⟨Ω,fun e=>Ω⟩
 | .rptr sz key n i f,v,U,h=>by
  simp only[aw,aR]at h U⊢;obtain⟨I,J,n',u,l,d,o⟩:=h;obtain⟨r,q,f1,f2⟩:=ag.ow key n' u U l;refine⟨I,J,r,q,f1,?_⟩;rcases f2 with⟨rfl,rfl⟩|f2
  ·exact⟨d,o⟩
  ·exact⟨Ω,fun e=>Ω⟩
 | .hdm _ _,_,_,h=>by simp only[aw]at h
 | .hdi _ _ _,_,_,h=>by simp only[aw]at h
 | .cst c,_,_,h=>by simp only[aw]at h⊢;exact h
def xS{S:ar->Prop}{w w':World}{ν aI:aC}(ag:jC S w ν w' aI):∀(cs:List aa) (us:List Value),aV S cs->bL w ν cs us->bL w' aI cs us
 |[],_,_,h=>by simp only[bL]at h⊢;exact h
 |c::cs,us,U,h=>by simp only[bL,aV]at h U⊢;obtain⟨u,a,I,J,b⟩:=h;exact⟨u,a,I,⟨nP ag c u U.1 J.1,J.2⟩,xS ag cs a U.2 b⟩
def qZ{S:ar->Prop}{w w':World}{ν aI:aC}(ag:jC S w ν w' aI):∀(cs:List aa) (us:List Value),aV S cs->bT w ν cs us->bT w' aI cs us
 |[],_,_,h=>by simp only[bT]at h⊢;exact h
 |c::cs,us,U,h=>by simp only[bT,aV]at h U⊢;obtain⟨u,a,I,J,b⟩:=h;exact⟨u,a,I,nP ag c u U.1 J,qZ ag cs a U.2 b⟩
def xP{S:ar->Prop}{w w':World}{ν aI:aC}(ag:jC S w ν w' aI)(sz:Nat):∀(xs:List aa) (us:List Value),aV S xs->b7 w ν sz xs us->b7 w' aI sz xs us
 |[],_,_,h=>by simp only[b7]at h⊢;exact h
 |x::xs,us,U,h=>by simp only[b7,aV]at h U⊢;obtain⟨u,a,I,⟨J,b,c⟩,d⟩:=h;exact⟨u,a,I,⟨nP ag x u U.1 J,b,c⟩,xP ag sz xs a U.2 d⟩
end
def BP{S:ar->Prop}{w w':World}{ν aI:aC}(ag:jC S w ν w' aI){cs:List aa}{us:List Value}(U:aV S cs)(h:gV w ν cs us):gV w' aI cs us:=by
 unfold gV at h⊢;split
 ·simp only[aV]at U;exact⟨qZ ag _ _ U.2 h.1,h.2⟩
 ·simp only[aV]at U;exact qZ ag _ _ U.2 h
 ·rename_i I J;split at h
  ·exact absurd rfl (I _ _ _)
  ·exact absurd rfl (J _ _ _ _)
  ·exact xS ag _ _ U h
section
variable {w w':World} {ν aI:aC} (ag:ij w ν w' aI)
include ag
theorem q0{p:aa}{v:Value}(h:aw w ν p v):aw w' aI p v:=nP ag p v (w7 p) h
theorem Iu{p:List aa}{v:List Value}(h:bL w ν p v):bL w' aI p v:=xS ag p v (oM p) h
theorem IA{p:List aa}{v:List Value}(h:bT w ν p v):bT w' aI p v:=qZ ag p v (oM p) h
theorem lz{p:List aa}{v:List Value}(h:gV w ν p v):gV w' aI p v:=BP ag (oM p) h
theorem sF{sz:Nat}{p:List aa}{v:List Value}(h:b7 w ν sz p v):b7 w' aI sz p v:=xP ag sz p v (oM p) h
end
end
section
open Go Go.RowKit
def get(k:Nat):List (Nat×aa)->aa
 |[]=>.junk
 |(i,p)::r=>if i=k then p else get k r
def put(k:Nat)(p:aa):List (Nat×aa)->List (Nat×aa)
 |[]=>[(k,p)]
 |(i,q)::r=>if i=k then(i,p)::r else(i,q)::put k p r
def ab{α:Type}(k:ar):List (ar×α)->aT α
 |[]=>none
 |(i,p)::r=>if i=k then some p else ab k r
def bW{α:Type}(k:ar)(p:α):List (ar×α)->List (ar×α)
 |[]=>[(k,p)]
 |(i,q)::r=>if i=k then(i,p)::r else(i,q)::bW k p r
def kJ(k j:Nat)(p:aa):∀l,get j (put k p l)=if k=j then p else get j l
 |[]=>by simp[get,put]
 |(i,q)::r=>by
  by_cases h:i=k
  ·subst h;by_cases J:i=j<;>simp[get,put,J]
  ·by_cases J:i=j
   ·subst J;simp[get,put,h,Ne.symm h]
   ·simp[get,put,h,J,kJ k j p r]
def fD{α:Type}(k j:ar)(p:α):∀l,ab j (bW k p l)=if k=j then some p else ab j l
 |[]=>by simp[ab,bW]
 |(i,q)::r=>by
  by_cases h:i=k
  ·subst h;by_cases J:i=j<;>simp[ab,bW,J]
  ·by_cases J:i=j
   ·subst J;simp[ab,bW,h,Ne.symm h]
   ·simp[ab,bW,h,J,fD k j p r]
structure cw where
 n:Nat
 el:Nat
 sz:Nat
 xs:aT (List aa)
def BV(w:World)(ν:aC)(o:cw)(v:Value)(us:List Value):Prop:=∀xs,o.xs=some xs->xs.length=o.n/\b7 w ν o.sz xs us/\∀bl,v.ownBlock=some bl->∀j,¬ν.A bl j
def mQ{w w':World}{ν aI:aC}(ag:ij w ν w' aI){o:cw}{v:Value}{us:List Value}(d:∀bl,v.ownBlock=some bl->∀j,aI.A bl j->ν.A bl j)(h:BV w ν o v us):BV w' aI o v us:=fun xs a=>⟨(h xs a).1,sF ag (h xs a).2.1,fun bl b j c=>(h xs a).2.2 bl b j (d bl b j c)⟩
def hh(S:ar->Prop)(o:cw):Prop:= ∀xs,o.xs=some xs->aV S xs
structure aN where
 t:List (Nat×aa)
 b:List (ar×List aa)
 e:List (ar×cw)
 n:Nat
 o:List ar
def fresh(n:Nat)(o:List ar)(k:ar):Prop:=(match k with| .loc m=>n<=m| .obj _=>True)/\k∉o
def zr{n n':Nat}{o o':List ar}(a:n<=n')(ag:∀k∈o,k∈o'){k:ar}(h:fresh n' o' k):fresh n o k:=by unfold fresh at h⊢;exact⟨by cases k<;>simp at h⊢;omega,fun U=>h.2 (ag k U)⟩
def sN(ν:aC)(b:List (ar×List aa))(e:List (ar×cw))(bl:Nat):Prop:=(∃k,(ab k b).isSome/\ν.bx k=some bl)\/(∃g n v,(ab g e).isSome/\ν.ow g=some (n,v)/\v.ownBlock=some bl)
structure Good (pr:Nat->Prop) (w:World) (ν:aC) (b:List (ar×List aa)) (e:List (ar×cw)):Prop where
 alt:∀bl o,ν.A bl o->bl<w.heap.size
 box:∀k cs,ab k b=some cs->∃bl us el,ν.bx k=some bl/\pr bl/\(∀o,¬ν.A bl o)/\w.heap[bl]? =some (hC cs us el)/\gV w ν cs us.toList
 inj:∀k aQ bl,(ab k b).isSome->(ab aQ b).isSome->ν.bx k=some bl->ν.bx aQ=some bl->k=aQ
 own:∀g o,ab g e=some o->∃v us,ν.ow g=some (o.n,v)/\w.ownsRow 0 o.el o.sz v o.n us/\(∀bl,v.ownBlock=some bl->pr bl/\(∀j,ν.A bl j->j<o.n*o.sz))/\BV w ν o v us
 oinj:∀g cW n n' v v' bl,(ab g e).isSome->(ab cW e).isSome->ν.ow g=some (n,v)->ν.ow cW=some (n',v')->v.ownBlock=some bl->v'.ownBlock=some bl->g=cW
 obx:∀g k n v bl,(ab g e).isSome->(ab k b).isSome->ν.ow g=some (n,v)->v.ownBlock=some bl->ν.bx k=some bl->c1
 one:∀k,ν.bx k=none\/ν.ow k=none
 otr:∀bl,sN ν b e bl->∀k j,¬ν.tr k j bl
structure dk where
 w0:World
 ν0:aC
 mt:Nat->Prop
 N:Nat
 ob:List ar
def dk.pr(C:dk)(bl:Nat):Prop:=C.mt bl\/C.w0.heap.size<=bl
def dU:ar:= .obj 990001
structure kA (C:dk) (w:World) (ν:aC):Prop where
 os:w.os=C.w0.os
 tape:w.tape=C.w0.tape
 output:w.output=C.w0.output
 size:C.w0.heap.size<=w.heap.size
 block:∀k,k<C.w0.heap.size->¬C.mt k->w.heap[k]? =C.w0.heap[k]?
 keep:∀b o,C.ν0.A b o->ν.A b o/\w.cell? ⟨b,o,none⟩=C.w0.cell? ⟨b,o,none⟩
 fresh:∀b o,ν.A b o->C.ν0.A b o\/C.pr b
 obj:∀n b,C.ν0.bx (.obj n)=some b->ν.bx (.obj n)=some b
 obn:∀n b,C.ν0.bx (.obj n)=some b-> .obj n∈C.ob
 row:∀m n u,C.ν0.ow (.obj m)=some (n,u)->∃n' c3,ν.ow (.obj m)=some (n',c3)/\(n'=n/\c3=u\/n<n')
 obr:∀m n u,C.ν0.ow (.obj m)=some (n,u)-> .obj m∈C.ob
 trd:∀k j aQ cU b,ν.tr k j b->ν.tr aQ cU b->k=aQ/\j=cU
 trb:∀k j b,ν.tr k j b->(k=dU\/C.w0.heap.size<=b)/\b<w.heap.size
 trn:∀k j b,ν.tr k j b->ν.bx k=none/\ν.ow k=none
 sh:∀b o,C.ν0.A b o->shape w b=shape C.w0 b
def uL{ν aI:aC}{g:ar}{n:Nat}{u:Value}(h:∃n' a,ν.ow g=some (n',a)/\(n'=n/\a=u\/n<n'))(ag:∀n u,ν.ow g=some (n,u)->∃n' a,aI.ow g=some (n',a)/\(n'=n/\a=u\/n<n')):
  ∃n' a,aI.ow g=some (n',a)/\(n'=n/\a=u\/n<n'):=by
 obtain⟨e,c,i,b⟩:=h;obtain⟨f,d,f1,f2⟩:=ag e c i;refine⟨f,d,f1,?_⟩;rcases b with⟨rfl,rfl⟩|b
 ·exact f2
 ·rcases f2 with⟨rfl,rfl⟩|f2
  ·exact .inr b
  ·exact .inr Ω
structure bO (C:dk) (st:aN) (a:Act) (w:World) (ν:aC):Prop where
 good:Good C.pr w ν st.b st.e
 fr:kA C w ν
 defers:a.defers=[]
 size:a.tmps.size=C.N
 slot:∀i,aw w ν (get i st.t) (a.tmps.getD i undef)
 new:∀k,fresh st.n st.o k->ν.bx k=none/\ν.ow k=none/\∀j b,¬ν.tr k j b
def dH(d:aT Nat)(p:aa)(t:List (Nat×aa)):List (Nat×aa):=
 match d with
 |some d=>put d p t
 |none=>t
def gl(N:Nat)(d:aT Nat):Bool:=match d with|some d=>decide (d<N)|none=>true
def bO.put{C:dk}{st:aN}{a:Act}{w:World}{ν:aC}(h:bO C st a w ν){d:aT Nat}(f:gl C.N d=true){p:aa}{v:Value}(c:aw w ν p v):
  bO C {st with t:=dH d p st.t} (a.put d v) w ν:=by
 cases d with
 |none=>exact h
 |some d=>
  have b:d<a.tmps.size:=by rw[h.size];simpa[gl]using f
  refine⟨h.good,h.fr,h.defers,by simpa[Act.put]using h.size,fun i=>?_,h.new⟩;simp only[dH,kJ];by_cases e:d=i
  ·subst e;simpa[Act.put,Array.getD_eq_getD_getElem?,b]using c
  ·have:=h.slot i;simpa[e,Act.put,Array.getD_eq_getD_getElem?,Array.getElem?_setIfInBounds_ne e]using this
def bO.over{C:dk}{st st':aN}{a:Act}{w w':World}{ν aI:aC}(h:bO C st a w ν)(ag:ij w ν w' aI)(c:st'.t=st.t)(aM:Good C.pr w' aI st'.b st'.e)(e:kA C w' aI)
  (d:∀k,fresh st'.n st'.o k->aI.bx k=none/\aI.ow k=none/\∀j b,¬aI.tr k j b):bO C st' a w' aI:=
 ⟨aM,e,h.defers,h.size,fun i=>by rw[c];exact q0 ag (h.slot i),d⟩
inductive cq where
 |t (i:Nat)
 |c (p:aa)
 deriving Inhabited
def bn(t:List (Nat×aa)):cq->aa
 | .t i=>get i t
 | .c p=>p
def vq:aa->Value->Bool
 | .int k n,.int aQ n'=>decide (k=aQ/\n=n')
 | .bool b,.bool dR=>b==dR
 | .str s,.string l=>decide (l.data.toList=s/\s.length<=cH)
 | .slice _ .nil [],.slice none 0 0=>true
 | .nilp,.pointer none=>true
 | .tuple [],.tuple ⟨[]⟩=>true
 | .func f [],.func (.func g) ⟨[]⟩ ⟨[]⟩=>f==g
 | .junk,_=>true
 |_,_=>false
def De(w:World)(ν:aC){p:aa}{v:Value}(h:vq p v=true):aw w ν p v:=by
 unfold vq at h;split at h
 ·simp at h;obtain⟨rfl,rfl⟩:=h;simp[aw]
 ·simp at h;subst h;simp[aw]
 ·rename_i s l;simp at h;obtain⟨I,J⟩:=h;refine⟨?_,J⟩;subst I;simp
 ·simp only[aw];refine⟨⟨none,0,rfl,Ψ,Ψ,Ψ⟩,Ψ,(fun _ h=>by cases h),(fun _ _ h=>by cases h),(fun _ h=>by cases h)⟩
 ·simp[aw]
 ·simp[aw,bT]
 ·simp at h;subst h;simp[aw,bT]
 ·simp[aw]
 ·cases h
def rv:List aa->List Value->Bool
 |[],[]=>true
 |p::a,v::aJ=>vq p v&&v.oneCell'&&rv a aJ
 |_,_=>false
def ru:aa->Value->Bool
 | .agg cs,.agg us=>rv cs us.toList
 |p,v=>vq p v
def Df(w:World)(ν:aC):∀(a:List aa) (aJ:List Value),rv a aJ=true->bL w ν a aJ
 |[],[],_=>by simp[bL]
 |[],_::_,h=>by simp[rv]at h
 |_::_,[],h=>by simp[rv]at h
 |p::a,v::aJ,h=>by simp only[rv,bN]at h;simp only[bL];exact⟨v,aJ,rfl,⟨De w ν h.1.1,h.1.2⟩,Df w ν a aJ h.2⟩
def yH(w:World)(ν:aC){p:aa}{v:Value}(h:ru p v=true):aw w ν p v:=by
 unfold ru at h;split at h
 ·simp only[aw];exact⟨_,rfl,Df w ν _ _ h⟩
 ·exact De w ν h
def c4:cq->Operand->Bool
 | .t i,.tmp j=>i==j
 | .c p,.const v=>ru p v
 | .c (.func f []),.func g=>f==g
 |_,_=>false
def db{C:dk}{st:aN}{a:Act}{w:World}{ν:aC}(h:bO C st a w ν){x:cq}{o:Operand}(b:c4 x o=true):aw w ν (bn st.t x) (a.eval o):=by
 unfold c4 at b;split at b
 ·simp at b;subst b;simpa[bn,Act.eval]using h.slot _
 ·simpa[bn,Act.eval]using yH w ν b
 ·simp at b;subst b;simp[bn,Act.eval,aw,bT]
 ·cases b
inductive s5 where
 |int (k:IntKind)
 |bool
 |str
 |slice (e:Nat)
 |struct (cK:List (Nat×Nat))
 |map (k e:Nat)
 |other
 deriving DecidableEq
structure cQ where
 size:Nat
 bytes:Nat
 kind:s5
 zero:aa
def s5.isAgg:s5->Bool
 | .struct _=>true
 |_=>false
def sU:List aa->List Value->Bool
 |[],[]=>true
 |p::a,v::aJ=>ru p v&&v.oneCell'&&sU a aJ
 |_,_=>false
def ri:aa->Value->Bool
 | .agg cs,.agg us=>sU cs us.toList
 | .agg _,_=>false
 |p,v=>ru p v&&v.oneCell'
def iv:s5->TypeDesc->Bool
 | .int k,.int aQ=>decide (k=aQ)
 | .bool,.bool=>true
 | .str,.string=>true
 | .slice e,.slice a=>e==a
 | .struct b,.struct gs=>decide (gs.toList.map (fun f=>(f.offset,f.type))=b)
 | .map k e,.map aQ a=>k==aQ&&e==a
 | .other,d=>match d with| .struct _| .array _ _| .int _| .bool| .string| .slice _=>false|_=>true
 |_,_=>false
def EN(P:bp)(gs:Array Field):Bool:=gs.toList.all fun f=>match P.underlying f.type with|some (.int _)=>true|some .string=>true|_=>false
def D9(P:bp)(t:Nat)(gs:Array Field):Bool:=gs.toList.all (fun f=>f.name != "_")&& !P.stoodInHeld t&& !P.eqGuardType P.depth t
def yS(P:bp)(t:Nat):TypeDesc->Bool
 | .struct gs=> !EN P gs||D9 P t gs
 |_=>true
def Cp(P:bp)(t:Nat)(f:cQ):Bool:=
 match P.info? t,P.underlying t with
 |some i,some d=>yS P t d&&i.size==f.size&&i.bytes==f.bytes&&iv f.kind d&&(match i.zero with|some z=>ri f.zero z&&z.cells.size==f.size|none=>false)
 |_,_=>false
def e1(P:bp)(aE:List (Nat×cQ)):Bool:=aE.all fun x=>Cp P x.1 x.2
def cY(aE:List (Nat×cQ))(t:Nat):aT cQ:=(aE.find? fun x=>x.1==t).map (·.2)
def S1{P:bp}{aE:List (Nat×cQ)}(h:e1 P aE=true){t:Nat}{f:cQ}(b:cY aE t=some f):Cp P t f=true:=by
 unfold cY at b;cases a:aE.find? fun x=>x.1==t with
 |none=>simp[a]at b
 |some x=>simp[a]at b;have I:=List.find?_some a;simp at I;have J:=List.mem_of_find?_eq_some a;have c:=List.all_eq_true.1 h x J;rw[<-b,<-I];exact c
structure Kd (P:bp) (t:Nat) (f:cQ):Prop where
 cmp:∀d,P.underlying t=some d->yS P t d=true
 ex:∃i d z,P.info? t=some i/\P.underlying t=some d/\i.size=f.size/\i.bytes=f.bytes/\iv f.kind d=true/\i.zero=some z/\ri f.zero z=true/\z.cells.size=f.size
def o6{P:bp}{aE:List (Nat×cQ)}(h:e1 P aE=true){t:Nat}{f:cQ}(j:cY aE t=some f):Kd P t f:=by
 have h:=S1 h j;unfold Cp at h;split at h
 ·rename_i i d I J;simp only[bN,c2]at h;obtain⟨⟨⟨⟨e,g⟩,k⟩,l⟩,a⟩:=h;split at a
  ·rename_i z c;simp only[bN,c2]at a;exact⟨fun m b=>by rw[J]at b;cases b;exact e,i,d,z,I,J,g,k,l,c,a.1,a.2⟩
  ·cases a
 ·cases h
def j3(b o j:Nat):(⟨b,o,none⟩:Addr).add j=⟨b,o+j,none⟩:=by
 unfold Addr.add;split
 ·rename_i h;subst h;rfl
 ·rfl
def CA(w:World)(ν:aC):∀(a:List aa) (aJ:List Value),sU a aJ=true->bL w ν a aJ
 |[],[],_=>by simp[bL]
 |[],_::_,h=>by simp[sU]at h
 |_::_,[],h=>by simp[sU]at h
 |p::a,v::aJ,h=>by simp only[sU,bN]at h;simp only[bL];exact⟨v,aJ,rfl,⟨yH w ν h.1.1,h.1.2⟩,CA w ν a aJ h.2⟩
def cells:aa->List aa
 | .agg cs=>cs
 |p=>[p]
def dd:aa->Bool
 | .junk| .tuple _=>false
 | .cst (.slice _ _ _)| .cst (.string _)=>true
 | .cst _=>false
 |_=>true
def BU{w:World}{ν:aC}{p:aa}{v:Value}(h:aw w ν p v)(d:dd p=true)(e:∀cs,p≠ .agg cs):v.oneCell'=true/\v.cells= #[v]:=by
 cases p<;>simp only[aw,dd]at h d;case junk=>cases d
 case tuple=>cases d
 case cst c=>subst h;cases v<;>first|exact⟨rfl,rfl⟩|cases d
 case agg cs=>exact absurd rfl (e cs)
 case int=>subst h;exact⟨rfl,rfl⟩
 case bool=>subst h;exact⟨rfl,rfl⟩
 case str=>rw[h.1];exact⟨rfl,rfl⟩
 case slice=>obtain⟨⟨a,cap,I,_⟩,_⟩:=h;subst I;exact⟨rfl,rfl⟩
 case ptr=>obtain⟨b,_,I⟩:=h;subst I;exact⟨rfl,rfl⟩
 case eptr=>obtain⟨b,o,u,I,_⟩:=h;subst I;exact⟨rfl,rfl⟩
 case iface=>obtain⟨u,I,_⟩:=h;subst I;exact⟨rfl,rfl⟩
 case nilp=>subst h;exact⟨rfl,rfl⟩
 case func=>obtain⟨us,I,_⟩:=h;subst I;exact⟨rfl,rfl⟩
 case gmap=>obtain⟨b,_,I⟩:=h;subst I;exact⟨rfl,rfl⟩
 case row=>obtain⟨⟨a,cap,I⟩,_⟩:=h;subst I;exact⟨rfl,rfl⟩
 case rptr=>obtain⟨⟨a,o,I⟩,_⟩:=h;subst I;exact⟨rfl,rfl⟩
def oY{w:World}{ν:aC}{p:aa}{v:Value}(h:aw w ν p v)(c:dd p=true):bL w ν (cells p) v.cells.toList:=by
 by_cases b:∃cs,p= .agg cs
 ·obtain⟨cs,rfl⟩:=b;simp only[aw]at h;obtain⟨us,rfl,J⟩:=h;simpa[cells,jV]using J
 ·have a:∀cs,p≠ .agg cs:=fun cs e=>b ⟨cs,e⟩;obtain⟨I,J⟩:=BU h c a;have aA:cells p=[p]:=by cases p<;>first|rfl|exact absurd rfl (a _)
  rw[aA,J];simp only[bL];exact⟨v,[],rfl,⟨h,I⟩,rfl⟩
def sH{w:World}{ν:aC}:∀{a:List aa} {aJ:List Value},bL w ν a aJ->∀c∈aJ,c.oneCell'=true
 |[],aJ,h=>by simp only[bL]at h;subst h;simp
 |p::a,aJ,h=>by
  simp only[bL]at h;obtain⟨u,b,rfl,I,J⟩:=h;intro c aA;rcases gw.1 aA with rfl|aA
  ·exact I.2
  ·exact sH J c aA
def kY{w:World}{ν:aC}:∀{a:List aa} {aJ:List Value},bL w ν a aJ->aJ.length=a.length
 |[],aJ,h=>by simp only[bL]at h;subst h;rfl
 |p::a,aJ,h=>by simp only[bL]at h;obtain⟨u,b,rfl,_,J⟩:=h;simp[kY J]
def sG{w:World}{ν:aC}:∀(n:Nat) {a:List aa} {aJ:List Value},bL w ν a aJ->bL w ν (a.drop n) (aJ.drop n)
 |0,_,_,h=>by simpa using h
 |n+1,[],aJ,h=>by simp only[bL]at h;subst h;simp[bL]
 |n+1,p::a,aJ,h=>by simp only[bL]at h;obtain⟨u,b,rfl,_,J⟩:=h;simpa using sG n J
def uH{w:World}{ν:aC}:∀(n:Nat) {a:List aa} {aJ:List Value},bL w ν a aJ->bL w ν (a.take n) (aJ.take n)
 |0,_,_,_=>by simp[bL]
 |n+1,[],aJ,h=>by simp only[bL]at h;subst h;simp[bL]
 |n+1,p::a,aJ,h=>by simp only[bL]at h;obtain⟨u,b,rfl,I,J⟩:=h;simp only[List.take_succ_cons,bL];exact⟨u,_,rfl,I,uH n J⟩
def qX{w:World}{ν:aC}:∀{b cZ:List aa} {aJ us:List Value},bL w ν b aJ->bL w ν cZ us->bL w ν (b++cZ) (aJ++us)
 |[],cZ,aJ,us,h,a=>by simp only[bL]at h;subst h;simpa using a
 |p::b,cZ,aJ,us,h,a=>by simp only[bL]at h;obtain⟨u,c,rfl,I,J⟩:=h;simp only[List.cons_append,bL];exact⟨u,_,rfl,I,qX J a⟩
def uG{w:World}{ν:aC}:∀(n:Nat) {b:List aa} {aJ:List Value} {p:aa},bL w ν b aJ->b[n]? =some p->∃v,aJ[n]? =some v/\aw w ν p v/\v.oneCell'=true
 |n,[],_,p,_,a=>by simp at a
 |0,q::b,aJ,p,h,a=>by simp only[bL]at h;obtain⟨u,c,rfl,I,_⟩:=h;simp at a;subst a;exact⟨u,rfl,I.1,I.2⟩
 |n+1,q::b,aJ,p,h,a=>by simp only[bL]at h;obtain⟨u,c,rfl,_,J⟩:=h;simpa using uG n J (by simpa using a)
def uJ{w:World}{ν:aC}:∀(n:Nat) {b:List aa} {aJ:List Value} {p:aa},bT w ν b aJ->b[n]? =some p->∃v,aJ[n]? =some v/\aw w ν p v
 |n,[],_,p,_,a=>by simp at a
 |0,q::b,aJ,p,h,a=>by simp only[bT]at h;obtain⟨u,c,rfl,I,_⟩:=h;simp at a;subst a;exact⟨u,rfl,I⟩
 |n+1,q::b,aJ,p,h,a=>by simp only[bT]at h;obtain⟨u,c,rfl,_,J⟩:=h;simpa using uJ n J (by simpa using a)
def nF{w:World}{A:Nat->Nat->Prop}{b:Nat}:∀{us:List Value} {off j:Nat} {u:Value},gS w A b off us->us[j]? =some u->A b (off+j)/\w.cell? ⟨b,off+j,none⟩=some u
 |[],_,_,_,_,h=>by simp at h
 |x::us,off,0,u,a,h=>by simp at h;subst h;exact a.1
 |x::us,off,j+1,u,a,h=>by have:=nF (j:=j) a.2 (by simpa using h);rwa[show off+1+j=off+(j+1)from by omega]at this
def w8{w:World}{A:Nat->Nat->Prop}{b:Nat}:∀(n:Nat) {us:List Value} {off:Nat},gS w A b off us->gS w A b (off+n) (us.drop n)
 |0,_,_,h=>by simpa using h
 |n+1,[],_,_=>by simp[gS]
 |n+1,x::us,off,h=>by have:=w8 n h.2;rw[show off+(n+1)=off+1+n from by omega];simpa using this
def xa{w:World}{A:Nat->Nat->Prop}{b:Nat}:∀(n:Nat) {us:List Value} {off:Nat},gS w A b off us->gS w A b off (us.take n)
 |0,_,_,_=>by simp[gS]
 |n+1,[],_,_=>by simp[gS]
 |n+1,x::us,off,h=>by simp only[List.take_succ_cons];exact⟨h.1,xa n h.2⟩
def IM{P:bp}{w:World}{A:Nat->Nat->Prop}{b off:Nat}{us:List Value}(h:gS w A b off us):(loadCells ⟨b,off,none⟩ us.length).run P w= .ok us.toArray w:=run_loadCells_list w _ us fun j v a=>by rw[j3];exact(nF h a).2
def Sr{P:bp}{w:World}{b off n:Nat}{us:Array Value}{el:ey}{fr:Nat×Nat}(h:w.heap[b]? =some (.cells us el fr))(e:off+n<=us.size):
  (loadCells ⟨b,off,none⟩ n).run P w= .ok ((us.toList.drop off).take n).toArray w:=by
 have c:((us.toList.drop off).take n).length=n:=by simp;omega
 have:=run_loadCells_list (P:=P) w ⟨b,off,none⟩ ((us.toList.drop off).take n) fun j v a=>by
  rw[j3];have d:j<n:=by have:=(eQ.1 a).1;omega
  simp only[World.cell?,h,Option.isSome_none,hX,if_false];rw[List.getElem?_take]at a;simpa[d]using a
 rw[c]at this;exact this
def El{α:Type}(l r:List α)(n sz:Nat)(h:l.length=sz):(l++r).drop ((n+1)*sz)=r.drop (n*sz):=by
 have e:(n+1)*sz=l.length+n*sz:=by rw[h,Nat.succ_mul,Nat.add_comm]
 rw[e,<-List.drop_drop];simp
def Jf{α:Type}(l r:List α)(n sz:Nat)(h:l.length=sz):(l++r).take ((n+1)*sz)=l++r.take (n*sz):=by
 have e:(n+1)*sz=l.length+n*sz:=by rw[h,Nat.succ_mul,Nat.add_comm]
 rw[e,List.take_length_add_append]
def xO{w:World}{ν:aC}{sz:Nat}:∀(i:Nat) {xs:List aa} {us:List Value} {p:aa},b7 w ν sz xs us->xs[i]? =some p->
  ∃u,aw w ν p u/\u.cells.size=sz/\u.cells.toList=(us.drop (i*sz)).take sz
 |i,[],_,p,_,a=>by simp at a
 |0,x::xs,us,p,h,a=>by
  simp only[b7]at h;obtain⟨u,b,rfl,⟨I,J,d⟩,_⟩:=h;simp at a;subst a;refine⟨u,I,J,?_⟩;have:u.cells.toList.length=sz:=by simpa using J
  simp[<-this]
 |i+1,x::xs,us,p,h,a=>by
  simp only[b7]at h;obtain⟨u,b,rfl,⟨_,J,_⟩,c⟩:=h;obtain⟨v,g1,g2,g3⟩:=xO i c (by simpa using a);refine⟨v,g1,g2,?_⟩;have:u.cells.toList.length=sz:=by simpa using J
  rw[g3,El _ _ _ _ this]
def lA{w:World}{ν:aC}{sz:Nat}:∀{xs:List aa} {us:List Value},b7 w ν sz xs us->us.length=xs.length*sz
 |[],us,h=>by simp only[b7]at h;subst h;simp
 |x::xs,us,h=>by
  simp only[b7]at h;obtain⟨u,b,rfl,⟨_,J,_⟩,a⟩:=h;have:u.cells.toList.length=sz:=by simpa using J
  rw[kt,this,lA a,jX,Nat.succ_mul];omega
def qW{w:World}{ν:aC}{sz:Nat}:∀{xs:List aa} {us:List Value},b7 w ν sz xs us->∀c∈us,c.oneCell'=true
 |[],us,h=>by simp only[b7]at h;subst h;simp
 |x::xs,us,h=>by
  simp only[b7]at h;obtain⟨u,d,rfl,⟨_,_,a⟩,b⟩:=h;intro c aA;rcases lF.1 aA with aA|aA
  ·exact a c aA
  ·exact qW b c aA
def uF{w:World}{ν:aC}{sz:Nat}:∀{b cZ:List aa} {aJ us:List Value},b7 w ν sz b aJ->b7 w ν sz cZ us->b7 w ν sz (b++cZ) (aJ++us)
 |[],cZ,aJ,us,h,a=>by simp only[b7]at h;subst h;simpa using a
 |p::b,cZ,aJ,us,h,a=>by simp only[b7]at h;obtain⟨u,c,rfl,I,J⟩:=h;simp only[List.cons_append,b7];exact⟨u,c++us,Ψ,I,uF J a⟩
def Iq{w:World}{ν:aC}{sz:Nat}:∀(n:Nat) {xs:List aa} {us:List Value},b7 w ν sz xs us->b7 w ν sz (xs.drop n) (us.drop (n*sz))
 |0,_,_,h=>by simpa using h
 |n+1,[],us,h=>by simp only[b7]at h;subst h;simp[b7]
 |n+1,x::xs,us,h=>by
  simp only[b7]at h;obtain⟨u,b,rfl,⟨_,J,_⟩,a⟩:=h;have:u.cells.toList.length=sz:=by simpa using J
  rw[El _ _ _ _ this];simpa using Iq n a
def It{w:World}{ν:aC}{sz:Nat}:∀(n:Nat) {xs:List aa} {us:List Value},b7 w ν sz xs us->b7 w ν sz (xs.take n) (us.take (n*sz))
 |0,_,_,_=>by simp[b7]
 |n+1,[],us,h=>by simp only[b7]at h;subst h;simp[b7]
 |n+1,x::xs,us,h=>by
  simp only[b7]at h;obtain⟨u,b,rfl,⟨I,J,a⟩,c⟩:=h;have:u.cells.toList.length=sz:=by simpa using J
  simp only[List.take_succ_cons,b7];refine⟨u,b.take (n*sz),?_,⟨I,J,a⟩,It n c⟩;rw[Jf _ _ _ _ this]
def oK(sz:Nat)(p:aa):Prop:= ∃cs,p= .agg cs/\cs.length=sz
def q1(agg:Bool)(sz b n i f:Nat):aT cw->aT (Prop×aa)
 |some ⟨n',_,a,some xs⟩=>if n'=n/\a=b then
   (match xs[i]? with
    |some p=>if agg then some (dd p=true/\f+sz<=(cells p).length,.agg (((cells p).drop f).take sz))else((cells p)[f]?).map fun q=>(dd p=true,q)
    |none=>none)else none
 |_=>none
def iZ(b:List (ar×List aa))(e:List (ar×cw))(agg:Bool)(sz:Nat):aa->aT (Prop×aa)
 | .rptr a k n i f=>q1 agg sz a n i f (ab k e)
 | .ptr k off=>
  match ab k b with
  |some cs=>if agg then some (et cs=true/\off+sz<=cs.length,.agg ((cs.drop off).take sz))else(cs[off]?).map fun p=>(et cs=true,p)
  |none=>none
 | .eptr p=>if agg then some (oK sz p,p)else some (dd p=true/\cells p=[p],p)
 |_=>none
def tu(agg:Bool)(sz:Nat):aa->aT (Prop×aa)
 | .eptr p=>if agg then some (oK sz p,p)else some (dd p=true/\cells p=[p],p)
 |_=>none
def Nt{b:List (ar×List aa)}{e:List (ar×cw)}{agg:Bool}{sz:Nat}{p:aa}{r:Prop×aa}(h:tu agg sz p=some r):iZ b e agg sz p=some r:=by
 cases p<;>simp only[tu]at h<;>first|cases h;done|skip
 simpa only[iZ]using h
def Ql{b:List (ar×List aa)}{e:List (ar×cw)}{agg:Bool}{sz:Nat}{p:aa}{r:Prop×aa}(h:iZ b [] agg sz p=some r):iZ b e agg sz p=some r:=by cases p<;>simp only[iZ]at h⊢ <;>first|exact h|(simp[ab,q1]at h)
def ml(off:Nat)(agg:Bool)(sz:Nat):aa->aT (Prop×aa)
 | .ptr k o=>some (True,.ptr k (o+off))
 | .rptr a k n i f=>some (True,.rptr a k n i (f+off))
 | .eptr (.agg cs)=>if agg then some (off+sz<=cs.length,.eptr (.agg ((cs.drop off).take sz)))else(cs[off]?).map fun p=>(dd p=true/\cells p=[p],.eptr p)
 |_=>none
def oh(off:Nat)(agg:Bool)(sz:Nat):aa->aT (Prop×aa)
 | .agg cs=>if agg then some (off+sz<=cs.length,.agg ((cs.drop off).take sz))else(cs[off]?).map fun p=>(True,p)
 |_=>none
def r2(sz:Nat):aa->aa->aT (Prop×aa)
 | .slice a _ xs,.int _ i=>if a=sz then some (0<=i/\i<xs.length,.eptr (xs.getD i.toNat .junk))else none
 | .row a k n,.int _ i=>if a=sz then some (0<=i/\i<n,.rptr a k n i.toNat 0)else none
 |_,_=>none
def x5:aa->aa->aT (Prop×aa)
 | .str s,.int _ i=>some (0<=i/\i<s.length,.int .u8 (s.getD i.toNat 0).toNat)
 |_,_=>none
def l0(a:Int):aT aa->aT Int
 |none=>some a
 |some (.int _ i)=>some i
 |_=>none
def x8(x:aa)(lo az:aT aa):aT (Prop×aa):=
 match x with
 | .str s=>match l0 0 lo,l0 s.length az with
  |some l,some h=>some (0<=l/\l<=h/\h<=s.length,.str ((s.take h.toNat).drop l.toNat))
  |_,_=>none
 |_=>none
def xe(sz:Nat)(x:aa)(lo az:aT aa):aT (Prop×aa):=
 match x with
 | .slice a _ xs=>if a=sz then match l0 0 lo,l0 xs.length az with
  |some l,some h=>some (0<=l/\l<=h/\h<=xs.length,.slice sz .no ((xs.take h.toNat).drop l.toNat))
  |_,_=>none else none
 |_=>none
def r3(n:Int):Prop:= -9223372036854775808<=n/\n<=9223372036854775807
def wZ(op:BinOp)(wr:Bool)(k:IntKind)(a b:Int):aT (Prop×aa):=
 match op with
 | .add=>if wr then some (True,.int k (k.wrap (a+b)))else some (k= .i64/\r3 (a+b),.int .i64 (a+b))
 | .sub=>if wr then some (True,.int k (k.wrap (a-b)))else some (k= .i64/\r3 (a-b),.int .i64 (a-b))
 | .mul=>if wr then some (True,.int k (k.wrap (a*b)))else some (k= .i64/\r3 (a*b),.int .i64 (a*b))
 | .quo=>some (b≠0,.int k (k.wrap (a.tdiv b)))
 | .rem=>some (b≠0,.int k (a.tmod b))
 | .eql=>some (True,.bool (a==b))
 | .neq=>some (True,.bool (a !=b))
 | .lss=>some (True,.bool (decide (a<b)))
 | .leq=>some (True,.bool (decide (a<=b)))
 | .gtr=>some (True,.bool (decide (b<a)))
 | .geq=>some (True,.bool (decide (b<=a)))
 | .and=>some (True,.int k (k.wrap (BitVec.ofInt k.bits a&&& BitVec.ofInt k.bits b).toNat))
 | .or=>some (True,.int k (k.wrap (BitVec.ofInt k.bits a|||BitVec.ofInt k.bits b).toNat))
 | .xor=>some (True,.int k (k.wrap (BitVec.ofInt k.bits a ^^^ BitVec.ofInt k.bits b).toNat))
 |_=>none
def x9(op:BinOp)(a b:List cF):aT (Prop×aa):=
 match op with
 | .add=>some (a.length+b.length<=cH,.str (a++b))
 | .eql=>some (True,.bool (a==b))
 | .neq=>some (True,.bool (!(a==b)))
 | .lss=>some (True,.bool (fX a b))
 | .leq=>some (True,.bool (fX a b||a==b))
 | .gtr=>some (True,.bool (!(fX a b||a==b)))
 | .geq=>some (True,.bool (!fX a b))
 |_=>none
def qg(op:BinOp)(wr:Bool):aa->aa->aT (Prop×aa)
 | .int k a,.int aQ b=>match op with
  | .shl=>some (0<=b,.int k (k.wrap (a*2 ^ (min b.toNat k.bits))))
  | .shr=>some (0<=b,.int k (a.fdiv (2 ^ (min b.toNat k.bits))))
  |_=>if k=aQ then wZ op wr k a b else none
 | .str a,.str b=>x9 op a b
 |_,_=>none
def jR(cs:List aa)(off:Nat)(a:List aa):List aa:=cs.take off++a++cs.drop (off+a.length)
def n7(t:List (Nat×aa)):List aa->List (Nat×Nat×cq)->aT (Prop×List aa)
 |cs,[]=>some (True,cs)
 |cs,(off,sz,x)::r=>
  let p:=bn t x
  match n7 t (jR cs off (cells p)) r with
  |some (c,cs')=>some ((dd p=true/\(cells p).length=sz/\off+sz<=cs.length)/\c,cs')
  |none=>none
def xD(c x y:aa):aT (Prop×aa):=
 match c with
 | .bool b=>match x,y with
  | .bool u,.bool v=>some (True,.bool (cond b u v))
  |p,q=>match b with
   |true=>some (True,p)
   |false=>some (True,q)
 |_=>none
def xp:aa->aT (Prop×aa)
 | .bool b=>some (True,.bool (!b))
 |_=>none
def xl:aa->aT (Prop×aa)
 | .int k n=>some (True,.int k (k.wrap (0-n)))
 |_=>none
def rF(i:Nat):aa->aT (Prop×aa)
 | .tuple aJ=>(aJ[i]?).map fun p=>(True,p)
 |_=>none
def sc:aa->aT (Prop×aa)
 | .slice _ _ xs=>some (True,.int .i64 xs.length)
 | .row _ _ n=>some (True,.int .i64 n)
 | .cst (.slice _ n _)=>some (True,.int .i64 n)
 |_=>none
def uS:aa->aT (Prop×aa)
 | .str s=>some (True,.int .i64 s.length)
 | .cst (.string s)=>some (True,.int .i64 s.size)
 |_=>none
def vE(k:IntKind):aa->aT (Prop×aa)
 | .int _ n=>some (True,.int k (k.wrap n))
 |_=>none
def lM:List aa->aT (List cF)
 |[]=>some []
 | .int .u8 n::r=>(lM r).map (UInt8.ofNat n.toNat:: ·)
 |_=>none
def vn:aa->aT (Prop×aa)
 | .slice _ _ xs=>(lM xs).map fun s=>(True,.str s)
 |_=>none
def sm:aa->aT (Prop×aa)
 | .ptr k o=>some (True,.ptr k o)
 | .eptr p=>some (True,.eptr p)
 | .func f cs=>some (True,.func f cs)
 |_=>none
def xj:aa->aa->aT (Prop×aa)
 | .int k a,.int aQ b=>if k=aQ then some (True,.int k (if b<a then b else a))else none
 |_,_=>none
def hs:List Bool->List aa->List aa->aT Bool
 |[],[],[]=>some true
 |false::r,.int k a::as,.int aQ b::c=>if k=aQ then(hs r as c).map fun q=>(a==b)&&q else none
 |true::r,.str a::as,.str b::c=>(hs r as c).map fun q=>(a==b)&&q
 |_,_,_=>none
inductive gP where
 |i
 |s
 |a (cK:List Bool)
 deriving DecidableEq
def qJ:gP->aa->aa->aT Bool
 | .i,.int k a,.int aQ b=>if k=aQ then some (a==b)else none
 | .s,.str a,.str b=>some (a==b)
 | .a d,.agg as,.agg c=>hs d as c
 |_,_,_=>none
def r8:gP->aa->Bool
 | .a a,.agg as=>(hs a as as).isSome
 | .a _,_=>false
 |_,_=>true
@[simp]def P8(k:aa):r8 .i k=true:=by cases k<;>rfl
def si(a:gP)(k:aa):List aa->aT (aT aa)
 |aQ::v::r=>match qJ a k aQ with
  |some true=>some (some v)
  |some false=>si a k r
  |none=>none
 |_=>some none
def oQ(b:ar->aT (List aa))(a:gP)(zero:aa)(ok:Bool)(x k:aa):aT (Prop×aa):=
 match x with
 | .gmap key=>match b key with
  |some (.hdm _ _::kvs)=>if r8 a k=false then none else match si a k kvs with
   |some (some v)=>some (True,if ok then .tuple [v,.bool true]else v)
   |some none=>some (True,if ok then .tuple [zero,.bool false]else zero)
   |none=>none
  |_=>none
 |_=>none
def sk(b:ar->aT (List aa))(x:aa):aT (Prop×aa):=
 match x with
 | .gmap key=>match b key with
  |some (.hdm _ borns::_)=>some (True,.int .i64 borns.length)
  |_=>none
 |_=>none
def vo(neg:Bool):aT (List Bool)->aa->aa->aT (Prop×aa)
 |none,.bool a,.bool b=>some (True,.bool (if neg then a !=b else a==b))
 |some d,.agg as,.agg c=>(hs d as c).map fun q=>(True,.bool (if neg then !q else q))
 |_,_,_=>none
def xh:aa->aa->aT (Prop×aa)
 | .int k a,.int aQ b=>if k=aQ then some (True,.int k (if a<b then b else a))else none
 |_,_=>none
def qQ(a:gP)(k v:aa):List aa->aT (aT (List aa))
 |aQ::v'::r=>match qJ a k aQ with
  |some true=>some (some (k::v::r))
  |some false=>match qQ a k v r with
   |some (some b)=>some (some (aQ::v'::b))
   |some none=>some none
   |none=>none
  |none=>none
 |_=>some none
def kl(n:Nat):List Nat->List aa->aT aa
 |b::a,k::v::r=>if b=n then some (.tuple [k,v])else kl n a r
 |_,_=>none
def nI(b:ar->aT (List aa))(x:aa):aT (Prop×aa):=
 match x with
 | .ptr ff 0=>match b ff with
  |some [.hdi _ seen last,.gmap mk]=>match b mk with
   |some (.hdm clock borns::kvs)=>match seen.getLast? with
    |some n=>(kl n borns kvs).map fun p=>(clock=last,p)
    |none=>none
   |_=>none
  |_=>none
 |_=>none
def He{f g:ar->aT (List aa)}(h:∀k,f k≠none->g k=f k){b:gP}{zero:aa}{ok:Bool}{x k:aa}{r:Prop×aa}(he:oQ f b zero ok x k=some r):oQ g b zero ok x k=some r:=by
 unfold oQ at he⊢;split at he
 ·rename_i key;cases a:f key with
  |none=>simp[a]at he
  |some cs=>rw[h key (by rw[a];simp),a];rw[a]at he;exact he
 ·cases he
def QR{f g:ar->aT (List aa)}(h:∀k,f k≠none->g k=f k){x:aa}{r:Prop×aa}(he:sk f x=some r):sk g x=some r:=by
 unfold sk at he⊢;split at he
 ·rename_i key;cases a:f key with
  |none=>simp[a]at he
  |some cs=>rw[h key (by rw[a];simp),a];rw[a]at he;exact he
 ·cases he
def Qx{f g:ar->aT (List aa)}(h:∀k,f k≠none->g k=f k){x:aa}{r:Prop×aa}(he:nI f x=some r):nI g x=some r:=by
 unfold nI at he⊢;split at he
 ·rename_i ff;cases b:f ff with
  |none=>simp[b]at he
  |some cs=>
   simp only[h ff (by rw[b];simp),b]at he⊢;split at he
   ·rename_i since seen last mk c;cases a:f mk with
    |none=>simp[a]at he
    |some d=>simp only[h mk (by rw[a];simp),a]at he⊢;exact he
   ·cases he
 ·cases he
inductive ee where
 |mov (x:cq)
 |pick (c x y:cq)
 |load (agg:Bool) (sz:Nat) (x:cq)
 |faddr (off:Nat) (agg:Bool) (sz:Nat) (x:cq)
 |fld (off:Nat) (agg:Bool) (sz:Nat) (x:cq)
 |iaddr (sz:Nat) (x i:cq)
 |sidx (x i:cq)
 |ssl (x:cq) (lo az:aT cq)
 |lsl (sz:Nat) (x:cq) (lo az:aT cq)
 |bin (op:BinOp) (wr:Bool) (x y:cq)
 |notB (x:cq)
 |neg (x:cq)
 |conv (k:IntKind) (x:cq)
 |ext (i:Nat) (x:cq)
 |len (x:cq)
 |slen (x:cq)
 |build (zero:List aa) (parts:List (Nat×Nat×cq))
 |nck (x:cq)
 |min2 (x y:cq)
 |mkf (n:Nat) (xs:List cq)
 |mget (bB:gP) (zero:aa) (ok:Bool) (x k:cq)
 |ment (x:cq)
 |mlen (x:cq)
 |beq (neg:Bool) (cK:aT (List Bool)) (x y:cq)
 |max2 (x y:cq)
 |mkif (t:Nat) (x:cq)
 |loadB (agg:Bool) (sz:Nat) (x:cq)
 |mgetB (bB:gP) (zero:aa) (ok:Bool) (x k:cq)
 |loadZ (agg:Bool) (sz:Nat) (x:cq)
 |b2s (x:cq)
def e2(st:aN):ee->aT (Prop×aa)
 | .mov x=>some (True,bn st.t x)
 | .pick c x y=>xD (bn st.t c) (bn st.t x) (bn st.t y)
 | .load agg sz x=>iZ st.b st.e agg sz (bn st.t x)
 | .faddr off agg sz x=>ml off agg sz (bn st.t x)
 | .fld off agg sz x=>oh off agg sz (bn st.t x)
 | .iaddr sz x i=>r2 sz (bn st.t x) (bn st.t i)
 | .sidx x i=>x5 (bn st.t x) (bn st.t i)
 | .ssl x lo az=>x8 (bn st.t x) (lo.map (bn st.t)) (az.map (bn st.t))
 | .lsl sz x lo az=>xe sz (bn st.t x) (lo.map (bn st.t)) (az.map (bn st.t))
 | .bin op wr x y=>qg op wr (bn st.t x) (bn st.t y)
 | .notB x=>xp (bn st.t x)
 | .neg x=>xl (bn st.t x)
 | .conv k x=>vE k (bn st.t x)
 | .ext i x=>rF i (bn st.t x)
 | .len x=>sc (bn st.t x)
 | .slen x=>uS (bn st.t x)
 | .build zero parts=>(n7 st.t zero parts).map fun(c,cs)=>(c,.agg cs)
 | .nck x=>sm (bn st.t x)
 | .min2 x y=>xj (bn st.t x) (bn st.t y)
 | .mkf n xs=>some (True,.func n (xs.map (bn st.t)))
 | .mget a zero ok x k=>oQ (fun k=>ab k st.b) a zero ok (bn st.t x) (bn st.t k)
 | .ment x=>nI (fun k=>ab k st.b) (bn st.t x)
 | .mlen x=>sk (fun k=>ab k st.b) (bn st.t x)
 | .beq neg b x y=>vo neg b (bn st.t x) (bn st.t y)
 | .max2 x y=>xh (bn st.t x) (bn st.t y)
 | .mkif t x=>some (True,.iface t (bn st.t x))
 | .loadB agg sz x=>iZ st.b [] agg sz (bn st.t x)
 | .mgetB a zero ok x k=>oQ (fun k=>ab k st.b) a zero ok (bn st.t x) (bn st.t k)
 | .loadZ agg sz x=>tu agg sz (bn st.t x)
 | .b2s x=>vn (bn st.t x)
def ss(aE:List (Nat×cQ))(a:List (Nat×Nat)):List (Nat×Nat×cq)->List (Nat×Operand)->Bool
 |[],[]=>true
 |(off,sz,x)::r,(i,o)::s=>(match a[i]? with|some (b,t)=>off==b&&((cY aE t).map (·.size))==some sz|none=>false)&&c4 x o&&ss aE a r s
 |_,_=>false
def yl:aa->aa->Bool
 | .int k n,.int aQ n'=>decide (k=aQ/\n=n')
 | .bool b,.bool dR=>b==dR
 | .str [],.str []=>true
 | .slice a .nil [],.slice b .nil []=>a==b
 | .nilp,.nilp=>true
 | .junk,.junk=>true
 |_,_=>false
def rh:List aa->List aa->Bool
 |[],[]=>true
 |c::cs,d::a=>yl c d&&rh cs a
 |_,_=>false
def sV:aa->aa->Bool
 | .agg cs,.agg a=>rh cs a
 | .agg _,_=>false
 |p,q=>yl p q
def qS:List cq->List Operand->Bool
 |[],[]=>true
 |x::xs,o::os=>c4 x o&&qS xs os
 |_,_=>false
def rH(aE:List (Nat×cQ)):Nat->List Bool->List (Nat×Nat)->Bool
 |_,[],[]=>true
 |n,b::r,(off,t)::a=>off==n&&(match cY aE t with|some ⟨_,_,.int _,_⟩=> !b|some ⟨_,_,.str,_⟩=>b|_=>false)&&rH aE (n+1) r a
 |_,_,_=>false
def vR(aE:List (Nat×cQ))(a:List Bool)(t:Nat):Bool:=match cY aE t with
 |some ⟨_,_,.struct gs,_⟩=>rH aE 0 a gs
 |_=>false
def qK(aE:List (Nat×cQ))(b:gP)(t:Nat):Bool:=match b with
 | .i=>(match cY aE t with|some ⟨_,_,.int _,_⟩=>true|_=>false)
 | .s=>(match cY aE t with|some ⟨_,_,.str,_⟩=>true|_=>false)
 | .a a=>vR aE a t
def CD:List aa->aa->Bool
 |cs,.agg a=>rh cs a
 |_,_=>false
def pY:aT cq->aT Operand->Bool
 |none,none=>true
 |some x,some o=>c4 x o
 |_,_=>false
def u0(aE:List (Nat×cQ)):ee->Op->Bool
 | .mov x,.move o=>c4 x o
 | .mov x,.assign o=>c4 x o
 | .pick c x y,.pick v u y'=>c4 c v&&c4 x u&&c4 y y'
 | .load agg sz x,.load t o=>(match cY aE t with|some f=>f.size==sz&&f.kind.isAgg==agg|none=>false)&&c4 x o
 | .faddr off agg sz x,.fieldAddr s o i=>
  (match cY aE s with
   |some ⟨_,_,.struct a,_⟩=>(match a[i]? with|some (g,t)=>off==g&&(match cY aE t with|some f=>f.size==sz&&f.kind.isAgg==agg&&sz !=0|none=>false)|none=>false)
   |_=>false)&&c4 x o
 | .fld off agg sz x,.field s o i=>
  (match cY aE s with
   |some ⟨_,_,.struct a,_⟩=>(match a[i]? with|some (g,t)=>off==g&&(match cY aE t with|some f=>f.size==sz&&f.kind.isAgg==agg|none=>false)|none=>false)
   |_=>false)&&c4 x o
 | .iaddr sz x i,.indexAddr t o j=>(match cY aE t with|some ⟨_,_,.slice e,_⟩=>(match cY aE e with|some f=>f.size==sz|none=>false)|_=>false)&&c4 x o&&c4 i j
 | .sidx x i,.index t o j=>(match cY aE t with|some ⟨_,_,.str,_⟩=>true|_=>false)&&c4 x o&&c4 i j
 | .ssl x lo az,.slice t o l h none=>(match cY aE t with|some ⟨_,_,.str,_⟩=>true|_=>false)&&c4 x o&&pY lo l&&pY az h
 | .lsl sz x lo az,.slice t o l h none=>(match cY aE t with|some ⟨_,_,.slice e,_⟩=>(match cY aE e with|some f=>f.size==sz|none=>false)|_=>false)&&c4 x o&&pY lo l&&pY az h
 | .bin op _ x y,.binOp A _ o o' _=>decide (op=A)&&c4 x o&&c4 y o'
 | .notB x,.unOp op _ o=>decide (op= .not)&&c4 x o
 | .neg x,.unOp op _ o=>decide (op= .neg)&&c4 x o
 | .conv k x,.convert s d o=>(match cY aE s,cY aE d with|some ⟨_,_,.int _,_⟩,some ⟨_,_,.int aQ,_⟩=>decide (k=aQ)|_,_=>false)&&c4 x o
 | .ext i x,.extract o j=>i==j&&c4 x o
 | .len x,.call ⟨.builtin .len,⟨[o]⟩,⟨[t]⟩⟩=>(match cY aE t with|some ⟨_,_,.slice _,_⟩=>true|_=>false)&&c4 x o
 | .slen x,.call ⟨.builtin .len,⟨[o]⟩,⟨[t]⟩⟩=>(match cY aE t with|some ⟨_,_,.str,_⟩=>true|_=>false)&&c4 x o
 | .build zero parts,.build t w=>(match cY aE t with|some ⟨_,_,.struct a,z⟩=>CD zero z&&(a.all fun x=>(cY aE x.2).isSome)&&ss aE a parts w.toList|_=>false)
 | .nck x,.nilCheck o=>c4 x o
 | .min2 x y,.call ⟨.builtin .min,⟨[o,o']⟩,⟨[_,_]⟩⟩=>c4 x o&&c4 y o'
 | .mkf n xs,.makeFunc (.func m) ⟨[]⟩ os=>n==m&&qS xs os.toList
 | .mget r zero ok x k,.lookup t o o' b=>ok==b&&(match cY aE t with|some ⟨_,_,.map q p,_⟩=>qK aE r q&&(match cY aE p with|some f=>sV zero f.zero|none=>false)|_=>false)&&c4 x o&&c4 k o'
 | .ment x,.entry o=>c4 x o
 | .mlen x,.call ⟨.builtin .len,⟨[o]⟩,⟨[t]⟩⟩=>(match cY aE t with|some ⟨_,_,.map _ _,_⟩=>true|_=>false)&&c4 x o
 | .beq neg a x y,.binOp op t o o' _=>decide (op=if neg then .neq else .eql)&&(match a with|none=>(match cY aE t with|some ⟨_,_,.bool,_⟩=>true|_=>false)|some a=>vR aE a t)&&c4 x o&&c4 y o'
 | .max2 x y,.call ⟨.builtin .max,⟨[o,o']⟩,⟨[_,_]⟩⟩=>c4 x o&&c4 y o'
 | .mkif t x,.makeInterface t' o=>t==t'&&(match cY aE t with|some ⟨_,_,.slice _,_⟩=>true|_=>false)&&c4 x o
 | .loadB agg sz x,.load t o=>(match cY aE t with|some f=>f.size==sz&&f.kind.isAgg==agg|none=>false)&&c4 x o
 | .b2s x,.convert s d o=>(match cY aE s,cY aE d with|some ⟨_,_,.slice e,_⟩,some ⟨_,_,.str,_⟩=>(match cY aE e with|some ⟨_,_,.int .u8,_⟩=>true|_=>false)|_,_=>false)&&c4 x o
 | .loadZ agg sz x,.load t o=>(match cY aE t with|some f=>f.size==sz&&f.kind.isAgg==agg|none=>false)&&c4 x o
 | .mgetB r zero ok x k,.lookup t o o' b=>ok==b&&(match cY aE t with|some ⟨_,_,.map q p,_⟩=>qK aE r q&&(match cY aE p with|some f=>sV zero f.zero|none=>false)|_=>false)&&c4 x o&&c4 k o'
 |_,_=>false
end
section
open Go Go.RowKit
def zb(P:bp)(w:World)(op:BinOp)(t:ey)(x y:Operand)(k aQ:IntKind)(m n:Int):(eqGuard op t x y (.int k m) (.int aQ n)).run P w= .ok () w:=by cases op<;>rfl
def Lv(P:bp)(w:World)(op:BinOp)(t:ey)(x y:Operand)(m n:ByteArray):(eqGuard op t x y (.string m) (.string n)).run P w= .ok () w:=by cases op<;>rfl
def S4(l:List cF):(⟨l.toArray⟩:ByteArray).toList=l:=Ψ
def Kk(a b:List cF):(⟨a.toArray⟩:ByteArray)++(⟨b.toArray⟩:ByteArray)=⟨(a++b).toArray⟩:=by apply TP;simp
def Mp(a:List cF)(l h:Nat):(⟨a.toArray⟩:ByteArray).extract l h=⟨((a.take h).drop l).toArray⟩:=by apply TP;simp[List.drop_take]
def uR(a:List cF):(⟨a.toArray⟩:ByteArray).size=a.length:=by simp[XT]
section
variable {P:bp} {w:World} {r:Sem Value}
def mn{k:IntKind}{x:Int}(h:r.run P w= .ok (.int k x) w):∃v,r.run P w= .ok v w/\∀ν,aw w ν (.int k x) v:=⟨_,h,fun ν=>by simp[aw]⟩
def Fe{x:Bool}(h:r.run P w= .ok (.bool x) w):∃v,r.run P w= .ok v w/\∀ν,aw w ν (.bool x) v:=⟨_,h,fun ν=>by simp[aw]⟩
end
def PQ(P:bp)(w:World){op:BinOp}{wr:Bool}{k:IntKind}{a b:Int}{c:Prop}{p:aa}(he:wZ op wr k a b=some (c,p))(aA:c)(t:ey):
  ∃v,(binOp op t (.int k a) (.int k b)).run P w= .ok v w/\∀ν,aw w ν p v:=by
 cases op<;>simp only[wZ]at he;case add=>
  cases wr<;>simp only[if_true,hX,if_false]at he<;>cases he
  ·obtain⟨rfl,h⟩:=aA;exact mn (by simp[binOp,Op.intArith,IntWalk.i64_in _ h])
  ·exact mn (by simp[binOp,Op.intArith])
 case sub=>
  cases wr<;>simp only[if_true,hX,if_false]at he<;>cases he
  ·obtain⟨rfl,h⟩:=aA;exact mn (by simp[binOp,Op.intArith,IntWalk.i64_in _ h])
  ·exact mn (by simp[binOp,Op.intArith])
 case mul=>
  cases wr<;>simp only[if_true,hX,if_false]at he<;>cases he
  ·obtain⟨rfl,h⟩:=aA;exact mn (by simp[binOp,Op.intArith,IntWalk.i64_in _ h])
  ·exact mn (by simp[binOp,Op.intArith])
 case quo=>cases he;exact mn (by simp[binOp,Op.intDiv,aA])
 case rem=>cases he;exact mn (by simp[binOp,Op.intDiv,aA])
 case and=>cases he;exact mn (by simp only[binOp,Op.intBits,ne_eq,not_true_eq_false,if_false,eP])
 case or=>cases he;exact mn (by simp only[binOp,Op.intBits,ne_eq,not_true_eq_false,if_false,eP])
 case xor=>cases he;exact mn (by simp only[binOp,Op.intBits,ne_eq,not_true_eq_false,if_false,eP])
 all_goals cases he
 all_goals exact Fe (by simp only[binOp,Op.intCmp,ne_eq,not_true_eq_false,if_false,eP,gt_iff_lt,ge_iff_le])
def SK(P:bp)(w:World){op:BinOp}{a b:List cF}{c:Prop}{p:aa}(he:x9 op a b=some (c,p))(aA:c)(t:ey):
  ∃v,(binOp op t (.string ⟨a.toArray⟩) (.string ⟨b.toArray⟩)).run P w= .ok v w/\∀ν,aw w ν p v:=by
 cases op<;>simp only[x9]at he;case add=>
  cases he;refine⟨.string ⟨(a++b).toArray⟩,?_,fun ν=>by simp only[aw];exact⟨trivial,by simpa using aA⟩⟩;have I:¬(((⟨a.toArray⟩:ByteArray).size+(⟨b.toArray⟩:ByteArray).size:Nat):Int)>nW.max:=by
   have:nW.max=9223372036854775807:=by decide
   rw[this,uR,uR];simp only[cH]at aA;omega
  simp only[binOp,Op.stringOp,I,if_false,eP,Kk]
 all_goals cases he
 all_goals exact Fe (by simp only[binOp,Op.stringOp,S4,eP])
def Kw(P:bp)(w:World)(ν:aC){op:BinOp}{wr:Bool}{x y:aa}{c:Prop}{p:aa}(he:qg op wr x y=some (c,p))(aA:c)(t:ey){u v:Value}(hu:aw w ν x u)(d:aw w ν y v)(o o':Operand):
  ∃r,(do eqGuard op t o o' u v;binOp op t u v).run P w= .ok r w/\aw w ν p r:=by
 unfold qg at he;split at he
 ·rename_i k a aQ b;simp only[aw]at hu d;subst hu;subst d;split at he
  ·cases he;refine⟨_,?_,by simp[aw];rfl⟩;simp[binOp,Op.shift,zb,Int.not_lt.2 aA]
  ·cases he;refine⟨_,?_,by simp[aw];rfl⟩;simp[binOp,Op.shift,zb,Int.not_lt.2 aA]
  ·split at he
   ·rename_i U;subst U;obtain⟨r,I,J⟩:=PQ P w he aA t;exact⟨r,by simp[zb,I],J ν⟩
   ·cases he
 ·simp only[aw]at hu d;rw[hu.1,d.1];obtain⟨r,I,J⟩:=SK P w he aA t;exact⟨r,by simp[Lv,I],J ν⟩
 ·cases he
def zo{w:World}{ν:aC}:∀(v:List Value) (i off:Nat) (cs:Array Value),off+i+v.length<=cs.size->
  ((v.zipIdx i).foldl (fun cs (x:Value×Nat)=>cs.setIfInBounds (off+x.2) x.1) cs).toList=cs.toList.take (off+i)++v++cs.toList.drop (off+i+v.length)
 |[],i,off,cs,_=>by simp
 |u::v,i,off,cs,h=>by
  simp only[List.zipIdx_cons,List.foldl_cons];rw[zo (w:=w) (ν:=ν) v (i+1) off _ (by simp at h⊢;omega)];have a:off+i<cs.toList.length:=by simp at h⊢;omega
  simp only[Array.toList_setIfInBounds];have b:(cs.toList.set (off+i) u).take (off+(i+1))=cs.toList.take (off+i)++[u]:=by rw[show off+(i+1)=(off+i)+1 from by omega,List.take_succ_eq_append_getElem (by simpa using a)];simp[List.take_set_of_le (di _)]
  have c:(cs.toList.set (off+i) u).drop (off+(i+1)+v.length)=cs.toList.drop (off+i+(u::v).length):=by rw[List.drop_set_of_lt Ω];congr 1;simp;omega
  rw[b,c];simp
def IK{w:World}{ν:aC}{C:dk}{st:aN}{a:Act}(m:bO C st a w ν){aE:List (Nat×cQ)}{l:List (Nat×Nat)}{g:List (Nat×Nat)}
  (n:∀(i off t sz:Nat),l[i]? =some (off,t)->(cY aE t).map (·.size)=some sz->g[i]? =some (off,sz)):
  ∀(parts:List (Nat×Nat×cq)) (e:List (Nat×Operand)) (cs:List aa) (us:Array Value) (c:Prop) (cs':List aa),ss aE l parts e=true->bL w ν cs us.toList->n7 st.t cs parts=some (c,cs')->c->
  ∃d:Array Value,Instr.fill (g.toArray[·]?) us (e.map fun(x:Nat×Operand)=>(x.1,a.eval x.2))=some d/\bL w ν cs' d.toList
 |[],[],cs,us,c,cs',_,h,he,aA=>by simp only[n7]at he;cases he;exact⟨us,by simp[Instr.fill],h⟩
 |[],_::_,_,_,_,_,b,_,_,_=>by simp[ss]at b
 |_::_,[],_,_,_,_,b,_,_,_=>by simp[ss]at b
 |(off,sz,x)::parts,(i,o)::e,cs,us,c,cs',b,h,he,aA=>by
  simp only[ss,bN]at b;obtain⟨⟨I,J⟩,B⟩:=b;split at I
  ·rename_i G t q;simp only[bN,c2]at I;obtain⟨rfl,I⟩:=I;have r:=n i off t sz q I;simp only[n7]at he;split at he
   ·rename_i y H E;cases he;obtain⟨⟨A,z,hle⟩,u⟩:=aA;have F:=db m J;have k:=oY F A;have hlen:=kY k;have s:=kY h;have j:(a.eval o).cells.size=sz:=by have:(a.eval o).cells.toList.length=(cells (bn st.t x)).length:=hlen;rw[z]at this;simpa using this
    have f:us.size=cs.length:=by simpa using s
    have p:=zo (w:=w) (ν:=ν) (a.eval o).cells.toList 0 off us (by simp[j,f];omega);have v:bL w ν (jR cs off (cells (bn st.t x))) ((((a.eval o).cells.toList.zipIdx 0).foldl (fun cs (x:Value×Nat)=>cs.setIfInBounds (off+x.2) x.1) us).toList):=by rw[p];unfold jR;refine qX (qX (uH off h) k) ?_;rw[Nat.add_zero,hlen];exact sG _ h
    obtain⟨d,g1,g2⟩:=IK m n parts e _ _ y cs' B v E u;refine⟨d,?_,g2⟩;simp only[gG,Instr.fill,List.getElem?_toArray,r];rw[bH (by simp[j,f];omega)];rw[<-g1];simp only[List.getElem?_toArray];congr 1;rw[<-Array.foldl_toList];simp
   ·cases he
  ·cases I
end
section
open Go Go.RowKit
def o5{P:bp}{aE:List (Nat×cQ)}(b:e1 P aE=true){t:Nat}{f:cQ}(e:cY aE t=some f)(w:World):
  (Go.isAgg t).run P w= .ok f.kind.isAgg w/\(sizeOf t).run P w= .ok f.size w:=by
 obtain⟨i,d,z,I,J,c,k,a,j,h,g⟩:=(o6 b e).ex;refine⟨?_,by simp[sizeOf,typeInfo,I,c]⟩;simp only[Go.isAgg,dQ,run_underlying J,dV];cases U:f.kind<;>rw[U]at a<;>cases d<;>simp[iv]at a<;>simp[s5.isAgg]
def fH{P:bp}{aE:List (Nat×cQ)}(a:e1 P aE=true){t:Nat}{f:cQ}(b:cY aE t=some f):∃d,P.underlying t=some d/\iv f.kind d=true:=by obtain⟨i,d,z,I,J,j,k,c,h,g,e⟩:=(o6 a b).ex;exact⟨d,J,c⟩
def mh{e:Nat}{d:TypeDesc}(h:iv (.slice e) d=true):d= .slice e:=by cases d<;>simp[iv]at h;subst h;rfl
def qj{d:TypeDesc}(h:iv .str d=true):d= .string:=by cases d<;>simp[iv]at h;rfl
def ti{k:IntKind}{d:TypeDesc}(h:iv (.int k) d=true):d= .int k:=by cases d<;>simp[iv]at h;subst h;rfl
def yW{a:List (Nat×Nat)}{d:TypeDesc}(h:iv (.struct a) d=true):∃gs:Array Field,d= .struct gs/\gs.toList.map (fun f=>(f.offset,f.type))=a:=by cases d<;>simp[iv]at h;rename_i gs;exact⟨gs,rfl,by simpa using h⟩
def xR{w:World}{ν:aC}{cs:List aa}{us:List Value}(h:bL w ν cs us)(off sz:Nat):bL w ν ((cs.drop off).take sz) ((us.drop off).take sz):=uH sz (sG off h)
def Hy{w:World}{base el sz n:Nat}{v:Value}{us:List Value}(h:w.ownsRow base el sz v n us){b:Nat}(a:v.ownBlock=some b):∃cap,v= .slice (some ⟨b,0,none⟩) n cap:=by
 rcases h.2 with⟨rfl,_⟩|⟨g,cap,cur,rfl,_⟩
 ·simp[jW]at a
 ·simp[jW]at a;subst a;exact⟨cap,rfl⟩
def Good.rowElem{pr:Nat->Prop}{w:World}{ν:aC}{b:List (ar×List aa)}{e:List (ar×cw)}(aM:Good pr w ν b e){k:ar}{n el sz:Nat}{xs:List aa}(U:ab k e=some ⟨n,el,sz,some xs⟩){i f:Nat}{u:Value}(m:aw w ν (.rptr sz k n i f) u){p:aa}(A:xs[i]? =some p):
  ∃(v:Value) (us:List Value) (B:Nat),aw w ν p v/\v.cells.size=sz/\∃b o,u= .pointer (some ⟨b,o,none⟩)/\∀j c,v.cells.toList[f+j]? =some c->w.cell? ⟨b,o+j,none⟩=some c:=by
 simp only[aw]at m;obtain⟨_,az,n',F,I,J,y⟩:=m;obtain⟨v,us,d,l,E,s⟩:=aM.own k _ U;rw[I]at d;simp only[dq,ho]at d;obtain⟨rfl,rfl⟩:=d;obtain⟨bl,z,rfl⟩:=y rfl;obtain⟨cap,rfl⟩:=Hy l z;obtain⟨x,g,_⟩:=s xs rfl;simp only at x g;obtain⟨v,r,h,q⟩:=xO i g A;refine⟨v,us,el,r,h,bl,_,rfl,fun j c a=>?_⟩;have t:f+j<sz:=by have:=(eQ.1 a).1;simp[h]at this;exact this
 have hmul:i*sz+sz<=n'*sz:=by have:=kv sz (show i+1<=n' from az);rwa[Nat.succ_mul]at this
 have aA:=l.cellAt (i*sz+f+j) (by show _<n'*sz;omega);rw[aA];rw[q,List.getElem?_take,if_pos t,List.getElem?_drop]at a;rw[<-a];congr 1;omega
def xc{P:bp}{aE:List (Nat×cQ)}(O:e1 P aE=true){pr:Nat->Prop}{w:World}{ν:aC}{b:List (ar×List aa)}{e:List (ar×cw)}(aM:Good pr w ν b e){t:Nat}{f:cQ}(S:cY aE t=some f)
  {x:aa} {u:Value} (l:aw w ν x u) {c:Prop} {p:aa} (he:iZ b e f.kind.isAgg f.size x=some (c,p)) (aA:c):∃v,(Instr.loadAt t u).run P w= .ok v w/\aw w ν p v:=by
 obtain⟨d,E⟩:=o5 O S w;generalize Y:f.kind.isAgg=h at*;generalize df:f.size=sz at*;unfold iZ at he;split at he
 ·rename_i cE k n i g;unfold q1 at he;split at he
  ·rename_i n' el Z xs U;split at he
   ·rename_i R;obtain⟨rfl,rfl⟩:=R;split at he
    ·rename_i M W;obtain⟨F,us,eb,g1,g2,a⟩:=Good.rowElem aM U l W;have X:dd M=true:=by
      cases h
      ·simp only[hX,if_false,ih]at he;obtain⟨q,_,he⟩:=he;cases he;exact aA
      ·simp only[if_true]at he;cases he;exact aA.1
     have A:=oY g1 X;cases h
     ·simp only[hX,if_false,ih]at he;obtain⟨q,r,he⟩:=he;cases he;obtain⟨v,f1,f2,f3⟩:=uG g A r;refine⟨v,?_,f2⟩;obtain⟨b,o,rfl,a⟩:=a;have:=a 0 v (by simpa using f1);simp only[Nat.add_zero]at this;simp[Instr.loadAt,Instr.sureAddr,loadVar,d,this]
     ·simp only[if_true]at he;cases he;obtain⟨b,o,rfl,a⟩:=a;refine⟨.agg ((F.cells.toList.drop g).take sz).toArray,?_,by simp only[aw];exact⟨_,rfl,by simpa using xR A g sz⟩⟩;have B:=kY A;have hlen:((F.cells.toList.drop g).take sz).length=sz:=by simp only[List.length_take,List.length_drop];omega
      have H:=run_loadCells_list (P:=P) w ⟨b,o,none⟩ ((F.cells.toList.drop g).take sz) (fun j v s=>by
       rw[j3];refine a j v ?_;rw[List.getElem?_take]at s;split at s
       ·simpa[List.getElem?_drop]using s
       ·cases s)
      rw[hlen]at H;simp only[Instr.loadAt,Instr.sureAddr,loadVar,dQ,eP,dV,d,if_true,E,H]
    ·cases he
   ·cases he
  ·cases he
 ·rename_i k off;simp only[aw]at l;obtain⟨bl,I,rfl⟩:=l;split at he
  ·rename_i cs U;obtain⟨e4,us,el,g1,g2,g3,g4,g5⟩:=aM.box k cs U;rw[I]at g1;cases g1;have G:et cs=true:=by
    cases h
    ·simp only[hX,if_false,ih]at he;obtain⟨q,r,he⟩:=he;cases he;exact aA
    ·simp only[if_true]at he;cases he;exact aA.1
   rw[jP G]at g4;rw[jQ G]at g5;have B:=kY g5;cases h
   ·simp only[hX,if_false,ih]at he;obtain⟨q,r,he⟩:=he;cases he;obtain⟨v,f1,f2,f3⟩:=uG off g5 r;refine⟨v,?_,f2⟩;have a:w.cell? ⟨bl,off,none⟩=some v:=by simpa[World.cell?,g4]using f1
    simp[Instr.loadAt,Instr.sureAddr,loadVar,d,a]
   ·simp only[if_true]at he;cases he;replace aA:=aA.2;refine⟨_,?_,by simp only[aw];exact⟨_,rfl,by simpa using xR g5 off sz⟩⟩;simp only[Instr.loadAt,Instr.sureAddr,loadVar,dQ,eP,dV,d,if_true,E];rw[Sr g4 (by simp at B;omega)];rfl
  ·cases he
 ·rename_i q;simp only[aw]at l;obtain⟨bl,off,N,rfl,J,z⟩:=l;cases h
  ·simp only[hX,if_false]at he;cases he;obtain⟨L,m⟩:=aA;obtain⟨g1,g2⟩:=BU J L (fun cs e=>by subst e;have:=eR lE m;simp only[cells,jX,List.length_nil]at this;cases cs with
    |nil=>simp[cells]at m
    |cons y ys=>simp only[cells,JY]at m;obtain⟨Q,V⟩:=m;subst V;have:=eR SizeOf.sizeOf Q;simp at this;omega)
   refine⟨N,?_,J⟩;rw[g2]at z;have a:=z.1.2;simp[Instr.loadAt,Instr.sureAddr,loadVar,d,a]
  ·simp only[if_true]at he;cases he;obtain⟨cs,rfl,hlen⟩:=aA;simp only[aw]at J;obtain⟨us,rfl,K⟩:=J;refine⟨.agg us,?_,by simp only[aw];exact⟨us,rfl,K⟩⟩;simp only[jV]at z;have B:=kY K;have:=IM (P:=P) z;rw[show us.toList.length=sz from by omega]at this;simp[Instr.loadAt,Instr.sureAddr,loadVar,d,E,this]
 ·cases he
def Nd{P:bp}{aE:List (Nat×cQ)}(n:e1 P aE=true){w:World}{ν:aC}{s i:Nat}{f:cQ}{l:List (Nat×Nat)}(L:cY aE s=some f)(U:f.kind= .struct l){off t:Nat}{g:cQ}(az:l[i]? =some (off,t))(aM:cY aE t=some g)(E:g.size≠0)
  {x:aa} {u:Value} (a:aw w ν x u) {c:Prop} {p:aa} (he:ml off g.kind.isAgg g.size x=some (c,p)) (aA:c):∃v,(Instr.fieldAt s u i).run P w= .ok v w/\aw w ν p v:=by
 obtain⟨d,K,k⟩:=fH n L;rw[U]at k;obtain⟨gs,rfl,B⟩:=yW k;have z:∃fd:Field,gs[i]? =some fd/\fd.offset=off/\fd.type=t:=by rw[<-B]at az;simp only[List.getElem?_map,ih]at az;obtain⟨fd,I,J⟩:=az;simp only[ho]at J;exact⟨fd,by simpa using I,J.1,J.2⟩
 obtain⟨fd,y,ag,A⟩:=z;obtain⟨O,G⟩:=o5 n aM w;have j:∀b o,(Instr.fieldAt s (.pointer (some ⟨b,o,none⟩)) i).run P w= .ok (.pointer (some ⟨b,o+off,none⟩)) w:=by intro b o;simp[Instr.fieldAt,run_underlying K,y,Instr.sureAddr,fieldPlace,A,G,E,j3,ag]
 unfold ml at he;split at he
 ·cases he;simp only[aw]at a;obtain⟨b,I,rfl⟩:=a;exact⟨_,j _ _,by simp only[aw];exact⟨b,I,rfl⟩⟩
 ·cases he;simp only[aw]at a;obtain⟨⟨b,o,rfl⟩,az,n',m,I,J,h⟩:=a;refine⟨_,j _ _,?_⟩;simp only[aw];refine⟨⟨b,_,rfl⟩,az,n',m,I,J,fun e=>?_⟩;obtain⟨dR,H,r⟩:=h e;simp only[X0,dq,Addr.mk.injEq,and_true]at r;obtain⟨rfl,rfl⟩:=r;exact⟨b,H,by rw[Nat.add_assoc]⟩
 ·rename_i cs;simp only[aw]at a;obtain⟨b,o,m,rfl,⟨us,rfl,J⟩,h⟩:=a;refine⟨_,j _ _,?_⟩;simp only[jV]at h;split at he
  ·cases he;simp only[aw];exact⟨b,o+off,.agg ((us.toList.drop off).take g.size).toArray,rfl,⟨_,rfl,by simpa using xR J off g.size⟩,by simpa[jV]using xa g.size (w8 off h)⟩
  ·simp only[ih]at he;obtain⟨q,F,he⟩:=he;cases he;obtain⟨v,f1,f2,f3⟩:=uG off J F;simp only[aw];have N:=nF h f1;have M:v.cells= #[v]:=by cases v<;>first|rfl|cases f3
   exact⟨b,o+off,v,rfl,f2,by rw[M];exact⟨N,trivial⟩⟩
 ·cases he
def Nk{P:bp}{aE:List (Nat×cQ)}(k:e1 P aE=true){w:World}{ν:aC}{s i:Nat}{f:cQ}{j:List (Nat×Nat)}(A:cY aE s=some f)(U:f.kind= .struct j){off t:Nat}{g:cQ}(az:j[i]? =some (off,t))(aM:cY aE t=some g)
  {x:aa} {u:Value} (l:aw w ν x u) {c:Prop} {p:aa} (he:oh off g.kind.isAgg g.size x=some (c,p)) (aA:c):∃v,(Instr.field s u i).run P w= .ok v w/\aw w ν p v:=by
 obtain⟨d,m,e⟩:=fH k A;rw[U]at e;obtain⟨gs,rfl,o⟩:=yW e;have n:∃fd:Field,gs[i]? =some fd/\fd.offset=off/\fd.type=t:=by rw[<-o]at az;simp only[List.getElem?_map,ih]at az;obtain⟨fd,I,J⟩:=az;simp only[ho]at J;exact⟨fd,by simpa using I,J.1,J.2⟩
 obtain⟨fd,a,ag,b⟩:=n;obtain⟨h,z⟩:=o5 k aM w;unfold oh at he;split at he
 ·rename_i cs;simp only[aw]at l;obtain⟨us,rfl,J⟩:=l;generalize E:g.kind.isAgg=r at*;cases r
  ·simp only[hX,if_false,ih]at he;obtain⟨q,y,he⟩:=he;cases he;obtain⟨v,f1,f2,f3⟩:=uG off J y;have B:us[off]? =some v:=by simpa using f1
   exact⟨v,by simp[Instr.field,run_underlying m,a,asAgg,part,b,h,ag,B],f2⟩
  ·simp only[if_true]at he;cases he;refine⟨.agg (us.extract off (off+g.size)),by simp[Instr.field,run_underlying m,a,asAgg,part,b,h,ag,z],?_⟩;simp only[aw];refine⟨_,rfl,?_⟩;have:=xR J off g.size;simpa[List.take_drop]using this
 ·cases he
def PM{P:bp}{aE:List (Nat×cQ)}(E:e1 P aE=true){w:World}{ν:aC}{t e:Nat}{f g:cQ}(N:cY aE t=some f)(U:f.kind= .slice e)(aM:cY aE e=some g)
  {x y:aa} {u v:Value} (h:aw w ν x u) (j:aw w ν y v) {c:Prop} {p:aa} (he:r2 g.size x y=some (c,p)) (aA:c):∃r,(Instr.indexAt t u v).run P w= .ok r w/\aw w ν p r:=by
 obtain⟨d,G,B⟩:=fH E N;rw[U]at B;obtain rfl:=mh B;obtain⟨R,F⟩:=o5 E aM w;unfold r2 at he;split at he
 ·rename_i L tag xs k i;split at he
  ·rename_i o;cases he;simp only[aw]at h j;subst j;subst o;obtain⟨⟨a,cap,rfl,I,J,q⟩,_⟩:=h;obtain⟨l,m⟩:=aA;have A:i.toNat<xs.length:=Ω
   rcases q with rfl|⟨b,off,us,rfl,s,z⟩
   ·simp at A
   ·have h:xs[i.toNat]? =some xs[i.toNat]:=cl A;obtain⟨w',K,Q,H⟩:=xO i.toNat z h;refine⟨.pointer (some ⟨b,off+i.toNat*g.size,none⟩),?_,?_⟩
    ·simp only[Instr.indexAt,asIntOf,dQ,eP,dV,run_underlying G,l,m,and_self,if_true,F,j3]
    ·simp only[aw];refine⟨b,off+i.toNat*g.size,w',rfl,by simpa[List.getD,h]using K,?_⟩;rw[H];exact xa g.size (w8 _ s)
  ·cases he
 ·rename_i L k n O i;split at he
  ·rename_i o;cases he;simp only[aw]at h j;subst j;subst o;obtain⟨⟨b,cap,rfl⟩,J,n',M,q,s,z⟩:=h;obtain⟨l,m⟩:=aA;refine⟨.pointer (some ⟨b,0+i.toNat*g.size,none⟩),?_,?_⟩
   ·simp only[Instr.indexAt,asIntOf,dQ,eP,dV,run_underlying G,l,m,and_self,if_true,F,j3]
   ·simp only[aw];refine⟨⟨b,_,rfl⟩,Ω,n',M,q,s,fun e=>⟨b,?_,Ψ⟩⟩;rw[<-z e];rfl
  ·cases he
 ·cases he
def xz{C:dk}{st:aN}{a:Act}{w:World}{ν:aC}(h:bO C st a w ν){x:aT cq}{o:aT Operand}(b:pY x o=true){c n:Int}(he:l0 c (x.map (bn st.t))=some n):
  (o.map a.eval=none/\n=c)\/ ∃k,o.map a.eval=some (.int k n):=by
 cases x with
 |none=>cases o with
  |none=>simp[l0]at he;exact .inl ⟨rfl,he.symm⟩
  |some o=>simp[pY]at b
 |some x=>cases o with
  |none=>simp[pY]at b
  |some o=>
   simp only[pY]at b
   have:=db h b
   simp only[Option.map_some]at he⊢
   cases d:bn st.t x<;>simp[d,l0]at he
   rw[d]at this
   simp only[aw]at this
   subst he
   exact .inr ⟨_,by rw[this]⟩
def Dc:∀{xs:List aa} {s:List cF},lM xs=some s->s.length=xs.length
 |[],s,h=>by simp only[lM]at h;cases h;rfl
 |x::xs,s,h=>by
  cases x<;>try(simp[lM]at h;done)
  rename_i k n;cases k<;>simp only[lM,ih,reduceCtorEq]at h;obtain⟨a,I,rfl⟩:=h;simp[Dc I]
def rs(n:Int):cF:=UInt8.ofNat n.toNat
def Dd{w:World}{ν:aC}{sz:Nat}:∀{xs:List aa} {s:List cF} {us:List Value},lM xs=some s->b7 w ν sz xs us->∃ns:List Int,us=ns.map (Value.int .u8)/\s=ns.map rs/\us.length=xs.length
 |[],s,us,h,a=>by simp only[lM]at h;cases h;simp only[b7]at a;subst a;exact⟨[],rfl,rfl,rfl⟩
 |x::xs,s,us,h,a=>by
  cases x<;>try(simp[lM]at h;done)
  rename_i k n;cases k<;>simp only[lM,ih,reduceCtorEq]at h;obtain⟨c,I,rfl⟩:=h;simp only[b7,aw]at a;obtain⟨u,d,rfl,⟨rfl,_⟩,a⟩:=a;obtain⟨ns,rfl,rfl,b⟩:=Dd I a;exact⟨n::ns,by simp[jV],rfl,by simp[jV]at b⊢;exact b⟩
def HG{P:bp}{w:World}{f:Value->ByteArray->Sem (ForInStep ByteArray)}(a:∀n s,f (.int .u8 n) s=pure (.yield (s.push (rs n)))):∀(ns:List Int) (s:ByteArray),(forIn (ns.map (Value.int .u8)) s f).run P w= .ok ⟨(s.data.toList++ns.map rs).toArray⟩ w
 |[],s=>by simp
 |n::ns,s=>by simp only[gG,List.forIn_cons,dQ,a,eP,dV];rw[HG a ns];simp[XS]
def Kq{P:bp}{w:World}{A:Nat->Nat->Prop}{a:aT Addr}{len cap:Nat}{ns:List Int}(g:ns.length=len)(h:len=0\/ ∃b off,a=some ⟨b,off,none⟩/\gS w A b off (ns.map (Value.int .u8))):
  (Conv.bytesToString (.slice a len cap)).run P w= .ok (.string ⟨(ns.map rs).toArray⟩) w:=by
 have i:∀c,a=some c->(loadCells c len).run P w= .ok (ns.map (Value.int .u8)).toArray w:=fun c e=>by
  rcases h with h|⟨b,off,d,J⟩
  ·subst h;have:ns=[]:=by cases ns<;>simp_all
   subst this;exact run_loadCells_list w c [] fun j v f=>by simp at f
  ·rw[d]at e;cases e;have:=IM (P:=P) J;simpa[g]using this
 unfold Conv.bytesToString;cases a with
 |none=>
  have:ns=[]:=by
   rcases h with h|⟨b,off,d,J⟩
   ·subst h;cases ns<;>simp_all
   ·cases d
  subst this;simp;rfl
 |some c=>simp only[dQ,i c rfl,dV,Array.forIn_toList,List.forIn_toArray];rw[HG (fun n s=>rfl) ns TO];simp
def JV{c d:aa}(h:yl c d=true):c=d:=by unfold yl at h;split at h<;>simp_all
def Cz:∀{cs a:List aa},rh cs a=true->cs=a
 |[],[],_=>rfl
 |[],_::_,h=>by simp[rh]at h
 |_::_,[],h=>by simp[rh]at h
 |c::cs,d::a,h=>by simp only[rh,bN]at h;rw[JV h.1,Cz h.2]
def TN{cs:List aa}{z:aa}(h:CD cs z=true):z= .agg cs:=by
 cases z<;>simp only[CD]at h;case agg a=>rw[Cz h]
 all_goals cases h
def NQ(s:List cF)(n:Nat)(h:n<s.length):(⟨s.toArray⟩:ByteArray)[n]? =some (s.getD n 0):=by
 have a:n<(⟨s.toArray⟩:ByteArray).size:=by rw[uR];exact h
 have e:(⟨s.toArray⟩:ByteArray)[n]? =some ((⟨s.toArray⟩:ByteArray)[n]'a):=getElem?_pos (⟨s.toArray⟩:ByteArray) n a;rw[e];congr 1;simp[List.getD,h];rfl
def x7(P:bp)(w:World)(k:IntKind)(i:Int)(y:Nat)(c:BoundsCode)(a:0<=i)(I:i<=y):(Instr.sliceBound (.int k i) y c).run P w= .ok i.toNat w:=by simp[Instr.sliceBound,asIntOf,a,I]
def C8(P:bp)(w:World)(c:Bool)(len cap:Nat)(lo az:aT Value)(l h:Int)(b:(lo=none/\l=0)\/ ∃k,lo=some (.int k l))(a:(az=none/\h=len)\/ ∃k,az=some (.int k h))
  (d:0<=l) (I:l<=h) (J:h<=len) (aA:len<=cap):(Instr.sliceBounds c len cap lo az none).run P w= .ok (l.toNat,h.toNat,cap) w:=by
 rcases b with⟨rfl,rfl⟩|⟨k,rfl⟩<;>rcases a with⟨rfl,rfl⟩|⟨aQ,rfl⟩
 ·simp[Instr.sliceBounds]
 ·simp[Instr.sliceBounds,x7 P w aQ h cap _ Ω Ω]
 ·simp[Instr.sliceBounds,x7 P w k l len _ Ω Ω]
 ·simp[Instr.sliceBounds,x7 P w aQ h cap _ Ω Ω,x7 P w k l h.toNat _ Ω Ω]
def HD{P:bp}{aE:List (Nat×cQ)}(e:e1 P aE=true):∀(gs:List Field),(gs.all fun f=>(cY aE f.type).isSome)=true->
  ∃a:List (Nat×Nat),gs.mapM (fun f=>(P.info? f.type).map fun i=>(f.offset,i.size))=some a/\
   ∀(i off t sz:Nat),(gs.map (fun f=>(f.offset,f.type)))[i]? =some (off,t)->(cY aE t).map (·.size)=some sz->a[i]? =some (off,sz)
 |[],_=>⟨[],Ψ,Ψ⟩
 |f::gs,h=>by
  simp only[List.all_cons,bN]at h;obtain⟨a,I,J⟩:=HD e gs h.2;obtain⟨g,aM⟩:=dt.1 h.1;obtain⟨i,d,z,k,r,l,q,o,p,m,n⟩:=(o6 e aM).ex;refine⟨(f.offset,g.size)::a,by simp[List.mapM_cons,k,l,I],fun j off t sz b c=>?_⟩;cases j with
  |zero=>simp only[gG,List.getElem?_cons_zero,dq,ho]at b⊢;obtain⟨rfl,rfl⟩:=b;rw[aM]at c;simpa using c
  |succ j=>simp only[gG,List.getElem?_cons_succ]at b⊢;exact J j off t sz b c
def hG{P:bp}{w:World}{x:Sem Value}{v:Value}(h:x.run P w= .ok v w):(do pure (Next.value (<-x)):Sem Next).run P w= .ok (.value v) w:=by simp[h]
def CC{p q:aa}(h:sV p q=true):p=q:=by
 unfold sV at h;split at h
 ·rw[Cz h]
 ·cases h
 ·exact JV h
def CB(w:World)(ν:aC){p:aa}{v:Value}(h:ri p v=true):aw w ν p v/\bL w ν (cells p) v.cells.toList:=by
 by_cases a:∃cs,p= .agg cs
 ·obtain⟨cs,rfl⟩:=a;cases v<;>simp only[ri]at h;case agg us=>have:=CA w ν _ _ h;exact⟨by simp only[aw];exact⟨us,rfl,this⟩,by simpa[cells,jV]using this⟩
  all_goals cases h
 ·have b:ru p v=true/\v.oneCell'=true:=by cases p<;>simp only[ri,bN]at h<;>first|exact h|exact absurd ⟨_,rfl⟩ a
  have c:=yH w ν b.1;refine⟨c,?_⟩;have aA:cells p=[p]:=by cases p<;>first|rfl|exact absurd ⟨_,rfl⟩ a
  have d:v.cells= #[v]:=by have:=b.2;cases v<;>first|rfl|simp[Value.oneCell']at this
  rw[aA,d];simp only[bL];exact⟨v,[],rfl,⟨c,b.2⟩,rfl⟩
def Cj{P:bp}{aE:List (Nat×cQ)}(e:e1 P aE=true){t:Nat}{f:cQ}(g:cY aE t=some f)(w:World):∃z,(zeroValue t).run P w= .ok z w/\ri f.zero z=true/\z.cells.size=f.size:=by obtain⟨i,d,z,I,J,h,j,k,c,b,a⟩:=(o6 e g).ex;exact⟨z,by simp[zeroValue,typeInfo,I,c],b,a⟩
def uI{C:dk}{st:aN}{a:Act}{w:World}{ν:aC}(h:bO C st a w ν):∀{xs:List cq} {os:List Operand},qS xs os=true->bT w ν (xs.map (bn st.t)) (os.map a.eval)
 |[],[],_=>by simp[bT]
 |[],_::_,U=>by simp[qS]at U
 |_::_,[],U=>by simp[qS]at U
 |x::xs,o::os,U=>by simp only[qS,bN]at U;simp only[gG,bT];exact⟨_,_,rfl,db h U.1,uI h U.2⟩
def Lx{P:bp}{w:World}{t:ey}(c:P.underlying t=some .bool)(d:Nat)(a b:Bool):(Op.equalIn (d+1) t (.bool a) (.bool b)).run P w= .ok (a==b) w:=by rw[Op.equalIn];simp only[dQ,run_underlying c,dV,eP]
def Ly{P:bp}{w:World}{t:ey}(c:P.underlying t=some .bool)(a b:Bool):(Op.equal t (.bool a) (.bool b)).run P w= .ok (a==b) w:=Lx c _ a b
def Ey:∀{borns:List Nat} {kvs:List aa} {us:List Value},kvs.length=2*borns.length->us.length=kvs.length->(eg borns us).length=borns.length
 |[],_,us,_,_=>by simp[eg]
 |dR::a,kvs,[],I,J=>by rw[I]at J;simp at J
 |dR::a,kvs,[_],I,J=>by rw[I]at J;simp at J;omega
 |dR::a,kvs,k::v::us,I,J=>by simp only[eg,jX];rw[Ey (kvs:=kvs.drop 2) (us:=us) (borns:=a) (by simp at I⊢;omega) (by simp at I J⊢;omega)]
def Iz{w:World}{ν:aC}:∀{a:List aa} {aJ:List Value},bT w ν a aJ->aJ.length=a.length
 |[],aJ,h=>by simp only[bT]at h;subst h;rfl
 |p::a,aJ,h=>by simp only[bT]at h;obtain⟨u,b,rfl,_,J⟩:=h;simp[Iz J]
def p1{P:bp}{w:World}{r:Nat}{o:Obj}(a:w.heap[r]? =some o)(b:∀c e f,o≠ .cells c e f:=by simp):(getObj r).run P w= .ok o w:=by simp only[getObj,Sem.run,a]
def lH(P:bp):Nat->List Bool->List Field->Prop
 |_,[],[]=>True
 |n,b::r,f::gs=>(f.offset=n/\f.name≠ "_" /\(if b=true then P.underlying f.type=some .string else∃k,P.underlying f.type=some (.int k)))/\lH P (n+1) r gs
 |_,_,_=>c1
def uA{P:bp}{t:ey}{b:Bool}(h:if b=true then P.underlying t=some .string else∃k,P.underlying t=some (.int k)):P.plainKey t=true:=by
 cases b
 ·obtain⟨k,h⟩:=(by simpa using h:∃k,P.underlying t=some (.int k));simp[Program.plainKey,h]
 ·have h:P.underlying t=some .string:=by simpa using h
  simp[Program.plainKey,h]
def KC{P:bp}{w:World}{ν:aC}(d:Nat){X Y:Array Value}(B:List Bool):∀(gs:List Field) (n:Nat) (as g:List aa) (us aJ:List Value) (q:Bool),lH P n B gs->X.toList.drop n=us->Y.toList.drop n=aJ->bL w ν as us->bL w ν g aJ->hs B as g=some q->
  (Op.eqFields (d+1) X Y gs).run P w= .ok q w/\(q=true->us=aJ)/\∀m,(us.zip us).all (fun(x,y)=>Instr.sameBits m x y)=true:=by
 induction B with
 |nil=>intro gs n as g us aJ q aM s p I J h;cases as<;>cases g<;>simp only[hs,dq,reduceCtorEq]at h;cases gs<;>simp only[lH]at aM;simp only[bL]at I J;rw[I,J,<-h];exact⟨by simp[Op.eqFields],fun _=>rfl,fun m=>rfl⟩
 |cons A r M=>
  intro gs n as g us aJ q aM s p I J h;cases gs with
  |nil=>simp only[lH]at aM
  |cons f gs=>
  simp only[lH]at aM;obtain⟨⟨K,L,l⟩,aM⟩:=aM;cases as with
  |nil=>cases A<;>cases g<;>simp[hs]at h
  |cons o as=>
  cases g with
  |nil=>cases A<;>cases o<;>simp[hs]at h
  |cons t g=>
  cases A with
  |false=>
   have aA:∃k a b c,o= .int k a/\t= .int k b/\hs r as g=some c/\q=((a==b)&&c):=by
    cases o<;>first|(simp[hs]at h;done)|skip
    cases t<;>first|(simp[hs]at h;done)|skip
    simp only[hs]at h;split at h
    ·rename_i U;subst U;simp only[ih]at h;obtain⟨c,j,F⟩:=h;exact⟨_,_,_,c,rfl,rfl,j,F.symm⟩
    ·cases h
   obtain⟨k,a,b,c,rfl,rfl,j,rfl⟩:=aA;simp only[bL,aw]at I J;obtain⟨u,E,rfl,⟨rfl,_⟩,I⟩:=I;obtain⟨v,vs',rfl,⟨rfl,_⟩,J⟩:=J;have z:X[n]? =some (.int k a):=by rw[<-nV,<-List.head?_drop,s];rfl
   have G:Y[n]? =some (.int k b):=by rw[<-nV,<-List.head?_drop,p];rfl
   obtain⟨i1,i2,i3⟩:=M gs (n+1) as g E vs' c aM (by rw[<-List.tail_drop,s];rfl) (by rw[<-List.tail_drop,p];rfl) I J j;obtain⟨O,H⟩:=(by simpa using l:∃k,P.underlying f.type=some (.int k));refine⟨?_,?_,fun m=>?_⟩
   ·simp only[Op.eqFields,L,ne_eq,not_false_eq_true,if_true,dQ,K,run_part_plain w (uA l) z,run_part_plain w (uA l) G,dV,run_equalIn_int w d f.type k O a b H];cases N:(a==b)
    ·simp
    ·simpa using i1
   ·intro i;simp only[bN,c2]at i;rw[i.1,i2 i.2]
   ·have:=i3 m;simp only[List.zip_cons_cons,List.all_cons,this,Bool.and_true];cases m<;>simp[Instr.sameBits]
  |true=>
   have aA:∃a b c,o= .str a/\t= .str b/\hs r as g=some c/\q=((a==b)&&c):=by
    cases o<;>first|(simp[hs]at h;done)|skip
    cases t<;>first|(simp[hs]at h;done)|skip
    simp only[hs,ih]at h;obtain⟨c,j,F⟩:=h;exact⟨_,_,c,rfl,rfl,j,F.symm⟩
   obtain⟨a,b,c,rfl,rfl,j,rfl⟩:=aA;simp only[bL,aw]at I J;obtain⟨u,E,rfl,⟨⟨rfl,_⟩,_⟩,I⟩:=I;obtain⟨v,vs',rfl,⟨⟨rfl,_⟩,_⟩,J⟩:=J;have z:X[n]? =some (.string ⟨a.toArray⟩):=by rw[<-nV,<-List.head?_drop,s];rfl
   have G:Y[n]? =some (.string ⟨b.toArray⟩):=by rw[<-nV,<-List.head?_drop,p];rfl
   obtain⟨i1,i2,i3⟩:=M gs (n+1) as g E vs' c aM (by rw[<-List.tail_drop,s];rfl) (by rw[<-List.tail_drop,p];rfl) I J j;have H:P.underlying f.type=some .string:=by simpa using l
   refine⟨?_,?_,fun m=>?_⟩
   ·simp only[Op.eqFields,L,ne_eq,not_false_eq_true,if_true,dQ,K,run_part_plain w (uA l) z,run_part_plain w (uA l) G,dV,run_equalIn_string w d f.type _ _ H];have e:((⟨a.toArray⟩:ByteArray).toList==(⟨b.toArray⟩:ByteArray).toList)=(a==b):=by rw[TQ,TQ]
    rw[e];cases N:(a==b)
    ·simp
    ·simpa using i1
   ·intro i;simp only[bN,c2]at i;rw[i.1,i2 i.2]
   ·have:=i3 m;simp only[List.zip_cons_cons,List.all_cons,this,Bool.and_true];cases m<;>simp only[Instr.sameBits]<;>exact(MapKept.bytes_beq _ _).2 rfl
def EM{P:bp}{aE:List (Nat×cQ)}(av:e1 P aE=true):∀(cK:List Bool) (gs:List Field) (n:Nat),rH aE n cK (gs.map fun f=>(f.offset,f.type))=true->(gs.all (fun f=>match P.underlying f.type with|some (.int _)=>true|some .string=>true|_=>false)=true)/\((∀f∈gs,f.name≠ "_")->lH P n cK gs)
 |[],[],_,_=>⟨rfl,fun _=>trivial⟩
 |[],_::_,_,h=>by simp[rH]at h
 |_::_,[],_,h=>by simp[rH]at h
 |b::r,f::gs,n,h=>by
  simp only[gG,rH,bN,c2]at h;obtain⟨⟨I,J⟩,ah⟩:=h;obtain⟨i1,i2⟩:=EM av r gs (n+1) ah;split at J
  ·rename_i aH;obtain⟨d,hu,aL⟩:=fH av aH;obtain rfl:=ti aL;refine⟨by simp only[List.all_cons,hu,i1,Bool.and_self],fun aO=>⟨⟨I,aO f Ψ,?_⟩,i2 fun g aM=>aO g (by simp[aM])⟩⟩;have:b=false:=by simpa using J
   subst this;simpa using⟨_,hu⟩
  ·rename_i aH;obtain⟨d,hu,aL⟩:=fH av aH;obtain rfl:=qj aL;refine⟨by simp only[List.all_cons,hu,i1,Bool.and_self],fun aO=>⟨⟨I,aO f Ψ,?_⟩,i2 fun g aM=>aO g (by simp[aM])⟩⟩;subst J;simpa using hu
  ·cases J
def EO{P:bp}{aE:List (Nat×cQ)}(b:e1 P aE=true){a:List Bool}{t:Nat}(h:vR aE a t=true):∃gs,P.underlying t=some (.struct gs)/\lH P 0 a gs.toList/\P.stoodInHeld t=false/\P.eqGuardType P.depth t=false:=by
 unfold vR at h;split at h
 ·rename_i e;obtain⟨d,hu,c⟩:=fH b e;have aA:=(o6 b e).cmp d hu;cases d<;>simp[iv]at c;rename_i gs;subst c;obtain⟨i1,i2⟩:=EM b a gs.toList 0 h;have f:EN P gs=true:=i1;simp only[yS,f,Bool.not_true,Bool.false_or,D9,bN,Bool.not_eq_true',List.all_eq_true,bne_iff_ne,ne_eq]at aA;exact⟨gs,hu,i2 aA.1.1,aA.1.2,aA.2⟩
 ·cases h
def EA{P:bp}{w:World}{ν:aC}{t:ey}{gs:Array Field}{b:List Bool}(hu:P.underlying t=some (.struct gs))(aM:lH P 0 b gs.toList)(dX:P.stoodInHeld t=false){as a:List aa}{X Y:Array Value}(I:bL w ν as X.toList)(J:bL w ν a Y.toList){q:Bool}(h:hs b as a=some q):
  (Op.equalIn 10000 t (.agg X) (.agg Y)).run P w= .ok q w/\(q=true->X=Y)/\∀m,(X.toList.zip X.toList).all (fun(x,y)=>Instr.sameBits m x y)=true:=by
 have c:P.fieldsOf t=gs:=by simp[Program.fieldsOf,hu]
 obtain⟨i1,i2,i3⟩:=KC 9998 b gs.toList 0 as a _ _ q aM rfl rfl I J h;refine⟨?_,fun e=>?_,?_⟩
 ·rw[run_equalIn_struct w 9999 t X Y (by rw[c];exact hu) dX,c];exact i1
 ·have:=i2 e;simpa using this
 ·simpa using i3
inductive nZ (P:bp):gP->ey->Prop
 |i {t:ey} {k:IntKind}:P.underlying t=some (.int k)->nZ P .i t
 |s {t:ey}:P.underlying t=some .string->nZ P .s t
 |a {t:ey} {cK:List Bool} {gs:Array Field}:P.underlying t=some (.struct gs)->lH P 0 cK gs.toList->P.stoodInHeld t=false->nZ P (.a cK) t
def GM{P:bp}{aE:List (Nat×cQ)}(c:e1 P aE=true){b:gP}{t:Nat}(h:qK aE b t=true):nZ P b t:=by
 cases b with
 |i=>
  simp only[qK]at h;split at h
  ·rename_i f;obtain⟨d,hu,e⟩:=fH c f;obtain rfl:=ti e;exact .i hu
  ·cases h
 |s=>
  simp only[qK]at h;split at h
  ·rename_i f;obtain⟨d,hu,e⟩:=fH c f;obtain rfl:=qj e;exact .s hu
  ·cases h
 |a j=>obtain⟨gs,I,J,g,_⟩:=EO c h;exact .a I J g
def nb(P:bp)(w:World)(c:gP)(t:ey)(a u:Value)(b:Bool):Prop:=match c with
 | .a _=>(Op.equal t a u).run P w= .ok b w
 |_=> ∀d,P.underlying t=some d->Instr.sameNow d a u=some b
def fx(P:bp)(w:World)(b:gP)(t:ey)(a:Value)(es:List MapEntry)(i:Nat)(r:aT (Nat×Value)):Prop:=match b with
 | .a _=>(Instr.findAsking t a es i).run P w= .ok r w
 |_=> ∀d,P.underlying t=some d->Instr.findNow d a es i=some r
def fx.nil(P:bp)(w:World)(a:gP)(t:ey)(b:Value)(i:Nat):fx P w a t b [] i none:=by cases a<;>simp[fx,Instr.findAsking,Instr.findNow]
def fx.hit{P:bp}{w:World}{b:gP}{t:ey}{f:Value}{e:MapEntry}{es:List MapEntry}{i:Nat}(h:nb P w b t f e.key true):fx P w b t f (e::es) i (some (i,e.val)):=by
 cases b with
 |a g=>simp only[nb]at h;simp[fx,Instr.findAsking,h]
 |i=>simp only[nb]at h;simp only[fx];intro d c;simp[Instr.findNow,h d c]
 |s=>simp only[nb]at h;simp only[fx];intro d c;simp[Instr.findNow,h d c]
def fx.miss{P:bp}{w:World}{f:gP}{t:ey}{g:Value}{e:MapEntry}{es:List MapEntry}{i:Nat}{r:aT (Nat×Value)}(h:nb P w f t g e.key false)(b:fx P w f t g es (i+1) r):fx P w f t g (e::es) i r:=by
 cases f with
 |a j=>simp only[nb]at h;simp only[fx]at b;simp[fx,Instr.findAsking,h,b]
 |i=>simp only[nb]at h;simp only[fx]at b⊢;intro d c;simp[Instr.findNow,h d c,b d c]
 |s=>simp only[nb]at h;simp only[fx]at b⊢;intro d c;simp[Instr.findNow,h d c,b d c]
def fx.run{P:bp}{w:World}{c:gP}{t:ey}(d:nZ P c t){b:Value}{es:List MapEntry}{r:aT (Nat×Value)}(h:fx P w c t b es 0 r):(Instr.findKey t b es).run P w= .ok r w:=by
 cases d with
 |i hu=>simp only[fx]at h;simp[Instr.findKey,run_underlying hu,h _ hu]
 |s hu=>simp only[fx]at h;simp[Instr.findKey,run_underlying hu,h _ hu]
 |a hu aM dX=>
  simp only[fx]at h;cases es with
  |nil=>simp[Instr.findAsking]at h;simp[Instr.findKey,run_underlying hu,Instr.findNow,h]
  |cons e es=>
   rename_i gs;have:Instr.sameNow (.struct gs) b e.key=none:=by cases b<;>rfl
   simp only[Instr.findKey,dQ,run_underlying hu,dV,Instr.findNow,this];exact h
def GL{P:bp}{w:World}{ν:aC}{j:gP}{t:ey}(f:nZ P j t){k aQ:aa}{g u:Value}(U:aw w ν k g)(I:aw w ν aQ u){h:Bool}(c:qJ j k aQ=some h):
  nb P w j t g u h/\(h=true->u=g/\Instr.sameBits 10000 u g=true):=by
 unfold qJ at c;split at c
 ·split at c
  ·rename_i l;subst l;simp only[aw]at U I;subst U;subst I;cases f with
   |i hu=>refine⟨fun d f=>by rw[hu]at f;cases f;simpa[Instr.sameNow]using c,fun e=>?_⟩;subst e;simp only[dq,c2]at c;subst c;exact⟨rfl,by simp[Instr.sameBits]⟩
  ·cases c
 ·rename_i a b;simp only[aw]at U I;obtain⟨rfl,_⟩:=U;obtain⟨rfl,_⟩:=I;cases f with
  |s hu=>
   refine⟨fun d f=>?_,fun e=>?_⟩
   ·rw[hu]at f;cases f;simp only[Instr.sameNow];rw[<-c];congr 1;rw[Bool.eq_iff_iff,MapKept.bytes_beq];simp
   ·subst e;simp only[dq,c2]at c;subst c;exact⟨rfl,by simp only[Instr.sameBits];exact(MapKept.bytes_beq _ _).2 rfl⟩
 ·simp only[aw]at U I;obtain⟨X,rfl,U⟩:=U;obtain⟨Y,rfl,I⟩:=I;cases f with
  |a hu aM dX=>obtain⟨i1,i2,i3⟩:=EA hu aM dX U I c;refine⟨by simpa[nb,Op.equal,Op.maxDepth]using i1,fun e=>?_⟩;have:=i2 e;subst this;exact⟨rfl,by simp[Instr.sameBits,i3]⟩
 ·cases c
def A5{P:bp}{w:World}{ν:aC}{c:gP}{t:ey}(o:nZ P c t){k:aa}{f:Value}(U:aw w ν k f):∀(borns:List Nat) (kvs:List aa) (us:List Value) (i:Nat) (r:aT aa),bT w ν kvs us->kvs.length=2*borns.length->si c k kvs=some r->
  match r with
  |none=>fx P w c t f (eg borns us) i none
  |some v=> ∃j u,fx P w c t f (eg borns us) i (some (j,u))/\aw w ν v u
 |[],[],us,i,r,h,_,hm=>by simp only[si]at hm;cases hm;simp only[bT]at h;subst h;simpa[eg]using fx.nil P w c t f i
 |[],_::_,_,_,_,_,a,_=>by simp at a
 |b::l,[],_,_,_,_,a,_=>by simp at a
 |b::l,[_],_,_,_,_,a,_=>by simp at a;omega
 |b::l,aQ::v::kvs,us,i,r,h,a,hm=>by
  simp only[bT]at h;obtain⟨g,x,rfl,I,d,p,rfl,J,s⟩:=h;simp only[si]at hm;simp only[eg];cases m:qJ c k aQ with
  |none=>simp[m]at hm
  |some q=>
   obtain⟨s1,_⟩:=GL o U I m;simp only[m]at hm;cases q with
   |true=>simp only[dq]at hm;subst hm;exact⟨i,d,fx.hit (e:=⟨g,d,b⟩) s1,J⟩
   |false=>
    simp only at hm;have n:=A5 o U l kvs p (i+1) r s (by simp at a;omega) hm;cases r with
    |none=>exact fx.miss (e:=⟨g,d,b⟩) s1 n
    |some v'=>obtain⟨j,u,g1,g2⟩:=n;exact⟨j,u,fx.miss (e:=⟨g,d,b⟩) s1 g1,g2⟩
def yQ{P:bp}{w:World}{t:Nat}{d:TypeDesc}(hu:P.underlying t=some d)(a:(∃k,d= .int k)\/d= .string)(e:Bool)(n:Nat)(v:Value):(Instr.checkKey e (n+1) t v).run P w= .ok () w:=by unfold Instr.checkKey;rcases a with⟨k,rfl⟩|rfl<;>simp[run_underlying hu]
def Nj{P:bp}{w:World}{ν:aC}{X:Array Value}(i:List Bool):∀(gs:List Field) (n:Nat) (as:List aa),lH P n i gs->bL w ν as (X.toList.drop n)->(hs i as as).isSome=true->
  ∀f∈gs,(∃v,(part f.type X f.offset).run P w= .ok v w)/\∃d,P.underlying f.type=some d/\((∃k,d= .int k)\/d= .string):=by
 induction i with
 |nil=>intro gs n as aM _ _ f a;cases gs<;>simp only[lH]at aM;cases a
 |cons b r s=>
  intro gs n as aM j aA f a;cases gs with
  |nil=>cases a
  |cons g gs=>
  simp only[lH]at aM;obtain⟨⟨l,y,c⟩,aM⟩:=aM;cases as with
  |nil=>cases b<;>simp[hs]at aA
  |cons p as=>
  have o:(hs r as as).isSome=true:=by cases b<;>cases p<;>simp[hs]at aA⊢ <;>exact aA
  simp only[bL]at j;obtain⟨u,t,e,_,q⟩:=j;have x:X.toList.drop (n+1)=t:=by rw[<-List.tail_drop,e];rfl
  have m:X[n]? =some u:=by rw[<-nV,<-List.head?_drop,e];rfl
  rcases gw.1 a with rfl|a
  ·refine⟨⟨u,by rw[l];exact run_part_plain w (uA c) m⟩,?_⟩;cases b
   ·obtain⟨k,h⟩:=(by simpa using c:∃k,P.underlying f.type=some (.int k));exact⟨_,h,.inl ⟨k,rfl⟩⟩
   ·exact⟨_,by simpa using c,.inr rfl⟩
  ·exact s gs (n+1) as aM (by rw[x];exact q) o f a
def ET{P:bp}{w:World}{α:Type}(body:α->PUnit->Sem (ForInStep PUnit)):∀(l:List α),(∀f∈l,(body f ⟨⟩).run P w= .ok (.yield ⟨⟩) w)->(forIn l PUnit.unit body).run P w= .ok PUnit.unit w
 |[],_=>by simp
 |f::l,h=>by simp only[List.forIn_cons,dQ,h f Ψ,dV];exact ET body l fun g aM=>h g (by simp[aM])
def IJ{P:bp}{w:World}{ν:aC}{bB:gP}{t:Nat}(aL:nZ P bB t)(e:Bool){k:aa}{v:Value}(U:aw w ν k v)(az:r8 bB k=true):(Instr.checkKey e 10000 t v).run P w= .ok () w:=by
 cases aL with
 |i hu=>exact yQ hu (.inl ⟨_,rfl⟩) e 9999 v
 |s hu=>exact yQ hu (.inr rfl) e 9999 v
 |a hu aM dX=>
  rename_i cK gs;cases k<;>simp only[r8,hX]at az;rename_i as;simp only[aw]at U;obtain⟨X,rfl,U⟩:=U;unfold Instr.checkKey;simp only[dQ,run_underlying hu,dV];rw[<-Array.forIn_toList];rw[ET]
  ·simp
  ·intro f aH;obtain⟨⟨v,I⟩,d,J,ah⟩:=Nj cK gs.toList 0 as aM (by simpa using U) az f aH;have aF:=yQ (w:=w) J ah e 9998 v;by_cases aO:f.name= "_"
   ·simp[aO]
   ·simp[aO,I,aF]
def Hc{w:World}{ν:aC}{n:Nat}:∀(borns:List Nat) (kvs:List aa) (us:List Value) (p:aa),bT w ν kvs us->kl n borns kvs=some p->∃e,(eg borns us).find? (·.born==n)=some e/\aw w ν p (.tuple #[e.key,e.val])
 |[],_,_,_,_,hm=>by simp[kl]at hm
 |_::_,[],_,_,_,hm=>by simp[kl]at hm
 |_::_,[_],_,_,_,hm=>by simp[kl]at hm
 |b::f,k::v::kvs,us,p,h,hm=>by
  simp only[bT]at h;obtain⟨a,j,rfl,I,c,d,rfl,J,g⟩:=h;simp only[kl]at hm;simp only[eg];by_cases e:b=n
  ·rw[if_pos e]at hm;cases hm;refine⟨⟨a,c,b⟩,by simp[List.find?,e],?_⟩;simp only[aw];exact⟨#[a,c],rfl,by simp only[bT];exact⟨_,_,rfl,I,_,_,rfl,J,rfl⟩⟩
  ·rw[bH e]at hm;obtain⟨x,g1,g2⟩:=Hc f kvs d p g hm;have i:(b==n)=false:=by simpa using e
   exact⟨x,by simp[List.find?,i,g1],g2⟩
def Js{P:bp}{aE:List (Nat×cQ)}(H:e1 P aE=true){C:dk}{st:aN}{a:Act}{w:World}{ν:aC}(B:bO C st a w ν){i:ee}(Oa:∀bB z ok x k,i≠ .mgetB bB z ok x k){o:Oper}(ag:u0 aE i o.op=true)
  {c:Prop} {p:aa} (he:e2 st i=some (c,p)) (aA:c):∃v,(execOp a.eval o).run P w= .ok (.value v) w/\aw w ν p v:=by
 obtain⟨dst,op,type,pos,after,guard⟩:=o;simp only at ag;unfold u0 at ag;split at ag
 ·rename_i x o;simp only[e2]at he;cases he;exact⟨_,rfl,db B ag⟩
 ·rename_i x o;simp only[e2]at he;cases he;exact⟨_,rfl,db B ag⟩
 ·rename_i fC x y Un o9 y';simp only[bN]at ag;have I:=db B ag.1.1;have J:=db B ag.1.2;have M:=db B ag.2;simp only[e2,xD]at he;split at he
  ·rename_i b E;rw[E]at I;simp only[aw]at I;split at he
   ·rename_i u v hu O;cases he;rw[hu]at J;rw[O]at M;simp only[aw]at J M;refine⟨.bool (cond b u v),?_,by simp[aw]⟩;simp only[execOp,I,J,M,asBool,dQ,eP,dV];cases b<;>rfl
   ·split at he
    ·cases he;exact⟨_,by simp only[execOp,I,asBool,dQ,eP,dV,if_true],J⟩
    ·cases he;exact⟨_,by simp only[execOp,I,asBool,dQ,eP,dV,hX,if_false],M⟩
  ·cases he
 ·rename_i agg sz x t o;simp only[bN]at ag;obtain⟨I,J⟩:=ag;split at I
  ·rename_i f F;simp only[bN,c2]at I;obtain⟨rfl,rfl⟩:=I;obtain⟨v,g1,g2⟩:=xc H B.good F (db B J) (by simpa only[e2]using he) aA;exact⟨v,hG g1,g2⟩
  ·cases I
 ·rename_i off agg sz x s o i;simp only[bN]at ag;obtain⟨I,J⟩:=ag;split at I
  ·rename_i f F;split at I
   ·rename_i pV t tK;simp only[bN,c2]at I;obtain⟨rfl,I⟩:=I;split at I
    ·rename_i g aM;simp only[bN,c2,bne_iff_ne,ne_eq]at I;obtain⟨⟨rfl,rfl⟩,V⟩:=I;obtain⟨v,g1,g2⟩:=Nd H F rfl tK aM V (db B J) (by simpa only[e2]using he) aA;exact⟨v,hG g1,g2⟩
    ·cases I
   ·cases I
  ·cases I
 ·rename_i off agg sz x s o i;simp only[bN]at ag;obtain⟨I,J⟩:=ag;split at I
  ·rename_i f F;split at I
   ·rename_i pV t tK;simp only[bN,c2]at I;obtain⟨rfl,I⟩:=I;split at I
    ·rename_i g aM;simp only[bN,c2]at I;obtain⟨rfl,rfl⟩:=I;obtain⟨v,g1,g2⟩:=Nk H F rfl tK aM (db B J) (by simpa only[e2]using he) aA;exact⟨v,hG g1,g2⟩
    ·cases I
   ·cases I
  ·cases I
 ·rename_i sz x i t o j;simp only[bN]at ag;obtain⟨⟨I,J⟩,M⟩:=ag;split at I
  ·rename_i e F;split at I
   ·rename_i g aM;simp only[c2]at I;subst I;obtain⟨v,g1,g2⟩:=PM H F rfl aM (db B J) (db B M) (by simpa only[e2]using he) aA;exact⟨v,hG g1,g2⟩
   ·cases I
  ·cases I
 ·rename_i x i t o j;simp only[bN]at ag;obtain⟨⟨I,J⟩,M⟩:=ag;split at I
  ·rename_i F;obtain⟨d,L,K⟩:=fH H F;obtain rfl:=qj K;have A:=db B J;have G:=db B M;simp only[e2,x5]at he;split at he
   ·rename_i s k n aj aO;cases he;rw[aj]at A;rw[aO]at G;simp only[aw]at A G;obtain⟨Oe,ou⟩:=aA;have bA:n.toNat<s.length:=Ω
    have OG:(⟨s.toArray⟩:ByteArray)[n.toNat]? =some (s.getD n.toNat 0):=by exact NQ s n.toNat bA
    refine⟨_,hG (v:= .int .u8 (s.getD n.toNat 0).toNat) ?_,by simp[aw]⟩;simp only[Instr.index,G,asIntOf,A.1,dQ,eP,dV,run_underlying L,Oe,if_true,OG]
   ·cases he
  ·cases I
 ·rename_i x lo az t o l h;simp only[bN]at ag;obtain⟨⟨⟨I,J⟩,M⟩,aF⟩:=ag;split at I
  ·rename_i F;obtain⟨d,L,K⟩:=fH H F;obtain rfl:=qj K;have A:=db B J;simp only[e2,x8]at he;split at he
   ·rename_i s aj;rw[aj]at A;simp only[aw]at A;split at he
    ·rename_i N Q ao zT;cases he;obtain⟨cm,cM,dK⟩:=aA;have S:=xz B M ao;have bY:=xz B aF zT;refine⟨_,hG (v:= .string ⟨((s.take Q.toNat).drop N.toNat).toArray⟩) ?_,?_⟩
     ·have E:=C8 P w false s.length s.length (l.map a.eval) (h.map a.eval) N Q
       S bY cm cM dK (di _)
      simp only[Instr.sliceAt,Instr.slice,A.1,dQ,eP,dV,run_underlying L,Option.map_none,Option.isSome_none,hX,if_false,uR,E,Mp]
     ·simp only[aw];refine⟨trivial,?_⟩;have:=A.2;simp only[List.length_drop,List.length_take];omega
    ·cases he
   ·cases he
  ·cases I
 ·rename_i sz x lo az t o l h;simp only[bN]at ag;obtain⟨⟨⟨I,J⟩,M⟩,aF⟩:=ag;split at I
  ·rename_i e F;split at I
   ·rename_i g aM;simp only[c2]at I;subst I;obtain⟨d,L,K⟩:=fH H F;obtain rfl:=mh K;obtain⟨_,df⟩:=o5 H aM w;have A:=db B J;simp only[e2,xe]at he;split at he
    ·rename_i cE tag xs aj;split at he
     ·rename_i ec;subst ec;rw[aj]at A;simp only[aw]at A;obtain⟨⟨R,cap,O,W,Z,fp⟩,_⟩:=A;split at he
      ·rename_i N Q ao zT;cases he;obtain⟨cm,cM,dK⟩:=aA;have S:=xz B M ao;have bY:=xz B aF zT;have E:=C8 P w true xs.length cap (l.map a.eval) (h.map a.eval) N Q
        S bY cm cM dK W
       refine⟨_,hG (v:= .slice (if cap=N.toNat then R else R.map (·.add (N.toNat*g.size))) (Q.toNat-N.toNat) (cap-N.toNat)) ?_,?_⟩
       ·simp only[Instr.sliceAt,Instr.slice,O,dQ,eP,dV,run_underlying L,Option.map_none,E,df]
       ·simp only[aw];have hlen:((xs.take Q.toNat).drop N.toNat).length=Q.toNat-N.toNat:=by simp;omega
        refine⟨⟨_,_,by rw[hlen],by rw[hlen];omega,⟨Ω,by rw[hlen];omega⟩,?_⟩,(fun h=>by cases h),(fun g h=>by cases h),(fun _ _ h=>by cases h),(fun _ h=>by cases h)⟩;rcases fp with rfl|⟨b,off,us,rfl,g1,g2⟩
        ·left;simp
        ·by_cases rM:cap=N.toNat
         ·left;apply List.eq_nil_of_length_eq_zero;rw[hlen];omega
         ·right;rw[bH rM];refine⟨b,off+N.toNat*g.size,(us.take (Q.toNat*g.size)).drop (N.toNat*g.size),by simp[j3],w8 _ (xa _ g1),Iq _ (It _ g2)⟩
      ·cases he
     ·cases he
    ·cases he
   ·cases I
  ·cases I
 ·rename_i op wr x y Hu ty o o' S9;simp only[bN,e3]at ag;obtain⟨⟨rfl,I⟩,J⟩:=ag;obtain⟨r,g1,g2⟩:=Kw P w ν (by simpa only[e2]using he) aA ty (db B I) (db B J) o o';exact⟨r,hG g1,g2⟩
 ·rename_i x op ty o;simp only[bN,e3]at ag;obtain⟨rfl,I⟩:=ag;have A:=db B I;simp only[e2]at he;unfold xp at he;split at he
  ·rename_i b E;cases he;rw[E]at A;simp only[aw]at A;exact⟨_,hG (v:= .bool (!b)) (by simp[Op.unary,A]),by simp[aw]⟩
  ·cases he
 ·rename_i x op ty o;simp only[bN,e3]at ag;obtain⟨rfl,I⟩:=ag;have A:=db B I;simp only[e2]at he;unfold xl at he;split at he
  ·rename_i k n E;cases he;rw[E]at A;simp only[aw]at A;exact⟨_,hG (v:= .int k (k.wrap (0-n))) (by simp[Op.unary,A,Op.intArith]),by simp[aw]⟩
  ·cases he
 ·rename_i k x s d o;simp only[bN]at ag;obtain⟨I,J⟩:=ag;split at I
  ·rename_i S bY tJ oy;simp only[e3]at I;subst I;obtain⟨d1,pt,zL⟩:=fH H tJ;obtain rfl:=ti zL;obtain⟨d2,rP,qy⟩:=fH H oy;obtain rfl:=ti qy;have A:=db B J;simp only[e2]at he;unfold vE at he;split at he
   ·rename_i aQ n E;cases he;rw[E]at A;simp only[aw]at A;exact⟨_,hG (v:= .int k (k.wrap n)) (by simp[convert,A,run_underlying pt,run_underlying rP,Conv.intToInt]),by simp[aw]⟩
   ·cases he
  ·cases I
 ·rename_i i x o j;simp only[bN,c2]at ag;obtain⟨rfl,I⟩:=ag;have A:=db B I;simp only[e2]at he;unfold rF at he;split at he
  ·rename_i aJ E;simp only[ih]at he;obtain⟨q,bb,he⟩:=he;cases he;rw[E]at A;simp only[aw]at A;obtain⟨us,hu,J⟩:=A;obtain⟨v,g1,g2⟩:=uJ i J bb;have vZ:us[i]? =some v:=by simpa using g1
   exact⟨v,hG (by simp[Instr.extract,hu,vZ]),g2⟩
  ·cases he
 ·rename_i x o t;simp only[bN]at ag;obtain⟨I,J⟩:=ag;have A:=db B J;simp only[e2]at he;unfold sc at he;split at he
  ·rename_i sz tag xs E;cases he;rw[E]at A;simp only[aw]at A;obtain⟨⟨R,cap,O,_⟩,_⟩:=A;refine⟨.int .i64 xs.length,?_,by simp[aw]⟩;split at I
   ·rename_i F;obtain⟨d,L,K⟩:=fH H F;obtain rfl:=mh K;simp[execOp,resolve,invoke,builtin,Builtin.len_,run_underlying L,O,goInt]
   ·cases I
  ·rename_i sz k n E;cases he;rw[E]at A;simp only[aw]at A;obtain⟨⟨R,cap,O⟩,_⟩:=A;refine⟨.int .i64 n,?_,by simp[aw]⟩;split at I
   ·rename_i F;obtain⟨d,L,K⟩:=fH H F;obtain rfl:=mh K;simp[execOp,resolve,invoke,builtin,Builtin.len_,run_underlying L,O,goInt]
   ·cases I
  ·rename_i R n cap E;cases he;rw[E]at A;simp only[aw]at A;refine⟨.int .i64 n,?_,by simp[aw]⟩;split at I
   ·rename_i F;obtain⟨d,L,K⟩:=fH H F;obtain rfl:=mh K;simp[execOp,resolve,invoke,builtin,Builtin.len_,run_underlying L,A,goInt]
   ·cases I
  ·cases he
 ·rename_i x o t;simp only[bN]at ag;obtain⟨I,J⟩:=ag;have A:=db B J;simp only[e2]at he;unfold uS at he;split at he
  ·rename_i s E;cases he;rw[E]at A;simp only[aw]at A;refine⟨.int .i64 s.length,?_,by simp[aw]⟩;split at I
   ·rename_i F;obtain⟨d,L,K⟩:=fH H F;obtain rfl:=qj K;simp[execOp,resolve,invoke,builtin,Builtin.len_,run_underlying L,A.1,goInt,uR]
   ·cases I
  ·rename_i s E;cases he;rw[E]at A;simp only[aw]at A;refine⟨.int .i64 s.size,?_,by simp[aw]⟩;split at I
   ·rename_i F;obtain⟨d,L,K⟩:=fH H F;obtain rfl:=qj K;simp[execOp,resolve,invoke,builtin,Builtin.len_,run_underlying L,A,goInt]
   ·cases I
  ·cases he
 ·rename_i zero parts t aU;split at ag
  ·rename_i cK z F;simp only[bN]at ag;obtain⟨⟨I,J⟩,M⟩:=ag;have c7:=TN I;obtain⟨i,d,TM,A,G,aZ,b4,eT,eE,oa,mi⟩:=(o6 H F).ex;obtain⟨gs,rfl,hc⟩:=yW eT;simp only at c7 oa mi;subst c7;have j9:(gs.toList.all fun f=>(cY aE f.type).isSome)=true:=by rw[<-hc]at J;simpa[List.all_map,Function.comp_def]using J
   obtain⟨mN,dv,eU⟩:=HD H gs.toList j9;rw[hc]at eU;cases TM<;>simp only[ri]at oa;case agg us=>
    simp only[e2]at he;cases E:n7 st.t zero parts with
    |none=>simp[E]at he
    |some x=>obtain⟨fC,cs'⟩:=x;simp only[E,Option.map_some]at he;cases he;obtain⟨aY,g1,g2⟩:=IK B eU parts aU.toList zero us c cs' M (CA w ν _ _ oa) E aA;refine⟨.agg aY,hG (run_build w t _ aY ?_),by simp only[aw];exact⟨aY,rfl,g2⟩⟩;simp only[Program.built,A,G,eE,dv,jV];simpa using g1
   all_goals cases oa
  ·cases ag
 ·rename_i x o;have A:=db B ag;simp only[e2]at he;unfold sm at he;split at he
  ·rename_i k off E;cases he;rw[E]at A;have G:=A;simp only[aw]at A;obtain⟨b,_,O⟩:=A;exact⟨a.eval o,by simp[execOp,O],G⟩
  ·rename_i q E;cases he;rw[E]at A;have G:=A;simp only[aw]at A;obtain⟨b,off,u,O,_⟩:=A;exact⟨a.eval o,by simp[execOp,O],G⟩
  ·rename_i f cs E;cases he;rw[E]at A;have G:=A;simp only[aw]at A;obtain⟨us,O,_⟩:=A;exact⟨a.eval o,by simp[execOp,O],G⟩
  ·cases he
 ·rename_i x y o o' t t';simp only[bN]at ag;have A:=db B ag.1;have G:=db B ag.2;simp only[e2]at he;unfold xj at he;split at he
  ·rename_i k m aQ n hm aO;split at he
   ·rename_i U;subst U;cases he;rw[hm]at A;rw[aO]at G;simp only[aw]at A G;exact⟨.int k (if n<m then n else m),by simp[execOp,resolve,invoke,builtin,Builtin.min_,Builtin.min2,A,G],by simp[aw]⟩
   ·cases he
  ·cases he
 ·rename_i n xs m os;simp only[bN,c2]at ag;obtain⟨rfl,ag⟩:=ag;simp only[e2]at he;cases he;have qw:=uI B ag;refine⟨.func (.func n) #[] (os.map a.eval),by simp[execOp,Instr.makeFunc],?_⟩;simp only[aw];exact⟨os.map a.eval,rfl,by simpa using qw⟩
 ·rename_i bB zero ok x k t o o' xr;simp only[bN,c2]at ag;obtain⟨⟨⟨rfl,I⟩,J⟩,M⟩:=ag;have A:=db B J;have G:=db B M;split at I
  ·rename_i sz hZ jN lO z F;simp only[bN]at I;obtain⟨ON,zN⟩:=I;split at zN
   ·rename_i U6 wv;have c7:=CC zN;obtain⟨cG,hu,K⟩:=fH H F;have pv:cG= .map jN lO:=by cases cG<;>simp[iv]at K;obtain⟨rfl,rfl⟩:=K;rfl
    subst pv;obtain⟨cd,nU,z2,_⟩:=Cj H wv w;rw[<-c7]at z2;have al:=(CB w ν z2).1;have lk:=GM H ON;simp only[e2]at he;unfold oQ at he;split at he
    ·rename_i key ad;rw[ad]at A;simp only[aw]at A;obtain⟨bl,W,Z⟩:=A;split at he
     ·rename_i clock borns kvs eZ;obtain⟨e4,us,el,g1,g2,g3,g4,g5⟩:=B.good.box key _ eZ;rw[W]at g1;cases g1;simp only[hC]at g4;simp only[gV]at g5;have hM:(getObj bl).run P w= .ok (.map (eg borns us.toList).toArray clock) w:=p1 g4;split at he
      ·cases he
      rename_i nu;have tH:=IJ (P:=P) (w:=w) lk ((eg borns us.toList).toArray.isEmpty) G (by simpa using nu);split at he
      ·rename_i v hm;cases he;obtain⟨j,u,f1,f2⟩:=A5 lk G borns kvs us.toList 0 _ g5.1 g5.2.len hm;refine⟨if ok then .tuple #[u,.bool true]else u,?_,?_⟩
       ·simp only[execOp];refine hG ?_;simp only[Instr.lookup,dQ,run_underlying hu,dV,Z,hM,eP,tH,f1.run lk]
       ·cases ok
        ·simpa using f2
        ·simp only[if_true,aw];exact⟨_,rfl,by simp only[bT];exact⟨_,_,rfl,f2,_,_,rfl,by simp[aw],rfl⟩⟩
      ·rename_i hm;cases he;have f1:=A5 lk G borns kvs us.toList 0 _ g5.1 g5.2.len hm;simp only at f1;refine⟨if ok then .tuple #[cd,.bool false]else cd,?_,?_⟩
       ·simp only[execOp];refine hG ?_;simp only[Instr.lookup,dQ,run_underlying hu,dV,Z,hM,eP,tH,f1.run lk,nU]
       ·cases ok
        ·simpa using al
        ·simp only[if_true,aw];exact⟨_,rfl,by simp only[bT];exact⟨_,_,rfl,al,_,_,rfl,by simp[aw],rfl⟩⟩
      ·cases he
     ·cases he
    ·cases he
   ·cases zN
  ·cases I
 ·rename_i x o;have A:=db B ag;simp only[e2]at he;unfold nI at he;split at he
  ·rename_i ff ad;rw[ad]at A;simp only[aw]at A;obtain⟨bl,W,Z⟩:=A;split at he
   ·rename_i since seen last mk eZ;obtain⟨e4,us,el,g1,g2,g3,g4,g5⟩:=B.good.box ff _ eZ;rw[W]at g1;cases g1;simp only[hC]at g4;simp only[gV,bT,aw]at g5;obtain⟨u,aY,nC,⟨lx,m1,rfl⟩,rfl⟩:=g5;rw[nC]at g4;simp only at g4;split at he
    ·rename_i clock borns kvs OT;obtain⟨Kx,l5,Lp,S,bY,dF,fk,gJ⟩:=B.good.box mk _ OT;rw[m1]at S;cases S;simp only[hC]at fk;simp only[gV]at gJ;split at he
     ·rename_i n aO;simp only[ih]at he;obtain⟨q,bb,he⟩:=he;cases he;obtain⟨e,f1,f2⟩:=Hc borns kvs l5.toList p gJ.1 bb;refine⟨.tuple #[e.key,e.val],?_,f2⟩;simp only[execOp];refine hG ?_;have OC:(getObj bl).run P w= .ok (.mapIter (some lx) since seen.toArray last) w:=p1 g4;have OD:(getObj lx).run P w= .ok (.map (eg borns l5.toList).toArray clock) w:=p1 fk;have zG:seen.toArray.back? =some n:=by simpa using aO
      have rN:(clock !=last)=false:=by simp[aA]
      have Oz:(eg borns l5.toList).toArray.find? (·.born==n)=some e:=by simpa using f1
      simp only[Instr.entry,Z,dQ,OC,dV,zG,OD,rN,hX,if_false,Oz,eP]
     ·cases he
    ·cases he
   ·cases he
  ·cases he
 ·rename_i x o t;simp only[bN]at ag;obtain⟨I,J⟩:=ag;have A:=db B J;simp only[e2]at he;unfold sk at he;split at he
  ·rename_i key E;rw[E]at A;simp only[aw]at A;obtain⟨bl,W,Z⟩:=A;split at he
   ·rename_i clock borns kvs eZ;cases he;obtain⟨e4,us,el,g1,g2,g3,g4,g5⟩:=B.good.box key _ eZ;rw[W]at g1;cases g1;simp only[hC]at g4;simp only[gV]at g5;have hM:(getObj bl).run P w= .ok (.map (eg borns us.toList).toArray clock) w:=p1 g4;have hlen:(eg borns us.toList).length=borns.length:=Ey g5.2.len (Iz g5.1);refine⟨.int .i64 borns.length,?_,by simp[aw]⟩;split at I
    ·rename_i F;obtain⟨d,L,K⟩:=fH H F;obtain⟨jN,lO,rfl⟩:∃jN lO,d= .map jN lO:=by cases d<;>simp[iv]at K;exact⟨_,_,rfl⟩
     simp[execOp,resolve,invoke,builtin,Builtin.len_,run_underlying L,Z,goInt,hM,hlen]
    ·cases I
   ·cases he
  ·cases he
 ·rename_i neg cK x y op t o o' S9;simp only[bN,e3]at ag;obtain⟨⟨⟨rfl,V⟩,I⟩,J⟩:=ag;have A:=db B I;have G:=db B J;simp only[e2]at he;unfold vo at he;split at he
  ·rename_i bG dR cn E;simp only at V;cases he;rw[cn]at A;rw[E]at G;simp only[aw]at A G;split at V
   ·rename_i F;obtain⟨d,L,K⟩:=fH H F;obtain rfl:d= .bool:=by cases d<;>simp[iv]at K;rfl
    refine⟨.bool (if neg then bG !=dR else bG==dR),hG ?_,by simp[aw]⟩;cases neg<;>simp[A,G,eqGuard,binOp,Ly L,bne]
   ·cases V
  ·rename_i Vd as dm cn E;simp only at V;simp only[ih]at he;obtain⟨q,bb,he⟩:=he;cases he;rw[cn]at A;rw[E]at G;simp only[aw]at A G;obtain⟨X,Ll,R9⟩:=A;obtain⟨Y,Lm,Sa⟩:=G;obtain⟨gs,hu,aM,dX,fT⟩:=EO H V;obtain⟨i1,_,_⟩:=EA hu aM dX R9 Sa bb;refine⟨.bool (if neg then !q else q),hG ?_,by simp[aw]⟩;rw[Ll,Lm];cases neg
   ·simp only[hX,if_false,dQ,run_eqGuard_agg w _ t o o' X Y fT,dV,run_eql_struct,i1]
   ·simp only[if_true,dQ,run_eqGuard_agg w _ t o o' X Y fT,dV,run_neq_struct,i1]
  ·cases he
 ·rename_i x y o o' t t';simp only[bN]at ag;have A:=db B ag.1;have G:=db B ag.2;simp only[e2]at he;unfold xh at he;split at he
  ·rename_i k m aQ n hm aO;split at he
   ·rename_i U;subst U;cases he;rw[hm]at A;rw[aO]at G;simp only[aw]at A G;exact⟨.int k (if m<n then n else m),by simp[execOp,resolve,invoke,builtin,Builtin.max_,Builtin.max2,A,G],by simp[aw]⟩
   ·cases he
  ·cases he
 ·rename_i t x t' o;simp only[bN,c2]at ag;obtain⟨⟨rfl,I⟩,J⟩:=ag;have A:=db B J;simp only[e2]at he;cases he;split at I
  ·rename_i F;obtain⟨d,L,K⟩:=fH H F;obtain rfl:=mh K;refine⟨.iface t (a.eval o),hG (by simp[Instr.makeInterface,run_underlying L]),?_⟩;simp only[aw];exact⟨_,rfl,A⟩
  ·cases I
 ·rename_i agg sz x t o;simp only[bN]at ag;obtain⟨I,J⟩:=ag;split at I
  ·rename_i f F;simp only[bN,c2]at I;obtain⟨rfl,rfl⟩:=I;obtain⟨v,g1,g2⟩:=xc H B.good F (db B J) (Ql (by simpa only[e2]using he)) aA;exact⟨v,hG g1,g2⟩
  ·cases I
 ·rename_i x s d o;simp only[bN]at ag;obtain⟨I,J⟩:=ag;split at I
  ·rename_i e _ _ tJ oy;split at I
   ·rename_i Ox;obtain⟨d1,pt,zL⟩:=fH H tJ;obtain rfl:=mh zL;obtain⟨d2,rP,qy⟩:=fH H oy;obtain rfl:=qj qy;obtain⟨d3,Oo,Oq⟩:=fH H Ox;obtain rfl:=ti Oq;have A:=db B J;simp only[e2]at he;unfold vn at he;split at he
    ·rename_i sz tag xs E;simp only[ih]at he;obtain⟨dm,ot,he⟩:=he;cases he;rw[E]at A;simp only[aw]at A;obtain⟨⟨R,cap,a8,bK,cz,c5⟩,_⟩:=A;have ao:=Dc ot;have ad:∃ns:List Int,ns.length=xs.length/\dm=ns.map rs/\(xs.length=0\/ ∃b off,R=some ⟨b,off,none⟩/\gS w ν.A b off (ns.map (Value.int .u8))):=by
      rcases c5 with rfl|⟨b,off,us,dv,eU,kW⟩
      ·simp only[lM,dq]at ot;exact⟨[],rfl,by rw[<-ot];rfl,.inl rfl⟩
      ·obtain⟨ns,dB,ei,hT⟩:=Dd ot kW;subst dB;exact⟨ns,by simpa using hT,ei,.inr ⟨b,off,dv,eU⟩⟩
     obtain⟨ns,fh,rfl,gA⟩:=ad;refine⟨_,hG (v:= .string ⟨(ns.map rs).toArray⟩) ?_,by simp only[aw];exact⟨trivial,by rw[ao];exact cz.2⟩⟩;rw[a8];simp only[convert,dQ,run_underlying pt,run_underlying rP,dV];simp only[run_underlying Oo,dQ,dV,Kq fh gA]
    ·cases he
   ·cases I
  ·cases I
 ·rename_i agg sz x t o;simp only[bN]at ag;obtain⟨I,J⟩:=ag;split at I
  ·rename_i f F;simp only[bN,c2]at I;obtain⟨rfl,rfl⟩:=I;obtain⟨v,g1,g2⟩:=xc H B.good F (db B J) (Nt (by simpa only[e2]using he)) aA;exact⟨v,hG g1,g2⟩
  ·cases I
 ·exact absurd rfl (Oa _ _ _ _ _)
 ·cases ag
def Tc{P:bp}{aE:List (Nat×cQ)}(d:e1 P aE=true){C:dk}{st:aN}{a:Act}{w:World}{ν:aC}(f:bO C st a w ν){i:ee}{o:Oper}(ag:u0 aE i o.op=true)
  {c:Prop} {p:aa} (he:e2 st i=some (c,p)) (aA:c):∃v,(execOp a.eval o).run P w= .ok (.value v) w/\aw w ν p v:=by
 by_cases g:∃b z ok x k,i= .mgetB b z ok x k
 ·obtain⟨b,z,ok,x,k,rfl⟩:=g;refine Js d f (i:= .mget b z ok x k) (fun _ _ _ _ _ e=>by cases e) ?_ he aA;obtain⟨dst,op,type,pos,after,guard⟩:=o;cases op<;>first|exact ag|simp[u0]at ag
 ·exact Js d f (fun b z ok x k e=>g ⟨b,z,ok,x,k,e⟩) ag he aA
def D8{w:World}{o:Obj}{b i:Nat}(h:b<w.heap.size):(w.alloc o).cell? ⟨b,i,none⟩=w.cell? ⟨b,i,none⟩:=World.cell?_of_block (Below.heap_alloc w o b h)
def aC.withBox(ν:aC)(k:ar)(bl:Nat):aC:={ν with bx:=fun j=>if j=k then some bl else ν.bx j}
def aC.withOwn(ν:aC)(k:ar)(n:Nat)(v:Value):aC:={ν with ow:=fun j=>if j=k then some (n,v)else ν.ow j}
def bO.lookNone{C:dk}{st:aN}{a:Act}{w:World}{ν:aC}(h:bO C st a w ν){k:ar}(U:fresh st.n st.o k):ab k st.b=none/\ab k st.e=none:=by
 obtain⟨I,J,_⟩:=h.new k U;constructor
 ·cases b:ab k st.b with
  |none=>rfl
  |some cs=>obtain⟨bl,us,el,g1,_⟩:=h.good.box _ _ b;rw[I]at g1;cases g1
 ·cases b:ab k st.e with
  |none=>rfl
  |some o=>obtain⟨v,us,g1,_⟩:=h.good.own _ _ b;rw[J]at g1;cases g1
def Good.ownLt{pr:Nat->Prop}{w:World}{ν:aC}{b:List (ar×List aa)}{e:List (ar×cw)}(h:Good pr w ν b e){g:ar}{o:cw}(aM:ab g e=some o){n:Nat}{v:Value}(c:ν.ow g=some (n,v)){bl:Nat}(a:v.ownBlock=some bl):bl<w.heap.size:=by obtain⟨v',us,g1,g2,_⟩:=h.own g o aM;rw[c]at g1;cases g1;exact(g2.lt bl a).2
def Good.boxLt{pr:Nat->Prop}{w:World}{ν:aC}{b:List (ar×List aa)}{e:List (ar×cw)}(h:Good pr w ν b e){k:ar}{cs:List aa}(U:ab k b=some cs){bl:Nat}(a:ν.bx k=some bl):bl<w.heap.size:=by obtain⟨c,us,el,g1,_,_,g4,_⟩:=h.box k cs U;rw[a]at g1;cases g1;exact(Array.getElem?_eq_some_iff.1 g4).1
def bO.newBox{C:dk}{st:aN}{a:Act}{w:World}{ν:aC}(h:bO C st a w ν){c:ar}(G:ν.bx c=none/\ν.ow c=none/\∀j b,¬ν.tr c j b){n':Nat}{o':List ar}(M:∀j,fresh n' o' j->fresh st.n st.o j/\j≠c){cs:List aa}{us:Array Value}(el:ey)(aA:gV w ν cs us.toList):
  bO C {st with b:=bW c cs st.b,n:=n',o:=o'} a (w.alloc (hC cs us el)) (ν.withBox c w.heap.size)/\
  aw (w.alloc (hC cs us el)) (ν.withBox c w.heap.size) (.ptr c 0) (.pointer (some ⟨w.heap.size,0,none⟩)):=by
 obtain⟨R,Q,P⟩:=G;have ag:ij w ν (w.alloc (hC cs us el)) (ν.withBox c w.heap.size):=by
  refine⟨fun b o f=>⟨f,D8 (h.good.alt b o f)⟩,fun k b _ U=>?_,fun g n u _ aM=>⟨n,u,aM,.inl ⟨rfl,rfl⟩⟩,fun b o f=>q4 (Below.heap_alloc w _ b (h.good.alt b o f)),fun _ _ _ _ h=>h⟩;have:k≠c:=fun e=>by subst e;rw[R]at U;cases U
  simp[aC.withBox,this,U]
 have y:(w.alloc (hC cs us el)).heap.size=w.heap.size+1:=Ψ
 have r:∀k,(ab k (bW c cs st.b)).isSome->k=c\/(k≠c/\(ab k st.b).isSome/\(ν.withBox c w.heap.size).bx k=ν.bx k):=by
  intro k U;by_cases e:k=c
  ·exact .inl e
  ·rw[fD,bH (Ne.symm e)]at U;exact .inr ⟨e,U,by simp[aC.withBox,e]⟩
 refine⟨h.over ag rfl ⟨fun bl o f=>by rw[y];have:=h.good.alt bl o f;omega,fun k z U=>?_,fun k aQ bl U H p q=>?_,fun g o aM=>?_,h.good.oinj,fun g k n v bl aM U F d t=>?_,fun k=>?_,fun bl d k j B=>?_⟩
  ⟨h.fr.os,h.fr.tape,h.fr.output,by rw[y];have:=h.fr.size;omega,fun k U hm=>?_,fun b o f=>?_,h.fr.fresh,fun n b d=>?_,h.fr.obn,h.fr.row,h.fr.obr,h.fr.trd,fun k j b d=>⟨(h.fr.trb k j b d).1,by rw[y];have:=(h.fr.trb k j b d).2;omega⟩,fun k j b d=>?_,fun b o f=>(ag.sh b o (h.fr.keep b o f).1).trans (h.fr.sh b o f)⟩ (fun m hm=>?_),?_⟩
 ·simp only at U;rw[fD]at U;by_cases e:c=k
  ·rw[if_pos e]at U;cases U;subst e;refine⟨w.heap.size,us,el,by simp[aC.withBox],.inr h.fr.size,fun o f=>?_,heap_alloc_new w _,lz ag aA⟩;have:=h.good.alt _ o f;omega
  ·rw[bH e]at U;obtain⟨bl,O,J,g1,g2,g3,g4,g5⟩:=h.good.box k z U;exact⟨bl,O,J,ag.bx _ _ trivial g1,g2,g3,by rw[Below.heap_alloc w _ bl (Array.getElem?_eq_some_iff.1 g4).1];exact g4,lz ag g5⟩
 ·rcases r k U with rfl|⟨E,l,i⟩<;>rcases r aQ H with rfl|⟨m1,m2,m3⟩
  ·rfl
  ·exfalso;simp only[aC.withBox,if_true,dq]at p;subst p;rw[m3]at q;obtain⟨z,x⟩:=dt.1 m2;have:=h.good.boxLt x q;omega
  ·exfalso;simp only[aC.withBox,if_true,dq]at q;subst q;rw[i]at p;obtain⟨z,x⟩:=dt.1 l;have:=h.good.boxLt x p;omega
  ·rw[i]at p;rw[m3]at q;exact h.good.inj k aQ bl l m2 p q
 ·obtain⟨v,xs,g1,g2,g3,g4⟩:=h.good.own g o aM;exact⟨v,xs,g1,g2.alloc _,g3,mQ ag (fun _ _ _ h=>h) g4⟩
 ·rcases r k U with rfl|⟨E,l,i⟩
  ·simp only[aC.withBox,if_true,dq]at t;subst t;obtain⟨o,L⟩:=dt.1 aM;have:=h.good.ownLt L F d;omega
  ·rw[i]at t;exact h.good.obx g k n v bl aM l F d t
 ·by_cases e:k=c
  ·subst e;exact .inr Q
  ·rcases h.good.one k with I|I
   ·exact .inl (by simp[aC.withBox,e,I])
   ·exact .inr I
 ·rcases d with⟨aQ,N,a2⟩|d
  ·rcases r aQ N with rfl|⟨E,l,i⟩
   ·simp[aC.withBox]at a2;subst a2;exact absurd (h.fr.trb k j _ B).2 (Nat.lt_irrefl _)
   ·exact h.good.otr bl (.inl ⟨aQ,l,by rw[<-i];exact a2⟩) k j B
  ·exact h.good.otr bl (.inr d) k j B
 ·rw[Below.heap_alloc w _ k (by have:=h.fr.size;omega)];exact h.fr.block k U hm
 ·obtain⟨s,A⟩:=h.fr.keep b o f;exact⟨s,(D8 (h.good.alt b o s)).trans A⟩
 ·exact ag.bx _ _ trivial (h.fr.obj n b d)
 ·have K:k≠c:=fun e=>by subst e;exact P j b d
  obtain⟨t1,t2⟩:=h.fr.trn k j b d;exact⟨by simp[aC.withBox,K,t1],t2⟩
 ·obtain⟨f1,f2⟩:=M m hm;obtain⟨s,A⟩:=h.new m f1;refine⟨?_,A⟩;simp[aC.withBox,f2,s]
 ·simp[aw,aC.withBox]
def bO.setBox{C:dk}{st:aN}{a:Act}{w w':World}{ν:aC}(h:bO C st a w ν){k:ar}{cs cs':List aa}(U:ab k st.b=some cs){bl:Nat}(f:ν.bx k=some bl){us:Array Value}{el:ey}
  (z:w'.os=w.os) (L:w'.tape=w.tape) (M:w'.output=w.output) (l:∀j,j≠bl->w'.heap[j]? =w.heap[j]?) (r:w'.heap.size=w.heap.size) (B:w'.heap[bl]? =some (hC cs' us el)) (aA:gV w ν cs' us.toList):
  bO C {st with b:=bW k cs' st.b} a w' ν/\ij w ν w' ν:=by
 obtain⟨N,O,P,g1,g2,g3,g4,g5⟩:=h.good.box k cs U;rw[f]at g1;cases g1;have ag:ij w ν w' ν:=by
  refine⟨fun b o d=>⟨d,World.cell?_of_block (l b fun e=>?_)⟩,fun _ _ _ h=>h,fun g n u _ aM=>⟨n,u,aM,.inl ⟨rfl,rfl⟩⟩,fun b o d=>q4 (l b fun e=>?_),fun _ _ _ _ h=>h⟩<;>
  (subst e;exact g3 o d)
 have p:∀j,(ab j (bW k cs' st.b)).isSome->(ab j st.b).isSome:=by
  intro j c;rw[fD]at c;by_cases e:k=j
  ·subst e;simp[U]
  ·rwa[bH e]at c
 refine⟨h.over ag rfl ⟨fun b o d=>by rw[r];exact h.good.alt b o d,fun j G c=>?_,fun j cU b c A=>h.good.inj j cU b (p j c) (p cU A),fun g o aM=>?_,h.good.oinj,fun g j n v b aM c=>h.good.obx g j n v b aM (p j c),h.good.one,fun bl f=>h.good.otr bl (f.imp (fun⟨k,I,J⟩=>⟨k,p k I,J⟩) id)⟩
  ⟨z.trans h.fr.os,L.trans h.fr.tape,M.trans h.fr.output,by rw[r];exact h.fr.size,fun j c hm=>?_,fun b o d=>?_,h.fr.fresh,h.fr.obj,h.fr.obn,h.fr.row,h.fr.obr,h.fr.trd,fun k j b f=>⟨(h.fr.trb k j b f).1,by rw[r];exact(h.fr.trb k j b f).2⟩,h.fr.trn,fun b o d=>(ag.sh b o (h.fr.keep b o d).1).trans (h.fr.sh b o d)⟩ h.new,ag⟩
 ·simp only at c;rw[fD]at c;by_cases e:k=j
  ·rw[if_pos e]at c;cases c;subst e;exact⟨bl,us,el,f,g2,g3,B,lz ag aA⟩
  ·rw[bH e]at c;obtain⟨b,K,E,m,i,t,s,F⟩:=h.good.box j G c;refine⟨b,K,E,m,i,t,?_,lz ag F⟩;rw[l b fun q=>e (h.good.inj k j bl (by simp[U]) (by simp[c]) f (by rw[<-q];exact m))];exact s
 ·obtain⟨v,xs,m,i,t,s⟩:=h.good.own g o aM;refine⟨v,xs,m,⟨i.1,?_⟩,t,mQ ag (fun _ _ _ h=>h) s⟩;rcases i.2 with i|⟨x,cap,cur,f1,f2,f3,f4⟩
  ·exact .inl i
  ·refine .inr ⟨x,cap,cur,f1,f2,?_,f4⟩;rw[l x fun q=>h.good.obx g k o.n v bl (by simp[aM]) (by simp[U]) m (by rw[f1,<-q];rfl) f];exact f3
 ·rw[l j fun e=>by subst e;exact g2.elim hm (fun g2=>Ω)];exact h.fr.block j c hm
 ·obtain⟨y,H⟩:=h.fr.keep b o d;exact⟨y,(ag.A b o y).2.trans H⟩
def bO.storeBox{C:dk}{st:aN}{a:Act}{w:World}{ν:aC}(h:bO C st a w ν){k:ar}{cs cs':List aa}(U:ab k st.b=some cs){bl:Nat}(c:ν.bx k=some bl)(g:et cs=true){us:Array Value}(aA:bL w ν cs' us.toList):
  bO C {st with b:=bW k cs' st.b} a (w.setRow bl us) ν:=by
 obtain⟨i,e,el,g1,g2,g3,g4,g5⟩:=h.good.box k cs U;rw[c]at g1;cases g1;rw[jP g]at g4;have d:=oX aA;exact(h.setBox (w':=w.setRow bl us) U c (us:=us) (el:=el) rfl rfl rfl (fun j f=>setRow_other w bl j us f) (setRow_size w bl us) (by rw[jP d];exact setRow_heap w bl e us el _ g4) (by rw[jQ d];exact aA)).1
def aC.withRowOf(ν:aC)(k:ar)(v:Value)(n cells:Nat):aC:={A:=fun b o=>ν.A b o\/(v.ownBlock=some b/\o<cells),bx:=ν.bx,ow:=fun j=>if j=k then some (n,v)else ν.ow j,tr:=ν.tr}
def w9{w:World}{A:Nat->Nat->Prop}{b:Nat}:∀(us:List Value) (off:Nat),(∀j u,us[j]? =some u->A b (off+j)/\w.cell? ⟨b,off+j,none⟩=some u)->gS w A b off us
 |[],_,_=>trivial
 |u::us,off,h=>⟨h 0 u rfl,w9 us (off+1) fun j x a=>by have:=h (j+1) x (by simpa using a);rwa[show off+(j+1)=off+1+j from by omega]at this⟩
def yP{w w':World}(aM:w.grownBy w' none){b i:Nat}(h:b<w.heap.size):w'.cell? ⟨b,i,none⟩=w.cell? ⟨b,i,none⟩:=World.cell?_of_block (aM.block b h Ψ)
def bO.newRowM{C:dk}{st:aN}{a:Act}{w w':World}{ν:aC}(h:bO C st a w ν){k:ar}{xs:List aa}(U:(ν.bx k=none/\ν.ow k=none/\∀j b,¬ν.tr k j b)\/ ∃o,ab k st.e=some o/\o.n<xs.length){el sz:Nat}{v:Value}{us:List Value}
  (aM:w.grownBy w' none) (F:w'.ownsRow w.heap.size el sz v xs.length us) (aA:b7 w ν sz xs us) (W:xs.length<=cH) {n':Nat} {o':List ar} (dI:∀j,fresh n' o' j->fresh st.n st.o j/\j≠k):
  bO C {st with e:=bW k ⟨xs.length,el,sz,some xs⟩ st.e,n:=n',o:=o'} a w' (ν.withOwn k xs.length v)/\
  ((∃b cap,v= .slice (some ⟨b,0,none⟩) xs.length cap)->aw w' (ν.withOwn k xs.length v) (.row sz k xs.length) v):=by
 have q:∀bl,v.ownBlock=some bl->w.heap.size<=bl/\bl<w'.heap.size:=fun bl c=>F.lt bl c;have ag:ij w ν w' (ν.withOwn k xs.length v):=by
  refine⟨fun b o d=>⟨d,yP aM (h.good.alt b o d)⟩,fun j b _ z=>z,fun g n u _ y=>?_,fun b o d=>q4 (aM.block b (h.good.alt b o d) Ψ),fun _ _ _ _ h=>h⟩;by_cases e:g=k
  ·subst e;rcases U with U|⟨o,ag,K⟩
   ·rw[U.2.1]at y;cases y
   ·obtain⟨v0,B,f,_⟩:=h.good.own g o ag;rw[f]at y;cases y;exact⟨xs.length,v,by simp[aC.withOwn],.inr K⟩
  ·exact⟨n,u,by simp[aC.withOwn,e,y],.inl ⟨rfl,rfl⟩⟩
 have A:∀g,(ab g (bW k ⟨xs.length,el,sz,some xs⟩ st.e)).isSome->g=k\/(g≠k/\(ab g st.e).isSome/\(ν.withOwn k xs.length v).ow g=ν.ow g):=by
  intro g M;by_cases e:g=k
  ·exact .inl e
  ·rw[fD,bH (Ne.symm e)]at M;exact .inr ⟨e,M,by simp[aC.withOwn,e]⟩
 have S:∀bl,v.ownBlock=some bl->∀j,¬ν.A bl j:=fun bl c j d=>by have I:=h.good.alt bl j d;have:=(q bl c).1;omega
 have O6:∀j b,¬ν.tr k j b:=fun j b c=>by
  rcases U with U|⟨o,p,_⟩
  ·exact U.2.2 j b c
  ·obtain⟨v0,B,f,_⟩:=h.good.own k o p;rw[(h.fr.trn k j b c).2]at f;cases f
 refine⟨h.over ag rfl ⟨fun bl o d=>?_,fun j P z=>?_,h.good.inj,fun g o t=>?_,fun g O n n' u c3 bl I J i l x G=>?_,fun g j n u bl I J i l x=>?_,fun j=>?_,fun bl c aQ j L=>?_⟩
  ⟨aM.os.trans h.fr.os,aM.tape.trans h.fr.tape,aM.output.trans h.fr.output,jB h.fr.size aM.size,fun j z hm=>?_,fun b o d=>?_,h.fr.fresh,h.fr.obj,h.fr.obn,fun m n u hm=>uL (h.fr.row m n u hm) (fun n u=>ag.ow _ n u trivial),h.fr.obr,h.fr.trd,fun k j b c=>⟨(h.fr.trb k j b c).1,Nat.lt_of_lt_of_le (h.fr.trb k j b c).2 aM.size⟩,fun aQ j b c=>?_,fun b o d=>(ag.sh b o (h.fr.keep b o d).1).trans (h.fr.sh b o d)⟩ (fun m hm=>?_),?_⟩
 ·have:=h.good.alt bl o d;have:=aM.size;omega
 ·obtain⟨bl,aY,Z,g1,g2,g3,g4,g5⟩:=h.good.box j P z;have K:=(Array.getElem?_eq_some_iff.1 g4).1;exact⟨bl,aY,Z,g1,g2,g3,by rw[aM.block bl K Ψ];exact g4,lz ag g5⟩
 ·simp only at t;rw[fD]at t;by_cases e:k=g
  ·rw[if_pos e]at t;cases t;subst e;refine⟨v,us,by simp[aC.withOwn],⟨F.1,?_⟩,fun bl c=>⟨.inr (jB h.fr.size (q bl c).1),fun j d=>absurd d (S bl c j)⟩,fun ys R=>?_⟩
   ·rcases F.2 with f|⟨X,cap,cur,f1,f2,f3⟩
    ·exact .inl f
    ·exact .inr ⟨X,cap,cur,f1,Ω,f3⟩
   ·simp only[dq]at R;subst R;exact⟨rfl,sF ag aA,S⟩
  ·rw[bH e]at t;obtain⟨v0,B,f,aD,aZ,b4⟩:=h.good.own g o t;exact⟨v0,B,by simp[aC.withOwn,Ne.symm e,f],aD.kept aM (by cases v0.ownBlock<;>simp),aZ,mQ ag (fun _ _ _ h=>h) b4⟩
 ·rcases A g I with rfl|⟨N,s,r⟩<;>rcases A O J with rfl|⟨m1,m2,m3⟩
  ·rfl
  ·exfalso;simp only[aC.withOwn,if_true,dq,ho]at i;rw[m3]at l;obtain⟨o,p⟩:=dt.1 m2;have Q:=h.good.ownLt p l G;have:=(q bl (by rw[i.2];exact x)).1;omega
  ·exfalso;simp only[aC.withOwn,if_true,dq,ho]at l;rw[r]at i;obtain⟨o,p⟩:=dt.1 s;have Q:=h.good.ownLt p i x;have:=(q bl (by rw[l.2];exact G)).1;omega
  ·rw[r]at i;rw[m3]at l;exact h.good.oinj g O n n' u c3 bl s m2 i l x G
 ·rcases A g I with rfl|⟨N,s,r⟩
  ·simp only[aC.withOwn,if_true,dq,ho]at i;obtain⟨P,Y⟩:=dt.1 J;have Q:=h.good.boxLt Y x;have:=(q bl (by rw[i.2];exact l)).1;omega
  ·rw[r]at i;exact h.good.obx g j n u bl s J i l x
 ·by_cases e:j=k
  ·subst e;rcases U with U|⟨o,p,_⟩
   ·exact .inl U.1
   ·obtain⟨v0,B,f,_⟩:=h.good.own j o p;rcases h.good.one j with I|I
    ·exact .inl I
    ·rw[I]at f;cases f
  ·rcases h.good.one j with I|I
   ·exact .inl I
   ·exact .inr (by simp[aC.withOwn,e,I])
 ·rcases c with c|⟨g,n,u,bd,a2,a3⟩
  ·exact h.good.otr bl (.inl c) aQ j L
  ·rcases A g bd with rfl|⟨N,s,r⟩
   ·simp only[aC.withOwn,if_true,dq,ho]at a2;have I:=(q bl (by rw[a2.2];exact a3)).1;have J:=(h.fr.trb aQ j _ L).2;omega
   ·exact h.good.otr bl (.inr ⟨g,n,u,s,by rw[<-r];exact a2,a3⟩) aQ j L
 ·rw[aM.block j (by have:=h.fr.size;omega) Ψ];exact h.fr.block j z hm
 ·obtain⟨E,H⟩:=h.fr.keep b o d;exact⟨E,(ag.A b o E).2.trans H⟩
 ·have de:aQ≠k:=fun e=>by subst e;exact O6 j b c
  obtain⟨t1,t2⟩:=h.fr.trn aQ j b c;exact⟨t1,by simp[aC.withOwn,de,t2]⟩
 ·obtain⟨f1,f2⟩:=dI m hm;obtain⟨E,H,dF⟩:=h.new m f1;refine⟨E,?_,dF⟩;simp[aC.withOwn,f2,H]
 ·intro V;simp only[aw];exact⟨V,W,xs.length,v,by simp[aC.withOwn],di _,fun _=>rfl⟩
def bO.publish{C:dk}{st:aN}{a:Act}{w:World}{ν:aC}(h:bO C st a w ν){k:ar}{o:cw}{xs:List aa}(U:ab k st.e=some o)(ad:o.xs=some xs){v:Value}(q:ν.ow k=some (o.n,v))(F:xs.length<=cH):
  bO C {st with e:=bW k ⟨o.n,o.el,o.sz,none⟩ st.e} a w (ν.withRowOf k v o.n (o.n*o.sz))/\
  aw w (ν.withRowOf k v o.n (o.n*o.sz)) (.slice o.sz (.own k) xs) v:=by
 obtain⟨v0,us,L,r,y,W⟩:=h.good.own k o U;rw[q]at L;cases L;obtain⟨H,N,nO⟩:=W xs ad;have f:∀g,(ν.withRowOf k v o.n (o.n*o.sz)).ow g=ν.ow g:=fun g=>by
  simp only[aC.withRowOf];split
  ·rename_i e;subst e;exact q.symm
  ·rfl
 have ag:ij w ν w (ν.withRowOf k v o.n (o.n*o.sz)):=⟨fun b o c=>⟨.inl c,rfl⟩,fun j b _ p=>p,fun g n u _ P=>⟨n,u,by rw[f];exact P,.inl ⟨rfl,rfl⟩⟩,fun _ _ _=>rfl,fun _ _ _ _ h=>h⟩
 have s:∀g,(ab g (bW k ⟨o.n,o.el,o.sz,none⟩ st.e)).isSome->(ab g st.e).isSome:=by
  intro g O;by_cases e:k=g
  ·subst e;simp[U]
  ·rwa[fD,bH e]at O
 refine⟨h.over ag rfl ⟨fun bl i c=>?_,fun j V p=>?_,h.good.inj,fun g o' l=>?_,fun g G n n' u X bl I J z aF=>h.good.oinj g G n n' u X bl (s g I) (s G J) (by rwa[f]at z) (by rwa[f]at aF),fun g j n u bl I J z=>h.good.obx g j n u bl (s g I) J (by rwa[f]at z),fun j=>?_,fun bl d=>h.good.otr bl (d.imp id (fun⟨g,n,v,Z,a2,a3⟩=>⟨g,n,v,s g Z,by rwa[f]at a2,a3⟩))⟩
  ⟨h.fr.os,h.fr.tape,h.fr.output,h.fr.size,h.fr.block,fun b i c=>⟨.inl (h.fr.keep b i c).1,(h.fr.keep b i c).2⟩,fun b i c=>?_,h.fr.obj,h.fr.obn,fun m n u hm=>uL (h.fr.row m n u hm) (fun n u=>ag.ow _ n u trivial),h.fr.obr,h.fr.trd,h.fr.trb,fun aQ j b d=>⟨(h.fr.trn aQ j b d).1,by rw[f];exact(h.fr.trn aQ j b d).2⟩,h.fr.sh⟩ (fun m hm=>?_),?_⟩
 ·rcases c with c|⟨c,_⟩
  ·exact h.good.alt bl i c
  ·exact(r.lt bl c).2
 ·obtain⟨bl,aY,Q,g1,g2,g3,g4,g5⟩:=h.good.box j V p;refine⟨bl,aY,Q,g1,g2,fun i c=>?_,g4,lz ag g5⟩;rcases c with c|⟨c,_⟩
  ·exact g3 i c
  ·exact h.good.obx k j o.n v bl (by simp[U]) (by simp[p]) q c g1
 ·simp only at l;rw[fD]at l;by_cases e:k=g
  ·rw[if_pos e]at l;cases l;subst e;refine⟨v,us,by rw[f];exact q,r,fun bl d=>⟨(y bl d).1,fun j c=>?_⟩,fun ys aP=>by cases aP⟩;rcases c with c|⟨_,c⟩
   ·exact(y bl d).2 j c
   ·exact c
  ·rw[bH e]at l;obtain⟨v0,R,t,A,K,b4⟩:=h.good.own g o' l;have B:∀bl,v0.ownBlock=some bl->∀j,(ν.withRowOf k v o.n (o.n*o.sz)).A bl j->ν.A bl j:=fun bl d j c=>by
    rcases c with c|⟨c,_⟩
    ·exact c
    ·exact absurd (h.good.oinj k g o.n o'.n v v0 bl (by simp[U]) (by simp[l]) q t c d) e
   exact⟨v0,R,by rw[f];exact t,A,fun bl d=>⟨(K bl d).1,fun j c=>(K bl d).2 j (B bl d j c)⟩,mQ ag B b4⟩
 ·rcases h.good.one j with I|I
  ·exact .inl I
  ·exact .inr (by rw[f];exact I)
 ·rcases c with c|⟨c,_⟩
  ·exact h.fr.fresh b i c
  ·exact .inr (y b c).1
 ·obtain⟨Y,bY,S⟩:=h.new m hm;exact⟨Y,by rw[f];exact bY,S⟩
 ·simp only[aw];refine⟨?_,fun e=>(by cases e),fun g e=>?_,fun _ _ e=>(by cases e),fun _ e=>(by cases e)⟩
  ·rcases r.2 with⟨t,A⟩|⟨x,cap,cur,f1,f2,f3,f4,f5,f6,f7⟩
   ·refine⟨none,0,by rw[t,H,A],Ω,⟨by simp[maxLen],F⟩,.inl (List.eq_nil_of_length_eq_zero Ω)⟩
   ·refine⟨some ⟨x,0,none⟩,cap,by rw[f1,H],Ω,⟨f5,F⟩,.inr ⟨x,0,us,rfl,w9 us 0 fun j u p=>?_,sF ag N⟩⟩;have E:v.ownBlock=some x:=by rw[f1];rfl
    have M:j<us.length:=(eQ.1 p).1;refine⟨.inr ⟨E,by rw[r.1]at M;omega⟩,?_⟩;have:=r.cells E j u p;rwa[j3]at this
  ·cases e;exact⟨o.n,v,by rw[f];exact q,Ω,fun _=>rfl⟩
def Jq{α:Type}(k:ar)(p q:α):∀l,bW k q (bW k p l)=bW k q l
 |[]=>by simp[bW]
 |(i,r)::l=>by
  by_cases e:i=k
  ·simp[bW,e]
  ·simp[bW,e,Jq k p q l]
def bO.newRow{C:dk}{st:aN}{a:Act}{w w':World}{ν:aC}(h:bO C st a w ν){k:ar}{xs:List aa}(U:(ν.bx k=none/\ν.ow k=none/\∀j b,¬ν.tr k j b)\/ ∃o,ab k st.e=some o/\o.n<xs.length){el sz:Nat}{v:Value}{us:List Value}
  (aM:w.grownBy w' none) (d:w'.ownsRow w.heap.size el sz v xs.length us) (aA:b7 w ν sz xs us) (c:xs.length<=cH) {n':Nat} {o':List ar} (f:∀j,fresh n' o' j->fresh st.n st.o j/\j≠k):
  bO C {st with e:=bW k ⟨xs.length,el,sz,none⟩ st.e,n:=n',o:=o'} a w' ((ν.withOwn k xs.length v).withRowOf k v xs.length (xs.length*sz))/\
  aw w' ((ν.withOwn k xs.length v).withRowOf k v xs.length (xs.length*sz)) (.slice sz (.own k) xs) v:=by
 have I:=(h.newRowM U aM d aA c f).1;have J:=I.publish (k:=k) (o:=⟨xs.length,el,sz,some xs⟩) (xs:=xs) (v:=v) (by simp[fD]) rfl (by simp[aC.withOwn]) c;simpa only[Jq]using J
def bO.setRowM{C:dk}{st:aN}{a:Act}{w w':World}{ν:aC}(h:bO C st a w ν){k:ar}{o:cw}{xs xs':List aa}(U:ab k st.e=some o)(ad:o.xs=some xs){bl:Nat}{v v':Value}(f:ν.ow k=some (o.n,v))(l:v.ownBlock=some bl)(A:v'.ownBlock=some bl)
  (aO:(xs'.length=o.n/\v'=v)\/o.n<xs'.length) {us:List Value} (rT:w'.os=w.os) (Av:w'.tape=w.tape) (Ah:w'.output=w.output) (s:∀j,j≠bl->w'.heap[j]? =w.heap[j]?) (M:w'.heap.size=w.heap.size)
  (V:w'.ownsRow 0 o.el o.sz v' xs'.length us) (aA:b7 w ν o.sz xs' us):
  bO C {st with e:=bW k ⟨xs'.length,o.el,o.sz,some xs'⟩ st.e} a w' (ν.withOwn k xs'.length v')/\ij w ν w' (ν.withOwn k xs'.length v')/\(xs'.length<=cH->aw w' (ν.withOwn k xs'.length v') (.row o.sz k xs'.length) v'):=by
 obtain⟨v0,W,a8,bK,X,c5⟩:=h.good.own k o U;rw[f]at a8;cases a8;obtain⟨cD,ic,B⟩:=c5 xs ad;have ag:ij w ν w' (ν.withOwn k xs'.length v'):=by
  refine⟨fun b i d=>⟨d,World.cell?_of_block (s b fun e=>by subst e;exact B b l i d)⟩,fun j b _ r=>r,fun g n u _ p=>?_,fun b i d=>q4 (s b fun e=>by subst e;exact B b l i d),fun _ _ _ _ h=>h⟩;by_cases e:g=k
  ·subst e;rw[f]at p;cases p;refine⟨xs'.length,v',by simp[aC.withOwn],?_⟩;rcases aO with⟨I,J⟩|I
   ·exact .inl ⟨I,J⟩
   ·exact .inr I
  ·exact⟨n,u,by simp[aC.withOwn,e,p],.inl ⟨rfl,rfl⟩⟩
 have E:∀g n u,(ab g (bW k ⟨xs'.length,o.el,o.sz,some xs'⟩ st.e)).isSome->(ν.withOwn k xs'.length v').ow g=some (n,u)->∀b,u.ownBlock=some b->(ab g st.e).isSome/\∃n u,ν.ow g=some (n,u)/\u.ownBlock=some b:=by
  intro g n u S p b c;by_cases e:g=k
  ·subst e;simp only[aC.withOwn,if_true,dq,ho]at p;rw[<-p.2,A]at c;cases c;exact⟨by simp[U],o.n,v,f,l⟩
  ·rw[fD,bH (Ne.symm e)]at S;simp only[aC.withOwn,e,if_false]at p;exact⟨S,n,u,p,c⟩
 refine⟨h.over ag rfl ⟨fun b i d=>by rw[M];exact h.good.alt b i d,fun j cI r=>?_,h.good.inj,fun g o' q=>?_,fun g Y n n' u c3 b I J P Q R cu=>?_,fun g j n u b I J P Q R=>?_,fun j=>?_,fun b c=>h.good.otr b (c.imp id (fun⟨g,n,v,z,a2,a3⟩=>by obtain⟨N,x,t,O,K⟩:=E g n v z a2 b a3;exact⟨g,x,t,N,O,K⟩))⟩
  ⟨rT.trans h.fr.os,Av.trans h.fr.tape,Ah.trans h.fr.output,by rw[M];exact h.fr.size,fun j r hm=>?_,fun b i d=>?_,h.fr.fresh,h.fr.obj,h.fr.obn,fun m n u hm=>uL (h.fr.row m n u hm) (fun n u=>ag.ow _ n u trivial),h.fr.obr,h.fr.trd,fun k j b c=>⟨(h.fr.trb k j b c).1,by rw[M];exact(h.fr.trb k j b c).2⟩,fun aQ j b c=>?_,fun b o d=>(ag.sh b o (h.fr.keep b o d).1).trans (h.fr.sh b o d)⟩ (fun m hm=>?_),ag,?_⟩
 ·obtain⟨b,aY,eb,g1,g2,g3,g4,g5⟩:=h.good.box j cI r;have y:b≠bl:=fun e=>h.good.obx k j o.n _ bl (by simp[U]) (by simp[r]) f l (by rw[<-e];exact g1);exact⟨b,aY,eb,g1,g2,g3,by rw[s b y];exact g4,lz ag g5⟩
 ·simp only at q;rw[fD]at q;by_cases e:k=g
  ·rw[if_pos e]at q;cases q;subst e;refine⟨v',us,by simp[aC.withOwn],V,fun b c=>?_,fun ys aP=>?_⟩
   ·rw[A]at c;cases c;exact⟨(X bl l).1,fun j d=>absurd d (B bl l j)⟩
   ·simp only[dq]at aP;subst aP;exact⟨rfl,sF ag aA,fun b c=>by rw[A]at c;cases c;exact B bl l⟩
  ·rw[bH e]at q;obtain⟨v0,W,Z,H,aZ,b4⟩:=h.good.own g o' q;have y:∀b,v0.ownBlock=some b->b≠bl:=fun b c y8=>e (h.good.oinj k g o.n o'.n _ v0 bl (by simp[U]) (by simp[q]) f Z l (by rw[<-y8];exact c));refine⟨v0,W,by simp[aC.withOwn,Ne.symm e,Z],⟨H.1,?_⟩,aZ,mQ ag (fun _ _ _ h=>h) b4⟩;rcases H.2 with H|⟨L,tg,iO,f1,f2,f3,f4⟩
   ·exact .inl H
   ·exact .inr ⟨L,tg,iO,f1,f2,by rw[s L (y L (by rw[f1];rfl))];exact f3,f4⟩
 ·obtain⟨z,x,t,a2,a3⟩:=E g n u I P b R;obtain⟨N,er,gL,O,K⟩:=E Y n' c3 J Q b cu;exact h.good.oinj g Y x er t gL b z N a2 O a3 K
 ·obtain⟨z,x,t,a2,a3⟩:=E g n u I P b Q;exact h.good.obx g j x t b z J a2 a3 R
 ·by_cases e:j=k
  ·subst e;rcases h.good.one j with I|I
   ·exact .inl I
   ·rw[I]at f;cases f
  ·rcases h.good.one j with I|I
   ·exact .inl I
   ·exact .inr (by simp[aC.withOwn,e,I])
 ·rw[s j fun e=>by subst e;exact(X j l).1.elim hm (fun g2=>Ω)];exact h.fr.block j r hm
 ·obtain⟨F,G⟩:=h.fr.keep b i d;exact⟨F,(ag.A b i F).2.trans G⟩
 ·obtain⟨t1,t2⟩:=h.fr.trn aQ j b c;have y:aQ≠k:=fun e=>by subst e;rw[t2]at f;cases f
  exact⟨t1,by simp[aC.withOwn,y,t2]⟩
 ·obtain⟨F,G,dF⟩:=h.new m hm;refine⟨F,?_,dF⟩;have:m≠k:=fun e=>by subst e;rw[G]at f;cases f
  simp[aC.withOwn,this,G]
 ·intro gy;simp only[aw];obtain⟨cap,zQ⟩:=Hy V A;exact⟨⟨bl,cap,zQ⟩,gy,xs'.length,v',by simp[aC.withOwn],di _,fun _=>rfl⟩
def bO.inPlace{C:dk}{st:aN}{a:Act}{w:World}{ν:aC}(h:bO C st a w ν){k:ar}{o:cw}(U:ab k st.e=some o){bl cap:Nat}{cur:Array Value}(l:ν.ow k=some (o.n,.slice (some ⟨bl,0,none⟩) o.n cap))
  (E:w.heap[bl]? =some (.cells cur o.el (0,0))) (Y:cap<=maxLen) (df:cur.size=cap*o.sz) {xs ys:List aa} {us ns:List Value} (O:xs.length=o.n) (nC:cur.toList.take (o.n*o.sz)=us) (aA:b7 w ν o.sz xs us) (X:b7 w ν o.sz ys ns)
  (eM:0<ys.length) (mA:o.n+ys.length<=cap) (gy:xs.length+ys.length<=cH):
  bO C {st with e:=bW k ⟨o.n+ys.length,o.el,o.sz,none⟩ st.e} a (w.setRow bl (us++ns++cur.toList.drop (o.n*o.sz+ns.length)).toArray)
   (ν.withRowOf k (.slice (some ⟨bl,0,none⟩) (o.n+ys.length) cap) (o.n+ys.length) ((o.n+ys.length)*o.sz))/\
  aw (w.setRow bl (us++ns++cur.toList.drop (o.n*o.sz+ns.length)).toArray) (ν.withRowOf k (.slice (some ⟨bl,0,none⟩) (o.n+ys.length) cap) (o.n+ys.length) ((o.n+ys.length)*o.sz))
   (.slice o.sz (.own k) (xs++ys)) (.slice (some ⟨bl,0,none⟩) (o.n+ys.length) cap):=by
 have P:=lA X;have F:=lA aA;rw[O]at F;have hmul:(o.n+ys.length)*o.sz<=cap*o.sz:=kv _ mA;rw[ku]at hmul;obtain⟨v0,dJ,a8,bK,cz,_⟩:=h.good.own k o U;rw[l]at a8;cases a8;obtain⟨V,cD⟩:=cz bl rfl;generalize v:w.setRow bl (us++ns++cur.toList.drop (o.n*o.sz+ns.length)).toArray=w';have z:∀j,j≠bl->w'.heap[j]? =w.heap[j]?:=fun j f=>by rw[<-v];exact setRow_other w bl j _ f
 have G:w'.heap[bl]? =some (.cells (us++ns++cur.toList.drop (o.n*o.sz+ns.length)).toArray o.el (0,0)):=by rw[<-v];exact setRow_heap w bl cur _ o.el _ E
 have W:w'.heap.size=w.heap.size:=by rw[<-v];exact setRow_size w bl _
 have kc:∀j,j<o.n*o.sz->w'.cell? ⟨bl,j,none⟩=w.cell? ⟨bl,j,none⟩:=by intro j f;simp only[World.cell?,G,E,Option.isSome_none,hX,if_false];rw[List.getElem?_toArray,List.append_assoc,ks Ω,<-nC,List.getElem?_take,if_pos f];simp
 have ag:ij w ν w' (ν.withRowOf k (.slice (some ⟨bl,0,none⟩) (o.n+ys.length) cap) (o.n+ys.length) ((o.n+ys.length)*o.sz)):=by
  refine⟨fun b j c=>⟨.inl c,?_⟩,fun j b _ f=>f,fun g n u _ S=>?_,fun b j c=>?_,fun _ _ _ _ h=>h⟩;rotate_left 2
  ·by_cases e:b=bl
   ·subst e;simp only[shape,G,E,List.size_toArray,kt,List.length_drop,Array.length_toList];congr 2;omega
   ·exact q4 (z b e)
  ·by_cases e:b=bl
   ·subst e;exact kc j (cD j c)
   ·exact World.cell?_of_block (z b e)
  ·by_cases e:g=k
   ·subst e;rw[l]at S;cases S;exact⟨o.n+ys.length,.slice (some ⟨bl,0,none⟩) (o.n+ys.length) cap,by simp[aC.withRowOf],.inr Ω⟩
   ·exact⟨n,u,by simp[aC.withRowOf,e,S],.inl ⟨rfl,rfl⟩⟩
 have H:∀g,(ab g (bW k ⟨o.n+ys.length,o.el,o.sz,none⟩ st.e)).isSome->g=k\/(g≠k/\(ab g st.e).isSome/\(ν.withRowOf k (.slice (some ⟨bl,0,none⟩) (o.n+ys.length) cap) (o.n+ys.length) ((o.n+ys.length)*o.sz)).ow g=ν.ow g):=by
  intro g hc;by_cases e:g=k
  ·exact .inl e
  ·rw[fD,bH (Ne.symm e)]at hc;exact .inr ⟨e,hc,by simp[aC.withRowOf,e]⟩
 have Vh:bl<w.heap.size:=(Array.getElem?_eq_some_iff.1 E).1;have Oh:∀j u,(us++ns)[j]? =some u->w'.cell? ⟨bl,j,none⟩=some u:=by intro j u f;have B:=(eQ.1 f).1;simp only[World.cell?,G,Option.isSome_none,hX,if_false];rw[List.getElem?_toArray,ks B];exact f
 refine⟨h.over ag rfl ⟨fun b j c=>?_,fun j cI f=>?_,h.good.inj,fun g o' t=>?_,fun g K n n' u c3 b I J p q r A=>?_,fun g j n u b I J p q r=>?_,fun j=>?_,fun b d=>h.good.otr b ?_⟩
  ⟨by rw[<-v];exact h.fr.os,by rw[<-v];exact h.fr.tape,by rw[<-v];exact h.fr.output,by rw[W];exact h.fr.size,fun j f hm=>?_,fun b j c=>?_,fun b j c=>?_,h.fr.obj,h.fr.obn,fun m n u hm=>uL (h.fr.row m n u hm) (fun n u=>ag.ow _ n u trivial),h.fr.obr,h.fr.trd,fun k j b d=>⟨(h.fr.trb k j b d).1,by rw[W];exact(h.fr.trb k j b d).2⟩,fun aQ j b d=>?_,fun b o c=>(ag.sh b o (h.fr.keep b o c).1).trans (h.fr.sh b o c)⟩ (fun m hm=>?_),?_⟩
 ·rw[W];rcases c with c|⟨c,_⟩
  ·exact h.good.alt b j c
  ·simp only[jW,dq]at c;omega
 ·obtain⟨b,aY,eb,g1,g2,g3,g4,g5⟩:=h.good.box j cI f;have s:b≠bl:=fun e=>h.good.obx k j o.n _ bl (by simp[U]) (by simp[f]) l rfl (by rw[<-e];exact g1);refine⟨b,aY,eb,g1,g2,fun i c=>?_,by rw[z b s];exact g4,lz ag g5⟩;rcases c with c|⟨c,_⟩
  ·exact g3 i c
  ·simp only[jW,dq]at c;exact s c.symm
 ·simp only at t;rw[fD]at t;by_cases e:k=g
  ·rw[if_pos e]at t;cases t;subst e;refine⟨.slice (some ⟨bl,0,none⟩) (o.n+ys.length) cap,us++ns,by simp[aC.withRowOf],⟨by rw[kt,F,P,ku],.inr ⟨bl,cap,_,rfl,Nat.zero_le _,G,mA,Y,?_,?_⟩⟩,fun b d=>⟨?_,fun j c=>?_⟩,fun ys aP=>by cases aP⟩
   ·simp only[List.size_toArray,kt,List.length_drop,Array.length_toList];omega
   ·have ao:(us++ns).length=(o.n+ys.length)*o.sz:=by rw[kt,F,P,ku]
    simp only[<-ao];rw[List.take_append_of_le_length (di _),List.take_length]
   ·simp only[jW,dq]at d;subst d;exact V
   ·simp only[jW,dq]at d;subst d;rcases c with c|⟨_,c⟩
    ·have:=cD j c;simp only;rw[ku];omega
    ·exact c
  ·rw[bH e]at t;obtain⟨v0,dJ,ai,N,aZ,b4⟩:=h.good.own g o' t;have s:∀b,v0.ownBlock=some b->b≠bl:=fun b d y8=>e (h.good.oinj k g o.n o'.n _ v0 bl (by simp[U]) (by simp[t]) l ai rfl (by rw[<-y8];exact d));have Z:∀b,v0.ownBlock=some b->∀j,(ν.withRowOf k (.slice (some ⟨bl,0,none⟩) (o.n+ys.length) cap) (o.n+ys.length) ((o.n+ys.length)*o.sz)).A b j->ν.A b j:=fun b d j c=>by
    rcases c with c|⟨c,_⟩
    ·exact c
    ·simp only[jW,dq]at c;exact absurd c.symm (s b d)
   refine⟨v0,dJ,by simp[aC.withRowOf,Ne.symm e,ai],⟨N.1,?_⟩,fun b d=>⟨(aZ b d).1,fun j c=>(aZ b d).2 j (Z b d j c)⟩,mQ ag Z b4⟩;rcases N.2 with N|⟨Q,tg,iO,f1,f2,f3,f4⟩
   ·exact .inl N
   ·exact .inr ⟨Q,tg,iO,f1,f2,by rw[z Q (s Q (by rw[f1];rfl))];exact f3,f4⟩
 ·rcases H g I with rfl|⟨R,y,x⟩<;>rcases H K J with rfl|⟨m1,m2,m3⟩
  ·rfl
  ·exfalso;simp only[aC.withRowOf,if_true,dq,ho]at p;rw[m3]at q;rw[<-p.2]at r;simp only[jW,dq]at r;subst r;exact m1 (h.good.oinj K g n' o.n c3 _ bl m2 (by simp[U]) q l A rfl)
  ·exfalso;simp only[aC.withRowOf,if_true,dq,ho]at q;rw[x]at p;rw[<-q.2]at A;simp only[jW,dq]at A;subst A;exact R (h.good.oinj g K n o.n u _ bl y (by simp[U]) p l r rfl)
  ·rw[x]at p;rw[m3]at q;exact h.good.oinj g K n n' u c3 b y m2 p q r A
 ·rcases H g I with rfl|⟨R,y,x⟩
  ·simp only[aC.withRowOf,if_true,dq,ho]at p;rw[<-p.2]at q;simp only[jW,dq]at q;subst q;exact h.good.obx g j o.n _ bl (by simp[U]) J l rfl r
  ·rw[x]at p;exact h.good.obx g j n u b y J p q r
 ·by_cases e:j=k
  ·subst e;rcases h.good.one j with I|I
   ·exact .inl I
   ·rw[I]at l;cases l
  ·rcases h.good.one j with I|I
   ·exact .inl I
   ·exact .inr (by simp[aC.withRowOf,e,I])
 ·rcases d with d|⟨g,n,u,bd,a2,a3⟩
  ·exact .inl d
  ·rcases H g bd with rfl|⟨R,y,x⟩
   ·simp only[aC.withRowOf,if_true,dq,ho]at a2;rw[<-a2.2]at a3;exact .inr ⟨g,_,_,by simp[U],l,a3⟩
   ·exact .inr ⟨g,n,u,y,by rw[<-x];exact a2,a3⟩
 ·rw[z j fun e=>by subst e;exact V.elim hm (fun g2=>Ω)];exact h.fr.block j f hm
 ·obtain⟨L,M⟩:=h.fr.keep b j c;exact⟨.inl L,(ag.A b j L).2.trans M⟩
 ·rcases c with c|⟨c,_⟩
  ·exact h.fr.fresh b j c
  ·simp only[jW,dq]at c;subst c;exact .inr V
 ·obtain⟨t1,t2⟩:=h.fr.trn aQ j b d;have s:aQ≠k:=fun e=>by subst e;rw[t2]at l;cases l
  exact⟨t1,by simp[aC.withRowOf,s,t2]⟩
 ·obtain⟨L,M,dF⟩:=h.new m hm;refine⟨L,?_,dF⟩;have:m≠k:=fun e=>by subst e;rw[M]at l;cases l
  simp[aC.withRowOf,this,M]
 ·simp only[aw];refine⟨⟨some ⟨bl,0,none⟩,cap,by simp[O],by simp;omega,⟨Y,by simpa using gy⟩,.inr ⟨bl,0,us++ns,rfl,w9 _ 0 fun j u f=>?_,uF (sF ag aA) (sF ag X)⟩⟩,fun e=>(by cases e),fun g e=>?_,fun _ _ e=>(by cases e),fun _ e=>(by cases e)⟩
  ·have B:=(eQ.1 f).1;rw[Nat.zero_add];refine⟨.inr ⟨rfl,?_⟩,Oh j u f⟩;rw[kt,F,P]at B;rw[ku];exact B
  ·cases e;exact⟨o.n+ys.length,.slice (some ⟨bl,0,none⟩) (o.n+ys.length) cap,by simp[aC.withRowOf],by simp[O],fun _=>rfl⟩
def xY{P:bp}{w:World}{t ty e:ey}{i:TypeInfo}(a:P.underlying t=some (.slice e))(az:P.info? e=some i)(b:aT Addr)(n cap:Nat)(d:n<=cap)(x:aT Addr)(c:Nat):
  (Builtin.append_ #[t,t] ty #[.slice b n cap,.slice x 0 c]).run P w= .ok (.slice b n cap) w:=by
 cases b<;>cases x<;>simp[Builtin.append_,run_underlying a,sizeOf,typeInfo,az,Builtin.lenOf,d,Builtin.firstCells,loadCells,loadCellsFrom,storeCells]
inductive c9 where
 |v (d:Nat) (i:ee)
 |box (d:Nat) (key:aT Nat) (x:cq)
 |alloc (d:Nat) (key:aT Nat) (zero:aa)
 |store (sz:Nat) (x y:cq)
 |bsl (d:Nat) (sz el:Nat) (xs:List cq)
 |app (d:Nat) (sz el:Nat) (x y:cq)
 |bslm (d:Nat) (key:aT Nat) (sz el:Nat) (xs:List cq)
 |appm (d:Nat) (key:aT Nat) (sz el:Nat) (x y:cq)
 |mkmap (d:Nat) (key:aT Nat)
 |mput (bB:gP) (x k v:cq)
 |range (d:Nat) (key:aT Nat) (x:cq)
 |storeE (sz:Nat) (x y:cq)
 |mks (d:Nat) (key:aT Nat) (sz el:Nat) (z:aa) (x:cq)
def gB(st:aN):aT Nat->ar
 |none=>.loc st.n
 |some m=>.obj m
def ls(st:aN):aT Nat->Prop
 |none=>.loc st.n∉st.o
 |some m=>.obj m∉st.o
def jq(st:aN):aT Nat->Nat
 |none=>st.n+1
 |some _=>st.n
def jr(st:aN):aT Nat->List ar
 |none=>st.o
 |some m=>.obj m::st.o
def pS{st:aN}{key:aT Nat}(h:ls st key):fresh st.n st.o (gB st key):=by cases key<;>simp[gB,fresh,ls]at h⊢ <;>exact h
def pT{st:aN}{key:aT Nat}:∀j,fresh (jq st key) (jr st key) j->fresh st.n st.o j/\j≠gB st key:=by
 intro j a;cases key<;>cases j<;>simp[fresh,jq,jr,gB]at a⊢
 ·exact⟨⟨Ω,a.2⟩,Ω⟩
 ·exact a
 ·exact a
 ·exact⟨a.2,a.1⟩
def nh(sz:Nat):List aa->Prop
 |[]=>True
 |p::a=>(dd p=true/\(cells p).length=sz)/\nh sz a
def pR(a:gP)(k v:aa):List aa->aT (List aa)
 | .hdm clock borns::kvs=>if r8 a k=false then none else match qQ a k v kvs with
  |some (some b)=>some (.hdm clock borns::b)
  |some none=>some (.hdm (clock+1) (borns++[clock])::(kvs++[k,v]))
  |none=>none
 |_=>none
def sD(m:ar):List aa->aT (List aa)
 | .hdm clock _::_=>some [.hdi clock [] clock,.gmap m]
 |_=>none
def ni(st:aN)(sz el:Nat)(x y:aa):aT ((aT (ar×List aa))×List aa):=
 match x,y with
 | .slice b .nil _,.slice a _ ys=>if b=sz/\a=sz then some (none,ys)else none
 | .row b k n,.slice a _ ys=>if b=sz/\a=sz then
   match ab k st.e with
   |some ⟨n',d,c,some xs⟩=>if n'=n/\d=el/\c=sz then some (some (k,xs),ys)else none
   |_=>none
  else none
 |_,_=>none
def kZ:aa->Nat->List aa->aa
 | .agg a,f,cs=>.agg (jR a f cs)
 |_,_,[q]=>q
 |_,_,_=>.junk
def l2(st:aN)(sz:Nat)(p v:aa):aT (Prop×aN):=
 match p with
 | .rptr b k n i f=>match ab k st.e with
  |some ⟨n',el,a,some xs⟩=>if n'=n/\a=b then
    match xs[i]? with
    |some q=>some (dd q=true/\dd v=true/\(cells v).length=sz/\f+sz<=(cells q).length/\0<sz,{st with e:=bW k ⟨n',el,a,some (xs.set i (kZ q f (cells v)))⟩ st.e})
    |none=>none
   else none
  |_=>none
 |_=>none
def iF(st:aN):c9->aT (Prop×aN)
 | .mks d key sz el z x=>match bn st.t x with
  | .int _ n=>some (ls st key/\0<=n/\n<=cH,
    {t:=put d (.row sz (gB st key) n.toNat) st.t,b:=st.b,e:=bW (gB st key) ⟨n.toNat,el,sz,some (List.replicate n.toNat z)⟩ st.e,n:=jq st key,o:=jr st key})
  |_=>none
 | .bslm d key sz el xs=>some (ls st key/\nh sz (xs.map (bn st.t)),
   {t:=put d (.row sz (gB st key) xs.length) st.t,b:=st.b,e:=bW (gB st key) ⟨xs.length,el,sz,some (xs.map (bn st.t))⟩ st.e,n:=jq st key,o:=jr st key})
 | .appm d key sz el x y=>match ni st sz el (bn st.t x) (bn st.t y)with
  |some (none,ys)=>some (ls st key/\ys.length<=cH/\ys≠[],
    {t:=put d (.row sz (gB st key) ys.length) st.t,b:=st.b,e:=bW (gB st key) ⟨ys.length,el,sz,some ys⟩ st.e,n:=jq st key,o:=jr st key})
  |some (some (k,xs),ys)=>some (xs.length+ys.length<=cH,{st with t:=put d (.row sz k (xs.length+ys.length)) st.t,e:=bW k ⟨xs.length+ys.length,el,sz,some (xs++ys)⟩ st.e})
  |none=>none
 | .mkmap d key=>some (ls st key,{t:=put d (.gmap (gB st key)) st.t,b:=bW (gB st key) [.hdm 0 []] st.b,e:=st.e,n:=jq st key,o:=jr st key})
 | .mput g x k v=>match bn st.t x with
  | .gmap m=>match ab m st.b with
   |some cs=>match pR g (bn st.t k) (bn st.t v) cs with
    |some cs'=>some (True,{st with b:=bW m cs' st.b})
    |none=>none
   |none=>none
  |_=>none
 | .range d key x=>match bn st.t x with
  | .gmap m=>match ab m st.b with
   |some cs=>match sD m cs with
    |some cs'=>some (ls st key,{t:=put d (.ptr (gB st key) 0) st.t,b:=bW (gB st key) cs' st.b,e:=st.e,n:=jq st key,o:=jr st key})
    |none=>none
   |none=>none
  |_=>none
 | .v d i=>match e2 st i with
  |some (c,p)=>some (c,{st with t:=put d p st.t})
  |none=>none
 | .storeE sz x y=>l2 st sz (bn st.t x) (bn st.t y)
 | .box d key x=>some (ls st key/\dd (bn st.t x)=true,
   {t:=put d (.ptr (gB st key) 0) st.t,b:=bW (gB st key) (cells (bn st.t x)) st.b,e:=st.e,n:=jq st key,o:=jr st key})
 | .alloc d key z=>some (ls st key,{t:=put d (.ptr (gB st key) 0) st.t,b:=bW (gB st key) (cells z) st.b,e:=st.e,n:=jq st key,o:=jr st key})
 | .store sz x y=>match bn st.t x with
  | .ptr k off=>match ab k st.b with
   |some cs=>some (et cs=true/\dd (bn st.t y)=true/\(cells (bn st.t y)).length=sz/\off+sz<=cs.length,{st with b:=bW k (jR cs off (cells (bn st.t y))) st.b})
   |none=>none
  |p=>l2 st sz p (bn st.t y)
 | .bsl d sz el xs=>some (ls st none/\nh sz (xs.map (bn st.t)),
   {st with t:=put d (.slice sz (.own (.loc st.n)) (xs.map (bn st.t))) st.t,e:=bW (.loc st.n) ⟨xs.length,el,sz,none⟩ st.e,n:=st.n+1})
 | .app d sz el x y=>match bn st.t x,bn st.t y with
  | .slice f tag xs,.slice a _ ys=>if f=sz/\a=sz then
    match tag with
    | .own k=>match ab k st.e with
     |some o=>some (o.n=xs.length/\o.el=el/\o.sz=sz/\xs.length+ys.length<=cH,
       {st with t:=put d (.slice sz (.own k) (xs++ys)) st.t,e:=bW k ⟨xs.length+ys.length,el,sz,none⟩ st.e})
     |none=>none
    | .nil=>some (ls st none/\ys.length<=cH,{st with t:=put d (.slice sz (.own (.loc st.n)) ys) st.t,e:=bW (.loc st.n) ⟨ys.length,el,sz,none⟩ st.e,n:=st.n+1})
    |_=>none
   else none
  |_,_=>none
def dj(κ:ar)(n':Nat)(o':List ar)(st:aN):c9->aT (Prop×aN)
 | .mks d _ sz el z x=>match bn st.t x with
  | .int _ n=>some (0<=n/\n<=cH,
    {t:=put d (.row sz κ n.toNat) st.t,b:=st.b,e:=bW κ ⟨n.toNat,el,sz,some (List.replicate n.toNat z)⟩ st.e,n:=n',o:=o'})
  |_=>none
 | .bslm d _ sz el xs=>some (nh sz (xs.map (bn st.t)),
   {t:=put d (.row sz κ xs.length) st.t,b:=st.b,e:=bW κ ⟨xs.length,el,sz,some (xs.map (bn st.t))⟩ st.e,n:=n',o:=o'})
 | .appm d _ sz el x y=>match ni st sz el (bn st.t x) (bn st.t y)with
  |some (none,ys)=>some (ys.length<=cH/\ys≠[],
    {t:=put d (.row sz κ ys.length) st.t,b:=st.b,e:=bW κ ⟨ys.length,el,sz,some ys⟩ st.e,n:=n',o:=o'})
  |some (some (k,xs),ys)=>some (xs.length+ys.length<=cH,{st with t:=put d (.row sz k (xs.length+ys.length)) st.t,e:=bW k ⟨xs.length+ys.length,el,sz,some (xs++ys)⟩ st.e})
  |none=>none
 | .mkmap d _=>some (True,{t:=put d (.gmap κ) st.t,b:=bW κ [.hdm 0 []] st.b,e:=st.e,n:=n',o:=o'})
 | .mput g x k v=>match bn st.t x with
  | .gmap m=>match ab m st.b with
   |some cs=>match pR g (bn st.t k) (bn st.t v) cs with
    |some cs'=>some (True,{st with b:=bW m cs' st.b})
    |none=>none
   |none=>none
  |_=>none
 | .range d _ x=>match bn st.t x with
  | .gmap m=>match ab m st.b with
   |some cs=>match sD m cs with
    |some cs'=>some (True,{t:=put d (.ptr κ 0) st.t,b:=bW κ cs' st.b,e:=st.e,n:=n',o:=o'})
    |none=>none
   |none=>none
  |_=>none
 | .v d i=>match e2 st i with
  |some (c,p)=>some (c,{st with t:=put d p st.t})
  |none=>none
 | .storeE sz x y=>l2 st sz (bn st.t x) (bn st.t y)
 | .box d _ x=>some (dd (bn st.t x)=true,{t:=put d (.ptr κ 0) st.t,b:=bW κ (cells (bn st.t x)) st.b,e:=st.e,n:=n',o:=o'})
 | .alloc d _ z=>some (True,{t:=put d (.ptr κ 0) st.t,b:=bW κ (cells z) st.b,e:=st.e,n:=n',o:=o'})
 | .store sz x y=>match bn st.t x with
  | .ptr k off=>match ab k st.b with
   |some cs=>some (et cs=true/\dd (bn st.t y)=true/\(cells (bn st.t y)).length=sz/\off+sz<=cs.length,{st with b:=bW k (jR cs off (cells (bn st.t y))) st.b})
   |none=>none
  |p=>l2 st sz p (bn st.t y)
 | .bsl d sz el xs=>some (nh sz (xs.map (bn st.t)),
   {st with t:=put d (.slice sz (.own κ) (xs.map (bn st.t))) st.t,e:=bW κ ⟨xs.length,el,sz,none⟩ st.e,n:=n',o:=o'})
 | .app d sz el x y=>match bn st.t x,bn st.t y with
  | .slice f tag xs,.slice a _ ys=>if f=sz/\a=sz then
    match tag with
    | .own k=>match ab k st.e with
     |some o=>some (o.n=xs.length/\o.el=el/\o.sz=sz/\xs.length+ys.length<=cH,
       {st with t:=put d (.slice sz (.own k) (xs++ys)) st.t,e:=bW k ⟨xs.length+ys.length,el,sz,none⟩ st.e})
     |none=>none
    | .nil=>some (ys.length<=cH,{st with t:=put d (.slice sz (.own κ) ys) st.t,e:=bW κ ⟨ys.length,el,sz,none⟩ st.e,n:=n',o:=o'})
    |_=>none
   else none
  |_,_=>none
def pX:Nat->List cq->List (Nat×Operand)->Bool
 |_,[],[]=>true
 |i,x::xs,(j,o)::os=>i==j&&c4 x o&&pX (i+1) xs os
 |_,_,_=>false
def uP(N:Nat)(aE:List (Nat×cQ))(i:c9)(o:Oper):Bool:=
 match i,o.op with
 | .mkmap d _,.makeMap _ none=>o.dst==some d&&decide (d<N)
 | .mput j x k v,.mapUpdate t c h e=>o.dst==none&&(match cY aE t with|some ⟨_,_,.map g _,_⟩=>qK aE j g|_=>false)&&c4 x c&&c4 k h&&c4 v e
 | .mput j x k v,.insert t c h e=>o.dst==none&&(match cY aE t with|some ⟨_,_,.map g _,_⟩=>qK aE j g|_=>false)&&c4 x c&&c4 k h&&c4 v e
 | .range d _ x,.range t c=>o.dst==some d&&decide (d<N)&&(match cY aE t with|some ⟨_,_,.map _ _,_⟩=>true|_=>false)&&c4 x c
 | .v d i,op=>o.dst==some d&&decide (d<N)&&u0 aE i op
 | .box d _ x,.box _ o'=>o.dst==some d&&decide (d<N)&&c4 x o'
 | .alloc d _ z,.alloc el=>o.dst==some d&&decide (d<N)&&(match cY aE el with|some f=>sV z f.zero|none=>false)
 | .store sz x y,.store t o' a=>o.dst==none&&(match cY aE t with|some f=>f.size==sz|none=>false)&&c4 x o'&&c4 y a
 | .bsl d sz el xs,.buildSlice t len parts=>o.dst==some d&&decide (d<N)&&(match cY aE t with|some ⟨_,_,.slice b,_⟩=>el==b|_=>false)&&(match cY aE el with|some f=>f.size==sz&&decide (0<sz)|none=>false)
   &&len==xs.length&&decide (len*sz<=16777216)&&pX 0 xs parts.toList
 | .app d sz el x y,.call ⟨.builtin .append,⟨[o',a]⟩,⟨[t,t']⟩⟩=>o.dst==some d&&decide (d<N)&&t==t'&&(match cY aE t with|some ⟨_,_,.slice b,_⟩=>el==b|_=>false)
   &&(match cY aE el with|some f=>f.size==sz&&decide (0<sz)&&decide (f.bytes<=2048)|none=>false)&&c4 x o'&&c4 y a
 | .bslm d _ sz el xs,.buildSlice t len parts=>o.dst==some d&&decide (d<N)&&(match cY aE t with|some ⟨_,_,.slice b,_⟩=>el==b|_=>false)&&(match cY aE el with|some f=>f.size==sz&&decide (0<sz)|none=>false)
   &&len==xs.length&&decide (len*sz<=16777216)&&pX 0 xs parts.toList
 | .appm d _ sz el x y,.call ⟨.builtin .append,⟨[o',a]⟩,⟨[t,t']⟩⟩=>o.dst==some d&&decide (d<N)&&t==t'&&(match cY aE t with|some ⟨_,_,.slice b,_⟩=>el==b|_=>false)
   &&(match cY aE el with|some f=>f.size==sz&&decide (0<sz)&&decide (f.bytes<=2048)|none=>false)&&c4 x o'&&c4 y a
 | .storeE sz x y,.store t o' a=>o.dst==none&&(match cY aE t with|some f=>f.size==sz|none=>false)&&c4 x o'&&c4 y a
 | .mks d _ sz el z x,.makeSlice t o' a=>o.dst==some d&&decide (d<N)&&(match cY aE t with|some ⟨_,_,.slice b,_⟩=>el==b|_=>false)
   &&(match cY aE el with|some f=>f.size==sz&&decide (0<sz)&&decide (f.bytes<=2048)&&sV z f.zero|none=>false)&&c4 x o'&&c4 x a
 |_,_=>false
def IL{w:World}{ν:aC}{C:dk}{st:aN}{a:Act}(p:bO C st a w ν){sz:Nat}:
  ∀(xs:List cq) (i:Nat) (os:List (Nat×Operand)) (pre:List aa) (us:Array Value) (aJ:List Value),pX i xs os=true->nh sz (xs.map (bn st.t))->us.toList.take (i*sz)=aJ->b7 w ν sz pre aJ->i=pre.length->us.size=(i+xs.length)*sz->
  ∃f:Array Value,Instr.fill (fun i=>some (i*sz,sz)) us (os.map fun(x:Nat×Operand)=>(x.1,a.eval x.2))=some f/\b7 w ν sz (pre++xs.map (bn st.t)) f.toList/\f.size=us.size
 |[],i,[],pre,us,aJ,_,_,g,h,az,e=>by refine⟨us,by simp[Instr.fill],?_,rfl⟩;have u:=lA h;have:us.toList.take (i*sz)=us.toList:=lG (by simp at e⊢;omega);rw[this]at g;simpa[g]using h
 |[],_,_::_,_,_,_,b,_,_,_,_,_=>by simp[pX]at b
 |_::_,_,[],_,_,_,b,_,_,_,_,_=>by simp[pX]at b
 |x::xs,i,(j,o)::os,pre,us,aJ,b,k,g,h,az,e=>by
  simp only[pX,bN,c2]at b;obtain⟨⟨rfl,I⟩,J⟩:=b;simp only[gG,nh]at k;obtain⟨⟨t,hlen⟩,k⟩:=k;have q:=db p I;have n:=oY q t;have m:=kY n;have c:(a.eval o).cells.size=sz:=by rw[hlen]at m;simpa using m
  have hmul:i*sz+sz<=us.size:=by rw[e,jX,show i+(xs.length+1)=(i+1)+xs.length from by omega,ku,Nat.succ_mul];omega
  have l:=zo (w:=w) (ν:=ν) (a.eval o).cells.toList 0 (i*sz) us (by simp[c];omega);have s:b7 w ν sz (pre++[bn st.t x]) (aJ++(a.eval o).cells.toList):=by refine uF h ?_;simp only[b7];exact⟨a.eval o,[],Ψ,⟨q,c,sH n⟩,rfl⟩
  have r:aJ.length=i*sz:=by rw[<-g];simp;omega
  obtain⟨f,g1,g2,g3⟩:=IL p xs (i+1) os (pre++[bn st.t x]) (((a.eval o).cells.toList.zipIdx 0).foldl (fun cs (x:Value×Nat)=>cs.setIfInBounds (i*sz+x.2) x.1) us) (aJ++(a.eval o).cells.toList) J k
   (by
    rw[l];simp only[Nat.add_zero];rw[g];have:(aJ++(a.eval o).cells.toList).length=(i+1)*sz:=by rw[kt,r,Nat.succ_mul];simp[c]
    rw[<-this,List.take_append_of_le_length (di _),List.take_length]) s (by simp[az])
   (by have d:=eR lE l;simp only[Array.length_toList,kt,List.length_take,List.length_drop,c]at d;rw[d,e,jX,show i+(xs.length+1)=i+1+xs.length from by omega];rw[e,jX,show i+(xs.length+1)=i+1+xs.length from by omega]at hmul;omega)
  refine⟨f,?_,by simpa using g2,?_⟩
  ·simp only[gG,Instr.fill];rw[bH (by simp[c];omega),<-g1];congr 1;rw[<-Array.foldl_toList];simp
  ·rw[g3];have d:=eR lE l;simp only[Array.length_toList,kt,List.length_take,List.length_drop,c]at d;rw[d];omega
def iJ{P:bp}{o:Oper}{a:Act}{w w':World}{v:Value}{K:Act->World->Prop}{Q:Exit->Act->World->Prop}(h:(execOp a.eval o).run P w= .ok (.value v) w')(U:K (a.put o.dst v) w'):o.wp P a w K Q:=by unfold Oper.wp;rw[h];exact U
def yi{P:bp}{o:Oper}{a:Act}{w w':World}{K:Act->World->Prop}{Q:Exit->Act->World->Prop}(h:(execOp a.eval o).run P w= .ok .skip w')(U:K (a.put o.dst undef) w'):o.wp P a w K Q:=by unfold Oper.wp;rw[h];exact U
def u2{P:bp}{w w':World}{x:Sem Value}{v:Value}(h:x.run P w= .ok v w'):(do pure (Next.value (<-x)):Sem Next).run P w= .ok (.value v) w':=by simp[h]
def IH{P:bp}{aE:List (Nat×cQ)}(c:e1 P aE=true){C:dk}{st:aN}{a:Act}{w:World}{ν:aC}(m:bO C st a w ν){t el:Nat}{f g:cQ}(p:cY aE t=some f)(U:f.kind= .slice el)(aM:cY aE el=some g)
  {xs:List cq} {os:List (Nat×Operand)} (k:pX 0 xs os=true) (l:nh g.size (xs.map (bn st.t))) (hlen:xs.length*g.size<=16777216):
  ∃us:Array Value,(Instr.buildSlice t xs.length (os.map fun(x:Nat×Operand)=>(x.1,a.eval x.2)).toArray).run P w= .ok (.slice (some ⟨w.heap.size,0,none⟩) xs.length xs.length) (w.alloc (.cells us el))/\
   b7 w ν g.size (xs.map (bn st.t)) us.toList/\us.size=xs.length*g.size:=by
 obtain⟨d,i,e⟩:=fH c p;rw[U]at e;obtain rfl:=mh e;obtain⟨_,h⟩:=o5 c aM w;obtain⟨z,q,u,s⟩:=Cj c aM w;have o:¬xs.length*g.size>2 ^ 24:=Ω
 let init:Array Value:=if xs.length*g.size=0 then(Array.range (xs.length*g.size)).map ((#[]:Array Value)[· %(#[]:Array Value).size]!)else(Array.range (xs.length*g.size)).map (z.cells[· %z.cells.size]!)
 have j:init.size=xs.length*g.size:=by simp only[init];split<;>simp
 obtain⟨n,g1,g2,g3⟩:=IL (a:=a) m xs 0 os [] init [] k l Ψ (by simp[b7]) rfl (by rw[j];simp);refine⟨n,?_,by simpa using g2,by rw[g3,j]⟩;simp only[init]at g1;by_cases b:xs.length*g.size=0
 ·rw[if_pos b]at g1;rw[b]at g1;have r:¬(0:Nat)>2 ^ 24:=by decide
  simp only[Instr.buildSlice,dQ,run_underlying i,dV,h,if_false,eP,b,if_true,r,g1,newRow,run_newObj];rfl
 ·rw[bH b]at g1;simp only[Instr.buildSlice,dQ,run_underlying i,dV,h,o,if_false,eP,b,q,g1,newRow,run_newObj];rfl
def A8{P:bp}{w:World}{ν:aC}{g:gP}{t:ey}(B:nZ P g t){k v:aa}{a p:Value}(U:aw w ν k a)(A:aw w ν v p):
  ∀(borns:List Nat) (kvs:List aa) (us:List Value) (i:Nat) (r:aT (List aa)),bT w ν kvs us->kvs.length=2*borns.length->qQ g k v kvs=some r->
  match r with
  |none=>fx P w g t a (eg borns us) i none
  |some q=> ∃j u m e,fx P w g t a (eg borns us) i (some (i+j,u))/\bT w ν q m/\q.length=kvs.length/\(eg borns us)[j]? =some e/\e.key=a/\Instr.sameBits 10000 e.key a=true/\eg borns m=(eg borns us).modify j (fun e=>{e with key:=a,val:=p})
 |[],[],us,i,r,h,_,hm=>by simp only[qQ]at hm;cases hm;simp only[bT]at h;subst h;simpa[eg]using fx.nil P w g t a i
 |[],_::_,_,_,_,_,c,_=>by simp at c
 |b::n,[],_,_,_,_,c,_=>by simp at c
 |b::n,[_],_,_,_,_,c,_=>by simp at c;omega
 |b::n,aQ::v'::kvs,us,i,r,h,c,hm=>by
  simp only[bT]at h;obtain⟨d,F,rfl,I,f,s,rfl,J,z⟩:=h;simp only[qQ]at hm;simp only[eg];cases o:qJ g k aQ with
  |none=>simp[o]at hm
  |some E=>
   obtain⟨s1,s2⟩:=GL B U I o;simp only[o]at hm;cases E with
   |true=>simp only[dq]at hm;subst hm;obtain⟨rfl,s3⟩:=s2 rfl;refine⟨0,f,d::p::s,⟨d,f,b⟩,fx.hit (e:=⟨d,f,b⟩) s1,?_,Ψ,Ψ,rfl,s3,by simp[eg]⟩;simp only[bT];exact⟨_,_,rfl,U,_,_,rfl,A,z⟩
   |false=>
    simp only at hm;have y:=fun x l=>A8 B U A n kvs s (i+1) x z (by simp at c;omega) l;split at hm
    ·rename_i x l;cases hm;obtain⟨j,u,m,e,g1,g2,g3,g4,g5,g6,g7⟩:=y _ l;refine⟨j+1,u,d::f::m,e,fx.miss (e:=⟨d,f,b⟩) s1 (by rw[show i+(j+1)=i+1+j from by omega];exact g1),?_,by simp[g3],by simpa using g4,g5,g6,by simp[eg,g7]⟩;simp only[bT];exact⟨_,_,rfl,I,_,_,rfl,J,g2⟩
    ·rename_i l;cases hm;exact fx.miss (e:=⟨d,f,b⟩) s1 (y _ l)
    ·cases hm
def Ex:∀(borns:List Nat) (us:List Value) (b:Nat) (k v:Value),us.length=2*borns.length->eg (borns++[b]) (us++[k,v])=eg borns us++[⟨k,v,b⟩]
 |[],us,b,k,v,h=>by have:us=[]:=List.eq_nil_of_length_eq_zero (by simpa using h);subst this;simp[eg]
 |dR::a,[],b,k,v,h=>by simp at h
 |dR::a,[_],b,k,v,h=>by simp at h;omega
 |dR::a,aQ::v'::us,b,k,v,h=>by simp only[List.cons_append,eg,Ex a us b k v (by simp at h;omega)]
def Iy{w:World}{ν:aC}:∀{b cZ:List aa} {aJ us:List Value},bT w ν b aJ->bT w ν cZ us->bT w ν (b++cZ) (aJ++us)
 |[],cZ,aJ,us,h,a=>by simp only[bT]at h;subst h;simpa using a
 |p::b,cZ,aJ,us,h,a=>by simp only[bT]at h;obtain⟨u,c,rfl,I,J⟩:=h;simp only[List.cons_append,bT];exact⟨u,_,rfl,I,Iy J a⟩
def BT{w:World}{ν:aC}:∀{a:List aa} {aJ:List Value},bT w ν a aJ->aJ.length=a.length
 |[],aJ,h=>by simp only[bT]at h;subst h;rfl
 |p::a,aJ,h=>by simp only[bT]at h;obtain⟨u,b,rfl,_,J⟩:=h;simp[BT J]
def BY{P:bp}{w:World}{r:Nat}{o o':Obj}(a:w.heap[r]? =some o)(b:∀c e f,o≠ .cells c e f:=by simp):(setObj r o').run P w= .ok () {w with heap:=w.heap.setIfInBounds r o'}:=by simp only[setObj,Sem.run,a]
def c9.makes(st:aN):c9->Bool
 | .box _ _ _| .alloc _ _ _| .bsl _ _ _ _| .bslm _ _ _ _ _| .mkmap _ _| .range _ _ _| .mks _ _ _ _ _ _=>true
 | .appm _ _ _ _ x _=>match bn st.t x with
  | .slice _ .nil _=>true
  |_=>false
 | .app _ _ _ x _=>match bn st.t x with
  | .slice _ .nil _=>true
  |_=>false
 |_=>false
def bO.forgetRow{C:dk}{st:aN}{a:Act}{w:World}{ν:aC}(b:bO C st a w ν){k:ar}{ow:cw}(U:ab k st.e=some ow):bO C {st with e:=bW k ⟨ow.n,ow.el,ow.sz,none⟩ st.e} a w ν:=by
 have d:∀g,(ab g (bW k ⟨ow.n,ow.el,ow.sz,none⟩ st.e)).isSome->(ab g st.e).isSome:=fun g aM=>by
  rw[fD]at aM;split at aM
  ·rename_i e;subst e;simp[U]
  ·exact aM
 refine⟨⟨b.good.alt,b.good.box,b.good.inj,fun g o aM=>?_,fun g f n n' v v' bl c a2=>b.good.oinj g f n n' v v' bl (d g c) (d f a2),fun g j n v bl c=>b.good.obx g j n v bl (d g c),b.good.one,fun bl l=>b.good.otr bl (l.imp id (fun⟨g,n,v,c,a2⟩=>⟨g,n,v,d g c,a2⟩))⟩,b.fr,b.defers,b.size,b.slot,b.new⟩;simp only at aM;rw[fD]at aM;split at aM
 ·rename_i e;subst e;cases aM;obtain⟨v,us,p,i,h,_⟩:=b.good.own k ow U;exact⟨v,us,p,i,h,fun xs m=>by cases m⟩
 ·exact b.good.own g o aM
def Hz{w:World}{base el sz n:Nat}{v:Value}{us:List Value}(h:w.ownsRow base el sz v n us)(d:0<n):∃b cap,v= .slice (some ⟨b,0,none⟩) n cap:=by
 rcases h.2 with⟨c,e⟩|⟨a,cap,cur,f1,_⟩
 ·omega
 ·exact⟨_,_,f1⟩
def xQ{w:World}{ν:aC}{sz:Nat}:∀{xs:List aa} {us:List Value} {i:Nat} {q b:aa} {a:Value},b7 w ν sz xs us->xs[i]? =some q->aw w ν b a->a.cells.size=sz->(∀c∈a.cells.toList,c.oneCell'=true)->b7 w ν sz (xs.set i b) (us.take (i*sz)++a.cells.toList++us.drop (i*sz+sz))
 |[],_,_,_,_,_,_,d,_,_,_=>by simp at d
 |x::xs,us,0,q,b,a,h,d,g,j,ag=>by
  simp only[b7]at h;obtain⟨u,m,rfl,⟨I,J,l⟩,k⟩:=h;have f:u.cells.toList.length=sz:=by simpa using J
  simp only[List.set_cons_zero,b7];refine⟨a,m,?_,⟨g,j,ag⟩,k⟩;simp[<-f]
 |x::xs,us,i+1,q,b,a,h,d,g,j,ag=>by
  simp only[b7]at h;obtain⟨u,m,rfl,⟨I,J,l⟩,k⟩:=h;have f:u.cells.toList.length=sz:=by simpa using J
  have n:=xQ k (by simpa using d) g j ag;simp only[List.set_cons_succ,b7];refine⟨u,_,?_,⟨I,J,l⟩,n⟩;have e:(i+1)*sz+sz=u.cells.toList.length+(i*sz+sz):=by rw[f,Nat.succ_mul];omega
  rw[Jf _ _ _ _ f,e,<-List.drop_drop];simp
def Sq{w:World}{ν:aC}{q:aa}{v:Value}(b:aw w ν q v)(l:dd q=true){cs:List aa}{us:List Value}(aA:bL w ν cs us){f:Nat}(g:f+us.length<=v.cells.size)(p:us≠[]):
  ∃v',aw w ν (kZ q f cs) v'/\v'.cells.toList=v.cells.toList.take f++us++v.cells.toList.drop (f+us.length)/\v'.cells.size=v.cells.size/\∀c∈v'.cells.toList,c.oneCell'=true:=by
 have hlen:=kY aA;have x:=oY b l;by_cases k:∃d,q= .agg d
 ·obtain⟨d,rfl⟩:=k;simp only[aw]at b;obtain⟨aJ,rfl,i⟩:=b;simp only[jV]at g⊢;have j:bL w ν (jR d f cs) (aJ.toList.take f++us++aJ.toList.drop (f+us.length)):=by unfold jR;rw[hlen];exact qX (qX (uH f i) aA) (sG _ i)
  refine⟨.agg (aJ.toList.take f++us++aJ.toList.drop (f+us.length)).toArray,by simp only[kZ,aw];exact⟨_,rfl,by simpa using j⟩,by simp[jV],?_,fun c a=>?_⟩
  ·simp[jV];omega
  ·exact sH j c (by simpa[jV]using a)
 ·have h:∀cs,q≠ .agg cs:=fun cs e=>k ⟨cs,e⟩;obtain⟨I,J⟩:=BU b l h;rw[J]at g⊢;match us,p,aA with
  |u::s,_,aA=>
   simp at g;obtain⟨rfl,rfl⟩:f=0/\s=[]:=⟨Ω,List.length_eq_zero_iff.1 Ω⟩;match cs,aA,hlen with
   |[c],aA,_=>
    simp only[bL]at aA;obtain⟨t,y,r,⟨n,m⟩,_⟩:=aA;cases r;have hu:u.cells= #[u]:=by cases u<;>first|rfl|cases m
    have o:kZ q 0 [c]=c:=by cases q<;>first|rfl|exact absurd rfl (h _)
    rw[o];refine⟨u,n,by simp[hu],by simp[hu],fun c a=>?_⟩;rw[hu]at a;simp at a;subst a;exact m
def SH{α:Type}(A us:List α)(a f sz N:Nat)(I:f+us.length<=sz)(J:a+sz<=N)(j:N<=A.length):
  ((A.take (a+f)++us++A.drop (a+f+us.length)).toArray.toList).take N=(A.take N).take a++((((A.take N).drop a).take sz).take f++us++(((A.take N).drop a).take sz).drop (f+us.length))++(A.take N).drop (a+sz):=by
 have e:(A.take N).take a++(((A.take N).drop a).take sz).take f=A.take (a+f):=by rw[List.take_take (i:=f),Nat.min_eq_left (show f<=sz by omega),<-List.take_add,List.take_take,Nat.min_eq_left Ω]
 have h:(((A.take N).drop a).take sz).drop (f+us.length)++(A.take N).drop (a+sz)=(A.take N).drop (a+f+us.length):=by
  have b:f+us.length<=(((A.take N).drop a).take sz).length:=by simp;omega
  have c:(A.take N).drop (a+sz)=((A.take N).drop a).drop sz:=by rw[List.drop_drop]
  rw[c,<-List.drop_append_of_le_length b,List.take_append_drop,List.drop_drop];congr 1;omega
 have g:(A.take N).drop (a+f+us.length)=(A.drop (a+f+us.length)).take (N-(a+f+us.length)):=by rw[List.drop_take]
 have b:(A.take (a+f)++us).length=a+f+us.length:=by simp;omega
 simp only[List.append_assoc]at*;rw[h,g,<-List.append_assoc (List.take a _),e];have d:N=(A.take (a+f)++us).length+(N-(a+f+us.length)):=by rw[b];omega
 rw[<-List.append_assoc,<-List.append_assoc];conv=>lhs;rw[d,List.take_length_add_append]
def bO.storeRow{P:bp}{C:dk}{st:aN}{a:Act}{w:World}{ν:aC}(h:bO C st a w ν){k:ar}{n el sz:Nat}{xs:List aa}(U:ab k st.e=some ⟨n,el,sz,some xs⟩){i f:Nat}{u:Value}(G:aw w ν (.rptr sz k n i f) u){q:aa}(B:xs[i]? =some q)(F:dd q=true)
  {cs:List aa} {us:List Value} (aA:bL w ν cs us) (Y:f+us.length<=(cells q).length) (R:us≠[]):
  ∃bl off b,u= .pointer (some ⟨bl,off,none⟩)/\(storeCells ⟨bl,off,none⟩ us).run P w= .ok () (w.setRow bl b)/\∃aI,bO C {st with e:=bW k ⟨n,el,sz,some (xs.set i (kZ q f cs))⟩ st.e} a (w.setRow bl b) aI:=by
 simp only[aw]at G;obtain⟨_,az,n',c3,I,J,X⟩:=G;obtain⟨v,d,s,E,cz,S⟩:=h.good.own k _ U;rw[I]at s;simp only[dq,ho]at s;obtain⟨rfl,rfl⟩:=s;obtain⟨bl,l,rfl⟩:=X rfl;obtain⟨c,o,nO⟩:=S xs rfl;simp only at c o;obtain⟨v,A,p,N⟩:=xO i o B;have K:=kY (oY A F);have Pj:(cells q).length=sz:=by rw[<-K];simpa using p
 have H:f+us.length<=sz:=by rw[<-Pj];exact Y
 have hmul:i*sz+sz<=n'*sz:=by have:=kv sz (show i+1<=n' from az);rwa[Nat.succ_mul]at this
 rcases E.2 with⟨W,aD⟩|⟨g,cap,cur,rfl,qx,m,t,Oj,r,x⟩
 ·rw[W]at l;simp[jW]at l
 simp only[jW,dq]at l;subst l;simp only at x r t m;have L:n'*sz<=cur.size:=by rw[r];exact kv sz t
 have dX:=run_storeCells_at P g (i*sz+f) el us 0 cur w m Ω (sH aA);simp only[Nat.add_zero]at dX;refine⟨g,i*sz+f,_,rfl,dX,?_⟩;generalize y:(cur.toList.take (i*sz+f)++us++cur.toList.drop (i*sz+f+us.length)).toArray=b;obtain⟨v',Q,O,M,RY⟩:=Sq A F aA (f:=f) (by rw[p];exact H) R;have z:=xQ o B Q (by rw[M,p]) RY;have hlen:d.length=n'*sz:=E.1;have O3:b.toList.take (n'*sz)=d.take (i*sz)++v'.cells.toList++d.drop (i*sz+sz):=by rw[<-y,O,N,<-x];exact SH cur.toList us (i*sz) f sz (n'*sz) H hmul (by simpa using L)
 have Om:b.size=cap*sz:=by rw[<-y,<-r];simp;omega
 have Vo:(xs.set i (kZ q f cs)).length=n':=by simp[c]
 obtain⟨Z,_,_⟩:=h.setRowM (w':=w.setRow g b) U rfl I (bl:=g) rfl (v':= .slice (some ⟨g,0,none⟩) n' cap) rfl (xs':=xs.set i (kZ q f cs)) (us:=d.take (i*sz)++v'.cells.toList++d.drop (i*sz+sz)) (.inl ⟨by simp[c],rfl⟩) rfl rfl rfl (fun j V=>setRow_other w g j b V) (setRow_size w g b)
  ⟨by rw[lA z],.inr ⟨g,cap,b,by simp[c],Nat.zero_le _,setRow_heap w g cur b el _ m,by simpa[c]using t,Oj,Om,by simpa[c]using O3⟩⟩ z
 exact⟨_,by simpa[c]using Z⟩
def Qs(z:Array Value)(n:Nat)(h:0<z.size):(madeCells z ((n+1)*z.size)).toList=z.toList++(madeCells z (n*z.size)).toList:=by
 apply List.ext_getElem?;intro j;rw[List.getElem?_append];have he:(n+1)*z.size=n*z.size+z.size:=by rw[ku,Nat.one_mul]
 simp only[madeCells,nV,Array.length_toList,Array.getElem?_map];by_cases a:j<z.size
 ·rw[if_pos a,Array.getElem?_range,if_pos Ω];simp[Nat.mod_eq_of_lt a,a]
 ·rw[bH a,Array.getElem?_range,Array.getElem?_range];by_cases U:j<n*z.size+z.size
  ·rw[if_pos Ω,if_pos Ω];simp only[Option.map_some];rw[<-Nat.mod_eq_sub_mod Ω]
  ·rw[bH Ω,bH Ω]
def G9{w:World}{ν:aC}{p:aa}{z:Value}(a:aw w ν p z)(h:0<z.cells.size)(ag:∀c∈z.cells.toList,c.oneCell'=true):∀n,b7 w ν z.cells.size (List.replicate n p) (madeCells z.cells (n*z.cells.size)).toList
 |0=>by simp[b7,madeCells]
 |n+1=>by rw[Qs _ _ h];simp only[List.replicate_succ,b7];exact⟨z,_,rfl,⟨a,rfl,ag⟩,G9 a h ag n⟩
def gE{P:bp}{aE:List (Nat×cQ)}(av:e1 P aE=true){C:dk}{st st':aN}{a:Act}{w:World}{ν:aC}(l:bO C st a w ν){i:c9}{o:Oper}(ag:uP C.N aE i o=true)
  {κ:ar} {n':Nat} {o₁:List ar} (oB:i.makes st=true->fresh st.n st.o κ) (dI:i.makes st=true->∀j,fresh n' o₁ j->fresh st.n st.o j/\j≠κ) {c:Prop} (he:dj κ n' o₁ st i=some (c,st')) (aA:c) {K:Act->World->Prop} {Q:Exit->Act->World->Prop} (M:∀bG w' aI,bO C st' bG w' aI->K bG w'):o.wp P a w K Q:=by
 obtain⟨dst,op,type,pos,after,guard⟩:=o;unfold uP at ag;dsimp only at ag;split at ag
 ·rename_i d key t;simp only[bN,c2,e3]at ag;obtain⟨rfl,J⟩:=ag;simp only[dj]at he;cases he;obtain⟨g1,g2⟩:=l.newBox (l.new _ (oB rfl)) (dI rfl) (cs:=[.hdm 0 []]) (us:= #[]) 0 (by simp only[gV];exact⟨by simp[bT],⟨rfl,Ψ,Ψ⟩⟩);refine iJ (v:= .map (some w.heap.size)) (w':=w.alloc (.map #[] 0)) ?_ (M _ _ _ (g1.put (d:=some d) (by simpa[gl]using J) (p:= .gmap κ) ?_))
  ·simp only[execOp,Instr.makeMap,Option.map_none,dQ,run_newObj,dV,eP];rfl
  ·simp[aw,aC.withBox]
 iterate 2
  focus
   rename_i bB x k v t gK ib nK
   simp only[bN,c2]at ag
   obtain⟨⟨⟨⟨rfl,I⟩,J⟩,A⟩,E⟩:=ag
   have rx:=db l J
   have xV:=db l A
   have l1:=db l E
   split at I
   ·rename_i sz S jN lO z R
    obtain⟨cG,hu,dG⟩:=fH av R
    have pv:cG= .map jN lO:=by cases cG<;>simp[iv]at dG;obtain⟨rfl,rfl⟩:=dG;rfl
    subst pv
    have lk:=GM av I
    simp only[dj]at he
    split at he
    ·rename_i m O
     rw[O]at rx
     simp only[aw]at rx
     obtain⟨bl,bQ,b0⟩:=rx
     split at he
     ·rename_i cs ck
      split at he
      ·rename_i cs' hm
       cases he
       obtain⟨e4,us,el,a8,bK,cz,c5,G⟩:=l.good.box m cs ck
       rw[bQ]at a8;cases a8
       unfold pR at hm
       split at hm
       ·rename_i clock borns kvs
        split at hm
        ·cases hm
        rename_i nu
        simp only[hC]at c5
        simp only[gV]at G
        have hM:=p1 (P:=P) c5
        have tH:=IJ (P:=P) (w:=w) lk false xV (by simpa using nu)
        have bA:bl<w.heap.size:=(Array.getElem?_eq_some_iff.1 c5).1
        have iS:∀(o':Obj) (aY:Array Value) (cI:List aa),(Instr.mapUpdate t (a.eval gK) (a.eval ib) (a.eval nK)).run P w= .ok () {w with heap:=w.heap.setIfInBounds bl o'}->hC cI aY el=o'->gV w ν cI aY.toList->some cI=some cs'->
          (⟨none,.mapUpdate t gK ib nK,type,pos,after,guard⟩:Oper).wp P a w K Q:=by
         intro o' aY cI fW Af iU fS;cases fS;refine yi (w':={w with heap:=w.heap.setIfInBounds bl o'}) ?_ (M _ _ _ (l.setBox (w':={w with heap:=w.heap.setIfInBounds bl o'}) ck bQ (us:=aY) (el:=el) rfl rfl rfl (fun j L=>?_) Ψ ?_ iU).1)
         ·simp only[execOp,fW,dQ,dV,eP]
         ·exact Array.getElem?_setIfInBounds_ne (Ne.symm L)
         ·rw[Af];simp[bA]
        split at hm
        ·rename_i sa Ac
         obtain⟨j,u,aY,e,f1,f2,f3,f4,f5,f6,f7⟩:=A8 lk xV l1 borns kvs us.toList 0 _ G.1 G.2.len Ac
         refine iS (.map (eg borns aY).toArray clock) aY.toArray (.hdm clock borns::sa) ?_ (by simp[hC]) (by simp only[gV];exact⟨by simpa using f2,⟨by rw[f3];exact G.2.len,G.2.inc,G.2.lt⟩⟩) hm
         have Pt:(Instr.keyThatStays (((eg borns us.toList).toArray[j]?.map (·.key)).getD (a.eval ib)) (a.eval ib)).run P w= .ok (a.eval ib) w:=by
          have:((eg borns us.toList).toArray[j]?.map (·.key)).getD (a.eval ib)=e.key:=by simp[f4]
          rw[this];simp[Instr.keyThatStays,f6]
         simp only[Nat.zero_add]at f1
         simp only[Instr.mapUpdate,dQ,run_underlying hu,dV,b0,hM,tH,f1.run lk,eP,Pt,BY c5]
         rw[f7]
         simp
        ·rename_i Ac
         have f1:=A8 lk xV l1 borns kvs us.toList 0 _ G.1 G.2.len Ac
         simp only at f1
         have mC:us.toList.length=2*borns.length:=by rw[BT G.1,G.2.len]
         refine iS (.map ((eg borns us.toList).toArray.push ⟨a.eval ib,a.eval nK,clock⟩) (clock+1)) (us.toList++[a.eval ib,a.eval nK]).toArray (.hdm (clock+1) (borns++[clock])::(kvs++[bn st.t k,bn st.t v])) ?_ (by simp only[hC,Ex borns us.toList clock _ _ mC];simp) ?_ hm
         ·simp only[Instr.mapUpdate,dQ,run_underlying hu,dV,b0,hM,tH,f1.run lk,eP,BY c5]
         ·simp only[gV]
          refine⟨Iy G.1 (by simp only[bT];exact⟨_,_,rfl,xV,_,_,rfl,l1,rfl⟩),⟨by simp[G.2.len];omega,?_,?_⟩⟩
          ·rw[List.pairwise_append]
           exact⟨G.2.inc,Ψ,fun x O y aP=>by simp at aP;subst aP;exact G.2.lt x O⟩
          ·intro b af
           rcases lF.1 af with af|af
           ·have:=G.2.lt b af;omega
           ·simp at af;omega
        ·cases hm
       ·cases hm
      ·cases he
     ·cases he
    ·cases he
   ·cases I
 ·rename_i d key x t gK;simp only[bN,c2,e3]at ag;obtain⟨⟨⟨rfl,J⟩,I⟩,A⟩:=ag;have rx:=db l A;split at I
  ·rename_i sz S jN lO z R;obtain⟨cG,hu,dG⟩:=fH av R;have pv:cG= .map jN lO:=by cases cG<;>simp[iv]at dG;obtain⟨rfl,rfl⟩:=dG;rfl
   subst pv;simp only[dj]at he;split at he
   ·rename_i m O;rw[O]at rx;have St:=rx;simp only[aw]at rx;obtain⟨bl,bQ,b0⟩:=rx;split at he
    ·rename_i cs ck;split at he
     ·rename_i cs' hm;cases he;obtain⟨e4,us,el,a8,bK,cz,c5,G⟩:=l.good.box m cs ck;rw[bQ]at a8;cases a8;unfold sD at hm;split at hm
      ·rename_i clock borns kvs;cases hm;simp only[hC]at c5;have hM:=p1 (P:=P) c5;obtain⟨g1,g2⟩:=l.newBox (l.new _ (oB rfl)) (dI rfl) (cs:=[.hdi clock [] clock,.gmap m]) (us:= #[a.eval gK]) 0 (by simp only[gV,bT];exact⟨_,_,rfl,St,rfl⟩);have Af:hC [.hdi clock [] clock,.gmap m] #[a.eval gK] 0= .mapIter (some bl) clock #[] clock:=by simp[hC,b0]
       rw[Af]at g1 g2;refine iJ (v:= .pointer (some ⟨w.heap.size,0,none⟩)) (w':=w.alloc (.mapIter (some bl) clock #[] clock)) ?_ (M _ _ _ (g1.put (d:=some d) (by simpa[gl]using J) (p:= .ptr κ 0) g2))
       ·simp only[execOp];refine u2 ?_;simp only[Instr.range,dQ,run_underlying hu,dV,b0,hM,eP,run_newObj];rfl
      ·cases hm
     ·cases he
    ·cases he
   ·cases he
  ·cases I
 ·rename_i d XQ;simp only[bN,c2,e3]at ag;obtain⟨⟨I,J⟩,A⟩:=ag;subst I;simp only[dj]at he;split at he
  ·rename_i fC p F;cases he;obtain⟨v,g1,g2⟩:=Tc (o:=⟨some d,op,type,pos,after,guard⟩) av l A F aA;refine iJ g1 (M _ _ ν ?_);exact l.put (d:=some d) (by simpa[gl]using J) g2
  ·cases he
 ·rename_i d key x el o';simp only[bN,c2,e3]at ag;obtain⟨⟨I,J⟩,A⟩:=ag;subst I;simp only[dj]at he;cases he;have O:=db l A;have h4:=oY O aA;obtain⟨g1,g2⟩:=l.newBox (l.new _ (oB rfl)) (dI rfl) el (by rw[jQ (oX h4)];exact h4);rw[jP (oX h4)]at g1 g2;refine iJ (v:= .pointer (some ⟨w.heap.size,0,none⟩)) (w':=w.alloc (.cells (a.eval o').cells el)) ?_ (M _ _ _ (g1.put (d:=some d) (by simpa[gl]using J) (p:= .ptr κ 0) ?_))
  ·simp only[execOp,Instr.box,newVar,newRow,dQ,run_newObj,dV,eP];rfl
  ·simpa only[aw]using g2
 ·rename_i d key z el;simp only[bN,c2,e3]at ag;obtain⟨⟨I,J⟩,A⟩:=ag;subst I;simp only[dj]at he;cases he;split at A
  ·rename_i f R;have c7:=CC A;obtain⟨cd,nU,z2,z3⟩:=Cj av R w;rw[<-c7]at z2;obtain⟨_,h4⟩:=CB w ν z2;obtain⟨g1,g2⟩:=l.newBox (l.new _ (oB rfl)) (dI rfl) el (by rw[jQ (oX h4)];exact h4);rw[jP (oX h4)]at g1 g2;refine iJ (v:= .pointer (some ⟨w.heap.size,0,none⟩)) (w':=w.alloc (.cells cd.cells el)) ?_ (M _ _ _ (g1.put (d:=some d) (by simpa[gl]using J) (p:= .ptr κ 0) ?_))
   ·simp only[execOp,Instr.alloc,newVar,newRow,dQ,nU,run_newObj,dV,eP];rfl
   ·simpa only[aw]using g2
  ·cases A
 ·rename_i sz x y t o' X;simp only[bN,c2]at ag;obtain⟨⟨⟨I,J⟩,A⟩,E⟩:=ag;subst I;split at J
  ·rename_i f R;simp only[c2]at J;simp only[dj]at he;split at he
   ·rename_i k off O;split at he
    ·rename_i cs ck;cases he;obtain⟨j5,Z,cM,dK⟩:=aA;have rx:=db l A;rw[O]at rx;simp only[aw]at rx;obtain⟨bl,bQ,b0⟩:=rx;have N:=db l E;have oW:=oY N Z;have oZ:=kY oW;obtain⟨e4,us,el,a8,bK,cz,c5,G⟩:=l.good.box k cs ck;rw[bQ]at a8;cases a8;rw[jP j5]at c5;rw[jQ j5]at G;have bh:=kY G;obtain⟨_,df⟩:=o5 av R w;have oJ:(a.eval X).cells.size=sz:=by rw[cM]at oZ;simpa using oZ
     have dX:=run_storeCells_at (P:=P) bl off el (a.eval X).cells.toList 0 us w c5 (by simp at bh⊢;omega) (sH oW);simp only[Nat.add_zero]at dX;refine yi (w':=w.setRow bl (us.toList.take off++(a.eval X).cells.toList++us.toList.drop (off+(a.eval X).cells.toList.length)).toArray) ?_ (M _ _ _ (l.storeBox ck bQ j5 ?_))
     ·simp only[execOp,Instr.storeAt,b0,Instr.sureAddr,storeVar,dQ,eP,dV,df,oJ,J,ne_eq,not_true_eq_false,if_false,dX]
     ·simp only[jR];rw[oZ];exact qX (qX (uH off G) oW) (sG _ G)
    ·cases he
   ·rename_i O;generalize Aj:bn st.t x=px at he;unfold l2 at he;split at he
    ·rename_i cE k n i qo;split at he
     ·rename_i n' el gh xs U;split at he
      ·rename_i tQ;obtain⟨rfl,rfl⟩:=tQ;split at he
       ·rename_i q bb;cases he;obtain⟨j5,Z,cM,dK,hJ⟩:=aA;have rx:=db l A;rw[Aj]at rx;have N:=db l E;have oW:=oY N Z;have oZ:=kY oW;obtain⟨_,df⟩:=o5 av R w;have oJ:(a.eval X).cells.size=sz:=by rw[cM]at oZ;simpa using oZ
        obtain⟨bl,off,iO,tS,dX,aI,lp⟩:=l.storeRow (P:=P) U rx bb j5 oW (by simpa[oJ]using dK) (fun e=>by have:=eR lE e;simp[oJ]at this;omega);refine yi (w':=w.setRow bl iO) ?_ (M _ _ _ lp);simp only[execOp,Instr.storeAt,tS,Instr.sureAddr,storeVar,dQ,eP,dV,df,oJ,J,ne_eq,not_true_eq_false,if_false,dX]
       ·cases he
      ·cases he
     ·cases he
    ·cases he
  ·cases J
 ·rename_i d sz el xs t len parts;simp only[bN,c2,e3]at ag;obtain⟨⟨⟨⟨⟨⟨I,J⟩,A⟩,E⟩,a6⟩,cu⟩,dn⟩:=ag;subst I;subst a6;split at A
  ·rename_i eb R;simp only[c2]at A;subst A;split at E
   ·rename_i g aM;simp only[bN,c2,e3]at E;obtain⟨rfl,eM⟩:=E;simp only[dj]at he;cases he;obtain⟨us,g1,g2,g3⟩:=IH av l R rfl aM dn aA cu;have h7:(w.alloc (.cells us el)).ownsRow w.heap.size el g.size (.slice (some ⟨w.heap.size,0,none⟩) xs.length xs.length) (xs.map (bn st.t)).length us.toList:=by
     refine⟨by simp[g3],.inr ⟨w.heap.size,xs.length,us,Ψ,di _,heap_alloc_new w _,Ψ,?_,g3,?_⟩⟩
     ·simp only[maxLen];have:xs.length<=xs.length*g.size:=Nat.le_mul_of_pos_right _ eM;omega
     ·rw[lG];simp[g3]
    obtain⟨Y,ei⟩:=l.newRow (k:=κ) (xs:=xs.map (bn st.t)) (.inl (l.new _ (oB rfl))) (World.grownBy_alloc w _ none) h7 g2
     (by have:xs.length<=xs.length*g.size:=Nat.le_mul_of_pos_right _ eM;simp only[cH,k8];omega) (dI rfl)
    simp only[k8]at Y ei;refine iJ (v:= .slice (some ⟨w.heap.size,0,none⟩) xs.length xs.length) (w':=w.alloc (.cells us el)) ?_ (M _ _ _ (Y.put (d:=some d) (by simpa[gl]using J) (p:= .slice g.size (.own κ) (xs.map (bn st.t))) ei));have aX:(parts.map fun(x:Nat×Operand)=>(x.1,a.eval x.2))=(parts.toList.map fun(x:Nat×Operand)=>(x.1,a.eval x.2)).toArray:=by apply Array.ext';simp
    simp only[execOp];refine u2 ?_;rw[<-g1];congr 2
   ·cases E
  ·cases A
 ·rename_i d sz el x y o' X t t';simp only[bN,c2,e3]at ag;obtain⟨⟨⟨⟨⟨⟨I,J⟩,A⟩,E⟩,a6⟩,cu⟩,dn⟩:=ag;subst I;subst A;split at E
  ·rename_i eb R;simp only[c2]at E;subst E;split at a6
   ·rename_i g aM;simp only[bN,c2,e3]at a6;obtain⟨⟨rfl,eM⟩,hby⟩:=a6;have rx:=db l cu;have N:=db l dn;have iR:∀v' w',(Builtin.append_ #[t,t] type #[a.eval o',a.eval X]).run P w= .ok v' w'->(execOp a.eval ⟨some d,.call ⟨.builtin .append,⟨[o',X]⟩,⟨[t,t]⟩⟩,type,pos,after,guard⟩).run P w= .ok (.value v') w':=by intro v' w' fW;simp only[execOp,resolve,invoke,builtin,dQ,eP,dV,List.map_toArray,gG,List.map_nil];rw[fW];rfl
    obtain⟨r,hv,z,ai,aD,B,b4,eT,eE,oa,mi⟩:=(o6 av aM).ex;obtain⟨cI,fS,dG⟩:=fH av R;obtain rfl:=mh dG;simp only[dj]at he;split at he
    ·rename_i cE tag xs gh hE ys O aP;split at he
     ·rename_i ec;obtain⟨rfl,ec⟩:=ec;subst ec;rw[O]at rx;rw[aP]at N;simp only[aw]at rx N;obtain⟨⟨ax,jF,mV,cx1,⟨Ee,Ef⟩,cx4⟩,rxn,rxo,rxt⟩:=rx;obtain⟨⟨ay,W,vy,cy1,⟨Eg,Eh⟩,cy4⟩,_⟩:=N;split at he
      ·rename_i k;split at he
       ·rename_i ow U;cases he;obtain⟨Z,cM,dK,hJ⟩:=aA;subst cM;obtain⟨n0,p8,Y,ei,hT⟩:=rxo k rfl;obtain⟨v0,H,a8,bK,cz,_⟩:=l.good.own k ow U;rw[Y]at a8;simp only[dq,ho]at a8;obtain⟨rfl,rfl⟩:=a8;have kR:a.eval o'=p8:=hT Z.symm;by_cases iB:ys=[]
        ·subst iB;rw[vy,mV]at iR;have fW:=xY (P:=P) (w:=w) (ty:=type) fS ai ax xs.length jF cx1 ay W;refine iJ (iR _ _ (by simpa using fW)) (M _ _ ν ?_);have dX:{st with t:=put d (.slice ow.sz (.own k) (xs++[])) st.t,e:=bW k ⟨xs.length+([]:List aa).length,ow.el,ow.sz,none⟩ st.e}=({st with e:=bW k ⟨ow.n,ow.el,ow.sz,none⟩ st.e,t:=put d (.slice ow.sz (.own k) xs) st.t}:aN):=by simp[Z]
         rw[<-dK,dX];have jn:=l.forgetRow U;refine jn.put (d:=some d) (by simpa[gl]using J) (p:= .slice ow.sz (.own k) xs) ?_;simp only[aw];rw[<-dK]at cx4;exact⟨⟨ax,jF,rfl,cx1,⟨Ee,Ef⟩,cx4⟩,fun e=>(by cases e),(fun g e=>by cases e;exact⟨_,_,Y,ei,fun e=>by rw[<-mV];exact hT e⟩),fun _ _ e=>(by cases e),fun _ e=>(by cases e)⟩
        ·have hyp:0<ys.length:=by cases ys<;>simp at iB⊢
         rcases cy4 with cy4|⟨S,js,s,rfl,qO,V⟩
         ·exact absurd cy4 iB
         ·have h5:=lA V;have mz:∀j u,s[j]? =some u->w.cell? ((⟨S,js,none⟩:Addr).add j)=some u:=fun j u L=>by rw[j3];exact(nF qO L).2
          have mr:(xs.length+ys.length)*r.bytes<=140737488355328:=by
           have np:r.bytes<=2048:=by rw[b4];exact hby
           have tF:(xs.length+ys.length)*r.bytes<=(xs.length+ys.length)*2048:=Nat.mul_le_mul_left _ np;simp only[cH]at hJ;omega
          have jk:xs.length+ys.length<=maxLen:=by simp only[cH]at hJ;simp only[maxLen];omega
          rw[vy]at iR;have pH:H.length=ow.n*ow.sz:=bK.1;have pK:z.cells.size=r.size:=by rw[mi,B]
          have tN:(∀cur,c1->cur=(0:Nat))->(∃v' w',(Builtin.append_ #[t,t] type #[a.eval o',.slice (some ⟨S,js,none⟩) ys.length W]).run P w= .ok v' w'/\w'.ownsRow w.heap.size ow.el r.size v' (xs.length+ys.length) (H++s)/\w.grownBy w' none/\b7 w ν r.size xs H)->
            (⟨some d,.call ⟨.builtin .append,⟨[o',X]⟩,⟨[t,t]⟩⟩,type,pos,after,guard⟩:Oper).wp P a w K Q:=by
           intro _ bM;obtain⟨v',w',f1,f2,f3,f4⟩:=bM;have wo:b7 w ν r.size (xs++ys) (H++s):=uF f4 (by rw[B];exact V);obtain⟨dv,eU⟩:=l.newRow (k:=k) (xs:=xs++ys) (.inr ⟨ow,U,by rw[Z];simp;omega⟩) f3 (by simpa using f2) wo (by simpa using hJ) (n':=st.n) (o':=st.o)
            (fun j L=>⟨L,fun e=>by subst e;have:=(l.new _ L).2.1;rw[Y]at this;cases this⟩)
           refine iJ (iR _ _ f1) (M _ _ ((ν.withOwn k (xs++ys).length v').withRowOf k v' (xs++ys).length ((xs++ys).length*r.size)) ?_);have:=dv.put (d:=some d) (by simpa[gl]using J) eU;simpa[B,dH]using this
          rcases bK.2 with⟨jt,qT⟩|⟨bl,cap,cur,jt,qT,sx,By,Bz,BA,xE⟩
          ·
           have lX:xs=[]:=List.eq_nil_of_length_eq_zero Ω;have ua:H=[]:=List.eq_nil_of_length_eq_zero (by rw[pH,qT];simp);subst lX;subst ua;refine tN (fun _ h=>h.elim) ?_;obtain⟨v',w',f1,f2,f3,_⟩:=run_append_own (P:=P) w w.heap.size t type ow.el r z r.size r.bytes fS ai eE rfl rfl pK (by rw[B];exact eM) (.slice none 0 0) 0 [] (World.ownsRow_nil w _ _ _)
            ⟨S,js,none⟩ ys.length W s (by rw[h5,B]) mz (qW V) (by simpa using jk) (by simpa using mr) (di _)
           refine⟨v',w',by rw[kR,jt];exact f1,by simpa using f2,by simpa[jW]using f3,by simp[b7]⟩
          ·have OQ:gS w ν.A bl 0 H/\b7 w ν r.size xs H/\True:=by
            rw[kR,jt]at mV;rcases cx4 with cx4|⟨fj,WM,Cr,f1,f2,f3⟩
            ·subst cx4;have:H=[]:=List.eq_nil_of_length_eq_zero (by rw[pH,Z];simp);subst this;exact⟨trivial,by simp[b7],trivial⟩
            ·subst f1;injection mV with vx1 vx2 vx3;injection vx1 with vx1;injection vx1 with vx1 vx4;subst vx1;subst vx4;have heq:Cr=H:=by
              apply List.ext_getElem?;intro j;have mC:Cr.length=H.length:=by rw[lA f3,pH,Z,dK]
              by_cases L:j<Cr.length
              ·have I:=(nF f2 (cl L)).2;rw[Nat.zero_add]at I;have J:=bK.cells (g:=bl) (by rw[jt];rfl) j H[j] (cl Ω);rw[j3,Nat.zero_add,I]at J;rw[cl L,cl Ω];exact J
              ·rw[List.getElem?_eq_none Ω,List.getElem?_eq_none Ω]
             subst heq;exact⟨f2,by rw[B];exact f3,trivial⟩
           obtain⟨z1,kf,_⟩:=OQ;by_cases mA:xs.length+ys.length<=cap
           ·have Vk:cur.size=cap*ow.sz:=BA;have hmul:(xs.length+ys.length)*ow.sz<=cap*ow.sz:=kv _ mA;rw[ku]at hmul;have f1:=run_append_room (P:=P) w t type ow.el r fS ai bl xs.length cap cur sx ⟨S,js,none⟩ ys.length W s (by rw[h5,B]) mz (qW V) mA (by rw[h5,B,<-dK];omega);obtain⟨dv,eU⟩:=l.inPlace U (bl:=bl) (cap:=cap) (cur:=cur) (by rw[Y,<-jt]) sx Bz BA (xs:=xs) (ys:=ys) (us:=H) (ns:=s) Z.symm xE (by rw[dK,<-B];exact kf) (by rw[dK];exact V) hyp (by rw[Z];exact mA) hJ;refine iJ (v:= .slice (some ⟨bl,0,none⟩) (ow.n+ys.length) cap) (w':=w.setRow bl (H++s++cur.toList.drop (ow.n*ow.sz+s.length)).toArray) (iR _ _ ?_)
             (M _ _ (ν.withRowOf k (.slice (some ⟨bl,0,none⟩) (ow.n+ys.length) cap) (ow.n+ys.length) ((ow.n+ys.length)*ow.sz)) ?_)
            ·rw[kR,jt,Z,f1,<-xE,Z,dK,B]
            ·have:=dv.put (d:=some d) (by simpa[gl]using J) eU;simpa[Z,dK,dH]using this
           ·refine tN (fun _ h=>h.elim) ?_;obtain⟨v',w',f1,f2,f3⟩:=run_append_arg_grows (P:=P) w t type ow.el r z r.size r.bytes fS ai eE rfl rfl pK (by rw[B];exact eM) ⟨bl,0,none⟩ xs.length cap H (by rw[pH,Z,dK,B])
             (fun j u L=>by rw[j3];exact(nF z1 L).2) ⟨S,js,none⟩ ys.length W s (by rw[h5,B]) mz Ω jk mr
            exact⟨v',w',by rw[kR,jt,Z];exact f1,f2,f3,kf⟩
       ·cases he
      ·cases he;have wG:=rxn rfl;have lX:xs=[]:=by rw[wG]at mV;injection mV with _ aD;exact List.eq_nil_of_length_eq_zero aD.symm
       subst lX;have qD:(c9.app d g.size el x y).makes st=true:=by simp only[c9.makes,O]
       have pK:z.cells.size=r.size:=by rw[mi,B]
       rw[vy,wG]at iR;have iS:∀(v':Value) (w':World) (s:List Value),(Builtin.append_ #[t,t] type #[.slice none 0 0,.slice ay ys.length W]).run P w= .ok v' w'->w'.ownsRow w.heap.size el g.size v' ys.length s->w.grownBy w' none->b7 w ν g.size ys s->
         (⟨some d,.call ⟨.builtin .append,⟨[o',X]⟩,⟨[t,t]⟩⟩,type,pos,after,guard⟩:Oper).wp P a w K Q:=by
        intro v' w' s f1 f2 f3 f4;obtain⟨dv,eU⟩:=l.newRow (k:=κ) (xs:=ys) (.inl (l.new _ (oB qD))) f3 f2 f4 aA (dI qD);exact iJ (iR _ _ f1) (M _ _ _ (dv.put (d:=some d) (by simpa[gl]using J) eU))
       by_cases iB:ys=[]
       ·subst iB;exact iS _ w [] (xY fS ai none 0 0 (di _) ay W) (World.ownsRow_nil w _ _ _) (TU w _) (by simp[b7])
       ·rcases cy4 with cy4|⟨S,js,s,rfl,qO,V⟩
        ·exact absurd cy4 iB
        ·have h5:=lA V;have mz:∀j u,s[j]? =some u->w.cell? ((⟨S,js,none⟩:Addr).add j)=some u:=fun j u L=>by rw[j3];exact(nF qO L).2
         have mr:ys.length*r.bytes<=140737488355328:=by
          have I:r.bytes<=2048:=by rw[b4];exact hby
          have J:ys.length*r.bytes<=ys.length*2048:=Nat.mul_le_mul_left _ I;simp only[cH]at aA;omega
         have jk:ys.length<=maxLen:=by simp only[cH]at aA;simp only[maxLen];omega
         obtain⟨v',w',f1,f2,f3,_⟩:=run_append_own (P:=P) w w.heap.size t type el r z r.size r.bytes fS ai eE rfl rfl pK (by rw[B];exact eM) (.slice none 0 0) 0 [] (World.ownsRow_nil w _ _ _)
          ⟨S,js,none⟩ ys.length W s (by rw[h5,B]) mz (qW V) (by simpa using jk) (by simpa using mr) (di _)
         exact iS v' w' s f1 (by rw[<-B];simpa using f2) (by simpa[jW]using f3) V
      ·cases he
     ·cases he
    ·cases he
   ·cases a6
  ·cases E
 ·rename_i d key sz el xs t len parts;simp only[bN,c2,e3]at ag;obtain⟨⟨⟨⟨⟨⟨I,J⟩,A⟩,E⟩,a6⟩,cu⟩,dn⟩:=ag;subst I;subst a6;split at A
  ·rename_i eb R;simp only[c2]at A;subst A;split at E
   ·rename_i g aM;simp only[bN,c2,e3]at E;obtain⟨rfl,eM⟩:=E;simp only[dj]at he;cases he;obtain⟨us,g1,g2,g3⟩:=IH av l R rfl aM dn aA cu;have h7:(w.alloc (.cells us el)).ownsRow w.heap.size el g.size (.slice (some ⟨w.heap.size,0,none⟩) xs.length xs.length) (xs.map (bn st.t)).length us.toList:=by
     refine⟨by simp[g3],.inr ⟨w.heap.size,xs.length,us,Ψ,di _,heap_alloc_new w _,Ψ,?_,g3,?_⟩⟩
     ·simp only[maxLen];have:xs.length<=xs.length*g.size:=Nat.le_mul_of_pos_right _ eM;omega
     ·rw[lG];simp[g3]
    obtain⟨Y,ei⟩:=l.newRowM (k:=κ) (xs:=xs.map (bn st.t)) (.inl (l.new _ (oB rfl))) (World.grownBy_alloc w _ none) h7 g2
     (by have:xs.length<=xs.length*g.size:=Nat.le_mul_of_pos_right _ eM;simp only[cH,k8];omega) (dI rfl)
    simp only[k8]at Y ei;refine iJ (v:= .slice (some ⟨w.heap.size,0,none⟩) xs.length xs.length) (w':=w.alloc (.cells us el)) ?_ (M _ _ _ (Y.put (d:=some d) (by simpa[gl]using J) (p:= .row g.size κ xs.length) (ei ⟨_,_,rfl⟩)));have aX:(parts.map fun(x:Nat×Operand)=>(x.1,a.eval x.2))=(parts.toList.map fun(x:Nat×Operand)=>(x.1,a.eval x.2)).toArray:=by apply Array.ext';simp
    simp only[execOp];refine u2 ?_;rw[<-g1];congr 2
   ·cases E
  ·cases A
 ·rename_i d key sz el x y o' X t t';simp only[bN,c2,e3]at ag;obtain⟨⟨⟨⟨⟨⟨I,J⟩,A⟩,E⟩,a6⟩,cu⟩,dn⟩:=ag;subst I;subst A;split at E
  ·rename_i eb R;simp only[c2]at E;subst E;split at a6
   ·rename_i g aM;simp only[bN,c2,e3]at a6;obtain⟨⟨rfl,eM⟩,hby⟩:=a6;have rx:=db l cu;have N:=db l dn;have iR:∀v' w',(Builtin.append_ #[t,t] type #[a.eval o',a.eval X]).run P w= .ok v' w'->(execOp a.eval ⟨some d,.call ⟨.builtin .append,⟨[o',X]⟩,⟨[t,t]⟩⟩,type,pos,after,guard⟩).run P w= .ok (.value v') w':=by intro v' w' fW;simp only[execOp,resolve,invoke,builtin,dQ,eP,dV,List.map_toArray,gG,List.map_nil];rw[fW];rfl
    obtain⟨r,hv,z,ai,aD,B,b4,eT,eE,oa,mi⟩:=(o6 av aM).ex;obtain⟨cI,fS,dG⟩:=fH av R;obtain rfl:=mh dG;have pK:z.cells.size=r.size:=by rw[mi,B]
    simp only[dj]at he;split at he
    ·
     rename_i ys F;cases he;unfold ni at F;split at F
     ·rename_i cE xs gh hE TL O aP;split at F
      ·rename_i ec;obtain⟨rfl,ec⟩:=ec;subst ec;cases F;rw[O]at rx;rw[aP]at N;simp only[aw]at rx N;obtain⟨⟨ax,jF,mV,cx1,⟨Ee,Ef⟩,cx4⟩,rxn,rxo,rxt⟩:=rx;obtain⟨⟨ay,W,vy,cy1,⟨Eg,Eh⟩,cy4⟩,_⟩:=N;have wG:=rxn trivial;have qD:(c9.appm d key g.size el x y).makes st=true:=by simp only[c9.makes,O]
       rw[vy,wG]at iR;have iS:∀(v':Value) (w':World) (s:List Value),(Builtin.append_ #[t,t] type #[.slice none 0 0,.slice ay ys.length W]).run P w= .ok v' w'->w'.ownsRow w.heap.size el g.size v' ys.length s->w.grownBy w' none->b7 w ν g.size ys s->
         (⟨some d,.call ⟨.builtin .append,⟨[o',X]⟩,⟨[t,t]⟩⟩,type,pos,after,guard⟩:Oper).wp P a w K Q:=by
        intro v' w' s f1 f2 f3 f4;obtain⟨dv,eU⟩:=l.newRowM (k:=κ) (xs:=ys) (.inl (l.new _ (oB qD))) f3 f2 f4 aA.1 (dI qD);exact iJ (iR _ _ f1) (M _ _ _ (dv.put (d:=some d) (by simpa[gl]using J) (eU (Hz f2 (by cases ys<;>simp at aA⊢)))))
       by_cases iB:ys=[]
       ·subst iB;exact iS _ w [] (xY fS ai none 0 0 (di _) ay W) (World.ownsRow_nil w _ _ _) (TU w _) (by simp[b7])
       ·rcases cy4 with cy4|⟨S,js,s,rfl,qO,V⟩
        ·exact absurd cy4 iB
        ·have h5:=lA V;have mz:∀j u,s[j]? =some u->w.cell? ((⟨S,js,none⟩:Addr).add j)=some u:=fun j u L=>by rw[j3];exact(nF qO L).2
         have mr:ys.length*r.bytes<=140737488355328:=by
          have I:r.bytes<=2048:=by rw[b4];exact hby
          have J:ys.length*r.bytes<=ys.length*2048:=Nat.mul_le_mul_left _ I;simp only[cH]at aA;omega
         have jk:ys.length<=maxLen:=by simp only[cH]at aA;simp only[maxLen];omega
         obtain⟨v',w',f1,f2,f3,_⟩:=run_append_own (P:=P) w w.heap.size t type el r z r.size r.bytes fS ai eE rfl rfl pK (by rw[B];exact eM) (.slice none 0 0) 0 [] (World.ownsRow_nil w _ _ _)
          ⟨S,js,none⟩ ys.length W s (by rw[h5,B]) mz (qW V) (by simpa using jk) (by simpa using mr) (di _)
         exact iS v' w' s f1 (by rw[<-B];simpa using f2) (by simpa[jW]using f3) V
      ·cases F
     ·split at F
      ·split at F
       ·split at F<;>cases F
       ·cases F
      ·cases F
     ·cases F
    ·
     rename_i k xs ys F;cases he;unfold ni at F;split at F
     ·split at F<;>cases F
     ·rename_i cE aQ n gh hE TL O aP;split at F
      ·rename_i ec;obtain⟨rfl,ec⟩:=ec;subst ec;split at F
       ·rename_i n' eb p5 xs' U;split at F
        ·rename_i mu;obtain⟨rfl,rfl,rfl⟩:=mu;cases F;rw[O]at rx;rw[aP]at N;simp only[aw]at rx N;obtain⟨⟨bx,jF,mV⟩,rxl,n0,p8,Y,ei,hT⟩:=rx;obtain⟨⟨ay,W,vy,cy1,⟨Eg,Eh⟩,cy4⟩,_⟩:=N;obtain⟨v0,H,a8,bK,cz,c5⟩:=l.good.own k _ U;rw[Y]at a8;simp only[dq,ho]at a8 bK;obtain⟨rfl,rfl⟩:=a8;have kR:a.eval o'=p8:=hT rfl;obtain⟨G,ic,nO⟩:=c5 xs rfl;simp only at G ic;have pH:H.length=xs.length*g.size:=by rw[G];exact bK.1
         have lY:xs.length=n0:=G;by_cases iB:ys=[]
         ·subst iB;rw[vy,mV]at iR;have h4:n0<=jF:=by
           rcases bK.2 with⟨jt,qT⟩|⟨bl,cap,cur,jt,qT,sx,By,_⟩
           ·rw[qT];exact Nat.zero_le _
           ·rw[<-kR,mV]at jt;injection jt with _ _ e;rw[e];exact By
          have fW:=xY (P:=P) (w:=w) (ty:=type) fS ai (some ⟨bx,0,none⟩) n0 jF h4 ay W;refine iJ (iR _ _ (by simpa using fW)) (M _ _ ν ?_);have eZ:∀cW,ab cW (bW k ⟨n0,eb,g.size,some xs⟩ st.e)=ab cW st.e:=fun cW=>by
           rw[fD];split
           ·rename_i e;subst e;rw[U]
           ·rfl
          have jn:bO C {st with e:=bW k ⟨n0,eb,g.size,some xs⟩ st.e} a w ν:=
           ⟨⟨l.good.alt,l.good.box,l.good.inj,fun g o aM=>l.good.own g o (by rw[<-eZ g];exact aM),fun g cW n n' v v' bl bd a2=>l.good.oinj g cW n n' v v' bl (by rw[<-eZ g];exact bd) (by rw[<-eZ cW];exact a2),
           fun g j n v bl bd=>l.good.obx g j n v bl (by rw[<-eZ g];exact bd),l.good.one,fun bl af=>l.good.otr bl (af.imp id (fun⟨g,n,v,bd,a2⟩=>⟨g,n,v,by rw[<-eZ g];exact bd,a2⟩))⟩,l.fr,l.defers,l.size,l.slot,l.new⟩
          have A:=jn.put (d:=some d) (by simpa[gl]using J) (p:= .row g.size k n0) (v:= .slice (some ⟨bx,0,none⟩) n0 jF) (by simp only[aw];exact⟨⟨_,_,rfl⟩,rxl,_,_,Y,di _,fun _=>by rw[<-mV];exact kR⟩)
          simpa[lY,dH]using A
         ·have hyp:0<ys.length:=by cases ys<;>simp at iB⊢
          rcases cy4 with cy4|⟨S,js,s,rfl,qO,V⟩
          ·exact absurd cy4 iB
          ·have h5:=lA V;have mz:∀j u,s[j]? =some u->w.cell? ((⟨S,js,none⟩:Addr).add j)=some u:=fun j u L=>by rw[j3];exact(nF qO L).2
           have mr:(xs.length+ys.length)*r.bytes<=140737488355328:=by
            have np:r.bytes<=2048:=by rw[b4];exact hby
            have tF:(xs.length+ys.length)*r.bytes<=(xs.length+ys.length)*2048:=Nat.mul_le_mul_left _ np;simp only[cH]at aA;omega
           have jk:xs.length+ys.length<=maxLen:=by simp only[cH]at aA;simp only[maxLen];omega
           have wo:b7 w ν g.size (xs++ys) (H++s):=uF ic V;rw[vy,kR]at iR;have tN:(∃v' w',(Builtin.append_ #[t,t] type #[p8,.slice (some ⟨S,js,none⟩) ys.length W]).run P w= .ok v' w'/\w'.ownsRow w.heap.size eb r.size v' (xs.length+ys.length) (H++s)/\w.grownBy w' none)->
             (⟨some d,.call ⟨.builtin .append,⟨[o',X]⟩,⟨[t,t]⟩⟩,type,pos,after,guard⟩:Oper).wp P a w K Q:=by
            intro bM;obtain⟨v',w',f1,f2,f3⟩:=bM;obtain⟨dv,eU⟩:=l.newRowM (k:=k) (xs:=xs++ys) (el:=eb) (sz:=g.size) (.inr ⟨_,U,by simp;omega⟩) f3 (by rw[<-B];simpa using f2) wo (by simpa using aA) (n':=st.n) (o':=st.o)
             (fun j L=>⟨L,fun e=>by subst e;have:=(l.new _ L).2.1;rw[Y]at this;cases this⟩)
            refine iJ (iR _ _ f1) (M _ _ (ν.withOwn k (xs++ys).length v') ?_);have:=dv.put (d:=some d) (by simpa[gl]using J) (eU (by simpa using Hz f2 Ω));simpa[dH]using this
           rcases bK.2 with⟨jt,qT⟩|⟨bl,cap,cur,jt,qT,sx,By,Bz,BA,xE⟩
           ·
            have lX:xs=[]:=List.eq_nil_of_length_eq_zero Ω;have ua:H=[]:=List.eq_nil_of_length_eq_zero (by rw[pH,lX];simp);subst lX;subst ua;refine tN ?_;obtain⟨v',w',f1,f2,f3,_⟩:=run_append_own (P:=P) w w.heap.size t type eb r z r.size r.bytes fS ai eE rfl rfl pK (by rw[B];exact eM) (.slice none 0 0) 0 [] (World.ownsRow_nil w _ _ _)
             ⟨S,js,none⟩ ys.length W s (by rw[h5,B]) mz (qW V) (by simpa using jk) (by simpa using mr) (di _)
            exact⟨v',w',by rw[jt];exact f1,by simpa using f2,by simpa[jW]using f3⟩
           ·have h9:p8.ownBlock=some bl:=by rw[jt];rfl
            by_cases mA:xs.length+ys.length<=cap
            ·have hmul:(xs.length+ys.length)*g.size<=cap*g.size:=kv _ mA;rw[ku]at hmul;have f1:=run_append_room (P:=P) w t type eb r fS ai bl xs.length cap cur sx ⟨S,js,none⟩ ys.length W s (by rw[h5,B]) mz (qW V) mA (by rw[h5,B];omega);generalize ub:(cur.toList.take (xs.length*r.size)++s++cur.toList.drop (xs.length*r.size+s.length)).toArray=nJ at f1;have hN:(w.setRow bl nJ).heap[bl]? =some (.cells nJ eb (0,0)):=setRow_heap w bl cur nJ eb _ sx;have ao:(H++s).length=(xs++ys).length*g.size:=by rw[kt,pH,h5,kt,ku]
             have a6:cur.toList.take (xs.length*r.size)=H:=by rw[lY,B];exact xE
             have lq:nJ.size=cap*g.size:=by rw[<-ub];simp only[List.size_toArray,kt,List.length_take,List.length_drop,Array.length_toList];rw[B];omega
             have lV:nJ.toList.take ((xs++ys).length*g.size)=H++s:=by rw[<-ub,a6];simp only[<-ao];rw[List.take_append_of_le_length (di _),List.take_length]
             obtain⟨dv,_,eU⟩:=l.setRowM (w':=w.setRow bl nJ) U rfl Y h9 (v':= .slice (some ⟨bl,0,none⟩) (xs.length+ys.length) cap) rfl (xs':=xs++ys) (us:=H++s) (.inr (by simp;omega)) rfl rfl rfl (fun j L=>setRow_other w bl j nJ L) (setRow_size w bl nJ)
              ⟨ao,.inr ⟨bl,cap,nJ,Ψ,Nat.zero_le _,hN,by simpa using mA,Bz,lq,lV⟩⟩ wo
             replace eU:=eU (by simpa using aA);refine iJ (v:= .slice (some ⟨bl,0,none⟩) (xs.length+ys.length) cap) (w':=w.setRow bl nJ) (iR _ _ ?_) (M _ _ (ν.withOwn k (xs++ys).length (.slice (some ⟨bl,0,none⟩) (xs.length+ys.length) cap)) ?_)
             ·rw[jt,<-lY];exact f1
             ·have:=dv.put (d:=some d) (by simpa[gl]using J) eU;simpa[dH]using this
            ·refine tN ?_;obtain⟨v',w',f1,f2,f3⟩:=run_append_arg_grows (P:=P) w t type eb r z r.size r.bytes fS ai eE rfl rfl pK (by rw[B];exact eM) ⟨bl,0,none⟩ xs.length cap H (by rw[pH,B])
              (fun j u L=>by have:=bK.cells h9 j u L;exact this) ⟨S,js,none⟩ ys.length W s (by rw[h5,B]) mz Ω jk mr
             exact⟨v',w',by rw[jt,<-lY];exact f1,f2,f3⟩
        ·cases F
       ·cases F
      ·cases F
     ·cases F
    ·cases he
   ·cases a6
  ·cases E
 ·rename_i sz x y t o' X;simp only[bN,c2]at ag;obtain⟨⟨⟨I,J⟩,A⟩,E⟩:=ag;subst I;split at J
  ·rename_i f R;simp only[c2]at J;simp only[dj]at he;generalize Aj:bn st.t x=px at he;unfold l2 at he;split at he
   ·rename_i cE k n i qo;split at he
    ·rename_i n' el gh xs U;split at he
     ·rename_i tQ;obtain⟨rfl,rfl⟩:=tQ;split at he
      ·rename_i q bb;cases he;obtain⟨j5,Z,cM,dK,hJ⟩:=aA;have rx:=db l A;rw[Aj]at rx;have N:=db l E;have oW:=oY N Z;have oZ:=kY oW;obtain⟨_,df⟩:=o5 av R w;have oJ:(a.eval X).cells.size=sz:=by rw[cM]at oZ;simpa using oZ
       obtain⟨bl,off,iO,tS,dX,aI,lp⟩:=l.storeRow (P:=P) U rx bb j5 oW (by simpa[oJ]using dK) (fun e=>by have:=eR lE e;simp[oJ]at this;omega);refine yi (w':=w.setRow bl iO) ?_ (M _ _ _ lp);simp only[execOp,Instr.storeAt,tS,Instr.sureAddr,storeVar,dQ,eP,dV,df,oJ,J,ne_eq,not_true_eq_false,if_false,dX]
      ·cases he
     ·cases he
    ·cases he
   ·cases he
  ·cases J
 ·rename_i d key sz el z x t o' X;simp only[bN,c2,e3]at ag;obtain⟨⟨⟨⟨⟨I,J⟩,A⟩,E⟩,a6⟩,cu⟩:=ag;subst I;split at A
  ·rename_i eb R;simp only[c2]at A;subst A;split at E
   ·rename_i g aM;simp only[bN,c2,e3]at E;obtain⟨⟨⟨rfl,eM⟩,hby⟩,c7⟩:=E;obtain rfl:=CC c7;have rx:=db l a6;have N:=db l cu;simp only[dj]at he;split at he
    ·rename_i ff n O;cases he;obtain⟨FQ,h5⟩:=aA;obtain⟨m,rfl⟩:=Int.eq_ofNat_of_zero_le FQ;rw[O]at rx N;simp only[aw]at rx N;obtain⟨r,hv,cd,ai,aD,B,b4,eT,eE,oa,mi⟩:=(o6 av aM).ex;obtain⟨cI,fS,dG⟩:=fH av R;obtain rfl:=mh dG;have jk:m<=cH:=by simp only[cH]at h5⊢;omega
     have mr:r.bytes*m<=281474976710656:=by have I:r.bytes*m<=2048*m:=kv _ Ω;simp only[cH]at jk;omega
     obtain⟨Pp,On⟩:=CB w ν oa;obtain⟨w',g1,g2,g3⟩:=run_make_full (P:=P) w w.heap.size t el r cd r.size fS ai eE rfl ff ff m mr (by simp only[maxLen];simp only[cH]at jk;omega) (di _);have h7:w'.ownsRow w.heap.size el g.size (.slice (some ⟨w.heap.size,0,none⟩) m m) (List.replicate m g.zero).length (madeCells cd.cells (m*cd.cells.size)).toList:=by rw[B,<-mi]at g2;rw[List.length_replicate,<-mi];exact g2
     obtain⟨Y,ei⟩:=l.newRowM (k:=κ) (xs:=List.replicate m g.zero) (.inl (l.new _ (oB rfl))) g3 h7 (by rw[<-mi];exact G9 Pp Ω (sH On) m) (by simpa using jk) (dI rfl);simp only[List.length_replicate]at Y ei;simp only[Int.toNat_natCast]at M;refine iJ (v:= .slice (some ⟨w.heap.size,0,none⟩) m m) (w':=w') ?_ (M _ _ _ (Y.put (d:=some d) (by simpa[gl]using J) (p:= .row g.size κ m) (ei ⟨_,_,rfl⟩)));simp only[execOp];refine u2 ?_;rw[rx,N];exact g1
    ·cases he
   ·cases E
  ·cases A
 ·cases ag
def Su{P:bp}{aE:List (Nat×cQ)}(e:e1 P aE=true){C:dk}{st st':aN}{a:Act}{w:World}{ν:aC}(f:bO C st a w ν){i:c9}{o:Oper}(ag:uP C.N aE i o=true)
  {c:Prop} (he:iF st i=some (c,st')) (aA:c) {K:Act->World->Prop} {Q:Exit->Act->World->Prop} (b:∀bG w' aI,bO C st' bG w' aI->K bG w'):o.wp P a w K Q:=by
 have q:ls st none->fresh st.n st.o (.loc st.n):=fun h=>pS (key:=none) h;have p:∀j,fresh (st.n+1) st.o j->fresh st.n st.o j/\j≠ .loc st.n:=pT (key:=none);cases i with
 |v d i=>exact gE (κ:= .loc 0) (n':=0) (o₁:=[]) e f ag (fun h=>by simp[c9.makes]at h) (fun h=>by simp[c9.makes]at h) (by simpa only[iF,dj]using he) aA b
 |box d key x=>simp only[iF]at he;cases he;exact gE (κ:=gB st key) (n':=jq st key) (o₁:=jr st key) e f ag (fun _=>pS aA.1) (fun _=>pT) (by simp only[dj]) aA.2 b
 |alloc d key z=>simp only[iF]at he;cases he;exact gE (κ:=gB st key) (n':=jq st key) (o₁:=jr st key) e f ag (fun _=>pS aA) (fun _=>pT) (by simp only[dj]) trivial b
 |mks d key sz el z x=>
  simp only[iF]at he;split at he
  ·rename_i ff n g;cases he;exact gE (κ:=gB st key) (n':=jq st key) (o₁:=jr st key) e f ag (fun _=>pS aA.1) (fun _=>pT) (by simp only[dj,g]) aA.2 b
  ·cases he
 |storeE sz x y=>exact gE (κ:= .loc 0) (n':=0) (o₁:=[]) e f ag (fun h=>by simp[c9.makes]at h) (fun h=>by simp[c9.makes]at h) (by simpa only[iF,dj]using he) aA b
 |store sz x y=>exact gE (κ:= .loc 0) (n':=0) (o₁:=[]) e f ag (fun h=>by simp[c9.makes]at h) (fun h=>by simp[c9.makes]at h) (by simpa only[iF,dj]using he) aA b
 |bsl d sz el xs=>simp only[iF]at he;cases he;exact gE (κ:= .loc st.n) (n':=st.n+1) (o₁:=st.o) e f ag (fun _=>q aA.1) (fun _=>p) (by simp only[dj]) aA.2 b
 |bslm d key sz el xs=>simp only[iF]at he;cases he;exact gE (κ:=gB st key) (n':=jq st key) (o₁:=jr st key) e f ag (fun _=>pS aA.1) (fun _=>pT) (by simp only[dj]) aA.2 b
 |appm d key sz el x y=>
  simp only[iF]at he;split at he
  ·rename_i ys l;cases he;exact gE (κ:=gB st key) (n':=jq st key) (o₁:=jr st key) e f ag (fun _=>pS aA.1) (fun _=>pT) (by simp only[dj,l]) aA.2 b
  ·rename_i k xs ys l;cases he;refine gE (κ:= .loc 0) (n':=0) (o₁:=[]) e f ag (fun h=>?_) (fun h=>?_) (by simp only[dj,l]) aA b;all_goals
    exfalso
    simp only[c9.makes]at h
    split at h
    ·rename_i g
     unfold ni at l
     rw[g]at l
     split at l
     ·split at l<;>cases l
     ·rename_i I _;cases I
     ·cases l
    ·cases h
  ·cases he
 |mkmap d key=>simp only[iF]at he;cases he;exact gE (κ:=gB st key) (n':=jq st key) (o₁:=jr st key) e f ag (fun _=>pS aA) (fun _=>pT) (by simp only[dj]) trivial b
 |mput E x k v=>exact gE (κ:= .loc 0) (n':=0) (o₁:=[]) e f ag (fun h=>by simp[c9.makes]at h) (fun h=>by simp[c9.makes]at h) (by simpa only[iF,dj]using he) aA b
 |range d key x=>
  simp only[iF]at he;split at he
  ·rename_i m g;split at he
   ·rename_i cs t;split at he
    ·rename_i cs' hm;cases he;exact gE (κ:=gB st key) (n':=jq st key) (o₁:=jr st key) e f ag (fun _=>pS aA) (fun _=>pT) (by simp only[dj,g,t,hm]) trivial b
    ·cases he
   ·cases he
  ·cases he
 |app d sz el x y=>
  simp only[iF]at he;split at he
  ·rename_i B tag xs A u ys g s;split at he
   ·rename_i r;split at he
    ·rename_i k;split at he
     ·rename_i ow U;cases he;refine gE (κ:= .loc 0) (n':=0) (o₁:=[]) e f ag (fun h=>by simp[c9.makes,g]at h) (fun h=>by simp[c9.makes,g]at h) ?_ aA b;simp only[dj,g,s,r,and_self,if_true,U]
     ·cases he
    ·cases he;refine gE (κ:= .loc st.n) (n':=st.n+1) (o₁:=st.o) e f ag (fun _=>q aA.1) (fun _=>p) ?_ aA.2 b;simp only[dj,g,s,r,and_self,if_true]
    ·cases he
   ·cases he
  ·cases he
structure b1 where
 b:List (ar×List aa)
 e:List (ar×cw)
def dE(ν:aC)(s:b1)(bl:Nat):Prop:=(∃k,(ab k s.b).isSome/\ν.bx k=some bl)\/(∃g n v,(ab g s.e).isSome/\ν.ow g=some (n,v)/\v.ownBlock=some bl)
def kI(ν:aC)(s:b1):Prop:= ∀k,(ab k s.b=none->ν.bx k=none)/\(ab k s.e=none->ν.ow k=none)/\∀j b,¬ν.tr k j b
def b2(s:b1):List ar:=s.b.map (·.1)++s.e.map (·.1)
def e7(s:b1):Prop:=(∀m,ab (.loc m) s.b=none)/\(∀m,ab (.loc m) s.e=none)
def qa(P:bp)(f:FuncId)(aJ:Array Value)(w:World)(R:Ending->World->Prop):Prop:=((∃fn,P.funcs[f]? =some fn/\fn.body.isSome=true/\(fn.name== "runtime.NumGoroutine")=false)/\Calls P f aJ w R)\/ ∃v w',(callFunc f aJ).run P w= .ok (.value v) w'/\R (.returned v) w'
def cf(P:bp)(f:FuncId)(args:List aa)(s:b1)(Q:aa->b1->Prop):Prop:=
 ∀(w:World) (ν:aC) (aJ:Array Value),Good (dE ν s) w ν s.b s.e->kI ν s->bT w ν args aJ.toList->
  qa P f aJ w fun e w'=> ∃v r a aI,e= .returned v/\Q r a/\aw w' aI r v/\Good (fun bl=>dE ν s bl\/w.heap.size<=bl) w' aI a.b a.e/\kI aI a/\e7 a/\kA ⟨w,ν,dE ν s,0,b2 s⟩ w' aI
def rE(κ:aT Nat)(ν:aC)(s:b1):Prop:= ∀k,(ab k s.b=none->ν.bx k=none)/\(ab k s.e=none->ν.ow k=none)/\∀j b,ν.tr k j b->∃m,κ=some m/\k= .loc m
def kI.k{ν:aC}{s:b1}(h:kI ν s):rE none ν s:=fun k=>⟨(h k).1,(h k).2.1,fun j b a=>absurd a ((h k).2.2 j b)⟩
def na(P:bp)(f:FuncId)(κ:Nat)(args:List aa)(s:b1)(Q:aa->b1->Prop):Prop:=
 ∀(w:World) (ν:aC) (aJ:Array Value),Good (dE ν s) w ν s.b s.e->kI ν s->bT w ν args aJ.toList->
  qa P f aJ w fun e w'=> ∃v r a aI,e= .returned v/\Q r a/\aw w' aI r v/\Good (fun bl=>dE ν s bl\/w.heap.size<=bl) w' aI a.b a.e/\rE (some κ) aI a/\e7 a/\kA ⟨w,ν,dE ν s,0,b2 s⟩ w' aI
def ct(P:bp)(f:FuncId)(args:List aa)(r:aa):Prop:=cf P f args ⟨[],[]⟩ fun a b=>a=r/\b=⟨[],[]⟩
def oO{α:Type}{k:ar}{x:α}:∀{l:List (ar×α)},ab k l=some x->(k,x)∈l
 |[],h=>by simp[ab]at h
 |(i,y)::r,h=>by
  simp only[ab]at h;split at h
  ·rename_i e;subst e;cases h;simp
  ·exact List.mem_cons_of_mem _ (oO h)
def mJ{s:b1}{k:ar}(h:(ab k s.b).isSome\/(ab k s.e).isSome):k∈b2 s:=by
 unfold b2;rcases h with h|h<;>obtain⟨x,a⟩:=dt.1 h<;>have:=oO a
 ·exact List.mem_append_left _ (k9.2 ⟨_,this,rfl⟩)
 ·exact List.mem_append_right _ (k9.2 ⟨_,this,rfl⟩)
section
open Classical
noncomputable def aC.cut(ν:aC)(S:ar->Prop):aC:={A:=ν.A,bx:=fun k=>if S k then ν.bx k else none,ow:=fun k=>if S k then ν.ow k else none,tr:=fun k j b=>S k/\ν.tr k j b}
def aC.cut_bx{ν:aC}{S:ar->Prop}{k:ar}(h:S k):(ν.cut S).bx k=ν.bx k:=by simp[aC.cut,h]
def aC.cut_ow{ν:aC}{S:ar->Prop}{k:ar}(h:S k):(ν.cut S).ow k=ν.ow k:=by simp[aC.cut,h]
def aC.cut_no{ν:aC}{S:ar->Prop}{k:ar}(h:¬S k):(ν.cut S).bx k=none/\(ν.cut S).ow k=none/\∀j b,¬(ν.cut S).tr k j b:=by simp[aC.cut,h]
def aC.cut_some{ν:aC}{S:ar->Prop}{k:ar}{b:Nat}(h:(ν.cut S).bx k=some b):S k/\ν.bx k=some b:=by
 by_cases a:S k
 ·exact⟨a,by rw[aC.cut_bx a]at h;exact h⟩
 ·rw[(aC.cut_no a).1]at h;cases h
def aC.cut_someO{ν:aC}{S:ar->Prop}{k:ar}{b:Nat×Value}(h:(ν.cut S).ow k=some b):S k/\ν.ow k=some b:=by
 by_cases a:S k
 ·exact⟨a,by rw[aC.cut_ow a]at h;exact h⟩
 ·rw[(aC.cut_no a).2.1]at h;cases h
def jC.cut(S:ar->Prop)(w:World)(ν:aC):jC S w ν w (ν.cut S):=⟨fun _ _ h=>⟨h,rfl⟩,fun k b U h=>by rw[aC.cut_bx U];exact h,fun g n u aM h=>⟨n,u,by rw[aC.cut_ow aM];exact h,.inl ⟨rfl,rfl⟩⟩,fun _ _ _=>rfl,fun _ _ _ U h=>⟨U,h⟩⟩
end
def ko(S:ar->Prop)(dR b:List (ar×List aa)):Prop:= ∀k cs,ab k dR=some cs->ab k b=some cs/\S k/\aV S cs
def lB(S:ar->Prop)(a e:List (ar×cw)):Prop:= ∀k o,ab k a=some o->ab k e=some o/\S k/\hh S o
def Good.cut{pr u:Nat->Prop}{w:World}{ν:aC}{b dR:List (ar×List aa)}{e m:List (ar×cw)}(h:Good pr w ν b e){S:ar->Prop}(B:ko S dR b)(he:lB S m e)
  (E:∀bl,pr bl->(∃k,(ab k dR).isSome/\(ν.cut S).bx k=some bl)\/(∃g n v,(ab g m).isSome/\(ν.cut S).ow g=some (n,v)/\v.ownBlock=some bl)->u bl):Good u w (ν.cut S) dR m:=by
 have l:∀k,(ab k dR).isSome->(ab k b).isSome/\S k:=fun k U=>by obtain⟨cs,r⟩:=dt.1 U;have:=B k cs r;exact⟨by simp[this.1],this.2.1⟩
 have i:∀k,(ab k m).isSome->(ab k e).isSome/\S k:=fun k U=>by obtain⟨cs,r⟩:=dt.1 U;have:=he k cs r;exact⟨by simp[this.1],this.2.1⟩
 refine⟨h.alt,fun k cs U=>?_,fun k aQ bl I J d f=>?_,fun g o aM=>?_,fun g z n n' v v' bl I J d f t F=>?_,fun g k n v bl I J d f t=>?_,fun k=>?_,fun bl G k j H=>?_⟩
 ·obtain⟨g1,g2,g3⟩:=B k cs U;obtain⟨bl,us,el,f1,f2,f3,f4,f5⟩:=h.box k cs g1;have y:(ν.cut S).bx k=some bl:=by rw[aC.cut_bx g2];exact f1
  exact⟨bl,us,el,y,E bl f2 (.inl ⟨k,by simp[U],y⟩),f3,f4,BP (jC.cut S w ν) g3 f5⟩
 ·obtain⟨a,a2⟩:=l k I;obtain⟨c,A⟩:=l aQ J;exact h.inj k aQ bl a c (aC.cut_some d).2 (aC.cut_some f).2
 ·obtain⟨g1,g2,g3⟩:=he g o aM;obtain⟨v,us,f1,f2,f3,f4⟩:=h.own g o g1;have x:(ν.cut S).ow g=some (o.n,v):=by rw[aC.cut_ow g2];exact f1
  exact⟨v,us,x,f2,fun bl q=>⟨E bl (f3 bl q).1 (.inr ⟨g,o.n,v,by simp[aM],x,q⟩),(f3 bl q).2⟩,
   fun xs p=>⟨(f4 xs p).1,xP (jC.cut S w ν) _ _ _ (g3 xs p) (f4 xs p).2.1,(f4 xs p).2.2⟩⟩
 ·obtain⟨a,a2⟩:=i g I;obtain⟨c,A⟩:=i z J;exact h.oinj g z n n' v v' bl a c (aC.cut_someO d).2 (aC.cut_someO f).2 t F
 ·obtain⟨a,a2⟩:=i g I;obtain⟨c,A⟩:=l k J;exact h.obx g k n v bl a c (aC.cut_someO d).2 f (aC.cut_some t).2
 ·by_cases s:S k
  ·rw[aC.cut_bx s,aC.cut_ow s];exact h.one k
  ·exact .inl (aC.cut_no s).1
 ·refine h.otr bl ?_ k j H.2;rcases G with⟨aQ,a,a2⟩|⟨g,n,v,a,a2,a3⟩
  ·exact .inl ⟨aQ,(l aQ a).1,(aC.cut_some a2).2⟩
  ·exact .inr ⟨g,n,v,(i g a).1,(aC.cut_someO a2).2,a3⟩
structure fc (ob:List ar) (st st':aN):Prop where
 t:∀x∈st'.t,get x.1 st.t=x.2/\aR (fun k=> ¬fresh st'.n st'.o k) x.2
 b:ko (fun k=> ¬fresh st'.n st'.o k) st'.b st.b
 e:lB (fun k=> ¬fresh st'.n st'.o k) st'.e st.e
 o:∀m∈ob,m∈st'.o
def Fb:∀(i:Nat) (l:List (Nat×aa)),get i l= .junk\/(i,get i l)∈l
 |_,[]=>.inl rfl
 |i,(j,p)::r=>by
  by_cases h:j=i
  ·subst h;right;simp[get]
  ·rcases Fb i r with I|I
   ·left;simp[get,h,I]
   ·right;simp[get,h];right;exact I
def bO.weaker{C:dk}{st st':aN}{a:Act}{w:World}{ν:aC}(h:bO C st a w ν)(hw:fc C.ob st st'):bO C st' a w (ν.cut fun k=> ¬fresh st'.n st'.o k):=by
 refine⟨h.good.cut hw.b hw.e (fun bl f _=>f),⟨h.fr.os,h.fr.tape,h.fr.output,h.fr.size,h.fr.block,h.fr.keep,h.fr.fresh,fun n b c=>?_,h.fr.obn,fun m n u hm=>?_,h.fr.obr,fun k j aQ cU b I J=>h.fr.trd k j aQ cU b I.2 J.2,fun k j b c=>h.fr.trb k j b c.2,fun k j b c=>?_,h.fr.sh⟩,h.defers,h.size,fun i=>?_,fun k U=>aC.cut_no (fun g=>g U)⟩
 ·rw[aC.cut_bx (fun d=>d.2 (hw.o _ (h.fr.obn n b c)))];exact h.fr.obj n b c
 ·rw[aC.cut_ow (fun d=>d.2 (hw.o _ (h.fr.obr m n u hm)))];exact h.fr.row m n u hm
 ·rw[aC.cut_bx c.1,aC.cut_ow c.1];exact h.fr.trn k j b c.2
 ·rcases Fb i st'.t with e|hm
  ·rw[e];simp[aw]
  ·obtain⟨I,J⟩:=hw.t _ hm;simp only at I;have:=h.slot i;rw[I]at this;exact nP (jC.cut _ w ν) _ _ J this
mutual
def bE:aa->aa
 | .slice sz _ xs=>.slice sz .no (bt xs)
 | .agg cs=>.agg (bt cs)
 | .tuple aJ=>.tuple (bt aJ)
 | .eptr x=>.eptr (bE x)
 | .iface t x=>.iface t (bE x)
 | .func f cx=>.func f (bt cx)
 |p=>p
def bt:List aa->List aa
 |[]=>[]
 |x::xs=>bE x::bt xs
end
def iH:∀xs,(bt xs).length=xs.length
 |[]=>rfl
 |x::xs=>by simp[bt,iH xs]
def ya:∀xs,bt xs=xs.map bE
 |[]=>rfl
 |x::xs=>by simp[bt,ya xs]
mutual
def vY{t:Bool}{w:World}{A:Nat->Nat->Prop}:∀(p:aa) (F:Nat->Prop) (v:Value),bJ t w A F p v->bJ t w A F (bE p) v
 | .int _ _,_,_,h=>by simpa only[bE]using h
 | .bool _,_,_,h=>by simpa only[bE]using h
 | .str _,_,_,h=>by simpa only[bE]using h
 | .slice sz tag xs,F,v,h=>by
  simp only[bJ,bE]at h⊢;obtain⟨a,cap,I,J,g,j⟩:=h;refine⟨a,cap,by rw[iH];exact I,by rw[iH];exact J,by rw[iH];exact g,?_⟩;rcases j with rfl|⟨b,off,us,G,f,k,i,e,c,d⟩
  ·exact .inl rfl
  ·exact .inr ⟨b,off,us,G,f,k,i,e,c,E1 sz xs G us d⟩
 | .agg cs,F,v,h=>by simp only[bJ,bE]at h⊢;obtain⟨us,I,J⟩:=h;exact⟨us,I,E2 cs F _ J⟩
 | .junk,_,_,h=>by simp[bJ]at h
 | .ptr _ _,_,_,h=>by simp[bJ]at h
 | .eptr _,_,_,h=>by simp[bJ]at h
 | .iface _ _,_,_,h=>by simp[bJ]at h
 | .nilp,_,_,h=>by simp[bJ]at h
 | .tuple _,_,_,h=>by simp[bJ]at h
 | .func _ _,_,_,h=>by simp[bJ]at h
 | .gmap _,_,_,h=>by simp[bJ]at h
 | .row _ _ _,_,_,h=>by simp[bJ]at h
 | .rptr _ _ _ _ _,_,_,h=>by simp[bJ]at h
 | .hdm _ _,_,_,h=>by simp[bJ]at h
 | .hdi _ _ _,_,_,h=>by simp[bJ]at h
 | .cst _,_,_,h=>by simp[bJ]at h
def E2{t:Bool}{w:World}{A:Nat->Nat->Prop}:∀(cs:List aa) (F:Nat->Prop) (us:List Value),gI t w A F cs us->gI t w A F (bt cs) us
 |[],_,_,h=>by simpa only[bt]using h
 |c::cs,F,us,h=>by simp only[gI,bt]at h⊢;obtain⟨u,d,a,b,I,J,⟨g,f⟩,e⟩:=h;exact⟨u,d,a,b,I,J,⟨vY c a u g,f⟩,E2 cs b d e⟩
def E1{t:Bool}{w:World}{A:Nat->Nat->Prop}(sz:Nat):∀(cs:List aa) (F:Nat->Prop) (us:List Value),ga t w A F sz cs us->ga t w A F sz (bt cs) us
 |[],_,_,h=>by simpa only[bt]using h
 |c::cs,F,us,h=>by simp only[ga,bt]at h⊢;obtain⟨u,d,a,b,I,J,⟨g,f⟩,e⟩:=h;exact⟨u,d,a,b,I,J,⟨vY c a u g,f⟩,E1 sz cs b d e⟩
end
def tv{t:Bool}{w:World}{A:Nat->Nat->Prop}{F:Nat->Prop}{sz:Nat}{tag:hI}(a:hI){xs:List aa}(v:Value)(h:bJ t w A F (.slice sz tag xs) v):bJ t w A F (.slice sz a (bt xs)) v:=by have:=vY _ F v h;simp only[bE,bJ]at this⊢;exact this
mutual
def p0{w:World}{ν:aC}:∀(p:aa) (v:Value),aw w ν p v->aw w ν (bE p) v
 | .junk,_,h=>by simpa only[bE]using h
 | .int k n,_,h=>by simpa only[bE]using h
 | .bool b,_,h=>by simpa only[bE]using h
 | .str s,_,h=>by simpa only[bE]using h
 | .slice sz tag xs,v,h=>by
  simp only[aw,bE]at h⊢;obtain⟨⟨a,cap,I,J,c,d⟩,l,i⟩:=h;refine⟨⟨a,cap,by rw[iH];exact I,by rw[iH];exact J,by rw[iH];exact c,?_⟩,fun e=>(by cases e),fun g e=>(by cases e),fun _ _ e=>(by cases e),fun _ e=>(by cases e)⟩;rcases d with rfl|⟨b,off,us,d,i,j⟩
  ·exact .inl rfl
  ·exact .inr ⟨b,off,us,d,i,Is sz xs us j⟩
 | .agg cs,v,h=>by simp only[aw,bE]at h⊢;obtain⟨us,I,J⟩:=h;exact⟨us,I,Iw cs _ J⟩
 | .ptr key off,v,h=>by simpa only[bE]using h
 | .iface t x,v,h=>by simp only[aw,bE]at h⊢;obtain⟨u,I,J⟩:=h;exact⟨u,I,p0 x u J⟩
 | .eptr x,v,h=>by simp only[aw,bE]at h⊢;obtain⟨b,off,u,I,J,c⟩:=h;exact⟨b,off,u,I,p0 x u J,c⟩
 | .nilp,_,h=>by simpa only[bE]using h
 | .tuple aJ,v,h=>by simp only[aw,bE]at h⊢;obtain⟨us,I,J⟩:=h;exact⟨us,I,xT aJ _ J⟩
 | .func f cx,v,h=>by simp only[aw,bE]at h⊢;obtain⟨us,I,J⟩:=h;exact⟨us,I,xT cx _ J⟩
 | .gmap key,v,h=>by simpa only[bE]using h
 | .row _ _ _,v,h=>by simpa only[bE]using h
 | .rptr _ _ _ _ _,v,h=>by simpa only[bE]using h
 | .cst _,v,h=>by simpa only[bE]using h
def Iw{w:World}{ν:aC}:∀(cs:List aa) (us:List Value),bL w ν cs us->bL w ν (bt cs) us
 |[],_,h=>by simpa only[bt]using h
 |c::cs,us,h=>by simp only[bL,bt]at h⊢;obtain⟨u,a,I,J,b⟩:=h;exact⟨u,a,I,⟨p0 c u J.1,J.2⟩,Iw cs a b⟩
def xT{w:World}{ν:aC}:∀(cs:List aa) (us:List Value),bT w ν cs us->bT w ν (bt cs) us
 |[],_,h=>by simpa only[bt]using h
 |c::cs,us,h=>by simp only[bT,bt]at h⊢;obtain⟨u,a,I,J,b⟩:=h;exact⟨u,a,I,p0 c u J,xT cs a b⟩
def Is{w:World}{ν:aC}(sz:Nat):∀(xs:List aa) (us:List Value),b7 w ν sz xs us->b7 w ν sz (bt xs) us
 |[],_,h=>by simpa only[bt]using h
 |x::xs,us,h=>by simp only[b7,bt]at h⊢;obtain⟨u,a,I,⟨J,b,c⟩,d⟩:=h;exact⟨u,a,I,⟨p0 x u J,b,c⟩,Is sz xs a d⟩
end
def a7(s:b1)(k:ar):Prop:=(ab k s.b).isSome=true\/(ab k s.e).isSome=true
def dy{α β:Type}(s:List (ar×β)):List (ar×α)->List (ar×α)
 |[]=>[]
 |(k,x)::r=>match ab k s with
  |some _=>dy s r
  |none=>(k,x)::dy s r
def mH{α β:Type}(s:List (ar×β))(k:ar):∀l:List (ar×α),ab k (dy s l)=if(ab k s).isSome then none else ab k l
 |[]=>by simp[dy,ab]
 |(i,x)::r=>by
  simp only[dy];by_cases e:i=k
  ·subst e;cases h:ab i s with
   |some y=>simp[mH s i r,h]
   |none=>simp[ab]
  ·cases h:ab i s with
   |some y=>simp[mH s k r,ab,e]
   |none=>simp[ab,e,mH s k r]
def ja{α:Type}(k:ar):∀l a:List (ar×α),ab k (l++a)=match ab k l with|some x=>some x|none=>ab k a
 |[],a=>by simp[ab]
 |(i,x)::r,a=>by
  by_cases e:i=k
  ·simp[ab,e]
  ·simp[ab,e,ja k r a]
def after(st:aN)(s a:b1)(d:aT Nat)(r:aa):aN:={t:=dH d r st.t,b:=dy s.b st.b++a.b,e:=dy s.e st.e++a.e,n:=st.n,o:=st.o++b2 a}
section
open Classical
noncomputable def aC.join(ν aI:aC)(s a:b1):aC:={A:=aI.A,bx:=fun k=>if(ab k s.b).isSome\/(ab k a.b).isSome then aI.bx k else ν.bx k,ow:=fun k=>if(ab k s.e).isSome\/(ab k a.e).isSome then aI.ow k else ν.ow k,tr:=fun k j b=>ν.tr k j b\/aI.tr k j b}
end
def bO.callK{C:dk}{st:aN}{a:Act}{w w':World}{ν aI:aC}(h:bO C st a w ν){s c:b1}(B:ko (a7 s) s.b st.b)(he:lB (a7 s) s.e st.e)(pG:e7 s)
  (aM:Good (fun bl=>dE (ν.cut (a7 s)) s bl\/w.heap.size<=bl) w' aI c.b c.e) {κ:aT Nat} (X:rE κ aI c) (PL:∀m,κ=some m->ν.bx (.loc m)=none/\ν.ow (.loc m)=none/\∀j b,¬ν.tr (.loc m) j b) {n':Nat} {o':List ar} (dI:∀k,fresh n' o' k->fresh st.n (st.o++b2 c) k/\∀m,κ=some m->k≠ .loc m) (P:e7 c) (E:kA ⟨w,ν.cut (a7 s),dE (ν.cut (a7 s)) s,0,b2 s⟩ w' aI)
  (Ad:∀m,(ab (.obj m) c.b).isSome->(ab (.obj m) s.b).isSome\/ .obj m∉st.o) (de:∀m,(ab (.obj m) c.e).isSome->(ab (.obj m) s.e).isSome\/ .obj m∉st.o) (d:aT Nat) (aL:gl C.N d=true) {r:aa} {v:Value} (aq:aw w' aI r v):
  bO C {after st s c d r with n:=n',o:=o'} (a.put d v) w' (ν.join aI s c):=by
 have S:∀k,(ab k s.b).isSome->(ab k st.b).isSome:=fun k U=>by obtain⟨cs,q⟩:=dt.1 U;simp[(B k cs q).1]
 have V:∀k,(ab k s.e).isSome->(ab k st.e).isSome:=fun k U=>by obtain⟨cs,q⟩:=dt.1 U;simp[(he k cs q).1]
 have O4:∀k,(ab k c.b).isSome->¬(ab k s.b).isSome->ν.bx k=none:=fun k U aO=>by
  cases k with
  |loc m=>rw[P.1 m]at U;cases U
  |obj m=>exact(h.new (.obj m) ⟨trivial,(Ad m U).resolve_left aO⟩).1
 have O5:∀k,(ab k c.e).isSome->¬(ab k s.e).isSome->ν.ow k=none:=fun k U aO=>by
  cases k with
  |loc m=>rw[P.2 m]at U;cases U
  |obj m=>exact(h.new (.obj m) ⟨trivial,(de m U).resolve_left aO⟩).2.1
 have P5:∀k,(ab k s.b).isSome->(ν.join aI s c).bx k=aI.bx k:=fun k U=>by simp[aC.join,U]
 have Gx:∀k,(ab k c.b).isSome->(ν.join aI s c).bx k=aI.bx k:=fun k U=>by simp[aC.join,U]
 have Gy:∀k,ν.bx k≠none->¬(ab k s.b).isSome->(ν.join aI s c).bx k=ν.bx k:=fun k I J=>by have y:¬(ab k c.b).isSome:=fun y=>I (O4 k y J);simp[aC.join,J,y]
 have P6:∀k,(ab k s.e).isSome->(ν.join aI s c).ow k=aI.ow k:=fun k U=>by simp[aC.join,U]
 have AL:∀k,(ab k c.e).isSome->(ν.join aI s c).ow k=aI.ow k:=fun k U=>by simp[aC.join,U]
 have AM:∀k,ν.ow k≠none->¬(ab k s.e).isSome->(ν.join aI s c).ow k=ν.ow k:=fun k I J=>by have y:¬(ab k c.e).isSome:=fun y=>I (O5 k y J);simp[aC.join,J,y]
 have JS:∀k b,aI.bx k=some b->(ab k c.b).isSome:=fun k b U=>by
  cases R:ab k c.b with
  |some _=>rfl
  |none=>rw[(X k).1 R]at U;cases U
 have JT:∀k b,aI.ow k=some b->(ab k c.e).isSome:=fun k b U=>by
  cases R:ab k c.e with
  |some _=>rfl
  |none=>rw[(X k).2.1 R]at U;cases U
 have ag:ij w ν w' (ν.join aI s c):=by
  refine⟨fun b o M=>E.keep b o M,fun k b _ U=>?_,fun g n u _ aM=>?_,fun b o M=>E.sh b o M,fun _ _ _ _ h=>.inl h⟩
  ·by_cases A:(ab k s.b).isSome
   ·rw[P5 k A];cases k with
    |loc m=>rw[pG.1 m]at A;cases A
    |obj m=>exact E.obj m b (by rw[aC.cut_bx (.inl A)];exact U)
   ·rw[Gy k (by rw[U];simp) A];exact U
  ·by_cases A:(ab g s.e).isSome
   ·rw[P6 g A];cases g with
    |loc m=>rw[pG.2 m]at A;cases A
    |obj m=>exact E.row m n u (by rw[aC.cut_ow (.inr A)];exact aM)
   ·rw[AM g (by rw[aM];simp) A];exact⟨n,u,aM,.inl ⟨rfl,rfl⟩⟩
 have dT:ij w' aI w' (ν.join aI s c):=⟨fun b o M=>⟨M,rfl⟩,fun k b _ U=>by rw[Gx k (JS k b U)];exact U,fun g n u _ U=>⟨n,u,by rw[AL g (JT g _ U)];exact U,.inl ⟨rfl,rfl⟩⟩,fun _ _ _=>rfl,fun _ _ _ _ h=>.inr h⟩
 have ka:∀bl,dE (ν.cut (a7 s)) s bl->C.pr bl/\bl<w.heap.size:=by
  intro bl F;rcases F with⟨k,I,J⟩|⟨g,n,u,I,J,y⟩
  ·have z:=(aC.cut_some J).2;obtain⟨cs,q⟩:=dt.1 (S k I);obtain⟨K,us,el,g1,g2,_⟩:=h.good.box k cs q;rw[z]at g1;cases g1;exact⟨g2,h.good.boxLt q z⟩
  ·have z:=(aC.cut_someO J).2;obtain⟨o,wH⟩:=dt.1 (V g I);obtain⟨v',us,g1,g2,g3,_⟩:=h.good.own g o wH;rw[z]at g1;cases g1;exact⟨(g3 bl y).1,h.good.ownLt wH z y⟩
 have F3:∀bl,dE (ν.cut (a7 s)) s bl\/w.heap.size<=bl->C.pr bl:=fun bl F=>by
  rcases F with F|F
  ·exact(ka bl F).1
  ·exact .inr (jB h.fr.size F)
 have Pu:∀k cs bl,ab k st.b=some cs->¬(ab k s.b).isSome->ν.bx k=some bl->¬dE (ν.cut (a7 s)) s bl:=by
  intro k cs bl I J y z;rcases z with⟨aQ,i,a2⟩|⟨g,n,u,i,a2,a3⟩
  ·have:=h.good.inj k aQ bl (by simp[I]) (S aQ i) y (aC.cut_some a2).2;subst this;exact J i
  ·exact h.good.obx g k n u bl (V g i) (by simp[I]) (aC.cut_someO a2).2 a3 y
 have Pw:∀g o n u bl,ab g st.e=some o->¬(ab g s.e).isSome->ν.ow g=some (n,u)->u.ownBlock=some bl->¬dE (ν.cut (a7 s)) s bl:=by
  intro g o n u bl I J y z G;rcases G with⟨aQ,i,a2⟩|⟨W,n',c3,i,a2,a3⟩
  ·exact h.good.obx g aQ n u bl (by simp[I]) (S aQ i) y z (aC.cut_some a2).2
  ·have:=h.good.oinj g W n n' u c3 bl (by simp[I]) (V W i) y (aC.cut_someO a2).2 z a3;subst this;exact J i
 have D6:∀k cs,ab k (dy s.b st.b++c.b)=some cs->(¬(ab k s.b).isSome/\ab k st.b=some cs)\/ab k c.b=some cs:=by
  intro k cs U;rw[ja,mH]at U;by_cases A:(ab k s.b).isSome
  ·simp only[A,if_true]at U;exact .inr U
  ·simp only[A]at U;cases R:ab k st.b with
   |some x=>simp[R]at U;subst U;exact .inl ⟨A,rfl⟩
   |none=>simp[R]at U;exact .inr U
 have D7:∀k cs,ab k (dy s.e st.e++c.e)=some cs->(¬(ab k s.e).isSome/\ab k st.e=some cs)\/ab k c.e=some cs:=by
  intro k cs U;rw[ja,mH]at U;by_cases A:(ab k s.e).isSome
  ·simp only[A,if_true]at U;exact .inr U
  ·simp only[A]at U;cases R:ab k st.e with
   |some x=>simp[R]at U;subst U;exact .inl ⟨A,rfl⟩
   |none=>simp[R]at U;exact .inr U
 have Z:∀bl,dE (ν.cut (a7 s)) s bl\/w.heap.size<=bl->∀K,K<w.heap.size->¬dE (ν.cut (a7 s)) s K->bl≠K:=by
  intro bl I K J y e;subst e;rcases I with I|I
  ·exact y I
  ·omega
 have AN:∀bl,bl<w.heap.size->¬dE (ν.cut (a7 s)) s bl->w'.heap[bl]? =w.heap[bl]?:=fun bl I J=>E.block bl I J;have isB:∀k bl,(ab k (dy s.b st.b++c.b)).isSome->(ν.join aI s c).bx k=some bl->(¬(ab k s.b).isSome/\(ab k st.b).isSome/\ν.bx k=some bl)\/((ab k c.b).isSome/\aI.bx k=some bl):=by
  intro k bl U L;obtain⟨cs,q⟩:=dt.1 U;rcases D6 k cs q with⟨I,J⟩|I
  ·obtain⟨K,us,el,g1,_⟩:=h.good.box k cs J;rw[Gy k (by rw[g1];simp) I]at L;exact .inl ⟨I,by simp[J],L⟩
  ·rw[Gx k (by simp[I])]at L;exact .inr ⟨by simp[I],L⟩
 have w3:∀k x,(ab k (dy s.e st.e++c.e)).isSome->(ν.join aI s c).ow k=some x->(¬(ab k s.e).isSome/\(ab k st.e).isSome/\ν.ow k=some x)\/((ab k c.e).isSome/\aI.ow k=some x):=by
  intro k x U L;obtain⟨cs,q⟩:=dt.1 U;rcases D7 k cs q with⟨I,J⟩|I
  ·obtain⟨v',us,g1,_⟩:=h.good.own k cs J;rw[AM k (by rw[g1];simp) I]at L;exact .inl ⟨I,by simp[J],L⟩
  ·rw[AL k (by simp[I])]at L;exact .inr ⟨by simp[I],L⟩
 have s9:∀k bl,¬(ab k s.b).isSome->(ab k st.b).isSome->ν.bx k=some bl->bl<w.heap.size/\¬dE (ν.cut (a7 s)) s bl:=by intro k bl I J y;obtain⟨cs,q⟩:=dt.1 J;exact⟨h.good.boxLt q y,Pu k cs bl q I y⟩
 have Y:∀k n u bl,¬(ab k s.e).isSome->(ab k st.e).isSome->ν.ow k=some (n,u)->u.ownBlock=some bl->bl<w.heap.size/\¬dE (ν.cut (a7 s)) s bl:=by intro k n u bl I J y z;obtain⟨cs,q⟩:=dt.1 J;exact⟨h.good.ownLt q y z,Pw k cs n u bl q I y z⟩
 have vp:∀k bl,(ab k c.b).isSome->aI.bx k=some bl->dE (ν.cut (a7 s)) s bl\/w.heap.size<=bl:=by intro k bl I J;obtain⟨cs,q⟩:=dt.1 I;obtain⟨K,us,el,g1,g2,_⟩:=aM.box k cs q;rw[J]at g1;cases g1;exact g2
 have xW:∀k n u bl,(ab k c.e).isSome->aI.ow k=some (n,u)->u.ownBlock=some bl->dE (ν.cut (a7 s)) s bl\/w.heap.size<=bl:=by intro k n u bl I J y;obtain⟨cs,q⟩:=dt.1 I;obtain⟨v',us,g1,g2,g3,_⟩:=aM.own k cs q;rw[J]at g1;cases g1;exact(g3 bl y).1
 have M:∀bl o,aI.A bl o->bl<w.heap.size->¬dE (ν.cut (a7 s)) s bl->ν.A bl o:=by
  intro bl o I J y;rcases E.fresh bl o I with z|z|z
  ·exact z
  ·exact absurd z y
  ·simp only at z;omega
 have lp:bO C {t:=st.t,b:=dy s.b st.b++c.b,e:=dy s.e st.e++c.e,n:=n',o:=o'} a w' (ν.join aI s c):=by
  refine h.over ag rfl ⟨aM.alt,fun k cs U=>?_,fun k aQ bl I J y z=>?_,fun g o cX=>?_,fun g W n n' u c3 bl I J y z G cu=>?_,fun g k n u bl I J y z G=>?_,fun k=>?_,fun bl av k j eV=>?_⟩
   ⟨E.os.trans h.fr.os,E.tape.trans h.fr.tape,E.output.trans h.fr.output,jB h.fr.size E.size,fun k U hm=>?_,fun b o Q=>?_,fun b o Q=>?_,fun n b aO=>ag.bx _ _ trivial (h.fr.obj n b aO),h.fr.obn,
    fun m n u hm=>uL (h.fr.row m n u hm) (fun n u=>ag.ow _ n u trivial),h.fr.obr,fun k j aQ cU b I J=>?_,fun k j b B=>?_,fun k j b B=>?_,fun b o M=>(ag.sh b o (h.fr.keep b o M).1).trans (h.fr.sh b o M)⟩ (fun k U=>?_)
  ·rcases D6 k cs U with⟨I,J⟩|I
   ·obtain⟨bl,us,el,g1,g2,g3,g4,g5⟩:=h.good.box k cs J;obtain⟨l,p⟩:=s9 k bl I (by simp[J]) g1;exact⟨bl,us,el,ag.bx _ _ trivial g1,g2,fun o Q=>g3 o (M bl o Q l p),by rw[AN bl l p];exact g4,lz ag g5⟩
   ·obtain⟨bl,us,el,g1,g2,g3,g4,g5⟩:=aM.box k cs I;exact⟨bl,us,el,dT.bx _ _ trivial g1,F3 bl g2,g3,g4,lz dT g5⟩
  ·rcases isB k bl I y with⟨i,a2,a3⟩|⟨i,a2⟩<;>rcases isB aQ bl J z with⟨l,p,H⟩|⟨l,p⟩
   ·exact h.good.inj k aQ bl a2 p a3 H
   ·obtain⟨N,O⟩:=s9 k bl i a2 a3;exact absurd rfl (Z bl (vp aQ bl l p) bl N O)
   ·obtain⟨N,O⟩:=s9 aQ bl l p H;exact absurd rfl (Z bl (vp k bl i a2) bl N O)
   ·exact aM.inj k aQ bl i l a2 p
  ·rcases D7 g o cX with⟨I,J⟩|I
   ·obtain⟨u,us,g1,g2,g3,g4⟩:=h.good.own g o J;refine⟨u,us,by rw[AM g (by rw[g1];simp) I];exact g1,⟨g2.1,?_⟩,fun bl F=>?_,mQ ag (fun bl F j Q=>?_) g4⟩
    ·rcases g2.2 with aD|⟨fj,cap,cur,f1,f2,f3,f4⟩
     ·exact .inl aD
     ·obtain⟨l,p⟩:=Y g _ u fj I (by simp[J]) g1 (by rw[f1];rfl);exact .inr ⟨fj,cap,cur,f1,f2,by rw[AN fj l p];exact f3,f4⟩
    ·obtain⟨l,p⟩:=Y g _ u bl I (by simp[J]) g1 F;exact⟨(g3 bl F).1,fun j Q=>(g3 bl F).2 j (M bl j Q l p)⟩
    ·obtain⟨l,p⟩:=Y g _ u bl I (by simp[J]) g1 F;exact M bl j Q l p
   ·obtain⟨u,us,g1,g2,g3,g4⟩:=aM.own g o I;exact⟨u,us,by rw[AL g (by simp[I])];exact g1,g2,fun bl F=>⟨F3 bl (g3 bl F).1,(g3 bl F).2⟩,mQ dT (fun _ _ _ h=>h) g4⟩
  ·rcases w3 g _ I y with⟨i,a2,a3⟩|⟨i,a2⟩<;>rcases w3 W _ J z with⟨l,p,H⟩|⟨l,p⟩
   ·exact h.good.oinj g W n n' u c3 bl a2 p a3 H G cu
   ·obtain⟨N,O⟩:=Y g n u bl i a2 a3 G;exact absurd rfl (Z bl (xW W n' c3 bl l p cu) bl N O)
   ·obtain⟨N,O⟩:=Y W n' c3 bl l p H cu;exact absurd rfl (Z bl (xW g n u bl i a2 G) bl N O)
   ·exact aM.oinj g W n n' u c3 bl i l a2 p G cu
  ·rcases w3 g _ I y with⟨i,a2,a3⟩|⟨i,a2⟩<;>rcases isB k bl J G with⟨l,p,H⟩|⟨l,p⟩
   ·exact h.good.obx g k n u bl a2 p a3 z H
   ·obtain⟨N,O⟩:=Y g n u bl i a2 a3 z;exact absurd rfl (Z bl (vp k bl l p) bl N O)
   ·obtain⟨N,O⟩:=s9 k bl l p H;exact absurd rfl (Z bl (xW g n u bl i a2 z) bl N O)
   ·exact aM.obx g k n u bl i l a2 z p
  ·
   cases L:(ν.join aI s c).bx k with
   |none=>exact .inl rfl
   |some bl=>
    right;cases lU:(ν.join aI s c).ow k with
    |none=>rfl
    |some x=>
     exfalso;have ai:(ν.bx k=some bl/\¬(ab k s.b).isSome/\¬(ab k c.b).isSome)\/aI.bx k=some bl:=by
      by_cases A:(ab k s.b).isSome\/(ab k c.b).isSome
      ·right;simpa[aC.join,A]using L
      ·left;simp only[not_or]at A;exact⟨by simpa[aC.join,A.1,A.2]using L,A.1,A.2⟩
     have aD:(ν.ow k=some x/\¬(ab k s.e).isSome/\¬(ab k c.e).isSome)\/aI.ow k=some x:=by
      by_cases A:(ab k s.e).isSome\/(ab k c.e).isSome
      ·right;simpa[aC.join,A]using lU
      ·left;simp only[not_or]at A;exact⟨by simpa[aC.join,A.1,A.2]using lU,A.1,A.2⟩
     rcases ai with⟨i,a2,a3⟩|i<;>rcases aD with⟨l,p,H⟩|l
     ·rcases h.good.one k with f|f
      ·rw[f]at i;cases i
      ·rw[f]at l;cases l
     ·have qC:=JT k x l;have ec:(ab k s.e).isSome:=by
       cases k with
       |loc m=>rw[P.2 m]at qC;cases qC
       |obj m=>
        rcases de m qC with f|f
        ·exact f
        ·rw[(h.new (.obj m) ⟨trivial,f⟩).1]at i;cases i
      obtain⟨o,wH⟩:=dt.1 (V k ec);obtain⟨v',us,g1,_⟩:=h.good.own k o wH;rcases h.good.one k with f|f
      ·rw[f]at i;cases i
      ·rw[f]at g1;cases g1
     ·have zZ:=JS k bl i;have ec:(ab k s.b).isSome:=by
       cases k with
       |loc m=>rw[P.1 m]at zZ;cases zZ
       |obj m=>
        rcases Ad m zZ with f|f
        ·exact f
        ·rw[(h.new (.obj m) ⟨trivial,f⟩).2.1]at l;cases l
      obtain⟨cs,q⟩:=dt.1 (S k ec);obtain⟨K,us,el,g1,_⟩:=h.good.box k cs q;rcases h.good.one k with f|f
      ·rw[f]at g1;cases g1
      ·rw[f]at l;cases l
     ·rcases aM.one k with f|f
      ·rw[f]at i;cases i
      ·rw[f]at l;cases l
  ·have FU:∀k j,aI.tr k j bl->w.heap.size<=bl:=fun k j f=>by
    rcases(E.trb k j bl f).1 with a2|a2
    ·obtain⟨m,_,hm⟩:=(X k).2.2 j bl f;rw[hm]at a2;cases a2
    ·exact a2
   have hold:dE (ν.cut (a7 s)) s bl->¬ν.tr k j bl:=by
    rintro(⟨aQ,i,a2⟩|⟨g,n,u,i,a2,a3⟩) f
    ·exact h.good.otr bl (.inl ⟨aQ,S aQ i,(aC.cut_some a2).2⟩) k j f
    ·exact h.good.otr bl (.inr ⟨g,n,u,V g i,(aC.cut_someO a2).2,a3⟩) k j f
   have hN:dE (ν.cut (a7 s)) s bl\/w.heap.size<=bl->¬ν.tr k j bl:=by
    rintro(I|I) f
    ·exact hold I f
    ·have:=(h.fr.trb k j bl f).2;omega
   rcases av with⟨aQ,i,a2⟩|⟨g,n,u,i,a2,a3⟩
   ·rcases isB aQ bl i a2 with⟨l,p,H⟩|⟨l,p⟩
    ·rcases eV with eV|eV
     ·exact h.good.otr bl (.inl ⟨aQ,p,H⟩) k j eV
     ·have:=(s9 aQ bl l p H).1;have:=FU k j eV;omega
    ·rcases eV with eV|eV
     ·exact hN (vp aQ bl l p) eV
     ·exact aM.otr bl (.inl ⟨aQ,l,p⟩) k j eV
   ·rcases w3 g _ i a2 with⟨l,p,H⟩|⟨l,p⟩
    ·rcases eV with eV|eV
     ·exact h.good.otr bl (.inr ⟨g,n,u,p,H,a3⟩) k j eV
     ·have:=(Y g n u bl l p H a3).1;have:=FU k j eV;omega
    ·rcases eV with eV|eV
     ·exact hN (xW g n u bl l p a3) eV
     ·exact aM.otr bl (.inr ⟨g,n,u,l,p,a3⟩) k j eV
  ·have bA:k<w.heap.size:=Nat.lt_of_lt_of_le U h.fr.size;rw[AN k bA fun F=>by
    rcases(ka k F).1 with I|I
    ·exact hm I
    ·omega]
   exact h.fr.block k U hm
  ·obtain⟨bo,bY⟩:=h.fr.keep b o Q;obtain⟨dF,fk⟩:=E.keep b o bo;exact⟨dF,fk.trans bY⟩
  ·rcases E.fresh b o Q with z|z|z
   ·exact h.fr.fresh b o z
   ·exact .inr (ka b z).1
   ·exact .inr (.inr (jB h.fr.size z))
  ·rcases I with I|I<;>rcases J with J|J
   ·exact h.fr.trd k j aQ cU b I J
   ·have i:=(h.fr.trb k j b I).2;have a2:=(E.trb aQ cU b J).1;rcases a2 with a2|a2
    ·obtain⟨m,_,hm⟩:=(X aQ).2.2 cU b J;rw[hm]at a2;cases a2
    ·simp only at a2;omega
   ·have i:=(h.fr.trb aQ cU b J).2;have a2:=(E.trb k j b I).1;rcases a2 with a2|a2
    ·obtain⟨m,_,hm⟩:=(X k).2.2 j b I;rw[hm]at a2;cases a2
    ·simp only at a2;omega
   ·exact E.trd k j aQ cU b I J
  ·rcases B with B|B
   ·exact⟨(h.fr.trb k j b B).1,Nat.lt_of_lt_of_le (h.fr.trb k j b B).2 E.size⟩
   ·refine⟨.inr ?_,(E.trb k j b B).2⟩;rcases(E.trb k j b B).1 with a2|a2
    ·obtain⟨m,_,hm⟩:=(X k).2.2 j b B;rw[hm]at a2;cases a2
    ·exact jB h.fr.size a2
  ·have key:ν.bx k=none/\ν.ow k=none/\¬(ab k c.b).isSome/\¬(ab k c.e).isSome:=by
    rcases B with B|B
    ·obtain⟨t1,t2⟩:=h.fr.trn k j b B;refine⟨t1,t2,fun f=>?_,fun f=>?_⟩
     ·cases k with
      |loc m=>rw[P.1 m]at f;cases f
      |obj m=>
       rcases Ad m f with G|G
       ·obtain⟨cs,q⟩:=dt.1 (S _ G);obtain⟨K,us,el,g1,_⟩:=h.good.box _ cs q;rw[t1]at g1;cases g1
       ·exact(h.new (.obj m) ⟨trivial,G⟩).2.2 j b B
     ·cases k with
      |loc m=>rw[P.2 m]at f;cases f
      |obj m=>
       rcases de m f with G|G
       ·obtain⟨cs,q⟩:=dt.1 (V _ G);obtain⟨K,us,g1,_⟩:=h.good.own _ cs q;rw[t2]at g1;cases g1
       ·exact(h.new (.obj m) ⟨trivial,G⟩).2.2 j b B
    ·obtain⟨m,hm,rfl⟩:=(X k).2.2 j b B;obtain⟨t1,t2,_⟩:=PL m hm;exact⟨t1,t2,by simp[P.1 m],by simp[P.2 m]⟩
   obtain⟨t1,t2,t3,t4⟩:=key;have t5:¬(ab k s.b).isSome:=fun f=>by obtain⟨cs,q⟩:=dt.1 (S _ f);obtain⟨K,us,el,g1,_⟩:=h.good.box _ cs q;rw[t1]at g1;cases g1
   have t6:¬(ab k s.e).isSome:=fun f=>by obtain⟨cs,q⟩:=dt.1 (V _ f);obtain⟨K,us,g1,_⟩:=h.good.own _ cs q;rw[t2]at g1;cases g1
   exact⟨by simp[aC.join,t3,t5,t1],by simp[aC.join,t4,t6,t2]⟩
  ·
   simp only at U;obtain⟨U,OO⟩:=dI k U;have FX:(∀j b,¬ν.tr k j b)->∀j b,¬(ν.join aI s c).tr k j b:=fun I j b B=>by
    rcases B with B|B
    ·exact I j b B
    ·obtain⟨m,hm,e⟩:=(X k).2.2 j b B;exact OO m hm e
   cases k with
   |loc m=>obtain⟨fh,er,gA⟩:=h.new (.loc m) (zr (di _) (fun _ h=>List.mem_append_left _ h) U);exact⟨by simp[aC.join,pG.1 m,P.1 m,fh],by simp[aC.join,pG.2 m,P.2 m,er],FX gA⟩
   |obj m=>
    simp only[fresh,lF,not_or,true_and]at U;obtain⟨fh,er,gA⟩:=h.new (.obj m) ⟨trivial,U.1⟩;have a8:¬(ab (.obj m) c.b).isSome:=fun f=>U.2 (mJ (.inl f));have bK:¬(ab (.obj m) c.e).isSome:=fun f=>U.2 (mJ (.inr f));have cz:¬(ab (.obj m) s.b).isSome:=fun f=>by obtain⟨cs,q⟩:=dt.1 (S _ f);obtain⟨K,us,el,g1,_⟩:=h.good.box _ cs q;rw[fh]at g1;cases g1
    have c5:¬(ab (.obj m) s.e).isSome:=fun f=>by obtain⟨cs,q⟩:=dt.1 (V _ f);obtain⟨v',us,g1,_⟩:=h.good.own _ cs q;rw[er]at g1;cases g1
    exact⟨by simp[aC.join,a8,cz,fh],by simp[aC.join,bK,c5,er],FX gA⟩
 exact lp.put aL (q0 dT aq)
inductive c6 where
 |s (i:c9)
 |call (d:aT Nat) (f:cq) (xs:List cq)
 |next (d:Nat) (x:cq)
structure b9 where
 g:aT (Nat×Bool)
 i:c6
def c9.dst:c9->aT Nat
 | .v d _| .box d _ _| .alloc d _ _| .bsl d _ _ _| .app d _ _ _ _| .bslm d _ _ _ _| .appm d _ _ _ _ _| .mkmap d _| .range d _ _| .mks d _ _ _ _ _=>some d
 | .store _ _ _| .mput _ _ _ _| .storeE _ _ _=>none
def c6.dst:c6->aT Nat
 | .s i=>i.dst
 | .call d _ _=>d
 | .next d _=>some d
def CallDo(P:bp)(n:Nat)(args:List aa)(st:aN)(d:aT Nat)(K:aN->Prop):Prop:=
 (∃s Q,ko (a7 s) s.b st.b/\lB (a7 s) s.e st.e/\e7 s/\aV (a7 s) args/\cf P n args s Q/\
  ∀r a,Q r a->((∀m,(ab (.obj m) a.b).isSome->(ab (.obj m) s.b).isSome\/ .obj m∉st.o)/\(∀m,(ab (.obj m) a.e).isSome->(ab (.obj m) s.e).isSome\/ .obj m∉st.o))/\K (after st s a d r))\/
 (∃s Q,ko (a7 s) s.b st.b/\lB (a7 s) s.e st.e/\e7 s/\aV (a7 s) args/\ .loc st.n∉st.o/\na P n st.n args s Q/\
  ∀r a,Q r a->((∀m,(ab (.obj m) a.b).isSome->(ab (.obj m) s.b).isSome\/ .obj m∉st.o)/\(∀m,(ab (.obj m) a.e).isSome->(ab (.obj m) s.e).isSome\/ .obj m∉st.o))/\K {after st s a d r with n:=st.n+1})
def Hj(st:aN)(d:Nat)(ff mk:ar)(since:Nat)(seen:List Nat)(last clock:Nat)(borns:List Nat)(kvs:List aa)(K:aN->Prop):Prop:=
 (since=clock/\last=clock)/\((∀b∈borns,b∈seen)->K {st with t:=put d (.tuple [.bool false]) st.t})/\
 (∀b k v,kl b borns kvs=some (.tuple [k,v])->b∉seen->K {st with t:=put d (.tuple [.bool true,k,v]) st.t,b:=bW ff [.hdi since (seen++[b]) last,.gmap mk] st.b})
def qm(st:aN)(d:Nat)(v:aa)(K:aN->Prop):Prop:=
 match v with
 | .ptr ff 0=>match ab ff st.b with
  |some [.hdi since seen last,.gmap mk]=>match ab mk st.b with
   |some (.hdm clock borns::kvs)=>Hj st d ff mk since seen last clock borns kvs K
   |_=>c1
  |_=>c1
 |_=>c1
def od(P:bp)(st:aN)(K:aN->Prop):c6->Prop
 | .next d x=>qm st d (bn st.t x) K
 | .s i=>match iF st i with
  |some (c,st')=>c/\K st'
  |none=>c1
 | .call d f xs=>match bn st.t f with
  | .func n cx=>CallDo P n (bt (xs.map (bn st.t)++cx)) st d K
  |_=>c1
def fA(P:bp):List b9->aN->(aN->Prop)->Prop
 |[],st,K=>K st
 |⟨none,i⟩::r,st,K=>od P st (fun st'=>fA P r st' K) i
 |⟨some (s,want),i⟩::r,st,K=>match get s st.t with
  | .bool b=>(b=want->od P {st with t:=put s (.bool want) st.t} (fun st'=>fA P r st' K) i)/\(b= !want->fA P r {st with t:=dH i.dst (.tuple []) (put s (.bool !want) st.t)} K)
  | .tuple []=>fA P r {st with t:=dH i.dst (.tuple []) st.t} K
  |_=>c1
def oV(N:Nat)(aE:List (Nat×cQ))(i:c6)(o:Oper):Bool:=
 match i with
 | .s i=>uP N aE i o
 | .next d x=>match o.op with
  | .next it false=>o.dst==some d&&decide (d<N)&&c4 x it
  |_=>false
 | .call d f xs=>match o.op with
  | .call ⟨.value a,args,_⟩=>o.dst==d&&gl N d&&c4 f a&&qS xs args.toList
  |_=>false
def tw(N:Nat)(aE:List (Nat×cQ))(ops:List Oper)(g:b9)(o:Oper):Bool:=
 (match g.g,o.guard with
  |none,none=>true
  |some (s,b),some (j,dR)=>b==dR&&((ops[j]?).bind (·.dst))==some s&&decide (s<N)&&o.dst==g.i.dst&&gl N g.i.dst
  |_,_=>false)&&oV N aE g.i o
def hb(N:Nat)(aE:List (Nat×cQ))(ops:List Oper):List b9->List Oper->Bool
 |[],[]=>true
 |g::gs,o::os=>tw N aE ops g o&&hb N aE ops gs os
 |_,_=>false
def Ix{w:World}{ν:aC}:∀{b cZ:List aa} {aJ us:List Value},bT w ν b aJ->bT w ν cZ us->bT w ν (b++cZ) (aJ++us)
 |[],cZ,aJ,us,h,a=>by simp only[bT]at h;subst h;simpa using a
 |p::b,cZ,aJ,us,h,a=>by simp only[bT]at h;obtain⟨u,c,rfl,I,J⟩:=h;simp only[List.cons_append,bT];exact⟨u,_,rfl,I,Ix J a⟩
def qa.mono{P:bp}{f:FuncId}{aJ:Array Value}{w:World}{R a:Ending->World->Prop}(h:qa P f aJ w R)(cR:∀e w',R e w'->a e w'):qa P f aJ w a:=by
 rcases h with⟨I,J⟩|⟨v,w',I,J⟩
 ·exact .inl ⟨I,J.mono cR⟩
 ·exact .inr ⟨v,w',I,cR _ _ J⟩
def D4{P:bp}{C:dk}{st:aN}{a:Act}{w:World}{ν:aC}(g:bO C st a w ν){o:Oper}{X:Operand}{args:Array Operand}{sO:Array ey}(z:o.op= .call ⟨.value X,args,sO⟩){d:aT Nat}(aL:o.dst=d)(S:gl C.N d=true)
  {n:Nat} {cx:List aa} (aH:aw w ν (.func n cx) (a.eval X)) {A:List aa} (qw:bT w ν A (args.toList.map a.eval)) {K:aN->Prop}
  (aA:∃(s:b1) (y:aa->b1->Prop) (κ:aT Nat) (n':Nat) (o':b1->List ar),ko (a7 s) s.b st.b/\lB (a7 s) s.e st.e/\e7 s/\aV (a7 s) (bt (A++cx))/\(∀(w:World) (ν:aC) (aJ:Array Value),Good (dE ν s) w ν s.b s.e->kI ν s->bT w ν (bt (A++cx)) aJ.toList->
   qa P n aJ w fun e w'=> ∃v r c aI,e= .returned v/\y r c/\aw w' aI r v/\Good (fun bl=>dE ν s bl\/w.heap.size<=bl) w' aI c.b c.e/\rE κ aI c/\e7 c/\kA ⟨w,ν,dE ν s,0,b2 s⟩ w' aI)/\
   (∀m,κ=some m->fresh st.n st.o (.loc m))/\(∀k r c,y r c->fresh n' (o' c) k->fresh st.n (st.o++b2 c) k/\∀m,κ=some m->k≠ .loc m)/\
   ∀r c,y r c->((∀m,(ab (.obj m) c.b).isSome->(ab (.obj m) s.b).isSome\/ .obj m∉st.o)/\(∀m,(ab (.obj m) c.e).isSome->(ab (.obj m) s.e).isSome\/ .obj m∉st.o))/\K {after st s c d r with n:=n',o:=o' c})
  {V:Act->World->Prop} {Q:Exit->Act->World->Prop} (Z:∀st' bG w' aI,K st'->bO C st' bG w' aI->V bG w'):o.wp P a w V Q:=by
 obtain⟨s,y,κ,n',o',q,t,Y,hJ,p,Ei,Ea,W⟩:=aA;simp only[aw]at aH;obtain⟨us,aW,hu⟩:=aH;have iU:bT w (ν.cut (a7 s)) (bt (A++cx)) ((args.map a.eval)++us).toList:=by refine qZ (jC.cut _ w ν) _ _ hJ (xT _ _ ?_);simpa using Ix qw hu
 have OE:Good (dE (ν.cut (a7 s)) s) w (ν.cut (a7 s)) s.b s.e:=g.good.cut q t (fun bl _ h=>h);have hex:kI (ν.cut (a7 s)) s:=by
  intro k;refine⟨?_,?_,?_⟩;rotate_left 2
  ·rintro j b ⟨f,af⟩;obtain⟨t1,t2⟩:=g.fr.trn k j b af;rcases f with f|f<;>obtain⟨x,l⟩:=dt.1 f
   ·obtain⟨bl,N,el,i,_⟩:=g.good.box k x (q k x l).1;rw[t1]at i;cases i
   ·obtain⟨v',N,i,_⟩:=g.good.own k x (t k x l).1;rw[t2]at i;cases i
  ·intro M;by_cases f:a7 s k
   ·rw[aC.cut_bx f];rcases f with f|f
    ·rw[M]at f;cases f
    ·obtain⟨x,l⟩:=dt.1 f;obtain⟨v',N,i,_⟩:=g.good.own k x (t k x l).1;rcases g.good.one k with I|I
     ·exact I
     ·rw[I]at i;cases i
   ·exact(aC.cut_no f).1
  ·intro M;by_cases f:a7 s k
   ·rw[aC.cut_ow f];rcases f with f|f
    ·obtain⟨x,l⟩:=dt.1 f;obtain⟨bl,N,el,i,_⟩:=g.good.box k x (q k x l).1;rcases g.good.one k with I|I
     ·rw[I]at i;cases i
     ·exact I
    ·rw[M]at f;cases f
   ·exact(aC.cut_no f).2.1
 rcases p w (ν.cut (a7 s)) ((args.map a.eval)++us) OE hex iU with⟨⟨fn,g1,g2,g3⟩,p⟩|⟨v,w',p,O⟩
 ·obtain⟨code,Ol⟩:=dt.1 g2;have E:(execOp a.eval o).run P w= .ok (.enter n ((args.map a.eval)++us)) w:=by obtain⟨dst,op,ty,pos,CS,Fa⟩:=o;simp only at z;subst z;simp only[execOp,resolve,aW,Deferred.ofValue,dQ,eP,dV,invoke,callFunc,run_program,g1,g3,Ol];simp
  unfold Oper.wp;rw[E];simp only[Oper.upon];refine p.mono fun e w' O=>?_;obtain⟨v,r,c,aI,rfl,u,R,L,G,J,H⟩:=O;obtain⟨⟨B,F⟩,U⟩:=W r c u;rw[aL];exact Z _ _ _ _ U (g.callK q t Y L G (fun m hm=>g.new _ (Ei m hm)) (n':=n') (o':=o' c) (fun k U=>Ea k r c u U) J H B F d S R)
 ·have E:(execOp a.eval o).run P w= .ok (.value v) w':=by obtain⟨dst,op,ty,pos,CS,Fa⟩:=o;simp only at z;subst z;simp only[execOp,resolve,aW,Deferred.ofValue,dQ,eP,dV,invoke];simpa using p
  obtain⟨v2,r,c,aI,PF,u,R,L,G,J,H⟩:=O;cases PF;obtain⟨⟨B,F⟩,U⟩:=W r c u;refine iJ E ?_;rw[aL];exact Z _ _ _ _ U (g.callK q t Y L G (fun m hm=>g.new _ (Ei m hm)) (n':=n') (o':=o' c) (fun k U=>Ea k r c u U) J H B F d S R)
def D3{P:bp}{C:dk}{st:aN}{a:Act}{w:World}{ν:aC}(F:bO C st a w ν){o:Oper}{t:Operand}{args:Array Operand}{x:Array ey}(A:o.op= .call ⟨.value t,args,x⟩){d:aT Nat}(L:o.dst=d)(y:gl C.N d=true)
  {n:Nat} {cx:List aa} (M:aw w ν (.func n cx) (a.eval t)) {u:List aa} (z:bT w ν u (args.toList.map a.eval)) {K:aN->Prop} (aA:CallDo P n (bt (u++cx)) st d K)
  {q:Act->World->Prop} {Q:Exit->Act->World->Prop} (E:∀st' bG w' aI,K st'->bO C st' bG w' aI->q bG w'):o.wp P a w q Q:=by
 refine D4 F A L y M z (K:=K) ?_ E;rcases aA with⟨s,c,l,p,j,i,g,f⟩|⟨s,c,l,p,j,i,B,g,f⟩
 ·refine⟨s,c,none,st.n,fun b=>st.o++b2 b,l,p,j,i,fun w ν aJ I J G=>(g w ν aJ I J G).mono fun e w' H=>?_,fun m hm=>(by cases hm),fun k _ b _ U=>⟨U,fun m hm=>by cases hm⟩,f⟩;obtain⟨v,r,b,aI,g1,g2,g3,g4,g5,g6⟩:=H;exact⟨v,r,b,aI,g1,g2,g3,g4,g5.k,g6⟩
 ·refine⟨s,c,some st.n,st.n+1,fun b=>st.o++b2 b,l,p,j,i,g,fun m hm=>(by cases hm;exact⟨di _,B⟩),fun k _ b _ U=>⟨zr (Nat.le_succ _) (fun _ h=>h) U,fun m hm=>?_⟩,f⟩;cases hm;rintro rfl;have:=U.1;simp only at this;omega
def bO.drawn{C:dk}{st:aN}{a:Act}{w:World}{ν:aC}(b:bO C st a w ν)(n:Nat):bO C st a {w with drawn:=n} ν:=by
 have c:ij w ν {w with drawn:=n} ν:=⟨fun _ _ h=>⟨h,rfl⟩,fun _ _ _ h=>h,fun _ n u _ h=>⟨n,u,h,.inl ⟨rfl,rfl⟩⟩,fun _ _ _=>rfl,fun _ _ _ _ h=>h⟩;refine b.over c rfl ⟨b.good.alt,fun k cs U=>?_,b.good.inj,fun g o aM=>?_,b.good.oinj,b.good.obx,b.good.one,b.good.otr⟩ ⟨b.fr.os,b.fr.tape,b.fr.output,b.fr.size,b.fr.block,b.fr.keep,b.fr.fresh,b.fr.obj,b.fr.obn,b.fr.row,b.fr.obr,b.fr.trd,b.fr.trb,b.fr.trn,b.fr.sh⟩ b.new
 ·obtain⟨bl,us,el,I,J,d,e,f⟩:=b.good.box k cs U;exact⟨bl,us,el,I,J,d,e,lz c f⟩
 ·obtain⟨v,us,I,J,d,e⟩:=b.good.own g o aM;exact⟨v,us,I,J,d,mQ c (fun _ _ _ h=>h) e⟩
def Nh{α:Type}{l:List α}{p:α->Bool}(h:∀x∈l,p x=false):l.filter p=[]:=by rw[List.filter_eq_nil_iff];intro x a;simp[h x a]
def Ng{α:Type}{l:List α}{p:α->Bool}(h:∀x∈l,p x=true):l.filter p=l:=List.filter_eq_self.2 h
def xm(r m since clock:Nat)(seen:Array Nat)(D5:Array (aT MapEntry)):Sem Value:=do
 match D5[<-choose (.mapNext D5.size)]? with
 |some (some e)=>
  setObj r (.mapIter (some m) since (seen.push e.born) clock)
  pure (.tuple #[.bool true,e.key,e.val])
 |some none=>pure (.tuple #[.bool false])
 |none=>stuck "Next: no such candidate"
def IN{P:bp}{w:World}(r m since clock:Nat)(seen:Array Nat)(l:List (aT MapEntry))(ao:l≠[]):∃n x,x∈l/\(xm r m since clock seen l.toArray).run P w=
  (match x with|some e=>(do setObj r (.mapIter (some m) since (seen.push e.born) clock);pure (.tuple #[.bool true,e.key,e.val]):Sem Value)|none=>pure (.tuple #[.bool false])).run P {w with drawn:=n}:=by
 have eM:0<l.length:=List.length_pos_iff.2 ao;unfold xm;have key:∀i,i<l.length->∀w',((do match(l.toArray[i]?:aT (aT MapEntry))with
   |some (some e)=>setObj r (.mapIter (some m) since (seen.push e.born) clock);pure (.tuple #[.bool true,e.key,e.val])
   |some none=>pure (.tuple #[.bool false])
   |none=>stuck "Next: no such candidate" :Sem Value)).run P w'=((match l[i]! with|some e=>(do setObj r (.mapIter (some m) since (seen.push e.born) clock);pure (.tuple #[.bool true,e.key,e.val]):Sem Value)|none=>pure (.tuple #[.bool false]))).run P w':=by
  intro i az w';have I:l.toArray[i]? =some l[i]!:=by simp[az]
  rw[I];cases l[i]!<;>rfl
 by_cases aH:(Question.mapNext l.length).forced=true
 ·refine⟨w.drawn,l[0]!,by simp[eM],?_⟩;rw[<-key 0 eM];have aA:(choose (.mapNext l.length):Sem Nat).run P w= .ok 0 w:=by simp[aH]
  simp only[List.size_toArray,dQ,aA,dV]
 ·refine⟨w.drawn+1,l[(w.tape w.drawn (.mapNext l.length))%l.length]!,by simp[Nat.mod_lt _ eM],?_⟩;rw[<-key _ (Nat.mod_lt _ eM)];have aA:(choose (.mapNext l.length):Sem Nat).run P w= .ok ((w.tape w.drawn (.mapNext l.length))%l.length) {w with drawn:=w.drawn+1}:=by simp[aH,Question.cut]
  simp only[List.size_toArray,dQ,aA,dV]
def Ss{P:bp}{w:World}{bl a:Nat}{seen:List Nat}{es:List MapEntry}{clock:Nat}{ty:ey}(I:w.heap[bl]? =some (.mapIter (some a) clock seen.toArray clock))(J:w.heap[a]? =some (.map es.toArray clock))(f:∀e∈es,e.born<clock):
  ∃n,((∀e∈es,e.born∈seen)/\(Instr.next (.pointer (some ⟨bl,0,none⟩)) false ty).run P w= .ok (.tuple #[.bool false]) {w with drawn:=n})\/
   ∃e∈es,e.born∉seen/\(Instr.next (.pointer (some ⟨bl,0,none⟩)) false ty).run P w= .ok (.tuple #[.bool true,e.key,e.val]) {w with drawn:=n,heap:=w.heap.setIfInBounds bl (.mapIter (some a) clock (seen++[e.born]).toArray clock)}:=by
 have k:(!seen.toArray.isEmpty&& !es.toArray.isEmpty&&es.toArray.all (fun e=>decide (e.born≥clock)))=false:=by
  cases es with
  |nil=>simp
  |cons e r=>have:=f e Ψ;simp;intro _ h;omega
 generalize d:(es.filter fun e=> !seen.contains e.born)=left;have j:(es.toArray.filter fun e=> !seen.toArray.contains e.born)=left.toArray:=by rw[<-d];simp
 have b:∀e∈left,e∈es/\e.born∉seen:=fun e he=>by rw[<-d]at he;have:=List.mem_filter.1 he;exact⟨this.1,by simpa using this.2⟩
 have hold:(left.toArray.filter fun e=>decide (e.born<clock))=left.toArray:=by rw[List.filter_toArray,Ng];intro e he;have:=f e (b e he).1;simp[this]
 have g:(left.toArray.filter fun e=>decide (e.born≥clock))= #[]:=by rw[List.filter_toArray,Nh];intro e he;have:=f e (b e he).1;simp;omega
 have i:(Instr.next (.pointer (some ⟨bl,0,none⟩)) false ty).run P w=(xm bl a clock clock seen.toArray ((if left.toArray.isEmpty then #[none]else #[])++(left.toArray++ #[]).map some)).run P w:=by unfold Instr.next xm;simp only[dQ,p1 I,p1 J,dV,k,j,hold,g,hX,if_false];rfl
 rw[i];by_cases c:left=[]
 ·subst c;obtain⟨n,x,g1,g2⟩:=IN (P:=P) (w:=w) bl a clock clock seen.toArray [none] Ψ;refine⟨n,.inl ⟨fun e he=>?_,?_⟩⟩
  ·have:=List.filter_eq_nil_iff.1 d e he;simpa using this
  ·simp only[List.mem_singleton]at g1;subst g1;have aA:((if(([]:List MapEntry).toArray).isEmpty then #[none]else #[])++(([]:List MapEntry).toArray++ #[]).map some)=[none].toArray:=Ψ
   rw[aA,g2];rfl
 ·have aA:((if left.toArray.isEmpty then #[none]else #[])++(left.toArray++ #[]).map some)=(left.map some).toArray:=by simp[c]
  obtain⟨n,x,g1,g2⟩:=IN (P:=P) (w:=w) bl a clock clock seen.toArray (left.map some) (by simpa using c);simp only[k9]at g1;obtain⟨e,he,rfl⟩:=g1;refine⟨n,.inr ⟨e,(b e he).1,(b e he).2,?_⟩⟩;rw[aA,g2];simp only[dQ];rw[BY (w:={w with drawn:=n}) (o:= .mapIter (some a) clock seen.toArray clock) I];simp
def za:∀{borns:List Nat} {us:List Value} {e:MapEntry},e∈eg borns us->e.born∈borns
 |[],us,e,h=>by simp[eg]at h
 |b::a,[],e,h=>by simp[eg]at h
 |b::a,[_],e,h=>by simp[eg]at h
 |b::a,k::v::us,e,h=>by
  simp only[eg,gw]at h;rcases h with rfl|h
  ·simp
  ·exact List.mem_cons_of_mem _ (za h)
def Ez:∀{borns:List Nat} {kvs:List aa} {us:List Value},kvs.length=2*borns.length->us.length=kvs.length->∀{b:Nat},b∈borns->∃e∈eg borns us,e.born=b
 |[],_,_,_,_,b,a=>by simp at a
 |dR::c,kvs,[],I,J,b,a=>by rw[I]at J;simp at J
 |dR::c,kvs,[_],I,J,b,a=>by rw[I]at J;simp at J;omega
 |dR::c,kvs,k::v::us,I,J,b,a=>by
  rcases gw.1 a with rfl|a
  ·exact⟨⟨k,v,b⟩,by simp[eg],rfl⟩
  ·obtain⟨e,g1,g2⟩:=Ez (kvs:=kvs.drop 2) (us:=us) (borns:=c) (by simp at I⊢;omega) (by simp at I J⊢;omega) a;exact⟨e,by simp[eg,g1],g2⟩
def Hb{w:World}{ν:aC}:∀{borns:List Nat} {kvs:List aa} {us:List Value},kvs.length=2*borns.length->borns.Pairwise (· < ·)->bT w ν kvs us->∀{e:MapEntry},e∈eg borns us->∃k v,kl e.born borns kvs=some (.tuple [k,v])/\aw w ν k e.key/\aw w ν v e.val
 |[],_,_,_,_,_,e,h=>by simp[eg]at h
 |b::a,[],us,I,_,_,e,_=>by simp at I
 |b::a,[_],us,I,_,_,e,_=>by simp at I;omega
 |b::a,k::v::kvs,us,I,J,c,e,h=>by
  simp only[bT]at c;obtain⟨l,n,rfl,i,m,j,rfl,f,d⟩:=c;simp only[eg,gw]at h;rw[List.pairwise_cons]at J;rcases h with rfl|h
  ·exact⟨k,v,by simp[kl],i,f⟩
  ·obtain⟨aQ,v',g1,g2,g3⟩:=Hb (by simp at I;omega) J.2 d h;have g:b≠e.born:=Nat.ne_of_lt (J.1 _ (za h));exact⟨aQ,v',by simp[kl,g,g1],g2,g3⟩
def QV{P:bp}{C:dk}{st:aN}{a:Act}{w:World}{ν:aC}(c:bO C st a w ν){o:Oper}{it:Operand}(r:o.op= .next it false){d:Nat}(F:o.dst=some d)(i:gl C.N (some d)=true){v:aa}(E:aw w ν v (a.eval it)){K:aN->Prop}(he:qm st d v K)
  {m:Act->World->Prop} {Q:Exit->Act->World->Prop} (z:∀st' bG w' aI,K st'->bO C st' bG w' aI->m bG w'):o.wp P a w m Q:=by
 unfold qm at he;split at he
 ·rename_i ff;split at he
  ·rename_i since seen last mk l;split at he
   ·rename_i clock borns kvs H;obtain⟨⟨rfl,rfl⟩,he1,he2⟩:=he;simp only[aw]at E;obtain⟨bl,B,M⟩:=E;obtain⟨S,us,el,G,V,U,g,A⟩:=c.good.box ff _ l;rw[B]at G;cases G;obtain⟨q,ms,X,m1,m2,m3,m4,m5⟩:=c.good.box mk _ H;simp only[gV,bT]at A;obtain⟨u,W,hu,⟨Y,y,rfl⟩,rfl⟩:=A;rw[m1]at y;cases y;simp only[hC,hu]at g;simp only[hC]at m4;simp only[gV]at m5;obtain⟨n,L⟩:=Ss (P:=P) (ty:=o.type) g m4 (fun e he=>m5.2.lt _ (za he));have s:∀v' w',(Instr.next (.pointer (some ⟨bl,0,none⟩)) false o.type).run P w= .ok v' w'->(execOp a.eval o).run P w= .ok (.value v') w':=by intro v' w' x;obtain⟨dst,op,ty,pos,CS,Z⟩:=o;simp only at r x;subst r;simp only[execOp,M];exact u2 x
    rcases L with⟨I,J⟩|⟨e,I,J,O⟩
    ·refine iJ (s _ _ J) ?_;rw[F];refine z _ _ _ _ (he1 fun b R=>?_) ((c.drawn n).put i (p:= .tuple [.bool false]) (by simp[aw,bT]));obtain⟨e,f1,f2⟩:=Ez m5.2.len (BT m5.1) R;rw[<-f2];exact I e f1
    ·obtain⟨k,v,f1,f2,f3⟩:=Hb m5.2.len m5.2.inc m5.1 I;refine iJ (s _ _ O) ?_;rw[F];have f:=((c.drawn n).setBox (w':={w with drawn:=n,heap:=w.heap.setIfInBounds bl (.mapIter (some q) last (seen++[e.born]).toArray last)}) l B (cs':=[.hdi last (seen++[e.born]) last,.gmap mk]) (us:=us) (el:=el) rfl rfl rfl
      (fun j N=>Array.getElem?_setIfInBounds_ne (Ne.symm N)) Ψ (by simp[hC,hu,(Array.getElem?_eq_some_iff.1 g).1]) (by simp only[gV,bT];exact⟨_,_,hu,by simp only[aw];exact⟨q,m1,rfl⟩,rfl⟩))
     refine z _ _ _ _ (he2 e.born k v f1 J) (f.1.put i (p:= .tuple [.bool true,k,v]) ?_);simp only[aw];refine⟨_,rfl,?_⟩;simp only[bT];have t:ij w ν {w with drawn:=n} ν:=⟨fun _ _ h=>⟨h,rfl⟩,fun _ _ _ h=>h,fun _ n u _ h=>⟨n,u,h,.inl ⟨rfl,rfl⟩⟩,fun _ _ _=>rfl,fun _ _ _ _ h=>h⟩;exact⟨_,_,rfl,by simp[aw],_,_,rfl,q0 f.2 (q0 t f2),_,_,rfl,q0 f.2 (q0 t f3),rfl⟩
   ·exact he.elim
  ·exact he.elim
 ·exact he.elim
def EB{P:bp}{aE:List (Nat×cQ)}(l:e1 P aE=true){C:dk}{st:aN}{a:Act}{w:World}{ν:aC}(b:bO C st a w ν){i:c6}{o:Oper}(ag:oV C.N aE i o=true){K:aN->Prop}(he:od P st K i)
  {k:Act->World->Prop} {Q:Exit->Act->World->Prop} (g:∀st' bG w' aI,K st'->bO C st' bG w' aI->k bG w'):o.wp P a w k Q:=by
 cases i with
 |s i=>
  simp only[od]at he;split at he
  ·rename_i c st' m;exact Su l b (by simpa only[oV]using ag) m he.1 fun bG w' aI h=>g _ _ _ _ he.2 h
  ·exact he.elim
 |next d x=>
  simp only[od]at he;simp only[oV]at ag;split at ag
  ·rename_i it e;simp only[bN,c2,e3]at ag;obtain⟨⟨I,J⟩,j⟩:=ag;exact QV b e I (by simpa[gl]using J) (db b j) he g
  ·cases ag
 |call d f xs=>
  simp only[od]at he;simp only[oV]at ag;split at ag
  ·rename_i t args r e;simp only[bN,c2]at ag;obtain⟨⟨⟨I,J⟩,j⟩,q⟩:=ag;split at he
   ·rename_i n cx p;have:=db b j;rw[p]at this;exact D3 b e I J this (uI b q) he g
   ·exact he.elim
  ·cases ag
def BL{C:dk}{st:aN}{a:Act}{w:World}{ν:aC}(h:bO C st a w ν){s:Nat}{b:Bool}(c:get s st.t= .bool b):bO C {st with t:=put s (.bool b) st.t} a w ν:=by
 refine⟨h.good,h.fr,h.defers,h.size,fun i=>?_,h.new⟩;have:=h.slot i;simp only[kJ];split
 ·rename_i e;subst e;rw[<-c];exact this
 ·exact this
def JU{C:dk}{st:aN}{a:Act}{w:World}{ν:aC}(h:bO C st a w ν){ops:Array Oper}{j s:Nat}(f:(ops.toList[j]?).bind (·.dst)=some s)(k:s<C.N):
  (∀b,get s st.t= .bool b->yielded ops a.tmps j=some b)/\(get s st.t= .tuple []->yielded ops a.tmps j=none):=by
 have e:s<a.tmps.size:=by rw[h.size];exact k
 have c:=h.slot s;have i:a.tmps.getD s undef=a.tmps[s]:=by simp[Array.getD,e]
 rw[i]at c;have g:yielded ops a.tmps j=match a.tmps[s]with| .bool b=>some b|_=>none:=by unfold yielded;rw[nV]at f;rw[f];simp only[Option.bind_some,Array.getElem?_eq_getElem e];cases a.tmps[s]<;>rfl
 constructor
 ·intro b d;rw[d]at c;simp only[aw]at c;rw[g,c]
 ·intro d;rw[d]at c;simp only[aw,bT]at c;obtain⟨us,l,m⟩:=c;rw[g,l]
def EE{P:bp}{aE:List (Nat×cQ)}(m:e1 P aE=true){C:dk}{ops:Array Oper}{K:aN->Prop}{Q:Exit->Act->World->Prop}(q:∀st' bG w' aI,K st'->bO C st' bG w' aI->Q .normal bG w'):
  ∀(gs:List b9) (os:List Oper) (k:Nat),(∀j,os[j]? =ops[k+j]?)->hb C.N aE ops.toList gs os=true->∀(st:aN) (a:Act) (w:World) (ν:aC),fA P gs st K->bO C st a w ν->wpOps P ops Q (List.range' k gs.length) a w
 |[],[],k,_,_,st,a,w,ν,he,d=>by simp only[List.length_nil,List.range'_zero,wpOps];exact q _ _ _ _ he d
 |[],_::_,_,_,U,_,_,_,_,_,_=>by simp[hb]at U
 |_::_,[],_,_,U,_,_,_,_,_,_=>by simp[hb]at U
 |g::gs,o::os,k,n,U,st,a,w,ν,he,d=>by
  simp only[hb,bN]at U;have F:ops[k]? =some o:=by simpa using(n 0).symm
  have H:∀j,os[j]? =ops[k+1+j]?:=fun j=>by have:=n (j+1);simpa[Nat.add_assoc,Nat.add_comm 1 j]using this
  simp only[jX,List.range'_succ,wpOps,F];have i:∀st' bG w' aI,fA P gs st' K->bO C st' bG w' aI->wpOps P ops Q (List.range' (k+1) gs.length) bG w':=fun st' bG w' aI I J=>EE m q gs os (k+1) H U.2 st' bG w' aI I J;obtain⟨y,L⟩:=g;have aM:=U.1;simp only[tw,bN]at aM;obtain⟨h,p⟩:=aM;cases y with
  |none=>
   cases c:o.guard with
   |some x=>simp[c]at h
   |none=>
    have hw:kr o (yielded ops a.tmps)=true:=by simp[kr,c]
    rw[if_pos hw];simp only[fA]at he;exact .inl (EB m d p he i)
  |some z=>
   obtain⟨s,want⟩:=z;cases c:o.guard with
   |none=>simp[c]at h
   |some x=>
    obtain⟨j,dR⟩:=x;simp only[c,bN,c2,e3]at h;obtain⟨⟨⟨⟨rfl,J⟩,G⟩,u⟩,v⟩:=h;obtain⟨E,A⟩:=JU d J G;simp only[fA]at he;split at he
    ·rename_i b f;have l:=E b f;by_cases e:b=want
     ·subst e;have hw:kr o (yielded ops a.tmps)=true:=by simp[kr,c,l]
      rw[if_pos hw];exact .inl (EB m (BL d f) p (he.1 rfl) i)
     ·have hw:¬(kr o (yielded ops a.tmps)=true):=by simp[kr,c,l,e]
      rw[bH hw];have r:b= !want:=by cases b<;>cases want<;>simp at e⊢
      have B:bO C {st with t:=put s (.bool !want) st.t} a w ν:=BL d (by rw[f,r]);rw[u];exact i _ _ _ _ (he.2 r) (B.put v (by simp[aw,bT,undef]))
    ·rename_i f;have l:=A f;have hw:¬(kr o (yielded ops a.tmps)=true):=by simp[kr,c,l]
     rw[bH hw,u];exact i _ _ _ _ he (d.put v (by simp[aw,bT,undef]))
    ·exact he.elim
structure cj where
 t:Nat->aa
 b:ar->aT (List aa)
 e:ar->aT cw
 F:ar->Prop
structure hp where
 d:aT Nat
 p:aa
 bw:List (ar×List aa)
 ew:List (ar×cw)
 rm:aT ar
def fJ{α:Type}(l:List (ar×α))(f:ar->aT α):ar->aT α:=fun k=>match ab k l with|some x=>some x|none=>f k
def cj.do(A:cj)(x:hp):cj:={t:=fun i=>if x.d=some i then x.p else A.t i,b:=fJ x.bw A.b,e:=fJ x.ew A.e,F:=fun k=>A.F k/\x.rm≠some k}
structure hp.apart (x y:hp):Prop where
 d:∀i,x.d=some i->y.d≠some i
 b:∀k,(ab k x.bw).isSome->ab k y.bw=none
 e:∀k,(ab k x.ew).isSome->ab k y.ew=none
def cj.do_comm(A:cj){x y:hp}(h:x.apart y):(A.do x).do y=(A.do y).do x:=by
 simp only[cj.do,cj.mk.injEq];refine⟨?_,?_,?_,?_⟩
 ·funext i;by_cases I:x.d=some i
  ·have:=h.d i I;simp[I,this]
  ·simp[I]
 ·funext k;simp only[fJ];cases a:ab k x.bw with
  |none=>cases ab k y.bw<;>rfl
  |some u=>rw[h.b k (by simp[a])]
 ·funext k;simp only[fJ];cases a:ab k x.ew with
  |none=>cases ab k y.ew<;>rfl
  |some u=>rw[h.e k (by simp[a])]
 ·funext k;exact propext ⟨fun h=>⟨⟨h.1.1,h.2⟩,h.1.2⟩,fun h=>⟨⟨h.1.1,h.2⟩,h.1.2⟩⟩
def cy(t:Nat->aa):cq->aa
 | .t i=>t i
 | .c p=>p
def mG(b:ar->aT (List aa))(e:ar->aT cw)(agg:Bool)(sz:Nat):aa->aT (Prop×aa)
 | .rptr a k n i f=>q1 agg sz a n i f (e k)
 | .ptr k off=>
  match b k with
  |some cs=>if agg then some (et cs=true/\off+sz<=cs.length,.agg ((cs.drop off).take sz))else(cs[off]?).map fun p=>(et cs=true,p)
  |none=>none
 | .eptr p=>if agg then some (oK sz p,p)else some (dd p=true/\cells p=[p],p)
 |_=>none
def qh(t:Nat->aa):List aa->List (Nat×Nat×cq)->aT (Prop×List aa)
 |cs,[]=>some (True,cs)
 |cs,(off,sz,x)::r=>
  match qh t (jR cs off (cells (cy t x))) r with
  |some (c,cs')=>some ((dd (cy t x)=true/\(cells (cy t x)).length=sz/\off+sz<=cs.length)/\c,cs')
  |none=>none
def k6(t:Nat->aa)(b:ar->aT (List aa))(e:ar->aT cw):ee->aT (Prop×aa)
 | .mov x=>some (True,cy t x)
 | .pick c x y=>xD (cy t c) (cy t x) (cy t y)
 | .load agg sz x=>mG b e agg sz (cy t x)
 | .faddr off agg sz x=>ml off agg sz (cy t x)
 | .fld off agg sz x=>oh off agg sz (cy t x)
 | .iaddr sz x i=>r2 sz (cy t x) (cy t i)
 | .sidx x i=>x5 (cy t x) (cy t i)
 | .ssl x lo az=>x8 (cy t x) (lo.map (cy t)) (az.map (cy t))
 | .lsl sz x lo az=>xe sz (cy t x) (lo.map (cy t)) (az.map (cy t))
 | .bin op wr x y=>qg op wr (cy t x) (cy t y)
 | .notB x=>xp (cy t x)
 | .neg x=>xl (cy t x)
 | .conv k x=>vE k (cy t x)
 | .ext i x=>rF i (cy t x)
 | .len x=>sc (cy t x)
 | .slen x=>uS (cy t x)
 | .build zero parts=>(qh t zero parts).map fun(c,cs)=>(c,.agg cs)
 | .nck x=>sm (cy t x)
 | .min2 x y=>xj (cy t x) (cy t y)
 | .mkf n xs=>some (True,.func n (xs.map (cy t)))
 | .mget a zero ok x k=>oQ b a zero ok (cy t x) (cy t k)
 | .ment x=>nI b (cy t x)
 | .mlen x=>sk b (cy t x)
 | .beq neg d x y=>vo neg d (cy t x) (cy t y)
 | .max2 x y=>xh (cy t x) (cy t y)
 | .mkif n x=>some (True,.iface n (cy t x))
 | .loadB agg sz x=>mG b (fun _=>none) agg sz (cy t x)
 | .mgetB a zero ok x k=>oQ b a zero ok (cy t x) (cy t k)
 | .loadZ agg sz x=>tu agg sz (cy t x)
 | .b2s x=>vn (cy t x)
structure hY (st:aN) (A:cj):Prop where
 t:∀i,get i st.t=A.t i
 b:∀k,ab k st.b=A.b k
 e:∀k,ab k st.e=A.e k
def fR{st:aN}{A:cj}(h:hY st A)(x:cq):bn st.t x=cy A.t x:=by
 cases x
 ·exact h.t _
 ·rfl
def og{st:aN}{A:cj}(h:hY st A):bn st.t=cy A.t:=funext (fR h)
def Qj{st:aN}{A:cj}(h:hY st A)(agg:Bool)(sz:Nat)(p:aa):iZ st.b st.e agg sz p=mG A.b A.e agg sz p:=by
 cases p<;>simp only[iZ,mG]
 ·rw[h.b];try rfl
 ·rw[h.e]
def Qk{st:aN}{A:cj}(h:hY st A)(agg:Bool)(sz:Nat)(p:aa):iZ st.b [] agg sz p=mG A.b (fun _=>none) agg sz p:=by
 cases p<;>simp only[iZ,mG]
 ·rw[h.b];try rfl
 ·rfl
def Db{st:aN}{A:cj}(h:hY st A):∀(parts:List (Nat×Nat×cq)) (cs:List aa),n7 st.t cs parts=qh A.t cs parts
 |[],cs=>rfl
 |(off,sz,x)::r,cs=>by simp only[n7,qh,fR h,Db h r];try rfl
def Jr{st:aN}{A:cj}(h:hY st A)(i:ee):e2 st i=k6 A.t A.b A.e i:=by have a:(fun k=>ab k st.b)=A.b:=funext h.b;cases i<;>simp only[e2,k6,og h,Qj h,Qk h,Db h,a]
def e9:cq->List Nat
 | .t i=>[i]
 | .c _=>[]
def Bu:aT cq->List Nat
 |some x=>e9 x
 |none=>[]
def ee.looks:ee->List Nat
 | .mov x| .load _ _ x| .loadB _ _ x| .loadZ _ _ x| .faddr _ _ _ x| .fld _ _ _ x| .notB x| .neg x| .conv _ x| .ext _ x| .len x| .slen x| .nck x| .ment x| .mlen x| .mkif _ x| .b2s x=>e9 x
 | .pick c x y=>e9 c++e9 x++e9 y
 | .iaddr _ x i| .sidx x i=>e9 x++e9 i
 | .ssl x lo az| .lsl _ x lo az=>e9 x++Bu lo++Bu az
 | .bin _ _ x y| .min2 x y| .max2 x y| .beq _ _ x y=>e9 x++e9 y
 | .build _ a=>a.flatMap fun p=>e9 p.2.2
 | .mkf _ xs=>xs.flatMap e9
 | .mget _ _ _ x k| .mgetB _ _ _ x k=>e9 x++e9 k
def c9.looks:c9->List Nat
 | .v _ i=>i.looks
 | .box _ _ x=>e9 x
 | .alloc _ _ _=>[]
 | .store _ x y=>e9 x++e9 y
 | .storeE _ x y=>e9 x++e9 y
 | .bsl _ _ _ xs=>xs.flatMap e9
 | .app _ _ _ x y=>e9 x++e9 y
 | .bslm _ _ _ _ xs=>xs.flatMap e9
 | .mks _ _ _ _ _ x=>e9 x
 | .appm _ _ _ _ x y=>e9 x++e9 y
 | .mkmap _ _=>[]
 | .mput _ x k y=>e9 x++e9 k++e9 y
 | .range _ _ x=>e9 x
def c6.looks:c6->List Nat
 | .s i=>i.looks
 | .call _ f xs=>e9 f++xs.flatMap e9
 | .next _ x=>e9 x
def b9.looks(g:b9):List Nat:=(match g.g with|some (s,_)=>[s]|none=>[])++g.i.looks
def lK(l:List Nat)(t t':Nat->aa):Prop:= ∀i∈l,t i=t' i
def eF{t t':Nat->aa}{x:cq}(h:lK (e9 x) t t'):cy t x=cy t' x:=by
 cases x
 ·exact h _ (by simp[e9])
 ·rfl
def gX{l a:List Nat}{t t':Nat->aa}(h:lK (l++a) t t'):lK l t t'/\lK a t t':=⟨fun i az=>h i (by simp[az]),fun i az=>h i (by simp[az])⟩
def vM{t t':Nat->aa}{x:aT cq}(h:lK (Bu x) t t'):x.map (cy t)=x.map (cy t'):=by
 cases x
 ·rfl
 ·simp[eF h]
def Da{t t':Nat->aa}:∀{parts:List (Nat×Nat×cq)} {cs:List aa},lK (parts.flatMap fun p=>e9 p.2.2) t t'->qh t cs parts=qh t' cs parts
 |[],cs,_=>rfl
 |(off,sz,x)::r,cs,h=>by simp only[List.flatMap_cons]at h;obtain⟨I,J⟩:=gX h;simp only[qh,eF I,Da J]
def xg{t t':Nat->aa}:∀{xs:List cq},lK (xs.flatMap e9) t t'->xs.map (cy t)=xs.map (cy t')
 |[],_=>rfl
 |x::xs,h=>by simp only[List.flatMap_cons]at h;obtain⟨I,J⟩:=gX h;simp[eF I,xg J]
def ee.isLoad:ee->Bool
 | .load _ _ _=>true
 | .loadB _ _ _=>true
 | .mgetB _ _ _ _ _=>true
 | .mget _ _ _ _ _=>true
 | .ment _=>true
 | .mlen _=>true
 |_=>false
def Tb{t t':Nat->aa}{b dR:ar->aT (List aa)}{e f:ar->aT cw}{i:ee}(h:lK i.looks t t')(a:i.isLoad=false):k6 t b e i=k6 t' dR f i:=by
 cases i<;>simp only[ee.looks]at h<;>simp only[k6];case load agg sz x=>simp[ee.isLoad]at a
 case loadB agg sz x=>simp[ee.isLoad]at a
 case pick c x y=>obtain⟨I,d⟩:=gX h;obtain⟨I,J⟩:=gX I;rw[eF I,eF J,eF d]
 case iaddr=>obtain⟨I,J⟩:=gX h;rw[eF I,eF J]
 case sidx=>obtain⟨I,J⟩:=gX h;rw[eF I,eF J]
 case ssl=>obtain⟨I,d⟩:=gX h;obtain⟨I,J⟩:=gX I;rw[eF I,vM J,vM d]
 case lsl=>obtain⟨I,d⟩:=gX h;obtain⟨I,J⟩:=gX I;rw[eF I,vM J,vM d]
 case bin=>obtain⟨I,J⟩:=gX h;rw[eF I,eF J]
 case min2=>obtain⟨I,J⟩:=gX h;rw[eF I,eF J]
 case build=>rw[Da h]
 case mkf=>rw[xg h]
 case mget=>simp[ee.isLoad]at a
 case mgetB=>simp[ee.isLoad]at a
 case ment=>simp[ee.isLoad]at a
 case mlen=>simp[ee.isLoad]at a
 case max2=>obtain⟨I,J⟩:=gX h;rw[eF I,eF J]
 case beq=>obtain⟨I,J⟩:=gX h;rw[eF I,eF J]
 all_goals rw[eF h]
end
end Go.Pv
