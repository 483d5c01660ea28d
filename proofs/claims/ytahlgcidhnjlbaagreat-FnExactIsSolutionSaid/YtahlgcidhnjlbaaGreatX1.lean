/- Regions that draw their order, I: abstract states as functions, effects, and what an instruction does to them. -/
import Derived.WalkKit
import Derived.Orders
import Derived.KernelRfl
import Derived.IntWalk
import Derived.Laws.StructEq
import Derived.ChangeKeysEq
import Derived.MapKept
import Derived.ArgAppend
import Derived.Laws.OwnMore
set_option linter.all false
set_option maxHeartbeats 4000000
open Array renaming getElem?_toList→ti
open BitVec renaming ofInt→p2
open Bool renaming and_eq_true→cC,eq_iff_iff→p3,false_eq_true→gS
open ByteArray renaming ext→aml,size→arE
open Go renaming Program→cD,TypeId→fR
open Go.ByteArray renaming toList_eq→amm
open Go.IntWalk renaming i64_in→oF
open Go.Op renaming bytesLess→ho
open Go.Region renaming wanted→oG
open Go.Result renaming andThen_ok→fI
open Go.Sem renaming run_bind→fE,run_pure→gu
open Go.Value renaming cells→pe,ownBlock→nP
open Go.Value.pointer renaming injEq→arL
open Go.World.grownBy renaming refl→amp
open List renaming all_eq_true→gh,cons_append→bV,getElem?_eq_getElem→cf,getElem?_eq_none→p5,getElem?_eq_some_iff→fi,length_append→pf,length_cons→p6,length_drop→r7,map_cons→hf,mem_append→ky,mem_cons→fY,mem_cons_of_mem→pg,mem_filter→nl,mem_map→iP,pairwise_cons→mB,replicate→qP,take→lG,take_length→pk,take_of_length_le→hz
open List.cons renaming injEq→p4
open Nat renaming add_mul→pn,le_refl→eR,le_trans→j8
open Ne renaming symm→kN
open Option renaming bind_some→kO,isSome_iff_exists→fJ,isSome_none→l0,map_eq_some_iff→gJ,map_some→nQ
open Option.some renaming injEq→dG
open Prod.mk renaming injEq→jm
open _root_ renaming False→eK,Option→aY,UInt8→dz,beq_iff_eq→dO,congrArg→e2,decide_eq_true_eq→fk
namespace Go.Pv
open Go Go.RowKit
inductive aH where
 |loc (s:Nat)
 |obj (n:Nat)
 deriving DecidableEq,Inhabited
inductive AQ where
 |no
 |nil
 |own (k:aH)
 |tr (k:aH) (j:Nat)
 |lo (k:aH)
 deriving DecidableEq,Inhabited
inductive ah where
 |junk
 |int (k:IntKind) (n:Int)
 |bool (b:Bool)
 |str (s:List dz)
 |slice (sz:Nat) (tag:AQ) (xs:List ah)
 |agg (cs:List ah)
 |ptr (key:aH) (off:Nat)
 |eptr (x:ah)
 |iface (t:Nat) (x:ah)
 |nilp
 |tuple (bc:List ah)
 |func (f:Nat) (dj:List ah)
 |gmap (key:aH)
 |row (sz:Nat) (key:aH) (n:Nat)
 |rptr (sz:Nat) (key:aH) (n i f:Nat)
 |hdm (clock:Nat) (borns:List Nat)
 |hdi (since:Nat) (seen:List Nat) (last:Nat)
 |cst (v:Value)
 deriving Inhabited
structure bd where
 A:Nat→Nat→Prop
 bx:aH→aY Nat
 ow:aH→aY (Nat×Value)
 tr:aH→Nat→Nat→Prop
def lim:Nat:=68719476736
def lx(w:World)(A:Nat→Nat→Prop)(b:Nat):Nat→List Value→Prop
 |_,[]=>True
 |off,u::us=>(A b off∧w.cell? ⟨b,off,none⟩=some u)∧lx w A b (off+1) us
def shape(w:World)(b:Nat):aY (Nat×fR×(Nat×Nat)):=
 match w.heap[b]? with
 |some (.cells cur el fz)=>some (cur.size,el,fz)
 |_=>none
theorem wh{w w':World}{b:Nat}(h:w'.heap[b]? =w.heap[b]?):shape w' b=shape w b:=by unfold shape;rw[h]
mutual
def fU(t:Bool)(w:World)(A:Nat→Nat→Prop)(F:Nat→Prop):ah→Value→Prop
 | .int k n,v=>v= .int k n
 | .bool b,v=>v= .bool b
 | .str s,v=>v= .string ⟨s.toArray⟩∧s.length≤lim
 | .slice sz _ xs,v=> ∃a cap,v= .slice a xs.length cap∧xs.length≤cap∧(cap≤maxLen∧xs.length≤lim)∧
   (xs=[]∨ ∃b off us G,a=some ⟨b,off,none⟩∧F b∧(∀c,G c→F c∧(t=true→c≠b))∧lx w A b off us∧(t=true→off=0∧0<us.length∧∃el,shape w b=some (cap*sz,el,(0,0)))∧tK t w A G sz xs us)
 | .agg cs,v=> ∃us:Array Value,v= .agg us∧tL t w A F cs us.toList
 |_,_=>eK
def tL(t:Bool)(w:World)(A:Nat→Nat→Prop)(F:Nat→Prop):List ah→List Value→Prop
 |[],us=>us=[]
 |c::cs,us=> ∃u ck h0 ia,us=u::ck∧((∀b,h0 b→F b)∧(∀b,ia b→F b)∧(t=true→∀b,h0 b→¬ia b))∧(fU t w A h0 c u∧u.oneCell'=true)∧tL t w A ia cs ck
def tK(t:Bool)(w:World)(A:Nat→Nat→Prop)(F:Nat→Prop)(sz:Nat):List ah→List Value→Prop
 |[],us=>us=[]
 |x::xs,us=> ∃u ck h0 ia,us=u.cells.toList++ck∧((∀b,h0 b→F b)∧(∀b,ia b→F b)∧(t=true→∀b,h0 b→¬ia b))∧(fU t w A h0 x u∧u.cells.size=sz∧(∀c∈u.cells.toList,c.oneCell'=true))∧tK t w A ia sz xs ck
end
mutual
def a8(w:World)(ν:bd):ah→Value→Prop
 | .junk,_=>True
 | .int k n,v=>v= .int k n
 | .bool b,v=>v= .bool b
 | .str s,v=>v= .string ⟨s.toArray⟩∧s.length≤lim
 | .slice sz tag xs,v=>
   (∃a cap,v= .slice a xs.length cap∧xs.length≤cap∧(cap≤maxLen∧xs.length≤lim)∧(xs=[]∨ ∃b off us,a=some ⟨b,off,none⟩∧lx w ν.A b off us∧dw w ν sz xs us))∧
   (tag= .nil→v= .slice none 0 0)∧
   (∀g,tag= .own g→∃n u,ν.ow g=some (n,u)∧xs.length≤n∧(xs.length=n→v=u))∧
   (∀k j,tag= .tr k j→fU true w ν.A (ν.tr k j) (.slice sz tag xs) v)∧(∀k,tag= .lo k→fU false w ν.A (ν.tr k 0) (.slice sz tag xs) v)
 | .agg cs,v=> ∃us:Array Value,v= .agg us∧c5 w ν cs us.toList
 | .ptr key off,v=> ∃b,ν.bx key=some b∧v= .pointer (some ⟨b,off,none⟩)
 | .eptr x,v=> ∃b off u,v= .pointer (some ⟨b,off,none⟩)∧a8 w ν x u∧lx w ν.A b off u.cells.toList
 | .iface t x,v=> ∃u,v= .iface t u∧a8 w ν x u
 | .nilp,v=>v= .pointer none
 | .tuple bc,v=> ∃us:Array Value,v= .tuple us∧cP w ν bc us.toList
 | .func f dj,v=> ∃us:Array Value,v= .func (.func f) #[] us∧cP w ν dj us.toList
 | .gmap key,v=> ∃b,ν.bx key=some b∧v= .map (some b)
 | .row _ key n,v=>(∃b cap,v= .slice (some ⟨b,0,none⟩) n cap)∧n≤lim∧∃n' u,ν.ow key=some (n',u)∧n≤n'∧(n=n'→v=u)
 | .rptr sz key n i f,v=>(∃b o,v= .pointer (some ⟨b,o,none⟩))∧i<n∧∃n' u,ν.ow key=some (n',u)∧n≤n'∧(n=n'→∃b,u.ownBlock=some b∧v= .pointer (some ⟨b,i*sz+f,none⟩))
 | .hdm _ _,_=>eK
 | .hdi _ _ _,_=>eK
 | .cst c,v=>v=c
def c5(w:World)(ν:bd):List ah→List Value→Prop
 |[],us=>us=[]
 |c::cs,us=> ∃u ck,us=u::ck∧(a8 w ν c u∧u.oneCell'=true)∧c5 w ν cs ck
def cP(w:World)(ν:bd):List ah→List Value→Prop
 |[],us=>us=[]
 |c::cs,us=> ∃u ck,us=u::ck∧a8 w ν c u∧cP w ν cs ck
def dw(w:World)(ν:bd)(sz:Nat):List ah→List Value→Prop
 |[],us=>us=[]
 |x::xs,us=> ∃u ck,us=u.cells.toList++ck∧(a8 w ν x u∧u.cells.size=sz∧(∀c∈u.cells.toList,c.oneCell'=true))∧dw w ν sz xs ck
end
theorem Fo{w w':World}{A fZ:Nat→Nat→Prop}{b:Nat}(bg:∀b o,A b o→fZ b o∧w'.cell? ⟨b,o,none⟩=w.cell? ⟨b,o,none⟩):
  ∀(us:List Value) (off:Nat),lx w A b off us→lx w' fZ b off us
 |[],_,_=>trivial
 |_::us,off,h=>⟨⟨(bg _ _ h.1.1).1,(bg _ _ h.1.1).2.trans h.1.2⟩,Fo bg us (off+1) h.2⟩
mutual
theorem Er{t:Bool}{w w':World}{A fZ:Nat→Nat→Prop}(bg:∀b o,A b o→fZ b o∧w'.cell? ⟨b,o,none⟩=w.cell? ⟨b,o,none⟩)(ag:∀b o,A b o→shape w' b=shape w b):∀(p:ah) (F oI:Nat→Prop) (v:Value),(∀b,F b→oI b)→fU t w A F p v→fU t w' fZ oI p v
 | .int k n,_,_,_,_,h=>by simp only[fU]at h⊢;exact h
 | .bool b,_,_,_,_,h=>by simp only[fU]at h⊢;exact h
 | .str s,_,_,_,_,h=>by simp only[fU]at h⊢;exact h
 | .slice sz tag xs,F,oI,v,gE,h=>by
  simp only[fU]at h⊢;obtain⟨a,cap,J,U,ao,ba⟩:=h;refine⟨a,cap,J,U,ao,?_⟩;rcases ba with ba|⟨b,off,us,G,ak,aC,bk,dc,gV,hI⟩
  ·exact .inl ba
  ·refine .inr ⟨b,off,us,G,ak,gE _ aC,fun c au=>⟨gE _ (bk c au).1,(bk c au).2⟩,Fo bg _ _ dc,fun aO=>?_,QE bg ag xs G G _ (fun _ h=>h) hI⟩;obtain⟨f1,f2,el,f3⟩:=gV aO;refine⟨f1,f2,el,?_⟩;cases us with
   |nil=>simp at f2
   |cons u us=>rw[ag b off dc.1.1];exact f3
 | .agg cs,F,oI,v,gE,h=>by simp only[fU]at h⊢;obtain⟨us,J,U⟩:=h;exact⟨us,J,QF bg ag cs F oI _ gE U⟩
 | .junk,_,_,_,_,h=>by simp[fU]at h
 | .ptr _ _,_,_,_,_,h=>by simp[fU]at h
 | .eptr _,_,_,_,_,h=>by simp[fU]at h
 | .iface _ _,_,_,_,_,h=>by simp[fU]at h
 | .nilp,_,_,_,_,h=>by simp[fU]at h
 | .tuple _,_,_,_,_,h=>by simp[fU]at h
 | .func _ _,_,_,_,_,h=>by simp[fU]at h
 | .gmap _,_,_,_,_,h=>by simp[fU]at h
 | .row _ _ _,_,_,_,_,h=>by simp[fU]at h
 | .rptr _ _ _ _ _,_,_,_,_,h=>by simp[fU]at h
 | .hdm _ _,_,_,_,_,h=>by simp[fU]at h
 | .hdi _ _ _,_,_,_,_,h=>by simp[fU]at h
 | .cst _,_,_,_,_,h=>by simp[fU]at h
theorem QF{t:Bool}{w w':World}{A fZ:Nat→Nat→Prop}(bg:∀b o,A b o→fZ b o∧w'.cell? ⟨b,o,none⟩=w.cell? ⟨b,o,none⟩)(ag:∀b o,A b o→shape w' b=shape w b):∀(cs:List ah) (F oI:Nat→Prop) (us:List Value),(∀b,F b→oI b)→tL t w A F cs us→tL t w' fZ oI cs us
 |[],_,_,_,_,h=>by simp only[tL]at h⊢;exact h
 |c::cs,F,oI,us,gE,h=>by simp only[tL]at h⊢;obtain⟨u,ck,h0,ia,J,⟨U,ao,ba⟩,⟨b2,c7⟩,ef⟩:=h;exact⟨u,ck,h0,ia,J,⟨fun b ad=>gE _ (U b ad),fun b ad=>gE _ (ao b ad),ba⟩,⟨Er bg ag c h0 h0 u (fun _ h=>h) b2,c7⟩,QF bg ag cs ia ia ck (fun _ h=>h) ef⟩
theorem QE{t:Bool}{w w':World}{A fZ:Nat→Nat→Prop}(bg:∀b o,A b o→fZ b o∧w'.cell? ⟨b,o,none⟩=w.cell? ⟨b,o,none⟩)(ag:∀b o,A b o→shape w' b=shape w b){sz:Nat}:∀(cs:List ah) (F oI:Nat→Prop) (us:List Value),(∀b,F b→oI b)→tK t w A F sz cs us→tK t w' fZ oI sz cs us
 |[],_,_,_,_,h=>by simp only[tK]at h⊢;exact h
 |c::cs,F,oI,us,gE,h=>by simp only[tK]at h⊢;obtain⟨u,ck,h0,ia,J,⟨U,ao,ba⟩,⟨b2,c7⟩,ef⟩:=h;exact⟨u,ck,h0,ia,J,⟨fun b ad=>gE _ (U b ad),fun b ad=>gE _ (ao b ad),ba⟩,⟨Er bg ag c h0 h0 u (fun _ h=>h) b2,c7⟩,QE bg ag cs ia ia ck (fun _ h=>h) ef⟩
end
mutual
def aB(S:aH→Prop):ah→Prop
 | .slice _ tag xs=>(match tag with| .own k=>S k| .tr k _=>S k| .lo k=>S k|_=>True)∧aI S xs
 | .agg cs=>aI S cs
 | .ptr k _=>S k
 | .eptr x=>aB S x
 | .iface _ x=>aB S x
 | .tuple bc=>aI S bc
 | .func _ dj=>aI S dj
 | .gmap k=>S k
 | .row _ k _=>S k
 | .rptr _ k _ _ _=>S k
 |_=>True
def aI(S:aH→Prop):List ah→Prop
 |[]=>True
 |x::xs=>aB S x∧aI S xs
end
mutual
theorem vJ{S T:aH→Prop}(h:∀k,S k→T k):∀p:ah,aB S p→aB T p
 | .junk,_=>by simp[aB]
 | .int _ _,_=>by simp[aB]
 | .bool _,_=>by simp[aB]
 | .str _,_=>by simp[aB]
 | .slice sz tag xs,bI=>by simp only[aB]at bI⊢;exact⟨by cases tag<;>first|trivial|exact h _ bI.1,jM h xs bI.2⟩
 | .agg cs,bI=>by simp only[aB]at bI⊢;exact jM h cs bI
 | .ptr k _,bI=>by simp only[aB]at bI⊢;exact h _ bI
 | .eptr x,bI=>by simp only[aB]at bI⊢;exact vJ h x bI
 | .iface _ x,bI=>by simp only[aB]at bI⊢;exact vJ h x bI
 | .nilp,_=>by simp[aB]
 | .tuple bc,bI=>by simp only[aB]at bI⊢;exact jM h bc bI
 | .func _ dj,bI=>by simp only[aB]at bI⊢;exact jM h dj bI
 | .gmap k,bI=>by simp only[aB]at bI⊢;exact h _ bI
 | .row _ k _,bI=>by simp only[aB]at bI⊢;exact h _ bI
 | .rptr _ k _ _ _,bI=>by simp only[aB]at bI⊢;exact h _ bI
 | .hdm _ _,_=>by simp[aB]
 | .hdi _ _ _,_=>by simp[aB]
 | .cst _,_=>by simp[aB]
theorem jM{S T:aH→Prop}(h:∀k,S k→T k):∀cv:List ah,aI S cv→aI T cv
 |[],_=>by simp[aI]
 |x::xs,bI=>by simp only[aI]at bI⊢;exact⟨vJ h x bI.1,jM h xs bI.2⟩
end
mutual
theorem Fk:∀p:ah,aB (fun _=>True) p
 | .junk=>by simp[aB]
 | .int _ _=>by simp[aB]
 | .bool _=>by simp[aB]
 | .str _=>by simp[aB]
 | .slice sz tag xs=>by simp only[aB];exact⟨by cases tag<;>trivial,uh xs⟩
 | .agg cs=>by simp only[aB];exact uh cs
 | .ptr k _=>by simp[aB]
 | .eptr x=>by simp only[aB];exact Fk x
 | .iface _ x=>by simp only[aB];exact Fk x
 | .nilp=>by simp[aB]
 | .tuple bc=>by simp only[aB];exact uh bc
 | .func _ dj=>by simp only[aB];exact uh dj
 | .gmap k=>by simp[aB]
 | .row _ k _=>by simp[aB]
 | .rptr _ k _ _ _=>by simp[aB]
 | .hdm _ _=>by simp[aB]
 | .hdi _ _ _=>by simp[aB]
 | .cst _=>by simp[aB]
theorem uh:∀cv:List ah,aI (fun _=>True) cv
 |[]=>by simp[aI]
 |x::xs=>by simp only[aI];exact⟨Fk x,uh xs⟩
end
def fx:List Nat→List Value→List MapEntry
 |b::eI,k::v::r=>⟨k,v,b⟩::fx eI r
 |_,_=>[]
def jE(cs:List ah)(us:Array Value)(el:fR):Obj:=
 match cs with
 | .hdm clock borns::_=>.map (fx borns us.toList).toArray clock
 | .hdi since seen last::_=>.mapIter (match us.toList with|[.map m]=>m|_=>none) since seen.toArray last
 |_=>.cells us el
structure afD (clock:Nat) (borns:List Nat) (r:List ah):Prop where
 len:r.length=2*borns.length
 inc:borns.Pairwise (· < ·)
 lt:∀b∈borns,b<clock
def iZ(w:World)(ν:bd)(cs:List ah)(us:List Value):Prop:=
 match cs with
 | .hdm clock borns::r=>cP w ν r us∧afD clock borns r
 | .hdi _ _ _::r=>cP w ν r us
 |cs=>c5 w ν cs us
def hP:List ah→Bool
 | .hdm _ _::_=>false
 | .hdi _ _ _::_=>false
 |_=>true
theorem Aj{w:World}{ν:bd}{cs:List ah}{us:List Value}(h:c5 w ν cs us):hP cs=true:=by
 unfold hP;split
 ·simp only[c5,a8]at h;obtain⟨_,_,_,⟨h,_⟩,_⟩:=h;exact h.elim
 ·simp only[c5,a8]at h;obtain⟨_,_,_,⟨h,_⟩,_⟩:=h;exact h.elim
 ·rfl
theorem uz{cs:List ah}(h:hP cs=true)(us:Array Value)(el:fR):jE cs us el= .cells us el:=by
 unfold hP at h;unfold jE;split at h<;>first|cases h|skip
 rfl
theorem uA{w:World}{ν:bd}{cs:List ah}(h:hP cs=true)(us:List Value):iZ w ν cs us=c5 w ν cs us:=by
 unfold hP at h;unfold iZ;split at h<;>first|cases h|skip
 rfl
structure oK (S:aH→Prop) (w:World) (ν:bd) (w':World) (bo:bd):Prop where
 A:∀b o,ν.A b o→bo.A b o∧w'.cell? ⟨b,o,none⟩=w.cell? ⟨b,o,none⟩
 bx:∀k b,S k→ν.bx k=some b→bo.bx k=some b
 ow:∀g n u,S g→ν.ow g=some (n,u)→∃n' e1,bo.ow g=some (n',e1)∧(n'=n∧e1=u∨n<n')
 sh:∀b o,ν.A b o→shape w' b=shape w b
 tr:∀k j b,S k→ν.tr k j b→bo.tr k j b
abbrev k8:=oK (fun _=>True)
mutual
theorem uI{S:aH→Prop}{w w':World}{ν bo:bd}(ax:oK S w ν w' bo):∀(p:ah) (v:Value),aB S p→a8 w ν p v→a8 w' bo p v
 | .junk,_,_,_=>by simp[a8]
 | .int k n,_,_,h=>by simp only[a8]at h⊢;exact h
 | .bool b,_,_,h=>by simp only[a8]at h⊢;exact h
 | .str s,_,_,h=>by simp only[a8]at h⊢;exact h
 | .slice sz tag xs,v,ab,h=>by
  simp only[a8,aB]at h ab⊢;obtain⟨⟨a,cap,J,U,ao,ba⟩,b2,c7,nx,sr⟩:=h;refine⟨⟨a,cap,J,U,ao,?_⟩,b2,fun g a1=>?_,fun k j ny=>?_,fun k ny=>?_⟩
  ·rcases ba with ba|⟨b,off,us,ba,c7,ef⟩
   ·exact .inl ba
   ·exact .inr ⟨b,off,us,ba,Fo ax.A _ _ c7,Gi ax sz xs us ab.2 ef⟩
  ·obtain⟨n,u,ak,aC,bk⟩:=c7 g a1;subst a1;obtain⟨n',e1,f1,f2⟩:=ax.ow g n u ab.1 ak;refine⟨n',e1,f1,?_⟩;rcases f2 with⟨rfl,rfl⟩|f2
   ·exact⟨aC,bk⟩
   ·exact⟨by omega,fun e=>by omega⟩
  ·have:=nx k j ny;subst ny;exact Er ax.A ax.sh _ _ _ _ (fun b=>ax.tr k j b ab.1) this
  ·have:=sr k ny;subst ny;exact Er ax.A ax.sh _ _ _ _ (fun b=>ax.tr k 0 b ab.1) this
 | .agg cs,v,ab,h=>by simp only[a8,aB]at h ab⊢;obtain⟨us,J,U⟩:=h;exact⟨us,J,Gl ax cs _ ab U⟩
 | .ptr key off,v,ab,h=>by simp only[a8,aB]at h ab⊢;obtain⟨b,J,U⟩:=h;exact⟨b,ax.bx _ _ ab J,U⟩
 | .iface t x,v,ab,h=>by simp only[a8,aB]at h ab⊢;obtain⟨u,J,U⟩:=h;exact⟨u,J,uI ax x u ab U⟩
 | .eptr x,v,ab,h=>by simp only[a8,aB]at h ab⊢;obtain⟨b,off,u,J,U,ao⟩:=h;exact⟨b,off,u,J,uI ax x u ab U,Fo ax.A _ _ ao⟩
 | .nilp,_,_,h=>by simp only[a8]at h⊢;exact h
 | .tuple bc,v,ab,h=>by simp only[a8,aB]at h ab⊢;obtain⟨us,J,U⟩:=h;exact⟨us,J,x4 ax bc _ ab U⟩
 | .func f dj,v,ab,h=>by simp only[a8,aB]at h ab⊢;obtain⟨us,J,U⟩:=h;exact⟨us,J,x4 ax dj _ ab U⟩
 | .gmap key,v,ab,h=>by simp only[a8,aB]at h ab⊢;obtain⟨b,J,U⟩:=h;exact⟨b,ax.bx _ _ ab J,U⟩
 | .row sz key n,v,ab,h=>by
  simp only[a8,aB]at h ab⊢;obtain⟨J,U,n',u,ao,ba,b2⟩:=h;obtain⟨gf,jl,f1,f2⟩:=ax.ow key n' u ab ao;refine⟨J,U,gf,jl,f1,?_⟩;rcases f2 with⟨rfl,rfl⟩|f2
  ·exact⟨ba,b2⟩
  ·exact⟨by omega,fun e=>by omega⟩
 | .rptr sz key n i f,v,ab,h=>by
  simp only[a8,aB]at h ab⊢;obtain⟨J,U,n',u,ao,ba,b2⟩:=h;obtain⟨gf,jl,f1,f2⟩:=ax.ow key n' u ab ao;refine⟨J,U,gf,jl,f1,?_⟩;rcases f2 with⟨rfl,rfl⟩|f2
  ·exact⟨ba,b2⟩
  ·exact⟨by omega,fun e=>by omega⟩
 | .hdm _ _,_,_,h=>by simp only[a8]at h
 | .hdi _ _ _,_,_,h=>by simp only[a8]at h
 | .cst c,_,_,h=>by simp only[a8]at h⊢;exact h
theorem Gl{S:aH→Prop}{w w':World}{ν bo:bd}(ax:oK S w ν w' bo):∀(cs:List ah) (us:List Value),aI S cs→c5 w ν cs us→c5 w' bo cs us
 |[],_,_,h=>by simp only[c5]at h⊢;exact h
 |c::cs,us,ab,h=>by simp only[c5,aI]at h ab⊢;obtain⟨u,ck,J,U,ao⟩:=h;exact⟨u,ck,J,⟨uI ax c u ab.1 U.1,U.2⟩,Gl ax cs ck ab.2 ao⟩
theorem x4{S:aH→Prop}{w w':World}{ν bo:bd}(ax:oK S w ν w' bo):∀(cs:List ah) (us:List Value),aI S cs→cP w ν cs us→cP w' bo cs us
 |[],_,_,h=>by simp only[cP]at h⊢;exact h
 |c::cs,us,ab,h=>by simp only[cP,aI]at h ab⊢;obtain⟨u,ck,J,U,ao⟩:=h;exact⟨u,ck,J,uI ax c u ab.1 U,x4 ax cs ck ab.2 ao⟩
theorem Gi{S:aH→Prop}{w w':World}{ν bo:bd}(ax:oK S w ν w' bo)(sz:Nat):∀(xs:List ah) (us:List Value),aI S xs→dw w ν sz xs us→dw w' bo sz xs us
 |[],_,_,h=>by simp only[dw]at h⊢;exact h
 |x::xs,us,ab,h=>by simp only[dw,aI]at h ab⊢;obtain⟨u,ck,J,⟨U,ao,ba⟩,b2⟩:=h;exact⟨u,ck,J,⟨uI ax x u ab.1 U,ao,ba⟩,Gi ax sz xs ck ab.2 b2⟩
end
theorem Vk{S:aH→Prop}{w w':World}{ν bo:bd}(ax:oK S w ν w' bo){cs:List ah}{us:List Value}(ab:aI S cs)(h:iZ w ν cs us):iZ w' bo cs us:=by
 unfold iZ at h⊢;split
 ·simp only[aI]at ab;exact⟨x4 ax _ _ ab.2 h.1,h.2⟩
 ·simp only[aI]at ab;exact x4 ax _ _ ab.2 h
 ·rename_i J U;split at h
  ·exact absurd rfl (J _ _ _)
  ·exact absurd rfl (U _ _ _ _)
  ·exact Gl ax _ _ ab h
section
variable {w w':World} {ν bo:bd} (ax:k8 w ν w' bo)
include ax
theorem x5{p:ah}{v:Value}(h:a8 w ν p v):a8 w' bo p v:=uI ax p v (Fk p) h
theorem Vp{p:List ah}{v:List Value}(h:c5 w ν p v):c5 w' bo p v:=Gl ax p v (uh p) h
theorem Gp{p:List ah}{v:List Value}(h:cP w ν p v):cP w' bo p v:=x4 ax p v (uh p) h
theorem pX{p:List ah}{v:List Value}(h:iZ w ν p v):iZ w' bo p v:=Vk ax (uh p) h
theorem Ag{sz:Nat}{p:List ah}{v:List Value}(h:dw w ν sz p v):dw w' bo sz p v:=Gi ax sz p v (uh p) h
end
end Go.Pv
namespace Go.Pv
open Go Go.RowKit
def get(k:Nat):List (Nat×ah)→ah
 |[]=>.junk
 |(i,p)::r=>if i=k then p else get k r
def put(k:Nat)(p:ah):List (Nat×ah)→List (Nat×ah)
 |[]=>[(k,p)]
 |(i,q)::r=>if i=k then(i,p)::r else(i,q)::put k p r
def look{α:Type}(k:aH):List (aH×α)→aY α
 |[]=>none
 |(i,p)::r=>if i=k then some p else look k r
def cA{α:Type}(k:aH)(p:α):List (aH×α)→List (aH×α)
 |[]=>[(k,p)]
 |(i,q)::r=>if i=k then(i,p)::r else(i,q)::cA k p r
theorem oX(k j:Nat)(p:ah):∀l,get j (put k p l)=if k=j then p else get j l
 |[]=>by simp[get,put]
 |(i,q)::r=>by
  by_cases h:i=k
  ·subst h;by_cases U:i=j<;>simp[get,put,U]
  ·by_cases U:i=j
   ·subst U;simp[get,put,h,kN h]
   ·simp[get,put,h,U,oX k j p r]
theorem iH{α:Type}(k j:aH)(p:α):∀l,look j (cA k p l)=if k=j then some p else look j l
 |[]=>by simp[look,cA]
 |(i,q)::r=>by
  by_cases h:i=k
  ·subst h;by_cases U:i=j<;>simp[look,cA,U]
  ·by_cases U:i=j
   ·subst U;simp[look,cA,h,kN h]
   ·simp[look,cA,h,U,iH k j p r]
structure fK where
 n:Nat
 el:Nat
 sz:Nat
 xs:aY (List ah)
def LD(w:World)(ν:bd)(o:fK)(v:Value)(us:List Value):Prop:=∀xs,o.xs=some xs→xs.length=o.n∧dw w ν o.sz xs us∧∀bl,v.ownBlock=some bl→∀j,¬ν.A bl j
theorem rO{w w':World}{ν bo:bd}(ax:k8 w ν w' bo){o:fK}{v:Value}{us:List Value}(bg:∀bl,v.ownBlock=some bl→∀j,bo.A bl j→ν.A bl j)(h:LD w ν o v us):LD w' bo o v us:=fun xs ae=>⟨(h xs ae).1,Ag ax (h xs ae).2.1,fun bl ad j af=>(h xs ae).2.2 bl ad j (bg bl ad j af)⟩
def dW(S:aH→Prop)(o:fK):Prop:= ∀xs,o.xs=some xs→aI S xs
structure bq where
 t:List (Nat×ah)
 b:List (aH×List ah)
 e:List (aH×fK)
 n:Nat
 o:List aH
def fresh(n:Nat)(o:List aH)(k:aH):Prop:=(match k with| .loc m=>n≤m| .obj _=>True)∧k∉o
theorem IA{n n':Nat}{o o':List aH}(aA:n≤n')(ax:∀k∈o,k∈o'){k:aH}(h:fresh n' o' k):fresh n o k:=by unfold fresh at h⊢;exact⟨by cases k<;>simp at h⊢;omega,fun ab=>h.2 (ax k ab)⟩
def Ma(ν:bd)(b:List (aH×List ah))(e:List (aH×fK))(bl:Nat):Prop:=(∃k,(look k b).isSome∧ν.bx k=some bl)∨(∃g n v,(look g e).isSome∧ν.ow g=some (n,v)∧v.ownBlock=some bl)
structure Good (pr:Nat→Prop) (w:World) (ν:bd) (b:List (aH×List ah)) (e:List (aH×fK)):Prop where
 alt:∀bl o,ν.A bl o→bl<w.heap.size
 box:∀k cs,look k b=some cs→∃bl us el,ν.bx k=some bl∧pr bl∧(∀o,¬ν.A bl o)∧w.heap[bl]? =some (jE cs us el)∧iZ w ν cs us.toList
 inj:∀k bK bl,(look k b).isSome→(look bK b).isSome→ν.bx k=some bl→ν.bx bK=some bl→k=bK
 own:∀g o,look g e=some o→∃v us,ν.ow g=some (o.n,v)∧w.ownsRow 0 o.el o.sz v o.n us∧(∀bl,v.ownBlock=some bl→pr bl∧(∀j,ν.A bl j→j<o.n*o.sz))∧LD w ν o v us
 oinj:∀g fa n n' v v' bl,(look g e).isSome→(look fa e).isSome→ν.ow g=some (n,v)→ν.ow fa=some (n',v')→v.ownBlock=some bl→v'.ownBlock=some bl→g=fa
 obx:∀g k n v bl,(look g e).isSome→(look k b).isSome→ν.ow g=some (n,v)→v.ownBlock=some bl→ν.bx k=some bl→eK
 one:∀k,ν.bx k=none∨ν.ow k=none
 otr:∀bl,Ma ν b e bl→∀k j,¬ν.tr k j bl
structure e9 where
 w0:World
 ν0:bd
 mt:Nat→Prop
 N:Nat
 ob:List aH
def e9.pr(C:e9)(bl:Nat):Prop:=C.mt bl∨C.w0.heap.size≤bl
def ajS:aH:= .obj 990001
def fQ:aH:= .obj 990002
structure p8 (C:e9) (w:World) (ν:bd):Prop where
 os:w.os=C.w0.os
 tape:w.tape=C.w0.tape
 output:w.output=C.w0.output
 size:C.w0.heap.size≤w.heap.size
 block:∀k,k<C.w0.heap.size→¬C.mt k→w.heap[k]? =C.w0.heap[k]?
 keep:∀b o,C.ν0.A b o→ν.A b o∧w.cell? ⟨b,o,none⟩=C.w0.cell? ⟨b,o,none⟩
 fresh:∀b o,ν.A b o→C.ν0.A b o∨C.pr b
 obj:∀n b,C.ν0.bx (.obj n)=some b→ν.bx (.obj n)=some b
 obn:∀n b,C.ν0.bx (.obj n)=some b→ .obj n∈C.ob
 row:∀m n u,C.ν0.ow (.obj m)=some (n,u)→∃n' e1,ν.ow (.obj m)=some (n',e1)∧(n'=n∧e1=u∨n<n')
 obr:∀m n u,C.ν0.ow (.obj m)=some (n,u)→ .obj m∈C.ob
 trd:∀k j bK dx b,ν.tr k j b→ν.tr bK dx b→k=bK∧j=dx
 trb:∀k j b,ν.tr k j b→(k=ajS∨C.w0.heap.size≤b)∧b<w.heap.size
 trn:∀k j b,ν.tr k j b→ν.bx k=none∧ν.ow k=none
 sh:∀b o,C.ν0.A b o→shape w b=shape C.w0 b
theorem C1{ν bo:bd}{g:aH}{n:Nat}{u:Value}(h:∃n' e1,ν.ow g=some (n',e1)∧(n'=n∧e1=u∨n<n'))(ax:∀n u,ν.ow g=some (n,u)→∃n' e1,bo.ow g=some (n',e1)∧(n'=n∧e1=u∨n<n')):
  ∃n' e1,bo.ow g=some (n',e1)∧(n'=n∧e1=u∨n<n'):=by
 obtain⟨hW,iL,ak,aC⟩:=h;obtain⟨gf,jl,f1,f2⟩:=ax hW iL ak;refine⟨gf,jl,f1,?_⟩;rcases aC with⟨rfl,rfl⟩|aC
 ·exact f2
 ·rcases f2 with⟨rfl,rfl⟩|f2
  ·exact .inr aC
  ·exact .inr (by omega)
structure cS (C:e9) (st:bq) (a:Act) (w:World) (ν:bd):Prop where
 good:Good C.pr w ν st.b st.e
 fr:p8 C w ν
 defers:a.defers=[]
 size:a.tmps.size=C.N
 slot:∀i,a8 w ν (get i st.t) (a.tmps.getD i undef)
 new:∀k,fresh st.n st.o k→ν.bx k=none∧ν.ow k=none∧∀j b,¬ν.tr k j b
def eH(d:aY Nat)(p:ah)(t:List (Nat×ah)):List (Nat×ah):=
 match d with
 |some d=>put d p t
 |none=>t
def jf(N:Nat)(d:aY Nat):Bool:=match d with|some d=>decide (d<N)|none=>true
theorem cS.put{C:e9}{st:bq}{a:Act}{w:World}{ν:bd}(h:cS C st a w ν){d:aY Nat}(aP:jf C.N d=true){p:ah}{v:Value}(bI:a8 w ν p v):
  cS C {st with t:=eH d p st.t} (a.put d v) w ν:=by
 cases d with
 |none=>exact h
 |some d=>
  have bD:d<a.tmps.size:=by rw[h.size];simpa[jf]using aP
  refine⟨h.good,h.fr,h.defers,by simpa[Act.put]using h.size,fun i=>?_,h.new⟩;simp only[eH,oX];by_cases e:d=i
  ·subst e;simpa[Act.put,Array.getD_eq_getD_getElem?,bD]using bI
  ·have:=h.slot i;simpa[e,Act.put,Array.getD_eq_getD_getElem?,Array.getElem?_setIfInBounds_ne e]using this
theorem cS.over{C:e9}{st st':bq}{a:Act}{w w':World}{ν bo:bd}(h:cS C st a w ν)(ax:k8 w ν w' bo)(aO:st'.t=st.t)(a1:Good C.pr w' bo st'.b st'.e)(aJ:p8 C w' bo)
  (aA:∀k,fresh st'.n st'.o k→bo.bx k=none∧bo.ow k=none∧∀j b,¬bo.tr k j b):cS C st' a w' bo:=
 ⟨a1,aJ,h.defers,h.size,fun i=>by rw[aO];exact x5 ax (h.slot i),aA⟩
inductive dn where
 |t (i:Nat)
 |c (p:ah)
 deriving Inhabited
def cp(t:List (Nat×ah)):dn→ah
 | .t i=>get i t
 | .c p=>p
def DO:ah→Value→Bool
 | .int k n,.int bK n'=>decide (k=bK∧n=n')
 | .bool b,.bool b1=>b==b1
 | .str s,.string l=>decide (l.data.toList=s∧s.length≤lim)
 | .slice _ .nil [],.slice none 0 0=>true
 | .nilp,.pointer none=>true
 | .tuple [],.tuple ⟨[]⟩=>true
 | .func f [],.func (.func g) ⟨[]⟩ ⟨[]⟩=>f==g
 | .junk,_=>true
 |_,_=>false
theorem Nt(w:World)(ν:bd){p:ah}{v:Value}(h:DO p v=true):a8 w ν p v:=by
 unfold DO at h;split at h
 ·simp at h;obtain⟨rfl,rfl⟩:=h;simp[a8]
 ·simp at h;subst h;simp[a8]
 ·rename_i s l;simp at h;obtain⟨J,U⟩:=h;refine⟨?_,U⟩;subst J;simp
 ·simp only[a8];refine⟨⟨none,0,rfl,by simp,by simp,by simp⟩,by simp,(fun _ h=>by cases h),(fun _ _ h=>by cases h),(fun _ h=>by cases h)⟩
 ·simp[a8]
 ·simp[a8,cP]
 ·simp at h;subst h;simp[a8,cP]
 ·simp[a8]
 ·cases h
def yB:List ah→List Value→Bool
 |[],[]=>true
 |p::cv,v::bc=>DO p v&&v.oneCell'&&yB cv bc
 |_,_=>false
def yA:ah→Value→Bool
 | .agg cs,.agg us=>yB cs us.toList
 |p,v=>DO p v
theorem Nu(w:World)(ν:bd):∀(cv:List ah) (bc:List Value),yB cv bc=true→c5 w ν cv bc
 |[],[],_=>by simp[c5]
 |[],_::_,h=>by simp[yB]at h
 |_::_,[],h=>by simp[yB]at h
 |p::cv,v::bc,h=>by simp only[yB,cC]at h;simp only[c5];exact⟨v,bc,rfl,⟨Nt w ν h.1.1,h.1.2⟩,Nu w ν cv bc h.2⟩
theorem Hv(w:World)(ν:bd){p:ah}{v:Value}(h:yA p v=true):a8 w ν p v:=by
 unfold yA at h;split at h
 ·simp only[a8];exact⟨_,rfl,Nu w ν _ _ h⟩
 ·exact Nt w ν h
def eg:dn→Operand→Bool
 | .t i,.tmp j=>i==j
 | .c p,.const v=>yA p v
 | .c (.func f []),.func g=>f==g
 |_,_=>false
theorem eh{C:e9}{st:bq}{a:Act}{w:World}{ν:bd}(h:cS C st a w ν){x:dn}{o:Operand}(ae:eg x o=true):a8 w ν (cp st.t x) (a.eval o):=by
 unfold eg at ae;split at ae
 ·simp at ae;subst ae;simpa[cp,Act.eval]using h.slot _
 ·simpa[cp,Act.eval]using Hv w ν ae
 ·simp at ae;subst ae;simp[cp,Act.eval,a8,cP]
 ·cases ae
inductive AP where
 |int (k:IntKind)
 |bool
 |str
 |slice (e:Nat)
 |struct (dM:List (Nat×Nat))
 |map (k e:Nat)
 |other
 deriving DecidableEq
structure dA where
 size:Nat
 bytes:Nat
 kind:AP
 zero:ah
def AP.isAgg:AP→Bool
 | .struct _=>true
 |_=>false
def AI:List ah→List Value→Bool
 |[],[]=>true
 |p::cv,v::bc=>yA p v&&v.oneCell'&&AI cv bc
 |_,_=>false
def yo:ah→Value→Bool
 | .agg cs,.agg us=>AI cs us.toList
 | .agg _,_=>false
 |p,v=>yA p v&&v.oneCell'
def jX:AP→TypeDesc→Bool
 | .int k,.int bK=>decide (k=bK)
 | .bool,.bool=>true
 | .str,.string=>true
 | .slice e,.slice fG=>e==fG
 | .struct dM,.struct gs=>decide (gs.toList.map (fun f=>(f.offset,f.type))=dM)
 | .map k e,.map bK fG=>k==bK&&e==fG
 | .other,d=>match d with| .struct _| .array _ _| .int _| .bool| .string| .slice _=>false|_=>true
 |_,_=>false
def Qw(P:cD)(gs:Array Field):Bool:=gs.toList.all fun f=>match P.underlying f.type with|some (.int _)=>true|some .string=>true|_=>false
def PJ(P:cD)(t:Nat)(gs:Array Field):Bool:=gs.toList.all (fun f=>f.name != "_")&& !P.stoodInHeld t&& !P.eqGuardType P.depth t
def HU(P:cD)(t:Nat):TypeDesc→Bool
 | .struct gs=> !Qw P gs||PJ P t gs
 |_=>true
def Md(P:cD)(t:Nat)(f:dA):Bool:=
 match P.info? t,P.underlying t with
 |some i,some d=>HU P t d&&i.size==f.size&&i.bytes==f.bytes&&jX f.kind d&&(match i.zero with|some z=>yo f.zero z&&z.cells.size==f.size|none=>false)
 |_,_=>false
def fL(P:cD)(bB:List (Nat×dA)):Bool:=bB.all fun x=>Md P x.1 x.2
def dY(bB:List (Nat×dA))(t:Nat):aY dA:=(bB.find? fun x=>x.1==t).map (·.2)
theorem akF{P:cD}{bB:List (Nat×dA)}(h:fL P bB=true){t:Nat}{f:dA}(aJ:dY bB t=some f):Md P t f=true:=by
 unfold dY at aJ;cases ae:bB.find? fun x=>x.1==t with
 |none=>simp[ae]at aJ
 |some x=>simp[ae]at aJ;have J:=List.find?_some ae;simp at J;have U:=List.mem_of_find?_eq_some ae;have ao:=gh.1 h x U;rw[←aJ,←J];exact ao
structure Xk (P:cD) (t:Nat) (f:dA):Prop where
 cmp:∀d,P.underlying t=some d→HU P t d=true
 ex:∃i d z,P.info? t=some i∧P.underlying t=some d∧i.size=f.size∧i.bytes=f.bytes∧jX f.kind d=true∧i.zero=some z∧yo f.zero z=true∧z.cells.size=f.size
theorem uU{P:cD}{bB:List (Nat×dA)}(h:fL P bB=true){t:Nat}{f:dA}(aJ:dY bB t=some f):Xk P t f:=by
 have h:=akF h aJ;unfold Md at h;split at h
 ·rename_i i d J U;simp only[cC,dO]at h;obtain⟨⟨⟨⟨bA,ao⟩,ba⟩,b2⟩,c7⟩:=h;split at c7
  ·rename_i z bp;simp only[cC,dO]at c7;exact⟨fun cc ma=>by rw[U]at ma;cases ma;exact bA,i,d,z,J,U,ao,ba,b2,bp,c7.1,c7.2⟩
  ·cases c7
 ·cases h
theorem oL(b o j:Nat):(⟨b,o,none⟩:Addr).add j=⟨b,o+j,none⟩:=by
 unfold Addr.add;split
 ·rename_i h;subst h;rfl
 ·rfl
theorem MG(w:World)(ν:bd):∀(cv:List ah) (bc:List Value),AI cv bc=true→c5 w ν cv bc
 |[],[],_=>by simp[c5]
 |[],_::_,h=>by simp[AI]at h
 |_::_,[],h=>by simp[AI]at h
 |p::cv,v::bc,h=>by simp only[AI,cC]at h;simp only[c5];exact⟨v,bc,rfl,⟨Hv w ν h.1.1,h.1.2⟩,MG w ν cv bc h.2⟩
def cells:ah→List ah
 | .agg cs=>cs
 |p=>[p]
def eb:ah→Bool
 | .junk| .tuple _=>false
 | .cst (.slice _ _ _)| .cst (.string _)=>true
 | .cst _=>false
 |_=>true
theorem LB{w:World}{ν:bd}{p:ah}{v:Value}(h:a8 w ν p v)(ag:eb p=true)(bt:∀cs,p≠ .agg cs):v.oneCell'=true∧v.cells= #[v]:=by
 cases p<;>simp only[a8,eb]at h ag;case junk=>cases ag
 case tuple=>cases ag
 case cst c=>subst h;cases v<;>first|exact⟨rfl,rfl⟩|cases ag
 case agg cs=>exact absurd rfl (bt cs)
 case int=>subst h;exact⟨rfl,rfl⟩
 case bool=>subst h;exact⟨rfl,rfl⟩
 case str=>rw[h.1];exact⟨rfl,rfl⟩
 case slice=>obtain⟨⟨a,cap,J,_⟩,_⟩:=h;subst J;exact⟨rfl,rfl⟩
 case ptr=>obtain⟨b,_,J⟩:=h;subst J;exact⟨rfl,rfl⟩
 case eptr=>obtain⟨b,o,u,J,_⟩:=h;subst J;exact⟨rfl,rfl⟩
 case iface=>obtain⟨u,J,_⟩:=h;subst J;exact⟨rfl,rfl⟩
 case nilp=>subst h;exact⟨rfl,rfl⟩
 case func=>obtain⟨us,J,_⟩:=h;subst J;exact⟨rfl,rfl⟩
 case gmap=>obtain⟨b,_,J⟩:=h;subst J;exact⟨rfl,rfl⟩
 case row=>obtain⟨⟨a,cap,J⟩,_⟩:=h;subst J;exact⟨rfl,rfl⟩
 case rptr=>obtain⟨⟨a,o,J⟩,_⟩:=h;subst J;exact⟨rfl,rfl⟩
theorem uH{w:World}{ν:bd}{p:ah}{v:Value}(h:a8 w ν p v)(ag:eb p=true):c5 w ν (cells p) v.cells.toList:=by
 by_cases bt:∃cs,p= .agg cs
 ·obtain⟨cs,rfl⟩:=bt;simp only[a8]at h;obtain⟨us,rfl,U⟩:=h;simpa[cells,pe]using U
 ·have mN:∀cs,p≠ .agg cs:=fun cs e=>bt ⟨cs,e⟩;obtain⟨J,U⟩:=LB h ag mN;have au:cells p=[p]:=by cases p<;>first|rfl|exact absurd rfl (mN _)
  rw[au,U];simp only[c5];exact⟨v,[],rfl,⟨h,J⟩,rfl⟩
theorem Ai{w:World}{ν:bd}:∀{cv:List ah} {bc:List Value},c5 w ν cv bc→∀c∈bc,c.oneCell'=true
 |[],bc,h=>by simp only[c5]at h;subst h;simp
 |p::cv,bc,h=>by
  simp only[c5]at h;obtain⟨u,ck,rfl,J,U⟩:=h;intro c au;rcases fY.1 au with rfl|au
  ·exact J.2
  ·exact Ai U c au
theorem pb{w:World}{ν:bd}:∀{cv:List ah} {bc:List Value},c5 w ν cv bc→bc.length=cv.length
 |[],bc,h=>by simp only[c5]at h;subst h;rfl
 |p::cv,bc,h=>by simp only[c5]at h;obtain⟨u,ck,rfl,_,U⟩:=h;simp[pb U]
theorem Ah{w:World}{ν:bd}:∀(n:Nat) {cv:List ah} {bc:List Value},c5 w ν cv bc→c5 w ν (cv.drop n) (bc.drop n)
 |0,_,_,h=>by simpa using h
 |n+1,[],bc,h=>by simp only[c5]at h;subst h;simp[c5]
 |n+1,p::cv,bc,h=>by simp only[c5]at h;obtain⟨u,ck,rfl,_,U⟩:=h;simpa using Ah n U
theorem CW{w:World}{ν:bd}:∀(n:Nat) {cv:List ah} {bc:List Value},c5 w ν cv bc→c5 w ν (cv.take n) (bc.take n)
 |0,_,_,_=>by simp[c5]
 |n+1,[],bc,h=>by simp only[c5]at h;subst h;simp[c5]
 |n+1,p::cv,bc,h=>by simp only[c5]at h;obtain⟨u,ck,rfl,J,U⟩:=h;simp only[List.take_succ_cons,c5];exact⟨u,_,rfl,J,CW n U⟩
theorem x3{w:World}{ν:bd}:∀{cv bM:List ah} {bc us:List Value},c5 w ν cv bc→c5 w ν bM us→c5 w ν (cv++bM) (bc++us)
 |[],bM,bc,us,h,ca=>by simp only[c5]at h;subst h;simpa using ca
 |p::cv,bM,bc,us,h,ca=>by simp only[c5]at h;obtain⟨u,ck,rfl,J,U⟩:=h;simp only[bV,c5];exact⟨u,_,rfl,J,x3 U ca⟩
theorem CV{w:World}{ν:bd}:∀(n:Nat) {cv:List ah} {bc:List Value} {p:ah},c5 w ν cv bc→cv[n]? =some p→∃v,bc[n]? =some v∧a8 w ν p v∧v.oneCell'=true
 |n,[],_,p,_,bI=>by simp at bI
 |0,q::cv,bc,p,h,bI=>by simp only[c5]at h;obtain⟨u,ck,rfl,J,_⟩:=h;simp at bI;subst bI;exact⟨u,rfl,J.1,J.2⟩
 |n+1,q::cv,bc,p,h,bI=>by simp only[c5]at h;obtain⟨u,ck,rfl,_,U⟩:=h;simpa using CV n U (by simpa using bI)
theorem Gm{w:World}{ν:bd}:∀(n:Nat) {cv:List ah} {bc:List Value} {p:ah},cP w ν cv bc→cv[n]? =some p→∃v,bc[n]? =some v∧a8 w ν p v
 |n,[],_,p,_,bI=>by simp at bI
 |0,q::cv,bc,p,h,bI=>by simp only[cP]at h;obtain⟨u,ck,rfl,J,_⟩:=h;simp at bI;subst bI;exact⟨u,rfl,J⟩
 |n+1,q::cv,bc,p,h,bI=>by simp only[cP]at h;obtain⟨u,ck,rfl,_,U⟩:=h;simpa using Gm n U (by simpa using bI)
theorem um{w:World}{A:Nat→Nat→Prop}{b:Nat}:∀{us:List Value} {off j:Nat} {u:Value},lx w A b off us→us[j]? =some u→A b (off+j)∧w.cell? ⟨b,off+j,none⟩=some u
 |[],_,_,_,_,h=>by simp at h
 |x::us,off,0,u,av,h=>by simp at h;subst h;exact av.1
 |x::us,off,j+1,u,av,h=>by have:=um (j:=j) av.2 (by simpa using h);rwa[show off+1+j=off+(j+1)from by omega]at this
theorem Fm{w:World}{A:Nat→Nat→Prop}{b:Nat}:∀(n:Nat) {us:List Value} {off:Nat},lx w A b off us→lx w A b (off+n) (us.drop n)
 |0,_,_,h=>by simpa using h
 |n+1,[],_,_=>by simp[lx]
 |n+1,x::us,off,h=>by have:=Fm n h.2;rw[show off+(n+1)=off+1+n from by omega];simpa using this
theorem Fp{w:World}{A:Nat→Nat→Prop}{b:Nat}:∀(n:Nat) {us:List Value} {off:Nat},lx w A b off us→lx w A b off (us.take n)
 |0,_,_,_=>by simp[lx]
 |n+1,[],_,_=>by simp[lx]
 |n+1,x::us,off,h=>by simp only[List.take_succ_cons];exact⟨h.1,Fp n h.2⟩
theorem ajM{P:cD}{w:World}{A:Nat→Nat→Prop}{b off:Nat}{us:List Value}(h:lx w A b off us):(loadCells ⟨b,off,none⟩ us.length).run P w= .ok us.toArray w:=run_loadCells_list w _ us fun j v af=>by rw[oL];exact(um h af).2
theorem ajL{P:cD}{w:World}{b off n:Nat}{us:Array Value}{el:fR}{fr:Nat×Nat}(h:w.heap[b]? =some (.cells us el fr))(aA:off+n≤us.size):
  (loadCells ⟨b,off,none⟩ n).run P w= .ok ((us.toList.drop off).take n).toArray w:=by
 have av:((us.toList.drop off).take n).length=n:=by simp;omega
 have:=run_loadCells_list (P:=P) w ⟨b,off,none⟩ ((us.toList.drop off).take n) fun j v af=>by
  rw[oL];have adC:j<n:=by have:=(fi.1 af).1;omega
  simp only[World.cell?,h,l0,gS,if_false];rw[List.getElem?_take]at af;simpa[adC]using af
 rw[av]at this;exact this
theorem PX{α:Type}(l r:List α)(n sz:Nat)(h:l.length=sz):(l++r).drop ((n+1)*sz)=r.drop (n*sz):=by
 have e:(n+1)*sz=l.length+n*sz:=by rw[h,Nat.succ_mul,Nat.add_comm]
 rw[e,←List.drop_drop];simp
theorem V6{α:Type}(l r:List α)(n sz:Nat)(h:l.length=sz):(l++r).take ((n+1)*sz)=l++r.take (n*sz):=by
 have e:(n+1)*sz=l.length+n*sz:=by rw[h,Nat.succ_mul,Nat.add_comm]
 rw[e,List.take_length_add_append]
theorem Gh{w:World}{ν:bd}{sz:Nat}:∀(i:Nat) {xs:List ah} {us:List Value} {p:ah},dw w ν sz xs us→xs[i]? =some p→
  ∃u,a8 w ν p u∧u.cells.size=sz∧u.cells.toList=(us.drop (i*sz)).take sz
 |i,[],_,p,_,bI=>by simp at bI
 |0,x::xs,us,p,h,bI=>by
  simp only[dw]at h;obtain⟨u,ck,rfl,⟨J,U,ao⟩,_⟩:=h;simp at bI;subst bI;refine⟨u,J,U,?_⟩;have:u.cells.toList.length=sz:=by simpa using U
  simp[←this]
 |i+1,x::xs,us,p,h,bI=>by
  simp only[dw]at h;obtain⟨u,ck,rfl,⟨_,U,_⟩,b2⟩:=h;obtain⟨v,g1,g2,g3⟩:=Gh i b2 (by simpa using bI);refine⟨v,g1,g2,?_⟩;have:u.cells.toList.length=sz:=by simpa using U
  rw[g3,PX _ _ _ _ this]
theorem sX{w:World}{ν:bd}{sz:Nat}:∀{xs:List ah} {us:List Value},dw w ν sz xs us→us.length=xs.length*sz
 |[],us,h=>by simp only[dw]at h;subst h;simp
 |x::xs,us,h=>by
  simp only[dw]at h;obtain⟨u,ck,rfl,⟨_,U,_⟩,b2⟩:=h;have:u.cells.toList.length=sz:=by simpa using U
  rw[pf,this,sX b2,p6,Nat.succ_mul];omega
theorem x2{w:World}{ν:bd}{sz:Nat}:∀{xs:List ah} {us:List Value},dw w ν sz xs us→∀c∈us,c.oneCell'=true
 |[],us,h=>by simp only[dw]at h;subst h;simp
 |x::xs,us,h=>by
  simp only[dw]at h;obtain⟨u,ck,rfl,⟨_,_,ao⟩,b2⟩:=h;intro c au;rcases ky.1 au with au|au
  ·exact ao c au
  ·exact x2 b2 c au
theorem CU{w:World}{ν:bd}{sz:Nat}:∀{cv bM:List ah} {bc us:List Value},dw w ν sz cv bc→dw w ν sz bM us→dw w ν sz (cv++bM) (bc++us)
 |[],bM,bc,us,h,ca=>by simp only[dw]at h;subst h;simpa using ca
 |p::cv,bM,bc,us,h,ca=>by simp only[dw]at h;obtain⟨u,ck,rfl,J,U⟩:=h;simp only[bV,dw];exact⟨u,ck++us,by simp,J,CU U ca⟩
theorem Vl{w:World}{ν:bd}{sz:Nat}:∀(n:Nat) {xs:List ah} {us:List Value},dw w ν sz xs us→dw w ν sz (xs.drop n) (us.drop (n*sz))
 |0,_,_,h=>by simpa using h
 |n+1,[],us,h=>by simp only[dw]at h;subst h;simp[dw]
 |n+1,x::xs,us,h=>by
  simp only[dw]at h;obtain⟨u,ck,rfl,⟨_,U,_⟩,b2⟩:=h;have:u.cells.toList.length=sz:=by simpa using U
  rw[PX _ _ _ _ this];simpa using Vl n b2
theorem Vo{w:World}{ν:bd}{sz:Nat}:∀(n:Nat) {xs:List ah} {us:List Value},dw w ν sz xs us→dw w ν sz (xs.take n) (us.take (n*sz))
 |0,_,_,_=>by simp[dw]
 |n+1,[],us,h=>by simp only[dw]at h;subst h;simp[dw]
 |n+1,x::xs,us,h=>by
  simp only[dw]at h;obtain⟨u,ck,rfl,⟨J,U,ao⟩,b2⟩:=h;have:u.cells.toList.length=sz:=by simpa using U
  simp only[List.take_succ_cons,dw];refine⟨u,ck.take (n*sz),?_,⟨J,U,ao⟩,Vo n b2⟩;rw[V6 _ _ _ _ this]
def isAgg(sz:Nat)(p:ah):Prop:= ∃cs,p= .agg cs∧cs.length=sz
def x7(agg:Bool)(sz dF n i f:Nat):aY fK→aY (Prop×ah)
 |some ⟨n',_,jb,some xs⟩=>if n'=n∧jb=dF then
   (match xs[i]? with
    |some p=>if agg then some (eb p=true∧f+sz≤(cells p).length,.agg (((cells p).drop f).take sz))else((cells p)[f]?).map fun q=>(eb p=true,q)
    |none=>none)else none
 |_=>none
def mr(b:List (aH×List ah))(e:List (aH×fK))(agg:Bool)(sz:Nat):ah→aY (Prop×ah)
 | .rptr dF k n i f=>x7 agg sz dF n i f (look k e)
 | .ptr k off=>
  match look k b with
  |some cs=>if agg then some (hP cs=true∧off+sz≤cs.length,.agg ((cs.drop off).take sz))else(cs[off]?).map fun p=>(hP cs=true,p)
  |none=>none
 | .eptr p=>if agg then some (isAgg sz p,p)else some (eb p=true∧cells p=[p],p)
 |_=>none
def Bj(agg:Bool)(sz:Nat):ah→aY (Prop×ah)
 | .eptr p=>if agg then some (isAgg sz p,p)else some (eb p=true∧cells p=[p],p)
 |_=>none
theorem abZ{b:List (aH×List ah)}{e:List (aH×fK)}{agg:Bool}{sz:Nat}{p:ah}{r:Prop×ah}(h:Bj agg sz p=some r):mr b e agg sz p=some r:=by
 cases p<;>simp only[Bj]at h<;>first|cases h;done|skip
 simpa only[mr]using h
theorem afx{b:List (aH×List ah)}{e:List (aH×fK)}{agg:Bool}{sz:Nat}{p:ah}{r:Prop×ah}(h:mr b [] agg sz p=some r):mr b e agg sz p=some r:=by cases p<;>simp only[mr]at h⊢ <;>first|exact h|(simp[look,x7]at h)
def pC(off:Nat)(agg:Bool)(sz:Nat):ah→aY (Prop×ah)
 | .ptr k o=>some (True,.ptr k (o+off))
 | .rptr dF k n i f=>some (True,.rptr dF k n i (f+off))
 | .eptr (.agg cs)=>if agg then some (off+sz≤cs.length,.eptr (.agg ((cs.drop off).take sz)))else(cs[off]?).map fun p=>(eb p=true∧cells p=[p],.eptr p)
 |_=>none
def q2(off:Nat)(agg:Bool)(sz:Nat):ah→aY (Prop×ah)
 | .agg cs=>if agg then some (off+sz≤cs.length,.agg ((cs.drop off).take sz))else(cs[off]?).map fun p=>(True,p)
 |_=>none
def zu(sz:Nat):ah→ah→aY (Prop×ah)
 | .slice dF _ xs,.int _ i=>if dF=sz then some (0≤i∧i<xs.length,.eptr (xs.getD i.toNat .junk))else none
 | .row dF k n,.int _ i=>if dF=sz then some (0≤i∧i<n,.rptr dF k n i.toNat 0)else none
 |_,_=>none
def Gy:ah→ah→aY (Prop×ah)
 | .str s,.int _ i=>some (0≤i∧i<s.length,.int .u8 (s.getD i.toNat 0).toNat)
 |_,_=>none
def qA(Ec:Int):aY ah→aY Int
 |none=>some Ec
 |some (.int _ i)=>some i
 |_=>none
def GD(x:ah)(lo hi:aY ah):aY (Prop×ah):=
 match x with
 | .str s=>match qA 0 lo,qA s.length hi with
  |some l,some h=>some (0≤l∧l≤h∧h≤s.length,.str ((s.take h.toNat).drop l.toNat))
  |_,_=>none
 |_=>none
def Fw(sz:Nat)(x:ah)(lo hi:aY ah):aY (Prop×ah):=
 match x with
 | .slice dF _ xs=>if dF=sz then match qA 0 lo,qA xs.length hi with
  |some l,some h=>some (0≤l∧l≤h∧h≤xs.length,.slice sz .no ((xs.take h.toNat).drop l.toNat))
  |_,_=>none else none
 |_=>none
def sH(n:Int):Prop:= -9223372036854775808≤n∧n≤9223372036854775807
def E7(op:BinOp)(wr:Bool)(k:IntKind)(a b:Int):aY (Prop×ah):=
 match op with
 | .add=>if wr then some (True,.int k (k.wrap (a+b)))else some (k= .i64∧sH (a+b),.int .i64 (a+b))
 | .sub=>if wr then some (True,.int k (k.wrap (a-b)))else some (k= .i64∧sH (a-b),.int .i64 (a-b))
 | .mul=>if wr then some (True,.int k (k.wrap (a*b)))else some (k= .i64∧sH (a*b),.int .i64 (a*b))
 | .quo=>some (b≠0,.int k (k.wrap (a.tdiv b)))
 | .rem=>some (b≠0,.int k (a.tmod b))
 | .eql=>some (True,.bool (a==b))
 | .neq=>some (True,.bool (a !=b))
 | .lss=>some (True,.bool (decide (a<b)))
 | .leq=>some (True,.bool (decide (a≤b)))
 | .gtr=>some (True,.bool (decide (b<a)))
 | .geq=>some (True,.bool (decide (b≤a)))
 | .and=>some (True,.int k (k.wrap (p2 k.bits a&&& p2 k.bits b).toNat))
 | .or=>some (True,.int k (k.wrap (p2 k.bits a|||p2 k.bits b).toNat))
 | .xor=>some (True,.int k (k.wrap (p2 k.bits a ^^^ p2 k.bits b).toNat))
 |_=>none
def GG(op:BinOp)(a b:List dz):aY (Prop×ah):=
 match op with
 | .add=>some (a.length+b.length≤lim,.str (a++b))
 | .eql=>some (True,.bool (a==b))
 | .neq=>some (True,.bool (!(a==b)))
 | .lss=>some (True,.bool (ho a b))
 | .leq=>some (True,.bool (ho a b||a==b))
 | .gtr=>some (True,.bool (!(ho a b||a==b)))
 | .geq=>some (True,.bool (!ho a b))
 |_=>none
def AW(op:BinOp)(wr:Bool):ah→ah→aY (Prop×ah)
 | .int k a,.int bK b=>match op with
  | .shl=>some (0≤b,.int k (k.wrap (a*2 ^ (min b.toNat k.bits))))
  | .shr=>some (0≤b,.int k (a.fdiv (2 ^ (min b.toNat k.bits))))
  |_=>if k=bK then E7 op wr k a b else none
 | .str a,.str b=>GG op a b
 |_,_=>none
def nI(cs:List ah)(off:Nat)(cv:List ah):List ah:=cs.take off++cv++cs.drop (off+cv.length)
def tC(t:List (Nat×ah)):List ah→List (Nat×Nat×dn)→aY (Prop×List ah)
 |cs,[]=>some (True,cs)
 |cs,(off,sz,x)::r=>
  let p:=cp t x
  match tC t (nI cs off (cells p)) r with
  |some (c,cs')=>some ((eb p=true∧(cells p).length=sz∧off+sz≤cs.length)∧c,cs')
  |none=>none
def FV(c x y:ah):aY (Prop×ah):=
 match c with
 | .bool b=>match x,y with
  | .bool u,.bool v=>some (True,.bool (cond b u v))
  |p,q=>match b with
   |true=>some (True,p)
   |false=>some (True,q)
 |_=>none
def FJ:ah→aY (Prop×ah)
 | .bool b=>some (True,.bool (!b))
 |_=>none
def FF:ah→aY (Prop×ah)
 | .int k n=>some (True,.int k (k.wrap (0-n)))
 |_=>none
def yM(i:Nat):ah→aY (Prop×ah)
 | .tuple bc=>(bc[i]?).map fun p=>(True,p)
 |_=>none
def zD:ah→aY (Prop×ah)
 | .slice _ _ xs=>some (True,.int .i64 xs.length)
 | .row _ _ n=>some (True,.int .i64 n)
 | .cst (.slice _ n _)=>some (True,.int .i64 n)
 |_=>none
def C7:ah→aY (Prop×ah)
 | .str s=>some (True,.int .i64 s.length)
 | .cst (.string s)=>some (True,.int .i64 s.size)
 |_=>none
def D9(k:IntKind):ah→aY (Prop×ah)
 | .int _ n=>some (True,.int k (k.wrap n))
 |_=>none
def zN:ah→aY (Prop×ah)
 | .ptr k o=>some (True,.ptr k o)
 | .eptr p=>some (True,.eptr p)
 | .func f cs=>some (True,.func f cs)
 |_=>none
def FE:ah→ah→aY (Prop×ah)
 | .int k a,.int bK b=>if k=bK then some (True,.int k (if b<a then b else a))else none
 |_,_=>none
def jW:List Bool→List ah→List ah→aY Bool
 |[],[],[]=>some true
 |false::r,.int k a::as,.int bK b::eI=>if k=bK then(jW r as eI).map fun q=>(a==b)&&q else none
 |true::r,.str a::as,.str b::eI=>(jW r as eI).map fun q=>(a==b)&&q
 |_,_,_=>none
inductive jo where
 |i
 |s
 |a (dM:List Bool)
 deriving DecidableEq
def sL:jo→ah→ah→aY Bool
 | .i,.int k a,.int bK b=>if k=bK then some (a==b)else none
 | .s,.str a,.str b=>some (a==b)
 | .a dM,.agg as,.agg eI=>jW dM as eI
 |_,_,_=>none
def uf:jo→ah→Bool
 | .a dM,.agg as=>(jW dM as as).isSome
 | .a _,_=>false
 |_,_=>true
@[simp] theorem SJ(k:ah):uf .i k=true:=by cases k<;>rfl
@[simp] theorem aoq(k:ah):uf .s k=true:=by cases k<;>rfl
def vP(cd:jo)(k:ah):List ah→aY (aY ah)
 |bK::v::r=>match sL cd k bK with
  |some true=>some (some v)
  |some false=>vP cd k r
  |none=>none
 |_=>some none
def nF(b:aH→aY (List ah))(cd:jo)(zero:ah)(ok:Bool)(x k:ah):aY (Prop×ah):=
 match x with
 | .gmap key=>match b key with
  |some (.hdm _ _::kvs)=>if uf cd k=false then none else match vP cd k kvs with
   |some (some v)=>some (True,if ok then .tuple [v,.bool true]else v)
   |some none=>some (True,if ok then .tuple [zero,.bool false]else zero)
   |none=>none
  |_=>none
 |_=>none
def uv(b:aH→aY (List ah))(x:ah):aY (Prop×ah):=
 match x with
 | .gmap key=>match b key with
  |some (.hdm _ borns::_)=>some (True,.int .i64 borns.length)
  |_=>none
 |_=>none
def ic(neg:Bool):aY (List Bool)→ah→ah→aY (Prop×ah)
 |none,.bool a,.bool b=>some (True,.bool (if neg then a !=b else a==b))
 |some dM,.agg as,.agg eI=>(jW dM as eI).map fun q=>(True,.bool (if neg then !q else q))
 |_,_,_=>none
def FA:ah→ah→aY (Prop×ah)
 | .int k a,.int bK b=>if k=bK then some (True,.int k (if a<b then b else a))else none
 |_,_=>none
def uw(cd:jo)(k v:ah):List ah→aY (aY (List ah))
 |bK::v'::r=>match sL cd k bK with
  |some true=>some (some (k::v::r))
  |some false=>match uw cd k v r with
   |some (some eC)=>some (some (bK::v'::eC))
   |some none=>some none
   |none=>none
  |none=>none
 |_=>some none
def mu(n:Nat):List Nat→List ah→aY ah
 |b::eI,k::v::r=>if b=n then some (.tuple [k,v])else mu n eI r
 |_,_=>none
def o6(b:aH→aY (List ah))(x:ah):aY (Prop×ah):=
 match x with
 | .ptr ff 0=>match b ff with
  |some [.hdi _ seen last,.gmap mk]=>match b mk with
   |some (.hdm clock borns::kvs)=>match seen.getLast? with
    |some n=>(mu n borns kvs).map fun p=>(clock=last,p)
    |none=>none
   |_=>none
  |_=>none
 |_=>none
theorem TA{f g:aH→aY (List ah)}(h:∀k,f k≠none→g k=f k){cd:jo}{zero:ah}{ok:Bool}{x k:ah}{r:Prop×ah}(he:nF f cd zero ok x k=some r):nF g cd zero ok x k=some r:=by
 unfold nF at he⊢;split at he
 ·rename_i key;cases aJ:f key with
  |none=>simp[aJ]at he
  |some cs=>rw[h key (by rw[aJ];simp),aJ];rw[aJ]at he;exact he
 ·cases he
theorem af5{f g:aH→aY (List ah)}(h:∀k,f k≠none→g k=f k){x:ah}{r:Prop×ah}(he:uv f x=some r):uv g x=some r:=by
 unfold uv at he⊢;split at he
 ·rename_i key;cases aJ:f key with
  |none=>simp[aJ]at he
  |some cs=>rw[h key (by rw[aJ];simp),aJ];rw[aJ]at he;exact he
 ·cases he
theorem afK{f g:aH→aY (List ah)}(h:∀k,f k≠none→g k=f k){x:ah}{r:Prop×ah}(he:o6 f x=some r):o6 g x=some r:=by
 unfold o6 at he⊢;split at he
 ·rename_i ff;cases aJ:f ff with
  |none=>simp[aJ]at he
  |some cs=>
   simp only[h ff (by rw[aJ];simp),aJ]at he⊢;split at he
   ·rename_i since seen last mk dm;cases tR:f mk with
    |none=>simp[tR]at he
    |some eE=>simp only[h mk (by rw[tR];simp),tR]at he⊢;exact he
   ·cases he
 ·cases he
inductive fM where
 |mov (x:dn)
 |pick (c x y:dn)
 |load (agg:Bool) (sz:Nat) (x:dn)
 |faddr (off:Nat) (agg:Bool) (sz:Nat) (x:dn)
 |fld (off:Nat) (agg:Bool) (sz:Nat) (x:dn)
 |iaddr (sz:Nat) (x i:dn)
 |sidx (x i:dn)
 |ssl (x:dn) (lo hi:aY dn)
 |lsl (sz:Nat) (x:dn) (lo hi:aY dn)
 |bin (op:BinOp) (wr:Bool) (x y:dn)
 |notB (x:dn)
 |neg (x:dn)
 |conv (k:IntKind) (x:dn)
 |ext (i:Nat) (x:dn)
 |len (x:dn)
 |slen (x:dn)
 |build (zero:List ah) (parts:List (Nat×Nat×dn))
 |nck (x:dn)
 |min2 (x y:dn)
 |mkf (n:Nat) (xs:List dn)
 |mget (cd:jo) (zero:ah) (ok:Bool) (x k:dn)
 |ment (x:dn)
 |mlen (x:dn)
 |beq (neg:Bool) (dM:aY (List Bool)) (x y:dn)
 |max2 (x y:dn)
 |mkif (t:Nat) (x:dn)
 |loadB (agg:Bool) (sz:Nat) (x:dn)
 |mgetB (cd:jo) (zero:ah) (ok:Bool) (x k:dn)
 |loadZ (agg:Bool) (sz:Nat) (x:dn)
def hb(st:bq):fM→aY (Prop×ah)
 | .mov x=>some (True,cp st.t x)
 | .pick c x y=>FV (cp st.t c) (cp st.t x) (cp st.t y)
 | .load agg sz x=>mr st.b st.e agg sz (cp st.t x)
 | .faddr off agg sz x=>pC off agg sz (cp st.t x)
 | .fld off agg sz x=>q2 off agg sz (cp st.t x)
 | .iaddr sz x i=>zu sz (cp st.t x) (cp st.t i)
 | .sidx x i=>Gy (cp st.t x) (cp st.t i)
 | .ssl x lo hi=>GD (cp st.t x) (lo.map (cp st.t)) (hi.map (cp st.t))
 | .lsl sz x lo hi=>Fw sz (cp st.t x) (lo.map (cp st.t)) (hi.map (cp st.t))
 | .bin op wr x y=>AW op wr (cp st.t x) (cp st.t y)
 | .notB x=>FJ (cp st.t x)
 | .neg x=>FF (cp st.t x)
 | .conv k x=>D9 k (cp st.t x)
 | .ext i x=>yM i (cp st.t x)
 | .len x=>zD (cp st.t x)
 | .slen x=>C7 (cp st.t x)
 | .build zero parts=>(tC st.t zero parts).map fun(c,cs)=>(c,.agg cs)
 | .nck x=>zN (cp st.t x)
 | .min2 x y=>FE (cp st.t x) (cp st.t y)
 | .mkf n xs=>some (True,.func n (xs.map (cp st.t)))
 | .mget cd zero ok x k=>nF (fun k=>look k st.b) cd zero ok (cp st.t x) (cp st.t k)
 | .ment x=>o6 (fun k=>look k st.b) (cp st.t x)
 | .mlen x=>uv (fun k=>look k st.b) (cp st.t x)
 | .beq neg dM x y=>ic neg dM (cp st.t x) (cp st.t y)
 | .max2 x y=>FA (cp st.t x) (cp st.t y)
 | .mkif t x=>some (True,.iface t (cp st.t x))
 | .loadB agg sz x=>mr st.b [] agg sz (cp st.t x)
 | .mgetB cd zero ok x k=>nF (fun k=>look k st.b) cd zero ok (cp st.t x) (cp st.t k)
 | .loadZ agg sz x=>Bj agg sz (cp st.t x)
def zX(bB:List (Nat×dA))(dM:List (Nat×Nat)):List (Nat×Nat×dn)→List (Nat×Operand)→Bool
 |[],[]=>true
 |(off,sz,x)::r,(i,o)::s=>(match dM[i]? with|some (vT,t)=>off==vT&&((dY bB t).map (·.size))==some sz|none=>false)&&eg x o&&zX bB dM r s
 |_,_=>false
def GZ:ah→ah→Bool
 | .int k n,.int bK n'=>decide (k=bK∧n=n')
 | .bool b,.bool b1=>b==b1
 | .str [],.str []=>true
 | .slice a .nil [],.slice b .nil []=>a==b
 | .nilp,.nilp=>true
 | .junk,.junk=>true
 |_,_=>false
def yn:List ah→List ah→Bool
 |[],[]=>true
 |c::cs,d::eE=>GZ c d&&yn cs eE
 |_,_=>false
def AJ:ah→ah→Bool
 | .agg cs,.agg eE=>yn cs eE
 | .agg _,_=>false
 |p,q=>GZ p q
def xV:List dn→List Operand→Bool
 |[],[]=>true
 |x::xs,o::os=>eg x o&&xV xs os
 |_,_=>false
def yS(bB:List (Nat×dA)):Nat→List Bool→List (Nat×Nat)→Bool
 |_,[],[]=>true
 |n,b::r,(off,t)::dM=>off==n&&(match dY bB t with|some ⟨_,_,.int _,_⟩=> !b|some ⟨_,_,.str,_⟩=>b|_=>false)&&yS bB (n+1) r dM
 |_,_,_=>false
def Eo(bB:List (Nat×dA))(dM:List Bool)(t:Nat):Bool:=match dY bB t with
 |some ⟨_,_,.struct gs,_⟩=>yS bB 0 dM gs
 |_=>false
def xE(bB:List (Nat×dA))(cd:jo)(t:Nat):Bool:=match cd with
 | .i=>(match dY bB t with|some ⟨_,_,.int _,_⟩=>true|_=>false)
 | .s=>(match dY bB t with|some ⟨_,_,.str,_⟩=>true|_=>false)
 | .a dM=>Eo bB dM t
def MJ:List ah→ah→Bool
 |cs,.agg eE=>yn cs eE
 |_,_=>false
def vW:aY dn→aY Operand→Bool
 |none,none=>true
 |some x,some o=>eg x o
 |_,_=>false
def Di(bB:List (Nat×dA)):fM→Op→Bool
 | .mov x,.move o=>eg x o
 | .mov x,.assign o=>eg x o
 | .pick c x y,.pick cr GW WV=>eg c cr&&eg x GW&&eg y WV
 | .load agg sz x,.load t o=>(match dY bB t with|some f=>f.size==sz&&f.kind.isAgg==agg|none=>false)&&eg x o
 | .faddr off agg sz x,.fieldAddr s o i=>
  (match dY bB s with
   |some ⟨_,_,.struct dM,_⟩=>(match dM[i]? with|some (vT,t)=>off==vT&&(match dY bB t with|some f=>f.size==sz&&f.kind.isAgg==agg&&sz !=0|none=>false)|none=>false)
   |_=>false)&&eg x o
 | .fld off agg sz x,.field s o i=>
  (match dY bB s with
   |some ⟨_,_,.struct dM,_⟩=>(match dM[i]? with|some (vT,t)=>off==vT&&(match dY bB t with|some f=>f.size==sz&&f.kind.isAgg==agg|none=>false)|none=>false)
   |_=>false)&&eg x o
 | .iaddr sz x i,.indexAddr t o j=>(match dY bB t with|some ⟨_,_,.slice e,_⟩=>(match dY bB e with|some f=>f.size==sz|none=>false)|_=>false)&&eg x o&&eg i j
 | .sidx x i,.index t o j=>(match dY bB t with|some ⟨_,_,.str,_⟩=>true|_=>false)&&eg x o&&eg i j
 | .ssl x lo hi,.slice t o l h none=>(match dY bB t with|some ⟨_,_,.str,_⟩=>true|_=>false)&&eg x o&&vW lo l&&vW hi h
 | .lsl sz x lo hi,.slice t o l h none=>(match dY bB t with|some ⟨_,_,.slice e,_⟩=>(match dY bB e with|some f=>f.size==sz|none=>false)|_=>false)&&eg x o&&vW lo l&&vW hi h
 | .bin op _ x y,.binOp Ua _ o o' _=>decide (op=Ua)&&eg x o&&eg y o'
 | .notB x,.unOp op _ o=>decide (op= .not)&&eg x o
 | .neg x,.unOp op _ o=>decide (op= .neg)&&eg x o
 | .conv k x,.convert s d o=>(match dY bB s,dY bB d with|some ⟨_,_,.int _,_⟩,some ⟨_,_,.int bK,_⟩=>decide (k=bK)|_,_=>false)&&eg x o
 | .ext i x,.extract o j=>i==j&&eg x o
 | .len x,.call ⟨.builtin .len,⟨[o]⟩,⟨[t]⟩⟩=>(match dY bB t with|some ⟨_,_,.slice _,_⟩=>true|_=>false)&&eg x o
 | .slen x,.call ⟨.builtin .len,⟨[o]⟩,⟨[t]⟩⟩=>(match dY bB t with|some ⟨_,_,.str,_⟩=>true|_=>false)&&eg x o
 | .build zero parts,.build t cv=>(match dY bB t with|some ⟨_,_,.struct dM,z⟩=>MJ zero z&&(dM.all fun x=>(dY bB x.2).isSome)&&zX bB dM parts cv.toList|_=>false)
 | .nck x,.nilCheck o=>eg x o
 | .min2 x y,.call ⟨.builtin .min,⟨[o,o']⟩,⟨[_,_]⟩⟩=>eg x o&&eg y o'
 | .mkf n xs,.makeFunc (.func m) ⟨[]⟩ os=>n==m&&xV xs os.toList
 | .mget cd zero ok x k,.lookup t o o' FK=>ok==FK&&(match dY bB t with|some ⟨_,_,.map mq oT,_⟩=>xE bB cd mq&&(match dY bB oT with|some f=>AJ zero f.zero|none=>false)|_=>false)&&eg x o&&eg k o'
 | .ment x,.entry o=>eg x o
 | .mlen x,.call ⟨.builtin .len,⟨[o]⟩,⟨[t]⟩⟩=>(match dY bB t with|some ⟨_,_,.map _ _,_⟩=>true|_=>false)&&eg x o
 | .beq neg dM x y,.binOp op t o o' _=>decide (op=if neg then .neq else .eql)&&(match dM with|none=>(match dY bB t with|some ⟨_,_,.bool,_⟩=>true|_=>false)|some dM=>Eo bB dM t)&&eg x o&&eg y o'
 | .max2 x y,.call ⟨.builtin .max,⟨[o,o']⟩,⟨[_,_]⟩⟩=>eg x o&&eg y o'
 | .mkif t x,.makeInterface dJ o=>t==dJ&&(match dY bB t with|some ⟨_,_,.slice _,_⟩=>true|_=>false)&&eg x o
 | .loadB agg sz x,.load t o=>(match dY bB t with|some f=>f.size==sz&&f.kind.isAgg==agg|none=>false)&&eg x o
 | .loadZ agg sz x,.load t o=>(match dY bB t with|some f=>f.size==sz&&f.kind.isAgg==agg|none=>false)&&eg x o
 | .mgetB cd zero ok x k,.lookup t o o' FK=>ok==FK&&(match dY bB t with|some ⟨_,_,.map mq oT,_⟩=>xE bB cd mq&&(match dY bB oT with|some f=>AJ zero f.zero|none=>false)|_=>false)&&eg x o&&eg k o'
 |_,_=>false
end Go.Pv
namespace Go.Pv
open Go Go.RowKit
theorem Ic(P:cD)(w:World)(op:BinOp)(t:fR)(x y:Operand)(k bK:IntKind)(m n:Int):(eqGuard op t x y (.int k m) (.int bK n)).run P w= .ok () w:=by cases op<;>rfl
theorem YV(P:cD)(w:World)(op:BinOp)(t:fR)(x y:Operand)(m n:ByteArray):(eqGuard op t x y (.string m) (.string n)).run P w= .ok () w:=by cases op<;>rfl
theorem akH(l:List dz):(⟨l.toArray⟩:ByteArray).toList=l:=by simp
theorem Xz(a b:List dz):(⟨a.toArray⟩:ByteArray)++(⟨b.toArray⟩:ByteArray)=⟨(a++b).toArray⟩:=by apply aml;simp
theorem ZO(a:List dz)(l h:Nat):(⟨a.toArray⟩:ByteArray).extract l h=⟨((a.take h).drop l).toArray⟩:=by apply aml;simp[List.drop_take]
theorem C6(a:List dz):(⟨a.toArray⟩:ByteArray).size=a.length:=by simp[arE]
section
variable {P:cD} {w:World} {r:Sem Value}
theorem q4{k:IntKind}{x:Int}(h:r.run P w= .ok (.int k x) w):∃v,r.run P w= .ok v w∧∀ν,a8 w ν (.int k x) v:=⟨_,h,fun ν=>by simp[a8]⟩
theorem QW{x:Bool}(h:r.run P w= .ok (.bool x) w):∃v,r.run P w= .ok v w∧∀ν,a8 w ν (.bool x) v:=⟨_,h,fun ν=>by simp[a8]⟩
end
theorem aeK(P:cD)(w:World){op:BinOp}{wr:Bool}{k:IntKind}{a b:Int}{c:Prop}{p:ah}(he:E7 op wr k a b=some (c,p))(au:c)(t:fR):
  ∃v,(binOp op t (.int k a) (.int k b)).run P w= .ok v w∧∀ν,a8 w ν p v:=by
 cases op<;>simp only[E7]at he;case add=>
  cases wr<;>simp only[if_true,gS,if_false]at he<;>cases he
  ·obtain⟨rfl,h⟩:=au;exact q4 (by simp[binOp,Op.intArith,oF _ h])
  ·exact q4 (by simp[binOp,Op.intArith])
 case sub=>
  cases wr<;>simp only[if_true,gS,if_false]at he<;>cases he
  ·obtain⟨rfl,h⟩:=au;exact q4 (by simp[binOp,Op.intArith,oF _ h])
  ·exact q4 (by simp[binOp,Op.intArith])
 case mul=>
  cases wr<;>simp only[if_true,gS,if_false]at he<;>cases he
  ·obtain⟨rfl,h⟩:=au;exact q4 (by simp[binOp,Op.intArith,oF _ h])
  ·exact q4 (by simp[binOp,Op.intArith])
 case quo=>cases he;exact q4 (by simp[binOp,Op.intDiv,au])
 case rem=>cases he;exact q4 (by simp[binOp,Op.intDiv,au])
 case and=>cases he;exact q4 (by simp only[binOp,Op.intBits,ne_eq,not_true_eq_false,if_false,gu])
 case or=>cases he;exact q4 (by simp only[binOp,Op.intBits,ne_eq,not_true_eq_false,if_false,gu])
 case xor=>cases he;exact q4 (by simp only[binOp,Op.intBits,ne_eq,not_true_eq_false,if_false,gu])
 all_goals cases he
 all_goals exact QW (by simp only[binOp,Op.intCmp,ne_eq,not_true_eq_false,if_false,gu,gt_iff_lt,ge_iff_le])
theorem akq(P:cD)(w:World){op:BinOp}{a b:List dz}{c:Prop}{p:ah}(he:GG op a b=some (c,p))(au:c)(t:fR):
  ∃v,(binOp op t (.string ⟨a.toArray⟩) (.string ⟨b.toArray⟩)).run P w= .ok v w∧∀ν,a8 w ν p v:=by
 cases op<;>simp only[GG]at he;case add=>
  cases he;refine⟨.string ⟨(a++b).toArray⟩,?_,fun ν=>by simp only[a8];exact⟨trivial,by simpa using au⟩⟩;have J:¬(((⟨a.toArray⟩:ByteArray).size+(⟨b.toArray⟩:ByteArray).size:Nat):Int)>IntKind.i64.max:=by
   have:IntKind.i64.max=9223372036854775807:=by decide
   rw[this,C6,C6];simp only[lim]at au;omega
  simp only[binOp,Op.stringOp,J,if_false,gu,Xz]
 all_goals cases he
 all_goals exact QW (by simp only[binOp,Op.stringOp,akH,gu])
theorem XL(P:cD)(w:World)(ν:bd){op:BinOp}{wr:Bool}{x y:ah}{c:Prop}{p:ah}(he:AW op wr x y=some (c,p))(au:c)(t:fR){u v:Value}(hu:a8 w ν x u)(aG:a8 w ν y v)(o o':Operand):
  ∃r,(do eqGuard op t o o' u v;binOp op t u v).run P w= .ok r w∧a8 w ν p r:=by
 unfold AW at he;split at he
 ·rename_i k a bK b;simp only[a8]at hu aG;subst hu;subst aG;split at he
  ·cases he;refine⟨_,?_,by simp[a8];rfl⟩;simp[binOp,Op.shift,Ic,Int.not_lt.2 au]
  ·cases he;refine⟨_,?_,by simp[a8];rfl⟩;simp[binOp,Op.shift,Ic,Int.not_lt.2 au]
  ·split at he
   ·rename_i ab;subst ab;obtain⟨r,J,U⟩:=aeK P w he au t;exact⟨r,by simp[Ic,J],U ν⟩
   ·cases he
 ·simp only[a8]at hu aG;rw[hu.1,aG.1];obtain⟨r,J,U⟩:=akq P w he au t;exact⟨r,by simp[YV,J],U ν⟩
 ·cases he
theorem Ix{w:World}{ν:bd}:∀(v:List Value) (i off:Nat) (cs:Array Value),off+i+v.length≤cs.size→
  ((v.zipIdx i).foldl (fun cs (x:Value×Nat)=>cs.setIfInBounds (off+x.2) x.1) cs).toList=cs.toList.take (off+i)++v++cs.toList.drop (off+i+v.length)
 |[],i,off,cs,_=>by simp
 |u::v,i,off,cs,h=>by
  simp only[List.zipIdx_cons,List.foldl_cons];rw[Ix (w:=w) (ν:=ν) v (i+1) off _ (by simp at h⊢;omega)];have bD:off+i<cs.toList.length:=by simp at h⊢;omega
  simp only[Array.toList_setIfInBounds];have ak:(cs.toList.set (off+i) u).take (off+(i+1))=cs.toList.take (off+i)++[u]:=by rw[show off+(i+1)=(off+i)+1 from by omega,List.take_succ_eq_append_getElem (by simpa using bD)];simp[List.take_set_of_le (eR _)]
  have aC:(cs.toList.set (off+i) u).drop (off+(i+1)+v.length)=cs.toList.drop (off+i+(u::v).length):=by rw[List.drop_set_of_lt (by omega)];congr 1;simp;omega
  rw[ak,aC];simp
theorem VB{w:World}{ν:bd}{C:e9}{st:bq}{a:Act}(aK:cS C st a w ν){bB:List (Nat×dA)}{dM:List (Nat×Nat)}{sU:List (Nat×Nat)}
  (bI:∀(i off t sz:Nat),dM[i]? =some (off,t)→(dY bB t).map (·.size)=some sz→sU[i]? =some (off,sz)):
  ∀(parts:List (Nat×Nat×dn)) (cv:List (Nat×Operand)) (cs:List ah) (us:Array Value) (c:Prop) (cs':List ah),zX bB dM parts cv=true→c5 w ν cs us.toList→tC st.t cs parts=some (c,cs')→c→
  ∃ck:Array Value,Instr.fill (sU.toArray[·]?) us (cv.map fun(x:Nat×Operand)=>(x.1,a.eval x.2))=some ck∧c5 w ν cs' ck.toList
 |[],[],cs,us,c,cs',_,h,he,au=>by simp only[tC]at he;cases he;exact⟨us,by simp[Instr.fill],h⟩
 |[],_::_,_,_,_,_,eU,_,_,_=>by simp[zX]at eU
 |_::_,[],_,_,_,_,eU,_,_,_=>by simp[zX]at eU
 |(off,sz,x)::parts,(i,o)::cv,cs,us,c,cs',eU,h,he,au=>by
  simp only[zX,cC]at eU;obtain⟨⟨J,U⟩,ao⟩:=eU;split at J
  ·rename_i vT t BA;simp only[cC,dO]at J;obtain⟨rfl,J⟩:=J;have sE:=bI i off t sz BA J;simp only[tC]at he;split at he
   ·rename_i cr ang ad;cases he;obtain⟨⟨ag,av,hle⟩,hq⟩:=au;have ae:=eh aK U;have lj:=uH ae ag;have hlen:=pb lj;have rs:=pb h;have kG:(a.eval o).cells.size=sz:=by have:(a.eval o).cells.toList.length=(cells (cp st.t x)).length:=hlen;rw[av]at this;simpa using this
    have qv:us.size=cs.length:=by simpa using rs
    have xu:=Ix (w:=w) (ν:=ν) (a.eval o).cells.toList 0 off us (by simp[kG,qv];omega);have mf:c5 w ν (nI cs off (cells (cp st.t x))) ((((a.eval o).cells.toList.zipIdx 0).foldl (fun cs (x:Value×Nat)=>cs.setIfInBounds (off+x.2) x.1) us).toList):=by rw[xu];unfold nI;refine x3 (x3 (CW off h) lj) ?_;rw[Nat.add_zero,hlen];exact Ah _ h
    obtain⟨ck,g1,g2⟩:=VB aK bI parts cv _ _ cr cs' ao mf ad hq;refine⟨ck,?_,g2⟩;simp only[hf,Instr.fill,List.getElem?_toArray,sE];rw[if_neg (by simp[kG,qv];omega)];rw[←g1];simp only[List.getElem?_toArray];congr 1;rw[←Array.foldl_toList];simp
   ·cases he
  ·cases J
end Go.Pv
namespace Go.Pv
open Go Go.RowKit
theorem uT{P:cD}{bB:List (Nat×dA)}(aO:fL P bB=true){t:Nat}{f:dA}(aJ:dY bB t=some f)(w:World):
  (Go.isAgg t).run P w= .ok f.kind.isAgg w∧(sizeOf t).run P w= .ok f.size w:=by
 obtain⟨i,d,z,J,U,ao,ba,b2,c7,ef,nx⟩:=(uU aO aJ).ex;refine⟨?_,by simp[sizeOf,typeInfo,J,ao]⟩;simp only[Go.isAgg,fE,run_underlying U,fI];cases ab:f.kind<;>rw[ab]at b2<;>cases d<;>simp[jX]at b2<;>simp[AP.isAgg]
theorem iK{P:cD}{bB:List (Nat×dA)}(aO:fL P bB=true){t:Nat}{f:dA}(aJ:dY bB t=some f):∃d,P.underlying t=some d∧jX f.kind d=true:=by obtain⟨i,d,z,J,U,ao,ba,b2,c7,ef,nx⟩:=(uU aO aJ).ex;exact⟨d,U,b2⟩
theorem sg{e:Nat}{d:TypeDesc}(h:jX (.slice e) d=true):d= .slice e:=by cases d<;>simp[jX]at h;subst h;rfl
theorem yK{d:TypeDesc}(h:jX .str d=true):d= .string:=by cases d<;>simp[jX]at h;rfl
theorem Eb{k:IntKind}{d:TypeDesc}(h:jX (.int k) d=true):d= .int k:=by cases d<;>simp[jX]at h;subst h;rfl
theorem HX{dM:List (Nat×Nat)}{d:TypeDesc}(h:jX (.struct dM) d=true):∃gs:Array Field,d= .struct gs∧gs.toList.map (fun f=>(f.offset,f.type))=dM:=by cases d<;>simp[jX]at h;rename_i gs;exact⟨gs,rfl,by simpa using h⟩
theorem Gk{w:World}{ν:bd}{cs:List ah}{us:List Value}(h:c5 w ν cs us)(off sz:Nat):c5 w ν ((cs.drop off).take sz) ((us.drop off).take sz):=CW sz (Ah off h)
theorem Uf{w:World}{base el sz n:Nat}{v:Value}{us:List Value}(h:w.ownsRow base el sz v n us){b:Nat}(ad:v.ownBlock=some b):∃cap,v= .slice (some ⟨b,0,none⟩) n cap:=by
 rcases h.2 with⟨rfl,_⟩|⟨g,cap,cur,rfl,_⟩
 ·simp[nP]at ad
 ·simp[nP]at ad;subst ad;exact⟨cap,rfl⟩
theorem Good.rowElem{pr:Nat→Prop}{w:World}{ν:bd}{b:List (aH×List ah)}{e:List (aH×fK)}(a1:Good pr w ν b e){k:aH}{n el sz:Nat}{xs:List ah}(ab:look k e=some ⟨n,el,sz,some xs⟩){i f:Nat}{u:Value}(ae:a8 w ν (.rptr sz k n i f) u){p:ah}(bI:xs[i]? =some p):
  ∃(v:Value) (us:List Value) (fN:Nat),a8 w ν p v∧v.cells.size=sz∧∃b o,u= .pointer (some ⟨b,o,none⟩)∧∀j c,v.cells.toList[f+j]? =some c→w.cell? ⟨b,o+j,none⟩=some c:=by
 simp only[a8]at ae;obtain⟨_,hi,n',e1,J,U,ao⟩:=ae;obtain⟨v,us,a6,bE,bX,cX⟩:=a1.own k _ ab;rw[J]at a6;simp only[dG,jm]at a6;obtain⟨rfl,rfl⟩:=a6;obtain⟨bl,ad,rfl⟩:=ao rfl;obtain⟨cap,rfl⟩:=Uf bE ad;obtain⟨av,mf,_⟩:=cX xs rfl;simp only at av mf;obtain⟨v,dH,e8,kI⟩:=Gh i mf bI;refine⟨v,us,el,dH,e8,bl,_,rfl,fun j c af=>?_⟩;have bD:f+j<sz:=by have:=(fi.1 af).1;simp[e8]at this;exact this
 have hmul:i*sz+sz≤n'*sz:=by have:=Nat.mul_le_mul_right sz (show i+1≤n' from hi);rwa[Nat.succ_mul]at this
 have au:=bE.cellAt (i*sz+f+j) (by show _<n'*sz;omega);rw[au];rw[kI,List.getElem?_take,if_pos bD,List.getElem?_drop]at af;rw[←af];congr 1;omega
theorem Fv{P:cD}{bB:List (Nat×dA)}(aO:fL P bB=true){pr:Nat→Prop}{w:World}{ν:bd}{b:List (aH×List ah)}{e:List (aH×fK)}(a1:Good pr w ν b e){t:Nat}{f:dA}(aJ:dY bB t=some f)
  {x:ah} {u:Value} (ae:a8 w ν x u) {c:Prop} {p:ah} (he:mr b e f.kind.isAgg f.size x=some (c,p)) (au:c):∃v,(Instr.loadAt t u).run P w= .ok v w∧a8 w ν p v:=by
 obtain⟨bt,ag⟩:=uT aO aJ w;generalize Ez:f.kind.isAgg=eX at*;generalize dX:f.size=sz at*;unfold mr at he;split at he
 ·rename_i dF k n i sn;unfold x7 at he;split at he
  ·rename_i n' el jb xs ab;split at he
   ·rename_i aA;obtain⟨rfl,rfl⟩:=aA;split at he
    ·rename_i FT ad6;obtain⟨My,us,fN,g1,g2,qo⟩:=Good.rowElem a1 ab ae ad6;have kX:eb FT=true:=by
      cases eX
      ·simp only[gS,if_false,gJ]at he;obtain⟨q,_,he⟩:=he;cases he;exact au
      ·simp only[if_true]at he;cases he;exact au.1
     have dm:=uH g1 kX;cases eX
     ·simp only[gS,if_false,gJ]at he;obtain⟨q,br,he⟩:=he;cases he;obtain⟨v,f1,f2,f3⟩:=CV sn dm br;refine⟨v,?_,f2⟩;obtain⟨b,o,rfl,qo⟩:=qo;have:=qo 0 v (by simpa using f1);simp only[Nat.add_zero]at this;simp[Instr.loadAt,Instr.sureAddr,loadVar,bt,this]
     ·simp only[if_true]at he;cases he;obtain⟨b,o,rfl,qo⟩:=qo;refine⟨.agg ((My.cells.toList.drop sn).take sz).toArray,?_,by simp only[a8];exact⟨_,rfl,by simpa using Gk dm sn sz⟩⟩;have av:=pb dm;have hlen:((My.cells.toList.drop sn).take sz).length=sz:=by simp only[List.length_take,r7];omega
      have iF:=run_loadCells_list (P:=P) w ⟨b,o,none⟩ ((My.cells.toList.drop sn).take sz) (fun j v af=>by
       rw[oL];refine qo j v ?_;rw[List.getElem?_take]at af;split at af
       ·simpa[List.getElem?_drop]using af
       ·cases af)
      rw[hlen]at iF;simp only[Instr.loadAt,Instr.sureAddr,loadVar,fE,gu,fI,bt,if_true,ag,iF]
    ·cases he
   ·cases he
  ·cases he
 ·rename_i k off;simp only[a8]at ae;obtain⟨bl,J,rfl⟩:=ae;split at he
  ·rename_i cs ab;obtain⟨ie,us,el,g1,g2,g3,g4,g5⟩:=a1.box k cs ab;rw[J]at g1;cases g1;have sE:hP cs=true:=by
    cases eX
    ·simp only[gS,if_false,gJ]at he;obtain⟨q,br,he⟩:=he;cases he;exact au
    ·simp only[if_true]at he;cases he;exact au.1
   rw[uz sE]at g4;rw[uA sE]at g5;have av:=pb g5;cases eX
   ·simp only[gS,if_false,gJ]at he;obtain⟨q,br,he⟩:=he;cases he;obtain⟨v,f1,f2,f3⟩:=CV off g5 br;refine⟨v,?_,f2⟩;have qo:w.cell? ⟨bl,off,none⟩=some v:=by simpa[World.cell?,g4]using f1
    simp[Instr.loadAt,Instr.sureAddr,loadVar,bt,qo]
   ·simp only[if_true]at he;cases he;replace au:=au.2;refine⟨_,?_,by simp only[a8];exact⟨_,rfl,by simpa using Gk g5 off sz⟩⟩;simp only[Instr.loadAt,Instr.sureAddr,loadVar,fE,gu,fI,bt,if_true,ag];rw[ajL g4 (by simp at av;omega)];rfl
  ·cases he
 ·rename_i q;simp only[a8]at ae;obtain⟨bl,off,e1,rfl,U,ao⟩:=ae;cases eX
  ·simp only[gS,if_false]at he;cases he;obtain⟨Re,y2⟩:=au;obtain⟨g1,g2⟩:=LB U Re (fun cs e=>by subst e;have:=e2 List.length y2;simp only[cells,p6,List.length_nil]at this;cases cs with
    |nil=>simp[cells]at y2
    |cons y ys=>simp only[cells,p4]at y2;obtain⟨ak,aC⟩:=y2;subst aC;have:=e2 SizeOf.sizeOf ak;simp at this;omega)
   refine⟨e1,?_,U⟩;rw[g2]at ao;have qo:=ao.1.2;simp[Instr.loadAt,Instr.sureAddr,loadVar,bt,qo]
  ·simp only[if_true]at he;cases he;obtain⟨cs,rfl,hlen⟩:=au;simp only[a8]at U;obtain⟨us,rfl,ba⟩:=U;refine⟨.agg us,?_,by simp only[a8];exact⟨us,rfl,ba⟩⟩;simp only[pe]at ao;have av:=pb ba;have:=ajM (P:=P) ao;rw[show us.toList.length=sz from by omega]at this;simp[Instr.loadAt,Instr.sureAddr,loadVar,bt,ag,this]
 ·cases he
theorem abM{P:cD}{bB:List (Nat×dA)}(aO:fL P bB=true){w:World}{ν:bd}{s i:Nat}{f:dA}{dM:List (Nat×Nat)}(aJ:dY bB s=some f)(ab:f.kind= .struct dM){off t:Nat}{g:dA}(hi:dM[i]? =some (off,t))(a1:dY bB t=some g)(bA:g.size≠0)
  {x:ah} {u:Value} (ae:a8 w ν x u) {c:Prop} {p:ah} (he:pC off g.kind.isAgg g.size x=some (c,p)) (au:c):∃v,(Instr.fieldAt s u i).run P w= .ok v w∧a8 w ν p v:=by
 obtain⟨d,aP,eT⟩:=iK aO aJ;rw[ab]at eT;obtain⟨gs,rfl,kj⟩:=HX eT;have tU:∃fd:Field,gs[i]? =some fd∧fd.offset=off∧fd.type=t:=by rw[←kj]at hi;simp only[List.getElem?_map,gJ]at hi;obtain⟨fd,J,U⟩:=hi;simp only[jm]at U;exact⟨fd,by simpa using J,U.1,U.2⟩
 obtain⟨fd,EG,ax,oc⟩:=tU;obtain⟨bt,ag⟩:=uT aO a1 w;have iF:∀b o,(Instr.fieldAt s (.pointer (some ⟨b,o,none⟩)) i).run P w= .ok (.pointer (some ⟨b,o+off,none⟩)) w:=by intro b o;simp[Instr.fieldAt,run_underlying aP,EG,Instr.sureAddr,fieldPlace,oc,ag,bA,oL,ax]
 unfold pC at he;split at he
 ·cases he;simp only[a8]at ae;obtain⟨b,J,rfl⟩:=ae;exact⟨_,iF _ _,by simp only[a8];exact⟨b,J,rfl⟩⟩
 ·cases he;simp only[a8]at ae;obtain⟨⟨b,o,rfl⟩,hi,n',e1,J,U,ao⟩:=ae;refine⟨_,iF _ _,?_⟩;simp only[a8];refine⟨⟨b,_,rfl⟩,hi,n',e1,J,U,fun e=>?_⟩;obtain⟨b1,ak,aC⟩:=ao e;simp only[arL,dG,Addr.mk.injEq,and_true]at aC;obtain⟨rfl,rfl⟩:=aC;exact⟨b,ak,by rw[Nat.add_assoc]⟩
 ·rename_i cs;simp only[a8]at ae;obtain⟨b,o,e1,rfl,⟨us,rfl,U⟩,ao⟩:=ae;refine⟨_,iF _ _,?_⟩;simp only[pe]at ao;split at he
  ·cases he;simp only[a8];exact⟨b,o+off,.agg ((us.toList.drop off).take g.size).toArray,rfl,⟨_,rfl,by simpa using Gk U off g.size⟩,by simpa[pe]using Fp g.size (Fm off ao)⟩
  ·simp only[gJ]at he;obtain⟨q,br,he⟩:=he;cases he;obtain⟨v,f1,f2,f3⟩:=CV off U br;simp only[a8];have adO:=um ao f1;have aet:v.cells= #[v]:=by cases v<;>first|rfl|cases f3
   exact⟨b,o+off,v,rfl,f2,by rw[aet];exact⟨adO,trivial⟩⟩
 ·cases he
theorem abT{P:cD}{bB:List (Nat×dA)}(aO:fL P bB=true){w:World}{ν:bd}{s i:Nat}{f:dA}{dM:List (Nat×Nat)}(aJ:dY bB s=some f)(ab:f.kind= .struct dM){off t:Nat}{g:dA}(hi:dM[i]? =some (off,t))(a1:dY bB t=some g)
  {x:ah} {u:Value} (ae:a8 w ν x u) {c:Prop} {p:ah} (he:q2 off g.kind.isAgg g.size x=some (c,p)) (au:c):∃v,(Instr.field s u i).run P w= .ok v w∧a8 w ν p v:=by
 obtain⟨d,aP,eT⟩:=iK aO aJ;rw[ab]at eT;obtain⟨gs,rfl,kj⟩:=HX eT;have tU:∃fd:Field,gs[i]? =some fd∧fd.offset=off∧fd.type=t:=by rw[←kj]at hi;simp only[List.getElem?_map,gJ]at hi;obtain⟨fd,J,U⟩:=hi;simp only[jm]at U;exact⟨fd,by simpa using J,U.1,U.2⟩
 obtain⟨fd,EG,ax,oc⟩:=tU;obtain⟨bt,ag⟩:=uT aO a1 w;unfold q2 at he;split at he
 ·rename_i cs;simp only[a8]at ae;obtain⟨us,rfl,U⟩:=ae;generalize Ez:g.kind.isAgg=eX at*;cases eX
  ·simp only[gS,if_false,gJ]at he;obtain⟨q,br,he⟩:=he;cases he;obtain⟨v,f1,f2,f3⟩:=CV off U br;have ZP:us[off]? =some v:=by simpa using f1
   exact⟨v,by simp[Instr.field,run_underlying aP,EG,asAgg,part,oc,bt,ax,ZP],f2⟩
  ·simp only[if_true]at he;cases he;refine⟨.agg (us.extract off (off+g.size)),by simp[Instr.field,run_underlying aP,EG,asAgg,part,oc,bt,ax,ag],?_⟩;simp only[a8];refine⟨_,rfl,?_⟩;have:=Gk U off g.size;simpa[List.take_drop]using this
 ·cases he
theorem aeF{P:cD}{bB:List (Nat×dA)}(aO:fL P bB=true){w:World}{ν:bd}{t e:Nat}{f g:dA}(aJ:dY bB t=some f)(ab:f.kind= .slice e)(a1:dY bB e=some g)
  {x y:ah} {u v:Value} (ae:a8 w ν x u) (aL:a8 w ν y v) {c:Prop} {p:ah} (he:zu g.size x y=some (c,p)) (au:c):∃r,(Instr.indexAt t u v).run P w= .ok r w∧a8 w ν p r:=by
 obtain⟨d,aP,eT⟩:=iK aO aJ;rw[ab]at eT;obtain rfl:=sg eT;obtain⟨bt,ag⟩:=uT aO a1 w;unfold zu at he;split at he
 ·rename_i dF tag xs k i;split at he
  ·rename_i dX;cases he;simp only[a8]at ae aL;subst aL;subst dX;obtain⟨⟨a,cap,rfl,J,U,ao⟩,_⟩:=ae;obtain⟨BF,lO⟩:=au;have jg:i.toNat<xs.length:=by omega
   rcases ao with rfl|⟨b,off,us,rfl,ba,b2⟩
   ·simp at jg
   ·have ae:xs[i.toNat]? =some xs[i.toNat]:=cf jg;obtain⟨w',dH,e8,kI⟩:=Gh i.toNat b2 ae;refine⟨.pointer (some ⟨b,off+i.toNat*g.size,none⟩),?_,?_⟩
    ·simp only[Instr.indexAt,asIntOf,fE,gu,fI,run_underlying aP,BF,lO,and_self,if_true,ag,oL]
    ·simp only[a8];refine⟨b,off+i.toNat*g.size,w',rfl,by simpa[List.getD,ae]using dH,?_⟩;rw[kI];exact Fp g.size (Fm _ ba)
  ·cases he
 ·rename_i dF k n nD i;split at he
  ·rename_i dX;cases he;simp only[a8]at ae aL;subst aL;subst dX;obtain⟨⟨b,cap,rfl⟩,U,n',e1,ao,ba,b2⟩:=ae;obtain⟨BF,lO⟩:=au;refine⟨.pointer (some ⟨b,0+i.toNat*g.size,none⟩),?_,?_⟩
   ·simp only[Instr.indexAt,asIntOf,fE,gu,fI,run_underlying aP,BF,lO,and_self,if_true,ag,oL]
   ·simp only[a8];refine⟨⟨b,_,rfl⟩,by omega,n',e1,ao,ba,fun e=>⟨b,?_,by simp⟩⟩;rw[←b2 e];rfl
  ·cases he
 ·cases he
theorem FO{C:e9}{st:bq}{a:Act}{w:World}{ν:bd}(h:cS C st a w ν){x:aY dn}{o:aY Operand}(ae:vW x o=true){Ec n:Int}(he:qA Ec (x.map (cp st.t))=some n):
  (o.map a.eval=none∧n=Ec)∨ ∃k,o.map a.eval=some (.int k n):=by
 cases x with
 |none=>cases o with
  |none=>simp[qA]at he;exact .inl ⟨rfl,he.symm⟩
  |some o=>simp[vW]at ae
 |some x=>cases o with
  |none=>simp[vW]at ae
  |some o=>
   simp only[vW]at ae
   have:=eh h ae
   simp only[nQ]at he⊢
   cases tQ:cp st.t x<;>simp[tQ,qA]at he
   rw[tQ]at this
   simp only[a8]at this
   subst he
   exact .inr ⟨_,by rw[this]⟩
theorem WX{c d:ah}(h:GZ c d=true):c=d:=by unfold GZ at h;split at h<;>simp_all
theorem MF:∀{cs eE:List ah},yn cs eE=true→cs=eE
 |[],[],_=>rfl
 |[],_::_,h=>by simp[yn]at h
 |_::_,[],h=>by simp[yn]at h
 |c::cs,d::eE,h=>by simp only[yn,cC]at h;rw[WX h.1,MF h.2]
theorem amj{cs:List ah}{z:ah}(h:MJ cs z=true):z= .agg cs:=by
 cases z<;>simp only[MJ]at h;case agg eE=>rw[MF h]
 all_goals cases h
theorem acL(s:List dz)(n:Nat)(h:n<s.length):(⟨s.toArray⟩:ByteArray)[n]? =some (s.getD n 0):=by
 have dX:n<(⟨s.toArray⟩:ByteArray).size:=by rw[C6];exact h
 have e:(⟨s.toArray⟩:ByteArray)[n]? =some ((⟨s.toArray⟩:ByteArray)[n]'dX):=getElem?_pos (⟨s.toArray⟩:ByteArray) n dX;rw[e];congr 1;simp[List.getD,h];rfl
theorem GA(P:cD)(w:World)(k:IntKind)(i:Int)(y:Nat)(c:BoundsCode)(bA:0≤i)(J:i≤y):(Instr.sliceBound (.int k i) y c).run P w= .ok i.toNat w:=by simp[Instr.sliceBound,asIntOf,bA,J]
theorem Nk(P:cD)(w:World)(ae0:Bool)(len cap:Nat)(lo hi:aY Value)(l h:Int)(BH:(lo=none∧l=0)∨ ∃k,lo=some (.int k l))(BE:(hi=none∧h=len)∨ ∃k,hi=some (.int k h))
  (bA:0≤l) (J:l≤h) (U:h≤len) (au:len≤cap):(Instr.sliceBounds ae0 len cap lo hi none).run P w= .ok (l.toNat,h.toNat,cap) w:=by
 rcases BH with⟨rfl,rfl⟩|⟨k,rfl⟩<;>rcases BE with⟨rfl,rfl⟩|⟨bK,rfl⟩
 ·simp[Instr.sliceBounds]
 ·simp[Instr.sliceBounds,GA P w bK h cap _ (by omega) (by omega)]
 ·simp[Instr.sliceBounds,GA P w k l len _ (by omega) (by omega)]
 ·simp[Instr.sliceBounds,GA P w bK h cap _ (by omega) (by omega),GA P w k l h.toNat _ (by omega) (by omega)]
theorem Ul{P:cD}{bB:List (Nat×dA)}(aO:fL P bB=true):∀(gs:List Field),(gs.all fun f=>(dY bB f.type).isSome)=true→
  ∃sU:List (Nat×Nat),gs.mapM (fun f=>(P.info? f.type).map fun i=>(f.offset,i.size))=some sU∧
   ∀(i off t sz:Nat),(gs.map (fun f=>(f.offset,f.type)))[i]? =some (off,t)→(dY bB t).map (·.size)=some sz→sU[i]? =some (off,sz)
 |[],_=>⟨[],by simp,by simp⟩
 |f::gs,h=>by
  simp only[List.all_cons,cC]at h;obtain⟨sU,J,U⟩:=Ul aO gs h.2;obtain⟨g,a1⟩:=fJ.1 h.1;obtain⟨i,d,z,ak,aC,bk,dc,gV,hI,qU,qV⟩:=(uU aO a1).ex;refine⟨(f.offset,g.size)::sU,by simp[List.mapM_cons,ak,bk,J],fun j off t sz af dX=>?_⟩;cases j with
  |zero=>simp only[hf,List.getElem?_cons_zero,dG,jm]at af⊢;obtain⟨rfl,rfl⟩:=af;rw[a1]at dX;simpa using dX
  |succ j=>simp only[hf,List.getElem?_cons_succ]at af⊢;exact U j off t sz af dX
theorem k4{P:cD}{w:World}{x:Sem Value}{v:Value}(h:x.run P w= .ok v w):(do pure (Next.value (←x)):Sem Next).run P w= .ok (.value v) w:=by simp[h]
theorem MI{p q:ah}(h:AJ p q=true):p=q:=by
 unfold AJ at h;split at h
 ·rw[MF h]
 ·cases h
 ·exact WX h
theorem MH(w:World)(ν:bd){p:ah}{v:Value}(h:yo p v=true):a8 w ν p v∧c5 w ν (cells p) v.cells.toList:=by
 by_cases bt:∃cs,p= .agg cs
 ·obtain⟨cs,rfl⟩:=bt;cases v<;>simp only[yo]at h;case agg us=>have:=MG w ν _ _ h;exact⟨by simp only[a8];exact⟨us,rfl,this⟩,by simpa[cells,pe]using this⟩
  all_goals cases h
 ·have ca:yA p v=true∧v.oneCell'=true:=by cases p<;>simp only[yo,cC]at h<;>first|exact h|exact absurd ⟨_,rfl⟩ bt
  have aK:=Hv w ν ca.1;refine⟨aK,?_⟩;have au:cells p=[p]:=by cases p<;>first|rfl|exact absurd ⟨_,rfl⟩ bt
  have aG:v.cells= #[v]:=by have:=ca.2;cases v<;>first|rfl|simp[Value.oneCell']at this
  rw[au,aG];simp only[c5];exact⟨v,[],rfl,⟨aK,ca.2⟩,rfl⟩
theorem Mb{P:cD}{bB:List (Nat×dA)}(aO:fL P bB=true){t:Nat}{f:dA}(aJ:dY bB t=some f)(w:World):∃z,(zeroValue t).run P w= .ok z w∧yo f.zero z=true∧z.cells.size=f.size:=by obtain⟨i,d,z,J,U,ao,ba,b2,c7,ef,nx⟩:=(uU aO aJ).ex;exact⟨z,by simp[zeroValue,typeInfo,J,c7],ef,nx⟩
theorem CX{C:e9}{st:bq}{a:Act}{w:World}{ν:bd}(h:cS C st a w ν):∀{xs:List dn} {os:List Operand},xV xs os=true→cP w ν (xs.map (cp st.t)) (os.map a.eval)
 |[],[],_=>by simp[cP]
 |[],_::_,ab=>by simp[xV]at ab
 |_::_,[],ab=>by simp[xV]at ab
 |x::xs,o::os,ab=>by simp only[xV,cC]at ab;simp only[hf,cP];exact⟨_,_,rfl,eh h ab.1,CX h ab.2⟩
theorem YW{P:cD}{w:World}{t:fR}(aP:P.underlying t=some .bool)(d:Nat)(a b:Bool):(Op.equalIn (d+1) t (.bool a) (.bool b)).run P w= .ok (a==b) w:=by rw[Op.equalIn];simp only[fE,run_underlying aP,fI,gu]
theorem YX{P:cD}{w:World}{t:fR}(aP:P.underlying t=some .bool)(a b:Bool):(Op.equal t (.bool a) (.bool b)).run P w= .ok (a==b) w:=YW aP _ a b
theorem P0:∀{borns:List Nat} {kvs:List ah} {us:List Value},kvs.length=2*borns.length→us.length=kvs.length→(fx borns us).length=borns.length
 |[],_,us,_,_=>by simp[fx]
 |b1::eI,kvs,[],J,U=>by rw[J]at U;simp at U
 |b1::eI,kvs,[_],J,U=>by rw[J]at U;simp at U;omega
 |b1::eI,kvs,k::v::us,J,U=>by simp only[fx,p6];rw[P0 (kvs:=kvs.drop 2) (us:=us) (borns:=eI) (by simp at J⊢;omega) (by simp at J U⊢;omega)]
theorem Vu{w:World}{ν:bd}:∀{cv:List ah} {bc:List Value},cP w ν cv bc→bc.length=cv.length
 |[],bc,h=>by simp only[cP]at h;subst h;rfl
 |p::cv,bc,h=>by simp only[cP]at h;obtain⟨u,ck,rfl,_,U⟩:=h;simp[Vu U]
theorem uM{P:cD}{w:World}{r:Nat}{o:Obj}(ad:w.heap[r]? =some o)(aA:∀c e f,o≠ .cells c e f:=by simp):(getObj r).run P w= .ok o w:=by simp only[getObj,Sem.run,ad]
def p7(P:cD):Nat→List Bool→List Field→Prop
 |_,[],[]=>True
 |n,b::r,f::gs=>(f.offset=n∧f.name≠ "_" ∧(if b=true then P.underlying f.type=some .string else∃k,P.underlying f.type=some (.int k)))∧p7 P (n+1) r gs
 |_,_,_=>eK
theorem CL{P:cD}{t:fR}{b:Bool}(h:if b=true then P.underlying t=some .string else∃k,P.underlying t=some (.int k)):P.plainKey t=true:=by
 cases b
 ·obtain⟨k,h⟩:=(by simpa using h:∃k,P.underlying t=some (.int k));simp[Program.plainKey,h]
 ·have h:P.underlying t=some .string:=by simpa using h
  simp[Program.plainKey,h]
theorem X0{P:cD}{w:World}{ν:bd}(d:Nat){X Y:Array Value}(dM:List Bool):∀(gs:List Field) (n:Nat) (as eI:List ah) (us bc:List Value) (q:Bool),p7 P n dM gs→X.toList.drop n=us→Y.toList.drop n=bc→c5 w ν as us→c5 w ν eI bc→jW dM as eI=some q→
  (Op.eqFields (d+1) X Y gs).run P w= .ok q w∧(q=true→us=bc)∧∀m,(us.zip us).all (fun(x,y)=>Instr.sameBits m x y)=true:=by
 induction dM with
 |nil=>intro gs n as eI us bc q a1 Bs Bt J U h;cases as<;>cases eI<;>simp only[jW,dG,reduceCtorEq]at h;cases gs<;>simp only[p7]at a1;simp only[c5]at J U;rw[J,U,←h];exact⟨by simp[Op.eqFields],fun _=>rfl,fun m=>rfl⟩
 |cons wW r bU=>
  intro gs n as eI us bc q a1 Bs Bt J U h;cases gs with
  |nil=>simp only[p7]at a1
  |cons f gs=>
  simp only[p7]at a1;obtain⟨⟨ER,BM,oc⟩,a1⟩:=a1;cases as with
  |nil=>cases wW<;>cases eI<;>simp[jW]at h
  |cons CJ as=>
  cases eI with
  |nil=>cases wW<;>cases CJ<;>simp[jW]at h
  |cons FU eI=>
  cases wW with
  |false=>
   have au:∃k a b gB,CJ= .int k a∧FU= .int k b∧jW r as eI=some gB∧q=((a==b)&&gB):=by
    cases CJ<;>first|(simp[jW]at h;done)|skip
    cases FU<;>first|(simp[jW]at h;done)|skip
    simp only[jW]at h;split at h
    ·rename_i ab;subst ab;simp only[gJ]at h;obtain⟨gB,ao,ba⟩:=h;exact⟨_,_,_,gB,rfl,rfl,ao,ba.symm⟩
    ·cases h
   obtain⟨k,a,b,gB,rfl,rfl,ao,rfl⟩:=au;simp only[c5,a8]at J U;obtain⟨u,ck,rfl,⟨rfl,_⟩,J⟩:=J;obtain⟨v,vs',rfl,⟨rfl,_⟩,U⟩:=U;have CI:X[n]? =some (.int k a):=by rw[←ti,←List.head?_drop,Bs];rfl
   have KW:Y[n]? =some (.int k b):=by rw[←ti,←List.head?_drop,Bt];rfl
   obtain⟨i1,i2,i3⟩:=bU gs (n+1) as eI ck vs' gB a1 (by rw[←List.tail_drop,Bs];rfl) (by rw[←List.tail_drop,Bt];rfl) J U ao;obtain⟨nD,JB⟩:=(by simpa using oc:∃k,P.underlying f.type=some (.int k));refine⟨?_,?_,fun m=>?_⟩
   ·simp only[Op.eqFields,BM,ne_eq,not_false_eq_true,if_true,fE,ER,run_part_plain w (CL oc) CI,run_part_plain w (CL oc) KW,fI,run_equalIn_int w d f.type k nD a b JB];cases mO:(a==b)
    ·simp
    ·simpa using i1
   ·intro br;simp only[cC,dO]at br;rw[br.1,i2 br.2]
   ·have:=i3 m;simp only[List.zip_cons_cons,List.all_cons,this,Bool.and_true];cases m<;>simp[Instr.sameBits]
  |true=>
   have au:∃a b gB,CJ= .str a∧FU= .str b∧jW r as eI=some gB∧q=((a==b)&&gB):=by
    cases CJ<;>first|(simp[jW]at h;done)|skip
    cases FU<;>first|(simp[jW]at h;done)|skip
    simp only[jW,gJ]at h;obtain⟨gB,ao,ba⟩:=h;exact⟨_,_,gB,rfl,rfl,ao,ba.symm⟩
   obtain⟨a,b,gB,rfl,rfl,ao,rfl⟩:=au;simp only[c5,a8]at J U;obtain⟨u,ck,rfl,⟨⟨rfl,_⟩,_⟩,J⟩:=J;obtain⟨v,vs',rfl,⟨⟨rfl,_⟩,_⟩,U⟩:=U;have CI:X[n]? =some (.string ⟨a.toArray⟩):=by rw[←ti,←List.head?_drop,Bs];rfl
   have KW:Y[n]? =some (.string ⟨b.toArray⟩):=by rw[←ti,←List.head?_drop,Bt];rfl
   obtain⟨i1,i2,i3⟩:=bU gs (n+1) as eI ck vs' gB a1 (by rw[←List.tail_drop,Bs];rfl) (by rw[←List.tail_drop,Bt];rfl) J U ao;have JB:P.underlying f.type=some .string:=by simpa using oc
   refine⟨?_,?_,fun m=>?_⟩
   ·simp only[Op.eqFields,BM,ne_eq,not_false_eq_true,if_true,fE,ER,run_part_plain w (CL oc) CI,run_part_plain w (CL oc) KW,fI,run_equalIn_string w d f.type _ _ JB];have e:((⟨a.toArray⟩:ByteArray).toList==(⟨b.toArray⟩:ByteArray).toList)=(a==b):=by rw[amm,amm]
    rw[e];cases mO:(a==b)
    ·simp
    ·simpa using i1
   ·intro br;simp only[cC,dO]at br;rw[br.1,i2 br.2]
   ·have:=i3 m;simp only[List.zip_cons_cons,List.all_cons,this,Bool.and_true];cases m<;>simp only[Instr.sameBits]<;>exact(MapKept.bytes_beq _ _).2 rfl
theorem Qv{P:cD}{bB:List (Nat×dA)}(aO:fL P bB=true):∀(dM:List Bool) (gs:List Field) (n:Nat),yS bB n dM (gs.map fun f=>(f.offset,f.type))=true→(gs.all (fun f=>match P.underlying f.type with|some (.int _)=>true|some .string=>true|_=>false)=true)∧((∀f∈gs,f.name≠ "_")→p7 P n dM gs)
 |[],[],_,_=>⟨rfl,fun _=>trivial⟩
 |[],_::_,_,h=>by simp[yS]at h
 |_::_,[],_,h=>by simp[yS]at h
 |b::r,f::gs,n,h=>by
  simp only[hf,yS,cC,dO]at h;obtain⟨⟨J,U⟩,ao⟩:=h;obtain⟨i1,i2⟩:=Qv aO r gs (n+1) ao;split at U
  ·rename_i aJ;obtain⟨d,hu,aP⟩:=iK aO aJ;obtain rfl:=Eb aP;refine⟨by simp only[List.all_cons,hu,i1,Bool.and_self],fun aA=>⟨⟨J,aA f (by simp),?_⟩,i2 fun g a1=>aA g (by simp[a1])⟩⟩;have:b=false:=by simpa using U
   subst this;simpa using⟨_,hu⟩
  ·rename_i aJ;obtain⟨d,hu,aP⟩:=iK aO aJ;obtain rfl:=yK aP;refine⟨by simp only[List.all_cons,hu,i1,Bool.and_self],fun aA=>⟨⟨J,aA f (by simp),?_⟩,i2 fun g a1=>aA g (by simp[a1])⟩⟩;subst U;simpa using hu
  ·cases U
theorem Qx{P:cD}{bB:List (Nat×dA)}(aO:fL P bB=true){dM:List Bool}{t:Nat}(h:Eo bB dM t=true):∃gs,P.underlying t=some (.struct gs)∧p7 P 0 dM gs.toList∧P.stoodInHeld t=false∧P.eqGuardType P.depth t=false:=by
 unfold Eo at h;split at h
 ·rename_i aJ;obtain⟨d,hu,aP⟩:=iK aO aJ;have au:=(uU aO aJ).cmp d hu;cases d<;>simp[jX]at aP;rename_i gs;subst aP;obtain⟨i1,i2⟩:=Qv aO dM gs.toList 0 h;have sw:Qw P gs=true:=i1;simp only[HU,sw,Bool.not_true,Bool.false_or,PJ,cC,Bool.not_eq_true',gh,bne_iff_ne,ne_eq]at au;exact⟨gs,hu,i2 au.1.1,au.1.2,au.2⟩
 ·cases h
theorem P4{P:cD}{w:World}{ν:bd}{t:fR}{gs:Array Field}{dM:List Bool}(hu:P.underlying t=some (.struct gs))(a1:p7 P 0 dM gs.toList)(da:P.stoodInHeld t=false){as eI:List ah}{X Y:Array Value}(J:c5 w ν as X.toList)(U:c5 w ν eI Y.toList){q:Bool}(h:jW dM as eI=some q):
  (Op.equalIn 10000 t (.agg X) (.agg Y)).run P w= .ok q w∧(q=true→X=Y)∧∀m,(X.toList.zip X.toList).all (fun(x,y)=>Instr.sameBits m x y)=true:=by
 have aJ:P.fieldsOf t=gs:=by simp[Program.fieldsOf,hu]
 obtain⟨i1,i2,i3⟩:=X0 9998 dM gs.toList 0 as eI _ _ q a1 rfl rfl J U h;refine⟨?_,fun e=>?_,?_⟩
 ·rw[run_equalIn_struct w 9999 t X Y (by rw[aJ];exact hu) da,aJ];exact i1
 ·have:=i2 e;simpa using this
 ·simpa using i3
inductive tn (P:cD):jo→fR→Prop
 |i {t:fR} {k:IntKind}:P.underlying t=some (.int k)→tn P .i t
 |s {t:fR}:P.underlying t=some .string→tn P .s t
 |a {t:fR} {dM:List Bool} {gs:Array Field}:P.underlying t=some (.struct gs)→p7 P 0 dM gs.toList→P.stoodInHeld t=false→tn P (.a dM) t
theorem JY{P:cD}{bB:List (Nat×dA)}(aO:fL P bB=true){cd:jo}{t:Nat}(h:xE bB cd t=true):tn P cd t:=by
 cases cd with
 |i=>
  simp only[xE]at h;split at h
  ·rename_i aJ;obtain⟨d,hu,aP⟩:=iK aO aJ;obtain rfl:=Eb aP;exact .i hu
  ·cases h
 |s=>
  simp only[xE]at h;split at h
  ·rename_i aJ;obtain⟨d,hu,aP⟩:=iK aO aJ;obtain rfl:=yK aP;exact .s hu
  ·cases h
 |a dM=>obtain⟨gs,J,U,ao,_⟩:=Qx aO h;exact .a J U ao
def sb(P:cD)(w:World)(cd:jo)(t:fR)(gN u:Value)(b:Bool):Prop:=match cd with
 | .a _=>(Op.equal t gN u).run P w= .ok b w
 |_=> ∀d,P.underlying t=some d→Instr.sameNow d gN u=some b
def hR(P:cD)(w:World)(cd:jo)(t:fR)(gN:Value)(es:List MapEntry)(i:Nat)(r:aY (Nat×Value)):Prop:=match cd with
 | .a _=>(Instr.findAsking t gN es i).run P w= .ok r w
 |_=> ∀d,P.underlying t=some d→Instr.findNow d gN es i=some r
theorem hR.nil(P:cD)(w:World)(cd:jo)(t:fR)(gN:Value)(i:Nat):hR P w cd t gN [] i none:=by cases cd<;>simp[hR,Instr.findAsking,Instr.findNow]
theorem hR.hit{P:cD}{w:World}{cd:jo}{t:fR}{gN:Value}{e:MapEntry}{es:List MapEntry}{i:Nat}(h:sb P w cd t gN e.key true):hR P w cd t gN (e::es) i (some (i,e.val)):=by
 cases cd with
 |a dM=>simp only[sb]at h;simp[hR,Instr.findAsking,h]
 |i=>simp only[sb]at h;simp only[hR];intro d aP;simp[Instr.findNow,h d aP]
 |s=>simp only[sb]at h;simp only[hR];intro d aP;simp[Instr.findNow,h d aP]
theorem hR.miss{P:cD}{w:World}{cd:jo}{t:fR}{gN:Value}{e:MapEntry}{es:List MapEntry}{i:Nat}{r:aY (Nat×Value)}(h:sb P w cd t gN e.key false)(aK:hR P w cd t gN es (i+1) r):hR P w cd t gN (e::es) i r:=by
 cases cd with
 |a dM=>simp only[sb]at h;simp only[hR]at aK;simp[hR,Instr.findAsking,h,aK]
 |i=>simp only[sb]at h;simp only[hR]at aK⊢;intro d aP;simp[Instr.findNow,h d aP,aK d aP]
 |s=>simp only[sb]at h;simp only[hR]at aK⊢;intro d aP;simp[Instr.findNow,h d aP,aK d aP]
theorem hR.run{P:cD}{w:World}{cd:jo}{t:fR}(aP:tn P cd t){gN:Value}{es:List MapEntry}{r:aY (Nat×Value)}(h:hR P w cd t gN es 0 r):(Instr.findKey t gN es).run P w= .ok r w:=by
 cases aP with
 |i hu=>simp only[hR]at h;simp[Instr.findKey,run_underlying hu,h _ hu]
 |s hu=>simp only[hR]at h;simp[Instr.findKey,run_underlying hu,h _ hu]
 |a hu a1 da=>
  simp only[hR]at h;cases es with
  |nil=>simp[Instr.findAsking]at h;simp[Instr.findKey,run_underlying hu,Instr.findNow,h]
  |cons e es=>
   rename_i gs;have:Instr.sameNow (.struct gs) gN e.key=none:=by cases gN<;>rfl
   simp only[Instr.findKey,fE,run_underlying hu,fI,Instr.findNow,this];exact h
theorem SI{P:cD}{w:World}{ν:bd}{cd:jo}{t:fR}(aP:tn P cd t){k bK:ah}{gN u:Value}(ab:a8 w ν k gN)(J:a8 w ν bK u){bb:Bool}(ad:sL cd k bK=some bb):
  sb P w cd t gN u bb∧(bb=true→u=gN∧Instr.sameBits 10000 u gN=true):=by
 unfold sL at ad;split at ad
 ·split at ad
  ·rename_i lh;subst lh;simp only[a8]at ab J;subst ab;subst J;cases aP with
   |i hu=>refine⟨fun d aP=>by rw[hu]at aP;cases aP;simpa[Instr.sameNow]using ad,fun e=>?_⟩;subst e;simp only[dG,dO]at ad;subst ad;exact⟨rfl,by simp[Instr.sameBits]⟩
  ·cases ad
 ·rename_i a b;simp only[a8]at ab J;obtain⟨rfl,_⟩:=ab;obtain⟨rfl,_⟩:=J;cases aP with
  |s hu=>
   refine⟨fun d aP=>?_,fun e=>?_⟩
   ·rw[hu]at aP;cases aP;simp only[Instr.sameNow];rw[←ad];congr 1;rw[p3,MapKept.bytes_beq];simp
   ·subst e;simp only[dG,dO]at ad;subst ad;exact⟨rfl,by simp only[Instr.sameBits];exact(MapKept.bytes_beq _ _).2 rfl⟩
 ·simp only[a8]at ab J;obtain⟨X,rfl,ab⟩:=ab;obtain⟨Y,rfl,J⟩:=J;cases aP with
  |a hu a1 da=>obtain⟨i1,i2,i3⟩:=P4 hu a1 da ab J ad;refine⟨by simpa[sb,Op.equal,Op.maxDepth]using i1,fun e=>?_⟩;have:=i2 e;subst this;exact⟨rfl,by simp[Instr.sameBits,i3]⟩
 ·cases ad
theorem Kq{P:cD}{w:World}{ν:bd}{cd:jo}{t:fR}(aP:tn P cd t){k:ah}{gN:Value}(ab:a8 w ν k gN):∀(borns:List Nat) (kvs:List ah) (us:List Value) (i:Nat) (r:aY ah),cP w ν kvs us→kvs.length=2*borns.length→vP cd k kvs=some r→
  match r with
  |none=>hR P w cd t gN (fx borns us) i none
  |some v=> ∃j u,hR P w cd t gN (fx borns us) i (some (j,u))∧a8 w ν v u
 |[],[],us,i,r,h,_,hm=>by simp only[vP]at hm;cases hm;simp only[cP]at h;subst h;simpa[fx]using hR.nil P w cd t gN i
 |[],_::_,_,_,_,_,av,_=>by simp at av
 |b::eI,[],_,_,_,_,av,_=>by simp at av
 |b::eI,[_],_,_,_,_,av,_=>by simp at av;omega
 |b::eI,bK::v::kvs,us,i,r,h,av,hm=>by
  simp only[cP]at h;obtain⟨iL,Mg,rfl,J,jl,rX,rfl,U,ao⟩:=h;simp only[vP]at hm;simp only[fx];cases br:sL cd k bK with
  |none=>simp[br]at hm
  |some bb=>
   obtain⟨s1,_⟩:=SI aP ab J br;simp only[br]at hm;cases bb with
   |true=>simp only[dG]at hm;subst hm;exact⟨i,jl,hR.hit (e:=⟨iL,jl,b⟩) s1,U⟩
   |false=>
    simp only at hm;have bU:=Kq aP ab eI kvs rX (i+1) r ao (by simp at av;omega) hm;cases r with
    |none=>exact hR.miss (e:=⟨iL,jl,b⟩) s1 bU
    |some v'=>obtain⟨j,u,g1,g2⟩:=bU;exact⟨j,u,hR.miss (e:=⟨iL,jl,b⟩) s1 g1,g2⟩
theorem HS{P:cD}{w:World}{t:Nat}{d:TypeDesc}(hu:P.underlying t=some d)(aP:(∃k,d= .int k)∨d= .string)(e:Bool)(n:Nat)(v:Value):(Instr.checkKey e (n+1) t v).run P w= .ok () w:=by unfold Instr.checkKey;rcases aP with⟨k,rfl⟩|rfl<;>simp[run_underlying hu]
theorem abS{P:cD}{w:World}{ν:bd}{X:Array Value}(dM:List Bool):∀(gs:List Field) (n:Nat) (as:List ah),p7 P n dM gs→c5 w ν as (X.toList.drop n)→(jW dM as as).isSome=true→
  ∀f∈gs,(∃v,(part f.type X f.offset).run P w= .ok v w)∧∃d,P.underlying f.type=some d∧((∃k,d= .int k)∨d= .string):=by
 induction dM with
 |nil=>intro gs n as a1 _ _ f aJ;cases gs<;>simp only[p7]at a1;cases aJ
 |cons wW r bU=>
  intro gs n as a1 aK au f aJ;cases gs with
  |nil=>cases aJ
  |cons g gs=>
  simp only[p7]at a1;obtain⟨⟨ER,BM,oc⟩,a1⟩:=a1;cases as with
  |nil=>cases wW<;>simp[jW]at au
  |cons p as=>
  have hq:(jW r as as).isSome=true:=by cases wW<;>cases p<;>simp[jW]at au⊢ <;>exact au
  simp only[c5]at aK;obtain⟨u,ck,e,_,dD⟩:=aK;have aC:X.toList.drop (n+1)=ck:=by rw[←List.tail_drop,e];rfl
  have CI:X[n]? =some u:=by rw[←ti,←List.head?_drop,e];rfl
  rcases fY.1 aJ with rfl|aJ
  ·refine⟨⟨u,by rw[ER];exact run_part_plain w (CL oc) CI⟩,?_⟩;cases wW
   ·obtain⟨k,h⟩:=(by simpa using oc:∃k,P.underlying f.type=some (.int k));exact⟨_,h,.inl ⟨k,rfl⟩⟩
   ·exact⟨_,by simpa using oc,.inr rfl⟩
  ·exact bU gs (n+1) as a1 (by rw[aC];exact dD) hq f aJ
theorem QD{P:cD}{w:World}{α:Type}(body:α→PUnit→Sem (ForInStep PUnit)):∀(l:List α),(∀f∈l,(body f ⟨⟩).run P w= .ok (.yield ⟨⟩) w)→(forIn l PUnit.unit body).run P w= .ok PUnit.unit w
 |[],_=>by simp
 |f::l,h=>by simp only[List.forIn_cons,fE,h f (by simp),fI];exact QD body l fun g a1=>h g (by simp[a1])
theorem LF{P:cD}{w:World}{ν:bd}{cd:jo}{t:Nat}(aP:tn P cd t)(e:Bool){k:ah}{v:Value}(ab:a8 w ν k v)(hi:uf cd k=true):(Instr.checkKey e 10000 t v).run P w= .ok () w:=by
 cases aP with
 |i hu=>exact HS hu (.inl ⟨_,rfl⟩) e 9999 v
 |s hu=>exact HS hu (.inr rfl) e 9999 v
 |a hu a1 da=>
  rename_i dM gs;cases k<;>simp only[uf,gS]at hi;rename_i as;simp only[a8]at ab;obtain⟨X,rfl,ab⟩:=ab;unfold Instr.checkKey;simp only[fE,run_underlying hu,fI];rw[←Array.forIn_toList];rw[QD]
  ·simp
  ·intro f aJ;obtain⟨⟨v,J⟩,d,U,ao⟩:=abS dM gs.toList 0 as a1 (by simpa using ab) hi f aJ;have ba:=HS (w:=w) U ao e 9998 v;by_cases aA:f.name= "_"
   ·simp[aA]
   ·simp[aA,J,ba]
theorem Tt{w:World}{ν:bd}{n:Nat}:∀(borns:List Nat) (kvs:List ah) (us:List Value) (p:ah),cP w ν kvs us→mu n borns kvs=some p→∃e,(fx borns us).find? (·.born==n)=some e∧a8 w ν p (.tuple #[e.key,e.val])
 |[],_,_,_,_,hm=>by simp[mu]at hm
 |_::_,[],_,_,_,hm=>by simp[mu]at hm
 |_::_,[_],_,_,_,hm=>by simp[mu]at hm
 |b::eI,k::v::kvs,us,p,h,hm=>by
  simp only[cP]at h;obtain⟨iL,Mg,rfl,J,jl,rX,rfl,U,ao⟩:=h;simp only[mu]at hm;simp only[fx];by_cases e:b=n
  ·rw[if_pos e]at hm;cases hm;refine⟨⟨iL,jl,b⟩,by simp[List.find?,e],?_⟩;simp only[a8];exact⟨#[iL,jl],rfl,by simp only[cP];exact⟨_,_,rfl,J,_,_,rfl,U,rfl⟩⟩
  ·rw[if_neg e]at hm;obtain⟨x,g1,g2⟩:=Tt eI kvs rX p ao hm;have ac8:(b==n)=false:=by simpa using e
   exact⟨x,by simp[List.find?,ac8,g1],g2⟩
theorem Wk{P:cD}{bB:List (Nat×dA)}(aO:fL P bB=true){C:e9}{st:bq}{a:Act}{w:World}{ν:bd}(aK:cS C st a w ν){i:fM}(ac7:∀cd z ok x k,i≠ .mgetB cd z ok x k){o:Oper}(ax:Di bB i o.op=true)
  {c:Prop} {p:ah} (he:hb st i=some (c,p)) (au:c):∃v,(execOp a.eval o).run P w= .ok (.value v) w∧a8 w ν p v:=by
 obtain⟨dst,op,type,pos,after,guard⟩:=o;simp only at ax;unfold Di at ax;split at ax
 ·rename_i x o;simp only[hb]at he;cases he;exact⟨_,rfl,eh aK ax⟩
 ·rename_i x o;simp only[hb]at he;cases he;exact⟨_,rfl,eh aK ax⟩
 ·rename_i cr x y amK GW WV;simp only[cC]at ax;have J:=eh aK ax.1.1;have U:=eh aK ax.1.2;have ao:=eh aK ax.2;simp only[hb,FV]at he;split at he
  ·rename_i b ad;rw[ad]at J;simp only[a8]at J;split at he
   ·rename_i u v hu aG;cases he;rw[hu]at U;rw[aG]at ao;simp only[a8]at U ao;refine⟨.bool (cond b u v),?_,by simp[a8]⟩;simp only[execOp,J,U,ao,asBool,fE,gu,fI];cases b<;>rfl
   ·split at he
    ·cases he;exact⟨_,by simp only[execOp,J,asBool,fE,gu,fI,if_true],U⟩
    ·cases he;exact⟨_,by simp only[execOp,J,asBool,fE,gu,fI,gS,if_false],ao⟩
  ·cases he
 ·rename_i agg sz x t o;simp only[cC]at ax;obtain⟨J,U⟩:=ax;split at J
  ·rename_i f aJ;simp only[cC,dO]at J;obtain⟨rfl,rfl⟩:=J;obtain⟨v,g1,g2⟩:=Fv aO aK.good aJ (eh aK U) (by simpa only[hb]using he) au;exact⟨v,k4 g1,g2⟩
  ·cases J
 ·rename_i off agg sz x s o i;simp only[cC]at ax;obtain⟨J,U⟩:=ax;split at J
  ·rename_i f aJ;split at J
   ·rename_i vT t BA;simp only[cC,dO]at J;obtain⟨rfl,J⟩:=J;split at J
    ·rename_i g a1;simp only[cC,dO,bne_iff_ne,ne_eq]at J;obtain⟨⟨rfl,rfl⟩,bA⟩:=J;obtain⟨v,g1,g2⟩:=abM aO aJ rfl BA a1 bA (eh aK U) (by simpa only[hb]using he) au;exact⟨v,k4 g1,g2⟩
    ·cases J
   ·cases J
  ·cases J
 ·rename_i off agg sz x s o i;simp only[cC]at ax;obtain⟨J,U⟩:=ax;split at J
  ·rename_i f aJ;split at J
   ·rename_i vT t BA;simp only[cC,dO]at J;obtain⟨rfl,J⟩:=J;split at J
    ·rename_i g a1;simp only[cC,dO]at J;obtain⟨rfl,rfl⟩:=J;obtain⟨v,g1,g2⟩:=abT aO aJ rfl BA a1 (eh aK U) (by simpa only[hb]using he) au;exact⟨v,k4 g1,g2⟩
    ·cases J
   ·cases J
  ·cases J
 ·rename_i sz x i t o j;simp only[cC]at ax;obtain⟨⟨J,U⟩,ao⟩:=ax;split at J
  ·rename_i e aJ;split at J
   ·rename_i g a1;simp only[dO]at J;subst J;obtain⟨v,g1,g2⟩:=aeF aO aJ rfl a1 (eh aK U) (eh aK ao) (by simpa only[hb]using he) au;exact⟨v,k4 g1,g2⟩
   ·cases J
  ·cases J
 ·rename_i x i t o j;simp only[cC]at ax;obtain⟨⟨J,U⟩,ao⟩:=ax;split at J
  ·rename_i aJ;obtain⟨d,aP,eT⟩:=iK aO aJ;obtain rfl:=yK eT;have ak:=eh aK U;have aC:=eh aK ao;simp only[hb,Gy]at he;split at he
   ·rename_i s k n ag aA;cases he;rw[ag]at ak;rw[aA]at aC;simp only[a8]at ak aC;obtain⟨tO,Re⟩:=au;have bD:n.toNat<s.length:=by omega
    have ady:(⟨s.toArray⟩:ByteArray)[n.toNat]? =some (s.getD n.toNat 0):=by exact acL s n.toNat bD
    refine⟨_,k4 (v:= .int .u8 (s.getD n.toNat 0).toNat) ?_,by simp[a8]⟩;simp only[Instr.index,aC,asIntOf,ak.1,fE,gu,fI,run_underlying aP,tO,if_true,ady]
   ·cases he
  ·cases J
 ·rename_i x lo hi t o l h;simp only[cC]at ax;obtain⟨⟨⟨J,U⟩,ao⟩,ba⟩:=ax;split at J
  ·rename_i aJ;obtain⟨d,aP,eT⟩:=iK aO aJ;obtain rfl:=yK eT;have ak:=eh aK U;simp only[hb,GD]at he;split at he
   ·rename_i s ag;rw[ag]at ak;simp only[a8]at ak;split at he
    ·rename_i pQ cu av Jc;cases he;obtain⟨bH,cl,c9⟩:=au;have aU:=FO aK ao av;have bG:=FO aK ba Jc;refine⟨_,k4 (v:= .string ⟨((s.take cu.toNat).drop pQ.toNat).toArray⟩) ?_,?_⟩
     ·have ad:=Nk P w false s.length s.length (l.map a.eval) (h.map a.eval) pQ cu
       aU bG bH cl c9 (eR _)
      simp only[Instr.sliceAt,Instr.slice,ak.1,fE,gu,fI,run_underlying aP,Option.map_none,l0,gS,if_false,C6,ad,ZO]
     ·simp only[a8];refine⟨trivial,?_⟩;have:=ak.2;simp only[r7,List.length_take];omega
    ·cases he
   ·cases he
  ·cases J
 ·rename_i sz x lo hi t o l h;simp only[cC]at ax;obtain⟨⟨⟨J,U⟩,ao⟩,ba⟩:=ax;split at J
  ·rename_i e aJ;split at J
   ·rename_i g a1;simp only[dO]at J;subst J;obtain⟨d,aP,eT⟩:=iK aO aJ;obtain rfl:=sg eT;obtain⟨_,dX⟩:=uT aO a1 w;have ak:=eh aK U;simp only[hb,Fw]at he;split at he
    ·rename_i dF tag xs ag;split at he
     ·rename_i e6;subst e6;rw[ag]at ak;simp only[a8]at ak;obtain⟨⟨sc,cap,aG,ch,b6,fC⟩,_⟩:=ak;split at he
      ·rename_i pQ cu av Jc;cases he;obtain⟨bH,cl,c9⟩:=au;have aU:=FO aK ao av;have bG:=FO aK ba Jc;have ad:=Nk P w true xs.length cap (l.map a.eval) (h.map a.eval) pQ cu
        aU bG bH cl c9 ch
       refine⟨_,k4 (v:= .slice (if cap=pQ.toNat then sc else sc.map (·.add (pQ.toNat*g.size))) (cu.toNat-pQ.toNat) (cap-pQ.toNat)) ?_,?_⟩
       ·simp only[Instr.sliceAt,Instr.slice,aG,fE,gu,fI,run_underlying aP,Option.map_none,ad,dX]
       ·simp only[a8];have hlen:((xs.take cu.toNat).drop pQ.toNat).length=cu.toNat-pQ.toNat:=by simp;omega
        refine⟨⟨_,_,by rw[hlen],by rw[hlen];omega,⟨by omega,by rw[hlen];omega⟩,?_⟩,(fun h=>by cases h),(fun g h=>by cases h),(fun _ _ h=>by cases h),(fun _ h=>by cases h)⟩;rcases fC with rfl|⟨b,off,us,rfl,g1,g2⟩
        ·left;simp
        ·by_cases y3:cap=pQ.toNat
         ·left;apply List.eq_nil_of_length_eq_zero;rw[hlen];omega
         ·right;rw[if_neg y3];refine⟨b,off+pQ.toNat*g.size,(us.take (cu.toNat*g.size)).drop (pQ.toNat*g.size),by simp[oL],Fm _ (Fp _ g1),Vl _ (Vo _ g2)⟩
      ·cases he
     ·cases he
    ·cases he
   ·cases J
  ·cases J
 ·rename_i op wr x y Ua ty o o' akJ;simp only[cC,fk]at ax;obtain⟨⟨rfl,J⟩,U⟩:=ax;obtain⟨r,g1,g2⟩:=XL P w ν (by simpa only[hb]using he) au ty (eh aK J) (eh aK U) o o';exact⟨r,k4 g1,g2⟩
 ·rename_i x op ty o;simp only[cC,fk]at ax;obtain⟨rfl,J⟩:=ax;have ak:=eh aK J;simp only[hb]at he;unfold FJ at he;split at he
  ·rename_i b ad;cases he;rw[ad]at ak;simp only[a8]at ak;exact⟨_,k4 (v:= .bool (!b)) (by simp[Op.unary,ak]),by simp[a8]⟩
  ·cases he
 ·rename_i x op ty o;simp only[cC,fk]at ax;obtain⟨rfl,J⟩:=ax;have ak:=eh aK J;simp only[hb]at he;unfold FF at he;split at he
  ·rename_i k n ad;cases he;rw[ad]at ak;simp only[a8]at ak;exact⟨_,k4 (v:= .int k (k.wrap (0-n))) (by simp[Op.unary,ak,Op.intArith]),by simp[a8]⟩
  ·cases he
 ·rename_i k x s d o;simp only[cC]at ax;obtain⟨J,U⟩:=ax;split at J
  ·rename_i aU bG By tR;simp only[fk]at J;subst J;obtain⟨d1,fm,adi⟩:=iK aO By;obtain rfl:=Eb adi;obtain⟨d2,eF,adj⟩:=iK aO tR;obtain rfl:=Eb adj;have ak:=eh aK U;simp only[hb]at he;unfold D9 at he;split at he
   ·rename_i bK n ad;cases he;rw[ad]at ak;simp only[a8]at ak;exact⟨_,k4 (v:= .int k (k.wrap n)) (by simp[convert,ak,run_underlying fm,run_underlying eF,Conv.intToInt]),by simp[a8]⟩
   ·cases he
  ·cases J
 ·rename_i i x o j;simp only[cC,dO]at ax;obtain⟨rfl,J⟩:=ax;have ak:=eh aK J;simp only[hb]at he;unfold yM at he;split at he
  ·rename_i bc ad;simp only[gJ]at he;obtain⟨q,br,he⟩:=he;cases he;rw[ad]at ak;simp only[a8]at ak;obtain⟨us,hu,U⟩:=ak;obtain⟨v,g1,g2⟩:=Gm i U br;have kS:us[i]? =some v:=by simpa using g1
   exact⟨v,k4 (by simp[Instr.extract,hu,kS]),g2⟩
  ·cases he
 ·rename_i x o t;simp only[cC]at ax;obtain⟨J,U⟩:=ax;have ak:=eh aK U;simp only[hb]at he;unfold zD at he;split at he
  ·rename_i sz tag xs ad;cases he;rw[ad]at ak;simp only[a8]at ak;obtain⟨⟨sc,cap,aG,_⟩,_⟩:=ak;refine⟨.int .i64 xs.length,?_,by simp[a8]⟩;split at J
   ·rename_i aJ;obtain⟨d,aP,eT⟩:=iK aO aJ;obtain rfl:=sg eT;simp[execOp,resolve,invoke,builtin,Builtin.len_,run_underlying aP,aG,goInt]
   ·cases J
  ·rename_i sz k n ad;cases he;rw[ad]at ak;simp only[a8]at ak;obtain⟨⟨sc,cap,aG⟩,_⟩:=ak;refine⟨.int .i64 n,?_,by simp[a8]⟩;split at J
   ·rename_i aJ;obtain⟨d,aP,eT⟩:=iK aO aJ;obtain rfl:=sg eT;simp[execOp,resolve,invoke,builtin,Builtin.len_,run_underlying aP,aG,goInt]
   ·cases J
  ·rename_i sc n cap ad;cases he;rw[ad]at ak;simp only[a8]at ak;refine⟨.int .i64 n,?_,by simp[a8]⟩;split at J
   ·rename_i aJ;obtain⟨d,aP,eT⟩:=iK aO aJ;obtain rfl:=sg eT;simp[execOp,resolve,invoke,builtin,Builtin.len_,run_underlying aP,ak,goInt]
   ·cases J
  ·cases he
 ·rename_i x o t;simp only[cC]at ax;obtain⟨J,U⟩:=ax;have ak:=eh aK U;simp only[hb]at he;unfold C7 at he;split at he
  ·rename_i s ad;cases he;rw[ad]at ak;simp only[a8]at ak;refine⟨.int .i64 s.length,?_,by simp[a8]⟩;split at J
   ·rename_i aJ;obtain⟨d,aP,eT⟩:=iK aO aJ;obtain rfl:=yK eT;simp[execOp,resolve,invoke,builtin,Builtin.len_,run_underlying aP,ak.1,goInt,C6]
   ·cases J
  ·rename_i s ad;cases he;rw[ad]at ak;simp only[a8]at ak;refine⟨.int .i64 s.size,?_,by simp[a8]⟩;split at J
   ·rename_i aJ;obtain⟨d,aP,eT⟩:=iK aO aJ;obtain rfl:=yK eT;simp[execOp,resolve,invoke,builtin,Builtin.len_,run_underlying aP,ak,goInt]
   ·cases J
  ·cases he
 ·rename_i zero parts t cv;split at ax
  ·rename_i dM z aJ;simp only[cC]at ax;obtain⟨⟨J,U⟩,ao⟩:=ax;have bp:=amj J;obtain⟨i,d,ami,ak,aC,bk,dc,gV,hI,qU,qV⟩:=(uU aO aJ).ex;obtain⟨gs,rfl,kj⟩:=HX gV;simp only at bp qU qV;subst bp;have ld:(gs.toList.all fun f=>(dY bB f.type).isSome)=true:=by rw[←kj]at U;simpa[List.all_map,Function.comp_def]using U
   obtain⟨sU,cO,dp⟩:=Ul aO gs.toList ld;rw[kj]at dp;cases ami<;>simp only[yo]at qU;case agg us=>
    simp only[hb]at he;cases ad:tC st.t zero parts with
    |none=>simp[ad]at he
    |some x=>obtain⟨cr,cs'⟩:=x;simp only[ad,nQ]at he;cases he;obtain⟨ck,g1,g2⟩:=VB aK dp parts cv.toList zero us c cs' ao (MG w ν _ _ qU) ad au;refine⟨.agg ck,k4 (run_build w t _ ck ?_),by simp only[a8];exact⟨ck,rfl,g2⟩⟩;simp only[Program.built,ak,aC,hI,cO,pe];simpa using g1
   all_goals cases qU
  ·cases ax
 ·rename_i x o;have ak:=eh aK ax;simp only[hb]at he;unfold zN at he;split at he
  ·rename_i k off ad;cases he;rw[ad]at ak;have aC:=ak;simp only[a8]at ak;obtain⟨b,_,aG⟩:=ak;exact⟨a.eval o,by simp[execOp,aG],aC⟩
  ·rename_i q ad;cases he;rw[ad]at ak;have aC:=ak;simp only[a8]at ak;obtain⟨b,off,u,aG,_⟩:=ak;exact⟨a.eval o,by simp[execOp,aG],aC⟩
  ·rename_i f cs ad;cases he;rw[ad]at ak;have aC:=ak;simp only[a8]at ak;obtain⟨us,aG,_⟩:=ak;exact⟨a.eval o,by simp[execOp,aG],aC⟩
  ·cases he
 ·rename_i x y o o' t dJ;simp only[cC]at ax;have ak:=eh aK ax.1;have aC:=eh aK ax.2;simp only[hb]at he;unfold FE at he;split at he
  ·rename_i k m bK n hm aA;split at he
   ·rename_i ab;subst ab;cases he;rw[hm]at ak;rw[aA]at aC;simp only[a8]at ak aC;exact⟨.int k (if n<m then n else m),by simp[execOp,resolve,invoke,builtin,Builtin.min_,Builtin.min2,ak,aC],by simp[a8]⟩
   ·cases he
  ·cases he
 ·rename_i n xs m os;simp only[cC,dO]at ax;obtain⟨rfl,ax⟩:=ax;simp only[hb]at he;cases he;have tN:=CX aK ax;refine⟨.func (.func n) #[] (os.map a.eval),by simp[execOp,Instr.makeFunc],?_⟩;simp only[a8];exact⟨os.map a.eval,rfl,by simpa using tN⟩
 ·rename_i cd zero ok x k t o o' FK;simp only[cC,dO]at ax;obtain⟨⟨⟨rfl,J⟩,U⟩,ao⟩:=ax;have ak:=eh aK U;have aC:=eh aK ao;split at J
  ·rename_i sz kQ mq oT z aJ;simp only[cC]at J;obtain⟨adG,I4⟩:=J;split at I4
   ·rename_i anx adm;have bp:=MI I4;obtain⟨cG,hu,eT⟩:=iK aO aJ;have sv:cG= .map mq oT:=by cases cG<;>simp[jX]at eT;obtain⟨rfl,rfl⟩:=eT;rfl
    subst sv;obtain⟨b7,kL,z2,_⟩:=Mb aO adm w;rw[←bp]at z2;have aa:=(MH w ν z2).1;have lM:=JY aO adG;simp only[hb]at he;unfold nF at he;split at he
    ·rename_i key ae;rw[ae]at ak;simp only[a8]at ak;obtain⟨bl,ch,b6⟩:=ak;split at he
     ·rename_i clock borns kvs hV;obtain⟨ie,us,el,g1,g2,g3,g4,g5⟩:=aK.good.box key _ hV;rw[ch]at g1;cases g1;simp only[jE]at g4;simp only[iZ]at g5;have gW:(getObj bl).run P w= .ok (.map (fx borns us.toList).toArray clock) w:=uM g4;split at he
      ·cases he
      rename_i vn;have vi:=LF (P:=P) (w:=w) lM ((fx borns us.toList).toArray.isEmpty) aC (by simpa using vn);split at he
      ·rename_i v hm;cases he;obtain⟨j,u,f1,f2⟩:=Kq lM aC borns kvs us.toList 0 _ g5.1 g5.2.len hm;refine⟨if ok then .tuple #[u,.bool true]else u,?_,?_⟩
       ·simp only[execOp];refine k4 ?_;simp only[Instr.lookup,fE,run_underlying hu,fI,b6,gW,gu,vi,f1.run lM]
       ·cases ok
        ·simpa using f2
        ·simp only[if_true,a8];exact⟨_,rfl,by simp only[cP];exact⟨_,_,rfl,f2,_,_,rfl,by simp[a8],rfl⟩⟩
      ·rename_i hm;cases he;have f1:=Kq lM aC borns kvs us.toList 0 _ g5.1 g5.2.len hm;simp only at f1;refine⟨if ok then .tuple #[b7,.bool false]else b7,?_,?_⟩
       ·simp only[execOp];refine k4 ?_;simp only[Instr.lookup,fE,run_underlying hu,fI,b6,gW,gu,vi,f1.run lM,kL]
       ·cases ok
        ·simpa using aa
        ·simp only[if_true,a8];exact⟨_,rfl,by simp only[cP];exact⟨_,_,rfl,aa,_,_,rfl,by simp[a8],rfl⟩⟩
      ·cases he
     ·cases he
    ·cases he
   ·cases I4
  ·cases J
 ·rename_i x o;have ak:=eh aK ax;simp only[hb]at he;unfold o6 at he;split at he
  ·rename_i ff ae;rw[ae]at ak;simp only[a8]at ak;obtain⟨bl,ch,b6⟩:=ak;split at he
   ·rename_i since seen last mk hV;obtain⟨ie,us,el,g1,g2,g3,g4,g5⟩:=aK.good.box ff _ hV;rw[ch]at g1;cases g1;simp only[jE]at g4;simp only[iZ,cP,a8]at g5;obtain⟨u,ck,qv,⟨mb,m1,rfl⟩,rfl⟩:=g5;rw[qv]at g4;simp only at g4;split at he
    ·rename_i clock borns kvs adP;obtain⟨amI,rX,ani,aU,bG,b9,eV,dd⟩:=aK.good.box mk _ adP;rw[m1]at aU;cases aU;simp only[jE]at eV;simp only[iZ]at dd;split at he
     ·rename_i n aA;simp only[gJ]at he;obtain⟨q,br,he⟩:=he;cases he;obtain⟨e,f1,f2⟩:=Tt borns kvs rX.toList p dd.1 br;refine⟨.tuple #[e.key,e.val],?_,f2⟩;simp only[execOp];refine k4 ?_;have adu:(getObj bl).run P w= .ok (.mapIter (some mb) since seen.toArray last) w:=uM g4;have adv:(getObj mb).run P w= .ok (.map (fx borns rX.toList).toArray clock) w:=uM eV;have IZ:seen.toArray.back? =some n:=by simpa using aA
      have y4:(clock !=last)=false:=by simp[au]
      have adn:(fx borns rX.toList).toArray.find? (·.born==n)=some e:=by simpa using f1
      simp only[Instr.entry,b6,fE,adu,fI,IZ,adv,y4,gS,if_false,adn,gu]
     ·cases he
    ·cases he
   ·cases he
  ·cases he
 ·rename_i x o t;simp only[cC]at ax;obtain⟨J,U⟩:=ax;have ak:=eh aK U;simp only[hb]at he;unfold uv at he;split at he
  ·rename_i key ad;rw[ad]at ak;simp only[a8]at ak;obtain⟨bl,ch,b6⟩:=ak;split at he
   ·rename_i clock borns kvs hV;cases he;obtain⟨ie,us,el,g1,g2,g3,g4,g5⟩:=aK.good.box key _ hV;rw[ch]at g1;cases g1;simp only[jE]at g4;simp only[iZ]at g5;have gW:(getObj bl).run P w= .ok (.map (fx borns us.toList).toArray clock) w:=uM g4;have hlen:(fx borns us.toList).length=borns.length:=P0 g5.2.len (Vu g5.1);refine⟨.int .i64 borns.length,?_,by simp[a8]⟩;split at J
    ·rename_i aJ;obtain⟨d,aP,eT⟩:=iK aO aJ;obtain⟨mq,oT,rfl⟩:∃mq oT,d= .map mq oT:=by cases d<;>simp[jX]at eT;exact⟨_,_,rfl⟩
     simp[execOp,resolve,invoke,builtin,Builtin.len_,run_underlying aP,b6,goInt,gW,hlen]
    ·cases J
   ·cases he
  ·cases he
 ·rename_i neg dM x y op t o o' akJ;simp only[cC,fk]at ax;obtain⟨⟨⟨rfl,bA⟩,J⟩,U⟩:=ax;have ak:=eh aK J;have aC:=eh aK U;simp only[hb]at he;unfold ic at he;split at he
  ·rename_i bn b1 bt ad;simp only at bA;cases he;rw[bt]at ak;rw[ad]at aC;simp only[a8]at ak aC;split at bA
   ·rename_i aJ;obtain⟨d,aP,eT⟩:=iK aO aJ;obtain rfl:d= .bool:=by cases d<;>simp[jX]at eT;rfl
    refine⟨.bool (if neg then bn !=b1 else bn==b1),k4 ?_,by simp[a8]⟩;cases neg<;>simp[ak,aC,eqGuard,binOp,YX aP,bne]
   ·cases bA
  ·rename_i anH as eI bt ad;simp only at bA;simp only[gJ]at he;obtain⟨q,br,he⟩:=he;cases he;rw[bt]at ak;rw[ad]at aC;simp only[a8]at ak aC;obtain⟨X,YM,aiA⟩:=ak;obtain⟨Y,YN,aiB⟩:=aC;obtain⟨gs,hu,a1,da,iD⟩:=Qx aO bA;obtain⟨i1,_,_⟩:=P4 hu a1 da aiA aiB br;refine⟨.bool (if neg then !q else q),k4 ?_,by simp[a8]⟩;rw[YM,YN];cases neg
   ·simp only[gS,if_false,fE,run_eqGuard_agg w _ t o o' X Y iD,fI,run_eql_struct,i1]
   ·simp only[if_true,fE,run_eqGuard_agg w _ t o o' X Y iD,fI,run_neq_struct,i1]
  ·cases he
 ·rename_i x y o o' t dJ;simp only[cC]at ax;have ak:=eh aK ax.1;have aC:=eh aK ax.2;simp only[hb]at he;unfold FA at he;split at he
  ·rename_i k m bK n hm aA;split at he
   ·rename_i ab;subst ab;cases he;rw[hm]at ak;rw[aA]at aC;simp only[a8]at ak aC;exact⟨.int k (if m<n then n else m),by simp[execOp,resolve,invoke,builtin,Builtin.max_,Builtin.max2,ak,aC],by simp[a8]⟩
   ·cases he
  ·cases he
 ·rename_i t x dJ o;simp only[cC,dO]at ax;obtain⟨⟨rfl,J⟩,U⟩:=ax;have ak:=eh aK U;simp only[hb]at he;cases he;split at J
  ·rename_i aJ;obtain⟨d,aP,eT⟩:=iK aO aJ;obtain rfl:=sg eT;refine⟨.iface t (a.eval o),k4 (by simp[Instr.makeInterface,run_underlying aP]),?_⟩;simp only[a8];exact⟨_,rfl,ak⟩
  ·cases J
 ·rename_i agg sz x t o;simp only[cC]at ax;obtain⟨J,U⟩:=ax;split at J
  ·rename_i f aJ;simp only[cC,dO]at J;obtain⟨rfl,rfl⟩:=J;obtain⟨v,g1,g2⟩:=Fv aO aK.good aJ (eh aK U) (afx (by simpa only[hb]using he)) au;exact⟨v,k4 g1,g2⟩
  ·cases J
 ·rename_i agg sz x t o;simp only[cC]at ax;obtain⟨J,U⟩:=ax;split at J
  ·rename_i f aJ;simp only[cC,dO]at J;obtain⟨rfl,rfl⟩:=J;obtain⟨v,g1,g2⟩:=Fv aO aK.good aJ (eh aK U) (abZ (by simpa only[hb]using he)) au;exact⟨v,k4 g1,g2⟩
  ·cases J
 ·exact absurd rfl (ac7 _ _ _ _ _)
 ·cases ax
theorem akP{P:cD}{bB:List (Nat×dA)}(aO:fL P bB=true){C:e9}{st:bq}{a:Act}{w:World}{ν:bd}(aK:cS C st a w ν){i:fM}{o:Oper}(ax:Di bB i o.op=true)
  {c:Prop} {p:ah} (he:hb st i=some (c,p)) (au:c):∃v,(execOp a.eval o).run P w= .ok (.value v) w∧a8 w ν p v:=by
 by_cases ad:∃cd z ok x k,i= .mgetB cd z ok x k
 ·obtain⟨cd,z,ok,x,k,rfl⟩:=ad;refine Wk aO aK (i:= .mget cd z ok x k) (fun _ _ _ _ _ e=>by cases e) ?_ he au;obtain⟨dst,op,type,pos,after,guard⟩:=o;cases op<;>first|exact ax|simp[Di]at ax
 ·exact Wk aO aK (fun cd z ok x k e=>ad ⟨cd,z,ok,x,k,e⟩) ax he au
theorem PD{w:World}{o:Obj}{b i:Nat}(h:b<w.heap.size):(w.alloc o).cell? ⟨b,i,none⟩=w.cell? ⟨b,i,none⟩:=World.cell?_of_block (Below.heap_alloc w o b h)
def bd.withBox(ν:bd)(k:aH)(bl:Nat):bd:={ν with bx:=fun j=>if j=k then some bl else ν.bx j}
def bd.withOwn(ν:bd)(k:aH)(n:Nat)(v:Value):bd:={ν with ow:=fun j=>if j=k then some (n,v)else ν.ow j}
theorem cS.lookNone{C:e9}{st:bq}{a:Act}{w:World}{ν:bd}(h:cS C st a w ν){k:aH}(ab:fresh st.n st.o k):look k st.b=none∧look k st.e=none:=by
 obtain⟨J,U,_⟩:=h.new k ab;constructor
 ·cases ad:look k st.b with
  |none=>rfl
  |some cs=>obtain⟨bl,us,el,g1,_⟩:=h.good.box _ _ ad;rw[J]at g1;cases g1
 ·cases ad:look k st.e with
  |none=>rfl
  |some o=>obtain⟨v,us,g1,_⟩:=h.good.own _ _ ad;rw[U]at g1;cases g1
theorem Good.ownLt{pr:Nat→Prop}{w:World}{ν:bd}{b:List (aH×List ah)}{e:List (aH×fK)}(h:Good pr w ν b e){g:aH}{o:fK}(a1:look g e=some o){n:Nat}{v:Value}(aG:ν.ow g=some (n,v)){bl:Nat}(ad:v.ownBlock=some bl):bl<w.heap.size:=by obtain⟨v',us,g1,g2,_⟩:=h.own g o a1;rw[aG]at g1;cases g1;exact(g2.lt bl ad).2
theorem Good.boxLt{pr:Nat→Prop}{w:World}{ν:bd}{b:List (aH×List ah)}{e:List (aH×fK)}(h:Good pr w ν b e){k:aH}{cs:List ah}(ab:look k b=some cs){bl:Nat}(ad:ν.bx k=some bl):bl<w.heap.size:=by obtain⟨ie,us,el,g1,_,_,g4,_⟩:=h.box k cs ab;rw[ad]at g1;cases g1;exact(Array.getElem?_eq_some_iff.1 g4).1
theorem cS.newBox{C:e9}{st:bq}{a:Act}{w:World}{ν:bd}(h:cS C st a w ν){fb:aH}(BG:ν.bx fb=none∧ν.ow fb=none∧∀j b,¬ν.tr fb j b){n':Nat}{o':List aH}(cB:∀j,fresh n' o' j→fresh st.n st.o j∧j≠fb){cs:List ah}{us:Array Value}(el:fR)(au:iZ w ν cs us.toList):
  cS C {st with b:=cA fb cs st.b,n:=n',o:=o'} a (w.alloc (jE cs us el)) (ν.withBox fb w.heap.size)∧
  a8 (w.alloc (jE cs us el)) (ν.withBox fb w.heap.size) (.ptr fb 0) (.pointer (some ⟨w.heap.size,0,none⟩)):=by
 obtain⟨rk,BJ,adV⟩:=BG;have ax:k8 w ν (w.alloc (jE cs us el)) (ν.withBox fb w.heap.size):=by
  refine⟨fun b o bg=>⟨bg,PD (h.good.alt b o bg)⟩,fun k b _ ab=>?_,fun g n u _ a1=>⟨n,u,a1,.inl ⟨rfl,rfl⟩⟩,fun b o bg=>wh (Below.heap_alloc w _ b (h.good.alt b o bg)),fun _ _ _ _ h=>h⟩;have:k≠fb:=fun e=>by subst e;rw[rk]at ab;cases ab
  simp[bd.withBox,this,ab]
 have dX:(w.alloc (jE cs us el)).heap.size=w.heap.size+1:=by simp
 have lg:∀k,(look k (cA fb cs st.b)).isSome→k=fb∨(k≠fb∧(look k st.b).isSome∧(ν.withBox fb w.heap.size).bx k=ν.bx k):=by
  intro k ab;by_cases e:k=fb
  ·exact .inl e
  ·rw[iH,if_neg (kN e)]at ab;exact .inr ⟨e,ab,by simp[bd.withBox,e]⟩
 refine⟨h.over ax rfl ⟨fun bl o bg=>by rw[dX];have:=h.good.alt bl o bg;omega,fun k eE ab=>?_,fun k bK bl ab ny ak aC=>?_,fun g o a1=>?_,h.good.oinj,fun g k n v bl a1 ab aG ad ae=>?_,fun k=>?_,fun bl ad k j aO=>?_⟩
  ⟨h.fr.os,h.fr.tape,h.fr.output,by rw[dX];have:=h.fr.size;omega,fun k ab hm=>?_,fun b o bg=>?_,h.fr.fresh,fun n b ad=>?_,h.fr.obn,h.fr.row,h.fr.obr,h.fr.trd,fun k j b ad=>⟨(h.fr.trb k j b ad).1,by rw[dX];have:=(h.fr.trb k j b ad).2;omega⟩,fun k j b ad=>?_,fun b o bg=>(ax.sh b o (h.fr.keep b o bg).1).trans (h.fr.sh b o bg)⟩ (fun m hm=>?_),?_⟩
 ·simp only at ab;rw[iH]at ab;by_cases e:fb=k
  ·rw[if_pos e]at ab;cases ab;subst e;refine⟨w.heap.size,us,el,by simp[bd.withBox],.inr h.fr.size,fun o bg=>?_,heap_alloc_new w _,pX ax au⟩;have:=h.good.alt _ o bg;omega
  ·rw[if_neg e]at ab;obtain⟨bl,ck,fN,g1,g2,g3,g4,g5⟩:=h.good.box k eE ab;exact⟨bl,ck,fN,ax.bx _ _ trivial g1,g2,g3,by rw[Below.heap_alloc w _ bl (Array.getElem?_eq_some_iff.1 g4).1];exact g4,pX ax g5⟩
 ·rcases lg k ab with rfl|⟨hW,gf,iX⟩<;>rcases lg bK ny with rfl|⟨m1,m2,m3⟩
  ·rfl
  ·exfalso;simp only[bd.withBox,if_true,dG]at ak;subst ak;rw[m3]at aC;obtain⟨eE,iC⟩:=fJ.1 m2;have:=h.good.boxLt iC aC;omega
  ·exfalso;simp only[bd.withBox,if_true,dG]at aC;subst aC;rw[iX]at ak;obtain⟨eE,iC⟩:=fJ.1 gf;have:=h.good.boxLt iC ak;omega
  ·rw[iX]at ak;rw[m3]at aC;exact h.good.inj k bK bl gf m2 ak aC
 ·obtain⟨v,xs,g1,g2,g3,g4⟩:=h.good.own g o a1;exact⟨v,xs,g1,g2.alloc _,g3,rO ax (fun _ _ _ h=>h) g4⟩
 ·rcases lg k ab with rfl|⟨hW,gf,iX⟩
  ·simp only[bd.withBox,if_true,dG]at ae;subst ae;obtain⟨o,hK⟩:=fJ.1 a1;have:=h.good.ownLt hK aG ad;omega
  ·rw[iX]at ae;exact h.good.obx g k n v bl a1 gf aG ad ae
 ·by_cases e:k=fb
  ·subst e;exact .inr BJ
  ·rcases h.good.one k with J|J
   ·exact .inl (by simp[bd.withBox,e,J])
   ·exact .inr J
 ·rcases ad with⟨bK,bC,a2⟩|ad
  ·rcases lg bK bC with rfl|⟨hW,gf,iX⟩
   ·simp[bd.withBox]at a2;subst a2;exact absurd (h.fr.trb k j _ aO).2 (Nat.lt_irrefl _)
   ·exact h.good.otr bl (.inl ⟨bK,gf,by rw[←iX];exact a2⟩) k j aO
  ·exact h.good.otr bl (.inr ad) k j aO
 ·rw[Below.heap_alloc w _ k (by have:=h.fr.size;omega)];exact h.fr.block k ab hm
 ·obtain⟨aU,bG⟩:=h.fr.keep b o bg;exact⟨aU,(PD (h.good.alt b o aU)).trans bG⟩
 ·exact ax.bx _ _ trivial (h.fr.obj n b ad)
 ·have cF:k≠fb:=fun e=>by subst e;exact adV j b ad
  obtain⟨t1,t2⟩:=h.fr.trn k j b ad;exact⟨by simp[bd.withBox,cF,t1],t2⟩
 ·obtain⟨f1,f2⟩:=cB m hm;obtain⟨aU,bG⟩:=h.new m f1;refine⟨?_,bG⟩;simp[bd.withBox,f2,aU]
 ·simp[a8,bd.withBox]
theorem cS.setBox{C:e9}{st:bq}{a:Act}{w w':World}{ν:bd}(h:cS C st a w ν){k:aH}{cs cs':List ah}(ab:look k st.b=some cs){bl:Nat}(ad:ν.bx k=some bl){us:Array Value}{el:fR}
  (zi:w'.os=w.os) (JA:w'.tape=w.tape) (Jn:w'.output=w.output) (mT:∀j,j≠bl→w'.heap[j]? =w.heap[j]?) (dX:w'.heap.size=w.heap.size) (kk:w'.heap[bl]? =some (jE cs' us el)) (au:iZ w ν cs' us.toList):
  cS C {st with b:=cA k cs' st.b} a w' ν∧k8 w ν w' ν:=by
 obtain⟨ie,fu,anh,g1,g2,g3,g4,g5⟩:=h.good.box k cs ab;rw[ad]at g1;cases g1;have ax:k8 w ν w' ν:=by
  refine⟨fun b o bg=>⟨bg,World.cell?_of_block (mT b fun e=>?_)⟩,fun _ _ _ h=>h,fun g n u _ a1=>⟨n,u,a1,.inl ⟨rfl,rfl⟩⟩,fun b o bg=>wh (mT b fun e=>?_),fun _ _ _ _ h=>h⟩<;>
  (subst e;exact g3 o bg)
 have EJ:∀j,(look j (cA k cs' st.b)).isSome→(look j st.b).isSome:=by
  intro j af;rw[iH]at af;by_cases e:k=j
  ·subst e;simp[ab]
  ·rwa[if_neg e]at af
 refine⟨h.over ax rfl ⟨fun b o bg=>by rw[dX];exact h.good.alt b o bg,fun j eE af=>?_,fun j dx b af jh=>h.good.inj j dx b (EJ j af) (EJ dx jh),fun g o a1=>?_,h.good.oinj,fun g j n v b a1 af=>h.good.obx g j n v b a1 (EJ j af),h.good.one,fun bl ad=>h.good.otr bl (ad.imp (fun⟨k,J,U⟩=>⟨k,EJ k J,U⟩) id)⟩
  ⟨zi.trans h.fr.os,JA.trans h.fr.tape,Jn.trans h.fr.output,by rw[dX];exact h.fr.size,fun j af hm=>?_,fun b o bg=>?_,h.fr.fresh,h.fr.obj,h.fr.obn,h.fr.row,h.fr.obr,h.fr.trd,fun k j b ad=>⟨(h.fr.trb k j b ad).1,by rw[dX];exact(h.fr.trb k j b ad).2⟩,h.fr.trn,fun b o bg=>(ax.sh b o (h.fr.keep b o bg).1).trans (h.fr.sh b o bg)⟩ h.new,ax⟩
 ·simp only at af;rw[iH]at af;by_cases e:k=j
  ·rw[if_pos e]at af;cases af;subst e;exact⟨bl,us,el,ad,g2,g3,kk,pX ax au⟩
  ·rw[if_neg e]at af;obtain⟨b,ck,fN,ak,aC,bk,dc,gV⟩:=h.good.box j eE af;refine⟨b,ck,fN,ak,aC,bk,?_,pX ax gV⟩;rw[mT b fun fG=>e (h.good.inj k j bl (by simp[ab]) (by simp[af]) ad (by rw[←fG];exact ak))];exact dc
 ·obtain⟨v,xs,ak,aC,bk,dc⟩:=h.good.own g o a1;refine⟨v,xs,ak,⟨aC.1,?_⟩,bk,rO ax (fun _ _ _ h=>h) dc⟩;rcases aC.2 with aC|⟨bb,cap,cur,f1,f2,f3,f4⟩
  ·exact .inl aC
  ·refine .inr ⟨bb,cap,cur,f1,f2,?_,f4⟩;rw[mT bb fun fG=>h.good.obx g k o.n v bl (by simp[a1]) (by simp[ab]) ak (by rw[f1,←fG];rfl) ad];exact f3
 ·rw[mT j fun e=>by subst e;exact g2.elim hm (fun g2=>by omega)];exact h.fr.block j af hm
 ·obtain⟨aU,bG⟩:=h.fr.keep b o bg;exact⟨aU,(ax.A b o aU).2.trans bG⟩
theorem cS.storeBox{C:e9}{st:bq}{a:Act}{w:World}{ν:bd}(h:cS C st a w ν){k:aH}{cs cs':List ah}(ab:look k st.b=some cs){bl:Nat}(ad:ν.bx k=some bl)(bI:hP cs=true){us:Array Value}(au:c5 w ν cs' us.toList):
  cS C {st with b:=cA k cs' st.b} a (w.setRow bl us) ν:=by
 obtain⟨ie,fu,el,g1,g2,g3,g4,g5⟩:=h.good.box k cs ab;rw[ad]at g1;cases g1;rw[uz bI]at g4;have RQ:=Aj au;exact(h.setBox (w':=w.setRow bl us) ab ad (us:=us) (el:=el) rfl rfl rfl (fun j af=>setRow_other w bl j us af) (setRow_size w bl us) (by rw[uz RQ];exact setRow_heap w bl fu us el _ g4) (by rw[uA RQ];exact au)).1
def bd.withRowOf(ν:bd)(k:aH)(v:Value)(n cells:Nat):bd:={A:=fun b o=>ν.A b o∨(v.ownBlock=some b∧o<cells),bx:=ν.bx,ow:=fun j=>if j=k then some (n,v)else ν.ow j,tr:=ν.tr}
theorem J5{w:World}{A:Nat→Nat→Prop}{b:Nat}:∀(us:List Value) (off:Nat),(∀j u,us[j]? =some u→A b (off+j)∧w.cell? ⟨b,off+j,none⟩=some u)→lx w A b off us
 |[],_,_=>trivial
 |u::us,off,h=>⟨h 0 u rfl,J5 us (off+1) fun j x af=>by have:=h (j+1) x (by simpa using af);rwa[show off+(j+1)=off+1+j from by omega]at this⟩
theorem D7{w w':World}(a1:w.grownBy w' none){b i:Nat}(h:b<w.heap.size):w'.cell? ⟨b,i,none⟩=w.cell? ⟨b,i,none⟩:=World.cell?_of_block (a1.block b h (by simp))
theorem cS.newRowM{C:e9}{st:bq}{a:Act}{w w':World}{ν:bd}(h:cS C st a w ν){k:aH}{xs:List ah}(ab:(ν.bx k=none∧ν.ow k=none∧∀j b,¬ν.tr k j b)∨ ∃o,look k st.e=some o∧o.n<xs.length){el sz:Nat}{v:Value}{us:List Value}
  (a1:w.grownBy w' none) (lp:w'.ownsRow w.heap.size el sz v xs.length us) (au:dw w ν sz xs us) (eY:xs.length≤lim) {n':Nat} {o':List aH} (cB:∀j,fresh n' o' j→fresh st.n st.o j∧j≠k):
  cS C {st with e:=cA k ⟨xs.length,el,sz,some xs⟩ st.e,n:=n',o:=o'} a w' (ν.withOwn k xs.length v)∧
  ((∃b cap,v= .slice (some ⟨b,0,none⟩) xs.length cap)→a8 w' (ν.withOwn k xs.length v) (.row sz k xs.length) v):=by
 have qn:∀bl,v.ownBlock=some bl→w.heap.size≤bl∧bl<w'.heap.size:=fun bl ad=>lp.lt bl ad;have ax:k8 w ν w' (ν.withOwn k xs.length v):=by
  refine⟨fun b o bg=>⟨bg,D7 a1 (h.good.alt b o bg)⟩,fun j b _ af=>af,fun g n u _ iD=>?_,fun b o bg=>wh (a1.block b (h.good.alt b o bg) (by simp)),fun _ _ _ _ h=>h⟩;by_cases e:g=k
  ·subst e;rcases ab with ab|⟨o,ax,bD⟩
   ·rw[ab.2.1]at iD;cases iD
   ·obtain⟨v0,fu,ak,_⟩:=h.good.own g o ax;rw[ak]at iD;cases iD;exact⟨xs.length,v,by simp[bd.withOwn],.inr bD⟩
  ·exact⟨n,u,by simp[bd.withOwn,e,iD],.inl ⟨rfl,rfl⟩⟩
 have kE:∀g,(look g (cA k ⟨xs.length,el,sz,some xs⟩ st.e)).isSome→g=k∨(g≠k∧(look g st.e).isSome∧(ν.withOwn k xs.length v).ow g=ν.ow g):=by
  intro g kj;by_cases e:g=k
  ·exact .inl e
  ·rw[iH,if_neg (kN e)]at kj;exact .inr ⟨e,kj,by simp[bd.withOwn,e]⟩
 have RM:∀bl,v.ownBlock=some bl→∀j,¬ν.A bl j:=fun bl ad j bg=>by have J:=h.good.alt bl j bg;have:=(qn bl ad).1;omega
 have ad2:∀j b,¬ν.tr k j b:=fun j b ad=>by
  rcases ab with ab|⟨o,hK,_⟩
  ·exact ab.2.2 j b ad
  ·obtain⟨v0,fu,ak,_⟩:=h.good.own k o hK;rw[(h.fr.trn k j b ad).2]at ak;cases ak
 refine⟨h.over ax rfl ⟨fun bl o bg=>?_,fun j eE af=>?_,h.good.inj,fun g o dU=>?_,fun g fa n n' u e1 bl J U ao ba b2 c7=>?_,fun g j n u bl J U ao ba b2=>?_,fun j=>?_,fun bl ad bK j aO=>?_⟩
  ⟨a1.os.trans h.fr.os,a1.tape.trans h.fr.tape,a1.output.trans h.fr.output,j8 h.fr.size a1.size,fun j af hm=>?_,fun b o bg=>?_,h.fr.fresh,h.fr.obj,h.fr.obn,fun m n u hm=>C1 (h.fr.row m n u hm) (fun n u=>ax.ow _ n u trivial),h.fr.obr,h.fr.trd,fun k j b ad=>⟨(h.fr.trb k j b ad).1,Nat.lt_of_lt_of_le (h.fr.trb k j b ad).2 a1.size⟩,fun bK j b ad=>?_,fun b o bg=>(ax.sh b o (h.fr.keep b o bg).1).trans (h.fr.sh b o bg)⟩ (fun m hm=>?_),?_⟩
 ·have:=h.good.alt bl o bg;have:=a1.size;omega
 ·obtain⟨bl,ck,fN,g1,g2,g3,g4,g5⟩:=h.good.box j eE af;have bD:=(Array.getElem?_eq_some_iff.1 g4).1;exact⟨bl,ck,fN,g1,g2,g3,by rw[a1.block bl bD (by simp)];exact g4,pX ax g5⟩
 ·simp only at dU;rw[iH]at dU;by_cases e:k=g
  ·rw[if_pos e]at dU;cases dU;subst e;refine⟨v,us,by simp[bd.withOwn],⟨lp.1,?_⟩,fun bl ad=>⟨.inr (j8 h.fr.size (qn bl ad).1),fun j bg=>absurd bg (RM bl ad j)⟩,fun ys aL=>?_⟩
   ·rcases lp.2 with ak|⟨bb,cap,cur,f1,f2,f3⟩
    ·exact .inl ak
    ·exact .inr ⟨bb,cap,cur,f1,by omega,f3⟩
   ·simp only[dG]at aL;subst aL;exact⟨rfl,Ag ax au,RM⟩
  ·rw[if_neg e]at dU;obtain⟨v0,fu,ak,aC,bk,dc⟩:=h.good.own g o dU;exact⟨v0,fu,by simp[bd.withOwn,kN e,ak],aC.kept a1 (by cases v0.ownBlock<;>simp),bk,rO ax (fun _ _ _ h=>h) dc⟩
 ·rcases kE g J with rfl|⟨hW,gf,iX⟩<;>rcases kE fa U with rfl|⟨m1,m2,m3⟩
  ·rfl
  ·exfalso;simp only[bd.withOwn,if_true,dG,jm]at ao;rw[m3]at ba;obtain⟨o,hK⟩:=fJ.1 m2;have av:=h.good.ownLt hK ba c7;have:=(qn bl (by rw[ao.2];exact b2)).1;omega
  ·exfalso;simp only[bd.withOwn,if_true,dG,jm]at ba;rw[iX]at ao;obtain⟨o,hK⟩:=fJ.1 gf;have av:=h.good.ownLt hK ao b2;have:=(qn bl (by rw[ba.2];exact c7)).1;omega
  ·rw[iX]at ao;rw[m3]at ba;exact h.good.oinj g fa n n' u e1 bl gf m2 ao ba b2 c7
 ·rcases kE g J with rfl|⟨hW,gf,iX⟩
  ·simp only[bd.withOwn,if_true,dG,jm]at ao;obtain⟨eE,iC⟩:=fJ.1 U;have av:=h.good.boxLt iC b2;have:=(qn bl (by rw[ao.2];exact ba)).1;omega
  ·rw[iX]at ao;exact h.good.obx g j n u bl gf U ao ba b2
 ·by_cases e:j=k
  ·subst e;rcases ab with ab|⟨o,hK,_⟩
   ·exact .inl ab.1
   ·obtain⟨v0,fu,ak,_⟩:=h.good.own j o hK;rcases h.good.one j with J|J
    ·exact .inl J
    ·rw[J]at ak;cases ak
  ·rcases h.good.one j with J|J
   ·exact .inl J
   ·exact .inr (by simp[bd.withOwn,e,J])
 ·rcases ad with ad|⟨g,n,u,bC,a2,a3⟩
  ·exact h.good.otr bl (.inl ad) bK j aO
  ·rcases kE g bC with rfl|⟨hW,gf,iX⟩
   ·simp only[bd.withOwn,if_true,dG,jm]at a2;have J:=(qn bl (by rw[a2.2];exact a3)).1;have U:=(h.fr.trb bK j _ aO).2;omega
   ·exact h.good.otr bl (.inr ⟨g,n,u,gf,by rw[←iX];exact a2,a3⟩) bK j aO
 ·rw[a1.block j (by have:=h.fr.size;omega) (by simp)];exact h.fr.block j af hm
 ·obtain⟨aU,bG⟩:=h.fr.keep b o bg;exact⟨aU,(ax.A b o aU).2.trans bG⟩
 ·have cF:bK≠k:=fun e=>by subst e;exact ad2 j b ad
  obtain⟨t1,t2⟩:=h.fr.trn bK j b ad;exact⟨t1,by simp[bd.withOwn,cF,t2]⟩
 ·obtain⟨f1,f2⟩:=cB m hm;obtain⟨aU,bG,b9⟩:=h.new m f1;refine⟨aU,?_,b9⟩;simp[bd.withOwn,f2,bG]
 ·intro I8;simp only[a8];exact⟨I8,eY,xs.length,v,by simp[bd.withOwn],eR _,fun _=>rfl⟩
theorem cS.publish{C:e9}{st:bq}{a:Act}{w:World}{ν:bd}(h:cS C st a w ν){k:aH}{o:fK}{xs:List ah}(ab:look k st.e=some o)(ae:o.xs=some xs){v:Value}(aG:ν.ow k=some (o.n,v))(eY:xs.length≤lim):
  cS C {st with e:=cA k ⟨o.n,o.el,o.sz,none⟩ st.e} a w (ν.withRowOf k v o.n (o.n*o.sz))∧
  a8 w (ν.withRowOf k v o.n (o.n*o.sz)) (.slice o.sz (.own k) xs) v:=by
 obtain⟨v0,us,a6,bE,bX,cX⟩:=h.good.own k o ab;rw[aG]at a6;cases a6;obtain⟨c8,nG,uB⟩:=cX xs ae;have oa:∀g,(ν.withRowOf k v o.n (o.n*o.sz)).ow g=ν.ow g:=fun g=>by
  simp only[bd.withRowOf];split
  ·rename_i e;subst e;exact aG.symm
  ·rfl
 have ax:k8 w ν w (ν.withRowOf k v o.n (o.n*o.sz)):=⟨fun b o bg=>⟨.inl bg,rfl⟩,fun j b _ af=>af,fun g n u _ iD=>⟨n,u,by rw[oa];exact iD,.inl ⟨rfl,rfl⟩⟩,fun _ _ _=>rfl,fun _ _ _ _ h=>h⟩
 have kE:∀g,(look g (cA k ⟨o.n,o.el,o.sz,none⟩ st.e)).isSome→(look g st.e).isSome:=by
  intro g kj;by_cases e:k=g
  ·subst e;simp[ab]
  ·rwa[iH,if_neg e]at kj
 refine⟨h.over ax rfl ⟨fun bl i bg=>?_,fun j eE af=>?_,h.good.inj,fun g o' dU=>?_,fun g fa n n' u e1 bl J U ao ba=>h.good.oinj g fa n n' u e1 bl (kE g J) (kE fa U) (by rwa[oa]at ao) (by rwa[oa]at ba),fun g j n u bl J U ao=>h.good.obx g j n u bl (kE g J) U (by rwa[oa]at ao),fun j=>?_,fun bl ad=>h.good.otr bl (ad.imp id (fun⟨g,n,v,bC,a2,a3⟩=>⟨g,n,v,kE g bC,by rwa[oa]at a2,a3⟩))⟩
  ⟨h.fr.os,h.fr.tape,h.fr.output,h.fr.size,h.fr.block,fun b i bg=>⟨.inl (h.fr.keep b i bg).1,(h.fr.keep b i bg).2⟩,fun b i bg=>?_,h.fr.obj,h.fr.obn,fun m n u hm=>C1 (h.fr.row m n u hm) (fun n u=>ax.ow _ n u trivial),h.fr.obr,h.fr.trd,h.fr.trb,fun bK j b ad=>⟨(h.fr.trn bK j b ad).1,by rw[oa];exact(h.fr.trn bK j b ad).2⟩,h.fr.sh⟩ (fun m hm=>?_),?_⟩
 ·rcases bg with bg|⟨bg,_⟩
  ·exact h.good.alt bl i bg
  ·exact(bE.lt bl bg).2
 ·obtain⟨bl,ck,fN,g1,g2,g3,g4,g5⟩:=h.good.box j eE af;refine⟨bl,ck,fN,g1,g2,fun i bg=>?_,g4,pX ax g5⟩;rcases bg with bg|⟨bg,_⟩
  ·exact g3 i bg
  ·exact h.good.obx k j o.n v bl (by simp[ab]) (by simp[af]) aG bg g1
 ·simp only at dU;rw[iH]at dU;by_cases e:k=g
  ·rw[if_pos e]at dU;cases dU;subst e;refine⟨v,us,by rw[oa];exact aG,bE,fun bl ad=>⟨(bX bl ad).1,fun j bg=>?_⟩,fun ys aL=>by cases aL⟩;rcases bg with bg|⟨_,bg⟩
   ·exact(bX bl ad).2 j bg
   ·exact bg
  ·rw[if_neg e]at dU;obtain⟨v0,fu,ak,aC,bk,dc⟩:=h.good.own g o' dU;have vf:∀bl,v0.ownBlock=some bl→∀j,(ν.withRowOf k v o.n (o.n*o.sz)).A bl j→ν.A bl j:=fun bl ad j bg=>by
    rcases bg with bg|⟨bg,_⟩
    ·exact bg
    ·exact absurd (h.good.oinj k g o.n o'.n v v0 bl (by simp[ab]) (by simp[dU]) aG ak bg ad) e
   exact⟨v0,fu,by rw[oa];exact ak,aC,fun bl ad=>⟨(bk bl ad).1,fun j bg=>(bk bl ad).2 j (vf bl ad j bg)⟩,rO ax vf dc⟩
 ·rcases h.good.one j with J|J
  ·exact .inl J
  ·exact .inr (by rw[oa];exact J)
 ·rcases bg with bg|⟨bg,_⟩
  ·exact h.fr.fresh b i bg
  ·exact .inr (bX b bg).1
 ·obtain⟨aU,bG,b9⟩:=h.new m hm;exact⟨aU,by rw[oa];exact bG,b9⟩
 ·simp only[a8];refine⟨?_,fun e=>(by cases e),fun g e=>?_,fun _ _ e=>(by cases e),fun _ e=>(by cases e)⟩
  ·rcases bE.2 with⟨ak,aC⟩|⟨bb,cap,cur,f1,f2,f3,f4,f5,f6,f7⟩
   ·refine⟨none,0,by rw[ak,c8,aC],by omega,⟨by simp[maxLen],eY⟩,.inl (List.eq_nil_of_length_eq_zero (by omega))⟩
   ·refine⟨some ⟨bb,0,none⟩,cap,by rw[f1,c8],by omega,⟨f5,eY⟩,.inr ⟨bb,0,us,rfl,J5 us 0 fun j u af=>?_,Ag ax nG⟩⟩;have od:v.ownBlock=some bb:=by rw[f1];rfl
    have zc:j<us.length:=(fi.1 af).1;refine⟨.inr ⟨od,by rw[bE.1]at zc;omega⟩,?_⟩;have:=bE.cells od j u af;rwa[oL]at this
  ·cases e;exact⟨o.n,v,by rw[oa];exact aG,by omega,fun _=>rfl⟩
theorem Wi{α:Type}(k:aH)(p q:α):∀l,cA k q (cA k p l)=cA k q l
 |[]=>by simp[cA]
 |(i,r)::l=>by
  by_cases e:i=k
  ·simp[cA,e]
  ·simp[cA,e,Wi k p q l]
theorem cS.newRow{C:e9}{st:bq}{a:Act}{w w':World}{ν:bd}(h:cS C st a w ν){k:aH}{xs:List ah}(ab:(ν.bx k=none∧ν.ow k=none∧∀j b,¬ν.tr k j b)∨ ∃o,look k st.e=some o∧o.n<xs.length){el sz:Nat}{v:Value}{us:List Value}
  (a1:w.grownBy w' none) (lp:w'.ownsRow w.heap.size el sz v xs.length us) (au:dw w ν sz xs us) (eY:xs.length≤lim) {n':Nat} {o':List aH} (cB:∀j,fresh n' o' j→fresh st.n st.o j∧j≠k):
  cS C {st with e:=cA k ⟨xs.length,el,sz,none⟩ st.e,n:=n',o:=o'} a w' ((ν.withOwn k xs.length v).withRowOf k v xs.length (xs.length*sz))∧
  a8 w' ((ν.withOwn k xs.length v).withRowOf k v xs.length (xs.length*sz)) (.slice sz (.own k) xs) v:=by
 have J:=(h.newRowM ab a1 lp au eY cB).1;have U:=J.publish (k:=k) (o:=⟨xs.length,el,sz,some xs⟩) (xs:=xs) (v:=v) (by simp[iH]) rfl (by simp[bd.withOwn]) eY;simpa only[Wi]using U
theorem cS.setRowM{C:e9}{st:bq}{a:Act}{w w':World}{ν:bd}(h:cS C st a w ν){k:aH}{o:fK}{xs xs':List ah}(ab:look k st.e=some o)(ae:o.xs=some xs){bl:Nat}{v v':Value}(aG:ν.ow k=some (o.n,v))(od:v.ownBlock=some bl)(E0:v'.ownBlock=some bl)
  (aA:(xs'.length=o.n∧v'=v)∨o.n<xs'.length) {us:List Value} (zi:w'.os=w.os) (JA:w'.tape=w.tape) (Jn:w'.output=w.output) (mT:∀j,j≠bl→w'.heap[j]? =w.heap[j]?) (dX:w'.heap.size=w.heap.size)
  (lp:w'.ownsRow 0 o.el o.sz v' xs'.length us) (au:dw w ν o.sz xs' us):
  cS C {st with e:=cA k ⟨xs'.length,o.el,o.sz,some xs'⟩ st.e} a w' (ν.withOwn k xs'.length v')∧k8 w ν w' (ν.withOwn k xs'.length v')∧(xs'.length≤lim→a8 w' (ν.withOwn k xs'.length v') (.row o.sz k xs'.length) v'):=by
 obtain⟨v0,fu,a6,bE,bX,cX⟩:=h.good.own k o ab;rw[aG]at a6;cases a6;obtain⟨c8,nG,uB⟩:=cX xs ae;have ax:k8 w ν w' (ν.withOwn k xs'.length v'):=by
  refine⟨fun b i bg=>⟨bg,World.cell?_of_block (mT b fun e=>by subst e;exact uB b od i bg)⟩,fun j b _ af=>af,fun g n u _ iD=>?_,fun b i bg=>wh (mT b fun e=>by subst e;exact uB b od i bg),fun _ _ _ _ h=>h⟩;by_cases e:g=k
  ·subst e;rw[aG]at iD;cases iD;refine⟨xs'.length,v',by simp[bd.withOwn],?_⟩;rcases aA with⟨J,U⟩|J
   ·exact .inl ⟨J,U⟩
   ·exact .inr J
  ·exact⟨n,u,by simp[bd.withOwn,e,iD],.inl ⟨rfl,rfl⟩⟩
 have kE:∀g n u,(look g (cA k ⟨xs'.length,o.el,o.sz,some xs'⟩ st.e)).isSome→(ν.withOwn k xs'.length v').ow g=some (n,u)→∀b,u.ownBlock=some b→(look g st.e).isSome∧∃n u,ν.ow g=some (n,u)∧u.ownBlock=some b:=by
  intro g n u kj iD b ad;by_cases e:g=k
  ·subst e;simp only[bd.withOwn,if_true,dG,jm]at iD;rw[←iD.2,E0]at ad;cases ad;exact⟨by simp[ab],o.n,v,aG,od⟩
  ·rw[iH,if_neg (kN e)]at kj;simp only[bd.withOwn,e,if_false]at iD;exact⟨kj,n,u,iD,ad⟩
 refine⟨h.over ax rfl ⟨fun b i bg=>by rw[dX];exact h.good.alt b i bg,fun j eE af=>?_,h.good.inj,fun g o' dU=>?_,fun g fa n n' u e1 b J U ao ba b2 c7=>?_,fun g j n u b J U ao ba b2=>?_,fun j=>?_,fun b ad=>h.good.otr b (ad.imp id (fun⟨g,n,v,bC,a2,a3⟩=>by obtain⟨ch,hW,iL,b6,fC⟩:=kE g n v bC a2 b a3;exact⟨g,hW,iL,ch,b6,fC⟩))⟩
  ⟨zi.trans h.fr.os,JA.trans h.fr.tape,Jn.trans h.fr.output,by rw[dX];exact h.fr.size,fun j af hm=>?_,fun b i bg=>?_,h.fr.fresh,h.fr.obj,h.fr.obn,fun m n u hm=>C1 (h.fr.row m n u hm) (fun n u=>ax.ow _ n u trivial),h.fr.obr,h.fr.trd,fun k j b ad=>⟨(h.fr.trb k j b ad).1,by rw[dX];exact(h.fr.trb k j b ad).2⟩,fun bK j b ad=>?_,fun b o bg=>(ax.sh b o (h.fr.keep b o bg).1).trans (h.fr.sh b o bg)⟩ (fun m hm=>?_),ax,?_⟩
 ·obtain⟨b,ck,fN,g1,g2,g3,g4,g5⟩:=h.good.box j eE af;have cF:b≠bl:=fun e=>h.good.obx k j o.n _ bl (by simp[ab]) (by simp[af]) aG od (by rw[←e];exact g1);exact⟨b,ck,fN,g1,g2,g3,by rw[mT b cF];exact g4,pX ax g5⟩
 ·simp only at dU;rw[iH]at dU;by_cases e:k=g
  ·rw[if_pos e]at dU;cases dU;subst e;refine⟨v',us,by simp[bd.withOwn],lp,fun b ad=>?_,fun ys aL=>?_⟩
   ·rw[E0]at ad;cases ad;exact⟨(bX bl od).1,fun j bg=>absurd bg (uB bl od j)⟩
   ·simp only[dG]at aL;subst aL;exact⟨rfl,Ag ax au,fun b ad=>by rw[E0]at ad;cases ad;exact uB bl od⟩
  ·rw[if_neg e]at dU;obtain⟨v0,fu,ak,aC,bk,dc⟩:=h.good.own g o' dU;have cF:∀b,v0.ownBlock=some b→b≠bl:=fun b ad H6=>e (h.good.oinj k g o.n o'.n _ v0 bl (by simp[ab]) (by simp[dU]) aG ak od (by rw[←H6];exact ad));refine⟨v0,fu,by simp[bd.withOwn,kN e,ak],⟨aC.1,?_⟩,bk,rO ax (fun _ _ _ h=>h) dc⟩;rcases aC.2 with aC|⟨bb,D6,l6,f1,f2,f3,f4⟩
   ·exact .inl aC
   ·exact .inr ⟨bb,D6,l6,f1,f2,by rw[mT bb (cF bb (by rw[f1];rfl))];exact f3,f4⟩
 ·obtain⟨bC,hW,iL,a2,a3⟩:=kE g n u J ao b b2;obtain⟨ch,gf,jl,b6,fC⟩:=kE fa n' e1 U ba b c7;exact h.good.oinj g fa hW gf iL jl b bC ch a2 b6 a3 fC
 ·obtain⟨bC,hW,iL,a2,a3⟩:=kE g n u J ao b ba;exact h.good.obx g j hW iL b bC U a2 a3 b2
 ·by_cases e:j=k
  ·subst e;rcases h.good.one j with J|J
   ·exact .inl J
   ·rw[J]at aG;cases aG
  ·rcases h.good.one j with J|J
   ·exact .inl J
   ·exact .inr (by simp[bd.withOwn,e,J])
 ·rw[mT j fun e=>by subst e;exact(bX j od).1.elim hm (fun g2=>by omega)];exact h.fr.block j af hm
 ·obtain⟨aU,bG⟩:=h.fr.keep b i bg;exact⟨aU,(ax.A b i aU).2.trans bG⟩
 ·obtain⟨t1,t2⟩:=h.fr.trn bK j b ad;have cF:bK≠k:=fun e=>by subst e;rw[t2]at aG;cases aG
  exact⟨t1,by simp[bd.withOwn,cF,t2]⟩
 ·obtain⟨aU,bG,b9⟩:=h.new m hm;refine⟨aU,?_,b9⟩;have:m≠k:=fun e=>by subst e;rw[bG]at aG;cases aG
  simp[bd.withOwn,this,bG]
 ·intro eY;simp only[a8];obtain⟨cap,I8⟩:=Uf lp E0;exact⟨⟨bl,cap,I8⟩,eY,xs'.length,v',by simp[bd.withOwn],eR _,fun _=>rfl⟩
theorem cS.inPlace{C:e9}{st:bq}{a:Act}{w:World}{ν:bd}(h:cS C st a w ν){k:aH}{o:fK}(ab:look k st.e=some o){bl cap:Nat}{cur:Array Value}(aG:ν.ow k=some (o.n,.slice (some ⟨bl,0,none⟩) o.n cap))
  (xa:w.heap[bl]? =some (.cells cur o.el (0,0))) (y3:cap≤maxLen) (dX:cur.size=cap*o.sz) {xs ys:List ah} {us ns:List Value} (j1:xs.length=o.n) (qv:cur.toList.take (o.n*o.sz)=us) (au:dw w ν o.sz xs us) (y5:dw w ν o.sz ys ns)
  (fp:0<ys.length) (rp:o.n+ys.length≤cap) (eY:xs.length+ys.length≤lim):
  cS C {st with e:=cA k ⟨o.n+ys.length,o.el,o.sz,none⟩ st.e} a (w.setRow bl (us++ns++cur.toList.drop (o.n*o.sz+ns.length)).toArray)
   (ν.withRowOf k (.slice (some ⟨bl,0,none⟩) (o.n+ys.length) cap) (o.n+ys.length) ((o.n+ys.length)*o.sz))∧
  a8 (w.setRow bl (us++ns++cur.toList.drop (o.n*o.sz+ns.length)).toArray) (ν.withRowOf k (.slice (some ⟨bl,0,none⟩) (o.n+ys.length) cap) (o.n+ys.length) ((o.n+ys.length)*o.sz))
   (.slice o.sz (.own k) (xs++ys)) (.slice (some ⟨bl,0,none⟩) (o.n+ys.length) cap):=by
 have jx:=sX y5;have rs:=sX au;rw[j1]at rs;have hmul:(o.n+ys.length)*o.sz≤cap*o.sz:=Nat.mul_le_mul_right _ rp;rw[pn]at hmul;obtain⟨v0,fu,a6,bE,bX,_⟩:=h.good.own k o ab;rw[aG]at a6;cases a6;obtain⟨cX,c8⟩:=bX bl rfl;generalize zr:w.setRow bl (us++ns++cur.toList.drop (o.n*o.sz+ns.length)).toArray=w';have mT:∀j,j≠bl→w'.heap[j]? =w.heap[j]?:=fun j af=>by rw[←zr];exact setRow_other w bl j _ af
 have kk:w'.heap[bl]? =some (.cells (us++ns++cur.toList.drop (o.n*o.sz+ns.length)).toArray o.el (0,0)):=by rw[←zr];exact setRow_heap w bl cur _ o.el _ xa
 have Jw:w'.heap.size=w.heap.size:=by rw[←zr];exact setRow_size w bl _
 have qo:∀j,j<o.n*o.sz→w'.cell? ⟨bl,j,none⟩=w.cell? ⟨bl,j,none⟩:=by intro j af;simp only[World.cell?,kk,xa,l0,gS,if_false];rw[List.getElem?_toArray,List.append_assoc,List.getElem?_append_left (by omega),←qv,List.getElem?_take,if_pos af];simp
 have ax:k8 w ν w' (ν.withRowOf k (.slice (some ⟨bl,0,none⟩) (o.n+ys.length) cap) (o.n+ys.length) ((o.n+ys.length)*o.sz)):=by
  refine⟨fun b j bg=>⟨.inl bg,?_⟩,fun j b _ af=>af,fun g n u _ iD=>?_,fun b j bg=>?_,fun _ _ _ _ h=>h⟩;rotate_left 2
  ·by_cases e:b=bl
   ·subst e;simp only[shape,kk,xa,List.size_toArray,pf,r7,Array.length_toList];congr 2;omega
   ·exact wh (mT b e)
  ·by_cases e:b=bl
   ·subst e;exact qo j (c8 j bg)
   ·exact World.cell?_of_block (mT b e)
  ·by_cases e:g=k
   ·subst e;rw[aG]at iD;cases iD;exact⟨o.n+ys.length,.slice (some ⟨bl,0,none⟩) (o.n+ys.length) cap,by simp[bd.withRowOf],.inr (by omega)⟩
   ·exact⟨n,u,by simp[bd.withRowOf,e,iD],.inl ⟨rfl,rfl⟩⟩
 have kE:∀g,(look g (cA k ⟨o.n+ys.length,o.el,o.sz,none⟩ st.e)).isSome→g=k∨(g≠k∧(look g st.e).isSome∧(ν.withRowOf k (.slice (some ⟨bl,0,none⟩) (o.n+ys.length) cap) (o.n+ys.length) ((o.n+ys.length)*o.sz)).ow g=ν.ow g):=by
  intro g kj;by_cases e:g=k
  ·exact .inl e
  ·rw[iH,if_neg (kN e)]at kj;exact .inr ⟨e,kj,by simp[bd.withRowOf,e]⟩
 have anP:bl<w.heap.size:=(Array.getElem?_eq_some_iff.1 xa).1;have ada:∀j u,(us++ns)[j]? =some u→w'.cell? ⟨bl,j,none⟩=some u:=by intro j u af;have zc:=(fi.1 af).1;simp only[World.cell?,kk,l0,gS,if_false];rw[List.getElem?_toArray,List.getElem?_append_left zc];exact af
 refine⟨h.over ax rfl ⟨fun b j bg=>?_,fun j eE af=>?_,h.good.inj,fun g o' dU=>?_,fun g fa n n' u e1 b J U ao ba b2 c7=>?_,fun g j n u b J U ao ba b2=>?_,fun j=>?_,fun b ad=>h.good.otr b ?_⟩
  ⟨by rw[←zr];exact h.fr.os,by rw[←zr];exact h.fr.tape,by rw[←zr];exact h.fr.output,by rw[Jw];exact h.fr.size,fun j af hm=>?_,fun b j bg=>?_,fun b j bg=>?_,h.fr.obj,h.fr.obn,fun m n u hm=>C1 (h.fr.row m n u hm) (fun n u=>ax.ow _ n u trivial),h.fr.obr,h.fr.trd,fun k j b ad=>⟨(h.fr.trb k j b ad).1,by rw[Jw];exact(h.fr.trb k j b ad).2⟩,fun bK j b ad=>?_,fun b o bg=>(ax.sh b o (h.fr.keep b o bg).1).trans (h.fr.sh b o bg)⟩ (fun m hm=>?_),?_⟩
 ·rw[Jw];rcases bg with bg|⟨bg,_⟩
  ·exact h.good.alt b j bg
  ·simp only[nP,dG]at bg;omega
 ·obtain⟨b,ck,fN,g1,g2,g3,g4,g5⟩:=h.good.box j eE af;have cF:b≠bl:=fun e=>h.good.obx k j o.n _ bl (by simp[ab]) (by simp[af]) aG rfl (by rw[←e];exact g1);refine⟨b,ck,fN,g1,g2,fun i bg=>?_,by rw[mT b cF];exact g4,pX ax g5⟩;rcases bg with bg|⟨bg,_⟩
  ·exact g3 i bg
  ·simp only[nP,dG]at bg;exact cF bg.symm
 ·simp only at dU;rw[iH]at dU;by_cases e:k=g
  ·rw[if_pos e]at dU;cases dU;subst e;refine⟨.slice (some ⟨bl,0,none⟩) (o.n+ys.length) cap,us++ns,by simp[bd.withRowOf],⟨by rw[pf,rs,jx,pn],.inr ⟨bl,cap,_,rfl,Nat.zero_le _,kk,rp,y3,?_,?_⟩⟩,fun b ad=>⟨?_,fun j bg=>?_⟩,fun ys aL=>by cases aL⟩
   ·simp only[List.size_toArray,pf,r7,Array.length_toList];omega
   ·have av:(us++ns).length=(o.n+ys.length)*o.sz:=by rw[pf,rs,jx,pn]
    simp only[←av];rw[List.take_append_of_le_length (eR _),pk]
   ·simp only[nP,dG]at ad;subst ad;exact cX
   ·simp only[nP,dG]at ad;subst ad;rcases bg with bg|⟨_,bg⟩
    ·have:=c8 j bg;simp only;rw[pn];omega
    ·exact bg
  ·rw[if_neg e]at dU;obtain⟨v0,fu,ak,aC,bk,dc⟩:=h.good.own g o' dU;have cF:∀b,v0.ownBlock=some b→b≠bl:=fun b ad H6=>e (h.good.oinj k g o.n o'.n _ v0 bl (by simp[ab]) (by simp[dU]) aG ak rfl (by rw[←H6];exact ad));have vf:∀b,v0.ownBlock=some b→∀j,(ν.withRowOf k (.slice (some ⟨bl,0,none⟩) (o.n+ys.length) cap) (o.n+ys.length) ((o.n+ys.length)*o.sz)).A b j→ν.A b j:=fun b ad j bg=>by
    rcases bg with bg|⟨bg,_⟩
    ·exact bg
    ·simp only[nP,dG]at bg;exact absurd bg.symm (cF b ad)
   refine⟨v0,fu,by simp[bd.withRowOf,kN e,ak],⟨aC.1,?_⟩,fun b ad=>⟨(bk b ad).1,fun j bg=>(bk b ad).2 j (vf b ad j bg)⟩,rO ax vf dc⟩;rcases aC.2 with aC|⟨bb,D6,l6,f1,f2,f3,f4⟩
   ·exact .inl aC
   ·exact .inr ⟨bb,D6,l6,f1,f2,by rw[mT bb (cF bb (by rw[f1];rfl))];exact f3,f4⟩
 ·rcases kE g J with rfl|⟨hW,gf,iX⟩<;>rcases kE fa U with rfl|⟨m1,m2,m3⟩
  ·rfl
  ·exfalso;simp only[bd.withRowOf,if_true,dG,jm]at ao;rw[m3]at ba;rw[←ao.2]at b2;simp only[nP,dG]at b2;subst b2;exact m1 (h.good.oinj fa g n' o.n e1 _ bl m2 (by simp[ab]) ba aG c7 rfl)
  ·exfalso;simp only[bd.withRowOf,if_true,dG,jm]at ba;rw[iX]at ao;rw[←ba.2]at c7;simp only[nP,dG]at c7;subst c7;exact hW (h.good.oinj g fa n o.n u _ bl gf (by simp[ab]) ao aG b2 rfl)
  ·rw[iX]at ao;rw[m3]at ba;exact h.good.oinj g fa n n' u e1 b gf m2 ao ba b2 c7
 ·rcases kE g J with rfl|⟨hW,gf,iX⟩
  ·simp only[bd.withRowOf,if_true,dG,jm]at ao;rw[←ao.2]at ba;simp only[nP,dG]at ba;subst ba;exact h.good.obx g j o.n _ bl (by simp[ab]) U aG rfl b2
  ·rw[iX]at ao;exact h.good.obx g j n u b gf U ao ba b2
 ·by_cases e:j=k
  ·subst e;rcases h.good.one j with J|J
   ·exact .inl J
   ·rw[J]at aG;cases aG
  ·rcases h.good.one j with J|J
   ·exact .inl J
   ·exact .inr (by simp[bd.withRowOf,e,J])
 ·rcases ad with ad|⟨g,n,u,bC,a2,a3⟩
  ·exact .inl ad
  ·rcases kE g bC with rfl|⟨hW,gf,iX⟩
   ·simp only[bd.withRowOf,if_true,dG,jm]at a2;rw[←a2.2]at a3;exact .inr ⟨g,_,_,by simp[ab],aG,a3⟩
   ·exact .inr ⟨g,n,u,gf,by rw[←iX];exact a2,a3⟩
 ·rw[mT j fun e=>by subst e;exact cX.elim hm (fun g2=>by omega)];exact h.fr.block j af hm
 ·obtain⟨aU,bG⟩:=h.fr.keep b j bg;exact⟨.inl aU,(ax.A b j aU).2.trans bG⟩
 ·rcases bg with bg|⟨bg,_⟩
  ·exact h.fr.fresh b j bg
  ·simp only[nP,dG]at bg;subst bg;exact .inr cX
 ·obtain⟨t1,t2⟩:=h.fr.trn bK j b ad;have cF:bK≠k:=fun e=>by subst e;rw[t2]at aG;cases aG
  exact⟨t1,by simp[bd.withRowOf,cF,t2]⟩
 ·obtain⟨aU,bG,b9⟩:=h.new m hm;refine⟨aU,?_,b9⟩;have:m≠k:=fun e=>by subst e;rw[bG]at aG;cases aG
  simp[bd.withRowOf,this,bG]
 ·simp only[a8];refine⟨⟨some ⟨bl,0,none⟩,cap,by simp[j1],by simp;omega,⟨y3,by simpa using eY⟩,.inr ⟨bl,0,us++ns,rfl,J5 _ 0 fun j u af=>?_,CU (Ag ax au) (Ag ax y5)⟩⟩,fun e=>(by cases e),fun g e=>?_,fun _ _ e=>(by cases e),fun _ e=>(by cases e)⟩
  ·have zc:=(fi.1 af).1;rw[Nat.zero_add];refine⟨.inr ⟨rfl,?_⟩,ada j u af⟩;rw[pf,rs,jx]at zc;rw[pn];exact zc
  ·cases e;exact⟨o.n+ys.length,.slice (some ⟨bl,0,none⟩) (o.n+ys.length) cap,by simp[bd.withRowOf],by simp[j1],fun _=>rfl⟩
theorem Gt{P:cD}{w:World}{t ty e:fR}{i:TypeInfo}(aO:P.underlying t=some (.slice e))(hi:P.info? e=some i)(b:aY Addr)(n cap:Nat)(aA:n≤cap)(x:aY Addr)(c:Nat):
  (Builtin.append_ #[t,t] ty #[.slice b n cap,.slice x 0 c]).run P w= .ok (.slice b n cap) w:=by
 cases b<;>cases x<;>simp[Builtin.append_,run_underlying aO,sizeOf,typeInfo,hi,Builtin.lenOf,aA,Builtin.firstCells,loadCells,loadCellsFrom,storeCells]
inductive ei where
 |v (d:Nat) (i:fM)
 |box (d:Nat) (key:aY Nat) (x:dn)
 |alloc (d:Nat) (key:aY Nat) (zero:ah)
 |store (sz:Nat) (x y:dn)
 |bsl (d:Nat) (sz el:Nat) (xs:List dn)
 |app (d:Nat) (sz el:Nat) (x y:dn)
 |bslm (d:Nat) (key:aY Nat) (sz el:Nat) (xs:List dn)
 |appm (d:Nat) (key:aY Nat) (sz el:Nat) (x y:dn)
 |mkmap (d:Nat) (key:aY Nat)
 |mput (cd:jo) (x k v:dn)
 |range (d:Nat) (key:aY Nat) (x:dn)
 |storeE (sz:Nat) (x y:dn)
 |mks (d:Nat) (key:aY Nat) (sz el:Nat) (z:ah) (x:dn)
def jD(st:bq):aY Nat→aH
 |none=>.loc st.n
 |some m=>.obj m
def pO(st:bq):aY Nat→Prop
 |none=>.loc st.n∉st.o
 |some m=>.obj m∉st.o
def mZ(st:bq):aY Nat→Nat
 |none=>st.n+1
 |some _=>st.n
def na(st:bq):aY Nat→List aH
 |none=>st.o
 |some m=>.obj m::st.o
theorem vQ{st:bq}{key:aY Nat}(h:pO st key):fresh st.n st.o (jD st key):=by cases key<;>simp[jD,fresh,pO]at h⊢ <;>exact h
theorem vR{st:bq}{key:aY Nat}:∀j,fresh (mZ st key) (na st key) j→fresh st.n st.o j∧j≠jD st key:=by
 intro j af;cases key<;>cases j<;>simp[fresh,mZ,na,jD]at af⊢
 ·exact⟨⟨by omega,af.2⟩,by omega⟩
 ·exact af
 ·exact af
 ·exact⟨af.2,af.1⟩
def sd(sz:Nat):List ah→Prop
 |[]=>True
 |p::cv=>(eb p=true∧(cells p).length=sz)∧sd sz cv
def oq(cd:jo)(k v:ah):List ah→aY (List ah)
 | .hdm clock borns::kvs=>if uf cd k=false then none else match uw cd k v kvs with
  |some (some vL)=>some (.hdm clock borns::vL)
  |some none=>some (.hdm (clock+1) (borns++[clock])::(kvs++[k,v]))
  |none=>none
 |_=>none
def wb(m:aH):List ah→aY (List ah)
 | .hdm clock _::_=>some [.hdi clock [] clock,.gmap m]
 |_=>none
def se(st:bq)(sz el:Nat)(x y:ah):aY ((aY (aH×List ah))×List ah):=
 match x,y with
 | .slice dF .nil _,.slice jb _ ys=>if dF=sz∧jb=sz then some (none,ys)else none
 | .row dF k n,.slice jb _ ys=>if dF=sz∧jb=sz then
   match look k st.e with
   |some ⟨n',fN,wk,some xs⟩=>if n'=n∧fN=el∧wk=sz then some (some (k,xs),ys)else none
   |_=>none
  else none
 |_,_=>none
def mw:ah→Nat→List ah→ah
 | .agg eE,f,cs=>.agg (nI eE f cs)
 |_,_,[q]=>q
 |_,_,_=>.junk
def qG(st:bq)(sz:Nat)(p v:ah):aY (Prop×bq):=
 match p with
 | .rptr dF k n i f=>match look k st.e with
  |some ⟨n',el,jb,some xs⟩=>if n'=n∧jb=dF then
    match xs[i]? with
    |some q=>some (eb q=true∧eb v=true∧(cells v).length=sz∧f+sz≤(cells q).length∧0<sz,{st with e:=cA k ⟨n',el,jb,some (xs.set i (mw q f (cells v)))⟩ st.e})
    |none=>none
   else none
  |_=>none
 |_=>none
def lW(st:bq):ei→aY (Prop×bq)
 | .mks d key sz el z x=>match cp st.t x with
  | .int _ n=>some (pO st key∧0≤n∧n≤lim,
    {t:=put d (.row sz (jD st key) n.toNat) st.t,b:=st.b,e:=cA (jD st key) ⟨n.toNat,el,sz,some (qP n.toNat z)⟩ st.e,n:=mZ st key,o:=na st key})
  |_=>none
 | .bslm d key sz el xs=>some (pO st key∧sd sz (xs.map (cp st.t)),
   {t:=put d (.row sz (jD st key) xs.length) st.t,b:=st.b,e:=cA (jD st key) ⟨xs.length,el,sz,some (xs.map (cp st.t))⟩ st.e,n:=mZ st key,o:=na st key})
 | .appm d key sz el x y=>match se st sz el (cp st.t x) (cp st.t y)with
  |some (none,ys)=>some (pO st key∧ys.length≤lim∧ys≠[],
    {t:=put d (.row sz (jD st key) ys.length) st.t,b:=st.b,e:=cA (jD st key) ⟨ys.length,el,sz,some ys⟩ st.e,n:=mZ st key,o:=na st key})
  |some (some (k,xs),ys)=>some (xs.length+ys.length≤lim,{st with t:=put d (.row sz k (xs.length+ys.length)) st.t,e:=cA k ⟨xs.length+ys.length,el,sz,some (xs++ys)⟩ st.e})
  |none=>none
 | .mkmap d key=>some (pO st key,{t:=put d (.gmap (jD st key)) st.t,b:=cA (jD st key) [.hdm 0 []] st.b,e:=st.e,n:=mZ st key,o:=na st key})
 | .mput cd x k v=>match cp st.t x with
  | .gmap m=>match look m st.b with
   |some cs=>match oq cd (cp st.t k) (cp st.t v) cs with
    |some cs'=>some (True,{st with b:=cA m cs' st.b})
    |none=>none
   |none=>none
  |_=>none
 | .range d key x=>match cp st.t x with
  | .gmap m=>match look m st.b with
   |some cs=>match wb m cs with
    |some cs'=>some (pO st key,{t:=put d (.ptr (jD st key) 0) st.t,b:=cA (jD st key) cs' st.b,e:=st.e,n:=mZ st key,o:=na st key})
    |none=>none
   |none=>none
  |_=>none
 | .v d i=>match hb st i with
  |some (c,p)=>some (c,{st with t:=put d p st.t})
  |none=>none
 | .storeE sz x y=>qG st sz (cp st.t x) (cp st.t y)
 | .box d key x=>some (pO st key∧eb (cp st.t x)=true,
   {t:=put d (.ptr (jD st key) 0) st.t,b:=cA (jD st key) (cells (cp st.t x)) st.b,e:=st.e,n:=mZ st key,o:=na st key})
 | .alloc d key z=>some (pO st key,{t:=put d (.ptr (jD st key) 0) st.t,b:=cA (jD st key) (cells z) st.b,e:=st.e,n:=mZ st key,o:=na st key})
 | .store sz x y=>match cp st.t x with
  | .ptr k off=>match look k st.b with
   |some cs=>some (hP cs=true∧eb (cp st.t y)=true∧(cells (cp st.t y)).length=sz∧off+sz≤cs.length,{st with b:=cA k (nI cs off (cells (cp st.t y))) st.b})
   |none=>none
  |p=>qG st sz p (cp st.t y)
 | .bsl d sz el xs=>some (pO st none∧sd sz (xs.map (cp st.t)),
   {st with t:=put d (.slice sz (.own (.loc st.n)) (xs.map (cp st.t))) st.t,e:=cA (.loc st.n) ⟨xs.length,el,sz,none⟩ st.e,n:=st.n+1})
 | .app d sz el x y=>match cp st.t x,cp st.t y with
  | .slice dF tag xs,.slice jb _ ys=>if dF=sz∧jb=sz then
    match tag with
    | .own k=>match look k st.e with
     |some o=>some (o.n=xs.length∧o.el=el∧o.sz=sz∧xs.length+ys.length≤lim,
       {st with t:=put d (.slice sz (.own k) (xs++ys)) st.t,e:=cA k ⟨xs.length+ys.length,el,sz,none⟩ st.e})
     |none=>none
    | .nil=>some (pO st none∧ys.length≤lim,{st with t:=put d (.slice sz (.own (.loc st.n)) ys) st.t,e:=cA (.loc st.n) ⟨ys.length,el,sz,none⟩ st.e,n:=st.n+1})
    |_=>none
   else none
  |_,_=>none
def eA(κ:aH)(n':Nat)(o':List aH)(st:bq):ei→aY (Prop×bq)
 | .mks d _ sz el z x=>match cp st.t x with
  | .int _ n=>some (0≤n∧n≤lim,
    {t:=put d (.row sz κ n.toNat) st.t,b:=st.b,e:=cA κ ⟨n.toNat,el,sz,some (qP n.toNat z)⟩ st.e,n:=n',o:=o'})
  |_=>none
 | .bslm d _ sz el xs=>some (sd sz (xs.map (cp st.t)),
   {t:=put d (.row sz κ xs.length) st.t,b:=st.b,e:=cA κ ⟨xs.length,el,sz,some (xs.map (cp st.t))⟩ st.e,n:=n',o:=o'})
 | .appm d _ sz el x y=>match se st sz el (cp st.t x) (cp st.t y)with
  |some (none,ys)=>some (ys.length≤lim∧ys≠[],
    {t:=put d (.row sz κ ys.length) st.t,b:=st.b,e:=cA κ ⟨ys.length,el,sz,some ys⟩ st.e,n:=n',o:=o'})
  |some (some (k,xs),ys)=>some (xs.length+ys.length≤lim,{st with t:=put d (.row sz k (xs.length+ys.length)) st.t,e:=cA k ⟨xs.length+ys.length,el,sz,some (xs++ys)⟩ st.e})
  |none=>none
 | .mkmap d _=>some (True,{t:=put d (.gmap κ) st.t,b:=cA κ [.hdm 0 []] st.b,e:=st.e,n:=n',o:=o'})
 | .mput cd x k v=>match cp st.t x with
  | .gmap m=>match look m st.b with
   |some cs=>match oq cd (cp st.t k) (cp st.t v) cs with
    |some cs'=>some (True,{st with b:=cA m cs' st.b})
    |none=>none
   |none=>none
  |_=>none
 | .range d _ x=>match cp st.t x with
  | .gmap m=>match look m st.b with
   |some cs=>match wb m cs with
    |some cs'=>some (True,{t:=put d (.ptr κ 0) st.t,b:=cA κ cs' st.b,e:=st.e,n:=n',o:=o'})
    |none=>none
   |none=>none
  |_=>none
 | .v d i=>match hb st i with
  |some (c,p)=>some (c,{st with t:=put d p st.t})
  |none=>none
 | .storeE sz x y=>qG st sz (cp st.t x) (cp st.t y)
 | .box d _ x=>some (eb (cp st.t x)=true,{t:=put d (.ptr κ 0) st.t,b:=cA κ (cells (cp st.t x)) st.b,e:=st.e,n:=n',o:=o'})
 | .alloc d _ z=>some (True,{t:=put d (.ptr κ 0) st.t,b:=cA κ (cells z) st.b,e:=st.e,n:=n',o:=o'})
 | .store sz x y=>match cp st.t x with
  | .ptr k off=>match look k st.b with
   |some cs=>some (hP cs=true∧eb (cp st.t y)=true∧(cells (cp st.t y)).length=sz∧off+sz≤cs.length,{st with b:=cA k (nI cs off (cells (cp st.t y))) st.b})
   |none=>none
  |p=>qG st sz p (cp st.t y)
 | .bsl d sz el xs=>some (sd sz (xs.map (cp st.t)),
   {st with t:=put d (.slice sz (.own κ) (xs.map (cp st.t))) st.t,e:=cA κ ⟨xs.length,el,sz,none⟩ st.e,n:=n',o:=o'})
 | .app d sz el x y=>match cp st.t x,cp st.t y with
  | .slice dF tag xs,.slice jb _ ys=>if dF=sz∧jb=sz then
    match tag with
    | .own k=>match look k st.e with
     |some o=>some (o.n=xs.length∧o.el=el∧o.sz=sz∧xs.length+ys.length≤lim,
       {st with t:=put d (.slice sz (.own k) (xs++ys)) st.t,e:=cA k ⟨xs.length+ys.length,el,sz,none⟩ st.e})
     |none=>none
    | .nil=>some (ys.length≤lim,{st with t:=put d (.slice sz (.own κ) ys) st.t,e:=cA κ ⟨ys.length,el,sz,none⟩ st.e,n:=n',o:=o'})
    |_=>none
   else none
  |_,_=>none
def vV:Nat→List dn→List (Nat×Operand)→Bool
 |_,[],[]=>true
 |i,x::xs,(j,o)::os=>i==j&&eg x o&&vV (i+1) xs os
 |_,_,_=>false
def C3(N:Nat)(bB:List (Nat×dA))(i:ei)(o:Oper):Bool:=
 match i,o.op with
 | .mkmap d _,.makeMap _ none=>o.dst==some d&&decide (d<N)
 | .mput cd x k v,.mapUpdate t gP gG pW=>o.dst==none&&(match dY bB t with|some ⟨_,_,.map mq _,_⟩=>xE bB cd mq|_=>false)&&eg x gP&&eg k gG&&eg v pW
 | .mput cd x k v,.insert t gP gG pW=>o.dst==none&&(match dY bB t with|some ⟨_,_,.map mq _,_⟩=>xE bB cd mq|_=>false)&&eg x gP&&eg k gG&&eg v pW
 | .range d _ x,.range t gP=>o.dst==some d&&decide (d<N)&&(match dY bB t with|some ⟨_,_,.map _ _,_⟩=>true|_=>false)&&eg x gP
 | .v d i,op=>o.dst==some d&&decide (d<N)&&Di bB i op
 | .box d _ x,.box _ o'=>o.dst==some d&&decide (d<N)&&eg x o'
 | .alloc d _ z,.alloc el=>o.dst==some d&&decide (d<N)&&(match dY bB el with|some f=>AJ z f.zero|none=>false)
 | .store sz x y,.store t o' iY=>o.dst==none&&(match dY bB t with|some f=>f.size==sz|none=>false)&&eg x o'&&eg y iY
 | .bsl d sz el xs,.buildSlice t len parts=>o.dst==some d&&decide (d<N)&&(match dY bB t with|some ⟨_,_,.slice fN,_⟩=>el==fN|_=>false)&&(match dY bB el with|some f=>f.size==sz&&decide (0<sz)|none=>false)
   &&len==xs.length&&decide (len*sz≤16777216)&&vV 0 xs parts.toList
 | .app d sz el x y,.call ⟨.builtin .append,⟨[o',iY]⟩,⟨[t,dJ]⟩⟩=>o.dst==some d&&decide (d<N)&&t==dJ&&(match dY bB t with|some ⟨_,_,.slice fN,_⟩=>el==fN|_=>false)
   &&(match dY bB el with|some f=>f.size==sz&&decide (0<sz)&&decide (f.bytes≤2048)|none=>false)&&eg x o'&&eg y iY
 | .bslm d _ sz el xs,.buildSlice t len parts=>o.dst==some d&&decide (d<N)&&(match dY bB t with|some ⟨_,_,.slice fN,_⟩=>el==fN|_=>false)&&(match dY bB el with|some f=>f.size==sz&&decide (0<sz)|none=>false)
   &&len==xs.length&&decide (len*sz≤16777216)&&vV 0 xs parts.toList
 | .appm d _ sz el x y,.call ⟨.builtin .append,⟨[o',iY]⟩,⟨[t,dJ]⟩⟩=>o.dst==some d&&decide (d<N)&&t==dJ&&(match dY bB t with|some ⟨_,_,.slice fN,_⟩=>el==fN|_=>false)
   &&(match dY bB el with|some f=>f.size==sz&&decide (0<sz)&&decide (f.bytes≤2048)|none=>false)&&eg x o'&&eg y iY
 | .storeE sz x y,.store t o' iY=>o.dst==none&&(match dY bB t with|some f=>f.size==sz|none=>false)&&eg x o'&&eg y iY
 | .mks d _ sz el z x,.makeSlice t o' iY=>o.dst==some d&&decide (d<N)&&(match dY bB t with|some ⟨_,_,.slice fN,_⟩=>el==fN|_=>false)
   &&(match dY bB el with|some f=>f.size==sz&&decide (0<sz)&&decide (f.bytes≤2048)&&AJ z f.zero|none=>false)&&eg x o'&&eg x iY
 |_,_=>false
theorem VC{w:World}{ν:bd}{C:e9}{st:bq}{a:Act}(aK:cS C st a w ν){sz:Nat}:
  ∀(xs:List dn) (i:Nat) (os:List (Nat×Operand)) (pre:List ah) (us:Array Value) (bc:List Value),vV i xs os=true→sd sz (xs.map (cp st.t))→us.toList.take (i*sz)=bc→dw w ν sz pre bc→i=pre.length→us.size=(i+xs.length)*sz→
  ∃ck:Array Value,Instr.fill (fun i=>some (i*sz,sz)) us (os.map fun(x:Nat×Operand)=>(x.1,a.eval x.2))=some ck∧dw w ν sz (pre++xs.map (cp st.t)) ck.toList∧ck.size=us.size
 |[],i,[],pre,us,bc,_,_,aG,h,hi,ag=>by refine⟨us,by simp[Instr.fill],?_,rfl⟩;have av:=sX h;have:us.toList.take (i*sz)=us.toList:=hz (by simp at ag⊢;omega);rw[this]at aG;simpa[aG]using h
 |[],_,_::_,_,_,_,eU,_,_,_,_,_=>by simp[vV]at eU
 |_::_,_,[],_,_,_,eU,_,_,_,_,_=>by simp[vV]at eU
 |x::xs,i,(j,o)::os,pre,us,bc,eU,bt,aG,h,hi,ag=>by
  simp only[vV,cC,dO]at eU;obtain⟨⟨rfl,J⟩,U⟩:=eU;simp only[hf,sd]at bt;obtain⟨⟨kX,hlen⟩,bt⟩:=bt;have ae:=eh aK J;have lj:=uH ae kX;have y4:=pb lj;have dm:(a.eval o).cells.size=sz:=by rw[hlen]at y4;simpa using y4
  have hmul:i*sz+sz≤us.size:=by rw[ag,p6,show i+(xs.length+1)=(i+1)+xs.length from by omega,pn,Nat.succ_mul];omega
  have xu:=Ix (w:=w) (ν:=ν) (a.eval o).cells.toList 0 (i*sz) us (by simp[dm];omega);have jz:dw w ν sz (pre++[cp st.t x]) (bc++(a.eval o).cells.toList):=by refine CU h ?_;simp only[dw];exact⟨a.eval o,[],by simp,⟨ae,dm,Ai lj⟩,rfl⟩
  have iT:bc.length=i*sz:=by rw[←aG];simp;omega
  obtain⟨ck,g1,g2,g3⟩:=VC aK xs (i+1) os (pre++[cp st.t x]) (((a.eval o).cells.toList.zipIdx 0).foldl (fun cs (x:Value×Nat)=>cs.setIfInBounds (i*sz+x.2) x.1) us) (bc++(a.eval o).cells.toList) U bt
   (by
    rw[xu];simp only[Nat.add_zero];rw[aG];have:(bc++(a.eval o).cells.toList).length=(i+1)*sz:=by rw[pf,iT,Nat.succ_mul];simp[dm]
    rw[←this,List.take_append_of_le_length (eR _),pk]) jz (by simp[hi])
   (by have bA:=e2 List.length xu;simp only[Array.length_toList,pf,List.length_take,r7,dm]at bA;rw[bA,ag,p6,show i+(xs.length+1)=i+1+xs.length from by omega];rw[ag,p6,show i+(xs.length+1)=i+1+xs.length from by omega]at hmul;omega)
  refine⟨ck,?_,by simpa using g2,?_⟩
  ·simp only[hf,Instr.fill];rw[if_neg (by simp[dm];omega),←g1];congr 1;rw[←Array.foldl_toList];simp
  ·rw[g3];have bA:=e2 List.length xu;simp only[Array.length_toList,pf,List.length_take,r7,dm]at bA;rw[bA];omega
theorem lZ{P:cD}{o:Oper}{a:Act}{w w':World}{v:Value}{K:Act→World→Prop}{Q:Exit→Act→World→Prop}(h:(execOp a.eval o).run P w= .ok (.value v) w')(ab:K (a.put o.dst v) w'):o.wp P a w K Q:=by unfold Oper.wp;rw[h];exact ab
theorem Ds{P:cD}{o:Oper}{a:Act}{w w':World}{K:Act→World→Prop}{Q:Exit→Act→World→Prop}(h:(execOp a.eval o).run P w= .ok .skip w')(ab:K (a.put o.dst undef) w'):o.wp P a w K Q:=by unfold Oper.wp;rw[h];exact ab
theorem Dm{P:cD}{w w':World}{x:Sem Value}{v:Value}(h:x.run P w= .ok v w'):(do pure (Next.value (←x)):Sem Next).run P w= .ok (.value v) w':=by simp[h]
theorem VA{P:cD}{bB:List (Nat×dA)}(aO:fL P bB=true){C:e9}{st:bq}{a:Act}{w:World}{ν:bd}(aK:cS C st a w ν){t el:Nat}{f g:dA}(aJ:dY bB t=some f)(ab:f.kind= .slice el)(a1:dY bB el=some g)
  {xs:List dn} {os:List (Nat×Operand)} (eU:vV 0 xs os=true) (dX:sd g.size (xs.map (cp st.t))) (hlen:xs.length*g.size≤16777216):
  ∃us:Array Value,(Instr.buildSlice t xs.length (os.map fun(x:Nat×Operand)=>(x.1,a.eval x.2)).toArray).run P w= .ok (.slice (some ⟨w.heap.size,0,none⟩) xs.length xs.length) (w.alloc (.cells us el))∧
   dw w ν g.size (xs.map (cp st.t)) us.toList∧us.size=xs.length*g.size:=by
 obtain⟨d,aP,eT⟩:=iK aO aJ;rw[ab]at eT;obtain rfl:=sg eT;obtain⟨_,ag⟩:=uT aO a1 w;obtain⟨z,xy,an4,an5⟩:=Mb aO a1 w;have aA:¬xs.length*g.size>2 ^ 24:=by omega
 let init:Array Value:=if xs.length*g.size=0 then(Array.range (xs.length*g.size)).map ((#[]:Array Value)[· %(#[]:Array Value).size]!)else(Array.range (xs.length*g.size)).map (z.cells[· %z.cells.size]!)
 have Rv:init.size=xs.length*g.size:=by simp only[init];split<;>simp
 obtain⟨ck,g1,g2,g3⟩:=VC (a:=a) aK xs 0 os [] init [] eU dX (by simp) (by simp[dw]) rfl (by rw[Rv];simp);refine⟨ck,?_,by simpa using g2,by rw[g3,Rv]⟩;simp only[init]at g1;by_cases bA:xs.length*g.size=0
 ·rw[if_pos bA]at g1;rw[bA]at g1;have acP:¬(0:Nat)>2 ^ 24:=by decide
  simp only[Instr.buildSlice,fE,run_underlying aP,fI,ag,if_false,gu,bA,if_true,acP,g1,newRow,run_newObj];rfl
 ·rw[if_neg bA]at g1;simp only[Instr.buildSlice,fE,run_underlying aP,fI,ag,aA,if_false,gu,bA,xy,g1,newRow,run_newObj];rfl
theorem Cv{P:cD}{w:World}{ν:bd}{cd:jo}{t:fR}(aP:tn P cd t){k v:ah}{gN Mz:Value}(ab:a8 w ν k gN)(aG:a8 w ν v Mz):
  ∀(borns:List Nat) (kvs:List ah) (us:List Value) (i:Nat) (r:aY (List ah)),cP w ν kvs us→kvs.length=2*borns.length→uw cd k v kvs=some r→
  match r with
  |none=>hR P w cd t gN (fx borns us) i none
  |some vL=> ∃j u ck e,hR P w cd t gN (fx borns us) i (some (i+j,u))∧cP w ν vL ck∧vL.length=kvs.length∧(fx borns us)[j]? =some e∧e.key=gN∧Instr.sameBits 10000 e.key gN=true∧fx borns ck=(fx borns us).modify j (fun e=>{e with key:=gN,val:=Mz})
 |[],[],us,i,r,h,_,hm=>by simp only[uw]at hm;cases hm;simp only[cP]at h;subst h;simpa[fx]using hR.nil P w cd t gN i
 |[],_::_,_,_,_,_,av,_=>by simp at av
 |b::eI,[],_,_,_,_,av,_=>by simp at av
 |b::eI,[_],_,_,_,_,av,_=>by simp at av;omega
 |b::eI,bK::v'::kvs,us,i,r,h,av,hm=>by
  simp only[cP]at h;obtain⟨iL,Mg,rfl,J,jl,rX,rfl,U,ao⟩:=h;simp only[uw]at hm;simp only[fx];cases br:sL cd k bK with
  |none=>simp[br]at hm
  |some bb=>
   obtain⟨s1,s2⟩:=SI aP ab J br;simp only[br]at hm;cases bb with
   |true=>simp only[dG]at hm;subst hm;obtain⟨rfl,s3⟩:=s2 rfl;refine⟨0,jl,iL::Mz::rX,⟨iL,jl,b⟩,hR.hit (e:=⟨iL,jl,b⟩) s1,?_,by simp,by simp,rfl,s3,by simp[fx]⟩;simp only[cP];exact⟨_,_,rfl,ab,_,_,rfl,aG,ao⟩
   |false=>
    simp only at hm;have bU:=fun eC dD=>Cv aP ab aG eI kvs rX (i+1) eC ao (by simp at av;omega) dD;split at hm
    ·rename_i eC dD;cases hm;obtain⟨j,u,ck,e,g1,g2,g3,g4,g5,g6,g7⟩:=bU _ dD;refine⟨j+1,u,iL::jl::ck,e,hR.miss (e:=⟨iL,jl,b⟩) s1 (by rw[show i+(j+1)=i+1+j from by omega];exact g1),?_,by simp[g3],by simpa using g4,g5,g6,by simp[fx,g7]⟩;simp only[cP];exact⟨_,_,rfl,J,_,_,rfl,U,g2⟩
    ·rename_i dD;cases hm;exact hR.miss (e:=⟨iL,jl,b⟩) s1 (bU _ dD)
    ·cases hm
theorem H9:∀(borns:List Nat) (us:List Value) (b:Nat) (k v:Value),us.length=2*borns.length→fx (borns++[b]) (us++[k,v])=fx borns us++[⟨k,v,b⟩]
 |[],us,b,k,v,h=>by have:us=[]:=List.eq_nil_of_length_eq_zero (by simpa using h);subst this;simp[fx]
 |b1::eI,[],b,k,v,h=>by simp at h
 |b1::eI,[_],b,k,v,h=>by simp at h;omega
 |b1::eI,bK::v'::us,b,k,v,h=>by simp only[bV,fx,H9 eI us b k v (by simp at h;omega)]
theorem LA{w:World}{ν:bd}:∀{cv bM:List ah} {bc us:List Value},cP w ν cv bc→cP w ν bM us→cP w ν (cv++bM) (bc++us)
 |[],bM,bc,us,h,ca=>by simp only[cP]at h;subst h;simpa using ca
 |p::cv,bM,bc,us,h,ca=>by simp only[cP]at h;obtain⟨u,ck,rfl,J,U⟩:=h;simp only[bV,cP];exact⟨u,_,rfl,J,LA U ca⟩
theorem Gn{w:World}{ν:bd}:∀{cv:List ah} {bc:List Value},cP w ν cv bc→bc.length=cv.length
 |[],bc,h=>by simp only[cP]at h;subst h;rfl
 |p::cv,bc,h=>by simp only[cP]at h;obtain⟨u,ck,rfl,_,U⟩:=h;simp[Gn U]
theorem C2{P:cD}{w:World}{r:Nat}{o o':Obj}(ad:w.heap[r]? =some o)(aA:∀c e f,o≠ .cells c e f:=by simp):(setObj r o').run P w= .ok () {w with heap:=w.heap.setIfInBounds r o'}:=by simp only[setObj,Sem.run,ad]
def ei.makes(st:bq):ei→Bool
 | .box _ _ _| .alloc _ _ _| .bsl _ _ _ _| .bslm _ _ _ _ _| .mkmap _ _| .range _ _ _| .mks _ _ _ _ _ _=>true
 | .appm _ _ _ _ x _=>match cp st.t x with
  | .slice _ .nil _=>true
  |_=>false
 | .app _ _ _ x _=>match cp st.t x with
  | .slice _ .nil _=>true
  |_=>false
 |_=>false
theorem cS.forgetRow{C:e9}{st:bq}{a:Act}{w:World}{ν:bd}(aK:cS C st a w ν){k:aH}{ow:fK}(ab:look k st.e=some ow):cS C {st with e:=cA k ⟨ow.n,ow.el,ow.sz,none⟩ st.e} a w ν:=by
 have hV:∀g,(look g (cA k ⟨ow.n,ow.el,ow.sz,none⟩ st.e)).isSome→(look g st.e).isSome:=fun g a1=>by
  rw[iH]at a1;split at a1
  ·rename_i e;subst e;simp[ab]
  ·exact a1
 refine⟨⟨aK.good.alt,aK.good.box,aK.good.inj,fun g o a1=>?_,fun g fa n n' v v' bl bC a2=>aK.good.oinj g fa n n' v v' bl (hV g bC) (hV fa a2),fun g j n v bl bC=>aK.good.obx g j n v bl (hV g bC),aK.good.one,fun bl ad=>aK.good.otr bl (ad.imp id (fun⟨g,n,v,bC,a2⟩=>⟨g,n,v,hV g bC,a2⟩))⟩,aK.fr,aK.defers,aK.size,aK.slot,aK.new⟩;simp only at a1;rw[iH]at a1;split at a1
 ·rename_i e;subst e;cases a1;obtain⟨v,us,a6,bE,bX,_⟩:=aK.good.own k ow ab;exact⟨v,us,a6,bE,bX,fun xs ae=>by cases ae⟩
 ·exact aK.good.own g o a1
theorem Ug{w:World}{base el sz n:Nat}{v:Value}{us:List Value}(h:w.ownsRow base el sz v n us)(aA:0<n):∃b cap,v= .slice (some ⟨b,0,none⟩) n cap:=by
 rcases h.2 with⟨ak,aC⟩|⟨bb,cap,cur,f1,_⟩
 ·omega
 ·exact⟨_,_,f1⟩
theorem Gj{w:World}{ν:bd}{sz:Nat}:∀{xs:List ah} {us:List Value} {i:Nat} {q gB:ah} {e1:Value},dw w ν sz xs us→xs[i]? =some q→a8 w ν gB e1→e1.cells.size=sz→(∀c∈e1.cells.toList,c.oneCell'=true)→dw w ν sz (xs.set i gB) (us.take (i*sz)++e1.cells.toList++us.drop (i*sz+sz))
 |[],_,_,_,_,_,_,br,_,_,_=>by simp at br
 |x::xs,us,0,q,gB,e1,h,br,aK,ag,ax=>by
  simp only[dw]at h;obtain⟨u,ck,rfl,⟨J,U,ao⟩,b2⟩:=h;have av:u.cells.toList.length=sz:=by simpa using U
  simp only[List.set_cons_zero,dw];refine⟨e1,ck,?_,⟨aK,ag,ax⟩,b2⟩;simp[←av]
 |x::xs,us,i+1,q,gB,e1,h,br,aK,ag,ax=>by
  simp only[dw]at h;obtain⟨u,ck,rfl,⟨J,U,ao⟩,b2⟩:=h;have av:u.cells.toList.length=sz:=by simpa using U
  have bU:=Gj b2 (by simpa using br) aK ag ax;simp only[List.set_cons_succ,dw];refine⟨u,_,?_,⟨J,U,ao⟩,bU⟩;have e:(i+1)*sz+sz=u.cells.toList.length+(i*sz+sz):=by rw[av,Nat.succ_mul];omega
  rw[V6 _ _ _ _ av,e,←List.drop_drop];simp
theorem ajJ{w:World}{ν:bd}{q:ah}{v:Value}(br:a8 w ν q v)(ag:eb q=true){cs:List ah}{us:List Value}(au:c5 w ν cs us){f:Nat}(aJ:f+us.length≤v.cells.size)(cF:us≠[]):
  ∃v',a8 w ν (mw q f cs) v'∧v'.cells.toList=v.cells.toList.take f++us++v.cells.toList.drop (f+us.length)∧v'.cells.size=v.cells.size∧∀c∈v'.cells.toList,c.oneCell'=true:=by
 have hlen:=pb au;have ld:=uH br ag;by_cases bt:∃eE,q= .agg eE
 ·obtain⟨eE,rfl⟩:=bt;simp only[a8]at br;obtain⟨bc,rfl,kG⟩:=br;simp only[pe]at aJ⊢;have kk:c5 w ν (nI eE f cs) (bc.toList.take f++us++bc.toList.drop (f+us.length)):=by unfold nI;rw[hlen];exact x3 (x3 (CW f kG) au) (Ah _ kG)
  refine⟨.agg (bc.toList.take f++us++bc.toList.drop (f+us.length)).toArray,by simp only[mw,a8];exact⟨_,rfl,by simpa using kk⟩,by simp[pe],?_,fun c hq=>?_⟩
  ·simp[pe];omega
  ·exact Ai kk c (by simpa[pe]using hq)
 ·have mN:∀cs,q≠ .agg cs:=fun cs e=>bt ⟨cs,e⟩;obtain⟨J,U⟩:=LB br ag mN;rw[U]at aJ⊢;match us,cF,au with
  |u::ck,_,au=>
   simp at aJ;obtain⟨rfl,rfl⟩:f=0∧ck=[]:=⟨by omega,List.length_eq_zero_iff.1 (by omega)⟩;match cs,au,hlen with
   |[c],au,_=>
    simp only[c5]at au;obtain⟨wv,fu,ak,⟨I1,Ri⟩,_⟩:=au;cases ak;have hu:u.cells= #[u]:=by cases u<;>first|rfl|cases Ri
    have zl:mw q 0 [c]=c:=by cases q<;>first|rfl|exact absurd rfl (mN _)
    rw[zl];refine⟨u,I1,by simp[hu],by simp[hu],fun c hq=>?_⟩;rw[hu]at hq;simp at hq;subst hq;exact Ri
theorem akk{α:Type}(A us:List α)(a f sz N:Nat)(J:f+us.length≤sz)(U:a+sz≤N)(ao:N≤A.length):
  ((A.take (a+f)++us++A.drop (a+f+us.length)).toArray.toList).take N=(A.take N).take a++((((A.take N).drop a).take sz).take f++us++(((A.take N).drop a).take sz).drop (f+us.length))++(A.take N).drop (a+sz):=by
 have ak:(A.take N).take a++(((A.take N).drop a).take sz).take f=A.take (a+f):=by rw[List.take_take (i:=f),Nat.min_eq_left (show f≤sz by omega),←List.take_add,List.take_take,Nat.min_eq_left (by omega)]
 have aC:(((A.take N).drop a).take sz).drop (f+us.length)++(A.take N).drop (a+sz)=(A.take N).drop (a+f+us.length):=by
  have av:f+us.length≤(((A.take N).drop a).take sz).length:=by simp;omega
  have fl:(A.take N).drop (a+sz)=((A.take N).drop a).drop sz:=by rw[List.drop_drop]
  rw[fl,←List.drop_append_of_le_length av,List.take_append_drop,List.drop_drop];congr 1;omega
 have bk:(A.take N).drop (a+f+us.length)=(A.drop (a+f+us.length)).take (N-(a+f+us.length)):=by rw[List.drop_take]
 have av:(A.take (a+f)++us).length=a+f+us.length:=by simp;omega
 simp only[List.append_assoc]at*;rw[aC,bk,←List.append_assoc (lG a _),ak];have n3:N=(A.take (a+f)++us).length+(N-(a+f+us.length)):=by rw[av];omega
 rw[←List.append_assoc,←List.append_assoc];conv=>lhs;rw[n3,List.take_length_add_append]
theorem cS.storeRow{P:cD}{C:e9}{st:bq}{a:Act}{w:World}{ν:bd}(h:cS C st a w ν){k:aH}{n el sz:Nat}{xs:List ah}(ab:look k st.e=some ⟨n,el,sz,some xs⟩){i f:Nat}{u:Value}(ae:a8 w ν (.rptr sz k n i f) u){q:ah}(br:xs[i]? =some q)(ag:eb q=true)
  {cs:List ah} {us:List Value} (au:c5 w ν cs us) (aJ:f+us.length≤(cells q).length) (cF:us≠[]):
  ∃bl off l6,u= .pointer (some ⟨bl,off,none⟩)∧(storeCells ⟨bl,off,none⟩ us).run P w= .ok () (w.setRow bl l6)∧∃bo,cS C {st with e:=cA k ⟨n,el,sz,some (xs.set i (mw q f cs))⟩ st.e} a (w.setRow bl l6) bo:=by
 simp only[a8]at ae;obtain⟨_,hi,n',e1,J,U,ao⟩:=ae;obtain⟨v,fu,a6,bE,bX,cX⟩:=h.good.own k _ ab;rw[J]at a6;simp only[dG,jm]at a6;obtain⟨rfl,rfl⟩:=a6;obtain⟨bl,ad,rfl⟩:=ao rfl;obtain⟨c8,nG,uB⟩:=cX xs rfl;simp only at c8 nG;obtain⟨v,dH,e8,kI⟩:=Gh i nG br;have y4:=pb (uH dH ag);have aeb:(cells q).length=sz:=by rw[←y4];simpa using e8
 have j0:f+us.length≤sz:=by rw[←aeb];exact aJ
 have hmul:i*sz+sz≤n'*sz:=by have:=Nat.mul_le_mul_right sz (show i+1≤n' from hi);rwa[Nat.succ_mul]at this
 rcases bE.2 with⟨ak,aC⟩|⟨g,cap,cur,rfl,vh,Jb,Ji,ade,dm,R6⟩
 ·rw[ak]at ad;simp[nP]at ad
 simp only[nP,dG]at ad;subst ad;simp only at R6 dm Ji Jb;have y3:n'*sz≤cur.size:=by rw[dm];exact Nat.mul_le_mul_right sz Ji
 have da:=run_storeCells_at P g (i*sz+f) el us 0 cur w Jb (by omega) (Ai au);simp only[Nat.add_zero]at da;refine⟨g,i*sz+f,_,rfl,da,?_⟩;generalize xa:(cur.toList.take (i*sz+f)++us++cur.toList.drop (i*sz+f+us.length)).toArray=l6;obtain⟨v',cO,dp,iJ,uy⟩:=ajJ dH ag au (f:=f) (by rw[e8];exact j0) cF;have mf:=Gj nG br cO (by rw[iJ,e8]) uy;have hlen:fu.length=n'*sz:=bE.1;have adY:l6.toList.take (n'*sz)=fu.take (i*sz)++v'.cells.toList++fu.drop (i*sz+sz):=by rw[←xa,dp,kI,←R6];exact akk cur.toList us (i*sz) f sz (n'*sz) j0 hmul (by simpa using y3)
 have adg:l6.size=cap*sz:=by rw[←xa,←dm];simp;omega
 have anX:(xs.set i (mw q f cs)).length=n':=by simp[c8]
 obtain⟨aio,_,_⟩:=h.setRowM (w':=w.setRow g l6) ab rfl J (bl:=g) rfl (v':= .slice (some ⟨g,0,none⟩) n' cap) rfl (xs':=xs.set i (mw q f cs)) (us:=fu.take (i*sz)++v'.cells.toList++fu.drop (i*sz+sz)) (.inl ⟨by simp[c8],rfl⟩) rfl rfl rfl (fun j af=>setRow_other w g j l6 af) (setRow_size w g l6)
  ⟨by rw[sX mf],.inr ⟨g,cap,l6,by simp[c8],Nat.zero_le _,setRow_heap w g cur l6 el _ Jb,by simpa[c8]using Ji,ade,adg,by simpa[c8]using adY⟩⟩ mf
 exact⟨_,by simpa[c8]using aio⟩
theorem afC(z:Array Value)(n:Nat)(h:0<z.size):(madeCells z ((n+1)*z.size)).toList=z.toList++(madeCells z (n*z.size)).toList:=by
 apply List.ext_getElem?;intro j;rw[List.getElem?_append];have he:(n+1)*z.size=n*z.size+z.size:=by rw[pn,Nat.one_mul]
 simp only[madeCells,ti,Array.length_toList,Array.getElem?_map];by_cases af:j<z.size
 ·rw[if_pos af,Array.getElem?_range,if_pos (by omega)];simp[Nat.mod_eq_of_lt af,af]
 ·rw[if_neg af,Array.getElem?_range,Array.getElem?_range];by_cases ab:j<n*z.size+z.size
  ·rw[if_pos (by omega),if_pos (by omega)];simp only[nQ];rw[←Nat.mod_eq_sub_mod (by omega)]
  ·rw[if_neg (by omega),if_neg (by omega)]
theorem Tq{w:World}{ν:bd}{p:ah}{z:Value}(aK:a8 w ν p z)(h:0<z.cells.size)(ax:∀c∈z.cells.toList,c.oneCell'=true):∀n,dw w ν z.cells.size (qP n p) (madeCells z.cells (n*z.cells.size)).toList
 |0=>by simp[dw,madeCells]
 |n+1=>by rw[afC _ _ h];simp only[List.replicate_succ,dw];exact⟨z,_,rfl,⟨aK,rfl,ax⟩,Tq aK h ax n⟩
theorem jF{P:cD}{bB:List (Nat×dA)}(aO:fL P bB=true){C:e9}{st st':bq}{a:Act}{w:World}{ν:bd}(aK:cS C st a w ν){i:ei}{o:Oper}(ax:C3 C.N bB i o=true)
  {κ:aH} {n':Nat} {o₁:List aH} (tS:i.makes st=true→fresh st.n st.o κ) (cB:i.makes st=true→∀j,fresh n' o₁ j→fresh st.n st.o j∧j≠κ) {c:Prop} (he:eA κ n' o₁ st i=some (c,st')) (au:c) {K:Act→World→Prop} {Q:Exit→Act→World→Prop} (c1:∀bn w' bo,cS C st' bn w' bo→K bn w'):o.wp P a w K Q:=by
 obtain⟨dst,op,type,pos,after,guard⟩:=o;unfold C3 at ax;dsimp only at ax;split at ax
 ·rename_i d key t;simp only[cC,dO,fk]at ax;obtain⟨rfl,U⟩:=ax;simp only[eA]at he;cases he;obtain⟨g1,g2⟩:=aK.newBox (aK.new _ (tS rfl)) (cB rfl) (cs:=[.hdm 0 []]) (us:= #[]) 0 (by simp only[iZ];exact⟨by simp[cP],⟨rfl,by simp,by simp⟩⟩);refine lZ (v:= .map (some w.heap.size)) (w':=w.alloc (.map #[] 0)) ?_ (c1 _ _ _ (g1.put (d:=some d) (by simpa[jf]using U) (p:= .gmap κ) ?_))
  ·simp only[execOp,Instr.makeMap,Option.map_none,fE,run_newObj,fI,gu];rfl
  ·simp[a8,bd.withBox]
 ·rename_i cd x k v t gP gG pW;simp only[cC,dO]at ax;obtain⟨⟨⟨⟨rfl,J⟩,U⟩,ao⟩,ba⟩:=ax;have rx:=eh aK U;have uK:=eh aK ao;have x9:=eh aK ba;split at J
  ·rename_i sz kQ mq oT z aJ;obtain⟨cG,hu,eT⟩:=iK aO aJ;have sv:cG= .map mq oT:=by cases cG<;>simp[jX]at eT;obtain⟨rfl,rfl⟩:=eT;rfl
   subst sv;have lM:=JY aO J;simp only[eA]at he;split at he
   ·rename_i m ae;rw[ae]at rx;simp only[a8]at rx;obtain⟨bl,ch,b6⟩:=rx;split at he
    ·rename_i cs dm;split at he
     ·rename_i cs' hm;cases he;obtain⟨ie,us,el,a6,bE,bX,cX,c8⟩:=aK.good.box m cs dm;rw[ch]at a6;cases a6;unfold oq at hm;split at hm
      ·rename_i clock borns kvs;split at hm
       ·cases hm
       rename_i vn;simp only[jE]at cX;simp only[iZ]at c8;have gW:=uM (P:=P) cX;have vi:=LF (P:=P) (w:=w) lM false uK (by simpa using vn);have bD:bl<w.heap.size:=(Array.getElem?_eq_some_iff.1 cX).1;have dC:∀(o':Obj) (ck:Array Value) (eE:List ah),(Instr.mapUpdate t (a.eval gP) (a.eval gG) (a.eval pW)).run P w= .ok () {w with heap:=w.heap.setIfInBounds bl o'}→jE eE ck el=o'→iZ w ν eE ck.toList→some eE=some cs'→
         (⟨none,.mapUpdate t gP gG pW,type,pos,after,guard⟩:Oper).wp P a w K Q:=by
        intro o' ck eE iF BO mf iC;cases iC;refine Ds (w':={w with heap:=w.heap.setIfInBounds bl o'}) ?_ (c1 _ _ _ (aK.setBox (w':={w with heap:=w.heap.setIfInBounds bl o'}) dm ch (us:=ck) (el:=el) rfl rfl rfl (fun j af=>?_) (by simp) ?_ mf).1)
        ·simp only[execOp,iF,fE,fI,gu]
        ·exact Array.getElem?_setIfInBounds_ne (kN af)
        ·rw[BO];simp[bD]
       split at hm
       ·rename_i vL tY;obtain⟨j,u,ck,e,f1,f2,f3,f4,f5,f6,f7⟩:=Cv lM uK x9 borns kvs us.toList 0 _ c8.1 c8.2.len tY;refine dC (.map (fx borns ck).toArray clock) ck.toArray (.hdm clock borns::vL) ?_ (by simp[jE]) (by simp only[iZ];exact⟨by simpa using f2,⟨by rw[f3];exact c8.2.len,c8.2.inc,c8.2.lt⟩⟩) hm;have Jz:(Instr.keyThatStays (((fx borns us.toList).toArray[j]?.map (·.key)).getD (a.eval gG)) (a.eval gG)).run P w= .ok (a.eval gG) w:=by
         have:((fx borns us.toList).toArray[j]?.map (·.key)).getD (a.eval gG)=e.key:=by simp[f4]
         rw[this];simp[Instr.keyThatStays,f6]
        simp only[Nat.zero_add]at f1;simp only[Instr.mapUpdate,fE,run_underlying hu,fI,b6,gW,vi,f1.run lM,gu,Jz,C2 cX];rw[f7];simp
       ·rename_i tY;have f1:=Cv lM uK x9 borns kvs us.toList 0 _ c8.1 c8.2.len tY;simp only at f1;have rs:us.toList.length=2*borns.length:=by rw[Gn c8.1,c8.2.len]
        refine dC (.map ((fx borns us.toList).toArray.push ⟨a.eval gG,a.eval pW,clock⟩) (clock+1)) (us.toList++[a.eval gG,a.eval pW]).toArray (.hdm (clock+1) (borns++[clock])::(kvs++[cp st.t k,cp st.t v])) ?_ (by simp only[jE,H9 borns us.toList clock _ _ rs];simp) ?_ hm
        ·simp only[Instr.mapUpdate,fE,run_underlying hu,fI,b6,gW,vi,f1.run lM,gu,C2 cX]
        ·simp only[iZ];refine⟨LA c8.1 (by simp only[cP];exact⟨_,_,rfl,uK,_,_,rfl,x9,rfl⟩),⟨by simp[c8.2.len];omega,?_,?_⟩⟩
         ·rw[List.pairwise_append];exact⟨c8.2.inc,by simp,fun x ae y aL=>by simp at aL;subst aL;exact c8.2.lt x ae⟩
         ·intro b ad;rcases ky.1 ad with ad|ad
          ·have:=c8.2.lt b ad;omega
          ·simp at ad;omega
       ·cases hm
      ·cases hm
     ·cases he
    ·cases he
   ·cases he
  ·cases J
 ·rename_i cd x k v t gP gG pW;simp only[cC,dO]at ax;obtain⟨⟨⟨⟨rfl,J⟩,U⟩,ao⟩,ba⟩:=ax;have rx:=eh aK U;have uK:=eh aK ao;have x9:=eh aK ba;split at J
  ·rename_i sz kQ mq oT z aJ;obtain⟨cG,hu,eT⟩:=iK aO aJ;have sv:cG= .map mq oT:=by cases cG<;>simp[jX]at eT;obtain⟨rfl,rfl⟩:=eT;rfl
   subst sv;have lM:=JY aO J;simp only[eA]at he;split at he
   ·rename_i m ae;rw[ae]at rx;simp only[a8]at rx;obtain⟨bl,ch,b6⟩:=rx;split at he
    ·rename_i cs dm;split at he
     ·rename_i cs' hm;cases he;obtain⟨ie,us,el,a6,bE,bX,cX,c8⟩:=aK.good.box m cs dm;rw[ch]at a6;cases a6;unfold oq at hm;split at hm
      ·rename_i clock borns kvs;split at hm
       ·cases hm
       rename_i vn;simp only[jE]at cX;simp only[iZ]at c8;have gW:=uM (P:=P) cX;have vi:=LF (P:=P) (w:=w) lM false uK (by simpa using vn);have bD:bl<w.heap.size:=(Array.getElem?_eq_some_iff.1 cX).1;have dC:∀(o':Obj) (ck:Array Value) (eE:List ah),(Instr.mapUpdate t (a.eval gP) (a.eval gG) (a.eval pW)).run P w= .ok () {w with heap:=w.heap.setIfInBounds bl o'}→jE eE ck el=o'→iZ w ν eE ck.toList→some eE=some cs'→
         (⟨none,.mapUpdate t gP gG pW,type,pos,after,guard⟩:Oper).wp P a w K Q:=by
        intro o' ck eE iF BO mf iC;cases iC;refine Ds (w':={w with heap:=w.heap.setIfInBounds bl o'}) ?_ (c1 _ _ _ (aK.setBox (w':={w with heap:=w.heap.setIfInBounds bl o'}) dm ch (us:=ck) (el:=el) rfl rfl rfl (fun j af=>?_) (by simp) ?_ mf).1)
        ·simp only[execOp,iF,fE,fI,gu]
        ·exact Array.getElem?_setIfInBounds_ne (kN af)
        ·rw[BO];simp[bD]
       split at hm
       ·rename_i vL tY;obtain⟨j,u,ck,e,f1,f2,f3,f4,f5,f6,f7⟩:=Cv lM uK x9 borns kvs us.toList 0 _ c8.1 c8.2.len tY;refine dC (.map (fx borns ck).toArray clock) ck.toArray (.hdm clock borns::vL) ?_ (by simp[jE]) (by simp only[iZ];exact⟨by simpa using f2,⟨by rw[f3];exact c8.2.len,c8.2.inc,c8.2.lt⟩⟩) hm;have Jz:(Instr.keyThatStays (((fx borns us.toList).toArray[j]?.map (·.key)).getD (a.eval gG)) (a.eval gG)).run P w= .ok (a.eval gG) w:=by
         have:((fx borns us.toList).toArray[j]?.map (·.key)).getD (a.eval gG)=e.key:=by simp[f4]
         rw[this];simp[Instr.keyThatStays,f6]
        simp only[Nat.zero_add]at f1;simp only[Instr.mapUpdate,fE,run_underlying hu,fI,b6,gW,vi,f1.run lM,gu,Jz,C2 cX];rw[f7];simp
       ·rename_i tY;have f1:=Cv lM uK x9 borns kvs us.toList 0 _ c8.1 c8.2.len tY;simp only at f1;have rs:us.toList.length=2*borns.length:=by rw[Gn c8.1,c8.2.len]
        refine dC (.map ((fx borns us.toList).toArray.push ⟨a.eval gG,a.eval pW,clock⟩) (clock+1)) (us.toList++[a.eval gG,a.eval pW]).toArray (.hdm (clock+1) (borns++[clock])::(kvs++[cp st.t k,cp st.t v])) ?_ (by simp only[jE,H9 borns us.toList clock _ _ rs];simp) ?_ hm
        ·simp only[Instr.mapUpdate,fE,run_underlying hu,fI,b6,gW,vi,f1.run lM,gu,C2 cX]
        ·simp only[iZ];refine⟨LA c8.1 (by simp only[cP];exact⟨_,_,rfl,uK,_,_,rfl,x9,rfl⟩),⟨by simp[c8.2.len];omega,?_,?_⟩⟩
         ·rw[List.pairwise_append];exact⟨c8.2.inc,by simp,fun x ae y aL=>by simp at aL;subst aL;exact c8.2.lt x ae⟩
         ·intro b ad;rcases ky.1 ad with ad|ad
          ·have:=c8.2.lt b ad;omega
          ·simp at ad;omega
       ·cases hm
      ·cases hm
     ·cases he
    ·cases he
   ·cases he
  ·cases J
 ·rename_i d key x t gP;simp only[cC,dO,fk]at ax;obtain⟨⟨⟨rfl,U⟩,J⟩,ao⟩:=ax;have rx:=eh aK ao;split at J
  ·rename_i sz kQ mq oT z aJ;obtain⟨cG,hu,eT⟩:=iK aO aJ;have sv:cG= .map mq oT:=by cases cG<;>simp[jX]at eT;obtain⟨rfl,rfl⟩:=eT;rfl
   subst sv;simp only[eA]at he;split at he
   ·rename_i m ae;rw[ae]at rx;have ajO:=rx;simp only[a8]at rx;obtain⟨bl,ch,b6⟩:=rx;split at he
    ·rename_i cs dm;split at he
     ·rename_i cs' hm;cases he;obtain⟨ie,us,el,a6,bE,bX,cX,c8⟩:=aK.good.box m cs dm;rw[ch]at a6;cases a6;unfold wb at hm;split at hm
      ·rename_i clock borns kvs;cases hm;simp only[jE]at cX;have gW:=uM (P:=P) cX;obtain⟨g1,g2⟩:=aK.newBox (aK.new _ (tS rfl)) (cB rfl) (cs:=[.hdi clock [] clock,.gmap m]) (us:= #[a.eval gP]) 0 (by simp only[iZ,cP];exact⟨_,_,rfl,ajO,rfl⟩);have BO:jE [.hdi clock [] clock,.gmap m] #[a.eval gP] 0= .mapIter (some bl) clock #[] clock:=by simp[jE,b6]
       rw[BO]at g1 g2;refine lZ (v:= .pointer (some ⟨w.heap.size,0,none⟩)) (w':=w.alloc (.mapIter (some bl) clock #[] clock)) ?_ (c1 _ _ _ (g1.put (d:=some d) (by simpa[jf]using U) (p:= .ptr κ 0) g2))
       ·simp only[execOp];refine Dm ?_;simp only[Instr.range,fE,run_underlying hu,fI,b6,gW,gu,run_newObj];rfl
      ·cases hm
     ·cases he
    ·cases he
   ·cases he
  ·cases J
 ·rename_i d arD;simp only[cC,dO,fk]at ax;obtain⟨⟨J,U⟩,ao⟩:=ax;subst J;simp only[eA]at he;split at he
  ·rename_i cr p aG;cases he;obtain⟨v,g1,g2⟩:=akP (o:=⟨some d,op,type,pos,after,guard⟩) aO aK ao aG au;refine lZ g1 (c1 _ _ ν ?_);exact aK.put (d:=some d) (by simpa[jf]using U) g2
  ·cases he
 ·rename_i d key x el o';simp only[cC,dO,fk]at ax;obtain⟨⟨J,U⟩,ao⟩:=ax;subst J;simp only[eA]at he;cases he;have ae:=eh aK ao;have lj:=uH ae au;obtain⟨g1,g2⟩:=aK.newBox (aK.new _ (tS rfl)) (cB rfl) el (by rw[uA (Aj lj)];exact lj);rw[uz (Aj lj)]at g1 g2;refine lZ (v:= .pointer (some ⟨w.heap.size,0,none⟩)) (w':=w.alloc (.cells (a.eval o').cells el)) ?_ (c1 _ _ _ (g1.put (d:=some d) (by simpa[jf]using U) (p:= .ptr κ 0) ?_))
  ·simp only[execOp,Instr.box,newVar,newRow,fE,run_newObj,fI,gu];rfl
  ·simpa only[a8]using g2
 ·rename_i d key z el;simp only[cC,dO,fk]at ax;obtain⟨⟨J,U⟩,ao⟩:=ax;subst J;simp only[eA]at he;cases he;split at ao
  ·rename_i f aJ;have bp:=MI ao;obtain⟨b7,kL,z2,z3⟩:=Mb aO aJ w;rw[←bp]at z2;obtain⟨_,lj⟩:=MH w ν z2;obtain⟨g1,g2⟩:=aK.newBox (aK.new _ (tS rfl)) (cB rfl) el (by rw[uA (Aj lj)];exact lj);rw[uz (Aj lj)]at g1 g2;refine lZ (v:= .pointer (some ⟨w.heap.size,0,none⟩)) (w':=w.alloc (.cells b7.cells el)) ?_ (c1 _ _ _ (g1.put (d:=some d) (by simpa[jf]using U) (p:= .ptr κ 0) ?_))
   ·simp only[execOp,Instr.alloc,newVar,newRow,fE,kL,run_newObj,fI,gu];rfl
   ·simpa only[a8]using g2
  ·cases ao
 ·rename_i sz x y t o' iY;simp only[cC,dO]at ax;obtain⟨⟨⟨J,U⟩,ao⟩,ba⟩:=ax;subst J;split at U
  ·rename_i f aJ;simp only[dO]at U;simp only[eA]at he;split at he
   ·rename_i k off ae;split at he
    ·rename_i cs dm;cases he;obtain⟨iz,bH,cl,c9⟩:=au;have rx:=eh aK ao;rw[ae]at rx;simp only[a8]at rx;obtain⟨bl,ch,b6⟩:=rx;have lC:=eh aK ba;have uF:=uH lC bH;have uL:=pb uF;obtain⟨ie,us,el,a6,bE,bX,cX,c8⟩:=aK.good.box k cs dm;rw[ch]at a6;cases a6;rw[uz iz]at cX;rw[uA iz]at c8;have aw:=pb c8;obtain⟨_,dX⟩:=uT aO aJ w;have ub:(a.eval iY).cells.size=sz:=by rw[cl]at uL;simpa using uL
     have da:=run_storeCells_at (P:=P) bl off el (a.eval iY).cells.toList 0 us w cX (by simp at aw⊢;omega) (Ai uF);simp only[Nat.add_zero]at da;refine Ds (w':=w.setRow bl (us.toList.take off++(a.eval iY).cells.toList++us.toList.drop (off+(a.eval iY).cells.toList.length)).toArray) ?_ (c1 _ _ _ (aK.storeBox dm ch iz ?_))
     ·simp only[execOp,Instr.storeAt,b6,Instr.sureAddr,storeVar,fE,gu,fI,dX,ub,U,ne_eq,not_true_eq_false,if_false,da]
     ·simp only[nI];rw[uL];exact x3 (x3 (CW off c8) uF) (Ah _ c8)
    ·cases he
   ·rename_i ae;generalize Jo:cp st.t x=px at he;unfold qG at he;split at he
    ·rename_i dF k n i sn;split at he
     ·rename_i n' el jb xs ab;split at he
      ·rename_i BN;obtain⟨rfl,rfl⟩:=BN;split at he
       ·rename_i q br;cases he;obtain⟨iz,bH,cl,c9,ig⟩:=au;have rx:=eh aK ao;rw[Jo]at rx;have lC:=eh aK ba;have uF:=uH lC bH;have uL:=pb uF;obtain⟨_,dX⟩:=uT aO aJ w;have ub:(a.eval iY).cells.size=sz:=by rw[cl]at uL;simpa using uL
        obtain⟨bl,off,l6,BS,da,bo,pH⟩:=aK.storeRow (P:=P) ab rx br iz uF (by simpa[ub]using c9) (fun e=>by have:=e2 List.length e;simp[ub]at this;omega);refine Ds (w':=w.setRow bl l6) ?_ (c1 _ _ _ pH);simp only[execOp,Instr.storeAt,BS,Instr.sureAddr,storeVar,fE,gu,fI,dX,ub,U,ne_eq,not_true_eq_false,if_false,da]
       ·cases he
      ·cases he
     ·cases he
    ·cases he
  ·cases U
 ·rename_i d sz el xs t len parts;simp only[cC,dO,fk]at ax;obtain⟨⟨⟨⟨⟨⟨J,U⟩,ao⟩,ba⟩,b2⟩,c7⟩,ef⟩:=ax;subst J;subst b2;split at ao
  ·rename_i fN aJ;simp only[dO]at ao;subst ao;split at ba
   ·rename_i g a1;simp only[cC,dO,fk]at ba;obtain⟨rfl,fp⟩:=ba;simp only[eA]at he;cases he;obtain⟨us,g1,g2,g3⟩:=VA aO aK aJ rfl a1 ef au c7;have lp:(w.alloc (.cells us el)).ownsRow w.heap.size el g.size (.slice (some ⟨w.heap.size,0,none⟩) xs.length xs.length) (xs.map (cp st.t)).length us.toList:=by
     refine⟨by simp[g3],.inr ⟨w.heap.size,xs.length,us,by simp,eR _,heap_alloc_new w _,by simp,?_,g3,?_⟩⟩
     ·simp only[maxLen];have:xs.length≤xs.length*g.size:=Nat.le_mul_of_pos_right _ fp;omega
     ·rw[hz];simp[g3]
    obtain⟨dH,e8⟩:=aK.newRow (k:=κ) (xs:=xs.map (cp st.t)) (.inl (aK.new _ (tS rfl))) (World.grownBy_alloc w _ none) lp g2
     (by have:xs.length≤xs.length*g.size:=Nat.le_mul_of_pos_right _ fp;simp only[lim,List.length_map];omega) (cB rfl)
    simp only[List.length_map]at dH e8;refine lZ (v:= .slice (some ⟨w.heap.size,0,none⟩) xs.length xs.length) (w':=w.alloc (.cells us el)) ?_ (c1 _ _ _ (dH.put (d:=some d) (by simpa[jf]using U) (p:= .slice g.size (.own κ) (xs.map (cp st.t))) e8));have bI:(parts.map fun(x:Nat×Operand)=>(x.1,a.eval x.2))=(parts.toList.map fun(x:Nat×Operand)=>(x.1,a.eval x.2)).toArray:=by apply Array.ext';simp
    simp only[execOp];refine Dm ?_;rw[←g1];congr 2
   ·cases ba
  ·cases ao
 ·rename_i d sz el x y o' iY t dJ;simp only[cC,dO,fk]at ax;obtain⟨⟨⟨⟨⟨⟨J,U⟩,ao⟩,ba⟩,b2⟩,c7⟩,ef⟩:=ax;subst J;subst ao;split at ba
  ·rename_i fN aJ;simp only[dO]at ba;subst ba;split at b2
   ·rename_i g a1;simp only[cC,dO,fk]at b2;obtain⟨⟨rfl,fp⟩,hby⟩:=b2;have rx:=eh aK c7;have lC:=eh aK ef;have mc:∀v' w',(Builtin.append_ #[t,t] type #[a.eval o',a.eval iY]).run P w= .ok v' w'→(execOp a.eval ⟨some d,.call ⟨.builtin .append,⟨[o',iY]⟩,⟨[t,t]⟩⟩,type,pos,after,guard⟩).run P w= .ok (.value v') w':=by intro v' w' iF;simp only[execOp,resolve,invoke,builtin,fE,gu,fI,List.map_toArray,hf,List.map_nil];rw[iF];rfl
    obtain⟨ft,cc,z,ak,aC,bk,dc,gV,hI,qU,qV⟩:=(uU aO a1).ex;obtain⟨eE,iC,eT⟩:=iK aO aJ;obtain rfl:=sg eT;simp only[eA]at he;split at he
    ·rename_i dF tag xs jb kJ ys ae aL;split at he
     ·rename_i e6;obtain⟨rfl,e6⟩:=e6;subst e6;rw[ae]at rx;rw[aL]at lC;simp only[a8]at rx lC;obtain⟨⟨tz,oP,r1,cx1,⟨PM,PN⟩,cx4⟩,rxn,rxo,rxt⟩:=rx;obtain⟨⟨np,la,vy,cy1,⟨PO,PQ⟩,cy4⟩,_⟩:=lC;split at he
      ·rename_i k;split at he
       ·rename_i ow ab;cases he;obtain⟨bH,cl,c9,ig⟩:=au;subst cl;obtain⟨n0,wv,dH,e8,kI⟩:=rxo k rfl;obtain⟨v0,fu,a6,bE,bX,_⟩:=aK.good.own k ow ab;rw[dH]at a6;simp only[dG,jm]at a6;obtain⟨rfl,rfl⟩:=a6;have mg:a.eval o'=wv:=kI bH.symm;by_cases iU:ys=[]
        ·subst iU;rw[vy,r1]at mc;have iF:=Gt (P:=P) (w:=w) (ty:=type) iC ak tz xs.length oP cx1 np la;refine lZ (mc _ _ (by simpa using iF)) (c1 _ _ ν ?_);have da:{st with t:=put d (.slice ow.sz (.own k) (xs++[])) st.t,e:=cA k ⟨xs.length+([]:List ah).length,ow.el,ow.sz,none⟩ st.e}=({st with e:=cA k ⟨ow.n,ow.el,ow.sz,none⟩ st.e,t:=put d (.slice ow.sz (.own k) xs) st.t}:bq):=by simp[bH]
         rw[←c9,da];have me:=aK.forgetRow ab;refine me.put (d:=some d) (by simpa[jf]using U) (p:= .slice ow.sz (.own k) xs) ?_;simp only[a8];rw[←c9]at cx4;exact⟨⟨tz,oP,rfl,cx1,⟨PM,PN⟩,cx4⟩,fun e=>(by cases e),(fun g e=>by cases e;exact⟨_,_,dH,e8,fun e=>by rw[←r1];exact kI e⟩),fun _ _ e=>(by cases e),fun _ e=>(by cases e)⟩
        ·have hyp:0<ys.length:=by cases ys<;>simp at iU⊢
         rcases cy4 with cy4|⟨kQ,nb,ha,rfl,xL,l7⟩
         ·exact absurd cy4 iU
         ·have jx:=sX l7;have rl:∀j u,ha[j]? =some u→w.cell? ((⟨kQ,nb,none⟩:Addr).add j)=some u:=fun j u af=>by rw[oL];exact(um xL af).2
          have re:(xs.length+ys.length)*ft.bytes≤140737488355328:=by
           have lf:ft.bytes≤2048:=by rw[dc];exact hby
           have oZ:(xs.length+ys.length)*ft.bytes≤(xs.length+ys.length)*2048:=Nat.mul_le_mul_left _ lf;simp only[lim]at ig;omega
          have ll:xs.length+ys.length≤maxLen:=by simp only[lim]at ig;simp only[maxLen];omega
          rw[vy]at mc;have vx:fu.length=ow.n*ow.sz:=bE.1;have vB:z.cells.size=ft.size:=by rw[qV,bk]
          have BD:(∀cur,eK→cur=(0:Nat))→(∃v' w',(Builtin.append_ #[t,t] type #[a.eval o',.slice (some ⟨kQ,nb,none⟩) ys.length la]).run P w= .ok v' w'∧w'.ownsRow w.heap.size ow.el ft.size v' (xs.length+ys.length) (fu++ha)∧w.grownBy w' none∧dw w ν ft.size xs fu)→
            (⟨some d,.call ⟨.builtin .append,⟨[o',iY]⟩,⟨[t,t]⟩⟩,type,pos,after,guard⟩:Oper).wp P a w K Q:=by
           intro _ cu;obtain⟨v',w',f1,f2,f3,f4⟩:=cu;have EE:dw w ν ft.size (xs++ys) (fu++ha):=CU f4 (by rw[bk];exact l7);obtain⟨cO,dp⟩:=aK.newRow (k:=k) (xs:=xs++ys) (.inr ⟨ow,ab,by rw[bH];simp;omega⟩) f3 (by simpa using f2) EE (by simpa using ig) (n':=st.n) (o':=st.o)
            (fun j af=>⟨af,fun e=>by subst e;have:=(aK.new _ af).2.1;rw[dH]at this;cases this⟩)
           refine lZ (mc _ _ f1) (c1 _ _ ((ν.withOwn k (xs++ys).length v').withRowOf k v' (xs++ys).length ((xs++ys).length*ft.size)) ?_);have:=cO.put (d:=some d) (by simpa[jf]using U) dp;simpa[bk,eH]using this
          rcases bE.2 with⟨nc,xY⟩|⟨bl,cap,cur,nc,xY,z1,KZ,K0,K1,FW⟩
          ·
           have zs:xs=[]:=List.eq_nil_of_length_eq_zero (by omega);have JC:fu=[]:=List.eq_nil_of_length_eq_zero (by rw[vx,xY];simp);subst zs;subst JC;refine BD (fun _ h=>h.elim) ?_;obtain⟨v',w',f1,f2,f3,_⟩:=run_append_own (P:=P) w w.heap.size t type ow.el ft z ft.size ft.bytes iC ak hI rfl rfl vB (by rw[bk];exact fp) (.slice none 0 0) 0 [] (World.ownsRow_nil w _ _ _)
            ⟨kQ,nb,none⟩ ys.length la ha (by rw[jx,bk]) rl (x2 l7) (by simpa using ll) (by simpa using re) (eR _)
           refine⟨v',w',by rw[mg,nc];exact f1,by simpa using f2,by simpa[nP]using f3,by simp[dw]⟩
          ·have adL:lx w ν.A bl 0 fu∧dw w ν ft.size xs fu∧True:=by
            rw[mg,nc]at r1;rcases cx4 with cx4|⟨bb,apF,Mh,f1,f2,f3⟩
            ·subst cx4;have:fu=[]:=List.eq_nil_of_length_eq_zero (by rw[vx,bH];simp);subst this;exact⟨trivial,by simp[dw],trivial⟩
            ·subst f1;injection r1 with vx1 vx2 vx3;injection vx1 with vx1;injection vx1 with vx1 vx4;subst vx1;subst vx4;have heq:Mh=fu:=by
              apply List.ext_getElem?;intro j;have rs:Mh.length=fu.length:=by rw[sX f3,vx,bH,c9]
              by_cases af:j<Mh.length
              ·have J:=(um f2 (cf af)).2;rw[Nat.zero_add]at J;have U:=bE.cells (g:=bl) (by rw[nc];rfl) j fu[j] (cf (by omega));rw[oL,Nat.zero_add,J]at U;rw[cf af,cf (by omega)];exact U
              ·rw[p5 (by omega),p5 (by omega)]
             subst heq;exact⟨f2,by rw[bk];exact f3,trivial⟩
           obtain⟨xj,nz,_⟩:=adL;by_cases rp:xs.length+ys.length≤cap
           ·have anS:cur.size=cap*ow.sz:=K1;have hmul:(xs.length+ys.length)*ow.sz≤cap*ow.sz:=Nat.mul_le_mul_right _ rp;rw[pn]at hmul;have f1:=run_append_room (P:=P) w t type ow.el ft iC ak bl xs.length cap cur z1 ⟨kQ,nb,none⟩ ys.length la ha (by rw[jx,bk]) rl (x2 l7) rp (by rw[jx,bk,←c9];omega);obtain⟨cO,dp⟩:=aK.inPlace ab (bl:=bl) (cap:=cap) (cur:=cur) (by rw[dH,←nc]) z1 K0 K1 (xs:=xs) (ys:=ys) (us:=fu) (ns:=ha) bH.symm FW (by rw[c9,←bk];exact nz) (by rw[c9];exact l7) hyp (by rw[bH];exact rp) ig;refine lZ (v:= .slice (some ⟨bl,0,none⟩) (ow.n+ys.length) cap) (w':=w.setRow bl (fu++ha++cur.toList.drop (ow.n*ow.sz+ha.length)).toArray) (mc _ _ ?_)
             (c1 _ _ (ν.withRowOf k (.slice (some ⟨bl,0,none⟩) (ow.n+ys.length) cap) (ow.n+ys.length) ((ow.n+ys.length)*ow.sz)) ?_)
            ·rw[mg,nc,bH,f1,←FW,bH,c9,bk]
            ·have:=cO.put (d:=some d) (by simpa[jf]using U) dp;simpa[bH,c9,eH]using this
           ·refine BD (fun _ h=>h.elim) ?_;obtain⟨v',w',f1,f2,f3⟩:=run_append_arg_grows (P:=P) w t type ow.el ft z ft.size ft.bytes iC ak hI rfl rfl vB (by rw[bk];exact fp) ⟨bl,0,none⟩ xs.length cap fu (by rw[vx,bH,c9,bk])
             (fun j u af=>by rw[oL];exact(um xj af).2) ⟨kQ,nb,none⟩ ys.length la ha (by rw[jx,bk]) rl (by omega) ll re
            exact⟨v',w',by rw[mg,nc,bH];exact f1,f2,f3,nz⟩
       ·cases he
      ·cases he;have EO:=rxn rfl;have zs:xs=[]:=by rw[EO]at r1;injection r1 with _ aC;exact List.eq_nil_of_length_eq_zero aC.symm
       subst zs;have xp:(ei.app d g.size el x y).makes st=true:=by simp only[ei.makes,ae]
       have vB:z.cells.size=ft.size:=by rw[qV,bk]
       rw[vy,EO]at mc;have dC:∀(v':Value) (w':World) (ha:List Value),(Builtin.append_ #[t,t] type #[.slice none 0 0,.slice np ys.length la]).run P w= .ok v' w'→w'.ownsRow w.heap.size el g.size v' ys.length ha→w.grownBy w' none→dw w ν g.size ys ha→
         (⟨some d,.call ⟨.builtin .append,⟨[o',iY]⟩,⟨[t,t]⟩⟩,type,pos,after,guard⟩:Oper).wp P a w K Q:=by
        intro v' w' ha f1 f2 f3 f4;obtain⟨cO,dp⟩:=aK.newRow (k:=κ) (xs:=ys) (.inl (aK.new _ (tS xp))) f3 f2 f4 au (cB xp);exact lZ (mc _ _ f1) (c1 _ _ _ (cO.put (d:=some d) (by simpa[jf]using U) dp))
       by_cases iU:ys=[]
       ·subst iU;exact dC _ w [] (Gt iC ak none 0 0 (eR _) np la) (World.ownsRow_nil w _ _ _) (amp w _) (by simp[dw])
       ·rcases cy4 with cy4|⟨kQ,nb,ha,rfl,xL,l7⟩
        ·exact absurd cy4 iU
        ·have jx:=sX l7;have rl:∀j u,ha[j]? =some u→w.cell? ((⟨kQ,nb,none⟩:Addr).add j)=some u:=fun j u af=>by rw[oL];exact(um xL af).2
         have re:ys.length*ft.bytes≤140737488355328:=by
          have J:ft.bytes≤2048:=by rw[dc];exact hby
          have U:ys.length*ft.bytes≤ys.length*2048:=Nat.mul_le_mul_left _ J;simp only[lim]at au;omega
         have ll:ys.length≤maxLen:=by simp only[lim]at au;simp only[maxLen];omega
         obtain⟨v',w',f1,f2,f3,_⟩:=run_append_own (P:=P) w w.heap.size t type el ft z ft.size ft.bytes iC ak hI rfl rfl vB (by rw[bk];exact fp) (.slice none 0 0) 0 [] (World.ownsRow_nil w _ _ _)
          ⟨kQ,nb,none⟩ ys.length la ha (by rw[jx,bk]) rl (x2 l7) (by simpa using ll) (by simpa using re) (eR _)
         exact dC v' w' ha f1 (by rw[←bk];simpa using f2) (by simpa[nP]using f3) l7
      ·cases he
     ·cases he
    ·cases he
   ·cases b2
  ·cases ba
 ·rename_i d key sz el xs t len parts;simp only[cC,dO,fk]at ax;obtain⟨⟨⟨⟨⟨⟨J,U⟩,ao⟩,ba⟩,b2⟩,c7⟩,ef⟩:=ax;subst J;subst b2;split at ao
  ·rename_i fN aJ;simp only[dO]at ao;subst ao;split at ba
   ·rename_i g a1;simp only[cC,dO,fk]at ba;obtain⟨rfl,fp⟩:=ba;simp only[eA]at he;cases he;obtain⟨us,g1,g2,g3⟩:=VA aO aK aJ rfl a1 ef au c7;have lp:(w.alloc (.cells us el)).ownsRow w.heap.size el g.size (.slice (some ⟨w.heap.size,0,none⟩) xs.length xs.length) (xs.map (cp st.t)).length us.toList:=by
     refine⟨by simp[g3],.inr ⟨w.heap.size,xs.length,us,by simp,eR _,heap_alloc_new w _,by simp,?_,g3,?_⟩⟩
     ·simp only[maxLen];have:xs.length≤xs.length*g.size:=Nat.le_mul_of_pos_right _ fp;omega
     ·rw[hz];simp[g3]
    obtain⟨dH,e8⟩:=aK.newRowM (k:=κ) (xs:=xs.map (cp st.t)) (.inl (aK.new _ (tS rfl))) (World.grownBy_alloc w _ none) lp g2
     (by have:xs.length≤xs.length*g.size:=Nat.le_mul_of_pos_right _ fp;simp only[lim,List.length_map];omega) (cB rfl)
    simp only[List.length_map]at dH e8;refine lZ (v:= .slice (some ⟨w.heap.size,0,none⟩) xs.length xs.length) (w':=w.alloc (.cells us el)) ?_ (c1 _ _ _ (dH.put (d:=some d) (by simpa[jf]using U) (p:= .row g.size κ xs.length) (e8 ⟨_,_,rfl⟩)));have bI:(parts.map fun(x:Nat×Operand)=>(x.1,a.eval x.2))=(parts.toList.map fun(x:Nat×Operand)=>(x.1,a.eval x.2)).toArray:=by apply Array.ext';simp
    simp only[execOp];refine Dm ?_;rw[←g1];congr 2
   ·cases ba
  ·cases ao
 ·rename_i d key sz el x y o' iY t dJ;simp only[cC,dO,fk]at ax;obtain⟨⟨⟨⟨⟨⟨J,U⟩,ao⟩,ba⟩,b2⟩,c7⟩,ef⟩:=ax;subst J;subst ao;split at ba
  ·rename_i fN aJ;simp only[dO]at ba;subst ba;split at b2
   ·rename_i g a1;simp only[cC,dO,fk]at b2;obtain⟨⟨rfl,fp⟩,hby⟩:=b2;have rx:=eh aK c7;have lC:=eh aK ef;have mc:∀v' w',(Builtin.append_ #[t,t] type #[a.eval o',a.eval iY]).run P w= .ok v' w'→(execOp a.eval ⟨some d,.call ⟨.builtin .append,⟨[o',iY]⟩,⟨[t,t]⟩⟩,type,pos,after,guard⟩).run P w= .ok (.value v') w':=by intro v' w' iF;simp only[execOp,resolve,invoke,builtin,fE,gu,fI,List.map_toArray,hf,List.map_nil];rw[iF];rfl
    obtain⟨ft,cc,z,ak,aC,bk,dc,gV,hI,qU,qV⟩:=(uU aO a1).ex;obtain⟨eE,iC,eT⟩:=iK aO aJ;obtain rfl:=sg eT;have vB:z.cells.size=ft.size:=by rw[qV,bk]
    simp only[eA]at he;split at he
    ·
     rename_i ys aG;cases he;unfold se at aG;split at aG
     ·rename_i dF xs jb kJ amh ae aL;split at aG
      ·rename_i e6;obtain⟨rfl,e6⟩:=e6;subst e6;cases aG;rw[ae]at rx;rw[aL]at lC;simp only[a8]at rx lC;obtain⟨⟨tz,oP,r1,cx1,⟨PM,PN⟩,cx4⟩,rxn,rxo,rxt⟩:=rx;obtain⟨⟨np,la,vy,cy1,⟨PO,PQ⟩,cy4⟩,_⟩:=lC;have EO:=rxn trivial;have xp:(ei.appm d key g.size el x y).makes st=true:=by simp only[ei.makes,ae]
       rw[vy,EO]at mc;have dC:∀(v':Value) (w':World) (ha:List Value),(Builtin.append_ #[t,t] type #[.slice none 0 0,.slice np ys.length la]).run P w= .ok v' w'→w'.ownsRow w.heap.size el g.size v' ys.length ha→w.grownBy w' none→dw w ν g.size ys ha→
         (⟨some d,.call ⟨.builtin .append,⟨[o',iY]⟩,⟨[t,t]⟩⟩,type,pos,after,guard⟩:Oper).wp P a w K Q:=by
        intro v' w' ha f1 f2 f3 f4;obtain⟨cO,dp⟩:=aK.newRowM (k:=κ) (xs:=ys) (.inl (aK.new _ (tS xp))) f3 f2 f4 au.1 (cB xp);exact lZ (mc _ _ f1) (c1 _ _ _ (cO.put (d:=some d) (by simpa[jf]using U) (dp (Ug f2 (by cases ys<;>simp at au⊢)))))
       by_cases iU:ys=[]
       ·subst iU;exact dC _ w [] (Gt iC ak none 0 0 (eR _) np la) (World.ownsRow_nil w _ _ _) (amp w _) (by simp[dw])
       ·rcases cy4 with cy4|⟨kQ,nb,ha,rfl,xL,l7⟩
        ·exact absurd cy4 iU
        ·have jx:=sX l7;have rl:∀j u,ha[j]? =some u→w.cell? ((⟨kQ,nb,none⟩:Addr).add j)=some u:=fun j u af=>by rw[oL];exact(um xL af).2
         have re:ys.length*ft.bytes≤140737488355328:=by
          have J:ft.bytes≤2048:=by rw[dc];exact hby
          have U:ys.length*ft.bytes≤ys.length*2048:=Nat.mul_le_mul_left _ J;simp only[lim]at au;omega
         have ll:ys.length≤maxLen:=by simp only[lim]at au;simp only[maxLen];omega
         obtain⟨v',w',f1,f2,f3,_⟩:=run_append_own (P:=P) w w.heap.size t type el ft z ft.size ft.bytes iC ak hI rfl rfl vB (by rw[bk];exact fp) (.slice none 0 0) 0 [] (World.ownsRow_nil w _ _ _)
          ⟨kQ,nb,none⟩ ys.length la ha (by rw[jx,bk]) rl (x2 l7) (by simpa using ll) (by simpa using re) (eR _)
         exact dC v' w' ha f1 (by rw[←bk];simpa using f2) (by simpa[nP]using f3) l7
      ·cases aG
     ·split at aG
      ·split at aG
       ·split at aG<;>cases aG
       ·cases aG
      ·cases aG
     ·cases aG
    ·
     rename_i k xs ys aG;cases he;unfold se at aG;split at aG
     ·split at aG<;>cases aG
     ·rename_i dF bK n jb kJ amh ae aL;split at aG
      ·rename_i e6;obtain⟨rfl,e6⟩:=e6;subst e6;split at aG
       ·rename_i n' fN wk xs' ab;split at aG
        ·rename_i tP;obtain⟨rfl,rfl,rfl⟩:=tP;cases aG;rw[ae]at rx;rw[aL]at lC;simp only[a8]at rx lC;obtain⟨⟨bx,oP,r1⟩,rxl,n0,wv,dH,e8,kI⟩:=rx;obtain⟨⟨np,la,vy,cy1,⟨PO,PQ⟩,cy4⟩,_⟩:=lC;obtain⟨v0,fu,a6,bE,bX,cX⟩:=aK.good.own k _ ab;rw[dH]at a6;simp only[dG,jm]at a6 bE;obtain⟨rfl,rfl⟩:=a6;have mg:a.eval o'=wv:=kI rfl;obtain⟨c8,nG,uB⟩:=cX xs rfl;simp only at c8 nG;have vx:fu.length=xs.length*g.size:=by rw[c8];exact bE.1
         have j1:xs.length=n0:=c8;by_cases iU:ys=[]
         ·subst iU;rw[vy,r1]at mc;have lj:n0≤oP:=by
           rcases bE.2 with⟨nc,xY⟩|⟨bl,cap,cur,nc,xY,z1,KZ,_⟩
           ·rw[xY];exact Nat.zero_le _
           ·rw[←mg,r1]at nc;injection nc with _ _ e;rw[e];exact KZ
          have iF:=Gt (P:=P) (w:=w) (ty:=type) iC ak (some ⟨bx,0,none⟩) n0 oP lj np la;refine lZ (mc _ _ (by simpa using iF)) (c1 _ _ ν ?_);have hV:∀fa,look fa (cA k ⟨n0,fN,g.size,some xs⟩ st.e)=look fa st.e:=fun fa=>by
           rw[iH];split
           ·rename_i e;subst e;rw[ab]
           ·rfl
          have me:cS C {st with e:=cA k ⟨n0,fN,g.size,some xs⟩ st.e} a w ν:=
           ⟨⟨aK.good.alt,aK.good.box,aK.good.inj,fun g o a1=>aK.good.own g o (by rw[←hV g];exact a1),fun g fa n n' v v' bl bC a2=>aK.good.oinj g fa n n' v v' bl (by rw[←hV g];exact bC) (by rw[←hV fa];exact a2),
           fun g j n v bl bC=>aK.good.obx g j n v bl (by rw[←hV g];exact bC),aK.good.one,fun bl ad=>aK.good.otr bl (ad.imp id (fun⟨g,n,v,bC,a2⟩=>⟨g,n,v,by rw[←hV g];exact bC,a2⟩))⟩,aK.fr,aK.defers,aK.size,aK.slot,aK.new⟩
          have ao:=me.put (d:=some d) (by simpa[jf]using U) (p:= .row g.size k n0) (v:= .slice (some ⟨bx,0,none⟩) n0 oP) (by simp only[a8];exact⟨⟨_,_,rfl⟩,rxl,_,_,dH,eR _,fun _=>by rw[←r1];exact mg⟩)
          simpa[j1,eH]using ao
         ·have hyp:0<ys.length:=by cases ys<;>simp at iU⊢
          rcases cy4 with cy4|⟨kQ,nb,ha,rfl,xL,l7⟩
          ·exact absurd cy4 iU
          ·have jx:=sX l7;have rl:∀j u,ha[j]? =some u→w.cell? ((⟨kQ,nb,none⟩:Addr).add j)=some u:=fun j u af=>by rw[oL];exact(um xL af).2
           have re:(xs.length+ys.length)*ft.bytes≤140737488355328:=by
            have lf:ft.bytes≤2048:=by rw[dc];exact hby
            have oZ:(xs.length+ys.length)*ft.bytes≤(xs.length+ys.length)*2048:=Nat.mul_le_mul_left _ lf;simp only[lim]at au;omega
           have ll:xs.length+ys.length≤maxLen:=by simp only[lim]at au;simp only[maxLen];omega
           have EE:dw w ν g.size (xs++ys) (fu++ha):=CU nG l7;rw[vy,mg]at mc;have BD:(∃v' w',(Builtin.append_ #[t,t] type #[wv,.slice (some ⟨kQ,nb,none⟩) ys.length la]).run P w= .ok v' w'∧w'.ownsRow w.heap.size fN ft.size v' (xs.length+ys.length) (fu++ha)∧w.grownBy w' none)→
             (⟨some d,.call ⟨.builtin .append,⟨[o',iY]⟩,⟨[t,t]⟩⟩,type,pos,after,guard⟩:Oper).wp P a w K Q:=by
            intro cu;obtain⟨v',w',f1,f2,f3⟩:=cu;obtain⟨cO,dp⟩:=aK.newRowM (k:=k) (xs:=xs++ys) (el:=fN) (sz:=g.size) (.inr ⟨_,ab,by simp;omega⟩) f3 (by rw[←bk];simpa using f2) EE (by simpa using au) (n':=st.n) (o':=st.o)
             (fun j af=>⟨af,fun e=>by subst e;have:=(aK.new _ af).2.1;rw[dH]at this;cases this⟩)
            refine lZ (mc _ _ f1) (c1 _ _ (ν.withOwn k (xs++ys).length v') ?_);have:=cO.put (d:=some d) (by simpa[jf]using U) (dp (by simpa using Ug f2 (by omega)));simpa[eH]using this
           rcases bE.2 with⟨nc,xY⟩|⟨bl,cap,cur,nc,xY,z1,KZ,K0,K1,FW⟩
           ·
            have zs:xs=[]:=List.eq_nil_of_length_eq_zero (by omega);have JC:fu=[]:=List.eq_nil_of_length_eq_zero (by rw[vx,zs];simp);subst zs;subst JC;refine BD ?_;obtain⟨v',w',f1,f2,f3,_⟩:=run_append_own (P:=P) w w.heap.size t type fN ft z ft.size ft.bytes iC ak hI rfl rfl vB (by rw[bk];exact fp) (.slice none 0 0) 0 [] (World.ownsRow_nil w _ _ _)
             ⟨kQ,nb,none⟩ ys.length la ha (by rw[jx,bk]) rl (x2 l7) (by simpa using ll) (by simpa using re) (eR _)
            exact⟨v',w',by rw[nc];exact f1,by simpa using f2,by simpa[nP]using f3⟩
           ·have od:wv.ownBlock=some bl:=by rw[nc];rfl
            by_cases rp:xs.length+ys.length≤cap
            ·have hmul:(xs.length+ys.length)*g.size≤cap*g.size:=Nat.mul_le_mul_right _ rp;rw[pn]at hmul;have f1:=run_append_room (P:=P) w t type fN ft iC ak bl xs.length cap cur z1 ⟨kQ,nb,none⟩ ys.length la ha (by rw[jx,bk]) rl (x2 l7) rp (by rw[jx,bk];omega);generalize R8:(cur.toList.take (xs.length*ft.size)++ha++cur.toList.drop (xs.length*ft.size+ha.length)).toArray=sS at f1;have kk:(w.setRow bl sS).heap[bl]? =some (.cells sS fN (0,0)):=setRow_heap w bl cur sS fN _ z1;have av:(fu++ha).length=(xs++ys).length*g.size:=by rw[pf,vx,jx,pf,pn]
             have b2:cur.toList.take (xs.length*ft.size)=fu:=by rw[j1,bk];exact FW
             have km:sS.size=cap*g.size:=by rw[←R8];simp only[List.size_toArray,pf,List.length_take,r7,Array.length_toList];rw[bk];omega
             have o2:sS.toList.take ((xs++ys).length*g.size)=fu++ha:=by rw[←R8,b2];simp only[←av];rw[List.take_append_of_le_length (eR _),pk]
             obtain⟨cO,_,dp⟩:=aK.setRowM (w':=w.setRow bl sS) ab rfl dH od (v':= .slice (some ⟨bl,0,none⟩) (xs.length+ys.length) cap) rfl (xs':=xs++ys) (us:=fu++ha) (.inr (by simp;omega)) rfl rfl rfl (fun j af=>setRow_other w bl j sS af) (setRow_size w bl sS)
              ⟨av,.inr ⟨bl,cap,sS,by simp,Nat.zero_le _,kk,by simpa using rp,K0,km,o2⟩⟩ EE
             replace dp:=dp (by simpa using au);refine lZ (v:= .slice (some ⟨bl,0,none⟩) (xs.length+ys.length) cap) (w':=w.setRow bl sS) (mc _ _ ?_) (c1 _ _ (ν.withOwn k (xs++ys).length (.slice (some ⟨bl,0,none⟩) (xs.length+ys.length) cap)) ?_)
             ·rw[nc,←j1];exact f1
             ·have:=cO.put (d:=some d) (by simpa[jf]using U) dp;simpa[eH]using this
            ·refine BD ?_;obtain⟨v',w',f1,f2,f3⟩:=run_append_arg_grows (P:=P) w t type fN ft z ft.size ft.bytes iC ak hI rfl rfl vB (by rw[bk];exact fp) ⟨bl,0,none⟩ xs.length cap fu (by rw[vx,bk])
              (fun j u af=>by have:=bE.cells od j u af;exact this) ⟨kQ,nb,none⟩ ys.length la ha (by rw[jx,bk]) rl (by omega) ll re
             exact⟨v',w',by rw[nc,←j1];exact f1,f2,f3⟩
        ·cases aG
       ·cases aG
      ·cases aG
     ·cases aG
    ·cases he
   ·cases b2
  ·cases ba
 ·rename_i sz x y t o' iY;simp only[cC,dO]at ax;obtain⟨⟨⟨J,U⟩,ao⟩,ba⟩:=ax;subst J;split at U
  ·rename_i f aJ;simp only[dO]at U;simp only[eA]at he;generalize Jo:cp st.t x=px at he;unfold qG at he;split at he
   ·rename_i dF k n i sn;split at he
    ·rename_i n' el jb xs ab;split at he
     ·rename_i BN;obtain⟨rfl,rfl⟩:=BN;split at he
      ·rename_i q br;cases he;obtain⟨iz,bH,cl,c9,ig⟩:=au;have rx:=eh aK ao;rw[Jo]at rx;have lC:=eh aK ba;have uF:=uH lC bH;have uL:=pb uF;obtain⟨_,dX⟩:=uT aO aJ w;have ub:(a.eval iY).cells.size=sz:=by rw[cl]at uL;simpa using uL
       obtain⟨bl,off,l6,BS,da,bo,pH⟩:=aK.storeRow (P:=P) ab rx br iz uF (by simpa[ub]using c9) (fun e=>by have:=e2 List.length e;simp[ub]at this;omega);refine Ds (w':=w.setRow bl l6) ?_ (c1 _ _ _ pH);simp only[execOp,Instr.storeAt,BS,Instr.sureAddr,storeVar,fE,gu,fI,dX,ub,U,ne_eq,not_true_eq_false,if_false,da]
      ·cases he
     ·cases he
    ·cases he
   ·cases he
  ·cases U
 ·rename_i d key sz el z x t o' iY;simp only[cC,dO,fk]at ax;obtain⟨⟨⟨⟨⟨J,U⟩,ao⟩,ba⟩,b2⟩,c7⟩:=ax;subst J;split at ao
  ·rename_i fN aJ;simp only[dO]at ao;subst ao;split at ba
   ·rename_i g a1;simp only[cC,dO,fk]at ba;obtain⟨⟨⟨rfl,fp⟩,hby⟩,bp⟩:=ba;obtain rfl:=MI bp;have rx:=eh aK b2;have lC:=eh aK c7;simp only[eA]at he;split at he
    ·rename_i ff n ae;cases he;obtain⟨adU,jx⟩:=au;obtain⟨m,rfl⟩:=Int.eq_ofNat_of_zero_le adU;rw[ae]at rx lC;simp only[a8]at rx lC;obtain⟨ft,cc,b7,ak,aC,bk,dc,gV,hI,qU,qV⟩:=(uU aO a1).ex;obtain⟨eE,iC,eT⟩:=iK aO aJ;obtain rfl:=sg eT;have ll:m≤lim:=by simp only[lim]at jx⊢;omega
     have re:ft.bytes*m≤281474976710656:=by have J:ft.bytes*m≤2048*m:=Nat.mul_le_mul_right _ (by omega);simp only[lim]at ll;omega
     obtain⟨aeh,adh⟩:=MH w ν qU;obtain⟨w',g1,g2,g3⟩:=run_make_full (P:=P) w w.heap.size t el ft b7 ft.size iC ak hI rfl ff ff m re (by simp only[maxLen];simp only[lim]at ll;omega) (eR _);have lp:w'.ownsRow w.heap.size el g.size (.slice (some ⟨w.heap.size,0,none⟩) m m) (qP m g.zero).length (madeCells b7.cells (m*b7.cells.size)).toList:=by rw[bk,←qV]at g2;rw[List.length_replicate,←qV];exact g2
     obtain⟨dH,e8⟩:=aK.newRowM (k:=κ) (xs:=qP m g.zero) (.inl (aK.new _ (tS rfl))) g3 lp (by rw[←qV];exact Tq aeh (by omega) (Ai adh) m) (by simpa using ll) (cB rfl);simp only[List.length_replicate]at dH e8;simp only[Int.toNat_natCast]at c1;refine lZ (v:= .slice (some ⟨w.heap.size,0,none⟩) m m) (w':=w') ?_ (c1 _ _ _ (dH.put (d:=some d) (by simpa[jf]using U) (p:= .row g.size κ m) (e8 ⟨_,_,rfl⟩)));simp only[execOp];refine Dm ?_;rw[rx,lC];exact g1
    ·cases he
   ·cases ba
  ·cases ao
 ·cases ax
theorem ajQ{P:cD}{bB:List (Nat×dA)}(aO:fL P bB=true){C:e9}{st st':bq}{a:Act}{w:World}{ν:bd}(aK:cS C st a w ν){i:ei}{o:Oper}(ax:C3 C.N bB i o=true)
  {c:Prop} (he:lW st i=some (c,st')) (au:c) {K:Act→World→Prop} {Q:Exit→Act→World→Prop} (c1:∀bn w' bo,cS C st' bn w' bo→K bn w'):o.wp P a w K Q:=by
 have n9:pO st none→fresh st.n st.o (.loc st.n):=fun h=>vQ (key:=none) h;have fo:∀j,fresh (st.n+1) st.o j→fresh st.n st.o j∧j≠ .loc st.n:=vR (key:=none);cases i with
 |v d i=>exact jF (κ:= .loc 0) (n':=0) (o₁:=[]) aO aK ax (fun h=>by simp[ei.makes]at h) (fun h=>by simp[ei.makes]at h) (by simpa only[lW,eA]using he) au c1
 |box d key x=>simp only[lW]at he;cases he;exact jF (κ:=jD st key) (n':=mZ st key) (o₁:=na st key) aO aK ax (fun _=>vQ au.1) (fun _=>vR) (by simp only[eA]) au.2 c1
 |alloc d key z=>simp only[lW]at he;cases he;exact jF (κ:=jD st key) (n':=mZ st key) (o₁:=na st key) aO aK ax (fun _=>vQ au) (fun _=>vR) (by simp only[eA]) trivial c1
 |mks d key sz el z x=>
  simp only[lW]at he;split at he
  ·rename_i ff n ae;cases he;exact jF (κ:=jD st key) (n':=mZ st key) (o₁:=na st key) aO aK ax (fun _=>vQ au.1) (fun _=>vR) (by simp only[eA,ae]) au.2 c1
  ·cases he
 |storeE sz x y=>exact jF (κ:= .loc 0) (n':=0) (o₁:=[]) aO aK ax (fun h=>by simp[ei.makes]at h) (fun h=>by simp[ei.makes]at h) (by simpa only[lW,eA]using he) au c1
 |store sz x y=>exact jF (κ:= .loc 0) (n':=0) (o₁:=[]) aO aK ax (fun h=>by simp[ei.makes]at h) (fun h=>by simp[ei.makes]at h) (by simpa only[lW,eA]using he) au c1
 |bsl d sz el xs=>simp only[lW]at he;cases he;exact jF (κ:= .loc st.n) (n':=st.n+1) (o₁:=st.o) aO aK ax (fun _=>n9 au.1) (fun _=>fo) (by simp only[eA]) au.2 c1
 |bslm d key sz el xs=>simp only[lW]at he;cases he;exact jF (κ:=jD st key) (n':=mZ st key) (o₁:=na st key) aO aK ax (fun _=>vQ au.1) (fun _=>vR) (by simp only[eA]) au.2 c1
 |appm d key sz el x y=>
  simp only[lW]at he;split at he
  ·rename_i ys aG;cases he;exact jF (κ:=jD st key) (n':=mZ st key) (o₁:=na st key) aO aK ax (fun _=>vQ au.1) (fun _=>vR) (by simp only[eA,aG]) au.2 c1
  ·rename_i k xs ys aG;cases he;refine jF (κ:= .loc 0) (n':=0) (o₁:=[]) aO aK ax (fun h=>?_) (fun h=>?_) (by simp only[eA,aG]) au c1;all_goals
    exfalso
    simp only[ei.makes]at h
    split at h
    ·rename_i ae
     unfold se at aG
     rw[ae]at aG
     split at aG
     ·split at aG<;>cases aG
     ·rename_i J _;cases J
     ·cases aG
    ·cases h
  ·cases he
 |mkmap d key=>simp only[lW]at he;cases he;exact jF (κ:=jD st key) (n':=mZ st key) (o₁:=na st key) aO aK ax (fun _=>vQ au) (fun _=>vR) (by simp only[eA]) trivial c1
 |mput cd x k v=>exact jF (κ:= .loc 0) (n':=0) (o₁:=[]) aO aK ax (fun h=>by simp[ei.makes]at h) (fun h=>by simp[ei.makes]at h) (by simpa only[lW,eA]using he) au c1
 |range d key x=>
  simp only[lW]at he;split at he
  ·rename_i m ae;split at he
   ·rename_i cs dm;split at he
    ·rename_i cs' hm;cases he;exact jF (κ:=jD st key) (n':=mZ st key) (o₁:=na st key) aO aK ax (fun _=>vQ au) (fun _=>vR) (by simp only[eA,ae,dm,hm]) trivial c1
    ·cases he
   ·cases he
  ·cases he
 |app d sz el x y=>
  simp only[lW]at he;split at he
  ·rename_i dF tag xs jb kJ ys ae aL;split at he
   ·rename_i e6;split at he
    ·rename_i k;split at he
     ·rename_i ow ab;cases he;refine jF (κ:= .loc 0) (n':=0) (o₁:=[]) aO aK ax (fun h=>by simp[ei.makes,ae]at h) (fun h=>by simp[ei.makes,ae]at h) ?_ au c1;simp only[eA,ae,aL,e6,and_self,if_true,ab]
     ·cases he
    ·cases he;refine jF (κ:= .loc st.n) (n':=st.n+1) (o₁:=st.o) aO aK ax (fun _=>n9 au.1) (fun _=>fo) ?_ au.2 c1;simp only[eA,ae,aL,e6,and_self,if_true]
    ·cases he
   ·cases he
  ·cases he
structure cK where
 b:List (aH×List ah)
 e:List (aH×fK)
def fw(ν:bd)(s:cK)(bl:Nat):Prop:=(∃k,(look k s.b).isSome∧ν.bx k=some bl)∨(∃g n v,(look g s.e).isSome∧ν.ow g=some (n,v)∧v.ownBlock=some bl)
def oV(ν:bd)(s:cK):Prop:= ∀k,(look k s.b=none→ν.bx k=none)∧(look k s.e=none→ν.ow k=none)∧∀j b,¬ν.tr k j b
def cV(s:cK):List aH:=s.b.map (·.1)++s.e.map (·.1)
def iI(s:cK):Prop:=(∀m,look (.loc m) s.b=none)∧(∀m,look (.loc m) s.e=none)
def wA(P:cD)(f:FuncId)(bc:Array Value)(w:World)(R:Ending→World→Prop):Prop:=((∃fn,P.funcs[f]? =some fn∧fn.body.isSome=true∧(fn.name== "runtime.NumGoroutine")=false)∧Calls P f bc w R)∨ ∃v w',(callFunc f bc).run P w= .ok (.value v) w'∧R (.returned v) w'
def bN(P:cD)(f:FuncId)(args:List ah)(s:cK)(Q:ah→cK→Prop):Prop:=
 ∀(w:World) (ν:bd) (bc:Array Value),Good (fw ν s) w ν s.b s.e→oV ν s→cP w ν args bc.toList→
  wA P f bc w fun e w'=> ∃v r ai bo,e= .returned v∧Q r ai∧a8 w' bo r v∧Good (fun bl=>fw ν s bl∨w.heap.size≤bl) w' bo ai.b ai.e∧oV bo ai∧iI ai∧p8 ⟨w,ν,fw ν s,0,cV s⟩ w' bo
def Eh(κ:aY Nat)(ν:bd)(s:cK):Prop:= ∀k,(look k s.b=none→ν.bx k=none)∧(look k s.e=none→ν.ow k=none)∧∀j b,ν.tr k j b→∃m,κ=some m∧k= .loc m
theorem oV.k{ν:bd}{s:cK}(h:oV ν s):Eh none ν s:=fun k=>⟨(h k).1,(h k).2.1,fun j b ad=>absurd ad ((h k).2.2 j b)⟩
def G1(P:cD)(f:FuncId)(κ:Nat)(args:List ah)(s:cK)(Q:ah→cK→Prop):Prop:=
 ∀(w:World) (ν:bd) (bc:Array Value),Good (fw ν s) w ν s.b s.e→oV ν s→cP w ν args bc.toList→
  wA P f bc w fun e w'=> ∃v r ai bo,e= .returned v∧Q r ai∧a8 w' bo r v∧Good (fun bl=>fw ν s bl∨w.heap.size≤bl) w' bo ai.b ai.e∧Eh (some κ) bo ai∧iI ai∧p8 ⟨w,ν,fw ν s,0,cV s⟩ w' bo
def bF(P:cD)(f:FuncId)(args:List ah)(r:ah):Prop:=bN P f args ⟨[],[]⟩ fun eC ai=>eC=r∧ai=⟨[],[]⟩
theorem sO{α:Type}{k:aH}{x:α}:∀{l:List (aH×α)},look k l=some x→(k,x)∈l
 |[],h=>by simp[look]at h
 |(i,y)::r,h=>by
  simp only[look]at h;split at h
  ·rename_i e;subst e;cases h;simp
  ·exact pg _ (sO h)
theorem sT{s:cK}{k:aH}(h:(look k s.b).isSome∨(look k s.e).isSome):k∈cV s:=by
 unfold cV;rcases h with h|h<;>obtain⟨x,ae⟩:=fJ.1 h<;>have:=sO ae
 ·exact List.mem_append_left _ (iP.2 ⟨_,this,rfl⟩)
 ·exact List.mem_append_right _ (iP.2 ⟨_,this,rfl⟩)
section
open Classical
noncomputable def bd.cut(ν:bd)(S:aH→Prop):bd:={A:=ν.A,bx:=fun k=>if S k then ν.bx k else none,ow:=fun k=>if S k then ν.ow k else none,tr:=fun k j b=>S k∧ν.tr k j b}
theorem bd.cut_bx{ν:bd}{S:aH→Prop}{k:aH}(h:S k):(ν.cut S).bx k=ν.bx k:=by simp[bd.cut,h]
theorem bd.cut_ow{ν:bd}{S:aH→Prop}{k:aH}(h:S k):(ν.cut S).ow k=ν.ow k:=by simp[bd.cut,h]
theorem bd.cut_no{ν:bd}{S:aH→Prop}{k:aH}(h:¬S k):(ν.cut S).bx k=none∧(ν.cut S).ow k=none∧∀j b,¬(ν.cut S).tr k j b:=by simp[bd.cut,h]
theorem bd.cut_some{ν:bd}{S:aH→Prop}{k:aH}{b:Nat}(h:(ν.cut S).bx k=some b):S k∧ν.bx k=some b:=by
 by_cases ag:S k
 ·exact⟨ag,by rw[bd.cut_bx ag]at h;exact h⟩
 ·rw[(bd.cut_no ag).1]at h;cases h
theorem bd.cut_someO{ν:bd}{S:aH→Prop}{k:aH}{b:Nat×Value}(h:(ν.cut S).ow k=some b):S k∧ν.ow k=some b:=by
 by_cases ag:S k
 ·exact⟨ag,by rw[bd.cut_ow ag]at h;exact h⟩
 ·rw[(bd.cut_no ag).2.1]at h;cases h
theorem oK.cut(S:aH→Prop)(w:World)(ν:bd):oK S w ν w (ν.cut S):=⟨fun _ _ h=>⟨h,rfl⟩,fun k b ab h=>by rw[bd.cut_bx ab];exact h,fun g n u a1 h=>⟨n,u,by rw[bd.cut_ow a1];exact h,.inl ⟨rfl,rfl⟩⟩,fun _ _ _=>rfl,fun _ _ _ ab h=>⟨ab,h⟩⟩
end
def gC(S:aH→Prop)(b1 b:List (aH×List ah)):Prop:= ∀k cs,look k b1=some cs→look k b=some cs∧S k∧aI S cs
def oz(S:aH→Prop)(fG e:List (aH×fK)):Prop:= ∀k o,look k fG=some o→look k e=some o∧S k∧dW S o
theorem Good.cut{pr CM:Nat→Prop}{w:World}{ν:bd}{b b1:List (aH×List ah)}{e fG:List (aH×fK)}(h:Good pr w ν b e){S:aH→Prop}(ad:gC S b1 b)(he:oz S fG e)
  (RT:∀bl,pr bl→(∃k,(look k b1).isSome∧(ν.cut S).bx k=some bl)∨(∃g n v,(look g fG).isSome∧(ν.cut S).ow g=some (n,v)∧v.ownBlock=some bl)→CM bl):Good CM w (ν.cut S) b1 fG:=by
 have ED:∀k,(look k b1).isSome→(look k b).isSome∧S k:=fun k ab=>by obtain⟨cs,dm⟩:=fJ.1 ab;have:=ad k cs dm;exact⟨by simp[this.1],this.2.1⟩
 have EF:∀k,(look k fG).isSome→(look k e).isSome∧S k:=fun k ab=>by obtain⟨cs,dm⟩:=fJ.1 ab;have:=he k cs dm;exact⟨by simp[this.1],this.2.1⟩
 refine⟨h.alt,fun k cs ab=>?_,fun k bK bl J U ao ba=>?_,fun g o a1=>?_,fun g fa n n' v v' bl J U ao ba b2 c7=>?_,fun g k n v bl J U ao ba b2=>?_,fun k=>?_,fun bl aO k j af=>?_⟩
 ·obtain⟨g1,g2,g3⟩:=ad k cs ab;obtain⟨bl,us,el,f1,f2,f3,f4,f5⟩:=h.box k cs g1;have lg:(ν.cut S).bx k=some bl:=by rw[bd.cut_bx g2];exact f1
  exact⟨bl,us,el,lg,RT bl f2 (.inl ⟨k,by simp[ab],lg⟩),f3,f4,Vk (oK.cut S w ν) g3 f5⟩
 ·obtain⟨bC,a2⟩:=ED k J;obtain⟨ch,b6⟩:=ED bK U;exact h.inj k bK bl bC ch (bd.cut_some ao).2 (bd.cut_some ba).2
 ·obtain⟨g1,g2,g3⟩:=he g o a1;obtain⟨v,us,f1,f2,f3,f4⟩:=h.own g o g1;have BQ:(ν.cut S).ow g=some (o.n,v):=by rw[bd.cut_ow g2];exact f1
  exact⟨v,us,BQ,f2,fun bl e5=>⟨RT bl (f3 bl e5).1 (.inr ⟨g,o.n,v,by simp[a1],BQ,e5⟩),(f3 bl e5).2⟩,
   fun xs ae=>⟨(f4 xs ae).1,Gi (oK.cut S w ν) _ _ _ (g3 xs ae) (f4 xs ae).2.1,(f4 xs ae).2.2⟩⟩
 ·obtain⟨bC,a2⟩:=EF g J;obtain⟨ch,b6⟩:=EF fa U;exact h.oinj g fa n n' v v' bl bC ch (bd.cut_someO ao).2 (bd.cut_someO ba).2 b2 c7
 ·obtain⟨bC,a2⟩:=EF g J;obtain⟨ch,b6⟩:=ED k U;exact h.obx g k n v bl bC ch (bd.cut_someO ao).2 ba (bd.cut_some b2).2
 ·by_cases ag:S k
  ·rw[bd.cut_bx ag,bd.cut_ow ag];exact h.one k
  ·exact .inl (bd.cut_no ag).1
 ·refine h.otr bl ?_ k j af.2;rcases aO with⟨bK,bC,a2⟩|⟨g,n,v,bC,a2,a3⟩
  ·exact .inl ⟨bK,(ED bK bC).1,(bd.cut_some a2).2⟩
  ·exact .inr ⟨g,n,v,(EF g bC).1,(bd.cut_someO a2).2,a3⟩
structure ix (ob:List aH) (st st':bq):Prop where
 t:∀x∈st'.t,get x.1 st.t=x.2∧aB (fun k=> ¬fresh st'.n st'.o k) x.2
 b:gC (fun k=> ¬fresh st'.n st'.o k) st'.b st.b
 e:oz (fun k=> ¬fresh st'.n st'.o k) st'.e st.e
 o:∀m∈ob,m∈st'.o
theorem QU:∀(i:Nat) (l:List (Nat×ah)),get i l= .junk∨(i,get i l)∈l
 |_,[]=>.inl rfl
 |i,(j,p)::r=>by
  by_cases h:j=i
  ·subst h;right;simp[get]
  ·rcases QU i r with J|J
   ·left;simp[get,h,J]
   ·right;simp[get,h];right;exact J
theorem cS.weaker{C:e9}{st st':bq}{a:Act}{w:World}{ν:bd}(h:cS C st a w ν)(hw:ix C.ob st st'):cS C st' a w (ν.cut fun k=> ¬fresh st'.n st'.o k):=by
 refine⟨h.good.cut hw.b hw.e (fun bl bI _=>bI),⟨h.fr.os,h.fr.tape,h.fr.output,h.fr.size,h.fr.block,h.fr.keep,h.fr.fresh,fun n b ad=>?_,h.fr.obn,fun m n u hm=>?_,h.fr.obr,fun k j bK dx b J U=>h.fr.trd k j bK dx b J.2 U.2,fun k j b ad=>h.fr.trb k j b ad.2,fun k j b ad=>?_,h.fr.sh⟩,h.defers,h.size,fun i=>?_,fun k ab=>bd.cut_no (fun aA=>aA ab)⟩
 ·rw[bd.cut_bx (fun cu=>cu.2 (hw.o _ (h.fr.obn n b ad)))];exact h.fr.obj n b ad
 ·rw[bd.cut_ow (fun cu=>cu.2 (hw.o _ (h.fr.obr m n u hm)))];exact h.fr.row m n u hm
 ·rw[bd.cut_bx ad.1,bd.cut_ow ad.1];exact h.fr.trn k j b ad.2
 ·rcases QU i st'.t with af|hm
  ·rw[af];simp[a8]
  ·obtain⟨J,U⟩:=hw.t _ hm;simp only at J;have:=h.slot i;rw[J]at this;exact uI (oK.cut _ w ν) _ _ U this
mutual
def dq:ah→ah
 | .slice sz _ xs=>.slice sz .no (cZ xs)
 | .agg cs=>.agg (cZ cs)
 | .tuple bc=>.tuple (cZ bc)
 | .eptr x=>.eptr (dq x)
 | .iface t x=>.iface t (dq x)
 | .func f dj=>.func f (cZ dj)
 |p=>p
def cZ:List ah→List ah
 |[]=>[]
 |x::xs=>dq x::cZ xs
end
theorem uQ:∀xs,(cZ xs).length=xs.length
 |[]=>rfl
 |x::xs=>by simp[cZ,uQ xs]
mutual
theorem IB{t:Bool}{w:World}{A:Nat→Nat→Prop}:∀(p:ah) (F:Nat→Prop) (v:Value),fU t w A F p v→fU t w A F (dq p) v
 | .int _ _,_,_,h=>by simpa only[dq]using h
 | .bool _,_,_,h=>by simpa only[dq]using h
 | .str _,_,_,h=>by simpa only[dq]using h
 | .slice sz tag xs,F,v,h=>by
  simp only[fU,dq]at h⊢;obtain⟨a,cap,J,U,ao,ba⟩:=h;refine⟨a,cap,by rw[uQ];exact J,by rw[uQ];exact U,by rw[uQ];exact ao,?_⟩;rcases ba with rfl|⟨b,off,us,G,ak,aC,bk,dc,gV,hI⟩
  ·exact .inl rfl
  ·exact .inr ⟨b,off,us,G,ak,aC,bk,dc,gV,QH sz xs G us hI⟩
 | .agg cs,F,v,h=>by simp only[fU,dq]at h⊢;obtain⟨us,J,U⟩:=h;exact⟨us,J,QI cs F _ U⟩
 | .junk,_,_,h=>by simp[fU]at h
 | .ptr _ _,_,_,h=>by simp[fU]at h
 | .eptr _,_,_,h=>by simp[fU]at h
 | .iface _ _,_,_,h=>by simp[fU]at h
 | .nilp,_,_,h=>by simp[fU]at h
 | .tuple _,_,_,h=>by simp[fU]at h
 | .func _ _,_,_,h=>by simp[fU]at h
 | .gmap _,_,_,h=>by simp[fU]at h
 | .row _ _ _,_,_,h=>by simp[fU]at h
 | .rptr _ _ _ _ _,_,_,h=>by simp[fU]at h
 | .hdm _ _,_,_,h=>by simp[fU]at h
 | .hdi _ _ _,_,_,h=>by simp[fU]at h
 | .cst _,_,_,h=>by simp[fU]at h
theorem QI{t:Bool}{w:World}{A:Nat→Nat→Prop}:∀(cs:List ah) (F:Nat→Prop) (us:List Value),tL t w A F cs us→tL t w A F (cZ cs) us
 |[],_,_,h=>by simpa only[cZ]using h
 |c::cs,F,us,h=>by simp only[tL,cZ]at h⊢;obtain⟨u,ck,h0,ia,J,U,⟨b2,c7⟩,ef⟩:=h;exact⟨u,ck,h0,ia,J,U,⟨IB c h0 u b2,c7⟩,QI cs ia ck ef⟩
theorem QH{t:Bool}{w:World}{A:Nat→Nat→Prop}(sz:Nat):∀(cs:List ah) (F:Nat→Prop) (us:List Value),tK t w A F sz cs us→tK t w A F sz (cZ cs) us
 |[],_,_,h=>by simpa only[cZ]using h
 |c::cs,F,us,h=>by simp only[tK,cZ]at h⊢;obtain⟨u,ck,h0,ia,J,U,⟨b2,c7⟩,ef⟩:=h;exact⟨u,ck,h0,ia,J,U,⟨IB c h0 u b2,c7⟩,QH sz cs ia ck ef⟩
end
theorem QG{t:Bool}{w:World}{A:Nat→Nat→Prop}{F:Nat→Prop}{sz:Nat}{tag:AQ}(kJ:AQ){xs:List ah}(v:Value)(h:fU t w A F (.slice sz tag xs) v):fU t w A F (.slice sz kJ (cZ xs)) v:=by have:=IB _ F v h;simp only[dq,fU]at this⊢;exact this
mutual
theorem x6{w:World}{ν:bd}:∀(p:ah) (v:Value),a8 w ν p v→a8 w ν (dq p) v
 | .junk,_,h=>by simpa only[dq]using h
 | .int k n,_,h=>by simpa only[dq]using h
 | .bool b,_,h=>by simpa only[dq]using h
 | .str s,_,h=>by simpa only[dq]using h
 | .slice sz tag xs,v,h=>by
  simp only[a8,dq]at h⊢;obtain⟨⟨a,cap,J,U,ao,ba⟩,b2,c7⟩:=h;refine⟨⟨a,cap,by rw[uQ];exact J,by rw[uQ];exact U,by rw[uQ];exact ao,?_⟩,fun e=>(by cases e),fun g e=>(by cases e),fun _ _ e=>(by cases e),fun _ e=>(by cases e)⟩;rcases ba with rfl|⟨b,off,us,ba,c7,ef⟩
  ·exact .inl rfl
  ·exact .inr ⟨b,off,us,ba,c7,Vn sz xs us ef⟩
 | .agg cs,v,h=>by simp only[a8,dq]at h⊢;obtain⟨us,J,U⟩:=h;exact⟨us,J,Vr cs _ U⟩
 | .ptr key off,v,h=>by simpa only[dq]using h
 | .iface t x,v,h=>by simp only[a8,dq]at h⊢;obtain⟨u,J,U⟩:=h;exact⟨u,J,x6 x u U⟩
 | .eptr x,v,h=>by simp only[a8,dq]at h⊢;obtain⟨b,off,u,J,U,ao⟩:=h;exact⟨b,off,u,J,x6 x u U,ao⟩
 | .nilp,_,h=>by simpa only[dq]using h
 | .tuple bc,v,h=>by simp only[a8,dq]at h⊢;obtain⟨us,J,U⟩:=h;exact⟨us,J,Gq bc _ U⟩
 | .func f dj,v,h=>by simp only[a8,dq]at h⊢;obtain⟨us,J,U⟩:=h;exact⟨us,J,Gq dj _ U⟩
 | .gmap key,v,h=>by simpa only[dq]using h
 | .row _ _ _,v,h=>by simpa only[dq]using h
 | .rptr _ _ _ _ _,v,h=>by simpa only[dq]using h
 | .cst _,v,h=>by simpa only[dq]using h
theorem Vr{w:World}{ν:bd}:∀(cs:List ah) (us:List Value),c5 w ν cs us→c5 w ν (cZ cs) us
 |[],_,h=>by simpa only[cZ]using h
 |c::cs,us,h=>by simp only[c5,cZ]at h⊢;obtain⟨u,ck,J,U,ao⟩:=h;exact⟨u,ck,J,⟨x6 c u U.1,U.2⟩,Vr cs ck ao⟩
theorem Gq{w:World}{ν:bd}:∀(cs:List ah) (us:List Value),cP w ν cs us→cP w ν (cZ cs) us
 |[],_,h=>by simpa only[cZ]using h
 |c::cs,us,h=>by simp only[cP,cZ]at h⊢;obtain⟨u,ck,J,U,ao⟩:=h;exact⟨u,ck,J,x6 c u U,Gq cs ck ao⟩
theorem Vn{w:World}{ν:bd}(sz:Nat):∀(xs:List ah) (us:List Value),dw w ν sz xs us→dw w ν sz (cZ xs) us
 |[],_,h=>by simpa only[cZ]using h
 |x::xs,us,h=>by simp only[dw,cZ]at h⊢;obtain⟨u,ck,J,⟨U,ao,ba⟩,b2⟩:=h;exact⟨u,ck,J,⟨x6 x u U,ao,ba⟩,Vn sz xs ck b2⟩
end
def inObs(s:cK)(k:aH):Prop:=(look k s.b).isSome=true∨(look k s.e).isSome=true
def cz{α β:Type}(s:List (aH×β)):List (aH×α)→List (aH×α)
 |[]=>[]
 |(k,x)::r=>match look k s with
  |some _=>cz s r
  |none=>(k,x)::cz s r
theorem ur{α β:Type}(s:List (aH×β))(k:aH):∀l:List (aH×α),look k (cz s l)=if(look k s).isSome then none else look k l
 |[]=>by simp[cz,look]
 |(i,x)::r=>by
  simp only[cz];by_cases e:i=k
  ·subst e;cases h:look i s with
   |some y=>simp[ur s i r,h]
   |none=>simp[look]
  ·cases h:look i s with
   |some y=>simp[ur s k r,look,e]
   |none=>simp[look,e,ur s k r]
theorem xK{α:Type}(k:aH):∀l aZ:List (aH×α),look k (l++aZ)=match look k l with|some x=>some x|none=>look k aZ
 |[],aZ=>by simp[look]
 |(i,x)::r,aZ=>by
  by_cases e:i=k
  ·simp[look,e]
  ·simp[look,e,xK k r aZ]
def after(st:bq)(s ai:cK)(d:aY Nat)(r:ah):bq:={t:=eH d r st.t,b:=cz s.b st.b++ai.b,e:=cz s.e st.e++ai.e,n:=st.n,o:=st.o++cV ai}
section
open Classical
noncomputable def bd.join(ν bo:bd)(s ai:cK):bd:={A:=bo.A,bx:=fun k=>if(look k s.b).isSome∨(look k ai.b).isSome then bo.bx k else ν.bx k,ow:=fun k=>if(look k s.e).isSome∨(look k ai.e).isSome then bo.ow k else ν.ow k,tr:=fun k j b=>ν.tr k j b∨bo.tr k j b}
end
theorem cS.callK{C:e9}{st:bq}{a:Act}{w w':World}{ν bo:bd}(h:cS C st a w ν){s ai:cK}(ad:gC (inObs s) s.b st.b)(he:oz (inObs s) s.e st.e)(tZ:iI s)
  (a1:Good (fun bl=>fw (ν.cut (inObs s)) s bl∨w.heap.size≤bl) w' bo ai.b ai.e) {κ:aY Nat} (ae:Eh κ bo ai) (aeE:∀m,κ=some m→ν.bx (.loc m)=none∧ν.ow (.loc m)=none∧∀j b,¬ν.tr (.loc m) j b) {n':Nat} {o':List aH} (cB:∀k,fresh n' o' k→fresh st.n (st.o++cV ai) k∧∀m,κ=some m→k≠ .loc m) (sC:iI ai) (aJ:p8 ⟨w,ν.cut (inObs s),fw (ν.cut (inObs s)) s,0,cV s⟩ w' bo)
  (Jh:∀m,(look (.obj m) ai.b).isSome→(look (.obj m) s.b).isSome∨ .obj m∉st.o) (cF:∀m,(look (.obj m) ai.e).isSome→(look (.obj m) s.e).isSome∨ .obj m∉st.o) (d:aY Nat) (aP:jf C.N d=true) {r:ah} {v:Value} (aK:a8 w' bo r v):
  cS C {after st s ai d r with n:=n',o:=o'} (a.put d v) w' (ν.join bo s ai):=by
 have kW:∀k,(look k s.b).isSome→(look k st.b).isSome:=fun k ab=>by obtain⟨cs,dm⟩:=fJ.1 ab;simp[(ad k cs dm).1]
 have lq:∀k,(look k s.e).isSome→(look k st.e).isSome:=fun k ab=>by obtain⟨cs,dm⟩:=fJ.1 ab;simp[(he k cs dm).1]
 have adZ:∀k,(look k ai.b).isSome→¬(look k s.b).isSome→ν.bx k=none:=fun k ab aA=>by
  cases k with
  |loc m=>rw[sC.1 m]at ab;cases ab
  |obj m=>exact(h.new (.obj m) ⟨trivial,(Jh m ab).resolve_left aA⟩).1
 have ad0:∀k,(look k ai.e).isSome→¬(look k s.e).isSome→ν.ow k=none:=fun k ab aA=>by
  cases k with
  |loc m=>rw[sC.2 m]at ab;cases ab
  |obj m=>exact(h.new (.obj m) ⟨trivial,(cF m ab).resolve_left aA⟩).2.1
 have ae7:∀k,(look k s.b).isSome→(ν.join bo s ai).bx k=bo.bx k:=fun k ab=>by simp[bd.join,ab]
 have St:∀k,(look k ai.b).isSome→(ν.join bo s ai).bx k=bo.bx k:=fun k ab=>by simp[bd.join,ab]
 have Su:∀k,ν.bx k≠none→¬(look k s.b).isSome→(ν.join bo s ai).bx k=ν.bx k:=fun k J U=>by have ao:¬(look k ai.b).isSome:=fun ao=>J (adZ k ao U);simp[bd.join,U,ao]
 have ae8:∀k,(look k s.e).isSome→(ν.join bo s ai).ow k=bo.ow k:=fun k ab=>by simp[bd.join,ab]
 have JR:∀k,(look k ai.e).isSome→(ν.join bo s ai).ow k=bo.ow k:=fun k ab=>by simp[bd.join,ab]
 have JS:∀k,ν.ow k≠none→¬(look k s.e).isSome→(ν.join bo s ai).ow k=ν.ow k:=fun k J U=>by have ao:¬(look k ai.e).isSome:=fun ao=>J (ad0 k ao U);simp[bd.join,U,ao]
 have WT:∀k b,bo.bx k=some b→(look k ai.b).isSome:=fun k b ab=>by
  cases av:look k ai.b with
  |some _=>rfl
  |none=>rw[(ae k).1 av]at ab;cases ab
 have WU:∀k b,bo.ow k=some b→(look k ai.e).isSome:=fun k b ab=>by
  cases av:look k ai.e with
  |some _=>rfl
  |none=>rw[(ae k).2.1 av]at ab;cases ab
 have ax:k8 w ν w' (ν.join bo s ai):=by
  refine⟨fun b o bg=>aJ.keep b o bg,fun k b _ ab=>?_,fun g n u _ a1=>?_,fun b o bg=>aJ.sh b o bg,fun _ _ _ _ h=>.inl h⟩
  ·by_cases ag:(look k s.b).isSome
   ·rw[ae7 k ag];cases k with
    |loc m=>rw[tZ.1 m]at ag;cases ag
    |obj m=>exact aJ.obj m b (by rw[bd.cut_bx (.inl ag)];exact ab)
   ·rw[Su k (by rw[ab];simp) ag];exact ab
  ·by_cases ag:(look g s.e).isSome
   ·rw[ae8 g ag];cases g with
    |loc m=>rw[tZ.2 m]at ag;cases ag
    |obj m=>exact aJ.row m n u (by rw[bd.cut_ow (.inr ag)];exact a1)
   ·rw[JS g (by rw[a1];simp) ag];exact⟨n,u,a1,.inl ⟨rfl,rfl⟩⟩
 have hK:k8 w' bo w' (ν.join bo s ai):=⟨fun b o bg=>⟨bg,rfl⟩,fun k b _ ab=>by rw[St k (WT k b ab)];exact ab,fun g n u _ ab=>⟨n,u,by rw[JR g (WU g _ ab)];exact ab,.inl ⟨rfl,rfl⟩⟩,fun _ _ _=>rfl,fun _ _ _ _ h=>.inr h⟩
 have qn:∀bl,fw (ν.cut (inObs s)) s bl→C.pr bl∧bl<w.heap.size:=by
  intro bl e5;rcases e5 with⟨k,J,U⟩|⟨g,n,u,J,U,ao⟩
  ·have ba:=(bd.cut_some U).2;obtain⟨cs,dm⟩:=fJ.1 (kW k J);obtain⟨ie,us,el,g1,g2,_⟩:=h.good.box k cs dm;rw[ba]at g1;cases g1;exact⟨g2,h.good.boxLt dm ba⟩
  ·have ba:=(bd.cut_someO U).2;obtain⟨o,EP⟩:=fJ.1 (lq g J);obtain⟨v',us,g1,g2,g3,_⟩:=h.good.own g o EP;rw[ba]at g1;cases g1;exact⟨(g3 bl ao).1,h.good.ownLt EP ba ao⟩
 have RU:∀bl,fw (ν.cut (inObs s)) s bl∨w.heap.size≤bl→C.pr bl:=fun bl e5=>by
  rcases e5 with e5|e5
  ·exact(qn bl e5).1
  ·exact .inr (j8 h.fr.size e5)
 have aem:∀k cs bl,look k st.b=some cs→¬(look k s.b).isSome→ν.bx k=some bl→¬fw (ν.cut (inObs s)) s bl:=by
  intro k cs bl J U ao ba;rcases ba with⟨bK,bC,a2⟩|⟨g,n,u,bC,a2,a3⟩
  ·have:=h.good.inj k bK bl (by simp[J]) (kW bK bC) ao (bd.cut_some a2).2;subst this;exact U bC
  ·exact h.good.obx g k n u bl (lq g bC) (by simp[J]) (bd.cut_someO a2).2 a3 ao
 have aen:∀g o n u bl,look g st.e=some o→¬(look g s.e).isSome→ν.ow g=some (n,u)→u.ownBlock=some bl→¬fw (ν.cut (inObs s)) s bl:=by
  intro g o n u bl J U ao ba b2;rcases b2 with⟨bK,bC,a2⟩|⟨fa,n',e1,bC,a2,a3⟩
  ·exact h.good.obx g bK n u bl (by simp[J]) (kW bK bC) ao ba (bd.cut_some a2).2
  ·have:=h.good.oinj g fa n n' u e1 bl (by simp[J]) (lq fa bC) ao (bd.cut_someO a2).2 ba a3;subst this;exact U bC
 have PB:∀k cs,look k (cz s.b st.b++ai.b)=some cs→(¬(look k s.b).isSome∧look k st.b=some cs)∨look k ai.b=some cs:=by
  intro k cs ab;rw[xK,ur]at ab;by_cases ag:(look k s.b).isSome
  ·simp only[ag,if_true]at ab;exact .inr ab
  ·simp only[ag]at ab;cases av:look k st.b with
   |some x=>simp[av]at ab;subst ab;exact .inl ⟨ag,rfl⟩
   |none=>simp[av]at ab;exact .inr ab
 have PC:∀k cs,look k (cz s.e st.e++ai.e)=some cs→(¬(look k s.e).isSome∧look k st.e=some cs)∨look k ai.e=some cs:=by
  intro k cs ab;rw[xK,ur]at ab;by_cases ag:(look k s.e).isSome
  ·simp only[ag,if_true]at ab;exact .inr ab
  ·simp only[ag]at ab;cases av:look k st.e with
   |some x=>simp[av]at ab;subst ab;exact .inl ⟨ag,rfl⟩
   |none=>simp[av]at ab;exact .inr ab
 have Ap:∀bl,fw (ν.cut (inObs s)) s bl∨w.heap.size≤bl→∀ie,ie<w.heap.size→¬fw (ν.cut (inObs s)) s ie→bl≠ie:=by
  intro bl J ie U ao e;subst e;rcases J with J|J
  ·exact ao J
  ·omega
 have JW:∀bl,bl<w.heap.size→¬fw (ν.cut (inObs s)) s bl→w'.heap[bl]? =w.heap[bl]?:=fun bl J U=>aJ.block bl J U;have isB:∀k bl,(look k (cz s.b st.b++ai.b)).isSome→(ν.join bo s ai).bx k=some bl→(¬(look k s.b).isSome∧(look k st.b).isSome∧ν.bx k=some bl)∨((look k ai.b).isSome∧bo.bx k=some bl):=by
  intro k bl ab lg;obtain⟨cs,dm⟩:=fJ.1 ab;rcases PB k cs dm with⟨J,U⟩|J
  ·obtain⟨ie,us,el,g1,_⟩:=h.good.box k cs U;rw[Su k (by rw[g1];simp) J]at lg;exact .inl ⟨J,by simp[U],lg⟩
  ·rw[St k (by simp[J])]at lg;exact .inr ⟨by simp[J],lg⟩
 have E9:∀k x,(look k (cz s.e st.e++ai.e)).isSome→(ν.join bo s ai).ow k=some x→(¬(look k s.e).isSome∧(look k st.e).isSome∧ν.ow k=some x)∨((look k ai.e).isSome∧bo.ow k=some x):=by
  intro k x ab lg;obtain⟨cs,dm⟩:=fJ.1 ab;rcases PC k cs dm with⟨J,U⟩|J
  ·obtain⟨v',us,g1,_⟩:=h.good.own k cs U;rw[JS k (by rw[g1];simp) J]at lg;exact .inl ⟨J,by simp[U],lg⟩
  ·rw[JR k (by simp[J])]at lg;exact .inr ⟨by simp[J],lg⟩
 have AY:∀k bl,¬(look k s.b).isSome→(look k st.b).isSome→ν.bx k=some bl→bl<w.heap.size∧¬fw (ν.cut (inObs s)) s bl:=by intro k bl J U ao;obtain⟨cs,dm⟩:=fJ.1 U;exact⟨h.good.boxLt dm ao,aem k cs bl dm J ao⟩
 have x8:∀k n u bl,¬(look k s.e).isSome→(look k st.e).isSome→ν.ow k=some (n,u)→u.ownBlock=some bl→bl<w.heap.size∧¬fw (ν.cut (inObs s)) s bl:=by intro k n u bl J U ao ba;obtain⟨cs,dm⟩:=fJ.1 U;exact⟨h.good.ownLt dm ao ba,aen k cs n u bl dm J ao ba⟩
 have DN:∀k bl,(look k ai.b).isSome→bo.bx k=some bl→fw (ν.cut (inObs s)) s bl∨w.heap.size≤bl:=by intro k bl J U;obtain⟨cs,dm⟩:=fJ.1 J;obtain⟨ie,us,el,g1,g2,_⟩:=a1.box k cs dm;rw[U]at g1;cases g1;exact g2
 have Gs:∀k n u bl,(look k ai.e).isSome→bo.ow k=some (n,u)→u.ownBlock=some bl→fw (ν.cut (inObs s)) s bl∨w.heap.size≤bl:=by intro k n u bl J U ao;obtain⟨cs,dm⟩:=fJ.1 J;obtain⟨v',us,g1,g2,g3,_⟩:=a1.own k cs dm;rw[U]at g1;cases g1;exact(g3 bl ao).1
 have bg:∀bl o,bo.A bl o→bl<w.heap.size→¬fw (ν.cut (inObs s)) s bl→ν.A bl o:=by
  intro bl o J U ao;rcases aJ.fresh bl o J with ba|ba|ba
  ·exact ba
  ·exact absurd ba ao
  ·simp only at ba;omega
 have pH:cS C {t:=st.t,b:=cz s.b st.b++ai.b,e:=cz s.e st.e++ai.e,n:=n',o:=o'} a w' (ν.join bo s ai):=by
  refine h.over ax rfl ⟨a1.alt,fun k cs ab=>?_,fun k bK bl J U ao ba=>?_,fun g o dU=>?_,fun g fa n n' u e1 bl J U ao ba b2 c7=>?_,fun g k n u bl J U ao ba b2=>?_,fun k=>?_,fun bl aO k j ls=>?_⟩
   ⟨aJ.os.trans h.fr.os,aJ.tape.trans h.fr.tape,aJ.output.trans h.fr.output,j8 h.fr.size aJ.size,fun k ab hm=>?_,fun b o q7=>?_,fun b o q7=>?_,fun n b aA=>ax.bx _ _ trivial (h.fr.obj n b aA),h.fr.obn,
    fun m n u hm=>C1 (h.fr.row m n u hm) (fun n u=>ax.ow _ n u trivial),h.fr.obr,fun k j bK dx b J U=>?_,fun k j b ad=>?_,fun k j b ad=>?_,fun b o bg=>(ax.sh b o (h.fr.keep b o bg).1).trans (h.fr.sh b o bg)⟩ (fun k ab=>?_)
  ·rcases PB k cs ab with⟨J,U⟩|J
   ·obtain⟨bl,us,el,g1,g2,g3,g4,g5⟩:=h.good.box k cs U;obtain⟨ch,b6⟩:=AY k bl J (by simp[U]) g1;exact⟨bl,us,el,ax.bx _ _ trivial g1,g2,fun o q7=>g3 o (bg bl o q7 ch b6),by rw[JW bl ch b6];exact g4,pX ax g5⟩
   ·obtain⟨bl,us,el,g1,g2,g3,g4,g5⟩:=a1.box k cs J;exact⟨bl,us,el,hK.bx _ _ trivial g1,RU bl g2,g3,g4,pX hK g5⟩
  ·rcases isB k bl J ao with⟨bC,a2,a3⟩|⟨bC,a2⟩<;>rcases isB bK bl U ba with⟨ch,b6,fC⟩|⟨ch,b6⟩
   ·exact h.good.inj k bK bl a2 b6 a3 fC
   ·obtain⟨bH,cl⟩:=AY k bl bC a2 a3;exact absurd rfl (Ap bl (DN bK bl ch b6) bl bH cl)
   ·obtain⟨bH,cl⟩:=AY bK bl ch b6 fC;exact absurd rfl (Ap bl (DN k bl bC a2) bl bH cl)
   ·exact a1.inj k bK bl bC ch a2 b6
  ·rcases PC g o dU with⟨J,U⟩|J
   ·obtain⟨u,us,g1,g2,g3,g4⟩:=h.good.own g o U;refine⟨u,us,by rw[JS g (by rw[g1];simp) J];exact g1,⟨g2.1,?_⟩,fun bl e5=>?_,rO ax (fun bl e5 j q7=>?_) g4⟩
    ·rcases g2.2 with aC|⟨bb,cap,cur,f1,f2,f3,f4⟩
     ·exact .inl aC
     ·obtain⟨ch,b6⟩:=x8 g _ u bb J (by simp[U]) g1 (by rw[f1];rfl);exact .inr ⟨bb,cap,cur,f1,f2,by rw[JW bb ch b6];exact f3,f4⟩
    ·obtain⟨ch,b6⟩:=x8 g _ u bl J (by simp[U]) g1 e5;exact⟨(g3 bl e5).1,fun j q7=>(g3 bl e5).2 j (bg bl j q7 ch b6)⟩
    ·obtain⟨ch,b6⟩:=x8 g _ u bl J (by simp[U]) g1 e5;exact bg bl j q7 ch b6
   ·obtain⟨u,us,g1,g2,g3,g4⟩:=a1.own g o J;exact⟨u,us,by rw[JR g (by simp[J])];exact g1,g2,fun bl e5=>⟨RU bl (g3 bl e5).1,(g3 bl e5).2⟩,rO hK (fun _ _ _ h=>h) g4⟩
  ·rcases E9 g _ J ao with⟨bC,a2,a3⟩|⟨bC,a2⟩<;>rcases E9 fa _ U ba with⟨ch,b6,fC⟩|⟨ch,b6⟩
   ·exact h.good.oinj g fa n n' u e1 bl a2 b6 a3 fC b2 c7
   ·obtain⟨bH,cl⟩:=x8 g n u bl bC a2 a3 b2;exact absurd rfl (Ap bl (Gs fa n' e1 bl ch b6 c7) bl bH cl)
   ·obtain⟨bH,cl⟩:=x8 fa n' e1 bl ch b6 fC c7;exact absurd rfl (Ap bl (Gs g n u bl bC a2 b2) bl bH cl)
   ·exact a1.oinj g fa n n' u e1 bl bC ch a2 b6 b2 c7
  ·rcases E9 g _ J ao with⟨bC,a2,a3⟩|⟨bC,a2⟩<;>rcases isB k bl U b2 with⟨ch,b6,fC⟩|⟨ch,b6⟩
   ·exact h.good.obx g k n u bl a2 b6 a3 ba fC
   ·obtain⟨bH,cl⟩:=x8 g n u bl bC a2 a3 ba;exact absurd rfl (Ap bl (DN k bl ch b6) bl bH cl)
   ·obtain⟨bH,cl⟩:=AY k bl ch b6 fC;exact absurd rfl (Ap bl (Gs g n u bl bC a2 ba) bl bH cl)
   ·exact a1.obx g k n u bl bC ch a2 ba b6
  ·
   cases lg:(ν.join bo s ai).bx k with
   |none=>exact .inl rfl
   |some bl=>
    right;cases BQ:(ν.join bo s ai).ow k with
    |none=>rfl
    |some x=>
     exfalso;have ak:(ν.bx k=some bl∧¬(look k s.b).isSome∧¬(look k ai.b).isSome)∨bo.bx k=some bl:=by
      by_cases ag:(look k s.b).isSome∨(look k ai.b).isSome
      ·right;simpa[bd.join,ag]using lg
      ·left;simp only[not_or]at ag;exact⟨by simpa[bd.join,ag.1,ag.2]using lg,ag.1,ag.2⟩
     have aC:(ν.ow k=some x∧¬(look k s.e).isSome∧¬(look k ai.e).isSome)∨bo.ow k=some x:=by
      by_cases ag:(look k s.e).isSome∨(look k ai.e).isSome
      ·right;simpa[bd.join,ag]using BQ
      ·left;simp only[not_or]at ag;exact⟨by simpa[bd.join,ag.1,ag.2]using BQ,ag.1,ag.2⟩
     rcases ak with⟨bC,a2,a3⟩|bC<;>rcases aC with⟨ch,b6,fC⟩|ch
     ·rcases h.good.one k with cu|cu
      ·rw[cu]at bC;cases bC
      ·rw[cu]at ch;cases ch
     ·have tX:=WU k x ch;have e6:(look k s.e).isSome:=by
       cases k with
       |loc m=>rw[sC.2 m]at tX;cases tX
       |obj m=>
        rcases cF m tX with cu|cu
        ·exact cu
        ·rw[(h.new (.obj m) ⟨trivial,cu⟩).1]at bC;cases bC
      obtain⟨o,EP⟩:=fJ.1 (lq k e6);obtain⟨v',us,g1,_⟩:=h.good.own k o EP;rcases h.good.one k with cu|cu
      ·rw[cu]at bC;cases bC
      ·rw[cu]at g1;cases g1
     ·have pF:=WT k bl bC;have e6:(look k s.b).isSome:=by
       cases k with
       |loc m=>rw[sC.1 m]at pF;cases pF
       |obj m=>
        rcases Jh m pF with cu|cu
        ·exact cu
        ·rw[(h.new (.obj m) ⟨trivial,cu⟩).2.1]at ch;cases ch
      obtain⟨cs,dm⟩:=fJ.1 (kW k e6);obtain⟨ie,us,el,g1,_⟩:=h.good.box k cs dm;rcases h.good.one k with cu|cu
      ·rw[cu]at g1;cases g1
      ·rw[cu]at ch;cases ch
     ·rcases a1.one k with cu|cu
      ·rw[cu]at bC;cases bC
      ·rw[cu]at ch;cases ch
  ·have RJ:∀k j,bo.tr k j bl→w.heap.size≤bl:=fun k j cu=>by
    rcases(aJ.trb k j bl cu).1 with a2|a2
    ·obtain⟨m,_,hm⟩:=(ae k).2.2 j bl cu;rw[hm]at a2;cases a2
    ·exact a2
   have hold:fw (ν.cut (inObs s)) s bl→¬ν.tr k j bl:=by
    rintro(⟨bK,bC,a2⟩|⟨g,n,u,bC,a2,a3⟩) cu
    ·exact h.good.otr bl (.inl ⟨bK,kW bK bC,(bd.cut_some a2).2⟩) k j cu
    ·exact h.good.otr bl (.inr ⟨g,n,u,lq g bC,(bd.cut_someO a2).2,a3⟩) k j cu
   have kk:fw (ν.cut (inObs s)) s bl∨w.heap.size≤bl→¬ν.tr k j bl:=by
    rintro(J|J) cu
    ·exact hold J cu
    ·have:=(h.fr.trb k j bl cu).2;omega
   rcases aO with⟨bK,bC,a2⟩|⟨g,n,u,bC,a2,a3⟩
   ·rcases isB bK bl bC a2 with⟨ch,b6,fC⟩|⟨ch,b6⟩
    ·rcases ls with ls|ls
     ·exact h.good.otr bl (.inl ⟨bK,b6,fC⟩) k j ls
     ·have:=(AY bK bl ch b6 fC).1;have:=RJ k j ls;omega
    ·rcases ls with ls|ls
     ·exact kk (DN bK bl ch b6) ls
     ·exact a1.otr bl (.inl ⟨bK,ch,b6⟩) k j ls
   ·rcases E9 g _ bC a2 with⟨ch,b6,fC⟩|⟨ch,b6⟩
    ·rcases ls with ls|ls
     ·exact h.good.otr bl (.inr ⟨g,n,u,b6,fC,a3⟩) k j ls
     ·have:=(x8 g n u bl ch b6 fC a3).1;have:=RJ k j ls;omega
    ·rcases ls with ls|ls
     ·exact kk (Gs g n u bl ch b6 a3) ls
     ·exact a1.otr bl (.inr ⟨g,n,u,ch,b6,a3⟩) k j ls
  ·have bD:k<w.heap.size:=Nat.lt_of_lt_of_le ab h.fr.size;rw[JW k bD fun e5=>by
    rcases(qn k e5).1 with J|J
    ·exact hm J
    ·omega]
   exact h.fr.block k ab hm
  ·obtain⟨aU,bG⟩:=h.fr.keep b o q7;obtain⟨b9,eV⟩:=aJ.keep b o aU;exact⟨b9,eV.trans bG⟩
  ·rcases aJ.fresh b o q7 with ba|ba|ba
   ·exact h.fr.fresh b o ba
   ·exact .inr (qn b ba).1
   ·exact .inr (.inr (j8 h.fr.size ba))
  ·rcases J with J|J<;>rcases U with U|U
   ·exact h.fr.trd k j bK dx b J U
   ·have bC:=(h.fr.trb k j b J).2;have a2:=(aJ.trb bK dx b U).1;rcases a2 with a2|a2
    ·obtain⟨m,_,hm⟩:=(ae bK).2.2 dx b U;rw[hm]at a2;cases a2
    ·simp only at a2;omega
   ·have bC:=(h.fr.trb bK dx b U).2;have a2:=(aJ.trb k j b J).1;rcases a2 with a2|a2
    ·obtain⟨m,_,hm⟩:=(ae k).2.2 j b J;rw[hm]at a2;cases a2
    ·simp only at a2;omega
   ·exact aJ.trd k j bK dx b J U
  ·rcases ad with ad|ad
   ·exact⟨(h.fr.trb k j b ad).1,Nat.lt_of_lt_of_le (h.fr.trb k j b ad).2 aJ.size⟩
   ·refine⟨.inr ?_,(aJ.trb k j b ad).2⟩;rcases(aJ.trb k j b ad).1 with a2|a2
    ·obtain⟨m,_,hm⟩:=(ae k).2.2 j b ad;rw[hm]at a2;cases a2
    ·exact j8 h.fr.size a2
  ·have key:ν.bx k=none∧ν.ow k=none∧¬(look k ai.b).isSome∧¬(look k ai.e).isSome:=by
    rcases ad with ad|ad
    ·obtain⟨t1,t2⟩:=h.fr.trn k j b ad;refine⟨t1,t2,fun cu=>?_,fun cu=>?_⟩
     ·cases k with
      |loc m=>rw[sC.1 m]at cu;cases cu
      |obj m=>
       rcases Jh m cu with b2|b2
       ·obtain⟨cs,dm⟩:=fJ.1 (kW _ b2);obtain⟨ie,us,el,g1,_⟩:=h.good.box _ cs dm;rw[t1]at g1;cases g1
       ·exact(h.new (.obj m) ⟨trivial,b2⟩).2.2 j b ad
     ·cases k with
      |loc m=>rw[sC.2 m]at cu;cases cu
      |obj m=>
       rcases cF m cu with b2|b2
       ·obtain⟨cs,dm⟩:=fJ.1 (lq _ b2);obtain⟨ie,us,g1,_⟩:=h.good.own _ cs dm;rw[t2]at g1;cases g1
       ·exact(h.new (.obj m) ⟨trivial,b2⟩).2.2 j b ad
    ·obtain⟨m,hm,rfl⟩:=(ae k).2.2 j b ad;obtain⟨t1,t2,_⟩:=aeE m hm;exact⟨t1,t2,by simp[sC.1 m],by simp[sC.2 m]⟩
   obtain⟨t1,t2,t3,t4⟩:=key;have t5:¬(look k s.b).isSome:=fun cu=>by obtain⟨cs,dm⟩:=fJ.1 (kW _ cu);obtain⟨ie,us,el,g1,_⟩:=h.good.box _ cs dm;rw[t1]at g1;cases g1
   have t6:¬(look k s.e).isSome:=fun cu=>by obtain⟨cs,dm⟩:=fJ.1 (lq _ cu);obtain⟨ie,us,g1,_⟩:=h.good.own _ cs dm;rw[t2]at g1;cases g1
   exact⟨by simp[bd.join,t3,t5,t1],by simp[bd.join,t4,t6,t2]⟩
  ·
   simp only at ab;obtain⟨ab,adH⟩:=cB k ab;have RO:(∀j b,¬ν.tr k j b)→∀j b,¬(ν.join bo s ai).tr k j b:=fun J j b ad=>by
    rcases ad with ad|ad
    ·exact J j b ad
    ·obtain⟨m,hm,e⟩:=(ae k).2.2 j b ad;exact adH m hm e
   cases k with
   |loc m=>obtain⟨hW,gf,iX⟩:=h.new (.loc m) (IA (eR _) (fun _ h=>List.mem_append_left _ h) ab);exact⟨by simp[bd.join,tZ.1 m,sC.1 m,hW],by simp[bd.join,tZ.2 m,sC.2 m,gf],RO iX⟩
   |obj m=>
    simp only[fresh,ky,not_or,true_and]at ab;obtain⟨hW,gf,iX⟩:=h.new (.obj m) ⟨trivial,ab.1⟩;have a6:¬(look (.obj m) ai.b).isSome:=fun cu=>ab.2 (sT (.inl cu));have bE:¬(look (.obj m) ai.e).isSome:=fun cu=>ab.2 (sT (.inr cu));have bX:¬(look (.obj m) s.b).isSome:=fun cu=>by obtain⟨cs,dm⟩:=fJ.1 (kW _ cu);obtain⟨ie,us,el,g1,_⟩:=h.good.box _ cs dm;rw[hW]at g1;cases g1
    have cX:¬(look (.obj m) s.e).isSome:=fun cu=>by obtain⟨cs,dm⟩:=fJ.1 (lq _ cu);obtain⟨v',us,g1,_⟩:=h.good.own _ cs dm;rw[gf]at g1;cases g1
    exact⟨by simp[bd.join,a6,bX,hW],by simp[bd.join,bE,cX,gf],RO iX⟩
 exact pH.put aP (x5 hK aK)
inductive ee where
 |s (i:ei)
 |call (d:aY Nat) (f:dn) (xs:List dn)
 |next (d:Nat) (x:dn)
structure c4 where
 g:aY (Nat×Bool)
 i:ee
def ei.dst:ei→aY Nat
 | .v d _| .box d _ _| .alloc d _ _| .bsl d _ _ _| .app d _ _ _ _| .bslm d _ _ _ _| .appm d _ _ _ _ _| .mkmap d _| .range d _ _| .mks d _ _ _ _ _=>some d
 | .store _ _ _| .mput _ _ _ _| .storeE _ _ _=>none
def ee.dst:ee→aY Nat
 | .s i=>i.dst
 | .call d _ _=>d
 | .next d _=>some d
def c6(P:cD)(n:Nat)(args:List ah)(st:bq)(d:aY Nat)(K:bq→Prop):Prop:=
 (∃s Q,gC (inObs s) s.b st.b∧oz (inObs s) s.e st.e∧iI s∧aI (inObs s) args∧bN P n args s Q∧
  ∀r ai,Q r ai→((∀m,(look (.obj m) ai.b).isSome→(look (.obj m) s.b).isSome∨ .obj m∉st.o)∧(∀m,(look (.obj m) ai.e).isSome→(look (.obj m) s.e).isSome∨ .obj m∉st.o))∧K (after st s ai d r))∨
 (∃s Q,gC (inObs s) s.b st.b∧oz (inObs s) s.e st.e∧iI s∧aI (inObs s) args∧ .loc st.n∉st.o∧G1 P n st.n args s Q∧
  ∀r ai,Q r ai→((∀m,(look (.obj m) ai.b).isSome→(look (.obj m) s.b).isSome∨ .obj m∉st.o)∧(∀m,(look (.obj m) ai.e).isSome→(look (.obj m) s.e).isSome∨ .obj m∉st.o))∧K {after st s ai d r with n:=st.n+1})
def Ky(st:bq)(d:Nat)(ff mk:aH)(since:Nat)(seen:List Nat)(last clock:Nat)(borns:List Nat)(kvs:List ah)(K:bq→Prop):Prop:=
 (since=clock∧last=clock)∧((∀b∈borns,b∈seen)→K {st with t:=put d (.tuple [.bool false]) st.t})∧
 (∀b k v,mu b borns kvs=some (.tuple [k,v])→b∉seen→K {st with t:=put d (.tuple [.bool true,k,v]) st.t,b:=cA ff [.hdi since (seen++[b]) last,.gmap mk] st.b})
def sl(st:bq)(d:Nat)(v:ah)(K:bq→Prop):Prop:=
 match v with
 | .ptr ff 0=>match look ff st.b with
  |some [.hdi since seen last,.gmap mk]=>match look mk st.b with
   |some (.hdm clock borns::kvs)=>Ky st d ff mk since seen last clock borns kvs K
   |_=>eK
  |_=>eK
 |_=>eK
def tF(P:cD)(st:bq)(K:bq→Prop):ee→Prop
 | .next d x=>sl st d (cp st.t x) K
 | .s i=>match lW st i with
  |some (c,st')=>c∧K st'
  |none=>eK
 | .call d f xs=>match cp st.t f with
  | .func n dj=>c6 P n (cZ (xs.map (cp st.t)++dj)) st d K
  |_=>eK
def hS(P:cD):List c4→bq→(bq→Prop)→Prop
 |[],st,K=>K st
 |⟨none,i⟩::r,st,K=>tF P st (fun st'=>hS P r st' K) i
 |⟨some (s,want),i⟩::r,st,K=>match get s st.t with
  | .bool b=>(b=want→tF P {st with t:=put s (.bool want) st.t} (fun st'=>hS P r st' K) i)∧(b= !want→hS P r {st with t:=eH i.dst (.tuple []) (put s (.bool !want) st.t)} K)
  | .tuple []=>hS P r {st with t:=eH i.dst (.tuple []) st.t} K
  |_=>eK
def uC(N:Nat)(bB:List (Nat×dA))(i:ee)(o:Oper):Bool:=
 match i with
 | .s i=>C3 N bB i o
 | .next d x=>match o.op with
  | .next it false=>o.dst==some d&&decide (d<N)&&eg x it
  |_=>false
 | .call d f xs=>match o.op with
  | .call ⟨.value q0,args,_⟩=>o.dst==d&&jf N d&&eg f q0&&xV xs args.toList
  |_=>false
def Bk(N:Nat)(bB:List (Nat×dA))(ops:List Oper)(g:c4)(o:Oper):Bool:=
 (match g.g,o.guard with
  |none,none=>true
  |some (s,b),some (j,b1)=>b==b1&&((ops[j]?).bind (·.dst))==some s&&decide (s<N)&&o.dst==g.i.dst&&jf N g.i.dst
  |_,_=>false)&&uC N bB g.i o
def kg(N:Nat)(bB:List (Nat×dA))(ops:List Oper):List c4→List Oper→Bool
 |[],[]=>true
 |g::gs,o::os=>Bk N bB ops g o&&kg N bB ops gs os
 |_,_=>false
theorem Vs{w:World}{ν:bd}:∀{cv bM:List ah} {bc us:List Value},cP w ν cv bc→cP w ν bM us→cP w ν (cv++bM) (bc++us)
 |[],bM,bc,us,h,ca=>by simp only[cP]at h;subst h;simpa using ca
 |p::cv,bM,bc,us,h,ca=>by simp only[cP]at h;obtain⟨u,ck,rfl,J,U⟩:=h;simp only[bV,cP];exact⟨u,_,rfl,J,Vs U ca⟩
theorem wA.mono{P:cD}{f:FuncId}{bc:Array Value}{w:World}{R MS:Ending→World→Prop}(h:wA P f bc w R)(bf:∀e w',R e w'→MS e w'):wA P f bc w MS:=by
 rcases h with⟨J,U⟩|⟨v,w',J,U⟩
 ·exact .inl ⟨J,U.mono bf⟩
 ·exact .inr ⟨v,w',J,bf _ _ U⟩
theorem Pz{P:cD}{C:e9}{st:bq}{a:Act}{w:World}{ν:bd}(aK:cS C st a w ν){o:Oper}{q0:Operand}{args:Array Operand}{Aw:Array fR}(mS:o.op= .call ⟨.value q0,args,Aw⟩){d:aY Nat}(aP:o.dst=d)(xd:jf C.N d=true)
  {n:Nat} {dj:List ah} (aJ:a8 w ν (.func n dj) (a.eval q0)) {cv:List ah} (tN:cP w ν cv (args.toList.map a.eval)) {K:bq→Prop}
  (au:∃(s:cK) (qa:ah→cK→Prop) (κ:aY Nat) (n':Nat) (o':cK→List aH),gC (inObs s) s.b st.b∧oz (inObs s) s.e st.e∧iI s∧aI (inObs s) (cZ (cv++dj))∧(∀(w:World) (ν:bd) (bc:Array Value),Good (fw ν s) w ν s.b s.e→oV ν s→cP w ν (cZ (cv++dj)) bc.toList→
   wA P n bc w fun e w'=> ∃v r ai bo,e= .returned v∧qa r ai∧a8 w' bo r v∧Good (fun bl=>fw ν s bl∨w.heap.size≤bl) w' bo ai.b ai.e∧Eh κ bo ai∧iI ai∧p8 ⟨w,ν,fw ν s,0,cV s⟩ w' bo)∧
   (∀m,κ=some m→fresh st.n st.o (.loc m))∧(∀k r ai,qa r ai→fresh n' (o' ai) k→fresh st.n (st.o++cV ai) k∧∀m,κ=some m→k≠ .loc m)∧
   ∀r ai,qa r ai→((∀m,(look (.obj m) ai.b).isSome→(look (.obj m) s.b).isSome∨ .obj m∉st.o)∧(∀m,(look (.obj m) ai.e).isSome→(look (.obj m) s.e).isSome∨ .obj m∉st.o))∧K {after st s ai d r with n:=n',o:=o' ai})
  {qQ:Act→World→Prop} {Q:Exit→Act→World→Prop} (c1:∀st' bn w' bo,K st'→cS C st' bn w' bo→qQ bn w'):o.wp P a w qQ Q:=by
 obtain⟨s,qa,κ,n',o',bH,cl,c9,ig,lJ,PR,PK,oO⟩:=au;simp only[a8]at aJ;obtain⟨us,aG,hu⟩:=aJ;have mf:cP w (ν.cut (inObs s)) (cZ (cv++dj)) ((args.map a.eval)++us).toList:=by refine x4 (oK.cut _ w ν) _ _ ig (Gq _ _ ?_);simpa using Vs tN hu
 have rh:Good (fw (ν.cut (inObs s)) s) w (ν.cut (inObs s)) s.b s.e:=aK.good.cut bH cl (fun bl _ h=>h);have hex:oV (ν.cut (inObs s)) s:=by
  intro k;refine⟨?_,?_,?_⟩;rotate_left 2
  ·rintro j b ⟨ag,ad⟩;obtain⟨t1,t2⟩:=aK.fr.trn k j b ad;rcases ag with ag|ag<;>obtain⟨x,ae⟩:=fJ.1 ag
   ·obtain⟨bl,ck,el,ak,_⟩:=aK.good.box k x (bH k x ae).1;rw[t1]at ak;cases ak
   ·obtain⟨v',ck,ak,_⟩:=aK.good.own k x (cl k x ae).1;rw[t2]at ak;cases ak
  ·intro av;by_cases ag:inObs s k
   ·rw[bd.cut_bx ag];rcases ag with ag|ag
    ·rw[av]at ag;cases ag
    ·obtain⟨x,ae⟩:=fJ.1 ag;obtain⟨v',ck,ak,_⟩:=aK.good.own k x (cl k x ae).1;rcases aK.good.one k with J|J
     ·exact J
     ·rw[J]at ak;cases ak
   ·exact(bd.cut_no ag).1
  ·intro av;by_cases ag:inObs s k
   ·rw[bd.cut_ow ag];rcases ag with ag|ag
    ·obtain⟨x,ae⟩:=fJ.1 ag;obtain⟨bl,ck,el,ak,_⟩:=aK.good.box k x (bH k x ae).1;rcases aK.good.one k with J|J
     ·rw[J]at ak;cases ak
     ·exact J
    ·rw[av]at ag;cases ag
   ·exact(bd.cut_no ag).2.1
 rcases lJ w (ν.cut (inObs s)) ((args.map a.eval)++us) rh hex mf with⟨⟨fn,g1,g2,g3⟩,lJ⟩|⟨v,w',lJ,bI⟩
 ·obtain⟨code,adf⟩:=fJ.1 g2;have iF:(execOp a.eval o).run P w= .ok (.enter n ((args.map a.eval)++us)) w:=by obtain⟨dst,op,ty,pos,MZ,ve⟩:=o;simp only at mS;subst mS;simp only[execOp,resolve,aG,Deferred.ofValue,fE,gu,fI,invoke,callFunc,run_program,g1,g3,adf];simp
  unfold Oper.wp;rw[iF];simp only[Oper.upon];refine lJ.mono fun e w' bI=>?_;obtain⟨v,r,ai,bo,rfl,br,a6,bE,bX,cX,c8⟩:=bI;obtain⟨⟨hW,gf⟩,ab⟩:=oO r ai br;rw[aP];exact c1 _ _ _ _ ab (aK.callK bH cl c9 bE bX (fun m hm=>aK.new _ (PR m hm)) (n':=n') (o':=o' ai) (fun k ab=>PK k r ai br ab) cX c8 hW gf d xd a6)
 ·have iF:(execOp a.eval o).run P w= .ok (.value v) w':=by obtain⟨dst,op,ty,pos,MZ,ve⟩:=o;simp only at mS;subst mS;simp only[execOp,resolve,aG,Deferred.ofValue,fE,gu,fI,invoke];simpa using lJ
  obtain⟨v2,r,ai,bo,B2,br,a6,bE,bX,cX,c8⟩:=bI;cases B2;obtain⟨⟨hW,gf⟩,ab⟩:=oO r ai br;refine lZ iF ?_;rw[aP];exact c1 _ _ _ _ ab (aK.callK bH cl c9 bE bX (fun m hm=>aK.new _ (PR m hm)) (n':=n') (o':=o' ai) (fun k ab=>PK k r ai br ab) cX c8 hW gf d xd a6)
theorem Py{P:cD}{C:e9}{st:bq}{a:Act}{w:World}{ν:bd}(aK:cS C st a w ν){o:Oper}{q0:Operand}{args:Array Operand}{Aw:Array fR}(mS:o.op= .call ⟨.value q0,args,Aw⟩){d:aY Nat}(aP:o.dst=d)(xd:jf C.N d=true)
  {n:Nat} {dj:List ah} (aJ:a8 w ν (.func n dj) (a.eval q0)) {cv:List ah} (tN:cP w ν cv (args.toList.map a.eval)) {K:bq→Prop} (au:c6 P n (cZ (cv++dj)) st d K)
  {qQ:Act→World→Prop} {Q:Exit→Act→World→Prop} (c1:∀st' bn w' bo,K st'→cS C st' bn w' bo→qQ bn w'):o.wp P a w qQ Q:=by
 refine Pz aK mS aP xd aJ tN (K:=K) ?_ c1;rcases au with⟨s,qa,bH,cl,c9,ig,lJ,oO⟩|⟨s,qa,bH,cl,c9,ig,iz,lJ,oO⟩
 ·refine⟨s,qa,none,st.n,fun ai=>st.o++cV ai,bH,cl,c9,ig,fun w ν bc J U ao=>(lJ w ν bc J U ao).mono fun e w' bI=>?_,fun m hm=>(by cases hm),fun k _ ai _ ab=>⟨ab,fun m hm=>by cases hm⟩,oO⟩;obtain⟨v,r,ai,bo,g1,g2,g3,g4,g5,g6⟩:=bI;exact⟨v,r,ai,bo,g1,g2,g3,g4,g5.k,g6⟩
 ·refine⟨s,qa,some st.n,st.n+1,fun ai=>st.o++cV ai,bH,cl,c9,ig,lJ,fun m hm=>(by cases hm;exact⟨eR _,iz⟩),fun k _ ai _ ab=>⟨IA (Nat.le_succ _) (fun _ h=>h) ab,fun m hm=>?_⟩,oO⟩;cases hm;rintro rfl;have:=ab.1;simp only at this;omega
theorem cS.drawn{C:e9}{st:bq}{a:Act}{w:World}{ν:bd}(aK:cS C st a w ν)(n:Nat):cS C st a {w with drawn:=n} ν:=by
 have kF:k8 w ν {w with drawn:=n} ν:=⟨fun _ _ h=>⟨h,rfl⟩,fun _ _ _ h=>h,fun _ n u _ h=>⟨n,u,h,.inl ⟨rfl,rfl⟩⟩,fun _ _ _=>rfl,fun _ _ _ _ h=>h⟩;refine aK.over kF rfl ⟨aK.good.alt,fun k cs ab=>?_,aK.good.inj,fun g o a1=>?_,aK.good.oinj,aK.good.obx,aK.good.one,aK.good.otr⟩ ⟨aK.fr.os,aK.fr.tape,aK.fr.output,aK.fr.size,aK.fr.block,aK.fr.keep,aK.fr.fresh,aK.fr.obj,aK.fr.obn,aK.fr.row,aK.fr.obr,aK.fr.trd,aK.fr.trb,aK.fr.trn,aK.fr.sh⟩ aK.new
 ·obtain⟨bl,us,el,J,U,ao,ba,b2⟩:=aK.good.box k cs ab;exact⟨bl,us,el,J,U,ao,ba,pX kF b2⟩
 ·obtain⟨v,us,J,U,ao,ba⟩:=aK.good.own g o a1;exact⟨v,us,J,U,ao,rO kF (fun _ _ _ h=>h) ba⟩
theorem abP{α:Type}{l:List α}{p:α→Bool}(h:∀x∈l,p x=false):l.filter p=[]:=by rw[List.filter_eq_nil_iff];intro x ae;simp[h x ae]
theorem abO{α:Type}{l:List α}{p:α→Bool}(h:∀x∈l,p x=true):l.filter p=l:=List.filter_eq_self.2 h
def FH(r m since clock:Nat)(seen:Array Nat)(PA:Array (aY MapEntry)):Sem Value:=do
 match PA[←choose (.mapNext PA.size)]? with
 |some (some e)=>
  setObj r (.mapIter (some m) since (seen.push e.born) clock)
  pure (.tuple #[.bool true,e.key,e.val])
 |some none=>pure (.tuple #[.bool false])
 |none=>stuck "Next: no such candidate"
theorem VD{P:cD}{w:World}(r m since clock:Nat)(seen:Array Nat)(l:List (aY MapEntry))(av:l≠[]):∃n x,x∈l∧(FH r m since clock seen l.toArray).run P w=
  (match x with|some e=>(do setObj r (.mapIter (some m) since (seen.push e.born) clock);pure (.tuple #[.bool true,e.key,e.val]):Sem Value)|none=>pure (.tuple #[.bool false])).run P {w with drawn:=n}:=by
 have fp:0<l.length:=List.length_pos_iff.2 av;unfold FH;have key:∀i,i<l.length→∀w',((do match(l.toArray[i]?:aY (aY MapEntry))with
   |some (some e)=>setObj r (.mapIter (some m) since (seen.push e.born) clock);pure (.tuple #[.bool true,e.key,e.val])
   |some none=>pure (.tuple #[.bool false])
   |none=>stuck "Next: no such candidate" :Sem Value)).run P w'=((match l[i]! with|some e=>(do setObj r (.mapIter (some m) since (seen.push e.born) clock);pure (.tuple #[.bool true,e.key,e.val]):Sem Value)|none=>pure (.tuple #[.bool false]))).run P w':=by
  intro i hi w';have J:l.toArray[i]? =some l[i]!:=by simp[hi]
  rw[J];cases l[i]!<;>rfl
 by_cases aJ:(Question.mapNext l.length).forced=true
 ·refine⟨w.drawn,l[0]!,by simp[fp],?_⟩;rw[←key 0 fp];have au:(choose (.mapNext l.length):Sem Nat).run P w= .ok 0 w:=by simp[aJ]
  simp only[List.size_toArray,fE,au,fI]
 ·refine⟨w.drawn+1,l[(w.tape w.drawn (.mapNext l.length))%l.length]!,by simp[Nat.mod_lt _ fp],?_⟩;rw[←key _ (Nat.mod_lt _ fp)];have au:(choose (.mapNext l.length):Sem Nat).run P w= .ok ((w.tape w.drawn (.mapNext l.length))%l.length) {w with drawn:=w.drawn+1}:=by simp[aJ,Question.cut]
  simp only[List.size_toArray,fE,au,fI]
theorem ajN{P:cD}{w:World}{bl mb:Nat}{seen:List Nat}{es:List MapEntry}{clock:Nat}{ty:fR}(J:w.heap[bl]? =some (.mapIter (some mb) clock seen.toArray clock))(U:w.heap[mb]? =some (.map es.toArray clock))(bD:∀e∈es,e.born<clock):
  ∃n,((∀e∈es,e.born∈seen)∧(Instr.next (.pointer (some ⟨bl,0,none⟩)) false ty).run P w= .ok (.tuple #[.bool false]) {w with drawn:=n})∨
   ∃e∈es,e.born∉seen∧(Instr.next (.pointer (some ⟨bl,0,none⟩)) false ty).run P w= .ok (.tuple #[.bool true,e.key,e.val]) {w with drawn:=n,heap:=w.heap.setIfInBounds bl (.mapIter (some mb) clock (seen++[e.born]).toArray clock)}:=by
 have eS:(!seen.toArray.isEmpty&& !es.toArray.isEmpty&&es.toArray.all (fun e=>decide (e.born≥clock)))=false:=by
  cases es with
  |nil=>simp
  |cons e r=>have:=bD e (by simp);simp;intro _ h;omega
 generalize ju:(es.filter fun e=> !seen.contains e.born)=left;have adN:(es.toArray.filter fun e=> !seen.toArray.contains e.born)=left.toArray:=by rw[←ju];simp
 have jw:∀e∈left,e∈es∧e.born∉seen:=fun e he=>by rw[←ju]at he;have:=nl.1 he;exact⟨this.1,by simpa using this.2⟩
 have hold:(left.toArray.filter fun e=>decide (e.born<clock))=left.toArray:=by rw[List.filter_toArray,abO];intro e he;have:=bD e (jw e he).1;simp[this]
 have kk:(left.toArray.filter fun e=>decide (e.born≥clock))= #[]:=by rw[List.filter_toArray,abP];intro e he;have:=bD e (jw e he).1;simp;omega
 have iF:(Instr.next (.pointer (some ⟨bl,0,none⟩)) false ty).run P w=(FH bl mb clock clock seen.toArray ((if left.toArray.isEmpty then #[none]else #[])++(left.toArray++ #[]).map some)).run P w:=by unfold Instr.next FH;simp only[fE,uM J,uM U,fI,eS,adN,hold,kk,gS,if_false];rfl
 rw[iF];by_cases ze:left=[]
 ·subst ze;obtain⟨n,x,g1,g2⟩:=VD (P:=P) (w:=w) bl mb clock clock seen.toArray [none] (by simp);refine⟨n,.inl ⟨fun e he=>?_,?_⟩⟩
  ·have:=List.filter_eq_nil_iff.1 ju e he;simpa using this
  ·simp only[List.mem_singleton]at g1;subst g1;have au:((if(([]:List MapEntry).toArray).isEmpty then #[none]else #[])++(([]:List MapEntry).toArray++ #[]).map some)=[none].toArray:=by simp
   rw[au,g2];rfl
 ·have au:((if left.toArray.isEmpty then #[none]else #[])++(left.toArray++ #[]).map some)=(left.map some).toArray:=by simp[ze]
  obtain⟨n,x,g1,g2⟩:=VD (P:=P) (w:=w) bl mb clock clock seen.toArray (left.map some) (by simpa using ze);simp only[iP]at g1;obtain⟨e,he,rfl⟩:=g1;refine⟨n,.inr ⟨e,(jw e he).1,(jw e he).2,?_⟩⟩;rw[au,g2];simp only[fE];rw[C2 (w:={w with drawn:=n}) (o:= .mapIter (some mb) clock seen.toArray clock) J];simp
theorem Ia:∀{borns:List Nat} {us:List Value} {e:MapEntry},e∈fx borns us→e.born∈borns
 |[],us,e,h=>by simp[fx]at h
 |b::eI,[],e,h=>by simp[fx]at h
 |b::eI,[_],e,h=>by simp[fx]at h
 |b::eI,k::v::us,e,h=>by
  simp only[fx,fY]at h;rcases h with rfl|h
  ·simp
  ·exact pg _ (Ia h)
theorem P1:∀{borns:List Nat} {kvs:List ah} {us:List Value},kvs.length=2*borns.length→us.length=kvs.length→∀{b:Nat},b∈borns→∃e∈fx borns us,e.born=b
 |[],_,_,_,_,b,ad=>by simp at ad
 |b1::eI,kvs,[],J,U,b,ad=>by rw[J]at U;simp at U
 |b1::eI,kvs,[_],J,U,b,ad=>by rw[J]at U;simp at U;omega
 |b1::eI,kvs,k::v::us,J,U,b,ad=>by
  rcases fY.1 ad with rfl|ad
  ·exact⟨⟨k,v,b⟩,by simp[fx],rfl⟩
  ·obtain⟨e,g1,g2⟩:=P1 (kvs:=kvs.drop 2) (us:=us) (borns:=eI) (by simp at J⊢;omega) (by simp at J U⊢;omega) ad;exact⟨e,by simp[fx,g1],g2⟩
theorem Ts{w:World}{ν:bd}:∀{borns:List Nat} {kvs:List ah} {us:List Value},kvs.length=2*borns.length→borns.Pairwise (· < ·)→cP w ν kvs us→∀{e:MapEntry},e∈fx borns us→∃k v,mu e.born borns kvs=some (.tuple [k,v])∧a8 w ν k e.key∧a8 w ν v e.val
 |[],_,_,_,_,_,e,h=>by simp[fx]at h
 |b::eI,[],us,J,_,_,e,_=>by simp at J
 |b::eI,[_],us,J,_,_,e,_=>by simp at J;omega
 |b::eI,k::v::kvs,us,J,U,ao,e,h=>by
  simp only[cP]at ao;obtain⟨iL,Mg,rfl,dH,jl,rX,rfl,e8,kI⟩:=ao;simp only[fx,fY]at h;rw[mB]at U;rcases h with rfl|h
  ·exact⟨k,v,by simp[mu],dH,e8⟩
  ·obtain⟨bK,v',g1,g2,g3⟩:=Ts (by simp at J;omega) U.2 kI h;have cF:b≠e.born:=Nat.ne_of_lt (U.1 _ (Ia h));exact⟨bK,v',by simp[mu,cF,g1],g2,g3⟩
theorem agj{P:cD}{C:e9}{st:bq}{a:Act}{w:World}{ν:bd}(aK:cS C st a w ν){o:Oper}{it:Operand}(mS:o.op= .next it false){d:Nat}(aP:o.dst=some d)(xd:jf C.N (some d)=true){v:ah}(aG:a8 w ν v (a.eval it)){K:bq→Prop}(he:sl st d v K)
  {qQ:Act→World→Prop} {Q:Exit→Act→World→Prop} (c1:∀st' bn w' bo,K st'→cS C st' bn w' bo→qQ bn w'):o.wp P a w qQ Q:=by
 unfold sl at he;split at he
 ·rename_i ff;split at he
  ·rename_i since seen last mk vl;split at he
   ·rename_i clock borns kvs xp;obtain⟨⟨rfl,rfl⟩,y8,n7⟩:=he;simp only[a8]at aG;obtain⟨bl,ch,b6⟩:=aG;obtain⟨ie,us,el,a6,bE,bX,cX,c8⟩:=aK.good.box ff _ vl;rw[ch]at a6;cases a6;obtain⟨mb,ms,apo,m1,m2,m3,m4,m5⟩:=aK.good.box mk _ xp;simp only[iZ,cP]at c8;obtain⟨u,ck,hu,⟨apn,dH,rfl⟩,rfl⟩:=c8;rw[m1]at dH;cases dH;simp only[jE,hu]at cX;simp only[jE]at m4;simp only[iZ]at m5;obtain⟨n,lM⟩:=ajN (P:=P) (ty:=o.type) cX m4 (fun e he=>m5.2.lt _ (Ia he));have mc:∀v' w',(Instr.next (.pointer (some ⟨bl,0,none⟩)) false o.type).run P w= .ok v' w'→(execOp a.eval o).run P w= .ok (.value v') w':=by intro v' w' iF;obtain⟨dst,op,ty,pos,MZ,ve⟩:=o;simp only at mS iF;subst mS;simp only[execOp,b6];exact Dm iF
    rcases lM with⟨J,U⟩|⟨e,J,U,ao⟩
    ·refine lZ (mc _ _ U) ?_;rw[aP];refine c1 _ _ _ _ (y8 fun b ad=>?_) ((aK.drawn n).put xd (p:= .tuple [.bool false]) (by simp[a8,cP]));obtain⟨e,f1,f2⟩:=P1 m5.2.len (Gn m5.1) ad;rw[←f2];exact J e f1
    ·obtain⟨k,v,f1,f2,f3⟩:=Ts m5.2.len m5.2.inc m5.1 J;refine lZ (mc _ _ ao) ?_;rw[aP];have vv:=((aK.drawn n).setBox (w':={w with drawn:=n,heap:=w.heap.setIfInBounds bl (.mapIter (some mb) last (seen++[e.born]).toArray last)}) vl ch (cs':=[.hdi last (seen++[e.born]) last,.gmap mk]) (us:=us) (el:=el) rfl rfl rfl
      (fun j af=>Array.getElem?_setIfInBounds_ne (kN af)) (by simp) (by simp[jE,hu,(Array.getElem?_eq_some_iff.1 cX).1]) (by simp only[iZ,cP];exact⟨_,_,hu,by simp only[a8];exact⟨mb,m1,rfl⟩,rfl⟩))
     refine c1 _ _ _ _ (n7 e.born k v f1 U) (vv.1.put xd (p:= .tuple [.bool true,k,v]) ?_);simp only[a8];refine⟨_,rfl,?_⟩;simp only[cP];have kF:k8 w ν {w with drawn:=n} ν:=⟨fun _ _ h=>⟨h,rfl⟩,fun _ _ _ h=>h,fun _ n u _ h=>⟨n,u,h,.inl ⟨rfl,rfl⟩⟩,fun _ _ _=>rfl,fun _ _ _ _ h=>h⟩;exact⟨_,_,rfl,by simp[a8],_,_,rfl,x5 vv.2 (x5 kF f2),_,_,rfl,x5 vv.2 (x5 kF f3),rfl⟩
   ·exact he.elim
  ·exact he.elim
 ·exact he.elim
theorem P5{P:cD}{bB:List (Nat×dA)}(aO:fL P bB=true){C:e9}{st:bq}{a:Act}{w:World}{ν:bd}(aK:cS C st a w ν){i:ee}{o:Oper}(ax:uC C.N bB i o=true){K:bq→Prop}(he:tF P st K i)
  {qQ:Act→World→Prop} {Q:Exit→Act→World→Prop} (c1:∀st' bn w' bo,K st'→cS C st' bn w' bo→qQ bn w'):o.wp P a w qQ Q:=by
 cases i with
 |s i=>
  simp only[tF]at he;split at he
  ·rename_i c st' ag;exact ajQ aO aK (by simpa only[uC]using ax) ag he.1 fun bn w' bo h=>c1 _ _ _ _ he.2 h
  ·exact he.elim
 |next d x=>
  simp only[tF]at he;simp only[uC]at ax;split at ax
  ·rename_i it mS;simp only[cC,dO,fk]at ax;obtain⟨⟨J,U⟩,ao⟩:=ax;exact agj aK mS J (by simpa[jf]using U) (eh aK ao) he c1
  ·cases ax
 |call d f xs=>
  simp only[tF]at he;simp only[uC]at ax;split at ax
  ·rename_i q0 args Aw mS;simp only[cC,dO]at ax;obtain⟨⟨⟨J,U⟩,ao⟩,ba⟩:=ax;split at he
   ·rename_i n dj aJ;have:=eh aK ao;rw[aJ]at this;exact Py aK mS J U this (CX aK ba) he c1
   ·exact he.elim
  ·cases ax
theorem Lu{C:e9}{st:bq}{a:Act}{w:World}{ν:bd}(h:cS C st a w ν){s:Nat}{b:Bool}(ag:get s st.t= .bool b):cS C {st with t:=put s (.bool b) st.t} a w ν:=by
 refine⟨h.good,h.fr,h.defers,h.size,fun i=>?_,h.new⟩;have:=h.slot i;simp only[oX];split
 ·rename_i e;subst e;rw[←ag];exact this
 ·exact this
theorem WW{C:e9}{st:bq}{a:Act}{w:World}{ν:bd}(h:cS C st a w ν){ops:Array Oper}{j s:Nat}(af:(ops.toList[j]?).bind (·.dst)=some s)(ag:s<C.N):
  (∀b,get s st.t= .bool b→yielded ops a.tmps j=some b)∧(get s st.t= .tuple []→yielded ops a.tmps j=none):=by
 have bD:s<a.tmps.size:=by rw[h.size];exact ag
 have rq:=h.slot s;have gW:a.tmps.getD s undef=a.tmps[s]:=by simp[Array.getD,bD]
 rw[gW]at rq;have aL:yielded ops a.tmps j=match a.tmps[s]with| .bool b=>some b|_=>none:=by unfold yielded;rw[ti]at af;rw[af];simp only[kO,Array.getElem?_eq_getElem bD];cases a.tmps[s]<;>rfl
 constructor
 ·intro b ad;rw[ad]at rq;simp only[a8]at rq;rw[aL,rq]
 ·intro ad;rw[ad]at rq;simp only[a8,cP]at rq;obtain⟨us,ak,aC⟩:=rq;rw[aL,ak]
theorem P9{P:cD}{bB:List (Nat×dA)}(aO:fL P bB=true){C:e9}{ops:Array Oper}{K:bq→Prop}{Q:Exit→Act→World→Prop}(hU:∀st' bn w' bo,K st'→cS C st' bn w' bo→Q .normal bn w'):
  ∀(gs:List c4) (os:List Oper) (k:Nat),(∀j,os[j]? =ops[k+j]?)→kg C.N bB ops.toList gs os=true→∀(st:bq) (a:Act) (w:World) (ν:bd),hS P gs st K→cS C st a w ν→wpOps P ops Q (List.range' k gs.length) a w
 |[],[],k,_,_,st,a,w,ν,he,aK=>by simp only[List.length_nil,List.range'_zero,wpOps];exact hU _ _ _ _ he aK
 |[],_::_,_,_,ab,_,_,_,_,_,_=>by simp[kg]at ab
 |_::_,[],_,_,ab,_,_,_,_,_,_=>by simp[kg]at ab
 |g::gs,o::os,k,zi,ab,st,a,w,ν,he,aK=>by
  simp only[kg,cC]at ab;have bA:ops[k]? =some o:=by simpa using(zi 0).symm
  have BU:∀j,os[j]? =ops[k+1+j]?:=fun j=>by have:=zi (j+1);simpa[Nat.add_assoc,Nat.add_comm 1 j]using this
  simp only[p6,List.range'_succ,wpOps,bA];have bU:∀st' bn w' bo,hS P gs st' K→cS C st' bn w' bo→wpOps P ops Q (List.range' (k+1) gs.length) bn w':=fun st' bn w' bo J U=>P9 aO hU gs os (k+1) BU ab.2 st' bn w' bo J U;obtain⟨mK,QV⟩:=g;have a1:=ab.1;simp only[Bk,cC]at a1;obtain⟨qq,rf⟩:=a1;cases mK with
  |none=>
   cases dU:o.guard with
   |some x=>simp[dU]at qq
   |none=>
    have hw:oG o (yielded ops a.tmps)=true:=by simp[oG,dU]
    rw[if_pos hw];simp only[hS]at he;exact .inl (P5 aO aK rf he bU)
  |some yf=>
   obtain⟨s,want⟩:=yf;cases dU:o.guard with
   |none=>simp[dU]at qq
   |some x=>
    obtain⟨j,b1⟩:=x;simp only[dU,cC,dO,fk]at qq;obtain⟨⟨⟨⟨rfl,U⟩,ao⟩,ba⟩,b2⟩:=qq;obtain⟨kv,oE⟩:=WW aK U ao;simp only[hS]at he;split at he
    ·rename_i b ad;have aL:=kv b ad;by_cases e:b=want
     ·subst e;have hw:oG o (yielded ops a.tmps)=true:=by simp[oG,dU,aL]
      rw[if_pos hw];exact .inl (P5 aO (Lu aK ad) rf (he.1 rfl) bU)
     ·have hw:¬(oG o (yielded ops a.tmps)=true):=by simp[oG,dU,aL,e]
      rw[if_neg hw];have fP:b= !want:=by cases b<;>cases want<;>simp at e⊢
      have me:cS C {st with t:=put s (.bool !want) st.t} a w ν:=Lu aK (by rw[ad,fP]);rw[ba];exact bU _ _ _ _ (he.2 fP) (me.put b2 (by simp[a8,cP,undef]))
    ·rename_i ad;have aL:=oE ad;have hw:¬(oG o (yielded ops a.tmps)=true):=by simp[oG,dU,aL]
     rw[if_neg hw,ba];exact bU _ _ _ _ he (aK.put b2 (by simp[a8,cP,undef]))
    ·exact he.elim
structure dg where
 t:Nat→ah
 b:aH→aY (List ah)
 e:aH→aY fK
 F:aH→Prop
structure kA where
 d:aY Nat
 p:ah
 bw:List (aH×List ah)
 ew:List (aH×fK)
 rm:aY aH
def ih{α:Type}(l:List (aH×α))(f:aH→aY α):aH→aY α:=fun k=>match look k l with|some x=>some x|none=>f k
def dg.do(A:dg)(x:kA):dg:={t:=fun i=>if x.d=some i then x.p else A.t i,b:=ih x.bw A.b,e:=ih x.ew A.e,F:=fun k=>A.F k∧x.rm≠some k}
structure kA.apart (x y:kA):Prop where
 d:∀i,x.d=some i→y.d≠some i
 b:∀k,(look k x.bw).isSome→look k y.bw=none
 e:∀k,(look k x.ew).isSome→look k y.ew=none
theorem dg.do_comm(A:dg){x y:kA}(h:x.apart y):(A.do x).do y=(A.do y).do x:=by
 simp only[dg.do,dg.mk.injEq];refine⟨?_,?_,?_,?_⟩
 ·funext i;by_cases J:x.d=some i
  ·have:=h.d i J;simp[J,this]
  ·simp[J]
 ·funext k;simp only[ih];cases ae:look k x.bw with
  |none=>cases look k y.bw<;>rfl
  |some u=>rw[h.b k (by simp[ae])]
 ·funext k;simp only[ih];cases ae:look k x.ew with
  |none=>cases look k y.ew<;>rfl
  |some u=>rw[h.e k (by simp[ae])]
 ·funext k;exact propext ⟨fun h=>⟨⟨h.1.1,h.2⟩,h.1.2⟩,fun h=>⟨⟨h.1.1,h.2⟩,h.1.2⟩⟩
def du(t:Nat→ah):dn→ah
 | .t i=>t i
 | .c p=>p
def rB(b:aH→aY (List ah))(e:aH→aY fK)(agg:Bool)(sz:Nat):ah→aY (Prop×ah)
 | .rptr dF k n i f=>x7 agg sz dF n i f (e k)
 | .ptr k off=>
  match b k with
  |some cs=>if agg then some (hP cs=true∧off+sz≤cs.length,.agg ((cs.drop off).take sz))else(cs[off]?).map fun p=>(hP cs=true,p)
  |none=>none
 | .eptr p=>if agg then some (isAgg sz p,p)else some (eb p=true∧cells p=[p],p)
 |_=>none
def wN(t:Nat→ah):List ah→List (Nat×Nat×dn)→aY (Prop×List ah)
 |cs,[]=>some (True,cs)
 |cs,(off,sz,x)::r=>
  match wN t (nI cs off (cells (du t x))) r with
  |some (c,cs')=>some ((eb (du t x)=true∧(cells (du t x)).length=sz∧off+sz≤cs.length)∧c,cs')
  |none=>none
def pc(t:Nat→ah)(b:aH→aY (List ah))(e:aH→aY fK):fM→aY (Prop×ah)
 | .mov x=>some (True,du t x)
 | .pick c x y=>FV (du t c) (du t x) (du t y)
 | .load agg sz x=>rB b e agg sz (du t x)
 | .faddr off agg sz x=>pC off agg sz (du t x)
 | .fld off agg sz x=>q2 off agg sz (du t x)
 | .iaddr sz x i=>zu sz (du t x) (du t i)
 | .sidx x i=>Gy (du t x) (du t i)
 | .ssl x lo hi=>GD (du t x) (lo.map (du t)) (hi.map (du t))
 | .lsl sz x lo hi=>Fw sz (du t x) (lo.map (du t)) (hi.map (du t))
 | .bin op wr x y=>AW op wr (du t x) (du t y)
 | .notB x=>FJ (du t x)
 | .neg x=>FF (du t x)
 | .conv k x=>D9 k (du t x)
 | .ext i x=>yM i (du t x)
 | .len x=>zD (du t x)
 | .slen x=>C7 (du t x)
 | .build zero parts=>(wN t zero parts).map fun(c,cs)=>(c,.agg cs)
 | .nck x=>zN (du t x)
 | .min2 x y=>FE (du t x) (du t y)
 | .mkf n xs=>some (True,.func n (xs.map (du t)))
 | .mget cd zero ok x k=>nF b cd zero ok (du t x) (du t k)
 | .ment x=>o6 b (du t x)
 | .mlen x=>uv b (du t x)
 | .beq neg dM x y=>ic neg dM (du t x) (du t y)
 | .max2 x y=>FA (du t x) (du t y)
 | .mkif n x=>some (True,.iface n (du t x))
 | .loadB agg sz x=>rB b (fun _=>none) agg sz (du t x)
 | .mgetB cd zero ok x k=>nF b cd zero ok (du t x) (du t k)
 | .loadZ agg sz x=>Bj agg sz (du t x)
structure k7 (st:bq) (A:dg):Prop where
 t:∀i,get i st.t=A.t i
 b:∀k,look k st.b=A.b k
 e:∀k,look k st.e=A.e k
theorem iB{st:bq}{A:dg}(h:k7 st A)(x:dn):cp st.t x=du A.t x:=by
 cases x
 ·exact h.t _
 ·rfl
theorem tH{st:bq}{A:dg}(h:k7 st A):cp st.t=du A.t:=funext (iB h)
theorem afv{st:bq}{A:dg}(h:k7 st A)(agg:Bool)(sz:Nat)(p:ah):mr st.b st.e agg sz p=rB A.b A.e agg sz p:=by
 cases p<;>simp only[mr,rB]
 ·rw[h.b];try rfl
 ·rw[h.e]
theorem afw{st:bq}{A:dg}(h:k7 st A)(agg:Bool)(sz:Nat)(p:ah):mr st.b [] agg sz p=rB A.b (fun _=>none) agg sz p:=by
 cases p<;>simp only[mr,rB]
 ·rw[h.b];try rfl
 ·rfl
theorem Nr{st:bq}{A:dg}(h:k7 st A):∀(parts:List (Nat×Nat×dn)) (cs:List ah),tC st.t cs parts=wN A.t cs parts
 |[],cs=>rfl
 |(off,sz,x)::r,cs=>by simp only[tC,wN,iB h,Nr h r];try rfl
theorem Wj{st:bq}{A:dg}(h:k7 st A)(i:fM):hb st i=pc A.t A.b A.e i:=by have ad:(fun k=>look k st.b)=A.b:=funext h.b;cases i<;>simp only[hb,pc,tH h,afv h,afw h,Nr h,ad]
def gZ:dn→List Nat
 | .t i=>[i]
 | .c _=>[]
def KT:aY dn→List Nat
 |some x=>gZ x
 |none=>[]
def fM.looks:fM→List Nat
 | .mov x| .load _ _ x| .loadB _ _ x| .loadZ _ _ x| .faddr _ _ _ x| .fld _ _ _ x| .notB x| .neg x| .conv _ x| .ext _ x| .len x| .slen x| .nck x| .ment x| .mlen x| .mkif _ x=>gZ x
 | .pick c x y=>gZ c++gZ x++gZ y
 | .iaddr _ x i| .sidx x i=>gZ x++gZ i
 | .ssl x lo hi| .lsl _ x lo hi=>gZ x++KT lo++KT hi
 | .bin _ _ x y| .min2 x y| .max2 x y| .beq _ _ x y=>gZ x++gZ y
 | .build _ cv=>cv.flatMap fun p=>gZ p.2.2
 | .mkf _ xs=>xs.flatMap gZ
 | .mget _ _ _ x k| .mgetB _ _ _ x k=>gZ x++gZ k
def ei.looks:ei→List Nat
 | .v _ i=>i.looks
 | .box _ _ x=>gZ x
 | .alloc _ _ _=>[]
 | .store _ x y=>gZ x++gZ y
 | .storeE _ x y=>gZ x++gZ y
 | .bsl _ _ _ xs=>xs.flatMap gZ
 | .app _ _ _ x y=>gZ x++gZ y
 | .bslm _ _ _ _ xs=>xs.flatMap gZ
 | .mks _ _ _ _ _ x=>gZ x
 | .appm _ _ _ _ x y=>gZ x++gZ y
 | .mkmap _ _=>[]
 | .mput _ x k y=>gZ x++gZ k++gZ y
 | .range _ _ x=>gZ x
def ee.looks:ee→List Nat
 | .s i=>i.looks
 | .call _ f xs=>gZ f++xs.flatMap gZ
 | .next _ x=>gZ x
def c4.looks(g:c4):List Nat:=(match g.g with|some (s,_)=>[s]|none=>[])++g.i.looks
def qd(l:List Nat)(t dJ:Nat→ah):Prop:= ∀i∈l,t i=dJ i
theorem gl{t dJ:Nat→ah}{x:dn}(h:qd (gZ x) t dJ):du t x=du dJ x:=by
 cases x
 ·exact h _ (by simp[gZ])
 ·rfl
theorem kc{l aZ:List Nat}{t dJ:Nat→ah}(h:qd (l++aZ) t dJ):qd l t dJ∧qd aZ t dJ:=⟨fun i hi=>h i (by simp[hi]),fun i hi=>h i (by simp[hi])⟩
theorem Eg{t dJ:Nat→ah}{x:aY dn}(h:qd (KT x) t dJ):x.map (du t)=x.map (du dJ):=by
 cases x
 ·rfl
 ·simp[gl h]
theorem Nq{t dJ:Nat→ah}:∀{parts:List (Nat×Nat×dn)} {cs:List ah},qd (parts.flatMap fun p=>gZ p.2.2) t dJ→wN t cs parts=wN dJ cs parts
 |[],cs,_=>rfl
 |(off,sz,x)::r,cs,h=>by simp only[List.flatMap_cons]at h;obtain⟨J,U⟩:=kc h;simp only[wN,gl J,Nq U]
theorem Fz{t dJ:Nat→ah}:∀{xs:List dn},qd (xs.flatMap gZ) t dJ→xs.map (du t)=xs.map (du dJ)
 |[],_=>rfl
 |x::xs,h=>by simp only[List.flatMap_cons]at h;obtain⟨J,U⟩:=kc h;simp[gl J,Fz U]
def fM.isLoad:fM→Bool
 | .load _ _ _=>true
 | .loadB _ _ _=>true
 | .mgetB _ _ _ _ _=>true
 | .mget _ _ _ _ _=>true
 | .ment _=>true
 | .mlen _=>true
 |_=>false
theorem akO{t dJ:Nat→ah}{b b1:aH→aY (List ah)}{e fG:aH→aY fK}{i:fM}(h:qd i.looks t dJ)(ad:i.isLoad=false):pc t b e i=pc dJ b1 fG i:=by
 cases i<;>simp only[fM.looks]at h<;>simp only[pc];case load agg sz x=>simp[fM.isLoad]at ad
 case loadB agg sz x=>simp[fM.isLoad]at ad
 case pick c x y=>obtain⟨J,ao⟩:=kc h;obtain⟨J,U⟩:=kc J;rw[gl J,gl U,gl ao]
 case iaddr=>obtain⟨J,U⟩:=kc h;rw[gl J,gl U]
 case sidx=>obtain⟨J,U⟩:=kc h;rw[gl J,gl U]
 case ssl=>obtain⟨J,ao⟩:=kc h;obtain⟨J,U⟩:=kc J;rw[gl J,Eg U,Eg ao]
 case lsl=>obtain⟨J,ao⟩:=kc h;obtain⟨J,U⟩:=kc J;rw[gl J,Eg U,Eg ao]
 case bin=>obtain⟨J,U⟩:=kc h;rw[gl J,gl U]
 case min2=>obtain⟨J,U⟩:=kc h;rw[gl J,gl U]
 case build=>rw[Nq h]
 case mkf=>rw[Fz h]
 case mget=>simp[fM.isLoad]at ad
 case mgetB=>simp[fM.isLoad]at ad
 case ment=>simp[fM.isLoad]at ad
 case mlen=>simp[fM.isLoad]at ad
 case max2=>obtain⟨J,U⟩:=kc h;rw[gl J,gl U]
 case beq=>obtain⟨J,U⟩:=kc h;rw[gl J,gl U]
 all_goals rw[gl h]
end Go.Pv
