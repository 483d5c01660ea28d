/- Regions that draw their order, I: abstract states as functions, effects, and what an instruction does to them. -/
import Derived.WalkKit
import Derived.Orders
import Derived.KernelRfl
import Derived.IntWalk
import Derived.Laws.StructEq
import Derived.ChangeKeysEq
import Derived.MapKept
import Derived.ArgAppend
import Derived.Laws.OwnMore
set_option linter.all false
set_option maxHeartbeats 4000000
open Array renaming getElem?_toList→tU
open BitVec renaming ofInt→lX
open Bool renaming and_eq_true→cx,eq_iff_iff→qt,false_eq_true→gC,not_eq_true'→rk
open ByteArray renaming ext→amZ,size→arT
open Go renaming Program→cA,TypeId→gL
open Go.ByteArray renaming toList_eq→am0
open Go.IntKind renaming i64→mN
open Go.IntWalk renaming i64_in→ml
open Go.Op renaming bytesLess→hB
open Go.Region renaming wanted→oX
open Go.Result renaming andThen_ok→fQ
open Go.Sem renaming run_bind→fI,run_pure→gq
open Go.Value renaming cells→oY,ownBlock→n9
open Go.Value.pointer renaming injEq→ar0
open Go.World.grownBy renaming refl→am3
open List renaming all_eq_true→ig,cons_append→bR,getElem?_eq_getElem→cb,getElem?_eq_none→qu,getElem?_eq_some_iff→fU,length_append→pJ,length_cons→oa,length_drop→sC,map_cons→gP,map_nil→mO,mem_append→iH,mem_cons→fA,mem_cons_of_mem→lA,mem_filter→ha,mem_map→hJ,mem_singleton→qv,pairwise_cons→mP,take→oZ,take_length→nH,take_of_length_le→hb
open List.cons renaming injEq→y7
open Nat renaming add_mul→pL,le_refl→ff,le_trans→jR
open Ne renaming symm→la
open Option renaming bind_some→e6,isSome_iff_exists→fB,isSome_none→ja,map_eq_some_iff→gr,map_some→kN
open Option.some renaming injEq→dw
open Prod.mk renaming injEq→jB
open _root_ renaming False→ep,UInt8→cQ,beq_iff_eq→dK,congrArg→eU,decide_eq_true_eq→fo
namespace Go.Pv
open Go Go.RowKit
inductive aJ where
 |loc (s:Nat)
 |obj (n:Nat)
 deriving DecidableEq,Inhabited
inductive BO where
 |no
 |nil
 |own (k:aJ)
 |tr (k:aJ) (j:Nat)
 |lo (k:aJ)
 deriving DecidableEq,Inhabited
inductive ah where
 |junk
 |int (k:IntKind) (n:Int)
 |bool (b:Bool)
 |str (s:List cQ)
 |slice (sz:Nat) (tag:BO) (xs:List ah)
 |agg (cs:List ah)
 |ptr (key:aJ) (off:Nat)
 |eptr (x:ah)
 |iface (t:Nat) (x:ah)
 |nilp
 |tuple (a7:List ah)
 |func (f:Nat) (dj:List ah)
 |gmap (key:aJ)
 |row (sz:Nat) (key:aJ) (n:Nat)
 |rptr (sz:Nat) (key:aJ) (n i f:Nat)
 |hdm (clock:Nat) (borns:List Nat)
 |hdi (since:Nat) (seen:List Nat) (last:Nat)
 |cst (v:Value)
 deriving Inhabited
structure a8 where
 A:Nat→Nat→Prop
 bx:aJ→Option Nat
 ow:aJ→Option (Nat×Value)
 tr:aJ→Nat→Nat→Prop
def lim:Nat:=68719476736
def lS(w:World)(A:Nat→Nat→Prop)(b:Nat):Nat→List Value→Prop
 |_,[]=>True
 |off,u::us=>(A b off∧w.cell? ⟨b,off,none⟩=some u)∧lS w A b (off+1) us
def shape(w:World)(b:Nat):Option (Nat×gL×(Nat×Nat)):=
 match w.heap[b]? with
 |some (.cells cur el fz)=>some (cur.size,el,fz)
 |_=>none
theorem w1{w w':World}{b:Nat}(h:w'.heap[b]? =w.heap[b]?):shape w' b=shape w b:=by unfold shape;rw[h]
mutual
def gi(t:Bool)(w:World)(A:Nat→Nat→Prop)(F:Nat→Prop):ah→Value→Prop
 | .int k n,v=>v= .int k n
 | .bool b,v=>v= .bool b
 | .str s,v=>v= .string ⟨s.toArray⟩∧s.length≤lim
 | .slice sz _ xs,v=> ∃a cap,v= .slice a xs.length cap∧xs.length≤cap∧(cap≤maxLen∧xs.length≤lim)∧
   (xs=[]∨ ∃b off us G,a=some ⟨b,off,none⟩∧F b∧(∀c,G c→F c∧(t=true→c≠b))∧lS w A b off us∧(t=true→off=0∧0<us.length∧∃el,shape w b=some (cap*sz,el,(0,0)))∧uw t w A G sz xs us)
 | .agg cs,v=> ∃us:Array Value,v= .agg us∧ux t w A F cs us.toList
 |_,_=>ep
def ux(t:Bool)(w:World)(A:Nat→Nat→Prop)(F:Nat→Prop):List ah→List Value→Prop
 |[],us=>us=[]
 |c::cs,us=> ∃u b8 ih ix,us=u::b8∧((∀b,ih b→F b)∧(∀b,ix b→F b)∧(t=true→∀b,ih b→¬ix b))∧(gi t w A ih c u∧u.oneCell'=true)∧ux t w A ix cs b8
def uw(t:Bool)(w:World)(A:Nat→Nat→Prop)(F:Nat→Prop)(sz:Nat):List ah→List Value→Prop
 |[],us=>us=[]
 |x::xs,us=> ∃u b8 ih ix,us=u.cells.toList++b8∧((∀b,ih b→F b)∧(∀b,ix b→F b)∧(t=true→∀b,ih b→¬ix b))∧(gi t w A ih x u∧u.cells.size=sz∧(∀c∈u.cells.toList,c.oneCell'=true))∧uw t w A ix sz xs b8
end
mutual
def a6(w:World)(ν:a8):ah→Value→Prop
 | .junk,_=>True
 | .int k n,v=>v= .int k n
 | .bool b,v=>v= .bool b
 | .str s,v=>v= .string ⟨s.toArray⟩∧s.length≤lim
 | .slice sz tag xs,v=>
   (∃a cap,v= .slice a xs.length cap∧xs.length≤cap∧(cap≤maxLen∧xs.length≤lim)∧(xs=[]∨ ∃b off us,a=some ⟨b,off,none⟩∧lS w ν.A b off us∧dA w ν sz xs us))∧
   (tag= .nil→v= .slice none 0 0)∧
   (∀g,tag= .own g→∃n u,ν.ow g=some (n,u)∧xs.length≤n∧(xs.length=n→v=u))∧
   (∀k j,tag= .tr k j→gi true w ν.A (ν.tr k j) (.slice sz tag xs) v)∧(∀k,tag= .lo k→gi false w ν.A (ν.tr k 0) (.slice sz tag xs) v)
 | .agg cs,v=> ∃us:Array Value,v= .agg us∧dg w ν cs us.toList
 | .ptr key off,v=> ∃b,ν.bx key=some b∧v= .pointer (some ⟨b,off,none⟩)
 | .eptr x,v=> ∃b off u,v= .pointer (some ⟨b,off,none⟩)∧a6 w ν x u∧lS w ν.A b off u.cells.toList
 | .iface t x,v=> ∃u,v= .iface t u∧a6 w ν x u
 | .nilp,v=>v= .pointer none
 | .tuple a7,v=> ∃us:Array Value,v= .tuple us∧cK w ν a7 us.toList
 | .func f dj,v=> ∃us:Array Value,v= .func (.func f) #[] us∧cK w ν dj us.toList
 | .gmap key,v=> ∃b,ν.bx key=some b∧v= .map (some b)
 | .row _ key n,v=>(∃b cap,v= .slice (some ⟨b,0,none⟩) n cap)∧n≤lim∧∃n' u,ν.ow key=some (n',u)∧n≤n'∧(n=n'→v=u)
 | .rptr sz key n i f,v=>(∃b o,v= .pointer (some ⟨b,o,none⟩))∧i<n∧∃n' u,ν.ow key=some (n',u)∧n≤n'∧(n=n'→∃b,u.ownBlock=some b∧v= .pointer (some ⟨b,i*sz+f,none⟩))
 | .hdm _ _,_=>ep
 | .hdi _ _ _,_=>ep
 | .cst c,v=>v=c
def dg(w:World)(ν:a8):List ah→List Value→Prop
 |[],us=>us=[]
 |c::cs,us=> ∃u b8,us=u::b8∧(a6 w ν c u∧u.oneCell'=true)∧dg w ν cs b8
def cK(w:World)(ν:a8):List ah→List Value→Prop
 |[],us=>us=[]
 |c::cs,us=> ∃u b8,us=u::b8∧a6 w ν c u∧cK w ν cs b8
def dA(w:World)(ν:a8)(sz:Nat):List ah→List Value→Prop
 |[],us=>us=[]
 |x::xs,us=> ∃u b8,us=u.cells.toList++b8∧(a6 w ν x u∧u.cells.size=sz∧(∀c∈u.cells.toList,c.oneCell'=true))∧dA w ν sz xs b8
end
theorem Gx{w w':World}{A gk:Nat→Nat→Prop}{b:Nat}(ba:∀b o,A b o→gk b o∧w'.cell? ⟨b,o,none⟩=w.cell? ⟨b,o,none⟩):
  ∀(us:List Value) (off:Nat),lS w A b off us→lS w' gk b off us
 |[],_,_=>trivial
 |_::us,off,h=>⟨⟨(ba _ _ h.1.1).1,(ba _ _ h.1.1).2.trans h.1.2⟩,Gx ba us (off+1) h.2⟩
mutual
theorem Fv{t:Bool}{w w':World}{A gk:Nat→Nat→Prop}(ba:∀b o,A b o→gk b o∧w'.cell? ⟨b,o,none⟩=w.cell? ⟨b,o,none⟩)(af:∀b o,A b o→shape w' b=shape w b):∀(p:ah) (F o1:Nat→Prop) (v:Value),(∀b,F b→o1 b)→gi t w A F p v→gi t w' gk o1 p v
 | .int k n,_,_,_,_,h=>by simp only[gi]at h⊢;exact h
 | .bool b,_,_,_,_,h=>by simp only[gi]at h⊢;exact h
 | .str s,_,_,_,_,h=>by simp only[gi]at h⊢;exact h
 | .slice sz tag xs,F,o1,v,fs,h=>by
  simp only[gi]at h⊢;obtain⟨a,cap,J,U,ao,a1⟩:=h;refine⟨a,cap,J,U,ao,?_⟩;rcases a1 with a1|⟨b,off,us,G,ai,ax,bn,dp,hT,hU⟩
  ·exact .inl a1
  ·refine .inr ⟨b,off,us,G,ai,fs _ ax,fun c ar=>⟨fs _ (bn c ar).1,(bn c ar).2⟩,Gx ba _ _ dp,fun aL=>?_,R4 ba af xs G G _ (fun _ h=>h) hU⟩;obtain⟨f1,f2,el,f3⟩:=hT aL;refine⟨f1,f2,el,?_⟩;cases us with
   |nil=>simp at f2
   |cons u us=>rw[af b off dp.1.1];exact f3
 | .agg cs,F,o1,v,fs,h=>by simp only[gi]at h⊢;obtain⟨us,J,U⟩:=h;exact⟨us,J,R5 ba af cs F o1 _ fs U⟩
 | .junk,_,_,_,_,h=>by simp[gi]at h
 | .ptr _ _,_,_,_,_,h=>by simp[gi]at h
 | .eptr _,_,_,_,_,h=>by simp[gi]at h
 | .iface _ _,_,_,_,_,h=>by simp[gi]at h
 | .nilp,_,_,_,_,h=>by simp[gi]at h
 | .tuple _,_,_,_,_,h=>by simp[gi]at h
 | .func _ _,_,_,_,_,h=>by simp[gi]at h
 | .gmap _,_,_,_,_,h=>by simp[gi]at h
 | .row _ _ _,_,_,_,_,h=>by simp[gi]at h
 | .rptr _ _ _ _ _,_,_,_,_,h=>by simp[gi]at h
 | .hdm _ _,_,_,_,_,h=>by simp[gi]at h
 | .hdi _ _ _,_,_,_,_,h=>by simp[gi]at h
 | .cst _,_,_,_,_,h=>by simp[gi]at h
theorem R5{t:Bool}{w w':World}{A gk:Nat→Nat→Prop}(ba:∀b o,A b o→gk b o∧w'.cell? ⟨b,o,none⟩=w.cell? ⟨b,o,none⟩)(af:∀b o,A b o→shape w' b=shape w b):∀(cs:List ah) (F o1:Nat→Prop) (us:List Value),(∀b,F b→o1 b)→ux t w A F cs us→ux t w' gk o1 cs us
 |[],_,_,_,_,h=>by simp only[ux]at h⊢;exact h
 |c::cs,F,o1,us,fs,h=>by simp only[ux]at h⊢;obtain⟨u,b8,ih,ix,J,⟨U,ao,a1⟩,⟨b2,dc⟩,dX⟩:=h;exact⟨u,b8,ih,ix,J,⟨fun b ae=>fs _ (U b ae),fun b ae=>fs _ (ao b ae),a1⟩,⟨Fv ba af c ih ih u (fun _ h=>h) b2,dc⟩,R5 ba af cs ix ix b8 (fun _ h=>h) dX⟩
theorem R4{t:Bool}{w w':World}{A gk:Nat→Nat→Prop}(ba:∀b o,A b o→gk b o∧w'.cell? ⟨b,o,none⟩=w.cell? ⟨b,o,none⟩)(af:∀b o,A b o→shape w' b=shape w b){sz:Nat}:∀(cs:List ah) (F o1:Nat→Prop) (us:List Value),(∀b,F b→o1 b)→uw t w A F sz cs us→uw t w' gk o1 sz cs us
 |[],_,_,_,_,h=>by simp only[uw]at h⊢;exact h
 |c::cs,F,o1,us,fs,h=>by simp only[uw]at h⊢;obtain⟨u,b8,ih,ix,J,⟨U,ao,a1⟩,⟨b2,dc⟩,dX⟩:=h;exact⟨u,b8,ih,ix,J,⟨fun b ae=>fs _ (U b ae),fun b ae=>fs _ (ao b ae),a1⟩,⟨Fv ba af c ih ih u (fun _ h=>h) b2,dc⟩,R4 ba af cs ix ix b8 (fun _ h=>h) dX⟩
end
mutual
def aH(S:aJ→Prop):ah→Prop
 | .slice _ tag xs=>(match tag with| .own k=>S k| .tr k _=>S k| .lo k=>S k|_=>True)∧aN S xs
 | .agg cs=>aN S cs
 | .ptr k _=>S k
 | .eptr x=>aH S x
 | .iface _ x=>aH S x
 | .tuple a7=>aN S a7
 | .func _ dj=>aN S dj
 | .gmap k=>S k
 | .row _ k _=>S k
 | .rptr _ k _ _ _=>S k
 |_=>True
def aN(S:aJ→Prop):List ah→Prop
 |[]=>True
 |x::xs=>aH S x∧aN S xs
end
mutual
theorem wA{S T:aJ→Prop}(h:∀k,S k→T k):∀p:ah,aH S p→aH T p
 | .junk,_=>by simp[aH]
 | .int _ _,_=>by simp[aH]
 | .bool _,_=>by simp[aH]
 | .str _,_=>by simp[aH]
 | .slice sz tag xs,bB=>by simp only[aH]at bB⊢;exact⟨by cases tag<;>first|trivial|exact h _ bB.1,jX h xs bB.2⟩
 | .agg cs,bB=>by simp only[aH]at bB⊢;exact jX h cs bB
 | .ptr k _,bB=>by simp only[aH]at bB⊢;exact h _ bB
 | .eptr x,bB=>by simp only[aH]at bB⊢;exact wA h x bB
 | .iface _ x,bB=>by simp only[aH]at bB⊢;exact wA h x bB
 | .nilp,_=>by simp[aH]
 | .tuple a7,bB=>by simp only[aH]at bB⊢;exact jX h a7 bB
 | .func _ dj,bB=>by simp only[aH]at bB⊢;exact jX h dj bB
 | .gmap k,bB=>by simp only[aH]at bB⊢;exact h _ bB
 | .row _ k _,bB=>by simp only[aH]at bB⊢;exact h _ bB
 | .rptr _ k _ _ _,bB=>by simp only[aH]at bB⊢;exact h _ bB
 | .hdm _ _,_=>by simp[aH]
 | .hdi _ _ _,_=>by simp[aH]
 | .cst _,_=>by simp[aH]
theorem jX{S T:aJ→Prop}(h:∀k,S k→T k):∀cq:List ah,aN S cq→aN T cq
 |[],_=>by simp[aN]
 |x::xs,bB=>by simp only[aN]at bB⊢;exact⟨wA h x bB.1,jX h xs bB.2⟩
end
mutual
theorem Gu:∀p:ah,aH (fun _=>True) p
 | .junk=>by simp[aH]
 | .int _ _=>by simp[aH]
 | .bool _=>by simp[aH]
 | .str _=>by simp[aH]
 | .slice sz tag xs=>by simp only[aH];exact⟨by cases tag<;>trivial,uT xs⟩
 | .agg cs=>by simp only[aH];exact uT cs
 | .ptr k _=>by simp[aH]
 | .eptr x=>by simp only[aH];exact Gu x
 | .iface _ x=>by simp only[aH];exact Gu x
 | .nilp=>by simp[aH]
 | .tuple a7=>by simp only[aH];exact uT a7
 | .func _ dj=>by simp only[aH];exact uT dj
 | .gmap k=>by simp[aH]
 | .row _ k _=>by simp[aH]
 | .rptr _ k _ _ _=>by simp[aH]
 | .hdm _ _=>by simp[aH]
 | .hdi _ _ _=>by simp[aH]
 | .cst _=>by simp[aH]
theorem uT:∀cq:List ah,aN (fun _=>True) cq
 |[]=>by simp[aN]
 |x::xs=>by simp only[aN];exact⟨Gu x,uT xs⟩
end
def fC:List Nat→List Value→List MapEntry
 |b::eV,k::v::r=>⟨k,v,b⟩::fC eV r
 |_,_=>[]
def jN(cs:List ah)(us:Array Value)(el:gL):Obj:=
 match cs with
 | .hdm clock borns::_=>.map (fC borns us.toList).toArray clock
 | .hdi since seen last::_=>.mapIter (match us.toList with|[.map m]=>m|_=>none) since seen.toArray last
 |_=>.cells us el
structure ag9 (clock:Nat) (borns:List Nat) (r:List ah):Prop where
 len:r.length=2*borns.length
 inc:borns.Pairwise (· < ·)
 lt:∀b∈borns,b<clock
def jm(w:World)(ν:a8)(cs:List ah)(us:List Value):Prop:=
 match cs with
 | .hdm clock borns::r=>cK w ν r us∧ag9 clock borns r
 | .hdi _ _ _::r=>cK w ν r us
 |cs=>dg w ν cs us
def h2:List ah→Bool
 | .hdm _ _::_=>false
 | .hdi _ _ _::_=>false
 |_=>true
theorem Bj{w:World}{ν:a8}{cs:List ah}{us:List Value}(h:dg w ν cs us):h2 cs=true:=by
 unfold h2;split
 ·simp only[dg,a6]at h;obtain⟨_,_,_,⟨h,_⟩,_⟩:=h;exact h.elim
 ·simp only[dg,a6]at h;obtain⟨_,_,_,⟨h,_⟩,_⟩:=h;exact h.elim
 ·rfl
theorem u7{cs:List ah}(h:h2 cs=true)(us:Array Value)(el:gL):jN cs us el= .cells us el:=by
 unfold h2 at h;unfold jN;split at h<;>first|cases h|skip
 rfl
theorem u9{w:World}{ν:a8}{cs:List ah}(h:h2 cs=true)(us:List Value):jm w ν cs us=dg w ν cs us:=by
 unfold h2 at h;unfold jm;split at h<;>first|cases h|skip
 rfl
structure od (S:aJ→Prop) (w:World) (ν:a8) (w':World) (bg:a8):Prop where
 A:∀b o,ν.A b o→bg.A b o∧w'.cell? ⟨b,o,none⟩=w.cell? ⟨b,o,none⟩
 bx:∀k b,S k→ν.bx k=some b→bg.bx k=some b
 ow:∀g n u,S g→ν.ow g=some (n,u)→∃n' fc,bg.ow g=some (n',fc)∧(n'=n∧fc=u∨n<n')
 sh:∀b o,ν.A b o→shape w' b=shape w b
 tr:∀k j b,S k→ν.tr k j b→bg.tr k j b
abbrev lD:=od (fun _=>True)
mutual
theorem kn{S:aJ→Prop}{w w':World}{ν bg:a8}(av:od S w ν w' bg):∀(p:ah) (v:Value),aH S p→a6 w ν p v→a6 w' bg p v
 | .junk,_,_,_=>by simp[a6]
 | .int k n,_,_,h=>by simp only[a6]at h⊢;exact h
 | .bool b,_,_,h=>by simp only[a6]at h⊢;exact h
 | .str s,_,_,h=>by simp only[a6]at h⊢;exact h
 | .slice sz tag xs,v,ad,h=>by
  simp only[a6,aH]at h ad⊢;obtain⟨⟨a,cap,J,U,ao,a1⟩,b2,dc,hW,sW⟩:=h;refine⟨⟨a,cap,J,U,ao,?_⟩,b2,fun g aR=>?_,fun k j mz=>?_,fun k mz=>?_⟩
  ·rcases a1 with a1|⟨b,off,us,a1,dc,dX⟩
   ·exact .inl a1
   ·exact .inr ⟨b,off,us,a1,Gx av.A _ _ dc,Hw av sz xs us ad.2 dX⟩
  ·obtain⟨n,u,ai,ax,bn⟩:=dc g aR;subst aR;obtain⟨n',fc,f1,f2⟩:=av.ow g n u ad.1 ai;refine⟨n',fc,f1,?_⟩;rcases f2 with⟨rfl,rfl⟩|f2
   ·exact⟨ax,bn⟩
   ·exact⟨by omega,fun e=>by omega⟩
  ·have:=hW k j mz;subst mz;exact Fv av.A av.sh _ _ _ _ (fun b=>av.tr k j b ad.1) this
  ·have:=sW k mz;subst mz;exact Fv av.A av.sh _ _ _ _ (fun b=>av.tr k 0 b ad.1) this
 | .agg cs,v,ad,h=>by simp only[a6,aH]at h ad⊢;obtain⟨us,J,U⟩:=h;exact⟨us,J,Hz av cs _ ad U⟩
 | .ptr key off,v,ad,h=>by simp only[a6,aH]at h ad⊢;obtain⟨b,J,U⟩:=h;exact⟨b,av.bx _ _ ad J,U⟩
 | .iface t x,v,ad,h=>by simp only[a6,aH]at h ad⊢;obtain⟨u,J,U⟩:=h;exact⟨u,J,kn av x u ad U⟩
 | .eptr x,v,ad,h=>by simp only[a6,aH]at h ad⊢;obtain⟨b,off,u,J,U,ao⟩:=h;exact⟨b,off,u,J,kn av x u ad U,Gx av.A _ _ ao⟩
 | .nilp,_,_,h=>by simp only[a6]at h⊢;exact h
 | .tuple a7,v,ad,h=>by simp only[a6,aH]at h ad⊢;obtain⟨us,J,U⟩:=h;exact⟨us,J,yM av a7 _ ad U⟩
 | .func f dj,v,ad,h=>by simp only[a6,aH]at h ad⊢;obtain⟨us,J,U⟩:=h;exact⟨us,J,yM av dj _ ad U⟩
 | .gmap key,v,ad,h=>by simp only[a6,aH]at h ad⊢;obtain⟨b,J,U⟩:=h;exact⟨b,av.bx _ _ ad J,U⟩
 | .row sz key n,v,ad,h=>by
  simp only[a6,aH]at h ad⊢;obtain⟨J,U,n',u,ao,a1,b2⟩:=h;obtain⟨fN,jA,f1,f2⟩:=av.ow key n' u ad ao;refine⟨J,U,fN,jA,f1,?_⟩;rcases f2 with⟨rfl,rfl⟩|f2
  ·exact⟨a1,b2⟩
  ·exact⟨by omega,fun e=>by omega⟩
 | .rptr sz key n i f,v,ad,h=>by
  simp only[a6,aH]at h ad⊢;obtain⟨J,U,n',u,ao,a1,b2⟩:=h;obtain⟨fN,jA,f1,f2⟩:=av.ow key n' u ad ao;refine⟨J,U,fN,jA,f1,?_⟩;rcases f2 with⟨rfl,rfl⟩|f2
  ·exact⟨a1,b2⟩
  ·exact⟨by omega,fun e=>by omega⟩
 | .hdm _ _,_,_,h=>by simp only[a6]at h
 | .hdi _ _ _,_,_,h=>by simp only[a6]at h
 | .cst c,_,_,h=>by simp only[a6]at h⊢;exact h
theorem Hz{S:aJ→Prop}{w w':World}{ν bg:a8}(av:od S w ν w' bg):∀(cs:List ah) (us:List Value),aN S cs→dg w ν cs us→dg w' bg cs us
 |[],_,_,h=>by simp only[dg]at h⊢;exact h
 |c::cs,us,ad,h=>by simp only[dg,aN]at h ad⊢;obtain⟨u,b8,J,U,ao⟩:=h;exact⟨u,b8,J,⟨kn av c u ad.1 U.1,U.2⟩,Hz av cs b8 ad.2 ao⟩
theorem yM{S:aJ→Prop}{w w':World}{ν bg:a8}(av:od S w ν w' bg):∀(cs:List ah) (us:List Value),aN S cs→cK w ν cs us→cK w' bg cs us
 |[],_,_,h=>by simp only[cK]at h⊢;exact h
 |c::cs,us,ad,h=>by simp only[cK,aN]at h ad⊢;obtain⟨u,b8,J,U,ao⟩:=h;exact⟨u,b8,J,kn av c u ad.1 U,yM av cs b8 ad.2 ao⟩
theorem Hw{S:aJ→Prop}{w w':World}{ν bg:a8}(av:od S w ν w' bg)(sz:Nat):∀(xs:List ah) (us:List Value),aN S xs→dA w ν sz xs us→dA w' bg sz xs us
 |[],_,_,h=>by simp only[dA]at h⊢;exact h
 |x::xs,us,ad,h=>by simp only[dA,aN]at h ad⊢;obtain⟨u,b8,J,⟨U,ao,a1⟩,b2⟩:=h;exact⟨u,b8,J,⟨kn av x u ad.1 U,ao,a1⟩,Hw av sz xs b8 ad.2 b2⟩
end
theorem WW{S:aJ→Prop}{w w':World}{ν bg:a8}(av:od S w ν w' bg){cs:List ah}{us:List Value}(ad:aN S cs)(h:jm w ν cs us):jm w' bg cs us:=by
 unfold jm at h⊢;split
 ·simp only[aN]at ad;exact⟨yM av _ _ ad.2 h.1,h.2⟩
 ·simp only[aN]at ad;exact yM av _ _ ad.2 h
 ·rename_i J U;split at h
  ·exact absurd rfl (J _ _ _)
  ·exact absurd rfl (U _ _ _ _)
  ·exact Hz av _ _ ad h
section
variable {w w':World} {ν bg:a8} (av:lD w ν w' bg)
include av
theorem yN{p:ah}{v:Value}(h:a6 w ν p v):a6 w' bg p v:=kn av p v (Gu p) h
theorem W1{p:List ah}{v:List Value}(h:dg w ν p v):dg w' bg p v:=Hz av p v (uT p) h
theorem HB{p:List ah}{v:List Value}(h:cK w ν p v):cK w' bg p v:=yM av p v (uT p) h
theorem qh{p:List ah}{v:List Value}(h:jm w ν p v):jm w' bg p v:=WW av (uT p) h
theorem Bg{sz:Nat}{p:List ah}{v:List Value}(h:dA w ν sz p v):dA w' bg sz p v:=Hw av sz p v (uT p) h
end
end Go.Pv
namespace Go.Pv
open Go Go.RowKit
def get(k:Nat):List (Nat×ah)→ah
 |[]=>.junk
 |(i,p)::r=>if i=k then p else get k r
def put(k:Nat)(p:ah):List (Nat×ah)→List (Nat×ah)
 |[]=>[(k,p)]
 |(i,q)::r=>if i=k then(i,p)::r else(i,q)::put k p r
def look{α:Type}(k:aJ):List (aJ×α)→Option α
 |[]=>none
 |(i,p)::r=>if i=k then some p else look k r
def cu{α:Type}(k:aJ)(p:α):List (aJ×α)→List (aJ×α)
 |[]=>[(k,p)]
 |(i,q)::r=>if i=k then(i,p)::r else(i,q)::cu k p r
theorem pd(k j:Nat)(p:ah):∀l,get j (put k p l)=if k=j then p else get j l
 |[]=>by simp[get,put]
 |(i,q)::r=>by
  by_cases h:i=k
  ·subst h;by_cases U:i=j<;>simp[get,put,U]
  ·by_cases U:i=j
   ·subst U;simp[get,put,h,la h]
   ·simp[get,put,h,U,pd k j p r]
theorem iW{α:Type}(k j:aJ)(p:α):∀l,look j (cu k p l)=if k=j then some p else look j l
 |[]=>by simp[look,cu]
 |(i,q)::r=>by
  by_cases h:i=k
  ·subst h;by_cases U:i=j<;>simp[look,cu,U]
  ·by_cases U:i=j
   ·subst U;simp[look,cu,h,la h]
   ·simp[look,cu,h,U,iW k j p r]
structure fL where
 n:Nat
 el:Nat
 sz:Nat
 xs:Option (List ah)
def Nb(w:World)(ν:a8)(o:fL)(v:Value)(us:List Value):Prop:=∀xs,o.xs=some xs→xs.length=o.n∧dA w ν o.sz xs us∧∀bl,v.ownBlock=some bl→∀j,¬ν.A bl j
theorem sl{w w':World}{ν bg:a8}(av:lD w ν w' bg){o:fL}{v:Value}{us:List Value}(ba:∀bl,v.ownBlock=some bl→∀j,bg.A bl j→ν.A bl j)(h:Nb w ν o v us):Nb w' bg o v us:=fun xs ab=>⟨(h xs ab).1,Bg av (h xs ab).2.1,fun bl ae j ag=>(h xs ab).2.2 bl ae j (ba bl ae j ag)⟩
def ej(S:aJ→Prop)(o:fL):Prop:= ∀xs,o.xs=some xs→aN S xs
structure bh where
 t:List (Nat×ah)
 b:List (aJ×List ah)
 e:List (aJ×fL)
 n:Nat
 o:List aJ
def fresh(n:Nat)(o:List aJ)(k:aJ):Prop:=(match k with| .loc m=>n≤m| .obj _=>True)∧k∉o
theorem J1{n n':Nat}{o o':List aJ}(au:n≤n')(av:∀k∈o,k∈o'){k:aJ}(h:fresh n' o' k):fresh n o k:=by unfold fresh at h⊢;exact⟨by cases k<;>simp at h⊢;omega,fun ad=>h.2 (av k ad)⟩
def NH(ν:a8)(b:List (aJ×List ah))(e:List (aJ×fL))(bl:Nat):Prop:=(∃k,(look k b).isSome∧ν.bx k=some bl)∨(∃g n v,(look g e).isSome∧ν.ow g=some (n,v)∧v.ownBlock=some bl)
structure Good (pr:Nat→Prop) (w:World) (ν:a8) (b:List (aJ×List ah)) (e:List (aJ×fL)):Prop where
 alt:∀bl o,ν.A bl o→bl<w.heap.size
 box:∀k cs,look k b=some cs→∃bl us el,ν.bx k=some bl∧pr bl∧(∀o,¬ν.A bl o)∧w.heap[bl]? =some (jN cs us el)∧jm w ν cs us.toList
 inj:∀k k' bl,(look k b).isSome→(look k' b).isSome→ν.bx k=some bl→ν.bx k'=some bl→k=k'
 own:∀g o,look g e=some o→∃v us,ν.ow g=some (o.n,v)∧w.ownsRow 0 o.el o.sz v o.n us∧(∀bl,v.ownBlock=some bl→pr bl∧(∀j,ν.A bl j→j<o.n*o.sz))∧Nb w ν o v us
 oinj:∀g e9 n n' v v' bl,(look g e).isSome→(look e9 e).isSome→ν.ow g=some (n,v)→ν.ow e9=some (n',v')→v.ownBlock=some bl→v'.ownBlock=some bl→g=e9
 obx:∀g k n v bl,(look g e).isSome→(look k b).isSome→ν.ow g=some (n,v)→v.ownBlock=some bl→ν.bx k=some bl→ep
 one:∀k,ν.bx k=none∨ν.ow k=none
 otr:∀bl,NH ν b e bl→∀k j,¬ν.tr k j bl
structure fh where
 w0:World
 ν0:a8
 mt:Nat→Prop
 N:Nat
 ob:List aJ
def fh.pr(C:fh)(bl:Nat):Prop:=C.mt bl∨C.w0.heap.size≤bl
def ak2:aJ:= .obj 990001
def fO:aJ:= .obj 990002
structure pN (C:fh) (w:World) (ν:a8):Prop where
 os:w.os=C.w0.os
 tape:w.tape=C.w0.tape
 output:w.output=C.w0.output
 size:C.w0.heap.size≤w.heap.size
 block:∀k,k<C.w0.heap.size→¬C.mt k→w.heap[k]? =C.w0.heap[k]?
 keep:∀b o,C.ν0.A b o→ν.A b o∧w.cell? ⟨b,o,none⟩=C.w0.cell? ⟨b,o,none⟩
 fresh:∀b o,ν.A b o→C.ν0.A b o∨C.pr b
 obj:∀n b,C.ν0.bx (.obj n)=some b→ν.bx (.obj n)=some b
 obn:∀n b,C.ν0.bx (.obj n)=some b→ .obj n∈C.ob
 row:∀m n u,C.ν0.ow (.obj m)=some (n,u)→∃n' fc,ν.ow (.obj m)=some (n',fc)∧(n'=n∧fc=u∨n<n')
 obr:∀m n u,C.ν0.ow (.obj m)=some (n,u)→ .obj m∈C.ob
 trd:∀k j k' dB b,ν.tr k j b→ν.tr k' dB b→k=k'∧j=dB
 trb:∀k j b,ν.tr k j b→(k=ak2∨C.w0.heap.size≤b)∧b<w.heap.size
 trn:∀k j b,ν.tr k j b→ν.bx k=none∧ν.ow k=none
 sh:∀b o,C.ν0.A b o→shape w b=shape C.w0 b
theorem DV{ν bg:a8}{g:aJ}{n:Nat}{u:Value}(h:∃n' fc,ν.ow g=some (n',fc)∧(n'=n∧fc=u∨n<n'))(av:∀n u,ν.ow g=some (n,u)→∃n' fc,bg.ow g=some (n',fc)∧(n'=n∧fc=u∨n<n')):
  ∃n' fc,bg.ow g=some (n',fc)∧(n'=n∧fc=u∨n<n'):=by
 obtain⟨hA,iY,ai,ax⟩:=h;obtain⟨fN,jA,f1,f2⟩:=av hA iY ai;refine⟨fN,jA,f1,?_⟩;rcases ax with⟨rfl,rfl⟩|ax
 ·exact f2
 ·rcases f2 with⟨rfl,rfl⟩|f2
  ·exact .inr ax
  ·exact .inr (by omega)
structure cX (C:fh) (st:bh) (a:Act) (w:World) (ν:a8):Prop where
 good:Good C.pr w ν st.b st.e
 fr:pN C w ν
 defers:a.defers=[]
 size:a.tmps.size=C.N
 slot:∀i,a6 w ν (get i st.t) (a.tmps.getD i undef)
 new:∀k,fresh st.n st.o k→ν.bx k=none∧ν.ow k=none∧∀j b,¬ν.tr k j b
def eS(d:Option Nat)(p:ah)(t:List (Nat×ah)):List (Nat×ah):=
 match d with
 |some d=>put d p t
 |none=>t
def jt(N:Nat)(d:Option Nat):Bool:=match d with|some d=>decide (d<N)|none=>true
theorem cX.put{C:fh}{st:bh}{a:Act}{w:World}{ν:a8}(h:cX C st a w ν){d:Option Nat}(aE:jt C.N d=true){p:ah}{v:Value}(bB:a6 w ν p v):
  cX C {st with t:=eS d p st.t} (a.put d v) w ν:=by
 cases d with
 |none=>exact h
 |some d=>
  have bm:d<a.tmps.size:=by rw[h.size];simpa[jt]using aE
  refine⟨h.good,h.fr,h.defers,by simpa[Act.put]using h.size,fun i=>?_,h.new⟩;simp only[eS,pd];by_cases e:d=i
  ·subst e;simpa[Act.put,Array.getD_eq_getD_getElem?,bm]using bB
  ·have:=h.slot i;simpa[e,Act.put,Array.getD_eq_getD_getElem?,Array.getElem?_setIfInBounds_ne e]using this
theorem cX.over{C:fh}{st st':bh}{a:Act}{w w':World}{ν bg:a8}(h:cX C st a w ν)(av:lD w ν w' bg)(aL:st'.t=st.t)(aR:Good C.pr w' bg st'.b st'.e)(aO:pN C w' bg)
  (au:∀k,fresh st'.n st'.o k→bg.bx k=none∧bg.ow k=none∧∀j b,¬bg.tr k j b):cX C st' a w' bg:=
 ⟨aR,aO,h.defers,h.size,fun i=>by rw[aL];exact yN av (h.slot i),au⟩
inductive dq where
 |t (i:Nat)
 |c (p:ah)
 deriving Inhabited
def cj(t:List (Nat×ah)):dq→ah
 | .t i=>get i t
 | .c p=>p
def EP:ah→Value→Bool
 | .int k n,.int k' n'=>decide (k=k'∧n=n')
 | .bool b,.bool bV=>b==bV
 | .str s,.string l=>decide (l.data.toList=s∧s.length≤lim)
 | .slice _ .nil [],.slice none 0 0=>true
 | .nilp,.pointer none=>true
 | .tuple [],.tuple ⟨[]⟩=>true
 | .func f [],.func (.func g) ⟨[]⟩ ⟨[]⟩=>f==g
 | .junk,_=>true
 |_,_=>false
theorem O3(w:World)(ν:a8){p:ah}{v:Value}(h:EP p v=true):a6 w ν p v:=by
 unfold EP at h;split at h
 ·simp at h;obtain⟨rfl,rfl⟩:=h;simp[a6]
 ·simp at h;subst h;simp[a6]
 ·rename_i s l;simp at h;obtain⟨J,U⟩:=h;refine⟨?_,U⟩;subst J;simp
 ·simp only[a6];refine⟨⟨none,0,rfl,by simp,by simp,by simp⟩,by simp,(fun _ h=>by cases h),(fun _ _ h=>by cases h),(fun _ h=>by cases h)⟩
 ·simp[a6]
 ·simp[a6,cK]
 ·simp at h;subst h;simp[a6,cK]
 ·simp[a6]
 ·cases h
def zk:List ah→List Value→Bool
 |[],[]=>true
 |p::cq,v::a7=>EP p v&&v.oneCell'&&zk cq a7
 |_,_=>false
def zj:ah→Value→Bool
 | .agg cs,.agg us=>zk cs us.toList
 |p,v=>EP p v
theorem O4(w:World)(ν:a8):∀(cq:List ah) (a7:List Value),zk cq a7=true→dg w ν cq a7
 |[],[],_=>by simp[dg]
 |[],_::_,h=>by simp[zk]at h
 |_::_,[],h=>by simp[zk]at h
 |p::cq,v::a7,h=>by simp only[zk,cx]at h;simp only[dg];exact⟨v,a7,rfl,⟨O3 w ν h.1.1,h.1.2⟩,O4 w ν cq a7 h.2⟩
theorem IW(w:World)(ν:a8){p:ah}{v:Value}(h:zj p v=true):a6 w ν p v:=by
 unfold zj at h;split at h
 ·simp only[a6];exact⟨_,rfl,O4 w ν _ _ h⟩
 ·exact O3 w ν h
def ee:dq→Operand→Bool
 | .t i,.tmp j=>i==j
 | .c p,.const v=>zj p v
 | .c (.func f []),.func g=>f==g
 |_,_=>false
theorem ef{C:fh}{st:bh}{a:Act}{w:World}{ν:a8}(h:cX C st a w ν){x:dq}{o:Operand}(ab:ee x o=true):a6 w ν (cj st.t x) (a.eval o):=by
 unfold ee at ab;split at ab
 ·simp at ab;subst ab;simpa[cj,Act.eval]using h.slot _
 ·simpa[cj,Act.eval]using IW w ν ab
 ·simp at ab;subst ab;simp[cj,Act.eval,a6,cK]
 ·cases ab
inductive BN where
 |int (k:IntKind)
 |bool
 |str
 |slice (e:Nat)
 |struct (dH:List (Nat×Nat))
 |map (k e:Nat)
 |other
 deriving DecidableEq
structure dx where
 size:Nat
 bytes:Nat
 kind:BN
 zero:ah
def BN.isAgg:BN→Bool
 | .struct _=>true
 |_=>false
def BG:List ah→List Value→Bool
 |[],[]=>true
 |p::cq,v::a7=>zj p v&&v.oneCell'&&BG cq a7
 |_,_=>false
def y5:ah→Value→Bool
 | .agg cs,.agg us=>BG cs us.toList
 | .agg _,_=>false
 |p,v=>zj p v&&v.oneCell'
def j9:BN→TypeDesc→Bool
 | .int k,.int k'=>decide (k=k')
 | .bool,.bool=>true
 | .str,.string=>true
 | .slice e,.slice fT=>e==fT
 | .struct dH,.struct gs=>decide (gs.toList.map (fun f=>(f.offset,f.type))=dH)
 | .map k e,.map k' fT=>k==k'&&e==fT
 | .other,d=>match d with| .struct _| .array _ _| .int _| .bool| .string| .slice _=>false|_=>true
 |_,_=>false
def RU(P:cA)(gs:Array Field):Bool:=gs.toList.all fun f=>match P.underlying f.type with|some (.int _)=>true|some .string=>true|_=>false
def Q0(P:cA)(t:Nat)(gs:Array Field):Bool:=gs.toList.all (fun f=>f.name != "_")&& !P.stoodInHeld t&& !P.eqGuardType P.depth t
def Jl(P:cA)(t:Nat):TypeDesc→Bool
 | .struct gs=> !RU P gs||Q0 P t gs
 |_=>true
def NL(P:cA)(t:Nat)(f:dx):Bool:=
 match P.info? t,P.underlying t with
 |some i,some d=>Jl P t d&&i.size==f.size&&i.bytes==f.bytes&&j9 f.kind d&&(match i.zero with|some z=>y5 f.zero z&&z.cells.size==f.size|none=>false)
 |_,_=>false
def fP(P:cA)(bs:List (Nat×dx)):Bool:=bs.all fun x=>NL P x.1 x.2
def ea(bs:List (Nat×dx))(t:Nat):Option dx:=(bs.find? fun x=>x.1==t).map (·.2)
theorem alL{P:cA}{bs:List (Nat×dx)}(h:fP P bs=true){t:Nat}{f:dx}(aO:ea bs t=some f):NL P t f=true:=by
 unfold ea at aO;cases ab:bs.find? fun x=>x.1==t with
 |none=>simp[ab]at aO
 |some x=>simp[ab]at aO;have J:=List.find?_some ab;simp at J;have U:=List.mem_of_find?_eq_some ab;have ao:=ig.1 h x U;rw[←aO,←J];exact ao
structure YX (P:cA) (t:Nat) (f:dx):Prop where
 cmp:∀d,P.underlying t=some d→Jl P t d=true
 ex:∃i d z,P.info? t=some i∧P.underlying t=some d∧i.size=f.size∧i.bytes=f.bytes∧j9 f.kind d=true∧i.zero=some z∧y5 f.zero z=true∧z.cells.size=f.size
theorem vp{P:cA}{bs:List (Nat×dx)}(h:fP P bs=true){t:Nat}{f:dx}(aO:ea bs t=some f):YX P t f:=by
 have h:=alL h aO;unfold NL at h;split at h
 ·rename_i i d J U;simp only[cx,dK]at h;obtain⟨⟨⟨⟨bD,ao⟩,a1⟩,b2⟩,dc⟩:=h;split at dc
  ·rename_i z aY;simp only[cx,dK]at dc;exact⟨fun ca ln=>by rw[U]at ln;cases ln;exact bD,i,d,z,J,U,ao,a1,b2,aY,dc.1,dc.2⟩
  ·cases dc
 ·cases h
theorem o2(b o j:Nat):(⟨b,o,none⟩:Addr).add j=⟨b,o+j,none⟩:=by
 unfold Addr.add;split
 ·rename_i h;subst h;rfl
 ·rfl
theorem Oa(w:World)(ν:a8):∀(cq:List ah) (a7:List Value),BG cq a7=true→dg w ν cq a7
 |[],[],_=>by simp[dg]
 |[],_::_,h=>by simp[BG]at h
 |_::_,[],h=>by simp[BG]at h
 |p::cq,v::a7,h=>by simp only[BG,cx]at h;simp only[dg];exact⟨v,a7,rfl,⟨IW w ν h.1.1,h.1.2⟩,Oa w ν cq a7 h.2⟩
def cells:ah→List ah
 | .agg cs=>cs
 |p=>[p]
def eL:ah→Bool
 | .junk| .tuple _=>false
 | .cst (.slice _ _ _)| .cst (.string _)=>true
 | .cst _=>false
 |_=>true
theorem Na{w:World}{ν:a8}{p:ah}{v:Value}(h:a6 w ν p v)(af:eL p=true)(bk:∀cs,p≠ .agg cs):v.oneCell'=true∧v.cells= #[v]:=by
 cases p<;>simp only[a6,eL]at h af;case junk=>cases af
 case tuple=>cases af
 case cst c=>subst h;cases v<;>first|exact⟨rfl,rfl⟩|cases af
 case agg cs=>exact absurd rfl (bk cs)
 case int=>subst h;exact⟨rfl,rfl⟩
 case bool=>subst h;exact⟨rfl,rfl⟩
 case str=>rw[h.1];exact⟨rfl,rfl⟩
 case slice=>obtain⟨⟨a,cap,J,_⟩,_⟩:=h;subst J;exact⟨rfl,rfl⟩
 case ptr=>obtain⟨b,_,J⟩:=h;subst J;exact⟨rfl,rfl⟩
 case eptr=>obtain⟨b,o,u,J,_⟩:=h;subst J;exact⟨rfl,rfl⟩
 case iface=>obtain⟨u,J,_⟩:=h;subst J;exact⟨rfl,rfl⟩
 case nilp=>subst h;exact⟨rfl,rfl⟩
 case func=>obtain⟨us,J,_⟩:=h;subst J;exact⟨rfl,rfl⟩
 case gmap=>obtain⟨b,_,J⟩:=h;subst J;exact⟨rfl,rfl⟩
 case row=>obtain⟨⟨a,cap,J⟩,_⟩:=h;subst J;exact⟨rfl,rfl⟩
 case rptr=>obtain⟨⟨a,o,J⟩,_⟩:=h;subst J;exact⟨rfl,rfl⟩
theorem vf{w:World}{ν:a8}{p:ah}{v:Value}(h:a6 w ν p v)(af:eL p=true):dg w ν (cells p) v.cells.toList:=by
 by_cases bk:∃cs,p= .agg cs
 ·obtain⟨cs,rfl⟩:=bk;simp only[a6]at h;obtain⟨us,rfl,U⟩:=h;simpa[cells,oY]using U
 ·have nf:∀cs,p≠ .agg cs:=fun cs e=>bk ⟨cs,e⟩;obtain⟨J,U⟩:=Na h af nf;have ar:cells p=[p]:=by cases p<;>first|rfl|exact absurd rfl (nf _)
  rw[ar,U];simp only[dg];exact⟨v,[],rfl,⟨h,J⟩,rfl⟩
theorem Bi{w:World}{ν:a8}:∀{cq:List ah} {a7:List Value},dg w ν cq a7→∀c∈a7,c.oneCell'=true
 |[],a7,h=>by simp only[dg]at h;subst h;simp
 |p::cq,a7,h=>by
  simp only[dg]at h;obtain⟨u,b8,rfl,J,U⟩:=h;intro c ar;rcases fA.1 ar with rfl|ar
  ·exact J.2
  ·exact Bi U c ar
theorem pF{w:World}{ν:a8}:∀{cq:List ah} {a7:List Value},dg w ν cq a7→a7.length=cq.length
 |[],a7,h=>by simp only[dg]at h;subst h;rfl
 |p::cq,a7,h=>by simp only[dg]at h;obtain⟨u,b8,rfl,_,U⟩:=h;simp[pF U]
theorem Bh{w:World}{ν:a8}:∀(n:Nat) {cq:List ah} {a7:List Value},dg w ν cq a7→dg w ν (cq.drop n) (a7.drop n)
 |0,_,_,h=>by simpa using h
 |n+1,[],a7,h=>by simp only[dg]at h;subst h;simp[dg]
 |n+1,p::cq,a7,h=>by simp only[dg]at h;obtain⟨u,b8,rfl,_,U⟩:=h;simpa using Bh n U
theorem DR{w:World}{ν:a8}:∀(n:Nat) {cq:List ah} {a7:List Value},dg w ν cq a7→dg w ν (cq.take n) (a7.take n)
 |0,_,_,_=>by simp[dg]
 |n+1,[],a7,h=>by simp only[dg]at h;subst h;simp[dg]
 |n+1,p::cq,a7,h=>by simp only[dg]at h;obtain⟨u,b8,rfl,J,U⟩:=h;simp only[List.take_succ_cons,dg];exact⟨u,_,rfl,J,DR n U⟩
theorem yK{w:World}{ν:a8}:∀{cq bz:List ah} {a7 us:List Value},dg w ν cq a7→dg w ν bz us→dg w ν (cq++bz) (a7++us)
 |[],bz,a7,us,h,cr=>by simp only[dg]at h;subst h;simpa using cr
 |p::cq,bz,a7,us,h,cr=>by simp only[dg]at h;obtain⟨u,b8,rfl,J,U⟩:=h;simp only[bR,dg];exact⟨u,_,rfl,J,yK U cr⟩
theorem DQ{w:World}{ν:a8}:∀(n:Nat) {cq:List ah} {a7:List Value} {p:ah},dg w ν cq a7→cq[n]? =some p→∃v,a7[n]? =some v∧a6 w ν p v∧v.oneCell'=true
 |n,[],_,p,_,bB=>by simp at bB
 |0,q::cq,a7,p,h,bB=>by simp only[dg]at h;obtain⟨u,b8,rfl,J,_⟩:=h;simp at bB;subst bB;exact⟨u,rfl,J.1,J.2⟩
 |n+1,q::cq,a7,p,h,bB=>by simp only[dg]at h;obtain⟨u,b8,rfl,_,U⟩:=h;simpa using DQ n U (by simpa using bB)
theorem DT{w:World}{ν:a8}:∀(n:Nat) {cq:List ah} {a7:List Value} {p:ah},cK w ν cq a7→cq[n]? =some p→∃v,a7[n]? =some v∧a6 w ν p v
 |n,[],_,p,_,bB=>by simp at bB
 |0,q::cq,a7,p,h,bB=>by simp only[cK]at h;obtain⟨u,b8,rfl,J,_⟩:=h;simp at bB;subst bB;exact⟨u,rfl,J⟩
 |n+1,q::cq,a7,p,h,bB=>by simp only[cK]at h;obtain⟨u,b8,rfl,_,U⟩:=h;simpa using DT n U (by simpa using bB)
theorem uX{w:World}{A:Nat→Nat→Prop}{b:Nat}:∀{us:List Value} {off j:Nat} {u:Value},lS w A b off us→us[j]? =some u→A b (off+j)∧w.cell? ⟨b,off+j,none⟩=some u
 |[],_,_,_,_,h=>by simp at h
 |x::us,off,0,u,aq,h=>by simp at h;subst h;exact aq.1
 |x::us,off,j+1,u,aq,h=>by have:=uX (j:=j) aq.2 (by simpa using h);rwa[show off+1+j=off+(j+1)from by omega]at this
theorem Gw{w:World}{A:Nat→Nat→Prop}{b:Nat}:∀(n:Nat) {us:List Value} {off:Nat},lS w A b off us→lS w A b (off+n) (us.drop n)
 |0,_,_,h=>by simpa using h
 |n+1,[],_,_=>by simp[lS]
 |n+1,x::us,off,h=>by have:=Gw n h.2;rw[show off+(n+1)=off+1+n from by omega];simpa using this
theorem Gy{w:World}{A:Nat→Nat→Prop}{b:Nat}:∀(n:Nat) {us:List Value} {off:Nat},lS w A b off us→lS w A b off (us.take n)
 |0,_,_,_=>by simp[lS]
 |n+1,[],_,_=>by simp[lS]
 |n+1,x::us,off,h=>by simp only[List.take_succ_cons];exact⟨h.1,Gy n h.2⟩
theorem akU{P:cA}{w:World}{A:Nat→Nat→Prop}{b off:Nat}{us:List Value}(h:lS w A b off us):(loadCells ⟨b,off,none⟩ us.length).run P w= .ok us.toArray w:=run_loadCells_list w _ us fun j v ag=>by rw[o2];exact(uX h ag).2
theorem akT{P:cA}{w:World}{b off n:Nat}{us:Array Value}{el:gL}{fr:Nat×Nat}(h:w.heap[b]? =some (.cells us el fr))(au:off+n≤us.size):
  (loadCells ⟨b,off,none⟩ n).run P w= .ok ((us.toList.drop off).take n).toArray w:=by
 have aq:((us.toList.drop off).take n).length=n:=by simp;omega
 have:=run_loadCells_list (P:=P) w ⟨b,off,none⟩ ((us.toList.drop off).take n) fun j v ag=>by
  rw[o2];have aeU:j<n:=by have:=(fU.1 ag).1;omega
  simp only[World.cell?,h,ja,gC,if_false];rw[List.getElem?_take]at ag;simpa[aeU]using ag
 rw[aq]at this;exact this
theorem Rj{α:Type}(l r:List α)(n sz:Nat)(h:l.length=sz):(l++r).drop ((n+1)*sz)=r.drop (n*sz):=by
 have e:(n+1)*sz=l.length+n*sz:=by rw[h,Nat.succ_mul,Nat.add_comm]
 rw[e,←List.drop_drop];simp
theorem Xx{α:Type}(l r:List α)(n sz:Nat)(h:l.length=sz):(l++r).take ((n+1)*sz)=l++r.take (n*sz):=by
 have e:(n+1)*sz=l.length+n*sz:=by rw[h,Nat.succ_mul,Nat.add_comm]
 rw[e,List.take_length_add_append]
theorem Hv{w:World}{ν:a8}{sz:Nat}:∀(i:Nat) {xs:List ah} {us:List Value} {p:ah},dA w ν sz xs us→xs[i]? =some p→
  ∃u,a6 w ν p u∧u.cells.size=sz∧u.cells.toList=(us.drop (i*sz)).take sz
 |i,[],_,p,_,bB=>by simp at bB
 |0,x::xs,us,p,h,bB=>by
  simp only[dA]at h;obtain⟨u,b8,rfl,⟨J,U,ao⟩,_⟩:=h;simp at bB;subst bB;refine⟨u,J,U,?_⟩;have:u.cells.toList.length=sz:=by simpa using U
  simp[←this]
 |i+1,x::xs,us,p,h,bB=>by
  simp only[dA]at h;obtain⟨u,b8,rfl,⟨_,U,_⟩,b2⟩:=h;obtain⟨v,g1,g2,g3⟩:=Hv i b2 (by simpa using bB);refine⟨v,g1,g2,?_⟩;have:u.cells.toList.length=sz:=by simpa using U
  rw[g3,Rj _ _ _ _ this]
theorem tJ{w:World}{ν:a8}{sz:Nat}:∀{xs:List ah} {us:List Value},dA w ν sz xs us→us.length=xs.length*sz
 |[],us,h=>by simp only[dA]at h;subst h;simp
 |x::xs,us,h=>by
  simp only[dA]at h;obtain⟨u,b8,rfl,⟨_,U,_⟩,b2⟩:=h;have:u.cells.toList.length=sz:=by simpa using U
  rw[pJ,this,tJ b2,oa,Nat.succ_mul];omega
theorem yJ{w:World}{ν:a8}{sz:Nat}:∀{xs:List ah} {us:List Value},dA w ν sz xs us→∀c∈us,c.oneCell'=true
 |[],us,h=>by simp only[dA]at h;subst h;simp
 |x::xs,us,h=>by
  simp only[dA]at h;obtain⟨u,b8,rfl,⟨_,_,ao⟩,b2⟩:=h;intro c ar;rcases iH.1 ar with ar|ar
  ·exact ao c ar
  ·exact yJ b2 c ar
theorem DP{w:World}{ν:a8}{sz:Nat}:∀{cq bz:List ah} {a7 us:List Value},dA w ν sz cq a7→dA w ν sz bz us→dA w ν sz (cq++bz) (a7++us)
 |[],bz,a7,us,h,cr=>by simp only[dA]at h;subst h;simpa using cr
 |p::cq,bz,a7,us,h,cr=>by simp only[dA]at h;obtain⟨u,b8,rfl,J,U⟩:=h;simp only[bR,dA];exact⟨u,b8++us,by simp,J,DP U cr⟩
theorem WX{w:World}{ν:a8}{sz:Nat}:∀(n:Nat) {xs:List ah} {us:List Value},dA w ν sz xs us→dA w ν sz (xs.drop n) (us.drop (n*sz))
 |0,_,_,h=>by simpa using h
 |n+1,[],us,h=>by simp only[dA]at h;subst h;simp[dA]
 |n+1,x::xs,us,h=>by
  simp only[dA]at h;obtain⟨u,b8,rfl,⟨_,U,_⟩,b2⟩:=h;have:u.cells.toList.length=sz:=by simpa using U
  rw[Rj _ _ _ _ this];simpa using WX n b2
theorem W0{w:World}{ν:a8}{sz:Nat}:∀(n:Nat) {xs:List ah} {us:List Value},dA w ν sz xs us→dA w ν sz (xs.take n) (us.take (n*sz))
 |0,_,_,_=>by simp[dA]
 |n+1,[],us,h=>by simp only[dA]at h;subst h;simp[dA]
 |n+1,x::xs,us,h=>by
  simp only[dA]at h;obtain⟨u,b8,rfl,⟨J,U,ao⟩,b2⟩:=h;have:u.cells.toList.length=sz:=by simpa using U
  simp only[List.take_succ_cons,dA];refine⟨u,b8.take (n*sz),?_,⟨J,U,ao⟩,W0 n b2⟩;rw[Xx _ _ _ _ this]
def isAgg(sz:Nat)(p:ah):Prop:= ∃cs,p= .agg cs∧cs.length=sz
def yO(agg:Bool)(sz dC n i f:Nat):Option fL→Option (Prop×ah)
 |some ⟨n',_,jn,some xs⟩=>if n'=n∧jn=dC then
   (match xs[i]? with
    |some p=>if agg then some (eL p=true∧f+sz≤(cells p).length,.agg (((cells p).drop f).take sz))else((cells p)[f]?).map fun q=>(eL p=true,q)
    |none=>none)else none
 |_=>none
def mI(b:List (aJ×List ah))(e:List (aJ×fL))(agg:Bool)(sz:Nat):ah→Option (Prop×ah)
 | .rptr dC k n i f=>yO agg sz dC n i f (look k e)
 | .ptr k off=>
  match look k b with
  |some cs=>if agg then some (h2 cs=true∧off+sz≤cs.length,.agg ((cs.drop off).take sz))else(cs[off]?).map fun p=>(h2 cs=true,p)
  |none=>none
 | .eptr p=>if agg then some (isAgg sz p,p)else some (eL p=true∧cells p=[p],p)
 |_=>none
def Ci(agg:Bool)(sz:Nat):ah→Option (Prop×ah)
 | .eptr p=>if agg then some (isAgg sz p,p)else some (eL p=true∧cells p=[p],p)
 |_=>none
theorem ac7{b:List (aJ×List ah)}{e:List (aJ×fL)}{agg:Bool}{sz:Nat}{p:ah}{r:Prop×ah}(h:Ci agg sz p=some r):mI b e agg sz p=some r:=by
 cases p<;>simp only[Ci]at h<;>first|cases h;done|skip
 simpa only[mI]using h
theorem ag2{b:List (aJ×List ah)}{e:List (aJ×fL)}{agg:Bool}{sz:Nat}{p:ah}{r:Prop×ah}(h:mI b [] agg sz p=some r):mI b e agg sz p=some r:=by cases p<;>simp only[mI]at h⊢ <;>first|exact h|(simp[look,yO]at h)
def pV(off:Nat)(agg:Bool)(sz:Nat):ah→Option (Prop×ah)
 | .ptr k o=>some (True,.ptr k (o+off))
 | .rptr dC k n i f=>some (True,.rptr dC k n i (f+off))
 | .eptr (.agg cs)=>if agg then some (off+sz≤cs.length,.eptr (.agg ((cs.drop off).take sz)))else(cs[off]?).map fun p=>(eL p=true∧cells p=[p],.eptr p)
 |_=>none
def rF(off:Nat)(agg:Bool)(sz:Nat):ah→Option (Prop×ah)
 | .agg cs=>if agg then some (off+sz≤cs.length,.agg ((cs.drop off).take sz))else(cs[off]?).map fun p=>(True,p)
 |_=>none
def Ao(sz:Nat):ah→ah→Option (Prop×ah)
 | .slice dC _ xs,.int _ i=>if dC=sz then some (0≤i∧i<xs.length,.eptr (xs.getD i.toNat .junk))else none
 | .row dC k n,.int _ i=>if dC=sz then some (0≤i∧i<n,.rptr dC k n i.toNat 0)else none
 |_,_=>none
def HR:ah→ah→Option (Prop×ah)
 | .str s,.int _ i=>some (0≤i∧i<s.length,.int .u8 (s.getD i.toNat 0).toNat)
 |_,_=>none
def q6(Fg:Int):Option ah→Option Int
 |none=>some Fg
 |some (.int _ i)=>some i
 |_=>none
def HX(x:ah)(lo hi:Option ah):Option (Prop×ah):=
 match x with
 | .str s=>match q6 0 lo,q6 s.length hi with
  |some l,some h=>some (0≤l∧l≤h∧h≤s.length,.str ((s.take h.toNat).drop l.toNat))
  |_,_=>none
 |_=>none
def GG(sz:Nat)(x:ah)(lo hi:Option ah):Option (Prop×ah):=
 match x with
 | .slice dC _ xs=>if dC=sz then match q6 0 lo,q6 xs.length hi with
  |some l,some h=>some (0≤l∧l≤h∧h≤xs.length,.slice sz .no ((xs.take h.toNat).drop l.toNat))
  |_,_=>none else none
 |_=>none
def oK(n:Int):Prop:= -9223372036854775808≤n∧n≤9223372036854775807
def cm(op:BinOp)(wr:Bool)(k:IntKind)(a b:Int):Option (Prop×ah):=
 match op with
 | .add=>if wr then some (True,.int k (k.wrap (a+b)))else some (k= .i64∧oK (a+b),.int .i64 (a+b))
 | .sub=>if wr then some (True,.int k (k.wrap (a-b)))else some (k= .i64∧oK (a-b),.int .i64 (a-b))
 | .mul=>if wr then some (True,.int k (k.wrap (a*b)))else some (k= .i64∧oK (a*b),.int .i64 (a*b))
 | .quo=>some (b≠0,.int k (k.wrap (a.tdiv b)))
 | .rem=>some (b≠0,.int k (a.tmod b))
 | .eql=>some (True,.bool (a==b))
 | .neq=>some (True,.bool (a !=b))
 | .lss=>some (True,.bool (decide (a<b)))
 | .leq=>some (True,.bool (decide (a≤b)))
 | .gtr=>some (True,.bool (decide (b<a)))
 | .geq=>some (True,.bool (decide (b≤a)))
 | .and=>some (True,.int k (k.wrap (lX k.bits a&&& lX k.bits b).toNat))
 | .or=>some (True,.int k (k.wrap (lX k.bits a|||lX k.bits b).toNat))
 | .xor=>some (True,.int k (k.wrap (lX k.bits a ^^^ lX k.bits b).toNat))
 |_=>none
def HY(op:BinOp)(a b:List cQ):Option (Prop×ah):=
 match op with
 | .add=>some (a.length+b.length≤lim,.str (a++b))
 | .eql=>some (True,.bool (a==b))
 | .neq=>some (True,.bool (!(a==b)))
 | .lss=>some (True,.bool (hB a b))
 | .leq=>some (True,.bool (hB a b||a==b))
 | .gtr=>some (True,.bool (!(hB a b||a==b)))
 | .geq=>some (True,.bool (!hB a b))
 |_=>none
def b6(op:BinOp)(wr:Bool):ah→ah→Option (Prop×ah)
 | .int k a,.int k' b=>match op with
  | .shl=>some (0≤b,.int k (k.wrap (a*2 ^ (min b.toNat k.bits))))
  | .shr=>some (0≤b,.int k (a.fdiv (2 ^ (min b.toNat k.bits))))
  |_=>if k=k' then cm op wr k a b else none
 | .str a,.str b=>HY op a b
 |_,_=>none
def nZ(cs:List ah)(off:Nat)(cq:List ah):List ah:=cs.take off++cq++cs.drop (off+cq.length)
def uk(t:List (Nat×ah)):List ah→List (Nat×Nat×dq)→Option (Prop×List ah)
 |cs,[]=>some (True,cs)
 |cs,(off,sz,x)::r=>
  let p:=cj t x
  match uk t (nZ cs off (cells p)) r with
  |some (c,cs')=>some ((eL p=true∧(cells p).length=sz∧off+sz≤cs.length)∧c,cs')
  |none=>none
def G6(c x y:ah):Option (Prop×ah):=
 match c with
 | .bool b=>match x,y with
  | .bool u,.bool v=>some (True,.bool (cond b u v))
  |p,q=>match b with
   |true=>some (True,p)
   |false=>some (True,q)
 |_=>none
def GV:ah→Option (Prop×ah)
 | .bool b=>some (True,.bool (!b))
 |_=>none
def GR:ah→Option (Prop×ah)
 | .int k n=>some (True,.int k (k.wrap (0-n)))
 |_=>none
def zw(i:Nat):ah→Option (Prop×ah)
 | .tuple a7=>(a7[i]?).map fun p=>(True,p)
 |_=>none
def AE:ah→Option (Prop×ah)
 | .slice _ _ xs=>some (True,.int .i64 xs.length)
 | .row _ _ n=>some (True,.int .i64 n)
 | .cst (.slice _ n _)=>some (True,.int .i64 n)
 |_=>none
def D5:ah→Option (Prop×ah)
 | .str s=>some (True,.int .i64 s.length)
 | .cst (.string s)=>some (True,.int .i64 s.size)
 |_=>none
def Fb(k:IntKind):ah→Option (Prop×ah)
 | .int _ n=>some (True,.int k (k.wrap n))
 |_=>none
def AO:ah→Option (Prop×ah)
 | .ptr k o=>some (True,.ptr k o)
 | .eptr p=>some (True,.eptr p)
 | .func f cs=>some (True,.func f cs)
 |_=>none
def GP:ah→ah→Option (Prop×ah)
 | .int k a,.int k' b=>if k=k' then some (True,.int k (if b<a then b else a))else none
 |_,_=>none
def j8:List Bool→List ah→List ah→Option Bool
 |[],[],[]=>some true
 |false::r,.int k a::as,.int k' b::eV=>if k=k' then(j8 r as eV).map fun q=>(a==b)&&q else none
 |true::r,.str a::as,.str b::eV=>(j8 r as eV).map fun q=>(a==b)&&q
 |_,_,_=>none
inductive jD where
 |i
 |s
 |a (dH:List Bool)
 deriving DecidableEq
def tq:jD→ah→ah→Option Bool
 | .i,.int k a,.int k' b=>if k=k' then some (a==b)else none
 | .s,.str a,.str b=>some (a==b)
 | .a dH,.agg as,.agg eV=>j8 dH as eV
 |_,_,_=>none
def uR:jD→ah→Bool
 | .a dH,.agg as=>(j8 dH as as).isSome
 | .a _,_=>false
 |_,_=>true
@[simp] theorem Um(k:ah):uR .i k=true:=by cases k<;>rfl
@[simp] theorem apd(k:ah):uR .s k=true:=by cases k<;>rfl
def wH(b7:jD)(k:ah):List ah→Option (Option ah)
 |k'::v::r=>match tq b7 k k' with
  |some true=>some (some v)
  |some false=>wH b7 k r
  |none=>none
 |_=>some none
def nT(b:aJ→Option (List ah))(b7:jD)(zero:ah)(ok:Bool)(x k:ah):Option (Prop×ah):=
 match x with
 | .gmap key=>match b key with
  |some (.hdm _ _::kvs)=>if uR b7 k=false then none else match wH b7 k kvs with
   |some (some v)=>some (True,if ok then .tuple [v,.bool true]else v)
   |some none=>some (True,if ok then .tuple [zero,.bool false]else zero)
   |none=>none
  |_=>none
 |_=>none
def u3(b:aJ→Option (List ah))(x:ah):Option (Prop×ah):=
 match x with
 | .gmap key=>match b key with
  |some (.hdm _ borns::_)=>some (True,.int .i64 borns.length)
  |_=>none
 |_=>none
def hN(neg:Bool):Option (List Bool)→ah→ah→Option (Prop×ah)
 |none,.bool a,.bool b=>some (True,.bool (if neg then a !=b else a==b))
 |some dH,.agg as,.agg eV=>(j8 dH as eV).map fun q=>(True,.bool (if neg then !q else q))
 |_,_,_=>none
def GK:ah→ah→Option (Prop×ah)
 | .int k a,.int k' b=>if k=k' then some (True,.int k (if a<b then b else a))else none
 |_,_=>none
def u4(b7:jD)(k v:ah):List ah→Option (Option (List ah))
 |k'::v'::r=>match tq b7 k k' with
  |some true=>some (some (k::v::r))
  |some false=>match u4 b7 k v r with
   |some (some eg)=>some (some (k'::v'::eg))
   |some none=>some none
   |none=>none
  |none=>none
 |_=>some none
def mJ(n:Nat):List Nat→List ah→Option ah
 |b::eV,k::v::r=>if b=n then some (.tuple [k,v])else mJ n eV r
 |_,_=>none
def pz(b:aJ→Option (List ah))(x:ah):Option (Prop×ah):=
 match x with
 | .ptr fp 0=>match b fp with
  |some [.hdi _ seen last,.gmap mk]=>match b mk with
   |some (.hdm clock borns::kvs)=>match seen.getLast? with
    |some n=>(mJ n borns kvs).map fun p=>(clock=last,p)
    |none=>none
   |_=>none
  |_=>none
 |_=>none
theorem U1{f g:aJ→Option (List ah)}(h:∀k,f k≠none→g k=f k){b7:jD}{zero:ah}{ok:Bool}{x k:ah}{r:Prop×ah}(he:nT f b7 zero ok x k=some r):nT g b7 zero ok x k=some r:=by
 unfold nT at he⊢;split at he
 ·rename_i key;cases aO:f key with
  |none=>simp[aO]at he
  |some cs=>rw[h key (by rw[aO];simp),aO];rw[aO]at he;exact he
 ·cases he
theorem ahx{f g:aJ→Option (List ah)}(h:∀k,f k≠none→g k=f k){x:ah}{r:Prop×ah}(he:u3 f x=some r):u3 g x=some r:=by
 unfold u3 at he⊢;split at he
 ·rename_i key;cases aO:f key with
  |none=>simp[aO]at he
  |some cs=>rw[h key (by rw[aO];simp),aO];rw[aO]at he;exact he
 ·cases he
theorem ahf{f g:aJ→Option (List ah)}(h:∀k,f k≠none→g k=f k){x:ah}{r:Prop×ah}(he:pz f x=some r):pz g x=some r:=by
 unfold pz at he⊢;split at he
 ·rename_i fp;cases aO:f fp with
  |none=>simp[aO]at he
  |some cs=>
   simp only[h fp (by rw[aO];simp),aO]at he⊢;split at he
   ·rename_i since seen last mk df;cases uE:f mk with
    |none=>simp[uE]at he
    |some eO=>simp only[h mk (by rw[uE];simp),uE]at he⊢;exact he
   ·cases he
 ·cases he
inductive fX where
 |mov (x:dq)
 |pick (c x y:dq)
 |load (agg:Bool) (sz:Nat) (x:dq)
 |faddr (off:Nat) (agg:Bool) (sz:Nat) (x:dq)
 |fld (off:Nat) (agg:Bool) (sz:Nat) (x:dq)
 |iaddr (sz:Nat) (x i:dq)
 |sidx (x i:dq)
 |ssl (x:dq) (lo hi:Option dq)
 |lsl (sz:Nat) (x:dq) (lo hi:Option dq)
 |bin (op:BinOp) (wr:Bool) (x y:dq)
 |notB (x:dq)
 |neg (x:dq)
 |conv (k:IntKind) (x:dq)
 |ext (i:Nat) (x:dq)
 |len (x:dq)
 |slen (x:dq)
 |build (zero:List ah) (parts:List (Nat×Nat×dq))
 |nck (x:dq)
 |min2 (x y:dq)
 |mkf (n:Nat) (xs:List dq)
 |mget (b7:jD) (zero:ah) (ok:Bool) (x k:dq)
 |ment (x:dq)
 |mlen (x:dq)
 |beq (neg:Bool) (dH:Option (List Bool)) (x y:dq)
 |max2 (x y:dq)
 |mkif (t:Nat) (x:dq)
 |loadB (agg:Bool) (sz:Nat) (x:dq)
 |mgetB (b7:jD) (zero:ah) (ok:Bool) (x k:dq)
 |loadZ (agg:Bool) (sz:Nat) (x:dq)
def hr(st:bh):fX→Option (Prop×ah)
 | .mov x=>some (True,cj st.t x)
 | .pick c x y=>G6 (cj st.t c) (cj st.t x) (cj st.t y)
 | .load agg sz x=>mI st.b st.e agg sz (cj st.t x)
 | .faddr off agg sz x=>pV off agg sz (cj st.t x)
 | .fld off agg sz x=>rF off agg sz (cj st.t x)
 | .iaddr sz x i=>Ao sz (cj st.t x) (cj st.t i)
 | .sidx x i=>HR (cj st.t x) (cj st.t i)
 | .ssl x lo hi=>HX (cj st.t x) (lo.map (cj st.t)) (hi.map (cj st.t))
 | .lsl sz x lo hi=>GG sz (cj st.t x) (lo.map (cj st.t)) (hi.map (cj st.t))
 | .bin op wr x y=>b6 op wr (cj st.t x) (cj st.t y)
 | .notB x=>GV (cj st.t x)
 | .neg x=>GR (cj st.t x)
 | .conv k x=>Fb k (cj st.t x)
 | .ext i x=>zw i (cj st.t x)
 | .len x=>AE (cj st.t x)
 | .slen x=>D5 (cj st.t x)
 | .build zero parts=>(uk st.t zero parts).map fun(c,cs)=>(c,.agg cs)
 | .nck x=>AO (cj st.t x)
 | .min2 x y=>GP (cj st.t x) (cj st.t y)
 | .mkf n xs=>some (True,.func n (xs.map (cj st.t)))
 | .mget b7 zero ok x k=>nT (fun k=>look k st.b) b7 zero ok (cj st.t x) (cj st.t k)
 | .ment x=>pz (fun k=>look k st.b) (cj st.t x)
 | .mlen x=>u3 (fun k=>look k st.b) (cj st.t x)
 | .beq neg dH x y=>hN neg dH (cj st.t x) (cj st.t y)
 | .max2 x y=>GK (cj st.t x) (cj st.t y)
 | .mkif t x=>some (True,.iface t (cj st.t x))
 | .loadB agg sz x=>mI st.b [] agg sz (cj st.t x)
 | .mgetB b7 zero ok x k=>nT (fun k=>look k st.b) b7 zero ok (cj st.t x) (cj st.t k)
 | .loadZ agg sz x=>Ci agg sz (cj st.t x)
def A2(bs:List (Nat×dx))(dH:List (Nat×Nat)):List (Nat×Nat×dq)→List (Nat×Operand)→Bool
 |[],[]=>true
 |(off,sz,x)::r,(i,o)::s=>(match dH[i]? with|some (wN,t)=>off==wN&&((ea bs t).map (·.size))==some sz|none=>false)&&ee x o&&A2 bs dH r s
 |_,_=>false
def Ip:ah→ah→Bool
 | .int k n,.int k' n'=>decide (k=k'∧n=n')
 | .bool b,.bool bV=>b==bV
 | .str [],.str []=>true
 | .slice a .nil [],.slice b .nil []=>a==b
 | .nilp,.nilp=>true
 | .junk,.junk=>true
 |_,_=>false
def y4:List ah→List ah→Bool
 |[],[]=>true
 |c::cs,d::eO=>Ip c d&&y4 cs eO
 |_,_=>false
def BH:ah→ah→Bool
 | .agg cs,.agg eO=>y4 cs eO
 | .agg _,_=>false
 |p,q=>Ip p q
def yB:List dq→List Operand→Bool
 |[],[]=>true
 |x::xs,o::os=>ee x o&&yB xs os
 |_,_=>false
def zE(bs:List (Nat×dx)):Nat→List Bool→List (Nat×Nat)→Bool
 |_,[],[]=>true
 |n,b::r,(off,t)::dH=>off==n&&(match ea bs t with|some ⟨_,_,.int _,_⟩=> !b|some ⟨_,_,.str,_⟩=>b|_=>false)&&zE bs (n+1) r dH
 |_,_,_=>false
def Ft(bs:List (Nat×dx))(dH:List Bool)(t:Nat):Bool:=match ea bs t with
 |some ⟨_,_,.struct gs,_⟩=>zE bs 0 dH gs
 |_=>false
def yg(bs:List (Nat×dx))(b7:jD)(t:Nat):Bool:=match b7 with
 | .i=>(match ea bs t with|some ⟨_,_,.int _,_⟩=>true|_=>false)
 | .s=>(match ea bs t with|some ⟨_,_,.str,_⟩=>true|_=>false)
 | .a dH=>Ft bs dH t
def Od:List ah→ah→Bool
 |cs,.agg eO=>y4 cs eO
 |_,_=>false
def wP:Option dq→Option Operand→Bool
 |none,none=>true
 |some x,some o=>ee x o
 |_,_=>false
def Ed(bs:List (Nat×dx)):fX→Op→Bool
 | .mov x,.move o=>ee x o
 | .mov x,.assign o=>ee x o
 | .pick c x y,.pick cf Yx YA=>ee c cf&&ee x Yx&&ee y YA
 | .load agg sz x,.load t o=>(match ea bs t with|some f=>f.size==sz&&f.kind.isAgg==agg|none=>false)&&ee x o
 | .faddr off agg sz x,.fieldAddr s o i=>
  (match ea bs s with
   |some ⟨_,_,.struct dH,_⟩=>(match dH[i]? with|some (wN,t)=>off==wN&&(match ea bs t with|some f=>f.size==sz&&f.kind.isAgg==agg&&sz !=0|none=>false)|none=>false)
   |_=>false)&&ee x o
 | .fld off agg sz x,.field s o i=>
  (match ea bs s with
   |some ⟨_,_,.struct dH,_⟩=>(match dH[i]? with|some (wN,t)=>off==wN&&(match ea bs t with|some f=>f.size==sz&&f.kind.isAgg==agg|none=>false)|none=>false)
   |_=>false)&&ee x o
 | .iaddr sz x i,.indexAddr t o j=>(match ea bs t with|some ⟨_,_,.slice e,_⟩=>(match ea bs e with|some f=>f.size==sz|none=>false)|_=>false)&&ee x o&&ee i j
 | .sidx x i,.index t o j=>(match ea bs t with|some ⟨_,_,.str,_⟩=>true|_=>false)&&ee x o&&ee i j
 | .ssl x lo hi,.slice t o l h none=>(match ea bs t with|some ⟨_,_,.str,_⟩=>true|_=>false)&&ee x o&&wP lo l&&wP hi h
 | .lsl sz x lo hi,.slice t o l h none=>(match ea bs t with|some ⟨_,_,.slice e,_⟩=>(match ea bs e with|some f=>f.size==sz|none=>false)|_=>false)&&ee x o&&wP lo l&&wP hi h
 | .bin op _ x y,.binOp VF _ o o' _=>decide (op=VF)&&ee x o&&ee y o'
 | .notB x,.unOp op _ o=>decide (op= .not)&&ee x o
 | .neg x,.unOp op _ o=>decide (op= .neg)&&ee x o
 | .conv k x,.convert s d o=>(match ea bs s,ea bs d with|some ⟨_,_,.int _,_⟩,some ⟨_,_,.int k',_⟩=>decide (k=k')|_,_=>false)&&ee x o
 | .ext i x,.extract o j=>i==j&&ee x o
 | .len x,.call ⟨.builtin .len,⟨[o]⟩,⟨[t]⟩⟩=>(match ea bs t with|some ⟨_,_,.slice _,_⟩=>true|_=>false)&&ee x o
 | .slen x,.call ⟨.builtin .len,⟨[o]⟩,⟨[t]⟩⟩=>(match ea bs t with|some ⟨_,_,.str,_⟩=>true|_=>false)&&ee x o
 | .build zero parts,.build t cq=>(match ea bs t with|some ⟨_,_,.struct dH,z⟩=>Od zero z&&(dH.all fun x=>(ea bs x.2).isSome)&&A2 bs dH parts cq.toList|_=>false)
 | .nck x,.nilCheck o=>ee x o
 | .min2 x y,.call ⟨.builtin .min,⟨[o,o']⟩,⟨[_,_]⟩⟩=>ee x o&&ee y o'
 | .mkf n xs,.makeFunc (.func m) ⟨[]⟩ os=>n==m&&yB xs os.toList
 | .mget b7 zero ok x k,.lookup t o o' GW=>ok==GW&&(match ea bs t with|some ⟨_,_,.map mH pb,_⟩=>yg bs b7 mH&&(match ea bs pb with|some f=>BH zero f.zero|none=>false)|_=>false)&&ee x o&&ee k o'
 | .ment x,.entry o=>ee x o
 | .mlen x,.call ⟨.builtin .len,⟨[o]⟩,⟨[t]⟩⟩=>(match ea bs t with|some ⟨_,_,.map _ _,_⟩=>true|_=>false)&&ee x o
 | .beq neg dH x y,.binOp op t o o' _=>decide (op=if neg then .neq else .eql)&&(match dH with|none=>(match ea bs t with|some ⟨_,_,.bool,_⟩=>true|_=>false)|some dH=>Ft bs dH t)&&ee x o&&ee y o'
 | .max2 x y,.call ⟨.builtin .max,⟨[o,o']⟩,⟨[_,_]⟩⟩=>ee x o&&ee y o'
 | .mkif t x,.makeInterface dF o=>t==dF&&(match ea bs t with|some ⟨_,_,.slice _,_⟩=>true|_=>false)&&ee x o
 | .loadB agg sz x,.load t o=>(match ea bs t with|some f=>f.size==sz&&f.kind.isAgg==agg|none=>false)&&ee x o
 | .loadZ agg sz x,.load t o=>(match ea bs t with|some f=>f.size==sz&&f.kind.isAgg==agg|none=>false)&&ee x o
 | .mgetB b7 zero ok x k,.lookup t o o' GW=>ok==GW&&(match ea bs t with|some ⟨_,_,.map mH pb,_⟩=>yg bs b7 mH&&(match ea bs pb with|some f=>BH zero f.zero|none=>false)|_=>false)&&ee x o&&ee k o'
 |_,_=>false
end Go.Pv
namespace Go.Pv
open Go Go.RowKit
theorem JC(P:cA)(w:World)(op:BinOp)(t:gL)(x y:Operand)(k k':IntKind)(m n:Int):(eqGuard op t x y (.int k m) (.int k' n)).run P w= .ok () w:=by cases op<;>rfl
theorem Z8(P:cA)(w:World)(op:BinOp)(t:gL)(x y:Operand)(m n:ByteArray):(eqGuard op t x y (.string m) (.string n)).run P w= .ok () w:=by cases op<;>rfl
theorem alO(l:List cQ):(⟨l.toArray⟩:ByteArray).toList=l:=by simp
theorem Zj(a b:List cQ):(⟨a.toArray⟩:ByteArray)++(⟨b.toArray⟩:ByteArray)=⟨(a++b).toArray⟩:=by apply amZ;simp
theorem aa2(a:List cQ)(l h:Nat):(⟨a.toArray⟩:ByteArray).extract l h=⟨((a.take h).drop l).toArray⟩:=by apply amZ;simp[List.drop_take]
theorem D4(a:List cQ):(⟨a.toArray⟩:ByteArray).size=a.length:=by simp[arT]
section
variable {P:cA} {w:World} {r:Sem Value}
theorem rH{k:IntKind}{x:Int}(h:r.run P w= .ok (.int k x) w):∃v,r.run P w= .ok v w∧∀ν,a6 w ν (.int k x) v:=⟨_,h,fun ν=>by simp[a6]⟩
theorem Sq{x:Bool}(h:r.run P w= .ok (.bool x) w):∃v,r.run P w= .ok v w∧∀ν,a6 w ν (.bool x) v:=⟨_,h,fun ν=>by simp[a6]⟩
end
theorem agc(P:cA)(w:World){op:BinOp}{wr:Bool}{k:IntKind}{a b:Int}{c:Prop}{p:ah}(he:cm op wr k a b=some (c,p))(ar:c)(t:gL):
  ∃v,(binOp op t (.int k a) (.int k b)).run P w= .ok v w∧∀ν,a6 w ν p v:=by
 cases op<;>simp only[cm]at he;case add=>
  cases wr<;>simp only[if_true,gC,if_false]at he<;>cases he
  ·obtain⟨rfl,h⟩:=ar;exact rH (by simp[binOp,Op.intArith,ml _ h])
  ·exact rH (by simp[binOp,Op.intArith])
 case sub=>
  cases wr<;>simp only[if_true,gC,if_false]at he<;>cases he
  ·obtain⟨rfl,h⟩:=ar;exact rH (by simp[binOp,Op.intArith,ml _ h])
  ·exact rH (by simp[binOp,Op.intArith])
 case mul=>
  cases wr<;>simp only[if_true,gC,if_false]at he<;>cases he
  ·obtain⟨rfl,h⟩:=ar;exact rH (by simp[binOp,Op.intArith,ml _ h])
  ·exact rH (by simp[binOp,Op.intArith])
 case quo=>cases he;exact rH (by simp[binOp,Op.intDiv,ar])
 case rem=>cases he;exact rH (by simp[binOp,Op.intDiv,ar])
 case and=>cases he;exact rH (by simp only[binOp,Op.intBits,ne_eq,not_true_eq_false,if_false,gq])
 case or=>cases he;exact rH (by simp only[binOp,Op.intBits,ne_eq,not_true_eq_false,if_false,gq])
 case xor=>cases he;exact rH (by simp only[binOp,Op.intBits,ne_eq,not_true_eq_false,if_false,gq])
 all_goals cases he
 all_goals exact Sq (by simp only[binOp,Op.intCmp,ne_eq,not_true_eq_false,if_false,gq,gt_iff_lt,ge_iff_le])
theorem alA(P:cA)(w:World){op:BinOp}{a b:List cQ}{c:Prop}{p:ah}(he:HY op a b=some (c,p))(ar:c)(t:gL):
  ∃v,(binOp op t (.string ⟨a.toArray⟩) (.string ⟨b.toArray⟩)).run P w= .ok v w∧∀ν,a6 w ν p v:=by
 cases op<;>simp only[HY]at he;case add=>
  cases he;refine⟨.string ⟨(a++b).toArray⟩,?_,fun ν=>by simp only[a6];exact⟨trivial,by simpa using ar⟩⟩;have J:¬(((⟨a.toArray⟩:ByteArray).size+(⟨b.toArray⟩:ByteArray).size:Nat):Int)>mN.max:=by
   have:mN.max=9223372036854775807:=by decide
   rw[this,D4,D4];simp only[lim]at ar;omega
  simp only[binOp,Op.stringOp,J,if_false,gq,Zj]
 all_goals cases he
 all_goals exact Sq (by simp only[binOp,Op.stringOp,alO,gq])
theorem Zy(P:cA)(w:World)(ν:a8){op:BinOp}{wr:Bool}{x y:ah}{c:Prop}{p:ah}(he:b6 op wr x y=some (c,p))(ar:c)(t:gL){u v:Value}(hu:a6 w ν x u)(aI:a6 w ν y v)(o o':Operand):
  ∃r,(do eqGuard op t o o' u v;binOp op t u v).run P w= .ok r w∧a6 w ν p r:=by
 unfold b6 at he;split at he
 ·rename_i k a k' b;simp only[a6]at hu aI;subst hu;subst aI;split at he
  ·cases he;refine⟨_,?_,by simp[a6];rfl⟩;simp[binOp,Op.shift,JC,Int.not_lt.2 ar]
  ·cases he;refine⟨_,?_,by simp[a6];rfl⟩;simp[binOp,Op.shift,JC,Int.not_lt.2 ar]
  ·split at he
   ·rename_i ad;subst ad;obtain⟨r,J,U⟩:=agc P w he ar t;exact⟨r,by simp[JC,J],U ν⟩
   ·cases he
 ·simp only[a6]at hu aI;rw[hu.1,aI.1];obtain⟨r,J,U⟩:=alA P w he ar t;exact⟨r,by simp[Z8,J],U ν⟩
 ·cases he
theorem JX{w:World}{ν:a8}:∀(v:List Value) (i off:Nat) (cs:Array Value),off+i+v.length≤cs.size→
  ((v.zipIdx i).foldl (fun cs (x:Value×Nat)=>cs.setIfInBounds (off+x.2) x.1) cs).toList=cs.toList.take (off+i)++v++cs.toList.drop (off+i+v.length)
 |[],i,off,cs,_=>by simp
 |u::v,i,off,cs,h=>by
  simp only[List.zipIdx_cons,List.foldl_cons];rw[JX (w:=w) (ν:=ν) v (i+1) off _ (by simp at h⊢;omega)];have bm:off+i<cs.toList.length:=by simp at h⊢;omega
  simp only[Array.toList_setIfInBounds];have ai:(cs.toList.set (off+i) u).take (off+(i+1))=cs.toList.take (off+i)++[u]:=by rw[show off+(i+1)=(off+i)+1 from by omega,List.take_succ_eq_append_getElem (by simpa using bm)];simp[List.take_set_of_le (ff _)]
  have ax:(cs.toList.set (off+i) u).drop (off+(i+1)+v.length)=cs.toList.drop (off+i+(u::v).length):=by rw[List.drop_set_of_lt (by omega)];congr 1;simp;omega
  rw[ai,ax];simp
theorem Xd{w:World}{ν:a8}{C:fh}{st:bh}{a:Act}(aK:cX C st a w ν){bs:List (Nat×dx)}{dH:List (Nat×Nat)}{tF:List (Nat×Nat)}
  (bB:∀(i off t sz:Nat),dH[i]? =some (off,t)→(ea bs t).map (·.size)=some sz→tF[i]? =some (off,sz)):
  ∀(parts:List (Nat×Nat×dq)) (cq:List (Nat×Operand)) (cs:List ah) (us:Array Value) (c:Prop) (cs':List ah),A2 bs dH parts cq=true→dg w ν cs us.toList→uk st.t cs parts=some (c,cs')→c→
  ∃b8:Array Value,Instr.fill (tF.toArray[·]?) us (cq.map fun(x:Nat×Operand)=>(x.1,a.eval x.2))=some b8∧dg w ν cs' b8.toList
 |[],[],cs,us,c,cs',_,h,he,ar=>by simp only[uk]at he;cases he;exact⟨us,by simp[Instr.fill],h⟩
 |[],_::_,_,_,_,_,dT,_,_,_=>by simp[A2]at dT
 |_::_,[],_,_,_,_,dT,_,_,_=>by simp[A2]at dT
 |(off,sz,x)::parts,(i,o)::cq,cs,us,c,cs',dT,h,he,ar=>by
  simp only[A2,cx]at dT;obtain⟨⟨J,U⟩,ao⟩:=dT;split at J
  ·rename_i wN t CA;simp only[cx,dK]at J;obtain⟨rfl,J⟩:=J;have ti:=bB i off t sz CA J;simp only[uk]at he;split at he
   ·rename_i cf an4 ae;cases he;obtain⟨⟨af,aq,hle⟩,hh⟩:=ar;have ab:=ef aK U;have kU:=vf ab af;have hlen:=pF kU;have rY:=pF h;have kC:(a.eval o).cells.size=sz:=by have:(a.eval o).cells.toList.length=(cells (cj st.t x)).length:=hlen;rw[aq]at this;simpa using this
    have qZ:us.size=cs.length:=by simpa using rY
    have x9:=JX (w:=w) (ν:=ν) (a.eval o).cells.toList 0 off us (by simp[kC,qZ];omega);have lO:dg w ν (nZ cs off (cells (cj st.t x))) ((((a.eval o).cells.toList.zipIdx 0).foldl (fun cs (x:Value×Nat)=>cs.setIfInBounds (off+x.2) x.1) us).toList):=by rw[x9];unfold nZ;refine yK (yK (DR off h) kU) ?_;rw[Nat.add_zero,hlen];exact Bh _ h
    obtain⟨b8,g1,g2⟩:=Xd aK bB parts cq _ _ cf cs' ao lO ae hh;refine⟨b8,?_,g2⟩;simp only[gP,Instr.fill,List.getElem?_toArray,ti];rw[if_neg (by simp[kC,qZ];omega)];rw[←g1];simp only[List.getElem?_toArray];congr 1;rw[←Array.foldl_toList];simp
   ·cases he
  ·cases J
end Go.Pv
namespace Go.Pv
open Go Go.RowKit
theorem vo{P:cA}{bs:List (Nat×dx)}(aL:fP P bs=true){t:Nat}{f:dx}(aO:ea bs t=some f)(w:World):
  (Go.isAgg t).run P w= .ok f.kind.isAgg w∧(sizeOf t).run P w= .ok f.size w:=by
 obtain⟨i,d,z,J,U,ao,a1,b2,dc,dX,hW⟩:=(vp aL aO).ex;refine⟨?_,by simp[sizeOf,typeInfo,J,ao]⟩;simp only[Go.isAgg,fI,run_underlying U,fQ];cases ad:f.kind<;>rw[ad]at b2<;>cases d<;>simp[j9]at b2<;>simp[BN.isAgg]
theorem iX{P:cA}{bs:List (Nat×dx)}(aL:fP P bs=true){t:Nat}{f:dx}(aO:ea bs t=some f):∃d,P.underlying t=some d∧j9 f.kind d=true:=by obtain⟨i,d,z,J,U,ao,a1,b2,dc,dX,hW⟩:=(vp aL aO).ex;exact⟨d,U,b2⟩
theorem sO{e:Nat}{d:TypeDesc}(h:j9 (.slice e) d=true):d= .slice e:=by cases d<;>simp[j9]at h;subst h;rfl
theorem zt{d:TypeDesc}(h:j9 .str d=true):d= .string:=by cases d<;>simp[j9]at h;rfl
theorem Ff{k:IntKind}{d:TypeDesc}(h:j9 (.int k) d=true):d= .int k:=by cases d<;>simp[j9]at h;subst h;rfl
theorem Jo{dH:List (Nat×Nat)}{d:TypeDesc}(h:j9 (.struct dH) d=true):∃gs:Array Field,d= .struct gs∧gs.toList.map (fun f=>(f.offset,f.type))=dH:=by cases d<;>simp[j9]at h;rename_i gs;exact⟨gs,rfl,by simpa using h⟩
theorem Hy{w:World}{ν:a8}{cs:List ah}{us:List Value}(h:dg w ν cs us)(off sz:Nat):dg w ν ((cs.drop off).take sz) ((us.drop off).take sz):=DR sz (Bh off h)
theorem VN{w:World}{base el sz n:Nat}{v:Value}{us:List Value}(h:w.ownsRow base el sz v n us){b:Nat}(ae:v.ownBlock=some b):∃cap,v= .slice (some ⟨b,0,none⟩) n cap:=by
 rcases h.2 with⟨rfl,_⟩|⟨g,cap,cur,rfl,_⟩
 ·simp[n9]at ae
 ·simp[n9]at ae;subst ae;exact⟨cap,rfl⟩
theorem Good.rowElem{pr:Nat→Prop}{w:World}{ν:a8}{b:List (aJ×List ah)}{e:List (aJ×fL)}(aR:Good pr w ν b e){k:aJ}{n el sz:Nat}{xs:List ah}(ad:look k e=some ⟨n,el,sz,some xs⟩){i f:Nat}{u:Value}(ab:a6 w ν (.rptr sz k n i f) u){p:ah}(bB:xs[i]? =some p):
  ∃(v:Value) (us:List Value) (fZ:Nat),a6 w ν p v∧v.cells.size=sz∧∃b o,u= .pointer (some ⟨b,o,none⟩)∧∀j c,v.cells.toList[f+j]? =some c→w.cell? ⟨b,o+j,none⟩=some c:=by
 simp only[a6]at ab;obtain⟨_,hi,n',fc,J,U,ao⟩:=ab;obtain⟨v,us,aV,bf,bI,cN⟩:=aR.own k _ ad;rw[J]at aV;simp only[dw,jB]at aV;obtain⟨rfl,rfl⟩:=aV;obtain⟨bl,ae,rfl⟩:=ao rfl;obtain⟨cap,rfl⟩:=VN bf ae;obtain⟨aq,lO,_⟩:=cN xs rfl;simp only at aq lO;obtain⟨v,ev,e2,nW⟩:=Hv i lO bB;refine⟨v,us,el,ev,e2,bl,_,rfl,fun j c ag=>?_⟩;have bm:f+j<sz:=by have:=(fU.1 ag).1;simp[e2]at this;exact this
 have hmul:i*sz+sz≤n'*sz:=by have:=Nat.mul_le_mul_right sz (show i+1≤n' from hi);rwa[Nat.succ_mul]at this
 have ar:=bf.cellAt (i*sz+f+j) (by show _<n'*sz;omega);rw[ar];rw[nW,List.getElem?_take,if_pos bm,List.getElem?_drop]at ag;rw[←ag];congr 1;omega
theorem GF{P:cA}{bs:List (Nat×dx)}(aL:fP P bs=true){pr:Nat→Prop}{w:World}{ν:a8}{b:List (aJ×List ah)}{e:List (aJ×fL)}(aR:Good pr w ν b e){t:Nat}{f:dx}(aO:ea bs t=some f)
  {x:ah} {u:Value} (ab:a6 w ν x u) {c:Prop} {p:ah} (he:mI b e f.kind.isAgg f.size x=some (c,p)) (ar:c):∃v,(Instr.loadAt t u).run P w= .ok v w∧a6 w ν p v:=by
 obtain⟨bk,af⟩:=vo aL aO w;generalize FE:f.kind.isAgg=e8 at*;generalize et:f.size=sz at*;unfold mI at he;split at he
 ·rename_i dC k n i sU;unfold yO at he;split at he
  ·rename_i n' el jn xs ad;split at he
   ·rename_i au;obtain⟨rfl,rfl⟩:=au;split at he
    ·rename_i ajJ afq;obtain⟨N3,us,fZ,g1,g2,mx⟩:=Good.rowElem aR ad ab afq;have kc:eL ajJ=true:=by
      cases e8
      ·simp only[gC,if_false,gr]at he;obtain⟨q,_,he⟩:=he;cases he;exact ar
      ·simp only[if_true]at he;cases he;exact ar.1
     have df:=vf g1 kc;cases e8
     ·simp only[gC,if_false,gr]at he;obtain⟨q,bu,he⟩:=he;cases he;obtain⟨v,f1,f2,f3⟩:=DQ sU df bu;refine⟨v,?_,f2⟩;obtain⟨b,o,rfl,mx⟩:=mx;have:=mx 0 v (by simpa using f1);simp only[Nat.add_zero]at this;simp[Instr.loadAt,Instr.sureAddr,loadVar,bk,this]
     ·simp only[if_true]at he;cases he;obtain⟨b,o,rfl,mx⟩:=mx;refine⟨.agg ((N3.cells.toList.drop sU).take sz).toArray,?_,by simp only[a6];exact⟨_,rfl,by simpa using Hy df sU sz⟩⟩;have aq:=pF df;have hlen:((N3.cells.toList.drop sU).take sz).length=sz:=by simp only[List.length_take,sC];omega
      have im:=run_loadCells_list (P:=P) w ⟨b,o,none⟩ ((N3.cells.toList.drop sU).take sz) (fun j v ag=>by
       rw[o2];refine mx j v ?_;rw[List.getElem?_take]at ag;split at ag
       ·simpa[List.getElem?_drop]using ag
       ·cases ag)
      rw[hlen]at im;simp only[Instr.loadAt,Instr.sureAddr,loadVar,fI,gq,fQ,bk,if_true,af,im]
    ·cases he
   ·cases he
  ·cases he
 ·rename_i k off;simp only[a6]at ab;obtain⟨bl,J,rfl⟩:=ab;split at he
  ·rename_i cs ad;obtain⟨iA,us,el,g1,g2,g3,g4,g5⟩:=aR.box k cs ad;rw[J]at g1;cases g1;have ti:h2 cs=true:=by
    cases e8
    ·simp only[gC,if_false,gr]at he;obtain⟨q,bu,he⟩:=he;cases he;exact ar
    ·simp only[if_true]at he;cases he;exact ar.1
   rw[u7 ti]at g4;rw[u9 ti]at g5;have aq:=pF g5;cases e8
   ·simp only[gC,if_false,gr]at he;obtain⟨q,bu,he⟩:=he;cases he;obtain⟨v,f1,f2,f3⟩:=DQ off g5 bu;refine⟨v,?_,f2⟩;have mx:w.cell? ⟨bl,off,none⟩=some v:=by simpa[World.cell?,g4]using f1
    simp[Instr.loadAt,Instr.sureAddr,loadVar,bk,mx]
   ·simp only[if_true]at he;cases he;replace ar:=ar.2;refine⟨_,?_,by simp only[a6];exact⟨_,rfl,by simpa using Hy g5 off sz⟩⟩;simp only[Instr.loadAt,Instr.sureAddr,loadVar,fI,gq,fQ,bk,if_true,af];rw[akT g4 (by simp at aq;omega)];rfl
  ·cases he
 ·rename_i q;simp only[a6]at ab;obtain⟨bl,off,fc,rfl,U,ao⟩:=ab;cases e8
  ·simp only[gC,if_false]at he;cases he;obtain⟨Cw,uB⟩:=ar;obtain⟨g1,g2⟩:=Na U Cw (fun cs e=>by subst e;have:=eU List.length uB;simp only[cells,oa,List.length_nil]at this;cases cs with
    |nil=>simp[cells]at uB
    |cons y ys=>simp only[cells,y7]at uB;obtain⟨ai,ax⟩:=uB;subst ax;have:=eU SizeOf.sizeOf ai;simp at this;omega)
   refine⟨fc,?_,U⟩;rw[g2]at ao;have mx:=ao.1.2;simp[Instr.loadAt,Instr.sureAddr,loadVar,bk,mx]
  ·simp only[if_true]at he;cases he;obtain⟨cs,rfl,hlen⟩:=ar;simp only[a6]at U;obtain⟨us,rfl,a1⟩:=U;refine⟨.agg us,?_,by simp only[a6];exact⟨us,rfl,a1⟩⟩;simp only[oY]at ao;have aq:=pF a1;have:=akU (P:=P) ao;rw[show us.toList.length=sz from by omega]at this;simp[Instr.loadAt,Instr.sureAddr,loadVar,bk,af,this]
 ·cases he
theorem acU{P:cA}{bs:List (Nat×dx)}(aL:fP P bs=true){w:World}{ν:a8}{s i:Nat}{f:dx}{dH:List (Nat×Nat)}(aO:ea bs s=some f)(ad:f.kind= .struct dH){off t:Nat}{g:dx}(hi:dH[i]? =some (off,t))(aR:ea bs t=some g)(bD:g.size≠0)
  {x:ah} {u:Value} (ab:a6 w ν x u) {c:Prop} {p:ah} (he:pV off g.kind.isAgg g.size x=some (c,p)) (ar:c):∃v,(Instr.fieldAt s u i).run P w= .ok v w∧a6 w ν p v:=by
 obtain⟨d,aE,eW⟩:=iX aL aO;rw[ad]at eW;obtain⟨gs,rfl,kx⟩:=Jo eW;have qS:∃fd:Field,gs[i]? =some fd∧fd.offset=off∧fd.type=t:=by rw[←kx]at hi;simp only[List.getElem?_map,gr]at hi;obtain⟨fd,J,U⟩:=hi;simp only[jB]at U;exact⟨fd,by simpa using J,U.1,U.2⟩
 obtain⟨fd,FN,av,oG⟩:=qS;obtain⟨bk,af⟩:=vo aL aR w;have im:∀b o,(Instr.fieldAt s (.pointer (some ⟨b,o,none⟩)) i).run P w= .ok (.pointer (some ⟨b,o+off,none⟩)) w:=by intro b o;simp[Instr.fieldAt,run_underlying aE,FN,Instr.sureAddr,fieldPlace,oG,af,bD,o2,av]
 unfold pV at he;split at he
 ·cases he;simp only[a6]at ab;obtain⟨b,J,rfl⟩:=ab;exact⟨_,im _ _,by simp only[a6];exact⟨b,J,rfl⟩⟩
 ·cases he;simp only[a6]at ab;obtain⟨⟨b,o,rfl⟩,hi,n',fc,J,U,ao⟩:=ab;refine⟨_,im _ _,?_⟩;simp only[a6];refine⟨⟨b,_,rfl⟩,hi,n',fc,J,U,fun e=>?_⟩;obtain⟨bV,ai,ax⟩:=ao e;simp only[ar0,dw,Addr.mk.injEq,and_true]at ax;obtain⟨rfl,rfl⟩:=ax;exact⟨b,ai,by rw[Nat.add_assoc]⟩
 ·rename_i cs;simp only[a6]at ab;obtain⟨b,o,fc,rfl,⟨us,rfl,U⟩,ao⟩:=ab;refine⟨_,im _ _,?_⟩;simp only[oY]at ao;split at he
  ·cases he;simp only[a6];exact⟨b,o+off,.agg ((us.toList.drop off).take g.size).toArray,rfl,⟨_,rfl,by simpa using Hy U off g.size⟩,by simpa[oY]using Gy g.size (Gw off ao)⟩
  ·simp only[gr]at he;obtain⟨q,bu,he⟩:=he;cases he;obtain⟨v,f1,f2,f3⟩:=DQ off U bu;simp only[a6];have ae7:=uX ao f1;have afP:v.cells= #[v]:=by cases v<;>first|rfl|cases f3
   exact⟨b,o+off,v,rfl,f2,by rw[afP];exact⟨ae7,trivial⟩⟩
 ·cases he
theorem ac1{P:cA}{bs:List (Nat×dx)}(aL:fP P bs=true){w:World}{ν:a8}{s i:Nat}{f:dx}{dH:List (Nat×Nat)}(aO:ea bs s=some f)(ad:f.kind= .struct dH){off t:Nat}{g:dx}(hi:dH[i]? =some (off,t))(aR:ea bs t=some g)
  {x:ah} {u:Value} (ab:a6 w ν x u) {c:Prop} {p:ah} (he:rF off g.kind.isAgg g.size x=some (c,p)) (ar:c):∃v,(Instr.field s u i).run P w= .ok v w∧a6 w ν p v:=by
 obtain⟨d,aE,eW⟩:=iX aL aO;rw[ad]at eW;obtain⟨gs,rfl,kx⟩:=Jo eW;have qS:∃fd:Field,gs[i]? =some fd∧fd.offset=off∧fd.type=t:=by rw[←kx]at hi;simp only[List.getElem?_map,gr]at hi;obtain⟨fd,J,U⟩:=hi;simp only[jB]at U;exact⟨fd,by simpa using J,U.1,U.2⟩
 obtain⟨fd,FN,av,oG⟩:=qS;obtain⟨bk,af⟩:=vo aL aR w;unfold rF at he;split at he
 ·rename_i cs;simp only[a6]at ab;obtain⟨us,rfl,U⟩:=ab;generalize FE:g.kind.isAgg=e8 at*;cases e8
  ·simp only[gC,if_false,gr]at he;obtain⟨q,bu,he⟩:=he;cases he;obtain⟨v,f1,f2,f3⟩:=DQ off U bu;have aa3:us[off]? =some v:=by simpa using f1
   exact⟨v,by simp[Instr.field,run_underlying aE,FN,asAgg,part,oG,bk,av,aa3],f2⟩
  ·simp only[if_true]at he;cases he;refine⟨.agg (us.extract off (off+g.size)),by simp[Instr.field,run_underlying aE,FN,asAgg,part,oG,bk,av,af],?_⟩;simp only[a6];refine⟨_,rfl,?_⟩;have:=Hy U off g.size;simpa[List.take_drop]using this
 ·cases he
theorem af7{P:cA}{bs:List (Nat×dx)}(aL:fP P bs=true){w:World}{ν:a8}{t e:Nat}{f g:dx}(aO:ea bs t=some f)(ad:f.kind= .slice e)(aR:ea bs e=some g)
  {x y:ah} {u v:Value} (ab:a6 w ν x u) (aD:a6 w ν y v) {c:Prop} {p:ah} (he:Ao g.size x y=some (c,p)) (ar:c):∃r,(Instr.indexAt t u v).run P w= .ok r w∧a6 w ν p r:=by
 obtain⟨d,aE,eW⟩:=iX aL aO;rw[ad]at eW;obtain rfl:=sO eW;obtain⟨bk,af⟩:=vo aL aR w;unfold Ao at he;split at he
 ·rename_i dC tag xs k i;split at he
  ·rename_i et;cases he;simp only[a6]at ab aD;subst aD;subst et;obtain⟨⟨a,cap,rfl,J,U,ao⟩,_⟩:=ab;obtain⟨CF,l7⟩:=ar;have jf:i.toNat<xs.length:=by omega
   rcases ao with rfl|⟨b,off,us,rfl,a1,b2⟩
   ·simp at jf
   ·have ab:xs[i.toNat]? =some xs[i.toNat]:=cb jf;obtain⟨w',ev,e2,nW⟩:=Hv i.toNat b2 ab;refine⟨.pointer (some ⟨b,off+i.toNat*g.size,none⟩),?_,?_⟩
    ·simp only[Instr.indexAt,asIntOf,fI,gq,fQ,run_underlying aE,CF,l7,and_self,if_true,af,o2]
    ·simp only[a6];refine⟨b,off+i.toNat*g.size,w',rfl,by simpa[List.getD,ab]using ev,?_⟩;rw[nW];exact Gy g.size (Gw _ a1)
  ·cases he
 ·rename_i dC k n jw i;split at he
  ·rename_i et;cases he;simp only[a6]at ab aD;subst aD;subst et;obtain⟨⟨b,cap,rfl⟩,U,n',fc,ao,a1,b2⟩:=ab;obtain⟨CF,l7⟩:=ar;refine⟨.pointer (some ⟨b,0+i.toNat*g.size,none⟩),?_,?_⟩
   ·simp only[Instr.indexAt,asIntOf,fI,gq,fQ,run_underlying aE,CF,l7,and_self,if_true,af,o2]
   ·simp only[a6];refine⟨⟨b,_,rfl⟩,by omega,n',fc,ao,a1,fun e=>⟨b,?_,by simp⟩⟩;rw[←b2 e];rfl
  ·cases he
 ·cases he
theorem G1{C:fh}{st:bh}{a:Act}{w:World}{ν:a8}(h:cX C st a w ν){x:Option dq}{o:Option Operand}(ab:wP x o=true){Fg n:Int}(he:q6 Fg (x.map (cj st.t))=some n):
  (o.map a.eval=none∧n=Fg)∨ ∃k,o.map a.eval=some (.int k n):=by
 cases x with
 |none=>cases o with
  |none=>simp[q6]at he;exact .inl ⟨rfl,he.symm⟩
  |some o=>simp[wP]at ab
 |some x=>cases o with
  |none=>simp[wP]at ab
  |some o=>
   simp only[wP]at ab
   have:=ef h ab
   simp only[kN]at he⊢
   cases uD:cj st.t x<;>simp[uD,q6]at he
   rw[uD]at this
   simp only[a6]at this
   subst he
   exact .inr ⟨_,by rw[this]⟩
theorem YC{c d:ah}(h:Ip c d=true):c=d:=by unfold Ip at h;split at h<;>simp_all
theorem N9:∀{cs eO:List ah},y4 cs eO=true→cs=eO
 |[],[],_=>rfl
 |[],_::_,h=>by simp[y4]at h
 |_::_,[],h=>by simp[y4]at h
 |c::cs,d::eO,h=>by simp only[y4,cx]at h;rw[YC h.1,N9 h.2]
theorem amX{cs:List ah}{z:ah}(h:Od cs z=true):z= .agg cs:=by
 cases z<;>simp only[Od]at h;case agg eO=>rw[N9 h]
 all_goals cases h
theorem adX(s:List cQ)(n:Nat)(h:n<s.length):(⟨s.toArray⟩:ByteArray)[n]? =some (s.getD n 0):=by
 have et:n<(⟨s.toArray⟩:ByteArray).size:=by rw[D4];exact h
 have e:(⟨s.toArray⟩:ByteArray)[n]? =some ((⟨s.toArray⟩:ByteArray)[n]'et):=getElem?_pos (⟨s.toArray⟩:ByteArray) n et;rw[e];congr 1;simp[List.getD,h];rfl
theorem HT(P:cA)(w:World)(k:IntKind)(i:Int)(y:Nat)(c:BoundsCode)(bD:0≤i)(J:i≤y):(Instr.sliceBound (.int k i) y c).run P w= .ok i.toNat w:=by simp[Instr.sliceBound,asIntOf,bD,J]
theorem OV(P:cA)(w:World)(agw:Bool)(len cap:Nat)(lo hi:Option Value)(l h:Int)(CH:(lo=none∧l=0)∨ ∃k,lo=some (.int k l))(CE:(hi=none∧h=len)∨ ∃k,hi=some (.int k h))
  (bD:0≤l) (J:l≤h) (U:h≤len) (ar:len≤cap):(Instr.sliceBounds agw len cap lo hi none).run P w= .ok (l.toNat,h.toNat,cap) w:=by
 rcases CH with⟨rfl,rfl⟩|⟨k,rfl⟩<;>rcases CE with⟨rfl,rfl⟩|⟨k',rfl⟩
 ·simp[Instr.sliceBounds]
 ·simp[Instr.sliceBounds,HT P w k' h cap _ (by omega) (by omega)]
 ·simp[Instr.sliceBounds,HT P w k l len _ (by omega) (by omega)]
 ·simp[Instr.sliceBounds,HT P w k' h cap _ (by omega) (by omega),HT P w k l h.toNat _ (by omega) (by omega)]
theorem VT{P:cA}{bs:List (Nat×dx)}(aL:fP P bs=true):∀(gs:List Field),(gs.all fun f=>(ea bs f.type).isSome)=true→
  ∃tF:List (Nat×Nat),gs.mapM (fun f=>(P.info? f.type).map fun i=>(f.offset,i.size))=some tF∧
   ∀(i off t sz:Nat),(gs.map (fun f=>(f.offset,f.type)))[i]? =some (off,t)→(ea bs t).map (·.size)=some sz→tF[i]? =some (off,sz)
 |[],_=>⟨[],by simp,by simp⟩
 |f::gs,h=>by
  simp only[List.all_cons,cx]at h;obtain⟨tF,J,U⟩:=VT aL gs h.2;obtain⟨g,aR⟩:=fB.1 h.1;obtain⟨i,d,z,ai,ax,bn,dp,hT,hU,ry,rz⟩:=(vp aL aR).ex;refine⟨(f.offset,g.size)::tF,by simp[List.mapM_cons,ai,bn,J],fun j off t sz ag et=>?_⟩;cases j with
  |zero=>simp only[gP,List.getElem?_cons_zero,dw,jB]at ag⊢;obtain⟨rfl,rfl⟩:=ag;rw[aR]at et;simpa using et
  |succ j=>simp only[gP,List.getElem?_cons_succ]at ag⊢;exact U j off t sz ag et
theorem ly{P:cA}{w:World}{x:Sem Value}{v:Value}(h:x.run P w= .ok v w):(do pure (Next.value (←x)):Sem Next).run P w= .ok (.value v) w:=by simp[h]
theorem Oc{p q:ah}(h:BH p q=true):p=q:=by
 unfold BH at h;split at h
 ·rw[N9 h]
 ·cases h
 ·exact YC h
theorem Ob(w:World)(ν:a8){p:ah}{v:Value}(h:y5 p v=true):a6 w ν p v∧dg w ν (cells p) v.cells.toList:=by
 by_cases bk:∃cs,p= .agg cs
 ·obtain⟨cs,rfl⟩:=bk;cases v<;>simp only[y5]at h;case agg us=>have:=Oa w ν _ _ h;exact⟨by simp only[a6];exact⟨us,rfl,this⟩,by simpa[cells,oY]using this⟩
  all_goals cases h
 ·have cr:zj p v=true∧v.oneCell'=true:=by cases p<;>simp only[y5,cx]at h<;>first|exact h|exact absurd ⟨_,rfl⟩ bk
  have aK:=IW w ν cr.1;refine⟨aK,?_⟩;have ar:cells p=[p]:=by cases p<;>first|rfl|exact absurd ⟨_,rfl⟩ bk
  have aI:v.cells= #[v]:=by have:=cr.2;cases v<;>first|rfl|simp[Value.oneCell']at this
  rw[ar,aI];simp only[dg];exact⟨v,[],rfl,⟨aK,cr.2⟩,rfl⟩
theorem NI{P:cA}{bs:List (Nat×dx)}(aL:fP P bs=true){t:Nat}{f:dx}(aO:ea bs t=some f)(w:World):∃z,(zeroValue t).run P w= .ok z w∧y5 f.zero z=true∧z.cells.size=f.size:=by obtain⟨i,d,z,J,U,ao,a1,b2,dc,dX,hW⟩:=(vp aL aO).ex;exact⟨z,by simp[zeroValue,typeInfo,J,dc],dX,hW⟩
theorem DS{C:fh}{st:bh}{a:Act}{w:World}{ν:a8}(h:cX C st a w ν):∀{xs:List dq} {os:List Operand},yB xs os=true→cK w ν (xs.map (cj st.t)) (os.map a.eval)
 |[],[],_=>by simp[cK]
 |[],_::_,ad=>by simp[yB]at ad
 |_::_,[],ad=>by simp[yB]at ad
 |x::xs,o::os,ad=>by simp only[yB,cx]at ad;simp only[gP,cK];exact⟨_,_,rfl,ef h ad.1,DS h ad.2⟩
theorem aaa{P:cA}{w:World}{t:gL}(aE:P.underlying t=some .bool)(d:Nat)(a b:Bool):(Op.equalIn (d+1) t (.bool a) (.bool b)).run P w= .ok (a==b) w:=by rw[Op.equalIn];simp only[fI,run_underlying aE,fQ,gq]
theorem aab{P:cA}{w:World}{t:gL}(aE:P.underlying t=some .bool)(a b:Bool):(Op.equal t (.bool a) (.bool b)).run P w= .ok (a==b) w:=aaa aE _ a b
theorem Rm:∀{borns:List Nat} {kvs:List ah} {us:List Value},kvs.length=2*borns.length→us.length=kvs.length→(fC borns us).length=borns.length
 |[],_,us,_,_=>by simp[fC]
 |bV::eV,kvs,[],J,U=>by rw[J]at U;simp at U
 |bV::eV,kvs,[_],J,U=>by rw[J]at U;simp at U;omega
 |bV::eV,kvs,k::v::us,J,U=>by simp only[fC,oa];rw[Rm (kvs:=kvs.drop 2) (us:=us) (borns:=eV) (by simp at J⊢;omega) (by simp at J U⊢;omega)]
theorem W5{w:World}{ν:a8}:∀{cq:List ah} {a7:List Value},cK w ν cq a7→a7.length=cq.length
 |[],a7,h=>by simp only[cK]at h;subst h;rfl
 |p::cq,a7,h=>by simp only[cK]at h;obtain⟨u,b8,rfl,_,U⟩:=h;simp[W5 U]
theorem vi{P:cA}{w:World}{r:Nat}{o:Obj}(ae:w.heap[r]? =some o)(au:∀c e f,o≠ .cells c e f:=by simp):(getObj r).run P w= .ok o w:=by simp only[getObj,Sem.run,ae]
def qx(P:cA):Nat→List Bool→List Field→Prop
 |_,[],[]=>True
 |n,b::r,f::gs=>(f.offset=n∧f.name≠ "_" ∧(if b=true then P.underlying f.type=some .string else∃k,P.underlying f.type=some (.int k)))∧qx P (n+1) r gs
 |_,_,_=>ep
theorem DD{P:cA}{t:gL}{b:Bool}(h:if b=true then P.underlying t=some .string else∃k,P.underlying t=some (.int k)):P.plainKey t=true:=by
 cases b
 ·obtain⟨k,h⟩:=(by simpa using h:∃k,P.underlying t=some (.int k));simp[Program.plainKey,h]
 ·have h:P.underlying t=some .string:=by simpa using h
  simp[Program.plainKey,h]
theorem ZI{P:cA}{w:World}{ν:a8}(d:Nat){X Y:Array Value}(dH:List Bool):∀(gs:List Field) (n:Nat) (as eV:List ah) (us a7:List Value) (q:Bool),qx P n dH gs→X.toList.drop n=us→Y.toList.drop n=a7→dg w ν as us→dg w ν eV a7→j8 dH as eV=some q→
  (Op.eqFields (d+1) X Y gs).run P w= .ok q w∧(q=true→us=a7)∧∀m,(us.zip us).all (fun(x,y)=>Instr.sameBits m x y)=true:=by
 induction dH with
 |nil=>intro gs n as eV us a7 q aR lj nc J U h;cases as<;>cases eV<;>simp only[j8,dw,reduceCtorEq]at h;cases gs<;>simp only[qx]at aR;simp only[dg]at J U;rw[J,U,←h];exact⟨by simp[Op.eqFields],fun _=>rfl,fun m=>rfl⟩
 |cons xF r bP=>
  intro gs n as eV us a7 q aR lj nc J U h;cases gs with
  |nil=>simp only[qx]at aR
  |cons f gs=>
  simp only[qx]at aR;obtain⟨⟨FZ,zY,oG⟩,aR⟩:=aR;cases as with
  |nil=>cases xF<;>cases eV<;>simp[j8]at h
  |cons DB as=>
  cases eV with
  |nil=>cases xF<;>cases DB<;>simp[j8]at h
  |cons G5 eV=>
  cases xF with
  |false=>
   have ar:∃k a b gA,DB= .int k a∧G5= .int k b∧j8 r as eV=some gA∧q=((a==b)&&gA):=by
    cases DB<;>first|(simp[j8]at h;done)|skip
    cases G5<;>first|(simp[j8]at h;done)|skip
    simp only[j8]at h;split at h
    ·rename_i ad;subst ad;simp only[gr]at h;obtain⟨gA,ao,a1⟩:=h;exact⟨_,_,_,gA,rfl,rfl,ao,a1.symm⟩
    ·cases h
   obtain⟨k,a,b,gA,rfl,rfl,ao,rfl⟩:=ar;simp only[dg,a6]at J U;obtain⟨u,b8,rfl,⟨rfl,_⟩,J⟩:=J;obtain⟨v,vs',rfl,⟨rfl,_⟩,U⟩:=U;have DA:X[n]? =some (.int k a):=by rw[←tU,←List.head?_drop,lj];rfl
   have Mr:Y[n]? =some (.int k b):=by rw[←tU,←List.head?_drop,nc];rfl
   obtain⟨i1,i2,i3⟩:=bP gs (n+1) as eV b8 vs' gA aR (by rw[←List.tail_drop,lj];rfl) (by rw[←List.tail_drop,nc];rfl) J U ao;obtain⟨jw,K2⟩:=(by simpa using oG:∃k,P.underlying f.type=some (.int k));refine⟨?_,?_,fun m=>?_⟩
   ·simp only[Op.eqFields,zY,ne_eq,not_false_eq_true,if_true,fI,FZ,run_part_plain w (DD oG) DA,run_part_plain w (DD oG) Mr,fQ,run_equalIn_int w d f.type k jw a b K2];cases ng:(a==b)
    ·simp
    ·simpa using i1
   ·intro bu;simp only[cx,dK]at bu;rw[bu.1,i2 bu.2]
   ·have:=i3 m;simp only[List.zip_cons_cons,List.all_cons,this,Bool.and_true];cases m<;>simp[Instr.sameBits]
  |true=>
   have ar:∃a b gA,DB= .str a∧G5= .str b∧j8 r as eV=some gA∧q=((a==b)&&gA):=by
    cases DB<;>first|(simp[j8]at h;done)|skip
    cases G5<;>first|(simp[j8]at h;done)|skip
    simp only[j8,gr]at h;obtain⟨gA,ao,a1⟩:=h;exact⟨_,_,gA,rfl,rfl,ao,a1.symm⟩
   obtain⟨a,b,gA,rfl,rfl,ao,rfl⟩:=ar;simp only[dg,a6]at J U;obtain⟨u,b8,rfl,⟨⟨rfl,_⟩,_⟩,J⟩:=J;obtain⟨v,vs',rfl,⟨⟨rfl,_⟩,_⟩,U⟩:=U;have DA:X[n]? =some (.string ⟨a.toArray⟩):=by rw[←tU,←List.head?_drop,lj];rfl
   have Mr:Y[n]? =some (.string ⟨b.toArray⟩):=by rw[←tU,←List.head?_drop,nc];rfl
   obtain⟨i1,i2,i3⟩:=bP gs (n+1) as eV b8 vs' gA aR (by rw[←List.tail_drop,lj];rfl) (by rw[←List.tail_drop,nc];rfl) J U ao;have K2:P.underlying f.type=some .string:=by simpa using oG
   refine⟨?_,?_,fun m=>?_⟩
   ·simp only[Op.eqFields,zY,ne_eq,not_false_eq_true,if_true,fI,FZ,run_part_plain w (DD oG) DA,run_part_plain w (DD oG) Mr,fQ,run_equalIn_string w d f.type _ _ K2];have e:((⟨a.toArray⟩:ByteArray).toList==(⟨b.toArray⟩:ByteArray).toList)=(a==b):=by rw[am0,am0]
    rw[e];cases ng:(a==b)
    ·simp
    ·simpa using i1
   ·intro bu;simp only[cx,dK]at bu;rw[bu.1,i2 bu.2]
   ·have:=i3 m;simp only[List.zip_cons_cons,List.all_cons,this,Bool.and_true];cases m<;>simp only[Instr.sameBits]<;>exact(MapKept.bytes_beq _ _).2 rfl
theorem RT{P:cA}{bs:List (Nat×dx)}(aL:fP P bs=true):∀(dH:List Bool) (gs:List Field) (n:Nat),zE bs n dH (gs.map fun f=>(f.offset,f.type))=true→(gs.all (fun f=>match P.underlying f.type with|some (.int _)=>true|some .string=>true|_=>false)=true)∧((∀f∈gs,f.name≠ "_")→qx P n dH gs)
 |[],[],_,_=>⟨rfl,fun _=>trivial⟩
 |[],_::_,_,h=>by simp[zE]at h
 |_::_,[],_,h=>by simp[zE]at h
 |b::r,f::gs,n,h=>by
  simp only[gP,zE,cx,dK]at h;obtain⟨⟨J,U⟩,ao⟩:=h;obtain⟨i1,i2⟩:=RT aL r gs (n+1) ao;split at U
  ·rename_i aO;obtain⟨d,hu,aE⟩:=iX aL aO;obtain rfl:=Ff aE;refine⟨by simp only[List.all_cons,hu,i1,Bool.and_self],fun au=>⟨⟨J,au f (by simp),?_⟩,i2 fun g aR=>au g (by simp[aR])⟩⟩;have:b=false:=by simpa using U
   subst this;simpa using⟨_,hu⟩
  ·rename_i aO;obtain⟨d,hu,aE⟩:=iX aL aO;obtain rfl:=zt aE;refine⟨by simp only[List.all_cons,hu,i1,Bool.and_self],fun au=>⟨⟨J,au f (by simp),?_⟩,i2 fun g aR=>au g (by simp[aR])⟩⟩;subst U;simpa using hu
  ·cases U
theorem RV{P:cA}{bs:List (Nat×dx)}(aL:fP P bs=true){dH:List Bool}{t:Nat}(h:Ft bs dH t=true):∃gs,P.underlying t=some (.struct gs)∧qx P 0 dH gs.toList∧P.stoodInHeld t=false∧P.eqGuardType P.depth t=false:=by
 unfold Ft at h;split at h
 ·rename_i aO;obtain⟨d,hu,aE⟩:=iX aL aO;have ar:=(vp aL aO).cmp d hu;cases d<;>simp[j9]at aE;rename_i gs;subst aE;obtain⟨i1,i2⟩:=RT aL dH gs.toList 0 h;have s7:RU P gs=true:=i1;simp only[Jl,s7,Bool.not_true,Bool.false_or,Q0,cx,rk,ig,bne_iff_ne,ne_eq]at ar;exact⟨gs,hu,i2 ar.1.1,ar.1.2,ar.2⟩
 ·cases h
theorem Rr{P:cA}{w:World}{ν:a8}{t:gL}{gs:Array Field}{dH:List Bool}(hu:P.underlying t=some (.struct gs))(aR:qx P 0 dH gs.toList)(c8:P.stoodInHeld t=false){as eV:List ah}{X Y:Array Value}(J:dg w ν as X.toList)(U:dg w ν eV Y.toList){q:Bool}(h:j8 dH as eV=some q):
  (Op.equalIn 10000 t (.agg X) (.agg Y)).run P w= .ok q w∧(q=true→X=Y)∧∀m,(X.toList.zip X.toList).all (fun(x,y)=>Instr.sameBits m x y)=true:=by
 have aO:P.fieldsOf t=gs:=by simp[Program.fieldsOf,hu]
 obtain⟨i1,i2,i3⟩:=ZI 9998 dH gs.toList 0 as eV _ _ q aR rfl rfl J U h;refine⟨?_,fun e=>?_,?_⟩
 ·rw[run_equalIn_struct w 9999 t X Y (by rw[aO];exact hu) c8,aO];exact i1
 ·have:=i2 e;simpa using this
 ·simpa using i3
inductive tZ (P:cA):jD→gL→Prop
 |i {t:gL} {k:IntKind}:P.underlying t=some (.int k)→tZ P .i t
 |s {t:gL}:P.underlying t=some .string→tZ P .s t
 |a {t:gL} {dH:List Bool} {gs:Array Field}:P.underlying t=some (.struct gs)→qx P 0 dH gs.toList→P.stoodInHeld t=false→tZ P (.a dH) t
theorem Ls{P:cA}{bs:List (Nat×dx)}(aL:fP P bs=true){b7:jD}{t:Nat}(h:yg bs b7 t=true):tZ P b7 t:=by
 cases b7 with
 |i=>
  simp only[yg]at h;split at h
  ·rename_i aO;obtain⟨d,hu,aE⟩:=iX aL aO;obtain rfl:=Ff aE;exact .i hu
  ·cases h
 |s=>
  simp only[yg]at h;split at h
  ·rename_i aO;obtain⟨d,hu,aE⟩:=iX aL aO;obtain rfl:=zt aE;exact .s hu
  ·cases h
 |a dH=>obtain⟨gs,J,U,ao,_⟩:=RV aL h;exact .a J U ao
def sG(P:cA)(w:World)(b7:jD)(t:gL)(hl u:Value)(b:Bool):Prop:=match b7 with
 | .a _=>(Op.equal t hl u).run P w= .ok b w
 |_=> ∀d,P.underlying t=some d→Instr.sameNow d hl u=some b
def h7(P:cA)(w:World)(b7:jD)(t:gL)(hl:Value)(es:List MapEntry)(i:Nat)(r:Option (Nat×Value)):Prop:=match b7 with
 | .a _=>(Instr.findAsking t hl es i).run P w= .ok r w
 |_=> ∀d,P.underlying t=some d→Instr.findNow d hl es i=some r
theorem h7.nil(P:cA)(w:World)(b7:jD)(t:gL)(hl:Value)(i:Nat):h7 P w b7 t hl [] i none:=by cases b7<;>simp[h7,Instr.findAsking,Instr.findNow]
theorem h7.hit{P:cA}{w:World}{b7:jD}{t:gL}{hl:Value}{e:MapEntry}{es:List MapEntry}{i:Nat}(h:sG P w b7 t hl e.key true):h7 P w b7 t hl (e::es) i (some (i,e.val)):=by
 cases b7 with
 |a dH=>simp only[sG]at h;simp[h7,Instr.findAsking,h]
 |i=>simp only[sG]at h;simp only[h7];intro d aE;simp[Instr.findNow,h d aE]
 |s=>simp only[sG]at h;simp only[h7];intro d aE;simp[Instr.findNow,h d aE]
theorem h7.miss{P:cA}{w:World}{b7:jD}{t:gL}{hl:Value}{e:MapEntry}{es:List MapEntry}{i:Nat}{r:Option (Nat×Value)}(h:sG P w b7 t hl e.key false)(aK:h7 P w b7 t hl es (i+1) r):h7 P w b7 t hl (e::es) i r:=by
 cases b7 with
 |a dH=>simp only[sG]at h;simp only[h7]at aK;simp[h7,Instr.findAsking,h,aK]
 |i=>simp only[sG]at h;simp only[h7]at aK⊢;intro d aE;simp[Instr.findNow,h d aE,aK d aE]
 |s=>simp only[sG]at h;simp only[h7]at aK⊢;intro d aE;simp[Instr.findNow,h d aE,aK d aE]
theorem h7.run{P:cA}{w:World}{b7:jD}{t:gL}(aE:tZ P b7 t){hl:Value}{es:List MapEntry}{r:Option (Nat×Value)}(h:h7 P w b7 t hl es 0 r):(Instr.findKey t hl es).run P w= .ok r w:=by
 cases aE with
 |i hu=>simp only[h7]at h;simp[Instr.findKey,run_underlying hu,h _ hu]
 |s hu=>simp only[h7]at h;simp[Instr.findKey,run_underlying hu,h _ hu]
 |a hu aR c8=>
  simp only[h7]at h;cases es with
  |nil=>simp[Instr.findAsking]at h;simp[Instr.findKey,run_underlying hu,Instr.findNow,h]
  |cons e es=>
   rename_i gs;have:Instr.sameNow (.struct gs) hl e.key=none:=by cases hl<;>rfl
   simp only[Instr.findKey,fI,run_underlying hu,fQ,Instr.findNow,this];exact h
theorem Ul{P:cA}{w:World}{ν:a8}{b7:jD}{t:gL}(aE:tZ P b7 t){k k':ah}{hl u:Value}(ad:a6 w ν k hl)(J:a6 w ν k' u){bb:Bool}(ae:tq b7 k k'=some bb):
  sG P w b7 t hl u bb∧(bb=true→u=hl∧Instr.sameBits 10000 u hl=true):=by
 unfold tq at ae;split at ae
 ·split at ae
  ·rename_i lK;subst lK;simp only[a6]at ad J;subst ad;subst J;cases aE with
   |i hu=>refine⟨fun d aE=>by rw[hu]at aE;cases aE;simpa[Instr.sameNow]using ae,fun e=>?_⟩;subst e;simp only[dw,dK]at ae;subst ae;exact⟨rfl,by simp[Instr.sameBits]⟩
  ·cases ae
 ·rename_i a b;simp only[a6]at ad J;obtain⟨rfl,_⟩:=ad;obtain⟨rfl,_⟩:=J;cases aE with
  |s hu=>
   refine⟨fun d aE=>?_,fun e=>?_⟩
   ·rw[hu]at aE;cases aE;simp only[Instr.sameNow];rw[←ae];congr 1;rw[qt,MapKept.bytes_beq];simp
   ·subst e;simp only[dw,dK]at ae;subst ae;exact⟨rfl,by simp only[Instr.sameBits];exact(MapKept.bytes_beq _ _).2 rfl⟩
 ·simp only[a6]at ad J;obtain⟨X,rfl,ad⟩:=ad;obtain⟨Y,rfl,J⟩:=J;cases aE with
  |a hu aR c8=>obtain⟨i1,i2,i3⟩:=Rr hu aR c8 ad J ae;refine⟨by simpa[sG,Op.equal,Op.maxDepth]using i1,fun e=>?_⟩;have:=i2 e;subst this;exact⟨rfl,by simp[Instr.sameBits,i3]⟩
 ·cases ae
theorem LU{P:cA}{w:World}{ν:a8}{b7:jD}{t:gL}(aE:tZ P b7 t){k:ah}{hl:Value}(ad:a6 w ν k hl):∀(borns:List Nat) (kvs:List ah) (us:List Value) (i:Nat) (r:Option ah),cK w ν kvs us→kvs.length=2*borns.length→wH b7 k kvs=some r→
  match r with
  |none=>h7 P w b7 t hl (fC borns us) i none
  |some v=> ∃j u,h7 P w b7 t hl (fC borns us) i (some (j,u))∧a6 w ν v u
 |[],[],us,i,r,h,_,hm=>by simp only[wH]at hm;cases hm;simp only[cK]at h;subst h;simpa[fC]using h7.nil P w b7 t hl i
 |[],_::_,_,_,_,_,aq,_=>by simp at aq
 |b::eV,[],_,_,_,_,aq,_=>by simp at aq
 |b::eV,[_],_,_,_,_,aq,_=>by simp at aq;omega
 |b::eV,k'::v::kvs,us,i,r,h,aq,hm=>by
  simp only[cK]at h;obtain⟨iY,NO,rfl,J,jA,sw,rfl,U,ao⟩:=h;simp only[wH]at hm;simp only[fC];cases bu:tq b7 k k' with
  |none=>simp[bu]at hm
  |some bb=>
   obtain⟨s1,_⟩:=Ul aE ad J bu;simp only[bu]at hm;cases bb with
   |true=>simp only[dw]at hm;subst hm;exact⟨i,jA,h7.hit (e:=⟨iY,jA,b⟩) s1,U⟩
   |false=>
    simp only at hm;have bP:=LU aE ad eV kvs sw (i+1) r ao (by simp at aq;omega) hm;cases r with
    |none=>exact h7.miss (e:=⟨iY,jA,b⟩) s1 bP
    |some v'=>obtain⟨j,u,g1,g2⟩:=bP;exact⟨j,u,h7.miss (e:=⟨iY,jA,b⟩) s1 g1,g2⟩
theorem Jk{P:cA}{w:World}{t:Nat}{d:TypeDesc}(hu:P.underlying t=some d)(aE:(∃k,d= .int k)∨d= .string)(e:Bool)(n:Nat)(v:Value):(Instr.checkKey e (n+1) t v).run P w= .ok () w:=by unfold Instr.checkKey;rcases aE with⟨k,rfl⟩|rfl<;>simp[run_underlying hu]
theorem ac0{P:cA}{w:World}{ν:a8}{X:Array Value}(dH:List Bool):∀(gs:List Field) (n:Nat) (as:List ah),qx P n dH gs→dg w ν as (X.toList.drop n)→(j8 dH as as).isSome=true→
  ∀f∈gs,(∃v,(part f.type X f.offset).run P w= .ok v w)∧∃d,P.underlying f.type=some d∧((∃k,d= .int k)∨d= .string):=by
 induction dH with
 |nil=>intro gs n as aR _ _ f aO;cases gs<;>simp only[qx]at aR;cases aO
 |cons xF r bP=>
  intro gs n as aR aK ar f aO;cases gs with
  |nil=>cases aO
  |cons g gs=>
  simp only[qx]at aR;obtain⟨⟨FZ,zY,oG⟩,aR⟩:=aR;cases as with
  |nil=>cases xF<;>simp[j8]at ar
  |cons p as=>
  have hh:(j8 r as as).isSome=true:=by cases xF<;>cases p<;>simp[j8]at ar⊢ <;>exact ar
  simp only[dg]at aK;obtain⟨u,b8,e,_,c7⟩:=aK;have ax:X.toList.drop (n+1)=b8:=by rw[←List.tail_drop,e];rfl
  have DA:X[n]? =some u:=by rw[←tU,←List.head?_drop,e];rfl
  rcases fA.1 aO with rfl|aO
  ·refine⟨⟨u,by rw[FZ];exact run_part_plain w (DD oG) DA⟩,?_⟩;cases xF
   ·obtain⟨k,h⟩:=(by simpa using oG:∃k,P.underlying f.type=some (.int k));exact⟨_,h,.inl ⟨k,rfl⟩⟩
   ·exact⟨_,by simpa using oG,.inr rfl⟩
  ·exact bP gs (n+1) as aR (by rw[ax];exact c7) hh f aO
theorem R3{P:cA}{w:World}{α:Type}(body:α→PUnit→Sem (ForInStep PUnit)):∀(l:List α),(∀f∈l,(body f ⟨⟩).run P w= .ok (.yield ⟨⟩) w)→(forIn l PUnit.unit body).run P w= .ok PUnit.unit w
 |[],_=>by simp
 |f::l,h=>by simp only[List.forIn_cons,fI,h f (by simp),fQ];exact R3 body l fun g aR=>h g (by simp[aR])
theorem Nc{P:cA}{w:World}{ν:a8}{b7:jD}{t:Nat}(aE:tZ P b7 t)(e:Bool){k:ah}{v:Value}(ad:a6 w ν k v)(hi:uR b7 k=true):(Instr.checkKey e 10000 t v).run P w= .ok () w:=by
 cases aE with
 |i hu=>exact Jk hu (.inl ⟨_,rfl⟩) e 9999 v
 |s hu=>exact Jk hu (.inr rfl) e 9999 v
 |a hu aR c8=>
  rename_i dH gs;cases k<;>simp only[uR,gC]at hi;rename_i as;simp only[a6]at ad;obtain⟨X,rfl,ad⟩:=ad;unfold Instr.checkKey;simp only[fI,run_underlying hu,fQ];rw[←Array.forIn_toList];rw[R3]
  ·simp
  ·intro f aO;obtain⟨⟨v,J⟩,d,U,ao⟩:=ac0 dH gs.toList 0 as aR (by simpa using ad) hi f aO;have a1:=Jk (w:=w) U ao e 9998 v;by_cases au:f.name= "_"
   ·simp[au]
   ·simp[au,J,a1]
theorem UU{w:World}{ν:a8}{n:Nat}:∀(borns:List Nat) (kvs:List ah) (us:List Value) (p:ah),cK w ν kvs us→mJ n borns kvs=some p→∃e,(fC borns us).find? (·.born==n)=some e∧a6 w ν p (.tuple #[e.key,e.val])
 |[],_,_,_,_,hm=>by simp[mJ]at hm
 |_::_,[],_,_,_,hm=>by simp[mJ]at hm
 |_::_,[_],_,_,_,hm=>by simp[mJ]at hm
 |b::eV,k::v::kvs,us,p,h,hm=>by
  simp only[cK]at h;obtain⟨iY,NO,rfl,J,jA,sw,rfl,U,ao⟩:=h;simp only[mJ]at hm;simp only[fC];by_cases e:b=n
  ·rw[if_pos e]at hm;cases hm;refine⟨⟨iY,jA,b⟩,by simp[List.find?,e],?_⟩;simp only[a6];exact⟨#[iY,jA],rfl,by simp only[cK];exact⟨_,_,rfl,J,_,_,rfl,U,rfl⟩⟩
  ·rw[if_neg e]at hm;obtain⟨x,g1,g2⟩:=UU eV kvs sw p ao hm;have aeq:(b==n)=false:=by simpa using e
   exact⟨x,by simp[List.find?,aeq,g1],g2⟩
theorem XG{P:cA}{bs:List (Nat×dx)}(aL:fP P bs=true){C:fh}{st:bh}{a:Act}{w:World}{ν:a8}(aK:cX C st a w ν){i:fX}(aep:∀b7 z ok x k,i≠ .mgetB b7 z ok x k){o:Oper}(av:Ed bs i o.op=true)
  {c:Prop} {p:ah} (he:hr st i=some (c,p)) (ar:c):∃v,(execOp a.eval o).run P w= .ok (.value v) w∧a6 w ν p v:=by
 obtain⟨dst,op,type,pos,after,guard⟩:=o;simp only at av;unfold Ed at av;split at av
 ·rename_i x o;simp only[hr]at he;cases he;exact⟨_,rfl,ef aK av⟩
 ·rename_i x o;simp only[hr]at he;cases he;exact⟨_,rfl,ef aK av⟩
 ·rename_i cf x y anG Yx YA;simp only[cx]at av;have J:=ef aK av.1.1;have U:=ef aK av.1.2;have ao:=ef aK av.2;simp only[hr,G6]at he;split at he
  ·rename_i b ae;rw[ae]at J;simp only[a6]at J;split at he
   ·rename_i u v hu aI;cases he;rw[hu]at U;rw[aI]at ao;simp only[a6]at U ao;refine⟨.bool (cond b u v),?_,by simp[a6]⟩;simp only[execOp,J,U,ao,asBool,fI,gq,fQ];cases b<;>rfl
   ·split at he
    ·cases he;exact⟨_,by simp only[execOp,J,asBool,fI,gq,fQ,if_true],U⟩
    ·cases he;exact⟨_,by simp only[execOp,J,asBool,fI,gq,fQ,gC,if_false],ao⟩
  ·cases he
 ·rename_i agg sz x t o;simp only[cx]at av;obtain⟨J,U⟩:=av;split at J
  ·rename_i f aO;simp only[cx,dK]at J;obtain⟨rfl,rfl⟩:=J;obtain⟨v,g1,g2⟩:=GF aL aK.good aO (ef aK U) (by simpa only[hr]using he) ar;exact⟨v,ly g1,g2⟩
  ·cases J
 ·rename_i off agg sz x s o i;simp only[cx]at av;obtain⟨J,U⟩:=av;split at J
  ·rename_i f aO;split at J
   ·rename_i wN t CA;simp only[cx,dK]at J;obtain⟨rfl,J⟩:=J;split at J
    ·rename_i g aR;simp only[cx,dK,bne_iff_ne,ne_eq]at J;obtain⟨⟨rfl,rfl⟩,bD⟩:=J;obtain⟨v,g1,g2⟩:=acU aL aO rfl CA aR bD (ef aK U) (by simpa only[hr]using he) ar;exact⟨v,ly g1,g2⟩
    ·cases J
   ·cases J
  ·cases J
 ·rename_i off agg sz x s o i;simp only[cx]at av;obtain⟨J,U⟩:=av;split at J
  ·rename_i f aO;split at J
   ·rename_i wN t CA;simp only[cx,dK]at J;obtain⟨rfl,J⟩:=J;split at J
    ·rename_i g aR;simp only[cx,dK]at J;obtain⟨rfl,rfl⟩:=J;obtain⟨v,g1,g2⟩:=ac1 aL aO rfl CA aR (ef aK U) (by simpa only[hr]using he) ar;exact⟨v,ly g1,g2⟩
    ·cases J
   ·cases J
  ·cases J
 ·rename_i sz x i t o j;simp only[cx]at av;obtain⟨⟨J,U⟩,ao⟩:=av;split at J
  ·rename_i e aO;split at J
   ·rename_i g aR;simp only[dK]at J;subst J;obtain⟨v,g1,g2⟩:=af7 aL aO rfl aR (ef aK U) (ef aK ao) (by simpa only[hr]using he) ar;exact⟨v,ly g1,g2⟩
   ·cases J
  ·cases J
 ·rename_i x i t o j;simp only[cx]at av;obtain⟨⟨J,U⟩,ao⟩:=av;split at J
  ·rename_i aO;obtain⟨d,aE,eW⟩:=iX aL aO;obtain rfl:=zt eW;have ai:=ef aK U;have ax:=ef aK ao;simp only[hr,HR]at he;split at he
   ·rename_i s k n af au;cases he;rw[af]at ai;rw[au]at ax;simp only[a6]at ai ax;obtain⟨uA,Cw⟩:=ar;have bm:n.toNat<s.length:=by omega
    have aeQ:(⟨s.toArray⟩:ByteArray)[n.toNat]? =some (s.getD n.toNat 0):=by exact adX s n.toNat bm
    refine⟨_,ly (v:= .int .u8 (s.getD n.toNat 0).toNat) ?_,by simp[a6]⟩;simp only[Instr.index,ax,asIntOf,ai.1,fI,gq,fQ,run_underlying aE,uA,if_true,aeQ]
   ·cases he
  ·cases J
 ·rename_i x lo hi t o l h;simp only[cx]at av;obtain⟨⟨⟨J,U⟩,ao⟩,a1⟩:=av;split at J
  ·rename_i aO;obtain⟨d,aE,eW⟩:=iX aL aO;obtain rfl:=zt eW;have ai:=ef aK U;simp only[hr,HX]at he;split at he
   ·rename_i s af;rw[af]at ai;simp only[a6]at ai;split at he
    ·rename_i p9 cU aq KB;cases he;obtain⟨bQ,cp,ds⟩:=ar;have aS:=G1 aK ao aq;have bc:=G1 aK a1 KB;refine⟨_,ly (v:= .string ⟨((s.take cU.toNat).drop p9.toNat).toArray⟩) ?_,?_⟩
     ·have ae:=OV P w false s.length s.length (l.map a.eval) (h.map a.eval) p9 cU
       aS bc bQ cp ds (ff _)
      simp only[Instr.sliceAt,Instr.slice,ai.1,fI,gq,fQ,run_underlying aE,Option.map_none,ja,gC,if_false,D4,ae,aa2]
     ·simp only[a6];refine⟨trivial,?_⟩;have:=ai.2;simp only[sC,List.length_take];omega
    ·cases he
   ·cases he
  ·cases J
 ·rename_i sz x lo hi t o l h;simp only[cx]at av;obtain⟨⟨⟨J,U⟩,ao⟩,a1⟩:=av;split at J
  ·rename_i e aO;split at J
   ·rename_i g aR;simp only[dK]at J;subst J;obtain⟨d,aE,eW⟩:=iX aL aO;obtain rfl:=sO eW;obtain⟨_,et⟩:=vo aL aR w;have ai:=ef aK U;simp only[hr,GG]at he;split at he
    ·rename_i dC tag xs af;split at he
     ·rename_i fk;subst fk;rw[af]at ai;simp only[a6]at ai;obtain⟨⟨sH,cap,aI,bM,bO,gg⟩,_⟩:=ai;split at he
      ·rename_i p9 cU aq KB;cases he;obtain⟨bQ,cp,ds⟩:=ar;have aS:=G1 aK ao aq;have bc:=G1 aK a1 KB;have ae:=OV P w true xs.length cap (l.map a.eval) (h.map a.eval) p9 cU
        aS bc bQ cp ds bM
       refine⟨_,ly (v:= .slice (if cap=p9.toNat then sH else sH.map (·.add (p9.toNat*g.size))) (cU.toNat-p9.toNat) (cap-p9.toNat)) ?_,?_⟩
       ·simp only[Instr.sliceAt,Instr.slice,aI,fI,gq,fQ,run_underlying aE,Option.map_none,ae,et]
       ·simp only[a6];have hlen:((xs.take cU.toNat).drop p9.toNat).length=cU.toNat-p9.toNat:=by simp;omega
        refine⟨⟨_,_,by rw[hlen],by rw[hlen];omega,⟨by omega,by rw[hlen];omega⟩,?_⟩,(fun h=>by cases h),(fun g h=>by cases h),(fun _ _ h=>by cases h),(fun _ h=>by cases h)⟩;rcases gg with rfl|⟨b,off,us,rfl,g1,g2⟩
        ·left;simp
        ·by_cases zM:cap=p9.toNat
         ·left;apply List.eq_nil_of_length_eq_zero;rw[hlen];omega
         ·right;rw[if_neg zM];refine⟨b,off+p9.toNat*g.size,(us.take (cU.toNat*g.size)).drop (p9.toNat*g.size),by simp[o2],Gw _ (Gy _ g1),WX _ (W0 _ g2)⟩
      ·cases he
     ·cases he
    ·cases he
   ·cases J
  ·cases J
 ·rename_i op wr x y VF ty o o' alQ;simp only[cx,fo]at av;obtain⟨⟨rfl,J⟩,U⟩:=av;obtain⟨r,g1,g2⟩:=Zy P w ν (by simpa only[hr]using he) ar ty (ef aK J) (ef aK U) o o';exact⟨r,ly g1,g2⟩
 ·rename_i x op ty o;simp only[cx,fo]at av;obtain⟨rfl,J⟩:=av;have ai:=ef aK J;simp only[hr]at he;unfold GV at he;split at he
  ·rename_i b ae;cases he;rw[ae]at ai;simp only[a6]at ai;exact⟨_,ly (v:= .bool (!b)) (by simp[Op.unary,ai]),by simp[a6]⟩
  ·cases he
 ·rename_i x op ty o;simp only[cx,fo]at av;obtain⟨rfl,J⟩:=av;have ai:=ef aK J;simp only[hr]at he;unfold GR at he;split at he
  ·rename_i k n ae;cases he;rw[ae]at ai;simp only[a6]at ai;exact⟨_,ly (v:= .int k (k.wrap (0-n))) (by simp[Op.unary,ai,Op.intArith]),by simp[a6]⟩
  ·cases he
 ·rename_i k x s d o;simp only[cx]at av;obtain⟨J,U⟩:=av;split at J
  ·rename_i aS bc Cy uE;simp only[fo]at J;subst J;obtain⟨d1,fm,aez⟩:=iX aL Cy;obtain rfl:=Ff aez;obtain⟨d2,eP,aeA⟩:=iX aL uE;obtain rfl:=Ff aeA;have ai:=ef aK U;simp only[hr]at he;unfold Fb at he;split at he
   ·rename_i k' n ae;cases he;rw[ae]at ai;simp only[a6]at ai;exact⟨_,ly (v:= .int k (k.wrap n)) (by simp[convert,ai,run_underlying fm,run_underlying eP,Conv.intToInt]),by simp[a6]⟩
   ·cases he
  ·cases J
 ·rename_i i x o j;simp only[cx,dK]at av;obtain⟨rfl,J⟩:=av;have ai:=ef aK J;simp only[hr]at he;unfold zw at he;split at he
  ·rename_i a7 ae;simp only[gr]at he;obtain⟨q,bu,he⟩:=he;cases he;rw[ae]at ai;simp only[a6]at ai;obtain⟨us,hu,U⟩:=ai;obtain⟨v,g1,g2⟩:=DT i U bu;have lf:us[i]? =some v:=by simpa using g1
   exact⟨v,ly (by simp[Instr.extract,hu,lf]),g2⟩
  ·cases he
 ·rename_i x o t;simp only[cx]at av;obtain⟨J,U⟩:=av;have ai:=ef aK U;simp only[hr]at he;unfold AE at he;split at he
  ·rename_i sz tag xs ae;cases he;rw[ae]at ai;simp only[a6]at ai;obtain⟨⟨sH,cap,aI,_⟩,_⟩:=ai;refine⟨.int .i64 xs.length,?_,by simp[a6]⟩;split at J
   ·rename_i aO;obtain⟨d,aE,eW⟩:=iX aL aO;obtain rfl:=sO eW;simp[execOp,resolve,invoke,builtin,Builtin.len_,run_underlying aE,aI,goInt]
   ·cases J
  ·rename_i sz k n ae;cases he;rw[ae]at ai;simp only[a6]at ai;obtain⟨⟨sH,cap,aI⟩,_⟩:=ai;refine⟨.int .i64 n,?_,by simp[a6]⟩;split at J
   ·rename_i aO;obtain⟨d,aE,eW⟩:=iX aL aO;obtain rfl:=sO eW;simp[execOp,resolve,invoke,builtin,Builtin.len_,run_underlying aE,aI,goInt]
   ·cases J
  ·rename_i sH n cap ae;cases he;rw[ae]at ai;simp only[a6]at ai;refine⟨.int .i64 n,?_,by simp[a6]⟩;split at J
   ·rename_i aO;obtain⟨d,aE,eW⟩:=iX aL aO;obtain rfl:=sO eW;simp[execOp,resolve,invoke,builtin,Builtin.len_,run_underlying aE,ai,goInt]
   ·cases J
  ·cases he
 ·rename_i x o t;simp only[cx]at av;obtain⟨J,U⟩:=av;have ai:=ef aK U;simp only[hr]at he;unfold D5 at he;split at he
  ·rename_i s ae;cases he;rw[ae]at ai;simp only[a6]at ai;refine⟨.int .i64 s.length,?_,by simp[a6]⟩;split at J
   ·rename_i aO;obtain⟨d,aE,eW⟩:=iX aL aO;obtain rfl:=zt eW;simp[execOp,resolve,invoke,builtin,Builtin.len_,run_underlying aE,ai.1,goInt,D4]
   ·cases J
  ·rename_i s ae;cases he;rw[ae]at ai;simp only[a6]at ai;refine⟨.int .i64 s.size,?_,by simp[a6]⟩;split at J
   ·rename_i aO;obtain⟨d,aE,eW⟩:=iX aL aO;obtain rfl:=zt eW;simp[execOp,resolve,invoke,builtin,Builtin.len_,run_underlying aE,ai,goInt]
   ·cases J
  ·cases he
 ·rename_i zero parts t cq;split at av
  ·rename_i dH z aO;simp only[cx]at av;obtain⟨⟨J,U⟩,ao⟩:=av;have aY:=amX J;obtain⟨i,d,amW,ai,ax,bn,dp,hT,hU,ry,rz⟩:=(vp aL aO).ex;obtain⟨gs,rfl,kx⟩:=Jo hT;simp only at aY ry rz;subst aY;have lJ:(gs.toList.all fun f=>(ea bs f.type).isSome)=true:=by rw[←kx]at U;simpa[List.all_map,Function.comp_def]using U
   obtain⟨tF,cC,da⟩:=VT aL gs.toList lJ;rw[kx]at da;cases amW<;>simp only[y5]at ry;case agg us=>
    simp only[hr]at he;cases ae:uk st.t zero parts with
    |none=>simp[ae]at he
    |some x=>obtain⟨cf,cs'⟩:=x;simp only[ae,kN]at he;cases he;obtain⟨b8,g1,g2⟩:=Xd aK da parts cq.toList zero us c cs' ao (Oa w ν _ _ ry) ae ar;refine⟨.agg b8,ly (run_build w t _ b8 ?_),by simp only[a6];exact⟨b8,rfl,g2⟩⟩;simp only[Program.built,ai,ax,hU,cC,oY];simpa using g1
   all_goals cases ry
  ·cases av
 ·rename_i x o;have ai:=ef aK av;simp only[hr]at he;unfold AO at he;split at he
  ·rename_i k off ae;cases he;rw[ae]at ai;have ax:=ai;simp only[a6]at ai;obtain⟨b,_,aI⟩:=ai;exact⟨a.eval o,by simp[execOp,aI],ax⟩
  ·rename_i q ae;cases he;rw[ae]at ai;have ax:=ai;simp only[a6]at ai;obtain⟨b,off,u,aI,_⟩:=ai;exact⟨a.eval o,by simp[execOp,aI],ax⟩
  ·rename_i f cs ae;cases he;rw[ae]at ai;have ax:=ai;simp only[a6]at ai;obtain⟨us,aI,_⟩:=ai;exact⟨a.eval o,by simp[execOp,aI],ax⟩
  ·cases he
 ·rename_i x y o o' t dF;simp only[cx]at av;have ai:=ef aK av.1;have ax:=ef aK av.2;simp only[hr]at he;unfold GP at he;split at he
  ·rename_i k m k' n hm au;split at he
   ·rename_i ad;subst ad;cases he;rw[hm]at ai;rw[au]at ax;simp only[a6]at ai ax;exact⟨.int k (if n<m then n else m),by simp[execOp,resolve,invoke,builtin,Builtin.min_,Builtin.min2,ai,ax],by simp[a6]⟩
   ·cases he
  ·cases he
 ·rename_i n xs m os;simp only[cx,dK]at av;obtain⟨rfl,av⟩:=av;simp only[hr]at he;cases he;have uz:=DS aK av;refine⟨.func (.func n) #[] (os.map a.eval),by simp[execOp,Instr.makeFunc],?_⟩;simp only[a6];exact⟨os.map a.eval,rfl,by simpa using uz⟩
 ·rename_i b7 zero ok x k t o o' GW;simp only[cx,dK]at av;obtain⟨⟨⟨rfl,J⟩,U⟩,ao⟩:=av;have ai:=ef aK U;have ax:=ef aK ao;split at J
  ·rename_i sz ld mH pb z aO;simp only[cx]at J;obtain⟨aeZ,Kt⟩:=J;split at Kt
   ·rename_i aol aeD;have aY:=Oc Kt;obtain⟨cE,hu,eW⟩:=iX aL aO;have s5:cE= .map mH pb:=by cases cE<;>simp[j9]at eW;obtain⟨rfl,rfl⟩:=eW;rfl
    subst s5;obtain⟨bW,k7,z2,_⟩:=NI aL aeD w;rw[←aY]at z2;have aa:=(Ob w ν z2).1;have l5:=Ls aL aeZ;simp only[hr]at he;unfold nT at he;split at he
    ·rename_i key ab;rw[ab]at ai;simp only[a6]at ai;obtain⟨bl,bM,bO⟩:=ai;split at he
     ·rename_i clock borns kvs gp;obtain⟨iA,us,el,g1,g2,g3,g4,g5⟩:=aK.good.box key _ gp;rw[bM]at g1;cases g1;simp only[jN]at g4;simp only[jm]at g5;have hQ:(getObj bl).run P w= .ok (.map (fC borns us.toList).toArray clock) w:=vi g4;split at he
      ·cases he
      rename_i uJ;have vU:=Nc (P:=P) (w:=w) l5 ((fC borns us.toList).toArray.isEmpty) ax (by simpa using uJ);split at he
      ·rename_i v hm;cases he;obtain⟨j,u,f1,f2⟩:=LU l5 ax borns kvs us.toList 0 _ g5.1 g5.2.len hm;refine⟨if ok then .tuple #[u,.bool true]else u,?_,?_⟩
       ·simp only[execOp];refine ly ?_;simp only[Instr.lookup,fI,run_underlying hu,fQ,bO,hQ,gq,vU,f1.run l5]
       ·cases ok
        ·simpa using f2
        ·simp only[if_true,a6];exact⟨_,rfl,by simp only[cK];exact⟨_,_,rfl,f2,_,_,rfl,by simp[a6],rfl⟩⟩
      ·rename_i hm;cases he;have f1:=LU l5 ax borns kvs us.toList 0 _ g5.1 g5.2.len hm;simp only at f1;refine⟨if ok then .tuple #[bW,.bool false]else bW,?_,?_⟩
       ·simp only[execOp];refine ly ?_;simp only[Instr.lookup,fI,run_underlying hu,fQ,bO,hQ,gq,vU,f1.run l5,k7]
       ·cases ok
        ·simpa using aa
        ·simp only[if_true,a6];exact⟨_,rfl,by simp only[cK];exact⟨_,_,rfl,aa,_,_,rfl,by simp[a6],rfl⟩⟩
      ·cases he
     ·cases he
    ·cases he
   ·cases Kt
  ·cases J
 ·rename_i x o;have ai:=ef aK av;simp only[hr]at he;unfold pz at he;split at he
  ·rename_i fp ab;rw[ab]at ai;simp only[a6]at ai;obtain⟨bl,bM,bO⟩:=ai;split at he
   ·rename_i since seen last mk gp;obtain⟨iA,us,el,g1,g2,g3,g4,g5⟩:=aK.good.box fp _ gp;rw[bM]at g1;cases g1;simp only[jN]at g4;simp only[jm,cK,a6]at g5;obtain⟨u,b8,qZ,⟨mb,m1,rfl⟩,rfl⟩:=g5;rw[qZ]at g4;simp only at g4;split at he
    ·rename_i clock borns kvs qU;obtain⟨anD,sw,an6,aS,bc,bT,dI,cY⟩:=aK.good.box mk _ qU;rw[m1]at aS;cases aS;simp only[jN]at dI;simp only[jm]at cY;split at he
     ·rename_i n au;simp only[gr]at he;obtain⟨q,bu,he⟩:=he;cases he;obtain⟨e,f1,f2⟩:=UU borns kvs sw.toList p cY.1 bu;refine⟨.tuple #[e.key,e.val],?_,f2⟩;simp only[execOp];refine ly ?_;have aeL:(getObj bl).run P w= .ok (.mapIter (some mb) since seen.toArray last) w:=vi g4;have aeM:(getObj mb).run P w= .ok (.map (fC borns sw.toList).toArray clock) w:=vi dI;have Kn:seen.toArray.back? =some n:=by simpa using au
      have zN:(clock !=last)=false:=by simp[ar]
      have aeE:(fC borns sw.toList).toArray.find? (·.born==n)=some e:=by simpa using f1
      simp only[Instr.entry,bO,fI,aeL,fQ,Kn,aeM,zN,gC,if_false,aeE,gq]
     ·cases he
    ·cases he
   ·cases he
  ·cases he
 ·rename_i x o t;simp only[cx]at av;obtain⟨J,U⟩:=av;have ai:=ef aK U;simp only[hr]at he;unfold u3 at he;split at he
  ·rename_i key ae;rw[ae]at ai;simp only[a6]at ai;obtain⟨bl,bM,bO⟩:=ai;split at he
   ·rename_i clock borns kvs gp;cases he;obtain⟨iA,us,el,g1,g2,g3,g4,g5⟩:=aK.good.box key _ gp;rw[bM]at g1;cases g1;simp only[jN]at g4;simp only[jm]at g5;have hQ:(getObj bl).run P w= .ok (.map (fC borns us.toList).toArray clock) w:=vi g4;have hlen:(fC borns us.toList).length=borns.length:=Rm g5.2.len (W5 g5.1);refine⟨.int .i64 borns.length,?_,by simp[a6]⟩;split at J
    ·rename_i aO;obtain⟨d,aE,eW⟩:=iX aL aO;obtain⟨mH,pb,rfl⟩:∃mH pb,d= .map mH pb:=by cases d<;>simp[j9]at eW;exact⟨_,_,rfl⟩
     simp[execOp,resolve,invoke,builtin,Builtin.len_,run_underlying aE,bO,goInt,hQ,hlen]
    ·cases J
   ·cases he
  ·cases he
 ·rename_i neg dH x y op t o o' alQ;simp only[cx,fo]at av;obtain⟨⟨⟨rfl,bD⟩,J⟩,U⟩:=av;have ai:=ef aK J;have ax:=ef aK U;simp only[hr]at he;unfold hN at he;split at he
  ·rename_i be bV bk ae;simp only at bD;cases he;rw[bk]at ai;rw[ae]at ax;simp only[a6]at ai ax;split at bD
   ·rename_i aO;obtain⟨d,aE,eW⟩:=iX aL aO;obtain rfl:d= .bool:=by cases d<;>simp[j9]at eW;rfl
    refine⟨.bool (if neg then be !=bV else be==bV),ly ?_,by simp[a6]⟩;cases neg<;>simp[ai,ax,eqGuard,binOp,aab aE,bne]
   ·cases bD
  ·rename_i aou as eV bk ae;simp only at bD;simp only[gr]at he;obtain⟨q,bu,he⟩:=he;cases he;rw[bk]at ai;rw[ae]at ax;simp only[a6]at ai ax;obtain⟨X,ZZ,aj0⟩:=ai;obtain⟨Y,Z0,aj1⟩:=ax;obtain⟨gs,hu,aR,c8,iS⟩:=RV aL bD;obtain⟨i1,_,_⟩:=Rr hu aR c8 aj0 aj1 bu;refine⟨.bool (if neg then !q else q),ly ?_,by simp[a6]⟩;rw[ZZ,Z0];cases neg
   ·simp only[gC,if_false,fI,run_eqGuard_agg w _ t o o' X Y iS,fQ,run_eql_struct,i1]
   ·simp only[if_true,fI,run_eqGuard_agg w _ t o o' X Y iS,fQ,run_neq_struct,i1]
  ·cases he
 ·rename_i x y o o' t dF;simp only[cx]at av;have ai:=ef aK av.1;have ax:=ef aK av.2;simp only[hr]at he;unfold GK at he;split at he
  ·rename_i k m k' n hm au;split at he
   ·rename_i ad;subst ad;cases he;rw[hm]at ai;rw[au]at ax;simp only[a6]at ai ax;exact⟨.int k (if m<n then n else m),by simp[execOp,resolve,invoke,builtin,Builtin.max_,Builtin.max2,ai,ax],by simp[a6]⟩
   ·cases he
  ·cases he
 ·rename_i t x dF o;simp only[cx,dK]at av;obtain⟨⟨rfl,J⟩,U⟩:=av;have ai:=ef aK U;simp only[hr]at he;cases he;split at J
  ·rename_i aO;obtain⟨d,aE,eW⟩:=iX aL aO;obtain rfl:=sO eW;refine⟨.iface t (a.eval o),ly (by simp[Instr.makeInterface,run_underlying aE]),?_⟩;simp only[a6];exact⟨_,rfl,ai⟩
  ·cases J
 ·rename_i agg sz x t o;simp only[cx]at av;obtain⟨J,U⟩:=av;split at J
  ·rename_i f aO;simp only[cx,dK]at J;obtain⟨rfl,rfl⟩:=J;obtain⟨v,g1,g2⟩:=GF aL aK.good aO (ef aK U) (ag2 (by simpa only[hr]using he)) ar;exact⟨v,ly g1,g2⟩
  ·cases J
 ·rename_i agg sz x t o;simp only[cx]at av;obtain⟨J,U⟩:=av;split at J
  ·rename_i f aO;simp only[cx,dK]at J;obtain⟨rfl,rfl⟩:=J;obtain⟨v,g1,g2⟩:=GF aL aK.good aO (ef aK U) (ac7 (by simpa only[hr]using he)) ar;exact⟨v,ly g1,g2⟩
  ·cases J
 ·exact absurd rfl (aep _ _ _ _ _)
 ·cases av
theorem alW{P:cA}{bs:List (Nat×dx)}(aL:fP P bs=true){C:fh}{st:bh}{a:Act}{w:World}{ν:a8}(aK:cX C st a w ν){i:fX}{o:Oper}(av:Ed bs i o.op=true)
  {c:Prop} {p:ah} (he:hr st i=some (c,p)) (ar:c):∃v,(execOp a.eval o).run P w= .ok (.value v) w∧a6 w ν p v:=by
 by_cases ae:∃b7 z ok x k,i= .mgetB b7 z ok x k
 ·obtain⟨b7,z,ok,x,k,rfl⟩:=ae;refine XG aL aK (i:= .mget b7 z ok x k) (fun _ _ _ _ _ e=>by cases e) ?_ he ar;obtain⟨dst,op,type,pos,after,guard⟩:=o;cases op<;>first|exact av|simp[Ed]at av
 ·exact XG aL aK (fun b7 z ok x k e=>ae ⟨b7,z,ok,x,k,e⟩) av he ar
theorem QZ{w:World}{o:Obj}{b i:Nat}(h:b<w.heap.size):(w.alloc o).cell? ⟨b,i,none⟩=w.cell? ⟨b,i,none⟩:=World.cell?_of_block (Below.heap_alloc w o b h)
def a8.withBox(ν:a8)(k:aJ)(bl:Nat):a8:={ν with bx:=fun j=>if j=k then some bl else ν.bx j}
def a8.withOwn(ν:a8)(k:aJ)(n:Nat)(v:Value):a8:={ν with ow:=fun j=>if j=k then some (n,v)else ν.ow j}
theorem cX.lookNone{C:fh}{st:bh}{a:Act}{w:World}{ν:a8}(h:cX C st a w ν){k:aJ}(ad:fresh st.n st.o k):look k st.b=none∧look k st.e=none:=by
 obtain⟨J,U,_⟩:=h.new k ad;constructor
 ·cases ae:look k st.b with
  |none=>rfl
  |some cs=>obtain⟨bl,us,el,g1,_⟩:=h.good.box _ _ ae;rw[J]at g1;cases g1
 ·cases ae:look k st.e with
  |none=>rfl
  |some o=>obtain⟨v,us,g1,_⟩:=h.good.own _ _ ae;rw[U]at g1;cases g1
theorem Good.ownLt{pr:Nat→Prop}{w:World}{ν:a8}{b:List (aJ×List ah)}{e:List (aJ×fL)}(h:Good pr w ν b e){g:aJ}{o:fL}(aR:look g e=some o){n:Nat}{v:Value}(aI:ν.ow g=some (n,v)){bl:Nat}(ae:v.ownBlock=some bl):bl<w.heap.size:=by obtain⟨v',us,g1,g2,_⟩:=h.own g o aR;rw[aI]at g1;cases g1;exact(g2.lt bl ae).2
theorem Good.boxLt{pr:Nat→Prop}{w:World}{ν:a8}{b:List (aJ×List ah)}{e:List (aJ×fL)}(h:Good pr w ν b e){k:aJ}{cs:List ah}(ad:look k b=some cs){bl:Nat}(ae:ν.bx k=some bl):bl<w.heap.size:=by obtain⟨iA,us,el,g1,_,_,g4,_⟩:=h.box k cs ad;rw[ae]at g1;cases g1;exact(Array.getElem?_eq_some_iff.1 g4).1
theorem cX.newBox{C:fh}{st:bh}{a:Act}{w:World}{ν:a8}(h:cX C st a w ν){gW:aJ}(CG:ν.bx gW=none∧ν.ow gW=none∧∀j b,¬ν.tr gW j b){n':Nat}{o':List aJ}(dd:∀j,fresh n' o' j→fresh st.n st.o j∧j≠gW){cs:List ah}{us:Array Value}(el:gL)(ar:jm w ν cs us.toList):
  cX C {st with b:=cu gW cs st.b,n:=n',o:=o'} a (w.alloc (jN cs us el)) (ν.withBox gW w.heap.size)∧
  a6 (w.alloc (jN cs us el)) (ν.withBox gW w.heap.size) (.ptr gW 0) (.pointer (some ⟨w.heap.size,0,none⟩)):=by
 obtain⟨rT,te,afe⟩:=CG;have av:lD w ν (w.alloc (jN cs us el)) (ν.withBox gW w.heap.size):=by
  refine⟨fun b o ba=>⟨ba,QZ (h.good.alt b o ba)⟩,fun k b _ ad=>?_,fun g n u _ aR=>⟨n,u,aR,.inl ⟨rfl,rfl⟩⟩,fun b o ba=>w1 (Below.heap_alloc w _ b (h.good.alt b o ba)),fun _ _ _ _ h=>h⟩;have:k≠gW:=fun e=>by subst e;rw[rT]at ad;cases ad
  simp[a8.withBox,this,ad]
 have et:(w.alloc (jN cs us el)).heap.size=w.heap.size+1:=by simp
 have jT:∀k,(look k (cu gW cs st.b)).isSome→k=gW∨(k≠gW∧(look k st.b).isSome∧(ν.withBox gW w.heap.size).bx k=ν.bx k):=by
  intro k ad;by_cases e:k=gW
  ·exact .inl e
  ·rw[iW,if_neg (la e)]at ad;exact .inr ⟨e,ad,by simp[a8.withBox,e]⟩
 refine⟨h.over av rfl ⟨fun bl o ba=>by rw[et];have:=h.good.alt bl o ba;omega,fun k eO ad=>?_,fun k k' bl ad mz ai ax=>?_,fun g o aR=>?_,h.good.oinj,fun g k n v bl aR ad aI ae ab=>?_,fun k=>?_,fun bl ae k j aL=>?_⟩
  ⟨h.fr.os,h.fr.tape,h.fr.output,by rw[et];have:=h.fr.size;omega,fun k ad hm=>?_,fun b o ba=>?_,h.fr.fresh,fun n b ae=>?_,h.fr.obn,h.fr.row,h.fr.obr,h.fr.trd,fun k j b ae=>⟨(h.fr.trb k j b ae).1,by rw[et];have:=(h.fr.trb k j b ae).2;omega⟩,fun k j b ae=>?_,fun b o ba=>(av.sh b o (h.fr.keep b o ba).1).trans (h.fr.sh b o ba)⟩ (fun m hm=>?_),?_⟩
 ·simp only at ad;rw[iW]at ad;by_cases e:gW=k
  ·rw[if_pos e]at ad;cases ad;subst e;refine⟨w.heap.size,us,el,by simp[a8.withBox],.inr h.fr.size,fun o ba=>?_,heap_alloc_new w _,qh av ar⟩;have:=h.good.alt _ o ba;omega
  ·rw[if_neg e]at ad;obtain⟨bl,b8,fZ,g1,g2,g3,g4,g5⟩:=h.good.box k eO ad;exact⟨bl,b8,fZ,av.bx _ _ trivial g1,g2,g3,by rw[Below.heap_alloc w _ bl (Array.getElem?_eq_some_iff.1 g4).1];exact g4,qh av g5⟩
 ·rcases jT k ad with rfl|⟨hA,fN,h1⟩<;>rcases jT k' mz with rfl|⟨m1,m2,m3⟩
  ·rfl
  ·exfalso;simp only[a8.withBox,if_true,dw]at ai;subst ai;rw[m3]at ax;obtain⟨eO,iR⟩:=fB.1 m2;have:=h.good.boxLt iR ax;omega
  ·exfalso;simp only[a8.withBox,if_true,dw]at ax;subst ax;rw[h1]at ai;obtain⟨eO,iR⟩:=fB.1 fN;have:=h.good.boxLt iR ai;omega
  ·rw[h1]at ai;rw[m3]at ax;exact h.good.inj k k' bl fN m2 ai ax
 ·obtain⟨v,xs,g1,g2,g3,g4⟩:=h.good.own g o aR;exact⟨v,xs,g1,g2.alloc _,g3,sl av (fun _ _ _ h=>h) g4⟩
 ·rcases jT k ad with rfl|⟨hA,fN,h1⟩
  ·simp only[a8.withBox,if_true,dw]at ab;subst ab;obtain⟨o,hX⟩:=fB.1 aR;have:=h.good.ownLt hX aI ae;omega
  ·rw[h1]at ab;exact h.good.obx g k n v bl aR fN aI ae ab
 ·by_cases e:k=gW
  ·subst e;exact .inr te
  ·rcases h.good.one k with J|J
   ·exact .inl (by simp[a8.withBox,e,J])
   ·exact .inr J
 ·rcases ae with⟨k',bt,a2⟩|ae
  ·rcases jT k' bt with rfl|⟨hA,fN,h1⟩
   ·simp[a8.withBox]at a2;subst a2;exact absurd (h.fr.trb k j _ aL).2 (Nat.lt_irrefl _)
   ·exact h.good.otr bl (.inl ⟨k',fN,by rw[←h1];exact a2⟩) k j aL
  ·exact h.good.otr bl (.inr ae) k j aL
 ·rw[Below.heap_alloc w _ k (by have:=h.fr.size;omega)];exact h.fr.block k ad hm
 ·obtain⟨aS,bc⟩:=h.fr.keep b o ba;exact⟨aS,(QZ (h.good.alt b o aS)).trans bc⟩
 ·exact av.bx _ _ trivial (h.fr.obj n b ae)
 ·have cD:k≠gW:=fun e=>by subst e;exact afe j b ae
  obtain⟨t1,t2⟩:=h.fr.trn k j b ae;exact⟨by simp[a8.withBox,cD,t1],t2⟩
 ·obtain⟨f1,f2⟩:=dd m hm;obtain⟨aS,bc⟩:=h.new m f1;refine⟨?_,bc⟩;simp[a8.withBox,f2,aS]
 ·simp[a6,a8.withBox]
theorem cX.setBox{C:fh}{st:bh}{a:Act}{w w':World}{ν:a8}(h:cX C st a w ν){k:aJ}{cs cs':List ah}(ad:look k st.b=some cs){bl:Nat}(ae:ν.bx k=some bl){us:Array Value}{el:gL}
  (z1:w'.os=w.os) (K1:w'.tape=w.tape) (KN:w'.output=w.output) (nn:∀j,j≠bl→w'.heap[j]? =w.heap[j]?) (et:w'.heap.size=w.heap.size) (iT:w'.heap[bl]? =some (jN cs' us el)) (ar:jm w ν cs' us.toList):
  cX C {st with b:=cu k cs' st.b} a w' ν∧lD w ν w' ν:=by
 obtain⟨iA,fx,an5,g1,g2,g3,g4,g5⟩:=h.good.box k cs ad;rw[ae]at g1;cases g1;have av:lD w ν w' ν:=by
  refine⟨fun b o ba=>⟨ba,World.cell?_of_block (nn b fun e=>?_)⟩,fun _ _ _ h=>h,fun g n u _ aR=>⟨n,u,aR,.inl ⟨rfl,rfl⟩⟩,fun b o ba=>w1 (nn b fun e=>?_),fun _ _ _ _ h=>h⟩<;>
  (subst e;exact g3 o ba)
 have FQ:∀j,(look j (cu k cs' st.b)).isSome→(look j st.b).isSome:=by
  intro j ag;rw[iW]at ag;by_cases e:k=j
  ·subst e;simp[ad]
  ·rwa[if_neg e]at ag
 refine⟨h.over av rfl ⟨fun b o ba=>by rw[et];exact h.good.alt b o ba,fun j eO ag=>?_,fun j dB b ag ju=>h.good.inj j dB b (FQ j ag) (FQ dB ju),fun g o aR=>?_,h.good.oinj,fun g j n v b aR ag=>h.good.obx g j n v b aR (FQ j ag),h.good.one,fun bl ae=>h.good.otr bl (ae.imp (fun⟨k,J,U⟩=>⟨k,FQ k J,U⟩) id)⟩
  ⟨z1.trans h.fr.os,K1.trans h.fr.tape,KN.trans h.fr.output,by rw[et];exact h.fr.size,fun j ag hm=>?_,fun b o ba=>?_,h.fr.fresh,h.fr.obj,h.fr.obn,h.fr.row,h.fr.obr,h.fr.trd,fun k j b ae=>⟨(h.fr.trb k j b ae).1,by rw[et];exact(h.fr.trb k j b ae).2⟩,h.fr.trn,fun b o ba=>(av.sh b o (h.fr.keep b o ba).1).trans (h.fr.sh b o ba)⟩ h.new,av⟩
 ·simp only at ag;rw[iW]at ag;by_cases e:k=j
  ·rw[if_pos e]at ag;cases ag;subst e;exact⟨bl,us,el,ae,g2,g3,iT,qh av ar⟩
  ·rw[if_neg e]at ag;obtain⟨b,b8,fZ,ai,ax,bn,dp,hT⟩:=h.good.box j eO ag;refine⟨b,b8,fZ,ai,ax,bn,?_,qh av hT⟩;rw[nn b fun fT=>e (h.good.inj k j bl (by simp[ad]) (by simp[ag]) ae (by rw[←fT];exact ai))];exact dp
 ·obtain⟨v,xs,ai,ax,bn,dp⟩:=h.good.own g o aR;refine⟨v,xs,ai,⟨ax.1,?_⟩,bn,sl av (fun _ _ _ h=>h) dp⟩;rcases ax.2 with ax|⟨bb,cap,cur,f1,f2,f3,f4⟩
  ·exact .inl ax
  ·refine .inr ⟨bb,cap,cur,f1,f2,?_,f4⟩;rw[nn bb fun fT=>h.good.obx g k o.n v bl (by simp[aR]) (by simp[ad]) ai (by rw[f1,←fT];rfl) ae];exact f3
 ·rw[nn j fun e=>by subst e;exact g2.elim hm (fun g2=>by omega)];exact h.fr.block j ag hm
 ·obtain⟨aS,bc⟩:=h.fr.keep b o ba;exact⟨aS,(av.A b o aS).2.trans bc⟩
theorem cX.storeBox{C:fh}{st:bh}{a:Act}{w:World}{ν:a8}(h:cX C st a w ν){k:aJ}{cs cs':List ah}(ad:look k st.b=some cs){bl:Nat}(ae:ν.bx k=some bl)(bB:h2 cs=true){us:Array Value}(ar:dg w ν cs' us.toList):
  cX C {st with b:=cu k cs' st.b} a (w.setRow bl us) ν:=by
 obtain⟨iA,fx,el,g1,g2,g3,g4,g5⟩:=h.good.box k cs ad;rw[ae]at g1;cases g1;rw[u7 bB]at g4;have x8:=Bj ar;exact(h.setBox (w':=w.setRow bl us) ad ae (us:=us) (el:=el) rfl rfl rfl (fun j ag=>setRow_other w bl j us ag) (setRow_size w bl us) (by rw[u7 x8];exact setRow_heap w bl fx us el _ g4) (by rw[u9 x8];exact ar)).1
def a8.withRowOf(ν:a8)(k:aJ)(v:Value)(n cells:Nat):a8:={A:=fun b o=>ν.A b o∨(v.ownBlock=some b∧o<cells),bx:=ν.bx,ow:=fun j=>if j=k then some (n,v)else ν.ow j,tr:=ν.tr}
theorem AB{w:World}{A:Nat→Nat→Prop}{b:Nat}:∀(us:List Value) (off:Nat),(∀j u,us[j]? =some u→A b (off+j)∧w.cell? ⟨b,off+j,none⟩=some u)→lS w A b off us
 |[],_,_=>trivial
 |u::us,off,h=>⟨h 0 u rfl,AB us (off+1) fun j x ag=>by have:=h (j+1) x (by simpa using ag);rwa[show off+(j+1)=off+1+j from by omega]at this⟩
theorem E9{w w':World}(aR:w.grownBy w' none){b i:Nat}(h:b<w.heap.size):w'.cell? ⟨b,i,none⟩=w.cell? ⟨b,i,none⟩:=World.cell?_of_block (aR.block b h (by simp))
theorem cX.newRowM{C:fh}{st:bh}{a:Act}{w w':World}{ν:a8}(h:cX C st a w ν){k:aJ}{xs:List ah}(ad:(ν.bx k=none∧ν.ow k=none∧∀j b,¬ν.tr k j b)∨ ∃o,look k st.e=some o∧o.n<xs.length){el sz:Nat}{v:Value}{us:List Value}
  (aR:w.grownBy w' none) (lN:w'.ownsRow w.heap.size el sz v xs.length us) (ar:dA w ν sz xs us) (gV:xs.length≤lim) {n':Nat} {o':List aJ} (dd:∀j,fresh n' o' j→fresh st.n st.o j∧j≠k):
  cX C {st with e:=cu k ⟨xs.length,el,sz,some xs⟩ st.e,n:=n',o:=o'} a w' (ν.withOwn k xs.length v)∧
  ((∃b cap,v= .slice (some ⟨b,0,none⟩) xs.length cap)→a6 w' (ν.withOwn k xs.length v) (.row sz k xs.length) v):=by
 have pY:∀bl,v.ownBlock=some bl→w.heap.size≤bl∧bl<w'.heap.size:=fun bl ae=>lN.lt bl ae;have av:lD w ν w' (ν.withOwn k xs.length v):=by
  refine⟨fun b o ba=>⟨ba,E9 aR (h.good.alt b o ba)⟩,fun j b _ ag=>ag,fun g n u _ iS=>?_,fun b o ba=>w1 (aR.block b (h.good.alt b o ba) (by simp)),fun _ _ _ _ h=>h⟩;by_cases e:g=k
  ·subst e;rcases ad with ad|⟨o,av,bm⟩
   ·rw[ad.2.1]at iS;cases iS
   ·obtain⟨v0,fx,ai,_⟩:=h.good.own g o av;rw[ai]at iS;cases iS;exact⟨xs.length,v,by simp[a8.withOwn],.inr bm⟩
  ·exact⟨n,u,by simp[a8.withOwn,e,iS],.inl ⟨rfl,rfl⟩⟩
 have kV:∀g,(look g (cu k ⟨xs.length,el,sz,some xs⟩ st.e)).isSome→g=k∨(g≠k∧(look g st.e).isSome∧(ν.withOwn k xs.length v).ow g=ν.ow g):=by
  intro g kx;by_cases e:g=k
  ·exact .inl e
  ·rw[iW,if_neg (la e)]at kx;exact .inr ⟨e,kx,by simp[a8.withOwn,e]⟩
 have Tp:∀bl,v.ownBlock=some bl→∀j,¬ν.A bl j:=fun bl ae j ba=>by have J:=h.good.alt bl j ba;have:=(pY bl ae).1;omega
 have afl:∀j b,¬ν.tr k j b:=fun j b ae=>by
  rcases ad with ad|⟨o,hX,_⟩
  ·exact ad.2.2 j b ae
  ·obtain⟨v0,fx,ai,_⟩:=h.good.own k o hX;rw[(h.fr.trn k j b ae).2]at ai;cases ai
 refine⟨h.over av rfl ⟨fun bl o ba=>?_,fun j eO ag=>?_,h.good.inj,fun g o eD=>?_,fun g e9 n n' u fc bl J U ao a1 b2 dc=>?_,fun g j n u bl J U ao a1 b2=>?_,fun j=>?_,fun bl ae k' j aL=>?_⟩
  ⟨aR.os.trans h.fr.os,aR.tape.trans h.fr.tape,aR.output.trans h.fr.output,jR h.fr.size aR.size,fun j ag hm=>?_,fun b o ba=>?_,h.fr.fresh,h.fr.obj,h.fr.obn,fun m n u hm=>DV (h.fr.row m n u hm) (fun n u=>av.ow _ n u trivial),h.fr.obr,h.fr.trd,fun k j b ae=>⟨(h.fr.trb k j b ae).1,Nat.lt_of_lt_of_le (h.fr.trb k j b ae).2 aR.size⟩,fun k' j b ae=>?_,fun b o ba=>(av.sh b o (h.fr.keep b o ba).1).trans (h.fr.sh b o ba)⟩ (fun m hm=>?_),?_⟩
 ·have:=h.good.alt bl o ba;have:=aR.size;omega
 ·obtain⟨bl,b8,fZ,g1,g2,g3,g4,g5⟩:=h.good.box j eO ag;have bm:=(Array.getElem?_eq_some_iff.1 g4).1;exact⟨bl,b8,fZ,g1,g2,g3,by rw[aR.block bl bm (by simp)];exact g4,qh av g5⟩
 ·simp only at eD;rw[iW]at eD;by_cases e:k=g
  ·rw[if_pos e]at eD;cases eD;subst e;refine⟨v,us,by simp[a8.withOwn],⟨lN.1,?_⟩,fun bl ae=>⟨.inr (jR h.fr.size (pY bl ae).1),fun j ba=>absurd ba (Tp bl ae j)⟩,fun ys aD=>?_⟩
   ·rcases lN.2 with ai|⟨bb,cap,cur,f1,f2,f3⟩
    ·exact .inl ai
    ·exact .inr ⟨bb,cap,cur,f1,by omega,f3⟩
   ·simp only[dw]at aD;subst aD;exact⟨rfl,Bg av ar,Tp⟩
  ·rw[if_neg e]at eD;obtain⟨v0,fx,ai,ax,bn,dp⟩:=h.good.own g o eD;exact⟨v0,fx,by simp[a8.withOwn,la e,ai],ax.kept aR (by cases v0.ownBlock<;>simp),bn,sl av (fun _ _ _ h=>h) dp⟩
 ·rcases kV g J with rfl|⟨hA,fN,h1⟩<;>rcases kV e9 U with rfl|⟨m1,m2,m3⟩
  ·rfl
  ·exfalso;simp only[a8.withOwn,if_true,dw,jB]at ao;rw[m3]at a1;obtain⟨o,hX⟩:=fB.1 m2;have aq:=h.good.ownLt hX a1 dc;have:=(pY bl (by rw[ao.2];exact b2)).1;omega
  ·exfalso;simp only[a8.withOwn,if_true,dw,jB]at a1;rw[h1]at ao;obtain⟨o,hX⟩:=fB.1 fN;have aq:=h.good.ownLt hX ao b2;have:=(pY bl (by rw[a1.2];exact dc)).1;omega
  ·rw[h1]at ao;rw[m3]at a1;exact h.good.oinj g e9 n n' u fc bl fN m2 ao a1 b2 dc
 ·rcases kV g J with rfl|⟨hA,fN,h1⟩
  ·simp only[a8.withOwn,if_true,dw,jB]at ao;obtain⟨eO,iR⟩:=fB.1 U;have aq:=h.good.boxLt iR b2;have:=(pY bl (by rw[ao.2];exact a1)).1;omega
  ·rw[h1]at ao;exact h.good.obx g j n u bl fN U ao a1 b2
 ·by_cases e:j=k
  ·subst e;rcases ad with ad|⟨o,hX,_⟩
   ·exact .inl ad.1
   ·obtain⟨v0,fx,ai,_⟩:=h.good.own j o hX;rcases h.good.one j with J|J
    ·exact .inl J
    ·rw[J]at ai;cases ai
  ·rcases h.good.one j with J|J
   ·exact .inl J
   ·exact .inr (by simp[a8.withOwn,e,J])
 ·rcases ae with ae|⟨g,n,u,bt,a2,a3⟩
  ·exact h.good.otr bl (.inl ae) k' j aL
  ·rcases kV g bt with rfl|⟨hA,fN,h1⟩
   ·simp only[a8.withOwn,if_true,dw,jB]at a2;have J:=(pY bl (by rw[a2.2];exact a3)).1;have U:=(h.fr.trb k' j _ aL).2;omega
   ·exact h.good.otr bl (.inr ⟨g,n,u,fN,by rw[←h1];exact a2,a3⟩) k' j aL
 ·rw[aR.block j (by have:=h.fr.size;omega) (by simp)];exact h.fr.block j ag hm
 ·obtain⟨aS,bc⟩:=h.fr.keep b o ba;exact⟨aS,(av.A b o aS).2.trans bc⟩
 ·have cD:k'≠k:=fun e=>by subst e;exact afl j b ae
  obtain⟨t1,t2⟩:=h.fr.trn k' j b ae;exact⟨t1,by simp[a8.withOwn,cD,t2]⟩
 ·obtain⟨f1,f2⟩:=dd m hm;obtain⟨aS,bc,bT⟩:=h.new m f1;refine⟨aS,?_,bT⟩;simp[a8.withOwn,f2,bc]
 ·intro Kx;simp only[a6];exact⟨Kx,gV,xs.length,v,by simp[a8.withOwn],ff _,fun _=>rfl⟩
theorem cX.publish{C:fh}{st:bh}{a:Act}{w:World}{ν:a8}(h:cX C st a w ν){k:aJ}{o:fL}{xs:List ah}(ad:look k st.e=some o)(ab:o.xs=some xs){v:Value}(aI:ν.ow k=some (o.n,v))(gV:xs.length≤lim):
  cX C {st with e:=cu k ⟨o.n,o.el,o.sz,none⟩ st.e} a w (ν.withRowOf k v o.n (o.n*o.sz))∧
  a6 w (ν.withRowOf k v o.n (o.n*o.sz)) (.slice o.sz (.own k) xs) v:=by
 obtain⟨v0,us,aV,bf,bI,cN⟩:=h.good.own k o ad;rw[aI]at aV;cases aV;obtain⟨c6,nV,va⟩:=cN xs ab;have oE:∀g,(ν.withRowOf k v o.n (o.n*o.sz)).ow g=ν.ow g:=fun g=>by
  simp only[a8.withRowOf];split
  ·rename_i e;subst e;exact aI.symm
  ·rfl
 have av:lD w ν w (ν.withRowOf k v o.n (o.n*o.sz)):=⟨fun b o ba=>⟨.inl ba,rfl⟩,fun j b _ ag=>ag,fun g n u _ iS=>⟨n,u,by rw[oE];exact iS,.inl ⟨rfl,rfl⟩⟩,fun _ _ _=>rfl,fun _ _ _ _ h=>h⟩
 have kV:∀g,(look g (cu k ⟨o.n,o.el,o.sz,none⟩ st.e)).isSome→(look g st.e).isSome:=by
  intro g kx;by_cases e:k=g
  ·subst e;simp[ad]
  ·rwa[iW,if_neg e]at kx
 refine⟨h.over av rfl ⟨fun bl i ba=>?_,fun j eO ag=>?_,h.good.inj,fun g o' eD=>?_,fun g e9 n n' u fc bl J U ao a1=>h.good.oinj g e9 n n' u fc bl (kV g J) (kV e9 U) (by rwa[oE]at ao) (by rwa[oE]at a1),fun g j n u bl J U ao=>h.good.obx g j n u bl (kV g J) U (by rwa[oE]at ao),fun j=>?_,fun bl ae=>h.good.otr bl (ae.imp id (fun⟨g,n,v,bt,a2,a3⟩=>⟨g,n,v,kV g bt,by rwa[oE]at a2,a3⟩))⟩
  ⟨h.fr.os,h.fr.tape,h.fr.output,h.fr.size,h.fr.block,fun b i ba=>⟨.inl (h.fr.keep b i ba).1,(h.fr.keep b i ba).2⟩,fun b i ba=>?_,h.fr.obj,h.fr.obn,fun m n u hm=>DV (h.fr.row m n u hm) (fun n u=>av.ow _ n u trivial),h.fr.obr,h.fr.trd,h.fr.trb,fun k' j b ae=>⟨(h.fr.trn k' j b ae).1,by rw[oE];exact(h.fr.trn k' j b ae).2⟩,h.fr.sh⟩ (fun m hm=>?_),?_⟩
 ·rcases ba with ba|⟨ba,_⟩
  ·exact h.good.alt bl i ba
  ·exact(bf.lt bl ba).2
 ·obtain⟨bl,b8,fZ,g1,g2,g3,g4,g5⟩:=h.good.box j eO ag;refine⟨bl,b8,fZ,g1,g2,fun i ba=>?_,g4,qh av g5⟩;rcases ba with ba|⟨ba,_⟩
  ·exact g3 i ba
  ·exact h.good.obx k j o.n v bl (by simp[ad]) (by simp[ag]) aI ba g1
 ·simp only at eD;rw[iW]at eD;by_cases e:k=g
  ·rw[if_pos e]at eD;cases eD;subst e;refine⟨v,us,by rw[oE];exact aI,bf,fun bl ae=>⟨(bI bl ae).1,fun j ba=>?_⟩,fun ys aD=>by cases aD⟩;rcases ba with ba|⟨_,ba⟩
   ·exact(bI bl ae).2 j ba
   ·exact ba
  ·rw[if_neg e]at eD;obtain⟨v0,fx,ai,ax,bn,dp⟩:=h.good.own g o' eD;have vS:∀bl,v0.ownBlock=some bl→∀j,(ν.withRowOf k v o.n (o.n*o.sz)).A bl j→ν.A bl j:=fun bl ae j ba=>by
    rcases ba with ba|⟨ba,_⟩
    ·exact ba
    ·exact absurd (h.good.oinj k g o.n o'.n v v0 bl (by simp[ad]) (by simp[eD]) aI ai ba ae) e
   exact⟨v0,fx,by rw[oE];exact ai,ax,fun bl ae=>⟨(bn bl ae).1,fun j ba=>(bn bl ae).2 j (vS bl ae j ba)⟩,sl av vS dp⟩
 ·rcases h.good.one j with J|J
  ·exact .inl J
  ·exact .inr (by rw[oE];exact J)
 ·rcases ba with ba|⟨ba,_⟩
  ·exact h.fr.fresh b i ba
  ·exact .inr (bI b ba).1
 ·obtain⟨aS,bc,bT⟩:=h.new m hm;exact⟨aS,by rw[oE];exact bc,bT⟩
 ·simp only[a6];refine⟨?_,fun e=>(by cases e),fun g e=>?_,fun _ _ e=>(by cases e),fun _ e=>(by cases e)⟩
  ·rcases bf.2 with⟨ai,ax⟩|⟨bb,cap,cur,f1,f2,f3,f4,f5,f6,f7⟩
   ·refine⟨none,0,by rw[ai,c6,ax],by omega,⟨by simp[maxLen],gV⟩,.inl (List.eq_nil_of_length_eq_zero (by omega))⟩
   ·refine⟨some ⟨bb,0,none⟩,cap,by rw[f1,c6],by omega,⟨f5,gV⟩,.inr ⟨bb,0,us,rfl,AB us 0 fun j u ag=>?_,Bg av nV⟩⟩;have oI:v.ownBlock=some bb:=by rw[f1];rfl
    have zT:j<us.length:=(fU.1 ag).1;refine⟨.inr ⟨oI,by rw[bf.1]at zT;omega⟩,?_⟩;have:=bf.cells oI j u ag;rwa[o2]at this
  ·cases e;exact⟨o.n,v,by rw[oE];exact aI,by omega,fun _=>rfl⟩
theorem XE{α:Type}(k:aJ)(p q:α):∀l,cu k q (cu k p l)=cu k q l
 |[]=>by simp[cu]
 |(i,r)::l=>by
  by_cases e:i=k
  ·simp[cu,e]
  ·simp[cu,e,XE k p q l]
theorem cX.newRow{C:fh}{st:bh}{a:Act}{w w':World}{ν:a8}(h:cX C st a w ν){k:aJ}{xs:List ah}(ad:(ν.bx k=none∧ν.ow k=none∧∀j b,¬ν.tr k j b)∨ ∃o,look k st.e=some o∧o.n<xs.length){el sz:Nat}{v:Value}{us:List Value}
  (aR:w.grownBy w' none) (lN:w'.ownsRow w.heap.size el sz v xs.length us) (ar:dA w ν sz xs us) (gV:xs.length≤lim) {n':Nat} {o':List aJ} (dd:∀j,fresh n' o' j→fresh st.n st.o j∧j≠k):
  cX C {st with e:=cu k ⟨xs.length,el,sz,none⟩ st.e,n:=n',o:=o'} a w' ((ν.withOwn k xs.length v).withRowOf k v xs.length (xs.length*sz))∧
  a6 w' ((ν.withOwn k xs.length v).withRowOf k v xs.length (xs.length*sz)) (.slice sz (.own k) xs) v:=by
 have J:=(h.newRowM ad aR lN ar gV dd).1;have U:=J.publish (k:=k) (o:=⟨xs.length,el,sz,some xs⟩) (xs:=xs) (v:=v) (by simp[iW]) rfl (by simp[a8.withOwn]) gV;simpa only[XE]using U
theorem cX.setRowM{C:fh}{st:bh}{a:Act}{w w':World}{ν:a8}(h:cX C st a w ν){k:aJ}{o:fL}{xs xs':List ah}(ad:look k st.e=some o)(ab:o.xs=some xs){bl:Nat}{v v':Value}(aI:ν.ow k=some (o.n,v))(oI:v.ownBlock=some bl)(Ga:v'.ownBlock=some bl)
  (au:(xs'.length=o.n∧v'=v)∨o.n<xs'.length) {us:List Value} (z1:w'.os=w.os) (K1:w'.tape=w.tape) (KN:w'.output=w.output) (nn:∀j,j≠bl→w'.heap[j]? =w.heap[j]?) (et:w'.heap.size=w.heap.size)
  (lN:w'.ownsRow 0 o.el o.sz v' xs'.length us) (ar:dA w ν o.sz xs' us):
  cX C {st with e:=cu k ⟨xs'.length,o.el,o.sz,some xs'⟩ st.e} a w' (ν.withOwn k xs'.length v')∧lD w ν w' (ν.withOwn k xs'.length v')∧(xs'.length≤lim→a6 w' (ν.withOwn k xs'.length v') (.row o.sz k xs'.length) v'):=by
 obtain⟨v0,fx,aV,bf,bI,cN⟩:=h.good.own k o ad;rw[aI]at aV;cases aV;obtain⟨c6,nV,va⟩:=cN xs ab;have av:lD w ν w' (ν.withOwn k xs'.length v'):=by
  refine⟨fun b i ba=>⟨ba,World.cell?_of_block (nn b fun e=>by subst e;exact va b oI i ba)⟩,fun j b _ ag=>ag,fun g n u _ iS=>?_,fun b i ba=>w1 (nn b fun e=>by subst e;exact va b oI i ba),fun _ _ _ _ h=>h⟩;by_cases e:g=k
  ·subst e;rw[aI]at iS;cases iS;refine⟨xs'.length,v',by simp[a8.withOwn],?_⟩;rcases au with⟨J,U⟩|J
   ·exact .inl ⟨J,U⟩
   ·exact .inr J
  ·exact⟨n,u,by simp[a8.withOwn,e,iS],.inl ⟨rfl,rfl⟩⟩
 have kV:∀g n u,(look g (cu k ⟨xs'.length,o.el,o.sz,some xs'⟩ st.e)).isSome→(ν.withOwn k xs'.length v').ow g=some (n,u)→∀b,u.ownBlock=some b→(look g st.e).isSome∧∃n u,ν.ow g=some (n,u)∧u.ownBlock=some b:=by
  intro g n u kx iS b ae;by_cases e:g=k
  ·subst e;simp only[a8.withOwn,if_true,dw,jB]at iS;rw[←iS.2,Ga]at ae;cases ae;exact⟨by simp[ad],o.n,v,aI,oI⟩
  ·rw[iW,if_neg (la e)]at kx;simp only[a8.withOwn,e,if_false]at iS;exact⟨kx,n,u,iS,ae⟩
 refine⟨h.over av rfl ⟨fun b i ba=>by rw[et];exact h.good.alt b i ba,fun j eO ag=>?_,h.good.inj,fun g o' eD=>?_,fun g e9 n n' u fc b J U ao a1 b2 dc=>?_,fun g j n u b J U ao a1 b2=>?_,fun j=>?_,fun b ae=>h.good.otr b (ae.imp id (fun⟨g,n,v,bt,a2,a3⟩=>by obtain⟨bM,hA,iY,bO,gg⟩:=kV g n v bt a2 b a3;exact⟨g,hA,iY,bM,bO,gg⟩))⟩
  ⟨z1.trans h.fr.os,K1.trans h.fr.tape,KN.trans h.fr.output,by rw[et];exact h.fr.size,fun j ag hm=>?_,fun b i ba=>?_,h.fr.fresh,h.fr.obj,h.fr.obn,fun m n u hm=>DV (h.fr.row m n u hm) (fun n u=>av.ow _ n u trivial),h.fr.obr,h.fr.trd,fun k j b ae=>⟨(h.fr.trb k j b ae).1,by rw[et];exact(h.fr.trb k j b ae).2⟩,fun k' j b ae=>?_,fun b o ba=>(av.sh b o (h.fr.keep b o ba).1).trans (h.fr.sh b o ba)⟩ (fun m hm=>?_),av,?_⟩
 ·obtain⟨b,b8,fZ,g1,g2,g3,g4,g5⟩:=h.good.box j eO ag;have cD:b≠bl:=fun e=>h.good.obx k j o.n _ bl (by simp[ad]) (by simp[ag]) aI oI (by rw[←e];exact g1);exact⟨b,b8,fZ,g1,g2,g3,by rw[nn b cD];exact g4,qh av g5⟩
 ·simp only at eD;rw[iW]at eD;by_cases e:k=g
  ·rw[if_pos e]at eD;cases eD;subst e;refine⟨v',us,by simp[a8.withOwn],lN,fun b ae=>?_,fun ys aD=>?_⟩
   ·rw[Ga]at ae;cases ae;exact⟨(bI bl oI).1,fun j ba=>absurd ba (va bl oI j)⟩
   ·simp only[dw]at aD;subst aD;exact⟨rfl,Bg av ar,fun b ae=>by rw[Ga]at ae;cases ae;exact va bl oI⟩
  ·rw[if_neg e]at eD;obtain⟨v0,fx,ai,ax,bn,dp⟩:=h.good.own g o' eD;have cD:∀b,v0.ownBlock=some b→b≠bl:=fun b ae Jv=>e (h.good.oinj k g o.n o'.n _ v0 bl (by simp[ad]) (by simp[eD]) aI ai oI (by rw[←Jv];exact ae));refine⟨v0,fx,by simp[a8.withOwn,la e,ai],⟨ax.1,?_⟩,bn,sl av (fun _ _ _ h=>h) dp⟩;rcases ax.2 with ax|⟨bb,B2,mr,f1,f2,f3,f4⟩
   ·exact .inl ax
   ·exact .inr ⟨bb,B2,mr,f1,f2,by rw[nn bb (cD bb (by rw[f1];rfl))];exact f3,f4⟩
 ·obtain⟨bt,hA,iY,a2,a3⟩:=kV g n u J ao b b2;obtain⟨bM,fN,jA,bO,gg⟩:=kV e9 n' fc U a1 b dc;exact h.good.oinj g e9 hA fN iY jA b bt bM a2 bO a3 gg
 ·obtain⟨bt,hA,iY,a2,a3⟩:=kV g n u J ao b a1;exact h.good.obx g j hA iY b bt U a2 a3 b2
 ·by_cases e:j=k
  ·subst e;rcases h.good.one j with J|J
   ·exact .inl J
   ·rw[J]at aI;cases aI
  ·rcases h.good.one j with J|J
   ·exact .inl J
   ·exact .inr (by simp[a8.withOwn,e,J])
 ·rw[nn j fun e=>by subst e;exact(bI j oI).1.elim hm (fun g2=>by omega)];exact h.fr.block j ag hm
 ·obtain⟨aS,bc⟩:=h.fr.keep b i ba;exact⟨aS,(av.A b i aS).2.trans bc⟩
 ·obtain⟨t1,t2⟩:=h.fr.trn k' j b ae;have cD:k'≠k:=fun e=>by subst e;rw[t2]at aI;cases aI
  exact⟨t1,by simp[a8.withOwn,cD,t2]⟩
 ·obtain⟨aS,bc,bT⟩:=h.new m hm;refine⟨aS,?_,bT⟩;have:m≠k:=fun e=>by subst e;rw[bc]at aI;cases aI
  simp[a8.withOwn,this,bc]
 ·intro gV;simp only[a6];obtain⟨cap,Kx⟩:=VN lN Ga;exact⟨⟨bl,cap,Kx⟩,gV,xs'.length,v',by simp[a8.withOwn],ff _,fun _=>rfl⟩
theorem cX.inPlace{C:fh}{st:bh}{a:Act}{w:World}{ν:a8}(h:cX C st a w ν){k:aJ}{o:fL}(ad:look k st.e=some o){bl cap:Nat}{cur:Array Value}(aI:ν.ow k=some (o.n,.slice (some ⟨bl,0,none⟩) o.n cap))
  (xQ:w.heap[bl]? =some (.cells cur o.el (0,0))) (zM:cap≤maxLen) (et:cur.size=cap*o.sz) {xs ys:List ah} {us ns:List Value} (pq:xs.length=o.n) (qZ:cur.toList.take (o.n*o.sz)=us) (ar:dA w ν o.sz xs us) (zO:dA w ν o.sz ys ns)
  (fE:0<ys.length) (rW:o.n+ys.length≤cap) (gV:xs.length+ys.length≤lim):
  cX C {st with e:=cu k ⟨o.n+ys.length,o.el,o.sz,none⟩ st.e} a (w.setRow bl (us++ns++cur.toList.drop (o.n*o.sz+ns.length)).toArray)
   (ν.withRowOf k (.slice (some ⟨bl,0,none⟩) (o.n+ys.length) cap) (o.n+ys.length) ((o.n+ys.length)*o.sz))∧
  a6 (w.setRow bl (us++ns++cur.toList.drop (o.n*o.sz+ns.length)).toArray) (ν.withRowOf k (.slice (some ⟨bl,0,none⟩) (o.n+ys.length) cap) (o.n+ys.length) ((o.n+ys.length)*o.sz))
   (.slice o.sz (.own k) (xs++ys)) (.slice (some ⟨bl,0,none⟩) (o.n+ys.length) cap):=by
 have jI:=tJ zO;have rY:=tJ ar;rw[pq]at rY;have hmul:(o.n+ys.length)*o.sz≤cap*o.sz:=Nat.mul_le_mul_right _ rW;rw[pL]at hmul;obtain⟨v0,fx,aV,bf,bI,_⟩:=h.good.own k o ad;rw[aI]at aV;cases aV;obtain⟨cN,c6⟩:=bI bl rfl;generalize Ah:w.setRow bl (us++ns++cur.toList.drop (o.n*o.sz+ns.length)).toArray=w';have nn:∀j,j≠bl→w'.heap[j]? =w.heap[j]?:=fun j ag=>by rw[←Ah];exact setRow_other w bl j _ ag
 have iT:w'.heap[bl]? =some (.cells (us++ns++cur.toList.drop (o.n*o.sz+ns.length)).toArray o.el (0,0)):=by rw[←Ah];exact setRow_heap w bl cur _ o.el _ xQ
 have KX:w'.heap.size=w.heap.size:=by rw[←Ah];exact setRow_size w bl _
 have mx:∀j,j<o.n*o.sz→w'.cell? ⟨bl,j,none⟩=w.cell? ⟨bl,j,none⟩:=by intro j ag;simp only[World.cell?,iT,xQ,ja,gC,if_false];rw[List.getElem?_toArray,List.append_assoc,List.getElem?_append_left (by omega),←qZ,List.getElem?_take,if_pos ag];simp
 have av:lD w ν w' (ν.withRowOf k (.slice (some ⟨bl,0,none⟩) (o.n+ys.length) cap) (o.n+ys.length) ((o.n+ys.length)*o.sz)):=by
  refine⟨fun b j ba=>⟨.inl ba,?_⟩,fun j b _ ag=>ag,fun g n u _ iS=>?_,fun b j ba=>?_,fun _ _ _ _ h=>h⟩;rotate_left 2
  ·by_cases e:b=bl
   ·subst e;simp only[shape,iT,xQ,List.size_toArray,pJ,sC,Array.length_toList];congr 2;omega
   ·exact w1 (nn b e)
  ·by_cases e:b=bl
   ·subst e;exact mx j (c6 j ba)
   ·exact World.cell?_of_block (nn b e)
  ·by_cases e:g=k
   ·subst e;rw[aI]at iS;cases iS;exact⟨o.n+ys.length,.slice (some ⟨bl,0,none⟩) (o.n+ys.length) cap,by simp[a8.withRowOf],.inr (by omega)⟩
   ·exact⟨n,u,by simp[a8.withRowOf,e,iS],.inl ⟨rfl,rfl⟩⟩
 have kV:∀g,(look g (cu k ⟨o.n+ys.length,o.el,o.sz,none⟩ st.e)).isSome→g=k∨(g≠k∧(look g st.e).isSome∧(ν.withRowOf k (.slice (some ⟨bl,0,none⟩) (o.n+ys.length) cap) (o.n+ys.length) ((o.n+ys.length)*o.sz)).ow g=ν.ow g):=by
  intro g kx;by_cases e:g=k
  ·exact .inl e
  ·rw[iW,if_neg (la e)]at kx;exact .inr ⟨e,kx,by simp[a8.withRowOf,e]⟩
 have aoD:bl<w.heap.size:=(Array.getElem?_eq_some_iff.1 xQ).1;have aes:∀j u,(us++ns)[j]? =some u→w'.cell? ⟨bl,j,none⟩=some u:=by intro j u ag;have zT:=(fU.1 ag).1;simp only[World.cell?,iT,ja,gC,if_false];rw[List.getElem?_toArray,List.getElem?_append_left zT];exact ag
 refine⟨h.over av rfl ⟨fun b j ba=>?_,fun j eO ag=>?_,h.good.inj,fun g o' eD=>?_,fun g e9 n n' u fc b J U ao a1 b2 dc=>?_,fun g j n u b J U ao a1 b2=>?_,fun j=>?_,fun b ae=>h.good.otr b ?_⟩
  ⟨by rw[←Ah];exact h.fr.os,by rw[←Ah];exact h.fr.tape,by rw[←Ah];exact h.fr.output,by rw[KX];exact h.fr.size,fun j ag hm=>?_,fun b j ba=>?_,fun b j ba=>?_,h.fr.obj,h.fr.obn,fun m n u hm=>DV (h.fr.row m n u hm) (fun n u=>av.ow _ n u trivial),h.fr.obr,h.fr.trd,fun k j b ae=>⟨(h.fr.trb k j b ae).1,by rw[KX];exact(h.fr.trb k j b ae).2⟩,fun k' j b ae=>?_,fun b o ba=>(av.sh b o (h.fr.keep b o ba).1).trans (h.fr.sh b o ba)⟩ (fun m hm=>?_),?_⟩
 ·rw[KX];rcases ba with ba|⟨ba,_⟩
  ·exact h.good.alt b j ba
  ·simp only[n9,dw]at ba;omega
 ·obtain⟨b,b8,fZ,g1,g2,g3,g4,g5⟩:=h.good.box j eO ag;have cD:b≠bl:=fun e=>h.good.obx k j o.n _ bl (by simp[ad]) (by simp[ag]) aI rfl (by rw[←e];exact g1);refine⟨b,b8,fZ,g1,g2,fun i ba=>?_,by rw[nn b cD];exact g4,qh av g5⟩;rcases ba with ba|⟨ba,_⟩
  ·exact g3 i ba
  ·simp only[n9,dw]at ba;exact cD ba.symm
 ·simp only at eD;rw[iW]at eD;by_cases e:k=g
  ·rw[if_pos e]at eD;cases eD;subst e;refine⟨.slice (some ⟨bl,0,none⟩) (o.n+ys.length) cap,us++ns,by simp[a8.withRowOf],⟨by rw[pJ,rY,jI,pL],.inr ⟨bl,cap,_,rfl,Nat.zero_le _,iT,rW,zM,?_,?_⟩⟩,fun b ae=>⟨?_,fun j ba=>?_⟩,fun ys aD=>by cases aD⟩
   ·simp only[List.size_toArray,pJ,sC,Array.length_toList];omega
   ·have aq:(us++ns).length=(o.n+ys.length)*o.sz:=by rw[pJ,rY,jI,pL]
    simp only[←aq];rw[List.take_append_of_le_length (ff _),nH]
   ·simp only[n9,dw]at ae;subst ae;exact cN
   ·simp only[n9,dw]at ae;subst ae;rcases ba with ba|⟨_,ba⟩
    ·have:=c6 j ba;simp only;rw[pL];omega
    ·exact ba
  ·rw[if_neg e]at eD;obtain⟨v0,fx,ai,ax,bn,dp⟩:=h.good.own g o' eD;have cD:∀b,v0.ownBlock=some b→b≠bl:=fun b ae Jv=>e (h.good.oinj k g o.n o'.n _ v0 bl (by simp[ad]) (by simp[eD]) aI ai rfl (by rw[←Jv];exact ae));have vS:∀b,v0.ownBlock=some b→∀j,(ν.withRowOf k (.slice (some ⟨bl,0,none⟩) (o.n+ys.length) cap) (o.n+ys.length) ((o.n+ys.length)*o.sz)).A b j→ν.A b j:=fun b ae j ba=>by
    rcases ba with ba|⟨ba,_⟩
    ·exact ba
    ·simp only[n9,dw]at ba;exact absurd ba.symm (cD b ae)
   refine⟨v0,fx,by simp[a8.withRowOf,la e,ai],⟨ax.1,?_⟩,fun b ae=>⟨(bn b ae).1,fun j ba=>(bn b ae).2 j (vS b ae j ba)⟩,sl av vS dp⟩;rcases ax.2 with ax|⟨bb,B2,mr,f1,f2,f3,f4⟩
   ·exact .inl ax
   ·exact .inr ⟨bb,B2,mr,f1,f2,by rw[nn bb (cD bb (by rw[f1];rfl))];exact f3,f4⟩
 ·rcases kV g J with rfl|⟨hA,fN,h1⟩<;>rcases kV e9 U with rfl|⟨m1,m2,m3⟩
  ·rfl
  ·exfalso;simp only[a8.withRowOf,if_true,dw,jB]at ao;rw[m3]at a1;rw[←ao.2]at b2;simp only[n9,dw]at b2;subst b2;exact m1 (h.good.oinj e9 g n' o.n fc _ bl m2 (by simp[ad]) a1 aI dc rfl)
  ·exfalso;simp only[a8.withRowOf,if_true,dw,jB]at a1;rw[h1]at ao;rw[←a1.2]at dc;simp only[n9,dw]at dc;subst dc;exact hA (h.good.oinj g e9 n o.n u _ bl fN (by simp[ad]) ao aI b2 rfl)
  ·rw[h1]at ao;rw[m3]at a1;exact h.good.oinj g e9 n n' u fc b fN m2 ao a1 b2 dc
 ·rcases kV g J with rfl|⟨hA,fN,h1⟩
  ·simp only[a8.withRowOf,if_true,dw,jB]at ao;rw[←ao.2]at a1;simp only[n9,dw]at a1;subst a1;exact h.good.obx g j o.n _ bl (by simp[ad]) U aI rfl b2
  ·rw[h1]at ao;exact h.good.obx g j n u b fN U ao a1 b2
 ·by_cases e:j=k
  ·subst e;rcases h.good.one j with J|J
   ·exact .inl J
   ·rw[J]at aI;cases aI
  ·rcases h.good.one j with J|J
   ·exact .inl J
   ·exact .inr (by simp[a8.withRowOf,e,J])
 ·rcases ae with ae|⟨g,n,u,bt,a2,a3⟩
  ·exact .inl ae
  ·rcases kV g bt with rfl|⟨hA,fN,h1⟩
   ·simp only[a8.withRowOf,if_true,dw,jB]at a2;rw[←a2.2]at a3;exact .inr ⟨g,_,_,by simp[ad],aI,a3⟩
   ·exact .inr ⟨g,n,u,fN,by rw[←h1];exact a2,a3⟩
 ·rw[nn j fun e=>by subst e;exact cN.elim hm (fun g2=>by omega)];exact h.fr.block j ag hm
 ·obtain⟨aS,bc⟩:=h.fr.keep b j ba;exact⟨.inl aS,(av.A b j aS).2.trans bc⟩
 ·rcases ba with ba|⟨ba,_⟩
  ·exact h.fr.fresh b j ba
  ·simp only[n9,dw]at ba;subst ba;exact .inr cN
 ·obtain⟨t1,t2⟩:=h.fr.trn k' j b ae;have cD:k'≠k:=fun e=>by subst e;rw[t2]at aI;cases aI
  exact⟨t1,by simp[a8.withRowOf,cD,t2]⟩
 ·obtain⟨aS,bc,bT⟩:=h.new m hm;refine⟨aS,?_,bT⟩;have:m≠k:=fun e=>by subst e;rw[bc]at aI;cases aI
  simp[a8.withRowOf,this,bc]
 ·simp only[a6];refine⟨⟨some ⟨bl,0,none⟩,cap,by simp[pq],by simp;omega,⟨zM,by simpa using gV⟩,.inr ⟨bl,0,us++ns,rfl,AB _ 0 fun j u ag=>?_,DP (Bg av ar) (Bg av zO)⟩⟩,fun e=>(by cases e),fun g e=>?_,fun _ _ e=>(by cases e),fun _ e=>(by cases e)⟩
  ·have zT:=(fU.1 ag).1;rw[Nat.zero_add];refine⟨.inr ⟨rfl,?_⟩,aes j u ag⟩;rw[pJ,rY,jI]at zT;rw[pL];exact zT
  ·cases e;exact⟨o.n+ys.length,.slice (some ⟨bl,0,none⟩) (o.n+ys.length) cap,by simp[a8.withRowOf],by simp[pq],fun _=>rfl⟩
theorem HL{P:cA}{w:World}{t ty e:gL}{i:TypeInfo}(aL:P.underlying t=some (.slice e))(hi:P.info? e=some i)(b:Option Addr)(n cap:Nat)(au:n≤cap)(x:Option Addr)(c:Nat):
  (Builtin.append_ #[t,t] ty #[.slice b n cap,.slice x 0 c]).run P w= .ok (.slice b n cap) w:=by
 cases b<;>cases x<;>simp[Builtin.append_,run_underlying aL,sizeOf,typeInfo,hi,Builtin.lenOf,au,Builtin.firstCells,loadCells,loadCellsFrom,storeCells]
inductive eh where
 |v (d:Nat) (i:fX)
 |box (d:Nat) (key:Option Nat) (x:dq)
 |alloc (d:Nat) (key:Option Nat) (zero:ah)
 |store (sz:Nat) (x y:dq)
 |bsl (d:Nat) (sz el:Nat) (xs:List dq)
 |app (d:Nat) (sz el:Nat) (x y:dq)
 |bslm (d:Nat) (key:Option Nat) (sz el:Nat) (xs:List dq)
 |appm (d:Nat) (key:Option Nat) (sz el:Nat) (x y:dq)
 |mkmap (d:Nat) (key:Option Nat)
 |mput (b7:jD) (x k v:dq)
 |range (d:Nat) (key:Option Nat) (x:dq)
 |storeE (sz:Nat) (x y:dq)
 |mks (d:Nat) (key:Option Nat) (sz el:Nat) (z:ah) (x:dq)
def jM(st:bh):Option Nat→aJ
 |none=>.loc st.n
 |some m=>.obj m
def p8(st:bh):Option Nat→Prop
 |none=>.loc st.n∉st.o
 |some m=>.obj m∉st.o
def nt(st:bh):Option Nat→Nat
 |none=>st.n+1
 |some _=>st.n
def nu(st:bh):Option Nat→List aJ
 |none=>st.o
 |some m=>.obj m::st.o
theorem wJ{st:bh}{key:Option Nat}(h:p8 st key):fresh st.n st.o (jM st key):=by cases key<;>simp[jM,fresh,p8]at h⊢ <;>exact h
theorem wK{st:bh}{key:Option Nat}:∀j,fresh (nt st key) (nu st key) j→fresh st.n st.o j∧j≠jM st key:=by
 intro j ag;cases key<;>cases j<;>simp[fresh,nt,nu,jM]at ag⊢
 ·exact⟨⟨by omega,ag.2⟩,by omega⟩
 ·exact ag
 ·exact ag
 ·exact⟨ag.2,ag.1⟩
def sI(sz:Nat):List ah→Prop
 |[]=>True
 |p::cq=>(eL p=true∧(cells p).length=sz)∧sI sz cq
def oO(b7:jD)(k v:ah):List ah→Option (List ah)
 | .hdm clock borns::kvs=>if uR b7 k=false then none else match u4 b7 k v kvs with
  |some (some wC)=>some (.hdm clock borns::wC)
  |some none=>some (.hdm (clock+1) (borns++[clock])::(kvs++[k,v]))
  |none=>none
 |_=>none
def wW(m:aJ):List ah→Option (List ah)
 | .hdm clock _::_=>some [.hdi clock [] clock,.gmap m]
 |_=>none
def sJ(st:bh)(sz el:Nat)(x y:ah):Option ((Option (aJ×List ah))×List ah):=
 match x,y with
 | .slice dC .nil _,.slice jn _ ys=>if dC=sz∧jn=sz then some (none,ys)else none
 | .row dC k n,.slice jn _ ys=>if dC=sz∧jn=sz then
   match look k st.e with
   |some ⟨n',fZ,w6,some xs⟩=>if n'=n∧fZ=el∧w6=sz then some (some (k,xs),ys)else none
   |_=>none
  else none
 |_,_=>none
def pG:ah→Nat→List ah→ah
 | .agg eO,f,cs=>.agg (nZ eO f cs)
 |_,_,[q]=>q
 |_,_,_=>.junk
def re(st:bh)(sz:Nat)(p v:ah):Option (Prop×bh):=
 match p with
 | .rptr dC k n i f=>match look k st.e with
  |some ⟨n',el,jn,some xs⟩=>if n'=n∧jn=dC then
    match xs[i]? with
    |some q=>some (eL q=true∧eL v=true∧(cells v).length=sz∧f+sz≤(cells q).length∧0<sz,{st with e:=cu k ⟨n',el,jn,some (xs.set i (pG q f (cells v)))⟩ st.e})
    |none=>none
   else none
  |_=>none
 |_=>none
def mg(st:bh):eh→Option (Prop×bh)
 | .mks d key sz el z x=>match cj st.t x with
  | .int _ n=>some (p8 st key∧0≤n∧n≤lim,
    {t:=put d (.row sz (jM st key) n.toNat) st.t,b:=st.b,e:=cu (jM st key) ⟨n.toNat,el,sz,some (List.replicate n.toNat z)⟩ st.e,n:=nt st key,o:=nu st key})
  |_=>none
 | .bslm d key sz el xs=>some (p8 st key∧sI sz (xs.map (cj st.t)),
   {t:=put d (.row sz (jM st key) xs.length) st.t,b:=st.b,e:=cu (jM st key) ⟨xs.length,el,sz,some (xs.map (cj st.t))⟩ st.e,n:=nt st key,o:=nu st key})
 | .appm d key sz el x y=>match sJ st sz el (cj st.t x) (cj st.t y)with
  |some (none,ys)=>some (p8 st key∧ys.length≤lim∧ys≠[],
    {t:=put d (.row sz (jM st key) ys.length) st.t,b:=st.b,e:=cu (jM st key) ⟨ys.length,el,sz,some ys⟩ st.e,n:=nt st key,o:=nu st key})
  |some (some (k,xs),ys)=>some (xs.length+ys.length≤lim,{st with t:=put d (.row sz k (xs.length+ys.length)) st.t,e:=cu k ⟨xs.length+ys.length,el,sz,some (xs++ys)⟩ st.e})
  |none=>none
 | .mkmap d key=>some (p8 st key,{t:=put d (.gmap (jM st key)) st.t,b:=cu (jM st key) [.hdm 0 []] st.b,e:=st.e,n:=nt st key,o:=nu st key})
 | .mput b7 x k v=>match cj st.t x with
  | .gmap m=>match look m st.b with
   |some cs=>match oO b7 (cj st.t k) (cj st.t v) cs with
    |some cs'=>some (True,{st with b:=cu m cs' st.b})
    |none=>none
   |none=>none
  |_=>none
 | .range d key x=>match cj st.t x with
  | .gmap m=>match look m st.b with
   |some cs=>match wW m cs with
    |some cs'=>some (p8 st key,{t:=put d (.ptr (jM st key) 0) st.t,b:=cu (jM st key) cs' st.b,e:=st.e,n:=nt st key,o:=nu st key})
    |none=>none
   |none=>none
  |_=>none
 | .v d i=>match hr st i with
  |some (c,p)=>some (c,{st with t:=put d p st.t})
  |none=>none
 | .storeE sz x y=>re st sz (cj st.t x) (cj st.t y)
 | .box d key x=>some (p8 st key∧eL (cj st.t x)=true,
   {t:=put d (.ptr (jM st key) 0) st.t,b:=cu (jM st key) (cells (cj st.t x)) st.b,e:=st.e,n:=nt st key,o:=nu st key})
 | .alloc d key z=>some (p8 st key,{t:=put d (.ptr (jM st key) 0) st.t,b:=cu (jM st key) (cells z) st.b,e:=st.e,n:=nt st key,o:=nu st key})
 | .store sz x y=>match cj st.t x with
  | .ptr k off=>match look k st.b with
   |some cs=>some (h2 cs=true∧eL (cj st.t y)=true∧(cells (cj st.t y)).length=sz∧off+sz≤cs.length,{st with b:=cu k (nZ cs off (cells (cj st.t y))) st.b})
   |none=>none
  |p=>re st sz p (cj st.t y)
 | .bsl d sz el xs=>some (p8 st none∧sI sz (xs.map (cj st.t)),
   {st with t:=put d (.slice sz (.own (.loc st.n)) (xs.map (cj st.t))) st.t,e:=cu (.loc st.n) ⟨xs.length,el,sz,none⟩ st.e,n:=st.n+1})
 | .app d sz el x y=>match cj st.t x,cj st.t y with
  | .slice dC tag xs,.slice jn _ ys=>if dC=sz∧jn=sz then
    match tag with
    | .own k=>match look k st.e with
     |some o=>some (o.n=xs.length∧o.el=el∧o.sz=sz∧xs.length+ys.length≤lim,
       {st with t:=put d (.slice sz (.own k) (xs++ys)) st.t,e:=cu k ⟨xs.length+ys.length,el,sz,none⟩ st.e})
     |none=>none
    | .nil=>some (p8 st none∧ys.length≤lim,{st with t:=put d (.slice sz (.own (.loc st.n)) ys) st.t,e:=cu (.loc st.n) ⟨ys.length,el,sz,none⟩ st.e,n:=st.n+1})
    |_=>none
   else none
  |_,_=>none
def eE(κ:aJ)(n':Nat)(o':List aJ)(st:bh):eh→Option (Prop×bh)
 | .mks d _ sz el z x=>match cj st.t x with
  | .int _ n=>some (0≤n∧n≤lim,
    {t:=put d (.row sz κ n.toNat) st.t,b:=st.b,e:=cu κ ⟨n.toNat,el,sz,some (List.replicate n.toNat z)⟩ st.e,n:=n',o:=o'})
  |_=>none
 | .bslm d _ sz el xs=>some (sI sz (xs.map (cj st.t)),
   {t:=put d (.row sz κ xs.length) st.t,b:=st.b,e:=cu κ ⟨xs.length,el,sz,some (xs.map (cj st.t))⟩ st.e,n:=n',o:=o'})
 | .appm d _ sz el x y=>match sJ st sz el (cj st.t x) (cj st.t y)with
  |some (none,ys)=>some (ys.length≤lim∧ys≠[],
    {t:=put d (.row sz κ ys.length) st.t,b:=st.b,e:=cu κ ⟨ys.length,el,sz,some ys⟩ st.e,n:=n',o:=o'})
  |some (some (k,xs),ys)=>some (xs.length+ys.length≤lim,{st with t:=put d (.row sz k (xs.length+ys.length)) st.t,e:=cu k ⟨xs.length+ys.length,el,sz,some (xs++ys)⟩ st.e})
  |none=>none
 | .mkmap d _=>some (True,{t:=put d (.gmap κ) st.t,b:=cu κ [.hdm 0 []] st.b,e:=st.e,n:=n',o:=o'})
 | .mput b7 x k v=>match cj st.t x with
  | .gmap m=>match look m st.b with
   |some cs=>match oO b7 (cj st.t k) (cj st.t v) cs with
    |some cs'=>some (True,{st with b:=cu m cs' st.b})
    |none=>none
   |none=>none
  |_=>none
 | .range d _ x=>match cj st.t x with
  | .gmap m=>match look m st.b with
   |some cs=>match wW m cs with
    |some cs'=>some (True,{t:=put d (.ptr κ 0) st.t,b:=cu κ cs' st.b,e:=st.e,n:=n',o:=o'})
    |none=>none
   |none=>none
  |_=>none
 | .v d i=>match hr st i with
  |some (c,p)=>some (c,{st with t:=put d p st.t})
  |none=>none
 | .storeE sz x y=>re st sz (cj st.t x) (cj st.t y)
 | .box d _ x=>some (eL (cj st.t x)=true,{t:=put d (.ptr κ 0) st.t,b:=cu κ (cells (cj st.t x)) st.b,e:=st.e,n:=n',o:=o'})
 | .alloc d _ z=>some (True,{t:=put d (.ptr κ 0) st.t,b:=cu κ (cells z) st.b,e:=st.e,n:=n',o:=o'})
 | .store sz x y=>match cj st.t x with
  | .ptr k off=>match look k st.b with
   |some cs=>some (h2 cs=true∧eL (cj st.t y)=true∧(cells (cj st.t y)).length=sz∧off+sz≤cs.length,{st with b:=cu k (nZ cs off (cells (cj st.t y))) st.b})
   |none=>none
  |p=>re st sz p (cj st.t y)
 | .bsl d sz el xs=>some (sI sz (xs.map (cj st.t)),
   {st with t:=put d (.slice sz (.own κ) (xs.map (cj st.t))) st.t,e:=cu κ ⟨xs.length,el,sz,none⟩ st.e,n:=n',o:=o'})
 | .app d sz el x y=>match cj st.t x,cj st.t y with
  | .slice dC tag xs,.slice jn _ ys=>if dC=sz∧jn=sz then
    match tag with
    | .own k=>match look k st.e with
     |some o=>some (o.n=xs.length∧o.el=el∧o.sz=sz∧xs.length+ys.length≤lim,
       {st with t:=put d (.slice sz (.own k) (xs++ys)) st.t,e:=cu k ⟨xs.length+ys.length,el,sz,none⟩ st.e})
     |none=>none
    | .nil=>some (ys.length≤lim,{st with t:=put d (.slice sz (.own κ) ys) st.t,e:=cu κ ⟨ys.length,el,sz,none⟩ st.e,n:=n',o:=o'})
    |_=>none
   else none
  |_,_=>none
def wO:Nat→List dq→List (Nat×Operand)→Bool
 |_,[],[]=>true
 |i,x::xs,(j,o)::os=>i==j&&ee x o&&wO (i+1) xs os
 |_,_,_=>false
def DX(N:Nat)(bs:List (Nat×dx))(i:eh)(o:Oper):Bool:=
 match i,o.op with
 | .mkmap d _,.makeMap _ none=>o.dst==some d&&decide (d<N)
 | .mput b7 x k v,.mapUpdate t fv gH oP=>o.dst==none&&(match ea bs t with|some ⟨_,_,.map mH _,_⟩=>yg bs b7 mH|_=>false)&&ee x fv&&ee k gH&&ee v oP
 | .mput b7 x k v,.insert t fv gH oP=>o.dst==none&&(match ea bs t with|some ⟨_,_,.map mH _,_⟩=>yg bs b7 mH|_=>false)&&ee x fv&&ee k gH&&ee v oP
 | .range d _ x,.range t fv=>o.dst==some d&&decide (d<N)&&(match ea bs t with|some ⟨_,_,.map _ _,_⟩=>true|_=>false)&&ee x fv
 | .v d i,op=>o.dst==some d&&decide (d<N)&&Ed bs i op
 | .box d _ x,.box _ o'=>o.dst==some d&&decide (d<N)&&ee x o'
 | .alloc d _ z,.alloc el=>o.dst==some d&&decide (d<N)&&(match ea bs el with|some f=>BH z f.zero|none=>false)
 | .store sz x y,.store t o' jk=>o.dst==none&&(match ea bs t with|some f=>f.size==sz|none=>false)&&ee x o'&&ee y jk
 | .bsl d sz el xs,.buildSlice t len parts=>o.dst==some d&&decide (d<N)&&(match ea bs t with|some ⟨_,_,.slice fZ,_⟩=>el==fZ|_=>false)&&(match ea bs el with|some f=>f.size==sz&&decide (0<sz)|none=>false)
   &&len==xs.length&&decide (len*sz≤16777216)&&wO 0 xs parts.toList
 | .app d sz el x y,.call ⟨.builtin .append,⟨[o',jk]⟩,⟨[t,dF]⟩⟩=>o.dst==some d&&decide (d<N)&&t==dF&&(match ea bs t with|some ⟨_,_,.slice fZ,_⟩=>el==fZ|_=>false)
   &&(match ea bs el with|some f=>f.size==sz&&decide (0<sz)&&decide (f.bytes≤2048)|none=>false)&&ee x o'&&ee y jk
 | .bslm d _ sz el xs,.buildSlice t len parts=>o.dst==some d&&decide (d<N)&&(match ea bs t with|some ⟨_,_,.slice fZ,_⟩=>el==fZ|_=>false)&&(match ea bs el with|some f=>f.size==sz&&decide (0<sz)|none=>false)
   &&len==xs.length&&decide (len*sz≤16777216)&&wO 0 xs parts.toList
 | .appm d _ sz el x y,.call ⟨.builtin .append,⟨[o',jk]⟩,⟨[t,dF]⟩⟩=>o.dst==some d&&decide (d<N)&&t==dF&&(match ea bs t with|some ⟨_,_,.slice fZ,_⟩=>el==fZ|_=>false)
   &&(match ea bs el with|some f=>f.size==sz&&decide (0<sz)&&decide (f.bytes≤2048)|none=>false)&&ee x o'&&ee y jk
 | .storeE sz x y,.store t o' jk=>o.dst==none&&(match ea bs t with|some f=>f.size==sz|none=>false)&&ee x o'&&ee y jk
 | .mks d _ sz el z x,.makeSlice t o' jk=>o.dst==some d&&decide (d<N)&&(match ea bs t with|some ⟨_,_,.slice fZ,_⟩=>el==fZ|_=>false)
   &&(match ea bs el with|some f=>f.size==sz&&decide (0<sz)&&decide (f.bytes≤2048)&&BH z f.zero|none=>false)&&ee x o'&&ee x jk
 |_,_=>false
theorem Xe{w:World}{ν:a8}{C:fh}{st:bh}{a:Act}(aK:cX C st a w ν){sz:Nat}:
  ∀(xs:List dq) (i:Nat) (os:List (Nat×Operand)) (pre:List ah) (us:Array Value) (a7:List Value),wO i xs os=true→sI sz (xs.map (cj st.t))→us.toList.take (i*sz)=a7→dA w ν sz pre a7→i=pre.length→us.size=(i+xs.length)*sz→
  ∃b8:Array Value,Instr.fill (fun i=>some (i*sz,sz)) us (os.map fun(x:Nat×Operand)=>(x.1,a.eval x.2))=some b8∧dA w ν sz (pre++xs.map (cj st.t)) b8.toList∧b8.size=us.size
 |[],i,[],pre,us,a7,_,_,aI,h,hi,af=>by refine⟨us,by simp[Instr.fill],?_,rfl⟩;have aq:=tJ h;have:us.toList.take (i*sz)=us.toList:=hb (by simp at af⊢;omega);rw[this]at aI;simpa[aI]using h
 |[],_,_::_,_,_,_,dT,_,_,_,_,_=>by simp[wO]at dT
 |_::_,_,[],_,_,_,dT,_,_,_,_,_=>by simp[wO]at dT
 |x::xs,i,(j,o)::os,pre,us,a7,dT,bk,aI,h,hi,af=>by
  simp only[wO,cx,dK]at dT;obtain⟨⟨rfl,J⟩,U⟩:=dT;simp only[gP,sI]at bk;obtain⟨⟨kc,hlen⟩,bk⟩:=bk;have ab:=ef aK J;have kU:=vf ab kc;have zN:=pF kU;have df:(a.eval o).cells.size=sz:=by rw[hlen]at zN;simpa using zN
  have hmul:i*sz+sz≤us.size:=by rw[af,oa,show i+(xs.length+1)=(i+1)+xs.length from by omega,pL,Nat.succ_mul];omega
  have x9:=JX (w:=w) (ν:=ν) (a.eval o).cells.toList 0 (i*sz) us (by simp[df];omega);have jJ:dA w ν sz (pre++[cj st.t x]) (a7++(a.eval o).cells.toList):=by refine DP h ?_;simp only[dA];exact⟨a.eval o,[],by simp,⟨ab,df,Bi kU⟩,rfl⟩
  have oJ:a7.length=i*sz:=by rw[←aI];simp;omega
  obtain⟨b8,g1,g2,g3⟩:=Xe aK xs (i+1) os (pre++[cj st.t x]) (((a.eval o).cells.toList.zipIdx 0).foldl (fun cs (x:Value×Nat)=>cs.setIfInBounds (i*sz+x.2) x.1) us) (a7++(a.eval o).cells.toList) U bk
   (by
    rw[x9];simp only[Nat.add_zero];rw[aI];have:(a7++(a.eval o).cells.toList).length=(i+1)*sz:=by rw[pJ,oJ,Nat.succ_mul];simp[df]
    rw[←this,List.take_append_of_le_length (ff _),nH]) jJ (by simp[hi])
   (by have bD:=eU List.length x9;simp only[Array.length_toList,pJ,List.length_take,sC,df]at bD;rw[bD,af,oa,show i+(xs.length+1)=i+1+xs.length from by omega];rw[af,oa,show i+(xs.length+1)=i+1+xs.length from by omega]at hmul;omega)
  refine⟨b8,?_,by simpa using g2,?_⟩
  ·simp only[gP,Instr.fill];rw[if_neg (by simp[df];omega),←g1];congr 1;rw[←Array.foldl_toList];simp
  ·rw[g3];have bD:=eU List.length x9;simp only[Array.length_toList,pJ,List.length_take,sC,df]at bD;rw[bD];omega
theorem mj{P:cA}{o:Oper}{a:Act}{w w':World}{v:Value}{K:Act→World→Prop}{Q:Exit→Act→World→Prop}(h:(execOp a.eval o).run P w= .ok (.value v) w')(ad:K (a.put o.dst v) w'):o.wp P a w K Q:=by unfold Oper.wp;rw[h];exact ad
theorem En{P:cA}{o:Oper}{a:Act}{w w':World}{K:Act→World→Prop}{Q:Exit→Act→World→Prop}(h:(execOp a.eval o).run P w= .ok .skip w')(ad:K (a.put o.dst undef) w'):o.wp P a w K Q:=by unfold Oper.wp;rw[h];exact ad
theorem Eh{P:cA}{w w':World}{x:Sem Value}{v:Value}(h:x.run P w= .ok v w'):(do pure (Next.value (←x)):Sem Next).run P w= .ok (.value v) w':=by simp[h]
theorem Xc{P:cA}{bs:List (Nat×dx)}(aL:fP P bs=true){C:fh}{st:bh}{a:Act}{w:World}{ν:a8}(aK:cX C st a w ν){t el:Nat}{f g:dx}(aO:ea bs t=some f)(ad:f.kind= .slice el)(aR:ea bs el=some g)
  {xs:List dq} {os:List (Nat×Operand)} (dT:wO 0 xs os=true) (et:sI g.size (xs.map (cj st.t))) (hlen:xs.length*g.size≤16777216):
  ∃us:Array Value,(Instr.buildSlice t xs.length (os.map fun(x:Nat×Operand)=>(x.1,a.eval x.2)).toArray).run P w= .ok (.slice (some ⟨w.heap.size,0,none⟩) xs.length xs.length) (w.alloc (.cells us el))∧
   dA w ν g.size (xs.map (cj st.t)) us.toList∧us.size=xs.length*g.size:=by
 obtain⟨d,aE,eW⟩:=iX aL aO;rw[ad]at eW;obtain rfl:=sO eW;obtain⟨_,af⟩:=vo aL aR w;obtain⟨z,yb,TQ,aoU⟩:=NI aL aR w;have au:¬xs.length*g.size>2 ^ 24:=by omega
 let init:Array Value:=if xs.length*g.size=0 then(Array.range (xs.length*g.size)).map ((#[]:Array Value)[· %(#[]:Array Value).size]!)else(Array.range (xs.length*g.size)).map (z.cells[· %z.cells.size]!)
 have S6:init.size=xs.length*g.size:=by simp only[init];split<;>simp
 obtain⟨b8,g1,g2,g3⟩:=Xe (a:=a) aK xs 0 os [] init [] dT et (by simp) (by simp[dA]) rfl (by rw[S6];simp);refine⟨b8,?_,by simpa using g2,by rw[g3,S6]⟩;simp only[init]at g1;by_cases bD:xs.length*g.size=0
 ·rw[if_pos bD]at g1;rw[bD]at g1;have ad0:¬(0:Nat)>2 ^ 24:=by decide
  simp only[Instr.buildSlice,fI,run_underlying aE,fQ,af,if_false,gq,bD,if_true,ad0,g1,newRow,run_newObj];rfl
 ·rw[if_neg bD]at g1;simp only[Instr.buildSlice,fI,run_underlying aE,fQ,af,au,if_false,gq,bD,yb,g1,newRow,run_newObj];rfl
theorem Dp{P:cA}{w:World}{ν:a8}{b7:jD}{t:gL}(aE:tZ P b7 t){k v:ah}{hl N4:Value}(ad:a6 w ν k hl)(aI:a6 w ν v N4):
  ∀(borns:List Nat) (kvs:List ah) (us:List Value) (i:Nat) (r:Option (List ah)),cK w ν kvs us→kvs.length=2*borns.length→u4 b7 k v kvs=some r→
  match r with
  |none=>h7 P w b7 t hl (fC borns us) i none
  |some wC=> ∃j u b8 e,h7 P w b7 t hl (fC borns us) i (some (i+j,u))∧cK w ν wC b8∧wC.length=kvs.length∧(fC borns us)[j]? =some e∧e.key=hl∧Instr.sameBits 10000 e.key hl=true∧fC borns b8=(fC borns us).modify j (fun e=>{e with key:=hl,val:=N4})
 |[],[],us,i,r,h,_,hm=>by simp only[u4]at hm;cases hm;simp only[cK]at h;subst h;simpa[fC]using h7.nil P w b7 t hl i
 |[],_::_,_,_,_,_,aq,_=>by simp at aq
 |b::eV,[],_,_,_,_,aq,_=>by simp at aq
 |b::eV,[_],_,_,_,_,aq,_=>by simp at aq;omega
 |b::eV,k'::v'::kvs,us,i,r,h,aq,hm=>by
  simp only[cK]at h;obtain⟨iY,NO,rfl,J,jA,sw,rfl,U,ao⟩:=h;simp only[u4]at hm;simp only[fC];cases bu:tq b7 k k' with
  |none=>simp[bu]at hm
  |some bb=>
   obtain⟨s1,s2⟩:=Ul aE ad J bu;simp only[bu]at hm;cases bb with
   |true=>simp only[dw]at hm;subst hm;obtain⟨rfl,s3⟩:=s2 rfl;refine⟨0,jA,iY::N4::sw,⟨iY,jA,b⟩,h7.hit (e:=⟨iY,jA,b⟩) s1,?_,by simp,by simp,rfl,s3,by simp[fC]⟩;simp only[cK];exact⟨_,_,rfl,ad,_,_,rfl,aI,ao⟩
   |false=>
    simp only at hm;have bP:=fun eg c7=>Dp aE ad aI eV kvs sw (i+1) eg ao (by simp at aq;omega) c7;split at hm
    ·rename_i eg c7;cases hm;obtain⟨j,u,b8,e,g1,g2,g3,g4,g5,g6,g7⟩:=bP _ c7;refine⟨j+1,u,iY::jA::b8,e,h7.miss (e:=⟨iY,jA,b⟩) s1 (by rw[show i+(j+1)=i+1+j from by omega];exact g1),?_,by simp[g3],by simpa using g4,g5,g6,by simp[fC,g7]⟩;simp only[cK];exact⟨_,_,rfl,J,_,_,rfl,U,g2⟩
    ·rename_i c7;cases hm;exact h7.miss (e:=⟨iY,jA,b⟩) s1 (bP _ c7)
    ·cases hm
theorem Jz:∀(borns:List Nat) (us:List Value) (b:Nat) (k v:Value),us.length=2*borns.length→fC (borns++[b]) (us++[k,v])=fC borns us++[⟨k,v,b⟩]
 |[],us,b,k,v,h=>by have:us=[]:=List.eq_nil_of_length_eq_zero (by simpa using h);subst this;simp[fC]
 |bV::eV,[],b,k,v,h=>by simp at h
 |bV::eV,[_],b,k,v,h=>by simp at h;omega
 |bV::eV,k'::v'::us,b,k,v,h=>by simp only[bR,fC,Jz eV us b k v (by simp at h;omega)]
theorem M8{w:World}{ν:a8}:∀{cq bz:List ah} {a7 us:List Value},cK w ν cq a7→cK w ν bz us→cK w ν (cq++bz) (a7++us)
 |[],bz,a7,us,h,cr=>by simp only[cK]at h;subst h;simpa using cr
 |p::cq,bz,a7,us,h,cr=>by simp only[cK]at h;obtain⟨u,b8,rfl,J,U⟩:=h;simp only[bR,cK];exact⟨u,_,rfl,J,M8 U cr⟩
theorem HA{w:World}{ν:a8}:∀{cq:List ah} {a7:List Value},cK w ν cq a7→a7.length=cq.length
 |[],a7,h=>by simp only[cK]at h;subst h;rfl
 |p::cq,a7,h=>by simp only[cK]at h;obtain⟨u,b8,rfl,_,U⟩:=h;simp[HA U]
theorem DW{P:cA}{w:World}{r:Nat}{o o':Obj}(ae:w.heap[r]? =some o)(au:∀c e f,o≠ .cells c e f:=by simp):(setObj r o').run P w= .ok () {w with heap:=w.heap.setIfInBounds r o'}:=by simp only[setObj,Sem.run,ae]
def eh.makes(st:bh):eh→Bool
 | .box _ _ _| .alloc _ _ _| .bsl _ _ _ _| .bslm _ _ _ _ _| .mkmap _ _| .range _ _ _| .mks _ _ _ _ _ _=>true
 | .appm _ _ _ _ x _=>match cj st.t x with
  | .slice _ .nil _=>true
  |_=>false
 | .app _ _ _ x _=>match cj st.t x with
  | .slice _ .nil _=>true
  |_=>false
 |_=>false
theorem cX.forgetRow{C:fh}{st:bh}{a:Act}{w:World}{ν:a8}(aK:cX C st a w ν){k:aJ}{ow:fL}(ad:look k st.e=some ow):cX C {st with e:=cu k ⟨ow.n,ow.el,ow.sz,none⟩ st.e} a w ν:=by
 have gp:∀g,(look g (cu k ⟨ow.n,ow.el,ow.sz,none⟩ st.e)).isSome→(look g st.e).isSome:=fun g aR=>by
  rw[iW]at aR;split at aR
  ·rename_i e;subst e;simp[ad]
  ·exact aR
 refine⟨⟨aK.good.alt,aK.good.box,aK.good.inj,fun g o aR=>?_,fun g e9 n n' v v' bl bt a2=>aK.good.oinj g e9 n n' v v' bl (gp g bt) (gp e9 a2),fun g j n v bl bt=>aK.good.obx g j n v bl (gp g bt),aK.good.one,fun bl ae=>aK.good.otr bl (ae.imp id (fun⟨g,n,v,bt,a2⟩=>⟨g,n,v,gp g bt,a2⟩))⟩,aK.fr,aK.defers,aK.size,aK.slot,aK.new⟩;simp only at aR;rw[iW]at aR;split at aR
 ·rename_i e;subst e;cases aR;obtain⟨v,us,aV,bf,bI,_⟩:=aK.good.own k ow ad;exact⟨v,us,aV,bf,bI,fun xs ab=>by cases ab⟩
 ·exact aK.good.own g o aR
theorem VO{w:World}{base el sz n:Nat}{v:Value}{us:List Value}(h:w.ownsRow base el sz v n us)(au:0<n):∃b cap,v= .slice (some ⟨b,0,none⟩) n cap:=by
 rcases h.2 with⟨ai,ax⟩|⟨bb,cap,cur,f1,_⟩
 ·omega
 ·exact⟨_,_,f1⟩
theorem Hx{w:World}{ν:a8}{sz:Nat}:∀{xs:List ah} {us:List Value} {i:Nat} {q gA:ah} {fc:Value},dA w ν sz xs us→xs[i]? =some q→a6 w ν gA fc→fc.cells.size=sz→(∀c∈fc.cells.toList,c.oneCell'=true)→dA w ν sz (xs.set i gA) (us.take (i*sz)++fc.cells.toList++us.drop (i*sz+sz))
 |[],_,_,_,_,_,_,bu,_,_,_=>by simp at bu
 |x::xs,us,0,q,gA,fc,h,bu,aK,af,av=>by
  simp only[dA]at h;obtain⟨u,b8,rfl,⟨J,U,ao⟩,b2⟩:=h;have aq:u.cells.toList.length=sz:=by simpa using U
  simp only[List.set_cons_zero,dA];refine⟨fc,b8,?_,⟨aK,af,av⟩,b2⟩;simp[←aq]
 |x::xs,us,i+1,q,gA,fc,h,bu,aK,af,av=>by
  simp only[dA]at h;obtain⟨u,b8,rfl,⟨J,U,ao⟩,b2⟩:=h;have aq:u.cells.toList.length=sz:=by simpa using U
  have bP:=Hx b2 (by simpa using bu) aK af av;simp only[List.set_cons_succ,dA];refine⟨u,_,?_,⟨J,U,ao⟩,bP⟩;have e:(i+1)*sz+sz=u.cells.toList.length+(i*sz+sz):=by rw[aq,Nat.succ_mul];omega
  rw[Xx _ _ _ _ aq,e,←List.drop_drop];simp
theorem akR{w:World}{ν:a8}{q:ah}{v:Value}(bu:a6 w ν q v)(af:eL q=true){cs:List ah}{us:List Value}(ar:dg w ν cs us){f:Nat}(aO:f+us.length≤v.cells.size)(cD:us≠[]):
  ∃v',a6 w ν (pG q f cs) v'∧v'.cells.toList=v.cells.toList.take f++us++v.cells.toList.drop (f+us.length)∧v'.cells.size=v.cells.size∧∀c∈v'.cells.toList,c.oneCell'=true:=by
 have hlen:=pF ar;have lJ:=vf bu af;by_cases bk:∃eO,q= .agg eO
 ·obtain⟨eO,rfl⟩:=bk;simp only[a6]at bu;obtain⟨a7,rfl,kC⟩:=bu;simp only[oY]at aO⊢;have iT:dg w ν (nZ eO f cs) (a7.toList.take f++us++a7.toList.drop (f+us.length)):=by unfold nZ;rw[hlen];exact yK (yK (DR f kC) ar) (Bh _ kC)
  refine⟨.agg (a7.toList.take f++us++a7.toList.drop (f+us.length)).toArray,by simp only[pG,a6];exact⟨_,rfl,by simpa using iT⟩,by simp[oY],?_,fun c hh=>?_⟩
  ·simp[oY];omega
  ·exact Bi iT c (by simpa[oY]using hh)
 ·have nf:∀cs,q≠ .agg cs:=fun cs e=>bk ⟨cs,e⟩;obtain⟨J,U⟩:=Na bu af nf;rw[U]at aO⊢;match us,cD,ar with
  |u::b8,_,ar=>
   simp at aO;obtain⟨rfl,rfl⟩:f=0∧b8=[]:=⟨by omega,List.length_eq_zero_iff.1 (by omega)⟩;match cs,ar,hlen with
   |[c],ar,_=>
    simp only[dg]at ar;obtain⟨Bw,fx,ai,⟨Kp,SQ⟩,_⟩:=ar;cases ai;have hu:u.cells= #[u]:=by cases u<;>first|rfl|cases SQ
    have Aa:pG q 0 [c]=c:=by cases q<;>first|rfl|exact absurd rfl (nf _)
    rw[Aa];refine⟨u,Kp,by simp[hu],by simp[hu],fun c hh=>?_⟩;rw[hu]at hh;simp at hh;subst hh;exact SQ
theorem alv{α:Type}(A us:List α)(a f sz N:Nat)(J:f+us.length≤sz)(U:a+sz≤N)(ao:N≤A.length):
  ((A.take (a+f)++us++A.drop (a+f+us.length)).toArray.toList).take N=(A.take N).take a++((((A.take N).drop a).take sz).take f++us++(((A.take N).drop a).take sz).drop (f+us.length))++(A.take N).drop (a+sz):=by
 have ai:(A.take N).take a++(((A.take N).drop a).take sz).take f=A.take (a+f):=by rw[List.take_take (i:=f),Nat.min_eq_left (show f≤sz by omega),←List.take_add,List.take_take,Nat.min_eq_left (by omega)]
 have ax:(((A.take N).drop a).take sz).drop (f+us.length)++(A.take N).drop (a+sz)=(A.take N).drop (a+f+us.length):=by
  have aq:f+us.length≤(((A.take N).drop a).take sz).length:=by simp;omega
  have pQ:(A.take N).drop (a+sz)=((A.take N).drop a).drop sz:=by rw[List.drop_drop]
  rw[pQ,←List.drop_append_of_le_length aq,List.take_append_drop,List.drop_drop];congr 1;omega
 have bn:(A.take N).drop (a+f+us.length)=(A.drop (a+f+us.length)).take (N-(a+f+us.length)):=by rw[List.drop_take]
 have aq:(A.take (a+f)++us).length=a+f+us.length:=by simp;omega
 simp only[List.append_assoc]at*;rw[ax,bn,←List.append_assoc (oZ a _),ai];have mw:N=(A.take (a+f)++us).length+(N-(a+f+us.length)):=by rw[aq];omega
 rw[←List.append_assoc,←List.append_assoc];conv=>lhs;rw[mw,List.take_length_add_append]
theorem cX.storeRow{P:cA}{C:fh}{st:bh}{a:Act}{w:World}{ν:a8}(h:cX C st a w ν){k:aJ}{n el sz:Nat}{xs:List ah}(ad:look k st.e=some ⟨n,el,sz,some xs⟩){i f:Nat}{u:Value}(ab:a6 w ν (.rptr sz k n i f) u){q:ah}(bu:xs[i]? =some q)(af:eL q=true)
  {cs:List ah} {us:List Value} (ar:dg w ν cs us) (aO:f+us.length≤(cells q).length) (cD:us≠[]):
  ∃bl off mr,u= .pointer (some ⟨bl,off,none⟩)∧(storeCells ⟨bl,off,none⟩ us).run P w= .ok () (w.setRow bl mr)∧∃bg,cX C {st with e:=cu k ⟨n,el,sz,some (xs.set i (pG q f cs))⟩ st.e} a (w.setRow bl mr) bg:=by
 simp only[a6]at ab;obtain⟨_,hi,n',fc,J,U,ao⟩:=ab;obtain⟨v,fx,aV,bf,bI,cN⟩:=h.good.own k _ ad;rw[J]at aV;simp only[dw,jB]at aV;obtain⟨rfl,rfl⟩:=aV;obtain⟨bl,ae,rfl⟩:=ao rfl;obtain⟨c6,nV,va⟩:=cN xs rfl;simp only at c6 nV;obtain⟨v,ev,e2,nW⟩:=Hv i nV bu;have zN:=pF (vf ev af);have afw:(cells q).length=sz:=by rw[←zN];simpa using e2
 have S2:f+us.length≤sz:=by rw[←afw];exact aO
 have hmul:i*sz+sz≤n'*sz:=by have:=Nat.mul_le_mul_right sz (show i+1≤n' from hi);rwa[Nat.succ_mul]at this
 rcases bf.2 with⟨ai,ax⟩|⟨g,cap,cur,rfl,rM,KA,KI,aeu,df,TI⟩
 ·rw[ai]at ae;simp[n9]at ae
 simp only[n9,dw]at ae;subst ae;simp only at TI df KI KA;have zM:n'*sz≤cur.size:=by rw[df];exact Nat.mul_le_mul_right sz KI
 have c8:=run_storeCells_at P g (i*sz+f) el us 0 cur w KA (by omega) (Bi ar);simp only[Nat.add_zero]at c8;refine⟨g,i*sz+f,_,rfl,c8,?_⟩;generalize xQ:(cur.toList.take (i*sz+f)++us++cur.toList.drop (i*sz+f+us.length)).toArray=mr;obtain⟨v',cC,da,hp,pD⟩:=akR ev af ar (f:=f) (by rw[e2];exact S2) cD;have lO:=Hx nV bu cC (by rw[hp,e2]) pD;have hlen:fx.length=n'*sz:=bf.1;have afh:mr.toList.take (n'*sz)=fx.take (i*sz)++v'.cells.toList++fx.drop (i*sz+sz):=by rw[←xQ,da,nW,←TI];exact alv cur.toList us (i*sz) f sz (n'*sz) S2 hmul (by simpa using zM)
 have aew:mr.size=cap*sz:=by rw[←xQ,←df];simp;omega
 have aoN:(xs.set i (pG q f cs)).length=n':=by simp[c6]
 obtain⟨Mq,_,_⟩:=h.setRowM (w':=w.setRow g mr) ad rfl J (bl:=g) rfl (v':= .slice (some ⟨g,0,none⟩) n' cap) rfl (xs':=xs.set i (pG q f cs)) (us:=fx.take (i*sz)++v'.cells.toList++fx.drop (i*sz+sz)) (.inl ⟨by simp[c6],rfl⟩) rfl rfl rfl (fun j ag=>setRow_other w g j mr ag) (setRow_size w g mr)
  ⟨by rw[tJ lO],.inr ⟨g,cap,mr,by simp[c6],Nat.zero_le _,setRow_heap w g cur mr el _ KA,by simpa[c6]using KI,aeu,aew,by simpa[c6]using afh⟩⟩ lO
 exact⟨_,by simpa[c6]using Mq⟩
theorem ag7(z:Array Value)(n:Nat)(h:0<z.size):(madeCells z ((n+1)*z.size)).toList=z.toList++(madeCells z (n*z.size)).toList:=by
 apply List.ext_getElem?;intro j;rw[List.getElem?_append];have he:(n+1)*z.size=n*z.size+z.size:=by rw[pL,Nat.one_mul]
 simp only[madeCells,tU,Array.length_toList,Array.getElem?_map];by_cases ag:j<z.size
 ·rw[if_pos ag,Array.getElem?_range,if_pos (by omega)];simp[Nat.mod_eq_of_lt ag,ag]
 ·rw[if_neg ag,Array.getElem?_range,Array.getElem?_range];by_cases ad:j<n*z.size+z.size
  ·rw[if_pos (by omega),if_pos (by omega)];simp only[kN];rw[←Nat.mod_eq_sub_mod (by omega)]
  ·rw[if_neg (by omega),if_neg (by omega)]
theorem UQ{w:World}{ν:a8}{p:ah}{z:Value}(aK:a6 w ν p z)(h:0<z.cells.size)(av:∀c∈z.cells.toList,c.oneCell'=true):∀n,dA w ν z.cells.size (List.replicate n p) (madeCells z.cells (n*z.cells.size)).toList
 |0=>by simp[dA,madeCells]
 |n+1=>by rw[ag7 _ _ h];simp only[List.replicate_succ,dA];exact⟨z,_,rfl,⟨aK,rfl,av⟩,UQ aK h av n⟩
theorem jO{P:cA}{bs:List (Nat×dx)}(aL:fP P bs=true){C:fh}{st st':bh}{a:Act}{w:World}{ν:a8}(aK:cX C st a w ν){i:eh}{o:Oper}(av:DX C.N bs i o=true)
  {κ:aJ} {n':Nat} {o₁:List aJ} (uF:i.makes st=true→fresh st.n st.o κ) (dd:i.makes st=true→∀j,fresh n' o₁ j→fresh st.n st.o j∧j≠κ) {c:Prop} (he:eE κ n' o₁ st i=some (c,st')) (ar:c) {K:Act→World→Prop} {Q:Exit→Act→World→Prop} (c3:∀be w' bg,cX C st' be w' bg→K be w'):o.wp P a w K Q:=by
 obtain⟨dst,op,type,pos,after,guard⟩:=o;unfold DX at av;dsimp only at av;split at av
 ·rename_i d key t;simp only[cx,dK,fo]at av;obtain⟨rfl,U⟩:=av;simp only[eE]at he;cases he;obtain⟨g1,g2⟩:=aK.newBox (aK.new _ (uF rfl)) (dd rfl) (cs:=[.hdm 0 []]) (us:= #[]) 0 (by simp only[jm];exact⟨by simp[cK],⟨rfl,by simp,by simp⟩⟩);refine mj (v:= .map (some w.heap.size)) (w':=w.alloc (.map #[] 0)) ?_ (c3 _ _ _ (g1.put (d:=some d) (by simpa[jt]using U) (p:= .gmap κ) ?_))
  ·simp only[execOp,Instr.makeMap,Option.map_none,fI,run_newObj,fQ,gq];rfl
  ·simp[a6,a8.withBox]
 ·rename_i b7 x k v t fv gH oP;simp only[cx,dK]at av;obtain⟨⟨⟨⟨rfl,J⟩,U⟩,ao⟩,a1⟩:=av;have rx:=ef aK U;have vg:=ef aK ao;have yQ:=ef aK a1;split at J
  ·rename_i sz ld mH pb z aO;obtain⟨cE,hu,eW⟩:=iX aL aO;have s5:cE= .map mH pb:=by cases cE<;>simp[j9]at eW;obtain⟨rfl,rfl⟩:=eW;rfl
   subst s5;have l5:=Ls aL J;simp only[eE]at he;split at he
   ·rename_i m ab;rw[ab]at rx;simp only[a6]at rx;obtain⟨bl,bM,bO⟩:=rx;split at he
    ·rename_i cs df;split at he
     ·rename_i cs' hm;cases he;obtain⟨iA,us,el,aV,bf,bI,cN,c6⟩:=aK.good.box m cs df;rw[bM]at aV;cases aV;unfold oO at hm;split at hm
      ·rename_i clock borns kvs;split at hm
       ·cases hm
       rename_i uJ;simp only[jN]at cN;simp only[jm]at c6;have hQ:=vi (P:=P) cN;have vU:=Nc (P:=P) (w:=w) l5 false vg (by simpa using uJ);have bm:bl<w.heap.size:=(Array.getElem?_eq_some_iff.1 cN).1;have dz:∀(o':Obj) (b8:Array Value) (eO:List ah),(Instr.mapUpdate t (a.eval fv) (a.eval gH) (a.eval oP)).run P w= .ok () {w with heap:=w.heap.setIfInBounds bl o'}→jN eO b8 el=o'→jm w ν eO b8.toList→some eO=some cs'→
         (⟨none,.mapUpdate t fv gH oP,type,pos,after,guard⟩:Oper).wp P a w K Q:=by
        intro o' b8 eO im CM lO iR;cases iR;refine En (w':={w with heap:=w.heap.setIfInBounds bl o'}) ?_ (c3 _ _ _ (aK.setBox (w':={w with heap:=w.heap.setIfInBounds bl o'}) df bM (us:=b8) (el:=el) rfl rfl rfl (fun j ag=>?_) (by simp) ?_ lO).1)
        ·simp only[execOp,im,fI,fQ,gq]
        ·exact Array.getElem?_setIfInBounds_ne (la ag)
        ·rw[CM];simp[bm]
       split at hm
       ·rename_i wC uK;obtain⟨j,u,b8,e,f1,f2,f3,f4,f5,f6,f7⟩:=Dp l5 vg yQ borns kvs us.toList 0 _ c6.1 c6.2.len uK;refine dz (.map (fC borns b8).toArray clock) b8.toArray (.hdm clock borns::wC) ?_ (by simp[jN]) (by simp only[jm];exact⟨by simpa using f2,⟨by rw[f3];exact c6.2.len,c6.2.inc,c6.2.lt⟩⟩) hm;have K0:(Instr.keyThatStays (((fC borns us.toList).toArray[j]?.map (·.key)).getD (a.eval gH)) (a.eval gH)).run P w= .ok (a.eval gH) w:=by
         have:((fC borns us.toList).toArray[j]?.map (·.key)).getD (a.eval gH)=e.key:=by simp[f4]
         rw[this];simp[Instr.keyThatStays,f6]
        simp only[Nat.zero_add]at f1;simp only[Instr.mapUpdate,fI,run_underlying hu,fQ,bO,hQ,vU,f1.run l5,gq,K0,DW cN];rw[f7];simp
       ·rename_i uK;have f1:=Dp l5 vg yQ borns kvs us.toList 0 _ c6.1 c6.2.len uK;simp only at f1;have rY:us.toList.length=2*borns.length:=by rw[HA c6.1,c6.2.len]
        refine dz (.map ((fC borns us.toList).toArray.push ⟨a.eval gH,a.eval oP,clock⟩) (clock+1)) (us.toList++[a.eval gH,a.eval oP]).toArray (.hdm (clock+1) (borns++[clock])::(kvs++[cj st.t k,cj st.t v])) ?_ (by simp only[jN,Jz borns us.toList clock _ _ rY];simp) ?_ hm
        ·simp only[Instr.mapUpdate,fI,run_underlying hu,fQ,bO,hQ,vU,f1.run l5,gq,DW cN]
        ·simp only[jm];refine⟨M8 c6.1 (by simp only[cK];exact⟨_,_,rfl,vg,_,_,rfl,yQ,rfl⟩),⟨by simp[c6.2.len];omega,?_,?_⟩⟩
         ·rw[List.pairwise_append];exact⟨c6.2.inc,by simp,fun x ab y aD=>by simp at aD;subst aD;exact c6.2.lt x ab⟩
         ·intro b ae;rcases iH.1 ae with ae|ae
          ·have:=c6.2.lt b ae;omega
          ·simp at ae;omega
       ·cases hm
      ·cases hm
     ·cases he
    ·cases he
   ·cases he
  ·cases J
 ·rename_i b7 x k v t fv gH oP;simp only[cx,dK]at av;obtain⟨⟨⟨⟨rfl,J⟩,U⟩,ao⟩,a1⟩:=av;have rx:=ef aK U;have vg:=ef aK ao;have yQ:=ef aK a1;split at J
  ·rename_i sz ld mH pb z aO;obtain⟨cE,hu,eW⟩:=iX aL aO;have s5:cE= .map mH pb:=by cases cE<;>simp[j9]at eW;obtain⟨rfl,rfl⟩:=eW;rfl
   subst s5;have l5:=Ls aL J;simp only[eE]at he;split at he
   ·rename_i m ab;rw[ab]at rx;simp only[a6]at rx;obtain⟨bl,bM,bO⟩:=rx;split at he
    ·rename_i cs df;split at he
     ·rename_i cs' hm;cases he;obtain⟨iA,us,el,aV,bf,bI,cN,c6⟩:=aK.good.box m cs df;rw[bM]at aV;cases aV;unfold oO at hm;split at hm
      ·rename_i clock borns kvs;split at hm
       ·cases hm
       rename_i uJ;simp only[jN]at cN;simp only[jm]at c6;have hQ:=vi (P:=P) cN;have vU:=Nc (P:=P) (w:=w) l5 false vg (by simpa using uJ);have bm:bl<w.heap.size:=(Array.getElem?_eq_some_iff.1 cN).1;have dz:∀(o':Obj) (b8:Array Value) (eO:List ah),(Instr.mapUpdate t (a.eval fv) (a.eval gH) (a.eval oP)).run P w= .ok () {w with heap:=w.heap.setIfInBounds bl o'}→jN eO b8 el=o'→jm w ν eO b8.toList→some eO=some cs'→
         (⟨none,.mapUpdate t fv gH oP,type,pos,after,guard⟩:Oper).wp P a w K Q:=by
        intro o' b8 eO im CM lO iR;cases iR;refine En (w':={w with heap:=w.heap.setIfInBounds bl o'}) ?_ (c3 _ _ _ (aK.setBox (w':={w with heap:=w.heap.setIfInBounds bl o'}) df bM (us:=b8) (el:=el) rfl rfl rfl (fun j ag=>?_) (by simp) ?_ lO).1)
        ·simp only[execOp,im,fI,fQ,gq]
        ·exact Array.getElem?_setIfInBounds_ne (la ag)
        ·rw[CM];simp[bm]
       split at hm
       ·rename_i wC uK;obtain⟨j,u,b8,e,f1,f2,f3,f4,f5,f6,f7⟩:=Dp l5 vg yQ borns kvs us.toList 0 _ c6.1 c6.2.len uK;refine dz (.map (fC borns b8).toArray clock) b8.toArray (.hdm clock borns::wC) ?_ (by simp[jN]) (by simp only[jm];exact⟨by simpa using f2,⟨by rw[f3];exact c6.2.len,c6.2.inc,c6.2.lt⟩⟩) hm;have K0:(Instr.keyThatStays (((fC borns us.toList).toArray[j]?.map (·.key)).getD (a.eval gH)) (a.eval gH)).run P w= .ok (a.eval gH) w:=by
         have:((fC borns us.toList).toArray[j]?.map (·.key)).getD (a.eval gH)=e.key:=by simp[f4]
         rw[this];simp[Instr.keyThatStays,f6]
        simp only[Nat.zero_add]at f1;simp only[Instr.mapUpdate,fI,run_underlying hu,fQ,bO,hQ,vU,f1.run l5,gq,K0,DW cN];rw[f7];simp
       ·rename_i uK;have f1:=Dp l5 vg yQ borns kvs us.toList 0 _ c6.1 c6.2.len uK;simp only at f1;have rY:us.toList.length=2*borns.length:=by rw[HA c6.1,c6.2.len]
        refine dz (.map ((fC borns us.toList).toArray.push ⟨a.eval gH,a.eval oP,clock⟩) (clock+1)) (us.toList++[a.eval gH,a.eval oP]).toArray (.hdm (clock+1) (borns++[clock])::(kvs++[cj st.t k,cj st.t v])) ?_ (by simp only[jN,Jz borns us.toList clock _ _ rY];simp) ?_ hm
        ·simp only[Instr.mapUpdate,fI,run_underlying hu,fQ,bO,hQ,vU,f1.run l5,gq,DW cN]
        ·simp only[jm];refine⟨M8 c6.1 (by simp only[cK];exact⟨_,_,rfl,vg,_,_,rfl,yQ,rfl⟩),⟨by simp[c6.2.len];omega,?_,?_⟩⟩
         ·rw[List.pairwise_append];exact⟨c6.2.inc,by simp,fun x ab y aD=>by simp at aD;subst aD;exact c6.2.lt x ab⟩
         ·intro b ae;rcases iH.1 ae with ae|ae
          ·have:=c6.2.lt b ae;omega
          ·simp at ae;omega
       ·cases hm
      ·cases hm
     ·cases he
    ·cases he
   ·cases he
  ·cases J
 ·rename_i d key x t fv;simp only[cx,dK,fo]at av;obtain⟨⟨⟨rfl,U⟩,J⟩,ao⟩:=av;have rx:=ef aK ao;split at J
  ·rename_i sz ld mH pb z aO;obtain⟨cE,hu,eW⟩:=iX aL aO;have s5:cE= .map mH pb:=by cases cE<;>simp[j9]at eW;obtain⟨rfl,rfl⟩:=eW;rfl
   subst s5;simp only[eE]at he;split at he
   ·rename_i m ab;rw[ab]at rx;have akW:=rx;simp only[a6]at rx;obtain⟨bl,bM,bO⟩:=rx;split at he
    ·rename_i cs df;split at he
     ·rename_i cs' hm;cases he;obtain⟨iA,us,el,aV,bf,bI,cN,c6⟩:=aK.good.box m cs df;rw[bM]at aV;cases aV;unfold wW at hm;split at hm
      ·rename_i clock borns kvs;cases hm;simp only[jN]at cN;have hQ:=vi (P:=P) cN;obtain⟨g1,g2⟩:=aK.newBox (aK.new _ (uF rfl)) (dd rfl) (cs:=[.hdi clock [] clock,.gmap m]) (us:= #[a.eval fv]) 0 (by simp only[jm,cK];exact⟨_,_,rfl,akW,rfl⟩);have CM:jN [.hdi clock [] clock,.gmap m] #[a.eval fv] 0= .mapIter (some bl) clock #[] clock:=by simp[jN,bO]
       rw[CM]at g1 g2;refine mj (v:= .pointer (some ⟨w.heap.size,0,none⟩)) (w':=w.alloc (.mapIter (some bl) clock #[] clock)) ?_ (c3 _ _ _ (g1.put (d:=some d) (by simpa[jt]using U) (p:= .ptr κ 0) g2))
       ·simp only[execOp];refine Eh ?_;simp only[Instr.range,fI,run_underlying hu,fQ,bO,hQ,gq,run_newObj];rfl
      ·cases hm
     ·cases he
    ·cases he
   ·cases he
  ·cases J
 ·rename_i d arS;simp only[cx,dK,fo]at av;obtain⟨⟨J,U⟩,ao⟩:=av;subst J;simp only[eE]at he;split at he
  ·rename_i cf p aI;cases he;obtain⟨v,g1,g2⟩:=alW (o:=⟨some d,op,type,pos,after,guard⟩) aL aK ao aI ar;refine mj g1 (c3 _ _ ν ?_);exact aK.put (d:=some d) (by simpa[jt]using U) g2
  ·cases he
 ·rename_i d key x el o';simp only[cx,dK,fo]at av;obtain⟨⟨J,U⟩,ao⟩:=av;subst J;simp only[eE]at he;cases he;have ab:=ef aK ao;have kU:=vf ab ar;obtain⟨g1,g2⟩:=aK.newBox (aK.new _ (uF rfl)) (dd rfl) el (by rw[u9 (Bj kU)];exact kU);rw[u7 (Bj kU)]at g1 g2;refine mj (v:= .pointer (some ⟨w.heap.size,0,none⟩)) (w':=w.alloc (.cells (a.eval o').cells el)) ?_ (c3 _ _ _ (g1.put (d:=some d) (by simpa[jt]using U) (p:= .ptr κ 0) ?_))
  ·simp only[execOp,Instr.box,newVar,newRow,fI,run_newObj,fQ,gq];rfl
  ·simpa only[a6]using g2
 ·rename_i d key z el;simp only[cx,dK,fo]at av;obtain⟨⟨J,U⟩,ao⟩:=av;subst J;simp only[eE]at he;cases he;split at ao
  ·rename_i f aO;have aY:=Oc ao;obtain⟨bW,k7,z2,z3⟩:=NI aL aO w;rw[←aY]at z2;obtain⟨_,kU⟩:=Ob w ν z2;obtain⟨g1,g2⟩:=aK.newBox (aK.new _ (uF rfl)) (dd rfl) el (by rw[u9 (Bj kU)];exact kU);rw[u7 (Bj kU)]at g1 g2;refine mj (v:= .pointer (some ⟨w.heap.size,0,none⟩)) (w':=w.alloc (.cells bW.cells el)) ?_ (c3 _ _ _ (g1.put (d:=some d) (by simpa[jt]using U) (p:= .ptr κ 0) ?_))
   ·simp only[execOp,Instr.alloc,newVar,newRow,fI,k7,run_newObj,fQ,gq];rfl
   ·simpa only[a6]using g2
  ·cases ao
 ·rename_i sz x y t o' jk;simp only[cx,dK]at av;obtain⟨⟨⟨J,U⟩,ao⟩,a1⟩:=av;subst J;split at U
  ·rename_i f aO;simp only[dK]at U;simp only[eE]at he;split at he
   ·rename_i k off ab;split at he
    ·rename_i cs df;cases he;obtain⟨ks,bQ,cp,ds⟩:=ar;have rx:=ef aK ao;rw[ab]at rx;simp only[a6]at rx;obtain⟨bl,bM,bO⟩:=rx;have lV:=ef aK a1;have ve:=vf lV bQ;have vh:=pF ve;obtain⟨iA,us,el,aV,bf,bI,cN,c6⟩:=aK.good.box k cs df;rw[bM]at aV;cases aV;rw[u7 ks]at cN;rw[u9 ks]at c6;have aw:=pF c6;obtain⟨_,et⟩:=vo aL aO w;have uN:(a.eval jk).cells.size=sz:=by rw[cp]at vh;simpa using vh
     have c8:=run_storeCells_at (P:=P) bl off el (a.eval jk).cells.toList 0 us w cN (by simp at aw⊢;omega) (Bi ve);simp only[Nat.add_zero]at c8;refine En (w':=w.setRow bl (us.toList.take off++(a.eval jk).cells.toList++us.toList.drop (off+(a.eval jk).cells.toList.length)).toArray) ?_ (c3 _ _ _ (aK.storeBox df bM ks ?_))
     ·simp only[execOp,Instr.storeAt,bO,Instr.sureAddr,storeVar,fI,gq,fQ,et,uN,U,ne_eq,not_true_eq_false,if_false,c8]
     ·simp only[nZ];rw[vh];exact yK (yK (DR off c6) ve) (Bh _ c6)
    ·cases he
   ·rename_i ab;generalize KO:cj st.t x=px at he;unfold re at he;split at he
    ·rename_i dC k n i sU;split at he
     ·rename_i n' el jn xs ad;split at he
      ·rename_i CL;obtain⟨rfl,rfl⟩:=CL;split at he
       ·rename_i q bu;cases he;obtain⟨ks,bQ,cp,ds,j7⟩:=ar;have rx:=ef aK ao;rw[KO]at rx;have lV:=ef aK a1;have ve:=vf lV bQ;have vh:=pF ve;obtain⟨_,et⟩:=vo aL aO w;have uN:(a.eval jk).cells.size=sz:=by rw[cp]at vh;simpa using vh
        obtain⟨bl,off,mr,CP,c8,bg,oF⟩:=aK.storeRow (P:=P) ad rx bu ks ve (by simpa[uN]using ds) (fun e=>by have:=eU List.length e;simp[uN]at this;omega);refine En (w':=w.setRow bl mr) ?_ (c3 _ _ _ oF);simp only[execOp,Instr.storeAt,CP,Instr.sureAddr,storeVar,fI,gq,fQ,et,uN,U,ne_eq,not_true_eq_false,if_false,c8]
       ·cases he
      ·cases he
     ·cases he
    ·cases he
  ·cases U
 ·rename_i d sz el xs t len parts;simp only[cx,dK,fo]at av;obtain⟨⟨⟨⟨⟨⟨J,U⟩,ao⟩,a1⟩,b2⟩,dc⟩,dX⟩:=av;subst J;subst b2;split at ao
  ·rename_i fZ aO;simp only[dK]at ao;subst ao;split at a1
   ·rename_i g aR;simp only[cx,dK,fo]at a1;obtain⟨rfl,fE⟩:=a1;simp only[eE]at he;cases he;obtain⟨us,g1,g2,g3⟩:=Xc aL aK aO rfl aR dX ar dc;have lN:(w.alloc (.cells us el)).ownsRow w.heap.size el g.size (.slice (some ⟨w.heap.size,0,none⟩) xs.length xs.length) (xs.map (cj st.t)).length us.toList:=by
     refine⟨by simp[g3],.inr ⟨w.heap.size,xs.length,us,by simp,ff _,heap_alloc_new w _,by simp,?_,g3,?_⟩⟩
     ·simp only[maxLen];have:xs.length≤xs.length*g.size:=Nat.le_mul_of_pos_right _ fE;omega
     ·rw[hb];simp[g3]
    obtain⟨ev,e2⟩:=aK.newRow (k:=κ) (xs:=xs.map (cj st.t)) (.inl (aK.new _ (uF rfl))) (World.grownBy_alloc w _ none) lN g2
     (by have:xs.length≤xs.length*g.size:=Nat.le_mul_of_pos_right _ fE;simp only[lim,List.length_map];omega) (dd rfl)
    simp only[List.length_map]at ev e2;refine mj (v:= .slice (some ⟨w.heap.size,0,none⟩) xs.length xs.length) (w':=w.alloc (.cells us el)) ?_ (c3 _ _ _ (ev.put (d:=some d) (by simpa[jt]using U) (p:= .slice g.size (.own κ) (xs.map (cj st.t))) e2));have bB:(parts.map fun(x:Nat×Operand)=>(x.1,a.eval x.2))=(parts.toList.map fun(x:Nat×Operand)=>(x.1,a.eval x.2)).toArray:=by apply Array.ext';simp
    simp only[execOp];refine Eh ?_;rw[←g1];congr 2
   ·cases a1
  ·cases ao
 ·rename_i d sz el x y o' jk t dF;simp only[cx,dK,fo]at av;obtain⟨⟨⟨⟨⟨⟨J,U⟩,ao⟩,a1⟩,b2⟩,dc⟩,dX⟩:=av;subst J;subst ao;split at a1
  ·rename_i fZ aO;simp only[dK]at a1;subst a1;split at b2
   ·rename_i g aR;simp only[cx,dK,fo]at b2;obtain⟨⟨rfl,fE⟩,hby⟩:=b2;have rx:=ef aK dc;have lV:=ef aK dX;have my:∀v' w',(Builtin.append_ #[t,t] type #[a.eval o',a.eval jk]).run P w= .ok v' w'→(execOp a.eval ⟨some d,.call ⟨.builtin .append,⟨[o',jk]⟩,⟨[t,t]⟩⟩,type,pos,after,guard⟩).run P w= .ok (.value v') w':=by intro v' w' im;simp only[execOp,resolve,invoke,builtin,fI,gq,fQ,List.map_toArray,gP,mO];rw[im];rfl
    obtain⟨fw,ca,z,ai,ax,bn,dp,hT,hU,ry,rz⟩:=(vp aL aR).ex;obtain⟨eO,iR,eW⟩:=iX aL aO;obtain rfl:=sO eW;simp only[eE]at he;split at he
    ·rename_i dC tag xs jn k3 ys ab aD;split at he
     ·rename_i fk;obtain⟨rfl,fk⟩:=fk;subst fk;rw[ab]at rx;rw[aD]at lV;simp only[a6]at rx lV;obtain⟨⟨ug,o6,sx,cx1,⟨Q4,Q5⟩,cx4⟩,rxn,rxo,rxt⟩:=rx;obtain⟨⟨nK,lG,vy,cy1,⟨Q6,Q7⟩,cy4⟩,_⟩:=lV;split at he
      ·rename_i k;split at he
       ·rename_i ow ad;cases he;obtain⟨bQ,cp,ds,j7⟩:=ar;subst cp;obtain⟨n0,Bw,ev,e2,nW⟩:=rxo k rfl;obtain⟨v0,fx,aV,bf,bI,_⟩:=aK.good.own k ow ad;rw[ev]at aV;simp only[dw,jB]at aV;obtain⟨rfl,rfl⟩:=aV;have kf:a.eval o'=Bw:=nW bQ.symm;by_cases ir:ys=[]
        ·subst ir;rw[vy,sx]at my;have im:=HL (P:=P) (w:=w) (ty:=type) iR ai ug xs.length o6 cx1 nK lG;refine mj (my _ _ (by simpa using im)) (c3 _ _ ν ?_);have c8:{st with t:=put d (.slice ow.sz (.own k) (xs++[])) st.t,e:=cu k ⟨xs.length+([]:List ah).length,ow.el,ow.sz,none⟩ st.e}=({st with e:=cu k ⟨ow.n,ow.el,ow.sz,none⟩ st.e,t:=put d (.slice ow.sz (.own k) xs) st.t}:bh):=by simp[bQ]
         rw[←ds,c8];have mB:=aK.forgetRow ad;refine mB.put (d:=some d) (by simpa[jt]using U) (p:= .slice ow.sz (.own k) xs) ?_;simp only[a6];rw[←ds]at cx4;exact⟨⟨ug,o6,rfl,cx1,⟨Q4,Q5⟩,cx4⟩,fun e=>(by cases e),(fun g e=>by cases e;exact⟨_,_,ev,e2,fun e=>by rw[←sx];exact nW e⟩),fun _ _ e=>(by cases e),fun _ e=>(by cases e)⟩
        ·have hyp:0<ys.length:=by cases ys<;>simp at ir⊢
         rcases cy4 with cy4|⟨ld,nv,hq,rfl,yo,mu⟩
         ·exact absurd cy4 ir
         ·have jI:=tJ mu;have rU:∀j u,hq[j]? =some u→w.cell? ((⟨ld,nv,none⟩:Addr).add j)=some u:=fun j u ag=>by rw[o2];exact(uX yo ag).2
          have rO:(xs.length+ys.length)*fw.bytes≤140737488355328:=by
           have hP:fw.bytes≤2048:=by rw[dp];exact hby
           have nj:(xs.length+ys.length)*fw.bytes≤(xs.length+ys.length)*2048:=Nat.mul_le_mul_left _ hP;simp only[lim]at j7;omega
          have mA:xs.length+ys.length≤maxLen:=by simp only[lim]at j7;simp only[maxLen];omega
          rw[vy]at my;have wj:fx.length=ow.n*ow.sz:=bf.1;have wo:z.cells.size=fw.size:=by rw[rz,bn]
          have CD:(∀cur,ep→cur=(0:Nat))→(∃v' w',(Builtin.append_ #[t,t] type #[a.eval o',.slice (some ⟨ld,nv,none⟩) ys.length lG]).run P w= .ok v' w'∧w'.ownsRow w.heap.size ow.el fw.size v' (xs.length+ys.length) (fx++hq)∧w.grownBy w' none∧dA w ν fw.size xs fx)→
            (⟨some d,.call ⟨.builtin .append,⟨[o',jk]⟩,⟨[t,t]⟩⟩,type,pos,after,guard⟩:Oper).wp P a w K Q:=by
           intro _ cU;obtain⟨v',w',f1,f2,f3,f4⟩:=cU;have FJ:dA w ν fw.size (xs++ys) (fx++hq):=DP f4 (by rw[bn];exact mu);obtain⟨cC,da⟩:=aK.newRow (k:=k) (xs:=xs++ys) (.inr ⟨ow,ad,by rw[bQ];simp;omega⟩) f3 (by simpa using f2) FJ (by simpa using j7) (n':=st.n) (o':=st.o)
            (fun j ag=>⟨ag,fun e=>by subst e;have:=(aK.new _ ag).2.1;rw[ev]at this;cases this⟩)
           refine mj (my _ _ f1) (c3 _ _ ((ν.withOwn k (xs++ys).length v').withRowOf k v' (xs++ys).length ((xs++ys).length*fw.size)) ?_);have:=cC.put (d:=some d) (by simpa[jt]using U) da;simpa[bn,eS]using this
          rcases bf.2 with⟨nx,yE⟩|⟨bl,cap,cur,nx,yE,A5,Mu,Mv,Mw,G7⟩
          ·
           have Aj:xs=[]:=List.eq_nil_of_length_eq_zero (by omega);have K3:fx=[]:=List.eq_nil_of_length_eq_zero (by rw[wj,yE];simp);subst Aj;subst K3;refine CD (fun _ h=>h.elim) ?_;obtain⟨v',w',f1,f2,f3,_⟩:=run_append_own (P:=P) w w.heap.size t type ow.el fw z fw.size fw.bytes iR ai hU rfl rfl wo (by rw[bn];exact fE) (.slice none 0 0) 0 [] (World.ownsRow_nil w _ _ _)
            ⟨ld,nv,none⟩ ys.length lG hq (by rw[jI,bn]) rU (yJ mu) (by simpa using mA) (by simpa using rO) (ff _)
           refine⟨v',w',by rw[kf,nx];exact f1,by simpa using f2,by simpa[n9]using f3,by simp[dA]⟩
          ·have ae4:lS w ν.A bl 0 fx∧dA w ν fw.size xs fx∧True:=by
            rw[kf,nx]at sx;rcases cx4 with cx4|⟨bb,aqj,NP,f1,f2,f3⟩
            ·subst cx4;have:fx=[]:=List.eq_nil_of_length_eq_zero (by rw[wj,bQ];simp);subst this;exact⟨trivial,by simp[dA],trivial⟩
            ·subst f1;injection sx with vx1 vx2 vx3;injection vx1 with vx1;injection vx1 with vx1 vx4;subst vx1;subst vx4;have heq:NP=fx:=by
              apply List.ext_getElem?;intro j;have rY:NP.length=fx.length:=by rw[tJ f3,wj,bQ,ds]
              by_cases ag:j<NP.length
              ·have J:=(uX f2 (cb ag)).2;rw[Nat.zero_add]at J;have U:=bf.cells (g:=bl) (by rw[nx];rfl) j fx[j] (cb (by omega));rw[o2,Nat.zero_add,J]at U;rw[cb ag,cb (by omega)];exact U
              ·rw[qu (by omega),qu (by omega)]
             subst heq;exact⟨f2,by rw[bn];exact f3,trivial⟩
           obtain⟨xY,oC,_⟩:=ae4;by_cases rW:xs.length+ys.length≤cap
           ·have aoH:cur.size=cap*ow.sz:=Mw;have hmul:(xs.length+ys.length)*ow.sz≤cap*ow.sz:=Nat.mul_le_mul_right _ rW;rw[pL]at hmul;have f1:=run_append_room (P:=P) w t type ow.el fw iR ai bl xs.length cap cur A5 ⟨ld,nv,none⟩ ys.length lG hq (by rw[jI,bn]) rU (yJ mu) rW (by rw[jI,bn,←ds];omega);obtain⟨cC,da⟩:=aK.inPlace ad (bl:=bl) (cap:=cap) (cur:=cur) (by rw[ev,←nx]) A5 Mv Mw (xs:=xs) (ys:=ys) (us:=fx) (ns:=hq) bQ.symm G7 (by rw[ds,←bn];exact oC) (by rw[ds];exact mu) hyp (by rw[bQ];exact rW) j7;refine mj (v:= .slice (some ⟨bl,0,none⟩) (ow.n+ys.length) cap) (w':=w.setRow bl (fx++hq++cur.toList.drop (ow.n*ow.sz+hq.length)).toArray) (my _ _ ?_)
             (c3 _ _ (ν.withRowOf k (.slice (some ⟨bl,0,none⟩) (ow.n+ys.length) cap) (ow.n+ys.length) ((ow.n+ys.length)*ow.sz)) ?_)
            ·rw[kf,nx,bQ,f1,←G7,bQ,ds,bn]
            ·have:=cC.put (d:=some d) (by simpa[jt]using U) da;simpa[bQ,ds,eS]using this
           ·refine CD (fun _ h=>h.elim) ?_;obtain⟨v',w',f1,f2,f3⟩:=run_append_arg_grows (P:=P) w t type ow.el fw z fw.size fw.bytes iR ai hU rfl rfl wo (by rw[bn];exact fE) ⟨bl,0,none⟩ xs.length cap fx (by rw[wj,bQ,ds,bn])
             (fun j u ag=>by rw[o2];exact(uX xY ag).2) ⟨ld,nv,none⟩ ys.length lG hq (by rw[jI,bn]) rU (by omega) mA rO
            exact⟨v',w',by rw[kf,nx,bQ];exact f1,f2,f3,oC⟩
       ·cases he
      ·cases he;have FX:=rxn rfl;have Aj:xs=[]:=by rw[FX]at sx;injection sx with _ ax;exact List.eq_nil_of_length_eq_zero ax.symm
       subst Aj;have td:(eh.app d g.size el x y).makes st=true:=by simp only[eh.makes,ab]
       have wo:z.cells.size=fw.size:=by rw[rz,bn]
       rw[vy,FX]at my;have dz:∀(v':Value) (w':World) (hq:List Value),(Builtin.append_ #[t,t] type #[.slice none 0 0,.slice nK ys.length lG]).run P w= .ok v' w'→w'.ownsRow w.heap.size el g.size v' ys.length hq→w.grownBy w' none→dA w ν g.size ys hq→
         (⟨some d,.call ⟨.builtin .append,⟨[o',jk]⟩,⟨[t,t]⟩⟩,type,pos,after,guard⟩:Oper).wp P a w K Q:=by
        intro v' w' hq f1 f2 f3 f4;obtain⟨cC,da⟩:=aK.newRow (k:=κ) (xs:=ys) (.inl (aK.new _ (uF td))) f3 f2 f4 ar (dd td);exact mj (my _ _ f1) (c3 _ _ _ (cC.put (d:=some d) (by simpa[jt]using U) da))
       by_cases ir:ys=[]
       ·subst ir;exact dz _ w [] (HL iR ai none 0 0 (ff _) nK lG) (World.ownsRow_nil w _ _ _) (am3 w _) (by simp[dA])
       ·rcases cy4 with cy4|⟨ld,nv,hq,rfl,yo,mu⟩
        ·exact absurd cy4 ir
        ·have jI:=tJ mu;have rU:∀j u,hq[j]? =some u→w.cell? ((⟨ld,nv,none⟩:Addr).add j)=some u:=fun j u ag=>by rw[o2];exact(uX yo ag).2
         have rO:ys.length*fw.bytes≤140737488355328:=by
          have J:fw.bytes≤2048:=by rw[dp];exact hby
          have U:ys.length*fw.bytes≤ys.length*2048:=Nat.mul_le_mul_left _ J;simp only[lim]at ar;omega
         have mA:ys.length≤maxLen:=by simp only[lim]at ar;simp only[maxLen];omega
         obtain⟨v',w',f1,f2,f3,_⟩:=run_append_own (P:=P) w w.heap.size t type el fw z fw.size fw.bytes iR ai hU rfl rfl wo (by rw[bn];exact fE) (.slice none 0 0) 0 [] (World.ownsRow_nil w _ _ _)
          ⟨ld,nv,none⟩ ys.length lG hq (by rw[jI,bn]) rU (yJ mu) (by simpa using mA) (by simpa using rO) (ff _)
         exact dz v' w' hq f1 (by rw[←bn];simpa using f2) (by simpa[n9]using f3) mu
      ·cases he
     ·cases he
    ·cases he
   ·cases b2
  ·cases a1
 ·rename_i d key sz el xs t len parts;simp only[cx,dK,fo]at av;obtain⟨⟨⟨⟨⟨⟨J,U⟩,ao⟩,a1⟩,b2⟩,dc⟩,dX⟩:=av;subst J;subst b2;split at ao
  ·rename_i fZ aO;simp only[dK]at ao;subst ao;split at a1
   ·rename_i g aR;simp only[cx,dK,fo]at a1;obtain⟨rfl,fE⟩:=a1;simp only[eE]at he;cases he;obtain⟨us,g1,g2,g3⟩:=Xc aL aK aO rfl aR dX ar dc;have lN:(w.alloc (.cells us el)).ownsRow w.heap.size el g.size (.slice (some ⟨w.heap.size,0,none⟩) xs.length xs.length) (xs.map (cj st.t)).length us.toList:=by
     refine⟨by simp[g3],.inr ⟨w.heap.size,xs.length,us,by simp,ff _,heap_alloc_new w _,by simp,?_,g3,?_⟩⟩
     ·simp only[maxLen];have:xs.length≤xs.length*g.size:=Nat.le_mul_of_pos_right _ fE;omega
     ·rw[hb];simp[g3]
    obtain⟨ev,e2⟩:=aK.newRowM (k:=κ) (xs:=xs.map (cj st.t)) (.inl (aK.new _ (uF rfl))) (World.grownBy_alloc w _ none) lN g2
     (by have:xs.length≤xs.length*g.size:=Nat.le_mul_of_pos_right _ fE;simp only[lim,List.length_map];omega) (dd rfl)
    simp only[List.length_map]at ev e2;refine mj (v:= .slice (some ⟨w.heap.size,0,none⟩) xs.length xs.length) (w':=w.alloc (.cells us el)) ?_ (c3 _ _ _ (ev.put (d:=some d) (by simpa[jt]using U) (p:= .row g.size κ xs.length) (e2 ⟨_,_,rfl⟩)));have bB:(parts.map fun(x:Nat×Operand)=>(x.1,a.eval x.2))=(parts.toList.map fun(x:Nat×Operand)=>(x.1,a.eval x.2)).toArray:=by apply Array.ext';simp
    simp only[execOp];refine Eh ?_;rw[←g1];congr 2
   ·cases a1
  ·cases ao
 ·rename_i d key sz el x y o' jk t dF;simp only[cx,dK,fo]at av;obtain⟨⟨⟨⟨⟨⟨J,U⟩,ao⟩,a1⟩,b2⟩,dc⟩,dX⟩:=av;subst J;subst ao;split at a1
  ·rename_i fZ aO;simp only[dK]at a1;subst a1;split at b2
   ·rename_i g aR;simp only[cx,dK,fo]at b2;obtain⟨⟨rfl,fE⟩,hby⟩:=b2;have rx:=ef aK dc;have lV:=ef aK dX;have my:∀v' w',(Builtin.append_ #[t,t] type #[a.eval o',a.eval jk]).run P w= .ok v' w'→(execOp a.eval ⟨some d,.call ⟨.builtin .append,⟨[o',jk]⟩,⟨[t,t]⟩⟩,type,pos,after,guard⟩).run P w= .ok (.value v') w':=by intro v' w' im;simp only[execOp,resolve,invoke,builtin,fI,gq,fQ,List.map_toArray,gP,mO];rw[im];rfl
    obtain⟨fw,ca,z,ai,ax,bn,dp,hT,hU,ry,rz⟩:=(vp aL aR).ex;obtain⟨eO,iR,eW⟩:=iX aL aO;obtain rfl:=sO eW;have wo:z.cells.size=fw.size:=by rw[rz,bn]
    simp only[eE]at he;split at he
    ·
     rename_i ys aI;cases he;unfold sJ at aI;split at aI
     ·rename_i dC xs jn k3 amV ab aD;split at aI
      ·rename_i fk;obtain⟨rfl,fk⟩:=fk;subst fk;cases aI;rw[ab]at rx;rw[aD]at lV;simp only[a6]at rx lV;obtain⟨⟨ug,o6,sx,cx1,⟨Q4,Q5⟩,cx4⟩,rxn,rxo,rxt⟩:=rx;obtain⟨⟨nK,lG,vy,cy1,⟨Q6,Q7⟩,cy4⟩,_⟩:=lV;have FX:=rxn trivial;have td:(eh.appm d key g.size el x y).makes st=true:=by simp only[eh.makes,ab]
       rw[vy,FX]at my;have dz:∀(v':Value) (w':World) (hq:List Value),(Builtin.append_ #[t,t] type #[.slice none 0 0,.slice nK ys.length lG]).run P w= .ok v' w'→w'.ownsRow w.heap.size el g.size v' ys.length hq→w.grownBy w' none→dA w ν g.size ys hq→
         (⟨some d,.call ⟨.builtin .append,⟨[o',jk]⟩,⟨[t,t]⟩⟩,type,pos,after,guard⟩:Oper).wp P a w K Q:=by
        intro v' w' hq f1 f2 f3 f4;obtain⟨cC,da⟩:=aK.newRowM (k:=κ) (xs:=ys) (.inl (aK.new _ (uF td))) f3 f2 f4 ar.1 (dd td);exact mj (my _ _ f1) (c3 _ _ _ (cC.put (d:=some d) (by simpa[jt]using U) (da (VO f2 (by cases ys<;>simp at ar⊢)))))
       by_cases ir:ys=[]
       ·subst ir;exact dz _ w [] (HL iR ai none 0 0 (ff _) nK lG) (World.ownsRow_nil w _ _ _) (am3 w _) (by simp[dA])
       ·rcases cy4 with cy4|⟨ld,nv,hq,rfl,yo,mu⟩
        ·exact absurd cy4 ir
        ·have jI:=tJ mu;have rU:∀j u,hq[j]? =some u→w.cell? ((⟨ld,nv,none⟩:Addr).add j)=some u:=fun j u ag=>by rw[o2];exact(uX yo ag).2
         have rO:ys.length*fw.bytes≤140737488355328:=by
          have J:fw.bytes≤2048:=by rw[dp];exact hby
          have U:ys.length*fw.bytes≤ys.length*2048:=Nat.mul_le_mul_left _ J;simp only[lim]at ar;omega
         have mA:ys.length≤maxLen:=by simp only[lim]at ar;simp only[maxLen];omega
         obtain⟨v',w',f1,f2,f3,_⟩:=run_append_own (P:=P) w w.heap.size t type el fw z fw.size fw.bytes iR ai hU rfl rfl wo (by rw[bn];exact fE) (.slice none 0 0) 0 [] (World.ownsRow_nil w _ _ _)
          ⟨ld,nv,none⟩ ys.length lG hq (by rw[jI,bn]) rU (yJ mu) (by simpa using mA) (by simpa using rO) (ff _)
         exact dz v' w' hq f1 (by rw[←bn];simpa using f2) (by simpa[n9]using f3) mu
      ·cases aI
     ·split at aI
      ·split at aI
       ·split at aI<;>cases aI
       ·cases aI
      ·cases aI
     ·cases aI
    ·
     rename_i k xs ys aI;cases he;unfold sJ at aI;split at aI
     ·split at aI<;>cases aI
     ·rename_i dC k' n jn k3 amV ab aD;split at aI
      ·rename_i fk;obtain⟨rfl,fk⟩:=fk;subst fk;split at aI
       ·rename_i n' fZ w6 xs' ad;split at aI
        ·rename_i rP;obtain⟨rfl,rfl,rfl⟩:=rP;cases aI;rw[ab]at rx;rw[aD]at lV;simp only[a6]at rx lV;obtain⟨⟨bx,o6,sx⟩,rxl,n0,Bw,ev,e2,nW⟩:=rx;obtain⟨⟨nK,lG,vy,cy1,⟨Q6,Q7⟩,cy4⟩,_⟩:=lV;obtain⟨v0,fx,aV,bf,bI,cN⟩:=aK.good.own k _ ad;rw[ev]at aV;simp only[dw,jB]at aV bf;obtain⟨rfl,rfl⟩:=aV;have kf:a.eval o'=Bw:=nW rfl;obtain⟨c6,nV,va⟩:=cN xs rfl;simp only at c6 nV;have wj:fx.length=xs.length*g.size:=by rw[c6];exact bf.1
         have pq:xs.length=n0:=c6;by_cases ir:ys=[]
         ·subst ir;rw[vy,sx]at my;have kU:n0≤o6:=by
           rcases bf.2 with⟨nx,yE⟩|⟨bl,cap,cur,nx,yE,A5,Mu,_⟩
           ·rw[yE];exact Nat.zero_le _
           ·rw[←kf,sx]at nx;injection nx with _ _ e;rw[e];exact Mu
          have im:=HL (P:=P) (w:=w) (ty:=type) iR ai (some ⟨bx,0,none⟩) n0 o6 kU nK lG;refine mj (my _ _ (by simpa using im)) (c3 _ _ ν ?_);have gp:∀e9,look e9 (cu k ⟨n0,fZ,g.size,some xs⟩ st.e)=look e9 st.e:=fun e9=>by
           rw[iW];split
           ·rename_i e;subst e;rw[ad]
           ·rfl
          have mB:cX C {st with e:=cu k ⟨n0,fZ,g.size,some xs⟩ st.e} a w ν:=
           ⟨⟨aK.good.alt,aK.good.box,aK.good.inj,fun g o aR=>aK.good.own g o (by rw[←gp g];exact aR),fun g e9 n n' v v' bl bt a2=>aK.good.oinj g e9 n n' v v' bl (by rw[←gp g];exact bt) (by rw[←gp e9];exact a2),
           fun g j n v bl bt=>aK.good.obx g j n v bl (by rw[←gp g];exact bt),aK.good.one,fun bl ae=>aK.good.otr bl (ae.imp id (fun⟨g,n,v,bt,a2⟩=>⟨g,n,v,by rw[←gp g];exact bt,a2⟩))⟩,aK.fr,aK.defers,aK.size,aK.slot,aK.new⟩
          have ao:=mB.put (d:=some d) (by simpa[jt]using U) (p:= .row g.size k n0) (v:= .slice (some ⟨bx,0,none⟩) n0 o6) (by simp only[a6];exact⟨⟨_,_,rfl⟩,rxl,_,_,ev,ff _,fun _=>by rw[←sx];exact kf⟩)
          simpa[pq,eS]using ao
         ·have hyp:0<ys.length:=by cases ys<;>simp at ir⊢
          rcases cy4 with cy4|⟨ld,nv,hq,rfl,yo,mu⟩
          ·exact absurd cy4 ir
          ·have jI:=tJ mu;have rU:∀j u,hq[j]? =some u→w.cell? ((⟨ld,nv,none⟩:Addr).add j)=some u:=fun j u ag=>by rw[o2];exact(uX yo ag).2
           have rO:(xs.length+ys.length)*fw.bytes≤140737488355328:=by
            have hP:fw.bytes≤2048:=by rw[dp];exact hby
            have nj:(xs.length+ys.length)*fw.bytes≤(xs.length+ys.length)*2048:=Nat.mul_le_mul_left _ hP;simp only[lim]at ar;omega
           have mA:xs.length+ys.length≤maxLen:=by simp only[lim]at ar;simp only[maxLen];omega
           have FJ:dA w ν g.size (xs++ys) (fx++hq):=DP nV mu;rw[vy,kf]at my;have CD:(∃v' w',(Builtin.append_ #[t,t] type #[Bw,.slice (some ⟨ld,nv,none⟩) ys.length lG]).run P w= .ok v' w'∧w'.ownsRow w.heap.size fZ fw.size v' (xs.length+ys.length) (fx++hq)∧w.grownBy w' none)→
             (⟨some d,.call ⟨.builtin .append,⟨[o',jk]⟩,⟨[t,t]⟩⟩,type,pos,after,guard⟩:Oper).wp P a w K Q:=by
            intro cU;obtain⟨v',w',f1,f2,f3⟩:=cU;obtain⟨cC,da⟩:=aK.newRowM (k:=k) (xs:=xs++ys) (el:=fZ) (sz:=g.size) (.inr ⟨_,ad,by simp;omega⟩) f3 (by rw[←bn];simpa using f2) FJ (by simpa using ar) (n':=st.n) (o':=st.o)
             (fun j ag=>⟨ag,fun e=>by subst e;have:=(aK.new _ ag).2.1;rw[ev]at this;cases this⟩)
            refine mj (my _ _ f1) (c3 _ _ (ν.withOwn k (xs++ys).length v') ?_);have:=cC.put (d:=some d) (by simpa[jt]using U) (da (by simpa using VO f2 (by omega)));simpa[eS]using this
           rcases bf.2 with⟨nx,yE⟩|⟨bl,cap,cur,nx,yE,A5,Mu,Mv,Mw,G7⟩
           ·
            have Aj:xs=[]:=List.eq_nil_of_length_eq_zero (by omega);have K3:fx=[]:=List.eq_nil_of_length_eq_zero (by rw[wj,Aj];simp);subst Aj;subst K3;refine CD ?_;obtain⟨v',w',f1,f2,f3,_⟩:=run_append_own (P:=P) w w.heap.size t type fZ fw z fw.size fw.bytes iR ai hU rfl rfl wo (by rw[bn];exact fE) (.slice none 0 0) 0 [] (World.ownsRow_nil w _ _ _)
             ⟨ld,nv,none⟩ ys.length lG hq (by rw[jI,bn]) rU (yJ mu) (by simpa using mA) (by simpa using rO) (ff _)
            exact⟨v',w',by rw[nx];exact f1,by simpa using f2,by simpa[n9]using f3⟩
           ·have oI:Bw.ownBlock=some bl:=by rw[nx];rfl
            by_cases rW:xs.length+ys.length≤cap
            ·have hmul:(xs.length+ys.length)*g.size≤cap*g.size:=Nat.mul_le_mul_right _ rW;rw[pL]at hmul;have f1:=run_append_room (P:=P) w t type fZ fw iR ai bl xs.length cap cur A5 ⟨ld,nv,none⟩ ys.length lG hq (by rw[jI,bn]) rU (yJ mu) rW (by rw[jI,bn];omega);generalize TM:(cur.toList.take (xs.length*fw.size)++hq++cur.toList.drop (xs.length*fw.size+hq.length)).toArray=tD at f1;have iT:(w.setRow bl tD).heap[bl]? =some (.cells tD fZ (0,0)):=setRow_heap w bl cur tD fZ _ A5;have aq:(fx++hq).length=(xs++ys).length*g.size:=by rw[pJ,wj,jI,pJ,pL]
             have b2:cur.toList.take (xs.length*fw.size)=fx:=by rw[pq,bn];exact G7
             have kA:tD.size=cap*g.size:=by rw[←TM];simp only[List.size_toArray,pJ,List.length_take,sC,Array.length_toList];rw[bn];omega
             have pg:tD.toList.take ((xs++ys).length*g.size)=fx++hq:=by rw[←TM,b2];simp only[←aq];rw[List.take_append_of_le_length (ff _),nH]
             obtain⟨cC,_,da⟩:=aK.setRowM (w':=w.setRow bl tD) ad rfl ev oI (v':= .slice (some ⟨bl,0,none⟩) (xs.length+ys.length) cap) rfl (xs':=xs++ys) (us:=fx++hq) (.inr (by simp;omega)) rfl rfl rfl (fun j ag=>setRow_other w bl j tD ag) (setRow_size w bl tD)
              ⟨aq,.inr ⟨bl,cap,tD,by simp,Nat.zero_le _,iT,by simpa using rW,Mv,kA,pg⟩⟩ FJ
             replace da:=da (by simpa using ar);refine mj (v:= .slice (some ⟨bl,0,none⟩) (xs.length+ys.length) cap) (w':=w.setRow bl tD) (my _ _ ?_) (c3 _ _ (ν.withOwn k (xs++ys).length (.slice (some ⟨bl,0,none⟩) (xs.length+ys.length) cap)) ?_)
             ·rw[nx,←pq];exact f1
             ·have:=cC.put (d:=some d) (by simpa[jt]using U) da;simpa[eS]using this
            ·refine CD ?_;obtain⟨v',w',f1,f2,f3⟩:=run_append_arg_grows (P:=P) w t type fZ fw z fw.size fw.bytes iR ai hU rfl rfl wo (by rw[bn];exact fE) ⟨bl,0,none⟩ xs.length cap fx (by rw[wj,bn])
              (fun j u ag=>by have:=bf.cells oI j u ag;exact this) ⟨ld,nv,none⟩ ys.length lG hq (by rw[jI,bn]) rU (by omega) mA rO
             exact⟨v',w',by rw[nx,←pq];exact f1,f2,f3⟩
        ·cases aI
       ·cases aI
      ·cases aI
     ·cases aI
    ·cases he
   ·cases b2
  ·cases a1
 ·rename_i sz x y t o' jk;simp only[cx,dK]at av;obtain⟨⟨⟨J,U⟩,ao⟩,a1⟩:=av;subst J;split at U
  ·rename_i f aO;simp only[dK]at U;simp only[eE]at he;generalize KO:cj st.t x=px at he;unfold re at he;split at he
   ·rename_i dC k n i sU;split at he
    ·rename_i n' el jn xs ad;split at he
     ·rename_i CL;obtain⟨rfl,rfl⟩:=CL;split at he
      ·rename_i q bu;cases he;obtain⟨ks,bQ,cp,ds,j7⟩:=ar;have rx:=ef aK ao;rw[KO]at rx;have lV:=ef aK a1;have ve:=vf lV bQ;have vh:=pF ve;obtain⟨_,et⟩:=vo aL aO w;have uN:(a.eval jk).cells.size=sz:=by rw[cp]at vh;simpa using vh
       obtain⟨bl,off,mr,CP,c8,bg,oF⟩:=aK.storeRow (P:=P) ad rx bu ks ve (by simpa[uN]using ds) (fun e=>by have:=eU List.length e;simp[uN]at this;omega);refine En (w':=w.setRow bl mr) ?_ (c3 _ _ _ oF);simp only[execOp,Instr.storeAt,CP,Instr.sureAddr,storeVar,fI,gq,fQ,et,uN,U,ne_eq,not_true_eq_false,if_false,c8]
      ·cases he
     ·cases he
    ·cases he
   ·cases he
  ·cases U
 ·rename_i d key sz el z x t o' jk;simp only[cx,dK,fo]at av;obtain⟨⟨⟨⟨⟨J,U⟩,ao⟩,a1⟩,b2⟩,dc⟩:=av;subst J;split at ao
  ·rename_i fZ aO;simp only[dK]at ao;subst ao;split at a1
   ·rename_i g aR;simp only[cx,dK,fo]at a1;obtain⟨⟨⟨rfl,fE⟩,hby⟩,aY⟩:=a1;obtain rfl:=Oc aY;have rx:=ef aK b2;have lV:=ef aK dc;simp only[eE]at he;split at he
    ·rename_i fp n ab;cases he;obtain⟨afd,jI⟩:=ar;obtain⟨m,rfl⟩:=Int.eq_ofNat_of_zero_le afd;rw[ab]at rx lV;simp only[a6]at rx lV;obtain⟨fw,ca,bW,ai,ax,bn,dp,hT,hU,ry,rz⟩:=(vp aL aR).ex;obtain⟨eO,iR,eW⟩:=iX aL aO;obtain rfl:=sO eW;have mA:m≤lim:=by simp only[lim]at jI⊢;omega
     have rO:fw.bytes*m≤281474976710656:=by have J:fw.bytes*m≤2048*m:=Nat.mul_le_mul_right _ (by omega);simp only[lim]at mA;omega
     obtain⟨afz,aex⟩:=Ob w ν ry;obtain⟨w',g1,g2,g3⟩:=run_make_full (P:=P) w w.heap.size t el fw bW fw.size iR ai hU rfl fp fp m rO (by simp only[maxLen];simp only[lim]at mA;omega) (ff _);have lN:w'.ownsRow w.heap.size el g.size (.slice (some ⟨w.heap.size,0,none⟩) m m) (List.replicate m g.zero).length (madeCells bW.cells (m*bW.cells.size)).toList:=by rw[bn,←rz]at g2;rw[List.length_replicate,←rz];exact g2
     obtain⟨ev,e2⟩:=aK.newRowM (k:=κ) (xs:=List.replicate m g.zero) (.inl (aK.new _ (uF rfl))) g3 lN (by rw[←rz];exact UQ afz (by omega) (Bi aex) m) (by simpa using mA) (dd rfl);simp only[List.length_replicate]at ev e2;simp only[Int.toNat_natCast]at c3;refine mj (v:= .slice (some ⟨w.heap.size,0,none⟩) m m) (w':=w') ?_ (c3 _ _ _ (ev.put (d:=some d) (by simpa[jt]using U) (p:= .row g.size κ m) (e2 ⟨_,_,rfl⟩)));simp only[execOp];refine Eh ?_;rw[rx,lV];exact g1
    ·cases he
   ·cases a1
  ·cases ao
 ·cases av
theorem akY{P:cA}{bs:List (Nat×dx)}(aL:fP P bs=true){C:fh}{st st':bh}{a:Act}{w:World}{ν:a8}(aK:cX C st a w ν){i:eh}{o:Oper}(av:DX C.N bs i o=true)
  {c:Prop} (he:mg st i=some (c,st')) (ar:c) {K:Act→World→Prop} {Q:Exit→Act→World→Prop} (c3:∀be w' bg,cX C st' be w' bg→K be w'):o.wp P a w K Q:=by
 have oD:p8 st none→fresh st.n st.o (.loc st.n):=fun h=>wJ (key:=none) h;have ft:∀j,fresh (st.n+1) st.o j→fresh st.n st.o j∧j≠ .loc st.n:=wK (key:=none);cases i with
 |v d i=>exact jO (κ:= .loc 0) (n':=0) (o₁:=[]) aL aK av (fun h=>by simp[eh.makes]at h) (fun h=>by simp[eh.makes]at h) (by simpa only[mg,eE]using he) ar c3
 |box d key x=>simp only[mg]at he;cases he;exact jO (κ:=jM st key) (n':=nt st key) (o₁:=nu st key) aL aK av (fun _=>wJ ar.1) (fun _=>wK) (by simp only[eE]) ar.2 c3
 |alloc d key z=>simp only[mg]at he;cases he;exact jO (κ:=jM st key) (n':=nt st key) (o₁:=nu st key) aL aK av (fun _=>wJ ar) (fun _=>wK) (by simp only[eE]) trivial c3
 |mks d key sz el z x=>
  simp only[mg]at he;split at he
  ·rename_i fp n ab;cases he;exact jO (κ:=jM st key) (n':=nt st key) (o₁:=nu st key) aL aK av (fun _=>wJ ar.1) (fun _=>wK) (by simp only[eE,ab]) ar.2 c3
  ·cases he
 |storeE sz x y=>exact jO (κ:= .loc 0) (n':=0) (o₁:=[]) aL aK av (fun h=>by simp[eh.makes]at h) (fun h=>by simp[eh.makes]at h) (by simpa only[mg,eE]using he) ar c3
 |store sz x y=>exact jO (κ:= .loc 0) (n':=0) (o₁:=[]) aL aK av (fun h=>by simp[eh.makes]at h) (fun h=>by simp[eh.makes]at h) (by simpa only[mg,eE]using he) ar c3
 |bsl d sz el xs=>simp only[mg]at he;cases he;exact jO (κ:= .loc st.n) (n':=st.n+1) (o₁:=st.o) aL aK av (fun _=>oD ar.1) (fun _=>ft) (by simp only[eE]) ar.2 c3
 |bslm d key sz el xs=>simp only[mg]at he;cases he;exact jO (κ:=jM st key) (n':=nt st key) (o₁:=nu st key) aL aK av (fun _=>wJ ar.1) (fun _=>wK) (by simp only[eE]) ar.2 c3
 |appm d key sz el x y=>
  simp only[mg]at he;split at he
  ·rename_i ys aI;cases he;exact jO (κ:=jM st key) (n':=nt st key) (o₁:=nu st key) aL aK av (fun _=>wJ ar.1) (fun _=>wK) (by simp only[eE,aI]) ar.2 c3
  ·rename_i k xs ys aI;cases he;refine jO (κ:= .loc 0) (n':=0) (o₁:=[]) aL aK av (fun h=>?_) (fun h=>?_) (by simp only[eE,aI]) ar c3;all_goals
    exfalso
    simp only[eh.makes]at h
    split at h
    ·rename_i ab
     unfold sJ at aI
     rw[ab]at aI
     split at aI
     ·split at aI<;>cases aI
     ·rename_i J _;cases J
     ·cases aI
    ·cases h
  ·cases he
 |mkmap d key=>simp only[mg]at he;cases he;exact jO (κ:=jM st key) (n':=nt st key) (o₁:=nu st key) aL aK av (fun _=>wJ ar) (fun _=>wK) (by simp only[eE]) trivial c3
 |mput b7 x k v=>exact jO (κ:= .loc 0) (n':=0) (o₁:=[]) aL aK av (fun h=>by simp[eh.makes]at h) (fun h=>by simp[eh.makes]at h) (by simpa only[mg,eE]using he) ar c3
 |range d key x=>
  simp only[mg]at he;split at he
  ·rename_i m ab;split at he
   ·rename_i cs df;split at he
    ·rename_i cs' hm;cases he;exact jO (κ:=jM st key) (n':=nt st key) (o₁:=nu st key) aL aK av (fun _=>wJ ar) (fun _=>wK) (by simp only[eE,ab,df,hm]) trivial c3
    ·cases he
   ·cases he
  ·cases he
 |app d sz el x y=>
  simp only[mg]at he;split at he
  ·rename_i dC tag xs jn k3 ys ab aD;split at he
   ·rename_i fk;split at he
    ·rename_i k;split at he
     ·rename_i ow ad;cases he;refine jO (κ:= .loc 0) (n':=0) (o₁:=[]) aL aK av (fun h=>by simp[eh.makes,ab]at h) (fun h=>by simp[eh.makes,ab]at h) ?_ ar c3;simp only[eE,ab,aD,fk,and_self,if_true,ad]
     ·cases he
    ·cases he;refine jO (κ:= .loc st.n) (n':=st.n+1) (o₁:=st.o) aL aK av (fun _=>oD ar.1) (fun _=>ft) ?_ ar.2 c3;simp only[eE,ab,aD,fk,and_self,if_true]
    ·cases he
   ·cases he
  ·cases he
structure cI where
 b:List (aJ×List ah)
 e:List (aJ×fL)
def fl(ν:a8)(s:cI)(bl:Nat):Prop:=(∃k,(look k s.b).isSome∧ν.bx k=some bl)∨(∃g n v,(look g s.e).isSome∧ν.ow g=some (n,v)∧v.ownBlock=some bl)
def ov(ν:a8)(s:cI):Prop:= ∀k,(look k s.b=none→ν.bx k=none)∧(look k s.e=none→ν.ow k=none)∧∀j b,¬ν.tr k j b
def cZ(s:cI):List aJ:=s.b.map (·.1)++s.e.map (·.1)
def iE(s:cI):Prop:=(∀m,look (.loc m) s.b=none)∧(∀m,look (.loc m) s.e=none)
def xf(P:cA)(f:FuncId)(a7:Array Value)(w:World)(R:Ending→World→Prop):Prop:=((∃fn,P.funcs[f]? =some fn∧fn.body.isSome=true∧(fn.name== "runtime.NumGoroutine")=false)∧Calls P f a7 w R)∨ ∃v w',(callFunc f a7).run P w= .ok (.value v) w'∧R (.returned v) w'
def bC(P:cA)(f:FuncId)(args:List ah)(s:cI)(Q:ah→cI→Prop):Prop:=
 ∀(w:World) (ν:a8) (a7:Array Value),Good (fl ν s) w ν s.b s.e→ov ν s→cK w ν args a7.toList→
  xf P f a7 w fun e w'=> ∃v r s' bg,e= .returned v∧Q r s'∧a6 w' bg r v∧Good (fun bl=>fl ν s bl∨w.heap.size≤bl) w' bg s'.b s'.e∧ov bg s'∧iE s'∧pN ⟨w,ν,fl ν s,0,cZ s⟩ w' bg
def Fm(κ:Option Nat)(ν:a8)(s:cI):Prop:= ∀k,(look k s.b=none→ν.bx k=none)∧(look k s.e=none→ν.ow k=none)∧∀j b,ν.tr k j b→∃m,κ=some m∧k= .loc m
theorem ov.k{ν:a8}{s:cI}(h:ov ν s):Fm none ν s:=fun k=>⟨(h k).1,(h k).2.1,fun j b ae=>absurd ae ((h k).2.2 j b)⟩
def Is(P:cA)(f:FuncId)(κ:Nat)(args:List ah)(s:cI)(Q:ah→cI→Prop):Prop:=
 ∀(w:World) (ν:a8) (a7:Array Value),Good (fl ν s) w ν s.b s.e→ov ν s→cK w ν args a7.toList→
  xf P f a7 w fun e w'=> ∃v r s' bg,e= .returned v∧Q r s'∧a6 w' bg r v∧Good (fun bl=>fl ν s bl∨w.heap.size≤bl) w' bg s'.b s'.e∧Fm (some κ) bg s'∧iE s'∧pN ⟨w,ν,fl ν s,0,cZ s⟩ w' bg
def bS(P:cA)(f:FuncId)(args:List ah)(r:ah):Prop:=bC P f args ⟨[],[]⟩ fun eg s'=>eg=r∧s'=⟨[],[]⟩
theorem tv{α:Type}{k:aJ}{x:α}:∀{l:List (aJ×α)},look k l=some x→(k,x)∈l
 |[],h=>by simp[look]at h
 |(i,y)::r,h=>by
  simp only[look]at h;split at h
  ·rename_i e;subst e;cases h;simp
  ·exact lA _ (tv h)
theorem tE{s:cI}{k:aJ}(h:(look k s.b).isSome∨(look k s.e).isSome):k∈cZ s:=by
 unfold cZ;rcases h with h|h<;>obtain⟨x,ab⟩:=fB.1 h<;>have:=tv ab
 ·exact List.mem_append_left _ (hJ.2 ⟨_,this,rfl⟩)
 ·exact List.mem_append_right _ (hJ.2 ⟨_,this,rfl⟩)
section
open Classical
noncomputable def a8.cut(ν:a8)(S:aJ→Prop):a8:={A:=ν.A,bx:=fun k=>if S k then ν.bx k else none,ow:=fun k=>if S k then ν.ow k else none,tr:=fun k j b=>S k∧ν.tr k j b}
theorem a8.cut_bx{ν:a8}{S:aJ→Prop}{k:aJ}(h:S k):(ν.cut S).bx k=ν.bx k:=by simp[a8.cut,h]
theorem a8.cut_ow{ν:a8}{S:aJ→Prop}{k:aJ}(h:S k):(ν.cut S).ow k=ν.ow k:=by simp[a8.cut,h]
theorem a8.cut_no{ν:a8}{S:aJ→Prop}{k:aJ}(h:¬S k):(ν.cut S).bx k=none∧(ν.cut S).ow k=none∧∀j b,¬(ν.cut S).tr k j b:=by simp[a8.cut,h]
theorem a8.cut_some{ν:a8}{S:aJ→Prop}{k:aJ}{b:Nat}(h:(ν.cut S).bx k=some b):S k∧ν.bx k=some b:=by
 by_cases af:S k
 ·exact⟨af,by rw[a8.cut_bx af]at h;exact h⟩
 ·rw[(a8.cut_no af).1]at h;cases h
theorem a8.cut_someO{ν:a8}{S:aJ→Prop}{k:aJ}{b:Nat×Value}(h:(ν.cut S).ow k=some b):S k∧ν.ow k=some b:=by
 by_cases af:S k
 ·exact⟨af,by rw[a8.cut_ow af]at h;exact h⟩
 ·rw[(a8.cut_no af).2.1]at h;cases h
theorem od.cut(S:aJ→Prop)(w:World)(ν:a8):od S w ν w (ν.cut S):=⟨fun _ _ h=>⟨h,rfl⟩,fun k b ad h=>by rw[a8.cut_bx ad];exact h,fun g n u aR h=>⟨n,u,by rw[a8.cut_ow aR];exact h,.inl ⟨rfl,rfl⟩⟩,fun _ _ _=>rfl,fun _ _ _ ad h=>⟨ad,h⟩⟩
end
def gB(S:aJ→Prop)(bV b:List (aJ×List ah)):Prop:= ∀k cs,look k bV=some cs→look k b=some cs∧S k∧aN S cs
def nA(S:aJ→Prop)(fT e:List (aJ×fL)):Prop:= ∀k o,look k fT=some o→look k e=some o∧S k∧ej S o
theorem Good.cut{pr DE:Nat→Prop}{w:World}{ν:a8}{b bV:List (aJ×List ah)}{e fT:List (aJ×fL)}(h:Good pr w ν b e){S:aJ→Prop}(ae:gB S bV b)(he:nA S fT e)
  (Tv:∀bl,pr bl→(∃k,(look k bV).isSome∧(ν.cut S).bx k=some bl)∨(∃g n v,(look g fT).isSome∧(ν.cut S).ow g=some (n,v)∧v.ownBlock=some bl)→DE bl):Good DE w (ν.cut S) bV fT:=by
 have FI:∀k,(look k bV).isSome→(look k b).isSome∧S k:=fun k ad=>by obtain⟨cs,df⟩:=fB.1 ad;have:=ae k cs df;exact⟨by simp[this.1],this.2.1⟩
 have FM:∀k,(look k fT).isSome→(look k e).isSome∧S k:=fun k ad=>by obtain⟨cs,df⟩:=fB.1 ad;have:=he k cs df;exact⟨by simp[this.1],this.2.1⟩
 refine⟨h.alt,fun k cs ad=>?_,fun k k' bl J U ao a1=>?_,fun g o aR=>?_,fun g e9 n n' v v' bl J U ao a1 b2 dc=>?_,fun g k n v bl J U ao a1 b2=>?_,fun k=>?_,fun bl aL k j ag=>?_⟩
 ·obtain⟨g1,g2,g3⟩:=ae k cs ad;obtain⟨bl,us,el,f1,f2,f3,f4,f5⟩:=h.box k cs g1;have jT:(ν.cut S).bx k=some bl:=by rw[a8.cut_bx g2];exact f1
  exact⟨bl,us,el,jT,Tv bl f2 (.inl ⟨k,by simp[ad],jT⟩),f3,f4,WW (od.cut S w ν) g3 f5⟩
 ·obtain⟨bt,a2⟩:=FI k J;obtain⟨bM,bO⟩:=FI k' U;exact h.inj k k' bl bt bM (a8.cut_some ao).2 (a8.cut_some a1).2
 ·obtain⟨g1,g2,g3⟩:=he g o aR;obtain⟨v,us,f1,f2,f3,f4⟩:=h.own g o g1;have CN:(ν.cut S).ow g=some (o.n,v):=by rw[a8.cut_ow g2];exact f1
  exact⟨v,us,CN,f2,fun bl fD=>⟨Tv bl (f3 bl fD).1 (.inr ⟨g,o.n,v,by simp[aR],CN,fD⟩),(f3 bl fD).2⟩,
   fun xs ab=>⟨(f4 xs ab).1,Hw (od.cut S w ν) _ _ _ (g3 xs ab) (f4 xs ab).2.1,(f4 xs ab).2.2⟩⟩
 ·obtain⟨bt,a2⟩:=FM g J;obtain⟨bM,bO⟩:=FM e9 U;exact h.oinj g e9 n n' v v' bl bt bM (a8.cut_someO ao).2 (a8.cut_someO a1).2 b2 dc
 ·obtain⟨bt,a2⟩:=FM g J;obtain⟨bM,bO⟩:=FI k U;exact h.obx g k n v bl bt bM (a8.cut_someO ao).2 a1 (a8.cut_some b2).2
 ·by_cases af:S k
  ·rw[a8.cut_bx af,a8.cut_ow af];exact h.one k
  ·exact .inl (a8.cut_no af).1
 ·refine h.otr bl ?_ k j ag.2;rcases aL with⟨k',bt,a2⟩|⟨g,n,v,bt,a2,a3⟩
  ·exact .inl ⟨k',(FI k' bt).1,(a8.cut_some a2).2⟩
  ·exact .inr ⟨g,n,v,(FM g bt).1,(a8.cut_someO a2).2,a3⟩
structure iM (ob:List aJ) (st st':bh):Prop where
 t:∀x∈st'.t,get x.1 st.t=x.2∧aH (fun k=> ¬fresh st'.n st'.o k) x.2
 b:gB (fun k=> ¬fresh st'.n st'.o k) st'.b st.b
 e:nA (fun k=> ¬fresh st'.n st'.o k) st'.e st.e
 o:∀m∈ob,m∈st'.o
theorem Sn:∀(i:Nat) (l:List (Nat×ah)),get i l= .junk∨(i,get i l)∈l
 |_,[]=>.inl rfl
 |i,(j,p)::r=>by
  by_cases h:j=i
  ·subst h;right;simp[get]
  ·rcases Sn i r with J|J
   ·left;simp[get,h,J]
   ·right;simp[get,h];right;exact J
theorem cX.weaker{C:fh}{st st':bh}{a:Act}{w:World}{ν:a8}(h:cX C st a w ν)(hw:iM C.ob st st'):cX C st' a w (ν.cut fun k=> ¬fresh st'.n st'.o k):=by
 refine⟨h.good.cut hw.b hw.e (fun bl bB _=>bB),⟨h.fr.os,h.fr.tape,h.fr.output,h.fr.size,h.fr.block,h.fr.keep,h.fr.fresh,fun n b ae=>?_,h.fr.obn,fun m n u hm=>?_,h.fr.obr,fun k j k' dB b J U=>h.fr.trd k j k' dB b J.2 U.2,fun k j b ae=>h.fr.trb k j b ae.2,fun k j b ae=>?_,h.fr.sh⟩,h.defers,h.size,fun i=>?_,fun k ad=>a8.cut_no (fun au=>au ad)⟩
 ·rw[a8.cut_bx (fun cU=>cU.2 (hw.o _ (h.fr.obn n b ae)))];exact h.fr.obj n b ae
 ·rw[a8.cut_ow (fun cU=>cU.2 (hw.o _ (h.fr.obr m n u hm)))];exact h.fr.row m n u hm
 ·rw[a8.cut_bx ae.1,a8.cut_ow ae.1];exact h.fr.trn k j b ae.2
 ·rcases Sn i st'.t with ag|hm
  ·rw[ag];simp[a6]
  ·obtain⟨J,U⟩:=hw.t _ hm;simp only at J;have:=h.slot i;rw[J]at this;exact kn (od.cut _ w ν) _ _ U this
mutual
def dU:ah→ah
 | .slice sz _ xs=>.slice sz .no (di xs)
 | .agg cs=>.agg (di cs)
 | .tuple a7=>.tuple (di a7)
 | .eptr x=>.eptr (dU x)
 | .iface t x=>.iface t (dU x)
 | .func f dj=>.func f (di dj)
 |p=>p
def di:List ah→List ah
 |[]=>[]
 |x::xs=>dU x::di xs
end
theorem ss:∀xs,(di xs).length=xs.length
 |[]=>rfl
 |x::xs=>by simp[di,ss xs]
mutual
theorem J2{t:Bool}{w:World}{A:Nat→Nat→Prop}:∀(p:ah) (F:Nat→Prop) (v:Value),gi t w A F p v→gi t w A F (dU p) v
 | .int _ _,_,_,h=>by simpa only[dU]using h
 | .bool _,_,_,h=>by simpa only[dU]using h
 | .str _,_,_,h=>by simpa only[dU]using h
 | .slice sz tag xs,F,v,h=>by
  simp only[gi,dU]at h⊢;obtain⟨a,cap,J,U,ao,a1⟩:=h;refine⟨a,cap,by rw[ss];exact J,by rw[ss];exact U,by rw[ss];exact ao,?_⟩;rcases a1 with rfl|⟨b,off,us,G,ai,ax,bn,dp,hT,hU⟩
  ·exact .inl rfl
  ·exact .inr ⟨b,off,us,G,ai,ax,bn,dp,hT,R7 sz xs G us hU⟩
 | .agg cs,F,v,h=>by simp only[gi,dU]at h⊢;obtain⟨us,J,U⟩:=h;exact⟨us,J,R8 cs F _ U⟩
 | .junk,_,_,h=>by simp[gi]at h
 | .ptr _ _,_,_,h=>by simp[gi]at h
 | .eptr _,_,_,h=>by simp[gi]at h
 | .iface _ _,_,_,h=>by simp[gi]at h
 | .nilp,_,_,h=>by simp[gi]at h
 | .tuple _,_,_,h=>by simp[gi]at h
 | .func _ _,_,_,h=>by simp[gi]at h
 | .gmap _,_,_,h=>by simp[gi]at h
 | .row _ _ _,_,_,h=>by simp[gi]at h
 | .rptr _ _ _ _ _,_,_,h=>by simp[gi]at h
 | .hdm _ _,_,_,h=>by simp[gi]at h
 | .hdi _ _ _,_,_,h=>by simp[gi]at h
 | .cst _,_,_,h=>by simp[gi]at h
theorem R8{t:Bool}{w:World}{A:Nat→Nat→Prop}:∀(cs:List ah) (F:Nat→Prop) (us:List Value),ux t w A F cs us→ux t w A F (di cs) us
 |[],_,_,h=>by simpa only[di]using h
 |c::cs,F,us,h=>by simp only[ux,di]at h⊢;obtain⟨u,b8,ih,ix,J,U,⟨b2,dc⟩,dX⟩:=h;exact⟨u,b8,ih,ix,J,U,⟨J2 c ih u b2,dc⟩,R8 cs ix b8 dX⟩
theorem R7{t:Bool}{w:World}{A:Nat→Nat→Prop}(sz:Nat):∀(cs:List ah) (F:Nat→Prop) (us:List Value),uw t w A F sz cs us→uw t w A F sz (di cs) us
 |[],_,_,h=>by simpa only[di]using h
 |c::cs,F,us,h=>by simp only[uw,di]at h⊢;obtain⟨u,b8,ih,ix,J,U,⟨b2,dc⟩,dX⟩:=h;exact⟨u,b8,ih,ix,J,U,⟨J2 c ih u b2,dc⟩,R7 sz cs ix b8 dX⟩
end
theorem R6{t:Bool}{w:World}{A:Nat→Nat→Prop}{F:Nat→Prop}{sz:Nat}{tag:BO}(k3:BO){xs:List ah}(v:Value)(h:gi t w A F (.slice sz tag xs) v):gi t w A F (.slice sz k3 (di xs)) v:=by have:=J2 _ F v h;simp only[dU,gi]at this⊢;exact this
mutual
theorem k1{w:World}{ν:a8}:∀(p:ah) (v:Value),a6 w ν p v→a6 w ν (dU p) v
 | .junk,_,h=>by simpa only[dU]using h
 | .int k n,_,h=>by simpa only[dU]using h
 | .bool b,_,h=>by simpa only[dU]using h
 | .str s,_,h=>by simpa only[dU]using h
 | .slice sz tag xs,v,h=>by
  simp only[a6,dU]at h⊢;obtain⟨⟨a,cap,J,U,ao,a1⟩,b2,dc⟩:=h;refine⟨⟨a,cap,by rw[ss];exact J,by rw[ss];exact U,by rw[ss];exact ao,?_⟩,fun e=>(by cases e),fun g e=>(by cases e),fun _ _ e=>(by cases e),fun _ e=>(by cases e)⟩;rcases a1 with rfl|⟨b,off,us,a1,dc,dX⟩
  ·exact .inl rfl
  ·exact .inr ⟨b,off,us,a1,dc,WZ sz xs us dX⟩
 | .agg cs,v,h=>by simp only[a6,dU]at h⊢;obtain⟨us,J,U⟩:=h;exact⟨us,J,W3 cs _ U⟩
 | .ptr key off,v,h=>by simpa only[dU]using h
 | .iface t x,v,h=>by simp only[a6,dU]at h⊢;obtain⟨u,J,U⟩:=h;exact⟨u,J,k1 x u U⟩
 | .eptr x,v,h=>by simp only[a6,dU]at h⊢;obtain⟨b,off,u,J,U,ao⟩:=h;exact⟨b,off,u,J,k1 x u U,ao⟩
 | .nilp,_,h=>by simpa only[dU]using h
 | .tuple a7,v,h=>by simp only[a6,dU]at h⊢;obtain⟨us,J,U⟩:=h;exact⟨us,J,HC a7 _ U⟩
 | .func f dj,v,h=>by simp only[a6,dU]at h⊢;obtain⟨us,J,U⟩:=h;exact⟨us,J,HC dj _ U⟩
 | .gmap key,v,h=>by simpa only[dU]using h
 | .row _ _ _,v,h=>by simpa only[dU]using h
 | .rptr _ _ _ _ _,v,h=>by simpa only[dU]using h
 | .cst _,v,h=>by simpa only[dU]using h
theorem W3{w:World}{ν:a8}:∀(cs:List ah) (us:List Value),dg w ν cs us→dg w ν (di cs) us
 |[],_,h=>by simpa only[di]using h
 |c::cs,us,h=>by simp only[dg,di]at h⊢;obtain⟨u,b8,J,U,ao⟩:=h;exact⟨u,b8,J,⟨k1 c u U.1,U.2⟩,W3 cs b8 ao⟩
theorem HC{w:World}{ν:a8}:∀(cs:List ah) (us:List Value),cK w ν cs us→cK w ν (di cs) us
 |[],_,h=>by simpa only[di]using h
 |c::cs,us,h=>by simp only[cK,di]at h⊢;obtain⟨u,b8,J,U,ao⟩:=h;exact⟨u,b8,J,k1 c u U,HC cs b8 ao⟩
theorem WZ{w:World}{ν:a8}(sz:Nat):∀(xs:List ah) (us:List Value),dA w ν sz xs us→dA w ν sz (di xs) us
 |[],_,h=>by simpa only[di]using h
 |x::xs,us,h=>by simp only[dA,di]at h⊢;obtain⟨u,b8,J,⟨U,ao,a1⟩,b2⟩:=h;exact⟨u,b8,J,⟨k1 x u U,ao,a1⟩,WZ sz xs b8 b2⟩
end
def inObs(s:cI)(k:aJ):Prop:=(look k s.b).isSome=true∨(look k s.e).isSome=true
def b0{α β:Type}(s:List (aJ×β)):List (aJ×α)→List (aJ×α)
 |[]=>[]
 |(k,x)::r=>match look k s with
  |some _=>b0 s r
  |none=>(k,x)::b0 s r
theorem u1{α β:Type}(s:List (aJ×β))(k:aJ):∀l:List (aJ×α),look k (b0 s l)=if(look k s).isSome then none else look k l
 |[]=>by simp[b0,look]
 |(i,x)::r=>by
  simp only[b0];by_cases e:i=k
  ·subst e;cases h:look i s with
   |some y=>simp[u1 s i r,h]
   |none=>simp[look]
  ·cases h:look i s with
   |some y=>simp[u1 s k r,look,e]
   |none=>simp[look,e,u1 s k r]
theorem yn{α:Type}(k:aJ):∀l l':List (aJ×α),look k (l++l')=match look k l with|some x=>some x|none=>look k l'
 |[],l'=>by simp[look]
 |(i,x)::r,l'=>by
  by_cases e:i=k
  ·simp[look,e]
  ·simp[look,e,yn k r l']
def after(st:bh)(s s':cI)(d:Option Nat)(r:ah):bh:={t:=eS d r st.t,b:=b0 s.b st.b++s'.b,e:=b0 s.e st.e++s'.e,n:=st.n,o:=st.o++cZ s'}
section
open Classical
noncomputable def a8.join(ν bg:a8)(s s':cI):a8:={A:=bg.A,bx:=fun k=>if(look k s.b).isSome∨(look k s'.b).isSome then bg.bx k else ν.bx k,ow:=fun k=>if(look k s.e).isSome∨(look k s'.e).isSome then bg.ow k else ν.ow k,tr:=fun k j b=>ν.tr k j b∨bg.tr k j b}
end
theorem cX.callK{C:fh}{st:bh}{a:Act}{w w':World}{ν bg:a8}(h:cX C st a w ν){s s':cI}(ae:gB (inObs s) s.b st.b)(he:nA (inObs s) s.e st.e)(uL:iE s)
  (aR:Good (fun bl=>fl (ν.cut (inObs s)) s bl∨w.heap.size≤bl) w' bg s'.b s'.e) {κ:Option Nat} (ab:Fm κ bg s') (af5:∀m,κ=some m→ν.bx (.loc m)=none∧ν.ow (.loc m)=none∧∀j b,¬ν.tr (.loc m) j b) {n':Nat} {o':List aJ} (dd:∀k,fresh n' o' k→fresh st.n (st.o++cZ s') k∧∀m,κ=some m→k≠ .loc m) (tf:iE s') (aO:pN ⟨w,ν.cut (inObs s),fl (ν.cut (inObs s)) s,0,cZ s⟩ w' bg)
  (KH:∀m,(look (.obj m) s'.b).isSome→(look (.obj m) s.b).isSome∨ .obj m∉st.o) (cD:∀m,(look (.obj m) s'.e).isSome→(look (.obj m) s.e).isSome∨ .obj m∉st.o) (d:Option Nat) (aE:jt C.N d=true) {r:ah} {v:Value} (aK:a6 w' bg r v):
  cX C {after st s s' d r with n:=n',o:=o'} (a.put d v) w' (ν.join bg s s'):=by
 have qV:∀k,(look k s.b).isSome→(look k st.b).isSome:=fun k ad=>by obtain⟨cs,df⟩:=fB.1 ad;simp[(ae k cs df).1]
 have lP:∀k,(look k s.e).isSome→(look k st.e).isSome:=fun k ad=>by obtain⟨cs,df⟩:=fB.1 ad;simp[(he k cs df).1]
 have afi:∀k,(look k s'.b).isSome→¬(look k s.b).isSome→ν.bx k=none:=fun k ad au=>by
  cases k with
  |loc m=>rw[tf.1 m]at ad;cases ad
  |obj m=>exact(h.new (.obj m) ⟨trivial,(KH m ad).resolve_left au⟩).1
 have afj:∀k,(look k s'.e).isSome→¬(look k s.e).isSome→ν.ow k=none:=fun k ad au=>by
  cases k with
  |loc m=>rw[tf.2 m]at ad;cases ad
  |obj m=>exact(h.new (.obj m) ⟨trivial,(cD m ad).resolve_left au⟩).2.1
 have agD:∀k,(look k s.b).isSome→(ν.join bg s s').bx k=bg.bx k:=fun k ad=>by simp[a8.join,ad]
 have T7:∀k,(look k s'.b).isSome→(ν.join bg s s').bx k=bg.bx k:=fun k ad=>by simp[a8.join,ad]
 have T8:∀k,ν.bx k≠none→¬(look k s.b).isSome→(ν.join bg s s').bx k=ν.bx k:=fun k J U=>by have ao:¬(look k s'.b).isSome:=fun ao=>J (afi k ao U);simp[a8.join,U,ao]
 have agE:∀k,(look k s.e).isSome→(ν.join bg s s').ow k=bg.ow k:=fun k ad=>by simp[a8.join,ad]
 have Ll:∀k,(look k s'.e).isSome→(ν.join bg s s').ow k=bg.ow k:=fun k ad=>by simp[a8.join,ad]
 have Lm:∀k,ν.ow k≠none→¬(look k s.e).isSome→(ν.join bg s s').ow k=ν.ow k:=fun k J U=>by have ao:¬(look k s'.e).isSome:=fun ao=>J (afj k ao U);simp[a8.join,U,ao]
 have Yy:∀k b,bg.bx k=some b→(look k s'.b).isSome:=fun k b ad=>by
  cases aq:look k s'.b with
  |some _=>rfl
  |none=>rw[(ab k).1 aq]at ad;cases ad
 have nE:∀k b,bg.ow k=some b→(look k s'.e).isSome:=fun k b ad=>by
  cases aq:look k s'.e with
  |some _=>rfl
  |none=>rw[(ab k).2.1 aq]at ad;cases ad
 have av:lD w ν w' (ν.join bg s s'):=by
  refine⟨fun b o ba=>aO.keep b o ba,fun k b _ ad=>?_,fun g n u _ aR=>?_,fun b o ba=>aO.sh b o ba,fun _ _ _ _ h=>.inl h⟩
  ·by_cases af:(look k s.b).isSome
   ·rw[agD k af];cases k with
    |loc m=>rw[uL.1 m]at af;cases af
    |obj m=>exact aO.obj m b (by rw[a8.cut_bx (.inl af)];exact ad)
   ·rw[T8 k (by rw[ad];simp) af];exact ad
  ·by_cases af:(look g s.e).isSome
   ·rw[agE g af];cases g with
    |loc m=>rw[uL.2 m]at af;cases af
    |obj m=>exact aO.row m n u (by rw[a8.cut_ow (.inr af)];exact aR)
   ·rw[Lm g (by rw[aR];simp) af];exact⟨n,u,aR,.inl ⟨rfl,rfl⟩⟩
 have hX:lD w' bg w' (ν.join bg s s'):=⟨fun b o ba=>⟨ba,rfl⟩,fun k b _ ad=>by rw[T7 k (Yy k b ad)];exact ad,fun g n u _ ad=>⟨n,u,by rw[Ll g (nE g _ ad)];exact ad,.inl ⟨rfl,rfl⟩⟩,fun _ _ _=>rfl,fun _ _ _ _ h=>.inr h⟩
 have pY:∀bl,fl (ν.cut (inObs s)) s bl→C.pr bl∧bl<w.heap.size:=by
  intro bl fD;rcases fD with⟨k,J,U⟩|⟨g,n,u,J,U,ao⟩
  ·have a1:=(a8.cut_some U).2;obtain⟨cs,df⟩:=fB.1 (qV k J);obtain⟨iA,us,el,g1,g2,_⟩:=h.good.box k cs df;rw[a1]at g1;cases g1;exact⟨g2,h.good.boxLt df a1⟩
  ·have a1:=(a8.cut_someO U).2;obtain⟨o,FY⟩:=fB.1 (lP g J);obtain⟨v',us,g1,g2,g3,_⟩:=h.good.own g o FY;rw[a1]at g1;cases g1;exact⟨(g3 bl ao).1,h.good.ownLt FY a1 ao⟩
 have Tw:∀bl,fl (ν.cut (inObs s)) s bl∨w.heap.size≤bl→C.pr bl:=fun bl fD=>by
  rcases fD with fD|fD
  ·exact(pY bl fD).1
  ·exact .inr (jR h.fr.size fD)
 have afG:∀k cs bl,look k st.b=some cs→¬(look k s.b).isSome→ν.bx k=some bl→¬fl (ν.cut (inObs s)) s bl:=by
  intro k cs bl J U ao a1;rcases a1 with⟨k',bt,a2⟩|⟨g,n,u,bt,a2,a3⟩
  ·have:=h.good.inj k k' bl (by simp[J]) (qV k' bt) ao (a8.cut_some a2).2;subst this;exact U bt
  ·exact h.good.obx g k n u bl (lP g bt) (by simp[J]) (a8.cut_someO a2).2 a3 ao
 have afH:∀g o n u bl,look g st.e=some o→¬(look g s.e).isSome→ν.ow g=some (n,u)→u.ownBlock=some bl→¬fl (ν.cut (inObs s)) s bl:=by
  intro g o n u bl J U ao a1 b2;rcases b2 with⟨k',bt,a2⟩|⟨e9,n',fc,bt,a2,a3⟩
  ·exact h.good.obx g k' n u bl (by simp[J]) (qV k' bt) ao a1 (a8.cut_some a2).2
  ·have:=h.good.oinj g e9 n n' u fc bl (by simp[J]) (lP e9 bt) ao (a8.cut_someO a2).2 a1 a3;subst this;exact U bt
 have QX:∀k cs,look k (b0 s.b st.b++s'.b)=some cs→(¬(look k s.b).isSome∧look k st.b=some cs)∨look k s'.b=some cs:=by
  intro k cs ad;rw[yn,u1]at ad;by_cases af:(look k s.b).isSome
  ·simp only[af,if_true]at ad;exact .inr ad
  ·simp only[af]at ad;cases aq:look k st.b with
   |some x=>simp[aq]at ad;subst ad;exact .inl ⟨af,rfl⟩
   |none=>simp[aq]at ad;exact .inr ad
 have QY:∀k cs,look k (b0 s.e st.e++s'.e)=some cs→(¬(look k s.e).isSome∧look k st.e=some cs)∨look k s'.e=some cs:=by
  intro k cs ad;rw[yn,u1]at ad;by_cases af:(look k s.e).isSome
  ·simp only[af,if_true]at ad;exact .inr ad
  ·simp only[af]at ad;cases aq:look k st.e with
   |some x=>simp[aq]at ad;subst ad;exact .inl ⟨af,rfl⟩
   |none=>simp[aq]at ad;exact .inr ad
 have Bo:∀bl,fl (ν.cut (inObs s)) s bl∨w.heap.size≤bl→∀iA,iA<w.heap.size→¬fl (ν.cut (inObs s)) s iA→bl≠iA:=by
  intro bl J iA U ao e;subst e;rcases J with J|J
  ·exact ao J
  ·omega
 have Lq:∀bl,bl<w.heap.size→¬fl (ν.cut (inObs s)) s bl→w'.heap[bl]? =w.heap[bl]?:=fun bl J U=>aO.block bl J U;have isB:∀k bl,(look k (b0 s.b st.b++s'.b)).isSome→(ν.join bg s s').bx k=some bl→(¬(look k s.b).isSome∧(look k st.b).isSome∧ν.bx k=some bl)∨((look k s'.b).isSome∧bg.bx k=some bl):=by
  intro k bl ad jT;obtain⟨cs,df⟩:=fB.1 ad;rcases QX k cs df with⟨J,U⟩|J
  ·obtain⟨iA,us,el,g1,_⟩:=h.good.box k cs U;rw[T8 k (by rw[g1];simp) J]at jT;exact .inl ⟨J,by simp[U],jT⟩
  ·rw[T7 k (by simp[J])]at jT;exact .inr ⟨by simp[J],jT⟩
 have Gk:∀k x,(look k (b0 s.e st.e++s'.e)).isSome→(ν.join bg s s').ow k=some x→(¬(look k s.e).isSome∧(look k st.e).isSome∧ν.ow k=some x)∨((look k s'.e).isSome∧bg.ow k=some x):=by
  intro k x ad jT;obtain⟨cs,df⟩:=fB.1 ad;rcases QY k cs df with⟨J,U⟩|J
  ·obtain⟨v',us,g1,_⟩:=h.good.own k cs U;rw[Lm k (by rw[g1];simp) J]at jT;exact .inl ⟨J,by simp[U],jT⟩
  ·rw[Ll k (by simp[J])]at jT;exact .inr ⟨by simp[J],jT⟩
 have BX:∀k bl,¬(look k s.b).isSome→(look k st.b).isSome→ν.bx k=some bl→bl<w.heap.size∧¬fl (ν.cut (inObs s)) s bl:=by intro k bl J U ao;obtain⟨cs,df⟩:=fB.1 U;exact⟨h.good.boxLt df ao,afG k cs bl df J ao⟩
 have yP:∀k n u bl,¬(look k s.e).isSome→(look k st.e).isSome→ν.ow k=some (n,u)→u.ownBlock=some bl→bl<w.heap.size∧¬fl (ν.cut (inObs s)) s bl:=by intro k n u bl J U ao a1;obtain⟨cs,df⟩:=fB.1 U;exact⟨h.good.ownLt df ao a1,afH k cs n u bl df J ao a1⟩
 have EO:∀k bl,(look k s'.b).isSome→bg.bx k=some bl→fl (ν.cut (inObs s)) s bl∨w.heap.size≤bl:=by intro k bl J U;obtain⟨cs,df⟩:=fB.1 J;obtain⟨iA,us,el,g1,g2,_⟩:=aR.box k cs df;rw[U]at g1;cases g1;exact g2
 have HK:∀k n u bl,(look k s'.e).isSome→bg.ow k=some (n,u)→u.ownBlock=some bl→fl (ν.cut (inObs s)) s bl∨w.heap.size≤bl:=by intro k n u bl J U ao;obtain⟨cs,df⟩:=fB.1 J;obtain⟨v',us,g1,g2,g3,_⟩:=aR.own k cs df;rw[U]at g1;cases g1;exact(g3 bl ao).1
 have ba:∀bl o,bg.A bl o→bl<w.heap.size→¬fl (ν.cut (inObs s)) s bl→ν.A bl o:=by
  intro bl o J U ao;rcases aO.fresh bl o J with a1|a1|a1
  ·exact a1
  ·exact absurd a1 ao
  ·simp only at a1;omega
 have oF:cX C {t:=st.t,b:=b0 s.b st.b++s'.b,e:=b0 s.e st.e++s'.e,n:=n',o:=o'} a w' (ν.join bg s s'):=by
  refine h.over av rfl ⟨aR.alt,fun k cs ad=>?_,fun k k' bl J U ao a1=>?_,fun g o eD=>?_,fun g e9 n n' u fc bl J U ao a1 b2 dc=>?_,fun g k n u bl J U ao a1 b2=>?_,fun k=>?_,fun bl aL k j lQ=>?_⟩
   ⟨aO.os.trans h.fr.os,aO.tape.trans h.fr.tape,aO.output.trans h.fr.output,jR h.fr.size aO.size,fun k ad hm=>?_,fun b o rJ=>?_,fun b o rJ=>?_,fun n b au=>av.bx _ _ trivial (h.fr.obj n b au),h.fr.obn,
    fun m n u hm=>DV (h.fr.row m n u hm) (fun n u=>av.ow _ n u trivial),h.fr.obr,fun k j k' dB b J U=>?_,fun k j b ae=>?_,fun k j b ae=>?_,fun b o ba=>(av.sh b o (h.fr.keep b o ba).1).trans (h.fr.sh b o ba)⟩ (fun k ad=>?_)
  ·rcases QX k cs ad with⟨J,U⟩|J
   ·obtain⟨bl,us,el,g1,g2,g3,g4,g5⟩:=h.good.box k cs U;obtain⟨bM,bO⟩:=BX k bl J (by simp[U]) g1;exact⟨bl,us,el,av.bx _ _ trivial g1,g2,fun o rJ=>g3 o (ba bl o rJ bM bO),by rw[Lq bl bM bO];exact g4,qh av g5⟩
   ·obtain⟨bl,us,el,g1,g2,g3,g4,g5⟩:=aR.box k cs J;exact⟨bl,us,el,hX.bx _ _ trivial g1,Tw bl g2,g3,g4,qh hX g5⟩
  ·rcases isB k bl J ao with⟨bt,a2,a3⟩|⟨bt,a2⟩<;>rcases isB k' bl U a1 with⟨bM,bO,gg⟩|⟨bM,bO⟩
   ·exact h.good.inj k k' bl a2 bO a3 gg
   ·obtain⟨bQ,cp⟩:=BX k bl bt a2 a3;exact absurd rfl (Bo bl (EO k' bl bM bO) bl bQ cp)
   ·obtain⟨bQ,cp⟩:=BX k' bl bM bO gg;exact absurd rfl (Bo bl (EO k bl bt a2) bl bQ cp)
   ·exact aR.inj k k' bl bt bM a2 bO
  ·rcases QY g o eD with⟨J,U⟩|J
   ·obtain⟨u,us,g1,g2,g3,g4⟩:=h.good.own g o U;refine⟨u,us,by rw[Lm g (by rw[g1];simp) J];exact g1,⟨g2.1,?_⟩,fun bl fD=>?_,sl av (fun bl fD j rJ=>?_) g4⟩
    ·rcases g2.2 with ax|⟨bb,cap,cur,f1,f2,f3,f4⟩
     ·exact .inl ax
     ·obtain⟨bM,bO⟩:=yP g _ u bb J (by simp[U]) g1 (by rw[f1];rfl);exact .inr ⟨bb,cap,cur,f1,f2,by rw[Lq bb bM bO];exact f3,f4⟩
    ·obtain⟨bM,bO⟩:=yP g _ u bl J (by simp[U]) g1 fD;exact⟨(g3 bl fD).1,fun j rJ=>(g3 bl fD).2 j (ba bl j rJ bM bO)⟩
    ·obtain⟨bM,bO⟩:=yP g _ u bl J (by simp[U]) g1 fD;exact ba bl j rJ bM bO
   ·obtain⟨u,us,g1,g2,g3,g4⟩:=aR.own g o J;exact⟨u,us,by rw[Ll g (by simp[J])];exact g1,g2,fun bl fD=>⟨Tw bl (g3 bl fD).1,(g3 bl fD).2⟩,sl hX (fun _ _ _ h=>h) g4⟩
  ·rcases Gk g _ J ao with⟨bt,a2,a3⟩|⟨bt,a2⟩<;>rcases Gk e9 _ U a1 with⟨bM,bO,gg⟩|⟨bM,bO⟩
   ·exact h.good.oinj g e9 n n' u fc bl a2 bO a3 gg b2 dc
   ·obtain⟨bQ,cp⟩:=yP g n u bl bt a2 a3 b2;exact absurd rfl (Bo bl (HK e9 n' fc bl bM bO dc) bl bQ cp)
   ·obtain⟨bQ,cp⟩:=yP e9 n' fc bl bM bO gg dc;exact absurd rfl (Bo bl (HK g n u bl bt a2 b2) bl bQ cp)
   ·exact aR.oinj g e9 n n' u fc bl bt bM a2 bO b2 dc
  ·rcases Gk g _ J ao with⟨bt,a2,a3⟩|⟨bt,a2⟩<;>rcases isB k bl U b2 with⟨bM,bO,gg⟩|⟨bM,bO⟩
   ·exact h.good.obx g k n u bl a2 bO a3 a1 gg
   ·obtain⟨bQ,cp⟩:=yP g n u bl bt a2 a3 a1;exact absurd rfl (Bo bl (EO k bl bM bO) bl bQ cp)
   ·obtain⟨bQ,cp⟩:=BX k bl bM bO gg;exact absurd rfl (Bo bl (HK g n u bl bt a2 a1) bl bQ cp)
   ·exact aR.obx g k n u bl bt bM a2 a1 bO
  ·
   cases jT:(ν.join bg s s').bx k with
   |none=>exact .inl rfl
   |some bl=>
    right;cases CN:(ν.join bg s s').ow k with
    |none=>rfl
    |some x=>
     exfalso;have ai:(ν.bx k=some bl∧¬(look k s.b).isSome∧¬(look k s'.b).isSome)∨bg.bx k=some bl:=by
      by_cases af:(look k s.b).isSome∨(look k s'.b).isSome
      ·right;simpa[a8.join,af]using jT
      ·left;simp only[not_or]at af;exact⟨by simpa[a8.join,af.1,af.2]using jT,af.1,af.2⟩
     have ax:(ν.ow k=some x∧¬(look k s.e).isSome∧¬(look k s'.e).isSome)∨bg.ow k=some x:=by
      by_cases af:(look k s.e).isSome∨(look k s'.e).isSome
      ·right;simpa[a8.join,af]using CN
      ·left;simp only[not_or]at af;exact⟨by simpa[a8.join,af.1,af.2]using CN,af.1,af.2⟩
     rcases ai with⟨bt,a2,a3⟩|bt<;>rcases ax with⟨bM,bO,gg⟩|bM
     ·rcases h.good.one k with cU|cU
      ·rw[cU]at bt;cases bt
      ·rw[cU]at bM;cases bM
     ·have uI:=nE k x bM;have fk:(look k s.e).isSome:=by
       cases k with
       |loc m=>rw[tf.2 m]at uI;cases uI
       |obj m=>
        rcases cD m uI with cU|cU
        ·exact cU
        ·rw[(h.new (.obj m) ⟨trivial,cU⟩).1]at bt;cases bt
      obtain⟨o,FY⟩:=fB.1 (lP k fk);obtain⟨v',us,g1,_⟩:=h.good.own k o FY;rcases h.good.one k with cU|cU
      ·rw[cU]at bt;cases bt
      ·rw[cU]at g1;cases g1
     ·have xV:=Yy k bl bt;have fk:(look k s.b).isSome:=by
       cases k with
       |loc m=>rw[tf.1 m]at xV;cases xV
       |obj m=>
        rcases KH m xV with cU|cU
        ·exact cU
        ·rw[(h.new (.obj m) ⟨trivial,cU⟩).2.1]at bM;cases bM
      obtain⟨cs,df⟩:=fB.1 (qV k fk);obtain⟨iA,us,el,g1,_⟩:=h.good.box k cs df;rcases h.good.one k with cU|cU
      ·rw[cU]at g1;cases g1
      ·rw[cU]at bM;cases bM
     ·rcases aR.one k with cU|cU
      ·rw[cU]at bt;cases bt
      ·rw[cU]at bM;cases bM
  ·have Tm:∀k j,bg.tr k j bl→w.heap.size≤bl:=fun k j cU=>by
    rcases(aO.trb k j bl cU).1 with a2|a2
    ·obtain⟨m,_,hm⟩:=(ab k).2.2 j bl cU;rw[hm]at a2;cases a2
    ·exact a2
   have hold:fl (ν.cut (inObs s)) s bl→¬ν.tr k j bl:=by
    rintro(⟨k',bt,a2⟩|⟨g,n,u,bt,a2,a3⟩) cU
    ·exact h.good.otr bl (.inl ⟨k',qV k' bt,(a8.cut_some a2).2⟩) k j cU
    ·exact h.good.otr bl (.inr ⟨g,n,u,lP g bt,(a8.cut_someO a2).2,a3⟩) k j cU
   have iT:fl (ν.cut (inObs s)) s bl∨w.heap.size≤bl→¬ν.tr k j bl:=by
    rintro(J|J) cU
    ·exact hold J cU
    ·have:=(h.fr.trb k j bl cU).2;omega
   rcases aL with⟨k',bt,a2⟩|⟨g,n,u,bt,a2,a3⟩
   ·rcases isB k' bl bt a2 with⟨bM,bO,gg⟩|⟨bM,bO⟩
    ·rcases lQ with lQ|lQ
     ·exact h.good.otr bl (.inl ⟨k',bO,gg⟩) k j lQ
     ·have:=(BX k' bl bM bO gg).1;have:=Tm k j lQ;omega
    ·rcases lQ with lQ|lQ
     ·exact iT (EO k' bl bM bO) lQ
     ·exact aR.otr bl (.inl ⟨k',bM,bO⟩) k j lQ
   ·rcases Gk g _ bt a2 with⟨bM,bO,gg⟩|⟨bM,bO⟩
    ·rcases lQ with lQ|lQ
     ·exact h.good.otr bl (.inr ⟨g,n,u,bO,gg,a3⟩) k j lQ
     ·have:=(yP g n u bl bM bO gg a3).1;have:=Tm k j lQ;omega
    ·rcases lQ with lQ|lQ
     ·exact iT (HK g n u bl bM bO a3) lQ
     ·exact aR.otr bl (.inr ⟨g,n,u,bM,bO,a3⟩) k j lQ
  ·have bm:k<w.heap.size:=Nat.lt_of_lt_of_le ad h.fr.size;rw[Lq k bm fun fD=>by
    rcases(pY k fD).1 with J|J
    ·exact hm J
    ·omega]
   exact h.fr.block k ad hm
  ·obtain⟨aS,bc⟩:=h.fr.keep b o rJ;obtain⟨bT,dI⟩:=aO.keep b o aS;exact⟨bT,dI.trans bc⟩
  ·rcases aO.fresh b o rJ with a1|a1|a1
   ·exact h.fr.fresh b o a1
   ·exact .inr (pY b a1).1
   ·exact .inr (.inr (jR h.fr.size a1))
  ·rcases J with J|J<;>rcases U with U|U
   ·exact h.fr.trd k j k' dB b J U
   ·have bt:=(h.fr.trb k j b J).2;have a2:=(aO.trb k' dB b U).1;rcases a2 with a2|a2
    ·obtain⟨m,_,hm⟩:=(ab k').2.2 dB b U;rw[hm]at a2;cases a2
    ·simp only at a2;omega
   ·have bt:=(h.fr.trb k' dB b U).2;have a2:=(aO.trb k j b J).1;rcases a2 with a2|a2
    ·obtain⟨m,_,hm⟩:=(ab k).2.2 j b J;rw[hm]at a2;cases a2
    ·simp only at a2;omega
   ·exact aO.trd k j k' dB b J U
  ·rcases ae with ae|ae
   ·exact⟨(h.fr.trb k j b ae).1,Nat.lt_of_lt_of_le (h.fr.trb k j b ae).2 aO.size⟩
   ·refine⟨.inr ?_,(aO.trb k j b ae).2⟩;rcases(aO.trb k j b ae).1 with a2|a2
    ·obtain⟨m,_,hm⟩:=(ab k).2.2 j b ae;rw[hm]at a2;cases a2
    ·exact jR h.fr.size a2
  ·have key:ν.bx k=none∧ν.ow k=none∧¬(look k s'.b).isSome∧¬(look k s'.e).isSome:=by
    rcases ae with ae|ae
    ·obtain⟨t1,t2⟩:=h.fr.trn k j b ae;refine⟨t1,t2,fun cU=>?_,fun cU=>?_⟩
     ·cases k with
      |loc m=>rw[tf.1 m]at cU;cases cU
      |obj m=>
       rcases KH m cU with b2|b2
       ·obtain⟨cs,df⟩:=fB.1 (qV _ b2);obtain⟨iA,us,el,g1,_⟩:=h.good.box _ cs df;rw[t1]at g1;cases g1
       ·exact(h.new (.obj m) ⟨trivial,b2⟩).2.2 j b ae
     ·cases k with
      |loc m=>rw[tf.2 m]at cU;cases cU
      |obj m=>
       rcases cD m cU with b2|b2
       ·obtain⟨cs,df⟩:=fB.1 (lP _ b2);obtain⟨iA,us,g1,_⟩:=h.good.own _ cs df;rw[t2]at g1;cases g1
       ·exact(h.new (.obj m) ⟨trivial,b2⟩).2.2 j b ae
    ·obtain⟨m,hm,rfl⟩:=(ab k).2.2 j b ae;obtain⟨t1,t2,_⟩:=af5 m hm;exact⟨t1,t2,by simp[tf.1 m],by simp[tf.2 m]⟩
   obtain⟨t1,t2,t3,t4⟩:=key;have t5:¬(look k s.b).isSome:=fun cU=>by obtain⟨cs,df⟩:=fB.1 (qV _ cU);obtain⟨iA,us,el,g1,_⟩:=h.good.box _ cs df;rw[t1]at g1;cases g1
   have t6:¬(look k s.e).isSome:=fun cU=>by obtain⟨cs,df⟩:=fB.1 (lP _ cU);obtain⟨iA,us,g1,_⟩:=h.good.own _ cs df;rw[t2]at g1;cases g1
   exact⟨by simp[a8.join,t3,t5,t1],by simp[a8.join,t4,t6,t2]⟩
  ·
   simp only at ad;obtain⟨ad,ae0⟩:=dd k ad;have Tr:(∀j b,¬ν.tr k j b)→∀j b,¬(ν.join bg s s').tr k j b:=fun J j b ae=>by
    rcases ae with ae|ae
    ·exact J j b ae
    ·obtain⟨m,hm,e⟩:=(ab k).2.2 j b ae;exact ae0 m hm e
   cases k with
   |loc m=>obtain⟨hA,fN,h1⟩:=h.new (.loc m) (J1 (ff _) (fun _ h=>List.mem_append_left _ h) ad);exact⟨by simp[a8.join,uL.1 m,tf.1 m,hA],by simp[a8.join,uL.2 m,tf.2 m,fN],Tr h1⟩
   |obj m=>
    simp only[fresh,iH,not_or,true_and]at ad;obtain⟨hA,fN,h1⟩:=h.new (.obj m) ⟨trivial,ad.1⟩;have aV:¬(look (.obj m) s'.b).isSome:=fun cU=>ad.2 (tE (.inl cU));have bf:¬(look (.obj m) s'.e).isSome:=fun cU=>ad.2 (tE (.inr cU));have bI:¬(look (.obj m) s.b).isSome:=fun cU=>by obtain⟨cs,df⟩:=fB.1 (qV _ cU);obtain⟨iA,us,el,g1,_⟩:=h.good.box _ cs df;rw[hA]at g1;cases g1
    have cN:¬(look (.obj m) s.e).isSome:=fun cU=>by obtain⟨cs,df⟩:=fB.1 (lP _ cU);obtain⟨v',us,g1,_⟩:=h.good.own _ cs df;rw[fN]at g1;cases g1
    exact⟨by simp[a8.join,aV,bI,hA],by simp[a8.join,bf,cN,fN],Tr h1⟩
 exact oF.put aE (yN hX aK)
inductive ed where
 |s (i:eh)
 |call (d:Option Nat) (f:dq) (xs:List dq)
 |next (d:Nat) (x:dq)
structure c5 where
 g:Option (Nat×Bool)
 i:ed
def eh.dst:eh→Option Nat
 | .v d _| .box d _ _| .alloc d _ _| .bsl d _ _ _| .app d _ _ _ _| .bslm d _ _ _ _| .appm d _ _ _ _ _| .mkmap d _| .range d _ _| .mks d _ _ _ _ _=>some d
 | .store _ _ _| .mput _ _ _ _| .storeE _ _ _=>none
def ed.dst:ed→Option Nat
 | .s i=>i.dst
 | .call d _ _=>d
 | .next d _=>some d
def cM(P:cA)(n:Nat)(args:List ah)(st:bh)(d:Option Nat)(K:bh→Prop):Prop:=
 (∃s Q,gB (inObs s) s.b st.b∧nA (inObs s) s.e st.e∧iE s∧aN (inObs s) args∧bC P n args s Q∧
  ∀r s',Q r s'→((∀m,(look (.obj m) s'.b).isSome→(look (.obj m) s.b).isSome∨ .obj m∉st.o)∧(∀m,(look (.obj m) s'.e).isSome→(look (.obj m) s.e).isSome∨ .obj m∉st.o))∧K (after st s s' d r))∨
 (∃s Q,gB (inObs s) s.b st.b∧nA (inObs s) s.e st.e∧iE s∧aN (inObs s) args∧ .loc st.n∉st.o∧Is P n st.n args s Q∧
  ∀r s',Q r s'→((∀m,(look (.obj m) s'.b).isSome→(look (.obj m) s.b).isSome∨ .obj m∉st.o)∧(∀m,(look (.obj m) s'.e).isSome→(look (.obj m) s.e).isSome∨ .obj m∉st.o))∧K {after st s s' d r with n:=st.n+1})
def L1(st:bh)(d:Nat)(fp mk:aJ)(since:Nat)(seen:List Nat)(last clock:Nat)(borns:List Nat)(kvs:List ah)(K:bh→Prop):Prop:=
 (since=clock∧last=clock)∧((∀b∈borns,b∈seen)→K {st with t:=put d (.tuple [.bool false]) st.t})∧
 (∀b k v,mJ b borns kvs=some (.tuple [k,v])→b∉seen→K {st with t:=put d (.tuple [.bool true,k,v]) st.t,b:=cu fp [.hdi since (seen++[b]) last,.gmap mk] st.b})
def sT(st:bh)(d:Nat)(v:ah)(K:bh→Prop):Prop:=
 match v with
 | .ptr fp 0=>match look fp st.b with
  |some [.hdi since seen last,.gmap mk]=>match look mk st.b with
   |some (.hdm clock borns::kvs)=>L1 st d fp mk since seen last clock borns kvs K
   |_=>ep
  |_=>ep
 |_=>ep
def uo(P:cA)(st:bh)(K:bh→Prop):ed→Prop
 | .next d x=>sT st d (cj st.t x) K
 | .s i=>match mg st i with
  |some (c,st')=>c∧K st'
  |none=>ep
 | .call d f xs=>match cj st.t f with
  | .func n dj=>cM P n (di (xs.map (cj st.t)++dj)) st d K
  |_=>ep
def h8(P:cA):List c5→bh→(bh→Prop)→Prop
 |[],st,K=>K st
 |⟨none,i⟩::r,st,K=>uo P st (fun st'=>h8 P r st' K) i
 |⟨some (s,want),i⟩::r,st,K=>match get s st.t with
  | .bool b=>(b=want→uo P {st with t:=put s (.bool want) st.t} (fun st'=>h8 P r st' K) i)∧(b= !want→h8 P r {st with t:=eS i.dst (.tuple []) (put s (.bool !want) st.t)} K)
  | .tuple []=>h8 P r {st with t:=eS i.dst (.tuple []) st.t} K
  |_=>ep
def vb(N:Nat)(bs:List (Nat×dx))(i:ed)(o:Oper):Bool:=
 match i with
 | .s i=>DX N bs i o
 | .next d x=>match o.op with
  | .next it false=>o.dst==some d&&decide (d<N)&&ee x it
  |_=>false
 | .call d f xs=>match o.op with
  | .call ⟨.value rC,args,_⟩=>o.dst==d&&jt N d&&ee f rC&&yB xs args.toList
  |_=>false
def Cj(N:Nat)(bs:List (Nat×dx))(ops:List Oper)(g:c5)(o:Oper):Bool:=
 (match g.g,o.guard with
  |none,none=>true
  |some (s,b),some (j,bV)=>b==bV&&((ops[j]?).bind (·.dst))==some s&&decide (s<N)&&o.dst==g.i.dst&&jt N g.i.dst
  |_,_=>false)&&vb N bs g.i o
def kv(N:Nat)(bs:List (Nat×dx))(ops:List Oper):List c5→List Oper→Bool
 |[],[]=>true
 |g::gs,o::os=>Cj N bs ops g o&&kv N bs ops gs os
 |_,_=>false
theorem W4{w:World}{ν:a8}:∀{cq bz:List ah} {a7 us:List Value},cK w ν cq a7→cK w ν bz us→cK w ν (cq++bz) (a7++us)
 |[],bz,a7,us,h,cr=>by simp only[cK]at h;subst h;simpa using cr
 |p::cq,bz,a7,us,h,cr=>by simp only[cK]at h;obtain⟨u,b8,rfl,J,U⟩:=h;simp only[bR,cK];exact⟨u,_,rfl,J,W4 U cr⟩
theorem xf.mono{P:cA}{f:FuncId}{a7:Array Value}{w:World}{R Om:Ending→World→Prop}(h:xf P f a7 w R)(bH:∀e w',R e w'→Om e w'):xf P f a7 w Om:=by
 rcases h with⟨J,U⟩|⟨v,w',J,U⟩
 ·exact .inl ⟨J,U.mono bH⟩
 ·exact .inr ⟨v,w',J,bH _ _ U⟩
theorem QV{P:cA}{C:fh}{st:bh}{a:Act}{w:World}{ν:a8}(aK:cX C st a w ν){o:Oper}{rC:Operand}{args:Array Operand}{Bq:Array gL}(nm:o.op= .call ⟨.value rC,args,Bq⟩){d:Option Nat}(aE:o.dst=d)(xS:jt C.N d=true)
  {n:Nat} {dj:List ah} (aO:a6 w ν (.func n dj) (a.eval rC)) {cq:List ah} (uz:cK w ν cq (args.toList.map a.eval)) {K:bh→Prop}
  (ar:∃(s:cI) (qz:ah→cI→Prop) (κ:Option Nat) (n':Nat) (o':cI→List aJ),gB (inObs s) s.b st.b∧nA (inObs s) s.e st.e∧iE s∧aN (inObs s) (di (cq++dj))∧(∀(w:World) (ν:a8) (a7:Array Value),Good (fl ν s) w ν s.b s.e→ov ν s→cK w ν (di (cq++dj)) a7.toList→
   xf P n a7 w fun e w'=> ∃v r s' bg,e= .returned v∧qz r s'∧a6 w' bg r v∧Good (fun bl=>fl ν s bl∨w.heap.size≤bl) w' bg s'.b s'.e∧Fm κ bg s'∧iE s'∧pN ⟨w,ν,fl ν s,0,cZ s⟩ w' bg)∧
   (∀m,κ=some m→fresh st.n st.o (.loc m))∧(∀k r s',qz r s'→fresh n' (o' s') k→fresh st.n (st.o++cZ s') k∧∀m,κ=some m→k≠ .loc m)∧
   ∀r s',qz r s'→((∀m,(look (.obj m) s'.b).isSome→(look (.obj m) s.b).isSome∨ .obj m∉st.o)∧(∀m,(look (.obj m) s'.e).isSome→(look (.obj m) s.e).isSome∨ .obj m∉st.o))∧K {after st s s' d r with n:=n',o:=o' s'})
  {rp:Act→World→Prop} {Q:Exit→Act→World→Prop} (c3:∀st' be w' bg,K st'→cX C st' be w' bg→rp be w'):o.wp P a w rp Q:=by
 obtain⟨s,qz,κ,n',o',bQ,cp,ds,j7,kT,Q8,Q1,oj⟩:=ar;simp only[a6]at aO;obtain⟨us,aI,hu⟩:=aO;have lO:cK w (ν.cut (inObs s)) (di (cq++dj)) ((args.map a.eval)++us).toList:=by refine yM (od.cut _ w ν) _ _ j7 (HC _ _ ?_);simpa using W4 uz hu
 have rQ:Good (fl (ν.cut (inObs s)) s) w (ν.cut (inObs s)) s.b s.e:=aK.good.cut bQ cp (fun bl _ h=>h);have hex:ov (ν.cut (inObs s)) s:=by
  intro k;refine⟨?_,?_,?_⟩;rotate_left 2
  ·rintro j b ⟨af,ae⟩;obtain⟨t1,t2⟩:=aK.fr.trn k j b ae;rcases af with af|af<;>obtain⟨x,ab⟩:=fB.1 af
   ·obtain⟨bl,b8,el,ai,_⟩:=aK.good.box k x (bQ k x ab).1;rw[t1]at ai;cases ai
   ·obtain⟨v',b8,ai,_⟩:=aK.good.own k x (cp k x ab).1;rw[t2]at ai;cases ai
  ·intro aq;by_cases af:inObs s k
   ·rw[a8.cut_bx af];rcases af with af|af
    ·rw[aq]at af;cases af
    ·obtain⟨x,ab⟩:=fB.1 af;obtain⟨v',b8,ai,_⟩:=aK.good.own k x (cp k x ab).1;rcases aK.good.one k with J|J
     ·exact J
     ·rw[J]at ai;cases ai
   ·exact(a8.cut_no af).1
  ·intro aq;by_cases af:inObs s k
   ·rw[a8.cut_ow af];rcases af with af|af
    ·obtain⟨x,ab⟩:=fB.1 af;obtain⟨bl,b8,el,ai,_⟩:=aK.good.box k x (bQ k x ab).1;rcases aK.good.one k with J|J
     ·rw[J]at ai;cases ai
     ·exact J
    ·rw[aq]at af;cases af
   ·exact(a8.cut_no af).2.1
 rcases kT w (ν.cut (inObs s)) ((args.map a.eval)++us) rQ hex lO with⟨⟨fn,g1,g2,g3⟩,kT⟩|⟨v,w',kT,bB⟩
 ·obtain⟨code,aev⟩:=fB.1 g2;have im:(execOp a.eval o).run P w= .ok (.enter n ((args.map a.eval)++us)) w:=by obtain⟨dst,op,ty,pos,Oy,vR⟩:=o;simp only at nm;subst nm;simp only[execOp,resolve,aI,Deferred.ofValue,fI,gq,fQ,invoke,callFunc,run_program,g1,g3,aev];simp
  unfold Oper.wp;rw[im];simp only[Oper.upon];refine kT.mono fun e w' bB=>?_;obtain⟨v,r,s',bg,rfl,bu,aV,bf,bI,cN,c6⟩:=bB;obtain⟨⟨hA,fN⟩,ad⟩:=oj r s' bu;rw[aE];exact c3 _ _ _ _ ad (aK.callK bQ cp ds bf bI (fun m hm=>aK.new _ (Q8 m hm)) (n':=n') (o':=o' s') (fun k ad=>Q1 k r s' bu ad) cN c6 hA fN d xS aV)
 ·have im:(execOp a.eval o).run P w= .ok (.value v) w':=by obtain⟨dst,op,ty,pos,Oy,vR⟩:=o;simp only at nm;subst nm;simp only[execOp,resolve,aI,Deferred.ofValue,fI,gq,fQ,invoke];simpa using kT
  obtain⟨v2,r,s',bg,CX,bu,aV,bf,bI,cN,c6⟩:=bB;cases CX;obtain⟨⟨hA,fN⟩,ad⟩:=oj r s' bu;refine mj im ?_;rw[aE];exact c3 _ _ _ _ ad (aK.callK bQ cp ds bf bI (fun m hm=>aK.new _ (Q8 m hm)) (n':=n') (o':=o' s') (fun k ad=>Q1 k r s' bu ad) cN c6 hA fN d xS aV)
theorem QU{P:cA}{C:fh}{st:bh}{a:Act}{w:World}{ν:a8}(aK:cX C st a w ν){o:Oper}{rC:Operand}{args:Array Operand}{Bq:Array gL}(nm:o.op= .call ⟨.value rC,args,Bq⟩){d:Option Nat}(aE:o.dst=d)(xS:jt C.N d=true)
  {n:Nat} {dj:List ah} (aO:a6 w ν (.func n dj) (a.eval rC)) {cq:List ah} (uz:cK w ν cq (args.toList.map a.eval)) {K:bh→Prop} (ar:cM P n (di (cq++dj)) st d K)
  {rp:Act→World→Prop} {Q:Exit→Act→World→Prop} (c3:∀st' be w' bg,K st'→cX C st' be w' bg→rp be w'):o.wp P a w rp Q:=by
 refine QV aK nm aE xS aO uz (K:=K) ?_ c3;rcases ar with⟨s,qz,bQ,cp,ds,j7,kT,oj⟩|⟨s,qz,bQ,cp,ds,j7,ks,kT,oj⟩
 ·refine⟨s,qz,none,st.n,fun s'=>st.o++cZ s',bQ,cp,ds,j7,fun w ν a7 J U ao=>(kT w ν a7 J U ao).mono fun e w' bB=>?_,fun m hm=>(by cases hm),fun k _ s' _ ad=>⟨ad,fun m hm=>by cases hm⟩,oj⟩;obtain⟨v,r,s',bg,g1,g2,g3,g4,g5,g6⟩:=bB;exact⟨v,r,s',bg,g1,g2,g3,g4,g5.k,g6⟩
 ·refine⟨s,qz,some st.n,st.n+1,fun s'=>st.o++cZ s',bQ,cp,ds,j7,kT,fun m hm=>(by cases hm;exact⟨ff _,ks⟩),fun k _ s' _ ad=>⟨J1 (Nat.le_succ _) (fun _ h=>h) ad,fun m hm=>?_⟩,oj⟩;cases hm;rintro rfl;have:=ad.1;simp only at this;omega
theorem cX.drawn{C:fh}{st:bh}{a:Act}{w:World}{ν:a8}(aK:cX C st a w ν)(n:Nat):cX C st a {w with drawn:=n} ν:=by
 have kW:lD w ν {w with drawn:=n} ν:=⟨fun _ _ h=>⟨h,rfl⟩,fun _ _ _ h=>h,fun _ n u _ h=>⟨n,u,h,.inl ⟨rfl,rfl⟩⟩,fun _ _ _=>rfl,fun _ _ _ _ h=>h⟩;refine aK.over kW rfl ⟨aK.good.alt,fun k cs ad=>?_,aK.good.inj,fun g o aR=>?_,aK.good.oinj,aK.good.obx,aK.good.one,aK.good.otr⟩ ⟨aK.fr.os,aK.fr.tape,aK.fr.output,aK.fr.size,aK.fr.block,aK.fr.keep,aK.fr.fresh,aK.fr.obj,aK.fr.obn,aK.fr.row,aK.fr.obr,aK.fr.trd,aK.fr.trb,aK.fr.trn,aK.fr.sh⟩ aK.new
 ·obtain⟨bl,us,el,J,U,ao,a1,b2⟩:=aK.good.box k cs ad;exact⟨bl,us,el,J,U,ao,a1,qh kW b2⟩
 ·obtain⟨v,us,J,U,ao,a1⟩:=aK.good.own g o aR;exact⟨v,us,J,U,ao,sl kW (fun _ _ _ h=>h) a1⟩
theorem acX{α:Type}{l:List α}{p:α→Bool}(h:∀x∈l,p x=false):l.filter p=[]:=by rw[List.filter_eq_nil_iff];intro x ab;simp[h x ab]
theorem acW{α:Type}{l:List α}{p:α→Bool}(h:∀x∈l,p x=true):l.filter p=l:=List.filter_eq_self.2 h
def GS(r m since clock:Nat)(seen:Array Nat)(QW:Array (Option MapEntry)):Sem Value:=do
 match QW[←choose (.mapNext QW.size)]? with
 |some (some e)=>
  setObj r (.mapIter (some m) since (seen.push e.born) clock)
  pure (.tuple #[.bool true,e.key,e.val])
 |some none=>pure (.tuple #[.bool false])
 |none=>stuck "Next: no such candidate"
theorem Xf{P:cA}{w:World}(r m since clock:Nat)(seen:Array Nat)(l:List (Option MapEntry))(aq:l≠[]):∃n x,x∈l∧(GS r m since clock seen l.toArray).run P w=
  (match x with|some e=>(do setObj r (.mapIter (some m) since (seen.push e.born) clock);pure (.tuple #[.bool true,e.key,e.val]):Sem Value)|none=>pure (.tuple #[.bool false])).run P {w with drawn:=n}:=by
 have fE:0<l.length:=List.length_pos_iff.2 aq;unfold GS;have key:∀i,i<l.length→∀w',((do match(l.toArray[i]?:Option (Option MapEntry))with
   |some (some e)=>setObj r (.mapIter (some m) since (seen.push e.born) clock);pure (.tuple #[.bool true,e.key,e.val])
   |some none=>pure (.tuple #[.bool false])
   |none=>stuck "Next: no such candidate" :Sem Value)).run P w'=((match l[i]! with|some e=>(do setObj r (.mapIter (some m) since (seen.push e.born) clock);pure (.tuple #[.bool true,e.key,e.val]):Sem Value)|none=>pure (.tuple #[.bool false]))).run P w':=by
  intro i hi w';have J:l.toArray[i]? =some l[i]!:=by simp[hi]
  rw[J];cases l[i]!<;>rfl
 by_cases aO:(Question.mapNext l.length).forced=true
 ·refine⟨w.drawn,l[0]!,by simp[fE],?_⟩;rw[←key 0 fE];have ar:(choose (.mapNext l.length):Sem Nat).run P w= .ok 0 w:=by simp[aO]
  simp only[List.size_toArray,fI,ar,fQ]
 ·refine⟨w.drawn+1,l[(w.tape w.drawn (.mapNext l.length))%l.length]!,by simp[Nat.mod_lt _ fE],?_⟩;rw[←key _ (Nat.mod_lt _ fE)];have ar:(choose (.mapNext l.length):Sem Nat).run P w= .ok ((w.tape w.drawn (.mapNext l.length))%l.length) {w with drawn:=w.drawn+1}:=by simp[aO,Question.cut]
  simp only[List.size_toArray,fI,ar,fQ]
theorem akV{P:cA}{w:World}{bl mb:Nat}{seen:List Nat}{es:List MapEntry}{clock:Nat}{ty:gL}(J:w.heap[bl]? =some (.mapIter (some mb) clock seen.toArray clock))(U:w.heap[mb]? =some (.map es.toArray clock))(bm:∀e∈es,e.born<clock):
  ∃n,((∀e∈es,e.born∈seen)∧(Instr.next (.pointer (some ⟨bl,0,none⟩)) false ty).run P w= .ok (.tuple #[.bool false]) {w with drawn:=n})∨
   ∃e∈es,e.born∉seen∧(Instr.next (.pointer (some ⟨bl,0,none⟩)) false ty).run P w= .ok (.tuple #[.bool true,e.key,e.val]) {w with drawn:=n,heap:=w.heap.setIfInBounds bl (.mapIter (some mb) clock (seen++[e.born]).toArray clock)}:=by
 have gF:(!seen.toArray.isEmpty&& !es.toArray.isEmpty&&es.toArray.all (fun e=>decide (e.born≥clock)))=false:=by
  cases es with
  |nil=>simp
  |cons e r=>have:=bm e (by simp);simp;intro _ h;omega
 generalize hg:(es.filter fun e=> !seen.contains e.born)=left;have ae6:(es.toArray.filter fun e=> !seen.toArray.contains e.born)=left.toArray:=by rw[←hg];simp
 have jH:∀e∈left,e∈es∧e.born∉seen:=fun e he=>by rw[←hg]at he;have:=ha.1 he;exact⟨this.1,by simpa using this.2⟩
 have hold:(left.toArray.filter fun e=>decide (e.born<clock))=left.toArray:=by rw[List.filter_toArray,acW];intro e he;have:=bm e (jH e he).1;simp[this]
 have iT:(left.toArray.filter fun e=>decide (e.born≥clock))= #[]:=by rw[List.filter_toArray,acX];intro e he;have:=bm e (jH e he).1;simp;omega
 have im:(Instr.next (.pointer (some ⟨bl,0,none⟩)) false ty).run P w=(GS bl mb clock clock seen.toArray ((if left.toArray.isEmpty then #[none]else #[])++(left.toArray++ #[]).map some)).run P w:=by unfold Instr.next GS;simp only[fI,vi J,vi U,fQ,gF,ae6,hold,iT,gC,if_false];rfl
 rw[im];by_cases zV:left=[]
 ·subst zV;obtain⟨n,x,g1,g2⟩:=Xf (P:=P) (w:=w) bl mb clock clock seen.toArray [none] (by simp);refine⟨n,.inl ⟨fun e he=>?_,?_⟩⟩
  ·have:=List.filter_eq_nil_iff.1 hg e he;simpa using this
  ·simp only[qv]at g1;subst g1;have ar:((if(([]:List MapEntry).toArray).isEmpty then #[none]else #[])++(([]:List MapEntry).toArray++ #[]).map some)=[none].toArray:=by simp
   rw[ar,g2];rfl
 ·have ar:((if left.toArray.isEmpty then #[none]else #[])++(left.toArray++ #[]).map some)=(left.map some).toArray:=by simp[zV]
  obtain⟨n,x,g1,g2⟩:=Xf (P:=P) (w:=w) bl mb clock clock seen.toArray (left.map some) (by simpa using zV);simp only[hJ]at g1;obtain⟨e,he,rfl⟩:=g1;refine⟨n,.inr ⟨e,(jH e he).1,(jH e he).2,?_⟩⟩;rw[ar,g2];simp only[fI];rw[DW (w:={w with drawn:=n}) (o:= .mapIter (some mb) clock seen.toArray clock) J];simp
theorem JA:∀{borns:List Nat} {us:List Value} {e:MapEntry},e∈fC borns us→e.born∈borns
 |[],us,e,h=>by simp[fC]at h
 |b::eV,[],e,h=>by simp[fC]at h
 |b::eV,[_],e,h=>by simp[fC]at h
 |b::eV,k::v::us,e,h=>by
  simp only[fC,fA]at h;rcases h with rfl|h
  ·simp
  ·exact lA _ (JA h)
theorem Rn:∀{borns:List Nat} {kvs:List ah} {us:List Value},kvs.length=2*borns.length→us.length=kvs.length→∀{b:Nat},b∈borns→∃e∈fC borns us,e.born=b
 |[],_,_,_,_,b,ae=>by simp at ae
 |bV::eV,kvs,[],J,U,b,ae=>by rw[J]at U;simp at U
 |bV::eV,kvs,[_],J,U,b,ae=>by rw[J]at U;simp at U;omega
 |bV::eV,kvs,k::v::us,J,U,b,ae=>by
  rcases fA.1 ae with rfl|ae
  ·exact⟨⟨k,v,b⟩,by simp[fC],rfl⟩
  ·obtain⟨e,g1,g2⟩:=Rn (kvs:=kvs.drop 2) (us:=us) (borns:=eV) (by simp at J⊢;omega) (by simp at J U⊢;omega) ae;exact⟨e,by simp[fC,g1],g2⟩
theorem UT{w:World}{ν:a8}:∀{borns:List Nat} {kvs:List ah} {us:List Value},kvs.length=2*borns.length→borns.Pairwise (· < ·)→cK w ν kvs us→∀{e:MapEntry},e∈fC borns us→∃k v,mJ e.born borns kvs=some (.tuple [k,v])∧a6 w ν k e.key∧a6 w ν v e.val
 |[],_,_,_,_,_,e,h=>by simp[fC]at h
 |b::eV,[],us,J,_,_,e,_=>by simp at J
 |b::eV,[_],us,J,_,_,e,_=>by simp at J;omega
 |b::eV,k::v::kvs,us,J,U,ao,e,h=>by
  simp only[cK]at ao;obtain⟨iY,NO,rfl,ev,jA,sw,rfl,e2,nW⟩:=ao;simp only[fC,fA]at h;rw[mP]at U;rcases h with rfl|h
  ·exact⟨k,v,by simp[mJ],ev,e2⟩
  ·obtain⟨k',v',g1,g2,g3⟩:=UT (by simp at J;omega) U.2 nW h;have cD:b≠e.born:=Nat.ne_of_lt (U.1 _ (JA h));exact⟨k',v',by simp[mJ,cD,g1],g2,g3⟩
theorem ahL{P:cA}{C:fh}{st:bh}{a:Act}{w:World}{ν:a8}(aK:cX C st a w ν){o:Oper}{it:Operand}(nm:o.op= .next it false){d:Nat}(aE:o.dst=some d)(xS:jt C.N (some d)=true){v:ah}(aI:a6 w ν v (a.eval it)){K:bh→Prop}(he:sT st d v K)
  {rp:Act→World→Prop} {Q:Exit→Act→World→Prop} (c3:∀st' be w' bg,K st'→cX C st' be w' bg→rp be w'):o.wp P a w rp Q:=by
 unfold sT at he;split at he
 ·rename_i fp;split at he
  ·rename_i since seen last mk vZ;split at he
   ·rename_i clock borns kvs td;obtain⟨⟨rfl,rfl⟩,vX,oz⟩:=he;simp only[a6]at aI;obtain⟨bl,bM,bO⟩:=aI;obtain⟨iA,us,el,aV,bf,bI,cN,c6⟩:=aK.good.box fp _ vZ;rw[bM]at aV;cases aV;obtain⟨mb,ms,ap2,m1,m2,m3,m4,m5⟩:=aK.good.box mk _ td;simp only[jm,cK]at c6;obtain⟨u,b8,hu,⟨ap1,ev,rfl⟩,rfl⟩:=c6;rw[m1]at ev;cases ev;simp only[jN,hu]at cN;simp only[jN]at m4;simp only[jm]at m5;obtain⟨n,l5⟩:=akV (P:=P) (ty:=o.type) cN m4 (fun e he=>m5.2.lt _ (JA he));have my:∀v' w',(Instr.next (.pointer (some ⟨bl,0,none⟩)) false o.type).run P w= .ok v' w'→(execOp a.eval o).run P w= .ok (.value v') w':=by intro v' w' im;obtain⟨dst,op,ty,pos,Oy,vR⟩:=o;simp only at nm im;subst nm;simp only[execOp,bO];exact Eh im
    rcases l5 with⟨J,U⟩|⟨e,J,U,ao⟩
    ·refine mj (my _ _ U) ?_;rw[aE];refine c3 _ _ _ _ (vX fun b ae=>?_) ((aK.drawn n).put xS (p:= .tuple [.bool false]) (by simp[a6,cK]));obtain⟨e,f1,f2⟩:=Rn m5.2.len (HA m5.1) ae;rw[←f2];exact J e f1
    ·obtain⟨k,v,f1,f2,f3⟩:=UT m5.2.len m5.2.inc m5.1 J;refine mj (my _ _ ao) ?_;rw[aE];have wi:=((aK.drawn n).setBox (w':={w with drawn:=n,heap:=w.heap.setIfInBounds bl (.mapIter (some mb) last (seen++[e.born]).toArray last)}) vZ bM (cs':=[.hdi last (seen++[e.born]) last,.gmap mk]) (us:=us) (el:=el) rfl rfl rfl
      (fun j ag=>Array.getElem?_setIfInBounds_ne (la ag)) (by simp) (by simp[jN,hu,(Array.getElem?_eq_some_iff.1 cN).1]) (by simp only[jm,cK];exact⟨_,_,hu,by simp only[a6];exact⟨mb,m1,rfl⟩,rfl⟩))
     refine c3 _ _ _ _ (oz e.born k v f1 U) (wi.1.put xS (p:= .tuple [.bool true,k,v]) ?_);simp only[a6];refine⟨_,rfl,?_⟩;simp only[cK];have kW:lD w ν {w with drawn:=n} ν:=⟨fun _ _ h=>⟨h,rfl⟩,fun _ _ _ h=>h,fun _ n u _ h=>⟨n,u,h,.inl ⟨rfl,rfl⟩⟩,fun _ _ _=>rfl,fun _ _ _ _ h=>h⟩;exact⟨_,_,rfl,by simp[a6],_,_,rfl,yN wi.2 (yN kW f2),_,_,rfl,yN wi.2 (yN kW f3),rfl⟩
   ·exact he.elim
  ·exact he.elim
 ·exact he.elim
theorem Rs{P:cA}{bs:List (Nat×dx)}(aL:fP P bs=true){C:fh}{st:bh}{a:Act}{w:World}{ν:a8}(aK:cX C st a w ν){i:ed}{o:Oper}(av:vb C.N bs i o=true){K:bh→Prop}(he:uo P st K i)
  {rp:Act→World→Prop} {Q:Exit→Act→World→Prop} (c3:∀st' be w' bg,K st'→cX C st' be w' bg→rp be w'):o.wp P a w rp Q:=by
 cases i with
 |s i=>
  simp only[uo]at he;split at he
  ·rename_i c st' af;exact akY aL aK (by simpa only[vb]using av) af he.1 fun be w' bg h=>c3 _ _ _ _ he.2 h
  ·exact he.elim
 |next d x=>
  simp only[uo]at he;simp only[vb]at av;split at av
  ·rename_i it nm;simp only[cx,dK,fo]at av;obtain⟨⟨J,U⟩,ao⟩:=av;exact ahL aK nm J (by simpa[jt]using U) (ef aK ao) he c3
  ·cases av
 |call d f xs=>
  simp only[uo]at he;simp only[vb]at av;split at av
  ·rename_i rC args Bq nm;simp only[cx,dK]at av;obtain⟨⟨⟨J,U⟩,ao⟩,a1⟩:=av;split at he
   ·rename_i n dj aO;have:=ef aK ao;rw[aO]at this;exact QU aK nm J U this (DS aK a1) he c3
   ·exact he.elim
  ·cases av
theorem M1{C:fh}{st:bh}{a:Act}{w:World}{ν:a8}(h:cX C st a w ν){s:Nat}{b:Bool}(af:get s st.t= .bool b):cX C {st with t:=put s (.bool b) st.t} a w ν:=by
 refine⟨h.good,h.fr,h.defers,h.size,fun i=>?_,h.new⟩;have:=h.slot i;simp only[pd];split
 ·rename_i e;subst e;rw[←af];exact this
 ·exact this
theorem YB{C:fh}{st:bh}{a:Act}{w:World}{ν:a8}(h:cX C st a w ν){ops:Array Oper}{j s:Nat}(ag:(ops.toList[j]?).bind (·.dst)=some s)(af:s<C.N):
  (∀b,get s st.t= .bool b→yielded ops a.tmps j=some b)∧(get s st.t= .tuple []→yielded ops a.tmps j=none):=by
 have bm:s<a.tmps.size:=by rw[h.size];exact af
 have rX:=h.slot s;have hQ:a.tmps.getD s undef=a.tmps[s]:=by simp[Array.getD,bm]
 rw[hQ]at rX;have aD:yielded ops a.tmps j=match a.tmps[s]with| .bool b=>some b|_=>none:=by unfold yielded;rw[tU]at ag;rw[ag];simp only[e6,Array.getElem?_eq_getElem bm];cases a.tmps[s]<;>rfl
 constructor
 ·intro b ae;rw[ae]at rX;simp only[a6]at rX;rw[aD,rX]
 ·intro ae;rw[ae]at rX;simp only[a6,cK]at rX;obtain⟨us,ai,ax⟩:=rX;rw[aD,ai]
theorem Rw{P:cA}{bs:List (Nat×dx)}(aL:fP P bs=true){C:fh}{ops:Array Oper}{K:bh→Prop}{Q:Exit→Act→World→Prop}(ia:∀st' be w' bg,K st'→cX C st' be w' bg→Q .normal be w'):
  ∀(gs:List c5) (os:List Oper) (k:Nat),(∀j,os[j]? =ops[k+j]?)→kv C.N bs ops.toList gs os=true→∀(st:bh) (a:Act) (w:World) (ν:a8),h8 P gs st K→cX C st a w ν→wpOps P ops Q (List.range' k gs.length) a w
 |[],[],k,_,_,st,a,w,ν,he,aK=>by simp only[List.length_nil,List.range'_zero,wpOps];exact ia _ _ _ _ he aK
 |[],_::_,_,_,ad,_,_,_,_,_,_=>by simp[kv]at ad
 |_::_,[],_,_,ad,_,_,_,_,_,_=>by simp[kv]at ad
 |g::gs,o::os,k,z1,ad,st,a,w,ν,he,aK=>by
  simp only[kv,cx]at ad;have bD:ops[k]? =some o:=by simpa using(z1 0).symm
  have CR:∀j,os[j]? =ops[k+1+j]?:=fun j=>by have:=z1 (j+1);simpa[Nat.add_assoc,Nat.add_comm 1 j]using this
  simp only[oa,List.range'_succ,wpOps,bD];have bP:∀st' be w' bg,h8 P gs st' K→cX C st' be w' bg→wpOps P ops Q (List.range' (k+1) gs.length) be w':=fun st' be w' bg J U=>Rw aL ia gs os (k+1) CR ad.2 st' be w' bg J U;obtain⟨na,Sp⟩:=g;have aR:=ad.1;simp only[Cj,cx]at aR;obtain⟨qR,oA⟩:=aR;cases na with
  |none=>
   cases eD:o.guard with
   |some x=>simp[eD]at qR
   |none=>
    have hw:oX o (yielded ops a.tmps)=true:=by simp[oX,eD]
    rw[if_pos hw];simp only[h8]at he;exact .inl (Rs aL aK oA he bP)
  |some yX=>
   obtain⟨s,want⟩:=yX;cases eD:o.guard with
   |none=>simp[eD]at qR
   |some x=>
    obtain⟨j,bV⟩:=x;simp only[eD,cx,dK,fo]at qR;obtain⟨⟨⟨⟨rfl,U⟩,ao⟩,a1⟩,b2⟩:=qR;obtain⟨kM,oW⟩:=YB aK U ao;simp only[h8]at he;split at he
    ·rename_i b ae;have aD:=kM b ae;by_cases e:b=want
     ·subst e;have hw:oX o (yielded ops a.tmps)=true:=by simp[oX,eD,aD]
      rw[if_pos hw];exact .inl (Rs aL (M1 aK ae) oA (he.1 rfl) bP)
     ·have hw:¬(oX o (yielded ops a.tmps)=true):=by simp[oX,eD,aD,e]
      rw[if_neg hw];have gd:b= !want:=by cases b<;>cases want<;>simp at e⊢
      have mB:cX C {st with t:=put s (.bool !want) st.t} a w ν:=M1 aK (by rw[ae,gd]);rw[a1];exact bP _ _ _ _ (he.2 gd) (mB.put b2 (by simp[a6,cK,undef]))
    ·rename_i ae;have aD:=oW ae;have hw:¬(oX o (yielded ops a.tmps)=true):=by simp[oX,eD,aD]
     rw[if_neg hw,a1];exact bP _ _ _ _ he (aK.put b2 (by simp[a6,cK,undef]))
    ·exact he.elim
structure de where
 t:Nat→ah
 b:aJ→Option (List ah)
 e:aJ→Option fL
 F:aJ→Prop
structure kO where
 d:Option Nat
 p:ah
 bw:List (aJ×List ah)
 ew:List (aJ×fL)
 rm:Option aJ
def iB{α:Type}(l:List (aJ×α))(f:aJ→Option α):aJ→Option α:=fun k=>match look k l with|some x=>some x|none=>f k
def de.do(A:de)(x:kO):de:={t:=fun i=>if x.d=some i then x.p else A.t i,b:=iB x.bw A.b,e:=iB x.ew A.e,F:=fun k=>A.F k∧x.rm≠some k}
structure kO.apart (x y:kO):Prop where
 d:∀i,x.d=some i→y.d≠some i
 b:∀k,(look k x.bw).isSome→look k y.bw=none
 e:∀k,(look k x.ew).isSome→look k y.ew=none
theorem de.do_comm(A:de){x y:kO}(h:x.apart y):(A.do x).do y=(A.do y).do x:=by
 simp only[de.do,de.mk.injEq];refine⟨?_,?_,?_,?_⟩
 ·funext i;by_cases J:x.d=some i
  ·have:=h.d i J;simp[J,this]
  ·simp[J]
 ·funext k;simp only[iB];cases ab:look k x.bw with
  |none=>cases look k y.bw<;>rfl
  |some u=>rw[h.b k (by simp[ab])]
 ·funext k;simp only[iB];cases ab:look k x.ew with
  |none=>cases look k y.ew<;>rfl
  |some u=>rw[h.e k (by simp[ab])]
 ·funext k;exact propext ⟨fun h=>⟨⟨h.1.1,h.2⟩,h.1.2⟩,fun h=>⟨⟨h.1.1,h.2⟩,h.1.2⟩⟩
def dy(t:Nat→ah):dq→ah
 | .t i=>t i
 | .c p=>p
def r9(b:aJ→Option (List ah))(e:aJ→Option fL)(agg:Bool)(sz:Nat):ah→Option (Prop×ah)
 | .rptr dC k n i f=>yO agg sz dC n i f (e k)
 | .ptr k off=>
  match b k with
  |some cs=>if agg then some (h2 cs=true∧off+sz≤cs.length,.agg ((cs.drop off).take sz))else(cs[off]?).map fun p=>(h2 cs=true,p)
  |none=>none
 | .eptr p=>if agg then some (isAgg sz p,p)else some (eL p=true∧cells p=[p],p)
 |_=>none
def xv(t:Nat→ah):List ah→List (Nat×Nat×dq)→Option (Prop×List ah)
 |cs,[]=>some (True,cs)
 |cs,(off,sz,x)::r=>
  match xv t (nZ cs off (cells (dy t x))) r with
  |some (c,cs')=>some ((eL (dy t x)=true∧(cells (dy t x)).length=sz∧off+sz≤cs.length)∧c,cs')
  |none=>none
def pI(t:Nat→ah)(b:aJ→Option (List ah))(e:aJ→Option fL):fX→Option (Prop×ah)
 | .mov x=>some (True,dy t x)
 | .pick c x y=>G6 (dy t c) (dy t x) (dy t y)
 | .load agg sz x=>r9 b e agg sz (dy t x)
 | .faddr off agg sz x=>pV off agg sz (dy t x)
 | .fld off agg sz x=>rF off agg sz (dy t x)
 | .iaddr sz x i=>Ao sz (dy t x) (dy t i)
 | .sidx x i=>HR (dy t x) (dy t i)
 | .ssl x lo hi=>HX (dy t x) (lo.map (dy t)) (hi.map (dy t))
 | .lsl sz x lo hi=>GG sz (dy t x) (lo.map (dy t)) (hi.map (dy t))
 | .bin op wr x y=>b6 op wr (dy t x) (dy t y)
 | .notB x=>GV (dy t x)
 | .neg x=>GR (dy t x)
 | .conv k x=>Fb k (dy t x)
 | .ext i x=>zw i (dy t x)
 | .len x=>AE (dy t x)
 | .slen x=>D5 (dy t x)
 | .build zero parts=>(xv t zero parts).map fun(c,cs)=>(c,.agg cs)
 | .nck x=>AO (dy t x)
 | .min2 x y=>GP (dy t x) (dy t y)
 | .mkf n xs=>some (True,.func n (xs.map (dy t)))
 | .mget b7 zero ok x k=>nT b b7 zero ok (dy t x) (dy t k)
 | .ment x=>pz b (dy t x)
 | .mlen x=>u3 b (dy t x)
 | .beq neg dH x y=>hN neg dH (dy t x) (dy t y)
 | .max2 x y=>GK (dy t x) (dy t y)
 | .mkif n x=>some (True,.iface n (dy t x))
 | .loadB agg sz x=>r9 b (fun _=>none) agg sz (dy t x)
 | .mgetB b7 zero ok x k=>nT b b7 zero ok (dy t x) (dy t k)
 | .loadZ agg sz x=>Ci agg sz (dy t x)
structure lC (st:bh) (A:de):Prop where
 t:∀i,get i st.t=A.t i
 b:∀k,look k st.b=A.b k
 e:∀k,look k st.e=A.e k
theorem iO{st:bh}{A:de}(h:lC st A)(x:dq):cj st.t x=dy A.t x:=by
 cases x
 ·exact h.t _
 ·rfl
theorem ur{st:bh}{A:de}(h:lC st A):cj st.t=dy A.t:=funext (iO h)
theorem ag0{st:bh}{A:de}(h:lC st A)(agg:Bool)(sz:Nat)(p:ah):mI st.b st.e agg sz p=r9 A.b A.e agg sz p:=by
 cases p<;>simp only[mI,r9]
 ·rw[h.b];try rfl
 ·rw[h.e]
theorem ag1{st:bh}{A:de}(h:lC st A)(agg:Bool)(sz:Nat)(p:ah):mI st.b [] agg sz p=r9 A.b (fun _=>none) agg sz p:=by
 cases p<;>simp only[mI,r9]
 ·rw[h.b];try rfl
 ·rfl
theorem O0{st:bh}{A:de}(h:lC st A):∀(parts:List (Nat×Nat×dq)) (cs:List ah),uk st.t cs parts=xv A.t cs parts
 |[],cs=>rfl
 |(off,sz,x)::r,cs=>by simp only[uk,xv,iO h,O0 h r];try rfl
theorem XF{st:bh}{A:de}(h:lC st A)(i:fX):hr st i=pI A.t A.b A.e i:=by have ae:(fun k=>look k st.b)=A.b:=funext h.b;cases i<;>simp only[hr,pI,ur h,ag0 h,ag1 h,O0 h,ae]
def ho:dq→List Nat
 | .t i=>[i]
 | .c _=>[]
def Mn:Option dq→List Nat
 |some x=>ho x
 |none=>[]
def fX.looks:fX→List Nat
 | .mov x| .load _ _ x| .loadB _ _ x| .loadZ _ _ x| .faddr _ _ _ x| .fld _ _ _ x| .notB x| .neg x| .conv _ x| .ext _ x| .len x| .slen x| .nck x| .ment x| .mlen x| .mkif _ x=>ho x
 | .pick c x y=>ho c++ho x++ho y
 | .iaddr _ x i| .sidx x i=>ho x++ho i
 | .ssl x lo hi| .lsl _ x lo hi=>ho x++Mn lo++Mn hi
 | .bin _ _ x y| .min2 x y| .max2 x y| .beq _ _ x y=>ho x++ho y
 | .build _ cq=>cq.flatMap fun p=>ho p.2.2
 | .mkf _ xs=>xs.flatMap ho
 | .mget _ _ _ x k| .mgetB _ _ _ x k=>ho x++ho k
def eh.looks:eh→List Nat
 | .v _ i=>i.looks
 | .box _ _ x=>ho x
 | .alloc _ _ _=>[]
 | .store _ x y=>ho x++ho y
 | .storeE _ x y=>ho x++ho y
 | .bsl _ _ _ xs=>xs.flatMap ho
 | .app _ _ _ x y=>ho x++ho y
 | .bslm _ _ _ _ xs=>xs.flatMap ho
 | .mks _ _ _ _ _ x=>ho x
 | .appm _ _ _ _ x y=>ho x++ho y
 | .mkmap _ _=>[]
 | .mput _ x k y=>ho x++ho k++ho y
 | .range _ _ x=>ho x
def ed.looks:ed→List Nat
 | .s i=>i.looks
 | .call _ f xs=>ho f++xs.flatMap ho
 | .next _ x=>ho x
def c5.looks(g:c5):List Nat:=(match g.g with|some (s,_)=>[s]|none=>[])++g.i.looks
def qC(l:List Nat)(t dF:Nat→ah):Prop:= ∀i∈l,t i=dF i
theorem gy{t dF:Nat→ah}{x:dq}(h:qC (ho x) t dF):dy t x=dy dF x:=by
 cases x
 ·exact h _ (by simp[ho])
 ·rfl
theorem kq{l l':List Nat}{t dF:Nat→ah}(h:qC (l++l') t dF):qC l t dF∧qC l' t dF:=⟨fun i hi=>h i (by simp[hi]),fun i hi=>h i (by simp[hi])⟩
theorem Fl{t dF:Nat→ah}{x:Option dq}(h:qC (Mn x) t dF):x.map (dy t)=x.map (dy dF):=by
 cases x
 ·rfl
 ·simp[gy h]
theorem OZ{t dF:Nat→ah}:∀{parts:List (Nat×Nat×dq)} {cs:List ah},qC (parts.flatMap fun p=>ho p.2.2) t dF→xv t cs parts=xv dF cs parts
 |[],cs,_=>rfl
 |(off,sz,x)::r,cs,h=>by simp only[List.flatMap_cons]at h;obtain⟨J,U⟩:=kq h;simp only[xv,gy J,OZ U]
theorem GJ{t dF:Nat→ah}:∀{xs:List dq},qC (xs.flatMap ho) t dF→xs.map (dy t)=xs.map (dy dF)
 |[],_=>rfl
 |x::xs,h=>by simp only[List.flatMap_cons]at h;obtain⟨J,U⟩:=kq h;simp[gy J,GJ U]
def fX.isLoad:fX→Bool
 | .load _ _ _=>true
 | .loadB _ _ _=>true
 | .mgetB _ _ _ _ _=>true
 | .mget _ _ _ _ _=>true
 | .ment _=>true
 | .mlen _=>true
 |_=>false
theorem alV{t dF:Nat→ah}{b bV:aJ→Option (List ah)}{e fT:aJ→Option fL}{i:fX}(h:qC i.looks t dF)(ae:i.isLoad=false):pI t b e i=pI dF bV fT i:=by
 cases i<;>simp only[fX.looks]at h<;>simp only[pI];case load agg sz x=>simp[fX.isLoad]at ae
 case loadB agg sz x=>simp[fX.isLoad]at ae
 case pick c x y=>obtain⟨J,ao⟩:=kq h;obtain⟨J,U⟩:=kq J;rw[gy J,gy U,gy ao]
 case iaddr=>obtain⟨J,U⟩:=kq h;rw[gy J,gy U]
 case sidx=>obtain⟨J,U⟩:=kq h;rw[gy J,gy U]
 case ssl=>obtain⟨J,ao⟩:=kq h;obtain⟨J,U⟩:=kq J;rw[gy J,Fl U,Fl ao]
 case lsl=>obtain⟨J,ao⟩:=kq h;obtain⟨J,U⟩:=kq J;rw[gy J,Fl U,Fl ao]
 case bin=>obtain⟨J,U⟩:=kq h;rw[gy J,gy U]
 case min2=>obtain⟨J,U⟩:=kq h;rw[gy J,gy U]
 case build=>rw[OZ h]
 case mkf=>rw[GJ h]
 case mget=>simp[fX.isLoad]at ae
 case mgetB=>simp[fX.isLoad]at ae
 case ment=>simp[fX.isLoad]at ae
 case mlen=>simp[fX.isLoad]at ae
 case max2=>obtain⟨J,U⟩:=kq h;rw[gy J,gy U]
 case beq=>obtain⟨J,U⟩:=kq h;rw[gy J,gy U]
 all_goals rw[gy h]
end Go.Pv
