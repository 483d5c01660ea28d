/- Regions that draw their order, I: abstract states as functions, effects, and what an instruction does to them. -/
import Derived.WalkKit
import Derived.Orders
import Derived.KernelRfl
import Derived.IntWalk
import Derived.Laws.StructEq
import Derived.ChangeKeysEq
import Derived.MapKept
import Derived.ArgAppend
import Derived.Laws.OwnMore
set_option linter.all false
set_option maxHeartbeats 4000000
open Array renaming getElem?_toList→s6
open BitVec renaming ofInt→lz
open Bool renaming and_eq_true→cx,eq_iff_iff→pV,false_eq_true→gr,not_eq_true'→rT
open ByteArray renaming ext→akD,size→apM
open Go renaming Program→cy,TypeId→gx
open Go.ByteArray renaming toList_eq→akE
open Go.IntKind renaming i64→mi
open Go.IntWalk renaming i64_in→lR
open Go.Op renaming bytesLess→gZ
open Go.Region renaming wanted→ot
open Go.Result renaming andThen_ok→fB
open Go.Sem renaming run_bind→ft,run_pure→fZ
open Go.Value renaming cells→ou,ownBlock→nA
open Go.Value.pointer renaming injEq→apT
open Go.World.grownBy renaming refl→akH
open List renaming all_eq_true→jD,cons_append→bO,getElem?_eq_getElem→cv,getElem?_eq_none→pW,getElem?_eq_some_iff→fG,length_append→pa,length_cons→nB,length_drop→rV,map_cons→gI,map_nil→mj,mem_append→ja,mem_cons→ga,mem_cons_of_mem→mX,mem_filter→k3,mem_map→hH,mem_singleton→rW,pairwise_cons→ml,take→ox,take_length→mY,take_of_length_le→ha
open List.cons renaming injEq→xX
open Nat renaming add_mul→pc,le_refl→e1,le_trans→ji
open Ne renaming symm→kO
open Option renaming bind_some→h4,isSome_iff_exists→fm,isSome_none→jl,map_eq_some_iff→gd,map_some→nC
open Option.some renaming injEq→dt
open Prod.mk renaming injEq→jm
open _root_ renaming False→ej,UInt8→cV,beq_iff_eq→dH,congrArg→eO,decide_eq_true_eq→fI
namespace Go.Pv
open Go Go.RowKit
inductive aH where
 |loc (s:Nat)
 |obj (n:Nat)
 deriving DecidableEq,Inhabited
inductive Az where
 |no
 |nil
 |own (k:aH)
 |tr (k:aH) (j:Nat)
 |lo (k:aH)
 deriving DecidableEq,Inhabited
inductive ai where
 |junk
 |int (k:IntKind) (n:Int)
 |bool (b:Bool)
 |str (s:List cV)
 |slice (sz:Nat) (tag:Az) (xs:List ai)
 |agg (cs:List ai)
 |ptr (key:aH) (off:Nat)
 |eptr (x:ai)
 |iface (t:Nat) (x:ai)
 |nilp
 |tuple (a7:List ai)
 |func (f:Nat) (dg:List ai)
 |gmap (key:aH)
 |row (sz:Nat) (key:aH) (n:Nat)
 |rptr (sz:Nat) (key:aH) (n i f:Nat)
 |hdm (clock:Nat) (borns:List Nat)
 |hdi (since:Nat) (seen:List Nat) (last:Nat)
 |cst (v:Value)
 deriving Inhabited
structure bc where
 A:Nat→Nat→Prop
 bx:aH→Option Nat
 ow:aH→Option (Nat×Value)
 tr:aH→Nat→Nat→Prop
def lim:Nat:=68719476736
def lr(w:World)(A:Nat→Nat→Prop)(b:Nat):Nat→List Value→Prop
 |_,[]=>True
 |off,u::us=>(A b off∧w.cell? ⟨b,off,none⟩=some u)∧lr w A b (off+1) us
def shape(w:World)(b:Nat):Option (Nat×gx×(Nat×Nat)):=
 match w.heap[b]? with
 |some (.cells cur el fz)=>some (cur.size,el,fz)
 |_=>none
theorem vO{w w':World}{b:Nat}(h:w'.heap[b]? =w.heap[b]?):shape w' b=shape w b:=by unfold shape;rw[h]
mutual
def fS(t:Bool)(w:World)(A:Nat→Nat→Prop)(F:Nat→Prop):ai→Value→Prop
 | .int k n,v=>v= .int k n
 | .bool b,v=>v= .bool b
 | .str s,v=>v= .string ⟨s.toArray⟩∧s.length≤lim
 | .slice sz _ xs,v=> ∃a cap,v= .slice a xs.length cap∧xs.length≤cap∧(cap≤maxLen∧xs.length≤lim)∧
   (xs=[]∨ ∃b off us G,a=some ⟨b,off,none⟩∧F b∧(∀c,G c→F c∧(t=true→c≠b))∧lr w A b off us∧(t=true→off=0∧0<us.length∧∃el,shape w b=some (cap*sz,el,(0,0)))∧tz t w A G sz xs us)
 | .agg cs,v=> ∃us:Array Value,v= .agg us∧tA t w A F cs us.toList
 |_,_=>ej
def tA(t:Bool)(w:World)(A:Nat→Nat→Prop)(F:Nat→Prop):List ai→List Value→Prop
 |[],us=>us=[]
 |c::cs,us=> ∃u b9 hR h6,us=u::b9∧((∀b,hR b→F b)∧(∀b,h6 b→F b)∧(t=true→∀b,hR b→¬h6 b))∧(fS t w A hR c u∧u.oneCell'=true)∧tA t w A h6 cs b9
def tz(t:Bool)(w:World)(A:Nat→Nat→Prop)(F:Nat→Prop)(sz:Nat):List ai→List Value→Prop
 |[],us=>us=[]
 |x::xs,us=> ∃u b9 hR h6,us=u.cells.toList++b9∧((∀b,hR b→F b)∧(∀b,h6 b→F b)∧(t=true→∀b,hR b→¬h6 b))∧(fS t w A hR x u∧u.cells.size=sz∧(∀c∈u.cells.toList,c.oneCell'=true))∧tz t w A h6 sz xs b9
end
mutual
def a6(w:World)(ν:bc):ai→Value→Prop
 | .junk,_=>True
 | .int k n,v=>v= .int k n
 | .bool b,v=>v= .bool b
 | .str s,v=>v= .string ⟨s.toArray⟩∧s.length≤lim
 | .slice sz tag xs,v=>
   (∃a cap,v= .slice a xs.length cap∧xs.length≤cap∧(cap≤maxLen∧xs.length≤lim)∧(xs=[]∨ ∃b off us,a=some ⟨b,off,none⟩∧lr w ν.A b off us∧dw w ν sz xs us))∧
   (tag= .nil→v= .slice none 0 0)∧
   (∀g,tag= .own g→∃n u,ν.ow g=some (n,u)∧xs.length≤n∧(xs.length=n→v=u))∧
   (∀k j,tag= .tr k j→fS true w ν.A (ν.tr k j) (.slice sz tag xs) v)∧(∀k,tag= .lo k→fS false w ν.A (ν.tr k 0) (.slice sz tag xs) v)
 | .agg cs,v=> ∃us:Array Value,v= .agg us∧dd w ν cs us.toList
 | .ptr key off,v=> ∃b,ν.bx key=some b∧v= .pointer (some ⟨b,off,none⟩)
 | .eptr x,v=> ∃b off u,v= .pointer (some ⟨b,off,none⟩)∧a6 w ν x u∧lr w ν.A b off u.cells.toList
 | .iface t x,v=> ∃u,v= .iface t u∧a6 w ν x u
 | .nilp,v=>v= .pointer none
 | .tuple a7,v=> ∃us:Array Value,v= .tuple us∧cJ w ν a7 us.toList
 | .func f dg,v=> ∃us:Array Value,v= .func (.func f) #[] us∧cJ w ν dg us.toList
 | .gmap key,v=> ∃b,ν.bx key=some b∧v= .map (some b)
 | .row _ key n,v=>(∃b cap,v= .slice (some ⟨b,0,none⟩) n cap)∧n≤lim∧∃n' u,ν.ow key=some (n',u)∧n≤n'∧(n=n'→v=u)
 | .rptr sz key n i f,v=>(∃b o,v= .pointer (some ⟨b,o,none⟩))∧i<n∧∃n' u,ν.ow key=some (n',u)∧n≤n'∧(n=n'→∃b,u.ownBlock=some b∧v= .pointer (some ⟨b,i*sz+f,none⟩))
 | .hdm _ _,_=>ej
 | .hdi _ _ _,_=>ej
 | .cst c,v=>v=c
def dd(w:World)(ν:bc):List ai→List Value→Prop
 |[],us=>us=[]
 |c::cs,us=> ∃u b9,us=u::b9∧(a6 w ν c u∧u.oneCell'=true)∧dd w ν cs b9
def cJ(w:World)(ν:bc):List ai→List Value→Prop
 |[],us=>us=[]
 |c::cs,us=> ∃u b9,us=u::b9∧a6 w ν c u∧cJ w ν cs b9
def dw(w:World)(ν:bc)(sz:Nat):List ai→List Value→Prop
 |[],us=>us=[]
 |x::xs,us=> ∃u b9,us=u.cells.toList++b9∧(a6 w ν x u∧u.cells.size=sz∧(∀c∈u.cells.toList,c.oneCell'=true))∧dw w ν sz xs b9
end
theorem Ff{w w':World}{A fU:Nat→Nat→Prop}{b:Nat}(bd:∀b o,A b o→fU b o∧w'.cell? ⟨b,o,none⟩=w.cell? ⟨b,o,none⟩):
  ∀(us:List Value) (off:Nat),lr w A b off us→lr w' fU b off us
 |[],_,_=>trivial
 |_::us,off,h=>⟨⟨(bd _ _ h.1.1).1,(bd _ _ h.1.1).2.trans h.1.2⟩,Ff bd us (off+1) h.2⟩
mutual
theorem Ea{t:Bool}{w w':World}{A fU:Nat→Nat→Prop}(bd:∀b o,A b o→fU b o∧w'.cell? ⟨b,o,none⟩=w.cell? ⟨b,o,none⟩)(af:∀b o,A b o→shape w' b=shape w b):∀(p:ai) (F oA:Nat→Prop) (v:Value),(∀b,F b→oA b)→fS t w A F p v→fS t w' fU oA p v
 | .int k n,_,_,_,_,h=>by simp only[fS]at h⊢;exact h
 | .bool b,_,_,_,_,h=>by simp only[fS]at h⊢;exact h
 | .str s,_,_,_,_,h=>by simp only[fS]at h⊢;exact h
 | .slice sz tag xs,F,oA,v,fW,h=>by
  simp only[fS]at h⊢;obtain⟨a,cap,J,U,ao,aZ⟩:=h;refine⟨a,cap,J,U,ao,?_⟩;rcases aZ with aZ|⟨b,off,us,G,ak,aA,bs,dq,ht,hv⟩
  ·exact .inl aZ
  ·refine .inr ⟨b,off,us,G,ak,fW _ aA,fun c av=>⟨fW _ (bs c av).1,(bs c av).2⟩,Ff bd _ _ dq,fun aN=>?_,Qr bd af xs G G _ (fun _ h=>h) hv⟩;obtain⟨f1,f2,el,f3⟩:=ht aN;refine⟨f1,f2,el,?_⟩;cases us with
   |nil=>simp at f2
   |cons u us=>rw[af b off dq.1.1];exact f3
 | .agg cs,F,oA,v,fW,h=>by simp only[fS]at h⊢;obtain⟨us,J,U⟩:=h;exact⟨us,J,Qs bd af cs F oA _ fW U⟩
 | .junk,_,_,_,_,h=>by simp[fS]at h
 | .ptr _ _,_,_,_,_,h=>by simp[fS]at h
 | .eptr _,_,_,_,_,h=>by simp[fS]at h
 | .iface _ _,_,_,_,_,h=>by simp[fS]at h
 | .nilp,_,_,_,_,h=>by simp[fS]at h
 | .tuple _,_,_,_,_,h=>by simp[fS]at h
 | .func _ _,_,_,_,_,h=>by simp[fS]at h
 | .gmap _,_,_,_,_,h=>by simp[fS]at h
 | .row _ _ _,_,_,_,_,h=>by simp[fS]at h
 | .rptr _ _ _ _ _,_,_,_,_,h=>by simp[fS]at h
 | .hdm _ _,_,_,_,_,h=>by simp[fS]at h
 | .hdi _ _ _,_,_,_,_,h=>by simp[fS]at h
 | .cst _,_,_,_,_,h=>by simp[fS]at h
theorem Qs{t:Bool}{w w':World}{A fU:Nat→Nat→Prop}(bd:∀b o,A b o→fU b o∧w'.cell? ⟨b,o,none⟩=w.cell? ⟨b,o,none⟩)(af:∀b o,A b o→shape w' b=shape w b):∀(cs:List ai) (F oA:Nat→Prop) (us:List Value),(∀b,F b→oA b)→tA t w A F cs us→tA t w' fU oA cs us
 |[],_,_,_,_,h=>by simp only[tA]at h⊢;exact h
 |c::cs,F,oA,us,fW,h=>by simp only[tA]at h⊢;obtain⟨u,b9,hR,h6,J,⟨U,ao,aZ⟩,⟨b1,c6⟩,dP⟩:=h;exact⟨u,b9,hR,h6,J,⟨fun b ae=>fW _ (U b ae),fun b ae=>fW _ (ao b ae),aZ⟩,⟨Ea bd af c hR hR u (fun _ h=>h) b1,c6⟩,Qs bd af cs h6 h6 b9 (fun _ h=>h) dP⟩
theorem Qr{t:Bool}{w w':World}{A fU:Nat→Nat→Prop}(bd:∀b o,A b o→fU b o∧w'.cell? ⟨b,o,none⟩=w.cell? ⟨b,o,none⟩)(af:∀b o,A b o→shape w' b=shape w b){sz:Nat}:∀(cs:List ai) (F oA:Nat→Prop) (us:List Value),(∀b,F b→oA b)→tz t w A F sz cs us→tz t w' fU oA sz cs us
 |[],_,_,_,_,h=>by simp only[tz]at h⊢;exact h
 |c::cs,F,oA,us,fW,h=>by simp only[tz]at h⊢;obtain⟨u,b9,hR,h6,J,⟨U,ao,aZ⟩,⟨b1,c6⟩,dP⟩:=h;exact⟨u,b9,hR,h6,J,⟨fun b ae=>fW _ (U b ae),fun b ae=>fW _ (ao b ae),aZ⟩,⟨Ea bd af c hR hR u (fun _ h=>h) b1,c6⟩,Qr bd af cs h6 h6 b9 (fun _ h=>h) dP⟩
end
mutual
def aF(S:aH→Prop):ai→Prop
 | .slice _ tag xs=>(match tag with| .own k=>S k| .tr k _=>S k| .lo k=>S k|_=>True)∧aO S xs
 | .agg cs=>aO S cs
 | .ptr k _=>S k
 | .eptr x=>aF S x
 | .iface _ x=>aF S x
 | .tuple a7=>aO S a7
 | .func _ dg=>aO S dg
 | .gmap k=>S k
 | .row _ k _=>S k
 | .rptr _ k _ _ _=>S k
 |_=>True
def aO(S:aH→Prop):List ai→Prop
 |[]=>True
 |x::xs=>aF S x∧aO S xs
end
mutual
theorem vp{S T:aH→Prop}(h:∀k,S k→T k):∀p:ai,aF S p→aF T p
 | .junk,_=>by simp[aF]
 | .int _ _,_=>by simp[aF]
 | .bool _,_=>by simp[aF]
 | .str _,_=>by simp[aF]
 | .slice sz tag xs,bF=>by simp only[aF]at bF⊢;exact⟨by cases tag<;>first|trivial|exact h _ bF.1,jI h xs bF.2⟩
 | .agg cs,bF=>by simp only[aF]at bF⊢;exact jI h cs bF
 | .ptr k _,bF=>by simp only[aF]at bF⊢;exact h _ bF
 | .eptr x,bF=>by simp only[aF]at bF⊢;exact vp h x bF
 | .iface _ x,bF=>by simp only[aF]at bF⊢;exact vp h x bF
 | .nilp,_=>by simp[aF]
 | .tuple a7,bF=>by simp only[aF]at bF⊢;exact jI h a7 bF
 | .func _ dg,bF=>by simp only[aF]at bF⊢;exact jI h dg bF
 | .gmap k,bF=>by simp only[aF]at bF⊢;exact h _ bF
 | .row _ k _,bF=>by simp only[aF]at bF⊢;exact h _ bF
 | .rptr _ k _ _ _,bF=>by simp only[aF]at bF⊢;exact h _ bF
 | .hdm _ _,_=>by simp[aF]
 | .hdi _ _ _,_=>by simp[aF]
 | .cst _,_=>by simp[aF]
theorem jI{S T:aH→Prop}(h:∀k,S k→T k):∀cp:List ai,aO S cp→aO T cp
 |[],_=>by simp[aO]
 |x::xs,bF=>by simp only[aO]at bF⊢;exact⟨vp h x bF.1,jI h xs bF.2⟩
end
mutual
theorem Fb:∀p:ai,aF (fun _=>True) p
 | .junk=>by simp[aF]
 | .int _ _=>by simp[aF]
 | .bool _=>by simp[aF]
 | .str _=>by simp[aF]
 | .slice sz tag xs=>by simp only[aF];exact⟨by cases tag<;>trivial,tU xs⟩
 | .agg cs=>by simp only[aF];exact tU cs
 | .ptr k _=>by simp[aF]
 | .eptr x=>by simp only[aF];exact Fb x
 | .iface _ x=>by simp only[aF];exact Fb x
 | .nilp=>by simp[aF]
 | .tuple a7=>by simp only[aF];exact tU a7
 | .func _ dg=>by simp only[aF];exact tU dg
 | .gmap k=>by simp[aF]
 | .row _ k _=>by simp[aF]
 | .rptr _ k _ _ _=>by simp[aF]
 | .hdm _ _=>by simp[aF]
 | .hdi _ _ _=>by simp[aF]
 | .cst _=>by simp[aF]
theorem tU:∀cp:List ai,aO (fun _=>True) cp
 |[]=>by simp[aO]
 |x::xs=>by simp only[aO];exact⟨Fb x,tU xs⟩
end
def fo:List Nat→List Value→List MapEntry
 |b::eL,k::v::r=>⟨k,v,b⟩::fo eL r
 |_,_=>[]
def jz(cs:List ai)(us:Array Value)(el:gx):Obj:=
 match cs with
 | .hdm clock borns::_=>.map (fo borns us.toList).toArray clock
 | .hdi since seen last::_=>.mapIter (match us.toList with|[.map m]=>m|_=>none) since seen.toArray last
 |_=>.cells us el
structure ae2 (clock:Nat) (borns:List Nat) (r:List ai):Prop where
 len:r.length=2*borns.length
 inc:borns.Pairwise (· < ·)
 lt:∀b∈borns,b<clock
def iX(w:World)(ν:bc)(cs:List ai)(us:List Value):Prop:=
 match cs with
 | .hdm clock borns::r=>cJ w ν r us∧ae2 clock borns r
 | .hdi _ _ _::r=>cJ w ν r us
 |cs=>dd w ν cs us
def hE:List ai→Bool
 | .hdm _ _::_=>false
 | .hdi _ _ _::_=>false
 |_=>true
theorem zW{w:World}{ν:bc}{cs:List ai}{us:List Value}(h:dd w ν cs us):hE cs=true:=by
 unfold hE;split
 ·simp only[dd,a6]at h;obtain⟨_,_,_,⟨h,_⟩,_⟩:=h;exact h.elim
 ·simp only[dd,a6]at h;obtain⟨_,_,_,⟨h,_⟩,_⟩:=h;exact h.elim
 ·rfl
theorem ui{cs:List ai}(h:hE cs=true)(us:Array Value)(el:gx):jz cs us el= .cells us el:=by
 unfold hE at h;unfold jz;split at h<;>first|cases h|skip
 rfl
theorem uj{w:World}{ν:bc}{cs:List ai}(h:hE cs=true)(us:List Value):iX w ν cs us=dd w ν cs us:=by
 unfold hE at h;unfold iX;split at h<;>first|cases h|skip
 rfl
structure nE (S:aH→Prop) (w:World) (ν:bc) (w':World) (bg:bc):Prop where
 A:∀b o,ν.A b o→bg.A b o∧w'.cell? ⟨b,o,none⟩=w.cell? ⟨b,o,none⟩
 bx:∀k b,S k→ν.bx k=some b→bg.bx k=some b
 ow:∀g n u,S g→ν.ow g=some (n,u)→∃n' e0,bg.ow g=some (n',e0)∧(n'=n∧e0=u∨n<n')
 sh:∀b o,ν.A b o→shape w' b=shape w b
 tr:∀k j b,S k→ν.tr k j b→bg.tr k j b
abbrev k5:=nE (fun _=>True)
mutual
theorem j2{S:aH→Prop}{w w':World}{ν bg:bc}(au:nE S w ν w' bg):∀(p:ai) (v:Value),aF S p→a6 w ν p v→a6 w' bg p v
 | .junk,_,_,_=>by simp[a6]
 | .int k n,_,_,h=>by simp only[a6]at h⊢;exact h
 | .bool b,_,_,h=>by simp only[a6]at h⊢;exact h
 | .str s,_,_,h=>by simp only[a6]at h⊢;exact h
 | .slice sz tag xs,v,ab,h=>by
  simp only[a6,aF]at h ab⊢;obtain⟨⟨a,cap,J,U,ao,aZ⟩,b1,c6,hy,pq⟩:=h;refine⟨⟨a,cap,J,U,ao,?_⟩,b1,fun g aS=>?_,fun k j l4=>?_,fun k l4=>?_⟩
  ·rcases aZ with aZ|⟨b,off,us,aZ,c6,dP⟩
   ·exact .inl aZ
   ·exact .inr ⟨b,off,us,aZ,Ff au.A _ _ c6,F7 au sz xs us ab.2 dP⟩
  ·obtain⟨n,u,ak,aA,bs⟩:=c6 g aS;subst aS;obtain⟨n',e0,f1,f2⟩:=au.ow g n u ab.1 ak;refine⟨n',e0,f1,?_⟩;rcases f2 with⟨rfl,rfl⟩|f2
   ·exact⟨aA,bs⟩
   ·exact⟨by omega,fun e=>by omega⟩
  ·have:=hy k j l4;subst l4;exact Ea au.A au.sh _ _ _ _ (fun b=>au.tr k j b ab.1) this
  ·have:=pq k l4;subst l4;exact Ea au.A au.sh _ _ _ _ (fun b=>au.tr k 0 b ab.1) this
 | .agg cs,v,ab,h=>by simp only[a6,aF]at h ab⊢;obtain⟨us,J,U⟩:=h;exact⟨us,J,Ga au cs _ ab U⟩
 | .ptr key off,v,ab,h=>by simp only[a6,aF]at h ab⊢;obtain⟨b,J,U⟩:=h;exact⟨b,au.bx _ _ ab J,U⟩
 | .iface t x,v,ab,h=>by simp only[a6,aF]at h ab⊢;obtain⟨u,J,U⟩:=h;exact⟨u,J,j2 au x u ab U⟩
 | .eptr x,v,ab,h=>by simp only[a6,aF]at h ab⊢;obtain⟨b,off,u,J,U,ao⟩:=h;exact⟨b,off,u,J,j2 au x u ab U,Ff au.A _ _ ao⟩
 | .nilp,_,_,h=>by simp only[a6]at h⊢;exact h
 | .tuple a7,v,ab,h=>by simp only[a6,aF]at h ab⊢;obtain⟨us,J,U⟩:=h;exact⟨us,J,xB au a7 _ ab U⟩
 | .func f dg,v,ab,h=>by simp only[a6,aF]at h ab⊢;obtain⟨us,J,U⟩:=h;exact⟨us,J,xB au dg _ ab U⟩
 | .gmap key,v,ab,h=>by simp only[a6,aF]at h ab⊢;obtain⟨b,J,U⟩:=h;exact⟨b,au.bx _ _ ab J,U⟩
 | .row sz key n,v,ab,h=>by
  simp only[a6,aF]at h ab⊢;obtain⟨J,U,n',u,ao,aZ,b1⟩:=h;obtain⟨fX,jh,f1,f2⟩:=au.ow key n' u ab ao;refine⟨J,U,fX,jh,f1,?_⟩;rcases f2 with⟨rfl,rfl⟩|f2
  ·exact⟨aZ,b1⟩
  ·exact⟨by omega,fun e=>by omega⟩
 | .rptr sz key n i f,v,ab,h=>by
  simp only[a6,aF]at h ab⊢;obtain⟨J,U,n',u,ao,aZ,b1⟩:=h;obtain⟨fX,jh,f1,f2⟩:=au.ow key n' u ab ao;refine⟨J,U,fX,jh,f1,?_⟩;rcases f2 with⟨rfl,rfl⟩|f2
  ·exact⟨aZ,b1⟩
  ·exact⟨by omega,fun e=>by omega⟩
 | .hdm _ _,_,_,h=>by simp only[a6]at h
 | .hdi _ _ _,_,_,h=>by simp only[a6]at h
 | .cst c,_,_,h=>by simp only[a6]at h⊢;exact h
theorem Ga{S:aH→Prop}{w w':World}{ν bg:bc}(au:nE S w ν w' bg):∀(cs:List ai) (us:List Value),aO S cs→dd w ν cs us→dd w' bg cs us
 |[],_,_,h=>by simp only[dd]at h⊢;exact h
 |c::cs,us,ab,h=>by simp only[dd,aO]at h ab⊢;obtain⟨u,b9,J,U,ao⟩:=h;exact⟨u,b9,J,⟨j2 au c u ab.1 U.1,U.2⟩,Ga au cs b9 ab.2 ao⟩
theorem xB{S:aH→Prop}{w w':World}{ν bg:bc}(au:nE S w ν w' bg):∀(cs:List ai) (us:List Value),aO S cs→cJ w ν cs us→cJ w' bg cs us
 |[],_,_,h=>by simp only[cJ]at h⊢;exact h
 |c::cs,us,ab,h=>by simp only[cJ,aO]at h ab⊢;obtain⟨u,b9,J,U,ao⟩:=h;exact⟨u,b9,J,j2 au c u ab.1 U,xB au cs b9 ab.2 ao⟩
theorem F7{S:aH→Prop}{w w':World}{ν bg:bc}(au:nE S w ν w' bg)(sz:Nat):∀(xs:List ai) (us:List Value),aO S xs→dw w ν sz xs us→dw w' bg sz xs us
 |[],_,_,h=>by simp only[dw]at h⊢;exact h
 |x::xs,us,ab,h=>by simp only[dw,aO]at h ab⊢;obtain⟨u,b9,J,⟨U,ao,aZ⟩,b1⟩:=h;exact⟨u,b9,J,⟨j2 au x u ab.1 U,ao,aZ⟩,F7 au sz xs b9 ab.2 b1⟩
end
theorem Vp{S:aH→Prop}{w w':World}{ν bg:bc}(au:nE S w ν w' bg){cs:List ai}{us:List Value}(ab:aO S cs)(h:iX w ν cs us):iX w' bg cs us:=by
 unfold iX at h⊢;split
 ·simp only[aO]at ab;exact⟨xB au _ _ ab.2 h.1,h.2⟩
 ·simp only[aO]at ab;exact xB au _ _ ab.2 h
 ·rename_i J U;split at h
  ·exact absurd rfl (J _ _ _)
  ·exact absurd rfl (U _ _ _ _)
  ·exact Ga au _ _ ab h
section
variable {w w':World} {ν bg:bc} (au:k5 w ν w' bg)
include au
theorem xC{p:ai}{v:Value}(h:a6 w ν p v):a6 w' bg p v:=j2 au p v (Fb p) h
theorem Vu{p:List ai}{v:List Value}(h:dd w ν p v):dd w' bg p v:=Ga au p v (tU p) h
theorem Gc{p:List ai}{v:List Value}(h:cJ w ν p v):cJ w' bg p v:=xB au p v (tU p) h
theorem pR{p:List ai}{v:List Value}(h:iX w ν p v):iX w' bg p v:=Vp au (tU p) h
theorem zT{sz:Nat}{p:List ai}{v:List Value}(h:dw w ν sz p v):dw w' bg sz p v:=F7 au sz p v (tU p) h
end
end Go.Pv
namespace Go.Pv
open Go Go.RowKit
def get(k:Nat):List (Nat×ai)→ai
 |[]=>.junk
 |(i,p)::r=>if i=k then p else get k r
def put(k:Nat)(p:ai):List (Nat×ai)→List (Nat×ai)
 |[]=>[(k,p)]
 |(i,q)::r=>if i=k then(i,p)::r else(i,q)::put k p r
def look{α:Type}(k:aH):List (aH×α)→Option α
 |[]=>none
 |(i,p)::r=>if i=k then some p else look k r
def ct{α:Type}(k:aH)(p:α):List (aH×α)→List (aH×α)
 |[]=>[(k,p)]
 |(i,q)::r=>if i=k then(i,p)::r else(i,q)::ct k p r
theorem oM(k j:Nat)(p:ai):∀l,get j (put k p l)=if k=j then p else get j l
 |[]=>by simp[get,put]
 |(i,q)::r=>by
  by_cases h:i=k
  ·subst h;by_cases U:i=j<;>simp[get,put,U]
  ·by_cases U:i=j
   ·subst U;simp[get,put,h,kO h]
   ·simp[get,put,h,U,oM k j p r]
theorem iC{α:Type}(k j:aH)(p:α):∀l,look j (ct k p l)=if k=j then some p else look j l
 |[]=>by simp[look,ct]
 |(i,q)::r=>by
  by_cases h:i=k
  ·subst h;by_cases U:i=j<;>simp[look,ct,U]
  ·by_cases U:i=j
   ·subst U;simp[look,ct,h,kO h]
   ·simp[look,ct,h,U,iC k j p r]
structure fv where
 n:Nat
 el:Nat
 sz:Nat
 xs:Option (List ai)
def LJ(w:World)(ν:bc)(o:fv)(v:Value)(us:List Value):Prop:=∀xs,o.xs=some xs→xs.length=o.n∧dw w ν o.sz xs us∧∀bl,v.ownBlock=some bl→∀j,¬ν.A bl j
theorem rI{w w':World}{ν bg:bc}(au:k5 w ν w' bg){o:fv}{v:Value}{us:List Value}(bd:∀bl,v.ownBlock=some bl→∀j,bg.A bl j→ν.A bl j)(h:LJ w ν o v us):LJ w' bg o v us:=fun xs ad=>⟨(h xs ad).1,zT au (h xs ad).2.1,fun bl ae j ag=>(h xs ad).2.2 bl ae j (bd bl ae j ag)⟩
def eb(S:aH→Prop)(o:fv):Prop:= ∀xs,o.xs=some xs→aO S xs
structure bj where
 t:List (Nat×ai)
 b:List (aH×List ai)
 e:List (aH×fv)
 n:Nat
 o:List aH
def fresh(n:Nat)(o:List aH)(k:aH):Prop:=(match k with| .loc m=>n≤m| .obj _=>True)∧k∉o
theorem Ix{n n':Nat}{o o':List aH}(ar:n≤n')(au:∀k∈o,k∈o'){k:aH}(h:fresh n' o' k):fresh n o k:=by unfold fresh at h⊢;exact⟨by cases k<;>simp at h⊢;omega,fun ab=>h.2 (au k ab)⟩
def Md(ν:bc)(b:List (aH×List ai))(e:List (aH×fv))(bl:Nat):Prop:=(∃k,(look k b).isSome∧ν.bx k=some bl)∨(∃g n v,(look g e).isSome∧ν.ow g=some (n,v)∧v.ownBlock=some bl)
structure Good (pr:Nat→Prop) (w:World) (ν:bc) (b:List (aH×List ai)) (e:List (aH×fv)):Prop where
 alt:∀bl o,ν.A bl o→bl<w.heap.size
 box:∀k cs,look k b=some cs→∃bl us el,ν.bx k=some bl∧pr bl∧(∀o,¬ν.A bl o)∧w.heap[bl]? =some (jz cs us el)∧iX w ν cs us.toList
 inj:∀k bD bl,(look k b).isSome→(look bD b).isSome→ν.bx k=some bl→ν.bx bD=some bl→k=bD
 own:∀g o,look g e=some o→∃v us,ν.ow g=some (o.n,v)∧w.ownsRow 0 o.el o.sz v o.n us∧(∀bl,v.ownBlock=some bl→pr bl∧(∀j,ν.A bl j→j<o.n*o.sz))∧LJ w ν o v us
 oinj:∀g eX n n' v v' bl,(look g e).isSome→(look eX e).isSome→ν.ow g=some (n,v)→ν.ow eX=some (n',v')→v.ownBlock=some bl→v'.ownBlock=some bl→g=eX
 obx:∀g k n v bl,(look g e).isSome→(look k b).isSome→ν.ow g=some (n,v)→v.ownBlock=some bl→ν.bx k=some bl→ej
 one:∀k,ν.bx k=none∨ν.ow k=none
 otr:∀bl,Md ν b e bl→∀k j,¬ν.tr k j bl
structure e2 where
 w0:World
 ν0:bc
 mt:Nat→Prop
 N:Nat
 ob:List aH
def e2.pr(C:e2)(bl:Nat):Prop:=C.mt bl∨C.w0.heap.size≤bl
def aiH:aH:= .obj 990001
def fy:aH:= .obj 990002
structure pd (C:e2) (w:World) (ν:bc):Prop where
 os:w.os=C.w0.os
 tape:w.tape=C.w0.tape
 output:w.output=C.w0.output
 size:C.w0.heap.size≤w.heap.size
 block:∀k,k<C.w0.heap.size→¬C.mt k→w.heap[k]? =C.w0.heap[k]?
 keep:∀b o,C.ν0.A b o→ν.A b o∧w.cell? ⟨b,o,none⟩=C.w0.cell? ⟨b,o,none⟩
 fresh:∀b o,ν.A b o→C.ν0.A b o∨C.pr b
 obj:∀n b,C.ν0.bx (.obj n)=some b→ν.bx (.obj n)=some b
 obn:∀n b,C.ν0.bx (.obj n)=some b→ .obj n∈C.ob
 row:∀m n u,C.ν0.ow (.obj m)=some (n,u)→∃n' e0,ν.ow (.obj m)=some (n',e0)∧(n'=n∧e0=u∨n<n')
 obr:∀m n u,C.ν0.ow (.obj m)=some (n,u)→ .obj m∈C.ob
 trd:∀k j bD dx b,ν.tr k j b→ν.tr bD dx b→k=bD∧j=dx
 trb:∀k j b,ν.tr k j b→(k=aiH∨C.w0.heap.size≤b)∧b<w.heap.size
 trn:∀k j b,ν.tr k j b→ν.bx k=none∧ν.ow k=none
 sh:∀b o,C.ν0.A b o→shape w b=shape C.w0 b
theorem CG{ν bg:bc}{g:aH}{n:Nat}{u:Value}(h:∃n' e0,ν.ow g=some (n',e0)∧(n'=n∧e0=u∨n<n'))(au:∀n u,ν.ow g=some (n,u)→∃n' e0,bg.ow g=some (n',e0)∧(n'=n∧e0=u∨n<n')):
  ∃n' e0,bg.ow g=some (n',e0)∧(n'=n∧e0=u∨n<n'):=by
 obtain⟨hq,iH,ak,aA⟩:=h;obtain⟨fX,jh,f1,f2⟩:=au hq iH ak;refine⟨fX,jh,f1,?_⟩;rcases aA with⟨rfl,rfl⟩|aA
 ·exact f2
 ·rcases f2 with⟨rfl,rfl⟩|f2
  ·exact .inr aA
  ·exact .inr (by omega)
structure cO (C:e2) (st:bj) (a:Act) (w:World) (ν:bc):Prop where
 good:Good C.pr w ν st.b st.e
 fr:pd C w ν
 defers:a.defers=[]
 size:a.tmps.size=C.N
 slot:∀i,a6 w ν (get i st.t) (a.tmps.getD i undef)
 new:∀k,fresh st.n st.o k→ν.bx k=none∧ν.ow k=none∧∀j b,¬ν.tr k j b
def eK(d:Option Nat)(p:ai)(t:List (Nat×ai)):List (Nat×ai):=
 match d with
 |some d=>put d p t
 |none=>t
def jc(N:Nat)(d:Option Nat):Bool:=match d with|some d=>decide (d<N)|none=>true
theorem cO.put{C:e2}{st:bj}{a:Act}{w:World}{ν:bc}(h:cO C st a w ν){d:Option Nat}(aK:jc C.N d=true){p:ai}{v:Value}(bF:a6 w ν p v):
  cO C {st with t:=eK d p st.t} (a.put d v) w ν:=by
 cases d with
 |none=>exact h
 |some d=>
  have bq:d<a.tmps.size:=by rw[h.size];simpa[jc]using aK
  refine⟨h.good,h.fr,h.defers,by simpa[Act.put]using h.size,fun i=>?_,h.new⟩;simp only[eK,oM];by_cases e:d=i
  ·subst e;simpa[Act.put,Array.getD_eq_getD_getElem?,bq]using bF
  ·have:=h.slot i;simpa[e,Act.put,Array.getD_eq_getD_getElem?,Array.getElem?_setIfInBounds_ne e]using this
theorem cO.over{C:e2}{st st':bj}{a:Act}{w w':World}{ν bg:bc}(h:cO C st a w ν)(au:k5 w ν w' bg)(aN:st'.t=st.t)(aS:Good C.pr w' bg st'.b st'.e)(aQ:pd C w' bg)
  (ar:∀k,fresh st'.n st'.o k→bg.bx k=none∧bg.ow k=none∧∀j b,¬bg.tr k j b):cO C st' a w' bg:=
 ⟨aS,aQ,h.defers,h.size,fun i=>by rw[aN];exact xC au (h.slot i),ar⟩
inductive dn where
 |t (i:Nat)
 |c (p:ai)
 deriving Inhabited
def cg(t:List (Nat×ai)):dn→ai
 | .t i=>get i t
 | .c p=>p
def Dy:ai→Value→Bool
 | .int k n,.int bD n'=>decide (k=bD∧n=n')
 | .bool b,.bool b0=>b==b0
 | .str s,.string l=>decide (l.data.toList=s∧s.length≤lim)
 | .slice _ .nil [],.slice none 0 0=>true
 | .nilp,.pointer none=>true
 | .tuple [],.tuple ⟨[]⟩=>true
 | .func f [],.func (.func g) ⟨[]⟩ ⟨[]⟩=>f==g
 | .junk,_=>true
 |_,_=>false
theorem Nu(w:World)(ν:bc){p:ai}{v:Value}(h:Dy p v=true):a6 w ν p v:=by
 unfold Dy at h;split at h
 ·simp at h;obtain⟨rfl,rfl⟩:=h;simp[a6]
 ·simp at h;subst h;simp[a6]
 ·rename_i s l;simp at h;obtain⟨J,U⟩:=h;refine⟨?_,U⟩;subst J;simp
 ·simp only[a6];refine⟨⟨none,0,rfl,by simp,by simp,by simp⟩,by simp,(fun _ h=>by cases h),(fun _ _ h=>by cases h),(fun _ h=>by cases h)⟩
 ·simp[a6]
 ·simp[a6,cJ]
 ·simp at h;subst h;simp[a6,cJ]
 ·simp[a6]
 ·cases h
def yb:List ai→List Value→Bool
 |[],[]=>true
 |p::cp,v::a7=>Dy p v&&v.oneCell'&&yb cp a7
 |_,_=>false
def ya:ai→Value→Bool
 | .agg cs,.agg us=>yb cs us.toList
 |p,v=>Dy p v
theorem Nv(w:World)(ν:bc):∀(cp:List ai) (a7:List Value),yb cp a7=true→dd w ν cp a7
 |[],[],_=>by simp[dd]
 |[],_::_,h=>by simp[yb]at h
 |_::_,[],h=>by simp[yb]at h
 |p::cp,v::a7,h=>by simp only[yb,cx]at h;simp only[dd];exact⟨v,a7,rfl,⟨Nu w ν h.1.1,h.1.2⟩,Nv w ν cp a7 h.2⟩
theorem Hs(w:World)(ν:bc){p:ai}{v:Value}(h:ya p v=true):a6 w ν p v:=by
 unfold ya at h;split at h
 ·simp only[a6];exact⟨_,rfl,Nv w ν _ _ h⟩
 ·exact Nu w ν h
def dW:dn→Operand→Bool
 | .t i,.tmp j=>i==j
 | .c p,.const v=>ya p v
 | .c (.func f []),.func g=>f==g
 |_,_=>false
theorem dX{C:e2}{st:bj}{a:Act}{w:World}{ν:bc}(h:cO C st a w ν){x:dn}{o:Operand}(ad:dW x o=true):a6 w ν (cg st.t x) (a.eval o):=by
 unfold dW at ad;split at ad
 ·simp at ad;subst ad;simpa[cg,Act.eval]using h.slot _
 ·simpa[cg,Act.eval]using Hs w ν ad
 ·simp at ad;subst ad;simp[cg,Act.eval,a6,cJ]
 ·cases ad
inductive Ay where
 |int (k:IntKind)
 |bool
 |str
 |slice (e:Nat)
 |struct (dD:List (Nat×Nat))
 |map (k e:Nat)
 |other
 deriving DecidableEq
structure du where
 size:Nat
 bytes:Nat
 kind:Ay
 zero:ai
def Ay.isAgg:Ay→Bool
 | .struct _=>true
 |_=>false
def Ao:List ai→List Value→Bool
 |[],[]=>true
 |p::cp,v::a7=>ya p v&&v.oneCell'&&Ao cp a7
 |_,_=>false
def xV:ai→Value→Bool
 | .agg cs,.agg us=>Ao cs us.toList
 | .agg _,_=>false
 |p,v=>ya p v&&v.oneCell'
def jW:Ay→TypeDesc→Bool
 | .int k,.int bD=>decide (k=bD)
 | .bool,.bool=>true
 | .str,.string=>true
 | .slice e,.slice fD=>e==fD
 | .struct dD,.struct gs=>decide (gs.toList.map (fun f=>(f.offset,f.type))=dD)
 | .map k e,.map bD fD=>k==bD&&e==fD
 | .other,d=>match d with| .struct _| .array _ _| .int _| .bool| .string| .slice _=>false|_=>true
 |_,_=>false
def Qj(P:cy)(gs:Array Field):Bool:=gs.toList.all fun f=>match P.underlying f.type with|some (.int _)=>true|some .string=>true|_=>false
def Po(P:cy)(t:Nat)(gs:Array Field):Bool:=gs.toList.all (fun f=>f.name != "_")&& !P.stoodInHeld t&& !P.eqGuardType P.depth t
def HQ(P:cy)(t:Nat):TypeDesc→Bool
 | .struct gs=> !Qj P gs||Po P t gs
 |_=>true
def Mh(P:cy)(t:Nat)(f:du):Bool:=
 match P.info? t,P.underlying t with
 |some i,some d=>HQ P t d&&i.size==f.size&&i.bytes==f.bytes&&jW f.kind d&&(match i.zero with|some z=>xV f.zero z&&z.cells.size==f.size|none=>false)
 |_,_=>false
def fA(P:cy)(bo:List (Nat×du)):Bool:=bo.all fun x=>Mh P x.1 x.2
def dQ(bo:List (Nat×du))(t:Nat):Option du:=(bo.find? fun x=>x.1==t).map (·.2)
theorem ajs{P:cy}{bo:List (Nat×du)}(h:fA P bo=true){t:Nat}{f:du}(aQ:dQ bo t=some f):Mh P t f=true:=by
 unfold dQ at aQ;cases ad:bo.find? fun x=>x.1==t with
 |none=>simp[ad]at aQ
 |some x=>simp[ad]at aQ;have J:=List.find?_some ad;simp at J;have U:=List.mem_of_find?_eq_some ad;have ao:=jD.1 h x U;rw[←aQ,←J];exact ao
structure Xk (P:cy) (t:Nat) (f:du):Prop where
 cmp:∀d,P.underlying t=some d→HQ P t d=true
 ex:∃i d z,P.info? t=some i∧P.underlying t=some d∧i.size=f.size∧i.bytes=f.bytes∧jW f.kind d=true∧i.zero=some z∧xV f.zero z=true∧z.cells.size=f.size
theorem uG{P:cy}{bo:List (Nat×du)}(h:fA P bo=true){t:Nat}{f:du}(aQ:dQ bo t=some f):Xk P t f:=by
 have h:=ajs h aQ;unfold Mh at h;split at h
 ·rename_i i d J U;simp only[cx,dH]at h;obtain⟨⟨⟨⟨bV,ao⟩,aZ⟩,b1⟩,c6⟩:=h;split at c6
  ·rename_i z bf;simp only[cx,dH]at c6;exact⟨fun cj kU=>by rw[U]at kU;cases kU;exact bV,i,d,z,J,U,ao,aZ,b1,bf,c6.1,c6.2⟩
  ·cases c6
 ·cases h
theorem oC(b o j:Nat):(⟨b,o,none⟩:Addr).add j=⟨b,o+j,none⟩:=by
 unfold Addr.add;split
 ·rename_i h;subst h;rfl
 ·rfl
theorem MH(w:World)(ν:bc):∀(cp:List ai) (a7:List Value),Ao cp a7=true→dd w ν cp a7
 |[],[],_=>by simp[dd]
 |[],_::_,h=>by simp[Ao]at h
 |_::_,[],h=>by simp[Ao]at h
 |p::cp,v::a7,h=>by simp only[Ao,cx]at h;simp only[dd];exact⟨v,a7,rfl,⟨Hs w ν h.1.1,h.1.2⟩,MH w ν cp a7 h.2⟩
def cells:ai→List ai
 | .agg cs=>cs
 |p=>[p]
def eE:ai→Bool
 | .junk| .tuple _=>false
 | .cst (.slice _ _ _)| .cst (.string _)=>true
 | .cst _=>false
 |_=>true
theorem LI{w:World}{ν:bc}{p:ai}{v:Value}(h:a6 w ν p v)(af:eE p=true)(br:∀cs,p≠ .agg cs):v.oneCell'=true∧v.cells= #[v]:=by
 cases p<;>simp only[a6,eE]at h af;case junk=>cases af
 case tuple=>cases af
 case cst c=>subst h;cases v<;>first|exact⟨rfl,rfl⟩|cases af
 case agg cs=>exact absurd rfl (br cs)
 case int=>subst h;exact⟨rfl,rfl⟩
 case bool=>subst h;exact⟨rfl,rfl⟩
 case str=>rw[h.1];exact⟨rfl,rfl⟩
 case slice=>obtain⟨⟨a,cap,J,_⟩,_⟩:=h;subst J;exact⟨rfl,rfl⟩
 case ptr=>obtain⟨b,_,J⟩:=h;subst J;exact⟨rfl,rfl⟩
 case eptr=>obtain⟨b,o,u,J,_⟩:=h;subst J;exact⟨rfl,rfl⟩
 case iface=>obtain⟨u,J,_⟩:=h;subst J;exact⟨rfl,rfl⟩
 case nilp=>subst h;exact⟨rfl,rfl⟩
 case func=>obtain⟨us,J,_⟩:=h;subst J;exact⟨rfl,rfl⟩
 case gmap=>obtain⟨b,_,J⟩:=h;subst J;exact⟨rfl,rfl⟩
 case row=>obtain⟨⟨a,cap,J⟩,_⟩:=h;subst J;exact⟨rfl,rfl⟩
 case rptr=>obtain⟨⟨a,o,J⟩,_⟩:=h;subst J;exact⟨rfl,rfl⟩
theorem uv{w:World}{ν:bc}{p:ai}{v:Value}(h:a6 w ν p v)(af:eE p=true):dd w ν (cells p) v.cells.toList:=by
 by_cases br:∃cs,p= .agg cs
 ·obtain⟨cs,rfl⟩:=br;simp only[a6]at h;obtain⟨us,rfl,U⟩:=h;simpa[cells,ou]using U
 ·have my:∀cs,p≠ .agg cs:=fun cs e=>br ⟨cs,e⟩;obtain⟨J,U⟩:=LI h af my;have av:cells p=[p]:=by cases p<;>first|rfl|exact absurd rfl (my _)
  rw[av,U];simp only[dd];exact⟨v,[],rfl,⟨h,J⟩,rfl⟩
theorem zV{w:World}{ν:bc}:∀{cp:List ai} {a7:List Value},dd w ν cp a7→∀c∈a7,c.oneCell'=true
 |[],a7,h=>by simp only[dd]at h;subst h;simp
 |p::cp,a7,h=>by
  simp only[dd]at h;obtain⟨u,b9,rfl,J,U⟩:=h;intro c av;rcases ga.1 av with rfl|av
  ·exact J.2
  ·exact zV U c av
theorem o4{w:World}{ν:bc}:∀{cp:List ai} {a7:List Value},dd w ν cp a7→a7.length=cp.length
 |[],a7,h=>by simp only[dd]at h;subst h;rfl
 |p::cp,a7,h=>by simp only[dd]at h;obtain⟨u,b9,rfl,_,U⟩:=h;simp[o4 U]
theorem zU{w:World}{ν:bc}:∀(n:Nat) {cp:List ai} {a7:List Value},dd w ν cp a7→dd w ν (cp.drop n) (a7.drop n)
 |0,_,_,h=>by simpa using h
 |n+1,[],a7,h=>by simp only[dd]at h;subst h;simp[dd]
 |n+1,p::cp,a7,h=>by simp only[dd]at h;obtain⟨u,b9,rfl,_,U⟩:=h;simpa using zU n U
theorem CC{w:World}{ν:bc}:∀(n:Nat) {cp:List ai} {a7:List Value},dd w ν cp a7→dd w ν (cp.take n) (a7.take n)
 |0,_,_,_=>by simp[dd]
 |n+1,[],a7,h=>by simp only[dd]at h;subst h;simp[dd]
 |n+1,p::cp,a7,h=>by simp only[dd]at h;obtain⟨u,b9,rfl,J,U⟩:=h;simp only[List.take_succ_cons,dd];exact⟨u,_,rfl,J,CC n U⟩
theorem xz{w:World}{ν:bc}:∀{cp bG:List ai} {a7 us:List Value},dd w ν cp a7→dd w ν bG us→dd w ν (cp++bG) (a7++us)
 |[],bG,a7,us,h,cA=>by simp only[dd]at h;subst h;simpa using cA
 |p::cp,bG,a7,us,h,cA=>by simp only[dd]at h;obtain⟨u,b9,rfl,J,U⟩:=h;simp only[bO,dd];exact⟨u,_,rfl,J,xz U cA⟩
theorem CB{w:World}{ν:bc}:∀(n:Nat) {cp:List ai} {a7:List Value} {p:ai},dd w ν cp a7→cp[n]? =some p→∃v,a7[n]? =some v∧a6 w ν p v∧v.oneCell'=true
 |n,[],_,p,_,bF=>by simp at bF
 |0,q::cp,a7,p,h,bF=>by simp only[dd]at h;obtain⟨u,b9,rfl,J,_⟩:=h;simp at bF;subst bF;exact⟨u,rfl,J.1,J.2⟩
 |n+1,q::cp,a7,p,h,bF=>by simp only[dd]at h;obtain⟨u,b9,rfl,_,U⟩:=h;simpa using CB n U (by simpa using bF)
theorem CE{w:World}{ν:bc}:∀(n:Nat) {cp:List ai} {a7:List Value} {p:ai},cJ w ν cp a7→cp[n]? =some p→∃v,a7[n]? =some v∧a6 w ν p v
 |n,[],_,p,_,bF=>by simp at bF
 |0,q::cp,a7,p,h,bF=>by simp only[cJ]at h;obtain⟨u,b9,rfl,J,_⟩:=h;simp at bF;subst bF;exact⟨u,rfl,J⟩
 |n+1,q::cp,a7,p,h,bF=>by simp only[cJ]at h;obtain⟨u,b9,rfl,_,U⟩:=h;simpa using CE n U (by simpa using bF)
theorem tY{w:World}{A:Nat→Nat→Prop}{b:Nat}:∀{us:List Value} {off j:Nat} {u:Value},lr w A b off us→us[j]? =some u→A b (off+j)∧w.cell? ⟨b,off+j,none⟩=some u
 |[],_,_,_,_,h=>by simp at h
 |x::us,off,0,u,aq,h=>by simp at h;subst h;exact aq.1
 |x::us,off,j+1,u,aq,h=>by have:=tY (j:=j) aq.2 (by simpa using h);rwa[show off+1+j=off+(j+1)from by omega]at this
theorem Fe{w:World}{A:Nat→Nat→Prop}{b:Nat}:∀(n:Nat) {us:List Value} {off:Nat},lr w A b off us→lr w A b (off+n) (us.drop n)
 |0,_,_,h=>by simpa using h
 |n+1,[],_,_=>by simp[lr]
 |n+1,x::us,off,h=>by have:=Fe n h.2;rw[show off+(n+1)=off+1+n from by omega];simpa using this
theorem Fg{w:World}{A:Nat→Nat→Prop}{b:Nat}:∀(n:Nat) {us:List Value} {off:Nat},lr w A b off us→lr w A b off (us.take n)
 |0,_,_,_=>by simp[lr]
 |n+1,[],_,_=>by simp[lr]
 |n+1,x::us,off,h=>by simp only[List.take_succ_cons];exact⟨h.1,Fg n h.2⟩
theorem aiA{P:cy}{w:World}{A:Nat→Nat→Prop}{b off:Nat}{us:List Value}(h:lr w A b off us):(loadCells ⟨b,off,none⟩ us.length).run P w= .ok us.toArray w:=run_loadCells_list w _ us fun j v ag=>by rw[oC];exact(tY h ag).2
theorem aiz{P:cy}{w:World}{b off n:Nat}{us:Array Value}{el:gx}{fr:Nat×Nat}(h:w.heap[b]? =some (.cells us el fr))(ar:off+n≤us.size):
  (loadCells ⟨b,off,none⟩ n).run P w= .ok ((us.toList.drop off).take n).toArray w:=by
 have aq:((us.toList.drop off).take n).length=n:=by simp;omega
 have:=run_loadCells_list (P:=P) w ⟨b,off,none⟩ ((us.toList.drop off).take n) fun j v ag=>by
  rw[oC];have acW:j<n:=by have:=(fG.1 ag).1;omega
  simp only[World.cell?,h,jl,gr,if_false];rw[List.getElem?_take]at ag;simpa[acW]using ag
 rw[aq]at this;exact this
theorem PG{α:Type}(l r:List α)(n sz:Nat)(h:l.length=sz):(l++r).drop ((n+1)*sz)=r.drop (n*sz):=by
 have e:(n+1)*sz=l.length+n*sz:=by rw[h,Nat.succ_mul,Nat.add_comm]
 rw[e,←List.drop_drop];simp
theorem VX{α:Type}(l r:List α)(n sz:Nat)(h:l.length=sz):(l++r).take ((n+1)*sz)=l++r.take (n*sz):=by
 have e:(n+1)*sz=l.length+n*sz:=by rw[h,Nat.succ_mul,Nat.add_comm]
 rw[e,List.take_length_add_append]
theorem F6{w:World}{ν:bc}{sz:Nat}:∀(i:Nat) {xs:List ai} {us:List Value} {p:ai},dw w ν sz xs us→xs[i]? =some p→
  ∃u,a6 w ν p u∧u.cells.size=sz∧u.cells.toList=(us.drop (i*sz)).take sz
 |i,[],_,p,_,bF=>by simp at bF
 |0,x::xs,us,p,h,bF=>by
  simp only[dw]at h;obtain⟨u,b9,rfl,⟨J,U,ao⟩,_⟩:=h;simp at bF;subst bF;refine⟨u,J,U,?_⟩;have:u.cells.toList.length=sz:=by simpa using U
  simp[←this]
 |i+1,x::xs,us,p,h,bF=>by
  simp only[dw]at h;obtain⟨u,b9,rfl,⟨_,U,_⟩,b1⟩:=h;obtain⟨v,g1,g2,g3⟩:=F6 i b1 (by simpa using bF);refine⟨v,g1,g2,?_⟩;have:u.cells.toList.length=sz:=by simpa using U
  rw[g3,PG _ _ _ _ this]
theorem sP{w:World}{ν:bc}{sz:Nat}:∀{xs:List ai} {us:List Value},dw w ν sz xs us→us.length=xs.length*sz
 |[],us,h=>by simp only[dw]at h;subst h;simp
 |x::xs,us,h=>by
  simp only[dw]at h;obtain⟨u,b9,rfl,⟨_,U,_⟩,b1⟩:=h;have:u.cells.toList.length=sz:=by simpa using U
  rw[pa,this,sP b1,nB,Nat.succ_mul];omega
theorem xy{w:World}{ν:bc}{sz:Nat}:∀{xs:List ai} {us:List Value},dw w ν sz xs us→∀c∈us,c.oneCell'=true
 |[],us,h=>by simp only[dw]at h;subst h;simp
 |x::xs,us,h=>by
  simp only[dw]at h;obtain⟨u,b9,rfl,⟨_,_,ao⟩,b1⟩:=h;intro c av;rcases ja.1 av with av|av
  ·exact ao c av
  ·exact xy b1 c av
theorem CA{w:World}{ν:bc}{sz:Nat}:∀{cp bG:List ai} {a7 us:List Value},dw w ν sz cp a7→dw w ν sz bG us→dw w ν sz (cp++bG) (a7++us)
 |[],bG,a7,us,h,cA=>by simp only[dw]at h;subst h;simpa using cA
 |p::cp,bG,a7,us,h,cA=>by simp only[dw]at h;obtain⟨u,b9,rfl,J,U⟩:=h;simp only[bO,dw];exact⟨u,b9++us,by simp,J,CA U cA⟩
theorem Vq{w:World}{ν:bc}{sz:Nat}:∀(n:Nat) {xs:List ai} {us:List Value},dw w ν sz xs us→dw w ν sz (xs.drop n) (us.drop (n*sz))
 |0,_,_,h=>by simpa using h
 |n+1,[],us,h=>by simp only[dw]at h;subst h;simp[dw]
 |n+1,x::xs,us,h=>by
  simp only[dw]at h;obtain⟨u,b9,rfl,⟨_,U,_⟩,b1⟩:=h;have:u.cells.toList.length=sz:=by simpa using U
  rw[PG _ _ _ _ this];simpa using Vq n b1
theorem Vt{w:World}{ν:bc}{sz:Nat}:∀(n:Nat) {xs:List ai} {us:List Value},dw w ν sz xs us→dw w ν sz (xs.take n) (us.take (n*sz))
 |0,_,_,_=>by simp[dw]
 |n+1,[],us,h=>by simp only[dw]at h;subst h;simp[dw]
 |n+1,x::xs,us,h=>by
  simp only[dw]at h;obtain⟨u,b9,rfl,⟨J,U,ao⟩,b1⟩:=h;have:u.cells.toList.length=sz:=by simpa using U
  simp only[List.take_succ_cons,dw];refine⟨u,b9.take (n*sz),?_,⟨J,U,ao⟩,Vt n b1⟩;rw[VX _ _ _ _ this]
def isAgg(sz:Nat)(p:ai):Prop:= ∃cs,p= .agg cs∧cs.length=sz
def xD(agg:Bool)(sz dy n i f:Nat):Option fv→Option (Prop×ai)
 |some ⟨n',_,iY,some xs⟩=>if n'=n∧iY=dy then
   (match xs[i]? with
    |some p=>if agg then some (eE p=true∧f+sz≤(cells p).length,.agg (((cells p).drop f).take sz))else((cells p)[f]?).map fun q=>(eE p=true,q)
    |none=>none)else none
 |_=>none
def me(b:List (aH×List ai))(e:List (aH×fv))(agg:Bool)(sz:Nat):ai→Option (Prop×ai)
 | .rptr dy k n i f=>xD agg sz dy n i f (look k e)
 | .ptr k off=>
  match look k b with
  |some cs=>if agg then some (hE cs=true∧off+sz≤cs.length,.agg ((cs.drop off).take sz))else(cs[off]?).map fun p=>(hE cs=true,p)
  |none=>none
 | .eptr p=>if agg then some (isAgg sz p,p)else some (eE p=true∧cells p=[p],p)
 |_=>none
def A2(agg:Bool)(sz:Nat):ai→Option (Prop×ai)
 | .eptr p=>if agg then some (isAgg sz p,p)else some (eE p=true∧cells p=[p],p)
 |_=>none
theorem aba{b:List (aH×List ai)}{e:List (aH×fv)}{agg:Bool}{sz:Nat}{p:ai}{r:Prop×ai}(h:A2 agg sz p=some r):me b e agg sz p=some r:=by
 cases p<;>simp only[A2]at h<;>first|cases h;done|skip
 simpa only[me]using h
theorem aeV{b:List (aH×List ai)}{e:List (aH×fv)}{agg:Bool}{sz:Nat}{p:ai}{r:Prop×ai}(h:me b [] agg sz p=some r):me b e agg sz p=some r:=by cases p<;>simp only[me]at h⊢ <;>first|exact h|(simp[look,xD]at h)
def po(off:Nat)(agg:Bool)(sz:Nat):ai→Option (Prop×ai)
 | .ptr k o=>some (True,.ptr k (o+off))
 | .rptr dy k n i f=>some (True,.rptr dy k n i (f+off))
 | .eptr (.agg cs)=>if agg then some (off+sz≤cs.length,.eptr (.agg ((cs.drop off).take sz)))else(cs[off]?).map fun p=>(eE p=true∧cells p=[p],.eptr p)
 |_=>none
def qY(off:Nat)(agg:Bool)(sz:Nat):ai→Option (Prop×ai)
 | .agg cs=>if agg then some (off+sz≤cs.length,.agg ((cs.drop off).take sz))else(cs[off]?).map fun p=>(True,p)
 |_=>none
def y7(sz:Nat):ai→ai→Option (Prop×ai)
 | .slice dy _ xs,.int _ i=>if dy=sz then some (0≤i∧i<xs.length,.eptr (xs.getD i.toNat .junk))else none
 | .row dy k n,.int _ i=>if dy=sz then some (0≤i∧i<n,.rptr dy k n i.toNat 0)else none
 |_,_=>none
def Gs:ai→ai→Option (Prop×ai)
 | .str s,.int _ i=>some (0≤i∧i<s.length,.int .u8 (s.getD i.toNat 0).toNat)
 |_,_=>none
def qw(DY:Int):Option ai→Option Int
 |none=>some DY
 |some (.int _ i)=>some i
 |_=>none
def Gx(x:ai)(lo hi:Option ai):Option (Prop×ai):=
 match x with
 | .str s=>match qw 0 lo,qw s.length hi with
  |some l,some h=>some (0≤l∧l≤h∧h≤s.length,.str ((s.take h.toNat).drop l.toNat))
  |_,_=>none
 |_=>none
def Fo(sz:Nat)(x:ai)(lo hi:Option ai):Option (Prop×ai):=
 match x with
 | .slice dy _ xs=>if dy=sz then match qw 0 lo,qw xs.length hi with
  |some l,some h=>some (0≤l∧l≤h∧h≤xs.length,.slice sz .no ((xs.take h.toNat).drop l.toNat))
  |_,_=>none else none
 |_=>none
def n7(n:Int):Prop:= -9223372036854775808≤n∧n≤9223372036854775807
def cb(op:BinOp)(wr:Bool)(k:IntKind)(a b:Int):Option (Prop×ai):=
 match op with
 | .add=>if wr then some (True,.int k (k.wrap (a+b)))else some (k= .i64∧n7 (a+b),.int .i64 (a+b))
 | .sub=>if wr then some (True,.int k (k.wrap (a-b)))else some (k= .i64∧n7 (a-b),.int .i64 (a-b))
 | .mul=>if wr then some (True,.int k (k.wrap (a*b)))else some (k= .i64∧n7 (a*b),.int .i64 (a*b))
 | .quo=>some (b≠0,.int k (k.wrap (a.tdiv b)))
 | .rem=>some (b≠0,.int k (a.tmod b))
 | .eql=>some (True,.bool (a==b))
 | .neq=>some (True,.bool (a !=b))
 | .lss=>some (True,.bool (decide (a<b)))
 | .leq=>some (True,.bool (decide (a≤b)))
 | .gtr=>some (True,.bool (decide (b<a)))
 | .geq=>some (True,.bool (decide (b≤a)))
 | .and=>some (True,.int k (k.wrap (lz k.bits a&&& lz k.bits b).toNat))
 | .or=>some (True,.int k (k.wrap (lz k.bits a|||lz k.bits b).toNat))
 | .xor=>some (True,.int k (k.wrap (lz k.bits a ^^^ lz k.bits b).toNat))
 |_=>none
def Gy(op:BinOp)(a b:List cV):Option (Prop×ai):=
 match op with
 | .add=>some (a.length+b.length≤lim,.str (a++b))
 | .eql=>some (True,.bool (a==b))
 | .neq=>some (True,.bool (!(a==b)))
 | .lss=>some (True,.bool (gZ a b))
 | .leq=>some (True,.bool (gZ a b||a==b))
 | .gtr=>some (True,.bool (!(gZ a b||a==b)))
 | .geq=>some (True,.bool (!gZ a b))
 |_=>none
def bY(op:BinOp)(wr:Bool):ai→ai→Option (Prop×ai)
 | .int k a,.int bD b=>match op with
  | .shl=>some (0≤b,.int k (k.wrap (a*2 ^ (min b.toNat k.bits))))
  | .shr=>some (0≤b,.int k (a.fdiv (2 ^ (min b.toNat k.bits))))
  |_=>if k=bD then cb op wr k a b else none
 | .str a,.str b=>Gy op a b
 |_,_=>none
def nu(cs:List ai)(off:Nat)(cp:List ai):List ai:=cs.take off++cp++cs.drop (off+cp.length)
def tq(t:List (Nat×ai)):List ai→List (Nat×Nat×dn)→Option (Prop×List ai)
 |cs,[]=>some (True,cs)
 |cs,(off,sz,x)::r=>
  let p:=cg t x
  match tq t (nu cs off (cells p)) r with
  |some (c,cs')=>some ((eE p=true∧(cells p).length=sz∧off+sz≤cs.length)∧c,cs')
  |none=>none
def FK(c x y:ai):Option (Prop×ai):=
 match c with
 | .bool b=>match x,y with
  | .bool u,.bool v=>some (True,.bool (cond b u v))
  |p,q=>match b with
   |true=>some (True,p)
   |false=>some (True,q)
 |_=>none
def FB:ai→Option (Prop×ai)
 | .bool b=>some (True,.bool (!b))
 |_=>none
def Fy:ai→Option (Prop×ai)
 | .int k n=>some (True,.int k (k.wrap (0-n)))
 |_=>none
def yn(i:Nat):ai→Option (Prop×ai)
 | .tuple a7=>(a7[i]?).map fun p=>(True,p)
 |_=>none
def zj:ai→Option (Prop×ai)
 | .slice _ _ xs=>some (True,.int .i64 xs.length)
 | .row _ _ n=>some (True,.int .i64 n)
 | .cst (.slice _ n _)=>some (True,.int .i64 n)
 |_=>none
def CR:ai→Option (Prop×ai)
 | .str s=>some (True,.int .i64 s.length)
 | .cst (.string s)=>some (True,.int .i64 s.size)
 |_=>none
def DT(k:IntKind):ai→Option (Prop×ai)
 | .int _ n=>some (True,.int k (k.wrap n))
 |_=>none
def zu:ai→Option (Prop×ai)
 | .ptr k o=>some (True,.ptr k o)
 | .eptr p=>some (True,.eptr p)
 | .func f cs=>some (True,.func f cs)
 |_=>none
def Fx:ai→ai→Option (Prop×ai)
 | .int k a,.int bD b=>if k=bD then some (True,.int k (if b<a then b else a))else none
 |_,_=>none
def jV:List Bool→List ai→List ai→Option Bool
 |[],[],[]=>some true
 |false::r,.int k a::as,.int bD b::eL=>if k=bD then(jV r as eL).map fun q=>(a==b)&&q else none
 |true::r,.str a::as,.str b::eL=>(jV r as eL).map fun q=>(a==b)&&q
 |_,_,_=>none
inductive jo where
 |i
 |s
 |a (dD:List Bool)
 deriving DecidableEq
def sA:jo→ai→ai→Option Bool
 | .i,.int k a,.int bD b=>if k=bD then some (a==b)else none
 | .s,.str a,.str b=>some (a==b)
 | .a dD,.agg as,.agg eL=>jV dD as eL
 |_,_,_=>none
def tS:jo→ai→Bool
 | .a dD,.agg as=>(jV dD as as).isSome
 | .a _,_=>false
 |_,_=>true
@[simp] theorem SM(k:ai):tS .i k=true:=by cases k<;>rfl
@[simp] theorem amU(k:ai):tS .s k=true:=by cases k<;>rfl
def vv(ck:jo)(k:ai):List ai→Option (Option ai)
 |bD::v::r=>match sA ck k bD with
  |some true=>some (some v)
  |some false=>vv ck k r
  |none=>none
 |_=>some none
def nq(b:aH→Option (List ai))(ck:jo)(zero:ai)(ok:Bool)(x k:ai):Option (Prop×ai):=
 match x with
 | .gmap key=>match b key with
  |some (.hdm _ _::kvs)=>if tS ck k=false then none else match vv ck k kvs with
   |some (some v)=>some (True,if ok then .tuple [v,.bool true]else v)
   |some none=>some (True,if ok then .tuple [zero,.bool false]else zero)
   |none=>none
  |_=>none
 |_=>none
def ud(b:aH→Option (List ai))(x:ai):Option (Prop×ai):=
 match x with
 | .gmap key=>match b key with
  |some (.hdm _ borns::_)=>some (True,.int .i64 borns.length)
  |_=>none
 |_=>none
def lW(neg:Bool):Option (List Bool)→ai→ai→Option (Prop×ai)
 |none,.bool a,.bool b=>some (True,.bool (if neg then a !=b else a==b))
 |some dD,.agg as,.agg eL=>(jV dD as eL).map fun q=>(True,.bool (if neg then !q else q))
 |_,_,_=>none
def Fs:ai→ai→Option (Prop×ai)
 | .int k a,.int bD b=>if k=bD then some (True,.int k (if a<b then b else a))else none
 |_,_=>none
def ue(ck:jo)(k v:ai):List ai→Option (Option (List ai))
 |bD::v'::r=>match sA ck k bD with
  |some true=>some (some (k::v::r))
  |some false=>match ue ck k v r with
   |some (some eD)=>some (some (bD::v'::eD))
   |some none=>some none
   |none=>none
  |none=>none
 |_=>some none
def mf(n:Nat):List Nat→List ai→Option ai
 |b::eL,k::v::r=>if b=n then some (.tuple [k,v])else mf n eL r
 |_,_=>none
def oY(b:aH→Option (List ai))(x:ai):Option (Prop×ai):=
 match x with
 | .ptr fb 0=>match b fb with
  |some [.hdi _ seen last,.gmap mk]=>match b mk with
   |some (.hdm clock borns::kvs)=>match seen.getLast? with
    |some n=>(mf n borns kvs).map fun p=>(clock=last,p)
    |none=>none
   |_=>none
  |_=>none
 |_=>none
theorem Tw{f g:aH→Option (List ai)}(h:∀k,f k≠none→g k=f k){ck:jo}{zero:ai}{ok:Bool}{x k:ai}{r:Prop×ai}(he:nq f ck zero ok x k=some r):nq g ck zero ok x k=some r:=by
 unfold nq at he⊢;split at he
 ·rename_i key;cases aQ:f key with
  |none=>simp[aQ]at he
  |some cs=>rw[h key (by rw[aQ];simp),aQ];rw[aQ]at he;exact he
 ·cases he
theorem afo{f g:aH→Option (List ai)}(h:∀k,f k≠none→g k=f k){x:ai}{r:Prop×ai}(he:ud f x=some r):ud g x=some r:=by
 unfold ud at he⊢;split at he
 ·rename_i key;cases aQ:f key with
  |none=>simp[aQ]at he
  |some cs=>rw[h key (by rw[aQ];simp),aQ];rw[aQ]at he;exact he
 ·cases he
theorem ae8{f g:aH→Option (List ai)}(h:∀k,f k≠none→g k=f k){x:ai}{r:Prop×ai}(he:oY f x=some r):oY g x=some r:=by
 unfold oY at he⊢;split at he
 ·rename_i fb;cases aQ:f fb with
  |none=>simp[aQ]at he
  |some cs=>
   simp only[h fb (by rw[aQ];simp),aQ]at he⊢;split at he
   ·rename_i since seen last mk da;cases tF:f mk with
    |none=>simp[tF]at he
    |some eH=>simp only[h mk (by rw[tF];simp),tF]at he⊢;exact he
   ·cases he
 ·cases he
inductive fL where
 |mov (x:dn)
 |pick (c x y:dn)
 |load (agg:Bool) (sz:Nat) (x:dn)
 |faddr (off:Nat) (agg:Bool) (sz:Nat) (x:dn)
 |fld (off:Nat) (agg:Bool) (sz:Nat) (x:dn)
 |iaddr (sz:Nat) (x i:dn)
 |sidx (x i:dn)
 |ssl (x:dn) (lo hi:Option dn)
 |lsl (sz:Nat) (x:dn) (lo hi:Option dn)
 |bin (op:BinOp) (wr:Bool) (x y:dn)
 |notB (x:dn)
 |neg (x:dn)
 |conv (k:IntKind) (x:dn)
 |ext (i:Nat) (x:dn)
 |len (x:dn)
 |slen (x:dn)
 |build (zero:List ai) (parts:List (Nat×Nat×dn))
 |nck (x:dn)
 |min2 (x y:dn)
 |mkf (n:Nat) (xs:List dn)
 |mget (ck:jo) (zero:ai) (ok:Bool) (x k:dn)
 |ment (x:dn)
 |mlen (x:dn)
 |beq (neg:Bool) (dD:Option (List Bool)) (x y:dn)
 |max2 (x y:dn)
 |mkif (t:Nat) (x:dn)
 |loadB (agg:Bool) (sz:Nat) (x:dn)
 |mgetB (ck:jo) (zero:ai) (ok:Bool) (x k:dn)
 |loadZ (agg:Bool) (sz:Nat) (x:dn)
def gS(st:bj):fL→Option (Prop×ai)
 | .mov x=>some (True,cg st.t x)
 | .pick c x y=>FK (cg st.t c) (cg st.t x) (cg st.t y)
 | .load agg sz x=>me st.b st.e agg sz (cg st.t x)
 | .faddr off agg sz x=>po off agg sz (cg st.t x)
 | .fld off agg sz x=>qY off agg sz (cg st.t x)
 | .iaddr sz x i=>y7 sz (cg st.t x) (cg st.t i)
 | .sidx x i=>Gs (cg st.t x) (cg st.t i)
 | .ssl x lo hi=>Gx (cg st.t x) (lo.map (cg st.t)) (hi.map (cg st.t))
 | .lsl sz x lo hi=>Fo sz (cg st.t x) (lo.map (cg st.t)) (hi.map (cg st.t))
 | .bin op wr x y=>bY op wr (cg st.t x) (cg st.t y)
 | .notB x=>FB (cg st.t x)
 | .neg x=>Fy (cg st.t x)
 | .conv k x=>DT k (cg st.t x)
 | .ext i x=>yn i (cg st.t x)
 | .len x=>zj (cg st.t x)
 | .slen x=>CR (cg st.t x)
 | .build zero parts=>(tq st.t zero parts).map fun(c,cs)=>(c,.agg cs)
 | .nck x=>zu (cg st.t x)
 | .min2 x y=>Fx (cg st.t x) (cg st.t y)
 | .mkf n xs=>some (True,.func n (xs.map (cg st.t)))
 | .mget ck zero ok x k=>nq (fun k=>look k st.b) ck zero ok (cg st.t x) (cg st.t k)
 | .ment x=>oY (fun k=>look k st.b) (cg st.t x)
 | .mlen x=>ud (fun k=>look k st.b) (cg st.t x)
 | .beq neg dD x y=>lW neg dD (cg st.t x) (cg st.t y)
 | .max2 x y=>Fs (cg st.t x) (cg st.t y)
 | .mkif t x=>some (True,.iface t (cg st.t x))
 | .loadB agg sz x=>me st.b [] agg sz (cg st.t x)
 | .mgetB ck zero ok x k=>nq (fun k=>look k st.b) ck zero ok (cg st.t x) (cg st.t k)
 | .loadZ agg sz x=>A2 agg sz (cg st.t x)
def zH(bo:List (Nat×du))(dD:List (Nat×Nat)):List (Nat×Nat×dn)→List (Nat×Operand)→Bool
 |[],[]=>true
 |(off,sz,x)::r,(i,o)::s=>(match dD[i]? with|some (vD,t)=>off==vD&&((dQ bo t).map (·.size))==some sz|none=>false)&&dW x o&&zH bo dD r s
 |_,_=>false
def GW:ai→ai→Bool
 | .int k n,.int bD n'=>decide (k=bD∧n=n')
 | .bool b,.bool b0=>b==b0
 | .str [],.str []=>true
 | .slice a .nil [],.slice b .nil []=>a==b
 | .nilp,.nilp=>true
 | .junk,.junk=>true
 |_,_=>false
def xU:List ai→List ai→Bool
 |[],[]=>true
 |c::cs,d::eH=>GW c d&&xU cs eH
 |_,_=>false
def Ap:ai→ai→Bool
 | .agg cs,.agg eH=>xU cs eH
 | .agg _,_=>false
 |p,q=>GW p q
def xq:List dn→List Operand→Bool
 |[],[]=>true
 |x::xs,o::os=>dW x o&&xq xs os
 |_,_=>false
def yv(bo:List (Nat×du)):Nat→List Bool→List (Nat×Nat)→Bool
 |_,[],[]=>true
 |n,b::r,(off,t)::dD=>off==n&&(match dQ bo t with|some ⟨_,_,.int _,_⟩=> !b|some ⟨_,_,.str,_⟩=>b|_=>false)&&yv bo (n+1) r dD
 |_,_,_=>false
def D8(bo:List (Nat×du))(dD:List Bool)(t:Nat):Bool:=match dQ bo t with
 |some ⟨_,_,.struct gs,_⟩=>yv bo 0 dD gs
 |_=>false
def xa(bo:List (Nat×du))(ck:jo)(t:Nat):Bool:=match ck with
 | .i=>(match dQ bo t with|some ⟨_,_,.int _,_⟩=>true|_=>false)
 | .s=>(match dQ bo t with|some ⟨_,_,.str,_⟩=>true|_=>false)
 | .a dD=>D8 bo dD t
def MK:List ai→ai→Bool
 |cs,.agg eH=>xU cs eH
 |_,_=>false
def vF:Option dn→Option Operand→Bool
 |none,none=>true
 |some x,some o=>dW x o
 |_,_=>false
def C0(bo:List (Nat×du)):fL→Op→Bool
 | .mov x,.move o=>dW x o
 | .mov x,.assign o=>dW x o
 | .pick c x y,.pick cd WT MF=>dW c cd&&dW x WT&&dW y MF
 | .load agg sz x,.load t o=>(match dQ bo t with|some f=>f.size==sz&&f.kind.isAgg==agg|none=>false)&&dW x o
 | .faddr off agg sz x,.fieldAddr s o i=>
  (match dQ bo s with
   |some ⟨_,_,.struct dD,_⟩=>(match dD[i]? with|some (vD,t)=>off==vD&&(match dQ bo t with|some f=>f.size==sz&&f.kind.isAgg==agg&&sz !=0|none=>false)|none=>false)
   |_=>false)&&dW x o
 | .fld off agg sz x,.field s o i=>
  (match dQ bo s with
   |some ⟨_,_,.struct dD,_⟩=>(match dD[i]? with|some (vD,t)=>off==vD&&(match dQ bo t with|some f=>f.size==sz&&f.kind.isAgg==agg|none=>false)|none=>false)
   |_=>false)&&dW x o
 | .iaddr sz x i,.indexAddr t o j=>(match dQ bo t with|some ⟨_,_,.slice e,_⟩=>(match dQ bo e with|some f=>f.size==sz|none=>false)|_=>false)&&dW x o&&dW i j
 | .sidx x i,.index t o j=>(match dQ bo t with|some ⟨_,_,.str,_⟩=>true|_=>false)&&dW x o&&dW i j
 | .ssl x lo hi,.slice t o l h none=>(match dQ bo t with|some ⟨_,_,.str,_⟩=>true|_=>false)&&dW x o&&vF lo l&&vF hi h
 | .lsl sz x lo hi,.slice t o l h none=>(match dQ bo t with|some ⟨_,_,.slice e,_⟩=>(match dQ bo e with|some f=>f.size==sz|none=>false)|_=>false)&&dW x o&&vF lo l&&vF hi h
 | .bin op _ x y,.binOp Ua _ o o' _=>decide (op=Ua)&&dW x o&&dW y o'
 | .notB x,.unOp op _ o=>decide (op= .not)&&dW x o
 | .neg x,.unOp op _ o=>decide (op= .neg)&&dW x o
 | .conv k x,.convert s d o=>(match dQ bo s,dQ bo d with|some ⟨_,_,.int _,_⟩,some ⟨_,_,.int bD,_⟩=>decide (k=bD)|_,_=>false)&&dW x o
 | .ext i x,.extract o j=>i==j&&dW x o
 | .len x,.call ⟨.builtin .len,⟨[o]⟩,⟨[t]⟩⟩=>(match dQ bo t with|some ⟨_,_,.slice _,_⟩=>true|_=>false)&&dW x o
 | .slen x,.call ⟨.builtin .len,⟨[o]⟩,⟨[t]⟩⟩=>(match dQ bo t with|some ⟨_,_,.str,_⟩=>true|_=>false)&&dW x o
 | .build zero parts,.build t cp=>(match dQ bo t with|some ⟨_,_,.struct dD,z⟩=>MK zero z&&(dD.all fun x=>(dQ bo x.2).isSome)&&zH bo dD parts cp.toList|_=>false)
 | .nck x,.nilCheck o=>dW x o
 | .min2 x y,.call ⟨.builtin .min,⟨[o,o']⟩,⟨[_,_]⟩⟩=>dW x o&&dW y o'
 | .mkf n xs,.makeFunc (.func m) ⟨[]⟩ os=>n==m&&xq xs os.toList
 | .mget ck zero ok x k,.lookup t o o' FC=>ok==FC&&(match dQ bo t with|some ⟨_,_,.map mc oK,_⟩=>xa bo ck mc&&(match dQ bo oK with|some f=>Ap zero f.zero|none=>false)|_=>false)&&dW x o&&dW k o'
 | .ment x,.entry o=>dW x o
 | .mlen x,.call ⟨.builtin .len,⟨[o]⟩,⟨[t]⟩⟩=>(match dQ bo t with|some ⟨_,_,.map _ _,_⟩=>true|_=>false)&&dW x o
 | .beq neg dD x y,.binOp op t o o' _=>decide (op=if neg then .neq else .eql)&&(match dD with|none=>(match dQ bo t with|some ⟨_,_,.bool,_⟩=>true|_=>false)|some dD=>D8 bo dD t)&&dW x o&&dW y o'
 | .max2 x y,.call ⟨.builtin .max,⟨[o,o']⟩,⟨[_,_]⟩⟩=>dW x o&&dW y o'
 | .mkif t x,.makeInterface dE o=>t==dE&&(match dQ bo t with|some ⟨_,_,.slice _,_⟩=>true|_=>false)&&dW x o
 | .loadB agg sz x,.load t o=>(match dQ bo t with|some f=>f.size==sz&&f.kind.isAgg==agg|none=>false)&&dW x o
 | .loadZ agg sz x,.load t o=>(match dQ bo t with|some f=>f.size==sz&&f.kind.isAgg==agg|none=>false)&&dW x o
 | .mgetB ck zero ok x k,.lookup t o o' FC=>ok==FC&&(match dQ bo t with|some ⟨_,_,.map mc oK,_⟩=>xa bo ck mc&&(match dQ bo oK with|some f=>Ap zero f.zero|none=>false)|_=>false)&&dW x o&&dW k o'
 |_,_=>false
end Go.Pv
namespace Go.Pv
open Go Go.RowKit
theorem H7(P:cy)(w:World)(op:BinOp)(t:gx)(x y:Operand)(k bD:IntKind)(m n:Int):(eqGuard op t x y (.int k m) (.int bD n)).run P w= .ok () w:=by cases op<;>rfl
theorem Yn(P:cy)(w:World)(op:BinOp)(t:gx)(x y:Operand)(m n:ByteArray):(eqGuard op t x y (.string m) (.string n)).run P w= .ok () w:=by cases op<;>rfl
theorem ajv(l:List cV):(⟨l.toArray⟩:ByteArray).toList=l:=by simp
theorem XB(a b:List cV):(⟨a.toArray⟩:ByteArray)++(⟨b.toArray⟩:ByteArray)=⟨(a++b).toArray⟩:=by apply akD;simp
theorem Zh(a:List cV)(l h:Nat):(⟨a.toArray⟩:ByteArray).extract l h=⟨((a.take h).drop l).toArray⟩:=by apply akD;simp[List.drop_take]
theorem CQ(a:List cV):(⟨a.toArray⟩:ByteArray).size=a.length:=by simp[apM]
section
variable {P:cy} {w:World} {r:Sem Value}
theorem q0{k:IntKind}{x:Int}(h:r.run P w= .ok (.int k x) w):∃v,r.run P w= .ok v w∧∀ν,a6 w ν (.int k x) v:=⟨_,h,fun ν=>by simp[a6]⟩
theorem QL{x:Bool}(h:r.run P w= .ok (.bool x) w):∃v,r.run P w= .ok v w∧∀ν,a6 w ν (.bool x) v:=⟨_,h,fun ν=>by simp[a6]⟩
end
theorem ad7(P:cy)(w:World){op:BinOp}{wr:Bool}{k:IntKind}{a b:Int}{c:Prop}{p:ai}(he:cb op wr k a b=some (c,p))(av:c)(t:gx):
  ∃v,(binOp op t (.int k a) (.int k b)).run P w= .ok v w∧∀ν,a6 w ν p v:=by
 cases op<;>simp only[cb]at he;case add=>
  cases wr<;>simp only[if_true,gr,if_false]at he<;>cases he
  ·obtain⟨rfl,h⟩:=av;exact q0 (by simp[binOp,Op.intArith,lR _ h])
  ·exact q0 (by simp[binOp,Op.intArith])
 case sub=>
  cases wr<;>simp only[if_true,gr,if_false]at he<;>cases he
  ·obtain⟨rfl,h⟩:=av;exact q0 (by simp[binOp,Op.intArith,lR _ h])
  ·exact q0 (by simp[binOp,Op.intArith])
 case mul=>
  cases wr<;>simp only[if_true,gr,if_false]at he<;>cases he
  ·obtain⟨rfl,h⟩:=av;exact q0 (by simp[binOp,Op.intArith,lR _ h])
  ·exact q0 (by simp[binOp,Op.intArith])
 case quo=>cases he;exact q0 (by simp[binOp,Op.intDiv,av])
 case rem=>cases he;exact q0 (by simp[binOp,Op.intDiv,av])
 case and=>cases he;exact q0 (by simp only[binOp,Op.intBits,ne_eq,not_true_eq_false,if_false,fZ])
 case or=>cases he;exact q0 (by simp only[binOp,Op.intBits,ne_eq,not_true_eq_false,if_false,fZ])
 case xor=>cases he;exact q0 (by simp only[binOp,Op.intBits,ne_eq,not_true_eq_false,if_false,fZ])
 all_goals cases he
 all_goals exact QL (by simp only[binOp,Op.intCmp,ne_eq,not_true_eq_false,if_false,fZ,gt_iff_lt,ge_iff_le])
theorem ajh(P:cy)(w:World){op:BinOp}{a b:List cV}{c:Prop}{p:ai}(he:Gy op a b=some (c,p))(av:c)(t:gx):
  ∃v,(binOp op t (.string ⟨a.toArray⟩) (.string ⟨b.toArray⟩)).run P w= .ok v w∧∀ν,a6 w ν p v:=by
 cases op<;>simp only[Gy]at he;case add=>
  cases he;refine⟨.string ⟨(a++b).toArray⟩,?_,fun ν=>by simp only[a6];exact⟨trivial,by simpa using av⟩⟩;have J:¬(((⟨a.toArray⟩:ByteArray).size+(⟨b.toArray⟩:ByteArray).size:Nat):Int)>mi.max:=by
   have:mi.max=9223372036854775807:=by decide
   rw[this,CQ,CQ];simp only[lim]at av;omega
  simp only[binOp,Op.stringOp,J,if_false,fZ,XB]
 all_goals cases he
 all_goals exact QL (by simp only[binOp,Op.stringOp,ajv,fZ])
theorem XQ(P:cy)(w:World)(ν:bc){op:BinOp}{wr:Bool}{x y:ai}{c:Prop}{p:ai}(he:bY op wr x y=some (c,p))(av:c)(t:gx){u v:Value}(hu:a6 w ν x u)(aJ:a6 w ν y v)(o o':Operand):
  ∃r,(do eqGuard op t o o' u v;binOp op t u v).run P w= .ok r w∧a6 w ν p r:=by
 unfold bY at he;split at he
 ·rename_i k a bD b;simp only[a6]at hu aJ;subst hu;subst aJ;split at he
  ·cases he;refine⟨_,?_,by simp[a6];rfl⟩;simp[binOp,Op.shift,H7,Int.not_lt.2 av]
  ·cases he;refine⟨_,?_,by simp[a6];rfl⟩;simp[binOp,Op.shift,H7,Int.not_lt.2 av]
  ·split at he
   ·rename_i ab;subst ab;obtain⟨r,J,U⟩:=ad7 P w he av t;exact⟨r,by simp[H7,J],U ν⟩
   ·cases he
 ·simp only[a6]at hu aJ;rw[hu.1,aJ.1];obtain⟨r,J,U⟩:=ajh P w he av t;exact⟨r,by simp[Yn,J],U ν⟩
 ·cases he
theorem It{w:World}{ν:bc}:∀(v:List Value) (i off:Nat) (cs:Array Value),off+i+v.length≤cs.size→
  ((v.zipIdx i).foldl (fun cs (x:Value×Nat)=>cs.setIfInBounds (off+x.2) x.1) cs).toList=cs.toList.take (off+i)++v++cs.toList.drop (off+i+v.length)
 |[],i,off,cs,_=>by simp
 |u::v,i,off,cs,h=>by
  simp only[List.zipIdx_cons,List.foldl_cons];rw[It (w:=w) (ν:=ν) v (i+1) off _ (by simp at h⊢;omega)];have bq:off+i<cs.toList.length:=by simp at h⊢;omega
  simp only[Array.toList_setIfInBounds];have ak:(cs.toList.set (off+i) u).take (off+(i+1))=cs.toList.take (off+i)++[u]:=by rw[show off+(i+1)=(off+i)+1 from by omega,List.take_succ_eq_append_getElem (by simpa using bq)];simp[List.take_set_of_le (e1 _)]
  have aA:(cs.toList.set (off+i) u).drop (off+(i+1)+v.length)=cs.toList.drop (off+i+(u::v).length):=by rw[List.drop_set_of_lt (by omega)];congr 1;simp;omega
  rw[ak,aA];simp
theorem VF{w:World}{ν:bc}{C:e2}{st:bj}{a:Act}(aI:cO C st a w ν){bo:List (Nat×du)}{dD:List (Nat×Nat)}{sL:List (Nat×Nat)}
  (bF:∀(i off t sz:Nat),dD[i]? =some (off,t)→(dQ bo t).map (·.size)=some sz→sL[i]? =some (off,sz)):
  ∀(parts:List (Nat×Nat×dn)) (cp:List (Nat×Operand)) (cs:List ai) (us:Array Value) (c:Prop) (cs':List ai),zH bo dD parts cp=true→dd w ν cs us.toList→tq st.t cs parts=some (c,cs')→c→
  ∃b9:Array Value,Instr.fill (sL.toArray[·]?) us (cp.map fun(x:Nat×Operand)=>(x.1,a.eval x.2))=some b9∧dd w ν cs' b9.toList
 |[],[],cs,us,c,cs',_,h,he,av=>by simp only[tq]at he;cases he;exact⟨us,by simp[Instr.fill],h⟩
 |[],_::_,_,_,_,_,eu,_,_,_=>by simp[zH]at eu
 |_::_,[],_,_,_,_,eu,_,_,_=>by simp[zH]at eu
 |(off,sz,x)::parts,(i,o)::cp,cs,us,c,cs',eu,h,he,av=>by
  simp only[zH,cx]at eu;obtain⟨⟨J,U⟩,ao⟩:=eu;split at J
  ·rename_i vD t Bl;simp only[cx,dH]at J;obtain⟨rfl,J⟩:=J;have ss:=bF i off t sz Bl J;simp only[tq]at he;split at he
   ·rename_i cd alI ae;cases he;obtain⟨⟨af,aq,hle⟩,hW⟩:=av;have ad:=dX aI U;have kA:=uv ad af;have hlen:=o4 kA;have rl:=o4 h;have kj:(a.eval o).cells.size=sz:=by have:(a.eval o).cells.toList.length=(cells (cg st.t x)).length:=hlen;rw[aq]at this;simpa using this
    have qo:us.size=cs.length:=by simpa using rl
    have w1:=It (w:=w) (ν:=ν) (a.eval o).cells.toList 0 off us (by simp[kj,qo];omega);have lh:dd w ν (nu cs off (cells (cg st.t x))) ((((a.eval o).cells.toList.zipIdx 0).foldl (fun cs (x:Value×Nat)=>cs.setIfInBounds (off+x.2) x.1) us).toList):=by rw[w1];unfold nu;refine xz (xz (CC off h) kA) ?_;rw[Nat.add_zero,hlen];exact zU _ h
    obtain⟨b9,g1,g2⟩:=VF aI bF parts cp _ _ cd cs' ao lh ae hW;refine⟨b9,?_,g2⟩;simp only[gI,Instr.fill,List.getElem?_toArray,ss];rw[if_neg (by simp[kj,qo];omega)];rw[←g1];simp only[List.getElem?_toArray];congr 1;rw[←Array.foldl_toList];simp
   ·cases he
  ·cases J
end Go.Pv
namespace Go.Pv
open Go Go.RowKit
theorem uD{P:cy}{bo:List (Nat×du)}(aN:fA P bo=true){t:Nat}{f:du}(aQ:dQ bo t=some f)(w:World):
  (Go.isAgg t).run P w= .ok f.kind.isAgg w∧(sizeOf t).run P w= .ok f.size w:=by
 obtain⟨i,d,z,J,U,ao,aZ,b1,c6,dP,hy⟩:=(uG aN aQ).ex;refine⟨?_,by simp[sizeOf,typeInfo,J,ao]⟩;simp only[Go.isAgg,ft,run_underlying U,fB];cases ab:f.kind<;>rw[ab]at b1<;>cases d<;>simp[jW]at b1<;>simp[Ay.isAgg]
theorem iG{P:cy}{bo:List (Nat×du)}(aN:fA P bo=true){t:Nat}{f:du}(aQ:dQ bo t=some f):∃d,P.underlying t=some d∧jW f.kind d=true:=by obtain⟨i,d,z,J,U,ao,aZ,b1,c6,dP,hy⟩:=(uG aN aQ).ex;exact⟨d,U,b1⟩
theorem r6{e:Nat}{d:TypeDesc}(h:jW (.slice e) d=true):d= .slice e:=by cases d<;>simp[jW]at h;subst h;rfl
theorem yi{d:TypeDesc}(h:jW .str d=true):d= .string:=by cases d<;>simp[jW]at h;rfl
theorem DX{k:IntKind}{d:TypeDesc}(h:jW (.int k) d=true):d= .int k:=by cases d<;>simp[jW]at h;subst h;rfl
theorem HT{dD:List (Nat×Nat)}{d:TypeDesc}(h:jW (.struct dD) d=true):∃gs:Array Field,d= .struct gs∧gs.toList.map (fun f=>(f.offset,f.type))=dD:=by cases d<;>simp[jW]at h;rename_i gs;exact⟨gs,rfl,by simpa using h⟩
theorem F9{w:World}{ν:bc}{cs:List ai}{us:List Value}(h:dd w ν cs us)(off sz:Nat):dd w ν ((cs.drop off).take sz) ((us.drop off).take sz):=CC sz (zU off h)
theorem Uf{w:World}{base el sz n:Nat}{v:Value}{us:List Value}(h:w.ownsRow base el sz v n us){b:Nat}(ae:v.ownBlock=some b):∃cap,v= .slice (some ⟨b,0,none⟩) n cap:=by
 rcases h.2 with⟨rfl,_⟩|⟨g,cap,cur,rfl,_⟩
 ·simp[nA]at ae
 ·simp[nA]at ae;subst ae;exact⟨cap,rfl⟩
theorem Good.rowElem{pr:Nat→Prop}{w:World}{ν:bc}{b:List (aH×List ai)}{e:List (aH×fv)}(aS:Good pr w ν b e){k:aH}{n el sz:Nat}{xs:List ai}(ab:look k e=some ⟨n,el,sz,some xs⟩){i f:Nat}{u:Value}(ad:a6 w ν (.rptr sz k n i f) u){p:ai}(bF:xs[i]? =some p):
  ∃(v:Value) (us:List Value) (fM:Nat),a6 w ν p v∧v.cells.size=sz∧∃b o,u= .pointer (some ⟨b,o,none⟩)∧∀j c,v.cells.toList[f+j]? =some c→w.cell? ⟨b,o+j,none⟩=some c:=by
 simp only[a6]at ad;obtain⟨_,hi,n',e0,J,U,ao⟩:=ad;obtain⟨v,us,a1,bt,b2,c2⟩:=aS.own k _ ab;rw[J]at a1;simp only[dt,jm]at a1;obtain⟨rfl,rfl⟩:=a1;obtain⟨bl,ae,rfl⟩:=ao rfl;obtain⟨cap,rfl⟩:=Uf bt ae;obtain⟨aq,lh,_⟩:=c2 xs rfl;simp only at aq lh;obtain⟨v,ep,fe,mh⟩:=F6 i lh bF;refine⟨v,us,el,ep,fe,bl,_,rfl,fun j c ag=>?_⟩;have bq:f+j<sz:=by have:=(fG.1 ag).1;simp[fe]at this;exact this
 have hmul:i*sz+sz≤n'*sz:=by have:=Nat.mul_le_mul_right sz (show i+1≤n' from hi);rwa[Nat.succ_mul]at this
 have av:=bt.cellAt (i*sz+f+j) (by show _<n'*sz;omega);rw[av];rw[mh,List.getElem?_take,if_pos bq,List.getElem?_drop]at ag;rw[←ag];congr 1;omega
theorem Fm{P:cy}{bo:List (Nat×du)}(aN:fA P bo=true){pr:Nat→Prop}{w:World}{ν:bc}{b:List (aH×List ai)}{e:List (aH×fv)}(aS:Good pr w ν b e){t:Nat}{f:du}(aQ:dQ bo t=some f)
  {x:ai} {u:Value} (ad:a6 w ν x u) {c:Prop} {p:ai} (he:me b e f.kind.isAgg f.size x=some (c,p)) (av:c):∃v,(Instr.loadAt t u).run P w= .ok v w∧a6 w ν p v:=by
 obtain⟨br,af⟩:=uD aN aQ w;generalize Ek:f.kind.isAgg=eW at*;generalize ed:f.size=sz at*;unfold me at he;split at he
 ·rename_i dy k n i sb;unfold xD at he;split at he
  ·rename_i n' el iY xs ab;split at he
   ·rename_i ar;obtain⟨rfl,rfl⟩:=ar;split at he
    ·rename_i aht adr;obtain⟨Mz,us,fM,g1,g2,l2⟩:=Good.rowElem aS ab ad adr;have kV:eE aht=true:=by
      cases eW
      ·simp only[gr,if_false,gd]at he;obtain⟨q,_,he⟩:=he;cases he;exact av
      ·simp only[if_true]at he;cases he;exact av.1
     have da:=uv g1 kV;cases eW
     ·simp only[gr,if_false,gd]at he;obtain⟨q,bn,he⟩:=he;cases he;obtain⟨v,f1,f2,f3⟩:=CB sb da bn;refine⟨v,?_,f2⟩;obtain⟨b,o,rfl,l2⟩:=l2;have:=l2 0 v (by simpa using f1);simp only[Nat.add_zero]at this;simp[Instr.loadAt,Instr.sureAddr,loadVar,br,this]
     ·simp only[if_true]at he;cases he;obtain⟨b,o,rfl,l2⟩:=l2;refine⟨.agg ((Mz.cells.toList.drop sb).take sz).toArray,?_,by simp only[a6];exact⟨_,rfl,by simpa using F9 da sb sz⟩⟩;have aq:=o4 da;have hlen:((Mz.cells.toList.drop sb).take sz).length=sz:=by simp only[List.length_take,rV];omega
      have hX:=run_loadCells_list (P:=P) w ⟨b,o,none⟩ ((Mz.cells.toList.drop sb).take sz) (fun j v ag=>by
       rw[oC];refine l2 j v ?_;rw[List.getElem?_take]at ag;split at ag
       ·simpa[List.getElem?_drop]using ag
       ·cases ag)
      rw[hlen]at hX;simp only[Instr.loadAt,Instr.sureAddr,loadVar,ft,fZ,fB,br,if_true,af,hX]
    ·cases he
   ·cases he
  ·cases he
 ·rename_i k off;simp only[a6]at ad;obtain⟨bl,J,rfl⟩:=ad;split at he
  ·rename_i cs ab;obtain⟨h8,us,el,g1,g2,g3,g4,g5⟩:=aS.box k cs ab;rw[J]at g1;cases g1;have ss:hE cs=true:=by
    cases eW
    ·simp only[gr,if_false,gd]at he;obtain⟨q,bn,he⟩:=he;cases he;exact av
    ·simp only[if_true]at he;cases he;exact av.1
   rw[ui ss]at g4;rw[uj ss]at g5;have aq:=o4 g5;cases eW
   ·simp only[gr,if_false,gd]at he;obtain⟨q,bn,he⟩:=he;cases he;obtain⟨v,f1,f2,f3⟩:=CB off g5 bn;refine⟨v,?_,f2⟩;have l2:w.cell? ⟨bl,off,none⟩=some v:=by simpa[World.cell?,g4]using f1
    simp[Instr.loadAt,Instr.sureAddr,loadVar,br,l2]
   ·simp only[if_true]at he;cases he;replace av:=av.2;refine⟨_,?_,by simp only[a6];exact⟨_,rfl,by simpa using F9 g5 off sz⟩⟩;simp only[Instr.loadAt,Instr.sureAddr,loadVar,ft,fZ,fB,br,if_true,af];rw[aiz g4 (by simp at aq;omega)];rfl
  ·cases he
 ·rename_i q;simp only[a6]at ad;obtain⟨bl,off,e0,rfl,U,ao⟩:=ad;cases eW
  ·simp only[gr,if_false]at he;cases he;obtain⟨Bh,tD⟩:=av;obtain⟨g1,g2⟩:=LI U Bh (fun cs e=>by subst e;have:=eO List.length tD;simp only[cells,nB,List.length_nil]at this;cases cs with
    |nil=>simp[cells]at tD
    |cons y ys=>simp only[cells,xX]at tD;obtain⟨ak,aA⟩:=tD;subst aA;have:=eO SizeOf.sizeOf ak;simp at this;omega)
   refine⟨e0,?_,U⟩;rw[g2]at ao;have l2:=ao.1.2;simp[Instr.loadAt,Instr.sureAddr,loadVar,br,l2]
  ·simp only[if_true]at he;cases he;obtain⟨cs,rfl,hlen⟩:=av;simp only[a6]at U;obtain⟨us,rfl,aZ⟩:=U;refine⟨.agg us,?_,by simp only[a6];exact⟨us,rfl,aZ⟩⟩;simp only[ou]at ao;have aq:=o4 aZ;have:=aiA (P:=P) ao;rw[show us.toList.length=sz from by omega]at this;simp[Instr.loadAt,Instr.sureAddr,loadVar,br,af,this]
 ·cases he
theorem aaY{P:cy}{bo:List (Nat×du)}(aN:fA P bo=true){w:World}{ν:bc}{s i:Nat}{f:du}{dD:List (Nat×Nat)}(aQ:dQ bo s=some f)(ab:f.kind= .struct dD){off t:Nat}{g:du}(hi:dD[i]? =some (off,t))(aS:dQ bo t=some g)(bV:g.size≠0)
  {x:ai} {u:Value} (ad:a6 w ν x u) {c:Prop} {p:ai} (he:po off g.kind.isAgg g.size x=some (c,p)) (av:c):∃v,(Instr.fieldAt s u i).run P w= .ok v w∧a6 w ν p v:=by
 obtain⟨d,aK,eS⟩:=iG aN aQ;rw[ab]at eS;obtain⟨gs,rfl,kc⟩:=HT eS;have qj:∃fd:Field,gs[i]? =some fd∧fd.offset=off∧fd.type=t:=by rw[←kc]at hi;simp only[List.getElem?_map,gd]at hi;obtain⟨fd,J,U⟩:=hi;simp only[jm]at U;exact⟨fd,by simpa using J,U.1,U.2⟩
 obtain⟨fd,Et,au,n2⟩:=qj;obtain⟨br,af⟩:=uD aN aS w;have hX:∀b o,(Instr.fieldAt s (.pointer (some ⟨b,o,none⟩)) i).run P w= .ok (.pointer (some ⟨b,o+off,none⟩)) w:=by intro b o;simp[Instr.fieldAt,run_underlying aK,Et,Instr.sureAddr,fieldPlace,n2,af,bV,oC,au]
 unfold po at he;split at he
 ·cases he;simp only[a6]at ad;obtain⟨b,J,rfl⟩:=ad;exact⟨_,hX _ _,by simp only[a6];exact⟨b,J,rfl⟩⟩
 ·cases he;simp only[a6]at ad;obtain⟨⟨b,o,rfl⟩,hi,n',e0,J,U,ao⟩:=ad;refine⟨_,hX _ _,?_⟩;simp only[a6];refine⟨⟨b,_,rfl⟩,hi,n',e0,J,U,fun e=>?_⟩;obtain⟨b0,ak,aA⟩:=ao e;simp only[apT,dt,Addr.mk.injEq,and_true]at aA;obtain⟨rfl,rfl⟩:=aA;exact⟨b,ak,by rw[Nat.add_assoc]⟩
 ·rename_i cs;simp only[a6]at ad;obtain⟨b,o,e0,rfl,⟨us,rfl,U⟩,ao⟩:=ad;refine⟨_,hX _ _,?_⟩;simp only[ou]at ao;split at he
  ·cases he;simp only[a6];exact⟨b,o+off,.agg ((us.toList.drop off).take g.size).toArray,rfl,⟨_,rfl,by simpa using F9 U off g.size⟩,by simpa[ou]using Fg g.size (Fe off ao)⟩
  ·simp only[gd]at he;obtain⟨q,bn,he⟩:=he;cases he;obtain⟨v,f1,f2,f3⟩:=CB off U bn;simp only[a6];have ac6:=tY ao f1;have adO:v.cells= #[v]:=by cases v<;>first|rfl|cases f3
   exact⟨b,o+off,v,rfl,f2,by rw[adO];exact⟨ac6,trivial⟩⟩
 ·cases he
theorem aa5{P:cy}{bo:List (Nat×du)}(aN:fA P bo=true){w:World}{ν:bc}{s i:Nat}{f:du}{dD:List (Nat×Nat)}(aQ:dQ bo s=some f)(ab:f.kind= .struct dD){off t:Nat}{g:du}(hi:dD[i]? =some (off,t))(aS:dQ bo t=some g)
  {x:ai} {u:Value} (ad:a6 w ν x u) {c:Prop} {p:ai} (he:qY off g.kind.isAgg g.size x=some (c,p)) (av:c):∃v,(Instr.field s u i).run P w= .ok v w∧a6 w ν p v:=by
 obtain⟨d,aK,eS⟩:=iG aN aQ;rw[ab]at eS;obtain⟨gs,rfl,kc⟩:=HT eS;have qj:∃fd:Field,gs[i]? =some fd∧fd.offset=off∧fd.type=t:=by rw[←kc]at hi;simp only[List.getElem?_map,gd]at hi;obtain⟨fd,J,U⟩:=hi;simp only[jm]at U;exact⟨fd,by simpa using J,U.1,U.2⟩
 obtain⟨fd,Et,au,n2⟩:=qj;obtain⟨br,af⟩:=uD aN aS w;unfold qY at he;split at he
 ·rename_i cs;simp only[a6]at ad;obtain⟨us,rfl,U⟩:=ad;generalize Ek:g.kind.isAgg=eW at*;cases eW
  ·simp only[gr,if_false,gd]at he;obtain⟨q,bn,he⟩:=he;cases he;obtain⟨v,f1,f2,f3⟩:=CB off U bn;have Zi:us[off]? =some v:=by simpa using f1
   exact⟨v,by simp[Instr.field,run_underlying aK,Et,asAgg,part,n2,br,au,Zi],f2⟩
  ·simp only[if_true]at he;cases he;refine⟨.agg (us.extract off (off+g.size)),by simp[Instr.field,run_underlying aK,Et,asAgg,part,n2,br,au,af],?_⟩;simp only[a6];refine⟨_,rfl,?_⟩;have:=F9 U off g.size;simpa[List.take_drop]using this
 ·cases he
theorem ad2{P:cy}{bo:List (Nat×du)}(aN:fA P bo=true){w:World}{ν:bc}{t e:Nat}{f g:du}(aQ:dQ bo t=some f)(ab:f.kind= .slice e)(aS:dQ bo e=some g)
  {x y:ai} {u v:Value} (ad:a6 w ν x u) (aG:a6 w ν y v) {c:Prop} {p:ai} (he:y7 g.size x y=some (c,p)) (av:c):∃r,(Instr.indexAt t u v).run P w= .ok r w∧a6 w ν p r:=by
 obtain⟨d,aK,eS⟩:=iG aN aQ;rw[ab]at eS;obtain rfl:=r6 eS;obtain⟨br,af⟩:=uD aN aS w;unfold y7 at he;split at he
 ·rename_i dy tag xs k i;split at he
  ·rename_i ed;cases he;simp only[a6]at ad aG;subst aG;subst ed;obtain⟨⟨a,cap,rfl,J,U,ao⟩,_⟩:=ad;obtain⟨Bq,lG⟩:=av;have iQ:i.toNat<xs.length:=by omega
   rcases ao with rfl|⟨b,off,us,rfl,aZ,b1⟩
   ·simp at iQ
   ·have ad:xs[i.toNat]? =some xs[i.toNat]:=cv iQ;obtain⟨w',ep,fe,mh⟩:=F6 i.toNat b1 ad;refine⟨.pointer (some ⟨b,off+i.toNat*g.size,none⟩),?_,?_⟩
    ·simp only[Instr.indexAt,asIntOf,ft,fZ,fB,run_underlying aK,Bq,lG,and_self,if_true,af,oC]
    ·simp only[a6];refine⟨b,off+i.toNat*g.size,w',rfl,by simpa[List.getD,ad]using ep,?_⟩;rw[mh];exact Fg g.size (Fe _ aZ)
  ·cases he
 ·rename_i dy k n jZ i;split at he
  ·rename_i ed;cases he;simp only[a6]at ad aG;subst aG;subst ed;obtain⟨⟨b,cap,rfl⟩,U,n',e0,ao,aZ,b1⟩:=ad;obtain⟨Bq,lG⟩:=av;refine⟨.pointer (some ⟨b,0+i.toNat*g.size,none⟩),?_,?_⟩
   ·simp only[Instr.indexAt,asIntOf,ft,fZ,fB,run_underlying aK,Bq,lG,and_self,if_true,af,oC]
   ·simp only[a6];refine⟨⟨b,_,rfl⟩,by omega,n',e0,ao,aZ,fun e=>⟨b,?_,by simp⟩⟩;rw[←b1 e];rfl
  ·cases he
 ·cases he
theorem FF{C:e2}{st:bj}{a:Act}{w:World}{ν:bc}(h:cO C st a w ν){x:Option dn}{o:Option Operand}(ad:vF x o=true){DY n:Int}(he:qw DY (x.map (cg st.t))=some n):
  (o.map a.eval=none∧n=DY)∨ ∃k,o.map a.eval=some (.int k n):=by
 cases x with
 |none=>cases o with
  |none=>simp[qw]at he;exact .inl ⟨rfl,he.symm⟩
  |some o=>simp[vF]at ad
 |some x=>cases o with
  |none=>simp[vF]at ad
  |some o=>
   simp only[vF]at ad
   have:=dX h ad
   simp only[nC]at he⊢
   cases tE:cg st.t x<;>simp[tE,qw]at he
   rw[tE]at this
   simp only[a6]at this
   subst he
   exact .inr ⟨_,by rw[this]⟩
theorem WY{c d:ai}(h:GW c d=true):c=d:=by unfold GW at h;split at h<;>simp_all
theorem MG:∀{cs eH:List ai},xU cs eH=true→cs=eH
 |[],[],_=>rfl
 |[],_::_,h=>by simp[xU]at h
 |_::_,[],h=>by simp[xU]at h
 |c::cs,d::eH,h=>by simp only[xU,cx]at h;rw[WY h.1,MG h.2]
theorem akz{cs:List ai}{z:ai}(h:MK cs z=true):z= .agg cs:=by
 cases z<;>simp only[MK]at h;case agg eH=>rw[MG h]
 all_goals cases h
theorem abZ(s:List cV)(n:Nat)(h:n<s.length):(⟨s.toArray⟩:ByteArray)[n]? =some (s.getD n 0):=by
 have ed:n<(⟨s.toArray⟩:ByteArray).size:=by rw[CQ];exact h
 have e:(⟨s.toArray⟩:ByteArray)[n]? =some ((⟨s.toArray⟩:ByteArray)[n]'ed):=getElem?_pos (⟨s.toArray⟩:ByteArray) n ed;rw[e];congr 1;simp[List.getD,h];rfl
theorem Gu(P:cy)(w:World)(k:IntKind)(i:Int)(y:Nat)(c:BoundsCode)(bV:0≤i)(J:i≤y):(Instr.sliceBound (.int k i) y c).run P w= .ok i.toNat w:=by simp[Instr.sliceBound,asIntOf,bV,J]
theorem Nk(P:cy)(w:World)(aep:Bool)(len cap:Nat)(lo hi:Option Value)(l h:Int)(Bt:(lo=none∧l=0)∨ ∃k,lo=some (.int k l))(Bp:(hi=none∧h=len)∨ ∃k,hi=some (.int k h))
  (bV:0≤l) (J:l≤h) (U:h≤len) (av:len≤cap):(Instr.sliceBounds aep len cap lo hi none).run P w= .ok (l.toNat,h.toNat,cap) w:=by
 rcases Bt with⟨rfl,rfl⟩|⟨k,rfl⟩<;>rcases Bp with⟨rfl,rfl⟩|⟨bD,rfl⟩
 ·simp[Instr.sliceBounds]
 ·simp[Instr.sliceBounds,Gu P w bD h cap _ (by omega) (by omega)]
 ·simp[Instr.sliceBounds,Gu P w k l len _ (by omega) (by omega)]
 ·simp[Instr.sliceBounds,Gu P w bD h cap _ (by omega) (by omega),Gu P w k l h.toNat _ (by omega) (by omega)]
theorem Ul{P:cy}{bo:List (Nat×du)}(aN:fA P bo=true):∀(gs:List Field),(gs.all fun f=>(dQ bo f.type).isSome)=true→
  ∃sL:List (Nat×Nat),gs.mapM (fun f=>(P.info? f.type).map fun i=>(f.offset,i.size))=some sL∧
   ∀(i off t sz:Nat),(gs.map (fun f=>(f.offset,f.type)))[i]? =some (off,t)→(dQ bo t).map (·.size)=some sz→sL[i]? =some (off,sz)
 |[],_=>⟨[],by simp,by simp⟩
 |f::gs,h=>by
  simp only[List.all_cons,cx]at h;obtain⟨sL,J,U⟩:=Ul aN gs h.2;obtain⟨g,aS⟩:=fm.1 h.1;obtain⟨i,d,z,ak,aA,bs,dq,ht,hv,qR,qS⟩:=(uG aN aS).ex;refine⟨(f.offset,g.size)::sL,by simp[List.mapM_cons,ak,bs,J],fun j off t sz ag ed=>?_⟩;cases j with
  |zero=>simp only[gI,List.getElem?_cons_zero,dt,jm]at ag⊢;obtain⟨rfl,rfl⟩:=ag;rw[aS]at ed;simpa using ed
  |succ j=>simp only[gI,List.getElem?_cons_succ]at ag⊢;exact U j off t sz ag ed
theorem k1{P:cy}{w:World}{x:Sem Value}{v:Value}(h:x.run P w= .ok v w):(do pure (Next.value (←x)):Sem Next).run P w= .ok (.value v) w:=by simp[h]
theorem MJ{p q:ai}(h:Ap p q=true):p=q:=by
 unfold Ap at h;split at h
 ·rw[MG h]
 ·cases h
 ·exact WY h
theorem MI(w:World)(ν:bc){p:ai}{v:Value}(h:xV p v=true):a6 w ν p v∧dd w ν (cells p) v.cells.toList:=by
 by_cases br:∃cs,p= .agg cs
 ·obtain⟨cs,rfl⟩:=br;cases v<;>simp only[xV]at h;case agg us=>have:=MH w ν _ _ h;exact⟨by simp only[a6];exact⟨us,rfl,this⟩,by simpa[cells,ou]using this⟩
  all_goals cases h
 ·have cA:ya p v=true∧v.oneCell'=true:=by cases p<;>simp only[xV,cx]at h<;>first|exact h|exact absurd ⟨_,rfl⟩ br
  have aI:=Hs w ν cA.1;refine⟨aI,?_⟩;have av:cells p=[p]:=by cases p<;>first|rfl|exact absurd ⟨_,rfl⟩ br
  have aJ:v.cells= #[v]:=by have:=cA.2;cases v<;>first|rfl|simp[Value.oneCell']at this
  rw[av,aJ];simp only[dd];exact⟨v,[],rfl,⟨aI,cA.2⟩,rfl⟩
theorem Me{P:cy}{bo:List (Nat×du)}(aN:fA P bo=true){t:Nat}{f:du}(aQ:dQ bo t=some f)(w:World):∃z,(zeroValue t).run P w= .ok z w∧xV f.zero z=true∧z.cells.size=f.size:=by obtain⟨i,d,z,J,U,ao,aZ,b1,c6,dP,hy⟩:=(uG aN aQ).ex;exact⟨z,by simp[zeroValue,typeInfo,J,c6],dP,hy⟩
theorem CD{C:e2}{st:bj}{a:Act}{w:World}{ν:bc}(h:cO C st a w ν):∀{xs:List dn} {os:List Operand},xq xs os=true→cJ w ν (xs.map (cg st.t)) (os.map a.eval)
 |[],[],_=>by simp[cJ]
 |[],_::_,ab=>by simp[xq]at ab
 |_::_,[],ab=>by simp[xq]at ab
 |x::xs,o::os,ab=>by simp only[xq,cx]at ab;simp only[gI,cJ];exact⟨_,_,rfl,dX h ab.1,CD h ab.2⟩
theorem Yp{P:cy}{w:World}{t:gx}(aK:P.underlying t=some .bool)(d:Nat)(a b:Bool):(Op.equalIn (d+1) t (.bool a) (.bool b)).run P w= .ok (a==b) w:=by rw[Op.equalIn];simp only[ft,run_underlying aK,fB,fZ]
theorem Yq{P:cy}{w:World}{t:gx}(aK:P.underlying t=some .bool)(a b:Bool):(Op.equal t (.bool a) (.bool b)).run P w= .ok (a==b) w:=Yp aK _ a b
theorem PL:∀{borns:List Nat} {kvs:List ai} {us:List Value},kvs.length=2*borns.length→us.length=kvs.length→(fo borns us).length=borns.length
 |[],_,us,_,_=>by simp[fo]
 |b0::eL,kvs,[],J,U=>by rw[J]at U;simp at U
 |b0::eL,kvs,[_],J,U=>by rw[J]at U;simp at U;omega
 |b0::eL,kvs,k::v::us,J,U=>by simp only[fo,nB];rw[PL (kvs:=kvs.drop 2) (us:=us) (borns:=eL) (by simp at J⊢;omega) (by simp at J U⊢;omega)]
theorem Vy{w:World}{ν:bc}:∀{cp:List ai} {a7:List Value},cJ w ν cp a7→a7.length=cp.length
 |[],a7,h=>by simp only[cJ]at h;subst h;rfl
 |p::cp,a7,h=>by simp only[cJ]at h;obtain⟨u,b9,rfl,_,U⟩:=h;simp[Vy U]
theorem uy{P:cy}{w:World}{r:Nat}{o:Obj}(ae:w.heap[r]? =some o)(ar:∀c e f,o≠ .cells c e f:=by simp):(getObj r).run P w= .ok o w:=by simp only[getObj,Sem.run,ae]
def pX(P:cy):Nat→List Bool→List Field→Prop
 |_,[],[]=>True
 |n,b::r,f::gs=>(f.offset=n∧f.name≠ "_" ∧(if b=true then P.underlying f.type=some .string else∃k,P.underlying f.type=some (.int k)))∧pX P (n+1) r gs
 |_,_,_=>ej
theorem Cq{P:cy}{t:gx}{b:Bool}(h:if b=true then P.underlying t=some .string else∃k,P.underlying t=some (.int k)):P.plainKey t=true:=by
 cases b
 ·obtain⟨k,h⟩:=(by simpa using h:∃k,P.underlying t=some (.int k));simp[Program.plainKey,h]
 ·have h:P.underlying t=some .string:=by simpa using h
  simp[Program.plainKey,h]
theorem X0{P:cy}{w:World}{ν:bc}(d:Nat){X Y:Array Value}(dD:List Bool):∀(gs:List Field) (n:Nat) (as eL:List ai) (us a7:List Value) (q:Bool),pX P n dD gs→X.toList.drop n=us→Y.toList.drop n=a7→dd w ν as us→dd w ν eL a7→jV dD as eL=some q→
  (Op.eqFields (d+1) X Y gs).run P w= .ok q w∧(q=true→us=a7)∧∀m,(us.zip us).all (fun(x,y)=>Instr.sameBits m x y)=true:=by
 induction dD with
 |nil=>intro gs n as eL us a7 q aS Bc Bd J U h;cases as<;>cases eL<;>simp only[jV,dt,reduceCtorEq]at h;cases gs<;>simp only[pX]at aS;simp only[dd]at J U;rw[J,U,←h];exact⟨by simp[Op.eqFields],fun _=>rfl,fun m=>rfl⟩
 |cons wE r bW=>
  intro gs n as eL us a7 q aS Bc Bd J U h;cases gs with
  |nil=>simp only[pX]at aS
  |cons f gs=>
  simp only[pX]at aS;obtain⟨⟨EH,yS,n2⟩,aS⟩:=aS;cases as with
  |nil=>cases wE<;>cases eL<;>simp[jV]at h
  |cons Co as=>
  cases eL with
  |nil=>cases wE<;>cases Co<;>simp[jV]at h
  |cons FJ eL=>
  cases wE with
  |false=>
   have av:∃k a b gm,Co= .int k a∧FJ= .int k b∧jV r as eL=some gm∧q=((a==b)&&gm):=by
    cases Co<;>first|(simp[jV]at h;done)|skip
    cases FJ<;>first|(simp[jV]at h;done)|skip
    simp only[jV]at h;split at h
    ·rename_i ab;subst ab;simp only[gd]at h;obtain⟨gm,ao,aZ⟩:=h;exact⟨_,_,_,gm,rfl,rfl,ao,aZ.symm⟩
    ·cases h
   obtain⟨k,a,b,gm,rfl,rfl,ao,rfl⟩:=av;simp only[dd,a6]at J U;obtain⟨u,b9,rfl,⟨rfl,_⟩,J⟩:=J;obtain⟨v,vs',rfl,⟨rfl,_⟩,U⟩:=U;have Cn:X[n]? =some (.int k a):=by rw[←s6,←List.head?_drop,Bc];rfl
   have KX:Y[n]? =some (.int k b):=by rw[←s6,←List.head?_drop,Bd];rfl
   obtain⟨i1,i2,i3⟩:=bW gs (n+1) as eL b9 vs' gm aS (by rw[←List.tail_drop,Bc];rfl) (by rw[←List.tail_drop,Bd];rfl) J U ao;obtain⟨jZ,JB⟩:=(by simpa using n2:∃k,P.underlying f.type=some (.int k));refine⟨?_,?_,fun m=>?_⟩
   ·simp only[Op.eqFields,yS,ne_eq,not_false_eq_true,if_true,ft,EH,run_part_plain w (Cq n2) Cn,run_part_plain w (Cq n2) KX,fB,run_equalIn_int w d f.type k jZ a b JB];cases mz:(a==b)
    ·simp
    ·simpa using i1
   ·intro bn;simp only[cx,dH]at bn;rw[bn.1,i2 bn.2]
   ·have:=i3 m;simp only[List.zip_cons_cons,List.all_cons,this,Bool.and_true];cases m<;>simp[Instr.sameBits]
  |true=>
   have av:∃a b gm,Co= .str a∧FJ= .str b∧jV r as eL=some gm∧q=((a==b)&&gm):=by
    cases Co<;>first|(simp[jV]at h;done)|skip
    cases FJ<;>first|(simp[jV]at h;done)|skip
    simp only[jV,gd]at h;obtain⟨gm,ao,aZ⟩:=h;exact⟨_,_,gm,rfl,rfl,ao,aZ.symm⟩
   obtain⟨a,b,gm,rfl,rfl,ao,rfl⟩:=av;simp only[dd,a6]at J U;obtain⟨u,b9,rfl,⟨⟨rfl,_⟩,_⟩,J⟩:=J;obtain⟨v,vs',rfl,⟨⟨rfl,_⟩,_⟩,U⟩:=U;have Cn:X[n]? =some (.string ⟨a.toArray⟩):=by rw[←s6,←List.head?_drop,Bc];rfl
   have KX:Y[n]? =some (.string ⟨b.toArray⟩):=by rw[←s6,←List.head?_drop,Bd];rfl
   obtain⟨i1,i2,i3⟩:=bW gs (n+1) as eL b9 vs' gm aS (by rw[←List.tail_drop,Bc];rfl) (by rw[←List.tail_drop,Bd];rfl) J U ao;have JB:P.underlying f.type=some .string:=by simpa using n2
   refine⟨?_,?_,fun m=>?_⟩
   ·simp only[Op.eqFields,yS,ne_eq,not_false_eq_true,if_true,ft,EH,run_part_plain w (Cq n2) Cn,run_part_plain w (Cq n2) KX,fB,run_equalIn_string w d f.type _ _ JB];have e:((⟨a.toArray⟩:ByteArray).toList==(⟨b.toArray⟩:ByteArray).toList)=(a==b):=by rw[akE,akE]
    rw[e];cases mz:(a==b)
    ·simp
    ·simpa using i1
   ·intro bn;simp only[cx,dH]at bn;rw[bn.1,i2 bn.2]
   ·have:=i3 m;simp only[List.zip_cons_cons,List.all_cons,this,Bool.and_true];cases m<;>simp only[Instr.sameBits]<;>exact(MapKept.bytes_beq _ _).2 rfl
theorem Qi{P:cy}{bo:List (Nat×du)}(aN:fA P bo=true):∀(dD:List Bool) (gs:List Field) (n:Nat),yv bo n dD (gs.map fun f=>(f.offset,f.type))=true→(gs.all (fun f=>match P.underlying f.type with|some (.int _)=>true|some .string=>true|_=>false)=true)∧((∀f∈gs,f.name≠ "_")→pX P n dD gs)
 |[],[],_,_=>⟨rfl,fun _=>trivial⟩
 |[],_::_,_,h=>by simp[yv]at h
 |_::_,[],_,h=>by simp[yv]at h
 |b::r,f::gs,n,h=>by
  simp only[gI,yv,cx,dH]at h;obtain⟨⟨J,U⟩,ao⟩:=h;obtain⟨i1,i2⟩:=Qi aN r gs (n+1) ao;split at U
  ·rename_i aQ;obtain⟨d,hu,aK⟩:=iG aN aQ;obtain rfl:=DX aK;refine⟨by simp only[List.all_cons,hu,i1,Bool.and_self],fun ar=>⟨⟨J,ar f (by simp),?_⟩,i2 fun g aS=>ar g (by simp[aS])⟩⟩;have:b=false:=by simpa using U
   subst this;simpa using⟨_,hu⟩
  ·rename_i aQ;obtain⟨d,hu,aK⟩:=iG aN aQ;obtain rfl:=yi aK;refine⟨by simp only[List.all_cons,hu,i1,Bool.and_self],fun ar=>⟨⟨J,ar f (by simp),?_⟩,i2 fun g aS=>ar g (by simp[aS])⟩⟩;subst U;simpa using hu
  ·cases U
theorem Qk{P:cy}{bo:List (Nat×du)}(aN:fA P bo=true){dD:List Bool}{t:Nat}(h:D8 bo dD t=true):∃gs,P.underlying t=some (.struct gs)∧pX P 0 dD gs.toList∧P.stoodInHeld t=false∧P.eqGuardType P.depth t=false:=by
 unfold D8 at h;split at h
 ·rename_i aQ;obtain⟨d,hu,aK⟩:=iG aN aQ;have av:=(uG aN aQ).cmp d hu;cases d<;>simp[jW]at aK;rename_i gs;subst aK;obtain⟨i1,i2⟩:=Qi aN dD gs.toList 0 h;have sk:Qj P gs=true:=i1;simp only[HQ,sk,Bool.not_true,Bool.false_or,Po,cx,rT,jD,bne_iff_ne,ne_eq]at av;exact⟨gs,hu,i2 av.1.1,av.1.2,av.2⟩
 ·cases h
theorem PR{P:cy}{w:World}{ν:bc}{t:gx}{gs:Array Field}{dD:List Bool}(hu:P.underlying t=some (.struct gs))(aS:pX P 0 dD gs.toList)(dh:P.stoodInHeld t=false){as eL:List ai}{X Y:Array Value}(J:dd w ν as X.toList)(U:dd w ν eL Y.toList){q:Bool}(h:jV dD as eL=some q):
  (Op.equalIn 10000 t (.agg X) (.agg Y)).run P w= .ok q w∧(q=true→X=Y)∧∀m,(X.toList.zip X.toList).all (fun(x,y)=>Instr.sameBits m x y)=true:=by
 have aQ:P.fieldsOf t=gs:=by simp[Program.fieldsOf,hu]
 obtain⟨i1,i2,i3⟩:=X0 9998 dD gs.toList 0 as eL _ _ q aS rfl rfl J U h;refine⟨?_,fun e=>?_,?_⟩
 ·rw[run_equalIn_struct w 9999 t X Y (by rw[aQ];exact hu) dh,aQ];exact i1
 ·have:=i2 e;simpa using this
 ·simpa using i3
inductive tb (P:cy):jo→gx→Prop
 |i {t:gx} {k:IntKind}:P.underlying t=some (.int k)→tb P .i t
 |s {t:gx}:P.underlying t=some .string→tb P .s t
 |a {t:gx} {dD:List Bool} {gs:Array Field}:P.underlying t=some (.struct gs)→pX P 0 dD gs.toList→P.stoodInHeld t=false→tb P (.a dD) t
theorem J1{P:cy}{bo:List (Nat×du)}(aN:fA P bo=true){ck:jo}{t:Nat}(h:xa bo ck t=true):tb P ck t:=by
 cases ck with
 |i=>
  simp only[xa]at h;split at h
  ·rename_i aQ;obtain⟨d,hu,aK⟩:=iG aN aQ;obtain rfl:=DX aK;exact .i hu
  ·cases h
 |s=>
  simp only[xa]at h;split at h
  ·rename_i aQ;obtain⟨d,hu,aK⟩:=iG aN aQ;obtain rfl:=yi aK;exact .s hu
  ·cases h
 |a dD=>obtain⟨gs,J,U,ao,_⟩:=Qk aN h;exact .a J U ao
def rZ(P:cy)(w:World)(ck:jo)(t:gx)(gO u:Value)(b:Bool):Prop:=match ck with
 | .a _=>(Op.equal t gO u).run P w= .ok b w
 |_=> ∀d,P.underlying t=some d→Instr.sameNow d gO u=some b
def hJ(P:cy)(w:World)(ck:jo)(t:gx)(gO:Value)(es:List MapEntry)(i:Nat)(r:Option (Nat×Value)):Prop:=match ck with
 | .a _=>(Instr.findAsking t gO es i).run P w= .ok r w
 |_=> ∀d,P.underlying t=some d→Instr.findNow d gO es i=some r
theorem hJ.nil(P:cy)(w:World)(ck:jo)(t:gx)(gO:Value)(i:Nat):hJ P w ck t gO [] i none:=by cases ck<;>simp[hJ,Instr.findAsking,Instr.findNow]
theorem hJ.hit{P:cy}{w:World}{ck:jo}{t:gx}{gO:Value}{e:MapEntry}{es:List MapEntry}{i:Nat}(h:rZ P w ck t gO e.key true):hJ P w ck t gO (e::es) i (some (i,e.val)):=by
 cases ck with
 |a dD=>simp only[rZ]at h;simp[hJ,Instr.findAsking,h]
 |i=>simp only[rZ]at h;simp only[hJ];intro d aK;simp[Instr.findNow,h d aK]
 |s=>simp only[rZ]at h;simp only[hJ];intro d aK;simp[Instr.findNow,h d aK]
theorem hJ.miss{P:cy}{w:World}{ck:jo}{t:gx}{gO:Value}{e:MapEntry}{es:List MapEntry}{i:Nat}{r:Option (Nat×Value)}(h:rZ P w ck t gO e.key false)(aI:hJ P w ck t gO es (i+1) r):hJ P w ck t gO (e::es) i r:=by
 cases ck with
 |a dD=>simp only[rZ]at h;simp only[hJ]at aI;simp[hJ,Instr.findAsking,h,aI]
 |i=>simp only[rZ]at h;simp only[hJ]at aI⊢;intro d aK;simp[Instr.findNow,h d aK,aI d aK]
 |s=>simp only[rZ]at h;simp only[hJ]at aI⊢;intro d aK;simp[Instr.findNow,h d aK,aI d aK]
theorem hJ.run{P:cy}{w:World}{ck:jo}{t:gx}(aK:tb P ck t){gO:Value}{es:List MapEntry}{r:Option (Nat×Value)}(h:hJ P w ck t gO es 0 r):(Instr.findKey t gO es).run P w= .ok r w:=by
 cases aK with
 |i hu=>simp only[hJ]at h;simp[Instr.findKey,run_underlying hu,h _ hu]
 |s hu=>simp only[hJ]at h;simp[Instr.findKey,run_underlying hu,h _ hu]
 |a hu aS dh=>
  simp only[hJ]at h;cases es with
  |nil=>simp[Instr.findAsking]at h;simp[Instr.findKey,run_underlying hu,Instr.findNow,h]
  |cons e es=>
   rename_i gs;have:Instr.sameNow (.struct gs) gO e.key=none:=by cases gO<;>rfl
   simp only[Instr.findKey,ft,run_underlying hu,fB,Instr.findNow,this];exact h
theorem SL{P:cy}{w:World}{ν:bc}{ck:jo}{t:gx}(aK:tb P ck t){k bD:ai}{gO u:Value}(ab:a6 w ν k gO)(J:a6 w ν bD u){bb:Bool}(ae:sA ck k bD=some bb):
  rZ P w ck t gO u bb∧(bb=true→u=gO∧Instr.sameBits 10000 u gO=true):=by
 unfold sA at ae;split at ae
 ·split at ae
  ·rename_i ld;subst ld;simp only[a6]at ab J;subst ab;subst J;cases aK with
   |i hu=>refine⟨fun d aK=>by rw[hu]at aK;cases aK;simpa[Instr.sameNow]using ae,fun e=>?_⟩;subst e;simp only[dt,dH]at ae;subst ae;exact⟨rfl,by simp[Instr.sameBits]⟩
  ·cases ae
 ·rename_i a b;simp only[a6]at ab J;obtain⟨rfl,_⟩:=ab;obtain⟨rfl,_⟩:=J;cases aK with
  |s hu=>
   refine⟨fun d aK=>?_,fun e=>?_⟩
   ·rw[hu]at aK;cases aK;simp only[Instr.sameNow];rw[←ae];congr 1;rw[pV,MapKept.bytes_beq];simp
   ·subst e;simp only[dt,dH]at ae;subst ae;exact⟨rfl,by simp only[Instr.sameBits];exact(MapKept.bytes_beq _ _).2 rfl⟩
 ·simp only[a6]at ab J;obtain⟨X,rfl,ab⟩:=ab;obtain⟨Y,rfl,J⟩:=J;cases aK with
  |a hu aS dh=>obtain⟨i1,i2,i3⟩:=PR hu aS dh ab J ae;refine⟨by simpa[rZ,Op.equal,Op.maxDepth]using i1,fun e=>?_⟩;have:=i2 e;subst this;exact⟨rfl,by simp[Instr.sameBits,i3]⟩
 ·cases ae
theorem Kq{P:cy}{w:World}{ν:bc}{ck:jo}{t:gx}(aK:tb P ck t){k:ai}{gO:Value}(ab:a6 w ν k gO):∀(borns:List Nat) (kvs:List ai) (us:List Value) (i:Nat) (r:Option ai),cJ w ν kvs us→kvs.length=2*borns.length→vv ck k kvs=some r→
  match r with
  |none=>hJ P w ck t gO (fo borns us) i none
  |some v=> ∃j u,hJ P w ck t gO (fo borns us) i (some (j,u))∧a6 w ν v u
 |[],[],us,i,r,h,_,hm=>by simp only[vv]at hm;cases hm;simp only[cJ]at h;subst h;simpa[fo]using hJ.nil P w ck t gO i
 |[],_::_,_,_,_,_,aq,_=>by simp at aq
 |b::eL,[],_,_,_,_,aq,_=>by simp at aq
 |b::eL,[_],_,_,_,_,aq,_=>by simp at aq;omega
 |b::eL,bD::v::kvs,us,i,r,h,aq,hm=>by
  simp only[cJ]at h;obtain⟨iH,Mn,rfl,J,jh,rP,rfl,U,ao⟩:=h;simp only[vv]at hm;simp only[fo];cases bn:sA ck k bD with
  |none=>simp[bn]at hm
  |some bb=>
   obtain⟨s1,_⟩:=SL aK ab J bn;simp only[bn]at hm;cases bb with
   |true=>simp only[dt]at hm;subst hm;exact⟨i,jh,hJ.hit (e:=⟨iH,jh,b⟩) s1,U⟩
   |false=>
    simp only at hm;have bW:=Kq aK ab eL kvs rP (i+1) r ao (by simp at aq;omega) hm;cases r with
    |none=>exact hJ.miss (e:=⟨iH,jh,b⟩) s1 bW
    |some v'=>obtain⟨j,u,g1,g2⟩:=bW;exact⟨j,u,hJ.miss (e:=⟨iH,jh,b⟩) s1 g1,g2⟩
theorem HP{P:cy}{w:World}{t:Nat}{d:TypeDesc}(hu:P.underlying t=some d)(aK:(∃k,d= .int k)∨d= .string)(e:Bool)(n:Nat)(v:Value):(Instr.checkKey e (n+1) t v).run P w= .ok () w:=by unfold Instr.checkKey;rcases aK with⟨k,rfl⟩|rfl<;>simp[run_underlying hu]
theorem aa4{P:cy}{w:World}{ν:bc}{X:Array Value}(dD:List Bool):∀(gs:List Field) (n:Nat) (as:List ai),pX P n dD gs→dd w ν as (X.toList.drop n)→(jV dD as as).isSome=true→
  ∀f∈gs,(∃v,(part f.type X f.offset).run P w= .ok v w)∧∃d,P.underlying f.type=some d∧((∃k,d= .int k)∨d= .string):=by
 induction dD with
 |nil=>intro gs n as aS _ _ f aQ;cases gs<;>simp only[pX]at aS;cases aQ
 |cons wE r bW=>
  intro gs n as aS aI av f aQ;cases gs with
  |nil=>cases aQ
  |cons g gs=>
  simp only[pX]at aS;obtain⟨⟨EH,yS,n2⟩,aS⟩:=aS;cases as with
  |nil=>cases wE<;>simp[jV]at av
  |cons p as=>
  have hW:(jV r as as).isSome=true:=by cases wE<;>cases p<;>simp[jV]at av⊢ <;>exact av
  simp only[dd]at aI;obtain⟨u,b9,e,_,dc⟩:=aI;have aA:X.toList.drop (n+1)=b9:=by rw[←List.tail_drop,e];rfl
  have Cn:X[n]? =some u:=by rw[←s6,←List.head?_drop,e];rfl
  rcases ga.1 aQ with rfl|aQ
  ·refine⟨⟨u,by rw[EH];exact run_part_plain w (Cq n2) Cn⟩,?_⟩;cases wE
   ·obtain⟨k,h⟩:=(by simpa using n2:∃k,P.underlying f.type=some (.int k));exact⟨_,h,.inl ⟨k,rfl⟩⟩
   ·exact⟨_,by simpa using n2,.inr rfl⟩
  ·exact bW gs (n+1) as aS (by rw[aA];exact dc) hW f aQ
theorem Qq{P:cy}{w:World}{α:Type}(body:α→PUnit→Sem (ForInStep PUnit)):∀(l:List α),(∀f∈l,(body f ⟨⟩).run P w= .ok (.yield ⟨⟩) w)→(forIn l PUnit.unit body).run P w= .ok PUnit.unit w
 |[],_=>by simp
 |f::l,h=>by simp only[List.forIn_cons,ft,h f (by simp),fB];exact Qq body l fun g aS=>h g (by simp[aS])
theorem LK{P:cy}{w:World}{ν:bc}{ck:jo}{t:Nat}(aK:tb P ck t)(e:Bool){k:ai}{v:Value}(ab:a6 w ν k v)(hi:tS ck k=true):(Instr.checkKey e 10000 t v).run P w= .ok () w:=by
 cases aK with
 |i hu=>exact HP hu (.inl ⟨_,rfl⟩) e 9999 v
 |s hu=>exact HP hu (.inr rfl) e 9999 v
 |a hu aS dh=>
  rename_i dD gs;cases k<;>simp only[tS,gr]at hi;rename_i as;simp only[a6]at ab;obtain⟨X,rfl,ab⟩:=ab;unfold Instr.checkKey;simp only[ft,run_underlying hu,fB];rw[←Array.forIn_toList];rw[Qq]
  ·simp
  ·intro f aQ;obtain⟨⟨v,J⟩,d,U,ao⟩:=aa4 dD gs.toList 0 as aS (by simpa using ab) hi f aQ;have aZ:=HP (w:=w) U ao e 9998 v;by_cases ar:f.name= "_"
   ·simp[ar]
   ·simp[ar,J,aZ]
theorem Tp{w:World}{ν:bc}{n:Nat}:∀(borns:List Nat) (kvs:List ai) (us:List Value) (p:ai),cJ w ν kvs us→mf n borns kvs=some p→∃e,(fo borns us).find? (·.born==n)=some e∧a6 w ν p (.tuple #[e.key,e.val])
 |[],_,_,_,_,hm=>by simp[mf]at hm
 |_::_,[],_,_,_,hm=>by simp[mf]at hm
 |_::_,[_],_,_,_,hm=>by simp[mf]at hm
 |b::eL,k::v::kvs,us,p,h,hm=>by
  simp only[cJ]at h;obtain⟨iH,Mn,rfl,J,jh,rP,rfl,U,ao⟩:=h;simp only[mf]at hm;simp only[fo];by_cases e:b=n
  ·rw[if_pos e]at hm;cases hm;refine⟨⟨iH,jh,b⟩,by simp[List.find?,e],?_⟩;simp only[a6];exact⟨#[iH,jh],rfl,by simp only[cJ];exact⟨_,_,rfl,J,_,_,rfl,U,rfl⟩⟩
  ·rw[if_neg e]at hm;obtain⟨x,g1,g2⟩:=Tp eL kvs rP p ao hm;have acr:(b==n)=false:=by simpa using e
   exact⟨x,by simp[List.find?,acr,g1],g2⟩
theorem V7{P:cy}{bo:List (Nat×du)}(aN:fA P bo=true){C:e2}{st:bj}{a:Act}{w:World}{ν:bc}(aI:cO C st a w ν){i:fL}(acq:∀ck z ok x k,i≠ .mgetB ck z ok x k){o:Oper}(au:C0 bo i o.op=true)
  {c:Prop} {p:ai} (he:gS st i=some (c,p)) (av:c):∃v,(execOp a.eval o).run P w= .ok (.value v) w∧a6 w ν p v:=by
 obtain⟨dst,op,type,pos,after,guard⟩:=o;simp only at au;unfold C0 at au;split at au
 ·rename_i x o;simp only[gS]at he;cases he;exact⟨_,rfl,dX aI au⟩
 ·rename_i x o;simp only[gS]at he;cases he;exact⟨_,rfl,dX aI au⟩
 ·rename_i cd x y ali WT MF;simp only[cx]at au;have J:=dX aI au.1.1;have U:=dX aI au.1.2;have ao:=dX aI au.2;simp only[gS,FK]at he;split at he
  ·rename_i b ae;rw[ae]at J;simp only[a6]at J;split at he
   ·rename_i u v hu aJ;cases he;rw[hu]at U;rw[aJ]at ao;simp only[a6]at U ao;refine⟨.bool (cond b u v),?_,by simp[a6]⟩;simp only[execOp,J,U,ao,asBool,ft,fZ,fB];cases b<;>rfl
   ·split at he
    ·cases he;exact⟨_,by simp only[execOp,J,asBool,ft,fZ,fB,if_true],U⟩
    ·cases he;exact⟨_,by simp only[execOp,J,asBool,ft,fZ,fB,gr,if_false],ao⟩
  ·cases he
 ·rename_i agg sz x t o;simp only[cx]at au;obtain⟨J,U⟩:=au;split at J
  ·rename_i f aQ;simp only[cx,dH]at J;obtain⟨rfl,rfl⟩:=J;obtain⟨v,g1,g2⟩:=Fm aN aI.good aQ (dX aI U) (by simpa only[gS]using he) av;exact⟨v,k1 g1,g2⟩
  ·cases J
 ·rename_i off agg sz x s o i;simp only[cx]at au;obtain⟨J,U⟩:=au;split at J
  ·rename_i f aQ;split at J
   ·rename_i vD t Bl;simp only[cx,dH]at J;obtain⟨rfl,J⟩:=J;split at J
    ·rename_i g aS;simp only[cx,dH,bne_iff_ne,ne_eq]at J;obtain⟨⟨rfl,rfl⟩,bV⟩:=J;obtain⟨v,g1,g2⟩:=aaY aN aQ rfl Bl aS bV (dX aI U) (by simpa only[gS]using he) av;exact⟨v,k1 g1,g2⟩
    ·cases J
   ·cases J
  ·cases J
 ·rename_i off agg sz x s o i;simp only[cx]at au;obtain⟨J,U⟩:=au;split at J
  ·rename_i f aQ;split at J
   ·rename_i vD t Bl;simp only[cx,dH]at J;obtain⟨rfl,J⟩:=J;split at J
    ·rename_i g aS;simp only[cx,dH]at J;obtain⟨rfl,rfl⟩:=J;obtain⟨v,g1,g2⟩:=aa5 aN aQ rfl Bl aS (dX aI U) (by simpa only[gS]using he) av;exact⟨v,k1 g1,g2⟩
    ·cases J
   ·cases J
  ·cases J
 ·rename_i sz x i t o j;simp only[cx]at au;obtain⟨⟨J,U⟩,ao⟩:=au;split at J
  ·rename_i e aQ;split at J
   ·rename_i g aS;simp only[dH]at J;subst J;obtain⟨v,g1,g2⟩:=ad2 aN aQ rfl aS (dX aI U) (dX aI ao) (by simpa only[gS]using he) av;exact⟨v,k1 g1,g2⟩
   ·cases J
  ·cases J
 ·rename_i x i t o j;simp only[cx]at au;obtain⟨⟨J,U⟩,ao⟩:=au;split at J
  ·rename_i aQ;obtain⟨d,aK,eS⟩:=iG aN aQ;obtain rfl:=yi eS;have ak:=dX aI U;have aA:=dX aI ao;simp only[gS,Gs]at he;split at he
   ·rename_i s k n af ar;cases he;rw[af]at ak;rw[ar]at aA;simp only[a6]at ak aA;obtain⟨tC,Bh⟩:=av;have bq:n.toNat<s.length:=by omega
    have acS:(⟨s.toArray⟩:ByteArray)[n.toNat]? =some (s.getD n.toNat 0):=by exact abZ s n.toNat bq
    refine⟨_,k1 (v:= .int .u8 (s.getD n.toNat 0).toNat) ?_,by simp[a6]⟩;simp only[Instr.index,aA,asIntOf,ak.1,ft,fZ,fB,run_underlying aK,tC,if_true,acS]
   ·cases he
  ·cases J
 ·rename_i x lo hi t o l h;simp only[cx]at au;obtain⟨⟨⟨J,U⟩,ao⟩,aZ⟩:=au;split at J
  ·rename_i aQ;obtain⟨d,aK,eS⟩:=iG aN aQ;obtain rfl:=yi eS;have ak:=dX aI U;simp only[gS,Gx]at he;split at he
   ·rename_i s af;rw[af]at ak;simp only[a6]at ak;split at he
    ·rename_i pJ cP aq I9;cases he;obtain⟨bL,cn,dp⟩:=av;have aR:=FF aI ao aq;have be:=FF aI aZ I9;refine⟨_,k1 (v:= .string ⟨((s.take cP.toNat).drop pJ.toNat).toArray⟩) ?_,?_⟩
     ·have ae:=Nk P w false s.length s.length (l.map a.eval) (h.map a.eval) pJ cP
       aR be bL cn dp (e1 _)
      simp only[Instr.sliceAt,Instr.slice,ak.1,ft,fZ,fB,run_underlying aK,Option.map_none,jl,gr,if_false,CQ,ae,Zh]
     ·simp only[a6];refine⟨trivial,?_⟩;have:=ak.2;simp only[rV,List.length_take];omega
    ·cases he
   ·cases he
  ·cases J
 ·rename_i sz x lo hi t o l h;simp only[cx]at au;obtain⟨⟨⟨J,U⟩,ao⟩,aZ⟩:=au;split at J
  ·rename_i e aQ;split at J
   ·rename_i g aS;simp only[dH]at J;subst J;obtain⟨d,aK,eS⟩:=iG aN aQ;obtain rfl:=r6 eS;obtain⟨_,ed⟩:=uD aN aS w;have ak:=dX aI U;simp only[gS,Fo]at he;split at he
    ·rename_i dy tag xs af;split at he
     ·rename_i e6;subst e6;rw[af]at ak;simp only[a6]at ak;obtain⟨⟨r1,cap,aJ,b8,b3,fR⟩,_⟩:=ak;split at he
      ·rename_i pJ cP aq I9;cases he;obtain⟨bL,cn,dp⟩:=av;have aR:=FF aI ao aq;have be:=FF aI aZ I9;have ae:=Nk P w true xs.length cap (l.map a.eval) (h.map a.eval) pJ cP
        aR be bL cn dp b8
       refine⟨_,k1 (v:= .slice (if cap=pJ.toNat then r1 else r1.map (·.add (pJ.toNat*g.size))) (cP.toNat-pJ.toNat) (cap-pJ.toNat)) ?_,?_⟩
       ·simp only[Instr.sliceAt,Instr.slice,aJ,ft,fZ,fB,run_underlying aK,Option.map_none,ae,ed]
       ·simp only[a6];have hlen:((xs.take cP.toNat).drop pJ.toNat).length=cP.toNat-pJ.toNat:=by simp;omega
        refine⟨⟨_,_,by rw[hlen],by rw[hlen];omega,⟨by omega,by rw[hlen];omega⟩,?_⟩,(fun h=>by cases h),(fun g h=>by cases h),(fun _ _ h=>by cases h),(fun _ h=>by cases h)⟩;rcases fR with rfl|⟨b,off,us,rfl,g1,g2⟩
        ·left;simp
        ·by_cases yE:cap=pJ.toNat
         ·left;apply List.eq_nil_of_length_eq_zero;rw[hlen];omega
         ·right;rw[if_neg yE];refine⟨b,off+pJ.toNat*g.size,(us.take (cP.toNat*g.size)).drop (pJ.toNat*g.size),by simp[oC],Fe _ (Fg _ g1),Vq _ (Vt _ g2)⟩
      ·cases he
     ·cases he
    ·cases he
   ·cases J
  ·cases J
 ·rename_i op wr x y Ua ty o o' ajx;simp only[cx,fI]at au;obtain⟨⟨rfl,J⟩,U⟩:=au;obtain⟨r,g1,g2⟩:=XQ P w ν (by simpa only[gS]using he) av ty (dX aI J) (dX aI U) o o';exact⟨r,k1 g1,g2⟩
 ·rename_i x op ty o;simp only[cx,fI]at au;obtain⟨rfl,J⟩:=au;have ak:=dX aI J;simp only[gS]at he;unfold FB at he;split at he
  ·rename_i b ae;cases he;rw[ae]at ak;simp only[a6]at ak;exact⟨_,k1 (v:= .bool (!b)) (by simp[Op.unary,ak]),by simp[a6]⟩
  ·cases he
 ·rename_i x op ty o;simp only[cx,fI]at au;obtain⟨rfl,J⟩:=au;have ak:=dX aI J;simp only[gS]at he;unfold Fy at he;split at he
  ·rename_i k n ae;cases he;rw[ae]at ak;simp only[a6]at ak;exact⟨_,k1 (v:= .int k (k.wrap (0-n))) (by simp[Op.unary,ak,Op.intArith]),by simp[a6]⟩
  ·cases he
 ·rename_i k x s d o;simp only[cx]at au;obtain⟨J,U⟩:=au;split at J
  ·rename_i aR be Bj tF;simp only[fI]at J;subst J;obtain⟨d1,e9,acB⟩:=iG aN Bj;obtain rfl:=DX acB;obtain⟨d2,eI,acC⟩:=iG aN tF;obtain rfl:=DX acC;have ak:=dX aI U;simp only[gS]at he;unfold DT at he;split at he
   ·rename_i bD n ae;cases he;rw[ae]at ak;simp only[a6]at ak;exact⟨_,k1 (v:= .int k (k.wrap n)) (by simp[convert,ak,run_underlying e9,run_underlying eI,Conv.intToInt]),by simp[a6]⟩
   ·cases he
  ·cases J
 ·rename_i i x o j;simp only[cx,dH]at au;obtain⟨rfl,J⟩:=au;have ak:=dX aI J;simp only[gS]at he;unfold yn at he;split at he
  ·rename_i a7 ae;simp only[gd]at he;obtain⟨q,bn,he⟩:=he;cases he;rw[ae]at ak;simp only[a6]at ak;obtain⟨us,hu,U⟩:=ak;obtain⟨v,g1,g2⟩:=CE i U bn;have abe:us[i]? =some v:=by simpa using g1
   exact⟨v,k1 (by simp[Instr.extract,hu,abe]),g2⟩
  ·cases he
 ·rename_i x o t;simp only[cx]at au;obtain⟨J,U⟩:=au;have ak:=dX aI U;simp only[gS]at he;unfold zj at he;split at he
  ·rename_i sz tag xs ae;cases he;rw[ae]at ak;simp only[a6]at ak;obtain⟨⟨r1,cap,aJ,_⟩,_⟩:=ak;refine⟨.int .i64 xs.length,?_,by simp[a6]⟩;split at J
   ·rename_i aQ;obtain⟨d,aK,eS⟩:=iG aN aQ;obtain rfl:=r6 eS;simp[execOp,resolve,invoke,builtin,Builtin.len_,run_underlying aK,aJ,goInt]
   ·cases J
  ·rename_i sz k n ae;cases he;rw[ae]at ak;simp only[a6]at ak;obtain⟨⟨r1,cap,aJ⟩,_⟩:=ak;refine⟨.int .i64 n,?_,by simp[a6]⟩;split at J
   ·rename_i aQ;obtain⟨d,aK,eS⟩:=iG aN aQ;obtain rfl:=r6 eS;simp[execOp,resolve,invoke,builtin,Builtin.len_,run_underlying aK,aJ,goInt]
   ·cases J
  ·rename_i r1 n cap ae;cases he;rw[ae]at ak;simp only[a6]at ak;refine⟨.int .i64 n,?_,by simp[a6]⟩;split at J
   ·rename_i aQ;obtain⟨d,aK,eS⟩:=iG aN aQ;obtain rfl:=r6 eS;simp[execOp,resolve,invoke,builtin,Builtin.len_,run_underlying aK,ak,goInt]
   ·cases J
  ·cases he
 ·rename_i x o t;simp only[cx]at au;obtain⟨J,U⟩:=au;have ak:=dX aI U;simp only[gS]at he;unfold CR at he;split at he
  ·rename_i s ae;cases he;rw[ae]at ak;simp only[a6]at ak;refine⟨.int .i64 s.length,?_,by simp[a6]⟩;split at J
   ·rename_i aQ;obtain⟨d,aK,eS⟩:=iG aN aQ;obtain rfl:=yi eS;simp[execOp,resolve,invoke,builtin,Builtin.len_,run_underlying aK,ak.1,goInt,CQ]
   ·cases J
  ·rename_i s ae;cases he;rw[ae]at ak;simp only[a6]at ak;refine⟨.int .i64 s.size,?_,by simp[a6]⟩;split at J
   ·rename_i aQ;obtain⟨d,aK,eS⟩:=iG aN aQ;obtain rfl:=yi eS;simp[execOp,resolve,invoke,builtin,Builtin.len_,run_underlying aK,ak,goInt]
   ·cases J
  ·cases he
 ·rename_i zero parts t cp;split at au
  ·rename_i dD z aQ;simp only[cx]at au;obtain⟨⟨J,U⟩,ao⟩:=au;have bf:=akz J;obtain⟨i,d,aky,ak,aA,bs,dq,ht,hv,qR,qS⟩:=(uG aN aQ).ex;obtain⟨gs,rfl,kc⟩:=HT ht;simp only at bf qR qS;subst bf;have la:(gs.toList.all fun f=>(dQ bo f.type).isSome)=true:=by rw[←kc]at U;simpa[List.all_map,Function.comp_def]using U
   obtain⟨sL,cQ,dm⟩:=Ul aN gs.toList la;rw[kc]at dm;cases aky<;>simp only[xV]at qR;case agg us=>
    simp only[gS]at he;cases ae:tq st.t zero parts with
    |none=>simp[ae]at he
    |some x=>obtain⟨cd,cs'⟩:=x;simp only[ae,nC]at he;cases he;obtain⟨b9,g1,g2⟩:=VF aI dm parts cp.toList zero us c cs' ao (MH w ν _ _ qR) ae av;refine⟨.agg b9,k1 (run_build w t _ b9 ?_),by simp only[a6];exact⟨b9,rfl,g2⟩⟩;simp only[Program.built,ak,aA,hv,cQ,ou];simpa using g1
   all_goals cases qR
  ·cases au
 ·rename_i x o;have ak:=dX aI au;simp only[gS]at he;unfold zu at he;split at he
  ·rename_i k off ae;cases he;rw[ae]at ak;have aA:=ak;simp only[a6]at ak;obtain⟨b,_,aJ⟩:=ak;exact⟨a.eval o,by simp[execOp,aJ],aA⟩
  ·rename_i q ae;cases he;rw[ae]at ak;have aA:=ak;simp only[a6]at ak;obtain⟨b,off,u,aJ,_⟩:=ak;exact⟨a.eval o,by simp[execOp,aJ],aA⟩
  ·rename_i f cs ae;cases he;rw[ae]at ak;have aA:=ak;simp only[a6]at ak;obtain⟨us,aJ,_⟩:=ak;exact⟨a.eval o,by simp[execOp,aJ],aA⟩
  ·cases he
 ·rename_i x y o o' t dE;simp only[cx]at au;have ak:=dX aI au.1;have aA:=dX aI au.2;simp only[gS]at he;unfold Fx at he;split at he
  ·rename_i k m bD n hm ar;split at he
   ·rename_i ab;subst ab;cases he;rw[hm]at ak;rw[ar]at aA;simp only[a6]at ak aA;exact⟨.int k (if n<m then n else m),by simp[execOp,resolve,invoke,builtin,Builtin.min_,Builtin.min2,ak,aA],by simp[a6]⟩
   ·cases he
  ·cases he
 ·rename_i n xs m os;simp only[cx,dH]at au;obtain⟨rfl,au⟩:=au;simp only[gS]at he;cases he;have tB:=CD aI au;refine⟨.func (.func n) #[] (os.map a.eval),by simp[execOp,Instr.makeFunc],?_⟩;simp only[a6];exact⟨os.map a.eval,rfl,by simpa using tB⟩
 ·rename_i ck zero ok x k t o o' FC;simp only[cx,dH]at au;obtain⟨⟨⟨rfl,J⟩,U⟩,ao⟩:=au;have ak:=dX aI U;have aA:=dX aI ao;split at J
  ·rename_i sz kQ mc oK z aQ;simp only[cx]at J;obtain⟨ac1,I1⟩:=J;split at I1
   ·rename_i alZ acF;have bf:=MJ I1;obtain⟨cB,hu,eS⟩:=iG aN aQ;have si:cB= .map mc oK:=by cases cB<;>simp[jW]at eS;obtain⟨rfl,rfl⟩:=eS;rfl
    subst si;obtain⟨bX,kL,z2,_⟩:=Me aN acF w;rw[←bf]at z2;have aa:=(MI w ν z2).1;have lE:=J1 aN ac1;simp only[gS]at he;unfold nq at he;split at he
    ·rename_i key ad;rw[ad]at ak;simp only[a6]at ak;obtain⟨bl,b8,b3⟩:=ak;split at he
     ·rename_i clock borns kvs hk;obtain⟨h8,us,el,g1,g2,g3,g4,g5⟩:=aI.good.box key _ hk;rw[b8]at g1;cases g1;simp only[jz]at g4;simp only[iX]at g5;have hp:(getObj bl).run P w= .ok (.map (fo borns us.toList).toArray clock) w:=uy g4;split at he
      ·cases he
      rename_i tJ;have u0:=LK (P:=P) (w:=w) lE ((fo borns us.toList).toArray.isEmpty) aA (by simpa using tJ);split at he
      ·rename_i v hm;cases he;obtain⟨j,u,f1,f2⟩:=Kq lE aA borns kvs us.toList 0 _ g5.1 g5.2.len hm;refine⟨if ok then .tuple #[u,.bool true]else u,?_,?_⟩
       ·simp only[execOp];refine k1 ?_;simp only[Instr.lookup,ft,run_underlying hu,fB,b3,hp,fZ,u0,f1.run lE]
       ·cases ok
        ·simpa using f2
        ·simp only[if_true,a6];exact⟨_,rfl,by simp only[cJ];exact⟨_,_,rfl,f2,_,_,rfl,by simp[a6],rfl⟩⟩
      ·rename_i hm;cases he;have f1:=Kq lE aA borns kvs us.toList 0 _ g5.1 g5.2.len hm;simp only at f1;refine⟨if ok then .tuple #[bX,.bool false]else bX,?_,?_⟩
       ·simp only[execOp];refine k1 ?_;simp only[Instr.lookup,ft,run_underlying hu,fB,b3,hp,fZ,u0,f1.run lE,kL]
       ·cases ok
        ·simpa using aa
        ·simp only[if_true,a6];exact⟨_,rfl,by simp only[cJ];exact⟨_,_,rfl,aa,_,_,rfl,by simp[a6],rfl⟩⟩
      ·cases he
     ·cases he
    ·cases he
   ·cases I1
  ·cases J
 ·rename_i x o;have ak:=dX aI au;simp only[gS]at he;unfold oY at he;split at he
  ·rename_i fb ad;rw[ad]at ak;simp only[a6]at ak;obtain⟨bl,b8,b3⟩:=ak;split at he
   ·rename_i since seen last mk hk;obtain⟨h8,us,el,g1,g2,g3,g4,g5⟩:=aI.good.box fb _ hk;rw[b8]at g1;cases g1;simp only[jz]at g4;simp only[iX,cJ,a6]at g5;obtain⟨u,b9,qo,⟨mb,m1,rfl⟩,rfl⟩:=g5;rw[qo]at g4;simp only at g4;split at he
    ·rename_i clock borns kvs ac7;obtain⟨alf,rP,alK,aR,be,bN,dB,c7⟩:=aI.good.box mk _ ac7;rw[m1]at aR;cases aR;simp only[jz]at dB;simp only[iX]at c7;split at he
     ·rename_i n ar;simp only[gd]at he;obtain⟨q,bn,he⟩:=he;cases he;obtain⟨e,f1,f2⟩:=Tp borns kvs rP.toList p c7.1 bn;refine⟨.tuple #[e.key,e.val],?_,f2⟩;simp only[execOp];refine k1 ?_;have acN:(getObj bl).run P w= .ok (.mapIter (some mb) since seen.toArray last) w:=uy g4;have acO:(getObj mb).run P w= .ok (.map (fo borns rP.toList).toArray clock) w:=uy dB;have IW:seen.toArray.back? =some n:=by simpa using ar
      have yF:(clock !=last)=false:=by simp[av]
      have acG:(fo borns rP.toList).toArray.find? (·.born==n)=some e:=by simpa using f1
      simp only[Instr.entry,b3,ft,acN,fB,IW,acO,yF,gr,if_false,acG,fZ]
     ·cases he
    ·cases he
   ·cases he
  ·cases he
 ·rename_i x o t;simp only[cx]at au;obtain⟨J,U⟩:=au;have ak:=dX aI U;simp only[gS]at he;unfold ud at he;split at he
  ·rename_i key ae;rw[ae]at ak;simp only[a6]at ak;obtain⟨bl,b8,b3⟩:=ak;split at he
   ·rename_i clock borns kvs hk;cases he;obtain⟨h8,us,el,g1,g2,g3,g4,g5⟩:=aI.good.box key _ hk;rw[b8]at g1;cases g1;simp only[jz]at g4;simp only[iX]at g5;have hp:(getObj bl).run P w= .ok (.map (fo borns us.toList).toArray clock) w:=uy g4;have hlen:(fo borns us.toList).length=borns.length:=PL g5.2.len (Vy g5.1);refine⟨.int .i64 borns.length,?_,by simp[a6]⟩;split at J
    ·rename_i aQ;obtain⟨d,aK,eS⟩:=iG aN aQ;obtain⟨mc,oK,rfl⟩:∃mc oK,d= .map mc oK:=by cases d<;>simp[jW]at eS;exact⟨_,_,rfl⟩
     simp[execOp,resolve,invoke,builtin,Builtin.len_,run_underlying aK,b3,goInt,hp,hlen]
    ·cases J
   ·cases he
  ·cases he
 ·rename_i neg dD x y op t o o' ajx;simp only[cx,fI]at au;obtain⟨⟨⟨rfl,bV⟩,J⟩,U⟩:=au;have ak:=dX aI J;have aA:=dX aI U;simp only[gS]at he;unfold lW at he;split at he
  ·rename_i bh b0 br ae;simp only at bV;cases he;rw[br]at ak;rw[ae]at aA;simp only[a6]at ak aA;split at bV
   ·rename_i aQ;obtain⟨d,aK,eS⟩:=iG aN aQ;obtain rfl:d= .bool:=by cases d<;>simp[jW]at eS;rfl
    refine⟨.bool (if neg then bh !=b0 else bh==b0),k1 ?_,by simp[a6]⟩;cases neg<;>simp[ak,aA,eqGuard,binOp,Yq aK,bne]
   ·cases bV
  ·rename_i al8 as eL br ae;simp only at bV;simp only[gd]at he;obtain⟨q,bn,he⟩:=he;cases he;rw[br]at ak;rw[ae]at aA;simp only[a6]at ak aA;obtain⟨X,Yf,ahK⟩:=ak;obtain⟨Y,Yg,ahL⟩:=aA;obtain⟨gs,hu,aS,dh,ix⟩:=Qk aN bV;obtain⟨i1,_,_⟩:=PR hu aS dh ahK ahL bn;refine⟨.bool (if neg then !q else q),k1 ?_,by simp[a6]⟩;rw[Yf,Yg];cases neg
   ·simp only[gr,if_false,ft,run_eqGuard_agg w _ t o o' X Y ix,fB,run_eql_struct,i1]
   ·simp only[if_true,ft,run_eqGuard_agg w _ t o o' X Y ix,fB,run_neq_struct,i1]
  ·cases he
 ·rename_i x y o o' t dE;simp only[cx]at au;have ak:=dX aI au.1;have aA:=dX aI au.2;simp only[gS]at he;unfold Fs at he;split at he
  ·rename_i k m bD n hm ar;split at he
   ·rename_i ab;subst ab;cases he;rw[hm]at ak;rw[ar]at aA;simp only[a6]at ak aA;exact⟨.int k (if m<n then n else m),by simp[execOp,resolve,invoke,builtin,Builtin.max_,Builtin.max2,ak,aA],by simp[a6]⟩
   ·cases he
  ·cases he
 ·rename_i t x dE o;simp only[cx,dH]at au;obtain⟨⟨rfl,J⟩,U⟩:=au;have ak:=dX aI U;simp only[gS]at he;cases he;split at J
  ·rename_i aQ;obtain⟨d,aK,eS⟩:=iG aN aQ;obtain rfl:=r6 eS;refine⟨.iface t (a.eval o),k1 (by simp[Instr.makeInterface,run_underlying aK]),?_⟩;simp only[a6];exact⟨_,rfl,ak⟩
  ·cases J
 ·rename_i agg sz x t o;simp only[cx]at au;obtain⟨J,U⟩:=au;split at J
  ·rename_i f aQ;simp only[cx,dH]at J;obtain⟨rfl,rfl⟩:=J;obtain⟨v,g1,g2⟩:=Fm aN aI.good aQ (dX aI U) (aeV (by simpa only[gS]using he)) av;exact⟨v,k1 g1,g2⟩
  ·cases J
 ·rename_i agg sz x t o;simp only[cx]at au;obtain⟨J,U⟩:=au;split at J
  ·rename_i f aQ;simp only[cx,dH]at J;obtain⟨rfl,rfl⟩:=J;obtain⟨v,g1,g2⟩:=Fm aN aI.good aQ (dX aI U) (aba (by simpa only[gS]using he)) av;exact⟨v,k1 g1,g2⟩
  ·cases J
 ·exact absurd rfl (acq _ _ _ _ _)
 ·cases au
theorem ajD{P:cy}{bo:List (Nat×du)}(aN:fA P bo=true){C:e2}{st:bj}{a:Act}{w:World}{ν:bc}(aI:cO C st a w ν){i:fL}{o:Oper}(au:C0 bo i o.op=true)
  {c:Prop} {p:ai} (he:gS st i=some (c,p)) (av:c):∃v,(execOp a.eval o).run P w= .ok (.value v) w∧a6 w ν p v:=by
 by_cases ae:∃ck z ok x k,i= .mgetB ck z ok x k
 ·obtain⟨ck,z,ok,x,k,rfl⟩:=ae;refine V7 aN aI (i:= .mget ck z ok x k) (fun _ _ _ _ _ e=>by cases e) ?_ he av;obtain⟨dst,op,type,pos,after,guard⟩:=o;cases op<;>first|exact au|simp[C0]at au
 ·exact V7 aN aI (fun ck z ok x k e=>ae ⟨ck,z,ok,x,k,e⟩) au he av
theorem Pn{w:World}{o:Obj}{b i:Nat}(h:b<w.heap.size):(w.alloc o).cell? ⟨b,i,none⟩=w.cell? ⟨b,i,none⟩:=World.cell?_of_block (Below.heap_alloc w o b h)
def bc.withBox(ν:bc)(k:aH)(bl:Nat):bc:={ν with bx:=fun j=>if j=k then some bl else ν.bx j}
def bc.withOwn(ν:bc)(k:aH)(n:Nat)(v:Value):bc:={ν with ow:=fun j=>if j=k then some (n,v)else ν.ow j}
theorem cO.lookNone{C:e2}{st:bj}{a:Act}{w:World}{ν:bc}(h:cO C st a w ν){k:aH}(ab:fresh st.n st.o k):look k st.b=none∧look k st.e=none:=by
 obtain⟨J,U,_⟩:=h.new k ab;constructor
 ·cases ae:look k st.b with
  |none=>rfl
  |some cs=>obtain⟨bl,us,el,g1,_⟩:=h.good.box _ _ ae;rw[J]at g1;cases g1
 ·cases ae:look k st.e with
  |none=>rfl
  |some o=>obtain⟨v,us,g1,_⟩:=h.good.own _ _ ae;rw[U]at g1;cases g1
theorem Good.ownLt{pr:Nat→Prop}{w:World}{ν:bc}{b:List (aH×List ai)}{e:List (aH×fv)}(h:Good pr w ν b e){g:aH}{o:fv}(aS:look g e=some o){n:Nat}{v:Value}(aJ:ν.ow g=some (n,v)){bl:Nat}(ae:v.ownBlock=some bl):bl<w.heap.size:=by obtain⟨v',us,g1,g2,_⟩:=h.own g o aS;rw[aJ]at g1;cases g1;exact(g2.lt bl ae).2
theorem Good.boxLt{pr:Nat→Prop}{w:World}{ν:bc}{b:List (aH×List ai)}{e:List (aH×fv)}(h:Good pr w ν b e){k:aH}{cs:List ai}(ab:look k b=some cs){bl:Nat}(ae:ν.bx k=some bl):bl<w.heap.size:=by obtain⟨h8,us,el,g1,_,_,g4,_⟩:=h.box k cs ab;rw[ae]at g1;cases g1;exact(Array.getElem?_eq_some_iff.1 g4).1
theorem cO.newBox{C:e2}{st:bj}{a:Act}{w:World}{ν:bc}(h:cO C st a w ν){gF:aH}(Br:ν.bx gF=none∧ν.ow gF=none∧∀j b,¬ν.tr gF j b){n':Nat}{o':List aH}(dT:∀j,fresh n' o' j→fresh st.n st.o j∧j≠gF){cs:List ai}{us:Array Value}(el:gx)(av:iX w ν cs us.toList):
  cO C {st with b:=ct gF cs st.b,n:=n',o:=o'} a (w.alloc (jz cs us el)) (ν.withBox gF w.heap.size)∧
  a6 (w.alloc (jz cs us el)) (ν.withBox gF w.heap.size) (.ptr gF 0) (.pointer (some ⟨w.heap.size,0,none⟩)):=by
 obtain⟨re,Bu,ade⟩:=Br;have au:k5 w ν (w.alloc (jz cs us el)) (ν.withBox gF w.heap.size):=by
  refine⟨fun b o bd=>⟨bd,Pn (h.good.alt b o bd)⟩,fun k b _ ab=>?_,fun g n u _ aS=>⟨n,u,aS,.inl ⟨rfl,rfl⟩⟩,fun b o bd=>vO (Below.heap_alloc w _ b (h.good.alt b o bd)),fun _ _ _ _ h=>h⟩;have:k≠gF:=fun e=>by subst e;rw[re]at ab;cases ab
  simp[bc.withBox,this,ab]
 have ed:(w.alloc (jz cs us el)).heap.size=w.heap.size+1:=by simp
 have ka:∀k,(look k (ct gF cs st.b)).isSome→k=gF∨(k≠gF∧(look k st.b).isSome∧(ν.withBox gF w.heap.size).bx k=ν.bx k):=by
  intro k ab;by_cases e:k=gF
  ·exact .inl e
  ·rw[iC,if_neg (kO e)]at ab;exact .inr ⟨e,ab,by simp[bc.withBox,e]⟩
 refine⟨h.over au rfl ⟨fun bl o bd=>by rw[ed];have:=h.good.alt bl o bd;omega,fun k eH ab=>?_,fun k bD bl ab l4 ak aA=>?_,fun g o aS=>?_,h.good.oinj,fun g k n v bl aS ab aJ ae ad=>?_,fun k=>?_,fun bl ae k j aN=>?_⟩
  ⟨h.fr.os,h.fr.tape,h.fr.output,by rw[ed];have:=h.fr.size;omega,fun k ab hm=>?_,fun b o bd=>?_,h.fr.fresh,fun n b ae=>?_,h.fr.obn,h.fr.row,h.fr.obr,h.fr.trd,fun k j b ae=>⟨(h.fr.trb k j b ae).1,by rw[ed];have:=(h.fr.trb k j b ae).2;omega⟩,fun k j b ae=>?_,fun b o bd=>(au.sh b o (h.fr.keep b o bd).1).trans (h.fr.sh b o bd)⟩ (fun m hm=>?_),?_⟩
 ·simp only at ab;rw[iC]at ab;by_cases e:gF=k
  ·rw[if_pos e]at ab;cases ab;subst e;refine⟨w.heap.size,us,el,by simp[bc.withBox],.inr h.fr.size,fun o bd=>?_,heap_alloc_new w _,pR au av⟩;have:=h.good.alt _ o bd;omega
  ·rw[if_neg e]at ab;obtain⟨bl,b9,fM,g1,g2,g3,g4,g5⟩:=h.good.box k eH ab;exact⟨bl,b9,fM,au.bx _ _ trivial g1,g2,g3,by rw[Below.heap_alloc w _ bl (Array.getElem?_eq_some_iff.1 g4).1];exact g4,pR au g5⟩
 ·rcases ka k ab with rfl|⟨hq,fX,iU⟩<;>rcases ka bD l4 with rfl|⟨m1,m2,m3⟩
  ·rfl
  ·exfalso;simp only[bc.withBox,if_true,dt]at ak;subst ak;rw[m3]at aA;obtain⟨eH,iw⟩:=fm.1 m2;have:=h.good.boxLt iw aA;omega
  ·exfalso;simp only[bc.withBox,if_true,dt]at aA;subst aA;rw[iU]at ak;obtain⟨eH,iw⟩:=fm.1 fX;have:=h.good.boxLt iw ak;omega
  ·rw[iU]at ak;rw[m3]at aA;exact h.good.inj k bD bl fX m2 ak aA
 ·obtain⟨v,xs,g1,g2,g3,g4⟩:=h.good.own g o aS;exact⟨v,xs,g1,g2.alloc _,g3,rI au (fun _ _ _ h=>h) g4⟩
 ·rcases ka k ab with rfl|⟨hq,fX,iU⟩
  ·simp only[bc.withBox,if_true,dt]at ad;subst ad;obtain⟨o,hA⟩:=fm.1 aS;have:=h.good.ownLt hA aJ ae;omega
  ·rw[iU]at ad;exact h.good.obx g k n v bl aS fX aJ ae ad
 ·by_cases e:k=gF
  ·subst e;exact .inr Bu
  ·rcases h.good.one k with J|J
   ·exact .inl (by simp[bc.withBox,e,J])
   ·exact .inr J
 ·rcases ae with⟨bD,bp,a2⟩|ae
  ·rcases ka bD bp with rfl|⟨hq,fX,iU⟩
   ·simp[bc.withBox]at a2;subst a2;exact absurd (h.fr.trb k j _ aN).2 (Nat.lt_irrefl _)
   ·exact h.good.otr bl (.inl ⟨bD,fX,by rw[←iU];exact a2⟩) k j aN
  ·exact h.good.otr bl (.inr ae) k j aN
 ·rw[Below.heap_alloc w _ k (by have:=h.fr.size;omega)];exact h.fr.block k ab hm
 ·obtain⟨aR,be⟩:=h.fr.keep b o bd;exact⟨aR,(Pn (h.good.alt b o aR)).trans be⟩
 ·exact au.bx _ _ trivial (h.fr.obj n b ae)
 ·have cC:k≠gF:=fun e=>by subst e;exact ade j b ae
  obtain⟨t1,t2⟩:=h.fr.trn k j b ae;exact⟨by simp[bc.withBox,cC,t1],t2⟩
 ·obtain⟨f1,f2⟩:=dT m hm;obtain⟨aR,be⟩:=h.new m f1;refine⟨?_,be⟩;simp[bc.withBox,f2,aR]
 ·simp[a6,bc.withBox]
theorem cO.setBox{C:e2}{st:bj}{a:Act}{w w':World}{ν:bc}(h:cO C st a w ν){k:aH}{cs cs':List ai}(ab:look k st.b=some cs){bl:Nat}(ae:ν.bx k=some bl){us:Array Value}{el:gx}
  (yU:w'.os=w.os) (JA:w'.tape=w.tape) (Jm:w'.output=w.output) (mF:∀j,j≠bl→w'.heap[j]? =w.heap[j]?) (ed:w'.heap.size=w.heap.size) (iR:w'.heap[bl]? =some (jz cs' us el)) (av:iX w ν cs' us.toList):
  cO C {st with b:=ct k cs' st.b} a w' ν∧k5 w ν w' ν:=by
 obtain⟨h8,fl,alJ,g1,g2,g3,g4,g5⟩:=h.good.box k cs ab;rw[ae]at g1;cases g1;have au:k5 w ν w' ν:=by
  refine⟨fun b o bd=>⟨bd,World.cell?_of_block (mF b fun e=>?_)⟩,fun _ _ _ h=>h,fun g n u _ aS=>⟨n,u,aS,.inl ⟨rfl,rfl⟩⟩,fun b o bd=>vO (mF b fun e=>?_),fun _ _ _ _ h=>h⟩<;>
  (subst e;exact g3 o bd)
 have Ew:∀j,(look j (ct k cs' st.b)).isSome→(look j st.b).isSome:=by
  intro j ag;rw[iC]at ag;by_cases e:k=j
  ·subst e;simp[ab]
  ·rwa[if_neg e]at ag
 refine⟨h.over au rfl ⟨fun b o bd=>by rw[ed];exact h.good.alt b o bd,fun j eH ag=>?_,fun j dx b ag jG=>h.good.inj j dx b (Ew j ag) (Ew dx jG),fun g o aS=>?_,h.good.oinj,fun g j n v b aS ag=>h.good.obx g j n v b aS (Ew j ag),h.good.one,fun bl ae=>h.good.otr bl (ae.imp (fun⟨k,J,U⟩=>⟨k,Ew k J,U⟩) id)⟩
  ⟨yU.trans h.fr.os,JA.trans h.fr.tape,Jm.trans h.fr.output,by rw[ed];exact h.fr.size,fun j ag hm=>?_,fun b o bd=>?_,h.fr.fresh,h.fr.obj,h.fr.obn,h.fr.row,h.fr.obr,h.fr.trd,fun k j b ae=>⟨(h.fr.trb k j b ae).1,by rw[ed];exact(h.fr.trb k j b ae).2⟩,h.fr.trn,fun b o bd=>(au.sh b o (h.fr.keep b o bd).1).trans (h.fr.sh b o bd)⟩ h.new,au⟩
 ·simp only at ag;rw[iC]at ag;by_cases e:k=j
  ·rw[if_pos e]at ag;cases ag;subst e;exact⟨bl,us,el,ae,g2,g3,iR,pR au av⟩
  ·rw[if_neg e]at ag;obtain⟨b,b9,fM,ak,aA,bs,dq,ht⟩:=h.good.box j eH ag;refine⟨b,b9,fM,ak,aA,bs,?_,pR au ht⟩;rw[mF b fun fD=>e (h.good.inj k j bl (by simp[ab]) (by simp[ag]) ae (by rw[←fD];exact ak))];exact dq
 ·obtain⟨v,xs,ak,aA,bs,dq⟩:=h.good.own g o aS;refine⟨v,xs,ak,⟨aA.1,?_⟩,bs,rI au (fun _ _ _ h=>h) dq⟩;rcases aA.2 with aA|⟨bb,cap,cur,f1,f2,f3,f4⟩
  ·exact .inl aA
  ·refine .inr ⟨bb,cap,cur,f1,f2,?_,f4⟩;rw[mF bb fun fD=>h.good.obx g k o.n v bl (by simp[aS]) (by simp[ab]) ak (by rw[f1,←fD];rfl) ae];exact f3
 ·rw[mF j fun e=>by subst e;exact g2.elim hm (fun g2=>by omega)];exact h.fr.block j ag hm
 ·obtain⟨aR,be⟩:=h.fr.keep b o bd;exact⟨aR,(au.A b o aR).2.trans be⟩
theorem cO.storeBox{C:e2}{st:bj}{a:Act}{w:World}{ν:bc}(h:cO C st a w ν){k:aH}{cs cs':List ai}(ab:look k st.b=some cs){bl:Nat}(ae:ν.bx k=some bl)(bF:hE cs=true){us:Array Value}(av:dd w ν cs' us.toList):
  cO C {st with b:=ct k cs' st.b} a (w.setRow bl us) ν:=by
 obtain⟨h8,fl,el,g1,g2,g3,g4,g5⟩:=h.good.box k cs ab;rw[ae]at g1;cases g1;rw[ui bF]at g4;have RR:=zW av;exact(h.setBox (w':=w.setRow bl us) ab ae (us:=us) (el:=el) rfl rfl rfl (fun j ag=>setRow_other w bl j us ag) (setRow_size w bl us) (by rw[ui RR];exact setRow_heap w bl fl us el _ g4) (by rw[uj RR];exact av)).1
def bc.withRowOf(ν:bc)(k:aH)(v:Value)(n cells:Nat):bc:={A:=fun b o=>ν.A b o∨(v.ownBlock=some b∧o<cells),bx:=ν.bx,ow:=fun j=>if j=k then some (n,v)else ν.ow j,tr:=ν.tr}
theorem zi{w:World}{A:Nat→Nat→Prop}{b:Nat}:∀(us:List Value) (off:Nat),(∀j u,us[j]? =some u→A b (off+j)∧w.cell? ⟨b,off+j,none⟩=some u)→lr w A b off us
 |[],_,_=>trivial
 |u::us,off,h=>⟨h 0 u rfl,zi us (off+1) fun j x ag=>by have:=h (j+1) x (by simpa using ag);rwa[show off+(j+1)=off+1+j from by omega]at this⟩
theorem DR{w w':World}(aS:w.grownBy w' none){b i:Nat}(h:b<w.heap.size):w'.cell? ⟨b,i,none⟩=w.cell? ⟨b,i,none⟩:=World.cell?_of_block (aS.block b h (by simp))
theorem cO.newRowM{C:e2}{st:bj}{a:Act}{w w':World}{ν:bc}(h:cO C st a w ν){k:aH}{xs:List ai}(ab:(ν.bx k=none∧ν.ow k=none∧∀j b,¬ν.tr k j b)∨ ∃o,look k st.e=some o∧o.n<xs.length){el sz:Nat}{v:Value}{us:List Value}
  (aS:w.grownBy w' none) (lg:w'.ownsRow w.heap.size el sz v xs.length us) (av:dw w ν sz xs us) (ib:xs.length≤lim) {n':Nat} {o':List aH} (dT:∀j,fresh n' o' j→fresh st.n st.o j∧j≠k):
  cO C {st with e:=ct k ⟨xs.length,el,sz,some xs⟩ st.e,n:=n',o:=o'} a w' (ν.withOwn k xs.length v)∧
  ((∃b cap,v= .slice (some ⟨b,0,none⟩) xs.length cap)→a6 w' (ν.withOwn k xs.length v) (.row sz k xs.length) v):=by
 have pw:∀bl,v.ownBlock=some bl→w.heap.size≤bl∧bl<w'.heap.size:=fun bl ae=>lg.lt bl ae;have au:k5 w ν w' (ν.withOwn k xs.length v):=by
  refine⟨fun b o bd=>⟨bd,DR aS (h.good.alt b o bd)⟩,fun j b _ ag=>ag,fun g n u _ ix=>?_,fun b o bd=>vO (aS.block b (h.good.alt b o bd) (by simp)),fun _ _ _ _ h=>h⟩;by_cases e:g=k
  ·subst e;rcases ab with ab|⟨o,au,bq⟩
   ·rw[ab.2.1]at ix;cases ix
   ·obtain⟨v0,fl,ak,_⟩:=h.good.own g o au;rw[ak]at ix;cases ix;exact⟨xs.length,v,by simp[bc.withOwn],.inr bq⟩
  ·exact⟨n,u,by simp[bc.withOwn,e,ix],.inl ⟨rfl,rfl⟩⟩
 have kB:∀g,(look g (ct k ⟨xs.length,el,sz,some xs⟩ st.e)).isSome→g=k∨(g≠k∧(look g st.e).isSome∧(ν.withOwn k xs.length v).ow g=ν.ow g):=by
  intro g kc;by_cases e:g=k
  ·exact .inl e
  ·rw[iC,if_neg (kO e)]at kc;exact .inr ⟨e,kc,by simp[bc.withOwn,e]⟩
 have RN:∀bl,v.ownBlock=some bl→∀j,¬ν.A bl j:=fun bl ae j bd=>by have J:=h.good.alt bl j bd;have:=(pw bl ae).1;omega
 have adm:∀j b,¬ν.tr k j b:=fun j b ae=>by
  rcases ab with ab|⟨o,hA,_⟩
  ·exact ab.2.2 j b ae
  ·obtain⟨v0,fl,ak,_⟩:=h.good.own k o hA;rw[(h.fr.trn k j b ae).2]at ak;cases ak
 refine⟨h.over au rfl ⟨fun bl o bd=>?_,fun j eH ag=>?_,h.good.inj,fun g o eJ=>?_,fun g eX n n' u e0 bl J U ao aZ b1 c6=>?_,fun g j n u bl J U ao aZ b1=>?_,fun j=>?_,fun bl ae bD j aN=>?_⟩
  ⟨aS.os.trans h.fr.os,aS.tape.trans h.fr.tape,aS.output.trans h.fr.output,ji h.fr.size aS.size,fun j ag hm=>?_,fun b o bd=>?_,h.fr.fresh,h.fr.obj,h.fr.obn,fun m n u hm=>CG (h.fr.row m n u hm) (fun n u=>au.ow _ n u trivial),h.fr.obr,h.fr.trd,fun k j b ae=>⟨(h.fr.trb k j b ae).1,Nat.lt_of_lt_of_le (h.fr.trb k j b ae).2 aS.size⟩,fun bD j b ae=>?_,fun b o bd=>(au.sh b o (h.fr.keep b o bd).1).trans (h.fr.sh b o bd)⟩ (fun m hm=>?_),?_⟩
 ·have:=h.good.alt bl o bd;have:=aS.size;omega
 ·obtain⟨bl,b9,fM,g1,g2,g3,g4,g5⟩:=h.good.box j eH ag;have bq:=(Array.getElem?_eq_some_iff.1 g4).1;exact⟨bl,b9,fM,g1,g2,g3,by rw[aS.block bl bq (by simp)];exact g4,pR au g5⟩
 ·simp only at eJ;rw[iC]at eJ;by_cases e:k=g
  ·rw[if_pos e]at eJ;cases eJ;subst e;refine⟨v,us,by simp[bc.withOwn],⟨lg.1,?_⟩,fun bl ae=>⟨.inr (ji h.fr.size (pw bl ae).1),fun j bd=>absurd bd (RN bl ae j)⟩,fun ys aG=>?_⟩
   ·rcases lg.2 with ak|⟨bb,cap,cur,f1,f2,f3⟩
    ·exact .inl ak
    ·exact .inr ⟨bb,cap,cur,f1,by omega,f3⟩
   ·simp only[dt]at aG;subst aG;exact⟨rfl,zT au av,RN⟩
  ·rw[if_neg e]at eJ;obtain⟨v0,fl,ak,aA,bs,dq⟩:=h.good.own g o eJ;exact⟨v0,fl,by simp[bc.withOwn,kO e,ak],aA.kept aS (by cases v0.ownBlock<;>simp),bs,rI au (fun _ _ _ h=>h) dq⟩
 ·rcases kB g J with rfl|⟨hq,fX,iU⟩<;>rcases kB eX U with rfl|⟨m1,m2,m3⟩
  ·rfl
  ·exfalso;simp only[bc.withOwn,if_true,dt,jm]at ao;rw[m3]at aZ;obtain⟨o,hA⟩:=fm.1 m2;have aq:=h.good.ownLt hA aZ c6;have:=(pw bl (by rw[ao.2];exact b1)).1;omega
  ·exfalso;simp only[bc.withOwn,if_true,dt,jm]at aZ;rw[iU]at ao;obtain⟨o,hA⟩:=fm.1 fX;have aq:=h.good.ownLt hA ao b1;have:=(pw bl (by rw[aZ.2];exact c6)).1;omega
  ·rw[iU]at ao;rw[m3]at aZ;exact h.good.oinj g eX n n' u e0 bl fX m2 ao aZ b1 c6
 ·rcases kB g J with rfl|⟨hq,fX,iU⟩
  ·simp only[bc.withOwn,if_true,dt,jm]at ao;obtain⟨eH,iw⟩:=fm.1 U;have aq:=h.good.boxLt iw b1;have:=(pw bl (by rw[ao.2];exact aZ)).1;omega
  ·rw[iU]at ao;exact h.good.obx g j n u bl fX U ao aZ b1
 ·by_cases e:j=k
  ·subst e;rcases ab with ab|⟨o,hA,_⟩
   ·exact .inl ab.1
   ·obtain⟨v0,fl,ak,_⟩:=h.good.own j o hA;rcases h.good.one j with J|J
    ·exact .inl J
    ·rw[J]at ak;cases ak
  ·rcases h.good.one j with J|J
   ·exact .inl J
   ·exact .inr (by simp[bc.withOwn,e,J])
 ·rcases ae with ae|⟨g,n,u,bp,a2,a3⟩
  ·exact h.good.otr bl (.inl ae) bD j aN
  ·rcases kB g bp with rfl|⟨hq,fX,iU⟩
   ·simp only[bc.withOwn,if_true,dt,jm]at a2;have J:=(pw bl (by rw[a2.2];exact a3)).1;have U:=(h.fr.trb bD j _ aN).2;omega
   ·exact h.good.otr bl (.inr ⟨g,n,u,fX,by rw[←iU];exact a2,a3⟩) bD j aN
 ·rw[aS.block j (by have:=h.fr.size;omega) (by simp)];exact h.fr.block j ag hm
 ·obtain⟨aR,be⟩:=h.fr.keep b o bd;exact⟨aR,(au.A b o aR).2.trans be⟩
 ·have cC:bD≠k:=fun e=>by subst e;exact adm j b ae
  obtain⟨t1,t2⟩:=h.fr.trn bD j b ae;exact⟨t1,by simp[bc.withOwn,cC,t2]⟩
 ·obtain⟨f1,f2⟩:=dT m hm;obtain⟨aR,be,bN⟩:=h.new m f1;refine⟨aR,?_,bN⟩;simp[bc.withOwn,f2,be]
 ·intro I5;simp only[a6];exact⟨I5,ib,xs.length,v,by simp[bc.withOwn],e1 _,fun _=>rfl⟩
theorem cO.publish{C:e2}{st:bj}{a:Act}{w:World}{ν:bc}(h:cO C st a w ν){k:aH}{o:fv}{xs:List ai}(ab:look k st.e=some o)(ad:o.xs=some xs){v:Value}(aJ:ν.ow k=some (o.n,v))(ib:xs.length≤lim):
  cO C {st with e:=ct k ⟨o.n,o.el,o.sz,none⟩ st.e} a w (ν.withRowOf k v o.n (o.n*o.sz))∧
  a6 w (ν.withRowOf k v o.n (o.n*o.sz)) (.slice o.sz (.own k) xs) v:=by
 obtain⟨v0,us,a1,bt,b2,c2⟩:=h.good.own k o ab;rw[aJ]at a1;cases a1;obtain⟨c8,nr,um⟩:=c2 xs ad;have nY:∀g,(ν.withRowOf k v o.n (o.n*o.sz)).ow g=ν.ow g:=fun g=>by
  simp only[bc.withRowOf];split
  ·rename_i e;subst e;exact aJ.symm
  ·rfl
 have au:k5 w ν w (ν.withRowOf k v o.n (o.n*o.sz)):=⟨fun b o bd=>⟨.inl bd,rfl⟩,fun j b _ ag=>ag,fun g n u _ ix=>⟨n,u,by rw[nY];exact ix,.inl ⟨rfl,rfl⟩⟩,fun _ _ _=>rfl,fun _ _ _ _ h=>h⟩
 have kB:∀g,(look g (ct k ⟨o.n,o.el,o.sz,none⟩ st.e)).isSome→(look g st.e).isSome:=by
  intro g kc;by_cases e:k=g
  ·subst e;simp[ab]
  ·rwa[iC,if_neg e]at kc
 refine⟨h.over au rfl ⟨fun bl i bd=>?_,fun j eH ag=>?_,h.good.inj,fun g o' eJ=>?_,fun g eX n n' u e0 bl J U ao aZ=>h.good.oinj g eX n n' u e0 bl (kB g J) (kB eX U) (by rwa[nY]at ao) (by rwa[nY]at aZ),fun g j n u bl J U ao=>h.good.obx g j n u bl (kB g J) U (by rwa[nY]at ao),fun j=>?_,fun bl ae=>h.good.otr bl (ae.imp id (fun⟨g,n,v,bp,a2,a3⟩=>⟨g,n,v,kB g bp,by rwa[nY]at a2,a3⟩))⟩
  ⟨h.fr.os,h.fr.tape,h.fr.output,h.fr.size,h.fr.block,fun b i bd=>⟨.inl (h.fr.keep b i bd).1,(h.fr.keep b i bd).2⟩,fun b i bd=>?_,h.fr.obj,h.fr.obn,fun m n u hm=>CG (h.fr.row m n u hm) (fun n u=>au.ow _ n u trivial),h.fr.obr,h.fr.trd,h.fr.trb,fun bD j b ae=>⟨(h.fr.trn bD j b ae).1,by rw[nY];exact(h.fr.trn bD j b ae).2⟩,h.fr.sh⟩ (fun m hm=>?_),?_⟩
 ·rcases bd with bd|⟨bd,_⟩
  ·exact h.good.alt bl i bd
  ·exact(bt.lt bl bd).2
 ·obtain⟨bl,b9,fM,g1,g2,g3,g4,g5⟩:=h.good.box j eH ag;refine⟨bl,b9,fM,g1,g2,fun i bd=>?_,g4,pR au g5⟩;rcases bd with bd|⟨bd,_⟩
  ·exact g3 i bd
  ·exact h.good.obx k j o.n v bl (by simp[ab]) (by simp[ag]) aJ bd g1
 ·simp only at eJ;rw[iC]at eJ;by_cases e:k=g
  ·rw[if_pos e]at eJ;cases eJ;subst e;refine⟨v,us,by rw[nY];exact aJ,bt,fun bl ae=>⟨(b2 bl ae).1,fun j bd=>?_⟩,fun ys aG=>by cases aG⟩;rcases bd with bd|⟨_,bd⟩
   ·exact(b2 bl ae).2 j bd
   ·exact bd
  ·rw[if_neg e]at eJ;obtain⟨v0,fl,ak,aA,bs,dq⟩:=h.good.own g o' eJ;have uY:∀bl,v0.ownBlock=some bl→∀j,(ν.withRowOf k v o.n (o.n*o.sz)).A bl j→ν.A bl j:=fun bl ae j bd=>by
    rcases bd with bd|⟨bd,_⟩
    ·exact bd
    ·exact absurd (h.good.oinj k g o.n o'.n v v0 bl (by simp[ab]) (by simp[eJ]) aJ ak bd ae) e
   exact⟨v0,fl,by rw[nY];exact ak,aA,fun bl ae=>⟨(bs bl ae).1,fun j bd=>(bs bl ae).2 j (uY bl ae j bd)⟩,rI au uY dq⟩
 ·rcases h.good.one j with J|J
  ·exact .inl J
  ·exact .inr (by rw[nY];exact J)
 ·rcases bd with bd|⟨bd,_⟩
  ·exact h.fr.fresh b i bd
  ·exact .inr (b2 b bd).1
 ·obtain⟨aR,be,bN⟩:=h.new m hm;exact⟨aR,by rw[nY];exact be,bN⟩
 ·simp only[a6];refine⟨?_,fun e=>(by cases e),fun g e=>?_,fun _ _ e=>(by cases e),fun _ e=>(by cases e)⟩
  ·rcases bt.2 with⟨ak,aA⟩|⟨bb,cap,cur,f1,f2,f3,f4,f5,f6,f7⟩
   ·refine⟨none,0,by rw[ak,c8,aA],by omega,⟨by simp[maxLen],ib⟩,.inl (List.eq_nil_of_length_eq_zero (by omega))⟩
   ·refine⟨some ⟨bb,0,none⟩,cap,by rw[f1,c8],by omega,⟨f5,ib⟩,.inr ⟨bb,0,us,rfl,zi us 0 fun j u ag=>?_,zT au nr⟩⟩;have n3:v.ownBlock=some bb:=by rw[f1];rfl
    have yN:j<us.length:=(fG.1 ag).1;refine⟨.inr ⟨n3,by rw[bt.1]at yN;omega⟩,?_⟩;have:=bt.cells n3 j u ag;rwa[oC]at this
  ·cases e;exact⟨o.n,v,by rw[nY];exact aJ,by omega,fun _=>rfl⟩
theorem V5{α:Type}(k:aH)(p q:α):∀l,ct k q (ct k p l)=ct k q l
 |[]=>by simp[ct]
 |(i,r)::l=>by
  by_cases e:i=k
  ·simp[ct,e]
  ·simp[ct,e,V5 k p q l]
theorem cO.newRow{C:e2}{st:bj}{a:Act}{w w':World}{ν:bc}(h:cO C st a w ν){k:aH}{xs:List ai}(ab:(ν.bx k=none∧ν.ow k=none∧∀j b,¬ν.tr k j b)∨ ∃o,look k st.e=some o∧o.n<xs.length){el sz:Nat}{v:Value}{us:List Value}
  (aS:w.grownBy w' none) (lg:w'.ownsRow w.heap.size el sz v xs.length us) (av:dw w ν sz xs us) (ib:xs.length≤lim) {n':Nat} {o':List aH} (dT:∀j,fresh n' o' j→fresh st.n st.o j∧j≠k):
  cO C {st with e:=ct k ⟨xs.length,el,sz,none⟩ st.e,n:=n',o:=o'} a w' ((ν.withOwn k xs.length v).withRowOf k v xs.length (xs.length*sz))∧
  a6 w' ((ν.withOwn k xs.length v).withRowOf k v xs.length (xs.length*sz)) (.slice sz (.own k) xs) v:=by
 have J:=(h.newRowM ab aS lg av ib dT).1;have U:=J.publish (k:=k) (o:=⟨xs.length,el,sz,some xs⟩) (xs:=xs) (v:=v) (by simp[iC]) rfl (by simp[bc.withOwn]) ib;simpa only[V5]using U
theorem cO.setRowM{C:e2}{st:bj}{a:Act}{w w':World}{ν:bc}(h:cO C st a w ν){k:aH}{o:fv}{xs xs':List ai}(ab:look k st.e=some o)(ad:o.xs=some xs){bl:Nat}{v v':Value}(aJ:ν.ow k=some (o.n,v))(n3:v.ownBlock=some bl)(ES:v'.ownBlock=some bl)
  (ar:(xs'.length=o.n∧v'=v)∨o.n<xs'.length) {us:List Value} (yU:w'.os=w.os) (JA:w'.tape=w.tape) (Jm:w'.output=w.output) (mF:∀j,j≠bl→w'.heap[j]? =w.heap[j]?) (ed:w'.heap.size=w.heap.size)
  (lg:w'.ownsRow 0 o.el o.sz v' xs'.length us) (av:dw w ν o.sz xs' us):
  cO C {st with e:=ct k ⟨xs'.length,o.el,o.sz,some xs'⟩ st.e} a w' (ν.withOwn k xs'.length v')∧k5 w ν w' (ν.withOwn k xs'.length v')∧(xs'.length≤lim→a6 w' (ν.withOwn k xs'.length v') (.row o.sz k xs'.length) v'):=by
 obtain⟨v0,fl,a1,bt,b2,c2⟩:=h.good.own k o ab;rw[aJ]at a1;cases a1;obtain⟨c8,nr,um⟩:=c2 xs ad;have au:k5 w ν w' (ν.withOwn k xs'.length v'):=by
  refine⟨fun b i bd=>⟨bd,World.cell?_of_block (mF b fun e=>by subst e;exact um b n3 i bd)⟩,fun j b _ ag=>ag,fun g n u _ ix=>?_,fun b i bd=>vO (mF b fun e=>by subst e;exact um b n3 i bd),fun _ _ _ _ h=>h⟩;by_cases e:g=k
  ·subst e;rw[aJ]at ix;cases ix;refine⟨xs'.length,v',by simp[bc.withOwn],?_⟩;rcases ar with⟨J,U⟩|J
   ·exact .inl ⟨J,U⟩
   ·exact .inr J
  ·exact⟨n,u,by simp[bc.withOwn,e,ix],.inl ⟨rfl,rfl⟩⟩
 have kB:∀g n u,(look g (ct k ⟨xs'.length,o.el,o.sz,some xs'⟩ st.e)).isSome→(ν.withOwn k xs'.length v').ow g=some (n,u)→∀b,u.ownBlock=some b→(look g st.e).isSome∧∃n u,ν.ow g=some (n,u)∧u.ownBlock=some b:=by
  intro g n u kc ix b ae;by_cases e:g=k
  ·subst e;simp only[bc.withOwn,if_true,dt,jm]at ix;rw[←ix.2,ES]at ae;cases ae;exact⟨by simp[ab],o.n,v,aJ,n3⟩
  ·rw[iC,if_neg (kO e)]at kc;simp only[bc.withOwn,e,if_false]at ix;exact⟨kc,n,u,ix,ae⟩
 refine⟨h.over au rfl ⟨fun b i bd=>by rw[ed];exact h.good.alt b i bd,fun j eH ag=>?_,h.good.inj,fun g o' eJ=>?_,fun g eX n n' u e0 b J U ao aZ b1 c6=>?_,fun g j n u b J U ao aZ b1=>?_,fun j=>?_,fun b ae=>h.good.otr b (ae.imp id (fun⟨g,n,v,bp,a2,a3⟩=>by obtain⟨b8,hq,iH,b3,fR⟩:=kB g n v bp a2 b a3;exact⟨g,hq,iH,b8,b3,fR⟩))⟩
  ⟨yU.trans h.fr.os,JA.trans h.fr.tape,Jm.trans h.fr.output,by rw[ed];exact h.fr.size,fun j ag hm=>?_,fun b i bd=>?_,h.fr.fresh,h.fr.obj,h.fr.obn,fun m n u hm=>CG (h.fr.row m n u hm) (fun n u=>au.ow _ n u trivial),h.fr.obr,h.fr.trd,fun k j b ae=>⟨(h.fr.trb k j b ae).1,by rw[ed];exact(h.fr.trb k j b ae).2⟩,fun bD j b ae=>?_,fun b o bd=>(au.sh b o (h.fr.keep b o bd).1).trans (h.fr.sh b o bd)⟩ (fun m hm=>?_),au,?_⟩
 ·obtain⟨b,b9,fM,g1,g2,g3,g4,g5⟩:=h.good.box j eH ag;have cC:b≠bl:=fun e=>h.good.obx k j o.n _ bl (by simp[ab]) (by simp[ag]) aJ n3 (by rw[←e];exact g1);exact⟨b,b9,fM,g1,g2,g3,by rw[mF b cC];exact g4,pR au g5⟩
 ·simp only at eJ;rw[iC]at eJ;by_cases e:k=g
  ·rw[if_pos e]at eJ;cases eJ;subst e;refine⟨v',us,by simp[bc.withOwn],lg,fun b ae=>?_,fun ys aG=>?_⟩
   ·rw[ES]at ae;cases ae;exact⟨(b2 bl n3).1,fun j bd=>absurd bd (um bl n3 j)⟩
   ·simp only[dt]at aG;subst aG;exact⟨rfl,zT au av,fun b ae=>by rw[ES]at ae;cases ae;exact um bl n3⟩
  ·rw[if_neg e]at eJ;obtain⟨v0,fl,ak,aA,bs,dq⟩:=h.good.own g o' eJ;have cC:∀b,v0.ownBlock=some b→b≠bl:=fun b ae HZ=>e (h.good.oinj k g o.n o'.n _ v0 bl (by simp[ab]) (by simp[eJ]) aJ ak n3 (by rw[←HZ];exact ae));refine⟨v0,fl,by simp[bc.withOwn,kO e,ak],⟨aA.1,?_⟩,bs,rI au (fun _ _ _ h=>h) dq⟩;rcases aA.2 with aA|⟨bb,AN,lY,f1,f2,f3,f4⟩
   ·exact .inl aA
   ·exact .inr ⟨bb,AN,lY,f1,f2,by rw[mF bb (cC bb (by rw[f1];rfl))];exact f3,f4⟩
 ·obtain⟨bp,hq,iH,a2,a3⟩:=kB g n u J ao b b1;obtain⟨b8,fX,jh,b3,fR⟩:=kB eX n' e0 U aZ b c6;exact h.good.oinj g eX hq fX iH jh b bp b8 a2 b3 a3 fR
 ·obtain⟨bp,hq,iH,a2,a3⟩:=kB g n u J ao b aZ;exact h.good.obx g j hq iH b bp U a2 a3 b1
 ·by_cases e:j=k
  ·subst e;rcases h.good.one j with J|J
   ·exact .inl J
   ·rw[J]at aJ;cases aJ
  ·rcases h.good.one j with J|J
   ·exact .inl J
   ·exact .inr (by simp[bc.withOwn,e,J])
 ·rw[mF j fun e=>by subst e;exact(b2 j n3).1.elim hm (fun g2=>by omega)];exact h.fr.block j ag hm
 ·obtain⟨aR,be⟩:=h.fr.keep b i bd;exact⟨aR,(au.A b i aR).2.trans be⟩
 ·obtain⟨t1,t2⟩:=h.fr.trn bD j b ae;have cC:bD≠k:=fun e=>by subst e;rw[t2]at aJ;cases aJ
  exact⟨t1,by simp[bc.withOwn,cC,t2]⟩
 ·obtain⟨aR,be,bN⟩:=h.new m hm;refine⟨aR,?_,bN⟩;have:m≠k:=fun e=>by subst e;rw[be]at aJ;cases aJ
  simp[bc.withOwn,this,be]
 ·intro ib;simp only[a6];obtain⟨cap,I5⟩:=Uf lg ES;exact⟨⟨bl,cap,I5⟩,ib,xs'.length,v',by simp[bc.withOwn],e1 _,fun _=>rfl⟩
theorem cO.inPlace{C:e2}{st:bj}{a:Act}{w:World}{ν:bc}(h:cO C st a w ν){k:aH}{o:fv}(ab:look k st.e=some o){bl cap:Nat}{cur:Array Value}(aJ:ν.ow k=some (o.n,.slice (some ⟨bl,0,none⟩) o.n cap))
  (wO:w.heap[bl]? =some (.cells cur o.el (0,0))) (yE:cap≤maxLen) (ed:cur.size=cap*o.sz) {xs ys:List ai} {us ns:List Value} (oU:xs.length=o.n) (qo:cur.toList.take (o.n*o.sz)=us) (av:dw w ν o.sz xs us) (yG:dw w ν o.sz ys ns)
  (fq:0<ys.length) (ri:o.n+ys.length≤cap) (ib:xs.length+ys.length≤lim):
  cO C {st with e:=ct k ⟨o.n+ys.length,o.el,o.sz,none⟩ st.e} a (w.setRow bl (us++ns++cur.toList.drop (o.n*o.sz+ns.length)).toArray)
   (ν.withRowOf k (.slice (some ⟨bl,0,none⟩) (o.n+ys.length) cap) (o.n+ys.length) ((o.n+ys.length)*o.sz))∧
  a6 (w.setRow bl (us++ns++cur.toList.drop (o.n*o.sz+ns.length)).toArray) (ν.withRowOf k (.slice (some ⟨bl,0,none⟩) (o.n+ys.length) cap) (o.n+ys.length) ((o.n+ys.length)*o.sz))
   (.slice o.sz (.own k) (xs++ys)) (.slice (some ⟨bl,0,none⟩) (o.n+ys.length) cap):=by
 have jv:=sP yG;have rl:=sP av;rw[oU]at rl;have hmul:(o.n+ys.length)*o.sz≤cap*o.sz:=Nat.mul_le_mul_right _ ri;rw[pc]at hmul;obtain⟨v0,fl,a1,bt,b2,_⟩:=h.good.own k o ab;rw[aJ]at a1;cases a1;obtain⟨c2,c8⟩:=b2 bl rfl;generalize y4:w.setRow bl (us++ns++cur.toList.drop (o.n*o.sz+ns.length)).toArray=w';have mF:∀j,j≠bl→w'.heap[j]? =w.heap[j]?:=fun j ag=>by rw[←y4];exact setRow_other w bl j _ ag
 have iR:w'.heap[bl]? =some (.cells (us++ns++cur.toList.drop (o.n*o.sz+ns.length)).toArray o.el (0,0)):=by rw[←y4];exact setRow_heap w bl cur _ o.el _ wO
 have Jw:w'.heap.size=w.heap.size:=by rw[←y4];exact setRow_size w bl _
 have l2:∀j,j<o.n*o.sz→w'.cell? ⟨bl,j,none⟩=w.cell? ⟨bl,j,none⟩:=by intro j ag;simp only[World.cell?,iR,wO,jl,gr,if_false];rw[List.getElem?_toArray,List.append_assoc,List.getElem?_append_left (by omega),←qo,List.getElem?_take,if_pos ag];simp
 have au:k5 w ν w' (ν.withRowOf k (.slice (some ⟨bl,0,none⟩) (o.n+ys.length) cap) (o.n+ys.length) ((o.n+ys.length)*o.sz)):=by
  refine⟨fun b j bd=>⟨.inl bd,?_⟩,fun j b _ ag=>ag,fun g n u _ ix=>?_,fun b j bd=>?_,fun _ _ _ _ h=>h⟩;rotate_left 2
  ·by_cases e:b=bl
   ·subst e;simp only[shape,iR,wO,List.size_toArray,pa,rV,Array.length_toList];congr 2;omega
   ·exact vO (mF b e)
  ·by_cases e:b=bl
   ·subst e;exact l2 j (c8 j bd)
   ·exact World.cell?_of_block (mF b e)
  ·by_cases e:g=k
   ·subst e;rw[aJ]at ix;cases ix;exact⟨o.n+ys.length,.slice (some ⟨bl,0,none⟩) (o.n+ys.length) cap,by simp[bc.withRowOf],.inr (by omega)⟩
   ·exact⟨n,u,by simp[bc.withRowOf,e,ix],.inl ⟨rfl,rfl⟩⟩
 have kB:∀g,(look g (ct k ⟨o.n+ys.length,o.el,o.sz,none⟩ st.e)).isSome→g=k∨(g≠k∧(look g st.e).isSome∧(ν.withRowOf k (.slice (some ⟨bl,0,none⟩) (o.n+ys.length) cap) (o.n+ys.length) ((o.n+ys.length)*o.sz)).ow g=ν.ow g):=by
  intro g kc;by_cases e:g=k
  ·exact .inl e
  ·rw[iC,if_neg (kO e)]at kc;exact .inr ⟨e,kc,by simp[bc.withRowOf,e]⟩
 have amg:bl<w.heap.size:=(Array.getElem?_eq_some_iff.1 wO).1;have acu:∀j u,(us++ns)[j]? =some u→w'.cell? ⟨bl,j,none⟩=some u:=by intro j u ag;have yN:=(fG.1 ag).1;simp only[World.cell?,iR,jl,gr,if_false];rw[List.getElem?_toArray,List.getElem?_append_left yN];exact ag
 refine⟨h.over au rfl ⟨fun b j bd=>?_,fun j eH ag=>?_,h.good.inj,fun g o' eJ=>?_,fun g eX n n' u e0 b J U ao aZ b1 c6=>?_,fun g j n u b J U ao aZ b1=>?_,fun j=>?_,fun b ae=>h.good.otr b ?_⟩
  ⟨by rw[←y4];exact h.fr.os,by rw[←y4];exact h.fr.tape,by rw[←y4];exact h.fr.output,by rw[Jw];exact h.fr.size,fun j ag hm=>?_,fun b j bd=>?_,fun b j bd=>?_,h.fr.obj,h.fr.obn,fun m n u hm=>CG (h.fr.row m n u hm) (fun n u=>au.ow _ n u trivial),h.fr.obr,h.fr.trd,fun k j b ae=>⟨(h.fr.trb k j b ae).1,by rw[Jw];exact(h.fr.trb k j b ae).2⟩,fun bD j b ae=>?_,fun b o bd=>(au.sh b o (h.fr.keep b o bd).1).trans (h.fr.sh b o bd)⟩ (fun m hm=>?_),?_⟩
 ·rw[Jw];rcases bd with bd|⟨bd,_⟩
  ·exact h.good.alt b j bd
  ·simp only[nA,dt]at bd;omega
 ·obtain⟨b,b9,fM,g1,g2,g3,g4,g5⟩:=h.good.box j eH ag;have cC:b≠bl:=fun e=>h.good.obx k j o.n _ bl (by simp[ab]) (by simp[ag]) aJ rfl (by rw[←e];exact g1);refine⟨b,b9,fM,g1,g2,fun i bd=>?_,by rw[mF b cC];exact g4,pR au g5⟩;rcases bd with bd|⟨bd,_⟩
  ·exact g3 i bd
  ·simp only[nA,dt]at bd;exact cC bd.symm
 ·simp only at eJ;rw[iC]at eJ;by_cases e:k=g
  ·rw[if_pos e]at eJ;cases eJ;subst e;refine⟨.slice (some ⟨bl,0,none⟩) (o.n+ys.length) cap,us++ns,by simp[bc.withRowOf],⟨by rw[pa,rl,jv,pc],.inr ⟨bl,cap,_,rfl,Nat.zero_le _,iR,ri,yE,?_,?_⟩⟩,fun b ae=>⟨?_,fun j bd=>?_⟩,fun ys aG=>by cases aG⟩
   ·simp only[List.size_toArray,pa,rV,Array.length_toList];omega
   ·have aq:(us++ns).length=(o.n+ys.length)*o.sz:=by rw[pa,rl,jv,pc]
    simp only[←aq];rw[List.take_append_of_le_length (e1 _),mY]
   ·simp only[nA,dt]at ae;subst ae;exact c2
   ·simp only[nA,dt]at ae;subst ae;rcases bd with bd|⟨_,bd⟩
    ·have:=c8 j bd;simp only;rw[pc];omega
    ·exact bd
  ·rw[if_neg e]at eJ;obtain⟨v0,fl,ak,aA,bs,dq⟩:=h.good.own g o' eJ;have cC:∀b,v0.ownBlock=some b→b≠bl:=fun b ae HZ=>e (h.good.oinj k g o.n o'.n _ v0 bl (by simp[ab]) (by simp[eJ]) aJ ak rfl (by rw[←HZ];exact ae));have uY:∀b,v0.ownBlock=some b→∀j,(ν.withRowOf k (.slice (some ⟨bl,0,none⟩) (o.n+ys.length) cap) (o.n+ys.length) ((o.n+ys.length)*o.sz)).A b j→ν.A b j:=fun b ae j bd=>by
    rcases bd with bd|⟨bd,_⟩
    ·exact bd
    ·simp only[nA,dt]at bd;exact absurd bd.symm (cC b ae)
   refine⟨v0,fl,by simp[bc.withRowOf,kO e,ak],⟨aA.1,?_⟩,fun b ae=>⟨(bs b ae).1,fun j bd=>(bs b ae).2 j (uY b ae j bd)⟩,rI au uY dq⟩;rcases aA.2 with aA|⟨bb,AN,lY,f1,f2,f3,f4⟩
   ·exact .inl aA
   ·exact .inr ⟨bb,AN,lY,f1,f2,by rw[mF bb (cC bb (by rw[f1];rfl))];exact f3,f4⟩
 ·rcases kB g J with rfl|⟨hq,fX,iU⟩<;>rcases kB eX U with rfl|⟨m1,m2,m3⟩
  ·rfl
  ·exfalso;simp only[bc.withRowOf,if_true,dt,jm]at ao;rw[m3]at aZ;rw[←ao.2]at b1;simp only[nA,dt]at b1;subst b1;exact m1 (h.good.oinj eX g n' o.n e0 _ bl m2 (by simp[ab]) aZ aJ c6 rfl)
  ·exfalso;simp only[bc.withRowOf,if_true,dt,jm]at aZ;rw[iU]at ao;rw[←aZ.2]at c6;simp only[nA,dt]at c6;subst c6;exact hq (h.good.oinj g eX n o.n u _ bl fX (by simp[ab]) ao aJ b1 rfl)
  ·rw[iU]at ao;rw[m3]at aZ;exact h.good.oinj g eX n n' u e0 b fX m2 ao aZ b1 c6
 ·rcases kB g J with rfl|⟨hq,fX,iU⟩
  ·simp only[bc.withRowOf,if_true,dt,jm]at ao;rw[←ao.2]at aZ;simp only[nA,dt]at aZ;subst aZ;exact h.good.obx g j o.n _ bl (by simp[ab]) U aJ rfl b1
  ·rw[iU]at ao;exact h.good.obx g j n u b fX U ao aZ b1
 ·by_cases e:j=k
  ·subst e;rcases h.good.one j with J|J
   ·exact .inl J
   ·rw[J]at aJ;cases aJ
  ·rcases h.good.one j with J|J
   ·exact .inl J
   ·exact .inr (by simp[bc.withRowOf,e,J])
 ·rcases ae with ae|⟨g,n,u,bp,a2,a3⟩
  ·exact .inl ae
  ·rcases kB g bp with rfl|⟨hq,fX,iU⟩
   ·simp only[bc.withRowOf,if_true,dt,jm]at a2;rw[←a2.2]at a3;exact .inr ⟨g,_,_,by simp[ab],aJ,a3⟩
   ·exact .inr ⟨g,n,u,fX,by rw[←iU];exact a2,a3⟩
 ·rw[mF j fun e=>by subst e;exact c2.elim hm (fun g2=>by omega)];exact h.fr.block j ag hm
 ·obtain⟨aR,be⟩:=h.fr.keep b j bd;exact⟨.inl aR,(au.A b j aR).2.trans be⟩
 ·rcases bd with bd|⟨bd,_⟩
  ·exact h.fr.fresh b j bd
  ·simp only[nA,dt]at bd;subst bd;exact .inr c2
 ·obtain⟨t1,t2⟩:=h.fr.trn bD j b ae;have cC:bD≠k:=fun e=>by subst e;rw[t2]at aJ;cases aJ
  exact⟨t1,by simp[bc.withRowOf,cC,t2]⟩
 ·obtain⟨aR,be,bN⟩:=h.new m hm;refine⟨aR,?_,bN⟩;have:m≠k:=fun e=>by subst e;rw[be]at aJ;cases aJ
  simp[bc.withRowOf,this,be]
 ·simp only[a6];refine⟨⟨some ⟨bl,0,none⟩,cap,by simp[oU],by simp;omega,⟨yE,by simpa using ib⟩,.inr ⟨bl,0,us++ns,rfl,zi _ 0 fun j u ag=>?_,CA (zT au av) (zT au yG)⟩⟩,fun e=>(by cases e),fun g e=>?_,fun _ _ e=>(by cases e),fun _ e=>(by cases e)⟩
  ·have yN:=(fG.1 ag).1;rw[Nat.zero_add];refine⟨.inr ⟨rfl,?_⟩,acu j u ag⟩;rw[pa,rl,jv]at yN;rw[pc];exact yN
  ·cases e;exact⟨o.n+ys.length,.slice (some ⟨bl,0,none⟩) (o.n+ys.length) cap,by simp[bc.withRowOf],by simp[oU],fun _=>rfl⟩
theorem Gn{P:cy}{w:World}{t ty e:gx}{i:TypeInfo}(aN:P.underlying t=some (.slice e))(hi:P.info? e=some i)(b:Option Addr)(n cap:Nat)(ar:n≤cap)(x:Option Addr)(c:Nat):
  (Builtin.append_ #[t,t] ty #[.slice b n cap,.slice x 0 c]).run P w= .ok (.slice b n cap) w:=by
 cases b<;>cases x<;>simp[Builtin.append_,run_underlying aN,sizeOf,typeInfo,hi,Builtin.lenOf,ar,Builtin.firstCells,loadCells,loadCellsFrom,storeCells]
inductive dY where
 |v (d:Nat) (i:fL)
 |box (d:Nat) (key:Option Nat) (x:dn)
 |alloc (d:Nat) (key:Option Nat) (zero:ai)
 |store (sz:Nat) (x y:dn)
 |bsl (d:Nat) (sz el:Nat) (xs:List dn)
 |app (d:Nat) (sz el:Nat) (x y:dn)
 |bslm (d:Nat) (key:Option Nat) (sz el:Nat) (xs:List dn)
 |appm (d:Nat) (key:Option Nat) (sz el:Nat) (x y:dn)
 |mkmap (d:Nat) (key:Option Nat)
 |mput (ck:jo) (x k v:dn)
 |range (d:Nat) (key:Option Nat) (x:dn)
 |storeE (sz:Nat) (x y:dn)
 |mks (d:Nat) (key:Option Nat) (sz el:Nat) (z:ai) (x:dn)
def jy(st:bj):Option Nat→aH
 |none=>.loc st.n
 |some m=>.obj m
def pI(st:bj):Option Nat→Prop
 |none=>.loc st.n∉st.o
 |some m=>.obj m∉st.o
def mK(st:bj):Option Nat→Nat
 |none=>st.n+1
 |some _=>st.n
def mL(st:bj):Option Nat→List aH
 |none=>st.o
 |some m=>.obj m::st.o
theorem vz{st:bj}{key:Option Nat}(h:pI st key):fresh st.n st.o (jy st key):=by cases key<;>simp[jy,fresh,pI]at h⊢ <;>exact h
theorem vA{st:bj}{key:Option Nat}:∀j,fresh (mK st key) (mL st key) j→fresh st.n st.o j∧j≠jy st key:=by
 intro j ag;cases key<;>cases j<;>simp[fresh,mK,mL,jy]at ag⊢
 ·exact⟨⟨by omega,ag.2⟩,by omega⟩
 ·exact ag
 ·exact ag
 ·exact⟨ag.2,ag.1⟩
def r2(sz:Nat):List ai→Prop
 |[]=>True
 |p::cp=>(eE p=true∧(cells p).length=sz)∧r2 sz cp
def oc(ck:jo)(k v:ai):List ai→Option (List ai)
 | .hdm clock borns::kvs=>if tS ck k=false then none else match ue ck k v kvs with
  |some (some vr)=>some (.hdm clock borns::vr)
  |some none=>some (.hdm (clock+1) (borns++[clock])::(kvs++[k,v]))
  |none=>none
 |_=>none
def vL(m:aH):List ai→Option (List ai)
 | .hdm clock _::_=>some [.hdi clock [] clock,.gmap m]
 |_=>none
def r3(st:bj)(sz el:Nat)(x y:ai):Option ((Option (aH×List ai))×List ai):=
 match x,y with
 | .slice dy .nil _,.slice iY _ ys=>if dy=sz∧iY=sz then some (none,ys)else none
 | .row dy k n,.slice iY _ ys=>if dy=sz∧iY=sz then
   match look k st.e with
   |some ⟨n',fM,vU,some xs⟩=>if n'=n∧fM=el∧vU=sz then some (some (k,xs),ys)else none
   |_=>none
  else none
 |_,_=>none
def o5:ai→Nat→List ai→ai
 | .agg eH,f,cs=>.agg (nu eH f cs)
 |_,_,[q]=>q
 |_,_,_=>.junk
def qC(st:bj)(sz:Nat)(p v:ai):Option (Prop×bj):=
 match p with
 | .rptr dy k n i f=>match look k st.e with
  |some ⟨n',el,iY,some xs⟩=>if n'=n∧iY=dy then
    match xs[i]? with
    |some q=>some (eE q=true∧eE v=true∧(cells v).length=sz∧f+sz≤(cells q).length∧0<sz,{st with e:=ct k ⟨n',el,iY,some (xs.set i (o5 q f (cells v)))⟩ st.e})
    |none=>none
   else none
  |_=>none
 |_=>none
def lN(st:bj):dY→Option (Prop×bj)
 | .mks d key sz el z x=>match cg st.t x with
  | .int _ n=>some (pI st key∧0≤n∧n≤lim,
    {t:=put d (.row sz (jy st key) n.toNat) st.t,b:=st.b,e:=ct (jy st key) ⟨n.toNat,el,sz,some (List.replicate n.toNat z)⟩ st.e,n:=mK st key,o:=mL st key})
  |_=>none
 | .bslm d key sz el xs=>some (pI st key∧r2 sz (xs.map (cg st.t)),
   {t:=put d (.row sz (jy st key) xs.length) st.t,b:=st.b,e:=ct (jy st key) ⟨xs.length,el,sz,some (xs.map (cg st.t))⟩ st.e,n:=mK st key,o:=mL st key})
 | .appm d key sz el x y=>match r3 st sz el (cg st.t x) (cg st.t y)with
  |some (none,ys)=>some (pI st key∧ys.length≤lim∧ys≠[],
    {t:=put d (.row sz (jy st key) ys.length) st.t,b:=st.b,e:=ct (jy st key) ⟨ys.length,el,sz,some ys⟩ st.e,n:=mK st key,o:=mL st key})
  |some (some (k,xs),ys)=>some (xs.length+ys.length≤lim,{st with t:=put d (.row sz k (xs.length+ys.length)) st.t,e:=ct k ⟨xs.length+ys.length,el,sz,some (xs++ys)⟩ st.e})
  |none=>none
 | .mkmap d key=>some (pI st key,{t:=put d (.gmap (jy st key)) st.t,b:=ct (jy st key) [.hdm 0 []] st.b,e:=st.e,n:=mK st key,o:=mL st key})
 | .mput ck x k v=>match cg st.t x with
  | .gmap m=>match look m st.b with
   |some cs=>match oc ck (cg st.t k) (cg st.t v) cs with
    |some cs'=>some (True,{st with b:=ct m cs' st.b})
    |none=>none
   |none=>none
  |_=>none
 | .range d key x=>match cg st.t x with
  | .gmap m=>match look m st.b with
   |some cs=>match vL m cs with
    |some cs'=>some (pI st key,{t:=put d (.ptr (jy st key) 0) st.t,b:=ct (jy st key) cs' st.b,e:=st.e,n:=mK st key,o:=mL st key})
    |none=>none
   |none=>none
  |_=>none
 | .v d i=>match gS st i with
  |some (c,p)=>some (c,{st with t:=put d p st.t})
  |none=>none
 | .storeE sz x y=>qC st sz (cg st.t x) (cg st.t y)
 | .box d key x=>some (pI st key∧eE (cg st.t x)=true,
   {t:=put d (.ptr (jy st key) 0) st.t,b:=ct (jy st key) (cells (cg st.t x)) st.b,e:=st.e,n:=mK st key,o:=mL st key})
 | .alloc d key z=>some (pI st key,{t:=put d (.ptr (jy st key) 0) st.t,b:=ct (jy st key) (cells z) st.b,e:=st.e,n:=mK st key,o:=mL st key})
 | .store sz x y=>match cg st.t x with
  | .ptr k off=>match look k st.b with
   |some cs=>some (hE cs=true∧eE (cg st.t y)=true∧(cells (cg st.t y)).length=sz∧off+sz≤cs.length,{st with b:=ct k (nu cs off (cells (cg st.t y))) st.b})
   |none=>none
  |p=>qC st sz p (cg st.t y)
 | .bsl d sz el xs=>some (pI st none∧r2 sz (xs.map (cg st.t)),
   {st with t:=put d (.slice sz (.own (.loc st.n)) (xs.map (cg st.t))) st.t,e:=ct (.loc st.n) ⟨xs.length,el,sz,none⟩ st.e,n:=st.n+1})
 | .app d sz el x y=>match cg st.t x,cg st.t y with
  | .slice dy tag xs,.slice iY _ ys=>if dy=sz∧iY=sz then
    match tag with
    | .own k=>match look k st.e with
     |some o=>some (o.n=xs.length∧o.el=el∧o.sz=sz∧xs.length+ys.length≤lim,
       {st with t:=put d (.slice sz (.own k) (xs++ys)) st.t,e:=ct k ⟨xs.length+ys.length,el,sz,none⟩ st.e})
     |none=>none
    | .nil=>some (pI st none∧ys.length≤lim,{st with t:=put d (.slice sz (.own (.loc st.n)) ys) st.t,e:=ct (.loc st.n) ⟨ys.length,el,sz,none⟩ st.e,n:=st.n+1})
    |_=>none
   else none
  |_,_=>none
def er(κ:aH)(n':Nat)(o':List aH)(st:bj):dY→Option (Prop×bj)
 | .mks d _ sz el z x=>match cg st.t x with
  | .int _ n=>some (0≤n∧n≤lim,
    {t:=put d (.row sz κ n.toNat) st.t,b:=st.b,e:=ct κ ⟨n.toNat,el,sz,some (List.replicate n.toNat z)⟩ st.e,n:=n',o:=o'})
  |_=>none
 | .bslm d _ sz el xs=>some (r2 sz (xs.map (cg st.t)),
   {t:=put d (.row sz κ xs.length) st.t,b:=st.b,e:=ct κ ⟨xs.length,el,sz,some (xs.map (cg st.t))⟩ st.e,n:=n',o:=o'})
 | .appm d _ sz el x y=>match r3 st sz el (cg st.t x) (cg st.t y)with
  |some (none,ys)=>some (ys.length≤lim∧ys≠[],
    {t:=put d (.row sz κ ys.length) st.t,b:=st.b,e:=ct κ ⟨ys.length,el,sz,some ys⟩ st.e,n:=n',o:=o'})
  |some (some (k,xs),ys)=>some (xs.length+ys.length≤lim,{st with t:=put d (.row sz k (xs.length+ys.length)) st.t,e:=ct k ⟨xs.length+ys.length,el,sz,some (xs++ys)⟩ st.e})
  |none=>none
 | .mkmap d _=>some (True,{t:=put d (.gmap κ) st.t,b:=ct κ [.hdm 0 []] st.b,e:=st.e,n:=n',o:=o'})
 | .mput ck x k v=>match cg st.t x with
  | .gmap m=>match look m st.b with
   |some cs=>match oc ck (cg st.t k) (cg st.t v) cs with
    |some cs'=>some (True,{st with b:=ct m cs' st.b})
    |none=>none
   |none=>none
  |_=>none
 | .range d _ x=>match cg st.t x with
  | .gmap m=>match look m st.b with
   |some cs=>match vL m cs with
    |some cs'=>some (True,{t:=put d (.ptr κ 0) st.t,b:=ct κ cs' st.b,e:=st.e,n:=n',o:=o'})
    |none=>none
   |none=>none
  |_=>none
 | .v d i=>match gS st i with
  |some (c,p)=>some (c,{st with t:=put d p st.t})
  |none=>none
 | .storeE sz x y=>qC st sz (cg st.t x) (cg st.t y)
 | .box d _ x=>some (eE (cg st.t x)=true,{t:=put d (.ptr κ 0) st.t,b:=ct κ (cells (cg st.t x)) st.b,e:=st.e,n:=n',o:=o'})
 | .alloc d _ z=>some (True,{t:=put d (.ptr κ 0) st.t,b:=ct κ (cells z) st.b,e:=st.e,n:=n',o:=o'})
 | .store sz x y=>match cg st.t x with
  | .ptr k off=>match look k st.b with
   |some cs=>some (hE cs=true∧eE (cg st.t y)=true∧(cells (cg st.t y)).length=sz∧off+sz≤cs.length,{st with b:=ct k (nu cs off (cells (cg st.t y))) st.b})
   |none=>none
  |p=>qC st sz p (cg st.t y)
 | .bsl d sz el xs=>some (r2 sz (xs.map (cg st.t)),
   {st with t:=put d (.slice sz (.own κ) (xs.map (cg st.t))) st.t,e:=ct κ ⟨xs.length,el,sz,none⟩ st.e,n:=n',o:=o'})
 | .app d sz el x y=>match cg st.t x,cg st.t y with
  | .slice dy tag xs,.slice iY _ ys=>if dy=sz∧iY=sz then
    match tag with
    | .own k=>match look k st.e with
     |some o=>some (o.n=xs.length∧o.el=el∧o.sz=sz∧xs.length+ys.length≤lim,
       {st with t:=put d (.slice sz (.own k) (xs++ys)) st.t,e:=ct k ⟨xs.length+ys.length,el,sz,none⟩ st.e})
     |none=>none
    | .nil=>some (ys.length≤lim,{st with t:=put d (.slice sz (.own κ) ys) st.t,e:=ct κ ⟨ys.length,el,sz,none⟩ st.e,n:=n',o:=o'})
    |_=>none
   else none
  |_,_=>none
def vE:Nat→List dn→List (Nat×Operand)→Bool
 |_,[],[]=>true
 |i,x::xs,(j,o)::os=>i==j&&dW x o&&vE (i+1) xs os
 |_,_,_=>false
def CI(N:Nat)(bo:List (Nat×du))(i:dY)(o:Oper):Bool:=
 match i,o.op with
 | .mkmap d _,.makeMap _ none=>o.dst==some d&&decide (d<N)
 | .mput ck x k v,.mapUpdate t gv gq od=>o.dst==none&&(match dQ bo t with|some ⟨_,_,.map mc _,_⟩=>xa bo ck mc|_=>false)&&dW x gv&&dW k gq&&dW v od
 | .mput ck x k v,.insert t gv gq od=>o.dst==none&&(match dQ bo t with|some ⟨_,_,.map mc _,_⟩=>xa bo ck mc|_=>false)&&dW x gv&&dW k gq&&dW v od
 | .range d _ x,.range t gv=>o.dst==some d&&decide (d<N)&&(match dQ bo t with|some ⟨_,_,.map _ _,_⟩=>true|_=>false)&&dW x gv
 | .v d i,op=>o.dst==some d&&decide (d<N)&&C0 bo i op
 | .box d _ x,.box _ o'=>o.dst==some d&&decide (d<N)&&dW x o'
 | .alloc d _ z,.alloc el=>o.dst==some d&&decide (d<N)&&(match dQ bo el with|some f=>Ap z f.zero|none=>false)
 | .store sz x y,.store t o' iV=>o.dst==none&&(match dQ bo t with|some f=>f.size==sz|none=>false)&&dW x o'&&dW y iV
 | .bsl d sz el xs,.buildSlice t len parts=>o.dst==some d&&decide (d<N)&&(match dQ bo t with|some ⟨_,_,.slice fM,_⟩=>el==fM|_=>false)&&(match dQ bo el with|some f=>f.size==sz&&decide (0<sz)|none=>false)
   &&len==xs.length&&decide (len*sz≤16777216)&&vE 0 xs parts.toList
 | .app d sz el x y,.call ⟨.builtin .append,⟨[o',iV]⟩,⟨[t,dE]⟩⟩=>o.dst==some d&&decide (d<N)&&t==dE&&(match dQ bo t with|some ⟨_,_,.slice fM,_⟩=>el==fM|_=>false)
   &&(match dQ bo el with|some f=>f.size==sz&&decide (0<sz)&&decide (f.bytes≤2048)|none=>false)&&dW x o'&&dW y iV
 | .bslm d _ sz el xs,.buildSlice t len parts=>o.dst==some d&&decide (d<N)&&(match dQ bo t with|some ⟨_,_,.slice fM,_⟩=>el==fM|_=>false)&&(match dQ bo el with|some f=>f.size==sz&&decide (0<sz)|none=>false)
   &&len==xs.length&&decide (len*sz≤16777216)&&vE 0 xs parts.toList
 | .appm d _ sz el x y,.call ⟨.builtin .append,⟨[o',iV]⟩,⟨[t,dE]⟩⟩=>o.dst==some d&&decide (d<N)&&t==dE&&(match dQ bo t with|some ⟨_,_,.slice fM,_⟩=>el==fM|_=>false)
   &&(match dQ bo el with|some f=>f.size==sz&&decide (0<sz)&&decide (f.bytes≤2048)|none=>false)&&dW x o'&&dW y iV
 | .storeE sz x y,.store t o' iV=>o.dst==none&&(match dQ bo t with|some f=>f.size==sz|none=>false)&&dW x o'&&dW y iV
 | .mks d _ sz el z x,.makeSlice t o' iV=>o.dst==some d&&decide (d<N)&&(match dQ bo t with|some ⟨_,_,.slice fM,_⟩=>el==fM|_=>false)
   &&(match dQ bo el with|some f=>f.size==sz&&decide (0<sz)&&decide (f.bytes≤2048)&&Ap z f.zero|none=>false)&&dW x o'&&dW x iV
 |_,_=>false
theorem VG{w:World}{ν:bc}{C:e2}{st:bj}{a:Act}(aI:cO C st a w ν){sz:Nat}:
  ∀(xs:List dn) (i:Nat) (os:List (Nat×Operand)) (pre:List ai) (us:Array Value) (a7:List Value),vE i xs os=true→r2 sz (xs.map (cg st.t))→us.toList.take (i*sz)=a7→dw w ν sz pre a7→i=pre.length→us.size=(i+xs.length)*sz→
  ∃b9:Array Value,Instr.fill (fun i=>some (i*sz,sz)) us (os.map fun(x:Nat×Operand)=>(x.1,a.eval x.2))=some b9∧dw w ν sz (pre++xs.map (cg st.t)) b9.toList∧b9.size=us.size
 |[],i,[],pre,us,a7,_,_,aJ,h,hi,af=>by refine⟨us,by simp[Instr.fill],?_,rfl⟩;have aq:=sP h;have:us.toList.take (i*sz)=us.toList:=ha (by simp at af⊢;omega);rw[this]at aJ;simpa[aJ]using h
 |[],_,_::_,_,_,_,eu,_,_,_,_,_=>by simp[vE]at eu
 |_::_,_,[],_,_,_,eu,_,_,_,_,_=>by simp[vE]at eu
 |x::xs,i,(j,o)::os,pre,us,a7,eu,br,aJ,h,hi,af=>by
  simp only[vE,cx,dH]at eu;obtain⟨⟨rfl,J⟩,U⟩:=eu;simp only[gI,r2]at br;obtain⟨⟨kV,hlen⟩,br⟩:=br;have ad:=dX aI J;have kA:=uv ad kV;have yF:=o4 kA;have da:(a.eval o).cells.size=sz:=by rw[hlen]at yF;simpa using yF
  have hmul:i*sz+sz≤us.size:=by rw[af,nB,show i+(xs.length+1)=(i+1)+xs.length from by omega,pc,Nat.succ_mul];omega
  have w1:=It (w:=w) (ν:=ν) (a.eval o).cells.toList 0 (i*sz) us (by simp[da];omega);have jw:dw w ν sz (pre++[cg st.t x]) (a7++(a.eval o).cells.toList):=by refine CA h ?_;simp only[dw];exact⟨a.eval o,[],by simp,⟨ad,da,zV kA⟩,rfl⟩
  have n4:a7.length=i*sz:=by rw[←aJ];simp;omega
  obtain⟨b9,g1,g2,g3⟩:=VG aI xs (i+1) os (pre++[cg st.t x]) (((a.eval o).cells.toList.zipIdx 0).foldl (fun cs (x:Value×Nat)=>cs.setIfInBounds (i*sz+x.2) x.1) us) (a7++(a.eval o).cells.toList) U br
   (by
    rw[w1];simp only[Nat.add_zero];rw[aJ];have:(a7++(a.eval o).cells.toList).length=(i+1)*sz:=by rw[pa,n4,Nat.succ_mul];simp[da]
    rw[←this,List.take_append_of_le_length (e1 _),mY]) jw (by simp[hi])
   (by have bV:=eO List.length w1;simp only[Array.length_toList,pa,List.length_take,rV,da]at bV;rw[bV,af,nB,show i+(xs.length+1)=i+1+xs.length from by omega];rw[af,nB,show i+(xs.length+1)=i+1+xs.length from by omega]at hmul;omega)
  refine⟨b9,?_,by simpa using g2,?_⟩
  ·simp only[gI,Instr.fill];rw[if_neg (by simp[da];omega),←g1];congr 1;rw[←Array.foldl_toList];simp
  ·rw[g3];have bV:=eO List.length w1;simp only[Array.length_toList,pa,List.length_take,rV,da]at bV;rw[bV];omega
theorem lP{P:cy}{o:Oper}{a:Act}{w w':World}{v:Value}{K:Act→World→Prop}{Q:Exit→Act→World→Prop}(h:(execOp a.eval o).run P w= .ok (.value v) w')(ab:K (a.put o.dst v) w'):o.wp P a w K Q:=by unfold Oper.wp;rw[h];exact ab
theorem C9{P:cy}{o:Oper}{a:Act}{w w':World}{K:Act→World→Prop}{Q:Exit→Act→World→Prop}(h:(execOp a.eval o).run P w= .ok .skip w')(ab:K (a.put o.dst undef) w'):o.wp P a w K Q:=by unfold Oper.wp;rw[h];exact ab
theorem C4{P:cy}{w w':World}{x:Sem Value}{v:Value}(h:x.run P w= .ok v w'):(do pure (Next.value (←x)):Sem Next).run P w= .ok (.value v) w':=by simp[h]
theorem VE{P:cy}{bo:List (Nat×du)}(aN:fA P bo=true){C:e2}{st:bj}{a:Act}{w:World}{ν:bc}(aI:cO C st a w ν){t el:Nat}{f g:du}(aQ:dQ bo t=some f)(ab:f.kind= .slice el)(aS:dQ bo el=some g)
  {xs:List dn} {os:List (Nat×Operand)} (eu:vE 0 xs os=true) (ed:r2 g.size (xs.map (cg st.t))) (hlen:xs.length*g.size≤16777216):
  ∃us:Array Value,(Instr.buildSlice t xs.length (os.map fun(x:Nat×Operand)=>(x.1,a.eval x.2)).toArray).run P w= .ok (.slice (some ⟨w.heap.size,0,none⟩) xs.length xs.length) (w.alloc (.cells us el))∧
   dw w ν g.size (xs.map (cg st.t)) us.toList∧us.size=xs.length*g.size:=by
 obtain⟨d,aK,eS⟩:=iG aN aQ;rw[ab]at eS;obtain rfl:=r6 eS;obtain⟨_,af⟩:=uD aN aS w;obtain⟨z,w4,EX,amC⟩:=Me aN aS w;have ar:¬xs.length*g.size>2 ^ 24:=by omega
 let init:Array Value:=if xs.length*g.size=0 then(Array.range (xs.length*g.size)).map ((#[]:Array Value)[· %(#[]:Array Value).size]!)else(Array.range (xs.length*g.size)).map (z.cells[· %z.cells.size]!)
 have Ru:init.size=xs.length*g.size:=by simp only[init];split<;>simp
 obtain⟨b9,g1,g2,g3⟩:=VG (a:=a) aI xs 0 os [] init [] eu ed (by simp) (by simp[dw]) rfl (by rw[Ru];simp);refine⟨b9,?_,by simpa using g2,by rw[g3,Ru]⟩;simp only[init]at g1;by_cases bV:xs.length*g.size=0
 ·rw[if_pos bV]at g1;rw[bV]at g1;have ab2:¬(0:Nat)>2 ^ 24:=by decide
  simp only[Instr.buildSlice,ft,run_underlying aK,fB,af,if_false,fZ,bV,if_true,ab2,g1,newRow,run_newObj];rfl
 ·rw[if_neg bV]at g1;simp only[Instr.buildSlice,ft,run_underlying aK,fB,af,ar,if_false,fZ,bV,w4,g1,newRow,run_newObj];rfl
theorem Cc{P:cy}{w:World}{ν:bc}{ck:jo}{t:gx}(aK:tb P ck t){k v:ai}{gO MA:Value}(ab:a6 w ν k gO)(aJ:a6 w ν v MA):
  ∀(borns:List Nat) (kvs:List ai) (us:List Value) (i:Nat) (r:Option (List ai)),cJ w ν kvs us→kvs.length=2*borns.length→ue ck k v kvs=some r→
  match r with
  |none=>hJ P w ck t gO (fo borns us) i none
  |some vr=> ∃j u b9 e,hJ P w ck t gO (fo borns us) i (some (i+j,u))∧cJ w ν vr b9∧vr.length=kvs.length∧(fo borns us)[j]? =some e∧e.key=gO∧Instr.sameBits 10000 e.key gO=true∧fo borns b9=(fo borns us).modify j (fun e=>{e with key:=gO,val:=MA})
 |[],[],us,i,r,h,_,hm=>by simp only[ue]at hm;cases hm;simp only[cJ]at h;subst h;simpa[fo]using hJ.nil P w ck t gO i
 |[],_::_,_,_,_,_,aq,_=>by simp at aq
 |b::eL,[],_,_,_,_,aq,_=>by simp at aq
 |b::eL,[_],_,_,_,_,aq,_=>by simp at aq;omega
 |b::eL,bD::v'::kvs,us,i,r,h,aq,hm=>by
  simp only[cJ]at h;obtain⟨iH,Mn,rfl,J,jh,rP,rfl,U,ao⟩:=h;simp only[ue]at hm;simp only[fo];cases bn:sA ck k bD with
  |none=>simp[bn]at hm
  |some bb=>
   obtain⟨s1,s2⟩:=SL aK ab J bn;simp only[bn]at hm;cases bb with
   |true=>simp only[dt]at hm;subst hm;obtain⟨rfl,s3⟩:=s2 rfl;refine⟨0,jh,iH::MA::rP,⟨iH,jh,b⟩,hJ.hit (e:=⟨iH,jh,b⟩) s1,?_,by simp,by simp,rfl,s3,by simp[fo]⟩;simp only[cJ];exact⟨_,_,rfl,ab,_,_,rfl,aJ,ao⟩
   |false=>
    simp only at hm;have bW:=fun eD dc=>Cc aK ab aJ eL kvs rP (i+1) eD ao (by simp at aq;omega) dc;split at hm
    ·rename_i eD dc;cases hm;obtain⟨j,u,b9,e,g1,g2,g3,g4,g5,g6,g7⟩:=bW _ dc;refine⟨j+1,u,iH::jh::b9,e,hJ.miss (e:=⟨iH,jh,b⟩) s1 (by rw[show i+(j+1)=i+1+j from by omega];exact g1),?_,by simp[g3],by simpa using g4,g5,g6,by simp[fo,g7]⟩;simp only[cJ];exact⟨_,_,rfl,J,_,_,rfl,U,g2⟩
    ·rename_i dc;cases hm;exact hJ.miss (e:=⟨iH,jh,b⟩) s1 (bW _ dc)
    ·cases hm
theorem H4:∀(borns:List Nat) (us:List Value) (b:Nat) (k v:Value),us.length=2*borns.length→fo (borns++[b]) (us++[k,v])=fo borns us++[⟨k,v,b⟩]
 |[],us,b,k,v,h=>by have:us=[]:=List.eq_nil_of_length_eq_zero (by simpa using h);subst this;simp[fo]
 |b0::eL,[],b,k,v,h=>by simp at h
 |b0::eL,[_],b,k,v,h=>by simp at h;omega
 |b0::eL,bD::v'::us,b,k,v,h=>by simp only[bO,fo,H4 eL us b k v (by simp at h;omega)]
theorem LG{w:World}{ν:bc}:∀{cp bG:List ai} {a7 us:List Value},cJ w ν cp a7→cJ w ν bG us→cJ w ν (cp++bG) (a7++us)
 |[],bG,a7,us,h,cA=>by simp only[cJ]at h;subst h;simpa using cA
 |p::cp,bG,a7,us,h,cA=>by simp only[cJ]at h;obtain⟨u,b9,rfl,J,U⟩:=h;simp only[bO,cJ];exact⟨u,_,rfl,J,LG U cA⟩
theorem Gb{w:World}{ν:bc}:∀{cp:List ai} {a7:List Value},cJ w ν cp a7→a7.length=cp.length
 |[],a7,h=>by simp only[cJ]at h;subst h;rfl
 |p::cp,a7,h=>by simp only[cJ]at h;obtain⟨u,b9,rfl,_,U⟩:=h;simp[Gb U]
theorem CH{P:cy}{w:World}{r:Nat}{o o':Obj}(ae:w.heap[r]? =some o)(ar:∀c e f,o≠ .cells c e f:=by simp):(setObj r o').run P w= .ok () {w with heap:=w.heap.setIfInBounds r o'}:=by simp only[setObj,Sem.run,ae]
def dY.makes(st:bj):dY→Bool
 | .box _ _ _| .alloc _ _ _| .bsl _ _ _ _| .bslm _ _ _ _ _| .mkmap _ _| .range _ _ _| .mks _ _ _ _ _ _=>true
 | .appm _ _ _ _ x _=>match cg st.t x with
  | .slice _ .nil _=>true
  |_=>false
 | .app _ _ _ x _=>match cg st.t x with
  | .slice _ .nil _=>true
  |_=>false
 |_=>false
theorem cO.forgetRow{C:e2}{st:bj}{a:Act}{w:World}{ν:bc}(aI:cO C st a w ν){k:aH}{ow:fv}(ab:look k st.e=some ow):cO C {st with e:=ct k ⟨ow.n,ow.el,ow.sz,none⟩ st.e} a w ν:=by
 have hk:∀g,(look g (ct k ⟨ow.n,ow.el,ow.sz,none⟩ st.e)).isSome→(look g st.e).isSome:=fun g aS=>by
  rw[iC]at aS;split at aS
  ·rename_i e;subst e;simp[ab]
  ·exact aS
 refine⟨⟨aI.good.alt,aI.good.box,aI.good.inj,fun g o aS=>?_,fun g eX n n' v v' bl bp a2=>aI.good.oinj g eX n n' v v' bl (hk g bp) (hk eX a2),fun g j n v bl bp=>aI.good.obx g j n v bl (hk g bp),aI.good.one,fun bl ae=>aI.good.otr bl (ae.imp id (fun⟨g,n,v,bp,a2⟩=>⟨g,n,v,hk g bp,a2⟩))⟩,aI.fr,aI.defers,aI.size,aI.slot,aI.new⟩;simp only at aS;rw[iC]at aS;split at aS
 ·rename_i e;subst e;cases aS;obtain⟨v,us,a1,bt,b2,_⟩:=aI.good.own k ow ab;exact⟨v,us,a1,bt,b2,fun xs ad=>by cases ad⟩
 ·exact aI.good.own g o aS
theorem Ug{w:World}{base el sz n:Nat}{v:Value}{us:List Value}(h:w.ownsRow base el sz v n us)(ar:0<n):∃b cap,v= .slice (some ⟨b,0,none⟩) n cap:=by
 rcases h.2 with⟨ak,aA⟩|⟨bb,cap,cur,f1,_⟩
 ·omega
 ·exact⟨_,_,f1⟩
theorem F8{w:World}{ν:bc}{sz:Nat}:∀{xs:List ai} {us:List Value} {i:Nat} {q gm:ai} {e0:Value},dw w ν sz xs us→xs[i]? =some q→a6 w ν gm e0→e0.cells.size=sz→(∀c∈e0.cells.toList,c.oneCell'=true)→dw w ν sz (xs.set i gm) (us.take (i*sz)++e0.cells.toList++us.drop (i*sz+sz))
 |[],_,_,_,_,_,_,bn,_,_,_=>by simp at bn
 |x::xs,us,0,q,gm,e0,h,bn,aI,af,au=>by
  simp only[dw]at h;obtain⟨u,b9,rfl,⟨J,U,ao⟩,b1⟩:=h;have aq:u.cells.toList.length=sz:=by simpa using U
  simp only[List.set_cons_zero,dw];refine⟨e0,b9,?_,⟨aI,af,au⟩,b1⟩;simp[←aq]
 |x::xs,us,i+1,q,gm,e0,h,bn,aI,af,au=>by
  simp only[dw]at h;obtain⟨u,b9,rfl,⟨J,U,ao⟩,b1⟩:=h;have aq:u.cells.toList.length=sz:=by simpa using U
  have bW:=F8 b1 (by simpa using bn) aI af au;simp only[List.set_cons_succ,dw];refine⟨u,_,?_,⟨J,U,ao⟩,bW⟩;have e:(i+1)*sz+sz=u.cells.toList.length+(i*sz+sz):=by rw[aq,Nat.succ_mul];omega
  rw[VX _ _ _ _ aq,e,←List.drop_drop];simp
theorem aix{w:World}{ν:bc}{q:ai}{v:Value}(bn:a6 w ν q v)(af:eE q=true){cs:List ai}{us:List Value}(av:dd w ν cs us){f:Nat}(aQ:f+us.length≤v.cells.size)(cC:us≠[]):
  ∃v',a6 w ν (o5 q f cs) v'∧v'.cells.toList=v.cells.toList.take f++us++v.cells.toList.drop (f+us.length)∧v'.cells.size=v.cells.size∧∀c∈v'.cells.toList,c.oneCell'=true:=by
 have hlen:=o4 av;have la:=uv bn af;by_cases br:∃eH,q= .agg eH
 ·obtain⟨eH,rfl⟩:=br;simp only[a6]at bn;obtain⟨a7,rfl,kj⟩:=bn;simp only[ou]at aQ⊢;have iR:dd w ν (nu eH f cs) (a7.toList.take f++us++a7.toList.drop (f+us.length)):=by unfold nu;rw[hlen];exact xz (xz (CC f kj) av) (zU _ kj)
  refine⟨.agg (a7.toList.take f++us++a7.toList.drop (f+us.length)).toArray,by simp only[o5,a6];exact⟨_,rfl,by simpa using iR⟩,by simp[ou],?_,fun c hW=>?_⟩
  ·simp[ou];omega
  ·exact zV iR c (by simpa[ou]using hW)
 ·have my:∀cs,q≠ .agg cs:=fun cs e=>br ⟨cs,e⟩;obtain⟨J,U⟩:=LI bn af my;rw[U]at aQ⊢;match us,cC,av with
  |u::b9,_,av=>
   simp at aQ;obtain⟨rfl,rfl⟩:f=0∧b9=[]:=⟨by omega,List.length_eq_zero_iff.1 (by omega)⟩;match cs,av,hlen with
   |[c],av,_=>
    simp only[dd]at av;obtain⟨Ad,fl,ak,⟨IY,Re⟩,_⟩:=av;cases ak;have hu:u.cells= #[u]:=by cases u<;>first|rfl|cases Re
    have yX:o5 q 0 [c]=c:=by cases q<;>first|rfl|exact absurd rfl (my _)
    rw[yX];refine⟨u,IY,by simp[hu],by simp[hu],fun c hW=>?_⟩;rw[hu]at hW;simp at hW;subst hW;exact Re
theorem ajb{α:Type}(A us:List α)(a f sz N:Nat)(J:f+us.length≤sz)(U:a+sz≤N)(ao:N≤A.length):
  ((A.take (a+f)++us++A.drop (a+f+us.length)).toArray.toList).take N=(A.take N).take a++((((A.take N).drop a).take sz).take f++us++(((A.take N).drop a).take sz).drop (f+us.length))++(A.take N).drop (a+sz):=by
 have ak:(A.take N).take a++(((A.take N).drop a).take sz).take f=A.take (a+f):=by rw[List.take_take (i:=f),Nat.min_eq_left (show f≤sz by omega),←List.take_add,List.take_take,Nat.min_eq_left (by omega)]
 have aA:(((A.take N).drop a).take sz).drop (f+us.length)++(A.take N).drop (a+sz)=(A.take N).drop (a+f+us.length):=by
  have aq:f+us.length≤(((A.take N).drop a).take sz).length:=by simp;omega
  have pg:(A.take N).drop (a+sz)=((A.take N).drop a).drop sz:=by rw[List.drop_drop]
  rw[pg,←List.drop_append_of_le_length aq,List.take_append_drop,List.drop_drop];congr 1;omega
 have bs:(A.take N).drop (a+f+us.length)=(A.drop (a+f+us.length)).take (N-(a+f+us.length)):=by rw[List.drop_take]
 have aq:(A.take (a+f)++us).length=a+f+us.length:=by simp;omega
 simp only[List.append_assoc]at*;rw[aA,bs,←List.append_assoc (ox a _),ak];have kS:N=(A.take (a+f)++us).length+(N-(a+f+us.length)):=by rw[aq];omega
 rw[←List.append_assoc,←List.append_assoc];conv=>lhs;rw[kS,List.take_length_add_append]
theorem cO.storeRow{P:cy}{C:e2}{st:bj}{a:Act}{w:World}{ν:bc}(h:cO C st a w ν){k:aH}{n el sz:Nat}{xs:List ai}(ab:look k st.e=some ⟨n,el,sz,some xs⟩){i f:Nat}{u:Value}(ad:a6 w ν (.rptr sz k n i f) u){q:ai}(bn:xs[i]? =some q)(af:eE q=true)
  {cs:List ai} {us:List Value} (av:dd w ν cs us) (aQ:f+us.length≤(cells q).length) (cC:us≠[]):
  ∃bl off lY,u= .pointer (some ⟨bl,off,none⟩)∧(storeCells ⟨bl,off,none⟩ us).run P w= .ok () (w.setRow bl lY)∧∃bg,cO C {st with e:=ct k ⟨n,el,sz,some (xs.set i (o5 q f cs))⟩ st.e} a (w.setRow bl lY) bg:=by
 simp only[a6]at ad;obtain⟨_,hi,n',e0,J,U,ao⟩:=ad;obtain⟨v,fl,a1,bt,b2,c2⟩:=h.good.own k _ ab;rw[J]at a1;simp only[dt,jm]at a1;obtain⟨rfl,rfl⟩:=a1;obtain⟨bl,ae,rfl⟩:=ao rfl;obtain⟨c8,nr,um⟩:=c2 xs rfl;simp only at c8 nr;obtain⟨v,ep,fe,mh⟩:=F6 i nr bn;have yF:=o4 (uv ep af);have adw:(cells q).length=sz:=by rw[←yF];simpa using fe
 have Rq:f+us.length≤sz:=by rw[←adw];exact aQ
 have hmul:i*sz+sz≤n'*sz:=by have:=Nat.mul_le_mul_right sz (show i+1≤n' from hi);rwa[Nat.succ_mul]at this
 rcases bt.2 with⟨ak,aA⟩|⟨g,cap,cur,rfl,q5,I8,Ji,acw,da,R7⟩
 ·rw[ak]at ae;simp[nA]at ae
 simp only[nA,dt]at ae;subst ae;simp only at R7 da Ji I8;have yE:n'*sz≤cur.size:=by rw[da];exact Nat.mul_le_mul_right sz Ji
 have dh:=run_storeCells_at P g (i*sz+f) el us 0 cur w I8 (by omega) (zV av);simp only[Nat.add_zero]at dh;refine⟨g,i*sz+f,_,rfl,dh,?_⟩;generalize wO:(cur.toList.take (i*sz+f)++us++cur.toList.drop (i*sz+f+us.length)).toArray=lY;obtain⟨v',cQ,dm,iF,uh⟩:=aix ep af av (f:=f) (by rw[fe];exact Rq) cC;have lh:=F8 nr bn cQ (by rw[iF,fe]) uh;have hlen:fl.length=n'*sz:=bt.1;have adh:lY.toList.take (n'*sz)=fl.take (i*sz)++v'.cells.toList++fl.drop (i*sz+sz):=by rw[←wO,dm,mh,←R7];exact ajb cur.toList us (i*sz) f sz (n'*sz) Rq hmul (by simpa using yE)
 have acy:lY.size=cap*sz:=by rw[←wO,←da];simp;omega
 have ams:(xs.set i (o5 q f cs)).length=n':=by simp[c8]
 obtain⟨ahu,_,_⟩:=h.setRowM (w':=w.setRow g lY) ab rfl J (bl:=g) rfl (v':= .slice (some ⟨g,0,none⟩) n' cap) rfl (xs':=xs.set i (o5 q f cs)) (us:=fl.take (i*sz)++v'.cells.toList++fl.drop (i*sz+sz)) (.inl ⟨by simp[c8],rfl⟩) rfl rfl rfl (fun j ag=>setRow_other w g j lY ag) (setRow_size w g lY)
  ⟨by rw[sP lh],.inr ⟨g,cap,lY,by simp[c8],Nat.zero_le _,setRow_heap w g cur lY el _ I8,by simpa[c8]using Ji,acw,acy,by simpa[c8]using adh⟩⟩ lh
 exact⟨_,by simpa[c8]using ahu⟩
theorem ae0(z:Array Value)(n:Nat)(h:0<z.size):(madeCells z ((n+1)*z.size)).toList=z.toList++(madeCells z (n*z.size)).toList:=by
 apply List.ext_getElem?;intro j;rw[List.getElem?_append];have he:(n+1)*z.size=n*z.size+z.size:=by rw[pc,Nat.one_mul]
 simp only[madeCells,s6,Array.length_toList,Array.getElem?_map];by_cases ag:j<z.size
 ·rw[if_pos ag,Array.getElem?_range,if_pos (by omega)];simp[Nat.mod_eq_of_lt ag,ag]
 ·rw[if_neg ag,Array.getElem?_range,Array.getElem?_range];by_cases ab:j<n*z.size+z.size
  ·rw[if_pos (by omega),if_pos (by omega)];simp only[nC];rw[←Nat.mod_eq_sub_mod (by omega)]
  ·rw[if_neg (by omega),if_neg (by omega)]
theorem Tm{w:World}{ν:bc}{p:ai}{z:Value}(aI:a6 w ν p z)(h:0<z.cells.size)(au:∀c∈z.cells.toList,c.oneCell'=true):∀n,dw w ν z.cells.size (List.replicate n p) (madeCells z.cells (n*z.cells.size)).toList
 |0=>by simp[dw,madeCells]
 |n+1=>by rw[ae0 _ _ h];simp only[List.replicate_succ,dw];exact⟨z,_,rfl,⟨aI,rfl,au⟩,Tm aI h au n⟩
theorem jA{P:cy}{bo:List (Nat×du)}(aN:fA P bo=true){C:e2}{st st':bj}{a:Act}{w:World}{ν:bc}(aI:cO C st a w ν){i:dY}{o:Oper}(au:CI C.N bo i o=true)
  {κ:aH} {n':Nat} {o₁:List aH} (tG:i.makes st=true→fresh st.n st.o κ) (dT:i.makes st=true→∀j,fresh n' o₁ j→fresh st.n st.o j∧j≠κ) {c:Prop} (he:er κ n' o₁ st i=some (c,st')) (av:c) {K:Act→World→Prop} {Q:Exit→Act→World→Prop} (c1:∀bh w' bg,cO C st' bh w' bg→K bh w'):o.wp P a w K Q:=by
 obtain⟨dst,op,type,pos,after,guard⟩:=o;unfold CI at au;dsimp only at au;split at au
 ·rename_i d key t;simp only[cx,dH,fI]at au;obtain⟨rfl,U⟩:=au;simp only[er]at he;cases he;obtain⟨g1,g2⟩:=aI.newBox (aI.new _ (tG rfl)) (dT rfl) (cs:=[.hdm 0 []]) (us:= #[]) 0 (by simp only[iX];exact⟨by simp[cJ],⟨rfl,by simp,by simp⟩⟩);refine lP (v:= .map (some w.heap.size)) (w':=w.alloc (.map #[] 0)) ?_ (c1 _ _ _ (g1.put (d:=some d) (by simpa[jc]using U) (p:= .gmap κ) ?_))
  ·simp only[execOp,Instr.makeMap,Option.map_none,ft,run_newObj,fB,fZ];rfl
  ·simp[a6,bc.withBox]
 ·rename_i ck x k v t gv gq od;simp only[cx,dH]at au;obtain⟨⟨⟨⟨rfl,J⟩,U⟩,ao⟩,aZ⟩:=au;have rx:=dX aI U;have uw:=dX aI ao;have xF:=dX aI aZ;split at J
  ·rename_i sz kQ mc oK z aQ;obtain⟨cB,hu,eS⟩:=iG aN aQ;have si:cB= .map mc oK:=by cases cB<;>simp[jW]at eS;obtain⟨rfl,rfl⟩:=eS;rfl
   subst si;have lE:=J1 aN J;simp only[er]at he;split at he
   ·rename_i m ad;rw[ad]at rx;simp only[a6]at rx;obtain⟨bl,b8,b3⟩:=rx;split at he
    ·rename_i cs da;split at he
     ·rename_i cs' hm;cases he;obtain⟨h8,us,el,a1,bt,b2,c2,c8⟩:=aI.good.box m cs da;rw[b8]at a1;cases a1;unfold oc at hm;split at hm
      ·rename_i clock borns kvs;split at hm
       ·cases hm
       rename_i tJ;simp only[jz]at c2;simp only[iX]at c8;have hp:=uy (P:=P) c2;have u0:=LK (P:=P) (w:=w) lE false uw (by simpa using tJ);have bq:bl<w.heap.size:=(Array.getElem?_eq_some_iff.1 c2).1;have dK:∀(o':Obj) (b9:Array Value) (eH:List ai),(Instr.mapUpdate t (a.eval gv) (a.eval gq) (a.eval od)).run P w= .ok () {w with heap:=w.heap.setIfInBounds bl o'}→jz eH b9 el=o'→iX w ν eH b9.toList→some eH=some cs'→
         (⟨none,.mapUpdate t gv gq od,type,pos,after,guard⟩:Oper).wp P a w K Q:=by
        intro o' b9 eH hX By lh iw;cases iw;refine C9 (w':={w with heap:=w.heap.setIfInBounds bl o'}) ?_ (c1 _ _ _ (aI.setBox (w':={w with heap:=w.heap.setIfInBounds bl o'}) da b8 (us:=b9) (el:=el) rfl rfl rfl (fun j ag=>?_) (by simp) ?_ lh).1)
        ·simp only[execOp,hX,ft,fB,fZ]
        ·exact Array.getElem?_setIfInBounds_ne (kO ag)
        ·rw[By];simp[bq]
       split at hm
       ·rename_i vr tK;obtain⟨j,u,b9,e,f1,f2,f3,f4,f5,f6,f7⟩:=Cc lE uw xF borns kvs us.toList 0 _ c8.1 c8.2.len tK;refine dK (.map (fo borns b9).toArray clock) b9.toArray (.hdm clock borns::vr) ?_ (by simp[jz]) (by simp only[iX];exact⟨by simpa using f2,⟨by rw[f3];exact c8.2.len,c8.2.inc,c8.2.lt⟩⟩) hm;have Jz:(Instr.keyThatStays (((fo borns us.toList).toArray[j]?.map (·.key)).getD (a.eval gq)) (a.eval gq)).run P w= .ok (a.eval gq) w:=by
         have:((fo borns us.toList).toArray[j]?.map (·.key)).getD (a.eval gq)=e.key:=by simp[f4]
         rw[this];simp[Instr.keyThatStays,f6]
        simp only[Nat.zero_add]at f1;simp only[Instr.mapUpdate,ft,run_underlying hu,fB,b3,hp,u0,f1.run lE,fZ,Jz,CH c2];rw[f7];simp
       ·rename_i tK;have f1:=Cc lE uw xF borns kvs us.toList 0 _ c8.1 c8.2.len tK;simp only at f1;have rl:us.toList.length=2*borns.length:=by rw[Gb c8.1,c8.2.len]
        refine dK (.map ((fo borns us.toList).toArray.push ⟨a.eval gq,a.eval od,clock⟩) (clock+1)) (us.toList++[a.eval gq,a.eval od]).toArray (.hdm (clock+1) (borns++[clock])::(kvs++[cg st.t k,cg st.t v])) ?_ (by simp only[jz,H4 borns us.toList clock _ _ rl];simp) ?_ hm
        ·simp only[Instr.mapUpdate,ft,run_underlying hu,fB,b3,hp,u0,f1.run lE,fZ,CH c2]
        ·simp only[iX];refine⟨LG c8.1 (by simp only[cJ];exact⟨_,_,rfl,uw,_,_,rfl,xF,rfl⟩),⟨by simp[c8.2.len];omega,?_,?_⟩⟩
         ·rw[List.pairwise_append];exact⟨c8.2.inc,by simp,fun x ad y aG=>by simp at aG;subst aG;exact c8.2.lt x ad⟩
         ·intro b ae;rcases ja.1 ae with ae|ae
          ·have:=c8.2.lt b ae;omega
          ·simp at ae;omega
       ·cases hm
      ·cases hm
     ·cases he
    ·cases he
   ·cases he
  ·cases J
 ·rename_i ck x k v t gv gq od;simp only[cx,dH]at au;obtain⟨⟨⟨⟨rfl,J⟩,U⟩,ao⟩,aZ⟩:=au;have rx:=dX aI U;have uw:=dX aI ao;have xF:=dX aI aZ;split at J
  ·rename_i sz kQ mc oK z aQ;obtain⟨cB,hu,eS⟩:=iG aN aQ;have si:cB= .map mc oK:=by cases cB<;>simp[jW]at eS;obtain⟨rfl,rfl⟩:=eS;rfl
   subst si;have lE:=J1 aN J;simp only[er]at he;split at he
   ·rename_i m ad;rw[ad]at rx;simp only[a6]at rx;obtain⟨bl,b8,b3⟩:=rx;split at he
    ·rename_i cs da;split at he
     ·rename_i cs' hm;cases he;obtain⟨h8,us,el,a1,bt,b2,c2,c8⟩:=aI.good.box m cs da;rw[b8]at a1;cases a1;unfold oc at hm;split at hm
      ·rename_i clock borns kvs;split at hm
       ·cases hm
       rename_i tJ;simp only[jz]at c2;simp only[iX]at c8;have hp:=uy (P:=P) c2;have u0:=LK (P:=P) (w:=w) lE false uw (by simpa using tJ);have bq:bl<w.heap.size:=(Array.getElem?_eq_some_iff.1 c2).1;have dK:∀(o':Obj) (b9:Array Value) (eH:List ai),(Instr.mapUpdate t (a.eval gv) (a.eval gq) (a.eval od)).run P w= .ok () {w with heap:=w.heap.setIfInBounds bl o'}→jz eH b9 el=o'→iX w ν eH b9.toList→some eH=some cs'→
         (⟨none,.mapUpdate t gv gq od,type,pos,after,guard⟩:Oper).wp P a w K Q:=by
        intro o' b9 eH hX By lh iw;cases iw;refine C9 (w':={w with heap:=w.heap.setIfInBounds bl o'}) ?_ (c1 _ _ _ (aI.setBox (w':={w with heap:=w.heap.setIfInBounds bl o'}) da b8 (us:=b9) (el:=el) rfl rfl rfl (fun j ag=>?_) (by simp) ?_ lh).1)
        ·simp only[execOp,hX,ft,fB,fZ]
        ·exact Array.getElem?_setIfInBounds_ne (kO ag)
        ·rw[By];simp[bq]
       split at hm
       ·rename_i vr tK;obtain⟨j,u,b9,e,f1,f2,f3,f4,f5,f6,f7⟩:=Cc lE uw xF borns kvs us.toList 0 _ c8.1 c8.2.len tK;refine dK (.map (fo borns b9).toArray clock) b9.toArray (.hdm clock borns::vr) ?_ (by simp[jz]) (by simp only[iX];exact⟨by simpa using f2,⟨by rw[f3];exact c8.2.len,c8.2.inc,c8.2.lt⟩⟩) hm;have Jz:(Instr.keyThatStays (((fo borns us.toList).toArray[j]?.map (·.key)).getD (a.eval gq)) (a.eval gq)).run P w= .ok (a.eval gq) w:=by
         have:((fo borns us.toList).toArray[j]?.map (·.key)).getD (a.eval gq)=e.key:=by simp[f4]
         rw[this];simp[Instr.keyThatStays,f6]
        simp only[Nat.zero_add]at f1;simp only[Instr.mapUpdate,ft,run_underlying hu,fB,b3,hp,u0,f1.run lE,fZ,Jz,CH c2];rw[f7];simp
       ·rename_i tK;have f1:=Cc lE uw xF borns kvs us.toList 0 _ c8.1 c8.2.len tK;simp only at f1;have rl:us.toList.length=2*borns.length:=by rw[Gb c8.1,c8.2.len]
        refine dK (.map ((fo borns us.toList).toArray.push ⟨a.eval gq,a.eval od,clock⟩) (clock+1)) (us.toList++[a.eval gq,a.eval od]).toArray (.hdm (clock+1) (borns++[clock])::(kvs++[cg st.t k,cg st.t v])) ?_ (by simp only[jz,H4 borns us.toList clock _ _ rl];simp) ?_ hm
        ·simp only[Instr.mapUpdate,ft,run_underlying hu,fB,b3,hp,u0,f1.run lE,fZ,CH c2]
        ·simp only[iX];refine⟨LG c8.1 (by simp only[cJ];exact⟨_,_,rfl,uw,_,_,rfl,xF,rfl⟩),⟨by simp[c8.2.len];omega,?_,?_⟩⟩
         ·rw[List.pairwise_append];exact⟨c8.2.inc,by simp,fun x ad y aG=>by simp at aG;subst aG;exact c8.2.lt x ad⟩
         ·intro b ae;rcases ja.1 ae with ae|ae
          ·have:=c8.2.lt b ae;omega
          ·simp at ae;omega
       ·cases hm
      ·cases hm
     ·cases he
    ·cases he
   ·cases he
  ·cases J
 ·rename_i d key x t gv;simp only[cx,dH,fI]at au;obtain⟨⟨⟨rfl,U⟩,J⟩,ao⟩:=au;have rx:=dX aI ao;split at J
  ·rename_i sz kQ mc oK z aQ;obtain⟨cB,hu,eS⟩:=iG aN aQ;have si:cB= .map mc oK:=by cases cB<;>simp[jW]at eS;obtain⟨rfl,rfl⟩:=eS;rfl
   subst si;simp only[er]at he;split at he
   ·rename_i m ad;rw[ad]at rx;have aiC:=rx;simp only[a6]at rx;obtain⟨bl,b8,b3⟩:=rx;split at he
    ·rename_i cs da;split at he
     ·rename_i cs' hm;cases he;obtain⟨h8,us,el,a1,bt,b2,c2,c8⟩:=aI.good.box m cs da;rw[b8]at a1;cases a1;unfold vL at hm;split at hm
      ·rename_i clock borns kvs;cases hm;simp only[jz]at c2;have hp:=uy (P:=P) c2;obtain⟨g1,g2⟩:=aI.newBox (aI.new _ (tG rfl)) (dT rfl) (cs:=[.hdi clock [] clock,.gmap m]) (us:= #[a.eval gv]) 0 (by simp only[iX,cJ];exact⟨_,_,rfl,aiC,rfl⟩);have By:jz [.hdi clock [] clock,.gmap m] #[a.eval gv] 0= .mapIter (some bl) clock #[] clock:=by simp[jz,b3]
       rw[By]at g1 g2;refine lP (v:= .pointer (some ⟨w.heap.size,0,none⟩)) (w':=w.alloc (.mapIter (some bl) clock #[] clock)) ?_ (c1 _ _ _ (g1.put (d:=some d) (by simpa[jc]using U) (p:= .ptr κ 0) g2))
       ·simp only[execOp];refine C4 ?_;simp only[Instr.range,ft,run_underlying hu,fB,b3,hp,fZ,run_newObj];rfl
      ·cases hm
     ·cases he
    ·cases he
   ·cases he
  ·cases J
 ·rename_i d apG;simp only[cx,dH,fI]at au;obtain⟨⟨J,U⟩,ao⟩:=au;subst J;simp only[er]at he;split at he
  ·rename_i cd p aJ;cases he;obtain⟨v,g1,g2⟩:=ajD (o:=⟨some d,op,type,pos,after,guard⟩) aN aI ao aJ av;refine lP g1 (c1 _ _ ν ?_);exact aI.put (d:=some d) (by simpa[jc]using U) g2
  ·cases he
 ·rename_i d key x el o';simp only[cx,dH,fI]at au;obtain⟨⟨J,U⟩,ao⟩:=au;subst J;simp only[er]at he;cases he;have ad:=dX aI ao;have kA:=uv ad av;obtain⟨g1,g2⟩:=aI.newBox (aI.new _ (tG rfl)) (dT rfl) el (by rw[uj (zW kA)];exact kA);rw[ui (zW kA)]at g1 g2;refine lP (v:= .pointer (some ⟨w.heap.size,0,none⟩)) (w':=w.alloc (.cells (a.eval o').cells el)) ?_ (c1 _ _ _ (g1.put (d:=some d) (by simpa[jc]using U) (p:= .ptr κ 0) ?_))
  ·simp only[execOp,Instr.box,newVar,newRow,ft,run_newObj,fB,fZ];rfl
  ·simpa only[a6]using g2
 ·rename_i d key z el;simp only[cx,dH,fI]at au;obtain⟨⟨J,U⟩,ao⟩:=au;subst J;simp only[er]at he;cases he;split at ao
  ·rename_i f aQ;have bf:=MJ ao;obtain⟨bX,kL,z2,z3⟩:=Me aN aQ w;rw[←bf]at z2;obtain⟨_,kA⟩:=MI w ν z2;obtain⟨g1,g2⟩:=aI.newBox (aI.new _ (tG rfl)) (dT rfl) el (by rw[uj (zW kA)];exact kA);rw[ui (zW kA)]at g1 g2;refine lP (v:= .pointer (some ⟨w.heap.size,0,none⟩)) (w':=w.alloc (.cells bX.cells el)) ?_ (c1 _ _ _ (g1.put (d:=some d) (by simpa[jc]using U) (p:= .ptr κ 0) ?_))
   ·simp only[execOp,Instr.alloc,newVar,newRow,ft,kL,run_newObj,fB,fZ];rfl
   ·simpa only[a6]using g2
  ·cases ao
 ·rename_i sz x y t o' iV;simp only[cx,dH]at au;obtain⟨⟨⟨J,U⟩,ao⟩,aZ⟩:=au;subst J;split at U
  ·rename_i f aQ;simp only[dH]at U;simp only[er]at he;split at he
   ·rename_i k off ad;split at he
    ·rename_i cs da;cases he;obtain⟨j6,bL,cn,dp⟩:=av;have rx:=dX aI ao;rw[ad]at rx;simp only[a6]at rx;obtain⟨bl,b8,b3⟩:=rx;have ly:=dX aI aZ;have uu:=uv ly bL;have ux:=o4 uu;obtain⟨h8,us,el,a1,bt,b2,c2,c8⟩:=aI.good.box k cs da;rw[b8]at a1;cases a1;rw[ui j6]at c2;rw[uj j6]at c8;have aB:=o4 c8;obtain⟨_,ed⟩:=uD aN aQ w;have tN:(a.eval iV).cells.size=sz:=by rw[cn]at ux;simpa using ux
     have dh:=run_storeCells_at (P:=P) bl off el (a.eval iV).cells.toList 0 us w c2 (by simp at aB⊢;omega) (zV uu);simp only[Nat.add_zero]at dh;refine C9 (w':=w.setRow bl (us.toList.take off++(a.eval iV).cells.toList++us.toList.drop (off+(a.eval iV).cells.toList.length)).toArray) ?_ (c1 _ _ _ (aI.storeBox da b8 j6 ?_))
     ·simp only[execOp,Instr.storeAt,b3,Instr.sureAddr,storeVar,ft,fZ,fB,ed,tN,U,ne_eq,not_true_eq_false,if_false,dh]
     ·simp only[nu];rw[ux];exact xz (xz (CC off c8) uu) (zU _ c8)
    ·cases he
   ·rename_i ad;generalize Jn:cg st.t x=px at he;unfold qC at he;split at he
    ·rename_i dy k n i sb;split at he
     ·rename_i n' el iY xs ab;split at he
      ·rename_i Bx;obtain⟨rfl,rfl⟩:=Bx;split at he
       ·rename_i q bn;cases he;obtain⟨j6,bL,cn,dp,jU⟩:=av;have rx:=dX aI ao;rw[Jn]at rx;have ly:=dX aI aZ;have uu:=uv ly bL;have ux:=o4 uu;obtain⟨_,ed⟩:=uD aN aQ w;have tN:(a.eval iV).cells.size=sz:=by rw[cn]at ux;simpa using ux
        obtain⟨bl,off,lY,BB,dh,bg,nZ⟩:=aI.storeRow (P:=P) ab rx bn j6 uu (by simpa[tN]using dp) (fun e=>by have:=eO List.length e;simp[tN]at this;omega);refine C9 (w':=w.setRow bl lY) ?_ (c1 _ _ _ nZ);simp only[execOp,Instr.storeAt,BB,Instr.sureAddr,storeVar,ft,fZ,fB,ed,tN,U,ne_eq,not_true_eq_false,if_false,dh]
       ·cases he
      ·cases he
     ·cases he
    ·cases he
  ·cases U
 ·rename_i d sz el xs t len parts;simp only[cx,dH,fI]at au;obtain⟨⟨⟨⟨⟨⟨J,U⟩,ao⟩,aZ⟩,b1⟩,c6⟩,dP⟩:=au;subst J;subst b1;split at ao
  ·rename_i fM aQ;simp only[dH]at ao;subst ao;split at aZ
   ·rename_i g aS;simp only[cx,dH,fI]at aZ;obtain⟨rfl,fq⟩:=aZ;simp only[er]at he;cases he;obtain⟨us,g1,g2,g3⟩:=VE aN aI aQ rfl aS dP av c6;have lg:(w.alloc (.cells us el)).ownsRow w.heap.size el g.size (.slice (some ⟨w.heap.size,0,none⟩) xs.length xs.length) (xs.map (cg st.t)).length us.toList:=by
     refine⟨by simp[g3],.inr ⟨w.heap.size,xs.length,us,by simp,e1 _,heap_alloc_new w _,by simp,?_,g3,?_⟩⟩
     ·simp only[maxLen];have:xs.length≤xs.length*g.size:=Nat.le_mul_of_pos_right _ fq;omega
     ·rw[ha];simp[g3]
    obtain⟨ep,fe⟩:=aI.newRow (k:=κ) (xs:=xs.map (cg st.t)) (.inl (aI.new _ (tG rfl))) (World.grownBy_alloc w _ none) lg g2
     (by have:xs.length≤xs.length*g.size:=Nat.le_mul_of_pos_right _ fq;simp only[lim,List.length_map];omega) (dT rfl)
    simp only[List.length_map]at ep fe;refine lP (v:= .slice (some ⟨w.heap.size,0,none⟩) xs.length xs.length) (w':=w.alloc (.cells us el)) ?_ (c1 _ _ _ (ep.put (d:=some d) (by simpa[jc]using U) (p:= .slice g.size (.own κ) (xs.map (cg st.t))) fe));have bF:(parts.map fun(x:Nat×Operand)=>(x.1,a.eval x.2))=(parts.toList.map fun(x:Nat×Operand)=>(x.1,a.eval x.2)).toArray:=by apply Array.ext';simp
    simp only[execOp];refine C4 ?_;rw[←g1];congr 2
   ·cases aZ
  ·cases ao
 ·rename_i d sz el x y o' iV t dE;simp only[cx,dH,fI]at au;obtain⟨⟨⟨⟨⟨⟨J,U⟩,ao⟩,aZ⟩,b1⟩,c6⟩,dP⟩:=au;subst J;subst ao;split at aZ
  ·rename_i fM aQ;simp only[dH]at aZ;subst aZ;split at b1
   ·rename_i g aS;simp only[cx,dH,fI]at b1;obtain⟨⟨rfl,fq⟩,hby⟩:=b1;have rx:=dX aI c6;have ly:=dX aI dP;have l3:∀v' w',(Builtin.append_ #[t,t] type #[a.eval o',a.eval iV]).run P w= .ok v' w'→(execOp a.eval ⟨some d,.call ⟨.builtin .append,⟨[o',iV]⟩,⟨[t,t]⟩⟩,type,pos,after,guard⟩).run P w= .ok (.value v') w':=by intro v' w' hX;simp only[execOp,resolve,invoke,builtin,ft,fZ,fB,List.map_toArray,gI,mj];rw[hX];rfl
    obtain⟨fk,cj,z,ak,aA,bs,dq,ht,hv,qR,qS⟩:=(uG aN aS).ex;obtain⟨eH,iw,eS⟩:=iG aN aQ;obtain rfl:=r6 eS;simp only[er]at he;split at he
    ·rename_i dy tag xs iY kG ys ad aG;split at he
     ·rename_i e6;obtain⟨rfl,e6⟩:=e6;subst e6;rw[ad]at rx;rw[aG]at ly;simp only[a6]at rx ly;obtain⟨⟨tj,oF,rQ,cx1,⟨Pr,Ps⟩,cx4⟩,rxn,rxo,rxt⟩:=rx;obtain⟨⟨nc,k8,vy,cy1,⟨Pt,Pu⟩,cy4⟩,_⟩:=ly;split at he
      ·rename_i k;split at he
       ·rename_i ow ab;cases he;obtain⟨bL,cn,dp,jU⟩:=av;subst cn;obtain⟨n0,Ad,ep,fe,mh⟩:=rxo k rfl;obtain⟨v0,fl,a1,bt,b2,_⟩:=aI.good.own k ow ab;rw[ep]at a1;simp only[dt,jm]at a1;obtain⟨rfl,rfl⟩:=a1;have mG:a.eval o'=Ad:=mh bL.symm;by_cases hZ:ys=[]
        ·subst hZ;rw[vy,rQ]at l3;have hX:=Gn (P:=P) (w:=w) (ty:=type) iw ak tj xs.length oF cx1 nc k8;refine lP (l3 _ _ (by simpa using hX)) (c1 _ _ ν ?_);have dh:{st with t:=put d (.slice ow.sz (.own k) (xs++[])) st.t,e:=ct k ⟨xs.length+([]:List ai).length,ow.el,ow.sz,none⟩ st.e}=({st with e:=ct k ⟨ow.n,ow.el,ow.sz,none⟩ st.e,t:=put d (.slice ow.sz (.own k) xs) st.t}:bj):=by simp[bL]
         rw[←dp,dh];have l5:=aI.forgetRow ab;refine l5.put (d:=some d) (by simpa[jc]using U) (p:= .slice ow.sz (.own k) xs) ?_;simp only[a6];rw[←dp]at cx4;exact⟨⟨tj,oF,rfl,cx1,⟨Pr,Ps⟩,cx4⟩,fun e=>(by cases e),(fun g e=>by cases e;exact⟨_,_,ep,fe,fun e=>by rw[←rQ];exact mh e⟩),fun _ _ e=>(by cases e),fun _ e=>(by cases e)⟩
        ·have hyp:0<ys.length:=by cases ys<;>simp at hZ⊢
         rcases cy4 with cy4|⟨kQ,mM,gR,rfl,xg,lZ⟩
         ·exact absurd cy4 hZ
         ·have jv:=sP lZ;have rf:∀j u,gR[j]? =some u→w.cell? ((⟨kQ,mM,none⟩:Addr).add j)=some u:=fun j u ag=>by rw[oC];exact(tY xg ag).2
          have q7:(xs.length+ys.length)*fk.bytes≤140737488355328:=by
           have lb:fk.bytes≤2048:=by rw[dq];exact hby
           have nQ:(xs.length+ys.length)*fk.bytes≤(xs.length+ys.length)*2048:=Nat.mul_le_mul_left _ lb;simp only[lim]at jU;omega
          have mD:xs.length+ys.length≤maxLen:=by simp only[lim]at jU;simp only[maxLen];omega
          rw[vy]at l3;have vf:fl.length=ow.n*ow.sz:=bt.1;have vi:z.cells.size=fk.size:=by rw[qS,bs]
          have Bo:(∀cur,ej→cur=(0:Nat))→(∃v' w',(Builtin.append_ #[t,t] type #[a.eval o',.slice (some ⟨kQ,mM,none⟩) ys.length k8]).run P w= .ok v' w'∧w'.ownsRow w.heap.size ow.el fk.size v' (xs.length+ys.length) (fl++gR)∧w.grownBy w' none∧dw w ν fk.size xs fl)→
            (⟨some d,.call ⟨.builtin .append,⟨[o',iV]⟩,⟨[t,t]⟩⟩,type,pos,after,guard⟩:Oper).wp P a w K Q:=by
           intro _ cP;obtain⟨v',w',f1,f2,f3,f4⟩:=cP;have Ep:dw w ν fk.size (xs++ys) (fl++gR):=CA f4 (by rw[bs];exact lZ);obtain⟨cQ,dm⟩:=aI.newRow (k:=k) (xs:=xs++ys) (.inr ⟨ow,ab,by rw[bL];simp;omega⟩) f3 (by simpa using f2) Ep (by simpa using jU) (n':=st.n) (o':=st.o)
            (fun j ag=>⟨ag,fun e=>by subst e;have:=(aI.new _ ag).2.1;rw[ep]at this;cases this⟩)
           refine lP (l3 _ _ f1) (c1 _ _ ((ν.withOwn k (xs++ys).length v').withRowOf k v' (xs++ys).length ((xs++ys).length*fk.size)) ?_);have:=cQ.put (d:=some d) (by simpa[jc]using U) dm;simpa[bs,eK]using this
          rcases bt.2 with⟨mO,xu⟩|⟨bl,cap,cur,mO,xu,zK,K0,K1,K2,FL⟩
          ·
           have y5:xs=[]:=List.eq_nil_of_length_eq_zero (by omega);have JC:fl=[]:=List.eq_nil_of_length_eq_zero (by rw[vf,xu];simp);subst y5;subst JC;refine Bo (fun _ h=>h.elim) ?_;obtain⟨v',w',f1,f2,f3,_⟩:=run_append_own (P:=P) w w.heap.size t type ow.el fk z fk.size fk.bytes iw ak hv rfl rfl vi (by rw[bs];exact fq) (.slice none 0 0) 0 [] (World.ownsRow_nil w _ _ _)
            ⟨kQ,mM,none⟩ ys.length k8 gR (by rw[jv,bs]) rf (xy lZ) (by simpa using mD) (by simpa using q7) (e1 _)
           refine⟨v',w',by rw[mG,mO];exact f1,by simpa using f2,by simpa[nA]using f3,by simp[dw]⟩
          ·have ac3:lr w ν.A bl 0 fl∧dw w ν fk.size xs fl∧True:=by
            rw[mG,mO]at rQ;rcases cx4 with cx4|⟨bb,an0,Mo,f1,f2,f3⟩
            ·subst cx4;have:fl=[]:=List.eq_nil_of_length_eq_zero (by rw[vf,bL];simp);subst this;exact⟨trivial,by simp[dw],trivial⟩
            ·subst f1;injection rQ with vx1 vx2 vx3;injection vx1 with vx1;injection vx1 with vx1 vx4;subst vx1;subst vx4;have heq:Mo=fl:=by
              apply List.ext_getElem?;intro j;have rl:Mo.length=fl.length:=by rw[sP f3,vf,bL,dp]
              by_cases ag:j<Mo.length
              ·have J:=(tY f2 (cv ag)).2;rw[Nat.zero_add]at J;have U:=bt.cells (g:=bl) (by rw[mO];rfl) j fl[j] (cv (by omega));rw[oC,Nat.zero_add,J]at U;rw[cv ag,cv (by omega)];exact U
              ·rw[pW (by omega),pW (by omega)]
             subst heq;exact⟨f2,by rw[bs];exact f3,trivial⟩
           obtain⟨wU,nW,_⟩:=ac3;by_cases ri:xs.length+ys.length≤cap
           ·have amj:cur.size=cap*ow.sz:=K2;have hmul:(xs.length+ys.length)*ow.sz≤cap*ow.sz:=Nat.mul_le_mul_right _ ri;rw[pc]at hmul;have f1:=run_append_room (P:=P) w t type ow.el fk iw ak bl xs.length cap cur zK ⟨kQ,mM,none⟩ ys.length k8 gR (by rw[jv,bs]) rf (xy lZ) ri (by rw[jv,bs,←dp];omega);obtain⟨cQ,dm⟩:=aI.inPlace ab (bl:=bl) (cap:=cap) (cur:=cur) (by rw[ep,←mO]) zK K1 K2 (xs:=xs) (ys:=ys) (us:=fl) (ns:=gR) bL.symm FL (by rw[dp,←bs];exact nW) (by rw[dp];exact lZ) hyp (by rw[bL];exact ri) jU;refine lP (v:= .slice (some ⟨bl,0,none⟩) (ow.n+ys.length) cap) (w':=w.setRow bl (fl++gR++cur.toList.drop (ow.n*ow.sz+gR.length)).toArray) (l3 _ _ ?_)
             (c1 _ _ (ν.withRowOf k (.slice (some ⟨bl,0,none⟩) (ow.n+ys.length) cap) (ow.n+ys.length) ((ow.n+ys.length)*ow.sz)) ?_)
            ·rw[mG,mO,bL,f1,←FL,bL,dp,bs]
            ·have:=cQ.put (d:=some d) (by simpa[jc]using U) dm;simpa[bL,dp,eK]using this
           ·refine Bo (fun _ h=>h.elim) ?_;obtain⟨v',w',f1,f2,f3⟩:=run_append_arg_grows (P:=P) w t type ow.el fk z fk.size fk.bytes iw ak hv rfl rfl vi (by rw[bs];exact fq) ⟨bl,0,none⟩ xs.length cap fl (by rw[vf,bL,dp,bs])
             (fun j u ag=>by rw[oC];exact(tY wU ag).2) ⟨kQ,mM,none⟩ ys.length k8 gR (by rw[jv,bs]) rf (by omega) mD q7
            exact⟨v',w',by rw[mG,mO,bL];exact f1,f2,f3,nW⟩
       ·cases he
      ·cases he;have ED:=rxn rfl;have y5:xs=[]:=by rw[ED]at rQ;injection rQ with _ aA;exact List.eq_nil_of_length_eq_zero aA.symm
       subst y5;have wZ:(dY.app d g.size el x y).makes st=true:=by simp only[dY.makes,ad]
       have vi:z.cells.size=fk.size:=by rw[qS,bs]
       rw[vy,ED]at l3;have dK:∀(v':Value) (w':World) (gR:List Value),(Builtin.append_ #[t,t] type #[.slice none 0 0,.slice nc ys.length k8]).run P w= .ok v' w'→w'.ownsRow w.heap.size el g.size v' ys.length gR→w.grownBy w' none→dw w ν g.size ys gR→
         (⟨some d,.call ⟨.builtin .append,⟨[o',iV]⟩,⟨[t,t]⟩⟩,type,pos,after,guard⟩:Oper).wp P a w K Q:=by
        intro v' w' gR f1 f2 f3 f4;obtain⟨cQ,dm⟩:=aI.newRow (k:=κ) (xs:=ys) (.inl (aI.new _ (tG wZ))) f3 f2 f4 av (dT wZ);exact lP (l3 _ _ f1) (c1 _ _ _ (cQ.put (d:=some d) (by simpa[jc]using U) dm))
       by_cases hZ:ys=[]
       ·subst hZ;exact dK _ w [] (Gn iw ak none 0 0 (e1 _) nc k8) (World.ownsRow_nil w _ _ _) (akH w _) (by simp[dw])
       ·rcases cy4 with cy4|⟨kQ,mM,gR,rfl,xg,lZ⟩
        ·exact absurd cy4 hZ
        ·have jv:=sP lZ;have rf:∀j u,gR[j]? =some u→w.cell? ((⟨kQ,mM,none⟩:Addr).add j)=some u:=fun j u ag=>by rw[oC];exact(tY xg ag).2
         have q7:ys.length*fk.bytes≤140737488355328:=by
          have J:fk.bytes≤2048:=by rw[dq];exact hby
          have U:ys.length*fk.bytes≤ys.length*2048:=Nat.mul_le_mul_left _ J;simp only[lim]at av;omega
         have mD:ys.length≤maxLen:=by simp only[lim]at av;simp only[maxLen];omega
         obtain⟨v',w',f1,f2,f3,_⟩:=run_append_own (P:=P) w w.heap.size t type el fk z fk.size fk.bytes iw ak hv rfl rfl vi (by rw[bs];exact fq) (.slice none 0 0) 0 [] (World.ownsRow_nil w _ _ _)
          ⟨kQ,mM,none⟩ ys.length k8 gR (by rw[jv,bs]) rf (xy lZ) (by simpa using mD) (by simpa using q7) (e1 _)
         exact dK v' w' gR f1 (by rw[←bs];simpa using f2) (by simpa[nA]using f3) lZ
      ·cases he
     ·cases he
    ·cases he
   ·cases b1
  ·cases aZ
 ·rename_i d key sz el xs t len parts;simp only[cx,dH,fI]at au;obtain⟨⟨⟨⟨⟨⟨J,U⟩,ao⟩,aZ⟩,b1⟩,c6⟩,dP⟩:=au;subst J;subst b1;split at ao
  ·rename_i fM aQ;simp only[dH]at ao;subst ao;split at aZ
   ·rename_i g aS;simp only[cx,dH,fI]at aZ;obtain⟨rfl,fq⟩:=aZ;simp only[er]at he;cases he;obtain⟨us,g1,g2,g3⟩:=VE aN aI aQ rfl aS dP av c6;have lg:(w.alloc (.cells us el)).ownsRow w.heap.size el g.size (.slice (some ⟨w.heap.size,0,none⟩) xs.length xs.length) (xs.map (cg st.t)).length us.toList:=by
     refine⟨by simp[g3],.inr ⟨w.heap.size,xs.length,us,by simp,e1 _,heap_alloc_new w _,by simp,?_,g3,?_⟩⟩
     ·simp only[maxLen];have:xs.length≤xs.length*g.size:=Nat.le_mul_of_pos_right _ fq;omega
     ·rw[ha];simp[g3]
    obtain⟨ep,fe⟩:=aI.newRowM (k:=κ) (xs:=xs.map (cg st.t)) (.inl (aI.new _ (tG rfl))) (World.grownBy_alloc w _ none) lg g2
     (by have:xs.length≤xs.length*g.size:=Nat.le_mul_of_pos_right _ fq;simp only[lim,List.length_map];omega) (dT rfl)
    simp only[List.length_map]at ep fe;refine lP (v:= .slice (some ⟨w.heap.size,0,none⟩) xs.length xs.length) (w':=w.alloc (.cells us el)) ?_ (c1 _ _ _ (ep.put (d:=some d) (by simpa[jc]using U) (p:= .row g.size κ xs.length) (fe ⟨_,_,rfl⟩)));have bF:(parts.map fun(x:Nat×Operand)=>(x.1,a.eval x.2))=(parts.toList.map fun(x:Nat×Operand)=>(x.1,a.eval x.2)).toArray:=by apply Array.ext';simp
    simp only[execOp];refine C4 ?_;rw[←g1];congr 2
   ·cases aZ
  ·cases ao
 ·rename_i d key sz el x y o' iV t dE;simp only[cx,dH,fI]at au;obtain⟨⟨⟨⟨⟨⟨J,U⟩,ao⟩,aZ⟩,b1⟩,c6⟩,dP⟩:=au;subst J;subst ao;split at aZ
  ·rename_i fM aQ;simp only[dH]at aZ;subst aZ;split at b1
   ·rename_i g aS;simp only[cx,dH,fI]at b1;obtain⟨⟨rfl,fq⟩,hby⟩:=b1;have rx:=dX aI c6;have ly:=dX aI dP;have l3:∀v' w',(Builtin.append_ #[t,t] type #[a.eval o',a.eval iV]).run P w= .ok v' w'→(execOp a.eval ⟨some d,.call ⟨.builtin .append,⟨[o',iV]⟩,⟨[t,t]⟩⟩,type,pos,after,guard⟩).run P w= .ok (.value v') w':=by intro v' w' hX;simp only[execOp,resolve,invoke,builtin,ft,fZ,fB,List.map_toArray,gI,mj];rw[hX];rfl
    obtain⟨fk,cj,z,ak,aA,bs,dq,ht,hv,qR,qS⟩:=(uG aN aS).ex;obtain⟨eH,iw,eS⟩:=iG aN aQ;obtain rfl:=r6 eS;have vi:z.cells.size=fk.size:=by rw[qS,bs]
    simp only[er]at he;split at he
    ·
     rename_i ys aJ;cases he;unfold r3 at aJ;split at aJ
     ·rename_i dy xs iY kG akx ad aG;split at aJ
      ·rename_i e6;obtain⟨rfl,e6⟩:=e6;subst e6;cases aJ;rw[ad]at rx;rw[aG]at ly;simp only[a6]at rx ly;obtain⟨⟨tj,oF,rQ,cx1,⟨Pr,Ps⟩,cx4⟩,rxn,rxo,rxt⟩:=rx;obtain⟨⟨nc,k8,vy,cy1,⟨Pt,Pu⟩,cy4⟩,_⟩:=ly;have ED:=rxn trivial;have wZ:(dY.appm d key g.size el x y).makes st=true:=by simp only[dY.makes,ad]
       rw[vy,ED]at l3;have dK:∀(v':Value) (w':World) (gR:List Value),(Builtin.append_ #[t,t] type #[.slice none 0 0,.slice nc ys.length k8]).run P w= .ok v' w'→w'.ownsRow w.heap.size el g.size v' ys.length gR→w.grownBy w' none→dw w ν g.size ys gR→
         (⟨some d,.call ⟨.builtin .append,⟨[o',iV]⟩,⟨[t,t]⟩⟩,type,pos,after,guard⟩:Oper).wp P a w K Q:=by
        intro v' w' gR f1 f2 f3 f4;obtain⟨cQ,dm⟩:=aI.newRowM (k:=κ) (xs:=ys) (.inl (aI.new _ (tG wZ))) f3 f2 f4 av.1 (dT wZ);exact lP (l3 _ _ f1) (c1 _ _ _ (cQ.put (d:=some d) (by simpa[jc]using U) (dm (Ug f2 (by cases ys<;>simp at av⊢)))))
       by_cases hZ:ys=[]
       ·subst hZ;exact dK _ w [] (Gn iw ak none 0 0 (e1 _) nc k8) (World.ownsRow_nil w _ _ _) (akH w _) (by simp[dw])
       ·rcases cy4 with cy4|⟨kQ,mM,gR,rfl,xg,lZ⟩
        ·exact absurd cy4 hZ
        ·have jv:=sP lZ;have rf:∀j u,gR[j]? =some u→w.cell? ((⟨kQ,mM,none⟩:Addr).add j)=some u:=fun j u ag=>by rw[oC];exact(tY xg ag).2
         have q7:ys.length*fk.bytes≤140737488355328:=by
          have J:fk.bytes≤2048:=by rw[dq];exact hby
          have U:ys.length*fk.bytes≤ys.length*2048:=Nat.mul_le_mul_left _ J;simp only[lim]at av;omega
         have mD:ys.length≤maxLen:=by simp only[lim]at av;simp only[maxLen];omega
         obtain⟨v',w',f1,f2,f3,_⟩:=run_append_own (P:=P) w w.heap.size t type el fk z fk.size fk.bytes iw ak hv rfl rfl vi (by rw[bs];exact fq) (.slice none 0 0) 0 [] (World.ownsRow_nil w _ _ _)
          ⟨kQ,mM,none⟩ ys.length k8 gR (by rw[jv,bs]) rf (xy lZ) (by simpa using mD) (by simpa using q7) (e1 _)
         exact dK v' w' gR f1 (by rw[←bs];simpa using f2) (by simpa[nA]using f3) lZ
      ·cases aJ
     ·split at aJ
      ·split at aJ
       ·split at aJ<;>cases aJ
       ·cases aJ
      ·cases aJ
     ·cases aJ
    ·
     rename_i k xs ys aJ;cases he;unfold r3 at aJ;split at aJ
     ·split at aJ<;>cases aJ
     ·rename_i dy bD n iY kG akx ad aG;split at aJ
      ·rename_i e6;obtain⟨rfl,e6⟩:=e6;subst e6;split at aJ
       ·rename_i n' fM vU xs' ab;split at aJ
        ·rename_i q8;obtain⟨rfl,rfl,rfl⟩:=q8;cases aJ;rw[ad]at rx;rw[aG]at ly;simp only[a6]at rx ly;obtain⟨⟨bx,oF,rQ⟩,rxl,n0,Ad,ep,fe,mh⟩:=rx;obtain⟨⟨nc,k8,vy,cy1,⟨Pt,Pu⟩,cy4⟩,_⟩:=ly;obtain⟨v0,fl,a1,bt,b2,c2⟩:=aI.good.own k _ ab;rw[ep]at a1;simp only[dt,jm]at a1 bt;obtain⟨rfl,rfl⟩:=a1;have mG:a.eval o'=Ad:=mh rfl;obtain⟨c8,nr,um⟩:=c2 xs rfl;simp only at c8 nr;have vf:fl.length=xs.length*g.size:=by rw[c8];exact bt.1
         have oU:xs.length=n0:=c8;by_cases hZ:ys=[]
         ·subst hZ;rw[vy,rQ]at l3;have kA:n0≤oF:=by
           rcases bt.2 with⟨mO,xu⟩|⟨bl,cap,cur,mO,xu,zK,K0,_⟩
           ·rw[xu];exact Nat.zero_le _
           ·rw[←mG,rQ]at mO;injection mO with _ _ e;rw[e];exact K0
          have hX:=Gn (P:=P) (w:=w) (ty:=type) iw ak (some ⟨bx,0,none⟩) n0 oF kA nc k8;refine lP (l3 _ _ (by simpa using hX)) (c1 _ _ ν ?_);have hk:∀eX,look eX (ct k ⟨n0,fM,g.size,some xs⟩ st.e)=look eX st.e:=fun eX=>by
           rw[iC];split
           ·rename_i e;subst e;rw[ab]
           ·rfl
          have l5:cO C {st with e:=ct k ⟨n0,fM,g.size,some xs⟩ st.e} a w ν:=
           ⟨⟨aI.good.alt,aI.good.box,aI.good.inj,fun g o aS=>aI.good.own g o (by rw[←hk g];exact aS),fun g eX n n' v v' bl bp a2=>aI.good.oinj g eX n n' v v' bl (by rw[←hk g];exact bp) (by rw[←hk eX];exact a2),
           fun g j n v bl bp=>aI.good.obx g j n v bl (by rw[←hk g];exact bp),aI.good.one,fun bl ae=>aI.good.otr bl (ae.imp id (fun⟨g,n,v,bp,a2⟩=>⟨g,n,v,by rw[←hk g];exact bp,a2⟩))⟩,aI.fr,aI.defers,aI.size,aI.slot,aI.new⟩
          have ao:=l5.put (d:=some d) (by simpa[jc]using U) (p:= .row g.size k n0) (v:= .slice (some ⟨bx,0,none⟩) n0 oF) (by simp only[a6];exact⟨⟨_,_,rfl⟩,rxl,_,_,ep,e1 _,fun _=>by rw[←rQ];exact mG⟩)
          simpa[oU,eK]using ao
         ·have hyp:0<ys.length:=by cases ys<;>simp at hZ⊢
          rcases cy4 with cy4|⟨kQ,mM,gR,rfl,xg,lZ⟩
          ·exact absurd cy4 hZ
          ·have jv:=sP lZ;have rf:∀j u,gR[j]? =some u→w.cell? ((⟨kQ,mM,none⟩:Addr).add j)=some u:=fun j u ag=>by rw[oC];exact(tY xg ag).2
           have q7:(xs.length+ys.length)*fk.bytes≤140737488355328:=by
            have lb:fk.bytes≤2048:=by rw[dq];exact hby
            have nQ:(xs.length+ys.length)*fk.bytes≤(xs.length+ys.length)*2048:=Nat.mul_le_mul_left _ lb;simp only[lim]at av;omega
           have mD:xs.length+ys.length≤maxLen:=by simp only[lim]at av;simp only[maxLen];omega
           have Ep:dw w ν g.size (xs++ys) (fl++gR):=CA nr lZ;rw[vy,mG]at l3;have Bo:(∃v' w',(Builtin.append_ #[t,t] type #[Ad,.slice (some ⟨kQ,mM,none⟩) ys.length k8]).run P w= .ok v' w'∧w'.ownsRow w.heap.size fM fk.size v' (xs.length+ys.length) (fl++gR)∧w.grownBy w' none)→
             (⟨some d,.call ⟨.builtin .append,⟨[o',iV]⟩,⟨[t,t]⟩⟩,type,pos,after,guard⟩:Oper).wp P a w K Q:=by
            intro cP;obtain⟨v',w',f1,f2,f3⟩:=cP;obtain⟨cQ,dm⟩:=aI.newRowM (k:=k) (xs:=xs++ys) (el:=fM) (sz:=g.size) (.inr ⟨_,ab,by simp;omega⟩) f3 (by rw[←bs];simpa using f2) Ep (by simpa using av) (n':=st.n) (o':=st.o)
             (fun j ag=>⟨ag,fun e=>by subst e;have:=(aI.new _ ag).2.1;rw[ep]at this;cases this⟩)
            refine lP (l3 _ _ f1) (c1 _ _ (ν.withOwn k (xs++ys).length v') ?_);have:=cQ.put (d:=some d) (by simpa[jc]using U) (dm (by simpa using Ug f2 (by omega)));simpa[eK]using this
           rcases bt.2 with⟨mO,xu⟩|⟨bl,cap,cur,mO,xu,zK,K0,K1,K2,FL⟩
           ·
            have y5:xs=[]:=List.eq_nil_of_length_eq_zero (by omega);have JC:fl=[]:=List.eq_nil_of_length_eq_zero (by rw[vf,y5];simp);subst y5;subst JC;refine Bo ?_;obtain⟨v',w',f1,f2,f3,_⟩:=run_append_own (P:=P) w w.heap.size t type fM fk z fk.size fk.bytes iw ak hv rfl rfl vi (by rw[bs];exact fq) (.slice none 0 0) 0 [] (World.ownsRow_nil w _ _ _)
             ⟨kQ,mM,none⟩ ys.length k8 gR (by rw[jv,bs]) rf (xy lZ) (by simpa using mD) (by simpa using q7) (e1 _)
            exact⟨v',w',by rw[mO];exact f1,by simpa using f2,by simpa[nA]using f3⟩
           ·have n3:Ad.ownBlock=some bl:=by rw[mO];rfl
            by_cases ri:xs.length+ys.length≤cap
            ·have hmul:(xs.length+ys.length)*g.size≤cap*g.size:=Nat.mul_le_mul_right _ ri;rw[pc]at hmul;have f1:=run_append_room (P:=P) w t type fM fk iw ak bl xs.length cap cur zK ⟨kQ,mM,none⟩ ys.length k8 gR (by rw[jv,bs]) rf (xy lZ) ri (by rw[jv,bs];omega);generalize Sb:(cur.toList.take (xs.length*fk.size)++gR++cur.toList.drop (xs.length*fk.size+gR.length)).toArray=sJ at f1;have iR:(w.setRow bl sJ).heap[bl]? =some (.cells sJ fM (0,0)):=setRow_heap w bl cur sJ fM _ zK;have aq:(fl++gR).length=(xs++ys).length*g.size:=by rw[pa,vf,jv,pa,pc]
             have b1:cur.toList.take (xs.length*fk.size)=fl:=by rw[oU,bs];exact FL
             have kh:sJ.size=cap*g.size:=by rw[←Sb];simp only[List.size_toArray,pa,List.length_take,rV,Array.length_toList];rw[bs];omega
             have oQ:sJ.toList.take ((xs++ys).length*g.size)=fl++gR:=by rw[←Sb,b1];simp only[←aq];rw[List.take_append_of_le_length (e1 _),mY]
             obtain⟨cQ,_,dm⟩:=aI.setRowM (w':=w.setRow bl sJ) ab rfl ep n3 (v':= .slice (some ⟨bl,0,none⟩) (xs.length+ys.length) cap) rfl (xs':=xs++ys) (us:=fl++gR) (.inr (by simp;omega)) rfl rfl rfl (fun j ag=>setRow_other w bl j sJ ag) (setRow_size w bl sJ)
              ⟨aq,.inr ⟨bl,cap,sJ,by simp,Nat.zero_le _,iR,by simpa using ri,K1,kh,oQ⟩⟩ Ep
             replace dm:=dm (by simpa using av);refine lP (v:= .slice (some ⟨bl,0,none⟩) (xs.length+ys.length) cap) (w':=w.setRow bl sJ) (l3 _ _ ?_) (c1 _ _ (ν.withOwn k (xs++ys).length (.slice (some ⟨bl,0,none⟩) (xs.length+ys.length) cap)) ?_)
             ·rw[mO,←oU];exact f1
             ·have:=cQ.put (d:=some d) (by simpa[jc]using U) dm;simpa[eK]using this
            ·refine Bo ?_;obtain⟨v',w',f1,f2,f3⟩:=run_append_arg_grows (P:=P) w t type fM fk z fk.size fk.bytes iw ak hv rfl rfl vi (by rw[bs];exact fq) ⟨bl,0,none⟩ xs.length cap fl (by rw[vf,bs])
              (fun j u ag=>by have:=bt.cells n3 j u ag;exact this) ⟨kQ,mM,none⟩ ys.length k8 gR (by rw[jv,bs]) rf (by omega) mD q7
             exact⟨v',w',by rw[mO,←oU];exact f1,f2,f3⟩
        ·cases aJ
       ·cases aJ
      ·cases aJ
     ·cases aJ
    ·cases he
   ·cases b1
  ·cases aZ
 ·rename_i sz x y t o' iV;simp only[cx,dH]at au;obtain⟨⟨⟨J,U⟩,ao⟩,aZ⟩:=au;subst J;split at U
  ·rename_i f aQ;simp only[dH]at U;simp only[er]at he;generalize Jn:cg st.t x=px at he;unfold qC at he;split at he
   ·rename_i dy k n i sb;split at he
    ·rename_i n' el iY xs ab;split at he
     ·rename_i Bx;obtain⟨rfl,rfl⟩:=Bx;split at he
      ·rename_i q bn;cases he;obtain⟨j6,bL,cn,dp,jU⟩:=av;have rx:=dX aI ao;rw[Jn]at rx;have ly:=dX aI aZ;have uu:=uv ly bL;have ux:=o4 uu;obtain⟨_,ed⟩:=uD aN aQ w;have tN:(a.eval iV).cells.size=sz:=by rw[cn]at ux;simpa using ux
       obtain⟨bl,off,lY,BB,dh,bg,nZ⟩:=aI.storeRow (P:=P) ab rx bn j6 uu (by simpa[tN]using dp) (fun e=>by have:=eO List.length e;simp[tN]at this;omega);refine C9 (w':=w.setRow bl lY) ?_ (c1 _ _ _ nZ);simp only[execOp,Instr.storeAt,BB,Instr.sureAddr,storeVar,ft,fZ,fB,ed,tN,U,ne_eq,not_true_eq_false,if_false,dh]
      ·cases he
     ·cases he
    ·cases he
   ·cases he
  ·cases U
 ·rename_i d key sz el z x t o' iV;simp only[cx,dH,fI]at au;obtain⟨⟨⟨⟨⟨J,U⟩,ao⟩,aZ⟩,b1⟩,c6⟩:=au;subst J;split at ao
  ·rename_i fM aQ;simp only[dH]at ao;subst ao;split at aZ
   ·rename_i g aS;simp only[cx,dH,fI]at aZ;obtain⟨⟨⟨rfl,fq⟩,hby⟩,bf⟩:=aZ;obtain rfl:=MJ bf;have rx:=dX aI b1;have ly:=dX aI c6;simp only[er]at he;split at he
    ·rename_i fb n ad;cases he;obtain⟨RJ,jv⟩:=av;obtain⟨m,rfl⟩:=Int.eq_ofNat_of_zero_le RJ;rw[ad]at rx ly;simp only[a6]at rx ly;obtain⟨fk,cj,bX,ak,aA,bs,dq,ht,hv,qR,qS⟩:=(uG aN aS).ex;obtain⟨eH,iw,eS⟩:=iG aN aQ;obtain rfl:=r6 eS;have mD:m≤lim:=by simp only[lim]at jv⊢;omega
     have q7:fk.bytes*m≤281474976710656:=by have J:fk.bytes*m≤2048*m:=Nat.mul_le_mul_right _ (by omega);simp only[lim]at mD;omega
     obtain⟨adA,acz⟩:=MI w ν qR;obtain⟨w',g1,g2,g3⟩:=run_make_full (P:=P) w w.heap.size t el fk bX fk.size iw ak hv rfl fb fb m q7 (by simp only[maxLen];simp only[lim]at mD;omega) (e1 _);have lg:w'.ownsRow w.heap.size el g.size (.slice (some ⟨w.heap.size,0,none⟩) m m) (List.replicate m g.zero).length (madeCells bX.cells (m*bX.cells.size)).toList:=by rw[bs,←qS]at g2;rw[List.length_replicate,←qS];exact g2
     obtain⟨ep,fe⟩:=aI.newRowM (k:=κ) (xs:=List.replicate m g.zero) (.inl (aI.new _ (tG rfl))) g3 lg (by rw[←qS];exact Tm adA (by omega) (zV acz) m) (by simpa using mD) (dT rfl);simp only[List.length_replicate]at ep fe;simp only[Int.toNat_natCast]at c1;refine lP (v:= .slice (some ⟨w.heap.size,0,none⟩) m m) (w':=w') ?_ (c1 _ _ _ (ep.put (d:=some d) (by simpa[jc]using U) (p:= .row g.size κ m) (fe ⟨_,_,rfl⟩)));simp only[execOp];refine C4 ?_;rw[rx,ly];exact g1
    ·cases he
   ·cases aZ
  ·cases ao
 ·cases au
theorem aiE{P:cy}{bo:List (Nat×du)}(aN:fA P bo=true){C:e2}{st st':bj}{a:Act}{w:World}{ν:bc}(aI:cO C st a w ν){i:dY}{o:Oper}(au:CI C.N bo i o=true)
  {c:Prop} (he:lN st i=some (c,st')) (av:c) {K:Act→World→Prop} {Q:Exit→Act→World→Prop} (c1:∀bh w' bg,cO C st' bh w' bg→K bh w'):o.wp P a w K Q:=by
 have nX:pI st none→fresh st.n st.o (.loc st.n):=fun h=>vz (key:=none) h;have fh:∀j,fresh (st.n+1) st.o j→fresh st.n st.o j∧j≠ .loc st.n:=vA (key:=none);cases i with
 |v d i=>exact jA (κ:= .loc 0) (n':=0) (o₁:=[]) aN aI au (fun h=>by simp[dY.makes]at h) (fun h=>by simp[dY.makes]at h) (by simpa only[lN,er]using he) av c1
 |box d key x=>simp only[lN]at he;cases he;exact jA (κ:=jy st key) (n':=mK st key) (o₁:=mL st key) aN aI au (fun _=>vz av.1) (fun _=>vA) (by simp only[er]) av.2 c1
 |alloc d key z=>simp only[lN]at he;cases he;exact jA (κ:=jy st key) (n':=mK st key) (o₁:=mL st key) aN aI au (fun _=>vz av) (fun _=>vA) (by simp only[er]) trivial c1
 |mks d key sz el z x=>
  simp only[lN]at he;split at he
  ·rename_i fb n ad;cases he;exact jA (κ:=jy st key) (n':=mK st key) (o₁:=mL st key) aN aI au (fun _=>vz av.1) (fun _=>vA) (by simp only[er,ad]) av.2 c1
  ·cases he
 |storeE sz x y=>exact jA (κ:= .loc 0) (n':=0) (o₁:=[]) aN aI au (fun h=>by simp[dY.makes]at h) (fun h=>by simp[dY.makes]at h) (by simpa only[lN,er]using he) av c1
 |store sz x y=>exact jA (κ:= .loc 0) (n':=0) (o₁:=[]) aN aI au (fun h=>by simp[dY.makes]at h) (fun h=>by simp[dY.makes]at h) (by simpa only[lN,er]using he) av c1
 |bsl d sz el xs=>simp only[lN]at he;cases he;exact jA (κ:= .loc st.n) (n':=st.n+1) (o₁:=st.o) aN aI au (fun _=>nX av.1) (fun _=>fh) (by simp only[er]) av.2 c1
 |bslm d key sz el xs=>simp only[lN]at he;cases he;exact jA (κ:=jy st key) (n':=mK st key) (o₁:=mL st key) aN aI au (fun _=>vz av.1) (fun _=>vA) (by simp only[er]) av.2 c1
 |appm d key sz el x y=>
  simp only[lN]at he;split at he
  ·rename_i ys aJ;cases he;exact jA (κ:=jy st key) (n':=mK st key) (o₁:=mL st key) aN aI au (fun _=>vz av.1) (fun _=>vA) (by simp only[er,aJ]) av.2 c1
  ·rename_i k xs ys aJ;cases he;refine jA (κ:= .loc 0) (n':=0) (o₁:=[]) aN aI au (fun h=>?_) (fun h=>?_) (by simp only[er,aJ]) av c1;all_goals
    exfalso
    simp only[dY.makes]at h
    split at h
    ·rename_i ad
     unfold r3 at aJ
     rw[ad]at aJ
     split at aJ
     ·split at aJ<;>cases aJ
     ·rename_i J _;cases J
     ·cases aJ
    ·cases h
  ·cases he
 |mkmap d key=>simp only[lN]at he;cases he;exact jA (κ:=jy st key) (n':=mK st key) (o₁:=mL st key) aN aI au (fun _=>vz av) (fun _=>vA) (by simp only[er]) trivial c1
 |mput ck x k v=>exact jA (κ:= .loc 0) (n':=0) (o₁:=[]) aN aI au (fun h=>by simp[dY.makes]at h) (fun h=>by simp[dY.makes]at h) (by simpa only[lN,er]using he) av c1
 |range d key x=>
  simp only[lN]at he;split at he
  ·rename_i m ad;split at he
   ·rename_i cs da;split at he
    ·rename_i cs' hm;cases he;exact jA (κ:=jy st key) (n':=mK st key) (o₁:=mL st key) aN aI au (fun _=>vz av) (fun _=>vA) (by simp only[er,ad,da,hm]) trivial c1
    ·cases he
   ·cases he
  ·cases he
 |app d sz el x y=>
  simp only[lN]at he;split at he
  ·rename_i dy tag xs iY kG ys ad aG;split at he
   ·rename_i e6;split at he
    ·rename_i k;split at he
     ·rename_i ow ab;cases he;refine jA (κ:= .loc 0) (n':=0) (o₁:=[]) aN aI au (fun h=>by simp[dY.makes,ad]at h) (fun h=>by simp[dY.makes,ad]at h) ?_ av c1;simp only[er,ad,aG,e6,and_self,if_true,ab]
     ·cases he
    ·cases he;refine jA (κ:= .loc st.n) (n':=st.n+1) (o₁:=st.o) aN aI au (fun _=>nX av.1) (fun _=>fh) ?_ av.2 c1;simp only[er,ad,aG,e6,and_self,if_true]
    ·cases he
   ·cases he
  ·cases he
structure cF where
 b:List (aH×List ai)
 e:List (aH×fv)
def e8(ν:bc)(s:cF)(bl:Nat):Prop:=(∃k,(look k s.b).isSome∧ν.bx k=some bl)∨(∃g n v,(look g s.e).isSome∧ν.ow g=some (n,v)∧v.ownBlock=some bl)
def nO(ν:bc)(s:cF):Prop:= ∀k,(look k s.b=none→ν.bx k=none)∧(look k s.e=none→ν.ow k=none)∧∀j b,¬ν.tr k j b
def cR(s:cF):List aH:=s.b.map (·.1)++s.e.map (·.1)
def ic(s:cF):Prop:=(∀m,look (.loc m) s.b=none)∧(∀m,look (.loc m) s.e=none)
def wb(P:cy)(f:FuncId)(a7:Array Value)(w:World)(R:Ending→World→Prop):Prop:=((∃fn,P.funcs[f]? =some fn∧fn.body.isSome=true∧(fn.name== "runtime.NumGoroutine")=false)∧Calls P f a7 w R)∨ ∃v w',(callFunc f a7).run P w= .ok (.value v) w'∧R (.returned v) w'
def bB(P:cy)(f:FuncId)(args:List ai)(s:cF)(Q:ai→cF→Prop):Prop:=
 ∀(w:World) (ν:bc) (a7:Array Value),Good (e8 ν s) w ν s.b s.e→nO ν s→cJ w ν args a7.toList→
  wb P f a7 w fun e w'=> ∃v r ah bg,e= .returned v∧Q r ah∧a6 w' bg r v∧Good (fun bl=>e8 ν s bl∨w.heap.size≤bl) w' bg ah.b ah.e∧nO bg ah∧ic ah∧pd ⟨w,ν,e8 ν s,0,cR s⟩ w' bg
def D3(κ:Option Nat)(ν:bc)(s:cF):Prop:= ∀k,(look k s.b=none→ν.bx k=none)∧(look k s.e=none→ν.ow k=none)∧∀j b,ν.tr k j b→∃m,κ=some m∧k= .loc m
theorem nO.k{ν:bc}{s:cF}(h:nO ν s):D3 none ν s:=fun k=>⟨(h k).1,(h k).2.1,fun j b ae=>absurd ae ((h k).2.2 j b)⟩
def G0(P:cy)(f:FuncId)(κ:Nat)(args:List ai)(s:cF)(Q:ai→cF→Prop):Prop:=
 ∀(w:World) (ν:bc) (a7:Array Value),Good (e8 ν s) w ν s.b s.e→nO ν s→cJ w ν args a7.toList→
  wb P f a7 w fun e w'=> ∃v r ah bg,e= .returned v∧Q r ah∧a6 w' bg r v∧Good (fun bl=>e8 ν s bl∨w.heap.size≤bl) w' bg ah.b ah.e∧D3 (some κ) bg ah∧ic ah∧pd ⟨w,ν,e8 ν s,0,cR s⟩ w' bg
def b7(P:cy)(f:FuncId)(args:List ai)(r:ai):Prop:=bB P f args ⟨[],[]⟩ fun eD ah=>eD=r∧ah=⟨[],[]⟩
theorem sD{α:Type}{k:aH}{x:α}:∀{l:List (aH×α)},look k l=some x→(k,x)∈l
 |[],h=>by simp[look]at h
 |(i,y)::r,h=>by
  simp only[look]at h;split at h
  ·rename_i e;subst e;cases h;simp
  ·exact mX _ (sD h)
theorem sK{s:cF}{k:aH}(h:(look k s.b).isSome∨(look k s.e).isSome):k∈cR s:=by
 unfold cR;rcases h with h|h<;>obtain⟨x,ad⟩:=fm.1 h<;>have:=sD ad
 ·exact List.mem_append_left _ (hH.2 ⟨_,this,rfl⟩)
 ·exact List.mem_append_right _ (hH.2 ⟨_,this,rfl⟩)
section
open Classical
noncomputable def bc.cut(ν:bc)(S:aH→Prop):bc:={A:=ν.A,bx:=fun k=>if S k then ν.bx k else none,ow:=fun k=>if S k then ν.ow k else none,tr:=fun k j b=>S k∧ν.tr k j b}
theorem bc.cut_bx{ν:bc}{S:aH→Prop}{k:aH}(h:S k):(ν.cut S).bx k=ν.bx k:=by simp[bc.cut,h]
theorem bc.cut_ow{ν:bc}{S:aH→Prop}{k:aH}(h:S k):(ν.cut S).ow k=ν.ow k:=by simp[bc.cut,h]
theorem bc.cut_no{ν:bc}{S:aH→Prop}{k:aH}(h:¬S k):(ν.cut S).bx k=none∧(ν.cut S).ow k=none∧∀j b,¬(ν.cut S).tr k j b:=by simp[bc.cut,h]
theorem bc.cut_some{ν:bc}{S:aH→Prop}{k:aH}{b:Nat}(h:(ν.cut S).bx k=some b):S k∧ν.bx k=some b:=by
 by_cases af:S k
 ·exact⟨af,by rw[bc.cut_bx af]at h;exact h⟩
 ·rw[(bc.cut_no af).1]at h;cases h
theorem bc.cut_someO{ν:bc}{S:aH→Prop}{k:aH}{b:Nat×Value}(h:(ν.cut S).ow k=some b):S k∧ν.ow k=some b:=by
 by_cases af:S k
 ·exact⟨af,by rw[bc.cut_ow af]at h;exact h⟩
 ·rw[(bc.cut_no af).2.1]at h;cases h
theorem nE.cut(S:aH→Prop)(w:World)(ν:bc):nE S w ν w (ν.cut S):=⟨fun _ _ h=>⟨h,rfl⟩,fun k b ab h=>by rw[bc.cut_bx ab];exact h,fun g n u aS h=>⟨n,u,by rw[bc.cut_ow aS];exact h,.inl ⟨rfl,rfl⟩⟩,fun _ _ _=>rfl,fun _ _ _ ab h=>⟨ab,h⟩⟩
end
def hQ(S:aH→Prop)(b0 b:List (aH×List ai)):Prop:= ∀k cs,look k b0=some cs→look k b=some cs∧S k∧aO S cs
def mR(S:aH→Prop)(fD e:List (aH×fv)):Prop:= ∀k o,look k fD=some o→look k e=some o∧S k∧eb S o
theorem Good.cut{pr Cr:Nat→Prop}{w:World}{ν:bc}{b b0:List (aH×List ai)}{e fD:List (aH×fv)}(h:Good pr w ν b e){S:aH→Prop}(ae:hQ S b0 b)(he:mR S fD e)
  (RU:∀bl,pr bl→(∃k,(look k b0).isSome∧(ν.cut S).bx k=some bl)∨(∃g n v,(look g fD).isSome∧(ν.cut S).ow g=some (n,v)∧v.ownBlock=some bl)→Cr bl):Good Cr w (ν.cut S) b0 fD:=by
 have Eo:∀k,(look k b0).isSome→(look k b).isSome∧S k:=fun k ab=>by obtain⟨cs,da⟩:=fm.1 ab;have:=ae k cs da;exact⟨by simp[this.1],this.2.1⟩
 have Es:∀k,(look k fD).isSome→(look k e).isSome∧S k:=fun k ab=>by obtain⟨cs,da⟩:=fm.1 ab;have:=he k cs da;exact⟨by simp[this.1],this.2.1⟩
 refine⟨h.alt,fun k cs ab=>?_,fun k bD bl J U ao aZ=>?_,fun g o aS=>?_,fun g eX n n' v v' bl J U ao aZ b1 c6=>?_,fun g k n v bl J U ao aZ b1=>?_,fun k=>?_,fun bl aN k j ag=>?_⟩
 ·obtain⟨g1,g2,g3⟩:=ae k cs ab;obtain⟨bl,us,el,f1,f2,f3,f4,f5⟩:=h.box k cs g1;have ka:(ν.cut S).bx k=some bl:=by rw[bc.cut_bx g2];exact f1
  exact⟨bl,us,el,ka,RU bl f2 (.inl ⟨k,by simp[ab],ka⟩),f3,f4,Vp (nE.cut S w ν) g3 f5⟩
 ·obtain⟨bp,a2⟩:=Eo k J;obtain⟨b8,b3⟩:=Eo bD U;exact h.inj k bD bl bp b8 (bc.cut_some ao).2 (bc.cut_some aZ).2
 ·obtain⟨g1,g2,g3⟩:=he g o aS;obtain⟨v,us,f1,f2,f3,f4⟩:=h.own g o g1;have Bz:(ν.cut S).ow g=some (o.n,v):=by rw[bc.cut_ow g2];exact f1
  exact⟨v,us,Bz,f2,fun bl fp=>⟨RU bl (f3 bl fp).1 (.inr ⟨g,o.n,v,by simp[aS],Bz,fp⟩),(f3 bl fp).2⟩,
   fun xs ad=>⟨(f4 xs ad).1,F7 (nE.cut S w ν) _ _ _ (g3 xs ad) (f4 xs ad).2.1,(f4 xs ad).2.2⟩⟩
 ·obtain⟨bp,a2⟩:=Es g J;obtain⟨b8,b3⟩:=Es eX U;exact h.oinj g eX n n' v v' bl bp b8 (bc.cut_someO ao).2 (bc.cut_someO aZ).2 b1 c6
 ·obtain⟨bp,a2⟩:=Es g J;obtain⟨b8,b3⟩:=Eo k U;exact h.obx g k n v bl bp b8 (bc.cut_someO ao).2 aZ (bc.cut_some b1).2
 ·by_cases af:S k
  ·rw[bc.cut_bx af,bc.cut_ow af];exact h.one k
  ·exact .inl (bc.cut_no af).1
 ·refine h.otr bl ?_ k j ag.2;rcases aN with⟨bD,bp,a2⟩|⟨g,n,v,bp,a2,a3⟩
  ·exact .inl ⟨bD,(Eo bD bp).1,(bc.cut_some a2).2⟩
  ·exact .inr ⟨g,n,v,(Es g bp).1,(bc.cut_someO a2).2,a3⟩
structure im (ob:List aH) (st st':bj):Prop where
 t:∀x∈st'.t,get x.1 st.t=x.2∧aF (fun k=> ¬fresh st'.n st'.o k) x.2
 b:hQ (fun k=> ¬fresh st'.n st'.o k) st'.b st.b
 e:mR (fun k=> ¬fresh st'.n st'.o k) st'.e st.e
 o:∀m∈ob,m∈st'.o
theorem QJ:∀(i:Nat) (l:List (Nat×ai)),get i l= .junk∨(i,get i l)∈l
 |_,[]=>.inl rfl
 |i,(j,p)::r=>by
  by_cases h:j=i
  ·subst h;right;simp[get]
  ·rcases QJ i r with J|J
   ·left;simp[get,h,J]
   ·right;simp[get,h];right;exact J
theorem cO.weaker{C:e2}{st st':bj}{a:Act}{w:World}{ν:bc}(h:cO C st a w ν)(hw:im C.ob st st'):cO C st' a w (ν.cut fun k=> ¬fresh st'.n st'.o k):=by
 refine⟨h.good.cut hw.b hw.e (fun bl bF _=>bF),⟨h.fr.os,h.fr.tape,h.fr.output,h.fr.size,h.fr.block,h.fr.keep,h.fr.fresh,fun n b ae=>?_,h.fr.obn,fun m n u hm=>?_,h.fr.obr,fun k j bD dx b J U=>h.fr.trd k j bD dx b J.2 U.2,fun k j b ae=>h.fr.trb k j b ae.2,fun k j b ae=>?_,h.fr.sh⟩,h.defers,h.size,fun i=>?_,fun k ab=>bc.cut_no (fun ar=>ar ab)⟩
 ·rw[bc.cut_bx (fun cP=>cP.2 (hw.o _ (h.fr.obn n b ae)))];exact h.fr.obj n b ae
 ·rw[bc.cut_ow (fun cP=>cP.2 (hw.o _ (h.fr.obr m n u hm)))];exact h.fr.row m n u hm
 ·rw[bc.cut_bx ae.1,bc.cut_ow ae.1];exact h.fr.trn k j b ae.2
 ·rcases QJ i st'.t with ag|hm
  ·rw[ag];simp[a6]
  ·obtain⟨J,U⟩:=hw.t _ hm;simp only at J;have:=h.slot i;rw[J]at this;exact j2 (nE.cut _ w ν) _ _ U this
mutual
def dO:ai→ai
 | .slice sz _ xs=>.slice sz .no (df xs)
 | .agg cs=>.agg (df cs)
 | .tuple a7=>.tuple (df a7)
 | .eptr x=>.eptr (dO x)
 | .iface t x=>.iface t (dO x)
 | .func f dg=>.func f (df dg)
 |p=>p
def df:List ai→List ai
 |[]=>[]
 |x::xs=>dO x::df xs
end
theorem rN:∀xs,(df xs).length=xs.length
 |[]=>rfl
 |x::xs=>by simp[df,rN xs]
mutual
theorem Iy{t:Bool}{w:World}{A:Nat→Nat→Prop}:∀(p:ai) (F:Nat→Prop) (v:Value),fS t w A F p v→fS t w A F (dO p) v
 | .int _ _,_,_,h=>by simpa only[dO]using h
 | .bool _,_,_,h=>by simpa only[dO]using h
 | .str _,_,_,h=>by simpa only[dO]using h
 | .slice sz tag xs,F,v,h=>by
  simp only[fS,dO]at h⊢;obtain⟨a,cap,J,U,ao,aZ⟩:=h;refine⟨a,cap,by rw[rN];exact J,by rw[rN];exact U,by rw[rN];exact ao,?_⟩;rcases aZ with rfl|⟨b,off,us,G,ak,aA,bs,dq,ht,hv⟩
  ·exact .inl rfl
  ·exact .inr ⟨b,off,us,G,ak,aA,bs,dq,ht,Qu sz xs G us hv⟩
 | .agg cs,F,v,h=>by simp only[fS,dO]at h⊢;obtain⟨us,J,U⟩:=h;exact⟨us,J,Qv cs F _ U⟩
 | .junk,_,_,h=>by simp[fS]at h
 | .ptr _ _,_,_,h=>by simp[fS]at h
 | .eptr _,_,_,h=>by simp[fS]at h
 | .iface _ _,_,_,h=>by simp[fS]at h
 | .nilp,_,_,h=>by simp[fS]at h
 | .tuple _,_,_,h=>by simp[fS]at h
 | .func _ _,_,_,h=>by simp[fS]at h
 | .gmap _,_,_,h=>by simp[fS]at h
 | .row _ _ _,_,_,h=>by simp[fS]at h
 | .rptr _ _ _ _ _,_,_,h=>by simp[fS]at h
 | .hdm _ _,_,_,h=>by simp[fS]at h
 | .hdi _ _ _,_,_,h=>by simp[fS]at h
 | .cst _,_,_,h=>by simp[fS]at h
theorem Qv{t:Bool}{w:World}{A:Nat→Nat→Prop}:∀(cs:List ai) (F:Nat→Prop) (us:List Value),tA t w A F cs us→tA t w A F (df cs) us
 |[],_,_,h=>by simpa only[df]using h
 |c::cs,F,us,h=>by simp only[tA,df]at h⊢;obtain⟨u,b9,hR,h6,J,U,⟨b1,c6⟩,dP⟩:=h;exact⟨u,b9,hR,h6,J,U,⟨Iy c hR u b1,c6⟩,Qv cs h6 b9 dP⟩
theorem Qu{t:Bool}{w:World}{A:Nat→Nat→Prop}(sz:Nat):∀(cs:List ai) (F:Nat→Prop) (us:List Value),tz t w A F sz cs us→tz t w A F sz (df cs) us
 |[],_,_,h=>by simpa only[df]using h
 |c::cs,F,us,h=>by simp only[tz,df]at h⊢;obtain⟨u,b9,hR,h6,J,U,⟨b1,c6⟩,dP⟩:=h;exact⟨u,b9,hR,h6,J,U,⟨Iy c hR u b1,c6⟩,Qu sz cs h6 b9 dP⟩
end
theorem Qt{t:Bool}{w:World}{A:Nat→Nat→Prop}{F:Nat→Prop}{sz:Nat}{tag:Az}(kG:Az){xs:List ai}(v:Value)(h:fS t w A F (.slice sz tag xs) v):fS t w A F (.slice sz kG (df xs)) v:=by have:=Iy _ F v h;simp only[dO,fS]at this⊢;exact this
mutual
theorem kF{w:World}{ν:bc}:∀(p:ai) (v:Value),a6 w ν p v→a6 w ν (dO p) v
 | .junk,_,h=>by simpa only[dO]using h
 | .int k n,_,h=>by simpa only[dO]using h
 | .bool b,_,h=>by simpa only[dO]using h
 | .str s,_,h=>by simpa only[dO]using h
 | .slice sz tag xs,v,h=>by
  simp only[a6,dO]at h⊢;obtain⟨⟨a,cap,J,U,ao,aZ⟩,b1,c6⟩:=h;refine⟨⟨a,cap,by rw[rN];exact J,by rw[rN];exact U,by rw[rN];exact ao,?_⟩,fun e=>(by cases e),fun g e=>(by cases e),fun _ _ e=>(by cases e),fun _ e=>(by cases e)⟩;rcases aZ with rfl|⟨b,off,us,aZ,c6,dP⟩
  ·exact .inl rfl
  ·exact .inr ⟨b,off,us,aZ,c6,Vs sz xs us dP⟩
 | .agg cs,v,h=>by simp only[a6,dO]at h⊢;obtain⟨us,J,U⟩:=h;exact⟨us,J,Vw cs _ U⟩
 | .ptr key off,v,h=>by simpa only[dO]using h
 | .iface t x,v,h=>by simp only[a6,dO]at h⊢;obtain⟨u,J,U⟩:=h;exact⟨u,J,kF x u U⟩
 | .eptr x,v,h=>by simp only[a6,dO]at h⊢;obtain⟨b,off,u,J,U,ao⟩:=h;exact⟨b,off,u,J,kF x u U,ao⟩
 | .nilp,_,h=>by simpa only[dO]using h
 | .tuple a7,v,h=>by simp only[a6,dO]at h⊢;obtain⟨us,J,U⟩:=h;exact⟨us,J,Gd a7 _ U⟩
 | .func f dg,v,h=>by simp only[a6,dO]at h⊢;obtain⟨us,J,U⟩:=h;exact⟨us,J,Gd dg _ U⟩
 | .gmap key,v,h=>by simpa only[dO]using h
 | .row _ _ _,v,h=>by simpa only[dO]using h
 | .rptr _ _ _ _ _,v,h=>by simpa only[dO]using h
 | .cst _,v,h=>by simpa only[dO]using h
theorem Vw{w:World}{ν:bc}:∀(cs:List ai) (us:List Value),dd w ν cs us→dd w ν (df cs) us
 |[],_,h=>by simpa only[df]using h
 |c::cs,us,h=>by simp only[dd,df]at h⊢;obtain⟨u,b9,J,U,ao⟩:=h;exact⟨u,b9,J,⟨kF c u U.1,U.2⟩,Vw cs b9 ao⟩
theorem Gd{w:World}{ν:bc}:∀(cs:List ai) (us:List Value),cJ w ν cs us→cJ w ν (df cs) us
 |[],_,h=>by simpa only[df]using h
 |c::cs,us,h=>by simp only[cJ,df]at h⊢;obtain⟨u,b9,J,U,ao⟩:=h;exact⟨u,b9,J,kF c u U,Gd cs b9 ao⟩
theorem Vs{w:World}{ν:bc}(sz:Nat):∀(xs:List ai) (us:List Value),dw w ν sz xs us→dw w ν sz (df xs) us
 |[],_,h=>by simpa only[df]using h
 |x::xs,us,h=>by simp only[dw,df]at h⊢;obtain⟨u,b9,J,⟨U,ao,aZ⟩,b1⟩:=h;exact⟨u,b9,J,⟨kF x u U,ao,aZ⟩,Vs sz xs b9 b1⟩
end
def inObs(s:cF)(k:aH):Prop:=(look k s.b).isSome=true∨(look k s.e).isSome=true
def bR{α β:Type}(s:List (aH×β)):List (aH×α)→List (aH×α)
 |[]=>[]
 |(k,x)::r=>match look k s with
  |some _=>bR s r
  |none=>(k,x)::bR s r
theorem ub{α β:Type}(s:List (aH×β))(k:aH):∀l:List (aH×α),look k (bR s l)=if(look k s).isSome then none else look k l
 |[]=>by simp[bR,look]
 |(i,x)::r=>by
  simp only[bR];by_cases e:i=k
  ·subst e;cases h:look i s with
   |some y=>simp[ub s i r,h]
   |none=>simp[look]
  ·cases h:look i s with
   |some y=>simp[ub s k r,look,e]
   |none=>simp[look,e,ub s k r]
theorem xf{α:Type}(k:aH):∀l aX:List (aH×α),look k (l++aX)=match look k l with|some x=>some x|none=>look k aX
 |[],aX=>by simp[look]
 |(i,x)::r,aX=>by
  by_cases e:i=k
  ·simp[look,e]
  ·simp[look,e,xf k r aX]
def after(st:bj)(s ah:cF)(d:Option Nat)(r:ai):bj:={t:=eK d r st.t,b:=bR s.b st.b++ah.b,e:=bR s.e st.e++ah.e,n:=st.n,o:=st.o++cR ah}
section
open Classical
noncomputable def bc.join(ν bg:bc)(s ah:cF):bc:={A:=bg.A,bx:=fun k=>if(look k s.b).isSome∨(look k ah.b).isSome then bg.bx k else ν.bx k,ow:=fun k=>if(look k s.e).isSome∨(look k ah.e).isSome then bg.ow k else ν.ow k,tr:=fun k j b=>ν.tr k j b∨bg.tr k j b}
end
theorem cO.callK{C:e2}{st:bj}{a:Act}{w w':World}{ν bg:bc}(h:cO C st a w ν){s ah:cF}(ae:hQ (inObs s) s.b st.b)(he:mR (inObs s) s.e st.e)(tL:ic s)
  (aS:Good (fun bl=>e8 (ν.cut (inObs s)) s bl∨w.heap.size≤bl) w' bg ah.b ah.e) {κ:Option Nat} (ad:D3 κ bg ah) (ad0:∀m,κ=some m→ν.bx (.loc m)=none∧ν.ow (.loc m)=none∧∀j b,¬ν.tr (.loc m) j b) {n':Nat} {o':List aH} (dT:∀k,fresh n' o' k→fresh st.n (st.o++cR ah) k∧∀m,κ=some m→k≠ .loc m) (sr:ic ah) (aQ:pd ⟨w,ν.cut (inObs s),e8 (ν.cut (inObs s)) s,0,cR s⟩ w' bg)
  (Jh:∀m,(look (.obj m) ah.b).isSome→(look (.obj m) s.b).isSome∨ .obj m∉st.o) (cC:∀m,(look (.obj m) ah.e).isSome→(look (.obj m) s.e).isSome∨ .obj m∉st.o) (d:Option Nat) (aK:jc C.N d=true) {r:ai} {v:Value} (aI:a6 w' bg r v):
  cO C {after st s ah d r with n:=n',o:=o'} (a.put d v) w' (ν.join bg s ah):=by
 have ql:∀k,(look k s.b).isSome→(look k st.b).isSome:=fun k ab=>by obtain⟨cs,da⟩:=fm.1 ab;simp[(ae k cs da).1]
 have n1:∀k,(look k s.e).isSome→(look k st.e).isSome:=fun k ab=>by obtain⟨cs,da⟩:=fm.1 ab;simp[(he k cs da).1]
 have adi:∀k,(look k ah.b).isSome→¬(look k s.b).isSome→ν.bx k=none:=fun k ab ar=>by
  cases k with
  |loc m=>rw[sr.1 m]at ab;cases ab
  |obj m=>exact(h.new (.obj m) ⟨trivial,(Jh m ab).resolve_left ar⟩).1
 have adj:∀k,(look k ah.e).isSome→¬(look k s.e).isSome→ν.ow k=none:=fun k ab ar=>by
  cases k with
  |loc m=>rw[sr.2 m]at ab;cases ab
  |obj m=>exact(h.new (.obj m) ⟨trivial,(cC m ab).resolve_left ar⟩).2.1
 have aev:∀k,(look k s.b).isSome→(ν.join bg s ah).bx k=bg.bx k:=fun k ab=>by simp[bc.join,ab]
 have Sw:∀k,(look k ah.b).isSome→(ν.join bg s ah).bx k=bg.bx k:=fun k ab=>by simp[bc.join,ab]
 have Sx:∀k,ν.bx k≠none→¬(look k s.b).isSome→(ν.join bg s ah).bx k=ν.bx k:=fun k J U=>by have ao:¬(look k ah.b).isSome:=fun ao=>J (adi k ao U);simp[bc.join,U,ao]
 have aew:∀k,(look k s.e).isSome→(ν.join bg s ah).ow k=bg.ow k:=fun k ab=>by simp[bc.join,ab]
 have JS:∀k,(look k ah.e).isSome→(ν.join bg s ah).ow k=bg.ow k:=fun k ab=>by simp[bc.join,ab]
 have JT:∀k,ν.ow k≠none→¬(look k s.e).isSome→(ν.join bg s ah).ow k=ν.ow k:=fun k J U=>by have ao:¬(look k ah.e).isSome:=fun ao=>J (adj k ao U);simp[bc.join,U,ao]
 have WU:∀k b,bg.bx k=some b→(look k ah.b).isSome:=fun k b ab=>by
  cases aq:look k ah.b with
  |some _=>rfl
  |none=>rw[(ad k).1 aq]at ab;cases ab
 have WV:∀k b,bg.ow k=some b→(look k ah.e).isSome:=fun k b ab=>by
  cases aq:look k ah.e with
  |some _=>rfl
  |none=>rw[(ad k).2.1 aq]at ab;cases ab
 have au:k5 w ν w' (ν.join bg s ah):=by
  refine⟨fun b o bd=>aQ.keep b o bd,fun k b _ ab=>?_,fun g n u _ aS=>?_,fun b o bd=>aQ.sh b o bd,fun _ _ _ _ h=>.inl h⟩
  ·by_cases af:(look k s.b).isSome
   ·rw[aev k af];cases k with
    |loc m=>rw[tL.1 m]at af;cases af
    |obj m=>exact aQ.obj m b (by rw[bc.cut_bx (.inl af)];exact ab)
   ·rw[Sx k (by rw[ab];simp) af];exact ab
  ·by_cases af:(look g s.e).isSome
   ·rw[aew g af];cases g with
    |loc m=>rw[tL.2 m]at af;cases af
    |obj m=>exact aQ.row m n u (by rw[bc.cut_ow (.inr af)];exact aS)
   ·rw[JT g (by rw[aS];simp) af];exact⟨n,u,aS,.inl ⟨rfl,rfl⟩⟩
 have hA:k5 w' bg w' (ν.join bg s ah):=⟨fun b o bd=>⟨bd,rfl⟩,fun k b _ ab=>by rw[Sw k (WU k b ab)];exact ab,fun g n u _ ab=>⟨n,u,by rw[JS g (WV g _ ab)];exact ab,.inl ⟨rfl,rfl⟩⟩,fun _ _ _=>rfl,fun _ _ _ _ h=>.inr h⟩
 have pw:∀bl,e8 (ν.cut (inObs s)) s bl→C.pr bl∧bl<w.heap.size:=by
  intro bl fp;rcases fp with⟨k,J,U⟩|⟨g,n,u,J,U,ao⟩
  ·have aZ:=(bc.cut_some U).2;obtain⟨cs,da⟩:=fm.1 (ql k J);obtain⟨h8,us,el,g1,g2,_⟩:=h.good.box k cs da;rw[aZ]at g1;cases g1;exact⟨g2,h.good.boxLt da aZ⟩
  ·have aZ:=(bc.cut_someO U).2;obtain⟨o,EG⟩:=fm.1 (n1 g J);obtain⟨v',us,g1,g2,g3,_⟩:=h.good.own g o EG;rw[aZ]at g1;cases g1;exact⟨(g3 bl ao).1,h.good.ownLt EG aZ ao⟩
 have RV:∀bl,e8 (ν.cut (inObs s)) s bl∨w.heap.size≤bl→C.pr bl:=fun bl fp=>by
  rcases fp with fp|fp
  ·exact(pw bl fp).1
  ·exact .inr (ji h.fr.size fp)
 have adG:∀k cs bl,look k st.b=some cs→¬(look k s.b).isSome→ν.bx k=some bl→¬e8 (ν.cut (inObs s)) s bl:=by
  intro k cs bl J U ao aZ;rcases aZ with⟨bD,bp,a2⟩|⟨g,n,u,bp,a2,a3⟩
  ·have:=h.good.inj k bD bl (by simp[J]) (ql bD bp) ao (bc.cut_some a2).2;subst this;exact U bp
  ·exact h.good.obx g k n u bl (n1 g bp) (by simp[J]) (bc.cut_someO a2).2 a3 ao
 have adH:∀g o n u bl,look g st.e=some o→¬(look g s.e).isSome→ν.ow g=some (n,u)→u.ownBlock=some bl→¬e8 (ν.cut (inObs s)) s bl:=by
  intro g o n u bl J U ao aZ b1;rcases b1 with⟨bD,bp,a2⟩|⟨eX,n',e0,bp,a2,a3⟩
  ·exact h.good.obx g bD n u bl (by simp[J]) (ql bD bp) ao aZ (bc.cut_some a2).2
  ·have:=h.good.oinj g eX n n' u e0 bl (by simp[J]) (n1 eX bp) ao (bc.cut_someO a2).2 aZ a3;subst this;exact U bp
 have Pl:∀k cs,look k (bR s.b st.b++ah.b)=some cs→(¬(look k s.b).isSome∧look k st.b=some cs)∨look k ah.b=some cs:=by
  intro k cs ab;rw[xf,ub]at ab;by_cases af:(look k s.b).isSome
  ·simp only[af,if_true]at ab;exact .inr ab
  ·simp only[af]at ab;cases aq:look k st.b with
   |some x=>simp[aq]at ab;subst ab;exact .inl ⟨af,rfl⟩
   |none=>simp[aq]at ab;exact .inr ab
 have Pm:∀k cs,look k (bR s.e st.e++ah.e)=some cs→(¬(look k s.e).isSome∧look k st.e=some cs)∨look k ah.e=some cs:=by
  intro k cs ab;rw[xf,ub]at ab;by_cases af:(look k s.e).isSome
  ·simp only[af,if_true]at ab;exact .inr ab
  ·simp only[af]at ab;cases aq:look k st.e with
   |some x=>simp[aq]at ab;subst ab;exact .inl ⟨af,rfl⟩
   |none=>simp[aq]at ab;exact .inr ab
 have z6:∀bl,e8 (ν.cut (inObs s)) s bl∨w.heap.size≤bl→∀h8,h8<w.heap.size→¬e8 (ν.cut (inObs s)) s h8→bl≠h8:=by
  intro bl J h8 U ao e;subst e;rcases J with J|J
  ·exact ao J
  ·omega
 have JZ:∀bl,bl<w.heap.size→¬e8 (ν.cut (inObs s)) s bl→w'.heap[bl]? =w.heap[bl]?:=fun bl J U=>aQ.block bl J U;have isB:∀k bl,(look k (bR s.b st.b++ah.b)).isSome→(ν.join bg s ah).bx k=some bl→(¬(look k s.b).isSome∧(look k st.b).isSome∧ν.bx k=some bl)∨((look k ah.b).isSome∧bg.bx k=some bl):=by
  intro k bl ab ka;obtain⟨cs,da⟩:=fm.1 ab;rcases Pl k cs da with⟨J,U⟩|J
  ·obtain⟨h8,us,el,g1,_⟩:=h.good.box k cs U;rw[Sx k (by rw[g1];simp) J]at ka;exact .inl ⟨J,by simp[U],ka⟩
  ·rw[Sw k (by simp[J])]at ka;exact .inr ⟨by simp[J],ka⟩
 have E3:∀k x,(look k (bR s.e st.e++ah.e)).isSome→(ν.join bg s ah).ow k=some x→(¬(look k s.e).isSome∧(look k st.e).isSome∧ν.ow k=some x)∨((look k ah.e).isSome∧bg.ow k=some x):=by
  intro k x ab ka;obtain⟨cs,da⟩:=fm.1 ab;rcases Pm k cs da with⟨J,U⟩|J
  ·obtain⟨v',us,g1,_⟩:=h.good.own k cs U;rw[JT k (by rw[g1];simp) J]at ka;exact .inl ⟨J,by simp[U],ka⟩
  ·rw[JS k (by simp[J])]at ka;exact .inr ⟨by simp[J],ka⟩
 have AI:∀k bl,¬(look k s.b).isSome→(look k st.b).isSome→ν.bx k=some bl→bl<w.heap.size∧¬e8 (ν.cut (inObs s)) s bl:=by intro k bl J U ao;obtain⟨cs,da⟩:=fm.1 U;exact⟨h.good.boxLt da ao,adG k cs bl da J ao⟩
 have xE:∀k n u bl,¬(look k s.e).isSome→(look k st.e).isSome→ν.ow k=some (n,u)→u.ownBlock=some bl→bl<w.heap.size∧¬e8 (ν.cut (inObs s)) s bl:=by intro k n u bl J U ao aZ;obtain⟨cs,da⟩:=fm.1 U;exact⟨h.good.ownLt da ao aZ,adH k cs n u bl da J ao aZ⟩
 have Dx:∀k bl,(look k ah.b).isSome→bg.bx k=some bl→e8 (ν.cut (inObs s)) s bl∨w.heap.size≤bl:=by intro k bl J U;obtain⟨cs,da⟩:=fm.1 J;obtain⟨h8,us,el,g1,g2,_⟩:=aS.box k cs da;rw[U]at g1;cases g1;exact g2
 have Gm:∀k n u bl,(look k ah.e).isSome→bg.ow k=some (n,u)→u.ownBlock=some bl→e8 (ν.cut (inObs s)) s bl∨w.heap.size≤bl:=by intro k n u bl J U ao;obtain⟨cs,da⟩:=fm.1 J;obtain⟨v',us,g1,g2,g3,_⟩:=aS.own k cs da;rw[U]at g1;cases g1;exact(g3 bl ao).1
 have bd:∀bl o,bg.A bl o→bl<w.heap.size→¬e8 (ν.cut (inObs s)) s bl→ν.A bl o:=by
  intro bl o J U ao;rcases aQ.fresh bl o J with aZ|aZ|aZ
  ·exact aZ
  ·exact absurd aZ ao
  ·simp only at aZ;omega
 have nZ:cO C {t:=st.t,b:=bR s.b st.b++ah.b,e:=bR s.e st.e++ah.e,n:=n',o:=o'} a w' (ν.join bg s ah):=by
  refine h.over au rfl ⟨aS.alt,fun k cs ab=>?_,fun k bD bl J U ao aZ=>?_,fun g o eJ=>?_,fun g eX n n' u e0 bl J U ao aZ b1 c6=>?_,fun g k n u bl J U ao aZ b1=>?_,fun k=>?_,fun bl aN k j lj=>?_⟩
   ⟨aQ.os.trans h.fr.os,aQ.tape.trans h.fr.tape,aQ.output.trans h.fr.output,ji h.fr.size aQ.size,fun k ab hm=>?_,fun b o q2=>?_,fun b o q2=>?_,fun n b ar=>au.bx _ _ trivial (h.fr.obj n b ar),h.fr.obn,
    fun m n u hm=>CG (h.fr.row m n u hm) (fun n u=>au.ow _ n u trivial),h.fr.obr,fun k j bD dx b J U=>?_,fun k j b ae=>?_,fun k j b ae=>?_,fun b o bd=>(au.sh b o (h.fr.keep b o bd).1).trans (h.fr.sh b o bd)⟩ (fun k ab=>?_)
  ·rcases Pl k cs ab with⟨J,U⟩|J
   ·obtain⟨bl,us,el,g1,g2,g3,g4,g5⟩:=h.good.box k cs U;obtain⟨b8,b3⟩:=AI k bl J (by simp[U]) g1;exact⟨bl,us,el,au.bx _ _ trivial g1,g2,fun o q2=>g3 o (bd bl o q2 b8 b3),by rw[JZ bl b8 b3];exact g4,pR au g5⟩
   ·obtain⟨bl,us,el,g1,g2,g3,g4,g5⟩:=aS.box k cs J;exact⟨bl,us,el,hA.bx _ _ trivial g1,RV bl g2,g3,g4,pR hA g5⟩
  ·rcases isB k bl J ao with⟨bp,a2,a3⟩|⟨bp,a2⟩<;>rcases isB bD bl U aZ with⟨b8,b3,fR⟩|⟨b8,b3⟩
   ·exact h.good.inj k bD bl a2 b3 a3 fR
   ·obtain⟨bL,cn⟩:=AI k bl bp a2 a3;exact absurd rfl (z6 bl (Dx bD bl b8 b3) bl bL cn)
   ·obtain⟨bL,cn⟩:=AI bD bl b8 b3 fR;exact absurd rfl (z6 bl (Dx k bl bp a2) bl bL cn)
   ·exact aS.inj k bD bl bp b8 a2 b3
  ·rcases Pm g o eJ with⟨J,U⟩|J
   ·obtain⟨u,us,g1,g2,g3,g4⟩:=h.good.own g o U;refine⟨u,us,by rw[JT g (by rw[g1];simp) J];exact g1,⟨g2.1,?_⟩,fun bl fp=>?_,rI au (fun bl fp j q2=>?_) g4⟩
    ·rcases g2.2 with aA|⟨bb,cap,cur,f1,f2,f3,f4⟩
     ·exact .inl aA
     ·obtain⟨b8,b3⟩:=xE g _ u bb J (by simp[U]) g1 (by rw[f1];rfl);exact .inr ⟨bb,cap,cur,f1,f2,by rw[JZ bb b8 b3];exact f3,f4⟩
    ·obtain⟨b8,b3⟩:=xE g _ u bl J (by simp[U]) g1 fp;exact⟨(g3 bl fp).1,fun j q2=>(g3 bl fp).2 j (bd bl j q2 b8 b3)⟩
    ·obtain⟨b8,b3⟩:=xE g _ u bl J (by simp[U]) g1 fp;exact bd bl j q2 b8 b3
   ·obtain⟨u,us,g1,g2,g3,g4⟩:=aS.own g o J;exact⟨u,us,by rw[JS g (by simp[J])];exact g1,g2,fun bl fp=>⟨RV bl (g3 bl fp).1,(g3 bl fp).2⟩,rI hA (fun _ _ _ h=>h) g4⟩
  ·rcases E3 g _ J ao with⟨bp,a2,a3⟩|⟨bp,a2⟩<;>rcases E3 eX _ U aZ with⟨b8,b3,fR⟩|⟨b8,b3⟩
   ·exact h.good.oinj g eX n n' u e0 bl a2 b3 a3 fR b1 c6
   ·obtain⟨bL,cn⟩:=xE g n u bl bp a2 a3 b1;exact absurd rfl (z6 bl (Gm eX n' e0 bl b8 b3 c6) bl bL cn)
   ·obtain⟨bL,cn⟩:=xE eX n' e0 bl b8 b3 fR c6;exact absurd rfl (z6 bl (Gm g n u bl bp a2 b1) bl bL cn)
   ·exact aS.oinj g eX n n' u e0 bl bp b8 a2 b3 b1 c6
  ·rcases E3 g _ J ao with⟨bp,a2,a3⟩|⟨bp,a2⟩<;>rcases isB k bl U b1 with⟨b8,b3,fR⟩|⟨b8,b3⟩
   ·exact h.good.obx g k n u bl a2 b3 a3 aZ fR
   ·obtain⟨bL,cn⟩:=xE g n u bl bp a2 a3 aZ;exact absurd rfl (z6 bl (Dx k bl b8 b3) bl bL cn)
   ·obtain⟨bL,cn⟩:=AI k bl b8 b3 fR;exact absurd rfl (z6 bl (Gm g n u bl bp a2 aZ) bl bL cn)
   ·exact aS.obx g k n u bl bp b8 a2 aZ b3
  ·
   cases ka:(ν.join bg s ah).bx k with
   |none=>exact .inl rfl
   |some bl=>
    right;cases Bz:(ν.join bg s ah).ow k with
    |none=>rfl
    |some x=>
     exfalso;have ak:(ν.bx k=some bl∧¬(look k s.b).isSome∧¬(look k ah.b).isSome)∨bg.bx k=some bl:=by
      by_cases af:(look k s.b).isSome∨(look k ah.b).isSome
      ·right;simpa[bc.join,af]using ka
      ·left;simp only[not_or]at af;exact⟨by simpa[bc.join,af.1,af.2]using ka,af.1,af.2⟩
     have aA:(ν.ow k=some x∧¬(look k s.e).isSome∧¬(look k ah.e).isSome)∨bg.ow k=some x:=by
      by_cases af:(look k s.e).isSome∨(look k ah.e).isSome
      ·right;simpa[bc.join,af]using Bz
      ·left;simp only[not_or]at af;exact⟨by simpa[bc.join,af.1,af.2]using Bz,af.1,af.2⟩
     rcases ak with⟨bp,a2,a3⟩|bp<;>rcases aA with⟨b8,b3,fR⟩|b8
     ·rcases h.good.one k with cP|cP
      ·rw[cP]at bp;cases bp
      ·rw[cP]at b8;cases b8
     ·have tI:=WV k x b8;have e6:(look k s.e).isSome:=by
       cases k with
       |loc m=>rw[sr.2 m]at tI;cases tI
       |obj m=>
        rcases cC m tI with cP|cP
        ·exact cP
        ·rw[(h.new (.obj m) ⟨trivial,cP⟩).1]at bp;cases bp
      obtain⟨o,EG⟩:=fm.1 (n1 k e6);obtain⟨v',us,g1,_⟩:=h.good.own k o EG;rcases h.good.one k with cP|cP
      ·rw[cP]at bp;cases bp
      ·rw[cP]at g1;cases g1
     ·have Bs:=WU k bl bp;have e6:(look k s.b).isSome:=by
       cases k with
       |loc m=>rw[sr.1 m]at Bs;cases Bs
       |obj m=>
        rcases Jh m Bs with cP|cP
        ·exact cP
        ·rw[(h.new (.obj m) ⟨trivial,cP⟩).2.1]at b8;cases b8
      obtain⟨cs,da⟩:=fm.1 (ql k e6);obtain⟨h8,us,el,g1,_⟩:=h.good.box k cs da;rcases h.good.one k with cP|cP
      ·rw[cP]at g1;cases g1
      ·rw[cP]at b8;cases b8
     ·rcases aS.one k with cP|cP
      ·rw[cP]at bp;cases bp
      ·rw[cP]at b8;cases b8
  ·have RK:∀k j,bg.tr k j bl→w.heap.size≤bl:=fun k j cP=>by
    rcases(aQ.trb k j bl cP).1 with a2|a2
    ·obtain⟨m,_,hm⟩:=(ad k).2.2 j bl cP;rw[hm]at a2;cases a2
    ·exact a2
   have hold:e8 (ν.cut (inObs s)) s bl→¬ν.tr k j bl:=by
    rintro(⟨bD,bp,a2⟩|⟨g,n,u,bp,a2,a3⟩) cP
    ·exact h.good.otr bl (.inl ⟨bD,ql bD bp,(bc.cut_some a2).2⟩) k j cP
    ·exact h.good.otr bl (.inr ⟨g,n,u,n1 g bp,(bc.cut_someO a2).2,a3⟩) k j cP
   have iR:e8 (ν.cut (inObs s)) s bl∨w.heap.size≤bl→¬ν.tr k j bl:=by
    rintro(J|J) cP
    ·exact hold J cP
    ·have:=(h.fr.trb k j bl cP).2;omega
   rcases aN with⟨bD,bp,a2⟩|⟨g,n,u,bp,a2,a3⟩
   ·rcases isB bD bl bp a2 with⟨b8,b3,fR⟩|⟨b8,b3⟩
    ·rcases lj with lj|lj
     ·exact h.good.otr bl (.inl ⟨bD,b3,fR⟩) k j lj
     ·have:=(AI bD bl b8 b3 fR).1;have:=RK k j lj;omega
    ·rcases lj with lj|lj
     ·exact iR (Dx bD bl b8 b3) lj
     ·exact aS.otr bl (.inl ⟨bD,b8,b3⟩) k j lj
   ·rcases E3 g _ bp a2 with⟨b8,b3,fR⟩|⟨b8,b3⟩
    ·rcases lj with lj|lj
     ·exact h.good.otr bl (.inr ⟨g,n,u,b3,fR,a3⟩) k j lj
     ·have:=(xE g n u bl b8 b3 fR a3).1;have:=RK k j lj;omega
    ·rcases lj with lj|lj
     ·exact iR (Gm g n u bl b8 b3 a3) lj
     ·exact aS.otr bl (.inr ⟨g,n,u,b8,b3,a3⟩) k j lj
  ·have bq:k<w.heap.size:=Nat.lt_of_lt_of_le ab h.fr.size;rw[JZ k bq fun fp=>by
    rcases(pw k fp).1 with J|J
    ·exact hm J
    ·omega]
   exact h.fr.block k ab hm
  ·obtain⟨aR,be⟩:=h.fr.keep b o q2;obtain⟨bN,dB⟩:=aQ.keep b o aR;exact⟨bN,dB.trans be⟩
  ·rcases aQ.fresh b o q2 with aZ|aZ|aZ
   ·exact h.fr.fresh b o aZ
   ·exact .inr (pw b aZ).1
   ·exact .inr (.inr (ji h.fr.size aZ))
  ·rcases J with J|J<;>rcases U with U|U
   ·exact h.fr.trd k j bD dx b J U
   ·have bp:=(h.fr.trb k j b J).2;have a2:=(aQ.trb bD dx b U).1;rcases a2 with a2|a2
    ·obtain⟨m,_,hm⟩:=(ad bD).2.2 dx b U;rw[hm]at a2;cases a2
    ·simp only at a2;omega
   ·have bp:=(h.fr.trb bD dx b U).2;have a2:=(aQ.trb k j b J).1;rcases a2 with a2|a2
    ·obtain⟨m,_,hm⟩:=(ad k).2.2 j b J;rw[hm]at a2;cases a2
    ·simp only at a2;omega
   ·exact aQ.trd k j bD dx b J U
  ·rcases ae with ae|ae
   ·exact⟨(h.fr.trb k j b ae).1,Nat.lt_of_lt_of_le (h.fr.trb k j b ae).2 aQ.size⟩
   ·refine⟨.inr ?_,(aQ.trb k j b ae).2⟩;rcases(aQ.trb k j b ae).1 with a2|a2
    ·obtain⟨m,_,hm⟩:=(ad k).2.2 j b ae;rw[hm]at a2;cases a2
    ·exact ji h.fr.size a2
  ·have key:ν.bx k=none∧ν.ow k=none∧¬(look k ah.b).isSome∧¬(look k ah.e).isSome:=by
    rcases ae with ae|ae
    ·obtain⟨t1,t2⟩:=h.fr.trn k j b ae;refine⟨t1,t2,fun cP=>?_,fun cP=>?_⟩
     ·cases k with
      |loc m=>rw[sr.1 m]at cP;cases cP
      |obj m=>
       rcases Jh m cP with b1|b1
       ·obtain⟨cs,da⟩:=fm.1 (ql _ b1);obtain⟨h8,us,el,g1,_⟩:=h.good.box _ cs da;rw[t1]at g1;cases g1
       ·exact(h.new (.obj m) ⟨trivial,b1⟩).2.2 j b ae
     ·cases k with
      |loc m=>rw[sr.2 m]at cP;cases cP
      |obj m=>
       rcases cC m cP with b1|b1
       ·obtain⟨cs,da⟩:=fm.1 (n1 _ b1);obtain⟨h8,us,g1,_⟩:=h.good.own _ cs da;rw[t2]at g1;cases g1
       ·exact(h.new (.obj m) ⟨trivial,b1⟩).2.2 j b ae
    ·obtain⟨m,hm,rfl⟩:=(ad k).2.2 j b ae;obtain⟨t1,t2,_⟩:=ad0 m hm;exact⟨t1,t2,by simp[sr.1 m],by simp[sr.2 m]⟩
   obtain⟨t1,t2,t3,t4⟩:=key;have t5:¬(look k s.b).isSome:=fun cP=>by obtain⟨cs,da⟩:=fm.1 (ql _ cP);obtain⟨h8,us,el,g1,_⟩:=h.good.box _ cs da;rw[t1]at g1;cases g1
   have t6:¬(look k s.e).isSome:=fun cP=>by obtain⟨cs,da⟩:=fm.1 (n1 _ cP);obtain⟨h8,us,g1,_⟩:=h.good.own _ cs da;rw[t2]at g1;cases g1
   exact⟨by simp[bc.join,t3,t5,t1],by simp[bc.join,t4,t6,t2]⟩
  ·
   simp only at ab;obtain⟨ab,ac2⟩:=dT k ab;have RP:(∀j b,¬ν.tr k j b)→∀j b,¬(ν.join bg s ah).tr k j b:=fun J j b ae=>by
    rcases ae with ae|ae
    ·exact J j b ae
    ·obtain⟨m,hm,e⟩:=(ad k).2.2 j b ae;exact ac2 m hm e
   cases k with
   |loc m=>obtain⟨hq,fX,iU⟩:=h.new (.loc m) (Ix (e1 _) (fun _ h=>List.mem_append_left _ h) ab);exact⟨by simp[bc.join,tL.1 m,sr.1 m,hq],by simp[bc.join,tL.2 m,sr.2 m,fX],RP iU⟩
   |obj m=>
    simp only[fresh,ja,not_or,true_and]at ab;obtain⟨hq,fX,iU⟩:=h.new (.obj m) ⟨trivial,ab.1⟩;have a1:¬(look (.obj m) ah.b).isSome:=fun cP=>ab.2 (sK (.inl cP));have bt:¬(look (.obj m) ah.e).isSome:=fun cP=>ab.2 (sK (.inr cP));have b2:¬(look (.obj m) s.b).isSome:=fun cP=>by obtain⟨cs,da⟩:=fm.1 (ql _ cP);obtain⟨h8,us,el,g1,_⟩:=h.good.box _ cs da;rw[hq]at g1;cases g1
    have c2:¬(look (.obj m) s.e).isSome:=fun cP=>by obtain⟨cs,da⟩:=fm.1 (n1 _ cP);obtain⟨v',us,g1,_⟩:=h.good.own _ cs da;rw[fX]at g1;cases g1
    exact⟨by simp[bc.join,a1,b2,hq],by simp[bc.join,bt,c2,fX],RP iU⟩
 exact nZ.put aK (xC hA aI)
inductive dV where
 |s (i:dY)
 |call (d:Option Nat) (f:dn) (xs:List dn)
 |next (d:Nat) (x:dn)
structure c3 where
 g:Option (Nat×Bool)
 i:dV
def dY.dst:dY→Option Nat
 | .v d _| .box d _ _| .alloc d _ _| .bsl d _ _ _| .app d _ _ _ _| .bslm d _ _ _ _| .appm d _ _ _ _ _| .mkmap d _| .range d _ _| .mks d _ _ _ _ _=>some d
 | .store _ _ _| .mput _ _ _ _| .storeE _ _ _=>none
def dV.dst:dV→Option Nat
 | .s i=>i.dst
 | .call d _ _=>d
 | .next d _=>some d
def cD(P:cy)(n:Nat)(args:List ai)(st:bj)(d:Option Nat)(K:bj→Prop):Prop:=
 (∃s Q,hQ (inObs s) s.b st.b∧mR (inObs s) s.e st.e∧ic s∧aO (inObs s) args∧bB P n args s Q∧
  ∀r ah,Q r ah→((∀m,(look (.obj m) ah.b).isSome→(look (.obj m) s.b).isSome∨ .obj m∉st.o)∧(∀m,(look (.obj m) ah.e).isSome→(look (.obj m) s.e).isSome∨ .obj m∉st.o))∧K (after st s ah d r))∨
 (∃s Q,hQ (inObs s) s.b st.b∧mR (inObs s) s.e st.e∧ic s∧aO (inObs s) args∧ .loc st.n∉st.o∧G0 P n st.n args s Q∧
  ∀r ah,Q r ah→((∀m,(look (.obj m) ah.b).isSome→(look (.obj m) s.b).isSome∨ .obj m∉st.o)∧(∀m,(look (.obj m) ah.e).isSome→(look (.obj m) s.e).isSome∨ .obj m∉st.o))∧K {after st s ah d r with n:=st.n+1})
def Ky(st:bj)(d:Nat)(fb mk:aH)(since:Nat)(seen:List Nat)(last clock:Nat)(borns:List Nat)(kvs:List ai)(K:bj→Prop):Prop:=
 (since=clock∧last=clock)∧((∀b∈borns,b∈seen)→K {st with t:=put d (.tuple [.bool false]) st.t})∧
 (∀b k v,mf b borns kvs=some (.tuple [k,v])→b∉seen→K {st with t:=put d (.tuple [.bool true,k,v]) st.t,b:=ct fb [.hdi since (seen++[b]) last,.gmap mk] st.b})
def sa(st:bj)(d:Nat)(v:ai)(K:bj→Prop):Prop:=
 match v with
 | .ptr fb 0=>match look fb st.b with
  |some [.hdi since seen last,.gmap mk]=>match look mk st.b with
   |some (.hdm clock borns::kvs)=>Ky st d fb mk since seen last clock borns kvs K
   |_=>ej
  |_=>ej
 |_=>ej
def tt(P:cy)(st:bj)(K:bj→Prop):dV→Prop
 | .next d x=>sa st d (cg st.t x) K
 | .s i=>match lN st i with
  |some (c,st')=>c∧K st'
  |none=>ej
 | .call d f xs=>match cg st.t f with
  | .func n dg=>cD P n (df (xs.map (cg st.t)++dg)) st d K
  |_=>ej
def hK(P:cy):List c3→bj→(bj→Prop)→Prop
 |[],st,K=>K st
 |⟨none,i⟩::r,st,K=>tt P st (fun st'=>hK P r st' K) i
 |⟨some (s,want),i⟩::r,st,K=>match get s st.t with
  | .bool b=>(b=want→tt P {st with t:=put s (.bool want) st.t} (fun st'=>hK P r st' K) i)∧(b= !want→hK P r {st with t:=eK i.dst (.tuple []) (put s (.bool !want) st.t)} K)
  | .tuple []=>hK P r {st with t:=eK i.dst (.tuple []) st.t} K
  |_=>ej
def uo(N:Nat)(bo:List (Nat×du))(i:dV)(o:Oper):Bool:=
 match i with
 | .s i=>CI N bo i o
 | .next d x=>match o.op with
  | .next it false=>o.dst==some d&&decide (d<N)&&dW x it
  |_=>false
 | .call d f xs=>match o.op with
  | .call ⟨.value qV,args,_⟩=>o.dst==d&&jc N d&&dW f qV&&xq xs args.toList
  |_=>false
def A3(N:Nat)(bo:List (Nat×du))(ops:List Oper)(g:c3)(o:Oper):Bool:=
 (match g.g,o.guard with
  |none,none=>true
  |some (s,b),some (j,b0)=>b==b0&&((ops[j]?).bind (·.dst))==some s&&decide (s<N)&&o.dst==g.i.dst&&jc N g.i.dst
  |_,_=>false)&&uo N bo g.i o
def j9(N:Nat)(bo:List (Nat×du))(ops:List Oper):List c3→List Oper→Bool
 |[],[]=>true
 |g::gs,o::os=>A3 N bo ops g o&&j9 N bo ops gs os
 |_,_=>false
theorem Vx{w:World}{ν:bc}:∀{cp bG:List ai} {a7 us:List Value},cJ w ν cp a7→cJ w ν bG us→cJ w ν (cp++bG) (a7++us)
 |[],bG,a7,us,h,cA=>by simp only[cJ]at h;subst h;simpa using cA
 |p::cp,bG,a7,us,h,cA=>by simp only[cJ]at h;obtain⟨u,b9,rfl,J,U⟩:=h;simp only[bO,cJ];exact⟨u,_,rfl,J,Vx U cA⟩
theorem wb.mono{P:cy}{f:FuncId}{a7:Array Value}{w:World}{R MR:Ending→World→Prop}(h:wb P f a7 w R)(b4:∀e w',R e w'→MR e w'):wb P f a7 w MR:=by
 rcases h with⟨J,U⟩|⟨v,w',J,U⟩
 ·exact .inl ⟨J,U.mono b4⟩
 ·exact .inr ⟨v,w',J,b4 _ _ U⟩
theorem Pj{P:cy}{C:e2}{st:bj}{a:Act}{w:World}{ν:bc}(aI:cO C st a w ν){o:Oper}{qV:Operand}{args:Array Operand}{z8:Array gx}(mE:o.op= .call ⟨.value qV,args,z8⟩){d:Option Nat}(aK:o.dst=d)(wQ:jc C.N d=true)
  {n:Nat} {dg:List ai} (aQ:a6 w ν (.func n dg) (a.eval qV)) {cp:List ai} (tB:cJ w ν cp (args.toList.map a.eval)) {K:bj→Prop}
  (av:∃(s:cF) (pZ:ai→cF→Prop) (κ:Option Nat) (n':Nat) (o':cF→List aH),hQ (inObs s) s.b st.b∧mR (inObs s) s.e st.e∧ic s∧aO (inObs s) (df (cp++dg))∧(∀(w:World) (ν:bc) (a7:Array Value),Good (e8 ν s) w ν s.b s.e→nO ν s→cJ w ν (df (cp++dg)) a7.toList→
   wb P n a7 w fun e w'=> ∃v r ah bg,e= .returned v∧pZ r ah∧a6 w' bg r v∧Good (fun bl=>e8 ν s bl∨w.heap.size≤bl) w' bg ah.b ah.e∧D3 κ bg ah∧ic ah∧pd ⟨w,ν,e8 ν s,0,cR s⟩ w' bg)∧
   (∀m,κ=some m→fresh st.n st.o (.loc m))∧(∀k r ah,pZ r ah→fresh n' (o' ah) k→fresh st.n (st.o++cR ah) k∧∀m,κ=some m→k≠ .loc m)∧
   ∀r ah,pZ r ah→((∀m,(look (.obj m) ah.b).isSome→(look (.obj m) s.b).isSome∨ .obj m∉st.o)∧(∀m,(look (.obj m) ah.e).isSome→(look (.obj m) s.e).isSome∨ .obj m∉st.o))∧K {after st s ah d r with n:=n',o:=o' ah})
  {qJ:Act→World→Prop} {Q:Exit→Act→World→Prop} (c1:∀st' bh w' bg,K st'→cO C st' bh w' bg→qJ bh w'):o.wp P a w qJ Q:=by
 obtain⟨s,pZ,κ,n',o',bL,cn,dp,jU,kv,Pw,Pp,nJ⟩:=av;simp only[a6]at aQ;obtain⟨us,aJ,hu⟩:=aQ;have lh:cJ w (ν.cut (inObs s)) (df (cp++dg)) ((args.map a.eval)++us).toList:=by refine xB (nE.cut _ w ν) _ _ jU (Gd _ _ ?_);simpa using Vx tB hu
 have q9:Good (e8 (ν.cut (inObs s)) s) w (ν.cut (inObs s)) s.b s.e:=aI.good.cut bL cn (fun bl _ h=>h);have hex:nO (ν.cut (inObs s)) s:=by
  intro k;refine⟨?_,?_,?_⟩;rotate_left 2
  ·rintro j b ⟨af,ae⟩;obtain⟨t1,t2⟩:=aI.fr.trn k j b ae;rcases af with af|af<;>obtain⟨x,ad⟩:=fm.1 af
   ·obtain⟨bl,b9,el,ak,_⟩:=aI.good.box k x (bL k x ad).1;rw[t1]at ak;cases ak
   ·obtain⟨v',b9,ak,_⟩:=aI.good.own k x (cn k x ad).1;rw[t2]at ak;cases ak
  ·intro aq;by_cases af:inObs s k
   ·rw[bc.cut_bx af];rcases af with af|af
    ·rw[aq]at af;cases af
    ·obtain⟨x,ad⟩:=fm.1 af;obtain⟨v',b9,ak,_⟩:=aI.good.own k x (cn k x ad).1;rcases aI.good.one k with J|J
     ·exact J
     ·rw[J]at ak;cases ak
   ·exact(bc.cut_no af).1
  ·intro aq;by_cases af:inObs s k
   ·rw[bc.cut_ow af];rcases af with af|af
    ·obtain⟨x,ad⟩:=fm.1 af;obtain⟨bl,b9,el,ak,_⟩:=aI.good.box k x (bL k x ad).1;rcases aI.good.one k with J|J
     ·rw[J]at ak;cases ak
     ·exact J
    ·rw[aq]at af;cases af
   ·exact(bc.cut_no af).2.1
 rcases kv w (ν.cut (inObs s)) ((args.map a.eval)++us) q9 hex lh with⟨⟨fn,g1,g2,g3⟩,kv⟩|⟨v,w',kv,bF⟩
 ·obtain⟨code,acx⟩:=fm.1 g2;have hX:(execOp a.eval o).run P w= .ok (.enter n ((args.map a.eval)++us)) w:=by obtain⟨dst,op,ty,pos,MX,QI⟩:=o;simp only at mE;subst mE;simp only[execOp,resolve,aJ,Deferred.ofValue,ft,fZ,fB,invoke,callFunc,run_program,g1,g3,acx];simp
  unfold Oper.wp;rw[hX];simp only[Oper.upon];refine kv.mono fun e w' bF=>?_;obtain⟨v,r,ah,bg,rfl,bn,a1,bt,b2,c2,c8⟩:=bF;obtain⟨⟨hq,fX⟩,ab⟩:=nJ r ah bn;rw[aK];exact c1 _ _ _ _ ab (aI.callK bL cn dp bt b2 (fun m hm=>aI.new _ (Pw m hm)) (n':=n') (o':=o' ah) (fun k ab=>Pp k r ah bn ab) c2 c8 hq fX d wQ a1)
 ·have hX:(execOp a.eval o).run P w= .ok (.value v) w':=by obtain⟨dst,op,ty,pos,MX,QI⟩:=o;simp only at mE;subst mE;simp only[execOp,resolve,aJ,Deferred.ofValue,ft,fZ,fB,invoke];simpa using kv
  obtain⟨v2,r,ah,bg,BJ,bn,a1,bt,b2,c2,c8⟩:=bF;cases BJ;obtain⟨⟨hq,fX⟩,ab⟩:=nJ r ah bn;refine lP hX ?_;rw[aK];exact c1 _ _ _ _ ab (aI.callK bL cn dp bt b2 (fun m hm=>aI.new _ (Pw m hm)) (n':=n') (o':=o' ah) (fun k ab=>Pp k r ah bn ab) c2 c8 hq fX d wQ a1)
theorem Ph{P:cy}{C:e2}{st:bj}{a:Act}{w:World}{ν:bc}(aI:cO C st a w ν){o:Oper}{qV:Operand}{args:Array Operand}{z8:Array gx}(mE:o.op= .call ⟨.value qV,args,z8⟩){d:Option Nat}(aK:o.dst=d)(wQ:jc C.N d=true)
  {n:Nat} {dg:List ai} (aQ:a6 w ν (.func n dg) (a.eval qV)) {cp:List ai} (tB:cJ w ν cp (args.toList.map a.eval)) {K:bj→Prop} (av:cD P n (df (cp++dg)) st d K)
  {qJ:Act→World→Prop} {Q:Exit→Act→World→Prop} (c1:∀st' bh w' bg,K st'→cO C st' bh w' bg→qJ bh w'):o.wp P a w qJ Q:=by
 refine Pj aI mE aK wQ aQ tB (K:=K) ?_ c1;rcases av with⟨s,pZ,bL,cn,dp,jU,kv,nJ⟩|⟨s,pZ,bL,cn,dp,jU,j6,kv,nJ⟩
 ·refine⟨s,pZ,none,st.n,fun ah=>st.o++cR ah,bL,cn,dp,jU,fun w ν a7 J U ao=>(kv w ν a7 J U ao).mono fun e w' bF=>?_,fun m hm=>(by cases hm),fun k _ ah _ ab=>⟨ab,fun m hm=>by cases hm⟩,nJ⟩;obtain⟨v,r,ah,bg,g1,g2,g3,g4,g5,g6⟩:=bF;exact⟨v,r,ah,bg,g1,g2,g3,g4,g5.k,g6⟩
 ·refine⟨s,pZ,some st.n,st.n+1,fun ah=>st.o++cR ah,bL,cn,dp,jU,kv,fun m hm=>(by cases hm;exact⟨e1 _,j6⟩),fun k _ ah _ ab=>⟨Ix (Nat.le_succ _) (fun _ h=>h) ab,fun m hm=>?_⟩,nJ⟩;cases hm;rintro rfl;have:=ab.1;simp only at this;omega
theorem cO.drawn{C:e2}{st:bj}{a:Act}{w:World}{ν:bc}(aI:cO C st a w ν)(n:Nat):cO C st a {w with drawn:=n} ν:=by
 have kC:k5 w ν {w with drawn:=n} ν:=⟨fun _ _ h=>⟨h,rfl⟩,fun _ _ _ h=>h,fun _ n u _ h=>⟨n,u,h,.inl ⟨rfl,rfl⟩⟩,fun _ _ _=>rfl,fun _ _ _ _ h=>h⟩;refine aI.over kC rfl ⟨aI.good.alt,fun k cs ab=>?_,aI.good.inj,fun g o aS=>?_,aI.good.oinj,aI.good.obx,aI.good.one,aI.good.otr⟩ ⟨aI.fr.os,aI.fr.tape,aI.fr.output,aI.fr.size,aI.fr.block,aI.fr.keep,aI.fr.fresh,aI.fr.obj,aI.fr.obn,aI.fr.row,aI.fr.obr,aI.fr.trd,aI.fr.trb,aI.fr.trn,aI.fr.sh⟩ aI.new
 ·obtain⟨bl,us,el,J,U,ao,aZ,b1⟩:=aI.good.box k cs ab;exact⟨bl,us,el,J,U,ao,aZ,pR kC b1⟩
 ·obtain⟨v,us,J,U,ao,aZ⟩:=aI.good.own g o aS;exact⟨v,us,J,U,ao,rI kC (fun _ _ _ h=>h) aZ⟩
theorem aa1{α:Type}{l:List α}{p:α→Bool}(h:∀x∈l,p x=false):l.filter p=[]:=by rw[List.filter_eq_nil_iff];intro x ad;simp[h x ad]
theorem aa0{α:Type}{l:List α}{p:α→Bool}(h:∀x∈l,p x=true):l.filter p=l:=List.filter_eq_self.2 h
def Fz(r m since clock:Nat)(seen:Array Nat)(Pk:Array (Option MapEntry)):Sem Value:=do
 match Pk[←choose (.mapNext Pk.size)]? with
 |some (some e)=>
  setObj r (.mapIter (some m) since (seen.push e.born) clock)
  pure (.tuple #[.bool true,e.key,e.val])
 |some none=>pure (.tuple #[.bool false])
 |none=>stuck "Next: no such candidate"
theorem VH{P:cy}{w:World}(r m since clock:Nat)(seen:Array Nat)(l:List (Option MapEntry))(aq:l≠[]):∃n x,x∈l∧(Fz r m since clock seen l.toArray).run P w=
  (match x with|some e=>(do setObj r (.mapIter (some m) since (seen.push e.born) clock);pure (.tuple #[.bool true,e.key,e.val]):Sem Value)|none=>pure (.tuple #[.bool false])).run P {w with drawn:=n}:=by
 have fq:0<l.length:=List.length_pos_iff.2 aq;unfold Fz;have key:∀i,i<l.length→∀w',((do match(l.toArray[i]?:Option (Option MapEntry))with
   |some (some e)=>setObj r (.mapIter (some m) since (seen.push e.born) clock);pure (.tuple #[.bool true,e.key,e.val])
   |some none=>pure (.tuple #[.bool false])
   |none=>stuck "Next: no such candidate" :Sem Value)).run P w'=((match l[i]! with|some e=>(do setObj r (.mapIter (some m) since (seen.push e.born) clock);pure (.tuple #[.bool true,e.key,e.val]):Sem Value)|none=>pure (.tuple #[.bool false]))).run P w':=by
  intro i hi w';have J:l.toArray[i]? =some l[i]!:=by simp[hi]
  rw[J];cases l[i]!<;>rfl
 by_cases aQ:(Question.mapNext l.length).forced=true
 ·refine⟨w.drawn,l[0]!,by simp[fq],?_⟩;rw[←key 0 fq];have av:(choose (.mapNext l.length):Sem Nat).run P w= .ok 0 w:=by simp[aQ]
  simp only[List.size_toArray,ft,av,fB]
 ·refine⟨w.drawn+1,l[(w.tape w.drawn (.mapNext l.length))%l.length]!,by simp[Nat.mod_lt _ fq],?_⟩;rw[←key _ (Nat.mod_lt _ fq)];have av:(choose (.mapNext l.length):Sem Nat).run P w= .ok ((w.tape w.drawn (.mapNext l.length))%l.length) {w with drawn:=w.drawn+1}:=by simp[aQ,Question.cut]
  simp only[List.size_toArray,ft,av,fB]
theorem aiB{P:cy}{w:World}{bl mb:Nat}{seen:List Nat}{es:List MapEntry}{clock:Nat}{ty:gx}(J:w.heap[bl]? =some (.mapIter (some mb) clock seen.toArray clock))(U:w.heap[mb]? =some (.map es.toArray clock))(bq:∀e∈es,e.born<clock):
  ∃n,((∀e∈es,e.born∈seen)∧(Instr.next (.pointer (some ⟨bl,0,none⟩)) false ty).run P w= .ok (.tuple #[.bool false]) {w with drawn:=n})∨
   ∃e∈es,e.born∉seen∧(Instr.next (.pointer (some ⟨bl,0,none⟩)) false ty).run P w= .ok (.tuple #[.bool true,e.key,e.val]) {w with drawn:=n,heap:=w.heap.setIfInBounds bl (.mapIter (some mb) clock (seen++[e.born]).toArray clock)}:=by
 have hN:(!seen.toArray.isEmpty&& !es.toArray.isEmpty&&es.toArray.all (fun e=>decide (e.born≥clock)))=false:=by
  cases es with
  |nil=>simp
  |cons e r=>have:=bq e (by simp);simp;intro _ h;omega
 generalize hz:(es.filter fun e=> !seen.contains e.born)=left;have ac5:(es.toArray.filter fun e=> !seen.toArray.contains e.born)=left.toArray:=by rw[←hz];simp
 have ju:∀e∈left,e∈es∧e.born∉seen:=fun e he=>by rw[←hz]at he;have:=k3.1 he;exact⟨this.1,by simpa using this.2⟩
 have hold:(left.toArray.filter fun e=>decide (e.born<clock))=left.toArray:=by rw[List.filter_toArray,aa0];intro e he;have:=bq e (ju e he).1;simp[this]
 have iR:(left.toArray.filter fun e=>decide (e.born≥clock))= #[]:=by rw[List.filter_toArray,aa1];intro e he;have:=bq e (ju e he).1;simp;omega
 have hX:(Instr.next (.pointer (some ⟨bl,0,none⟩)) false ty).run P w=(Fz bl mb clock clock seen.toArray ((if left.toArray.isEmpty then #[none]else #[])++(left.toArray++ #[]).map some)).run P w:=by unfold Instr.next Fz;simp only[ft,uy J,uy U,fB,hN,ac5,hold,iR,gr,if_false];rfl
 rw[hX];by_cases yP:left=[]
 ·subst yP;obtain⟨n,x,g1,g2⟩:=VH (P:=P) (w:=w) bl mb clock clock seen.toArray [none] (by simp);refine⟨n,.inl ⟨fun e he=>?_,?_⟩⟩
  ·have:=List.filter_eq_nil_iff.1 hz e he;simpa using this
  ·simp only[rW]at g1;subst g1;have av:((if(([]:List MapEntry).toArray).isEmpty then #[none]else #[])++(([]:List MapEntry).toArray++ #[]).map some)=[none].toArray:=by simp
   rw[av,g2];rfl
 ·have av:((if left.toArray.isEmpty then #[none]else #[])++(left.toArray++ #[]).map some)=(left.map some).toArray:=by simp[yP]
  obtain⟨n,x,g1,g2⟩:=VH (P:=P) (w:=w) bl mb clock clock seen.toArray (left.map some) (by simpa using yP);simp only[hH]at g1;obtain⟨e,he,rfl⟩:=g1;refine⟨n,.inr ⟨e,(ju e he).1,(ju e he).2,?_⟩⟩;rw[av,g2];simp only[ft];rw[CH (w:={w with drawn:=n}) (o:= .mapIter (some mb) clock seen.toArray clock) J];simp
theorem H5:∀{borns:List Nat} {us:List Value} {e:MapEntry},e∈fo borns us→e.born∈borns
 |[],us,e,h=>by simp[fo]at h
 |b::eL,[],e,h=>by simp[fo]at h
 |b::eL,[_],e,h=>by simp[fo]at h
 |b::eL,k::v::us,e,h=>by
  simp only[fo,ga]at h;rcases h with rfl|h
  ·simp
  ·exact mX _ (H5 h)
theorem PM:∀{borns:List Nat} {kvs:List ai} {us:List Value},kvs.length=2*borns.length→us.length=kvs.length→∀{b:Nat},b∈borns→∃e∈fo borns us,e.born=b
 |[],_,_,_,_,b,ae=>by simp at ae
 |b0::eL,kvs,[],J,U,b,ae=>by rw[J]at U;simp at U
 |b0::eL,kvs,[_],J,U,b,ae=>by rw[J]at U;simp at U;omega
 |b0::eL,kvs,k::v::us,J,U,b,ae=>by
  rcases ga.1 ae with rfl|ae
  ·exact⟨⟨k,v,b⟩,by simp[fo],rfl⟩
  ·obtain⟨e,g1,g2⟩:=PM (kvs:=kvs.drop 2) (us:=us) (borns:=eL) (by simp at J⊢;omega) (by simp at J U⊢;omega) ae;exact⟨e,by simp[fo,g1],g2⟩
theorem To{w:World}{ν:bc}:∀{borns:List Nat} {kvs:List ai} {us:List Value},kvs.length=2*borns.length→borns.Pairwise (· < ·)→cJ w ν kvs us→∀{e:MapEntry},e∈fo borns us→∃k v,mf e.born borns kvs=some (.tuple [k,v])∧a6 w ν k e.key∧a6 w ν v e.val
 |[],_,_,_,_,_,e,h=>by simp[fo]at h
 |b::eL,[],us,J,_,_,e,_=>by simp at J
 |b::eL,[_],us,J,_,_,e,_=>by simp at J;omega
 |b::eL,k::v::kvs,us,J,U,ao,e,h=>by
  simp only[cJ]at ao;obtain⟨iH,Mn,rfl,ep,jh,rP,rfl,fe,mh⟩:=ao;simp only[fo,ga]at h;rw[ml]at U;rcases h with rfl|h
  ·exact⟨k,v,by simp[mf],ep,fe⟩
  ·obtain⟨bD,v',g1,g2,g3⟩:=To (by simp at J;omega) U.2 mh h;have cC:b≠e.born:=Nat.ne_of_lt (U.1 _ (H5 h));exact⟨bD,v',by simp[mf,cC,g1],g2,g3⟩
theorem afC{P:cy}{C:e2}{st:bj}{a:Act}{w:World}{ν:bc}(aI:cO C st a w ν){o:Oper}{it:Operand}(mE:o.op= .next it false){d:Nat}(aK:o.dst=some d)(wQ:jc C.N (some d)=true){v:ai}(aJ:a6 w ν v (a.eval it)){K:bj→Prop}(he:sa st d v K)
  {qJ:Act→World→Prop} {Q:Exit→Act→World→Prop} (c1:∀st' bh w' bg,K st'→cO C st' bh w' bg→qJ bh w'):o.wp P a w qJ Q:=by
 unfold sa at he;split at he
 ·rename_i fb;split at he
  ·rename_i since seen last mk u4;split at he
   ·rename_i clock borns kvs wZ;obtain⟨⟨rfl,rfl⟩,u2,nT⟩:=he;simp only[a6]at aJ;obtain⟨bl,b8,b3⟩:=aJ;obtain⟨h8,us,el,a1,bt,b2,c2,c8⟩:=aI.good.box fb _ u4;rw[b8]at a1;cases a1;obtain⟨mb,ms,anJ,m1,m2,m3,m4,m5⟩:=aI.good.box mk _ wZ;simp only[iX,cJ]at c8;obtain⟨u,b9,hu,⟨anI,ep,rfl⟩,rfl⟩:=c8;rw[m1]at ep;cases ep;simp only[jz,hu]at c2;simp only[jz]at m4;simp only[iX]at m5;obtain⟨n,lE⟩:=aiB (P:=P) (ty:=o.type) c2 m4 (fun e he=>m5.2.lt _ (H5 he));have l3:∀v' w',(Instr.next (.pointer (some ⟨bl,0,none⟩)) false o.type).run P w= .ok v' w'→(execOp a.eval o).run P w= .ok (.value v') w':=by intro v' w' hX;obtain⟨dst,op,ty,pos,MX,QI⟩:=o;simp only at mE hX;subst mE;simp only[execOp,b3];exact C4 hX
    rcases lE with⟨J,U⟩|⟨e,J,U,ao⟩
    ·refine lP (l3 _ _ U) ?_;rw[aK];refine c1 _ _ _ _ (u2 fun b ae=>?_) ((aI.drawn n).put wQ (p:= .tuple [.bool false]) (by simp[a6,cJ]));obtain⟨e,f1,f2⟩:=PM m5.2.len (Gb m5.1) ae;rw[←f2];exact J e f1
    ·obtain⟨k,v,f1,f2,f3⟩:=To m5.2.len m5.2.inc m5.1 J;refine lP (l3 _ _ ao) ?_;rw[aK];have rj:=((aI.drawn n).setBox (w':={w with drawn:=n,heap:=w.heap.setIfInBounds bl (.mapIter (some mb) last (seen++[e.born]).toArray last)}) u4 b8 (cs':=[.hdi last (seen++[e.born]) last,.gmap mk]) (us:=us) (el:=el) rfl rfl rfl
      (fun j ag=>Array.getElem?_setIfInBounds_ne (kO ag)) (by simp) (by simp[jz,hu,(Array.getElem?_eq_some_iff.1 c2).1]) (by simp only[iX,cJ];exact⟨_,_,hu,by simp only[a6];exact⟨mb,m1,rfl⟩,rfl⟩))
     refine c1 _ _ _ _ (nT e.born k v f1 U) (rj.1.put wQ (p:= .tuple [.bool true,k,v]) ?_);simp only[a6];refine⟨_,rfl,?_⟩;simp only[cJ];have kC:k5 w ν {w with drawn:=n} ν:=⟨fun _ _ h=>⟨h,rfl⟩,fun _ _ _ h=>h,fun _ n u _ h=>⟨n,u,h,.inl ⟨rfl,rfl⟩⟩,fun _ _ _=>rfl,fun _ _ _ _ h=>h⟩;exact⟨_,_,rfl,by simp[a6],_,_,rfl,xC rj.2 (xC kC f2),_,_,rfl,xC rj.2 (xC kC f3),rfl⟩
   ·exact he.elim
  ·exact he.elim
 ·exact he.elim
theorem PS{P:cy}{bo:List (Nat×du)}(aN:fA P bo=true){C:e2}{st:bj}{a:Act}{w:World}{ν:bc}(aI:cO C st a w ν){i:dV}{o:Oper}(au:uo C.N bo i o=true){K:bj→Prop}(he:tt P st K i)
  {qJ:Act→World→Prop} {Q:Exit→Act→World→Prop} (c1:∀st' bh w' bg,K st'→cO C st' bh w' bg→qJ bh w'):o.wp P a w qJ Q:=by
 cases i with
 |s i=>
  simp only[tt]at he;split at he
  ·rename_i c st' af;exact aiE aN aI (by simpa only[uo]using au) af he.1 fun bh w' bg h=>c1 _ _ _ _ he.2 h
  ·exact he.elim
 |next d x=>
  simp only[tt]at he;simp only[uo]at au;split at au
  ·rename_i it mE;simp only[cx,dH,fI]at au;obtain⟨⟨J,U⟩,ao⟩:=au;exact afC aI mE J (by simpa[jc]using U) (dX aI ao) he c1
  ·cases au
 |call d f xs=>
  simp only[tt]at he;simp only[uo]at au;split at au
  ·rename_i qV args z8 mE;simp only[cx,dH]at au;obtain⟨⟨⟨J,U⟩,ao⟩,aZ⟩:=au;split at he
   ·rename_i n dg aQ;have:=dX aI ao;rw[aQ]at this;exact Ph aI mE J U this (CD aI aZ) he c1
   ·exact he.elim
  ·cases au
theorem Ly{C:e2}{st:bj}{a:Act}{w:World}{ν:bc}(h:cO C st a w ν){s:Nat}{b:Bool}(af:get s st.t= .bool b):cO C {st with t:=put s (.bool b) st.t} a w ν:=by
 refine⟨h.good,h.fr,h.defers,h.size,fun i=>?_,h.new⟩;have:=h.slot i;simp only[oM];split
 ·rename_i e;subst e;rw[←af];exact this
 ·exact this
theorem WX{C:e2}{st:bj}{a:Act}{w:World}{ν:bc}(h:cO C st a w ν){ops:Array Oper}{j s:Nat}(ag:(ops.toList[j]?).bind (·.dst)=some s)(af:s<C.N):
  (∀b,get s st.t= .bool b→yielded ops a.tmps j=some b)∧(get s st.t= .tuple []→yielded ops a.tmps j=none):=by
 have bq:s<a.tmps.size:=by rw[h.size];exact af
 have rk:=h.slot s;have hp:a.tmps.getD s undef=a.tmps[s]:=by simp[Array.getD,bq]
 rw[hp]at rk;have aG:yielded ops a.tmps j=match a.tmps[s]with| .bool b=>some b|_=>none:=by unfold yielded;rw[s6]at ag;rw[ag];simp only[h4,Array.getElem?_eq_getElem bq];cases a.tmps[s]<;>rfl
 constructor
 ·intro b ae;rw[ae]at rk;simp only[a6]at rk;rw[aG,rk]
 ·intro ae;rw[ae]at rk;simp only[a6,cJ]at rk;obtain⟨us,ak,aA⟩:=rk;rw[aG,ak]
theorem PW{P:cy}{bo:List (Nat×du)}(aN:fA P bo=true){C:e2}{ops:Array Oper}{K:bj→Prop}{Q:Exit→Act→World→Prop}(hM:∀st' bh w' bg,K st'→cO C st' bh w' bg→Q .normal bh w'):
  ∀(gs:List c3) (os:List Oper) (k:Nat),(∀j,os[j]? =ops[k+j]?)→j9 C.N bo ops.toList gs os=true→∀(st:bj) (a:Act) (w:World) (ν:bc),hK P gs st K→cO C st a w ν→wpOps P ops Q (List.range' k gs.length) a w
 |[],[],k,_,_,st,a,w,ν,he,aI=>by simp only[List.length_nil,List.range'_zero,wpOps];exact hM _ _ _ _ he aI
 |[],_::_,_,_,ab,_,_,_,_,_,_=>by simp[j9]at ab
 |_::_,[],_,_,ab,_,_,_,_,_,_=>by simp[j9]at ab
 |g::gs,o::os,k,yU,ab,st,a,w,ν,he,aI=>by
  simp only[j9,cx]at ab;have bV:ops[k]? =some o:=by simpa using(yU 0).symm
  have BD:∀j,os[j]? =ops[k+1+j]?:=fun j=>by have:=yU (j+1);simpa[Nat.add_assoc,Nat.add_comm 1 j]using this
  simp only[nB,List.range'_succ,wpOps,bV];have bW:∀st' bh w' bg,hK P gs st' K→cO C st' bh w' bg→wpOps P ops Q (List.range' (k+1) gs.length) bh w':=fun st' bh w' bg J U=>PW aN hM gs os (k+1) BD ab.2 st' bh w' bg J U;obtain⟨mw,QK⟩:=g;have aS:=ab.1;simp only[A3,cx]at aS;obtain⟨qi,nU⟩:=aS;cases mw with
  |none=>
   cases eJ:o.guard with
   |some x=>simp[eJ]at qi
   |none=>
    have hw:ot o (yielded ops a.tmps)=true:=by simp[ot,eJ]
    rw[if_pos hw];simp only[hK]at he;exact .inl (PS aN aI nU he bW)
  |some xM=>
   obtain⟨s,want⟩:=xM;cases eJ:o.guard with
   |none=>simp[eJ]at qi
   |some x=>
    obtain⟨j,b0⟩:=x;simp only[eJ,cx,dH,fI]at qi;obtain⟨⟨⟨⟨rfl,U⟩,ao⟩,aZ⟩,b1⟩:=qi;obtain⟨kr,oq⟩:=WX aI U ao;simp only[hK]at he;split at he
    ·rename_i b ae;have aG:=kr b ae;by_cases e:b=want
     ·subst e;have hw:ot o (yielded ops a.tmps)=true:=by simp[ot,eJ,aG]
      rw[if_pos hw];exact .inl (PS aN (Ly aI ae) nU (he.1 rfl) bW)
     ·have hw:¬(ot o (yielded ops a.tmps)=true):=by simp[ot,eJ,aG,e]
      rw[if_neg hw];have gz:b= !want:=by cases b<;>cases want<;>simp at e⊢
      have l5:cO C {st with t:=put s (.bool !want) st.t} a w ν:=Ly aI (by rw[ae,gz]);rw[aZ];exact bW _ _ _ _ (he.2 gz) (l5.put b1 (by simp[a6,cJ,undef]))
    ·rename_i ae;have aG:=oq ae;have hw:¬(ot o (yielded ops a.tmps)=true):=by simp[ot,eJ,aG]
     rw[if_neg hw,aZ];exact bW _ _ _ _ he (aI.put b1 (by simp[a6,cJ,undef]))
    ·exact he.elim
structure c9 where
 t:Nat→ai
 b:aH→Option (List ai)
 e:aH→Option fv
 F:aH→Prop
structure ks where
 d:Option Nat
 p:ai
 bw:List (aH×List ai)
 ew:List (aH×fv)
 rm:Option aH
def ia{α:Type}(l:List (aH×α))(f:aH→Option α):aH→Option α:=fun k=>match look k l with|some x=>some x|none=>f k
def c9.do(A:c9)(x:ks):c9:={t:=fun i=>if x.d=some i then x.p else A.t i,b:=ia x.bw A.b,e:=ia x.ew A.e,F:=fun k=>A.F k∧x.rm≠some k}
structure ks.apart (x y:ks):Prop where
 d:∀i,x.d=some i→y.d≠some i
 b:∀k,(look k x.bw).isSome→look k y.bw=none
 e:∀k,(look k x.ew).isSome→look k y.ew=none
theorem c9.do_comm(A:c9){x y:ks}(h:x.apart y):(A.do x).do y=(A.do y).do x:=by
 simp only[c9.do,c9.mk.injEq];refine⟨?_,?_,?_,?_⟩
 ·funext i;by_cases J:x.d=some i
  ·have:=h.d i J;simp[J,this]
  ·simp[J]
 ·funext k;simp only[ia];cases ad:look k x.bw with
  |none=>cases look k y.bw<;>rfl
  |some u=>rw[h.b k (by simp[ad])]
 ·funext k;simp only[ia];cases ad:look k x.ew with
  |none=>cases look k y.ew<;>rfl
  |some u=>rw[h.e k (by simp[ad])]
 ·funext k;exact propext ⟨fun h=>⟨⟨h.1.1,h.2⟩,h.1.2⟩,fun h=>⟨⟨h.1.1,h.2⟩,h.1.2⟩⟩
def dv(t:Nat→ai):dn→ai
 | .t i=>t i
 | .c p=>p
def rs(b:aH→Option (List ai))(e:aH→Option fv)(agg:Bool)(sz:Nat):ai→Option (Prop×ai)
 | .rptr dy k n i f=>xD agg sz dy n i f (e k)
 | .ptr k off=>
  match b k with
  |some cs=>if agg then some (hE cs=true∧off+sz≤cs.length,.agg ((cs.drop off).take sz))else(cs[off]?).map fun p=>(hE cs=true,p)
  |none=>none
 | .eptr p=>if agg then some (isAgg sz p,p)else some (eE p=true∧cells p=[p],p)
 |_=>none
def wv(t:Nat→ai):List ai→List (Nat×Nat×dn)→Option (Prop×List ai)
 |cs,[]=>some (True,cs)
 |cs,(off,sz,x)::r=>
  match wv t (nu cs off (cells (dv t x))) r with
  |some (c,cs')=>some ((eE (dv t x)=true∧(cells (dv t x)).length=sz∧off+sz≤cs.length)∧c,cs')
  |none=>none
def o9(t:Nat→ai)(b:aH→Option (List ai))(e:aH→Option fv):fL→Option (Prop×ai)
 | .mov x=>some (True,dv t x)
 | .pick c x y=>FK (dv t c) (dv t x) (dv t y)
 | .load agg sz x=>rs b e agg sz (dv t x)
 | .faddr off agg sz x=>po off agg sz (dv t x)
 | .fld off agg sz x=>qY off agg sz (dv t x)
 | .iaddr sz x i=>y7 sz (dv t x) (dv t i)
 | .sidx x i=>Gs (dv t x) (dv t i)
 | .ssl x lo hi=>Gx (dv t x) (lo.map (dv t)) (hi.map (dv t))
 | .lsl sz x lo hi=>Fo sz (dv t x) (lo.map (dv t)) (hi.map (dv t))
 | .bin op wr x y=>bY op wr (dv t x) (dv t y)
 | .notB x=>FB (dv t x)
 | .neg x=>Fy (dv t x)
 | .conv k x=>DT k (dv t x)
 | .ext i x=>yn i (dv t x)
 | .len x=>zj (dv t x)
 | .slen x=>CR (dv t x)
 | .build zero parts=>(wv t zero parts).map fun(c,cs)=>(c,.agg cs)
 | .nck x=>zu (dv t x)
 | .min2 x y=>Fx (dv t x) (dv t y)
 | .mkf n xs=>some (True,.func n (xs.map (dv t)))
 | .mget ck zero ok x k=>nq b ck zero ok (dv t x) (dv t k)
 | .ment x=>oY b (dv t x)
 | .mlen x=>ud b (dv t x)
 | .beq neg dD x y=>lW neg dD (dv t x) (dv t y)
 | .max2 x y=>Fs (dv t x) (dv t y)
 | .mkif n x=>some (True,.iface n (dv t x))
 | .loadB agg sz x=>rs b (fun _=>none) agg sz (dv t x)
 | .mgetB ck zero ok x k=>nq b ck zero ok (dv t x) (dv t k)
 | .loadZ agg sz x=>A2 agg sz (dv t x)
structure k4 (st:bj) (A:c9):Prop where
 t:∀i,get i st.t=A.t i
 b:∀k,look k st.b=A.b k
 e:∀k,look k st.e=A.e k
theorem iu{st:bj}{A:c9}(h:k4 st A)(x:dn):cg st.t x=dv A.t x:=by
 cases x
 ·exact h.t _
 ·rfl
theorem tv{st:bj}{A:c9}(h:k4 st A):cg st.t=dv A.t:=funext (iu h)
theorem aeT{st:bj}{A:c9}(h:k4 st A)(agg:Bool)(sz:Nat)(p:ai):me st.b st.e agg sz p=rs A.b A.e agg sz p:=by
 cases p<;>simp only[me,rs]
 ·rw[h.b];try rfl
 ·rw[h.e]
theorem aeU{st:bj}{A:c9}(h:k4 st A)(agg:Bool)(sz:Nat)(p:ai):me st.b [] agg sz p=rs A.b (fun _=>none) agg sz p:=by
 cases p<;>simp only[me,rs]
 ·rw[h.b];try rfl
 ·rfl
theorem Nr{st:bj}{A:c9}(h:k4 st A):∀(parts:List (Nat×Nat×dn)) (cs:List ai),tq st.t cs parts=wv A.t cs parts
 |[],cs=>rfl
 |(off,sz,x)::r,cs=>by simp only[tq,wv,iu h,Nr h r];try rfl
theorem V6{st:bj}{A:c9}(h:k4 st A)(i:fL):gS st i=o9 A.t A.b A.e i:=by have ae:(fun k=>look k st.b)=A.b:=funext h.b;cases i<;>simp only[gS,o9,tv h,aeT h,aeU h,Nr h,ae]
def gQ:dn→List Nat
 | .t i=>[i]
 | .c _=>[]
def KU:Option dn→List Nat
 |some x=>gQ x
 |none=>[]
def fL.looks:fL→List Nat
 | .mov x| .load _ _ x| .loadB _ _ x| .loadZ _ _ x| .faddr _ _ _ x| .fld _ _ _ x| .notB x| .neg x| .conv _ x| .ext _ x| .len x| .slen x| .nck x| .ment x| .mlen x| .mkif _ x=>gQ x
 | .pick c x y=>gQ c++gQ x++gQ y
 | .iaddr _ x i| .sidx x i=>gQ x++gQ i
 | .ssl x lo hi| .lsl _ x lo hi=>gQ x++KU lo++KU hi
 | .bin _ _ x y| .min2 x y| .max2 x y| .beq _ _ x y=>gQ x++gQ y
 | .build _ cp=>cp.flatMap fun p=>gQ p.2.2
 | .mkf _ xs=>xs.flatMap gQ
 | .mget _ _ _ x k| .mgetB _ _ _ x k=>gQ x++gQ k
def dY.looks:dY→List Nat
 | .v _ i=>i.looks
 | .box _ _ x=>gQ x
 | .alloc _ _ _=>[]
 | .store _ x y=>gQ x++gQ y
 | .storeE _ x y=>gQ x++gQ y
 | .bsl _ _ _ xs=>xs.flatMap gQ
 | .app _ _ _ x y=>gQ x++gQ y
 | .bslm _ _ _ _ xs=>xs.flatMap gQ
 | .mks _ _ _ _ _ x=>gQ x
 | .appm _ _ _ _ x y=>gQ x++gQ y
 | .mkmap _ _=>[]
 | .mput _ x k y=>gQ x++gQ k++gQ y
 | .range _ _ x=>gQ x
def dV.looks:dV→List Nat
 | .s i=>i.looks
 | .call _ f xs=>gQ f++xs.flatMap gQ
 | .next _ x=>gQ x
def c3.looks(g:c3):List Nat:=(match g.g with|some (s,_)=>[s]|none=>[])++g.i.looks
def p2(l:List Nat)(t dE:Nat→ai):Prop:= ∀i∈l,t i=dE i
theorem gi{t dE:Nat→ai}{x:dn}(h:p2 (gQ x) t dE):dv t x=dv dE x:=by
 cases x
 ·exact h _ (by simp[gQ])
 ·rfl
theorem j5{l aX:List Nat}{t dE:Nat→ai}(h:p2 (l++aX) t dE):p2 l t dE∧p2 aX t dE:=⟨fun i hi=>h i (by simp[hi]),fun i hi=>h i (by simp[hi])⟩
theorem D2{t dE:Nat→ai}{x:Option dn}(h:p2 (KU x) t dE):x.map (dv t)=x.map (dv dE):=by
 cases x
 ·rfl
 ·simp[gi h]
theorem Nq{t dE:Nat→ai}:∀{parts:List (Nat×Nat×dn)} {cs:List ai},p2 (parts.flatMap fun p=>gQ p.2.2) t dE→wv t cs parts=wv dE cs parts
 |[],cs,_=>rfl
 |(off,sz,x)::r,cs,h=>by simp only[List.flatMap_cons]at h;obtain⟨J,U⟩:=j5 h;simp only[wv,gi J,Nq U]
theorem Fq{t dE:Nat→ai}:∀{xs:List dn},p2 (xs.flatMap gQ) t dE→xs.map (dv t)=xs.map (dv dE)
 |[],_=>rfl
 |x::xs,h=>by simp only[List.flatMap_cons]at h;obtain⟨J,U⟩:=j5 h;simp[gi J,Fq U]
def fL.isLoad:fL→Bool
 | .load _ _ _=>true
 | .loadB _ _ _=>true
 | .mgetB _ _ _ _ _=>true
 | .mget _ _ _ _ _=>true
 | .ment _=>true
 | .mlen _=>true
 |_=>false
theorem ajC{t dE:Nat→ai}{b b0:aH→Option (List ai)}{e fD:aH→Option fv}{i:fL}(h:p2 i.looks t dE)(ae:i.isLoad=false):o9 t b e i=o9 dE b0 fD i:=by
 cases i<;>simp only[fL.looks]at h<;>simp only[o9];case load agg sz x=>simp[fL.isLoad]at ae
 case loadB agg sz x=>simp[fL.isLoad]at ae
 case pick c x y=>obtain⟨J,ao⟩:=j5 h;obtain⟨J,U⟩:=j5 J;rw[gi J,gi U,gi ao]
 case iaddr=>obtain⟨J,U⟩:=j5 h;rw[gi J,gi U]
 case sidx=>obtain⟨J,U⟩:=j5 h;rw[gi J,gi U]
 case ssl=>obtain⟨J,ao⟩:=j5 h;obtain⟨J,U⟩:=j5 J;rw[gi J,D2 U,D2 ao]
 case lsl=>obtain⟨J,ao⟩:=j5 h;obtain⟨J,U⟩:=j5 J;rw[gi J,D2 U,D2 ao]
 case bin=>obtain⟨J,U⟩:=j5 h;rw[gi J,gi U]
 case min2=>obtain⟨J,U⟩:=j5 h;rw[gi J,gi U]
 case build=>rw[Nq h]
 case mkf=>rw[Fq h]
 case mget=>simp[fL.isLoad]at ae
 case mgetB=>simp[fL.isLoad]at ae
 case ment=>simp[fL.isLoad]at ae
 case mlen=>simp[fL.isLoad]at ae
 case max2=>obtain⟨J,U⟩:=j5 h;rw[gi J,gi U]
 case beq=>obtain⟨J,U⟩:=j5 h;rw[gi J,gi U]
 all_goals rw[gi h]
end Go.Pv
