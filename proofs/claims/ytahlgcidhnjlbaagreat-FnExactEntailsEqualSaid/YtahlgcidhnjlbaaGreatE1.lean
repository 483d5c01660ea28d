/- Regions that draw their order, I: abstract states as functions, effects, and what an instruction does to them. -/
import Derived.WalkKit
import Derived.Orders
import Derived.KernelRfl
import Derived.IntWalk
import Derived.Laws.StructEq
import Derived.ChangeKeysEq
import Derived.MapKept
import Derived.ArgAppend
import Derived.Laws.OwnMore
set_option linter.all false
set_option maxHeartbeats 4000000
open Array renaming getElem?_toList→ta
open BitVec renaming ofInt→p4
open Bool renaming and_eq_true→cz,eq_iff_iff→p5,false_eq_true→gP,not_eq_true'→rW
open ByteArray renaming ext→amY,size→asg
open Go renaming Program→cB,TypeId→fT
open Go.ByteArray renaming toList_eq→amZ
open Go.IntWalk renaming i64_in→oO
open Go.Op renaming bytesLess→hl
open Go.Region renaming wanted→oP
open Go.Result renaming andThen_ok→fJ
open Go.Sem renaming run_bind→fC,run_pure→gk
open Go.Value renaming cells→po,ownBlock→nO
open Go.Value.pointer renaming injEq→aso
open Go.World.grownBy renaming refl→am2
open List renaming all_eq_true→jc,cons_append→bT,getElem?_eq_getElem→cf,getElem?_eq_none→p7,getElem?_eq_some_iff→fN,length_append→pq,length_cons→p8,length_drop→r1,map_cons→gG,map_nil→mC,mem_append→jU,mem_cons→fU,mem_cons_of_mem→ps,mem_filter→mD,mem_map→h8,pairwise_cons→mE,replicate→qP,take→lJ,take_length→nP,take_of_length_le→hn
open List.cons renaming injEq→p6
open Nat renaming add_mul→pw,le_refl→eR,le_trans→jV
open Ne renaming symm→kR
open Option renaming bind_some→kS,isSome_iff_exists→fD,isSome_none→jW,map_eq_some_iff→gH,map_some→nQ
open Option.some renaming injEq→dG
open Prod.mk renaming injEq→jm
open _root_ renaming False→eo,UInt8→dB,beq_iff_eq→dL,congrArg→e7,decide_eq_true_eq→fE
namespace Go.Pv
open Go Go.RowKit
inductive aH where
 |loc (s:Nat)
 |obj (n:Nat)
 deriving DecidableEq,Inhabited
inductive AR where
 |no
 |nil
 |own (k:aH)
 |tr (k:aH) (j:Nat)
 |lo (k:aH)
 deriving DecidableEq,Inhabited
inductive ah where
 |junk
 |int (k:IntKind) (n:Int)
 |bool (b:Bool)
 |str (s:List dB)
 |slice (sz:Nat) (tag:AR) (xs:List ah)
 |agg (cs:List ah)
 |ptr (key:aH) (off:Nat)
 |eptr (x:ah)
 |iface (t:Nat) (x:ah)
 |nilp
 |tuple (ba:List ah)
 |func (f:Nat) (dp:List ah)
 |gmap (key:aH)
 |row (sz:Nat) (key:aH) (n:Nat)
 |rptr (sz:Nat) (key:aH) (n i f:Nat)
 |hdm (clock:Nat) (borns:List Nat)
 |hdi (since:Nat) (seen:List Nat) (last:Nat)
 |cst (v:Value)
 deriving Inhabited
structure bc where
 A:Nat→Nat→Prop
 bx:aH→Option Nat
 ow:aH→Option (Nat×Value)
 tr:aH→Nat→Nat→Prop
def lim:Nat:=68719476736
def lA(w:World)(A:Nat→Nat→Prop)(b:Nat):Nat→List Value→Prop
 |_,[]=>True
 |off,u::us=>(A b off∧w.cell? ⟨b,off,none⟩=some u)∧lA w A b (off+1) us
def shape(w:World)(b:Nat):Option (Nat×fT×(Nat×Nat)):=
 match w.heap[b]? with
 |some (.cells cur el fz)=>some (cur.size,el,fz)
 |_=>none
theorem vZ{w w':World}{b:Nat}(h:w'.heap[b]? =w.heap[b]?):shape w' b=shape w b:=by unfold shape;rw[h]
mutual
def fX(t:Bool)(w:World)(A:Nat→Nat→Prop)(F:Nat→Prop):ah→Value→Prop
 | .int k n,v=>v= .int k n
 | .bool b,v=>v= .bool b
 | .str s,v=>v= .string ⟨s.toArray⟩∧s.length≤lim
 | .slice sz _ xs,v=> ∃a cap,v= .slice a xs.length cap∧xs.length≤cap∧(cap≤maxLen∧xs.length≤lim)∧
   (xs=[]∨ ∃b off us G,a=some ⟨b,off,none⟩∧F b∧(∀c,G c→F c∧(t=true→c≠b))∧lA w A b off us∧(t=true→off=0∧0<us.length∧∃el,shape w b=some (cap*sz,el,(0,0)))∧tD t w A G sz xs us)
 | .agg cs,v=> ∃us:Array Value,v= .agg us∧tE t w A F cs us.toList
 |_,_=>eo
def tE(t:Bool)(w:World)(A:Nat→Nat→Prop)(F:Nat→Prop):List ah→List Value→Prop
 |[],us=>us=[]
 |c::cs,us=> ∃u ca hY h9,us=u::ca∧((∀b,hY b→F b)∧(∀b,h9 b→F b)∧(t=true→∀b,hY b→¬h9 b))∧(fX t w A hY c u∧u.oneCell'=true)∧tE t w A h9 cs ca
def tD(t:Bool)(w:World)(A:Nat→Nat→Prop)(F:Nat→Prop)(sz:Nat):List ah→List Value→Prop
 |[],us=>us=[]
 |x::xs,us=> ∃u ca hY h9,us=u.cells.toList++ca∧((∀b,hY b→F b)∧(∀b,h9 b→F b)∧(t=true→∀b,hY b→¬h9 b))∧(fX t w A hY x u∧u.cells.size=sz∧(∀c∈u.cells.toList,c.oneCell'=true))∧tD t w A h9 sz xs ca
end
mutual
def a7(w:World)(ν:bc):ah→Value→Prop
 | .junk,_=>True
 | .int k n,v=>v= .int k n
 | .bool b,v=>v= .bool b
 | .str s,v=>v= .string ⟨s.toArray⟩∧s.length≤lim
 | .slice sz tag xs,v=>
   (∃a cap,v= .slice a xs.length cap∧xs.length≤cap∧(cap≤maxLen∧xs.length≤lim)∧(xs=[]∨ ∃b off us,a=some ⟨b,off,none⟩∧lA w ν.A b off us∧dA w ν sz xs us))∧
   (tag= .nil→v= .slice none 0 0)∧
   (∀g,tag= .own g→∃n u,ν.ow g=some (n,u)∧xs.length≤n∧(xs.length=n→v=u))∧
   (∀k j,tag= .tr k j→fX true w ν.A (ν.tr k j) (.slice sz tag xs) v)∧(∀k,tag= .lo k→fX false w ν.A (ν.tr k 0) (.slice sz tag xs) v)
 | .agg cs,v=> ∃us:Array Value,v= .agg us∧cY w ν cs us.toList
 | .ptr key off,v=> ∃b,ν.bx key=some b∧v= .pointer (some ⟨b,off,none⟩)
 | .eptr x,v=> ∃b off u,v= .pointer (some ⟨b,off,none⟩)∧a7 w ν x u∧lA w ν.A b off u.cells.toList
 | .iface t x,v=> ∃u,v= .iface t u∧a7 w ν x u
 | .nilp,v=>v= .pointer none
 | .tuple ba,v=> ∃us:Array Value,v= .tuple us∧cK w ν ba us.toList
 | .func f dp,v=> ∃us:Array Value,v= .func (.func f) #[] us∧cK w ν dp us.toList
 | .gmap key,v=> ∃b,ν.bx key=some b∧v= .map (some b)
 | .row _ key n,v=>(∃b cap,v= .slice (some ⟨b,0,none⟩) n cap)∧n≤lim∧∃n' u,ν.ow key=some (n',u)∧n≤n'∧(n=n'→v=u)
 | .rptr sz key n i f,v=>(∃b o,v= .pointer (some ⟨b,o,none⟩))∧i<n∧∃n' u,ν.ow key=some (n',u)∧n≤n'∧(n=n'→∃b,u.ownBlock=some b∧v= .pointer (some ⟨b,i*sz+f,none⟩))
 | .hdm _ _,_=>eo
 | .hdi _ _ _,_=>eo
 | .cst c,v=>v=c
def cY(w:World)(ν:bc):List ah→List Value→Prop
 |[],us=>us=[]
 |c::cs,us=> ∃u ca,us=u::ca∧(a7 w ν c u∧u.oneCell'=true)∧cY w ν cs ca
def cK(w:World)(ν:bc):List ah→List Value→Prop
 |[],us=>us=[]
 |c::cs,us=> ∃u ca,us=u::ca∧a7 w ν c u∧cK w ν cs ca
def dA(w:World)(ν:bc)(sz:Nat):List ah→List Value→Prop
 |[],us=>us=[]
 |x::xs,us=> ∃u ca,us=u.cells.toList++ca∧(a7 w ν x u∧u.cells.size=sz∧(∀c∈u.cells.toList,c.oneCell'=true))∧dA w ν sz xs ca
end
theorem Fw{w w':World}{A gf:Nat→Nat→Prop}{b:Nat}(bg:∀b o,A b o→gf b o∧w'.cell? ⟨b,o,none⟩=w.cell? ⟨b,o,none⟩):
  ∀(us:List Value) (off:Nat),lA w A b off us→lA w' gf b off us
 |[],_,_=>trivial
 |_::us,off,h=>⟨⟨(bg _ _ h.1.1).1,(bg _ _ h.1.1).2.trans h.1.2⟩,Fw bg us (off+1) h.2⟩
mutual
theorem Et{t:Bool}{w w':World}{A gf:Nat→Nat→Prop}(bg:∀b o,A b o→gf b o∧w'.cell? ⟨b,o,none⟩=w.cell? ⟨b,o,none⟩)(ag:∀b o,A b o→shape w' b=shape w b):∀(p:ah) (F oR:Nat→Prop) (v:Value),(∀b,F b→oR b)→fX t w A F p v→fX t w' gf oR p v
 | .int k n,_,_,_,_,h=>by simp only[fX]at h⊢;exact h
 | .bool b,_,_,_,_,h=>by simp only[fX]at h⊢;exact h
 | .str s,_,_,_,_,h=>by simp only[fX]at h⊢;exact h
 | .slice sz tag xs,F,oR,v,gg,h=>by
  simp only[fX]at h⊢;obtain⟨a,cap,J,U,ao,a8⟩:=h;refine⟨a,cap,J,U,ao,?_⟩;rcases a8 with a8|⟨b,off,us,G,ak,aB,bf,dd,gS,hG⟩
  ·exact .inl a8
  ·refine .inr ⟨b,off,us,G,ak,gg _ aB,fun c ay=>⟨gg _ (bf c ay).1,(bf c ay).2⟩,Fw bg _ _ dd,fun aN=>?_,Q8 bg ag xs G G _ (fun _ h=>h) hG⟩;obtain⟨f1,f2,el,f3⟩:=gS aN;refine⟨f1,f2,el,?_⟩;cases us with
   |nil=>simp at f2
   |cons u us=>rw[ag b off dd.1.1];exact f3
 | .agg cs,F,oR,v,gg,h=>by simp only[fX]at h⊢;obtain⟨us,J,U⟩:=h;exact⟨us,J,Q9 bg ag cs F oR _ gg U⟩
 | .junk,_,_,_,_,h=>by simp[fX]at h
 | .ptr _ _,_,_,_,_,h=>by simp[fX]at h
 | .eptr _,_,_,_,_,h=>by simp[fX]at h
 | .iface _ _,_,_,_,_,h=>by simp[fX]at h
 | .nilp,_,_,_,_,h=>by simp[fX]at h
 | .tuple _,_,_,_,_,h=>by simp[fX]at h
 | .func _ _,_,_,_,_,h=>by simp[fX]at h
 | .gmap _,_,_,_,_,h=>by simp[fX]at h
 | .row _ _ _,_,_,_,_,h=>by simp[fX]at h
 | .rptr _ _ _ _ _,_,_,_,_,h=>by simp[fX]at h
 | .hdm _ _,_,_,_,_,h=>by simp[fX]at h
 | .hdi _ _ _,_,_,_,_,h=>by simp[fX]at h
 | .cst _,_,_,_,_,h=>by simp[fX]at h
theorem Q9{t:Bool}{w w':World}{A gf:Nat→Nat→Prop}(bg:∀b o,A b o→gf b o∧w'.cell? ⟨b,o,none⟩=w.cell? ⟨b,o,none⟩)(ag:∀b o,A b o→shape w' b=shape w b):∀(cs:List ah) (F oR:Nat→Prop) (us:List Value),(∀b,F b→oR b)→tE t w A F cs us→tE t w' gf oR cs us
 |[],_,_,_,_,h=>by simp only[tE]at h⊢;exact h
 |c::cs,F,oR,us,gg,h=>by simp only[tE]at h⊢;obtain⟨u,ca,hY,h9,J,⟨U,ao,a8⟩,⟨bZ,c7⟩,ee⟩:=h;exact⟨u,ca,hY,h9,J,⟨fun b ae=>gg _ (U b ae),fun b ae=>gg _ (ao b ae),a8⟩,⟨Et bg ag c hY hY u (fun _ h=>h) bZ,c7⟩,Q9 bg ag cs h9 h9 ca (fun _ h=>h) ee⟩
theorem Q8{t:Bool}{w w':World}{A gf:Nat→Nat→Prop}(bg:∀b o,A b o→gf b o∧w'.cell? ⟨b,o,none⟩=w.cell? ⟨b,o,none⟩)(ag:∀b o,A b o→shape w' b=shape w b){sz:Nat}:∀(cs:List ah) (F oR:Nat→Prop) (us:List Value),(∀b,F b→oR b)→tD t w A F sz cs us→tD t w' gf oR sz cs us
 |[],_,_,_,_,h=>by simp only[tD]at h⊢;exact h
 |c::cs,F,oR,us,gg,h=>by simp only[tD]at h⊢;obtain⟨u,ca,hY,h9,J,⟨U,ao,a8⟩,⟨bZ,c7⟩,ee⟩:=h;exact⟨u,ca,hY,h9,J,⟨fun b ae=>gg _ (U b ae),fun b ae=>gg _ (ao b ae),a8⟩,⟨Et bg ag c hY hY u (fun _ h=>h) bZ,c7⟩,Q8 bg ag cs h9 h9 ca (fun _ h=>h) ee⟩
end
mutual
def aC(S:aH→Prop):ah→Prop
 | .slice _ tag xs=>(match tag with| .own k=>S k| .tr k _=>S k| .lo k=>S k|_=>True)∧aJ S xs
 | .agg cs=>aJ S cs
 | .ptr k _=>S k
 | .eptr x=>aC S x
 | .iface _ x=>aC S x
 | .tuple ba=>aJ S ba
 | .func _ dp=>aJ S dp
 | .gmap k=>S k
 | .row _ k _=>S k
 | .rptr _ k _ _ _=>S k
 |_=>True
def aJ(S:aH→Prop):List ah→Prop
 |[]=>True
 |x::xs=>aC S x∧aJ S xs
end
mutual
theorem vB{S T:aH→Prop}(h:∀k,S k→T k):∀p:ah,aC S p→aC T p
 | .junk,_=>by simp[aC]
 | .int _ _,_=>by simp[aC]
 | .bool _,_=>by simp[aC]
 | .str _,_=>by simp[aC]
 | .slice sz tag xs,bI=>by simp only[aC]at bI⊢;exact⟨by cases tag<;>first|trivial|exact h _ bI.1,jL h xs bI.2⟩
 | .agg cs,bI=>by simp only[aC]at bI⊢;exact jL h cs bI
 | .ptr k _,bI=>by simp only[aC]at bI⊢;exact h _ bI
 | .eptr x,bI=>by simp only[aC]at bI⊢;exact vB h x bI
 | .iface _ x,bI=>by simp only[aC]at bI⊢;exact vB h x bI
 | .nilp,_=>by simp[aC]
 | .tuple ba,bI=>by simp only[aC]at bI⊢;exact jL h ba bI
 | .func _ dp,bI=>by simp only[aC]at bI⊢;exact jL h dp bI
 | .gmap k,bI=>by simp only[aC]at bI⊢;exact h _ bI
 | .row _ k _,bI=>by simp only[aC]at bI⊢;exact h _ bI
 | .rptr _ k _ _ _,bI=>by simp only[aC]at bI⊢;exact h _ bI
 | .hdm _ _,_=>by simp[aC]
 | .hdi _ _ _,_=>by simp[aC]
 | .cst _,_=>by simp[aC]
theorem jL{S T:aH→Prop}(h:∀k,S k→T k):∀cg:List ah,aJ S cg→aJ T cg
 |[],_=>by simp[aJ]
 |x::xs,bI=>by simp only[aJ]at bI⊢;exact⟨vB h x bI.1,jL h xs bI.2⟩
end
mutual
theorem Ft:∀p:ah,aC (fun _=>True) p
 | .junk=>by simp[aC]
 | .int _ _=>by simp[aC]
 | .bool _=>by simp[aC]
 | .str _=>by simp[aC]
 | .slice sz tag xs=>by simp only[aC];exact⟨by cases tag<;>trivial,tX xs⟩
 | .agg cs=>by simp only[aC];exact tX cs
 | .ptr k _=>by simp[aC]
 | .eptr x=>by simp only[aC];exact Ft x
 | .iface _ x=>by simp only[aC];exact Ft x
 | .nilp=>by simp[aC]
 | .tuple ba=>by simp only[aC];exact tX ba
 | .func _ dp=>by simp only[aC];exact tX dp
 | .gmap k=>by simp[aC]
 | .row _ k _=>by simp[aC]
 | .rptr _ k _ _ _=>by simp[aC]
 | .hdm _ _=>by simp[aC]
 | .hdi _ _ _=>by simp[aC]
 | .cst _=>by simp[aC]
theorem tX:∀cg:List ah,aJ (fun _=>True) cg
 |[]=>by simp[aJ]
 |x::xs=>by simp only[aJ];exact⟨Ft x,tX xs⟩
end
def fx:List Nat→List Value→List MapEntry
 |b::eS,k::v::r=>⟨k,v,b⟩::fx eS r
 |_,_=>[]
def jD(cs:List ah)(us:Array Value)(el:fT):Obj:=
 match cs with
 | .hdm clock borns::_=>.map (fx borns us.toList).toArray clock
 | .hdi since seen last::_=>.mapIter (match us.toList with|[.map m]=>m|_=>none) since seen.toArray last
 |_=>.cells us el
structure agh (clock:Nat) (borns:List Nat) (r:List ah):Prop where
 len:r.length=2*borns.length
 inc:borns.Pairwise (· < ·)
 lt:∀b∈borns,b<clock
def iZ(w:World)(ν:bc)(cs:List ah)(us:List Value):Prop:=
 match cs with
 | .hdm clock borns::r=>cK w ν r us∧agh clock borns r
 | .hdi _ _ _::r=>cK w ν r us
 |cs=>cY w ν cs us
def hN:List ah→Bool
 | .hdm _ _::_=>false
 | .hdi _ _ _::_=>false
 |_=>true
theorem Am{w:World}{ν:bc}{cs:List ah}{us:List Value}(h:cY w ν cs us):hN cs=true:=by
 unfold hN;split
 ·simp only[cY,a7]at h;obtain⟨_,_,_,⟨h,_⟩,_⟩:=h;exact h.elim
 ·simp only[cY,a7]at h;obtain⟨_,_,_,⟨h,_⟩,_⟩:=h;exact h.elim
 ·rfl
theorem um{cs:List ah}(h:hN cs=true)(us:Array Value)(el:fT):jD cs us el= .cells us el:=by
 unfold hN at h;unfold jD;split at h<;>first|cases h|skip
 rfl
theorem uo{w:World}{ν:bc}{cs:List ah}(h:hN cs=true)(us:List Value):iZ w ν cs us=cY w ν cs us:=by
 unfold hN at h;unfold iZ;split at h<;>first|cases h|skip
 rfl
structure nS (S:aH→Prop) (w:World) (ν:bc) (w':World) (bk:bc):Prop where
 A:∀b o,ν.A b o→bk.A b o∧w'.cell? ⟨b,o,none⟩=w.cell? ⟨b,o,none⟩
 bx:∀k b,S k→ν.bx k=some b→bk.bx k=some b
 ow:∀g n u,S g→ν.ow g=some (n,u)→∃n' e6,bk.ow g=some (n',e6)∧(n'=n∧e6=u∨n<n')
 sh:∀b o,ν.A b o→shape w' b=shape w b
 tr:∀k j b,S k→ν.tr k j b→bk.tr k j b
abbrev ld:=nS (fun _=>True)
mutual
theorem j7{S:aH→Prop}{w w':World}{ν bk:bc}(av:nS S w ν w' bk):∀(p:ah) (v:Value),aC S p→a7 w ν p v→a7 w' bk p v
 | .junk,_,_,_=>by simp[a7]
 | .int k n,_,_,h=>by simp only[a7]at h⊢;exact h
 | .bool b,_,_,h=>by simp only[a7]at h⊢;exact h
 | .str s,_,_,h=>by simp only[a7]at h⊢;exact h
 | .slice sz tag xs,v,ad,h=>by
  simp only[a7,aC]at h ad⊢;obtain⟨⟨a,cap,J,U,ao,a8⟩,bZ,c7,nz,si⟩:=h;refine⟨⟨a,cap,J,U,ao,?_⟩,bZ,fun g a1=>?_,fun k j nA=>?_,fun k nA=>?_⟩
  ·rcases a8 with a8|⟨b,off,us,a8,c7,ee⟩
   ·exact .inl a8
   ·exact .inr ⟨b,off,us,a8,Fw av.A _ _ c7,Gu av sz xs us ad.2 ee⟩
  ·obtain⟨n,u,ak,aB,bf⟩:=c7 g a1;subst a1;obtain⟨n',e6,f1,f2⟩:=av.ow g n u ad.1 ak;refine⟨n',e6,f1,?_⟩;rcases f2 with⟨rfl,rfl⟩|f2
   ·exact⟨aB,bf⟩
   ·exact⟨by omega,fun e=>by omega⟩
  ·have:=nz k j nA;subst nA;exact Et av.A av.sh _ _ _ _ (fun b=>av.tr k j b ad.1) this
  ·have:=si k nA;subst nA;exact Et av.A av.sh _ _ _ _ (fun b=>av.tr k 0 b ad.1) this
 | .agg cs,v,ad,h=>by simp only[a7,aC]at h ad⊢;obtain⟨us,J,U⟩:=h;exact⟨us,J,Gx av cs _ ad U⟩
 | .ptr key off,v,ad,h=>by simp only[a7,aC]at h ad⊢;obtain⟨b,J,U⟩:=h;exact⟨b,av.bx _ _ ad J,U⟩
 | .iface t x,v,ad,h=>by simp only[a7,aC]at h ad⊢;obtain⟨u,J,U⟩:=h;exact⟨u,J,j7 av x u ad U⟩
 | .eptr x,v,ad,h=>by simp only[a7,aC]at h ad⊢;obtain⟨b,off,u,J,U,ao⟩:=h;exact⟨b,off,u,J,j7 av x u ad U,Fw av.A _ _ ao⟩
 | .nilp,_,_,h=>by simp only[a7]at h⊢;exact h
 | .tuple ba,v,ad,h=>by simp only[a7,aC]at h ad⊢;obtain⟨us,J,U⟩:=h;exact⟨us,J,xZ av ba _ ad U⟩
 | .func f dp,v,ad,h=>by simp only[a7,aC]at h ad⊢;obtain⟨us,J,U⟩:=h;exact⟨us,J,xZ av dp _ ad U⟩
 | .gmap key,v,ad,h=>by simp only[a7,aC]at h ad⊢;obtain⟨b,J,U⟩:=h;exact⟨b,av.bx _ _ ad J,U⟩
 | .row sz key n,v,ad,h=>by
  simp only[a7,aC]at h ad⊢;obtain⟨J,U,n',u,ao,a8,bZ⟩:=h;obtain⟨fZ,iL,f1,f2⟩:=av.ow key n' u ad ao;refine⟨J,U,fZ,iL,f1,?_⟩;rcases f2 with⟨rfl,rfl⟩|f2
  ·exact⟨a8,bZ⟩
  ·exact⟨by omega,fun e=>by omega⟩
 | .rptr sz key n i f,v,ad,h=>by
  simp only[a7,aC]at h ad⊢;obtain⟨J,U,n',u,ao,a8,bZ⟩:=h;obtain⟨fZ,iL,f1,f2⟩:=av.ow key n' u ad ao;refine⟨J,U,fZ,iL,f1,?_⟩;rcases f2 with⟨rfl,rfl⟩|f2
  ·exact⟨a8,bZ⟩
  ·exact⟨by omega,fun e=>by omega⟩
 | .hdm _ _,_,_,h=>by simp only[a7]at h
 | .hdi _ _ _,_,_,h=>by simp only[a7]at h
 | .cst c,_,_,h=>by simp only[a7]at h⊢;exact h
theorem Gx{S:aH→Prop}{w w':World}{ν bk:bc}(av:nS S w ν w' bk):∀(cs:List ah) (us:List Value),aJ S cs→cY w ν cs us→cY w' bk cs us
 |[],_,_,h=>by simp only[cY]at h⊢;exact h
 |c::cs,us,ad,h=>by simp only[cY,aJ]at h ad⊢;obtain⟨u,ca,J,U,ao⟩:=h;exact⟨u,ca,J,⟨j7 av c u ad.1 U.1,U.2⟩,Gx av cs ca ad.2 ao⟩
theorem xZ{S:aH→Prop}{w w':World}{ν bk:bc}(av:nS S w ν w' bk):∀(cs:List ah) (us:List Value),aJ S cs→cK w ν cs us→cK w' bk cs us
 |[],_,_,h=>by simp only[cK]at h⊢;exact h
 |c::cs,us,ad,h=>by simp only[cK,aJ]at h ad⊢;obtain⟨u,ca,J,U,ao⟩:=h;exact⟨u,ca,J,j7 av c u ad.1 U,xZ av cs ca ad.2 ao⟩
theorem Gu{S:aH→Prop}{w w':World}{ν bk:bc}(av:nS S w ν w' bk)(sz:Nat):∀(xs:List ah) (us:List Value),aJ S xs→dA w ν sz xs us→dA w' bk sz xs us
 |[],_,_,h=>by simp only[dA]at h⊢;exact h
 |x::xs,us,ad,h=>by simp only[dA,aJ]at h ad⊢;obtain⟨u,ca,J,⟨U,ao,a8⟩,bZ⟩:=h;exact⟨u,ca,J,⟨j7 av x u ad.1 U,ao,a8⟩,Gu av sz xs ca ad.2 bZ⟩
end
theorem VX{S:aH→Prop}{w w':World}{ν bk:bc}(av:nS S w ν w' bk){cs:List ah}{us:List Value}(ad:aJ S cs)(h:iZ w ν cs us):iZ w' bk cs us:=by
 unfold iZ at h⊢;split
 ·simp only[aJ]at ad;exact⟨xZ av _ _ ad.2 h.1,h.2⟩
 ·simp only[aJ]at ad;exact xZ av _ _ ad.2 h
 ·rename_i J U;split at h
  ·exact absurd rfl (J _ _ _)
  ·exact absurd rfl (U _ _ _ _)
  ·exact Gx av _ _ ad h
section
variable {w w':World} {ν bk:bc} (av:ld w ν w' bk)
include av
theorem x0{p:ah}{v:Value}(h:a7 w ν p v):a7 w' bk p v:=j7 av p v (Ft p) h
theorem V2{p:List ah}{v:List Value}(h:cY w ν p v):cY w' bk p v:=Gx av p v (tX p) h
theorem Gz{p:List ah}{v:List Value}(h:cK w ν p v):cK w' bk p v:=xZ av p v (tX p) h
theorem p0{p:List ah}{v:List Value}(h:iZ w ν p v):iZ w' bk p v:=VX av (tX p) h
theorem Aj{sz:Nat}{p:List ah}{v:List Value}(h:dA w ν sz p v):dA w' bk sz p v:=Gu av sz p v (tX p) h
end
end Go.Pv
namespace Go.Pv
open Go Go.RowKit
def get(k:Nat):List (Nat×ah)→ah
 |[]=>.junk
 |(i,p)::r=>if i=k then p else get k r
def put(k:Nat)(p:ah):List (Nat×ah)→List (Nat×ah)
 |[]=>[(k,p)]
 |(i,q)::r=>if i=k then(i,p)::r else(i,q)::put k p r
def look{α:Type}(k:aH):List (aH×α)→Option α
 |[]=>none
 |(i,p)::r=>if i=k then some p else look k r
def cw{α:Type}(k:aH)(p:α):List (aH×α)→List (aH×α)
 |[]=>[(k,p)]
 |(i,q)::r=>if i=k then(i,p)::r else(i,q)::cw k p r
theorem o5(k j:Nat)(p:ah):∀l,get j (put k p l)=if k=j then p else get j l
 |[]=>by simp[get,put]
 |(i,q)::r=>by
  by_cases h:i=k
  ·subst h;by_cases U:i=j<;>simp[get,put,U]
  ·by_cases U:i=j
   ·subst U;simp[get,put,h,kR h]
   ·simp[get,put,h,U,o5 k j p r]
theorem iI{α:Type}(k j:aH)(p:α):∀l,look j (cw k p l)=if k=j then some p else look j l
 |[]=>by simp[look,cw]
 |(i,q)::r=>by
  by_cases h:i=k
  ·subst h;by_cases U:i=j<;>simp[look,cw,U]
  ·by_cases U:i=j
   ·subst U;simp[look,cw,h,kR h]
   ·simp[look,cw,h,U,iI k j p r]
structure fF where
 n:Nat
 el:Nat
 sz:Nat
 xs:Option (List ah)
def L0(w:World)(ν:bc)(o:fF)(v:Value)(us:List Value):Prop:=∀xs,o.xs=some xs→xs.length=o.n∧dA w ν o.sz xs us∧∀bl,v.ownBlock=some bl→∀j,¬ν.A bl j
theorem rL{w w':World}{ν bk:bc}(av:ld w ν w' bk){o:fF}{v:Value}{us:List Value}(bg:∀bl,v.ownBlock=some bl→∀j,bk.A bl j→ν.A bl j)(h:L0 w ν o v us):L0 w' bk o v us:=fun xs ab=>⟨(h xs ab).1,Aj av (h xs ab).2.1,fun bl ae j af=>(h xs ab).2.2 bl ae j (bg bl ae j af)⟩
def dP(S:aH→Prop)(o:fF):Prop:= ∀xs,o.xs=some xs→aJ S xs
structure bq where
 t:List (Nat×ah)
 b:List (aH×List ah)
 e:List (aH×fF)
 n:Nat
 o:List aH
def fresh(n:Nat)(o:List aH)(k:aH):Prop:=(match k with| .loc m=>n≤m| .obj _=>True)∧k∉o
theorem IW{n n':Nat}{o o':List aH}(aw:n≤n')(av:∀k∈o,k∈o'){k:aH}(h:fresh n' o' k):fresh n o k:=by unfold fresh at h⊢;exact⟨by cases k<;>simp at h⊢;omega,fun ad=>h.2 (av k ad)⟩
def My(ν:bc)(b:List (aH×List ah))(e:List (aH×fF))(bl:Nat):Prop:=(∃k,(look k b).isSome∧ν.bx k=some bl)∨(∃g n v,(look g e).isSome∧ν.ow g=some (n,v)∧v.ownBlock=some bl)
structure Good (pr:Nat→Prop) (w:World) (ν:bc) (b:List (aH×List ah)) (e:List (aH×fF)):Prop where
 alt:∀bl o,ν.A bl o→bl<w.heap.size
 box:∀k cs,look k b=some cs→∃bl us el,ν.bx k=some bl∧pr bl∧(∀o,¬ν.A bl o)∧w.heap[bl]? =some (jD cs us el)∧iZ w ν cs us.toList
 inj:∀k bL bl,(look k b).isSome→(look bL b).isSome→ν.bx k=some bl→ν.bx bL=some bl→k=bL
 own:∀g o,look g e=some o→∃v us,ν.ow g=some (o.n,v)∧w.ownsRow 0 o.el o.sz v o.n us∧(∀bl,v.ownBlock=some bl→pr bl∧(∀j,ν.A bl j→j<o.n*o.sz))∧L0 w ν o v us
 oinj:∀g e3 n n' v v' bl,(look g e).isSome→(look e3 e).isSome→ν.ow g=some (n,v)→ν.ow e3=some (n',v')→v.ownBlock=some bl→v'.ownBlock=some bl→g=e3
 obx:∀g k n v bl,(look g e).isSome→(look k b).isSome→ν.ow g=some (n,v)→v.ownBlock=some bl→ν.bx k=some bl→eo
 one:∀k,ν.bx k=none∨ν.ow k=none
 otr:∀bl,My ν b e bl→∀k j,¬ν.tr k j bl
structure e8 where
 w0:World
 ν0:bc
 mt:Nat→Prop
 N:Nat
 ob:List aH
def e8.pr(C:e8)(bl:Nat):Prop:=C.mt bl∨C.w0.heap.size≤bl
def akv:aH:= .obj 990001
def fS:aH:= .obj 990002
structure pA (C:e8) (w:World) (ν:bc):Prop where
 os:w.os=C.w0.os
 tape:w.tape=C.w0.tape
 output:w.output=C.w0.output
 size:C.w0.heap.size≤w.heap.size
 block:∀k,k<C.w0.heap.size→¬C.mt k→w.heap[k]? =C.w0.heap[k]?
 keep:∀b o,C.ν0.A b o→ν.A b o∧w.cell? ⟨b,o,none⟩=C.w0.cell? ⟨b,o,none⟩
 fresh:∀b o,ν.A b o→C.ν0.A b o∨C.pr b
 obj:∀n b,C.ν0.bx (.obj n)=some b→ν.bx (.obj n)=some b
 obn:∀n b,C.ν0.bx (.obj n)=some b→ .obj n∈C.ob
 row:∀m n u,C.ν0.ow (.obj m)=some (n,u)→∃n' e6,ν.ow (.obj m)=some (n',e6)∧(n'=n∧e6=u∨n<n')
 obr:∀m n u,C.ν0.ow (.obj m)=some (n,u)→ .obj m∈C.ob
 trd:∀k j bL dD b,ν.tr k j b→ν.tr bL dD b→k=bL∧j=dD
 trb:∀k j b,ν.tr k j b→(k=akv∨C.w0.heap.size≤b)∧b<w.heap.size
 trn:∀k j b,ν.tr k j b→ν.bx k=none∧ν.ow k=none
 sh:∀b o,C.ν0.A b o→shape w b=shape C.w0 b
theorem C0{ν bk:bc}{g:aH}{n:Nat}{u:Value}(h:∃n' e6,ν.ow g=some (n',e6)∧(n'=n∧e6=u∨n<n'))(av:∀n u,ν.ow g=some (n,u)→∃n' e6,bk.ow g=some (n',e6)∧(n'=n∧e6=u∨n<n')):
  ∃n' e6,bk.ow g=some (n',e6)∧(n'=n∧e6=u∨n<n'):=by
 obtain⟨hV,h7,ak,aB⟩:=h;obtain⟨fZ,iL,f1,f2⟩:=av hV h7 ak;refine⟨fZ,iL,f1,?_⟩;rcases aB with⟨rfl,rfl⟩|aB
 ·exact f2
 ·rcases f2 with⟨rfl,rfl⟩|f2
  ·exact .inr aB
  ·exact .inr (by omega)
structure cO (C:e8) (st:bq) (a:Act) (w:World) (ν:bc):Prop where
 good:Good C.pr w ν st.b st.e
 fr:pA C w ν
 defers:a.defers=[]
 size:a.tmps.size=C.N
 slot:∀i,a7 w ν (get i st.t) (a.tmps.getD i undef)
 new:∀k,fresh st.n st.o k→ν.bx k=none∧ν.ow k=none∧∀j b,¬ν.tr k j b
def eQ(d:Option Nat)(p:ah)(t:List (Nat×ah)):List (Nat×ah):=
 match d with
 |some d=>put d p t
 |none=>t
def jf(N:Nat)(d:Option Nat):Bool:=match d with|some d=>decide (d<N)|none=>true
theorem cO.put{C:e8}{st:bq}{a:Act}{w:World}{ν:bc}(h:cO C st a w ν){d:Option Nat}(aQ:jf C.N d=true){p:ah}{v:Value}(bI:a7 w ν p v):
  cO C {st with t:=eQ d p st.t} (a.put d v) w ν:=by
 cases d with
 |none=>exact h
 |some d=>
  have bC:d<a.tmps.size:=by rw[h.size];simpa[jf]using aQ
  refine⟨h.good,h.fr,h.defers,by simpa[Act.put]using h.size,fun i=>?_,h.new⟩;simp only[eQ,o5];by_cases e:d=i
  ·subst e;simpa[Act.put,Array.getD_eq_getD_getElem?,bC]using bI
  ·have:=h.slot i;simpa[e,Act.put,Array.getD_eq_getD_getElem?,Array.getElem?_setIfInBounds_ne e]using this
theorem cO.over{C:e8}{st st':bq}{a:Act}{w w':World}{ν bk:bc}(h:cO C st a w ν)(av:ld w ν w' bk)(aN:st'.t=st.t)(a1:Good C.pr w' bk st'.b st'.e)(aI:pA C w' bk)
  (aw:∀k,fresh st'.n st'.o k→bk.bx k=none∧bk.ow k=none∧∀j b,¬bk.tr k j b):cO C st' a w' bk:=
 ⟨a1,aI,h.defers,h.size,fun i=>by rw[aN];exact x0 av (h.slot i),aw⟩
inductive ds where
 |t (i:Nat)
 |c (p:ah)
 deriving Inhabited
def cm(t:List (Nat×ah)):ds→ah
 | .t i=>get i t
 | .c p=>p
def DL:ah→Value→Bool
 | .int k n,.int bL n'=>decide (k=bL∧n=n')
 | .bool b,.bool bO=>b==bO
 | .str s,.string l=>decide (l.data.toList=s∧s.length≤lim)
 | .slice _ .nil [],.slice none 0 0=>true
 | .nilp,.pointer none=>true
 | .tuple [],.tuple ⟨[]⟩=>true
 | .func f [],.func (.func g) ⟨[]⟩ ⟨[]⟩=>f==g
 | .junk,_=>true
 |_,_=>false
theorem NX(w:World)(ν:bc){p:ah}{v:Value}(h:DL p v=true):a7 w ν p v:=by
 unfold DL at h;split at h
 ·simp at h;obtain⟨rfl,rfl⟩:=h;simp[a7]
 ·simp at h;subst h;simp[a7]
 ·rename_i s l;simp at h;obtain⟨J,U⟩:=h;refine⟨?_,U⟩;subst J;simp
 ·simp only[a7];refine⟨⟨none,0,rfl,by simp,by simp,by simp⟩,by simp,(fun _ h=>by cases h),(fun _ _ h=>by cases h),(fun _ h=>by cases h)⟩
 ·simp[a7]
 ·simp[a7,cK]
 ·simp at h;subst h;simp[a7,cK]
 ·simp[a7]
 ·cases h
def yx:List ah→List Value→Bool
 |[],[]=>true
 |p::cg,v::ba=>DL p v&&v.oneCell'&&yx cg ba
 |_,_=>false
def yw:ah→Value→Bool
 | .agg cs,.agg us=>yx cs us.toList
 |p,v=>DL p v
theorem NY(w:World)(ν:bc):∀(cg:List ah) (ba:List Value),yx cg ba=true→cY w ν cg ba
 |[],[],_=>by simp[cY]
 |[],_::_,h=>by simp[yx]at h
 |_::_,[],h=>by simp[yx]at h
 |p::cg,v::ba,h=>by simp only[yx,cz]at h;simp only[cY];exact⟨v,ba,rfl,⟨NX w ν h.1.1,h.1.2⟩,NY w ν cg ba h.2⟩
theorem HJ(w:World)(ν:bc){p:ah}{v:Value}(h:yw p v=true):a7 w ν p v:=by
 unfold yw at h;split at h
 ·simp only[a7];exact⟨_,rfl,NY w ν _ _ h⟩
 ·exact NX w ν h
def eg:ds→Operand→Bool
 | .t i,.tmp j=>i==j
 | .c p,.const v=>yw p v
 | .c (.func f []),.func g=>f==g
 |_,_=>false
theorem eh{C:e8}{st:bq}{a:Act}{w:World}{ν:bc}(h:cO C st a w ν){x:ds}{o:Operand}(ab:eg x o=true):a7 w ν (cm st.t x) (a.eval o):=by
 unfold eg at ab;split at ab
 ·simp at ab;subst ab;simpa[cm,Act.eval]using h.slot _
 ·simpa[cm,Act.eval]using HJ w ν ab
 ·simp at ab;subst ab;simp[cm,Act.eval,a7,cK]
 ·cases ab
inductive AQ where
 |int (k:IntKind)
 |bool
 |str
 |slice (e:Nat)
 |struct (dK:List (Nat×Nat))
 |map (k e:Nat)
 |other
 deriving DecidableEq
structure dC where
 size:Nat
 bytes:Nat
 kind:AQ
 zero:ah
def AQ.isAgg:AQ→Bool
 | .struct _=>true
 |_=>false
def AJ:List ah→List Value→Bool
 |[],[]=>true
 |p::cg,v::ba=>yw p v&&v.oneCell'&&AJ cg ba
 |_,_=>false
def yi:ah→Value→Bool
 | .agg cs,.agg us=>AJ cs us.toList
 | .agg _,_=>false
 |p,v=>yw p v&&v.oneCell'
def j0:AQ→TypeDesc→Bool
 | .int k,.int bL=>decide (k=bL)
 | .bool,.bool=>true
 | .str,.string=>true
 | .slice e,.slice fL=>e==fL
 | .struct dK,.struct gs=>decide (gs.toList.map (fun f=>(f.offset,f.type))=dK)
 | .map k e,.map bL fL=>k==bL&&e==fL
 | .other,d=>match d with| .struct _| .array _ _| .int _| .bool| .string| .slice _=>false|_=>true
 |_,_=>false
def Q0(P:cB)(gs:Array Field):Bool:=gs.toList.all fun f=>match P.underlying f.type with|some (.int _)=>true|some .string=>true|_=>false
def Qa(P:cB)(t:Nat)(gs:Array Field):Bool:=gs.toList.all (fun f=>f.name != "_")&& !P.stoodInHeld t&& !P.eqGuardType P.depth t
def Ia(P:cB)(t:Nat):TypeDesc→Bool
 | .struct gs=> !Q0 P gs||Qa P t gs
 |_=>true
def MB(P:cB)(t:Nat)(f:dC):Bool:=
 match P.info? t,P.underlying t with
 |some i,some d=>Ia P t d&&i.size==f.size&&i.bytes==f.bytes&&j0 f.kind d&&(match i.zero with|some z=>yi f.zero z&&z.cells.size==f.size|none=>false)
 |_,_=>false
def fM(P:cB)(bA:List (Nat×dC)):Bool:=bA.all fun x=>MB P x.1 x.2
def dU(bA:List (Nat×dC))(t:Nat):Option dC:=(bA.find? fun x=>x.1==t).map (·.2)
theorem alf{P:cB}{bA:List (Nat×dC)}(h:fM P bA=true){t:Nat}{f:dC}(aI:dU bA t=some f):MB P t f=true:=by
 unfold dU at aI;cases ab:bA.find? fun x=>x.1==t with
 |none=>simp[ab]at aI
 |some x=>simp[ab]at aI;have J:=List.find?_some ab;simp at J;have U:=List.mem_of_find?_eq_some ab;have ao:=jc.1 h x U;rw[←aI,←J];exact ao
structure XZ (P:cB) (t:Nat) (f:dC):Prop where
 cmp:∀d,P.underlying t=some d→Ia P t d=true
 ex:∃i d z,P.info? t=some i∧P.underlying t=some d∧i.size=f.size∧i.bytes=f.bytes∧j0 f.kind d=true∧i.zero=some z∧yi f.zero z=true∧z.cells.size=f.size
theorem uI{P:cB}{bA:List (Nat×dC)}(h:fM P bA=true){t:Nat}{f:dC}(aI:dU bA t=some f):XZ P t f:=by
 have h:=alf h aI;unfold MB at h;split at h
 ·rename_i i d J U;simp only[cz,dL]at h;obtain⟨⟨⟨⟨bB,ao⟩,a8⟩,bZ⟩,c7⟩:=h;split at c7
  ·rename_i z br;simp only[cz,dL]at c7;exact⟨fun b8 mg=>by rw[U]at mg;cases mg;exact bB,i,d,z,J,U,ao,a8,bZ,br,c7.1,c7.2⟩
  ·cases c7
 ·cases h
theorem oT(b o j:Nat):(⟨b,o,none⟩:Addr).add j=⟨b,o+j,none⟩:=by
 unfold Addr.add;split
 ·rename_i h;subst h;rfl
 ·rfl
theorem M5(w:World)(ν:bc):∀(cg:List ah) (ba:List Value),AJ cg ba=true→cY w ν cg ba
 |[],[],_=>by simp[cY]
 |[],_::_,h=>by simp[AJ]at h
 |_::_,[],h=>by simp[AJ]at h
 |p::cg,v::ba,h=>by simp only[AJ,cz]at h;simp only[cY];exact⟨v,ba,rfl,⟨HJ w ν h.1.1,h.1.2⟩,M5 w ν cg ba h.2⟩
def cells:ah→List ah
 | .agg cs=>cs
 |p=>[p]
def dX:ah→Bool
 | .junk| .tuple _=>false
 | .cst (.slice _ _ _)| .cst (.string _)=>true
 | .cst _=>false
 |_=>true
theorem LZ{w:World}{ν:bc}{p:ah}{v:Value}(h:a7 w ν p v)(ag:dX p=true)(bE:∀cs,p≠ .agg cs):v.oneCell'=true∧v.cells= #[v]:=by
 cases p<;>simp only[a7,dX]at h ag;case junk=>cases ag
 case tuple=>cases ag
 case cst c=>subst h;cases v<;>first|exact⟨rfl,rfl⟩|cases ag
 case agg cs=>exact absurd rfl (bE cs)
 case int=>subst h;exact⟨rfl,rfl⟩
 case bool=>subst h;exact⟨rfl,rfl⟩
 case str=>rw[h.1];exact⟨rfl,rfl⟩
 case slice=>obtain⟨⟨a,cap,J,_⟩,_⟩:=h;subst J;exact⟨rfl,rfl⟩
 case ptr=>obtain⟨b,_,J⟩:=h;subst J;exact⟨rfl,rfl⟩
 case eptr=>obtain⟨b,o,u,J,_⟩:=h;subst J;exact⟨rfl,rfl⟩
 case iface=>obtain⟨u,J,_⟩:=h;subst J;exact⟨rfl,rfl⟩
 case nilp=>subst h;exact⟨rfl,rfl⟩
 case func=>obtain⟨us,J,_⟩:=h;subst J;exact⟨rfl,rfl⟩
 case gmap=>obtain⟨b,_,J⟩:=h;subst J;exact⟨rfl,rfl⟩
 case row=>obtain⟨⟨a,cap,J⟩,_⟩:=h;subst J;exact⟨rfl,rfl⟩
 case rptr=>obtain⟨⟨a,o,J⟩,_⟩:=h;subst J;exact⟨rfl,rfl⟩
theorem uy{w:World}{ν:bc}{p:ah}{v:Value}(h:a7 w ν p v)(ag:dX p=true):cY w ν (cells p) v.cells.toList:=by
 by_cases bE:∃cs,p= .agg cs
 ·obtain⟨cs,rfl⟩:=bE;simp only[a7]at h;obtain⟨us,rfl,U⟩:=h;simpa[cells,po]using U
 ·have mP:∀cs,p≠ .agg cs:=fun cs e=>bE ⟨cs,e⟩;obtain⟨J,U⟩:=LZ h ag mP;have ay:cells p=[p]:=by cases p<;>first|rfl|exact absurd rfl (mP _)
  rw[ay,U];simp only[cY];exact⟨v,[],rfl,⟨h,J⟩,rfl⟩
theorem Al{w:World}{ν:bc}:∀{cg:List ah} {ba:List Value},cY w ν cg ba→∀c∈ba,c.oneCell'=true
 |[],ba,h=>by simp only[cY]at h;subst h;simp
 |p::cg,ba,h=>by
  simp only[cY]at h;obtain⟨u,ca,rfl,J,U⟩:=h;intro c ay;rcases fU.1 ay with rfl|ay
  ·exact J.2
  ·exact Al U c ay
theorem pk{w:World}{ν:bc}:∀{cg:List ah} {ba:List Value},cY w ν cg ba→ba.length=cg.length
 |[],ba,h=>by simp only[cY]at h;subst h;rfl
 |p::cg,ba,h=>by simp only[cY]at h;obtain⟨u,ca,rfl,_,U⟩:=h;simp[pk U]
theorem Ak{w:World}{ν:bc}:∀(n:Nat) {cg:List ah} {ba:List Value},cY w ν cg ba→cY w ν (cg.drop n) (ba.drop n)
 |0,_,_,h=>by simpa using h
 |n+1,[],ba,h=>by simp only[cY]at h;subst h;simp[cY]
 |n+1,p::cg,ba,h=>by simp only[cY]at h;obtain⟨u,ca,rfl,_,U⟩:=h;simpa using Ak n U
theorem CW{w:World}{ν:bc}:∀(n:Nat) {cg:List ah} {ba:List Value},cY w ν cg ba→cY w ν (cg.take n) (ba.take n)
 |0,_,_,_=>by simp[cY]
 |n+1,[],ba,h=>by simp only[cY]at h;subst h;simp[cY]
 |n+1,p::cg,ba,h=>by simp only[cY]at h;obtain⟨u,ca,rfl,J,U⟩:=h;simp only[List.take_succ_cons,cY];exact⟨u,_,rfl,J,CW n U⟩
theorem xX{w:World}{ν:bc}:∀{cg bK:List ah} {ba us:List Value},cY w ν cg ba→cY w ν bK us→cY w ν (cg++bK) (ba++us)
 |[],bK,ba,us,h,cr=>by simp only[cY]at h;subst h;simpa using cr
 |p::cg,bK,ba,us,h,cr=>by simp only[cY]at h;obtain⟨u,ca,rfl,J,U⟩:=h;simp only[bT,cY];exact⟨u,_,rfl,J,xX U cr⟩
theorem CV{w:World}{ν:bc}:∀(n:Nat) {cg:List ah} {ba:List Value} {p:ah},cY w ν cg ba→cg[n]? =some p→∃v,ba[n]? =some v∧a7 w ν p v∧v.oneCell'=true
 |n,[],_,p,_,bI=>by simp at bI
 |0,q::cg,ba,p,h,bI=>by simp only[cY]at h;obtain⟨u,ca,rfl,J,_⟩:=h;simp at bI;subst bI;exact⟨u,rfl,J.1,J.2⟩
 |n+1,q::cg,ba,p,h,bI=>by simp only[cY]at h;obtain⟨u,ca,rfl,_,U⟩:=h;simpa using CV n U (by simpa using bI)
theorem CY{w:World}{ν:bc}:∀(n:Nat) {cg:List ah} {ba:List Value} {p:ah},cK w ν cg ba→cg[n]? =some p→∃v,ba[n]? =some v∧a7 w ν p v
 |n,[],_,p,_,bI=>by simp at bI
 |0,q::cg,ba,p,h,bI=>by simp only[cK]at h;obtain⟨u,ca,rfl,J,_⟩:=h;simp at bI;subst bI;exact⟨u,rfl,J⟩
 |n+1,q::cg,ba,p,h,bI=>by simp only[cK]at h;obtain⟨u,ca,rfl,_,U⟩:=h;simpa using CY n U (by simpa using bI)
theorem ub{w:World}{A:Nat→Nat→Prop}{b:Nat}:∀{us:List Value} {off j:Nat} {u:Value},lA w A b off us→us[j]? =some u→A b (off+j)∧w.cell? ⟨b,off+j,none⟩=some u
 |[],_,_,_,_,h=>by simp at h
 |x::us,off,0,u,au,h=>by simp at h;subst h;exact au.1
 |x::us,off,j+1,u,au,h=>by have:=ub (j:=j) au.2 (by simpa using h);rwa[show off+1+j=off+(j+1)from by omega]at this
theorem Fv{w:World}{A:Nat→Nat→Prop}{b:Nat}:∀(n:Nat) {us:List Value} {off:Nat},lA w A b off us→lA w A b (off+n) (us.drop n)
 |0,_,_,h=>by simpa using h
 |n+1,[],_,_=>by simp[lA]
 |n+1,x::us,off,h=>by have:=Fv n h.2;rw[show off+(n+1)=off+1+n from by omega];simpa using this
theorem Fx{w:World}{A:Nat→Nat→Prop}{b:Nat}:∀(n:Nat) {us:List Value} {off:Nat},lA w A b off us→lA w A b off (us.take n)
 |0,_,_,_=>by simp[lA]
 |n+1,[],_,_=>by simp[lA]
 |n+1,x::us,off,h=>by simp only[List.take_succ_cons];exact⟨h.1,Fx n h.2⟩
theorem ako{P:cB}{w:World}{A:Nat→Nat→Prop}{b off:Nat}{us:List Value}(h:lA w A b off us):(loadCells ⟨b,off,none⟩ us.length).run P w= .ok us.toArray w:=run_loadCells_list w _ us fun j v af=>by rw[oT];exact(ub h af).2
theorem akn{P:cB}{w:World}{b off n:Nat}{us:Array Value}{el:fT}{fr:Nat×Nat}(h:w.heap[b]? =some (.cells us el fr))(aw:off+n≤us.size):
  (loadCells ⟨b,off,none⟩ n).run P w= .ok ((us.toList.drop off).take n).toArray w:=by
 have au:((us.toList.drop off).take n).length=n:=by simp;omega
 have:=run_loadCells_list (P:=P) w ⟨b,off,none⟩ ((us.toList.drop off).take n) fun j v af=>by
  rw[oT];have aee:j<n:=by have:=(fN.1 af).1;omega
  simp only[World.cell?,h,jW,gP,if_false];rw[List.getElem?_take]at af;simpa[aee]using af
 rw[au]at this;exact this
theorem Qn{α:Type}(l r:List α)(n sz:Nat)(h:l.length=sz):(l++r).drop ((n+1)*sz)=r.drop (n*sz):=by
 have e:(n+1)*sz=l.length+n*sz:=by rw[h,Nat.succ_mul,Nat.add_comm]
 rw[e,←List.drop_drop];simp
theorem WH{α:Type}(l r:List α)(n sz:Nat)(h:l.length=sz):(l++r).take ((n+1)*sz)=l++r.take (n*sz):=by
 have e:(n+1)*sz=l.length+n*sz:=by rw[h,Nat.succ_mul,Nat.add_comm]
 rw[e,List.take_length_add_append]
theorem Gt{w:World}{ν:bc}{sz:Nat}:∀(i:Nat) {xs:List ah} {us:List Value} {p:ah},dA w ν sz xs us→xs[i]? =some p→
  ∃u,a7 w ν p u∧u.cells.size=sz∧u.cells.toList=(us.drop (i*sz)).take sz
 |i,[],_,p,_,bI=>by simp at bI
 |0,x::xs,us,p,h,bI=>by
  simp only[dA]at h;obtain⟨u,ca,rfl,⟨J,U,ao⟩,_⟩:=h;simp at bI;subst bI;refine⟨u,J,U,?_⟩;have:u.cells.toList.length=sz:=by simpa using U
  simp[←this]
 |i+1,x::xs,us,p,h,bI=>by
  simp only[dA]at h;obtain⟨u,ca,rfl,⟨_,U,_⟩,bZ⟩:=h;obtain⟨v,g1,g2,g3⟩:=Gt i bZ (by simpa using bI);refine⟨v,g1,g2,?_⟩;have:u.cells.toList.length=sz:=by simpa using U
  rw[g3,Qn _ _ _ _ this]
theorem sS{w:World}{ν:bc}{sz:Nat}:∀{xs:List ah} {us:List Value},dA w ν sz xs us→us.length=xs.length*sz
 |[],us,h=>by simp only[dA]at h;subst h;simp
 |x::xs,us,h=>by
  simp only[dA]at h;obtain⟨u,ca,rfl,⟨_,U,_⟩,bZ⟩:=h;have:u.cells.toList.length=sz:=by simpa using U
  rw[pq,this,sS bZ,p8,Nat.succ_mul];omega
theorem xW{w:World}{ν:bc}{sz:Nat}:∀{xs:List ah} {us:List Value},dA w ν sz xs us→∀c∈us,c.oneCell'=true
 |[],us,h=>by simp only[dA]at h;subst h;simp
 |x::xs,us,h=>by
  simp only[dA]at h;obtain⟨u,ca,rfl,⟨_,_,ao⟩,bZ⟩:=h;intro c ay;rcases jU.1 ay with ay|ay
  ·exact ao c ay
  ·exact xW bZ c ay
theorem CU{w:World}{ν:bc}{sz:Nat}:∀{cg bK:List ah} {ba us:List Value},dA w ν sz cg ba→dA w ν sz bK us→dA w ν sz (cg++bK) (ba++us)
 |[],bK,ba,us,h,cr=>by simp only[dA]at h;subst h;simpa using cr
 |p::cg,bK,ba,us,h,cr=>by simp only[dA]at h;obtain⟨u,ca,rfl,J,U⟩:=h;simp only[bT,dA];exact⟨u,ca++us,by simp,J,CU U cr⟩
theorem VY{w:World}{ν:bc}{sz:Nat}:∀(n:Nat) {xs:List ah} {us:List Value},dA w ν sz xs us→dA w ν sz (xs.drop n) (us.drop (n*sz))
 |0,_,_,h=>by simpa using h
 |n+1,[],us,h=>by simp only[dA]at h;subst h;simp[dA]
 |n+1,x::xs,us,h=>by
  simp only[dA]at h;obtain⟨u,ca,rfl,⟨_,U,_⟩,bZ⟩:=h;have:u.cells.toList.length=sz:=by simpa using U
  rw[Qn _ _ _ _ this];simpa using VY n bZ
theorem V1{w:World}{ν:bc}{sz:Nat}:∀(n:Nat) {xs:List ah} {us:List Value},dA w ν sz xs us→dA w ν sz (xs.take n) (us.take (n*sz))
 |0,_,_,_=>by simp[dA]
 |n+1,[],us,h=>by simp only[dA]at h;subst h;simp[dA]
 |n+1,x::xs,us,h=>by
  simp only[dA]at h;obtain⟨u,ca,rfl,⟨J,U,ao⟩,bZ⟩:=h;have:u.cells.toList.length=sz:=by simpa using U
  simp only[List.take_succ_cons,dA];refine⟨u,ca.take (n*sz),?_,⟨J,U,ao⟩,V1 n bZ⟩;rw[WH _ _ _ _ this]
def isAgg(sz:Nat)(p:ah):Prop:= ∃cs,p= .agg cs∧cs.length=sz
def x1(agg:Bool)(sz dF n i f:Nat):Option fF→Option (Prop×ah)
 |some ⟨n',_,jb,some xs⟩=>if n'=n∧jb=dF then
   (match xs[i]? with
    |some p=>if agg then some (dX p=true∧f+sz≤(cells p).length,.agg (((cells p).drop f).take sz))else((cells p)[f]?).map fun q=>(dX p=true,q)
    |none=>none)else none
 |_=>none
def mv(b:List (aH×List ah))(e:List (aH×fF))(agg:Bool)(sz:Nat):ah→Option (Prop×ah)
 | .rptr dF k n i f=>x1 agg sz dF n i f (look k e)
 | .ptr k off=>
  match look k b with
  |some cs=>if agg then some (hN cs=true∧off+sz≤cs.length,.agg ((cs.drop off).take sz))else(cs[off]?).map fun p=>(hN cs=true,p)
  |none=>none
 | .eptr p=>if agg then some (isAgg sz p,p)else some (dX p=true∧cells p=[p],p)
 |_=>none
def Bn(agg:Bool)(sz:Nat):ah→Option (Prop×ah)
 | .eptr p=>if agg then some (isAgg sz p,p)else some (dX p=true∧cells p=[p],p)
 |_=>none
theorem acD{b:List (aH×List ah)}{e:List (aH×fF)}{agg:Bool}{sz:Nat}{p:ah}{r:Prop×ah}(h:Bn agg sz p=some r):mv b e agg sz p=some r:=by
 cases p<;>simp only[Bn]at h<;>first|cases h;done|skip
 simpa only[mv]using h
theorem aga{b:List (aH×List ah)}{e:List (aH×fF)}{agg:Bool}{sz:Nat}{p:ah}{r:Prop×ah}(h:mv b [] agg sz p=some r):mv b e agg sz p=some r:=by cases p<;>simp only[mv]at h⊢ <;>first|exact h|(simp[look,x1]at h)
def pH(off:Nat)(agg:Bool)(sz:Nat):ah→Option (Prop×ah)
 | .ptr k o=>some (True,.ptr k (o+off))
 | .rptr dF k n i f=>some (True,.rptr dF k n i (f+off))
 | .eptr (.agg cs)=>if agg then some (off+sz≤cs.length,.eptr (.agg ((cs.drop off).take sz)))else(cs[off]?).map fun p=>(dX p=true∧cells p=[p],.eptr p)
 |_=>none
def qZ(off:Nat)(agg:Bool)(sz:Nat):ah→Option (Prop×ah)
 | .agg cs=>if agg then some (off+sz≤cs.length,.agg ((cs.drop off).take sz))else(cs[off]?).map fun p=>(True,p)
 |_=>none
def zt(sz:Nat):ah→ah→Option (Prop×ah)
 | .slice dF _ xs,.int _ i=>if dF=sz then some (0≤i∧i<xs.length,.eptr (xs.getD i.toNat .junk))else none
 | .row dF k n,.int _ i=>if dF=sz then some (0≤i∧i<n,.rptr dF k n i.toNat 0)else none
 |_,_=>none
def GL:ah→ah→Option (Prop×ah)
 | .str s,.int _ i=>some (0≤i∧i<s.length,.int .u8 (s.getD i.toNat 0).toNat)
 |_,_=>none
def qE(Ed:Int):Option ah→Option Int
 |none=>some Ed
 |some (.int _ i)=>some i
 |_=>none
def GQ(x:ah)(lo hi:Option ah):Option (Prop×ah):=
 match x with
 | .str s=>match qE 0 lo,qE s.length hi with
  |some l,some h=>some (0≤l∧l≤h∧h≤s.length,.str ((s.take h.toNat).drop l.toNat))
  |_,_=>none
 |_=>none
def FD(sz:Nat)(x:ah)(lo hi:Option ah):Option (Prop×ah):=
 match x with
 | .slice dF _ xs=>if dF=sz then match qE 0 lo,qE xs.length hi with
  |some l,some h=>some (0≤l∧l≤h∧h≤xs.length,.slice sz .no ((xs.take h.toNat).drop l.toNat))
  |_,_=>none else none
 |_=>none
def sA(n:Int):Prop:= -9223372036854775808≤n∧n≤9223372036854775807
def Fe(op:BinOp)(wr:Bool)(k:IntKind)(a b:Int):Option (Prop×ah):=
 match op with
 | .add=>if wr then some (True,.int k (k.wrap (a+b)))else some (k= .i64∧sA (a+b),.int .i64 (a+b))
 | .sub=>if wr then some (True,.int k (k.wrap (a-b)))else some (k= .i64∧sA (a-b),.int .i64 (a-b))
 | .mul=>if wr then some (True,.int k (k.wrap (a*b)))else some (k= .i64∧sA (a*b),.int .i64 (a*b))
 | .quo=>some (b≠0,.int k (k.wrap (a.tdiv b)))
 | .rem=>some (b≠0,.int k (a.tmod b))
 | .eql=>some (True,.bool (a==b))
 | .neq=>some (True,.bool (a !=b))
 | .lss=>some (True,.bool (decide (a<b)))
 | .leq=>some (True,.bool (decide (a≤b)))
 | .gtr=>some (True,.bool (decide (b<a)))
 | .geq=>some (True,.bool (decide (b≤a)))
 | .and=>some (True,.int k (k.wrap (p4 k.bits a&&& p4 k.bits b).toNat))
 | .or=>some (True,.int k (k.wrap (p4 k.bits a|||p4 k.bits b).toNat))
 | .xor=>some (True,.int k (k.wrap (p4 k.bits a ^^^ p4 k.bits b).toNat))
 |_=>none
def GR(op:BinOp)(a b:List dB):Option (Prop×ah):=
 match op with
 | .add=>some (a.length+b.length≤lim,.str (a++b))
 | .eql=>some (True,.bool (a==b))
 | .neq=>some (True,.bool (!(a==b)))
 | .lss=>some (True,.bool (hl a b))
 | .leq=>some (True,.bool (hl a b||a==b))
 | .gtr=>some (True,.bool (!(hl a b||a==b)))
 | .geq=>some (True,.bool (!hl a b))
 |_=>none
def AX(op:BinOp)(wr:Bool):ah→ah→Option (Prop×ah)
 | .int k a,.int bL b=>match op with
  | .shl=>some (0≤b,.int k (k.wrap (a*2 ^ (min b.toNat k.bits))))
  | .shr=>some (0≤b,.int k (a.fdiv (2 ^ (min b.toNat k.bits))))
  |_=>if k=bL then Fe op wr k a b else none
 | .str a,.str b=>GR op a b
 |_,_=>none
def nH(cs:List ah)(off:Nat)(cg:List ah):List ah:=cs.take off++cg++cs.drop (off+cg.length)
def tt(t:List (Nat×ah)):List ah→List (Nat×Nat×ds)→Option (Prop×List ah)
 |cs,[]=>some (True,cs)
 |cs,(off,sz,x)::r=>
  let p:=cm t x
  match tt t (nH cs off (cells p)) r with
  |some (c,cs')=>some ((dX p=true∧(cells p).length=sz∧off+sz≤cs.length)∧c,cs')
  |none=>none
def F4(c x y:ah):Option (Prop×ah):=
 match c with
 | .bool b=>match x,y with
  | .bool u,.bool v=>some (True,.bool (cond b u v))
  |p,q=>match b with
   |true=>some (True,p)
   |false=>some (True,q)
 |_=>none
def FR:ah→Option (Prop×ah)
 | .bool b=>some (True,.bool (!b))
 |_=>none
def FO:ah→Option (Prop×ah)
 | .int k n=>some (True,.int k (k.wrap (0-n)))
 |_=>none
def yI(i:Nat):ah→Option (Prop×ah)
 | .tuple ba=>(ba[i]?).map fun p=>(True,p)
 |_=>none
def zD:ah→Option (Prop×ah)
 | .slice _ _ xs=>some (True,.int .i64 xs.length)
 | .row _ _ n=>some (True,.int .i64 n)
 | .cst (.slice _ n _)=>some (True,.int .i64 n)
 |_=>none
def C6:ah→Option (Prop×ah)
 | .str s=>some (True,.int .i64 s.length)
 | .cst (.string s)=>some (True,.int .i64 s.size)
 |_=>none
def D9(k:IntKind):ah→Option (Prop×ah)
 | .int _ n=>some (True,.int k (k.wrap n))
 |_=>none
def zN:ah→Option (Prop×ah)
 | .ptr k o=>some (True,.ptr k o)
 | .eptr p=>some (True,.eptr p)
 | .func f cs=>some (True,.func f cs)
 |_=>none
def FN:ah→ah→Option (Prop×ah)
 | .int k a,.int bL b=>if k=bL then some (True,.int k (if b<a then b else a))else none
 |_,_=>none
def jZ:List Bool→List ah→List ah→Option Bool
 |[],[],[]=>some true
 |false::r,.int k a::as,.int bL b::eS=>if k=bL then(jZ r as eS).map fun q=>(a==b)&&q else none
 |true::r,.str a::as,.str b::eS=>(jZ r as eS).map fun q=>(a==b)&&q
 |_,_,_=>none
inductive jq where
 |i
 |s
 |a (dK:List Bool)
 deriving DecidableEq
def sE:jq→ah→ah→Option Bool
 | .i,.int k a,.int bL b=>if k=bL then some (a==b)else none
 | .s,.str a,.str b=>some (a==b)
 | .a dK,.agg as,.agg eS=>jZ dK as eS
 |_,_,_=>none
def tW:jq→ah→Bool
 | .a dK,.agg as=>(jZ dK as as).isSome
 | .a _,_=>false
 |_,_=>true
@[simp] theorem Tk(k:ah):tW .i k=true:=by cases k<;>rfl
@[simp] theorem ao3(k:ah):tW .s k=true:=by cases k<;>rfl
def vH(b9:jq)(k:ah):List ah→Option (Option ah)
 |bL::v::r=>match sE b9 k bL with
  |some true=>some (some v)
  |some false=>vH b9 k r
  |none=>none
 |_=>some none
def nE(b:aH→Option (List ah))(b9:jq)(zero:ah)(ok:Bool)(x k:ah):Option (Prop×ah):=
 match x with
 | .gmap key=>match b key with
  |some (.hdm _ _::kvs)=>if tW b9 k=false then none else match vH b9 k kvs with
   |some (some v)=>some (True,if ok then .tuple [v,.bool true]else v)
   |some none=>some (True,if ok then .tuple [zero,.bool false]else zero)
   |none=>none
  |_=>none
 |_=>none
def ug(b:aH→Option (List ah))(x:ah):Option (Prop×ah):=
 match x with
 | .gmap key=>match b key with
  |some (.hdm _ borns::_)=>some (True,.int .i64 borns.length)
  |_=>none
 |_=>none
def ib(neg:Bool):Option (List Bool)→ah→ah→Option (Prop×ah)
 |none,.bool a,.bool b=>some (True,.bool (if neg then a !=b else a==b))
 |some dK,.agg as,.agg eS=>(jZ dK as eS).map fun q=>(True,.bool (if neg then !q else q))
 |_,_,_=>none
def FH:ah→ah→Option (Prop×ah)
 | .int k a,.int bL b=>if k=bL then some (True,.int k (if a<b then b else a))else none
 |_,_=>none
def uh(b9:jq)(k v:ah):List ah→Option (Option (List ah))
 |bL::v'::r=>match sE b9 k bL with
  |some true=>some (some (k::v::r))
  |some false=>match uh b9 k v r with
   |some (some eJ)=>some (some (bL::v'::eJ))
   |some none=>some none
   |none=>none
  |none=>none
 |_=>some none
def mw(n:Nat):List Nat→List ah→Option ah
 |b::eS,k::v::r=>if b=n then some (.tuple [k,v])else mw n eS r
 |_,_=>none
def pe(b:aH→Option (List ah))(x:ah):Option (Prop×ah):=
 match x with
 | .ptr fj 0=>match b fj with
  |some [.hdi _ seen last,.gmap mk]=>match b mk with
   |some (.hdm clock borns::kvs)=>match seen.getLast? with
    |some n=>(mw n borns kvs).map fun p=>(clock=last,p)
    |none=>none
   |_=>none
  |_=>none
 |_=>none
theorem T8{f g:aH→Option (List ah)}(h:∀k,f k≠none→g k=f k){b9:jq}{zero:ah}{ok:Bool}{x k:ah}{r:Prop×ah}(he:nE f b9 zero ok x k=some r):nE g b9 zero ok x k=some r:=by
 unfold nE at he⊢;split at he
 ·rename_i key;cases aI:f key with
  |none=>simp[aI]at he
  |some cs=>rw[h key (by rw[aI];simp),aI];rw[aI]at he;exact he
 ·cases he
theorem agH{f g:aH→Option (List ah)}(h:∀k,f k≠none→g k=f k){x:ah}{r:Prop×ah}(he:ug f x=some r):ug g x=some r:=by
 unfold ug at he⊢;split at he
 ·rename_i key;cases aI:f key with
  |none=>simp[aI]at he
  |some cs=>rw[h key (by rw[aI];simp),aI];rw[aI]at he;exact he
 ·cases he
theorem ago{f g:aH→Option (List ah)}(h:∀k,f k≠none→g k=f k){x:ah}{r:Prop×ah}(he:pe f x=some r):pe g x=some r:=by
 unfold pe at he⊢;split at he
 ·rename_i fj;cases aI:f fj with
  |none=>simp[aI]at he
  |some cs=>
   simp only[h fj (by rw[aI];simp),aI]at he⊢;split at he
   ·rename_i since seen last mk dr;cases tJ:f mk with
    |none=>simp[tJ]at he
    |some eM=>simp only[h mk (by rw[tJ];simp),tJ]at he⊢;exact he
   ·cases he
 ·cases he
inductive fO where
 |mov (x:ds)
 |pick (c x y:ds)
 |load (agg:Bool) (sz:Nat) (x:ds)
 |faddr (off:Nat) (agg:Bool) (sz:Nat) (x:ds)
 |fld (off:Nat) (agg:Bool) (sz:Nat) (x:ds)
 |iaddr (sz:Nat) (x i:ds)
 |sidx (x i:ds)
 |ssl (x:ds) (lo hi:Option ds)
 |lsl (sz:Nat) (x:ds) (lo hi:Option ds)
 |bin (op:BinOp) (wr:Bool) (x y:ds)
 |notB (x:ds)
 |neg (x:ds)
 |conv (k:IntKind) (x:ds)
 |ext (i:Nat) (x:ds)
 |len (x:ds)
 |slen (x:ds)
 |build (zero:List ah) (parts:List (Nat×Nat×ds))
 |nck (x:ds)
 |min2 (x y:ds)
 |mkf (n:Nat) (xs:List ds)
 |mget (b9:jq) (zero:ah) (ok:Bool) (x k:ds)
 |ment (x:ds)
 |mlen (x:ds)
 |beq (neg:Bool) (dK:Option (List Bool)) (x y:ds)
 |max2 (x y:ds)
 |mkif (t:Nat) (x:ds)
 |loadB (agg:Bool) (sz:Nat) (x:ds)
 |mgetB (b9:jq) (zero:ah) (ok:Bool) (x k:ds)
 |loadZ (agg:Bool) (sz:Nat) (x:ds)
def ha(st:bq):fO→Option (Prop×ah)
 | .mov x=>some (True,cm st.t x)
 | .pick c x y=>F4 (cm st.t c) (cm st.t x) (cm st.t y)
 | .load agg sz x=>mv st.b st.e agg sz (cm st.t x)
 | .faddr off agg sz x=>pH off agg sz (cm st.t x)
 | .fld off agg sz x=>qZ off agg sz (cm st.t x)
 | .iaddr sz x i=>zt sz (cm st.t x) (cm st.t i)
 | .sidx x i=>GL (cm st.t x) (cm st.t i)
 | .ssl x lo hi=>GQ (cm st.t x) (lo.map (cm st.t)) (hi.map (cm st.t))
 | .lsl sz x lo hi=>FD sz (cm st.t x) (lo.map (cm st.t)) (hi.map (cm st.t))
 | .bin op wr x y=>AX op wr (cm st.t x) (cm st.t y)
 | .notB x=>FR (cm st.t x)
 | .neg x=>FO (cm st.t x)
 | .conv k x=>D9 k (cm st.t x)
 | .ext i x=>yI i (cm st.t x)
 | .len x=>zD (cm st.t x)
 | .slen x=>C6 (cm st.t x)
 | .build zero parts=>(tt st.t zero parts).map fun(c,cs)=>(c,.agg cs)
 | .nck x=>zN (cm st.t x)
 | .min2 x y=>FN (cm st.t x) (cm st.t y)
 | .mkf n xs=>some (True,.func n (xs.map (cm st.t)))
 | .mget b9 zero ok x k=>nE (fun k=>look k st.b) b9 zero ok (cm st.t x) (cm st.t k)
 | .ment x=>pe (fun k=>look k st.b) (cm st.t x)
 | .mlen x=>ug (fun k=>look k st.b) (cm st.t x)
 | .beq neg dK x y=>ib neg dK (cm st.t x) (cm st.t y)
 | .max2 x y=>FH (cm st.t x) (cm st.t y)
 | .mkif t x=>some (True,.iface t (cm st.t x))
 | .loadB agg sz x=>mv st.b [] agg sz (cm st.t x)
 | .mgetB b9 zero ok x k=>nE (fun k=>look k st.b) b9 zero ok (cm st.t x) (cm st.t k)
 | .loadZ agg sz x=>Bn agg sz (cm st.t x)
def zZ(bA:List (Nat×dC))(dK:List (Nat×Nat)):List (Nat×Nat×ds)→List (Nat×Operand)→Bool
 |[],[]=>true
 |(off,sz,x)::r,(i,o)::s=>(match dK[i]? with|some (vL,t)=>off==vL&&((dU bA t).map (·.size))==some sz|none=>false)&&eg x o&&zZ bA dK r s
 |_,_=>false
def Hg:ah→ah→Bool
 | .int k n,.int bL n'=>decide (k=bL∧n=n')
 | .bool b,.bool bO=>b==bO
 | .str [],.str []=>true
 | .slice a .nil [],.slice b .nil []=>a==b
 | .nilp,.nilp=>true
 | .junk,.junk=>true
 |_,_=>false
def yh:List ah→List ah→Bool
 |[],[]=>true
 |c::cs,d::eM=>Hg c d&&yh cs eM
 |_,_=>false
def AK:ah→ah→Bool
 | .agg cs,.agg eM=>yh cs eM
 | .agg _,_=>false
 |p,q=>Hg p q
def xP:List ds→List Operand→Bool
 |[],[]=>true
 |x::xs,o::os=>eg x o&&xP xs os
 |_,_=>false
def yQ(bA:List (Nat×dC)):Nat→List Bool→List (Nat×Nat)→Bool
 |_,[],[]=>true
 |n,b::r,(off,t)::dK=>off==n&&(match dU bA t with|some ⟨_,_,.int _,_⟩=> !b|some ⟨_,_,.str,_⟩=>b|_=>false)&&yQ bA (n+1) r dK
 |_,_,_=>false
def Er(bA:List (Nat×dC))(dK:List Bool)(t:Nat):Bool:=match dU bA t with
 |some ⟨_,_,.struct gs,_⟩=>yQ bA 0 dK gs
 |_=>false
def xx(bA:List (Nat×dC))(b9:jq)(t:Nat):Bool:=match b9 with
 | .i=>(match dU bA t with|some ⟨_,_,.int _,_⟩=>true|_=>false)
 | .s=>(match dU bA t with|some ⟨_,_,.str,_⟩=>true|_=>false)
 | .a dK=>Er bA dK t
def M8:List ah→ah→Bool
 |cs,.agg eM=>yh cs eM
 |_,_=>false
def vO:Option ds→Option Operand→Bool
 |none,none=>true
 |some x,some o=>eg x o
 |_,_=>false
def Di(bA:List (Nat×dC)):fO→Op→Bool
 | .mov x,.move o=>eg x o
 | .mov x,.assign o=>eg x o
 | .pick c x y,.pick cl Dq M3=>eg c cl&&eg x Dq&&eg y M3
 | .load agg sz x,.load t o=>(match dU bA t with|some f=>f.size==sz&&f.kind.isAgg==agg|none=>false)&&eg x o
 | .faddr off agg sz x,.fieldAddr s o i=>
  (match dU bA s with
   |some ⟨_,_,.struct dK,_⟩=>(match dK[i]? with|some (vL,t)=>off==vL&&(match dU bA t with|some f=>f.size==sz&&f.kind.isAgg==agg&&sz !=0|none=>false)|none=>false)
   |_=>false)&&eg x o
 | .fld off agg sz x,.field s o i=>
  (match dU bA s with
   |some ⟨_,_,.struct dK,_⟩=>(match dK[i]? with|some (vL,t)=>off==vL&&(match dU bA t with|some f=>f.size==sz&&f.kind.isAgg==agg|none=>false)|none=>false)
   |_=>false)&&eg x o
 | .iaddr sz x i,.indexAddr t o j=>(match dU bA t with|some ⟨_,_,.slice e,_⟩=>(match dU bA e with|some f=>f.size==sz|none=>false)|_=>false)&&eg x o&&eg i j
 | .sidx x i,.index t o j=>(match dU bA t with|some ⟨_,_,.str,_⟩=>true|_=>false)&&eg x o&&eg i j
 | .ssl x lo hi,.slice t o l h none=>(match dU bA t with|some ⟨_,_,.str,_⟩=>true|_=>false)&&eg x o&&vO lo l&&vO hi h
 | .lsl sz x lo hi,.slice t o l h none=>(match dU bA t with|some ⟨_,_,.slice e,_⟩=>(match dU bA e with|some f=>f.size==sz|none=>false)|_=>false)&&eg x o&&vO lo l&&vO hi h
 | .bin op _ x y,.binOp UL _ o o' _=>decide (op=UL)&&eg x o&&eg y o'
 | .notB x,.unOp op _ o=>decide (op= .not)&&eg x o
 | .neg x,.unOp op _ o=>decide (op= .neg)&&eg x o
 | .conv k x,.convert s d o=>(match dU bA s,dU bA d with|some ⟨_,_,.int _,_⟩,some ⟨_,_,.int bL,_⟩=>decide (k=bL)|_,_=>false)&&eg x o
 | .ext i x,.extract o j=>i==j&&eg x o
 | .len x,.call ⟨.builtin .len,⟨[o]⟩,⟨[t]⟩⟩=>(match dU bA t with|some ⟨_,_,.slice _,_⟩=>true|_=>false)&&eg x o
 | .slen x,.call ⟨.builtin .len,⟨[o]⟩,⟨[t]⟩⟩=>(match dU bA t with|some ⟨_,_,.str,_⟩=>true|_=>false)&&eg x o
 | .build zero parts,.build t cg=>(match dU bA t with|some ⟨_,_,.struct dK,z⟩=>M8 zero z&&(dK.all fun x=>(dU bA x.2).isSome)&&zZ bA dK parts cg.toList|_=>false)
 | .nck x,.nilCheck o=>eg x o
 | .min2 x y,.call ⟨.builtin .min,⟨[o,o']⟩,⟨[_,_]⟩⟩=>eg x o&&eg y o'
 | .mkf n xs,.makeFunc (.func m) ⟨[]⟩ os=>n==m&&xP xs os.toList
 | .mget b9 zero ok x k,.lookup t o o' FT=>ok==FT&&(match dU bA t with|some ⟨_,_,.map mu o2,_⟩=>xx bA b9 mu&&(match dU bA o2 with|some f=>AK zero f.zero|none=>false)|_=>false)&&eg x o&&eg k o'
 | .ment x,.entry o=>eg x o
 | .mlen x,.call ⟨.builtin .len,⟨[o]⟩,⟨[t]⟩⟩=>(match dU bA t with|some ⟨_,_,.map _ _,_⟩=>true|_=>false)&&eg x o
 | .beq neg dK x y,.binOp op t o o' _=>decide (op=if neg then .neq else .eql)&&(match dK with|none=>(match dU bA t with|some ⟨_,_,.bool,_⟩=>true|_=>false)|some dK=>Er bA dK t)&&eg x o&&eg y o'
 | .max2 x y,.call ⟨.builtin .max,⟨[o,o']⟩,⟨[_,_]⟩⟩=>eg x o&&eg y o'
 | .mkif t x,.makeInterface dJ o=>t==dJ&&(match dU bA t with|some ⟨_,_,.slice _,_⟩=>true|_=>false)&&eg x o
 | .loadB agg sz x,.load t o=>(match dU bA t with|some f=>f.size==sz&&f.kind.isAgg==agg|none=>false)&&eg x o
 | .loadZ agg sz x,.load t o=>(match dU bA t with|some f=>f.size==sz&&f.kind.isAgg==agg|none=>false)&&eg x o
 | .mgetB b9 zero ok x k,.lookup t o o' FT=>ok==FT&&(match dU bA t with|some ⟨_,_,.map mu o2,_⟩=>xx bA b9 mu&&(match dU bA o2 with|some f=>AK zero f.zero|none=>false)|_=>false)&&eg x o&&eg k o'
 |_,_=>false
end Go.Pv
namespace Go.Pv
open Go Go.RowKit
theorem Is(P:cB)(w:World)(op:BinOp)(t:fT)(x y:Operand)(k bL:IntKind)(m n:Int):(eqGuard op t x y (.int k m) (.int bL n)).run P w= .ok () w:=by cases op<;>rfl
theorem ZB(P:cB)(w:World)(op:BinOp)(t:fT)(x y:Operand)(m n:ByteArray):(eqGuard op t x y (.string m) (.string n)).run P w= .ok () w:=by cases op<;>rfl
theorem alh(l:List dB):(⟨l.toArray⟩:ByteArray).toList=l:=by simp
theorem Ye(a b:List dB):(⟨a.toArray⟩:ByteArray)++(⟨b.toArray⟩:ByteArray)=⟨(a++b).toArray⟩:=by apply amY;simp
theorem aau(a:List dB)(l h:Nat):(⟨a.toArray⟩:ByteArray).extract l h=⟨((a.take h).drop l).toArray⟩:=by apply amY;simp[List.drop_take]
theorem C5(a:List dB):(⟨a.toArray⟩:ByteArray).size=a.length:=by simp[asg]
section
variable {P:cB} {w:World} {r:Sem Value}
theorem q1{k:IntKind}{x:Int}(h:r.run P w= .ok (.int k x) w):∃v,r.run P w= .ok v w∧∀ν,a7 w ν (.int k x) v:=⟨_,h,fun ν=>by simp[a7]⟩
theorem Rs{x:Bool}(h:r.run P w= .ok (.bool x) w):∃v,r.run P w= .ok v w∧∀ν,a7 w ν (.bool x) v:=⟨_,h,fun ν=>by simp[a7]⟩
end
theorem afn(P:cB)(w:World){op:BinOp}{wr:Bool}{k:IntKind}{a b:Int}{c:Prop}{p:ah}(he:Fe op wr k a b=some (c,p))(ay:c)(t:fT):
  ∃v,(binOp op t (.int k a) (.int k b)).run P w= .ok v w∧∀ν,a7 w ν p v:=by
 cases op<;>simp only[Fe]at he;case add=>
  cases wr<;>simp only[if_true,gP,if_false]at he<;>cases he
  ·obtain⟨rfl,h⟩:=ay;exact q1 (by simp[binOp,Op.intArith,oO _ h])
  ·exact q1 (by simp[binOp,Op.intArith])
 case sub=>
  cases wr<;>simp only[if_true,gP,if_false]at he<;>cases he
  ·obtain⟨rfl,h⟩:=ay;exact q1 (by simp[binOp,Op.intArith,oO _ h])
  ·exact q1 (by simp[binOp,Op.intArith])
 case mul=>
  cases wr<;>simp only[if_true,gP,if_false]at he<;>cases he
  ·obtain⟨rfl,h⟩:=ay;exact q1 (by simp[binOp,Op.intArith,oO _ h])
  ·exact q1 (by simp[binOp,Op.intArith])
 case quo=>cases he;exact q1 (by simp[binOp,Op.intDiv,ay])
 case rem=>cases he;exact q1 (by simp[binOp,Op.intDiv,ay])
 case and=>cases he;exact q1 (by simp only[binOp,Op.intBits,ne_eq,not_true_eq_false,if_false,gk])
 case or=>cases he;exact q1 (by simp only[binOp,Op.intBits,ne_eq,not_true_eq_false,if_false,gk])
 case xor=>cases he;exact q1 (by simp only[binOp,Op.intBits,ne_eq,not_true_eq_false,if_false,gk])
 all_goals cases he
 all_goals exact Rs (by simp only[binOp,Op.intCmp,ne_eq,not_true_eq_false,if_false,gk,gt_iff_lt,ge_iff_le])
theorem ak1(P:cB)(w:World){op:BinOp}{a b:List dB}{c:Prop}{p:ah}(he:GR op a b=some (c,p))(ay:c)(t:fT):
  ∃v,(binOp op t (.string ⟨a.toArray⟩) (.string ⟨b.toArray⟩)).run P w= .ok v w∧∀ν,a7 w ν p v:=by
 cases op<;>simp only[GR]at he;case add=>
  cases he;refine⟨.string ⟨(a++b).toArray⟩,?_,fun ν=>by simp only[a7];exact⟨trivial,by simpa using ay⟩⟩;have J:¬(((⟨a.toArray⟩:ByteArray).size+(⟨b.toArray⟩:ByteArray).size:Nat):Int)>IntKind.i64.max:=by
   have:IntKind.i64.max=9223372036854775807:=by decide
   rw[this,C5,C5];simp only[lim]at ay;omega
  simp only[binOp,Op.stringOp,J,if_false,gk,Ye]
 all_goals cases he
 all_goals exact Rs (by simp only[binOp,Op.stringOp,alh,gk])
theorem Yq(P:cB)(w:World)(ν:bc){op:BinOp}{wr:Bool}{x y:ah}{c:Prop}{p:ah}(he:AX op wr x y=some (c,p))(ay:c)(t:fT){u v:Value}(hu:a7 w ν x u)(aK:a7 w ν y v)(o o':Operand):
  ∃r,(do eqGuard op t o o' u v;binOp op t u v).run P w= .ok r w∧a7 w ν p r:=by
 unfold AX at he;split at he
 ·rename_i k a bL b;simp only[a7]at hu aK;subst hu;subst aK;split at he
  ·cases he;refine⟨_,?_,by simp[a7];rfl⟩;simp[binOp,Op.shift,Is,Int.not_lt.2 ay]
  ·cases he;refine⟨_,?_,by simp[a7];rfl⟩;simp[binOp,Op.shift,Is,Int.not_lt.2 ay]
  ·split at he
   ·rename_i ad;subst ad;obtain⟨r,J,U⟩:=afn P w he ay t;exact⟨r,by simp[Is,J],U ν⟩
   ·cases he
 ·simp only[a7]at hu aK;rw[hu.1,aK.1];obtain⟨r,J,U⟩:=ak1 P w he ay t;exact⟨r,by simp[ZB,J],U ν⟩
 ·cases he
theorem IQ{w:World}{ν:bc}:∀(v:List Value) (i off:Nat) (cs:Array Value),off+i+v.length≤cs.size→
  ((v.zipIdx i).foldl (fun cs (x:Value×Nat)=>cs.setIfInBounds (off+x.2) x.1) cs).toList=cs.toList.take (off+i)++v++cs.toList.drop (off+i+v.length)
 |[],i,off,cs,_=>by simp
 |u::v,i,off,cs,h=>by
  simp only[List.zipIdx_cons,List.foldl_cons];rw[IQ (w:=w) (ν:=ν) v (i+1) off _ (by simp at h⊢;omega)];have bC:off+i<cs.toList.length:=by simp at h⊢;omega
  simp only[Array.toList_setIfInBounds];have ak:(cs.toList.set (off+i) u).take (off+(i+1))=cs.toList.take (off+i)++[u]:=by rw[show off+(i+1)=(off+i)+1 from by omega,List.take_succ_eq_append_getElem (by simpa using bC)];simp[List.take_set_of_le (eR _)]
  have aB:(cs.toList.set (off+i) u).drop (off+(i+1)+v.length)=cs.toList.drop (off+i+(u::v).length):=by rw[List.drop_set_of_lt (by omega)];congr 1;simp;omega
  rw[ak,aB];simp
theorem We{w:World}{ν:bc}{C:e8}{st:bq}{a:Act}(aL:cO C st a w ν){bA:List (Nat×dC)}{dK:List (Nat×Nat)}{sO:List (Nat×Nat)}
  (bI:∀(i off t sz:Nat),dK[i]? =some (off,t)→(dU bA t).map (·.size)=some sz→sO[i]? =some (off,sz)):
  ∀(parts:List (Nat×Nat×ds)) (cg:List (Nat×Operand)) (cs:List ah) (us:Array Value) (c:Prop) (cs':List ah),zZ bA dK parts cg=true→cY w ν cs us.toList→tt st.t cs parts=some (c,cs')→c→
  ∃ca:Array Value,Instr.fill (sO.toArray[·]?) us (cg.map fun(x:Nat×Operand)=>(x.1,a.eval x.2))=some ca∧cY w ν cs' ca.toList
 |[],[],cs,us,c,cs',_,h,he,ay=>by simp only[tt]at he;cases he;exact⟨us,by simp[Instr.fill],h⟩
 |[],_::_,_,_,_,_,eD,_,_,_=>by simp[zZ]at eD
 |_::_,[],_,_,_,_,eD,_,_,_=>by simp[zZ]at eD
 |(off,sz,x)::parts,(i,o)::cg,cs,us,c,cs',eD,h,he,ay=>by
  simp only[zZ,cz]at eD;obtain⟨⟨J,U⟩,ao⟩:=eD;split at J
  ·rename_i vL t BE;simp only[cz,dL]at J;obtain⟨rfl,J⟩:=J;have sw:=bI i off t sz BE J;simp only[tt]at he;split at he
   ·rename_i cl anU ae;cases he;obtain⟨⟨ag,au,hle⟩,gT⟩:=ay;have ab:=eh aL U;have lq:=uy ab ag;have hlen:=pk lq;have rp:=pk h;have ko:(a.eval o).cells.size=sz:=by have:(a.eval o).cells.toList.length=(cells (cm st.t x)).length:=hlen;rw[au]at this;simpa using this
    have qy:us.size=cs.length:=by simpa using rp
    have xm:=IQ (w:=w) (ν:=ν) (a.eval o).cells.toList 0 off us (by simp[ko,qy];omega);have lu:cY w ν (nH cs off (cells (cm st.t x))) ((((a.eval o).cells.toList.zipIdx 0).foldl (fun cs (x:Value×Nat)=>cs.setIfInBounds (off+x.2) x.1) us).toList):=by rw[xm];unfold nH;refine xX (xX (CW off h) lq) ?_;rw[Nat.add_zero,hlen];exact Ak _ h
    obtain⟨ca,g1,g2⟩:=We aL bI parts cg _ _ cl cs' ao lu ae gT;refine⟨ca,?_,g2⟩;simp only[gG,Instr.fill,List.getElem?_toArray,sw];rw[if_neg (by simp[ko,qy];omega)];rw[←g1];simp only[List.getElem?_toArray];congr 1;rw[←Array.foldl_toList];simp
   ·cases he
  ·cases J
end Go.Pv
namespace Go.Pv
open Go Go.RowKit
theorem uG{P:cB}{bA:List (Nat×dC)}(aN:fM P bA=true){t:Nat}{f:dC}(aI:dU bA t=some f)(w:World):
  (Go.isAgg t).run P w= .ok f.kind.isAgg w∧(sizeOf t).run P w= .ok f.size w:=by
 obtain⟨i,d,z,J,U,ao,a8,bZ,c7,ee,nz⟩:=(uI aN aI).ex;refine⟨?_,by simp[sizeOf,typeInfo,J,ao]⟩;simp only[Go.isAgg,fC,run_underlying U,fJ];cases ad:f.kind<;>rw[ad]at bZ<;>cases d<;>simp[j0]at bZ<;>simp[AQ.isAgg]
theorem iK{P:cB}{bA:List (Nat×dC)}(aN:fM P bA=true){t:Nat}{f:dC}(aI:dU bA t=some f):∃d,P.underlying t=some d∧j0 f.kind d=true:=by obtain⟨i,d,z,J,U,ao,a8,bZ,c7,ee,nz⟩:=(uI aN aI).ex;exact⟨d,U,bZ⟩
theorem r9{e:Nat}{d:TypeDesc}(h:j0 (.slice e) d=true):d= .slice e:=by cases d<;>simp[j0]at h;subst h;rfl
theorem yG{d:TypeDesc}(h:j0 .str d=true):d= .string:=by cases d<;>simp[j0]at h;rfl
theorem Ec{k:IntKind}{d:TypeDesc}(h:j0 (.int k) d=true):d= .int k:=by cases d<;>simp[j0]at h;subst h;rfl
theorem Ie{dK:List (Nat×Nat)}{d:TypeDesc}(h:j0 (.struct dK) d=true):∃gs:Array Field,d= .struct gs∧gs.toList.map (fun f=>(f.offset,f.type))=dK:=by cases d<;>simp[j0]at h;rename_i gs;exact⟨gs,rfl,by simpa using h⟩
theorem Gw{w:World}{ν:bc}{cs:List ah}{us:List Value}(h:cY w ν cs us)(off sz:Nat):cY w ν ((cs.drop off).take sz) ((us.drop off).take sz):=CW sz (Ak off h)
theorem UQ{w:World}{base el sz n:Nat}{v:Value}{us:List Value}(h:w.ownsRow base el sz v n us){b:Nat}(ae:v.ownBlock=some b):∃cap,v= .slice (some ⟨b,0,none⟩) n cap:=by
 rcases h.2 with⟨rfl,_⟩|⟨g,cap,cur,rfl,_⟩
 ·simp[nO]at ae
 ·simp[nO]at ae;subst ae;exact⟨cap,rfl⟩
theorem Good.rowElem{pr:Nat→Prop}{w:World}{ν:bc}{b:List (aH×List ah)}{e:List (aH×fF)}(a1:Good pr w ν b e){k:aH}{n el sz:Nat}{xs:List ah}(ad:look k e=some ⟨n,el,sz,some xs⟩){i f:Nat}{u:Value}(ab:a7 w ν (.rptr sz k n i f) u){p:ah}(bI:xs[i]? =some p):
  ∃(v:Value) (us:List Value) (fP:Nat),a7 w ν p v∧v.cells.size=sz∧∃b o,u= .pointer (some ⟨b,o,none⟩)∧∀j c,v.cells.toList[f+j]? =some c→w.cell? ⟨b,o+j,none⟩=some c:=by
 simp only[a7]at ab;obtain⟨_,hi,n',e6,J,U,ao⟩:=ab;obtain⟨v,us,a6,bz,bU,cT⟩:=a1.own k _ ad;rw[J]at a6;simp only[dG,jm]at a6;obtain⟨rfl,rfl⟩:=a6;obtain⟨bl,ae,rfl⟩:=ao rfl;obtain⟨cap,rfl⟩:=UQ bz ae;obtain⟨au,lu,_⟩:=cT xs rfl;simp only at au lu;obtain⟨v,dI,eZ,kK⟩:=Gt i lu bI;refine⟨v,us,el,dI,eZ,bl,_,rfl,fun j c af=>?_⟩;have bC:f+j<sz:=by have:=(fN.1 af).1;simp[eZ]at this;exact this
 have hmul:i*sz+sz≤n'*sz:=by have:=Nat.mul_le_mul_right sz (show i+1≤n' from hi);rwa[Nat.succ_mul]at this
 have ay:=bz.cellAt (i*sz+f+j) (by show _<n'*sz;omega);rw[ay];rw[kK,List.getElem?_take,if_pos bC,List.getElem?_drop]at af;rw[←af];congr 1;omega
theorem FC{P:cB}{bA:List (Nat×dC)}(aN:fM P bA=true){pr:Nat→Prop}{w:World}{ν:bc}{b:List (aH×List ah)}{e:List (aH×fF)}(a1:Good pr w ν b e){t:Nat}{f:dC}(aI:dU bA t=some f)
  {x:ah} {u:Value} (ab:a7 w ν x u) {c:Prop} {p:ah} (he:mv b e f.kind.isAgg f.size x=some (c,p)) (ay:c):∃v,(Instr.loadAt t u).run P w= .ok v w∧a7 w ν p v:=by
 obtain⟨bE,ag⟩:=uG aN aI w;generalize EC:f.kind.isAgg=e2 at*;generalize ef:f.size=sz at*;unfold mv at he;split at he
 ·rename_i dF k n i se;unfold x1 at he;split at he
  ·rename_i n' el jb xs ad;split at he
   ·rename_i aw;obtain⟨rfl,rfl⟩:=aw;split at he
    ·rename_i F2 aeJ;obtain⟨MX,us,fP,g1,g2,qp⟩:=Good.rowElem a1 ad ab aeJ;have kZ:dX F2=true:=by
      cases e2
      ·simp only[gP,if_false,gH]at he;obtain⟨q,_,he⟩:=he;cases he;exact ay
      ·simp only[if_true]at he;cases he;exact ay.1
     have dr:=uy g1 kZ;cases e2
     ·simp only[gP,if_false,gH]at he;obtain⟨q,bn,he⟩:=he;cases he;obtain⟨v,f1,f2,f3⟩:=CV se dr bn;refine⟨v,?_,f2⟩;obtain⟨b,o,rfl,qp⟩:=qp;have:=qp 0 v (by simpa using f1);simp only[Nat.add_zero]at this;simp[Instr.loadAt,Instr.sureAddr,loadVar,bE,this]
     ·simp only[if_true]at he;cases he;obtain⟨b,o,rfl,qp⟩:=qp;refine⟨.agg ((MX.cells.toList.drop se).take sz).toArray,?_,by simp only[a7];exact⟨_,rfl,by simpa using Gw dr se sz⟩⟩;have au:=pk dr;have hlen:((MX.cells.toList.drop se).take sz).length=sz:=by simp only[List.length_take,r1];omega
      have h3:=run_loadCells_list (P:=P) w ⟨b,o,none⟩ ((MX.cells.toList.drop se).take sz) (fun j v af=>by
       rw[oT];refine qp j v ?_;rw[List.getElem?_take]at af;split at af
       ·simpa[List.getElem?_drop]using af
       ·cases af)
      rw[hlen]at h3;simp only[Instr.loadAt,Instr.sureAddr,loadVar,fC,gk,fJ,bE,if_true,ag,h3]
    ·cases he
   ·cases he
  ·cases he
 ·rename_i k off;simp only[a7]at ab;obtain⟨bl,J,rfl⟩:=ab;split at he
  ·rename_i cs ad;obtain⟨ic,us,el,g1,g2,g3,g4,g5⟩:=a1.box k cs ad;rw[J]at g1;cases g1;have sw:hN cs=true:=by
    cases e2
    ·simp only[gP,if_false,gH]at he;obtain⟨q,bn,he⟩:=he;cases he;exact ay
    ·simp only[if_true]at he;cases he;exact ay.1
   rw[um sw]at g4;rw[uo sw]at g5;have au:=pk g5;cases e2
   ·simp only[gP,if_false,gH]at he;obtain⟨q,bn,he⟩:=he;cases he;obtain⟨v,f1,f2,f3⟩:=CV off g5 bn;refine⟨v,?_,f2⟩;have qp:w.cell? ⟨bl,off,none⟩=some v:=by simpa[World.cell?,g4]using f1
    simp[Instr.loadAt,Instr.sureAddr,loadVar,bE,qp]
   ·simp only[if_true]at he;cases he;replace ay:=ay.2;refine⟨_,?_,by simp only[a7];exact⟨_,rfl,by simpa using Gw g5 off sz⟩⟩;simp only[Instr.loadAt,Instr.sureAddr,loadVar,fC,gk,fJ,bE,if_true,ag];rw[akn g4 (by simp at au;omega)];rfl
  ·cases he
 ·rename_i q;simp only[a7]at ab;obtain⟨bl,off,e6,rfl,U,ao⟩:=ab;cases e2
  ·simp only[gP,if_false]at he;cases he;obtain⟨RJ,yY⟩:=ay;obtain⟨g1,g2⟩:=LZ U RJ (fun cs e=>by subst e;have:=e7 List.length yY;simp only[cells,p8,List.length_nil]at this;cases cs with
    |nil=>simp[cells]at yY
    |cons y ys=>simp only[cells,p6]at yY;obtain⟨ak,aB⟩:=yY;subst aB;have:=e7 SizeOf.sizeOf ak;simp at this;omega)
   refine⟨e6,?_,U⟩;rw[g2]at ao;have qp:=ao.1.2;simp[Instr.loadAt,Instr.sureAddr,loadVar,bE,qp]
  ·simp only[if_true]at he;cases he;obtain⟨cs,rfl,hlen⟩:=ay;simp only[a7]at U;obtain⟨us,rfl,a8⟩:=U;refine⟨.agg us,?_,by simp only[a7];exact⟨us,rfl,a8⟩⟩;simp only[po]at ao;have au:=pk a8;have:=ako (P:=P) ao;rw[show us.toList.length=sz from by omega]at this;simp[Instr.loadAt,Instr.sureAddr,loadVar,bE,ag,this]
 ·cases he
theorem acr{P:cB}{bA:List (Nat×dC)}(aN:fM P bA=true){w:World}{ν:bc}{s i:Nat}{f:dC}{dK:List (Nat×Nat)}(aI:dU bA s=some f)(ad:f.kind= .struct dK){off t:Nat}{g:dC}(hi:dK[i]? =some (off,t))(a1:dU bA t=some g)(bB:g.size≠0)
  {x:ah} {u:Value} (ab:a7 w ν x u) {c:Prop} {p:ah} (he:pH off g.kind.isAgg g.size x=some (c,p)) (ay:c):∃v,(Instr.fieldAt s u i).run P w= .ok v w∧a7 w ν p v:=by
 obtain⟨d,aQ,eX⟩:=iK aN aI;rw[ad]at eX;obtain⟨gs,rfl,kk⟩:=Ie eX;have qt:∃fd:Field,gs[i]? =some fd∧fd.offset=off∧fd.type=t:=by rw[←kk]at hi;simp only[List.getElem?_map,gH]at hi;obtain⟨fd,J,U⟩:=hi;simp only[jm]at U;exact⟨fd,by simpa using J,U.1,U.2⟩
 obtain⟨fd,EJ,av,oh⟩:=qt;obtain⟨bE,ag⟩:=uG aN a1 w;have h3:∀b o,(Instr.fieldAt s (.pointer (some ⟨b,o,none⟩)) i).run P w= .ok (.pointer (some ⟨b,o+off,none⟩)) w:=by intro b o;simp[Instr.fieldAt,run_underlying aQ,EJ,Instr.sureAddr,fieldPlace,oh,ag,bB,oT,av]
 unfold pH at he;split at he
 ·cases he;simp only[a7]at ab;obtain⟨b,J,rfl⟩:=ab;exact⟨_,h3 _ _,by simp only[a7];exact⟨b,J,rfl⟩⟩
 ·cases he;simp only[a7]at ab;obtain⟨⟨b,o,rfl⟩,hi,n',e6,J,U,ao⟩:=ab;refine⟨_,h3 _ _,?_⟩;simp only[a7];refine⟨⟨b,_,rfl⟩,hi,n',e6,J,U,fun e=>?_⟩;obtain⟨bO,ak,aB⟩:=ao e;simp only[aso,dG,Addr.mk.injEq,and_true]at aB;obtain⟨rfl,rfl⟩:=aB;exact⟨b,ak,by rw[Nat.add_assoc]⟩
 ·rename_i cs;simp only[a7]at ab;obtain⟨b,o,e6,rfl,⟨us,rfl,U⟩,ao⟩:=ab;refine⟨_,h3 _ _,?_⟩;simp only[po]at ao;split at he
  ·cases he;simp only[a7];exact⟨b,o+off,.agg ((us.toList.drop off).take g.size).toArray,rfl,⟨_,rfl,by simpa using Gw U off g.size⟩,by simpa[po]using Fx g.size (Fv off ao)⟩
  ·simp only[gH]at he;obtain⟨q,bn,he⟩:=he;cases he;obtain⟨v,f1,f2,f3⟩:=CV off U bn;simp only[a7];have aer:=ub ao f1;have ae5:v.cells= #[v]:=by cases v<;>first|rfl|cases f3
   exact⟨b,o+off,v,rfl,f2,by rw[ae5];exact⟨aer,trivial⟩⟩
 ·cases he
theorem acy{P:cB}{bA:List (Nat×dC)}(aN:fM P bA=true){w:World}{ν:bc}{s i:Nat}{f:dC}{dK:List (Nat×Nat)}(aI:dU bA s=some f)(ad:f.kind= .struct dK){off t:Nat}{g:dC}(hi:dK[i]? =some (off,t))(a1:dU bA t=some g)
  {x:ah} {u:Value} (ab:a7 w ν x u) {c:Prop} {p:ah} (he:qZ off g.kind.isAgg g.size x=some (c,p)) (ay:c):∃v,(Instr.field s u i).run P w= .ok v w∧a7 w ν p v:=by
 obtain⟨d,aQ,eX⟩:=iK aN aI;rw[ad]at eX;obtain⟨gs,rfl,kk⟩:=Ie eX;have qt:∃fd:Field,gs[i]? =some fd∧fd.offset=off∧fd.type=t:=by rw[←kk]at hi;simp only[List.getElem?_map,gH]at hi;obtain⟨fd,J,U⟩:=hi;simp only[jm]at U;exact⟨fd,by simpa using J,U.1,U.2⟩
 obtain⟨fd,EJ,av,oh⟩:=qt;obtain⟨bE,ag⟩:=uG aN a1 w;unfold qZ at he;split at he
 ·rename_i cs;simp only[a7]at ab;obtain⟨us,rfl,U⟩:=ab;generalize EC:g.kind.isAgg=e2 at*;cases e2
  ·simp only[gP,if_false,gH]at he;obtain⟨q,bn,he⟩:=he;cases he;obtain⟨v,f1,f2,f3⟩:=CV off U bn;have aav:us[off]? =some v:=by simpa using f1
   exact⟨v,by simp[Instr.field,run_underlying aQ,EJ,asAgg,part,oh,bE,av,aav],f2⟩
  ·simp only[if_true]at he;cases he;refine⟨.agg (us.extract off (off+g.size)),by simp[Instr.field,run_underlying aQ,EJ,asAgg,part,oh,bE,av,ag],?_⟩;simp only[a7];refine⟨_,rfl,?_⟩;have:=Gw U off g.size;simpa[List.take_drop]using this
 ·cases he
theorem afi{P:cB}{bA:List (Nat×dC)}(aN:fM P bA=true){w:World}{ν:bc}{t e:Nat}{f g:dC}(aI:dU bA t=some f)(ad:f.kind= .slice e)(a1:dU bA e=some g)
  {x y:ah} {u v:Value} (ab:a7 w ν x u) (aG:a7 w ν y v) {c:Prop} {p:ah} (he:zt g.size x y=some (c,p)) (ay:c):∃r,(Instr.indexAt t u v).run P w= .ok r w∧a7 w ν p r:=by
 obtain⟨d,aQ,eX⟩:=iK aN aI;rw[ad]at eX;obtain rfl:=r9 eX;obtain⟨bE,ag⟩:=uG aN a1 w;unfold zt at he;split at he
 ·rename_i dF tag xs k i;split at he
  ·rename_i ef;cases he;simp only[a7]at ab aG;subst aG;subst ef;obtain⟨⟨a,cap,rfl,J,U,ao⟩,_⟩:=ab;obtain⟨BJ,lR⟩:=ay;have jg:i.toNat<xs.length:=by omega
   rcases ao with rfl|⟨b,off,us,rfl,a8,bZ⟩
   ·simp at jg
   ·have ab:xs[i.toNat]? =some xs[i.toNat]:=cf jg;obtain⟨w',dI,eZ,kK⟩:=Gt i.toNat bZ ab;refine⟨.pointer (some ⟨b,off+i.toNat*g.size,none⟩),?_,?_⟩
    ·simp only[Instr.indexAt,asIntOf,fC,gk,fJ,run_underlying aQ,BJ,lR,and_self,if_true,ag,oT]
    ·simp only[a7];refine⟨b,off+i.toNat*g.size,w',rfl,by simpa[List.getD,ab]using dI,?_⟩;rw[kK];exact Fx g.size (Fv _ a8)
  ·cases he
 ·rename_i dF k n k3 i;split at he
  ·rename_i ef;cases he;simp only[a7]at ab aG;subst aG;subst ef;obtain⟨⟨b,cap,rfl⟩,U,n',e6,ao,a8,bZ⟩:=ab;obtain⟨BJ,lR⟩:=ay;refine⟨.pointer (some ⟨b,0+i.toNat*g.size,none⟩),?_,?_⟩
   ·simp only[Instr.indexAt,asIntOf,fC,gk,fJ,run_underlying aQ,BJ,lR,and_self,if_true,ag,oT]
   ·simp only[a7];refine⟨⟨b,_,rfl⟩,by omega,n',e6,ao,a8,fun e=>⟨b,?_,by simp⟩⟩;rw[←bZ e];rfl
  ·cases he
 ·cases he
theorem FY{C:e8}{st:bq}{a:Act}{w:World}{ν:bc}(h:cO C st a w ν){x:Option ds}{o:Option Operand}(ab:vO x o=true){Ed n:Int}(he:qE Ed (x.map (cm st.t))=some n):
  (o.map a.eval=none∧n=Ed)∨ ∃k,o.map a.eval=some (.int k n):=by
 cases x with
 |none=>cases o with
  |none=>simp[qE]at he;exact .inl ⟨rfl,he.symm⟩
  |some o=>simp[vO]at ab
 |some x=>cases o with
  |none=>simp[vO]at ab
  |some o=>
   simp only[vO]at ab
   have:=eh h ab
   simp only[nQ]at he⊢
   cases tI:cm st.t x<;>simp[tI,qE]at he
   rw[tI]at this
   simp only[a7]at this
   subst he
   exact .inr ⟨_,by rw[this]⟩
theorem XC{c d:ah}(h:Hg c d=true):c=d:=by unfold Hg at h;split at h<;>simp_all
theorem M4:∀{cs eM:List ah},yh cs eM=true→cs=eM
 |[],[],_=>rfl
 |[],_::_,h=>by simp[yh]at h
 |_::_,[],h=>by simp[yh]at h
 |c::cs,d::eM,h=>by simp only[yh,cz]at h;rw[XC h.1,M4 h.2]
theorem amV{cs:List ah}{z:ah}(h:M8 cs z=true):z= .agg cs:=by
 cases z<;>simp only[M8]at h;case agg eM=>rw[M4 h]
 all_goals cases h
theorem adp(s:List dB)(n:Nat)(h:n<s.length):(⟨s.toArray⟩:ByteArray)[n]? =some (s.getD n 0):=by
 have ef:n<(⟨s.toArray⟩:ByteArray).size:=by rw[C5];exact h
 have e:(⟨s.toArray⟩:ByteArray)[n]? =some ((⟨s.toArray⟩:ByteArray)[n]'ef):=getElem?_pos (⟨s.toArray⟩:ByteArray) n ef;rw[e];congr 1;simp[List.getD,h];rfl
theorem GN(P:cB)(w:World)(k:IntKind)(i:Int)(y:Nat)(c:BoundsCode)(bB:0≤i)(J:i≤y):(Instr.sliceBound (.int k i) y c).run P w= .ok i.toNat w:=by simp[Instr.sliceBound,asIntOf,bB,J]
theorem NQ(P:cB)(w:World)(afD:Bool)(len cap:Nat)(lo hi:Option Value)(l h:Int)(BL:(lo=none∧l=0)∨ ∃k,lo=some (.int k l))(BI:(hi=none∧h=len)∨ ∃k,hi=some (.int k h))
  (bB:0≤l) (J:l≤h) (U:h≤len) (ay:len≤cap):(Instr.sliceBounds afD len cap lo hi none).run P w= .ok (l.toNat,h.toNat,cap) w:=by
 rcases BL with⟨rfl,rfl⟩|⟨k,rfl⟩<;>rcases BI with⟨rfl,rfl⟩|⟨bL,rfl⟩
 ·simp[Instr.sliceBounds]
 ·simp[Instr.sliceBounds,GN P w bL h cap _ (by omega) (by omega)]
 ·simp[Instr.sliceBounds,GN P w k l len _ (by omega) (by omega)]
 ·simp[Instr.sliceBounds,GN P w bL h cap _ (by omega) (by omega),GN P w k l h.toNat _ (by omega) (by omega)]
theorem UX{P:cB}{bA:List (Nat×dC)}(aN:fM P bA=true):∀(gs:List Field),(gs.all fun f=>(dU bA f.type).isSome)=true→
  ∃sO:List (Nat×Nat),gs.mapM (fun f=>(P.info? f.type).map fun i=>(f.offset,i.size))=some sO∧
   ∀(i off t sz:Nat),(gs.map (fun f=>(f.offset,f.type)))[i]? =some (off,t)→(dU bA t).map (·.size)=some sz→sO[i]? =some (off,sz)
 |[],_=>⟨[],by simp,by simp⟩
 |f::gs,h=>by
  simp only[List.all_cons,cz]at h;obtain⟨sO,J,U⟩:=UX aN gs h.2;obtain⟨g,a1⟩:=fD.1 h.1;obtain⟨i,d,z,ak,aB,bf,dd,gS,hG,qT,qU⟩:=(uI aN a1).ex;refine⟨(f.offset,g.size)::sO,by simp[List.mapM_cons,ak,bf,J],fun j off t sz af ef=>?_⟩;cases j with
  |zero=>simp only[gG,List.getElem?_cons_zero,dG,jm]at af⊢;obtain⟨rfl,rfl⟩:=af;rw[a1]at ef;simpa using ef
  |succ j=>simp only[gG,List.getElem?_cons_succ]at af⊢;exact U j off t sz af ef
theorem k8{P:cB}{w:World}{x:Sem Value}{v:Value}(h:x.run P w= .ok v w):(do pure (Next.value (←x)):Sem Next).run P w= .ok (.value v) w:=by simp[h]
theorem M7{p q:ah}(h:AK p q=true):p=q:=by
 unfold AK at h;split at h
 ·rw[M4 h]
 ·cases h
 ·exact XC h
theorem M6(w:World)(ν:bc){p:ah}{v:Value}(h:yi p v=true):a7 w ν p v∧cY w ν (cells p) v.cells.toList:=by
 by_cases bE:∃cs,p= .agg cs
 ·obtain⟨cs,rfl⟩:=bE;cases v<;>simp only[yi]at h;case agg us=>have:=M5 w ν _ _ h;exact⟨by simp only[a7];exact⟨us,rfl,this⟩,by simpa[cells,po]using this⟩
  all_goals cases h
 ·have cr:yw p v=true∧v.oneCell'=true:=by cases p<;>simp only[yi,cz]at h<;>first|exact h|exact absurd ⟨_,rfl⟩ bE
  have aL:=HJ w ν cr.1;refine⟨aL,?_⟩;have ay:cells p=[p]:=by cases p<;>first|rfl|exact absurd ⟨_,rfl⟩ bE
  have aK:v.cells= #[v]:=by have:=cr.2;cases v<;>first|rfl|simp[Value.oneCell']at this
  rw[ay,aK];simp only[cY];exact⟨v,[],rfl,⟨aL,cr.2⟩,rfl⟩
theorem Mz{P:cB}{bA:List (Nat×dC)}(aN:fM P bA=true){t:Nat}{f:dC}(aI:dU bA t=some f)(w:World):∃z,(zeroValue t).run P w= .ok z w∧yi f.zero z=true∧z.cells.size=f.size:=by obtain⟨i,d,z,J,U,ao,a8,bZ,c7,ee,nz⟩:=(uI aN aI).ex;exact⟨z,by simp[zeroValue,typeInfo,J,c7],ee,nz⟩
theorem CX{C:e8}{st:bq}{a:Act}{w:World}{ν:bc}(h:cO C st a w ν):∀{xs:List ds} {os:List Operand},xP xs os=true→cK w ν (xs.map (cm st.t)) (os.map a.eval)
 |[],[],_=>by simp[cK]
 |[],_::_,ad=>by simp[xP]at ad
 |_::_,[],ad=>by simp[xP]at ad
 |x::xs,o::os,ad=>by simp only[xP,cz]at ad;simp only[gG,cK];exact⟨_,_,rfl,eh h ad.1,CX h ad.2⟩
theorem ZC{P:cB}{w:World}{t:fT}(aQ:P.underlying t=some .bool)(d:Nat)(a b:Bool):(Op.equalIn (d+1) t (.bool a) (.bool b)).run P w= .ok (a==b) w:=by rw[Op.equalIn];simp only[fC,run_underlying aQ,fJ,gk]
theorem ZD{P:cB}{w:World}{t:fT}(aQ:P.underlying t=some .bool)(a b:Bool):(Op.equal t (.bool a) (.bool b)).run P w= .ok (a==b) w:=ZC aQ _ a b
theorem Qr:∀{borns:List Nat} {kvs:List ah} {us:List Value},kvs.length=2*borns.length→us.length=kvs.length→(fx borns us).length=borns.length
 |[],_,us,_,_=>by simp[fx]
 |bO::eS,kvs,[],J,U=>by rw[J]at U;simp at U
 |bO::eS,kvs,[_],J,U=>by rw[J]at U;simp at U;omega
 |bO::eS,kvs,k::v::us,J,U=>by simp only[fx,p8];rw[Qr (kvs:=kvs.drop 2) (us:=us) (borns:=eS) (by simp at J⊢;omega) (by simp at J U⊢;omega)]
theorem V6{w:World}{ν:bc}:∀{cg:List ah} {ba:List Value},cK w ν cg ba→ba.length=cg.length
 |[],ba,h=>by simp only[cK]at h;subst h;rfl
 |p::cg,ba,h=>by simp only[cK]at h;obtain⟨u,ca,rfl,_,U⟩:=h;simp[V6 U]
theorem uB{P:cB}{w:World}{r:Nat}{o:Obj}(ae:w.heap[r]? =some o)(aw:∀c e f,o≠ .cells c e f:=by simp):(getObj r).run P w= .ok o w:=by simp only[getObj,Sem.run,ae]
def p9(P:cB):Nat→List Bool→List Field→Prop
 |_,[],[]=>True
 |n,b::r,f::gs=>(f.offset=n∧f.name≠ "_" ∧(if b=true then P.underlying f.type=some .string else∃k,P.underlying f.type=some (.int k)))∧p9 P (n+1) r gs
 |_,_,_=>eo
theorem CM{P:cB}{t:fT}{b:Bool}(h:if b=true then P.underlying t=some .string else∃k,P.underlying t=some (.int k)):P.plainKey t=true:=by
 cases b
 ·obtain⟨k,h⟩:=(by simpa using h:∃k,P.underlying t=some (.int k));simp[Program.plainKey,h]
 ·have h:P.underlying t=some .string:=by simpa using h
  simp[Program.plainKey,h]
theorem YE{P:cB}{w:World}{ν:bc}(d:Nat){X Y:Array Value}(dK:List Bool):∀(gs:List Field) (n:Nat) (as eS:List ah) (us ba:List Value) (q:Bool),p9 P n dK gs→X.toList.drop n=us→Y.toList.drop n=ba→cY w ν as us→cY w ν eS ba→jZ dK as eS=some q→
  (Op.eqFields (d+1) X Y gs).run P w= .ok q w∧(q=true→us=ba)∧∀m,(us.zip us).all (fun(x,y)=>Instr.sameBits m x y)=true:=by
 induction dK with
 |nil=>intro gs n as eS us ba q a1 Bw Bx J U h;cases as<;>cases eS<;>simp only[jZ,dG,reduceCtorEq]at h;cases gs<;>simp only[p9]at a1;simp only[cY]at J U;rw[J,U,←h];exact⟨by simp[Op.eqFields],fun _=>rfl,fun m=>rfl⟩
 |cons wS r bS=>
  intro gs n as eS us ba q a1 Bw Bx J U h;cases gs with
  |nil=>simp only[p9]at a1
  |cons f gs=>
  simp only[p9]at a1;obtain⟨⟨EV,zd,oh⟩,a1⟩:=a1;cases as with
  |nil=>cases wS<;>cases eS<;>simp[jZ]at h
  |cons CK as=>
  cases eS with
  |nil=>cases wS<;>cases CK<;>simp[jZ]at h
  |cons F3 eS=>
  cases wS with
  |false=>
   have ay:∃k a b gz,CK= .int k a∧F3= .int k b∧jZ r as eS=some gz∧q=((a==b)&&gz):=by
    cases CK<;>first|(simp[jZ]at h;done)|skip
    cases F3<;>first|(simp[jZ]at h;done)|skip
    simp only[jZ]at h;split at h
    ·rename_i ad;subst ad;simp only[gH]at h;obtain⟨gz,ao,a8⟩:=h;exact⟨_,_,_,gz,rfl,rfl,ao,a8.symm⟩
    ·cases h
   obtain⟨k,a,b,gz,rfl,rfl,ao,rfl⟩:=ay;simp only[cY,a7]at J U;obtain⟨u,ca,rfl,⟨rfl,_⟩,J⟩:=J;obtain⟨v,vs',rfl,⟨rfl,_⟩,U⟩:=U;have CJ:X[n]? =some (.int k a):=by rw[←ta,←List.head?_drop,Bw];rfl
   have Lh:Y[n]? =some (.int k b):=by rw[←ta,←List.head?_drop,Bx];rfl
   obtain⟨i1,i2,i3⟩:=bS gs (n+1) as eS ca vs' gz a1 (by rw[←List.tail_drop,Bw];rfl) (by rw[←List.tail_drop,Bx];rfl) J U ao;obtain⟨k3,JU⟩:=(by simpa using oh:∃k,P.underlying f.type=some (.int k));refine⟨?_,?_,fun m=>?_⟩
   ·simp only[Op.eqFields,zd,ne_eq,not_false_eq_true,if_true,fC,EV,run_part_plain w (CM oh) CJ,run_part_plain w (CM oh) Lh,fJ,run_equalIn_int w d f.type k k3 a b JU];cases mQ:(a==b)
    ·simp
    ·simpa using i1
   ·intro bn;simp only[cz,dL]at bn;rw[bn.1,i2 bn.2]
   ·have:=i3 m;simp only[List.zip_cons_cons,List.all_cons,this,Bool.and_true];cases m<;>simp[Instr.sameBits]
  |true=>
   have ay:∃a b gz,CK= .str a∧F3= .str b∧jZ r as eS=some gz∧q=((a==b)&&gz):=by
    cases CK<;>first|(simp[jZ]at h;done)|skip
    cases F3<;>first|(simp[jZ]at h;done)|skip
    simp only[jZ,gH]at h;obtain⟨gz,ao,a8⟩:=h;exact⟨_,_,gz,rfl,rfl,ao,a8.symm⟩
   obtain⟨a,b,gz,rfl,rfl,ao,rfl⟩:=ay;simp only[cY,a7]at J U;obtain⟨u,ca,rfl,⟨⟨rfl,_⟩,_⟩,J⟩:=J;obtain⟨v,vs',rfl,⟨⟨rfl,_⟩,_⟩,U⟩:=U;have CJ:X[n]? =some (.string ⟨a.toArray⟩):=by rw[←ta,←List.head?_drop,Bw];rfl
   have Lh:Y[n]? =some (.string ⟨b.toArray⟩):=by rw[←ta,←List.head?_drop,Bx];rfl
   obtain⟨i1,i2,i3⟩:=bS gs (n+1) as eS ca vs' gz a1 (by rw[←List.tail_drop,Bw];rfl) (by rw[←List.tail_drop,Bx];rfl) J U ao;have JU:P.underlying f.type=some .string:=by simpa using oh
   refine⟨?_,?_,fun m=>?_⟩
   ·simp only[Op.eqFields,zd,ne_eq,not_false_eq_true,if_true,fC,EV,run_part_plain w (CM oh) CJ,run_part_plain w (CM oh) Lh,fJ,run_equalIn_string w d f.type _ _ JU];have e:((⟨a.toArray⟩:ByteArray).toList==(⟨b.toArray⟩:ByteArray).toList)=(a==b):=by rw[amZ,amZ]
    rw[e];cases mQ:(a==b)
    ·simp
    ·simpa using i1
   ·intro bn;simp only[cz,dL]at bn;rw[bn.1,i2 bn.2]
   ·have:=i3 m;simp only[List.zip_cons_cons,List.all_cons,this,Bool.and_true];cases m<;>simp only[Instr.sameBits]<;>exact(MapKept.bytes_beq _ _).2 rfl
theorem QZ{P:cB}{bA:List (Nat×dC)}(aN:fM P bA=true):∀(dK:List Bool) (gs:List Field) (n:Nat),yQ bA n dK (gs.map fun f=>(f.offset,f.type))=true→(gs.all (fun f=>match P.underlying f.type with|some (.int _)=>true|some .string=>true|_=>false)=true)∧((∀f∈gs,f.name≠ "_")→p9 P n dK gs)
 |[],[],_,_=>⟨rfl,fun _=>trivial⟩
 |[],_::_,_,h=>by simp[yQ]at h
 |_::_,[],_,h=>by simp[yQ]at h
 |b::r,f::gs,n,h=>by
  simp only[gG,yQ,cz,dL]at h;obtain⟨⟨J,U⟩,ao⟩:=h;obtain⟨i1,i2⟩:=QZ aN r gs (n+1) ao;split at U
  ·rename_i aI;obtain⟨d,hu,aQ⟩:=iK aN aI;obtain rfl:=Ec aQ;refine⟨by simp only[List.all_cons,hu,i1,Bool.and_self],fun aw=>⟨⟨J,aw f (by simp),?_⟩,i2 fun g a1=>aw g (by simp[a1])⟩⟩;have:b=false:=by simpa using U
   subst this;simpa using⟨_,hu⟩
  ·rename_i aI;obtain⟨d,hu,aQ⟩:=iK aN aI;obtain rfl:=yG aQ;refine⟨by simp only[List.all_cons,hu,i1,Bool.and_self],fun aw=>⟨⟨J,aw f (by simp),?_⟩,i2 fun g a1=>aw g (by simp[a1])⟩⟩;subst U;simpa using hu
  ·cases U
theorem Q1{P:cB}{bA:List (Nat×dC)}(aN:fM P bA=true){dK:List Bool}{t:Nat}(h:Er bA dK t=true):∃gs,P.underlying t=some (.struct gs)∧p9 P 0 dK gs.toList∧P.stoodInHeld t=false∧P.eqGuardType P.depth t=false:=by
 unfold Er at h;split at h
 ·rename_i aI;obtain⟨d,hu,aQ⟩:=iK aN aI;have ay:=(uI aN aI).cmp d hu;cases d<;>simp[j0]at aQ;rename_i gs;subst aQ;obtain⟨i1,i2⟩:=QZ aN dK gs.toList 0 h;have sn:Q0 P gs=true:=i1;simp only[Ia,sn,Bool.not_true,Bool.false_or,Qa,cz,rW,jc,bne_iff_ne,ne_eq]at ay;exact⟨gs,hu,i2 ay.1.1,ay.1.2,ay.2⟩
 ·cases h
theorem Qv{P:cB}{w:World}{ν:bc}{t:fT}{gs:Array Field}{dK:List Bool}(hu:P.underlying t=some (.struct gs))(a1:p9 P 0 dK gs.toList)(dc:P.stoodInHeld t=false){as eS:List ah}{X Y:Array Value}(J:cY w ν as X.toList)(U:cY w ν eS Y.toList){q:Bool}(h:jZ dK as eS=some q):
  (Op.equalIn 10000 t (.agg X) (.agg Y)).run P w= .ok q w∧(q=true→X=Y)∧∀m,(X.toList.zip X.toList).all (fun(x,y)=>Instr.sameBits m x y)=true:=by
 have aI:P.fieldsOf t=gs:=by simp[Program.fieldsOf,hu]
 obtain⟨i1,i2,i3⟩:=YE 9998 dK gs.toList 0 as eS _ _ q a1 rfl rfl J U h;refine⟨?_,fun e=>?_,?_⟩
 ·rw[run_equalIn_struct w 9999 t X Y (by rw[aI];exact hu) dc,aI];exact i1
 ·have:=i2 e;simpa using this
 ·simpa using i3
inductive tf (P:cB):jq→fT→Prop
 |i {t:fT} {k:IntKind}:P.underlying t=some (.int k)→tf P .i t
 |s {t:fT}:P.underlying t=some .string→tf P .s t
 |a {t:fT} {dK:List Bool} {gs:Array Field}:P.underlying t=some (.struct gs)→p9 P 0 dK gs.toList→P.stoodInHeld t=false→tf P (.a dK) t
theorem Kh{P:cB}{bA:List (Nat×dC)}(aN:fM P bA=true){b9:jq}{t:Nat}(h:xx bA b9 t=true):tf P b9 t:=by
 cases b9 with
 |i=>
  simp only[xx]at h;split at h
  ·rename_i aI;obtain⟨d,hu,aQ⟩:=iK aN aI;obtain rfl:=Ec aQ;exact .i hu
  ·cases h
 |s=>
  simp only[xx]at h;split at h
  ·rename_i aI;obtain⟨d,hu,aQ⟩:=iK aN aI;obtain rfl:=yG aQ;exact .s hu
  ·cases h
 |a dK=>obtain⟨gs,J,U,ao,_⟩:=Q1 aN h;exact .a J U ao
def r4(P:cB)(w:World)(b9:jq)(t:fT)(gW u:Value)(b:Bool):Prop:=match b9 with
 | .a _=>(Op.equal t gW u).run P w= .ok b w
 |_=> ∀d,P.underlying t=some d→Instr.sameNow d gW u=some b
def hQ(P:cB)(w:World)(b9:jq)(t:fT)(gW:Value)(es:List MapEntry)(i:Nat)(r:Option (Nat×Value)):Prop:=match b9 with
 | .a _=>(Instr.findAsking t gW es i).run P w= .ok r w
 |_=> ∀d,P.underlying t=some d→Instr.findNow d gW es i=some r
theorem hQ.nil(P:cB)(w:World)(b9:jq)(t:fT)(gW:Value)(i:Nat):hQ P w b9 t gW [] i none:=by cases b9<;>simp[hQ,Instr.findAsking,Instr.findNow]
theorem hQ.hit{P:cB}{w:World}{b9:jq}{t:fT}{gW:Value}{e:MapEntry}{es:List MapEntry}{i:Nat}(h:r4 P w b9 t gW e.key true):hQ P w b9 t gW (e::es) i (some (i,e.val)):=by
 cases b9 with
 |a dK=>simp only[r4]at h;simp[hQ,Instr.findAsking,h]
 |i=>simp only[r4]at h;simp only[hQ];intro d aQ;simp[Instr.findNow,h d aQ]
 |s=>simp only[r4]at h;simp only[hQ];intro d aQ;simp[Instr.findNow,h d aQ]
theorem hQ.miss{P:cB}{w:World}{b9:jq}{t:fT}{gW:Value}{e:MapEntry}{es:List MapEntry}{i:Nat}{r:Option (Nat×Value)}(h:r4 P w b9 t gW e.key false)(aL:hQ P w b9 t gW es (i+1) r):hQ P w b9 t gW (e::es) i r:=by
 cases b9 with
 |a dK=>simp only[r4]at h;simp only[hQ]at aL;simp[hQ,Instr.findAsking,h,aL]
 |i=>simp only[r4]at h;simp only[hQ]at aL⊢;intro d aQ;simp[Instr.findNow,h d aQ,aL d aQ]
 |s=>simp only[r4]at h;simp only[hQ]at aL⊢;intro d aQ;simp[Instr.findNow,h d aQ,aL d aQ]
theorem hQ.run{P:cB}{w:World}{b9:jq}{t:fT}(aQ:tf P b9 t){gW:Value}{es:List MapEntry}{r:Option (Nat×Value)}(h:hQ P w b9 t gW es 0 r):(Instr.findKey t gW es).run P w= .ok r w:=by
 cases aQ with
 |i hu=>simp only[hQ]at h;simp[Instr.findKey,run_underlying hu,h _ hu]
 |s hu=>simp only[hQ]at h;simp[Instr.findKey,run_underlying hu,h _ hu]
 |a hu a1 dc=>
  simp only[hQ]at h;cases es with
  |nil=>simp[Instr.findAsking]at h;simp[Instr.findKey,run_underlying hu,Instr.findNow,h]
  |cons e es=>
   rename_i gs;have:Instr.sameNow (.struct gs) gW e.key=none:=by cases gW<;>rfl
   simp only[Instr.findKey,fC,run_underlying hu,fJ,Instr.findNow,this];exact h
theorem Tj{P:cB}{w:World}{ν:bc}{b9:jq}{t:fT}(aQ:tf P b9 t){k bL:ah}{gW u:Value}(ad:a7 w ν k gW)(J:a7 w ν bL u){bb:Bool}(ae:sE b9 k bL=some bb):
  r4 P w b9 t gW u bb∧(bb=true→u=gW∧Instr.sameBits 10000 u gW=true):=by
 unfold sE at ae;split at ae
 ·split at ae
  ·rename_i lp;subst lp;simp only[a7]at ad J;subst ad;subst J;cases aQ with
   |i hu=>refine⟨fun d aQ=>by rw[hu]at aQ;cases aQ;simpa[Instr.sameNow]using ae,fun e=>?_⟩;subst e;simp only[dG,dL]at ae;subst ae;exact⟨rfl,by simp[Instr.sameBits]⟩
  ·cases ae
 ·rename_i a b;simp only[a7]at ad J;obtain⟨rfl,_⟩:=ad;obtain⟨rfl,_⟩:=J;cases aQ with
  |s hu=>
   refine⟨fun d aQ=>?_,fun e=>?_⟩
   ·rw[hu]at aQ;cases aQ;simp only[Instr.sameNow];rw[←ae];congr 1;rw[p5,MapKept.bytes_beq];simp
   ·subst e;simp only[dG,dL]at ae;subst ae;exact⟨rfl,by simp only[Instr.sameBits];exact(MapKept.bytes_beq _ _).2 rfl⟩
 ·simp only[a7]at ad J;obtain⟨X,rfl,ad⟩:=ad;obtain⟨Y,rfl,J⟩:=J;cases aQ with
  |a hu a1 dc=>obtain⟨i1,i2,i3⟩:=Qv hu a1 dc ad J ae;refine⟨by simpa[r4,Op.equal,Op.maxDepth]using i1,fun e=>?_⟩;have:=i2 e;subst this;exact⟨rfl,by simp[Instr.sameBits,i3]⟩
 ·cases ae
theorem KJ{P:cB}{w:World}{ν:bc}{b9:jq}{t:fT}(aQ:tf P b9 t){k:ah}{gW:Value}(ad:a7 w ν k gW):∀(borns:List Nat) (kvs:List ah) (us:List Value) (i:Nat) (r:Option ah),cK w ν kvs us→kvs.length=2*borns.length→vH b9 k kvs=some r→
  match r with
  |none=>hQ P w b9 t gW (fx borns us) i none
  |some v=> ∃j u,hQ P w b9 t gW (fx borns us) i (some (j,u))∧a7 w ν v u
 |[],[],us,i,r,h,_,hm=>by simp only[vH]at hm;cases hm;simp only[cK]at h;subst h;simpa[fx]using hQ.nil P w b9 t gW i
 |[],_::_,_,_,_,_,au,_=>by simp at au
 |b::eS,[],_,_,_,_,au,_=>by simp at au
 |b::eS,[_],_,_,_,_,au,_=>by simp at au;omega
 |b::eS,bL::v::kvs,us,i,r,h,au,hm=>by
  simp only[cK]at h;obtain⟨h7,ME,rfl,J,iL,rS,rfl,U,ao⟩:=h;simp only[vH]at hm;simp only[fx];cases bn:sE b9 k bL with
  |none=>simp[bn]at hm
  |some bb=>
   obtain⟨s1,_⟩:=Tj aQ ad J bn;simp only[bn]at hm;cases bb with
   |true=>simp only[dG]at hm;subst hm;exact⟨i,iL,hQ.hit (e:=⟨h7,iL,b⟩) s1,U⟩
   |false=>
    simp only at hm;have bS:=KJ aQ ad eS kvs rS (i+1) r ao (by simp at au;omega) hm;cases r with
    |none=>exact hQ.miss (e:=⟨h7,iL,b⟩) s1 bS
    |some v'=>obtain⟨j,u,g1,g2⟩:=bS;exact⟨j,u,hQ.miss (e:=⟨h7,iL,b⟩) s1 g1,g2⟩
theorem H8{P:cB}{w:World}{t:Nat}{d:TypeDesc}(hu:P.underlying t=some d)(aQ:(∃k,d= .int k)∨d= .string)(e:Bool)(n:Nat)(v:Value):(Instr.checkKey e (n+1) t v).run P w= .ok () w:=by unfold Instr.checkKey;rcases aQ with⟨k,rfl⟩|rfl<;>simp[run_underlying hu]
theorem acx{P:cB}{w:World}{ν:bc}{X:Array Value}(dK:List Bool):∀(gs:List Field) (n:Nat) (as:List ah),p9 P n dK gs→cY w ν as (X.toList.drop n)→(jZ dK as as).isSome=true→
  ∀f∈gs,(∃v,(part f.type X f.offset).run P w= .ok v w)∧∃d,P.underlying f.type=some d∧((∃k,d= .int k)∨d= .string):=by
 induction dK with
 |nil=>intro gs n as a1 _ _ f aI;cases gs<;>simp only[p9]at a1;cases aI
 |cons wS r bS=>
  intro gs n as a1 aL ay f aI;cases gs with
  |nil=>cases aI
  |cons g gs=>
  simp only[p9]at a1;obtain⟨⟨EV,zd,oh⟩,a1⟩:=a1;cases as with
  |nil=>cases wS<;>simp[jZ]at ay
  |cons p as=>
  have gT:(jZ r as as).isSome=true:=by cases wS<;>cases p<;>simp[jZ]at ay⊢ <;>exact ay
  simp only[cY]at aL;obtain⟨u,ca,e,_,df⟩:=aL;have aB:X.toList.drop (n+1)=ca:=by rw[←List.tail_drop,e];rfl
  have CJ:X[n]? =some u:=by rw[←ta,←List.head?_drop,e];rfl
  rcases fU.1 aI with rfl|aI
  ·refine⟨⟨u,by rw[EV];exact run_part_plain w (CM oh) CJ⟩,?_⟩;cases wS
   ·obtain⟨k,h⟩:=(by simpa using oh:∃k,P.underlying f.type=some (.int k));exact⟨_,h,.inl ⟨k,rfl⟩⟩
   ·exact⟨_,by simpa using oh,.inr rfl⟩
  ·exact bS gs (n+1) as a1 (by rw[aB];exact df) gT f aI
theorem Q7{P:cB}{w:World}{α:Type}(body:α→PUnit→Sem (ForInStep PUnit)):∀(l:List α),(∀f∈l,(body f ⟨⟩).run P w= .ok (.yield ⟨⟩) w)→(forIn l PUnit.unit body).run P w= .ok PUnit.unit w
 |[],_=>by simp
 |f::l,h=>by simp only[List.forIn_cons,fC,h f (by simp),fJ];exact Q7 body l fun g a1=>h g (by simp[a1])
theorem L2{P:cB}{w:World}{ν:bc}{b9:jq}{t:Nat}(aQ:tf P b9 t)(e:Bool){k:ah}{v:Value}(ad:a7 w ν k v)(hi:tW b9 k=true):(Instr.checkKey e 10000 t v).run P w= .ok () w:=by
 cases aQ with
 |i hu=>exact H8 hu (.inl ⟨_,rfl⟩) e 9999 v
 |s hu=>exact H8 hu (.inr rfl) e 9999 v
 |a hu a1 dc=>
  rename_i dK gs;cases k<;>simp only[tW,gP]at hi;rename_i as;simp only[a7]at ad;obtain⟨X,rfl,ad⟩:=ad;unfold Instr.checkKey;simp only[fC,run_underlying hu,fJ];rw[←Array.forIn_toList];rw[Q7]
  ·simp
  ·intro f aI;obtain⟨⟨v,J⟩,d,U,ao⟩:=acx dK gs.toList 0 as a1 (by simpa using ad) hi f aI;have a8:=H8 (w:=w) U ao e 9998 v;by_cases aw:f.name= "_"
   ·simp[aw]
   ·simp[aw,J,a8]
theorem T1{w:World}{ν:bc}{n:Nat}:∀(borns:List Nat) (kvs:List ah) (us:List Value) (p:ah),cK w ν kvs us→mw n borns kvs=some p→∃e,(fx borns us).find? (·.born==n)=some e∧a7 w ν p (.tuple #[e.key,e.val])
 |[],_,_,_,_,hm=>by simp[mw]at hm
 |_::_,[],_,_,_,hm=>by simp[mw]at hm
 |_::_,[_],_,_,_,hm=>by simp[mw]at hm
 |b::eS,k::v::kvs,us,p,h,hm=>by
  simp only[cK]at h;obtain⟨h7,ME,rfl,J,iL,rS,rfl,U,ao⟩:=h;simp only[mw]at hm;simp only[fx];by_cases e:b=n
  ·rw[if_pos e]at hm;cases hm;refine⟨⟨h7,iL,b⟩,by simp[List.find?,e],?_⟩;simp only[a7];exact⟨#[h7,iL],rfl,by simp only[cK];exact⟨_,_,rfl,J,_,_,rfl,U,rfl⟩⟩
  ·rw[if_neg e]at hm;obtain⟨x,g1,g2⟩:=T1 eS kvs rS p ao hm;have adL:(b==n)=false:=by simpa using e
   exact⟨x,by simp[List.find?,adL,g1],g2⟩
theorem WV{P:cB}{bA:List (Nat×dC)}(aN:fM P bA=true){C:e8}{st:bq}{a:Act}{w:World}{ν:bc}(aL:cO C st a w ν){i:fO}(adK:∀b9 z ok x k,i≠ .mgetB b9 z ok x k){o:Oper}(av:Di bA i o.op=true)
  {c:Prop} {p:ah} (he:ha st i=some (c,p)) (ay:c):∃v,(execOp a.eval o).run P w= .ok (.value v) w∧a7 w ν p v:=by
 obtain⟨dst,op,type,pos,after,guard⟩:=o;simp only at av;unfold Di at av;split at av
 ·rename_i x o;simp only[ha]at he;cases he;exact⟨_,rfl,eh aL av⟩
 ·rename_i x o;simp only[ha]at he;cases he;exact⟨_,rfl,eh aL av⟩
 ·rename_i cl x y ano Dq M3;simp only[cz]at av;have J:=eh aL av.1.1;have U:=eh aL av.1.2;have ao:=eh aL av.2;simp only[ha,F4]at he;split at he
  ·rename_i b ae;rw[ae]at J;simp only[a7]at J;split at he
   ·rename_i u v hu aK;cases he;rw[hu]at U;rw[aK]at ao;simp only[a7]at U ao;refine⟨.bool (cond b u v),?_,by simp[a7]⟩;simp only[execOp,J,U,ao,asBool,fC,gk,fJ];cases b<;>rfl
   ·split at he
    ·cases he;exact⟨_,by simp only[execOp,J,asBool,fC,gk,fJ,if_true],U⟩
    ·cases he;exact⟨_,by simp only[execOp,J,asBool,fC,gk,fJ,gP,if_false],ao⟩
  ·cases he
 ·rename_i agg sz x t o;simp only[cz]at av;obtain⟨J,U⟩:=av;split at J
  ·rename_i f aI;simp only[cz,dL]at J;obtain⟨rfl,rfl⟩:=J;obtain⟨v,g1,g2⟩:=FC aN aL.good aI (eh aL U) (by simpa only[ha]using he) ay;exact⟨v,k8 g1,g2⟩
  ·cases J
 ·rename_i off agg sz x s o i;simp only[cz]at av;obtain⟨J,U⟩:=av;split at J
  ·rename_i f aI;split at J
   ·rename_i vL t BE;simp only[cz,dL]at J;obtain⟨rfl,J⟩:=J;split at J
    ·rename_i g a1;simp only[cz,dL,bne_iff_ne,ne_eq]at J;obtain⟨⟨rfl,rfl⟩,bB⟩:=J;obtain⟨v,g1,g2⟩:=acr aN aI rfl BE a1 bB (eh aL U) (by simpa only[ha]using he) ay;exact⟨v,k8 g1,g2⟩
    ·cases J
   ·cases J
  ·cases J
 ·rename_i off agg sz x s o i;simp only[cz]at av;obtain⟨J,U⟩:=av;split at J
  ·rename_i f aI;split at J
   ·rename_i vL t BE;simp only[cz,dL]at J;obtain⟨rfl,J⟩:=J;split at J
    ·rename_i g a1;simp only[cz,dL]at J;obtain⟨rfl,rfl⟩:=J;obtain⟨v,g1,g2⟩:=acy aN aI rfl BE a1 (eh aL U) (by simpa only[ha]using he) ay;exact⟨v,k8 g1,g2⟩
    ·cases J
   ·cases J
  ·cases J
 ·rename_i sz x i t o j;simp only[cz]at av;obtain⟨⟨J,U⟩,ao⟩:=av;split at J
  ·rename_i e aI;split at J
   ·rename_i g a1;simp only[dL]at J;subst J;obtain⟨v,g1,g2⟩:=afi aN aI rfl a1 (eh aL U) (eh aL ao) (by simpa only[ha]using he) ay;exact⟨v,k8 g1,g2⟩
   ·cases J
  ·cases J
 ·rename_i x i t o j;simp only[cz]at av;obtain⟨⟨J,U⟩,ao⟩:=av;split at J
  ·rename_i aI;obtain⟨d,aQ,eX⟩:=iK aN aI;obtain rfl:=yG eX;have ak:=eh aL U;have aB:=eh aL ao;simp only[ha,GL]at he;split at he
   ·rename_i s k n ag aw;cases he;rw[ag]at ak;rw[aw]at aB;simp only[a7]at ak aB;obtain⟨tH,RJ⟩:=ay;have bC:n.toNat<s.length:=by omega
    have aea:(⟨s.toArray⟩:ByteArray)[n.toNat]? =some (s.getD n.toNat 0):=by exact adp s n.toNat bC
    refine⟨_,k8 (v:= .int .u8 (s.getD n.toNat 0).toNat) ?_,by simp[a7]⟩;simp only[Instr.index,aB,asIntOf,ak.1,fC,gk,fJ,run_underlying aQ,tH,if_true,aea]
   ·cases he
  ·cases J
 ·rename_i x lo hi t o l h;simp only[cz]at av;obtain⟨⟨⟨J,U⟩,ao⟩,a8⟩:=av;split at J
  ·rename_i aI;obtain⟨d,aQ,eX⟩:=iK aN aI;obtain rfl:=yG eX;have ak:=eh aL U;simp only[ha,GQ]at he;split at he
   ·rename_i s ag;rw[ag]at ak;simp only[a7]at ak;split at he
    ·rename_i pT cM au Ju;cases he;obtain⟨bH,cj,da⟩:=ay;have aS:=FY aL ao au;have bp:=FY aL a8 Ju;refine⟨_,k8 (v:= .string ⟨((s.take cM.toNat).drop pT.toNat).toArray⟩) ?_,?_⟩
     ·have ae:=NQ P w false s.length s.length (l.map a.eval) (h.map a.eval) pT cM
       aS bp bH cj da (eR _)
      simp only[Instr.sliceAt,Instr.slice,ak.1,fC,gk,fJ,run_underlying aQ,Option.map_none,jW,gP,if_false,C5,ae,aau]
     ·simp only[a7];refine⟨trivial,?_⟩;have:=ak.2;simp only[r1,List.length_take];omega
    ·cases he
   ·cases he
  ·cases J
 ·rename_i sz x lo hi t o l h;simp only[cz]at av;obtain⟨⟨⟨J,U⟩,ao⟩,a8⟩:=av;split at J
  ·rename_i e aI;split at J
   ·rename_i g a1;simp only[dL]at J;subst J;obtain⟨d,aQ,eX⟩:=iK aN aI;obtain rfl:=r9 eX;obtain⟨_,ef⟩:=uG aN a1 w;have ak:=eh aL U;simp only[ha,FD]at he;split at he
    ·rename_i dF tag xs ag;split at he
     ·rename_i fb;subst fb;rw[ag]at ak;simp only[a7]at ak;obtain⟨⟨r5,cap,aK,cc,b4,fH⟩,_⟩:=ak;split at he
      ·rename_i pT cM au Ju;cases he;obtain⟨bH,cj,da⟩:=ay;have aS:=FY aL ao au;have bp:=FY aL a8 Ju;have ae:=NQ P w true xs.length cap (l.map a.eval) (h.map a.eval) pT cM
        aS bp bH cj da cc
       refine⟨_,k8 (v:= .slice (if cap=pT.toNat then r5 else r5.map (·.add (pT.toNat*g.size))) (cM.toNat-pT.toNat) (cap-pT.toNat)) ?_,?_⟩
       ·simp only[Instr.sliceAt,Instr.slice,aK,fC,gk,fJ,run_underlying aQ,Option.map_none,ae,ef]
       ·simp only[a7];have hlen:((xs.take cM.toNat).drop pT.toNat).length=cM.toNat-pT.toNat:=by simp;omega
        refine⟨⟨_,_,by rw[hlen],by rw[hlen];omega,⟨by omega,by rw[hlen];omega⟩,?_⟩,(fun h=>by cases h),(fun g h=>by cases h),(fun _ _ h=>by cases h),(fun _ h=>by cases h)⟩;rcases fH with rfl|⟨b,off,us,rfl,g1,g2⟩
        ·left;simp
        ·by_cases yZ:cap=pT.toNat
         ·left;apply List.eq_nil_of_length_eq_zero;rw[hlen];omega
         ·right;rw[if_neg yZ];refine⟨b,off+pT.toNat*g.size,(us.take (cM.toNat*g.size)).drop (pT.toNat*g.size),by simp[oT],Fv _ (Fx _ g1),VY _ (V1 _ g2)⟩
      ·cases he
     ·cases he
    ·cases he
   ·cases J
  ·cases J
 ·rename_i op wr x y UL ty o o' alj;simp only[cz,fE]at av;obtain⟨⟨rfl,J⟩,U⟩:=av;obtain⟨r,g1,g2⟩:=Yq P w ν (by simpa only[ha]using he) ay ty (eh aL J) (eh aL U) o o';exact⟨r,k8 g1,g2⟩
 ·rename_i x op ty o;simp only[cz,fE]at av;obtain⟨rfl,J⟩:=av;have ak:=eh aL J;simp only[ha]at he;unfold FR at he;split at he
  ·rename_i b ae;cases he;rw[ae]at ak;simp only[a7]at ak;exact⟨_,k8 (v:= .bool (!b)) (by simp[Op.unary,ak]),by simp[a7]⟩
  ·cases he
 ·rename_i x op ty o;simp only[cz,fE]at av;obtain⟨rfl,J⟩:=av;have ak:=eh aL J;simp only[ha]at he;unfold FO at he;split at he
  ·rename_i k n ae;cases he;rw[ae]at ak;simp only[a7]at ak;exact⟨_,k8 (v:= .int k (k.wrap (0-n))) (by simp[Op.unary,ak,Op.intArith]),by simp[a7]⟩
  ·cases he
 ·rename_i k x s d o;simp only[cz]at av;obtain⟨J,U⟩:=av;split at J
  ·rename_i aS bp BC tJ;simp only[fE]at J;subst J;obtain⟨d1,fm,adT⟩:=iK aN BC;obtain rfl:=Ec adT;obtain⟨d2,eN,adU⟩:=iK aN tJ;obtain rfl:=Ec adU;have ak:=eh aL U;simp only[ha]at he;unfold D9 at he;split at he
   ·rename_i bL n ae;cases he;rw[ae]at ak;simp only[a7]at ak;exact⟨_,k8 (v:= .int k (k.wrap n)) (by simp[convert,ak,run_underlying fm,run_underlying eN,Conv.intToInt]),by simp[a7]⟩
   ·cases he
  ·cases J
 ·rename_i i x o j;simp only[cz,dL]at av;obtain⟨rfl,J⟩:=av;have ak:=eh aL J;simp only[ha]at he;unfold yI at he;split at he
  ·rename_i ba ae;simp only[gH]at he;obtain⟨q,bn,he⟩:=he;cases he;rw[ae]at ak;simp only[a7]at ak;obtain⟨us,hu,U⟩:=ak;obtain⟨v,g1,g2⟩:=CY i U bn;have kV:us[i]? =some v:=by simpa using g1
   exact⟨v,k8 (by simp[Instr.extract,hu,kV]),g2⟩
  ·cases he
 ·rename_i x o t;simp only[cz]at av;obtain⟨J,U⟩:=av;have ak:=eh aL U;simp only[ha]at he;unfold zD at he;split at he
  ·rename_i sz tag xs ae;cases he;rw[ae]at ak;simp only[a7]at ak;obtain⟨⟨r5,cap,aK,_⟩,_⟩:=ak;refine⟨.int .i64 xs.length,?_,by simp[a7]⟩;split at J
   ·rename_i aI;obtain⟨d,aQ,eX⟩:=iK aN aI;obtain rfl:=r9 eX;simp[execOp,resolve,invoke,builtin,Builtin.len_,run_underlying aQ,aK,goInt]
   ·cases J
  ·rename_i sz k n ae;cases he;rw[ae]at ak;simp only[a7]at ak;obtain⟨⟨r5,cap,aK⟩,_⟩:=ak;refine⟨.int .i64 n,?_,by simp[a7]⟩;split at J
   ·rename_i aI;obtain⟨d,aQ,eX⟩:=iK aN aI;obtain rfl:=r9 eX;simp[execOp,resolve,invoke,builtin,Builtin.len_,run_underlying aQ,aK,goInt]
   ·cases J
  ·rename_i r5 n cap ae;cases he;rw[ae]at ak;simp only[a7]at ak;refine⟨.int .i64 n,?_,by simp[a7]⟩;split at J
   ·rename_i aI;obtain⟨d,aQ,eX⟩:=iK aN aI;obtain rfl:=r9 eX;simp[execOp,resolve,invoke,builtin,Builtin.len_,run_underlying aQ,ak,goInt]
   ·cases J
  ·cases he
 ·rename_i x o t;simp only[cz]at av;obtain⟨J,U⟩:=av;have ak:=eh aL U;simp only[ha]at he;unfold C6 at he;split at he
  ·rename_i s ae;cases he;rw[ae]at ak;simp only[a7]at ak;refine⟨.int .i64 s.length,?_,by simp[a7]⟩;split at J
   ·rename_i aI;obtain⟨d,aQ,eX⟩:=iK aN aI;obtain rfl:=yG eX;simp[execOp,resolve,invoke,builtin,Builtin.len_,run_underlying aQ,ak.1,goInt,C5]
   ·cases J
  ·rename_i s ae;cases he;rw[ae]at ak;simp only[a7]at ak;refine⟨.int .i64 s.size,?_,by simp[a7]⟩;split at J
   ·rename_i aI;obtain⟨d,aQ,eX⟩:=iK aN aI;obtain rfl:=yG eX;simp[execOp,resolve,invoke,builtin,Builtin.len_,run_underlying aQ,ak,goInt]
   ·cases J
  ·cases he
 ·rename_i zero parts t cg;split at av
  ·rename_i dK z aI;simp only[cz]at av;obtain⟨⟨J,U⟩,ao⟩:=av;have br:=amV J;obtain⟨i,d,amU,ak,aB,bf,dd,gS,hG,qT,qU⟩:=(uI aN aI).ex;obtain⟨gs,rfl,kk⟩:=Ie gS;simp only at br qT qU;subst br;have lj:(gs.toList.all fun f=>(dU bA f.type).isSome)=true:=by rw[←kk]at U;simpa[List.all_map,Function.comp_def]using U
   obtain⟨sO,cN,dq⟩:=UX aN gs.toList lj;rw[kk]at dq;cases amU<;>simp only[yi]at qT;case agg us=>
    simp only[ha]at he;cases ae:tt st.t zero parts with
    |none=>simp[ae]at he
    |some x=>obtain⟨cl,cs'⟩:=x;simp only[ae,nQ]at he;cases he;obtain⟨ca,g1,g2⟩:=We aL dq parts cg.toList zero us c cs' ao (M5 w ν _ _ qT) ae ay;refine⟨.agg ca,k8 (run_build w t _ ca ?_),by simp only[a7];exact⟨ca,rfl,g2⟩⟩;simp only[Program.built,ak,aB,hG,cN,po];simpa using g1
   all_goals cases qT
  ·cases av
 ·rename_i x o;have ak:=eh aL av;simp only[ha]at he;unfold zN at he;split at he
  ·rename_i k off ae;cases he;rw[ae]at ak;have aB:=ak;simp only[a7]at ak;obtain⟨b,_,aK⟩:=ak;exact⟨a.eval o,by simp[execOp,aK],aB⟩
  ·rename_i q ae;cases he;rw[ae]at ak;have aB:=ak;simp only[a7]at ak;obtain⟨b,off,u,aK,_⟩:=ak;exact⟨a.eval o,by simp[execOp,aK],aB⟩
  ·rename_i f cs ae;cases he;rw[ae]at ak;have aB:=ak;simp only[a7]at ak;obtain⟨us,aK,_⟩:=ak;exact⟨a.eval o,by simp[execOp,aK],aB⟩
  ·cases he
 ·rename_i x y o o' t dJ;simp only[cz]at av;have ak:=eh aL av.1;have aB:=eh aL av.2;simp only[ha]at he;unfold FN at he;split at he
  ·rename_i k m bL n hm aw;split at he
   ·rename_i ad;subst ad;cases he;rw[hm]at ak;rw[aw]at aB;simp only[a7]at ak aB;exact⟨.int k (if n<m then n else m),by simp[execOp,resolve,invoke,builtin,Builtin.min_,Builtin.min2,ak,aB],by simp[a7]⟩
   ·cases he
  ·cases he
 ·rename_i n xs m os;simp only[cz,dL]at av;obtain⟨rfl,av⟩:=av;simp only[ha]at he;cases he;have tG:=CX aL av;refine⟨.func (.func n) #[] (os.map a.eval),by simp[execOp,Instr.makeFunc],?_⟩;simp only[a7];exact⟨os.map a.eval,rfl,by simpa using tG⟩
 ·rename_i b9 zero ok x k t o o' FT;simp only[cz,dL]at av;obtain⟨⟨⟨rfl,J⟩,U⟩,ao⟩:=av;have ak:=eh aL U;have aB:=eh aL ao;split at J
  ·rename_i sz kU mu o2 z aI;simp only[cz]at J;obtain⟨aej,Jm⟩:=J;split at Jm
   ·rename_i aob adX;have br:=M7 Jm;obtain⟨cG,hu,eX⟩:=iK aN aI;have sl:cG= .map mu o2:=by cases cG<;>simp[j0]at eX;obtain⟨rfl,rfl⟩:=eX;rfl
    subst sl;obtain⟨b5,kP,z2,_⟩:=Mz aN adX w;rw[←br]at z2;have aa:=(M6 w ν z2).1;have lP:=Kh aN aej;simp only[ha]at he;unfold nE at he;split at he
    ·rename_i key ab;rw[ab]at ak;simp only[a7]at ak;obtain⟨bl,cc,b4⟩:=ak;split at he
     ·rename_i clock borns kvs hx;obtain⟨ic,us,el,g1,g2,g3,g4,g5⟩:=aL.good.box key _ hx;rw[cc]at g1;cases g1;simp only[jD]at g4;simp only[iZ]at g5;have gU:(getObj bl).run P w= .ok (.map (fx borns us.toList).toArray clock) w:=uB g4;split at he
      ·cases he
      rename_i vg;have vb:=L2 (P:=P) (w:=w) lP ((fx borns us.toList).toArray.isEmpty) aB (by simpa using vg);split at he
      ·rename_i v hm;cases he;obtain⟨j,u,f1,f2⟩:=KJ lP aB borns kvs us.toList 0 _ g5.1 g5.2.len hm;refine⟨if ok then .tuple #[u,.bool true]else u,?_,?_⟩
       ·simp only[execOp];refine k8 ?_;simp only[Instr.lookup,fC,run_underlying hu,fJ,b4,gU,gk,vb,f1.run lP]
       ·cases ok
        ·simpa using f2
        ·simp only[if_true,a7];exact⟨_,rfl,by simp only[cK];exact⟨_,_,rfl,f2,_,_,rfl,by simp[a7],rfl⟩⟩
      ·rename_i hm;cases he;have f1:=KJ lP aB borns kvs us.toList 0 _ g5.1 g5.2.len hm;simp only at f1;refine⟨if ok then .tuple #[b5,.bool false]else b5,?_,?_⟩
       ·simp only[execOp];refine k8 ?_;simp only[Instr.lookup,fC,run_underlying hu,fJ,b4,gU,gk,vb,f1.run lP,kP]
       ·cases ok
        ·simpa using aa
        ·simp only[if_true,a7];exact⟨_,rfl,by simp only[cK];exact⟨_,_,rfl,aa,_,_,rfl,by simp[a7],rfl⟩⟩
      ·cases he
     ·cases he
    ·cases he
   ·cases Jm
  ·cases J
 ·rename_i x o;have ak:=eh aL av;simp only[ha]at he;unfold pe at he;split at he
  ·rename_i fj ab;rw[ab]at ak;simp only[a7]at ak;obtain⟨bl,cc,b4⟩:=ak;split at he
   ·rename_i since seen last mk hx;obtain⟨ic,us,el,g1,g2,g3,g4,g5⟩:=aL.good.box fj _ hx;rw[cc]at g1;cases g1;simp only[jD]at g4;simp only[iZ,cK,a7]at g5;obtain⟨u,ca,qy,⟨mb,m1,rfl⟩,rfl⟩:=g5;rw[qy]at g4;simp only at g4;split at he
    ·rename_i clock borns kvs aes;obtain⟨anm,rS,anW,aS,bp,bW,dy,c0⟩:=aL.good.box mk _ aes;rw[m1]at aS;cases aS;simp only[jD]at dy;simp only[iZ]at c0;split at he
     ·rename_i n aw;simp only[gH]at he;obtain⟨q,bn,he⟩:=he;cases he;obtain⟨e,f1,f2⟩:=T1 borns kvs rS.toList p c0.1 bn;refine⟨.tuple #[e.key,e.val],?_,f2⟩;simp only[execOp];refine k8 ?_;have ad5:(getObj bl).run P w= .ok (.mapIter (some mb) since seen.toArray last) w:=uB g4;have ad6:(getObj mb).run P w= .ok (.map (fx borns rS.toList).toArray clock) w:=uB dy;have Jg:seen.toArray.back? =some n:=by simpa using aw
      have y0:(clock !=last)=false:=by simp[ay]
      have adY:(fx borns rS.toList).toArray.find? (·.born==n)=some e:=by simpa using f1
      simp only[Instr.entry,b4,fC,ad5,fJ,Jg,ad6,y0,gP,if_false,adY,gk]
     ·cases he
    ·cases he
   ·cases he
  ·cases he
 ·rename_i x o t;simp only[cz]at av;obtain⟨J,U⟩:=av;have ak:=eh aL U;simp only[ha]at he;unfold ug at he;split at he
  ·rename_i key ae;rw[ae]at ak;simp only[a7]at ak;obtain⟨bl,cc,b4⟩:=ak;split at he
   ·rename_i clock borns kvs hx;cases he;obtain⟨ic,us,el,g1,g2,g3,g4,g5⟩:=aL.good.box key _ hx;rw[cc]at g1;cases g1;simp only[jD]at g4;simp only[iZ]at g5;have gU:(getObj bl).run P w= .ok (.map (fx borns us.toList).toArray clock) w:=uB g4;have hlen:(fx borns us.toList).length=borns.length:=Qr g5.2.len (V6 g5.1);refine⟨.int .i64 borns.length,?_,by simp[a7]⟩;split at J
    ·rename_i aI;obtain⟨d,aQ,eX⟩:=iK aN aI;obtain⟨mu,o2,rfl⟩:∃mu o2,d= .map mu o2:=by cases d<;>simp[j0]at eX;exact⟨_,_,rfl⟩
     simp[execOp,resolve,invoke,builtin,Builtin.len_,run_underlying aQ,b4,goInt,gU,hlen]
    ·cases J
   ·cases he
  ·cases he
 ·rename_i neg dK x y op t o o' alj;simp only[cz,fE]at av;obtain⟨⟨⟨rfl,bB⟩,J⟩,U⟩:=av;have ak:=eh aL J;have aB:=eh aL U;simp only[ha]at he;unfold ib at he;split at he
  ·rename_i bm bO bE ae;simp only at bB;cases he;rw[bE]at ak;rw[ae]at aB;simp only[a7]at ak aB;split at bB
   ·rename_i aI;obtain⟨d,aQ,eX⟩:=iK aN aI;obtain rfl:d= .bool:=by cases d<;>simp[j0]at eX;rfl
    refine⟨.bool (if neg then bm !=bO else bm==bO),k8 ?_,by simp[a7]⟩;cases neg<;>simp[ak,aB,eqGuard,binOp,ZD aQ,bne]
   ·cases bB
  ·rename_i aok as eS bE ae;simp only at bB;simp only[gH]at he;obtain⟨q,bn,he⟩:=he;cases he;rw[bE]at ak;rw[ae]at aB;simp only[a7]at ak aB;obtain⟨X,Zs,ai9⟩:=ak;obtain⟨Y,Zt,aja⟩:=aB;obtain⟨gs,hu,a1,dc,iF⟩:=Q1 aN bB;obtain⟨i1,_,_⟩:=Qv hu a1 dc ai9 aja bn;refine⟨.bool (if neg then !q else q),k8 ?_,by simp[a7]⟩;rw[Zs,Zt];cases neg
   ·simp only[gP,if_false,fC,run_eqGuard_agg w _ t o o' X Y iF,fJ,run_eql_struct,i1]
   ·simp only[if_true,fC,run_eqGuard_agg w _ t o o' X Y iF,fJ,run_neq_struct,i1]
  ·cases he
 ·rename_i x y o o' t dJ;simp only[cz]at av;have ak:=eh aL av.1;have aB:=eh aL av.2;simp only[ha]at he;unfold FH at he;split at he
  ·rename_i k m bL n hm aw;split at he
   ·rename_i ad;subst ad;cases he;rw[hm]at ak;rw[aw]at aB;simp only[a7]at ak aB;exact⟨.int k (if m<n then n else m),by simp[execOp,resolve,invoke,builtin,Builtin.max_,Builtin.max2,ak,aB],by simp[a7]⟩
   ·cases he
  ·cases he
 ·rename_i t x dJ o;simp only[cz,dL]at av;obtain⟨⟨rfl,J⟩,U⟩:=av;have ak:=eh aL U;simp only[ha]at he;cases he;split at J
  ·rename_i aI;obtain⟨d,aQ,eX⟩:=iK aN aI;obtain rfl:=r9 eX;refine⟨.iface t (a.eval o),k8 (by simp[Instr.makeInterface,run_underlying aQ]),?_⟩;simp only[a7];exact⟨_,rfl,ak⟩
  ·cases J
 ·rename_i agg sz x t o;simp only[cz]at av;obtain⟨J,U⟩:=av;split at J
  ·rename_i f aI;simp only[cz,dL]at J;obtain⟨rfl,rfl⟩:=J;obtain⟨v,g1,g2⟩:=FC aN aL.good aI (eh aL U) (aga (by simpa only[ha]using he)) ay;exact⟨v,k8 g1,g2⟩
  ·cases J
 ·rename_i agg sz x t o;simp only[cz]at av;obtain⟨J,U⟩:=av;split at J
  ·rename_i f aI;simp only[cz,dL]at J;obtain⟨rfl,rfl⟩:=J;obtain⟨v,g1,g2⟩:=FC aN aL.good aI (eh aL U) (acD (by simpa only[ha]using he)) ay;exact⟨v,k8 g1,g2⟩
  ·cases J
 ·exact absurd rfl (adK _ _ _ _ _)
 ·cases av
theorem alq{P:cB}{bA:List (Nat×dC)}(aN:fM P bA=true){C:e8}{st:bq}{a:Act}{w:World}{ν:bc}(aL:cO C st a w ν){i:fO}{o:Oper}(av:Di bA i o.op=true)
  {c:Prop} {p:ah} (he:ha st i=some (c,p)) (ay:c):∃v,(execOp a.eval o).run P w= .ok (.value v) w∧a7 w ν p v:=by
 by_cases ae:∃b9 z ok x k,i= .mgetB b9 z ok x k
 ·obtain⟨b9,z,ok,x,k,rfl⟩:=ae;refine WV aN aL (i:= .mget b9 z ok x k) (fun _ _ _ _ _ e=>by cases e) ?_ he ay;obtain⟨dst,op,type,pos,after,guard⟩:=o;cases op<;>first|exact av|simp[Di]at av
 ·exact WV aN aL (fun b9 z ok x k e=>ae ⟨b9,z,ok,x,k,e⟩) av he ay
theorem P4{w:World}{o:Obj}{b i:Nat}(h:b<w.heap.size):(w.alloc o).cell? ⟨b,i,none⟩=w.cell? ⟨b,i,none⟩:=World.cell?_of_block (Below.heap_alloc w o b h)
def bc.withBox(ν:bc)(k:aH)(bl:Nat):bc:={ν with bx:=fun j=>if j=k then some bl else ν.bx j}
def bc.withOwn(ν:bc)(k:aH)(n:Nat)(v:Value):bc:={ν with ow:=fun j=>if j=k then some (n,v)else ν.ow j}
theorem cO.lookNone{C:e8}{st:bq}{a:Act}{w:World}{ν:bc}(h:cO C st a w ν){k:aH}(ad:fresh st.n st.o k):look k st.b=none∧look k st.e=none:=by
 obtain⟨J,U,_⟩:=h.new k ad;constructor
 ·cases ae:look k st.b with
  |none=>rfl
  |some cs=>obtain⟨bl,us,el,g1,_⟩:=h.good.box _ _ ae;rw[J]at g1;cases g1
 ·cases ae:look k st.e with
  |none=>rfl
  |some o=>obtain⟨v,us,g1,_⟩:=h.good.own _ _ ae;rw[U]at g1;cases g1
theorem Good.ownLt{pr:Nat→Prop}{w:World}{ν:bc}{b:List (aH×List ah)}{e:List (aH×fF)}(h:Good pr w ν b e){g:aH}{o:fF}(a1:look g e=some o){n:Nat}{v:Value}(aK:ν.ow g=some (n,v)){bl:Nat}(ae:v.ownBlock=some bl):bl<w.heap.size:=by obtain⟨v',us,g1,g2,_⟩:=h.own g o a1;rw[aK]at g1;cases g1;exact(g2.lt bl ae).2
theorem Good.boxLt{pr:Nat→Prop}{w:World}{ν:bc}{b:List (aH×List ah)}{e:List (aH×fF)}(h:Good pr w ν b e){k:aH}{cs:List ah}(ad:look k b=some cs){bl:Nat}(ae:ν.bx k=some bl):bl<w.heap.size:=by obtain⟨ic,us,el,g1,_,_,g4,_⟩:=h.box k cs ad;rw[ae]at g1;cases g1;exact(Array.getElem?_eq_some_iff.1 g4).1
theorem cO.newBox{C:e8}{st:bq}{a:Act}{w:World}{ν:bc}(h:cO C st a w ν){ff:aH}(BK:ν.bx ff=none∧ν.ow ff=none∧∀j b,¬ν.tr ff j b){n':Nat}{o':List aH}(dj:∀j,fresh n' o' j→fresh st.n st.o j∧j≠ff){cs:List ah}{us:Array Value}(el:fT)(ay:iZ w ν cs us.toList):
  cO C {st with b:=cw ff cs st.b,n:=n',o:=o'} a (w.alloc (jD cs us el)) (ν.withBox ff w.heap.size)∧
  a7 (w.alloc (jD cs us el)) (ν.withBox ff w.heap.size) (.ptr ff 0) (.pointer (some ⟨w.heap.size,0,none⟩)):=by
 obtain⟨ri,BN,aey⟩:=BK;have av:ld w ν (w.alloc (jD cs us el)) (ν.withBox ff w.heap.size):=by
  refine⟨fun b o bg=>⟨bg,P4 (h.good.alt b o bg)⟩,fun k b _ ad=>?_,fun g n u _ a1=>⟨n,u,a1,.inl ⟨rfl,rfl⟩⟩,fun b o bg=>vZ (Below.heap_alloc w _ b (h.good.alt b o bg)),fun _ _ _ _ h=>h⟩;have:k≠ff:=fun e=>by subst e;rw[ri]at ad;cases ad
  simp[bc.withBox,this,ad]
 have ef:(w.alloc (jD cs us el)).heap.size=w.heap.size+1:=by simp
 have ln:∀k,(look k (cw ff cs st.b)).isSome→k=ff∨(k≠ff∧(look k st.b).isSome∧(ν.withBox ff w.heap.size).bx k=ν.bx k):=by
  intro k ad;by_cases e:k=ff
  ·exact .inl e
  ·rw[iI,if_neg (kR e)]at ad;exact .inr ⟨e,ad,by simp[bc.withBox,e]⟩
 refine⟨h.over av rfl ⟨fun bl o bg=>by rw[ef];have:=h.good.alt bl o bg;omega,fun k eM ad=>?_,fun k bL bl ad nA ak aB=>?_,fun g o a1=>?_,h.good.oinj,fun g k n v bl a1 ad aK ae ab=>?_,fun k=>?_,fun bl ae k j aN=>?_⟩
  ⟨h.fr.os,h.fr.tape,h.fr.output,by rw[ef];have:=h.fr.size;omega,fun k ad hm=>?_,fun b o bg=>?_,h.fr.fresh,fun n b ae=>?_,h.fr.obn,h.fr.row,h.fr.obr,h.fr.trd,fun k j b ae=>⟨(h.fr.trb k j b ae).1,by rw[ef];have:=(h.fr.trb k j b ae).2;omega⟩,fun k j b ae=>?_,fun b o bg=>(av.sh b o (h.fr.keep b o bg).1).trans (h.fr.sh b o bg)⟩ (fun m hm=>?_),?_⟩
 ·simp only at ad;rw[iI]at ad;by_cases e:ff=k
  ·rw[if_pos e]at ad;cases ad;subst e;refine⟨w.heap.size,us,el,by simp[bc.withBox],.inr h.fr.size,fun o bg=>?_,heap_alloc_new w _,p0 av ay⟩;have:=h.good.alt _ o bg;omega
  ·rw[if_neg e]at ad;obtain⟨bl,ca,fP,g1,g2,g3,g4,g5⟩:=h.good.box k eM ad;exact⟨bl,ca,fP,av.bx _ _ trivial g1,g2,g3,by rw[Below.heap_alloc w _ bl (Array.getElem?_eq_some_iff.1 g4).1];exact g4,p0 av g5⟩
 ·rcases ln k ad with rfl|⟨hV,fZ,iX⟩<;>rcases ln bL nA with rfl|⟨m1,m2,m3⟩
  ·rfl
  ·exfalso;simp only[bc.withBox,if_true,dG]at ak;subst ak;rw[m3]at aB;obtain⟨eM,iE⟩:=fD.1 m2;have:=h.good.boxLt iE aB;omega
  ·exfalso;simp only[bc.withBox,if_true,dG]at aB;subst aB;rw[iX]at ak;obtain⟨eM,iE⟩:=fD.1 fZ;have:=h.good.boxLt iE ak;omega
  ·rw[iX]at ak;rw[m3]at aB;exact h.good.inj k bL bl fZ m2 ak aB
 ·obtain⟨v,xs,g1,g2,g3,g4⟩:=h.good.own g o a1;exact⟨v,xs,g1,g2.alloc _,g3,rL av (fun _ _ _ h=>h) g4⟩
 ·rcases ln k ad with rfl|⟨hV,fZ,iX⟩
  ·simp only[bc.withBox,if_true,dG]at ab;subst ab;obtain⟨o,hI⟩:=fD.1 a1;have:=h.good.ownLt hI aK ae;omega
  ·rw[iX]at ab;exact h.good.obx g k n v bl a1 fZ aK ae ab
 ·by_cases e:k=ff
  ·subst e;exact .inr BN
  ·rcases h.good.one k with J|J
   ·exact .inl (by simp[bc.withBox,e,J])
   ·exact .inr J
 ·rcases ae with⟨bL,bD,a2⟩|ae
  ·rcases ln bL bD with rfl|⟨hV,fZ,iX⟩
   ·simp[bc.withBox]at a2;subst a2;exact absurd (h.fr.trb k j _ aN).2 (Nat.lt_irrefl _)
   ·exact h.good.otr bl (.inl ⟨bL,fZ,by rw[←iX];exact a2⟩) k j aN
  ·exact h.good.otr bl (.inr ae) k j aN
 ·rw[Below.heap_alloc w _ k (by have:=h.fr.size;omega)];exact h.fr.block k ad hm
 ·obtain⟨aS,bp⟩:=h.fr.keep b o bg;exact⟨aS,(P4 (h.good.alt b o aS)).trans bp⟩
 ·exact av.bx _ _ trivial (h.fr.obj n b ae)
 ·have cF:k≠ff:=fun e=>by subst e;exact aey j b ae
  obtain⟨t1,t2⟩:=h.fr.trn k j b ae;exact⟨by simp[bc.withBox,cF,t1],t2⟩
 ·obtain⟨f1,f2⟩:=dj m hm;obtain⟨aS,bp⟩:=h.new m f1;refine⟨?_,bp⟩;simp[bc.withBox,f2,aS]
 ·simp[a7,bc.withBox]
theorem cO.setBox{C:e8}{st:bq}{a:Act}{w w':World}{ν:bc}(h:cO C st a w ν){k:aH}{cs cs':List ah}(ad:look k st.b=some cs){bl:Nat}(ae:ν.bx k=some bl){us:Array Value}{el:fT}
  (zg:w'.os=w.os) (JT:w'.tape=w.tape) (JF:w'.output=w.output) (mV:∀j,j≠bl→w'.heap[j]? =w.heap[j]?) (ef:w'.heap.size=w.heap.size) (kl:w'.heap[bl]? =some (jD cs' us el)) (ay:iZ w ν cs' us.toList):
  cO C {st with b:=cw k cs' st.b} a w' ν∧ld w ν w' ν:=by
 obtain⟨ic,fu,anV,g1,g2,g3,g4,g5⟩:=h.good.box k cs ad;rw[ae]at g1;cases g1;have av:ld w ν w' ν:=by
  refine⟨fun b o bg=>⟨bg,World.cell?_of_block (mV b fun e=>?_)⟩,fun _ _ _ h=>h,fun g n u _ a1=>⟨n,u,a1,.inl ⟨rfl,rfl⟩⟩,fun b o bg=>vZ (mV b fun e=>?_),fun _ _ _ _ h=>h⟩<;>
  (subst e;exact g3 o bg)
 have EM:∀j,(look j (cw k cs' st.b)).isSome→(look j st.b).isSome:=by
  intro j af;rw[iI]at af;by_cases e:k=j
  ·subst e;simp[ad]
  ·rwa[if_neg e]at af
 refine⟨h.over av rfl ⟨fun b o bg=>by rw[ef];exact h.good.alt b o bg,fun j eM af=>?_,fun j dD b af jh=>h.good.inj j dD b (EM j af) (EM dD jh),fun g o a1=>?_,h.good.oinj,fun g j n v b a1 af=>h.good.obx g j n v b a1 (EM j af),h.good.one,fun bl ae=>h.good.otr bl (ae.imp (fun⟨k,J,U⟩=>⟨k,EM k J,U⟩) id)⟩
  ⟨zg.trans h.fr.os,JT.trans h.fr.tape,JF.trans h.fr.output,by rw[ef];exact h.fr.size,fun j af hm=>?_,fun b o bg=>?_,h.fr.fresh,h.fr.obj,h.fr.obn,h.fr.row,h.fr.obr,h.fr.trd,fun k j b ae=>⟨(h.fr.trb k j b ae).1,by rw[ef];exact(h.fr.trb k j b ae).2⟩,h.fr.trn,fun b o bg=>(av.sh b o (h.fr.keep b o bg).1).trans (h.fr.sh b o bg)⟩ h.new,av⟩
 ·simp only at af;rw[iI]at af;by_cases e:k=j
  ·rw[if_pos e]at af;cases af;subst e;exact⟨bl,us,el,ae,g2,g3,kl,p0 av ay⟩
  ·rw[if_neg e]at af;obtain⟨b,ca,fP,ak,aB,bf,dd,gS⟩:=h.good.box j eM af;refine⟨b,ca,fP,ak,aB,bf,?_,p0 av gS⟩;rw[mV b fun fL=>e (h.good.inj k j bl (by simp[ad]) (by simp[af]) ae (by rw[←fL];exact ak))];exact dd
 ·obtain⟨v,xs,ak,aB,bf,dd⟩:=h.good.own g o a1;refine⟨v,xs,ak,⟨aB.1,?_⟩,bf,rL av (fun _ _ _ h=>h) dd⟩;rcases aB.2 with aB|⟨bb,cap,cur,f1,f2,f3,f4⟩
  ·exact .inl aB
  ·refine .inr ⟨bb,cap,cur,f1,f2,?_,f4⟩;rw[mV bb fun fL=>h.good.obx g k o.n v bl (by simp[a1]) (by simp[ad]) ak (by rw[f1,←fL];rfl) ae];exact f3
 ·rw[mV j fun e=>by subst e;exact g2.elim hm (fun g2=>by omega)];exact h.fr.block j af hm
 ·obtain⟨aS,bp⟩:=h.fr.keep b o bg;exact⟨aS,(av.A b o aS).2.trans bp⟩
theorem cO.storeBox{C:e8}{st:bq}{a:Act}{w:World}{ν:bc}(h:cO C st a w ν){k:aH}{cs cs':List ah}(ad:look k st.b=some cs){bl:Nat}(ae:ν.bx k=some bl)(bI:hN cs=true){us:Array Value}(ay:cY w ν cs' us.toList):
  cO C {st with b:=cw k cs' st.b} a (w.setRow bl us) ν:=by
 obtain⟨ic,fu,el,g1,g2,g3,g4,g5⟩:=h.good.box k cs ad;rw[ae]at g1;cases g1;rw[um bI]at g4;have Sq:=Am ay;exact(h.setBox (w':=w.setRow bl us) ad ae (us:=us) (el:=el) rfl rfl rfl (fun j af=>setRow_other w bl j us af) (setRow_size w bl us) (by rw[um Sq];exact setRow_heap w bl fu us el _ g4) (by rw[uo Sq];exact ay)).1
def bc.withRowOf(ν:bc)(k:aH)(v:Value)(n cells:Nat):bc:={A:=fun b o=>ν.A b o∨(v.ownBlock=some b∧o<cells),bx:=ν.bx,ow:=fun j=>if j=k then some (n,v)else ν.ow j,tr:=ν.tr}
theorem Ko{w:World}{A:Nat→Nat→Prop}{b:Nat}:∀(us:List Value) (off:Nat),(∀j u,us[j]? =some u→A b (off+j)∧w.cell? ⟨b,off+j,none⟩=some u)→lA w A b off us
 |[],_,_=>trivial
 |u::us,off,h=>⟨h 0 u rfl,Ko us (off+1) fun j x af=>by have:=h (j+1) x (by simpa using af);rwa[show off+(j+1)=off+1+j from by omega]at this⟩
theorem D7{w w':World}(a1:w.grownBy w' none){b i:Nat}(h:b<w.heap.size):w'.cell? ⟨b,i,none⟩=w.cell? ⟨b,i,none⟩:=World.cell?_of_block (a1.block b h (by simp))
theorem cO.newRowM{C:e8}{st:bq}{a:Act}{w w':World}{ν:bc}(h:cO C st a w ν){k:aH}{xs:List ah}(ad:(ν.bx k=none∧ν.ow k=none∧∀j b,¬ν.tr k j b)∨ ∃o,look k st.e=some o∧o.n<xs.length){el sz:Nat}{v:Value}{us:List Value}
  (a1:w.grownBy w' none) (ls:w'.ownsRow w.heap.size el sz v xs.length us) (ay:dA w ν sz xs us) (eT:xs.length≤lim) {n':Nat} {o':List aH} (dj:∀j,fresh n' o' j→fresh st.n st.o j∧j≠k):
  cO C {st with e:=cw k ⟨xs.length,el,sz,some xs⟩ st.e,n:=n',o:=o'} a w' (ν.withOwn k xs.length v)∧
  ((∃b cap,v= .slice (some ⟨b,0,none⟩) xs.length cap)→a7 w' (ν.withOwn k xs.length v) (.row sz k xs.length) v):=by
 have qo:∀bl,v.ownBlock=some bl→w.heap.size≤bl∧bl<w'.heap.size:=fun bl ae=>ls.lt bl ae;have av:ld w ν w' (ν.withOwn k xs.length v):=by
  refine⟨fun b o bg=>⟨bg,D7 a1 (h.good.alt b o bg)⟩,fun j b _ af=>af,fun g n u _ iF=>?_,fun b o bg=>vZ (a1.block b (h.good.alt b o bg) (by simp)),fun _ _ _ _ h=>h⟩;by_cases e:g=k
  ·subst e;rcases ad with ad|⟨o,av,bC⟩
   ·rw[ad.2.1]at iF;cases iF
   ·obtain⟨v0,fu,ak,_⟩:=h.good.own g o av;rw[ak]at iF;cases iF;exact⟨xs.length,v,by simp[bc.withOwn],.inr bC⟩
  ·exact⟨n,u,by simp[bc.withOwn,e,iF],.inl ⟨rfl,rfl⟩⟩
 have kH:∀g,(look g (cw k ⟨xs.length,el,sz,some xs⟩ st.e)).isSome→g=k∨(g≠k∧(look g st.e).isSome∧(ν.withOwn k xs.length v).ow g=ν.ow g):=by
  intro g kk;by_cases e:g=k
  ·exact .inl e
  ·rw[iI,if_neg (kR e)]at kk;exact .inr ⟨e,kk,by simp[bc.withOwn,e]⟩
 have Sl:∀bl,v.ownBlock=some bl→∀j,¬ν.A bl j:=fun bl ae j bg=>by have J:=h.good.alt bl j bg;have:=(qo bl ae).1;omega
 have aeF:∀j b,¬ν.tr k j b:=fun j b ae=>by
  rcases ad with ad|⟨o,hI,_⟩
  ·exact ad.2.2 j b ae
  ·obtain⟨v0,fu,ak,_⟩:=h.good.own k o hI;rw[(h.fr.trn k j b ae).2]at ak;cases ak
 refine⟨h.over av rfl ⟨fun bl o bg=>?_,fun j eM af=>?_,h.good.inj,fun g o eO=>?_,fun g e3 n n' u e6 bl J U ao a8 bZ c7=>?_,fun g j n u bl J U ao a8 bZ=>?_,fun j=>?_,fun bl ae bL j aN=>?_⟩
  ⟨a1.os.trans h.fr.os,a1.tape.trans h.fr.tape,a1.output.trans h.fr.output,jV h.fr.size a1.size,fun j af hm=>?_,fun b o bg=>?_,h.fr.fresh,h.fr.obj,h.fr.obn,fun m n u hm=>C0 (h.fr.row m n u hm) (fun n u=>av.ow _ n u trivial),h.fr.obr,h.fr.trd,fun k j b ae=>⟨(h.fr.trb k j b ae).1,Nat.lt_of_lt_of_le (h.fr.trb k j b ae).2 a1.size⟩,fun bL j b ae=>?_,fun b o bg=>(av.sh b o (h.fr.keep b o bg).1).trans (h.fr.sh b o bg)⟩ (fun m hm=>?_),?_⟩
 ·have:=h.good.alt bl o bg;have:=a1.size;omega
 ·obtain⟨bl,ca,fP,g1,g2,g3,g4,g5⟩:=h.good.box j eM af;have bC:=(Array.getElem?_eq_some_iff.1 g4).1;exact⟨bl,ca,fP,g1,g2,g3,by rw[a1.block bl bC (by simp)];exact g4,p0 av g5⟩
 ·simp only at eO;rw[iI]at eO;by_cases e:k=g
  ·rw[if_pos e]at eO;cases eO;subst e;refine⟨v,us,by simp[bc.withOwn],⟨ls.1,?_⟩,fun bl ae=>⟨.inr (jV h.fr.size (qo bl ae).1),fun j bg=>absurd bg (Sl bl ae j)⟩,fun ys aG=>?_⟩
   ·rcases ls.2 with ak|⟨bb,cap,cur,f1,f2,f3⟩
    ·exact .inl ak
    ·exact .inr ⟨bb,cap,cur,f1,by omega,f3⟩
   ·simp only[dG]at aG;subst aG;exact⟨rfl,Aj av ay,Sl⟩
  ·rw[if_neg e]at eO;obtain⟨v0,fu,ak,aB,bf,dd⟩:=h.good.own g o eO;exact⟨v0,fu,by simp[bc.withOwn,kR e,ak],aB.kept a1 (by cases v0.ownBlock<;>simp),bf,rL av (fun _ _ _ h=>h) dd⟩
 ·rcases kH g J with rfl|⟨hV,fZ,iX⟩<;>rcases kH e3 U with rfl|⟨m1,m2,m3⟩
  ·rfl
  ·exfalso;simp only[bc.withOwn,if_true,dG,jm]at ao;rw[m3]at a8;obtain⟨o,hI⟩:=fD.1 m2;have au:=h.good.ownLt hI a8 c7;have:=(qo bl (by rw[ao.2];exact bZ)).1;omega
  ·exfalso;simp only[bc.withOwn,if_true,dG,jm]at a8;rw[iX]at ao;obtain⟨o,hI⟩:=fD.1 fZ;have au:=h.good.ownLt hI ao bZ;have:=(qo bl (by rw[a8.2];exact c7)).1;omega
  ·rw[iX]at ao;rw[m3]at a8;exact h.good.oinj g e3 n n' u e6 bl fZ m2 ao a8 bZ c7
 ·rcases kH g J with rfl|⟨hV,fZ,iX⟩
  ·simp only[bc.withOwn,if_true,dG,jm]at ao;obtain⟨eM,iE⟩:=fD.1 U;have au:=h.good.boxLt iE bZ;have:=(qo bl (by rw[ao.2];exact a8)).1;omega
  ·rw[iX]at ao;exact h.good.obx g j n u bl fZ U ao a8 bZ
 ·by_cases e:j=k
  ·subst e;rcases ad with ad|⟨o,hI,_⟩
   ·exact .inl ad.1
   ·obtain⟨v0,fu,ak,_⟩:=h.good.own j o hI;rcases h.good.one j with J|J
    ·exact .inl J
    ·rw[J]at ak;cases ak
  ·rcases h.good.one j with J|J
   ·exact .inl J
   ·exact .inr (by simp[bc.withOwn,e,J])
 ·rcases ae with ae|⟨g,n,u,bD,a2,a3⟩
  ·exact h.good.otr bl (.inl ae) bL j aN
  ·rcases kH g bD with rfl|⟨hV,fZ,iX⟩
   ·simp only[bc.withOwn,if_true,dG,jm]at a2;have J:=(qo bl (by rw[a2.2];exact a3)).1;have U:=(h.fr.trb bL j _ aN).2;omega
   ·exact h.good.otr bl (.inr ⟨g,n,u,fZ,by rw[←iX];exact a2,a3⟩) bL j aN
 ·rw[a1.block j (by have:=h.fr.size;omega) (by simp)];exact h.fr.block j af hm
 ·obtain⟨aS,bp⟩:=h.fr.keep b o bg;exact⟨aS,(av.A b o aS).2.trans bp⟩
 ·have cF:bL≠k:=fun e=>by subst e;exact aeF j b ae
  obtain⟨t1,t2⟩:=h.fr.trn bL j b ae;exact⟨t1,by simp[bc.withOwn,cF,t2]⟩
 ·obtain⟨f1,f2⟩:=dj m hm;obtain⟨aS,bp,bW⟩:=h.new m f1;refine⟨aS,?_,bW⟩;simp[bc.withOwn,f2,bp]
 ·intro Jq;simp only[a7];exact⟨Jq,eT,xs.length,v,by simp[bc.withOwn],eR _,fun _=>rfl⟩
theorem cO.publish{C:e8}{st:bq}{a:Act}{w:World}{ν:bc}(h:cO C st a w ν){k:aH}{o:fF}{xs:List ah}(ad:look k st.e=some o)(ab:o.xs=some xs){v:Value}(aK:ν.ow k=some (o.n,v))(eT:xs.length≤lim):
  cO C {st with e:=cw k ⟨o.n,o.el,o.sz,none⟩ st.e} a w (ν.withRowOf k v o.n (o.n*o.sz))∧
  a7 w (ν.withRowOf k v o.n (o.n*o.sz)) (.slice o.sz (.own k) xs) v:=by
 obtain⟨v0,us,a6,bz,bU,cT⟩:=h.good.own k o ad;rw[aK]at a6;cases a6;obtain⟨c8,nF,uq⟩:=cT xs ab;have oe:∀g,(ν.withRowOf k v o.n (o.n*o.sz)).ow g=ν.ow g:=fun g=>by
  simp only[bc.withRowOf];split
  ·rename_i e;subst e;exact aK.symm
  ·rfl
 have av:ld w ν w (ν.withRowOf k v o.n (o.n*o.sz)):=⟨fun b o bg=>⟨.inl bg,rfl⟩,fun j b _ af=>af,fun g n u _ iF=>⟨n,u,by rw[oe];exact iF,.inl ⟨rfl,rfl⟩⟩,fun _ _ _=>rfl,fun _ _ _ _ h=>h⟩
 have kH:∀g,(look g (cw k ⟨o.n,o.el,o.sz,none⟩ st.e)).isSome→(look g st.e).isSome:=by
  intro g kk;by_cases e:k=g
  ·subst e;simp[ad]
  ·rwa[iI,if_neg e]at kk
 refine⟨h.over av rfl ⟨fun bl i bg=>?_,fun j eM af=>?_,h.good.inj,fun g o' eO=>?_,fun g e3 n n' u e6 bl J U ao a8=>h.good.oinj g e3 n n' u e6 bl (kH g J) (kH e3 U) (by rwa[oe]at ao) (by rwa[oe]at a8),fun g j n u bl J U ao=>h.good.obx g j n u bl (kH g J) U (by rwa[oe]at ao),fun j=>?_,fun bl ae=>h.good.otr bl (ae.imp id (fun⟨g,n,v,bD,a2,a3⟩=>⟨g,n,v,kH g bD,by rwa[oe]at a2,a3⟩))⟩
  ⟨h.fr.os,h.fr.tape,h.fr.output,h.fr.size,h.fr.block,fun b i bg=>⟨.inl (h.fr.keep b i bg).1,(h.fr.keep b i bg).2⟩,fun b i bg=>?_,h.fr.obj,h.fr.obn,fun m n u hm=>C0 (h.fr.row m n u hm) (fun n u=>av.ow _ n u trivial),h.fr.obr,h.fr.trd,h.fr.trb,fun bL j b ae=>⟨(h.fr.trn bL j b ae).1,by rw[oe];exact(h.fr.trn bL j b ae).2⟩,h.fr.sh⟩ (fun m hm=>?_),?_⟩
 ·rcases bg with bg|⟨bg,_⟩
  ·exact h.good.alt bl i bg
  ·exact(bz.lt bl bg).2
 ·obtain⟨bl,ca,fP,g1,g2,g3,g4,g5⟩:=h.good.box j eM af;refine⟨bl,ca,fP,g1,g2,fun i bg=>?_,g4,p0 av g5⟩;rcases bg with bg|⟨bg,_⟩
  ·exact g3 i bg
  ·exact h.good.obx k j o.n v bl (by simp[ad]) (by simp[af]) aK bg g1
 ·simp only at eO;rw[iI]at eO;by_cases e:k=g
  ·rw[if_pos e]at eO;cases eO;subst e;refine⟨v,us,by rw[oe];exact aK,bz,fun bl ae=>⟨(bU bl ae).1,fun j bg=>?_⟩,fun ys aG=>by cases aG⟩;rcases bg with bg|⟨_,bg⟩
   ·exact(bU bl ae).2 j bg
   ·exact bg
  ·rw[if_neg e]at eO;obtain⟨v0,fu,ak,aB,bf,dd⟩:=h.good.own g o' eO;have u7:∀bl,v0.ownBlock=some bl→∀j,(ν.withRowOf k v o.n (o.n*o.sz)).A bl j→ν.A bl j:=fun bl ae j bg=>by
    rcases bg with bg|⟨bg,_⟩
    ·exact bg
    ·exact absurd (h.good.oinj k g o.n o'.n v v0 bl (by simp[ad]) (by simp[eO]) aK ak bg ae) e
   exact⟨v0,fu,by rw[oe];exact ak,aB,fun bl ae=>⟨(bf bl ae).1,fun j bg=>(bf bl ae).2 j (u7 bl ae j bg)⟩,rL av u7 dd⟩
 ·rcases h.good.one j with J|J
  ·exact .inl J
  ·exact .inr (by rw[oe];exact J)
 ·rcases bg with bg|⟨bg,_⟩
  ·exact h.fr.fresh b i bg
  ·exact .inr (bU b bg).1
 ·obtain⟨aS,bp,bW⟩:=h.new m hm;exact⟨aS,by rw[oe];exact bp,bW⟩
 ·simp only[a7];refine⟨?_,fun e=>(by cases e),fun g e=>?_,fun _ _ e=>(by cases e),fun _ e=>(by cases e)⟩
  ·rcases bz.2 with⟨ak,aB⟩|⟨bb,cap,cur,f1,f2,f3,f4,f5,f6,f7⟩
   ·refine⟨none,0,by rw[ak,c8,aB],by omega,⟨by simp[maxLen],eT⟩,.inl (List.eq_nil_of_length_eq_zero (by omega))⟩
   ·refine⟨some ⟨bb,0,none⟩,cap,by rw[f1,c8],by omega,⟨f5,eT⟩,.inr ⟨bb,0,us,rfl,Ko us 0 fun j u af=>?_,Aj av nF⟩⟩;have oi:v.ownBlock=some bb:=by rw[f1];rfl
    have y8:j<us.length:=(fN.1 af).1;refine⟨.inr ⟨oi,by rw[bz.1]at y8;omega⟩,?_⟩;have:=bz.cells oi j u af;rwa[oT]at this
  ·cases e;exact⟨o.n,v,by rw[oe];exact aK,by omega,fun _=>rfl⟩
theorem WT{α:Type}(k:aH)(p q:α):∀l,cw k q (cw k p l)=cw k q l
 |[]=>by simp[cw]
 |(i,r)::l=>by
  by_cases e:i=k
  ·simp[cw,e]
  ·simp[cw,e,WT k p q l]
theorem cO.newRow{C:e8}{st:bq}{a:Act}{w w':World}{ν:bc}(h:cO C st a w ν){k:aH}{xs:List ah}(ad:(ν.bx k=none∧ν.ow k=none∧∀j b,¬ν.tr k j b)∨ ∃o,look k st.e=some o∧o.n<xs.length){el sz:Nat}{v:Value}{us:List Value}
  (a1:w.grownBy w' none) (ls:w'.ownsRow w.heap.size el sz v xs.length us) (ay:dA w ν sz xs us) (eT:xs.length≤lim) {n':Nat} {o':List aH} (dj:∀j,fresh n' o' j→fresh st.n st.o j∧j≠k):
  cO C {st with e:=cw k ⟨xs.length,el,sz,none⟩ st.e,n:=n',o:=o'} a w' ((ν.withOwn k xs.length v).withRowOf k v xs.length (xs.length*sz))∧
  a7 w' ((ν.withOwn k xs.length v).withRowOf k v xs.length (xs.length*sz)) (.slice sz (.own k) xs) v:=by
 have J:=(h.newRowM ad a1 ls ay eT dj).1;have U:=J.publish (k:=k) (o:=⟨xs.length,el,sz,some xs⟩) (xs:=xs) (v:=v) (by simp[iI]) rfl (by simp[bc.withOwn]) eT;simpa only[WT]using U
theorem cO.setRowM{C:e8}{st:bq}{a:Act}{w w':World}{ν:bc}(h:cO C st a w ν){k:aH}{o:fF}{xs xs':List ah}(ad:look k st.e=some o)(ab:o.xs=some xs){bl:Nat}{v v':Value}(aK:ν.ow k=some (o.n,v))(oi:v.ownBlock=some bl)(E4:v'.ownBlock=some bl)
  (aw:(xs'.length=o.n∧v'=v)∨o.n<xs'.length) {us:List Value} (zg:w'.os=w.os) (JT:w'.tape=w.tape) (JF:w'.output=w.output) (mV:∀j,j≠bl→w'.heap[j]? =w.heap[j]?) (ef:w'.heap.size=w.heap.size)
  (ls:w'.ownsRow 0 o.el o.sz v' xs'.length us) (ay:dA w ν o.sz xs' us):
  cO C {st with e:=cw k ⟨xs'.length,o.el,o.sz,some xs'⟩ st.e} a w' (ν.withOwn k xs'.length v')∧ld w ν w' (ν.withOwn k xs'.length v')∧(xs'.length≤lim→a7 w' (ν.withOwn k xs'.length v') (.row o.sz k xs'.length) v'):=by
 obtain⟨v0,fu,a6,bz,bU,cT⟩:=h.good.own k o ad;rw[aK]at a6;cases a6;obtain⟨c8,nF,uq⟩:=cT xs ab;have av:ld w ν w' (ν.withOwn k xs'.length v'):=by
  refine⟨fun b i bg=>⟨bg,World.cell?_of_block (mV b fun e=>by subst e;exact uq b oi i bg)⟩,fun j b _ af=>af,fun g n u _ iF=>?_,fun b i bg=>vZ (mV b fun e=>by subst e;exact uq b oi i bg),fun _ _ _ _ h=>h⟩;by_cases e:g=k
  ·subst e;rw[aK]at iF;cases iF;refine⟨xs'.length,v',by simp[bc.withOwn],?_⟩;rcases aw with⟨J,U⟩|J
   ·exact .inl ⟨J,U⟩
   ·exact .inr J
  ·exact⟨n,u,by simp[bc.withOwn,e,iF],.inl ⟨rfl,rfl⟩⟩
 have kH:∀g n u,(look g (cw k ⟨xs'.length,o.el,o.sz,some xs'⟩ st.e)).isSome→(ν.withOwn k xs'.length v').ow g=some (n,u)→∀b,u.ownBlock=some b→(look g st.e).isSome∧∃n u,ν.ow g=some (n,u)∧u.ownBlock=some b:=by
  intro g n u kk iF b ae;by_cases e:g=k
  ·subst e;simp only[bc.withOwn,if_true,dG,jm]at iF;rw[←iF.2,E4]at ae;cases ae;exact⟨by simp[ad],o.n,v,aK,oi⟩
  ·rw[iI,if_neg (kR e)]at kk;simp only[bc.withOwn,e,if_false]at iF;exact⟨kk,n,u,iF,ae⟩
 refine⟨h.over av rfl ⟨fun b i bg=>by rw[ef];exact h.good.alt b i bg,fun j eM af=>?_,h.good.inj,fun g o' eO=>?_,fun g e3 n n' u e6 b J U ao a8 bZ c7=>?_,fun g j n u b J U ao a8 bZ=>?_,fun j=>?_,fun b ae=>h.good.otr b (ae.imp id (fun⟨g,n,v,bD,a2,a3⟩=>by obtain⟨cc,hV,h7,b4,fH⟩:=kH g n v bD a2 b a3;exact⟨g,hV,h7,cc,b4,fH⟩))⟩
  ⟨zg.trans h.fr.os,JT.trans h.fr.tape,JF.trans h.fr.output,by rw[ef];exact h.fr.size,fun j af hm=>?_,fun b i bg=>?_,h.fr.fresh,h.fr.obj,h.fr.obn,fun m n u hm=>C0 (h.fr.row m n u hm) (fun n u=>av.ow _ n u trivial),h.fr.obr,h.fr.trd,fun k j b ae=>⟨(h.fr.trb k j b ae).1,by rw[ef];exact(h.fr.trb k j b ae).2⟩,fun bL j b ae=>?_,fun b o bg=>(av.sh b o (h.fr.keep b o bg).1).trans (h.fr.sh b o bg)⟩ (fun m hm=>?_),av,?_⟩
 ·obtain⟨b,ca,fP,g1,g2,g3,g4,g5⟩:=h.good.box j eM af;have cF:b≠bl:=fun e=>h.good.obx k j o.n _ bl (by simp[ad]) (by simp[af]) aK oi (by rw[←e];exact g1);exact⟨b,ca,fP,g1,g2,g3,by rw[mV b cF];exact g4,p0 av g5⟩
 ·simp only at eO;rw[iI]at eO;by_cases e:k=g
  ·rw[if_pos e]at eO;cases eO;subst e;refine⟨v',us,by simp[bc.withOwn],ls,fun b ae=>?_,fun ys aG=>?_⟩
   ·rw[E4]at ae;cases ae;exact⟨(bU bl oi).1,fun j bg=>absurd bg (uq bl oi j)⟩
   ·simp only[dG]at aG;subst aG;exact⟨rfl,Aj av ay,fun b ae=>by rw[E4]at ae;cases ae;exact uq bl oi⟩
  ·rw[if_neg e]at eO;obtain⟨v0,fu,ak,aB,bf,dd⟩:=h.good.own g o' eO;have cF:∀b,v0.ownBlock=some b→b≠bl:=fun b ae Ik=>e (h.good.oinj k g o.n o'.n _ v0 bl (by simp[ad]) (by simp[eO]) aK ak oi (by rw[←Ik];exact ae));refine⟨v0,fu,by simp[bc.withOwn,kR e,ak],⟨aB.1,?_⟩,bf,rL av (fun _ _ _ h=>h) dd⟩;rcases aB.2 with aB|⟨bb,D6,l9,f1,f2,f3,f4⟩
   ·exact .inl aB
   ·exact .inr ⟨bb,D6,l9,f1,f2,by rw[mV bb (cF bb (by rw[f1];rfl))];exact f3,f4⟩
 ·obtain⟨bD,hV,h7,a2,a3⟩:=kH g n u J ao b bZ;obtain⟨cc,fZ,iL,b4,fH⟩:=kH e3 n' e6 U a8 b c7;exact h.good.oinj g e3 hV fZ h7 iL b bD cc a2 b4 a3 fH
 ·obtain⟨bD,hV,h7,a2,a3⟩:=kH g n u J ao b a8;exact h.good.obx g j hV h7 b bD U a2 a3 bZ
 ·by_cases e:j=k
  ·subst e;rcases h.good.one j with J|J
   ·exact .inl J
   ·rw[J]at aK;cases aK
  ·rcases h.good.one j with J|J
   ·exact .inl J
   ·exact .inr (by simp[bc.withOwn,e,J])
 ·rw[mV j fun e=>by subst e;exact(bU j oi).1.elim hm (fun g2=>by omega)];exact h.fr.block j af hm
 ·obtain⟨aS,bp⟩:=h.fr.keep b i bg;exact⟨aS,(av.A b i aS).2.trans bp⟩
 ·obtain⟨t1,t2⟩:=h.fr.trn bL j b ae;have cF:bL≠k:=fun e=>by subst e;rw[t2]at aK;cases aK
  exact⟨t1,by simp[bc.withOwn,cF,t2]⟩
 ·obtain⟨aS,bp,bW⟩:=h.new m hm;refine⟨aS,?_,bW⟩;have:m≠k:=fun e=>by subst e;rw[bp]at aK;cases aK
  simp[bc.withOwn,this,bp]
 ·intro eT;simp only[a7];obtain⟨cap,Jq⟩:=UQ ls E4;exact⟨⟨bl,cap,Jq⟩,eT,xs'.length,v',by simp[bc.withOwn],eR _,fun _=>rfl⟩
theorem cO.inPlace{C:e8}{st:bq}{a:Act}{w:World}{ν:bc}(h:cO C st a w ν){k:aH}{o:fF}(ad:look k st.e=some o){bl cap:Nat}{cur:Array Value}(aK:ν.ow k=some (o.n,.slice (some ⟨bl,0,none⟩) o.n cap))
  (w5:w.heap[bl]? =some (.cells cur o.el (0,0))) (yZ:cap≤maxLen) (ef:cur.size=cap*o.sz) {xs ys:List ah} {us ns:List Value} (j3:xs.length=o.n) (qy:cur.toList.take (o.n*o.sz)=us) (ay:dA w ν o.sz xs us) (y1:dA w ν o.sz ys ns)
  (fp:0<ys.length) (rl:o.n+ys.length≤cap) (eT:xs.length+ys.length≤lim):
  cO C {st with e:=cw k ⟨o.n+ys.length,o.el,o.sz,none⟩ st.e} a (w.setRow bl (us++ns++cur.toList.drop (o.n*o.sz+ns.length)).toArray)
   (ν.withRowOf k (.slice (some ⟨bl,0,none⟩) (o.n+ys.length) cap) (o.n+ys.length) ((o.n+ys.length)*o.sz))∧
  a7 (w.setRow bl (us++ns++cur.toList.drop (o.n*o.sz+ns.length)).toArray) (ν.withRowOf k (.slice (some ⟨bl,0,none⟩) (o.n+ys.length) cap) (o.n+ys.length) ((o.n+ys.length)*o.sz))
   (.slice o.sz (.own k) (xs++ys)) (.slice (some ⟨bl,0,none⟩) (o.n+ys.length) cap):=by
 have jw:=sS y1;have rp:=sS ay;rw[j3]at rp;have hmul:(o.n+ys.length)*o.sz≤cap*o.sz:=Nat.mul_le_mul_right _ rl;rw[pw]at hmul;obtain⟨v0,fu,a6,bz,bU,_⟩:=h.good.own k o ad;rw[aK]at a6;cases a6;obtain⟨cT,c8⟩:=bU bl rfl;generalize zq:w.setRow bl (us++ns++cur.toList.drop (o.n*o.sz+ns.length)).toArray=w';have mV:∀j,j≠bl→w'.heap[j]? =w.heap[j]?:=fun j af=>by rw[←zq];exact setRow_other w bl j _ af
 have kl:w'.heap[bl]? =some (.cells (us++ns++cur.toList.drop (o.n*o.sz+ns.length)).toArray o.el (0,0)):=by rw[←zq];exact setRow_heap w bl cur _ o.el _ w5
 have JP:w'.heap.size=w.heap.size:=by rw[←zq];exact setRow_size w bl _
 have qp:∀j,j<o.n*o.sz→w'.cell? ⟨bl,j,none⟩=w.cell? ⟨bl,j,none⟩:=by intro j af;simp only[World.cell?,kl,w5,jW,gP,if_false];rw[List.getElem?_toArray,List.append_assoc,List.getElem?_append_left (by omega),←qy,List.getElem?_take,if_pos af];simp
 have av:ld w ν w' (ν.withRowOf k (.slice (some ⟨bl,0,none⟩) (o.n+ys.length) cap) (o.n+ys.length) ((o.n+ys.length)*o.sz)):=by
  refine⟨fun b j bg=>⟨.inl bg,?_⟩,fun j b _ af=>af,fun g n u _ iF=>?_,fun b j bg=>?_,fun _ _ _ _ h=>h⟩;rotate_left 2
  ·by_cases e:b=bl
   ·subst e;simp only[shape,kl,w5,List.size_toArray,pq,r1,Array.length_toList];congr 2;omega
   ·exact vZ (mV b e)
  ·by_cases e:b=bl
   ·subst e;exact qp j (c8 j bg)
   ·exact World.cell?_of_block (mV b e)
  ·by_cases e:g=k
   ·subst e;rw[aK]at iF;cases iF;exact⟨o.n+ys.length,.slice (some ⟨bl,0,none⟩) (o.n+ys.length) cap,by simp[bc.withRowOf],.inr (by omega)⟩
   ·exact⟨n,u,by simp[bc.withRowOf,e,iF],.inl ⟨rfl,rfl⟩⟩
 have kH:∀g,(look g (cw k ⟨o.n+ys.length,o.el,o.sz,none⟩ st.e)).isSome→g=k∨(g≠k∧(look g st.e).isSome∧(ν.withRowOf k (.slice (some ⟨bl,0,none⟩) (o.n+ys.length) cap) (o.n+ys.length) ((o.n+ys.length)*o.sz)).ow g=ν.ow g):=by
  intro g kk;by_cases e:g=k
  ·exact .inl e
  ·rw[iI,if_neg (kR e)]at kk;exact .inr ⟨e,kk,by simp[bc.withRowOf,e]⟩
 have aos:bl<w.heap.size:=(Array.getElem?_eq_some_iff.1 w5).1;have adN:∀j u,(us++ns)[j]? =some u→w'.cell? ⟨bl,j,none⟩=some u:=by intro j u af;have y8:=(fN.1 af).1;simp only[World.cell?,kl,jW,gP,if_false];rw[List.getElem?_toArray,List.getElem?_append_left y8];exact af
 refine⟨h.over av rfl ⟨fun b j bg=>?_,fun j eM af=>?_,h.good.inj,fun g o' eO=>?_,fun g e3 n n' u e6 b J U ao a8 bZ c7=>?_,fun g j n u b J U ao a8 bZ=>?_,fun j=>?_,fun b ae=>h.good.otr b ?_⟩
  ⟨by rw[←zq];exact h.fr.os,by rw[←zq];exact h.fr.tape,by rw[←zq];exact h.fr.output,by rw[JP];exact h.fr.size,fun j af hm=>?_,fun b j bg=>?_,fun b j bg=>?_,h.fr.obj,h.fr.obn,fun m n u hm=>C0 (h.fr.row m n u hm) (fun n u=>av.ow _ n u trivial),h.fr.obr,h.fr.trd,fun k j b ae=>⟨(h.fr.trb k j b ae).1,by rw[JP];exact(h.fr.trb k j b ae).2⟩,fun bL j b ae=>?_,fun b o bg=>(av.sh b o (h.fr.keep b o bg).1).trans (h.fr.sh b o bg)⟩ (fun m hm=>?_),?_⟩
 ·rw[JP];rcases bg with bg|⟨bg,_⟩
  ·exact h.good.alt b j bg
  ·simp only[nO,dG]at bg;omega
 ·obtain⟨b,ca,fP,g1,g2,g3,g4,g5⟩:=h.good.box j eM af;have cF:b≠bl:=fun e=>h.good.obx k j o.n _ bl (by simp[ad]) (by simp[af]) aK rfl (by rw[←e];exact g1);refine⟨b,ca,fP,g1,g2,fun i bg=>?_,by rw[mV b cF];exact g4,p0 av g5⟩;rcases bg with bg|⟨bg,_⟩
  ·exact g3 i bg
  ·simp only[nO,dG]at bg;exact cF bg.symm
 ·simp only at eO;rw[iI]at eO;by_cases e:k=g
  ·rw[if_pos e]at eO;cases eO;subst e;refine⟨.slice (some ⟨bl,0,none⟩) (o.n+ys.length) cap,us++ns,by simp[bc.withRowOf],⟨by rw[pq,rp,jw,pw],.inr ⟨bl,cap,_,rfl,Nat.zero_le _,kl,rl,yZ,?_,?_⟩⟩,fun b ae=>⟨?_,fun j bg=>?_⟩,fun ys aG=>by cases aG⟩
   ·simp only[List.size_toArray,pq,r1,Array.length_toList];omega
   ·have au:(us++ns).length=(o.n+ys.length)*o.sz:=by rw[pq,rp,jw,pw]
    simp only[←au];rw[List.take_append_of_le_length (eR _),nP]
   ·simp only[nO,dG]at ae;subst ae;exact cT
   ·simp only[nO,dG]at ae;subst ae;rcases bg with bg|⟨_,bg⟩
    ·have:=c8 j bg;simp only;rw[pw];omega
    ·exact bg
  ·rw[if_neg e]at eO;obtain⟨v0,fu,ak,aB,bf,dd⟩:=h.good.own g o' eO;have cF:∀b,v0.ownBlock=some b→b≠bl:=fun b ae Ik=>e (h.good.oinj k g o.n o'.n _ v0 bl (by simp[ad]) (by simp[eO]) aK ak rfl (by rw[←Ik];exact ae));have u7:∀b,v0.ownBlock=some b→∀j,(ν.withRowOf k (.slice (some ⟨bl,0,none⟩) (o.n+ys.length) cap) (o.n+ys.length) ((o.n+ys.length)*o.sz)).A b j→ν.A b j:=fun b ae j bg=>by
    rcases bg with bg|⟨bg,_⟩
    ·exact bg
    ·simp only[nO,dG]at bg;exact absurd bg.symm (cF b ae)
   refine⟨v0,fu,by simp[bc.withRowOf,kR e,ak],⟨aB.1,?_⟩,fun b ae=>⟨(bf b ae).1,fun j bg=>(bf b ae).2 j (u7 b ae j bg)⟩,rL av u7 dd⟩;rcases aB.2 with aB|⟨bb,D6,l9,f1,f2,f3,f4⟩
   ·exact .inl aB
   ·exact .inr ⟨bb,D6,l9,f1,f2,by rw[mV bb (cF bb (by rw[f1];rfl))];exact f3,f4⟩
 ·rcases kH g J with rfl|⟨hV,fZ,iX⟩<;>rcases kH e3 U with rfl|⟨m1,m2,m3⟩
  ·rfl
  ·exfalso;simp only[bc.withRowOf,if_true,dG,jm]at ao;rw[m3]at a8;rw[←ao.2]at bZ;simp only[nO,dG]at bZ;subst bZ;exact m1 (h.good.oinj e3 g n' o.n e6 _ bl m2 (by simp[ad]) a8 aK c7 rfl)
  ·exfalso;simp only[bc.withRowOf,if_true,dG,jm]at a8;rw[iX]at ao;rw[←a8.2]at c7;simp only[nO,dG]at c7;subst c7;exact hV (h.good.oinj g e3 n o.n u _ bl fZ (by simp[ad]) ao aK bZ rfl)
  ·rw[iX]at ao;rw[m3]at a8;exact h.good.oinj g e3 n n' u e6 b fZ m2 ao a8 bZ c7
 ·rcases kH g J with rfl|⟨hV,fZ,iX⟩
  ·simp only[bc.withRowOf,if_true,dG,jm]at ao;rw[←ao.2]at a8;simp only[nO,dG]at a8;subst a8;exact h.good.obx g j o.n _ bl (by simp[ad]) U aK rfl bZ
  ·rw[iX]at ao;exact h.good.obx g j n u b fZ U ao a8 bZ
 ·by_cases e:j=k
  ·subst e;rcases h.good.one j with J|J
   ·exact .inl J
   ·rw[J]at aK;cases aK
  ·rcases h.good.one j with J|J
   ·exact .inl J
   ·exact .inr (by simp[bc.withRowOf,e,J])
 ·rcases ae with ae|⟨g,n,u,bD,a2,a3⟩
  ·exact .inl ae
  ·rcases kH g bD with rfl|⟨hV,fZ,iX⟩
   ·simp only[bc.withRowOf,if_true,dG,jm]at a2;rw[←a2.2]at a3;exact .inr ⟨g,_,_,by simp[ad],aK,a3⟩
   ·exact .inr ⟨g,n,u,fZ,by rw[←iX];exact a2,a3⟩
 ·rw[mV j fun e=>by subst e;exact cT.elim hm (fun g2=>by omega)];exact h.fr.block j af hm
 ·obtain⟨aS,bp⟩:=h.fr.keep b j bg;exact⟨.inl aS,(av.A b j aS).2.trans bp⟩
 ·rcases bg with bg|⟨bg,_⟩
  ·exact h.fr.fresh b j bg
  ·simp only[nO,dG]at bg;subst bg;exact .inr cT
 ·obtain⟨t1,t2⟩:=h.fr.trn bL j b ae;have cF:bL≠k:=fun e=>by subst e;rw[t2]at aK;cases aK
  exact⟨t1,by simp[bc.withRowOf,cF,t2]⟩
 ·obtain⟨aS,bp,bW⟩:=h.new m hm;refine⟨aS,?_,bW⟩;have:m≠k:=fun e=>by subst e;rw[bp]at aK;cases aK
  simp[bc.withRowOf,this,bp]
 ·simp only[a7];refine⟨⟨some ⟨bl,0,none⟩,cap,by simp[j3],by simp;omega,⟨yZ,by simpa using eT⟩,.inr ⟨bl,0,us++ns,rfl,Ko _ 0 fun j u af=>?_,CU (Aj av ay) (Aj av y1)⟩⟩,fun e=>(by cases e),fun g e=>?_,fun _ _ e=>(by cases e),fun _ e=>(by cases e)⟩
  ·have y8:=(fN.1 af).1;rw[Nat.zero_add];refine⟨.inr ⟨rfl,?_⟩,adN j u af⟩;rw[pq,rp,jw]at y8;rw[pw];exact y8
  ·cases e;exact⟨o.n+ys.length,.slice (some ⟨bl,0,none⟩) (o.n+ys.length) cap,by simp[bc.withRowOf],by simp[j3],fun _=>rfl⟩
theorem GG{P:cB}{w:World}{t ty e:fT}{i:TypeInfo}(aN:P.underlying t=some (.slice e))(hi:P.info? e=some i)(b:Option Addr)(n cap:Nat)(aw:n≤cap)(x:Option Addr)(c:Nat):
  (Builtin.append_ #[t,t] ty #[.slice b n cap,.slice x 0 c]).run P w= .ok (.slice b n cap) w:=by
 cases b<;>cases x<;>simp[Builtin.append_,run_underlying aN,sizeOf,typeInfo,hi,Builtin.lenOf,aw,Builtin.firstCells,loadCells,loadCellsFrom,storeCells]
inductive ek where
 |v (d:Nat) (i:fO)
 |box (d:Nat) (key:Option Nat) (x:ds)
 |alloc (d:Nat) (key:Option Nat) (zero:ah)
 |store (sz:Nat) (x y:ds)
 |bsl (d:Nat) (sz el:Nat) (xs:List ds)
 |app (d:Nat) (sz el:Nat) (x y:ds)
 |bslm (d:Nat) (key:Option Nat) (sz el:Nat) (xs:List ds)
 |appm (d:Nat) (key:Option Nat) (sz el:Nat) (x y:ds)
 |mkmap (d:Nat) (key:Option Nat)
 |mput (b9:jq) (x k v:ds)
 |range (d:Nat) (key:Option Nat) (x:ds)
 |storeE (sz:Nat) (x y:ds)
 |mks (d:Nat) (key:Option Nat) (sz el:Nat) (z:ah) (x:ds)
def jC(st:bq):Option Nat→aH
 |none=>.loc st.n
 |some m=>.obj m
def pR(st:bq):Option Nat→Prop
 |none=>.loc st.n∉st.o
 |some m=>.obj m∉st.o
def nb(st:bq):Option Nat→Nat
 |none=>st.n+1
 |some _=>st.n
def nc(st:bq):Option Nat→List aH
 |none=>st.o
 |some m=>.obj m::st.o
theorem vI{st:bq}{key:Option Nat}(h:pR st key):fresh st.n st.o (jC st key):=by cases key<;>simp[jC,fresh,pR]at h⊢ <;>exact h
theorem vJ{st:bq}{key:Option Nat}:∀j,fresh (nb st key) (nc st key) j→fresh st.n st.o j∧j≠jC st key:=by
 intro j af;cases key<;>cases j<;>simp[fresh,nb,nc,jC]at af⊢
 ·exact⟨⟨by omega,af.2⟩,by omega⟩
 ·exact af
 ·exact af
 ·exact⟨af.2,af.1⟩
def r6(sz:Nat):List ah→Prop
 |[]=>True
 |p::cg=>(dX p=true∧(cells p).length=sz)∧r6 sz cg
def ov(b9:jq)(k v:ah):List ah→Option (List ah)
 | .hdm clock borns::kvs=>if tW b9 k=false then none else match uh b9 k v kvs with
  |some (some vD)=>some (.hdm clock borns::vD)
  |some none=>some (.hdm (clock+1) (borns++[clock])::(kvs++[k,v]))
  |none=>none
 |_=>none
def vV(m:aH):List ah→Option (List ah)
 | .hdm clock _::_=>some [.hdi clock [] clock,.gmap m]
 |_=>none
def r7(st:bq)(sz el:Nat)(x y:ah):Option ((Option (aH×List ah))×List ah):=
 match x,y with
 | .slice dF .nil _,.slice jb _ ys=>if dF=sz∧jb=sz then some (none,ys)else none
 | .row dF k n,.slice jb _ ys=>if dF=sz∧jb=sz then
   match look k st.e with
   |some ⟨n',fP,wa,some xs⟩=>if n'=n∧fP=el∧wa=sz then some (some (k,xs),ys)else none
   |_=>none
  else none
 |_,_=>none
def my:ah→Nat→List ah→ah
 | .agg eM,f,cs=>.agg (nH eM f cs)
 |_,_,[q]=>q
 |_,_,_=>.junk
def qK(st:bq)(sz:Nat)(p v:ah):Option (Prop×bq):=
 match p with
 | .rptr dF k n i f=>match look k st.e with
  |some ⟨n',el,jb,some xs⟩=>if n'=n∧jb=dF then
    match xs[i]? with
    |some q=>some (dX q=true∧dX v=true∧(cells v).length=sz∧f+sz≤(cells q).length∧0<sz,{st with e:=cw k ⟨n',el,jb,some (xs.set i (my q f (cells v)))⟩ st.e})
    |none=>none
   else none
  |_=>none
 |_=>none
def l1(st:bq):ek→Option (Prop×bq)
 | .mks d key sz el z x=>match cm st.t x with
  | .int _ n=>some (pR st key∧0≤n∧n≤lim,
    {t:=put d (.row sz (jC st key) n.toNat) st.t,b:=st.b,e:=cw (jC st key) ⟨n.toNat,el,sz,some (qP n.toNat z)⟩ st.e,n:=nb st key,o:=nc st key})
  |_=>none
 | .bslm d key sz el xs=>some (pR st key∧r6 sz (xs.map (cm st.t)),
   {t:=put d (.row sz (jC st key) xs.length) st.t,b:=st.b,e:=cw (jC st key) ⟨xs.length,el,sz,some (xs.map (cm st.t))⟩ st.e,n:=nb st key,o:=nc st key})
 | .appm d key sz el x y=>match r7 st sz el (cm st.t x) (cm st.t y)with
  |some (none,ys)=>some (pR st key∧ys.length≤lim∧ys≠[],
    {t:=put d (.row sz (jC st key) ys.length) st.t,b:=st.b,e:=cw (jC st key) ⟨ys.length,el,sz,some ys⟩ st.e,n:=nb st key,o:=nc st key})
  |some (some (k,xs),ys)=>some (xs.length+ys.length≤lim,{st with t:=put d (.row sz k (xs.length+ys.length)) st.t,e:=cw k ⟨xs.length+ys.length,el,sz,some (xs++ys)⟩ st.e})
  |none=>none
 | .mkmap d key=>some (pR st key,{t:=put d (.gmap (jC st key)) st.t,b:=cw (jC st key) [.hdm 0 []] st.b,e:=st.e,n:=nb st key,o:=nc st key})
 | .mput b9 x k v=>match cm st.t x with
  | .gmap m=>match look m st.b with
   |some cs=>match ov b9 (cm st.t k) (cm st.t v) cs with
    |some cs'=>some (True,{st with b:=cw m cs' st.b})
    |none=>none
   |none=>none
  |_=>none
 | .range d key x=>match cm st.t x with
  | .gmap m=>match look m st.b with
   |some cs=>match vV m cs with
    |some cs'=>some (pR st key,{t:=put d (.ptr (jC st key) 0) st.t,b:=cw (jC st key) cs' st.b,e:=st.e,n:=nb st key,o:=nc st key})
    |none=>none
   |none=>none
  |_=>none
 | .v d i=>match ha st i with
  |some (c,p)=>some (c,{st with t:=put d p st.t})
  |none=>none
 | .storeE sz x y=>qK st sz (cm st.t x) (cm st.t y)
 | .box d key x=>some (pR st key∧dX (cm st.t x)=true,
   {t:=put d (.ptr (jC st key) 0) st.t,b:=cw (jC st key) (cells (cm st.t x)) st.b,e:=st.e,n:=nb st key,o:=nc st key})
 | .alloc d key z=>some (pR st key,{t:=put d (.ptr (jC st key) 0) st.t,b:=cw (jC st key) (cells z) st.b,e:=st.e,n:=nb st key,o:=nc st key})
 | .store sz x y=>match cm st.t x with
  | .ptr k off=>match look k st.b with
   |some cs=>some (hN cs=true∧dX (cm st.t y)=true∧(cells (cm st.t y)).length=sz∧off+sz≤cs.length,{st with b:=cw k (nH cs off (cells (cm st.t y))) st.b})
   |none=>none
  |p=>qK st sz p (cm st.t y)
 | .bsl d sz el xs=>some (pR st none∧r6 sz (xs.map (cm st.t)),
   {st with t:=put d (.slice sz (.own (.loc st.n)) (xs.map (cm st.t))) st.t,e:=cw (.loc st.n) ⟨xs.length,el,sz,none⟩ st.e,n:=st.n+1})
 | .app d sz el x y=>match cm st.t x,cm st.t y with
  | .slice dF tag xs,.slice jb _ ys=>if dF=sz∧jb=sz then
    match tag with
    | .own k=>match look k st.e with
     |some o=>some (o.n=xs.length∧o.el=el∧o.sz=sz∧xs.length+ys.length≤lim,
       {st with t:=put d (.slice sz (.own k) (xs++ys)) st.t,e:=cw k ⟨xs.length+ys.length,el,sz,none⟩ st.e})
     |none=>none
    | .nil=>some (pR st none∧ys.length≤lim,{st with t:=put d (.slice sz (.own (.loc st.n)) ys) st.t,e:=cw (.loc st.n) ⟨ys.length,el,sz,none⟩ st.e,n:=st.n+1})
    |_=>none
   else none
  |_,_=>none
def eE(κ:aH)(n':Nat)(o':List aH)(st:bq):ek→Option (Prop×bq)
 | .mks d _ sz el z x=>match cm st.t x with
  | .int _ n=>some (0≤n∧n≤lim,
    {t:=put d (.row sz κ n.toNat) st.t,b:=st.b,e:=cw κ ⟨n.toNat,el,sz,some (qP n.toNat z)⟩ st.e,n:=n',o:=o'})
  |_=>none
 | .bslm d _ sz el xs=>some (r6 sz (xs.map (cm st.t)),
   {t:=put d (.row sz κ xs.length) st.t,b:=st.b,e:=cw κ ⟨xs.length,el,sz,some (xs.map (cm st.t))⟩ st.e,n:=n',o:=o'})
 | .appm d _ sz el x y=>match r7 st sz el (cm st.t x) (cm st.t y)with
  |some (none,ys)=>some (ys.length≤lim∧ys≠[],
    {t:=put d (.row sz κ ys.length) st.t,b:=st.b,e:=cw κ ⟨ys.length,el,sz,some ys⟩ st.e,n:=n',o:=o'})
  |some (some (k,xs),ys)=>some (xs.length+ys.length≤lim,{st with t:=put d (.row sz k (xs.length+ys.length)) st.t,e:=cw k ⟨xs.length+ys.length,el,sz,some (xs++ys)⟩ st.e})
  |none=>none
 | .mkmap d _=>some (True,{t:=put d (.gmap κ) st.t,b:=cw κ [.hdm 0 []] st.b,e:=st.e,n:=n',o:=o'})
 | .mput b9 x k v=>match cm st.t x with
  | .gmap m=>match look m st.b with
   |some cs=>match ov b9 (cm st.t k) (cm st.t v) cs with
    |some cs'=>some (True,{st with b:=cw m cs' st.b})
    |none=>none
   |none=>none
  |_=>none
 | .range d _ x=>match cm st.t x with
  | .gmap m=>match look m st.b with
   |some cs=>match vV m cs with
    |some cs'=>some (True,{t:=put d (.ptr κ 0) st.t,b:=cw κ cs' st.b,e:=st.e,n:=n',o:=o'})
    |none=>none
   |none=>none
  |_=>none
 | .v d i=>match ha st i with
  |some (c,p)=>some (c,{st with t:=put d p st.t})
  |none=>none
 | .storeE sz x y=>qK st sz (cm st.t x) (cm st.t y)
 | .box d _ x=>some (dX (cm st.t x)=true,{t:=put d (.ptr κ 0) st.t,b:=cw κ (cells (cm st.t x)) st.b,e:=st.e,n:=n',o:=o'})
 | .alloc d _ z=>some (True,{t:=put d (.ptr κ 0) st.t,b:=cw κ (cells z) st.b,e:=st.e,n:=n',o:=o'})
 | .store sz x y=>match cm st.t x with
  | .ptr k off=>match look k st.b with
   |some cs=>some (hN cs=true∧dX (cm st.t y)=true∧(cells (cm st.t y)).length=sz∧off+sz≤cs.length,{st with b:=cw k (nH cs off (cells (cm st.t y))) st.b})
   |none=>none
  |p=>qK st sz p (cm st.t y)
 | .bsl d sz el xs=>some (r6 sz (xs.map (cm st.t)),
   {st with t:=put d (.slice sz (.own κ) (xs.map (cm st.t))) st.t,e:=cw κ ⟨xs.length,el,sz,none⟩ st.e,n:=n',o:=o'})
 | .app d sz el x y=>match cm st.t x,cm st.t y with
  | .slice dF tag xs,.slice jb _ ys=>if dF=sz∧jb=sz then
    match tag with
    | .own k=>match look k st.e with
     |some o=>some (o.n=xs.length∧o.el=el∧o.sz=sz∧xs.length+ys.length≤lim,
       {st with t:=put d (.slice sz (.own k) (xs++ys)) st.t,e:=cw k ⟨xs.length+ys.length,el,sz,none⟩ st.e})
     |none=>none
    | .nil=>some (ys.length≤lim,{st with t:=put d (.slice sz (.own κ) ys) st.t,e:=cw κ ⟨ys.length,el,sz,none⟩ st.e,n:=n',o:=o'})
    |_=>none
   else none
  |_,_=>none
def vN:Nat→List ds→List (Nat×Operand)→Bool
 |_,[],[]=>true
 |i,x::xs,(j,o)::os=>i==j&&eg x o&&vN (i+1) xs os
 |_,_,_=>false
def C2(N:Nat)(bA:List (Nat×dC))(i:ek)(o:Oper):Bool:=
 match i,o.op with
 | .mkmap d _,.makeMap _ none=>o.dst==some d&&decide (d<N)
 | .mput b9 x k v,.mapUpdate t gy gv ox=>o.dst==none&&(match dU bA t with|some ⟨_,_,.map mu _,_⟩=>xx bA b9 mu|_=>false)&&eg x gy&&eg k gv&&eg v ox
 | .mput b9 x k v,.insert t gy gv ox=>o.dst==none&&(match dU bA t with|some ⟨_,_,.map mu _,_⟩=>xx bA b9 mu|_=>false)&&eg x gy&&eg k gv&&eg v ox
 | .range d _ x,.range t gy=>o.dst==some d&&decide (d<N)&&(match dU bA t with|some ⟨_,_,.map _ _,_⟩=>true|_=>false)&&eg x gy
 | .v d i,op=>o.dst==some d&&decide (d<N)&&Di bA i op
 | .box d _ x,.box _ o'=>o.dst==some d&&decide (d<N)&&eg x o'
 | .alloc d _ z,.alloc el=>o.dst==some d&&decide (d<N)&&(match dU bA el with|some f=>AK z f.zero|none=>false)
 | .store sz x y,.store t o' iY=>o.dst==none&&(match dU bA t with|some f=>f.size==sz|none=>false)&&eg x o'&&eg y iY
 | .bsl d sz el xs,.buildSlice t len parts=>o.dst==some d&&decide (d<N)&&(match dU bA t with|some ⟨_,_,.slice fP,_⟩=>el==fP|_=>false)&&(match dU bA el with|some f=>f.size==sz&&decide (0<sz)|none=>false)
   &&len==xs.length&&decide (len*sz≤16777216)&&vN 0 xs parts.toList
 | .app d sz el x y,.call ⟨.builtin .append,⟨[o',iY]⟩,⟨[t,dJ]⟩⟩=>o.dst==some d&&decide (d<N)&&t==dJ&&(match dU bA t with|some ⟨_,_,.slice fP,_⟩=>el==fP|_=>false)
   &&(match dU bA el with|some f=>f.size==sz&&decide (0<sz)&&decide (f.bytes≤2048)|none=>false)&&eg x o'&&eg y iY
 | .bslm d _ sz el xs,.buildSlice t len parts=>o.dst==some d&&decide (d<N)&&(match dU bA t with|some ⟨_,_,.slice fP,_⟩=>el==fP|_=>false)&&(match dU bA el with|some f=>f.size==sz&&decide (0<sz)|none=>false)
   &&len==xs.length&&decide (len*sz≤16777216)&&vN 0 xs parts.toList
 | .appm d _ sz el x y,.call ⟨.builtin .append,⟨[o',iY]⟩,⟨[t,dJ]⟩⟩=>o.dst==some d&&decide (d<N)&&t==dJ&&(match dU bA t with|some ⟨_,_,.slice fP,_⟩=>el==fP|_=>false)
   &&(match dU bA el with|some f=>f.size==sz&&decide (0<sz)&&decide (f.bytes≤2048)|none=>false)&&eg x o'&&eg y iY
 | .storeE sz x y,.store t o' iY=>o.dst==none&&(match dU bA t with|some f=>f.size==sz|none=>false)&&eg x o'&&eg y iY
 | .mks d _ sz el z x,.makeSlice t o' iY=>o.dst==some d&&decide (d<N)&&(match dU bA t with|some ⟨_,_,.slice fP,_⟩=>el==fP|_=>false)
   &&(match dU bA el with|some f=>f.size==sz&&decide (0<sz)&&decide (f.bytes≤2048)&&AK z f.zero|none=>false)&&eg x o'&&eg x iY
 |_,_=>false
theorem Wf{w:World}{ν:bc}{C:e8}{st:bq}{a:Act}(aL:cO C st a w ν){sz:Nat}:
  ∀(xs:List ds) (i:Nat) (os:List (Nat×Operand)) (pre:List ah) (us:Array Value) (ba:List Value),vN i xs os=true→r6 sz (xs.map (cm st.t))→us.toList.take (i*sz)=ba→dA w ν sz pre ba→i=pre.length→us.size=(i+xs.length)*sz→
  ∃ca:Array Value,Instr.fill (fun i=>some (i*sz,sz)) us (os.map fun(x:Nat×Operand)=>(x.1,a.eval x.2))=some ca∧dA w ν sz (pre++xs.map (cm st.t)) ca.toList∧ca.size=us.size
 |[],i,[],pre,us,ba,_,_,aK,h,hi,ag=>by refine⟨us,by simp[Instr.fill],?_,rfl⟩;have au:=sS h;have:us.toList.take (i*sz)=us.toList:=hn (by simp at ag⊢;omega);rw[this]at aK;simpa[aK]using h
 |[],_,_::_,_,_,_,eD,_,_,_,_,_=>by simp[vN]at eD
 |_::_,_,[],_,_,_,eD,_,_,_,_,_=>by simp[vN]at eD
 |x::xs,i,(j,o)::os,pre,us,ba,eD,bE,aK,h,hi,ag=>by
  simp only[vN,cz,dL]at eD;obtain⟨⟨rfl,J⟩,U⟩:=eD;simp only[gG,r6]at bE;obtain⟨⟨kZ,hlen⟩,bE⟩:=bE;have ab:=eh aL J;have lq:=uy ab kZ;have y0:=pk lq;have dr:(a.eval o).cells.size=sz:=by rw[hlen]at y0;simpa using y0
  have hmul:i*sz+sz≤us.size:=by rw[ag,p8,show i+(xs.length+1)=(i+1)+xs.length from by omega,pw,Nat.succ_mul];omega
  have xm:=IQ (w:=w) (ν:=ν) (a.eval o).cells.toList 0 (i*sz) us (by simp[dr];omega);have jx:dA w ν sz (pre++[cm st.t x]) (ba++(a.eval o).cells.toList):=by refine CU h ?_;simp only[dA];exact⟨a.eval o,[],by simp,⟨ab,dr,Al lq⟩,rfl⟩
  have oj:ba.length=i*sz:=by rw[←aK];simp;omega
  obtain⟨ca,g1,g2,g3⟩:=Wf aL xs (i+1) os (pre++[cm st.t x]) (((a.eval o).cells.toList.zipIdx 0).foldl (fun cs (x:Value×Nat)=>cs.setIfInBounds (i*sz+x.2) x.1) us) (ba++(a.eval o).cells.toList) U bE
   (by
    rw[xm];simp only[Nat.add_zero];rw[aK];have:(ba++(a.eval o).cells.toList).length=(i+1)*sz:=by rw[pq,oj,Nat.succ_mul];simp[dr]
    rw[←this,List.take_append_of_le_length (eR _),nP]) jx (by simp[hi])
   (by have bB:=e7 List.length xm;simp only[Array.length_toList,pq,List.length_take,r1,dr]at bB;rw[bB,ag,p8,show i+(xs.length+1)=i+1+xs.length from by omega];rw[ag,p8,show i+(xs.length+1)=i+1+xs.length from by omega]at hmul;omega)
  refine⟨ca,?_,by simpa using g2,?_⟩
  ·simp only[gG,Instr.fill];rw[if_neg (by simp[dr];omega),←g1];congr 1;rw[←Array.foldl_toList];simp
  ·rw[g3];have bB:=e7 List.length xm;simp only[Array.length_toList,pq,List.length_take,r1,dr]at bB;rw[bB];omega
theorem l4{P:cB}{o:Oper}{a:Act}{w w':World}{v:Value}{K:Act→World→Prop}{Q:Exit→Act→World→Prop}(h:(execOp a.eval o).run P w= .ok (.value v) w')(ad:K (a.put o.dst v) w'):o.wp P a w K Q:=by unfold Oper.wp;rw[h];exact ad
theorem Dp{P:cB}{o:Oper}{a:Act}{w w':World}{K:Act→World→Prop}{Q:Exit→Act→World→Prop}(h:(execOp a.eval o).run P w= .ok .skip w')(ad:K (a.put o.dst undef) w'):o.wp P a w K Q:=by unfold Oper.wp;rw[h];exact ad
theorem Dj{P:cB}{w w':World}{x:Sem Value}{v:Value}(h:x.run P w= .ok v w'):(do pure (Next.value (←x)):Sem Next).run P w= .ok (.value v) w':=by simp[h]
theorem Wd{P:cB}{bA:List (Nat×dC)}(aN:fM P bA=true){C:e8}{st:bq}{a:Act}{w:World}{ν:bc}(aL:cO C st a w ν){t el:Nat}{f g:dC}(aI:dU bA t=some f)(ad:f.kind= .slice el)(a1:dU bA el=some g)
  {xs:List ds} {os:List (Nat×Operand)} (eD:vN 0 xs os=true) (ef:r6 g.size (xs.map (cm st.t))) (hlen:xs.length*g.size≤16777216):
  ∃us:Array Value,(Instr.buildSlice t xs.length (os.map fun(x:Nat×Operand)=>(x.1,a.eval x.2)).toArray).run P w= .ok (.slice (some ⟨w.heap.size,0,none⟩) xs.length xs.length) (w.alloc (.cells us el))∧
   dA w ν g.size (xs.map (cm st.t)) us.toList∧us.size=xs.length*g.size:=by
 obtain⟨d,aQ,eX⟩:=iK aN aI;rw[ad]at eX;obtain rfl:=r9 eX;obtain⟨_,ag⟩:=uG aN a1 w;obtain⟨z,xq,aoH,aoI⟩:=Mz aN a1 w;have aw:¬xs.length*g.size>2 ^ 24:=by omega
 let init:Array Value:=if xs.length*g.size=0 then(Array.range (xs.length*g.size)).map ((#[]:Array Value)[· %(#[]:Array Value).size]!)else(Array.range (xs.length*g.size)).map (z.cells[· %z.cells.size]!)
 have R0:init.size=xs.length*g.size:=by simp only[init];split<;>simp
 obtain⟨ca,g1,g2,g3⟩:=Wf (a:=a) aL xs 0 os [] init [] eD ef (by simp) (by simp[dA]) rfl (by rw[R0];simp);refine⟨ca,?_,by simpa using g2,by rw[g3,R0]⟩;simp only[init]at g1;by_cases bB:xs.length*g.size=0
 ·rw[if_pos bB]at g1;rw[bB]at g1;have ads:¬(0:Nat)>2 ^ 24:=by decide
  simp only[Instr.buildSlice,fC,run_underlying aQ,fJ,ag,if_false,gk,bB,if_true,ads,g1,newRow,run_newObj];rfl
 ·rw[if_neg bB]at g1;simp only[Instr.buildSlice,fC,run_underlying aQ,fJ,ag,aw,if_false,gk,bB,xq,g1,newRow,run_newObj];rfl
theorem Cv{P:cB}{w:World}{ν:bc}{b9:jq}{t:fT}(aQ:tf P b9 t){k v:ah}{gW MY:Value}(ad:a7 w ν k gW)(aK:a7 w ν v MY):
  ∀(borns:List Nat) (kvs:List ah) (us:List Value) (i:Nat) (r:Option (List ah)),cK w ν kvs us→kvs.length=2*borns.length→uh b9 k v kvs=some r→
  match r with
  |none=>hQ P w b9 t gW (fx borns us) i none
  |some vD=> ∃j u ca e,hQ P w b9 t gW (fx borns us) i (some (i+j,u))∧cK w ν vD ca∧vD.length=kvs.length∧(fx borns us)[j]? =some e∧e.key=gW∧Instr.sameBits 10000 e.key gW=true∧fx borns ca=(fx borns us).modify j (fun e=>{e with key:=gW,val:=MY})
 |[],[],us,i,r,h,_,hm=>by simp only[uh]at hm;cases hm;simp only[cK]at h;subst h;simpa[fx]using hQ.nil P w b9 t gW i
 |[],_::_,_,_,_,_,au,_=>by simp at au
 |b::eS,[],_,_,_,_,au,_=>by simp at au
 |b::eS,[_],_,_,_,_,au,_=>by simp at au;omega
 |b::eS,bL::v'::kvs,us,i,r,h,au,hm=>by
  simp only[cK]at h;obtain⟨h7,ME,rfl,J,iL,rS,rfl,U,ao⟩:=h;simp only[uh]at hm;simp only[fx];cases bn:sE b9 k bL with
  |none=>simp[bn]at hm
  |some bb=>
   obtain⟨s1,s2⟩:=Tj aQ ad J bn;simp only[bn]at hm;cases bb with
   |true=>simp only[dG]at hm;subst hm;obtain⟨rfl,s3⟩:=s2 rfl;refine⟨0,iL,h7::MY::rS,⟨h7,iL,b⟩,hQ.hit (e:=⟨h7,iL,b⟩) s1,?_,by simp,by simp,rfl,s3,by simp[fx]⟩;simp only[cK];exact⟨_,_,rfl,ad,_,_,rfl,aK,ao⟩
   |false=>
    simp only at hm;have bS:=fun eJ df=>Cv aQ ad aK eS kvs rS (i+1) eJ ao (by simp at au;omega) df;split at hm
    ·rename_i eJ df;cases hm;obtain⟨j,u,ca,e,g1,g2,g3,g4,g5,g6,g7⟩:=bS _ df;refine⟨j+1,u,h7::iL::ca,e,hQ.miss (e:=⟨h7,iL,b⟩) s1 (by rw[show i+(j+1)=i+1+j from by omega];exact g1),?_,by simp[g3],by simpa using g4,g5,g6,by simp[fx,g7]⟩;simp only[cK];exact⟨_,_,rfl,J,_,_,rfl,U,g2⟩
    ·rename_i df;cases hm;exact hQ.miss (e:=⟨h7,iL,b⟩) s1 (bS _ df)
    ·cases hm
theorem Ip:∀(borns:List Nat) (us:List Value) (b:Nat) (k v:Value),us.length=2*borns.length→fx (borns++[b]) (us++[k,v])=fx borns us++[⟨k,v,b⟩]
 |[],us,b,k,v,h=>by have:us=[]:=List.eq_nil_of_length_eq_zero (by simpa using h);subst this;simp[fx]
 |bO::eS,[],b,k,v,h=>by simp at h
 |bO::eS,[_],b,k,v,h=>by simp at h;omega
 |bO::eS,bL::v'::us,b,k,v,h=>by simp only[bT,fx,Ip eS us b k v (by simp at h;omega)]
theorem LX{w:World}{ν:bc}:∀{cg bK:List ah} {ba us:List Value},cK w ν cg ba→cK w ν bK us→cK w ν (cg++bK) (ba++us)
 |[],bK,ba,us,h,cr=>by simp only[cK]at h;subst h;simpa using cr
 |p::cg,bK,ba,us,h,cr=>by simp only[cK]at h;obtain⟨u,ca,rfl,J,U⟩:=h;simp only[bT,cK];exact⟨u,_,rfl,J,LX U cr⟩
theorem Gy{w:World}{ν:bc}:∀{cg:List ah} {ba:List Value},cK w ν cg ba→ba.length=cg.length
 |[],ba,h=>by simp only[cK]at h;subst h;rfl
 |p::cg,ba,h=>by simp only[cK]at h;obtain⟨u,ca,rfl,_,U⟩:=h;simp[Gy U]
theorem C1{P:cB}{w:World}{r:Nat}{o o':Obj}(ae:w.heap[r]? =some o)(aw:∀c e f,o≠ .cells c e f:=by simp):(setObj r o').run P w= .ok () {w with heap:=w.heap.setIfInBounds r o'}:=by simp only[setObj,Sem.run,ae]
def ek.makes(st:bq):ek→Bool
 | .box _ _ _| .alloc _ _ _| .bsl _ _ _ _| .bslm _ _ _ _ _| .mkmap _ _| .range _ _ _| .mks _ _ _ _ _ _=>true
 | .appm _ _ _ _ x _=>match cm st.t x with
  | .slice _ .nil _=>true
  |_=>false
 | .app _ _ _ x _=>match cm st.t x with
  | .slice _ .nil _=>true
  |_=>false
 |_=>false
theorem cO.forgetRow{C:e8}{st:bq}{a:Act}{w:World}{ν:bc}(aL:cO C st a w ν){k:aH}{ow:fF}(ad:look k st.e=some ow):cO C {st with e:=cw k ⟨ow.n,ow.el,ow.sz,none⟩ st.e} a w ν:=by
 have hx:∀g,(look g (cw k ⟨ow.n,ow.el,ow.sz,none⟩ st.e)).isSome→(look g st.e).isSome:=fun g a1=>by
  rw[iI]at a1;split at a1
  ·rename_i e;subst e;simp[ad]
  ·exact a1
 refine⟨⟨aL.good.alt,aL.good.box,aL.good.inj,fun g o a1=>?_,fun g e3 n n' v v' bl bD a2=>aL.good.oinj g e3 n n' v v' bl (hx g bD) (hx e3 a2),fun g j n v bl bD=>aL.good.obx g j n v bl (hx g bD),aL.good.one,fun bl ae=>aL.good.otr bl (ae.imp id (fun⟨g,n,v,bD,a2⟩=>⟨g,n,v,hx g bD,a2⟩))⟩,aL.fr,aL.defers,aL.size,aL.slot,aL.new⟩;simp only at a1;rw[iI]at a1;split at a1
 ·rename_i e;subst e;cases a1;obtain⟨v,us,a6,bz,bU,_⟩:=aL.good.own k ow ad;exact⟨v,us,a6,bz,bU,fun xs ab=>by cases ab⟩
 ·exact aL.good.own g o a1
theorem UR{w:World}{base el sz n:Nat}{v:Value}{us:List Value}(h:w.ownsRow base el sz v n us)(aw:0<n):∃b cap,v= .slice (some ⟨b,0,none⟩) n cap:=by
 rcases h.2 with⟨ak,aB⟩|⟨bb,cap,cur,f1,_⟩
 ·omega
 ·exact⟨_,_,f1⟩
theorem Gv{w:World}{ν:bc}{sz:Nat}:∀{xs:List ah} {us:List Value} {i:Nat} {q gz:ah} {e6:Value},dA w ν sz xs us→xs[i]? =some q→a7 w ν gz e6→e6.cells.size=sz→(∀c∈e6.cells.toList,c.oneCell'=true)→dA w ν sz (xs.set i gz) (us.take (i*sz)++e6.cells.toList++us.drop (i*sz+sz))
 |[],_,_,_,_,_,_,bn,_,_,_=>by simp at bn
 |x::xs,us,0,q,gz,e6,h,bn,aL,ag,av=>by
  simp only[dA]at h;obtain⟨u,ca,rfl,⟨J,U,ao⟩,bZ⟩:=h;have au:u.cells.toList.length=sz:=by simpa using U
  simp only[List.set_cons_zero,dA];refine⟨e6,ca,?_,⟨aL,ag,av⟩,bZ⟩;simp[←au]
 |x::xs,us,i+1,q,gz,e6,h,bn,aL,ag,av=>by
  simp only[dA]at h;obtain⟨u,ca,rfl,⟨J,U,ao⟩,bZ⟩:=h;have au:u.cells.toList.length=sz:=by simpa using U
  have bS:=Gv bZ (by simpa using bn) aL ag av;simp only[List.set_cons_succ,dA];refine⟨u,_,?_,⟨J,U,ao⟩,bS⟩;have e:(i+1)*sz+sz=u.cells.toList.length+(i*sz+sz):=by rw[au,Nat.succ_mul];omega
  rw[WH _ _ _ _ au,e,←List.drop_drop];simp
theorem akl{w:World}{ν:bc}{q:ah}{v:Value}(bn:a7 w ν q v)(ag:dX q=true){cs:List ah}{us:List Value}(ay:cY w ν cs us){f:Nat}(aI:f+us.length≤v.cells.size)(cF:us≠[]):
  ∃v',a7 w ν (my q f cs) v'∧v'.cells.toList=v.cells.toList.take f++us++v.cells.toList.drop (f+us.length)∧v'.cells.size=v.cells.size∧∀c∈v'.cells.toList,c.oneCell'=true:=by
 have hlen:=pk ay;have lj:=uy bn ag;by_cases bE:∃eM,q= .agg eM
 ·obtain⟨eM,rfl⟩:=bE;simp only[a7]at bn;obtain⟨ba,rfl,ko⟩:=bn;simp only[po]at aI⊢;have kl:cY w ν (nH eM f cs) (ba.toList.take f++us++ba.toList.drop (f+us.length)):=by unfold nH;rw[hlen];exact xX (xX (CW f ko) ay) (Ak _ ko)
  refine⟨.agg (ba.toList.take f++us++ba.toList.drop (f+us.length)).toArray,by simp only[my,a7];exact⟨_,rfl,by simpa using kl⟩,by simp[po],?_,fun c gT=>?_⟩
  ·simp[po];omega
  ·exact Al kl c (by simpa[po]using gT)
 ·have mP:∀cs,q≠ .agg cs:=fun cs e=>bE ⟨cs,e⟩;obtain⟨J,U⟩:=LZ bn ag mP;rw[U]at aI⊢;match us,cF,ay with
  |u::ca,_,ay=>
   simp at aI;obtain⟨rfl,rfl⟩:f=0∧ca=[]:=⟨by omega,List.length_eq_zero_iff.1 (by omega)⟩;match cs,ay,hlen with
   |[c],ay,_=>
    simp only[cY]at ay;obtain⟨wh,fu,ak,⟨Ji,RN⟩,_⟩:=ay;cases ak;have hu:u.cells= #[u]:=by cases u<;>first|rfl|cases RN
    have zj:my q 0 [c]=c:=by cases q<;>first|rfl|exact absurd rfl (mP _)
    rw[zj];refine⟨u,Ji,by simp[hu],by simp[hu],fun c gT=>?_⟩;rw[hu]at gT;simp at gT;subst gT;exact RN
theorem akV{α:Type}(A us:List α)(a f sz N:Nat)(J:f+us.length≤sz)(U:a+sz≤N)(ao:N≤A.length):
  ((A.take (a+f)++us++A.drop (a+f+us.length)).toArray.toList).take N=(A.take N).take a++((((A.take N).drop a).take sz).take f++us++(((A.take N).drop a).take sz).drop (f+us.length))++(A.take N).drop (a+sz):=by
 have ak:(A.take N).take a++(((A.take N).drop a).take sz).take f=A.take (a+f):=by rw[List.take_take (i:=f),Nat.min_eq_left (show f≤sz by omega),←List.take_add,List.take_take,Nat.min_eq_left (by omega)]
 have aB:(((A.take N).drop a).take sz).drop (f+us.length)++(A.take N).drop (a+sz)=(A.take N).drop (a+f+us.length):=by
  have au:f+us.length≤(((A.take N).drop a).take sz).length:=by simp;omega
  have fl:(A.take N).drop (a+sz)=((A.take N).drop a).drop sz:=by rw[List.drop_drop]
  rw[fl,←List.drop_append_of_le_length au,List.take_append_drop,List.drop_drop];congr 1;omega
 have bf:(A.take N).drop (a+f+us.length)=(A.drop (a+f+us.length)).take (N-(a+f+us.length)):=by rw[List.drop_take]
 have au:(A.take (a+f)++us).length=a+f+us.length:=by simp;omega
 simp only[List.append_assoc]at*;rw[aB,bf,←List.append_assoc (lJ a _),ak];have n5:N=(A.take (a+f)++us).length+(N-(a+f+us.length)):=by rw[au];omega
 rw[←List.append_assoc,←List.append_assoc];conv=>lhs;rw[n5,List.take_length_add_append]
theorem cO.storeRow{P:cB}{C:e8}{st:bq}{a:Act}{w:World}{ν:bc}(h:cO C st a w ν){k:aH}{n el sz:Nat}{xs:List ah}(ad:look k st.e=some ⟨n,el,sz,some xs⟩){i f:Nat}{u:Value}(ab:a7 w ν (.rptr sz k n i f) u){q:ah}(bn:xs[i]? =some q)(ag:dX q=true)
  {cs:List ah} {us:List Value} (ay:cY w ν cs us) (aI:f+us.length≤(cells q).length) (cF:us≠[]):
  ∃bl off l9,u= .pointer (some ⟨bl,off,none⟩)∧(storeCells ⟨bl,off,none⟩ us).run P w= .ok () (w.setRow bl l9)∧∃bk,cO C {st with e:=cw k ⟨n,el,sz,some (xs.set i (my q f cs))⟩ st.e} a (w.setRow bl l9) bk:=by
 simp only[a7]at ab;obtain⟨_,hi,n',e6,J,U,ao⟩:=ab;obtain⟨v,fu,a6,bz,bU,cT⟩:=h.good.own k _ ad;rw[J]at a6;simp only[dG,jm]at a6;obtain⟨rfl,rfl⟩:=a6;obtain⟨bl,ae,rfl⟩:=ao rfl;obtain⟨c8,nF,uq⟩:=cT xs rfl;simp only at c8 nF;obtain⟨v,dI,eZ,kK⟩:=Gt i nF bn;have y0:=pk (uy dI ag);have aeO:(cells q).length=sz:=by rw[←y0];simpa using eZ
 have RX:f+us.length≤sz:=by rw[←aeO];exact aI
 have hmul:i*sz+sz≤n'*sz:=by have:=Nat.mul_le_mul_right sz (show i+1≤n' from hi);rwa[Nat.succ_mul]at this
 rcases bz.2 with⟨ak,aB⟩|⟨g,cap,cur,rfl,va,Jt,JA,adP,dr,SF⟩
 ·rw[ak]at ae;simp[nO]at ae
 simp only[nO,dG]at ae;subst ae;simp only at SF dr JA Jt;have yZ:n'*sz≤cur.size:=by rw[dr];exact Nat.mul_le_mul_right sz JA
 have dc:=run_storeCells_at P g (i*sz+f) el us 0 cur w Jt (by omega) (Al ay);simp only[Nat.add_zero]at dc;refine⟨g,i*sz+f,_,rfl,dc,?_⟩;generalize w5:(cur.toList.take (i*sz+f)++us++cur.toList.drop (i*sz+f+us.length)).toArray=l9;obtain⟨v',cN,dq,iJ,uk⟩:=akl dI ag ay (f:=f) (by rw[eZ];exact RX) cF;have lu:=Gv nF bn cN (by rw[iJ,eZ]) uk;have hlen:fu.length=n'*sz:=bz.1;have aeB:l9.toList.take (n'*sz)=fu.take (i*sz)++v'.cells.toList++fu.drop (i*sz+sz):=by rw[←w5,dq,kK,←SF];exact akV cur.toList us (i*sz) f sz (n'*sz) RX hmul (by simpa using yZ)
 have adR:l9.size=cap*sz:=by rw[←w5,←dr];simp;omega
 have aoA:(xs.set i (my q f cs)).length=n':=by simp[c8]
 obtain⟨aiX,_,_⟩:=h.setRowM (w':=w.setRow g l9) ad rfl J (bl:=g) rfl (v':= .slice (some ⟨g,0,none⟩) n' cap) rfl (xs':=xs.set i (my q f cs)) (us:=fu.take (i*sz)++v'.cells.toList++fu.drop (i*sz+sz)) (.inl ⟨by simp[c8],rfl⟩) rfl rfl rfl (fun j af=>setRow_other w g j l9 af) (setRow_size w g l9)
  ⟨by rw[sS lu],.inr ⟨g,cap,l9,by simp[c8],Nat.zero_le _,setRow_heap w g cur l9 el _ Jt,by simpa[c8]using JA,adP,adR,by simpa[c8]using aeB⟩⟩ lu
 exact⟨_,by simpa[c8]using aiX⟩
theorem agf(z:Array Value)(n:Nat)(h:0<z.size):(madeCells z ((n+1)*z.size)).toList=z.toList++(madeCells z (n*z.size)).toList:=by
 apply List.ext_getElem?;intro j;rw[List.getElem?_append];have he:(n+1)*z.size=n*z.size+z.size:=by rw[pw,Nat.one_mul]
 simp only[madeCells,ta,Array.length_toList,Array.getElem?_map];by_cases af:j<z.size
 ·rw[if_pos af,Array.getElem?_range,if_pos (by omega)];simp[Nat.mod_eq_of_lt af,af]
 ·rw[if_neg af,Array.getElem?_range,Array.getElem?_range];by_cases ad:j<n*z.size+z.size
  ·rw[if_pos (by omega),if_pos (by omega)];simp only[nQ];rw[←Nat.mod_eq_sub_mod (by omega)]
  ·rw[if_neg (by omega),if_neg (by omega)]
theorem TY{w:World}{ν:bc}{p:ah}{z:Value}(aL:a7 w ν p z)(h:0<z.cells.size)(av:∀c∈z.cells.toList,c.oneCell'=true):∀n,dA w ν z.cells.size (qP n p) (madeCells z.cells (n*z.cells.size)).toList
 |0=>by simp[dA,madeCells]
 |n+1=>by rw[agf _ _ h];simp only[List.replicate_succ,dA];exact⟨z,_,rfl,⟨aL,rfl,av⟩,TY aL h av n⟩
theorem jE{P:cB}{bA:List (Nat×dC)}(aN:fM P bA=true){C:e8}{st st':bq}{a:Act}{w:World}{ν:bc}(aL:cO C st a w ν){i:ek}{o:Oper}(av:C2 C.N bA i o=true)
  {κ:aH} {n':Nat} {o₁:List aH} (tK:i.makes st=true→fresh st.n st.o κ) (dj:i.makes st=true→∀j,fresh n' o₁ j→fresh st.n st.o j∧j≠κ) {c:Prop} (he:eE κ n' o₁ st i=some (c,st')) (ay:c) {K:Act→World→Prop} {Q:Exit→Act→World→Prop} (c9:∀bm w' bk,cO C st' bm w' bk→K bm w'):o.wp P a w K Q:=by
 obtain⟨dst,op,type,pos,after,guard⟩:=o;unfold C2 at av;dsimp only at av;split at av
 ·rename_i d key t;simp only[cz,dL,fE]at av;obtain⟨rfl,U⟩:=av;simp only[eE]at he;cases he;obtain⟨g1,g2⟩:=aL.newBox (aL.new _ (tK rfl)) (dj rfl) (cs:=[.hdm 0 []]) (us:= #[]) 0 (by simp only[iZ];exact⟨by simp[cK],⟨rfl,by simp,by simp⟩⟩);refine l4 (v:= .map (some w.heap.size)) (w':=w.alloc (.map #[] 0)) ?_ (c9 _ _ _ (g1.put (d:=some d) (by simpa[jf]using U) (p:= .gmap κ) ?_))
  ·simp only[execOp,Instr.makeMap,Option.map_none,fC,run_newObj,fJ,gk];rfl
  ·simp[a7,bc.withBox]
 ·rename_i b9 x k v t gy gv ox;simp only[cz,dL]at av;obtain⟨⟨⟨⟨rfl,J⟩,U⟩,ao⟩,a8⟩:=av;have rx:=eh aL U;have uz:=eh aL ao;have x3:=eh aL a8;split at J
  ·rename_i sz kU mu o2 z aI;obtain⟨cG,hu,eX⟩:=iK aN aI;have sl:cG= .map mu o2:=by cases cG<;>simp[j0]at eX;obtain⟨rfl,rfl⟩:=eX;rfl
   subst sl;have lP:=Kh aN J;simp only[eE]at he;split at he
   ·rename_i m ab;rw[ab]at rx;simp only[a7]at rx;obtain⟨bl,cc,b4⟩:=rx;split at he
    ·rename_i cs dr;split at he
     ·rename_i cs' hm;cases he;obtain⟨ic,us,el,a6,bz,bU,cT,c8⟩:=aL.good.box m cs dr;rw[cc]at a6;cases a6;unfold ov at hm;split at hm
      ·rename_i clock borns kvs;split at hm
       ·cases hm
       rename_i vg;simp only[jD]at cT;simp only[iZ]at c8;have gU:=uB (P:=P) cT;have vb:=L2 (P:=P) (w:=w) lP false uz (by simpa using vg);have bC:bl<w.heap.size:=(Array.getElem?_eq_some_iff.1 cT).1;have dx:∀(o':Obj) (ca:Array Value) (eM:List ah),(Instr.mapUpdate t (a.eval gy) (a.eval gv) (a.eval ox)).run P w= .ok () {w with heap:=w.heap.setIfInBounds bl o'}→jD eM ca el=o'→iZ w ν eM ca.toList→some eM=some cs'→
         (⟨none,.mapUpdate t gy gv ox,type,pos,after,guard⟩:Oper).wp P a w K Q:=by
        intro o' ca eM h3 BR lu iE;cases iE;refine Dp (w':={w with heap:=w.heap.setIfInBounds bl o'}) ?_ (c9 _ _ _ (aL.setBox (w':={w with heap:=w.heap.setIfInBounds bl o'}) dr cc (us:=ca) (el:=el) rfl rfl rfl (fun j af=>?_) (by simp) ?_ lu).1)
        ·simp only[execOp,h3,fC,fJ,gk]
        ·exact Array.getElem?_setIfInBounds_ne (kR af)
        ·rw[BR];simp[bC]
       split at hm
       ·rename_i vD tP;obtain⟨j,u,ca,e,f1,f2,f3,f4,f5,f6,f7⟩:=Cv lP uz x3 borns kvs us.toList 0 _ c8.1 c8.2.len tP;refine dx (.map (fx borns ca).toArray clock) ca.toArray (.hdm clock borns::vD) ?_ (by simp[jD]) (by simp only[iZ];exact⟨by simpa using f2,⟨by rw[f3];exact c8.2.len,c8.2.inc,c8.2.lt⟩⟩) hm;have JS:(Instr.keyThatStays (((fx borns us.toList).toArray[j]?.map (·.key)).getD (a.eval gv)) (a.eval gv)).run P w= .ok (a.eval gv) w:=by
         have:((fx borns us.toList).toArray[j]?.map (·.key)).getD (a.eval gv)=e.key:=by simp[f4]
         rw[this];simp[Instr.keyThatStays,f6]
        simp only[Nat.zero_add]at f1;simp only[Instr.mapUpdate,fC,run_underlying hu,fJ,b4,gU,vb,f1.run lP,gk,JS,C1 cT];rw[f7];simp
       ·rename_i tP;have f1:=Cv lP uz x3 borns kvs us.toList 0 _ c8.1 c8.2.len tP;simp only at f1;have rp:us.toList.length=2*borns.length:=by rw[Gy c8.1,c8.2.len]
        refine dx (.map ((fx borns us.toList).toArray.push ⟨a.eval gv,a.eval ox,clock⟩) (clock+1)) (us.toList++[a.eval gv,a.eval ox]).toArray (.hdm (clock+1) (borns++[clock])::(kvs++[cm st.t k,cm st.t v])) ?_ (by simp only[jD,Ip borns us.toList clock _ _ rp];simp) ?_ hm
        ·simp only[Instr.mapUpdate,fC,run_underlying hu,fJ,b4,gU,vb,f1.run lP,gk,C1 cT]
        ·simp only[iZ];refine⟨LX c8.1 (by simp only[cK];exact⟨_,_,rfl,uz,_,_,rfl,x3,rfl⟩),⟨by simp[c8.2.len];omega,?_,?_⟩⟩
         ·rw[List.pairwise_append];exact⟨c8.2.inc,by simp,fun x ab y aG=>by simp at aG;subst aG;exact c8.2.lt x ab⟩
         ·intro b ae;rcases jU.1 ae with ae|ae
          ·have:=c8.2.lt b ae;omega
          ·simp at ae;omega
       ·cases hm
      ·cases hm
     ·cases he
    ·cases he
   ·cases he
  ·cases J
 ·rename_i b9 x k v t gy gv ox;simp only[cz,dL]at av;obtain⟨⟨⟨⟨rfl,J⟩,U⟩,ao⟩,a8⟩:=av;have rx:=eh aL U;have uz:=eh aL ao;have x3:=eh aL a8;split at J
  ·rename_i sz kU mu o2 z aI;obtain⟨cG,hu,eX⟩:=iK aN aI;have sl:cG= .map mu o2:=by cases cG<;>simp[j0]at eX;obtain⟨rfl,rfl⟩:=eX;rfl
   subst sl;have lP:=Kh aN J;simp only[eE]at he;split at he
   ·rename_i m ab;rw[ab]at rx;simp only[a7]at rx;obtain⟨bl,cc,b4⟩:=rx;split at he
    ·rename_i cs dr;split at he
     ·rename_i cs' hm;cases he;obtain⟨ic,us,el,a6,bz,bU,cT,c8⟩:=aL.good.box m cs dr;rw[cc]at a6;cases a6;unfold ov at hm;split at hm
      ·rename_i clock borns kvs;split at hm
       ·cases hm
       rename_i vg;simp only[jD]at cT;simp only[iZ]at c8;have gU:=uB (P:=P) cT;have vb:=L2 (P:=P) (w:=w) lP false uz (by simpa using vg);have bC:bl<w.heap.size:=(Array.getElem?_eq_some_iff.1 cT).1;have dx:∀(o':Obj) (ca:Array Value) (eM:List ah),(Instr.mapUpdate t (a.eval gy) (a.eval gv) (a.eval ox)).run P w= .ok () {w with heap:=w.heap.setIfInBounds bl o'}→jD eM ca el=o'→iZ w ν eM ca.toList→some eM=some cs'→
         (⟨none,.mapUpdate t gy gv ox,type,pos,after,guard⟩:Oper).wp P a w K Q:=by
        intro o' ca eM h3 BR lu iE;cases iE;refine Dp (w':={w with heap:=w.heap.setIfInBounds bl o'}) ?_ (c9 _ _ _ (aL.setBox (w':={w with heap:=w.heap.setIfInBounds bl o'}) dr cc (us:=ca) (el:=el) rfl rfl rfl (fun j af=>?_) (by simp) ?_ lu).1)
        ·simp only[execOp,h3,fC,fJ,gk]
        ·exact Array.getElem?_setIfInBounds_ne (kR af)
        ·rw[BR];simp[bC]
       split at hm
       ·rename_i vD tP;obtain⟨j,u,ca,e,f1,f2,f3,f4,f5,f6,f7⟩:=Cv lP uz x3 borns kvs us.toList 0 _ c8.1 c8.2.len tP;refine dx (.map (fx borns ca).toArray clock) ca.toArray (.hdm clock borns::vD) ?_ (by simp[jD]) (by simp only[iZ];exact⟨by simpa using f2,⟨by rw[f3];exact c8.2.len,c8.2.inc,c8.2.lt⟩⟩) hm;have JS:(Instr.keyThatStays (((fx borns us.toList).toArray[j]?.map (·.key)).getD (a.eval gv)) (a.eval gv)).run P w= .ok (a.eval gv) w:=by
         have:((fx borns us.toList).toArray[j]?.map (·.key)).getD (a.eval gv)=e.key:=by simp[f4]
         rw[this];simp[Instr.keyThatStays,f6]
        simp only[Nat.zero_add]at f1;simp only[Instr.mapUpdate,fC,run_underlying hu,fJ,b4,gU,vb,f1.run lP,gk,JS,C1 cT];rw[f7];simp
       ·rename_i tP;have f1:=Cv lP uz x3 borns kvs us.toList 0 _ c8.1 c8.2.len tP;simp only at f1;have rp:us.toList.length=2*borns.length:=by rw[Gy c8.1,c8.2.len]
        refine dx (.map ((fx borns us.toList).toArray.push ⟨a.eval gv,a.eval ox,clock⟩) (clock+1)) (us.toList++[a.eval gv,a.eval ox]).toArray (.hdm (clock+1) (borns++[clock])::(kvs++[cm st.t k,cm st.t v])) ?_ (by simp only[jD,Ip borns us.toList clock _ _ rp];simp) ?_ hm
        ·simp only[Instr.mapUpdate,fC,run_underlying hu,fJ,b4,gU,vb,f1.run lP,gk,C1 cT]
        ·simp only[iZ];refine⟨LX c8.1 (by simp only[cK];exact⟨_,_,rfl,uz,_,_,rfl,x3,rfl⟩),⟨by simp[c8.2.len];omega,?_,?_⟩⟩
         ·rw[List.pairwise_append];exact⟨c8.2.inc,by simp,fun x ab y aG=>by simp at aG;subst aG;exact c8.2.lt x ab⟩
         ·intro b ae;rcases jU.1 ae with ae|ae
          ·have:=c8.2.lt b ae;omega
          ·simp at ae;omega
       ·cases hm
      ·cases hm
     ·cases he
    ·cases he
   ·cases he
  ·cases J
 ·rename_i d key x t gy;simp only[cz,dL,fE]at av;obtain⟨⟨⟨rfl,U⟩,J⟩,ao⟩:=av;have rx:=eh aL ao;split at J
  ·rename_i sz kU mu o2 z aI;obtain⟨cG,hu,eX⟩:=iK aN aI;have sl:cG= .map mu o2:=by cases cG<;>simp[j0]at eX;obtain⟨rfl,rfl⟩:=eX;rfl
   subst sl;simp only[eE]at he;split at he
   ·rename_i m ab;rw[ab]at rx;have akq:=rx;simp only[a7]at rx;obtain⟨bl,cc,b4⟩:=rx;split at he
    ·rename_i cs dr;split at he
     ·rename_i cs' hm;cases he;obtain⟨ic,us,el,a6,bz,bU,cT,c8⟩:=aL.good.box m cs dr;rw[cc]at a6;cases a6;unfold vV at hm;split at hm
      ·rename_i clock borns kvs;cases hm;simp only[jD]at cT;have gU:=uB (P:=P) cT;obtain⟨g1,g2⟩:=aL.newBox (aL.new _ (tK rfl)) (dj rfl) (cs:=[.hdi clock [] clock,.gmap m]) (us:= #[a.eval gy]) 0 (by simp only[iZ,cK];exact⟨_,_,rfl,akq,rfl⟩);have BR:jD [.hdi clock [] clock,.gmap m] #[a.eval gy] 0= .mapIter (some bl) clock #[] clock:=by simp[jD,b4]
       rw[BR]at g1 g2;refine l4 (v:= .pointer (some ⟨w.heap.size,0,none⟩)) (w':=w.alloc (.mapIter (some bl) clock #[] clock)) ?_ (c9 _ _ _ (g1.put (d:=some d) (by simpa[jf]using U) (p:= .ptr κ 0) g2))
       ·simp only[execOp];refine Dj ?_;simp only[Instr.range,fC,run_underlying hu,fJ,b4,gU,gk,run_newObj];rfl
      ·cases hm
     ·cases he
    ·cases he
   ·cases he
  ·cases J
 ·rename_i d asf;simp only[cz,dL,fE]at av;obtain⟨⟨J,U⟩,ao⟩:=av;subst J;simp only[eE]at he;split at he
  ·rename_i cl p aK;cases he;obtain⟨v,g1,g2⟩:=alq (o:=⟨some d,op,type,pos,after,guard⟩) aN aL ao aK ay;refine l4 g1 (c9 _ _ ν ?_);exact aL.put (d:=some d) (by simpa[jf]using U) g2
  ·cases he
 ·rename_i d key x el o';simp only[cz,dL,fE]at av;obtain⟨⟨J,U⟩,ao⟩:=av;subst J;simp only[eE]at he;cases he;have ab:=eh aL ao;have lq:=uy ab ay;obtain⟨g1,g2⟩:=aL.newBox (aL.new _ (tK rfl)) (dj rfl) el (by rw[uo (Am lq)];exact lq);rw[um (Am lq)]at g1 g2;refine l4 (v:= .pointer (some ⟨w.heap.size,0,none⟩)) (w':=w.alloc (.cells (a.eval o').cells el)) ?_ (c9 _ _ _ (g1.put (d:=some d) (by simpa[jf]using U) (p:= .ptr κ 0) ?_))
  ·simp only[execOp,Instr.box,newVar,newRow,fC,run_newObj,fJ,gk];rfl
  ·simpa only[a7]using g2
 ·rename_i d key z el;simp only[cz,dL,fE]at av;obtain⟨⟨J,U⟩,ao⟩:=av;subst J;simp only[eE]at he;cases he;split at ao
  ·rename_i f aI;have br:=M7 ao;obtain⟨b5,kP,z2,z3⟩:=Mz aN aI w;rw[←br]at z2;obtain⟨_,lq⟩:=M6 w ν z2;obtain⟨g1,g2⟩:=aL.newBox (aL.new _ (tK rfl)) (dj rfl) el (by rw[uo (Am lq)];exact lq);rw[um (Am lq)]at g1 g2;refine l4 (v:= .pointer (some ⟨w.heap.size,0,none⟩)) (w':=w.alloc (.cells b5.cells el)) ?_ (c9 _ _ _ (g1.put (d:=some d) (by simpa[jf]using U) (p:= .ptr κ 0) ?_))
   ·simp only[execOp,Instr.alloc,newVar,newRow,fC,kP,run_newObj,fJ,gk];rfl
   ·simpa only[a7]using g2
  ·cases ao
 ·rename_i sz x y t o' iY;simp only[cz,dL]at av;obtain⟨⟨⟨J,U⟩,ao⟩,a8⟩:=av;subst J;split at U
  ·rename_i f aI;simp only[dL]at U;simp only[eE]at he;split at he
   ·rename_i k off ab;split at he
    ·rename_i cs dr;cases he;obtain⟨iC,bH,cj,da⟩:=ay;have rx:=eh aL ao;rw[ab]at rx;simp only[a7]at rx;obtain⟨bl,cc,b4⟩:=rx;have lF:=eh aL a8;have uw:=uy lF bH;have uA:=pk uw;obtain⟨ic,us,el,a6,bz,bU,cT,c8⟩:=aL.good.box k cs dr;rw[cc]at a6;cases a6;rw[um iC]at cT;rw[uo iC]at c8;have ax:=pk c8;obtain⟨_,ef⟩:=uG aN aI w;have tS:(a.eval iY).cells.size=sz:=by rw[cj]at uA;simpa using uA
     have dc:=run_storeCells_at (P:=P) bl off el (a.eval iY).cells.toList 0 us w cT (by simp at ax⊢;omega) (Al uw);simp only[Nat.add_zero]at dc;refine Dp (w':=w.setRow bl (us.toList.take off++(a.eval iY).cells.toList++us.toList.drop (off+(a.eval iY).cells.toList.length)).toArray) ?_ (c9 _ _ _ (aL.storeBox dr cc iC ?_))
     ·simp only[execOp,Instr.storeAt,b4,Instr.sureAddr,storeVar,fC,gk,fJ,ef,tS,U,ne_eq,not_true_eq_false,if_false,dc]
     ·simp only[nH];rw[uA];exact xX (xX (CW off c8) uw) (Ak _ c8)
    ·cases he
   ·rename_i ab;generalize JG:cm st.t x=px at he;unfold qK at he;split at he
    ·rename_i dF k n i se;split at he
     ·rename_i n' el jb xs ad;split at he
      ·rename_i BQ;obtain⟨rfl,rfl⟩:=BQ;split at he
       ·rename_i q bn;cases he;obtain⟨iC,bH,cj,da,ie⟩:=ay;have rx:=eh aL ao;rw[JG]at rx;have lF:=eh aL a8;have uw:=uy lF bH;have uA:=pk uw;obtain⟨_,ef⟩:=uG aN aI w;have tS:(a.eval iY).cells.size=sz:=by rw[cj]at uA;simpa using uA
        obtain⟨bl,off,l9,BU,dc,bk,og⟩:=aL.storeRow (P:=P) ad rx bn iC uw (by simpa[tS]using da) (fun e=>by have:=e7 List.length e;simp[tS]at this;omega);refine Dp (w':=w.setRow bl l9) ?_ (c9 _ _ _ og);simp only[execOp,Instr.storeAt,BU,Instr.sureAddr,storeVar,fC,gk,fJ,ef,tS,U,ne_eq,not_true_eq_false,if_false,dc]
       ·cases he
      ·cases he
     ·cases he
    ·cases he
  ·cases U
 ·rename_i d sz el xs t len parts;simp only[cz,dL,fE]at av;obtain⟨⟨⟨⟨⟨⟨J,U⟩,ao⟩,a8⟩,bZ⟩,c7⟩,ee⟩:=av;subst J;subst bZ;split at ao
  ·rename_i fP aI;simp only[dL]at ao;subst ao;split at a8
   ·rename_i g a1;simp only[cz,dL,fE]at a8;obtain⟨rfl,fp⟩:=a8;simp only[eE]at he;cases he;obtain⟨us,g1,g2,g3⟩:=Wd aN aL aI rfl a1 ee ay c7;have ls:(w.alloc (.cells us el)).ownsRow w.heap.size el g.size (.slice (some ⟨w.heap.size,0,none⟩) xs.length xs.length) (xs.map (cm st.t)).length us.toList:=by
     refine⟨by simp[g3],.inr ⟨w.heap.size,xs.length,us,by simp,eR _,heap_alloc_new w _,by simp,?_,g3,?_⟩⟩
     ·simp only[maxLen];have:xs.length≤xs.length*g.size:=Nat.le_mul_of_pos_right _ fp;omega
     ·rw[hn];simp[g3]
    obtain⟨dI,eZ⟩:=aL.newRow (k:=κ) (xs:=xs.map (cm st.t)) (.inl (aL.new _ (tK rfl))) (World.grownBy_alloc w _ none) ls g2
     (by have:xs.length≤xs.length*g.size:=Nat.le_mul_of_pos_right _ fp;simp only[lim,List.length_map];omega) (dj rfl)
    simp only[List.length_map]at dI eZ;refine l4 (v:= .slice (some ⟨w.heap.size,0,none⟩) xs.length xs.length) (w':=w.alloc (.cells us el)) ?_ (c9 _ _ _ (dI.put (d:=some d) (by simpa[jf]using U) (p:= .slice g.size (.own κ) (xs.map (cm st.t))) eZ));have bI:(parts.map fun(x:Nat×Operand)=>(x.1,a.eval x.2))=(parts.toList.map fun(x:Nat×Operand)=>(x.1,a.eval x.2)).toArray:=by apply Array.ext';simp
    simp only[execOp];refine Dj ?_;rw[←g1];congr 2
   ·cases a8
  ·cases ao
 ·rename_i d sz el x y o' iY t dJ;simp only[cz,dL,fE]at av;obtain⟨⟨⟨⟨⟨⟨J,U⟩,ao⟩,a8⟩,bZ⟩,c7⟩,ee⟩:=av;subst J;subst ao;split at a8
  ·rename_i fP aI;simp only[dL]at a8;subst a8;split at bZ
   ·rename_i g a1;simp only[cz,dL,fE]at bZ;obtain⟨⟨rfl,fp⟩,hby⟩:=bZ;have rx:=eh aL c7;have lF:=eh aL ee;have mh:∀v' w',(Builtin.append_ #[t,t] type #[a.eval o',a.eval iY]).run P w= .ok v' w'→(execOp a.eval ⟨some d,.call ⟨.builtin .append,⟨[o',iY]⟩,⟨[t,t]⟩⟩,type,pos,after,guard⟩).run P w= .ok (.value v') w':=by intro v' w' h3;simp only[execOp,resolve,invoke,builtin,fC,gk,fJ,List.map_toArray,gG,mC];rw[h3];rfl
    obtain⟨ft,b8,z,ak,aB,bf,dd,gS,hG,qT,qU⟩:=(uI aN a1).ex;obtain⟨eM,iE,eX⟩:=iK aN aI;obtain rfl:=r9 eX;simp only[eE]at he;split at he
    ·rename_i dF tag xs jb kM ys ab aG;split at he
     ·rename_i fb;obtain⟨rfl,fb⟩:=fb;subst fb;rw[ab]at rx;rw[aG]at lF;simp only[a7]at rx lF;obtain⟨⟨tp,oX,rT,cx1,⟨Qd,Qe⟩,cx4⟩,rxn,rxo,rxt⟩:=rx;obtain⟨⟨nq,lg,vy,cy1,⟨Qf,Qg⟩,cy4⟩,_⟩:=lF;split at he
      ·rename_i k;split at he
       ·rename_i ow ad;cases he;obtain⟨bH,cj,da,ie⟩:=ay;subst cj;obtain⟨n0,wh,dI,eZ,kK⟩:=rxo k rfl;obtain⟨v0,fu,a6,bz,bU,_⟩:=aL.good.own k ow ad;rw[dI]at a6;simp only[dG,jm]at a6;obtain⟨rfl,rfl⟩:=a6;have lX:a.eval o'=wh:=kK bH.symm;by_cases iT:ys=[]
        ·subst iT;rw[vy,rT]at mh;have h3:=GG (P:=P) (w:=w) (ty:=type) iE ak tp xs.length oX cx1 nq lg;refine l4 (mh _ _ (by simpa using h3)) (c9 _ _ ν ?_);have dc:{st with t:=put d (.slice ow.sz (.own k) (xs++[])) st.t,e:=cw k ⟨xs.length+([]:List ah).length,ow.el,ow.sz,none⟩ st.e}=({st with e:=cw k ⟨ow.n,ow.el,ow.sz,none⟩ st.e,t:=put d (.slice ow.sz (.own k) xs) st.t}:bq):=by simp[bH]
         rw[←da,dc];have mj:=aL.forgetRow ad;refine mj.put (d:=some d) (by simpa[jf]using U) (p:= .slice ow.sz (.own k) xs) ?_;simp only[a7];rw[←da]at cx4;exact⟨⟨tp,oX,rfl,cx1,⟨Qd,Qe⟩,cx4⟩,fun e=>(by cases e),(fun g e=>by cases e;exact⟨_,_,dI,eZ,fun e=>by rw[←rT];exact kK e⟩),fun _ _ e=>(by cases e),fun _ e=>(by cases e)⟩
        ·have hyp:0<ys.length:=by cases ys<;>simp at iT⊢
         rcases cy4 with cy4|⟨kU,nf,gZ,rfl,xE,ma⟩
         ·exact absurd cy4 iT
         ·have jw:=sS ma;have rj:∀j u,gZ[j]? =some u→w.cell? ((⟨kU,nf,none⟩:Addr).add j)=some u:=fun j u af=>by rw[oT];exact(ub xE af).2
          have q9:(xs.length+ys.length)*ft.bytes≤140737488355328:=by
           have ll:ft.bytes≤2048:=by rw[dd];exact hby
           have o7:(xs.length+ys.length)*ft.bytes≤(xs.length+ys.length)*2048:=Nat.mul_le_mul_left _ ll;simp only[lim]at ie;omega
          have mi:xs.length+ys.length≤maxLen:=by simp only[lim]at ie;simp only[maxLen];omega
          rw[vy]at mh;have vq:fu.length=ow.n*ow.sz:=bz.1;have vt:z.cells.size=ft.size:=by rw[qU,bf]
          have BH:(∀cur,eo→cur=(0:Nat))→(∃v' w',(Builtin.append_ #[t,t] type #[a.eval o',.slice (some ⟨kU,nf,none⟩) ys.length lg]).run P w= .ok v' w'∧w'.ownsRow w.heap.size ow.el ft.size v' (xs.length+ys.length) (fu++gZ)∧w.grownBy w' none∧dA w ν ft.size xs fu)→
            (⟨some d,.call ⟨.builtin .append,⟨[o',iY]⟩,⟨[t,t]⟩⟩,type,pos,after,guard⟩:Oper).wp P a w K Q:=by
           intro _ cM;obtain⟨v',w',f1,f2,f3,f4⟩:=cM;have EH:dA w ν ft.size (xs++ys) (fu++gZ):=CU f4 (by rw[bf];exact ma);obtain⟨cN,dq⟩:=aL.newRow (k:=k) (xs:=xs++ys) (.inr ⟨ow,ad,by rw[bH];simp;omega⟩) f3 (by simpa using f2) EH (by simpa using ie) (n':=st.n) (o':=st.o)
            (fun j af=>⟨af,fun e=>by subst e;have:=(aL.new _ af).2.1;rw[dI]at this;cases this⟩)
           refine l4 (mh _ _ f1) (c9 _ _ ((ν.withOwn k (xs++ys).length v').withRowOf k v' (xs++ys).length ((xs++ys).length*ft.size)) ?_);have:=cN.put (d:=some d) (by simpa[jf]using U) dq;simpa[bf,eQ]using this
          rcases bz.2 with⟨ng,xS⟩|⟨bl,cap,cur,ng,xS,z7,Lk,Ll,Lm,F5⟩
          ·
           have zr:xs=[]:=List.eq_nil_of_length_eq_zero (by omega);have JV:fu=[]:=List.eq_nil_of_length_eq_zero (by rw[vq,xS];simp);subst zr;subst JV;refine BH (fun _ h=>h.elim) ?_;obtain⟨v',w',f1,f2,f3,_⟩:=run_append_own (P:=P) w w.heap.size t type ow.el ft z ft.size ft.bytes iE ak hG rfl rfl vt (by rw[bf];exact fp) (.slice none 0 0) 0 [] (World.ownsRow_nil w _ _ _)
            ⟨kU,nf,none⟩ ys.length lg gZ (by rw[jw,bf]) rj (xW ma) (by simpa using mi) (by simpa using q9) (eR _)
           refine⟨v',w',by rw[lX,ng];exact f1,by simpa using f2,by simpa[nO]using f3,by simp[dA]⟩
          ·have aeo:lA w ν.A bl 0 fu∧dA w ν ft.size xs fu∧True:=by
            rw[lX,ng]at rT;rcases cx4 with cx4|⟨bb,aqj,MF,f1,f2,f3⟩
            ·subst cx4;have:fu=[]:=List.eq_nil_of_length_eq_zero (by rw[vq,bH];simp);subst this;exact⟨trivial,by simp[dA],trivial⟩
            ·subst f1;injection rT with vx1 vx2 vx3;injection vx1 with vx1;injection vx1 with vx1 vx4;subst vx1;subst vx4;have heq:MF=fu:=by
              apply List.ext_getElem?;intro j;have rp:MF.length=fu.length:=by rw[sS f3,vq,bH,da]
              by_cases af:j<MF.length
              ·have J:=(ub f2 (cf af)).2;rw[Nat.zero_add]at J;have U:=bz.cells (g:=bl) (by rw[ng];rfl) j fu[j] (cf (by omega));rw[oT,Nat.zero_add,J]at U;rw[cf af,cf (by omega)];exact U
              ·rw[p7 (by omega),p7 (by omega)]
             subst heq;exact⟨f2,by rw[bf];exact f3,trivial⟩
           obtain⟨xe,oc,_⟩:=aeo;by_cases rl:xs.length+ys.length≤cap
           ·have aov:cur.size=cap*ow.sz:=Lm;have hmul:(xs.length+ys.length)*ow.sz≤cap*ow.sz:=Nat.mul_le_mul_right _ rl;rw[pw]at hmul;have f1:=run_append_room (P:=P) w t type ow.el ft iE ak bl xs.length cap cur z7 ⟨kU,nf,none⟩ ys.length lg gZ (by rw[jw,bf]) rj (xW ma) rl (by rw[jw,bf,←da];omega);obtain⟨cN,dq⟩:=aL.inPlace ad (bl:=bl) (cap:=cap) (cur:=cur) (by rw[dI,←ng]) z7 Ll Lm (xs:=xs) (ys:=ys) (us:=fu) (ns:=gZ) bH.symm F5 (by rw[da,←bf];exact oc) (by rw[da];exact ma) hyp (by rw[bH];exact rl) ie;refine l4 (v:= .slice (some ⟨bl,0,none⟩) (ow.n+ys.length) cap) (w':=w.setRow bl (fu++gZ++cur.toList.drop (ow.n*ow.sz+gZ.length)).toArray) (mh _ _ ?_)
             (c9 _ _ (ν.withRowOf k (.slice (some ⟨bl,0,none⟩) (ow.n+ys.length) cap) (ow.n+ys.length) ((ow.n+ys.length)*ow.sz)) ?_)
            ·rw[lX,ng,bH,f1,←F5,bH,da,bf]
            ·have:=cN.put (d:=some d) (by simpa[jf]using U) dq;simpa[bH,da,eQ]using this
           ·refine BH (fun _ h=>h.elim) ?_;obtain⟨v',w',f1,f2,f3⟩:=run_append_arg_grows (P:=P) w t type ow.el ft z ft.size ft.bytes iE ak hG rfl rfl vt (by rw[bf];exact fp) ⟨bl,0,none⟩ xs.length cap fu (by rw[vq,bH,da,bf])
             (fun j u af=>by rw[oT];exact(ub xe af).2) ⟨kU,nf,none⟩ ys.length lg gZ (by rw[jw,bf]) rj (by omega) mi q9
            exact⟨v',w',by rw[lX,ng,bH];exact f1,f2,f3,oc⟩
       ·cases he
      ·cases he;have ET:=rxn rfl;have zr:xs=[]:=by rw[ET]at rT;injection rT with _ aB;exact List.eq_nil_of_length_eq_zero aB.symm
       subst zr;have xj:(ek.app d g.size el x y).makes st=true:=by simp only[ek.makes,ab]
       have vt:z.cells.size=ft.size:=by rw[qU,bf]
       rw[vy,ET]at mh;have dx:∀(v':Value) (w':World) (gZ:List Value),(Builtin.append_ #[t,t] type #[.slice none 0 0,.slice nq ys.length lg]).run P w= .ok v' w'→w'.ownsRow w.heap.size el g.size v' ys.length gZ→w.grownBy w' none→dA w ν g.size ys gZ→
         (⟨some d,.call ⟨.builtin .append,⟨[o',iY]⟩,⟨[t,t]⟩⟩,type,pos,after,guard⟩:Oper).wp P a w K Q:=by
        intro v' w' gZ f1 f2 f3 f4;obtain⟨cN,dq⟩:=aL.newRow (k:=κ) (xs:=ys) (.inl (aL.new _ (tK xj))) f3 f2 f4 ay (dj xj);exact l4 (mh _ _ f1) (c9 _ _ _ (cN.put (d:=some d) (by simpa[jf]using U) dq))
       by_cases iT:ys=[]
       ·subst iT;exact dx _ w [] (GG iE ak none 0 0 (eR _) nq lg) (World.ownsRow_nil w _ _ _) (am2 w _) (by simp[dA])
       ·rcases cy4 with cy4|⟨kU,nf,gZ,rfl,xE,ma⟩
        ·exact absurd cy4 iT
        ·have jw:=sS ma;have rj:∀j u,gZ[j]? =some u→w.cell? ((⟨kU,nf,none⟩:Addr).add j)=some u:=fun j u af=>by rw[oT];exact(ub xE af).2
         have q9:ys.length*ft.bytes≤140737488355328:=by
          have J:ft.bytes≤2048:=by rw[dd];exact hby
          have U:ys.length*ft.bytes≤ys.length*2048:=Nat.mul_le_mul_left _ J;simp only[lim]at ay;omega
         have mi:ys.length≤maxLen:=by simp only[lim]at ay;simp only[maxLen];omega
         obtain⟨v',w',f1,f2,f3,_⟩:=run_append_own (P:=P) w w.heap.size t type el ft z ft.size ft.bytes iE ak hG rfl rfl vt (by rw[bf];exact fp) (.slice none 0 0) 0 [] (World.ownsRow_nil w _ _ _)
          ⟨kU,nf,none⟩ ys.length lg gZ (by rw[jw,bf]) rj (xW ma) (by simpa using mi) (by simpa using q9) (eR _)
         exact dx v' w' gZ f1 (by rw[←bf];simpa using f2) (by simpa[nO]using f3) ma
      ·cases he
     ·cases he
    ·cases he
   ·cases bZ
  ·cases a8
 ·rename_i d key sz el xs t len parts;simp only[cz,dL,fE]at av;obtain⟨⟨⟨⟨⟨⟨J,U⟩,ao⟩,a8⟩,bZ⟩,c7⟩,ee⟩:=av;subst J;subst bZ;split at ao
  ·rename_i fP aI;simp only[dL]at ao;subst ao;split at a8
   ·rename_i g a1;simp only[cz,dL,fE]at a8;obtain⟨rfl,fp⟩:=a8;simp only[eE]at he;cases he;obtain⟨us,g1,g2,g3⟩:=Wd aN aL aI rfl a1 ee ay c7;have ls:(w.alloc (.cells us el)).ownsRow w.heap.size el g.size (.slice (some ⟨w.heap.size,0,none⟩) xs.length xs.length) (xs.map (cm st.t)).length us.toList:=by
     refine⟨by simp[g3],.inr ⟨w.heap.size,xs.length,us,by simp,eR _,heap_alloc_new w _,by simp,?_,g3,?_⟩⟩
     ·simp only[maxLen];have:xs.length≤xs.length*g.size:=Nat.le_mul_of_pos_right _ fp;omega
     ·rw[hn];simp[g3]
    obtain⟨dI,eZ⟩:=aL.newRowM (k:=κ) (xs:=xs.map (cm st.t)) (.inl (aL.new _ (tK rfl))) (World.grownBy_alloc w _ none) ls g2
     (by have:xs.length≤xs.length*g.size:=Nat.le_mul_of_pos_right _ fp;simp only[lim,List.length_map];omega) (dj rfl)
    simp only[List.length_map]at dI eZ;refine l4 (v:= .slice (some ⟨w.heap.size,0,none⟩) xs.length xs.length) (w':=w.alloc (.cells us el)) ?_ (c9 _ _ _ (dI.put (d:=some d) (by simpa[jf]using U) (p:= .row g.size κ xs.length) (eZ ⟨_,_,rfl⟩)));have bI:(parts.map fun(x:Nat×Operand)=>(x.1,a.eval x.2))=(parts.toList.map fun(x:Nat×Operand)=>(x.1,a.eval x.2)).toArray:=by apply Array.ext';simp
    simp only[execOp];refine Dj ?_;rw[←g1];congr 2
   ·cases a8
  ·cases ao
 ·rename_i d key sz el x y o' iY t dJ;simp only[cz,dL,fE]at av;obtain⟨⟨⟨⟨⟨⟨J,U⟩,ao⟩,a8⟩,bZ⟩,c7⟩,ee⟩:=av;subst J;subst ao;split at a8
  ·rename_i fP aI;simp only[dL]at a8;subst a8;split at bZ
   ·rename_i g a1;simp only[cz,dL,fE]at bZ;obtain⟨⟨rfl,fp⟩,hby⟩:=bZ;have rx:=eh aL c7;have lF:=eh aL ee;have mh:∀v' w',(Builtin.append_ #[t,t] type #[a.eval o',a.eval iY]).run P w= .ok v' w'→(execOp a.eval ⟨some d,.call ⟨.builtin .append,⟨[o',iY]⟩,⟨[t,t]⟩⟩,type,pos,after,guard⟩).run P w= .ok (.value v') w':=by intro v' w' h3;simp only[execOp,resolve,invoke,builtin,fC,gk,fJ,List.map_toArray,gG,mC];rw[h3];rfl
    obtain⟨ft,b8,z,ak,aB,bf,dd,gS,hG,qT,qU⟩:=(uI aN a1).ex;obtain⟨eM,iE,eX⟩:=iK aN aI;obtain rfl:=r9 eX;have vt:z.cells.size=ft.size:=by rw[qU,bf]
    simp only[eE]at he;split at he
    ·
     rename_i ys aK;cases he;unfold r7 at aK;split at aK
     ·rename_i dF xs jb kM amT ab aG;split at aK
      ·rename_i fb;obtain⟨rfl,fb⟩:=fb;subst fb;cases aK;rw[ab]at rx;rw[aG]at lF;simp only[a7]at rx lF;obtain⟨⟨tp,oX,rT,cx1,⟨Qd,Qe⟩,cx4⟩,rxn,rxo,rxt⟩:=rx;obtain⟨⟨nq,lg,vy,cy1,⟨Qf,Qg⟩,cy4⟩,_⟩:=lF;have ET:=rxn trivial;have xj:(ek.appm d key g.size el x y).makes st=true:=by simp only[ek.makes,ab]
       rw[vy,ET]at mh;have dx:∀(v':Value) (w':World) (gZ:List Value),(Builtin.append_ #[t,t] type #[.slice none 0 0,.slice nq ys.length lg]).run P w= .ok v' w'→w'.ownsRow w.heap.size el g.size v' ys.length gZ→w.grownBy w' none→dA w ν g.size ys gZ→
         (⟨some d,.call ⟨.builtin .append,⟨[o',iY]⟩,⟨[t,t]⟩⟩,type,pos,after,guard⟩:Oper).wp P a w K Q:=by
        intro v' w' gZ f1 f2 f3 f4;obtain⟨cN,dq⟩:=aL.newRowM (k:=κ) (xs:=ys) (.inl (aL.new _ (tK xj))) f3 f2 f4 ay.1 (dj xj);exact l4 (mh _ _ f1) (c9 _ _ _ (cN.put (d:=some d) (by simpa[jf]using U) (dq (UR f2 (by cases ys<;>simp at ay⊢)))))
       by_cases iT:ys=[]
       ·subst iT;exact dx _ w [] (GG iE ak none 0 0 (eR _) nq lg) (World.ownsRow_nil w _ _ _) (am2 w _) (by simp[dA])
       ·rcases cy4 with cy4|⟨kU,nf,gZ,rfl,xE,ma⟩
        ·exact absurd cy4 iT
        ·have jw:=sS ma;have rj:∀j u,gZ[j]? =some u→w.cell? ((⟨kU,nf,none⟩:Addr).add j)=some u:=fun j u af=>by rw[oT];exact(ub xE af).2
         have q9:ys.length*ft.bytes≤140737488355328:=by
          have J:ft.bytes≤2048:=by rw[dd];exact hby
          have U:ys.length*ft.bytes≤ys.length*2048:=Nat.mul_le_mul_left _ J;simp only[lim]at ay;omega
         have mi:ys.length≤maxLen:=by simp only[lim]at ay;simp only[maxLen];omega
         obtain⟨v',w',f1,f2,f3,_⟩:=run_append_own (P:=P) w w.heap.size t type el ft z ft.size ft.bytes iE ak hG rfl rfl vt (by rw[bf];exact fp) (.slice none 0 0) 0 [] (World.ownsRow_nil w _ _ _)
          ⟨kU,nf,none⟩ ys.length lg gZ (by rw[jw,bf]) rj (xW ma) (by simpa using mi) (by simpa using q9) (eR _)
         exact dx v' w' gZ f1 (by rw[←bf];simpa using f2) (by simpa[nO]using f3) ma
      ·cases aK
     ·split at aK
      ·split at aK
       ·split at aK<;>cases aK
       ·cases aK
      ·cases aK
     ·cases aK
    ·
     rename_i k xs ys aK;cases he;unfold r7 at aK;split at aK
     ·split at aK<;>cases aK
     ·rename_i dF bL n jb kM amT ab aG;split at aK
      ·rename_i fb;obtain⟨rfl,fb⟩:=fb;subst fb;split at aK
       ·rename_i n' fP wa xs' ad;split at aK
        ·rename_i ra;obtain⟨rfl,rfl,rfl⟩:=ra;cases aK;rw[ab]at rx;rw[aG]at lF;simp only[a7]at rx lF;obtain⟨⟨bx,oX,rT⟩,rxl,n0,wh,dI,eZ,kK⟩:=rx;obtain⟨⟨nq,lg,vy,cy1,⟨Qf,Qg⟩,cy4⟩,_⟩:=lF;obtain⟨v0,fu,a6,bz,bU,cT⟩:=aL.good.own k _ ad;rw[dI]at a6;simp only[dG,jm]at a6 bz;obtain⟨rfl,rfl⟩:=a6;have lX:a.eval o'=wh:=kK rfl;obtain⟨c8,nF,uq⟩:=cT xs rfl;simp only at c8 nF;have vq:fu.length=xs.length*g.size:=by rw[c8];exact bz.1
         have j3:xs.length=n0:=c8;by_cases iT:ys=[]
         ·subst iT;rw[vy,rT]at mh;have lq:n0≤oX:=by
           rcases bz.2 with⟨ng,xS⟩|⟨bl,cap,cur,ng,xS,z7,Lk,_⟩
           ·rw[xS];exact Nat.zero_le _
           ·rw[←lX,rT]at ng;injection ng with _ _ e;rw[e];exact Lk
          have h3:=GG (P:=P) (w:=w) (ty:=type) iE ak (some ⟨bx,0,none⟩) n0 oX lq nq lg;refine l4 (mh _ _ (by simpa using h3)) (c9 _ _ ν ?_);have hx:∀e3,look e3 (cw k ⟨n0,fP,g.size,some xs⟩ st.e)=look e3 st.e:=fun e3=>by
           rw[iI];split
           ·rename_i e;subst e;rw[ad]
           ·rfl
          have mj:cO C {st with e:=cw k ⟨n0,fP,g.size,some xs⟩ st.e} a w ν:=
           ⟨⟨aL.good.alt,aL.good.box,aL.good.inj,fun g o a1=>aL.good.own g o (by rw[←hx g];exact a1),fun g e3 n n' v v' bl bD a2=>aL.good.oinj g e3 n n' v v' bl (by rw[←hx g];exact bD) (by rw[←hx e3];exact a2),
           fun g j n v bl bD=>aL.good.obx g j n v bl (by rw[←hx g];exact bD),aL.good.one,fun bl ae=>aL.good.otr bl (ae.imp id (fun⟨g,n,v,bD,a2⟩=>⟨g,n,v,by rw[←hx g];exact bD,a2⟩))⟩,aL.fr,aL.defers,aL.size,aL.slot,aL.new⟩
          have ao:=mj.put (d:=some d) (by simpa[jf]using U) (p:= .row g.size k n0) (v:= .slice (some ⟨bx,0,none⟩) n0 oX) (by simp only[a7];exact⟨⟨_,_,rfl⟩,rxl,_,_,dI,eR _,fun _=>by rw[←rT];exact lX⟩)
          simpa[j3,eQ]using ao
         ·have hyp:0<ys.length:=by cases ys<;>simp at iT⊢
          rcases cy4 with cy4|⟨kU,nf,gZ,rfl,xE,ma⟩
          ·exact absurd cy4 iT
          ·have jw:=sS ma;have rj:∀j u,gZ[j]? =some u→w.cell? ((⟨kU,nf,none⟩:Addr).add j)=some u:=fun j u af=>by rw[oT];exact(ub xE af).2
           have q9:(xs.length+ys.length)*ft.bytes≤140737488355328:=by
            have ll:ft.bytes≤2048:=by rw[dd];exact hby
            have o7:(xs.length+ys.length)*ft.bytes≤(xs.length+ys.length)*2048:=Nat.mul_le_mul_left _ ll;simp only[lim]at ay;omega
           have mi:xs.length+ys.length≤maxLen:=by simp only[lim]at ay;simp only[maxLen];omega
           have EH:dA w ν g.size (xs++ys) (fu++gZ):=CU nF ma;rw[vy,lX]at mh;have BH:(∃v' w',(Builtin.append_ #[t,t] type #[wh,.slice (some ⟨kU,nf,none⟩) ys.length lg]).run P w= .ok v' w'∧w'.ownsRow w.heap.size fP ft.size v' (xs.length+ys.length) (fu++gZ)∧w.grownBy w' none)→
             (⟨some d,.call ⟨.builtin .append,⟨[o',iY]⟩,⟨[t,t]⟩⟩,type,pos,after,guard⟩:Oper).wp P a w K Q:=by
            intro cM;obtain⟨v',w',f1,f2,f3⟩:=cM;obtain⟨cN,dq⟩:=aL.newRowM (k:=k) (xs:=xs++ys) (el:=fP) (sz:=g.size) (.inr ⟨_,ad,by simp;omega⟩) f3 (by rw[←bf];simpa using f2) EH (by simpa using ay) (n':=st.n) (o':=st.o)
             (fun j af=>⟨af,fun e=>by subst e;have:=(aL.new _ af).2.1;rw[dI]at this;cases this⟩)
            refine l4 (mh _ _ f1) (c9 _ _ (ν.withOwn k (xs++ys).length v') ?_);have:=cN.put (d:=some d) (by simpa[jf]using U) (dq (by simpa using UR f2 (by omega)));simpa[eQ]using this
           rcases bz.2 with⟨ng,xS⟩|⟨bl,cap,cur,ng,xS,z7,Lk,Ll,Lm,F5⟩
           ·
            have zr:xs=[]:=List.eq_nil_of_length_eq_zero (by omega);have JV:fu=[]:=List.eq_nil_of_length_eq_zero (by rw[vq,zr];simp);subst zr;subst JV;refine BH ?_;obtain⟨v',w',f1,f2,f3,_⟩:=run_append_own (P:=P) w w.heap.size t type fP ft z ft.size ft.bytes iE ak hG rfl rfl vt (by rw[bf];exact fp) (.slice none 0 0) 0 [] (World.ownsRow_nil w _ _ _)
             ⟨kU,nf,none⟩ ys.length lg gZ (by rw[jw,bf]) rj (xW ma) (by simpa using mi) (by simpa using q9) (eR _)
            exact⟨v',w',by rw[ng];exact f1,by simpa using f2,by simpa[nO]using f3⟩
           ·have oi:wh.ownBlock=some bl:=by rw[ng];rfl
            by_cases rl:xs.length+ys.length≤cap
            ·have hmul:(xs.length+ys.length)*g.size≤cap*g.size:=Nat.mul_le_mul_right _ rl;rw[pw]at hmul;have f1:=run_append_room (P:=P) w t type fP ft iE ak bl xs.length cap cur z7 ⟨kU,nf,none⟩ ys.length lg gZ (by rw[jw,bf]) rj (xW ma) rl (by rw[jw,bf];omega);generalize SH:(cur.toList.take (xs.length*ft.size)++gZ++cur.toList.drop (xs.length*ft.size+gZ.length)).toArray=sM at f1;have kl:(w.setRow bl sM).heap[bl]? =some (.cells sM fP (0,0)):=setRow_heap w bl cur sM fP _ z7;have au:(fu++gZ).length=(xs++ys).length*g.size:=by rw[pq,vq,jw,pq,pw]
             have bZ:cur.toList.take (xs.length*ft.size)=fu:=by rw[j3,bf];exact F5
             have kn:sM.size=cap*g.size:=by rw[←SH];simp only[List.size_toArray,pq,List.length_take,r1,Array.length_toList];rw[bf];omega
             have o9:sM.toList.take ((xs++ys).length*g.size)=fu++gZ:=by rw[←SH,bZ];simp only[←au];rw[List.take_append_of_le_length (eR _),nP]
             obtain⟨cN,_,dq⟩:=aL.setRowM (w':=w.setRow bl sM) ad rfl dI oi (v':= .slice (some ⟨bl,0,none⟩) (xs.length+ys.length) cap) rfl (xs':=xs++ys) (us:=fu++gZ) (.inr (by simp;omega)) rfl rfl rfl (fun j af=>setRow_other w bl j sM af) (setRow_size w bl sM)
              ⟨au,.inr ⟨bl,cap,sM,by simp,Nat.zero_le _,kl,by simpa using rl,Ll,kn,o9⟩⟩ EH
             replace dq:=dq (by simpa using ay);refine l4 (v:= .slice (some ⟨bl,0,none⟩) (xs.length+ys.length) cap) (w':=w.setRow bl sM) (mh _ _ ?_) (c9 _ _ (ν.withOwn k (xs++ys).length (.slice (some ⟨bl,0,none⟩) (xs.length+ys.length) cap)) ?_)
             ·rw[ng,←j3];exact f1
             ·have:=cN.put (d:=some d) (by simpa[jf]using U) dq;simpa[eQ]using this
            ·refine BH ?_;obtain⟨v',w',f1,f2,f3⟩:=run_append_arg_grows (P:=P) w t type fP ft z ft.size ft.bytes iE ak hG rfl rfl vt (by rw[bf];exact fp) ⟨bl,0,none⟩ xs.length cap fu (by rw[vq,bf])
              (fun j u af=>by have:=bz.cells oi j u af;exact this) ⟨kU,nf,none⟩ ys.length lg gZ (by rw[jw,bf]) rj (by omega) mi q9
             exact⟨v',w',by rw[ng,←j3];exact f1,f2,f3⟩
        ·cases aK
       ·cases aK
      ·cases aK
     ·cases aK
    ·cases he
   ·cases bZ
  ·cases a8
 ·rename_i sz x y t o' iY;simp only[cz,dL]at av;obtain⟨⟨⟨J,U⟩,ao⟩,a8⟩:=av;subst J;split at U
  ·rename_i f aI;simp only[dL]at U;simp only[eE]at he;generalize JG:cm st.t x=px at he;unfold qK at he;split at he
   ·rename_i dF k n i se;split at he
    ·rename_i n' el jb xs ad;split at he
     ·rename_i BQ;obtain⟨rfl,rfl⟩:=BQ;split at he
      ·rename_i q bn;cases he;obtain⟨iC,bH,cj,da,ie⟩:=ay;have rx:=eh aL ao;rw[JG]at rx;have lF:=eh aL a8;have uw:=uy lF bH;have uA:=pk uw;obtain⟨_,ef⟩:=uG aN aI w;have tS:(a.eval iY).cells.size=sz:=by rw[cj]at uA;simpa using uA
       obtain⟨bl,off,l9,BU,dc,bk,og⟩:=aL.storeRow (P:=P) ad rx bn iC uw (by simpa[tS]using da) (fun e=>by have:=e7 List.length e;simp[tS]at this;omega);refine Dp (w':=w.setRow bl l9) ?_ (c9 _ _ _ og);simp only[execOp,Instr.storeAt,BU,Instr.sureAddr,storeVar,fC,gk,fJ,ef,tS,U,ne_eq,not_true_eq_false,if_false,dc]
      ·cases he
     ·cases he
    ·cases he
   ·cases he
  ·cases U
 ·rename_i d key sz el z x t o' iY;simp only[cz,dL,fE]at av;obtain⟨⟨⟨⟨⟨J,U⟩,ao⟩,a8⟩,bZ⟩,c7⟩:=av;subst J;split at ao
  ·rename_i fP aI;simp only[dL]at ao;subst ao;split at a8
   ·rename_i g a1;simp only[cz,dL,fE]at a8;obtain⟨⟨⟨rfl,fp⟩,hby⟩,br⟩:=a8;obtain rfl:=M7 br;have rx:=eh aL bZ;have lF:=eh aL c7;simp only[eE]at he;split at he
    ·rename_i fj n ab;cases he;obtain⟨aex,jw⟩:=ay;obtain⟨m,rfl⟩:=Int.eq_ofNat_of_zero_le aex;rw[ab]at rx lF;simp only[a7]at rx lF;obtain⟨ft,b8,b5,ak,aB,bf,dd,gS,hG,qT,qU⟩:=(uI aN a1).ex;obtain⟨eM,iE,eX⟩:=iK aN aI;obtain rfl:=r9 eX;have mi:m≤lim:=by simp only[lim]at jw⊢;omega
     have q9:ft.bytes*m≤281474976710656:=by have J:ft.bytes*m≤2048*m:=Nat.mul_le_mul_right _ (by omega);simp only[lim]at mi;omega
     obtain⟨aeT,adS⟩:=M6 w ν qT;obtain⟨w',g1,g2,g3⟩:=run_make_full (P:=P) w w.heap.size t el ft b5 ft.size iE ak hG rfl fj fj m q9 (by simp only[maxLen];simp only[lim]at mi;omega) (eR _);have ls:w'.ownsRow w.heap.size el g.size (.slice (some ⟨w.heap.size,0,none⟩) m m) (qP m g.zero).length (madeCells b5.cells (m*b5.cells.size)).toList:=by rw[bf,←qU]at g2;rw[List.length_replicate,←qU];exact g2
     obtain⟨dI,eZ⟩:=aL.newRowM (k:=κ) (xs:=qP m g.zero) (.inl (aL.new _ (tK rfl))) g3 ls (by rw[←qU];exact TY aeT (by omega) (Al adS) m) (by simpa using mi) (dj rfl);simp only[List.length_replicate]at dI eZ;simp only[Int.toNat_natCast]at c9;refine l4 (v:= .slice (some ⟨w.heap.size,0,none⟩) m m) (w':=w') ?_ (c9 _ _ _ (dI.put (d:=some d) (by simpa[jf]using U) (p:= .row g.size κ m) (eZ ⟨_,_,rfl⟩)));simp only[execOp];refine Dj ?_;rw[rx,lF];exact g1
    ·cases he
   ·cases a8
  ·cases ao
 ·cases av
theorem aks{P:cB}{bA:List (Nat×dC)}(aN:fM P bA=true){C:e8}{st st':bq}{a:Act}{w:World}{ν:bc}(aL:cO C st a w ν){i:ek}{o:Oper}(av:C2 C.N bA i o=true)
  {c:Prop} (he:l1 st i=some (c,st')) (ay:c) {K:Act→World→Prop} {Q:Exit→Act→World→Prop} (c9:∀bm w' bk,cO C st' bm w' bk→K bm w'):o.wp P a w K Q:=by
 have od:pR st none→fresh st.n st.o (.loc st.n):=fun h=>vI (key:=none) h;have fo:∀j,fresh (st.n+1) st.o j→fresh st.n st.o j∧j≠ .loc st.n:=vJ (key:=none);cases i with
 |v d i=>exact jE (κ:= .loc 0) (n':=0) (o₁:=[]) aN aL av (fun h=>by simp[ek.makes]at h) (fun h=>by simp[ek.makes]at h) (by simpa only[l1,eE]using he) ay c9
 |box d key x=>simp only[l1]at he;cases he;exact jE (κ:=jC st key) (n':=nb st key) (o₁:=nc st key) aN aL av (fun _=>vI ay.1) (fun _=>vJ) (by simp only[eE]) ay.2 c9
 |alloc d key z=>simp only[l1]at he;cases he;exact jE (κ:=jC st key) (n':=nb st key) (o₁:=nc st key) aN aL av (fun _=>vI ay) (fun _=>vJ) (by simp only[eE]) trivial c9
 |mks d key sz el z x=>
  simp only[l1]at he;split at he
  ·rename_i fj n ab;cases he;exact jE (κ:=jC st key) (n':=nb st key) (o₁:=nc st key) aN aL av (fun _=>vI ay.1) (fun _=>vJ) (by simp only[eE,ab]) ay.2 c9
  ·cases he
 |storeE sz x y=>exact jE (κ:= .loc 0) (n':=0) (o₁:=[]) aN aL av (fun h=>by simp[ek.makes]at h) (fun h=>by simp[ek.makes]at h) (by simpa only[l1,eE]using he) ay c9
 |store sz x y=>exact jE (κ:= .loc 0) (n':=0) (o₁:=[]) aN aL av (fun h=>by simp[ek.makes]at h) (fun h=>by simp[ek.makes]at h) (by simpa only[l1,eE]using he) ay c9
 |bsl d sz el xs=>simp only[l1]at he;cases he;exact jE (κ:= .loc st.n) (n':=st.n+1) (o₁:=st.o) aN aL av (fun _=>od ay.1) (fun _=>fo) (by simp only[eE]) ay.2 c9
 |bslm d key sz el xs=>simp only[l1]at he;cases he;exact jE (κ:=jC st key) (n':=nb st key) (o₁:=nc st key) aN aL av (fun _=>vI ay.1) (fun _=>vJ) (by simp only[eE]) ay.2 c9
 |appm d key sz el x y=>
  simp only[l1]at he;split at he
  ·rename_i ys aK;cases he;exact jE (κ:=jC st key) (n':=nb st key) (o₁:=nc st key) aN aL av (fun _=>vI ay.1) (fun _=>vJ) (by simp only[eE,aK]) ay.2 c9
  ·rename_i k xs ys aK;cases he;refine jE (κ:= .loc 0) (n':=0) (o₁:=[]) aN aL av (fun h=>?_) (fun h=>?_) (by simp only[eE,aK]) ay c9;all_goals
    exfalso
    simp only[ek.makes]at h
    split at h
    ·rename_i ab
     unfold r7 at aK
     rw[ab]at aK
     split at aK
     ·split at aK<;>cases aK
     ·rename_i J _;cases J
     ·cases aK
    ·cases h
  ·cases he
 |mkmap d key=>simp only[l1]at he;cases he;exact jE (κ:=jC st key) (n':=nb st key) (o₁:=nc st key) aN aL av (fun _=>vI ay) (fun _=>vJ) (by simp only[eE]) trivial c9
 |mput b9 x k v=>exact jE (κ:= .loc 0) (n':=0) (o₁:=[]) aN aL av (fun h=>by simp[ek.makes]at h) (fun h=>by simp[ek.makes]at h) (by simpa only[l1,eE]using he) ay c9
 |range d key x=>
  simp only[l1]at he;split at he
  ·rename_i m ab;split at he
   ·rename_i cs dr;split at he
    ·rename_i cs' hm;cases he;exact jE (κ:=jC st key) (n':=nb st key) (o₁:=nc st key) aN aL av (fun _=>vI ay) (fun _=>vJ) (by simp only[eE,ab,dr,hm]) trivial c9
    ·cases he
   ·cases he
  ·cases he
 |app d sz el x y=>
  simp only[l1]at he;split at he
  ·rename_i dF tag xs jb kM ys ab aG;split at he
   ·rename_i fb;split at he
    ·rename_i k;split at he
     ·rename_i ow ad;cases he;refine jE (κ:= .loc 0) (n':=0) (o₁:=[]) aN aL av (fun h=>by simp[ek.makes,ab]at h) (fun h=>by simp[ek.makes,ab]at h) ?_ ay c9;simp only[eE,ab,aG,fb,and_self,if_true,ad]
     ·cases he
    ·cases he;refine jE (κ:= .loc st.n) (n':=st.n+1) (o₁:=st.o) aN aL av (fun _=>od ay.1) (fun _=>fo) ?_ ay.2 c9;simp only[eE,ab,aG,fb,and_self,if_true]
    ·cases he
   ·cases he
  ·cases he
structure cI where
 b:List (aH×List ah)
 e:List (aH×fF)
def fe(ν:bc)(s:cI)(bl:Nat):Prop:=(∃k,(look k s.b).isSome∧ν.bx k=some bl)∨(∃g n v,(look g s.e).isSome∧ν.ow g=some (n,v)∧v.ownBlock=some bl)
def n3(ν:bc)(s:cI):Prop:= ∀k,(look k s.b=none→ν.bx k=none)∧(look k s.e=none→ν.ow k=none)∧∀j b,¬ν.tr k j b
def cQ(s:cI):List aH:=s.b.map (·.1)++s.e.map (·.1)
def ij(s:cI):Prop:=(∀m,look (.loc m) s.b=none)∧(∀m,look (.loc m) s.e=none)
def wu(P:cB)(f:FuncId)(ba:Array Value)(w:World)(R:Ending→World→Prop):Prop:=((∃fn,P.funcs[f]? =some fn∧fn.body.isSome=true∧(fn.name== "runtime.NumGoroutine")=false)∧Calls P f ba w R)∨ ∃v w',(callFunc f ba).run P w= .ok (.value v) w'∧R (.returned v) w'
def bN(P:cB)(f:FuncId)(args:List ah)(s:cI)(Q:ah→cI→Prop):Prop:=
 ∀(w:World) (ν:bc) (ba:Array Value),Good (fe ν s) w ν s.b s.e→n3 ν s→cK w ν args ba.toList→
  wu P f ba w fun e w'=> ∃v r ai bk,e= .returned v∧Q r ai∧a7 w' bk r v∧Good (fun bl=>fe ν s bl∨w.heap.size≤bl) w' bk ai.b ai.e∧n3 bk ai∧ij ai∧pA ⟨w,ν,fe ν s,0,cQ s⟩ w' bk
def Ei(κ:Option Nat)(ν:bc)(s:cI):Prop:= ∀k,(look k s.b=none→ν.bx k=none)∧(look k s.e=none→ν.ow k=none)∧∀j b,ν.tr k j b→∃m,κ=some m∧k= .loc m
theorem n3.k{ν:bc}{s:cI}(h:n3 ν s):Ei none ν s:=fun k=>⟨(h k).1,(h k).2.1,fun j b ae=>absurd ae ((h k).2.2 j b)⟩
def Hi(P:cB)(f:FuncId)(κ:Nat)(args:List ah)(s:cI)(Q:ah→cI→Prop):Prop:=
 ∀(w:World) (ν:bc) (ba:Array Value),Good (fe ν s) w ν s.b s.e→n3 ν s→cK w ν args ba.toList→
  wu P f ba w fun e w'=> ∃v r ai bk,e= .returned v∧Q r ai∧a7 w' bk r v∧Good (fun bl=>fe ν s bl∨w.heap.size≤bl) w' bk ai.b ai.e∧Ei (some κ) bk ai∧ij ai∧pA ⟨w,ν,fe ν s,0,cQ s⟩ w' bk
def bG(P:cB)(f:FuncId)(args:List ah)(r:ah):Prop:=bN P f args ⟨[],[]⟩ fun eJ ai=>eJ=r∧ai=⟨[],[]⟩
theorem sI{α:Type}{k:aH}{x:α}:∀{l:List (aH×α)},look k l=some x→(k,x)∈l
 |[],h=>by simp[look]at h
 |(i,y)::r,h=>by
  simp only[look]at h;split at h
  ·rename_i e;subst e;cases h;simp
  ·exact ps _ (sI h)
theorem sN{s:cI}{k:aH}(h:(look k s.b).isSome∨(look k s.e).isSome):k∈cQ s:=by
 unfold cQ;rcases h with h|h<;>obtain⟨x,ab⟩:=fD.1 h<;>have:=sI ab
 ·exact List.mem_append_left _ (h8.2 ⟨_,this,rfl⟩)
 ·exact List.mem_append_right _ (h8.2 ⟨_,this,rfl⟩)
section
open Classical
noncomputable def bc.cut(ν:bc)(S:aH→Prop):bc:={A:=ν.A,bx:=fun k=>if S k then ν.bx k else none,ow:=fun k=>if S k then ν.ow k else none,tr:=fun k j b=>S k∧ν.tr k j b}
theorem bc.cut_bx{ν:bc}{S:aH→Prop}{k:aH}(h:S k):(ν.cut S).bx k=ν.bx k:=by simp[bc.cut,h]
theorem bc.cut_ow{ν:bc}{S:aH→Prop}{k:aH}(h:S k):(ν.cut S).ow k=ν.ow k:=by simp[bc.cut,h]
theorem bc.cut_no{ν:bc}{S:aH→Prop}{k:aH}(h:¬S k):(ν.cut S).bx k=none∧(ν.cut S).ow k=none∧∀j b,¬(ν.cut S).tr k j b:=by simp[bc.cut,h]
theorem bc.cut_some{ν:bc}{S:aH→Prop}{k:aH}{b:Nat}(h:(ν.cut S).bx k=some b):S k∧ν.bx k=some b:=by
 by_cases ag:S k
 ·exact⟨ag,by rw[bc.cut_bx ag]at h;exact h⟩
 ·rw[(bc.cut_no ag).1]at h;cases h
theorem bc.cut_someO{ν:bc}{S:aH→Prop}{k:aH}{b:Nat×Value}(h:(ν.cut S).ow k=some b):S k∧ν.ow k=some b:=by
 by_cases ag:S k
 ·exact⟨ag,by rw[bc.cut_ow ag]at h;exact h⟩
 ·rw[(bc.cut_no ag).2.1]at h;cases h
theorem nS.cut(S:aH→Prop)(w:World)(ν:bc):nS S w ν w (ν.cut S):=⟨fun _ _ h=>⟨h,rfl⟩,fun k b ad h=>by rw[bc.cut_bx ad];exact h,fun g n u a1 h=>⟨n,u,by rw[bc.cut_ow a1];exact h,.inl ⟨rfl,rfl⟩⟩,fun _ _ _=>rfl,fun _ _ _ ad h=>⟨ad,h⟩⟩
end
def gA(S:aH→Prop)(bO b:List (aH×List ah)):Prop:= ∀k cs,look k bO=some cs→look k b=some cs∧S k∧aJ S cs
def oE(S:aH→Prop)(fL e:List (aH×fF)):Prop:= ∀k o,look k fL=some o→look k e=some o∧S k∧dP S o
theorem Good.cut{pr CN:Nat→Prop}{w:World}{ν:bc}{b bO:List (aH×List ah)}{e fL:List (aH×fF)}(h:Good pr w ν b e){S:aH→Prop}(ae:gA S bO b)(he:oE S fL e)
  (St:∀bl,pr bl→(∃k,(look k bO).isSome∧(ν.cut S).bx k=some bl)∨(∃g n v,(look g fL).isSome∧(ν.cut S).ow g=some (n,v)∧v.ownBlock=some bl)→CN bl):Good CN w (ν.cut S) bO fL:=by
 have EG:∀k,(look k bO).isSome→(look k b).isSome∧S k:=fun k ad=>by obtain⟨cs,dr⟩:=fD.1 ad;have:=ae k cs dr;exact⟨by simp[this.1],this.2.1⟩
 have EI:∀k,(look k fL).isSome→(look k e).isSome∧S k:=fun k ad=>by obtain⟨cs,dr⟩:=fD.1 ad;have:=he k cs dr;exact⟨by simp[this.1],this.2.1⟩
 refine⟨h.alt,fun k cs ad=>?_,fun k bL bl J U ao a8=>?_,fun g o a1=>?_,fun g e3 n n' v v' bl J U ao a8 bZ c7=>?_,fun g k n v bl J U ao a8 bZ=>?_,fun k=>?_,fun bl aN k j af=>?_⟩
 ·obtain⟨g1,g2,g3⟩:=ae k cs ad;obtain⟨bl,us,el,f1,f2,f3,f4,f5⟩:=h.box k cs g1;have ln:(ν.cut S).bx k=some bl:=by rw[bc.cut_bx g2];exact f1
  exact⟨bl,us,el,ln,St bl f2 (.inl ⟨k,by simp[ad],ln⟩),f3,f4,VX (nS.cut S w ν) g3 f5⟩
 ·obtain⟨bD,a2⟩:=EG k J;obtain⟨cc,b4⟩:=EG bL U;exact h.inj k bL bl bD cc (bc.cut_some ao).2 (bc.cut_some a8).2
 ·obtain⟨g1,g2,g3⟩:=he g o a1;obtain⟨v,us,f1,f2,f3,f4⟩:=h.own g o g1;have BS:(ν.cut S).ow g=some (o.n,v):=by rw[bc.cut_ow g2];exact f1
  exact⟨v,us,BS,f2,fun bl fy=>⟨St bl (f3 bl fy).1 (.inr ⟨g,o.n,v,by simp[a1],BS,fy⟩),(f3 bl fy).2⟩,
   fun xs ab=>⟨(f4 xs ab).1,Gu (nS.cut S w ν) _ _ _ (g3 xs ab) (f4 xs ab).2.1,(f4 xs ab).2.2⟩⟩
 ·obtain⟨bD,a2⟩:=EI g J;obtain⟨cc,b4⟩:=EI e3 U;exact h.oinj g e3 n n' v v' bl bD cc (bc.cut_someO ao).2 (bc.cut_someO a8).2 bZ c7
 ·obtain⟨bD,a2⟩:=EI g J;obtain⟨cc,b4⟩:=EG k U;exact h.obx g k n v bl bD cc (bc.cut_someO ao).2 a8 (bc.cut_some bZ).2
 ·by_cases ag:S k
  ·rw[bc.cut_bx ag,bc.cut_ow ag];exact h.one k
  ·exact .inl (bc.cut_no ag).1
 ·refine h.otr bl ?_ k j af.2;rcases aN with⟨bL,bD,a2⟩|⟨g,n,v,bD,a2,a3⟩
  ·exact .inl ⟨bL,(EG bL bD).1,(bc.cut_some a2).2⟩
  ·exact .inr ⟨g,n,v,(EI g bD).1,(bc.cut_someO a2).2,a3⟩
structure iA (ob:List aH) (st st':bq):Prop where
 t:∀x∈st'.t,get x.1 st.t=x.2∧aC (fun k=> ¬fresh st'.n st'.o k) x.2
 b:gA (fun k=> ¬fresh st'.n st'.o k) st'.b st.b
 e:oE (fun k=> ¬fresh st'.n st'.o k) st'.e st.e
 o:∀m∈ob,m∈st'.o
theorem Rq:∀(i:Nat) (l:List (Nat×ah)),get i l= .junk∨(i,get i l)∈l
 |_,[]=>.inl rfl
 |i,(j,p)::r=>by
  by_cases h:j=i
  ·subst h;right;simp[get]
  ·rcases Rq i r with J|J
   ·left;simp[get,h,J]
   ·right;simp[get,h];right;exact J
theorem cO.weaker{C:e8}{st st':bq}{a:Act}{w:World}{ν:bc}(h:cO C st a w ν)(hw:iA C.ob st st'):cO C st' a w (ν.cut fun k=> ¬fresh st'.n st'.o k):=by
 refine⟨h.good.cut hw.b hw.e (fun bl bI _=>bI),⟨h.fr.os,h.fr.tape,h.fr.output,h.fr.size,h.fr.block,h.fr.keep,h.fr.fresh,fun n b ae=>?_,h.fr.obn,fun m n u hm=>?_,h.fr.obr,fun k j bL dD b J U=>h.fr.trd k j bL dD b J.2 U.2,fun k j b ae=>h.fr.trb k j b ae.2,fun k j b ae=>?_,h.fr.sh⟩,h.defers,h.size,fun i=>?_,fun k ad=>bc.cut_no (fun aw=>aw ad)⟩
 ·rw[bc.cut_bx (fun cM=>cM.2 (hw.o _ (h.fr.obn n b ae)))];exact h.fr.obj n b ae
 ·rw[bc.cut_ow (fun cM=>cM.2 (hw.o _ (h.fr.obr m n u hm)))];exact h.fr.row m n u hm
 ·rw[bc.cut_bx ae.1,bc.cut_ow ae.1];exact h.fr.trn k j b ae.2
 ·rcases Rq i st'.t with af|hm
  ·rw[af];simp[a7]
  ·obtain⟨J,U⟩:=hw.t _ hm;simp only at J;have:=h.slot i;rw[J]at this;exact j7 (nS.cut _ w ν) _ _ U this
mutual
def dh:ah→ah
 | .slice sz _ xs=>.slice sz .no (cR xs)
 | .agg cs=>.agg (cR cs)
 | .tuple ba=>.tuple (cR ba)
 | .eptr x=>.eptr (dh x)
 | .iface t x=>.iface t (dh x)
 | .func f dp=>.func f (cR dp)
 |p=>p
def cR:List ah→List ah
 |[]=>[]
 |x::xs=>dh x::cR xs
end
theorem rO:∀xs,(cR xs).length=xs.length
 |[]=>rfl
 |x::xs=>by simp[cR,rO xs]
mutual
theorem IX{t:Bool}{w:World}{A:Nat→Nat→Prop}:∀(p:ah) (F:Nat→Prop) (v:Value),fX t w A F p v→fX t w A F (dh p) v
 | .int _ _,_,_,h=>by simpa only[dh]using h
 | .bool _,_,_,h=>by simpa only[dh]using h
 | .str _,_,_,h=>by simpa only[dh]using h
 | .slice sz tag xs,F,v,h=>by
  simp only[fX,dh]at h⊢;obtain⟨a,cap,J,U,ao,a8⟩:=h;refine⟨a,cap,by rw[rO];exact J,by rw[rO];exact U,by rw[rO];exact ao,?_⟩;rcases a8 with rfl|⟨b,off,us,G,ak,aB,bf,dd,gS,hG⟩
  ·exact .inl rfl
  ·exact .inr ⟨b,off,us,G,ak,aB,bf,dd,gS,Rb sz xs G us hG⟩
 | .agg cs,F,v,h=>by simp only[fX,dh]at h⊢;obtain⟨us,J,U⟩:=h;exact⟨us,J,Rc cs F _ U⟩
 | .junk,_,_,h=>by simp[fX]at h
 | .ptr _ _,_,_,h=>by simp[fX]at h
 | .eptr _,_,_,h=>by simp[fX]at h
 | .iface _ _,_,_,h=>by simp[fX]at h
 | .nilp,_,_,h=>by simp[fX]at h
 | .tuple _,_,_,h=>by simp[fX]at h
 | .func _ _,_,_,h=>by simp[fX]at h
 | .gmap _,_,_,h=>by simp[fX]at h
 | .row _ _ _,_,_,h=>by simp[fX]at h
 | .rptr _ _ _ _ _,_,_,h=>by simp[fX]at h
 | .hdm _ _,_,_,h=>by simp[fX]at h
 | .hdi _ _ _,_,_,h=>by simp[fX]at h
 | .cst _,_,_,h=>by simp[fX]at h
theorem Rc{t:Bool}{w:World}{A:Nat→Nat→Prop}:∀(cs:List ah) (F:Nat→Prop) (us:List Value),tE t w A F cs us→tE t w A F (cR cs) us
 |[],_,_,h=>by simpa only[cR]using h
 |c::cs,F,us,h=>by simp only[tE,cR]at h⊢;obtain⟨u,ca,hY,h9,J,U,⟨bZ,c7⟩,ee⟩:=h;exact⟨u,ca,hY,h9,J,U,⟨IX c hY u bZ,c7⟩,Rc cs h9 ca ee⟩
theorem Rb{t:Bool}{w:World}{A:Nat→Nat→Prop}(sz:Nat):∀(cs:List ah) (F:Nat→Prop) (us:List Value),tD t w A F sz cs us→tD t w A F sz (cR cs) us
 |[],_,_,h=>by simpa only[cR]using h
 |c::cs,F,us,h=>by simp only[tD,cR]at h⊢;obtain⟨u,ca,hY,h9,J,U,⟨bZ,c7⟩,ee⟩:=h;exact⟨u,ca,hY,h9,J,U,⟨IX c hY u bZ,c7⟩,Rb sz cs h9 ca ee⟩
end
theorem Ra{t:Bool}{w:World}{A:Nat→Nat→Prop}{F:Nat→Prop}{sz:Nat}{tag:AR}(kM:AR){xs:List ah}(v:Value)(h:fX t w A F (.slice sz tag xs) v):fX t w A F (.slice sz kM (cR xs)) v:=by have:=IX _ F v h;simp only[dh,fX]at this⊢;exact this
mutual
theorem kL{w:World}{ν:bc}:∀(p:ah) (v:Value),a7 w ν p v→a7 w ν (dh p) v
 | .junk,_,h=>by simpa only[dh]using h
 | .int k n,_,h=>by simpa only[dh]using h
 | .bool b,_,h=>by simpa only[dh]using h
 | .str s,_,h=>by simpa only[dh]using h
 | .slice sz tag xs,v,h=>by
  simp only[a7,dh]at h⊢;obtain⟨⟨a,cap,J,U,ao,a8⟩,bZ,c7⟩:=h;refine⟨⟨a,cap,by rw[rO];exact J,by rw[rO];exact U,by rw[rO];exact ao,?_⟩,fun e=>(by cases e),fun g e=>(by cases e),fun _ _ e=>(by cases e),fun _ e=>(by cases e)⟩;rcases a8 with rfl|⟨b,off,us,a8,c7,ee⟩
  ·exact .inl rfl
  ·exact .inr ⟨b,off,us,a8,c7,V0 sz xs us ee⟩
 | .agg cs,v,h=>by simp only[a7,dh]at h⊢;obtain⟨us,J,U⟩:=h;exact⟨us,J,V4 cs _ U⟩
 | .ptr key off,v,h=>by simpa only[dh]using h
 | .iface t x,v,h=>by simp only[a7,dh]at h⊢;obtain⟨u,J,U⟩:=h;exact⟨u,J,kL x u U⟩
 | .eptr x,v,h=>by simp only[a7,dh]at h⊢;obtain⟨b,off,u,J,U,ao⟩:=h;exact⟨b,off,u,J,kL x u U,ao⟩
 | .nilp,_,h=>by simpa only[dh]using h
 | .tuple ba,v,h=>by simp only[a7,dh]at h⊢;obtain⟨us,J,U⟩:=h;exact⟨us,J,GA ba _ U⟩
 | .func f dp,v,h=>by simp only[a7,dh]at h⊢;obtain⟨us,J,U⟩:=h;exact⟨us,J,GA dp _ U⟩
 | .gmap key,v,h=>by simpa only[dh]using h
 | .row _ _ _,v,h=>by simpa only[dh]using h
 | .rptr _ _ _ _ _,v,h=>by simpa only[dh]using h
 | .cst _,v,h=>by simpa only[dh]using h
theorem V4{w:World}{ν:bc}:∀(cs:List ah) (us:List Value),cY w ν cs us→cY w ν (cR cs) us
 |[],_,h=>by simpa only[cR]using h
 |c::cs,us,h=>by simp only[cY,cR]at h⊢;obtain⟨u,ca,J,U,ao⟩:=h;exact⟨u,ca,J,⟨kL c u U.1,U.2⟩,V4 cs ca ao⟩
theorem GA{w:World}{ν:bc}:∀(cs:List ah) (us:List Value),cK w ν cs us→cK w ν (cR cs) us
 |[],_,h=>by simpa only[cR]using h
 |c::cs,us,h=>by simp only[cK,cR]at h⊢;obtain⟨u,ca,J,U,ao⟩:=h;exact⟨u,ca,J,kL c u U,GA cs ca ao⟩
theorem V0{w:World}{ν:bc}(sz:Nat):∀(xs:List ah) (us:List Value),dA w ν sz xs us→dA w ν sz (cR xs) us
 |[],_,h=>by simpa only[cR]using h
 |x::xs,us,h=>by simp only[dA,cR]at h⊢;obtain⟨u,ca,J,⟨U,ao,a8⟩,bZ⟩:=h;exact⟨u,ca,J,⟨kL x u U,ao,a8⟩,V0 sz xs ca bZ⟩
end
def inObs(s:cI)(k:aH):Prop:=(look k s.b).isSome=true∨(look k s.e).isSome=true
def cv{α β:Type}(s:List (aH×β)):List (aH×α)→List (aH×α)
 |[]=>[]
 |(k,x)::r=>match look k s with
  |some _=>cv s r
  |none=>(k,x)::cv s r
theorem ue{α β:Type}(s:List (aH×β))(k:aH):∀l:List (aH×α),look k (cv s l)=if(look k s).isSome then none else look k l
 |[]=>by simp[cv,look]
 |(i,x)::r=>by
  simp only[cv];by_cases e:i=k
  ·subst e;cases h:look i s with
   |some y=>simp[ue s i r,h]
   |none=>simp[look]
  ·cases h:look i s with
   |some y=>simp[ue s k r,look,e]
   |none=>simp[look,e,ue s k r]
theorem xD{α:Type}(k:aH):∀l aZ:List (aH×α),look k (l++aZ)=match look k l with|some x=>some x|none=>look k aZ
 |[],aZ=>by simp[look]
 |(i,x)::r,aZ=>by
  by_cases e:i=k
  ·simp[look,e]
  ·simp[look,e,xD k r aZ]
def after(st:bq)(s ai:cI)(d:Option Nat)(r:ah):bq:={t:=eQ d r st.t,b:=cv s.b st.b++ai.b,e:=cv s.e st.e++ai.e,n:=st.n,o:=st.o++cQ ai}
section
open Classical
noncomputable def bc.join(ν bk:bc)(s ai:cI):bc:={A:=bk.A,bx:=fun k=>if(look k s.b).isSome∨(look k ai.b).isSome then bk.bx k else ν.bx k,ow:=fun k=>if(look k s.e).isSome∨(look k ai.e).isSome then bk.ow k else ν.ow k,tr:=fun k j b=>ν.tr k j b∨bk.tr k j b}
end
theorem cO.callK{C:e8}{st:bq}{a:Act}{w w':World}{ν bk:bc}(h:cO C st a w ν){s ai:cI}(ae:gA (inObs s) s.b st.b)(he:oE (inObs s) s.e st.e)(tQ:ij s)
  (a1:Good (fun bl=>fe (ν.cut (inObs s)) s bl∨w.heap.size≤bl) w' bk ai.b ai.e) {κ:Option Nat} (ab:Ei κ bk ai) (afg:∀m,κ=some m→ν.bx (.loc m)=none∧ν.ow (.loc m)=none∧∀j b,¬ν.tr (.loc m) j b) {n':Nat} {o':List aH} (dj:∀k,fresh n' o' k→fresh st.n (st.o++cQ ai) k∧∀m,κ=some m→k≠ .loc m) (su:ij ai) (aI:pA ⟨w,ν.cut (inObs s),fe (ν.cut (inObs s)) s,0,cQ s⟩ w' bk)
  (Jz:∀m,(look (.obj m) ai.b).isSome→(look (.obj m) s.b).isSome∨ .obj m∉st.o) (cF:∀m,(look (.obj m) ai.e).isSome→(look (.obj m) s.e).isSome∨ .obj m∉st.o) (d:Option Nat) (aQ:jf C.N d=true) {r:ah} {v:Value} (aL:a7 w' bk r v):
  cO C {after st s ai d r with n:=n',o:=o'} (a.put d v) w' (ν.join bk s ai):=by
 have qv:∀k,(look k s.b).isSome→(look k st.b).isSome:=fun k ad=>by obtain⟨cs,dr⟩:=fD.1 ad;simp[(ae k cs dr).1]
 have lv:∀k,(look k s.e).isSome→(look k st.e).isSome:=fun k ad=>by obtain⟨cs,dr⟩:=fD.1 ad;simp[(he k cs dr).1]
 have aeC:∀k,(look k ai.b).isSome→¬(look k s.b).isSome→ν.bx k=none:=fun k ad aw=>by
  cases k with
  |loc m=>rw[su.1 m]at ad;cases ad
  |obj m=>exact(h.new (.obj m) ⟨trivial,(Jz m ad).resolve_left aw⟩).1
 have aeD:∀k,(look k ai.e).isSome→¬(look k s.e).isSome→ν.ow k=none:=fun k ad aw=>by
  cases k with
  |loc m=>rw[su.2 m]at ad;cases ad
  |obj m=>exact(h.new (.obj m) ⟨trivial,(cF m ad).resolve_left aw⟩).2.1
 have afK:∀k,(look k s.b).isSome→(ν.join bk s ai).bx k=bk.bx k:=fun k ad=>by simp[bc.join,ad]
 have S4:∀k,(look k ai.b).isSome→(ν.join bk s ai).bx k=bk.bx k:=fun k ad=>by simp[bc.join,ad]
 have S5:∀k,ν.bx k≠none→¬(look k s.b).isSome→(ν.join bk s ai).bx k=ν.bx k:=fun k J U=>by have ao:¬(look k ai.b).isSome:=fun ao=>J (aeC k ao U);simp[bc.join,U,ao]
 have afL:∀k,(look k s.e).isSome→(ν.join bk s ai).ow k=bk.ow k:=fun k ad=>by simp[bc.join,ad]
 have Kb:∀k,(look k ai.e).isSome→(ν.join bk s ai).ow k=bk.ow k:=fun k ad=>by simp[bc.join,ad]
 have Kc:∀k,ν.ow k≠none→¬(look k s.e).isSome→(ν.join bk s ai).ow k=ν.ow k:=fun k J U=>by have ao:¬(look k ai.e).isSome:=fun ao=>J (aeD k ao U);simp[bc.join,U,ao]
 have Xz:∀k b,bk.bx k=some b→(look k ai.b).isSome:=fun k b ad=>by
  cases au:look k ai.b with
  |some _=>rfl
  |none=>rw[(ab k).1 au]at ad;cases ad
 have XA:∀k b,bk.ow k=some b→(look k ai.e).isSome:=fun k b ad=>by
  cases au:look k ai.e with
  |some _=>rfl
  |none=>rw[(ab k).2.1 au]at ad;cases ad
 have av:ld w ν w' (ν.join bk s ai):=by
  refine⟨fun b o bg=>aI.keep b o bg,fun k b _ ad=>?_,fun g n u _ a1=>?_,fun b o bg=>aI.sh b o bg,fun _ _ _ _ h=>.inl h⟩
  ·by_cases ag:(look k s.b).isSome
   ·rw[afK k ag];cases k with
    |loc m=>rw[tQ.1 m]at ag;cases ag
    |obj m=>exact aI.obj m b (by rw[bc.cut_bx (.inl ag)];exact ad)
   ·rw[S5 k (by rw[ad];simp) ag];exact ad
  ·by_cases ag:(look g s.e).isSome
   ·rw[afL g ag];cases g with
    |loc m=>rw[tQ.2 m]at ag;cases ag
    |obj m=>exact aI.row m n u (by rw[bc.cut_ow (.inr ag)];exact a1)
   ·rw[Kc g (by rw[a1];simp) ag];exact⟨n,u,a1,.inl ⟨rfl,rfl⟩⟩
 have hI:ld w' bk w' (ν.join bk s ai):=⟨fun b o bg=>⟨bg,rfl⟩,fun k b _ ad=>by rw[S4 k (Xz k b ad)];exact ad,fun g n u _ ad=>⟨n,u,by rw[Kb g (XA g _ ad)];exact ad,.inl ⟨rfl,rfl⟩⟩,fun _ _ _=>rfl,fun _ _ _ _ h=>.inr h⟩
 have qo:∀bl,fe (ν.cut (inObs s)) s bl→C.pr bl∧bl<w.heap.size:=by
  intro bl fy;rcases fy with⟨k,J,U⟩|⟨g,n,u,J,U,ao⟩
  ·have a8:=(bc.cut_some U).2;obtain⟨cs,dr⟩:=fD.1 (qv k J);obtain⟨ic,us,el,g1,g2,_⟩:=h.good.box k cs dr;rw[a8]at g1;cases g1;exact⟨g2,h.good.boxLt dr a8⟩
  ·have a8:=(bc.cut_someO U).2;obtain⟨o,EU⟩:=fD.1 (lv g J);obtain⟨v',us,g1,g2,g3,_⟩:=h.good.own g o EU;rw[a8]at g1;cases g1;exact⟨(g3 bl ao).1,h.good.ownLt EU a8 ao⟩
 have Su:∀bl,fe (ν.cut (inObs s)) s bl∨w.heap.size≤bl→C.pr bl:=fun bl fy=>by
  rcases fy with fy|fy
  ·exact(qo bl fy).1
  ·exact .inr (jV h.fr.size fy)
 have aeY:∀k cs bl,look k st.b=some cs→¬(look k s.b).isSome→ν.bx k=some bl→¬fe (ν.cut (inObs s)) s bl:=by
  intro k cs bl J U ao a8;rcases a8 with⟨bL,bD,a2⟩|⟨g,n,u,bD,a2,a3⟩
  ·have:=h.good.inj k bL bl (by simp[J]) (qv bL bD) ao (bc.cut_some a2).2;subst this;exact U bD
  ·exact h.good.obx g k n u bl (lv g bD) (by simp[J]) (bc.cut_someO a2).2 a3 ao
 have aeZ:∀g o n u bl,look g st.e=some o→¬(look g s.e).isSome→ν.ow g=some (n,u)→u.ownBlock=some bl→¬fe (ν.cut (inObs s)) s bl:=by
  intro g o n u bl J U ao a8 bZ;rcases bZ with⟨bL,bD,a2⟩|⟨e3,n',e6,bD,a2,a3⟩
  ·exact h.good.obx g bL n u bl (by simp[J]) (qv bL bD) ao a8 (bc.cut_some a2).2
  ·have:=h.good.oinj g e3 n n' u e6 bl (by simp[J]) (lv e3 bD) ao (bc.cut_someO a2).2 a8 a3;subst this;exact U bD
 have P2:∀k cs,look k (cv s.b st.b++ai.b)=some cs→(¬(look k s.b).isSome∧look k st.b=some cs)∨look k ai.b=some cs:=by
  intro k cs ad;rw[xD,ue]at ad;by_cases ag:(look k s.b).isSome
  ·simp only[ag,if_true]at ad;exact .inr ad
  ·simp only[ag]at ad;cases au:look k st.b with
   |some x=>simp[au]at ad;subst ad;exact .inl ⟨ag,rfl⟩
   |none=>simp[au]at ad;exact .inr ad
 have P3:∀k cs,look k (cv s.e st.e++ai.e)=some cs→(¬(look k s.e).isSome∧look k st.e=some cs)∨look k ai.e=some cs:=by
  intro k cs ad;rw[xD,ue]at ad;by_cases ag:(look k s.e).isSome
  ·simp only[ag,if_true]at ad;exact .inr ad
  ·simp only[ag]at ad;cases au:look k st.e with
   |some x=>simp[au]at ad;subst ad;exact .inl ⟨ag,rfl⟩
   |none=>simp[au]at ad;exact .inr ad
 have Ar:∀bl,fe (ν.cut (inObs s)) s bl∨w.heap.size≤bl→∀ic,ic<w.heap.size→¬fe (ν.cut (inObs s)) s ic→bl≠ic:=by
  intro bl J ic U ao e;subst e;rcases J with J|J
  ·exact ao J
  ·omega
 have Kf:∀bl,bl<w.heap.size→¬fe (ν.cut (inObs s)) s bl→w'.heap[bl]? =w.heap[bl]?:=fun bl J U=>aI.block bl J U;have isB:∀k bl,(look k (cv s.b st.b++ai.b)).isSome→(ν.join bk s ai).bx k=some bl→(¬(look k s.b).isSome∧(look k st.b).isSome∧ν.bx k=some bl)∨((look k ai.b).isSome∧bk.bx k=some bl):=by
  intro k bl ad ln;obtain⟨cs,dr⟩:=fD.1 ad;rcases P2 k cs dr with⟨J,U⟩|J
  ·obtain⟨ic,us,el,g1,_⟩:=h.good.box k cs U;rw[S5 k (by rw[g1];simp) J]at ln;exact .inl ⟨J,by simp[U],ln⟩
  ·rw[S4 k (by simp[J])]at ln;exact .inr ⟨by simp[J],ln⟩
 have Fg:∀k x,(look k (cv s.e st.e++ai.e)).isSome→(ν.join bk s ai).ow k=some x→(¬(look k s.e).isSome∧(look k st.e).isSome∧ν.ow k=some x)∨((look k ai.e).isSome∧bk.ow k=some x):=by
  intro k x ad ln;obtain⟨cs,dr⟩:=fD.1 ad;rcases P3 k cs dr with⟨J,U⟩|J
  ·obtain⟨v',us,g1,_⟩:=h.good.own k cs U;rw[Kc k (by rw[g1];simp) J]at ln;exact .inl ⟨J,by simp[U],ln⟩
  ·rw[Kb k (by simp[J])]at ln;exact .inr ⟨by simp[J],ln⟩
 have A0:∀k bl,¬(look k s.b).isSome→(look k st.b).isSome→ν.bx k=some bl→bl<w.heap.size∧¬fe (ν.cut (inObs s)) s bl:=by intro k bl J U ao;obtain⟨cs,dr⟩:=fD.1 U;exact⟨h.good.boxLt dr ao,aeY k cs bl dr J ao⟩
 have x2:∀k n u bl,¬(look k s.e).isSome→(look k st.e).isSome→ν.ow k=some (n,u)→u.ownBlock=some bl→bl<w.heap.size∧¬fe (ν.cut (inObs s)) s bl:=by intro k n u bl J U ao a8;obtain⟨cs,dr⟩:=fD.1 U;exact⟨h.good.ownLt dr ao a8,aeZ k cs n u bl dr J ao a8⟩
 have DK:∀k bl,(look k ai.b).isSome→bk.bx k=some bl→fe (ν.cut (inObs s)) s bl∨w.heap.size≤bl:=by intro k bl J U;obtain⟨cs,dr⟩:=fD.1 J;obtain⟨ic,us,el,g1,g2,_⟩:=a1.box k cs dr;rw[U]at g1;cases g1;exact g2
 have GF:∀k n u bl,(look k ai.e).isSome→bk.ow k=some (n,u)→u.ownBlock=some bl→fe (ν.cut (inObs s)) s bl∨w.heap.size≤bl:=by intro k n u bl J U ao;obtain⟨cs,dr⟩:=fD.1 J;obtain⟨v',us,g1,g2,g3,_⟩:=a1.own k cs dr;rw[U]at g1;cases g1;exact(g3 bl ao).1
 have bg:∀bl o,bk.A bl o→bl<w.heap.size→¬fe (ν.cut (inObs s)) s bl→ν.A bl o:=by
  intro bl o J U ao;rcases aI.fresh bl o J with a8|a8|a8
  ·exact a8
  ·exact absurd a8 ao
  ·simp only at a8;omega
 have og:cO C {t:=st.t,b:=cv s.b st.b++ai.b,e:=cv s.e st.e++ai.e,n:=n',o:=o'} a w' (ν.join bk s ai):=by
  refine h.over av rfl ⟨a1.alt,fun k cs ad=>?_,fun k bL bl J U ao a8=>?_,fun g o eO=>?_,fun g e3 n n' u e6 bl J U ao a8 bZ c7=>?_,fun g k n u bl J U ao a8 bZ=>?_,fun k=>?_,fun bl aN k j lx=>?_⟩
   ⟨aI.os.trans h.fr.os,aI.tape.trans h.fr.tape,aI.output.trans h.fr.output,jV h.fr.size aI.size,fun k ad hm=>?_,fun b o q4=>?_,fun b o q4=>?_,fun n b aw=>av.bx _ _ trivial (h.fr.obj n b aw),h.fr.obn,
    fun m n u hm=>C0 (h.fr.row m n u hm) (fun n u=>av.ow _ n u trivial),h.fr.obr,fun k j bL dD b J U=>?_,fun k j b ae=>?_,fun k j b ae=>?_,fun b o bg=>(av.sh b o (h.fr.keep b o bg).1).trans (h.fr.sh b o bg)⟩ (fun k ad=>?_)
  ·rcases P2 k cs ad with⟨J,U⟩|J
   ·obtain⟨bl,us,el,g1,g2,g3,g4,g5⟩:=h.good.box k cs U;obtain⟨cc,b4⟩:=A0 k bl J (by simp[U]) g1;exact⟨bl,us,el,av.bx _ _ trivial g1,g2,fun o q4=>g3 o (bg bl o q4 cc b4),by rw[Kf bl cc b4];exact g4,p0 av g5⟩
   ·obtain⟨bl,us,el,g1,g2,g3,g4,g5⟩:=a1.box k cs J;exact⟨bl,us,el,hI.bx _ _ trivial g1,Su bl g2,g3,g4,p0 hI g5⟩
  ·rcases isB k bl J ao with⟨bD,a2,a3⟩|⟨bD,a2⟩<;>rcases isB bL bl U a8 with⟨cc,b4,fH⟩|⟨cc,b4⟩
   ·exact h.good.inj k bL bl a2 b4 a3 fH
   ·obtain⟨bH,cj⟩:=A0 k bl bD a2 a3;exact absurd rfl (Ar bl (DK bL bl cc b4) bl bH cj)
   ·obtain⟨bH,cj⟩:=A0 bL bl cc b4 fH;exact absurd rfl (Ar bl (DK k bl bD a2) bl bH cj)
   ·exact a1.inj k bL bl bD cc a2 b4
  ·rcases P3 g o eO with⟨J,U⟩|J
   ·obtain⟨u,us,g1,g2,g3,g4⟩:=h.good.own g o U;refine⟨u,us,by rw[Kc g (by rw[g1];simp) J];exact g1,⟨g2.1,?_⟩,fun bl fy=>?_,rL av (fun bl fy j q4=>?_) g4⟩
    ·rcases g2.2 with aB|⟨bb,cap,cur,f1,f2,f3,f4⟩
     ·exact .inl aB
     ·obtain⟨cc,b4⟩:=x2 g _ u bb J (by simp[U]) g1 (by rw[f1];rfl);exact .inr ⟨bb,cap,cur,f1,f2,by rw[Kf bb cc b4];exact f3,f4⟩
    ·obtain⟨cc,b4⟩:=x2 g _ u bl J (by simp[U]) g1 fy;exact⟨(g3 bl fy).1,fun j q4=>(g3 bl fy).2 j (bg bl j q4 cc b4)⟩
    ·obtain⟨cc,b4⟩:=x2 g _ u bl J (by simp[U]) g1 fy;exact bg bl j q4 cc b4
   ·obtain⟨u,us,g1,g2,g3,g4⟩:=a1.own g o J;exact⟨u,us,by rw[Kb g (by simp[J])];exact g1,g2,fun bl fy=>⟨Su bl (g3 bl fy).1,(g3 bl fy).2⟩,rL hI (fun _ _ _ h=>h) g4⟩
  ·rcases Fg g _ J ao with⟨bD,a2,a3⟩|⟨bD,a2⟩<;>rcases Fg e3 _ U a8 with⟨cc,b4,fH⟩|⟨cc,b4⟩
   ·exact h.good.oinj g e3 n n' u e6 bl a2 b4 a3 fH bZ c7
   ·obtain⟨bH,cj⟩:=x2 g n u bl bD a2 a3 bZ;exact absurd rfl (Ar bl (GF e3 n' e6 bl cc b4 c7) bl bH cj)
   ·obtain⟨bH,cj⟩:=x2 e3 n' e6 bl cc b4 fH c7;exact absurd rfl (Ar bl (GF g n u bl bD a2 bZ) bl bH cj)
   ·exact a1.oinj g e3 n n' u e6 bl bD cc a2 b4 bZ c7
  ·rcases Fg g _ J ao with⟨bD,a2,a3⟩|⟨bD,a2⟩<;>rcases isB k bl U bZ with⟨cc,b4,fH⟩|⟨cc,b4⟩
   ·exact h.good.obx g k n u bl a2 b4 a3 a8 fH
   ·obtain⟨bH,cj⟩:=x2 g n u bl bD a2 a3 a8;exact absurd rfl (Ar bl (DK k bl cc b4) bl bH cj)
   ·obtain⟨bH,cj⟩:=A0 k bl cc b4 fH;exact absurd rfl (Ar bl (GF g n u bl bD a2 a8) bl bH cj)
   ·exact a1.obx g k n u bl bD cc a2 a8 b4
  ·
   cases ln:(ν.join bk s ai).bx k with
   |none=>exact .inl rfl
   |some bl=>
    right;cases BS:(ν.join bk s ai).ow k with
    |none=>rfl
    |some x=>
     exfalso;have ak:(ν.bx k=some bl∧¬(look k s.b).isSome∧¬(look k ai.b).isSome)∨bk.bx k=some bl:=by
      by_cases ag:(look k s.b).isSome∨(look k ai.b).isSome
      ·right;simpa[bc.join,ag]using ln
      ·left;simp only[not_or]at ag;exact⟨by simpa[bc.join,ag.1,ag.2]using ln,ag.1,ag.2⟩
     have aB:(ν.ow k=some x∧¬(look k s.e).isSome∧¬(look k ai.e).isSome)∨bk.ow k=some x:=by
      by_cases ag:(look k s.e).isSome∨(look k ai.e).isSome
      ·right;simpa[bc.join,ag]using BS
      ·left;simp only[not_or]at ag;exact⟨by simpa[bc.join,ag.1,ag.2]using BS,ag.1,ag.2⟩
     rcases ak with⟨bD,a2,a3⟩|bD<;>rcases aB with⟨cc,b4,fH⟩|cc
     ·rcases h.good.one k with cM|cM
      ·rw[cM]at bD;cases bD
      ·rw[cM]at cc;cases cc
     ·have tO:=XA k x cc;have fb:(look k s.e).isSome:=by
       cases k with
       |loc m=>rw[su.2 m]at tO;cases tO
       |obj m=>
        rcases cF m tO with cM|cM
        ·exact cM
        ·rw[(h.new (.obj m) ⟨trivial,cM⟩).1]at bD;cases bD
      obtain⟨o,EU⟩:=fD.1 (lv k fb);obtain⟨v',us,g1,_⟩:=h.good.own k o EU;rcases h.good.one k with cM|cM
      ·rw[cM]at bD;cases bD
      ·rw[cM]at g1;cases g1
     ·have xb:=Xz k bl bD;have fb:(look k s.b).isSome:=by
       cases k with
       |loc m=>rw[su.1 m]at xb;cases xb
       |obj m=>
        rcases Jz m xb with cM|cM
        ·exact cM
        ·rw[(h.new (.obj m) ⟨trivial,cM⟩).2.1]at cc;cases cc
      obtain⟨cs,dr⟩:=fD.1 (qv k fb);obtain⟨ic,us,el,g1,_⟩:=h.good.box k cs dr;rcases h.good.one k with cM|cM
      ·rw[cM]at g1;cases g1
      ·rw[cM]at cc;cases cc
     ·rcases a1.one k with cM|cM
      ·rw[cM]at bD;cases bD
      ·rw[cM]at cc;cases cc
  ·have Si:∀k j,bk.tr k j bl→w.heap.size≤bl:=fun k j cM=>by
    rcases(aI.trb k j bl cM).1 with a2|a2
    ·obtain⟨m,_,hm⟩:=(ab k).2.2 j bl cM;rw[hm]at a2;cases a2
    ·exact a2
   have hold:fe (ν.cut (inObs s)) s bl→¬ν.tr k j bl:=by
    rintro(⟨bL,bD,a2⟩|⟨g,n,u,bD,a2,a3⟩) cM
    ·exact h.good.otr bl (.inl ⟨bL,qv bL bD,(bc.cut_some a2).2⟩) k j cM
    ·exact h.good.otr bl (.inr ⟨g,n,u,lv g bD,(bc.cut_someO a2).2,a3⟩) k j cM
   have kl:fe (ν.cut (inObs s)) s bl∨w.heap.size≤bl→¬ν.tr k j bl:=by
    rintro(J|J) cM
    ·exact hold J cM
    ·have:=(h.fr.trb k j bl cM).2;omega
   rcases aN with⟨bL,bD,a2⟩|⟨g,n,u,bD,a2,a3⟩
   ·rcases isB bL bl bD a2 with⟨cc,b4,fH⟩|⟨cc,b4⟩
    ·rcases lx with lx|lx
     ·exact h.good.otr bl (.inl ⟨bL,b4,fH⟩) k j lx
     ·have:=(A0 bL bl cc b4 fH).1;have:=Si k j lx;omega
    ·rcases lx with lx|lx
     ·exact kl (DK bL bl cc b4) lx
     ·exact a1.otr bl (.inl ⟨bL,cc,b4⟩) k j lx
   ·rcases Fg g _ bD a2 with⟨cc,b4,fH⟩|⟨cc,b4⟩
    ·rcases lx with lx|lx
     ·exact h.good.otr bl (.inr ⟨g,n,u,b4,fH,a3⟩) k j lx
     ·have:=(x2 g n u bl cc b4 fH a3).1;have:=Si k j lx;omega
    ·rcases lx with lx|lx
     ·exact kl (GF g n u bl cc b4 a3) lx
     ·exact a1.otr bl (.inr ⟨g,n,u,cc,b4,a3⟩) k j lx
  ·have bC:k<w.heap.size:=Nat.lt_of_lt_of_le ad h.fr.size;rw[Kf k bC fun fy=>by
    rcases(qo k fy).1 with J|J
    ·exact hm J
    ·omega]
   exact h.fr.block k ad hm
  ·obtain⟨aS,bp⟩:=h.fr.keep b o q4;obtain⟨bW,dy⟩:=aI.keep b o aS;exact⟨bW,dy.trans bp⟩
  ·rcases aI.fresh b o q4 with a8|a8|a8
   ·exact h.fr.fresh b o a8
   ·exact .inr (qo b a8).1
   ·exact .inr (.inr (jV h.fr.size a8))
  ·rcases J with J|J<;>rcases U with U|U
   ·exact h.fr.trd k j bL dD b J U
   ·have bD:=(h.fr.trb k j b J).2;have a2:=(aI.trb bL dD b U).1;rcases a2 with a2|a2
    ·obtain⟨m,_,hm⟩:=(ab bL).2.2 dD b U;rw[hm]at a2;cases a2
    ·simp only at a2;omega
   ·have bD:=(h.fr.trb bL dD b U).2;have a2:=(aI.trb k j b J).1;rcases a2 with a2|a2
    ·obtain⟨m,_,hm⟩:=(ab k).2.2 j b J;rw[hm]at a2;cases a2
    ·simp only at a2;omega
   ·exact aI.trd k j bL dD b J U
  ·rcases ae with ae|ae
   ·exact⟨(h.fr.trb k j b ae).1,Nat.lt_of_lt_of_le (h.fr.trb k j b ae).2 aI.size⟩
   ·refine⟨.inr ?_,(aI.trb k j b ae).2⟩;rcases(aI.trb k j b ae).1 with a2|a2
    ·obtain⟨m,_,hm⟩:=(ab k).2.2 j b ae;rw[hm]at a2;cases a2
    ·exact jV h.fr.size a2
  ·have key:ν.bx k=none∧ν.ow k=none∧¬(look k ai.b).isSome∧¬(look k ai.e).isSome:=by
    rcases ae with ae|ae
    ·obtain⟨t1,t2⟩:=h.fr.trn k j b ae;refine⟨t1,t2,fun cM=>?_,fun cM=>?_⟩
     ·cases k with
      |loc m=>rw[su.1 m]at cM;cases cM
      |obj m=>
       rcases Jz m cM with bZ|bZ
       ·obtain⟨cs,dr⟩:=fD.1 (qv _ bZ);obtain⟨ic,us,el,g1,_⟩:=h.good.box _ cs dr;rw[t1]at g1;cases g1
       ·exact(h.new (.obj m) ⟨trivial,bZ⟩).2.2 j b ae
     ·cases k with
      |loc m=>rw[su.2 m]at cM;cases cM
      |obj m=>
       rcases cF m cM with bZ|bZ
       ·obtain⟨cs,dr⟩:=fD.1 (lv _ bZ);obtain⟨ic,us,g1,_⟩:=h.good.own _ cs dr;rw[t2]at g1;cases g1
       ·exact(h.new (.obj m) ⟨trivial,bZ⟩).2.2 j b ae
    ·obtain⟨m,hm,rfl⟩:=(ab k).2.2 j b ae;obtain⟨t1,t2,_⟩:=afg m hm;exact⟨t1,t2,by simp[su.1 m],by simp[su.2 m]⟩
   obtain⟨t1,t2,t3,t4⟩:=key;have t5:¬(look k s.b).isSome:=fun cM=>by obtain⟨cs,dr⟩:=fD.1 (qv _ cM);obtain⟨ic,us,el,g1,_⟩:=h.good.box _ cs dr;rw[t1]at g1;cases g1
   have t6:¬(look k s.e).isSome:=fun cM=>by obtain⟨cs,dr⟩:=fD.1 (lv _ cM);obtain⟨ic,us,g1,_⟩:=h.good.own _ cs dr;rw[t2]at g1;cases g1
   exact⟨by simp[bc.join,t3,t5,t1],by simp[bc.join,t4,t6,t2]⟩
  ·
   simp only at ad;obtain⟨ad,aek⟩:=dj k ad;have Sn:(∀j b,¬ν.tr k j b)→∀j b,¬(ν.join bk s ai).tr k j b:=fun J j b ae=>by
    rcases ae with ae|ae
    ·exact J j b ae
    ·obtain⟨m,hm,e⟩:=(ab k).2.2 j b ae;exact aek m hm e
   cases k with
   |loc m=>obtain⟨hV,fZ,iX⟩:=h.new (.loc m) (IW (eR _) (fun _ h=>List.mem_append_left _ h) ad);exact⟨by simp[bc.join,tQ.1 m,su.1 m,hV],by simp[bc.join,tQ.2 m,su.2 m,fZ],Sn iX⟩
   |obj m=>
    simp only[fresh,jU,not_or,true_and]at ad;obtain⟨hV,fZ,iX⟩:=h.new (.obj m) ⟨trivial,ad.1⟩;have a6:¬(look (.obj m) ai.b).isSome:=fun cM=>ad.2 (sN (.inl cM));have bz:¬(look (.obj m) ai.e).isSome:=fun cM=>ad.2 (sN (.inr cM));have bU:¬(look (.obj m) s.b).isSome:=fun cM=>by obtain⟨cs,dr⟩:=fD.1 (qv _ cM);obtain⟨ic,us,el,g1,_⟩:=h.good.box _ cs dr;rw[hV]at g1;cases g1
    have cT:¬(look (.obj m) s.e).isSome:=fun cM=>by obtain⟨cs,dr⟩:=fD.1 (lv _ cM);obtain⟨v',us,g1,_⟩:=h.good.own _ cs dr;rw[fZ]at g1;cases g1
    exact⟨by simp[bc.join,a6,bU,hV],by simp[bc.join,bz,cT,fZ],Sn iX⟩
 exact og.put aQ (x0 hI aL)
inductive eb where
 |s (i:ek)
 |call (d:Option Nat) (f:ds) (xs:List ds)
 |next (d:Nat) (x:ds)
structure c5 where
 g:Option (Nat×Bool)
 i:eb
def ek.dst:ek→Option Nat
 | .v d _| .box d _ _| .alloc d _ _| .bsl d _ _ _| .app d _ _ _ _| .bslm d _ _ _ _| .appm d _ _ _ _ _| .mkmap d _| .range d _ _| .mks d _ _ _ _ _=>some d
 | .store _ _ _| .mput _ _ _ _| .storeE _ _ _=>none
def eb.dst:eb→Option Nat
 | .s i=>i.dst
 | .call d _ _=>d
 | .next d _=>some d
def c4(P:cB)(n:Nat)(args:List ah)(st:bq)(d:Option Nat)(K:bq→Prop):Prop:=
 (∃s Q,gA (inObs s) s.b st.b∧oE (inObs s) s.e st.e∧ij s∧aJ (inObs s) args∧bN P n args s Q∧
  ∀r ai,Q r ai→((∀m,(look (.obj m) ai.b).isSome→(look (.obj m) s.b).isSome∨ .obj m∉st.o)∧(∀m,(look (.obj m) ai.e).isSome→(look (.obj m) s.e).isSome∨ .obj m∉st.o))∧K (after st s ai d r))∨
 (∃s Q,gA (inObs s) s.b st.b∧oE (inObs s) s.e st.e∧ij s∧aJ (inObs s) args∧ .loc st.n∉st.o∧Hi P n st.n args s Q∧
  ∀r ai,Q r ai→((∀m,(look (.obj m) ai.b).isSome→(look (.obj m) s.b).isSome∨ .obj m∉st.o)∧(∀m,(look (.obj m) ai.e).isSome→(look (.obj m) s.e).isSome∨ .obj m∉st.o))∧K {after st s ai d r with n:=st.n+1})
def KQ(st:bq)(d:Nat)(fj mk:aH)(since:Nat)(seen:List Nat)(last clock:Nat)(borns:List Nat)(kvs:List ah)(K:bq→Prop):Prop:=
 (since=clock∧last=clock)∧((∀b∈borns,b∈seen)→K {st with t:=put d (.tuple [.bool false]) st.t})∧
 (∀b k v,mw b borns kvs=some (.tuple [k,v])→b∉seen→K {st with t:=put d (.tuple [.bool true,k,v]) st.t,b:=cw fj [.hdi since (seen++[b]) last,.gmap mk] st.b})
def sd(st:bq)(d:Nat)(v:ah)(K:bq→Prop):Prop:=
 match v with
 | .ptr fj 0=>match look fj st.b with
  |some [.hdi since seen last,.gmap mk]=>match look mk st.b with
   |some (.hdm clock borns::kvs)=>KQ st d fj mk since seen last clock borns kvs K
   |_=>eo
  |_=>eo
 |_=>eo
def tx(P:cB)(st:bq)(K:bq→Prop):eb→Prop
 | .next d x=>sd st d (cm st.t x) K
 | .s i=>match l1 st i with
  |some (c,st')=>c∧K st'
  |none=>eo
 | .call d f xs=>match cm st.t f with
  | .func n dp=>c4 P n (cR (xs.map (cm st.t)++dp)) st d K
  |_=>eo
def hS(P:cB):List c5→bq→(bq→Prop)→Prop
 |[],st,K=>K st
 |⟨none,i⟩::r,st,K=>tx P st (fun st'=>hS P r st' K) i
 |⟨some (s,want),i⟩::r,st,K=>match get s st.t with
  | .bool b=>(b=want→tx P {st with t:=put s (.bool want) st.t} (fun st'=>hS P r st' K) i)∧(b= !want→hS P r {st with t:=eQ i.dst (.tuple []) (put s (.bool !want) st.t)} K)
  | .tuple []=>hS P r {st with t:=eQ i.dst (.tuple []) st.t} K
  |_=>eo
def ur(N:Nat)(bA:List (Nat×dC))(i:eb)(o:Oper):Bool:=
 match i with
 | .s i=>C2 N bA i o
 | .next d x=>match o.op with
  | .next it false=>o.dst==some d&&decide (d<N)&&eg x it
  |_=>false
 | .call d f xs=>match o.op with
  | .call ⟨.value qX,args,_⟩=>o.dst==d&&jf N d&&eg f qX&&xP xs args.toList
  |_=>false
def Bo(N:Nat)(bA:List (Nat×dC))(ops:List Oper)(g:c5)(o:Oper):Bool:=
 (match g.g,o.guard with
  |none,none=>true
  |some (s,b),some (j,bO)=>b==bO&&((ops[j]?).bind (·.dst))==some s&&decide (s<N)&&o.dst==g.i.dst&&jf N g.i.dst
  |_,_=>false)&&ur N bA g.i o
def kh(N:Nat)(bA:List (Nat×dC))(ops:List Oper):List c5→List Oper→Bool
 |[],[]=>true
 |g::gs,o::os=>Bo N bA ops g o&&kh N bA ops gs os
 |_,_=>false
theorem V5{w:World}{ν:bc}:∀{cg bK:List ah} {ba us:List Value},cK w ν cg ba→cK w ν bK us→cK w ν (cg++bK) (ba++us)
 |[],bK,ba,us,h,cr=>by simp only[cK]at h;subst h;simpa using cr
 |p::cg,bK,ba,us,h,cr=>by simp only[cK]at h;obtain⟨u,ca,rfl,J,U⟩:=h;simp only[bT,cK];exact⟨u,_,rfl,J,V5 U cr⟩
theorem wu.mono{P:cB}{f:FuncId}{ba:Array Value}{w:World}{R Nk:Ending→World→Prop}(h:wu P f ba w R)(bh:∀e w',R e w'→Nk e w'):wu P f ba w Nk:=by
 rcases h with⟨J,U⟩|⟨v,w',J,U⟩
 ·exact .inl ⟨J,U.mono bh⟩
 ·exact .inr ⟨v,w',J,bh _ _ U⟩
theorem P0{P:cB}{C:e8}{st:bq}{a:Act}{w:World}{ν:bc}(aL:cO C st a w ν){o:Oper}{qX:Operand}{args:Array Operand}{Ay:Array fT}(mU:o.op= .call ⟨.value qX,args,Ay⟩){d:Option Nat}(aQ:o.dst=d)(w7:jf C.N d=true)
  {n:Nat} {dp:List ah} (aI:a7 w ν (.func n dp) (a.eval qX)) {cg:List ah} (tG:cK w ν cg (args.toList.map a.eval)) {K:bq→Prop}
  (ay:∃(s:cI) (qb:ah→cI→Prop) (κ:Option Nat) (n':Nat) (o':cI→List aH),gA (inObs s) s.b st.b∧oE (inObs s) s.e st.e∧ij s∧aJ (inObs s) (cR (cg++dp))∧(∀(w:World) (ν:bc) (ba:Array Value),Good (fe ν s) w ν s.b s.e→n3 ν s→cK w ν (cR (cg++dp)) ba.toList→
   wu P n ba w fun e w'=> ∃v r ai bk,e= .returned v∧qb r ai∧a7 w' bk r v∧Good (fun bl=>fe ν s bl∨w.heap.size≤bl) w' bk ai.b ai.e∧Ei κ bk ai∧ij ai∧pA ⟨w,ν,fe ν s,0,cQ s⟩ w' bk)∧
   (∀m,κ=some m→fresh st.n st.o (.loc m))∧(∀k r ai,qb r ai→fresh n' (o' ai) k→fresh st.n (st.o++cQ ai) k∧∀m,κ=some m→k≠ .loc m)∧
   ∀r ai,qb r ai→((∀m,(look (.obj m) ai.b).isSome→(look (.obj m) s.b).isSome∨ .obj m∉st.o)∧(∀m,(look (.obj m) ai.e).isSome→(look (.obj m) s.e).isSome∨ .obj m∉st.o))∧K {after st s ai d r with n:=n',o:=o' ai})
  {qQ:Act→World→Prop} {Q:Exit→Act→World→Prop} (c9:∀st' bm w' bk,K st'→cO C st' bm w' bk→qQ bm w'):o.wp P a w qQ Q:=by
 obtain⟨s,qb,κ,n',o',bH,cj,da,ie,lM,Qh,Qb,oW⟩:=ay;simp only[a7]at aI;obtain⟨us,aK,hu⟩:=aI;have lu:cK w (ν.cut (inObs s)) (cR (cg++dp)) ((args.map a.eval)++us).toList:=by refine xZ (nS.cut _ w ν) _ _ ie (GA _ _ ?_);simpa using V5 tG hu
 have re:Good (fe (ν.cut (inObs s)) s) w (ν.cut (inObs s)) s.b s.e:=aL.good.cut bH cj (fun bl _ h=>h);have hex:n3 (ν.cut (inObs s)) s:=by
  intro k;refine⟨?_,?_,?_⟩;rotate_left 2
  ·rintro j b ⟨ag,ae⟩;obtain⟨t1,t2⟩:=aL.fr.trn k j b ae;rcases ag with ag|ag<;>obtain⟨x,ab⟩:=fD.1 ag
   ·obtain⟨bl,ca,el,ak,_⟩:=aL.good.box k x (bH k x ab).1;rw[t1]at ak;cases ak
   ·obtain⟨v',ca,ak,_⟩:=aL.good.own k x (cj k x ab).1;rw[t2]at ak;cases ak
  ·intro au;by_cases ag:inObs s k
   ·rw[bc.cut_bx ag];rcases ag with ag|ag
    ·rw[au]at ag;cases ag
    ·obtain⟨x,ab⟩:=fD.1 ag;obtain⟨v',ca,ak,_⟩:=aL.good.own k x (cj k x ab).1;rcases aL.good.one k with J|J
     ·exact J
     ·rw[J]at ak;cases ak
   ·exact(bc.cut_no ag).1
  ·intro au;by_cases ag:inObs s k
   ·rw[bc.cut_ow ag];rcases ag with ag|ag
    ·obtain⟨x,ab⟩:=fD.1 ag;obtain⟨bl,ca,el,ak,_⟩:=aL.good.box k x (bH k x ab).1;rcases aL.good.one k with J|J
     ·rw[J]at ak;cases ak
     ·exact J
    ·rw[au]at ag;cases ag
   ·exact(bc.cut_no ag).2.1
 rcases lM w (ν.cut (inObs s)) ((args.map a.eval)++us) re hex lu with⟨⟨fn,g1,g2,g3⟩,lM⟩|⟨v,w',lM,bI⟩
 ·obtain⟨code,adQ⟩:=fD.1 g2;have h3:(execOp a.eval o).run P w= .ok (.enter n ((args.map a.eval)++us)) w:=by obtain⟨dst,op,ty,pos,Nu,u6⟩:=o;simp only at mU;subst mU;simp only[execOp,resolve,aK,Deferred.ofValue,fC,gk,fJ,invoke,callFunc,run_program,g1,g3,adQ];simp
  unfold Oper.wp;rw[h3];simp only[Oper.upon];refine lM.mono fun e w' bI=>?_;obtain⟨v,r,ai,bk,rfl,bn,a6,bz,bU,cT,c8⟩:=bI;obtain⟨⟨hV,fZ⟩,ad⟩:=oW r ai bn;rw[aQ];exact c9 _ _ _ _ ad (aL.callK bH cj da bz bU (fun m hm=>aL.new _ (Qh m hm)) (n':=n') (o':=o' ai) (fun k ad=>Qb k r ai bn ad) cT c8 hV fZ d w7 a6)
 ·have h3:(execOp a.eval o).run P w= .ok (.value v) w':=by obtain⟨dst,op,ty,pos,Nu,u6⟩:=o;simp only at mU;subst mU;simp only[execOp,resolve,aK,Deferred.ofValue,fC,gk,fJ,invoke];simpa using lM
  obtain⟨v2,r,ai,bk,B3,bn,a6,bz,bU,cT,c8⟩:=bI;cases B3;obtain⟨⟨hV,fZ⟩,ad⟩:=oW r ai bn;refine l4 h3 ?_;rw[aQ];exact c9 _ _ _ _ ad (aL.callK bH cj da bz bU (fun m hm=>aL.new _ (Qh m hm)) (n':=n') (o':=o' ai) (fun k ad=>Qb k r ai bn ad) cT c8 hV fZ d w7 a6)
theorem PZ{P:cB}{C:e8}{st:bq}{a:Act}{w:World}{ν:bc}(aL:cO C st a w ν){o:Oper}{qX:Operand}{args:Array Operand}{Ay:Array fT}(mU:o.op= .call ⟨.value qX,args,Ay⟩){d:Option Nat}(aQ:o.dst=d)(w7:jf C.N d=true)
  {n:Nat} {dp:List ah} (aI:a7 w ν (.func n dp) (a.eval qX)) {cg:List ah} (tG:cK w ν cg (args.toList.map a.eval)) {K:bq→Prop} (ay:c4 P n (cR (cg++dp)) st d K)
  {qQ:Act→World→Prop} {Q:Exit→Act→World→Prop} (c9:∀st' bm w' bk,K st'→cO C st' bm w' bk→qQ bm w'):o.wp P a w qQ Q:=by
 refine P0 aL mU aQ w7 aI tG (K:=K) ?_ c9;rcases ay with⟨s,qb,bH,cj,da,ie,lM,oW⟩|⟨s,qb,bH,cj,da,ie,iC,lM,oW⟩
 ·refine⟨s,qb,none,st.n,fun ai=>st.o++cQ ai,bH,cj,da,ie,fun w ν ba J U ao=>(lM w ν ba J U ao).mono fun e w' bI=>?_,fun m hm=>(by cases hm),fun k _ ai _ ad=>⟨ad,fun m hm=>by cases hm⟩,oW⟩;obtain⟨v,r,ai,bk,g1,g2,g3,g4,g5,g6⟩:=bI;exact⟨v,r,ai,bk,g1,g2,g3,g4,g5.k,g6⟩
 ·refine⟨s,qb,some st.n,st.n+1,fun ai=>st.o++cQ ai,bH,cj,da,ie,lM,fun m hm=>(by cases hm;exact⟨eR _,iC⟩),fun k _ ai _ ad=>⟨IW (Nat.le_succ _) (fun _ h=>h) ad,fun m hm=>?_⟩,oW⟩;cases hm;rintro rfl;have:=ad.1;simp only at this;omega
theorem cO.drawn{C:e8}{st:bq}{a:Act}{w:World}{ν:bc}(aL:cO C st a w ν)(n:Nat):cO C st a {w with drawn:=n} ν:=by
 have kI:ld w ν {w with drawn:=n} ν:=⟨fun _ _ h=>⟨h,rfl⟩,fun _ _ _ h=>h,fun _ n u _ h=>⟨n,u,h,.inl ⟨rfl,rfl⟩⟩,fun _ _ _=>rfl,fun _ _ _ _ h=>h⟩;refine aL.over kI rfl ⟨aL.good.alt,fun k cs ad=>?_,aL.good.inj,fun g o a1=>?_,aL.good.oinj,aL.good.obx,aL.good.one,aL.good.otr⟩ ⟨aL.fr.os,aL.fr.tape,aL.fr.output,aL.fr.size,aL.fr.block,aL.fr.keep,aL.fr.fresh,aL.fr.obj,aL.fr.obn,aL.fr.row,aL.fr.obr,aL.fr.trd,aL.fr.trb,aL.fr.trn,aL.fr.sh⟩ aL.new
 ·obtain⟨bl,us,el,J,U,ao,a8,bZ⟩:=aL.good.box k cs ad;exact⟨bl,us,el,J,U,ao,a8,p0 kI bZ⟩
 ·obtain⟨v,us,J,U,ao,a8⟩:=aL.good.own g o a1;exact⟨v,us,J,U,ao,rL kI (fun _ _ _ h=>h) a8⟩
theorem acv{α:Type}{l:List α}{p:α→Bool}(h:∀x∈l,p x=false):l.filter p=[]:=by rw[List.filter_eq_nil_iff];intro x ab;simp[h x ab]
theorem acu{α:Type}{l:List α}{p:α→Bool}(h:∀x∈l,p x=true):l.filter p=l:=List.filter_eq_self.2 h
def FP(r m since clock:Nat)(seen:Array Nat)(P1:Array (Option MapEntry)):Sem Value:=do
 match P1[←choose (.mapNext P1.size)]? with
 |some (some e)=>
  setObj r (.mapIter (some m) since (seen.push e.born) clock)
  pure (.tuple #[.bool true,e.key,e.val])
 |some none=>pure (.tuple #[.bool false])
 |none=>stuck "Next: no such candidate"
theorem Wg{P:cB}{w:World}(r m since clock:Nat)(seen:Array Nat)(l:List (Option MapEntry))(au:l≠[]):∃n x,x∈l∧(FP r m since clock seen l.toArray).run P w=
  (match x with|some e=>(do setObj r (.mapIter (some m) since (seen.push e.born) clock);pure (.tuple #[.bool true,e.key,e.val]):Sem Value)|none=>pure (.tuple #[.bool false])).run P {w with drawn:=n}:=by
 have fp:0<l.length:=List.length_pos_iff.2 au;unfold FP;have key:∀i,i<l.length→∀w',((do match(l.toArray[i]?:Option (Option MapEntry))with
   |some (some e)=>setObj r (.mapIter (some m) since (seen.push e.born) clock);pure (.tuple #[.bool true,e.key,e.val])
   |some none=>pure (.tuple #[.bool false])
   |none=>stuck "Next: no such candidate" :Sem Value)).run P w'=((match l[i]! with|some e=>(do setObj r (.mapIter (some m) since (seen.push e.born) clock);pure (.tuple #[.bool true,e.key,e.val]):Sem Value)|none=>pure (.tuple #[.bool false]))).run P w':=by
  intro i hi w';have J:l.toArray[i]? =some l[i]!:=by simp[hi]
  rw[J];cases l[i]!<;>rfl
 by_cases aI:(Question.mapNext l.length).forced=true
 ·refine⟨w.drawn,l[0]!,by simp[fp],?_⟩;rw[←key 0 fp];have ay:(choose (.mapNext l.length):Sem Nat).run P w= .ok 0 w:=by simp[aI]
  simp only[List.size_toArray,fC,ay,fJ]
 ·refine⟨w.drawn+1,l[(w.tape w.drawn (.mapNext l.length))%l.length]!,by simp[Nat.mod_lt _ fp],?_⟩;rw[←key _ (Nat.mod_lt _ fp)];have ay:(choose (.mapNext l.length):Sem Nat).run P w= .ok ((w.tape w.drawn (.mapNext l.length))%l.length) {w with drawn:=w.drawn+1}:=by simp[aI,Question.cut]
  simp only[List.size_toArray,fC,ay,fJ]
theorem akp{P:cB}{w:World}{bl mb:Nat}{seen:List Nat}{es:List MapEntry}{clock:Nat}{ty:fT}(J:w.heap[bl]? =some (.mapIter (some mb) clock seen.toArray clock))(U:w.heap[mb]? =some (.map es.toArray clock))(bC:∀e∈es,e.born<clock):
  ∃n,((∀e∈es,e.born∈seen)∧(Instr.next (.pointer (some ⟨bl,0,none⟩)) false ty).run P w= .ok (.tuple #[.bool false]) {w with drawn:=n})∨
   ∃e∈es,e.born∉seen∧(Instr.next (.pointer (some ⟨bl,0,none⟩)) false ty).run P w= .ok (.tuple #[.bool true,e.key,e.val]) {w with drawn:=n,heap:=w.heap.setIfInBounds bl (.mapIter (some mb) clock (seen++[e.born]).toArray clock)}:=by
 have gr:(!seen.toArray.isEmpty&& !es.toArray.isEmpty&&es.toArray.all (fun e=>decide (e.born≥clock)))=false:=by
  cases es with
  |nil=>simp
  |cons e r=>have:=bC e (by simp);simp;intro _ h;omega
 generalize jt:(es.filter fun e=> !seen.contains e.born)=left;have aeq:(es.toArray.filter fun e=> !seen.toArray.contains e.born)=left.toArray:=by rw[←jt];simp
 have jv:∀e∈left,e∈es∧e.born∉seen:=fun e he=>by rw[←jt]at he;have:=mD.1 he;exact⟨this.1,by simpa using this.2⟩
 have hold:(left.toArray.filter fun e=>decide (e.born<clock))=left.toArray:=by rw[List.filter_toArray,acu];intro e he;have:=bC e (jv e he).1;simp[this]
 have kl:(left.toArray.filter fun e=>decide (e.born≥clock))= #[]:=by rw[List.filter_toArray,acv];intro e he;have:=bC e (jv e he).1;simp;omega
 have h3:(Instr.next (.pointer (some ⟨bl,0,none⟩)) false ty).run P w=(FP bl mb clock clock seen.toArray ((if left.toArray.isEmpty then #[none]else #[])++(left.toArray++ #[]).map some)).run P w:=by unfold Instr.next FP;simp only[fC,uB J,uB U,fJ,gr,aeq,hold,kl,gP,if_false];rfl
 rw[h3];by_cases za:left=[]
 ·subst za;obtain⟨n,x,g1,g2⟩:=Wg (P:=P) (w:=w) bl mb clock clock seen.toArray [none] (by simp);refine⟨n,.inl ⟨fun e he=>?_,?_⟩⟩
  ·have:=List.filter_eq_nil_iff.1 jt e he;simpa using this
  ·simp only[List.mem_singleton]at g1;subst g1;have ay:((if(([]:List MapEntry).toArray).isEmpty then #[none]else #[])++(([]:List MapEntry).toArray++ #[]).map some)=[none].toArray:=by simp
   rw[ay,g2];rfl
 ·have ay:((if left.toArray.isEmpty then #[none]else #[])++(left.toArray++ #[]).map some)=(left.map some).toArray:=by simp[za]
  obtain⟨n,x,g1,g2⟩:=Wg (P:=P) (w:=w) bl mb clock clock seen.toArray (left.map some) (by simpa using za);simp only[h8]at g1;obtain⟨e,he,rfl⟩:=g1;refine⟨n,.inr ⟨e,(jv e he).1,(jv e he).2,?_⟩⟩;rw[ay,g2];simp only[fC];rw[C1 (w:={w with drawn:=n}) (o:= .mapIter (some mb) clock seen.toArray clock) J];simp
theorem Iq:∀{borns:List Nat} {us:List Value} {e:MapEntry},e∈fx borns us→e.born∈borns
 |[],us,e,h=>by simp[fx]at h
 |b::eS,[],e,h=>by simp[fx]at h
 |b::eS,[_],e,h=>by simp[fx]at h
 |b::eS,k::v::us,e,h=>by
  simp only[fx,fU]at h;rcases h with rfl|h
  ·simp
  ·exact ps _ (Iq h)
theorem Qs:∀{borns:List Nat} {kvs:List ah} {us:List Value},kvs.length=2*borns.length→us.length=kvs.length→∀{b:Nat},b∈borns→∃e∈fx borns us,e.born=b
 |[],_,_,_,_,b,ae=>by simp at ae
 |bO::eS,kvs,[],J,U,b,ae=>by rw[J]at U;simp at U
 |bO::eS,kvs,[_],J,U,b,ae=>by rw[J]at U;simp at U;omega
 |bO::eS,kvs,k::v::us,J,U,b,ae=>by
  rcases fU.1 ae with rfl|ae
  ·exact⟨⟨k,v,b⟩,by simp[fx],rfl⟩
  ·obtain⟨e,g1,g2⟩:=Qs (kvs:=kvs.drop 2) (us:=us) (borns:=eS) (by simp at J⊢;omega) (by simp at J U⊢;omega) ae;exact⟨e,by simp[fx,g1],g2⟩
theorem T0{w:World}{ν:bc}:∀{borns:List Nat} {kvs:List ah} {us:List Value},kvs.length=2*borns.length→borns.Pairwise (· < ·)→cK w ν kvs us→∀{e:MapEntry},e∈fx borns us→∃k v,mw e.born borns kvs=some (.tuple [k,v])∧a7 w ν k e.key∧a7 w ν v e.val
 |[],_,_,_,_,_,e,h=>by simp[fx]at h
 |b::eS,[],us,J,_,_,e,_=>by simp at J
 |b::eS,[_],us,J,_,_,e,_=>by simp at J;omega
 |b::eS,k::v::kvs,us,J,U,ao,e,h=>by
  simp only[cK]at ao;obtain⟨h7,ME,rfl,dI,iL,rS,rfl,eZ,kK⟩:=ao;simp only[fx,fU]at h;rw[mE]at U;rcases h with rfl|h
  ·exact⟨k,v,by simp[mw],dI,eZ⟩
  ·obtain⟨bL,v',g1,g2,g3⟩:=T0 (by simp at J;omega) U.2 kK h;have cF:b≠e.born:=Nat.ne_of_lt (U.1 _ (Iq h));exact⟨bL,v',by simp[mw,cF,g1],g2,g3⟩
theorem agV{P:cB}{C:e8}{st:bq}{a:Act}{w:World}{ν:bc}(aL:cO C st a w ν){o:Oper}{it:Operand}(mU:o.op= .next it false){d:Nat}(aQ:o.dst=some d)(w7:jf C.N (some d)=true){v:ah}(aK:a7 w ν v (a.eval it)){K:bq→Prop}(he:sd st d v K)
  {qQ:Act→World→Prop} {Q:Exit→Act→World→Prop} (c9:∀st' bm w' bk,K st'→cO C st' bm w' bk→qQ bm w'):o.wp P a w qQ Q:=by
 unfold sd at he;split at he
 ·rename_i fj;split at he
  ·rename_i since seen last mk ve;split at he
   ·rename_i clock borns kvs xj;obtain⟨⟨rfl,rfl⟩,y4,oa⟩:=he;simp only[a7]at aK;obtain⟨bl,cc,b4⟩:=aK;obtain⟨ic,us,el,a6,bz,bU,cT,c8⟩:=aL.good.box fj _ ve;rw[cc]at a6;cases a6;obtain⟨mb,ms,ap2,m1,m2,m3,m4,m5⟩:=aL.good.box mk _ xj;simp only[iZ,cK]at c8;obtain⟨u,ca,hu,⟨ap1,dI,rfl⟩,rfl⟩:=c8;rw[m1]at dI;cases dI;simp only[jD,hu]at cT;simp only[jD]at m4;simp only[iZ]at m5;obtain⟨n,lP⟩:=akp (P:=P) (ty:=o.type) cT m4 (fun e he=>m5.2.lt _ (Iq he));have mh:∀v' w',(Instr.next (.pointer (some ⟨bl,0,none⟩)) false o.type).run P w= .ok v' w'→(execOp a.eval o).run P w= .ok (.value v') w':=by intro v' w' h3;obtain⟨dst,op,ty,pos,Nu,u6⟩:=o;simp only at mU h3;subst mU;simp only[execOp,b4];exact Dj h3
    rcases lP with⟨J,U⟩|⟨e,J,U,ao⟩
    ·refine l4 (mh _ _ U) ?_;rw[aQ];refine c9 _ _ _ _ (y4 fun b ae=>?_) ((aL.drawn n).put w7 (p:= .tuple [.bool false]) (by simp[a7,cK]));obtain⟨e,f1,f2⟩:=Qs m5.2.len (Gy m5.1) ae;rw[←f2];exact J e f1
    ·obtain⟨k,v,f1,f2,f3⟩:=T0 m5.2.len m5.2.inc m5.1 J;refine l4 (mh _ _ ao) ?_;rw[aQ];have vo:=((aL.drawn n).setBox (w':={w with drawn:=n,heap:=w.heap.setIfInBounds bl (.mapIter (some mb) last (seen++[e.born]).toArray last)}) ve cc (cs':=[.hdi last (seen++[e.born]) last,.gmap mk]) (us:=us) (el:=el) rfl rfl rfl
      (fun j af=>Array.getElem?_setIfInBounds_ne (kR af)) (by simp) (by simp[jD,hu,(Array.getElem?_eq_some_iff.1 cT).1]) (by simp only[iZ,cK];exact⟨_,_,hu,by simp only[a7];exact⟨mb,m1,rfl⟩,rfl⟩))
     refine c9 _ _ _ _ (oa e.born k v f1 U) (vo.1.put w7 (p:= .tuple [.bool true,k,v]) ?_);simp only[a7];refine⟨_,rfl,?_⟩;simp only[cK];have kI:ld w ν {w with drawn:=n} ν:=⟨fun _ _ h=>⟨h,rfl⟩,fun _ _ _ h=>h,fun _ n u _ h=>⟨n,u,h,.inl ⟨rfl,rfl⟩⟩,fun _ _ _=>rfl,fun _ _ _ _ h=>h⟩;exact⟨_,_,rfl,by simp[a7],_,_,rfl,x0 vo.2 (x0 kI f2),_,_,rfl,x0 vo.2 (x0 kI f3),rfl⟩
   ·exact he.elim
  ·exact he.elim
 ·exact he.elim
theorem Qw{P:cB}{bA:List (Nat×dC)}(aN:fM P bA=true){C:e8}{st:bq}{a:Act}{w:World}{ν:bc}(aL:cO C st a w ν){i:eb}{o:Oper}(av:ur C.N bA i o=true){K:bq→Prop}(he:tx P st K i)
  {qQ:Act→World→Prop} {Q:Exit→Act→World→Prop} (c9:∀st' bm w' bk,K st'→cO C st' bm w' bk→qQ bm w'):o.wp P a w qQ Q:=by
 cases i with
 |s i=>
  simp only[tx]at he;split at he
  ·rename_i c st' ag;exact aks aN aL (by simpa only[ur]using av) ag he.1 fun bm w' bk h=>c9 _ _ _ _ he.2 h
  ·exact he.elim
 |next d x=>
  simp only[tx]at he;simp only[ur]at av;split at av
  ·rename_i it mU;simp only[cz,dL,fE]at av;obtain⟨⟨J,U⟩,ao⟩:=av;exact agV aL mU J (by simpa[jf]using U) (eh aL ao) he c9
  ·cases av
 |call d f xs=>
  simp only[tx]at he;simp only[ur]at av;split at av
  ·rename_i qX args Ay mU;simp only[cz,dL]at av;obtain⟨⟨⟨J,U⟩,ao⟩,a8⟩:=av;split at he
   ·rename_i n dp aI;have:=eh aL ao;rw[aI]at this;exact PZ aL mU J U this (CX aL a8) he c9
   ·exact he.elim
  ·cases av
theorem LP{C:e8}{st:bq}{a:Act}{w:World}{ν:bc}(h:cO C st a w ν){s:Nat}{b:Bool}(ag:get s st.t= .bool b):cO C {st with t:=put s (.bool b) st.t} a w ν:=by
 refine⟨h.good,h.fr,h.defers,h.size,fun i=>?_,h.new⟩;have:=h.slot i;simp only[o5];split
 ·rename_i e;subst e;rw[←ag];exact this
 ·exact this
theorem XB{C:e8}{st:bq}{a:Act}{w:World}{ν:bc}(h:cO C st a w ν){ops:Array Oper}{j s:Nat}(af:(ops.toList[j]?).bind (·.dst)=some s)(ag:s<C.N):
  (∀b,get s st.t= .bool b→yielded ops a.tmps j=some b)∧(get s st.t= .tuple []→yielded ops a.tmps j=none):=by
 have bC:s<a.tmps.size:=by rw[h.size];exact ag
 have rn:=h.slot s;have gU:a.tmps.getD s undef=a.tmps[s]:=by simp[Array.getD,bC]
 rw[gU]at rn;have aG:yielded ops a.tmps j=match a.tmps[s]with| .bool b=>some b|_=>none:=by unfold yielded;rw[ta]at af;rw[af];simp only[kS,Array.getElem?_eq_getElem bC];cases a.tmps[s]<;>rfl
 constructor
 ·intro b ae;rw[ae]at rn;simp only[a7]at rn;rw[aG,rn]
 ·intro ae;rw[ae]at rn;simp only[a7,cK]at rn;obtain⟨us,ak,aB⟩:=rn;rw[aG,ak]
theorem QA{P:cB}{bA:List (Nat×dC)}(aN:fM P bA=true){C:e8}{ops:Array Oper}{K:bq→Prop}{Q:Exit→Act→World→Prop}(hU:∀st' bm w' bk,K st'→cO C st' bm w' bk→Q .normal bm w'):
  ∀(gs:List c5) (os:List Oper) (k:Nat),(∀j,os[j]? =ops[k+j]?)→kh C.N bA ops.toList gs os=true→∀(st:bq) (a:Act) (w:World) (ν:bc),hS P gs st K→cO C st a w ν→wpOps P ops Q (List.range' k gs.length) a w
 |[],[],k,_,_,st,a,w,ν,he,aL=>by simp only[List.length_nil,List.range'_zero,wpOps];exact hU _ _ _ _ he aL
 |[],_::_,_,_,ad,_,_,_,_,_,_=>by simp[kh]at ad
 |_::_,[],_,_,ad,_,_,_,_,_,_=>by simp[kh]at ad
 |g::gs,o::os,k,zg,ad,st,a,w,ν,he,aL=>by
  simp only[kh,cz]at ad;have bB:ops[k]? =some o:=by simpa using(zg 0).symm
  have BW:∀j,os[j]? =ops[k+1+j]?:=fun j=>by have:=zg (j+1);simpa[Nat.add_assoc,Nat.add_comm 1 j]using this
  simp only[p8,List.range'_succ,wpOps,bB];have bS:∀st' bm w' bk,hS P gs st' K→cO C st' bm w' bk→wpOps P ops Q (List.range' (k+1) gs.length) bm w':=fun st' bm w' bk J U=>QA aN hU gs os (k+1) BW ad.2 st' bm w' bk J U;obtain⟨mN,Rr⟩:=g;have a1:=ad.1;simp only[Bo,cz]at a1;obtain⟨qs,rb⟩:=a1;cases mN with
  |none=>
   cases eO:o.guard with
   |some x=>simp[eO]at qs
   |none=>
    have hw:oP o (yielded ops a.tmps)=true:=by simp[oP,eO]
    rw[if_pos hw];simp only[hS]at he;exact .inl (Qw aN aL rb he bS)
  |some x9=>
   obtain⟨s,want⟩:=x9;cases eO:o.guard with
   |none=>simp[eO]at qs
   |some x=>
    obtain⟨j,bO⟩:=x;simp only[eO,cz,dL,fE]at qs;obtain⟨⟨⟨⟨rfl,U⟩,ao⟩,a8⟩,bZ⟩:=qs;obtain⟨ky,oN⟩:=XB aL U ao;simp only[hS]at he;split at he
    ·rename_i b ae;have aG:=ky b ae;by_cases e:b=want
     ·subst e;have hw:oP o (yielded ops a.tmps)=true:=by simp[oP,eO,aG]
      rw[if_pos hw];exact .inl (Qw aN (LP aL ae) rb (he.1 rfl) bS)
     ·have hw:¬(oP o (yielded ops a.tmps)=true):=by simp[oP,eO,aG,e]
      rw[if_neg hw];have fR:b= !want:=by cases b<;>cases want<;>simp at e⊢
      have mj:cO C {st with t:=put s (.bool !want) st.t} a w ν:=LP aL (by rw[ae,fR]);rw[a8];exact bS _ _ _ _ (he.2 fR) (mj.put bZ (by simp[a7,cK,undef]))
    ·rename_i ae;have aG:=oN ae;have hw:¬(oP o (yielded ops a.tmps)=true):=by simp[oP,eO,aG]
     rw[if_neg hw,a8];exact bS _ _ _ _ he (aL.put bZ (by simp[a7,cK,undef]))
    ·exact he.elim
structure de where
 t:Nat→ah
 b:aH→Option (List ah)
 e:aH→Option fF
 F:aH→Prop
structure kC where
 d:Option Nat
 p:ah
 bw:List (aH×List ah)
 ew:List (aH×fF)
 rm:Option aH
def ig{α:Type}(l:List (aH×α))(f:aH→Option α):aH→Option α:=fun k=>match look k l with|some x=>some x|none=>f k
def de.do(A:de)(x:kC):de:={t:=fun i=>if x.d=some i then x.p else A.t i,b:=ig x.bw A.b,e:=ig x.ew A.e,F:=fun k=>A.F k∧x.rm≠some k}
structure kC.apart (x y:kC):Prop where
 d:∀i,x.d=some i→y.d≠some i
 b:∀k,(look k x.bw).isSome→look k y.bw=none
 e:∀k,(look k x.ew).isSome→look k y.ew=none
theorem de.do_comm(A:de){x y:kC}(h:x.apart y):(A.do x).do y=(A.do y).do x:=by
 simp only[de.do,de.mk.injEq];refine⟨?_,?_,?_,?_⟩
 ·funext i;by_cases J:x.d=some i
  ·have:=h.d i J;simp[J,this]
  ·simp[J]
 ·funext k;simp only[ig];cases ab:look k x.bw with
  |none=>cases look k y.bw<;>rfl
  |some u=>rw[h.b k (by simp[ab])]
 ·funext k;simp only[ig];cases ab:look k x.ew with
  |none=>cases look k y.ew<;>rfl
  |some u=>rw[h.e k (by simp[ab])]
 ·funext k;exact propext ⟨fun h=>⟨⟨h.1.1,h.2⟩,h.1.2⟩,fun h=>⟨⟨h.1.1,h.2⟩,h.1.2⟩⟩
def dv(t:Nat→ah):ds→ah
 | .t i=>t i
 | .c p=>p
def rz(b:aH→Option (List ah))(e:aH→Option fF)(agg:Bool)(sz:Nat):ah→Option (Prop×ah)
 | .rptr dF k n i f=>x1 agg sz dF n i f (e k)
 | .ptr k off=>
  match b k with
  |some cs=>if agg then some (hN cs=true∧off+sz≤cs.length,.agg ((cs.drop off).take sz))else(cs[off]?).map fun p=>(hN cs=true,p)
  |none=>none
 | .eptr p=>if agg then some (isAgg sz p,p)else some (dX p=true∧cells p=[p],p)
 |_=>none
def wI(t:Nat→ah):List ah→List (Nat×Nat×ds)→Option (Prop×List ah)
 |cs,[]=>some (True,cs)
 |cs,(off,sz,x)::r=>
  match wI t (nH cs off (cells (dv t x))) r with
  |some (c,cs')=>some ((dX (dv t x)=true∧(cells (dv t x)).length=sz∧off+sz≤cs.length)∧c,cs')
  |none=>none
def pn(t:Nat→ah)(b:aH→Option (List ah))(e:aH→Option fF):fO→Option (Prop×ah)
 | .mov x=>some (True,dv t x)
 | .pick c x y=>F4 (dv t c) (dv t x) (dv t y)
 | .load agg sz x=>rz b e agg sz (dv t x)
 | .faddr off agg sz x=>pH off agg sz (dv t x)
 | .fld off agg sz x=>qZ off agg sz (dv t x)
 | .iaddr sz x i=>zt sz (dv t x) (dv t i)
 | .sidx x i=>GL (dv t x) (dv t i)
 | .ssl x lo hi=>GQ (dv t x) (lo.map (dv t)) (hi.map (dv t))
 | .lsl sz x lo hi=>FD sz (dv t x) (lo.map (dv t)) (hi.map (dv t))
 | .bin op wr x y=>AX op wr (dv t x) (dv t y)
 | .notB x=>FR (dv t x)
 | .neg x=>FO (dv t x)
 | .conv k x=>D9 k (dv t x)
 | .ext i x=>yI i (dv t x)
 | .len x=>zD (dv t x)
 | .slen x=>C6 (dv t x)
 | .build zero parts=>(wI t zero parts).map fun(c,cs)=>(c,.agg cs)
 | .nck x=>zN (dv t x)
 | .min2 x y=>FN (dv t x) (dv t y)
 | .mkf n xs=>some (True,.func n (xs.map (dv t)))
 | .mget b9 zero ok x k=>nE b b9 zero ok (dv t x) (dv t k)
 | .ment x=>pe b (dv t x)
 | .mlen x=>ug b (dv t x)
 | .beq neg dK x y=>ib neg dK (dv t x) (dv t y)
 | .max2 x y=>FH (dv t x) (dv t y)
 | .mkif n x=>some (True,.iface n (dv t x))
 | .loadB agg sz x=>rz b (fun _=>none) agg sz (dv t x)
 | .mgetB b9 zero ok x k=>nE b b9 zero ok (dv t x) (dv t k)
 | .loadZ agg sz x=>Bn agg sz (dv t x)
structure lb (st:bq) (A:de):Prop where
 t:∀i,get i st.t=A.t i
 b:∀k,look k st.b=A.b k
 e:∀k,look k st.e=A.e k
theorem iD{st:bq}{A:de}(h:lb st A)(x:ds):cm st.t x=dv A.t x:=by
 cases x
 ·exact h.t _
 ·rfl
theorem tA{st:bq}{A:de}(h:lb st A):cm st.t=dv A.t:=funext (iD h)
theorem af8{st:bq}{A:de}(h:lb st A)(agg:Bool)(sz:Nat)(p:ah):mv st.b st.e agg sz p=rz A.b A.e agg sz p:=by
 cases p<;>simp only[mv,rz]
 ·rw[h.b];try rfl
 ·rw[h.e]
theorem af9{st:bq}{A:de}(h:lb st A)(agg:Bool)(sz:Nat)(p:ah):mv st.b [] agg sz p=rz A.b (fun _=>none) agg sz p:=by
 cases p<;>simp only[mv,rz]
 ·rw[h.b];try rfl
 ·rfl
theorem NV{st:bq}{A:de}(h:lb st A):∀(parts:List (Nat×Nat×ds)) (cs:List ah),tt st.t cs parts=wI A.t cs parts
 |[],cs=>rfl
 |(off,sz,x)::r,cs=>by simp only[tt,wI,iD h,NV h r];try rfl
theorem WU{st:bq}{A:de}(h:lb st A)(i:fO):ha st i=pn A.t A.b A.e i:=by have ae:(fun k=>look k st.b)=A.b:=funext h.b;cases i<;>simp only[ha,pn,tA h,af8 h,af9 h,NV h,ae]
def gY:ds→List Nat
 | .t i=>[i]
 | .c _=>[]
def Le:Option ds→List Nat
 |some x=>gY x
 |none=>[]
def fO.looks:fO→List Nat
 | .mov x| .load _ _ x| .loadB _ _ x| .loadZ _ _ x| .faddr _ _ _ x| .fld _ _ _ x| .notB x| .neg x| .conv _ x| .ext _ x| .len x| .slen x| .nck x| .ment x| .mlen x| .mkif _ x=>gY x
 | .pick c x y=>gY c++gY x++gY y
 | .iaddr _ x i| .sidx x i=>gY x++gY i
 | .ssl x lo hi| .lsl _ x lo hi=>gY x++Le lo++Le hi
 | .bin _ _ x y| .min2 x y| .max2 x y| .beq _ _ x y=>gY x++gY y
 | .build _ cg=>cg.flatMap fun p=>gY p.2.2
 | .mkf _ xs=>xs.flatMap gY
 | .mget _ _ _ x k| .mgetB _ _ _ x k=>gY x++gY k
def ek.looks:ek→List Nat
 | .v _ i=>i.looks
 | .box _ _ x=>gY x
 | .alloc _ _ _=>[]
 | .store _ x y=>gY x++gY y
 | .storeE _ x y=>gY x++gY y
 | .bsl _ _ _ xs=>xs.flatMap gY
 | .app _ _ _ x y=>gY x++gY y
 | .bslm _ _ _ _ xs=>xs.flatMap gY
 | .mks _ _ _ _ _ x=>gY x
 | .appm _ _ _ _ x y=>gY x++gY y
 | .mkmap _ _=>[]
 | .mput _ x k y=>gY x++gY k++gY y
 | .range _ _ x=>gY x
def eb.looks:eb→List Nat
 | .s i=>i.looks
 | .call _ f xs=>gY f++xs.flatMap gY
 | .next _ x=>gY x
def c5.looks(g:c5):List Nat:=(match g.g with|some (s,_)=>[s]|none=>[])++g.i.looks
def qe(l:List Nat)(t dJ:Nat→ah):Prop:= ∀i∈l,t i=dJ i
theorem gn{t dJ:Nat→ah}{x:ds}(h:qe (gY x) t dJ):dv t x=dv dJ x:=by
 cases x
 ·exact h _ (by simp[gY])
 ·rfl
theorem kc{l aZ:List Nat}{t dJ:Nat→ah}(h:qe (l++aZ) t dJ):qe l t dJ∧qe aZ t dJ:=⟨fun i hi=>h i (by simp[hi]),fun i hi=>h i (by simp[hi])⟩
theorem Eh{t dJ:Nat→ah}{x:Option ds}(h:qe (Le x) t dJ):x.map (dv t)=x.map (dv dJ):=by
 cases x
 ·rfl
 ·simp[gn h]
theorem NU{t dJ:Nat→ah}:∀{parts:List (Nat×Nat×ds)} {cs:List ah},qe (parts.flatMap fun p=>gY p.2.2) t dJ→wI t cs parts=wI dJ cs parts
 |[],cs,_=>rfl
 |(off,sz,x)::r,cs,h=>by simp only[List.flatMap_cons]at h;obtain⟨J,U⟩:=kc h;simp only[wI,gn J,NU U]
theorem FG{t dJ:Nat→ah}:∀{xs:List ds},qe (xs.flatMap gY) t dJ→xs.map (dv t)=xs.map (dv dJ)
 |[],_=>rfl
 |x::xs,h=>by simp only[List.flatMap_cons]at h;obtain⟨J,U⟩:=kc h;simp[gn J,FG U]
def fO.isLoad:fO→Bool
 | .load _ _ _=>true
 | .loadB _ _ _=>true
 | .mgetB _ _ _ _ _=>true
 | .mget _ _ _ _ _=>true
 | .ment _=>true
 | .mlen _=>true
 |_=>false
theorem alp{t dJ:Nat→ah}{b bO:aH→Option (List ah)}{e fL:aH→Option fF}{i:fO}(h:qe i.looks t dJ)(ae:i.isLoad=false):pn t b e i=pn dJ bO fL i:=by
 cases i<;>simp only[fO.looks]at h<;>simp only[pn];case load agg sz x=>simp[fO.isLoad]at ae
 case loadB agg sz x=>simp[fO.isLoad]at ae
 case pick c x y=>obtain⟨J,ao⟩:=kc h;obtain⟨J,U⟩:=kc J;rw[gn J,gn U,gn ao]
 case iaddr=>obtain⟨J,U⟩:=kc h;rw[gn J,gn U]
 case sidx=>obtain⟨J,U⟩:=kc h;rw[gn J,gn U]
 case ssl=>obtain⟨J,ao⟩:=kc h;obtain⟨J,U⟩:=kc J;rw[gn J,Eh U,Eh ao]
 case lsl=>obtain⟨J,ao⟩:=kc h;obtain⟨J,U⟩:=kc J;rw[gn J,Eh U,Eh ao]
 case bin=>obtain⟨J,U⟩:=kc h;rw[gn J,gn U]
 case min2=>obtain⟨J,U⟩:=kc h;rw[gn J,gn U]
 case build=>rw[NU h]
 case mkf=>rw[FG h]
 case mget=>simp[fO.isLoad]at ae
 case mgetB=>simp[fO.isLoad]at ae
 case ment=>simp[fO.isLoad]at ae
 case mlen=>simp[fO.isLoad]at ae
 case max2=>obtain⟨J,U⟩:=kc h;rw[gn J,gn U]
 case beq=>obtain⟨J,U⟩:=kc h;rw[gn J,gn U]
 all_goals rw[gn h]
end Go.Pv
