/- Regions that draw their order, I: abstract states as functions, effects, and what an instruction does to them. -/
import Derived.WalkKit
import Derived.Orders
import Derived.KernelRfl
import Derived.IntWalk
import Derived.Laws.StructEq
import Derived.ChangeKeysEq
import Derived.MapKept
import Derived.ArgAppend
import Derived.Laws.OwnMore
set_option linter.all false
set_option maxHeartbeats 4000000
open Array renaming getElem?_toList→sV
open BitVec renaming ofInt→pY
open Bool renaming and_eq_true→cA,eq_iff_iff→pZ,false_eq_true→gP
open ByteArray renaming ext→amv,size→arN
open Go renaming Program→cC,TypeId→fT
open Go.ByteArray renaming toList_eq→amw
open Go.IntWalk renaming i64_in→oC
open Go.Op renaming bytesLess→hk
open Go.Region renaming wanted→oD
open Go.Result renaming andThen_ok→fK
open Go.Sem renaming run_bind→fF,run_pure→gp
open Go.Value renaming cells→pc,ownBlock→nK
open Go.Value.pointer renaming injEq→arU
open Go.World.grownBy renaming refl→amz
open List renaming all_eq_true→jb,cons_append→bU,getElem?_eq_getElem→cf,getElem?_eq_none→p1,getElem?_eq_some_iff→fL,length_append→pd,length_cons→p2,length_drop→rS,map_cons→gE,map_nil→pe,mem_append→kx,mem_cons→fU,mem_cons_of_mem→pf,mem_filter→nj,mem_map→h8,pairwise_cons→mC,replicate→qK,take→lG,take_length→nL,take_of_length_le→hl
open List.cons renaming injEq→p0
open Nat renaming add_mul→pj,le_refl→eR,le_trans→j4
open Ne renaming symm→kP
open Option renaming bind_some→j5,isSome_iff_exists→fG,isSome_none→j6,map_eq_some_iff→gF,map_some→nM
open Option.some renaming injEq→dG
open Prod.mk renaming injEq→jj
open _root_ renaming False→eQ,Option→aY,UInt8→dz,beq_iff_eq→dL,congrArg→e5,decide_eq_true_eq→fH
namespace Go.Pv
open Go Go.RowKit
inductive aH where
 |loc (s:Nat)
 |obj (n:Nat)
 deriving DecidableEq,Inhabited
inductive AI where
 |no
 |nil
 |own (k:aH)
 |tr (k:aH) (j:Nat)
 |lo (k:aH)
 deriving DecidableEq,Inhabited
inductive ah where
 |junk
 |int (k:IntKind) (n:Int)
 |bool (b:Bool)
 |str (s:List dz)
 |slice (sz:Nat) (tag:AI) (xs:List ah)
 |agg (cs:List ah)
 |ptr (key:aH) (off:Nat)
 |eptr (x:ah)
 |iface (t:Nat) (x:ah)
 |nilp
 |tuple (bc:List ah)
 |func (f:Nat) (dm:List ah)
 |gmap (key:aH)
 |row (sz:Nat) (key:aH) (n:Nat)
 |rptr (sz:Nat) (key:aH) (n i f:Nat)
 |hdm (clock:Nat) (borns:List Nat)
 |hdi (since:Nat) (seen:List Nat) (last:Nat)
 |cst (v:Value)
 deriving Inhabited
structure bd where
 A:Nat→Nat→Prop
 bx:aH→aY Nat
 ow:aH→aY (Nat×Value)
 tr:aH→Nat→Nat→Prop
def lim:Nat:=68719476736
def lv(w:World)(A:Nat→Nat→Prop)(b:Nat):Nat→List Value→Prop
 |_,[]=>True
 |off,u::us=>(A b off∧w.cell? ⟨b,off,none⟩=some u)∧lv w A b (off+1) us
def shape(w:World)(b:Nat):aY (Nat×fT×(Nat×Nat)):=
 match w.heap[b]? with
 |some (.cells cur el fz)=>some (cur.size,el,fz)
 |_=>none
theorem vQ{w w':World}{b:Nat}(h:w'.heap[b]? =w.heap[b]?):shape w' b=shape w b:=by unfold shape;rw[h]
mutual
def fX(t:Bool)(w:World)(A:Nat→Nat→Prop)(F:Nat→Prop):ah→Value→Prop
 | .int k n,v=>v= .int k n
 | .bool b,v=>v= .bool b
 | .str s,v=>v= .string ⟨s.toArray⟩∧s.length≤lim
 | .slice sz _ xs,v=> ∃a cap,v= .slice a xs.length cap∧xs.length≤cap∧(cap≤maxLen∧xs.length≤lim)∧
   (xs=[]∨ ∃b off us G,a=some ⟨b,off,none⟩∧F b∧(∀c,G c→F c∧(t=true→c≠b))∧lv w A b off us∧(t=true→off=0∧0<us.length∧∃el,shape w b=some (cap*sz,el,(0,0)))∧tq t w A G sz xs us)
 | .agg cs,v=> ∃us:Array Value,v= .agg us∧ts t w A F cs us.toList
 |_,_=>eQ
def ts(t:Bool)(w:World)(A:Nat→Nat→Prop)(F:Nat→Prop):List ah→List Value→Prop
 |[],us=>us=[]
 |c::cs,us=> ∃u cg hY h9,us=u::cg∧((∀b,hY b→F b)∧(∀b,h9 b→F b)∧(t=true→∀b,hY b→¬h9 b))∧(fX t w A hY c u∧u.oneCell'=true)∧ts t w A h9 cs cg
def tq(t:Bool)(w:World)(A:Nat→Nat→Prop)(F:Nat→Prop)(sz:Nat):List ah→List Value→Prop
 |[],us=>us=[]
 |x::xs,us=> ∃u cg hY h9,us=u.cells.toList++cg∧((∀b,hY b→F b)∧(∀b,h9 b→F b)∧(t=true→∀b,hY b→¬h9 b))∧(fX t w A hY x u∧u.cells.size=sz∧(∀c∈u.cells.toList,c.oneCell'=true))∧tq t w A h9 sz xs cg
end
mutual
def ba(w:World)(ν:bd):ah→Value→Prop
 | .junk,_=>True
 | .int k n,v=>v= .int k n
 | .bool b,v=>v= .bool b
 | .str s,v=>v= .string ⟨s.toArray⟩∧s.length≤lim
 | .slice sz tag xs,v=>
   (∃a cap,v= .slice a xs.length cap∧xs.length≤cap∧(cap≤maxLen∧xs.length≤lim)∧(xs=[]∨ ∃b off us,a=some ⟨b,off,none⟩∧lv w ν.A b off us∧dy w ν sz xs us))∧
   (tag= .nil→v= .slice none 0 0)∧
   (∀g,tag= .own g→∃n u,ν.ow g=some (n,u)∧xs.length≤n∧(xs.length=n→v=u))∧
   (∀k j,tag= .tr k j→fX true w ν.A (ν.tr k j) (.slice sz tag xs) v)∧(∀k,tag= .lo k→fX false w ν.A (ν.tr k 0) (.slice sz tag xs) v)
 | .agg cs,v=> ∃us:Array Value,v= .agg us∧c5 w ν cs us.toList
 | .ptr key off,v=> ∃b,ν.bx key=some b∧v= .pointer (some ⟨b,off,none⟩)
 | .eptr x,v=> ∃b off u,v= .pointer (some ⟨b,off,none⟩)∧ba w ν x u∧lv w ν.A b off u.cells.toList
 | .iface t x,v=> ∃u,v= .iface t u∧ba w ν x u
 | .nilp,v=>v= .pointer none
 | .tuple bc,v=> ∃us:Array Value,v= .tuple us∧cN w ν bc us.toList
 | .func f dm,v=> ∃us:Array Value,v= .func (.func f) #[] us∧cN w ν dm us.toList
 | .gmap key,v=> ∃b,ν.bx key=some b∧v= .map (some b)
 | .row _ key n,v=>(∃b cap,v= .slice (some ⟨b,0,none⟩) n cap)∧n≤lim∧∃n' u,ν.ow key=some (n',u)∧n≤n'∧(n=n'→v=u)
 | .rptr sz key n i f,v=>(∃b o,v= .pointer (some ⟨b,o,none⟩))∧i<n∧∃n' u,ν.ow key=some (n',u)∧n≤n'∧(n=n'→∃b,u.ownBlock=some b∧v= .pointer (some ⟨b,i*sz+f,none⟩))
 | .hdm _ _,_=>eQ
 | .hdi _ _ _,_=>eQ
 | .cst c,v=>v=c
def c5(w:World)(ν:bd):List ah→List Value→Prop
 |[],us=>us=[]
 |c::cs,us=> ∃u cg,us=u::cg∧(ba w ν c u∧u.oneCell'=true)∧c5 w ν cs cg
def cN(w:World)(ν:bd):List ah→List Value→Prop
 |[],us=>us=[]
 |c::cs,us=> ∃u cg,us=u::cg∧ba w ν c u∧cN w ν cs cg
def dy(w:World)(ν:bd)(sz:Nat):List ah→List Value→Prop
 |[],us=>us=[]
 |x::xs,us=> ∃u cg,us=u.cells.toList++cg∧(ba w ν x u∧u.cells.size=sz∧(∀c∈u.cells.toList,c.oneCell'=true))∧dy w ν sz xs cg
end
theorem Fg{w w':World}{A gf:Nat→Nat→Prop}{b:Nat}(bg:∀b o,A b o→gf b o∧w'.cell? ⟨b,o,none⟩=w.cell? ⟨b,o,none⟩):
  ∀(us:List Value) (off:Nat),lv w A b off us→lv w' gf b off us
 |[],_,_=>trivial
 |_::us,off,h=>⟨⟨(bg _ _ h.1.1).1,(bg _ _ h.1.1).2.trans h.1.2⟩,Fg bg us (off+1) h.2⟩
mutual
theorem Eh{t:Bool}{w w':World}{A gf:Nat→Nat→Prop}(bg:∀b o,A b o→gf b o∧w'.cell? ⟨b,o,none⟩=w.cell? ⟨b,o,none⟩)(ag:∀b o,A b o→shape w' b=shape w b):∀(p:ah) (F oF:Nat→Prop) (v:Value),(∀b,F b→oF b)→fX t w A F p v→fX t w' gf oF p v
 | .int k n,_,_,_,_,h=>by simp only[fX]at h⊢;exact h
 | .bool b,_,_,_,_,h=>by simp only[fX]at h⊢;exact h
 | .str s,_,_,_,_,h=>by simp only[fX]at h⊢;exact h
 | .slice sz tag xs,F,oF,v,gg,h=>by
  simp only[fX]at h⊢;obtain⟨a,cap,J,U,ao,a8⟩:=h;refine⟨a,cap,J,U,ao,?_⟩;rcases a8 with a8|⟨b,off,us,G,ak,aB,bj,de,gS,hG⟩
  ·exact .inl a8
  ·refine .inr ⟨b,off,us,G,ak,gg _ aB,fun c ax=>⟨gg _ (bj c ax).1,(bj c ax).2⟩,Fg bg _ _ de,fun aN=>?_,QK bg ag xs G G _ (fun _ h=>h) hG⟩;obtain⟨f1,f2,el,f3⟩:=gS aN;refine⟨f1,f2,el,?_⟩;cases us with
   |nil=>simp at f2
   |cons u us=>rw[ag b off de.1.1];exact f3
 | .agg cs,F,oF,v,gg,h=>by simp only[fX]at h⊢;obtain⟨us,J,U⟩:=h;exact⟨us,J,QL bg ag cs F oF _ gg U⟩
 | .junk,_,_,_,_,h=>by simp[fX]at h
 | .ptr _ _,_,_,_,_,h=>by simp[fX]at h
 | .eptr _,_,_,_,_,h=>by simp[fX]at h
 | .iface _ _,_,_,_,_,h=>by simp[fX]at h
 | .nilp,_,_,_,_,h=>by simp[fX]at h
 | .tuple _,_,_,_,_,h=>by simp[fX]at h
 | .func _ _,_,_,_,_,h=>by simp[fX]at h
 | .gmap _,_,_,_,_,h=>by simp[fX]at h
 | .row _ _ _,_,_,_,_,h=>by simp[fX]at h
 | .rptr _ _ _ _ _,_,_,_,_,h=>by simp[fX]at h
 | .hdm _ _,_,_,_,_,h=>by simp[fX]at h
 | .hdi _ _ _,_,_,_,_,h=>by simp[fX]at h
 | .cst _,_,_,_,_,h=>by simp[fX]at h
theorem QL{t:Bool}{w w':World}{A gf:Nat→Nat→Prop}(bg:∀b o,A b o→gf b o∧w'.cell? ⟨b,o,none⟩=w.cell? ⟨b,o,none⟩)(ag:∀b o,A b o→shape w' b=shape w b):∀(cs:List ah) (F oF:Nat→Prop) (us:List Value),(∀b,F b→oF b)→ts t w A F cs us→ts t w' gf oF cs us
 |[],_,_,_,_,h=>by simp only[ts]at h⊢;exact h
 |c::cs,F,oF,us,gg,h=>by simp only[ts]at h⊢;obtain⟨u,cg,hY,h9,J,⟨U,ao,a8⟩,⟨bZ,c4⟩,ee⟩:=h;exact⟨u,cg,hY,h9,J,⟨fun b ae=>gg _ (U b ae),fun b ae=>gg _ (ao b ae),a8⟩,⟨Eh bg ag c hY hY u (fun _ h=>h) bZ,c4⟩,QL bg ag cs h9 h9 cg (fun _ h=>h) ee⟩
theorem QK{t:Bool}{w w':World}{A gf:Nat→Nat→Prop}(bg:∀b o,A b o→gf b o∧w'.cell? ⟨b,o,none⟩=w.cell? ⟨b,o,none⟩)(ag:∀b o,A b o→shape w' b=shape w b){sz:Nat}:∀(cs:List ah) (F oF:Nat→Prop) (us:List Value),(∀b,F b→oF b)→tq t w A F sz cs us→tq t w' gf oF sz cs us
 |[],_,_,_,_,h=>by simp only[tq]at h⊢;exact h
 |c::cs,F,oF,us,gg,h=>by simp only[tq]at h⊢;obtain⟨u,cg,hY,h9,J,⟨U,ao,a8⟩,⟨bZ,c4⟩,ee⟩:=h;exact⟨u,cg,hY,h9,J,⟨fun b ae=>gg _ (U b ae),fun b ae=>gg _ (ao b ae),a8⟩,⟨Eh bg ag c hY hY u (fun _ h=>h) bZ,c4⟩,QK bg ag cs h9 h9 cg (fun _ h=>h) ee⟩
end
mutual
def aC(S:aH→Prop):ah→Prop
 | .slice _ tag xs=>(match tag with| .own k=>S k| .tr k _=>S k| .lo k=>S k|_=>True)∧aK S xs
 | .agg cs=>aK S cs
 | .ptr k _=>S k
 | .eptr x=>aC S x
 | .iface _ x=>aC S x
 | .tuple bc=>aK S bc
 | .func _ dm=>aK S dm
 | .gmap k=>S k
 | .row _ k _=>S k
 | .rptr _ k _ _ _=>S k
 |_=>True
def aK(S:aH→Prop):List ah→Prop
 |[]=>True
 |x::xs=>aC S x∧aK S xs
end
mutual
theorem vr{S T:aH→Prop}(h:∀k,S k→T k):∀p:ah,aC S p→aC T p
 | .junk,_=>by simp[aC]
 | .int _ _,_=>by simp[aC]
 | .bool _,_=>by simp[aC]
 | .str _,_=>by simp[aC]
 | .slice sz tag xs,bJ=>by simp only[aC]at bJ⊢;exact⟨by cases tag<;>first|trivial|exact h _ bJ.1,jJ h xs bJ.2⟩
 | .agg cs,bJ=>by simp only[aC]at bJ⊢;exact jJ h cs bJ
 | .ptr k _,bJ=>by simp only[aC]at bJ⊢;exact h _ bJ
 | .eptr x,bJ=>by simp only[aC]at bJ⊢;exact vr h x bJ
 | .iface _ x,bJ=>by simp only[aC]at bJ⊢;exact vr h x bJ
 | .nilp,_=>by simp[aC]
 | .tuple bc,bJ=>by simp only[aC]at bJ⊢;exact jJ h bc bJ
 | .func _ dm,bJ=>by simp only[aC]at bJ⊢;exact jJ h dm bJ
 | .gmap k,bJ=>by simp only[aC]at bJ⊢;exact h _ bJ
 | .row _ k _,bJ=>by simp only[aC]at bJ⊢;exact h _ bJ
 | .rptr _ k _ _ _,bJ=>by simp only[aC]at bJ⊢;exact h _ bJ
 | .hdm _ _,_=>by simp[aC]
 | .hdi _ _ _,_=>by simp[aC]
 | .cst _,_=>by simp[aC]
theorem jJ{S T:aH→Prop}(h:∀k,S k→T k):∀ct:List ah,aK S ct→aK T ct
 |[],_=>by simp[aK]
 |x::xs,bJ=>by simp only[aK]at bJ⊢;exact⟨vr h x bJ.1,jJ h xs bJ.2⟩
end
mutual
theorem Fc:∀p:ah,aC (fun _=>True) p
 | .junk=>by simp[aC]
 | .int _ _=>by simp[aC]
 | .bool _=>by simp[aC]
 | .str _=>by simp[aC]
 | .slice sz tag xs=>by simp only[aC];exact⟨by cases tag<;>trivial,tN xs⟩
 | .agg cs=>by simp only[aC];exact tN cs
 | .ptr k _=>by simp[aC]
 | .eptr x=>by simp only[aC];exact Fc x
 | .iface _ x=>by simp only[aC];exact Fc x
 | .nilp=>by simp[aC]
 | .tuple bc=>by simp only[aC];exact tN bc
 | .func _ dm=>by simp only[aC];exact tN dm
 | .gmap k=>by simp[aC]
 | .row _ k _=>by simp[aC]
 | .rptr _ k _ _ _=>by simp[aC]
 | .hdm _ _=>by simp[aC]
 | .hdi _ _ _=>by simp[aC]
 | .cst _=>by simp[aC]
theorem tN:∀ct:List ah,aK (fun _=>True) ct
 |[]=>by simp[aK]
 |x::xs=>by simp only[aK];exact⟨Fc x,tN xs⟩
end
def fv:List Nat→List Value→List MapEntry
 |b::eN,k::v::r=>⟨k,v,b⟩::fv eN r
 |_,_=>[]
def jB(cs:List ah)(us:Array Value)(el:fT):Obj:=
 match cs with
 | .hdm clock borns::_=>.map (fv borns us.toList).toArray clock
 | .hdi since seen last::_=>.mapIter (match us.toList with|[.map m]=>m|_=>none) since seen.toArray last
 |_=>.cells us el
structure afN (clock:Nat) (borns:List Nat) (r:List ah):Prop where
 len:r.length=2*borns.length
 inc:borns.Pairwise (· < ·)
 lt:∀b∈borns,b<clock
def iY(w:World)(ν:bd)(cs:List ah)(us:List Value):Prop:=
 match cs with
 | .hdm clock borns::r=>cN w ν r us∧afN clock borns r
 | .hdi _ _ _::r=>cN w ν r us
 |cs=>c5 w ν cs us
def hM:List ah→Bool
 | .hdm _ _::_=>false
 | .hdi _ _ _::_=>false
 |_=>true
theorem Ab{w:World}{ν:bd}{cs:List ah}{us:List Value}(h:c5 w ν cs us):hM cs=true:=by
 unfold hM;split
 ·simp only[c5,ba]at h;obtain⟨_,_,_,⟨h,_⟩,_⟩:=h;exact h.elim
 ·simp only[c5,ba]at h;obtain⟨_,_,_,⟨h,_⟩,_⟩:=h;exact h.elim
 ·rfl
theorem ua{cs:List ah}(h:hM cs=true)(us:Array Value)(el:fT):jB cs us el= .cells us el:=by
 unfold hM at h;unfold jB;split at h<;>first|cases h|skip
 rfl
theorem ub{w:World}{ν:bd}{cs:List ah}(h:hM cs=true)(us:List Value):iY w ν cs us=c5 w ν cs us:=by
 unfold hM at h;unfold iY;split at h<;>first|cases h|skip
 rfl
structure oH (S:aH→Prop) (w:World) (ν:bd) (w':World) (bp:bd):Prop where
 A:∀b o,ν.A b o→bp.A b o∧w'.cell? ⟨b,o,none⟩=w.cell? ⟨b,o,none⟩
 bx:∀k b,S k→ν.bx k=some b→bp.bx k=some b
 ow:∀g n u,S g→ν.ow g=some (n,u)→∃n' e4,bp.ow g=some (n',e4)∧(n'=n∧e4=u∨n<n')
 sh:∀b o,ν.A b o→shape w' b=shape w b
 tr:∀k j b,S k→ν.tr k j b→bp.tr k j b
abbrev k9:=oH (fun _=>True)
mutual
theorem uj{S:aH→Prop}{w w':World}{ν bp:bd}(aw:oH S w ν w' bp):∀(p:ah) (v:Value),aC S p→ba w ν p v→ba w' bp p v
 | .junk,_,_,_=>by simp[ba]
 | .int k n,_,_,h=>by simp only[ba]at h⊢;exact h
 | .bool b,_,_,h=>by simp only[ba]at h⊢;exact h
 | .str s,_,_,h=>by simp only[ba]at h⊢;exact h
 | .slice sz tag xs,v,ad,h=>by
  simp only[ba,aC]at h ad⊢;obtain⟨⟨a,cap,J,U,ao,a8⟩,bZ,c4,nu,r9⟩:=h;refine⟨⟨a,cap,J,U,ao,?_⟩,bZ,fun g a7=>?_,fun k j nv=>?_,fun k nv=>?_⟩
  ·rcases a8 with a8|⟨b,off,us,a8,c4,ee⟩
   ·exact .inl a8
   ·exact .inr ⟨b,off,us,a8,Fg aw.A _ _ c4,Ge aw sz xs us ad.2 ee⟩
  ·obtain⟨n,u,ak,aB,bj⟩:=c4 g a7;subst a7;obtain⟨n',e4,f1,f2⟩:=aw.ow g n u ad.1 ak;refine⟨n',e4,f1,?_⟩;rcases f2 with⟨rfl,rfl⟩|f2
   ·exact⟨aB,bj⟩
   ·exact⟨by omega,fun e=>by omega⟩
  ·have:=nu k j nv;subst nv;exact Eh aw.A aw.sh _ _ _ _ (fun b=>aw.tr k j b ad.1) this
  ·have:=r9 k nv;subst nv;exact Eh aw.A aw.sh _ _ _ _ (fun b=>aw.tr k 0 b ad.1) this
 | .agg cs,v,ad,h=>by simp only[ba,aC]at h ad⊢;obtain⟨us,J,U⟩:=h;exact⟨us,J,Gh aw cs _ ad U⟩
 | .ptr key off,v,ad,h=>by simp only[ba,aC]at h ad⊢;obtain⟨b,J,U⟩:=h;exact⟨b,aw.bx _ _ ad J,U⟩
 | .iface t x,v,ad,h=>by simp only[ba,aC]at h ad⊢;obtain⟨u,J,U⟩:=h;exact⟨u,J,uj aw x u ad U⟩
 | .eptr x,v,ad,h=>by simp only[ba,aC]at h ad⊢;obtain⟨b,off,u,J,U,ao⟩:=h;exact⟨b,off,u,J,uj aw x u ad U,Fg aw.A _ _ ao⟩
 | .nilp,_,_,h=>by simp only[ba]at h⊢;exact h
 | .tuple bc,v,ad,h=>by simp only[ba,aC]at h ad⊢;obtain⟨us,J,U⟩:=h;exact⟨us,J,xS aw bc _ ad U⟩
 | .func f dm,v,ad,h=>by simp only[ba,aC]at h ad⊢;obtain⟨us,J,U⟩:=h;exact⟨us,J,xS aw dm _ ad U⟩
 | .gmap key,v,ad,h=>by simp only[ba,aC]at h ad⊢;obtain⟨b,J,U⟩:=h;exact⟨b,aw.bx _ _ ad J,U⟩
 | .row sz key n,v,ad,h=>by
  simp only[ba,aC]at h ad⊢;obtain⟨J,U,n',u,ao,a8,bZ⟩:=h;obtain⟨fZ,iK,f1,f2⟩:=aw.ow key n' u ad ao;refine⟨J,U,fZ,iK,f1,?_⟩;rcases f2 with⟨rfl,rfl⟩|f2
  ·exact⟨a8,bZ⟩
  ·exact⟨by omega,fun e=>by omega⟩
 | .rptr sz key n i f,v,ad,h=>by
  simp only[ba,aC]at h ad⊢;obtain⟨J,U,n',u,ao,a8,bZ⟩:=h;obtain⟨fZ,iK,f1,f2⟩:=aw.ow key n' u ad ao;refine⟨J,U,fZ,iK,f1,?_⟩;rcases f2 with⟨rfl,rfl⟩|f2
  ·exact⟨a8,bZ⟩
  ·exact⟨by omega,fun e=>by omega⟩
 | .hdm _ _,_,_,h=>by simp only[ba]at h
 | .hdi _ _ _,_,_,h=>by simp only[ba]at h
 | .cst c,_,_,h=>by simp only[ba]at h⊢;exact h
theorem Gh{S:aH→Prop}{w w':World}{ν bp:bd}(aw:oH S w ν w' bp):∀(cs:List ah) (us:List Value),aK S cs→c5 w ν cs us→c5 w' bp cs us
 |[],_,_,h=>by simp only[c5]at h⊢;exact h
 |c::cs,us,ad,h=>by simp only[c5,aK]at h ad⊢;obtain⟨u,cg,J,U,ao⟩:=h;exact⟨u,cg,J,⟨uj aw c u ad.1 U.1,U.2⟩,Gh aw cs cg ad.2 ao⟩
theorem xS{S:aH→Prop}{w w':World}{ν bp:bd}(aw:oH S w ν w' bp):∀(cs:List ah) (us:List Value),aK S cs→cN w ν cs us→cN w' bp cs us
 |[],_,_,h=>by simp only[cN]at h⊢;exact h
 |c::cs,us,ad,h=>by simp only[cN,aK]at h ad⊢;obtain⟨u,cg,J,U,ao⟩:=h;exact⟨u,cg,J,uj aw c u ad.1 U,xS aw cs cg ad.2 ao⟩
theorem Ge{S:aH→Prop}{w w':World}{ν bp:bd}(aw:oH S w ν w' bp)(sz:Nat):∀(xs:List ah) (us:List Value),aK S xs→dy w ν sz xs us→dy w' bp sz xs us
 |[],_,_,h=>by simp only[dy]at h⊢;exact h
 |x::xs,us,ad,h=>by simp only[dy,aK]at h ad⊢;obtain⟨u,cg,J,⟨U,ao,a8⟩,bZ⟩:=h;exact⟨u,cg,J,⟨uj aw x u ad.1 U,ao,a8⟩,Ge aw sz xs cg ad.2 bZ⟩
end
theorem Vt{S:aH→Prop}{w w':World}{ν bp:bd}(aw:oH S w ν w' bp){cs:List ah}{us:List Value}(ad:aK S cs)(h:iY w ν cs us):iY w' bp cs us:=by
 unfold iY at h⊢;split
 ·simp only[aK]at ad;exact⟨xS aw _ _ ad.2 h.1,h.2⟩
 ·simp only[aK]at ad;exact xS aw _ _ ad.2 h
 ·rename_i J U;split at h
  ·exact absurd rfl (J _ _ _)
  ·exact absurd rfl (U _ _ _ _)
  ·exact Gh aw _ _ ad h
section
variable {w w':World} {ν bp:bd} (aw:k9 w ν w' bp)
include aw
theorem xT{p:ah}{v:Value}(h:ba w ν p v):ba w' bp p v:=uj aw p v (Fc p) h
theorem Vy{p:List ah}{v:List Value}(h:c5 w ν p v):c5 w' bp p v:=Gh aw p v (tN p) h
theorem Gk{p:List ah}{v:List Value}(h:cN w ν p v):cN w' bp p v:=xS aw p v (tN p) h
theorem pU{p:List ah}{v:List Value}(h:iY w ν p v):iY w' bp p v:=Vt aw (tN p) h
theorem z7{sz:Nat}{p:List ah}{v:List Value}(h:dy w ν sz p v):dy w' bp sz p v:=Ge aw sz p v (tN p) h
end
end Go.Pv
namespace Go.Pv
open Go Go.RowKit
def get(k:Nat):List (Nat×ah)→ah
 |[]=>.junk
 |(i,p)::r=>if i=k then p else get k r
def put(k:Nat)(p:ah):List (Nat×ah)→List (Nat×ah)
 |[]=>[(k,p)]
 |(i,q)::r=>if i=k then(i,p)::r else(i,q)::put k p r
def look{α:Type}(k:aH):List (aH×α)→aY α
 |[]=>none
 |(i,p)::r=>if i=k then some p else look k r
def cx{α:Type}(k:aH)(p:α):List (aH×α)→List (aH×α)
 |[]=>[(k,p)]
 |(i,q)::r=>if i=k then(i,p)::r else(i,q)::cx k p r
theorem oU(k j:Nat)(p:ah):∀l,get j (put k p l)=if k=j then p else get j l
 |[]=>by simp[get,put]
 |(i,q)::r=>by
  by_cases h:i=k
  ·subst h;by_cases U:i=j<;>simp[get,put,U]
  ·by_cases U:i=j
   ·subst U;simp[get,put,h,kP h]
   ·simp[get,put,h,U,oU k j p r]
theorem iG{α:Type}(k j:aH)(p:α):∀l,look j (cx k p l)=if k=j then some p else look j l
 |[]=>by simp[look,cx]
 |(i,q)::r=>by
  by_cases h:i=k
  ·subst h;by_cases U:i=j<;>simp[look,cx,U]
  ·by_cases U:i=j
   ·subst U;simp[look,cx,h,kP h]
   ·simp[look,cx,h,U,iG k j p r]
structure fM where
 n:Nat
 el:Nat
 sz:Nat
 xs:aY (List ah)
def LF(w:World)(ν:bd)(o:fM)(v:Value)(us:List Value):Prop:=∀xs,o.xs=some xs→xs.length=o.n∧dy w ν o.sz xs us∧∀bl,v.ownBlock=some bl→∀j,¬ν.A bl j
theorem rF{w w':World}{ν bp:bd}(aw:k9 w ν w' bp){o:fM}{v:Value}{us:List Value}(bg:∀bl,v.ownBlock=some bl→∀j,bp.A bl j→ν.A bl j)(h:LF w ν o v us):LF w' bp o v us:=fun xs ab=>⟨(h xs ab).1,z7 aw (h xs ab).2.1,fun bl ae j af=>(h xs ab).2.2 bl ae j (bg bl ae j af)⟩
def dQ(S:aH→Prop)(o:fM):Prop:= ∀xs,o.xs=some xs→aK S xs
structure bq where
 t:List (Nat×ah)
 b:List (aH×List ah)
 e:List (aH×fM)
 n:Nat
 o:List aH
def fresh(n:Nat)(o:List aH)(k:aH):Prop:=(match k with| .loc m=>n≤m| .obj _=>True)∧k∉o
theorem IB{n n':Nat}{o o':List aH}(aA:n≤n')(aw:∀k∈o,k∈o'){k:aH}(h:fresh n' o' k):fresh n o k:=by unfold fresh at h⊢;exact⟨by cases k<;>simp at h⊢;omega,fun ad=>h.2 (aw k ad)⟩
def Md(ν:bd)(b:List (aH×List ah))(e:List (aH×fM))(bl:Nat):Prop:=(∃k,(look k b).isSome∧ν.bx k=some bl)∨(∃g n v,(look g e).isSome∧ν.ow g=some (n,v)∧v.ownBlock=some bl)
structure Good (pr:Nat→Prop) (w:World) (ν:bd) (b:List (aH×List ah)) (e:List (aH×fM)):Prop where
 alt:∀bl o,ν.A bl o→bl<w.heap.size
 box:∀k cs,look k b=some cs→∃bl us el,ν.bx k=some bl∧pr bl∧(∀o,¬ν.A bl o)∧w.heap[bl]? =some (jB cs us el)∧iY w ν cs us.toList
 inj:∀k bM bl,(look k b).isSome→(look bM b).isSome→ν.bx k=some bl→ν.bx bM=some bl→k=bM
 own:∀g o,look g e=some o→∃v us,ν.ow g=some (o.n,v)∧w.ownsRow 0 o.el o.sz v o.n us∧(∀bl,v.ownBlock=some bl→pr bl∧(∀j,ν.A bl j→j<o.n*o.sz))∧LF w ν o v us
 oinj:∀g fb n n' v v' bl,(look g e).isSome→(look fb e).isSome→ν.ow g=some (n,v)→ν.ow fb=some (n',v')→v.ownBlock=some bl→v'.ownBlock=some bl→g=fb
 obx:∀g k n v bl,(look g e).isSome→(look k b).isSome→ν.ow g=some (n,v)→v.ownBlock=some bl→ν.bx k=some bl→eQ
 one:∀k,ν.bx k=none∨ν.ow k=none
 otr:∀bl,Md ν b e bl→∀k j,¬ν.tr k j bl
structure fa where
 w0:World
 ν0:bd
 mt:Nat→Prop
 N:Nat
 ob:List aH
def fa.pr(C:fa)(bl:Nat):Prop:=C.mt bl∨C.w0.heap.size≤bl
def aj2:aH:= .obj 990001
def fS:aH:= .obj 990002
structure p5 (C:fa) (w:World) (ν:bd):Prop where
 os:w.os=C.w0.os
 tape:w.tape=C.w0.tape
 output:w.output=C.w0.output
 size:C.w0.heap.size≤w.heap.size
 block:∀k,k<C.w0.heap.size→¬C.mt k→w.heap[k]? =C.w0.heap[k]?
 keep:∀b o,C.ν0.A b o→ν.A b o∧w.cell? ⟨b,o,none⟩=C.w0.cell? ⟨b,o,none⟩
 fresh:∀b o,ν.A b o→C.ν0.A b o∨C.pr b
 obj:∀n b,C.ν0.bx (.obj n)=some b→ν.bx (.obj n)=some b
 obn:∀n b,C.ν0.bx (.obj n)=some b→ .obj n∈C.ob
 row:∀m n u,C.ν0.ow (.obj m)=some (n,u)→∃n' e4,ν.ow (.obj m)=some (n',e4)∧(n'=n∧e4=u∨n<n')
 obr:∀m n u,C.ν0.ow (.obj m)=some (n,u)→ .obj m∈C.ob
 trd:∀k j bM dA b,ν.tr k j b→ν.tr bM dA b→k=bM∧j=dA
 trb:∀k j b,ν.tr k j b→(k=aj2∨C.w0.heap.size≤b)∧b<w.heap.size
 trn:∀k j b,ν.tr k j b→ν.bx k=none∧ν.ow k=none
 sh:∀b o,C.ν0.A b o→shape w b=shape C.w0 b
theorem CS{ν bp:bd}{g:aH}{n:Nat}{u:Value}(h:∃n' e4,ν.ow g=some (n',e4)∧(n'=n∧e4=u∨n<n'))(aw:∀n u,ν.ow g=some (n,u)→∃n' e4,bp.ow g=some (n',e4)∧(n'=n∧e4=u∨n<n')):
  ∃n' e4,bp.ow g=some (n',e4)∧(n'=n∧e4=u∨n<n'):=by
 obtain⟨hV,h7,ak,aB⟩:=h;obtain⟨fZ,iK,f1,f2⟩:=aw hV h7 ak;refine⟨fZ,iK,f1,?_⟩;rcases aB with⟨rfl,rfl⟩|aB
 ·exact f2
 ·rcases f2 with⟨rfl,rfl⟩|f2
  ·exact .inr aB
  ·exact .inr (by omega)
structure cP (C:fa) (st:bq) (a:Act) (w:World) (ν:bd):Prop where
 good:Good C.pr w ν st.b st.e
 fr:p5 C w ν
 defers:a.defers=[]
 size:a.tmps.size=C.N
 slot:∀i,ba w ν (get i st.t) (a.tmps.getD i undef)
 new:∀k,fresh st.n st.o k→ν.bx k=none∧ν.ow k=none∧∀j b,¬ν.tr k j b
def eK(d:aY Nat)(p:ah)(t:List (Nat×ah)):List (Nat×ah):=
 match d with
 |some d=>put d p t
 |none=>t
def jd(N:Nat)(d:aY Nat):Bool:=match d with|some d=>decide (d<N)|none=>true
theorem cP.put{C:fa}{st:bq}{a:Act}{w:World}{ν:bd}(h:cP C st a w ν){d:aY Nat}(aQ:jd C.N d=true){p:ah}{v:Value}(bJ:ba w ν p v):
  cP C {st with t:=eK d p st.t} (a.put d v) w ν:=by
 cases d with
 |none=>exact h
 |some d=>
  have bC:d<a.tmps.size:=by rw[h.size];simpa[jd]using aQ
  refine⟨h.good,h.fr,h.defers,by simpa[Act.put]using h.size,fun i=>?_,h.new⟩;simp only[eK,oU];by_cases e:d=i
  ·subst e;simpa[Act.put,Array.getD_eq_getD_getElem?,bC]using bJ
  ·have:=h.slot i;simpa[e,Act.put,Array.getD_eq_getD_getElem?,Array.getElem?_setIfInBounds_ne e]using this
theorem cP.over{C:fa}{st st':bq}{a:Act}{w w':World}{ν bp:bd}(h:cP C st a w ν)(aw:k9 w ν w' bp)(aN:st'.t=st.t)(a7:Good C.pr w' bp st'.b st'.e)(aI:p5 C w' bp)
  (aA:∀k,fresh st'.n st'.o k→bp.bx k=none∧bp.ow k=none∧∀j b,¬bp.tr k j b):cP C st' a w' bp:=
 ⟨a7,aI,h.defers,h.size,fun i=>by rw[aN];exact xT aw (h.slot i),aA⟩
inductive dr where
 |t (i:Nat)
 |c (p:ah)
 deriving Inhabited
def ck(t:List (Nat×ah)):dr→ah
 | .t i=>get i t
 | .c p=>p
def DE:ah→Value→Bool
 | .int k n,.int bM n'=>decide (k=bM∧n=n')
 | .bool b,.bool bO=>b==bO
 | .str s,.string l=>decide (l.data.toList=s∧s.length≤lim)
 | .slice _ .nil [],.slice none 0 0=>true
 | .nilp,.pointer none=>true
 | .tuple [],.tuple ⟨[]⟩=>true
 | .func f [],.func (.func g) ⟨[]⟩ ⟨[]⟩=>f==g
 | .junk,_=>true
 |_,_=>false
theorem Nw(w:World)(ν:bd){p:ah}{v:Value}(h:DE p v=true):ba w ν p v:=by
 unfold DE at h;split at h
 ·simp at h;obtain⟨rfl,rfl⟩:=h;simp[ba]
 ·simp at h;subst h;simp[ba]
 ·rename_i s l;simp at h;obtain⟨J,U⟩:=h;refine⟨?_,U⟩;subst J;simp
 ·simp only[ba];refine⟨⟨none,0,rfl,by simp,by simp,by simp⟩,by simp,(fun _ h=>by cases h),(fun _ _ h=>by cases h),(fun _ h=>by cases h)⟩
 ·simp[ba]
 ·simp[ba,cN]
 ·simp at h;subst h;simp[ba,cN]
 ·simp[ba]
 ·cases h
def yp:List ah→List Value→Bool
 |[],[]=>true
 |p::ct,v::bc=>DE p v&&v.oneCell'&&yp ct bc
 |_,_=>false
def yo:ah→Value→Bool
 | .agg cs,.agg us=>yp cs us.toList
 |p,v=>DE p v
theorem Nx(w:World)(ν:bd):∀(ct:List ah) (bc:List Value),yp ct bc=true→c5 w ν ct bc
 |[],[],_=>by simp[c5]
 |[],_::_,h=>by simp[yp]at h
 |_::_,[],h=>by simp[yp]at h
 |p::ct,v::bc,h=>by simp only[yp,cA]at h;simp only[c5];exact⟨v,bc,rfl,⟨Nw w ν h.1.1,h.1.2⟩,Nx w ν ct bc h.2⟩
theorem Hu(w:World)(ν:bd){p:ah}{v:Value}(h:yo p v=true):ba w ν p v:=by
 unfold yo at h;split at h
 ·simp only[ba];exact⟨_,rfl,Nx w ν _ _ h⟩
 ·exact Nw w ν h
def eg:dr→Operand→Bool
 | .t i,.tmp j=>i==j
 | .c p,.const v=>yo p v
 | .c (.func f []),.func g=>f==g
 |_,_=>false
theorem eh{C:fa}{st:bq}{a:Act}{w:World}{ν:bd}(h:cP C st a w ν){x:dr}{o:Operand}(ab:eg x o=true):ba w ν (ck st.t x) (a.eval o):=by
 unfold eg at ab;split at ab
 ·simp at ab;subst ab;simpa[ck,Act.eval]using h.slot _
 ·simpa[ck,Act.eval]using Hu w ν ab
 ·simp at ab;subst ab;simp[ck,Act.eval,ba,cN]
 ·cases ab
inductive AH where
 |int (k:IntKind)
 |bool
 |str
 |slice (e:Nat)
 |struct (dK:List (Nat×Nat))
 |map (k e:Nat)
 |other
 deriving DecidableEq
structure dB where
 size:Nat
 bytes:Nat
 kind:AH
 zero:ah
def AH.isAgg:AH→Bool
 | .struct _=>true
 |_=>false
def Az:List ah→List Value→Bool
 |[],[]=>true
 |p::ct,v::bc=>yo p v&&v.oneCell'&&Az ct bc
 |_,_=>false
def yb:ah→Value→Bool
 | .agg cs,.agg us=>Az cs us.toList
 | .agg _,_=>false
 |p,v=>yo p v&&v.oneCell'
def jV:AH→TypeDesc→Bool
 | .int k,.int bM=>decide (k=bM)
 | .bool,.bool=>true
 | .str,.string=>true
 | .slice e,.slice fJ=>e==fJ
 | .struct dK,.struct gs=>decide (gs.toList.map (fun f=>(f.offset,f.type))=dK)
 | .map k e,.map bM fJ=>k==bM&&e==fJ
 | .other,d=>match d with| .struct _| .array _ _| .int _| .bool| .string| .slice _=>false|_=>true
 |_,_=>false
def QC(P:cC)(gs:Array Field):Bool:=gs.toList.all fun f=>match P.underlying f.type with|some (.int _)=>true|some .string=>true|_=>false
def PJ(P:cC)(t:Nat)(gs:Array Field):Bool:=gs.toList.all (fun f=>f.name != "_")&& !P.stoodInHeld t&& !P.eqGuardType P.depth t
def HV(P:cC)(t:Nat):TypeDesc→Bool
 | .struct gs=> !QC P gs||PJ P t gs
 |_=>true
def Mg(P:cC)(t:Nat)(f:dB):Bool:=
 match P.info? t,P.underlying t with
 |some i,some d=>HV P t d&&i.size==f.size&&i.bytes==f.bytes&&jV f.kind d&&(match i.zero with|some z=>yb f.zero z&&z.cells.size==f.size|none=>false)
 |_,_=>false
def fN(P:cC)(bB:List (Nat×dB)):Bool:=bB.all fun x=>Mg P x.1 x.2
def dV(bB:List (Nat×dB))(t:Nat):aY dB:=(bB.find? fun x=>x.1==t).map (·.2)
theorem akN{P:cC}{bB:List (Nat×dB)}(h:fN P bB=true){t:Nat}{f:dB}(aI:dV bB t=some f):Mg P t f=true:=by
 unfold dV at aI;cases ab:bB.find? fun x=>x.1==t with
 |none=>simp[ab]at aI
 |some x=>simp[ab]at aI;have J:=List.find?_some ab;simp at J;have U:=List.mem_of_find?_eq_some ab;have ao:=jb.1 h x U;rw[←aI,←J];exact ao
structure Xx (P:cC) (t:Nat) (f:dB):Prop where
 cmp:∀d,P.underlying t=some d→HV P t d=true
 ex:∃i d z,P.info? t=some i∧P.underlying t=some d∧i.size=f.size∧i.bytes=f.bytes∧jV f.kind d=true∧i.zero=some z∧yb f.zero z=true∧z.cells.size=f.size
theorem uz{P:cC}{bB:List (Nat×dB)}(h:fN P bB=true){t:Nat}{f:dB}(aI:dV bB t=some f):Xx P t f:=by
 have h:=akN h aI;unfold Mg at h;split at h
 ·rename_i i d J U;simp only[cA,dL]at h;obtain⟨⟨⟨⟨bA,ao⟩,a8⟩,bZ⟩,c4⟩:=h;split at c4
  ·rename_i z bD;simp only[cA,dL]at c4;exact⟨fun b8 me=>by rw[U]at me;cases me;exact bA,i,d,z,J,U,ao,a8,bZ,bD,c4.1,c4.2⟩
  ·cases c4
 ·cases h
theorem oI(b o j:Nat):(⟨b,o,none⟩:Addr).add j=⟨b,o+j,none⟩:=by
 unfold Addr.add;split
 ·rename_i h;subst h;rfl
 ·rfl
theorem MG(w:World)(ν:bd):∀(ct:List ah) (bc:List Value),Az ct bc=true→c5 w ν ct bc
 |[],[],_=>by simp[c5]
 |[],_::_,h=>by simp[Az]at h
 |_::_,[],h=>by simp[Az]at h
 |p::ct,v::bc,h=>by simp only[Az,cA]at h;simp only[c5];exact⟨v,bc,rfl,⟨Hu w ν h.1.1,h.1.2⟩,MG w ν ct bc h.2⟩
def cells:ah→List ah
 | .agg cs=>cs
 |p=>[p]
def dY:ah→Bool
 | .junk| .tuple _=>false
 | .cst (.slice _ _ _)| .cst (.string _)=>true
 | .cst _=>false
 |_=>true
theorem LC{w:World}{ν:bd}{p:ah}{v:Value}(h:ba w ν p v)(ag:dY p=true)(bF:∀cs,p≠ .agg cs):v.oneCell'=true∧v.cells= #[v]:=by
 cases p<;>simp only[ba,dY]at h ag;case junk=>cases ag
 case tuple=>cases ag
 case cst c=>subst h;cases v<;>first|exact⟨rfl,rfl⟩|cases ag
 case agg cs=>exact absurd rfl (bF cs)
 case int=>subst h;exact⟨rfl,rfl⟩
 case bool=>subst h;exact⟨rfl,rfl⟩
 case str=>rw[h.1];exact⟨rfl,rfl⟩
 case slice=>obtain⟨⟨a,cap,J,_⟩,_⟩:=h;subst J;exact⟨rfl,rfl⟩
 case ptr=>obtain⟨b,_,J⟩:=h;subst J;exact⟨rfl,rfl⟩
 case eptr=>obtain⟨b,o,u,J,_⟩:=h;subst J;exact⟨rfl,rfl⟩
 case iface=>obtain⟨u,J,_⟩:=h;subst J;exact⟨rfl,rfl⟩
 case nilp=>subst h;exact⟨rfl,rfl⟩
 case func=>obtain⟨us,J,_⟩:=h;subst J;exact⟨rfl,rfl⟩
 case gmap=>obtain⟨b,_,J⟩:=h;subst J;exact⟨rfl,rfl⟩
 case row=>obtain⟨⟨a,cap,J⟩,_⟩:=h;subst J;exact⟨rfl,rfl⟩
 case rptr=>obtain⟨⟨a,o,J⟩,_⟩:=h;subst J;exact⟨rfl,rfl⟩
theorem ui{w:World}{ν:bd}{p:ah}{v:Value}(h:ba w ν p v)(ag:dY p=true):c5 w ν (cells p) v.cells.toList:=by
 by_cases bF:∃cs,p= .agg cs
 ·obtain⟨cs,rfl⟩:=bF;simp only[ba]at h;obtain⟨us,rfl,U⟩:=h;simpa[cells,pc]using U
 ·have mM:∀cs,p≠ .agg cs:=fun cs e=>bF ⟨cs,e⟩;obtain⟨J,U⟩:=LC h ag mM;have ax:cells p=[p]:=by cases p<;>first|rfl|exact absurd rfl (mM _)
  rw[ax,U];simp only[c5];exact⟨v,[],rfl,⟨h,J⟩,rfl⟩
theorem Aa{w:World}{ν:bd}:∀{ct:List ah} {bc:List Value},c5 w ν ct bc→∀c∈bc,c.oneCell'=true
 |[],bc,h=>by simp only[c5]at h;subst h;simp
 |p::ct,bc,h=>by
  simp only[c5]at h;obtain⟨u,cg,rfl,J,U⟩:=h;intro c ax;rcases fU.1 ax with rfl|ax
  ·exact J.2
  ·exact Aa U c ax
theorem o7{w:World}{ν:bd}:∀{ct:List ah} {bc:List Value},c5 w ν ct bc→bc.length=ct.length
 |[],bc,h=>by simp only[c5]at h;subst h;rfl
 |p::ct,bc,h=>by simp only[c5]at h;obtain⟨u,cg,rfl,_,U⟩:=h;simp[o7 U]
theorem z8{w:World}{ν:bd}:∀(n:Nat) {ct:List ah} {bc:List Value},c5 w ν ct bc→c5 w ν (ct.drop n) (bc.drop n)
 |0,_,_,h=>by simpa using h
 |n+1,[],bc,h=>by simp only[c5]at h;subst h;simp[c5]
 |n+1,p::ct,bc,h=>by simp only[c5]at h;obtain⟨u,cg,rfl,_,U⟩:=h;simpa using z8 n U
theorem CO{w:World}{ν:bd}:∀(n:Nat) {ct:List ah} {bc:List Value},c5 w ν ct bc→c5 w ν (ct.take n) (bc.take n)
 |0,_,_,_=>by simp[c5]
 |n+1,[],bc,h=>by simp only[c5]at h;subst h;simp[c5]
 |n+1,p::ct,bc,h=>by simp only[c5]at h;obtain⟨u,cg,rfl,J,U⟩:=h;simp only[List.take_succ_cons,c5];exact⟨u,_,rfl,J,CO n U⟩
theorem xR{w:World}{ν:bd}:∀{ct bL:List ah} {bc us:List Value},c5 w ν ct bc→c5 w ν bL us→c5 w ν (ct++bL) (bc++us)
 |[],bL,bc,us,h,cr=>by simp only[c5]at h;subst h;simpa using cr
 |p::ct,bL,bc,us,h,cr=>by simp only[c5]at h;obtain⟨u,cg,rfl,J,U⟩:=h;simp only[bU,c5];exact⟨u,_,rfl,J,xR U cr⟩
theorem CN{w:World}{ν:bd}:∀(n:Nat) {ct:List ah} {bc:List Value} {p:ah},c5 w ν ct bc→ct[n]? =some p→∃v,bc[n]? =some v∧ba w ν p v∧v.oneCell'=true
 |n,[],_,p,_,bJ=>by simp at bJ
 |0,q::ct,bc,p,h,bJ=>by simp only[c5]at h;obtain⟨u,cg,rfl,J,_⟩:=h;simp at bJ;subst bJ;exact⟨u,rfl,J.1,J.2⟩
 |n+1,q::ct,bc,p,h,bJ=>by simp only[c5]at h;obtain⟨u,cg,rfl,_,U⟩:=h;simpa using CN n U (by simpa using bJ)
theorem Gi{w:World}{ν:bd}:∀(n:Nat) {ct:List ah} {bc:List Value} {p:ah},cN w ν ct bc→ct[n]? =some p→∃v,bc[n]? =some v∧ba w ν p v
 |n,[],_,p,_,bJ=>by simp at bJ
 |0,q::ct,bc,p,h,bJ=>by simp only[cN]at h;obtain⟨u,cg,rfl,J,_⟩:=h;simp at bJ;subst bJ;exact⟨u,rfl,J⟩
 |n+1,q::ct,bc,p,h,bJ=>by simp only[cN]at h;obtain⟨u,cg,rfl,_,U⟩:=h;simpa using Gi n U (by simpa using bJ)
theorem tR{w:World}{A:Nat→Nat→Prop}{b:Nat}:∀{us:List Value} {off j:Nat} {u:Value},lv w A b off us→us[j]? =some u→A b (off+j)∧w.cell? ⟨b,off+j,none⟩=some u
 |[],_,_,_,_,h=>by simp at h
 |x::us,off,0,u,au,h=>by simp at h;subst h;exact au.1
 |x::us,off,j+1,u,au,h=>by have:=tR (j:=j) au.2 (by simpa using h);rwa[show off+1+j=off+(j+1)from by omega]at this
theorem Ff{w:World}{A:Nat→Nat→Prop}{b:Nat}:∀(n:Nat) {us:List Value} {off:Nat},lv w A b off us→lv w A b (off+n) (us.drop n)
 |0,_,_,h=>by simpa using h
 |n+1,[],_,_=>by simp[lv]
 |n+1,x::us,off,h=>by have:=Ff n h.2;rw[show off+(n+1)=off+1+n from by omega];simpa using this
theorem Fh{w:World}{A:Nat→Nat→Prop}{b:Nat}:∀(n:Nat) {us:List Value} {off:Nat},lv w A b off us→lv w A b off (us.take n)
 |0,_,_,_=>by simp[lv]
 |n+1,[],_,_=>by simp[lv]
 |n+1,x::us,off,h=>by simp only[List.take_succ_cons];exact⟨h.1,Fh n h.2⟩
theorem ajW{P:cC}{w:World}{A:Nat→Nat→Prop}{b off:Nat}{us:List Value}(h:lv w A b off us):(loadCells ⟨b,off,none⟩ us.length).run P w= .ok us.toArray w:=run_loadCells_list w _ us fun j v af=>by rw[oI];exact(tR h af).2
theorem ajV{P:cC}{w:World}{b off n:Nat}{us:Array Value}{el:fT}{fr:Nat×Nat}(h:w.heap[b]? =some (.cells us el fr))(aA:off+n≤us.size):
  (loadCells ⟨b,off,none⟩ n).run P w= .ok ((us.toList.drop off).take n).toArray w:=by
 have au:((us.toList.drop off).take n).length=n:=by simp;omega
 have:=run_loadCells_list (P:=P) w ⟨b,off,none⟩ ((us.toList.drop off).take n) fun j v af=>by
  rw[oI];have adL:j<n:=by have:=(fL.1 af).1;omega
  simp only[World.cell?,h,j6,gP,if_false];rw[List.getElem?_take]at af;simpa[adL]using af
 rw[au]at this;exact this
theorem PY{α:Type}(l r:List α)(n sz:Nat)(h:l.length=sz):(l++r).drop ((n+1)*sz)=r.drop (n*sz):=by
 have e:(n+1)*sz=l.length+n*sz:=by rw[h,Nat.succ_mul,Nat.add_comm]
 rw[e,←List.drop_drop];simp
theorem Wb{α:Type}(l r:List α)(n sz:Nat)(h:l.length=sz):(l++r).take ((n+1)*sz)=l++r.take (n*sz):=by
 have e:(n+1)*sz=l.length+n*sz:=by rw[h,Nat.succ_mul,Nat.add_comm]
 rw[e,List.take_length_add_append]
theorem Gd{w:World}{ν:bd}{sz:Nat}:∀(i:Nat) {xs:List ah} {us:List Value} {p:ah},dy w ν sz xs us→xs[i]? =some p→
  ∃u,ba w ν p u∧u.cells.size=sz∧u.cells.toList=(us.drop (i*sz)).take sz
 |i,[],_,p,_,bJ=>by simp at bJ
 |0,x::xs,us,p,h,bJ=>by
  simp only[dy]at h;obtain⟨u,cg,rfl,⟨J,U,ao⟩,_⟩:=h;simp at bJ;subst bJ;refine⟨u,J,U,?_⟩;have:u.cells.toList.length=sz:=by simpa using U
  simp[←this]
 |i+1,x::xs,us,p,h,bJ=>by
  simp only[dy]at h;obtain⟨u,cg,rfl,⟨_,U,_⟩,bZ⟩:=h;obtain⟨v,g1,g2,g3⟩:=Gd i bZ (by simpa using bJ);refine⟨v,g1,g2,?_⟩;have:u.cells.toList.length=sz:=by simpa using U
  rw[g3,PY _ _ _ _ this]
theorem sJ{w:World}{ν:bd}{sz:Nat}:∀{xs:List ah} {us:List Value},dy w ν sz xs us→us.length=xs.length*sz
 |[],us,h=>by simp only[dy]at h;subst h;simp
 |x::xs,us,h=>by
  simp only[dy]at h;obtain⟨u,cg,rfl,⟨_,U,_⟩,bZ⟩:=h;have:u.cells.toList.length=sz:=by simpa using U
  rw[pd,this,sJ bZ,p2,Nat.succ_mul];omega
theorem xQ{w:World}{ν:bd}{sz:Nat}:∀{xs:List ah} {us:List Value},dy w ν sz xs us→∀c∈us,c.oneCell'=true
 |[],us,h=>by simp only[dy]at h;subst h;simp
 |x::xs,us,h=>by
  simp only[dy]at h;obtain⟨u,cg,rfl,⟨_,_,ao⟩,bZ⟩:=h;intro c ax;rcases kx.1 ax with ax|ax
  ·exact ao c ax
  ·exact xQ bZ c ax
theorem CM{w:World}{ν:bd}{sz:Nat}:∀{ct bL:List ah} {bc us:List Value},dy w ν sz ct bc→dy w ν sz bL us→dy w ν sz (ct++bL) (bc++us)
 |[],bL,bc,us,h,cr=>by simp only[dy]at h;subst h;simpa using cr
 |p::ct,bL,bc,us,h,cr=>by simp only[dy]at h;obtain⟨u,cg,rfl,J,U⟩:=h;simp only[bU,dy];exact⟨u,cg++us,by simp,J,CM U cr⟩
theorem Vu{w:World}{ν:bd}{sz:Nat}:∀(n:Nat) {xs:List ah} {us:List Value},dy w ν sz xs us→dy w ν sz (xs.drop n) (us.drop (n*sz))
 |0,_,_,h=>by simpa using h
 |n+1,[],us,h=>by simp only[dy]at h;subst h;simp[dy]
 |n+1,x::xs,us,h=>by
  simp only[dy]at h;obtain⟨u,cg,rfl,⟨_,U,_⟩,bZ⟩:=h;have:u.cells.toList.length=sz:=by simpa using U
  rw[PY _ _ _ _ this];simpa using Vu n bZ
theorem Vx{w:World}{ν:bd}{sz:Nat}:∀(n:Nat) {xs:List ah} {us:List Value},dy w ν sz xs us→dy w ν sz (xs.take n) (us.take (n*sz))
 |0,_,_,_=>by simp[dy]
 |n+1,[],us,h=>by simp only[dy]at h;subst h;simp[dy]
 |n+1,x::xs,us,h=>by
  simp only[dy]at h;obtain⟨u,cg,rfl,⟨J,U,ao⟩,bZ⟩:=h;have:u.cells.toList.length=sz:=by simpa using U
  simp only[List.take_succ_cons,dy];refine⟨u,cg.take (n*sz),?_,⟨J,U,ao⟩,Vx n bZ⟩;rw[Wb _ _ _ _ this]
def isAgg(sz:Nat)(p:ah):Prop:= ∃cs,p= .agg cs∧cs.length=sz
def xW(agg:Bool)(sz dF n i f:Nat):aY fM→aY (Prop×ah)
 |some ⟨n',_,ja,some xs⟩=>if n'=n∧ja=dF then
   (match xs[i]? with
    |some p=>if agg then some (dY p=true∧f+sz≤(cells p).length,.agg (((cells p).drop f).take sz))else((cells p)[f]?).map fun q=>(dY p=true,q)
    |none=>none)else none
 |_=>none
def mu(b:List (aH×List ah))(e:List (aH×fM))(agg:Bool)(sz:Nat):ah→aY (Prop×ah)
 | .rptr dF k n i f=>xW agg sz dF n i f (look k e)
 | .ptr k off=>
  match look k b with
  |some cs=>if agg then some (hM cs=true∧off+sz≤cs.length,.agg ((cs.drop off).take sz))else(cs[off]?).map fun p=>(hM cs=true,p)
  |none=>none
 | .eptr p=>if agg then some (isAgg sz p,p)else some (dY p=true∧cells p=[p],p)
 |_=>none
def Bd(agg:Bool)(sz:Nat):ah→aY (Prop×ah)
 | .eptr p=>if agg then some (isAgg sz p,p)else some (dY p=true∧cells p=[p],p)
 |_=>none
theorem ab9{b:List (aH×List ah)}{e:List (aH×fM)}{agg:Bool}{sz:Nat}{p:ah}{r:Prop×ah}(h:Bd agg sz p=some r):mu b e agg sz p=some r:=by
 cases p<;>simp only[Bd]at h<;>first|cases h;done|skip
 simpa only[mu]using h
theorem afH{b:List (aH×List ah)}{e:List (aH×fM)}{agg:Bool}{sz:Nat}{p:ah}{r:Prop×ah}(h:mu b [] agg sz p=some r):mu b e agg sz p=some r:=by cases p<;>simp only[mu]at h⊢ <;>first|exact h|(simp[look,xW]at h)
def pw(off:Nat)(agg:Bool)(sz:Nat):ah→aY (Prop×ah)
 | .ptr k o=>some (True,.ptr k (o+off))
 | .rptr dF k n i f=>some (True,.rptr dF k n i (f+off))
 | .eptr (.agg cs)=>if agg then some (off+sz≤cs.length,.eptr (.agg ((cs.drop off).take sz)))else(cs[off]?).map fun p=>(dY p=true∧cells p=[p],.eptr p)
 |_=>none
def qV(off:Nat)(agg:Bool)(sz:Nat):ah→aY (Prop×ah)
 | .agg cs=>if agg then some (off+sz≤cs.length,.agg ((cs.drop off).take sz))else(cs[off]?).map fun p=>(True,p)
 |_=>none
def zk(sz:Nat):ah→ah→aY (Prop×ah)
 | .slice dF _ xs,.int _ i=>if dF=sz then some (0≤i∧i<xs.length,.eptr (xs.getD i.toNat .junk))else none
 | .row dF k n,.int _ i=>if dF=sz then some (0≤i∧i<n,.rptr dF k n i.toNat 0)else none
 |_,_=>none
def Gv:ah→ah→aY (Prop×ah)
 | .str s,.int _ i=>some (0≤i∧i<s.length,.int .u8 (s.getD i.toNat 0).toNat)
 |_,_=>none
def qy(D2:Int):aY ah→aY Int
 |none=>some D2
 |some (.int _ i)=>some i
 |_=>none
def GA(x:ah)(lo hi:aY ah):aY (Prop×ah):=
 match x with
 | .str s=>match qy 0 lo,qy s.length hi with
  |some l,some h=>some (0≤l∧l≤h∧h≤s.length,.str ((s.take h.toNat).drop l.toNat))
  |_,_=>none
 |_=>none
def Fo(sz:Nat)(x:ah)(lo hi:aY ah):aY (Prop×ah):=
 match x with
 | .slice dF _ xs=>if dF=sz then match qy 0 lo,qy xs.length hi with
  |some l,some h=>some (0≤l∧l≤h∧h≤xs.length,.slice sz .no ((xs.take h.toNat).drop l.toNat))
  |_,_=>none else none
 |_=>none
def sq(n:Int):Prop:= -9223372036854775808≤n∧n≤9223372036854775807
def EZ(op:BinOp)(wr:Bool)(k:IntKind)(a b:Int):aY (Prop×ah):=
 match op with
 | .add=>if wr then some (True,.int k (k.wrap (a+b)))else some (k= .i64∧sq (a+b),.int .i64 (a+b))
 | .sub=>if wr then some (True,.int k (k.wrap (a-b)))else some (k= .i64∧sq (a-b),.int .i64 (a-b))
 | .mul=>if wr then some (True,.int k (k.wrap (a*b)))else some (k= .i64∧sq (a*b),.int .i64 (a*b))
 | .quo=>some (b≠0,.int k (k.wrap (a.tdiv b)))
 | .rem=>some (b≠0,.int k (a.tmod b))
 | .eql=>some (True,.bool (a==b))
 | .neq=>some (True,.bool (a !=b))
 | .lss=>some (True,.bool (decide (a<b)))
 | .leq=>some (True,.bool (decide (a≤b)))
 | .gtr=>some (True,.bool (decide (b<a)))
 | .geq=>some (True,.bool (decide (b≤a)))
 | .and=>some (True,.int k (k.wrap (pY k.bits a&&& pY k.bits b).toNat))
 | .or=>some (True,.int k (k.wrap (pY k.bits a|||pY k.bits b).toNat))
 | .xor=>some (True,.int k (k.wrap (pY k.bits a ^^^ pY k.bits b).toNat))
 |_=>none
def GB(op:BinOp)(a b:List dz):aY (Prop×ah):=
 match op with
 | .add=>some (a.length+b.length≤lim,.str (a++b))
 | .eql=>some (True,.bool (a==b))
 | .neq=>some (True,.bool (!(a==b)))
 | .lss=>some (True,.bool (hk a b))
 | .leq=>some (True,.bool (hk a b||a==b))
 | .gtr=>some (True,.bool (!(hk a b||a==b)))
 | .geq=>some (True,.bool (!hk a b))
 |_=>none
def AO(op:BinOp)(wr:Bool):ah→ah→aY (Prop×ah)
 | .int k a,.int bM b=>match op with
  | .shl=>some (0≤b,.int k (k.wrap (a*2 ^ (min b.toNat k.bits))))
  | .shr=>some (0≤b,.int k (a.fdiv (2 ^ (min b.toNat k.bits))))
  |_=>if k=bM then EZ op wr k a b else none
 | .str a,.str b=>GB op a b
 |_,_=>none
def nD(cs:List ah)(off:Nat)(ct:List ah):List ah:=cs.take off++ct++cs.drop (off+ct.length)
def tf(t:List (Nat×ah)):List ah→List (Nat×Nat×dr)→aY (Prop×List ah)
 |cs,[]=>some (True,cs)
 |cs,(off,sz,x)::r=>
  let p:=ck t x
  match tf t (nD cs off (cells p)) r with
  |some (c,cs')=>some ((dY p=true∧(cells p).length=sz∧off+sz≤cs.length)∧c,cs')
  |none=>none
def FP(c x y:ah):aY (Prop×ah):=
 match c with
 | .bool b=>match x,y with
  | .bool u,.bool v=>some (True,.bool (cond b u v))
  |p,q=>match b with
   |true=>some (True,p)
   |false=>some (True,q)
 |_=>none
def FD:ah→aY (Prop×ah)
 | .bool b=>some (True,.bool (!b))
 |_=>none
def Fz:ah→aY (Prop×ah)
 | .int k n=>some (True,.int k (k.wrap (0-n)))
 |_=>none
def yB(i:Nat):ah→aY (Prop×ah)
 | .tuple bc=>(bc[i]?).map fun p=>(True,p)
 |_=>none
def zu:ah→aY (Prop×ah)
 | .slice _ _ xs=>some (True,.int .i64 xs.length)
 | .row _ _ n=>some (True,.int .i64 n)
 | .cst (.slice _ n _)=>some (True,.int .i64 n)
 |_=>none
def CY:ah→aY (Prop×ah)
 | .str s=>some (True,.int .i64 s.length)
 | .cst (.string s)=>some (True,.int .i64 s.size)
 |_=>none
def DZ(k:IntKind):ah→aY (Prop×ah)
 | .int _ n=>some (True,.int k (k.wrap n))
 |_=>none
def zE:ah→aY (Prop×ah)
 | .ptr k o=>some (True,.ptr k o)
 | .eptr p=>some (True,.eptr p)
 | .func f cs=>some (True,.func f cs)
 |_=>none
def Fy:ah→ah→aY (Prop×ah)
 | .int k a,.int bM b=>if k=bM then some (True,.int k (if b<a then b else a))else none
 |_,_=>none
def jU:List Bool→List ah→List ah→aY Bool
 |[],[],[]=>some true
 |false::r,.int k a::as,.int bM b::eN=>if k=bM then(jU r as eN).map fun q=>(a==b)&&q else none
 |true::r,.str a::as,.str b::eN=>(jU r as eN).map fun q=>(a==b)&&q
 |_,_,_=>none
inductive jm where
 |i
 |s
 |a (dK:List Bool)
 deriving DecidableEq
def sv:jm→ah→ah→aY Bool
 | .i,.int k a,.int bM b=>if k=bM then some (a==b)else none
 | .s,.str a,.str b=>some (a==b)
 | .a dK,.agg as,.agg eN=>jU dK as eN
 |_,_,_=>none
def tM:jm→ah→Bool
 | .a dK,.agg as=>(jU dK as as).isSome
 | .a _,_=>false
 |_,_=>true
@[simp] theorem SU(k:ah):tM .i k=true:=by cases k<;>rfl
@[simp] theorem aoA(k:ah):tM .s k=true:=by cases k<;>rfl
def vx(b9:jm)(k:ah):List ah→aY (aY ah)
 |bM::v::r=>match sv b9 k bM with
  |some true=>some (some v)
  |some false=>vx b9 k r
  |none=>none
 |_=>some none
def nA(b:aH→aY (List ah))(b9:jm)(zero:ah)(ok:Bool)(x k:ah):aY (Prop×ah):=
 match x with
 | .gmap key=>match b key with
  |some (.hdm _ _::kvs)=>if tM b9 k=false then none else match vx b9 k kvs with
   |some (some v)=>some (True,if ok then .tuple [v,.bool true]else v)
   |some none=>some (True,if ok then .tuple [zero,.bool false]else zero)
   |none=>none
  |_=>none
 |_=>none
def tW(b:aH→aY (List ah))(x:ah):aY (Prop×ah):=
 match x with
 | .gmap key=>match b key with
  |some (.hdm _ borns::_)=>some (True,.int .i64 borns.length)
  |_=>none
 |_=>none
def ib(neg:Bool):aY (List Bool)→ah→ah→aY (Prop×ah)
 |none,.bool a,.bool b=>some (True,.bool (if neg then a !=b else a==b))
 |some dK,.agg as,.agg eN=>(jU dK as eN).map fun q=>(True,.bool (if neg then !q else q))
 |_,_,_=>none
def Ft:ah→ah→aY (Prop×ah)
 | .int k a,.int bM b=>if k=bM then some (True,.int k (if a<b then b else a))else none
 |_,_=>none
def tX(b9:jm)(k v:ah):List ah→aY (aY (List ah))
 |bM::v'::r=>match sv b9 k bM with
  |some true=>some (some (k::v::r))
  |some false=>match tX b9 k v r with
   |some (some eF)=>some (some (bM::v'::eF))
   |some none=>some none
   |none=>none
  |none=>none
 |_=>some none
def mv(n:Nat):List Nat→List ah→aY ah
 |b::eN,k::v::r=>if b=n then some (.tuple [k,v])else mv n eN r
 |_,_=>none
def o3(b:aH→aY (List ah))(x:ah):aY (Prop×ah):=
 match x with
 | .ptr fh 0=>match b fh with
  |some [.hdi _ seen last,.gmap mk]=>match b mk with
   |some (.hdm clock borns::kvs)=>match seen.getLast? with
    |some n=>(mv n borns kvs).map fun p=>(clock=last,p)
    |none=>none
   |_=>none
  |_=>none
 |_=>none
theorem TJ{f g:aH→aY (List ah)}(h:∀k,f k≠none→g k=f k){b9:jm}{zero:ah}{ok:Bool}{x k:ah}{r:Prop×ah}(he:nA f b9 zero ok x k=some r):nA g b9 zero ok x k=some r:=by
 unfold nA at he⊢;split at he
 ·rename_i key;cases aI:f key with
  |none=>simp[aI]at he
  |some cs=>rw[h key (by rw[aI];simp),aI];rw[aI]at he;exact he
 ·cases he
theorem age{f g:aH→aY (List ah)}(h:∀k,f k≠none→g k=f k){x:ah}{r:Prop×ah}(he:tW f x=some r):tW g x=some r:=by
 unfold tW at he⊢;split at he
 ·rename_i key;cases aI:f key with
  |none=>simp[aI]at he
  |some cs=>rw[h key (by rw[aI];simp),aI];rw[aI]at he;exact he
 ·cases he
theorem afU{f g:aH→aY (List ah)}(h:∀k,f k≠none→g k=f k){x:ah}{r:Prop×ah}(he:o3 f x=some r):o3 g x=some r:=by
 unfold o3 at he⊢;split at he
 ·rename_i fh;cases aI:f fh with
  |none=>simp[aI]at he
  |some cs=>
   simp only[h fh (by rw[aI];simp),aI]at he⊢;split at he
   ·rename_i since seen last mk dq;cases tx:f mk with
    |none=>simp[tx]at he
    |some eH=>simp only[h mk (by rw[tx];simp),tx]at he⊢;exact he
   ·cases he
 ·cases he
inductive fO where
 |mov (x:dr)
 |pick (c x y:dr)
 |load (agg:Bool) (sz:Nat) (x:dr)
 |faddr (off:Nat) (agg:Bool) (sz:Nat) (x:dr)
 |fld (off:Nat) (agg:Bool) (sz:Nat) (x:dr)
 |iaddr (sz:Nat) (x i:dr)
 |sidx (x i:dr)
 |ssl (x:dr) (lo hi:aY dr)
 |lsl (sz:Nat) (x:dr) (lo hi:aY dr)
 |bin (op:BinOp) (wr:Bool) (x y:dr)
 |notB (x:dr)
 |neg (x:dr)
 |conv (k:IntKind) (x:dr)
 |ext (i:Nat) (x:dr)
 |len (x:dr)
 |slen (x:dr)
 |build (zero:List ah) (parts:List (Nat×Nat×dr))
 |nck (x:dr)
 |min2 (x y:dr)
 |mkf (n:Nat) (xs:List dr)
 |mget (b9:jm) (zero:ah) (ok:Bool) (x k:dr)
 |ment (x:dr)
 |mlen (x:dr)
 |beq (neg:Bool) (dK:aY (List Bool)) (x y:dr)
 |max2 (x y:dr)
 |mkif (t:Nat) (x:dr)
 |loadB (agg:Bool) (sz:Nat) (x:dr)
 |mgetB (b9:jm) (zero:ah) (ok:Bool) (x k:dr)
 |loadZ (agg:Bool) (sz:Nat) (x:dr)
def gZ(st:bq):fO→aY (Prop×ah)
 | .mov x=>some (True,ck st.t x)
 | .pick c x y=>FP (ck st.t c) (ck st.t x) (ck st.t y)
 | .load agg sz x=>mu st.b st.e agg sz (ck st.t x)
 | .faddr off agg sz x=>pw off agg sz (ck st.t x)
 | .fld off agg sz x=>qV off agg sz (ck st.t x)
 | .iaddr sz x i=>zk sz (ck st.t x) (ck st.t i)
 | .sidx x i=>Gv (ck st.t x) (ck st.t i)
 | .ssl x lo hi=>GA (ck st.t x) (lo.map (ck st.t)) (hi.map (ck st.t))
 | .lsl sz x lo hi=>Fo sz (ck st.t x) (lo.map (ck st.t)) (hi.map (ck st.t))
 | .bin op wr x y=>AO op wr (ck st.t x) (ck st.t y)
 | .notB x=>FD (ck st.t x)
 | .neg x=>Fz (ck st.t x)
 | .conv k x=>DZ k (ck st.t x)
 | .ext i x=>yB i (ck st.t x)
 | .len x=>zu (ck st.t x)
 | .slen x=>CY (ck st.t x)
 | .build zero parts=>(tf st.t zero parts).map fun(c,cs)=>(c,.agg cs)
 | .nck x=>zE (ck st.t x)
 | .min2 x y=>Fy (ck st.t x) (ck st.t y)
 | .mkf n xs=>some (True,.func n (xs.map (ck st.t)))
 | .mget b9 zero ok x k=>nA (fun k=>look k st.b) b9 zero ok (ck st.t x) (ck st.t k)
 | .ment x=>o3 (fun k=>look k st.b) (ck st.t x)
 | .mlen x=>tW (fun k=>look k st.b) (ck st.t x)
 | .beq neg dK x y=>ib neg dK (ck st.t x) (ck st.t y)
 | .max2 x y=>Ft (ck st.t x) (ck st.t y)
 | .mkif t x=>some (True,.iface t (ck st.t x))
 | .loadB agg sz x=>mu st.b [] agg sz (ck st.t x)
 | .mgetB b9 zero ok x k=>nA (fun k=>look k st.b) b9 zero ok (ck st.t x) (ck st.t k)
 | .loadZ agg sz x=>Bd agg sz (ck st.t x)
def zO(bB:List (Nat×dB))(dK:List (Nat×Nat)):List (Nat×Nat×dr)→List (Nat×Operand)→Bool
 |[],[]=>true
 |(off,sz,x)::r,(i,o)::s=>(match dK[i]? with|some (vC,t)=>off==vC&&((dV bB t).map (·.size))==some sz|none=>false)&&eg x o&&zO bB dK r s
 |_,_=>false
def G1:ah→ah→Bool
 | .int k n,.int bM n'=>decide (k=bM∧n=n')
 | .bool b,.bool bO=>b==bO
 | .str [],.str []=>true
 | .slice a .nil [],.slice b .nil []=>a==b
 | .nilp,.nilp=>true
 | .junk,.junk=>true
 |_,_=>false
def ya:List ah→List ah→Bool
 |[],[]=>true
 |c::cs,d::eH=>G1 c d&&ya cs eH
 |_,_=>false
def AA:ah→ah→Bool
 | .agg cs,.agg eH=>ya cs eH
 | .agg _,_=>false
 |p,q=>G1 p q
def xJ:List dr→List Operand→Bool
 |[],[]=>true
 |x::xs,o::os=>eg x o&&xJ xs os
 |_,_=>false
def yJ(bB:List (Nat×dB)):Nat→List Bool→List (Nat×Nat)→Bool
 |_,[],[]=>true
 |n,b::r,(off,t)::dK=>off==n&&(match dV bB t with|some ⟨_,_,.int _,_⟩=> !b|some ⟨_,_,.str,_⟩=>b|_=>false)&&yJ bB (n+1) r dK
 |_,_,_=>false
def Ef(bB:List (Nat×dB))(dK:List Bool)(t:Nat):Bool:=match dV bB t with
 |some ⟨_,_,.struct gs,_⟩=>yJ bB 0 dK gs
 |_=>false
def xp(bB:List (Nat×dB))(b9:jm)(t:Nat):Bool:=match b9 with
 | .i=>(match dV bB t with|some ⟨_,_,.int _,_⟩=>true|_=>false)
 | .s=>(match dV bB t with|some ⟨_,_,.str,_⟩=>true|_=>false)
 | .a dK=>Ef bB dK t
def MJ:List ah→ah→Bool
 |cs,.agg eH=>ya cs eH
 |_,_=>false
def vF:aY dr→aY Operand→Bool
 |none,none=>true
 |some x,some o=>eg x o
 |_,_=>false
def Da(bB:List (Nat×dB)):fO→Op→Bool
 | .mov x,.move o=>eg x o
 | .mov x,.assign o=>eg x o
 | .pick c x y,.pick cm Di ME=>eg c cm&&eg x Di&&eg y ME
 | .load agg sz x,.load t o=>(match dV bB t with|some f=>f.size==sz&&f.kind.isAgg==agg|none=>false)&&eg x o
 | .faddr off agg sz x,.fieldAddr s o i=>
  (match dV bB s with
   |some ⟨_,_,.struct dK,_⟩=>(match dK[i]? with|some (vC,t)=>off==vC&&(match dV bB t with|some f=>f.size==sz&&f.kind.isAgg==agg&&sz !=0|none=>false)|none=>false)
   |_=>false)&&eg x o
 | .fld off agg sz x,.field s o i=>
  (match dV bB s with
   |some ⟨_,_,.struct dK,_⟩=>(match dK[i]? with|some (vC,t)=>off==vC&&(match dV bB t with|some f=>f.size==sz&&f.kind.isAgg==agg|none=>false)|none=>false)
   |_=>false)&&eg x o
 | .iaddr sz x i,.indexAddr t o j=>(match dV bB t with|some ⟨_,_,.slice e,_⟩=>(match dV bB e with|some f=>f.size==sz|none=>false)|_=>false)&&eg x o&&eg i j
 | .sidx x i,.index t o j=>(match dV bB t with|some ⟨_,_,.str,_⟩=>true|_=>false)&&eg x o&&eg i j
 | .ssl x lo hi,.slice t o l h none=>(match dV bB t with|some ⟨_,_,.str,_⟩=>true|_=>false)&&eg x o&&vF lo l&&vF hi h
 | .lsl sz x lo hi,.slice t o l h none=>(match dV bB t with|some ⟨_,_,.slice e,_⟩=>(match dV bB e with|some f=>f.size==sz|none=>false)|_=>false)&&eg x o&&vF lo l&&vF hi h
 | .bin op _ x y,.binOp Um _ o o' _=>decide (op=Um)&&eg x o&&eg y o'
 | .notB x,.unOp op _ o=>decide (op= .not)&&eg x o
 | .neg x,.unOp op _ o=>decide (op= .neg)&&eg x o
 | .conv k x,.convert s d o=>(match dV bB s,dV bB d with|some ⟨_,_,.int _,_⟩,some ⟨_,_,.int bM,_⟩=>decide (k=bM)|_,_=>false)&&eg x o
 | .ext i x,.extract o j=>i==j&&eg x o
 | .len x,.call ⟨.builtin .len,⟨[o]⟩,⟨[t]⟩⟩=>(match dV bB t with|some ⟨_,_,.slice _,_⟩=>true|_=>false)&&eg x o
 | .slen x,.call ⟨.builtin .len,⟨[o]⟩,⟨[t]⟩⟩=>(match dV bB t with|some ⟨_,_,.str,_⟩=>true|_=>false)&&eg x o
 | .build zero parts,.build t ct=>(match dV bB t with|some ⟨_,_,.struct dK,z⟩=>MJ zero z&&(dK.all fun x=>(dV bB x.2).isSome)&&zO bB dK parts ct.toList|_=>false)
 | .nck x,.nilCheck o=>eg x o
 | .min2 x y,.call ⟨.builtin .min,⟨[o,o']⟩,⟨[_,_]⟩⟩=>eg x o&&eg y o'
 | .mkf n xs,.makeFunc (.func m) ⟨[]⟩ os=>n==m&&xJ xs os.toList
 | .mget b9 zero ok x k,.lookup t o o' FE=>ok==FE&&(match dV bB t with|some ⟨_,_,.map mr oQ,_⟩=>xp bB b9 mr&&(match dV bB oQ with|some f=>AA zero f.zero|none=>false)|_=>false)&&eg x o&&eg k o'
 | .ment x,.entry o=>eg x o
 | .mlen x,.call ⟨.builtin .len,⟨[o]⟩,⟨[t]⟩⟩=>(match dV bB t with|some ⟨_,_,.map _ _,_⟩=>true|_=>false)&&eg x o
 | .beq neg dK x y,.binOp op t o o' _=>decide (op=if neg then .neq else .eql)&&(match dK with|none=>(match dV bB t with|some ⟨_,_,.bool,_⟩=>true|_=>false)|some dK=>Ef bB dK t)&&eg x o&&eg y o'
 | .max2 x y,.call ⟨.builtin .max,⟨[o,o']⟩,⟨[_,_]⟩⟩=>eg x o&&eg y o'
 | .mkif t x,.makeInterface dJ o=>t==dJ&&(match dV bB t with|some ⟨_,_,.slice _,_⟩=>true|_=>false)&&eg x o
 | .loadB agg sz x,.load t o=>(match dV bB t with|some f=>f.size==sz&&f.kind.isAgg==agg|none=>false)&&eg x o
 | .loadZ agg sz x,.load t o=>(match dV bB t with|some f=>f.size==sz&&f.kind.isAgg==agg|none=>false)&&eg x o
 | .mgetB b9 zero ok x k,.lookup t o o' FE=>ok==FE&&(match dV bB t with|some ⟨_,_,.map mr oQ,_⟩=>xp bB b9 mr&&(match dV bB oQ with|some f=>AA zero f.zero|none=>false)|_=>false)&&eg x o&&eg k o'
 |_,_=>false
end Go.Pv
namespace Go.Pv
open Go Go.RowKit
theorem Ic(P:cC)(w:World)(op:BinOp)(t:fT)(x y:Operand)(k bM:IntKind)(m n:Int):(eqGuard op t x y (.int k m) (.int bM n)).run P w= .ok () w:=by cases op<;>rfl
theorem Y8(P:cC)(w:World)(op:BinOp)(t:fT)(x y:Operand)(m n:ByteArray):(eqGuard op t x y (.string m) (.string n)).run P w= .ok () w:=by cases op<;>rfl
theorem akP(l:List dz):(⟨l.toArray⟩:ByteArray).toList=l:=by simp
theorem XM(a b:List dz):(⟨a.toArray⟩:ByteArray)++(⟨b.toArray⟩:ByteArray)=⟨(a++b).toArray⟩:=by apply amv;simp
theorem Z3(a:List dz)(l h:Nat):(⟨a.toArray⟩:ByteArray).extract l h=⟨((a.take h).drop l).toArray⟩:=by apply amv;simp[List.drop_take]
theorem CX(a:List dz):(⟨a.toArray⟩:ByteArray).size=a.length:=by simp[arN]
section
variable {P:cC} {w:World} {r:Sem Value}
theorem qX{k:IntKind}{x:Int}(h:r.run P w= .ok (.int k x) w):∃v,r.run P w= .ok v w∧∀ν,ba w ν (.int k x) v:=⟨_,h,fun ν=>by simp[ba]⟩
theorem Q3{x:Bool}(h:r.run P w= .ok (.bool x) w):∃v,r.run P w= .ok v w∧∀ν,ba w ν (.bool x) v:=⟨_,h,fun ν=>by simp[ba]⟩
end
theorem aeU(P:cC)(w:World){op:BinOp}{wr:Bool}{k:IntKind}{a b:Int}{c:Prop}{p:ah}(he:EZ op wr k a b=some (c,p))(ax:c)(t:fT):
  ∃v,(binOp op t (.int k a) (.int k b)).run P w= .ok v w∧∀ν,ba w ν p v:=by
 cases op<;>simp only[EZ]at he;case add=>
  cases wr<;>simp only[if_true,gP,if_false]at he<;>cases he
  ·obtain⟨rfl,h⟩:=ax;exact qX (by simp[binOp,Op.intArith,oC _ h])
  ·exact qX (by simp[binOp,Op.intArith])
 case sub=>
  cases wr<;>simp only[if_true,gP,if_false]at he<;>cases he
  ·obtain⟨rfl,h⟩:=ax;exact qX (by simp[binOp,Op.intArith,oC _ h])
  ·exact qX (by simp[binOp,Op.intArith])
 case mul=>
  cases wr<;>simp only[if_true,gP,if_false]at he<;>cases he
  ·obtain⟨rfl,h⟩:=ax;exact qX (by simp[binOp,Op.intArith,oC _ h])
  ·exact qX (by simp[binOp,Op.intArith])
 case quo=>cases he;exact qX (by simp[binOp,Op.intDiv,ax])
 case rem=>cases he;exact qX (by simp[binOp,Op.intDiv,ax])
 case and=>cases he;exact qX (by simp only[binOp,Op.intBits,ne_eq,not_true_eq_false,if_false,gp])
 case or=>cases he;exact qX (by simp only[binOp,Op.intBits,ne_eq,not_true_eq_false,if_false,gp])
 case xor=>cases he;exact qX (by simp only[binOp,Op.intBits,ne_eq,not_true_eq_false,if_false,gp])
 all_goals cases he
 all_goals exact Q3 (by simp only[binOp,Op.intCmp,ne_eq,not_true_eq_false,if_false,gp,gt_iff_lt,ge_iff_le])
theorem akz(P:cC)(w:World){op:BinOp}{a b:List dz}{c:Prop}{p:ah}(he:GB op a b=some (c,p))(ax:c)(t:fT):
  ∃v,(binOp op t (.string ⟨a.toArray⟩) (.string ⟨b.toArray⟩)).run P w= .ok v w∧∀ν,ba w ν p v:=by
 cases op<;>simp only[GB]at he;case add=>
  cases he;refine⟨.string ⟨(a++b).toArray⟩,?_,fun ν=>by simp only[ba];exact⟨trivial,by simpa using ax⟩⟩;have J:¬(((⟨a.toArray⟩:ByteArray).size+(⟨b.toArray⟩:ByteArray).size:Nat):Int)>IntKind.i64.max:=by
   have:IntKind.i64.max=9223372036854775807:=by decide
   rw[this,CX,CX];simp only[lim]at ax;omega
  simp only[binOp,Op.stringOp,J,if_false,gp,XM]
 all_goals cases he
 all_goals exact Q3 (by simp only[binOp,Op.stringOp,akP,gp])
theorem XY(P:cC)(w:World)(ν:bd){op:BinOp}{wr:Bool}{x y:ah}{c:Prop}{p:ah}(he:AO op wr x y=some (c,p))(ax:c)(t:fT){u v:Value}(hu:ba w ν x u)(aJ:ba w ν y v)(o o':Operand):
  ∃r,(do eqGuard op t o o' u v;binOp op t u v).run P w= .ok r w∧ba w ν p r:=by
 unfold AO at he;split at he
 ·rename_i k a bM b;simp only[ba]at hu aJ;subst hu;subst aJ;split at he
  ·cases he;refine⟨_,?_,by simp[ba];rfl⟩;simp[binOp,Op.shift,Ic,Int.not_lt.2 ax]
  ·cases he;refine⟨_,?_,by simp[ba];rfl⟩;simp[binOp,Op.shift,Ic,Int.not_lt.2 ax]
  ·split at he
   ·rename_i ad;subst ad;obtain⟨r,J,U⟩:=aeU P w he ax t;exact⟨r,by simp[Ic,J],U ν⟩
   ·cases he
 ·simp only[ba]at hu aJ;rw[hu.1,aJ.1];obtain⟨r,J,U⟩:=akz P w he ax t;exact⟨r,by simp[Y8,J],U ν⟩
 ·cases he
theorem Ix{w:World}{ν:bd}:∀(v:List Value) (i off:Nat) (cs:Array Value),off+i+v.length≤cs.size→
  ((v.zipIdx i).foldl (fun cs (x:Value×Nat)=>cs.setIfInBounds (off+x.2) x.1) cs).toList=cs.toList.take (off+i)++v++cs.toList.drop (off+i+v.length)
 |[],i,off,cs,_=>by simp
 |u::v,i,off,cs,h=>by
  simp only[List.zipIdx_cons,List.foldl_cons];rw[Ix (w:=w) (ν:=ν) v (i+1) off _ (by simp at h⊢;omega)];have bC:off+i<cs.toList.length:=by simp at h⊢;omega
  simp only[Array.toList_setIfInBounds];have ak:(cs.toList.set (off+i) u).take (off+(i+1))=cs.toList.take (off+i)++[u]:=by rw[show off+(i+1)=(off+i)+1 from by omega,List.take_succ_eq_append_getElem (by simpa using bC)];simp[List.take_set_of_le (eR _)]
  have aB:(cs.toList.set (off+i) u).drop (off+(i+1)+v.length)=cs.toList.drop (off+i+(u::v).length):=by rw[List.drop_set_of_lt (by omega)];congr 1;simp;omega
  rw[ak,aB];simp
theorem VK{w:World}{ν:bd}{C:fa}{st:bq}{a:Act}(aL:cP C st a w ν){bB:List (Nat×dB)}{dK:List (Nat×Nat)}{sG:List (Nat×Nat)}
  (bJ:∀(i off t sz:Nat),dK[i]? =some (off,t)→(dV bB t).map (·.size)=some sz→sG[i]? =some (off,sz)):
  ∀(parts:List (Nat×Nat×dr)) (ct:List (Nat×Operand)) (cs:List ah) (us:Array Value) (c:Prop) (cs':List ah),zO bB dK parts ct=true→c5 w ν cs us.toList→tf st.t cs parts=some (c,cs')→c→
  ∃cg:Array Value,Instr.fill (sG.toArray[·]?) us (ct.map fun(x:Nat×Operand)=>(x.1,a.eval x.2))=some cg∧c5 w ν cs' cg.toList
 |[],[],cs,us,c,cs',_,h,he,ax=>by simp only[tf]at he;cases he;exact⟨us,by simp[Instr.fill],h⟩
 |[],_::_,_,_,_,_,eW,_,_,_=>by simp[zO]at eW
 |_::_,[],_,_,_,_,eW,_,_,_=>by simp[zO]at eW
 |(off,sz,x)::parts,(i,o)::ct,cs,us,c,cs',eW,h,he,ax=>by
  simp only[zO,cA]at eW;obtain⟨⟨J,U⟩,ao⟩:=eW;split at J
  ·rename_i vC t Bv;simp only[cA,dL]at J;obtain⟨rfl,J⟩:=J;have sl:=bJ i off t sz Bv J;simp only[tf]at he;split at he
   ·rename_i cm anq ae;cases he;obtain⟨⟨ag,au,hle⟩,hp⟩:=ax;have ab:=eh aL U;have ll:=ui ab ag;have hlen:=o7 ll;have rh:=o7 h;have kH:(a.eval o).cells.size=sz:=by have:(a.eval o).cells.toList.length=(cells (ck st.t x)).length:=hlen;rw[au]at this;simpa using this
    have qt:us.size=cs.length:=by simpa using rh
    have xe:=Ix (w:=w) (ν:=ν) (a.eval o).cells.toList 0 off us (by simp[kH,qt];omega);have mi:c5 w ν (nD cs off (cells (ck st.t x))) ((((a.eval o).cells.toList.zipIdx 0).foldl (fun cs (x:Value×Nat)=>cs.setIfInBounds (off+x.2) x.1) us).toList):=by rw[xe];unfold nD;refine xR (xR (CO off h) ll) ?_;rw[Nat.add_zero,hlen];exact z8 _ h
    obtain⟨cg,g1,g2⟩:=VK aL bJ parts ct _ _ cm cs' ao mi ae hp;refine⟨cg,?_,g2⟩;simp only[gE,Instr.fill,List.getElem?_toArray,sl];rw[if_neg (by simp[kH,qt];omega)];rw[←g1];simp only[List.getElem?_toArray];congr 1;rw[←Array.foldl_toList];simp
   ·cases he
  ·cases J
end Go.Pv
namespace Go.Pv
open Go Go.RowKit
theorem ux{P:cC}{bB:List (Nat×dB)}(aN:fN P bB=true){t:Nat}{f:dB}(aI:dV bB t=some f)(w:World):
  (Go.isAgg t).run P w= .ok f.kind.isAgg w∧(sizeOf t).run P w= .ok f.size w:=by
 obtain⟨i,d,z,J,U,ao,a8,bZ,c4,ee,nu⟩:=(uz aN aI).ex;refine⟨?_,by simp[sizeOf,typeInfo,J,ao]⟩;simp only[Go.isAgg,fF,run_underlying U,fK];cases ad:f.kind<;>rw[ad]at bZ<;>cases d<;>simp[jV]at bZ<;>simp[AH.isAgg]
theorem iJ{P:cC}{bB:List (Nat×dB)}(aN:fN P bB=true){t:Nat}{f:dB}(aI:dV bB t=some f):∃d,P.underlying t=some d∧jV f.kind d=true:=by obtain⟨i,d,z,J,U,ao,a8,bZ,c4,ee,nu⟩:=(uz aN aI).ex;exact⟨d,U,bZ⟩
theorem r1{e:Nat}{d:TypeDesc}(h:jV (.slice e) d=true):d= .slice e:=by cases d<;>simp[jV]at h;subst h;rfl
theorem yz{d:TypeDesc}(h:jV .str d=true):d= .string:=by cases d<;>simp[jV]at h;rfl
theorem D1{k:IntKind}{d:TypeDesc}(h:jV (.int k) d=true):d= .int k:=by cases d<;>simp[jV]at h;subst h;rfl
theorem HY{dK:List (Nat×Nat)}{d:TypeDesc}(h:jV (.struct dK) d=true):∃gs:Array Field,d= .struct gs∧gs.toList.map (fun f=>(f.offset,f.type))=dK:=by cases d<;>simp[jV]at h;rename_i gs;exact⟨gs,rfl,by simpa using h⟩
theorem Gg{w:World}{ν:bd}{cs:List ah}{us:List Value}(h:c5 w ν cs us)(off sz:Nat):c5 w ν ((cs.drop off).take sz) ((us.drop off).take sz):=CO sz (z8 off h)
theorem Ur{w:World}{base el sz n:Nat}{v:Value}{us:List Value}(h:w.ownsRow base el sz v n us){b:Nat}(ae:v.ownBlock=some b):∃cap,v= .slice (some ⟨b,0,none⟩) n cap:=by
 rcases h.2 with⟨rfl,_⟩|⟨g,cap,cur,rfl,_⟩
 ·simp[nK]at ae
 ·simp[nK]at ae;subst ae;exact⟨cap,rfl⟩
theorem Good.rowElem{pr:Nat→Prop}{w:World}{ν:bd}{b:List (aH×List ah)}{e:List (aH×fM)}(a7:Good pr w ν b e){k:aH}{n el sz:Nat}{xs:List ah}(ad:look k e=some ⟨n,el,sz,some xs⟩){i f:Nat}{u:Value}(ab:ba w ν (.rptr sz k n i f) u){p:ah}(bJ:xs[i]? =some p):
  ∃(v:Value) (us:List Value) (fP:Nat),ba w ν p v∧v.cells.size=sz∧∃b o,u= .pointer (some ⟨b,o,none⟩)∧∀j c,v.cells.toList[f+j]? =some c→w.cell? ⟨b,o+j,none⟩=some c:=by
 simp only[ba]at ab;obtain⟨_,hi,n',e4,J,U,ao⟩:=ab;obtain⟨v,us,a6,bu,bV,cW⟩:=a7.own k _ ad;rw[J]at a6;simp only[dG,jj]at a6;obtain⟨rfl,rfl⟩:=a6;obtain⟨bl,ae,rfl⟩:=ao rfl;obtain⟨cap,rfl⟩:=Ur bu ae;obtain⟨au,mi,_⟩:=cW xs rfl;simp only at au mi;obtain⟨v,dI,eY,kJ⟩:=Gd i mi bJ;refine⟨v,us,el,dI,eY,bl,_,rfl,fun j c af=>?_⟩;have bC:f+j<sz:=by have:=(fL.1 af).1;simp[eY]at this;exact this
 have hmul:i*sz+sz≤n'*sz:=by have:=Nat.mul_le_mul_right sz (show i+1≤n' from hi);rwa[Nat.succ_mul]at this
 have ax:=bu.cellAt (i*sz+f+j) (by show _<n'*sz;omega);rw[ax];rw[kJ,List.getElem?_take,if_pos bC,List.getElem?_drop]at af;rw[←af];congr 1;omega
theorem Fm{P:cC}{bB:List (Nat×dB)}(aN:fN P bB=true){pr:Nat→Prop}{w:World}{ν:bd}{b:List (aH×List ah)}{e:List (aH×fM)}(a7:Good pr w ν b e){t:Nat}{f:dB}(aI:dV bB t=some f)
  {x:ah} {u:Value} (ab:ba w ν x u) {c:Prop} {p:ah} (he:mu b e f.kind.isAgg f.size x=some (c,p)) (ax:c):∃v,(Instr.loadAt t u).run P w= .ok v w∧ba w ν p v:=by
 obtain⟨bF,ag⟩:=ux aN aI w;generalize Ep:f.kind.isAgg=e1 at*;generalize ef:f.size=sz at*;unfold mu at he;split at he
 ·rename_i dF k n i r6;unfold xW at he;split at he
  ·rename_i n' el ja xs ad;split at he
   ·rename_i aA;obtain⟨rfl,rfl⟩:=aA;split at he
    ·rename_i FN aef;obtain⟨My,us,fP,g1,g2,ql⟩:=Good.rowElem a7 ad ab aef;have kX:dY FN=true:=by
      cases e1
      ·simp only[gP,if_false,gF]at he;obtain⟨q,_,he⟩:=he;cases he;exact ax
      ·simp only[if_true]at he;cases he;exact ax.1
     have dq:=ui g1 kX;cases e1
     ·simp only[gP,if_false,gF]at he;obtain⟨q,bo,he⟩:=he;cases he;obtain⟨v,f1,f2,f3⟩:=CN r6 dq bo;refine⟨v,?_,f2⟩;obtain⟨b,o,rfl,ql⟩:=ql;have:=ql 0 v (by simpa using f1);simp only[Nat.add_zero]at this;simp[Instr.loadAt,Instr.sureAddr,loadVar,bF,this]
     ·simp only[if_true]at he;cases he;obtain⟨b,o,rfl,ql⟩:=ql;refine⟨.agg ((My.cells.toList.drop r6).take sz).toArray,?_,by simp only[ba];exact⟨_,rfl,by simpa using Gg dq r6 sz⟩⟩;have au:=o7 dq;have hlen:((My.cells.toList.drop r6).take sz).length=sz:=by simp only[List.length_take,rS];omega
      have iE:=run_loadCells_list (P:=P) w ⟨b,o,none⟩ ((My.cells.toList.drop r6).take sz) (fun j v af=>by
       rw[oI];refine ql j v ?_;rw[List.getElem?_take]at af;split at af
       ·simpa[List.getElem?_drop]using af
       ·cases af)
      rw[hlen]at iE;simp only[Instr.loadAt,Instr.sureAddr,loadVar,fF,gp,fK,bF,if_true,ag,iE]
    ·cases he
   ·cases he
  ·cases he
 ·rename_i k off;simp only[ba]at ab;obtain⟨bl,J,rfl⟩:=ab;split at he
  ·rename_i cs ad;obtain⟨ic,us,el,g1,g2,g3,g4,g5⟩:=a7.box k cs ad;rw[J]at g1;cases g1;have sl:hM cs=true:=by
    cases e1
    ·simp only[gP,if_false,gF]at he;obtain⟨q,bo,he⟩:=he;cases he;exact ax
    ·simp only[if_true]at he;cases he;exact ax.1
   rw[ua sl]at g4;rw[ub sl]at g5;have au:=o7 g5;cases e1
   ·simp only[gP,if_false,gF]at he;obtain⟨q,bo,he⟩:=he;cases he;obtain⟨v,f1,f2,f3⟩:=CN off g5 bo;refine⟨v,?_,f2⟩;have ql:w.cell? ⟨bl,off,none⟩=some v:=by simpa[World.cell?,g4]using f1
    simp[Instr.loadAt,Instr.sureAddr,loadVar,bF,ql]
   ·simp only[if_true]at he;cases he;replace ax:=ax.2;refine⟨_,?_,by simp only[ba];exact⟨_,rfl,by simpa using Gg g5 off sz⟩⟩;simp only[Instr.loadAt,Instr.sureAddr,loadVar,fF,gp,fK,bF,if_true,ag];rw[ajV g4 (by simp at au;omega)];rfl
  ·cases he
 ·rename_i q;simp only[ba]at ab;obtain⟨bl,off,e4,rfl,U,ao⟩:=ab;cases e1
  ·simp only[gP,if_false]at he;cases he;obtain⟨Rl,yR⟩:=ax;obtain⟨g1,g2⟩:=LC U Rl (fun cs e=>by subst e;have:=e5 List.length yR;simp only[cells,p2,List.length_nil]at this;cases cs with
    |nil=>simp[cells]at yR
    |cons y ys=>simp only[cells,p0]at yR;obtain⟨ak,aB⟩:=yR;subst aB;have:=e5 SizeOf.sizeOf ak;simp at this;omega)
   refine⟨e4,?_,U⟩;rw[g2]at ao;have ql:=ao.1.2;simp[Instr.loadAt,Instr.sureAddr,loadVar,bF,ql]
  ·simp only[if_true]at he;cases he;obtain⟨cs,rfl,hlen⟩:=ax;simp only[ba]at U;obtain⟨us,rfl,a8⟩:=U;refine⟨.agg us,?_,by simp only[ba];exact⟨us,rfl,a8⟩⟩;simp only[pc]at ao;have au:=o7 a8;have:=ajW (P:=P) ao;rw[show us.toList.length=sz from by omega]at this;simp[Instr.loadAt,Instr.sureAddr,loadVar,bF,ag,this]
 ·cases he
theorem abY{P:cC}{bB:List (Nat×dB)}(aN:fN P bB=true){w:World}{ν:bd}{s i:Nat}{f:dB}{dK:List (Nat×Nat)}(aI:dV bB s=some f)(ad:f.kind= .struct dK){off t:Nat}{g:dB}(hi:dK[i]? =some (off,t))(a7:dV bB t=some g)(bA:g.size≠0)
  {x:ah} {u:Value} (ab:ba w ν x u) {c:Prop} {p:ah} (he:pw off g.kind.isAgg g.size x=some (c,p)) (ax:c):∃v,(Instr.fieldAt s u i).run P w= .ok v w∧ba w ν p v:=by
 obtain⟨d,aQ,eV⟩:=iJ aN aI;rw[ad]at eV;obtain⟨gs,rfl,ki⟩:=HY eV;have tB:∃fd:Field,gs[i]? =some fd∧fd.offset=off∧fd.type=t:=by rw[←ki]at hi;simp only[List.getElem?_map,gF]at hi;obtain⟨fd,J,U⟩:=hi;simp only[jj]at U;exact⟨fd,by simpa using J,U.1,U.2⟩
 obtain⟨fd,Ex,aw,n7⟩:=tB;obtain⟨bF,ag⟩:=ux aN a7 w;have iE:∀b o,(Instr.fieldAt s (.pointer (some ⟨b,o,none⟩)) i).run P w= .ok (.pointer (some ⟨b,o+off,none⟩)) w:=by intro b o;simp[Instr.fieldAt,run_underlying aQ,Ex,Instr.sureAddr,fieldPlace,n7,ag,bA,oI,aw]
 unfold pw at he;split at he
 ·cases he;simp only[ba]at ab;obtain⟨b,J,rfl⟩:=ab;exact⟨_,iE _ _,by simp only[ba];exact⟨b,J,rfl⟩⟩
 ·cases he;simp only[ba]at ab;obtain⟨⟨b,o,rfl⟩,hi,n',e4,J,U,ao⟩:=ab;refine⟨_,iE _ _,?_⟩;simp only[ba];refine⟨⟨b,_,rfl⟩,hi,n',e4,J,U,fun e=>?_⟩;obtain⟨bO,ak,aB⟩:=ao e;simp only[arU,dG,Addr.mk.injEq,and_true]at aB;obtain⟨rfl,rfl⟩:=aB;exact⟨b,ak,by rw[Nat.add_assoc]⟩
 ·rename_i cs;simp only[ba]at ab;obtain⟨b,o,e4,rfl,⟨us,rfl,U⟩,ao⟩:=ab;refine⟨_,iE _ _,?_⟩;simp only[pc]at ao;split at he
  ·cases he;simp only[ba];exact⟨b,o+off,.agg ((us.toList.drop off).take g.size).toArray,rfl,⟨_,rfl,by simpa using Gg U off g.size⟩,by simpa[pc]using Fh g.size (Ff off ao)⟩
  ·simp only[gF]at he;obtain⟨q,bo,he⟩:=he;cases he;obtain⟨v,f1,f2,f3⟩:=CN off U bo;simp only[ba];have adX:=tR ao f1;have aeC:v.cells= #[v]:=by cases v<;>first|rfl|cases f3
   exact⟨b,o+off,v,rfl,f2,by rw[aeC];exact⟨adX,trivial⟩⟩
 ·cases he
theorem ab4{P:cC}{bB:List (Nat×dB)}(aN:fN P bB=true){w:World}{ν:bd}{s i:Nat}{f:dB}{dK:List (Nat×Nat)}(aI:dV bB s=some f)(ad:f.kind= .struct dK){off t:Nat}{g:dB}(hi:dK[i]? =some (off,t))(a7:dV bB t=some g)
  {x:ah} {u:Value} (ab:ba w ν x u) {c:Prop} {p:ah} (he:qV off g.kind.isAgg g.size x=some (c,p)) (ax:c):∃v,(Instr.field s u i).run P w= .ok v w∧ba w ν p v:=by
 obtain⟨d,aQ,eV⟩:=iJ aN aI;rw[ad]at eV;obtain⟨gs,rfl,ki⟩:=HY eV;have tB:∃fd:Field,gs[i]? =some fd∧fd.offset=off∧fd.type=t:=by rw[←ki]at hi;simp only[List.getElem?_map,gF]at hi;obtain⟨fd,J,U⟩:=hi;simp only[jj]at U;exact⟨fd,by simpa using J,U.1,U.2⟩
 obtain⟨fd,Ex,aw,n7⟩:=tB;obtain⟨bF,ag⟩:=ux aN a7 w;unfold qV at he;split at he
 ·rename_i cs;simp only[ba]at ab;obtain⟨us,rfl,U⟩:=ab;generalize Ep:g.kind.isAgg=e1 at*;cases e1
  ·simp only[gP,if_false,gF]at he;obtain⟨q,bo,he⟩:=he;cases he;obtain⟨v,f1,f2,f3⟩:=CN off U bo;have Z4:us[off]? =some v:=by simpa using f1
   exact⟨v,by simp[Instr.field,run_underlying aQ,Ex,asAgg,part,n7,bF,aw,Z4],f2⟩
  ·simp only[if_true]at he;cases he;refine⟨.agg (us.extract off (off+g.size)),by simp[Instr.field,run_underlying aQ,Ex,asAgg,part,n7,bF,aw,ag],?_⟩;simp only[ba];refine⟨_,rfl,?_⟩;have:=Gg U off g.size;simpa[List.take_drop]using this
 ·cases he
theorem aeP{P:cC}{bB:List (Nat×dB)}(aN:fN P bB=true){w:World}{ν:bd}{t e:Nat}{f g:dB}(aI:dV bB t=some f)(ad:f.kind= .slice e)(a7:dV bB e=some g)
  {x y:ah} {u v:Value} (ab:ba w ν x u) (aG:ba w ν y v) {c:Prop} {p:ah} (he:zk g.size x y=some (c,p)) (ax:c):∃r,(Instr.indexAt t u v).run P w= .ok r w∧ba w ν p r:=by
 obtain⟨d,aQ,eV⟩:=iJ aN aI;rw[ad]at eV;obtain rfl:=r1 eV;obtain⟨bF,ag⟩:=ux aN a7 w;unfold zk at he;split at he
 ·rename_i dF tag xs k i;split at he
  ·rename_i ef;cases he;simp only[ba]at ab aG;subst aG;subst ef;obtain⟨⟨a,cap,rfl,J,U,ao⟩,_⟩:=ab;obtain⟨BA,lQ⟩:=ax;have je:i.toNat<xs.length:=by omega
   rcases ao with rfl|⟨b,off,us,rfl,a8,bZ⟩
   ·simp at je
   ·have ab:xs[i.toNat]? =some xs[i.toNat]:=cf je;obtain⟨w',dI,eY,kJ⟩:=Gd i.toNat bZ ab;refine⟨.pointer (some ⟨b,off+i.toNat*g.size,none⟩),?_,?_⟩
    ·simp only[Instr.indexAt,asIntOf,fF,gp,fK,run_underlying aQ,BA,lQ,and_self,if_true,ag,oI]
    ·simp only[ba];refine⟨b,off+i.toNat*g.size,w',rfl,by simpa[List.getD,ab]using dI,?_⟩;rw[kJ];exact Fh g.size (Ff _ a8)
  ·cases he
 ·rename_i dF k n k1 i;split at he
  ·rename_i ef;cases he;simp only[ba]at ab aG;subst aG;subst ef;obtain⟨⟨b,cap,rfl⟩,U,n',e4,ao,a8,bZ⟩:=ab;obtain⟨BA,lQ⟩:=ax;refine⟨.pointer (some ⟨b,0+i.toNat*g.size,none⟩),?_,?_⟩
   ·simp only[Instr.indexAt,asIntOf,fF,gp,fK,run_underlying aQ,BA,lQ,and_self,if_true,ag,oI]
   ·simp only[ba];refine⟨⟨b,_,rfl⟩,by omega,n',e4,ao,a8,fun e=>⟨b,?_,by simp⟩⟩;rw[←bZ e];rfl
  ·cases he
 ·cases he
theorem FJ{C:fa}{st:bq}{a:Act}{w:World}{ν:bd}(h:cP C st a w ν){x:aY dr}{o:aY Operand}(ab:vF x o=true){D2 n:Int}(he:qy D2 (x.map (ck st.t))=some n):
  (o.map a.eval=none∧n=D2)∨ ∃k,o.map a.eval=some (.int k n):=by
 cases x with
 |none=>cases o with
  |none=>simp[qy]at he;exact .inl ⟨rfl,he.symm⟩
  |some o=>simp[vF]at ab
 |some x=>cases o with
  |none=>simp[vF]at ab
  |some o=>
   simp only[vF]at ab
   have:=eh h ab
   simp only[nM]at he⊢
   cases tw:ck st.t x<;>simp[tw,qy]at he
   rw[tw]at this
   simp only[ba]at this
   subst he
   exact .inr ⟨_,by rw[this]⟩
theorem Xa{c d:ah}(h:G1 c d=true):c=d:=by unfold G1 at h;split at h<;>simp_all
theorem MF:∀{cs eH:List ah},ya cs eH=true→cs=eH
 |[],[],_=>rfl
 |[],_::_,h=>by simp[ya]at h
 |_::_,[],h=>by simp[ya]at h
 |c::cs,d::eH,h=>by simp only[ya,cA]at h;rw[Xa h.1,MF h.2]
theorem ams{cs:List ah}{z:ah}(h:MJ cs z=true):z= .agg cs:=by
 cases z<;>simp only[MJ]at h;case agg eH=>rw[MF h]
 all_goals cases h
theorem acV(s:List dz)(n:Nat)(h:n<s.length):(⟨s.toArray⟩:ByteArray)[n]? =some (s.getD n 0):=by
 have ef:n<(⟨s.toArray⟩:ByteArray).size:=by rw[CX];exact h
 have e:(⟨s.toArray⟩:ByteArray)[n]? =some ((⟨s.toArray⟩:ByteArray)[n]'ef):=getElem?_pos (⟨s.toArray⟩:ByteArray) n ef;rw[e];congr 1;simp[List.getD,h];rfl
theorem Gx(P:cC)(w:World)(k:IntKind)(i:Int)(y:Nat)(c:BoundsCode)(bA:0≤i)(J:i≤y):(Instr.sliceBound (.int k i) y c).run P w= .ok i.toNat w:=by simp[Instr.sliceBound,asIntOf,bA,J]
theorem Np(P:cC)(w:World)(afa:Bool)(len cap:Nat)(lo hi:aY Value)(l h:Int)(BC:(lo=none∧l=0)∨ ∃k,lo=some (.int k l))(Bz:(hi=none∧h=len)∨ ∃k,hi=some (.int k h))
  (bA:0≤l) (J:l≤h) (U:h≤len) (ax:len≤cap):(Instr.sliceBounds afa len cap lo hi none).run P w= .ok (l.toNat,h.toNat,cap) w:=by
 rcases BC with⟨rfl,rfl⟩|⟨k,rfl⟩<;>rcases Bz with⟨rfl,rfl⟩|⟨bM,rfl⟩
 ·simp[Instr.sliceBounds]
 ·simp[Instr.sliceBounds,Gx P w bM h cap _ (by omega) (by omega)]
 ·simp[Instr.sliceBounds,Gx P w k l len _ (by omega) (by omega)]
 ·simp[Instr.sliceBounds,Gx P w bM h cap _ (by omega) (by omega),Gx P w k l h.toNat _ (by omega) (by omega)]
theorem Ux{P:cC}{bB:List (Nat×dB)}(aN:fN P bB=true):∀(gs:List Field),(gs.all fun f=>(dV bB f.type).isSome)=true→
  ∃sG:List (Nat×Nat),gs.mapM (fun f=>(P.info? f.type).map fun i=>(f.offset,i.size))=some sG∧
   ∀(i off t sz:Nat),(gs.map (fun f=>(f.offset,f.type)))[i]? =some (off,t)→(dV bB t).map (·.size)=some sz→sG[i]? =some (off,sz)
 |[],_=>⟨[],by simp,by simp⟩
 |f::gs,h=>by
  simp only[List.all_cons,cA]at h;obtain⟨sG,J,U⟩:=Ux aN gs h.2;obtain⟨g,a7⟩:=fG.1 h.1;obtain⟨i,d,z,ak,aB,bj,de,gS,hG,qO,qP⟩:=(uz aN a7).ex;refine⟨(f.offset,g.size)::sG,by simp[List.mapM_cons,ak,bj,J],fun j off t sz af ef=>?_⟩;cases j with
  |zero=>simp only[gE,List.getElem?_cons_zero,dG,jj]at af⊢;obtain⟨rfl,rfl⟩:=af;rw[a7]at ef;simpa using ef
  |succ j=>simp only[gE,List.getElem?_cons_succ]at af⊢;exact U j off t sz af ef
theorem k5{P:cC}{w:World}{x:Sem Value}{v:Value}(h:x.run P w= .ok v w):(do pure (Next.value (←x)):Sem Next).run P w= .ok (.value v) w:=by simp[h]
theorem MI{p q:ah}(h:AA p q=true):p=q:=by
 unfold AA at h;split at h
 ·rw[MF h]
 ·cases h
 ·exact Xa h
theorem MH(w:World)(ν:bd){p:ah}{v:Value}(h:yb p v=true):ba w ν p v∧c5 w ν (cells p) v.cells.toList:=by
 by_cases bF:∃cs,p= .agg cs
 ·obtain⟨cs,rfl⟩:=bF;cases v<;>simp only[yb]at h;case agg us=>have:=MG w ν _ _ h;exact⟨by simp only[ba];exact⟨us,rfl,this⟩,by simpa[cells,pc]using this⟩
  all_goals cases h
 ·have cr:yo p v=true∧v.oneCell'=true:=by cases p<;>simp only[yb,cA]at h<;>first|exact h|exact absurd ⟨_,rfl⟩ bF
  have aL:=Hu w ν cr.1;refine⟨aL,?_⟩;have ax:cells p=[p]:=by cases p<;>first|rfl|exact absurd ⟨_,rfl⟩ bF
  have aJ:v.cells= #[v]:=by have:=cr.2;cases v<;>first|rfl|simp[Value.oneCell']at this
  rw[ax,aJ];simp only[c5];exact⟨v,[],rfl,⟨aL,cr.2⟩,rfl⟩
theorem Me{P:cC}{bB:List (Nat×dB)}(aN:fN P bB=true){t:Nat}{f:dB}(aI:dV bB t=some f)(w:World):∃z,(zeroValue t).run P w= .ok z w∧yb f.zero z=true∧z.cells.size=f.size:=by obtain⟨i,d,z,J,U,ao,a8,bZ,c4,ee,nu⟩:=(uz aN aI).ex;exact⟨z,by simp[zeroValue,typeInfo,J,c4],ee,nu⟩
theorem CP{C:fa}{st:bq}{a:Act}{w:World}{ν:bd}(h:cP C st a w ν):∀{xs:List dr} {os:List Operand},xJ xs os=true→cN w ν (xs.map (ck st.t)) (os.map a.eval)
 |[],[],_=>by simp[cN]
 |[],_::_,ad=>by simp[xJ]at ad
 |_::_,[],ad=>by simp[xJ]at ad
 |x::xs,o::os,ad=>by simp only[xJ,cA]at ad;simp only[gE,cN];exact⟨_,_,rfl,eh h ad.1,CP h ad.2⟩
theorem Zb{P:cC}{w:World}{t:fT}(aQ:P.underlying t=some .bool)(d:Nat)(a b:Bool):(Op.equalIn (d+1) t (.bool a) (.bool b)).run P w= .ok (a==b) w:=by rw[Op.equalIn];simp only[fF,run_underlying aQ,fK,gp]
theorem Zc{P:cC}{w:World}{t:fT}(aQ:P.underlying t=some .bool)(a b:Bool):(Op.equal t (.bool a) (.bool b)).run P w= .ok (a==b) w:=Zb aQ _ a b
theorem P2:∀{borns:List Nat} {kvs:List ah} {us:List Value},kvs.length=2*borns.length→us.length=kvs.length→(fv borns us).length=borns.length
 |[],_,us,_,_=>by simp[fv]
 |bO::eN,kvs,[],J,U=>by rw[J]at U;simp at U
 |bO::eN,kvs,[_],J,U=>by rw[J]at U;simp at U;omega
 |bO::eN,kvs,k::v::us,J,U=>by simp only[fv,p2];rw[P2 (kvs:=kvs.drop 2) (us:=us) (borns:=eN) (by simp at J⊢;omega) (by simp at J U⊢;omega)]
theorem VD{w:World}{ν:bd}:∀{ct:List ah} {bc:List Value},cN w ν ct bc→bc.length=ct.length
 |[],bc,h=>by simp only[cN]at h;subst h;rfl
 |p::ct,bc,h=>by simp only[cN]at h;obtain⟨u,cg,rfl,_,U⟩:=h;simp[VD U]
theorem uo{P:cC}{w:World}{r:Nat}{o:Obj}(ae:w.heap[r]? =some o)(aA:∀c e f,o≠ .cells c e f:=by simp):(getObj r).run P w= .ok o w:=by simp only[getObj,Sem.run,ae]
def p4(P:cC):Nat→List Bool→List Field→Prop
 |_,[],[]=>True
 |n,b::r,f::gs=>(f.offset=n∧f.name≠ "_" ∧(if b=true then P.underlying f.type=some .string else∃k,P.underlying f.type=some (.int k)))∧p4 P (n+1) r gs
 |_,_,_=>eQ
theorem CE{P:cC}{t:fT}{b:Bool}(h:if b=true then P.underlying t=some .string else∃k,P.underlying t=some (.int k)):P.plainKey t=true:=by
 cases b
 ·obtain⟨k,h⟩:=(by simpa using h:∃k,P.underlying t=some (.int k));simp[Program.plainKey,h]
 ·have h:P.underlying t=some .string:=by simpa using h
  simp[Program.plainKey,h]
theorem Yc{P:cC}{w:World}{ν:bd}(d:Nat){X Y:Array Value}(dK:List Bool):∀(gs:List Field) (n:Nat) (as eN:List ah) (us bc:List Value) (q:Bool),p4 P n dK gs→X.toList.drop n=us→Y.toList.drop n=bc→c5 w ν as us→c5 w ν eN bc→jU dK as eN=some q→
  (Op.eqFields (d+1) X Y gs).run P w= .ok q w∧(q=true→us=bc)∧∀m,(us.zip us).all (fun(x,y)=>Instr.sameBits m x y)=true:=by
 induction dK with
 |nil=>intro gs n as eN us bc q a7 Bn Bo J U h;cases as<;>cases eN<;>simp only[jU,dG,reduceCtorEq]at h;cases gs<;>simp only[p4]at a7;simp only[c5]at J U;rw[J,U,←h];exact⟨by simp[Op.eqFields],fun _=>rfl,fun m=>rfl⟩
 |cons wJ r bT=>
  intro gs n as eN us bc q a7 Bn Bo J U h;cases gs with
  |nil=>simp only[p4]at a7
  |cons f gs=>
  simp only[p4]at a7;obtain⟨⟨EI,BH,n7⟩,a7⟩:=a7;cases as with
  |nil=>cases wJ<;>cases eN<;>simp[jU]at h
  |cons CC as=>
  cases eN with
  |nil=>cases wJ<;>cases CC<;>simp[jU]at h
  |cons FO eN=>
  cases wJ with
  |false=>
   have ax:∃k a b gx,CC= .int k a∧FO= .int k b∧jU r as eN=some gx∧q=((a==b)&&gx):=by
    cases CC<;>first|(simp[jU]at h;done)|skip
    cases FO<;>first|(simp[jU]at h;done)|skip
    simp only[jU]at h;split at h
    ·rename_i ad;subst ad;simp only[gF]at h;obtain⟨gx,ao,a8⟩:=h;exact⟨_,_,_,gx,rfl,rfl,ao,a8.symm⟩
    ·cases h
   obtain⟨k,a,b,gx,rfl,rfl,ao,rfl⟩:=ax;simp only[c5,ba]at J U;obtain⟨u,cg,rfl,⟨rfl,_⟩,J⟩:=J;obtain⟨v,vs',rfl,⟨rfl,_⟩,U⟩:=U;have CB:X[n]? =some (.int k a):=by rw[←sV,←List.head?_drop,Bn];rfl
   have KX:Y[n]? =some (.int k b):=by rw[←sV,←List.head?_drop,Bo];rfl
   obtain⟨i1,i2,i3⟩:=bT gs (n+1) as eN cg vs' gx a7 (by rw[←List.tail_drop,Bn];rfl) (by rw[←List.tail_drop,Bo];rfl) J U ao;obtain⟨k1,JD⟩:=(by simpa using n7:∃k,P.underlying f.type=some (.int k));refine⟨?_,?_,fun m=>?_⟩
   ·simp only[Op.eqFields,BH,ne_eq,not_false_eq_true,if_true,fF,EI,run_part_plain w (CE n7) CB,run_part_plain w (CE n7) KX,fK,run_equalIn_int w d f.type k k1 a b JD];cases mN:(a==b)
    ·simp
    ·simpa using i1
   ·intro bo;simp only[cA,dL]at bo;rw[bo.1,i2 bo.2]
   ·have:=i3 m;simp only[List.zip_cons_cons,List.all_cons,this,Bool.and_true];cases m<;>simp[Instr.sameBits]
  |true=>
   have ax:∃a b gx,CC= .str a∧FO= .str b∧jU r as eN=some gx∧q=((a==b)&&gx):=by
    cases CC<;>first|(simp[jU]at h;done)|skip
    cases FO<;>first|(simp[jU]at h;done)|skip
    simp only[jU,gF]at h;obtain⟨gx,ao,a8⟩:=h;exact⟨_,_,gx,rfl,rfl,ao,a8.symm⟩
   obtain⟨a,b,gx,rfl,rfl,ao,rfl⟩:=ax;simp only[c5,ba]at J U;obtain⟨u,cg,rfl,⟨⟨rfl,_⟩,_⟩,J⟩:=J;obtain⟨v,vs',rfl,⟨⟨rfl,_⟩,_⟩,U⟩:=U;have CB:X[n]? =some (.string ⟨a.toArray⟩):=by rw[←sV,←List.head?_drop,Bn];rfl
   have KX:Y[n]? =some (.string ⟨b.toArray⟩):=by rw[←sV,←List.head?_drop,Bo];rfl
   obtain⟨i1,i2,i3⟩:=bT gs (n+1) as eN cg vs' gx a7 (by rw[←List.tail_drop,Bn];rfl) (by rw[←List.tail_drop,Bo];rfl) J U ao;have JD:P.underlying f.type=some .string:=by simpa using n7
   refine⟨?_,?_,fun m=>?_⟩
   ·simp only[Op.eqFields,BH,ne_eq,not_false_eq_true,if_true,fF,EI,run_part_plain w (CE n7) CB,run_part_plain w (CE n7) KX,fK,run_equalIn_string w d f.type _ _ JD];have e:((⟨a.toArray⟩:ByteArray).toList==(⟨b.toArray⟩:ByteArray).toList)=(a==b):=by rw[amw,amw]
    rw[e];cases mN:(a==b)
    ·simp
    ·simpa using i1
   ·intro bo;simp only[cA,dL]at bo;rw[bo.1,i2 bo.2]
   ·have:=i3 m;simp only[List.zip_cons_cons,List.all_cons,this,Bool.and_true];cases m<;>simp only[Instr.sameBits]<;>exact(MapKept.bytes_beq _ _).2 rfl
theorem QB{P:cC}{bB:List (Nat×dB)}(aN:fN P bB=true):∀(dK:List Bool) (gs:List Field) (n:Nat),yJ bB n dK (gs.map fun f=>(f.offset,f.type))=true→(gs.all (fun f=>match P.underlying f.type with|some (.int _)=>true|some .string=>true|_=>false)=true)∧((∀f∈gs,f.name≠ "_")→p4 P n dK gs)
 |[],[],_,_=>⟨rfl,fun _=>trivial⟩
 |[],_::_,_,h=>by simp[yJ]at h
 |_::_,[],_,h=>by simp[yJ]at h
 |b::r,f::gs,n,h=>by
  simp only[gE,yJ,cA,dL]at h;obtain⟨⟨J,U⟩,ao⟩:=h;obtain⟨i1,i2⟩:=QB aN r gs (n+1) ao;split at U
  ·rename_i aI;obtain⟨d,hu,aQ⟩:=iJ aN aI;obtain rfl:=D1 aQ;refine⟨by simp only[List.all_cons,hu,i1,Bool.and_self],fun aA=>⟨⟨J,aA f (by simp),?_⟩,i2 fun g a7=>aA g (by simp[a7])⟩⟩;have:b=false:=by simpa using U
   subst this;simpa using⟨_,hu⟩
  ·rename_i aI;obtain⟨d,hu,aQ⟩:=iJ aN aI;obtain rfl:=yz aQ;refine⟨by simp only[List.all_cons,hu,i1,Bool.and_self],fun aA=>⟨⟨J,aA f (by simp),?_⟩,i2 fun g a7=>aA g (by simp[a7])⟩⟩;subst U;simpa using hu
  ·cases U
theorem QD{P:cC}{bB:List (Nat×dB)}(aN:fN P bB=true){dK:List Bool}{t:Nat}(h:Ef bB dK t=true):∃gs,P.underlying t=some (.struct gs)∧p4 P 0 dK gs.toList∧P.stoodInHeld t=false∧P.eqGuardType P.depth t=false:=by
 unfold Ef at h;split at h
 ·rename_i aI;obtain⟨d,hu,aQ⟩:=iJ aN aI;have ax:=(uz aN aI).cmp d hu;cases d<;>simp[jV]at aQ;rename_i gs;subst aQ;obtain⟨i1,i2⟩:=QB aN dK gs.toList 0 h;have sd:QC P gs=true:=i1;simp only[HV,sd,Bool.not_true,Bool.false_or,PJ,cA,Bool.not_eq_true',jb,bne_iff_ne,ne_eq]at ax;exact⟨gs,hu,i2 ax.1.1,ax.1.2,ax.2⟩
 ·cases h
theorem P6{P:cC}{w:World}{ν:bd}{t:fT}{gs:Array Field}{dK:List Bool}(hu:P.underlying t=some (.struct gs))(a7:p4 P 0 dK gs.toList)(dd:P.stoodInHeld t=false){as eN:List ah}{X Y:Array Value}(J:c5 w ν as X.toList)(U:c5 w ν eN Y.toList){q:Bool}(h:jU dK as eN=some q):
  (Op.equalIn 10000 t (.agg X) (.agg Y)).run P w= .ok q w∧(q=true→X=Y)∧∀m,(X.toList.zip X.toList).all (fun(x,y)=>Instr.sameBits m x y)=true:=by
 have aI:P.fieldsOf t=gs:=by simp[Program.fieldsOf,hu]
 obtain⟨i1,i2,i3⟩:=Yc 9998 dK gs.toList 0 as eN _ _ q a7 rfl rfl J U h;refine⟨?_,fun e=>?_,?_⟩
 ·rw[run_equalIn_struct w 9999 t X Y (by rw[aI];exact hu) dd,aI];exact i1
 ·have:=i2 e;simpa using this
 ·simpa using i3
inductive s5 (P:cC):jm→fT→Prop
 |i {t:fT} {k:IntKind}:P.underlying t=some (.int k)→s5 P .i t
 |s {t:fT}:P.underlying t=some .string→s5 P .s t
 |a {t:fT} {dK:List Bool} {gs:Array Field}:P.underlying t=some (.struct gs)→p4 P 0 dK gs.toList→P.stoodInHeld t=false→s5 P (.a dK) t
theorem JZ{P:cC}{bB:List (Nat×dB)}(aN:fN P bB=true){b9:jm}{t:Nat}(h:xp bB b9 t=true):s5 P b9 t:=by
 cases b9 with
 |i=>
  simp only[xp]at h;split at h
  ·rename_i aI;obtain⟨d,hu,aQ⟩:=iJ aN aI;obtain rfl:=D1 aQ;exact .i hu
  ·cases h
 |s=>
  simp only[xp]at h;split at h
  ·rename_i aI;obtain⟨d,hu,aQ⟩:=iJ aN aI;obtain rfl:=yz aQ;exact .s hu
  ·cases h
 |a dK=>obtain⟨gs,J,U,ao,_⟩:=QD aN h;exact .a J U ao
def rV(P:cC)(w:World)(b9:jm)(t:fT)(gV u:Value)(b:Bool):Prop:=match b9 with
 | .a _=>(Op.equal t gV u).run P w= .ok b w
 |_=> ∀d,P.underlying t=some d→Instr.sameNow d gV u=some b
def hP(P:cC)(w:World)(b9:jm)(t:fT)(gV:Value)(es:List MapEntry)(i:Nat)(r:aY (Nat×Value)):Prop:=match b9 with
 | .a _=>(Instr.findAsking t gV es i).run P w= .ok r w
 |_=> ∀d,P.underlying t=some d→Instr.findNow d gV es i=some r
theorem hP.nil(P:cC)(w:World)(b9:jm)(t:fT)(gV:Value)(i:Nat):hP P w b9 t gV [] i none:=by cases b9<;>simp[hP,Instr.findAsking,Instr.findNow]
theorem hP.hit{P:cC}{w:World}{b9:jm}{t:fT}{gV:Value}{e:MapEntry}{es:List MapEntry}{i:Nat}(h:rV P w b9 t gV e.key true):hP P w b9 t gV (e::es) i (some (i,e.val)):=by
 cases b9 with
 |a dK=>simp only[rV]at h;simp[hP,Instr.findAsking,h]
 |i=>simp only[rV]at h;simp only[hP];intro d aQ;simp[Instr.findNow,h d aQ]
 |s=>simp only[rV]at h;simp only[hP];intro d aQ;simp[Instr.findNow,h d aQ]
theorem hP.miss{P:cC}{w:World}{b9:jm}{t:fT}{gV:Value}{e:MapEntry}{es:List MapEntry}{i:Nat}{r:aY (Nat×Value)}(h:rV P w b9 t gV e.key false)(aL:hP P w b9 t gV es (i+1) r):hP P w b9 t gV (e::es) i r:=by
 cases b9 with
 |a dK=>simp only[rV]at h;simp only[hP]at aL;simp[hP,Instr.findAsking,h,aL]
 |i=>simp only[rV]at h;simp only[hP]at aL⊢;intro d aQ;simp[Instr.findNow,h d aQ,aL d aQ]
 |s=>simp only[rV]at h;simp only[hP]at aL⊢;intro d aQ;simp[Instr.findNow,h d aQ,aL d aQ]
theorem hP.run{P:cC}{w:World}{b9:jm}{t:fT}(aQ:s5 P b9 t){gV:Value}{es:List MapEntry}{r:aY (Nat×Value)}(h:hP P w b9 t gV es 0 r):(Instr.findKey t gV es).run P w= .ok r w:=by
 cases aQ with
 |i hu=>simp only[hP]at h;simp[Instr.findKey,run_underlying hu,h _ hu]
 |s hu=>simp only[hP]at h;simp[Instr.findKey,run_underlying hu,h _ hu]
 |a hu a7 dd=>
  simp only[hP]at h;cases es with
  |nil=>simp[Instr.findAsking]at h;simp[Instr.findKey,run_underlying hu,Instr.findNow,h]
  |cons e es=>
   rename_i gs;have:Instr.sameNow (.struct gs) gV e.key=none:=by cases gV<;>rfl
   simp only[Instr.findKey,fF,run_underlying hu,fK,Instr.findNow,this];exact h
theorem SR{P:cC}{w:World}{ν:bd}{b9:jm}{t:fT}(aQ:s5 P b9 t){k bM:ah}{gV u:Value}(ad:ba w ν k gV)(J:ba w ν bM u){bb:Bool}(ae:sv b9 k bM=some bb):
  rV P w b9 t gV u bb∧(bb=true→u=gV∧Instr.sameBits 10000 u gV=true):=by
 unfold sv at ae;split at ae
 ·split at ae
  ·rename_i lj;subst lj;simp only[ba]at ad J;subst ad;subst J;cases aQ with
   |i hu=>refine⟨fun d aQ=>by rw[hu]at aQ;cases aQ;simpa[Instr.sameNow]using ae,fun e=>?_⟩;subst e;simp only[dG,dL]at ae;subst ae;exact⟨rfl,by simp[Instr.sameBits]⟩
  ·cases ae
 ·rename_i a b;simp only[ba]at ad J;obtain⟨rfl,_⟩:=ad;obtain⟨rfl,_⟩:=J;cases aQ with
  |s hu=>
   refine⟨fun d aQ=>?_,fun e=>?_⟩
   ·rw[hu]at aQ;cases aQ;simp only[Instr.sameNow];rw[←ae];congr 1;rw[pZ,MapKept.bytes_beq];simp
   ·subst e;simp only[dG,dL]at ae;subst ae;exact⟨rfl,by simp only[Instr.sameBits];exact(MapKept.bytes_beq _ _).2 rfl⟩
 ·simp only[ba]at ad J;obtain⟨X,rfl,ad⟩:=ad;obtain⟨Y,rfl,J⟩:=J;cases aQ with
  |a hu a7 dd=>obtain⟨i1,i2,i3⟩:=P6 hu a7 dd ad J ae;refine⟨by simpa[rV,Op.equal,Op.maxDepth]using i1,fun e=>?_⟩;have:=i2 e;subst this;exact⟨rfl,by simp[Instr.sameBits,i3]⟩
 ·cases ae
theorem Kr{P:cC}{w:World}{ν:bd}{b9:jm}{t:fT}(aQ:s5 P b9 t){k:ah}{gV:Value}(ad:ba w ν k gV):∀(borns:List Nat) (kvs:List ah) (us:List Value) (i:Nat) (r:aY ah),cN w ν kvs us→kvs.length=2*borns.length→vx b9 k kvs=some r→
  match r with
  |none=>hP P w b9 t gV (fv borns us) i none
  |some v=> ∃j u,hP P w b9 t gV (fv borns us) i (some (j,u))∧ba w ν v u
 |[],[],us,i,r,h,_,hm=>by simp only[vx]at hm;cases hm;simp only[cN]at h;subst h;simpa[fv]using hP.nil P w b9 t gV i
 |[],_::_,_,_,_,_,au,_=>by simp at au
 |b::eN,[],_,_,_,_,au,_=>by simp at au
 |b::eN,[_],_,_,_,_,au,_=>by simp at au;omega
 |b::eN,bM::v::kvs,us,i,r,h,au,hm=>by
  simp only[cN]at h;obtain⟨h7,Mj,rfl,J,iK,rL,rfl,U,ao⟩:=h;simp only[vx]at hm;simp only[fv];cases bo:sv b9 k bM with
  |none=>simp[bo]at hm
  |some bb=>
   obtain⟨s1,_⟩:=SR aQ ad J bo;simp only[bo]at hm;cases bb with
   |true=>simp only[dG]at hm;subst hm;exact⟨i,iK,hP.hit (e:=⟨h7,iK,b⟩) s1,U⟩
   |false=>
    simp only at hm;have bT:=Kr aQ ad eN kvs rL (i+1) r ao (by simp at au;omega) hm;cases r with
    |none=>exact hP.miss (e:=⟨h7,iK,b⟩) s1 bT
    |some v'=>obtain⟨j,u,g1,g2⟩:=bT;exact⟨j,u,hP.miss (e:=⟨h7,iK,b⟩) s1 g1,g2⟩
theorem HT{P:cC}{w:World}{t:Nat}{d:TypeDesc}(hu:P.underlying t=some d)(aQ:(∃k,d= .int k)∨d= .string)(e:Bool)(n:Nat)(v:Value):(Instr.checkKey e (n+1) t v).run P w= .ok () w:=by unfold Instr.checkKey;rcases aQ with⟨k,rfl⟩|rfl<;>simp[run_underlying hu]
theorem ab3{P:cC}{w:World}{ν:bd}{X:Array Value}(dK:List Bool):∀(gs:List Field) (n:Nat) (as:List ah),p4 P n dK gs→c5 w ν as (X.toList.drop n)→(jU dK as as).isSome=true→
  ∀f∈gs,(∃v,(part f.type X f.offset).run P w= .ok v w)∧∃d,P.underlying f.type=some d∧((∃k,d= .int k)∨d= .string):=by
 induction dK with
 |nil=>intro gs n as a7 _ _ f aI;cases gs<;>simp only[p4]at a7;cases aI
 |cons wJ r bT=>
  intro gs n as a7 aL ax f aI;cases gs with
  |nil=>cases aI
  |cons g gs=>
  simp only[p4]at a7;obtain⟨⟨EI,BH,n7⟩,a7⟩:=a7;cases as with
  |nil=>cases wJ<;>simp[jU]at ax
  |cons p as=>
  have hp:(jU r as as).isSome=true:=by cases wJ<;>cases p<;>simp[jU]at ax⊢ <;>exact ax
  simp only[c5]at aL;obtain⟨u,cg,e,_,dE⟩:=aL;have aB:X.toList.drop (n+1)=cg:=by rw[←List.tail_drop,e];rfl
  have CB:X[n]? =some u:=by rw[←sV,←List.head?_drop,e];rfl
  rcases fU.1 aI with rfl|aI
  ·refine⟨⟨u,by rw[EI];exact run_part_plain w (CE n7) CB⟩,?_⟩;cases wJ
   ·obtain⟨k,h⟩:=(by simpa using n7:∃k,P.underlying f.type=some (.int k));exact⟨_,h,.inl ⟨k,rfl⟩⟩
   ·exact⟨_,by simpa using n7,.inr rfl⟩
  ·exact bT gs (n+1) as a7 (by rw[aB];exact dE) hp f aI
theorem QJ{P:cC}{w:World}{α:Type}(body:α→PUnit→Sem (ForInStep PUnit)):∀(l:List α),(∀f∈l,(body f ⟨⟩).run P w= .ok (.yield ⟨⟩) w)→(forIn l PUnit.unit body).run P w= .ok PUnit.unit w
 |[],_=>by simp
 |f::l,h=>by simp only[List.forIn_cons,fF,h f (by simp),fK];exact QJ body l fun g a7=>h g (by simp[a7])
theorem LH{P:cC}{w:World}{ν:bd}{b9:jm}{t:Nat}(aQ:s5 P b9 t)(e:Bool){k:ah}{v:Value}(ad:ba w ν k v)(hi:tM b9 k=true):(Instr.checkKey e 10000 t v).run P w= .ok () w:=by
 cases aQ with
 |i hu=>exact HT hu (.inl ⟨_,rfl⟩) e 9999 v
 |s hu=>exact HT hu (.inr rfl) e 9999 v
 |a hu a7 dd=>
  rename_i dK gs;cases k<;>simp only[tM,gP]at hi;rename_i as;simp only[ba]at ad;obtain⟨X,rfl,ad⟩:=ad;unfold Instr.checkKey;simp only[fF,run_underlying hu,fK];rw[←Array.forIn_toList];rw[QJ]
  ·simp
  ·intro f aI;obtain⟨⟨v,J⟩,d,U,ao⟩:=ab3 dK gs.toList 0 as a7 (by simpa using ad) hi f aI;have a8:=HT (w:=w) U ao e 9998 v;by_cases aA:f.name= "_"
   ·simp[aA]
   ·simp[aA,J,a8]
theorem TC{w:World}{ν:bd}{n:Nat}:∀(borns:List Nat) (kvs:List ah) (us:List Value) (p:ah),cN w ν kvs us→mv n borns kvs=some p→∃e,(fv borns us).find? (·.born==n)=some e∧ba w ν p (.tuple #[e.key,e.val])
 |[],_,_,_,_,hm=>by simp[mv]at hm
 |_::_,[],_,_,_,hm=>by simp[mv]at hm
 |_::_,[_],_,_,_,hm=>by simp[mv]at hm
 |b::eN,k::v::kvs,us,p,h,hm=>by
  simp only[cN]at h;obtain⟨h7,Mj,rfl,J,iK,rL,rfl,U,ao⟩:=h;simp only[mv]at hm;simp only[fv];by_cases e:b=n
  ·rw[if_pos e]at hm;cases hm;refine⟨⟨h7,iK,b⟩,by simp[List.find?,e],?_⟩;simp only[ba];exact⟨#[h7,iK],rfl,by simp only[cN];exact⟨_,_,rfl,J,_,_,rfl,U,rfl⟩⟩
  ·rw[if_neg e]at hm;obtain⟨x,g1,g2⟩:=TC eN kvs rL p ao hm;have adj:(b==n)=false:=by simpa using e
   exact⟨x,by simp[List.find?,adj,g1],g2⟩
theorem Wo{P:cC}{bB:List (Nat×dB)}(aN:fN P bB=true){C:fa}{st:bq}{a:Act}{w:World}{ν:bd}(aL:cP C st a w ν){i:fO}(adi:∀b9 z ok x k,i≠ .mgetB b9 z ok x k){o:Oper}(aw:Da bB i o.op=true)
  {c:Prop} {p:ah} (he:gZ st i=some (c,p)) (ax:c):∃v,(execOp a.eval o).run P w= .ok (.value v) w∧ba w ν p v:=by
 obtain⟨dst,op,type,pos,after,guard⟩:=o;simp only at aw;unfold Da at aw;split at aw
 ·rename_i x o;simp only[gZ]at he;cases he;exact⟨_,rfl,eh aL aw⟩
 ·rename_i x o;simp only[gZ]at he;cases he;exact⟨_,rfl,eh aL aw⟩
 ·rename_i cm x y amU Di ME;simp only[cA]at aw;have J:=eh aL aw.1.1;have U:=eh aL aw.1.2;have ao:=eh aL aw.2;simp only[gZ,FP]at he;split at he
  ·rename_i b ae;rw[ae]at J;simp only[ba]at J;split at he
   ·rename_i u v hu aJ;cases he;rw[hu]at U;rw[aJ]at ao;simp only[ba]at U ao;refine⟨.bool (cond b u v),?_,by simp[ba]⟩;simp only[execOp,J,U,ao,asBool,fF,gp,fK];cases b<;>rfl
   ·split at he
    ·cases he;exact⟨_,by simp only[execOp,J,asBool,fF,gp,fK,if_true],U⟩
    ·cases he;exact⟨_,by simp only[execOp,J,asBool,fF,gp,fK,gP,if_false],ao⟩
  ·cases he
 ·rename_i agg sz x t o;simp only[cA]at aw;obtain⟨J,U⟩:=aw;split at J
  ·rename_i f aI;simp only[cA,dL]at J;obtain⟨rfl,rfl⟩:=J;obtain⟨v,g1,g2⟩:=Fm aN aL.good aI (eh aL U) (by simpa only[gZ]using he) ax;exact⟨v,k5 g1,g2⟩
  ·cases J
 ·rename_i off agg sz x s o i;simp only[cA]at aw;obtain⟨J,U⟩:=aw;split at J
  ·rename_i f aI;split at J
   ·rename_i vC t Bv;simp only[cA,dL]at J;obtain⟨rfl,J⟩:=J;split at J
    ·rename_i g a7;simp only[cA,dL,bne_iff_ne,ne_eq]at J;obtain⟨⟨rfl,rfl⟩,bA⟩:=J;obtain⟨v,g1,g2⟩:=abY aN aI rfl Bv a7 bA (eh aL U) (by simpa only[gZ]using he) ax;exact⟨v,k5 g1,g2⟩
    ·cases J
   ·cases J
  ·cases J
 ·rename_i off agg sz x s o i;simp only[cA]at aw;obtain⟨J,U⟩:=aw;split at J
  ·rename_i f aI;split at J
   ·rename_i vC t Bv;simp only[cA,dL]at J;obtain⟨rfl,J⟩:=J;split at J
    ·rename_i g a7;simp only[cA,dL]at J;obtain⟨rfl,rfl⟩:=J;obtain⟨v,g1,g2⟩:=ab4 aN aI rfl Bv a7 (eh aL U) (by simpa only[gZ]using he) ax;exact⟨v,k5 g1,g2⟩
    ·cases J
   ·cases J
  ·cases J
 ·rename_i sz x i t o j;simp only[cA]at aw;obtain⟨⟨J,U⟩,ao⟩:=aw;split at J
  ·rename_i e aI;split at J
   ·rename_i g a7;simp only[dL]at J;subst J;obtain⟨v,g1,g2⟩:=aeP aN aI rfl a7 (eh aL U) (eh aL ao) (by simpa only[gZ]using he) ax;exact⟨v,k5 g1,g2⟩
   ·cases J
  ·cases J
 ·rename_i x i t o j;simp only[cA]at aw;obtain⟨⟨J,U⟩,ao⟩:=aw;split at J
  ·rename_i aI;obtain⟨d,aQ,eV⟩:=iJ aN aI;obtain rfl:=yz eV;have ak:=eh aL U;have aB:=eh aL ao;simp only[gZ,Gv]at he;split at he
   ·rename_i s k n ag aA;cases he;rw[ag]at ak;rw[aA]at aB;simp only[ba]at ak aB;obtain⟨tu,Rl⟩:=ax;have bC:n.toNat<s.length:=by omega
    have adH:(⟨s.toArray⟩:ByteArray)[n.toNat]? =some (s.getD n.toNat 0):=by exact acV s n.toNat bC
    refine⟨_,k5 (v:= .int .u8 (s.getD n.toNat 0).toNat) ?_,by simp[ba]⟩;simp only[Instr.index,aB,asIntOf,ak.1,fF,gp,fK,run_underlying aQ,tu,if_true,adH]
   ·cases he
  ·cases J
 ·rename_i x lo hi t o l h;simp only[cA]at aw;obtain⟨⟨⟨J,U⟩,ao⟩,a8⟩:=aw;split at J
  ·rename_i aI;obtain⟨d,aQ,eV⟩:=iJ aN aI;obtain rfl:=yz eV;have ak:=eh aL U;simp only[gZ,GA]at he;split at he
   ·rename_i s ag;rw[ag]at ak;simp only[ba]at ak;split at he
    ·rename_i pM cO au Je;cases he;obtain⟨bI,ch,dc⟩:=ax;have aT:=FJ aL ao au;have bz:=FJ aL a8 Je;refine⟨_,k5 (v:= .string ⟨((s.take cO.toNat).drop pM.toNat).toArray⟩) ?_,?_⟩
     ·have ae:=Np P w false s.length s.length (l.map a.eval) (h.map a.eval) pM cO
       aT bz bI ch dc (eR _)
      simp only[Instr.sliceAt,Instr.slice,ak.1,fF,gp,fK,run_underlying aQ,Option.map_none,j6,gP,if_false,CX,ae,Z3]
     ·simp only[ba];refine⟨trivial,?_⟩;have:=ak.2;simp only[rS,List.length_take];omega
    ·cases he
   ·cases he
  ·cases J
 ·rename_i sz x lo hi t o l h;simp only[cA]at aw;obtain⟨⟨⟨J,U⟩,ao⟩,a8⟩:=aw;split at J
  ·rename_i e aI;split at J
   ·rename_i g a7;simp only[dL]at J;subst J;obtain⟨d,aQ,eV⟩:=iJ aN aI;obtain rfl:=r1 eV;obtain⟨_,ef⟩:=ux aN a7 w;have ak:=eh aL U;simp only[gZ,Fo]at he;split at he
    ·rename_i dF tag xs ag;split at he
     ·rename_i e8;subst e8;rw[ag]at ak;simp only[ba]at ak;obtain⟨⟨rW,cap,aJ,cc,b4,fD⟩,_⟩:=ak;split at he
      ·rename_i pM cO au Je;cases he;obtain⟨bI,ch,dc⟩:=ax;have aT:=FJ aL ao au;have bz:=FJ aL a8 Je;have ae:=Np P w true xs.length cap (l.map a.eval) (h.map a.eval) pM cO
        aT bz bI ch dc cc
       refine⟨_,k5 (v:= .slice (if cap=pM.toNat then rW else rW.map (·.add (pM.toNat*g.size))) (cO.toNat-pM.toNat) (cap-pM.toNat)) ?_,?_⟩
       ·simp only[Instr.sliceAt,Instr.slice,aJ,fF,gp,fK,run_underlying aQ,Option.map_none,ae,ef]
       ·simp only[ba];have hlen:((xs.take cO.toNat).drop pM.toNat).length=cO.toNat-pM.toNat:=by simp;omega
        refine⟨⟨_,_,by rw[hlen],by rw[hlen];omega,⟨by omega,by rw[hlen];omega⟩,?_⟩,(fun h=>by cases h),(fun g h=>by cases h),(fun _ _ h=>by cases h),(fun _ h=>by cases h)⟩;rcases fD with rfl|⟨b,off,us,rfl,g1,g2⟩
        ·left;simp
        ·by_cases yS:cap=pM.toNat
         ·left;apply List.eq_nil_of_length_eq_zero;rw[hlen];omega
         ·right;rw[if_neg yS];refine⟨b,off+pM.toNat*g.size,(us.take (cO.toNat*g.size)).drop (pM.toNat*g.size),by simp[oI],Ff _ (Fh _ g1),Vu _ (Vx _ g2)⟩
      ·cases he
     ·cases he
    ·cases he
   ·cases J
  ·cases J
 ·rename_i op wr x y Um ty o o' akR;simp only[cA,fH]at aw;obtain⟨⟨rfl,J⟩,U⟩:=aw;obtain⟨r,g1,g2⟩:=XY P w ν (by simpa only[gZ]using he) ax ty (eh aL J) (eh aL U) o o';exact⟨r,k5 g1,g2⟩
 ·rename_i x op ty o;simp only[cA,fH]at aw;obtain⟨rfl,J⟩:=aw;have ak:=eh aL J;simp only[gZ]at he;unfold FD at he;split at he
  ·rename_i b ae;cases he;rw[ae]at ak;simp only[ba]at ak;exact⟨_,k5 (v:= .bool (!b)) (by simp[Op.unary,ak]),by simp[ba]⟩
  ·cases he
 ·rename_i x op ty o;simp only[cA,fH]at aw;obtain⟨rfl,J⟩:=aw;have ak:=eh aL J;simp only[gZ]at he;unfold Fz at he;split at he
  ·rename_i k n ae;cases he;rw[ae]at ak;simp only[ba]at ak;exact⟨_,k5 (v:= .int k (k.wrap (0-n))) (by simp[Op.unary,ak,Op.intArith]),by simp[ba]⟩
  ·cases he
 ·rename_i k x s d o;simp only[cA]at aw;obtain⟨J,U⟩:=aw;split at J
  ·rename_i aT bz Bt tx;simp only[fH]at J;subst J;obtain⟨d1,fk,adr⟩:=iJ aN Bt;obtain rfl:=D1 adr;obtain⟨d2,eI,ads⟩:=iJ aN tx;obtain rfl:=D1 ads;have ak:=eh aL U;simp only[gZ]at he;unfold DZ at he;split at he
   ·rename_i bM n ae;cases he;rw[ae]at ak;simp only[ba]at ak;exact⟨_,k5 (v:= .int k (k.wrap n)) (by simp[convert,ak,run_underlying fk,run_underlying eI,Conv.intToInt]),by simp[ba]⟩
   ·cases he
  ·cases J
 ·rename_i i x o j;simp only[cA,dL]at aw;obtain⟨rfl,J⟩:=aw;have ak:=eh aL J;simp only[gZ]at he;unfold yB at he;split at he
  ·rename_i bc ae;simp only[gF]at he;obtain⟨q,bo,he⟩:=he;cases he;rw[ae]at ak;simp only[ba]at ak;obtain⟨us,hu,U⟩:=ak;obtain⟨v,g1,g2⟩:=Gi i U bo;have kT:us[i]? =some v:=by simpa using g1
   exact⟨v,k5 (by simp[Instr.extract,hu,kT]),g2⟩
  ·cases he
 ·rename_i x o t;simp only[cA]at aw;obtain⟨J,U⟩:=aw;have ak:=eh aL U;simp only[gZ]at he;unfold zu at he;split at he
  ·rename_i sz tag xs ae;cases he;rw[ae]at ak;simp only[ba]at ak;obtain⟨⟨rW,cap,aJ,_⟩,_⟩:=ak;refine⟨.int .i64 xs.length,?_,by simp[ba]⟩;split at J
   ·rename_i aI;obtain⟨d,aQ,eV⟩:=iJ aN aI;obtain rfl:=r1 eV;simp[execOp,resolve,invoke,builtin,Builtin.len_,run_underlying aQ,aJ,goInt]
   ·cases J
  ·rename_i sz k n ae;cases he;rw[ae]at ak;simp only[ba]at ak;obtain⟨⟨rW,cap,aJ⟩,_⟩:=ak;refine⟨.int .i64 n,?_,by simp[ba]⟩;split at J
   ·rename_i aI;obtain⟨d,aQ,eV⟩:=iJ aN aI;obtain rfl:=r1 eV;simp[execOp,resolve,invoke,builtin,Builtin.len_,run_underlying aQ,aJ,goInt]
   ·cases J
  ·rename_i rW n cap ae;cases he;rw[ae]at ak;simp only[ba]at ak;refine⟨.int .i64 n,?_,by simp[ba]⟩;split at J
   ·rename_i aI;obtain⟨d,aQ,eV⟩:=iJ aN aI;obtain rfl:=r1 eV;simp[execOp,resolve,invoke,builtin,Builtin.len_,run_underlying aQ,ak,goInt]
   ·cases J
  ·cases he
 ·rename_i x o t;simp only[cA]at aw;obtain⟨J,U⟩:=aw;have ak:=eh aL U;simp only[gZ]at he;unfold CY at he;split at he
  ·rename_i s ae;cases he;rw[ae]at ak;simp only[ba]at ak;refine⟨.int .i64 s.length,?_,by simp[ba]⟩;split at J
   ·rename_i aI;obtain⟨d,aQ,eV⟩:=iJ aN aI;obtain rfl:=yz eV;simp[execOp,resolve,invoke,builtin,Builtin.len_,run_underlying aQ,ak.1,goInt,CX]
   ·cases J
  ·rename_i s ae;cases he;rw[ae]at ak;simp only[ba]at ak;refine⟨.int .i64 s.size,?_,by simp[ba]⟩;split at J
   ·rename_i aI;obtain⟨d,aQ,eV⟩:=iJ aN aI;obtain rfl:=yz eV;simp[execOp,resolve,invoke,builtin,Builtin.len_,run_underlying aQ,ak,goInt]
   ·cases J
  ·cases he
 ·rename_i zero parts t ct;split at aw
  ·rename_i dK z aI;simp only[cA]at aw;obtain⟨⟨J,U⟩,ao⟩:=aw;have bD:=ams J;obtain⟨i,d,amr,ak,aB,bj,de,gS,hG,qO,qP⟩:=(uz aN aI).ex;obtain⟨gs,rfl,ki⟩:=HY gS;simp only at bD qO qP;subst bD;have lf:(gs.toList.all fun f=>(dV bB f.type).isSome)=true:=by rw[←ki]at U;simpa[List.all_map,Function.comp_def]using U
   obtain⟨sG,cM,dn⟩:=Ux aN gs.toList lf;rw[ki]at dn;cases amr<;>simp only[yb]at qO;case agg us=>
    simp only[gZ]at he;cases ae:tf st.t zero parts with
    |none=>simp[ae]at he
    |some x=>obtain⟨cm,cs'⟩:=x;simp only[ae,nM]at he;cases he;obtain⟨cg,g1,g2⟩:=VK aL dn parts ct.toList zero us c cs' ao (MG w ν _ _ qO) ae ax;refine⟨.agg cg,k5 (run_build w t _ cg ?_),by simp only[ba];exact⟨cg,rfl,g2⟩⟩;simp only[Program.built,ak,aB,hG,cM,pc];simpa using g1
   all_goals cases qO
  ·cases aw
 ·rename_i x o;have ak:=eh aL aw;simp only[gZ]at he;unfold zE at he;split at he
  ·rename_i k off ae;cases he;rw[ae]at ak;have aB:=ak;simp only[ba]at ak;obtain⟨b,_,aJ⟩:=ak;exact⟨a.eval o,by simp[execOp,aJ],aB⟩
  ·rename_i q ae;cases he;rw[ae]at ak;have aB:=ak;simp only[ba]at ak;obtain⟨b,off,u,aJ,_⟩:=ak;exact⟨a.eval o,by simp[execOp,aJ],aB⟩
  ·rename_i f cs ae;cases he;rw[ae]at ak;have aB:=ak;simp only[ba]at ak;obtain⟨us,aJ,_⟩:=ak;exact⟨a.eval o,by simp[execOp,aJ],aB⟩
  ·cases he
 ·rename_i x y o o' t dJ;simp only[cA]at aw;have ak:=eh aL aw.1;have aB:=eh aL aw.2;simp only[gZ]at he;unfold Fy at he;split at he
  ·rename_i k m bM n hm aA;split at he
   ·rename_i ad;subst ad;cases he;rw[hm]at ak;rw[aA]at aB;simp only[ba]at ak aB;exact⟨.int k (if n<m then n else m),by simp[execOp,resolve,invoke,builtin,Builtin.min_,Builtin.min2,ak,aB],by simp[ba]⟩
   ·cases he
  ·cases he
 ·rename_i n xs m os;simp only[cA,dL]at aw;obtain⟨rfl,aw⟩:=aw;simp only[gZ]at he;cases he;have tt:=CP aL aw;refine⟨.func (.func n) #[] (os.map a.eval),by simp[execOp,Instr.makeFunc],?_⟩;simp only[ba];exact⟨os.map a.eval,rfl,by simpa using tt⟩
 ·rename_i b9 zero ok x k t o o' FE;simp only[cA,dL]at aw;obtain⟨⟨⟨rfl,J⟩,U⟩,ao⟩:=aw;have ak:=eh aL U;have aB:=eh aL ao;split at J
  ·rename_i sz kS mr oQ z aI;simp only[cA]at J;obtain⟨adP,I6⟩:=J;split at I6
   ·rename_i anI adv;have bD:=MI I6;obtain⟨cG,hu,eV⟩:=iJ aN aI;have sc:cG= .map mr oQ:=by cases cG<;>simp[jV]at eV;obtain⟨rfl,rfl⟩:=eV;rfl
    subst sc;obtain⟨b5,kN,z2,_⟩:=Me aN adv w;rw[←bD]at z2;have aa:=(MH w ν z2).1;have lO:=JZ aN adP;simp only[gZ]at he;unfold nA at he;split at he
    ·rename_i key ab;rw[ab]at ak;simp only[ba]at ak;obtain⟨bl,cc,b4⟩:=ak;split at he
     ·rename_i clock borns kvs hU;obtain⟨ic,us,el,g1,g2,g3,g4,g5⟩:=aL.good.box key _ hU;rw[cc]at g1;cases g1;simp only[jB]at g4;simp only[iY]at g5;have gT:(getObj bl).run P w= .ok (.map (fv borns us.toList).toArray clock) w:=uo g4;split at he
      ·cases he
      rename_i u6;have u1:=LH (P:=P) (w:=w) lO ((fv borns us.toList).toArray.isEmpty) aB (by simpa using u6);split at he
      ·rename_i v hm;cases he;obtain⟨j,u,f1,f2⟩:=Kr lO aB borns kvs us.toList 0 _ g5.1 g5.2.len hm;refine⟨if ok then .tuple #[u,.bool true]else u,?_,?_⟩
       ·simp only[execOp];refine k5 ?_;simp only[Instr.lookup,fF,run_underlying hu,fK,b4,gT,gp,u1,f1.run lO]
       ·cases ok
        ·simpa using f2
        ·simp only[if_true,ba];exact⟨_,rfl,by simp only[cN];exact⟨_,_,rfl,f2,_,_,rfl,by simp[ba],rfl⟩⟩
      ·rename_i hm;cases he;have f1:=Kr lO aB borns kvs us.toList 0 _ g5.1 g5.2.len hm;simp only at f1;refine⟨if ok then .tuple #[b5,.bool false]else b5,?_,?_⟩
       ·simp only[execOp];refine k5 ?_;simp only[Instr.lookup,fF,run_underlying hu,fK,b4,gT,gp,u1,f1.run lO,kN]
       ·cases ok
        ·simpa using aa
        ·simp only[if_true,ba];exact⟨_,rfl,by simp only[cN];exact⟨_,_,rfl,aa,_,_,rfl,by simp[ba],rfl⟩⟩
      ·cases he
     ·cases he
    ·cases he
   ·cases I6
  ·cases J
 ·rename_i x o;have ak:=eh aL aw;simp only[gZ]at he;unfold o3 at he;split at he
  ·rename_i fh ab;rw[ab]at ak;simp only[ba]at ak;obtain⟨bl,cc,b4⟩:=ak;split at he
   ·rename_i since seen last mk hU;obtain⟨ic,us,el,g1,g2,g3,g4,g5⟩:=aL.good.box fh _ hU;rw[cc]at g1;cases g1;simp only[jB]at g4;simp only[iY,cN,ba]at g5;obtain⟨u,cg,qt,⟨mb,m1,rfl⟩,rfl⟩:=g5;rw[qt]at g4;simp only at g4;split at he
    ·rename_i clock borns kvs adY;obtain⟨amS,rL,ans,aT,bz,b6,dO,cZ⟩:=aL.good.box mk _ adY;rw[m1]at aT;cases aT;simp only[jB]at dO;simp only[iY]at cZ;split at he
     ·rename_i n aA;simp only[gF]at he;obtain⟨q,bo,he⟩:=he;cases he;obtain⟨e,f1,f2⟩:=TC borns kvs rL.toList p cZ.1 bo;refine⟨.tuple #[e.key,e.val],?_,f2⟩;simp only[execOp];refine k5 ?_;have adD:(getObj bl).run P w= .ok (.mapIter (some mb) since seen.toArray last) w:=uo g4;have adE:(getObj mb).run P w= .ok (.map (fv borns rL.toList).toArray clock) w:=uo dO;have I0:seen.toArray.back? =some n:=by simpa using aA
      have yT:(clock !=last)=false:=by simp[ax]
      have adw:(fv borns rL.toList).toArray.find? (·.born==n)=some e:=by simpa using f1
      simp only[Instr.entry,b4,fF,adD,fK,I0,adE,yT,gP,if_false,adw,gp]
     ·cases he
    ·cases he
   ·cases he
  ·cases he
 ·rename_i x o t;simp only[cA]at aw;obtain⟨J,U⟩:=aw;have ak:=eh aL U;simp only[gZ]at he;unfold tW at he;split at he
  ·rename_i key ae;rw[ae]at ak;simp only[ba]at ak;obtain⟨bl,cc,b4⟩:=ak;split at he
   ·rename_i clock borns kvs hU;cases he;obtain⟨ic,us,el,g1,g2,g3,g4,g5⟩:=aL.good.box key _ hU;rw[cc]at g1;cases g1;simp only[jB]at g4;simp only[iY]at g5;have gT:(getObj bl).run P w= .ok (.map (fv borns us.toList).toArray clock) w:=uo g4;have hlen:(fv borns us.toList).length=borns.length:=P2 g5.2.len (VD g5.1);refine⟨.int .i64 borns.length,?_,by simp[ba]⟩;split at J
    ·rename_i aI;obtain⟨d,aQ,eV⟩:=iJ aN aI;obtain⟨mr,oQ,rfl⟩:∃mr oQ,d= .map mr oQ:=by cases d<;>simp[jV]at eV;exact⟨_,_,rfl⟩
     simp[execOp,resolve,invoke,builtin,Builtin.len_,run_underlying aQ,b4,goInt,gT,hlen]
    ·cases J
   ·cases he
  ·cases he
 ·rename_i neg dK x y op t o o' akR;simp only[cA,fH]at aw;obtain⟨⟨⟨rfl,bA⟩,J⟩,U⟩:=aw;have ak:=eh aL J;have aB:=eh aL U;simp only[gZ]at he;unfold ib at he;split at he
  ·rename_i bn bO bF ae;simp only at bA;cases he;rw[bF]at ak;rw[ae]at aB;simp only[ba]at ak aB;split at bA
   ·rename_i aI;obtain⟨d,aQ,eV⟩:=iJ aN aI;obtain rfl:d= .bool:=by cases d<;>simp[jV]at eV;rfl
    refine⟨.bool (if neg then bn !=bO else bn==bO),k5 ?_,by simp[ba]⟩;cases neg<;>simp[ak,aB,eqGuard,binOp,Zc aQ,bne]
   ·cases bA
  ·rename_i anR as eN bF ae;simp only at bA;simp only[gF]at he;obtain⟨q,bo,he⟩:=he;cases he;rw[bF]at ak;rw[ae]at aB;simp only[ba]at ak aB;obtain⟨X,YY,aiG⟩:=ak;obtain⟨Y,YZ,aiH⟩:=aB;obtain⟨gs,hu,a7,dd,iC⟩:=QD aN bA;obtain⟨i1,_,_⟩:=P6 hu a7 dd aiG aiH bo;refine⟨.bool (if neg then !q else q),k5 ?_,by simp[ba]⟩;rw[YY,YZ];cases neg
   ·simp only[gP,if_false,fF,run_eqGuard_agg w _ t o o' X Y iC,fK,run_eql_struct,i1]
   ·simp only[if_true,fF,run_eqGuard_agg w _ t o o' X Y iC,fK,run_neq_struct,i1]
  ·cases he
 ·rename_i x y o o' t dJ;simp only[cA]at aw;have ak:=eh aL aw.1;have aB:=eh aL aw.2;simp only[gZ]at he;unfold Ft at he;split at he
  ·rename_i k m bM n hm aA;split at he
   ·rename_i ad;subst ad;cases he;rw[hm]at ak;rw[aA]at aB;simp only[ba]at ak aB;exact⟨.int k (if m<n then n else m),by simp[execOp,resolve,invoke,builtin,Builtin.max_,Builtin.max2,ak,aB],by simp[ba]⟩
   ·cases he
  ·cases he
 ·rename_i t x dJ o;simp only[cA,dL]at aw;obtain⟨⟨rfl,J⟩,U⟩:=aw;have ak:=eh aL U;simp only[gZ]at he;cases he;split at J
  ·rename_i aI;obtain⟨d,aQ,eV⟩:=iJ aN aI;obtain rfl:=r1 eV;refine⟨.iface t (a.eval o),k5 (by simp[Instr.makeInterface,run_underlying aQ]),?_⟩;simp only[ba];exact⟨_,rfl,ak⟩
  ·cases J
 ·rename_i agg sz x t o;simp only[cA]at aw;obtain⟨J,U⟩:=aw;split at J
  ·rename_i f aI;simp only[cA,dL]at J;obtain⟨rfl,rfl⟩:=J;obtain⟨v,g1,g2⟩:=Fm aN aL.good aI (eh aL U) (afH (by simpa only[gZ]using he)) ax;exact⟨v,k5 g1,g2⟩
  ·cases J
 ·rename_i agg sz x t o;simp only[cA]at aw;obtain⟨J,U⟩:=aw;split at J
  ·rename_i f aI;simp only[cA,dL]at J;obtain⟨rfl,rfl⟩:=J;obtain⟨v,g1,g2⟩:=Fm aN aL.good aI (eh aL U) (ab9 (by simpa only[gZ]using he)) ax;exact⟨v,k5 g1,g2⟩
  ·cases J
 ·exact absurd rfl (adi _ _ _ _ _)
 ·cases aw
theorem akX{P:cC}{bB:List (Nat×dB)}(aN:fN P bB=true){C:fa}{st:bq}{a:Act}{w:World}{ν:bd}(aL:cP C st a w ν){i:fO}{o:Oper}(aw:Da bB i o.op=true)
  {c:Prop} {p:ah} (he:gZ st i=some (c,p)) (ax:c):∃v,(execOp a.eval o).run P w= .ok (.value v) w∧ba w ν p v:=by
 by_cases ae:∃b9 z ok x k,i= .mgetB b9 z ok x k
 ·obtain⟨b9,z,ok,x,k,rfl⟩:=ae;refine Wo aN aL (i:= .mget b9 z ok x k) (fun _ _ _ _ _ e=>by cases e) ?_ he ax;obtain⟨dst,op,type,pos,after,guard⟩:=o;cases op<;>first|exact aw|simp[Da]at aw
 ·exact Wo aN aL (fun b9 z ok x k e=>ae ⟨b9,z,ok,x,k,e⟩) aw he ax
theorem PD{w:World}{o:Obj}{b i:Nat}(h:b<w.heap.size):(w.alloc o).cell? ⟨b,i,none⟩=w.cell? ⟨b,i,none⟩:=World.cell?_of_block (Below.heap_alloc w o b h)
def bd.withBox(ν:bd)(k:aH)(bl:Nat):bd:={ν with bx:=fun j=>if j=k then some bl else ν.bx j}
def bd.withOwn(ν:bd)(k:aH)(n:Nat)(v:Value):bd:={ν with ow:=fun j=>if j=k then some (n,v)else ν.ow j}
theorem cP.lookNone{C:fa}{st:bq}{a:Act}{w:World}{ν:bd}(h:cP C st a w ν){k:aH}(ad:fresh st.n st.o k):look k st.b=none∧look k st.e=none:=by
 obtain⟨J,U,_⟩:=h.new k ad;constructor
 ·cases ae:look k st.b with
  |none=>rfl
  |some cs=>obtain⟨bl,us,el,g1,_⟩:=h.good.box _ _ ae;rw[J]at g1;cases g1
 ·cases ae:look k st.e with
  |none=>rfl
  |some o=>obtain⟨v,us,g1,_⟩:=h.good.own _ _ ae;rw[U]at g1;cases g1
theorem Good.ownLt{pr:Nat→Prop}{w:World}{ν:bd}{b:List (aH×List ah)}{e:List (aH×fM)}(h:Good pr w ν b e){g:aH}{o:fM}(a7:look g e=some o){n:Nat}{v:Value}(aJ:ν.ow g=some (n,v)){bl:Nat}(ae:v.ownBlock=some bl):bl<w.heap.size:=by obtain⟨v',us,g1,g2,_⟩:=h.own g o a7;rw[aJ]at g1;cases g1;exact(g2.lt bl ae).2
theorem Good.boxLt{pr:Nat→Prop}{w:World}{ν:bd}{b:List (aH×List ah)}{e:List (aH×fM)}(h:Good pr w ν b e){k:aH}{cs:List ah}(ad:look k b=some cs){bl:Nat}(ae:ν.bx k=some bl):bl<w.heap.size:=by obtain⟨ic,us,el,g1,_,_,g4,_⟩:=h.box k cs ad;rw[ae]at g1;cases g1;exact(Array.getElem?_eq_some_iff.1 g4).1
theorem cP.newBox{C:fa}{st:bq}{a:Act}{w:World}{ν:bd}(h:cP C st a w ν){fc:aH}(BB:ν.bx fc=none∧ν.ow fc=none∧∀j b,¬ν.tr fc j b){n':Nat}{o':List aH}(di:∀j,fresh n' o' j→fresh st.n st.o j∧j≠fc){cs:List ah}{us:Array Value}(el:fT)(ax:iY w ν cs us.toList):
  cP C {st with b:=cx fc cs st.b,n:=n',o:=o'} a (w.alloc (jB cs us el)) (ν.withBox fc w.heap.size)∧
  ba (w.alloc (jB cs us el)) (ν.withBox fc w.heap.size) (.ptr fc 0) (.pointer (some ⟨w.heap.size,0,none⟩)):=by
 obtain⟨ra,BE,ad4⟩:=BB;have aw:k9 w ν (w.alloc (jB cs us el)) (ν.withBox fc w.heap.size):=by
  refine⟨fun b o bg=>⟨bg,PD (h.good.alt b o bg)⟩,fun k b _ ad=>?_,fun g n u _ a7=>⟨n,u,a7,.inl ⟨rfl,rfl⟩⟩,fun b o bg=>vQ (Below.heap_alloc w _ b (h.good.alt b o bg)),fun _ _ _ _ h=>h⟩;have:k≠fc:=fun e=>by subst e;rw[ra]at ad;cases ad
  simp[bd.withBox,this,ad]
 have ef:(w.alloc (jB cs us el)).heap.size=w.heap.size+1:=by simp
 have lh:∀k,(look k (cx fc cs st.b)).isSome→k=fc∨(k≠fc∧(look k st.b).isSome∧(ν.withBox fc w.heap.size).bx k=ν.bx k):=by
  intro k ad;by_cases e:k=fc
  ·exact .inl e
  ·rw[iG,if_neg (kP e)]at ad;exact .inr ⟨e,ad,by simp[bd.withBox,e]⟩
 refine⟨h.over aw rfl ⟨fun bl o bg=>by rw[ef];have:=h.good.alt bl o bg;omega,fun k eH ad=>?_,fun k bM bl ad nv ak aB=>?_,fun g o a7=>?_,h.good.oinj,fun g k n v bl a7 ad aJ ae ab=>?_,fun k=>?_,fun bl ae k j aN=>?_⟩
  ⟨h.fr.os,h.fr.tape,h.fr.output,by rw[ef];have:=h.fr.size;omega,fun k ad hm=>?_,fun b o bg=>?_,h.fr.fresh,fun n b ae=>?_,h.fr.obn,h.fr.row,h.fr.obr,h.fr.trd,fun k j b ae=>⟨(h.fr.trb k j b ae).1,by rw[ef];have:=(h.fr.trb k j b ae).2;omega⟩,fun k j b ae=>?_,fun b o bg=>(aw.sh b o (h.fr.keep b o bg).1).trans (h.fr.sh b o bg)⟩ (fun m hm=>?_),?_⟩
 ·simp only at ad;rw[iG]at ad;by_cases e:fc=k
  ·rw[if_pos e]at ad;cases ad;subst e;refine⟨w.heap.size,us,el,by simp[bd.withBox],.inr h.fr.size,fun o bg=>?_,heap_alloc_new w _,pU aw ax⟩;have:=h.good.alt _ o bg;omega
  ·rw[if_neg e]at ad;obtain⟨bl,cg,fP,g1,g2,g3,g4,g5⟩:=h.good.box k eH ad;exact⟨bl,cg,fP,aw.bx _ _ trivial g1,g2,g3,by rw[Below.heap_alloc w _ bl (Array.getElem?_eq_some_iff.1 g4).1];exact g4,pU aw g5⟩
 ·rcases lh k ad with rfl|⟨hV,fZ,iW⟩<;>rcases lh bM nv with rfl|⟨m1,m2,m3⟩
  ·rfl
  ·exfalso;simp only[bd.withBox,if_true,dG]at ak;subst ak;rw[m3]at aB;obtain⟨eH,iB⟩:=fG.1 m2;have:=h.good.boxLt iB aB;omega
  ·exfalso;simp only[bd.withBox,if_true,dG]at aB;subst aB;rw[iW]at ak;obtain⟨eH,iB⟩:=fG.1 fZ;have:=h.good.boxLt iB ak;omega
  ·rw[iW]at ak;rw[m3]at aB;exact h.good.inj k bM bl fZ m2 ak aB
 ·obtain⟨v,xs,g1,g2,g3,g4⟩:=h.good.own g o a7;exact⟨v,xs,g1,g2.alloc _,g3,rF aw (fun _ _ _ h=>h) g4⟩
 ·rcases lh k ad with rfl|⟨hV,fZ,iW⟩
  ·simp only[bd.withBox,if_true,dG]at ab;subst ab;obtain⟨o,hI⟩:=fG.1 a7;have:=h.good.ownLt hI aJ ae;omega
  ·rw[iW]at ab;exact h.good.obx g k n v bl a7 fZ aJ ae ab
 ·by_cases e:k=fc
  ·subst e;exact .inr BE
  ·rcases h.good.one k with J|J
   ·exact .inl (by simp[bd.withBox,e,J])
   ·exact .inr J
 ·rcases ae with⟨bM,bE,a2⟩|ae
  ·rcases lh bM bE with rfl|⟨hV,fZ,iW⟩
   ·simp[bd.withBox]at a2;subst a2;exact absurd (h.fr.trb k j _ aN).2 (Nat.lt_irrefl _)
   ·exact h.good.otr bl (.inl ⟨bM,fZ,by rw[←iW];exact a2⟩) k j aN
  ·exact h.good.otr bl (.inr ae) k j aN
 ·rw[Below.heap_alloc w _ k (by have:=h.fr.size;omega)];exact h.fr.block k ad hm
 ·obtain⟨aT,bz⟩:=h.fr.keep b o bg;exact⟨aT,(PD (h.good.alt b o aT)).trans bz⟩
 ·exact aw.bx _ _ trivial (h.fr.obj n b ae)
 ·have cF:k≠fc:=fun e=>by subst e;exact ad4 j b ae
  obtain⟨t1,t2⟩:=h.fr.trn k j b ae;exact⟨by simp[bd.withBox,cF,t1],t2⟩
 ·obtain⟨f1,f2⟩:=di m hm;obtain⟨aT,bz⟩:=h.new m f1;refine⟨?_,bz⟩;simp[bd.withBox,f2,aT]
 ·simp[ba,bd.withBox]
theorem cP.setBox{C:fa}{st:bq}{a:Act}{w w':World}{ν:bd}(h:cP C st a w ν){k:aH}{cs cs':List ah}(ad:look k st.b=some cs){bl:Nat}(ae:ν.bx k=some bl){us:Array Value}{el:fT}
  (y8:w'.os=w.os) (JC:w'.tape=w.tape) (Jp:w'.output=w.output) (mS:∀j,j≠bl→w'.heap[j]? =w.heap[j]?) (ef:w'.heap.size=w.heap.size) (kj:w'.heap[bl]? =some (jB cs' us el)) (ax:iY w ν cs' us.toList):
  cP C {st with b:=cx k cs' st.b} a w' ν∧k9 w ν w' ν:=by
 obtain⟨ic,fq,anr,g1,g2,g3,g4,g5⟩:=h.good.box k cs ad;rw[ae]at g1;cases g1;have aw:k9 w ν w' ν:=by
  refine⟨fun b o bg=>⟨bg,World.cell?_of_block (mS b fun e=>?_)⟩,fun _ _ _ h=>h,fun g n u _ a7=>⟨n,u,a7,.inl ⟨rfl,rfl⟩⟩,fun b o bg=>vQ (mS b fun e=>?_),fun _ _ _ _ h=>h⟩<;>
  (subst e;exact g3 o bg)
 have EA:∀j,(look j (cx k cs' st.b)).isSome→(look j st.b).isSome:=by
  intro j af;rw[iG]at af;by_cases e:k=j
  ·subst e;simp[ad]
  ·rwa[if_neg e]at af
 refine⟨h.over aw rfl ⟨fun b o bg=>by rw[ef];exact h.good.alt b o bg,fun j eH af=>?_,fun j dA b af jf=>h.good.inj j dA b (EA j af) (EA dA jf),fun g o a7=>?_,h.good.oinj,fun g j n v b a7 af=>h.good.obx g j n v b a7 (EA j af),h.good.one,fun bl ae=>h.good.otr bl (ae.imp (fun⟨k,J,U⟩=>⟨k,EA k J,U⟩) id)⟩
  ⟨y8.trans h.fr.os,JC.trans h.fr.tape,Jp.trans h.fr.output,by rw[ef];exact h.fr.size,fun j af hm=>?_,fun b o bg=>?_,h.fr.fresh,h.fr.obj,h.fr.obn,h.fr.row,h.fr.obr,h.fr.trd,fun k j b ae=>⟨(h.fr.trb k j b ae).1,by rw[ef];exact(h.fr.trb k j b ae).2⟩,h.fr.trn,fun b o bg=>(aw.sh b o (h.fr.keep b o bg).1).trans (h.fr.sh b o bg)⟩ h.new,aw⟩
 ·simp only at af;rw[iG]at af;by_cases e:k=j
  ·rw[if_pos e]at af;cases af;subst e;exact⟨bl,us,el,ae,g2,g3,kj,pU aw ax⟩
  ·rw[if_neg e]at af;obtain⟨b,cg,fP,ak,aB,bj,de,gS⟩:=h.good.box j eH af;refine⟨b,cg,fP,ak,aB,bj,?_,pU aw gS⟩;rw[mS b fun fJ=>e (h.good.inj k j bl (by simp[ad]) (by simp[af]) ae (by rw[←fJ];exact ak))];exact de
 ·obtain⟨v,xs,ak,aB,bj,de⟩:=h.good.own g o a7;refine⟨v,xs,ak,⟨aB.1,?_⟩,bj,rF aw (fun _ _ _ h=>h) de⟩;rcases aB.2 with aB|⟨bb,cap,cur,f1,f2,f3,f4⟩
  ·exact .inl aB
  ·refine .inr ⟨bb,cap,cur,f1,f2,?_,f4⟩;rw[mS bb fun fJ=>h.good.obx g k o.n v bl (by simp[a7]) (by simp[ad]) ak (by rw[f1,←fJ];rfl) ae];exact f3
 ·rw[mS j fun e=>by subst e;exact g2.elim hm (fun g2=>by omega)];exact h.fr.block j af hm
 ·obtain⟨aT,bz⟩:=h.fr.keep b o bg;exact⟨aT,(aw.A b o aT).2.trans bz⟩
theorem cP.storeBox{C:fa}{st:bq}{a:Act}{w:World}{ν:bd}(h:cP C st a w ν){k:aH}{cs cs':List ah}(ad:look k st.b=some cs){bl:Nat}(ae:ν.bx k=some bl)(bJ:hM cs=true){us:Array Value}(ax:c5 w ν cs' us.toList):
  cP C {st with b:=cx k cs' st.b} a (w.setRow bl us) ν:=by
 obtain⟨ic,fq,el,g1,g2,g3,g4,g5⟩:=h.good.box k cs ad;rw[ae]at g1;cases g1;rw[ua bJ]at g4;have RY:=Ab ax;exact(h.setBox (w':=w.setRow bl us) ad ae (us:=us) (el:=el) rfl rfl rfl (fun j af=>setRow_other w bl j us af) (setRow_size w bl us) (by rw[ua RY];exact setRow_heap w bl fq us el _ g4) (by rw[ub RY];exact ax)).1
def bd.withRowOf(ν:bd)(k:aH)(v:Value)(n cells:Nat):bd:={A:=fun b o=>ν.A b o∨(v.ownBlock=some b∧o<cells),bx:=ν.bx,ow:=fun j=>if j=k then some (n,v)else ν.ow j,tr:=ν.tr}
theorem J6{w:World}{A:Nat→Nat→Prop}{b:Nat}:∀(us:List Value) (off:Nat),(∀j u,us[j]? =some u→A b (off+j)∧w.cell? ⟨b,off+j,none⟩=some u)→lv w A b off us
 |[],_,_=>trivial
 |u::us,off,h=>⟨h 0 u rfl,J6 us (off+1) fun j x af=>by have:=h (j+1) x (by simpa using af);rwa[show off+(j+1)=off+1+j from by omega]at this⟩
theorem DX{w w':World}(a7:w.grownBy w' none){b i:Nat}(h:b<w.heap.size):w'.cell? ⟨b,i,none⟩=w.cell? ⟨b,i,none⟩:=World.cell?_of_block (a7.block b h (by simp))
theorem cP.newRowM{C:fa}{st:bq}{a:Act}{w w':World}{ν:bd}(h:cP C st a w ν){k:aH}{xs:List ah}(ad:(ν.bx k=none∧ν.ow k=none∧∀j b,¬ν.tr k j b)∨ ∃o,look k st.e=some o∧o.n<xs.length){el sz:Nat}{v:Value}{us:List Value}
  (a7:w.grownBy w' none) (lp:w'.ownsRow w.heap.size el sz v xs.length us) (ax:dy w ν sz xs us) (eO:xs.length≤lim) {n':Nat} {o':List aH} (di:∀j,fresh n' o' j→fresh st.n st.o j∧j≠k):
  cP C {st with e:=cx k ⟨xs.length,el,sz,some xs⟩ st.e,n:=n',o:=o'} a w' (ν.withOwn k xs.length v)∧
  ((∃b cap,v= .slice (some ⟨b,0,none⟩) xs.length cap)→ba w' (ν.withOwn k xs.length v) (.row sz k xs.length) v):=by
 have qk:∀bl,v.ownBlock=some bl→w.heap.size≤bl∧bl<w'.heap.size:=fun bl ae=>lp.lt bl ae;have aw:k9 w ν w' (ν.withOwn k xs.length v):=by
  refine⟨fun b o bg=>⟨bg,DX a7 (h.good.alt b o bg)⟩,fun j b _ af=>af,fun g n u _ iC=>?_,fun b o bg=>vQ (a7.block b (h.good.alt b o bg) (by simp)),fun _ _ _ _ h=>h⟩;by_cases e:g=k
  ·subst e;rcases ad with ad|⟨o,aw,bC⟩
   ·rw[ad.2.1]at iC;cases iC
   ·obtain⟨v0,fq,ak,_⟩:=h.good.own g o aw;rw[ak]at iC;cases iC;exact⟨xs.length,v,by simp[bd.withOwn],.inr bC⟩
  ·exact⟨n,u,by simp[bd.withOwn,e,iC],.inl ⟨rfl,rfl⟩⟩
 have kF:∀g,(look g (cx k ⟨xs.length,el,sz,some xs⟩ st.e)).isSome→g=k∨(g≠k∧(look g st.e).isSome∧(ν.withOwn k xs.length v).ow g=ν.ow g):=by
  intro g ki;by_cases e:g=k
  ·exact .inl e
  ·rw[iG,if_neg (kP e)]at ki;exact .inr ⟨e,ki,by simp[bd.withOwn,e]⟩
 have RU:∀bl,v.ownBlock=some bl→∀j,¬ν.A bl j:=fun bl ae j bg=>by have J:=h.good.alt bl j bg;have:=(qk bl ae).1;omega
 have aeb:∀j b,¬ν.tr k j b:=fun j b ae=>by
  rcases ad with ad|⟨o,hI,_⟩
  ·exact ad.2.2 j b ae
  ·obtain⟨v0,fq,ak,_⟩:=h.good.own k o hI;rw[(h.fr.trn k j b ae).2]at ak;cases ak
 refine⟨h.over aw rfl ⟨fun bl o bg=>?_,fun j eH af=>?_,h.good.inj,fun g o eT=>?_,fun g fb n n' u e4 bl J U ao a8 bZ c4=>?_,fun g j n u bl J U ao a8 bZ=>?_,fun j=>?_,fun bl ae bM j aN=>?_⟩
  ⟨a7.os.trans h.fr.os,a7.tape.trans h.fr.tape,a7.output.trans h.fr.output,j4 h.fr.size a7.size,fun j af hm=>?_,fun b o bg=>?_,h.fr.fresh,h.fr.obj,h.fr.obn,fun m n u hm=>CS (h.fr.row m n u hm) (fun n u=>aw.ow _ n u trivial),h.fr.obr,h.fr.trd,fun k j b ae=>⟨(h.fr.trb k j b ae).1,Nat.lt_of_lt_of_le (h.fr.trb k j b ae).2 a7.size⟩,fun bM j b ae=>?_,fun b o bg=>(aw.sh b o (h.fr.keep b o bg).1).trans (h.fr.sh b o bg)⟩ (fun m hm=>?_),?_⟩
 ·have:=h.good.alt bl o bg;have:=a7.size;omega
 ·obtain⟨bl,cg,fP,g1,g2,g3,g4,g5⟩:=h.good.box j eH af;have bC:=(Array.getElem?_eq_some_iff.1 g4).1;exact⟨bl,cg,fP,g1,g2,g3,by rw[a7.block bl bC (by simp)];exact g4,pU aw g5⟩
 ·simp only at eT;rw[iG]at eT;by_cases e:k=g
  ·rw[if_pos e]at eT;cases eT;subst e;refine⟨v,us,by simp[bd.withOwn],⟨lp.1,?_⟩,fun bl ae=>⟨.inr (j4 h.fr.size (qk bl ae).1),fun j bg=>absurd bg (RU bl ae j)⟩,fun ys aG=>?_⟩
   ·rcases lp.2 with ak|⟨bb,cap,cur,f1,f2,f3⟩
    ·exact .inl ak
    ·exact .inr ⟨bb,cap,cur,f1,by omega,f3⟩
   ·simp only[dG]at aG;subst aG;exact⟨rfl,z7 aw ax,RU⟩
  ·rw[if_neg e]at eT;obtain⟨v0,fq,ak,aB,bj,de⟩:=h.good.own g o eT;exact⟨v0,fq,by simp[bd.withOwn,kP e,ak],aB.kept a7 (by cases v0.ownBlock<;>simp),bj,rF aw (fun _ _ _ h=>h) de⟩
 ·rcases kF g J with rfl|⟨hV,fZ,iW⟩<;>rcases kF fb U with rfl|⟨m1,m2,m3⟩
  ·rfl
  ·exfalso;simp only[bd.withOwn,if_true,dG,jj]at ao;rw[m3]at a8;obtain⟨o,hI⟩:=fG.1 m2;have au:=h.good.ownLt hI a8 c4;have:=(qk bl (by rw[ao.2];exact bZ)).1;omega
  ·exfalso;simp only[bd.withOwn,if_true,dG,jj]at a8;rw[iW]at ao;obtain⟨o,hI⟩:=fG.1 fZ;have au:=h.good.ownLt hI ao bZ;have:=(qk bl (by rw[a8.2];exact c4)).1;omega
  ·rw[iW]at ao;rw[m3]at a8;exact h.good.oinj g fb n n' u e4 bl fZ m2 ao a8 bZ c4
 ·rcases kF g J with rfl|⟨hV,fZ,iW⟩
  ·simp only[bd.withOwn,if_true,dG,jj]at ao;obtain⟨eH,iB⟩:=fG.1 U;have au:=h.good.boxLt iB bZ;have:=(qk bl (by rw[ao.2];exact a8)).1;omega
  ·rw[iW]at ao;exact h.good.obx g j n u bl fZ U ao a8 bZ
 ·by_cases e:j=k
  ·subst e;rcases ad with ad|⟨o,hI,_⟩
   ·exact .inl ad.1
   ·obtain⟨v0,fq,ak,_⟩:=h.good.own j o hI;rcases h.good.one j with J|J
    ·exact .inl J
    ·rw[J]at ak;cases ak
  ·rcases h.good.one j with J|J
   ·exact .inl J
   ·exact .inr (by simp[bd.withOwn,e,J])
 ·rcases ae with ae|⟨g,n,u,bE,a2,a3⟩
  ·exact h.good.otr bl (.inl ae) bM j aN
  ·rcases kF g bE with rfl|⟨hV,fZ,iW⟩
   ·simp only[bd.withOwn,if_true,dG,jj]at a2;have J:=(qk bl (by rw[a2.2];exact a3)).1;have U:=(h.fr.trb bM j _ aN).2;omega
   ·exact h.good.otr bl (.inr ⟨g,n,u,fZ,by rw[←iW];exact a2,a3⟩) bM j aN
 ·rw[a7.block j (by have:=h.fr.size;omega) (by simp)];exact h.fr.block j af hm
 ·obtain⟨aT,bz⟩:=h.fr.keep b o bg;exact⟨aT,(aw.A b o aT).2.trans bz⟩
 ·have cF:bM≠k:=fun e=>by subst e;exact aeb j b ae
  obtain⟨t1,t2⟩:=h.fr.trn bM j b ae;exact⟨t1,by simp[bd.withOwn,cF,t2]⟩
 ·obtain⟨f1,f2⟩:=di m hm;obtain⟨aT,bz,b6⟩:=h.new m f1;refine⟨aT,?_,b6⟩;simp[bd.withOwn,f2,bz]
 ·intro Ja;simp only[ba];exact⟨Ja,eO,xs.length,v,by simp[bd.withOwn],eR _,fun _=>rfl⟩
theorem cP.publish{C:fa}{st:bq}{a:Act}{w:World}{ν:bd}(h:cP C st a w ν){k:aH}{o:fM}{xs:List ah}(ad:look k st.e=some o)(ab:o.xs=some xs){v:Value}(aJ:ν.ow k=some (o.n,v))(eO:xs.length≤lim):
  cP C {st with e:=cx k ⟨o.n,o.el,o.sz,none⟩ st.e} a w (ν.withRowOf k v o.n (o.n*o.sz))∧
  ba w (ν.withRowOf k v o.n (o.n*o.sz)) (.slice o.sz (.own k) xs) v:=by
 obtain⟨v0,us,a6,bu,bV,cW⟩:=h.good.own k o ad;rw[aJ]at a6;cases a6;obtain⟨da,nB,uc⟩:=cW xs ab;have n5:∀g,(ν.withRowOf k v o.n (o.n*o.sz)).ow g=ν.ow g:=fun g=>by
  simp only[bd.withRowOf];split
  ·rename_i e;subst e;exact aJ.symm
  ·rfl
 have aw:k9 w ν w (ν.withRowOf k v o.n (o.n*o.sz)):=⟨fun b o bg=>⟨.inl bg,rfl⟩,fun j b _ af=>af,fun g n u _ iC=>⟨n,u,by rw[n5];exact iC,.inl ⟨rfl,rfl⟩⟩,fun _ _ _=>rfl,fun _ _ _ _ h=>h⟩
 have kF:∀g,(look g (cx k ⟨o.n,o.el,o.sz,none⟩ st.e)).isSome→(look g st.e).isSome:=by
  intro g ki;by_cases e:k=g
  ·subst e;simp[ad]
  ·rwa[iG,if_neg e]at ki
 refine⟨h.over aw rfl ⟨fun bl i bg=>?_,fun j eH af=>?_,h.good.inj,fun g o' eT=>?_,fun g fb n n' u e4 bl J U ao a8=>h.good.oinj g fb n n' u e4 bl (kF g J) (kF fb U) (by rwa[n5]at ao) (by rwa[n5]at a8),fun g j n u bl J U ao=>h.good.obx g j n u bl (kF g J) U (by rwa[n5]at ao),fun j=>?_,fun bl ae=>h.good.otr bl (ae.imp id (fun⟨g,n,v,bE,a2,a3⟩=>⟨g,n,v,kF g bE,by rwa[n5]at a2,a3⟩))⟩
  ⟨h.fr.os,h.fr.tape,h.fr.output,h.fr.size,h.fr.block,fun b i bg=>⟨.inl (h.fr.keep b i bg).1,(h.fr.keep b i bg).2⟩,fun b i bg=>?_,h.fr.obj,h.fr.obn,fun m n u hm=>CS (h.fr.row m n u hm) (fun n u=>aw.ow _ n u trivial),h.fr.obr,h.fr.trd,h.fr.trb,fun bM j b ae=>⟨(h.fr.trn bM j b ae).1,by rw[n5];exact(h.fr.trn bM j b ae).2⟩,h.fr.sh⟩ (fun m hm=>?_),?_⟩
 ·rcases bg with bg|⟨bg,_⟩
  ·exact h.good.alt bl i bg
  ·exact(bu.lt bl bg).2
 ·obtain⟨bl,cg,fP,g1,g2,g3,g4,g5⟩:=h.good.box j eH af;refine⟨bl,cg,fP,g1,g2,fun i bg=>?_,g4,pU aw g5⟩;rcases bg with bg|⟨bg,_⟩
  ·exact g3 i bg
  ·exact h.good.obx k j o.n v bl (by simp[ad]) (by simp[af]) aJ bg g1
 ·simp only at eT;rw[iG]at eT;by_cases e:k=g
  ·rw[if_pos e]at eT;cases eT;subst e;refine⟨v,us,by rw[n5];exact aJ,bu,fun bl ae=>⟨(bV bl ae).1,fun j bg=>?_⟩,fun ys aG=>by cases aG⟩;rcases bg with bg|⟨_,bg⟩
   ·exact(bV bl ae).2 j bg
   ·exact bg
  ·rw[if_neg e]at eT;obtain⟨v0,fq,ak,aB,bj,de⟩:=h.good.own g o' eT;have uY:∀bl,v0.ownBlock=some bl→∀j,(ν.withRowOf k v o.n (o.n*o.sz)).A bl j→ν.A bl j:=fun bl ae j bg=>by
    rcases bg with bg|⟨bg,_⟩
    ·exact bg
    ·exact absurd (h.good.oinj k g o.n o'.n v v0 bl (by simp[ad]) (by simp[eT]) aJ ak bg ae) e
   exact⟨v0,fq,by rw[n5];exact ak,aB,fun bl ae=>⟨(bj bl ae).1,fun j bg=>(bj bl ae).2 j (uY bl ae j bg)⟩,rF aw uY de⟩
 ·rcases h.good.one j with J|J
  ·exact .inl J
  ·exact .inr (by rw[n5];exact J)
 ·rcases bg with bg|⟨bg,_⟩
  ·exact h.fr.fresh b i bg
  ·exact .inr (bV b bg).1
 ·obtain⟨aT,bz,b6⟩:=h.new m hm;exact⟨aT,by rw[n5];exact bz,b6⟩
 ·simp only[ba];refine⟨?_,fun e=>(by cases e),fun g e=>?_,fun _ _ e=>(by cases e),fun _ e=>(by cases e)⟩
  ·rcases bu.2 with⟨ak,aB⟩|⟨bb,cap,cur,f1,f2,f3,f4,f5,f6,f7⟩
   ·refine⟨none,0,by rw[ak,da,aB],by omega,⟨by simp[maxLen],eO⟩,.inl (List.eq_nil_of_length_eq_zero (by omega))⟩
   ·refine⟨some ⟨bb,0,none⟩,cap,by rw[f1,da],by omega,⟨f5,eO⟩,.inr ⟨bb,0,us,rfl,J6 us 0 fun j u af=>?_,z7 aw nB⟩⟩;have n9:v.ownBlock=some bb:=by rw[f1];rfl
    have y1:j<us.length:=(fL.1 af).1;refine⟨.inr ⟨n9,by rw[bu.1]at y1;omega⟩,?_⟩;have:=bu.cells n9 j u af;rwa[oI]at this
  ·cases e;exact⟨o.n,v,by rw[n5];exact aJ,by omega,fun _=>rfl⟩
theorem Wm{α:Type}(k:aH)(p q:α):∀l,cx k q (cx k p l)=cx k q l
 |[]=>by simp[cx]
 |(i,r)::l=>by
  by_cases e:i=k
  ·simp[cx,e]
  ·simp[cx,e,Wm k p q l]
theorem cP.newRow{C:fa}{st:bq}{a:Act}{w w':World}{ν:bd}(h:cP C st a w ν){k:aH}{xs:List ah}(ad:(ν.bx k=none∧ν.ow k=none∧∀j b,¬ν.tr k j b)∨ ∃o,look k st.e=some o∧o.n<xs.length){el sz:Nat}{v:Value}{us:List Value}
  (a7:w.grownBy w' none) (lp:w'.ownsRow w.heap.size el sz v xs.length us) (ax:dy w ν sz xs us) (eO:xs.length≤lim) {n':Nat} {o':List aH} (di:∀j,fresh n' o' j→fresh st.n st.o j∧j≠k):
  cP C {st with e:=cx k ⟨xs.length,el,sz,none⟩ st.e,n:=n',o:=o'} a w' ((ν.withOwn k xs.length v).withRowOf k v xs.length (xs.length*sz))∧
  ba w' ((ν.withOwn k xs.length v).withRowOf k v xs.length (xs.length*sz)) (.slice sz (.own k) xs) v:=by
 have J:=(h.newRowM ad a7 lp ax eO di).1;have U:=J.publish (k:=k) (o:=⟨xs.length,el,sz,some xs⟩) (xs:=xs) (v:=v) (by simp[iG]) rfl (by simp[bd.withOwn]) eO;simpa only[Wm]using U
theorem cP.setRowM{C:fa}{st:bq}{a:Act}{w w':World}{ν:bd}(h:cP C st a w ν){k:aH}{o:fM}{xs xs':List ah}(ad:look k st.e=some o)(ab:o.xs=some xs){bl:Nat}{v v':Value}(aJ:ν.ow k=some (o.n,v))(n9:v.ownBlock=some bl)(ES:v'.ownBlock=some bl)
  (aA:(xs'.length=o.n∧v'=v)∨o.n<xs'.length) {us:List Value} (y8:w'.os=w.os) (JC:w'.tape=w.tape) (Jp:w'.output=w.output) (mS:∀j,j≠bl→w'.heap[j]? =w.heap[j]?) (ef:w'.heap.size=w.heap.size)
  (lp:w'.ownsRow 0 o.el o.sz v' xs'.length us) (ax:dy w ν o.sz xs' us):
  cP C {st with e:=cx k ⟨xs'.length,o.el,o.sz,some xs'⟩ st.e} a w' (ν.withOwn k xs'.length v')∧k9 w ν w' (ν.withOwn k xs'.length v')∧(xs'.length≤lim→ba w' (ν.withOwn k xs'.length v') (.row o.sz k xs'.length) v'):=by
 obtain⟨v0,fq,a6,bu,bV,cW⟩:=h.good.own k o ad;rw[aJ]at a6;cases a6;obtain⟨da,nB,uc⟩:=cW xs ab;have aw:k9 w ν w' (ν.withOwn k xs'.length v'):=by
  refine⟨fun b i bg=>⟨bg,World.cell?_of_block (mS b fun e=>by subst e;exact uc b n9 i bg)⟩,fun j b _ af=>af,fun g n u _ iC=>?_,fun b i bg=>vQ (mS b fun e=>by subst e;exact uc b n9 i bg),fun _ _ _ _ h=>h⟩;by_cases e:g=k
  ·subst e;rw[aJ]at iC;cases iC;refine⟨xs'.length,v',by simp[bd.withOwn],?_⟩;rcases aA with⟨J,U⟩|J
   ·exact .inl ⟨J,U⟩
   ·exact .inr J
  ·exact⟨n,u,by simp[bd.withOwn,e,iC],.inl ⟨rfl,rfl⟩⟩
 have kF:∀g n u,(look g (cx k ⟨xs'.length,o.el,o.sz,some xs'⟩ st.e)).isSome→(ν.withOwn k xs'.length v').ow g=some (n,u)→∀b,u.ownBlock=some b→(look g st.e).isSome∧∃n u,ν.ow g=some (n,u)∧u.ownBlock=some b:=by
  intro g n u ki iC b ae;by_cases e:g=k
  ·subst e;simp only[bd.withOwn,if_true,dG,jj]at iC;rw[←iC.2,ES]at ae;cases ae;exact⟨by simp[ad],o.n,v,aJ,n9⟩
  ·rw[iG,if_neg (kP e)]at ki;simp only[bd.withOwn,e,if_false]at iC;exact⟨ki,n,u,iC,ae⟩
 refine⟨h.over aw rfl ⟨fun b i bg=>by rw[ef];exact h.good.alt b i bg,fun j eH af=>?_,h.good.inj,fun g o' eT=>?_,fun g fb n n' u e4 b J U ao a8 bZ c4=>?_,fun g j n u b J U ao a8 bZ=>?_,fun j=>?_,fun b ae=>h.good.otr b (ae.imp id (fun⟨g,n,v,bE,a2,a3⟩=>by obtain⟨cc,hV,h7,b4,fD⟩:=kF g n v bE a2 b a3;exact⟨g,hV,h7,cc,b4,fD⟩))⟩
  ⟨y8.trans h.fr.os,JC.trans h.fr.tape,Jp.trans h.fr.output,by rw[ef];exact h.fr.size,fun j af hm=>?_,fun b i bg=>?_,h.fr.fresh,h.fr.obj,h.fr.obn,fun m n u hm=>CS (h.fr.row m n u hm) (fun n u=>aw.ow _ n u trivial),h.fr.obr,h.fr.trd,fun k j b ae=>⟨(h.fr.trb k j b ae).1,by rw[ef];exact(h.fr.trb k j b ae).2⟩,fun bM j b ae=>?_,fun b o bg=>(aw.sh b o (h.fr.keep b o bg).1).trans (h.fr.sh b o bg)⟩ (fun m hm=>?_),aw,?_⟩
 ·obtain⟨b,cg,fP,g1,g2,g3,g4,g5⟩:=h.good.box j eH af;have cF:b≠bl:=fun e=>h.good.obx k j o.n _ bl (by simp[ad]) (by simp[af]) aJ n9 (by rw[←e];exact g1);exact⟨b,cg,fP,g1,g2,g3,by rw[mS b cF];exact g4,pU aw g5⟩
 ·simp only at eT;rw[iG]at eT;by_cases e:k=g
  ·rw[if_pos e]at eT;cases eT;subst e;refine⟨v',us,by simp[bd.withOwn],lp,fun b ae=>?_,fun ys aG=>?_⟩
   ·rw[ES]at ae;cases ae;exact⟨(bV bl n9).1,fun j bg=>absurd bg (uc bl n9 j)⟩
   ·simp only[dG]at aG;subst aG;exact⟨rfl,z7 aw ax,fun b ae=>by rw[ES]at ae;cases ae;exact uc bl n9⟩
  ·rw[if_neg e]at eT;obtain⟨v0,fq,ak,aB,bj,de⟩:=h.good.own g o' eT;have cF:∀b,v0.ownBlock=some b→b≠bl:=fun b ae H6=>e (h.good.oinj k g o.n o'.n _ v0 bl (by simp[ad]) (by simp[eT]) aJ ak n9 (by rw[←H6];exact ae));refine⟨v0,fq,by simp[bd.withOwn,kP e,ak],⟨aB.1,?_⟩,bj,rF aw (fun _ _ _ h=>h) de⟩;rcases aB.2 with aB|⟨bb,DW,l7,f1,f2,f3,f4⟩
   ·exact .inl aB
   ·exact .inr ⟨bb,DW,l7,f1,f2,by rw[mS bb (cF bb (by rw[f1];rfl))];exact f3,f4⟩
 ·obtain⟨bE,hV,h7,a2,a3⟩:=kF g n u J ao b bZ;obtain⟨cc,fZ,iK,b4,fD⟩:=kF fb n' e4 U a8 b c4;exact h.good.oinj g fb hV fZ h7 iK b bE cc a2 b4 a3 fD
 ·obtain⟨bE,hV,h7,a2,a3⟩:=kF g n u J ao b a8;exact h.good.obx g j hV h7 b bE U a2 a3 bZ
 ·by_cases e:j=k
  ·subst e;rcases h.good.one j with J|J
   ·exact .inl J
   ·rw[J]at aJ;cases aJ
  ·rcases h.good.one j with J|J
   ·exact .inl J
   ·exact .inr (by simp[bd.withOwn,e,J])
 ·rw[mS j fun e=>by subst e;exact(bV j n9).1.elim hm (fun g2=>by omega)];exact h.fr.block j af hm
 ·obtain⟨aT,bz⟩:=h.fr.keep b i bg;exact⟨aT,(aw.A b i aT).2.trans bz⟩
 ·obtain⟨t1,t2⟩:=h.fr.trn bM j b ae;have cF:bM≠k:=fun e=>by subst e;rw[t2]at aJ;cases aJ
  exact⟨t1,by simp[bd.withOwn,cF,t2]⟩
 ·obtain⟨aT,bz,b6⟩:=h.new m hm;refine⟨aT,?_,b6⟩;have:m≠k:=fun e=>by subst e;rw[bz]at aJ;cases aJ
  simp[bd.withOwn,this,bz]
 ·intro eO;simp only[ba];obtain⟨cap,Ja⟩:=Ur lp ES;exact⟨⟨bl,cap,Ja⟩,eO,xs'.length,v',by simp[bd.withOwn],eR _,fun _=>rfl⟩
theorem cP.inPlace{C:fa}{st:bq}{a:Act}{w:World}{ν:bd}(h:cP C st a w ν){k:aH}{o:fM}(ad:look k st.e=some o){bl cap:Nat}{cur:Array Value}(aJ:ν.ow k=some (o.n,.slice (some ⟨bl,0,none⟩) o.n cap))
  (wV:w.heap[bl]? =some (.cells cur o.el (0,0))) (yS:cap≤maxLen) (ef:cur.size=cap*o.sz) {xs ys:List ah} {us ns:List Value} (jY:xs.length=o.n) (qt:cur.toList.take (o.n*o.sz)=us) (ax:dy w ν o.sz xs us) (yU:dy w ν o.sz ys ns)
  (fm:0<ys.length) (re:o.n+ys.length≤cap) (eO:xs.length+ys.length≤lim):
  cP C {st with e:=cx k ⟨o.n+ys.length,o.el,o.sz,none⟩ st.e} a (w.setRow bl (us++ns++cur.toList.drop (o.n*o.sz+ns.length)).toArray)
   (ν.withRowOf k (.slice (some ⟨bl,0,none⟩) (o.n+ys.length) cap) (o.n+ys.length) ((o.n+ys.length)*o.sz))∧
  ba (w.setRow bl (us++ns++cur.toList.drop (o.n*o.sz+ns.length)).toArray) (ν.withRowOf k (.slice (some ⟨bl,0,none⟩) (o.n+ys.length) cap) (o.n+ys.length) ((o.n+ys.length)*o.sz))
   (.slice o.sz (.own k) (xs++ys)) (.slice (some ⟨bl,0,none⟩) (o.n+ys.length) cap):=by
 have ju:=sJ yU;have rh:=sJ ax;rw[jY]at rh;have hmul:(o.n+ys.length)*o.sz≤cap*o.sz:=Nat.mul_le_mul_right _ re;rw[pj]at hmul;obtain⟨v0,fq,a6,bu,bV,_⟩:=h.good.own k o ad;rw[aJ]at a6;cases a6;obtain⟨cW,da⟩:=bV bl rfl;generalize zh:w.setRow bl (us++ns++cur.toList.drop (o.n*o.sz+ns.length)).toArray=w';have mS:∀j,j≠bl→w'.heap[j]? =w.heap[j]?:=fun j af=>by rw[←zh];exact setRow_other w bl j _ af
 have kj:w'.heap[bl]? =some (.cells (us++ns++cur.toList.drop (o.n*o.sz+ns.length)).toArray o.el (0,0)):=by rw[←zh];exact setRow_heap w bl cur _ o.el _ wV
 have Jy:w'.heap.size=w.heap.size:=by rw[←zh];exact setRow_size w bl _
 have ql:∀j,j<o.n*o.sz→w'.cell? ⟨bl,j,none⟩=w.cell? ⟨bl,j,none⟩:=by intro j af;simp only[World.cell?,kj,wV,j6,gP,if_false];rw[List.getElem?_toArray,List.append_assoc,List.getElem?_append_left (by omega),←qt,List.getElem?_take,if_pos af];simp
 have aw:k9 w ν w' (ν.withRowOf k (.slice (some ⟨bl,0,none⟩) (o.n+ys.length) cap) (o.n+ys.length) ((o.n+ys.length)*o.sz)):=by
  refine⟨fun b j bg=>⟨.inl bg,?_⟩,fun j b _ af=>af,fun g n u _ iC=>?_,fun b j bg=>?_,fun _ _ _ _ h=>h⟩;rotate_left 2
  ·by_cases e:b=bl
   ·subst e;simp only[shape,kj,wV,List.size_toArray,pd,rS,Array.length_toList];congr 2;omega
   ·exact vQ (mS b e)
  ·by_cases e:b=bl
   ·subst e;exact ql j (da j bg)
   ·exact World.cell?_of_block (mS b e)
  ·by_cases e:g=k
   ·subst e;rw[aJ]at iC;cases iC;exact⟨o.n+ys.length,.slice (some ⟨bl,0,none⟩) (o.n+ys.length) cap,by simp[bd.withRowOf],.inr (by omega)⟩
   ·exact⟨n,u,by simp[bd.withRowOf,e,iC],.inl ⟨rfl,rfl⟩⟩
 have kF:∀g,(look g (cx k ⟨o.n+ys.length,o.el,o.sz,none⟩ st.e)).isSome→g=k∨(g≠k∧(look g st.e).isSome∧(ν.withRowOf k (.slice (some ⟨bl,0,none⟩) (o.n+ys.length) cap) (o.n+ys.length) ((o.n+ys.length)*o.sz)).ow g=ν.ow g):=by
  intro g ki;by_cases e:g=k
  ·exact .inl e
  ·rw[iG,if_neg (kP e)]at ki;exact .inr ⟨e,ki,by simp[bd.withRowOf,e]⟩
 have anZ:bl<w.heap.size:=(Array.getElem?_eq_some_iff.1 wV).1;have adl:∀j u,(us++ns)[j]? =some u→w'.cell? ⟨bl,j,none⟩=some u:=by intro j u af;have y1:=(fL.1 af).1;simp only[World.cell?,kj,j6,gP,if_false];rw[List.getElem?_toArray,List.getElem?_append_left y1];exact af
 refine⟨h.over aw rfl ⟨fun b j bg=>?_,fun j eH af=>?_,h.good.inj,fun g o' eT=>?_,fun g fb n n' u e4 b J U ao a8 bZ c4=>?_,fun g j n u b J U ao a8 bZ=>?_,fun j=>?_,fun b ae=>h.good.otr b ?_⟩
  ⟨by rw[←zh];exact h.fr.os,by rw[←zh];exact h.fr.tape,by rw[←zh];exact h.fr.output,by rw[Jy];exact h.fr.size,fun j af hm=>?_,fun b j bg=>?_,fun b j bg=>?_,h.fr.obj,h.fr.obn,fun m n u hm=>CS (h.fr.row m n u hm) (fun n u=>aw.ow _ n u trivial),h.fr.obr,h.fr.trd,fun k j b ae=>⟨(h.fr.trb k j b ae).1,by rw[Jy];exact(h.fr.trb k j b ae).2⟩,fun bM j b ae=>?_,fun b o bg=>(aw.sh b o (h.fr.keep b o bg).1).trans (h.fr.sh b o bg)⟩ (fun m hm=>?_),?_⟩
 ·rw[Jy];rcases bg with bg|⟨bg,_⟩
  ·exact h.good.alt b j bg
  ·simp only[nK,dG]at bg;omega
 ·obtain⟨b,cg,fP,g1,g2,g3,g4,g5⟩:=h.good.box j eH af;have cF:b≠bl:=fun e=>h.good.obx k j o.n _ bl (by simp[ad]) (by simp[af]) aJ rfl (by rw[←e];exact g1);refine⟨b,cg,fP,g1,g2,fun i bg=>?_,by rw[mS b cF];exact g4,pU aw g5⟩;rcases bg with bg|⟨bg,_⟩
  ·exact g3 i bg
  ·simp only[nK,dG]at bg;exact cF bg.symm
 ·simp only at eT;rw[iG]at eT;by_cases e:k=g
  ·rw[if_pos e]at eT;cases eT;subst e;refine⟨.slice (some ⟨bl,0,none⟩) (o.n+ys.length) cap,us++ns,by simp[bd.withRowOf],⟨by rw[pd,rh,ju,pj],.inr ⟨bl,cap,_,rfl,Nat.zero_le _,kj,re,yS,?_,?_⟩⟩,fun b ae=>⟨?_,fun j bg=>?_⟩,fun ys aG=>by cases aG⟩
   ·simp only[List.size_toArray,pd,rS,Array.length_toList];omega
   ·have au:(us++ns).length=(o.n+ys.length)*o.sz:=by rw[pd,rh,ju,pj]
    simp only[←au];rw[List.take_append_of_le_length (eR _),nL]
   ·simp only[nK,dG]at ae;subst ae;exact cW
   ·simp only[nK,dG]at ae;subst ae;rcases bg with bg|⟨_,bg⟩
    ·have:=da j bg;simp only;rw[pj];omega
    ·exact bg
  ·rw[if_neg e]at eT;obtain⟨v0,fq,ak,aB,bj,de⟩:=h.good.own g o' eT;have cF:∀b,v0.ownBlock=some b→b≠bl:=fun b ae H6=>e (h.good.oinj k g o.n o'.n _ v0 bl (by simp[ad]) (by simp[eT]) aJ ak rfl (by rw[←H6];exact ae));have uY:∀b,v0.ownBlock=some b→∀j,(ν.withRowOf k (.slice (some ⟨bl,0,none⟩) (o.n+ys.length) cap) (o.n+ys.length) ((o.n+ys.length)*o.sz)).A b j→ν.A b j:=fun b ae j bg=>by
    rcases bg with bg|⟨bg,_⟩
    ·exact bg
    ·simp only[nK,dG]at bg;exact absurd bg.symm (cF b ae)
   refine⟨v0,fq,by simp[bd.withRowOf,kP e,ak],⟨aB.1,?_⟩,fun b ae=>⟨(bj b ae).1,fun j bg=>(bj b ae).2 j (uY b ae j bg)⟩,rF aw uY de⟩;rcases aB.2 with aB|⟨bb,DW,l7,f1,f2,f3,f4⟩
   ·exact .inl aB
   ·exact .inr ⟨bb,DW,l7,f1,f2,by rw[mS bb (cF bb (by rw[f1];rfl))];exact f3,f4⟩
 ·rcases kF g J with rfl|⟨hV,fZ,iW⟩<;>rcases kF fb U with rfl|⟨m1,m2,m3⟩
  ·rfl
  ·exfalso;simp only[bd.withRowOf,if_true,dG,jj]at ao;rw[m3]at a8;rw[←ao.2]at bZ;simp only[nK,dG]at bZ;subst bZ;exact m1 (h.good.oinj fb g n' o.n e4 _ bl m2 (by simp[ad]) a8 aJ c4 rfl)
  ·exfalso;simp only[bd.withRowOf,if_true,dG,jj]at a8;rw[iW]at ao;rw[←a8.2]at c4;simp only[nK,dG]at c4;subst c4;exact hV (h.good.oinj g fb n o.n u _ bl fZ (by simp[ad]) ao aJ bZ rfl)
  ·rw[iW]at ao;rw[m3]at a8;exact h.good.oinj g fb n n' u e4 b fZ m2 ao a8 bZ c4
 ·rcases kF g J with rfl|⟨hV,fZ,iW⟩
  ·simp only[bd.withRowOf,if_true,dG,jj]at ao;rw[←ao.2]at a8;simp only[nK,dG]at a8;subst a8;exact h.good.obx g j o.n _ bl (by simp[ad]) U aJ rfl bZ
  ·rw[iW]at ao;exact h.good.obx g j n u b fZ U ao a8 bZ
 ·by_cases e:j=k
  ·subst e;rcases h.good.one j with J|J
   ·exact .inl J
   ·rw[J]at aJ;cases aJ
  ·rcases h.good.one j with J|J
   ·exact .inl J
   ·exact .inr (by simp[bd.withRowOf,e,J])
 ·rcases ae with ae|⟨g,n,u,bE,a2,a3⟩
  ·exact .inl ae
  ·rcases kF g bE with rfl|⟨hV,fZ,iW⟩
   ·simp only[bd.withRowOf,if_true,dG,jj]at a2;rw[←a2.2]at a3;exact .inr ⟨g,_,_,by simp[ad],aJ,a3⟩
   ·exact .inr ⟨g,n,u,fZ,by rw[←iW];exact a2,a3⟩
 ·rw[mS j fun e=>by subst e;exact cW.elim hm (fun g2=>by omega)];exact h.fr.block j af hm
 ·obtain⟨aT,bz⟩:=h.fr.keep b j bg;exact⟨.inl aT,(aw.A b j aT).2.trans bz⟩
 ·rcases bg with bg|⟨bg,_⟩
  ·exact h.fr.fresh b j bg
  ·simp only[nK,dG]at bg;subst bg;exact .inr cW
 ·obtain⟨t1,t2⟩:=h.fr.trn bM j b ae;have cF:bM≠k:=fun e=>by subst e;rw[t2]at aJ;cases aJ
  exact⟨t1,by simp[bd.withRowOf,cF,t2]⟩
 ·obtain⟨aT,bz,b6⟩:=h.new m hm;refine⟨aT,?_,b6⟩;have:m≠k:=fun e=>by subst e;rw[bz]at aJ;cases aJ
  simp[bd.withRowOf,this,bz]
 ·simp only[ba];refine⟨⟨some ⟨bl,0,none⟩,cap,by simp[jY],by simp;omega,⟨yS,by simpa using eO⟩,.inr ⟨bl,0,us++ns,rfl,J6 _ 0 fun j u af=>?_,CM (z7 aw ax) (z7 aw yU)⟩⟩,fun e=>(by cases e),fun g e=>?_,fun _ _ e=>(by cases e),fun _ e=>(by cases e)⟩
  ·have y1:=(fL.1 af).1;rw[Nat.zero_add];refine⟨.inr ⟨rfl,?_⟩,adl j u af⟩;rw[pd,rh,ju]at y1;rw[pj];exact y1
  ·cases e;exact⟨o.n+ys.length,.slice (some ⟨bl,0,none⟩) (o.n+ys.length) cap,by simp[bd.withRowOf],by simp[jY],fun _=>rfl⟩
theorem Gq{P:cC}{w:World}{t ty e:fT}{i:TypeInfo}(aN:P.underlying t=some (.slice e))(hi:P.info? e=some i)(b:aY Addr)(n cap:Nat)(aA:n≤cap)(x:aY Addr)(c:Nat):
  (Builtin.append_ #[t,t] ty #[.slice b n cap,.slice x 0 c]).run P w= .ok (.slice b n cap) w:=by
 cases b<;>cases x<;>simp[Builtin.append_,run_underlying aN,sizeOf,typeInfo,hi,Builtin.lenOf,aA,Builtin.firstCells,loadCells,loadCellsFrom,storeCells]
inductive ei where
 |v (d:Nat) (i:fO)
 |box (d:Nat) (key:aY Nat) (x:dr)
 |alloc (d:Nat) (key:aY Nat) (zero:ah)
 |store (sz:Nat) (x y:dr)
 |bsl (d:Nat) (sz el:Nat) (xs:List dr)
 |app (d:Nat) (sz el:Nat) (x y:dr)
 |bslm (d:Nat) (key:aY Nat) (sz el:Nat) (xs:List dr)
 |appm (d:Nat) (key:aY Nat) (sz el:Nat) (x y:dr)
 |mkmap (d:Nat) (key:aY Nat)
 |mput (b9:jm) (x k v:dr)
 |range (d:Nat) (key:aY Nat) (x:dr)
 |storeE (sz:Nat) (x y:dr)
 |mks (d:Nat) (key:aY Nat) (sz el:Nat) (z:ah) (x:dr)
def jA(st:bq):aY Nat→aH
 |none=>.loc st.n
 |some m=>.obj m
def pK(st:bq):aY Nat→Prop
 |none=>.loc st.n∉st.o
 |some m=>.obj m∉st.o
def mY(st:bq):aY Nat→Nat
 |none=>st.n+1
 |some _=>st.n
def mZ(st:bq):aY Nat→List aH
 |none=>st.o
 |some m=>.obj m::st.o
theorem vz{st:bq}{key:aY Nat}(h:pK st key):fresh st.n st.o (jA st key):=by cases key<;>simp[jA,fresh,pK]at h⊢ <;>exact h
theorem vA{st:bq}{key:aY Nat}:∀j,fresh (mY st key) (mZ st key) j→fresh st.n st.o j∧j≠jA st key:=by
 intro j af;cases key<;>cases j<;>simp[fresh,mY,mZ,jA]at af⊢
 ·exact⟨⟨by omega,af.2⟩,by omega⟩
 ·exact af
 ·exact af
 ·exact⟨af.2,af.1⟩
def rX(sz:Nat):List ah→Prop
 |[]=>True
 |p::ct=>(dY p=true∧(cells p).length=sz)∧rX sz ct
def og(b9:jm)(k v:ah):List ah→aY (List ah)
 | .hdm clock borns::kvs=>if tM b9 k=false then none else match tX b9 k v kvs with
  |some (some vt)=>some (.hdm clock borns::vt)
  |some none=>some (.hdm (clock+1) (borns++[clock])::(kvs++[k,v]))
  |none=>none
 |_=>none
def vM(m:aH):List ah→aY (List ah)
 | .hdm clock _::_=>some [.hdi clock [] clock,.gmap m]
 |_=>none
def rY(st:bq)(sz el:Nat)(x y:ah):aY ((aY (aH×List ah))×List ah):=
 match x,y with
 | .slice dF .nil _,.slice ja _ ys=>if dF=sz∧ja=sz then some (none,ys)else none
 | .row dF k n,.slice ja _ ys=>if dF=sz∧ja=sz then
   match look k st.e with
   |some ⟨n',fP,vT,some xs⟩=>if n'=n∧fP=el∧vT=sz then some (some (k,xs),ys)else none
   |_=>none
  else none
 |_,_=>none
def mx:ah→Nat→List ah→ah
 | .agg eH,f,cs=>.agg (nD eH f cs)
 |_,_,[q]=>q
 |_,_,_=>.junk
def qF(st:bq)(sz:Nat)(p v:ah):aY (Prop×bq):=
 match p with
 | .rptr dF k n i f=>match look k st.e with
  |some ⟨n',el,ja,some xs⟩=>if n'=n∧ja=dF then
    match xs[i]? with
    |some q=>some (dY q=true∧dY v=true∧(cells v).length=sz∧f+sz≤(cells q).length∧0<sz,{st with e:=cx k ⟨n',el,ja,some (xs.set i (mx q f (cells v)))⟩ st.e})
    |none=>none
   else none
  |_=>none
 |_=>none
def l0(st:bq):ei→aY (Prop×bq)
 | .mks d key sz el z x=>match ck st.t x with
  | .int _ n=>some (pK st key∧0≤n∧n≤lim,
    {t:=put d (.row sz (jA st key) n.toNat) st.t,b:=st.b,e:=cx (jA st key) ⟨n.toNat,el,sz,some (qK n.toNat z)⟩ st.e,n:=mY st key,o:=mZ st key})
  |_=>none
 | .bslm d key sz el xs=>some (pK st key∧rX sz (xs.map (ck st.t)),
   {t:=put d (.row sz (jA st key) xs.length) st.t,b:=st.b,e:=cx (jA st key) ⟨xs.length,el,sz,some (xs.map (ck st.t))⟩ st.e,n:=mY st key,o:=mZ st key})
 | .appm d key sz el x y=>match rY st sz el (ck st.t x) (ck st.t y)with
  |some (none,ys)=>some (pK st key∧ys.length≤lim∧ys≠[],
    {t:=put d (.row sz (jA st key) ys.length) st.t,b:=st.b,e:=cx (jA st key) ⟨ys.length,el,sz,some ys⟩ st.e,n:=mY st key,o:=mZ st key})
  |some (some (k,xs),ys)=>some (xs.length+ys.length≤lim,{st with t:=put d (.row sz k (xs.length+ys.length)) st.t,e:=cx k ⟨xs.length+ys.length,el,sz,some (xs++ys)⟩ st.e})
  |none=>none
 | .mkmap d key=>some (pK st key,{t:=put d (.gmap (jA st key)) st.t,b:=cx (jA st key) [.hdm 0 []] st.b,e:=st.e,n:=mY st key,o:=mZ st key})
 | .mput b9 x k v=>match ck st.t x with
  | .gmap m=>match look m st.b with
   |some cs=>match og b9 (ck st.t k) (ck st.t v) cs with
    |some cs'=>some (True,{st with b:=cx m cs' st.b})
    |none=>none
   |none=>none
  |_=>none
 | .range d key x=>match ck st.t x with
  | .gmap m=>match look m st.b with
   |some cs=>match vM m cs with
    |some cs'=>some (pK st key,{t:=put d (.ptr (jA st key) 0) st.t,b:=cx (jA st key) cs' st.b,e:=st.e,n:=mY st key,o:=mZ st key})
    |none=>none
   |none=>none
  |_=>none
 | .v d i=>match gZ st i with
  |some (c,p)=>some (c,{st with t:=put d p st.t})
  |none=>none
 | .storeE sz x y=>qF st sz (ck st.t x) (ck st.t y)
 | .box d key x=>some (pK st key∧dY (ck st.t x)=true,
   {t:=put d (.ptr (jA st key) 0) st.t,b:=cx (jA st key) (cells (ck st.t x)) st.b,e:=st.e,n:=mY st key,o:=mZ st key})
 | .alloc d key z=>some (pK st key,{t:=put d (.ptr (jA st key) 0) st.t,b:=cx (jA st key) (cells z) st.b,e:=st.e,n:=mY st key,o:=mZ st key})
 | .store sz x y=>match ck st.t x with
  | .ptr k off=>match look k st.b with
   |some cs=>some (hM cs=true∧dY (ck st.t y)=true∧(cells (ck st.t y)).length=sz∧off+sz≤cs.length,{st with b:=cx k (nD cs off (cells (ck st.t y))) st.b})
   |none=>none
  |p=>qF st sz p (ck st.t y)
 | .bsl d sz el xs=>some (pK st none∧rX sz (xs.map (ck st.t)),
   {st with t:=put d (.slice sz (.own (.loc st.n)) (xs.map (ck st.t))) st.t,e:=cx (.loc st.n) ⟨xs.length,el,sz,none⟩ st.e,n:=st.n+1})
 | .app d sz el x y=>match ck st.t x,ck st.t y with
  | .slice dF tag xs,.slice ja _ ys=>if dF=sz∧ja=sz then
    match tag with
    | .own k=>match look k st.e with
     |some o=>some (o.n=xs.length∧o.el=el∧o.sz=sz∧xs.length+ys.length≤lim,
       {st with t:=put d (.slice sz (.own k) (xs++ys)) st.t,e:=cx k ⟨xs.length+ys.length,el,sz,none⟩ st.e})
     |none=>none
    | .nil=>some (pK st none∧ys.length≤lim,{st with t:=put d (.slice sz (.own (.loc st.n)) ys) st.t,e:=cx (.loc st.n) ⟨ys.length,el,sz,none⟩ st.e,n:=st.n+1})
    |_=>none
   else none
  |_,_=>none
def eA(κ:aH)(n':Nat)(o':List aH)(st:bq):ei→aY (Prop×bq)
 | .mks d _ sz el z x=>match ck st.t x with
  | .int _ n=>some (0≤n∧n≤lim,
    {t:=put d (.row sz κ n.toNat) st.t,b:=st.b,e:=cx κ ⟨n.toNat,el,sz,some (qK n.toNat z)⟩ st.e,n:=n',o:=o'})
  |_=>none
 | .bslm d _ sz el xs=>some (rX sz (xs.map (ck st.t)),
   {t:=put d (.row sz κ xs.length) st.t,b:=st.b,e:=cx κ ⟨xs.length,el,sz,some (xs.map (ck st.t))⟩ st.e,n:=n',o:=o'})
 | .appm d _ sz el x y=>match rY st sz el (ck st.t x) (ck st.t y)with
  |some (none,ys)=>some (ys.length≤lim∧ys≠[],
    {t:=put d (.row sz κ ys.length) st.t,b:=st.b,e:=cx κ ⟨ys.length,el,sz,some ys⟩ st.e,n:=n',o:=o'})
  |some (some (k,xs),ys)=>some (xs.length+ys.length≤lim,{st with t:=put d (.row sz k (xs.length+ys.length)) st.t,e:=cx k ⟨xs.length+ys.length,el,sz,some (xs++ys)⟩ st.e})
  |none=>none
 | .mkmap d _=>some (True,{t:=put d (.gmap κ) st.t,b:=cx κ [.hdm 0 []] st.b,e:=st.e,n:=n',o:=o'})
 | .mput b9 x k v=>match ck st.t x with
  | .gmap m=>match look m st.b with
   |some cs=>match og b9 (ck st.t k) (ck st.t v) cs with
    |some cs'=>some (True,{st with b:=cx m cs' st.b})
    |none=>none
   |none=>none
  |_=>none
 | .range d _ x=>match ck st.t x with
  | .gmap m=>match look m st.b with
   |some cs=>match vM m cs with
    |some cs'=>some (True,{t:=put d (.ptr κ 0) st.t,b:=cx κ cs' st.b,e:=st.e,n:=n',o:=o'})
    |none=>none
   |none=>none
  |_=>none
 | .v d i=>match gZ st i with
  |some (c,p)=>some (c,{st with t:=put d p st.t})
  |none=>none
 | .storeE sz x y=>qF st sz (ck st.t x) (ck st.t y)
 | .box d _ x=>some (dY (ck st.t x)=true,{t:=put d (.ptr κ 0) st.t,b:=cx κ (cells (ck st.t x)) st.b,e:=st.e,n:=n',o:=o'})
 | .alloc d _ z=>some (True,{t:=put d (.ptr κ 0) st.t,b:=cx κ (cells z) st.b,e:=st.e,n:=n',o:=o'})
 | .store sz x y=>match ck st.t x with
  | .ptr k off=>match look k st.b with
   |some cs=>some (hM cs=true∧dY (ck st.t y)=true∧(cells (ck st.t y)).length=sz∧off+sz≤cs.length,{st with b:=cx k (nD cs off (cells (ck st.t y))) st.b})
   |none=>none
  |p=>qF st sz p (ck st.t y)
 | .bsl d sz el xs=>some (rX sz (xs.map (ck st.t)),
   {st with t:=put d (.slice sz (.own κ) (xs.map (ck st.t))) st.t,e:=cx κ ⟨xs.length,el,sz,none⟩ st.e,n:=n',o:=o'})
 | .app d sz el x y=>match ck st.t x,ck st.t y with
  | .slice dF tag xs,.slice ja _ ys=>if dF=sz∧ja=sz then
    match tag with
    | .own k=>match look k st.e with
     |some o=>some (o.n=xs.length∧o.el=el∧o.sz=sz∧xs.length+ys.length≤lim,
       {st with t:=put d (.slice sz (.own k) (xs++ys)) st.t,e:=cx k ⟨xs.length+ys.length,el,sz,none⟩ st.e})
     |none=>none
    | .nil=>some (ys.length≤lim,{st with t:=put d (.slice sz (.own κ) ys) st.t,e:=cx κ ⟨ys.length,el,sz,none⟩ st.e,n:=n',o:=o'})
    |_=>none
   else none
  |_,_=>none
def vE:Nat→List dr→List (Nat×Operand)→Bool
 |_,[],[]=>true
 |i,x::xs,(j,o)::os=>i==j&&eg x o&&vE (i+1) xs os
 |_,_,_=>false
def CU(N:Nat)(bB:List (Nat×dB))(i:ei)(o:Oper):Bool:=
 match i,o.op with
 | .mkmap d _,.makeMap _ none=>o.dst==some d&&decide (d<N)
 | .mput b9 x k v,.mapUpdate t gK gB pS=>o.dst==none&&(match dV bB t with|some ⟨_,_,.map mr _,_⟩=>xp bB b9 mr|_=>false)&&eg x gK&&eg k gB&&eg v pS
 | .mput b9 x k v,.insert t gK gB pS=>o.dst==none&&(match dV bB t with|some ⟨_,_,.map mr _,_⟩=>xp bB b9 mr|_=>false)&&eg x gK&&eg k gB&&eg v pS
 | .range d _ x,.range t gK=>o.dst==some d&&decide (d<N)&&(match dV bB t with|some ⟨_,_,.map _ _,_⟩=>true|_=>false)&&eg x gK
 | .v d i,op=>o.dst==some d&&decide (d<N)&&Da bB i op
 | .box d _ x,.box _ o'=>o.dst==some d&&decide (d<N)&&eg x o'
 | .alloc d _ z,.alloc el=>o.dst==some d&&decide (d<N)&&(match dV bB el with|some f=>AA z f.zero|none=>false)
 | .store sz x y,.store t o' iX=>o.dst==none&&(match dV bB t with|some f=>f.size==sz|none=>false)&&eg x o'&&eg y iX
 | .bsl d sz el xs,.buildSlice t len parts=>o.dst==some d&&decide (d<N)&&(match dV bB t with|some ⟨_,_,.slice fP,_⟩=>el==fP|_=>false)&&(match dV bB el with|some f=>f.size==sz&&decide (0<sz)|none=>false)
   &&len==xs.length&&decide (len*sz≤16777216)&&vE 0 xs parts.toList
 | .app d sz el x y,.call ⟨.builtin .append,⟨[o',iX]⟩,⟨[t,dJ]⟩⟩=>o.dst==some d&&decide (d<N)&&t==dJ&&(match dV bB t with|some ⟨_,_,.slice fP,_⟩=>el==fP|_=>false)
   &&(match dV bB el with|some f=>f.size==sz&&decide (0<sz)&&decide (f.bytes≤2048)|none=>false)&&eg x o'&&eg y iX
 | .bslm d _ sz el xs,.buildSlice t len parts=>o.dst==some d&&decide (d<N)&&(match dV bB t with|some ⟨_,_,.slice fP,_⟩=>el==fP|_=>false)&&(match dV bB el with|some f=>f.size==sz&&decide (0<sz)|none=>false)
   &&len==xs.length&&decide (len*sz≤16777216)&&vE 0 xs parts.toList
 | .appm d _ sz el x y,.call ⟨.builtin .append,⟨[o',iX]⟩,⟨[t,dJ]⟩⟩=>o.dst==some d&&decide (d<N)&&t==dJ&&(match dV bB t with|some ⟨_,_,.slice fP,_⟩=>el==fP|_=>false)
   &&(match dV bB el with|some f=>f.size==sz&&decide (0<sz)&&decide (f.bytes≤2048)|none=>false)&&eg x o'&&eg y iX
 | .storeE sz x y,.store t o' iX=>o.dst==none&&(match dV bB t with|some f=>f.size==sz|none=>false)&&eg x o'&&eg y iX
 | .mks d _ sz el z x,.makeSlice t o' iX=>o.dst==some d&&decide (d<N)&&(match dV bB t with|some ⟨_,_,.slice fP,_⟩=>el==fP|_=>false)
   &&(match dV bB el with|some f=>f.size==sz&&decide (0<sz)&&decide (f.bytes≤2048)&&AA z f.zero|none=>false)&&eg x o'&&eg x iX
 |_,_=>false
theorem VL{w:World}{ν:bd}{C:fa}{st:bq}{a:Act}(aL:cP C st a w ν){sz:Nat}:
  ∀(xs:List dr) (i:Nat) (os:List (Nat×Operand)) (pre:List ah) (us:Array Value) (bc:List Value),vE i xs os=true→rX sz (xs.map (ck st.t))→us.toList.take (i*sz)=bc→dy w ν sz pre bc→i=pre.length→us.size=(i+xs.length)*sz→
  ∃cg:Array Value,Instr.fill (fun i=>some (i*sz,sz)) us (os.map fun(x:Nat×Operand)=>(x.1,a.eval x.2))=some cg∧dy w ν sz (pre++xs.map (ck st.t)) cg.toList∧cg.size=us.size
 |[],i,[],pre,us,bc,_,_,aJ,h,hi,ag=>by refine⟨us,by simp[Instr.fill],?_,rfl⟩;have au:=sJ h;have:us.toList.take (i*sz)=us.toList:=hl (by simp at ag⊢;omega);rw[this]at aJ;simpa[aJ]using h
 |[],_,_::_,_,_,_,eW,_,_,_,_,_=>by simp[vE]at eW
 |_::_,_,[],_,_,_,eW,_,_,_,_,_=>by simp[vE]at eW
 |x::xs,i,(j,o)::os,pre,us,bc,eW,bF,aJ,h,hi,ag=>by
  simp only[vE,cA,dL]at eW;obtain⟨⟨rfl,J⟩,U⟩:=eW;simp only[gE,rX]at bF;obtain⟨⟨kX,hlen⟩,bF⟩:=bF;have ab:=eh aL J;have ll:=ui ab kX;have yT:=o7 ll;have dq:(a.eval o).cells.size=sz:=by rw[hlen]at yT;simpa using yT
  have hmul:i*sz+sz≤us.size:=by rw[ag,p2,show i+(xs.length+1)=(i+1)+xs.length from by omega,pj,Nat.succ_mul];omega
  have xe:=Ix (w:=w) (ν:=ν) (a.eval o).cells.toList 0 (i*sz) us (by simp[dq];omega);have jv:dy w ν sz (pre++[ck st.t x]) (bc++(a.eval o).cells.toList):=by refine CM h ?_;simp only[dy];exact⟨a.eval o,[],by simp,⟨ab,dq,Aa ll⟩,rfl⟩
  have pE:bc.length=i*sz:=by rw[←aJ];simp;omega
  obtain⟨cg,g1,g2,g3⟩:=VL aL xs (i+1) os (pre++[ck st.t x]) (((a.eval o).cells.toList.zipIdx 0).foldl (fun cs (x:Value×Nat)=>cs.setIfInBounds (i*sz+x.2) x.1) us) (bc++(a.eval o).cells.toList) U bF
   (by
    rw[xe];simp only[Nat.add_zero];rw[aJ];have:(bc++(a.eval o).cells.toList).length=(i+1)*sz:=by rw[pd,pE,Nat.succ_mul];simp[dq]
    rw[←this,List.take_append_of_le_length (eR _),nL]) jv (by simp[hi])
   (by have bA:=e5 List.length xe;simp only[Array.length_toList,pd,List.length_take,rS,dq]at bA;rw[bA,ag,p2,show i+(xs.length+1)=i+1+xs.length from by omega];rw[ag,p2,show i+(xs.length+1)=i+1+xs.length from by omega]at hmul;omega)
  refine⟨cg,?_,by simpa using g2,?_⟩
  ·simp only[gE,Instr.fill];rw[if_neg (by simp[dq];omega),←g1];congr 1;rw[←Array.foldl_toList];simp
  ·rw[g3];have bA:=e5 List.length xe;simp only[Array.length_toList,pd,List.length_take,rS,dq]at bA;rw[bA];omega
theorem l3{P:cC}{o:Oper}{a:Act}{w w':World}{v:Value}{K:Act→World→Prop}{Q:Exit→Act→World→Prop}(h:(execOp a.eval o).run P w= .ok (.value v) w')(ad:K (a.put o.dst v) w'):o.wp P a w K Q:=by unfold Oper.wp;rw[h];exact ad
theorem Dh{P:cC}{o:Oper}{a:Act}{w w':World}{K:Act→World→Prop}{Q:Exit→Act→World→Prop}(h:(execOp a.eval o).run P w= .ok .skip w')(ad:K (a.put o.dst undef) w'):o.wp P a w K Q:=by unfold Oper.wp;rw[h];exact ad
theorem Dc{P:cC}{w w':World}{x:Sem Value}{v:Value}(h:x.run P w= .ok v w'):(do pure (Next.value (←x)):Sem Next).run P w= .ok (.value v) w':=by simp[h]
theorem VJ{P:cC}{bB:List (Nat×dB)}(aN:fN P bB=true){C:fa}{st:bq}{a:Act}{w:World}{ν:bd}(aL:cP C st a w ν){t el:Nat}{f g:dB}(aI:dV bB t=some f)(ad:f.kind= .slice el)(a7:dV bB el=some g)
  {xs:List dr} {os:List (Nat×Operand)} (eW:vE 0 xs os=true) (ef:rX g.size (xs.map (ck st.t))) (hlen:xs.length*g.size≤16777216):
  ∃us:Array Value,(Instr.buildSlice t xs.length (os.map fun(x:Nat×Operand)=>(x.1,a.eval x.2)).toArray).run P w= .ok (.slice (some ⟨w.heap.size,0,none⟩) xs.length xs.length) (w.alloc (.cells us el))∧
   dy w ν g.size (xs.map (ck st.t)) us.toList∧us.size=xs.length*g.size:=by
 obtain⟨d,aQ,eV⟩:=iJ aN aI;rw[ad]at eV;obtain rfl:=r1 eV;obtain⟨_,ag⟩:=ux aN a7 w;obtain⟨z,xi,aoe,aof⟩:=Me aN a7 w;have aA:¬xs.length*g.size>2 ^ 24:=by omega
 let init:Array Value:=if xs.length*g.size=0 then(Array.range (xs.length*g.size)).map ((#[]:Array Value)[· %(#[]:Array Value).size]!)else(Array.range (xs.length*g.size)).map (z.cells[· %z.cells.size]!)
 have RC:init.size=xs.length*g.size:=by simp only[init];split<;>simp
 obtain⟨cg,g1,g2,g3⟩:=VL (a:=a) aL xs 0 os [] init [] eW ef (by simp) (by simp[dy]) rfl (by rw[RC];simp);refine⟨cg,?_,by simpa using g2,by rw[g3,RC]⟩;simp only[init]at g1;by_cases bA:xs.length*g.size=0
 ·rw[if_pos bA]at g1;rw[bA]at g1;have acY:¬(0:Nat)>2 ^ 24:=by decide
  simp only[Instr.buildSlice,fF,run_underlying aQ,fK,ag,if_false,gp,bA,if_true,acY,g1,newRow,run_newObj];rfl
 ·rw[if_neg bA]at g1;simp only[Instr.buildSlice,fF,run_underlying aQ,fK,ag,aA,if_false,gp,bA,xi,g1,newRow,run_newObj];rfl
theorem Co{P:cC}{w:World}{ν:bd}{b9:jm}{t:fT}(aQ:s5 P b9 t){k v:ah}{gV Mz:Value}(ad:ba w ν k gV)(aJ:ba w ν v Mz):
  ∀(borns:List Nat) (kvs:List ah) (us:List Value) (i:Nat) (r:aY (List ah)),cN w ν kvs us→kvs.length=2*borns.length→tX b9 k v kvs=some r→
  match r with
  |none=>hP P w b9 t gV (fv borns us) i none
  |some vt=> ∃j u cg e,hP P w b9 t gV (fv borns us) i (some (i+j,u))∧cN w ν vt cg∧vt.length=kvs.length∧(fv borns us)[j]? =some e∧e.key=gV∧Instr.sameBits 10000 e.key gV=true∧fv borns cg=(fv borns us).modify j (fun e=>{e with key:=gV,val:=Mz})
 |[],[],us,i,r,h,_,hm=>by simp only[tX]at hm;cases hm;simp only[cN]at h;subst h;simpa[fv]using hP.nil P w b9 t gV i
 |[],_::_,_,_,_,_,au,_=>by simp at au
 |b::eN,[],_,_,_,_,au,_=>by simp at au
 |b::eN,[_],_,_,_,_,au,_=>by simp at au;omega
 |b::eN,bM::v'::kvs,us,i,r,h,au,hm=>by
  simp only[cN]at h;obtain⟨h7,Mj,rfl,J,iK,rL,rfl,U,ao⟩:=h;simp only[tX]at hm;simp only[fv];cases bo:sv b9 k bM with
  |none=>simp[bo]at hm
  |some bb=>
   obtain⟨s1,s2⟩:=SR aQ ad J bo;simp only[bo]at hm;cases bb with
   |true=>simp only[dG]at hm;subst hm;obtain⟨rfl,s3⟩:=s2 rfl;refine⟨0,iK,h7::Mz::rL,⟨h7,iK,b⟩,hP.hit (e:=⟨h7,iK,b⟩) s1,?_,by simp,by simp,rfl,s3,by simp[fv]⟩;simp only[cN];exact⟨_,_,rfl,ad,_,_,rfl,aJ,ao⟩
   |false=>
    simp only at hm;have bT:=fun eF dE=>Co aQ ad aJ eN kvs rL (i+1) eF ao (by simp at au;omega) dE;split at hm
    ·rename_i eF dE;cases hm;obtain⟨j,u,cg,e,g1,g2,g3,g4,g5,g6,g7⟩:=bT _ dE;refine⟨j+1,u,h7::iK::cg,e,hP.miss (e:=⟨h7,iK,b⟩) s1 (by rw[show i+(j+1)=i+1+j from by omega];exact g1),?_,by simp[g3],by simpa using g4,g5,g6,by simp[fv,g7]⟩;simp only[cN];exact⟨_,_,rfl,J,_,_,rfl,U,g2⟩
    ·rename_i dE;cases hm;exact hP.miss (e:=⟨h7,iK,b⟩) s1 (bT _ dE)
    ·cases hm
theorem H9:∀(borns:List Nat) (us:List Value) (b:Nat) (k v:Value),us.length=2*borns.length→fv (borns++[b]) (us++[k,v])=fv borns us++[⟨k,v,b⟩]
 |[],us,b,k,v,h=>by have:us=[]:=List.eq_nil_of_length_eq_zero (by simpa using h);subst this;simp[fv]
 |bO::eN,[],b,k,v,h=>by simp at h
 |bO::eN,[_],b,k,v,h=>by simp at h;omega
 |bO::eN,bM::v'::us,b,k,v,h=>by simp only[bU,fv,H9 eN us b k v (by simp at h;omega)]
theorem LB{w:World}{ν:bd}:∀{ct bL:List ah} {bc us:List Value},cN w ν ct bc→cN w ν bL us→cN w ν (ct++bL) (bc++us)
 |[],bL,bc,us,h,cr=>by simp only[cN]at h;subst h;simpa using cr
 |p::ct,bL,bc,us,h,cr=>by simp only[cN]at h;obtain⟨u,cg,rfl,J,U⟩:=h;simp only[bU,cN];exact⟨u,_,rfl,J,LB U cr⟩
theorem Gj{w:World}{ν:bd}:∀{ct:List ah} {bc:List Value},cN w ν ct bc→bc.length=ct.length
 |[],bc,h=>by simp only[cN]at h;subst h;rfl
 |p::ct,bc,h=>by simp only[cN]at h;obtain⟨u,cg,rfl,_,U⟩:=h;simp[Gj U]
theorem CT{P:cC}{w:World}{r:Nat}{o o':Obj}(ae:w.heap[r]? =some o)(aA:∀c e f,o≠ .cells c e f:=by simp):(setObj r o').run P w= .ok () {w with heap:=w.heap.setIfInBounds r o'}:=by simp only[setObj,Sem.run,ae]
def ei.makes(st:bq):ei→Bool
 | .box _ _ _| .alloc _ _ _| .bsl _ _ _ _| .bslm _ _ _ _ _| .mkmap _ _| .range _ _ _| .mks _ _ _ _ _ _=>true
 | .appm _ _ _ _ x _=>match ck st.t x with
  | .slice _ .nil _=>true
  |_=>false
 | .app _ _ _ x _=>match ck st.t x with
  | .slice _ .nil _=>true
  |_=>false
 |_=>false
theorem cP.forgetRow{C:fa}{st:bq}{a:Act}{w:World}{ν:bd}(aL:cP C st a w ν){k:aH}{ow:fM}(ad:look k st.e=some ow):cP C {st with e:=cx k ⟨ow.n,ow.el,ow.sz,none⟩ st.e} a w ν:=by
 have hU:∀g,(look g (cx k ⟨ow.n,ow.el,ow.sz,none⟩ st.e)).isSome→(look g st.e).isSome:=fun g a7=>by
  rw[iG]at a7;split at a7
  ·rename_i e;subst e;simp[ad]
  ·exact a7
 refine⟨⟨aL.good.alt,aL.good.box,aL.good.inj,fun g o a7=>?_,fun g fb n n' v v' bl bE a2=>aL.good.oinj g fb n n' v v' bl (hU g bE) (hU fb a2),fun g j n v bl bE=>aL.good.obx g j n v bl (hU g bE),aL.good.one,fun bl ae=>aL.good.otr bl (ae.imp id (fun⟨g,n,v,bE,a2⟩=>⟨g,n,v,hU g bE,a2⟩))⟩,aL.fr,aL.defers,aL.size,aL.slot,aL.new⟩;simp only at a7;rw[iG]at a7;split at a7
 ·rename_i e;subst e;cases a7;obtain⟨v,us,a6,bu,bV,_⟩:=aL.good.own k ow ad;exact⟨v,us,a6,bu,bV,fun xs ab=>by cases ab⟩
 ·exact aL.good.own g o a7
theorem Us{w:World}{base el sz n:Nat}{v:Value}{us:List Value}(h:w.ownsRow base el sz v n us)(aA:0<n):∃b cap,v= .slice (some ⟨b,0,none⟩) n cap:=by
 rcases h.2 with⟨ak,aB⟩|⟨bb,cap,cur,f1,_⟩
 ·omega
 ·exact⟨_,_,f1⟩
theorem Gf{w:World}{ν:bd}{sz:Nat}:∀{xs:List ah} {us:List Value} {i:Nat} {q gx:ah} {e4:Value},dy w ν sz xs us→xs[i]? =some q→ba w ν gx e4→e4.cells.size=sz→(∀c∈e4.cells.toList,c.oneCell'=true)→dy w ν sz (xs.set i gx) (us.take (i*sz)++e4.cells.toList++us.drop (i*sz+sz))
 |[],_,_,_,_,_,_,bo,_,_,_=>by simp at bo
 |x::xs,us,0,q,gx,e4,h,bo,aL,ag,aw=>by
  simp only[dy]at h;obtain⟨u,cg,rfl,⟨J,U,ao⟩,bZ⟩:=h;have au:u.cells.toList.length=sz:=by simpa using U
  simp only[List.set_cons_zero,dy];refine⟨e4,cg,?_,⟨aL,ag,aw⟩,bZ⟩;simp[←au]
 |x::xs,us,i+1,q,gx,e4,h,bo,aL,ag,aw=>by
  simp only[dy]at h;obtain⟨u,cg,rfl,⟨J,U,ao⟩,bZ⟩:=h;have au:u.cells.toList.length=sz:=by simpa using U
  have bT:=Gf bZ (by simpa using bo) aL ag aw;simp only[List.set_cons_succ,dy];refine⟨u,_,?_,⟨J,U,ao⟩,bT⟩;have e:(i+1)*sz+sz=u.cells.toList.length+(i*sz+sz):=by rw[au,Nat.succ_mul];omega
  rw[Wb _ _ _ _ au,e,←List.drop_drop];simp
theorem ajT{w:World}{ν:bd}{q:ah}{v:Value}(bo:ba w ν q v)(ag:dY q=true){cs:List ah}{us:List Value}(ax:c5 w ν cs us){f:Nat}(aI:f+us.length≤v.cells.size)(cF:us≠[]):
  ∃v',ba w ν (mx q f cs) v'∧v'.cells.toList=v.cells.toList.take f++us++v.cells.toList.drop (f+us.length)∧v'.cells.size=v.cells.size∧∀c∈v'.cells.toList,c.oneCell'=true:=by
 have hlen:=o7 ax;have lf:=ui bo ag;by_cases bF:∃eH,q= .agg eH
 ·obtain⟨eH,rfl⟩:=bF;simp only[ba]at bo;obtain⟨bc,rfl,kH⟩:=bo;simp only[pc]at aI⊢;have kj:c5 w ν (nD eH f cs) (bc.toList.take f++us++bc.toList.drop (f+us.length)):=by unfold nD;rw[hlen];exact xR (xR (CO f kH) ax) (z8 _ kH)
  refine⟨.agg (bc.toList.take f++us++bc.toList.drop (f+us.length)).toArray,by simp only[mx,ba];exact⟨_,rfl,by simpa using kj⟩,by simp[pc],?_,fun c hp=>?_⟩
  ·simp[pc];omega
  ·exact Aa kj c (by simpa[pc]using hp)
 ·have mM:∀cs,q≠ .agg cs:=fun cs e=>bF ⟨cs,e⟩;obtain⟨J,U⟩:=LC bo ag mM;rw[U]at aI⊢;match us,cF,ax with
  |u::cg,_,ax=>
   simp at aI;obtain⟨rfl,rfl⟩:f=0∧cg=[]:=⟨by omega,List.length_eq_zero_iff.1 (by omega)⟩;match cs,ax,hlen with
   |[c],ax,_=>
    simp only[c5]at ax;obtain⟨vY,fq,ak,⟨I2,Rp⟩,_⟩:=ax;cases ak;have hu:u.cells= #[u]:=by cases u<;>first|rfl|cases Rp
    have zb:mx q 0 [c]=c:=by cases q<;>first|rfl|exact absurd rfl (mM _)
    rw[zb];refine⟨u,I2,by simp[hu],by simp[hu],fun c hp=>?_⟩;rw[hu]at hp;simp at hp;subst hp;exact Rp
theorem akt{α:Type}(A us:List α)(a f sz N:Nat)(J:f+us.length≤sz)(U:a+sz≤N)(ao:N≤A.length):
  ((A.take (a+f)++us++A.drop (a+f+us.length)).toArray.toList).take N=(A.take N).take a++((((A.take N).drop a).take sz).take f++us++(((A.take N).drop a).take sz).drop (f+us.length))++(A.take N).drop (a+sz):=by
 have ak:(A.take N).take a++(((A.take N).drop a).take sz).take f=A.take (a+f):=by rw[List.take_take (i:=f),Nat.min_eq_left (show f≤sz by omega),←List.take_add,List.take_take,Nat.min_eq_left (by omega)]
 have aB:(((A.take N).drop a).take sz).drop (f+us.length)++(A.take N).drop (a+sz)=(A.take N).drop (a+f+us.length):=by
  have au:f+us.length≤(((A.take N).drop a).take sz).length:=by simp;omega
  have fj:(A.take N).drop (a+sz)=((A.take N).drop a).drop sz:=by rw[List.drop_drop]
  rw[fj,←List.drop_append_of_le_length au,List.take_append_drop,List.drop_drop];congr 1;omega
 have bj:(A.take N).drop (a+f+us.length)=(A.drop (a+f+us.length)).take (N-(a+f+us.length)):=by rw[List.drop_take]
 have au:(A.take (a+f)++us).length=a+f+us.length:=by simp;omega
 simp only[List.append_assoc]at*;rw[aB,bj,←List.append_assoc (lG a _),ak];have nY:N=(A.take (a+f)++us).length+(N-(a+f+us.length)):=by rw[au];omega
 rw[←List.append_assoc,←List.append_assoc];conv=>lhs;rw[nY,List.take_length_add_append]
theorem cP.storeRow{P:cC}{C:fa}{st:bq}{a:Act}{w:World}{ν:bd}(h:cP C st a w ν){k:aH}{n el sz:Nat}{xs:List ah}(ad:look k st.e=some ⟨n,el,sz,some xs⟩){i f:Nat}{u:Value}(ab:ba w ν (.rptr sz k n i f) u){q:ah}(bo:xs[i]? =some q)(ag:dY q=true)
  {cs:List ah} {us:List Value} (ax:c5 w ν cs us) (aI:f+us.length≤(cells q).length) (cF:us≠[]):
  ∃bl off l7,u= .pointer (some ⟨bl,off,none⟩)∧(storeCells ⟨bl,off,none⟩ us).run P w= .ok () (w.setRow bl l7)∧∃bp,cP C {st with e:=cx k ⟨n,el,sz,some (xs.set i (mx q f cs))⟩ st.e} a (w.setRow bl l7) bp:=by
 simp only[ba]at ab;obtain⟨_,hi,n',e4,J,U,ao⟩:=ab;obtain⟨v,fq,a6,bu,bV,cW⟩:=h.good.own k _ ad;rw[J]at a6;simp only[dG,jj]at a6;obtain⟨rfl,rfl⟩:=a6;obtain⟨bl,ae,rfl⟩:=ao rfl;obtain⟨da,nB,uc⟩:=cW xs rfl;simp only at da nB;obtain⟨v,dI,eY,kJ⟩:=Gd i nB bo;have yT:=o7 (ui dI ag);have aek:(cells q).length=sz:=by rw[←yT];simpa using eY
 have Rz:f+us.length≤sz:=by rw[←aek];exact aI
 have hmul:i*sz+sz≤n'*sz:=by have:=Nat.mul_le_mul_right sz (show i+1≤n' from hi);rwa[Nat.succ_mul]at this
 rcases bu.2 with⟨ak,aB⟩|⟨g,cap,cur,rfl,u0,Jd,Jk,adn,dq,Sf⟩
 ·rw[ak]at ae;simp[nK]at ae
 simp only[nK,dG]at ae;subst ae;simp only at Sf dq Jk Jd;have yS:n'*sz≤cur.size:=by rw[dq];exact Nat.mul_le_mul_right sz Jk
 have dd:=run_storeCells_at P g (i*sz+f) el us 0 cur w Jd (by omega) (Aa ax);simp only[Nat.add_zero]at dd;refine⟨g,i*sz+f,_,rfl,dd,?_⟩;generalize wV:(cur.toList.take (i*sz+f)++us++cur.toList.drop (i*sz+f+us.length)).toArray=l7;obtain⟨v',cM,dn,iI,tZ⟩:=ajT dI ag ax (f:=f) (by rw[eY];exact Rz) cF;have mi:=Gf nB bo cM (by rw[iI,eY]) tZ;have hlen:fq.length=n'*sz:=bu.1;have ad7:l7.toList.take (n'*sz)=fq.take (i*sz)++v'.cells.toList++fq.drop (i*sz+sz):=by rw[←wV,dn,kJ,←Sf];exact akt cur.toList us (i*sz) f sz (n'*sz) Rz hmul (by simpa using yS)
 have adp:l7.size=cap*sz:=by rw[←wV,←dq];simp;omega
 have an7:(xs.set i (mx q f cs)).length=n':=by simp[da]
 obtain⟨aiu,_,_⟩:=h.setRowM (w':=w.setRow g l7) ad rfl J (bl:=g) rfl (v':= .slice (some ⟨g,0,none⟩) n' cap) rfl (xs':=xs.set i (mx q f cs)) (us:=fq.take (i*sz)++v'.cells.toList++fq.drop (i*sz+sz)) (.inl ⟨by simp[da],rfl⟩) rfl rfl rfl (fun j af=>setRow_other w g j l7 af) (setRow_size w g l7)
  ⟨by rw[sJ mi],.inr ⟨g,cap,l7,by simp[da],Nat.zero_le _,setRow_heap w g cur l7 el _ Jd,by simpa[da]using Jk,adn,adp,by simpa[da]using ad7⟩⟩ mi
 exact⟨_,by simpa[da]using aiu⟩
theorem afM(z:Array Value)(n:Nat)(h:0<z.size):(madeCells z ((n+1)*z.size)).toList=z.toList++(madeCells z (n*z.size)).toList:=by
 apply List.ext_getElem?;intro j;rw[List.getElem?_append];have he:(n+1)*z.size=n*z.size+z.size:=by rw[pj,Nat.one_mul]
 simp only[madeCells,sV,Array.length_toList,Array.getElem?_map];by_cases af:j<z.size
 ·rw[if_pos af,Array.getElem?_range,if_pos (by omega)];simp[Nat.mod_eq_of_lt af,af]
 ·rw[if_neg af,Array.getElem?_range,Array.getElem?_range];by_cases ad:j<n*z.size+z.size
  ·rw[if_pos (by omega),if_pos (by omega)];simp only[nM];rw[←Nat.mod_eq_sub_mod (by omega)]
  ·rw[if_neg (by omega),if_neg (by omega)]
theorem Tz{w:World}{ν:bd}{p:ah}{z:Value}(aL:ba w ν p z)(h:0<z.cells.size)(aw:∀c∈z.cells.toList,c.oneCell'=true):∀n,dy w ν z.cells.size (qK n p) (madeCells z.cells (n*z.cells.size)).toList
 |0=>by simp[dy,madeCells]
 |n+1=>by rw[afM _ _ h];simp only[List.replicate_succ,dy];exact⟨z,_,rfl,⟨aL,rfl,aw⟩,Tz aL h aw n⟩
theorem jD{P:cC}{bB:List (Nat×dB)}(aN:fN P bB=true){C:fa}{st st':bq}{a:Act}{w:World}{ν:bd}(aL:cP C st a w ν){i:ei}{o:Oper}(aw:CU C.N bB i o=true)
  {κ:aH} {n':Nat} {o₁:List aH} (tz:i.makes st=true→fresh st.n st.o κ) (di:i.makes st=true→∀j,fresh n' o₁ j→fresh st.n st.o j∧j≠κ) {c:Prop} (he:eA κ n' o₁ st i=some (c,st')) (ax:c) {K:Act→World→Prop} {Q:Exit→Act→World→Prop} (c9:∀bn w' bp,cP C st' bn w' bp→K bn w'):o.wp P a w K Q:=by
 obtain⟨dst,op,type,pos,after,guard⟩:=o;unfold CU at aw;dsimp only at aw;split at aw
 ·rename_i d key t;simp only[cA,dL,fH]at aw;obtain⟨rfl,U⟩:=aw;simp only[eA]at he;cases he;obtain⟨g1,g2⟩:=aL.newBox (aL.new _ (tz rfl)) (di rfl) (cs:=[.hdm 0 []]) (us:= #[]) 0 (by simp only[iY];exact⟨by simp[cN],⟨rfl,by simp,by simp⟩⟩);refine l3 (v:= .map (some w.heap.size)) (w':=w.alloc (.map #[] 0)) ?_ (c9 _ _ _ (g1.put (d:=some d) (by simpa[jd]using U) (p:= .gmap κ) ?_))
  ·simp only[execOp,Instr.makeMap,Option.map_none,fF,run_newObj,fK,gp];rfl
  ·simp[ba,bd.withBox]
 ·rename_i b9 x k v t gK gB pS;simp only[cA,dL]at aw;obtain⟨⟨⟨⟨rfl,J⟩,U⟩,ao⟩,a8⟩:=aw;have rx:=eh aL U;have uk:=eh aL ao;have xY:=eh aL a8;split at J
  ·rename_i sz kS mr oQ z aI;obtain⟨cG,hu,eV⟩:=iJ aN aI;have sc:cG= .map mr oQ:=by cases cG<;>simp[jV]at eV;obtain⟨rfl,rfl⟩:=eV;rfl
   subst sc;have lO:=JZ aN J;simp only[eA]at he;split at he
   ·rename_i m ab;rw[ab]at rx;simp only[ba]at rx;obtain⟨bl,cc,b4⟩:=rx;split at he
    ·rename_i cs dq;split at he
     ·rename_i cs' hm;cases he;obtain⟨ic,us,el,a6,bu,bV,cW,da⟩:=aL.good.box m cs dq;rw[cc]at a6;cases a6;unfold og at hm;split at hm
      ·rename_i clock borns kvs;split at hm
       ·cases hm
       rename_i u6;simp only[jB]at cW;simp only[iY]at da;have gT:=uo (P:=P) cW;have u1:=LH (P:=P) (w:=w) lO false uk (by simpa using u6);have bC:bl<w.heap.size:=(Array.getElem?_eq_some_iff.1 cW).1;have dD:∀(o':Obj) (cg:Array Value) (eH:List ah),(Instr.mapUpdate t (a.eval gK) (a.eval gB) (a.eval pS)).run P w= .ok () {w with heap:=w.heap.setIfInBounds bl o'}→jB eH cg el=o'→iY w ν eH cg.toList→some eH=some cs'→
         (⟨none,.mapUpdate t gK gB pS,type,pos,after,guard⟩:Oper).wp P a w K Q:=by
        intro o' cg eH iE BJ mi iB;cases iB;refine Dh (w':={w with heap:=w.heap.setIfInBounds bl o'}) ?_ (c9 _ _ _ (aL.setBox (w':={w with heap:=w.heap.setIfInBounds bl o'}) dq cc (us:=cg) (el:=el) rfl rfl rfl (fun j af=>?_) (by simp) ?_ mi).1)
        ·simp only[execOp,iE,fF,fK,gp]
        ·exact Array.getElem?_setIfInBounds_ne (kP af)
        ·rw[BJ];simp[bC]
       split at hm
       ·rename_i vt tF;obtain⟨j,u,cg,e,f1,f2,f3,f4,f5,f6,f7⟩:=Co lO uk xY borns kvs us.toList 0 _ da.1 da.2.len tF;refine dD (.map (fv borns cg).toArray clock) cg.toArray (.hdm clock borns::vt) ?_ (by simp[jB]) (by simp only[iY];exact⟨by simpa using f2,⟨by rw[f3];exact da.2.len,da.2.inc,da.2.lt⟩⟩) hm;have JB:(Instr.keyThatStays (((fv borns us.toList).toArray[j]?.map (·.key)).getD (a.eval gB)) (a.eval gB)).run P w= .ok (a.eval gB) w:=by
         have:((fv borns us.toList).toArray[j]?.map (·.key)).getD (a.eval gB)=e.key:=by simp[f4]
         rw[this];simp[Instr.keyThatStays,f6]
        simp only[Nat.zero_add]at f1;simp only[Instr.mapUpdate,fF,run_underlying hu,fK,b4,gT,u1,f1.run lO,gp,JB,CT cW];rw[f7];simp
       ·rename_i tF;have f1:=Co lO uk xY borns kvs us.toList 0 _ da.1 da.2.len tF;simp only at f1;have rh:us.toList.length=2*borns.length:=by rw[Gj da.1,da.2.len]
        refine dD (.map ((fv borns us.toList).toArray.push ⟨a.eval gB,a.eval pS,clock⟩) (clock+1)) (us.toList++[a.eval gB,a.eval pS]).toArray (.hdm (clock+1) (borns++[clock])::(kvs++[ck st.t k,ck st.t v])) ?_ (by simp only[jB,H9 borns us.toList clock _ _ rh];simp) ?_ hm
        ·simp only[Instr.mapUpdate,fF,run_underlying hu,fK,b4,gT,u1,f1.run lO,gp,CT cW]
        ·simp only[iY];refine⟨LB da.1 (by simp only[cN];exact⟨_,_,rfl,uk,_,_,rfl,xY,rfl⟩),⟨by simp[da.2.len];omega,?_,?_⟩⟩
         ·rw[List.pairwise_append];exact⟨da.2.inc,by simp,fun x ab y aG=>by simp at aG;subst aG;exact da.2.lt x ab⟩
         ·intro b ae;rcases kx.1 ae with ae|ae
          ·have:=da.2.lt b ae;omega
          ·simp at ae;omega
       ·cases hm
      ·cases hm
     ·cases he
    ·cases he
   ·cases he
  ·cases J
 ·rename_i b9 x k v t gK gB pS;simp only[cA,dL]at aw;obtain⟨⟨⟨⟨rfl,J⟩,U⟩,ao⟩,a8⟩:=aw;have rx:=eh aL U;have uk:=eh aL ao;have xY:=eh aL a8;split at J
  ·rename_i sz kS mr oQ z aI;obtain⟨cG,hu,eV⟩:=iJ aN aI;have sc:cG= .map mr oQ:=by cases cG<;>simp[jV]at eV;obtain⟨rfl,rfl⟩:=eV;rfl
   subst sc;have lO:=JZ aN J;simp only[eA]at he;split at he
   ·rename_i m ab;rw[ab]at rx;simp only[ba]at rx;obtain⟨bl,cc,b4⟩:=rx;split at he
    ·rename_i cs dq;split at he
     ·rename_i cs' hm;cases he;obtain⟨ic,us,el,a6,bu,bV,cW,da⟩:=aL.good.box m cs dq;rw[cc]at a6;cases a6;unfold og at hm;split at hm
      ·rename_i clock borns kvs;split at hm
       ·cases hm
       rename_i u6;simp only[jB]at cW;simp only[iY]at da;have gT:=uo (P:=P) cW;have u1:=LH (P:=P) (w:=w) lO false uk (by simpa using u6);have bC:bl<w.heap.size:=(Array.getElem?_eq_some_iff.1 cW).1;have dD:∀(o':Obj) (cg:Array Value) (eH:List ah),(Instr.mapUpdate t (a.eval gK) (a.eval gB) (a.eval pS)).run P w= .ok () {w with heap:=w.heap.setIfInBounds bl o'}→jB eH cg el=o'→iY w ν eH cg.toList→some eH=some cs'→
         (⟨none,.mapUpdate t gK gB pS,type,pos,after,guard⟩:Oper).wp P a w K Q:=by
        intro o' cg eH iE BJ mi iB;cases iB;refine Dh (w':={w with heap:=w.heap.setIfInBounds bl o'}) ?_ (c9 _ _ _ (aL.setBox (w':={w with heap:=w.heap.setIfInBounds bl o'}) dq cc (us:=cg) (el:=el) rfl rfl rfl (fun j af=>?_) (by simp) ?_ mi).1)
        ·simp only[execOp,iE,fF,fK,gp]
        ·exact Array.getElem?_setIfInBounds_ne (kP af)
        ·rw[BJ];simp[bC]
       split at hm
       ·rename_i vt tF;obtain⟨j,u,cg,e,f1,f2,f3,f4,f5,f6,f7⟩:=Co lO uk xY borns kvs us.toList 0 _ da.1 da.2.len tF;refine dD (.map (fv borns cg).toArray clock) cg.toArray (.hdm clock borns::vt) ?_ (by simp[jB]) (by simp only[iY];exact⟨by simpa using f2,⟨by rw[f3];exact da.2.len,da.2.inc,da.2.lt⟩⟩) hm;have JB:(Instr.keyThatStays (((fv borns us.toList).toArray[j]?.map (·.key)).getD (a.eval gB)) (a.eval gB)).run P w= .ok (a.eval gB) w:=by
         have:((fv borns us.toList).toArray[j]?.map (·.key)).getD (a.eval gB)=e.key:=by simp[f4]
         rw[this];simp[Instr.keyThatStays,f6]
        simp only[Nat.zero_add]at f1;simp only[Instr.mapUpdate,fF,run_underlying hu,fK,b4,gT,u1,f1.run lO,gp,JB,CT cW];rw[f7];simp
       ·rename_i tF;have f1:=Co lO uk xY borns kvs us.toList 0 _ da.1 da.2.len tF;simp only at f1;have rh:us.toList.length=2*borns.length:=by rw[Gj da.1,da.2.len]
        refine dD (.map ((fv borns us.toList).toArray.push ⟨a.eval gB,a.eval pS,clock⟩) (clock+1)) (us.toList++[a.eval gB,a.eval pS]).toArray (.hdm (clock+1) (borns++[clock])::(kvs++[ck st.t k,ck st.t v])) ?_ (by simp only[jB,H9 borns us.toList clock _ _ rh];simp) ?_ hm
        ·simp only[Instr.mapUpdate,fF,run_underlying hu,fK,b4,gT,u1,f1.run lO,gp,CT cW]
        ·simp only[iY];refine⟨LB da.1 (by simp only[cN];exact⟨_,_,rfl,uk,_,_,rfl,xY,rfl⟩),⟨by simp[da.2.len];omega,?_,?_⟩⟩
         ·rw[List.pairwise_append];exact⟨da.2.inc,by simp,fun x ab y aG=>by simp at aG;subst aG;exact da.2.lt x ab⟩
         ·intro b ae;rcases kx.1 ae with ae|ae
          ·have:=da.2.lt b ae;omega
          ·simp at ae;omega
       ·cases hm
      ·cases hm
     ·cases he
    ·cases he
   ·cases he
  ·cases J
 ·rename_i d key x t gK;simp only[cA,dL,fH]at aw;obtain⟨⟨⟨rfl,U⟩,J⟩,ao⟩:=aw;have rx:=eh aL ao;split at J
  ·rename_i sz kS mr oQ z aI;obtain⟨cG,hu,eV⟩:=iJ aN aI;have sc:cG= .map mr oQ:=by cases cG<;>simp[jV]at eV;obtain⟨rfl,rfl⟩:=eV;rfl
   subst sc;simp only[eA]at he;split at he
   ·rename_i m ab;rw[ab]at rx;have ajY:=rx;simp only[ba]at rx;obtain⟨bl,cc,b4⟩:=rx;split at he
    ·rename_i cs dq;split at he
     ·rename_i cs' hm;cases he;obtain⟨ic,us,el,a6,bu,bV,cW,da⟩:=aL.good.box m cs dq;rw[cc]at a6;cases a6;unfold vM at hm;split at hm
      ·rename_i clock borns kvs;cases hm;simp only[jB]at cW;have gT:=uo (P:=P) cW;obtain⟨g1,g2⟩:=aL.newBox (aL.new _ (tz rfl)) (di rfl) (cs:=[.hdi clock [] clock,.gmap m]) (us:= #[a.eval gK]) 0 (by simp only[iY,cN];exact⟨_,_,rfl,ajY,rfl⟩);have BJ:jB [.hdi clock [] clock,.gmap m] #[a.eval gK] 0= .mapIter (some bl) clock #[] clock:=by simp[jB,b4]
       rw[BJ]at g1 g2;refine l3 (v:= .pointer (some ⟨w.heap.size,0,none⟩)) (w':=w.alloc (.mapIter (some bl) clock #[] clock)) ?_ (c9 _ _ _ (g1.put (d:=some d) (by simpa[jd]using U) (p:= .ptr κ 0) g2))
       ·simp only[execOp];refine Dc ?_;simp only[Instr.range,fF,run_underlying hu,fK,b4,gT,gp,run_newObj];rfl
      ·cases hm
     ·cases he
    ·cases he
   ·cases he
  ·cases J
 ·rename_i d arM;simp only[cA,dL,fH]at aw;obtain⟨⟨J,U⟩,ao⟩:=aw;subst J;simp only[eA]at he;split at he
  ·rename_i cm p aJ;cases he;obtain⟨v,g1,g2⟩:=akX (o:=⟨some d,op,type,pos,after,guard⟩) aN aL ao aJ ax;refine l3 g1 (c9 _ _ ν ?_);exact aL.put (d:=some d) (by simpa[jd]using U) g2
  ·cases he
 ·rename_i d key x el o';simp only[cA,dL,fH]at aw;obtain⟨⟨J,U⟩,ao⟩:=aw;subst J;simp only[eA]at he;cases he;have ab:=eh aL ao;have ll:=ui ab ax;obtain⟨g1,g2⟩:=aL.newBox (aL.new _ (tz rfl)) (di rfl) el (by rw[ub (Ab ll)];exact ll);rw[ua (Ab ll)]at g1 g2;refine l3 (v:= .pointer (some ⟨w.heap.size,0,none⟩)) (w':=w.alloc (.cells (a.eval o').cells el)) ?_ (c9 _ _ _ (g1.put (d:=some d) (by simpa[jd]using U) (p:= .ptr κ 0) ?_))
  ·simp only[execOp,Instr.box,newVar,newRow,fF,run_newObj,fK,gp];rfl
  ·simpa only[ba]using g2
 ·rename_i d key z el;simp only[cA,dL,fH]at aw;obtain⟨⟨J,U⟩,ao⟩:=aw;subst J;simp only[eA]at he;cases he;split at ao
  ·rename_i f aI;have bD:=MI ao;obtain⟨b5,kN,z2,z3⟩:=Me aN aI w;rw[←bD]at z2;obtain⟨_,ll⟩:=MH w ν z2;obtain⟨g1,g2⟩:=aL.newBox (aL.new _ (tz rfl)) (di rfl) el (by rw[ub (Ab ll)];exact ll);rw[ua (Ab ll)]at g1 g2;refine l3 (v:= .pointer (some ⟨w.heap.size,0,none⟩)) (w':=w.alloc (.cells b5.cells el)) ?_ (c9 _ _ _ (g1.put (d:=some d) (by simpa[jd]using U) (p:= .ptr κ 0) ?_))
   ·simp only[execOp,Instr.alloc,newVar,newRow,fF,kN,run_newObj,fK,gp];rfl
   ·simpa only[ba]using g2
  ·cases ao
 ·rename_i sz x y t o' iX;simp only[cA,dL]at aw;obtain⟨⟨⟨J,U⟩,ao⟩,a8⟩:=aw;subst J;split at U
  ·rename_i f aI;simp only[dL]at U;simp only[eA]at he;split at he
   ·rename_i k off ab;split at he
    ·rename_i cs dq;cases he;obtain⟨iz,bI,ch,dc⟩:=ax;have rx:=eh aL ao;rw[ab]at rx;simp only[ba]at rx;obtain⟨bl,cc,b4⟩:=rx;have lB:=eh aL a8;have ug:=ui lB bI;have um:=o7 ug;obtain⟨ic,us,el,a6,bu,bV,cW,da⟩:=aL.good.box k cs dq;rw[cc]at a6;cases a6;rw[ua iz]at cW;rw[ub iz]at da;have av:=o7 da;obtain⟨_,ef⟩:=ux aN aI w;have tI:(a.eval iX).cells.size=sz:=by rw[ch]at um;simpa using um
     have dd:=run_storeCells_at (P:=P) bl off el (a.eval iX).cells.toList 0 us w cW (by simp at av⊢;omega) (Aa ug);simp only[Nat.add_zero]at dd;refine Dh (w':=w.setRow bl (us.toList.take off++(a.eval iX).cells.toList++us.toList.drop (off+(a.eval iX).cells.toList.length)).toArray) ?_ (c9 _ _ _ (aL.storeBox dq cc iz ?_))
     ·simp only[execOp,Instr.storeAt,b4,Instr.sureAddr,storeVar,fF,gp,fK,ef,tI,U,ne_eq,not_true_eq_false,if_false,dd]
     ·simp only[nD];rw[um];exact xR (xR (CO off da) ug) (z8 _ da)
    ·cases he
   ·rename_i ab;generalize Jq:ck st.t x=px at he;unfold qF at he;split at he
    ·rename_i dF k n i r6;split at he
     ·rename_i n' el ja xs ad;split at he
      ·rename_i BI;obtain⟨rfl,rfl⟩:=BI;split at he
       ·rename_i q bo;cases he;obtain⟨iz,bI,ch,dc,ie⟩:=ax;have rx:=eh aL ao;rw[Jq]at rx;have lB:=eh aL a8;have ug:=ui lB bI;have um:=o7 ug;obtain⟨_,ef⟩:=ux aN aI w;have tI:(a.eval iX).cells.size=sz:=by rw[ch]at um;simpa using um
        obtain⟨bl,off,l7,BM,dd,bp,pC⟩:=aL.storeRow (P:=P) ad rx bo iz ug (by simpa[tI]using dc) (fun e=>by have:=e5 List.length e;simp[tI]at this;omega);refine Dh (w':=w.setRow bl l7) ?_ (c9 _ _ _ pC);simp only[execOp,Instr.storeAt,BM,Instr.sureAddr,storeVar,fF,gp,fK,ef,tI,U,ne_eq,not_true_eq_false,if_false,dd]
       ·cases he
      ·cases he
     ·cases he
    ·cases he
  ·cases U
 ·rename_i d sz el xs t len parts;simp only[cA,dL,fH]at aw;obtain⟨⟨⟨⟨⟨⟨J,U⟩,ao⟩,a8⟩,bZ⟩,c4⟩,ee⟩:=aw;subst J;subst bZ;split at ao
  ·rename_i fP aI;simp only[dL]at ao;subst ao;split at a8
   ·rename_i g a7;simp only[cA,dL,fH]at a8;obtain⟨rfl,fm⟩:=a8;simp only[eA]at he;cases he;obtain⟨us,g1,g2,g3⟩:=VJ aN aL aI rfl a7 ee ax c4;have lp:(w.alloc (.cells us el)).ownsRow w.heap.size el g.size (.slice (some ⟨w.heap.size,0,none⟩) xs.length xs.length) (xs.map (ck st.t)).length us.toList:=by
     refine⟨by simp[g3],.inr ⟨w.heap.size,xs.length,us,by simp,eR _,heap_alloc_new w _,by simp,?_,g3,?_⟩⟩
     ·simp only[maxLen];have:xs.length≤xs.length*g.size:=Nat.le_mul_of_pos_right _ fm;omega
     ·rw[hl];simp[g3]
    obtain⟨dI,eY⟩:=aL.newRow (k:=κ) (xs:=xs.map (ck st.t)) (.inl (aL.new _ (tz rfl))) (World.grownBy_alloc w _ none) lp g2
     (by have:xs.length≤xs.length*g.size:=Nat.le_mul_of_pos_right _ fm;simp only[lim,List.length_map];omega) (di rfl)
    simp only[List.length_map]at dI eY;refine l3 (v:= .slice (some ⟨w.heap.size,0,none⟩) xs.length xs.length) (w':=w.alloc (.cells us el)) ?_ (c9 _ _ _ (dI.put (d:=some d) (by simpa[jd]using U) (p:= .slice g.size (.own κ) (xs.map (ck st.t))) eY));have bJ:(parts.map fun(x:Nat×Operand)=>(x.1,a.eval x.2))=(parts.toList.map fun(x:Nat×Operand)=>(x.1,a.eval x.2)).toArray:=by apply Array.ext';simp
    simp only[execOp];refine Dc ?_;rw[←g1];congr 2
   ·cases a8
  ·cases ao
 ·rename_i d sz el x y o' iX t dJ;simp only[cA,dL,fH]at aw;obtain⟨⟨⟨⟨⟨⟨J,U⟩,ao⟩,a8⟩,bZ⟩,c4⟩,ee⟩:=aw;subst J;subst ao;split at a8
  ·rename_i fP aI;simp only[dL]at a8;subst a8;split at bZ
   ·rename_i g a7;simp only[cA,dL,fH]at bZ;obtain⟨⟨rfl,fm⟩,hby⟩:=bZ;have rx:=eh aL c4;have lB:=eh aL ee;have mf:∀v' w',(Builtin.append_ #[t,t] type #[a.eval o',a.eval iX]).run P w= .ok v' w'→(execOp a.eval ⟨some d,.call ⟨.builtin .append,⟨[o',iX]⟩,⟨[t,t]⟩⟩,type,pos,after,guard⟩).run P w= .ok (.value v') w':=by intro v' w' iE;simp only[execOp,resolve,invoke,builtin,fF,gp,fK,List.map_toArray,gE,pe];rw[iE];rfl
    obtain⟨fp,b8,z,ak,aB,bj,de,gS,hG,qO,qP⟩:=(uz aN a7).ex;obtain⟨eH,iB,eV⟩:=iJ aN aI;obtain rfl:=r1 eV;simp only[eA]at he;split at he
    ·rename_i dF tag xs ja kK ys ab aG;split at he
     ·rename_i e8;obtain⟨rfl,e8⟩:=e8;subst e8;rw[ab]at rx;rw[aG]at lB;simp only[ba]at rx lB;obtain⟨⟨td,oM,rM,cx1,⟨PM,PN⟩,cx4⟩,rxn,rxo,rxt⟩:=rx;obtain⟨⟨nl,lb,vy,cy1,⟨PO,PQ⟩,cy4⟩,_⟩:=lB;split at he
      ·rename_i k;split at he
       ·rename_i ow ad;cases he;obtain⟨bI,ch,dc,ie⟩:=ax;subst ch;obtain⟨n0,vY,dI,eY,kJ⟩:=rxo k rfl;obtain⟨v0,fq,a6,bu,bV,_⟩:=aL.good.own k ow ad;rw[dI]at a6;simp only[dG,jj]at a6;obtain⟨rfl,rfl⟩:=a6;have lW:a.eval o'=vY:=kJ bI.symm;by_cases iS:ys=[]
        ·subst iS;rw[vy,rM]at mf;have iE:=Gq (P:=P) (w:=w) (ty:=type) iB ak td xs.length oM cx1 nl lb;refine l3 (mf _ _ (by simpa using iE)) (c9 _ _ ν ?_);have dd:{st with t:=put d (.slice ow.sz (.own k) (xs++[])) st.t,e:=cx k ⟨xs.length+([]:List ah).length,ow.el,ow.sz,none⟩ st.e}=({st with e:=cx k ⟨ow.n,ow.el,ow.sz,none⟩ st.e,t:=put d (.slice ow.sz (.own k) xs) st.t}:bq):=by simp[bI]
         rw[←dc,dd];have mh:=aL.forgetRow ad;refine mh.put (d:=some d) (by simpa[jd]using U) (p:= .slice ow.sz (.own k) xs) ?_;simp only[ba];rw[←dc]at cx4;exact⟨⟨td,oM,rfl,cx1,⟨PM,PN⟩,cx4⟩,fun e=>(by cases e),(fun g e=>by cases e;exact⟨_,_,dI,eY,fun e=>by rw[←rM];exact kJ e⟩),fun _ _ e=>(by cases e),fun _ e=>(by cases e)⟩
        ·have hyp:0<ys.length:=by cases ys<;>simp at iS⊢
         rcases cy4 with cy4|⟨kS,na,gY,rfl,xx,l8⟩
         ·exact absurd cy4 iS
         ·have ju:=sJ l8;have rb:∀j u,gY[j]? =some u→w.cell? ((⟨kS,na,none⟩:Addr).add j)=some u:=fun j u af=>by rw[oI];exact(tR xx af).2
          have q5:(xs.length+ys.length)*fp.bytes≤140737488355328:=by
           have lg:fp.bytes≤2048:=by rw[de];exact hby
           have oW:(xs.length+ys.length)*fp.bytes≤(xs.length+ys.length)*2048:=Nat.mul_le_mul_left _ lg;simp only[lim]at ie;omega
          have mg:xs.length+ys.length≤maxLen:=by simp only[lim]at ie;simp only[maxLen];omega
          rw[vy]at mf;have vh:fq.length=ow.n*ow.sz:=bu.1;have vk:z.cells.size=fp.size:=by rw[qP,bj]
          have By:(∀cur,eQ→cur=(0:Nat))→(∃v' w',(Builtin.append_ #[t,t] type #[a.eval o',.slice (some ⟨kS,na,none⟩) ys.length lb]).run P w= .ok v' w'∧w'.ownsRow w.heap.size ow.el fp.size v' (xs.length+ys.length) (fq++gY)∧w.grownBy w' none∧dy w ν fp.size xs fq)→
            (⟨some d,.call ⟨.builtin .append,⟨[o',iX]⟩,⟨[t,t]⟩⟩,type,pos,after,guard⟩:Oper).wp P a w K Q:=by
           intro _ cO;obtain⟨v',w',f1,f2,f3,f4⟩:=cO;have Ev:dy w ν fp.size (xs++ys) (fq++gY):=CM f4 (by rw[bj];exact l8);obtain⟨cM,dn⟩:=aL.newRow (k:=k) (xs:=xs++ys) (.inr ⟨ow,ad,by rw[bI];simp;omega⟩) f3 (by simpa using f2) Ev (by simpa using ie) (n':=st.n) (o':=st.o)
            (fun j af=>⟨af,fun e=>by subst e;have:=(aL.new _ af).2.1;rw[dI]at this;cases this⟩)
           refine l3 (mf _ _ f1) (c9 _ _ ((ν.withOwn k (xs++ys).length v').withRowOf k v' (xs++ys).length ((xs++ys).length*fp.size)) ?_);have:=cM.put (d:=some d) (by simpa[jd]using U) dn;simpa[bj,eK]using this
          rcases bu.2 with⟨nb,xM⟩|⟨bl,cap,cur,nb,xM,zR,K0,K1,K2,FQ⟩
          ·
           have zi:xs=[]:=List.eq_nil_of_length_eq_zero (by omega);have JE:fq=[]:=List.eq_nil_of_length_eq_zero (by rw[vh,xM];simp);subst zi;subst JE;refine By (fun _ h=>h.elim) ?_;obtain⟨v',w',f1,f2,f3,_⟩:=run_append_own (P:=P) w w.heap.size t type ow.el fp z fp.size fp.bytes iB ak hG rfl rfl vk (by rw[bj];exact fm) (.slice none 0 0) 0 [] (World.ownsRow_nil w _ _ _)
            ⟨kS,na,none⟩ ys.length lb gY (by rw[ju,bj]) rb (xQ l8) (by simpa using mg) (by simpa using q5) (eR _)
           refine⟨v',w',by rw[lW,nb];exact f1,by simpa using f2,by simpa[nK]using f3,by simp[dy]⟩
          ·have adU:lv w ν.A bl 0 fq∧dy w ν fp.size xs fq∧True:=by
            rw[lW,nb]at rM;rcases cx4 with cx4|⟨bb,apP,Mk,f1,f2,f3⟩
            ·subst cx4;have:fq=[]:=List.eq_nil_of_length_eq_zero (by rw[vh,bI];simp);subst this;exact⟨trivial,by simp[dy],trivial⟩
            ·subst f1;injection rM with vx1 vx2 vx3;injection vx1 with vx1;injection vx1 with vx1 vx4;subst vx1;subst vx4;have heq:Mk=fq:=by
              apply List.ext_getElem?;intro j;have rh:Mk.length=fq.length:=by rw[sJ f3,vh,bI,dc]
              by_cases af:j<Mk.length
              ·have J:=(tR f2 (cf af)).2;rw[Nat.zero_add]at J;have U:=bu.cells (g:=bl) (by rw[nb];rfl) j fq[j] (cf (by omega));rw[oI,Nat.zero_add,J]at U;rw[cf af,cf (by omega)];exact U
              ·rw[p1 (by omega),p1 (by omega)]
             subst heq;exact⟨f2,by rw[bj];exact f3,trivial⟩
           obtain⟨w5,n3,_⟩:=adU;by_cases re:xs.length+ys.length≤cap
           ·have an2:cur.size=cap*ow.sz:=K2;have hmul:(xs.length+ys.length)*ow.sz≤cap*ow.sz:=Nat.mul_le_mul_right _ re;rw[pj]at hmul;have f1:=run_append_room (P:=P) w t type ow.el fp iB ak bl xs.length cap cur zR ⟨kS,na,none⟩ ys.length lb gY (by rw[ju,bj]) rb (xQ l8) re (by rw[ju,bj,←dc];omega);obtain⟨cM,dn⟩:=aL.inPlace ad (bl:=bl) (cap:=cap) (cur:=cur) (by rw[dI,←nb]) zR K1 K2 (xs:=xs) (ys:=ys) (us:=fq) (ns:=gY) bI.symm FQ (by rw[dc,←bj];exact n3) (by rw[dc];exact l8) hyp (by rw[bI];exact re) ie;refine l3 (v:= .slice (some ⟨bl,0,none⟩) (ow.n+ys.length) cap) (w':=w.setRow bl (fq++gY++cur.toList.drop (ow.n*ow.sz+gY.length)).toArray) (mf _ _ ?_)
             (c9 _ _ (ν.withRowOf k (.slice (some ⟨bl,0,none⟩) (ow.n+ys.length) cap) (ow.n+ys.length) ((ow.n+ys.length)*ow.sz)) ?_)
            ·rw[lW,nb,bI,f1,←FQ,bI,dc,bj]
            ·have:=cM.put (d:=some d) (by simpa[jd]using U) dn;simpa[bI,dc,eK]using this
           ·refine By (fun _ h=>h.elim) ?_;obtain⟨v',w',f1,f2,f3⟩:=run_append_arg_grows (P:=P) w t type ow.el fp z fp.size fp.bytes iB ak hG rfl rfl vk (by rw[bj];exact fm) ⟨bl,0,none⟩ xs.length cap fq (by rw[vh,bI,dc,bj])
             (fun j u af=>by rw[oI];exact(tR w5 af).2) ⟨kS,na,none⟩ ys.length lb gY (by rw[ju,bj]) rb (by omega) mg q5
            exact⟨v',w',by rw[lW,nb,bI];exact f1,f2,f3,n3⟩
       ·cases he
      ·cases he;have EG:=rxn rfl;have zi:xs=[]:=by rw[EG]at rM;injection rM with _ aB;exact List.eq_nil_of_length_eq_zero aB.symm
       subst zi;have xa:(ei.app d g.size el x y).makes st=true:=by simp only[ei.makes,ab]
       have vk:z.cells.size=fp.size:=by rw[qP,bj]
       rw[vy,EG]at mf;have dD:∀(v':Value) (w':World) (gY:List Value),(Builtin.append_ #[t,t] type #[.slice none 0 0,.slice nl ys.length lb]).run P w= .ok v' w'→w'.ownsRow w.heap.size el g.size v' ys.length gY→w.grownBy w' none→dy w ν g.size ys gY→
         (⟨some d,.call ⟨.builtin .append,⟨[o',iX]⟩,⟨[t,t]⟩⟩,type,pos,after,guard⟩:Oper).wp P a w K Q:=by
        intro v' w' gY f1 f2 f3 f4;obtain⟨cM,dn⟩:=aL.newRow (k:=κ) (xs:=ys) (.inl (aL.new _ (tz xa))) f3 f2 f4 ax (di xa);exact l3 (mf _ _ f1) (c9 _ _ _ (cM.put (d:=some d) (by simpa[jd]using U) dn))
       by_cases iS:ys=[]
       ·subst iS;exact dD _ w [] (Gq iB ak none 0 0 (eR _) nl lb) (World.ownsRow_nil w _ _ _) (amz w _) (by simp[dy])
       ·rcases cy4 with cy4|⟨kS,na,gY,rfl,xx,l8⟩
        ·exact absurd cy4 iS
        ·have ju:=sJ l8;have rb:∀j u,gY[j]? =some u→w.cell? ((⟨kS,na,none⟩:Addr).add j)=some u:=fun j u af=>by rw[oI];exact(tR xx af).2
         have q5:ys.length*fp.bytes≤140737488355328:=by
          have J:fp.bytes≤2048:=by rw[de];exact hby
          have U:ys.length*fp.bytes≤ys.length*2048:=Nat.mul_le_mul_left _ J;simp only[lim]at ax;omega
         have mg:ys.length≤maxLen:=by simp only[lim]at ax;simp only[maxLen];omega
         obtain⟨v',w',f1,f2,f3,_⟩:=run_append_own (P:=P) w w.heap.size t type el fp z fp.size fp.bytes iB ak hG rfl rfl vk (by rw[bj];exact fm) (.slice none 0 0) 0 [] (World.ownsRow_nil w _ _ _)
          ⟨kS,na,none⟩ ys.length lb gY (by rw[ju,bj]) rb (xQ l8) (by simpa using mg) (by simpa using q5) (eR _)
         exact dD v' w' gY f1 (by rw[←bj];simpa using f2) (by simpa[nK]using f3) l8
      ·cases he
     ·cases he
    ·cases he
   ·cases bZ
  ·cases a8
 ·rename_i d key sz el xs t len parts;simp only[cA,dL,fH]at aw;obtain⟨⟨⟨⟨⟨⟨J,U⟩,ao⟩,a8⟩,bZ⟩,c4⟩,ee⟩:=aw;subst J;subst bZ;split at ao
  ·rename_i fP aI;simp only[dL]at ao;subst ao;split at a8
   ·rename_i g a7;simp only[cA,dL,fH]at a8;obtain⟨rfl,fm⟩:=a8;simp only[eA]at he;cases he;obtain⟨us,g1,g2,g3⟩:=VJ aN aL aI rfl a7 ee ax c4;have lp:(w.alloc (.cells us el)).ownsRow w.heap.size el g.size (.slice (some ⟨w.heap.size,0,none⟩) xs.length xs.length) (xs.map (ck st.t)).length us.toList:=by
     refine⟨by simp[g3],.inr ⟨w.heap.size,xs.length,us,by simp,eR _,heap_alloc_new w _,by simp,?_,g3,?_⟩⟩
     ·simp only[maxLen];have:xs.length≤xs.length*g.size:=Nat.le_mul_of_pos_right _ fm;omega
     ·rw[hl];simp[g3]
    obtain⟨dI,eY⟩:=aL.newRowM (k:=κ) (xs:=xs.map (ck st.t)) (.inl (aL.new _ (tz rfl))) (World.grownBy_alloc w _ none) lp g2
     (by have:xs.length≤xs.length*g.size:=Nat.le_mul_of_pos_right _ fm;simp only[lim,List.length_map];omega) (di rfl)
    simp only[List.length_map]at dI eY;refine l3 (v:= .slice (some ⟨w.heap.size,0,none⟩) xs.length xs.length) (w':=w.alloc (.cells us el)) ?_ (c9 _ _ _ (dI.put (d:=some d) (by simpa[jd]using U) (p:= .row g.size κ xs.length) (eY ⟨_,_,rfl⟩)));have bJ:(parts.map fun(x:Nat×Operand)=>(x.1,a.eval x.2))=(parts.toList.map fun(x:Nat×Operand)=>(x.1,a.eval x.2)).toArray:=by apply Array.ext';simp
    simp only[execOp];refine Dc ?_;rw[←g1];congr 2
   ·cases a8
  ·cases ao
 ·rename_i d key sz el x y o' iX t dJ;simp only[cA,dL,fH]at aw;obtain⟨⟨⟨⟨⟨⟨J,U⟩,ao⟩,a8⟩,bZ⟩,c4⟩,ee⟩:=aw;subst J;subst ao;split at a8
  ·rename_i fP aI;simp only[dL]at a8;subst a8;split at bZ
   ·rename_i g a7;simp only[cA,dL,fH]at bZ;obtain⟨⟨rfl,fm⟩,hby⟩:=bZ;have rx:=eh aL c4;have lB:=eh aL ee;have mf:∀v' w',(Builtin.append_ #[t,t] type #[a.eval o',a.eval iX]).run P w= .ok v' w'→(execOp a.eval ⟨some d,.call ⟨.builtin .append,⟨[o',iX]⟩,⟨[t,t]⟩⟩,type,pos,after,guard⟩).run P w= .ok (.value v') w':=by intro v' w' iE;simp only[execOp,resolve,invoke,builtin,fF,gp,fK,List.map_toArray,gE,pe];rw[iE];rfl
    obtain⟨fp,b8,z,ak,aB,bj,de,gS,hG,qO,qP⟩:=(uz aN a7).ex;obtain⟨eH,iB,eV⟩:=iJ aN aI;obtain rfl:=r1 eV;have vk:z.cells.size=fp.size:=by rw[qP,bj]
    simp only[eA]at he;split at he
    ·
     rename_i ys aJ;cases he;unfold rY at aJ;split at aJ
     ·rename_i dF xs ja kK amq ab aG;split at aJ
      ·rename_i e8;obtain⟨rfl,e8⟩:=e8;subst e8;cases aJ;rw[ab]at rx;rw[aG]at lB;simp only[ba]at rx lB;obtain⟨⟨td,oM,rM,cx1,⟨PM,PN⟩,cx4⟩,rxn,rxo,rxt⟩:=rx;obtain⟨⟨nl,lb,vy,cy1,⟨PO,PQ⟩,cy4⟩,_⟩:=lB;have EG:=rxn trivial;have xa:(ei.appm d key g.size el x y).makes st=true:=by simp only[ei.makes,ab]
       rw[vy,EG]at mf;have dD:∀(v':Value) (w':World) (gY:List Value),(Builtin.append_ #[t,t] type #[.slice none 0 0,.slice nl ys.length lb]).run P w= .ok v' w'→w'.ownsRow w.heap.size el g.size v' ys.length gY→w.grownBy w' none→dy w ν g.size ys gY→
         (⟨some d,.call ⟨.builtin .append,⟨[o',iX]⟩,⟨[t,t]⟩⟩,type,pos,after,guard⟩:Oper).wp P a w K Q:=by
        intro v' w' gY f1 f2 f3 f4;obtain⟨cM,dn⟩:=aL.newRowM (k:=κ) (xs:=ys) (.inl (aL.new _ (tz xa))) f3 f2 f4 ax.1 (di xa);exact l3 (mf _ _ f1) (c9 _ _ _ (cM.put (d:=some d) (by simpa[jd]using U) (dn (Us f2 (by cases ys<;>simp at ax⊢)))))
       by_cases iS:ys=[]
       ·subst iS;exact dD _ w [] (Gq iB ak none 0 0 (eR _) nl lb) (World.ownsRow_nil w _ _ _) (amz w _) (by simp[dy])
       ·rcases cy4 with cy4|⟨kS,na,gY,rfl,xx,l8⟩
        ·exact absurd cy4 iS
        ·have ju:=sJ l8;have rb:∀j u,gY[j]? =some u→w.cell? ((⟨kS,na,none⟩:Addr).add j)=some u:=fun j u af=>by rw[oI];exact(tR xx af).2
         have q5:ys.length*fp.bytes≤140737488355328:=by
          have J:fp.bytes≤2048:=by rw[de];exact hby
          have U:ys.length*fp.bytes≤ys.length*2048:=Nat.mul_le_mul_left _ J;simp only[lim]at ax;omega
         have mg:ys.length≤maxLen:=by simp only[lim]at ax;simp only[maxLen];omega
         obtain⟨v',w',f1,f2,f3,_⟩:=run_append_own (P:=P) w w.heap.size t type el fp z fp.size fp.bytes iB ak hG rfl rfl vk (by rw[bj];exact fm) (.slice none 0 0) 0 [] (World.ownsRow_nil w _ _ _)
          ⟨kS,na,none⟩ ys.length lb gY (by rw[ju,bj]) rb (xQ l8) (by simpa using mg) (by simpa using q5) (eR _)
         exact dD v' w' gY f1 (by rw[←bj];simpa using f2) (by simpa[nK]using f3) l8
      ·cases aJ
     ·split at aJ
      ·split at aJ
       ·split at aJ<;>cases aJ
       ·cases aJ
      ·cases aJ
     ·cases aJ
    ·
     rename_i k xs ys aJ;cases he;unfold rY at aJ;split at aJ
     ·split at aJ<;>cases aJ
     ·rename_i dF bM n ja kK amq ab aG;split at aJ
      ·rename_i e8;obtain⟨rfl,e8⟩:=e8;subst e8;split at aJ
       ·rename_i n' fP vT xs' ad;split at aJ
        ·rename_i tv;obtain⟨rfl,rfl,rfl⟩:=tv;cases aJ;rw[ab]at rx;rw[aG]at lB;simp only[ba]at rx lB;obtain⟨⟨bx,oM,rM⟩,rxl,n0,vY,dI,eY,kJ⟩:=rx;obtain⟨⟨nl,lb,vy,cy1,⟨PO,PQ⟩,cy4⟩,_⟩:=lB;obtain⟨v0,fq,a6,bu,bV,cW⟩:=aL.good.own k _ ad;rw[dI]at a6;simp only[dG,jj]at a6 bu;obtain⟨rfl,rfl⟩:=a6;have lW:a.eval o'=vY:=kJ rfl;obtain⟨da,nB,uc⟩:=cW xs rfl;simp only at da nB;have vh:fq.length=xs.length*g.size:=by rw[da];exact bu.1
         have jY:xs.length=n0:=da;by_cases iS:ys=[]
         ·subst iS;rw[vy,rM]at mf;have ll:n0≤oM:=by
           rcases bu.2 with⟨nb,xM⟩|⟨bl,cap,cur,nb,xM,zR,K0,_⟩
           ·rw[xM];exact Nat.zero_le _
           ·rw[←lW,rM]at nb;injection nb with _ _ e;rw[e];exact K0
          have iE:=Gq (P:=P) (w:=w) (ty:=type) iB ak (some ⟨bx,0,none⟩) n0 oM ll nl lb;refine l3 (mf _ _ (by simpa using iE)) (c9 _ _ ν ?_);have hU:∀fb,look fb (cx k ⟨n0,fP,g.size,some xs⟩ st.e)=look fb st.e:=fun fb=>by
           rw[iG];split
           ·rename_i e;subst e;rw[ad]
           ·rfl
          have mh:cP C {st with e:=cx k ⟨n0,fP,g.size,some xs⟩ st.e} a w ν:=
           ⟨⟨aL.good.alt,aL.good.box,aL.good.inj,fun g o a7=>aL.good.own g o (by rw[←hU g];exact a7),fun g fb n n' v v' bl bE a2=>aL.good.oinj g fb n n' v v' bl (by rw[←hU g];exact bE) (by rw[←hU fb];exact a2),
           fun g j n v bl bE=>aL.good.obx g j n v bl (by rw[←hU g];exact bE),aL.good.one,fun bl ae=>aL.good.otr bl (ae.imp id (fun⟨g,n,v,bE,a2⟩=>⟨g,n,v,by rw[←hU g];exact bE,a2⟩))⟩,aL.fr,aL.defers,aL.size,aL.slot,aL.new⟩
          have ao:=mh.put (d:=some d) (by simpa[jd]using U) (p:= .row g.size k n0) (v:= .slice (some ⟨bx,0,none⟩) n0 oM) (by simp only[ba];exact⟨⟨_,_,rfl⟩,rxl,_,_,dI,eR _,fun _=>by rw[←rM];exact lW⟩)
          simpa[jY,eK]using ao
         ·have hyp:0<ys.length:=by cases ys<;>simp at iS⊢
          rcases cy4 with cy4|⟨kS,na,gY,rfl,xx,l8⟩
          ·exact absurd cy4 iS
          ·have ju:=sJ l8;have rb:∀j u,gY[j]? =some u→w.cell? ((⟨kS,na,none⟩:Addr).add j)=some u:=fun j u af=>by rw[oI];exact(tR xx af).2
           have q5:(xs.length+ys.length)*fp.bytes≤140737488355328:=by
            have lg:fp.bytes≤2048:=by rw[de];exact hby
            have oW:(xs.length+ys.length)*fp.bytes≤(xs.length+ys.length)*2048:=Nat.mul_le_mul_left _ lg;simp only[lim]at ax;omega
           have mg:xs.length+ys.length≤maxLen:=by simp only[lim]at ax;simp only[maxLen];omega
           have Ev:dy w ν g.size (xs++ys) (fq++gY):=CM nB l8;rw[vy,lW]at mf;have By:(∃v' w',(Builtin.append_ #[t,t] type #[vY,.slice (some ⟨kS,na,none⟩) ys.length lb]).run P w= .ok v' w'∧w'.ownsRow w.heap.size fP fp.size v' (xs.length+ys.length) (fq++gY)∧w.grownBy w' none)→
             (⟨some d,.call ⟨.builtin .append,⟨[o',iX]⟩,⟨[t,t]⟩⟩,type,pos,after,guard⟩:Oper).wp P a w K Q:=by
            intro cO;obtain⟨v',w',f1,f2,f3⟩:=cO;obtain⟨cM,dn⟩:=aL.newRowM (k:=k) (xs:=xs++ys) (el:=fP) (sz:=g.size) (.inr ⟨_,ad,by simp;omega⟩) f3 (by rw[←bj];simpa using f2) Ev (by simpa using ax) (n':=st.n) (o':=st.o)
             (fun j af=>⟨af,fun e=>by subst e;have:=(aL.new _ af).2.1;rw[dI]at this;cases this⟩)
            refine l3 (mf _ _ f1) (c9 _ _ (ν.withOwn k (xs++ys).length v') ?_);have:=cM.put (d:=some d) (by simpa[jd]using U) (dn (by simpa using Us f2 (by omega)));simpa[eK]using this
           rcases bu.2 with⟨nb,xM⟩|⟨bl,cap,cur,nb,xM,zR,K0,K1,K2,FQ⟩
           ·
            have zi:xs=[]:=List.eq_nil_of_length_eq_zero (by omega);have JE:fq=[]:=List.eq_nil_of_length_eq_zero (by rw[vh,zi];simp);subst zi;subst JE;refine By ?_;obtain⟨v',w',f1,f2,f3,_⟩:=run_append_own (P:=P) w w.heap.size t type fP fp z fp.size fp.bytes iB ak hG rfl rfl vk (by rw[bj];exact fm) (.slice none 0 0) 0 [] (World.ownsRow_nil w _ _ _)
             ⟨kS,na,none⟩ ys.length lb gY (by rw[ju,bj]) rb (xQ l8) (by simpa using mg) (by simpa using q5) (eR _)
            exact⟨v',w',by rw[nb];exact f1,by simpa using f2,by simpa[nK]using f3⟩
           ·have n9:vY.ownBlock=some bl:=by rw[nb];rfl
            by_cases re:xs.length+ys.length≤cap
            ·have hmul:(xs.length+ys.length)*g.size≤cap*g.size:=Nat.mul_le_mul_right _ re;rw[pj]at hmul;have f1:=run_append_room (P:=P) w t type fP fp iB ak bl xs.length cap cur zR ⟨kS,na,none⟩ ys.length lb gY (by rw[ju,bj]) rb (xQ l8) re (by rw[ju,bj];omega);generalize Sh:(cur.toList.take (xs.length*fp.size)++gY++cur.toList.drop (xs.length*fp.size+gY.length)).toArray=sE at f1;have kj:(w.setRow bl sE).heap[bl]? =some (.cells sE fP (0,0)):=setRow_heap w bl cur sE fP _ zR;have au:(fq++gY).length=(xs++ys).length*g.size:=by rw[pd,vh,ju,pd,pj]
             have bZ:cur.toList.take (xs.length*fp.size)=fq:=by rw[jY,bj];exact FQ
             have kl:sE.size=cap*g.size:=by rw[←Sh];simp only[List.size_toArray,pd,List.length_take,rS,Array.length_toList];rw[bj];omega
             have oY:sE.toList.take ((xs++ys).length*g.size)=fq++gY:=by rw[←Sh,bZ];simp only[←au];rw[List.take_append_of_le_length (eR _),nL]
             obtain⟨cM,_,dn⟩:=aL.setRowM (w':=w.setRow bl sE) ad rfl dI n9 (v':= .slice (some ⟨bl,0,none⟩) (xs.length+ys.length) cap) rfl (xs':=xs++ys) (us:=fq++gY) (.inr (by simp;omega)) rfl rfl rfl (fun j af=>setRow_other w bl j sE af) (setRow_size w bl sE)
              ⟨au,.inr ⟨bl,cap,sE,by simp,Nat.zero_le _,kj,by simpa using re,K1,kl,oY⟩⟩ Ev
             replace dn:=dn (by simpa using ax);refine l3 (v:= .slice (some ⟨bl,0,none⟩) (xs.length+ys.length) cap) (w':=w.setRow bl sE) (mf _ _ ?_) (c9 _ _ (ν.withOwn k (xs++ys).length (.slice (some ⟨bl,0,none⟩) (xs.length+ys.length) cap)) ?_)
             ·rw[nb,←jY];exact f1
             ·have:=cM.put (d:=some d) (by simpa[jd]using U) dn;simpa[eK]using this
            ·refine By ?_;obtain⟨v',w',f1,f2,f3⟩:=run_append_arg_grows (P:=P) w t type fP fp z fp.size fp.bytes iB ak hG rfl rfl vk (by rw[bj];exact fm) ⟨bl,0,none⟩ xs.length cap fq (by rw[vh,bj])
              (fun j u af=>by have:=bu.cells n9 j u af;exact this) ⟨kS,na,none⟩ ys.length lb gY (by rw[ju,bj]) rb (by omega) mg q5
             exact⟨v',w',by rw[nb,←jY];exact f1,f2,f3⟩
        ·cases aJ
       ·cases aJ
      ·cases aJ
     ·cases aJ
    ·cases he
   ·cases bZ
  ·cases a8
 ·rename_i sz x y t o' iX;simp only[cA,dL]at aw;obtain⟨⟨⟨J,U⟩,ao⟩,a8⟩:=aw;subst J;split at U
  ·rename_i f aI;simp only[dL]at U;simp only[eA]at he;generalize Jq:ck st.t x=px at he;unfold qF at he;split at he
   ·rename_i dF k n i r6;split at he
    ·rename_i n' el ja xs ad;split at he
     ·rename_i BI;obtain⟨rfl,rfl⟩:=BI;split at he
      ·rename_i q bo;cases he;obtain⟨iz,bI,ch,dc,ie⟩:=ax;have rx:=eh aL ao;rw[Jq]at rx;have lB:=eh aL a8;have ug:=ui lB bI;have um:=o7 ug;obtain⟨_,ef⟩:=ux aN aI w;have tI:(a.eval iX).cells.size=sz:=by rw[ch]at um;simpa using um
       obtain⟨bl,off,l7,BM,dd,bp,pC⟩:=aL.storeRow (P:=P) ad rx bo iz ug (by simpa[tI]using dc) (fun e=>by have:=e5 List.length e;simp[tI]at this;omega);refine Dh (w':=w.setRow bl l7) ?_ (c9 _ _ _ pC);simp only[execOp,Instr.storeAt,BM,Instr.sureAddr,storeVar,fF,gp,fK,ef,tI,U,ne_eq,not_true_eq_false,if_false,dd]
      ·cases he
     ·cases he
    ·cases he
   ·cases he
  ·cases U
 ·rename_i d key sz el z x t o' iX;simp only[cA,dL,fH]at aw;obtain⟨⟨⟨⟨⟨J,U⟩,ao⟩,a8⟩,bZ⟩,c4⟩:=aw;subst J;split at ao
  ·rename_i fP aI;simp only[dL]at ao;subst ao;split at a8
   ·rename_i g a7;simp only[cA,dL,fH]at a8;obtain⟨⟨⟨rfl,fm⟩,hby⟩,bD⟩:=a8;obtain rfl:=MI bD;have rx:=eh aL bZ;have lB:=eh aL c4;simp only[eA]at he;split at he
    ·rename_i fh n ab;cases he;obtain⟨ad3,ju⟩:=ax;obtain⟨m,rfl⟩:=Int.eq_ofNat_of_zero_le ad3;rw[ab]at rx lB;simp only[ba]at rx lB;obtain⟨fp,b8,b5,ak,aB,bj,de,gS,hG,qO,qP⟩:=(uz aN a7).ex;obtain⟨eH,iB,eV⟩:=iJ aN aI;obtain rfl:=r1 eV;have mg:m≤lim:=by simp only[lim]at ju⊢;omega
     have q5:fp.bytes*m≤281474976710656:=by have J:fp.bytes*m≤2048*m:=Nat.mul_le_mul_right _ (by omega);simp only[lim]at mg;omega
     obtain⟨aeq,adq⟩:=MH w ν qO;obtain⟨w',g1,g2,g3⟩:=run_make_full (P:=P) w w.heap.size t el fp b5 fp.size iB ak hG rfl fh fh m q5 (by simp only[maxLen];simp only[lim]at mg;omega) (eR _);have lp:w'.ownsRow w.heap.size el g.size (.slice (some ⟨w.heap.size,0,none⟩) m m) (qK m g.zero).length (madeCells b5.cells (m*b5.cells.size)).toList:=by rw[bj,←qP]at g2;rw[List.length_replicate,←qP];exact g2
     obtain⟨dI,eY⟩:=aL.newRowM (k:=κ) (xs:=qK m g.zero) (.inl (aL.new _ (tz rfl))) g3 lp (by rw[←qP];exact Tz aeq (by omega) (Aa adq) m) (by simpa using mg) (di rfl);simp only[List.length_replicate]at dI eY;simp only[Int.toNat_natCast]at c9;refine l3 (v:= .slice (some ⟨w.heap.size,0,none⟩) m m) (w':=w') ?_ (c9 _ _ _ (dI.put (d:=some d) (by simpa[jd]using U) (p:= .row g.size κ m) (eY ⟨_,_,rfl⟩)));simp only[execOp];refine Dc ?_;rw[rx,lB];exact g1
    ·cases he
   ·cases a8
  ·cases ao
 ·cases aw
theorem aj0{P:cC}{bB:List (Nat×dB)}(aN:fN P bB=true){C:fa}{st st':bq}{a:Act}{w:World}{ν:bd}(aL:cP C st a w ν){i:ei}{o:Oper}(aw:CU C.N bB i o=true)
  {c:Prop} (he:l0 st i=some (c,st')) (ax:c) {K:Act→World→Prop} {Q:Exit→Act→World→Prop} (c9:∀bn w' bp,cP C st' bn w' bp→K bn w'):o.wp P a w K Q:=by
 have n4:pK st none→fresh st.n st.o (.loc st.n):=fun h=>vz (key:=none) h;have fl:∀j,fresh (st.n+1) st.o j→fresh st.n st.o j∧j≠ .loc st.n:=vA (key:=none);cases i with
 |v d i=>exact jD (κ:= .loc 0) (n':=0) (o₁:=[]) aN aL aw (fun h=>by simp[ei.makes]at h) (fun h=>by simp[ei.makes]at h) (by simpa only[l0,eA]using he) ax c9
 |box d key x=>simp only[l0]at he;cases he;exact jD (κ:=jA st key) (n':=mY st key) (o₁:=mZ st key) aN aL aw (fun _=>vz ax.1) (fun _=>vA) (by simp only[eA]) ax.2 c9
 |alloc d key z=>simp only[l0]at he;cases he;exact jD (κ:=jA st key) (n':=mY st key) (o₁:=mZ st key) aN aL aw (fun _=>vz ax) (fun _=>vA) (by simp only[eA]) trivial c9
 |mks d key sz el z x=>
  simp only[l0]at he;split at he
  ·rename_i fh n ab;cases he;exact jD (κ:=jA st key) (n':=mY st key) (o₁:=mZ st key) aN aL aw (fun _=>vz ax.1) (fun _=>vA) (by simp only[eA,ab]) ax.2 c9
  ·cases he
 |storeE sz x y=>exact jD (κ:= .loc 0) (n':=0) (o₁:=[]) aN aL aw (fun h=>by simp[ei.makes]at h) (fun h=>by simp[ei.makes]at h) (by simpa only[l0,eA]using he) ax c9
 |store sz x y=>exact jD (κ:= .loc 0) (n':=0) (o₁:=[]) aN aL aw (fun h=>by simp[ei.makes]at h) (fun h=>by simp[ei.makes]at h) (by simpa only[l0,eA]using he) ax c9
 |bsl d sz el xs=>simp only[l0]at he;cases he;exact jD (κ:= .loc st.n) (n':=st.n+1) (o₁:=st.o) aN aL aw (fun _=>n4 ax.1) (fun _=>fl) (by simp only[eA]) ax.2 c9
 |bslm d key sz el xs=>simp only[l0]at he;cases he;exact jD (κ:=jA st key) (n':=mY st key) (o₁:=mZ st key) aN aL aw (fun _=>vz ax.1) (fun _=>vA) (by simp only[eA]) ax.2 c9
 |appm d key sz el x y=>
  simp only[l0]at he;split at he
  ·rename_i ys aJ;cases he;exact jD (κ:=jA st key) (n':=mY st key) (o₁:=mZ st key) aN aL aw (fun _=>vz ax.1) (fun _=>vA) (by simp only[eA,aJ]) ax.2 c9
  ·rename_i k xs ys aJ;cases he;refine jD (κ:= .loc 0) (n':=0) (o₁:=[]) aN aL aw (fun h=>?_) (fun h=>?_) (by simp only[eA,aJ]) ax c9;all_goals
    exfalso
    simp only[ei.makes]at h
    split at h
    ·rename_i ab
     unfold rY at aJ
     rw[ab]at aJ
     split at aJ
     ·split at aJ<;>cases aJ
     ·rename_i J _;cases J
     ·cases aJ
    ·cases h
  ·cases he
 |mkmap d key=>simp only[l0]at he;cases he;exact jD (κ:=jA st key) (n':=mY st key) (o₁:=mZ st key) aN aL aw (fun _=>vz ax) (fun _=>vA) (by simp only[eA]) trivial c9
 |mput b9 x k v=>exact jD (κ:= .loc 0) (n':=0) (o₁:=[]) aN aL aw (fun h=>by simp[ei.makes]at h) (fun h=>by simp[ei.makes]at h) (by simpa only[l0,eA]using he) ax c9
 |range d key x=>
  simp only[l0]at he;split at he
  ·rename_i m ab;split at he
   ·rename_i cs dq;split at he
    ·rename_i cs' hm;cases he;exact jD (κ:=jA st key) (n':=mY st key) (o₁:=mZ st key) aN aL aw (fun _=>vz ax) (fun _=>vA) (by simp only[eA,ab,dq,hm]) trivial c9
    ·cases he
   ·cases he
  ·cases he
 |app d sz el x y=>
  simp only[l0]at he;split at he
  ·rename_i dF tag xs ja kK ys ab aG;split at he
   ·rename_i e8;split at he
    ·rename_i k;split at he
     ·rename_i ow ad;cases he;refine jD (κ:= .loc 0) (n':=0) (o₁:=[]) aN aL aw (fun h=>by simp[ei.makes,ab]at h) (fun h=>by simp[ei.makes,ab]at h) ?_ ax c9;simp only[eA,ab,aG,e8,and_self,if_true,ad]
     ·cases he
    ·cases he;refine jD (κ:= .loc st.n) (n':=st.n+1) (o₁:=st.o) aN aL aw (fun _=>n4 ax.1) (fun _=>fl) ?_ ax.2 c9;simp only[eA,ab,aG,e8,and_self,if_true]
    ·cases he
   ·cases he
  ·cases he
structure cJ where
 b:List (aH×List ah)
 e:List (aH×fM)
def fu(ν:bd)(s:cJ)(bl:Nat):Prop:=(∃k,(look k s.b).isSome∧ν.bx k=some bl)∨(∃g n v,(look g s.e).isSome∧ν.ow g=some (n,v)∧v.ownBlock=some bl)
def oS(ν:bd)(s:cJ):Prop:= ∀k,(look k s.b=none→ν.bx k=none)∧(look k s.e=none→ν.ow k=none)∧∀j b,¬ν.tr k j b
def cS(s:cJ):List aH:=s.b.map (·.1)++s.e.map (·.1)
def iH(s:cJ):Prop:=(∀m,look (.loc m) s.b=none)∧(∀m,look (.loc m) s.e=none)
def we(P:cC)(f:FuncId)(bc:Array Value)(w:World)(R:Ending→World→Prop):Prop:=((∃fn,P.funcs[f]? =some fn∧fn.body.isSome=true∧(fn.name== "runtime.NumGoroutine")=false)∧Calls P f bc w R)∨ ∃v w',(callFunc f bc).run P w= .ok (.value v) w'∧R (.returned v) w'
def bQ(P:cC)(f:FuncId)(args:List ah)(s:cJ)(Q:ah→cJ→Prop):Prop:=
 ∀(w:World) (ν:bd) (bc:Array Value),Good (fu ν s) w ν s.b s.e→oS ν s→cN w ν args bc.toList→
  we P f bc w fun e w'=> ∃v r ai bp,e= .returned v∧Q r ai∧ba w' bp r v∧Good (fun bl=>fu ν s bl∨w.heap.size≤bl) w' bp ai.b ai.e∧oS bp ai∧iH ai∧p5 ⟨w,ν,fu ν s,0,cS s⟩ w' bp
def D7(κ:aY Nat)(ν:bd)(s:cJ):Prop:= ∀k,(look k s.b=none→ν.bx k=none)∧(look k s.e=none→ν.ow k=none)∧∀j b,ν.tr k j b→∃m,κ=some m∧k= .loc m
theorem oS.k{ν:bd}{s:cJ}(h:oS ν s):D7 none ν s:=fun k=>⟨(h k).1,(h k).2.1,fun j b ae=>absurd ae ((h k).2.2 j b)⟩
def G3(P:cC)(f:FuncId)(κ:Nat)(args:List ah)(s:cJ)(Q:ah→cJ→Prop):Prop:=
 ∀(w:World) (ν:bd) (bc:Array Value),Good (fu ν s) w ν s.b s.e→oS ν s→cN w ν args bc.toList→
  we P f bc w fun e w'=> ∃v r ai bp,e= .returned v∧Q r ai∧ba w' bp r v∧Good (fun bl=>fu ν s bl∨w.heap.size≤bl) w' bp ai.b ai.e∧D7 (some κ) bp ai∧iH ai∧p5 ⟨w,ν,fu ν s,0,cS s⟩ w' bp
def bH(P:cC)(f:FuncId)(args:List ah)(r:ah):Prop:=bQ P f args ⟨[],[]⟩ fun eF ai=>eF=r∧ai=⟨[],[]⟩
theorem sA{α:Type}{k:aH}{x:α}:∀{l:List (aH×α)},look k l=some x→(k,x)∈l
 |[],h=>by simp[look]at h
 |(i,y)::r,h=>by
  simp only[look]at h;split at h
  ·rename_i e;subst e;cases h;simp
  ·exact pf _ (sA h)
theorem sF{s:cJ}{k:aH}(h:(look k s.b).isSome∨(look k s.e).isSome):k∈cS s:=by
 unfold cS;rcases h with h|h<;>obtain⟨x,ab⟩:=fG.1 h<;>have:=sA ab
 ·exact List.mem_append_left _ (h8.2 ⟨_,this,rfl⟩)
 ·exact List.mem_append_right _ (h8.2 ⟨_,this,rfl⟩)
section
open Classical
noncomputable def bd.cut(ν:bd)(S:aH→Prop):bd:={A:=ν.A,bx:=fun k=>if S k then ν.bx k else none,ow:=fun k=>if S k then ν.ow k else none,tr:=fun k j b=>S k∧ν.tr k j b}
theorem bd.cut_bx{ν:bd}{S:aH→Prop}{k:aH}(h:S k):(ν.cut S).bx k=ν.bx k:=by simp[bd.cut,h]
theorem bd.cut_ow{ν:bd}{S:aH→Prop}{k:aH}(h:S k):(ν.cut S).ow k=ν.ow k:=by simp[bd.cut,h]
theorem bd.cut_no{ν:bd}{S:aH→Prop}{k:aH}(h:¬S k):(ν.cut S).bx k=none∧(ν.cut S).ow k=none∧∀j b,¬(ν.cut S).tr k j b:=by simp[bd.cut,h]
theorem bd.cut_some{ν:bd}{S:aH→Prop}{k:aH}{b:Nat}(h:(ν.cut S).bx k=some b):S k∧ν.bx k=some b:=by
 by_cases ag:S k
 ·exact⟨ag,by rw[bd.cut_bx ag]at h;exact h⟩
 ·rw[(bd.cut_no ag).1]at h;cases h
theorem bd.cut_someO{ν:bd}{S:aH→Prop}{k:aH}{b:Nat×Value}(h:(ν.cut S).ow k=some b):S k∧ν.ow k=some b:=by
 by_cases ag:S k
 ·exact⟨ag,by rw[bd.cut_ow ag]at h;exact h⟩
 ·rw[(bd.cut_no ag).2.1]at h;cases h
theorem oH.cut(S:aH→Prop)(w:World)(ν:bd):oH S w ν w (ν.cut S):=⟨fun _ _ h=>⟨h,rfl⟩,fun k b ad h=>by rw[bd.cut_bx ad];exact h,fun g n u a7 h=>⟨n,u,by rw[bd.cut_ow a7];exact h,.inl ⟨rfl,rfl⟩⟩,fun _ _ _=>rfl,fun _ _ _ ad h=>⟨ad,h⟩⟩
end
def gy(S:aH→Prop)(bO b:List (aH×List ah)):Prop:= ∀k cs,look k bO=some cs→look k b=some cs∧S k∧aK S cs
def ot(S:aH→Prop)(fJ e:List (aH×fM)):Prop:= ∀k o,look k fJ=some o→look k e=some o∧S k∧dQ S o
theorem Good.cut{pr CF:Nat→Prop}{w:World}{ν:bd}{b bO:List (aH×List ah)}{e fJ:List (aH×fM)}(h:Good pr w ν b e){S:aH→Prop}(ae:gy S bO b)(he:ot S fJ e)
  (R3:∀bl,pr bl→(∃k,(look k bO).isSome∧(ν.cut S).bx k=some bl)∨(∃g n v,(look g fJ).isSome∧(ν.cut S).ow g=some (n,v)∧v.ownBlock=some bl)→CF bl):Good CF w (ν.cut S) bO fJ:=by
 have Eu:∀k,(look k bO).isSome→(look k b).isSome∧S k:=fun k ad=>by obtain⟨cs,dq⟩:=fG.1 ad;have:=ae k cs dq;exact⟨by simp[this.1],this.2.1⟩
 have Ew:∀k,(look k fJ).isSome→(look k e).isSome∧S k:=fun k ad=>by obtain⟨cs,dq⟩:=fG.1 ad;have:=he k cs dq;exact⟨by simp[this.1],this.2.1⟩
 refine⟨h.alt,fun k cs ad=>?_,fun k bM bl J U ao a8=>?_,fun g o a7=>?_,fun g fb n n' v v' bl J U ao a8 bZ c4=>?_,fun g k n v bl J U ao a8 bZ=>?_,fun k=>?_,fun bl aN k j af=>?_⟩
 ·obtain⟨g1,g2,g3⟩:=ae k cs ad;obtain⟨bl,us,el,f1,f2,f3,f4,f5⟩:=h.box k cs g1;have lh:(ν.cut S).bx k=some bl:=by rw[bd.cut_bx g2];exact f1
  exact⟨bl,us,el,lh,R3 bl f2 (.inl ⟨k,by simp[ad],lh⟩),f3,f4,Vt (oH.cut S w ν) g3 f5⟩
 ·obtain⟨bE,a2⟩:=Eu k J;obtain⟨cc,b4⟩:=Eu bM U;exact h.inj k bM bl bE cc (bd.cut_some ao).2 (bd.cut_some a8).2
 ·obtain⟨g1,g2,g3⟩:=he g o a7;obtain⟨v,us,f1,f2,f3,f4⟩:=h.own g o g1;have BK:(ν.cut S).ow g=some (o.n,v):=by rw[bd.cut_ow g2];exact f1
  exact⟨v,us,BK,f2,fun bl fw=>⟨R3 bl (f3 bl fw).1 (.inr ⟨g,o.n,v,by simp[a7],BK,fw⟩),(f3 bl fw).2⟩,
   fun xs ab=>⟨(f4 xs ab).1,Ge (oH.cut S w ν) _ _ _ (g3 xs ab) (f4 xs ab).2.1,(f4 xs ab).2.2⟩⟩
 ·obtain⟨bE,a2⟩:=Ew g J;obtain⟨cc,b4⟩:=Ew fb U;exact h.oinj g fb n n' v v' bl bE cc (bd.cut_someO ao).2 (bd.cut_someO a8).2 bZ c4
 ·obtain⟨bE,a2⟩:=Ew g J;obtain⟨cc,b4⟩:=Eu k U;exact h.obx g k n v bl bE cc (bd.cut_someO ao).2 a8 (bd.cut_some bZ).2
 ·by_cases ag:S k
  ·rw[bd.cut_bx ag,bd.cut_ow ag];exact h.one k
  ·exact .inl (bd.cut_no ag).1
 ·refine h.otr bl ?_ k j af.2;rcases aN with⟨bM,bE,a2⟩|⟨g,n,v,bE,a2,a3⟩
  ·exact .inl ⟨bM,(Eu bM bE).1,(bd.cut_some a2).2⟩
  ·exact .inr ⟨g,n,v,(Ew g bE).1,(bd.cut_someO a2).2,a3⟩
structure iy (ob:List aH) (st st':bq):Prop where
 t:∀x∈st'.t,get x.1 st.t=x.2∧aC (fun k=> ¬fresh st'.n st'.o k) x.2
 b:gy (fun k=> ¬fresh st'.n st'.o k) st'.b st.b
 e:ot (fun k=> ¬fresh st'.n st'.o k) st'.e st.e
 o:∀m∈ob,m∈st'.o
theorem Q1:∀(i:Nat) (l:List (Nat×ah)),get i l= .junk∨(i,get i l)∈l
 |_,[]=>.inl rfl
 |i,(j,p)::r=>by
  by_cases h:j=i
  ·subst h;right;simp[get]
  ·rcases Q1 i r with J|J
   ·left;simp[get,h,J]
   ·right;simp[get,h];right;exact J
theorem cP.weaker{C:fa}{st st':bq}{a:Act}{w:World}{ν:bd}(h:cP C st a w ν)(hw:iy C.ob st st'):cP C st' a w (ν.cut fun k=> ¬fresh st'.n st'.o k):=by
 refine⟨h.good.cut hw.b hw.e (fun bl bJ _=>bJ),⟨h.fr.os,h.fr.tape,h.fr.output,h.fr.size,h.fr.block,h.fr.keep,h.fr.fresh,fun n b ae=>?_,h.fr.obn,fun m n u hm=>?_,h.fr.obr,fun k j bM dA b J U=>h.fr.trd k j bM dA b J.2 U.2,fun k j b ae=>h.fr.trb k j b ae.2,fun k j b ae=>?_,h.fr.sh⟩,h.defers,h.size,fun i=>?_,fun k ad=>bd.cut_no (fun aA=>aA ad)⟩
 ·rw[bd.cut_bx (fun cO=>cO.2 (hw.o _ (h.fr.obn n b ae)))];exact h.fr.obj n b ae
 ·rw[bd.cut_ow (fun cO=>cO.2 (hw.o _ (h.fr.obr m n u hm)))];exact h.fr.row m n u hm
 ·rw[bd.cut_bx ae.1,bd.cut_ow ae.1];exact h.fr.trn k j b ae.2
 ·rcases Q1 i st'.t with af|hm
  ·rw[af];simp[ba]
  ·obtain⟨J,U⟩:=hw.t _ hm;simp only at J;have:=h.slot i;rw[J]at this;exact uj (oH.cut _ w ν) _ _ U this
mutual
def ds:ah→ah
 | .slice sz _ xs=>.slice sz .no (cY xs)
 | .agg cs=>.agg (cY cs)
 | .tuple bc=>.tuple (cY bc)
 | .eptr x=>.eptr (ds x)
 | .iface t x=>.iface t (ds x)
 | .func f dm=>.func f (cY dm)
 |p=>p
def cY:List ah→List ah
 |[]=>[]
 |x::xs=>ds x::cY xs
end
theorem uu:∀xs,(cY xs).length=xs.length
 |[]=>rfl
 |x::xs=>by simp[cY,uu xs]
mutual
theorem IC{t:Bool}{w:World}{A:Nat→Nat→Prop}:∀(p:ah) (F:Nat→Prop) (v:Value),fX t w A F p v→fX t w A F (ds p) v
 | .int _ _,_,_,h=>by simpa only[ds]using h
 | .bool _,_,_,h=>by simpa only[ds]using h
 | .str _,_,_,h=>by simpa only[ds]using h
 | .slice sz tag xs,F,v,h=>by
  simp only[fX,ds]at h⊢;obtain⟨a,cap,J,U,ao,a8⟩:=h;refine⟨a,cap,by rw[uu];exact J,by rw[uu];exact U,by rw[uu];exact ao,?_⟩;rcases a8 with rfl|⟨b,off,us,G,ak,aB,bj,de,gS,hG⟩
  ·exact .inl rfl
  ·exact .inr ⟨b,off,us,G,ak,aB,bj,de,gS,QN sz xs G us hG⟩
 | .agg cs,F,v,h=>by simp only[fX,ds]at h⊢;obtain⟨us,J,U⟩:=h;exact⟨us,J,QO cs F _ U⟩
 | .junk,_,_,h=>by simp[fX]at h
 | .ptr _ _,_,_,h=>by simp[fX]at h
 | .eptr _,_,_,h=>by simp[fX]at h
 | .iface _ _,_,_,h=>by simp[fX]at h
 | .nilp,_,_,h=>by simp[fX]at h
 | .tuple _,_,_,h=>by simp[fX]at h
 | .func _ _,_,_,h=>by simp[fX]at h
 | .gmap _,_,_,h=>by simp[fX]at h
 | .row _ _ _,_,_,h=>by simp[fX]at h
 | .rptr _ _ _ _ _,_,_,h=>by simp[fX]at h
 | .hdm _ _,_,_,h=>by simp[fX]at h
 | .hdi _ _ _,_,_,h=>by simp[fX]at h
 | .cst _,_,_,h=>by simp[fX]at h
theorem QO{t:Bool}{w:World}{A:Nat→Nat→Prop}:∀(cs:List ah) (F:Nat→Prop) (us:List Value),ts t w A F cs us→ts t w A F (cY cs) us
 |[],_,_,h=>by simpa only[cY]using h
 |c::cs,F,us,h=>by simp only[ts,cY]at h⊢;obtain⟨u,cg,hY,h9,J,U,⟨bZ,c4⟩,ee⟩:=h;exact⟨u,cg,hY,h9,J,U,⟨IC c hY u bZ,c4⟩,QO cs h9 cg ee⟩
theorem QN{t:Bool}{w:World}{A:Nat→Nat→Prop}(sz:Nat):∀(cs:List ah) (F:Nat→Prop) (us:List Value),tq t w A F sz cs us→tq t w A F sz (cY cs) us
 |[],_,_,h=>by simpa only[cY]using h
 |c::cs,F,us,h=>by simp only[tq,cY]at h⊢;obtain⟨u,cg,hY,h9,J,U,⟨bZ,c4⟩,ee⟩:=h;exact⟨u,cg,hY,h9,J,U,⟨IC c hY u bZ,c4⟩,QN sz cs h9 cg ee⟩
end
theorem QM{t:Bool}{w:World}{A:Nat→Nat→Prop}{F:Nat→Prop}{sz:Nat}{tag:AI}(kK:AI){xs:List ah}(v:Value)(h:fX t w A F (.slice sz tag xs) v):fX t w A F (.slice sz kK (cY xs)) v:=by have:=IC _ F v h;simp only[ds,fX]at this⊢;exact this
mutual
theorem xU{w:World}{ν:bd}:∀(p:ah) (v:Value),ba w ν p v→ba w ν (ds p) v
 | .junk,_,h=>by simpa only[ds]using h
 | .int k n,_,h=>by simpa only[ds]using h
 | .bool b,_,h=>by simpa only[ds]using h
 | .str s,_,h=>by simpa only[ds]using h
 | .slice sz tag xs,v,h=>by
  simp only[ba,ds]at h⊢;obtain⟨⟨a,cap,J,U,ao,a8⟩,bZ,c4⟩:=h;refine⟨⟨a,cap,by rw[uu];exact J,by rw[uu];exact U,by rw[uu];exact ao,?_⟩,fun e=>(by cases e),fun g e=>(by cases e),fun _ _ e=>(by cases e),fun _ e=>(by cases e)⟩;rcases a8 with rfl|⟨b,off,us,a8,c4,ee⟩
  ·exact .inl rfl
  ·exact .inr ⟨b,off,us,a8,c4,Vw sz xs us ee⟩
 | .agg cs,v,h=>by simp only[ba,ds]at h⊢;obtain⟨us,J,U⟩:=h;exact⟨us,J,VA cs _ U⟩
 | .ptr key off,v,h=>by simpa only[ds]using h
 | .iface t x,v,h=>by simp only[ba,ds]at h⊢;obtain⟨u,J,U⟩:=h;exact⟨u,J,xU x u U⟩
 | .eptr x,v,h=>by simp only[ba,ds]at h⊢;obtain⟨b,off,u,J,U,ao⟩:=h;exact⟨b,off,u,J,xU x u U,ao⟩
 | .nilp,_,h=>by simpa only[ds]using h
 | .tuple bc,v,h=>by simp only[ba,ds]at h⊢;obtain⟨us,J,U⟩:=h;exact⟨us,J,Gl bc _ U⟩
 | .func f dm,v,h=>by simp only[ba,ds]at h⊢;obtain⟨us,J,U⟩:=h;exact⟨us,J,Gl dm _ U⟩
 | .gmap key,v,h=>by simpa only[ds]using h
 | .row _ _ _,v,h=>by simpa only[ds]using h
 | .rptr _ _ _ _ _,v,h=>by simpa only[ds]using h
 | .cst _,v,h=>by simpa only[ds]using h
theorem VA{w:World}{ν:bd}:∀(cs:List ah) (us:List Value),c5 w ν cs us→c5 w ν (cY cs) us
 |[],_,h=>by simpa only[cY]using h
 |c::cs,us,h=>by simp only[c5,cY]at h⊢;obtain⟨u,cg,J,U,ao⟩:=h;exact⟨u,cg,J,⟨xU c u U.1,U.2⟩,VA cs cg ao⟩
theorem Gl{w:World}{ν:bd}:∀(cs:List ah) (us:List Value),cN w ν cs us→cN w ν (cY cs) us
 |[],_,h=>by simpa only[cY]using h
 |c::cs,us,h=>by simp only[cN,cY]at h⊢;obtain⟨u,cg,J,U,ao⟩:=h;exact⟨u,cg,J,xU c u U,Gl cs cg ao⟩
theorem Vw{w:World}{ν:bd}(sz:Nat):∀(xs:List ah) (us:List Value),dy w ν sz xs us→dy w ν sz (cY xs) us
 |[],_,h=>by simpa only[cY]using h
 |x::xs,us,h=>by simp only[dy,cY]at h⊢;obtain⟨u,cg,J,⟨U,ao,a8⟩,bZ⟩:=h;exact⟨u,cg,J,⟨xU x u U,ao,a8⟩,Vw sz xs cg bZ⟩
end
def inObs(s:cJ)(k:aH):Prop:=(look k s.b).isSome=true∨(look k s.e).isSome=true
def cv{α β:Type}(s:List (aH×β)):List (aH×α)→List (aH×α)
 |[]=>[]
 |(k,x)::r=>match look k s with
  |some _=>cv s r
  |none=>(k,x)::cv s r
theorem tU{α β:Type}(s:List (aH×β))(k:aH):∀l:List (aH×α),look k (cv s l)=if(look k s).isSome then none else look k l
 |[]=>by simp[cv,look]
 |(i,x)::r=>by
  simp only[cv];by_cases e:i=k
  ·subst e;cases h:look i s with
   |some y=>simp[tU s i r,h]
   |none=>simp[look]
  ·cases h:look i s with
   |some y=>simp[tU s k r,look,e]
   |none=>simp[look,e,tU s k r]
theorem xw{α:Type}(k:aH):∀l a1:List (aH×α),look k (l++a1)=match look k l with|some x=>some x|none=>look k a1
 |[],a1=>by simp[look]
 |(i,x)::r,a1=>by
  by_cases e:i=k
  ·simp[look,e]
  ·simp[look,e,xw k r a1]
def after(st:bq)(s ai:cJ)(d:aY Nat)(r:ah):bq:={t:=eK d r st.t,b:=cv s.b st.b++ai.b,e:=cv s.e st.e++ai.e,n:=st.n,o:=st.o++cS ai}
section
open Classical
noncomputable def bd.join(ν bp:bd)(s ai:cJ):bd:={A:=bp.A,bx:=fun k=>if(look k s.b).isSome∨(look k ai.b).isSome then bp.bx k else ν.bx k,ow:=fun k=>if(look k s.e).isSome∨(look k ai.e).isSome then bp.ow k else ν.ow k,tr:=fun k j b=>ν.tr k j b∨bp.tr k j b}
end
theorem cP.callK{C:fa}{st:bq}{a:Act}{w w':World}{ν bp:bd}(h:cP C st a w ν){s ai:cJ}(ae:gy (inObs s) s.b st.b)(he:ot (inObs s) s.e st.e)(tG:iH s)
  (a7:Good (fun bl=>fu (ν.cut (inObs s)) s bl∨w.heap.size≤bl) w' bp ai.b ai.e) {κ:aY Nat} (ab:D7 κ bp ai) (aeO:∀m,κ=some m→ν.bx (.loc m)=none∧ν.ow (.loc m)=none∧∀j b,¬ν.tr (.loc m) j b) {n':Nat} {o':List aH} (di:∀k,fresh n' o' k→fresh st.n (st.o++cS ai) k∧∀m,κ=some m→k≠ .loc m) (sj:iH ai) (aI:p5 ⟨w,ν.cut (inObs s),fu (ν.cut (inObs s)) s,0,cS s⟩ w' bp)
  (Jj:∀m,(look (.obj m) ai.b).isSome→(look (.obj m) s.b).isSome∨ .obj m∉st.o) (cF:∀m,(look (.obj m) ai.e).isSome→(look (.obj m) s.e).isSome∨ .obj m∉st.o) (d:aY Nat) (aQ:jd C.N d=true) {r:ah} {v:Value} (aL:ba w' bp r v):
  cP C {after st s ai d r with n:=n',o:=o'} (a.put d v) w' (ν.join bp s ai):=by
 have qp:∀k,(look k s.b).isSome→(look k st.b).isSome:=fun k ad=>by obtain⟨cs,dq⟩:=fG.1 ad;simp[(ae k cs dq).1]
 have lq:∀k,(look k s.e).isSome→(look k st.e).isSome:=fun k ad=>by obtain⟨cs,dq⟩:=fG.1 ad;simp[(he k cs dq).1]
 have ad8:∀k,(look k ai.b).isSome→¬(look k s.b).isSome→ν.bx k=none:=fun k ad aA=>by
  cases k with
  |loc m=>rw[sj.1 m]at ad;cases ad
  |obj m=>exact(h.new (.obj m) ⟨trivial,(Jj m ad).resolve_left aA⟩).1
 have ad9:∀k,(look k ai.e).isSome→¬(look k s.e).isSome→ν.ow k=none:=fun k ad aA=>by
  cases k with
  |loc m=>rw[sj.2 m]at ad;cases ad
  |obj m=>exact(h.new (.obj m) ⟨trivial,(cF m ad).resolve_left aA⟩).2.1
 have afh:∀k,(look k s.b).isSome→(ν.join bp s ai).bx k=bp.bx k:=fun k ad=>by simp[bd.join,ad]
 have SC:∀k,(look k ai.b).isSome→(ν.join bp s ai).bx k=bp.bx k:=fun k ad=>by simp[bd.join,ad]
 have SD:∀k,ν.bx k≠none→¬(look k s.b).isSome→(ν.join bp s ai).bx k=ν.bx k:=fun k J U=>by have ao:¬(look k ai.b).isSome:=fun ao=>J (ad8 k ao U);simp[bd.join,U,ao]
 have afi:∀k,(look k s.e).isSome→(ν.join bp s ai).ow k=bp.ow k:=fun k ad=>by simp[bd.join,ad]
 have JT:∀k,(look k ai.e).isSome→(ν.join bp s ai).ow k=bp.ow k:=fun k ad=>by simp[bd.join,ad]
 have JU:∀k,ν.ow k≠none→¬(look k s.e).isSome→(ν.join bp s ai).ow k=ν.ow k:=fun k J U=>by have ao:¬(look k ai.e).isSome:=fun ao=>J (ad9 k ao U);simp[bd.join,U,ao]
 have W7:∀k b,bp.bx k=some b→(look k ai.b).isSome:=fun k b ad=>by
  cases au:look k ai.b with
  |some _=>rfl
  |none=>rw[(ab k).1 au]at ad;cases ad
 have W8:∀k b,bp.ow k=some b→(look k ai.e).isSome:=fun k b ad=>by
  cases au:look k ai.e with
  |some _=>rfl
  |none=>rw[(ab k).2.1 au]at ad;cases ad
 have aw:k9 w ν w' (ν.join bp s ai):=by
  refine⟨fun b o bg=>aI.keep b o bg,fun k b _ ad=>?_,fun g n u _ a7=>?_,fun b o bg=>aI.sh b o bg,fun _ _ _ _ h=>.inl h⟩
  ·by_cases ag:(look k s.b).isSome
   ·rw[afh k ag];cases k with
    |loc m=>rw[tG.1 m]at ag;cases ag
    |obj m=>exact aI.obj m b (by rw[bd.cut_bx (.inl ag)];exact ad)
   ·rw[SD k (by rw[ad];simp) ag];exact ad
  ·by_cases ag:(look g s.e).isSome
   ·rw[afi g ag];cases g with
    |loc m=>rw[tG.2 m]at ag;cases ag
    |obj m=>exact aI.row m n u (by rw[bd.cut_ow (.inr ag)];exact a7)
   ·rw[JU g (by rw[a7];simp) ag];exact⟨n,u,a7,.inl ⟨rfl,rfl⟩⟩
 have hI:k9 w' bp w' (ν.join bp s ai):=⟨fun b o bg=>⟨bg,rfl⟩,fun k b _ ad=>by rw[SC k (W7 k b ad)];exact ad,fun g n u _ ad=>⟨n,u,by rw[JT g (W8 g _ ad)];exact ad,.inl ⟨rfl,rfl⟩⟩,fun _ _ _=>rfl,fun _ _ _ _ h=>.inr h⟩
 have qk:∀bl,fu (ν.cut (inObs s)) s bl→C.pr bl∧bl<w.heap.size:=by
  intro bl fw;rcases fw with⟨k,J,U⟩|⟨g,n,u,J,U,ao⟩
  ·have a8:=(bd.cut_some U).2;obtain⟨cs,dq⟩:=fG.1 (qp k J);obtain⟨ic,us,el,g1,g2,_⟩:=h.good.box k cs dq;rw[a8]at g1;cases g1;exact⟨g2,h.good.boxLt dq a8⟩
  ·have a8:=(bd.cut_someO U).2;obtain⟨o,EH⟩:=fG.1 (lq g J);obtain⟨v',us,g1,g2,g3,_⟩:=h.good.own g o EH;rw[a8]at g1;cases g1;exact⟨(g3 bl ao).1,h.good.ownLt EH a8 ao⟩
 have R4:∀bl,fu (ν.cut (inObs s)) s bl∨w.heap.size≤bl→C.pr bl:=fun bl fw=>by
  rcases fw with fw|fw
  ·exact(qk bl fw).1
  ·exact .inr (j4 h.fr.size fw)
 have aev:∀k cs bl,look k st.b=some cs→¬(look k s.b).isSome→ν.bx k=some bl→¬fu (ν.cut (inObs s)) s bl:=by
  intro k cs bl J U ao a8;rcases a8 with⟨bM,bE,a2⟩|⟨g,n,u,bE,a2,a3⟩
  ·have:=h.good.inj k bM bl (by simp[J]) (qp bM bE) ao (bd.cut_some a2).2;subst this;exact U bE
  ·exact h.good.obx g k n u bl (lq g bE) (by simp[J]) (bd.cut_someO a2).2 a3 ao
 have aew:∀g o n u bl,look g st.e=some o→¬(look g s.e).isSome→ν.ow g=some (n,u)→u.ownBlock=some bl→¬fu (ν.cut (inObs s)) s bl:=by
  intro g o n u bl J U ao a8 bZ;rcases bZ with⟨bM,bE,a2⟩|⟨fb,n',e4,bE,a2,a3⟩
  ·exact h.good.obx g bM n u bl (by simp[J]) (qp bM bE) ao a8 (bd.cut_some a2).2
  ·have:=h.good.oinj g fb n n' u e4 bl (by simp[J]) (lq fb bE) ao (bd.cut_someO a2).2 a8 a3;subst this;exact U bE
 have PB:∀k cs,look k (cv s.b st.b++ai.b)=some cs→(¬(look k s.b).isSome∧look k st.b=some cs)∨look k ai.b=some cs:=by
  intro k cs ad;rw[xw,tU]at ad;by_cases ag:(look k s.b).isSome
  ·simp only[ag,if_true]at ad;exact .inr ad
  ·simp only[ag]at ad;cases au:look k st.b with
   |some x=>simp[au]at ad;subst ad;exact .inl ⟨ag,rfl⟩
   |none=>simp[au]at ad;exact .inr ad
 have PC:∀k cs,look k (cv s.e st.e++ai.e)=some cs→(¬(look k s.e).isSome∧look k st.e=some cs)∨look k ai.e=some cs:=by
  intro k cs ad;rw[xw,tU]at ad;by_cases ag:(look k s.e).isSome
  ·simp only[ag,if_true]at ad;exact .inr ad
  ·simp only[ag]at ad;cases au:look k st.e with
   |some x=>simp[au]at ad;subst ad;exact .inl ⟨ag,rfl⟩
   |none=>simp[au]at ad;exact .inr ad
 have Af:∀bl,fu (ν.cut (inObs s)) s bl∨w.heap.size≤bl→∀ic,ic<w.heap.size→¬fu (ν.cut (inObs s)) s ic→bl≠ic:=by
  intro bl J ic U ao e;subst e;rcases J with J|J
  ·exact ao J
  ·omega
 have JX:∀bl,bl<w.heap.size→¬fu (ν.cut (inObs s)) s bl→w'.heap[bl]? =w.heap[bl]?:=fun bl J U=>aI.block bl J U;have isB:∀k bl,(look k (cv s.b st.b++ai.b)).isSome→(ν.join bp s ai).bx k=some bl→(¬(look k s.b).isSome∧(look k st.b).isSome∧ν.bx k=some bl)∨((look k ai.b).isSome∧bp.bx k=some bl):=by
  intro k bl ad lh;obtain⟨cs,dq⟩:=fG.1 ad;rcases PB k cs dq with⟨J,U⟩|J
  ·obtain⟨ic,us,el,g1,_⟩:=h.good.box k cs U;rw[SD k (by rw[g1];simp) J]at lh;exact .inl ⟨J,by simp[U],lh⟩
  ·rw[SC k (by simp[J])]at lh;exact .inr ⟨by simp[J],lh⟩
 have E1:∀k x,(look k (cv s.e st.e++ai.e)).isSome→(ν.join bp s ai).ow k=some x→(¬(look k s.e).isSome∧(look k st.e).isSome∧ν.ow k=some x)∨((look k ai.e).isSome∧bp.ow k=some x):=by
  intro k x ad lh;obtain⟨cs,dq⟩:=fG.1 ad;rcases PC k cs dq with⟨J,U⟩|J
  ·obtain⟨v',us,g1,_⟩:=h.good.own k cs U;rw[JU k (by rw[g1];simp) J]at lh;exact .inl ⟨J,by simp[U],lh⟩
  ·rw[JT k (by simp[J])]at lh;exact .inr ⟨by simp[J],lh⟩
 have AR:∀k bl,¬(look k s.b).isSome→(look k st.b).isSome→ν.bx k=some bl→bl<w.heap.size∧¬fu (ν.cut (inObs s)) s bl:=by intro k bl J U ao;obtain⟨cs,dq⟩:=fG.1 U;exact⟨h.good.boxLt dq ao,aev k cs bl dq J ao⟩
 have xX:∀k n u bl,¬(look k s.e).isSome→(look k st.e).isSome→ν.ow k=some (n,u)→u.ownBlock=some bl→bl<w.heap.size∧¬fu (ν.cut (inObs s)) s bl:=by intro k n u bl J U ao a8;obtain⟨cs,dq⟩:=fG.1 U;exact⟨h.good.ownLt dq ao a8,aew k cs n u bl dq J ao a8⟩
 have DD:∀k bl,(look k ai.b).isSome→bp.bx k=some bl→fu (ν.cut (inObs s)) s bl∨w.heap.size≤bl:=by intro k bl J U;obtain⟨cs,dq⟩:=fG.1 J;obtain⟨ic,us,el,g1,g2,_⟩:=a7.box k cs dq;rw[U]at g1;cases g1;exact g2
 have Gp:∀k n u bl,(look k ai.e).isSome→bp.ow k=some (n,u)→u.ownBlock=some bl→fu (ν.cut (inObs s)) s bl∨w.heap.size≤bl:=by intro k n u bl J U ao;obtain⟨cs,dq⟩:=fG.1 J;obtain⟨v',us,g1,g2,g3,_⟩:=a7.own k cs dq;rw[U]at g1;cases g1;exact(g3 bl ao).1
 have bg:∀bl o,bp.A bl o→bl<w.heap.size→¬fu (ν.cut (inObs s)) s bl→ν.A bl o:=by
  intro bl o J U ao;rcases aI.fresh bl o J with a8|a8|a8
  ·exact a8
  ·exact absurd a8 ao
  ·simp only at a8;omega
 have pC:cP C {t:=st.t,b:=cv s.b st.b++ai.b,e:=cv s.e st.e++ai.e,n:=n',o:=o'} a w' (ν.join bp s ai):=by
  refine h.over aw rfl ⟨a7.alt,fun k cs ad=>?_,fun k bM bl J U ao a8=>?_,fun g o eT=>?_,fun g fb n n' u e4 bl J U ao a8 bZ c4=>?_,fun g k n u bl J U ao a8 bZ=>?_,fun k=>?_,fun bl aN k j lr=>?_⟩
   ⟨aI.os.trans h.fr.os,aI.tape.trans h.fr.tape,aI.output.trans h.fr.output,j4 h.fr.size aI.size,fun k ad hm=>?_,fun b o q0=>?_,fun b o q0=>?_,fun n b aA=>aw.bx _ _ trivial (h.fr.obj n b aA),h.fr.obn,
    fun m n u hm=>CS (h.fr.row m n u hm) (fun n u=>aw.ow _ n u trivial),h.fr.obr,fun k j bM dA b J U=>?_,fun k j b ae=>?_,fun k j b ae=>?_,fun b o bg=>(aw.sh b o (h.fr.keep b o bg).1).trans (h.fr.sh b o bg)⟩ (fun k ad=>?_)
  ·rcases PB k cs ad with⟨J,U⟩|J
   ·obtain⟨bl,us,el,g1,g2,g3,g4,g5⟩:=h.good.box k cs U;obtain⟨cc,b4⟩:=AR k bl J (by simp[U]) g1;exact⟨bl,us,el,aw.bx _ _ trivial g1,g2,fun o q0=>g3 o (bg bl o q0 cc b4),by rw[JX bl cc b4];exact g4,pU aw g5⟩
   ·obtain⟨bl,us,el,g1,g2,g3,g4,g5⟩:=a7.box k cs J;exact⟨bl,us,el,hI.bx _ _ trivial g1,R4 bl g2,g3,g4,pU hI g5⟩
  ·rcases isB k bl J ao with⟨bE,a2,a3⟩|⟨bE,a2⟩<;>rcases isB bM bl U a8 with⟨cc,b4,fD⟩|⟨cc,b4⟩
   ·exact h.good.inj k bM bl a2 b4 a3 fD
   ·obtain⟨bI,ch⟩:=AR k bl bE a2 a3;exact absurd rfl (Af bl (DD bM bl cc b4) bl bI ch)
   ·obtain⟨bI,ch⟩:=AR bM bl cc b4 fD;exact absurd rfl (Af bl (DD k bl bE a2) bl bI ch)
   ·exact a7.inj k bM bl bE cc a2 b4
  ·rcases PC g o eT with⟨J,U⟩|J
   ·obtain⟨u,us,g1,g2,g3,g4⟩:=h.good.own g o U;refine⟨u,us,by rw[JU g (by rw[g1];simp) J];exact g1,⟨g2.1,?_⟩,fun bl fw=>?_,rF aw (fun bl fw j q0=>?_) g4⟩
    ·rcases g2.2 with aB|⟨bb,cap,cur,f1,f2,f3,f4⟩
     ·exact .inl aB
     ·obtain⟨cc,b4⟩:=xX g _ u bb J (by simp[U]) g1 (by rw[f1];rfl);exact .inr ⟨bb,cap,cur,f1,f2,by rw[JX bb cc b4];exact f3,f4⟩
    ·obtain⟨cc,b4⟩:=xX g _ u bl J (by simp[U]) g1 fw;exact⟨(g3 bl fw).1,fun j q0=>(g3 bl fw).2 j (bg bl j q0 cc b4)⟩
    ·obtain⟨cc,b4⟩:=xX g _ u bl J (by simp[U]) g1 fw;exact bg bl j q0 cc b4
   ·obtain⟨u,us,g1,g2,g3,g4⟩:=a7.own g o J;exact⟨u,us,by rw[JT g (by simp[J])];exact g1,g2,fun bl fw=>⟨R4 bl (g3 bl fw).1,(g3 bl fw).2⟩,rF hI (fun _ _ _ h=>h) g4⟩
  ·rcases E1 g _ J ao with⟨bE,a2,a3⟩|⟨bE,a2⟩<;>rcases E1 fb _ U a8 with⟨cc,b4,fD⟩|⟨cc,b4⟩
   ·exact h.good.oinj g fb n n' u e4 bl a2 b4 a3 fD bZ c4
   ·obtain⟨bI,ch⟩:=xX g n u bl bE a2 a3 bZ;exact absurd rfl (Af bl (Gp fb n' e4 bl cc b4 c4) bl bI ch)
   ·obtain⟨bI,ch⟩:=xX fb n' e4 bl cc b4 fD c4;exact absurd rfl (Af bl (Gp g n u bl bE a2 bZ) bl bI ch)
   ·exact a7.oinj g fb n n' u e4 bl bE cc a2 b4 bZ c4
  ·rcases E1 g _ J ao with⟨bE,a2,a3⟩|⟨bE,a2⟩<;>rcases isB k bl U bZ with⟨cc,b4,fD⟩|⟨cc,b4⟩
   ·exact h.good.obx g k n u bl a2 b4 a3 a8 fD
   ·obtain⟨bI,ch⟩:=xX g n u bl bE a2 a3 a8;exact absurd rfl (Af bl (DD k bl cc b4) bl bI ch)
   ·obtain⟨bI,ch⟩:=AR k bl cc b4 fD;exact absurd rfl (Af bl (Gp g n u bl bE a2 a8) bl bI ch)
   ·exact a7.obx g k n u bl bE cc a2 a8 b4
  ·
   cases lh:(ν.join bp s ai).bx k with
   |none=>exact .inl rfl
   |some bl=>
    right;cases BK:(ν.join bp s ai).ow k with
    |none=>rfl
    |some x=>
     exfalso;have ak:(ν.bx k=some bl∧¬(look k s.b).isSome∧¬(look k ai.b).isSome)∨bp.bx k=some bl:=by
      by_cases ag:(look k s.b).isSome∨(look k ai.b).isSome
      ·right;simpa[bd.join,ag]using lh
      ·left;simp only[not_or]at ag;exact⟨by simpa[bd.join,ag.1,ag.2]using lh,ag.1,ag.2⟩
     have aB:(ν.ow k=some x∧¬(look k s.e).isSome∧¬(look k ai.e).isSome)∨bp.ow k=some x:=by
      by_cases ag:(look k s.e).isSome∨(look k ai.e).isSome
      ·right;simpa[bd.join,ag]using BK
      ·left;simp only[not_or]at ag;exact⟨by simpa[bd.join,ag.1,ag.2]using BK,ag.1,ag.2⟩
     rcases ak with⟨bE,a2,a3⟩|bE<;>rcases aB with⟨cc,b4,fD⟩|cc
     ·rcases h.good.one k with cO|cO
      ·rw[cO]at bE;cases bE
      ·rw[cO]at cc;cases cc
     ·have tE:=W8 k x cc;have e8:(look k s.e).isSome:=by
       cases k with
       |loc m=>rw[sj.2 m]at tE;cases tE
       |obj m=>
        rcases cF m tE with cO|cO
        ·exact cO
        ·rw[(h.new (.obj m) ⟨trivial,cO⟩).1]at bE;cases bE
      obtain⟨o,EH⟩:=fG.1 (lq k e8);obtain⟨v',us,g1,_⟩:=h.good.own k o EH;rcases h.good.one k with cO|cO
      ·rw[cO]at bE;cases bE
      ·rw[cO]at g1;cases g1
     ·have w2:=W7 k bl bE;have e8:(look k s.b).isSome:=by
       cases k with
       |loc m=>rw[sj.1 m]at w2;cases w2
       |obj m=>
        rcases Jj m w2 with cO|cO
        ·exact cO
        ·rw[(h.new (.obj m) ⟨trivial,cO⟩).2.1]at cc;cases cc
      obtain⟨cs,dq⟩:=fG.1 (qp k e8);obtain⟨ic,us,el,g1,_⟩:=h.good.box k cs dq;rcases h.good.one k with cO|cO
      ·rw[cO]at g1;cases g1
      ·rw[cO]at cc;cases cc
     ·rcases a7.one k with cO|cO
      ·rw[cO]at bE;cases bE
      ·rw[cO]at cc;cases cc
  ·have RR:∀k j,bp.tr k j bl→w.heap.size≤bl:=fun k j cO=>by
    rcases(aI.trb k j bl cO).1 with a2|a2
    ·obtain⟨m,_,hm⟩:=(ab k).2.2 j bl cO;rw[hm]at a2;cases a2
    ·exact a2
   have hold:fu (ν.cut (inObs s)) s bl→¬ν.tr k j bl:=by
    rintro(⟨bM,bE,a2⟩|⟨g,n,u,bE,a2,a3⟩) cO
    ·exact h.good.otr bl (.inl ⟨bM,qp bM bE,(bd.cut_some a2).2⟩) k j cO
    ·exact h.good.otr bl (.inr ⟨g,n,u,lq g bE,(bd.cut_someO a2).2,a3⟩) k j cO
   have kj:fu (ν.cut (inObs s)) s bl∨w.heap.size≤bl→¬ν.tr k j bl:=by
    rintro(J|J) cO
    ·exact hold J cO
    ·have:=(h.fr.trb k j bl cO).2;omega
   rcases aN with⟨bM,bE,a2⟩|⟨g,n,u,bE,a2,a3⟩
   ·rcases isB bM bl bE a2 with⟨cc,b4,fD⟩|⟨cc,b4⟩
    ·rcases lr with lr|lr
     ·exact h.good.otr bl (.inl ⟨bM,b4,fD⟩) k j lr
     ·have:=(AR bM bl cc b4 fD).1;have:=RR k j lr;omega
    ·rcases lr with lr|lr
     ·exact kj (DD bM bl cc b4) lr
     ·exact a7.otr bl (.inl ⟨bM,cc,b4⟩) k j lr
   ·rcases E1 g _ bE a2 with⟨cc,b4,fD⟩|⟨cc,b4⟩
    ·rcases lr with lr|lr
     ·exact h.good.otr bl (.inr ⟨g,n,u,b4,fD,a3⟩) k j lr
     ·have:=(xX g n u bl cc b4 fD a3).1;have:=RR k j lr;omega
    ·rcases lr with lr|lr
     ·exact kj (Gp g n u bl cc b4 a3) lr
     ·exact a7.otr bl (.inr ⟨g,n,u,cc,b4,a3⟩) k j lr
  ·have bC:k<w.heap.size:=Nat.lt_of_lt_of_le ad h.fr.size;rw[JX k bC fun fw=>by
    rcases(qk k fw).1 with J|J
    ·exact hm J
    ·omega]
   exact h.fr.block k ad hm
  ·obtain⟨aT,bz⟩:=h.fr.keep b o q0;obtain⟨b6,dO⟩:=aI.keep b o aT;exact⟨b6,dO.trans bz⟩
  ·rcases aI.fresh b o q0 with a8|a8|a8
   ·exact h.fr.fresh b o a8
   ·exact .inr (qk b a8).1
   ·exact .inr (.inr (j4 h.fr.size a8))
  ·rcases J with J|J<;>rcases U with U|U
   ·exact h.fr.trd k j bM dA b J U
   ·have bE:=(h.fr.trb k j b J).2;have a2:=(aI.trb bM dA b U).1;rcases a2 with a2|a2
    ·obtain⟨m,_,hm⟩:=(ab bM).2.2 dA b U;rw[hm]at a2;cases a2
    ·simp only at a2;omega
   ·have bE:=(h.fr.trb bM dA b U).2;have a2:=(aI.trb k j b J).1;rcases a2 with a2|a2
    ·obtain⟨m,_,hm⟩:=(ab k).2.2 j b J;rw[hm]at a2;cases a2
    ·simp only at a2;omega
   ·exact aI.trd k j bM dA b J U
  ·rcases ae with ae|ae
   ·exact⟨(h.fr.trb k j b ae).1,Nat.lt_of_lt_of_le (h.fr.trb k j b ae).2 aI.size⟩
   ·refine⟨.inr ?_,(aI.trb k j b ae).2⟩;rcases(aI.trb k j b ae).1 with a2|a2
    ·obtain⟨m,_,hm⟩:=(ab k).2.2 j b ae;rw[hm]at a2;cases a2
    ·exact j4 h.fr.size a2
  ·have key:ν.bx k=none∧ν.ow k=none∧¬(look k ai.b).isSome∧¬(look k ai.e).isSome:=by
    rcases ae with ae|ae
    ·obtain⟨t1,t2⟩:=h.fr.trn k j b ae;refine⟨t1,t2,fun cO=>?_,fun cO=>?_⟩
     ·cases k with
      |loc m=>rw[sj.1 m]at cO;cases cO
      |obj m=>
       rcases Jj m cO with bZ|bZ
       ·obtain⟨cs,dq⟩:=fG.1 (qp _ bZ);obtain⟨ic,us,el,g1,_⟩:=h.good.box _ cs dq;rw[t1]at g1;cases g1
       ·exact(h.new (.obj m) ⟨trivial,bZ⟩).2.2 j b ae
     ·cases k with
      |loc m=>rw[sj.2 m]at cO;cases cO
      |obj m=>
       rcases cF m cO with bZ|bZ
       ·obtain⟨cs,dq⟩:=fG.1 (lq _ bZ);obtain⟨ic,us,g1,_⟩:=h.good.own _ cs dq;rw[t2]at g1;cases g1
       ·exact(h.new (.obj m) ⟨trivial,bZ⟩).2.2 j b ae
    ·obtain⟨m,hm,rfl⟩:=(ab k).2.2 j b ae;obtain⟨t1,t2,_⟩:=aeO m hm;exact⟨t1,t2,by simp[sj.1 m],by simp[sj.2 m]⟩
   obtain⟨t1,t2,t3,t4⟩:=key;have t5:¬(look k s.b).isSome:=fun cO=>by obtain⟨cs,dq⟩:=fG.1 (qp _ cO);obtain⟨ic,us,el,g1,_⟩:=h.good.box _ cs dq;rw[t1]at g1;cases g1
   have t6:¬(look k s.e).isSome:=fun cO=>by obtain⟨cs,dq⟩:=fG.1 (lq _ cO);obtain⟨ic,us,g1,_⟩:=h.good.own _ cs dq;rw[t2]at g1;cases g1
   exact⟨by simp[bd.join,t3,t5,t1],by simp[bd.join,t4,t6,t2]⟩
  ·
   simp only at ad;obtain⟨ad,adQ⟩:=di k ad;have RW:(∀j b,¬ν.tr k j b)→∀j b,¬(ν.join bp s ai).tr k j b:=fun J j b ae=>by
    rcases ae with ae|ae
    ·exact J j b ae
    ·obtain⟨m,hm,e⟩:=(ab k).2.2 j b ae;exact adQ m hm e
   cases k with
   |loc m=>obtain⟨hV,fZ,iW⟩:=h.new (.loc m) (IB (eR _) (fun _ h=>List.mem_append_left _ h) ad);exact⟨by simp[bd.join,tG.1 m,sj.1 m,hV],by simp[bd.join,tG.2 m,sj.2 m,fZ],RW iW⟩
   |obj m=>
    simp only[fresh,kx,not_or,true_and]at ad;obtain⟨hV,fZ,iW⟩:=h.new (.obj m) ⟨trivial,ad.1⟩;have a6:¬(look (.obj m) ai.b).isSome:=fun cO=>ad.2 (sF (.inl cO));have bu:¬(look (.obj m) ai.e).isSome:=fun cO=>ad.2 (sF (.inr cO));have bV:¬(look (.obj m) s.b).isSome:=fun cO=>by obtain⟨cs,dq⟩:=fG.1 (qp _ cO);obtain⟨ic,us,el,g1,_⟩:=h.good.box _ cs dq;rw[hV]at g1;cases g1
    have cW:¬(look (.obj m) s.e).isSome:=fun cO=>by obtain⟨cs,dq⟩:=fG.1 (lq _ cO);obtain⟨v',us,g1,_⟩:=h.good.own _ cs dq;rw[fZ]at g1;cases g1
    exact⟨by simp[bd.join,a6,bV,hV],by simp[bd.join,bu,cW,fZ],RW iW⟩
 exact pC.put aQ (xT hI aL)
inductive eb where
 |s (i:ei)
 |call (d:aY Nat) (f:dr) (xs:List dr)
 |next (d:Nat) (x:dr)
structure c2 where
 g:aY (Nat×Bool)
 i:eb
def ei.dst:ei→aY Nat
 | .v d _| .box d _ _| .alloc d _ _| .bsl d _ _ _| .app d _ _ _ _| .bslm d _ _ _ _| .appm d _ _ _ _ _| .mkmap d _| .range d _ _| .mks d _ _ _ _ _=>some d
 | .store _ _ _| .mput _ _ _ _| .storeE _ _ _=>none
def eb.dst:eb→aY Nat
 | .s i=>i.dst
 | .call d _ _=>d
 | .next d _=>some d
def c7(P:cC)(n:Nat)(args:List ah)(st:bq)(d:aY Nat)(K:bq→Prop):Prop:=
 (∃s Q,gy (inObs s) s.b st.b∧ot (inObs s) s.e st.e∧iH s∧aK (inObs s) args∧bQ P n args s Q∧
  ∀r ai,Q r ai→((∀m,(look (.obj m) ai.b).isSome→(look (.obj m) s.b).isSome∨ .obj m∉st.o)∧(∀m,(look (.obj m) ai.e).isSome→(look (.obj m) s.e).isSome∨ .obj m∉st.o))∧K (after st s ai d r))∨
 (∃s Q,gy (inObs s) s.b st.b∧ot (inObs s) s.e st.e∧iH s∧aK (inObs s) args∧ .loc st.n∉st.o∧G3 P n st.n args s Q∧
  ∀r ai,Q r ai→((∀m,(look (.obj m) ai.b).isSome→(look (.obj m) s.b).isSome∨ .obj m∉st.o)∧(∀m,(look (.obj m) ai.e).isSome→(look (.obj m) s.e).isSome∨ .obj m∉st.o))∧K {after st s ai d r with n:=st.n+1})
def Kz(st:bq)(d:Nat)(fh mk:aH)(since:Nat)(seen:List Nat)(last clock:Nat)(borns:List Nat)(kvs:List ah)(K:bq→Prop):Prop:=
 (since=clock∧last=clock)∧((∀b∈borns,b∈seen)→K {st with t:=put d (.tuple [.bool false]) st.t})∧
 (∀b k v,mv b borns kvs=some (.tuple [k,v])→b∉seen→K {st with t:=put d (.tuple [.bool true,k,v]) st.t,b:=cx fh [.hdi since (seen++[b]) last,.gmap mk] st.b})
def r5(st:bq)(d:Nat)(v:ah)(K:bq→Prop):Prop:=
 match v with
 | .ptr fh 0=>match look fh st.b with
  |some [.hdi since seen last,.gmap mk]=>match look mk st.b with
   |some (.hdm clock borns::kvs)=>Kz st d fh mk since seen last clock borns kvs K
   |_=>eQ
  |_=>eQ
 |_=>eQ
def tj(P:cC)(st:bq)(K:bq→Prop):eb→Prop
 | .next d x=>r5 st d (ck st.t x) K
 | .s i=>match l0 st i with
  |some (c,st')=>c∧K st'
  |none=>eQ
 | .call d f xs=>match ck st.t f with
  | .func n dm=>c7 P n (cY (xs.map (ck st.t)++dm)) st d K
  |_=>eQ
def hR(P:cC):List c2→bq→(bq→Prop)→Prop
 |[],st,K=>K st
 |⟨none,i⟩::r,st,K=>tj P st (fun st'=>hR P r st' K) i
 |⟨some (s,want),i⟩::r,st,K=>match get s st.t with
  | .bool b=>(b=want→tj P {st with t:=put s (.bool want) st.t} (fun st'=>hR P r st' K) i)∧(b= !want→hR P r {st with t:=eK i.dst (.tuple []) (put s (.bool !want) st.t)} K)
  | .tuple []=>hR P r {st with t:=eK i.dst (.tuple []) st.t} K
  |_=>eQ
def ud(N:Nat)(bB:List (Nat×dB))(i:eb)(o:Oper):Bool:=
 match i with
 | .s i=>CU N bB i o
 | .next d x=>match o.op with
  | .next it false=>o.dst==some d&&decide (d<N)&&eg x it
  |_=>false
 | .call d f xs=>match o.op with
  | .call ⟨.value qT,args,_⟩=>o.dst==d&&jd N d&&eg f qT&&xJ xs args.toList
  |_=>false
def Be(N:Nat)(bB:List (Nat×dB))(ops:List Oper)(g:c2)(o:Oper):Bool:=
 (match g.g,o.guard with
  |none,none=>true
  |some (s,b),some (j,bO)=>b==bO&&((ops[j]?).bind (·.dst))==some s&&decide (s<N)&&o.dst==g.i.dst&&jd N g.i.dst
  |_,_=>false)&&ud N bB g.i o
def kd(N:Nat)(bB:List (Nat×dB))(ops:List Oper):List c2→List Oper→Bool
 |[],[]=>true
 |g::gs,o::os=>Be N bB ops g o&&kd N bB ops gs os
 |_,_=>false
theorem VB{w:World}{ν:bd}:∀{ct bL:List ah} {bc us:List Value},cN w ν ct bc→cN w ν bL us→cN w ν (ct++bL) (bc++us)
 |[],bL,bc,us,h,cr=>by simp only[cN]at h;subst h;simpa using cr
 |p::ct,bL,bc,us,h,cr=>by simp only[cN]at h;obtain⟨u,cg,rfl,J,U⟩:=h;simp only[bU,cN];exact⟨u,_,rfl,J,VB U cr⟩
theorem we.mono{P:cC}{f:FuncId}{bc:Array Value}{w:World}{R MU:Ending→World→Prop}(h:we P f bc w R)(bh:∀e w',R e w'→MU e w'):we P f bc w MU:=by
 rcases h with⟨J,U⟩|⟨v,w',J,U⟩
 ·exact .inl ⟨J,U.mono bh⟩
 ·exact .inr ⟨v,w',J,bh _ _ U⟩
theorem Pz{P:cC}{C:fa}{st:bq}{a:Act}{w:World}{ν:bd}(aL:cP C st a w ν){o:Oper}{qT:Operand}{args:Array Operand}{Am:Array fT}(mR:o.op= .call ⟨.value qT,args,Am⟩){d:aY Nat}(aQ:o.dst=d)(wX:jd C.N d=true)
  {n:Nat} {dm:List ah} (aI:ba w ν (.func n dm) (a.eval qT)) {ct:List ah} (tt:cN w ν ct (args.toList.map a.eval)) {K:bq→Prop}
  (ax:∃(s:cJ) (p7:ah→cJ→Prop) (κ:aY Nat) (n':Nat) (o':cJ→List aH),gy (inObs s) s.b st.b∧ot (inObs s) s.e st.e∧iH s∧aK (inObs s) (cY (ct++dm))∧(∀(w:World) (ν:bd) (bc:Array Value),Good (fu ν s) w ν s.b s.e→oS ν s→cN w ν (cY (ct++dm)) bc.toList→
   we P n bc w fun e w'=> ∃v r ai bp,e= .returned v∧p7 r ai∧ba w' bp r v∧Good (fun bl=>fu ν s bl∨w.heap.size≤bl) w' bp ai.b ai.e∧D7 κ bp ai∧iH ai∧p5 ⟨w,ν,fu ν s,0,cS s⟩ w' bp)∧
   (∀m,κ=some m→fresh st.n st.o (.loc m))∧(∀k r ai,p7 r ai→fresh n' (o' ai) k→fresh st.n (st.o++cS ai) k∧∀m,κ=some m→k≠ .loc m)∧
   ∀r ai,p7 r ai→((∀m,(look (.obj m) ai.b).isSome→(look (.obj m) s.b).isSome∨ .obj m∉st.o)∧(∀m,(look (.obj m) ai.e).isSome→(look (.obj m) s.e).isSome∨ .obj m∉st.o))∧K {after st s ai d r with n:=n',o:=o' ai})
  {qL:Act→World→Prop} {Q:Exit→Act→World→Prop} (c9:∀st' bn w' bp,K st'→cP C st' bn w' bp→qL bn w'):o.wp P a w qL Q:=by
 obtain⟨s,p7,κ,n',o',bI,ch,dc,ie,lL,PR,PK,oL⟩:=ax;simp only[ba]at aI;obtain⟨us,aJ,hu⟩:=aI;have mi:cN w (ν.cut (inObs s)) (cY (ct++dm)) ((args.map a.eval)++us).toList:=by refine xS (oH.cut _ w ν) _ _ ie (Gl _ _ ?_);simpa using VB tt hu
 have q7:Good (fu (ν.cut (inObs s)) s) w (ν.cut (inObs s)) s.b s.e:=aL.good.cut bI ch (fun bl _ h=>h);have hex:oS (ν.cut (inObs s)) s:=by
  intro k;refine⟨?_,?_,?_⟩;rotate_left 2
  ·rintro j b ⟨ag,ae⟩;obtain⟨t1,t2⟩:=aL.fr.trn k j b ae;rcases ag with ag|ag<;>obtain⟨x,ab⟩:=fG.1 ag
   ·obtain⟨bl,cg,el,ak,_⟩:=aL.good.box k x (bI k x ab).1;rw[t1]at ak;cases ak
   ·obtain⟨v',cg,ak,_⟩:=aL.good.own k x (ch k x ab).1;rw[t2]at ak;cases ak
  ·intro au;by_cases ag:inObs s k
   ·rw[bd.cut_bx ag];rcases ag with ag|ag
    ·rw[au]at ag;cases ag
    ·obtain⟨x,ab⟩:=fG.1 ag;obtain⟨v',cg,ak,_⟩:=aL.good.own k x (ch k x ab).1;rcases aL.good.one k with J|J
     ·exact J
     ·rw[J]at ak;cases ak
   ·exact(bd.cut_no ag).1
  ·intro au;by_cases ag:inObs s k
   ·rw[bd.cut_ow ag];rcases ag with ag|ag
    ·obtain⟨x,ab⟩:=fG.1 ag;obtain⟨bl,cg,el,ak,_⟩:=aL.good.box k x (bI k x ab).1;rcases aL.good.one k with J|J
     ·rw[J]at ak;cases ak
     ·exact J
    ·rw[au]at ag;cases ag
   ·exact(bd.cut_no ag).2.1
 rcases lL w (ν.cut (inObs s)) ((args.map a.eval)++us) q7 hex mi with⟨⟨fn,g1,g2,g3⟩,lL⟩|⟨v,w',lL,bJ⟩
 ·obtain⟨code,ado⟩:=fG.1 g2;have iE:(execOp a.eval o).run P w= .ok (.enter n ((args.map a.eval)++us)) w:=by obtain⟨dst,op,ty,pos,M1,uX⟩:=o;simp only at mR;subst mR;simp only[execOp,resolve,aJ,Deferred.ofValue,fF,gp,fK,invoke,callFunc,run_program,g1,g3,ado];simp
  unfold Oper.wp;rw[iE];simp only[Oper.upon];refine lL.mono fun e w' bJ=>?_;obtain⟨v,r,ai,bp,rfl,bo,a6,bu,bV,cW,da⟩:=bJ;obtain⟨⟨hV,fZ⟩,ad⟩:=oL r ai bo;rw[aQ];exact c9 _ _ _ _ ad (aL.callK bI ch dc bu bV (fun m hm=>aL.new _ (PR m hm)) (n':=n') (o':=o' ai) (fun k ad=>PK k r ai bo ad) cW da hV fZ d wX a6)
 ·have iE:(execOp a.eval o).run P w= .ok (.value v) w':=by obtain⟨dst,op,ty,pos,M1,uX⟩:=o;simp only at mR;subst mR;simp only[execOp,resolve,aJ,Deferred.ofValue,fF,gp,fK,invoke];simpa using lL
  obtain⟨v2,r,ai,bp,BW,bo,a6,bu,bV,cW,da⟩:=bJ;cases BW;obtain⟨⟨hV,fZ⟩,ad⟩:=oL r ai bo;refine l3 iE ?_;rw[aQ];exact c9 _ _ _ _ ad (aL.callK bI ch dc bu bV (fun m hm=>aL.new _ (PR m hm)) (n':=n') (o':=o' ai) (fun k ad=>PK k r ai bo ad) cW da hV fZ d wX a6)
theorem Py{P:cC}{C:fa}{st:bq}{a:Act}{w:World}{ν:bd}(aL:cP C st a w ν){o:Oper}{qT:Operand}{args:Array Operand}{Am:Array fT}(mR:o.op= .call ⟨.value qT,args,Am⟩){d:aY Nat}(aQ:o.dst=d)(wX:jd C.N d=true)
  {n:Nat} {dm:List ah} (aI:ba w ν (.func n dm) (a.eval qT)) {ct:List ah} (tt:cN w ν ct (args.toList.map a.eval)) {K:bq→Prop} (ax:c7 P n (cY (ct++dm)) st d K)
  {qL:Act→World→Prop} {Q:Exit→Act→World→Prop} (c9:∀st' bn w' bp,K st'→cP C st' bn w' bp→qL bn w'):o.wp P a w qL Q:=by
 refine Pz aL mR aQ wX aI tt (K:=K) ?_ c9;rcases ax with⟨s,p7,bI,ch,dc,ie,lL,oL⟩|⟨s,p7,bI,ch,dc,ie,iz,lL,oL⟩
 ·refine⟨s,p7,none,st.n,fun ai=>st.o++cS ai,bI,ch,dc,ie,fun w ν bc J U ao=>(lL w ν bc J U ao).mono fun e w' bJ=>?_,fun m hm=>(by cases hm),fun k _ ai _ ad=>⟨ad,fun m hm=>by cases hm⟩,oL⟩;obtain⟨v,r,ai,bp,g1,g2,g3,g4,g5,g6⟩:=bJ;exact⟨v,r,ai,bp,g1,g2,g3,g4,g5.k,g6⟩
 ·refine⟨s,p7,some st.n,st.n+1,fun ai=>st.o++cS ai,bI,ch,dc,ie,lL,fun m hm=>(by cases hm;exact⟨eR _,iz⟩),fun k _ ai _ ad=>⟨IB (Nat.le_succ _) (fun _ h=>h) ad,fun m hm=>?_⟩,oL⟩;cases hm;rintro rfl;have:=ad.1;simp only at this;omega
theorem cP.drawn{C:fa}{st:bq}{a:Act}{w:World}{ν:bd}(aL:cP C st a w ν)(n:Nat):cP C st a {w with drawn:=n} ν:=by
 have kG:k9 w ν {w with drawn:=n} ν:=⟨fun _ _ h=>⟨h,rfl⟩,fun _ _ _ h=>h,fun _ n u _ h=>⟨n,u,h,.inl ⟨rfl,rfl⟩⟩,fun _ _ _=>rfl,fun _ _ _ _ h=>h⟩;refine aL.over kG rfl ⟨aL.good.alt,fun k cs ad=>?_,aL.good.inj,fun g o a7=>?_,aL.good.oinj,aL.good.obx,aL.good.one,aL.good.otr⟩ ⟨aL.fr.os,aL.fr.tape,aL.fr.output,aL.fr.size,aL.fr.block,aL.fr.keep,aL.fr.fresh,aL.fr.obj,aL.fr.obn,aL.fr.row,aL.fr.obr,aL.fr.trd,aL.fr.trb,aL.fr.trn,aL.fr.sh⟩ aL.new
 ·obtain⟨bl,us,el,J,U,ao,a8,bZ⟩:=aL.good.box k cs ad;exact⟨bl,us,el,J,U,ao,a8,pU kG bZ⟩
 ·obtain⟨v,us,J,U,ao,a8⟩:=aL.good.own g o a7;exact⟨v,us,J,U,ao,rF kG (fun _ _ _ h=>h) a8⟩
theorem ab1{α:Type}{l:List α}{p:α→Bool}(h:∀x∈l,p x=false):l.filter p=[]:=by rw[List.filter_eq_nil_iff];intro x ab;simp[h x ab]
theorem ab0{α:Type}{l:List α}{p:α→Bool}(h:∀x∈l,p x=true):l.filter p=l:=List.filter_eq_self.2 h
def FB(r m since clock:Nat)(seen:Array Nat)(PA:Array (aY MapEntry)):Sem Value:=do
 match PA[←choose (.mapNext PA.size)]? with
 |some (some e)=>
  setObj r (.mapIter (some m) since (seen.push e.born) clock)
  pure (.tuple #[.bool true,e.key,e.val])
 |some none=>pure (.tuple #[.bool false])
 |none=>stuck "Next: no such candidate"
theorem VM{P:cC}{w:World}(r m since clock:Nat)(seen:Array Nat)(l:List (aY MapEntry))(au:l≠[]):∃n x,x∈l∧(FB r m since clock seen l.toArray).run P w=
  (match x with|some e=>(do setObj r (.mapIter (some m) since (seen.push e.born) clock);pure (.tuple #[.bool true,e.key,e.val]):Sem Value)|none=>pure (.tuple #[.bool false])).run P {w with drawn:=n}:=by
 have fm:0<l.length:=List.length_pos_iff.2 au;unfold FB;have key:∀i,i<l.length→∀w',((do match(l.toArray[i]?:aY (aY MapEntry))with
   |some (some e)=>setObj r (.mapIter (some m) since (seen.push e.born) clock);pure (.tuple #[.bool true,e.key,e.val])
   |some none=>pure (.tuple #[.bool false])
   |none=>stuck "Next: no such candidate" :Sem Value)).run P w'=((match l[i]! with|some e=>(do setObj r (.mapIter (some m) since (seen.push e.born) clock);pure (.tuple #[.bool true,e.key,e.val]):Sem Value)|none=>pure (.tuple #[.bool false]))).run P w':=by
  intro i hi w';have J:l.toArray[i]? =some l[i]!:=by simp[hi]
  rw[J];cases l[i]!<;>rfl
 by_cases aI:(Question.mapNext l.length).forced=true
 ·refine⟨w.drawn,l[0]!,by simp[fm],?_⟩;rw[←key 0 fm];have ax:(choose (.mapNext l.length):Sem Nat).run P w= .ok 0 w:=by simp[aI]
  simp only[List.size_toArray,fF,ax,fK]
 ·refine⟨w.drawn+1,l[(w.tape w.drawn (.mapNext l.length))%l.length]!,by simp[Nat.mod_lt _ fm],?_⟩;rw[←key _ (Nat.mod_lt _ fm)];have ax:(choose (.mapNext l.length):Sem Nat).run P w= .ok ((w.tape w.drawn (.mapNext l.length))%l.length) {w with drawn:=w.drawn+1}:=by simp[aI,Question.cut]
  simp only[List.size_toArray,fF,ax,fK]
theorem ajX{P:cC}{w:World}{bl mb:Nat}{seen:List Nat}{es:List MapEntry}{clock:Nat}{ty:fT}(J:w.heap[bl]? =some (.mapIter (some mb) clock seen.toArray clock))(U:w.heap[mb]? =some (.map es.toArray clock))(bC:∀e∈es,e.born<clock):
  ∃n,((∀e∈es,e.born∈seen)∧(Instr.next (.pointer (some ⟨bl,0,none⟩)) false ty).run P w= .ok (.tuple #[.bool false]) {w with drawn:=n})∨
   ∃e∈es,e.born∉seen∧(Instr.next (.pointer (some ⟨bl,0,none⟩)) false ty).run P w= .ok (.tuple #[.bool true,e.key,e.val]) {w with drawn:=n,heap:=w.heap.setIfInBounds bl (.mapIter (some mb) clock (seen++[e.born]).toArray clock)}:=by
 have gr:(!seen.toArray.isEmpty&& !es.toArray.isEmpty&&es.toArray.all (fun e=>decide (e.born≥clock)))=false:=by
  cases es with
  |nil=>simp
  |cons e r=>have:=bC e (by simp);simp;intro _ h;omega
 generalize jr:(es.filter fun e=> !seen.contains e.born)=left;have adW:(es.toArray.filter fun e=> !seen.toArray.contains e.born)=left.toArray:=by rw[←jr];simp
 have jt:∀e∈left,e∈es∧e.born∉seen:=fun e he=>by rw[←jr]at he;have:=nj.1 he;exact⟨this.1,by simpa using this.2⟩
 have hold:(left.toArray.filter fun e=>decide (e.born<clock))=left.toArray:=by rw[List.filter_toArray,ab0];intro e he;have:=bC e (jt e he).1;simp[this]
 have kj:(left.toArray.filter fun e=>decide (e.born≥clock))= #[]:=by rw[List.filter_toArray,ab1];intro e he;have:=bC e (jt e he).1;simp;omega
 have iE:(Instr.next (.pointer (some ⟨bl,0,none⟩)) false ty).run P w=(FB bl mb clock clock seen.toArray ((if left.toArray.isEmpty then #[none]else #[])++(left.toArray++ #[]).map some)).run P w:=by unfold Instr.next FB;simp only[fF,uo J,uo U,fK,gr,adW,hold,kj,gP,if_false];rfl
 rw[iE];by_cases y3:left=[]
 ·subst y3;obtain⟨n,x,g1,g2⟩:=VM (P:=P) (w:=w) bl mb clock clock seen.toArray [none] (by simp);refine⟨n,.inl ⟨fun e he=>?_,?_⟩⟩
  ·have:=List.filter_eq_nil_iff.1 jr e he;simpa using this
  ·simp only[List.mem_singleton]at g1;subst g1;have ax:((if(([]:List MapEntry).toArray).isEmpty then #[none]else #[])++(([]:List MapEntry).toArray++ #[]).map some)=[none].toArray:=by simp
   rw[ax,g2];rfl
 ·have ax:((if left.toArray.isEmpty then #[none]else #[])++(left.toArray++ #[]).map some)=(left.map some).toArray:=by simp[y3]
  obtain⟨n,x,g1,g2⟩:=VM (P:=P) (w:=w) bl mb clock clock seen.toArray (left.map some) (by simpa using y3);simp only[h8]at g1;obtain⟨e,he,rfl⟩:=g1;refine⟨n,.inr ⟨e,(jt e he).1,(jt e he).2,?_⟩⟩;rw[ax,g2];simp only[fF];rw[CT (w:={w with drawn:=n}) (o:= .mapIter (some mb) clock seen.toArray clock) J];simp
theorem Ia:∀{borns:List Nat} {us:List Value} {e:MapEntry},e∈fv borns us→e.born∈borns
 |[],us,e,h=>by simp[fv]at h
 |b::eN,[],e,h=>by simp[fv]at h
 |b::eN,[_],e,h=>by simp[fv]at h
 |b::eN,k::v::us,e,h=>by
  simp only[fv,fU]at h;rcases h with rfl|h
  ·simp
  ·exact pf _ (Ia h)
theorem P3:∀{borns:List Nat} {kvs:List ah} {us:List Value},kvs.length=2*borns.length→us.length=kvs.length→∀{b:Nat},b∈borns→∃e∈fv borns us,e.born=b
 |[],_,_,_,_,b,ae=>by simp at ae
 |bO::eN,kvs,[],J,U,b,ae=>by rw[J]at U;simp at U
 |bO::eN,kvs,[_],J,U,b,ae=>by rw[J]at U;simp at U;omega
 |bO::eN,kvs,k::v::us,J,U,b,ae=>by
  rcases fU.1 ae with rfl|ae
  ·exact⟨⟨k,v,b⟩,by simp[fv],rfl⟩
  ·obtain⟨e,g1,g2⟩:=P3 (kvs:=kvs.drop 2) (us:=us) (borns:=eN) (by simp at J⊢;omega) (by simp at J U⊢;omega) ae;exact⟨e,by simp[fv,g1],g2⟩
theorem TB{w:World}{ν:bd}:∀{borns:List Nat} {kvs:List ah} {us:List Value},kvs.length=2*borns.length→borns.Pairwise (· < ·)→cN w ν kvs us→∀{e:MapEntry},e∈fv borns us→∃k v,mv e.born borns kvs=some (.tuple [k,v])∧ba w ν k e.key∧ba w ν v e.val
 |[],_,_,_,_,_,e,h=>by simp[fv]at h
 |b::eN,[],us,J,_,_,e,_=>by simp at J
 |b::eN,[_],us,J,_,_,e,_=>by simp at J;omega
 |b::eN,k::v::kvs,us,J,U,ao,e,h=>by
  simp only[cN]at ao;obtain⟨h7,Mj,rfl,dI,iK,rL,rfl,eY,kJ⟩:=ao;simp only[fv,fU]at h;rw[mC]at U;rcases h with rfl|h
  ·exact⟨k,v,by simp[mv],dI,eY⟩
  ·obtain⟨bM,v',g1,g2,g3⟩:=TB (by simp at J;omega) U.2 kJ h;have cF:b≠e.born:=Nat.ne_of_lt (U.1 _ (Ia h));exact⟨bM,v',by simp[mv,cF,g1],g2,g3⟩
theorem ags{P:cC}{C:fa}{st:bq}{a:Act}{w:World}{ν:bd}(aL:cP C st a w ν){o:Oper}{it:Operand}(mR:o.op= .next it false){d:Nat}(aQ:o.dst=some d)(wX:jd C.N (some d)=true){v:ah}(aJ:ba w ν v (a.eval it)){K:bq→Prop}(he:r5 st d v K)
  {qL:Act→World→Prop} {Q:Exit→Act→World→Prop} (c9:∀st' bn w' bp,K st'→cP C st' bn w' bp→qL bn w'):o.wp P a w qL Q:=by
 unfold r5 at he;split at he
 ·rename_i fh;split at he
  ·rename_i since seen last mk u4;split at he
   ·rename_i clock borns kvs xa;obtain⟨⟨rfl,rfl⟩,yX,n2⟩:=he;simp only[ba]at aJ;obtain⟨bl,cc,b4⟩:=aJ;obtain⟨ic,us,el,a6,bu,bV,cW,da⟩:=aL.good.box fh _ u4;rw[cc]at a6;cases a6;obtain⟨mb,ms,apz,m1,m2,m3,m4,m5⟩:=aL.good.box mk _ xa;simp only[iY,cN]at da;obtain⟨u,cg,hu,⟨apy,dI,rfl⟩,rfl⟩:=da;rw[m1]at dI;cases dI;simp only[jB,hu]at cW;simp only[jB]at m4;simp only[iY]at m5;obtain⟨n,lO⟩:=ajX (P:=P) (ty:=o.type) cW m4 (fun e he=>m5.2.lt _ (Ia he));have mf:∀v' w',(Instr.next (.pointer (some ⟨bl,0,none⟩)) false o.type).run P w= .ok v' w'→(execOp a.eval o).run P w= .ok (.value v') w':=by intro v' w' iE;obtain⟨dst,op,ty,pos,M1,uX⟩:=o;simp only at mR iE;subst mR;simp only[execOp,b4];exact Dc iE
    rcases lO with⟨J,U⟩|⟨e,J,U,ao⟩
    ·refine l3 (mf _ _ U) ?_;rw[aQ];refine c9 _ _ _ _ (yX fun b ae=>?_) ((aL.drawn n).put wX (p:= .tuple [.bool false]) (by simp[ba,cN]));obtain⟨e,f1,f2⟩:=P3 m5.2.len (Gj m5.1) ae;rw[←f2];exact J e f1
    ·obtain⟨k,v,f1,f2,f3⟩:=TB m5.2.len m5.2.inc m5.1 J;refine l3 (mf _ _ ao) ?_;rw[aQ];have vf:=((aL.drawn n).setBox (w':={w with drawn:=n,heap:=w.heap.setIfInBounds bl (.mapIter (some mb) last (seen++[e.born]).toArray last)}) u4 cc (cs':=[.hdi last (seen++[e.born]) last,.gmap mk]) (us:=us) (el:=el) rfl rfl rfl
      (fun j af=>Array.getElem?_setIfInBounds_ne (kP af)) (by simp) (by simp[jB,hu,(Array.getElem?_eq_some_iff.1 cW).1]) (by simp only[iY,cN];exact⟨_,_,hu,by simp only[ba];exact⟨mb,m1,rfl⟩,rfl⟩))
     refine c9 _ _ _ _ (n2 e.born k v f1 U) (vf.1.put wX (p:= .tuple [.bool true,k,v]) ?_);simp only[ba];refine⟨_,rfl,?_⟩;simp only[cN];have kG:k9 w ν {w with drawn:=n} ν:=⟨fun _ _ h=>⟨h,rfl⟩,fun _ _ _ h=>h,fun _ n u _ h=>⟨n,u,h,.inl ⟨rfl,rfl⟩⟩,fun _ _ _=>rfl,fun _ _ _ _ h=>h⟩;exact⟨_,_,rfl,by simp[ba],_,_,rfl,xT vf.2 (xT kG f2),_,_,rfl,xT vf.2 (xT kG f3),rfl⟩
   ·exact he.elim
  ·exact he.elim
 ·exact he.elim
theorem P7{P:cC}{bB:List (Nat×dB)}(aN:fN P bB=true){C:fa}{st:bq}{a:Act}{w:World}{ν:bd}(aL:cP C st a w ν){i:eb}{o:Oper}(aw:ud C.N bB i o=true){K:bq→Prop}(he:tj P st K i)
  {qL:Act→World→Prop} {Q:Exit→Act→World→Prop} (c9:∀st' bn w' bp,K st'→cP C st' bn w' bp→qL bn w'):o.wp P a w qL Q:=by
 cases i with
 |s i=>
  simp only[tj]at he;split at he
  ·rename_i c st' ag;exact aj0 aN aL (by simpa only[ud]using aw) ag he.1 fun bn w' bp h=>c9 _ _ _ _ he.2 h
  ·exact he.elim
 |next d x=>
  simp only[tj]at he;simp only[ud]at aw;split at aw
  ·rename_i it mR;simp only[cA,dL,fH]at aw;obtain⟨⟨J,U⟩,ao⟩:=aw;exact ags aL mR J (by simpa[jd]using U) (eh aL ao) he c9
  ·cases aw
 |call d f xs=>
  simp only[tj]at he;simp only[ud]at aw;split at aw
  ·rename_i qT args Am mR;simp only[cA,dL]at aw;obtain⟨⟨⟨J,U⟩,ao⟩,a8⟩:=aw;split at he
   ·rename_i n dm aI;have:=eh aL ao;rw[aI]at this;exact Py aL mR J U this (CP aL a8) he c9
   ·exact he.elim
  ·cases aw
theorem Lv{C:fa}{st:bq}{a:Act}{w:World}{ν:bd}(h:cP C st a w ν){s:Nat}{b:Bool}(ag:get s st.t= .bool b):cP C {st with t:=put s (.bool b) st.t} a w ν:=by
 refine⟨h.good,h.fr,h.defers,h.size,fun i=>?_,h.new⟩;have:=h.slot i;simp only[oU];split
 ·rename_i e;subst e;rw[←ag];exact this
 ·exact this
theorem W9{C:fa}{st:bq}{a:Act}{w:World}{ν:bd}(h:cP C st a w ν){ops:Array Oper}{j s:Nat}(af:(ops.toList[j]?).bind (·.dst)=some s)(ag:s<C.N):
  (∀b,get s st.t= .bool b→yielded ops a.tmps j=some b)∧(get s st.t= .tuple []→yielded ops a.tmps j=none):=by
 have bC:s<a.tmps.size:=by rw[h.size];exact ag
 have rf:=h.slot s;have gT:a.tmps.getD s undef=a.tmps[s]:=by simp[Array.getD,bC]
 rw[gT]at rf;have aG:yielded ops a.tmps j=match a.tmps[s]with| .bool b=>some b|_=>none:=by unfold yielded;rw[sV]at af;rw[af];simp only[j5,Array.getElem?_eq_getElem bC];cases a.tmps[s]<;>rfl
 constructor
 ·intro b ae;rw[ae]at rf;simp only[ba]at rf;rw[aG,rf]
 ·intro ae;rw[ae]at rf;simp only[ba,cN]at rf;obtain⟨us,ak,aB⟩:=rf;rw[aG,ak]
theorem Qb{P:cC}{bB:List (Nat×dB)}(aN:fN P bB=true){C:fa}{ops:Array Oper}{K:bq→Prop}{Q:Exit→Act→World→Prop}(hT:∀st' bn w' bp,K st'→cP C st' bn w' bp→Q .normal bn w'):
  ∀(gs:List c2) (os:List Oper) (k:Nat),(∀j,os[j]? =ops[k+j]?)→kd C.N bB ops.toList gs os=true→∀(st:bq) (a:Act) (w:World) (ν:bd),hR P gs st K→cP C st a w ν→wpOps P ops Q (List.range' k gs.length) a w
 |[],[],k,_,_,st,a,w,ν,he,aL=>by simp only[List.length_nil,List.range'_zero,wpOps];exact hT _ _ _ _ he aL
 |[],_::_,_,_,ad,_,_,_,_,_,_=>by simp[kd]at ad
 |_::_,[],_,_,ad,_,_,_,_,_,_=>by simp[kd]at ad
 |g::gs,o::os,k,y8,ad,st,a,w,ν,he,aL=>by
  simp only[kd,cA]at ad;have bA:ops[k]? =some o:=by simpa using(y8 0).symm
  have BO:∀j,os[j]? =ops[k+1+j]?:=fun j=>by have:=y8 (j+1);simpa[Nat.add_assoc,Nat.add_comm 1 j]using this
  simp only[p2,List.range'_succ,wpOps,bA];have bT:∀st' bn w' bp,hR P gs st' K→cP C st' bn w' bp→wpOps P ops Q (List.range' (k+1) gs.length) bn w':=fun st' bn w' bp J U=>Qb aN hT gs os (k+1) BO ad.2 st' bn w' bp J U;obtain⟨mK,Q2⟩:=g;have a7:=ad.1;simp only[Be,cA]at a7;obtain⟨qn,q6⟩:=a7;cases mK with
  |none=>
   cases eT:o.guard with
   |some x=>simp[eT]at qn
   |none=>
    have hw:oD o (yielded ops a.tmps)=true:=by simp[oD,eT]
    rw[if_pos hw];simp only[hR]at he;exact .inl (P7 aN aL q6 he bT)
  |some x5=>
   obtain⟨s,want⟩:=x5;cases eT:o.guard with
   |none=>simp[eT]at qn
   |some x=>
    obtain⟨j,bO⟩:=x;simp only[eT,cA,dL,fH]at qn;obtain⟨⟨⟨⟨rfl,U⟩,ao⟩,a8⟩,bZ⟩:=qn;obtain⟨ku,oB⟩:=W9 aL U ao;simp only[hR]at he;split at he
    ·rename_i b ae;have aG:=ku b ae;by_cases e:b=want
     ·subst e;have hw:oD o (yielded ops a.tmps)=true:=by simp[oD,eT,aG]
      rw[if_pos hw];exact .inl (P7 aN (Lv aL ae) q6 (he.1 rfl) bT)
     ·have hw:¬(oD o (yielded ops a.tmps)=true):=by simp[oD,eT,aG,e]
      rw[if_neg hw];have fR:b= !want:=by cases b<;>cases want<;>simp at e⊢
      have mh:cP C {st with t:=put s (.bool !want) st.t} a w ν:=Lv aL (by rw[ae,fR]);rw[a8];exact bT _ _ _ _ (he.2 fR) (mh.put bZ (by simp[ba,cN,undef]))
    ·rename_i ae;have aG:=oB ae;have hw:¬(oD o (yielded ops a.tmps)=true):=by simp[oD,eT,aG]
     rw[if_neg hw,a8];exact bT _ _ _ _ he (aL.put bZ (by simp[ba,cN,undef]))
    ·exact he.elim
structure df where
 t:Nat→ah
 b:aH→aY (List ah)
 e:aH→aY fM
 F:aH→Prop
structure kA where
 d:aY Nat
 p:ah
 bw:List (aH×List ah)
 ew:List (aH×fM)
 rm:aY aH
def ig{α:Type}(l:List (aH×α))(f:aH→aY α):aH→aY α:=fun k=>match look k l with|some x=>some x|none=>f k
def df.do(A:df)(x:kA):df:={t:=fun i=>if x.d=some i then x.p else A.t i,b:=ig x.bw A.b,e:=ig x.ew A.e,F:=fun k=>A.F k∧x.rm≠some k}
structure kA.apart (x y:kA):Prop where
 d:∀i,x.d=some i→y.d≠some i
 b:∀k,(look k x.bw).isSome→look k y.bw=none
 e:∀k,(look k x.ew).isSome→look k y.ew=none
theorem df.do_comm(A:df){x y:kA}(h:x.apart y):(A.do x).do y=(A.do y).do x:=by
 simp only[df.do,df.mk.injEq];refine⟨?_,?_,?_,?_⟩
 ·funext i;by_cases J:x.d=some i
  ·have:=h.d i J;simp[J,this]
  ·simp[J]
 ·funext k;simp only[ig];cases ab:look k x.bw with
  |none=>cases look k y.bw<;>rfl
  |some u=>rw[h.b k (by simp[ab])]
 ·funext k;simp only[ig];cases ab:look k x.ew with
  |none=>cases look k y.ew<;>rfl
  |some u=>rw[h.e k (by simp[ab])]
 ·funext k;exact propext ⟨fun h=>⟨⟨h.1.1,h.2⟩,h.1.2⟩,fun h=>⟨⟨h.1.1,h.2⟩,h.1.2⟩⟩
def dv(t:Nat→ah):dr→ah
 | .t i=>t i
 | .c p=>p
def rp(b:aH→aY (List ah))(e:aH→aY fM)(agg:Bool)(sz:Nat):ah→aY (Prop×ah)
 | .rptr dF k n i f=>xW agg sz dF n i f (e k)
 | .ptr k off=>
  match b k with
  |some cs=>if agg then some (hM cs=true∧off+sz≤cs.length,.agg ((cs.drop off).take sz))else(cs[off]?).map fun p=>(hM cs=true,p)
  |none=>none
 | .eptr p=>if agg then some (isAgg sz p,p)else some (dY p=true∧cells p=[p],p)
 |_=>none
def wz(t:Nat→ah):List ah→List (Nat×Nat×dr)→aY (Prop×List ah)
 |cs,[]=>some (True,cs)
 |cs,(off,sz,x)::r=>
  match wz t (nD cs off (cells (dv t x))) r with
  |some (c,cs')=>some ((dY (dv t x)=true∧(cells (dv t x)).length=sz∧off+sz≤cs.length)∧c,cs')
  |none=>none
def pa(t:Nat→ah)(b:aH→aY (List ah))(e:aH→aY fM):fO→aY (Prop×ah)
 | .mov x=>some (True,dv t x)
 | .pick c x y=>FP (dv t c) (dv t x) (dv t y)
 | .load agg sz x=>rp b e agg sz (dv t x)
 | .faddr off agg sz x=>pw off agg sz (dv t x)
 | .fld off agg sz x=>qV off agg sz (dv t x)
 | .iaddr sz x i=>zk sz (dv t x) (dv t i)
 | .sidx x i=>Gv (dv t x) (dv t i)
 | .ssl x lo hi=>GA (dv t x) (lo.map (dv t)) (hi.map (dv t))
 | .lsl sz x lo hi=>Fo sz (dv t x) (lo.map (dv t)) (hi.map (dv t))
 | .bin op wr x y=>AO op wr (dv t x) (dv t y)
 | .notB x=>FD (dv t x)
 | .neg x=>Fz (dv t x)
 | .conv k x=>DZ k (dv t x)
 | .ext i x=>yB i (dv t x)
 | .len x=>zu (dv t x)
 | .slen x=>CY (dv t x)
 | .build zero parts=>(wz t zero parts).map fun(c,cs)=>(c,.agg cs)
 | .nck x=>zE (dv t x)
 | .min2 x y=>Fy (dv t x) (dv t y)
 | .mkf n xs=>some (True,.func n (xs.map (dv t)))
 | .mget b9 zero ok x k=>nA b b9 zero ok (dv t x) (dv t k)
 | .ment x=>o3 b (dv t x)
 | .mlen x=>tW b (dv t x)
 | .beq neg dK x y=>ib neg dK (dv t x) (dv t y)
 | .max2 x y=>Ft (dv t x) (dv t y)
 | .mkif n x=>some (True,.iface n (dv t x))
 | .loadB agg sz x=>rp b (fun _=>none) agg sz (dv t x)
 | .mgetB b9 zero ok x k=>nA b b9 zero ok (dv t x) (dv t k)
 | .loadZ agg sz x=>Bd agg sz (dv t x)
structure k8 (st:bq) (A:df):Prop where
 t:∀i,get i st.t=A.t i
 b:∀k,look k st.b=A.b k
 e:∀k,look k st.e=A.e k
theorem iA{st:bq}{A:df}(h:k8 st A)(x:dr):ck st.t x=dv A.t x:=by
 cases x
 ·exact h.t _
 ·rfl
theorem tl{st:bq}{A:df}(h:k8 st A):ck st.t=dv A.t:=funext (iA h)
theorem afF{st:bq}{A:df}(h:k8 st A)(agg:Bool)(sz:Nat)(p:ah):mu st.b st.e agg sz p=rp A.b A.e agg sz p:=by
 cases p<;>simp only[mu,rp]
 ·rw[h.b];try rfl
 ·rw[h.e]
theorem afG{st:bq}{A:df}(h:k8 st A)(agg:Bool)(sz:Nat)(p:ah):mu st.b [] agg sz p=rp A.b (fun _=>none) agg sz p:=by
 cases p<;>simp only[mu,rp]
 ·rw[h.b];try rfl
 ·rfl
theorem Nu{st:bq}{A:df}(h:k8 st A):∀(parts:List (Nat×Nat×dr)) (cs:List ah),tf st.t cs parts=wz A.t cs parts
 |[],cs=>rfl
 |(off,sz,x)::r,cs=>by simp only[tf,wz,iA h,Nu h r];try rfl
theorem Wn{st:bq}{A:df}(h:k8 st A)(i:fO):gZ st i=pa A.t A.b A.e i:=by have ae:(fun k=>look k st.b)=A.b:=funext h.b;cases i<;>simp only[gZ,pa,tl h,afF h,afG h,Nu h,ae]
def gX:dr→List Nat
 | .t i=>[i]
 | .c _=>[]
def KU:aY dr→List Nat
 |some x=>gX x
 |none=>[]
def fO.looks:fO→List Nat
 | .mov x| .load _ _ x| .loadB _ _ x| .loadZ _ _ x| .faddr _ _ _ x| .fld _ _ _ x| .notB x| .neg x| .conv _ x| .ext _ x| .len x| .slen x| .nck x| .ment x| .mlen x| .mkif _ x=>gX x
 | .pick c x y=>gX c++gX x++gX y
 | .iaddr _ x i| .sidx x i=>gX x++gX i
 | .ssl x lo hi| .lsl _ x lo hi=>gX x++KU lo++KU hi
 | .bin _ _ x y| .min2 x y| .max2 x y| .beq _ _ x y=>gX x++gX y
 | .build _ ct=>ct.flatMap fun p=>gX p.2.2
 | .mkf _ xs=>xs.flatMap gX
 | .mget _ _ _ x k| .mgetB _ _ _ x k=>gX x++gX k
def ei.looks:ei→List Nat
 | .v _ i=>i.looks
 | .box _ _ x=>gX x
 | .alloc _ _ _=>[]
 | .store _ x y=>gX x++gX y
 | .storeE _ x y=>gX x++gX y
 | .bsl _ _ _ xs=>xs.flatMap gX
 | .app _ _ _ x y=>gX x++gX y
 | .bslm _ _ _ _ xs=>xs.flatMap gX
 | .mks _ _ _ _ _ x=>gX x
 | .appm _ _ _ _ x y=>gX x++gX y
 | .mkmap _ _=>[]
 | .mput _ x k y=>gX x++gX k++gX y
 | .range _ _ x=>gX x
def eb.looks:eb→List Nat
 | .s i=>i.looks
 | .call _ f xs=>gX f++xs.flatMap gX
 | .next _ x=>gX x
def c2.looks(g:c2):List Nat:=(match g.g with|some (s,_)=>[s]|none=>[])++g.i.looks
def qa(l:List Nat)(t dJ:Nat→ah):Prop:= ∀i∈l,t i=dJ i
theorem gm{t dJ:Nat→ah}{x:dr}(h:qa (gX x) t dJ):dv t x=dv dJ x:=by
 cases x
 ·exact h _ (by simp[gX])
 ·rfl
theorem j8{l a1:List Nat}{t dJ:Nat→ah}(h:qa (l++a1) t dJ):qa l t dJ∧qa a1 t dJ:=⟨fun i hi=>h i (by simp[hi]),fun i hi=>h i (by simp[hi])⟩
theorem D6{t dJ:Nat→ah}{x:aY dr}(h:qa (KU x) t dJ):x.map (dv t)=x.map (dv dJ):=by
 cases x
 ·rfl
 ·simp[gm h]
theorem Nt{t dJ:Nat→ah}:∀{parts:List (Nat×Nat×dr)} {cs:List ah},qa (parts.flatMap fun p=>gX p.2.2) t dJ→wz t cs parts=wz dJ cs parts
 |[],cs,_=>rfl
 |(off,sz,x)::r,cs,h=>by simp only[List.flatMap_cons]at h;obtain⟨J,U⟩:=j8 h;simp only[wz,gm J,Nt U]
theorem Fs{t dJ:Nat→ah}:∀{xs:List dr},qa (xs.flatMap gX) t dJ→xs.map (dv t)=xs.map (dv dJ)
 |[],_=>rfl
 |x::xs,h=>by simp only[List.flatMap_cons]at h;obtain⟨J,U⟩:=j8 h;simp[gm J,Fs U]
def fO.isLoad:fO→Bool
 | .load _ _ _=>true
 | .loadB _ _ _=>true
 | .mgetB _ _ _ _ _=>true
 | .mget _ _ _ _ _=>true
 | .ment _=>true
 | .mlen _=>true
 |_=>false
theorem akW{t dJ:Nat→ah}{b bO:aH→aY (List ah)}{e fJ:aH→aY fM}{i:fO}(h:qa i.looks t dJ)(ae:i.isLoad=false):pa t b e i=pa dJ bO fJ i:=by
 cases i<;>simp only[fO.looks]at h<;>simp only[pa];case load agg sz x=>simp[fO.isLoad]at ae
 case loadB agg sz x=>simp[fO.isLoad]at ae
 case pick c x y=>obtain⟨J,ao⟩:=j8 h;obtain⟨J,U⟩:=j8 J;rw[gm J,gm U,gm ao]
 case iaddr=>obtain⟨J,U⟩:=j8 h;rw[gm J,gm U]
 case sidx=>obtain⟨J,U⟩:=j8 h;rw[gm J,gm U]
 case ssl=>obtain⟨J,ao⟩:=j8 h;obtain⟨J,U⟩:=j8 J;rw[gm J,D6 U,D6 ao]
 case lsl=>obtain⟨J,ao⟩:=j8 h;obtain⟨J,U⟩:=j8 J;rw[gm J,D6 U,D6 ao]
 case bin=>obtain⟨J,U⟩:=j8 h;rw[gm J,gm U]
 case min2=>obtain⟨J,U⟩:=j8 h;rw[gm J,gm U]
 case build=>rw[Nt h]
 case mkf=>rw[Fs h]
 case mget=>simp[fO.isLoad]at ae
 case mgetB=>simp[fO.isLoad]at ae
 case ment=>simp[fO.isLoad]at ae
 case mlen=>simp[fO.isLoad]at ae
 case max2=>obtain⟨J,U⟩:=j8 h;rw[gm J,gm U]
 case beq=>obtain⟨J,U⟩:=j8 h;rw[gm J,gm U]
 all_goals rw[gm h]
end Go.Pv
