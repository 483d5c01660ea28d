/- Regions that draw their order, I: abstract states as functions, effects, and what an instruction does to them. -/
import Derived.WalkKit
import Derived.Orders
import Derived.KernelRfl
import Derived.IntWalk
import Derived.Laws.StructEq
import Derived.ChangeKeysEq
import Derived.MapKept
import Derived.ArgAppend
import Derived.Laws.OwnMore
set_option linter.all false
set_option maxHeartbeats 4000000
open Array renaming getElem?_toList→tO
open BitVec renaming ofInt→qt
open Bool renaming and_eq_true→cE,eq_iff_iff→qu,false_eq_true→hb,not_eq_true'→sx
open ByteArray renaming ext→aoN,size→at1
open Go renaming Program→cF,TypeId→gm
open Go.ByteArray renaming toList_eq→aoO
open Go.IntWalk renaming i64_in→o8
open Go.Op renaming bytesLess→hC
open Go.Region renaming wanted→o9
open Go.Result renaming andThen_ok→fR
open Go.Sem renaming run_bind→fJ,run_pure→gu
open Go.Value renaming cells→pR,ownBlock→oh
open Go.Value.pointer renaming injEq→at8
open Go.World.grownBy renaming refl→aoR
open List renaming all_eq_true→hs,cons_append→bX,getElem?_eq_getElem→cl,getElem?_eq_none→qw,getElem?_eq_some_iff→fV,length_append→pS,length_cons→pT,length_drop→sC,map_cons→gS,map_nil→mU,mem_append→ka,mem_cons→gf,mem_cons_of_mem→pa,mem_filter→mV,mem_map→iC,pairwise_cons→mW,replicate→rj,take→lY,take_length→mn,take_of_length_le→hD
open List.cons renaming injEq→qv
open Nat renaming add_mul→pV,le_refl→eY,le_trans→kc
open Ne renaming symm→k8
open Option renaming bind_some→ju,isSome_iff_exists→fE,isSome_none→ht,map_eq_some_iff→gT,map_some→oi
open Option.some renaming injEq→dM
open Prod.mk renaming injEq→jF
open _root_ renaming False→eA,UInt8→dm,beq_iff_eq→dS,congrArg→ff,decide_eq_true_eq→fK
namespace Go.Pv
open Go Go.RowKit
inductive aH where
 |loc (s:Nat)
 |obj (n:Nat)
 deriving DecidableEq,Inhabited
inductive By where
 |no
 |nil
 |own (k:aH)
 |tr (k:aH) (j:Nat)
 |lo (k:aH)
 deriving DecidableEq,Inhabited
inductive ah where
 |junk
 |int (k:IntKind) (n:Int)
 |bool (b:Bool)
 |str (s:List dm)
 |slice (sz:Nat) (tag:By) (xs:List ah)
 |agg (cs:List ah)
 |ptr (key:aH) (off:Nat)
 |eptr (x:ah)
 |iface (t:Nat) (x:ah)
 |nilp
 |tuple (be:List ah)
 |func (f:Nat) (dv:List ah)
 |gmap (key:aH)
 |row (sz:Nat) (key:aH) (n:Nat)
 |rptr (sz:Nat) (key:aH) (n i f:Nat)
 |hdm (clock:Nat) (borns:List Nat)
 |hdi (since:Nat) (seen:List Nat) (last:Nat)
 |cst (v:Value)
 deriving Inhabited
structure bf where
 A:Nat→Nat→Prop
 bx:aH→Option Nat
 ow:aH→Option (Nat×Value)
 tr:aH→Nat→Nat→Prop
def lim:Nat:=68719476736
def lQ(w:World)(A:Nat→Nat→Prop)(b:Nat):Nat→List Value→Prop
 |_,[]=>True
 |off,u::us=>(A b off∧w.cell? ⟨b,off,none⟩=some u)∧lQ w A b (off+1) us
def shape(w:World)(b:Nat):Option (Nat×gm×(Nat×Nat)):=
 match w.heap[b]? with
 |some (.cells cur el fz)=>some (cur.size,el,fz)
 |_=>none
theorem wV{w w':World}{b:Nat}(h:w'.heap[b]? =w.heap[b]?):shape w' b=shape w b:=by unfold shape;rw[h]
mutual
def gi(t:Bool)(w:World)(A:Nat→Nat→Prop)(F:Nat→Prop):ah→Value→Prop
 | .int k n,v=>v= .int k n
 | .bool b,v=>v= .bool b
 | .str s,v=>v= .string ⟨s.toArray⟩∧s.length≤lim
 | .slice sz _ xs,v=> ∃a cap,v= .slice a xs.length cap∧xs.length≤cap∧(cap≤maxLen∧xs.length≤lim)∧
   (xs=[]∨ ∃b off us G,a=some ⟨b,off,none⟩∧F b∧(∀c,G c→F c∧(t=true→c≠b))∧lQ w A b off us∧(t=true→off=0∧0<us.length∧∃el,shape w b=some (cap*sz,el,(0,0)))∧uw t w A G sz xs us)
 | .agg cs,v=> ∃us:Array Value,v= .agg us∧ux t w A F cs us.toList
 |_,_=>eA
def ux(t:Bool)(w:World)(A:Nat→Nat→Prop)(F:Nat→Prop):List ah→List Value→Prop
 |[],us=>us=[]
 |c::cs,us=> ∃u ch ij iD,us=u::ch∧((∀b,ij b→F b)∧(∀b,iD b→F b)∧(t=true→∀b,ij b→¬iD b))∧(gi t w A ij c u∧u.oneCell'=true)∧ux t w A iD cs ch
def uw(t:Bool)(w:World)(A:Nat→Nat→Prop)(F:Nat→Prop)(sz:Nat):List ah→List Value→Prop
 |[],us=>us=[]
 |x::xs,us=> ∃u ch ij iD,us=u.cells.toList++ch∧((∀b,ij b→F b)∧(∀b,iD b→F b)∧(t=true→∀b,ij b→¬iD b))∧(gi t w A ij x u∧u.cells.size=sz∧(∀c∈u.cells.toList,c.oneCell'=true))∧uw t w A iD sz xs ch
end
mutual
def ba(w:World)(ν:bf):ah→Value→Prop
 | .junk,_=>True
 | .int k n,v=>v= .int k n
 | .bool b,v=>v= .bool b
 | .str s,v=>v= .string ⟨s.toArray⟩∧s.length≤lim
 | .slice sz tag xs,v=>
   (∃a cap,v= .slice a xs.length cap∧xs.length≤cap∧(cap≤maxLen∧xs.length≤lim)∧(xs=[]∨ ∃b off us,a=some ⟨b,off,none⟩∧lQ w ν.A b off us∧dH w ν sz xs us))∧
   (tag= .nil→v= .slice none 0 0)∧
   (∀g,tag= .own g→∃n u,ν.ow g=some (n,u)∧xs.length≤n∧(xs.length=n→v=u))∧
   (∀k j,tag= .tr k j→gi true w ν.A (ν.tr k j) (.slice sz tag xs) v)∧(∀k,tag= .lo k→gi false w ν.A (ν.tr k 0) (.slice sz tag xs) v)
 | .agg cs,v=> ∃us:Array Value,v= .agg us∧c5 w ν cs us.toList
 | .ptr key off,v=> ∃b,ν.bx key=some b∧v= .pointer (some ⟨b,off,none⟩)
 | .eptr x,v=> ∃b off u,v= .pointer (some ⟨b,off,none⟩)∧ba w ν x u∧lQ w ν.A b off u.cells.toList
 | .iface t x,v=> ∃u,v= .iface t u∧ba w ν x u
 | .nilp,v=>v= .pointer none
 | .tuple be,v=> ∃us:Array Value,v= .tuple us∧cM w ν be us.toList
 | .func f dv,v=> ∃us:Array Value,v= .func (.func f) #[] us∧cM w ν dv us.toList
 | .gmap key,v=> ∃b,ν.bx key=some b∧v= .map (some b)
 | .row _ key n,v=>(∃b cap,v= .slice (some ⟨b,0,none⟩) n cap)∧n≤lim∧∃n' u,ν.ow key=some (n',u)∧n≤n'∧(n=n'→v=u)
 | .rptr sz key n i f,v=>(∃b o,v= .pointer (some ⟨b,o,none⟩))∧i<n∧∃n' u,ν.ow key=some (n',u)∧n≤n'∧(n=n'→∃b,u.ownBlock=some b∧v= .pointer (some ⟨b,i*sz+f,none⟩))
 | .hdm _ _,_=>eA
 | .hdi _ _ _,_=>eA
 | .cst c,v=>v=c
def c5(w:World)(ν:bf):List ah→List Value→Prop
 |[],us=>us=[]
 |c::cs,us=> ∃u ch,us=u::ch∧(ba w ν c u∧u.oneCell'=true)∧c5 w ν cs ch
def cM(w:World)(ν:bf):List ah→List Value→Prop
 |[],us=>us=[]
 |c::cs,us=> ∃u ch,us=u::ch∧ba w ν c u∧cM w ν cs ch
def dH(w:World)(ν:bf)(sz:Nat):List ah→List Value→Prop
 |[],us=>us=[]
 |x::xs,us=> ∃u ch,us=u.cells.toList++ch∧(ba w ν x u∧u.cells.size=sz∧(∀c∈u.cells.toList,c.oneCell'=true))∧dH w ν sz xs ch
end
theorem Gz{w w':World}{A gn:Nat→Nat→Prop}{b:Nat}(bm:∀b o,A b o→gn b o∧w'.cell? ⟨b,o,none⟩=w.cell? ⟨b,o,none⟩):
  ∀(us:List Value) (off:Nat),lQ w A b off us→lQ w' gn b off us
 |[],_,_=>trivial
 |_::us,off,h=>⟨⟨(bm _ _ h.1.1).1,(bm _ _ h.1.1).2.trans h.1.2⟩,Gz bm us (off+1) h.2⟩
mutual
theorem Fy{t:Bool}{w w':World}{A gn:Nat→Nat→Prop}(bm:∀b o,A b o→gn b o∧w'.cell? ⟨b,o,none⟩=w.cell? ⟨b,o,none⟩)(ag:∀b o,A b o→shape w' b=shape w b):∀(p:ah) (F pc:Nat→Prop) (v:Value),(∀b,F b→pc b)→gi t w A F p v→gi t w' gn pc p v
 | .int k n,_,_,_,_,h=>by simp only[gi]at h⊢;exact h
 | .bool b,_,_,_,_,h=>by simp only[gi]at h⊢;exact h
 | .str s,_,_,_,_,h=>by simp only[gi]at h⊢;exact h
 | .slice sz tag xs,F,pc,v,gp,h=>by
  simp only[gi]at h⊢;obtain⟨a,cap,J,U,ar,a8⟩:=h;refine⟨a,cap,J,U,ar,?_⟩;rcases a8 with a8|⟨b,off,us,G,ak,aC,bk,dg,hf,hT⟩
  ·exact .inl a8
  ·refine .inr ⟨b,off,us,G,ak,gp _ aC,fun c ay=>⟨gp _ (bk c ay).1,(bk c ay).2⟩,Gz bm _ _ dg,fun aL=>?_,Sv bm ag xs G G _ (fun _ h=>h) hT⟩;obtain⟨f1,f2,el,f3⟩:=hf aL;refine⟨f1,f2,el,?_⟩;cases us with
   |nil=>simp at f2
   |cons u us=>rw[ag b off dg.1.1];exact f3
 | .agg cs,F,pc,v,gp,h=>by simp only[gi]at h⊢;obtain⟨us,J,U⟩:=h;exact⟨us,J,Sw bm ag cs F pc _ gp U⟩
 | .junk,_,_,_,_,h=>by simp[gi]at h
 | .ptr _ _,_,_,_,_,h=>by simp[gi]at h
 | .eptr _,_,_,_,_,h=>by simp[gi]at h
 | .iface _ _,_,_,_,_,h=>by simp[gi]at h
 | .nilp,_,_,_,_,h=>by simp[gi]at h
 | .tuple _,_,_,_,_,h=>by simp[gi]at h
 | .func _ _,_,_,_,_,h=>by simp[gi]at h
 | .gmap _,_,_,_,_,h=>by simp[gi]at h
 | .row _ _ _,_,_,_,_,h=>by simp[gi]at h
 | .rptr _ _ _ _ _,_,_,_,_,h=>by simp[gi]at h
 | .hdm _ _,_,_,_,_,h=>by simp[gi]at h
 | .hdi _ _ _,_,_,_,_,h=>by simp[gi]at h
 | .cst _,_,_,_,_,h=>by simp[gi]at h
theorem Sw{t:Bool}{w w':World}{A gn:Nat→Nat→Prop}(bm:∀b o,A b o→gn b o∧w'.cell? ⟨b,o,none⟩=w.cell? ⟨b,o,none⟩)(ag:∀b o,A b o→shape w' b=shape w b):∀(cs:List ah) (F pc:Nat→Prop) (us:List Value),(∀b,F b→pc b)→ux t w A F cs us→ux t w' gn pc cs us
 |[],_,_,_,_,h=>by simp only[ux]at h⊢;exact h
 |c::cs,F,pc,us,gp,h=>by simp only[ux]at h⊢;obtain⟨u,ch,ij,iD,J,⟨U,ar,a8⟩,⟨b4,dd⟩,eo⟩:=h;exact⟨u,ch,ij,iD,J,⟨fun b ae=>gp _ (U b ae),fun b ae=>gp _ (ar b ae),a8⟩,⟨Fy bm ag c ij ij u (fun _ h=>h) b4,dd⟩,Sw bm ag cs iD iD ch (fun _ h=>h) eo⟩
theorem Sv{t:Bool}{w w':World}{A gn:Nat→Nat→Prop}(bm:∀b o,A b o→gn b o∧w'.cell? ⟨b,o,none⟩=w.cell? ⟨b,o,none⟩)(ag:∀b o,A b o→shape w' b=shape w b){sz:Nat}:∀(cs:List ah) (F pc:Nat→Prop) (us:List Value),(∀b,F b→pc b)→uw t w A F sz cs us→uw t w' gn pc sz cs us
 |[],_,_,_,_,h=>by simp only[uw]at h⊢;exact h
 |c::cs,F,pc,us,gp,h=>by simp only[uw]at h⊢;obtain⟨u,ch,ij,iD,J,⟨U,ar,a8⟩,⟨b4,dd⟩,eo⟩:=h;exact⟨u,ch,ij,iD,J,⟨fun b ae=>gp _ (U b ae),fun b ae=>gp _ (ar b ae),a8⟩,⟨Fy bm ag c ij ij u (fun _ h=>h) b4,dd⟩,Sv bm ag cs iD iD ch (fun _ h=>h) eo⟩
end
mutual
def aF(S:aH→Prop):ah→Prop
 | .slice _ tag xs=>(match tag with| .own k=>S k| .tr k _=>S k| .lo k=>S k|_=>True)∧aJ S xs
 | .agg cs=>aJ S cs
 | .ptr k _=>S k
 | .eptr x=>aF S x
 | .iface _ x=>aF S x
 | .tuple be=>aJ S be
 | .func _ dv=>aJ S dv
 | .gmap k=>S k
 | .row _ k _=>S k
 | .rptr _ k _ _ _=>S k
 |_=>True
def aJ(S:aH→Prop):List ah→Prop
 |[]=>True
 |x::xs=>aF S x∧aJ S xs
end
mutual
theorem wy{S T:aH→Prop}(h:∀k,S k→T k):∀p:ah,aF S p→aF T p
 | .junk,_=>by simp[aF]
 | .int _ _,_=>by simp[aF]
 | .bool _,_=>by simp[aF]
 | .str _,_=>by simp[aF]
 | .slice sz tag xs,bQ=>by simp only[aF]at bQ⊢;exact⟨by cases tag<;>first|trivial|exact h _ bQ.1,j1 h xs bQ.2⟩
 | .agg cs,bQ=>by simp only[aF]at bQ⊢;exact j1 h cs bQ
 | .ptr k _,bQ=>by simp only[aF]at bQ⊢;exact h _ bQ
 | .eptr x,bQ=>by simp only[aF]at bQ⊢;exact wy h x bQ
 | .iface _ x,bQ=>by simp only[aF]at bQ⊢;exact wy h x bQ
 | .nilp,_=>by simp[aF]
 | .tuple be,bQ=>by simp only[aF]at bQ⊢;exact j1 h be bQ
 | .func _ dv,bQ=>by simp only[aF]at bQ⊢;exact j1 h dv bQ
 | .gmap k,bQ=>by simp only[aF]at bQ⊢;exact h _ bQ
 | .row _ k _,bQ=>by simp only[aF]at bQ⊢;exact h _ bQ
 | .rptr _ k _ _ _,bQ=>by simp only[aF]at bQ⊢;exact h _ bQ
 | .hdm _ _,_=>by simp[aF]
 | .hdi _ _ _,_=>by simp[aF]
 | .cst _,_=>by simp[aF]
theorem j1{S T:aH→Prop}(h:∀k,S k→T k):∀cm:List ah,aJ S cm→aJ T cm
 |[],_=>by simp[aJ]
 |x::xs,bQ=>by simp only[aJ]at bQ⊢;exact⟨wy h x bQ.1,j1 h xs bQ.2⟩
end
mutual
theorem Gw:∀p:ah,aF (fun _=>True) p
 | .junk=>by simp[aF]
 | .int _ _=>by simp[aF]
 | .bool _=>by simp[aF]
 | .str _=>by simp[aF]
 | .slice sz tag xs=>by simp only[aF];exact⟨by cases tag<;>trivial,uS xs⟩
 | .agg cs=>by simp only[aF];exact uS cs
 | .ptr k _=>by simp[aF]
 | .eptr x=>by simp only[aF];exact Gw x
 | .iface _ x=>by simp only[aF];exact Gw x
 | .nilp=>by simp[aF]
 | .tuple be=>by simp only[aF];exact uS be
 | .func _ dv=>by simp only[aF];exact uS dv
 | .gmap k=>by simp[aF]
 | .row _ k _=>by simp[aF]
 | .rptr _ k _ _ _=>by simp[aF]
 | .hdm _ _=>by simp[aF]
 | .hdi _ _ _=>by simp[aF]
 | .cst _=>by simp[aF]
theorem uS:∀cm:List ah,aJ (fun _=>True) cm
 |[]=>by simp[aJ]
 |x::xs=>by simp only[aJ];exact⟨Gw x,uS xs⟩
end
def fF:List Nat→List Value→List MapEntry
 |b::eZ,k::v::r=>⟨k,v,b⟩::fF eZ r
 |_,_=>[]
def jU(cs:List ah)(us:Array Value)(el:gm):Obj:=
 match cs with
 | .hdm clock borns::_=>.map (fF borns us.toList).toArray clock
 | .hdi since seen last::_=>.mapIter (match us.toList with|[.map m]=>m|_=>none) since seen.toArray last
 |_=>.cells us el
structure ahV (clock:Nat) (borns:List Nat) (r:List ah):Prop where
 len:r.length=2*borns.length
 inc:borns.Pairwise (· < ·)
 lt:∀b∈borns,b<clock
def jq(w:World)(ν:bf)(cs:List ah)(us:List Value):Prop:=
 match cs with
 | .hdm clock borns::r=>cM w ν r us∧ahV clock borns r
 | .hdi _ _ _::r=>cM w ν r us
 |cs=>c5 w ν cs us
def h2:List ah→Bool
 | .hdm _ _::_=>false
 | .hdi _ _ _::_=>false
 |_=>true
theorem A6{w:World}{ν:bf}{cs:List ah}{us:List Value}(h:c5 w ν cs us):h2 cs=true:=by
 unfold h2;split
 ·simp only[c5,ba]at h;obtain⟨_,_,_,⟨h,_⟩,_⟩:=h;exact h.elim
 ·simp only[c5,ba]at h;obtain⟨_,_,_,⟨h,_⟩,_⟩:=h;exact h.elim
 ·rfl
theorem u6{cs:List ah}(h:h2 cs=true)(us:Array Value)(el:gm):jU cs us el= .cells us el:=by
 unfold h2 at h;unfold jU;split at h<;>first|cases h|skip
 rfl
theorem u7{w:World}{ν:bf}{cs:List ah}(h:h2 cs=true)(us:List Value):jq w ν cs us=c5 w ν cs us:=by
 unfold h2 at h;unfold jq;split at h<;>first|cases h|skip
 rfl
structure oo (S:aH→Prop) (w:World) (ν:bf) (w':World) (bo:bf):Prop where
 A:∀b o,ν.A b o→bo.A b o∧w'.cell? ⟨b,o,none⟩=w.cell? ⟨b,o,none⟩
 bx:∀k b,S k→ν.bx k=some b→bo.bx k=some b
 ow:∀g n u,S g→ν.ow g=some (n,u)→∃n' fe,bo.ow g=some (n',fe)∧(n'=n∧fe=u∨n<n')
 sh:∀b o,ν.A b o→shape w' b=shape w b
 tr:∀k j b,S k→ν.tr k j b→bo.tr k j b
abbrev ly:=oo (fun _=>True)
mutual
theorem kp{S:aH→Prop}{w w':World}{ν bo:bf}(ax:oo S w ν w' bo):∀(p:ah) (v:Value),aF S p→ba w ν p v→ba w' bo p v
 | .junk,_,_,_=>by simp[ba]
 | .int k n,_,_,h=>by simp only[ba]at h⊢;exact h
 | .bool b,_,_,h=>by simp only[ba]at h⊢;exact h
 | .str s,_,_,h=>by simp only[ba]at h⊢;exact h
 | .slice sz tag xs,v,ad,h=>by
  simp only[ba,aF]at h ad⊢;obtain⟨⟨a,cap,J,U,ar,a8⟩,b4,dd,nV,sR⟩:=h;refine⟨⟨a,cap,J,U,ar,?_⟩,b4,fun g aX=>?_,fun k j nW=>?_,fun k nW=>?_⟩
  ·rcases a8 with a8|⟨b,off,us,a8,dd,eo⟩
   ·exact .inl a8
   ·exact .inr ⟨b,off,us,a8,Gz ax.A _ _ dd,Hy ax sz xs us ad.2 eo⟩
  ·obtain⟨n,u,ak,aC,bk⟩:=dd g aX;subst aX;obtain⟨n',fe,f1,f2⟩:=ax.ow g n u ad.1 ak;refine⟨n',fe,f1,?_⟩;rcases f2 with⟨rfl,rfl⟩|f2
   ·exact⟨aC,bk⟩
   ·exact⟨by omega,fun e=>by omega⟩
  ·have:=nV k j nW;subst nW;exact Fy ax.A ax.sh _ _ _ _ (fun b=>ax.tr k j b ad.1) this
  ·have:=sR k nW;subst nW;exact Fy ax.A ax.sh _ _ _ _ (fun b=>ax.tr k 0 b ad.1) this
 | .agg cs,v,ad,h=>by simp only[ba,aF]at h ad⊢;obtain⟨us,J,U⟩:=h;exact⟨us,J,HB ax cs _ ad U⟩
 | .ptr key off,v,ad,h=>by simp only[ba,aF]at h ad⊢;obtain⟨b,J,U⟩:=h;exact⟨b,ax.bx _ _ ad J,U⟩
 | .iface t x,v,ad,h=>by simp only[ba,aF]at h ad⊢;obtain⟨u,J,U⟩:=h;exact⟨u,J,kp ax x u ad U⟩
 | .eptr x,v,ad,h=>by simp only[ba,aF]at h ad⊢;obtain⟨b,off,u,J,U,ar⟩:=h;exact⟨b,off,u,J,kp ax x u ad U,Gz ax.A _ _ ar⟩
 | .nilp,_,_,h=>by simp only[ba]at h⊢;exact h
 | .tuple be,v,ad,h=>by simp only[ba,aF]at h ad⊢;obtain⟨us,J,U⟩:=h;exact⟨us,J,yF ax be _ ad U⟩
 | .func f dv,v,ad,h=>by simp only[ba,aF]at h ad⊢;obtain⟨us,J,U⟩:=h;exact⟨us,J,yF ax dv _ ad U⟩
 | .gmap key,v,ad,h=>by simp only[ba,aF]at h ad⊢;obtain⟨b,J,U⟩:=h;exact⟨b,ax.bx _ _ ad J,U⟩
 | .row sz key n,v,ad,h=>by
  simp only[ba,aF]at h ad⊢;obtain⟨J,U,n',u,ar,a8,b4⟩:=h;obtain⟨fW,jD,f1,f2⟩:=ax.ow key n' u ad ar;refine⟨J,U,fW,jD,f1,?_⟩;rcases f2 with⟨rfl,rfl⟩|f2
  ·exact⟨a8,b4⟩
  ·exact⟨by omega,fun e=>by omega⟩
 | .rptr sz key n i f,v,ad,h=>by
  simp only[ba,aF]at h ad⊢;obtain⟨J,U,n',u,ar,a8,b4⟩:=h;obtain⟨fW,jD,f1,f2⟩:=ax.ow key n' u ad ar;refine⟨J,U,fW,jD,f1,?_⟩;rcases f2 with⟨rfl,rfl⟩|f2
  ·exact⟨a8,b4⟩
  ·exact⟨by omega,fun e=>by omega⟩
 | .hdm _ _,_,_,h=>by simp only[ba]at h
 | .hdi _ _ _,_,_,h=>by simp only[ba]at h
 | .cst c,_,_,h=>by simp only[ba]at h⊢;exact h
theorem HB{S:aH→Prop}{w w':World}{ν bo:bf}(ax:oo S w ν w' bo):∀(cs:List ah) (us:List Value),aJ S cs→c5 w ν cs us→c5 w' bo cs us
 |[],_,_,h=>by simp only[c5]at h⊢;exact h
 |c::cs,us,ad,h=>by simp only[c5,aJ]at h ad⊢;obtain⟨u,ch,J,U,ar⟩:=h;exact⟨u,ch,J,⟨kp ax c u ad.1 U.1,U.2⟩,HB ax cs ch ad.2 ar⟩
theorem yF{S:aH→Prop}{w w':World}{ν bo:bf}(ax:oo S w ν w' bo):∀(cs:List ah) (us:List Value),aJ S cs→cM w ν cs us→cM w' bo cs us
 |[],_,_,h=>by simp only[cM]at h⊢;exact h
 |c::cs,us,ad,h=>by simp only[cM,aJ]at h ad⊢;obtain⟨u,ch,J,U,ar⟩:=h;exact⟨u,ch,J,kp ax c u ad.1 U,yF ax cs ch ad.2 ar⟩
theorem Hy{S:aH→Prop}{w w':World}{ν bo:bf}(ax:oo S w ν w' bo)(sz:Nat):∀(xs:List ah) (us:List Value),aJ S xs→dH w ν sz xs us→dH w' bo sz xs us
 |[],_,_,h=>by simp only[dH]at h⊢;exact h
 |x::xs,us,ad,h=>by simp only[dH,aJ]at h ad⊢;obtain⟨u,ch,J,⟨U,ar,a8⟩,b4⟩:=h;exact⟨u,ch,J,⟨kp ax x u ad.1 U,ar,a8⟩,Hy ax sz xs ch ad.2 b4⟩
end
theorem Xj{S:aH→Prop}{w w':World}{ν bo:bf}(ax:oo S w ν w' bo){cs:List ah}{us:List Value}(ad:aJ S cs)(h:jq w ν cs us):jq w' bo cs us:=by
 unfold jq at h⊢;split
 ·simp only[aJ]at ad;exact⟨yF ax _ _ ad.2 h.1,h.2⟩
 ·simp only[aJ]at ad;exact yF ax _ _ ad.2 h
 ·rename_i J U;split at h
  ·exact absurd rfl (J _ _ _)
  ·exact absurd rfl (U _ _ _ _)
  ·exact HB ax _ _ ad h
section
variable {w w':World} {ν bo:bf} (ax:ly w ν w' bo)
include ax
theorem yG{p:ah}{v:Value}(h:ba w ν p v):ba w' bo p v:=kp ax p v (Gw p) h
theorem Xo{p:List ah}{v:List Value}(h:c5 w ν p v):c5 w' bo p v:=HB ax p v (uS p) h
theorem HD{p:List ah}{v:List Value}(h:cM w ν p v):cM w' bo p v:=yF ax p v (uS p) h
theorem qn{p:List ah}{v:List Value}(h:jq w ν p v):jq w' bo p v:=Xj ax (uS p) h
theorem A3{sz:Nat}{p:List ah}{v:List Value}(h:dH w ν sz p v):dH w' bo sz p v:=Hy ax sz p v (uS p) h
end
end Go.Pv
namespace Go.Pv
open Go Go.RowKit
def get(k:Nat):List (Nat×ah)→ah
 |[]=>.junk
 |(i,p)::r=>if i=k then p else get k r
def put(k:Nat)(p:ah):List (Nat×ah)→List (Nat×ah)
 |[]=>[(k,p)]
 |(i,q)::r=>if i=k then(i,p)::r else(i,q)::put k p r
def look{α:Type}(k:aH):List (aH×α)→Option α
 |[]=>none
 |(i,p)::r=>if i=k then some p else look k r
def cB{α:Type}(k:aH)(p:α):List (aH×α)→List (aH×α)
 |[]=>[(k,p)]
 |(i,q)::r=>if i=k then(i,p)::r else(i,q)::cB k p r
theorem pC(k j:Nat)(p:ah):∀l,get j (put k p l)=if k=j then p else get j l
 |[]=>by simp[get,put]
 |(i,q)::r=>by
  by_cases h:i=k
  ·subst h;by_cases U:i=j<;>simp[get,put,U]
  ·by_cases U:i=j
   ·subst U;simp[get,put,h,k8 h]
   ·simp[get,put,h,U,pC k j p r]
theorem jc{α:Type}(k j:aH)(p:α):∀l,look j (cB k p l)=if k=j then some p else look j l
 |[]=>by simp[look,cB]
 |(i,q)::r=>by
  by_cases h:i=k
  ·subst h;by_cases U:i=j<;>simp[look,cB,U]
  ·by_cases U:i=j
   ·subst U;simp[look,cB,h,k8 h]
   ·simp[look,cB,h,U,jc k j p r]
structure fL where
 n:Nat
 el:Nat
 sz:Nat
 xs:Option (List ah)
def Nh(w:World)(ν:bf)(o:fL)(v:Value)(us:List Value):Prop:=∀xs,o.xs=some xs→xs.length=o.n∧dH w ν o.sz xs us∧∀bl,v.ownBlock=some bl→∀j,¬ν.A bl j
theorem sj{w w':World}{ν bo:bf}(ax:ly w ν w' bo){o:fL}{v:Value}{us:List Value}(bm:∀bl,v.ownBlock=some bl→∀j,bo.A bl j→ν.A bl j)(h:Nh w ν o v us):Nh w' bo o v us:=fun xs ab=>⟨(h xs ab).1,A3 ax (h xs ab).2.1,fun bl ae j af=>(h xs ab).2.2 bl ae j (bm bl ae j af)⟩
def dV(S:aH→Prop)(o:fL):Prop:= ∀xs,o.xs=some xs→aJ S xs
structure bs where
 t:List (Nat×ah)
 b:List (aH×List ah)
 e:List (aH×fL)
 n:Nat
 o:List aH
def fresh(n:Nat)(o:List aH)(k:aH):Prop:=(match k with| .loc m=>n≤m| .obj _=>True)∧k∉o
theorem J1{n n':Nat}{o o':List aH}(au:n≤n')(ax:∀k∈o,k∈o'){k:aH}(h:fresh n' o' k):fresh n o k:=by unfold fresh at h⊢;exact⟨by cases k<;>simp at h⊢;omega,fun ad=>h.2 (ax k ad)⟩
def NS(ν:bf)(b:List (aH×List ah))(e:List (aH×fL))(bl:Nat):Prop:=(∃k,(look k b).isSome∧ν.bx k=some bl)∨(∃g n v,(look g e).isSome∧ν.ow g=some (n,v)∧v.ownBlock=some bl)
structure Good (pr:Nat→Prop) (w:World) (ν:bf) (b:List (aH×List ah)) (e:List (aH×fL)):Prop where
 alt:∀bl o,ν.A bl o→bl<w.heap.size
 box:∀k cs,look k b=some cs→∃bl us el,ν.bx k=some bl∧pr bl∧(∀o,¬ν.A bl o)∧w.heap[bl]? =some (jU cs us el)∧jq w ν cs us.toList
 inj:∀k bH bl,(look k b).isSome→(look bH b).isSome→ν.bx k=some bl→ν.bx bH=some bl→k=bH
 own:∀g o,look g e=some o→∃v us,ν.ow g=some (o.n,v)∧w.ownsRow 0 o.el o.sz v o.n us∧(∀bl,v.ownBlock=some bl→pr bl∧(∀j,ν.A bl j→j<o.n*o.sz))∧Nh w ν o v us
 oinj:∀g e9 n n' v v' bl,(look g e).isSome→(look e9 e).isSome→ν.ow g=some (n,v)→ν.ow e9=some (n',v')→v.ownBlock=some bl→v'.ownBlock=some bl→g=e9
 obx:∀g k n v bl,(look g e).isSome→(look k b).isSome→ν.ow g=some (n,v)→v.ownBlock=some bl→ν.bx k=some bl→eA
 one:∀k,ν.bx k=none∨ν.ow k=none
 otr:∀bl,NS ν b e bl→∀k j,¬ν.tr k j bl
structure fh where
 w0:World
 ν0:bf
 mt:Nat→Prop
 N:Nat
 ob:List aH
def fh.pr(C:fh)(bl:Nat):Prop:=C.mt bl∨C.w0.heap.size≤bl
def aml:aH:= .obj 990001
def fP:aH:= .obj 990002
structure pW (C:fh) (w:World) (ν:bf):Prop where
 os:w.os=C.w0.os
 tape:w.tape=C.w0.tape
 output:w.output=C.w0.output
 size:C.w0.heap.size≤w.heap.size
 block:∀k,k<C.w0.heap.size→¬C.mt k→w.heap[k]? =C.w0.heap[k]?
 keep:∀b o,C.ν0.A b o→ν.A b o∧w.cell? ⟨b,o,none⟩=C.w0.cell? ⟨b,o,none⟩
 fresh:∀b o,ν.A b o→C.ν0.A b o∨C.pr b
 obj:∀n b,C.ν0.bx (.obj n)=some b→ν.bx (.obj n)=some b
 obn:∀n b,C.ν0.bx (.obj n)=some b→ .obj n∈C.ob
 row:∀m n u,C.ν0.ow (.obj m)=some (n,u)→∃n' fe,ν.ow (.obj m)=some (n',fe)∧(n'=n∧fe=u∨n<n')
 obr:∀m n u,C.ν0.ow (.obj m)=some (n,u)→ .obj m∈C.ob
 trd:∀k j bH dJ b,ν.tr k j b→ν.tr bH dJ b→k=bH∧j=dJ
 trb:∀k j b,ν.tr k j b→(k=aml∨C.w0.heap.size≤b)∧b<w.heap.size
 trn:∀k j b,ν.tr k j b→ν.bx k=none∧ν.ow k=none
 sh:∀b o,C.ν0.A b o→shape w b=shape C.w0 b
theorem DL{ν bo:bf}{g:aH}{n:Nat}{u:Value}(h:∃n' fe,ν.ow g=some (n',fe)∧(n'=n∧fe=u∨n<n'))(ax:∀n u,ν.ow g=some (n,u)→∃n' fe,bo.ow g=some (n',fe)∧(n'=n∧fe=u∨n<n')):
  ∃n' fe,bo.ow g=some (n',fe)∧(n'=n∧fe=u∨n<n'):=by
 obtain⟨ic,iB,ak,aC⟩:=h;obtain⟨fW,jD,f1,f2⟩:=ax ic iB ak;refine⟨fW,jD,f1,?_⟩;rcases aC with⟨rfl,rfl⟩|aC
 ·exact f2
 ·rcases f2 with⟨rfl,rfl⟩|f2
  ·exact .inr aC
  ·exact .inr (by omega)
structure cR (C:fh) (st:bs) (a:Act) (w:World) (ν:bf):Prop where
 good:Good C.pr w ν st.b st.e
 fr:pW C w ν
 defers:a.defers=[]
 size:a.tmps.size=C.N
 slot:∀i,ba w ν (get i st.t) (a.tmps.getD i undef)
 new:∀k,fresh st.n st.o k→ν.bx k=none∧ν.ow k=none∧∀j b,¬ν.tr k j b
def eX(d:Option Nat)(p:ah)(t:List (Nat×ah)):List (Nat×ah):=
 match d with
 |some d=>put d p t
 |none=>t
def jw(N:Nat)(d:Option Nat):Bool:=match d with|some d=>decide (d<N)|none=>true
theorem cR.put{C:fh}{st:bs}{a:Act}{w:World}{ν:bf}(h:cR C st a w ν){d:Option Nat}(aR:jw C.N d=true){p:ah}{v:Value}(bQ:ba w ν p v):
  cR C {st with t:=eX d p st.t} (a.put d v) w ν:=by
 cases d with
 |none=>exact h
 |some d=>
  have bE:d<a.tmps.size:=by rw[h.size];simpa[jw]using aR
  refine⟨h.good,h.fr,h.defers,by simpa[Act.put]using h.size,fun i=>?_,h.new⟩;simp only[eX,pC];by_cases e:d=i
  ·subst e;simpa[Act.put,Array.getD_eq_getD_getElem?,bE]using bQ
  ·have:=h.slot i;simpa[e,Act.put,Array.getD_eq_getD_getElem?,Array.getElem?_setIfInBounds_ne e]using this
theorem cR.over{C:fh}{st st':bs}{a:Act}{w w':World}{ν bo:bf}(h:cR C st a w ν)(ax:ly w ν w' bo)(aL:st'.t=st.t)(aX:Good C.pr w' bo st'.b st'.e)(aI:pW C w' bo)
  (au:∀k,fresh st'.n st'.o k→bo.bx k=none∧bo.ow k=none∧∀j b,¬bo.tr k j b):cR C st' a w' bo:=
 ⟨aX,aI,h.defers,h.size,fun i=>by rw[aL];exact yG ax (h.slot i),au⟩
inductive dz where
 |t (i:Nat)
 |c (p:ah)
 deriving Inhabited
def cu(t:List (Nat×ah)):dz→ah
 | .t i=>get i t
 | .c p=>p
def EH:ah→Value→Bool
 | .int k n,.int bH n'=>decide (k=bH∧n=n')
 | .bool b,.bool bP=>b==bP
 | .str s,.string l=>decide (l.data.toList=s∧s.length≤lim)
 | .slice _ .nil [],.slice none 0 0=>true
 | .nilp,.pointer none=>true
 | .tuple [],.tuple ⟨[]⟩=>true
 | .func f [],.func (.func g) ⟨[]⟩ ⟨[]⟩=>f==g
 | .junk,_=>true
 |_,_=>false
theorem Pg(w:World)(ν:bf){p:ah}{v:Value}(h:EH p v=true):ba w ν p v:=by
 unfold EH at h;split at h
 ·simp at h;obtain⟨rfl,rfl⟩:=h;simp[ba]
 ·simp at h;subst h;simp[ba]
 ·rename_i s l;simp at h;obtain⟨J,U⟩:=h;refine⟨?_,U⟩;subst J;simp
 ·simp only[ba];refine⟨⟨none,0,rfl,by simp,by simp,by simp⟩,by simp,(fun _ h=>by cases h),(fun _ _ h=>by cases h),(fun _ h=>by cases h)⟩
 ·simp[ba]
 ·simp[ba,cM]
 ·simp at h;subst h;simp[ba,cM]
 ·simp[ba]
 ·cases h
def zd:List ah→List Value→Bool
 |[],[]=>true
 |p::cm,v::be=>EH p v&&v.oneCell'&&zd cm be
 |_,_=>false
def zc:ah→Value→Bool
 | .agg cs,.agg us=>zd cs us.toList
 |p,v=>EH p v
theorem Ph(w:World)(ν:bf):∀(cm:List ah) (be:List Value),zd cm be=true→c5 w ν cm be
 |[],[],_=>by simp[c5]
 |[],_::_,h=>by simp[zd]at h
 |_::_,[],h=>by simp[zd]at h
 |p::cm,v::be,h=>by simp only[zd,cE]at h;simp only[c5];exact⟨v,be,rfl,⟨Pg w ν h.1.1,h.1.2⟩,Ph w ν cm be h.2⟩
theorem IP(w:World)(ν:bf){p:ah}{v:Value}(h:zc p v=true):ba w ν p v:=by
 unfold zc at h;split at h
 ·simp only[ba];exact⟨_,rfl,Ph w ν _ _ h⟩
 ·exact Pg w ν h
def er:dz→Operand→Bool
 | .t i,.tmp j=>i==j
 | .c p,.const v=>zc p v
 | .c (.func f []),.func g=>f==g
 |_,_=>false
theorem et{C:fh}{st:bs}{a:Act}{w:World}{ν:bf}(h:cR C st a w ν){x:dz}{o:Operand}(ab:er x o=true):ba w ν (cu st.t x) (a.eval o):=by
 unfold er at ab;split at ab
 ·simp at ab;subst ab;simpa[cu,Act.eval]using h.slot _
 ·simpa[cu,Act.eval]using IP w ν ab
 ·simp at ab;subst ab;simp[cu,Act.eval,ba,cM]
 ·cases ab
inductive Bx where
 |int (k:IntKind)
 |bool
 |str
 |slice (e:Nat)
 |struct (dQ:List (Nat×Nat))
 |map (k e:Nat)
 |other
 deriving DecidableEq
structure dI where
 size:Nat
 bytes:Nat
 kind:Bx
 zero:ah
def Bx.isAgg:Bx→Bool
 | .struct _=>true
 |_=>false
def Bp:List ah→List Value→Bool
 |[],[]=>true
 |p::cm,v::be=>zc p v&&v.oneCell'&&Bp cm be
 |_,_=>false
def y0:ah→Value→Bool
 | .agg cs,.agg us=>Bp cs us.toList
 | .agg _,_=>false
 |p,v=>zc p v&&v.oneCell'
def ki:Bx→TypeDesc→Bool
 | .int k,.int bH=>decide (k=bH)
 | .bool,.bool=>true
 | .str,.string=>true
 | .slice e,.slice fT=>e==fT
 | .struct dQ,.struct gs=>decide (gs.toList.map (fun f=>(f.offset,f.type))=dQ)
 | .map k e,.map bH fT=>k==bH&&e==fT
 | .other,d=>match d with| .struct _| .array _ _| .int _| .bool| .string| .slice _=>false|_=>true
 |_,_=>false
def Sm(P:cF)(gs:Array Field):Bool:=gs.toList.all fun f=>match P.underlying f.type with|some (.int _)=>true|some .string=>true|_=>false
def Rt(P:cF)(t:Nat)(gs:Array Field):Bool:=gs.toList.all (fun f=>f.name != "_")&& !P.stoodInHeld t&& !P.eqGuardType P.depth t
def Jj(P:cF)(t:Nat):TypeDesc→Bool
 | .struct gs=> !Sm P gs||Rt P t gs
 |_=>true
def NV(P:cF)(t:Nat)(f:dI):Bool:=
 match P.info? t,P.underlying t with
 |some i,some d=>Jj P t d&&i.size==f.size&&i.bytes==f.bytes&&ki f.kind d&&(match i.zero with|some z=>y0 f.zero z&&z.cells.size==f.size|none=>false)
 |_,_=>false
def fU(P:cF)(bC:List (Nat×dI)):Bool:=bC.all fun x=>NV P x.1 x.2
def eg(bC:List (Nat×dI))(t:Nat):Option dI:=(bC.find? fun x=>x.1==t).map (·.2)
theorem am3{P:cF}{bC:List (Nat×dI)}(h:fU P bC=true){t:Nat}{f:dI}(aI:eg bC t=some f):NV P t f=true:=by
 unfold eg at aI;cases ab:bC.find? fun x=>x.1==t with
 |none=>simp[ab]at aI
 |some x=>simp[ab]at aI;have J:=List.find?_some ab;simp at J;have U:=List.mem_of_find?_eq_some ab;have ar:=hs.1 h x U;rw[←aI,←J];exact ar
structure Zt (P:cF) (t:Nat) (f:dI):Prop where
 cmp:∀d,P.underlying t=some d→Jj P t d=true
 ex:∃i d z,P.info? t=some i∧P.underlying t=some d∧i.size=f.size∧i.bytes=f.bytes∧ki f.kind d=true∧i.zero=some z∧y0 f.zero z=true∧z.cells.size=f.size
theorem vn{P:cF}{bC:List (Nat×dI)}(h:fU P bC=true){t:Nat}{f:dI}(aI:eg bC t=some f):Zt P t f:=by
 have h:=am3 h aI;unfold NV at h;split at h
 ·rename_i i d J U;simp only[cE,dS]at h;obtain⟨⟨⟨⟨bD,ar⟩,a8⟩,b4⟩,dd⟩:=h;split at dd
  ·rename_i z bq;simp only[cE,dS]at dd;exact⟨fun ca mB=>by rw[U]at mB;cases mB;exact bD,i,d,z,J,U,ar,a8,b4,bq,dd.1,dd.2⟩
  ·cases dd
 ·cases h
theorem pf(b o j:Nat):(⟨b,o,none⟩:Addr).add j=⟨b,o+j,none⟩:=by
 unfold Addr.add;split
 ·rename_i h;subst h;rfl
 ·rfl
theorem Ou(w:World)(ν:bf):∀(cm:List ah) (be:List Value),Bp cm be=true→c5 w ν cm be
 |[],[],_=>by simp[c5]
 |[],_::_,h=>by simp[Bp]at h
 |_::_,[],h=>by simp[Bp]at h
 |p::cm,v::be,h=>by simp only[Bp,cE]at h;simp only[c5];exact⟨v,be,rfl,⟨IP w ν h.1.1,h.1.2⟩,Ou w ν cm be h.2⟩
def cells:ah→List ah
 | .agg cs=>cs
 |p=>[p]
def ei:ah→Bool
 | .junk| .tuple _=>false
 | .cst (.slice _ _ _)| .cst (.string _)=>true
 | .cst _=>false
 |_=>true
theorem Ng{w:World}{ν:bf}{p:ah}{v:Value}(h:ba w ν p v)(ag:ei p=true)(br:∀cs,p≠ .agg cs):v.oneCell'=true∧v.cells= #[v]:=by
 cases p<;>simp only[ba,ei]at h ag;case junk=>cases ag
 case tuple=>cases ag
 case cst c=>subst h;cases v<;>first|exact⟨rfl,rfl⟩|cases ag
 case agg cs=>exact absurd rfl (br cs)
 case int=>subst h;exact⟨rfl,rfl⟩
 case bool=>subst h;exact⟨rfl,rfl⟩
 case str=>rw[h.1];exact⟨rfl,rfl⟩
 case slice=>obtain⟨⟨a,cap,J,_⟩,_⟩:=h;subst J;exact⟨rfl,rfl⟩
 case ptr=>obtain⟨b,_,J⟩:=h;subst J;exact⟨rfl,rfl⟩
 case eptr=>obtain⟨b,o,u,J,_⟩:=h;subst J;exact⟨rfl,rfl⟩
 case iface=>obtain⟨u,J,_⟩:=h;subst J;exact⟨rfl,rfl⟩
 case nilp=>subst h;exact⟨rfl,rfl⟩
 case func=>obtain⟨us,J,_⟩:=h;subst J;exact⟨rfl,rfl⟩
 case gmap=>obtain⟨b,_,J⟩:=h;subst J;exact⟨rfl,rfl⟩
 case row=>obtain⟨⟨a,cap,J⟩,_⟩:=h;subst J;exact⟨rfl,rfl⟩
 case rptr=>obtain⟨⟨a,o,J⟩,_⟩:=h;subst J;exact⟨rfl,rfl⟩
theorem vf{w:World}{ν:bf}{p:ah}{v:Value}(h:ba w ν p v)(ag:ei p=true):c5 w ν (cells p) v.cells.toList:=by
 by_cases br:∃cs,p= .agg cs
 ·obtain⟨cs,rfl⟩:=br;simp only[ba]at h;obtain⟨us,rfl,U⟩:=h;simpa[cells,pR]using U
 ·have nm:∀cs,p≠ .agg cs:=fun cs e=>br ⟨cs,e⟩;obtain⟨J,U⟩:=Ng h ag nm;have ay:cells p=[p]:=by cases p<;>first|rfl|exact absurd rfl (nm _)
  rw[ay,U];simp only[c5];exact⟨v,[],rfl,⟨h,J⟩,rfl⟩
theorem A5{w:World}{ν:bf}:∀{cm:List ah} {be:List Value},c5 w ν cm be→∀c∈be,c.oneCell'=true
 |[],be,h=>by simp only[c5]at h;subst h;simp
 |p::cm,be,h=>by
  simp only[c5]at h;obtain⟨u,ch,rfl,J,U⟩:=h;intro c ay;rcases gf.1 ay with rfl|ay
  ·exact J.2
  ·exact A5 U c ay
theorem pP{w:World}{ν:bf}:∀{cm:List ah} {be:List Value},c5 w ν cm be→be.length=cm.length
 |[],be,h=>by simp only[c5]at h;subst h;rfl
 |p::cm,be,h=>by simp only[c5]at h;obtain⟨u,ch,rfl,_,U⟩:=h;simp[pP U]
theorem A4{w:World}{ν:bf}:∀(n:Nat) {cm:List ah} {be:List Value},c5 w ν cm be→c5 w ν (cm.drop n) (be.drop n)
 |0,_,_,h=>by simpa using h
 |n+1,[],be,h=>by simp only[c5]at h;subst h;simp[c5]
 |n+1,p::cm,be,h=>by simp only[c5]at h;obtain⟨u,ch,rfl,_,U⟩:=h;simpa using A4 n U
theorem DH{w:World}{ν:bf}:∀(n:Nat) {cm:List ah} {be:List Value},c5 w ν cm be→c5 w ν (cm.take n) (be.take n)
 |0,_,_,_=>by simp[c5]
 |n+1,[],be,h=>by simp only[c5]at h;subst h;simp[c5]
 |n+1,p::cm,be,h=>by simp only[c5]at h;obtain⟨u,ch,rfl,J,U⟩:=h;simp only[List.take_succ_cons,c5];exact⟨u,_,rfl,J,DH n U⟩
theorem yD{w:World}{ν:bf}:∀{cm bz:List ah} {be us:List Value},c5 w ν cm be→c5 w ν bz us→c5 w ν (cm++bz) (be++us)
 |[],bz,be,us,h,cx=>by simp only[c5]at h;subst h;simpa using cx
 |p::cm,bz,be,us,h,cx=>by simp only[c5]at h;obtain⟨u,ch,rfl,J,U⟩:=h;simp only[bX,c5];exact⟨u,_,rfl,J,yD U cx⟩
theorem DG{w:World}{ν:bf}:∀(n:Nat) {cm:List ah} {be:List Value} {p:ah},c5 w ν cm be→cm[n]? =some p→∃v,be[n]? =some v∧ba w ν p v∧v.oneCell'=true
 |n,[],_,p,_,bQ=>by simp at bQ
 |0,q::cm,be,p,h,bQ=>by simp only[c5]at h;obtain⟨u,ch,rfl,J,_⟩:=h;simp at bQ;subst bQ;exact⟨u,rfl,J.1,J.2⟩
 |n+1,q::cm,be,p,h,bQ=>by simp only[c5]at h;obtain⟨u,ch,rfl,_,U⟩:=h;simpa using DG n U (by simpa using bQ)
theorem DJ{w:World}{ν:bf}:∀(n:Nat) {cm:List ah} {be:List Value} {p:ah},cM w ν cm be→cm[n]? =some p→∃v,be[n]? =some v∧ba w ν p v
 |n,[],_,p,_,bQ=>by simp at bQ
 |0,q::cm,be,p,h,bQ=>by simp only[cM]at h;obtain⟨u,ch,rfl,J,_⟩:=h;simp at bQ;subst bQ;exact⟨u,rfl,J⟩
 |n+1,q::cm,be,p,h,bQ=>by simp only[cM]at h;obtain⟨u,ch,rfl,_,U⟩:=h;simpa using DJ n U (by simpa using bQ)
theorem uW{w:World}{A:Nat→Nat→Prop}{b:Nat}:∀{us:List Value} {off j:Nat} {u:Value},lQ w A b off us→us[j]? =some u→A b (off+j)∧w.cell? ⟨b,off+j,none⟩=some u
 |[],_,_,_,_,h=>by simp at h
 |x::us,off,0,u,aw,h=>by simp at h;subst h;exact aw.1
 |x::us,off,j+1,u,aw,h=>by have:=uW (j:=j) aw.2 (by simpa using h);rwa[show off+1+j=off+(j+1)from by omega]at this
theorem Gy{w:World}{A:Nat→Nat→Prop}{b:Nat}:∀(n:Nat) {us:List Value} {off:Nat},lQ w A b off us→lQ w A b (off+n) (us.drop n)
 |0,_,_,h=>by simpa using h
 |n+1,[],_,_=>by simp[lQ]
 |n+1,x::us,off,h=>by have:=Gy n h.2;rw[show off+(n+1)=off+1+n from by omega];simpa using this
theorem GA{w:World}{A:Nat→Nat→Prop}{b:Nat}:∀(n:Nat) {us:List Value} {off:Nat},lQ w A b off us→lQ w A b off (us.take n)
 |0,_,_,_=>by simp[lQ]
 |n+1,[],_,_=>by simp[lQ]
 |n+1,x::us,off,h=>by simp only[List.take_succ_cons];exact⟨h.1,GA n h.2⟩
theorem ame{P:cF}{w:World}{A:Nat→Nat→Prop}{b off:Nat}{us:List Value}(h:lQ w A b off us):(loadCells ⟨b,off,none⟩ us.length).run P w= .ok us.toArray w:=run_loadCells_list w _ us fun j v af=>by rw[pf];exact(uW h af).2
theorem amd{P:cF}{w:World}{b off n:Nat}{us:Array Value}{el:gm}{fr:Nat×Nat}(h:w.heap[b]? =some (.cells us el fr))(au:off+n≤us.size):
  (loadCells ⟨b,off,none⟩ n).run P w= .ok ((us.toList.drop off).take n).toArray w:=by
 have aw:((us.toList.drop off).take n).length=n:=by simp;omega
 have:=run_loadCells_list (P:=P) w ⟨b,off,none⟩ ((us.toList.drop off).take n) fun j v af=>by
  rw[pf];have afP:j<n:=by have:=(fV.1 af).1;omega
  simp only[World.cell?,h,ht,hb,if_false];rw[List.getElem?_take]at af;simpa[afP]using af
 rw[aw]at this;exact this
theorem RG{α:Type}(l r:List α)(n sz:Nat)(h:l.length=sz):(l++r).drop ((n+1)*sz)=r.drop (n*sz):=by
 have e:(n+1)*sz=l.length+n*sz:=by rw[h,Nat.succ_mul,Nat.add_comm]
 rw[e,←List.drop_drop];simp
theorem X6{α:Type}(l r:List α)(n sz:Nat)(h:l.length=sz):(l++r).take ((n+1)*sz)=l++r.take (n*sz):=by
 have e:(n+1)*sz=l.length+n*sz:=by rw[h,Nat.succ_mul,Nat.add_comm]
 rw[e,List.take_length_add_append]
theorem Hx{w:World}{ν:bf}{sz:Nat}:∀(i:Nat) {xs:List ah} {us:List Value} {p:ah},dH w ν sz xs us→xs[i]? =some p→
  ∃u,ba w ν p u∧u.cells.size=sz∧u.cells.toList=(us.drop (i*sz)).take sz
 |i,[],_,p,_,bQ=>by simp at bQ
 |0,x::xs,us,p,h,bQ=>by
  simp only[dH]at h;obtain⟨u,ch,rfl,⟨J,U,ar⟩,_⟩:=h;simp at bQ;subst bQ;refine⟨u,J,U,?_⟩;have:u.cells.toList.length=sz:=by simpa using U
  simp[←this]
 |i+1,x::xs,us,p,h,bQ=>by
  simp only[dH]at h;obtain⟨u,ch,rfl,⟨_,U,_⟩,b4⟩:=h;obtain⟨v,g1,g2,g3⟩:=Hx i b4 (by simpa using bQ);refine⟨v,g1,g2,?_⟩;have:u.cells.toList.length=sz:=by simpa using U
  rw[g3,RG _ _ _ _ this]
theorem tC{w:World}{ν:bf}{sz:Nat}:∀{xs:List ah} {us:List Value},dH w ν sz xs us→us.length=xs.length*sz
 |[],us,h=>by simp only[dH]at h;subst h;simp
 |x::xs,us,h=>by
  simp only[dH]at h;obtain⟨u,ch,rfl,⟨_,U,_⟩,b4⟩:=h;have:u.cells.toList.length=sz:=by simpa using U
  rw[pS,this,tC b4,pT,Nat.succ_mul];omega
theorem yC{w:World}{ν:bf}{sz:Nat}:∀{xs:List ah} {us:List Value},dH w ν sz xs us→∀c∈us,c.oneCell'=true
 |[],us,h=>by simp only[dH]at h;subst h;simp
 |x::xs,us,h=>by
  simp only[dH]at h;obtain⟨u,ch,rfl,⟨_,_,ar⟩,b4⟩:=h;intro c ay;rcases ka.1 ay with ay|ay
  ·exact ar c ay
  ·exact yC b4 c ay
theorem DF{w:World}{ν:bf}{sz:Nat}:∀{cm bz:List ah} {be us:List Value},dH w ν sz cm be→dH w ν sz bz us→dH w ν sz (cm++bz) (be++us)
 |[],bz,be,us,h,cx=>by simp only[dH]at h;subst h;simpa using cx
 |p::cm,bz,be,us,h,cx=>by simp only[dH]at h;obtain⟨u,ch,rfl,J,U⟩:=h;simp only[bX,dH];exact⟨u,ch++us,by simp,J,DF U cx⟩
theorem Xk{w:World}{ν:bf}{sz:Nat}:∀(n:Nat) {xs:List ah} {us:List Value},dH w ν sz xs us→dH w ν sz (xs.drop n) (us.drop (n*sz))
 |0,_,_,h=>by simpa using h
 |n+1,[],us,h=>by simp only[dH]at h;subst h;simp[dH]
 |n+1,x::xs,us,h=>by
  simp only[dH]at h;obtain⟨u,ch,rfl,⟨_,U,_⟩,b4⟩:=h;have:u.cells.toList.length=sz:=by simpa using U
  rw[RG _ _ _ _ this];simpa using Xk n b4
theorem Xn{w:World}{ν:bf}{sz:Nat}:∀(n:Nat) {xs:List ah} {us:List Value},dH w ν sz xs us→dH w ν sz (xs.take n) (us.take (n*sz))
 |0,_,_,_=>by simp[dH]
 |n+1,[],us,h=>by simp only[dH]at h;subst h;simp[dH]
 |n+1,x::xs,us,h=>by
  simp only[dH]at h;obtain⟨u,ch,rfl,⟨J,U,ar⟩,b4⟩:=h;have:u.cells.toList.length=sz:=by simpa using U
  simp only[List.take_succ_cons,dH];refine⟨u,ch.take (n*sz),?_,⟨J,U,ar⟩,Xn n b4⟩;rw[X6 _ _ _ _ this]
def isAgg(sz:Nat)(p:ah):Prop:= ∃cs,p= .agg cs∧cs.length=sz
def yH(agg:Bool)(sz dL n i f:Nat):Option fL→Option (Prop×ah)
 |some ⟨n',_,jr,some xs⟩=>if n'=n∧jr=dL then
   (match xs[i]? with
    |some p=>if agg then some (ei p=true∧f+sz≤(cells p).length,.agg (((cells p).drop f).take sz))else((cells p)[f]?).map fun q=>(ei p=true,q)
    |none=>none)else none
 |_=>none
def mM(b:List (aH×List ah))(e:List (aH×fL))(agg:Bool)(sz:Nat):ah→Option (Prop×ah)
 | .rptr dL k n i f=>yH agg sz dL n i f (look k e)
 | .ptr k off=>
  match look k b with
  |some cs=>if agg then some (h2 cs=true∧off+sz≤cs.length,.agg ((cs.drop off).take sz))else(cs[off]?).map fun p=>(h2 cs=true,p)
  |none=>none
 | .eptr p=>if agg then some (isAgg sz p,p)else some (ei p=true∧cells p=[p],p)
 |_=>none
def B6(agg:Bool)(sz:Nat):ah→Option (Prop×ah)
 | .eptr p=>if agg then some (isAgg sz p,p)else some (ei p=true∧cells p=[p],p)
 |_=>none
theorem aee{b:List (aH×List ah)}{e:List (aH×fL)}{agg:Bool}{sz:Nat}{p:ah}{r:Prop×ah}(h:B6 agg sz p=some r):mM b e agg sz p=some r:=by
 cases p<;>simp only[B6]at h<;>first|cases h;done|skip
 simpa only[mM]using h
theorem ahP{b:List (aH×List ah)}{e:List (aH×fL)}{agg:Bool}{sz:Nat}{p:ah}{r:Prop×ah}(h:mM b [] agg sz p=some r):mM b e agg sz p=some r:=by cases p<;>simp only[mM]at h⊢ <;>first|exact h|(simp[look,yH]at h)
def p2(off:Nat)(agg:Bool)(sz:Nat):ah→Option (Prop×ah)
 | .ptr k o=>some (True,.ptr k (o+off))
 | .rptr dL k n i f=>some (True,.rptr dL k n i (f+off))
 | .eptr (.agg cs)=>if agg then some (off+sz≤cs.length,.eptr (.agg ((cs.drop off).take sz)))else(cs[off]?).map fun p=>(ei p=true∧cells p=[p],.eptr p)
 |_=>none
def rB(off:Nat)(agg:Bool)(sz:Nat):ah→Option (Prop×ah)
 | .agg cs=>if agg then some (off+sz≤cs.length,.agg ((cs.drop off).take sz))else(cs[off]?).map fun p=>(True,p)
 |_=>none
def Af(sz:Nat):ah→ah→Option (Prop×ah)
 | .slice dL _ xs,.int _ i=>if dL=sz then some (0≤i∧i<xs.length,.eptr (xs.getD i.toNat .junk))else none
 | .row dL k n,.int _ i=>if dL=sz then some (0≤i∧i<n,.rptr dL k n i.toNat 0)else none
 |_,_=>none
def HS:ah→ah→Option (Prop×ah)
 | .str s,.int _ i=>some (0≤i∧i<s.length,.int .u8 (s.getD i.toNat 0).toNat)
 |_,_=>none
def q5(Ff:Int):Option ah→Option Int
 |none=>some Ff
 |some (.int _ i)=>some i
 |_=>none
def HX(x:ah)(lo hi:Option ah):Option (Prop×ah):=
 match x with
 | .str s=>match q5 0 lo,q5 s.length hi with
  |some l,some h=>some (0≤l∧l≤h∧h≤s.length,.str ((s.take h.toNat).drop l.toNat))
  |_,_=>none
 |_=>none
def GH(sz:Nat)(x:ah)(lo hi:Option ah):Option (Prop×ah):=
 match x with
 | .slice dL _ xs=>if dL=sz then match q5 0 lo,q5 xs.length hi with
  |some l,some h=>some (0≤l∧l≤h∧h≤xs.length,.slice sz .no ((xs.take h.toNat).drop l.toNat))
  |_,_=>none else none
 |_=>none
def tb(n:Int):Prop:= -9223372036854775808≤n∧n≤9223372036854775807
def Gi(op:BinOp)(wr:Bool)(k:IntKind)(a b:Int):Option (Prop×ah):=
 match op with
 | .add=>if wr then some (True,.int k (k.wrap (a+b)))else some (k= .i64∧tb (a+b),.int .i64 (a+b))
 | .sub=>if wr then some (True,.int k (k.wrap (a-b)))else some (k= .i64∧tb (a-b),.int .i64 (a-b))
 | .mul=>if wr then some (True,.int k (k.wrap (a*b)))else some (k= .i64∧tb (a*b),.int .i64 (a*b))
 | .quo=>some (b≠0,.int k (k.wrap (a.tdiv b)))
 | .rem=>some (b≠0,.int k (a.tmod b))
 | .eql=>some (True,.bool (a==b))
 | .neq=>some (True,.bool (a !=b))
 | .lss=>some (True,.bool (decide (a<b)))
 | .leq=>some (True,.bool (decide (a≤b)))
 | .gtr=>some (True,.bool (decide (b<a)))
 | .geq=>some (True,.bool (decide (b≤a)))
 | .and=>some (True,.int k (k.wrap (qt k.bits a&&& qt k.bits b).toNat))
 | .or=>some (True,.int k (k.wrap (qt k.bits a|||qt k.bits b).toNat))
 | .xor=>some (True,.int k (k.wrap (qt k.bits a ^^^ qt k.bits b).toNat))
 |_=>none
def HY(op:BinOp)(a b:List dm):Option (Prop×ah):=
 match op with
 | .add=>some (a.length+b.length≤lim,.str (a++b))
 | .eql=>some (True,.bool (a==b))
 | .neq=>some (True,.bool (!(a==b)))
 | .lss=>some (True,.bool (hC a b))
 | .leq=>some (True,.bool (hC a b||a==b))
 | .gtr=>some (True,.bool (!(hC a b||a==b)))
 | .geq=>some (True,.bool (!hC a b))
 |_=>none
def BE(op:BinOp)(wr:Bool):ah→ah→Option (Prop×ah)
 | .int k a,.int bH b=>match op with
  | .shl=>some (0≤b,.int k (k.wrap (a*2 ^ (min b.toNat k.bits))))
  | .shr=>some (0≤b,.int k (a.fdiv (2 ^ (min b.toNat k.bits))))
  |_=>if k=bH then Gi op wr k a b else none
 | .str a,.str b=>HY op a b
 |_,_=>none
def n7(cs:List ah)(off:Nat)(cm:List ah):List ah:=cs.take off++cm++cs.drop (off+cm.length)
def ui(t:List (Nat×ah)):List ah→List (Nat×Nat×dz)→Option (Prop×List ah)
 |cs,[]=>some (True,cs)
 |cs,(off,sz,x)::r=>
  let p:=cu t x
  match ui t (n7 cs off (cells p)) r with
  |some (c,cs')=>some ((ei p=true∧(cells p).length=sz∧off+sz≤cs.length)∧c,cs')
  |none=>none
def G8(c x y:ah):Option (Prop×ah):=
 match c with
 | .bool b=>match x,y with
  | .bool u,.bool v=>some (True,.bool (cond b u v))
  |p,q=>match b with
   |true=>some (True,p)
   |false=>some (True,q)
 |_=>none
def GW:ah→Option (Prop×ah)
 | .bool b=>some (True,.bool (!b))
 |_=>none
def GS:ah→Option (Prop×ah)
 | .int k n=>some (True,.int k (k.wrap (0-n)))
 |_=>none
def zo(i:Nat):ah→Option (Prop×ah)
 | .tuple be=>(be[i]?).map fun p=>(True,p)
 |_=>none
def Ap:ah→Option (Prop×ah)
 | .slice _ _ xs=>some (True,.int .i64 xs.length)
 | .row _ _ n=>some (True,.int .i64 n)
 | .cst (.slice _ n _)=>some (True,.int .i64 n)
 |_=>none
def DT:ah→Option (Prop×ah)
 | .str s=>some (True,.int .i64 s.length)
 | .cst (.string s)=>some (True,.int .i64 s.size)
 |_=>none
def E9(k:IntKind):ah→Option (Prop×ah)
 | .int _ n=>some (True,.int k (k.wrap n))
 |_=>none
def AD:ah→Option (Prop×ah)
 | .ptr k o=>some (True,.ptr k o)
 | .eptr p=>some (True,.eptr p)
 | .func f cs=>some (True,.func f cs)
 |_=>none
def GR:ah→ah→Option (Prop×ah)
 | .int k a,.int bH b=>if k=bH then some (True,.int k (if b<a then b else a))else none
 |_,_=>none
def kh:List Bool→List ah→List ah→Option Bool
 |[],[],[]=>some true
 |false::r,.int k a::as,.int bH b::eZ=>if k=bH then(kh r as eZ).map fun q=>(a==b)&&q else none
 |true::r,.str a::as,.str b::eZ=>(kh r as eZ).map fun q=>(a==b)&&q
 |_,_,_=>none
inductive jH where
 |i
 |s
 |a (dQ:List Bool)
 deriving DecidableEq
def te:jH→ah→ah→Option Bool
 | .i,.int k a,.int bH b=>if k=bH then some (a==b)else none
 | .s,.str a,.str b=>some (a==b)
 | .a dQ,.agg as,.agg eZ=>kh dQ as eZ
 |_,_,_=>none
def uQ:jH→ah→Bool
 | .a dQ,.agg as=>(kh dQ as as).isSome
 | .a _,_=>false
 |_,_=>true
@[simp] theorem UD(k:ah):uQ .i k=true:=by cases k<;>rfl
@[simp] theorem aqU(k:ah):uQ .s k=true:=by cases k<;>rfl
def wE(cf:jH)(k:ah):List ah→Option (Option ah)
 |bH::v::r=>match te cf k bH with
  |some true=>some (some v)
  |some false=>wE cf k r
  |none=>none
 |_=>some none
def n2(b:aH→Option (List ah))(cf:jH)(zero:ah)(ok:Bool)(x k:ah):Option (Prop×ah):=
 match x with
 | .gmap key=>match b key with
  |some (.hdm _ _::kvs)=>if uQ cf k=false then none else match wE cf k kvs with
   |some (some v)=>some (True,if ok then .tuple [v,.bool true]else v)
   |some none=>some (True,if ok then .tuple [zero,.bool false]else zero)
   |none=>none
  |_=>none
 |_=>none
def u1(b:aH→Option (List ah))(x:ah):Option (Prop×ah):=
 match x with
 | .gmap key=>match b key with
  |some (.hdm _ borns::_)=>some (True,.int .i64 borns.length)
  |_=>none
 |_=>none
def iF(neg:Bool):Option (List Bool)→ah→ah→Option (Prop×ah)
 |none,.bool a,.bool b=>some (True,.bool (if neg then a !=b else a==b))
 |some dQ,.agg as,.agg eZ=>(kh dQ as eZ).map fun q=>(True,.bool (if neg then !q else q))
 |_,_,_=>none
def GL:ah→ah→Option (Prop×ah)
 | .int k a,.int bH b=>if k=bH then some (True,.int k (if a<b then b else a))else none
 |_,_=>none
def u2(cf:jH)(k v:ah):List ah→Option (Option (List ah))
 |bH::v'::r=>match te cf k bH with
  |some true=>some (some (k::v::r))
  |some false=>match u2 cf k v r with
   |some (some eS)=>some (some (bH::v'::eS))
   |some none=>some none
   |none=>none
  |none=>none
 |_=>some none
def mN(n:Nat):List Nat→List ah→Option ah
 |b::eZ,k::v::r=>if b=n then some (.tuple [k,v])else mN n eZ r
 |_,_=>none
def pK(b:aH→Option (List ah))(x:ah):Option (Prop×ah):=
 match x with
 | .ptr ft 0=>match b ft with
  |some [.hdi _ seen last,.gmap mk]=>match b mk with
   |some (.hdm clock borns::kvs)=>match seen.getLast? with
    |some n=>(mN n borns kvs).map fun p=>(clock=last,p)
    |none=>none
   |_=>none
  |_=>none
 |_=>none
theorem Vs{f g:aH→Option (List ah)}(h:∀k,f k≠none→g k=f k){cf:jH}{zero:ah}{ok:Bool}{x k:ah}{r:Prop×ah}(he:n2 f cf zero ok x k=some r):n2 g cf zero ok x k=some r:=by
 unfold n2 at he⊢;split at he
 ·rename_i key;cases aI:f key with
  |none=>simp[aI]at he
  |some cs=>rw[h key (by rw[aI];simp),aI];rw[aI]at he;exact he
 ·cases he
theorem aim{f g:aH→Option (List ah)}(h:∀k,f k≠none→g k=f k){x:ah}{r:Prop×ah}(he:u1 f x=some r):u1 g x=some r:=by
 unfold u1 at he⊢;split at he
 ·rename_i key;cases aI:f key with
  |none=>simp[aI]at he
  |some cs=>rw[h key (by rw[aI];simp),aI];rw[aI]at he;exact he
 ·cases he
theorem ah2{f g:aH→Option (List ah)}(h:∀k,f k≠none→g k=f k){x:ah}{r:Prop×ah}(he:pK f x=some r):pK g x=some r:=by
 unfold pK at he⊢;split at he
 ·rename_i ft;cases aI:f ft with
  |none=>simp[aI]at he
  |some cs=>
   simp only[h ft (by rw[aI];simp),aI]at he⊢;split at he
   ·rename_i since seen last mk di;cases uD:f mk with
    |none=>simp[uD]at he
    |some eT=>simp only[h mk (by rw[uD];simp),uD]at he⊢;exact he
   ·cases he
 ·cases he
inductive fY where
 |mov (x:dz)
 |pick (c x y:dz)
 |load (agg:Bool) (sz:Nat) (x:dz)
 |faddr (off:Nat) (agg:Bool) (sz:Nat) (x:dz)
 |fld (off:Nat) (agg:Bool) (sz:Nat) (x:dz)
 |iaddr (sz:Nat) (x i:dz)
 |sidx (x i:dz)
 |ssl (x:dz) (lo hi:Option dz)
 |lsl (sz:Nat) (x:dz) (lo hi:Option dz)
 |bin (op:BinOp) (wr:Bool) (x y:dz)
 |notB (x:dz)
 |neg (x:dz)
 |conv (k:IntKind) (x:dz)
 |ext (i:Nat) (x:dz)
 |len (x:dz)
 |slen (x:dz)
 |build (zero:List ah) (parts:List (Nat×Nat×dz))
 |nck (x:dz)
 |min2 (x y:dz)
 |mkf (n:Nat) (xs:List dz)
 |mget (cf:jH) (zero:ah) (ok:Bool) (x k:dz)
 |ment (x:dz)
 |mlen (x:dz)
 |beq (neg:Bool) (dQ:Option (List Bool)) (x y:dz)
 |max2 (x y:dz)
 |mkif (t:Nat) (x:dz)
 |loadB (agg:Bool) (sz:Nat) (x:dz)
 |mgetB (cf:jH) (zero:ah) (ok:Bool) (x k:dz)
 |loadZ (agg:Bool) (sz:Nat) (x:dz)
def hp(st:bs):fY→Option (Prop×ah)
 | .mov x=>some (True,cu st.t x)
 | .pick c x y=>G8 (cu st.t c) (cu st.t x) (cu st.t y)
 | .load agg sz x=>mM st.b st.e agg sz (cu st.t x)
 | .faddr off agg sz x=>p2 off agg sz (cu st.t x)
 | .fld off agg sz x=>rB off agg sz (cu st.t x)
 | .iaddr sz x i=>Af sz (cu st.t x) (cu st.t i)
 | .sidx x i=>HS (cu st.t x) (cu st.t i)
 | .ssl x lo hi=>HX (cu st.t x) (lo.map (cu st.t)) (hi.map (cu st.t))
 | .lsl sz x lo hi=>GH sz (cu st.t x) (lo.map (cu st.t)) (hi.map (cu st.t))
 | .bin op wr x y=>BE op wr (cu st.t x) (cu st.t y)
 | .notB x=>GW (cu st.t x)
 | .neg x=>GS (cu st.t x)
 | .conv k x=>E9 k (cu st.t x)
 | .ext i x=>zo i (cu st.t x)
 | .len x=>Ap (cu st.t x)
 | .slen x=>DT (cu st.t x)
 | .build zero parts=>(ui st.t zero parts).map fun(c,cs)=>(c,.agg cs)
 | .nck x=>AD (cu st.t x)
 | .min2 x y=>GR (cu st.t x) (cu st.t y)
 | .mkf n xs=>some (True,.func n (xs.map (cu st.t)))
 | .mget cf zero ok x k=>n2 (fun k=>look k st.b) cf zero ok (cu st.t x) (cu st.t k)
 | .ment x=>pK (fun k=>look k st.b) (cu st.t x)
 | .mlen x=>u1 (fun k=>look k st.b) (cu st.t x)
 | .beq neg dQ x y=>iF neg dQ (cu st.t x) (cu st.t y)
 | .max2 x y=>GL (cu st.t x) (cu st.t y)
 | .mkif t x=>some (True,.iface t (cu st.t x))
 | .loadB agg sz x=>mM st.b [] agg sz (cu st.t x)
 | .mgetB cf zero ok x k=>n2 (fun k=>look k st.b) cf zero ok (cu st.t x) (cu st.t k)
 | .loadZ agg sz x=>B6 agg sz (cu st.t x)
def AQ(bC:List (Nat×dI))(dQ:List (Nat×Nat)):List (Nat×Nat×dz)→List (Nat×Operand)→Bool
 |[],[]=>true
 |(off,sz,x)::r,(i,o)::s=>(match dQ[i]? with|some (wI,t)=>off==wI&&((eg bC t).map (·.size))==some sz|none=>false)&&er x o&&AQ bC dQ r s
 |_,_=>false
def Il:ah→ah→Bool
 | .int k n,.int bH n'=>decide (k=bH∧n=n')
 | .bool b,.bool bP=>b==bP
 | .str [],.str []=>true
 | .slice a .nil [],.slice b .nil []=>a==b
 | .nilp,.nilp=>true
 | .junk,.junk=>true
 |_,_=>false
def yZ:List ah→List ah→Bool
 |[],[]=>true
 |c::cs,d::eT=>Il c d&&yZ cs eT
 |_,_=>false
def Bq:ah→ah→Bool
 | .agg cs,.agg eT=>yZ cs eT
 | .agg _,_=>false
 |p,q=>Il p q
def yv:List dz→List Operand→Bool
 |[],[]=>true
 |x::xs,o::os=>er x o&&yv xs os
 |_,_=>false
def zw(bC:List (Nat×dI)):Nat→List Bool→List (Nat×Nat)→Bool
 |_,[],[]=>true
 |n,b::r,(off,t)::dQ=>off==n&&(match eg bC t with|some ⟨_,_,.int _,_⟩=> !b|some ⟨_,_,.str,_⟩=>b|_=>false)&&zw bC (n+1) r dQ
 |_,_,_=>false
def Fw(bC:List (Nat×dI))(dQ:List Bool)(t:Nat):Bool:=match eg bC t with
 |some ⟨_,_,.struct gs,_⟩=>zw bC 0 dQ gs
 |_=>false
def yc(bC:List (Nat×dI))(cf:jH)(t:Nat):Bool:=match cf with
 | .i=>(match eg bC t with|some ⟨_,_,.int _,_⟩=>true|_=>false)
 | .s=>(match eg bC t with|some ⟨_,_,.str,_⟩=>true|_=>false)
 | .a dQ=>Fw bC dQ t
def Ox:List ah→ah→Bool
 |cs,.agg eT=>yZ cs eT
 |_,_=>false
def wL:Option dz→Option Operand→Bool
 |none,none=>true
 |some x,some o=>er x o
 |_,_=>false
def D5(bC:List (Nat×dI)):fY→Op→Bool
 | .mov x,.move o=>er x o
 | .mov x,.assign o=>er x o
 | .pick c x y,.pick ct Ef Oq=>er c ct&&er x Ef&&er y Oq
 | .load agg sz x,.load t o=>(match eg bC t with|some f=>f.size==sz&&f.kind.isAgg==agg|none=>false)&&er x o
 | .faddr off agg sz x,.fieldAddr s o i=>
  (match eg bC s with
   |some ⟨_,_,.struct dQ,_⟩=>(match dQ[i]? with|some (wI,t)=>off==wI&&(match eg bC t with|some f=>f.size==sz&&f.kind.isAgg==agg&&sz !=0|none=>false)|none=>false)
   |_=>false)&&er x o
 | .fld off agg sz x,.field s o i=>
  (match eg bC s with
   |some ⟨_,_,.struct dQ,_⟩=>(match dQ[i]? with|some (wI,t)=>off==wI&&(match eg bC t with|some f=>f.size==sz&&f.kind.isAgg==agg|none=>false)|none=>false)
   |_=>false)&&er x o
 | .iaddr sz x i,.indexAddr t o j=>(match eg bC t with|some ⟨_,_,.slice e,_⟩=>(match eg bC e with|some f=>f.size==sz|none=>false)|_=>false)&&er x o&&er i j
 | .sidx x i,.index t o j=>(match eg bC t with|some ⟨_,_,.str,_⟩=>true|_=>false)&&er x o&&er i j
 | .ssl x lo hi,.slice t o l h none=>(match eg bC t with|some ⟨_,_,.str,_⟩=>true|_=>false)&&er x o&&wL lo l&&wL hi h
 | .lsl sz x lo hi,.slice t o l h none=>(match eg bC t with|some ⟨_,_,.slice e,_⟩=>(match eg bC e with|some f=>f.size==sz|none=>false)|_=>false)&&er x o&&wL lo l&&wL hi h
 | .bin op _ x y,.binOp V8 _ o o' _=>decide (op=V8)&&er x o&&er y o'
 | .notB x,.unOp op _ o=>decide (op= .not)&&er x o
 | .neg x,.unOp op _ o=>decide (op= .neg)&&er x o
 | .conv k x,.convert s d o=>(match eg bC s,eg bC d with|some ⟨_,_,.int _,_⟩,some ⟨_,_,.int bH,_⟩=>decide (k=bH)|_,_=>false)&&er x o
 | .ext i x,.extract o j=>i==j&&er x o
 | .len x,.call ⟨.builtin .len,⟨[o]⟩,⟨[t]⟩⟩=>(match eg bC t with|some ⟨_,_,.slice _,_⟩=>true|_=>false)&&er x o
 | .slen x,.call ⟨.builtin .len,⟨[o]⟩,⟨[t]⟩⟩=>(match eg bC t with|some ⟨_,_,.str,_⟩=>true|_=>false)&&er x o
 | .build zero parts,.build t cm=>(match eg bC t with|some ⟨_,_,.struct dQ,z⟩=>Ox zero z&&(dQ.all fun x=>(eg bC x.2).isSome)&&AQ bC dQ parts cm.toList|_=>false)
 | .nck x,.nilCheck o=>er x o
 | .min2 x y,.call ⟨.builtin .min,⟨[o,o']⟩,⟨[_,_]⟩⟩=>er x o&&er y o'
 | .mkf n xs,.makeFunc (.func m) ⟨[]⟩ os=>n==m&&yv xs os.toList
 | .mget cf zero ok x k,.lookup t o o' GX=>ok==GX&&(match eg bC t with|some ⟨_,_,.map mL pz,_⟩=>yc bC cf mL&&(match eg bC pz with|some f=>Bq zero f.zero|none=>false)|_=>false)&&er x o&&er k o'
 | .ment x,.entry o=>er x o
 | .mlen x,.call ⟨.builtin .len,⟨[o]⟩,⟨[t]⟩⟩=>(match eg bC t with|some ⟨_,_,.map _ _,_⟩=>true|_=>false)&&er x o
 | .beq neg dQ x y,.binOp op t o o' _=>decide (op=if neg then .neq else .eql)&&(match dQ with|none=>(match eg bC t with|some ⟨_,_,.bool,_⟩=>true|_=>false)|some dQ=>Fw bC dQ t)&&er x o&&er y o'
 | .max2 x y,.call ⟨.builtin .max,⟨[o,o']⟩,⟨[_,_]⟩⟩=>er x o&&er y o'
 | .mkif t x,.makeInterface dE o=>t==dE&&(match eg bC t with|some ⟨_,_,.slice _,_⟩=>true|_=>false)&&er x o
 | .loadB agg sz x,.load t o=>(match eg bC t with|some f=>f.size==sz&&f.kind.isAgg==agg|none=>false)&&er x o
 | .loadZ agg sz x,.load t o=>(match eg bC t with|some f=>f.size==sz&&f.kind.isAgg==agg|none=>false)&&er x o
 | .mgetB cf zero ok x k,.lookup t o o' GX=>ok==GX&&(match eg bC t with|some ⟨_,_,.map mL pz,_⟩=>yc bC cf mL&&(match eg bC pz with|some f=>Bq zero f.zero|none=>false)|_=>false)&&er x o&&er k o'
 |_,_=>false
end Go.Pv
namespace Go.Pv
open Go Go.RowKit
theorem Jz(P:cF)(w:World)(op:BinOp)(t:gm)(x y:Operand)(k bH:IntKind)(m n:Int):(eqGuard op t x y (.int k m) (.int bH n)).run P w= .ok () w:=by cases op<;>rfl
theorem aa7(P:cF)(w:World)(op:BinOp)(t:gm)(x y:Operand)(m n:ByteArray):(eqGuard op t x y (.string m) (.string n)).run P w= .ok () w:=by cases op<;>rfl
theorem am5(l:List dm):(⟨l.toArray⟩:ByteArray).toList=l:=by simp
theorem ZI(a b:List dm):(⟨a.toArray⟩:ByteArray)++(⟨b.toArray⟩:ByteArray)=⟨(a++b).toArray⟩:=by apply aoN;simp
theorem ab3(a:List dm)(l h:Nat):(⟨a.toArray⟩:ByteArray).extract l h=⟨((a.take h).drop l).toArray⟩:=by apply aoN;simp[List.drop_take]
theorem DS(a:List dm):(⟨a.toArray⟩:ByteArray).size=a.length:=by simp[at1]
section
variable {P:cF} {w:World} {r:Sem Value}
theorem rD{k:IntKind}{x:Int}(h:r.run P w= .ok (.int k x) w):∃v,r.run P w= .ok v w∧∀ν,ba w ν (.int k x) v:=⟨_,h,fun ν=>by simp[ba]⟩
theorem SO{x:Bool}(h:r.run P w= .ok (.bool x) w):∃v,r.run P w= .ok v w∧∀ν,ba w ν (.bool x) v:=⟨_,h,fun ν=>by simp[ba]⟩
end
theorem agZ(P:cF)(w:World){op:BinOp}{wr:Bool}{k:IntKind}{a b:Int}{c:Prop}{p:ah}(he:Gi op wr k a b=some (c,p))(ay:c)(t:gm):
  ∃v,(binOp op t (.int k a) (.int k b)).run P w= .ok v w∧∀ν,ba w ν p v:=by
 cases op<;>simp only[Gi]at he;case add=>
  cases wr<;>simp only[if_true,hb,if_false]at he<;>cases he
  ·obtain⟨rfl,h⟩:=ay;exact rD (by simp[binOp,Op.intArith,o8 _ h])
  ·exact rD (by simp[binOp,Op.intArith])
 case sub=>
  cases wr<;>simp only[if_true,hb,if_false]at he<;>cases he
  ·obtain⟨rfl,h⟩:=ay;exact rD (by simp[binOp,Op.intArith,o8 _ h])
  ·exact rD (by simp[binOp,Op.intArith])
 case mul=>
  cases wr<;>simp only[if_true,hb,if_false]at he<;>cases he
  ·obtain⟨rfl,h⟩:=ay;exact rD (by simp[binOp,Op.intArith,o8 _ h])
  ·exact rD (by simp[binOp,Op.intArith])
 case quo=>cases he;exact rD (by simp[binOp,Op.intDiv,ay])
 case rem=>cases he;exact rD (by simp[binOp,Op.intDiv,ay])
 case and=>cases he;exact rD (by simp only[binOp,Op.intBits,ne_eq,not_true_eq_false,if_false,gu])
 case or=>cases he;exact rD (by simp only[binOp,Op.intBits,ne_eq,not_true_eq_false,if_false,gu])
 case xor=>cases he;exact rD (by simp only[binOp,Op.intBits,ne_eq,not_true_eq_false,if_false,gu])
 all_goals cases he
 all_goals exact SO (by simp only[binOp,Op.intCmp,ne_eq,not_true_eq_false,if_false,gu,gt_iff_lt,ge_iff_le])
theorem amQ(P:cF)(w:World){op:BinOp}{a b:List dm}{c:Prop}{p:ah}(he:HY op a b=some (c,p))(ay:c)(t:gm):
  ∃v,(binOp op t (.string ⟨a.toArray⟩) (.string ⟨b.toArray⟩)).run P w= .ok v w∧∀ν,ba w ν p v:=by
 cases op<;>simp only[HY]at he;case add=>
  cases he;refine⟨.string ⟨(a++b).toArray⟩,?_,fun ν=>by simp only[ba];exact⟨trivial,by simpa using ay⟩⟩;have J:¬(((⟨a.toArray⟩:ByteArray).size+(⟨b.toArray⟩:ByteArray).size:Nat):Int)>IntKind.i64.max:=by
   have:IntKind.i64.max=9223372036854775807:=by decide
   rw[this,DS,DS];simp only[lim]at ay;omega
  simp only[binOp,Op.stringOp,J,if_false,gu,ZI]
 all_goals cases he
 all_goals exact SO (by simp only[binOp,Op.stringOp,am5,gu])
theorem ZU(P:cF)(w:World)(ν:bf){op:BinOp}{wr:Bool}{x y:ah}{c:Prop}{p:ah}(he:BE op wr x y=some (c,p))(ay:c)(t:gm){u v:Value}(hu:ba w ν x u)(aK:ba w ν y v)(o o':Operand):
  ∃r,(do eqGuard op t o o' u v;binOp op t u v).run P w= .ok r w∧ba w ν p r:=by
 unfold BE at he;split at he
 ·rename_i k a bH b;simp only[ba]at hu aK;subst hu;subst aK;split at he
  ·cases he;refine⟨_,?_,by simp[ba];rfl⟩;simp[binOp,Op.shift,Jz,Int.not_lt.2 ay]
  ·cases he;refine⟨_,?_,by simp[ba];rfl⟩;simp[binOp,Op.shift,Jz,Int.not_lt.2 ay]
  ·split at he
   ·rename_i ad;subst ad;obtain⟨r,J,U⟩:=agZ P w he ay t;exact⟨r,by simp[Jz,J],U ν⟩
   ·cases he
 ·simp only[ba]at hu aK;rw[hu.1,aK.1];obtain⟨r,J,U⟩:=amQ P w he ay t;exact⟨r,by simp[aa7,J],U ν⟩
 ·cases he
theorem JX{w:World}{ν:bf}:∀(v:List Value) (i off:Nat) (cs:Array Value),off+i+v.length≤cs.size→
  ((v.zipIdx i).foldl (fun cs (x:Value×Nat)=>cs.setIfInBounds (off+x.2) x.1) cs).toList=cs.toList.take (off+i)++v++cs.toList.drop (off+i+v.length)
 |[],i,off,cs,_=>by simp
 |u::v,i,off,cs,h=>by
  simp only[List.zipIdx_cons,List.foldl_cons];rw[JX (w:=w) (ν:=ν) v (i+1) off _ (by simp at h⊢;omega)];have bE:off+i<cs.toList.length:=by simp at h⊢;omega
  simp only[Array.toList_setIfInBounds];have ak:(cs.toList.set (off+i) u).take (off+(i+1))=cs.toList.take (off+i)++[u]:=by rw[show off+(i+1)=(off+i)+1 from by omega,List.take_succ_eq_append_getElem (by simpa using bE)];simp[List.take_set_of_le (eY _)]
  have aC:(cs.toList.set (off+i) u).drop (off+(i+1)+v.length)=cs.toList.drop (off+i+(u::v).length):=by rw[List.drop_set_of_lt (by omega)];congr 1;simp;omega
  rw[ak,aC];simp
theorem XA{w:World}{ν:bf}{C:fh}{st:bs}{a:Act}(aM:cR C st a w ν){bC:List (Nat×dI)}{dQ:List (Nat×Nat)}{tx:List (Nat×Nat)}
  (bQ:∀(i off t sz:Nat),dQ[i]? =some (off,t)→(eg bC t).map (·.size)=some sz→tx[i]? =some (off,sz)):
  ∀(parts:List (Nat×Nat×dz)) (cm:List (Nat×Operand)) (cs:List ah) (us:Array Value) (c:Prop) (cs':List ah),AQ bC dQ parts cm=true→c5 w ν cs us.toList→ui st.t cs parts=some (c,cs')→c→
  ∃ch:Array Value,Instr.fill (tx.toArray[·]?) us (cm.map fun(x:Nat×Operand)=>(x.1,a.eval x.2))=some ch∧c5 w ν cs' ch.toList
 |[],[],cs,us,c,cs',_,h,he,ay=>by simp only[ui]at he;cases he;exact⟨us,by simp[Instr.fill],h⟩
 |[],_::_,_,_,_,_,eJ,_,_,_=>by simp[AQ]at eJ
 |_::_,[],_,_,_,_,eJ,_,_,_=>by simp[AQ]at eJ
 |(off,sz,x)::parts,(i,o)::cm,cs,us,c,cs',eJ,h,he,ay=>by
  simp only[AQ,cE]at eJ;obtain⟨⟨J,U⟩,ar⟩:=eJ;split at J
  ·rename_i wI t Cq;simp only[cE,dS]at J;obtain⟨rfl,J⟩:=J;have s7:=bQ i off t sz Cq J;simp only[ui]at he;split at he
   ·rename_i ct apK ae;cases he;obtain⟨⟨ag,aw,hle⟩,hh⟩:=ay;have ab:=et aM U;have lH:=vf ab ag;have hlen:=pP lH;have rY:=pP h;have kE:(a.eval o).cells.size=sz:=by have:(a.eval o).cells.toList.length=(cells (cu st.t x)).length:=hlen;rw[aw]at this;simpa using this
    have qW:us.size=cs.length:=by simpa using rY
    have x2:=JX (w:=w) (ν:=ν) (a.eval o).cells.toList 0 off us (by simp[kE,qW];omega);have lL:c5 w ν (n7 cs off (cells (cu st.t x))) ((((a.eval o).cells.toList.zipIdx 0).foldl (fun cs (x:Value×Nat)=>cs.setIfInBounds (off+x.2) x.1) us).toList):=by rw[x2];unfold n7;refine yD (yD (DH off h) lH) ?_;rw[Nat.add_zero,hlen];exact A4 _ h
    obtain⟨ch,g1,g2⟩:=XA aM bQ parts cm _ _ ct cs' ar lL ae hh;refine⟨ch,?_,g2⟩;simp only[gS,Instr.fill,List.getElem?_toArray,s7];rw[if_neg (by simp[kE,qW];omega)];rw[←g1];simp only[List.getElem?_toArray];congr 1;rw[←Array.foldl_toList];simp
   ·cases he
  ·cases J
end Go.Pv
namespace Go.Pv
open Go Go.RowKit
theorem vm{P:cF}{bC:List (Nat×dI)}(aL:fU P bC=true){t:Nat}{f:dI}(aI:eg bC t=some f)(w:World):
  (Go.isAgg t).run P w= .ok f.kind.isAgg w∧(sizeOf t).run P w= .ok f.size w:=by
 obtain⟨i,d,z,J,U,ar,a8,b4,dd,eo,nV⟩:=(vn aL aI).ex;refine⟨?_,by simp[sizeOf,typeInfo,J,ar]⟩;simp only[Go.isAgg,fJ,run_underlying U,fR];cases ad:f.kind<;>rw[ad]at b4<;>cases d<;>simp[ki]at b4<;>simp[Bx.isAgg]
theorem je{P:cF}{bC:List (Nat×dI)}(aL:fU P bC=true){t:Nat}{f:dI}(aI:eg bC t=some f):∃d,P.underlying t=some d∧ki f.kind d=true:=by obtain⟨i,d,z,J,U,ar,a8,b4,dd,eo,nV⟩:=(vn aL aI).ex;exact⟨d,U,b4⟩
theorem sJ{e:Nat}{d:TypeDesc}(h:ki (.slice e) d=true):d= .slice e:=by cases d<;>simp[ki]at h;subst h;rfl
theorem zm{d:TypeDesc}(h:ki .str d=true):d= .string:=by cases d<;>simp[ki]at h;rfl
theorem Fc{k:IntKind}{d:TypeDesc}(h:ki (.int k) d=true):d= .int k:=by cases d<;>simp[ki]at h;subst h;rfl
theorem Jm{dQ:List (Nat×Nat)}{d:TypeDesc}(h:ki (.struct dQ) d=true):∃gs:Array Field,d= .struct gs∧gs.toList.map (fun f=>(f.offset,f.type))=dQ:=by cases d<;>simp[ki]at h;rename_i gs;exact⟨gs,rfl,by simpa using h⟩
theorem HA{w:World}{ν:bf}{cs:List ah}{us:List Value}(h:c5 w ν cs us)(off sz:Nat):c5 w ν ((cs.drop off).take sz) ((us.drop off).take sz):=DH sz (A4 off h)
theorem Wd{w:World}{base el sz n:Nat}{v:Value}{us:List Value}(h:w.ownsRow base el sz v n us){b:Nat}(ae:v.ownBlock=some b):∃cap,v= .slice (some ⟨b,0,none⟩) n cap:=by
 rcases h.2 with⟨rfl,_⟩|⟨g,cap,cur,rfl,_⟩
 ·simp[oh]at ae
 ·simp[oh]at ae;subst ae;exact⟨cap,rfl⟩
theorem Good.rowElem{pr:Nat→Prop}{w:World}{ν:bf}{b:List (aH×List ah)}{e:List (aH×fL)}(aX:Good pr w ν b e){k:aH}{n el sz:Nat}{xs:List ah}(ad:look k e=some ⟨n,el,sz,some xs⟩){i f:Nat}{u:Value}(ab:ba w ν (.rptr sz k n i f) u){p:ah}(bQ:xs[i]? =some p):
  ∃(v:Value) (us:List Value) (fZ:Nat),ba w ν p v∧v.cells.size=sz∧∃b o,u= .pointer (some ⟨b,o,none⟩)∧∀j c,v.cells.toList[f+j]? =some c→w.cell? ⟨b,o+j,none⟩=some c:=by
 simp only[ba]at ab;obtain⟨_,hi,n',fe,J,U,ar⟩:=ab;obtain⟨v,us,a7,bF,b0,cZ⟩:=aX.own k _ ad;rw[J]at a7;simp only[dM,jF]at a7;obtain⟨rfl,rfl⟩:=a7;obtain⟨bl,ae,rfl⟩:=ar rfl;obtain⟨cap,rfl⟩:=Wd bF ae;obtain⟨aw,lL,_⟩:=cZ xs rfl;simp only at aw lL;obtain⟨v,cN,dx,k2⟩:=Hx i lL bQ;refine⟨v,us,el,cN,dx,bl,_,rfl,fun j c af=>?_⟩;have bE:f+j<sz:=by have:=(fV.1 af).1;simp[dx]at this;exact this
 have hmul:i*sz+sz≤n'*sz:=by have:=Nat.mul_le_mul_right sz (show i+1≤n' from hi);rwa[Nat.succ_mul]at this
 have ay:=bF.cellAt (i*sz+f+j) (by show _<n'*sz;omega);rw[ay];rw[k2,List.getElem?_take,if_pos bE,List.getElem?_drop]at af;rw[←af];congr 1;omega
theorem GG{P:cF}{bC:List (Nat×dI)}(aL:fU P bC=true){pr:Nat→Prop}{w:World}{ν:bf}{b:List (aH×List ah)}{e:List (aH×fL)}(aX:Good pr w ν b e){t:Nat}{f:dI}(aI:eg bC t=some f)
  {x:ah} {u:Value} (ab:ba w ν x u) {c:Prop} {p:ah} (he:mM b e f.kind.isAgg f.size x=some (c,p)) (ay:c):∃v,(Instr.loadAt t u).run P w= .ok v w∧ba w ν p v:=by
 obtain⟨br,ag⟩:=vm aL aI w;generalize FH:f.kind.isAgg=e8 at*;generalize ep:f.size=sz at*;unfold mM at he;split at he
 ·rename_i dL k n i sO;unfold yH at he;split at he
  ·rename_i n' el jr xs ad;split at he
   ·rename_i au;obtain⟨rfl,rfl⟩:=au;split at he
    ·rename_i G7 agm;obtain⟨Oi,us,fZ,g1,g2,qO⟩:=Good.rowElem aX ad ab agm;have lh:ei G7=true:=by
      cases e8
      ·simp only[hb,if_false,gT]at he;obtain⟨q,_,he⟩:=he;cases he;exact ay
      ·simp only[if_true]at he;cases he;exact ay.1
     have di:=vf g1 lh;cases e8
     ·simp only[hb,if_false,gT]at he;obtain⟨q,bh,he⟩:=he;cases he;obtain⟨v,f1,f2,f3⟩:=DG sO di bh;refine⟨v,?_,f2⟩;obtain⟨b,o,rfl,qO⟩:=qO;have:=qO 0 v (by simpa using f1);simp only[Nat.add_zero]at this;simp[Instr.loadAt,Instr.sureAddr,loadVar,br,this]
     ·simp only[if_true]at he;cases he;obtain⟨b,o,rfl,qO⟩:=qO;refine⟨.agg ((Oi.cells.toList.drop sO).take sz).toArray,?_,by simp only[ba];exact⟨_,rfl,by simpa using HA di sO sz⟩⟩;have aw:=pP di;have hlen:((Oi.cells.toList.drop sO).take sz).length=sz:=by simp only[List.length_take,sC];omega
      have ir:=run_loadCells_list (P:=P) w ⟨b,o,none⟩ ((Oi.cells.toList.drop sO).take sz) (fun j v af=>by
       rw[pf];refine qO j v ?_;rw[List.getElem?_take]at af;split at af
       ·simpa[List.getElem?_drop]using af
       ·cases af)
      rw[hlen]at ir;simp only[Instr.loadAt,Instr.sureAddr,loadVar,fJ,gu,fR,br,if_true,ag,ir]
    ·cases he
   ·cases he
  ·cases he
 ·rename_i k off;simp only[ba]at ab;obtain⟨bl,J,rfl⟩:=ab;split at he
  ·rename_i cs ad;obtain⟨iG,us,el,g1,g2,g3,g4,g5⟩:=aX.box k cs ad;rw[J]at g1;cases g1;have s7:h2 cs=true:=by
    cases e8
    ·simp only[hb,if_false,gT]at he;obtain⟨q,bh,he⟩:=he;cases he;exact ay
    ·simp only[if_true]at he;cases he;exact ay.1
   rw[u6 s7]at g4;rw[u7 s7]at g5;have aw:=pP g5;cases e8
   ·simp only[hb,if_false,gT]at he;obtain⟨q,bh,he⟩:=he;cases he;obtain⟨v,f1,f2,f3⟩:=DG off g5 bh;refine⟨v,?_,f2⟩;have qO:w.cell? ⟨bl,off,none⟩=some v:=by simpa[World.cell?,g4]using f1
    simp[Instr.loadAt,Instr.sureAddr,loadVar,br,qO]
   ·simp only[if_true]at he;cases he;replace ay:=ay.2;refine⟨_,?_,by simp only[ba];exact⟨_,rfl,by simpa using HA g5 off sz⟩⟩;simp only[Instr.loadAt,Instr.sureAddr,loadVar,fJ,gu,fR,br,if_true,ag];rw[amd g4 (by simp at aw;omega)];rfl
  ·cases he
 ·rename_i q;simp only[ba]at ab;obtain⟨bl,off,fe,rfl,U,ar⟩:=ab;cases e8
  ·simp only[hb,if_false]at he;cases he;obtain⟨S9,zF⟩:=ay;obtain⟨g1,g2⟩:=Ng U S9 (fun cs e=>by subst e;have:=ff List.length zF;simp only[cells,pT,List.length_nil]at this;cases cs with
    |nil=>simp[cells]at zF
    |cons y ys=>simp only[cells,qv]at zF;obtain⟨ak,aC⟩:=zF;subst aC;have:=ff SizeOf.sizeOf ak;simp at this;omega)
   refine⟨fe,?_,U⟩;rw[g2]at ar;have qO:=ar.1.2;simp[Instr.loadAt,Instr.sureAddr,loadVar,br,qO]
  ·simp only[if_true]at he;cases he;obtain⟨cs,rfl,hlen⟩:=ay;simp only[ba]at U;obtain⟨us,rfl,a8⟩:=U;refine⟨.agg us,?_,by simp only[ba];exact⟨us,rfl,a8⟩⟩;simp only[pR]at ar;have aw:=pP a8;have:=ame (P:=P) ar;rw[show us.toList.length=sz from by omega]at this;simp[Instr.loadAt,Instr.sureAddr,loadVar,br,ag,this]
 ·cases he
theorem ad3{P:cF}{bC:List (Nat×dI)}(aL:fU P bC=true){w:World}{ν:bf}{s i:Nat}{f:dI}{dQ:List (Nat×Nat)}(aI:eg bC s=some f)(ad:f.kind= .struct dQ){off t:Nat}{g:dI}(hi:dQ[i]? =some (off,t))(aX:eg bC t=some g)(bD:g.size≠0)
  {x:ah} {u:Value} (ab:ba w ν x u) {c:Prop} {p:ah} (he:p2 off g.kind.isAgg g.size x=some (c,p)) (ay:c):∃v,(Instr.fieldAt s u i).run P w= .ok v w∧ba w ν p v:=by
 obtain⟨d,aR,e4⟩:=je aL aI;rw[ad]at e4;obtain⟨gs,rfl,kA⟩:=Jm e4;have qR:∃fd:Field,gs[i]? =some fd∧fd.offset=off∧fd.type=t:=by rw[←kA]at hi;simp only[List.getElem?_map,gT]at hi;obtain⟨fd,J,U⟩:=hi;simp only[jF]at U;exact⟨fd,by simpa using J,U.1,U.2⟩
 obtain⟨fd,FO,ax,oP⟩:=qR;obtain⟨br,ag⟩:=vm aL aX w;have ir:∀b o,(Instr.fieldAt s (.pointer (some ⟨b,o,none⟩)) i).run P w= .ok (.pointer (some ⟨b,o+off,none⟩)) w:=by intro b o;simp[Instr.fieldAt,run_underlying aR,FO,Instr.sureAddr,fieldPlace,oP,ag,bD,pf,ax]
 unfold p2 at he;split at he
 ·cases he;simp only[ba]at ab;obtain⟨b,J,rfl⟩:=ab;exact⟨_,ir _ _,by simp only[ba];exact⟨b,J,rfl⟩⟩
 ·cases he;simp only[ba]at ab;obtain⟨⟨b,o,rfl⟩,hi,n',fe,J,U,ar⟩:=ab;refine⟨_,ir _ _,?_⟩;simp only[ba];refine⟨⟨b,_,rfl⟩,hi,n',fe,J,U,fun e=>?_⟩;obtain⟨bP,ak,aC⟩:=ar e;simp only[at8,dM,Addr.mk.injEq,and_true]at aC;obtain⟨rfl,rfl⟩:=aC;exact⟨b,ak,by rw[Nat.add_assoc]⟩
 ·rename_i cs;simp only[ba]at ab;obtain⟨b,o,fe,rfl,⟨us,rfl,U⟩,ar⟩:=ab;refine⟨_,ir _ _,?_⟩;simp only[pR]at ar;split at he
  ·cases he;simp only[ba];exact⟨b,o+off,.agg ((us.toList.drop off).take g.size).toArray,rfl,⟨_,rfl,by simpa using HA U off g.size⟩,by simpa[pR]using GA g.size (Gy off ar)⟩
  ·simp only[gT]at he;obtain⟨q,bh,he⟩:=he;cases he;obtain⟨v,f1,f2,f3⟩:=DG off U bh;simp only[ba];have af2:=uW ar f1;have agH:v.cells= #[v]:=by cases v<;>first|rfl|cases f3
   exact⟨b,o+off,v,rfl,f2,by rw[agH];exact⟨af2,trivial⟩⟩
 ·cases he
theorem ad9{P:cF}{bC:List (Nat×dI)}(aL:fU P bC=true){w:World}{ν:bf}{s i:Nat}{f:dI}{dQ:List (Nat×Nat)}(aI:eg bC s=some f)(ad:f.kind= .struct dQ){off t:Nat}{g:dI}(hi:dQ[i]? =some (off,t))(aX:eg bC t=some g)
  {x:ah} {u:Value} (ab:ba w ν x u) {c:Prop} {p:ah} (he:rB off g.kind.isAgg g.size x=some (c,p)) (ay:c):∃v,(Instr.field s u i).run P w= .ok v w∧ba w ν p v:=by
 obtain⟨d,aR,e4⟩:=je aL aI;rw[ad]at e4;obtain⟨gs,rfl,kA⟩:=Jm e4;have qR:∃fd:Field,gs[i]? =some fd∧fd.offset=off∧fd.type=t:=by rw[←kA]at hi;simp only[List.getElem?_map,gT]at hi;obtain⟨fd,J,U⟩:=hi;simp only[jF]at U;exact⟨fd,by simpa using J,U.1,U.2⟩
 obtain⟨fd,FO,ax,oP⟩:=qR;obtain⟨br,ag⟩:=vm aL aX w;unfold rB at he;split at he
 ·rename_i cs;simp only[ba]at ab;obtain⟨us,rfl,U⟩:=ab;generalize FH:g.kind.isAgg=e8 at*;cases e8
  ·simp only[hb,if_false,gT]at he;obtain⟨q,bh,he⟩:=he;cases he;obtain⟨v,f1,f2,f3⟩:=DG off U bh;have ab4:us[off]? =some v:=by simpa using f1
   exact⟨v,by simp[Instr.field,run_underlying aR,FO,asAgg,part,oP,br,ax,ab4],f2⟩
  ·simp only[if_true]at he;cases he;refine⟨.agg (us.extract off (off+g.size)),by simp[Instr.field,run_underlying aR,FO,asAgg,part,oP,br,ax,ag],?_⟩;simp only[ba];refine⟨_,rfl,?_⟩;have:=HA U off g.size;simpa[List.take_drop]using this
 ·cases he
theorem agU{P:cF}{bC:List (Nat×dI)}(aL:fU P bC=true){w:World}{ν:bf}{t e:Nat}{f g:dI}(aI:eg bC t=some f)(ad:f.kind= .slice e)(aX:eg bC e=some g)
  {x y:ah} {u v:Value} (ab:ba w ν x u) (aG:ba w ν y v) {c:Prop} {p:ah} (he:Af g.size x y=some (c,p)) (ay:c):∃r,(Instr.indexAt t u v).run P w= .ok r w∧ba w ν p r:=by
 obtain⟨d,aR,e4⟩:=je aL aI;rw[ad]at e4;obtain rfl:=sJ e4;obtain⟨br,ag⟩:=vm aL aX w;unfold Af at he;split at he
 ·rename_i dL tag xs k i;split at he
  ·rename_i ep;cases he;simp only[ba]at ab aG;subst aG;subst ep;obtain⟨⟨a,cap,rfl,J,U,ar⟩,_⟩:=ab;obtain⟨Cv,l6⟩:=ay;have jx:i.toNat<xs.length:=by omega
   rcases ar with rfl|⟨b,off,us,rfl,a8,b4⟩
   ·simp at jx
   ·have ab:xs[i.toNat]? =some xs[i.toNat]:=cl jx;obtain⟨w',cN,dx,k2⟩:=Hx i.toNat b4 ab;refine⟨.pointer (some ⟨b,off+i.toNat*g.size,none⟩),?_,?_⟩
    ·simp only[Instr.indexAt,asIntOf,fJ,gu,fR,run_underlying aR,Cv,l6,and_self,if_true,ag,pf]
    ·simp only[ba];refine⟨b,off+i.toNat*g.size,w',rfl,by simpa[List.getD,ab]using cN,?_⟩;rw[k2];exact GA g.size (Gy _ a8)
  ·cases he
 ·rename_i dL k n jA i;split at he
  ·rename_i ep;cases he;simp only[ba]at ab aG;subst aG;subst ep;obtain⟨⟨b,cap,rfl⟩,U,n',fe,ar,a8,b4⟩:=ab;obtain⟨Cv,l6⟩:=ay;refine⟨.pointer (some ⟨b,0+i.toNat*g.size,none⟩),?_,?_⟩
   ·simp only[Instr.indexAt,asIntOf,fJ,gu,fR,run_underlying aR,Cv,l6,and_self,if_true,ag,pf]
   ·simp only[ba];refine⟨⟨b,_,rfl⟩,by omega,n',fe,ar,a8,fun e=>⟨b,?_,by simp⟩⟩;rw[←b4 e];rfl
  ·cases he
 ·cases he
theorem G3{C:fh}{st:bs}{a:Act}{w:World}{ν:bf}(h:cR C st a w ν){x:Option dz}{o:Option Operand}(ab:wL x o=true){Ff n:Int}(he:q5 Ff (x.map (cu st.t))=some n):
  (o.map a.eval=none∧n=Ff)∨ ∃k,o.map a.eval=some (.int k n):=by
 cases x with
 |none=>cases o with
  |none=>simp[q5]at he;exact .inl ⟨rfl,he.symm⟩
  |some o=>simp[wL]at ab
 |some x=>cases o with
  |none=>simp[wL]at ab
  |some o=>
   simp only[wL]at ab
   have:=et h ab
   simp only[oi]at he⊢
   cases uC:cu st.t x<;>simp[uC,q5]at he
   rw[uC]at this
   simp only[ba]at this
   subst he
   exact .inr ⟨_,by rw[this]⟩
theorem Y6{c d:ah}(h:Il c d=true):c=d:=by unfold Il at h;split at h<;>simp_all
theorem Ot:∀{cs eT:List ah},yZ cs eT=true→cs=eT
 |[],[],_=>rfl
 |[],_::_,h=>by simp[yZ]at h
 |_::_,[],h=>by simp[yZ]at h
 |c::cs,d::eT,h=>by simp only[yZ,cE]at h;rw[Y6 h.1,Ot h.2]
theorem aoL{cs:List ah}{z:ah}(h:Ox cs z=true):z= .agg cs:=by
 cases z<;>simp only[Ox]at h;case agg eT=>rw[Ot h]
 all_goals cases h
theorem aeY(s:List dm)(n:Nat)(h:n<s.length):(⟨s.toArray⟩:ByteArray)[n]? =some (s.getD n 0):=by
 have ep:n<(⟨s.toArray⟩:ByteArray).size:=by rw[DS];exact h
 have e:(⟨s.toArray⟩:ByteArray)[n]? =some ((⟨s.toArray⟩:ByteArray)[n]'ep):=getElem?_pos (⟨s.toArray⟩:ByteArray) n ep;rw[e];congr 1;simp[List.getD,h];rfl
theorem HU(P:cF)(w:World)(k:IntKind)(i:Int)(y:Nat)(c:BoundsCode)(bD:0≤i)(J:i≤y):(Instr.sliceBound (.int k i) y c).run P w= .ok i.toNat w:=by simp[Instr.sliceBound,asIntOf,bD,J]
theorem O9(P:cF)(w:World)(ahf:Bool)(len cap:Nat)(lo hi:Option Value)(l h:Int)(Cx:(lo=none∧l=0)∨ ∃k,lo=some (.int k l))(Cu:(hi=none∧h=len)∨ ∃k,hi=some (.int k h))
  (bD:0≤l) (J:l≤h) (U:h≤len) (ay:len≤cap):(Instr.sliceBounds ahf len cap lo hi none).run P w= .ok (l.toNat,h.toNat,cap) w:=by
 rcases Cx with⟨rfl,rfl⟩|⟨k,rfl⟩<;>rcases Cu with⟨rfl,rfl⟩|⟨bH,rfl⟩
 ·simp[Instr.sliceBounds]
 ·simp[Instr.sliceBounds,HU P w bH h cap _ (by omega) (by omega)]
 ·simp[Instr.sliceBounds,HU P w k l len _ (by omega) (by omega)]
 ·simp[Instr.sliceBounds,HU P w bH h cap _ (by omega) (by omega),HU P w k l h.toNat _ (by omega) (by omega)]
theorem Wi{P:cF}{bC:List (Nat×dI)}(aL:fU P bC=true):∀(gs:List Field),(gs.all fun f=>(eg bC f.type).isSome)=true→
  ∃tx:List (Nat×Nat),gs.mapM (fun f=>(P.info? f.type).map fun i=>(f.offset,i.size))=some tx∧
   ∀(i off t sz:Nat),(gs.map (fun f=>(f.offset,f.type)))[i]? =some (off,t)→(eg bC t).map (·.size)=some sz→tx[i]? =some (off,sz)
 |[],_=>⟨[],by simp,by simp⟩
 |f::gs,h=>by
  simp only[List.all_cons,cE]at h;obtain⟨tx,J,U⟩:=Wi aL gs h.2;obtain⟨g,aX⟩:=fE.1 h.1;obtain⟨i,d,z,ak,aC,bk,dg,hf,hT,rp,rq⟩:=(vn aL aX).ex;refine⟨(f.offset,g.size)::tx,by simp[List.mapM_cons,ak,bk,J],fun j off t sz af ep=>?_⟩;cases j with
  |zero=>simp only[gS,List.getElem?_cons_zero,dM,jF]at af⊢;obtain⟨rfl,rfl⟩:=af;rw[aX]at ep;simpa using ep
  |succ j=>simp only[gS,List.getElem?_cons_succ]at af⊢;exact U j off t sz af ep
theorem ls{P:cF}{w:World}{x:Sem Value}{v:Value}(h:x.run P w= .ok v w):(do pure (Next.value (←x)):Sem Next).run P w= .ok (.value v) w:=by simp[h]
theorem Ow{p q:ah}(h:Bq p q=true):p=q:=by
 unfold Bq at h;split at h
 ·rw[Ot h]
 ·cases h
 ·exact Y6 h
theorem Ov(w:World)(ν:bf){p:ah}{v:Value}(h:y0 p v=true):ba w ν p v∧c5 w ν (cells p) v.cells.toList:=by
 by_cases br:∃cs,p= .agg cs
 ·obtain⟨cs,rfl⟩:=br;cases v<;>simp only[y0]at h;case agg us=>have:=Ou w ν _ _ h;exact⟨by simp only[ba];exact⟨us,rfl,this⟩,by simpa[cells,pR]using this⟩
  all_goals cases h
 ·have cx:zc p v=true∧v.oneCell'=true:=by cases p<;>simp only[y0,cE]at h<;>first|exact h|exact absurd ⟨_,rfl⟩ br
  have aM:=IP w ν cx.1;refine⟨aM,?_⟩;have ay:cells p=[p]:=by cases p<;>first|rfl|exact absurd ⟨_,rfl⟩ br
  have aK:v.cells= #[v]:=by have:=cx.2;cases v<;>first|rfl|simp[Value.oneCell']at this
  rw[ay,aK];simp only[c5];exact⟨v,[],rfl,⟨aM,cx.2⟩,rfl⟩
theorem NT{P:cF}{bC:List (Nat×dI)}(aL:fU P bC=true){t:Nat}{f:dI}(aI:eg bC t=some f)(w:World):∃z,(zeroValue t).run P w= .ok z w∧y0 f.zero z=true∧z.cells.size=f.size:=by obtain⟨i,d,z,J,U,ar,a8,b4,dd,eo,nV⟩:=(vn aL aI).ex;exact⟨z,by simp[zeroValue,typeInfo,J,dd],eo,nV⟩
theorem DI{C:fh}{st:bs}{a:Act}{w:World}{ν:bf}(h:cR C st a w ν):∀{xs:List dz} {os:List Operand},yv xs os=true→cM w ν (xs.map (cu st.t)) (os.map a.eval)
 |[],[],_=>by simp[cM]
 |[],_::_,ad=>by simp[yv]at ad
 |_::_,[],ad=>by simp[yv]at ad
 |x::xs,o::os,ad=>by simp only[yv,cE]at ad;simp only[gS,cM];exact⟨_,_,rfl,et h ad.1,DI h ad.2⟩
theorem aba{P:cF}{w:World}{t:gm}(aR:P.underlying t=some .bool)(d:Nat)(a b:Bool):(Op.equalIn (d+1) t (.bool a) (.bool b)).run P w= .ok (a==b) w:=by rw[Op.equalIn];simp only[fJ,run_underlying aR,fR,gu]
theorem abb{P:cF}{w:World}{t:gm}(aR:P.underlying t=some .bool)(a b:Bool):(Op.equal t (.bool a) (.bool b)).run P w= .ok (a==b) w:=aba aR _ a b
theorem RK:∀{borns:List Nat} {kvs:List ah} {us:List Value},kvs.length=2*borns.length→us.length=kvs.length→(fF borns us).length=borns.length
 |[],_,us,_,_=>by simp[fF]
 |bP::eZ,kvs,[],J,U=>by rw[J]at U;simp at U
 |bP::eZ,kvs,[_],J,U=>by rw[J]at U;simp at U;omega
 |bP::eZ,kvs,k::v::us,J,U=>by simp only[fF,pT];rw[RK (kvs:=kvs.drop 2) (us:=us) (borns:=eZ) (by simp at J⊢;omega) (by simp at J U⊢;omega)]
theorem Xs{w:World}{ν:bf}:∀{cm:List ah} {be:List Value},cM w ν cm be→be.length=cm.length
 |[],be,h=>by simp only[cM]at h;subst h;rfl
 |p::cm,be,h=>by simp only[cM]at h;obtain⟨u,ch,rfl,_,U⟩:=h;simp[Xs U]
theorem vi{P:cF}{w:World}{r:Nat}{o:Obj}(ae:w.heap[r]? =some o)(au:∀c e f,o≠ .cells c e f:=by simp):(getObj r).run P w= .ok o w:=by simp only[getObj,Sem.run,ae]
def qx(P:cF):Nat→List Bool→List Field→Prop
 |_,[],[]=>True
 |n,b::r,f::gs=>(f.offset=n∧f.name≠ "_" ∧(if b=true then P.underlying f.type=some .string else∃k,P.underlying f.type=some (.int k)))∧qx P (n+1) r gs
 |_,_,_=>eA
theorem Dw{P:cF}{t:gm}{b:Bool}(h:if b=true then P.underlying t=some .string else∃k,P.underlying t=some (.int k)):P.plainKey t=true:=by
 cases b
 ·obtain⟨k,h⟩:=(by simpa using h:∃k,P.underlying t=some (.int k));simp[Program.plainKey,h]
 ·have h:P.underlying t=some .string:=by simpa using h
  simp[Program.plainKey,h]
theorem Z9{P:cF}{w:World}{ν:bf}(d:Nat){X Y:Array Value}(dQ:List Bool):∀(gs:List Field) (n:Nat) (as eZ:List ah) (us be:List Value) (q:Bool),qx P n dQ gs→X.toList.drop n=us→Y.toList.drop n=be→c5 w ν as us→c5 w ν eZ be→kh dQ as eZ=some q→
  (Op.eqFields (d+1) X Y gs).run P w= .ok q w∧(q=true→us=be)∧∀m,(us.zip us).all (fun(x,y)=>Instr.sameBits m x y)=true:=by
 induction dQ with
 |nil=>intro gs n as eZ us be q aX Cf Cg J U h;cases as<;>cases eZ<;>simp only[kh,dM,reduceCtorEq]at h;cases gs<;>simp only[qx]at aX;simp only[c5]at J U;rw[J,U,←h];exact⟨by simp[Op.eqFields],fun _=>rfl,fun m=>rfl⟩
 |cons xz r bZ=>
  intro gs n as eZ us be q aX Cf Cg J U h;cases gs with
  |nil=>simp only[qx]at aX
  |cons f gs=>
  simp only[qx]at aX;obtain⟨⟨F0,zT,oP⟩,aX⟩:=aX;cases as with
  |nil=>cases xz<;>cases eZ<;>simp[kh]at h
  |cons Du as=>
  cases eZ with
  |nil=>cases xz<;>cases Du<;>simp[kh]at h
  |cons pN eZ=>
  cases xz with
  |false=>
   have ay:∃k a b gH,Du= .int k a∧pN= .int k b∧kh r as eZ=some gH∧q=((a==b)&&gH):=by
    cases Du<;>first|(simp[kh]at h;done)|skip
    cases pN<;>first|(simp[kh]at h;done)|skip
    simp only[kh]at h;split at h
    ·rename_i ad;subst ad;simp only[gT]at h;obtain⟨gH,ar,a8⟩:=h;exact⟨_,_,_,gH,rfl,rfl,ar,a8.symm⟩
    ·cases h
   obtain⟨k,a,b,gH,rfl,rfl,ar,rfl⟩:=ay;simp only[c5,ba]at J U;obtain⟨u,ch,rfl,⟨rfl,_⟩,J⟩:=J;obtain⟨v,vs',rfl,⟨rfl,_⟩,U⟩:=U;have Dt:X[n]? =some (.int k a):=by rw[←tO,←List.head?_drop,Cf];rfl
   have Mx:Y[n]? =some (.int k b):=by rw[←tO,←List.head?_drop,Cg];rfl
   obtain⟨i1,i2,i3⟩:=bZ gs (n+1) as eZ ch vs' gH aX (by rw[←List.tail_drop,Cf];rfl) (by rw[←List.tail_drop,Cg];rfl) J U ar;obtain⟨jA,K3⟩:=(by simpa using oP:∃k,P.underlying f.type=some (.int k));refine⟨?_,?_,fun m=>?_⟩
   ·simp only[Op.eqFields,zT,ne_eq,not_false_eq_true,if_true,fJ,F0,run_part_plain w (Dw oP) Dt,run_part_plain w (Dw oP) Mx,fR,run_equalIn_int w d f.type k jA a b K3];cases nn:(a==b)
    ·simp
    ·simpa using i1
   ·intro bh;simp only[cE,dS]at bh;rw[bh.1,i2 bh.2]
   ·have:=i3 m;simp only[List.zip_cons_cons,List.all_cons,this,Bool.and_true];cases m<;>simp[Instr.sameBits]
  |true=>
   have ay:∃a b gH,Du= .str a∧pN= .str b∧kh r as eZ=some gH∧q=((a==b)&&gH):=by
    cases Du<;>first|(simp[kh]at h;done)|skip
    cases pN<;>first|(simp[kh]at h;done)|skip
    simp only[kh,gT]at h;obtain⟨gH,ar,a8⟩:=h;exact⟨_,_,gH,rfl,rfl,ar,a8.symm⟩
   obtain⟨a,b,gH,rfl,rfl,ar,rfl⟩:=ay;simp only[c5,ba]at J U;obtain⟨u,ch,rfl,⟨⟨rfl,_⟩,_⟩,J⟩:=J;obtain⟨v,vs',rfl,⟨⟨rfl,_⟩,_⟩,U⟩:=U;have Dt:X[n]? =some (.string ⟨a.toArray⟩):=by rw[←tO,←List.head?_drop,Cf];rfl
   have Mx:Y[n]? =some (.string ⟨b.toArray⟩):=by rw[←tO,←List.head?_drop,Cg];rfl
   obtain⟨i1,i2,i3⟩:=bZ gs (n+1) as eZ ch vs' gH aX (by rw[←List.tail_drop,Cf];rfl) (by rw[←List.tail_drop,Cg];rfl) J U ar;have K3:P.underlying f.type=some .string:=by simpa using oP
   refine⟨?_,?_,fun m=>?_⟩
   ·simp only[Op.eqFields,zT,ne_eq,not_false_eq_true,if_true,fJ,F0,run_part_plain w (Dw oP) Dt,run_part_plain w (Dw oP) Mx,fR,run_equalIn_string w d f.type _ _ K3];have e:((⟨a.toArray⟩:ByteArray).toList==(⟨b.toArray⟩:ByteArray).toList)=(a==b):=by rw[aoO,aoO]
    rw[e];cases nn:(a==b)
    ·simp
    ·simpa using i1
   ·intro bh;simp only[cE,dS]at bh;rw[bh.1,i2 bh.2]
   ·have:=i3 m;simp only[List.zip_cons_cons,List.all_cons,this,Bool.and_true];cases m<;>simp only[Instr.sameBits]<;>exact(MapKept.bytes_beq _ _).2 rfl
theorem Sl{P:cF}{bC:List (Nat×dI)}(aL:fU P bC=true):∀(dQ:List Bool) (gs:List Field) (n:Nat),zw bC n dQ (gs.map fun f=>(f.offset,f.type))=true→(gs.all (fun f=>match P.underlying f.type with|some (.int _)=>true|some .string=>true|_=>false)=true)∧((∀f∈gs,f.name≠ "_")→qx P n dQ gs)
 |[],[],_,_=>⟨rfl,fun _=>trivial⟩
 |[],_::_,_,h=>by simp[zw]at h
 |_::_,[],_,h=>by simp[zw]at h
 |b::r,f::gs,n,h=>by
  simp only[gS,zw,cE,dS]at h;obtain⟨⟨J,U⟩,ar⟩:=h;obtain⟨i1,i2⟩:=Sl aL r gs (n+1) ar;split at U
  ·rename_i aI;obtain⟨d,hu,aR⟩:=je aL aI;obtain rfl:=Fc aR;refine⟨by simp only[List.all_cons,hu,i1,Bool.and_self],fun au=>⟨⟨J,au f (by simp),?_⟩,i2 fun g aX=>au g (by simp[aX])⟩⟩;have:b=false:=by simpa using U
   subst this;simpa using⟨_,hu⟩
  ·rename_i aI;obtain⟨d,hu,aR⟩:=je aL aI;obtain rfl:=zm aR;refine⟨by simp only[List.all_cons,hu,i1,Bool.and_self],fun au=>⟨⟨J,au f (by simp),?_⟩,i2 fun g aX=>au g (by simp[aX])⟩⟩;subst U;simpa using hu
  ·cases U
theorem Sn{P:cF}{bC:List (Nat×dI)}(aL:fU P bC=true){dQ:List Bool}{t:Nat}(h:Fw bC dQ t=true):∃gs,P.underlying t=some (.struct gs)∧qx P 0 dQ gs.toList∧P.stoodInHeld t=false∧P.eqGuardType P.depth t=false:=by
 unfold Fw at h;split at h
 ·rename_i aI;obtain⟨d,hu,aR⟩:=je aL aI;have ay:=(vn aL aI).cmp d hu;cases d<;>simp[ki]at aR;rename_i gs;subst aR;obtain⟨i1,i2⟩:=Sl aL dQ gs.toList 0 h;have sV:Sm P gs=true:=i1;simp only[Jj,sV,Bool.not_true,Bool.false_or,Rt,cE,sx,hs,bne_iff_ne,ne_eq]at ay;exact⟨gs,hu,i2 ay.1.1,ay.1.2,ay.2⟩
 ·cases h
theorem RO{P:cF}{w:World}{ν:bf}{t:gm}{gs:Array Field}{dQ:List Bool}(hu:P.underlying t=some (.struct gs))(aX:qx P 0 dQ gs.toList)(cY:P.stoodInHeld t=false){as eZ:List ah}{X Y:Array Value}(J:c5 w ν as X.toList)(U:c5 w ν eZ Y.toList){q:Bool}(h:kh dQ as eZ=some q):
  (Op.equalIn 10000 t (.agg X) (.agg Y)).run P w= .ok q w∧(q=true→X=Y)∧∀m,(X.toList.zip X.toList).all (fun(x,y)=>Instr.sameBits m x y)=true:=by
 have aI:P.fieldsOf t=gs:=by simp[Program.fieldsOf,hu]
 obtain⟨i1,i2,i3⟩:=Z9 9998 dQ gs.toList 0 as eZ _ _ q aX rfl rfl J U h;refine⟨?_,fun e=>?_,?_⟩
 ·rw[run_equalIn_struct w 9999 t X Y (by rw[aI];exact hu) cY,aI];exact i1
 ·have:=i2 e;simpa using this
 ·simpa using i3
inductive tT (P:cF):jH→gm→Prop
 |i {t:gm} {k:IntKind}:P.underlying t=some (.int k)→tT P .i t
 |s {t:gm}:P.underlying t=some .string→tT P .s t
 |a {t:gm} {dQ:List Bool} {gs:Array Field}:P.underlying t=some (.struct gs)→qx P 0 dQ gs.toList→P.stoodInHeld t=false→tT P (.a dQ) t
theorem Lr{P:cF}{bC:List (Nat×dI)}(aL:fU P bC=true){cf:jH}{t:Nat}(h:yc bC cf t=true):tT P cf t:=by
 cases cf with
 |i=>
  simp only[yc]at h;split at h
  ·rename_i aI;obtain⟨d,hu,aR⟩:=je aL aI;obtain rfl:=Fc aR;exact .i hu
  ·cases h
 |s=>
  simp only[yc]at h;split at h
  ·rename_i aI;obtain⟨d,hu,aR⟩:=je aL aI;obtain rfl:=zm aR;exact .s hu
  ·cases h
 |a dQ=>obtain⟨gs,J,U,ar,_⟩:=Sn aL h;exact .a J U ar
def sF(P:cF)(w:World)(cf:jH)(t:gm)(fG u:Value)(b:Bool):Prop:=match cf with
 | .a _=>(Op.equal t fG u).run P w= .ok b w
 |_=> ∀d,P.underlying t=some d→Instr.sameNow d fG u=some b
def h7(P:cF)(w:World)(cf:jH)(t:gm)(fG:Value)(es:List MapEntry)(i:Nat)(r:Option (Nat×Value)):Prop:=match cf with
 | .a _=>(Instr.findAsking t fG es i).run P w= .ok r w
 |_=> ∀d,P.underlying t=some d→Instr.findNow d fG es i=some r
theorem h7.nil(P:cF)(w:World)(cf:jH)(t:gm)(fG:Value)(i:Nat):h7 P w cf t fG [] i none:=by cases cf<;>simp[h7,Instr.findAsking,Instr.findNow]
theorem h7.hit{P:cF}{w:World}{cf:jH}{t:gm}{fG:Value}{e:MapEntry}{es:List MapEntry}{i:Nat}(h:sF P w cf t fG e.key true):h7 P w cf t fG (e::es) i (some (i,e.val)):=by
 cases cf with
 |a dQ=>simp only[sF]at h;simp[h7,Instr.findAsking,h]
 |i=>simp only[sF]at h;simp only[h7];intro d aR;simp[Instr.findNow,h d aR]
 |s=>simp only[sF]at h;simp only[h7];intro d aR;simp[Instr.findNow,h d aR]
theorem h7.miss{P:cF}{w:World}{cf:jH}{t:gm}{fG:Value}{e:MapEntry}{es:List MapEntry}{i:Nat}{r:Option (Nat×Value)}(h:sF P w cf t fG e.key false)(aM:h7 P w cf t fG es (i+1) r):h7 P w cf t fG (e::es) i r:=by
 cases cf with
 |a dQ=>simp only[sF]at h;simp only[h7]at aM;simp[h7,Instr.findAsking,h,aM]
 |i=>simp only[sF]at h;simp only[h7]at aM⊢;intro d aR;simp[Instr.findNow,h d aR,aM d aR]
 |s=>simp only[sF]at h;simp only[h7]at aM⊢;intro d aR;simp[Instr.findNow,h d aR,aM d aR]
theorem h7.run{P:cF}{w:World}{cf:jH}{t:gm}(aR:tT P cf t){fG:Value}{es:List MapEntry}{r:Option (Nat×Value)}(h:h7 P w cf t fG es 0 r):(Instr.findKey t fG es).run P w= .ok r w:=by
 cases aR with
 |i hu=>simp only[h7]at h;simp[Instr.findKey,run_underlying hu,h _ hu]
 |s hu=>simp only[h7]at h;simp[Instr.findKey,run_underlying hu,h _ hu]
 |a hu aX cY=>
  simp only[h7]at h;cases es with
  |nil=>simp[Instr.findAsking]at h;simp[Instr.findKey,run_underlying hu,Instr.findNow,h]
  |cons e es=>
   rename_i gs;have:Instr.sameNow (.struct gs) fG e.key=none:=by cases fG<;>rfl
   simp only[Instr.findKey,fJ,run_underlying hu,fR,Instr.findNow,this];exact h
theorem UC{P:cF}{w:World}{ν:bf}{cf:jH}{t:gm}(aR:tT P cf t){k bH:ah}{fG u:Value}(ad:ba w ν k fG)(J:ba w ν bH u){bb:Bool}(ae:te cf k bH=some bb):
  sF P w cf t fG u bb∧(bb=true→u=fG∧Instr.sameBits 10000 u fG=true):=by
 unfold te at ae;split at ae
 ·split at ae
  ·rename_i lG;subst lG;simp only[ba]at ad J;subst ad;subst J;cases aR with
   |i hu=>refine⟨fun d aR=>by rw[hu]at aR;cases aR;simpa[Instr.sameNow]using ae,fun e=>?_⟩;subst e;simp only[dM,dS]at ae;subst ae;exact⟨rfl,by simp[Instr.sameBits]⟩
  ·cases ae
 ·rename_i a b;simp only[ba]at ad J;obtain⟨rfl,_⟩:=ad;obtain⟨rfl,_⟩:=J;cases aR with
  |s hu=>
   refine⟨fun d aR=>?_,fun e=>?_⟩
   ·rw[hu]at aR;cases aR;simp only[Instr.sameNow];rw[←ae];congr 1;rw[qu,MapKept.bytes_beq];simp
   ·subst e;simp only[dM,dS]at ae;subst ae;exact⟨rfl,by simp only[Instr.sameBits];exact(MapKept.bytes_beq _ _).2 rfl⟩
 ·simp only[ba]at ad J;obtain⟨X,rfl,ad⟩:=ad;obtain⟨Y,rfl,J⟩:=J;cases aR with
  |a hu aX cY=>obtain⟨i1,i2,i3⟩:=RO hu aX cY ad J ae;refine⟨by simpa[sF,Op.equal,Op.maxDepth]using i1,fun e=>?_⟩;have:=i2 e;subst this;exact⟨rfl,by simp[Instr.sameBits,i3]⟩
 ·cases ae
theorem LW{P:cF}{w:World}{ν:bf}{cf:jH}{t:gm}(aR:tT P cf t){k:ah}{fG:Value}(ad:ba w ν k fG):∀(borns:List Nat) (kvs:List ah) (us:List Value) (i:Nat) (r:Option ah),cM w ν kvs us→kvs.length=2*borns.length→wE cf k kvs=some r→
  match r with
  |none=>h7 P w cf t fG (fF borns us) i none
  |some v=> ∃j u,h7 P w cf t fG (fF borns us) i (some (j,u))∧ba w ν v u
 |[],[],us,i,r,h,_,hm=>by simp only[wE]at hm;cases hm;simp only[cM]at h;subst h;simpa[fF]using h7.nil P w cf t fG i
 |[],_::_,_,_,_,_,aw,_=>by simp at aw
 |b::eZ,[],_,_,_,_,aw,_=>by simp at aw
 |b::eZ,[_],_,_,_,_,aw,_=>by simp at aw;omega
 |b::eZ,bH::v::kvs,us,i,r,h,aw,hm=>by
  simp only[cM]at h;obtain⟨iB,NY,rfl,J,jD,ss,rfl,U,ar⟩:=h;simp only[wE]at hm;simp only[fF];cases bh:te cf k bH with
  |none=>simp[bh]at hm
  |some bb=>
   obtain⟨s1,_⟩:=UC aR ad J bh;simp only[bh]at hm;cases bb with
   |true=>simp only[dM]at hm;subst hm;exact⟨i,jD,h7.hit (e:=⟨iB,jD,b⟩) s1,U⟩
   |false=>
    simp only at hm;have bZ:=LW aR ad eZ kvs ss (i+1) r ar (by simp at aw;omega) hm;cases r with
    |none=>exact h7.miss (e:=⟨iB,jD,b⟩) s1 bZ
    |some v'=>obtain⟨j,u,g1,g2⟩:=bZ;exact⟨j,u,h7.miss (e:=⟨iB,jD,b⟩) s1 g1,g2⟩
theorem Jh{P:cF}{w:World}{t:Nat}{d:TypeDesc}(hu:P.underlying t=some d)(aR:(∃k,d= .int k)∨d= .string)(e:Bool)(n:Nat)(v:Value):(Instr.checkKey e (n+1) t v).run P w= .ok () w:=by unfold Instr.checkKey;rcases aR with⟨k,rfl⟩|rfl<;>simp[run_underlying hu]
theorem ad8{P:cF}{w:World}{ν:bf}{X:Array Value}(dQ:List Bool):∀(gs:List Field) (n:Nat) (as:List ah),qx P n dQ gs→c5 w ν as (X.toList.drop n)→(kh dQ as as).isSome=true→
  ∀f∈gs,(∃v,(part f.type X f.offset).run P w= .ok v w)∧∃d,P.underlying f.type=some d∧((∃k,d= .int k)∨d= .string):=by
 induction dQ with
 |nil=>intro gs n as aX _ _ f aI;cases gs<;>simp only[qx]at aX;cases aI
 |cons xz r bZ=>
  intro gs n as aX aM ay f aI;cases gs with
  |nil=>cases aI
  |cons g gs=>
  simp only[qx]at aX;obtain⟨⟨F0,zT,oP⟩,aX⟩:=aX;cases as with
  |nil=>cases xz<;>simp[kh]at ay
  |cons p as=>
  have hh:(kh r as as).isSome=true:=by cases xz<;>cases p<;>simp[kh]at ay⊢ <;>exact ay
  simp only[c5]at aM;obtain⟨u,ch,e,_,dp⟩:=aM;have aC:X.toList.drop (n+1)=ch:=by rw[←List.tail_drop,e];rfl
  have Dt:X[n]? =some u:=by rw[←tO,←List.head?_drop,e];rfl
  rcases gf.1 aI with rfl|aI
  ·refine⟨⟨u,by rw[F0];exact run_part_plain w (Dw oP) Dt⟩,?_⟩;cases xz
   ·obtain⟨k,h⟩:=(by simpa using oP:∃k,P.underlying f.type=some (.int k));exact⟨_,h,.inl ⟨k,rfl⟩⟩
   ·exact⟨_,by simpa using oP,.inr rfl⟩
  ·exact bZ gs (n+1) as aX (by rw[aC];exact dp) hh f aI
theorem Su{P:cF}{w:World}{α:Type}(body:α→PUnit→Sem (ForInStep PUnit)):∀(l:List α),(∀f∈l,(body f ⟨⟩).run P w= .ok (.yield ⟨⟩) w)→(forIn l PUnit.unit body).run P w= .ok PUnit.unit w
 |[],_=>by simp
 |f::l,h=>by simp only[List.forIn_cons,fJ,h f (by simp),fR];exact Su body l fun g aX=>h g (by simp[aX])
theorem Ni{P:cF}{w:World}{ν:bf}{cf:jH}{t:Nat}(aR:tT P cf t)(e:Bool){k:ah}{v:Value}(ad:ba w ν k v)(hi:uQ cf k=true):(Instr.checkKey e 10000 t v).run P w= .ok () w:=by
 cases aR with
 |i hu=>exact Jh hu (.inl ⟨_,rfl⟩) e 9999 v
 |s hu=>exact Jh hu (.inr rfl) e 9999 v
 |a hu aX cY=>
  rename_i dQ gs;cases k<;>simp only[uQ,hb]at hi;rename_i as;simp only[ba]at ad;obtain⟨X,rfl,ad⟩:=ad;unfold Instr.checkKey;simp only[fJ,run_underlying hu,fR];rw[←Array.forIn_toList];rw[Su]
  ·simp
  ·intro f aI;obtain⟨⟨v,J⟩,d,U,ar⟩:=ad8 dQ gs.toList 0 as aX (by simpa using ad) hi f aI;have a8:=Jh (w:=w) U ar e 9998 v;by_cases au:f.name= "_"
   ·simp[au]
   ·simp[au,J,a8]
theorem Vl{w:World}{ν:bf}{n:Nat}:∀(borns:List Nat) (kvs:List ah) (us:List Value) (p:ah),cM w ν kvs us→mN n borns kvs=some p→∃e,(fF borns us).find? (·.born==n)=some e∧ba w ν p (.tuple #[e.key,e.val])
 |[],_,_,_,_,hm=>by simp[mN]at hm
 |_::_,[],_,_,_,hm=>by simp[mN]at hm
 |_::_,[_],_,_,_,hm=>by simp[mN]at hm
 |b::eZ,k::v::kvs,us,p,h,hm=>by
  simp only[cM]at h;obtain⟨iB,NY,rfl,J,jD,ss,rfl,U,ar⟩:=h;simp only[mN]at hm;simp only[fF];by_cases e:b=n
  ·rw[if_pos e]at hm;cases hm;refine⟨⟨iB,jD,b⟩,by simp[List.find?,e],?_⟩;simp only[ba];exact⟨#[iB,jD],rfl,by simp only[cM];exact⟨_,_,rfl,J,_,_,rfl,U,rfl⟩⟩
  ·rw[if_neg e]at hm;obtain⟨x,g1,g2⟩:=Vl eZ kvs ss p ar hm;have afl:(b==n)=false:=by simpa using e
   exact⟨x,by simp[List.find?,afl,g1],g2⟩
theorem Yi{P:cF}{bC:List (Nat×dI)}(aL:fU P bC=true){C:fh}{st:bs}{a:Act}{w:World}{ν:bf}(aM:cR C st a w ν){i:fY}(afi:∀cf z ok x k,i≠ .mgetB cf z ok x k){o:Oper}(ax:D5 bC i o.op=true)
  {c:Prop} {p:ah} (he:hp st i=some (c,p)) (ay:c):∃v,(execOp a.eval o).run P w= .ok (.value v) w∧ba w ν p v:=by
 obtain⟨dst,op,type,pos,after,guard⟩:=o;simp only at ax;unfold D5 at ax;split at ax
 ·rename_i x o;simp only[hp]at he;cases he;exact⟨_,rfl,et aM ax⟩
 ·rename_i x o;simp only[hp]at he;cases he;exact⟨_,rfl,et aM ax⟩
 ·rename_i ct x y apd Ef Oq;simp only[cE]at ax;have J:=et aM ax.1.1;have U:=et aM ax.1.2;have ar:=et aM ax.2;simp only[hp,G8]at he;split at he
  ·rename_i b ae;rw[ae]at J;simp only[ba]at J;split at he
   ·rename_i u v hu aK;cases he;rw[hu]at U;rw[aK]at ar;simp only[ba]at U ar;refine⟨.bool (cond b u v),?_,by simp[ba]⟩;simp only[execOp,J,U,ar,asBool,fJ,gu,fR];cases b<;>rfl
   ·split at he
    ·cases he;exact⟨_,by simp only[execOp,J,asBool,fJ,gu,fR,if_true],U⟩
    ·cases he;exact⟨_,by simp only[execOp,J,asBool,fJ,gu,fR,hb,if_false],ar⟩
  ·cases he
 ·rename_i agg sz x t o;simp only[cE]at ax;obtain⟨J,U⟩:=ax;split at J
  ·rename_i f aI;simp only[cE,dS]at J;obtain⟨rfl,rfl⟩:=J;obtain⟨v,g1,g2⟩:=GG aL aM.good aI (et aM U) (by simpa only[hp]using he) ay;exact⟨v,ls g1,g2⟩
  ·cases J
 ·rename_i off agg sz x s o i;simp only[cE]at ax;obtain⟨J,U⟩:=ax;split at J
  ·rename_i f aI;split at J
   ·rename_i wI t Cq;simp only[cE,dS]at J;obtain⟨rfl,J⟩:=J;split at J
    ·rename_i g aX;simp only[cE,dS,bne_iff_ne,ne_eq]at J;obtain⟨⟨rfl,rfl⟩,bD⟩:=J;obtain⟨v,g1,g2⟩:=ad3 aL aI rfl Cq aX bD (et aM U) (by simpa only[hp]using he) ay;exact⟨v,ls g1,g2⟩
    ·cases J
   ·cases J
  ·cases J
 ·rename_i off agg sz x s o i;simp only[cE]at ax;obtain⟨J,U⟩:=ax;split at J
  ·rename_i f aI;split at J
   ·rename_i wI t Cq;simp only[cE,dS]at J;obtain⟨rfl,J⟩:=J;split at J
    ·rename_i g aX;simp only[cE,dS]at J;obtain⟨rfl,rfl⟩:=J;obtain⟨v,g1,g2⟩:=ad9 aL aI rfl Cq aX (et aM U) (by simpa only[hp]using he) ay;exact⟨v,ls g1,g2⟩
    ·cases J
   ·cases J
  ·cases J
 ·rename_i sz x i t o j;simp only[cE]at ax;obtain⟨⟨J,U⟩,ar⟩:=ax;split at J
  ·rename_i e aI;split at J
   ·rename_i g aX;simp only[dS]at J;subst J;obtain⟨v,g1,g2⟩:=agU aL aI rfl aX (et aM U) (et aM ar) (by simpa only[hp]using he) ay;exact⟨v,ls g1,g2⟩
   ·cases J
  ·cases J
 ·rename_i x i t o j;simp only[cE]at ax;obtain⟨⟨J,U⟩,ar⟩:=ax;split at J
  ·rename_i aI;obtain⟨d,aR,e4⟩:=je aL aI;obtain rfl:=zm e4;have ak:=et aM U;have aC:=et aM ar;simp only[hp,HS]at he;split at he
   ·rename_i s k n ag au;cases he;rw[ag]at ak;rw[au]at aC;simp only[ba]at ak aC;obtain⟨l3,S9⟩:=ay;have bE:n.toNat<s.length:=by omega
    have afL:(⟨s.toArray⟩:ByteArray)[n.toNat]? =some (s.getD n.toNat 0):=by exact aeY s n.toNat bE
    refine⟨_,ls (v:= .int .u8 (s.getD n.toNat 0).toNat) ?_,by simp[ba]⟩;simp only[Instr.index,aC,asIntOf,ak.1,fJ,gu,fR,run_underlying aR,l3,if_true,afL]
   ·cases he
  ·cases J
 ·rename_i x lo hi t o l h;simp only[cE]at ax;obtain⟨⟨⟨J,U⟩,ar⟩,a8⟩:=ax;split at J
  ·rename_i aI;obtain⟨d,aR,e4⟩:=je aL aI;obtain rfl:=zm e4;have ak:=et aM U;simp only[hp,HX]at he;split at he
   ·rename_i s ag;rw[ag]at ak;simp only[ba]at ak;split at he
    ·rename_i qg cP aw KD;cases he;obtain⟨bN,cq,dj⟩:=ay;have aP:=G3 aM ar aw;have a6:=G3 aM a8 KD;refine⟨_,ls (v:= .string ⟨((s.take cP.toNat).drop qg.toNat).toArray⟩) ?_,?_⟩
     ·have ae:=O9 P w false s.length s.length (l.map a.eval) (h.map a.eval) qg cP
       aP a6 bN cq dj (eY _)
      simp only[Instr.sliceAt,Instr.slice,ak.1,fJ,gu,fR,run_underlying aR,Option.map_none,ht,hb,if_false,DS,ae,ab3]
     ·simp only[ba];refine⟨trivial,?_⟩;have:=ak.2;simp only[sC,List.length_take];omega
    ·cases he
   ·cases he
  ·cases J
 ·rename_i sz x lo hi t o l h;simp only[cE]at ax;obtain⟨⟨⟨J,U⟩,ar⟩,a8⟩:=ax;split at J
  ·rename_i e aI;split at J
   ·rename_i g aX;simp only[dS]at J;subst J;obtain⟨d,aR,e4⟩:=je aL aI;obtain rfl:=sJ e4;obtain⟨_,ep⟩:=vm aL aX w;have ak:=et aM U;simp only[hp,GH]at he;split at he
    ·rename_i dL tag xs ag;split at he
     ·rename_i fk;subst fk;rw[ag]at ak;simp only[ba]at ak;obtain⟨⟨lz,cap,aK,b1,b2,fN⟩,_⟩:=ak;split at he
      ·rename_i qg cP aw KD;cases he;obtain⟨bN,cq,dj⟩:=ay;have aP:=G3 aM ar aw;have a6:=G3 aM a8 KD;have ae:=O9 P w true xs.length cap (l.map a.eval) (h.map a.eval) qg cP
        aP a6 bN cq dj b1
       refine⟨_,ls (v:= .slice (if cap=qg.toNat then lz else lz.map (·.add (qg.toNat*g.size))) (cP.toNat-qg.toNat) (cap-qg.toNat)) ?_,?_⟩
       ·simp only[Instr.sliceAt,Instr.slice,aK,fJ,gu,fR,run_underlying aR,Option.map_none,ae,ep]
       ·simp only[ba];have hlen:((xs.take cP.toNat).drop qg.toNat).length=cP.toNat-qg.toNat:=by simp;omega
        refine⟨⟨_,_,by rw[hlen],by rw[hlen];omega,⟨by omega,by rw[hlen];omega⟩,?_⟩,(fun h=>by cases h),(fun g h=>by cases h),(fun _ _ h=>by cases h),(fun _ h=>by cases h)⟩;rcases fN with rfl|⟨b,off,us,rfl,g1,g2⟩
        ·left;simp
        ·by_cases zG:cap=qg.toNat
         ·left;apply List.eq_nil_of_length_eq_zero;rw[hlen];omega
         ·right;rw[if_neg zG];refine⟨b,off+qg.toNat*g.size,(us.take (cP.toNat*g.size)).drop (qg.toNat*g.size),by simp[pf],Gy _ (GA _ g1),Xk _ (Xn _ g2)⟩
      ·cases he
     ·cases he
    ·cases he
   ·cases J
  ·cases J
 ·rename_i op wr x y V8 ty o o' am7;simp only[cE,fK]at ax;obtain⟨⟨rfl,J⟩,U⟩:=ax;obtain⟨r,g1,g2⟩:=ZU P w ν (by simpa only[hp]using he) ay ty (et aM J) (et aM U) o o';exact⟨r,ls g1,g2⟩
 ·rename_i x op ty o;simp only[cE,fK]at ax;obtain⟨rfl,J⟩:=ax;have ak:=et aM J;simp only[hp]at he;unfold GW at he;split at he
  ·rename_i b ae;cases he;rw[ae]at ak;simp only[ba]at ak;exact⟨_,ls (v:= .bool (!b)) (by simp[Op.unary,ak]),by simp[ba]⟩
  ·cases he
 ·rename_i x op ty o;simp only[cE,fK]at ax;obtain⟨rfl,J⟩:=ax;have ak:=et aM J;simp only[hp]at he;unfold GS at he;split at he
  ·rename_i k n ae;cases he;rw[ae]at ak;simp only[ba]at ak;exact⟨_,ls (v:= .int k (k.wrap (0-n))) (by simp[Op.unary,ak,Op.intArith]),by simp[ba]⟩
  ·cases he
 ·rename_i k x s d o;simp only[cE]at ax;obtain⟨J,U⟩:=ax;split at J
  ·rename_i aP a6 Co uD;simp only[fK]at J;subst J;obtain⟨d1,fw,afu⟩:=je aL Co;obtain rfl:=Fc afu;obtain⟨d2,eU,afv⟩:=je aL uD;obtain rfl:=Fc afv;have ak:=et aM U;simp only[hp]at he;unfold E9 at he;split at he
   ·rename_i bH n ae;cases he;rw[ae]at ak;simp only[ba]at ak;exact⟨_,ls (v:= .int k (k.wrap n)) (by simp[convert,ak,run_underlying fw,run_underlying eU,Conv.intToInt]),by simp[ba]⟩
   ·cases he
  ·cases J
 ·rename_i i x o j;simp only[cE,dS]at ax;obtain⟨rfl,J⟩:=ax;have ak:=et aM J;simp only[hp]at he;unfold zo at he;split at he
  ·rename_i be ae;simp only[gT]at he;obtain⟨q,bh,he⟩:=he;cases he;rw[ae]at ak;simp only[ba]at ak;obtain⟨us,hu,U⟩:=ak;obtain⟨v,g1,g2⟩:=DJ i U bh;have lb:us[i]? =some v:=by simpa using g1
   exact⟨v,ls (by simp[Instr.extract,hu,lb]),g2⟩
  ·cases he
 ·rename_i x o t;simp only[cE]at ax;obtain⟨J,U⟩:=ax;have ak:=et aM U;simp only[hp]at he;unfold Ap at he;split at he
  ·rename_i sz tag xs ae;cases he;rw[ae]at ak;simp only[ba]at ak;obtain⟨⟨lz,cap,aK,_⟩,_⟩:=ak;refine⟨.int .i64 xs.length,?_,by simp[ba]⟩;split at J
   ·rename_i aI;obtain⟨d,aR,e4⟩:=je aL aI;obtain rfl:=sJ e4;simp[execOp,resolve,invoke,builtin,Builtin.len_,run_underlying aR,aK,goInt]
   ·cases J
  ·rename_i sz k n ae;cases he;rw[ae]at ak;simp only[ba]at ak;obtain⟨⟨lz,cap,aK⟩,_⟩:=ak;refine⟨.int .i64 n,?_,by simp[ba]⟩;split at J
   ·rename_i aI;obtain⟨d,aR,e4⟩:=je aL aI;obtain rfl:=sJ e4;simp[execOp,resolve,invoke,builtin,Builtin.len_,run_underlying aR,aK,goInt]
   ·cases J
  ·rename_i lz n cap ae;cases he;rw[ae]at ak;simp only[ba]at ak;refine⟨.int .i64 n,?_,by simp[ba]⟩;split at J
   ·rename_i aI;obtain⟨d,aR,e4⟩:=je aL aI;obtain rfl:=sJ e4;simp[execOp,resolve,invoke,builtin,Builtin.len_,run_underlying aR,ak,goInt]
   ·cases J
  ·cases he
 ·rename_i x o t;simp only[cE]at ax;obtain⟨J,U⟩:=ax;have ak:=et aM U;simp only[hp]at he;unfold DT at he;split at he
  ·rename_i s ae;cases he;rw[ae]at ak;simp only[ba]at ak;refine⟨.int .i64 s.length,?_,by simp[ba]⟩;split at J
   ·rename_i aI;obtain⟨d,aR,e4⟩:=je aL aI;obtain rfl:=zm e4;simp[execOp,resolve,invoke,builtin,Builtin.len_,run_underlying aR,ak.1,goInt,DS]
   ·cases J
  ·rename_i s ae;cases he;rw[ae]at ak;simp only[ba]at ak;refine⟨.int .i64 s.size,?_,by simp[ba]⟩;split at J
   ·rename_i aI;obtain⟨d,aR,e4⟩:=je aL aI;obtain rfl:=zm e4;simp[execOp,resolve,invoke,builtin,Builtin.len_,run_underlying aR,ak,goInt]
   ·cases J
  ·cases he
 ·rename_i zero parts t cm;split at ax
  ·rename_i dQ z aI;simp only[cE]at ax;obtain⟨⟨J,U⟩,ar⟩:=ax;have bq:=aoL J;obtain⟨i,d,aoK,ak,aC,bk,dg,hf,hT,rp,rq⟩:=(vn aL aI).ex;obtain⟨gs,rfl,kA⟩:=Jm hf;simp only at bq rp rq;subst bq;have lD:(gs.toList.all fun f=>(eg bC f.type).isSome)=true:=by rw[←kA]at U;simpa[List.all_map,Function.comp_def]using U
   obtain⟨tx,cQ,dy⟩:=Wi aL gs.toList lD;rw[kA]at dy;cases aoK<;>simp only[y0]at rp;case agg us=>
    simp only[hp]at he;cases ae:ui st.t zero parts with
    |none=>simp[ae]at he
    |some x=>obtain⟨ct,cs'⟩:=x;simp only[ae,oi]at he;cases he;obtain⟨ch,g1,g2⟩:=XA aM dy parts cm.toList zero us c cs' ar (Ou w ν _ _ rp) ae ay;refine⟨.agg ch,ls (run_build w t _ ch ?_),by simp only[ba];exact⟨ch,rfl,g2⟩⟩;simp only[Program.built,ak,aC,hT,cQ,pR];simpa using g1
   all_goals cases rp
  ·cases ax
 ·rename_i x o;have ak:=et aM ax;simp only[hp]at he;unfold AD at he;split at he
  ·rename_i k off ae;cases he;rw[ae]at ak;have aC:=ak;simp only[ba]at ak;obtain⟨b,_,aK⟩:=ak;exact⟨a.eval o,by simp[execOp,aK],aC⟩
  ·rename_i q ae;cases he;rw[ae]at ak;have aC:=ak;simp only[ba]at ak;obtain⟨b,off,u,aK,_⟩:=ak;exact⟨a.eval o,by simp[execOp,aK],aC⟩
  ·rename_i f cs ae;cases he;rw[ae]at ak;have aC:=ak;simp only[ba]at ak;obtain⟨us,aK,_⟩:=ak;exact⟨a.eval o,by simp[execOp,aK],aC⟩
  ·cases he
 ·rename_i x y o o' t dE;simp only[cE]at ax;have ak:=et aM ax.1;have aC:=et aM ax.2;simp only[hp]at he;unfold GR at he;split at he
  ·rename_i k m bH n hm au;split at he
   ·rename_i ad;subst ad;cases he;rw[hm]at ak;rw[au]at aC;simp only[ba]at ak aC;exact⟨.int k (if n<m then n else m),by simp[execOp,resolve,invoke,builtin,Builtin.min_,Builtin.min2,ak,aC],by simp[ba]⟩
   ·cases he
  ·cases he
 ·rename_i n xs m os;simp only[cE,dS]at ax;obtain⟨rfl,ax⟩:=ax;simp only[hp]at he;cases he;have uB:=DI aM ax;refine⟨.func (.func n) #[] (os.map a.eval),by simp[execOp,Instr.makeFunc],?_⟩;simp only[ba];exact⟨os.map a.eval,rfl,by simpa using uB⟩
 ·rename_i cf zero ok x k t o o' GX;simp only[cE,dS]at ax;obtain⟨⟨⟨rfl,J⟩,U⟩,ar⟩:=ax;have ak:=et aM U;have aC:=et aM ar;split at J
  ·rename_i sz la mL pz z aI;simp only[cE]at J;obtain⟨afU,Kv⟩:=J;split at Kv
   ·rename_i ap1 afy;have bq:=Ow Kv;obtain⟨cI,hu,e4⟩:=je aL aI;have sU:cI= .map mL pz:=by cases cI<;>simp[ki]at e4;obtain⟨rfl,rfl⟩:=e4;rfl
    subst sU;obtain⟨b9,k6,z2,_⟩:=NT aL afy w;rw[←bq]at z2;have aa:=(Ov w ν z2).1;have l4:=Lr aL afU;simp only[hp]at he;unfold n2 at he;split at he
    ·rename_i key ab;rw[ab]at ak;simp only[ba]at ak;obtain⟨bl,b1,b2⟩:=ak;split at he
     ·rename_i clock borns kvs hM;obtain⟨iG,us,el,g1,g2,g3,g4,g5⟩:=aM.good.box key _ hM;rw[b1]at g1;cases g1;simp only[jU]at g4;simp only[jq]at g5;have hj:(getObj bl).run P w= .ok (.map (fF borns us.toList).toArray clock) w:=vi g4;split at he
      ·cases he
      rename_i vW;have vQ:=Ni (P:=P) (w:=w) l4 ((fF borns us.toList).toArray.isEmpty) aC (by simpa using vW);split at he
      ·rename_i v hm;cases he;obtain⟨j,u,f1,f2⟩:=LW l4 aC borns kvs us.toList 0 _ g5.1 g5.2.len hm;refine⟨if ok then .tuple #[u,.bool true]else u,?_,?_⟩
       ·simp only[execOp];refine ls ?_;simp only[Instr.lookup,fJ,run_underlying hu,fR,b2,hj,gu,vQ,f1.run l4]
       ·cases ok
        ·simpa using f2
        ·simp only[if_true,ba];exact⟨_,rfl,by simp only[cM];exact⟨_,_,rfl,f2,_,_,rfl,by simp[ba],rfl⟩⟩
      ·rename_i hm;cases he;have f1:=LW l4 aC borns kvs us.toList 0 _ g5.1 g5.2.len hm;simp only at f1;refine⟨if ok then .tuple #[b9,.bool false]else b9,?_,?_⟩
       ·simp only[execOp];refine ls ?_;simp only[Instr.lookup,fJ,run_underlying hu,fR,b2,hj,gu,vQ,f1.run l4,k6]
       ·cases ok
        ·simpa using aa
        ·simp only[if_true,ba];exact⟨_,rfl,by simp only[cM];exact⟨_,_,rfl,aa,_,_,rfl,by simp[ba],rfl⟩⟩
      ·cases he
     ·cases he
    ·cases he
   ·cases Kv
  ·cases J
 ·rename_i x o;have ak:=et aM ax;simp only[hp]at he;unfold pK at he;split at he
  ·rename_i ft ab;rw[ab]at ak;simp only[ba]at ak;obtain⟨bl,b1,b2⟩:=ak;split at he
   ·rename_i since seen last mk hM;obtain⟨iG,us,el,g1,g2,g3,g4,g5⟩:=aM.good.box ft _ hM;rw[b1]at g1;cases g1;simp only[jU]at g4;simp only[jq,cM,ba]at g5;obtain⟨u,ch,qW,⟨mb,m1,rfl⟩,rfl⟩:=g5;rw[qW]at g4;simp only at g4;split at he
    ·rename_i clock borns kvs af3;obtain⟨apa,ss,apM,aP,a6,bR,dq,cS⟩:=aM.good.box mk _ af3;rw[m1]at aP;cases aP;simp only[jU]at dq;simp only[jq]at cS;split at he
     ·rename_i n au;simp only[gT]at he;obtain⟨q,bh,he⟩:=he;cases he;obtain⟨e,f1,f2⟩:=Vl borns kvs ss.toList p cS.1 bh;refine⟨.tuple #[e.key,e.val],?_,f2⟩;simp only[execOp];refine ls ?_;have afG:(getObj bl).run P w= .ok (.mapIter (some mb) since seen.toArray last) w:=vi g4;have afH:(getObj mb).run P w= .ok (.map (fF borns ss.toList).toArray clock) w:=vi dq;have Kp:seen.toArray.back? =some n:=by simpa using au
      have zH:(clock !=last)=false:=by simp[ay]
      have afz:(fF borns ss.toList).toArray.find? (·.born==n)=some e:=by simpa using f1
      simp only[Instr.entry,b2,fJ,afG,fR,Kp,afH,zH,hb,if_false,afz,gu]
     ·cases he
    ·cases he
   ·cases he
  ·cases he
 ·rename_i x o t;simp only[cE]at ax;obtain⟨J,U⟩:=ax;have ak:=et aM U;simp only[hp]at he;unfold u1 at he;split at he
  ·rename_i key ae;rw[ae]at ak;simp only[ba]at ak;obtain⟨bl,b1,b2⟩:=ak;split at he
   ·rename_i clock borns kvs hM;cases he;obtain⟨iG,us,el,g1,g2,g3,g4,g5⟩:=aM.good.box key _ hM;rw[b1]at g1;cases g1;simp only[jU]at g4;simp only[jq]at g5;have hj:(getObj bl).run P w= .ok (.map (fF borns us.toList).toArray clock) w:=vi g4;have hlen:(fF borns us.toList).length=borns.length:=RK g5.2.len (Xs g5.1);refine⟨.int .i64 borns.length,?_,by simp[ba]⟩;split at J
    ·rename_i aI;obtain⟨d,aR,e4⟩:=je aL aI;obtain⟨mL,pz,rfl⟩:∃mL pz,d= .map mL pz:=by cases d<;>simp[ki]at e4;exact⟨_,_,rfl⟩
     simp[execOp,resolve,invoke,builtin,Builtin.len_,run_underlying aR,b2,goInt,hj,hlen]
    ·cases J
   ·cases he
  ·cases he
 ·rename_i neg dQ x y op t o o' am7;simp only[cE,fK]at ax;obtain⟨⟨⟨rfl,bD⟩,J⟩,U⟩:=ax;have ak:=et aM J;have aC:=et aM U;simp only[hp]at he;unfold iF at he;split at he
  ·rename_i bp bP br ae;simp only at bD;cases he;rw[br]at ak;rw[ae]at aC;simp only[ba]at ak aC;split at bD
   ·rename_i aI;obtain⟨d,aR,e4⟩:=je aL aI;obtain rfl:d= .bool:=by cases d<;>simp[ki]at e4;rfl
    refine⟨.bool (if neg then bp !=bP else bp==bP),ls ?_,by simp[ba]⟩;cases neg<;>simp[ak,aC,eqGuard,binOp,abb aR,bne]
   ·cases bD
  ·rename_i aqa as eZ br ae;simp only at bD;simp only[gT]at he;obtain⟨q,bh,he⟩:=he;cases he;rw[br]at ak;rw[ae]at aC;simp only[ba]at ak aC;obtain⟨X,aaY,akQ⟩:=ak;obtain⟨Y,aaZ,akR⟩:=aC;obtain⟨gs,hu,aX,cY,iZ⟩:=Sn aL bD;obtain⟨i1,_,_⟩:=RO hu aX cY akQ akR bh;refine⟨.bool (if neg then !q else q),ls ?_,by simp[ba]⟩;rw[aaY,aaZ];cases neg
   ·simp only[hb,if_false,fJ,run_eqGuard_agg w _ t o o' X Y iZ,fR,run_eql_struct,i1]
   ·simp only[if_true,fJ,run_eqGuard_agg w _ t o o' X Y iZ,fR,run_neq_struct,i1]
  ·cases he
 ·rename_i x y o o' t dE;simp only[cE]at ax;have ak:=et aM ax.1;have aC:=et aM ax.2;simp only[hp]at he;unfold GL at he;split at he
  ·rename_i k m bH n hm au;split at he
   ·rename_i ad;subst ad;cases he;rw[hm]at ak;rw[au]at aC;simp only[ba]at ak aC;exact⟨.int k (if m<n then n else m),by simp[execOp,resolve,invoke,builtin,Builtin.max_,Builtin.max2,ak,aC],by simp[ba]⟩
   ·cases he
  ·cases he
 ·rename_i t x dE o;simp only[cE,dS]at ax;obtain⟨⟨rfl,J⟩,U⟩:=ax;have ak:=et aM U;simp only[hp]at he;cases he;split at J
  ·rename_i aI;obtain⟨d,aR,e4⟩:=je aL aI;obtain rfl:=sJ e4;refine⟨.iface t (a.eval o),ls (by simp[Instr.makeInterface,run_underlying aR]),?_⟩;simp only[ba];exact⟨_,rfl,ak⟩
  ·cases J
 ·rename_i agg sz x t o;simp only[cE]at ax;obtain⟨J,U⟩:=ax;split at J
  ·rename_i f aI;simp only[cE,dS]at J;obtain⟨rfl,rfl⟩:=J;obtain⟨v,g1,g2⟩:=GG aL aM.good aI (et aM U) (ahP (by simpa only[hp]using he)) ay;exact⟨v,ls g1,g2⟩
  ·cases J
 ·rename_i agg sz x t o;simp only[cE]at ax;obtain⟨J,U⟩:=ax;split at J
  ·rename_i f aI;simp only[cE,dS]at J;obtain⟨rfl,rfl⟩:=J;obtain⟨v,g1,g2⟩:=GG aL aM.good aI (et aM U) (aee (by simpa only[hp]using he)) ay;exact⟨v,ls g1,g2⟩
  ·cases J
 ·exact absurd rfl (afi _ _ _ _ _)
 ·cases ax
theorem ane{P:cF}{bC:List (Nat×dI)}(aL:fU P bC=true){C:fh}{st:bs}{a:Act}{w:World}{ν:bf}(aM:cR C st a w ν){i:fY}{o:Oper}(ax:D5 bC i o.op=true)
  {c:Prop} {p:ah} (he:hp st i=some (c,p)) (ay:c):∃v,(execOp a.eval o).run P w= .ok (.value v) w∧ba w ν p v:=by
 by_cases ae:∃cf z ok x k,i= .mgetB cf z ok x k
 ·obtain⟨cf,z,ok,x,k,rfl⟩:=ae;refine Yi aL aM (i:= .mget cf z ok x k) (fun _ _ _ _ _ e=>by cases e) ?_ he ay;obtain⟨dst,op,type,pos,after,guard⟩:=o;cases op<;>first|exact ax|simp[D5]at ax
 ·exact Yi aL aM (fun cf z ok x k e=>ae ⟨cf,z,ok,x,k,e⟩) ax he ay
theorem Rk{w:World}{o:Obj}{b i:Nat}(h:b<w.heap.size):(w.alloc o).cell? ⟨b,i,none⟩=w.cell? ⟨b,i,none⟩:=World.cell?_of_block (Below.heap_alloc w o b h)
def bf.withBox(ν:bf)(k:aH)(bl:Nat):bf:={ν with bx:=fun j=>if j=k then some bl else ν.bx j}
def bf.withOwn(ν:bf)(k:aH)(n:Nat)(v:Value):bf:={ν with ow:=fun j=>if j=k then some (n,v)else ν.ow j}
theorem cR.lookNone{C:fh}{st:bs}{a:Act}{w:World}{ν:bf}(h:cR C st a w ν){k:aH}(ad:fresh st.n st.o k):look k st.b=none∧look k st.e=none:=by
 obtain⟨J,U,_⟩:=h.new k ad;constructor
 ·cases ae:look k st.b with
  |none=>rfl
  |some cs=>obtain⟨bl,us,el,g1,_⟩:=h.good.box _ _ ae;rw[J]at g1;cases g1
 ·cases ae:look k st.e with
  |none=>rfl
  |some o=>obtain⟨v,us,g1,_⟩:=h.good.own _ _ ae;rw[U]at g1;cases g1
theorem Good.ownLt{pr:Nat→Prop}{w:World}{ν:bf}{b:List (aH×List ah)}{e:List (aH×fL)}(h:Good pr w ν b e){g:aH}{o:fL}(aX:look g e=some o){n:Nat}{v:Value}(aK:ν.ow g=some (n,v)){bl:Nat}(ae:v.ownBlock=some bl):bl<w.heap.size:=by obtain⟨v',us,g1,g2,_⟩:=h.own g o aX;rw[aK]at g1;cases g1;exact(g2.lt bl ae).2
theorem Good.boxLt{pr:Nat→Prop}{w:World}{ν:bf}{b:List (aH×List ah)}{e:List (aH×fL)}(h:Good pr w ν b e){k:aH}{cs:List ah}(ad:look k b=some cs){bl:Nat}(ae:ν.bx k=some bl):bl<w.heap.size:=by obtain⟨iG,us,el,g1,_,_,g4,_⟩:=h.box k cs ad;rw[ae]at g1;cases g1;exact(Array.getElem?_eq_some_iff.1 g4).1
theorem cR.newBox{C:fh}{st:bs}{a:Act}{w:World}{ν:bf}(h:cR C st a w ν){fo:aH}(Cw:ν.bx fo=none∧ν.ow fo=none∧∀j b,¬ν.tr fo j b){n':Nat}{o':List aH}(dt:∀j,fresh n' o' j→fresh st.n st.o j∧j≠fo){cs:List ah}{us:Array Value}(el:gm)(ay:jq w ν cs us.toList):
  cR C {st with b:=cB fo cs st.b,n:=n',o:=o'} a (w.alloc (jU cs us el)) (ν.withBox fo w.heap.size)∧
  ba (w.alloc (jU cs us el)) (ν.withBox fo w.heap.size) (.ptr fo 0) (.pointer (some ⟨w.heap.size,0,none⟩)):=by
 obtain⟨rT,Cz,af9⟩:=Cw;have ax:ly w ν (w.alloc (jU cs us el)) (ν.withBox fo w.heap.size):=by
  refine⟨fun b o bm=>⟨bm,Rk (h.good.alt b o bm)⟩,fun k b _ ad=>?_,fun g n u _ aX=>⟨n,u,aX,.inl ⟨rfl,rfl⟩⟩,fun b o bm=>wV (Below.heap_alloc w _ b (h.good.alt b o bm)),fun _ _ _ _ h=>h⟩;have:k≠fo:=fun e=>by subst e;rw[rT]at ad;cases ad
  simp[bf.withBox,this,ad]
 have ep:(w.alloc (jU cs us el)).heap.size=w.heap.size+1:=by simp
 have lF:∀k,(look k (cB fo cs st.b)).isSome→k=fo∨(k≠fo∧(look k st.b).isSome∧(ν.withBox fo w.heap.size).bx k=ν.bx k):=by
  intro k ad;by_cases e:k=fo
  ·exact .inl e
  ·rw[jc,if_neg (k8 e)]at ad;exact .inr ⟨e,ad,by simp[bf.withBox,e]⟩
 refine⟨h.over ax rfl ⟨fun bl o bm=>by rw[ep];have:=h.good.alt bl o bm;omega,fun k eT ad=>?_,fun k bH bl ad nW ak aC=>?_,fun g o aX=>?_,h.good.oinj,fun g k n v bl aX ad aK ae ab=>?_,fun k=>?_,fun bl ae k j aL=>?_⟩
  ⟨h.fr.os,h.fr.tape,h.fr.output,by rw[ep];have:=h.fr.size;omega,fun k ad hm=>?_,fun b o bm=>?_,h.fr.fresh,fun n b ae=>?_,h.fr.obn,h.fr.row,h.fr.obr,h.fr.trd,fun k j b ae=>⟨(h.fr.trb k j b ae).1,by rw[ep];have:=(h.fr.trb k j b ae).2;omega⟩,fun k j b ae=>?_,fun b o bm=>(ax.sh b o (h.fr.keep b o bm).1).trans (h.fr.sh b o bm)⟩ (fun m hm=>?_),?_⟩
 ·simp only at ad;rw[jc]at ad;by_cases e:fo=k
  ·rw[if_pos e]at ad;cases ad;subst e;refine⟨w.heap.size,us,el,by simp[bf.withBox],.inr h.fr.size,fun o bm=>?_,heap_alloc_new w _,qn ax ay⟩;have:=h.good.alt _ o bm;omega
  ·rw[if_neg e]at ad;obtain⟨bl,ch,fZ,g1,g2,g3,g4,g5⟩:=h.good.box k eT ad;exact⟨bl,ch,fZ,ax.bx _ _ trivial g1,g2,g3,by rw[Below.heap_alloc w _ bl (Array.getElem?_eq_some_iff.1 g4).1];exact g4,qn ax g5⟩
 ·rcases lF k ad with rfl|⟨ic,fW,jn⟩<;>rcases lF bH nW with rfl|⟨m1,m2,m3⟩
  ·rfl
  ·exfalso;simp only[bf.withBox,if_true,dM]at ak;subst ak;rw[m3]at aC;obtain⟨eT,iY⟩:=fE.1 m2;have:=h.good.boxLt iY aC;omega
  ·exfalso;simp only[bf.withBox,if_true,dM]at aC;subst aC;rw[jn]at ak;obtain⟨eT,iY⟩:=fE.1 fW;have:=h.good.boxLt iY ak;omega
  ·rw[jn]at ak;rw[m3]at aC;exact h.good.inj k bH bl fW m2 ak aC
 ·obtain⟨v,xs,g1,g2,g3,g4⟩:=h.good.own g o aX;exact⟨v,xs,g1,g2.alloc _,g3,sj ax (fun _ _ _ h=>h) g4⟩
 ·rcases lF k ad with rfl|⟨ic,fW,jn⟩
  ·simp only[bf.withBox,if_true,dM]at ab;subst ab;obtain⟨o,hX⟩:=fE.1 aX;have:=h.good.ownLt hX aK ae;omega
  ·rw[jn]at ab;exact h.good.obx g k n v bl aX fW aK ae ab
 ·by_cases e:k=fo
  ·subst e;exact .inr Cz
  ·rcases h.good.one k with J|J
   ·exact .inl (by simp[bf.withBox,e,J])
   ·exact .inr J
 ·rcases ae with⟨bH,bG,a2⟩|ae
  ·rcases lF bH bG with rfl|⟨ic,fW,jn⟩
   ·simp[bf.withBox]at a2;subst a2;exact absurd (h.fr.trb k j _ aL).2 (Nat.lt_irrefl _)
   ·exact h.good.otr bl (.inl ⟨bH,fW,by rw[←jn];exact a2⟩) k j aL
  ·exact h.good.otr bl (.inr ae) k j aL
 ·rw[Below.heap_alloc w _ k (by have:=h.fr.size;omega)];exact h.fr.block k ad hm
 ·obtain⟨aP,a6⟩:=h.fr.keep b o bm;exact⟨aP,(Rk (h.good.alt b o aP)).trans a6⟩
 ·exact ax.bx _ _ trivial (h.fr.obj n b ae)
 ·have cH:k≠fo:=fun e=>by subst e;exact af9 j b ae
  obtain⟨t1,t2⟩:=h.fr.trn k j b ae;exact⟨by simp[bf.withBox,cH,t1],t2⟩
 ·obtain⟨f1,f2⟩:=dt m hm;obtain⟨aP,a6⟩:=h.new m f1;refine⟨?_,a6⟩;simp[bf.withBox,f2,aP]
 ·simp[ba,bf.withBox]
theorem cR.setBox{C:fh}{st:bs}{a:Act}{w w':World}{ν:bf}(h:cR C st a w ν){k:aH}{cs cs':List ah}(ad:look k st.b=some cs){bl:Nat}(ae:ν.bx k=some bl){us:Array Value}{el:gm}
  (zW:w'.os=w.os) (K2:w'.tape=w.tape) (KO:w'.output=w.output) (nu:∀j,j≠bl→w'.heap[j]? =w.heap[j]?) (ep:w'.heap.size=w.heap.size) (kB:w'.heap[bl]? =some (jU cs' us el)) (ay:jq w ν cs' us.toList):
  cR C {st with b:=cB k cs' st.b} a w' ν∧ly w ν w' ν:=by
 obtain⟨iG,fC,apL,g1,g2,g3,g4,g5⟩:=h.good.box k cs ad;rw[ae]at g1;cases g1;have ax:ly w ν w' ν:=by
  refine⟨fun b o bm=>⟨bm,World.cell?_of_block (nu b fun e=>?_)⟩,fun _ _ _ h=>h,fun g n u _ aX=>⟨n,u,aX,.inl ⟨rfl,rfl⟩⟩,fun b o bm=>wV (nu b fun e=>?_),fun _ _ _ _ h=>h⟩<;>
  (subst e;exact g3 o bm)
 have FR:∀j,(look j (cB k cs' st.b)).isSome→(look j st.b).isSome:=by
  intro j af;rw[jc]at af;by_cases e:k=j
  ·subst e;simp[ad]
  ·rwa[if_neg e]at af
 refine⟨h.over ax rfl ⟨fun b o bm=>by rw[ep];exact h.good.alt b o bm,fun j eT af=>?_,fun j dJ b af jy=>h.good.inj j dJ b (FR j af) (FR dJ jy),fun g o aX=>?_,h.good.oinj,fun g j n v b aX af=>h.good.obx g j n v b aX (FR j af),h.good.one,fun bl ae=>h.good.otr bl (ae.imp (fun⟨k,J,U⟩=>⟨k,FR k J,U⟩) id)⟩
  ⟨zW.trans h.fr.os,K2.trans h.fr.tape,KO.trans h.fr.output,by rw[ep];exact h.fr.size,fun j af hm=>?_,fun b o bm=>?_,h.fr.fresh,h.fr.obj,h.fr.obn,h.fr.row,h.fr.obr,h.fr.trd,fun k j b ae=>⟨(h.fr.trb k j b ae).1,by rw[ep];exact(h.fr.trb k j b ae).2⟩,h.fr.trn,fun b o bm=>(ax.sh b o (h.fr.keep b o bm).1).trans (h.fr.sh b o bm)⟩ h.new,ax⟩
 ·simp only at af;rw[jc]at af;by_cases e:k=j
  ·rw[if_pos e]at af;cases af;subst e;exact⟨bl,us,el,ae,g2,g3,kB,qn ax ay⟩
  ·rw[if_neg e]at af;obtain⟨b,ch,fZ,ak,aC,bk,dg,hf⟩:=h.good.box j eT af;refine⟨b,ch,fZ,ak,aC,bk,?_,qn ax hf⟩;rw[nu b fun fT=>e (h.good.inj k j bl (by simp[ad]) (by simp[af]) ae (by rw[←fT];exact ak))];exact dg
 ·obtain⟨v,xs,ak,aC,bk,dg⟩:=h.good.own g o aX;refine⟨v,xs,ak,⟨aC.1,?_⟩,bk,sj ax (fun _ _ _ h=>h) dg⟩;rcases aC.2 with aC|⟨bb,cap,cur,f1,f2,f3,f4⟩
  ·exact .inl aC
  ·refine .inr ⟨bb,cap,cur,f1,f2,?_,f4⟩;rw[nu bb fun fT=>h.good.obx g k o.n v bl (by simp[aX]) (by simp[ad]) ak (by rw[f1,←fT];rfl) ae];exact f3
 ·rw[nu j fun e=>by subst e;exact g2.elim hm (fun g2=>by omega)];exact h.fr.block j af hm
 ·obtain⟨aP,a6⟩:=h.fr.keep b o bm;exact⟨aP,(ax.A b o aP).2.trans a6⟩
theorem cR.storeBox{C:fh}{st:bs}{a:Act}{w:World}{ν:bf}(h:cR C st a w ν){k:aH}{cs cs':List ah}(ad:look k st.b=some cs){bl:Nat}(ae:ν.bx k=some bl)(bQ:h2 cs=true){us:Array Value}(ay:c5 w ν cs' us.toList):
  cR C {st with b:=cB k cs' st.b} a (w.setRow bl us) ν:=by
 obtain⟨iG,fC,el,g1,g2,g3,g4,g5⟩:=h.good.box k cs ad;rw[ae]at g1;cases g1;rw[u6 bQ]at g4;have TN:=A6 ay;exact(h.setBox (w':=w.setRow bl us) ad ae (us:=us) (el:=el) rfl rfl rfl (fun j af=>setRow_other w bl j us af) (setRow_size w bl us) (by rw[u6 TN];exact setRow_heap w bl fC us el _ g4) (by rw[u7 TN];exact ay)).1
def bf.withRowOf(ν:bf)(k:aH)(v:Value)(n cells:Nat):bf:={A:=fun b o=>ν.A b o∨(v.ownBlock=some b∧o<cells),bx:=ν.bx,ow:=fun j=>if j=k then some (n,v)else ν.ow j,tr:=ν.tr}
theorem Lz{w:World}{A:Nat→Nat→Prop}{b:Nat}:∀(us:List Value) (off:Nat),(∀j u,us[j]? =some u→A b (off+j)∧w.cell? ⟨b,off+j,none⟩=some u)→lQ w A b off us
 |[],_,_=>trivial
 |u::us,off,h=>⟨h 0 u rfl,Lz us (off+1) fun j x af=>by have:=h (j+1) x (by simpa using af);rwa[show off+(j+1)=off+1+j from by omega]at this⟩
theorem E6{w w':World}(aX:w.grownBy w' none){b i:Nat}(h:b<w.heap.size):w'.cell? ⟨b,i,none⟩=w.cell? ⟨b,i,none⟩:=World.cell?_of_block (aX.block b h (by simp))
theorem cR.newRowM{C:fh}{st:bs}{a:Act}{w w':World}{ν:bf}(h:cR C st a w ν){k:aH}{xs:List ah}(ad:(ν.bx k=none∧ν.ow k=none∧∀j b,¬ν.tr k j b)∨ ∃o,look k st.e=some o∧o.n<xs.length){el sz:Nat}{v:Value}{us:List Value}
  (aX:w.grownBy w' none) (lK:w'.ownsRow w.heap.size el sz v xs.length us) (ay:dH w ν sz xs us) (eV:xs.length≤lim) {n':Nat} {o':List aH} (dt:∀j,fresh n' o' j→fresh st.n st.o j∧j≠k):
  cR C {st with e:=cB k ⟨xs.length,el,sz,some xs⟩ st.e,n:=n',o:=o'} a w' (ν.withOwn k xs.length v)∧
  ((∃b cap,v= .slice (some ⟨b,0,none⟩) xs.length cap)→ba w' (ν.withOwn k xs.length v) (.row sz k xs.length) v):=by
 have qN:∀bl,v.ownBlock=some bl→w.heap.size≤bl∧bl<w'.heap.size:=fun bl ae=>lK.lt bl ae;have ax:ly w ν w' (ν.withOwn k xs.length v):=by
  refine⟨fun b o bm=>⟨bm,E6 aX (h.good.alt b o bm)⟩,fun j b _ af=>af,fun g n u _ iZ=>?_,fun b o bm=>wV (aX.block b (h.good.alt b o bm) (by simp)),fun _ _ _ _ h=>h⟩;by_cases e:g=k
  ·subst e;rcases ad with ad|⟨o,ax,bE⟩
   ·rw[ad.2.1]at iZ;cases iZ
   ·obtain⟨v0,fC,ak,_⟩:=h.good.own g o ax;rw[ak]at iZ;cases iZ;exact⟨xs.length,v,by simp[bf.withOwn],.inr bE⟩
  ·exact⟨n,u,by simp[bf.withOwn,e,iZ],.inl ⟨rfl,rfl⟩⟩
 have kY:∀g,(look g (cB k ⟨xs.length,el,sz,some xs⟩ st.e)).isSome→g=k∨(g≠k∧(look g st.e).isSome∧(ν.withOwn k xs.length v).ow g=ν.ow g):=by
  intro g kA;by_cases e:g=k
  ·exact .inl e
  ·rw[jc,if_neg (k8 e)]at kA;exact .inr ⟨e,kA,by simp[bf.withOwn,e]⟩
 have TJ:∀bl,v.ownBlock=some bl→∀j,¬ν.A bl j:=fun bl ae j bm=>by have J:=h.good.alt bl j bm;have:=(qN bl ae).1;omega
 have agh:∀j b,¬ν.tr k j b:=fun j b ae=>by
  rcases ad with ad|⟨o,hX,_⟩
  ·exact ad.2.2 j b ae
  ·obtain⟨v0,fC,ak,_⟩:=h.good.own k o hX;rw[(h.fr.trn k j b ae).2]at ak;cases ak
 refine⟨h.over ax rfl ⟨fun bl o bm=>?_,fun j eT af=>?_,h.good.inj,fun g o de=>?_,fun g e9 n n' u fe bl J U ar a8 b4 dd=>?_,fun g j n u bl J U ar a8 b4=>?_,fun j=>?_,fun bl ae bH j aL=>?_⟩
  ⟨aX.os.trans h.fr.os,aX.tape.trans h.fr.tape,aX.output.trans h.fr.output,kc h.fr.size aX.size,fun j af hm=>?_,fun b o bm=>?_,h.fr.fresh,h.fr.obj,h.fr.obn,fun m n u hm=>DL (h.fr.row m n u hm) (fun n u=>ax.ow _ n u trivial),h.fr.obr,h.fr.trd,fun k j b ae=>⟨(h.fr.trb k j b ae).1,Nat.lt_of_lt_of_le (h.fr.trb k j b ae).2 aX.size⟩,fun bH j b ae=>?_,fun b o bm=>(ax.sh b o (h.fr.keep b o bm).1).trans (h.fr.sh b o bm)⟩ (fun m hm=>?_),?_⟩
 ·have:=h.good.alt bl o bm;have:=aX.size;omega
 ·obtain⟨bl,ch,fZ,g1,g2,g3,g4,g5⟩:=h.good.box j eT af;have bE:=(Array.getElem?_eq_some_iff.1 g4).1;exact⟨bl,ch,fZ,g1,g2,g3,by rw[aX.block bl bE (by simp)];exact g4,qn ax g5⟩
 ·simp only at de;rw[jc]at de;by_cases e:k=g
  ·rw[if_pos e]at de;cases de;subst e;refine⟨v,us,by simp[bf.withOwn],⟨lK.1,?_⟩,fun bl ae=>⟨.inr (kc h.fr.size (qN bl ae).1),fun j bm=>absurd bm (TJ bl ae j)⟩,fun ys aG=>?_⟩
   ·rcases lK.2 with ak|⟨bb,cap,cur,f1,f2,f3⟩
    ·exact .inl ak
    ·exact .inr ⟨bb,cap,cur,f1,by omega,f3⟩
   ·simp only[dM]at aG;subst aG;exact⟨rfl,A3 ax ay,TJ⟩
  ·rw[if_neg e]at de;obtain⟨v0,fC,ak,aC,bk,dg⟩:=h.good.own g o de;exact⟨v0,fC,by simp[bf.withOwn,k8 e,ak],aC.kept aX (by cases v0.ownBlock<;>simp),bk,sj ax (fun _ _ _ h=>h) dg⟩
 ·rcases kY g J with rfl|⟨ic,fW,jn⟩<;>rcases kY e9 U with rfl|⟨m1,m2,m3⟩
  ·rfl
  ·exfalso;simp only[bf.withOwn,if_true,dM,jF]at ar;rw[m3]at a8;obtain⟨o,hX⟩:=fE.1 m2;have aw:=h.good.ownLt hX a8 dd;have:=(qN bl (by rw[ar.2];exact b4)).1;omega
  ·exfalso;simp only[bf.withOwn,if_true,dM,jF]at a8;rw[jn]at ar;obtain⟨o,hX⟩:=fE.1 fW;have aw:=h.good.ownLt hX ar b4;have:=(qN bl (by rw[a8.2];exact dd)).1;omega
  ·rw[jn]at ar;rw[m3]at a8;exact h.good.oinj g e9 n n' u fe bl fW m2 ar a8 b4 dd
 ·rcases kY g J with rfl|⟨ic,fW,jn⟩
  ·simp only[bf.withOwn,if_true,dM,jF]at ar;obtain⟨eT,iY⟩:=fE.1 U;have aw:=h.good.boxLt iY b4;have:=(qN bl (by rw[ar.2];exact a8)).1;omega
  ·rw[jn]at ar;exact h.good.obx g j n u bl fW U ar a8 b4
 ·by_cases e:j=k
  ·subst e;rcases ad with ad|⟨o,hX,_⟩
   ·exact .inl ad.1
   ·obtain⟨v0,fC,ak,_⟩:=h.good.own j o hX;rcases h.good.one j with J|J
    ·exact .inl J
    ·rw[J]at ak;cases ak
  ·rcases h.good.one j with J|J
   ·exact .inl J
   ·exact .inr (by simp[bf.withOwn,e,J])
 ·rcases ae with ae|⟨g,n,u,bG,a2,a3⟩
  ·exact h.good.otr bl (.inl ae) bH j aL
  ·rcases kY g bG with rfl|⟨ic,fW,jn⟩
   ·simp only[bf.withOwn,if_true,dM,jF]at a2;have J:=(qN bl (by rw[a2.2];exact a3)).1;have U:=(h.fr.trb bH j _ aL).2;omega
   ·exact h.good.otr bl (.inr ⟨g,n,u,fW,by rw[←jn];exact a2,a3⟩) bH j aL
 ·rw[aX.block j (by have:=h.fr.size;omega) (by simp)];exact h.fr.block j af hm
 ·obtain⟨aP,a6⟩:=h.fr.keep b o bm;exact⟨aP,(ax.A b o aP).2.trans a6⟩
 ·have cH:bH≠k:=fun e=>by subst e;exact agh j b ae
  obtain⟨t1,t2⟩:=h.fr.trn bH j b ae;exact⟨t1,by simp[bf.withOwn,cH,t2]⟩
 ·obtain⟨f1,f2⟩:=dt m hm;obtain⟨aP,a6,bR⟩:=h.new m f1;refine⟨aP,?_,bR⟩;simp[bf.withOwn,f2,a6]
 ·intro Kz;simp only[ba];exact⟨Kz,eV,xs.length,v,by simp[bf.withOwn],eY _,fun _=>rfl⟩
theorem cR.publish{C:fh}{st:bs}{a:Act}{w:World}{ν:bf}(h:cR C st a w ν){k:aH}{o:fL}{xs:List ah}(ad:look k st.e=some o)(ab:o.xs=some xs){v:Value}(aK:ν.ow k=some (o.n,v))(eV:xs.length≤lim):
  cR C {st with e:=cB k ⟨o.n,o.el,o.sz,none⟩ st.e} a w (ν.withRowOf k v o.n (o.n*o.sz))∧
  ba w (ν.withRowOf k v o.n (o.n*o.sz)) (.slice o.sz (.own k) xs) v:=by
 obtain⟨v0,us,a7,bF,b0,cZ⟩:=h.good.own k o ad;rw[aK]at a7;cases a7;obtain⟨df,n3,u9⟩:=cZ xs ab;have oN:∀g,(ν.withRowOf k v o.n (o.n*o.sz)).ow g=ν.ow g:=fun g=>by
  simp only[bf.withRowOf];split
  ·rename_i e;subst e;exact aK.symm
  ·rfl
 have ax:ly w ν w (ν.withRowOf k v o.n (o.n*o.sz)):=⟨fun b o bm=>⟨.inl bm,rfl⟩,fun j b _ af=>af,fun g n u _ iZ=>⟨n,u,by rw[oN];exact iZ,.inl ⟨rfl,rfl⟩⟩,fun _ _ _=>rfl,fun _ _ _ _ h=>h⟩
 have kY:∀g,(look g (cB k ⟨o.n,o.el,o.sz,none⟩ st.e)).isSome→(look g st.e).isSome:=by
  intro g kA;by_cases e:k=g
  ·subst e;simp[ad]
  ·rwa[jc,if_neg e]at kA
 refine⟨h.over ax rfl ⟨fun bl i bm=>?_,fun j eT af=>?_,h.good.inj,fun g o' de=>?_,fun g e9 n n' u fe bl J U ar a8=>h.good.oinj g e9 n n' u fe bl (kY g J) (kY e9 U) (by rwa[oN]at ar) (by rwa[oN]at a8),fun g j n u bl J U ar=>h.good.obx g j n u bl (kY g J) U (by rwa[oN]at ar),fun j=>?_,fun bl ae=>h.good.otr bl (ae.imp id (fun⟨g,n,v,bG,a2,a3⟩=>⟨g,n,v,kY g bG,by rwa[oN]at a2,a3⟩))⟩
  ⟨h.fr.os,h.fr.tape,h.fr.output,h.fr.size,h.fr.block,fun b i bm=>⟨.inl (h.fr.keep b i bm).1,(h.fr.keep b i bm).2⟩,fun b i bm=>?_,h.fr.obj,h.fr.obn,fun m n u hm=>DL (h.fr.row m n u hm) (fun n u=>ax.ow _ n u trivial),h.fr.obr,h.fr.trd,h.fr.trb,fun bH j b ae=>⟨(h.fr.trn bH j b ae).1,by rw[oN];exact(h.fr.trn bH j b ae).2⟩,h.fr.sh⟩ (fun m hm=>?_),?_⟩
 ·rcases bm with bm|⟨bm,_⟩
  ·exact h.good.alt bl i bm
  ·exact(bF.lt bl bm).2
 ·obtain⟨bl,ch,fZ,g1,g2,g3,g4,g5⟩:=h.good.box j eT af;refine⟨bl,ch,fZ,g1,g2,fun i bm=>?_,g4,qn ax g5⟩;rcases bm with bm|⟨bm,_⟩
  ·exact g3 i bm
  ·exact h.good.obx k j o.n v bl (by simp[ad]) (by simp[af]) aK bm g1
 ·simp only at de;rw[jc]at de;by_cases e:k=g
  ·rw[if_pos e]at de;cases de;subst e;refine⟨v,us,by rw[oN];exact aK,bF,fun bl ae=>⟨(b0 bl ae).1,fun j bm=>?_⟩,fun ys aG=>by cases aG⟩;rcases bm with bm|⟨_,bm⟩
   ·exact(b0 bl ae).2 j bm
   ·exact bm
  ·rw[if_neg e]at de;obtain⟨v0,fC,ak,aC,bk,dg⟩:=h.good.own g o' de;have vN:∀bl,v0.ownBlock=some bl→∀j,(ν.withRowOf k v o.n (o.n*o.sz)).A bl j→ν.A bl j:=fun bl ae j bm=>by
    rcases bm with bm|⟨bm,_⟩
    ·exact bm
    ·exact absurd (h.good.oinj k g o.n o'.n v v0 bl (by simp[ad]) (by simp[de]) aK ak bm ae) e
   exact⟨v0,fC,by rw[oN];exact ak,aC,fun bl ae=>⟨(bk bl ae).1,fun j bm=>(bk bl ae).2 j (vN bl ae j bm)⟩,sj ax vN dg⟩
 ·rcases h.good.one j with J|J
  ·exact .inl J
  ·exact .inr (by rw[oN];exact J)
 ·rcases bm with bm|⟨bm,_⟩
  ·exact h.fr.fresh b i bm
  ·exact .inr (b0 b bm).1
 ·obtain⟨aP,a6,bR⟩:=h.new m hm;exact⟨aP,by rw[oN];exact a6,bR⟩
 ·simp only[ba];refine⟨?_,fun e=>(by cases e),fun g e=>?_,fun _ _ e=>(by cases e),fun _ e=>(by cases e)⟩
  ·rcases bF.2 with⟨ak,aC⟩|⟨bb,cap,cur,f1,f2,f3,f4,f5,f6,f7⟩
   ·refine⟨none,0,by rw[ak,df,aC],by omega,⟨by simp[maxLen],eV⟩,.inl (List.eq_nil_of_length_eq_zero (by omega))⟩
   ·refine⟨some ⟨bb,0,none⟩,cap,by rw[f1,df],by omega,⟨f5,eV⟩,.inr ⟨bb,0,us,rfl,Lz us 0 fun j u af=>?_,A3 ax n3⟩⟩;have oQ:v.ownBlock=some bb:=by rw[f1];rfl
    have zO:j<us.length:=(fV.1 af).1;refine⟨.inr ⟨oQ,by rw[bF.1]at zO;omega⟩,?_⟩;have:=bF.cells oQ j u af;rwa[pf]at this
  ·cases e;exact⟨o.n,v,by rw[oN];exact aK,by omega,fun _=>rfl⟩
theorem Yg{α:Type}(k:aH)(p q:α):∀l,cB k q (cB k p l)=cB k q l
 |[]=>by simp[cB]
 |(i,r)::l=>by
  by_cases e:i=k
  ·simp[cB,e]
  ·simp[cB,e,Yg k p q l]
theorem cR.newRow{C:fh}{st:bs}{a:Act}{w w':World}{ν:bf}(h:cR C st a w ν){k:aH}{xs:List ah}(ad:(ν.bx k=none∧ν.ow k=none∧∀j b,¬ν.tr k j b)∨ ∃o,look k st.e=some o∧o.n<xs.length){el sz:Nat}{v:Value}{us:List Value}
  (aX:w.grownBy w' none) (lK:w'.ownsRow w.heap.size el sz v xs.length us) (ay:dH w ν sz xs us) (eV:xs.length≤lim) {n':Nat} {o':List aH} (dt:∀j,fresh n' o' j→fresh st.n st.o j∧j≠k):
  cR C {st with e:=cB k ⟨xs.length,el,sz,none⟩ st.e,n:=n',o:=o'} a w' ((ν.withOwn k xs.length v).withRowOf k v xs.length (xs.length*sz))∧
  ba w' ((ν.withOwn k xs.length v).withRowOf k v xs.length (xs.length*sz)) (.slice sz (.own k) xs) v:=by
 have J:=(h.newRowM ad aX lK ay eV dt).1;have U:=J.publish (k:=k) (o:=⟨xs.length,el,sz,some xs⟩) (xs:=xs) (v:=v) (by simp[jc]) rfl (by simp[bf.withOwn]) eV;simpa only[Yg]using U
theorem cR.setRowM{C:fh}{st:bs}{a:Act}{w w':World}{ν:bf}(h:cR C st a w ν){k:aH}{o:fL}{xs xs':List ah}(ad:look k st.e=some o)(ab:o.xs=some xs){bl:Nat}{v v':Value}(aK:ν.ow k=some (o.n,v))(oQ:v.ownBlock=some bl)(F9:v'.ownBlock=some bl)
  (au:(xs'.length=o.n∧v'=v)∨o.n<xs'.length) {us:List Value} (zW:w'.os=w.os) (K2:w'.tape=w.tape) (KO:w'.output=w.output) (nu:∀j,j≠bl→w'.heap[j]? =w.heap[j]?) (ep:w'.heap.size=w.heap.size)
  (lK:w'.ownsRow 0 o.el o.sz v' xs'.length us) (ay:dH w ν o.sz xs' us):
  cR C {st with e:=cB k ⟨xs'.length,o.el,o.sz,some xs'⟩ st.e} a w' (ν.withOwn k xs'.length v')∧ly w ν w' (ν.withOwn k xs'.length v')∧(xs'.length≤lim→ba w' (ν.withOwn k xs'.length v') (.row o.sz k xs'.length) v'):=by
 obtain⟨v0,fC,a7,bF,b0,cZ⟩:=h.good.own k o ad;rw[aK]at a7;cases a7;obtain⟨df,n3,u9⟩:=cZ xs ab;have ax:ly w ν w' (ν.withOwn k xs'.length v'):=by
  refine⟨fun b i bm=>⟨bm,World.cell?_of_block (nu b fun e=>by subst e;exact u9 b oQ i bm)⟩,fun j b _ af=>af,fun g n u _ iZ=>?_,fun b i bm=>wV (nu b fun e=>by subst e;exact u9 b oQ i bm),fun _ _ _ _ h=>h⟩;by_cases e:g=k
  ·subst e;rw[aK]at iZ;cases iZ;refine⟨xs'.length,v',by simp[bf.withOwn],?_⟩;rcases au with⟨J,U⟩|J
   ·exact .inl ⟨J,U⟩
   ·exact .inr J
  ·exact⟨n,u,by simp[bf.withOwn,e,iZ],.inl ⟨rfl,rfl⟩⟩
 have kY:∀g n u,(look g (cB k ⟨xs'.length,o.el,o.sz,some xs'⟩ st.e)).isSome→(ν.withOwn k xs'.length v').ow g=some (n,u)→∀b,u.ownBlock=some b→(look g st.e).isSome∧∃n u,ν.ow g=some (n,u)∧u.ownBlock=some b:=by
  intro g n u kA iZ b ae;by_cases e:g=k
  ·subst e;simp only[bf.withOwn,if_true,dM,jF]at iZ;rw[←iZ.2,F9]at ae;cases ae;exact⟨by simp[ad],o.n,v,aK,oQ⟩
  ·rw[jc,if_neg (k8 e)]at kA;simp only[bf.withOwn,e,if_false]at iZ;exact⟨kA,n,u,iZ,ae⟩
 refine⟨h.over ax rfl ⟨fun b i bm=>by rw[ep];exact h.good.alt b i bm,fun j eT af=>?_,h.good.inj,fun g o' de=>?_,fun g e9 n n' u fe b J U ar a8 b4 dd=>?_,fun g j n u b J U ar a8 b4=>?_,fun j=>?_,fun b ae=>h.good.otr b (ae.imp id (fun⟨g,n,v,bG,a2,a3⟩=>by obtain⟨b1,ic,iB,b2,fN⟩:=kY g n v bG a2 b a3;exact⟨g,ic,iB,b1,b2,fN⟩))⟩
  ⟨zW.trans h.fr.os,K2.trans h.fr.tape,KO.trans h.fr.output,by rw[ep];exact h.fr.size,fun j af hm=>?_,fun b i bm=>?_,h.fr.fresh,h.fr.obj,h.fr.obn,fun m n u hm=>DL (h.fr.row m n u hm) (fun n u=>ax.ow _ n u trivial),h.fr.obr,h.fr.trd,fun k j b ae=>⟨(h.fr.trb k j b ae).1,by rw[ep];exact(h.fr.trb k j b ae).2⟩,fun bH j b ae=>?_,fun b o bm=>(ax.sh b o (h.fr.keep b o bm).1).trans (h.fr.sh b o bm)⟩ (fun m hm=>?_),ax,?_⟩
 ·obtain⟨b,ch,fZ,g1,g2,g3,g4,g5⟩:=h.good.box j eT af;have cH:b≠bl:=fun e=>h.good.obx k j o.n _ bl (by simp[ad]) (by simp[af]) aK oQ (by rw[←e];exact g1);exact⟨b,ch,fZ,g1,g2,g3,by rw[nu b cH];exact g4,qn ax g5⟩
 ·simp only at de;rw[jc]at de;by_cases e:k=g
  ·rw[if_pos e]at de;cases de;subst e;refine⟨v',us,by simp[bf.withOwn],lK,fun b ae=>?_,fun ys aG=>?_⟩
   ·rw[F9]at ae;cases ae;exact⟨(b0 bl oQ).1,fun j bm=>absurd bm (u9 bl oQ j)⟩
   ·simp only[dM]at aG;subst aG;exact⟨rfl,A3 ax ay,fun b ae=>by rw[F9]at ae;cases ae;exact u9 bl oQ⟩
  ·rw[if_neg e]at de;obtain⟨v0,fC,ak,aC,bk,dg⟩:=h.good.own g o' de;have cH:∀b,v0.ownBlock=some b→b≠bl:=fun b ae Js=>e (h.good.oinj k g o.n o'.n _ v0 bl (by simp[ad]) (by simp[de]) aK ak oQ (by rw[←Js];exact ae));refine⟨v0,fC,by simp[bf.withOwn,k8 e,ak],⟨aC.1,?_⟩,bk,sj ax (fun _ _ _ h=>h) dg⟩;rcases aC.2 with aC|⟨bb,E5,mv,f1,f2,f3,f4⟩
   ·exact .inl aC
   ·exact .inr ⟨bb,E5,mv,f1,f2,by rw[nu bb (cH bb (by rw[f1];rfl))];exact f3,f4⟩
 ·obtain⟨bG,ic,iB,a2,a3⟩:=kY g n u J ar b b4;obtain⟨b1,fW,jD,b2,fN⟩:=kY e9 n' fe U a8 b dd;exact h.good.oinj g e9 ic fW iB jD b bG b1 a2 b2 a3 fN
 ·obtain⟨bG,ic,iB,a2,a3⟩:=kY g n u J ar b a8;exact h.good.obx g j ic iB b bG U a2 a3 b4
 ·by_cases e:j=k
  ·subst e;rcases h.good.one j with J|J
   ·exact .inl J
   ·rw[J]at aK;cases aK
  ·rcases h.good.one j with J|J
   ·exact .inl J
   ·exact .inr (by simp[bf.withOwn,e,J])
 ·rw[nu j fun e=>by subst e;exact(b0 j oQ).1.elim hm (fun g2=>by omega)];exact h.fr.block j af hm
 ·obtain⟨aP,a6⟩:=h.fr.keep b i bm;exact⟨aP,(ax.A b i aP).2.trans a6⟩
 ·obtain⟨t1,t2⟩:=h.fr.trn bH j b ae;have cH:bH≠k:=fun e=>by subst e;rw[t2]at aK;cases aK
  exact⟨t1,by simp[bf.withOwn,cH,t2]⟩
 ·obtain⟨aP,a6,bR⟩:=h.new m hm;refine⟨aP,?_,bR⟩;have:m≠k:=fun e=>by subst e;rw[a6]at aK;cases aK
  simp[bf.withOwn,this,a6]
 ·intro eV;simp only[ba];obtain⟨cap,Kz⟩:=Wd lK F9;exact⟨⟨bl,cap,Kz⟩,eV,xs'.length,v',by simp[bf.withOwn],eY _,fun _=>rfl⟩
theorem cR.inPlace{C:fh}{st:bs}{a:Act}{w:World}{ν:bf}(h:cR C st a w ν){k:aH}{o:fL}(ad:look k st.e=some o){bl cap:Nat}{cur:Array Value}(aK:ν.ow k=some (o.n,.slice (some ⟨bl,0,none⟩) o.n cap))
  (xK:w.heap[bl]? =some (.cells cur o.el (0,0))) (zG:cap≤maxLen) (ep:cur.size=cap*o.sz) {xs ys:List ah} {us ns:List Value} (kl:xs.length=o.n) (qW:cur.toList.take (o.n*o.sz)=us) (ay:dH w ν o.sz xs us) (oI:dH w ν o.sz ys ns)
  (fy:0<ys.length) (rW:o.n+ys.length≤cap) (eV:xs.length+ys.length≤lim):
  cR C {st with e:=cB k ⟨o.n+ys.length,o.el,o.sz,none⟩ st.e} a (w.setRow bl (us++ns++cur.toList.drop (o.n*o.sz+ns.length)).toArray)
   (ν.withRowOf k (.slice (some ⟨bl,0,none⟩) (o.n+ys.length) cap) (o.n+ys.length) ((o.n+ys.length)*o.sz))∧
  ba (w.setRow bl (us++ns++cur.toList.drop (o.n*o.sz+ns.length)).toArray) (ν.withRowOf k (.slice (some ⟨bl,0,none⟩) (o.n+ys.length) cap) (o.n+ys.length) ((o.n+ys.length)*o.sz))
   (.slice o.sz (.own k) (xs++ys)) (.slice (some ⟨bl,0,none⟩) (o.n+ys.length) cap):=by
 have jO:=tC oI;have rY:=tC ay;rw[kl]at rY;have hmul:(o.n+ys.length)*o.sz≤cap*o.sz:=Nat.mul_le_mul_right _ rW;rw[pV]at hmul;obtain⟨v0,fC,a7,bF,b0,_⟩:=h.good.own k o ad;rw[aK]at a7;cases a7;obtain⟨cZ,df⟩:=b0 bl rfl;generalize Ac:w.setRow bl (us++ns++cur.toList.drop (o.n*o.sz+ns.length)).toArray=w';have nu:∀j,j≠bl→w'.heap[j]? =w.heap[j]?:=fun j af=>by rw[←Ac];exact setRow_other w bl j _ af
 have kB:w'.heap[bl]? =some (.cells (us++ns++cur.toList.drop (o.n*o.sz+ns.length)).toArray o.el (0,0)):=by rw[←Ac];exact setRow_heap w bl cur _ o.el _ xK
 have KY:w'.heap.size=w.heap.size:=by rw[←Ac];exact setRow_size w bl _
 have qO:∀j,j<o.n*o.sz→w'.cell? ⟨bl,j,none⟩=w.cell? ⟨bl,j,none⟩:=by intro j af;simp only[World.cell?,kB,xK,ht,hb,if_false];rw[List.getElem?_toArray,List.append_assoc,List.getElem?_append_left (by omega),←qW,List.getElem?_take,if_pos af];simp
 have ax:ly w ν w' (ν.withRowOf k (.slice (some ⟨bl,0,none⟩) (o.n+ys.length) cap) (o.n+ys.length) ((o.n+ys.length)*o.sz)):=by
  refine⟨fun b j bm=>⟨.inl bm,?_⟩,fun j b _ af=>af,fun g n u _ iZ=>?_,fun b j bm=>?_,fun _ _ _ _ h=>h⟩;rotate_left 2
  ·by_cases e:b=bl
   ·subst e;simp only[shape,kB,xK,List.size_toArray,pS,sC,Array.length_toList];congr 2;omega
   ·exact wV (nu b e)
  ·by_cases e:b=bl
   ·subst e;exact qO j (df j bm)
   ·exact World.cell?_of_block (nu b e)
  ·by_cases e:g=k
   ·subst e;rw[aK]at iZ;cases iZ;exact⟨o.n+ys.length,.slice (some ⟨bl,0,none⟩) (o.n+ys.length) cap,by simp[bf.withRowOf],.inr (by omega)⟩
   ·exact⟨n,u,by simp[bf.withRowOf,e,iZ],.inl ⟨rfl,rfl⟩⟩
 have kY:∀g,(look g (cB k ⟨o.n+ys.length,o.el,o.sz,none⟩ st.e)).isSome→g=k∨(g≠k∧(look g st.e).isSome∧(ν.withRowOf k (.slice (some ⟨bl,0,none⟩) (o.n+ys.length) cap) (o.n+ys.length) ((o.n+ys.length)*o.sz)).ow g=ν.ow g):=by
  intro g kA;by_cases e:g=k
  ·exact .inl e
  ·rw[jc,if_neg (k8 e)]at kA;exact .inr ⟨e,kA,by simp[bf.withRowOf,e]⟩
 have aqi:bl<w.heap.size:=(Array.getElem?_eq_some_iff.1 xK).1;have afo:∀j u,(us++ns)[j]? =some u→w'.cell? ⟨bl,j,none⟩=some u:=by intro j u af;have zO:=(fV.1 af).1;simp only[World.cell?,kB,ht,hb,if_false];rw[List.getElem?_toArray,List.getElem?_append_left zO];exact af
 refine⟨h.over ax rfl ⟨fun b j bm=>?_,fun j eT af=>?_,h.good.inj,fun g o' de=>?_,fun g e9 n n' u fe b J U ar a8 b4 dd=>?_,fun g j n u b J U ar a8 b4=>?_,fun j=>?_,fun b ae=>h.good.otr b ?_⟩
  ⟨by rw[←Ac];exact h.fr.os,by rw[←Ac];exact h.fr.tape,by rw[←Ac];exact h.fr.output,by rw[KY];exact h.fr.size,fun j af hm=>?_,fun b j bm=>?_,fun b j bm=>?_,h.fr.obj,h.fr.obn,fun m n u hm=>DL (h.fr.row m n u hm) (fun n u=>ax.ow _ n u trivial),h.fr.obr,h.fr.trd,fun k j b ae=>⟨(h.fr.trb k j b ae).1,by rw[KY];exact(h.fr.trb k j b ae).2⟩,fun bH j b ae=>?_,fun b o bm=>(ax.sh b o (h.fr.keep b o bm).1).trans (h.fr.sh b o bm)⟩ (fun m hm=>?_),?_⟩
 ·rw[KY];rcases bm with bm|⟨bm,_⟩
  ·exact h.good.alt b j bm
  ·simp only[oh,dM]at bm;omega
 ·obtain⟨b,ch,fZ,g1,g2,g3,g4,g5⟩:=h.good.box j eT af;have cH:b≠bl:=fun e=>h.good.obx k j o.n _ bl (by simp[ad]) (by simp[af]) aK rfl (by rw[←e];exact g1);refine⟨b,ch,fZ,g1,g2,fun i bm=>?_,by rw[nu b cH];exact g4,qn ax g5⟩;rcases bm with bm|⟨bm,_⟩
  ·exact g3 i bm
  ·simp only[oh,dM]at bm;exact cH bm.symm
 ·simp only at de;rw[jc]at de;by_cases e:k=g
  ·rw[if_pos e]at de;cases de;subst e;refine⟨.slice (some ⟨bl,0,none⟩) (o.n+ys.length) cap,us++ns,by simp[bf.withRowOf],⟨by rw[pS,rY,jO,pV],.inr ⟨bl,cap,_,rfl,Nat.zero_le _,kB,rW,zG,?_,?_⟩⟩,fun b ae=>⟨?_,fun j bm=>?_⟩,fun ys aG=>by cases aG⟩
   ·simp only[List.size_toArray,pS,sC,Array.length_toList];omega
   ·have aw:(us++ns).length=(o.n+ys.length)*o.sz:=by rw[pS,rY,jO,pV]
    simp only[←aw];rw[List.take_append_of_le_length (eY _),mn]
   ·simp only[oh,dM]at ae;subst ae;exact cZ
   ·simp only[oh,dM]at ae;subst ae;rcases bm with bm|⟨_,bm⟩
    ·have:=df j bm;simp only;rw[pV];omega
    ·exact bm
  ·rw[if_neg e]at de;obtain⟨v0,fC,ak,aC,bk,dg⟩:=h.good.own g o' de;have cH:∀b,v0.ownBlock=some b→b≠bl:=fun b ae Js=>e (h.good.oinj k g o.n o'.n _ v0 bl (by simp[ad]) (by simp[de]) aK ak rfl (by rw[←Js];exact ae));have vN:∀b,v0.ownBlock=some b→∀j,(ν.withRowOf k (.slice (some ⟨bl,0,none⟩) (o.n+ys.length) cap) (o.n+ys.length) ((o.n+ys.length)*o.sz)).A b j→ν.A b j:=fun b ae j bm=>by
    rcases bm with bm|⟨bm,_⟩
    ·exact bm
    ·simp only[oh,dM]at bm;exact absurd bm.symm (cH b ae)
   refine⟨v0,fC,by simp[bf.withRowOf,k8 e,ak],⟨aC.1,?_⟩,fun b ae=>⟨(bk b ae).1,fun j bm=>(bk b ae).2 j (vN b ae j bm)⟩,sj ax vN dg⟩;rcases aC.2 with aC|⟨bb,E5,mv,f1,f2,f3,f4⟩
   ·exact .inl aC
   ·exact .inr ⟨bb,E5,mv,f1,f2,by rw[nu bb (cH bb (by rw[f1];rfl))];exact f3,f4⟩
 ·rcases kY g J with rfl|⟨ic,fW,jn⟩<;>rcases kY e9 U with rfl|⟨m1,m2,m3⟩
  ·rfl
  ·exfalso;simp only[bf.withRowOf,if_true,dM,jF]at ar;rw[m3]at a8;rw[←ar.2]at b4;simp only[oh,dM]at b4;subst b4;exact m1 (h.good.oinj e9 g n' o.n fe _ bl m2 (by simp[ad]) a8 aK dd rfl)
  ·exfalso;simp only[bf.withRowOf,if_true,dM,jF]at a8;rw[jn]at ar;rw[←a8.2]at dd;simp only[oh,dM]at dd;subst dd;exact ic (h.good.oinj g e9 n o.n u _ bl fW (by simp[ad]) ar aK b4 rfl)
  ·rw[jn]at ar;rw[m3]at a8;exact h.good.oinj g e9 n n' u fe b fW m2 ar a8 b4 dd
 ·rcases kY g J with rfl|⟨ic,fW,jn⟩
  ·simp only[bf.withRowOf,if_true,dM,jF]at ar;rw[←ar.2]at a8;simp only[oh,dM]at a8;subst a8;exact h.good.obx g j o.n _ bl (by simp[ad]) U aK rfl b4
  ·rw[jn]at ar;exact h.good.obx g j n u b fW U ar a8 b4
 ·by_cases e:j=k
  ·subst e;rcases h.good.one j with J|J
   ·exact .inl J
   ·rw[J]at aK;cases aK
  ·rcases h.good.one j with J|J
   ·exact .inl J
   ·exact .inr (by simp[bf.withRowOf,e,J])
 ·rcases ae with ae|⟨g,n,u,bG,a2,a3⟩
  ·exact .inl ae
  ·rcases kY g bG with rfl|⟨ic,fW,jn⟩
   ·simp only[bf.withRowOf,if_true,dM,jF]at a2;rw[←a2.2]at a3;exact .inr ⟨g,_,_,by simp[ad],aK,a3⟩
   ·exact .inr ⟨g,n,u,fW,by rw[←jn];exact a2,a3⟩
 ·rw[nu j fun e=>by subst e;exact cZ.elim hm (fun g2=>by omega)];exact h.fr.block j af hm
 ·obtain⟨aP,a6⟩:=h.fr.keep b j bm;exact⟨.inl aP,(ax.A b j aP).2.trans a6⟩
 ·rcases bm with bm|⟨bm,_⟩
  ·exact h.fr.fresh b j bm
  ·simp only[oh,dM]at bm;subst bm;exact .inr cZ
 ·obtain⟨t1,t2⟩:=h.fr.trn bH j b ae;have cH:bH≠k:=fun e=>by subst e;rw[t2]at aK;cases aK
  exact⟨t1,by simp[bf.withRowOf,cH,t2]⟩
 ·obtain⟨aP,a6,bR⟩:=h.new m hm;refine⟨aP,?_,bR⟩;have:m≠k:=fun e=>by subst e;rw[a6]at aK;cases aK
  simp[bf.withRowOf,this,a6]
 ·simp only[ba];refine⟨⟨some ⟨bl,0,none⟩,cap,by simp[kl],by simp;omega,⟨zG,by simpa using eV⟩,.inr ⟨bl,0,us++ns,rfl,Lz _ 0 fun j u af=>?_,DF (A3 ax ay) (A3 ax oI)⟩⟩,fun e=>(by cases e),fun g e=>?_,fun _ _ e=>(by cases e),fun _ e=>(by cases e)⟩
  ·have zO:=(fV.1 af).1;rw[Nat.zero_add];refine⟨.inr ⟨rfl,?_⟩,afo j u af⟩;rw[pS,rY,jO]at zO;rw[pV];exact zO
  ·cases e;exact⟨o.n+ys.length,.slice (some ⟨bl,0,none⟩) (o.n+ys.length) cap,by simp[bf.withRowOf],by simp[kl],fun _=>rfl⟩
theorem HN{P:cF}{w:World}{t ty e:gm}{i:TypeInfo}(aL:P.underlying t=some (.slice e))(hi:P.info? e=some i)(b:Option Addr)(n cap:Nat)(au:n≤cap)(x:Option Addr)(c:Nat):
  (Builtin.append_ #[t,t] ty #[.slice b n cap,.slice x 0 c]).run P w= .ok (.slice b n cap) w:=by
 cases b<;>cases x<;>simp[Builtin.append_,run_underlying aL,sizeOf,typeInfo,hi,Builtin.lenOf,au,Builtin.firstCells,loadCells,loadCellsFrom,storeCells]
inductive ev where
 |v (d:Nat) (i:fY)
 |box (d:Nat) (key:Option Nat) (x:dz)
 |alloc (d:Nat) (key:Option Nat) (zero:ah)
 |store (sz:Nat) (x y:dz)
 |bsl (d:Nat) (sz el:Nat) (xs:List dz)
 |app (d:Nat) (sz el:Nat) (x y:dz)
 |bslm (d:Nat) (key:Option Nat) (sz el:Nat) (xs:List dz)
 |appm (d:Nat) (key:Option Nat) (sz el:Nat) (x y:dz)
 |mkmap (d:Nat) (key:Option Nat)
 |mput (cf:jH) (x k v:dz)
 |range (d:Nat) (key:Option Nat) (x:dz)
 |storeE (sz:Nat) (x y:dz)
 |mks (d:Nat) (key:Option Nat) (sz el:Nat) (z:ah) (x:dz)
def jT(st:bs):Option Nat→aH
 |none=>.loc st.n
 |some m=>.obj m
def qe(st:bs):Option Nat→Prop
 |none=>.loc st.n∉st.o
 |some m=>.obj m∉st.o
def nB(st:bs):Option Nat→Nat
 |none=>st.n+1
 |some _=>st.n
def nC(st:bs):Option Nat→List aH
 |none=>st.o
 |some m=>.obj m::st.o
theorem wF{st:bs}{key:Option Nat}(h:qe st key):fresh st.n st.o (jT st key):=by cases key<;>simp[jT,fresh,qe]at h⊢ <;>exact h
theorem wG{st:bs}{key:Option Nat}:∀j,fresh (nB st key) (nC st key) j→fresh st.n st.o j∧j≠jT st key:=by
 intro j af;cases key<;>cases j<;>simp[fresh,nB,nC,jT]at af⊢
 ·exact⟨⟨by omega,af.2⟩,by omega⟩
 ·exact af
 ·exact af
 ·exact⟨af.2,af.1⟩
def sG(sz:Nat):List ah→Prop
 |[]=>True
 |p::cm=>(ei p=true∧(cells p).length=sz)∧sG sz cm
def oW(cf:jH)(k v:ah):List ah→Option (List ah)
 | .hdm clock borns::kvs=>if uQ cf k=false then none else match u2 cf k v kvs with
  |some (some wA)=>some (.hdm clock borns::wA)
  |some none=>some (.hdm (clock+1) (borns++[clock])::(kvs++[k,v]))
  |none=>none
 |_=>none
def wS(m:aH):List ah→Option (List ah)
 | .hdm clock _::_=>some [.hdi clock [] clock,.gmap m]
 |_=>none
def sH(st:bs)(sz el:Nat)(x y:ah):Option ((Option (aH×List ah))×List ah):=
 match x,y with
 | .slice dL .nil _,.slice jr _ ys=>if dL=sz∧jr=sz then some (none,ys)else none
 | .row dL k n,.slice jr _ ys=>if dL=sz∧jr=sz then
   match look k st.e with
   |some ⟨n',fZ,wY,some xs⟩=>if n'=n∧fZ=el∧wY=sz then some (some (k,xs),ys)else none
   |_=>none
  else none
 |_,_=>none
def mP:ah→Nat→List ah→ah
 | .agg eT,f,cs=>.agg (n7 eT f cs)
 |_,_,[q]=>q
 |_,_,_=>.junk
def rb(st:bs)(sz:Nat)(p v:ah):Option (Prop×bs):=
 match p with
 | .rptr dL k n i f=>match look k st.e with
  |some ⟨n',el,jr,some xs⟩=>if n'=n∧jr=dL then
    match xs[i]? with
    |some q=>some (ei q=true∧ei v=true∧(cells v).length=sz∧f+sz≤(cells q).length∧0<sz,{st with e:=cB k ⟨n',el,jr,some (xs.set i (mP q f (cells v)))⟩ st.e})
    |none=>none
   else none
  |_=>none
 |_=>none
def mi(st:bs):ev→Option (Prop×bs)
 | .mks d key sz el z x=>match cu st.t x with
  | .int _ n=>some (qe st key∧0≤n∧n≤lim,
    {t:=put d (.row sz (jT st key) n.toNat) st.t,b:=st.b,e:=cB (jT st key) ⟨n.toNat,el,sz,some (rj n.toNat z)⟩ st.e,n:=nB st key,o:=nC st key})
  |_=>none
 | .bslm d key sz el xs=>some (qe st key∧sG sz (xs.map (cu st.t)),
   {t:=put d (.row sz (jT st key) xs.length) st.t,b:=st.b,e:=cB (jT st key) ⟨xs.length,el,sz,some (xs.map (cu st.t))⟩ st.e,n:=nB st key,o:=nC st key})
 | .appm d key sz el x y=>match sH st sz el (cu st.t x) (cu st.t y)with
  |some (none,ys)=>some (qe st key∧ys.length≤lim∧ys≠[],
    {t:=put d (.row sz (jT st key) ys.length) st.t,b:=st.b,e:=cB (jT st key) ⟨ys.length,el,sz,some ys⟩ st.e,n:=nB st key,o:=nC st key})
  |some (some (k,xs),ys)=>some (xs.length+ys.length≤lim,{st with t:=put d (.row sz k (xs.length+ys.length)) st.t,e:=cB k ⟨xs.length+ys.length,el,sz,some (xs++ys)⟩ st.e})
  |none=>none
 | .mkmap d key=>some (qe st key,{t:=put d (.gmap (jT st key)) st.t,b:=cB (jT st key) [.hdm 0 []] st.b,e:=st.e,n:=nB st key,o:=nC st key})
 | .mput cf x k v=>match cu st.t x with
  | .gmap m=>match look m st.b with
   |some cs=>match oW cf (cu st.t k) (cu st.t v) cs with
    |some cs'=>some (True,{st with b:=cB m cs' st.b})
    |none=>none
   |none=>none
  |_=>none
 | .range d key x=>match cu st.t x with
  | .gmap m=>match look m st.b with
   |some cs=>match wS m cs with
    |some cs'=>some (qe st key,{t:=put d (.ptr (jT st key) 0) st.t,b:=cB (jT st key) cs' st.b,e:=st.e,n:=nB st key,o:=nC st key})
    |none=>none
   |none=>none
  |_=>none
 | .v d i=>match hp st i with
  |some (c,p)=>some (c,{st with t:=put d p st.t})
  |none=>none
 | .storeE sz x y=>rb st sz (cu st.t x) (cu st.t y)
 | .box d key x=>some (qe st key∧ei (cu st.t x)=true,
   {t:=put d (.ptr (jT st key) 0) st.t,b:=cB (jT st key) (cells (cu st.t x)) st.b,e:=st.e,n:=nB st key,o:=nC st key})
 | .alloc d key z=>some (qe st key,{t:=put d (.ptr (jT st key) 0) st.t,b:=cB (jT st key) (cells z) st.b,e:=st.e,n:=nB st key,o:=nC st key})
 | .store sz x y=>match cu st.t x with
  | .ptr k off=>match look k st.b with
   |some cs=>some (h2 cs=true∧ei (cu st.t y)=true∧(cells (cu st.t y)).length=sz∧off+sz≤cs.length,{st with b:=cB k (n7 cs off (cells (cu st.t y))) st.b})
   |none=>none
  |p=>rb st sz p (cu st.t y)
 | .bsl d sz el xs=>some (qe st none∧sG sz (xs.map (cu st.t)),
   {st with t:=put d (.slice sz (.own (.loc st.n)) (xs.map (cu st.t))) st.t,e:=cB (.loc st.n) ⟨xs.length,el,sz,none⟩ st.e,n:=st.n+1})
 | .app d sz el x y=>match cu st.t x,cu st.t y with
  | .slice dL tag xs,.slice jr _ ys=>if dL=sz∧jr=sz then
    match tag with
    | .own k=>match look k st.e with
     |some o=>some (o.n=xs.length∧o.el=el∧o.sz=sz∧xs.length+ys.length≤lim,
       {st with t:=put d (.slice sz (.own k) (xs++ys)) st.t,e:=cB k ⟨xs.length+ys.length,el,sz,none⟩ st.e})
     |none=>none
    | .nil=>some (qe st none∧ys.length≤lim,{st with t:=put d (.slice sz (.own (.loc st.n)) ys) st.t,e:=cB (.loc st.n) ⟨ys.length,el,sz,none⟩ st.e,n:=st.n+1})
    |_=>none
   else none
  |_,_=>none
def eK(κ:aH)(n':Nat)(o':List aH)(st:bs):ev→Option (Prop×bs)
 | .mks d _ sz el z x=>match cu st.t x with
  | .int _ n=>some (0≤n∧n≤lim,
    {t:=put d (.row sz κ n.toNat) st.t,b:=st.b,e:=cB κ ⟨n.toNat,el,sz,some (rj n.toNat z)⟩ st.e,n:=n',o:=o'})
  |_=>none
 | .bslm d _ sz el xs=>some (sG sz (xs.map (cu st.t)),
   {t:=put d (.row sz κ xs.length) st.t,b:=st.b,e:=cB κ ⟨xs.length,el,sz,some (xs.map (cu st.t))⟩ st.e,n:=n',o:=o'})
 | .appm d _ sz el x y=>match sH st sz el (cu st.t x) (cu st.t y)with
  |some (none,ys)=>some (ys.length≤lim∧ys≠[],
    {t:=put d (.row sz κ ys.length) st.t,b:=st.b,e:=cB κ ⟨ys.length,el,sz,some ys⟩ st.e,n:=n',o:=o'})
  |some (some (k,xs),ys)=>some (xs.length+ys.length≤lim,{st with t:=put d (.row sz k (xs.length+ys.length)) st.t,e:=cB k ⟨xs.length+ys.length,el,sz,some (xs++ys)⟩ st.e})
  |none=>none
 | .mkmap d _=>some (True,{t:=put d (.gmap κ) st.t,b:=cB κ [.hdm 0 []] st.b,e:=st.e,n:=n',o:=o'})
 | .mput cf x k v=>match cu st.t x with
  | .gmap m=>match look m st.b with
   |some cs=>match oW cf (cu st.t k) (cu st.t v) cs with
    |some cs'=>some (True,{st with b:=cB m cs' st.b})
    |none=>none
   |none=>none
  |_=>none
 | .range d _ x=>match cu st.t x with
  | .gmap m=>match look m st.b with
   |some cs=>match wS m cs with
    |some cs'=>some (True,{t:=put d (.ptr κ 0) st.t,b:=cB κ cs' st.b,e:=st.e,n:=n',o:=o'})
    |none=>none
   |none=>none
  |_=>none
 | .v d i=>match hp st i with
  |some (c,p)=>some (c,{st with t:=put d p st.t})
  |none=>none
 | .storeE sz x y=>rb st sz (cu st.t x) (cu st.t y)
 | .box d _ x=>some (ei (cu st.t x)=true,{t:=put d (.ptr κ 0) st.t,b:=cB κ (cells (cu st.t x)) st.b,e:=st.e,n:=n',o:=o'})
 | .alloc d _ z=>some (True,{t:=put d (.ptr κ 0) st.t,b:=cB κ (cells z) st.b,e:=st.e,n:=n',o:=o'})
 | .store sz x y=>match cu st.t x with
  | .ptr k off=>match look k st.b with
   |some cs=>some (h2 cs=true∧ei (cu st.t y)=true∧(cells (cu st.t y)).length=sz∧off+sz≤cs.length,{st with b:=cB k (n7 cs off (cells (cu st.t y))) st.b})
   |none=>none
  |p=>rb st sz p (cu st.t y)
 | .bsl d sz el xs=>some (sG sz (xs.map (cu st.t)),
   {st with t:=put d (.slice sz (.own κ) (xs.map (cu st.t))) st.t,e:=cB κ ⟨xs.length,el,sz,none⟩ st.e,n:=n',o:=o'})
 | .app d sz el x y=>match cu st.t x,cu st.t y with
  | .slice dL tag xs,.slice jr _ ys=>if dL=sz∧jr=sz then
    match tag with
    | .own k=>match look k st.e with
     |some o=>some (o.n=xs.length∧o.el=el∧o.sz=sz∧xs.length+ys.length≤lim,
       {st with t:=put d (.slice sz (.own k) (xs++ys)) st.t,e:=cB k ⟨xs.length+ys.length,el,sz,none⟩ st.e})
     |none=>none
    | .nil=>some (ys.length≤lim,{st with t:=put d (.slice sz (.own κ) ys) st.t,e:=cB κ ⟨ys.length,el,sz,none⟩ st.e,n:=n',o:=o'})
    |_=>none
   else none
  |_,_=>none
def wK:Nat→List dz→List (Nat×Operand)→Bool
 |_,[],[]=>true
 |i,x::xs,(j,o)::os=>i==j&&er x o&&wK (i+1) xs os
 |_,_,_=>false
def DN(N:Nat)(bC:List (Nat×dI))(i:ev)(o:Oper):Bool:=
 match i,o.op with
 | .mkmap d _,.makeMap _ none=>o.dst==some d&&decide (d<N)
 | .mput cf x k v,.mapUpdate t gG gD oX=>o.dst==none&&(match eg bC t with|some ⟨_,_,.map mL _,_⟩=>yc bC cf mL|_=>false)&&er x gG&&er k gD&&er v oX
 | .mput cf x k v,.insert t gG gD oX=>o.dst==none&&(match eg bC t with|some ⟨_,_,.map mL _,_⟩=>yc bC cf mL|_=>false)&&er x gG&&er k gD&&er v oX
 | .range d _ x,.range t gG=>o.dst==some d&&decide (d<N)&&(match eg bC t with|some ⟨_,_,.map _ _,_⟩=>true|_=>false)&&er x gG
 | .v d i,op=>o.dst==some d&&decide (d<N)&&D5 bC i op
 | .box d _ x,.box _ o'=>o.dst==some d&&decide (d<N)&&er x o'
 | .alloc d _ z,.alloc el=>o.dst==some d&&decide (d<N)&&(match eg bC el with|some f=>Bq z f.zero|none=>false)
 | .store sz x y,.store t o' jo=>o.dst==none&&(match eg bC t with|some f=>f.size==sz|none=>false)&&er x o'&&er y jo
 | .bsl d sz el xs,.buildSlice t len parts=>o.dst==some d&&decide (d<N)&&(match eg bC t with|some ⟨_,_,.slice fZ,_⟩=>el==fZ|_=>false)&&(match eg bC el with|some f=>f.size==sz&&decide (0<sz)|none=>false)
   &&len==xs.length&&decide (len*sz≤16777216)&&wK 0 xs parts.toList
 | .app d sz el x y,.call ⟨.builtin .append,⟨[o',jo]⟩,⟨[t,dE]⟩⟩=>o.dst==some d&&decide (d<N)&&t==dE&&(match eg bC t with|some ⟨_,_,.slice fZ,_⟩=>el==fZ|_=>false)
   &&(match eg bC el with|some f=>f.size==sz&&decide (0<sz)&&decide (f.bytes≤2048)|none=>false)&&er x o'&&er y jo
 | .bslm d _ sz el xs,.buildSlice t len parts=>o.dst==some d&&decide (d<N)&&(match eg bC t with|some ⟨_,_,.slice fZ,_⟩=>el==fZ|_=>false)&&(match eg bC el with|some f=>f.size==sz&&decide (0<sz)|none=>false)
   &&len==xs.length&&decide (len*sz≤16777216)&&wK 0 xs parts.toList
 | .appm d _ sz el x y,.call ⟨.builtin .append,⟨[o',jo]⟩,⟨[t,dE]⟩⟩=>o.dst==some d&&decide (d<N)&&t==dE&&(match eg bC t with|some ⟨_,_,.slice fZ,_⟩=>el==fZ|_=>false)
   &&(match eg bC el with|some f=>f.size==sz&&decide (0<sz)&&decide (f.bytes≤2048)|none=>false)&&er x o'&&er y jo
 | .storeE sz x y,.store t o' jo=>o.dst==none&&(match eg bC t with|some f=>f.size==sz|none=>false)&&er x o'&&er y jo
 | .mks d _ sz el z x,.makeSlice t o' jo=>o.dst==some d&&decide (d<N)&&(match eg bC t with|some ⟨_,_,.slice fZ,_⟩=>el==fZ|_=>false)
   &&(match eg bC el with|some f=>f.size==sz&&decide (0<sz)&&decide (f.bytes≤2048)&&Bq z f.zero|none=>false)&&er x o'&&er x jo
 |_,_=>false
theorem XB{w:World}{ν:bf}{C:fh}{st:bs}{a:Act}(aM:cR C st a w ν){sz:Nat}:
  ∀(xs:List dz) (i:Nat) (os:List (Nat×Operand)) (pre:List ah) (us:Array Value) (be:List Value),wK i xs os=true→sG sz (xs.map (cu st.t))→us.toList.take (i*sz)=be→dH w ν sz pre be→i=pre.length→us.size=(i+xs.length)*sz→
  ∃ch:Array Value,Instr.fill (fun i=>some (i*sz,sz)) us (os.map fun(x:Nat×Operand)=>(x.1,a.eval x.2))=some ch∧dH w ν sz (pre++xs.map (cu st.t)) ch.toList∧ch.size=us.size
 |[],i,[],pre,us,be,_,_,aK,h,hi,ag=>by refine⟨us,by simp[Instr.fill],?_,rfl⟩;have aw:=tC h;have:us.toList.take (i*sz)=us.toList:=hD (by simp at ag⊢;omega);rw[this]at aK;simpa[aK]using h
 |[],_,_::_,_,_,_,eJ,_,_,_,_,_=>by simp[wK]at eJ
 |_::_,_,[],_,_,_,eJ,_,_,_,_,_=>by simp[wK]at eJ
 |x::xs,i,(j,o)::os,pre,us,be,eJ,br,aK,h,hi,ag=>by
  simp only[wK,cE,dS]at eJ;obtain⟨⟨rfl,J⟩,U⟩:=eJ;simp only[gS,sG]at br;obtain⟨⟨lh,hlen⟩,br⟩:=br;have ab:=et aM J;have lH:=vf ab lh;have zH:=pP lH;have di:(a.eval o).cells.size=sz:=by rw[hlen]at zH;simpa using zH
  have hmul:i*sz+sz≤us.size:=by rw[ag,pT,show i+(xs.length+1)=(i+1)+xs.length from by omega,pV,Nat.succ_mul];omega
  have x2:=JX (w:=w) (ν:=ν) (a.eval o).cells.toList 0 (i*sz) us (by simp[di];omega);have jQ:dH w ν sz (pre++[cu st.t x]) (be++(a.eval o).cells.toList):=by refine DF h ?_;simp only[dH];exact⟨a.eval o,[],by simp,⟨ab,di,A5 lH⟩,rfl⟩
  have oR:be.length=i*sz:=by rw[←aK];simp;omega
  obtain⟨ch,g1,g2,g3⟩:=XB aM xs (i+1) os (pre++[cu st.t x]) (((a.eval o).cells.toList.zipIdx 0).foldl (fun cs (x:Value×Nat)=>cs.setIfInBounds (i*sz+x.2) x.1) us) (be++(a.eval o).cells.toList) U br
   (by
    rw[x2];simp only[Nat.add_zero];rw[aK];have:(be++(a.eval o).cells.toList).length=(i+1)*sz:=by rw[pS,oR,Nat.succ_mul];simp[di]
    rw[←this,List.take_append_of_le_length (eY _),mn]) jQ (by simp[hi])
   (by have bD:=ff List.length x2;simp only[Array.length_toList,pS,List.length_take,sC,di]at bD;rw[bD,ag,pT,show i+(xs.length+1)=i+1+xs.length from by omega];rw[ag,pT,show i+(xs.length+1)=i+1+xs.length from by omega]at hmul;omega)
  refine⟨ch,?_,by simpa using g2,?_⟩
  ·simp only[gS,Instr.fill];rw[if_neg (by simp[di];omega),←g1];congr 1;rw[←Array.foldl_toList];simp
  ·rw[g3];have bD:=ff List.length x2;simp only[Array.length_toList,pS,List.length_take,sC,di]at bD;rw[bD];omega
theorem mm{P:cF}{o:Oper}{a:Act}{w w':World}{v:Value}{K:Act→World→Prop}{Q:Exit→Act→World→Prop}(h:(execOp a.eval o).run P w= .ok (.value v) w')(ad:K (a.put o.dst v) w'):o.wp P a w K Q:=by unfold Oper.wp;rw[h];exact ad
theorem Ee{P:cF}{o:Oper}{a:Act}{w w':World}{K:Act→World→Prop}{Q:Exit→Act→World→Prop}(h:(execOp a.eval o).run P w= .ok .skip w')(ad:K (a.put o.dst undef) w'):o.wp P a w K Q:=by unfold Oper.wp;rw[h];exact ad
theorem D9{P:cF}{w w':World}{x:Sem Value}{v:Value}(h:x.run P w= .ok v w'):(do pure (Next.value (←x)):Sem Next).run P w= .ok (.value v) w':=by simp[h]
theorem Xz{P:cF}{bC:List (Nat×dI)}(aL:fU P bC=true){C:fh}{st:bs}{a:Act}{w:World}{ν:bf}(aM:cR C st a w ν){t el:Nat}{f g:dI}(aI:eg bC t=some f)(ad:f.kind= .slice el)(aX:eg bC el=some g)
  {xs:List dz} {os:List (Nat×Operand)} (eJ:wK 0 xs os=true) (ep:sG g.size (xs.map (cu st.t))) (hlen:xs.length*g.size≤16777216):
  ∃us:Array Value,(Instr.buildSlice t xs.length (os.map fun(x:Nat×Operand)=>(x.1,a.eval x.2)).toArray).run P w= .ok (.slice (some ⟨w.heap.size,0,none⟩) xs.length xs.length) (w.alloc (.cells us el))∧
   dH w ν g.size (xs.map (cu st.t)) us.toList∧us.size=xs.length*g.size:=by
 obtain⟨d,aR,e4⟩:=je aL aI;rw[ad]at e4;obtain rfl:=sJ e4;obtain⟨_,ag⟩:=vm aL aX w;obtain⟨z,x6,aqy,aqz⟩:=NT aL aX w;have au:¬xs.length*g.size>2 ^ 24:=by omega
 let init:Array Value:=if xs.length*g.size=0 then(Array.range (xs.length*g.size)).map ((#[]:Array Value)[· %(#[]:Array Value).size]!)else(Array.range (xs.length*g.size)).map (z.cells[· %z.cells.size]!)
 have Tq:init.size=xs.length*g.size:=by simp only[init];split<;>simp
 obtain⟨ch,g1,g2,g3⟩:=XB (a:=a) aM xs 0 os [] init [] eJ ep (by simp) (by simp[dH]) rfl (by rw[Tq];simp);refine⟨ch,?_,by simpa using g2,by rw[g3,Tq]⟩;simp only[init]at g1;by_cases bD:xs.length*g.size=0
 ·rw[if_pos bD]at g1;rw[bD]at g1;have ae1:¬(0:Nat)>2 ^ 24:=by decide
  simp only[Instr.buildSlice,fJ,run_underlying aR,fR,ag,if_false,gu,bD,if_true,ae1,g1,newRow,run_newObj];rfl
 ·rw[if_neg bD]at g1;simp only[Instr.buildSlice,fJ,run_underlying aR,fR,ag,au,if_false,gu,bD,x6,g1,newRow,run_newObj];rfl
theorem Df{P:cF}{w:World}{ν:bf}{cf:jH}{t:gm}(aR:tT P cf t){k v:ah}{fG Oj:Value}(ad:ba w ν k fG)(aK:ba w ν v Oj):
  ∀(borns:List Nat) (kvs:List ah) (us:List Value) (i:Nat) (r:Option (List ah)),cM w ν kvs us→kvs.length=2*borns.length→u2 cf k v kvs=some r→
  match r with
  |none=>h7 P w cf t fG (fF borns us) i none
  |some wA=> ∃j u ch e,h7 P w cf t fG (fF borns us) i (some (i+j,u))∧cM w ν wA ch∧wA.length=kvs.length∧(fF borns us)[j]? =some e∧e.key=fG∧Instr.sameBits 10000 e.key fG=true∧fF borns ch=(fF borns us).modify j (fun e=>{e with key:=fG,val:=Oj})
 |[],[],us,i,r,h,_,hm=>by simp only[u2]at hm;cases hm;simp only[cM]at h;subst h;simpa[fF]using h7.nil P w cf t fG i
 |[],_::_,_,_,_,_,aw,_=>by simp at aw
 |b::eZ,[],_,_,_,_,aw,_=>by simp at aw
 |b::eZ,[_],_,_,_,_,aw,_=>by simp at aw;omega
 |b::eZ,bH::v'::kvs,us,i,r,h,aw,hm=>by
  simp only[cM]at h;obtain⟨iB,NY,rfl,J,jD,ss,rfl,U,ar⟩:=h;simp only[u2]at hm;simp only[fF];cases bh:te cf k bH with
  |none=>simp[bh]at hm
  |some bb=>
   obtain⟨s1,s2⟩:=UC aR ad J bh;simp only[bh]at hm;cases bb with
   |true=>simp only[dM]at hm;subst hm;obtain⟨rfl,s3⟩:=s2 rfl;refine⟨0,jD,iB::Oj::ss,⟨iB,jD,b⟩,h7.hit (e:=⟨iB,jD,b⟩) s1,?_,by simp,by simp,rfl,s3,by simp[fF]⟩;simp only[cM];exact⟨_,_,rfl,ad,_,_,rfl,aK,ar⟩
   |false=>
    simp only at hm;have bZ:=fun eS dp=>Df aR ad aK eZ kvs ss (i+1) eS ar (by simp at aw;omega) dp;split at hm
    ·rename_i eS dp;cases hm;obtain⟨j,u,ch,e,g1,g2,g3,g4,g5,g6,g7⟩:=bZ _ dp;refine⟨j+1,u,iB::jD::ch,e,h7.miss (e:=⟨iB,jD,b⟩) s1 (by rw[show i+(j+1)=i+1+j from by omega];exact g1),?_,by simp[g3],by simpa using g4,g5,g6,by simp[fF,g7]⟩;simp only[cM];exact⟨_,_,rfl,J,_,_,rfl,U,g2⟩
    ·rename_i dp;cases hm;exact h7.miss (e:=⟨iB,jD,b⟩) s1 (bZ _ dp)
    ·cases hm
theorem Jw:∀(borns:List Nat) (us:List Value) (b:Nat) (k v:Value),us.length=2*borns.length→fF (borns++[b]) (us++[k,v])=fF borns us++[⟨k,v,b⟩]
 |[],us,b,k,v,h=>by have:us=[]:=List.eq_nil_of_length_eq_zero (by simpa using h);subst this;simp[fF]
 |bP::eZ,[],b,k,v,h=>by simp at h
 |bP::eZ,[_],b,k,v,h=>by simp at h;omega
 |bP::eZ,bH::v'::us,b,k,v,h=>by simp only[bX,fF,Jw eZ us b k v (by simp at h;omega)]
theorem Nd{w:World}{ν:bf}:∀{cm bz:List ah} {be us:List Value},cM w ν cm be→cM w ν bz us→cM w ν (cm++bz) (be++us)
 |[],bz,be,us,h,cx=>by simp only[cM]at h;subst h;simpa using cx
 |p::cm,bz,be,us,h,cx=>by simp only[cM]at h;obtain⟨u,ch,rfl,J,U⟩:=h;simp only[bX,cM];exact⟨u,_,rfl,J,Nd U cx⟩
theorem HC{w:World}{ν:bf}:∀{cm:List ah} {be:List Value},cM w ν cm be→be.length=cm.length
 |[],be,h=>by simp only[cM]at h;subst h;rfl
 |p::cm,be,h=>by simp only[cM]at h;obtain⟨u,ch,rfl,_,U⟩:=h;simp[HC U]
theorem DM{P:cF}{w:World}{r:Nat}{o o':Obj}(ae:w.heap[r]? =some o)(au:∀c e f,o≠ .cells c e f:=by simp):(setObj r o').run P w= .ok () {w with heap:=w.heap.setIfInBounds r o'}:=by simp only[setObj,Sem.run,ae]
def ev.makes(st:bs):ev→Bool
 | .box _ _ _| .alloc _ _ _| .bsl _ _ _ _| .bslm _ _ _ _ _| .mkmap _ _| .range _ _ _| .mks _ _ _ _ _ _=>true
 | .appm _ _ _ _ x _=>match cu st.t x with
  | .slice _ .nil _=>true
  |_=>false
 | .app _ _ _ x _=>match cu st.t x with
  | .slice _ .nil _=>true
  |_=>false
 |_=>false
theorem cR.forgetRow{C:fh}{st:bs}{a:Act}{w:World}{ν:bf}(aM:cR C st a w ν){k:aH}{ow:fL}(ad:look k st.e=some ow):cR C {st with e:=cB k ⟨ow.n,ow.el,ow.sz,none⟩ st.e} a w ν:=by
 have hM:∀g,(look g (cB k ⟨ow.n,ow.el,ow.sz,none⟩ st.e)).isSome→(look g st.e).isSome:=fun g aX=>by
  rw[jc]at aX;split at aX
  ·rename_i e;subst e;simp[ad]
  ·exact aX
 refine⟨⟨aM.good.alt,aM.good.box,aM.good.inj,fun g o aX=>?_,fun g e9 n n' v v' bl bG a2=>aM.good.oinj g e9 n n' v v' bl (hM g bG) (hM e9 a2),fun g j n v bl bG=>aM.good.obx g j n v bl (hM g bG),aM.good.one,fun bl ae=>aM.good.otr bl (ae.imp id (fun⟨g,n,v,bG,a2⟩=>⟨g,n,v,hM g bG,a2⟩))⟩,aM.fr,aM.defers,aM.size,aM.slot,aM.new⟩;simp only at aX;rw[jc]at aX;split at aX
 ·rename_i e;subst e;cases aX;obtain⟨v,us,a7,bF,b0,_⟩:=aM.good.own k ow ad;exact⟨v,us,a7,bF,b0,fun xs ab=>by cases ab⟩
 ·exact aM.good.own g o aX
theorem We{w:World}{base el sz n:Nat}{v:Value}{us:List Value}(h:w.ownsRow base el sz v n us)(au:0<n):∃b cap,v= .slice (some ⟨b,0,none⟩) n cap:=by
 rcases h.2 with⟨ak,aC⟩|⟨bb,cap,cur,f1,_⟩
 ·omega
 ·exact⟨_,_,f1⟩
theorem Hz{w:World}{ν:bf}{sz:Nat}:∀{xs:List ah} {us:List Value} {i:Nat} {q gH:ah} {fe:Value},dH w ν sz xs us→xs[i]? =some q→ba w ν gH fe→fe.cells.size=sz→(∀c∈fe.cells.toList,c.oneCell'=true)→dH w ν sz (xs.set i gH) (us.take (i*sz)++fe.cells.toList++us.drop (i*sz+sz))
 |[],_,_,_,_,_,_,bh,_,_,_=>by simp at bh
 |x::xs,us,0,q,gH,fe,h,bh,aM,ag,ax=>by
  simp only[dH]at h;obtain⟨u,ch,rfl,⟨J,U,ar⟩,b4⟩:=h;have aw:u.cells.toList.length=sz:=by simpa using U
  simp only[List.set_cons_zero,dH];refine⟨fe,ch,?_,⟨aM,ag,ax⟩,b4⟩;simp[←aw]
 |x::xs,us,i+1,q,gH,fe,h,bh,aM,ag,ax=>by
  simp only[dH]at h;obtain⟨u,ch,rfl,⟨J,U,ar⟩,b4⟩:=h;have aw:u.cells.toList.length=sz:=by simpa using U
  have bZ:=Hz b4 (by simpa using bh) aM ag ax;simp only[List.set_cons_succ,dH];refine⟨u,_,?_,⟨J,U,ar⟩,bZ⟩;have e:(i+1)*sz+sz=u.cells.toList.length+(i*sz+sz):=by rw[aw,Nat.succ_mul];omega
  rw[X6 _ _ _ _ aw,e,←List.drop_drop];simp
theorem amb{w:World}{ν:bf}{q:ah}{v:Value}(bh:ba w ν q v)(ag:ei q=true){cs:List ah}{us:List Value}(ay:c5 w ν cs us){f:Nat}(aI:f+us.length≤v.cells.size)(cH:us≠[]):
  ∃v',ba w ν (mP q f cs) v'∧v'.cells.toList=v.cells.toList.take f++us++v.cells.toList.drop (f+us.length)∧v'.cells.size=v.cells.size∧∀c∈v'.cells.toList,c.oneCell'=true:=by
 have hlen:=pP ay;have lD:=vf bh ag;by_cases br:∃eT,q= .agg eT
 ·obtain⟨eT,rfl⟩:=br;simp only[ba]at bh;obtain⟨be,rfl,kE⟩:=bh;simp only[pR]at aI⊢;have kB:c5 w ν (n7 eT f cs) (be.toList.take f++us++be.toList.drop (f+us.length)):=by unfold n7;rw[hlen];exact yD (yD (DH f kE) ay) (A4 _ kE)
  refine⟨.agg (be.toList.take f++us++be.toList.drop (f+us.length)).toArray,by simp only[mP,ba];exact⟨_,rfl,by simpa using kB⟩,by simp[pR],?_,fun c hh=>?_⟩
  ·simp[pR];omega
  ·exact A5 kB c (by simpa[pR]using hh)
 ·have nm:∀cs,q≠ .agg cs:=fun cs e=>br ⟨cs,e⟩;obtain⟨J,U⟩:=Ng bh ag nm;rw[U]at aI⊢;match us,cH,ay with
  |u::ch,_,ay=>
   simp at aI;obtain⟨rfl,rfl⟩:f=0∧ch=[]:=⟨by omega,List.length_eq_zero_iff.1 (by omega)⟩;match cs,ay,hlen with
   |[c],ay,_=>
    simp only[c5]at ay;obtain⟨w4,fC,ak,⟨Kr,Td⟩,_⟩:=ay;cases ak;have hu:u.cells= #[u]:=by cases u<;>first|rfl|cases Td
    have zZ:mP q 0 [c]=c:=by cases q<;>first|rfl|exact absurd rfl (nm _)
    rw[zZ];refine⟨u,Kr,by simp[hu],by simp[hu],fun c hh=>?_⟩;rw[hu]at hh;simp at hh;subst hh;exact Td
theorem amM{α:Type}(A us:List α)(a f sz N:Nat)(J:f+us.length≤sz)(U:a+sz≤N)(ar:N≤A.length):
  ((A.take (a+f)++us++A.drop (a+f+us.length)).toArray.toList).take N=(A.take N).take a++((((A.take N).drop a).take sz).take f++us++(((A.take N).drop a).take sz).drop (f+us.length))++(A.take N).drop (a+sz):=by
 have ak:(A.take N).take a++(((A.take N).drop a).take sz).take f=A.take (a+f):=by rw[List.take_take (i:=f),Nat.min_eq_left (show f≤sz by omega),←List.take_add,List.take_take,Nat.min_eq_left (by omega)]
 have aC:(((A.take N).drop a).take sz).drop (f+us.length)++(A.take N).drop (a+sz)=(A.take N).drop (a+f+us.length):=by
  have aw:f+us.length≤(((A.take N).drop a).take sz).length:=by simp;omega
  have fv:(A.take N).drop (a+sz)=((A.take N).drop a).drop sz:=by rw[List.drop_drop]
  rw[fv,←List.drop_append_of_le_length aw,List.take_append_drop,List.drop_drop];congr 1;omega
 have bk:(A.take N).drop (a+f+us.length)=(A.drop (a+f+us.length)).take (N-(a+f+us.length)):=by rw[List.drop_take]
 have aw:(A.take (a+f)++us).length=a+f+us.length:=by simp;omega
 simp only[List.append_assoc]at*;rw[aC,bk,←List.append_assoc (lY a _),ak];have oF:N=(A.take (a+f)++us).length+(N-(a+f+us.length)):=by rw[aw];omega
 rw[←List.append_assoc,←List.append_assoc];conv=>lhs;rw[oF,List.take_length_add_append]
theorem cR.storeRow{P:cF}{C:fh}{st:bs}{a:Act}{w:World}{ν:bf}(h:cR C st a w ν){k:aH}{n el sz:Nat}{xs:List ah}(ad:look k st.e=some ⟨n,el,sz,some xs⟩){i f:Nat}{u:Value}(ab:ba w ν (.rptr sz k n i f) u){q:ah}(bh:xs[i]? =some q)(ag:ei q=true)
  {cs:List ah} {us:List Value} (ay:c5 w ν cs us) (aI:f+us.length≤(cells q).length) (cH:us≠[]):
  ∃bl off mv,u= .pointer (some ⟨bl,off,none⟩)∧(storeCells ⟨bl,off,none⟩ us).run P w= .ok () (w.setRow bl mv)∧∃bo,cR C {st with e:=cB k ⟨n,el,sz,some (xs.set i (mP q f cs))⟩ st.e} a (w.setRow bl mv) bo:=by
 simp only[ba]at ab;obtain⟨_,hi,n',fe,J,U,ar⟩:=ab;obtain⟨v,fC,a7,bF,b0,cZ⟩:=h.good.own k _ ad;rw[J]at a7;simp only[dM,jF]at a7;obtain⟨rfl,rfl⟩:=a7;obtain⟨bl,ae,rfl⟩:=ar rfl;obtain⟨df,n3,u9⟩:=cZ xs rfl;simp only at df n3;obtain⟨v,cN,dx,k2⟩:=Hx i n3 bh;have zH:=pP (vf cN ag);have agq:(cells q).length=sz:=by rw[←zH];simpa using dx
 have Tn:f+us.length≤sz:=by rw[←agq];exact aI
 have hmul:i*sz+sz≤n'*sz:=by have:=Nat.mul_le_mul_right sz (show i+1≤n' from hi);rwa[Nat.succ_mul]at this
 rcases bF.2 with⟨ak,aC⟩|⟨g,cap,cur,rfl,vP,KC,KJ,afq,di,T2⟩
 ·rw[ak]at ae;simp[oh]at ae
 simp only[oh,dM]at ae;subst ae;simp only at T2 di KJ KC;have zG:n'*sz≤cur.size:=by rw[di];exact Nat.mul_le_mul_right sz KJ
 have cY:=run_storeCells_at P g (i*sz+f) el us 0 cur w KC (by omega) (A5 ay);simp only[Nat.add_zero]at cY;refine⟨g,i*sz+f,_,rfl,cY,?_⟩;generalize xK:(cur.toList.take (i*sz+f)++us++cur.toList.drop (i*sz+f+us.length)).toArray=mv;obtain⟨v',cQ,dy,jd,u5⟩:=amb cN ag ay (f:=f) (by rw[dx];exact Tn) cH;have lL:=Hz n3 bh cQ (by rw[jd,dx]) u5;have hlen:fC.length=n'*sz:=bF.1;have agc:mv.toList.take (n'*sz)=fC.take (i*sz)++v'.cells.toList++fC.drop (i*sz+sz):=by rw[←xK,dy,k2,←T2];exact amM cur.toList us (i*sz) f sz (n'*sz) Tn hmul (by simpa using zG)
 have afs:mv.size=cap*sz:=by rw[←xK,←di];simp;omega
 have aqq:(xs.set i (mP q f cs)).length=n':=by simp[df]
 obtain⟨akE,_,_⟩:=h.setRowM (w':=w.setRow g mv) ad rfl J (bl:=g) rfl (v':= .slice (some ⟨g,0,none⟩) n' cap) rfl (xs':=xs.set i (mP q f cs)) (us:=fC.take (i*sz)++v'.cells.toList++fC.drop (i*sz+sz)) (.inl ⟨by simp[df],rfl⟩) rfl rfl rfl (fun j af=>setRow_other w g j mv af) (setRow_size w g mv)
  ⟨by rw[tC lL],.inr ⟨g,cap,mv,by simp[df],Nat.zero_le _,setRow_heap w g cur mv el _ KC,by simpa[df]using KJ,afq,afs,by simpa[df]using agc⟩⟩ lL
 exact⟨_,by simpa[df]using akE⟩
theorem ahU(z:Array Value)(n:Nat)(h:0<z.size):(madeCells z ((n+1)*z.size)).toList=z.toList++(madeCells z (n*z.size)).toList:=by
 apply List.ext_getElem?;intro j;rw[List.getElem?_append];have he:(n+1)*z.size=n*z.size+z.size:=by rw[pV,Nat.one_mul]
 simp only[madeCells,tO,Array.length_toList,Array.getElem?_map];by_cases af:j<z.size
 ·rw[if_pos af,Array.getElem?_range,if_pos (by omega)];simp[Nat.mod_eq_of_lt af,af]
 ·rw[if_neg af,Array.getElem?_range,Array.getElem?_range];by_cases ad:j<n*z.size+z.size
  ·rw[if_pos (by omega),if_pos (by omega)];simp only[oi];rw[←Nat.mod_eq_sub_mod (by omega)]
  ·rw[if_neg (by omega),if_neg (by omega)]
theorem Vi{w:World}{ν:bf}{p:ah}{z:Value}(aM:ba w ν p z)(h:0<z.cells.size)(ax:∀c∈z.cells.toList,c.oneCell'=true):∀n,dH w ν z.cells.size (rj n p) (madeCells z.cells (n*z.cells.size)).toList
 |0=>by simp[dH,madeCells]
 |n+1=>by rw[ahU _ _ h];simp only[List.replicate_succ,dH];exact⟨z,_,rfl,⟨aM,rfl,ax⟩,Vi aM h ax n⟩
theorem jV{P:cF}{bC:List (Nat×dI)}(aL:fU P bC=true){C:fh}{st st':bs}{a:Act}{w:World}{ν:bf}(aM:cR C st a w ν){i:ev}{o:Oper}(ax:DN C.N bC i o=true)
  {κ:aH} {n':Nat} {o₁:List aH} (uE:i.makes st=true→fresh st.n st.o κ) (dt:i.makes st=true→∀j,fresh n' o₁ j→fresh st.n st.o j∧j≠κ) {c:Prop} (he:eK κ n' o₁ st i=some (c,st')) (ay:c) {K:Act→World→Prop} {Q:Exit→Act→World→Prop} (dh:∀bp w' bo,cR C st' bp w' bo→K bp w'):o.wp P a w K Q:=by
 obtain⟨dst,op,type,pos,after,guard⟩:=o;unfold DN at ax;dsimp only at ax;split at ax
 ·rename_i d key t;simp only[cE,dS,fK]at ax;obtain⟨rfl,U⟩:=ax;simp only[eK]at he;cases he;obtain⟨g1,g2⟩:=aM.newBox (aM.new _ (uE rfl)) (dt rfl) (cs:=[.hdm 0 []]) (us:= #[]) 0 (by simp only[jq];exact⟨by simp[cM],⟨rfl,by simp,by simp⟩⟩);refine mm (v:= .map (some w.heap.size)) (w':=w.alloc (.map #[] 0)) ?_ (dh _ _ _ (g1.put (d:=some d) (by simpa[jw]using U) (p:= .gmap κ) ?_))
  ·simp only[execOp,Instr.makeMap,Option.map_none,fJ,run_newObj,fR,gu];rfl
  ·simp[ba,bf.withBox]
 ·rename_i cf x k v t gG gD oX;simp only[cE,dS]at ax;obtain⟨⟨⟨⟨rfl,J⟩,U⟩,ar⟩,a8⟩:=ax;have rx:=et aM U;have vg:=et aM ar;have yJ:=et aM a8;split at J
  ·rename_i sz la mL pz z aI;obtain⟨cI,hu,e4⟩:=je aL aI;have sU:cI= .map mL pz:=by cases cI<;>simp[ki]at e4;obtain⟨rfl,rfl⟩:=e4;rfl
   subst sU;have l4:=Lr aL J;simp only[eK]at he;split at he
   ·rename_i m ab;rw[ab]at rx;simp only[ba]at rx;obtain⟨bl,b1,b2⟩:=rx;split at he
    ·rename_i cs di;split at he
     ·rename_i cs' hm;cases he;obtain⟨iG,us,el,a7,bF,b0,cZ,df⟩:=aM.good.box m cs di;rw[b1]at a7;cases a7;unfold oW at hm;split at hm
      ·rename_i clock borns kvs;split at hm
       ·cases hm
       rename_i vW;simp only[jU]at cZ;simp only[jq]at df;have hj:=vi (P:=P) cZ;have vQ:=Ni (P:=P) (w:=w) l4 false vg (by simpa using vW);have bE:bl<w.heap.size:=(Array.getElem?_eq_some_iff.1 cZ).1;have c7:∀(o':Obj) (ch:Array Value) (eT:List ah),(Instr.mapUpdate t (a.eval gG) (a.eval gD) (a.eval oX)).run P w= .ok () {w with heap:=w.heap.setIfInBounds bl o'}→jU eT ch el=o'→jq w ν eT ch.toList→some eT=some cs'→
         (⟨none,.mapUpdate t gG gD oX,type,pos,after,guard⟩:Oper).wp P a w K Q:=by
        intro o' ch eT ir CD lL iY;cases iY;refine Ee (w':={w with heap:=w.heap.setIfInBounds bl o'}) ?_ (dh _ _ _ (aM.setBox (w':={w with heap:=w.heap.setIfInBounds bl o'}) di b1 (us:=ch) (el:=el) rfl rfl rfl (fun j af=>?_) (by simp) ?_ lL).1)
        ·simp only[execOp,ir,fJ,fR,gu]
        ·exact Array.getElem?_setIfInBounds_ne (k8 af)
        ·rw[CD];simp[bE]
       split at hm
       ·rename_i wA uJ;obtain⟨j,u,ch,e,f1,f2,f3,f4,f5,f6,f7⟩:=Df l4 vg yJ borns kvs us.toList 0 _ df.1 df.2.len uJ;refine c7 (.map (fF borns ch).toArray clock) ch.toArray (.hdm clock borns::wA) ?_ (by simp[jU]) (by simp only[jq];exact⟨by simpa using f2,⟨by rw[f3];exact df.2.len,df.2.inc,df.2.lt⟩⟩) hm;have K1:(Instr.keyThatStays (((fF borns us.toList).toArray[j]?.map (·.key)).getD (a.eval gD)) (a.eval gD)).run P w= .ok (a.eval gD) w:=by
         have:((fF borns us.toList).toArray[j]?.map (·.key)).getD (a.eval gD)=e.key:=by simp[f4]
         rw[this];simp[Instr.keyThatStays,f6]
        simp only[Nat.zero_add]at f1;simp only[Instr.mapUpdate,fJ,run_underlying hu,fR,b2,hj,vQ,f1.run l4,gu,K1,DM cZ];rw[f7];simp
       ·rename_i uJ;have f1:=Df l4 vg yJ borns kvs us.toList 0 _ df.1 df.2.len uJ;simp only at f1;have rY:us.toList.length=2*borns.length:=by rw[HC df.1,df.2.len]
        refine c7 (.map ((fF borns us.toList).toArray.push ⟨a.eval gD,a.eval oX,clock⟩) (clock+1)) (us.toList++[a.eval gD,a.eval oX]).toArray (.hdm (clock+1) (borns++[clock])::(kvs++[cu st.t k,cu st.t v])) ?_ (by simp only[jU,Jw borns us.toList clock _ _ rY];simp) ?_ hm
        ·simp only[Instr.mapUpdate,fJ,run_underlying hu,fR,b2,hj,vQ,f1.run l4,gu,DM cZ]
        ·simp only[jq];refine⟨Nd df.1 (by simp only[cM];exact⟨_,_,rfl,vg,_,_,rfl,yJ,rfl⟩),⟨by simp[df.2.len];omega,?_,?_⟩⟩
         ·rw[List.pairwise_append];exact⟨df.2.inc,by simp,fun x ab y aG=>by simp at aG;subst aG;exact df.2.lt x ab⟩
         ·intro b ae;rcases ka.1 ae with ae|ae
          ·have:=df.2.lt b ae;omega
          ·simp at ae;omega
       ·cases hm
      ·cases hm
     ·cases he
    ·cases he
   ·cases he
  ·cases J
 ·rename_i cf x k v t gG gD oX;simp only[cE,dS]at ax;obtain⟨⟨⟨⟨rfl,J⟩,U⟩,ar⟩,a8⟩:=ax;have rx:=et aM U;have vg:=et aM ar;have yJ:=et aM a8;split at J
  ·rename_i sz la mL pz z aI;obtain⟨cI,hu,e4⟩:=je aL aI;have sU:cI= .map mL pz:=by cases cI<;>simp[ki]at e4;obtain⟨rfl,rfl⟩:=e4;rfl
   subst sU;have l4:=Lr aL J;simp only[eK]at he;split at he
   ·rename_i m ab;rw[ab]at rx;simp only[ba]at rx;obtain⟨bl,b1,b2⟩:=rx;split at he
    ·rename_i cs di;split at he
     ·rename_i cs' hm;cases he;obtain⟨iG,us,el,a7,bF,b0,cZ,df⟩:=aM.good.box m cs di;rw[b1]at a7;cases a7;unfold oW at hm;split at hm
      ·rename_i clock borns kvs;split at hm
       ·cases hm
       rename_i vW;simp only[jU]at cZ;simp only[jq]at df;have hj:=vi (P:=P) cZ;have vQ:=Ni (P:=P) (w:=w) l4 false vg (by simpa using vW);have bE:bl<w.heap.size:=(Array.getElem?_eq_some_iff.1 cZ).1;have c7:∀(o':Obj) (ch:Array Value) (eT:List ah),(Instr.mapUpdate t (a.eval gG) (a.eval gD) (a.eval oX)).run P w= .ok () {w with heap:=w.heap.setIfInBounds bl o'}→jU eT ch el=o'→jq w ν eT ch.toList→some eT=some cs'→
         (⟨none,.mapUpdate t gG gD oX,type,pos,after,guard⟩:Oper).wp P a w K Q:=by
        intro o' ch eT ir CD lL iY;cases iY;refine Ee (w':={w with heap:=w.heap.setIfInBounds bl o'}) ?_ (dh _ _ _ (aM.setBox (w':={w with heap:=w.heap.setIfInBounds bl o'}) di b1 (us:=ch) (el:=el) rfl rfl rfl (fun j af=>?_) (by simp) ?_ lL).1)
        ·simp only[execOp,ir,fJ,fR,gu]
        ·exact Array.getElem?_setIfInBounds_ne (k8 af)
        ·rw[CD];simp[bE]
       split at hm
       ·rename_i wA uJ;obtain⟨j,u,ch,e,f1,f2,f3,f4,f5,f6,f7⟩:=Df l4 vg yJ borns kvs us.toList 0 _ df.1 df.2.len uJ;refine c7 (.map (fF borns ch).toArray clock) ch.toArray (.hdm clock borns::wA) ?_ (by simp[jU]) (by simp only[jq];exact⟨by simpa using f2,⟨by rw[f3];exact df.2.len,df.2.inc,df.2.lt⟩⟩) hm;have K1:(Instr.keyThatStays (((fF borns us.toList).toArray[j]?.map (·.key)).getD (a.eval gD)) (a.eval gD)).run P w= .ok (a.eval gD) w:=by
         have:((fF borns us.toList).toArray[j]?.map (·.key)).getD (a.eval gD)=e.key:=by simp[f4]
         rw[this];simp[Instr.keyThatStays,f6]
        simp only[Nat.zero_add]at f1;simp only[Instr.mapUpdate,fJ,run_underlying hu,fR,b2,hj,vQ,f1.run l4,gu,K1,DM cZ];rw[f7];simp
       ·rename_i uJ;have f1:=Df l4 vg yJ borns kvs us.toList 0 _ df.1 df.2.len uJ;simp only at f1;have rY:us.toList.length=2*borns.length:=by rw[HC df.1,df.2.len]
        refine c7 (.map ((fF borns us.toList).toArray.push ⟨a.eval gD,a.eval oX,clock⟩) (clock+1)) (us.toList++[a.eval gD,a.eval oX]).toArray (.hdm (clock+1) (borns++[clock])::(kvs++[cu st.t k,cu st.t v])) ?_ (by simp only[jU,Jw borns us.toList clock _ _ rY];simp) ?_ hm
        ·simp only[Instr.mapUpdate,fJ,run_underlying hu,fR,b2,hj,vQ,f1.run l4,gu,DM cZ]
        ·simp only[jq];refine⟨Nd df.1 (by simp only[cM];exact⟨_,_,rfl,vg,_,_,rfl,yJ,rfl⟩),⟨by simp[df.2.len];omega,?_,?_⟩⟩
         ·rw[List.pairwise_append];exact⟨df.2.inc,by simp,fun x ab y aG=>by simp at aG;subst aG;exact df.2.lt x ab⟩
         ·intro b ae;rcases ka.1 ae with ae|ae
          ·have:=df.2.lt b ae;omega
          ·simp at ae;omega
       ·cases hm
      ·cases hm
     ·cases he
    ·cases he
   ·cases he
  ·cases J
 ·rename_i d key x t gG;simp only[cE,dS,fK]at ax;obtain⟨⟨⟨rfl,U⟩,J⟩,ar⟩:=ax;have rx:=et aM ar;split at J
  ·rename_i sz la mL pz z aI;obtain⟨cI,hu,e4⟩:=je aL aI;have sU:cI= .map mL pz:=by cases cI<;>simp[ki]at e4;obtain⟨rfl,rfl⟩:=e4;rfl
   subst sU;simp only[eK]at he;split at he
   ·rename_i m ab;rw[ab]at rx;have amg:=rx;simp only[ba]at rx;obtain⟨bl,b1,b2⟩:=rx;split at he
    ·rename_i cs di;split at he
     ·rename_i cs' hm;cases he;obtain⟨iG,us,el,a7,bF,b0,cZ,df⟩:=aM.good.box m cs di;rw[b1]at a7;cases a7;unfold wS at hm;split at hm
      ·rename_i clock borns kvs;cases hm;simp only[jU]at cZ;have hj:=vi (P:=P) cZ;obtain⟨g1,g2⟩:=aM.newBox (aM.new _ (uE rfl)) (dt rfl) (cs:=[.hdi clock [] clock,.gmap m]) (us:= #[a.eval gG]) 0 (by simp only[jq,cM];exact⟨_,_,rfl,amg,rfl⟩);have CD:jU [.hdi clock [] clock,.gmap m] #[a.eval gG] 0= .mapIter (some bl) clock #[] clock:=by simp[jU,b2]
       rw[CD]at g1 g2;refine mm (v:= .pointer (some ⟨w.heap.size,0,none⟩)) (w':=w.alloc (.mapIter (some bl) clock #[] clock)) ?_ (dh _ _ _ (g1.put (d:=some d) (by simpa[jw]using U) (p:= .ptr κ 0) g2))
       ·simp only[execOp];refine D9 ?_;simp only[Instr.range,fJ,run_underlying hu,fR,b2,hj,gu,run_newObj];rfl
      ·cases hm
     ·cases he
    ·cases he
   ·cases he
  ·cases J
 ·rename_i d at0;simp only[cE,dS,fK]at ax;obtain⟨⟨J,U⟩,ar⟩:=ax;subst J;simp only[eK]at he;split at he
  ·rename_i ct p aK;cases he;obtain⟨v,g1,g2⟩:=ane (o:=⟨some d,op,type,pos,after,guard⟩) aL aM ar aK ay;refine mm g1 (dh _ _ ν ?_);exact aM.put (d:=some d) (by simpa[jw]using U) g2
  ·cases he
 ·rename_i d key x el o';simp only[cE,dS,fK]at ax;obtain⟨⟨J,U⟩,ar⟩:=ax;subst J;simp only[eK]at he;cases he;have ab:=et aM ar;have lH:=vf ab ay;obtain⟨g1,g2⟩:=aM.newBox (aM.new _ (uE rfl)) (dt rfl) el (by rw[u7 (A6 lH)];exact lH);rw[u6 (A6 lH)]at g1 g2;refine mm (v:= .pointer (some ⟨w.heap.size,0,none⟩)) (w':=w.alloc (.cells (a.eval o').cells el)) ?_ (dh _ _ _ (g1.put (d:=some d) (by simpa[jw]using U) (p:= .ptr κ 0) ?_))
  ·simp only[execOp,Instr.box,newVar,newRow,fJ,run_newObj,fR,gu];rfl
  ·simpa only[ba]using g2
 ·rename_i d key z el;simp only[cE,dS,fK]at ax;obtain⟨⟨J,U⟩,ar⟩:=ax;subst J;simp only[eK]at he;cases he;split at ar
  ·rename_i f aI;have bq:=Ow ar;obtain⟨b9,k6,z2,z3⟩:=NT aL aI w;rw[←bq]at z2;obtain⟨_,lH⟩:=Ov w ν z2;obtain⟨g1,g2⟩:=aM.newBox (aM.new _ (uE rfl)) (dt rfl) el (by rw[u7 (A6 lH)];exact lH);rw[u6 (A6 lH)]at g1 g2;refine mm (v:= .pointer (some ⟨w.heap.size,0,none⟩)) (w':=w.alloc (.cells b9.cells el)) ?_ (dh _ _ _ (g1.put (d:=some d) (by simpa[jw]using U) (p:= .ptr κ 0) ?_))
   ·simp only[execOp,Instr.alloc,newVar,newRow,fJ,k6,run_newObj,fR,gu];rfl
   ·simpa only[ba]using g2
  ·cases ar
 ·rename_i sz x y t o' jo;simp only[cE,dS]at ax;obtain⟨⟨⟨J,U⟩,ar⟩,a8⟩:=ax;subst J;split at U
  ·rename_i f aI;simp only[dS]at U;simp only[eK]at he;split at he
   ·rename_i k off ab;split at he
    ·rename_i cs di;cases he;obtain⟨iW,bN,cq,dj⟩:=ay;have rx:=et aM ar;rw[ab]at rx;simp only[ba]at rx;obtain⟨bl,b1,b2⟩:=rx;have lV:=et aM a8;have vd:=vf lV bN;have vh:=pP vd;obtain⟨iG,us,el,a7,bF,b0,cZ,df⟩:=aM.good.box k cs di;rw[b1]at a7;cases a7;rw[u6 iW]at cZ;rw[u7 iW]at df;have av:=pP df;obtain⟨_,ep⟩:=vm aL aI w;have uM:(a.eval jo).cells.size=sz:=by rw[cq]at vh;simpa using vh
     have cY:=run_storeCells_at (P:=P) bl off el (a.eval jo).cells.toList 0 us w cZ (by simp at av⊢;omega) (A5 vd);simp only[Nat.add_zero]at cY;refine Ee (w':=w.setRow bl (us.toList.take off++(a.eval jo).cells.toList++us.toList.drop (off+(a.eval jo).cells.toList.length)).toArray) ?_ (dh _ _ _ (aM.storeBox di b1 iW ?_))
     ·simp only[execOp,Instr.storeAt,b2,Instr.sureAddr,storeVar,fJ,gu,fR,ep,uM,U,ne_eq,not_true_eq_false,if_false,cY]
     ·simp only[n7];rw[vh];exact yD (yD (DH off df) vd) (A4 _ df)
    ·cases he
   ·rename_i ab;generalize KP:cu st.t x=px at he;unfold rb at he;split at he
    ·rename_i dL k n i sO;split at he
     ·rename_i n' el jr xs ad;split at he
      ·rename_i CC;obtain⟨rfl,rfl⟩:=CC;split at he
       ·rename_i q bh;cases he;obtain⟨iW,bN,cq,dj,iH⟩:=ay;have rx:=et aM ar;rw[KP]at rx;have lV:=et aM a8;have vd:=vf lV bN;have vh:=pP vd;obtain⟨_,ep⟩:=vm aL aI w;have uM:(a.eval jo).cells.size=sz:=by rw[cq]at vh;simpa using vh
        obtain⟨bl,off,mv,CG,cY,bo,oO⟩:=aM.storeRow (P:=P) ad rx bh iW vd (by simpa[uM]using dj) (fun e=>by have:=ff List.length e;simp[uM]at this;omega);refine Ee (w':=w.setRow bl mv) ?_ (dh _ _ _ oO);simp only[execOp,Instr.storeAt,CG,Instr.sureAddr,storeVar,fJ,gu,fR,ep,uM,U,ne_eq,not_true_eq_false,if_false,cY]
       ·cases he
      ·cases he
     ·cases he
    ·cases he
  ·cases U
 ·rename_i d sz el xs t len parts;simp only[cE,dS,fK]at ax;obtain⟨⟨⟨⟨⟨⟨J,U⟩,ar⟩,a8⟩,b4⟩,dd⟩,eo⟩:=ax;subst J;subst b4;split at ar
  ·rename_i fZ aI;simp only[dS]at ar;subst ar;split at a8
   ·rename_i g aX;simp only[cE,dS,fK]at a8;obtain⟨rfl,fy⟩:=a8;simp only[eK]at he;cases he;obtain⟨us,g1,g2,g3⟩:=Xz aL aM aI rfl aX eo ay dd;have lK:(w.alloc (.cells us el)).ownsRow w.heap.size el g.size (.slice (some ⟨w.heap.size,0,none⟩) xs.length xs.length) (xs.map (cu st.t)).length us.toList:=by
     refine⟨by simp[g3],.inr ⟨w.heap.size,xs.length,us,by simp,eY _,heap_alloc_new w _,by simp,?_,g3,?_⟩⟩
     ·simp only[maxLen];have:xs.length≤xs.length*g.size:=Nat.le_mul_of_pos_right _ fy;omega
     ·rw[hD];simp[g3]
    obtain⟨cN,dx⟩:=aM.newRow (k:=κ) (xs:=xs.map (cu st.t)) (.inl (aM.new _ (uE rfl))) (World.grownBy_alloc w _ none) lK g2
     (by have:xs.length≤xs.length*g.size:=Nat.le_mul_of_pos_right _ fy;simp only[lim,List.length_map];omega) (dt rfl)
    simp only[List.length_map]at cN dx;refine mm (v:= .slice (some ⟨w.heap.size,0,none⟩) xs.length xs.length) (w':=w.alloc (.cells us el)) ?_ (dh _ _ _ (cN.put (d:=some d) (by simpa[jw]using U) (p:= .slice g.size (.own κ) (xs.map (cu st.t))) dx));have bQ:(parts.map fun(x:Nat×Operand)=>(x.1,a.eval x.2))=(parts.toList.map fun(x:Nat×Operand)=>(x.1,a.eval x.2)).toArray:=by apply Array.ext';simp
    simp only[execOp];refine D9 ?_;rw[←g1];congr 2
   ·cases a8
  ·cases ar
 ·rename_i d sz el x y o' jo t dE;simp only[cE,dS,fK]at ax;obtain⟨⟨⟨⟨⟨⟨J,U⟩,ar⟩,a8⟩,b4⟩,dd⟩,eo⟩:=ax;subst J;subst ar;split at a8
  ·rename_i fZ aI;simp only[dS]at a8;subst a8;split at b4
   ·rename_i g aX;simp only[cE,dS,fK]at b4;obtain⟨⟨rfl,fy⟩,hby⟩:=b4;have rx:=et aM dd;have lV:=et aM eo;have mC:∀v' w',(Builtin.append_ #[t,t] type #[a.eval o',a.eval jo]).run P w= .ok v' w'→(execOp a.eval ⟨some d,.call ⟨.builtin .append,⟨[o',jo]⟩,⟨[t,t]⟩⟩,type,pos,after,guard⟩).run P w= .ok (.value v') w':=by intro v' w' ir;simp only[execOp,resolve,invoke,builtin,fJ,gu,fR,List.map_toArray,gS,mU];rw[ir];rfl
    obtain⟨fB,ca,z,ak,aC,bk,dg,hf,hT,rp,rq⟩:=(vn aL aX).ex;obtain⟨eT,iY,e4⟩:=je aL aI;obtain rfl:=sJ e4;simp only[eK]at he;split at he
    ·rename_i dL tag xs jr k4 ys ab aG;split at he
     ·rename_i fk;obtain⟨rfl,fk⟩:=fk;subst fk;rw[ab]at rx;rw[aG]at lV;simp only[ba]at rx lV;obtain⟨⟨uc,po,su,cx1,⟨Rw,Rx⟩,cx4⟩,rxn,rxo,rxt⟩:=rx;obtain⟨⟨nP,lB,vy,cy1,⟨Ry,Rz⟩,cy4⟩,_⟩:=lV;split at he
      ·rename_i k;split at he
       ·rename_i ow ad;cases he;obtain⟨bN,cq,dj,iH⟩:=ay;subst cq;obtain⟨n0,w4,cN,dx,k2⟩:=rxo k rfl;obtain⟨v0,fC,a7,bF,b0,_⟩:=aM.good.own k ow ad;rw[cN]at a7;simp only[dM,jF]at a7;obtain⟨rfl,rfl⟩:=a7;have mE:a.eval o'=w4:=k2 bN.symm;by_cases jj:ys=[]
        ·subst jj;rw[vy,su]at mC;have ir:=HN (P:=P) (w:=w) (ty:=type) iY ak uc xs.length po cx1 nP lB;refine mm (mC _ _ (by simpa using ir)) (dh _ _ ν ?_);have cY:{st with t:=put d (.slice ow.sz (.own k) (xs++[])) st.t,e:=cB k ⟨xs.length+([]:List ah).length,ow.el,ow.sz,none⟩ st.e}=({st with e:=cB k ⟨ow.n,ow.el,ow.sz,none⟩ st.e,t:=put d (.slice ow.sz (.own k) xs) st.t}:bs):=by simp[bN]
         rw[←dj,cY];have mD:=aM.forgetRow ad;refine mD.put (d:=some d) (by simpa[jw]using U) (p:= .slice ow.sz (.own k) xs) ?_;simp only[ba];rw[←dj]at cx4;exact⟨⟨uc,po,rfl,cx1,⟨Rw,Rx⟩,cx4⟩,fun e=>(by cases e),(fun g e=>by cases e;exact⟨_,_,cN,dx,fun e=>by rw[←su];exact k2 e⟩),fun _ _ e=>(by cases e),fun _ e=>(by cases e)⟩
        ·have hyp:0<ys.length:=by cases ys<;>simp at jj⊢
         rcases cy4 with cy4|⟨la,nD,ho,rfl,yj,mw⟩
         ·exact absurd cy4 jj
         ·have jO:=tC mw;have rU:∀j u,ho[j]? =some u→w.cell? ((⟨la,nD,none⟩:Addr).add j)=some u:=fun j u af=>by rw[pf];exact(uW yj af).2
          have rO:(xs.length+ys.length)*fB.bytes≤140737488355328:=by
           have lE:fB.bytes≤2048:=by rw[dg];exact hby
           have pE:(xs.length+ys.length)*fB.bytes≤(xs.length+ys.length)*2048:=Nat.mul_le_mul_left _ lE;simp only[lim]at iH;omega
          have lI:xs.length+ys.length≤maxLen:=by simp only[lim]at iH;simp only[maxLen];omega
          rw[vy]at mC;have we:fC.length=ow.n*ow.sz:=bF.1;have wj:z.cells.size=fB.size:=by rw[rq,bk]
          have Ct:(∀cur,eA→cur=(0:Nat))→(∃v' w',(Builtin.append_ #[t,t] type #[a.eval o',.slice (some ⟨la,nD,none⟩) ys.length lB]).run P w= .ok v' w'∧w'.ownsRow w.heap.size ow.el fB.size v' (xs.length+ys.length) (fC++ho)∧w.grownBy w' none∧dH w ν fB.size xs fC)→
            (⟨some d,.call ⟨.builtin .append,⟨[o',jo]⟩,⟨[t,t]⟩⟩,type,pos,after,guard⟩:Oper).wp P a w K Q:=by
           intro _ cP;obtain⟨v',w',f1,f2,f3,f4⟩:=cP;have FM:dH w ν fB.size (xs++ys) (fC++ho):=DF f4 (by rw[bk];exact mw);obtain⟨cQ,dy⟩:=aM.newRow (k:=k) (xs:=xs++ys) (.inr ⟨ow,ad,by rw[bN];simp;omega⟩) f3 (by simpa using f2) FM (by simpa using iH) (n':=st.n) (o':=st.o)
            (fun j af=>⟨af,fun e=>by subst e;have:=(aM.new _ af).2.1;rw[cN]at this;cases this⟩)
           refine mm (mC _ _ f1) (dh _ _ ((ν.withOwn k (xs++ys).length v').withRowOf k v' (xs++ys).length ((xs++ys).length*fB.size)) ?_);have:=cQ.put (d:=some d) (by simpa[jw]using U) dy;simpa[bk,eX]using this
          rcases bF.2 with⟨nE,yy⟩|⟨bl,cap,cur,nE,yy,AT,MA,MB,MC,G9⟩
          ·
           have Ad:xs=[]:=List.eq_nil_of_length_eq_zero (by omega);have K4:fC=[]:=List.eq_nil_of_length_eq_zero (by rw[we,yy];simp);subst Ad;subst K4;refine Ct (fun _ h=>h.elim) ?_;obtain⟨v',w',f1,f2,f3,_⟩:=run_append_own (P:=P) w w.heap.size t type ow.el fB z fB.size fB.bytes iY ak hT rfl rfl wj (by rw[bk];exact fy) (.slice none 0 0) 0 [] (World.ownsRow_nil w _ _ _)
            ⟨la,nD,none⟩ ys.length lB ho (by rw[jO,bk]) rU (yC mw) (by simpa using lI) (by simpa using rO) (eY _)
           refine⟨v',w',by rw[mE,nE];exact f1,by simpa using f2,by simpa[oh]using f3,by simp[dH]⟩
          ·have afZ:lQ w ν.A bl 0 fC∧dH w ν fB.size xs fC∧True:=by
            rw[mE,nE]at su;rcases cx4 with cx4|⟨bb,ase,NZ,f1,f2,f3⟩
            ·subst cx4;have:fC=[]:=List.eq_nil_of_length_eq_zero (by rw[we,bN];simp);subst this;exact⟨trivial,by simp[dH],trivial⟩
            ·subst f1;injection su with vx1 vx2 vx3;injection vx1 with vx1;injection vx1 with vx1 vx4;subst vx1;subst vx4;have heq:NZ=fC:=by
              apply List.ext_getElem?;intro j;have rY:NZ.length=fC.length:=by rw[tC f3,we,bN,dj]
              by_cases af:j<NZ.length
              ·have J:=(uW f2 (cl af)).2;rw[Nat.zero_add]at J;have U:=bF.cells (g:=bl) (by rw[nE];rfl) j fC[j] (cl (by omega));rw[pf,Nat.zero_add,J]at U;rw[cl af,cl (by omega)];exact U
              ·rw[qw (by omega),qw (by omega)]
             subst heq;exact⟨f2,by rw[bk];exact f3,trivial⟩
           obtain⟨xU,oL,_⟩:=afZ;by_cases rW:xs.length+ys.length≤cap
           ·have aql:cur.size=cap*ow.sz:=MC;have hmul:(xs.length+ys.length)*ow.sz≤cap*ow.sz:=Nat.mul_le_mul_right _ rW;rw[pV]at hmul;have f1:=run_append_room (P:=P) w t type ow.el fB iY ak bl xs.length cap cur AT ⟨la,nD,none⟩ ys.length lB ho (by rw[jO,bk]) rU (yC mw) rW (by rw[jO,bk,←dj];omega);obtain⟨cQ,dy⟩:=aM.inPlace ad (bl:=bl) (cap:=cap) (cur:=cur) (by rw[cN,←nE]) AT MB MC (xs:=xs) (ys:=ys) (us:=fC) (ns:=ho) bN.symm G9 (by rw[dj,←bk];exact oL) (by rw[dj];exact mw) hyp (by rw[bN];exact rW) iH;refine mm (v:= .slice (some ⟨bl,0,none⟩) (ow.n+ys.length) cap) (w':=w.setRow bl (fC++ho++cur.toList.drop (ow.n*ow.sz+ho.length)).toArray) (mC _ _ ?_)
             (dh _ _ (ν.withRowOf k (.slice (some ⟨bl,0,none⟩) (ow.n+ys.length) cap) (ow.n+ys.length) ((ow.n+ys.length)*ow.sz)) ?_)
            ·rw[mE,nE,bN,f1,←G9,bN,dj,bk]
            ·have:=cQ.put (d:=some d) (by simpa[jw]using U) dy;simpa[bN,dj,eX]using this
           ·refine Ct (fun _ h=>h.elim) ?_;obtain⟨v',w',f1,f2,f3⟩:=run_append_arg_grows (P:=P) w t type ow.el fB z fB.size fB.bytes iY ak hT rfl rfl wj (by rw[bk];exact fy) ⟨bl,0,none⟩ xs.length cap fC (by rw[we,bN,dj,bk])
             (fun j u af=>by rw[pf];exact(uW xU af).2) ⟨la,nD,none⟩ ys.length lB ho (by rw[jO,bk]) rU (by omega) lI rO
            exact⟨v',w',by rw[mE,nE,bN];exact f1,f2,f3,oL⟩
       ·cases he
      ·cases he;have FY:=rxn rfl;have Ad:xs=[]:=by rw[FY]at su;injection su with _ aC;exact List.eq_nil_of_length_eq_zero aC.symm
       subst Ad;have xZ:(ev.app d g.size el x y).makes st=true:=by simp only[ev.makes,ab]
       have wj:z.cells.size=fB.size:=by rw[rq,bk]
       rw[vy,FY]at mC;have c7:∀(v':Value) (w':World) (ho:List Value),(Builtin.append_ #[t,t] type #[.slice none 0 0,.slice nP ys.length lB]).run P w= .ok v' w'→w'.ownsRow w.heap.size el g.size v' ys.length ho→w.grownBy w' none→dH w ν g.size ys ho→
         (⟨some d,.call ⟨.builtin .append,⟨[o',jo]⟩,⟨[t,t]⟩⟩,type,pos,after,guard⟩:Oper).wp P a w K Q:=by
        intro v' w' ho f1 f2 f3 f4;obtain⟨cQ,dy⟩:=aM.newRow (k:=κ) (xs:=ys) (.inl (aM.new _ (uE xZ))) f3 f2 f4 ay (dt xZ);exact mm (mC _ _ f1) (dh _ _ _ (cQ.put (d:=some d) (by simpa[jw]using U) dy))
       by_cases jj:ys=[]
       ·subst jj;exact c7 _ w [] (HN iY ak none 0 0 (eY _) nP lB) (World.ownsRow_nil w _ _ _) (aoR w _) (by simp[dH])
       ·rcases cy4 with cy4|⟨la,nD,ho,rfl,yj,mw⟩
        ·exact absurd cy4 jj
        ·have jO:=tC mw;have rU:∀j u,ho[j]? =some u→w.cell? ((⟨la,nD,none⟩:Addr).add j)=some u:=fun j u af=>by rw[pf];exact(uW yj af).2
         have rO:ys.length*fB.bytes≤140737488355328:=by
          have J:fB.bytes≤2048:=by rw[dg];exact hby
          have U:ys.length*fB.bytes≤ys.length*2048:=Nat.mul_le_mul_left _ J;simp only[lim]at ay;omega
         have lI:ys.length≤maxLen:=by simp only[lim]at ay;simp only[maxLen];omega
         obtain⟨v',w',f1,f2,f3,_⟩:=run_append_own (P:=P) w w.heap.size t type el fB z fB.size fB.bytes iY ak hT rfl rfl wj (by rw[bk];exact fy) (.slice none 0 0) 0 [] (World.ownsRow_nil w _ _ _)
          ⟨la,nD,none⟩ ys.length lB ho (by rw[jO,bk]) rU (yC mw) (by simpa using lI) (by simpa using rO) (eY _)
         exact c7 v' w' ho f1 (by rw[←bk];simpa using f2) (by simpa[oh]using f3) mw
      ·cases he
     ·cases he
    ·cases he
   ·cases b4
  ·cases a8
 ·rename_i d key sz el xs t len parts;simp only[cE,dS,fK]at ax;obtain⟨⟨⟨⟨⟨⟨J,U⟩,ar⟩,a8⟩,b4⟩,dd⟩,eo⟩:=ax;subst J;subst b4;split at ar
  ·rename_i fZ aI;simp only[dS]at ar;subst ar;split at a8
   ·rename_i g aX;simp only[cE,dS,fK]at a8;obtain⟨rfl,fy⟩:=a8;simp only[eK]at he;cases he;obtain⟨us,g1,g2,g3⟩:=Xz aL aM aI rfl aX eo ay dd;have lK:(w.alloc (.cells us el)).ownsRow w.heap.size el g.size (.slice (some ⟨w.heap.size,0,none⟩) xs.length xs.length) (xs.map (cu st.t)).length us.toList:=by
     refine⟨by simp[g3],.inr ⟨w.heap.size,xs.length,us,by simp,eY _,heap_alloc_new w _,by simp,?_,g3,?_⟩⟩
     ·simp only[maxLen];have:xs.length≤xs.length*g.size:=Nat.le_mul_of_pos_right _ fy;omega
     ·rw[hD];simp[g3]
    obtain⟨cN,dx⟩:=aM.newRowM (k:=κ) (xs:=xs.map (cu st.t)) (.inl (aM.new _ (uE rfl))) (World.grownBy_alloc w _ none) lK g2
     (by have:xs.length≤xs.length*g.size:=Nat.le_mul_of_pos_right _ fy;simp only[lim,List.length_map];omega) (dt rfl)
    simp only[List.length_map]at cN dx;refine mm (v:= .slice (some ⟨w.heap.size,0,none⟩) xs.length xs.length) (w':=w.alloc (.cells us el)) ?_ (dh _ _ _ (cN.put (d:=some d) (by simpa[jw]using U) (p:= .row g.size κ xs.length) (dx ⟨_,_,rfl⟩)));have bQ:(parts.map fun(x:Nat×Operand)=>(x.1,a.eval x.2))=(parts.toList.map fun(x:Nat×Operand)=>(x.1,a.eval x.2)).toArray:=by apply Array.ext';simp
    simp only[execOp];refine D9 ?_;rw[←g1];congr 2
   ·cases a8
  ·cases ar
 ·rename_i d key sz el x y o' jo t dE;simp only[cE,dS,fK]at ax;obtain⟨⟨⟨⟨⟨⟨J,U⟩,ar⟩,a8⟩,b4⟩,dd⟩,eo⟩:=ax;subst J;subst ar;split at a8
  ·rename_i fZ aI;simp only[dS]at a8;subst a8;split at b4
   ·rename_i g aX;simp only[cE,dS,fK]at b4;obtain⟨⟨rfl,fy⟩,hby⟩:=b4;have rx:=et aM dd;have lV:=et aM eo;have mC:∀v' w',(Builtin.append_ #[t,t] type #[a.eval o',a.eval jo]).run P w= .ok v' w'→(execOp a.eval ⟨some d,.call ⟨.builtin .append,⟨[o',jo]⟩,⟨[t,t]⟩⟩,type,pos,after,guard⟩).run P w= .ok (.value v') w':=by intro v' w' ir;simp only[execOp,resolve,invoke,builtin,fJ,gu,fR,List.map_toArray,gS,mU];rw[ir];rfl
    obtain⟨fB,ca,z,ak,aC,bk,dg,hf,hT,rp,rq⟩:=(vn aL aX).ex;obtain⟨eT,iY,e4⟩:=je aL aI;obtain rfl:=sJ e4;have wj:z.cells.size=fB.size:=by rw[rq,bk]
    simp only[eK]at he;split at he
    ·
     rename_i ys aK;cases he;unfold sH at aK;split at aK
     ·rename_i dL xs jr k4 aoJ ab aG;split at aK
      ·rename_i fk;obtain⟨rfl,fk⟩:=fk;subst fk;cases aK;rw[ab]at rx;rw[aG]at lV;simp only[ba]at rx lV;obtain⟨⟨uc,po,su,cx1,⟨Rw,Rx⟩,cx4⟩,rxn,rxo,rxt⟩:=rx;obtain⟨⟨nP,lB,vy,cy1,⟨Ry,Rz⟩,cy4⟩,_⟩:=lV;have FY:=rxn trivial;have xZ:(ev.appm d key g.size el x y).makes st=true:=by simp only[ev.makes,ab]
       rw[vy,FY]at mC;have c7:∀(v':Value) (w':World) (ho:List Value),(Builtin.append_ #[t,t] type #[.slice none 0 0,.slice nP ys.length lB]).run P w= .ok v' w'→w'.ownsRow w.heap.size el g.size v' ys.length ho→w.grownBy w' none→dH w ν g.size ys ho→
         (⟨some d,.call ⟨.builtin .append,⟨[o',jo]⟩,⟨[t,t]⟩⟩,type,pos,after,guard⟩:Oper).wp P a w K Q:=by
        intro v' w' ho f1 f2 f3 f4;obtain⟨cQ,dy⟩:=aM.newRowM (k:=κ) (xs:=ys) (.inl (aM.new _ (uE xZ))) f3 f2 f4 ay.1 (dt xZ);exact mm (mC _ _ f1) (dh _ _ _ (cQ.put (d:=some d) (by simpa[jw]using U) (dy (We f2 (by cases ys<;>simp at ay⊢)))))
       by_cases jj:ys=[]
       ·subst jj;exact c7 _ w [] (HN iY ak none 0 0 (eY _) nP lB) (World.ownsRow_nil w _ _ _) (aoR w _) (by simp[dH])
       ·rcases cy4 with cy4|⟨la,nD,ho,rfl,yj,mw⟩
        ·exact absurd cy4 jj
        ·have jO:=tC mw;have rU:∀j u,ho[j]? =some u→w.cell? ((⟨la,nD,none⟩:Addr).add j)=some u:=fun j u af=>by rw[pf];exact(uW yj af).2
         have rO:ys.length*fB.bytes≤140737488355328:=by
          have J:fB.bytes≤2048:=by rw[dg];exact hby
          have U:ys.length*fB.bytes≤ys.length*2048:=Nat.mul_le_mul_left _ J;simp only[lim]at ay;omega
         have lI:ys.length≤maxLen:=by simp only[lim]at ay;simp only[maxLen];omega
         obtain⟨v',w',f1,f2,f3,_⟩:=run_append_own (P:=P) w w.heap.size t type el fB z fB.size fB.bytes iY ak hT rfl rfl wj (by rw[bk];exact fy) (.slice none 0 0) 0 [] (World.ownsRow_nil w _ _ _)
          ⟨la,nD,none⟩ ys.length lB ho (by rw[jO,bk]) rU (yC mw) (by simpa using lI) (by simpa using rO) (eY _)
         exact c7 v' w' ho f1 (by rw[←bk];simpa using f2) (by simpa[oh]using f3) mw
      ·cases aK
     ·split at aK
      ·split at aK
       ·split at aK<;>cases aK
       ·cases aK
      ·cases aK
     ·cases aK
    ·
     rename_i k xs ys aK;cases he;unfold sH at aK;split at aK
     ·split at aK<;>cases aK
     ·rename_i dL bH n jr k4 aoJ ab aG;split at aK
      ·rename_i fk;obtain⟨rfl,fk⟩:=fk;subst fk;split at aK
       ·rename_i n' fZ wY xs' ad;split at aK
        ·rename_i rP;obtain⟨rfl,rfl,rfl⟩:=rP;cases aK;rw[ab]at rx;rw[aG]at lV;simp only[ba]at rx lV;obtain⟨⟨bx,po,su⟩,rxl,n0,w4,cN,dx,k2⟩:=rx;obtain⟨⟨nP,lB,vy,cy1,⟨Ry,Rz⟩,cy4⟩,_⟩:=lV;obtain⟨v0,fC,a7,bF,b0,cZ⟩:=aM.good.own k _ ad;rw[cN]at a7;simp only[dM,jF]at a7 bF;obtain⟨rfl,rfl⟩:=a7;have mE:a.eval o'=w4:=k2 rfl;obtain⟨df,n3,u9⟩:=cZ xs rfl;simp only at df n3;have we:fC.length=xs.length*g.size:=by rw[df];exact bF.1
         have kl:xs.length=n0:=df;by_cases jj:ys=[]
         ·subst jj;rw[vy,su]at mC;have lH:n0≤po:=by
           rcases bF.2 with⟨nE,yy⟩|⟨bl,cap,cur,nE,yy,AT,MA,_⟩
           ·rw[yy];exact Nat.zero_le _
           ·rw[←mE,su]at nE;injection nE with _ _ e;rw[e];exact MA
          have ir:=HN (P:=P) (w:=w) (ty:=type) iY ak (some ⟨bx,0,none⟩) n0 po lH nP lB;refine mm (mC _ _ (by simpa using ir)) (dh _ _ ν ?_);have hM:∀e9,look e9 (cB k ⟨n0,fZ,g.size,some xs⟩ st.e)=look e9 st.e:=fun e9=>by
           rw[jc];split
           ·rename_i e;subst e;rw[ad]
           ·rfl
          have mD:cR C {st with e:=cB k ⟨n0,fZ,g.size,some xs⟩ st.e} a w ν:=
           ⟨⟨aM.good.alt,aM.good.box,aM.good.inj,fun g o aX=>aM.good.own g o (by rw[←hM g];exact aX),fun g e9 n n' v v' bl bG a2=>aM.good.oinj g e9 n n' v v' bl (by rw[←hM g];exact bG) (by rw[←hM e9];exact a2),
           fun g j n v bl bG=>aM.good.obx g j n v bl (by rw[←hM g];exact bG),aM.good.one,fun bl ae=>aM.good.otr bl (ae.imp id (fun⟨g,n,v,bG,a2⟩=>⟨g,n,v,by rw[←hM g];exact bG,a2⟩))⟩,aM.fr,aM.defers,aM.size,aM.slot,aM.new⟩
          have ar:=mD.put (d:=some d) (by simpa[jw]using U) (p:= .row g.size k n0) (v:= .slice (some ⟨bx,0,none⟩) n0 po) (by simp only[ba];exact⟨⟨_,_,rfl⟩,rxl,_,_,cN,eY _,fun _=>by rw[←su];exact mE⟩)
          simpa[kl,eX]using ar
         ·have hyp:0<ys.length:=by cases ys<;>simp at jj⊢
          rcases cy4 with cy4|⟨la,nD,ho,rfl,yj,mw⟩
          ·exact absurd cy4 jj
          ·have jO:=tC mw;have rU:∀j u,ho[j]? =some u→w.cell? ((⟨la,nD,none⟩:Addr).add j)=some u:=fun j u af=>by rw[pf];exact(uW yj af).2
           have rO:(xs.length+ys.length)*fB.bytes≤140737488355328:=by
            have lE:fB.bytes≤2048:=by rw[dg];exact hby
            have pE:(xs.length+ys.length)*fB.bytes≤(xs.length+ys.length)*2048:=Nat.mul_le_mul_left _ lE;simp only[lim]at ay;omega
           have lI:xs.length+ys.length≤maxLen:=by simp only[lim]at ay;simp only[maxLen];omega
           have FM:dH w ν g.size (xs++ys) (fC++ho):=DF n3 mw;rw[vy,mE]at mC;have Ct:(∃v' w',(Builtin.append_ #[t,t] type #[w4,.slice (some ⟨la,nD,none⟩) ys.length lB]).run P w= .ok v' w'∧w'.ownsRow w.heap.size fZ fB.size v' (xs.length+ys.length) (fC++ho)∧w.grownBy w' none)→
             (⟨some d,.call ⟨.builtin .append,⟨[o',jo]⟩,⟨[t,t]⟩⟩,type,pos,after,guard⟩:Oper).wp P a w K Q:=by
            intro cP;obtain⟨v',w',f1,f2,f3⟩:=cP;obtain⟨cQ,dy⟩:=aM.newRowM (k:=k) (xs:=xs++ys) (el:=fZ) (sz:=g.size) (.inr ⟨_,ad,by simp;omega⟩) f3 (by rw[←bk];simpa using f2) FM (by simpa using ay) (n':=st.n) (o':=st.o)
             (fun j af=>⟨af,fun e=>by subst e;have:=(aM.new _ af).2.1;rw[cN]at this;cases this⟩)
            refine mm (mC _ _ f1) (dh _ _ (ν.withOwn k (xs++ys).length v') ?_);have:=cQ.put (d:=some d) (by simpa[jw]using U) (dy (by simpa using We f2 (by omega)));simpa[eX]using this
           rcases bF.2 with⟨nE,yy⟩|⟨bl,cap,cur,nE,yy,AT,MA,MB,MC,G9⟩
           ·
            have Ad:xs=[]:=List.eq_nil_of_length_eq_zero (by omega);have K4:fC=[]:=List.eq_nil_of_length_eq_zero (by rw[we,Ad];simp);subst Ad;subst K4;refine Ct ?_;obtain⟨v',w',f1,f2,f3,_⟩:=run_append_own (P:=P) w w.heap.size t type fZ fB z fB.size fB.bytes iY ak hT rfl rfl wj (by rw[bk];exact fy) (.slice none 0 0) 0 [] (World.ownsRow_nil w _ _ _)
             ⟨la,nD,none⟩ ys.length lB ho (by rw[jO,bk]) rU (yC mw) (by simpa using lI) (by simpa using rO) (eY _)
            exact⟨v',w',by rw[nE];exact f1,by simpa using f2,by simpa[oh]using f3⟩
           ·have oQ:w4.ownBlock=some bl:=by rw[nE];rfl
            by_cases rW:xs.length+ys.length≤cap
            ·have hmul:(xs.length+ys.length)*g.size≤cap*g.size:=Nat.mul_le_mul_right _ rW;rw[pV]at hmul;have f1:=run_append_room (P:=P) w t type fZ fB iY ak bl xs.length cap cur AT ⟨la,nD,none⟩ ys.length lB ho (by rw[jO,bk]) rU (yC mw) rW (by rw[jO,bk];omega);generalize T4:(cur.toList.take (xs.length*fB.size)++ho++cur.toList.drop (xs.length*fB.size+ho.length)).toArray=tp at f1;have kB:(w.setRow bl tp).heap[bl]? =some (.cells tp fZ (0,0)):=setRow_heap w bl cur tp fZ _ AT;have aw:(fC++ho).length=(xs++ys).length*g.size:=by rw[pS,we,jO,pS,pV]
             have b4:cur.toList.take (xs.length*fB.size)=fC:=by rw[kl,bk];exact G9
             have kD:tp.size=cap*g.size:=by rw[←T4];simp only[List.size_toArray,pS,List.length_take,sC,Array.length_toList];rw[bk];omega
             have pG:tp.toList.take ((xs++ys).length*g.size)=fC++ho:=by rw[←T4,b4];simp only[←aw];rw[List.take_append_of_le_length (eY _),mn]
             obtain⟨cQ,_,dy⟩:=aM.setRowM (w':=w.setRow bl tp) ad rfl cN oQ (v':= .slice (some ⟨bl,0,none⟩) (xs.length+ys.length) cap) rfl (xs':=xs++ys) (us:=fC++ho) (.inr (by simp;omega)) rfl rfl rfl (fun j af=>setRow_other w bl j tp af) (setRow_size w bl tp)
              ⟨aw,.inr ⟨bl,cap,tp,by simp,Nat.zero_le _,kB,by simpa using rW,MB,kD,pG⟩⟩ FM
             replace dy:=dy (by simpa using ay);refine mm (v:= .slice (some ⟨bl,0,none⟩) (xs.length+ys.length) cap) (w':=w.setRow bl tp) (mC _ _ ?_) (dh _ _ (ν.withOwn k (xs++ys).length (.slice (some ⟨bl,0,none⟩) (xs.length+ys.length) cap)) ?_)
             ·rw[nE,←kl];exact f1
             ·have:=cQ.put (d:=some d) (by simpa[jw]using U) dy;simpa[eX]using this
            ·refine Ct ?_;obtain⟨v',w',f1,f2,f3⟩:=run_append_arg_grows (P:=P) w t type fZ fB z fB.size fB.bytes iY ak hT rfl rfl wj (by rw[bk];exact fy) ⟨bl,0,none⟩ xs.length cap fC (by rw[we,bk])
              (fun j u af=>by have:=bF.cells oQ j u af;exact this) ⟨la,nD,none⟩ ys.length lB ho (by rw[jO,bk]) rU (by omega) lI rO
             exact⟨v',w',by rw[nE,←kl];exact f1,f2,f3⟩
        ·cases aK
       ·cases aK
      ·cases aK
     ·cases aK
    ·cases he
   ·cases b4
  ·cases a8
 ·rename_i sz x y t o' jo;simp only[cE,dS]at ax;obtain⟨⟨⟨J,U⟩,ar⟩,a8⟩:=ax;subst J;split at U
  ·rename_i f aI;simp only[dS]at U;simp only[eK]at he;generalize KP:cu st.t x=px at he;unfold rb at he;split at he
   ·rename_i dL k n i sO;split at he
    ·rename_i n' el jr xs ad;split at he
     ·rename_i CC;obtain⟨rfl,rfl⟩:=CC;split at he
      ·rename_i q bh;cases he;obtain⟨iW,bN,cq,dj,iH⟩:=ay;have rx:=et aM ar;rw[KP]at rx;have lV:=et aM a8;have vd:=vf lV bN;have vh:=pP vd;obtain⟨_,ep⟩:=vm aL aI w;have uM:(a.eval jo).cells.size=sz:=by rw[cq]at vh;simpa using vh
       obtain⟨bl,off,mv,CG,cY,bo,oO⟩:=aM.storeRow (P:=P) ad rx bh iW vd (by simpa[uM]using dj) (fun e=>by have:=ff List.length e;simp[uM]at this;omega);refine Ee (w':=w.setRow bl mv) ?_ (dh _ _ _ oO);simp only[execOp,Instr.storeAt,CG,Instr.sureAddr,storeVar,fJ,gu,fR,ep,uM,U,ne_eq,not_true_eq_false,if_false,cY]
      ·cases he
     ·cases he
    ·cases he
   ·cases he
  ·cases U
 ·rename_i d key sz el z x t o' jo;simp only[cE,dS,fK]at ax;obtain⟨⟨⟨⟨⟨J,U⟩,ar⟩,a8⟩,b4⟩,dd⟩:=ax;subst J;split at ar
  ·rename_i fZ aI;simp only[dS]at ar;subst ar;split at a8
   ·rename_i g aX;simp only[cE,dS,fK]at a8;obtain⟨⟨⟨rfl,fy⟩,hby⟩,bq⟩:=a8;obtain rfl:=Ow bq;have rx:=et aM b4;have lV:=et aM dd;simp only[eK]at he;split at he
    ·rename_i ft n ab;cases he;obtain⟨af8,jO⟩:=ay;obtain⟨m,rfl⟩:=Int.eq_ofNat_of_zero_le af8;rw[ab]at rx lV;simp only[ba]at rx lV;obtain⟨fB,ca,b9,ak,aC,bk,dg,hf,hT,rp,rq⟩:=(vn aL aX).ex;obtain⟨eT,iY,e4⟩:=je aL aI;obtain rfl:=sJ e4;have lI:m≤lim:=by simp only[lim]at jO⊢;omega
     have rO:fB.bytes*m≤281474976710656:=by have J:fB.bytes*m≤2048*m:=Nat.mul_le_mul_right _ (by omega);simp only[lim]at lI;omega
     obtain⟨agv,aft⟩:=Ov w ν rp;obtain⟨w',g1,g2,g3⟩:=run_make_full (P:=P) w w.heap.size t el fB b9 fB.size iY ak hT rfl ft ft m rO (by simp only[maxLen];simp only[lim]at lI;omega) (eY _);have lK:w'.ownsRow w.heap.size el g.size (.slice (some ⟨w.heap.size,0,none⟩) m m) (rj m g.zero).length (madeCells b9.cells (m*b9.cells.size)).toList:=by rw[bk,←rq]at g2;rw[List.length_replicate,←rq];exact g2
     obtain⟨cN,dx⟩:=aM.newRowM (k:=κ) (xs:=rj m g.zero) (.inl (aM.new _ (uE rfl))) g3 lK (by rw[←rq];exact Vi agv (by omega) (A5 aft) m) (by simpa using lI) (dt rfl);simp only[List.length_replicate]at cN dx;simp only[Int.toNat_natCast]at dh;refine mm (v:= .slice (some ⟨w.heap.size,0,none⟩) m m) (w':=w') ?_ (dh _ _ _ (cN.put (d:=some d) (by simpa[jw]using U) (p:= .row g.size κ m) (dx ⟨_,_,rfl⟩)));simp only[execOp];refine D9 ?_;rw[rx,lV];exact g1
    ·cases he
   ·cases a8
  ·cases ar
 ·cases ax
theorem ami{P:cF}{bC:List (Nat×dI)}(aL:fU P bC=true){C:fh}{st st':bs}{a:Act}{w:World}{ν:bf}(aM:cR C st a w ν){i:ev}{o:Oper}(ax:DN C.N bC i o=true)
  {c:Prop} (he:mi st i=some (c,st')) (ay:c) {K:Act→World→Prop} {Q:Exit→Act→World→Prop} (dh:∀bp w' bo,cR C st' bp w' bo→K bp w'):o.wp P a w K Q:=by
 have oM:qe st none→fresh st.n st.o (.loc st.n):=fun h=>wF (key:=none) h;have fx:∀j,fresh (st.n+1) st.o j→fresh st.n st.o j∧j≠ .loc st.n:=wG (key:=none);cases i with
 |v d i=>exact jV (κ:= .loc 0) (n':=0) (o₁:=[]) aL aM ax (fun h=>by simp[ev.makes]at h) (fun h=>by simp[ev.makes]at h) (by simpa only[mi,eK]using he) ay dh
 |box d key x=>simp only[mi]at he;cases he;exact jV (κ:=jT st key) (n':=nB st key) (o₁:=nC st key) aL aM ax (fun _=>wF ay.1) (fun _=>wG) (by simp only[eK]) ay.2 dh
 |alloc d key z=>simp only[mi]at he;cases he;exact jV (κ:=jT st key) (n':=nB st key) (o₁:=nC st key) aL aM ax (fun _=>wF ay) (fun _=>wG) (by simp only[eK]) trivial dh
 |mks d key sz el z x=>
  simp only[mi]at he;split at he
  ·rename_i ft n ab;cases he;exact jV (κ:=jT st key) (n':=nB st key) (o₁:=nC st key) aL aM ax (fun _=>wF ay.1) (fun _=>wG) (by simp only[eK,ab]) ay.2 dh
  ·cases he
 |storeE sz x y=>exact jV (κ:= .loc 0) (n':=0) (o₁:=[]) aL aM ax (fun h=>by simp[ev.makes]at h) (fun h=>by simp[ev.makes]at h) (by simpa only[mi,eK]using he) ay dh
 |store sz x y=>exact jV (κ:= .loc 0) (n':=0) (o₁:=[]) aL aM ax (fun h=>by simp[ev.makes]at h) (fun h=>by simp[ev.makes]at h) (by simpa only[mi,eK]using he) ay dh
 |bsl d sz el xs=>simp only[mi]at he;cases he;exact jV (κ:= .loc st.n) (n':=st.n+1) (o₁:=st.o) aL aM ax (fun _=>oM ay.1) (fun _=>fx) (by simp only[eK]) ay.2 dh
 |bslm d key sz el xs=>simp only[mi]at he;cases he;exact jV (κ:=jT st key) (n':=nB st key) (o₁:=nC st key) aL aM ax (fun _=>wF ay.1) (fun _=>wG) (by simp only[eK]) ay.2 dh
 |appm d key sz el x y=>
  simp only[mi]at he;split at he
  ·rename_i ys aK;cases he;exact jV (κ:=jT st key) (n':=nB st key) (o₁:=nC st key) aL aM ax (fun _=>wF ay.1) (fun _=>wG) (by simp only[eK,aK]) ay.2 dh
  ·rename_i k xs ys aK;cases he;refine jV (κ:= .loc 0) (n':=0) (o₁:=[]) aL aM ax (fun h=>?_) (fun h=>?_) (by simp only[eK,aK]) ay dh;all_goals
    exfalso
    simp only[ev.makes]at h
    split at h
    ·rename_i ab
     unfold sH at aK
     rw[ab]at aK
     split at aK
     ·split at aK<;>cases aK
     ·rename_i J _;cases J
     ·cases aK
    ·cases h
  ·cases he
 |mkmap d key=>simp only[mi]at he;cases he;exact jV (κ:=jT st key) (n':=nB st key) (o₁:=nC st key) aL aM ax (fun _=>wF ay) (fun _=>wG) (by simp only[eK]) trivial dh
 |mput cf x k v=>exact jV (κ:= .loc 0) (n':=0) (o₁:=[]) aL aM ax (fun h=>by simp[ev.makes]at h) (fun h=>by simp[ev.makes]at h) (by simpa only[mi,eK]using he) ay dh
 |range d key x=>
  simp only[mi]at he;split at he
  ·rename_i m ab;split at he
   ·rename_i cs di;split at he
    ·rename_i cs' hm;cases he;exact jV (κ:=jT st key) (n':=nB st key) (o₁:=nC st key) aL aM ax (fun _=>wF ay) (fun _=>wG) (by simp only[eK,ab,di,hm]) trivial dh
    ·cases he
   ·cases he
  ·cases he
 |app d sz el x y=>
  simp only[mi]at he;split at he
  ·rename_i dL tag xs jr k4 ys ab aG;split at he
   ·rename_i fk;split at he
    ·rename_i k;split at he
     ·rename_i ow ad;cases he;refine jV (κ:= .loc 0) (n':=0) (o₁:=[]) aL aM ax (fun h=>by simp[ev.makes,ab]at h) (fun h=>by simp[ev.makes,ab]at h) ?_ ay dh;simp only[eK,ab,aG,fk,and_self,if_true,ad]
     ·cases he
    ·cases he;refine jV (κ:= .loc st.n) (n':=st.n+1) (o₁:=st.o) aL aM ax (fun _=>oM ay.1) (fun _=>fx) ?_ ay.2 dh;simp only[eK,ab,aG,fk,and_self,if_true]
    ·cases he
   ·cases he
  ·cases he
structure cL where
 b:List (aH×List ah)
 e:List (aH×fL)
def fm(ν:bf)(s:cL)(bl:Nat):Prop:=(∃k,(look k s.b).isSome∧ν.bx k=some bl)∨(∃g n v,(look g s.e).isSome∧ν.ow g=some (n,v)∧v.ownBlock=some bl)
def oD(ν:bf)(s:cL):Prop:= ∀k,(look k s.b=none→ν.bx k=none)∧(look k s.e=none→ν.ow k=none)∧∀j b,¬ν.tr k j b
def cV(s:cL):List aH:=s.b.map (·.1)++s.e.map (·.1)
def iL(s:cL):Prop:=(∀m,look (.loc m) s.b=none)∧(∀m,look (.loc m) s.e=none)
def xb(P:cF)(f:FuncId)(be:Array Value)(w:World)(R:Ending→World→Prop):Prop:=((∃fn,P.funcs[f]? =some fn∧fn.body.isSome=true∧(fn.name== "runtime.NumGoroutine")=false)∧Calls P f be w R)∨ ∃v w',(callFunc f be).run P w= .ok (.value v) w'∧R (.returned v) w'
def bV(P:cF)(f:FuncId)(args:List ah)(s:cL)(Q:ah→cL→Prop):Prop:=
 ∀(w:World) (ν:bf) (be:Array Value),Good (fm ν s) w ν s.b s.e→oD ν s→cM w ν args be.toList→
  xb P f be w fun e w'=> ∃v r ai bo,e= .returned v∧Q r ai∧ba w' bo r v∧Good (fun bl=>fm ν s bl∨w.heap.size≤bl) w' bo ai.b ai.e∧oD bo ai∧iL ai∧pW ⟨w,ν,fm ν s,0,cV s⟩ w' bo
def Fk(κ:Option Nat)(ν:bf)(s:cL):Prop:= ∀k,(look k s.b=none→ν.bx k=none)∧(look k s.e=none→ν.ow k=none)∧∀j b,ν.tr k j b→∃m,κ=some m∧k= .loc m
theorem oD.k{ν:bf}{s:cL}(h:oD ν s):Fk none ν s:=fun k=>⟨(h k).1,(h k).2.1,fun j b ae=>absurd ae ((h k).2.2 j b)⟩
def Io(P:cF)(f:FuncId)(κ:Nat)(args:List ah)(s:cL)(Q:ah→cL→Prop):Prop:=
 ∀(w:World) (ν:bf) (be:Array Value),Good (fm ν s) w ν s.b s.e→oD ν s→cM w ν args be.toList→
  xb P f be w fun e w'=> ∃v r ai bo,e= .returned v∧Q r ai∧ba w' bo r v∧Good (fun bl=>fm ν s bl∨w.heap.size≤bl) w' bo ai.b ai.e∧Fk (some κ) bo ai∧iL ai∧pW ⟨w,ν,fm ν s,0,cV s⟩ w' bo
def bt(P:cF)(f:FuncId)(args:List ah)(r:ah):Prop:=bV P f args ⟨[],[]⟩ fun eS ai=>eS=r∧ai=⟨[],[]⟩
theorem tj{α:Type}{k:aH}{x:α}:∀{l:List (aH×α)},look k l=some x→(k,x)∈l
 |[],h=>by simp[look]at h
 |(i,y)::r,h=>by
  simp only[look]at h;split at h
  ·rename_i e;subst e;cases h;simp
  ·exact pa _ (tj h)
theorem tq{s:cL}{k:aH}(h:(look k s.b).isSome∨(look k s.e).isSome):k∈cV s:=by
 unfold cV;rcases h with h|h<;>obtain⟨x,ab⟩:=fE.1 h<;>have:=tj ab
 ·exact List.mem_append_left _ (iC.2 ⟨_,this,rfl⟩)
 ·exact List.mem_append_right _ (iC.2 ⟨_,this,rfl⟩)
section
open Classical
noncomputable def bf.cut(ν:bf)(S:aH→Prop):bf:={A:=ν.A,bx:=fun k=>if S k then ν.bx k else none,ow:=fun k=>if S k then ν.ow k else none,tr:=fun k j b=>S k∧ν.tr k j b}
theorem bf.cut_bx{ν:bf}{S:aH→Prop}{k:aH}(h:S k):(ν.cut S).bx k=ν.bx k:=by simp[bf.cut,h]
theorem bf.cut_ow{ν:bf}{S:aH→Prop}{k:aH}(h:S k):(ν.cut S).ow k=ν.ow k:=by simp[bf.cut,h]
theorem bf.cut_no{ν:bf}{S:aH→Prop}{k:aH}(h:¬S k):(ν.cut S).bx k=none∧(ν.cut S).ow k=none∧∀j b,¬(ν.cut S).tr k j b:=by simp[bf.cut,h]
theorem bf.cut_some{ν:bf}{S:aH→Prop}{k:aH}{b:Nat}(h:(ν.cut S).bx k=some b):S k∧ν.bx k=some b:=by
 by_cases ag:S k
 ·exact⟨ag,by rw[bf.cut_bx ag]at h;exact h⟩
 ·rw[(bf.cut_no ag).1]at h;cases h
theorem bf.cut_someO{ν:bf}{S:aH→Prop}{k:aH}{b:Nat×Value}(h:(ν.cut S).ow k=some b):S k∧ν.ow k=some b:=by
 by_cases ag:S k
 ·exact⟨ag,by rw[bf.cut_ow ag]at h;exact h⟩
 ·rw[(bf.cut_no ag).2.1]at h;cases h
theorem oo.cut(S:aH→Prop)(w:World)(ν:bf):oo S w ν w (ν.cut S):=⟨fun _ _ h=>⟨h,rfl⟩,fun k b ad h=>by rw[bf.cut_bx ad];exact h,fun g n u aX h=>⟨n,u,by rw[bf.cut_ow aX];exact h,.inl ⟨rfl,rfl⟩⟩,fun _ _ _=>rfl,fun _ _ _ ad h=>⟨ad,h⟩⟩
end
def gL(S:aH→Prop)(bP b:List (aH×List ah)):Prop:= ∀k cs,look k bP=some cs→look k b=some cs∧S k∧aJ S cs
def o1(S:aH→Prop)(fT e:List (aH×fL)):Prop:= ∀k o,look k fT=some o→look k e=some o∧S k∧dV S o
theorem Good.cut{pr Dx:Nat→Prop}{w:World}{ν:bf}{b bP:List (aH×List ah)}{e fT:List (aH×fL)}(h:Good pr w ν b e){S:aH→Prop}(ae:gL S bP b)(he:o1 S fT e)
  (TQ:∀bl,pr bl→(∃k,(look k bP).isSome∧(ν.cut S).bx k=some bl)∨(∃g n v,(look g fT).isSome∧(ν.cut S).ow g=some (n,v)∧v.ownBlock=some bl)→Dx bl):Good Dx w (ν.cut S) bP fT:=by
 have FL:∀k,(look k bP).isSome→(look k b).isSome∧S k:=fun k ad=>by obtain⟨cs,di⟩:=fE.1 ad;have:=ae k cs di;exact⟨by simp[this.1],this.2.1⟩
 have FN:∀k,(look k fT).isSome→(look k e).isSome∧S k:=fun k ad=>by obtain⟨cs,di⟩:=fE.1 ad;have:=he k cs di;exact⟨by simp[this.1],this.2.1⟩
 refine⟨h.alt,fun k cs ad=>?_,fun k bH bl J U ar a8=>?_,fun g o aX=>?_,fun g e9 n n' v v' bl J U ar a8 b4 dd=>?_,fun g k n v bl J U ar a8 b4=>?_,fun k=>?_,fun bl aL k j af=>?_⟩
 ·obtain⟨g1,g2,g3⟩:=ae k cs ad;obtain⟨bl,us,el,f1,f2,f3,f4,f5⟩:=h.box k cs g1;have lF:(ν.cut S).bx k=some bl:=by rw[bf.cut_bx g2];exact f1
  exact⟨bl,us,el,lF,TQ bl f2 (.inl ⟨k,by simp[ad],lF⟩),f3,f4,Xj (oo.cut S w ν) g3 f5⟩
 ·obtain⟨bG,a2⟩:=FL k J;obtain⟨b1,b2⟩:=FL bH U;exact h.inj k bH bl bG b1 (bf.cut_some ar).2 (bf.cut_some a8).2
 ·obtain⟨g1,g2,g3⟩:=he g o aX;obtain⟨v,us,f1,f2,f3,f4⟩:=h.own g o g1;have CE:(ν.cut S).ow g=some (o.n,v):=by rw[bf.cut_ow g2];exact f1
  exact⟨v,us,CE,f2,fun bl fs=>⟨TQ bl (f3 bl fs).1 (.inr ⟨g,o.n,v,by simp[aX],CE,fs⟩),(f3 bl fs).2⟩,
   fun xs ab=>⟨(f4 xs ab).1,Hy (oo.cut S w ν) _ _ _ (g3 xs ab) (f4 xs ab).2.1,(f4 xs ab).2.2⟩⟩
 ·obtain⟨bG,a2⟩:=FN g J;obtain⟨b1,b2⟩:=FN e9 U;exact h.oinj g e9 n n' v v' bl bG b1 (bf.cut_someO ar).2 (bf.cut_someO a8).2 b4 dd
 ·obtain⟨bG,a2⟩:=FN g J;obtain⟨b1,b2⟩:=FL k U;exact h.obx g k n v bl bG b1 (bf.cut_someO ar).2 a8 (bf.cut_some b4).2
 ·by_cases ag:S k
  ·rw[bf.cut_bx ag,bf.cut_ow ag];exact h.one k
  ·exact .inl (bf.cut_no ag).1
 ·refine h.otr bl ?_ k j af.2;rcases aL with⟨bH,bG,a2⟩|⟨g,n,v,bG,a2,a3⟩
  ·exact .inl ⟨bH,(FL bH bG).1,(bf.cut_some a2).2⟩
  ·exact .inr ⟨g,n,v,(FN g bG).1,(bf.cut_someO a2).2,a3⟩
structure iU (ob:List aH) (st st':bs):Prop where
 t:∀x∈st'.t,get x.1 st.t=x.2∧aF (fun k=> ¬fresh st'.n st'.o k) x.2
 b:gL (fun k=> ¬fresh st'.n st'.o k) st'.b st.b
 e:o1 (fun k=> ¬fresh st'.n st'.o k) st'.e st.e
 o:∀m∈ob,m∈st'.o
theorem SM:∀(i:Nat) (l:List (Nat×ah)),get i l= .junk∨(i,get i l)∈l
 |_,[]=>.inl rfl
 |i,(j,p)::r=>by
  by_cases h:j=i
  ·subst h;right;simp[get]
  ·rcases SM i r with J|J
   ·left;simp[get,h,J]
   ·right;simp[get,h];right;exact J
theorem cR.weaker{C:fh}{st st':bs}{a:Act}{w:World}{ν:bf}(h:cR C st a w ν)(hw:iU C.ob st st'):cR C st' a w (ν.cut fun k=> ¬fresh st'.n st'.o k):=by
 refine⟨h.good.cut hw.b hw.e (fun bl bQ _=>bQ),⟨h.fr.os,h.fr.tape,h.fr.output,h.fr.size,h.fr.block,h.fr.keep,h.fr.fresh,fun n b ae=>?_,h.fr.obn,fun m n u hm=>?_,h.fr.obr,fun k j bH dJ b J U=>h.fr.trd k j bH dJ b J.2 U.2,fun k j b ae=>h.fr.trb k j b ae.2,fun k j b ae=>?_,h.fr.sh⟩,h.defers,h.size,fun i=>?_,fun k ad=>bf.cut_no (fun au=>au ad)⟩
 ·rw[bf.cut_bx (fun cP=>cP.2 (hw.o _ (h.fr.obn n b ae)))];exact h.fr.obj n b ae
 ·rw[bf.cut_ow (fun cP=>cP.2 (hw.o _ (h.fr.obr m n u hm)))];exact h.fr.row m n u hm
 ·rw[bf.cut_bx ae.1,bf.cut_ow ae.1];exact h.fr.trn k j b ae.2
 ·rcases SM i st'.t with af|hm
  ·rw[af];simp[ba]
  ·obtain⟨J,U⟩:=hw.t _ hm;simp only at J;have:=h.slot i;rw[J]at this;exact kp (oo.cut _ w ν) _ _ U this
mutual
def dr:ah→ah
 | .slice sz _ xs=>.slice sz .no (cW xs)
 | .agg cs=>.agg (cW cs)
 | .tuple be=>.tuple (cW be)
 | .eptr x=>.eptr (dr x)
 | .iface t x=>.iface t (dr x)
 | .func f dv=>.func f (cW dv)
 |p=>p
def cW:List ah→List ah
 |[]=>[]
 |x::xs=>dr x::cW xs
end
theorem sn:∀xs,(cW xs).length=xs.length
 |[]=>rfl
 |x::xs=>by simp[cW,sn xs]
mutual
theorem J2{t:Bool}{w:World}{A:Nat→Nat→Prop}:∀(p:ah) (F:Nat→Prop) (v:Value),gi t w A F p v→gi t w A F (dr p) v
 | .int _ _,_,_,h=>by simpa only[dr]using h
 | .bool _,_,_,h=>by simpa only[dr]using h
 | .str _,_,_,h=>by simpa only[dr]using h
 | .slice sz tag xs,F,v,h=>by
  simp only[gi,dr]at h⊢;obtain⟨a,cap,J,U,ar,a8⟩:=h;refine⟨a,cap,by rw[sn];exact J,by rw[sn];exact U,by rw[sn];exact ar,?_⟩;rcases a8 with rfl|⟨b,off,us,G,ak,aC,bk,dg,hf,hT⟩
  ·exact .inl rfl
  ·exact .inr ⟨b,off,us,G,ak,aC,bk,dg,hf,Sy sz xs G us hT⟩
 | .agg cs,F,v,h=>by simp only[gi,dr]at h⊢;obtain⟨us,J,U⟩:=h;exact⟨us,J,Sz cs F _ U⟩
 | .junk,_,_,h=>by simp[gi]at h
 | .ptr _ _,_,_,h=>by simp[gi]at h
 | .eptr _,_,_,h=>by simp[gi]at h
 | .iface _ _,_,_,h=>by simp[gi]at h
 | .nilp,_,_,h=>by simp[gi]at h
 | .tuple _,_,_,h=>by simp[gi]at h
 | .func _ _,_,_,h=>by simp[gi]at h
 | .gmap _,_,_,h=>by simp[gi]at h
 | .row _ _ _,_,_,h=>by simp[gi]at h
 | .rptr _ _ _ _ _,_,_,h=>by simp[gi]at h
 | .hdm _ _,_,_,h=>by simp[gi]at h
 | .hdi _ _ _,_,_,h=>by simp[gi]at h
 | .cst _,_,_,h=>by simp[gi]at h
theorem Sz{t:Bool}{w:World}{A:Nat→Nat→Prop}:∀(cs:List ah) (F:Nat→Prop) (us:List Value),ux t w A F cs us→ux t w A F (cW cs) us
 |[],_,_,h=>by simpa only[cW]using h
 |c::cs,F,us,h=>by simp only[ux,cW]at h⊢;obtain⟨u,ch,ij,iD,J,U,⟨b4,dd⟩,eo⟩:=h;exact⟨u,ch,ij,iD,J,U,⟨J2 c ij u b4,dd⟩,Sz cs iD ch eo⟩
theorem Sy{t:Bool}{w:World}{A:Nat→Nat→Prop}(sz:Nat):∀(cs:List ah) (F:Nat→Prop) (us:List Value),uw t w A F sz cs us→uw t w A F sz (cW cs) us
 |[],_,_,h=>by simpa only[cW]using h
 |c::cs,F,us,h=>by simp only[uw,cW]at h⊢;obtain⟨u,ch,ij,iD,J,U,⟨b4,dd⟩,eo⟩:=h;exact⟨u,ch,ij,iD,J,U,⟨J2 c ij u b4,dd⟩,Sy sz cs iD ch eo⟩
end
theorem Sx{t:Bool}{w:World}{A:Nat→Nat→Prop}{F:Nat→Prop}{sz:Nat}{tag:By}(k4:By){xs:List ah}(v:Value)(h:gi t w A F (.slice sz tag xs) v):gi t w A F (.slice sz k4 (cW xs)) v:=by have:=J2 _ F v h;simp only[dr,gi]at this⊢;exact this
mutual
theorem k3{w:World}{ν:bf}:∀(p:ah) (v:Value),ba w ν p v→ba w ν (dr p) v
 | .junk,_,h=>by simpa only[dr]using h
 | .int k n,_,h=>by simpa only[dr]using h
 | .bool b,_,h=>by simpa only[dr]using h
 | .str s,_,h=>by simpa only[dr]using h
 | .slice sz tag xs,v,h=>by
  simp only[ba,dr]at h⊢;obtain⟨⟨a,cap,J,U,ar,a8⟩,b4,dd⟩:=h;refine⟨⟨a,cap,by rw[sn];exact J,by rw[sn];exact U,by rw[sn];exact ar,?_⟩,fun e=>(by cases e),fun g e=>(by cases e),fun _ _ e=>(by cases e),fun _ e=>(by cases e)⟩;rcases a8 with rfl|⟨b,off,us,a8,dd,eo⟩
  ·exact .inl rfl
  ·exact .inr ⟨b,off,us,a8,dd,Xm sz xs us eo⟩
 | .agg cs,v,h=>by simp only[ba,dr]at h⊢;obtain⟨us,J,U⟩:=h;exact⟨us,J,Xq cs _ U⟩
 | .ptr key off,v,h=>by simpa only[dr]using h
 | .iface t x,v,h=>by simp only[ba,dr]at h⊢;obtain⟨u,J,U⟩:=h;exact⟨u,J,k3 x u U⟩
 | .eptr x,v,h=>by simp only[ba,dr]at h⊢;obtain⟨b,off,u,J,U,ar⟩:=h;exact⟨b,off,u,J,k3 x u U,ar⟩
 | .nilp,_,h=>by simpa only[dr]using h
 | .tuple be,v,h=>by simp only[ba,dr]at h⊢;obtain⟨us,J,U⟩:=h;exact⟨us,J,HE be _ U⟩
 | .func f dv,v,h=>by simp only[ba,dr]at h⊢;obtain⟨us,J,U⟩:=h;exact⟨us,J,HE dv _ U⟩
 | .gmap key,v,h=>by simpa only[dr]using h
 | .row _ _ _,v,h=>by simpa only[dr]using h
 | .rptr _ _ _ _ _,v,h=>by simpa only[dr]using h
 | .cst _,v,h=>by simpa only[dr]using h
theorem Xq{w:World}{ν:bf}:∀(cs:List ah) (us:List Value),c5 w ν cs us→c5 w ν (cW cs) us
 |[],_,h=>by simpa only[cW]using h
 |c::cs,us,h=>by simp only[c5,cW]at h⊢;obtain⟨u,ch,J,U,ar⟩:=h;exact⟨u,ch,J,⟨k3 c u U.1,U.2⟩,Xq cs ch ar⟩
theorem HE{w:World}{ν:bf}:∀(cs:List ah) (us:List Value),cM w ν cs us→cM w ν (cW cs) us
 |[],_,h=>by simpa only[cW]using h
 |c::cs,us,h=>by simp only[cM,cW]at h⊢;obtain⟨u,ch,J,U,ar⟩:=h;exact⟨u,ch,J,k3 c u U,HE cs ch ar⟩
theorem Xm{w:World}{ν:bf}(sz:Nat):∀(xs:List ah) (us:List Value),dH w ν sz xs us→dH w ν sz (cW xs) us
 |[],_,h=>by simpa only[cW]using h
 |x::xs,us,h=>by simp only[dH,cW]at h⊢;obtain⟨u,ch,J,⟨U,ar,a8⟩,b4⟩:=h;exact⟨u,ch,J,⟨k3 x u U,ar,a8⟩,Xm sz xs ch b4⟩
end
def inObs(s:cL)(k:aH):Prop:=(look k s.b).isSome=true∨(look k s.e).isSome=true
def cz{α β:Type}(s:List (aH×β)):List (aH×α)→List (aH×α)
 |[]=>[]
 |(k,x)::r=>match look k s with
  |some _=>cz s r
  |none=>(k,x)::cz s r
theorem uZ{α β:Type}(s:List (aH×β))(k:aH):∀l:List (aH×α),look k (cz s l)=if(look k s).isSome then none else look k l
 |[]=>by simp[cz,look]
 |(i,x)::r=>by
  simp only[cz];by_cases e:i=k
  ·subst e;cases h:look i s with
   |some y=>simp[uZ s i r,h]
   |none=>simp[look]
  ·cases h:look i s with
   |some y=>simp[uZ s k r,look,e]
   |none=>simp[look,e,uZ s k r]
theorem yi{α:Type}(k:aH):∀l a1:List (aH×α),look k (l++a1)=match look k l with|some x=>some x|none=>look k a1
 |[],a1=>by simp[look]
 |(i,x)::r,a1=>by
  by_cases e:i=k
  ·simp[look,e]
  ·simp[look,e,yi k r a1]
def after(st:bs)(s ai:cL)(d:Option Nat)(r:ah):bs:={t:=eX d r st.t,b:=cz s.b st.b++ai.b,e:=cz s.e st.e++ai.e,n:=st.n,o:=st.o++cV ai}
section
open Classical
noncomputable def bf.join(ν bo:bf)(s ai:cL):bf:={A:=bo.A,bx:=fun k=>if(look k s.b).isSome∨(look k ai.b).isSome then bo.bx k else ν.bx k,ow:=fun k=>if(look k s.e).isSome∨(look k ai.e).isSome then bo.ow k else ν.ow k,tr:=fun k j b=>ν.tr k j b∨bo.tr k j b}
end
theorem cR.callK{C:fh}{st:bs}{a:Act}{w w':World}{ν bo:bf}(h:cR C st a w ν){s ai:cL}(ae:gL (inObs s) s.b st.b)(he:o1 (inObs s) s.e st.e)(uK:iL s)
  (aX:Good (fun bl=>fm (ν.cut (inObs s)) s bl∨w.heap.size≤bl) w' bo ai.b ai.e) {κ:Option Nat} (ab:Fk κ bo ai) (agS:∀m,κ=some m→ν.bx (.loc m)=none∧ν.ow (.loc m)=none∧∀j b,¬ν.tr (.loc m) j b) {n':Nat} {o':List aH} (dt:∀k,fresh n' o' k→fresh st.n (st.o++cV ai) k∧∀m,κ=some m→k≠ .loc m) (s5:iL ai) (aI:pW ⟨w,ν.cut (inObs s),fm (ν.cut (inObs s)) s,0,cV s⟩ w' bo)
  (KI:∀m,(look (.obj m) ai.b).isSome→(look (.obj m) s.b).isSome∨ .obj m∉st.o) (cH:∀m,(look (.obj m) ai.e).isSome→(look (.obj m) s.e).isSome∨ .obj m∉st.o) (d:Option Nat) (aR:jw C.N d=true) {r:ah} {v:Value} (aM:ba w' bo r v):
  cR C {after st s ai d r with n:=n',o:=o'} (a.put d v) w' (ν.join bo s ai):=by
 have qT:∀k,(look k s.b).isSome→(look k st.b).isSome:=fun k ad=>by obtain⟨cs,di⟩:=fE.1 ad;simp[(ae k cs di).1]
 have lM:∀k,(look k s.e).isSome→(look k st.e).isSome:=fun k ad=>by obtain⟨cs,di⟩:=fE.1 ad;simp[(he k cs di).1]
 have agd:∀k,(look k ai.b).isSome→¬(look k s.b).isSome→ν.bx k=none:=fun k ad au=>by
  cases k with
  |loc m=>rw[s5.1 m]at ad;cases ad
  |obj m=>exact(h.new (.obj m) ⟨trivial,(KI m ad).resolve_left au⟩).1
 have age:∀k,(look k ai.e).isSome→¬(look k s.e).isSome→ν.ow k=none:=fun k ad au=>by
  cases k with
  |loc m=>rw[s5.2 m]at ad;cases ad
  |obj m=>exact(h.new (.obj m) ⟨trivial,(cH m ad).resolve_left au⟩).2.1
 have ahm:∀k,(look k s.b).isSome→(ν.join bo s ai).bx k=bo.bx k:=fun k ad=>by simp[bf.join,ad]
 have Uo:∀k,(look k ai.b).isSome→(ν.join bo s ai).bx k=bo.bx k:=fun k ad=>by simp[bf.join,ad]
 have Up:∀k,ν.bx k≠none→¬(look k s.b).isSome→(ν.join bo s ai).bx k=ν.bx k:=fun k J U=>by have ar:¬(look k ai.b).isSome:=fun ar=>J (agd k ar U);simp[bf.join,U,ar]
 have ahn:∀k,(look k s.e).isSome→(ν.join bo s ai).ow k=bo.ow k:=fun k ad=>by simp[bf.join,ad]
 have Lk:∀k,(look k ai.e).isSome→(ν.join bo s ai).ow k=bo.ow k:=fun k ad=>by simp[bf.join,ad]
 have Ll:∀k,ν.ow k≠none→¬(look k s.e).isSome→(ν.join bo s ai).ow k=ν.ow k:=fun k J U=>by have ar:¬(look k ai.e).isSome:=fun ar=>J (age k ar U);simp[bf.join,U,ar]
 have Y3:∀k b,bo.bx k=some b→(look k ai.b).isSome:=fun k b ad=>by
  cases aw:look k ai.b with
  |some _=>rfl
  |none=>rw[(ab k).1 aw]at ad;cases ad
 have Y4:∀k b,bo.ow k=some b→(look k ai.e).isSome:=fun k b ad=>by
  cases aw:look k ai.e with
  |some _=>rfl
  |none=>rw[(ab k).2.1 aw]at ad;cases ad
 have ax:ly w ν w' (ν.join bo s ai):=by
  refine⟨fun b o bm=>aI.keep b o bm,fun k b _ ad=>?_,fun g n u _ aX=>?_,fun b o bm=>aI.sh b o bm,fun _ _ _ _ h=>.inl h⟩
  ·by_cases ag:(look k s.b).isSome
   ·rw[ahm k ag];cases k with
    |loc m=>rw[uK.1 m]at ag;cases ag
    |obj m=>exact aI.obj m b (by rw[bf.cut_bx (.inl ag)];exact ad)
   ·rw[Up k (by rw[ad];simp) ag];exact ad
  ·by_cases ag:(look g s.e).isSome
   ·rw[ahn g ag];cases g with
    |loc m=>rw[uK.2 m]at ag;cases ag
    |obj m=>exact aI.row m n u (by rw[bf.cut_ow (.inr ag)];exact aX)
   ·rw[Ll g (by rw[aX];simp) ag];exact⟨n,u,aX,.inl ⟨rfl,rfl⟩⟩
 have hX:ly w' bo w' (ν.join bo s ai):=⟨fun b o bm=>⟨bm,rfl⟩,fun k b _ ad=>by rw[Uo k (Y3 k b ad)];exact ad,fun g n u _ ad=>⟨n,u,by rw[Lk g (Y4 g _ ad)];exact ad,.inl ⟨rfl,rfl⟩⟩,fun _ _ _=>rfl,fun _ _ _ _ h=>.inr h⟩
 have qN:∀bl,fm (ν.cut (inObs s)) s bl→C.pr bl∧bl<w.heap.size:=by
  intro bl fs;rcases fs with⟨k,J,U⟩|⟨g,n,u,J,U,ar⟩
  ·have a8:=(bf.cut_some U).2;obtain⟨cs,di⟩:=fE.1 (qT k J);obtain⟨iG,us,el,g1,g2,_⟩:=h.good.box k cs di;rw[a8]at g1;cases g1;exact⟨g2,h.good.boxLt di a8⟩
  ·have a8:=(bf.cut_someO U).2;obtain⟨o,FZ⟩:=fE.1 (lM g J);obtain⟨v',us,g1,g2,g3,_⟩:=h.good.own g o FZ;rw[a8]at g1;cases g1;exact⟨(g3 bl ar).1,h.good.ownLt FZ a8 ar⟩
 have TR:∀bl,fm (ν.cut (inObs s)) s bl∨w.heap.size≤bl→C.pr bl:=fun bl fs=>by
  rcases fs with fs|fs
  ·exact(qN bl fs).1
  ·exact .inr (kc h.fr.size fs)
 have agA:∀k cs bl,look k st.b=some cs→¬(look k s.b).isSome→ν.bx k=some bl→¬fm (ν.cut (inObs s)) s bl:=by
  intro k cs bl J U ar a8;rcases a8 with⟨bH,bG,a2⟩|⟨g,n,u,bG,a2,a3⟩
  ·have:=h.good.inj k bH bl (by simp[J]) (qT bH bG) ar (bf.cut_some a2).2;subst this;exact U bG
  ·exact h.good.obx g k n u bl (lM g bG) (by simp[J]) (bf.cut_someO a2).2 a3 ar
 have agB:∀g o n u bl,look g st.e=some o→¬(look g s.e).isSome→ν.ow g=some (n,u)→u.ownBlock=some bl→¬fm (ν.cut (inObs s)) s bl:=by
  intro g o n u bl J U ar a8 b4;rcases b4 with⟨bH,bG,a2⟩|⟨e9,n',fe,bG,a2,a3⟩
  ·exact h.good.obx g bH n u bl (by simp[J]) (qT bH bG) ar a8 (bf.cut_some a2).2
  ·have:=h.good.oinj g e9 n n' u fe bl (by simp[J]) (lM e9 bG) ar (bf.cut_someO a2).2 a8 a3;subst this;exact U bG
 have Ri:∀k cs,look k (cz s.b st.b++ai.b)=some cs→(¬(look k s.b).isSome∧look k st.b=some cs)∨look k ai.b=some cs:=by
  intro k cs ad;rw[yi,uZ]at ad;by_cases ag:(look k s.b).isSome
  ·simp only[ag,if_true]at ad;exact .inr ad
  ·simp only[ag]at ad;cases aw:look k st.b with
   |some x=>simp[aw]at ad;subst ad;exact .inl ⟨ag,rfl⟩
   |none=>simp[aw]at ad;exact .inr ad
 have Rj:∀k cs,look k (cz s.e st.e++ai.e)=some cs→(¬(look k s.e).isSome∧look k st.e=some cs)∨look k ai.e=some cs:=by
  intro k cs ad;rw[yi,uZ]at ad;by_cases ag:(look k s.e).isSome
  ·simp only[ag,if_true]at ad;exact .inr ad
  ·simp only[ag]at ad;cases aw:look k st.e with
   |some x=>simp[aw]at ad;subst ad;exact .inl ⟨ag,rfl⟩
   |none=>simp[aw]at ad;exact .inr ad
 have Ba:∀bl,fm (ν.cut (inObs s)) s bl∨w.heap.size≤bl→∀iG,iG<w.heap.size→¬fm (ν.cut (inObs s)) s iG→bl≠iG:=by
  intro bl J iG U ar e;subst e;rcases J with J|J
  ·exact ar J
  ·omega
 have Lp:∀bl,bl<w.heap.size→¬fm (ν.cut (inObs s)) s bl→w'.heap[bl]? =w.heap[bl]?:=fun bl J U=>aI.block bl J U;have isB:∀k bl,(look k (cz s.b st.b++ai.b)).isSome→(ν.join bo s ai).bx k=some bl→(¬(look k s.b).isSome∧(look k st.b).isSome∧ν.bx k=some bl)∨((look k ai.b).isSome∧bo.bx k=some bl):=by
  intro k bl ad lF;obtain⟨cs,di⟩:=fE.1 ad;rcases Ri k cs di with⟨J,U⟩|J
  ·obtain⟨iG,us,el,g1,_⟩:=h.good.box k cs U;rw[Up k (by rw[g1];simp) J]at lF;exact .inl ⟨J,by simp[U],lF⟩
  ·rw[Uo k (by simp[J])]at lF;exact .inr ⟨by simp[J],lF⟩
 have Gk:∀k x,(look k (cz s.e st.e++ai.e)).isSome→(ν.join bo s ai).ow k=some x→(¬(look k s.e).isSome∧(look k st.e).isSome∧ν.ow k=some x)∨((look k ai.e).isSome∧bo.ow k=some x):=by
  intro k x ad lF;obtain⟨cs,di⟩:=fE.1 ad;rcases Rj k cs di with⟨J,U⟩|J
  ·obtain⟨v',us,g1,_⟩:=h.good.own k cs U;rw[Ll k (by rw[g1];simp) J]at lF;exact .inl ⟨J,by simp[U],lF⟩
  ·rw[Lk k (by simp[J])]at lF;exact .inr ⟨by simp[J],lF⟩
 have BH:∀k bl,¬(look k s.b).isSome→(look k st.b).isSome→ν.bx k=some bl→bl<w.heap.size∧¬fm (ν.cut (inObs s)) s bl:=by intro k bl J U ar;obtain⟨cs,di⟩:=fE.1 U;exact⟨h.good.boxLt di ar,agA k cs bl di J ar⟩
 have yI:∀k n u bl,¬(look k s.e).isSome→(look k st.e).isSome→ν.ow k=some (n,u)→u.ownBlock=some bl→bl<w.heap.size∧¬fm (ν.cut (inObs s)) s bl:=by intro k n u bl J U ar a8;obtain⟨cs,di⟩:=fE.1 U;exact⟨h.good.ownLt di ar a8,agB k cs n u bl di J ar a8⟩
 have EG:∀k bl,(look k ai.b).isSome→bo.bx k=some bl→fm (ν.cut (inObs s)) s bl∨w.heap.size≤bl:=by intro k bl J U;obtain⟨cs,di⟩:=fE.1 J;obtain⟨iG,us,el,g1,g2,_⟩:=aX.box k cs di;rw[U]at g1;cases g1;exact g2
 have HM:∀k n u bl,(look k ai.e).isSome→bo.ow k=some (n,u)→u.ownBlock=some bl→fm (ν.cut (inObs s)) s bl∨w.heap.size≤bl:=by intro k n u bl J U ar;obtain⟨cs,di⟩:=fE.1 J;obtain⟨v',us,g1,g2,g3,_⟩:=aX.own k cs di;rw[U]at g1;cases g1;exact(g3 bl ar).1
 have bm:∀bl o,bo.A bl o→bl<w.heap.size→¬fm (ν.cut (inObs s)) s bl→ν.A bl o:=by
  intro bl o J U ar;rcases aI.fresh bl o J with a8|a8|a8
  ·exact a8
  ·exact absurd a8 ar
  ·simp only at a8;omega
 have oO:cR C {t:=st.t,b:=cz s.b st.b++ai.b,e:=cz s.e st.e++ai.e,n:=n',o:=o'} a w' (ν.join bo s ai):=by
  refine h.over ax rfl ⟨aX.alt,fun k cs ad=>?_,fun k bH bl J U ar a8=>?_,fun g o de=>?_,fun g e9 n n' u fe bl J U ar a8 b4 dd=>?_,fun g k n u bl J U ar a8 b4=>?_,fun k=>?_,fun bl aL k j lN=>?_⟩
   ⟨aI.os.trans h.fr.os,aI.tape.trans h.fr.tape,aI.output.trans h.fr.output,kc h.fr.size aI.size,fun k ad hm=>?_,fun b o rH=>?_,fun b o rH=>?_,fun n b au=>ax.bx _ _ trivial (h.fr.obj n b au),h.fr.obn,
    fun m n u hm=>DL (h.fr.row m n u hm) (fun n u=>ax.ow _ n u trivial),h.fr.obr,fun k j bH dJ b J U=>?_,fun k j b ae=>?_,fun k j b ae=>?_,fun b o bm=>(ax.sh b o (h.fr.keep b o bm).1).trans (h.fr.sh b o bm)⟩ (fun k ad=>?_)
  ·rcases Ri k cs ad with⟨J,U⟩|J
   ·obtain⟨bl,us,el,g1,g2,g3,g4,g5⟩:=h.good.box k cs U;obtain⟨b1,b2⟩:=BH k bl J (by simp[U]) g1;exact⟨bl,us,el,ax.bx _ _ trivial g1,g2,fun o rH=>g3 o (bm bl o rH b1 b2),by rw[Lp bl b1 b2];exact g4,qn ax g5⟩
   ·obtain⟨bl,us,el,g1,g2,g3,g4,g5⟩:=aX.box k cs J;exact⟨bl,us,el,hX.bx _ _ trivial g1,TR bl g2,g3,g4,qn hX g5⟩
  ·rcases isB k bl J ar with⟨bG,a2,a3⟩|⟨bG,a2⟩<;>rcases isB bH bl U a8 with⟨b1,b2,fN⟩|⟨b1,b2⟩
   ·exact h.good.inj k bH bl a2 b2 a3 fN
   ·obtain⟨bN,cq⟩:=BH k bl bG a2 a3;exact absurd rfl (Ba bl (EG bH bl b1 b2) bl bN cq)
   ·obtain⟨bN,cq⟩:=BH bH bl b1 b2 fN;exact absurd rfl (Ba bl (EG k bl bG a2) bl bN cq)
   ·exact aX.inj k bH bl bG b1 a2 b2
  ·rcases Rj g o de with⟨J,U⟩|J
   ·obtain⟨u,us,g1,g2,g3,g4⟩:=h.good.own g o U;refine⟨u,us,by rw[Ll g (by rw[g1];simp) J];exact g1,⟨g2.1,?_⟩,fun bl fs=>?_,sj ax (fun bl fs j rH=>?_) g4⟩
    ·rcases g2.2 with aC|⟨bb,cap,cur,f1,f2,f3,f4⟩
     ·exact .inl aC
     ·obtain⟨b1,b2⟩:=yI g _ u bb J (by simp[U]) g1 (by rw[f1];rfl);exact .inr ⟨bb,cap,cur,f1,f2,by rw[Lp bb b1 b2];exact f3,f4⟩
    ·obtain⟨b1,b2⟩:=yI g _ u bl J (by simp[U]) g1 fs;exact⟨(g3 bl fs).1,fun j rH=>(g3 bl fs).2 j (bm bl j rH b1 b2)⟩
    ·obtain⟨b1,b2⟩:=yI g _ u bl J (by simp[U]) g1 fs;exact bm bl j rH b1 b2
   ·obtain⟨u,us,g1,g2,g3,g4⟩:=aX.own g o J;exact⟨u,us,by rw[Lk g (by simp[J])];exact g1,g2,fun bl fs=>⟨TR bl (g3 bl fs).1,(g3 bl fs).2⟩,sj hX (fun _ _ _ h=>h) g4⟩
  ·rcases Gk g _ J ar with⟨bG,a2,a3⟩|⟨bG,a2⟩<;>rcases Gk e9 _ U a8 with⟨b1,b2,fN⟩|⟨b1,b2⟩
   ·exact h.good.oinj g e9 n n' u fe bl a2 b2 a3 fN b4 dd
   ·obtain⟨bN,cq⟩:=yI g n u bl bG a2 a3 b4;exact absurd rfl (Ba bl (HM e9 n' fe bl b1 b2 dd) bl bN cq)
   ·obtain⟨bN,cq⟩:=yI e9 n' fe bl b1 b2 fN dd;exact absurd rfl (Ba bl (HM g n u bl bG a2 b4) bl bN cq)
   ·exact aX.oinj g e9 n n' u fe bl bG b1 a2 b2 b4 dd
  ·rcases Gk g _ J ar with⟨bG,a2,a3⟩|⟨bG,a2⟩<;>rcases isB k bl U b4 with⟨b1,b2,fN⟩|⟨b1,b2⟩
   ·exact h.good.obx g k n u bl a2 b2 a3 a8 fN
   ·obtain⟨bN,cq⟩:=yI g n u bl bG a2 a3 a8;exact absurd rfl (Ba bl (EG k bl b1 b2) bl bN cq)
   ·obtain⟨bN,cq⟩:=BH k bl b1 b2 fN;exact absurd rfl (Ba bl (HM g n u bl bG a2 a8) bl bN cq)
   ·exact aX.obx g k n u bl bG b1 a2 a8 b2
  ·
   cases lF:(ν.join bo s ai).bx k with
   |none=>exact .inl rfl
   |some bl=>
    right;cases CE:(ν.join bo s ai).ow k with
    |none=>rfl
    |some x=>
     exfalso;have ak:(ν.bx k=some bl∧¬(look k s.b).isSome∧¬(look k ai.b).isSome)∨bo.bx k=some bl:=by
      by_cases ag:(look k s.b).isSome∨(look k ai.b).isSome
      ·right;simpa[bf.join,ag]using lF
      ·left;simp only[not_or]at ag;exact⟨by simpa[bf.join,ag.1,ag.2]using lF,ag.1,ag.2⟩
     have aC:(ν.ow k=some x∧¬(look k s.e).isSome∧¬(look k ai.e).isSome)∨bo.ow k=some x:=by
      by_cases ag:(look k s.e).isSome∨(look k ai.e).isSome
      ·right;simpa[bf.join,ag]using CE
      ·left;simp only[not_or]at ag;exact⟨by simpa[bf.join,ag.1,ag.2]using CE,ag.1,ag.2⟩
     rcases ak with⟨bG,a2,a3⟩|bG<;>rcases aC with⟨b1,b2,fN⟩|b1
     ·rcases h.good.one k with cP|cP
      ·rw[cP]at bG;cases bG
      ·rw[cP]at b1;cases b1
     ·have uI:=Y4 k x b1;have fk:(look k s.e).isSome:=by
       cases k with
       |loc m=>rw[s5.2 m]at uI;cases uI
       |obj m=>
        rcases cH m uI with cP|cP
        ·exact cP
        ·rw[(h.new (.obj m) ⟨trivial,cP⟩).1]at bG;cases bG
      obtain⟨o,FZ⟩:=fE.1 (lM k fk);obtain⟨v',us,g1,_⟩:=h.good.own k o FZ;rcases h.good.one k with cP|cP
      ·rw[cP]at bG;cases bG
      ·rw[cP]at g1;cases g1
     ·have xR:=Y3 k bl bG;have fk:(look k s.b).isSome:=by
       cases k with
       |loc m=>rw[s5.1 m]at xR;cases xR
       |obj m=>
        rcases KI m xR with cP|cP
        ·exact cP
        ·rw[(h.new (.obj m) ⟨trivial,cP⟩).2.1]at b1;cases b1
      obtain⟨cs,di⟩:=fE.1 (qT k fk);obtain⟨iG,us,el,g1,_⟩:=h.good.box k cs di;rcases h.good.one k with cP|cP
      ·rw[cP]at g1;cases g1
      ·rw[cP]at b1;cases b1
     ·rcases aX.one k with cP|cP
      ·rw[cP]at bG;cases bG
      ·rw[cP]at b1;cases b1
  ·have TG:∀k j,bo.tr k j bl→w.heap.size≤bl:=fun k j cP=>by
    rcases(aI.trb k j bl cP).1 with a2|a2
    ·obtain⟨m,_,hm⟩:=(ab k).2.2 j bl cP;rw[hm]at a2;cases a2
    ·exact a2
   have hold:fm (ν.cut (inObs s)) s bl→¬ν.tr k j bl:=by
    rintro(⟨bH,bG,a2⟩|⟨g,n,u,bG,a2,a3⟩) cP
    ·exact h.good.otr bl (.inl ⟨bH,qT bH bG,(bf.cut_some a2).2⟩) k j cP
    ·exact h.good.otr bl (.inr ⟨g,n,u,lM g bG,(bf.cut_someO a2).2,a3⟩) k j cP
   have kB:fm (ν.cut (inObs s)) s bl∨w.heap.size≤bl→¬ν.tr k j bl:=by
    rintro(J|J) cP
    ·exact hold J cP
    ·have:=(h.fr.trb k j bl cP).2;omega
   rcases aL with⟨bH,bG,a2⟩|⟨g,n,u,bG,a2,a3⟩
   ·rcases isB bH bl bG a2 with⟨b1,b2,fN⟩|⟨b1,b2⟩
    ·rcases lN with lN|lN
     ·exact h.good.otr bl (.inl ⟨bH,b2,fN⟩) k j lN
     ·have:=(BH bH bl b1 b2 fN).1;have:=TG k j lN;omega
    ·rcases lN with lN|lN
     ·exact kB (EG bH bl b1 b2) lN
     ·exact aX.otr bl (.inl ⟨bH,b1,b2⟩) k j lN
   ·rcases Gk g _ bG a2 with⟨b1,b2,fN⟩|⟨b1,b2⟩
    ·rcases lN with lN|lN
     ·exact h.good.otr bl (.inr ⟨g,n,u,b2,fN,a3⟩) k j lN
     ·have:=(yI g n u bl b1 b2 fN a3).1;have:=TG k j lN;omega
    ·rcases lN with lN|lN
     ·exact kB (HM g n u bl b1 b2 a3) lN
     ·exact aX.otr bl (.inr ⟨g,n,u,b1,b2,a3⟩) k j lN
  ·have bE:k<w.heap.size:=Nat.lt_of_lt_of_le ad h.fr.size;rw[Lp k bE fun fs=>by
    rcases(qN k fs).1 with J|J
    ·exact hm J
    ·omega]
   exact h.fr.block k ad hm
  ·obtain⟨aP,a6⟩:=h.fr.keep b o rH;obtain⟨bR,dq⟩:=aI.keep b o aP;exact⟨bR,dq.trans a6⟩
  ·rcases aI.fresh b o rH with a8|a8|a8
   ·exact h.fr.fresh b o a8
   ·exact .inr (qN b a8).1
   ·exact .inr (.inr (kc h.fr.size a8))
  ·rcases J with J|J<;>rcases U with U|U
   ·exact h.fr.trd k j bH dJ b J U
   ·have bG:=(h.fr.trb k j b J).2;have a2:=(aI.trb bH dJ b U).1;rcases a2 with a2|a2
    ·obtain⟨m,_,hm⟩:=(ab bH).2.2 dJ b U;rw[hm]at a2;cases a2
    ·simp only at a2;omega
   ·have bG:=(h.fr.trb bH dJ b U).2;have a2:=(aI.trb k j b J).1;rcases a2 with a2|a2
    ·obtain⟨m,_,hm⟩:=(ab k).2.2 j b J;rw[hm]at a2;cases a2
    ·simp only at a2;omega
   ·exact aI.trd k j bH dJ b J U
  ·rcases ae with ae|ae
   ·exact⟨(h.fr.trb k j b ae).1,Nat.lt_of_lt_of_le (h.fr.trb k j b ae).2 aI.size⟩
   ·refine⟨.inr ?_,(aI.trb k j b ae).2⟩;rcases(aI.trb k j b ae).1 with a2|a2
    ·obtain⟨m,_,hm⟩:=(ab k).2.2 j b ae;rw[hm]at a2;cases a2
    ·exact kc h.fr.size a2
  ·have key:ν.bx k=none∧ν.ow k=none∧¬(look k ai.b).isSome∧¬(look k ai.e).isSome:=by
    rcases ae with ae|ae
    ·obtain⟨t1,t2⟩:=h.fr.trn k j b ae;refine⟨t1,t2,fun cP=>?_,fun cP=>?_⟩
     ·cases k with
      |loc m=>rw[s5.1 m]at cP;cases cP
      |obj m=>
       rcases KI m cP with b4|b4
       ·obtain⟨cs,di⟩:=fE.1 (qT _ b4);obtain⟨iG,us,el,g1,_⟩:=h.good.box _ cs di;rw[t1]at g1;cases g1
       ·exact(h.new (.obj m) ⟨trivial,b4⟩).2.2 j b ae
     ·cases k with
      |loc m=>rw[s5.2 m]at cP;cases cP
      |obj m=>
       rcases cH m cP with b4|b4
       ·obtain⟨cs,di⟩:=fE.1 (lM _ b4);obtain⟨iG,us,g1,_⟩:=h.good.own _ cs di;rw[t2]at g1;cases g1
       ·exact(h.new (.obj m) ⟨trivial,b4⟩).2.2 j b ae
    ·obtain⟨m,hm,rfl⟩:=(ab k).2.2 j b ae;obtain⟨t1,t2,_⟩:=agS m hm;exact⟨t1,t2,by simp[s5.1 m],by simp[s5.2 m]⟩
   obtain⟨t1,t2,t3,t4⟩:=key;have t5:¬(look k s.b).isSome:=fun cP=>by obtain⟨cs,di⟩:=fE.1 (qT _ cP);obtain⟨iG,us,el,g1,_⟩:=h.good.box _ cs di;rw[t1]at g1;cases g1
   have t6:¬(look k s.e).isSome:=fun cP=>by obtain⟨cs,di⟩:=fE.1 (lM _ cP);obtain⟨iG,us,g1,_⟩:=h.good.own _ cs di;rw[t2]at g1;cases g1
   exact⟨by simp[bf.join,t3,t5,t1],by simp[bf.join,t4,t6,t2]⟩
  ·
   simp only at ad;obtain⟨ad,afV⟩:=dt k ad;have TL:(∀j b,¬ν.tr k j b)→∀j b,¬(ν.join bo s ai).tr k j b:=fun J j b ae=>by
    rcases ae with ae|ae
    ·exact J j b ae
    ·obtain⟨m,hm,e⟩:=(ab k).2.2 j b ae;exact afV m hm e
   cases k with
   |loc m=>obtain⟨ic,fW,jn⟩:=h.new (.loc m) (J1 (eY _) (fun _ h=>List.mem_append_left _ h) ad);exact⟨by simp[bf.join,uK.1 m,s5.1 m,ic],by simp[bf.join,uK.2 m,s5.2 m,fW],TL jn⟩
   |obj m=>
    simp only[fresh,ka,not_or,true_and]at ad;obtain⟨ic,fW,jn⟩:=h.new (.obj m) ⟨trivial,ad.1⟩;have a7:¬(look (.obj m) ai.b).isSome:=fun cP=>ad.2 (tq (.inl cP));have bF:¬(look (.obj m) ai.e).isSome:=fun cP=>ad.2 (tq (.inr cP));have b0:¬(look (.obj m) s.b).isSome:=fun cP=>by obtain⟨cs,di⟩:=fE.1 (qT _ cP);obtain⟨iG,us,el,g1,_⟩:=h.good.box _ cs di;rw[ic]at g1;cases g1
    have cZ:¬(look (.obj m) s.e).isSome:=fun cP=>by obtain⟨cs,di⟩:=fE.1 (lM _ cP);obtain⟨v',us,g1,_⟩:=h.good.own _ cs di;rw[fW]at g1;cases g1
    exact⟨by simp[bf.join,a7,b0,ic],by simp[bf.join,bF,cZ,fW],TL jn⟩
 exact oO.put aR (yG hX aM)
inductive ek where
 |s (i:ev)
 |call (d:Option Nat) (f:dz) (xs:List dz)
 |next (d:Nat) (x:dz)
structure da where
 g:Option (Nat×Bool)
 i:ek
def ev.dst:ev→Option Nat
 | .v d _| .box d _ _| .alloc d _ _| .bsl d _ _ _| .app d _ _ _ _| .bslm d _ _ _ _| .appm d _ _ _ _ _| .mkmap d _| .range d _ _| .mks d _ _ _ _ _=>some d
 | .store _ _ _| .mput _ _ _ _| .storeE _ _ _=>none
def ek.dst:ek→Option Nat
 | .s i=>i.dst
 | .call d _ _=>d
 | .next d _=>some d
def c9(P:cF)(n:Nat)(args:List ah)(st:bs)(d:Option Nat)(K:bs→Prop):Prop:=
 (∃s Q,gL (inObs s) s.b st.b∧o1 (inObs s) s.e st.e∧iL s∧aJ (inObs s) args∧bV P n args s Q∧
  ∀r ai,Q r ai→((∀m,(look (.obj m) ai.b).isSome→(look (.obj m) s.b).isSome∨ .obj m∉st.o)∧(∀m,(look (.obj m) ai.e).isSome→(look (.obj m) s.e).isSome∨ .obj m∉st.o))∧K (after st s ai d r))∨
 (∃s Q,gL (inObs s) s.b st.b∧o1 (inObs s) s.e st.e∧iL s∧aJ (inObs s) args∧ .loc st.n∉st.o∧Io P n st.n args s Q∧
  ∀r ai,Q r ai→((∀m,(look (.obj m) ai.b).isSome→(look (.obj m) s.b).isSome∨ .obj m∉st.o)∧(∀m,(look (.obj m) ai.e).isSome→(look (.obj m) s.e).isSome∨ .obj m∉st.o))∧K {after st s ai d r with n:=st.n+1})
def L4(st:bs)(d:Nat)(ft mk:aH)(since:Nat)(seen:List Nat)(last clock:Nat)(borns:List Nat)(kvs:List ah)(K:bs→Prop):Prop:=
 (since=clock∧last=clock)∧((∀b∈borns,b∈seen)→K {st with t:=put d (.tuple [.bool false]) st.t})∧
 (∀b k v,mN b borns kvs=some (.tuple [k,v])→b∉seen→K {st with t:=put d (.tuple [.bool true,k,v]) st.t,b:=cB ft [.hdi since (seen++[b]) last,.gmap mk] st.b})
def sN(st:bs)(d:Nat)(v:ah)(K:bs→Prop):Prop:=
 match v with
 | .ptr ft 0=>match look ft st.b with
  |some [.hdi since seen last,.gmap mk]=>match look mk st.b with
   |some (.hdm clock borns::kvs)=>L4 st d ft mk since seen last clock borns kvs K
   |_=>eA
  |_=>eA
 |_=>eA
def uo(P:cF)(st:bs)(K:bs→Prop):ek→Prop
 | .next d x=>sN st d (cu st.t x) K
 | .s i=>match mi st i with
  |some (c,st')=>c∧K st'
  |none=>eA
 | .call d f xs=>match cu st.t f with
  | .func n dv=>c9 P n (cW (xs.map (cu st.t)++dv)) st d K
  |_=>eA
def h9(P:cF):List da→bs→(bs→Prop)→Prop
 |[],st,K=>K st
 |⟨none,i⟩::r,st,K=>uo P st (fun st'=>h9 P r st' K) i
 |⟨some (s,want),i⟩::r,st,K=>match get s st.t with
  | .bool b=>(b=want→uo P {st with t:=put s (.bool want) st.t} (fun st'=>h9 P r st' K) i)∧(b= !want→h9 P r {st with t:=eX i.dst (.tuple []) (put s (.bool !want) st.t)} K)
  | .tuple []=>h9 P r {st with t:=eX i.dst (.tuple []) st.t} K
  |_=>eA
def va(N:Nat)(bC:List (Nat×dI))(i:ek)(o:Oper):Bool:=
 match i with
 | .s i=>DN N bC i o
 | .next d x=>match o.op with
  | .next it false=>o.dst==some d&&decide (d<N)&&er x it
  |_=>false
 | .call d f xs=>match o.op with
  | .call ⟨.value ry,args,_⟩=>o.dst==d&&jw N d&&er f ry&&yv xs args.toList
  |_=>false
def B7(N:Nat)(bC:List (Nat×dI))(ops:List Oper)(g:da)(o:Oper):Bool:=
 (match g.g,o.guard with
  |none,none=>true
  |some (s,b),some (j,bP)=>b==bP&&((ops[j]?).bind (·.dst))==some s&&decide (s<N)&&o.dst==g.i.dst&&jw N g.i.dst
  |_,_=>false)&&va N bC g.i o
def kv(N:Nat)(bC:List (Nat×dI))(ops:List Oper):List da→List Oper→Bool
 |[],[]=>true
 |g::gs,o::os=>B7 N bC ops g o&&kv N bC ops gs os
 |_,_=>false
theorem Xr{w:World}{ν:bf}:∀{cm bz:List ah} {be us:List Value},cM w ν cm be→cM w ν bz us→cM w ν (cm++bz) (be++us)
 |[],bz,be,us,h,cx=>by simp only[cM]at h;subst h;simpa using cx
 |p::cm,bz,be,us,h,cx=>by simp only[cM]at h;obtain⟨u,ch,rfl,J,U⟩:=h;simp only[bX,cM];exact⟨u,_,rfl,J,Xr U cx⟩
theorem xb.mono{P:cF}{f:FuncId}{be:Array Value}{w:World}{R OH:Ending→World→Prop}(h:xb P f be w R)(bg:∀e w',R e w'→OH e w'):xb P f be w OH:=by
 rcases h with⟨J,U⟩|⟨v,w',J,U⟩
 ·exact .inl ⟨J,U.mono bg⟩
 ·exact .inr ⟨v,w',J,bg _ _ U⟩
theorem Rg{P:cF}{C:fh}{st:bs}{a:Act}{w:World}{ν:bf}(aM:cR C st a w ν){o:Oper}{ry:Operand}{args:Array Operand}{Bd:Array gm}(nt:o.op= .call ⟨.value ry,args,Bd⟩){d:Option Nat}(aR:o.dst=d)(xM:jw C.N d=true)
  {n:Nat} {dv:List ah} (aI:ba w ν (.func n dv) (a.eval ry)) {cm:List ah} (uB:cM w ν cm (args.toList.map a.eval)) {K:bs→Prop}
  (ay:∃(s:cL) (qz:ah→cL→Prop) (κ:Option Nat) (n':Nat) (o':cL→List aH),gL (inObs s) s.b st.b∧o1 (inObs s) s.e st.e∧iL s∧aJ (inObs s) (cW (cm++dv))∧(∀(w:World) (ν:bf) (be:Array Value),Good (fm ν s) w ν s.b s.e→oD ν s→cM w ν (cW (cm++dv)) be.toList→
   xb P n be w fun e w'=> ∃v r ai bo,e= .returned v∧qz r ai∧ba w' bo r v∧Good (fun bl=>fm ν s bl∨w.heap.size≤bl) w' bo ai.b ai.e∧Fk κ bo ai∧iL ai∧pW ⟨w,ν,fm ν s,0,cV s⟩ w' bo)∧
   (∀m,κ=some m→fresh st.n st.o (.loc m))∧(∀k r ai,qz r ai→fresh n' (o' ai) k→fresh st.n (st.o++cV ai) k∧∀m,κ=some m→k≠ .loc m)∧
   ∀r ai,qz r ai→((∀m,(look (.obj m) ai.b).isSome→(look (.obj m) s.b).isSome∨ .obj m∉st.o)∧(∀m,(look (.obj m) ai.e).isSome→(look (.obj m) s.e).isSome∨ .obj m∉st.o))∧K {after st s ai d r with n:=n',o:=o' ai})
  {rk:Act→World→Prop} {Q:Exit→Act→World→Prop} (dh:∀st' bp w' bo,K st'→cR C st' bp w' bo→rk bp w'):o.wp P a w rk Q:=by
 obtain⟨s,qz,κ,n',o',bN,cq,dj,iH,l0,RA,Ru,pn⟩:=ay;simp only[ba]at aI;obtain⟨us,aK,hu⟩:=aI;have lL:cM w (ν.cut (inObs s)) (cW (cm++dv)) ((args.map a.eval)++us).toList:=by refine yF (oo.cut _ w ν) _ _ iH (HE _ _ ?_);simpa using Xr uB hu
 have rQ:Good (fm (ν.cut (inObs s)) s) w (ν.cut (inObs s)) s.b s.e:=aM.good.cut bN cq (fun bl _ h=>h);have hex:oD (ν.cut (inObs s)) s:=by
  intro k;refine⟨?_,?_,?_⟩;rotate_left 2
  ·rintro j b ⟨ag,ae⟩;obtain⟨t1,t2⟩:=aM.fr.trn k j b ae;rcases ag with ag|ag<;>obtain⟨x,ab⟩:=fE.1 ag
   ·obtain⟨bl,ch,el,ak,_⟩:=aM.good.box k x (bN k x ab).1;rw[t1]at ak;cases ak
   ·obtain⟨v',ch,ak,_⟩:=aM.good.own k x (cq k x ab).1;rw[t2]at ak;cases ak
  ·intro aw;by_cases ag:inObs s k
   ·rw[bf.cut_bx ag];rcases ag with ag|ag
    ·rw[aw]at ag;cases ag
    ·obtain⟨x,ab⟩:=fE.1 ag;obtain⟨v',ch,ak,_⟩:=aM.good.own k x (cq k x ab).1;rcases aM.good.one k with J|J
     ·exact J
     ·rw[J]at ak;cases ak
   ·exact(bf.cut_no ag).1
  ·intro aw;by_cases ag:inObs s k
   ·rw[bf.cut_ow ag];rcases ag with ag|ag
    ·obtain⟨x,ab⟩:=fE.1 ag;obtain⟨bl,ch,el,ak,_⟩:=aM.good.box k x (bN k x ab).1;rcases aM.good.one k with J|J
     ·rw[J]at ak;cases ak
     ·exact J
    ·rw[aw]at ag;cases ag
   ·exact(bf.cut_no ag).2.1
 rcases l0 w (ν.cut (inObs s)) ((args.map a.eval)++us) rQ hex lL with⟨⟨fn,g1,g2,g3⟩,l0⟩|⟨v,w',l0,bQ⟩
 ·obtain⟨code,afr⟩:=fE.1 g2;have ir:(execOp a.eval o).run P w= .ok (.enter n ((args.map a.eval)++us)) w:=by obtain⟨dst,op,ty,pos,OO,vM⟩:=o;simp only at nt;subst nt;simp only[execOp,resolve,aK,Deferred.ofValue,fJ,gu,fR,invoke,callFunc,run_program,g1,g3,afr];simp
  unfold Oper.wp;rw[ir];simp only[Oper.upon];refine l0.mono fun e w' bQ=>?_;obtain⟨v,r,ai,bo,rfl,bh,a7,bF,b0,cZ,df⟩:=bQ;obtain⟨⟨ic,fW⟩,ad⟩:=pn r ai bh;rw[aR];exact dh _ _ _ _ ad (aM.callK bN cq dj bF b0 (fun m hm=>aM.new _ (RA m hm)) (n':=n') (o':=o' ai) (fun k ad=>Ru k r ai bh ad) cZ df ic fW d xM a7)
 ·have ir:(execOp a.eval o).run P w= .ok (.value v) w':=by obtain⟨dst,op,ty,pos,OO,vM⟩:=o;simp only at nt;subst nt;simp only[execOp,resolve,aK,Deferred.ofValue,fJ,gu,fR,invoke];simpa using l0
  obtain⟨v2,r,ai,bo,CP,bh,a7,bF,b0,cZ,df⟩:=bQ;cases CP;obtain⟨⟨ic,fW⟩,ad⟩:=pn r ai bh;refine mm ir ?_;rw[aR];exact dh _ _ _ _ ad (aM.callK bN cq dj bF b0 (fun m hm=>aM.new _ (RA m hm)) (n':=n') (o':=o' ai) (fun k ad=>Ru k r ai bh ad) cZ df ic fW d xM a7)
theorem Rf{P:cF}{C:fh}{st:bs}{a:Act}{w:World}{ν:bf}(aM:cR C st a w ν){o:Oper}{ry:Operand}{args:Array Operand}{Bd:Array gm}(nt:o.op= .call ⟨.value ry,args,Bd⟩){d:Option Nat}(aR:o.dst=d)(xM:jw C.N d=true)
  {n:Nat} {dv:List ah} (aI:ba w ν (.func n dv) (a.eval ry)) {cm:List ah} (uB:cM w ν cm (args.toList.map a.eval)) {K:bs→Prop} (ay:c9 P n (cW (cm++dv)) st d K)
  {rk:Act→World→Prop} {Q:Exit→Act→World→Prop} (dh:∀st' bp w' bo,K st'→cR C st' bp w' bo→rk bp w'):o.wp P a w rk Q:=by
 refine Rg aM nt aR xM aI uB (K:=K) ?_ dh;rcases ay with⟨s,qz,bN,cq,dj,iH,l0,pn⟩|⟨s,qz,bN,cq,dj,iH,iW,l0,pn⟩
 ·refine⟨s,qz,none,st.n,fun ai=>st.o++cV ai,bN,cq,dj,iH,fun w ν be J U ar=>(l0 w ν be J U ar).mono fun e w' bQ=>?_,fun m hm=>(by cases hm),fun k _ ai _ ad=>⟨ad,fun m hm=>by cases hm⟩,pn⟩;obtain⟨v,r,ai,bo,g1,g2,g3,g4,g5,g6⟩:=bQ;exact⟨v,r,ai,bo,g1,g2,g3,g4,g5.k,g6⟩
 ·refine⟨s,qz,some st.n,st.n+1,fun ai=>st.o++cV ai,bN,cq,dj,iH,l0,fun m hm=>(by cases hm;exact⟨eY _,iW⟩),fun k _ ai _ ad=>⟨J1 (Nat.le_succ _) (fun _ h=>h) ad,fun m hm=>?_⟩,pn⟩;cases hm;rintro rfl;have:=ad.1;simp only at this;omega
theorem cR.drawn{C:fh}{st:bs}{a:Act}{w:World}{ν:bf}(aM:cR C st a w ν)(n:Nat):cR C st a {w with drawn:=n} ν:=by
 have kZ:ly w ν {w with drawn:=n} ν:=⟨fun _ _ h=>⟨h,rfl⟩,fun _ _ _ h=>h,fun _ n u _ h=>⟨n,u,h,.inl ⟨rfl,rfl⟩⟩,fun _ _ _=>rfl,fun _ _ _ _ h=>h⟩;refine aM.over kZ rfl ⟨aM.good.alt,fun k cs ad=>?_,aM.good.inj,fun g o aX=>?_,aM.good.oinj,aM.good.obx,aM.good.one,aM.good.otr⟩ ⟨aM.fr.os,aM.fr.tape,aM.fr.output,aM.fr.size,aM.fr.block,aM.fr.keep,aM.fr.fresh,aM.fr.obj,aM.fr.obn,aM.fr.row,aM.fr.obr,aM.fr.trd,aM.fr.trb,aM.fr.trn,aM.fr.sh⟩ aM.new
 ·obtain⟨bl,us,el,J,U,ar,a8,b4⟩:=aM.good.box k cs ad;exact⟨bl,us,el,J,U,ar,a8,qn kZ b4⟩
 ·obtain⟨v,us,J,U,ar,a8⟩:=aM.good.own g o aX;exact⟨v,us,J,U,ar,sj kZ (fun _ _ _ h=>h) a8⟩
theorem ad6{α:Type}{l:List α}{p:α→Bool}(h:∀x∈l,p x=false):l.filter p=[]:=by rw[List.filter_eq_nil_iff];intro x ab;simp[h x ab]
theorem ad5{α:Type}{l:List α}{p:α→Bool}(h:∀x∈l,p x=true):l.filter p=l:=List.filter_eq_self.2 h
def GU(r m since clock:Nat)(seen:Array Nat)(Rh:Array (Option MapEntry)):Sem Value:=do
 match Rh[←choose (.mapNext Rh.size)]? with
 |some (some e)=>
  setObj r (.mapIter (some m) since (seen.push e.born) clock)
  pure (.tuple #[.bool true,e.key,e.val])
 |some none=>pure (.tuple #[.bool false])
 |none=>stuck "Next: no such candidate"
theorem XC{P:cF}{w:World}(r m since clock:Nat)(seen:Array Nat)(l:List (Option MapEntry))(aw:l≠[]):∃n x,x∈l∧(GU r m since clock seen l.toArray).run P w=
  (match x with|some e=>(do setObj r (.mapIter (some m) since (seen.push e.born) clock);pure (.tuple #[.bool true,e.key,e.val]):Sem Value)|none=>pure (.tuple #[.bool false])).run P {w with drawn:=n}:=by
 have fy:0<l.length:=List.length_pos_iff.2 aw;unfold GU;have key:∀i,i<l.length→∀w',((do match(l.toArray[i]?:Option (Option MapEntry))with
   |some (some e)=>setObj r (.mapIter (some m) since (seen.push e.born) clock);pure (.tuple #[.bool true,e.key,e.val])
   |some none=>pure (.tuple #[.bool false])
   |none=>stuck "Next: no such candidate" :Sem Value)).run P w'=((match l[i]! with|some e=>(do setObj r (.mapIter (some m) since (seen.push e.born) clock);pure (.tuple #[.bool true,e.key,e.val]):Sem Value)|none=>pure (.tuple #[.bool false]))).run P w':=by
  intro i hi w';have J:l.toArray[i]? =some l[i]!:=by simp[hi]
  rw[J];cases l[i]!<;>rfl
 by_cases aI:(Question.mapNext l.length).forced=true
 ·refine⟨w.drawn,l[0]!,by simp[fy],?_⟩;rw[←key 0 fy];have ay:(choose (.mapNext l.length):Sem Nat).run P w= .ok 0 w:=by simp[aI]
  simp only[List.size_toArray,fJ,ay,fR]
 ·refine⟨w.drawn+1,l[(w.tape w.drawn (.mapNext l.length))%l.length]!,by simp[Nat.mod_lt _ fy],?_⟩;rw[←key _ (Nat.mod_lt _ fy)];have ay:(choose (.mapNext l.length):Sem Nat).run P w= .ok ((w.tape w.drawn (.mapNext l.length))%l.length) {w with drawn:=w.drawn+1}:=by simp[aI,Question.cut]
  simp only[List.size_toArray,fJ,ay,fR]
theorem amf{P:cF}{w:World}{bl mb:Nat}{seen:List Nat}{es:List MapEntry}{clock:Nat}{ty:gm}(J:w.heap[bl]? =some (.mapIter (some mb) clock seen.toArray clock))(U:w.heap[mb]? =some (.map es.toArray clock))(bE:∀e∈es,e.born<clock):
  ∃n,((∀e∈es,e.born∈seen)∧(Instr.next (.pointer (some ⟨bl,0,none⟩)) false ty).run P w= .ok (.tuple #[.bool false]) {w with drawn:=n})∨
   ∃e∈es,e.born∉seen∧(Instr.next (.pointer (some ⟨bl,0,none⟩)) false ty).run P w= .ok (.tuple #[.bool true,e.key,e.val]) {w with drawn:=n,heap:=w.heap.setIfInBounds bl (.mapIter (some mb) clock (seen++[e.born]).toArray clock)}:=by
 have dB:(!seen.toArray.isEmpty&& !es.toArray.isEmpty&&es.toArray.all (fun e=>decide (e.born≥clock)))=false:=by
  cases es with
  |nil=>simp
  |cons e r=>have:=bE e (by simp);simp;intro _ h;omega
 generalize jL:(es.filter fun e=> !seen.contains e.born)=left;have af1:(es.toArray.filter fun e=> !seen.toArray.contains e.born)=left.toArray:=by rw[←jL];simp
 have jN:∀e∈left,e∈es∧e.born∉seen:=fun e he=>by rw[←jL]at he;have:=mV.1 he;exact⟨this.1,by simpa using this.2⟩
 have hold:(left.toArray.filter fun e=>decide (e.born<clock))=left.toArray:=by rw[List.filter_toArray,ad5];intro e he;have:=bE e (jN e he).1;simp[this]
 have kB:(left.toArray.filter fun e=>decide (e.born≥clock))= #[]:=by rw[List.filter_toArray,ad6];intro e he;have:=bE e (jN e he).1;simp;omega
 have ir:(Instr.next (.pointer (some ⟨bl,0,none⟩)) false ty).run P w=(GU bl mb clock clock seen.toArray ((if left.toArray.isEmpty then #[none]else #[])++(left.toArray++ #[]).map some)).run P w:=by unfold Instr.next GU;simp only[fJ,vi J,vi U,fR,dB,af1,hold,kB,hb,if_false];rfl
 rw[ir];by_cases zQ:left=[]
 ·subst zQ;obtain⟨n,x,g1,g2⟩:=XC (P:=P) (w:=w) bl mb clock clock seen.toArray [none] (by simp);refine⟨n,.inl ⟨fun e he=>?_,?_⟩⟩
  ·have:=List.filter_eq_nil_iff.1 jL e he;simpa using this
  ·simp only[List.mem_singleton]at g1;subst g1;have ay:((if(([]:List MapEntry).toArray).isEmpty then #[none]else #[])++(([]:List MapEntry).toArray++ #[]).map some)=[none].toArray:=by simp
   rw[ay,g2];rfl
 ·have ay:((if left.toArray.isEmpty then #[none]else #[])++(left.toArray++ #[]).map some)=(left.map some).toArray:=by simp[zQ]
  obtain⟨n,x,g1,g2⟩:=XC (P:=P) (w:=w) bl mb clock clock seen.toArray (left.map some) (by simpa using zQ);simp only[iC]at g1;obtain⟨e,he,rfl⟩:=g1;refine⟨n,.inr ⟨e,(jN e he).1,(jN e he).2,?_⟩⟩;rw[ay,g2];simp only[fJ];rw[DM (w:={w with drawn:=n}) (o:= .mapIter (some mb) clock seen.toArray clock) J];simp
theorem Jx:∀{borns:List Nat} {us:List Value} {e:MapEntry},e∈fF borns us→e.born∈borns
 |[],us,e,h=>by simp[fF]at h
 |b::eZ,[],e,h=>by simp[fF]at h
 |b::eZ,[_],e,h=>by simp[fF]at h
 |b::eZ,k::v::us,e,h=>by
  simp only[fF,gf]at h;rcases h with rfl|h
  ·simp
  ·exact pa _ (Jx h)
theorem RL:∀{borns:List Nat} {kvs:List ah} {us:List Value},kvs.length=2*borns.length→us.length=kvs.length→∀{b:Nat},b∈borns→∃e∈fF borns us,e.born=b
 |[],_,_,_,_,b,ae=>by simp at ae
 |bP::eZ,kvs,[],J,U,b,ae=>by rw[J]at U;simp at U
 |bP::eZ,kvs,[_],J,U,b,ae=>by rw[J]at U;simp at U;omega
 |bP::eZ,kvs,k::v::us,J,U,b,ae=>by
  rcases gf.1 ae with rfl|ae
  ·exact⟨⟨k,v,b⟩,by simp[fF],rfl⟩
  ·obtain⟨e,g1,g2⟩:=RL (kvs:=kvs.drop 2) (us:=us) (borns:=eZ) (by simp at J⊢;omega) (by simp at J U⊢;omega) ae;exact⟨e,by simp[fF,g1],g2⟩
theorem Vk{w:World}{ν:bf}:∀{borns:List Nat} {kvs:List ah} {us:List Value},kvs.length=2*borns.length→borns.Pairwise (· < ·)→cM w ν kvs us→∀{e:MapEntry},e∈fF borns us→∃k v,mN e.born borns kvs=some (.tuple [k,v])∧ba w ν k e.key∧ba w ν v e.val
 |[],_,_,_,_,_,e,h=>by simp[fF]at h
 |b::eZ,[],us,J,_,_,e,_=>by simp at J
 |b::eZ,[_],us,J,_,_,e,_=>by simp at J;omega
 |b::eZ,k::v::kvs,us,J,U,ar,e,h=>by
  simp only[cM]at ar;obtain⟨iB,NY,rfl,cN,jD,ss,rfl,dx,k2⟩:=ar;simp only[fF,gf]at h;rw[mW]at U;rcases h with rfl|h
  ·exact⟨k,v,by simp[mN],cN,dx⟩
  ·obtain⟨bH,v',g1,g2,g3⟩:=Vk (by simp at J;omega) U.2 k2 h;have cH:b≠e.born:=Nat.ne_of_lt (U.1 _ (Jx h));exact⟨bH,v',by simp[mN,cH,g1],g2,g3⟩
theorem aiB{P:cF}{C:fh}{st:bs}{a:Act}{w:World}{ν:bf}(aM:cR C st a w ν){o:Oper}{it:Operand}(nt:o.op= .next it false){d:Nat}(aR:o.dst=some d)(xM:jw C.N (some d)=true){v:ah}(aK:ba w ν v (a.eval it)){K:bs→Prop}(he:sN st d v K)
  {rk:Act→World→Prop} {Q:Exit→Act→World→Prop} (dh:∀st' bp w' bo,K st'→cR C st' bp w' bo→rk bp w'):o.wp P a w rk Q:=by
 unfold sN at he;split at he
 ·rename_i ft;split at he
  ·rename_i since seen last mk vU;split at he
   ·rename_i clock borns kvs xZ;obtain⟨⟨rfl,rfl⟩,zK,oJ⟩:=he;simp only[ba]at aK;obtain⟨bl,b1,b2⟩:=aK;obtain⟨iG,us,el,a7,bF,b0,cZ,df⟩:=aM.good.box ft _ vU;rw[b1]at a7;cases a7;obtain⟨mb,ms,arW,m1,m2,m3,m4,m5⟩:=aM.good.box mk _ xZ;simp only[jq,cM]at df;obtain⟨u,ch,hu,⟨arV,cN,rfl⟩,rfl⟩:=df;rw[m1]at cN;cases cN;simp only[jU,hu]at cZ;simp only[jU]at m4;simp only[jq]at m5;obtain⟨n,l4⟩:=amf (P:=P) (ty:=o.type) cZ m4 (fun e he=>m5.2.lt _ (Jx he));have mC:∀v' w',(Instr.next (.pointer (some ⟨bl,0,none⟩)) false o.type).run P w= .ok v' w'→(execOp a.eval o).run P w= .ok (.value v') w':=by intro v' w' ir;obtain⟨dst,op,ty,pos,OO,vM⟩:=o;simp only at nt ir;subst nt;simp only[execOp,b2];exact D9 ir
    rcases l4 with⟨J,U⟩|⟨e,J,U,ar⟩
    ·refine mm (mC _ _ U) ?_;rw[aR];refine dh _ _ _ _ (zK fun b ae=>?_) ((aM.drawn n).put xM (p:= .tuple [.bool false]) (by simp[ba,cM]));obtain⟨e,f1,f2⟩:=RL m5.2.len (HC m5.1) ae;rw[←f2];exact J e f1
    ·obtain⟨k,v,f1,f2,f3⟩:=Vk m5.2.len m5.2.inc m5.1 J;refine mm (mC _ _ ar) ?_;rw[aR];have wb:=((aM.drawn n).setBox (w':={w with drawn:=n,heap:=w.heap.setIfInBounds bl (.mapIter (some mb) last (seen++[e.born]).toArray last)}) vU b1 (cs':=[.hdi last (seen++[e.born]) last,.gmap mk]) (us:=us) (el:=el) rfl rfl rfl
      (fun j af=>Array.getElem?_setIfInBounds_ne (k8 af)) (by simp) (by simp[jU,hu,(Array.getElem?_eq_some_iff.1 cZ).1]) (by simp only[jq,cM];exact⟨_,_,hu,by simp only[ba];exact⟨mb,m1,rfl⟩,rfl⟩))
     refine dh _ _ _ _ (oJ e.born k v f1 U) (wb.1.put xM (p:= .tuple [.bool true,k,v]) ?_);simp only[ba];refine⟨_,rfl,?_⟩;simp only[cM];have kZ:ly w ν {w with drawn:=n} ν:=⟨fun _ _ h=>⟨h,rfl⟩,fun _ _ _ h=>h,fun _ n u _ h=>⟨n,u,h,.inl ⟨rfl,rfl⟩⟩,fun _ _ _=>rfl,fun _ _ _ _ h=>h⟩;exact⟨_,_,rfl,by simp[ba],_,_,rfl,yG wb.2 (yG kZ f2),_,_,rfl,yG wb.2 (yG kZ f3),rfl⟩
   ·exact he.elim
  ·exact he.elim
 ·exact he.elim
theorem RP{P:cF}{bC:List (Nat×dI)}(aL:fU P bC=true){C:fh}{st:bs}{a:Act}{w:World}{ν:bf}(aM:cR C st a w ν){i:ek}{o:Oper}(ax:va C.N bC i o=true){K:bs→Prop}(he:uo P st K i)
  {rk:Act→World→Prop} {Q:Exit→Act→World→Prop} (dh:∀st' bp w' bo,K st'→cR C st' bp w' bo→rk bp w'):o.wp P a w rk Q:=by
 cases i with
 |s i=>
  simp only[uo]at he;split at he
  ·rename_i c st' ag;exact ami aL aM (by simpa only[va]using ax) ag he.1 fun bp w' bo h=>dh _ _ _ _ he.2 h
  ·exact he.elim
 |next d x=>
  simp only[uo]at he;simp only[va]at ax;split at ax
  ·rename_i it nt;simp only[cE,dS,fK]at ax;obtain⟨⟨J,U⟩,ar⟩:=ax;exact aiB aM nt J (by simpa[jw]using U) (et aM ar) he dh
  ·cases ax
 |call d f xs=>
  simp only[uo]at he;simp only[va]at ax;split at ax
  ·rename_i ry args Bd nt;simp only[cE,dS]at ax;obtain⟨⟨⟨J,U⟩,ar⟩,a8⟩:=ax;split at he
   ·rename_i n dv aI;have:=et aM ar;rw[aI]at this;exact Rf aM nt J U this (DI aM a8) he dh
   ·exact he.elim
  ·cases ax
theorem M6{C:fh}{st:bs}{a:Act}{w:World}{ν:bf}(h:cR C st a w ν){s:Nat}{b:Bool}(ag:get s st.t= .bool b):cR C {st with t:=put s (.bool b) st.t} a w ν:=by
 refine⟨h.good,h.fr,h.defers,h.size,fun i=>?_,h.new⟩;have:=h.slot i;simp only[pC];split
 ·rename_i e;subst e;rw[←ag];exact this
 ·exact this
theorem Y5{C:fh}{st:bs}{a:Act}{w:World}{ν:bf}(h:cR C st a w ν){ops:Array Oper}{j s:Nat}(af:(ops.toList[j]?).bind (·.dst)=some s)(ag:s<C.N):
  (∀b,get s st.t= .bool b→yielded ops a.tmps j=some b)∧(get s st.t= .tuple []→yielded ops a.tmps j=none):=by
 have bE:s<a.tmps.size:=by rw[h.size];exact ag
 have rX:=h.slot s;have hj:a.tmps.getD s undef=a.tmps[s]:=by simp[Array.getD,bE]
 rw[hj]at rX;have aG:yielded ops a.tmps j=match a.tmps[s]with| .bool b=>some b|_=>none:=by unfold yielded;rw[tO]at af;rw[af];simp only[ju,Array.getElem?_eq_getElem bE];cases a.tmps[s]<;>rfl
 constructor
 ·intro b ae;rw[ae]at rX;simp only[ba]at rX;rw[aG,rX]
 ·intro ae;rw[ae]at rX;simp only[ba,cM]at rX;obtain⟨us,ak,aC⟩:=rX;rw[aG,ak]
theorem RT{P:cF}{bC:List (Nat×dI)}(aL:fU P bC=true){C:fh}{ops:Array Oper}{K:bs→Prop}{Q:Exit→Act→World→Prop}(ib:∀st' bp w' bo,K st'→cR C st' bp w' bo→Q .normal bp w'):
  ∀(gs:List da) (os:List Oper) (k:Nat),(∀j,os[j]? =ops[k+j]?)→kv C.N bC ops.toList gs os=true→∀(st:bs) (a:Act) (w:World) (ν:bf),h9 P gs st K→cR C st a w ν→wpOps P ops Q (List.range' k gs.length) a w
 |[],[],k,_,_,st,a,w,ν,he,aM=>by simp only[List.length_nil,List.range'_zero,wpOps];exact ib _ _ _ _ he aM
 |[],_::_,_,_,ad,_,_,_,_,_,_=>by simp[kv]at ad
 |_::_,[],_,_,ad,_,_,_,_,_,_=>by simp[kv]at ad
 |g::gs,o::os,k,zW,ad,st,a,w,ν,he,aM=>by
  simp only[kv,cE]at ad;have bD:ops[k]? =some o:=by simpa using(zW 0).symm
  have CI:∀j,os[j]? =ops[k+1+j]?:=fun j=>by have:=zW (j+1);simpa[Nat.add_assoc,Nat.add_comm 1 j]using this
  simp only[pT,List.range'_succ,wpOps,bD];have bZ:∀st' bp w' bo,h9 P gs st' K→cR C st' bp w' bo→wpOps P ops Q (List.range' (k+1) gs.length) bp w':=fun st' bp w' bo J U=>RT aL ib gs os (k+1) CI ad.2 st' bp w' bo J U;obtain⟨nj,SN⟩:=g;have aX:=ad.1;simp only[B7,cE]at aX;obtain⟨qQ,oK⟩:=aX;cases nj with
  |none=>
   cases de:o.guard with
   |some x=>simp[de]at qQ
   |none=>
    have hw:o9 o (yielded ops a.tmps)=true:=by simp[o9,de]
    rw[if_pos hw];simp only[h9]at he;exact .inl (RP aL aM oK he bZ)
  |some yQ=>
   obtain⟨s,want⟩:=yQ;cases de:o.guard with
   |none=>simp[de]at qQ
   |some x=>
    obtain⟨j,bP⟩:=x;simp only[de,cE,dS,fK]at qQ;obtain⟨⟨⟨⟨rfl,U⟩,ar⟩,a8⟩,b4⟩:=qQ;obtain⟨kQ,o7⟩:=Y5 aM U ar;simp only[h9]at he;split at he
    ·rename_i b ae;have aG:=kQ b ae;by_cases e:b=want
     ·subst e;have hw:o9 o (yielded ops a.tmps)=true:=by simp[o9,de,aG]
      rw[if_pos hw];exact .inl (RP aL (M6 aM ae) oK (he.1 rfl) bZ)
     ·have hw:¬(o9 o (yielded ops a.tmps)=true):=by simp[o9,de,aG,e]
      rw[if_neg hw];have gb:b= !want:=by cases b<;>cases want<;>simp at e⊢
      have mD:cR C {st with t:=put s (.bool !want) st.t} a w ν:=M6 aM (by rw[ae,gb]);rw[a8];exact bZ _ _ _ _ (he.2 gb) (mD.put b4 (by simp[ba,cM,undef]))
    ·rename_i ae;have aG:=o7 ae;have hw:¬(o9 o (yielded ops a.tmps)=true):=by simp[o9,de,aG]
     rw[if_neg hw,a8];exact bZ _ _ _ _ he (aM.put b4 (by simp[ba,cM,undef]))
    ·exact he.elim
structure dn where
 t:Nat→ah
 b:aH→Option (List ah)
 e:aH→Option fL
 F:aH→Prop
structure kT where
 d:Option Nat
 p:ah
 bw:List (aH×List ah)
 ew:List (aH×fL)
 rm:Option aH
def iI{α:Type}(l:List (aH×α))(f:aH→Option α):aH→Option α:=fun k=>match look k l with|some x=>some x|none=>f k
def dn.do(A:dn)(x:kT):dn:={t:=fun i=>if x.d=some i then x.p else A.t i,b:=iI x.bw A.b,e:=iI x.ew A.e,F:=fun k=>A.F k∧x.rm≠some k}
structure kT.apart (x y:kT):Prop where
 d:∀i,x.d=some i→y.d≠some i
 b:∀k,(look k x.bw).isSome→look k y.bw=none
 e:∀k,(look k x.ew).isSome→look k y.ew=none
theorem dn.do_comm(A:dn){x y:kT}(h:x.apart y):(A.do x).do y=(A.do y).do x:=by
 simp only[dn.do,dn.mk.injEq];refine⟨?_,?_,?_,?_⟩
 ·funext i;by_cases J:x.d=some i
  ·have:=h.d i J;simp[J,this]
  ·simp[J]
 ·funext k;simp only[iI];cases ab:look k x.bw with
  |none=>cases look k y.bw<;>rfl
  |some u=>rw[h.b k (by simp[ab])]
 ·funext k;simp only[iI];cases ab:look k x.ew with
  |none=>cases look k y.ew<;>rfl
  |some u=>rw[h.e k (by simp[ab])]
 ·funext k;exact propext ⟨fun h=>⟨⟨h.1.1,h.2⟩,h.1.2⟩,fun h=>⟨⟨h.1.1,h.2⟩,h.1.2⟩⟩
def dF(t:Nat→ah):dz→ah
 | .t i=>t i
 | .c p=>p
def r5(b:aH→Option (List ah))(e:aH→Option fL)(agg:Bool)(sz:Nat):ah→Option (Prop×ah)
 | .rptr dL k n i f=>yH agg sz dL n i f (e k)
 | .ptr k off=>
  match b k with
  |some cs=>if agg then some (h2 cs=true∧off+sz≤cs.length,.agg ((cs.drop off).take sz))else(cs[off]?).map fun p=>(h2 cs=true,p)
  |none=>none
 | .eptr p=>if agg then some (isAgg sz p,p)else some (ei p=true∧cells p=[p],p)
 |_=>none
def xo(t:Nat→ah):List ah→List (Nat×Nat×dz)→Option (Prop×List ah)
 |cs,[]=>some (True,cs)
 |cs,(off,sz,x)::r=>
  match xo t (n7 cs off (cells (dF t x))) r with
  |some (c,cs')=>some ((ei (dF t x)=true∧(cells (dF t x)).length=sz∧off+sz≤cs.length)∧c,cs')
  |none=>none
def pQ(t:Nat→ah)(b:aH→Option (List ah))(e:aH→Option fL):fY→Option (Prop×ah)
 | .mov x=>some (True,dF t x)
 | .pick c x y=>G8 (dF t c) (dF t x) (dF t y)
 | .load agg sz x=>r5 b e agg sz (dF t x)
 | .faddr off agg sz x=>p2 off agg sz (dF t x)
 | .fld off agg sz x=>rB off agg sz (dF t x)
 | .iaddr sz x i=>Af sz (dF t x) (dF t i)
 | .sidx x i=>HS (dF t x) (dF t i)
 | .ssl x lo hi=>HX (dF t x) (lo.map (dF t)) (hi.map (dF t))
 | .lsl sz x lo hi=>GH sz (dF t x) (lo.map (dF t)) (hi.map (dF t))
 | .bin op wr x y=>BE op wr (dF t x) (dF t y)
 | .notB x=>GW (dF t x)
 | .neg x=>GS (dF t x)
 | .conv k x=>E9 k (dF t x)
 | .ext i x=>zo i (dF t x)
 | .len x=>Ap (dF t x)
 | .slen x=>DT (dF t x)
 | .build zero parts=>(xo t zero parts).map fun(c,cs)=>(c,.agg cs)
 | .nck x=>AD (dF t x)
 | .min2 x y=>GR (dF t x) (dF t y)
 | .mkf n xs=>some (True,.func n (xs.map (dF t)))
 | .mget cf zero ok x k=>n2 b cf zero ok (dF t x) (dF t k)
 | .ment x=>pK b (dF t x)
 | .mlen x=>u1 b (dF t x)
 | .beq neg dQ x y=>iF neg dQ (dF t x) (dF t y)
 | .max2 x y=>GL (dF t x) (dF t y)
 | .mkif n x=>some (True,.iface n (dF t x))
 | .loadB agg sz x=>r5 b (fun _=>none) agg sz (dF t x)
 | .mgetB cf zero ok x k=>n2 b cf zero ok (dF t x) (dF t k)
 | .loadZ agg sz x=>B6 agg sz (dF t x)
structure lx (st:bs) (A:dn):Prop where
 t:∀i,get i st.t=A.t i
 b:∀k,look k st.b=A.b k
 e:∀k,look k st.e=A.e k
theorem iX{st:bs}{A:dn}(h:lx st A)(x:dz):cu st.t x=dF A.t x:=by
 cases x
 ·exact h.t _
 ·rfl
theorem ur{st:bs}{A:dn}(h:lx st A):cu st.t=dF A.t:=funext (iX h)
theorem ahN{st:bs}{A:dn}(h:lx st A)(agg:Bool)(sz:Nat)(p:ah):mM st.b st.e agg sz p=r5 A.b A.e agg sz p:=by
 cases p<;>simp only[mM,r5]
 ·rw[h.b];try rfl
 ·rw[h.e]
theorem ahO{st:bs}{A:dn}(h:lx st A)(agg:Bool)(sz:Nat)(p:ah):mM st.b [] agg sz p=r5 A.b (fun _=>none) agg sz p:=by
 cases p<;>simp only[mM,r5]
 ·rw[h.b];try rfl
 ·rfl
theorem Pe{st:bs}{A:dn}(h:lx st A):∀(parts:List (Nat×Nat×dz)) (cs:List ah),ui st.t cs parts=xo A.t cs parts
 |[],cs=>rfl
 |(off,sz,x)::r,cs=>by simp only[ui,xo,iX h,Pe h r];try rfl
theorem Yh{st:bs}{A:dn}(h:lx st A)(i:fY):hp st i=pQ A.t A.b A.e i:=by have ae:(fun k=>look k st.b)=A.b:=funext h.b;cases i<;>simp only[hp,pQ,ur h,ahN h,ahO h,Pe h,ae]
def hn:dz→List Nat
 | .t i=>[i]
 | .c _=>[]
def Mu:Option dz→List Nat
 |some x=>hn x
 |none=>[]
def fY.looks:fY→List Nat
 | .mov x| .load _ _ x| .loadB _ _ x| .loadZ _ _ x| .faddr _ _ _ x| .fld _ _ _ x| .notB x| .neg x| .conv _ x| .ext _ x| .len x| .slen x| .nck x| .ment x| .mlen x| .mkif _ x=>hn x
 | .pick c x y=>hn c++hn x++hn y
 | .iaddr _ x i| .sidx x i=>hn x++hn i
 | .ssl x lo hi| .lsl _ x lo hi=>hn x++Mu lo++Mu hi
 | .bin _ _ x y| .min2 x y| .max2 x y| .beq _ _ x y=>hn x++hn y
 | .build _ cm=>cm.flatMap fun p=>hn p.2.2
 | .mkf _ xs=>xs.flatMap hn
 | .mget _ _ _ x k| .mgetB _ _ _ x k=>hn x++hn k
def ev.looks:ev→List Nat
 | .v _ i=>i.looks
 | .box _ _ x=>hn x
 | .alloc _ _ _=>[]
 | .store _ x y=>hn x++hn y
 | .storeE _ x y=>hn x++hn y
 | .bsl _ _ _ xs=>xs.flatMap hn
 | .app _ _ _ x y=>hn x++hn y
 | .bslm _ _ _ _ xs=>xs.flatMap hn
 | .mks _ _ _ _ _ x=>hn x
 | .appm _ _ _ _ x y=>hn x++hn y
 | .mkmap _ _=>[]
 | .mput _ x k y=>hn x++hn k++hn y
 | .range _ _ x=>hn x
def ek.looks:ek→List Nat
 | .s i=>i.looks
 | .call _ f xs=>hn f++xs.flatMap hn
 | .next _ x=>hn x
def da.looks(g:da):List Nat:=(match g.g with|some (s,_)=>[s]|none=>[])++g.i.looks
def qC(l:List Nat)(t dE:Nat→ah):Prop:= ∀i∈l,t i=dE i
theorem gx{t dE:Nat→ah}{x:dz}(h:qC (hn x) t dE):dF t x=dF dE x:=by
 cases x
 ·exact h _ (by simp[hn])
 ·rfl
theorem kr{l a1:List Nat}{t dE:Nat→ah}(h:qC (l++a1) t dE):qC l t dE∧qC a1 t dE:=⟨fun i hi=>h i (by simp[hi]),fun i hi=>h i (by simp[hi])⟩
theorem Fj{t dE:Nat→ah}{x:Option dz}(h:qC (Mu x) t dE):x.map (dF t)=x.map (dF dE):=by
 cases x
 ·rfl
 ·simp[gx h]
theorem Pd{t dE:Nat→ah}:∀{parts:List (Nat×Nat×dz)} {cs:List ah},qC (parts.flatMap fun p=>hn p.2.2) t dE→xo t cs parts=xo dE cs parts
 |[],cs,_=>rfl
 |(off,sz,x)::r,cs,h=>by simp only[List.flatMap_cons]at h;obtain⟨J,U⟩:=kr h;simp only[xo,gx J,Pd U]
theorem GK{t dE:Nat→ah}:∀{xs:List dz},qC (xs.flatMap hn) t dE→xs.map (dF t)=xs.map (dF dE)
 |[],_=>rfl
 |x::xs,h=>by simp only[List.flatMap_cons]at h;obtain⟨J,U⟩:=kr h;simp[gx J,GK U]
def fY.isLoad:fY→Bool
 | .load _ _ _=>true
 | .loadB _ _ _=>true
 | .mgetB _ _ _ _ _=>true
 | .mget _ _ _ _ _=>true
 | .ment _=>true
 | .mlen _=>true
 |_=>false
theorem anc{t dE:Nat→ah}{b bP:aH→Option (List ah)}{e fT:aH→Option fL}{i:fY}(h:qC i.looks t dE)(ae:i.isLoad=false):pQ t b e i=pQ dE bP fT i:=by
 cases i<;>simp only[fY.looks]at h<;>simp only[pQ];case load agg sz x=>simp[fY.isLoad]at ae
 case loadB agg sz x=>simp[fY.isLoad]at ae
 case pick c x y=>obtain⟨J,ar⟩:=kr h;obtain⟨J,U⟩:=kr J;rw[gx J,gx U,gx ar]
 case iaddr=>obtain⟨J,U⟩:=kr h;rw[gx J,gx U]
 case sidx=>obtain⟨J,U⟩:=kr h;rw[gx J,gx U]
 case ssl=>obtain⟨J,ar⟩:=kr h;obtain⟨J,U⟩:=kr J;rw[gx J,Fj U,Fj ar]
 case lsl=>obtain⟨J,ar⟩:=kr h;obtain⟨J,U⟩:=kr J;rw[gx J,Fj U,Fj ar]
 case bin=>obtain⟨J,U⟩:=kr h;rw[gx J,gx U]
 case min2=>obtain⟨J,U⟩:=kr h;rw[gx J,gx U]
 case build=>rw[Pd h]
 case mkf=>rw[GK h]
 case mget=>simp[fY.isLoad]at ae
 case mgetB=>simp[fY.isLoad]at ae
 case ment=>simp[fY.isLoad]at ae
 case mlen=>simp[fY.isLoad]at ae
 case max2=>obtain⟨J,U⟩:=kr h;rw[gx J,gx U]
 case beq=>obtain⟨J,U⟩:=kr h;rw[gx J,gx U]
 all_goals rw[gx h]
end Go.Pv
