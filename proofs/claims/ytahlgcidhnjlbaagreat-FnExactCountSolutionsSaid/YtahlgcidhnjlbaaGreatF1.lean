/- Regions that draw their order, I: abstract states as functions, effects, and what an instruction does to them. -/
import Derived.WalkKit
import Derived.Orders
import Derived.KernelRfl
import Derived.IntWalk
import Derived.Laws.StructEq
import Derived.ChangeKeysEq
import Derived.MapKept
import Derived.ArgAppend
import Derived.Laws.OwnMore
set_option linter.all false
set_option maxHeartbeats 4000000
open Array renaming getElem?_toList→tL
open BitVec renaming ofInt→qp
open Bool renaming and_eq_true→cC,eq_iff_iff→qq,false_eq_true→gX
open ByteArray renaming ext→aoh,size→atE
open Go renaming Program→cE,TypeId→fZ
open Go.ByteArray renaming toList_eq→aoi
open Go.IntKind renaming i64→pQ
open Go.IntWalk renaming i64_in→oe
open Go.Op renaming bytesLess→hv
open Go.Region renaming wanted→o4
open Go.Result renaming andThen_ok→fL
open Go.Sem renaming run_bind→fH,run_pure→gy
open Go.Value renaming cells→pR,ownBlock→og
open Go.Value.pointer renaming injEq→atL
open Go.World.grownBy renaming refl→aol
open List renaming all_eq_true→gn,cons_append→bX,getElem?_eq_getElem→bZ,getElem?_eq_none→qt,getElem?_eq_some_iff→e1,getElem?_map→ri,length_append→o5,length_cons→o6,length_drop→sw,length_map→rj,map_cons→gO,mem_append→kQ,mem_cons→fR,mem_cons_of_mem→pS,mem_filter→nH,mem_map→h5,pairwise_cons→mR,replicate→rk,take→lY,take_length→mj,take_of_length_le→hG
open List.cons renaming injEq→qs
open Nat renaming add_mul→o8,le_refl→eR,le_trans→jT,mul_le_mul_right→qv
open Ne renaming symm→k6
open Option renaming bind_some→k7,isSome_iff_exists→fM,isSome_none→ml,map_eq_some_iff→gz,map_some→oh
open Option.some renaming injEq→dL
open Prod.mk renaming injEq→jy
open _root_ renaming False→eQ,Option→aZ,UInt8→dE,beq_iff_eq→dQ,congrArg→eB,decide_eq_true_eq→e2
namespace Go.Pv
open Go Go.RowKit
inductive aI where
 |loc (s:Nat)
 |obj (n:Nat)
 deriving DecidableEq,Inhabited
inductive Bw where
 |no
 |nil
 |own (k:aI)
 |tr (k:aI) (j:Nat)
 |lo (k:aI)
 deriving DecidableEq,Inhabited
inductive ah where
 |junk
 |int (k:IntKind) (n:Int)
 |bool (b:Bool)
 |str (s:List dE)
 |slice (sz:Nat) (tag:Bw) (xs:List ah)
 |agg (cs:List ah)
 |ptr (key:aI) (off:Nat)
 |eptr (x:ah)
 |iface (t:Nat) (x:ah)
 |nilp
 |tuple (aV:List ah)
 |func (f:Nat) (dj:List ah)
 |gmap (key:aI)
 |row (sz:Nat) (key:aI) (n:Nat)
 |rptr (sz:Nat) (key:aI) (n i f:Nat)
 |hdm (clock:Nat) (borns:List Nat)
 |hdi (since:Nat) (seen:List Nat) (last:Nat)
 |cst (v:Value)
 deriving Inhabited
structure bf where
 A:Nat→Nat→Prop
 bx:aI→aZ Nat
 ow:aI→aZ (Nat×Value)
 tr:aI→Nat→Nat→Prop
def lim:Nat:=68719476736
def lO(w:World)(A:Nat→Nat→Prop)(b:Nat):Nat→List Value→Prop
 |_,[]=>True
 |off,u::us=>(A b off∧w.cell? ⟨b,off,none⟩=some u)∧lO w A b (off+1) us
def shape(w:World)(b:Nat):aZ (Nat×fZ×(Nat×Nat)):=
 match w.heap[b]? with
 |some (.cells cur el fz)=>some (cur.size,el,fz)
 |_=>none
theorem wV{w w':World}{b:Nat}(h:w'.heap[b]? =w.heap[b]?):shape w' b=shape w b:=by unfold shape;rw[h]
mutual
def gd(t:Bool)(w:World)(A:Nat→Nat→Prop)(F:Nat→Prop):ah→Value→Prop
 | .int k n,v=>v= .int k n
 | .bool b,v=>v= .bool b
 | .str s,v=>v= .string ⟨s.toArray⟩∧s.length≤lim
 | .slice sz _ xs,v=> ∃a cap,v= .slice a xs.length cap∧xs.length≤cap∧(cap≤maxLen∧xs.length≤lim)∧
   (xs=[]∨ ∃b off us G,a=some ⟨b,off,none⟩∧F b∧(∀c,G c→F c∧(t=true→c≠b))∧lO w A b off us∧(t=true→off=0∧0<us.length∧∃el,shape w b=some (cap*sz,el,(0,0)))∧uj t w A G sz xs us)
 | .agg cs,v=> ∃us:Array Value,v= .agg us∧uk t w A F cs us.toList
 |_,_=>eQ
def uk(t:Bool)(w:World)(A:Nat→Nat→Prop)(F:Nat→Prop):List ah→List Value→Prop
 |[],us=>us=[]
 |c::cs,us=> ∃u cn h7 ir,us=u::cn∧((∀b,h7 b→F b)∧(∀b,ir b→F b)∧(t=true→∀b,h7 b→¬ir b))∧(gd t w A h7 c u∧u.oneCell'=true)∧uk t w A ir cs cn
def uj(t:Bool)(w:World)(A:Nat→Nat→Prop)(F:Nat→Prop)(sz:Nat):List ah→List Value→Prop
 |[],us=>us=[]
 |x::xs,us=> ∃u cn h7 ir,us=u.cells.toList++cn∧((∀b,h7 b→F b)∧(∀b,ir b→F b)∧(t=true→∀b,h7 b→¬ir b))∧(gd t w A h7 x u∧u.cells.size=sz∧(∀c∈u.cells.toList,c.oneCell'=true))∧uj t w A ir sz xs cn
end
mutual
def bc(w:World)(ν:bf):ah→Value→Prop
 | .junk,_=>True
 | .int k n,v=>v= .int k n
 | .bool b,v=>v= .bool b
 | .str s,v=>v= .string ⟨s.toArray⟩∧s.length≤lim
 | .slice sz tag xs,v=>
   (∃a cap,v= .slice a xs.length cap∧xs.length≤cap∧(cap≤maxLen∧xs.length≤lim)∧(xs=[]∨ ∃b off us,a=some ⟨b,off,none⟩∧lO w ν.A b off us∧dB w ν sz xs us))∧
   (tag= .nil→v= .slice none 0 0)∧
   (∀g,tag= .own g→∃n u,ν.ow g=some (n,u)∧xs.length≤n∧(xs.length=n→v=u))∧
   (∀k j,tag= .tr k j→gd true w ν.A (ν.tr k j) (.slice sz tag xs) v)∧(∀k,tag= .lo k→gd false w ν.A (ν.tr k 0) (.slice sz tag xs) v)
 | .agg cs,v=> ∃us:Array Value,v= .agg us∧c7 w ν cs us.toList
 | .ptr key off,v=> ∃b,ν.bx key=some b∧v= .pointer (some ⟨b,off,none⟩)
 | .eptr x,v=> ∃b off u,v= .pointer (some ⟨b,off,none⟩)∧bc w ν x u∧lO w ν.A b off u.cells.toList
 | .iface t x,v=> ∃u,v= .iface t u∧bc w ν x u
 | .nilp,v=>v= .pointer none
 | .tuple aV,v=> ∃us:Array Value,v= .tuple us∧cQ w ν aV us.toList
 | .func f dj,v=> ∃us:Array Value,v= .func (.func f) #[] us∧cQ w ν dj us.toList
 | .gmap key,v=> ∃b,ν.bx key=some b∧v= .map (some b)
 | .row _ key n,v=>(∃b cap,v= .slice (some ⟨b,0,none⟩) n cap)∧n≤lim∧∃n' u,ν.ow key=some (n',u)∧n≤n'∧(n=n'→v=u)
 | .rptr sz key n i f,v=>(∃b o,v= .pointer (some ⟨b,o,none⟩))∧i<n∧∃n' u,ν.ow key=some (n',u)∧n≤n'∧(n=n'→∃b,u.ownBlock=some b∧v= .pointer (some ⟨b,i*sz+f,none⟩))
 | .hdm _ _,_=>eQ
 | .hdi _ _ _,_=>eQ
 | .cst c,v=>v=c
def c7(w:World)(ν:bf):List ah→List Value→Prop
 |[],us=>us=[]
 |c::cs,us=> ∃u cn,us=u::cn∧(bc w ν c u∧u.oneCell'=true)∧c7 w ν cs cn
def cQ(w:World)(ν:bf):List ah→List Value→Prop
 |[],us=>us=[]
 |c::cs,us=> ∃u cn,us=u::cn∧bc w ν c u∧cQ w ν cs cn
def dB(w:World)(ν:bf)(sz:Nat):List ah→List Value→Prop
 |[],us=>us=[]
 |x::xs,us=> ∃u cn,us=u.cells.toList++cn∧(bc w ν x u∧u.cells.size=sz∧(∀c∈u.cells.toList,c.oneCell'=true))∧dB w ν sz xs cn
end
theorem Gj{w w':World}{A gj:Nat→Nat→Prop}{b:Nat}(bk:∀b o,A b o→gj b o∧w'.cell? ⟨b,o,none⟩=w.cell? ⟨b,o,none⟩):
  ∀(us:List Value) (off:Nat),lO w A b off us→lO w' gj b off us
 |[],_,_=>trivial
 |_::us,off,h=>⟨⟨(bk _ _ h.1.1).1,(bk _ _ h.1.1).2.trans h.1.2⟩,Gj bk us (off+1) h.2⟩
mutual
theorem Fi{t:Bool}{w w':World}{A gj:Nat→Nat→Prop}(bk:∀b o,A b o→gj b o∧w'.cell? ⟨b,o,none⟩=w.cell? ⟨b,o,none⟩)(ag:∀b o,A b o→shape w' b=shape w b):∀(p:ah) (F pa:Nat→Prop) (v:Value),(∀b,F b→pa b)→gd t w A F p v→gd t w' gj pa p v
 | .int k n,_,_,_,_,h=>by simp only[gd]at h⊢;exact h
 | .bool b,_,_,_,_,h=>by simp only[gd]at h⊢;exact h
 | .str s,_,_,_,_,h=>by simp only[gd]at h⊢;exact h
 | .slice sz tag xs,F,pa,v,gK,h=>by
  simp only[gd]at h⊢;obtain⟨a,cap,J,U,ar,ba⟩:=h;refine⟨a,cap,J,U,ar,?_⟩;rcases ba with ba|⟨b,off,us,G,ak,aE,bj,c2,ha,hP⟩
  ·exact .inl ba
  ·refine .inr ⟨b,off,us,G,ak,gK _ aE,fun c au=>⟨gK _ (bj c au).1,(bj c au).2⟩,Gj bk _ _ c2,fun aK=>?_,RQ bk ag xs G G _ (fun _ h=>h) hP⟩;obtain⟨f1,f2,el,f3⟩:=ha aK;refine⟨f1,f2,el,?_⟩;cases us with
   |nil=>simp at f2
   |cons u us=>rw[ag b off c2.1.1];exact f3
 | .agg cs,F,pa,v,gK,h=>by simp only[gd]at h⊢;obtain⟨us,J,U⟩:=h;exact⟨us,J,RR bk ag cs F pa _ gK U⟩
 | .junk,_,_,_,_,h=>by simp[gd]at h
 | .ptr _ _,_,_,_,_,h=>by simp[gd]at h
 | .eptr _,_,_,_,_,h=>by simp[gd]at h
 | .iface _ _,_,_,_,_,h=>by simp[gd]at h
 | .nilp,_,_,_,_,h=>by simp[gd]at h
 | .tuple _,_,_,_,_,h=>by simp[gd]at h
 | .func _ _,_,_,_,_,h=>by simp[gd]at h
 | .gmap _,_,_,_,_,h=>by simp[gd]at h
 | .row _ _ _,_,_,_,_,h=>by simp[gd]at h
 | .rptr _ _ _ _ _,_,_,_,_,h=>by simp[gd]at h
 | .hdm _ _,_,_,_,_,h=>by simp[gd]at h
 | .hdi _ _ _,_,_,_,_,h=>by simp[gd]at h
 | .cst _,_,_,_,_,h=>by simp[gd]at h
theorem RR{t:Bool}{w w':World}{A gj:Nat→Nat→Prop}(bk:∀b o,A b o→gj b o∧w'.cell? ⟨b,o,none⟩=w.cell? ⟨b,o,none⟩)(ag:∀b o,A b o→shape w' b=shape w b):∀(cs:List ah) (F pa:Nat→Prop) (us:List Value),(∀b,F b→pa b)→uk t w A F cs us→uk t w' gj pa cs us
 |[],_,_,_,_,h=>by simp only[uk]at h⊢;exact h
 |c::cs,F,pa,us,gK,h=>by simp only[uk]at h⊢;obtain⟨u,cn,h7,ir,J,⟨U,ar,ba⟩,⟨b4,c9⟩,ej⟩:=h;exact⟨u,cn,h7,ir,J,⟨fun b ad=>gK _ (U b ad),fun b ad=>gK _ (ar b ad),ba⟩,⟨Fi bk ag c h7 h7 u (fun _ h=>h) b4,c9⟩,RR bk ag cs ir ir cn (fun _ h=>h) ej⟩
theorem RQ{t:Bool}{w w':World}{A gj:Nat→Nat→Prop}(bk:∀b o,A b o→gj b o∧w'.cell? ⟨b,o,none⟩=w.cell? ⟨b,o,none⟩)(ag:∀b o,A b o→shape w' b=shape w b){sz:Nat}:∀(cs:List ah) (F pa:Nat→Prop) (us:List Value),(∀b,F b→pa b)→uj t w A F sz cs us→uj t w' gj pa sz cs us
 |[],_,_,_,_,h=>by simp only[uj]at h⊢;exact h
 |c::cs,F,pa,us,gK,h=>by simp only[uj]at h⊢;obtain⟨u,cn,h7,ir,J,⟨U,ar,ba⟩,⟨b4,c9⟩,ej⟩:=h;exact⟨u,cn,h7,ir,J,⟨fun b ad=>gK _ (U b ad),fun b ad=>gK _ (ar b ad),ba⟩,⟨Fi bk ag c h7 h7 u (fun _ h=>h) b4,c9⟩,RQ bk ag cs ir ir cn (fun _ h=>h) ej⟩
end
mutual
def aB(S:aI→Prop):ah→Prop
 | .slice _ tag xs=>(match tag with| .own k=>S k| .tr k _=>S k| .lo k=>S k|_=>True)∧aH S xs
 | .agg cs=>aH S cs
 | .ptr k _=>S k
 | .eptr x=>aB S x
 | .iface _ x=>aB S x
 | .tuple aV=>aH S aV
 | .func _ dj=>aH S dj
 | .gmap k=>S k
 | .row _ k _=>S k
 | .rptr _ k _ _ _=>S k
 |_=>True
def aH(S:aI→Prop):List ah→Prop
 |[]=>True
 |x::xs=>aB S x∧aH S xs
end
mutual
theorem wx{S T:aI→Prop}(h:∀k,S k→T k):∀p:ah,aB S p→aB T p
 | .junk,_=>by simp[aB]
 | .int _ _,_=>by simp[aB]
 | .bool _,_=>by simp[aB]
 | .str _,_=>by simp[aB]
 | .slice sz tag xs,bG=>by simp only[aB]at bG⊢;exact⟨by cases tag<;>first|trivial|exact h _ bG.1,jZ h xs bG.2⟩
 | .agg cs,bG=>by simp only[aB]at bG⊢;exact jZ h cs bG
 | .ptr k _,bG=>by simp only[aB]at bG⊢;exact h _ bG
 | .eptr x,bG=>by simp only[aB]at bG⊢;exact wx h x bG
 | .iface _ x,bG=>by simp only[aB]at bG⊢;exact wx h x bG
 | .nilp,_=>by simp[aB]
 | .tuple aV,bG=>by simp only[aB]at bG⊢;exact jZ h aV bG
 | .func _ dj,bG=>by simp only[aB]at bG⊢;exact jZ h dj bG
 | .gmap k,bG=>by simp only[aB]at bG⊢;exact h _ bG
 | .row _ k _,bG=>by simp only[aB]at bG⊢;exact h _ bG
 | .rptr _ k _ _ _,bG=>by simp only[aB]at bG⊢;exact h _ bG
 | .hdm _ _,_=>by simp[aB]
 | .hdi _ _ _,_=>by simp[aB]
 | .cst _,_=>by simp[aB]
theorem jZ{S T:aI→Prop}(h:∀k,S k→T k):∀cx:List ah,aH S cx→aH T cx
 |[],_=>by simp[aH]
 |x::xs,bG=>by simp only[aH]at bG⊢;exact⟨wx h x bG.1,jZ h xs bG.2⟩
end
mutual
theorem Gg:∀p:ah,aB (fun _=>True) p
 | .junk=>by simp[aB]
 | .int _ _=>by simp[aB]
 | .bool _=>by simp[aB]
 | .str _=>by simp[aB]
 | .slice sz tag xs=>by simp only[aB];exact⟨by cases tag<;>trivial,uQ xs⟩
 | .agg cs=>by simp only[aB];exact uQ cs
 | .ptr k _=>by simp[aB]
 | .eptr x=>by simp only[aB];exact Gg x
 | .iface _ x=>by simp only[aB];exact Gg x
 | .nilp=>by simp[aB]
 | .tuple aV=>by simp only[aB];exact uQ aV
 | .func _ dj=>by simp only[aB];exact uQ dj
 | .gmap k=>by simp[aB]
 | .row _ k _=>by simp[aB]
 | .rptr _ k _ _ _=>by simp[aB]
 | .hdm _ _=>by simp[aB]
 | .hdi _ _ _=>by simp[aB]
 | .cst _=>by simp[aB]
theorem uQ:∀cx:List ah,aH (fun _=>True) cx
 |[]=>by simp[aH]
 |x::xs=>by simp only[aH];exact⟨Gg x,uQ xs⟩
end
def fA:List Nat→List Value→List MapEntry
 |b::eO,k::v::r=>⟨k,v,b⟩::fA eO r
 |_,_=>[]
def jN(cs:List ah)(us:Array Value)(el:fZ):Obj:=
 match cs with
 | .hdm clock borns::_=>.map (fA borns us.toList).toArray clock
 | .hdi since seen last::_=>.mapIter (match us.toList with|[.map m]=>m|_=>none) since seen.toArray last
 |_=>.cells us el
structure ahi (clock:Nat) (borns:List Nat) (r:List ah):Prop where
 len:r.length=2*borns.length
 inc:borns.Pairwise (· < ·)
 lt:∀b∈borns,b<clock
def ji(w:World)(ν:bf)(cs:List ah)(us:List Value):Prop:=
 match cs with
 | .hdm clock borns::r=>cQ w ν r us∧ahi clock borns r
 | .hdi _ _ _::r=>cQ w ν r us
 |cs=>c7 w ν cs us
def hU:List ah→Bool
 | .hdm _ _::_=>false
 | .hdi _ _ _::_=>false
 |_=>true
theorem A3{w:World}{ν:bf}{cs:List ah}{us:List Value}(h:c7 w ν cs us):hU cs=true:=by
 unfold hU;split
 ·simp only[c7,bc]at h;obtain⟨_,_,_,⟨h,_⟩,_⟩:=h;exact h.elim
 ·simp only[c7,bc]at h;obtain⟨_,_,_,⟨h,_⟩,_⟩:=h;exact h.elim
 ·rfl
theorem u3{cs:List ah}(h:hU cs=true)(us:Array Value)(el:fZ):jN cs us el= .cells us el:=by
 unfold hU at h;unfold jN;split at h<;>first|cases h|skip
 rfl
theorem u4{w:World}{ν:bf}{cs:List ah}(h:hU cs=true)(us:List Value):ji w ν cs us=c7 w ν cs us:=by
 unfold hU at h;unfold ji;split at h<;>first|cases h|skip
 rfl
structure pc (S:aI→Prop) (w:World) (ν:bf) (w':World) (bq:bf):Prop where
 A:∀b o,ν.A b o→bq.A b o∧w'.cell? ⟨b,o,none⟩=w.cell? ⟨b,o,none⟩
 bx:∀k b,S k→ν.bx k=some b→bq.bx k=some b
 ow:∀g n u,S g→ν.ow g=some (n,u)→∃n' e8,bq.ow g=some (n',e8)∧(n'=n∧e8=u∨n<n')
 sh:∀b o,ν.A b o→shape w' b=shape w b
 tr:∀k j b,S k→ν.tr k j b→bq.tr k j b
abbrev lv:=pc (fun _=>True)
mutual
theorem vd{S:aI→Prop}{w w':World}{ν bq:bf}(ax:pc S w ν w' bq):∀(p:ah) (v:Value),aB S p→bc w ν p v→bc w' bq p v
 | .junk,_,_,_=>by simp[bc]
 | .int k n,_,_,h=>by simp only[bc]at h⊢;exact h
 | .bool b,_,_,h=>by simp only[bc]at h⊢;exact h
 | .str s,_,_,h=>by simp only[bc]at h⊢;exact h
 | .slice sz tag xs,v,ab,h=>by
  simp only[bc,aB]at h ab⊢;obtain⟨⟨a,cap,J,U,ar,ba⟩,b4,c9,nQ,sO⟩:=h;refine⟨⟨a,cap,J,U,ar,?_⟩,b4,fun g a7=>?_,fun k j nR=>?_,fun k nR=>?_⟩
  ·rcases ba with ba|⟨b,off,us,ba,c9,ej⟩
   ·exact .inl ba
   ·exact .inr ⟨b,off,us,ba,Gj ax.A _ _ c9,He ax sz xs us ab.2 ej⟩
  ·obtain⟨n,u,ak,aE,bj⟩:=c9 g a7;subst a7;obtain⟨n',e8,f1,f2⟩:=ax.ow g n u ab.1 ak;refine⟨n',e8,f1,?_⟩;rcases f2 with⟨rfl,rfl⟩|f2
   ·exact⟨aE,bj⟩
   ·exact⟨by omega,fun e=>by omega⟩
  ·have:=nQ k j nR;subst nR;exact Fi ax.A ax.sh _ _ _ _ (fun b=>ax.tr k j b ab.1) this
  ·have:=sO k nR;subst nR;exact Fi ax.A ax.sh _ _ _ _ (fun b=>ax.tr k 0 b ab.1) this
 | .agg cs,v,ab,h=>by simp only[bc,aB]at h ab⊢;obtain⟨us,J,U⟩:=h;exact⟨us,J,Hh ax cs _ ab U⟩
 | .ptr key off,v,ab,h=>by simp only[bc,aB]at h ab⊢;obtain⟨b,J,U⟩:=h;exact⟨b,ax.bx _ _ ab J,U⟩
 | .iface t x,v,ab,h=>by simp only[bc,aB]at h ab⊢;obtain⟨u,J,U⟩:=h;exact⟨u,J,vd ax x u ab U⟩
 | .eptr x,v,ab,h=>by simp only[bc,aB]at h ab⊢;obtain⟨b,off,u,J,U,ar⟩:=h;exact⟨b,off,u,J,vd ax x u ab U,Gj ax.A _ _ ar⟩
 | .nilp,_,_,h=>by simp only[bc]at h⊢;exact h
 | .tuple aV,v,ab,h=>by simp only[bc,aB]at h ab⊢;obtain⟨us,J,U⟩:=h;exact⟨us,J,yG ax aV _ ab U⟩
 | .func f dj,v,ab,h=>by simp only[bc,aB]at h ab⊢;obtain⟨us,J,U⟩:=h;exact⟨us,J,yG ax dj _ ab U⟩
 | .gmap key,v,ab,h=>by simp only[bc,aB]at h ab⊢;obtain⟨b,J,U⟩:=h;exact⟨b,ax.bx _ _ ab J,U⟩
 | .row sz key n,v,ab,h=>by
  simp only[bc,aB]at h ab⊢;obtain⟨J,U,n',u,ar,ba,b4⟩:=h;obtain⟨gl,jx,f1,f2⟩:=ax.ow key n' u ab ar;refine⟨J,U,gl,jx,f1,?_⟩;rcases f2 with⟨rfl,rfl⟩|f2
  ·exact⟨ba,b4⟩
  ·exact⟨by omega,fun e=>by omega⟩
 | .rptr sz key n i f,v,ab,h=>by
  simp only[bc,aB]at h ab⊢;obtain⟨J,U,n',u,ar,ba,b4⟩:=h;obtain⟨gl,jx,f1,f2⟩:=ax.ow key n' u ab ar;refine⟨J,U,gl,jx,f1,?_⟩;rcases f2 with⟨rfl,rfl⟩|f2
  ·exact⟨ba,b4⟩
  ·exact⟨by omega,fun e=>by omega⟩
 | .hdm _ _,_,_,h=>by simp only[bc]at h
 | .hdi _ _ _,_,_,h=>by simp only[bc]at h
 | .cst c,_,_,h=>by simp only[bc]at h⊢;exact h
theorem Hh{S:aI→Prop}{w w':World}{ν bq:bf}(ax:pc S w ν w' bq):∀(cs:List ah) (us:List Value),aH S cs→c7 w ν cs us→c7 w' bq cs us
 |[],_,_,h=>by simp only[c7]at h⊢;exact h
 |c::cs,us,ab,h=>by simp only[c7,aH]at h ab⊢;obtain⟨u,cn,J,U,ar⟩:=h;exact⟨u,cn,J,⟨vd ax c u ab.1 U.1,U.2⟩,Hh ax cs cn ab.2 ar⟩
theorem yG{S:aI→Prop}{w w':World}{ν bq:bf}(ax:pc S w ν w' bq):∀(cs:List ah) (us:List Value),aH S cs→cQ w ν cs us→cQ w' bq cs us
 |[],_,_,h=>by simp only[cQ]at h⊢;exact h
 |c::cs,us,ab,h=>by simp only[cQ,aH]at h ab⊢;obtain⟨u,cn,J,U,ar⟩:=h;exact⟨u,cn,J,vd ax c u ab.1 U,yG ax cs cn ab.2 ar⟩
theorem He{S:aI→Prop}{w w':World}{ν bq:bf}(ax:pc S w ν w' bq)(sz:Nat):∀(xs:List ah) (us:List Value),aH S xs→dB w ν sz xs us→dB w' bq sz xs us
 |[],_,_,h=>by simp only[dB]at h⊢;exact h
 |x::xs,us,ab,h=>by simp only[dB,aH]at h ab⊢;obtain⟨u,cn,J,⟨U,ar,ba⟩,b4⟩:=h;exact⟨u,cn,J,⟨vd ax x u ab.1 U,ar,ba⟩,He ax sz xs cn ab.2 b4⟩
end
theorem WC{S:aI→Prop}{w w':World}{ν bq:bf}(ax:pc S w ν w' bq){cs:List ah}{us:List Value}(ab:aH S cs)(h:ji w ν cs us):ji w' bq cs us:=by
 unfold ji at h⊢;split
 ·simp only[aH]at ab;exact⟨yG ax _ _ ab.2 h.1,h.2⟩
 ·simp only[aH]at ab;exact yG ax _ _ ab.2 h
 ·rename_i J U;split at h
  ·exact absurd rfl (J _ _ _)
  ·exact absurd rfl (U _ _ _ _)
  ·exact Hh ax _ _ ab h
section
variable {w w':World} {ν bq:bf} (ax:lv w ν w' bq)
include ax
theorem yH{p:ah}{v:Value}(h:bc w ν p v):bc w' bq p v:=vd ax p v (Gg p) h
theorem WI{p:List ah}{v:List Value}(h:c7 w ν p v):c7 w' bq p v:=Hh ax p v (uQ p) h
theorem Hk{p:List ah}{v:List Value}(h:cQ w ν p v):cQ w' bq p v:=yG ax p v (uQ p) h
theorem ql{p:List ah}{v:List Value}(h:ji w ν p v):ji w' bq p v:=WC ax (uQ p) h
theorem A0{sz:Nat}{p:List ah}{v:List Value}(h:dB w ν sz p v):dB w' bq sz p v:=He ax sz p v (uQ p) h
end
end Go.Pv
namespace Go.Pv
open Go Go.RowKit
def get(k:Nat):List (Nat×ah)→ah
 |[]=>.junk
 |(i,p)::r=>if i=k then p else get k r
def put(k:Nat)(p:ah):List (Nat×ah)→List (Nat×ah)
 |[]=>[(k,p)]
 |(i,q)::r=>if i=k then(i,p)::r else(i,q)::put k p r
def look{α:Type}(k:aI):List (aI×α)→aZ α
 |[]=>none
 |(i,p)::r=>if i=k then some p else look k r
def cB{α:Type}(k:aI)(p:α):List (aI×α)→List (aI×α)
 |[]=>[(k,p)]
 |(i,q)::r=>if i=k then(i,p)::r else(i,q)::cB k p r
theorem pz(k j:Nat)(p:ah):∀l,get j (put k p l)=if k=j then p else get j l
 |[]=>by simp[get,put]
 |(i,q)::r=>by
  by_cases h:i=k
  ·subst h;by_cases U:i=j<;>simp[get,put,U]
  ·by_cases U:i=j
   ·subst U;simp[get,put,h,k6 h]
   ·simp[get,put,h,U,pz k j p r]
theorem iP{α:Type}(k j:aI)(p:α):∀l,look j (cB k p l)=if k=j then some p else look j l
 |[]=>by simp[look,cB]
 |(i,q)::r=>by
  by_cases h:i=k
  ·subst h;by_cases U:i=j<;>simp[look,cB,U]
  ·by_cases U:i=j
   ·subst U;simp[look,cB,h,k6 h]
   ·simp[look,cB,h,U,iP k j p r]
structure fN where
 n:Nat
 el:Nat
 sz:Nat
 xs:aZ (List ah)
def MI(w:World)(ν:bf)(o:fN)(v:Value)(us:List Value):Prop:=∀xs,o.xs=some xs→xs.length=o.n∧dB w ν o.sz xs us∧∀bl,v.ownBlock=some bl→∀j,¬ν.A bl j
theorem sd{w w':World}{ν bq:bf}(ax:lv w ν w' bq){o:fN}{v:Value}{us:List Value}(bk:∀bl,v.ownBlock=some bl→∀j,bq.A bl j→ν.A bl j)(h:MI w ν o v us):MI w' bq o v us:=fun xs af=>⟨(h xs af).1,A0 ax (h xs af).2.1,fun bl ad j ae=>(h xs af).2.2 bl ad j (bk bl ad j ae)⟩
def dN(S:aI→Prop)(o:fN):Prop:= ∀xs,o.xs=some xs→aH S xs
structure bs where
 t:List (Nat×ah)
 b:List (aI×List ah)
 e:List (aI×fN)
 n:Nat
 o:List aI
def fresh(n:Nat)(o:List aI)(k:aI):Prop:=(match k with| .loc m=>n≤m| .obj _=>True)∧k∉o
theorem JA{n n':Nat}{o o':List aI}(ay:n≤n')(ax:∀k∈o,k∈o'){k:aI}(h:fresh n' o' k):fresh n o k:=by unfold fresh at h⊢;exact⟨by cases k<;>simp at h⊢;omega,fun ab=>h.2 (ax k ab)⟩
def Nd(ν:bf)(b:List (aI×List ah))(e:List (aI×fN))(bl:Nat):Prop:=(∃k,(look k b).isSome∧ν.bx k=some bl)∨(∃g n v,(look g e).isSome∧ν.ow g=some (n,v)∧v.ownBlock=some bl)
structure Good (pr:Nat→Prop) (w:World) (ν:bf) (b:List (aI×List ah)) (e:List (aI×fN)):Prop where
 alt:∀bl o,ν.A bl o→bl<w.heap.size
 box:∀k cs,look k b=some cs→∃bl us el,ν.bx k=some bl∧pr bl∧(∀o,¬ν.A bl o)∧w.heap[bl]? =some (jN cs us el)∧ji w ν cs us.toList
 inj:∀k bS bl,(look k b).isSome→(look bS b).isSome→ν.bx k=some bl→ν.bx bS=some bl→k=bS
 own:∀g o,look g e=some o→∃v us,ν.ow g=some (o.n,v)∧w.ownsRow 0 o.el o.sz v o.n us∧(∀bl,v.ownBlock=some bl→pr bl∧(∀j,ν.A bl j→j<o.n*o.sz))∧MI w ν o v us
 oinj:∀g eI n n' v v' bl,(look g e).isSome→(look eI e).isSome→ν.ow g=some (n,v)→ν.ow eI=some (n',v')→v.ownBlock=some bl→v'.ownBlock=some bl→g=eI
 obx:∀g k n v bl,(look g e).isSome→(look k b).isSome→ν.ow g=some (n,v)→v.ownBlock=some bl→ν.bx k=some bl→eQ
 one:∀k,ν.bx k=none∨ν.ow k=none
 otr:∀bl,Nd ν b e bl→∀k j,¬ν.tr k j bl
structure fh where
 w0:World
 ν0:bf
 mt:Nat→Prop
 N:Nat
 ob:List aI
def fh.pr(C:fh)(bl:Nat):Prop:=C.mt bl∨C.w0.heap.size≤bl
def alF:aI:= .obj 990001
def fY:aI:= .obj 990002
structure qx (C:fh) (w:World) (ν:bf):Prop where
 os:w.os=C.w0.os
 tape:w.tape=C.w0.tape
 output:w.output=C.w0.output
 size:C.w0.heap.size≤w.heap.size
 block:∀k,k<C.w0.heap.size→¬C.mt k→w.heap[k]? =C.w0.heap[k]?
 keep:∀b o,C.ν0.A b o→ν.A b o∧w.cell? ⟨b,o,none⟩=C.w0.cell? ⟨b,o,none⟩
 fresh:∀b o,ν.A b o→C.ν0.A b o∨C.pr b
 obj:∀n b,C.ν0.bx (.obj n)=some b→ν.bx (.obj n)=some b
 obn:∀n b,C.ν0.bx (.obj n)=some b→ .obj n∈C.ob
 row:∀m n u,C.ν0.ow (.obj m)=some (n,u)→∃n' e8,ν.ow (.obj m)=some (n',e8)∧(n'=n∧e8=u∨n<n')
 obr:∀m n u,C.ν0.ow (.obj m)=some (n,u)→ .obj m∈C.ob
 trd:∀k j bS dD b,ν.tr k j b→ν.tr bS dD b→k=bS∧j=dD
 trb:∀k j b,ν.tr k j b→(k=alF∨C.w0.heap.size≤b)∧b<w.heap.size
 trn:∀k j b,ν.tr k j b→ν.bx k=none∧ν.ow k=none
 sh:∀b o,C.ν0.A b o→shape w b=shape C.w0 b
theorem DN{ν bq:bf}{g:aI}{n:Nat}{u:Value}(h:∃n' e8,ν.ow g=some (n',e8)∧(n'=n∧e8=u∨n<n'))(ax:∀n u,ν.ow g=some (n,u)→∃n' e8,bq.ow g=some (n',e8)∧(n'=n∧e8=u∨n<n')):
  ∃n' e8,bq.ow g=some (n',e8)∧(n'=n∧e8=u∨n<n'):=by
 obtain⟨h2,iU,ak,aE⟩:=h;obtain⟨gl,jx,f1,f2⟩:=ax h2 iU ak;refine⟨gl,jx,f1,?_⟩;rcases aE with⟨rfl,rfl⟩|aE
 ·exact f2
 ·rcases f2 with⟨rfl,rfl⟩|f2
  ·exact .inr aE
  ·exact .inr (by omega)
structure cU (C:fh) (st:bs) (a:Act) (w:World) (ν:bf):Prop where
 good:Good C.pr w ν st.b st.e
 fr:qx C w ν
 defers:a.defers=[]
 size:a.tmps.size=C.N
 slot:∀i,bc w ν (get i st.t) (a.tmps.getD i undef)
 new:∀k,fresh st.n st.o k→ν.bx k=none∧ν.ow k=none∧∀j b,¬ν.tr k j b
def eM(d:aZ Nat)(p:ah)(t:List (Nat×ah)):List (Nat×ah):=
 match d with
 |some d=>put d p t
 |none=>t
def jo(N:Nat)(d:aZ Nat):Bool:=match d with|some d=>decide (d<N)|none=>true
theorem cU.put{C:fh}{st:bs}{a:Act}{w:World}{ν:bf}(h:cU C st a w ν){d:aZ Nat}(aQ:jo C.N d=true){p:ah}{v:Value}(bG:bc w ν p v):
  cU C {st with t:=eM d p st.t} (a.put d v) w ν:=by
 cases d with
 |none=>exact h
 |some d=>
  have bE:d<a.tmps.size:=by rw[h.size];simpa[jo]using aQ
  refine⟨h.good,h.fr,h.defers,by simpa[Act.put]using h.size,fun i=>?_,h.new⟩;simp only[eM,pz];by_cases e:d=i
  ·subst e;simpa[Act.put,Array.getD_eq_getD_getElem?,bE]using bG
  ·have:=h.slot i;simpa[e,Act.put,Array.getD_eq_getD_getElem?,Array.getElem?_setIfInBounds_ne e]using this
theorem cU.over{C:fh}{st st':bs}{a:Act}{w w':World}{ν bq:bf}(h:cU C st a w ν)(ax:lv w ν w' bq)(aK:st'.t=st.t)(a7:Good C.pr w' bq st'.b st'.e)(aL:qx C w' bq)
  (ay:∀k,fresh st'.n st'.o k→bq.bx k=none∧bq.ow k=none∧∀j b,¬bq.tr k j b):cU C st' a w' bq:=
 ⟨a7,aL,h.defers,h.size,fun i=>by rw[aK];exact yH ax (h.slot i),ay⟩
inductive dr where
 |t (i:Nat)
 |c (p:ah)
 deriving Inhabited
def cr(t:List (Nat×ah)):dr→ah
 | .t i=>get i t
 | .c p=>p
def EB:ah→Value→Bool
 | .int k n,.int bS n'=>decide (k=bS∧n=n')
 | .bool b,.bool b5=>b==b5
 | .str s,.string l=>decide (l.data.toList=s∧s.length≤lim)
 | .slice _ .nil [],.slice none 0 0=>true
 | .nilp,.pointer none=>true
 | .tuple [],.tuple ⟨[]⟩=>true
 | .func f [],.func (.func g) ⟨[]⟩ ⟨[]⟩=>f==g
 | .junk,_=>true
 |_,_=>false
theorem OE(w:World)(ν:bf){p:ah}{v:Value}(h:EB p v=true):bc w ν p v:=by
 unfold EB at h;split at h
 ·simp at h;obtain⟨rfl,rfl⟩:=h;simp[bc]
 ·simp at h;subst h;simp[bc]
 ·rename_i s l;simp at h;obtain⟨J,U⟩:=h;refine⟨?_,U⟩;subst J;simp
 ·simp only[bc];refine⟨⟨none,0,rfl,by simp,by simp,by simp⟩,by simp,(fun _ h=>by cases h),(fun _ _ h=>by cases h),(fun _ h=>by cases h)⟩
 ·simp[bc]
 ·simp[bc,cQ]
 ·simp at h;subst h;simp[bc,cQ]
 ·simp[bc]
 ·cases h
def zd:List ah→List Value→Bool
 |[],[]=>true
 |p::cx,v::aV=>EB p v&&v.oneCell'&&zd cx aV
 |_,_=>false
def zc:ah→Value→Bool
 | .agg cs,.agg us=>zd cs us.toList
 |p,v=>EB p v
theorem OF(w:World)(ν:bf):∀(cx:List ah) (aV:List Value),zd cx aV=true→c7 w ν cx aV
 |[],[],_=>by simp[c7]
 |[],_::_,h=>by simp[zd]at h
 |_::_,[],h=>by simp[zd]at h
 |p::cx,v::aV,h=>by simp only[zd,cC]at h;simp only[c7];exact⟨v,aV,rfl,⟨OE w ν h.1.1,h.1.2⟩,OF w ν cx aV h.2⟩
theorem Iv(w:World)(ν:bf){p:ah}{v:Value}(h:zc p v=true):bc w ν p v:=by
 unfold zc at h;split at h
 ·simp only[bc];exact⟨_,rfl,OF w ν _ _ h⟩
 ·exact OE w ν h
def ek:dr→Operand→Bool
 | .t i,.tmp j=>i==j
 | .c p,.const v=>zc p v
 | .c (.func f []),.func g=>f==g
 |_,_=>false
theorem en{C:fh}{st:bs}{a:Act}{w:World}{ν:bf}(h:cU C st a w ν){x:dr}{o:Operand}(af:ek x o=true):bc w ν (cr st.t x) (a.eval o):=by
 unfold ek at af;split at af
 ·simp at af;subst af;simpa[cr,Act.eval]using h.slot _
 ·simpa[cr,Act.eval]using Iv w ν af
 ·simp at af;subst af;simp[cr,Act.eval,bc,cQ]
 ·cases af
inductive Bv where
 |int (k:IntKind)
 |bool
 |str
 |slice (e:Nat)
 |struct (dR:List (Nat×Nat))
 |map (k e:Nat)
 |other
 deriving DecidableEq
structure dF where
 size:Nat
 bytes:Nat
 kind:Bv
 zero:ah
def Bv.isAgg:Bv→Bool
 | .struct _=>true
 |_=>false
def Bo:List ah→List Value→Bool
 |[],[]=>true
 |p::cx,v::aV=>zc p v&&v.oneCell'&&Bo cx aV
 |_,_=>false
def y1:ah→Value→Bool
 | .agg cs,.agg us=>Bo cs us.toList
 | .agg _,_=>false
 |p,v=>zc p v&&v.oneCell'
def kf:Bv→TypeDesc→Bool
 | .int k,.int bS=>decide (k=bS)
 | .bool,.bool=>true
 | .str,.string=>true
 | .slice e,.slice fy=>e==fy
 | .struct dR,.struct gs=>decide (gs.toList.map (fun f=>(f.offset,f.type))=dR)
 | .map k e,.map bS fy=>k==bS&&e==fy
 | .other,d=>match d with| .struct _| .array _ _| .int _| .bool| .string| .slice _=>false|_=>true
 |_,_=>false
def RI(P:cE)(gs:Array Field):Bool:=gs.toList.all fun f=>match P.underlying f.type with|some (.int _)=>true|some .string=>true|_=>false
def QU(P:cE)(t:Nat)(gs:Array Field):Bool:=gs.toList.all (fun f=>f.name != "_")&& !P.stoodInHeld t&& !P.eqGuardType P.depth t
def IW(P:cE)(t:Nat):TypeDesc→Bool
 | .struct gs=> !RI P gs||QU P t gs
 |_=>true
def Ni(P:cE)(t:Nat)(f:dF):Bool:=
 match P.info? t,P.underlying t with
 |some i,some d=>IW P t d&&i.size==f.size&&i.bytes==f.bytes&&kf f.kind d&&(match i.zero with|some z=>y1 f.zero z&&z.cells.size==f.size|none=>false)
 |_,_=>false
def fP(P:cE)(bB:List (Nat×dF)):Bool:=bB.all fun x=>Ni P x.1 x.2
def ef(bB:List (Nat×dF))(t:Nat):aZ dF:=(bB.find? fun x=>x.1==t).map (·.2)
theorem amu{P:cE}{bB:List (Nat×dF)}(h:fP P bB=true){t:Nat}{f:dF}(aL:ef bB t=some f):Ni P t f=true:=by
 unfold ef at aL;cases af:bB.find? fun x=>x.1==t with
 |none=>simp[af]at aL
 |some x=>simp[af]at aL;have J:=List.find?_some af;simp at J;have U:=List.mem_of_find?_eq_some af;have ar:=gn.1 h x U;rw[←aL,←J];exact ar
structure YN (P:cE) (t:Nat) (f:dF):Prop where
 cmp:∀d,P.underlying t=some d→IW P t d=true
 ex:∃i d z,P.info? t=some i∧P.underlying t=some d∧i.size=f.size∧i.bytes=f.bytes∧kf f.kind d=true∧i.zero=some z∧y1 f.zero z=true∧z.cells.size=f.size
theorem vp{P:cE}{bB:List (Nat×dF)}(h:fP P bB=true){t:Nat}{f:dF}(aL:ef bB t=some f):YN P t f:=by
 have h:=amu h aL;unfold Ni at h;split at h
 ·rename_i i d J U;simp only[cC,dQ]at h;obtain⟨⟨⟨⟨bn,ar⟩,ba⟩,b4⟩,c9⟩:=h;split at c9
  ·rename_i z br;simp only[cC,dQ]at c9;exact⟨fun cg my=>by rw[U]at my;cases my;exact bn,i,d,z,J,U,ar,ba,b4,br,c9.1,c9.2⟩
  ·cases c9
 ·cases h
theorem pd(b o j:Nat):(⟨b,o,none⟩:Addr).add j=⟨b,o+j,none⟩:=by
 unfold Addr.add;split
 ·rename_i h;subst h;rfl
 ·rfl
theorem NL(w:World)(ν:bf):∀(cx:List ah) (aV:List Value),Bo cx aV=true→c7 w ν cx aV
 |[],[],_=>by simp[c7]
 |[],_::_,h=>by simp[Bo]at h
 |_::_,[],h=>by simp[Bo]at h
 |p::cx,v::aV,h=>by simp only[Bo,cC]at h;simp only[c7];exact⟨v,aV,rfl,⟨Iv w ν h.1.1,h.1.2⟩,NL w ν cx aV h.2⟩
def cells:ah→List ah
 | .agg cs=>cs
 |p=>[p]
def ec:ah→Bool
 | .junk| .tuple _=>false
 | .cst (.slice _ _ _)| .cst (.string _)=>true
 | .cst _=>false
 |_=>true
theorem MG{w:World}{ν:bf}{p:ah}{v:Value}(h:bc w ν p v)(ag:ec p=true)(bz:∀cs,p≠ .agg cs):v.oneCell'=true∧v.cells= #[v]:=by
 cases p<;>simp only[bc,ec]at h ag;case junk=>cases ag
 case tuple=>cases ag
 case cst c=>subst h;cases v<;>first|exact⟨rfl,rfl⟩|cases ag
 case agg cs=>exact absurd rfl (bz cs)
 case int=>subst h;exact⟨rfl,rfl⟩
 case bool=>subst h;exact⟨rfl,rfl⟩
 case str=>rw[h.1];exact⟨rfl,rfl⟩
 case slice=>obtain⟨⟨a,cap,J,_⟩,_⟩:=h;subst J;exact⟨rfl,rfl⟩
 case ptr=>obtain⟨b,_,J⟩:=h;subst J;exact⟨rfl,rfl⟩
 case eptr=>obtain⟨b,o,u,J,_⟩:=h;subst J;exact⟨rfl,rfl⟩
 case iface=>obtain⟨u,J,_⟩:=h;subst J;exact⟨rfl,rfl⟩
 case nilp=>subst h;exact⟨rfl,rfl⟩
 case func=>obtain⟨us,J,_⟩:=h;subst J;exact⟨rfl,rfl⟩
 case gmap=>obtain⟨b,_,J⟩:=h;subst J;exact⟨rfl,rfl⟩
 case row=>obtain⟨⟨a,cap,J⟩,_⟩:=h;subst J;exact⟨rfl,rfl⟩
 case rptr=>obtain⟨⟨a,o,J⟩,_⟩:=h;subst J;exact⟨rfl,rfl⟩
theorem vc{w:World}{ν:bf}{p:ah}{v:Value}(h:bc w ν p v)(ag:ec p=true):c7 w ν (cells p) v.cells.toList:=by
 by_cases bz:∃cs,p= .agg cs
 ·obtain⟨cs,rfl⟩:=bz;simp only[bc]at h;obtain⟨us,rfl,U⟩:=h;simpa[cells,pR]using U
 ·have nf:∀cs,p≠ .agg cs:=fun cs e=>bz ⟨cs,e⟩;obtain⟨J,U⟩:=MG h ag nf;have au:cells p=[p]:=by cases p<;>first|rfl|exact absurd rfl (nf _)
  rw[au,U];simp only[c7];exact⟨v,[],rfl,⟨h,J⟩,rfl⟩
theorem A2{w:World}{ν:bf}:∀{cx:List ah} {aV:List Value},c7 w ν cx aV→∀c∈aV,c.oneCell'=true
 |[],aV,h=>by simp only[c7]at h;subst h;simp
 |p::cx,aV,h=>by
  simp only[c7]at h;obtain⟨u,cn,rfl,J,U⟩:=h;intro c au;rcases fR.1 au with rfl|au
  ·exact J.2
  ·exact A2 U c au
theorem pL{w:World}{ν:bf}:∀{cx:List ah} {aV:List Value},c7 w ν cx aV→aV.length=cx.length
 |[],aV,h=>by simp only[c7]at h;subst h;rfl
 |p::cx,aV,h=>by simp only[c7]at h;obtain⟨u,cn,rfl,_,U⟩:=h;simp[pL U]
theorem A1{w:World}{ν:bf}:∀(n:Nat) {cx:List ah} {aV:List Value},c7 w ν cx aV→c7 w ν (cx.drop n) (aV.drop n)
 |0,_,_,h=>by simpa using h
 |n+1,[],aV,h=>by simp only[c7]at h;subst h;simp[c7]
 |n+1,p::cx,aV,h=>by simp only[c7]at h;obtain⟨u,cn,rfl,_,U⟩:=h;simpa using A1 n U
theorem DI{w:World}{ν:bf}:∀(n:Nat) {cx:List ah} {aV:List Value},c7 w ν cx aV→c7 w ν (cx.take n) (aV.take n)
 |0,_,_,_=>by simp[c7]
 |n+1,[],aV,h=>by simp only[c7]at h;subst h;simp[c7]
 |n+1,p::cx,aV,h=>by simp only[c7]at h;obtain⟨u,cn,rfl,J,U⟩:=h;simp only[List.take_succ_cons,c7];exact⟨u,_,rfl,J,DI n U⟩
theorem yF{w:World}{ν:bf}:∀{cx bT:List ah} {aV us:List Value},c7 w ν cx aV→c7 w ν bT us→c7 w ν (cx++bT) (aV++us)
 |[],bT,aV,us,h,cb=>by simp only[c7]at h;subst h;simpa using cb
 |p::cx,bT,aV,us,h,cb=>by simp only[c7]at h;obtain⟨u,cn,rfl,J,U⟩:=h;simp only[bX,c7];exact⟨u,_,rfl,J,yF U cb⟩
theorem DH{w:World}{ν:bf}:∀(n:Nat) {cx:List ah} {aV:List Value} {p:ah},c7 w ν cx aV→cx[n]? =some p→∃v,aV[n]? =some v∧bc w ν p v∧v.oneCell'=true
 |n,[],_,p,_,bG=>by simp at bG
 |0,q::cx,aV,p,h,bG=>by simp only[c7]at h;obtain⟨u,cn,rfl,J,_⟩:=h;simp at bG;subst bG;exact⟨u,rfl,J.1,J.2⟩
 |n+1,q::cx,aV,p,h,bG=>by simp only[c7]at h;obtain⟨u,cn,rfl,_,U⟩:=h;simpa using DH n U (by simpa using bG)
theorem Hi{w:World}{ν:bf}:∀(n:Nat) {cx:List ah} {aV:List Value} {p:ah},cQ w ν cx aV→cx[n]? =some p→∃v,aV[n]? =some v∧bc w ν p v
 |n,[],_,p,_,bG=>by simp at bG
 |0,q::cx,aV,p,h,bG=>by simp only[cQ]at h;obtain⟨u,cn,rfl,J,_⟩:=h;simp at bG;subst bG;exact⟨u,rfl,J⟩
 |n+1,q::cx,aV,p,h,bG=>by simp only[cQ]at h;obtain⟨u,cn,rfl,_,U⟩:=h;simpa using Hi n U (by simpa using bG)
theorem uU{w:World}{A:Nat→Nat→Prop}{b:Nat}:∀{us:List Value} {off j:Nat} {u:Value},lO w A b off us→us[j]? =some u→A b (off+j)∧w.cell? ⟨b,off+j,none⟩=some u
 |[],_,_,_,_,h=>by simp at h
 |x::us,off,0,u,aw,h=>by simp at h;subst h;exact aw.1
 |x::us,off,j+1,u,aw,h=>by have:=uU (j:=j) aw.2 (by simpa using h);rwa[show off+1+j=off+(j+1)from by omega]at this
theorem Gi{w:World}{A:Nat→Nat→Prop}{b:Nat}:∀(n:Nat) {us:List Value} {off:Nat},lO w A b off us→lO w A b (off+n) (us.drop n)
 |0,_,_,h=>by simpa using h
 |n+1,[],_,_=>by simp[lO]
 |n+1,x::us,off,h=>by have:=Gi n h.2;rw[show off+(n+1)=off+1+n from by omega];simpa using this
theorem Gk{w:World}{A:Nat→Nat→Prop}{b:Nat}:∀(n:Nat) {us:List Value} {off:Nat},lO w A b off us→lO w A b off (us.take n)
 |0,_,_,_=>by simp[lO]
 |n+1,[],_,_=>by simp[lO]
 |n+1,x::us,off,h=>by simp only[List.take_succ_cons];exact⟨h.1,Gk n h.2⟩
theorem alz{P:cE}{w:World}{A:Nat→Nat→Prop}{b off:Nat}{us:List Value}(h:lO w A b off us):(loadCells ⟨b,off,none⟩ us.length).run P w= .ok us.toArray w:=run_loadCells_list w _ us fun j v ae=>by rw[pd];exact(uU h ae).2
theorem aly{P:cE}{w:World}{b off n:Nat}{us:Array Value}{el:fZ}{fr:Nat×Nat}(h:w.heap[b]? =some (.cells us el fr))(ay:off+n≤us.size):
  (loadCells ⟨b,off,none⟩ n).run P w= .ok ((us.toList.drop off).take n).toArray w:=by
 have aw:((us.toList.drop off).take n).length=n:=by simp;omega
 have:=run_loadCells_list (P:=P) w ⟨b,off,none⟩ ((us.toList.drop off).take n) fun j v ae=>by
  rw[pd];have afc:j<n:=by have:=(e1.1 ae).1;omega
  simp only[World.cell?,h,ml,gX,if_false];rw[List.getElem?_take]at ae;simpa[afc]using ae
 rw[aw]at this;exact this
theorem Q7{α:Type}(l r:List α)(n sz:Nat)(h:l.length=sz):(l++r).drop ((n+1)*sz)=r.drop (n*sz):=by
 have e:(n+1)*sz=l.length+n*sz:=by rw[h,Nat.succ_mul,Nat.add_comm]
 rw[e,←List.drop_drop];simp
theorem Xp{α:Type}(l r:List α)(n sz:Nat)(h:l.length=sz):(l++r).take ((n+1)*sz)=l++r.take (n*sz):=by
 have e:(n+1)*sz=l.length+n*sz:=by rw[h,Nat.succ_mul,Nat.add_comm]
 rw[e,List.take_length_add_append]
theorem Hd{w:World}{ν:bf}{sz:Nat}:∀(i:Nat) {xs:List ah} {us:List Value} {p:ah},dB w ν sz xs us→xs[i]? =some p→
  ∃u,bc w ν p u∧u.cells.size=sz∧u.cells.toList=(us.drop (i*sz)).take sz
 |i,[],_,p,_,bG=>by simp at bG
 |0,x::xs,us,p,h,bG=>by
  simp only[dB]at h;obtain⟨u,cn,rfl,⟨J,U,ar⟩,_⟩:=h;simp at bG;subst bG;refine⟨u,J,U,?_⟩;have:u.cells.toList.length=sz:=by simpa using U
  simp[←this]
 |i+1,x::xs,us,p,h,bG=>by
  simp only[dB]at h;obtain⟨u,cn,rfl,⟨_,U,_⟩,b4⟩:=h;obtain⟨v,g1,g2,g3⟩:=Hd i b4 (by simpa using bG);refine⟨v,g1,g2,?_⟩;have:u.cells.toList.length=sz:=by simpa using U
  rw[g3,Q7 _ _ _ _ this]
theorem tt{w:World}{ν:bf}{sz:Nat}:∀{xs:List ah} {us:List Value},dB w ν sz xs us→us.length=xs.length*sz
 |[],us,h=>by simp only[dB]at h;subst h;simp
 |x::xs,us,h=>by
  simp only[dB]at h;obtain⟨u,cn,rfl,⟨_,U,_⟩,b4⟩:=h;have:u.cells.toList.length=sz:=by simpa using U
  rw[o5,this,tt b4,o6,Nat.succ_mul];omega
theorem yE{w:World}{ν:bf}{sz:Nat}:∀{xs:List ah} {us:List Value},dB w ν sz xs us→∀c∈us,c.oneCell'=true
 |[],us,h=>by simp only[dB]at h;subst h;simp
 |x::xs,us,h=>by
  simp only[dB]at h;obtain⟨u,cn,rfl,⟨_,_,ar⟩,b4⟩:=h;intro c au;rcases kQ.1 au with au|au
  ·exact ar c au
  ·exact yE b4 c au
theorem DG{w:World}{ν:bf}{sz:Nat}:∀{cx bT:List ah} {aV us:List Value},dB w ν sz cx aV→dB w ν sz bT us→dB w ν sz (cx++bT) (aV++us)
 |[],bT,aV,us,h,cb=>by simp only[dB]at h;subst h;simpa using cb
 |p::cx,bT,aV,us,h,cb=>by simp only[dB]at h;obtain⟨u,cn,rfl,J,U⟩:=h;simp only[bX,dB];exact⟨u,cn++us,by simp,J,DG U cb⟩
theorem WD{w:World}{ν:bf}{sz:Nat}:∀(n:Nat) {xs:List ah} {us:List Value},dB w ν sz xs us→dB w ν sz (xs.drop n) (us.drop (n*sz))
 |0,_,_,h=>by simpa using h
 |n+1,[],us,h=>by simp only[dB]at h;subst h;simp[dB]
 |n+1,x::xs,us,h=>by
  simp only[dB]at h;obtain⟨u,cn,rfl,⟨_,U,_⟩,b4⟩:=h;have:u.cells.toList.length=sz:=by simpa using U
  rw[Q7 _ _ _ _ this];simpa using WD n b4
theorem WH{w:World}{ν:bf}{sz:Nat}:∀(n:Nat) {xs:List ah} {us:List Value},dB w ν sz xs us→dB w ν sz (xs.take n) (us.take (n*sz))
 |0,_,_,_=>by simp[dB]
 |n+1,[],us,h=>by simp only[dB]at h;subst h;simp[dB]
 |n+1,x::xs,us,h=>by
  simp only[dB]at h;obtain⟨u,cn,rfl,⟨J,U,ar⟩,b4⟩:=h;have:u.cells.toList.length=sz:=by simpa using U
  simp only[List.take_succ_cons,dB];refine⟨u,cn.take (n*sz),?_,⟨J,U,ar⟩,WH n b4⟩;rw[Xp _ _ _ _ this]
def isAgg(sz:Nat)(p:ah):Prop:= ∃cs,p= .agg cs∧cs.length=sz
def yJ(agg:Bool)(sz dI n i f:Nat):aZ fN→aZ (Prop×ah)
 |some ⟨n',_,jk,some xs⟩=>if n'=n∧jk=dI then
   (match xs[i]? with
    |some p=>if agg then some (ec p=true∧f+sz≤(cells p).length,.agg (((cells p).drop f).take sz))else((cells p)[f]?).map fun q=>(ec p=true,q)
    |none=>none)else none
 |_=>none
def mK(b:List (aI×List ah))(e:List (aI×fN))(agg:Bool)(sz:Nat):ah→aZ (Prop×ah)
 | .rptr dI k n i f=>yJ agg sz dI n i f (look k e)
 | .ptr k off=>
  match look k b with
  |some cs=>if agg then some (hU cs=true∧off+sz≤cs.length,.agg ((cs.drop off).take sz))else(cs[off]?).map fun p=>(hU cs=true,p)
  |none=>none
 | .eptr p=>if agg then some (isAgg sz p,p)else some (ec p=true∧cells p=[p],p)
 |_=>none
def B1(agg:Bool)(sz:Nat):ah→aZ (Prop×ah)
 | .eptr p=>if agg then some (isAgg sz p,p)else some (ec p=true∧cells p=[p],p)
 |_=>none
theorem adG{b:List (aI×List ah)}{e:List (aI×fN)}{agg:Bool}{sz:Nat}{p:ah}{r:Prop×ah}(h:B1 agg sz p=some r):mK b e agg sz p=some r:=by
 cases p<;>simp only[B1]at h<;>first|cases h;done|skip
 simpa only[mK]using h
theorem ahc{b:List (aI×List ah)}{e:List (aI×fN)}{agg:Bool}{sz:Nat}{p:ah}{r:Prop×ah}(h:mK b [] agg sz p=some r):mK b e agg sz p=some r:=by cases p<;>simp only[mK]at h⊢ <;>first|exact h|(simp[look,yJ]at h)
def p0(off:Nat)(agg:Bool)(sz:Nat):ah→aZ (Prop×ah)
 | .ptr k o=>some (True,.ptr k (o+off))
 | .rptr dI k n i f=>some (True,.rptr dI k n i (f+off))
 | .eptr (.agg cs)=>if agg then some (off+sz≤cs.length,.eptr (.agg ((cs.drop off).take sz)))else(cs[off]?).map fun p=>(ec p=true∧cells p=[p],.eptr p)
 |_=>none
def rC(off:Nat)(agg:Bool)(sz:Nat):ah→aZ (Prop×ah)
 | .agg cs=>if agg then some (off+sz≤cs.length,.agg ((cs.drop off).take sz))else(cs[off]?).map fun p=>(True,p)
 |_=>none
def Ae(sz:Nat):ah→ah→aZ (Prop×ah)
 | .slice dI _ xs,.int _ i=>if dI=sz then some (0≤i∧i<xs.length,.eptr (xs.getD i.toNat .junk))else none
 | .row dI k n,.int _ i=>if dI=sz then some (0≤i∧i<n,.rptr dI k n i.toNat 0)else none
 |_,_=>none
def Ht:ah→ah→aZ (Prop×ah)
 | .str s,.int _ i=>some (0≤i∧i<s.length,.int .u8 (s.getD i.toNat 0).toNat)
 |_,_=>none
def q1(E3:Int):aZ ah→aZ Int
 |none=>some E3
 |some (.int _ i)=>some i
 |_=>none
def Hy(x:ah)(lo hi:aZ ah):aZ (Prop×ah):=
 match x with
 | .str s=>match q1 0 lo,q1 s.length hi with
  |some l,some h=>some (0≤l∧l≤h∧h≤s.length,.str ((s.take h.toNat).drop l.toNat))
  |_,_=>none
 |_=>none
def Gr(sz:Nat)(x:ah)(lo hi:aZ ah):aZ (Prop×ah):=
 match x with
 | .slice dI _ xs=>if dI=sz then match q1 0 lo,q1 xs.length hi with
  |some l,some h=>some (0≤l∧l≤h∧h≤xs.length,.slice sz .no ((xs.take h.toNat).drop l.toNat))
  |_,_=>none else none
 |_=>none
def ta(n:Int):Prop:= -9223372036854775808≤n∧n≤9223372036854775807
def F3(op:BinOp)(wr:Bool)(k:IntKind)(a b:Int):aZ (Prop×ah):=
 match op with
 | .add=>if wr then some (True,.int k (k.wrap (a+b)))else some (k= .i64∧ta (a+b),.int .i64 (a+b))
 | .sub=>if wr then some (True,.int k (k.wrap (a-b)))else some (k= .i64∧ta (a-b),.int .i64 (a-b))
 | .mul=>if wr then some (True,.int k (k.wrap (a*b)))else some (k= .i64∧ta (a*b),.int .i64 (a*b))
 | .quo=>some (b≠0,.int k (k.wrap (a.tdiv b)))
 | .rem=>some (b≠0,.int k (a.tmod b))
 | .eql=>some (True,.bool (a==b))
 | .neq=>some (True,.bool (a !=b))
 | .lss=>some (True,.bool (decide (a<b)))
 | .leq=>some (True,.bool (decide (a≤b)))
 | .gtr=>some (True,.bool (decide (b<a)))
 | .geq=>some (True,.bool (decide (b≤a)))
 | .and=>some (True,.int k (k.wrap (qp k.bits a&&& qp k.bits b).toNat))
 | .or=>some (True,.int k (k.wrap (qp k.bits a|||qp k.bits b).toNat))
 | .xor=>some (True,.int k (k.wrap (qp k.bits a ^^^ qp k.bits b).toNat))
 |_=>none
def HA(op:BinOp)(a b:List dE):aZ (Prop×ah):=
 match op with
 | .add=>some (a.length+b.length≤lim,.str (a++b))
 | .eql=>some (True,.bool (a==b))
 | .neq=>some (True,.bool (!(a==b)))
 | .lss=>some (True,.bool (hv a b))
 | .leq=>some (True,.bool (hv a b||a==b))
 | .gtr=>some (True,.bool (!(hv a b||a==b)))
 | .geq=>some (True,.bool (!hv a b))
 |_=>none
def xp(op:BinOp)(wr:Bool):ah→ah→aZ (Prop×ah)
 | .int k a,.int bS b=>match op with
  | .shl=>some (0≤b,.int k (k.wrap (a*2 ^ (min b.toNat k.bits))))
  | .shr=>some (0≤b,.int k (a.fdiv (2 ^ (min b.toNat k.bits))))
  |_=>if k=bS then F3 op wr k a b else none
 | .str a,.str b=>HA op a b
 |_,_=>none
def n3(cs:List ah)(off:Nat)(cx:List ah):List ah:=cs.take off++cx++cs.drop (off+cx.length)
def ua(t:List (Nat×ah)):List ah→List (Nat×Nat×dr)→aZ (Prop×List ah)
 |cs,[]=>some (True,cs)
 |cs,(off,sz,x)::r=>
  let p:=cr t x
  match ua t (n3 cs off (cells p)) r with
  |some (c,cs')=>some ((ec p=true∧(cells p).length=sz∧off+sz≤cs.length)∧c,cs')
  |none=>none
def GP(c x y:ah):aZ (Prop×ah):=
 match c with
 | .bool b=>match x,y with
  | .bool u,.bool v=>some (True,.bool (cond b u v))
  |p,q=>match b with
   |true=>some (True,p)
   |false=>some (True,q)
 |_=>none
def GF:ah→aZ (Prop×ah)
 | .bool b=>some (True,.bool (!b))
 |_=>none
def GA:ah→aZ (Prop×ah)
 | .int k n=>some (True,.int k (k.wrap (0-n)))
 |_=>none
def zq(i:Nat):ah→aZ (Prop×ah)
 | .tuple aV=>(aV[i]?).map fun p=>(True,p)
 |_=>none
def Ao:ah→aZ (Prop×ah)
 | .slice _ _ xs=>some (True,.int .i64 xs.length)
 | .row _ _ n=>some (True,.int .i64 n)
 | .cst (.slice _ n _)=>some (True,.int .i64 n)
 |_=>none
def DT:ah→aZ (Prop×ah)
 | .str s=>some (True,.int .i64 s.length)
 | .cst (.string s)=>some (True,.int .i64 s.size)
 |_=>none
def E0(k:IntKind):ah→aZ (Prop×ah)
 | .int _ n=>some (True,.int k (k.wrap n))
 |_=>none
def AA:ah→aZ (Prop×ah)
 | .ptr k o=>some (True,.ptr k o)
 | .eptr p=>some (True,.eptr p)
 | .func f cs=>some (True,.func f cs)
 |_=>none
def Gz:ah→ah→aZ (Prop×ah)
 | .int k a,.int bS b=>if k=bS then some (True,.int k (if b<a then b else a))else none
 |_,_=>none
def kd:List Bool→List ah→List ah→aZ Bool
 |[],[],[]=>some true
 |false::r,.int k a::as,.int bS b::eO=>if k=bS then(kd r as eO).map fun q=>(a==b)&&q else none
 |true::r,.str a::as,.str b::eO=>(kd r as eO).map fun q=>(a==b)&&q
 |_,_,_=>none
inductive jA where
 |i
 |s
 |a (dR:List Bool)
 deriving DecidableEq
def te:jA→ah→ah→aZ Bool
 | .i,.int k a,.int bS b=>if k=bS then some (a==b)else none
 | .s,.str a,.str b=>some (a==b)
 | .a dR,.agg as,.agg eO=>kd dR as eO
 |_,_,_=>none
def uO:jA→ah→Bool
 | .a dR,.agg as=>(kd dR as as).isSome
 | .a _,_=>false
 |_,_=>true
@[simp] theorem TZ(k:ah):uO .i k=true:=by cases k<;>rfl
@[simp] theorem aqn(k:ah):uO .s k=true:=by cases k<;>rfl
def wD(ch:jA)(k:ah):List ah→aZ (aZ ah)
 |bS::v::r=>match te ch k bS with
  |some true=>some (some v)
  |some false=>wD ch k r
  |none=>none
 |_=>some none
def nY(b:aI→aZ (List ah))(ch:jA)(zero:ah)(ok:Bool)(x k:ah):aZ (Prop×ah):=
 match x with
 | .gmap key=>match b key with
  |some (.hdm _ _::kvs)=>if uO ch k=false then none else match wD ch k kvs with
   |some (some v)=>some (True,if ok then .tuple [v,.bool true]else v)
   |some none=>some (True,if ok then .tuple [zero,.bool false]else zero)
   |none=>none
  |_=>none
 |_=>none
def uZ(b:aI→aZ (List ah))(x:ah):aZ (Prop×ah):=
 match x with
 | .gmap key=>match b key with
  |some (.hdm _ borns::_)=>some (True,.int .i64 borns.length)
  |_=>none
 |_=>none
def iv(neg:Bool):aZ (List Bool)→ah→ah→aZ (Prop×ah)
 |none,.bool a,.bool b=>some (True,.bool (if neg then a !=b else a==b))
 |some dR,.agg as,.agg eO=>(kd dR as eO).map fun q=>(True,.bool (if neg then !q else q))
 |_,_,_=>none
def Gv:ah→ah→aZ (Prop×ah)
 | .int k a,.int bS b=>if k=bS then some (True,.int k (if a<b then b else a))else none
 |_,_=>none
def u0(ch:jA)(k v:ah):List ah→aZ (aZ (List ah))
 |bS::v'::r=>match te ch k bS with
  |some true=>some (some (k::v::r))
  |some false=>match u0 ch k v r with
   |some (some eF)=>some (some (bS::v'::eF))
   |some none=>some none
   |none=>none
  |none=>none
 |_=>some none
def mL(n:Nat):List Nat→List ah→aZ ah
 |b::eO,k::v::r=>if b=n then some (.tuple [k,v])else mL n eO r
 |_,_=>none
def pG(b:aI→aZ (List ah))(x:ah):aZ (Prop×ah):=
 match x with
 | .ptr fl 0=>match b fl with
  |some [.hdi _ seen last,.gmap mk]=>match b mk with
   |some (.hdm clock borns::kvs)=>match seen.getLast? with
    |some n=>(mL n borns kvs).map fun p=>(clock=last,p)
    |none=>none
   |_=>none
  |_=>none
 |_=>none
theorem UN{f g:aI→aZ (List ah)}(h:∀k,f k≠none→g k=f k){ch:jA}{zero:ah}{ok:Bool}{x k:ah}{r:Prop×ah}(he:nY f ch zero ok x k=some r):nY g ch zero ok x k=some r:=by
 unfold nY at he⊢;split at he
 ·rename_i key;cases aL:f key with
  |none=>simp[aL]at he
  |some cs=>rw[h key (by rw[aL];simp),aL];rw[aL]at he;exact he
 ·cases he
theorem ahK{f g:aI→aZ (List ah)}(h:∀k,f k≠none→g k=f k){x:ah}{r:Prop×ah}(he:uZ f x=some r):uZ g x=some r:=by
 unfold uZ at he⊢;split at he
 ·rename_i key;cases aL:f key with
  |none=>simp[aL]at he
  |some cs=>rw[h key (by rw[aL];simp),aL];rw[aL]at he;exact he
 ·cases he
theorem ahp{f g:aI→aZ (List ah)}(h:∀k,f k≠none→g k=f k){x:ah}{r:Prop×ah}(he:pG f x=some r):pG g x=some r:=by
 unfold pG at he⊢;split at he
 ·rename_i fl;cases aL:f fl with
  |none=>simp[aL]at he
  |some cs=>
   simp only[h fl (by rw[aL];simp),aL]at he⊢;split at he
   ·rename_i since seen last mk dn;cases ux:f mk with
    |none=>simp[ux]at he
    |some eH=>simp only[h mk (by rw[ux];simp),ux]at he⊢;exact he
   ·cases he
 ·cases he
inductive fS where
 |mov (x:dr)
 |pick (c x y:dr)
 |load (agg:Bool) (sz:Nat) (x:dr)
 |faddr (off:Nat) (agg:Bool) (sz:Nat) (x:dr)
 |fld (off:Nat) (agg:Bool) (sz:Nat) (x:dr)
 |iaddr (sz:Nat) (x i:dr)
 |sidx (x i:dr)
 |ssl (x:dr) (lo hi:aZ dr)
 |lsl (sz:Nat) (x:dr) (lo hi:aZ dr)
 |bin (op:BinOp) (wr:Bool) (x y:dr)
 |notB (x:dr)
 |neg (x:dr)
 |conv (k:IntKind) (x:dr)
 |ext (i:Nat) (x:dr)
 |len (x:dr)
 |slen (x:dr)
 |build (zero:List ah) (parts:List (Nat×Nat×dr))
 |nck (x:dr)
 |min2 (x y:dr)
 |mkf (n:Nat) (xs:List dr)
 |mget (ch:jA) (zero:ah) (ok:Bool) (x k:dr)
 |ment (x:dr)
 |mlen (x:dr)
 |beq (neg:Bool) (dR:aZ (List Bool)) (x y:dr)
 |max2 (x y:dr)
 |mkif (t:Nat) (x:dr)
 |loadB (agg:Bool) (sz:Nat) (x:dr)
 |mgetB (ch:jA) (zero:ah) (ok:Bool) (x k:dr)
 |loadZ (agg:Bool) (sz:Nat) (x:dr)
def hj(st:bs):fS→aZ (Prop×ah)
 | .mov x=>some (True,cr st.t x)
 | .pick c x y=>GP (cr st.t c) (cr st.t x) (cr st.t y)
 | .load agg sz x=>mK st.b st.e agg sz (cr st.t x)
 | .faddr off agg sz x=>p0 off agg sz (cr st.t x)
 | .fld off agg sz x=>rC off agg sz (cr st.t x)
 | .iaddr sz x i=>Ae sz (cr st.t x) (cr st.t i)
 | .sidx x i=>Ht (cr st.t x) (cr st.t i)
 | .ssl x lo hi=>Hy (cr st.t x) (lo.map (cr st.t)) (hi.map (cr st.t))
 | .lsl sz x lo hi=>Gr sz (cr st.t x) (lo.map (cr st.t)) (hi.map (cr st.t))
 | .bin op wr x y=>xp op wr (cr st.t x) (cr st.t y)
 | .notB x=>GF (cr st.t x)
 | .neg x=>GA (cr st.t x)
 | .conv k x=>E0 k (cr st.t x)
 | .ext i x=>zq i (cr st.t x)
 | .len x=>Ao (cr st.t x)
 | .slen x=>DT (cr st.t x)
 | .build zero parts=>(ua st.t zero parts).map fun(c,cs)=>(c,.agg cs)
 | .nck x=>AA (cr st.t x)
 | .min2 x y=>Gz (cr st.t x) (cr st.t y)
 | .mkf n xs=>some (True,.func n (xs.map (cr st.t)))
 | .mget ch zero ok x k=>nY (fun k=>look k st.b) ch zero ok (cr st.t x) (cr st.t k)
 | .ment x=>pG (fun k=>look k st.b) (cr st.t x)
 | .mlen x=>uZ (fun k=>look k st.b) (cr st.t x)
 | .beq neg dR x y=>iv neg dR (cr st.t x) (cr st.t y)
 | .max2 x y=>Gv (cr st.t x) (cr st.t y)
 | .mkif t x=>some (True,.iface t (cr st.t x))
 | .loadB agg sz x=>mK st.b [] agg sz (cr st.t x)
 | .mgetB ch zero ok x k=>nY (fun k=>look k st.b) ch zero ok (cr st.t x) (cr st.t k)
 | .loadZ agg sz x=>B1 agg sz (cr st.t x)
def AL(bB:List (Nat×dF))(dR:List (Nat×Nat)):List (Nat×Nat×dr)→List (Nat×Operand)→Bool
 |[],[]=>true
 |(off,sz,x)::r,(i,o)::s=>(match dR[i]? with|some (wH,t)=>off==wH&&((ef bB t).map (·.size))==some sz|none=>false)&&ek x o&&AL bB dR r s
 |_,_=>false
def HV:ah→ah→Bool
 | .int k n,.int bS n'=>decide (k=bS∧n=n')
 | .bool b,.bool b5=>b==b5
 | .str [],.str []=>true
 | .slice a .nil [],.slice b .nil []=>a==b
 | .nilp,.nilp=>true
 | .junk,.junk=>true
 |_,_=>false
def y0:List ah→List ah→Bool
 |[],[]=>true
 |c::cs,d::eH=>HV c d&&y0 cs eH
 |_,_=>false
def Bp:ah→ah→Bool
 | .agg cs,.agg eH=>y0 cs eH
 | .agg _,_=>false
 |p,q=>HV p q
def yx:List dr→List Operand→Bool
 |[],[]=>true
 |x::xs,o::os=>ek x o&&yx xs os
 |_,_=>false
def zw(bB:List (Nat×dF)):Nat→List Bool→List (Nat×Nat)→Bool
 |_,[],[]=>true
 |n,b::r,(off,t)::dR=>off==n&&(match ef bB t with|some ⟨_,_,.int _,_⟩=> !b|some ⟨_,_,.str,_⟩=>b|_=>false)&&zw bB (n+1) r dR
 |_,_,_=>false
def Fg(bB:List (Nat×dF))(dR:List Bool)(t:Nat):Bool:=match ef bB t with
 |some ⟨_,_,.struct gs,_⟩=>zw bB 0 dR gs
 |_=>false
def yf(bB:List (Nat×dF))(ch:jA)(t:Nat):Bool:=match ch with
 | .i=>(match ef bB t with|some ⟨_,_,.int _,_⟩=>true|_=>false)
 | .s=>(match ef bB t with|some ⟨_,_,.str,_⟩=>true|_=>false)
 | .a dR=>Fg bB dR t
def NO:List ah→ah→Bool
 |cs,.agg eH=>y0 cs eH
 |_,_=>false
def wK:aZ dr→aZ Operand→Bool
 |none,none=>true
 |some x,some o=>ek x o
 |_,_=>false
def D3(bB:List (Nat×dF)):fS→Op→Bool
 | .mov x,.move o=>ek x o
 | .mov x,.assign o=>ek x o
 | .pick c x y,.pick cu Ed Yo=>ek c cu&&ek x Ed&&ek y Yo
 | .load agg sz x,.load t o=>(match ef bB t with|some f=>f.size==sz&&f.kind.isAgg==agg|none=>false)&&ek x o
 | .faddr off agg sz x,.fieldAddr s o i=>
  (match ef bB s with
   |some ⟨_,_,.struct dR,_⟩=>(match dR[i]? with|some (wH,t)=>off==wH&&(match ef bB t with|some f=>f.size==sz&&f.kind.isAgg==agg&&sz !=0|none=>false)|none=>false)
   |_=>false)&&ek x o
 | .fld off agg sz x,.field s o i=>
  (match ef bB s with
   |some ⟨_,_,.struct dR,_⟩=>(match dR[i]? with|some (wH,t)=>off==wH&&(match ef bB t with|some f=>f.size==sz&&f.kind.isAgg==agg|none=>false)|none=>false)
   |_=>false)&&ek x o
 | .iaddr sz x i,.indexAddr t o j=>(match ef bB t with|some ⟨_,_,.slice e,_⟩=>(match ef bB e with|some f=>f.size==sz|none=>false)|_=>false)&&ek x o&&ek i j
 | .sidx x i,.index t o j=>(match ef bB t with|some ⟨_,_,.str,_⟩=>true|_=>false)&&ek x o&&ek i j
 | .ssl x lo hi,.slice t o l h none=>(match ef bB t with|some ⟨_,_,.str,_⟩=>true|_=>false)&&ek x o&&wK lo l&&wK hi h
 | .lsl sz x lo hi,.slice t o l h none=>(match ef bB t with|some ⟨_,_,.slice e,_⟩=>(match ef bB e with|some f=>f.size==sz|none=>false)|_=>false)&&ek x o&&wK lo l&&wK hi h
 | .bin op _ x y,.binOp Vn _ o o' _=>decide (op=Vn)&&ek x o&&ek y o'
 | .notB x,.unOp op _ o=>decide (op= .not)&&ek x o
 | .neg x,.unOp op _ o=>decide (op= .neg)&&ek x o
 | .conv k x,.convert s d o=>(match ef bB s,ef bB d with|some ⟨_,_,.int _,_⟩,some ⟨_,_,.int bS,_⟩=>decide (k=bS)|_,_=>false)&&ek x o
 | .ext i x,.extract o j=>i==j&&ek x o
 | .len x,.call ⟨.builtin .len,⟨[o]⟩,⟨[t]⟩⟩=>(match ef bB t with|some ⟨_,_,.slice _,_⟩=>true|_=>false)&&ek x o
 | .slen x,.call ⟨.builtin .len,⟨[o]⟩,⟨[t]⟩⟩=>(match ef bB t with|some ⟨_,_,.str,_⟩=>true|_=>false)&&ek x o
 | .build zero parts,.build t cx=>(match ef bB t with|some ⟨_,_,.struct dR,z⟩=>NO zero z&&(dR.all fun x=>(ef bB x.2).isSome)&&AL bB dR parts cx.toList|_=>false)
 | .nck x,.nilCheck o=>ek x o
 | .min2 x y,.call ⟨.builtin .min,⟨[o,o']⟩,⟨[_,_]⟩⟩=>ek x o&&ek y o'
 | .mkf n xs,.makeFunc (.func m) ⟨[]⟩ os=>n==m&&yx xs os.toList
 | .mget ch zero ok x k,.lookup t o o' GG=>ok==GG&&(match ef bB t with|some ⟨_,_,.map mJ pq,_⟩=>yf bB ch mJ&&(match ef bB pq with|some f=>Bp zero f.zero|none=>false)|_=>false)&&ek x o&&ek k o'
 | .ment x,.entry o=>ek x o
 | .mlen x,.call ⟨.builtin .len,⟨[o]⟩,⟨[t]⟩⟩=>(match ef bB t with|some ⟨_,_,.map _ _,_⟩=>true|_=>false)&&ek x o
 | .beq neg dR x y,.binOp op t o o' _=>decide (op=if neg then .neq else .eql)&&(match dR with|none=>(match ef bB t with|some ⟨_,_,.bool,_⟩=>true|_=>false)|some dR=>Fg bB dR t)&&ek x o&&ek y o'
 | .max2 x y,.call ⟨.builtin .max,⟨[o,o']⟩,⟨[_,_]⟩⟩=>ek x o&&ek y o'
 | .mkif t x,.makeInterface dO o=>t==dO&&(match ef bB t with|some ⟨_,_,.slice _,_⟩=>true|_=>false)&&ek x o
 | .loadB agg sz x,.load t o=>(match ef bB t with|some f=>f.size==sz&&f.kind.isAgg==agg|none=>false)&&ek x o
 | .loadZ agg sz x,.load t o=>(match ef bB t with|some f=>f.size==sz&&f.kind.isAgg==agg|none=>false)&&ek x o
 | .mgetB ch zero ok x k,.lookup t o o' GG=>ok==GG&&(match ef bB t with|some ⟨_,_,.map mJ pq,_⟩=>yf bB ch mJ&&(match ef bB pq with|some f=>Bp zero f.zero|none=>false)|_=>false)&&ek x o&&ek k o'
 |_,_=>false
end Go.Pv
namespace Go.Pv
open Go Go.RowKit
theorem Jc(P:cE)(w:World)(op:BinOp)(t:fZ)(x y:Operand)(k bS:IntKind)(m n:Int):(eqGuard op t x y (.int k m) (.int bS n)).run P w= .ok () w:=by cases op<;>rfl
theorem aas(P:cE)(w:World)(op:BinOp)(t:fZ)(x y:Operand)(m n:ByteArray):(eqGuard op t x y (.string m) (.string n)).run P w= .ok () w:=by cases op<;>rfl
theorem amw(l:List dE):(⟨l.toArray⟩:ByteArray).toList=l:=by simp
theorem Y2(a b:List dE):(⟨a.toArray⟩:ByteArray)++(⟨b.toArray⟩:ByteArray)=⟨(a++b).toArray⟩:=by apply aoh;simp
theorem abl(a:List dE)(l h:Nat):(⟨a.toArray⟩:ByteArray).extract l h=⟨((a.take h).drop l).toArray⟩:=by apply aoh;simp[List.drop_take]
theorem DS(a:List dE):(⟨a.toArray⟩:ByteArray).size=a.length:=by simp[atE]
section
variable {P:cE} {w:World} {r:Sem Value}
theorem rE{k:IntKind}{x:Int}(h:r.run P w= .ok (.int k x) w):∃v,r.run P w= .ok v w∧∀ν,bc w ν (.int k x) v:=⟨_,h,fun ν=>by simp[bc]⟩
theorem Sa{x:Bool}(h:r.run P w= .ok (.bool x) w):∃v,r.run P w= .ok v w∧∀ν,bc w ν (.bool x) v:=⟨_,h,fun ν=>by simp[bc]⟩
end
theorem agl(P:cE)(w:World){op:BinOp}{wr:Bool}{k:IntKind}{a b:Int}{c:Prop}{p:ah}(he:F3 op wr k a b=some (c,p))(au:c)(t:fZ):
  ∃v,(binOp op t (.int k a) (.int k b)).run P w= .ok v w∧∀ν,bc w ν p v:=by
 cases op<;>simp only[F3]at he;case add=>
  cases wr<;>simp only[if_true,gX,if_false]at he<;>cases he
  ·obtain⟨rfl,h⟩:=au;exact rE (by simp[binOp,Op.intArith,oe _ h])
  ·exact rE (by simp[binOp,Op.intArith])
 case sub=>
  cases wr<;>simp only[if_true,gX,if_false]at he<;>cases he
  ·obtain⟨rfl,h⟩:=au;exact rE (by simp[binOp,Op.intArith,oe _ h])
  ·exact rE (by simp[binOp,Op.intArith])
 case mul=>
  cases wr<;>simp only[if_true,gX,if_false]at he<;>cases he
  ·obtain⟨rfl,h⟩:=au;exact rE (by simp[binOp,Op.intArith,oe _ h])
  ·exact rE (by simp[binOp,Op.intArith])
 case quo=>cases he;exact rE (by simp[binOp,Op.intDiv,au])
 case rem=>cases he;exact rE (by simp[binOp,Op.intDiv,au])
 case and=>cases he;exact rE (by simp only[binOp,Op.intBits,ne_eq,not_true_eq_false,if_false,gy])
 case or=>cases he;exact rE (by simp only[binOp,Op.intBits,ne_eq,not_true_eq_false,if_false,gy])
 case xor=>cases he;exact rE (by simp only[binOp,Op.intBits,ne_eq,not_true_eq_false,if_false,gy])
 all_goals cases he
 all_goals exact Sa (by simp only[binOp,Op.intCmp,ne_eq,not_true_eq_false,if_false,gy,gt_iff_lt,ge_iff_le])
theorem amd(P:cE)(w:World){op:BinOp}{a b:List dE}{c:Prop}{p:ah}(he:HA op a b=some (c,p))(au:c)(t:fZ):
  ∃v,(binOp op t (.string ⟨a.toArray⟩) (.string ⟨b.toArray⟩)).run P w= .ok v w∧∀ν,bc w ν p v:=by
 cases op<;>simp only[HA]at he;case add=>
  cases he;refine⟨.string ⟨(a++b).toArray⟩,?_,fun ν=>by simp only[bc];exact⟨trivial,by simpa using au⟩⟩;have J:¬(((⟨a.toArray⟩:ByteArray).size+(⟨b.toArray⟩:ByteArray).size:Nat):Int)>pQ.max:=by
   have:pQ.max=9223372036854775807:=by decide
   rw[this,DS,DS];simp only[lim]at au;omega
  simp only[binOp,Op.stringOp,J,if_false,gy,Y2]
 all_goals cases he
 all_goals exact Sa (by simp only[binOp,Op.stringOp,amw,gy])
theorem Zh(P:cE)(w:World)(ν:bf){op:BinOp}{wr:Bool}{x y:ah}{c:Prop}{p:ah}(he:xp op wr x y=some (c,p))(au:c)(t:fZ){u v:Value}(hu:bc w ν x u)(aF:bc w ν y v)(o o':Operand):
  ∃r,(do eqGuard op t o o' u v;binOp op t u v).run P w= .ok r w∧bc w ν p r:=by
 unfold xp at he;split at he
 ·rename_i k a bS b;simp only[bc]at hu aF;subst hu;subst aF;split at he
  ·cases he;refine⟨_,?_,by simp[bc];rfl⟩;simp[binOp,Op.shift,Jc,Int.not_lt.2 au]
  ·cases he;refine⟨_,?_,by simp[bc];rfl⟩;simp[binOp,Op.shift,Jc,Int.not_lt.2 au]
  ·split at he
   ·rename_i ab;subst ab;obtain⟨r,J,U⟩:=agl P w he au t;exact⟨r,by simp[Jc,J],U ν⟩
   ·cases he
 ·simp only[bc]at hu aF;rw[hu.1,aF.1];obtain⟨r,J,U⟩:=amd P w he au t;exact⟨r,by simp[aas,J],U ν⟩
 ·cases he
theorem Jx{w:World}{ν:bf}:∀(v:List Value) (i off:Nat) (cs:Array Value),off+i+v.length≤cs.size→
  ((v.zipIdx i).foldl (fun cs (x:Value×Nat)=>cs.setIfInBounds (off+x.2) x.1) cs).toList=cs.toList.take (off+i)++v++cs.toList.drop (off+i+v.length)
 |[],i,off,cs,_=>by simp
 |u::v,i,off,cs,h=>by
  simp only[List.zipIdx_cons,List.foldl_cons];rw[Jx (w:=w) (ν:=ν) v (i+1) off _ (by simp at h⊢;omega)];have bE:off+i<cs.toList.length:=by simp at h⊢;omega
  simp only[Array.toList_setIfInBounds];have ak:(cs.toList.set (off+i) u).take (off+(i+1))=cs.toList.take (off+i)++[u]:=by rw[show off+(i+1)=(off+i)+1 from by omega,List.take_succ_eq_append_getElem (by simpa using bE)];simp[List.take_set_of_le (eR _)]
  have aE:(cs.toList.set (off+i) u).drop (off+(i+1)+v.length)=cs.toList.drop (off+i+(u::v).length):=by rw[List.drop_set_of_lt (by omega)];congr 1;simp;omega
  rw[ak,aE];simp
theorem WV{w:World}{ν:bf}{C:fh}{st:bs}{a:Act}(aJ:cU C st a w ν){bB:List (Nat×dF)}{dR:List (Nat×Nat)}{tp:List (Nat×Nat)}
  (bG:∀(i off t sz:Nat),dR[i]? =some (off,t)→(ef bB t).map (·.size)=some sz→tp[i]? =some (off,sz)):
  ∀(parts:List (Nat×Nat×dr)) (cx:List (Nat×Operand)) (cs:List ah) (us:Array Value) (c:Prop) (cs':List ah),AL bB dR parts cx=true→c7 w ν cs us.toList→ua st.t cs parts=some (c,cs')→c→
  ∃cn:Array Value,Instr.fill (tp.toArray[·]?) us (cx.map fun(x:Nat×Operand)=>(x.1,a.eval x.2))=some cn∧c7 w ν cs' cn.toList
 |[],[],cs,us,c,cs',_,h,he,au=>by simp only[ua]at he;cases he;exact⟨us,by simp[Instr.fill],h⟩
 |[],_::_,_,_,_,_,eY,_,_,_=>by simp[AL]at eY
 |_::_,[],_,_,_,_,eY,_,_,_=>by simp[AL]at eY
 |(off,sz,x)::parts,(i,o)::cx,cs,us,c,cs',eY,h,he,au=>by
  simp only[AL,cC]at eY;obtain⟨⟨J,U⟩,ar⟩:=eY;split at J
  ·rename_i wH t Cj;simp only[cC,dQ]at J;obtain⟨rfl,J⟩:=J;have s5:=bG i off t sz Cj J;simp only[ua]at he;split at he
   ·rename_i cu apc ad;cases he;obtain⟨⟨ag,aw,hle⟩,hy⟩:=au;have af:=en aJ U;have lE:=vc af ag;have hlen:=pL lE;have p6:=pL h;have kX:(a.eval o).cells.size=sz:=by have:(a.eval o).cells.toList.length=(cells (cr st.t x)).length:=hlen;rw[aw]at this;simpa using this
    have qV:us.size=cs.length:=by simpa using p6
    have x5:=Jx (w:=w) (ν:=ν) (a.eval o).cells.toList 0 off us (by simp[kX,qV];omega);have mA:c7 w ν (n3 cs off (cells (cr st.t x))) ((((a.eval o).cells.toList.zipIdx 0).foldl (fun cs (x:Value×Nat)=>cs.setIfInBounds (off+x.2) x.1) us).toList):=by rw[x5];unfold n3;refine yF (yF (DI off h) lE) ?_;rw[Nat.add_zero,hlen];exact A1 _ h
    obtain⟨cn,g1,g2⟩:=WV aJ bG parts cx _ _ cu cs' ar mA ad hy;refine⟨cn,?_,g2⟩;simp only[gO,Instr.fill,List.getElem?_toArray,s5];rw[if_neg (by simp[kX,qV];omega)];rw[←g1];simp only[List.getElem?_toArray];congr 1;rw[←Array.foldl_toList];simp
   ·cases he
  ·cases J
end Go.Pv
namespace Go.Pv
open Go Go.RowKit
theorem vn{P:cE}{bB:List (Nat×dF)}(aK:fP P bB=true){t:Nat}{f:dF}(aL:ef bB t=some f)(w:World):
  (Go.isAgg t).run P w= .ok f.kind.isAgg w∧(sizeOf t).run P w= .ok f.size w:=by
 obtain⟨i,d,z,J,U,ar,ba,b4,c9,ej,nQ⟩:=(vp aK aL).ex;refine⟨?_,by simp[sizeOf,typeInfo,J,ar]⟩;simp only[Go.isAgg,fH,run_underlying U,fL];cases ab:f.kind<;>rw[ab]at b4<;>cases d<;>simp[kf]at b4<;>simp[Bv.isAgg]
theorem iS{P:cE}{bB:List (Nat×dF)}(aK:fP P bB=true){t:Nat}{f:dF}(aL:ef bB t=some f):∃d,P.underlying t=some d∧kf f.kind d=true:=by obtain⟨i,d,z,J,U,ar,ba,b4,c9,ej,nQ⟩:=(vp aK aL).ex;exact⟨d,U,b4⟩
theorem sG{e:Nat}{d:TypeDesc}(h:kf (.slice e) d=true):d= .slice e:=by cases d<;>simp[kf]at h;subst h;rfl
theorem zo{d:TypeDesc}(h:kf .str d=true):d= .string:=by cases d<;>simp[kf]at h;rfl
theorem E2{k:IntKind}{d:TypeDesc}(h:kf (.int k) d=true):d= .int k:=by cases d<;>simp[kf]at h;subst h;rfl
theorem IZ{dR:List (Nat×Nat)}{d:TypeDesc}(h:kf (.struct dR) d=true):∃gs:Array Field,d= .struct gs∧gs.toList.map (fun f=>(f.offset,f.type))=dR:=by cases d<;>simp[kf]at h;rename_i gs;exact⟨gs,rfl,by simpa using h⟩
theorem Hg{w:World}{ν:bf}{cs:List ah}{us:List Value}(h:c7 w ν cs us)(off sz:Nat):c7 w ν ((cs.drop off).take sz) ((us.drop off).take sz):=DI sz (A1 off h)
theorem Vs{w:World}{base el sz n:Nat}{v:Value}{us:List Value}(h:w.ownsRow base el sz v n us){b:Nat}(ad:v.ownBlock=some b):∃cap,v= .slice (some ⟨b,0,none⟩) n cap:=by
 rcases h.2 with⟨rfl,_⟩|⟨g,cap,cur,rfl,_⟩
 ·simp[og]at ad
 ·simp[og]at ad;subst ad;exact⟨cap,rfl⟩
theorem Good.rowElem{pr:Nat→Prop}{w:World}{ν:bf}{b:List (aI×List ah)}{e:List (aI×fN)}(a7:Good pr w ν b e){k:aI}{n el sz:Nat}{xs:List ah}(ab:look k e=some ⟨n,el,sz,some xs⟩){i f:Nat}{u:Value}(af:bc w ν (.rptr sz k n i f) u){p:ah}(bG:xs[i]? =some p):
  ∃(v:Value) (us:List Value) (fT:Nat),bc w ν p v∧v.cells.size=sz∧∃b o,u= .pointer (some ⟨b,o,none⟩)∧∀j c,v.cells.toList[f+j]? =some c→w.cell? ⟨b,o+j,none⟩=some c:=by
 simp only[bc]at af;obtain⟨_,hi,n',e8,J,U,ar⟩:=af;obtain⟨v,us,a8,bF,b0,c0⟩:=a7.own k _ ab;rw[J]at a8;simp only[dL,jy]at a8;obtain⟨rfl,rfl⟩:=a8;obtain⟨bl,ad,rfl⟩:=ar rfl;obtain⟨cap,rfl⟩:=Vs bF ad;obtain⟨aw,mA,_⟩:=c0 xs rfl;simp only at aw mA;obtain⟨v,dM,ff,k0⟩:=Hd i mA bG;refine⟨v,us,el,dM,ff,bl,_,rfl,fun j c ae=>?_⟩;have bE:f+j<sz:=by have:=(e1.1 ae).1;simp[ff]at this;exact this
 have hmul:i*sz+sz≤n'*sz:=by have:=qv sz (show i+1≤n' from hi);rwa[Nat.succ_mul]at this
 have au:=bF.cellAt (i*sz+f+j) (by show _<n'*sz;omega);rw[au];rw[k0,List.getElem?_take,if_pos bE,List.getElem?_drop]at ae;rw[←ae];congr 1;omega
theorem Gq{P:cE}{bB:List (Nat×dF)}(aK:fP P bB=true){pr:Nat→Prop}{w:World}{ν:bf}{b:List (aI×List ah)}{e:List (aI×fN)}(a7:Good pr w ν b e){t:Nat}{f:dF}(aL:ef bB t=some f)
  {x:ah} {u:Value} (af:bc w ν x u) {c:Prop} {p:ah} (he:mK b e f.kind.isAgg f.size x=some (c,p)) (au:c):∃v,(Instr.loadAt t u).run P w= .ok v w∧bc w ν p v:=by
 obtain⟨bz,ag⟩:=vn aK aL w;generalize Fs:f.kind.isAgg=e5 at*;generalize ee:f.size=sz at*;unfold mK at he;split at he
 ·rename_i dI k n i sL;unfold yJ at he;split at he
  ·rename_i n' el jk xs ab;split at he
   ·rename_i ay;obtain⟨rfl,rfl⟩:=ay;split at he
    ·rename_i GN afG;obtain⟨NB,us,fT,g1,g2,qP⟩:=Good.rowElem a7 ab af afG;have lh:ec GN=true:=by
      cases e5
      ·simp only[gX,if_false,gz]at he;obtain⟨q,_,he⟩:=he;cases he;exact au
      ·simp only[if_true]at he;cases he;exact au.1
     have dn:=vc g1 lh;cases e5
     ·simp only[gX,if_false,gz]at he;obtain⟨q,bo,he⟩:=he;cases he;obtain⟨v,f1,f2,f3⟩:=DH sL dn bo;refine⟨v,?_,f2⟩;obtain⟨b,o,rfl,qP⟩:=qP;have:=qP 0 v (by simpa using f1);simp only[Nat.add_zero]at this;simp[Instr.loadAt,Instr.sureAddr,loadVar,bz,this]
     ·simp only[if_true]at he;cases he;obtain⟨b,o,rfl,qP⟩:=qP;refine⟨.agg ((NB.cells.toList.drop sL).take sz).toArray,?_,by simp only[bc];exact⟨_,rfl,by simpa using Hg dn sL sz⟩⟩;have aw:=pL dn;have hlen:((NB.cells.toList.drop sL).take sz).length=sz:=by simp only[List.length_take,sw];omega
      have iN:=run_loadCells_list (P:=P) w ⟨b,o,none⟩ ((NB.cells.toList.drop sL).take sz) (fun j v ae=>by
       rw[pd];refine qP j v ?_;rw[List.getElem?_take]at ae;split at ae
       ·simpa[List.getElem?_drop]using ae
       ·cases ae)
      rw[hlen]at iN;simp only[Instr.loadAt,Instr.sureAddr,loadVar,fH,gy,fL,bz,if_true,ag,iN]
    ·cases he
   ·cases he
  ·cases he
 ·rename_i k off;simp only[bc]at af;obtain⟨bl,J,rfl⟩:=af;split at he
  ·rename_i cs ab;obtain⟨iw,us,el,g1,g2,g3,g4,g5⟩:=a7.box k cs ab;rw[J]at g1;cases g1;have s5:hU cs=true:=by
    cases e5
    ·simp only[gX,if_false,gz]at he;obtain⟨q,bo,he⟩:=he;cases he;exact au
    ·simp only[if_true]at he;cases he;exact au.1
   rw[u3 s5]at g4;rw[u4 s5]at g5;have aw:=pL g5;cases e5
   ·simp only[gX,if_false,gz]at he;obtain⟨q,bo,he⟩:=he;cases he;obtain⟨v,f1,f2,f3⟩:=DH off g5 bo;refine⟨v,?_,f2⟩;have qP:w.cell? ⟨bl,off,none⟩=some v:=by simpa[World.cell?,g4]using f1
    simp[Instr.loadAt,Instr.sureAddr,loadVar,bz,qP]
   ·simp only[if_true]at he;cases he;replace au:=au.2;refine⟨_,?_,by simp only[bc];exact⟨_,rfl,by simpa using Hg g5 off sz⟩⟩;simp only[Instr.loadAt,Instr.sureAddr,loadVar,fH,gy,fL,bz,if_true,ag];rw[aly g4 (by simp at aw;omega)];rfl
  ·cases he
 ·rename_i q;simp only[bc]at af;obtain⟨bl,off,e8,rfl,U,ar⟩:=af;cases e5
  ·simp only[gX,if_false]at he;cases he;obtain⟨ur,sQ⟩:=au;obtain⟨g1,g2⟩:=MG U ur (fun cs e=>by subst e;have:=eB List.length sQ;simp only[cells,o6,List.length_nil]at this;cases cs with
    |nil=>simp[cells]at sQ
    |cons y ys=>simp only[cells,qs]at sQ;obtain⟨ak,aE⟩:=sQ;subst aE;have:=eB SizeOf.sizeOf ak;simp at this;omega)
   refine⟨e8,?_,U⟩;rw[g2]at ar;have qP:=ar.1.2;simp[Instr.loadAt,Instr.sureAddr,loadVar,bz,qP]
  ·simp only[if_true]at he;cases he;obtain⟨cs,rfl,hlen⟩:=au;simp only[bc]at U;obtain⟨us,rfl,ba⟩:=U;refine⟨.agg us,?_,by simp only[bc];exact⟨us,rfl,ba⟩⟩;simp only[pR]at ar;have aw:=pL ba;have:=alz (P:=P) ar;rw[show us.toList.length=sz from by omega]at this;simp[Instr.loadAt,Instr.sureAddr,loadVar,bz,ag,this]
 ·cases he
theorem adt{P:cE}{bB:List (Nat×dF)}(aK:fP P bB=true){w:World}{ν:bf}{s i:Nat}{f:dF}{dR:List (Nat×Nat)}(aL:ef bB s=some f)(ab:f.kind= .struct dR){off t:Nat}{g:dF}(hi:dR[i]? =some (off,t))(a7:ef bB t=some g)(bn:g.size≠0)
  {x:ah} {u:Value} (af:bc w ν x u) {c:Prop} {p:ah} (he:p0 off g.kind.isAgg g.size x=some (c,p)) (au:c):∃v,(Instr.fieldAt s u i).run P w= .ok v w∧bc w ν p v:=by
 obtain⟨d,aQ,eW⟩:=iS aK aL;rw[ab]at eW;obtain⟨gs,rfl,kx⟩:=IZ eW;have uA:∃fd:Field,gs[i]? =some fd∧fd.offset=off∧fd.type=t:=by rw[←kx]at hi;simp only[ri,gz]at hi;obtain⟨fd,J,U⟩:=hi;simp only[jy]at U;exact⟨fd,by simpa using J,U.1,U.2⟩
 obtain⟨fd,Fz,ax,oH⟩:=uA;obtain⟨bz,ag⟩:=vn aK a7 w;have iN:∀b o,(Instr.fieldAt s (.pointer (some ⟨b,o,none⟩)) i).run P w= .ok (.pointer (some ⟨b,o+off,none⟩)) w:=by intro b o;simp[Instr.fieldAt,run_underlying aQ,Fz,Instr.sureAddr,fieldPlace,oH,ag,bn,pd,ax]
 unfold p0 at he;split at he
 ·cases he;simp only[bc]at af;obtain⟨b,J,rfl⟩:=af;exact⟨_,iN _ _,by simp only[bc];exact⟨b,J,rfl⟩⟩
 ·cases he;simp only[bc]at af;obtain⟨⟨b,o,rfl⟩,hi,n',e8,J,U,ar⟩:=af;refine⟨_,iN _ _,?_⟩;simp only[bc];refine⟨⟨b,_,rfl⟩,hi,n',e8,J,U,fun e=>?_⟩;obtain⟨b5,ak,aE⟩:=ar e;simp only[atL,dL,Addr.mk.injEq,and_true]at aE;obtain⟨rfl,rfl⟩:=aE;exact⟨b,ak,by rw[Nat.add_assoc]⟩
 ·rename_i cs;simp only[bc]at af;obtain⟨b,o,e8,rfl,⟨us,rfl,U⟩,ar⟩:=af;refine⟨_,iN _ _,?_⟩;simp only[pR]at ar;split at he
  ·cases he;simp only[bc];exact⟨b,o+off,.agg ((us.toList.drop off).take g.size).toArray,rfl,⟨_,rfl,by simpa using Hg U off g.size⟩,by simpa[pR]using Gk g.size (Gi off ar)⟩
  ·simp only[gz]at he;obtain⟨q,bo,he⟩:=he;cases he;obtain⟨v,f1,f2,f3⟩:=DH off U bo;simp only[bc];have afo:=uU ar f1;have af3:v.cells= #[v]:=by cases v<;>first|rfl|cases f3
   exact⟨b,o+off,v,rfl,f2,by rw[af3];exact⟨afo,trivial⟩⟩
 ·cases he
theorem adA{P:cE}{bB:List (Nat×dF)}(aK:fP P bB=true){w:World}{ν:bf}{s i:Nat}{f:dF}{dR:List (Nat×Nat)}(aL:ef bB s=some f)(ab:f.kind= .struct dR){off t:Nat}{g:dF}(hi:dR[i]? =some (off,t))(a7:ef bB t=some g)
  {x:ah} {u:Value} (af:bc w ν x u) {c:Prop} {p:ah} (he:rC off g.kind.isAgg g.size x=some (c,p)) (au:c):∃v,(Instr.field s u i).run P w= .ok v w∧bc w ν p v:=by
 obtain⟨d,aQ,eW⟩:=iS aK aL;rw[ab]at eW;obtain⟨gs,rfl,kx⟩:=IZ eW;have uA:∃fd:Field,gs[i]? =some fd∧fd.offset=off∧fd.type=t:=by rw[←kx]at hi;simp only[ri,gz]at hi;obtain⟨fd,J,U⟩:=hi;simp only[jy]at U;exact⟨fd,by simpa using J,U.1,U.2⟩
 obtain⟨fd,Fz,ax,oH⟩:=uA;obtain⟨bz,ag⟩:=vn aK a7 w;unfold rC at he;split at he
 ·rename_i cs;simp only[bc]at af;obtain⟨us,rfl,U⟩:=af;generalize Fs:g.kind.isAgg=e5 at*;cases e5
  ·simp only[gX,if_false,gz]at he;obtain⟨q,bo,he⟩:=he;cases he;obtain⟨v,f1,f2,f3⟩:=DH off U bo;have abm:us[off]? =some v:=by simpa using f1
   exact⟨v,by simp[Instr.field,run_underlying aQ,Fz,asAgg,part,oH,bz,ax,abm],f2⟩
  ·simp only[if_true]at he;cases he;refine⟨.agg (us.extract off (off+g.size)),by simp[Instr.field,run_underlying aQ,Fz,asAgg,part,oH,bz,ax,ag],?_⟩;simp only[bc];refine⟨_,rfl,?_⟩;have:=Hg U off g.size;simpa[List.take_drop]using this
 ·cases he
theorem agf{P:cE}{bB:List (Nat×dF)}(aK:fP P bB=true){w:World}{ν:bf}{t e:Nat}{f g:dF}(aL:ef bB t=some f)(ab:f.kind= .slice e)(a7:ef bB e=some g)
  {x y:ah} {u v:Value} (af:bc w ν x u) (aM:bc w ν y v) {c:Prop} {p:ah} (he:Ae g.size x y=some (c,p)) (au:c):∃r,(Instr.indexAt t u v).run P w= .ok r w∧bc w ν p r:=by
 obtain⟨d,aQ,eW⟩:=iS aK aL;rw[ab]at eW;obtain rfl:=sG eW;obtain⟨bz,ag⟩:=vn aK a7 w;unfold Ae at he;split at he
 ·rename_i dI tag xs k i;split at he
  ·rename_i ee;cases he;simp only[bc]at af aM;subst aM;subst ee;obtain⟨⟨a,cap,rfl,J,U,ar⟩,_⟩:=af;obtain⟨Cp,ie⟩:=au;have jr:i.toNat<xs.length:=by omega
   rcases ar with rfl|⟨b,off,us,rfl,ba,b4⟩
   ·simp at jr
   ·have af:xs[i.toNat]? =some xs[i.toNat]:=bZ jr;obtain⟨w',dM,ff,k0⟩:=Hd i.toNat b4 af;refine⟨.pointer (some ⟨b,off+i.toNat*g.size,none⟩),?_,?_⟩
    ·simp only[Instr.indexAt,asIntOf,fH,gy,fL,run_underlying aQ,Cp,ie,and_self,if_true,ag,pd]
    ·simp only[bc];refine⟨b,off+i.toNat*g.size,w',rfl,by simpa[List.getD,af]using dM,?_⟩;rw[k0];exact Gk g.size (Gi _ ba)
  ·cases he
 ·rename_i dI k n hD i;split at he
  ·rename_i ee;cases he;simp only[bc]at af aM;subst aM;subst ee;obtain⟨⟨b,cap,rfl⟩,U,n',e8,ar,ba,b4⟩:=af;obtain⟨Cp,ie⟩:=au;refine⟨.pointer (some ⟨b,0+i.toNat*g.size,none⟩),?_,?_⟩
   ·simp only[Instr.indexAt,asIntOf,fH,gy,fL,run_underlying aQ,Cp,ie,and_self,if_true,ag,pd]
   ·simp only[bc];refine⟨⟨b,_,rfl⟩,by omega,n',e8,ar,ba,fun e=>⟨b,?_,by simp⟩⟩;rw[←b4 e];rfl
  ·cases he
 ·cases he
theorem GJ{C:fh}{st:bs}{a:Act}{w:World}{ν:bf}(h:cU C st a w ν){x:aZ dr}{o:aZ Operand}(af:wK x o=true){E3 n:Int}(he:q1 E3 (x.map (cr st.t))=some n):
  (o.map a.eval=none∧n=E3)∨ ∃k,o.map a.eval=some (.int k n):=by
 cases x with
 |none=>cases o with
  |none=>simp[q1]at he;exact .inl ⟨rfl,he.symm⟩
  |some o=>simp[wK]at af
 |some x=>cases o with
  |none=>simp[wK]at af
  |some o=>
   simp only[wK]at af
   have:=en h af
   simp only[oh]at he⊢
   cases uw:cr st.t x<;>simp[uw,q1]at he
   rw[uw]at this
   simp only[bc]at this
   subst he
   exact .inr ⟨_,by rw[this]⟩
theorem Yq{c d:ah}(h:HV c d=true):c=d:=by unfold HV at h;split at h<;>simp_all
theorem NK:∀{cs eH:List ah},y0 cs eH=true→cs=eH
 |[],[],_=>rfl
 |[],_::_,h=>by simp[y0]at h
 |_::_,[],h=>by simp[y0]at h
 |c::cs,d::eH,h=>by simp only[y0,cC]at h;rw[Yq h.1,NK h.2]
theorem aof{cs:List ah}{z:ah}(h:NO cs z=true):z= .agg cs:=by
 cases z<;>simp only[NO]at h;case agg eH=>rw[NK h]
 all_goals cases h
theorem aep(s:List dE)(n:Nat)(h:n<s.length):(⟨s.toArray⟩:ByteArray)[n]? =some (s.getD n 0):=by
 have ee:n<(⟨s.toArray⟩:ByteArray).size:=by rw[DS];exact h
 have e:(⟨s.toArray⟩:ByteArray)[n]? =some ((⟨s.toArray⟩:ByteArray)[n]'ee):=getElem?_pos (⟨s.toArray⟩:ByteArray) n ee;rw[e];congr 1;simp[List.getD,h];rfl
theorem Hv(P:cE)(w:World)(k:IntKind)(i:Int)(y:Nat)(c:BoundsCode)(bn:0≤i)(J:i≤y):(Instr.sliceBound (.int k i) y c).run P w= .ok i.toNat w:=by simp[Instr.sliceBound,asIntOf,bn,J]
theorem Ox(P:cE)(w:World)(agB:Bool)(len cap:Nat)(lo hi:aZ Value)(l h:Int)(Cq:(lo=none∧l=0)∨ ∃k,lo=some (.int k l))(Co:(hi=none∧h=len)∨ ∃k,hi=some (.int k h))
  (bn:0≤l) (J:l≤h) (U:h≤len) (au:len≤cap):(Instr.sliceBounds agB len cap lo hi none).run P w= .ok (l.toNat,h.toNat,cap) w:=by
 rcases Cq with⟨rfl,rfl⟩|⟨k,rfl⟩<;>rcases Co with⟨rfl,rfl⟩|⟨bS,rfl⟩
 ·simp[Instr.sliceBounds]
 ·simp[Instr.sliceBounds,Hv P w bS h cap _ (by omega) (by omega)]
 ·simp[Instr.sliceBounds,Hv P w k l len _ (by omega) (by omega)]
 ·simp[Instr.sliceBounds,Hv P w bS h cap _ (by omega) (by omega),Hv P w k l h.toNat _ (by omega) (by omega)]
theorem Vy{P:cE}{bB:List (Nat×dF)}(aK:fP P bB=true):∀(gs:List Field),(gs.all fun f=>(ef bB f.type).isSome)=true→
  ∃tp:List (Nat×Nat),gs.mapM (fun f=>(P.info? f.type).map fun i=>(f.offset,i.size))=some tp∧
   ∀(i off t sz:Nat),(gs.map (fun f=>(f.offset,f.type)))[i]? =some (off,t)→(ef bB t).map (·.size)=some sz→tp[i]? =some (off,sz)
 |[],_=>⟨[],by simp,by simp⟩
 |f::gs,h=>by
  simp only[List.all_cons,cC]at h;obtain⟨tp,J,U⟩:=Vy aK gs h.2;obtain⟨g,a7⟩:=fM.1 h.1;obtain⟨i,d,z,ak,aE,bj,c2,ha,hP,rr,rs⟩:=(vp aK a7).ex;refine⟨(f.offset,g.size)::tp,by simp[List.mapM_cons,ak,bj,J],fun j off t sz ae ee=>?_⟩;cases j with
  |zero=>simp only[gO,List.getElem?_cons_zero,dL,jy]at ae⊢;obtain⟨rfl,rfl⟩:=ae;rw[a7]at ee;simpa using ee
  |succ j=>simp only[gO,List.getElem?_cons_succ]at ae⊢;exact U j off t sz ae ee
theorem lr{P:cE}{w:World}{x:Sem Value}{v:Value}(h:x.run P w= .ok v w):(do pure (Next.value (←x)):Sem Next).run P w= .ok (.value v) w:=by simp[h]
theorem NN{p q:ah}(h:Bp p q=true):p=q:=by
 unfold Bp at h;split at h
 ·rw[NK h]
 ·cases h
 ·exact Yq h
theorem NM(w:World)(ν:bf){p:ah}{v:Value}(h:y1 p v=true):bc w ν p v∧c7 w ν (cells p) v.cells.toList:=by
 by_cases bz:∃cs,p= .agg cs
 ·obtain⟨cs,rfl⟩:=bz;cases v<;>simp only[y1]at h;case agg us=>have:=NL w ν _ _ h;exact⟨by simp only[bc];exact⟨us,rfl,this⟩,by simpa[cells,pR]using this⟩
  all_goals cases h
 ·have cb:zc p v=true∧v.oneCell'=true:=by cases p<;>simp only[y1,cC]at h<;>first|exact h|exact absurd ⟨_,rfl⟩ bz
  have aJ:=Iv w ν cb.1;refine⟨aJ,?_⟩;have au:cells p=[p]:=by cases p<;>first|rfl|exact absurd ⟨_,rfl⟩ bz
  have aF:v.cells= #[v]:=by have:=cb.2;cases v<;>first|rfl|simp[Value.oneCell']at this
  rw[au,aF];simp only[c7];exact⟨v,[],rfl,⟨aJ,cb.2⟩,rfl⟩
theorem Nf{P:cE}{bB:List (Nat×dF)}(aK:fP P bB=true){t:Nat}{f:dF}(aL:ef bB t=some f)(w:World):∃z,(zeroValue t).run P w= .ok z w∧y1 f.zero z=true∧z.cells.size=f.size:=by obtain⟨i,d,z,J,U,ar,ba,b4,c9,ej,nQ⟩:=(vp aK aL).ex;exact⟨z,by simp[zeroValue,typeInfo,J,c9],ej,nQ⟩
theorem DJ{C:fh}{st:bs}{a:Act}{w:World}{ν:bf}(h:cU C st a w ν):∀{xs:List dr} {os:List Operand},yx xs os=true→cQ w ν (xs.map (cr st.t)) (os.map a.eval)
 |[],[],_=>by simp[cQ]
 |[],_::_,ab=>by simp[yx]at ab
 |_::_,[],ab=>by simp[yx]at ab
 |x::xs,o::os,ab=>by simp only[yx,cC]at ab;simp only[gO,cQ];exact⟨_,_,rfl,en h ab.1,DJ h ab.2⟩
theorem aat{P:cE}{w:World}{t:fZ}(aQ:P.underlying t=some .bool)(d:Nat)(a b:Bool):(Op.equalIn (d+1) t (.bool a) (.bool b)).run P w= .ok (a==b) w:=by rw[Op.equalIn];simp only[fH,run_underlying aQ,fL,gy]
theorem aau{P:cE}{w:World}{t:fZ}(aQ:P.underlying t=some .bool)(a b:Bool):(Op.equal t (.bool a) (.bool b)).run P w= .ok (a==b) w:=aat aQ _ a b
theorem Rb:∀{borns:List Nat} {kvs:List ah} {us:List Value},kvs.length=2*borns.length→us.length=kvs.length→(fA borns us).length=borns.length
 |[],_,us,_,_=>by simp[fA]
 |b5::eO,kvs,[],J,U=>by rw[J]at U;simp at U
 |b5::eO,kvs,[_],J,U=>by rw[J]at U;simp at U;omega
 |b5::eO,kvs,k::v::us,J,U=>by simp only[fA,o6];rw[Rb (kvs:=kvs.drop 2) (us:=us) (borns:=eO) (by simp at J⊢;omega) (by simp at J U⊢;omega)]
theorem WN{w:World}{ν:bf}:∀{cx:List ah} {aV:List Value},cQ w ν cx aV→aV.length=cx.length
 |[],aV,h=>by simp only[cQ]at h;subst h;rfl
 |p::cx,aV,h=>by simp only[cQ]at h;obtain⟨u,cn,rfl,_,U⟩:=h;simp[WN U]
theorem vh{P:cE}{w:World}{r:Nat}{o:Obj}(ad:w.heap[r]? =some o)(ay:∀c e f,o≠ .cells c e f:=by simp):(getObj r).run P w= .ok o w:=by simp only[getObj,Sem.run,ad]
def qw(P:cE):Nat→List Bool→List Field→Prop
 |_,[],[]=>True
 |n,b::r,f::gs=>(f.offset=n∧f.name≠ "_" ∧(if b=true then P.underlying f.type=some .string else∃k,P.underlying f.type=some (.int k)))∧qw P (n+1) r gs
 |_,_,_=>eQ
theorem Dy{P:cE}{t:fZ}{b:Bool}(h:if b=true then P.underlying t=some .string else∃k,P.underlying t=some (.int k)):P.plainKey t=true:=by
 cases b
 ·obtain⟨k,h⟩:=(by simpa using h:∃k,P.underlying t=some (.int k));simp[Program.plainKey,h]
 ·have h:P.underlying t=some .string:=by simpa using h
  simp[Program.plainKey,h]
theorem Zw{P:cE}{w:World}{ν:bf}(d:Nat){X Y:Array Value}(dR:List Bool):∀(gs:List Field) (n:Nat) (as eO:List ah) (us aV:List Value) (q:Bool),qw P n dR gs→X.toList.drop n=us→Y.toList.drop n=aV→c7 w ν as us→c7 w ν eO aV→kd dR as eO=some q→
  (Op.eqFields (d+1) X Y gs).run P w= .ok q w∧(q=true→us=aV)∧∀m,(us.zip us).all (fun(x,y)=>Instr.sameBits m x y)=true:=by
 induction dR with
 |nil=>intro gs n as eO us aV q a7 Ca Cb J U h;cases as<;>cases eO<;>simp only[kd,dL,reduceCtorEq]at h;cases gs<;>simp only[qw]at a7;simp only[c7]at J U;rw[J,U,←h];exact⟨by simp[Op.eqFields],fun _=>rfl,fun m=>rfl⟩
 |cons xB r bO=>
  intro gs n as eO us aV q a7 Ca Cb J U h;cases gs with
  |nil=>simp only[qw]at a7
  |cons f gs=>
  simp only[qw]at a7;obtain⟨⟨FK,Cu,oH⟩,a7⟩:=a7;cases as with
  |nil=>cases xB<;>cases eO<;>simp[kd]at h
  |cons Dw as=>
  cases eO with
  |nil=>cases xB<;>cases Dw<;>simp[kd]at h
  |cons GO eO=>
  cases xB with
  |false=>
   have au:∃k a b gx,Dw= .int k a∧GO= .int k b∧kd r as eO=some gx∧q=((a==b)&&gx):=by
    cases Dw<;>first|(simp[kd]at h;done)|skip
    cases GO<;>first|(simp[kd]at h;done)|skip
    simp only[kd]at h;split at h
    ·rename_i ab;subst ab;simp only[gz]at h;obtain⟨gx,ar,ba⟩:=h;exact⟨_,_,_,gx,rfl,rfl,ar,ba.symm⟩
    ·cases h
   obtain⟨k,a,b,gx,rfl,rfl,ar,rfl⟩:=au;simp only[c7,bc]at J U;obtain⟨u,cn,rfl,⟨rfl,_⟩,J⟩:=J;obtain⟨v,vs',rfl,⟨rfl,_⟩,U⟩:=U;have Dv:X[n]? =some (.int k a):=by rw[←tL,←List.head?_drop,Ca];rfl
   have L0:Y[n]? =some (.int k b):=by rw[←tL,←List.head?_drop,Cb];rfl
   obtain⟨i1,i2,i3⟩:=bO gs (n+1) as eO cn vs' gx a7 (by rw[←List.tail_drop,Ca];rfl) (by rw[←List.tail_drop,Cb];rfl) J U ar;obtain⟨hD,KC⟩:=(by simpa using oH:∃k,P.underlying f.type=some (.int k));refine⟨?_,?_,fun m=>?_⟩
   ·simp only[Op.eqFields,Cu,ne_eq,not_false_eq_true,if_true,fH,FK,run_part_plain w (Dy oH) Dv,run_part_plain w (Dy oH) L0,fL,run_equalIn_int w d f.type k hD a b KC];cases ng:(a==b)
    ·simp
    ·simpa using i1
   ·intro bo;simp only[cC,dQ]at bo;rw[bo.1,i2 bo.2]
   ·have:=i3 m;simp only[List.zip_cons_cons,List.all_cons,this,Bool.and_true];cases m<;>simp[Instr.sameBits]
  |true=>
   have au:∃a b gx,Dw= .str a∧GO= .str b∧kd r as eO=some gx∧q=((a==b)&&gx):=by
    cases Dw<;>first|(simp[kd]at h;done)|skip
    cases GO<;>first|(simp[kd]at h;done)|skip
    simp only[kd,gz]at h;obtain⟨gx,ar,ba⟩:=h;exact⟨_,_,gx,rfl,rfl,ar,ba.symm⟩
   obtain⟨a,b,gx,rfl,rfl,ar,rfl⟩:=au;simp only[c7,bc]at J U;obtain⟨u,cn,rfl,⟨⟨rfl,_⟩,_⟩,J⟩:=J;obtain⟨v,vs',rfl,⟨⟨rfl,_⟩,_⟩,U⟩:=U;have Dv:X[n]? =some (.string ⟨a.toArray⟩):=by rw[←tL,←List.head?_drop,Ca];rfl
   have L0:Y[n]? =some (.string ⟨b.toArray⟩):=by rw[←tL,←List.head?_drop,Cb];rfl
   obtain⟨i1,i2,i3⟩:=bO gs (n+1) as eO cn vs' gx a7 (by rw[←List.tail_drop,Ca];rfl) (by rw[←List.tail_drop,Cb];rfl) J U ar;have KC:P.underlying f.type=some .string:=by simpa using oH
   refine⟨?_,?_,fun m=>?_⟩
   ·simp only[Op.eqFields,Cu,ne_eq,not_false_eq_true,if_true,fH,FK,run_part_plain w (Dy oH) Dv,run_part_plain w (Dy oH) L0,fL,run_equalIn_string w d f.type _ _ KC];have e:((⟨a.toArray⟩:ByteArray).toList==(⟨b.toArray⟩:ByteArray).toList)=(a==b):=by rw[aoi,aoi]
    rw[e];cases ng:(a==b)
    ·simp
    ·simpa using i1
   ·intro bo;simp only[cC,dQ]at bo;rw[bo.1,i2 bo.2]
   ·have:=i3 m;simp only[List.zip_cons_cons,List.all_cons,this,Bool.and_true];cases m<;>simp only[Instr.sameBits]<;>exact(MapKept.bytes_beq _ _).2 rfl
theorem RH{P:cE}{bB:List (Nat×dF)}(aK:fP P bB=true):∀(dR:List Bool) (gs:List Field) (n:Nat),zw bB n dR (gs.map fun f=>(f.offset,f.type))=true→(gs.all (fun f=>match P.underlying f.type with|some (.int _)=>true|some .string=>true|_=>false)=true)∧((∀f∈gs,f.name≠ "_")→qw P n dR gs)
 |[],[],_,_=>⟨rfl,fun _=>trivial⟩
 |[],_::_,_,h=>by simp[zw]at h
 |_::_,[],_,h=>by simp[zw]at h
 |b::r,f::gs,n,h=>by
  simp only[gO,zw,cC,dQ]at h;obtain⟨⟨J,U⟩,ar⟩:=h;obtain⟨i1,i2⟩:=RH aK r gs (n+1) ar;split at U
  ·rename_i aL;obtain⟨d,hu,aQ⟩:=iS aK aL;obtain rfl:=E2 aQ;refine⟨by simp only[List.all_cons,hu,i1,Bool.and_self],fun ay=>⟨⟨J,ay f (by simp),?_⟩,i2 fun g a7=>ay g (by simp[a7])⟩⟩;have:b=false:=by simpa using U
   subst this;simpa using⟨_,hu⟩
  ·rename_i aL;obtain⟨d,hu,aQ⟩:=iS aK aL;obtain rfl:=zo aQ;refine⟨by simp only[List.all_cons,hu,i1,Bool.and_self],fun ay=>⟨⟨J,ay f (by simp),?_⟩,i2 fun g a7=>ay g (by simp[a7])⟩⟩;subst U;simpa using hu
  ·cases U
theorem RJ{P:cE}{bB:List (Nat×dF)}(aK:fP P bB=true){dR:List Bool}{t:Nat}(h:Fg bB dR t=true):∃gs,P.underlying t=some (.struct gs)∧qw P 0 dR gs.toList∧P.stoodInHeld t=false∧P.eqGuardType P.depth t=false:=by
 unfold Fg at h;split at h
 ·rename_i aL;obtain⟨d,hu,aQ⟩:=iS aK aL;have au:=(vp aK aL).cmp d hu;cases d<;>simp[kf]at aQ;rename_i gs;subst aQ;obtain⟨i1,i2⟩:=RH aK dR gs.toList 0 h;have sT:RI P gs=true:=i1;simp only[IW,sT,Bool.not_true,Bool.false_or,QU,cC,Bool.not_eq_true',gn,bne_iff_ne,ne_eq]at au;exact⟨gs,hu,i2 au.1.1,au.1.2,au.2⟩
 ·cases h
theorem Rg{P:cE}{w:World}{ν:bf}{t:fZ}{gs:Array Field}{dR:List Bool}(hu:P.underlying t=some (.struct gs))(a7:qw P 0 dR gs.toList)(dd:P.stoodInHeld t=false){as eO:List ah}{X Y:Array Value}(J:c7 w ν as X.toList)(U:c7 w ν eO Y.toList){q:Bool}(h:kd dR as eO=some q):
  (Op.equalIn 10000 t (.agg X) (.agg Y)).run P w= .ok q w∧(q=true→X=Y)∧∀m,(X.toList.zip X.toList).all (fun(x,y)=>Instr.sameBits m x y)=true:=by
 have aL:P.fieldsOf t=gs:=by simp[Program.fieldsOf,hu]
 obtain⟨i1,i2,i3⟩:=Zw 9998 dR gs.toList 0 as eO _ _ q a7 rfl rfl J U h;refine⟨?_,fun e=>?_,?_⟩
 ·rw[run_equalIn_struct w 9999 t X Y (by rw[aL];exact hu) dd,aL];exact i1
 ·have:=i2 e;simpa using this
 ·simpa using i3
inductive tP (P:cE):jA→fZ→Prop
 |i {t:fZ} {k:IntKind}:P.underlying t=some (.int k)→tP P .i t
 |s {t:fZ}:P.underlying t=some .string→tP P .s t
 |a {t:fZ} {dR:List Bool} {gs:Array Field}:P.underlying t=some (.struct gs)→qw P 0 dR gs.toList→P.stoodInHeld t=false→tP P (.a dR) t
theorem KY{P:cE}{bB:List (Nat×dF)}(aK:fP P bB=true){ch:jA}{t:Nat}(h:yf bB ch t=true):tP P ch t:=by
 cases ch with
 |i=>
  simp only[yf]at h;split at h
  ·rename_i aL;obtain⟨d,hu,aQ⟩:=iS aK aL;obtain rfl:=E2 aQ;exact .i hu
  ·cases h
 |s=>
  simp only[yf]at h;split at h
  ·rename_i aL;obtain⟨d,hu,aQ⟩:=iS aK aL;obtain rfl:=zo aQ;exact .s hu
  ·cases h
 |a dR=>obtain⟨gs,J,U,ar,_⟩:=RJ aK h;exact .a J U ar
def sB(P:cE)(w:World)(ch:jA)(t:fZ)(gS u:Value)(b:Bool):Prop:=match ch with
 | .a _=>(Op.equal t gS u).run P w= .ok b w
 |_=> ∀d,P.underlying t=some d→Instr.sameNow d gS u=some b
def hW(P:cE)(w:World)(ch:jA)(t:fZ)(gS:Value)(es:List MapEntry)(i:Nat)(r:aZ (Nat×Value)):Prop:=match ch with
 | .a _=>(Instr.findAsking t gS es i).run P w= .ok r w
 |_=> ∀d,P.underlying t=some d→Instr.findNow d gS es i=some r
theorem hW.nil(P:cE)(w:World)(ch:jA)(t:fZ)(gS:Value)(i:Nat):hW P w ch t gS [] i none:=by cases ch<;>simp[hW,Instr.findAsking,Instr.findNow]
theorem hW.hit{P:cE}{w:World}{ch:jA}{t:fZ}{gS:Value}{e:MapEntry}{es:List MapEntry}{i:Nat}(h:sB P w ch t gS e.key true):hW P w ch t gS (e::es) i (some (i,e.val)):=by
 cases ch with
 |a dR=>simp only[sB]at h;simp[hW,Instr.findAsking,h]
 |i=>simp only[sB]at h;simp only[hW];intro d aQ;simp[Instr.findNow,h d aQ]
 |s=>simp only[sB]at h;simp only[hW];intro d aQ;simp[Instr.findNow,h d aQ]
theorem hW.miss{P:cE}{w:World}{ch:jA}{t:fZ}{gS:Value}{e:MapEntry}{es:List MapEntry}{i:Nat}{r:aZ (Nat×Value)}(h:sB P w ch t gS e.key false)(aJ:hW P w ch t gS es (i+1) r):hW P w ch t gS (e::es) i r:=by
 cases ch with
 |a dR=>simp only[sB]at h;simp only[hW]at aJ;simp[hW,Instr.findAsking,h,aJ]
 |i=>simp only[sB]at h;simp only[hW]at aJ⊢;intro d aQ;simp[Instr.findNow,h d aQ,aJ d aQ]
 |s=>simp only[sB]at h;simp only[hW]at aJ⊢;intro d aQ;simp[Instr.findNow,h d aQ,aJ d aQ]
theorem hW.run{P:cE}{w:World}{ch:jA}{t:fZ}(aQ:tP P ch t){gS:Value}{es:List MapEntry}{r:aZ (Nat×Value)}(h:hW P w ch t gS es 0 r):(Instr.findKey t gS es).run P w= .ok r w:=by
 cases aQ with
 |i hu=>simp only[hW]at h;simp[Instr.findKey,run_underlying hu,h _ hu]
 |s hu=>simp only[hW]at h;simp[Instr.findKey,run_underlying hu,h _ hu]
 |a hu a7 dd=>
  simp only[hW]at h;cases es with
  |nil=>simp[Instr.findAsking]at h;simp[Instr.findKey,run_underlying hu,Instr.findNow,h]
  |cons e es=>
   rename_i gs;have:Instr.sameNow (.struct gs) gS e.key=none:=by cases gS<;>rfl
   simp only[Instr.findKey,fH,run_underlying hu,fL,Instr.findNow,this];exact h
theorem TY{P:cE}{w:World}{ν:bf}{ch:jA}{t:fZ}(aQ:tP P ch t){k bS:ah}{gS u:Value}(ab:bc w ν k gS)(J:bc w ν bS u){bb:Bool}(ad:te ch k bS=some bb):
  sB P w ch t gS u bb∧(bb=true→u=gS∧Instr.sameBits 10000 u gS=true):=by
 unfold te at ad;split at ad
 ·split at ad
  ·rename_i lD;subst lD;simp only[bc]at ab J;subst ab;subst J;cases aQ with
   |i hu=>refine⟨fun d aQ=>by rw[hu]at aQ;cases aQ;simpa[Instr.sameNow]using ad,fun e=>?_⟩;subst e;simp only[dL,dQ]at ad;subst ad;exact⟨rfl,by simp[Instr.sameBits]⟩
  ·cases ad
 ·rename_i a b;simp only[bc]at ab J;obtain⟨rfl,_⟩:=ab;obtain⟨rfl,_⟩:=J;cases aQ with
  |s hu=>
   refine⟨fun d aQ=>?_,fun e=>?_⟩
   ·rw[hu]at aQ;cases aQ;simp only[Instr.sameNow];rw[←ad];congr 1;rw[qq,MapKept.bytes_beq];simp
   ·subst e;simp only[dL,dQ]at ad;subst ad;exact⟨rfl,by simp only[Instr.sameBits];exact(MapKept.bytes_beq _ _).2 rfl⟩
 ·simp only[bc]at ab J;obtain⟨X,rfl,ab⟩:=ab;obtain⟨Y,rfl,J⟩:=J;cases aQ with
  |a hu a7 dd=>obtain⟨i1,i2,i3⟩:=Rg hu a7 dd ab J ad;refine⟨by simpa[sB,Op.equal,Op.maxDepth]using i1,fun e=>?_⟩;have:=i2 e;subst this;exact⟨rfl,by simp[Instr.sameBits,i3]⟩
 ·cases ad
theorem Lq{P:cE}{w:World}{ν:bf}{ch:jA}{t:fZ}(aQ:tP P ch t){k:ah}{gS:Value}(ab:bc w ν k gS):∀(borns:List Nat) (kvs:List ah) (us:List Value) (i:Nat) (r:aZ ah),cQ w ν kvs us→kvs.length=2*borns.length→wD ch k kvs=some r→
  match r with
  |none=>hW P w ch t gS (fA borns us) i none
  |some v=> ∃j u,hW P w ch t gS (fA borns us) i (some (j,u))∧bc w ν v u
 |[],[],us,i,r,h,_,hm=>by simp only[wD]at hm;cases hm;simp only[cQ]at h;subst h;simpa[fA]using hW.nil P w ch t gS i
 |[],_::_,_,_,_,_,aw,_=>by simp at aw
 |b::eO,[],_,_,_,_,aw,_=>by simp at aw
 |b::eO,[_],_,_,_,_,aw,_=>by simp at aw;omega
 |b::eO,bS::v::kvs,us,i,r,h,aw,hm=>by
  simp only[cQ]at h;obtain⟨iU,Nl,rfl,J,jx,sk,rfl,U,ar⟩:=h;simp only[wD]at hm;simp only[fA];cases bo:te ch k bS with
  |none=>simp[bo]at hm
  |some bb=>
   obtain⟨s1,_⟩:=TY aQ ab J bo;simp only[bo]at hm;cases bb with
   |true=>simp only[dL]at hm;subst hm;exact⟨i,jx,hW.hit (e:=⟨iU,jx,b⟩) s1,U⟩
   |false=>
    simp only at hm;have bO:=Lq aQ ab eO kvs sk (i+1) r ar (by simp at aw;omega) hm;cases r with
    |none=>exact hW.miss (e:=⟨iU,jx,b⟩) s1 bO
    |some v'=>obtain⟨j,u,g1,g2⟩:=bO;exact⟨j,u,hW.miss (e:=⟨iU,jx,b⟩) s1 g1,g2⟩
theorem IU{P:cE}{w:World}{t:Nat}{d:TypeDesc}(hu:P.underlying t=some d)(aQ:(∃k,d= .int k)∨d= .string)(e:Bool)(n:Nat)(v:Value):(Instr.checkKey e (n+1) t v).run P w= .ok () w:=by unfold Instr.checkKey;rcases aQ with⟨k,rfl⟩|rfl<;>simp[run_underlying hu]
theorem adz{P:cE}{w:World}{ν:bf}{X:Array Value}(dR:List Bool):∀(gs:List Field) (n:Nat) (as:List ah),qw P n dR gs→c7 w ν as (X.toList.drop n)→(kd dR as as).isSome=true→
  ∀f∈gs,(∃v,(part f.type X f.offset).run P w= .ok v w)∧∃d,P.underlying f.type=some d∧((∃k,d= .int k)∨d= .string):=by
 induction dR with
 |nil=>intro gs n as a7 _ _ f aL;cases gs<;>simp only[qw]at a7;cases aL
 |cons xB r bO=>
  intro gs n as a7 aJ au f aL;cases gs with
  |nil=>cases aL
  |cons g gs=>
  simp only[qw]at a7;obtain⟨⟨FK,Cu,oH⟩,a7⟩:=a7;cases as with
  |nil=>cases xB<;>simp[kd]at au
  |cons p as=>
  have hy:(kd r as as).isSome=true:=by cases xB<;>cases p<;>simp[kd]at au⊢ <;>exact au
  simp only[c7]at aJ;obtain⟨u,cn,e,_,dH⟩:=aJ;have aE:X.toList.drop (n+1)=cn:=by rw[←List.tail_drop,e];rfl
  have Dv:X[n]? =some u:=by rw[←tL,←List.head?_drop,e];rfl
  rcases fR.1 aL with rfl|aL
  ·refine⟨⟨u,by rw[FK];exact run_part_plain w (Dy oH) Dv⟩,?_⟩;cases xB
   ·obtain⟨k,h⟩:=(by simpa using oH:∃k,P.underlying f.type=some (.int k));exact⟨_,h,.inl ⟨k,rfl⟩⟩
   ·exact⟨_,by simpa using oH,.inr rfl⟩
  ·exact bO gs (n+1) as a7 (by rw[aE];exact dH) hy f aL
theorem RP{P:cE}{w:World}{α:Type}(body:α→PUnit→Sem (ForInStep PUnit)):∀(l:List α),(∀f∈l,(body f ⟨⟩).run P w= .ok (.yield ⟨⟩) w)→(forIn l PUnit.unit body).run P w= .ok PUnit.unit w
 |[],_=>by simp
 |f::l,h=>by simp only[List.forIn_cons,fH,h f (by simp),fL];exact RP body l fun g a7=>h g (by simp[a7])
theorem MJ{P:cE}{w:World}{ν:bf}{ch:jA}{t:Nat}(aQ:tP P ch t)(e:Bool){k:ah}{v:Value}(ab:bc w ν k v)(hi:uO ch k=true):(Instr.checkKey e 10000 t v).run P w= .ok () w:=by
 cases aQ with
 |i hu=>exact IU hu (.inl ⟨_,rfl⟩) e 9999 v
 |s hu=>exact IU hu (.inr rfl) e 9999 v
 |a hu a7 dd=>
  rename_i dR gs;cases k<;>simp only[uO,gX]at hi;rename_i as;simp only[bc]at ab;obtain⟨X,rfl,ab⟩:=ab;unfold Instr.checkKey;simp only[fH,run_underlying hu,fL];rw[←Array.forIn_toList];rw[RP]
  ·simp
  ·intro f aL;obtain⟨⟨v,J⟩,d,U,ar⟩:=adz dR gs.toList 0 as a7 (by simpa using ab) hi f aL;have ba:=IU (w:=w) U ar e 9998 v;by_cases ay:f.name= "_"
   ·simp[ay]
   ·simp[ay,J,ba]
theorem UG{w:World}{ν:bf}{n:Nat}:∀(borns:List Nat) (kvs:List ah) (us:List Value) (p:ah),cQ w ν kvs us→mL n borns kvs=some p→∃e,(fA borns us).find? (·.born==n)=some e∧bc w ν p (.tuple #[e.key,e.val])
 |[],_,_,_,_,hm=>by simp[mL]at hm
 |_::_,[],_,_,_,hm=>by simp[mL]at hm
 |_::_,[_],_,_,_,hm=>by simp[mL]at hm
 |b::eO,k::v::kvs,us,p,h,hm=>by
  simp only[cQ]at h;obtain⟨iU,Nl,rfl,J,jx,sk,rfl,U,ar⟩:=h;simp only[mL]at hm;simp only[fA];by_cases e:b=n
  ·rw[if_pos e]at hm;cases hm;refine⟨⟨iU,jx,b⟩,by simp[List.find?,e],?_⟩;simp only[bc];exact⟨#[iU,jx],rfl,by simp only[cQ];exact⟨_,_,rfl,J,_,_,rfl,U,rfl⟩⟩
  ·rw[if_neg e]at hm;obtain⟨x,g1,g2⟩:=UG eO kvs sk p ar hm;have aeK:(b==n)=false:=by simpa using e
   exact⟨x,by simp[List.find?,aeK,g1],g2⟩
theorem XC{P:cE}{bB:List (Nat×dF)}(aK:fP P bB=true){C:fh}{st:bs}{a:Act}{w:World}{ν:bf}(aJ:cU C st a w ν){i:fS}(aeJ:∀ch z ok x k,i≠ .mgetB ch z ok x k){o:Oper}(ax:D3 bB i o.op=true)
  {c:Prop} {p:ah} (he:hj st i=some (c,p)) (au:c):∃v,(execOp a.eval o).run P w= .ok (.value v) w∧bc w ν p v:=by
 obtain⟨dst,op,type,pos,after,guard⟩:=o;simp only at ax;unfold D3 at ax;split at ax
 ·rename_i x o;simp only[hj]at he;cases he;exact⟨_,rfl,en aJ ax⟩
 ·rename_i x o;simp only[hj]at he;cases he;exact⟨_,rfl,en aJ ax⟩
 ·rename_i cu x y aoG Ed Yo;simp only[cC]at ax;have J:=en aJ ax.1.1;have U:=en aJ ax.1.2;have ar:=en aJ ax.2;simp only[hj,GP]at he;split at he
  ·rename_i b ad;rw[ad]at J;simp only[bc]at J;split at he
   ·rename_i u v hu aF;cases he;rw[hu]at U;rw[aF]at ar;simp only[bc]at U ar;refine⟨.bool (cond b u v),?_,by simp[bc]⟩;simp only[execOp,J,U,ar,asBool,fH,gy,fL];cases b<;>rfl
   ·split at he
    ·cases he;exact⟨_,by simp only[execOp,J,asBool,fH,gy,fL,if_true],U⟩
    ·cases he;exact⟨_,by simp only[execOp,J,asBool,fH,gy,fL,gX,if_false],ar⟩
  ·cases he
 ·rename_i agg sz x t o;simp only[cC]at ax;obtain⟨J,U⟩:=ax;split at J
  ·rename_i f aL;simp only[cC,dQ]at J;obtain⟨rfl,rfl⟩:=J;obtain⟨v,g1,g2⟩:=Gq aK aJ.good aL (en aJ U) (by simpa only[hj]using he) au;exact⟨v,lr g1,g2⟩
  ·cases J
 ·rename_i off agg sz x s o i;simp only[cC]at ax;obtain⟨J,U⟩:=ax;split at J
  ·rename_i f aL;split at J
   ·rename_i wH t Cj;simp only[cC,dQ]at J;obtain⟨rfl,J⟩:=J;split at J
    ·rename_i g a7;simp only[cC,dQ,bne_iff_ne,ne_eq]at J;obtain⟨⟨rfl,rfl⟩,bn⟩:=J;obtain⟨v,g1,g2⟩:=adt aK aL rfl Cj a7 bn (en aJ U) (by simpa only[hj]using he) au;exact⟨v,lr g1,g2⟩
    ·cases J
   ·cases J
  ·cases J
 ·rename_i off agg sz x s o i;simp only[cC]at ax;obtain⟨J,U⟩:=ax;split at J
  ·rename_i f aL;split at J
   ·rename_i wH t Cj;simp only[cC,dQ]at J;obtain⟨rfl,J⟩:=J;split at J
    ·rename_i g a7;simp only[cC,dQ]at J;obtain⟨rfl,rfl⟩:=J;obtain⟨v,g1,g2⟩:=adA aK aL rfl Cj a7 (en aJ U) (by simpa only[hj]using he) au;exact⟨v,lr g1,g2⟩
    ·cases J
   ·cases J
  ·cases J
 ·rename_i sz x i t o j;simp only[cC]at ax;obtain⟨⟨J,U⟩,ar⟩:=ax;split at J
  ·rename_i e aL;split at J
   ·rename_i g a7;simp only[dQ]at J;subst J;obtain⟨v,g1,g2⟩:=agf aK aL rfl a7 (en aJ U) (en aJ ar) (by simpa only[hj]using he) au;exact⟨v,lr g1,g2⟩
   ·cases J
  ·cases J
 ·rename_i x i t o j;simp only[cC]at ax;obtain⟨⟨J,U⟩,ar⟩:=ax;split at J
  ·rename_i aL;obtain⟨d,aQ,eW⟩:=iS aK aL;obtain rfl:=zo eW;have ak:=en aJ U;have aE:=en aJ ar;simp only[hj,Ht]at he;split at he
   ·rename_i s k n ag ay;cases he;rw[ag]at ak;rw[ay]at aE;simp only[bc]at ak aE;obtain⟨uq,ur⟩:=au;have bE:n.toNat<s.length:=by omega
    have ae7:(⟨s.toArray⟩:ByteArray)[n.toNat]? =some (s.getD n.toNat 0):=by exact aep s n.toNat bE
    refine⟨_,lr (v:= .int .u8 (s.getD n.toNat 0).toNat) ?_,by simp[bc]⟩;simp only[Instr.index,aE,asIntOf,ak.1,fH,gy,fL,run_underlying aQ,uq,if_true,ae7]
   ·cases he
  ·cases J
 ·rename_i x lo hi t o l h;simp only[cC]at ax;obtain⟨⟨⟨J,U⟩,ar⟩,ba⟩:=ax;split at J
  ·rename_i aL;obtain⟨d,aQ,eW⟩:=iS aK aL;obtain rfl:=zo eW;have ak:=en aJ U;simp only[hj,Hy]at he;split at he
   ·rename_i s ag;rw[ag]at ak;simp only[bc]at ak;split at he
    ·rename_i qe cw aw Ka;cases he;obtain⟨bL,cp,dc⟩:=au;have aU:=GJ aJ ar aw;have bC:=GJ aJ ba Ka;refine⟨_,lr (v:= .string ⟨((s.take cw.toNat).drop qe.toNat).toArray⟩) ?_,?_⟩
     ·have ad:=Ox P w false s.length s.length (l.map a.eval) (h.map a.eval) qe cw
       aU bC bL cp dc (eR _)
      simp only[Instr.sliceAt,Instr.slice,ak.1,fH,gy,fL,run_underlying aQ,Option.map_none,ml,gX,if_false,DS,ad,abl]
     ·simp only[bc];refine⟨trivial,?_⟩;have:=ak.2;simp only[sw,List.length_take];omega
    ·cases he
   ·cases he
  ·cases J
 ·rename_i sz x lo hi t o l h;simp only[cC]at ax;obtain⟨⟨⟨J,U⟩,ar⟩,ba⟩:=ax;split at J
  ·rename_i e aL;split at J
   ·rename_i g a7;simp only[dQ]at J;subst J;obtain⟨d,aQ,eW⟩:=iS aK aL;obtain rfl:=sG eW;obtain⟨_,ee⟩:=vn aK a7 w;have ak:=en aJ U;simp only[hj,Gr]at he;split at he
    ·rename_i dI tag xs ag;split at he
     ·rename_i fc;subst fc;rw[ag]at ak;simp only[bc]at ak;obtain⟨⟨sC,cap,aF,cl,b8,fG⟩,_⟩:=ak;split at he
      ·rename_i qe cw aw Ka;cases he;obtain⟨bL,cp,dc⟩:=au;have aU:=GJ aJ ar aw;have bC:=GJ aJ ba Ka;have ad:=Ox P w true xs.length cap (l.map a.eval) (h.map a.eval) qe cw
        aU bC bL cp dc cl
       refine⟨_,lr (v:= .slice (if cap=qe.toNat then sC else sC.map (·.add (qe.toNat*g.size))) (cw.toNat-qe.toNat) (cap-qe.toNat)) ?_,?_⟩
       ·simp only[Instr.sliceAt,Instr.slice,aF,fH,gy,fL,run_underlying aQ,Option.map_none,ad,ee]
       ·simp only[bc];have hlen:((xs.take cw.toNat).drop qe.toNat).length=cw.toNat-qe.toNat:=by simp;omega
        refine⟨⟨_,_,by rw[hlen],by rw[hlen];omega,⟨by omega,by rw[hlen];omega⟩,?_⟩,(fun h=>by cases h),(fun g h=>by cases h),(fun _ _ h=>by cases h),(fun _ h=>by cases h)⟩;rcases fG with rfl|⟨b,off,us,rfl,g1,g2⟩
        ·left;simp
        ·by_cases zG:cap=qe.toNat
         ·left;apply List.eq_nil_of_length_eq_zero;rw[hlen];omega
         ·right;rw[if_neg zG];refine⟨b,off+qe.toNat*g.size,(us.take (cw.toNat*g.size)).drop (qe.toNat*g.size),by simp[pd],Gi _ (Gk _ g1),WD _ (WH _ g2)⟩
      ·cases he
     ·cases he
    ·cases he
   ·cases J
  ·cases J
 ·rename_i op wr x y Vn ty o o' amz;simp only[cC,e2]at ax;obtain⟨⟨rfl,J⟩,U⟩:=ax;obtain⟨r,g1,g2⟩:=Zh P w ν (by simpa only[hj]using he) au ty (en aJ J) (en aJ U) o o';exact⟨r,lr g1,g2⟩
 ·rename_i x op ty o;simp only[cC,e2]at ax;obtain⟨rfl,J⟩:=ax;have ak:=en aJ J;simp only[hj]at he;unfold GF at he;split at he
  ·rename_i b ad;cases he;rw[ad]at ak;simp only[bc]at ak;exact⟨_,lr (v:= .bool (!b)) (by simp[Op.unary,ak]),by simp[bc]⟩
  ·cases he
 ·rename_i x op ty o;simp only[cC,e2]at ax;obtain⟨rfl,J⟩:=ax;have ak:=en aJ J;simp only[hj]at he;unfold GA at he;split at he
  ·rename_i k n ad;cases he;rw[ad]at ak;simp only[bc]at ak;exact⟨_,lr (v:= .int k (k.wrap (0-n))) (by simp[Op.unary,ak,Op.intArith]),by simp[bc]⟩
  ·cases he
 ·rename_i k x s d o;simp only[cC]at ax;obtain⟨J,U⟩:=ax;split at J
  ·rename_i aU bC Ch ux;simp only[e2]at J;subst J;obtain⟨d1,fp,aeS⟩:=iS aK Ch;obtain rfl:=E2 aeS;obtain⟨d2,eJ,aeT⟩:=iS aK ux;obtain rfl:=E2 aeT;have ak:=en aJ U;simp only[hj]at he;unfold E0 at he;split at he
   ·rename_i bS n ad;cases he;rw[ad]at ak;simp only[bc]at ak;exact⟨_,lr (v:= .int k (k.wrap n)) (by simp[convert,ak,run_underlying fp,run_underlying eJ,Conv.intToInt]),by simp[bc]⟩
   ·cases he
  ·cases J
 ·rename_i i x o j;simp only[cC,dQ]at ax;obtain⟨rfl,J⟩:=ax;have ak:=en aJ J;simp only[hj]at he;unfold zq at he;split at he
  ·rename_i aV ad;simp only[gz]at he;obtain⟨q,bo,he⟩:=he;cases he;rw[ad]at ak;simp only[bc]at ak;obtain⟨us,hu,U⟩:=ak;obtain⟨v,g1,g2⟩:=Hi i U bo;have ic:us[i]? =some v:=by simpa using g1
   exact⟨v,lr (by simp[Instr.extract,hu,ic]),g2⟩
  ·cases he
 ·rename_i x o t;simp only[cC]at ax;obtain⟨J,U⟩:=ax;have ak:=en aJ U;simp only[hj]at he;unfold Ao at he;split at he
  ·rename_i sz tag xs ad;cases he;rw[ad]at ak;simp only[bc]at ak;obtain⟨⟨sC,cap,aF,_⟩,_⟩:=ak;refine⟨.int .i64 xs.length,?_,by simp[bc]⟩;split at J
   ·rename_i aL;obtain⟨d,aQ,eW⟩:=iS aK aL;obtain rfl:=sG eW;simp[execOp,resolve,invoke,builtin,Builtin.len_,run_underlying aQ,aF,goInt]
   ·cases J
  ·rename_i sz k n ad;cases he;rw[ad]at ak;simp only[bc]at ak;obtain⟨⟨sC,cap,aF⟩,_⟩:=ak;refine⟨.int .i64 n,?_,by simp[bc]⟩;split at J
   ·rename_i aL;obtain⟨d,aQ,eW⟩:=iS aK aL;obtain rfl:=sG eW;simp[execOp,resolve,invoke,builtin,Builtin.len_,run_underlying aQ,aF,goInt]
   ·cases J
  ·rename_i sC n cap ad;cases he;rw[ad]at ak;simp only[bc]at ak;refine⟨.int .i64 n,?_,by simp[bc]⟩;split at J
   ·rename_i aL;obtain⟨d,aQ,eW⟩:=iS aK aL;obtain rfl:=sG eW;simp[execOp,resolve,invoke,builtin,Builtin.len_,run_underlying aQ,ak,goInt]
   ·cases J
  ·cases he
 ·rename_i x o t;simp only[cC]at ax;obtain⟨J,U⟩:=ax;have ak:=en aJ U;simp only[hj]at he;unfold DT at he;split at he
  ·rename_i s ad;cases he;rw[ad]at ak;simp only[bc]at ak;refine⟨.int .i64 s.length,?_,by simp[bc]⟩;split at J
   ·rename_i aL;obtain⟨d,aQ,eW⟩:=iS aK aL;obtain rfl:=zo eW;simp[execOp,resolve,invoke,builtin,Builtin.len_,run_underlying aQ,ak.1,goInt,DS]
   ·cases J
  ·rename_i s ad;cases he;rw[ad]at ak;simp only[bc]at ak;refine⟨.int .i64 s.size,?_,by simp[bc]⟩;split at J
   ·rename_i aL;obtain⟨d,aQ,eW⟩:=iS aK aL;obtain rfl:=zo eW;simp[execOp,resolve,invoke,builtin,Builtin.len_,run_underlying aQ,ak,goInt]
   ·cases J
  ·cases he
 ·rename_i zero parts t cx;split at ax
  ·rename_i dR z aL;simp only[cC]at ax;obtain⟨⟨J,U⟩,ar⟩:=ax;have br:=aof J;obtain⟨i,d,aoe,ak,aE,bj,c2,ha,hP,rr,rs⟩:=(vp aK aL).ex;obtain⟨gs,rfl,kx⟩:=IZ ha;simp only at br rr rs;subst br;have lA:(gs.toList.all fun f=>(ef bB f.type).isSome)=true:=by rw[←kx]at U;simpa[List.all_map,Function.comp_def]using U
   obtain⟨tp,cP,dt⟩:=Vy aK gs.toList lA;rw[kx]at dt;cases aoe<;>simp only[y1]at rr;case agg us=>
    simp only[hj]at he;cases ad:ua st.t zero parts with
    |none=>simp[ad]at he
    |some x=>obtain⟨cu,cs'⟩:=x;simp only[ad,oh]at he;cases he;obtain⟨cn,g1,g2⟩:=WV aJ dt parts cx.toList zero us c cs' ar (NL w ν _ _ rr) ad au;refine⟨.agg cn,lr (run_build w t _ cn ?_),by simp only[bc];exact⟨cn,rfl,g2⟩⟩;simp only[Program.built,ak,aE,hP,cP,pR];simpa using g1
   all_goals cases rr
  ·cases ax
 ·rename_i x o;have ak:=en aJ ax;simp only[hj]at he;unfold AA at he;split at he
  ·rename_i k off ad;cases he;rw[ad]at ak;have aE:=ak;simp only[bc]at ak;obtain⟨b,_,aF⟩:=ak;exact⟨a.eval o,by simp[execOp,aF],aE⟩
  ·rename_i q ad;cases he;rw[ad]at ak;have aE:=ak;simp only[bc]at ak;obtain⟨b,off,u,aF,_⟩:=ak;exact⟨a.eval o,by simp[execOp,aF],aE⟩
  ·rename_i f cs ad;cases he;rw[ad]at ak;have aE:=ak;simp only[bc]at ak;obtain⟨us,aF,_⟩:=ak;exact⟨a.eval o,by simp[execOp,aF],aE⟩
  ·cases he
 ·rename_i x y o o' t dO;simp only[cC]at ax;have ak:=en aJ ax.1;have aE:=en aJ ax.2;simp only[hj]at he;unfold Gz at he;split at he
  ·rename_i k m bS n hm ay;split at he
   ·rename_i ab;subst ab;cases he;rw[hm]at ak;rw[ay]at aE;simp only[bc]at ak aE;exact⟨.int k (if n<m then n else m),by simp[execOp,resolve,invoke,builtin,Builtin.min_,Builtin.min2,ak,aE],by simp[bc]⟩
   ·cases he
  ·cases he
 ·rename_i n xs m os;simp only[cC,dQ]at ax;obtain⟨rfl,ax⟩:=ax;simp only[hj]at he;cases he;have uo:=DJ aJ ax;refine⟨.func (.func n) #[] (os.map a.eval),by simp[execOp,Instr.makeFunc],?_⟩;simp only[bc];exact⟨os.map a.eval,rfl,by simpa using uo⟩
 ·rename_i ch zero ok x k t o o' GG;simp only[cC,dQ]at ax;obtain⟨⟨⟨rfl,J⟩,U⟩,ar⟩:=ax;have ak:=en aJ U;have aE:=en aJ ar;split at J
  ·rename_i sz k9 mJ pq z aL;simp only[cC]at J;obtain⟨afg,J2⟩:=J;split at J2
   ·rename_i apu aeW;have br:=NN J2;obtain⟨cG,hu,eW⟩:=iS aK aL;have sS:cG= .map mJ pq:=by cases cG<;>simp[kf]at eW;obtain⟨rfl,rfl⟩:=eW;rfl
    subst sS;obtain⟨ca,k4,z2,_⟩:=Nf aK aeW w;rw[←br]at z2;have aa:=(NM w ν z2).1;have l5:=KY aK afg;simp only[hj]at he;unfold nY at he;split at he
    ·rename_i key af;rw[af]at ak;simp only[bc]at ak;obtain⟨bl,cl,b8⟩:=ak;split at he
     ·rename_i clock borns kvs h1;obtain⟨iw,us,el,g1,g2,g3,g4,g5⟩:=aJ.good.box key _ h1;rw[cl]at g1;cases g1;simp only[jN]at g4;simp only[ji]at g5;have hb:(getObj bl).run P w= .ok (.map (fA borns us.toList).toArray clock) w:=vh g4;split at he
      ·cases he
      rename_i vU;have vP:=MJ (P:=P) (w:=w) l5 ((fA borns us.toList).toArray.isEmpty) aE (by simpa using vU);split at he
      ·rename_i v hm;cases he;obtain⟨j,u,f1,f2⟩:=Lq l5 aE borns kvs us.toList 0 _ g5.1 g5.2.len hm;refine⟨if ok then .tuple #[u,.bool true]else u,?_,?_⟩
       ·simp only[execOp];refine lr ?_;simp only[Instr.lookup,fH,run_underlying hu,fL,b8,hb,gy,vP,f1.run l5]
       ·cases ok
        ·simpa using f2
        ·simp only[if_true,bc];exact⟨_,rfl,by simp only[cQ];exact⟨_,_,rfl,f2,_,_,rfl,by simp[bc],rfl⟩⟩
      ·rename_i hm;cases he;have f1:=Lq l5 aE borns kvs us.toList 0 _ g5.1 g5.2.len hm;simp only at f1;refine⟨if ok then .tuple #[ca,.bool false]else ca,?_,?_⟩
       ·simp only[execOp];refine lr ?_;simp only[Instr.lookup,fH,run_underlying hu,fL,b8,hb,gy,vP,f1.run l5,k4]
       ·cases ok
        ·simpa using aa
        ·simp only[if_true,bc];exact⟨_,rfl,by simp only[cQ];exact⟨_,_,rfl,aa,_,_,rfl,by simp[bc],rfl⟩⟩
      ·cases he
     ·cases he
    ·cases he
   ·cases J2
  ·cases J
 ·rename_i x o;have ak:=en aJ ax;simp only[hj]at he;unfold pG at he;split at he
  ·rename_i fl af;rw[af]at ak;simp only[bc]at ak;obtain⟨bl,cl,b8⟩:=ak;split at he
   ·rename_i since seen last mk h1;obtain⟨iw,us,el,g1,g2,g3,g4,g5⟩:=aJ.good.box fl _ h1;rw[cl]at g1;cases g1;simp only[jN]at g4;simp only[ji,cQ,bc]at g5;obtain⟨u,cn,qV,⟨mb,m1,rfl⟩,rfl⟩:=g5;rw[qV]at g4;simp only at g4;split at he
    ·rename_i clock borns kvs afp;obtain⟨aoE,sk,ape,aU,bC,cf,eZ,de⟩:=aJ.good.box mk _ afp;rw[m1]at aU;cases aU;simp only[jN]at eZ;simp only[ji]at de;split at he
     ·rename_i n ay;simp only[gz]at he;obtain⟨q,bo,he⟩:=he;cases he;obtain⟨e,f1,f2⟩:=UG borns kvs sk.toList p de.1 bo;refine⟨.tuple #[e.key,e.val],?_,f2⟩;simp only[execOp];refine lr ?_;have ae3:(getObj bl).run P w= .ok (.mapIter (some mb) since seen.toArray last) w:=vh g4;have ae4:(getObj mb).run P w= .ok (.map (fA borns sk.toList).toArray clock) w:=vh eZ;have JX:seen.toArray.back? =some n:=by simpa using ay
      have zH:(clock !=last)=false:=by simp[au]
      have aeX:(fA borns sk.toList).toArray.find? (·.born==n)=some e:=by simpa using f1
      simp only[Instr.entry,b8,fH,ae3,fL,JX,ae4,zH,gX,if_false,aeX,gy]
     ·cases he
    ·cases he
   ·cases he
  ·cases he
 ·rename_i x o t;simp only[cC]at ax;obtain⟨J,U⟩:=ax;have ak:=en aJ U;simp only[hj]at he;unfold uZ at he;split at he
  ·rename_i key ad;rw[ad]at ak;simp only[bc]at ak;obtain⟨bl,cl,b8⟩:=ak;split at he
   ·rename_i clock borns kvs h1;cases he;obtain⟨iw,us,el,g1,g2,g3,g4,g5⟩:=aJ.good.box key _ h1;rw[cl]at g1;cases g1;simp only[jN]at g4;simp only[ji]at g5;have hb:(getObj bl).run P w= .ok (.map (fA borns us.toList).toArray clock) w:=vh g4;have hlen:(fA borns us.toList).length=borns.length:=Rb g5.2.len (WN g5.1);refine⟨.int .i64 borns.length,?_,by simp[bc]⟩;split at J
    ·rename_i aL;obtain⟨d,aQ,eW⟩:=iS aK aL;obtain⟨mJ,pq,rfl⟩:∃mJ pq,d= .map mJ pq:=by cases d<;>simp[kf]at eW;exact⟨_,_,rfl⟩
     simp[execOp,resolve,invoke,builtin,Builtin.len_,run_underlying aQ,b8,goInt,hb,hlen]
    ·cases J
   ·cases he
  ·cases he
 ·rename_i neg dR x y op t o o' amz;simp only[cC,e2]at ax;obtain⟨⟨⟨rfl,bn⟩,J⟩,U⟩:=ax;have ak:=en aJ J;have aE:=en aJ U;simp only[hj]at he;unfold iv at he;split at he
  ·rename_i bp b5 bz ad;simp only at bn;cases he;rw[bz]at ak;rw[ad]at aE;simp only[bc]at ak aE;split at bn
   ·rename_i aL;obtain⟨d,aQ,eW⟩:=iS aK aL;obtain rfl:d= .bool:=by cases d<;>simp[kf]at eW;rfl
    refine⟨.bool (if neg then bp !=b5 else bp==b5),lr ?_,by simp[bc]⟩;cases neg<;>simp[ak,aE,eqGuard,binOp,aau aQ,bne]
   ·cases bn
  ·rename_i apD as eO bz ad;simp only at bn;simp only[gz]at he;obtain⟨q,bo,he⟩:=he;cases he;rw[bz]at ak;rw[ad]at aE;simp only[bc]at ak aE;obtain⟨X,aaj,akk⟩:=ak;obtain⟨Y,aak,akl⟩:=aE;obtain⟨gs,hu,a7,dd,iL⟩:=RJ aK bn;obtain⟨i1,_,_⟩:=Rg hu a7 dd akk akl bo;refine⟨.bool (if neg then !q else q),lr ?_,by simp[bc]⟩;rw[aaj,aak];cases neg
   ·simp only[gX,if_false,fH,run_eqGuard_agg w _ t o o' X Y iL,fL,run_eql_struct,i1]
   ·simp only[if_true,fH,run_eqGuard_agg w _ t o o' X Y iL,fL,run_neq_struct,i1]
  ·cases he
 ·rename_i x y o o' t dO;simp only[cC]at ax;have ak:=en aJ ax.1;have aE:=en aJ ax.2;simp only[hj]at he;unfold Gv at he;split at he
  ·rename_i k m bS n hm ay;split at he
   ·rename_i ab;subst ab;cases he;rw[hm]at ak;rw[ay]at aE;simp only[bc]at ak aE;exact⟨.int k (if m<n then n else m),by simp[execOp,resolve,invoke,builtin,Builtin.max_,Builtin.max2,ak,aE],by simp[bc]⟩
   ·cases he
  ·cases he
 ·rename_i t x dO o;simp only[cC,dQ]at ax;obtain⟨⟨rfl,J⟩,U⟩:=ax;have ak:=en aJ U;simp only[hj]at he;cases he;split at J
  ·rename_i aL;obtain⟨d,aQ,eW⟩:=iS aK aL;obtain rfl:=sG eW;refine⟨.iface t (a.eval o),lr (by simp[Instr.makeInterface,run_underlying aQ]),?_⟩;simp only[bc];exact⟨_,rfl,ak⟩
  ·cases J
 ·rename_i agg sz x t o;simp only[cC]at ax;obtain⟨J,U⟩:=ax;split at J
  ·rename_i f aL;simp only[cC,dQ]at J;obtain⟨rfl,rfl⟩:=J;obtain⟨v,g1,g2⟩:=Gq aK aJ.good aL (en aJ U) (ahc (by simpa only[hj]using he)) au;exact⟨v,lr g1,g2⟩
  ·cases J
 ·rename_i agg sz x t o;simp only[cC]at ax;obtain⟨J,U⟩:=ax;split at J
  ·rename_i f aL;simp only[cC,dQ]at J;obtain⟨rfl,rfl⟩:=J;obtain⟨v,g1,g2⟩:=Gq aK aJ.good aL (en aJ U) (adG (by simpa only[hj]using he)) au;exact⟨v,lr g1,g2⟩
  ·cases J
 ·exact absurd rfl (aeJ _ _ _ _ _)
 ·cases ax
theorem amG{P:cE}{bB:List (Nat×dF)}(aK:fP P bB=true){C:fh}{st:bs}{a:Act}{w:World}{ν:bf}(aJ:cU C st a w ν){i:fS}{o:Oper}(ax:D3 bB i o.op=true)
  {c:Prop} {p:ah} (he:hj st i=some (c,p)) (au:c):∃v,(execOp a.eval o).run P w= .ok (.value v) w∧bc w ν p v:=by
 by_cases ad:∃ch z ok x k,i= .mgetB ch z ok x k
 ·obtain⟨ch,z,ok,x,k,rfl⟩:=ad;refine XC aK aJ (i:= .mget ch z ok x k) (fun _ _ _ _ _ e=>by cases e) ?_ he au;obtain⟨dst,op,type,pos,after,guard⟩:=o;cases op<;>first|exact ax|simp[D3]at ax
 ·exact XC aK aJ (fun ch z ok x k e=>ad ⟨ch,z,ok,x,k,e⟩) ax he au
theorem QO{w:World}{o:Obj}{b i:Nat}(h:b<w.heap.size):(w.alloc o).cell? ⟨b,i,none⟩=w.cell? ⟨b,i,none⟩:=World.cell?_of_block (Below.heap_alloc w o b h)
def bf.withBox(ν:bf)(k:aI)(bl:Nat):bf:={ν with bx:=fun j=>if j=k then some bl else ν.bx j}
def bf.withOwn(ν:bf)(k:aI)(n:Nat)(v:Value):bf:={ν with ow:=fun j=>if j=k then some (n,v)else ν.ow j}
theorem cU.lookNone{C:fh}{st:bs}{a:Act}{w:World}{ν:bf}(h:cU C st a w ν){k:aI}(ab:fresh st.n st.o k):look k st.b=none∧look k st.e=none:=by
 obtain⟨J,U,_⟩:=h.new k ab;constructor
 ·cases ad:look k st.b with
  |none=>rfl
  |some cs=>obtain⟨bl,us,el,g1,_⟩:=h.good.box _ _ ad;rw[J]at g1;cases g1
 ·cases ad:look k st.e with
  |none=>rfl
  |some o=>obtain⟨v,us,g1,_⟩:=h.good.own _ _ ad;rw[U]at g1;cases g1
theorem Good.ownLt{pr:Nat→Prop}{w:World}{ν:bf}{b:List (aI×List ah)}{e:List (aI×fN)}(h:Good pr w ν b e){g:aI}{o:fN}(a7:look g e=some o){n:Nat}{v:Value}(aF:ν.ow g=some (n,v)){bl:Nat}(ad:v.ownBlock=some bl):bl<w.heap.size:=by obtain⟨v',us,g1,g2,_⟩:=h.own g o a7;rw[aF]at g1;cases g1;exact(g2.lt bl ad).2
theorem Good.boxLt{pr:Nat→Prop}{w:World}{ν:bf}{b:List (aI×List ah)}{e:List (aI×fN)}(h:Good pr w ν b e){k:aI}{cs:List ah}(ab:look k b=some cs){bl:Nat}(ad:ν.bx k=some bl):bl<w.heap.size:=by obtain⟨iw,us,el,g1,_,_,g4,_⟩:=h.box k cs ab;rw[ad]at g1;cases g1;exact(Array.getElem?_eq_some_iff.1 g4).1
theorem cU.newBox{C:fh}{st:bs}{a:Act}{w:World}{ν:bf}(h:cU C st a w ν){fj:aI}(uC:ν.bx fj=none∧ν.ow fj=none∧∀j b,¬ν.tr fj j b){n':Nat}{o':List aI}(ct:∀j,fresh n' o' j→fresh st.n st.o j∧j≠fj){cs:List ah}{us:Array Value}(el:fZ)(au:ji w ν cs us.toList):
  cU C {st with b:=cB fj cs st.b,n:=n',o:=o'} a (w.alloc (jN cs us el)) (ν.withBox fj w.heap.size)∧
  bc (w.alloc (jN cs us el)) (ν.withBox fj w.heap.size) (.ptr fj 0) (.pointer (some ⟨w.heap.size,0,none⟩)):=by
 obtain⟨nk,x1,afv⟩:=uC;have ax:lv w ν (w.alloc (jN cs us el)) (ν.withBox fj w.heap.size):=by
  refine⟨fun b o bk=>⟨bk,QO (h.good.alt b o bk)⟩,fun k b _ ab=>?_,fun g n u _ a7=>⟨n,u,a7,.inl ⟨rfl,rfl⟩⟩,fun b o bk=>wV (Below.heap_alloc w _ b (h.good.alt b o bk)),fun _ _ _ _ h=>h⟩;have:k≠fj:=fun e=>by subst e;rw[nk]at ab;cases ab
  simp[bf.withBox,this,ab]
 have ee:(w.alloc (jN cs us el)).heap.size=w.heap.size+1:=by simp
 have lC:∀k,(look k (cB fj cs st.b)).isSome→k=fj∨(k≠fj∧(look k st.b).isSome∧(ν.withBox fj w.heap.size).bx k=ν.bx k):=by
  intro k ab;by_cases e:k=fj
  ·exact .inl e
  ·rw[iP,if_neg (k6 e)]at ab;exact .inr ⟨e,ab,by simp[bf.withBox,e]⟩
 refine⟨h.over ax rfl ⟨fun bl o bk=>by rw[ee];have:=h.good.alt bl o bk;omega,fun k eH ab=>?_,fun k bS bl ab nR ak aE=>?_,fun g o a7=>?_,h.good.oinj,fun g k n v bl a7 ab aF ad af=>?_,fun k=>?_,fun bl ad k j aK=>?_⟩
  ⟨h.fr.os,h.fr.tape,h.fr.output,by rw[ee];have:=h.fr.size;omega,fun k ab hm=>?_,fun b o bk=>?_,h.fr.fresh,fun n b ad=>?_,h.fr.obn,h.fr.row,h.fr.obr,h.fr.trd,fun k j b ad=>⟨(h.fr.trb k j b ad).1,by rw[ee];have:=(h.fr.trb k j b ad).2;omega⟩,fun k j b ad=>?_,fun b o bk=>(ax.sh b o (h.fr.keep b o bk).1).trans (h.fr.sh b o bk)⟩ (fun m hm=>?_),?_⟩
 ·simp only at ab;rw[iP]at ab;by_cases e:fj=k
  ·rw[if_pos e]at ab;cases ab;subst e;refine⟨w.heap.size,us,el,by simp[bf.withBox],.inr h.fr.size,fun o bk=>?_,heap_alloc_new w _,ql ax au⟩;have:=h.good.alt _ o bk;omega
  ·rw[if_neg e]at ab;obtain⟨bl,cn,fT,g1,g2,g3,g4,g5⟩:=h.good.box k eH ab;exact⟨bl,cn,fT,ax.bx _ _ trivial g1,g2,g3,by rw[Below.heap_alloc w _ bl (Array.getElem?_eq_some_iff.1 g4).1];exact g4,ql ax g5⟩
 ·rcases lC k ab with rfl|⟨h2,gl,jg⟩<;>rcases lC bS nR with rfl|⟨m1,m2,m3⟩
  ·rfl
  ·exfalso;simp only[bf.withBox,if_true,dL]at ak;subst ak;rw[m3]at aE;obtain⟨eH,iK⟩:=fM.1 m2;have:=h.good.boxLt iK aE;omega
  ·exfalso;simp only[bf.withBox,if_true,dL]at aE;subst aE;rw[jg]at ak;obtain⟨eH,iK⟩:=fM.1 gl;have:=h.good.boxLt iK ak;omega
  ·rw[jg]at ak;rw[m3]at aE;exact h.good.inj k bS bl gl m2 ak aE
 ·obtain⟨v,xs,g1,g2,g3,g4⟩:=h.good.own g o a7;exact⟨v,xs,g1,g2.alloc _,g3,sd ax (fun _ _ _ h=>h) g4⟩
 ·rcases lC k ab with rfl|⟨h2,gl,jg⟩
  ·simp only[bf.withBox,if_true,dL]at af;subst af;obtain⟨o,fW⟩:=fM.1 a7;have:=h.good.ownLt fW aF ad;omega
  ·rw[jg]at af;exact h.good.obx g k n v bl a7 gl aF ad af
 ·by_cases e:k=fj
  ·subst e;exact .inr x1
  ·rcases h.good.one k with J|J
   ·exact .inl (by simp[bf.withBox,e,J])
   ·exact .inr J
 ·rcases ad with⟨bS,bD,a2⟩|ad
  ·rcases lC bS bD with rfl|⟨h2,gl,jg⟩
   ·simp[bf.withBox]at a2;subst a2;exact absurd (h.fr.trb k j _ aK).2 (Nat.lt_irrefl _)
   ·exact h.good.otr bl (.inl ⟨bS,gl,by rw[←jg];exact a2⟩) k j aK
  ·exact h.good.otr bl (.inr ad) k j aK
 ·rw[Below.heap_alloc w _ k (by have:=h.fr.size;omega)];exact h.fr.block k ab hm
 ·obtain⟨aU,bC⟩:=h.fr.keep b o bk;exact⟨aU,(QO (h.good.alt b o aU)).trans bC⟩
 ·exact ax.bx _ _ trivial (h.fr.obj n b ad)
 ·have cF:k≠fj:=fun e=>by subst e;exact afv j b ad
  obtain⟨t1,t2⟩:=h.fr.trn k j b ad;exact⟨by simp[bf.withBox,cF,t1],t2⟩
 ·obtain⟨f1,f2⟩:=ct m hm;obtain⟨aU,bC⟩:=h.new m f1;refine⟨?_,bC⟩;simp[bf.withBox,f2,aU]
 ·simp[bc,bf.withBox]
theorem cU.setBox{C:fh}{st:bs}{a:Act}{w w':World}{ν:bf}(h:cU C st a w ν){k:aI}{cs cs':List ah}(ab:look k st.b=some cs){bl:Nat}(ad:ν.bx k=some bl){us:Array Value}{el:fZ}
  (zW:w'.os=w.os) (KB:w'.tape=w.tape) (Kn:w'.output=w.output) (nm:∀j,j≠bl→w'.heap[j]? =w.heap[j]?) (ee:w'.heap.size=w.heap.size) (kA:w'.heap[bl]? =some (jN cs' us el)) (au:ji w ν cs' us.toList):
  cU C {st with b:=cB k cs' st.b} a w' ν∧lv w ν w' ν:=by
 obtain⟨iw,fv,apd,g1,g2,g3,g4,g5⟩:=h.good.box k cs ab;rw[ad]at g1;cases g1;have ax:lv w ν w' ν:=by
  refine⟨fun b o bk=>⟨bk,World.cell?_of_block (nm b fun e=>?_)⟩,fun _ _ _ h=>h,fun g n u _ a7=>⟨n,u,a7,.inl ⟨rfl,rfl⟩⟩,fun b o bk=>wV (nm b fun e=>?_),fun _ _ _ _ h=>h⟩<;>
  (subst e;exact g3 o bk)
 have FB:∀j,(look j (cB k cs' st.b)).isSome→(look j st.b).isSome:=by
  intro j ae;rw[iP]at ae;by_cases e:k=j
  ·subst e;simp[ab]
  ·rwa[if_neg e]at ae
 refine⟨h.over ax rfl ⟨fun b o bk=>by rw[ee];exact h.good.alt b o bk,fun j eH ae=>?_,fun j dD b ae js=>h.good.inj j dD b (FB j ae) (FB dD js),fun g o a7=>?_,h.good.oinj,fun g j n v b a7 ae=>h.good.obx g j n v b a7 (FB j ae),h.good.one,fun bl ad=>h.good.otr bl (ad.imp (fun⟨k,J,U⟩=>⟨k,FB k J,U⟩) id)⟩
  ⟨zW.trans h.fr.os,KB.trans h.fr.tape,Kn.trans h.fr.output,by rw[ee];exact h.fr.size,fun j ae hm=>?_,fun b o bk=>?_,h.fr.fresh,h.fr.obj,h.fr.obn,h.fr.row,h.fr.obr,h.fr.trd,fun k j b ad=>⟨(h.fr.trb k j b ad).1,by rw[ee];exact(h.fr.trb k j b ad).2⟩,h.fr.trn,fun b o bk=>(ax.sh b o (h.fr.keep b o bk).1).trans (h.fr.sh b o bk)⟩ h.new,ax⟩
 ·simp only at ae;rw[iP]at ae;by_cases e:k=j
  ·rw[if_pos e]at ae;cases ae;subst e;exact⟨bl,us,el,ad,g2,g3,kA,ql ax au⟩
  ·rw[if_neg e]at ae;obtain⟨b,cn,fT,ak,aE,bj,c2,ha⟩:=h.good.box j eH ae;refine⟨b,cn,fT,ak,aE,bj,?_,ql ax ha⟩;rw[nm b fun fy=>e (h.good.inj k j bl (by simp[ab]) (by simp[ae]) ad (by rw[←fy];exact ak))];exact c2
 ·obtain⟨v,xs,ak,aE,bj,c2⟩:=h.good.own g o a7;refine⟨v,xs,ak,⟨aE.1,?_⟩,bj,sd ax (fun _ _ _ h=>h) c2⟩;rcases aE.2 with aE|⟨bb,cap,cur,f1,f2,f3,f4⟩
  ·exact .inl aE
  ·refine .inr ⟨bb,cap,cur,f1,f2,?_,f4⟩;rw[nm bb fun fy=>h.good.obx g k o.n v bl (by simp[a7]) (by simp[ab]) ak (by rw[f1,←fy];rfl) ad];exact f3
 ·rw[nm j fun e=>by subst e;exact g2.elim hm (fun g2=>by omega)];exact h.fr.block j ae hm
 ·obtain⟨aU,bC⟩:=h.fr.keep b o bk;exact⟨aU,(ax.A b o aU).2.trans bC⟩
theorem cU.storeBox{C:fh}{st:bs}{a:Act}{w:World}{ν:bf}(h:cU C st a w ν){k:aI}{cs cs':List ah}(ab:look k st.b=some cs){bl:Nat}(ad:ν.bx k=some bl)(bG:hU cs=true){us:Array Value}(au:c7 w ν cs' us.toList):
  cU C {st with b:=cB k cs' st.b} a (w.setRow bl us) ν:=by
 obtain⟨iw,fv,el,g1,g2,g3,g4,g5⟩:=h.good.box k cs ab;rw[ad]at g1;cases g1;rw[u3 bG]at g4;have S4:=A3 au;exact(h.setBox (w':=w.setRow bl us) ab ad (us:=us) (el:=el) rfl rfl rfl (fun j ae=>setRow_other w bl j us ae) (setRow_size w bl us) (by rw[u3 S4];exact setRow_heap w bl fv us el _ g4) (by rw[u4 S4];exact au)).1
def bf.withRowOf(ν:bf)(k:aI)(v:Value)(n cells:Nat):bf:={A:=fun b o=>ν.A b o∨(v.ownBlock=some b∧o<cells),bx:=ν.bx,ow:=fun j=>if j=k then some (n,v)else ν.ow j,tr:=ν.tr}
theorem K5{w:World}{A:Nat→Nat→Prop}{b:Nat}:∀(us:List Value) (off:Nat),(∀j u,us[j]? =some u→A b (off+j)∧w.cell? ⟨b,off+j,none⟩=some u)→lO w A b off us
 |[],_,_=>trivial
 |u::us,off,h=>⟨h 0 u rfl,K5 us (off+1) fun j x ae=>by have:=h (j+1) x (by simpa using ae);rwa[show off+(j+1)=off+1+j from by omega]at this⟩
theorem EX{w w':World}(a7:w.grownBy w' none){b i:Nat}(h:b<w.heap.size):w'.cell? ⟨b,i,none⟩=w.cell? ⟨b,i,none⟩:=World.cell?_of_block (a7.block b h (by simp))
theorem cU.newRowM{C:fh}{st:bs}{a:Act}{w w':World}{ν:bf}(h:cU C st a w ν){k:aI}{xs:List ah}(ab:(ν.bx k=none∧ν.ow k=none∧∀j b,¬ν.tr k j b)∨ ∃o,look k st.e=some o∧o.n<xs.length){el sz:Nat}{v:Value}{us:List Value}
  (a7:w.grownBy w' none) (lH:w'.ownsRow w.heap.size el sz v xs.length us) (au:dB w ν sz xs us) (eX:xs.length≤lim) {n':Nat} {o':List aI} (ct:∀j,fresh n' o' j→fresh st.n st.o j∧j≠k):
  cU C {st with e:=cB k ⟨xs.length,el,sz,some xs⟩ st.e,n:=n',o:=o'} a w' (ν.withOwn k xs.length v)∧
  ((∃b cap,v= .slice (some ⟨b,0,none⟩) xs.length cap)→bc w' (ν.withOwn k xs.length v) (.row sz k xs.length) v):=by
 have qO:∀bl,v.ownBlock=some bl→w.heap.size≤bl∧bl<w'.heap.size:=fun bl ad=>lH.lt bl ad;have ax:lv w ν w' (ν.withOwn k xs.length v):=by
  refine⟨fun b o bk=>⟨bk,EX a7 (h.good.alt b o bk)⟩,fun j b _ ae=>ae,fun g n u _ iL=>?_,fun b o bk=>wV (a7.block b (h.good.alt b o bk) (by simp)),fun _ _ _ _ h=>h⟩;by_cases e:g=k
  ·subst e;rcases ab with ab|⟨o,ax,bE⟩
   ·rw[ab.2.1]at iL;cases iL
   ·obtain⟨v0,fv,ak,_⟩:=h.good.own g o ax;rw[ak]at iL;cases iL;exact⟨xs.length,v,by simp[bf.withOwn],.inr bE⟩
  ·exact⟨n,u,by simp[bf.withOwn,e,iL],.inl ⟨rfl,rfl⟩⟩
 have kV:∀g,(look g (cB k ⟨xs.length,el,sz,some xs⟩ st.e)).isSome→g=k∨(g≠k∧(look g st.e).isSome∧(ν.withOwn k xs.length v).ow g=ν.ow g):=by
  intro g kx;by_cases e:g=k
  ·exact .inl e
  ·rw[iP,if_neg (k6 e)]at kx;exact .inr ⟨e,kx,by simp[bf.withOwn,e]⟩
 have S0:∀bl,v.ownBlock=some bl→∀j,¬ν.A bl j:=fun bl ad j bk=>by have J:=h.good.alt bl j bk;have:=(qO bl ad).1;omega
 have afC:∀j b,¬ν.tr k j b:=fun j b ad=>by
  rcases ab with ab|⟨o,fW,_⟩
  ·exact ab.2.2 j b ad
  ·obtain⟨v0,fv,ak,_⟩:=h.good.own k o fW;rw[(h.fr.trn k j b ad).2]at ak;cases ak
 refine⟨h.over ax rfl ⟨fun bl o bk=>?_,fun j eH ae=>?_,h.good.inj,fun g o dC=>?_,fun g eI n n' u e8 bl J U ar ba b4 c9=>?_,fun g j n u bl J U ar ba b4=>?_,fun j=>?_,fun bl ad bS j aK=>?_⟩
  ⟨a7.os.trans h.fr.os,a7.tape.trans h.fr.tape,a7.output.trans h.fr.output,jT h.fr.size a7.size,fun j ae hm=>?_,fun b o bk=>?_,h.fr.fresh,h.fr.obj,h.fr.obn,fun m n u hm=>DN (h.fr.row m n u hm) (fun n u=>ax.ow _ n u trivial),h.fr.obr,h.fr.trd,fun k j b ad=>⟨(h.fr.trb k j b ad).1,Nat.lt_of_lt_of_le (h.fr.trb k j b ad).2 a7.size⟩,fun bS j b ad=>?_,fun b o bk=>(ax.sh b o (h.fr.keep b o bk).1).trans (h.fr.sh b o bk)⟩ (fun m hm=>?_),?_⟩
 ·have:=h.good.alt bl o bk;have:=a7.size;omega
 ·obtain⟨bl,cn,fT,g1,g2,g3,g4,g5⟩:=h.good.box j eH ae;have bE:=(Array.getElem?_eq_some_iff.1 g4).1;exact⟨bl,cn,fT,g1,g2,g3,by rw[a7.block bl bE (by simp)];exact g4,ql ax g5⟩
 ·simp only at dC;rw[iP]at dC;by_cases e:k=g
  ·rw[if_pos e]at dC;cases dC;subst e;refine⟨v,us,by simp[bf.withOwn],⟨lH.1,?_⟩,fun bl ad=>⟨.inr (jT h.fr.size (qO bl ad).1),fun j bk=>absurd bk (S0 bl ad j)⟩,fun ys aM=>?_⟩
   ·rcases lH.2 with ak|⟨bb,cap,cur,f1,f2,f3⟩
    ·exact .inl ak
    ·exact .inr ⟨bb,cap,cur,f1,by omega,f3⟩
   ·simp only[dL]at aM;subst aM;exact⟨rfl,A0 ax au,S0⟩
  ·rw[if_neg e]at dC;obtain⟨v0,fv,ak,aE,bj,c2⟩:=h.good.own g o dC;exact⟨v0,fv,by simp[bf.withOwn,k6 e,ak],aE.kept a7 (by cases v0.ownBlock<;>simp),bj,sd ax (fun _ _ _ h=>h) c2⟩
 ·rcases kV g J with rfl|⟨h2,gl,jg⟩<;>rcases kV eI U with rfl|⟨m1,m2,m3⟩
  ·rfl
  ·exfalso;simp only[bf.withOwn,if_true,dL,jy]at ar;rw[m3]at ba;obtain⟨o,fW⟩:=fM.1 m2;have aw:=h.good.ownLt fW ba c9;have:=(qO bl (by rw[ar.2];exact b4)).1;omega
  ·exfalso;simp only[bf.withOwn,if_true,dL,jy]at ba;rw[jg]at ar;obtain⟨o,fW⟩:=fM.1 gl;have aw:=h.good.ownLt fW ar b4;have:=(qO bl (by rw[ba.2];exact c9)).1;omega
  ·rw[jg]at ar;rw[m3]at ba;exact h.good.oinj g eI n n' u e8 bl gl m2 ar ba b4 c9
 ·rcases kV g J with rfl|⟨h2,gl,jg⟩
  ·simp only[bf.withOwn,if_true,dL,jy]at ar;obtain⟨eH,iK⟩:=fM.1 U;have aw:=h.good.boxLt iK b4;have:=(qO bl (by rw[ar.2];exact ba)).1;omega
  ·rw[jg]at ar;exact h.good.obx g j n u bl gl U ar ba b4
 ·by_cases e:j=k
  ·subst e;rcases ab with ab|⟨o,fW,_⟩
   ·exact .inl ab.1
   ·obtain⟨v0,fv,ak,_⟩:=h.good.own j o fW;rcases h.good.one j with J|J
    ·exact .inl J
    ·rw[J]at ak;cases ak
  ·rcases h.good.one j with J|J
   ·exact .inl J
   ·exact .inr (by simp[bf.withOwn,e,J])
 ·rcases ad with ad|⟨g,n,u,bD,a2,a3⟩
  ·exact h.good.otr bl (.inl ad) bS j aK
  ·rcases kV g bD with rfl|⟨h2,gl,jg⟩
   ·simp only[bf.withOwn,if_true,dL,jy]at a2;have J:=(qO bl (by rw[a2.2];exact a3)).1;have U:=(h.fr.trb bS j _ aK).2;omega
   ·exact h.good.otr bl (.inr ⟨g,n,u,gl,by rw[←jg];exact a2,a3⟩) bS j aK
 ·rw[a7.block j (by have:=h.fr.size;omega) (by simp)];exact h.fr.block j ae hm
 ·obtain⟨aU,bC⟩:=h.fr.keep b o bk;exact⟨aU,(ax.A b o aU).2.trans bC⟩
 ·have cF:bS≠k:=fun e=>by subst e;exact afC j b ad
  obtain⟨t1,t2⟩:=h.fr.trn bS j b ad;exact⟨t1,by simp[bf.withOwn,cF,t2]⟩
 ·obtain⟨f1,f2⟩:=ct m hm;obtain⟨aU,bC,cf⟩:=h.new m f1;refine⟨aU,?_,cf⟩;simp[bf.withOwn,f2,bC]
 ·intro J6;simp only[bc];exact⟨J6,eX,xs.length,v,by simp[bf.withOwn],eR _,fun _=>rfl⟩
theorem cU.publish{C:fh}{st:bs}{a:Act}{w:World}{ν:bf}(h:cU C st a w ν){k:aI}{o:fN}{xs:List ah}(ab:look k st.e=some o)(af:o.xs=some xs){v:Value}(aF:ν.ow k=some (o.n,v))(eX:xs.length≤lim):
  cU C {st with e:=cB k ⟨o.n,o.el,o.sz,none⟩ st.e} a w (ν.withRowOf k v o.n (o.n*o.sz))∧
  bc w (ν.withRowOf k v o.n (o.n*o.sz)) (.slice o.sz (.own k) xs) v:=by
 obtain⟨v0,us,a8,bF,b0,c0⟩:=h.good.own k o ab;rw[aF]at a8;cases a8;obtain⟨da,nZ,u5⟩:=c0 xs af;have oG:∀g,(ν.withRowOf k v o.n (o.n*o.sz)).ow g=ν.ow g:=fun g=>by
  simp only[bf.withRowOf];split
  ·rename_i e;subst e;exact aF.symm
  ·rfl
 have ax:lv w ν w (ν.withRowOf k v o.n (o.n*o.sz)):=⟨fun b o bk=>⟨.inl bk,rfl⟩,fun j b _ ae=>ae,fun g n u _ iL=>⟨n,u,by rw[oG];exact iL,.inl ⟨rfl,rfl⟩⟩,fun _ _ _=>rfl,fun _ _ _ _ h=>h⟩
 have kV:∀g,(look g (cB k ⟨o.n,o.el,o.sz,none⟩ st.e)).isSome→(look g st.e).isSome:=by
  intro g kx;by_cases e:k=g
  ·subst e;simp[ab]
  ·rwa[iP,if_neg e]at kx
 refine⟨h.over ax rfl ⟨fun bl i bk=>?_,fun j eH ae=>?_,h.good.inj,fun g o' dC=>?_,fun g eI n n' u e8 bl J U ar ba=>h.good.oinj g eI n n' u e8 bl (kV g J) (kV eI U) (by rwa[oG]at ar) (by rwa[oG]at ba),fun g j n u bl J U ar=>h.good.obx g j n u bl (kV g J) U (by rwa[oG]at ar),fun j=>?_,fun bl ad=>h.good.otr bl (ad.imp id (fun⟨g,n,v,bD,a2,a3⟩=>⟨g,n,v,kV g bD,by rwa[oG]at a2,a3⟩))⟩
  ⟨h.fr.os,h.fr.tape,h.fr.output,h.fr.size,h.fr.block,fun b i bk=>⟨.inl (h.fr.keep b i bk).1,(h.fr.keep b i bk).2⟩,fun b i bk=>?_,h.fr.obj,h.fr.obn,fun m n u hm=>DN (h.fr.row m n u hm) (fun n u=>ax.ow _ n u trivial),h.fr.obr,h.fr.trd,h.fr.trb,fun bS j b ad=>⟨(h.fr.trn bS j b ad).1,by rw[oG];exact(h.fr.trn bS j b ad).2⟩,h.fr.sh⟩ (fun m hm=>?_),?_⟩
 ·rcases bk with bk|⟨bk,_⟩
  ·exact h.good.alt bl i bk
  ·exact(bF.lt bl bk).2
 ·obtain⟨bl,cn,fT,g1,g2,g3,g4,g5⟩:=h.good.box j eH ae;refine⟨bl,cn,fT,g1,g2,fun i bk=>?_,g4,ql ax g5⟩;rcases bk with bk|⟨bk,_⟩
  ·exact g3 i bk
  ·exact h.good.obx k j o.n v bl (by simp[ab]) (by simp[ae]) aF bk g1
 ·simp only at dC;rw[iP]at dC;by_cases e:k=g
  ·rw[if_pos e]at dC;cases dC;subst e;refine⟨v,us,by rw[oG];exact aF,bF,fun bl ad=>⟨(b0 bl ad).1,fun j bk=>?_⟩,fun ys aM=>by cases aM⟩;rcases bk with bk|⟨_,bk⟩
   ·exact(b0 bl ad).2 j bk
   ·exact bk
  ·rw[if_neg e]at dC;obtain⟨v0,fv,ak,aE,bj,c2⟩:=h.good.own g o' dC;have vL:∀bl,v0.ownBlock=some bl→∀j,(ν.withRowOf k v o.n (o.n*o.sz)).A bl j→ν.A bl j:=fun bl ad j bk=>by
    rcases bk with bk|⟨bk,_⟩
    ·exact bk
    ·exact absurd (h.good.oinj k g o.n o'.n v v0 bl (by simp[ab]) (by simp[dC]) aF ak bk ad) e
   exact⟨v0,fv,by rw[oG];exact ak,aE,fun bl ad=>⟨(bj bl ad).1,fun j bk=>(bj bl ad).2 j (vL bl ad j bk)⟩,sd ax vL c2⟩
 ·rcases h.good.one j with J|J
  ·exact .inl J
  ·exact .inr (by rw[oG];exact J)
 ·rcases bk with bk|⟨bk,_⟩
  ·exact h.fr.fresh b i bk
  ·exact .inr (b0 b bk).1
 ·obtain⟨aU,bC,cf⟩:=h.new m hm;exact⟨aU,by rw[oG];exact bC,cf⟩
 ·simp only[bc];refine⟨?_,fun e=>(by cases e),fun g e=>?_,fun _ _ e=>(by cases e),fun _ e=>(by cases e)⟩
  ·rcases bF.2 with⟨ak,aE⟩|⟨bb,cap,cur,f1,f2,f3,f4,f5,f6,f7⟩
   ·refine⟨none,0,by rw[ak,da,aE],by omega,⟨by simp[maxLen],eX⟩,.inl (List.eq_nil_of_length_eq_zero (by omega))⟩
   ·refine⟨some ⟨bb,0,none⟩,cap,by rw[f1,da],by omega,⟨f5,eX⟩,.inr ⟨bb,0,us,rfl,K5 us 0 fun j u ae=>?_,A0 ax nZ⟩⟩;have oI:v.ownBlock=some bb:=by rw[f1];rfl
    have zQ:j<us.length:=(e1.1 ae).1;refine⟨.inr ⟨oI,by rw[bF.1]at zQ;omega⟩,?_⟩;have:=bF.cells oI j u ae;rwa[pd]at this
  ·cases e;exact⟨o.n,v,by rw[oG];exact aF,by omega,fun _=>rfl⟩
theorem XA{α:Type}(k:aI)(p q:α):∀l,cB k q (cB k p l)=cB k q l
 |[]=>by simp[cB]
 |(i,r)::l=>by
  by_cases e:i=k
  ·simp[cB,e]
  ·simp[cB,e,XA k p q l]
theorem cU.newRow{C:fh}{st:bs}{a:Act}{w w':World}{ν:bf}(h:cU C st a w ν){k:aI}{xs:List ah}(ab:(ν.bx k=none∧ν.ow k=none∧∀j b,¬ν.tr k j b)∨ ∃o,look k st.e=some o∧o.n<xs.length){el sz:Nat}{v:Value}{us:List Value}
  (a7:w.grownBy w' none) (lH:w'.ownsRow w.heap.size el sz v xs.length us) (au:dB w ν sz xs us) (eX:xs.length≤lim) {n':Nat} {o':List aI} (ct:∀j,fresh n' o' j→fresh st.n st.o j∧j≠k):
  cU C {st with e:=cB k ⟨xs.length,el,sz,none⟩ st.e,n:=n',o:=o'} a w' ((ν.withOwn k xs.length v).withRowOf k v xs.length (xs.length*sz))∧
  bc w' ((ν.withOwn k xs.length v).withRowOf k v xs.length (xs.length*sz)) (.slice sz (.own k) xs) v:=by
 have J:=(h.newRowM ab a7 lH au eX ct).1;have U:=J.publish (k:=k) (o:=⟨xs.length,el,sz,some xs⟩) (xs:=xs) (v:=v) (by simp[iP]) rfl (by simp[bf.withOwn]) eX;simpa only[XA]using U
theorem cU.setRowM{C:fh}{st:bs}{a:Act}{w w':World}{ν:bf}(h:cU C st a w ν){k:aI}{o:fN}{xs xs':List ah}(ab:look k st.e=some o)(af:o.xs=some xs){bl:Nat}{v v':Value}(aF:ν.ow k=some (o.n,v))(oI:v.ownBlock=some bl)(FW:v'.ownBlock=some bl)
  (ay:(xs'.length=o.n∧v'=v)∨o.n<xs'.length) {us:List Value} (zW:w'.os=w.os) (KB:w'.tape=w.tape) (Kn:w'.output=w.output) (nm:∀j,j≠bl→w'.heap[j]? =w.heap[j]?) (ee:w'.heap.size=w.heap.size)
  (lH:w'.ownsRow 0 o.el o.sz v' xs'.length us) (au:dB w ν o.sz xs' us):
  cU C {st with e:=cB k ⟨xs'.length,o.el,o.sz,some xs'⟩ st.e} a w' (ν.withOwn k xs'.length v')∧lv w ν w' (ν.withOwn k xs'.length v')∧(xs'.length≤lim→bc w' (ν.withOwn k xs'.length v') (.row o.sz k xs'.length) v'):=by
 obtain⟨v0,fv,a8,bF,b0,c0⟩:=h.good.own k o ab;rw[aF]at a8;cases a8;obtain⟨da,nZ,u5⟩:=c0 xs af;have ax:lv w ν w' (ν.withOwn k xs'.length v'):=by
  refine⟨fun b i bk=>⟨bk,World.cell?_of_block (nm b fun e=>by subst e;exact u5 b oI i bk)⟩,fun j b _ ae=>ae,fun g n u _ iL=>?_,fun b i bk=>wV (nm b fun e=>by subst e;exact u5 b oI i bk),fun _ _ _ _ h=>h⟩;by_cases e:g=k
  ·subst e;rw[aF]at iL;cases iL;refine⟨xs'.length,v',by simp[bf.withOwn],?_⟩;rcases ay with⟨J,U⟩|J
   ·exact .inl ⟨J,U⟩
   ·exact .inr J
  ·exact⟨n,u,by simp[bf.withOwn,e,iL],.inl ⟨rfl,rfl⟩⟩
 have kV:∀g n u,(look g (cB k ⟨xs'.length,o.el,o.sz,some xs'⟩ st.e)).isSome→(ν.withOwn k xs'.length v').ow g=some (n,u)→∀b,u.ownBlock=some b→(look g st.e).isSome∧∃n u,ν.ow g=some (n,u)∧u.ownBlock=some b:=by
  intro g n u kx iL b ad;by_cases e:g=k
  ·subst e;simp only[bf.withOwn,if_true,dL,jy]at iL;rw[←iL.2,FW]at ad;cases ad;exact⟨by simp[ab],o.n,v,aF,oI⟩
  ·rw[iP,if_neg (k6 e)]at kx;simp only[bf.withOwn,e,if_false]at iL;exact⟨kx,n,u,iL,ad⟩
 refine⟨h.over ax rfl ⟨fun b i bk=>by rw[ee];exact h.good.alt b i bk,fun j eH ae=>?_,h.good.inj,fun g o' dC=>?_,fun g eI n n' u e8 b J U ar ba b4 c9=>?_,fun g j n u b J U ar ba b4=>?_,fun j=>?_,fun b ad=>h.good.otr b (ad.imp id (fun⟨g,n,v,bD,a2,a3⟩=>by obtain⟨cl,h2,iU,b8,fG⟩:=kV g n v bD a2 b a3;exact⟨g,h2,iU,cl,b8,fG⟩))⟩
  ⟨zW.trans h.fr.os,KB.trans h.fr.tape,Kn.trans h.fr.output,by rw[ee];exact h.fr.size,fun j ae hm=>?_,fun b i bk=>?_,h.fr.fresh,h.fr.obj,h.fr.obn,fun m n u hm=>DN (h.fr.row m n u hm) (fun n u=>ax.ow _ n u trivial),h.fr.obr,h.fr.trd,fun k j b ad=>⟨(h.fr.trb k j b ad).1,by rw[ee];exact(h.fr.trb k j b ad).2⟩,fun bS j b ad=>?_,fun b o bk=>(ax.sh b o (h.fr.keep b o bk).1).trans (h.fr.sh b o bk)⟩ (fun m hm=>?_),ax,?_⟩
 ·obtain⟨b,cn,fT,g1,g2,g3,g4,g5⟩:=h.good.box j eH ae;have cF:b≠bl:=fun e=>h.good.obx k j o.n _ bl (by simp[ab]) (by simp[ae]) aF oI (by rw[←e];exact g1);exact⟨b,cn,fT,g1,g2,g3,by rw[nm b cF];exact g4,ql ax g5⟩
 ·simp only at dC;rw[iP]at dC;by_cases e:k=g
  ·rw[if_pos e]at dC;cases dC;subst e;refine⟨v',us,by simp[bf.withOwn],lH,fun b ad=>?_,fun ys aM=>?_⟩
   ·rw[FW]at ad;cases ad;exact⟨(b0 bl oI).1,fun j bk=>absurd bk (u5 bl oI j)⟩
   ·simp only[dL]at aM;subst aM;exact⟨rfl,A0 ax au,fun b ad=>by rw[FW]at ad;cases ad;exact u5 bl oI⟩
  ·rw[if_neg e]at dC;obtain⟨v0,fv,ak,aE,bj,c2⟩:=h.good.own g o' dC;have cF:∀b,v0.ownBlock=some b→b≠bl:=fun b ad I6=>e (h.good.oinj k g o.n o'.n _ v0 bl (by simp[ab]) (by simp[dC]) aF ak oI (by rw[←I6];exact ad));refine⟨v0,fv,by simp[bf.withOwn,k6 e,ak],⟨aE.1,?_⟩,bj,sd ax (fun _ _ _ h=>h) c2⟩;rcases aE.2 with aE|⟨bb,EW,mu,f1,f2,f3,f4⟩
   ·exact .inl aE
   ·exact .inr ⟨bb,EW,mu,f1,f2,by rw[nm bb (cF bb (by rw[f1];rfl))];exact f3,f4⟩
 ·obtain⟨bD,h2,iU,a2,a3⟩:=kV g n u J ar b b4;obtain⟨cl,gl,jx,b8,fG⟩:=kV eI n' e8 U ba b c9;exact h.good.oinj g eI h2 gl iU jx b bD cl a2 b8 a3 fG
 ·obtain⟨bD,h2,iU,a2,a3⟩:=kV g n u J ar b ba;exact h.good.obx g j h2 iU b bD U a2 a3 b4
 ·by_cases e:j=k
  ·subst e;rcases h.good.one j with J|J
   ·exact .inl J
   ·rw[J]at aF;cases aF
  ·rcases h.good.one j with J|J
   ·exact .inl J
   ·exact .inr (by simp[bf.withOwn,e,J])
 ·rw[nm j fun e=>by subst e;exact(b0 j oI).1.elim hm (fun g2=>by omega)];exact h.fr.block j ae hm
 ·obtain⟨aU,bC⟩:=h.fr.keep b i bk;exact⟨aU,(ax.A b i aU).2.trans bC⟩
 ·obtain⟨t1,t2⟩:=h.fr.trn bS j b ad;have cF:bS≠k:=fun e=>by subst e;rw[t2]at aF;cases aF
  exact⟨t1,by simp[bf.withOwn,cF,t2]⟩
 ·obtain⟨aU,bC,cf⟩:=h.new m hm;refine⟨aU,?_,cf⟩;have:m≠k:=fun e=>by subst e;rw[bC]at aF;cases aF
  simp[bf.withOwn,this,bC]
 ·intro eX;simp only[bc];obtain⟨cap,J6⟩:=Vs lH FW;exact⟨⟨bl,cap,J6⟩,eX,xs'.length,v',by simp[bf.withOwn],eR _,fun _=>rfl⟩
theorem cU.inPlace{C:fh}{st:bs}{a:Act}{w:World}{ν:bf}(h:cU C st a w ν){k:aI}{o:fN}(ab:look k st.e=some o){bl cap:Nat}{cur:Array Value}(aF:ν.ow k=some (o.n,.slice (some ⟨bl,0,none⟩) o.n cap))
  (xN:w.heap[bl]? =some (.cells cur o.el (0,0))) (zG:cap≤maxLen) (ee:cur.size=cap*o.sz) {xs ys:List ah} {us ns:List Value} (kj:xs.length=o.n) (qV:cur.toList.take (o.n*o.sz)=us) (au:dB w ν o.sz xs us) (zI:dB w ν o.sz ys ns)
  (fs:0<ys.length) (rS:o.n+ys.length≤cap) (eX:xs.length+ys.length≤lim):
  cU C {st with e:=cB k ⟨o.n+ys.length,o.el,o.sz,none⟩ st.e} a (w.setRow bl (us++ns++cur.toList.drop (o.n*o.sz+ns.length)).toArray)
   (ν.withRowOf k (.slice (some ⟨bl,0,none⟩) (o.n+ys.length) cap) (o.n+ys.length) ((o.n+ys.length)*o.sz))∧
  bc (w.setRow bl (us++ns++cur.toList.drop (o.n*o.sz+ns.length)).toArray) (ν.withRowOf k (.slice (some ⟨bl,0,none⟩) (o.n+ys.length) cap) (o.n+ys.length) ((o.n+ys.length)*o.sz))
   (.slice o.sz (.own k) (xs++ys)) (.slice (some ⟨bl,0,none⟩) (o.n+ys.length) cap):=by
 have jH:=tt zI;have p6:=tt au;rw[kj]at p6;have hmul:(o.n+ys.length)*o.sz≤cap*o.sz:=qv _ rS;rw[o8]at hmul;obtain⟨v0,fv,a8,bF,b0,_⟩:=h.good.own k o ab;rw[aF]at a8;cases a8;obtain⟨c0,da⟩:=b0 bl rfl;generalize Ab:w.setRow bl (us++ns++cur.toList.drop (o.n*o.sz+ns.length)).toArray=w';have nm:∀j,j≠bl→w'.heap[j]? =w.heap[j]?:=fun j ae=>by rw[←Ab];exact setRow_other w bl j _ ae
 have kA:w'.heap[bl]? =some (.cells (us++ns++cur.toList.drop (o.n*o.sz+ns.length)).toArray o.el (0,0)):=by rw[←Ab];exact setRow_heap w bl cur _ o.el _ xN
 have Kw:w'.heap.size=w.heap.size:=by rw[←Ab];exact setRow_size w bl _
 have qP:∀j,j<o.n*o.sz→w'.cell? ⟨bl,j,none⟩=w.cell? ⟨bl,j,none⟩:=by intro j ae;simp only[World.cell?,kA,xN,ml,gX,if_false];rw[List.getElem?_toArray,List.append_assoc,List.getElem?_append_left (by omega),←qV,List.getElem?_take,if_pos ae];simp
 have ax:lv w ν w' (ν.withRowOf k (.slice (some ⟨bl,0,none⟩) (o.n+ys.length) cap) (o.n+ys.length) ((o.n+ys.length)*o.sz)):=by
  refine⟨fun b j bk=>⟨.inl bk,?_⟩,fun j b _ ae=>ae,fun g n u _ iL=>?_,fun b j bk=>?_,fun _ _ _ _ h=>h⟩;rotate_left 2
  ·by_cases e:b=bl
   ·subst e;simp only[shape,kA,xN,List.size_toArray,o5,sw,Array.length_toList];congr 2;omega
   ·exact wV (nm b e)
  ·by_cases e:b=bl
   ·subst e;exact qP j (da j bk)
   ·exact World.cell?_of_block (nm b e)
  ·by_cases e:g=k
   ·subst e;rw[aF]at iL;cases iL;exact⟨o.n+ys.length,.slice (some ⟨bl,0,none⟩) (o.n+ys.length) cap,by simp[bf.withRowOf],.inr (by omega)⟩
   ·exact⟨n,u,by simp[bf.withRowOf,e,iL],.inl ⟨rfl,rfl⟩⟩
 have kV:∀g,(look g (cB k ⟨o.n+ys.length,o.el,o.sz,none⟩ st.e)).isSome→g=k∨(g≠k∧(look g st.e).isSome∧(ν.withRowOf k (.slice (some ⟨bl,0,none⟩) (o.n+ys.length) cap) (o.n+ys.length) ((o.n+ys.length)*o.sz)).ow g=ν.ow g):=by
  intro g kx;by_cases e:g=k
  ·exact .inl e
  ·rw[iP,if_neg (k6 e)]at kx;exact .inr ⟨e,kx,by simp[bf.withRowOf,e]⟩
 have apM:bl<w.heap.size:=(Array.getElem?_eq_some_iff.1 xN).1;have aeM:∀j u,(us++ns)[j]? =some u→w'.cell? ⟨bl,j,none⟩=some u:=by intro j u ae;have zQ:=(e1.1 ae).1;simp only[World.cell?,kA,ml,gX,if_false];rw[List.getElem?_toArray,List.getElem?_append_left zQ];exact ae
 refine⟨h.over ax rfl ⟨fun b j bk=>?_,fun j eH ae=>?_,h.good.inj,fun g o' dC=>?_,fun g eI n n' u e8 b J U ar ba b4 c9=>?_,fun g j n u b J U ar ba b4=>?_,fun j=>?_,fun b ad=>h.good.otr b ?_⟩
  ⟨by rw[←Ab];exact h.fr.os,by rw[←Ab];exact h.fr.tape,by rw[←Ab];exact h.fr.output,by rw[Kw];exact h.fr.size,fun j ae hm=>?_,fun b j bk=>?_,fun b j bk=>?_,h.fr.obj,h.fr.obn,fun m n u hm=>DN (h.fr.row m n u hm) (fun n u=>ax.ow _ n u trivial),h.fr.obr,h.fr.trd,fun k j b ad=>⟨(h.fr.trb k j b ad).1,by rw[Kw];exact(h.fr.trb k j b ad).2⟩,fun bS j b ad=>?_,fun b o bk=>(ax.sh b o (h.fr.keep b o bk).1).trans (h.fr.sh b o bk)⟩ (fun m hm=>?_),?_⟩
 ·rw[Kw];rcases bk with bk|⟨bk,_⟩
  ·exact h.good.alt b j bk
  ·simp only[og,dL]at bk;omega
 ·obtain⟨b,cn,fT,g1,g2,g3,g4,g5⟩:=h.good.box j eH ae;have cF:b≠bl:=fun e=>h.good.obx k j o.n _ bl (by simp[ab]) (by simp[ae]) aF rfl (by rw[←e];exact g1);refine⟨b,cn,fT,g1,g2,fun i bk=>?_,by rw[nm b cF];exact g4,ql ax g5⟩;rcases bk with bk|⟨bk,_⟩
  ·exact g3 i bk
  ·simp only[og,dL]at bk;exact cF bk.symm
 ·simp only at dC;rw[iP]at dC;by_cases e:k=g
  ·rw[if_pos e]at dC;cases dC;subst e;refine⟨.slice (some ⟨bl,0,none⟩) (o.n+ys.length) cap,us++ns,by simp[bf.withRowOf],⟨by rw[o5,p6,jH,o8],.inr ⟨bl,cap,_,rfl,Nat.zero_le _,kA,rS,zG,?_,?_⟩⟩,fun b ad=>⟨?_,fun j bk=>?_⟩,fun ys aM=>by cases aM⟩
   ·simp only[List.size_toArray,o5,sw,Array.length_toList];omega
   ·have aw:(us++ns).length=(o.n+ys.length)*o.sz:=by rw[o5,p6,jH,o8]
    simp only[←aw];rw[List.take_append_of_le_length (eR _),mj]
   ·simp only[og,dL]at ad;subst ad;exact c0
   ·simp only[og,dL]at ad;subst ad;rcases bk with bk|⟨_,bk⟩
    ·have:=da j bk;simp only;rw[o8];omega
    ·exact bk
  ·rw[if_neg e]at dC;obtain⟨v0,fv,ak,aE,bj,c2⟩:=h.good.own g o' dC;have cF:∀b,v0.ownBlock=some b→b≠bl:=fun b ad I6=>e (h.good.oinj k g o.n o'.n _ v0 bl (by simp[ab]) (by simp[dC]) aF ak rfl (by rw[←I6];exact ad));have vL:∀b,v0.ownBlock=some b→∀j,(ν.withRowOf k (.slice (some ⟨bl,0,none⟩) (o.n+ys.length) cap) (o.n+ys.length) ((o.n+ys.length)*o.sz)).A b j→ν.A b j:=fun b ad j bk=>by
    rcases bk with bk|⟨bk,_⟩
    ·exact bk
    ·simp only[og,dL]at bk;exact absurd bk.symm (cF b ad)
   refine⟨v0,fv,by simp[bf.withRowOf,k6 e,ak],⟨aE.1,?_⟩,fun b ad=>⟨(bj b ad).1,fun j bk=>(bj b ad).2 j (vL b ad j bk)⟩,sd ax vL c2⟩;rcases aE.2 with aE|⟨bb,EW,mu,f1,f2,f3,f4⟩
   ·exact .inl aE
   ·exact .inr ⟨bb,EW,mu,f1,f2,by rw[nm bb (cF bb (by rw[f1];rfl))];exact f3,f4⟩
 ·rcases kV g J with rfl|⟨h2,gl,jg⟩<;>rcases kV eI U with rfl|⟨m1,m2,m3⟩
  ·rfl
  ·exfalso;simp only[bf.withRowOf,if_true,dL,jy]at ar;rw[m3]at ba;rw[←ar.2]at b4;simp only[og,dL]at b4;subst b4;exact m1 (h.good.oinj eI g n' o.n e8 _ bl m2 (by simp[ab]) ba aF c9 rfl)
  ·exfalso;simp only[bf.withRowOf,if_true,dL,jy]at ba;rw[jg]at ar;rw[←ba.2]at c9;simp only[og,dL]at c9;subst c9;exact h2 (h.good.oinj g eI n o.n u _ bl gl (by simp[ab]) ar aF b4 rfl)
  ·rw[jg]at ar;rw[m3]at ba;exact h.good.oinj g eI n n' u e8 b gl m2 ar ba b4 c9
 ·rcases kV g J with rfl|⟨h2,gl,jg⟩
  ·simp only[bf.withRowOf,if_true,dL,jy]at ar;rw[←ar.2]at ba;simp only[og,dL]at ba;subst ba;exact h.good.obx g j o.n _ bl (by simp[ab]) U aF rfl b4
  ·rw[jg]at ar;exact h.good.obx g j n u b gl U ar ba b4
 ·by_cases e:j=k
  ·subst e;rcases h.good.one j with J|J
   ·exact .inl J
   ·rw[J]at aF;cases aF
  ·rcases h.good.one j with J|J
   ·exact .inl J
   ·exact .inr (by simp[bf.withRowOf,e,J])
 ·rcases ad with ad|⟨g,n,u,bD,a2,a3⟩
  ·exact .inl ad
  ·rcases kV g bD with rfl|⟨h2,gl,jg⟩
   ·simp only[bf.withRowOf,if_true,dL,jy]at a2;rw[←a2.2]at a3;exact .inr ⟨g,_,_,by simp[ab],aF,a3⟩
   ·exact .inr ⟨g,n,u,gl,by rw[←jg];exact a2,a3⟩
 ·rw[nm j fun e=>by subst e;exact c0.elim hm (fun g2=>by omega)];exact h.fr.block j ae hm
 ·obtain⟨aU,bC⟩:=h.fr.keep b j bk;exact⟨.inl aU,(ax.A b j aU).2.trans bC⟩
 ·rcases bk with bk|⟨bk,_⟩
  ·exact h.fr.fresh b j bk
  ·simp only[og,dL]at bk;subst bk;exact .inr c0
 ·obtain⟨t1,t2⟩:=h.fr.trn bS j b ad;have cF:bS≠k:=fun e=>by subst e;rw[t2]at aF;cases aF
  exact⟨t1,by simp[bf.withRowOf,cF,t2]⟩
 ·obtain⟨aU,bC,cf⟩:=h.new m hm;refine⟨aU,?_,cf⟩;have:m≠k:=fun e=>by subst e;rw[bC]at aF;cases aF
  simp[bf.withRowOf,this,bC]
 ·simp only[bc];refine⟨⟨some ⟨bl,0,none⟩,cap,by simp[kj],by simp;omega,⟨zG,by simpa using eX⟩,.inr ⟨bl,0,us++ns,rfl,K5 _ 0 fun j u ae=>?_,DG (A0 ax au) (A0 ax zI)⟩⟩,fun e=>(by cases e),fun g e=>?_,fun _ _ e=>(by cases e),fun _ e=>(by cases e)⟩
  ·have zQ:=(e1.1 ae).1;rw[Nat.zero_add];refine⟨.inr ⟨rfl,?_⟩,aeM j u ae⟩;rw[o5,p6,jH]at zQ;rw[o8];exact zQ
  ·cases e;exact⟨o.n+ys.length,.slice (some ⟨bl,0,none⟩) (o.n+ys.length) cap,by simp[bf.withRowOf],by simp[kj],fun _=>rfl⟩
theorem Ho{P:cE}{w:World}{t ty e:fZ}{i:TypeInfo}(aK:P.underlying t=some (.slice e))(hi:P.info? e=some i)(b:aZ Addr)(n cap:Nat)(ay:n≤cap)(x:aZ Addr)(c:Nat):
  (Builtin.append_ #[t,t] ty #[.slice b n cap,.slice x 0 c]).run P w= .ok (.slice b n cap) w:=by
 cases b<;>cases x<;>simp[Builtin.append_,run_underlying aK,sizeOf,typeInfo,hi,Builtin.lenOf,ay,Builtin.firstCells,loadCells,loadCellsFrom,storeCells]
inductive eo where
 |v (d:Nat) (i:fS)
 |box (d:Nat) (key:aZ Nat) (x:dr)
 |alloc (d:Nat) (key:aZ Nat) (zero:ah)
 |store (sz:Nat) (x y:dr)
 |bsl (d:Nat) (sz el:Nat) (xs:List dr)
 |app (d:Nat) (sz el:Nat) (x y:dr)
 |bslm (d:Nat) (key:aZ Nat) (sz el:Nat) (xs:List dr)
 |appm (d:Nat) (key:aZ Nat) (sz el:Nat) (x y:dr)
 |mkmap (d:Nat) (key:aZ Nat)
 |mput (ch:jA) (x k v:dr)
 |range (d:Nat) (key:aZ Nat) (x:dr)
 |storeE (sz:Nat) (x y:dr)
 |mks (d:Nat) (key:aZ Nat) (sz el:Nat) (z:ah) (x:dr)
def jM(st:bs):aZ Nat→aI
 |none=>.loc st.n
 |some m=>.obj m
def qc(st:bs):aZ Nat→Prop
 |none=>.loc st.n∉st.o
 |some m=>.obj m∉st.o
def nv(st:bs):aZ Nat→Nat
 |none=>st.n+1
 |some _=>st.n
def nx(st:bs):aZ Nat→List aI
 |none=>st.o
 |some m=>.obj m::st.o
theorem wE{st:bs}{key:aZ Nat}(h:qc st key):fresh st.n st.o (jM st key):=by cases key<;>simp[jM,fresh,qc]at h⊢ <;>exact h
theorem wF{st:bs}{key:aZ Nat}:∀j,fresh (nv st key) (nx st key) j→fresh st.n st.o j∧j≠jM st key:=by
 intro j ae;cases key<;>cases j<;>simp[fresh,nv,nx,jM]at ae⊢
 ·exact⟨⟨by omega,ae.2⟩,by omega⟩
 ·exact ae
 ·exact ae
 ·exact⟨ae.2,ae.1⟩
def sD(sz:Nat):List ah→Prop
 |[]=>True
 |p::cx=>(ec p=true∧(cells p).length=sz)∧sD sz cx
def oO(ch:jA)(k v:ah):List ah→aZ (List ah)
 | .hdm clock borns::kvs=>if uO ch k=false then none else match u0 ch k v kvs with
  |some (some wz)=>some (.hdm clock borns::wz)
  |some none=>some (.hdm (clock+1) (borns++[clock])::(kvs++[k,v]))
  |none=>none
 |_=>none
def wR(m:aI):List ah→aZ (List ah)
 | .hdm clock _::_=>some [.hdi clock [] clock,.gmap m]
 |_=>none
def sE(st:bs)(sz el:Nat)(x y:ah):aZ ((aZ (aI×List ah))×List ah):=
 match x,y with
 | .slice dI .nil _,.slice jk _ ys=>if dI=sz∧jk=sz then some (none,ys)else none
 | .row dI k n,.slice jk _ ys=>if dI=sz∧jk=sz then
   match look k st.e with
   |some ⟨n',fT,wZ,some xs⟩=>if n'=n∧fT=el∧wZ=sz then some (some (k,xs),ys)else none
   |_=>none
  else none
 |_,_=>none
def mN:ah→Nat→List ah→ah
 | .agg eH,f,cs=>.agg (n3 eH f cs)
 |_,_,[q]=>q
 |_,_,_=>.junk
def q8(st:bs)(sz:Nat)(p v:ah):aZ (Prop×bs):=
 match p with
 | .rptr dI k n i f=>match look k st.e with
  |some ⟨n',el,jk,some xs⟩=>if n'=n∧jk=dI then
    match xs[i]? with
    |some q=>some (ec q=true∧ec v=true∧(cells v).length=sz∧f+sz≤(cells q).length∧0<sz,{st with e:=cB k ⟨n',el,jk,some (xs.set i (mN q f (cells v)))⟩ st.e})
    |none=>none
   else none
  |_=>none
 |_=>none
def mf(st:bs):eo→aZ (Prop×bs)
 | .mks d key sz el z x=>match cr st.t x with
  | .int _ n=>some (qc st key∧0≤n∧n≤lim,
    {t:=put d (.row sz (jM st key) n.toNat) st.t,b:=st.b,e:=cB (jM st key) ⟨n.toNat,el,sz,some (rk n.toNat z)⟩ st.e,n:=nv st key,o:=nx st key})
  |_=>none
 | .bslm d key sz el xs=>some (qc st key∧sD sz (xs.map (cr st.t)),
   {t:=put d (.row sz (jM st key) xs.length) st.t,b:=st.b,e:=cB (jM st key) ⟨xs.length,el,sz,some (xs.map (cr st.t))⟩ st.e,n:=nv st key,o:=nx st key})
 | .appm d key sz el x y=>match sE st sz el (cr st.t x) (cr st.t y)with
  |some (none,ys)=>some (qc st key∧ys.length≤lim∧ys≠[],
    {t:=put d (.row sz (jM st key) ys.length) st.t,b:=st.b,e:=cB (jM st key) ⟨ys.length,el,sz,some ys⟩ st.e,n:=nv st key,o:=nx st key})
  |some (some (k,xs),ys)=>some (xs.length+ys.length≤lim,{st with t:=put d (.row sz k (xs.length+ys.length)) st.t,e:=cB k ⟨xs.length+ys.length,el,sz,some (xs++ys)⟩ st.e})
  |none=>none
 | .mkmap d key=>some (qc st key,{t:=put d (.gmap (jM st key)) st.t,b:=cB (jM st key) [.hdm 0 []] st.b,e:=st.e,n:=nv st key,o:=nx st key})
 | .mput ch x k v=>match cr st.t x with
  | .gmap m=>match look m st.b with
   |some cs=>match oO ch (cr st.t k) (cr st.t v) cs with
    |some cs'=>some (True,{st with b:=cB m cs' st.b})
    |none=>none
   |none=>none
  |_=>none
 | .range d key x=>match cr st.t x with
  | .gmap m=>match look m st.b with
   |some cs=>match wR m cs with
    |some cs'=>some (qc st key,{t:=put d (.ptr (jM st key) 0) st.t,b:=cB (jM st key) cs' st.b,e:=st.e,n:=nv st key,o:=nx st key})
    |none=>none
   |none=>none
  |_=>none
 | .v d i=>match hj st i with
  |some (c,p)=>some (c,{st with t:=put d p st.t})
  |none=>none
 | .storeE sz x y=>q8 st sz (cr st.t x) (cr st.t y)
 | .box d key x=>some (qc st key∧ec (cr st.t x)=true,
   {t:=put d (.ptr (jM st key) 0) st.t,b:=cB (jM st key) (cells (cr st.t x)) st.b,e:=st.e,n:=nv st key,o:=nx st key})
 | .alloc d key z=>some (qc st key,{t:=put d (.ptr (jM st key) 0) st.t,b:=cB (jM st key) (cells z) st.b,e:=st.e,n:=nv st key,o:=nx st key})
 | .store sz x y=>match cr st.t x with
  | .ptr k off=>match look k st.b with
   |some cs=>some (hU cs=true∧ec (cr st.t y)=true∧(cells (cr st.t y)).length=sz∧off+sz≤cs.length,{st with b:=cB k (n3 cs off (cells (cr st.t y))) st.b})
   |none=>none
  |p=>q8 st sz p (cr st.t y)
 | .bsl d sz el xs=>some (qc st none∧sD sz (xs.map (cr st.t)),
   {st with t:=put d (.slice sz (.own (.loc st.n)) (xs.map (cr st.t))) st.t,e:=cB (.loc st.n) ⟨xs.length,el,sz,none⟩ st.e,n:=st.n+1})
 | .app d sz el x y=>match cr st.t x,cr st.t y with
  | .slice dI tag xs,.slice jk _ ys=>if dI=sz∧jk=sz then
    match tag with
    | .own k=>match look k st.e with
     |some o=>some (o.n=xs.length∧o.el=el∧o.sz=sz∧xs.length+ys.length≤lim,
       {st with t:=put d (.slice sz (.own k) (xs++ys)) st.t,e:=cB k ⟨xs.length+ys.length,el,sz,none⟩ st.e})
     |none=>none
    | .nil=>some (qc st none∧ys.length≤lim,{st with t:=put d (.slice sz (.own (.loc st.n)) ys) st.t,e:=cB (.loc st.n) ⟨ys.length,el,sz,none⟩ st.e,n:=st.n+1})
    |_=>none
   else none
  |_,_=>none
def eA(κ:aI)(n':Nat)(o':List aI)(st:bs):eo→aZ (Prop×bs)
 | .mks d _ sz el z x=>match cr st.t x with
  | .int _ n=>some (0≤n∧n≤lim,
    {t:=put d (.row sz κ n.toNat) st.t,b:=st.b,e:=cB κ ⟨n.toNat,el,sz,some (rk n.toNat z)⟩ st.e,n:=n',o:=o'})
  |_=>none
 | .bslm d _ sz el xs=>some (sD sz (xs.map (cr st.t)),
   {t:=put d (.row sz κ xs.length) st.t,b:=st.b,e:=cB κ ⟨xs.length,el,sz,some (xs.map (cr st.t))⟩ st.e,n:=n',o:=o'})
 | .appm d _ sz el x y=>match sE st sz el (cr st.t x) (cr st.t y)with
  |some (none,ys)=>some (ys.length≤lim∧ys≠[],
    {t:=put d (.row sz κ ys.length) st.t,b:=st.b,e:=cB κ ⟨ys.length,el,sz,some ys⟩ st.e,n:=n',o:=o'})
  |some (some (k,xs),ys)=>some (xs.length+ys.length≤lim,{st with t:=put d (.row sz k (xs.length+ys.length)) st.t,e:=cB k ⟨xs.length+ys.length,el,sz,some (xs++ys)⟩ st.e})
  |none=>none
 | .mkmap d _=>some (True,{t:=put d (.gmap κ) st.t,b:=cB κ [.hdm 0 []] st.b,e:=st.e,n:=n',o:=o'})
 | .mput ch x k v=>match cr st.t x with
  | .gmap m=>match look m st.b with
   |some cs=>match oO ch (cr st.t k) (cr st.t v) cs with
    |some cs'=>some (True,{st with b:=cB m cs' st.b})
    |none=>none
   |none=>none
  |_=>none
 | .range d _ x=>match cr st.t x with
  | .gmap m=>match look m st.b with
   |some cs=>match wR m cs with
    |some cs'=>some (True,{t:=put d (.ptr κ 0) st.t,b:=cB κ cs' st.b,e:=st.e,n:=n',o:=o'})
    |none=>none
   |none=>none
  |_=>none
 | .v d i=>match hj st i with
  |some (c,p)=>some (c,{st with t:=put d p st.t})
  |none=>none
 | .storeE sz x y=>q8 st sz (cr st.t x) (cr st.t y)
 | .box d _ x=>some (ec (cr st.t x)=true,{t:=put d (.ptr κ 0) st.t,b:=cB κ (cells (cr st.t x)) st.b,e:=st.e,n:=n',o:=o'})
 | .alloc d _ z=>some (True,{t:=put d (.ptr κ 0) st.t,b:=cB κ (cells z) st.b,e:=st.e,n:=n',o:=o'})
 | .store sz x y=>match cr st.t x with
  | .ptr k off=>match look k st.b with
   |some cs=>some (hU cs=true∧ec (cr st.t y)=true∧(cells (cr st.t y)).length=sz∧off+sz≤cs.length,{st with b:=cB k (n3 cs off (cells (cr st.t y))) st.b})
   |none=>none
  |p=>q8 st sz p (cr st.t y)
 | .bsl d sz el xs=>some (sD sz (xs.map (cr st.t)),
   {st with t:=put d (.slice sz (.own κ) (xs.map (cr st.t))) st.t,e:=cB κ ⟨xs.length,el,sz,none⟩ st.e,n:=n',o:=o'})
 | .app d sz el x y=>match cr st.t x,cr st.t y with
  | .slice dI tag xs,.slice jk _ ys=>if dI=sz∧jk=sz then
    match tag with
    | .own k=>match look k st.e with
     |some o=>some (o.n=xs.length∧o.el=el∧o.sz=sz∧xs.length+ys.length≤lim,
       {st with t:=put d (.slice sz (.own k) (xs++ys)) st.t,e:=cB k ⟨xs.length+ys.length,el,sz,none⟩ st.e})
     |none=>none
    | .nil=>some (ys.length≤lim,{st with t:=put d (.slice sz (.own κ) ys) st.t,e:=cB κ ⟨ys.length,el,sz,none⟩ st.e,n:=n',o:=o'})
    |_=>none
   else none
  |_,_=>none
def wJ:Nat→List dr→List (Nat×Operand)→Bool
 |_,[],[]=>true
 |i,x::xs,(j,o)::os=>i==j&&ek x o&&wJ (i+1) xs os
 |_,_,_=>false
def DP(N:Nat)(bB:List (Nat×dF))(i:eo)(o:Oper):Bool:=
 match i,o.op with
 | .mkmap d _,.makeMap _ none=>o.dst==some d&&decide (d<N)
 | .mput ch x k v,.mapUpdate t gU gM qk=>o.dst==none&&(match ef bB t with|some ⟨_,_,.map mJ _,_⟩=>yf bB ch mJ|_=>false)&&ek x gU&&ek k gM&&ek v qk
 | .mput ch x k v,.insert t gU gM qk=>o.dst==none&&(match ef bB t with|some ⟨_,_,.map mJ _,_⟩=>yf bB ch mJ|_=>false)&&ek x gU&&ek k gM&&ek v qk
 | .range d _ x,.range t gU=>o.dst==some d&&decide (d<N)&&(match ef bB t with|some ⟨_,_,.map _ _,_⟩=>true|_=>false)&&ek x gU
 | .v d i,op=>o.dst==some d&&decide (d<N)&&D3 bB i op
 | .box d _ x,.box _ o'=>o.dst==some d&&decide (d<N)&&ek x o'
 | .alloc d _ z,.alloc el=>o.dst==some d&&decide (d<N)&&(match ef bB el with|some f=>Bp z f.zero|none=>false)
 | .store sz x y,.store t o' jh=>o.dst==none&&(match ef bB t with|some f=>f.size==sz|none=>false)&&ek x o'&&ek y jh
 | .bsl d sz el xs,.buildSlice t len parts=>o.dst==some d&&decide (d<N)&&(match ef bB t with|some ⟨_,_,.slice fT,_⟩=>el==fT|_=>false)&&(match ef bB el with|some f=>f.size==sz&&decide (0<sz)|none=>false)
   &&len==xs.length&&decide (len*sz≤16777216)&&wJ 0 xs parts.toList
 | .app d sz el x y,.call ⟨.builtin .append,⟨[o',jh]⟩,⟨[t,dO]⟩⟩=>o.dst==some d&&decide (d<N)&&t==dO&&(match ef bB t with|some ⟨_,_,.slice fT,_⟩=>el==fT|_=>false)
   &&(match ef bB el with|some f=>f.size==sz&&decide (0<sz)&&decide (f.bytes≤2048)|none=>false)&&ek x o'&&ek y jh
 | .bslm d _ sz el xs,.buildSlice t len parts=>o.dst==some d&&decide (d<N)&&(match ef bB t with|some ⟨_,_,.slice fT,_⟩=>el==fT|_=>false)&&(match ef bB el with|some f=>f.size==sz&&decide (0<sz)|none=>false)
   &&len==xs.length&&decide (len*sz≤16777216)&&wJ 0 xs parts.toList
 | .appm d _ sz el x y,.call ⟨.builtin .append,⟨[o',jh]⟩,⟨[t,dO]⟩⟩=>o.dst==some d&&decide (d<N)&&t==dO&&(match ef bB t with|some ⟨_,_,.slice fT,_⟩=>el==fT|_=>false)
   &&(match ef bB el with|some f=>f.size==sz&&decide (0<sz)&&decide (f.bytes≤2048)|none=>false)&&ek x o'&&ek y jh
 | .storeE sz x y,.store t o' jh=>o.dst==none&&(match ef bB t with|some f=>f.size==sz|none=>false)&&ek x o'&&ek y jh
 | .mks d _ sz el z x,.makeSlice t o' jh=>o.dst==some d&&decide (d<N)&&(match ef bB t with|some ⟨_,_,.slice fT,_⟩=>el==fT|_=>false)
   &&(match ef bB el with|some f=>f.size==sz&&decide (0<sz)&&decide (f.bytes≤2048)&&Bp z f.zero|none=>false)&&ek x o'&&ek x jh
 |_,_=>false
theorem WW{w:World}{ν:bf}{C:fh}{st:bs}{a:Act}(aJ:cU C st a w ν){sz:Nat}:
  ∀(xs:List dr) (i:Nat) (os:List (Nat×Operand)) (pre:List ah) (us:Array Value) (aV:List Value),wJ i xs os=true→sD sz (xs.map (cr st.t))→us.toList.take (i*sz)=aV→dB w ν sz pre aV→i=pre.length→us.size=(i+xs.length)*sz→
  ∃cn:Array Value,Instr.fill (fun i=>some (i*sz,sz)) us (os.map fun(x:Nat×Operand)=>(x.1,a.eval x.2))=some cn∧dB w ν sz (pre++xs.map (cr st.t)) cn.toList∧cn.size=us.size
 |[],i,[],pre,us,aV,_,_,aF,h,hi,ag=>by refine⟨us,by simp[Instr.fill],?_,rfl⟩;have aw:=tt h;have:us.toList.take (i*sz)=us.toList:=hG (by simp at ag⊢;omega);rw[this]at aF;simpa[aF]using h
 |[],_,_::_,_,_,_,eY,_,_,_,_,_=>by simp[wJ]at eY
 |_::_,_,[],_,_,_,eY,_,_,_,_,_=>by simp[wJ]at eY
 |x::xs,i,(j,o)::os,pre,us,aV,eY,bz,aF,h,hi,ag=>by
  simp only[wJ,cC,dQ]at eY;obtain⟨⟨rfl,J⟩,U⟩:=eY;simp only[gO,sD]at bz;obtain⟨⟨lh,hlen⟩,bz⟩:=bz;have af:=en aJ J;have lE:=vc af lh;have zH:=pL lE;have dn:(a.eval o).cells.size=sz:=by rw[hlen]at zH;simpa using zH
  have hmul:i*sz+sz≤us.size:=by rw[ag,o6,show i+(xs.length+1)=(i+1)+xs.length from by omega,o8,Nat.succ_mul];omega
  have x5:=Jx (w:=w) (ν:=ν) (a.eval o).cells.toList 0 (i*sz) us (by simp[dn];omega);have hc:dB w ν sz (pre++[cr st.t x]) (aV++(a.eval o).cells.toList):=by refine DG h ?_;simp only[dB];exact⟨a.eval o,[],by simp,⟨af,dn,A2 lE⟩,rfl⟩
  have ju:aV.length=i*sz:=by rw[←aF];simp;omega
  obtain⟨cn,g1,g2,g3⟩:=WW aJ xs (i+1) os (pre++[cr st.t x]) (((a.eval o).cells.toList.zipIdx 0).foldl (fun cs (x:Value×Nat)=>cs.setIfInBounds (i*sz+x.2) x.1) us) (aV++(a.eval o).cells.toList) U bz
   (by
    rw[x5];simp only[Nat.add_zero];rw[aF];have:(aV++(a.eval o).cells.toList).length=(i+1)*sz:=by rw[o5,ju,Nat.succ_mul];simp[dn]
    rw[←this,List.take_append_of_le_length (eR _),mj]) hc (by simp[hi])
   (by have bn:=eB List.length x5;simp only[Array.length_toList,o5,List.length_take,sw,dn]at bn;rw[bn,ag,o6,show i+(xs.length+1)=i+1+xs.length from by omega];rw[ag,o6,show i+(xs.length+1)=i+1+xs.length from by omega]at hmul;omega)
  refine⟨cn,?_,by simpa using g2,?_⟩
  ·simp only[gO,Instr.fill];rw[if_neg (by simp[dn];omega),←g1];congr 1;rw[←Array.foldl_toList];simp
  ·rw[g3];have bn:=eB List.length x5;simp only[Array.length_toList,o5,List.length_take,sw,dn]at bn;rw[bn];omega
theorem mi{P:cE}{o:Oper}{a:Act}{w w':World}{v:Value}{K:Act→World→Prop}{Q:Exit→Act→World→Prop}(h:(execOp a.eval o).run P w= .ok (.value v) w')(ab:K (a.put o.dst v) w'):o.wp P a w K Q:=by unfold Oper.wp;rw[h];exact ab
theorem Ec{P:cE}{o:Oper}{a:Act}{w w':World}{K:Act→World→Prop}{Q:Exit→Act→World→Prop}(h:(execOp a.eval o).run P w= .ok .skip w')(ab:K (a.put o.dst undef) w'):o.wp P a w K Q:=by unfold Oper.wp;rw[h];exact ab
theorem D7{P:cE}{w w':World}{x:Sem Value}{v:Value}(h:x.run P w= .ok v w'):(do pure (Next.value (←x)):Sem Next).run P w= .ok (.value v) w':=by simp[h]
theorem WU{P:cE}{bB:List (Nat×dF)}(aK:fP P bB=true){C:fh}{st:bs}{a:Act}{w:World}{ν:bf}(aJ:cU C st a w ν){t el:Nat}{f g:dF}(aL:ef bB t=some f)(ab:f.kind= .slice el)(a7:ef bB el=some g)
  {xs:List dr} {os:List (Nat×Operand)} (eY:wJ 0 xs os=true) (ee:sD g.size (xs.map (cr st.t))) (hlen:xs.length*g.size≤16777216):
  ∃us:Array Value,(Instr.buildSlice t xs.length (os.map fun(x:Nat×Operand)=>(x.1,a.eval x.2)).toArray).run P w= .ok (.slice (some ⟨w.heap.size,0,none⟩) xs.length xs.length) (w.alloc (.cells us el))∧
   dB w ν g.size (xs.map (cr st.t)) us.toList∧us.size=xs.length*g.size:=by
 obtain⟨d,aQ,eW⟩:=iS aK aL;rw[ab]at eW;obtain rfl:=sG eW;obtain⟨_,ag⟩:=vn aK a7 w;obtain⟨z,x9,ap2,ap3⟩:=Nf aK a7 w;have ay:¬xs.length*g.size>2 ^ 24:=by omega
 let init:Array Value:=if xs.length*g.size=0 then(Array.range (xs.length*g.size)).map ((#[]:Array Value)[· %(#[]:Array Value).size]!)else(Array.range (xs.length*g.size)).map (z.cells[· %z.cells.size]!)
 have SI:init.size=xs.length*g.size:=by simp only[init];split<;>simp
 obtain⟨cn,g1,g2,g3⟩:=WW (a:=a) aJ xs 0 os [] init [] eY ee (by simp) (by simp[dB]) rfl (by rw[SI];simp);refine⟨cn,?_,by simpa using g2,by rw[g3,SI]⟩;simp only[init]at g1;by_cases bn:xs.length*g.size=0
 ·rw[if_pos bn]at g1;rw[bn]at g1;have aet:¬(0:Nat)>2 ^ 24:=by decide
  simp only[Instr.buildSlice,fH,run_underlying aQ,fL,ag,if_false,gy,bn,if_true,aet,g1,newRow,run_newObj];rfl
 ·rw[if_neg bn]at g1;simp only[Instr.buildSlice,fH,run_underlying aQ,fL,ag,ay,if_false,gy,bn,x9,g1,newRow,run_newObj];rfl
theorem Df{P:cE}{w:World}{ν:bf}{ch:jA}{t:fZ}(aQ:tP P ch t){k v:ah}{gS NC:Value}(ab:bc w ν k gS)(aF:bc w ν v NC):
  ∀(borns:List Nat) (kvs:List ah) (us:List Value) (i:Nat) (r:aZ (List ah)),cQ w ν kvs us→kvs.length=2*borns.length→u0 ch k v kvs=some r→
  match r with
  |none=>hW P w ch t gS (fA borns us) i none
  |some wz=> ∃j u cn e,hW P w ch t gS (fA borns us) i (some (i+j,u))∧cQ w ν wz cn∧wz.length=kvs.length∧(fA borns us)[j]? =some e∧e.key=gS∧Instr.sameBits 10000 e.key gS=true∧fA borns cn=(fA borns us).modify j (fun e=>{e with key:=gS,val:=NC})
 |[],[],us,i,r,h,_,hm=>by simp only[u0]at hm;cases hm;simp only[cQ]at h;subst h;simpa[fA]using hW.nil P w ch t gS i
 |[],_::_,_,_,_,_,aw,_=>by simp at aw
 |b::eO,[],_,_,_,_,aw,_=>by simp at aw
 |b::eO,[_],_,_,_,_,aw,_=>by simp at aw;omega
 |b::eO,bS::v'::kvs,us,i,r,h,aw,hm=>by
  simp only[cQ]at h;obtain⟨iU,Nl,rfl,J,jx,sk,rfl,U,ar⟩:=h;simp only[u0]at hm;simp only[fA];cases bo:te ch k bS with
  |none=>simp[bo]at hm
  |some bb=>
   obtain⟨s1,s2⟩:=TY aQ ab J bo;simp only[bo]at hm;cases bb with
   |true=>simp only[dL]at hm;subst hm;obtain⟨rfl,s3⟩:=s2 rfl;refine⟨0,jx,iU::NC::sk,⟨iU,jx,b⟩,hW.hit (e:=⟨iU,jx,b⟩) s1,?_,by simp,by simp,rfl,s3,by simp[fA]⟩;simp only[cQ];exact⟨_,_,rfl,ab,_,_,rfl,aF,ar⟩
   |false=>
    simp only at hm;have bO:=fun eF dH=>Df aQ ab aF eO kvs sk (i+1) eF ar (by simp at aw;omega) dH;split at hm
    ·rename_i eF dH;cases hm;obtain⟨j,u,cn,e,g1,g2,g3,g4,g5,g6,g7⟩:=bO _ dH;refine⟨j+1,u,iU::jx::cn,e,hW.miss (e:=⟨iU,jx,b⟩) s1 (by rw[show i+(j+1)=i+1+j from by omega];exact g1),?_,by simp[g3],by simpa using g4,g5,g6,by simp[fA,g7]⟩;simp only[cQ];exact⟨_,_,rfl,J,_,_,rfl,U,g2⟩
    ·rename_i dH;cases hm;exact hW.miss (e:=⟨iU,jx,b⟩) s1 (bO _ dH)
    ·cases hm
theorem I9:∀(borns:List Nat) (us:List Value) (b:Nat) (k v:Value),us.length=2*borns.length→fA (borns++[b]) (us++[k,v])=fA borns us++[⟨k,v,b⟩]
 |[],us,b,k,v,h=>by have:us=[]:=List.eq_nil_of_length_eq_zero (by simpa using h);subst this;simp[fA]
 |b5::eO,[],b,k,v,h=>by simp at h
 |b5::eO,[_],b,k,v,h=>by simp at h;omega
 |b5::eO,bS::v'::us,b,k,v,h=>by simp only[bX,fA,I9 eO us b k v (by simp at h;omega)]
theorem MF{w:World}{ν:bf}:∀{cx bT:List ah} {aV us:List Value},cQ w ν cx aV→cQ w ν bT us→cQ w ν (cx++bT) (aV++us)
 |[],bT,aV,us,h,cb=>by simp only[cQ]at h;subst h;simpa using cb
 |p::cx,bT,aV,us,h,cb=>by simp only[cQ]at h;obtain⟨u,cn,rfl,J,U⟩:=h;simp only[bX,cQ];exact⟨u,_,rfl,J,MF U cb⟩
theorem Hj{w:World}{ν:bf}:∀{cx:List ah} {aV:List Value},cQ w ν cx aV→aV.length=cx.length
 |[],aV,h=>by simp only[cQ]at h;subst h;rfl
 |p::cx,aV,h=>by simp only[cQ]at h;obtain⟨u,cn,rfl,_,U⟩:=h;simp[Hj U]
theorem DO{P:cE}{w:World}{r:Nat}{o o':Obj}(ad:w.heap[r]? =some o)(ay:∀c e f,o≠ .cells c e f:=by simp):(setObj r o').run P w= .ok () {w with heap:=w.heap.setIfInBounds r o'}:=by simp only[setObj,Sem.run,ad]
def eo.makes(st:bs):eo→Bool
 | .box _ _ _| .alloc _ _ _| .bsl _ _ _ _| .bslm _ _ _ _ _| .mkmap _ _| .range _ _ _| .mks _ _ _ _ _ _=>true
 | .appm _ _ _ _ x _=>match cr st.t x with
  | .slice _ .nil _=>true
  |_=>false
 | .app _ _ _ x _=>match cr st.t x with
  | .slice _ .nil _=>true
  |_=>false
 |_=>false
theorem cU.forgetRow{C:fh}{st:bs}{a:Act}{w:World}{ν:bf}(aJ:cU C st a w ν){k:aI}{ow:fN}(ab:look k st.e=some ow):cU C {st with e:=cB k ⟨ow.n,ow.el,ow.sz,none⟩ st.e} a w ν:=by
 have h1:∀g,(look g (cB k ⟨ow.n,ow.el,ow.sz,none⟩ st.e)).isSome→(look g st.e).isSome:=fun g a7=>by
  rw[iP]at a7;split at a7
  ·rename_i e;subst e;simp[ab]
  ·exact a7
 refine⟨⟨aJ.good.alt,aJ.good.box,aJ.good.inj,fun g o a7=>?_,fun g eI n n' v v' bl bD a2=>aJ.good.oinj g eI n n' v v' bl (h1 g bD) (h1 eI a2),fun g j n v bl bD=>aJ.good.obx g j n v bl (h1 g bD),aJ.good.one,fun bl ad=>aJ.good.otr bl (ad.imp id (fun⟨g,n,v,bD,a2⟩=>⟨g,n,v,h1 g bD,a2⟩))⟩,aJ.fr,aJ.defers,aJ.size,aJ.slot,aJ.new⟩;simp only at a7;rw[iP]at a7;split at a7
 ·rename_i e;subst e;cases a7;obtain⟨v,us,a8,bF,b0,_⟩:=aJ.good.own k ow ab;exact⟨v,us,a8,bF,b0,fun xs af=>by cases af⟩
 ·exact aJ.good.own g o a7
theorem Vt{w:World}{base el sz n:Nat}{v:Value}{us:List Value}(h:w.ownsRow base el sz v n us)(ay:0<n):∃b cap,v= .slice (some ⟨b,0,none⟩) n cap:=by
 rcases h.2 with⟨ak,aE⟩|⟨bb,cap,cur,f1,_⟩
 ·omega
 ·exact⟨_,_,f1⟩
theorem Hf{w:World}{ν:bf}{sz:Nat}:∀{xs:List ah} {us:List Value} {i:Nat} {q gx:ah} {e8:Value},dB w ν sz xs us→xs[i]? =some q→bc w ν gx e8→e8.cells.size=sz→(∀c∈e8.cells.toList,c.oneCell'=true)→dB w ν sz (xs.set i gx) (us.take (i*sz)++e8.cells.toList++us.drop (i*sz+sz))
 |[],_,_,_,_,_,_,bo,_,_,_=>by simp at bo
 |x::xs,us,0,q,gx,e8,h,bo,aJ,ag,ax=>by
  simp only[dB]at h;obtain⟨u,cn,rfl,⟨J,U,ar⟩,b4⟩:=h;have aw:u.cells.toList.length=sz:=by simpa using U
  simp only[List.set_cons_zero,dB];refine⟨e8,cn,?_,⟨aJ,ag,ax⟩,b4⟩;simp[←aw]
 |x::xs,us,i+1,q,gx,e8,h,bo,aJ,ag,ax=>by
  simp only[dB]at h;obtain⟨u,cn,rfl,⟨J,U,ar⟩,b4⟩:=h;have aw:u.cells.toList.length=sz:=by simpa using U
  have bO:=Hf b4 (by simpa using bo) aJ ag ax;simp only[List.set_cons_succ,dB];refine⟨u,_,?_,⟨J,U,ar⟩,bO⟩;have e:(i+1)*sz+sz=u.cells.toList.length+(i*sz+sz):=by rw[aw,Nat.succ_mul];omega
  rw[Xp _ _ _ _ aw,e,←List.drop_drop];simp
theorem alw{w:World}{ν:bf}{q:ah}{v:Value}(bo:bc w ν q v)(ag:ec q=true){cs:List ah}{us:List Value}(au:c7 w ν cs us){f:Nat}(aL:f+us.length≤v.cells.size)(cF:us≠[]):
  ∃v',bc w ν (mN q f cs) v'∧v'.cells.toList=v.cells.toList.take f++us++v.cells.toList.drop (f+us.length)∧v'.cells.size=v.cells.size∧∀c∈v'.cells.toList,c.oneCell'=true:=by
 have hlen:=pL au;have lA:=vc bo ag;by_cases bz:∃eH,q= .agg eH
 ·obtain⟨eH,rfl⟩:=bz;simp only[bc]at bo;obtain⟨aV,rfl,kX⟩:=bo;simp only[pR]at aL⊢;have kA:c7 w ν (n3 eH f cs) (aV.toList.take f++us++aV.toList.drop (f+us.length)):=by unfold n3;rw[hlen];exact yF (yF (DI f kX) au) (A1 _ kX)
  refine⟨.agg (aV.toList.take f++us++aV.toList.drop (f+us.length)).toArray,by simp only[mN,bc];exact⟨_,rfl,by simpa using kA⟩,by simp[pR],?_,fun c hy=>?_⟩
  ·simp[pR];omega
  ·exact A2 kA c (by simpa[pR]using hy)
 ·have nf:∀cs,q≠ .agg cs:=fun cs e=>bz ⟨cs,e⟩;obtain⟨J,U⟩:=MG bo ag nf;rw[U]at aL⊢;match us,cF,au with
  |u::cn,_,au=>
   simp at aL;obtain⟨rfl,rfl⟩:f=0∧cn=[]:=⟨by omega,List.length_eq_zero_iff.1 (by omega)⟩;match cs,au,hlen with
   |[c],au,_=>
    simp only[c7]at au;obtain⟨w5,fv,ak,⟨JZ,Sw⟩,_⟩:=au;cases ak;have hu:u.cells= #[u]:=by cases u<;>first|rfl|cases Sw
    have zZ:mN q 0 [c]=c:=by cases q<;>first|rfl|exact absurd rfl (nf _)
    rw[zZ];refine⟨u,JZ,by simp[hu],by simp[hu],fun c hy=>?_⟩;rw[hu]at hy;simp at hy;subst hy;exact Sw
theorem al7{α:Type}(A us:List α)(a f sz N:Nat)(J:f+us.length≤sz)(U:a+sz≤N)(ar:N≤A.length):
  ((A.take (a+f)++us++A.drop (a+f+us.length)).toArray.toList).take N=(A.take N).take a++((((A.take N).drop a).take sz).take f++us++(((A.take N).drop a).take sz).drop (f+us.length))++(A.take N).drop (a+sz):=by
 have ak:(A.take N).take a++(((A.take N).drop a).take sz).take f=A.take (a+f):=by rw[List.take_take (i:=f),Nat.min_eq_left (show f≤sz by omega),←List.take_add,List.take_take,Nat.min_eq_left (by omega)]
 have aE:(((A.take N).drop a).take sz).drop (f+us.length)++(A.take N).drop (a+sz)=(A.take N).drop (a+f+us.length):=by
  have aw:f+us.length≤(((A.take N).drop a).take sz).length:=by simp;omega
  have fo:(A.take N).drop (a+sz)=((A.take N).drop a).drop sz:=by rw[List.drop_drop]
  rw[fo,←List.drop_append_of_le_length aw,List.take_append_drop,List.drop_drop];congr 1;omega
 have bj:(A.take N).drop (a+f+us.length)=(A.drop (a+f+us.length)).take (N-(a+f+us.length)):=by rw[List.drop_take]
 have aw:(A.take (a+f)++us).length=a+f+us.length:=by simp;omega
 simp only[List.append_assoc]at*;rw[aE,bj,←List.append_assoc (lY a _),ak];have oB:N=(A.take (a+f)++us).length+(N-(a+f+us.length)):=by rw[aw];omega
 rw[←List.append_assoc,←List.append_assoc];conv=>lhs;rw[oB,List.take_length_add_append]
theorem cU.storeRow{P:cE}{C:fh}{st:bs}{a:Act}{w:World}{ν:bf}(h:cU C st a w ν){k:aI}{n el sz:Nat}{xs:List ah}(ab:look k st.e=some ⟨n,el,sz,some xs⟩){i f:Nat}{u:Value}(af:bc w ν (.rptr sz k n i f) u){q:ah}(bo:xs[i]? =some q)(ag:ec q=true)
  {cs:List ah} {us:List Value} (au:c7 w ν cs us) (aL:f+us.length≤(cells q).length) (cF:us≠[]):
  ∃bl off mu,u= .pointer (some ⟨bl,off,none⟩)∧(storeCells ⟨bl,off,none⟩ us).run P w= .ok () (w.setRow bl mu)∧∃bq,cU C {st with e:=cB k ⟨n,el,sz,some (xs.set i (mN q f cs))⟩ st.e} a (w.setRow bl mu) bq:=by
 simp only[bc]at af;obtain⟨_,hi,n',e8,J,U,ar⟩:=af;obtain⟨v,fv,a8,bF,b0,c0⟩:=h.good.own k _ ab;rw[J]at a8;simp only[dL,jy]at a8;obtain⟨rfl,rfl⟩:=a8;obtain⟨bl,ad,rfl⟩:=ar rfl;obtain⟨da,nZ,u5⟩:=c0 xs rfl;simp only at da nZ;obtain⟨v,dM,ff,k0⟩:=Hd i nZ bo;have zH:=pL (vc dM ag);have afL:(cells q).length=sz:=by rw[←zH];simpa using ff
 have ld:f+us.length≤sz:=by rw[←afL];exact aL
 have hmul:i*sz+sz≤n'*sz:=by have:=qv sz (show i+1≤n' from hi);rwa[Nat.succ_mul]at this
 rcases bF.2 with⟨ak,aE⟩|⟨g,cap,cur,rfl,vO,J9,Ki,aeO,dn,Tk⟩
 ·rw[ak]at ad;simp[og]at ad
 simp only[og,dL]at ad;subst ad;simp only at Tk dn Ki J9;have zG:n'*sz≤cur.size:=by rw[dn];exact qv sz Ki
 have dd:=run_storeCells_at P g (i*sz+f) el us 0 cur w J9 (by omega) (A2 au);simp only[Nat.add_zero]at dd;refine⟨g,i*sz+f,_,rfl,dd,?_⟩;generalize xN:(cur.toList.take (i*sz+f)++us++cur.toList.drop (i*sz+f+us.length)).toArray=mu;obtain⟨v',cP,dt,iR,u2⟩:=alw dM ag au (f:=f) (by rw[ff];exact ld) cF;have mA:=Hf nZ bo cP (by rw[iR,ff]) u2;have hlen:fv.length=n'*sz:=bF.1;have afy:mu.toList.take (n'*sz)=fv.take (i*sz)++v'.cells.toList++fv.drop (i*sz+sz):=by rw[←xN,dt,k0,←Tk];exact al7 cur.toList us (i*sz) f sz (n'*sz) ld hmul (by simpa using zG)
 have aeQ:mu.size=cap*sz:=by rw[←xN,←dn];simp;omega
 have apU:(xs.set i (mN q f cs)).length=n':=by simp[da]
 obtain⟨aj7,_,_⟩:=h.setRowM (w':=w.setRow g mu) ab rfl J (bl:=g) rfl (v':= .slice (some ⟨g,0,none⟩) n' cap) rfl (xs':=xs.set i (mN q f cs)) (us:=fv.take (i*sz)++v'.cells.toList++fv.drop (i*sz+sz)) (.inl ⟨by simp[da],rfl⟩) rfl rfl rfl (fun j ae=>setRow_other w g j mu ae) (setRow_size w g mu)
  ⟨by rw[tt mA],.inr ⟨g,cap,mu,by simp[da],Nat.zero_le _,setRow_heap w g cur mu el _ J9,by simpa[da]using Ki,aeO,aeQ,by simpa[da]using afy⟩⟩ mA
 exact⟨_,by simpa[da]using aj7⟩
theorem ahh(z:Array Value)(n:Nat)(h:0<z.size):(madeCells z ((n+1)*z.size)).toList=z.toList++(madeCells z (n*z.size)).toList:=by
 apply List.ext_getElem?;intro j;rw[List.getElem?_append];have he:(n+1)*z.size=n*z.size+z.size:=by rw[o8,Nat.one_mul]
 simp only[madeCells,tL,Array.length_toList,Array.getElem?_map];by_cases ae:j<z.size
 ·rw[if_pos ae,Array.getElem?_range,if_pos (by omega)];simp[Nat.mod_eq_of_lt ae,ae]
 ·rw[if_neg ae,Array.getElem?_range,Array.getElem?_range];by_cases ab:j<n*z.size+z.size
  ·rw[if_pos (by omega),if_pos (by omega)];simp only[oh];rw[←Nat.mod_eq_sub_mod (by omega)]
  ·rw[if_neg (by omega),if_neg (by omega)]
theorem UD{w:World}{ν:bf}{p:ah}{z:Value}(aJ:bc w ν p z)(h:0<z.cells.size)(ax:∀c∈z.cells.toList,c.oneCell'=true):∀n,dB w ν z.cells.size (rk n p) (madeCells z.cells (n*z.cells.size)).toList
 |0=>by simp[dB,madeCells]
 |n+1=>by rw[ahh _ _ h];simp only[List.replicate_succ,dB];exact⟨z,_,rfl,⟨aJ,rfl,ax⟩,UD aJ h ax n⟩
theorem jO{P:cE}{bB:List (Nat×dF)}(aK:fP P bB=true){C:fh}{st st':bs}{a:Act}{w:World}{ν:bf}(aJ:cU C st a w ν){i:eo}{o:Oper}(ax:DP C.N bB i o=true)
  {κ:aI} {n':Nat} {o₁:List aI} (uy:i.makes st=true→fresh st.n st.o κ) (ct:i.makes st=true→∀j,fresh n' o₁ j→fresh st.n st.o j∧j≠κ) {c:Prop} (he:eA κ n' o₁ st i=some (c,st')) (au:c) {K:Act→World→Prop} {Q:Exit→Act→World→Prop} (c3:∀bp w' bq,cU C st' bp w' bq→K bp w'):o.wp P a w K Q:=by
 obtain⟨dst,op,type,pos,after,guard⟩:=o;unfold DP at ax;dsimp only at ax;split at ax
 ·rename_i d key t;simp only[cC,dQ,e2]at ax;obtain⟨rfl,U⟩:=ax;simp only[eA]at he;cases he;obtain⟨g1,g2⟩:=aJ.newBox (aJ.new _ (uy rfl)) (ct rfl) (cs:=[.hdm 0 []]) (us:= #[]) 0 (by simp only[ji];exact⟨by simp[cQ],⟨rfl,by simp,by simp⟩⟩);refine mi (v:= .map (some w.heap.size)) (w':=w.alloc (.map #[] 0)) ?_ (c3 _ _ _ (g1.put (d:=some d) (by simpa[jo]using U) (p:= .gmap κ) ?_))
  ·simp only[execOp,Instr.makeMap,Option.map_none,fH,run_newObj,fL,gy];rfl
  ·simp[bc,bf.withBox]
 ·rename_i ch x k v t gU gM qk;simp only[cC,dQ]at ax;obtain⟨⟨⟨⟨rfl,J⟩,U⟩,ar⟩,ba⟩:=ax;have rx:=en aJ U;have vf:=en aJ ar;have yL:=en aJ ba;split at J
  ·rename_i sz k9 mJ pq z aL;obtain⟨cG,hu,eW⟩:=iS aK aL;have sS:cG= .map mJ pq:=by cases cG<;>simp[kf]at eW;obtain⟨rfl,rfl⟩:=eW;rfl
   subst sS;have l5:=KY aK J;simp only[eA]at he;split at he
   ·rename_i m af;rw[af]at rx;simp only[bc]at rx;obtain⟨bl,cl,b8⟩:=rx;split at he
    ·rename_i cs dn;split at he
     ·rename_i cs' hm;cases he;obtain⟨iw,us,el,a8,bF,b0,c0,da⟩:=aJ.good.box m cs dn;rw[cl]at a8;cases a8;unfold oO at hm;split at hm
      ·rename_i clock borns kvs;split at hm
       ·cases hm
       rename_i vU;simp only[jN]at c0;simp only[ji]at da;have hb:=vh (P:=P) c0;have vP:=MJ (P:=P) (w:=w) l5 false vf (by simpa using vU);have bE:bl<w.heap.size:=(Array.getElem?_eq_some_iff.1 c0).1;have dx:∀(o':Obj) (cn:Array Value) (eH:List ah),(Instr.mapUpdate t (a.eval gU) (a.eval gM) (a.eval qk)).run P w= .ok () {w with heap:=w.heap.setIfInBounds bl o'}→jN eH cn el=o'→ji w ν eH cn.toList→some eH=some cs'→
         (⟨none,.mapUpdate t gU gM qk,type,pos,after,guard⟩:Oper).wp P a w K Q:=by
        intro o' cn eH iN Cw mA iK;cases iK;refine Ec (w':={w with heap:=w.heap.setIfInBounds bl o'}) ?_ (c3 _ _ _ (aJ.setBox (w':={w with heap:=w.heap.setIfInBounds bl o'}) dn cl (us:=cn) (el:=el) rfl rfl rfl (fun j ae=>?_) (by simp) ?_ mA).1)
        ·simp only[execOp,iN,fH,fL,gy]
        ·exact Array.getElem?_setIfInBounds_ne (k6 ae)
        ·rw[Cw];simp[bE]
       split at hm
       ·rename_i wz uF;obtain⟨j,u,cn,e,f1,f2,f3,f4,f5,f6,f7⟩:=Df l5 vf yL borns kvs us.toList 0 _ da.1 da.2.len uF;refine dx (.map (fA borns cn).toArray clock) cn.toArray (.hdm clock borns::wz) ?_ (by simp[jN]) (by simp only[ji];exact⟨by simpa using f2,⟨by rw[f3];exact da.2.len,da.2.inc,da.2.lt⟩⟩) hm;have Kz:(Instr.keyThatStays (((fA borns us.toList).toArray[j]?.map (·.key)).getD (a.eval gM)) (a.eval gM)).run P w= .ok (a.eval gM) w:=by
         have:((fA borns us.toList).toArray[j]?.map (·.key)).getD (a.eval gM)=e.key:=by simp[f4]
         rw[this];simp[Instr.keyThatStays,f6]
        simp only[Nat.zero_add]at f1;simp only[Instr.mapUpdate,fH,run_underlying hu,fL,b8,hb,vP,f1.run l5,gy,Kz,DO c0];rw[f7];simp
       ·rename_i uF;have f1:=Df l5 vf yL borns kvs us.toList 0 _ da.1 da.2.len uF;simp only at f1;have p6:us.toList.length=2*borns.length:=by rw[Hj da.1,da.2.len]
        refine dx (.map ((fA borns us.toList).toArray.push ⟨a.eval gM,a.eval qk,clock⟩) (clock+1)) (us.toList++[a.eval gM,a.eval qk]).toArray (.hdm (clock+1) (borns++[clock])::(kvs++[cr st.t k,cr st.t v])) ?_ (by simp only[jN,I9 borns us.toList clock _ _ p6];simp) ?_ hm
        ·simp only[Instr.mapUpdate,fH,run_underlying hu,fL,b8,hb,vP,f1.run l5,gy,DO c0]
        ·simp only[ji];refine⟨MF da.1 (by simp only[cQ];exact⟨_,_,rfl,vf,_,_,rfl,yL,rfl⟩),⟨by simp[da.2.len];omega,?_,?_⟩⟩
         ·rw[List.pairwise_append];exact⟨da.2.inc,by simp,fun x af y aM=>by simp at aM;subst aM;exact da.2.lt x af⟩
         ·intro b ad;rcases kQ.1 ad with ad|ad
          ·have:=da.2.lt b ad;omega
          ·simp at ad;omega
       ·cases hm
      ·cases hm
     ·cases he
    ·cases he
   ·cases he
  ·cases J
 ·rename_i ch x k v t gU gM qk;simp only[cC,dQ]at ax;obtain⟨⟨⟨⟨rfl,J⟩,U⟩,ar⟩,ba⟩:=ax;have rx:=en aJ U;have vf:=en aJ ar;have yL:=en aJ ba;split at J
  ·rename_i sz k9 mJ pq z aL;obtain⟨cG,hu,eW⟩:=iS aK aL;have sS:cG= .map mJ pq:=by cases cG<;>simp[kf]at eW;obtain⟨rfl,rfl⟩:=eW;rfl
   subst sS;have l5:=KY aK J;simp only[eA]at he;split at he
   ·rename_i m af;rw[af]at rx;simp only[bc]at rx;obtain⟨bl,cl,b8⟩:=rx;split at he
    ·rename_i cs dn;split at he
     ·rename_i cs' hm;cases he;obtain⟨iw,us,el,a8,bF,b0,c0,da⟩:=aJ.good.box m cs dn;rw[cl]at a8;cases a8;unfold oO at hm;split at hm
      ·rename_i clock borns kvs;split at hm
       ·cases hm
       rename_i vU;simp only[jN]at c0;simp only[ji]at da;have hb:=vh (P:=P) c0;have vP:=MJ (P:=P) (w:=w) l5 false vf (by simpa using vU);have bE:bl<w.heap.size:=(Array.getElem?_eq_some_iff.1 c0).1;have dx:∀(o':Obj) (cn:Array Value) (eH:List ah),(Instr.mapUpdate t (a.eval gU) (a.eval gM) (a.eval qk)).run P w= .ok () {w with heap:=w.heap.setIfInBounds bl o'}→jN eH cn el=o'→ji w ν eH cn.toList→some eH=some cs'→
         (⟨none,.mapUpdate t gU gM qk,type,pos,after,guard⟩:Oper).wp P a w K Q:=by
        intro o' cn eH iN Cw mA iK;cases iK;refine Ec (w':={w with heap:=w.heap.setIfInBounds bl o'}) ?_ (c3 _ _ _ (aJ.setBox (w':={w with heap:=w.heap.setIfInBounds bl o'}) dn cl (us:=cn) (el:=el) rfl rfl rfl (fun j ae=>?_) (by simp) ?_ mA).1)
        ·simp only[execOp,iN,fH,fL,gy]
        ·exact Array.getElem?_setIfInBounds_ne (k6 ae)
        ·rw[Cw];simp[bE]
       split at hm
       ·rename_i wz uF;obtain⟨j,u,cn,e,f1,f2,f3,f4,f5,f6,f7⟩:=Df l5 vf yL borns kvs us.toList 0 _ da.1 da.2.len uF;refine dx (.map (fA borns cn).toArray clock) cn.toArray (.hdm clock borns::wz) ?_ (by simp[jN]) (by simp only[ji];exact⟨by simpa using f2,⟨by rw[f3];exact da.2.len,da.2.inc,da.2.lt⟩⟩) hm;have Kz:(Instr.keyThatStays (((fA borns us.toList).toArray[j]?.map (·.key)).getD (a.eval gM)) (a.eval gM)).run P w= .ok (a.eval gM) w:=by
         have:((fA borns us.toList).toArray[j]?.map (·.key)).getD (a.eval gM)=e.key:=by simp[f4]
         rw[this];simp[Instr.keyThatStays,f6]
        simp only[Nat.zero_add]at f1;simp only[Instr.mapUpdate,fH,run_underlying hu,fL,b8,hb,vP,f1.run l5,gy,Kz,DO c0];rw[f7];simp
       ·rename_i uF;have f1:=Df l5 vf yL borns kvs us.toList 0 _ da.1 da.2.len uF;simp only at f1;have p6:us.toList.length=2*borns.length:=by rw[Hj da.1,da.2.len]
        refine dx (.map ((fA borns us.toList).toArray.push ⟨a.eval gM,a.eval qk,clock⟩) (clock+1)) (us.toList++[a.eval gM,a.eval qk]).toArray (.hdm (clock+1) (borns++[clock])::(kvs++[cr st.t k,cr st.t v])) ?_ (by simp only[jN,I9 borns us.toList clock _ _ p6];simp) ?_ hm
        ·simp only[Instr.mapUpdate,fH,run_underlying hu,fL,b8,hb,vP,f1.run l5,gy,DO c0]
        ·simp only[ji];refine⟨MF da.1 (by simp only[cQ];exact⟨_,_,rfl,vf,_,_,rfl,yL,rfl⟩),⟨by simp[da.2.len];omega,?_,?_⟩⟩
         ·rw[List.pairwise_append];exact⟨da.2.inc,by simp,fun x af y aM=>by simp at aM;subst aM;exact da.2.lt x af⟩
         ·intro b ad;rcases kQ.1 ad with ad|ad
          ·have:=da.2.lt b ad;omega
          ·simp at ad;omega
       ·cases hm
      ·cases hm
     ·cases he
    ·cases he
   ·cases he
  ·cases J
 ·rename_i d key x t gU;simp only[cC,dQ,e2]at ax;obtain⟨⟨⟨rfl,U⟩,J⟩,ar⟩:=ax;have rx:=en aJ ar;split at J
  ·rename_i sz k9 mJ pq z aL;obtain⟨cG,hu,eW⟩:=iS aK aL;have sS:cG= .map mJ pq:=by cases cG<;>simp[kf]at eW;obtain⟨rfl,rfl⟩:=eW;rfl
   subst sS;simp only[eA]at he;split at he
   ·rename_i m af;rw[af]at rx;have alB:=rx;simp only[bc]at rx;obtain⟨bl,cl,b8⟩:=rx;split at he
    ·rename_i cs dn;split at he
     ·rename_i cs' hm;cases he;obtain⟨iw,us,el,a8,bF,b0,c0,da⟩:=aJ.good.box m cs dn;rw[cl]at a8;cases a8;unfold wR at hm;split at hm
      ·rename_i clock borns kvs;cases hm;simp only[jN]at c0;have hb:=vh (P:=P) c0;obtain⟨g1,g2⟩:=aJ.newBox (aJ.new _ (uy rfl)) (ct rfl) (cs:=[.hdi clock [] clock,.gmap m]) (us:= #[a.eval gU]) 0 (by simp only[ji,cQ];exact⟨_,_,rfl,alB,rfl⟩);have Cw:jN [.hdi clock [] clock,.gmap m] #[a.eval gU] 0= .mapIter (some bl) clock #[] clock:=by simp[jN,b8]
       rw[Cw]at g1 g2;refine mi (v:= .pointer (some ⟨w.heap.size,0,none⟩)) (w':=w.alloc (.mapIter (some bl) clock #[] clock)) ?_ (c3 _ _ _ (g1.put (d:=some d) (by simpa[jo]using U) (p:= .ptr κ 0) g2))
       ·simp only[execOp];refine D7 ?_;simp only[Instr.range,fH,run_underlying hu,fL,b8,hb,gy,run_newObj];rfl
      ·cases hm
     ·cases he
    ·cases he
   ·cases he
  ·cases J
 ·rename_i d atD;simp only[cC,dQ,e2]at ax;obtain⟨⟨J,U⟩,ar⟩:=ax;subst J;simp only[eA]at he;split at he
  ·rename_i cu p aF;cases he;obtain⟨v,g1,g2⟩:=amG (o:=⟨some d,op,type,pos,after,guard⟩) aK aJ ar aF au;refine mi g1 (c3 _ _ ν ?_);exact aJ.put (d:=some d) (by simpa[jo]using U) g2
  ·cases he
 ·rename_i d key x el o';simp only[cC,dQ,e2]at ax;obtain⟨⟨J,U⟩,ar⟩:=ax;subst J;simp only[eA]at he;cases he;have af:=en aJ ar;have lE:=vc af au;obtain⟨g1,g2⟩:=aJ.newBox (aJ.new _ (uy rfl)) (ct rfl) el (by rw[u4 (A3 lE)];exact lE);rw[u3 (A3 lE)]at g1 g2;refine mi (v:= .pointer (some ⟨w.heap.size,0,none⟩)) (w':=w.alloc (.cells (a.eval o').cells el)) ?_ (c3 _ _ _ (g1.put (d:=some d) (by simpa[jo]using U) (p:= .ptr κ 0) ?_))
  ·simp only[execOp,Instr.box,newVar,newRow,fH,run_newObj,fL,gy];rfl
  ·simpa only[bc]using g2
 ·rename_i d key z el;simp only[cC,dQ,e2]at ax;obtain⟨⟨J,U⟩,ar⟩:=ax;subst J;simp only[eA]at he;cases he;split at ar
  ·rename_i f aL;have br:=NN ar;obtain⟨ca,k4,z2,z3⟩:=Nf aK aL w;rw[←br]at z2;obtain⟨_,lE⟩:=NM w ν z2;obtain⟨g1,g2⟩:=aJ.newBox (aJ.new _ (uy rfl)) (ct rfl) el (by rw[u4 (A3 lE)];exact lE);rw[u3 (A3 lE)]at g1 g2;refine mi (v:= .pointer (some ⟨w.heap.size,0,none⟩)) (w':=w.alloc (.cells ca.cells el)) ?_ (c3 _ _ _ (g1.put (d:=some d) (by simpa[jo]using U) (p:= .ptr κ 0) ?_))
   ·simp only[execOp,Instr.alloc,newVar,newRow,fH,k4,run_newObj,fL,gy];rfl
   ·simpa only[bc]using g2
  ·cases ar
 ·rename_i sz x y t o' jh;simp only[cC,dQ]at ax;obtain⟨⟨⟨J,U⟩,ar⟩,ba⟩:=ax;subst J;split at U
  ·rename_i f aL;simp only[dQ]at U;simp only[eA]at he;split at he
   ·rename_i k off af;split at he
    ·rename_i cs dn;cases he;obtain⟨iI,bL,cp,dc⟩:=au;have rx:=en aJ ar;rw[af]at rx;simp only[bc]at rx;obtain⟨bl,cl,b8⟩:=rx;have lT:=en aJ ba;have va:=vc lT bL;have vg:=pL va;obtain⟨iw,us,el,a8,bF,b0,c0,da⟩:=aJ.good.box k cs dn;rw[cl]at a8;cases a8;rw[u3 iI]at c0;rw[u4 iI]at da;have av:=pL da;obtain⟨_,ee⟩:=vn aK aL w;have uI:(a.eval jh).cells.size=sz:=by rw[cp]at vg;simpa using vg
     have dd:=run_storeCells_at (P:=P) bl off el (a.eval jh).cells.toList 0 us w c0 (by simp at av⊢;omega) (A2 va);simp only[Nat.add_zero]at dd;refine Ec (w':=w.setRow bl (us.toList.take off++(a.eval jh).cells.toList++us.toList.drop (off+(a.eval jh).cells.toList.length)).toArray) ?_ (c3 _ _ _ (aJ.storeBox dn cl iI ?_))
     ·simp only[execOp,Instr.storeAt,b8,Instr.sureAddr,storeVar,fH,gy,fL,ee,uI,U,ne_eq,not_true_eq_false,if_false,dd]
     ·simp only[n3];rw[vg];exact yF (yF (DI off da) va) (A1 _ da)
    ·cases he
   ·rename_i af;generalize Ko:cr st.t x=px at he;unfold q8 at he;split at he
    ·rename_i dI k n i sL;split at he
     ·rename_i n' el jk xs ab;split at he
      ·rename_i Cv;obtain⟨rfl,rfl⟩:=Cv;split at he
       ·rename_i q bo;cases he;obtain⟨iI,bL,cp,dc,ix⟩:=au;have rx:=en aJ ar;rw[Ko]at rx;have lT:=en aJ ba;have va:=vc lT bL;have vg:=pL va;obtain⟨_,ee⟩:=vn aK aL w;have uI:(a.eval jh).cells.size=sz:=by rw[cp]at vg;simpa using vg
        obtain⟨bl,off,mu,CA,dd,bq,p4⟩:=aJ.storeRow (P:=P) ab rx bo iI va (by simpa[uI]using dc) (fun e=>by have:=eB List.length e;simp[uI]at this;omega);refine Ec (w':=w.setRow bl mu) ?_ (c3 _ _ _ p4);simp only[execOp,Instr.storeAt,CA,Instr.sureAddr,storeVar,fH,gy,fL,ee,uI,U,ne_eq,not_true_eq_false,if_false,dd]
       ·cases he
      ·cases he
     ·cases he
    ·cases he
  ·cases U
 ·rename_i d sz el xs t len parts;simp only[cC,dQ,e2]at ax;obtain⟨⟨⟨⟨⟨⟨J,U⟩,ar⟩,ba⟩,b4⟩,c9⟩,ej⟩:=ax;subst J;subst b4;split at ar
  ·rename_i fT aL;simp only[dQ]at ar;subst ar;split at ba
   ·rename_i g a7;simp only[cC,dQ,e2]at ba;obtain⟨rfl,fs⟩:=ba;simp only[eA]at he;cases he;obtain⟨us,g1,g2,g3⟩:=WU aK aJ aL rfl a7 ej au c9;have lH:(w.alloc (.cells us el)).ownsRow w.heap.size el g.size (.slice (some ⟨w.heap.size,0,none⟩) xs.length xs.length) (xs.map (cr st.t)).length us.toList:=by
     refine⟨by simp[g3],.inr ⟨w.heap.size,xs.length,us,by simp,eR _,heap_alloc_new w _,by simp,?_,g3,?_⟩⟩
     ·simp only[maxLen];have:xs.length≤xs.length*g.size:=Nat.le_mul_of_pos_right _ fs;omega
     ·rw[hG];simp[g3]
    obtain⟨dM,ff⟩:=aJ.newRow (k:=κ) (xs:=xs.map (cr st.t)) (.inl (aJ.new _ (uy rfl))) (World.grownBy_alloc w _ none) lH g2
     (by have:xs.length≤xs.length*g.size:=Nat.le_mul_of_pos_right _ fs;simp only[lim,rj];omega) (ct rfl)
    simp only[rj]at dM ff;refine mi (v:= .slice (some ⟨w.heap.size,0,none⟩) xs.length xs.length) (w':=w.alloc (.cells us el)) ?_ (c3 _ _ _ (dM.put (d:=some d) (by simpa[jo]using U) (p:= .slice g.size (.own κ) (xs.map (cr st.t))) ff));have bG:(parts.map fun(x:Nat×Operand)=>(x.1,a.eval x.2))=(parts.toList.map fun(x:Nat×Operand)=>(x.1,a.eval x.2)).toArray:=by apply Array.ext';simp
    simp only[execOp];refine D7 ?_;rw[←g1];congr 2
   ·cases ba
  ·cases ar
 ·rename_i d sz el x y o' jh t dO;simp only[cC,dQ,e2]at ax;obtain⟨⟨⟨⟨⟨⟨J,U⟩,ar⟩,ba⟩,b4⟩,c9⟩,ej⟩:=ax;subst J;subst ar;split at ba
  ·rename_i fT aL;simp only[dQ]at ba;subst ba;split at b4
   ·rename_i g a7;simp only[cC,dQ,e2]at b4;obtain⟨⟨rfl,fs⟩,hby⟩:=b4;have rx:=en aJ c9;have lT:=en aJ ej;have mz:∀v' w',(Builtin.append_ #[t,t] type #[a.eval o',a.eval jh]).run P w= .ok v' w'→(execOp a.eval ⟨some d,.call ⟨.builtin .append,⟨[o',jh]⟩,⟨[t,t]⟩⟩,type,pos,after,guard⟩).run P w= .ok (.value v') w':=by intro v' w' iN;simp only[execOp,resolve,invoke,builtin,fH,gy,fL,List.map_toArray,gO,List.map_nil];rw[iN];rfl
    obtain⟨fu,cg,z,ak,aE,bj,c2,ha,hP,rr,rs⟩:=(vp aK a7).ex;obtain⟨eH,iK,eW⟩:=iS aK aL;obtain rfl:=sG eW;simp only[eA]at he;split at he
    ·rename_i dI tag xs jk k1 ys af aM;split at he
     ·rename_i fc;obtain⟨rfl,fc⟩:=fc;subst fc;rw[af]at rx;rw[aM]at lT;simp only[bc]at rx lT;obtain⟨⟨tX,pj,sn,cx1,⟨QX,QY⟩,cx4⟩,rxn,rxo,rxt⟩:=rx;obtain⟨⟨nK,ly,vy,cy1,⟨QZ,Q0⟩,cy4⟩,_⟩:=lT;split at he
      ·rename_i k;split at he
       ·rename_i ow ab;cases he;obtain⟨bL,cp,dc,ix⟩:=au;subst cp;obtain⟨n0,w5,dM,ff,k0⟩:=rxo k rfl;obtain⟨v0,fv,a8,bF,b0,_⟩:=aJ.good.own k ow ab;rw[dM]at a8;simp only[dL,jy]at a8;obtain⟨rfl,rfl⟩:=a8;have mB:a.eval o'=w5:=k0 bL.symm;by_cases jd:ys=[]
        ·subst jd;rw[vy,sn]at mz;have iN:=Ho (P:=P) (w:=w) (ty:=type) iK ak tX xs.length pj cx1 nK ly;refine mi (mz _ _ (by simpa using iN)) (c3 _ _ ν ?_);have dd:{st with t:=put d (.slice ow.sz (.own k) (xs++[])) st.t,e:=cB k ⟨xs.length+([]:List ah).length,ow.el,ow.sz,none⟩ st.e}=({st with e:=cB k ⟨ow.n,ow.el,ow.sz,none⟩ st.e,t:=put d (.slice ow.sz (.own k) xs) st.t}:bs):=by simp[bL]
         rw[←dc,dd];have lI:=aJ.forgetRow ab;refine lI.put (d:=some d) (by simpa[jo]using U) (p:= .slice ow.sz (.own k) xs) ?_;simp only[bc];rw[←dc]at cx4;exact⟨⟨tX,pj,rfl,cx1,⟨QX,QY⟩,cx4⟩,fun e=>(by cases e),(fun g e=>by cases e;exact⟨_,_,dM,ff,fun e=>by rw[←sn];exact k0 e⟩),fun _ _ e=>(by cases e),fun _ e=>(by cases e)⟩
        ·have hyp:0<ys.length:=by cases ys<;>simp at jd⊢
         rcases cy4 with cy4|⟨k9,ny,hh,rfl,ym,mv⟩
         ·exact absurd cy4 jd
         ·have jH:=tt mv;have rQ:∀j u,hh[j]? =some u→w.cell? ((⟨k9,ny,none⟩:Addr).add j)=some u:=fun j u ae=>by rw[pd];exact(uU ym ae).2
          have rL:(xs.length+ys.length)*fu.bytes≤140737488355328:=by
           have lB:fu.bytes≤2048:=by rw[c2];exact hby
           have pA:(xs.length+ys.length)*fu.bytes≤(xs.length+ys.length)*2048:=Nat.mul_le_mul_left _ lB;simp only[lim]at ix;omega
          have ki:xs.length+ys.length≤maxLen:=by simp only[lim]at ix;simp only[maxLen];omega
          rw[vy]at mz;have we:fv.length=ow.n*ow.sz:=bF.1;have wj:z.cells.size=fu.size:=by rw[rs,bj]
          have Cn:(∀cur,eQ→cur=(0:Nat))→(∃v' w',(Builtin.append_ #[t,t] type #[a.eval o',.slice (some ⟨k9,ny,none⟩) ys.length ly]).run P w= .ok v' w'∧w'.ownsRow w.heap.size ow.el fu.size v' (xs.length+ys.length) (fv++hh)∧w.grownBy w' none∧dB w ν fu.size xs fv)→
            (⟨some d,.call ⟨.builtin .append,⟨[o',jh]⟩,⟨[t,t]⟩⟩,type,pos,after,guard⟩:Oper).wp P a w K Q:=by
           intro _ cw;obtain⟨v',w',f1,f2,f3,f4⟩:=cw;have Fx:dB w ν fu.size (xs++ys) (fv++hh):=DG f4 (by rw[bj];exact mv);obtain⟨cP,dt⟩:=aJ.newRow (k:=k) (xs:=xs++ys) (.inr ⟨ow,ab,by rw[bL];simp;omega⟩) f3 (by simpa using f2) Fx (by simpa using ix) (n':=st.n) (o':=st.o)
            (fun j ae=>⟨ae,fun e=>by subst e;have:=(aJ.new _ ae).2.1;rw[dM]at this;cases this⟩)
           refine mi (mz _ _ f1) (c3 _ _ ((ν.withOwn k (xs++ys).length v').withRowOf k v' (xs++ys).length ((xs++ys).length*fu.size)) ?_);have:=cP.put (d:=some d) (by simpa[jo]using U) dt;simpa[bj,eM]using this
          rcases bF.2 with⟨nz,yA⟩|⟨bl,cap,cur,nz,yA,AP,L3,L4,L5,GQ⟩
          ·
           have Ac:xs=[]:=List.eq_nil_of_length_eq_zero (by omega);have CK:fv=[]:=List.eq_nil_of_length_eq_zero (by rw[we,yA];simp);subst Ac;subst CK;refine Cn (fun _ h=>h.elim) ?_;obtain⟨v',w',f1,f2,f3,_⟩:=run_append_own (P:=P) w w.heap.size t type ow.el fu z fu.size fu.bytes iK ak hP rfl rfl wj (by rw[bj];exact fs) (.slice none 0 0) 0 [] (World.ownsRow_nil w _ _ _)
            ⟨k9,ny,none⟩ ys.length ly hh (by rw[jH,bj]) rQ (yE mv) (by simpa using ki) (by simpa using rL) (eR _)
           refine⟨v',w',by rw[mB,nz];exact f1,by simpa using f2,by simpa[og]using f3,by simp[dB]⟩
          ·have afl:lO w ν.A bl 0 fv∧dB w ν fu.size xs fv∧True:=by
            rw[mB,nz]at sn;rcases cx4 with cx4|⟨bb,arG,Nn,f1,f2,f3⟩
            ·subst cx4;have:fv=[]:=List.eq_nil_of_length_eq_zero (by rw[we,bL];simp);subst this;exact⟨trivial,by simp[dB],trivial⟩
            ·subst f1;injection sn with vx1 vx2 vx3;injection vx1 with vx1;injection vx1 with vx1 vx4;subst vx1;subst vx4;have heq:Nn=fv:=by
              apply List.ext_getElem?;intro j;have p6:Nn.length=fv.length:=by rw[tt f3,we,bL,dc]
              by_cases ae:j<Nn.length
              ·have J:=(uU f2 (bZ ae)).2;rw[Nat.zero_add]at J;have U:=bF.cells (g:=bl) (by rw[nz];rfl) j fv[j] (bZ (by omega));rw[pd,Nat.zero_add,J]at U;rw[bZ ae,bZ (by omega)];exact U
              ·rw[qt (by omega),qt (by omega)]
             subst heq;exact⟨f2,by rw[bj];exact f3,trivial⟩
           obtain⟨xV,nS,_⟩:=afl;by_cases rS:xs.length+ys.length≤cap
           ·have apP:cur.size=cap*ow.sz:=L5;have hmul:(xs.length+ys.length)*ow.sz≤cap*ow.sz:=qv _ rS;rw[o8]at hmul;have f1:=run_append_room (P:=P) w t type ow.el fu iK ak bl xs.length cap cur AP ⟨k9,ny,none⟩ ys.length ly hh (by rw[jH,bj]) rQ (yE mv) rS (by rw[jH,bj,←dc];omega);obtain⟨cP,dt⟩:=aJ.inPlace ab (bl:=bl) (cap:=cap) (cur:=cur) (by rw[dM,←nz]) AP L4 L5 (xs:=xs) (ys:=ys) (us:=fv) (ns:=hh) bL.symm GQ (by rw[dc,←bj];exact nS) (by rw[dc];exact mv) hyp (by rw[bL];exact rS) ix;refine mi (v:= .slice (some ⟨bl,0,none⟩) (ow.n+ys.length) cap) (w':=w.setRow bl (fv++hh++cur.toList.drop (ow.n*ow.sz+hh.length)).toArray) (mz _ _ ?_)
             (c3 _ _ (ν.withRowOf k (.slice (some ⟨bl,0,none⟩) (ow.n+ys.length) cap) (ow.n+ys.length) ((ow.n+ys.length)*ow.sz)) ?_)
            ·rw[mB,nz,bL,f1,←GQ,bL,dc,bj]
            ·have:=cP.put (d:=some d) (by simpa[jo]using U) dt;simpa[bL,dc,eM]using this
           ·refine Cn (fun _ h=>h.elim) ?_;obtain⟨v',w',f1,f2,f3⟩:=run_append_arg_grows (P:=P) w t type ow.el fu z fu.size fu.bytes iK ak hP rfl rfl wj (by rw[bj];exact fs) ⟨bl,0,none⟩ xs.length cap fv (by rw[we,bL,dc,bj])
             (fun j u ae=>by rw[pd];exact(uU xV ae).2) ⟨k9,ny,none⟩ ys.length ly hh (by rw[jH,bj]) rQ (by omega) ki rL
            exact⟨v',w',by rw[mB,nz,bL];exact f1,f2,f3,nS⟩
       ·cases he
      ·cases he;have FI:=rxn rfl;have Ac:xs=[]:=by rw[FI]at sn;injection sn with _ aE;exact List.eq_nil_of_length_eq_zero aE.symm
       subst Ac;have x0:(eo.app d g.size el x y).makes st=true:=by simp only[eo.makes,af]
       have wj:z.cells.size=fu.size:=by rw[rs,bj]
       rw[vy,FI]at mz;have dx:∀(v':Value) (w':World) (hh:List Value),(Builtin.append_ #[t,t] type #[.slice none 0 0,.slice nK ys.length ly]).run P w= .ok v' w'→w'.ownsRow w.heap.size el g.size v' ys.length hh→w.grownBy w' none→dB w ν g.size ys hh→
         (⟨some d,.call ⟨.builtin .append,⟨[o',jh]⟩,⟨[t,t]⟩⟩,type,pos,after,guard⟩:Oper).wp P a w K Q:=by
        intro v' w' hh f1 f2 f3 f4;obtain⟨cP,dt⟩:=aJ.newRow (k:=κ) (xs:=ys) (.inl (aJ.new _ (uy x0))) f3 f2 f4 au (ct x0);exact mi (mz _ _ f1) (c3 _ _ _ (cP.put (d:=some d) (by simpa[jo]using U) dt))
       by_cases jd:ys=[]
       ·subst jd;exact dx _ w [] (Ho iK ak none 0 0 (eR _) nK ly) (World.ownsRow_nil w _ _ _) (aol w _) (by simp[dB])
       ·rcases cy4 with cy4|⟨k9,ny,hh,rfl,ym,mv⟩
        ·exact absurd cy4 jd
        ·have jH:=tt mv;have rQ:∀j u,hh[j]? =some u→w.cell? ((⟨k9,ny,none⟩:Addr).add j)=some u:=fun j u ae=>by rw[pd];exact(uU ym ae).2
         have rL:ys.length*fu.bytes≤140737488355328:=by
          have J:fu.bytes≤2048:=by rw[c2];exact hby
          have U:ys.length*fu.bytes≤ys.length*2048:=Nat.mul_le_mul_left _ J;simp only[lim]at au;omega
         have ki:ys.length≤maxLen:=by simp only[lim]at au;simp only[maxLen];omega
         obtain⟨v',w',f1,f2,f3,_⟩:=run_append_own (P:=P) w w.heap.size t type el fu z fu.size fu.bytes iK ak hP rfl rfl wj (by rw[bj];exact fs) (.slice none 0 0) 0 [] (World.ownsRow_nil w _ _ _)
          ⟨k9,ny,none⟩ ys.length ly hh (by rw[jH,bj]) rQ (yE mv) (by simpa using ki) (by simpa using rL) (eR _)
         exact dx v' w' hh f1 (by rw[←bj];simpa using f2) (by simpa[og]using f3) mv
      ·cases he
     ·cases he
    ·cases he
   ·cases b4
  ·cases ba
 ·rename_i d key sz el xs t len parts;simp only[cC,dQ,e2]at ax;obtain⟨⟨⟨⟨⟨⟨J,U⟩,ar⟩,ba⟩,b4⟩,c9⟩,ej⟩:=ax;subst J;subst b4;split at ar
  ·rename_i fT aL;simp only[dQ]at ar;subst ar;split at ba
   ·rename_i g a7;simp only[cC,dQ,e2]at ba;obtain⟨rfl,fs⟩:=ba;simp only[eA]at he;cases he;obtain⟨us,g1,g2,g3⟩:=WU aK aJ aL rfl a7 ej au c9;have lH:(w.alloc (.cells us el)).ownsRow w.heap.size el g.size (.slice (some ⟨w.heap.size,0,none⟩) xs.length xs.length) (xs.map (cr st.t)).length us.toList:=by
     refine⟨by simp[g3],.inr ⟨w.heap.size,xs.length,us,by simp,eR _,heap_alloc_new w _,by simp,?_,g3,?_⟩⟩
     ·simp only[maxLen];have:xs.length≤xs.length*g.size:=Nat.le_mul_of_pos_right _ fs;omega
     ·rw[hG];simp[g3]
    obtain⟨dM,ff⟩:=aJ.newRowM (k:=κ) (xs:=xs.map (cr st.t)) (.inl (aJ.new _ (uy rfl))) (World.grownBy_alloc w _ none) lH g2
     (by have:xs.length≤xs.length*g.size:=Nat.le_mul_of_pos_right _ fs;simp only[lim,rj];omega) (ct rfl)
    simp only[rj]at dM ff;refine mi (v:= .slice (some ⟨w.heap.size,0,none⟩) xs.length xs.length) (w':=w.alloc (.cells us el)) ?_ (c3 _ _ _ (dM.put (d:=some d) (by simpa[jo]using U) (p:= .row g.size κ xs.length) (ff ⟨_,_,rfl⟩)));have bG:(parts.map fun(x:Nat×Operand)=>(x.1,a.eval x.2))=(parts.toList.map fun(x:Nat×Operand)=>(x.1,a.eval x.2)).toArray:=by apply Array.ext';simp
    simp only[execOp];refine D7 ?_;rw[←g1];congr 2
   ·cases ba
  ·cases ar
 ·rename_i d key sz el x y o' jh t dO;simp only[cC,dQ,e2]at ax;obtain⟨⟨⟨⟨⟨⟨J,U⟩,ar⟩,ba⟩,b4⟩,c9⟩,ej⟩:=ax;subst J;subst ar;split at ba
  ·rename_i fT aL;simp only[dQ]at ba;subst ba;split at b4
   ·rename_i g a7;simp only[cC,dQ,e2]at b4;obtain⟨⟨rfl,fs⟩,hby⟩:=b4;have rx:=en aJ c9;have lT:=en aJ ej;have mz:∀v' w',(Builtin.append_ #[t,t] type #[a.eval o',a.eval jh]).run P w= .ok v' w'→(execOp a.eval ⟨some d,.call ⟨.builtin .append,⟨[o',jh]⟩,⟨[t,t]⟩⟩,type,pos,after,guard⟩).run P w= .ok (.value v') w':=by intro v' w' iN;simp only[execOp,resolve,invoke,builtin,fH,gy,fL,List.map_toArray,gO,List.map_nil];rw[iN];rfl
    obtain⟨fu,cg,z,ak,aE,bj,c2,ha,hP,rr,rs⟩:=(vp aK a7).ex;obtain⟨eH,iK,eW⟩:=iS aK aL;obtain rfl:=sG eW;have wj:z.cells.size=fu.size:=by rw[rs,bj]
    simp only[eA]at he;split at he
    ·
     rename_i ys aF;cases he;unfold sE at aF;split at aF
     ·rename_i dI xs jk k1 aod af aM;split at aF
      ·rename_i fc;obtain⟨rfl,fc⟩:=fc;subst fc;cases aF;rw[af]at rx;rw[aM]at lT;simp only[bc]at rx lT;obtain⟨⟨tX,pj,sn,cx1,⟨QX,QY⟩,cx4⟩,rxn,rxo,rxt⟩:=rx;obtain⟨⟨nK,ly,vy,cy1,⟨QZ,Q0⟩,cy4⟩,_⟩:=lT;have FI:=rxn trivial;have x0:(eo.appm d key g.size el x y).makes st=true:=by simp only[eo.makes,af]
       rw[vy,FI]at mz;have dx:∀(v':Value) (w':World) (hh:List Value),(Builtin.append_ #[t,t] type #[.slice none 0 0,.slice nK ys.length ly]).run P w= .ok v' w'→w'.ownsRow w.heap.size el g.size v' ys.length hh→w.grownBy w' none→dB w ν g.size ys hh→
         (⟨some d,.call ⟨.builtin .append,⟨[o',jh]⟩,⟨[t,t]⟩⟩,type,pos,after,guard⟩:Oper).wp P a w K Q:=by
        intro v' w' hh f1 f2 f3 f4;obtain⟨cP,dt⟩:=aJ.newRowM (k:=κ) (xs:=ys) (.inl (aJ.new _ (uy x0))) f3 f2 f4 au.1 (ct x0);exact mi (mz _ _ f1) (c3 _ _ _ (cP.put (d:=some d) (by simpa[jo]using U) (dt (Vt f2 (by cases ys<;>simp at au⊢)))))
       by_cases jd:ys=[]
       ·subst jd;exact dx _ w [] (Ho iK ak none 0 0 (eR _) nK ly) (World.ownsRow_nil w _ _ _) (aol w _) (by simp[dB])
       ·rcases cy4 with cy4|⟨k9,ny,hh,rfl,ym,mv⟩
        ·exact absurd cy4 jd
        ·have jH:=tt mv;have rQ:∀j u,hh[j]? =some u→w.cell? ((⟨k9,ny,none⟩:Addr).add j)=some u:=fun j u ae=>by rw[pd];exact(uU ym ae).2
         have rL:ys.length*fu.bytes≤140737488355328:=by
          have J:fu.bytes≤2048:=by rw[c2];exact hby
          have U:ys.length*fu.bytes≤ys.length*2048:=Nat.mul_le_mul_left _ J;simp only[lim]at au;omega
         have ki:ys.length≤maxLen:=by simp only[lim]at au;simp only[maxLen];omega
         obtain⟨v',w',f1,f2,f3,_⟩:=run_append_own (P:=P) w w.heap.size t type el fu z fu.size fu.bytes iK ak hP rfl rfl wj (by rw[bj];exact fs) (.slice none 0 0) 0 [] (World.ownsRow_nil w _ _ _)
          ⟨k9,ny,none⟩ ys.length ly hh (by rw[jH,bj]) rQ (yE mv) (by simpa using ki) (by simpa using rL) (eR _)
         exact dx v' w' hh f1 (by rw[←bj];simpa using f2) (by simpa[og]using f3) mv
      ·cases aF
     ·split at aF
      ·split at aF
       ·split at aF<;>cases aF
       ·cases aF
      ·cases aF
     ·cases aF
    ·
     rename_i k xs ys aF;cases he;unfold sE at aF;split at aF
     ·split at aF<;>cases aF
     ·rename_i dI bS n jk k1 aod af aM;split at aF
      ·rename_i fc;obtain⟨rfl,fc⟩:=fc;subst fc;split at aF
       ·rename_i n' fT wZ xs' ab;split at aF
        ·rename_i uv;obtain⟨rfl,rfl,rfl⟩:=uv;cases aF;rw[af]at rx;rw[aM]at lT;simp only[bc]at rx lT;obtain⟨⟨bx,pj,sn⟩,rxl,n0,w5,dM,ff,k0⟩:=rx;obtain⟨⟨nK,ly,vy,cy1,⟨QZ,Q0⟩,cy4⟩,_⟩:=lT;obtain⟨v0,fv,a8,bF,b0,c0⟩:=aJ.good.own k _ ab;rw[dM]at a8;simp only[dL,jy]at a8 bF;obtain⟨rfl,rfl⟩:=a8;have mB:a.eval o'=w5:=k0 rfl;obtain⟨da,nZ,u5⟩:=c0 xs rfl;simp only at da nZ;have we:fv.length=xs.length*g.size:=by rw[da];exact bF.1
         have kj:xs.length=n0:=da;by_cases jd:ys=[]
         ·subst jd;rw[vy,sn]at mz;have lE:n0≤pj:=by
           rcases bF.2 with⟨nz,yA⟩|⟨bl,cap,cur,nz,yA,AP,L3,_⟩
           ·rw[yA];exact Nat.zero_le _
           ·rw[←mB,sn]at nz;injection nz with _ _ e;rw[e];exact L3
          have iN:=Ho (P:=P) (w:=w) (ty:=type) iK ak (some ⟨bx,0,none⟩) n0 pj lE nK ly;refine mi (mz _ _ (by simpa using iN)) (c3 _ _ ν ?_);have h1:∀eI,look eI (cB k ⟨n0,fT,g.size,some xs⟩ st.e)=look eI st.e:=fun eI=>by
           rw[iP];split
           ·rename_i e;subst e;rw[ab]
           ·rfl
          have lI:cU C {st with e:=cB k ⟨n0,fT,g.size,some xs⟩ st.e} a w ν:=
           ⟨⟨aJ.good.alt,aJ.good.box,aJ.good.inj,fun g o a7=>aJ.good.own g o (by rw[←h1 g];exact a7),fun g eI n n' v v' bl bD a2=>aJ.good.oinj g eI n n' v v' bl (by rw[←h1 g];exact bD) (by rw[←h1 eI];exact a2),
           fun g j n v bl bD=>aJ.good.obx g j n v bl (by rw[←h1 g];exact bD),aJ.good.one,fun bl ad=>aJ.good.otr bl (ad.imp id (fun⟨g,n,v,bD,a2⟩=>⟨g,n,v,by rw[←h1 g];exact bD,a2⟩))⟩,aJ.fr,aJ.defers,aJ.size,aJ.slot,aJ.new⟩
          have ar:=lI.put (d:=some d) (by simpa[jo]using U) (p:= .row g.size k n0) (v:= .slice (some ⟨bx,0,none⟩) n0 pj) (by simp only[bc];exact⟨⟨_,_,rfl⟩,rxl,_,_,dM,eR _,fun _=>by rw[←sn];exact mB⟩)
          simpa[kj,eM]using ar
         ·have hyp:0<ys.length:=by cases ys<;>simp at jd⊢
          rcases cy4 with cy4|⟨k9,ny,hh,rfl,ym,mv⟩
          ·exact absurd cy4 jd
          ·have jH:=tt mv;have rQ:∀j u,hh[j]? =some u→w.cell? ((⟨k9,ny,none⟩:Addr).add j)=some u:=fun j u ae=>by rw[pd];exact(uU ym ae).2
           have rL:(xs.length+ys.length)*fu.bytes≤140737488355328:=by
            have lB:fu.bytes≤2048:=by rw[c2];exact hby
            have pA:(xs.length+ys.length)*fu.bytes≤(xs.length+ys.length)*2048:=Nat.mul_le_mul_left _ lB;simp only[lim]at au;omega
           have ki:xs.length+ys.length≤maxLen:=by simp only[lim]at au;simp only[maxLen];omega
           have Fx:dB w ν g.size (xs++ys) (fv++hh):=DG nZ mv;rw[vy,mB]at mz;have Cn:(∃v' w',(Builtin.append_ #[t,t] type #[w5,.slice (some ⟨k9,ny,none⟩) ys.length ly]).run P w= .ok v' w'∧w'.ownsRow w.heap.size fT fu.size v' (xs.length+ys.length) (fv++hh)∧w.grownBy w' none)→
             (⟨some d,.call ⟨.builtin .append,⟨[o',jh]⟩,⟨[t,t]⟩⟩,type,pos,after,guard⟩:Oper).wp P a w K Q:=by
            intro cw;obtain⟨v',w',f1,f2,f3⟩:=cw;obtain⟨cP,dt⟩:=aJ.newRowM (k:=k) (xs:=xs++ys) (el:=fT) (sz:=g.size) (.inr ⟨_,ab,by simp;omega⟩) f3 (by rw[←bj];simpa using f2) Fx (by simpa using au) (n':=st.n) (o':=st.o)
             (fun j ae=>⟨ae,fun e=>by subst e;have:=(aJ.new _ ae).2.1;rw[dM]at this;cases this⟩)
            refine mi (mz _ _ f1) (c3 _ _ (ν.withOwn k (xs++ys).length v') ?_);have:=cP.put (d:=some d) (by simpa[jo]using U) (dt (by simpa using Vt f2 (by omega)));simpa[eM]using this
           rcases bF.2 with⟨nz,yA⟩|⟨bl,cap,cur,nz,yA,AP,L3,L4,L5,GQ⟩
           ·
            have Ac:xs=[]:=List.eq_nil_of_length_eq_zero (by omega);have CK:fv=[]:=List.eq_nil_of_length_eq_zero (by rw[we,Ac];simp);subst Ac;subst CK;refine Cn ?_;obtain⟨v',w',f1,f2,f3,_⟩:=run_append_own (P:=P) w w.heap.size t type fT fu z fu.size fu.bytes iK ak hP rfl rfl wj (by rw[bj];exact fs) (.slice none 0 0) 0 [] (World.ownsRow_nil w _ _ _)
             ⟨k9,ny,none⟩ ys.length ly hh (by rw[jH,bj]) rQ (yE mv) (by simpa using ki) (by simpa using rL) (eR _)
            exact⟨v',w',by rw[nz];exact f1,by simpa using f2,by simpa[og]using f3⟩
           ·have oI:w5.ownBlock=some bl:=by rw[nz];rfl
            by_cases rS:xs.length+ys.length≤cap
            ·have hmul:(xs.length+ys.length)*g.size≤cap*g.size:=qv _ rS;rw[o8]at hmul;have f1:=run_append_room (P:=P) w t type fT fu iK ak bl xs.length cap cur AP ⟨k9,ny,none⟩ ys.length ly hh (by rw[jH,bj]) rQ (yE mv) rS (by rw[jH,bj];omega);generalize Tm:(cur.toList.take (xs.length*fu.size)++hh++cur.toList.drop (xs.length*fu.size+hh.length)).toArray=tl at f1;have kA:(w.setRow bl tl).heap[bl]? =some (.cells tl fT (0,0)):=setRow_heap w bl cur tl fT _ AP;have aw:(fv++hh).length=(xs++ys).length*g.size:=by rw[o5,we,jH,o5,o8]
             have b4:cur.toList.take (xs.length*fu.size)=fv:=by rw[kj,bj];exact GQ
             have kC:tl.size=cap*g.size:=by rw[←Tm];simp only[List.size_toArray,o5,List.length_take,sw,Array.length_toList];rw[bj];omega
             have pD:tl.toList.take ((xs++ys).length*g.size)=fv++hh:=by rw[←Tm,b4];simp only[←aw];rw[List.take_append_of_le_length (eR _),mj]
             obtain⟨cP,_,dt⟩:=aJ.setRowM (w':=w.setRow bl tl) ab rfl dM oI (v':= .slice (some ⟨bl,0,none⟩) (xs.length+ys.length) cap) rfl (xs':=xs++ys) (us:=fv++hh) (.inr (by simp;omega)) rfl rfl rfl (fun j ae=>setRow_other w bl j tl ae) (setRow_size w bl tl)
              ⟨aw,.inr ⟨bl,cap,tl,by simp,Nat.zero_le _,kA,by simpa using rS,L4,kC,pD⟩⟩ Fx
             replace dt:=dt (by simpa using au);refine mi (v:= .slice (some ⟨bl,0,none⟩) (xs.length+ys.length) cap) (w':=w.setRow bl tl) (mz _ _ ?_) (c3 _ _ (ν.withOwn k (xs++ys).length (.slice (some ⟨bl,0,none⟩) (xs.length+ys.length) cap)) ?_)
             ·rw[nz,←kj];exact f1
             ·have:=cP.put (d:=some d) (by simpa[jo]using U) dt;simpa[eM]using this
            ·refine Cn ?_;obtain⟨v',w',f1,f2,f3⟩:=run_append_arg_grows (P:=P) w t type fT fu z fu.size fu.bytes iK ak hP rfl rfl wj (by rw[bj];exact fs) ⟨bl,0,none⟩ xs.length cap fv (by rw[we,bj])
              (fun j u ae=>by have:=bF.cells oI j u ae;exact this) ⟨k9,ny,none⟩ ys.length ly hh (by rw[jH,bj]) rQ (by omega) ki rL
             exact⟨v',w',by rw[nz,←kj];exact f1,f2,f3⟩
        ·cases aF
       ·cases aF
      ·cases aF
     ·cases aF
    ·cases he
   ·cases b4
  ·cases ba
 ·rename_i sz x y t o' jh;simp only[cC,dQ]at ax;obtain⟨⟨⟨J,U⟩,ar⟩,ba⟩:=ax;subst J;split at U
  ·rename_i f aL;simp only[dQ]at U;simp only[eA]at he;generalize Ko:cr st.t x=px at he;unfold q8 at he;split at he
   ·rename_i dI k n i sL;split at he
    ·rename_i n' el jk xs ab;split at he
     ·rename_i Cv;obtain⟨rfl,rfl⟩:=Cv;split at he
      ·rename_i q bo;cases he;obtain⟨iI,bL,cp,dc,ix⟩:=au;have rx:=en aJ ar;rw[Ko]at rx;have lT:=en aJ ba;have va:=vc lT bL;have vg:=pL va;obtain⟨_,ee⟩:=vn aK aL w;have uI:(a.eval jh).cells.size=sz:=by rw[cp]at vg;simpa using vg
       obtain⟨bl,off,mu,CA,dd,bq,p4⟩:=aJ.storeRow (P:=P) ab rx bo iI va (by simpa[uI]using dc) (fun e=>by have:=eB List.length e;simp[uI]at this;omega);refine Ec (w':=w.setRow bl mu) ?_ (c3 _ _ _ p4);simp only[execOp,Instr.storeAt,CA,Instr.sureAddr,storeVar,fH,gy,fL,ee,uI,U,ne_eq,not_true_eq_false,if_false,dd]
      ·cases he
     ·cases he
    ·cases he
   ·cases he
  ·cases U
 ·rename_i d key sz el z x t o' jh;simp only[cC,dQ,e2]at ax;obtain⟨⟨⟨⟨⟨J,U⟩,ar⟩,ba⟩,b4⟩,c9⟩:=ax;subst J;split at ar
  ·rename_i fT aL;simp only[dQ]at ar;subst ar;split at ba
   ·rename_i g a7;simp only[cC,dQ,e2]at ba;obtain⟨⟨⟨rfl,fs⟩,hby⟩,br⟩:=ba;obtain rfl:=NN br;have rx:=en aJ b4;have lT:=en aJ c9;simp only[eA]at he;split at he
    ·rename_i fl n af;cases he;obtain⟨afu,jH⟩:=au;obtain⟨m,rfl⟩:=Int.eq_ofNat_of_zero_le afu;rw[af]at rx lT;simp only[bc]at rx lT;obtain⟨fu,cg,ca,ak,aE,bj,c2,ha,hP,rr,rs⟩:=(vp aK a7).ex;obtain⟨eH,iK,eW⟩:=iS aK aL;obtain rfl:=sG eW;have ki:m≤lim:=by simp only[lim]at jH⊢;omega
     have rL:fu.bytes*m≤281474976710656:=by have J:fu.bytes*m≤2048*m:=qv _ (by omega);simp only[lim]at ki;omega
     obtain⟨afQ,aeR⟩:=NM w ν rr;obtain⟨w',g1,g2,g3⟩:=run_make_full (P:=P) w w.heap.size t el fu ca fu.size iK ak hP rfl fl fl m rL (by simp only[maxLen];simp only[lim]at ki;omega) (eR _);have lH:w'.ownsRow w.heap.size el g.size (.slice (some ⟨w.heap.size,0,none⟩) m m) (rk m g.zero).length (madeCells ca.cells (m*ca.cells.size)).toList:=by rw[bj,←rs]at g2;rw[List.length_replicate,←rs];exact g2
     obtain⟨dM,ff⟩:=aJ.newRowM (k:=κ) (xs:=rk m g.zero) (.inl (aJ.new _ (uy rfl))) g3 lH (by rw[←rs];exact UD afQ (by omega) (A2 aeR) m) (by simpa using ki) (ct rfl);simp only[List.length_replicate]at dM ff;simp only[Int.toNat_natCast]at c3;refine mi (v:= .slice (some ⟨w.heap.size,0,none⟩) m m) (w':=w') ?_ (c3 _ _ _ (dM.put (d:=some d) (by simpa[jo]using U) (p:= .row g.size κ m) (ff ⟨_,_,rfl⟩)));simp only[execOp];refine D7 ?_;rw[rx,lT];exact g1
    ·cases he
   ·cases ba
  ·cases ar
 ·cases ax
theorem alD{P:cE}{bB:List (Nat×dF)}(aK:fP P bB=true){C:fh}{st st':bs}{a:Act}{w:World}{ν:bf}(aJ:cU C st a w ν){i:eo}{o:Oper}(ax:DP C.N bB i o=true)
  {c:Prop} (he:mf st i=some (c,st')) (au:c) {K:Act→World→Prop} {Q:Exit→Act→World→Prop} (c3:∀bp w' bq,cU C st' bp w' bq→K bp w'):o.wp P a w K Q:=by
 have oF:qc st none→fresh st.n st.o (.loc st.n):=fun h=>wE (key:=none) h;have fq:∀j,fresh (st.n+1) st.o j→fresh st.n st.o j∧j≠ .loc st.n:=wF (key:=none);cases i with
 |v d i=>exact jO (κ:= .loc 0) (n':=0) (o₁:=[]) aK aJ ax (fun h=>by simp[eo.makes]at h) (fun h=>by simp[eo.makes]at h) (by simpa only[mf,eA]using he) au c3
 |box d key x=>simp only[mf]at he;cases he;exact jO (κ:=jM st key) (n':=nv st key) (o₁:=nx st key) aK aJ ax (fun _=>wE au.1) (fun _=>wF) (by simp only[eA]) au.2 c3
 |alloc d key z=>simp only[mf]at he;cases he;exact jO (κ:=jM st key) (n':=nv st key) (o₁:=nx st key) aK aJ ax (fun _=>wE au) (fun _=>wF) (by simp only[eA]) trivial c3
 |mks d key sz el z x=>
  simp only[mf]at he;split at he
  ·rename_i fl n af;cases he;exact jO (κ:=jM st key) (n':=nv st key) (o₁:=nx st key) aK aJ ax (fun _=>wE au.1) (fun _=>wF) (by simp only[eA,af]) au.2 c3
  ·cases he
 |storeE sz x y=>exact jO (κ:= .loc 0) (n':=0) (o₁:=[]) aK aJ ax (fun h=>by simp[eo.makes]at h) (fun h=>by simp[eo.makes]at h) (by simpa only[mf,eA]using he) au c3
 |store sz x y=>exact jO (κ:= .loc 0) (n':=0) (o₁:=[]) aK aJ ax (fun h=>by simp[eo.makes]at h) (fun h=>by simp[eo.makes]at h) (by simpa only[mf,eA]using he) au c3
 |bsl d sz el xs=>simp only[mf]at he;cases he;exact jO (κ:= .loc st.n) (n':=st.n+1) (o₁:=st.o) aK aJ ax (fun _=>oF au.1) (fun _=>fq) (by simp only[eA]) au.2 c3
 |bslm d key sz el xs=>simp only[mf]at he;cases he;exact jO (κ:=jM st key) (n':=nv st key) (o₁:=nx st key) aK aJ ax (fun _=>wE au.1) (fun _=>wF) (by simp only[eA]) au.2 c3
 |appm d key sz el x y=>
  simp only[mf]at he;split at he
  ·rename_i ys aF;cases he;exact jO (κ:=jM st key) (n':=nv st key) (o₁:=nx st key) aK aJ ax (fun _=>wE au.1) (fun _=>wF) (by simp only[eA,aF]) au.2 c3
  ·rename_i k xs ys aF;cases he;refine jO (κ:= .loc 0) (n':=0) (o₁:=[]) aK aJ ax (fun h=>?_) (fun h=>?_) (by simp only[eA,aF]) au c3;all_goals
    exfalso
    simp only[eo.makes]at h
    split at h
    ·rename_i af
     unfold sE at aF
     rw[af]at aF
     split at aF
     ·split at aF<;>cases aF
     ·rename_i J _;cases J
     ·cases aF
    ·cases h
  ·cases he
 |mkmap d key=>simp only[mf]at he;cases he;exact jO (κ:=jM st key) (n':=nv st key) (o₁:=nx st key) aK aJ ax (fun _=>wE au) (fun _=>wF) (by simp only[eA]) trivial c3
 |mput ch x k v=>exact jO (κ:= .loc 0) (n':=0) (o₁:=[]) aK aJ ax (fun h=>by simp[eo.makes]at h) (fun h=>by simp[eo.makes]at h) (by simpa only[mf,eA]using he) au c3
 |range d key x=>
  simp only[mf]at he;split at he
  ·rename_i m af;split at he
   ·rename_i cs dn;split at he
    ·rename_i cs' hm;cases he;exact jO (κ:=jM st key) (n':=nv st key) (o₁:=nx st key) aK aJ ax (fun _=>wE au) (fun _=>wF) (by simp only[eA,af,dn,hm]) trivial c3
    ·cases he
   ·cases he
  ·cases he
 |app d sz el x y=>
  simp only[mf]at he;split at he
  ·rename_i dI tag xs jk k1 ys af aM;split at he
   ·rename_i fc;split at he
    ·rename_i k;split at he
     ·rename_i ow ab;cases he;refine jO (κ:= .loc 0) (n':=0) (o₁:=[]) aK aJ ax (fun h=>by simp[eo.makes,af]at h) (fun h=>by simp[eo.makes,af]at h) ?_ au c3;simp only[eA,af,aM,fc,and_self,if_true,ab]
     ·cases he
    ·cases he;refine jO (κ:= .loc st.n) (n':=st.n+1) (o₁:=st.o) aK aJ ax (fun _=>oF au.1) (fun _=>fq) ?_ au.2 c3;simp only[eA,af,aM,fc,and_self,if_true]
    ·cases he
   ·cases he
  ·cases he
structure cK where
 b:List (aI×List ah)
 e:List (aI×fN)
def fx(ν:bf)(s:cK)(bl:Nat):Prop:=(∃k,(look k s.b).isSome∧ν.bx k=some bl)∨(∃g n v,(look g s.e).isSome∧ν.ow g=some (n,v)∧v.ownBlock=some bl)
def pt(ν:bf)(s:cK):Prop:= ∀k,(look k s.b=none→ν.bx k=none)∧(look k s.e=none→ν.ow k=none)∧∀j b,¬ν.tr k j b
def cX(s:cK):List aI:=s.b.map (·.1)++s.e.map (·.1)
def iQ(s:cK):Prop:=(∀m,look (.loc m) s.b=none)∧(∀m,look (.loc m) s.e=none)
def xb(P:cE)(f:FuncId)(aV:Array Value)(w:World)(R:Ending→World→Prop):Prop:=((∃fn,P.funcs[f]? =some fn∧fn.body.isSome=true∧(fn.name== "runtime.NumGoroutine")=false)∧Calls P f aV w R)∨ ∃v w',(callFunc f aV).run P w= .ok (.value v) w'∧R (.returned v) w'
def bU(P:cE)(f:FuncId)(args:List ah)(s:cK)(Q:ah→cK→Prop):Prop:=
 ∀(w:World) (ν:bf) (aV:Array Value),Good (fx ν s) w ν s.b s.e→pt ν s→cQ w ν args aV.toList→
  xb P f aV w fun e w'=> ∃v r ai bq,e= .returned v∧Q r ai∧bc w' bq r v∧Good (fun bl=>fx ν s bl∨w.heap.size≤bl) w' bq ai.b ai.e∧pt bq ai∧iQ ai∧qx ⟨w,ν,fx ν s,0,cX s⟩ w' bq
def E9(κ:aZ Nat)(ν:bf)(s:cK):Prop:= ∀k,(look k s.b=none→ν.bx k=none)∧(look k s.e=none→ν.ow k=none)∧∀j b,ν.tr k j b→∃m,κ=some m∧k= .loc m
theorem pt.k{ν:bf}{s:cK}(h:pt ν s):E9 none ν s:=fun k=>⟨(h k).1,(h k).2.1,fun j b ad=>absurd ad ((h k).2.2 j b)⟩
def HX(P:cE)(f:FuncId)(κ:Nat)(args:List ah)(s:cK)(Q:ah→cK→Prop):Prop:=
 ∀(w:World) (ν:bf) (aV:Array Value),Good (fx ν s) w ν s.b s.e→pt ν s→cQ w ν args aV.toList→
  xb P f aV w fun e w'=> ∃v r ai bq,e= .returned v∧Q r ai∧bc w' bq r v∧Good (fun bl=>fx ν s bl∨w.heap.size≤bl) w' bq ai.b ai.e∧E9 (some κ) bq ai∧iQ ai∧qx ⟨w,ν,fx ν s,0,cX s⟩ w' bq
def bH(P:cE)(f:FuncId)(args:List ah)(r:ah):Prop:=bU P f args ⟨[],[]⟩ fun eF ai=>eF=r∧ai=⟨[],[]⟩
theorem th{α:Type}{k:aI}{x:α}:∀{l:List (aI×α)},look k l=some x→(k,x)∈l
 |[],h=>by simp[look]at h
 |(i,y)::r,h=>by
  simp only[look]at h;split at h
  ·rename_i e;subst e;cases h;simp
  ·exact pS _ (th h)
theorem tn{s:cK}{k:aI}(h:(look k s.b).isSome∨(look k s.e).isSome):k∈cX s:=by
 unfold cX;rcases h with h|h<;>obtain⟨x,af⟩:=fM.1 h<;>have:=th af
 ·exact List.mem_append_left _ (h5.2 ⟨_,this,rfl⟩)
 ·exact List.mem_append_right _ (h5.2 ⟨_,this,rfl⟩)
section
open Classical
noncomputable def bf.cut(ν:bf)(S:aI→Prop):bf:={A:=ν.A,bx:=fun k=>if S k then ν.bx k else none,ow:=fun k=>if S k then ν.ow k else none,tr:=fun k j b=>S k∧ν.tr k j b}
theorem bf.cut_bx{ν:bf}{S:aI→Prop}{k:aI}(h:S k):(ν.cut S).bx k=ν.bx k:=by simp[bf.cut,h]
theorem bf.cut_ow{ν:bf}{S:aI→Prop}{k:aI}(h:S k):(ν.cut S).ow k=ν.ow k:=by simp[bf.cut,h]
theorem bf.cut_no{ν:bf}{S:aI→Prop}{k:aI}(h:¬S k):(ν.cut S).bx k=none∧(ν.cut S).ow k=none∧∀j b,¬(ν.cut S).tr k j b:=by simp[bf.cut,h]
theorem bf.cut_some{ν:bf}{S:aI→Prop}{k:aI}{b:Nat}(h:(ν.cut S).bx k=some b):S k∧ν.bx k=some b:=by
 by_cases ag:S k
 ·exact⟨ag,by rw[bf.cut_bx ag]at h;exact h⟩
 ·rw[(bf.cut_no ag).1]at h;cases h
theorem bf.cut_someO{ν:bf}{S:aI→Prop}{k:aI}{b:Nat×Value}(h:(ν.cut S).ow k=some b):S k∧ν.ow k=some b:=by
 by_cases ag:S k
 ·exact⟨ag,by rw[bf.cut_ow ag]at h;exact h⟩
 ·rw[(bf.cut_no ag).2.1]at h;cases h
theorem pc.cut(S:aI→Prop)(w:World)(ν:bf):pc S w ν w (ν.cut S):=⟨fun _ _ h=>⟨h,rfl⟩,fun k b ab h=>by rw[bf.cut_bx ab];exact h,fun g n u a7 h=>⟨n,u,by rw[bf.cut_ow a7];exact h,.inl ⟨rfl,rfl⟩⟩,fun _ _ _=>rfl,fun _ _ _ ab h=>⟨ab,h⟩⟩
end
def gG(S:aI→Prop)(b5 b:List (aI×List ah)):Prop:= ∀k cs,look k b5=some cs→look k b=some cs∧S k∧aH S cs
def oV(S:aI→Prop)(fy e:List (aI×fN)):Prop:= ∀k o,look k fy=some o→look k e=some o∧S k∧dN S o
theorem Good.cut{pr Dz:Nat→Prop}{w:World}{ν:bf}{b b5:List (aI×List ah)}{e fy:List (aI×fN)}(h:Good pr w ν b e){S:aI→Prop}(ad:gG S b5 b)(he:oV S fy e)
  (S8:∀bl,pr bl→(∃k,(look k b5).isSome∧(ν.cut S).bx k=some bl)∨(∃g n v,(look g fy).isSome∧(ν.cut S).ow g=some (n,v)∧v.ownBlock=some bl)→Dz bl):Good Dz w (ν.cut S) b5 fy:=by
 have Fw:∀k,(look k b5).isSome→(look k b).isSome∧S k:=fun k ab=>by obtain⟨cs,dn⟩:=fM.1 ab;have:=ad k cs dn;exact⟨by simp[this.1],this.2.1⟩
 have Fy:∀k,(look k fy).isSome→(look k e).isSome∧S k:=fun k ab=>by obtain⟨cs,dn⟩:=fM.1 ab;have:=he k cs dn;exact⟨by simp[this.1],this.2.1⟩
 refine⟨h.alt,fun k cs ab=>?_,fun k bS bl J U ar ba=>?_,fun g o a7=>?_,fun g eI n n' v v' bl J U ar ba b4 c9=>?_,fun g k n v bl J U ar ba b4=>?_,fun k=>?_,fun bl aK k j ae=>?_⟩
 ·obtain⟨g1,g2,g3⟩:=ad k cs ab;obtain⟨bl,us,el,f1,f2,f3,f4,f5⟩:=h.box k cs g1;have lC:(ν.cut S).bx k=some bl:=by rw[bf.cut_bx g2];exact f1
  exact⟨bl,us,el,lC,S8 bl f2 (.inl ⟨k,by simp[ab],lC⟩),f3,f4,WC (pc.cut S w ν) g3 f5⟩
 ·obtain⟨bD,a2⟩:=Fw k J;obtain⟨cl,b8⟩:=Fw bS U;exact h.inj k bS bl bD cl (bf.cut_some ar).2 (bf.cut_some ba).2
 ·obtain⟨g1,g2,g3⟩:=he g o a7;obtain⟨v,us,f1,f2,f3,f4⟩:=h.own g o g1;have Cy:(ν.cut S).ow g=some (o.n,v):=by rw[bf.cut_ow g2];exact f1
  exact⟨v,us,Cy,f2,fun bl fb=>⟨S8 bl (f3 bl fb).1 (.inr ⟨g,o.n,v,by simp[a7],Cy,fb⟩),(f3 bl fb).2⟩,
   fun xs af=>⟨(f4 xs af).1,He (pc.cut S w ν) _ _ _ (g3 xs af) (f4 xs af).2.1,(f4 xs af).2.2⟩⟩
 ·obtain⟨bD,a2⟩:=Fy g J;obtain⟨cl,b8⟩:=Fy eI U;exact h.oinj g eI n n' v v' bl bD cl (bf.cut_someO ar).2 (bf.cut_someO ba).2 b4 c9
 ·obtain⟨bD,a2⟩:=Fy g J;obtain⟨cl,b8⟩:=Fw k U;exact h.obx g k n v bl bD cl (bf.cut_someO ar).2 ba (bf.cut_some b4).2
 ·by_cases ag:S k
  ·rw[bf.cut_bx ag,bf.cut_ow ag];exact h.one k
  ·exact .inl (bf.cut_no ag).1
 ·refine h.otr bl ?_ k j ae.2;rcases aK with⟨bS,bD,a2⟩|⟨g,n,v,bD,a2,a3⟩
  ·exact .inl ⟨bS,(Fw bS bD).1,(bf.cut_some a2).2⟩
  ·exact .inr ⟨g,n,v,(Fy g bD).1,(bf.cut_someO a2).2,a3⟩
structure iG (ob:List aI) (st st':bs):Prop where
 t:∀x∈st'.t,get x.1 st.t=x.2∧aB (fun k=> ¬fresh st'.n st'.o k) x.2
 b:gG (fun k=> ¬fresh st'.n st'.o k) st'.b st.b
 e:oV (fun k=> ¬fresh st'.n st'.o k) st'.e st.e
 o:∀m∈ob,m∈st'.o
theorem R8:∀(i:Nat) (l:List (Nat×ah)),get i l= .junk∨(i,get i l)∈l
 |_,[]=>.inl rfl
 |i,(j,p)::r=>by
  by_cases h:j=i
  ·subst h;right;simp[get]
  ·rcases R8 i r with J|J
   ·left;simp[get,h,J]
   ·right;simp[get,h];right;exact J
theorem cU.weaker{C:fh}{st st':bs}{a:Act}{w:World}{ν:bf}(h:cU C st a w ν)(hw:iG C.ob st st'):cU C st' a w (ν.cut fun k=> ¬fresh st'.n st'.o k):=by
 refine⟨h.good.cut hw.b hw.e (fun bl bG _=>bG),⟨h.fr.os,h.fr.tape,h.fr.output,h.fr.size,h.fr.block,h.fr.keep,h.fr.fresh,fun n b ad=>?_,h.fr.obn,fun m n u hm=>?_,h.fr.obr,fun k j bS dD b J U=>h.fr.trd k j bS dD b J.2 U.2,fun k j b ad=>h.fr.trb k j b ad.2,fun k j b ad=>?_,h.fr.sh⟩,h.defers,h.size,fun i=>?_,fun k ab=>bf.cut_no (fun ay=>ay ab)⟩
 ·rw[bf.cut_bx (fun cw=>cw.2 (hw.o _ (h.fr.obn n b ad)))];exact h.fr.obj n b ad
 ·rw[bf.cut_ow (fun cw=>cw.2 (hw.o _ (h.fr.obr m n u hm)))];exact h.fr.row m n u hm
 ·rw[bf.cut_bx ad.1,bf.cut_ow ad.1];exact h.fr.trn k j b ad.2
 ·rcases R8 i st'.t with ae|hm
  ·rw[ae];simp[bc]
  ·obtain⟨J,U⟩:=hw.t _ hm;simp only at J;have:=h.slot i;rw[J]at this;exact vd (pc.cut _ w ν) _ _ U this
mutual
def dm:ah→ah
 | .slice sz _ xs=>.slice sz .no (cR xs)
 | .agg cs=>.agg (cR cs)
 | .tuple aV=>.tuple (cR aV)
 | .eptr x=>.eptr (dm x)
 | .iface t x=>.iface t (dm x)
 | .func f dj=>.func f (cR dj)
 |p=>p
def cR:List ah→List ah
 |[]=>[]
 |x::xs=>dm x::cR xs
end
theorem vl:∀xs,(cR xs).length=xs.length
 |[]=>rfl
 |x::xs=>by simp[cR,vl xs]
mutual
theorem JB{t:Bool}{w:World}{A:Nat→Nat→Prop}:∀(p:ah) (F:Nat→Prop) (v:Value),gd t w A F p v→gd t w A F (dm p) v
 | .int _ _,_,_,h=>by simpa only[dm]using h
 | .bool _,_,_,h=>by simpa only[dm]using h
 | .str _,_,_,h=>by simpa only[dm]using h
 | .slice sz tag xs,F,v,h=>by
  simp only[gd,dm]at h⊢;obtain⟨a,cap,J,U,ar,ba⟩:=h;refine⟨a,cap,by rw[vl];exact J,by rw[vl];exact U,by rw[vl];exact ar,?_⟩;rcases ba with rfl|⟨b,off,us,G,ak,aE,bj,c2,ha,hP⟩
  ·exact .inl rfl
  ·exact .inr ⟨b,off,us,G,ak,aE,bj,c2,ha,RT sz xs G us hP⟩
 | .agg cs,F,v,h=>by simp only[gd,dm]at h⊢;obtain⟨us,J,U⟩:=h;exact⟨us,J,RU cs F _ U⟩
 | .junk,_,_,h=>by simp[gd]at h
 | .ptr _ _,_,_,h=>by simp[gd]at h
 | .eptr _,_,_,h=>by simp[gd]at h
 | .iface _ _,_,_,h=>by simp[gd]at h
 | .nilp,_,_,h=>by simp[gd]at h
 | .tuple _,_,_,h=>by simp[gd]at h
 | .func _ _,_,_,h=>by simp[gd]at h
 | .gmap _,_,_,h=>by simp[gd]at h
 | .row _ _ _,_,_,h=>by simp[gd]at h
 | .rptr _ _ _ _ _,_,_,h=>by simp[gd]at h
 | .hdm _ _,_,_,h=>by simp[gd]at h
 | .hdi _ _ _,_,_,h=>by simp[gd]at h
 | .cst _,_,_,h=>by simp[gd]at h
theorem RU{t:Bool}{w:World}{A:Nat→Nat→Prop}:∀(cs:List ah) (F:Nat→Prop) (us:List Value),uk t w A F cs us→uk t w A F (cR cs) us
 |[],_,_,h=>by simpa only[cR]using h
 |c::cs,F,us,h=>by simp only[uk,cR]at h⊢;obtain⟨u,cn,h7,ir,J,U,⟨b4,c9⟩,ej⟩:=h;exact⟨u,cn,h7,ir,J,U,⟨JB c h7 u b4,c9⟩,RU cs ir cn ej⟩
theorem RT{t:Bool}{w:World}{A:Nat→Nat→Prop}(sz:Nat):∀(cs:List ah) (F:Nat→Prop) (us:List Value),uj t w A F sz cs us→uj t w A F sz (cR cs) us
 |[],_,_,h=>by simpa only[cR]using h
 |c::cs,F,us,h=>by simp only[uj,cR]at h⊢;obtain⟨u,cn,h7,ir,J,U,⟨b4,c9⟩,ej⟩:=h;exact⟨u,cn,h7,ir,J,U,⟨JB c h7 u b4,c9⟩,RT sz cs ir cn ej⟩
end
theorem RS{t:Bool}{w:World}{A:Nat→Nat→Prop}{F:Nat→Prop}{sz:Nat}{tag:Bw}(k1:Bw){xs:List ah}(v:Value)(h:gd t w A F (.slice sz tag xs) v):gd t w A F (.slice sz k1 (cR xs)) v:=by have:=JB _ F v h;simp only[dm,gd]at this⊢;exact this
mutual
theorem yI{w:World}{ν:bf}:∀(p:ah) (v:Value),bc w ν p v→bc w ν (dm p) v
 | .junk,_,h=>by simpa only[dm]using h
 | .int k n,_,h=>by simpa only[dm]using h
 | .bool b,_,h=>by simpa only[dm]using h
 | .str s,_,h=>by simpa only[dm]using h
 | .slice sz tag xs,v,h=>by
  simp only[bc,dm]at h⊢;obtain⟨⟨a,cap,J,U,ar,ba⟩,b4,c9⟩:=h;refine⟨⟨a,cap,by rw[vl];exact J,by rw[vl];exact U,by rw[vl];exact ar,?_⟩,fun e=>(by cases e),fun g e=>(by cases e),fun _ _ e=>(by cases e),fun _ e=>(by cases e)⟩;rcases ba with rfl|⟨b,off,us,ba,c9,ej⟩
  ·exact .inl rfl
  ·exact .inr ⟨b,off,us,ba,c9,WG sz xs us ej⟩
 | .agg cs,v,h=>by simp only[bc,dm]at h⊢;obtain⟨us,J,U⟩:=h;exact⟨us,J,WK cs _ U⟩
 | .ptr key off,v,h=>by simpa only[dm]using h
 | .iface t x,v,h=>by simp only[bc,dm]at h⊢;obtain⟨u,J,U⟩:=h;exact⟨u,J,yI x u U⟩
 | .eptr x,v,h=>by simp only[bc,dm]at h⊢;obtain⟨b,off,u,J,U,ar⟩:=h;exact⟨b,off,u,J,yI x u U,ar⟩
 | .nilp,_,h=>by simpa only[dm]using h
 | .tuple aV,v,h=>by simp only[bc,dm]at h⊢;obtain⟨us,J,U⟩:=h;exact⟨us,J,Hl aV _ U⟩
 | .func f dj,v,h=>by simp only[bc,dm]at h⊢;obtain⟨us,J,U⟩:=h;exact⟨us,J,Hl dj _ U⟩
 | .gmap key,v,h=>by simpa only[dm]using h
 | .row _ _ _,v,h=>by simpa only[dm]using h
 | .rptr _ _ _ _ _,v,h=>by simpa only[dm]using h
 | .cst _,v,h=>by simpa only[dm]using h
theorem WK{w:World}{ν:bf}:∀(cs:List ah) (us:List Value),c7 w ν cs us→c7 w ν (cR cs) us
 |[],_,h=>by simpa only[cR]using h
 |c::cs,us,h=>by simp only[c7,cR]at h⊢;obtain⟨u,cn,J,U,ar⟩:=h;exact⟨u,cn,J,⟨yI c u U.1,U.2⟩,WK cs cn ar⟩
theorem Hl{w:World}{ν:bf}:∀(cs:List ah) (us:List Value),cQ w ν cs us→cQ w ν (cR cs) us
 |[],_,h=>by simpa only[cR]using h
 |c::cs,us,h=>by simp only[cQ,cR]at h⊢;obtain⟨u,cn,J,U,ar⟩:=h;exact⟨u,cn,J,yI c u U,Hl cs cn ar⟩
theorem WG{w:World}{ν:bf}(sz:Nat):∀(xs:List ah) (us:List Value),dB w ν sz xs us→dB w ν sz (cR xs) us
 |[],_,h=>by simpa only[cR]using h
 |x::xs,us,h=>by simp only[dB,cR]at h⊢;obtain⟨u,cn,J,⟨U,ar,ba⟩,b4⟩:=h;exact⟨u,cn,J,⟨yI x u U,ar,ba⟩,WG sz xs cn b4⟩
end
def inObs(s:cK)(k:aI):Prop:=(look k s.b).isSome=true∨(look k s.e).isSome=true
def cz{α β:Type}(s:List (aI×β)):List (aI×α)→List (aI×α)
 |[]=>[]
 |(k,x)::r=>match look k s with
  |some _=>cz s r
  |none=>(k,x)::cz s r
theorem uX{α β:Type}(s:List (aI×β))(k:aI):∀l:List (aI×α),look k (cz s l)=if(look k s).isSome then none else look k l
 |[]=>by simp[cz,look]
 |(i,x)::r=>by
  simp only[cz];by_cases e:i=k
  ·subst e;cases h:look i s with
   |some y=>simp[uX s i r,h]
   |none=>simp[look]
  ·cases h:look i s with
   |some y=>simp[uX s k r,look,e]
   |none=>simp[look,e,uX s k r]
theorem yl{α:Type}(k:aI):∀l a1:List (aI×α),look k (l++a1)=match look k l with|some x=>some x|none=>look k a1
 |[],a1=>by simp[look]
 |(i,x)::r,a1=>by
  by_cases e:i=k
  ·simp[look,e]
  ·simp[look,e,yl k r a1]
def after(st:bs)(s ai:cK)(d:aZ Nat)(r:ah):bs:={t:=eM d r st.t,b:=cz s.b st.b++ai.b,e:=cz s.e st.e++ai.e,n:=st.n,o:=st.o++cX ai}
section
open Classical
noncomputable def bf.join(ν bq:bf)(s ai:cK):bf:={A:=bq.A,bx:=fun k=>if(look k s.b).isSome∨(look k ai.b).isSome then bq.bx k else ν.bx k,ow:=fun k=>if(look k s.e).isSome∨(look k ai.e).isSome then bq.ow k else ν.ow k,tr:=fun k j b=>ν.tr k j b∨bq.tr k j b}
end
theorem cU.callK{C:fh}{st:bs}{a:Act}{w w':World}{ν bq:bf}(h:cU C st a w ν){s ai:cK}(ad:gG (inObs s) s.b st.b)(he:oV (inObs s) s.e st.e)(uG:iQ s)
  (a7:Good (fun bl=>fx (ν.cut (inObs s)) s bl∨w.heap.size≤bl) w' bq ai.b ai.e) {κ:aZ Nat} (af:E9 κ bq ai) (age:∀m,κ=some m→ν.bx (.loc m)=none∧ν.ow (.loc m)=none∧∀j b,¬ν.tr (.loc m) j b) {n':Nat} {o':List aI} (ct:∀k,fresh n' o' k→fresh st.n (st.o++cX ai) k∧∀m,κ=some m→k≠ .loc m) (sY:iQ ai) (aL:qx ⟨w,ν.cut (inObs s),fx (ν.cut (inObs s)) s,0,cX s⟩ w' bq)
  (Kh:∀m,(look (.obj m) ai.b).isSome→(look (.obj m) s.b).isSome∨ .obj m∉st.o) (cF:∀m,(look (.obj m) ai.e).isSome→(look (.obj m) s.e).isSome∨ .obj m∉st.o) (d:aZ Nat) (aQ:jo C.N d=true) {r:ah} {v:Value} (aJ:bc w' bq r v):
  cU C {after st s ai d r with n:=n',o:=o'} (a.put d v) w' (ν.join bq s ai):=by
 have lg:∀k,(look k s.b).isSome→(look k st.b).isSome:=fun k ab=>by obtain⟨cs,dn⟩:=fM.1 ab;simp[(ad k cs dn).1]
 have lJ:∀k,(look k s.e).isSome→(look k st.e).isSome:=fun k ab=>by obtain⟨cs,dn⟩:=fM.1 ab;simp[(he k cs dn).1]
 have afz:∀k,(look k ai.b).isSome→¬(look k s.b).isSome→ν.bx k=none:=fun k ab ay=>by
  cases k with
  |loc m=>rw[sY.1 m]at ab;cases ab
  |obj m=>exact(h.new (.obj m) ⟨trivial,(Kh m ab).resolve_left ay⟩).1
 have afA:∀k,(look k ai.e).isSome→¬(look k s.e).isSome→ν.ow k=none:=fun k ab ay=>by
  cases k with
  |loc m=>rw[sY.2 m]at ab;cases ab
  |obj m=>exact(h.new (.obj m) ⟨trivial,(cF m ab).resolve_left ay⟩).2.1
 have agM:∀k,(look k s.b).isSome→(ν.join bq s ai).bx k=bq.bx k:=fun k ab=>by simp[bf.join,ab]
 have TJ:∀k,(look k ai.b).isSome→(ν.join bq s ai).bx k=bq.bx k:=fun k ab=>by simp[bf.join,ab]
 have TK:∀k,ν.bx k≠none→¬(look k s.b).isSome→(ν.join bq s ai).bx k=ν.bx k:=fun k J U=>by have ar:¬(look k ai.b).isSome:=fun ar=>J (afz k ar U);simp[bf.join,U,ar]
 have agN:∀k,(look k s.e).isSome→(ν.join bq s ai).ow k=bq.ow k:=fun k ab=>by simp[bf.join,ab]
 have KR:∀k,(look k ai.e).isSome→(ν.join bq s ai).ow k=bq.ow k:=fun k ab=>by simp[bf.join,ab]
 have KS:∀k,ν.ow k≠none→¬(look k s.e).isSome→(ν.join bq s ai).ow k=ν.ow k:=fun k J U=>by have ar:¬(look k ai.e).isSome:=fun ar=>J (afA k ar U);simp[bf.join,U,ar]
 have Ym:∀k b,bq.bx k=some b→(look k ai.b).isSome:=fun k b ab=>by
  cases aw:look k ai.b with
  |some _=>rfl
  |none=>rw[(af k).1 aw]at ab;cases ab
 have Yn:∀k b,bq.ow k=some b→(look k ai.e).isSome:=fun k b ab=>by
  cases aw:look k ai.e with
  |some _=>rfl
  |none=>rw[(af k).2.1 aw]at ab;cases ab
 have ax:lv w ν w' (ν.join bq s ai):=by
  refine⟨fun b o bk=>aL.keep b o bk,fun k b _ ab=>?_,fun g n u _ a7=>?_,fun b o bk=>aL.sh b o bk,fun _ _ _ _ h=>.inl h⟩
  ·by_cases ag:(look k s.b).isSome
   ·rw[agM k ag];cases k with
    |loc m=>rw[uG.1 m]at ag;cases ag
    |obj m=>exact aL.obj m b (by rw[bf.cut_bx (.inl ag)];exact ab)
   ·rw[TK k (by rw[ab];simp) ag];exact ab
  ·by_cases ag:(look g s.e).isSome
   ·rw[agN g ag];cases g with
    |loc m=>rw[uG.2 m]at ag;cases ag
    |obj m=>exact aL.row m n u (by rw[bf.cut_ow (.inr ag)];exact a7)
   ·rw[KS g (by rw[a7];simp) ag];exact⟨n,u,a7,.inl ⟨rfl,rfl⟩⟩
 have fW:lv w' bq w' (ν.join bq s ai):=⟨fun b o bk=>⟨bk,rfl⟩,fun k b _ ab=>by rw[TJ k (Ym k b ab)];exact ab,fun g n u _ ab=>⟨n,u,by rw[KR g (Yn g _ ab)];exact ab,.inl ⟨rfl,rfl⟩⟩,fun _ _ _=>rfl,fun _ _ _ _ h=>.inr h⟩
 have qO:∀bl,fx (ν.cut (inObs s)) s bl→C.pr bl∧bl<w.heap.size:=by
  intro bl fb;rcases fb with⟨k,J,U⟩|⟨g,n,u,J,U,ar⟩
  ·have ba:=(bf.cut_some U).2;obtain⟨cs,dn⟩:=fM.1 (lg k J);obtain⟨iw,us,el,g1,g2,_⟩:=h.good.box k cs dn;rw[ba]at g1;cases g1;exact⟨g2,h.good.boxLt dn ba⟩
  ·have ba:=(bf.cut_someO U).2;obtain⟨o,FJ⟩:=fM.1 (lJ g J);obtain⟨v',us,g1,g2,g3,_⟩:=h.good.own g o FJ;rw[ba]at g1;cases g1;exact⟨(g3 bl ar).1,h.good.ownLt FJ ba ar⟩
 have S9:∀bl,fx (ν.cut (inObs s)) s bl∨w.heap.size≤bl→C.pr bl:=fun bl fb=>by
  rcases fb with fb|fb
  ·exact(qO bl fb).1
  ·exact .inr (jT h.fr.size fb)
 have afV:∀k cs bl,look k st.b=some cs→¬(look k s.b).isSome→ν.bx k=some bl→¬fx (ν.cut (inObs s)) s bl:=by
  intro k cs bl J U ar ba;rcases ba with⟨bS,bD,a2⟩|⟨g,n,u,bD,a2,a3⟩
  ·have:=h.good.inj k bS bl (by simp[J]) (lg bS bD) ar (bf.cut_some a2).2;subst this;exact U bD
  ·exact h.good.obx g k n u bl (lJ g bD) (by simp[J]) (bf.cut_someO a2).2 a3 ar
 have afW:∀g o n u bl,look g st.e=some o→¬(look g s.e).isSome→ν.ow g=some (n,u)→u.ownBlock=some bl→¬fx (ν.cut (inObs s)) s bl:=by
  intro g o n u bl J U ar ba b4;rcases b4 with⟨bS,bD,a2⟩|⟨eI,n',e8,bD,a2,a3⟩
  ·exact h.good.obx g bS n u bl (by simp[J]) (lg bS bD) ar ba (bf.cut_some a2).2
  ·have:=h.good.oinj g eI n n' u e8 bl (by simp[J]) (lJ eI bD) ar (bf.cut_someO a2).2 ba a3;subst this;exact U bD
 have QM:∀k cs,look k (cz s.b st.b++ai.b)=some cs→(¬(look k s.b).isSome∧look k st.b=some cs)∨look k ai.b=some cs:=by
  intro k cs ab;rw[yl,uX]at ab;by_cases ag:(look k s.b).isSome
  ·simp only[ag,if_true]at ab;exact .inr ab
  ·simp only[ag]at ab;cases aw:look k st.b with
   |some x=>simp[aw]at ab;subst ab;exact .inl ⟨ag,rfl⟩
   |none=>simp[aw]at ab;exact .inr ab
 have QN:∀k cs,look k (cz s.e st.e++ai.e)=some cs→(¬(look k s.e).isSome∧look k st.e=some cs)∨look k ai.e=some cs:=by
  intro k cs ab;rw[yl,uX]at ab;by_cases ag:(look k s.e).isSome
  ·simp only[ag,if_true]at ab;exact .inr ab
  ·simp only[ag]at ab;cases aw:look k st.e with
   |some x=>simp[aw]at ab;subst ab;exact .inl ⟨ag,rfl⟩
   |none=>simp[aw]at ab;exact .inr ab
 have A8:∀bl,fx (ν.cut (inObs s)) s bl∨w.heap.size≤bl→∀iw,iw<w.heap.size→¬fx (ν.cut (inObs s)) s iw→bl≠iw:=by
  intro bl J iw U ar e;subst e;rcases J with J|J
  ·exact ar J
  ·omega
 have KW:∀bl,bl<w.heap.size→¬fx (ν.cut (inObs s)) s bl→w'.heap[bl]? =w.heap[bl]?:=fun bl J U=>aL.block bl J U;have isB:∀k bl,(look k (cz s.b st.b++ai.b)).isSome→(ν.join bq s ai).bx k=some bl→(¬(look k s.b).isSome∧(look k st.b).isSome∧ν.bx k=some bl)∨((look k ai.b).isSome∧bq.bx k=some bl):=by
  intro k bl ab lC;obtain⟨cs,dn⟩:=fM.1 ab;rcases QM k cs dn with⟨J,U⟩|J
  ·obtain⟨iw,us,el,g1,_⟩:=h.good.box k cs U;rw[TK k (by rw[g1];simp) J]at lC;exact .inl ⟨J,by simp[U],lC⟩
  ·rw[TJ k (by simp[J])]at lC;exact .inr ⟨by simp[J],lC⟩
 have F5:∀k x,(look k (cz s.e st.e++ai.e)).isSome→(ν.join bq s ai).ow k=some x→(¬(look k s.e).isSome∧(look k st.e).isSome∧ν.ow k=some x)∨((look k ai.e).isSome∧bq.ow k=some x):=by
  intro k x ab lC;obtain⟨cs,dn⟩:=fM.1 ab;rcases QN k cs dn with⟨J,U⟩|J
  ·obtain⟨v',us,g1,_⟩:=h.good.own k cs U;rw[KS k (by rw[g1];simp) J]at lC;exact .inl ⟨J,by simp[U],lC⟩
  ·rw[KR k (by simp[J])]at lC;exact .inr ⟨by simp[J],lC⟩
 have BD:∀k bl,¬(look k s.b).isSome→(look k st.b).isSome→ν.bx k=some bl→bl<w.heap.size∧¬fx (ν.cut (inObs s)) s bl:=by intro k bl J U ar;obtain⟨cs,dn⟩:=fM.1 U;exact⟨h.good.boxLt dn ar,afV k cs bl dn J ar⟩
 have yK:∀k n u bl,¬(look k s.e).isSome→(look k st.e).isSome→ν.ow k=some (n,u)→u.ownBlock=some bl→bl<w.heap.size∧¬fx (ν.cut (inObs s)) s bl:=by intro k n u bl J U ar ba;obtain⟨cs,dn⟩:=fM.1 U;exact⟨h.good.ownLt dn ar ba,afW k cs n u bl dn J ar ba⟩
 have EA:∀k bl,(look k ai.b).isSome→bq.bx k=some bl→fx (ν.cut (inObs s)) s bl∨w.heap.size≤bl:=by intro k bl J U;obtain⟨cs,dn⟩:=fM.1 J;obtain⟨iw,us,el,g1,g2,_⟩:=a7.box k cs dn;rw[U]at g1;cases g1;exact g2
 have Hn:∀k n u bl,(look k ai.e).isSome→bq.ow k=some (n,u)→u.ownBlock=some bl→fx (ν.cut (inObs s)) s bl∨w.heap.size≤bl:=by intro k n u bl J U ar;obtain⟨cs,dn⟩:=fM.1 J;obtain⟨v',us,g1,g2,g3,_⟩:=a7.own k cs dn;rw[U]at g1;cases g1;exact(g3 bl ar).1
 have bk:∀bl o,bq.A bl o→bl<w.heap.size→¬fx (ν.cut (inObs s)) s bl→ν.A bl o:=by
  intro bl o J U ar;rcases aL.fresh bl o J with ba|ba|ba
  ·exact ba
  ·exact absurd ba ar
  ·simp only at ba;omega
 have p4:cU C {t:=st.t,b:=cz s.b st.b++ai.b,e:=cz s.e st.e++ai.e,n:=n',o:=o'} a w' (ν.join bq s ai):=by
  refine h.over ax rfl ⟨a7.alt,fun k cs ab=>?_,fun k bS bl J U ar ba=>?_,fun g o dC=>?_,fun g eI n n' u e8 bl J U ar ba b4 c9=>?_,fun g k n u bl J U ar ba b4=>?_,fun k=>?_,fun bl aK k j lL=>?_⟩
   ⟨aL.os.trans h.fr.os,aL.tape.trans h.fr.tape,aL.output.trans h.fr.output,jT h.fr.size aL.size,fun k ab hm=>?_,fun b o rH=>?_,fun b o rH=>?_,fun n b ay=>ax.bx _ _ trivial (h.fr.obj n b ay),h.fr.obn,
    fun m n u hm=>DN (h.fr.row m n u hm) (fun n u=>ax.ow _ n u trivial),h.fr.obr,fun k j bS dD b J U=>?_,fun k j b ad=>?_,fun k j b ad=>?_,fun b o bk=>(ax.sh b o (h.fr.keep b o bk).1).trans (h.fr.sh b o bk)⟩ (fun k ab=>?_)
  ·rcases QM k cs ab with⟨J,U⟩|J
   ·obtain⟨bl,us,el,g1,g2,g3,g4,g5⟩:=h.good.box k cs U;obtain⟨cl,b8⟩:=BD k bl J (by simp[U]) g1;exact⟨bl,us,el,ax.bx _ _ trivial g1,g2,fun o rH=>g3 o (bk bl o rH cl b8),by rw[KW bl cl b8];exact g4,ql ax g5⟩
   ·obtain⟨bl,us,el,g1,g2,g3,g4,g5⟩:=a7.box k cs J;exact⟨bl,us,el,fW.bx _ _ trivial g1,S9 bl g2,g3,g4,ql fW g5⟩
  ·rcases isB k bl J ar with⟨bD,a2,a3⟩|⟨bD,a2⟩<;>rcases isB bS bl U ba with⟨cl,b8,fG⟩|⟨cl,b8⟩
   ·exact h.good.inj k bS bl a2 b8 a3 fG
   ·obtain⟨bL,cp⟩:=BD k bl bD a2 a3;exact absurd rfl (A8 bl (EA bS bl cl b8) bl bL cp)
   ·obtain⟨bL,cp⟩:=BD bS bl cl b8 fG;exact absurd rfl (A8 bl (EA k bl bD a2) bl bL cp)
   ·exact a7.inj k bS bl bD cl a2 b8
  ·rcases QN g o dC with⟨J,U⟩|J
   ·obtain⟨u,us,g1,g2,g3,g4⟩:=h.good.own g o U;refine⟨u,us,by rw[KS g (by rw[g1];simp) J];exact g1,⟨g2.1,?_⟩,fun bl fb=>?_,sd ax (fun bl fb j rH=>?_) g4⟩
    ·rcases g2.2 with aE|⟨bb,cap,cur,f1,f2,f3,f4⟩
     ·exact .inl aE
     ·obtain⟨cl,b8⟩:=yK g _ u bb J (by simp[U]) g1 (by rw[f1];rfl);exact .inr ⟨bb,cap,cur,f1,f2,by rw[KW bb cl b8];exact f3,f4⟩
    ·obtain⟨cl,b8⟩:=yK g _ u bl J (by simp[U]) g1 fb;exact⟨(g3 bl fb).1,fun j rH=>(g3 bl fb).2 j (bk bl j rH cl b8)⟩
    ·obtain⟨cl,b8⟩:=yK g _ u bl J (by simp[U]) g1 fb;exact bk bl j rH cl b8
   ·obtain⟨u,us,g1,g2,g3,g4⟩:=a7.own g o J;exact⟨u,us,by rw[KR g (by simp[J])];exact g1,g2,fun bl fb=>⟨S9 bl (g3 bl fb).1,(g3 bl fb).2⟩,sd fW (fun _ _ _ h=>h) g4⟩
  ·rcases F5 g _ J ar with⟨bD,a2,a3⟩|⟨bD,a2⟩<;>rcases F5 eI _ U ba with⟨cl,b8,fG⟩|⟨cl,b8⟩
   ·exact h.good.oinj g eI n n' u e8 bl a2 b8 a3 fG b4 c9
   ·obtain⟨bL,cp⟩:=yK g n u bl bD a2 a3 b4;exact absurd rfl (A8 bl (Hn eI n' e8 bl cl b8 c9) bl bL cp)
   ·obtain⟨bL,cp⟩:=yK eI n' e8 bl cl b8 fG c9;exact absurd rfl (A8 bl (Hn g n u bl bD a2 b4) bl bL cp)
   ·exact a7.oinj g eI n n' u e8 bl bD cl a2 b8 b4 c9
  ·rcases F5 g _ J ar with⟨bD,a2,a3⟩|⟨bD,a2⟩<;>rcases isB k bl U b4 with⟨cl,b8,fG⟩|⟨cl,b8⟩
   ·exact h.good.obx g k n u bl a2 b8 a3 ba fG
   ·obtain⟨bL,cp⟩:=yK g n u bl bD a2 a3 ba;exact absurd rfl (A8 bl (EA k bl cl b8) bl bL cp)
   ·obtain⟨bL,cp⟩:=BD k bl cl b8 fG;exact absurd rfl (A8 bl (Hn g n u bl bD a2 ba) bl bL cp)
   ·exact a7.obx g k n u bl bD cl a2 ba b8
  ·
   cases lC:(ν.join bq s ai).bx k with
   |none=>exact .inl rfl
   |some bl=>
    right;cases Cy:(ν.join bq s ai).ow k with
    |none=>rfl
    |some x=>
     exfalso;have ak:(ν.bx k=some bl∧¬(look k s.b).isSome∧¬(look k ai.b).isSome)∨bq.bx k=some bl:=by
      by_cases ag:(look k s.b).isSome∨(look k ai.b).isSome
      ·right;simpa[bf.join,ag]using lC
      ·left;simp only[not_or]at ag;exact⟨by simpa[bf.join,ag.1,ag.2]using lC,ag.1,ag.2⟩
     have aE:(ν.ow k=some x∧¬(look k s.e).isSome∧¬(look k ai.e).isSome)∨bq.ow k=some x:=by
      by_cases ag:(look k s.e).isSome∨(look k ai.e).isSome
      ·right;simpa[bf.join,ag]using Cy
      ·left;simp only[not_or]at ag;exact⟨by simpa[bf.join,ag.1,ag.2]using Cy,ag.1,ag.2⟩
     rcases ak with⟨bD,a2,a3⟩|bD<;>rcases aE with⟨cl,b8,fG⟩|cl
     ·rcases h.good.one k with cw|cw
      ·rw[cw]at bD;cases bD
      ·rw[cw]at cl;cases cl
     ·have uE:=Yn k x cl;have fc:(look k s.e).isSome:=by
       cases k with
       |loc m=>rw[sY.2 m]at uE;cases uE
       |obj m=>
        rcases cF m uE with cw|cw
        ·exact cw
        ·rw[(h.new (.obj m) ⟨trivial,cw⟩).1]at bD;cases bD
      obtain⟨o,FJ⟩:=fM.1 (lJ k fc);obtain⟨v',us,g1,_⟩:=h.good.own k o FJ;rcases h.good.one k with cw|cw
      ·rw[cw]at bD;cases bD
      ·rw[cw]at g1;cases g1
     ·have p2:=Ym k bl bD;have fc:(look k s.b).isSome:=by
       cases k with
       |loc m=>rw[sY.1 m]at p2;cases p2
       |obj m=>
        rcases Kh m p2 with cw|cw
        ·exact cw
        ·rw[(h.new (.obj m) ⟨trivial,cw⟩).2.1]at cl;cases cl
      obtain⟨cs,dn⟩:=fM.1 (lg k fc);obtain⟨iw,us,el,g1,_⟩:=h.good.box k cs dn;rcases h.good.one k with cw|cw
      ·rw[cw]at g1;cases g1
      ·rw[cw]at cl;cases cl
     ·rcases a7.one k with cw|cw
      ·rw[cw]at bD;cases bD
      ·rw[cw]at cl;cases cl
  ·have SX:∀k j,bq.tr k j bl→w.heap.size≤bl:=fun k j cw=>by
    rcases(aL.trb k j bl cw).1 with a2|a2
    ·obtain⟨m,_,hm⟩:=(af k).2.2 j bl cw;rw[hm]at a2;cases a2
    ·exact a2
   have hold:fx (ν.cut (inObs s)) s bl→¬ν.tr k j bl:=by
    rintro(⟨bS,bD,a2⟩|⟨g,n,u,bD,a2,a3⟩) cw
    ·exact h.good.otr bl (.inl ⟨bS,lg bS bD,(bf.cut_some a2).2⟩) k j cw
    ·exact h.good.otr bl (.inr ⟨g,n,u,lJ g bD,(bf.cut_someO a2).2,a3⟩) k j cw
   have kA:fx (ν.cut (inObs s)) s bl∨w.heap.size≤bl→¬ν.tr k j bl:=by
    rintro(J|J) cw
    ·exact hold J cw
    ·have:=(h.fr.trb k j bl cw).2;omega
   rcases aK with⟨bS,bD,a2⟩|⟨g,n,u,bD,a2,a3⟩
   ·rcases isB bS bl bD a2 with⟨cl,b8,fG⟩|⟨cl,b8⟩
    ·rcases lL with lL|lL
     ·exact h.good.otr bl (.inl ⟨bS,b8,fG⟩) k j lL
     ·have:=(BD bS bl cl b8 fG).1;have:=SX k j lL;omega
    ·rcases lL with lL|lL
     ·exact kA (EA bS bl cl b8) lL
     ·exact a7.otr bl (.inl ⟨bS,cl,b8⟩) k j lL
   ·rcases F5 g _ bD a2 with⟨cl,b8,fG⟩|⟨cl,b8⟩
    ·rcases lL with lL|lL
     ·exact h.good.otr bl (.inr ⟨g,n,u,b8,fG,a3⟩) k j lL
     ·have:=(yK g n u bl cl b8 fG a3).1;have:=SX k j lL;omega
    ·rcases lL with lL|lL
     ·exact kA (Hn g n u bl cl b8 a3) lL
     ·exact a7.otr bl (.inr ⟨g,n,u,cl,b8,a3⟩) k j lL
  ·have bE:k<w.heap.size:=Nat.lt_of_lt_of_le ab h.fr.size;rw[KW k bE fun fb=>by
    rcases(qO k fb).1 with J|J
    ·exact hm J
    ·omega]
   exact h.fr.block k ab hm
  ·obtain⟨aU,bC⟩:=h.fr.keep b o rH;obtain⟨cf,eZ⟩:=aL.keep b o aU;exact⟨cf,eZ.trans bC⟩
  ·rcases aL.fresh b o rH with ba|ba|ba
   ·exact h.fr.fresh b o ba
   ·exact .inr (qO b ba).1
   ·exact .inr (.inr (jT h.fr.size ba))
  ·rcases J with J|J<;>rcases U with U|U
   ·exact h.fr.trd k j bS dD b J U
   ·have bD:=(h.fr.trb k j b J).2;have a2:=(aL.trb bS dD b U).1;rcases a2 with a2|a2
    ·obtain⟨m,_,hm⟩:=(af bS).2.2 dD b U;rw[hm]at a2;cases a2
    ·simp only at a2;omega
   ·have bD:=(h.fr.trb bS dD b U).2;have a2:=(aL.trb k j b J).1;rcases a2 with a2|a2
    ·obtain⟨m,_,hm⟩:=(af k).2.2 j b J;rw[hm]at a2;cases a2
    ·simp only at a2;omega
   ·exact aL.trd k j bS dD b J U
  ·rcases ad with ad|ad
   ·exact⟨(h.fr.trb k j b ad).1,Nat.lt_of_lt_of_le (h.fr.trb k j b ad).2 aL.size⟩
   ·refine⟨.inr ?_,(aL.trb k j b ad).2⟩;rcases(aL.trb k j b ad).1 with a2|a2
    ·obtain⟨m,_,hm⟩:=(af k).2.2 j b ad;rw[hm]at a2;cases a2
    ·exact jT h.fr.size a2
  ·have key:ν.bx k=none∧ν.ow k=none∧¬(look k ai.b).isSome∧¬(look k ai.e).isSome:=by
    rcases ad with ad|ad
    ·obtain⟨t1,t2⟩:=h.fr.trn k j b ad;refine⟨t1,t2,fun cw=>?_,fun cw=>?_⟩
     ·cases k with
      |loc m=>rw[sY.1 m]at cw;cases cw
      |obj m=>
       rcases Kh m cw with b4|b4
       ·obtain⟨cs,dn⟩:=fM.1 (lg _ b4);obtain⟨iw,us,el,g1,_⟩:=h.good.box _ cs dn;rw[t1]at g1;cases g1
       ·exact(h.new (.obj m) ⟨trivial,b4⟩).2.2 j b ad
     ·cases k with
      |loc m=>rw[sY.2 m]at cw;cases cw
      |obj m=>
       rcases cF m cw with b4|b4
       ·obtain⟨cs,dn⟩:=fM.1 (lJ _ b4);obtain⟨iw,us,g1,_⟩:=h.good.own _ cs dn;rw[t2]at g1;cases g1
       ·exact(h.new (.obj m) ⟨trivial,b4⟩).2.2 j b ad
    ·obtain⟨m,hm,rfl⟩:=(af k).2.2 j b ad;obtain⟨t1,t2,_⟩:=age m hm;exact⟨t1,t2,by simp[sY.1 m],by simp[sY.2 m]⟩
   obtain⟨t1,t2,t3,t4⟩:=key;have t5:¬(look k s.b).isSome:=fun cw=>by obtain⟨cs,dn⟩:=fM.1 (lg _ cw);obtain⟨iw,us,el,g1,_⟩:=h.good.box _ cs dn;rw[t1]at g1;cases g1
   have t6:¬(look k s.e).isSome:=fun cw=>by obtain⟨cs,dn⟩:=fM.1 (lJ _ cw);obtain⟨iw,us,g1,_⟩:=h.good.own _ cs dn;rw[t2]at g1;cases g1
   exact⟨by simp[bf.join,t3,t5,t1],by simp[bf.join,t4,t6,t2]⟩
  ·
   simp only at ab;obtain⟨ab,afh⟩:=ct k ab;have S2:(∀j b,¬ν.tr k j b)→∀j b,¬(ν.join bq s ai).tr k j b:=fun J j b ad=>by
    rcases ad with ad|ad
    ·exact J j b ad
    ·obtain⟨m,hm,e⟩:=(af k).2.2 j b ad;exact afh m hm e
   cases k with
   |loc m=>obtain⟨h2,gl,jg⟩:=h.new (.loc m) (JA (eR _) (fun _ h=>List.mem_append_left _ h) ab);exact⟨by simp[bf.join,uG.1 m,sY.1 m,h2],by simp[bf.join,uG.2 m,sY.2 m,gl],S2 jg⟩
   |obj m=>
    simp only[fresh,kQ,not_or,true_and]at ab;obtain⟨h2,gl,jg⟩:=h.new (.obj m) ⟨trivial,ab.1⟩;have a8:¬(look (.obj m) ai.b).isSome:=fun cw=>ab.2 (tn (.inl cw));have bF:¬(look (.obj m) ai.e).isSome:=fun cw=>ab.2 (tn (.inr cw));have b0:¬(look (.obj m) s.b).isSome:=fun cw=>by obtain⟨cs,dn⟩:=fM.1 (lg _ cw);obtain⟨iw,us,el,g1,_⟩:=h.good.box _ cs dn;rw[h2]at g1;cases g1
    have c0:¬(look (.obj m) s.e).isSome:=fun cw=>by obtain⟨cs,dn⟩:=fM.1 (lJ _ cw);obtain⟨v',us,g1,_⟩:=h.good.own _ cs dn;rw[gl]at g1;cases g1
    exact⟨by simp[bf.join,a8,b0,h2],by simp[bf.join,bF,c0,gl],S2 jg⟩
 exact p4.put aQ (yH fW aJ)
inductive ei where
 |s (i:eo)
 |call (d:aZ Nat) (f:dr) (xs:List dr)
 |next (d:Nat) (x:dr)
structure c6 where
 g:aZ (Nat×Bool)
 i:ei
def eo.dst:eo→aZ Nat
 | .v d _| .box d _ _| .alloc d _ _| .bsl d _ _ _| .app d _ _ _ _| .bslm d _ _ _ _| .appm d _ _ _ _ _| .mkmap d _| .range d _ _| .mks d _ _ _ _ _=>some d
 | .store _ _ _| .mput _ _ _ _| .storeE _ _ _=>none
def ei.dst:ei→aZ Nat
 | .s i=>i.dst
 | .call d _ _=>d
 | .next d _=>some d
def c8(P:cE)(n:Nat)(args:List ah)(st:bs)(d:aZ Nat)(K:bs→Prop):Prop:=
 (∃s Q,gG (inObs s) s.b st.b∧oV (inObs s) s.e st.e∧iQ s∧aH (inObs s) args∧bU P n args s Q∧
  ∀r ai,Q r ai→((∀m,(look (.obj m) ai.b).isSome→(look (.obj m) s.b).isSome∨ .obj m∉st.o)∧(∀m,(look (.obj m) ai.e).isSome→(look (.obj m) s.e).isSome∨ .obj m∉st.o))∧K (after st s ai d r))∨
 (∃s Q,gG (inObs s) s.b st.b∧oV (inObs s) s.e st.e∧iQ s∧aH (inObs s) args∧ .loc st.n∉st.o∧HX P n st.n args s Q∧
  ∀r ai,Q r ai→((∀m,(look (.obj m) ai.b).isSome→(look (.obj m) s.b).isSome∨ .obj m∉st.o)∧(∀m,(look (.obj m) ai.e).isSome→(look (.obj m) s.e).isSome∨ .obj m∉st.o))∧K {after st s ai d r with n:=st.n+1})
def Ly(st:bs)(d:Nat)(fl mk:aI)(since:Nat)(seen:List Nat)(last clock:Nat)(borns:List Nat)(kvs:List ah)(K:bs→Prop):Prop:=
 (since=clock∧last=clock)∧((∀b∈borns,b∈seen)→K {st with t:=put d (.tuple [.bool false]) st.t})∧
 (∀b k v,mL b borns kvs=some (.tuple [k,v])→b∉seen→K {st with t:=put d (.tuple [.bool true,k,v]) st.t,b:=cB fl [.hdi since (seen++[b]) last,.gmap mk] st.b})
def sK(st:bs)(d:Nat)(v:ah)(K:bs→Prop):Prop:=
 match v with
 | .ptr fl 0=>match look fl st.b with
  |some [.hdi since seen last,.gmap mk]=>match look mk st.b with
   |some (.hdm clock borns::kvs)=>Ly st d fl mk since seen last clock borns kvs K
   |_=>eQ
  |_=>eQ
 |_=>eQ
def ue(P:cE)(st:bs)(K:bs→Prop):ei→Prop
 | .next d x=>sK st d (cr st.t x) K
 | .s i=>match mf st i with
  |some (c,st')=>c∧K st'
  |none=>eQ
 | .call d f xs=>match cr st.t f with
  | .func n dj=>c8 P n (cR (xs.map (cr st.t)++dj)) st d K
  |_=>eQ
def hY(P:cE):List c6→bs→(bs→Prop)→Prop
 |[],st,K=>K st
 |⟨none,i⟩::r,st,K=>ue P st (fun st'=>hY P r st' K) i
 |⟨some (s,want),i⟩::r,st,K=>match get s st.t with
  | .bool b=>(b=want→ue P {st with t:=put s (.bool want) st.t} (fun st'=>hY P r st' K) i)∧(b= !want→hY P r {st with t:=eM i.dst (.tuple []) (put s (.bool !want) st.t)} K)
  | .tuple []=>hY P r {st with t:=eM i.dst (.tuple []) st.t} K
  |_=>eQ
def u6(N:Nat)(bB:List (Nat×dF))(i:ei)(o:Oper):Bool:=
 match i with
 | .s i=>DP N bB i o
 | .next d x=>match o.op with
  | .next it false=>o.dst==some d&&decide (d<N)&&ek x it
  |_=>false
 | .call d f xs=>match o.op with
  | .call ⟨.value rA,args,_⟩=>o.dst==d&&jo N d&&ek f rA&&yx xs args.toList
  |_=>false
def B2(N:Nat)(bB:List (Nat×dF))(ops:List Oper)(g:c6)(o:Oper):Bool:=
 (match g.g,o.guard with
  |none,none=>true
  |some (s,b),some (j,b5)=>b==b5&&((ops[j]?).bind (·.dst))==some s&&decide (s<N)&&o.dst==g.i.dst&&jo N g.i.dst
  |_,_=>false)&&u6 N bB g.i o
def kt(N:Nat)(bB:List (Nat×dF))(ops:List Oper):List c6→List Oper→Bool
 |[],[]=>true
 |g::gs,o::os=>B2 N bB ops g o&&kt N bB ops gs os
 |_,_=>false
theorem WL{w:World}{ν:bf}:∀{cx bT:List ah} {aV us:List Value},cQ w ν cx aV→cQ w ν bT us→cQ w ν (cx++bT) (aV++us)
 |[],bT,aV,us,h,cb=>by simp only[cQ]at h;subst h;simpa using cb
 |p::cx,bT,aV,us,h,cb=>by simp only[cQ]at h;obtain⟨u,cn,rfl,J,U⟩:=h;simp only[bX,cQ];exact⟨u,_,rfl,J,WL U cb⟩
theorem xb.mono{P:cE}{f:FuncId}{aV:Array Value}{w:World}{R NX:Ending→World→Prop}(h:xb P f aV w R)(bd:∀e w',R e w'→NX e w'):xb P f aV w NX:=by
 rcases h with⟨J,U⟩|⟨v,w',J,U⟩
 ·exact .inl ⟨J,U.mono bd⟩
 ·exact .inr ⟨v,w',J,bd _ _ U⟩
theorem QK{P:cE}{C:fh}{st:bs}{a:Act}{w:World}{ν:bf}(aJ:cU C st a w ν){o:Oper}{rA:Operand}{args:Array Operand}{Bc:Array fZ}(nl:o.op= .call ⟨.value rA,args,Bc⟩){d:aZ Nat}(aQ:o.dst=d)(xP:jo C.N d=true)
  {n:Nat} {dj:List ah} (aL:bc w ν (.func n dj) (a.eval rA)) {cx:List ah} (uo:cQ w ν cx (args.toList.map a.eval)) {K:bs→Prop}
  (au:∃(s:cK) (qz:ah→cK→Prop) (κ:aZ Nat) (n':Nat) (o':cK→List aI),gG (inObs s) s.b st.b∧oV (inObs s) s.e st.e∧iQ s∧aH (inObs s) (cR (cx++dj))∧(∀(w:World) (ν:bf) (aV:Array Value),Good (fx ν s) w ν s.b s.e→pt ν s→cQ w ν (cR (cx++dj)) aV.toList→
   xb P n aV w fun e w'=> ∃v r ai bq,e= .returned v∧qz r ai∧bc w' bq r v∧Good (fun bl=>fx ν s bl∨w.heap.size≤bl) w' bq ai.b ai.e∧E9 κ bq ai∧iQ ai∧qx ⟨w,ν,fx ν s,0,cX s⟩ w' bq)∧
   (∀m,κ=some m→fresh st.n st.o (.loc m))∧(∀k r ai,qz r ai→fresh n' (o' ai) k→fresh st.n (st.o++cX ai) k∧∀m,κ=some m→k≠ .loc m)∧
   ∀r ai,qz r ai→((∀m,(look (.obj m) ai.b).isSome→(look (.obj m) s.b).isSome∨ .obj m∉st.o)∧(∀m,(look (.obj m) ai.e).isSome→(look (.obj m) s.e).isSome∨ .obj m∉st.o))∧K {after st s ai d r with n:=n',o:=o' ai})
  {rl:Act→World→Prop} {Q:Exit→Act→World→Prop} (c3:∀st' bp w' bq,K st'→cU C st' bp w' bq→rl bp w'):o.wp P a w rl Q:=by
 obtain⟨s,qz,κ,n',o',bL,cp,dc,ix,l1,Q1,QV,pg⟩:=au;simp only[bc]at aL;obtain⟨us,aF,hu⟩:=aL;have mA:cQ w (ν.cut (inObs s)) (cR (cx++dj)) ((args.map a.eval)++us).toList:=by refine yG (pc.cut _ w ν) _ _ ix (Hl _ _ ?_);simpa using WL uo hu
 have rN:Good (fx (ν.cut (inObs s)) s) w (ν.cut (inObs s)) s.b s.e:=aJ.good.cut bL cp (fun bl _ h=>h);have hex:pt (ν.cut (inObs s)) s:=by
  intro k;refine⟨?_,?_,?_⟩;rotate_left 2
  ·rintro j b ⟨ag,ad⟩;obtain⟨t1,t2⟩:=aJ.fr.trn k j b ad;rcases ag with ag|ag<;>obtain⟨x,af⟩:=fM.1 ag
   ·obtain⟨bl,cn,el,ak,_⟩:=aJ.good.box k x (bL k x af).1;rw[t1]at ak;cases ak
   ·obtain⟨v',cn,ak,_⟩:=aJ.good.own k x (cp k x af).1;rw[t2]at ak;cases ak
  ·intro aw;by_cases ag:inObs s k
   ·rw[bf.cut_bx ag];rcases ag with ag|ag
    ·rw[aw]at ag;cases ag
    ·obtain⟨x,af⟩:=fM.1 ag;obtain⟨v',cn,ak,_⟩:=aJ.good.own k x (cp k x af).1;rcases aJ.good.one k with J|J
     ·exact J
     ·rw[J]at ak;cases ak
   ·exact(bf.cut_no ag).1
  ·intro aw;by_cases ag:inObs s k
   ·rw[bf.cut_ow ag];rcases ag with ag|ag
    ·obtain⟨x,af⟩:=fM.1 ag;obtain⟨bl,cn,el,ak,_⟩:=aJ.good.box k x (bL k x af).1;rcases aJ.good.one k with J|J
     ·rw[J]at ak;cases ak
     ·exact J
    ·rw[aw]at ag;cases ag
   ·exact(bf.cut_no ag).2.1
 rcases l1 w (ν.cut (inObs s)) ((args.map a.eval)++us) rN hex mA with⟨⟨fn,g1,g2,g3⟩,l1⟩|⟨v,w',l1,bG⟩
 ·obtain⟨code,aeP⟩:=fM.1 g2;have iN:(execOp a.eval o).run P w= .ok (.enter n ((args.map a.eval)++us)) w:=by obtain⟨dst,op,ty,pos,N4,vK⟩:=o;simp only at nl;subst nl;simp only[execOp,resolve,aF,Deferred.ofValue,fH,gy,fL,invoke,callFunc,run_program,g1,g3,aeP];simp
  unfold Oper.wp;rw[iN];simp only[Oper.upon];refine l1.mono fun e w' bG=>?_;obtain⟨v,r,ai,bq,rfl,bo,a8,bF,b0,c0,da⟩:=bG;obtain⟨⟨h2,gl⟩,ab⟩:=pg r ai bo;rw[aQ];exact c3 _ _ _ _ ab (aJ.callK bL cp dc bF b0 (fun m hm=>aJ.new _ (Q1 m hm)) (n':=n') (o':=o' ai) (fun k ab=>QV k r ai bo ab) c0 da h2 gl d xP a8)
 ·have iN:(execOp a.eval o).run P w= .ok (.value v) w':=by obtain⟨dst,op,ty,pos,N4,vK⟩:=o;simp only at nl;subst nl;simp only[execOp,resolve,aF,Deferred.ofValue,fH,gy,fL,invoke];simpa using l1
  obtain⟨v2,r,ai,bq,CO,bo,a8,bF,b0,c0,da⟩:=bG;cases CO;obtain⟨⟨h2,gl⟩,ab⟩:=pg r ai bo;refine mi iN ?_;rw[aQ];exact c3 _ _ _ _ ab (aJ.callK bL cp dc bF b0 (fun m hm=>aJ.new _ (Q1 m hm)) (n':=n') (o':=o' ai) (fun k ab=>QV k r ai bo ab) c0 da h2 gl d xP a8)
theorem QJ{P:cE}{C:fh}{st:bs}{a:Act}{w:World}{ν:bf}(aJ:cU C st a w ν){o:Oper}{rA:Operand}{args:Array Operand}{Bc:Array fZ}(nl:o.op= .call ⟨.value rA,args,Bc⟩){d:aZ Nat}(aQ:o.dst=d)(xP:jo C.N d=true)
  {n:Nat} {dj:List ah} (aL:bc w ν (.func n dj) (a.eval rA)) {cx:List ah} (uo:cQ w ν cx (args.toList.map a.eval)) {K:bs→Prop} (au:c8 P n (cR (cx++dj)) st d K)
  {rl:Act→World→Prop} {Q:Exit→Act→World→Prop} (c3:∀st' bp w' bq,K st'→cU C st' bp w' bq→rl bp w'):o.wp P a w rl Q:=by
 refine QK aJ nl aQ xP aL uo (K:=K) ?_ c3;rcases au with⟨s,qz,bL,cp,dc,ix,l1,pg⟩|⟨s,qz,bL,cp,dc,ix,iI,l1,pg⟩
 ·refine⟨s,qz,none,st.n,fun ai=>st.o++cX ai,bL,cp,dc,ix,fun w ν aV J U ar=>(l1 w ν aV J U ar).mono fun e w' bG=>?_,fun m hm=>(by cases hm),fun k _ ai _ ab=>⟨ab,fun m hm=>by cases hm⟩,pg⟩;obtain⟨v,r,ai,bq,g1,g2,g3,g4,g5,g6⟩:=bG;exact⟨v,r,ai,bq,g1,g2,g3,g4,g5.k,g6⟩
 ·refine⟨s,qz,some st.n,st.n+1,fun ai=>st.o++cX ai,bL,cp,dc,ix,l1,fun m hm=>(by cases hm;exact⟨eR _,iI⟩),fun k _ ai _ ab=>⟨JA (Nat.le_succ _) (fun _ h=>h) ab,fun m hm=>?_⟩,pg⟩;cases hm;rintro rfl;have:=ab.1;simp only at this;omega
theorem cU.drawn{C:fh}{st:bs}{a:Act}{w:World}{ν:bf}(aJ:cU C st a w ν)(n:Nat):cU C st a {w with drawn:=n} ν:=by
 have kW:lv w ν {w with drawn:=n} ν:=⟨fun _ _ h=>⟨h,rfl⟩,fun _ _ _ h=>h,fun _ n u _ h=>⟨n,u,h,.inl ⟨rfl,rfl⟩⟩,fun _ _ _=>rfl,fun _ _ _ _ h=>h⟩;refine aJ.over kW rfl ⟨aJ.good.alt,fun k cs ab=>?_,aJ.good.inj,fun g o a7=>?_,aJ.good.oinj,aJ.good.obx,aJ.good.one,aJ.good.otr⟩ ⟨aJ.fr.os,aJ.fr.tape,aJ.fr.output,aJ.fr.size,aJ.fr.block,aJ.fr.keep,aJ.fr.fresh,aJ.fr.obj,aJ.fr.obn,aJ.fr.row,aJ.fr.obr,aJ.fr.trd,aJ.fr.trb,aJ.fr.trn,aJ.fr.sh⟩ aJ.new
 ·obtain⟨bl,us,el,J,U,ar,ba,b4⟩:=aJ.good.box k cs ab;exact⟨bl,us,el,J,U,ar,ba,ql kW b4⟩
 ·obtain⟨v,us,J,U,ar,ba⟩:=aJ.good.own g o a7;exact⟨v,us,J,U,ar,sd kW (fun _ _ _ h=>h) ba⟩
theorem adw{α:Type}{l:List α}{p:α→Bool}(h:∀x∈l,p x=false):l.filter p=[]:=by rw[List.filter_eq_nil_iff];intro x af;simp[h x af]
theorem adv{α:Type}{l:List α}{p:α→Bool}(h:∀x∈l,p x=true):l.filter p=l:=List.filter_eq_self.2 h
def GC(r m since clock:Nat)(seen:Array Nat)(QL:Array (aZ MapEntry)):Sem Value:=do
 match QL[←choose (.mapNext QL.size)]? with
 |some (some e)=>
  setObj r (.mapIter (some m) since (seen.push e.born) clock)
  pure (.tuple #[.bool true,e.key,e.val])
 |some none=>pure (.tuple #[.bool false])
 |none=>stuck "Next: no such candidate"
theorem WX{P:cE}{w:World}(r m since clock:Nat)(seen:Array Nat)(l:List (aZ MapEntry))(aw:l≠[]):∃n x,x∈l∧(GC r m since clock seen l.toArray).run P w=
  (match x with|some e=>(do setObj r (.mapIter (some m) since (seen.push e.born) clock);pure (.tuple #[.bool true,e.key,e.val]):Sem Value)|none=>pure (.tuple #[.bool false])).run P {w with drawn:=n}:=by
 have fs:0<l.length:=List.length_pos_iff.2 aw;unfold GC;have key:∀i,i<l.length→∀w',((do match(l.toArray[i]?:aZ (aZ MapEntry))with
   |some (some e)=>setObj r (.mapIter (some m) since (seen.push e.born) clock);pure (.tuple #[.bool true,e.key,e.val])
   |some none=>pure (.tuple #[.bool false])
   |none=>stuck "Next: no such candidate" :Sem Value)).run P w'=((match l[i]! with|some e=>(do setObj r (.mapIter (some m) since (seen.push e.born) clock);pure (.tuple #[.bool true,e.key,e.val]):Sem Value)|none=>pure (.tuple #[.bool false]))).run P w':=by
  intro i hi w';have J:l.toArray[i]? =some l[i]!:=by simp[hi]
  rw[J];cases l[i]!<;>rfl
 by_cases aL:(Question.mapNext l.length).forced=true
 ·refine⟨w.drawn,l[0]!,by simp[fs],?_⟩;rw[←key 0 fs];have au:(choose (.mapNext l.length):Sem Nat).run P w= .ok 0 w:=by simp[aL]
  simp only[List.size_toArray,fH,au,fL]
 ·refine⟨w.drawn+1,l[(w.tape w.drawn (.mapNext l.length))%l.length]!,by simp[Nat.mod_lt _ fs],?_⟩;rw[←key _ (Nat.mod_lt _ fs)];have au:(choose (.mapNext l.length):Sem Nat).run P w= .ok ((w.tape w.drawn (.mapNext l.length))%l.length) {w with drawn:=w.drawn+1}:=by simp[aL,Question.cut]
  simp only[List.size_toArray,fH,au,fL]
theorem alA{P:cE}{w:World}{bl mb:Nat}{seen:List Nat}{es:List MapEntry}{clock:Nat}{ty:fZ}(J:w.heap[bl]? =some (.mapIter (some mb) clock seen.toArray clock))(U:w.heap[mb]? =some (.map es.toArray clock))(bE:∀e∈es,e.born<clock):
  ∃n,((∀e∈es,e.born∈seen)∧(Instr.next (.pointer (some ⟨bl,0,none⟩)) false ty).run P w= .ok (.tuple #[.bool false]) {w with drawn:=n})∨
   ∃e∈es,e.born∉seen∧(Instr.next (.pointer (some ⟨bl,0,none⟩)) false ty).run P w= .ok (.tuple #[.bool true,e.key,e.val]) {w with drawn:=n,heap:=w.heap.setIfInBounds bl (.mapIter (some mb) clock (seen++[e.born]).toArray clock)}:=by
 have eV:(!seen.toArray.isEmpty&& !es.toArray.isEmpty&&es.toArray.all (fun e=>decide (e.born≥clock)))=false:=by
  cases es with
  |nil=>simp
  |cons e r=>have:=bE e (by simp);simp;intro _ h;omega
 generalize jE:(es.filter fun e=> !seen.contains e.born)=left;have afn:(es.toArray.filter fun e=> !seen.toArray.contains e.born)=left.toArray:=by rw[←jE];simp
 have jG:∀e∈left,e∈es∧e.born∉seen:=fun e he=>by rw[←jE]at he;have:=nH.1 he;exact⟨this.1,by simpa using this.2⟩
 have hold:(left.toArray.filter fun e=>decide (e.born<clock))=left.toArray:=by rw[List.filter_toArray,adv];intro e he;have:=bE e (jG e he).1;simp[this]
 have kA:(left.toArray.filter fun e=>decide (e.born≥clock))= #[]:=by rw[List.filter_toArray,adw];intro e he;have:=bE e (jG e he).1;simp;omega
 have iN:(Instr.next (.pointer (some ⟨bl,0,none⟩)) false ty).run P w=(GC bl mb clock clock seen.toArray ((if left.toArray.isEmpty then #[none]else #[])++(left.toArray++ #[]).map some)).run P w:=by unfold Instr.next GC;simp only[fH,vh J,vh U,fL,eV,afn,hold,kA,gX,if_false];rfl
 rw[iN];by_cases zS:left=[]
 ·subst zS;obtain⟨n,x,g1,g2⟩:=WX (P:=P) (w:=w) bl mb clock clock seen.toArray [none] (by simp);refine⟨n,.inl ⟨fun e he=>?_,?_⟩⟩
  ·have:=List.filter_eq_nil_iff.1 jE e he;simpa using this
  ·simp only[List.mem_singleton]at g1;subst g1;have au:((if(([]:List MapEntry).toArray).isEmpty then #[none]else #[])++(([]:List MapEntry).toArray++ #[]).map some)=[none].toArray:=by simp
   rw[au,g2];rfl
 ·have au:((if left.toArray.isEmpty then #[none]else #[])++(left.toArray++ #[]).map some)=(left.map some).toArray:=by simp[zS]
  obtain⟨n,x,g1,g2⟩:=WX (P:=P) (w:=w) bl mb clock clock seen.toArray (left.map some) (by simpa using zS);simp only[h5]at g1;obtain⟨e,he,rfl⟩:=g1;refine⟨n,.inr ⟨e,(jG e he).1,(jG e he).2,?_⟩⟩;rw[au,g2];simp only[fH];rw[DO (w:={w with drawn:=n}) (o:= .mapIter (some mb) clock seen.toArray clock) J];simp
theorem Ja:∀{borns:List Nat} {us:List Value} {e:MapEntry},e∈fA borns us→e.born∈borns
 |[],us,e,h=>by simp[fA]at h
 |b::eO,[],e,h=>by simp[fA]at h
 |b::eO,[_],e,h=>by simp[fA]at h
 |b::eO,k::v::us,e,h=>by
  simp only[fA,fR]at h;rcases h with rfl|h
  ·simp
  ·exact pS _ (Ja h)
theorem Rc:∀{borns:List Nat} {kvs:List ah} {us:List Value},kvs.length=2*borns.length→us.length=kvs.length→∀{b:Nat},b∈borns→∃e∈fA borns us,e.born=b
 |[],_,_,_,_,b,ad=>by simp at ad
 |b5::eO,kvs,[],J,U,b,ad=>by rw[J]at U;simp at U
 |b5::eO,kvs,[_],J,U,b,ad=>by rw[J]at U;simp at U;omega
 |b5::eO,kvs,k::v::us,J,U,b,ad=>by
  rcases fR.1 ad with rfl|ad
  ·exact⟨⟨k,v,b⟩,by simp[fA],rfl⟩
  ·obtain⟨e,g1,g2⟩:=Rc (kvs:=kvs.drop 2) (us:=us) (borns:=eO) (by simp at J⊢;omega) (by simp at J U⊢;omega) ad;exact⟨e,by simp[fA,g1],g2⟩
theorem UF{w:World}{ν:bf}:∀{borns:List Nat} {kvs:List ah} {us:List Value},kvs.length=2*borns.length→borns.Pairwise (· < ·)→cQ w ν kvs us→∀{e:MapEntry},e∈fA borns us→∃k v,mL e.born borns kvs=some (.tuple [k,v])∧bc w ν k e.key∧bc w ν v e.val
 |[],_,_,_,_,_,e,h=>by simp[fA]at h
 |b::eO,[],us,J,_,_,e,_=>by simp at J
 |b::eO,[_],us,J,_,_,e,_=>by simp at J;omega
 |b::eO,k::v::kvs,us,J,U,ar,e,h=>by
  simp only[cQ]at ar;obtain⟨iU,Nl,rfl,dM,jx,sk,rfl,ff,k0⟩:=ar;simp only[fA,fR]at h;rw[mR]at U;rcases h with rfl|h
  ·exact⟨k,v,by simp[mL],dM,ff⟩
  ·obtain⟨bS,v',g1,g2,g3⟩:=UF (by simp at J;omega) U.2 k0 h;have cF:b≠e.born:=Nat.ne_of_lt (U.1 _ (Ja h));exact⟨bS,v',by simp[mL,cF,g1],g2,g3⟩
theorem ahX{P:cE}{C:fh}{st:bs}{a:Act}{w:World}{ν:bf}(aJ:cU C st a w ν){o:Oper}{it:Operand}(nl:o.op= .next it false){d:Nat}(aQ:o.dst=some d)(xP:jo C.N (some d)=true){v:ah}(aF:bc w ν v (a.eval it)){K:bs→Prop}(he:sK st d v K)
  {rl:Act→World→Prop} {Q:Exit→Act→World→Prop} (c3:∀st' bp w' bq,K st'→cU C st' bp w' bq→rl bp w'):o.wp P a w rl Q:=by
 unfold sK at he;split at he
 ·rename_i fl;split at he
  ·rename_i since seen last mk vS;split at he
   ·rename_i clock borns kvs x0;obtain⟨⟨rfl,rfl⟩,zL,oE⟩:=he;simp only[bc]at aF;obtain⟨bl,cl,b8⟩:=aF;obtain⟨iw,us,el,a8,bF,b0,c0,da⟩:=aJ.good.box fl _ vS;rw[cl]at a8;cases a8;obtain⟨mb,ms,arp,m1,m2,m3,m4,m5⟩:=aJ.good.box mk _ x0;simp only[ji,cQ]at da;obtain⟨u,cn,hu,⟨aro,dM,rfl⟩,rfl⟩:=da;rw[m1]at dM;cases dM;simp only[jN,hu]at c0;simp only[jN]at m4;simp only[ji]at m5;obtain⟨n,l5⟩:=alA (P:=P) (ty:=o.type) c0 m4 (fun e he=>m5.2.lt _ (Ja he));have mz:∀v' w',(Instr.next (.pointer (some ⟨bl,0,none⟩)) false o.type).run P w= .ok v' w'→(execOp a.eval o).run P w= .ok (.value v') w':=by intro v' w' iN;obtain⟨dst,op,ty,pos,N4,vK⟩:=o;simp only at nl iN;subst nl;simp only[execOp,b8];exact D7 iN
    rcases l5 with⟨J,U⟩|⟨e,J,U,ar⟩
    ·refine mi (mz _ _ U) ?_;rw[aQ];refine c3 _ _ _ _ (zL fun b ad=>?_) ((aJ.drawn n).put xP (p:= .tuple [.bool false]) (by simp[bc,cQ]));obtain⟨e,f1,f2⟩:=Rc m5.2.len (Hj m5.1) ad;rw[←f2];exact J e f1
    ·obtain⟨k,v,f1,f2,f3⟩:=UF m5.2.len m5.2.inc m5.1 J;refine mi (mz _ _ ar) ?_;rw[aQ];have wb:=((aJ.drawn n).setBox (w':={w with drawn:=n,heap:=w.heap.setIfInBounds bl (.mapIter (some mb) last (seen++[e.born]).toArray last)}) vS cl (cs':=[.hdi last (seen++[e.born]) last,.gmap mk]) (us:=us) (el:=el) rfl rfl rfl
      (fun j ae=>Array.getElem?_setIfInBounds_ne (k6 ae)) (by simp) (by simp[jN,hu,(Array.getElem?_eq_some_iff.1 c0).1]) (by simp only[ji,cQ];exact⟨_,_,hu,by simp only[bc];exact⟨mb,m1,rfl⟩,rfl⟩))
     refine c3 _ _ _ _ (oE e.born k v f1 U) (wb.1.put xP (p:= .tuple [.bool true,k,v]) ?_);simp only[bc];refine⟨_,rfl,?_⟩;simp only[cQ];have kW:lv w ν {w with drawn:=n} ν:=⟨fun _ _ h=>⟨h,rfl⟩,fun _ _ _ h=>h,fun _ n u _ h=>⟨n,u,h,.inl ⟨rfl,rfl⟩⟩,fun _ _ _=>rfl,fun _ _ _ _ h=>h⟩;exact⟨_,_,rfl,by simp[bc],_,_,rfl,yH wb.2 (yH kW f2),_,_,rfl,yH wb.2 (yH kW f3),rfl⟩
   ·exact he.elim
  ·exact he.elim
 ·exact he.elim
theorem Rh{P:cE}{bB:List (Nat×dF)}(aK:fP P bB=true){C:fh}{st:bs}{a:Act}{w:World}{ν:bf}(aJ:cU C st a w ν){i:ei}{o:Oper}(ax:u6 C.N bB i o=true){K:bs→Prop}(he:ue P st K i)
  {rl:Act→World→Prop} {Q:Exit→Act→World→Prop} (c3:∀st' bp w' bq,K st'→cU C st' bp w' bq→rl bp w'):o.wp P a w rl Q:=by
 cases i with
 |s i=>
  simp only[ue]at he;split at he
  ·rename_i c st' ag;exact alD aK aJ (by simpa only[u6]using ax) ag he.1 fun bp w' bq h=>c3 _ _ _ _ he.2 h
  ·exact he.elim
 |next d x=>
  simp only[ue]at he;simp only[u6]at ax;split at ax
  ·rename_i it nl;simp only[cC,dQ,e2]at ax;obtain⟨⟨J,U⟩,ar⟩:=ax;exact ahX aJ nl J (by simpa[jo]using U) (en aJ ar) he c3
  ·cases ax
 |call d f xs=>
  simp only[ue]at he;simp only[u6]at ax;split at ax
  ·rename_i rA args Bc nl;simp only[cC,dQ]at ax;obtain⟨⟨⟨J,U⟩,ar⟩,ba⟩:=ax;split at he
   ·rename_i n dj aL;have:=en aJ ar;rw[aL]at this;exact QJ aJ nl J U this (DJ aJ ba) he c3
   ·exact he.elim
  ·cases ax
theorem Mz{C:fh}{st:bs}{a:Act}{w:World}{ν:bf}(h:cU C st a w ν){s:Nat}{b:Bool}(ag:get s st.t= .bool b):cU C {st with t:=put s (.bool b) st.t} a w ν:=by
 refine⟨h.good,h.fr,h.defers,h.size,fun i=>?_,h.new⟩;have:=h.slot i;simp only[pz];split
 ·rename_i e;subst e;rw[←ag];exact this
 ·exact this
theorem Yp{C:fh}{st:bs}{a:Act}{w:World}{ν:bf}(h:cU C st a w ν){ops:Array Oper}{j s:Nat}(ae:(ops.toList[j]?).bind (·.dst)=some s)(ag:s<C.N):
  (∀b,get s st.t= .bool b→yielded ops a.tmps j=some b)∧(get s st.t= .tuple []→yielded ops a.tmps j=none):=by
 have bE:s<a.tmps.size:=by rw[h.size];exact ag
 have rT:=h.slot s;have hb:a.tmps.getD s undef=a.tmps[s]:=by simp[Array.getD,bE]
 rw[hb]at rT;have aM:yielded ops a.tmps j=match a.tmps[s]with| .bool b=>some b|_=>none:=by unfold yielded;rw[tL]at ae;rw[ae];simp only[k7,Array.getElem?_eq_getElem bE];cases a.tmps[s]<;>rfl
 constructor
 ·intro b ad;rw[ad]at rT;simp only[bc]at rT;rw[aM,rT]
 ·intro ad;rw[ad]at rT;simp only[bc,cQ]at rT;obtain⟨us,ak,aE⟩:=rT;rw[aM,ak]
theorem Rl{P:cE}{bB:List (Nat×dF)}(aK:fP P bB=true){C:fh}{ops:Array Oper}{K:bs→Prop}{Q:Exit→Act→World→Prop}(h0:∀st' bp w' bq,K st'→cU C st' bp w' bq→Q .normal bp w'):
  ∀(gs:List c6) (os:List Oper) (k:Nat),(∀j,os[j]? =ops[k+j]?)→kt C.N bB ops.toList gs os=true→∀(st:bs) (a:Act) (w:World) (ν:bf),hY P gs st K→cU C st a w ν→wpOps P ops Q (List.range' k gs.length) a w
 |[],[],k,_,_,st,a,w,ν,he,aJ=>by simp only[List.length_nil,List.range'_zero,wpOps];exact h0 _ _ _ _ he aJ
 |[],_::_,_,_,ab,_,_,_,_,_,_=>by simp[kt]at ab
 |_::_,[],_,_,ab,_,_,_,_,_,_=>by simp[kt]at ab
 |g::gs,o::os,k,zW,ab,st,a,w,ν,he,aJ=>by
  simp only[kt,cC]at ab;have bn:ops[k]? =some o:=by simpa using(zW 0).symm
  have CC:∀j,os[j]? =ops[k+1+j]?:=fun j=>by have:=zW (j+1);simpa[Nat.add_assoc,Nat.add_comm 1 j]using this
  simp only[o6,List.range'_succ,wpOps,bn];have bO:∀st' bp w' bq,hY P gs st' K→cU C st' bp w' bq→wpOps P ops Q (List.range' (k+1) gs.length) bp w':=fun st' bp w' bq J U=>Rl aK h0 gs os (k+1) CC ab.2 st' bp w' bq J U;obtain⟨na,R9⟩:=g;have a7:=ab.1;simp only[B2,cC]at a7;obtain⟨qR,rM⟩:=a7;cases na with
  |none=>
   cases dC:o.guard with
   |some x=>simp[dC]at qR
   |none=>
    have hw:o4 o (yielded ops a.tmps)=true:=by simp[o4,dC]
    rw[if_pos hw];simp only[hY]at he;exact .inl (Rh aK aJ rM he bO)
  |some yR=>
   obtain⟨s,want⟩:=yR;cases dC:o.guard with
   |none=>simp[dC]at qR
   |some x=>
    obtain⟨j,b5⟩:=x;simp only[dC,cC,dQ,e2]at qR;obtain⟨⟨⟨⟨rfl,U⟩,ar⟩,ba⟩,b4⟩:=qR;obtain⟨kN,o3⟩:=Yp aJ U ar;simp only[hY]at he;split at he
    ·rename_i b ad;have aM:=kN b ad;by_cases e:b=want
     ·subst e;have hw:o4 o (yielded ops a.tmps)=true:=by simp[o4,dC,aM]
      rw[if_pos hw];exact .inl (Rh aK (Mz aJ ad) rM (he.1 rfl) bO)
     ·have hw:¬(o4 o (yielded ops a.tmps)=true):=by simp[o4,dC,aM,e]
      rw[if_neg hw];have fV:b= !want:=by cases b<;>cases want<;>simp at e⊢
      have lI:cU C {st with t:=put s (.bool !want) st.t} a w ν:=Mz aJ (by rw[ad,fV]);rw[ba];exact bO _ _ _ _ (he.2 fV) (lI.put b4 (by simp[bc,cQ,undef]))
    ·rename_i ad;have aM:=o3 ad;have hw:¬(o4 o (yielded ops a.tmps)=true):=by simp[o4,dC,aM]
     rw[if_neg hw,ba];exact bO _ _ _ _ he (aJ.put b4 (by simp[bc,cQ,undef]))
    ·exact he.elim
structure dh where
 t:Nat→ah
 b:aI→aZ (List ah)
 e:aI→aZ fN
 F:aI→Prop
structure kR where
 d:aZ Nat
 p:ah
 bw:List (aI×List ah)
 ew:List (aI×fN)
 rm:aZ aI
def iy{α:Type}(l:List (aI×α))(f:aI→aZ α):aI→aZ α:=fun k=>match look k l with|some x=>some x|none=>f k
def dh.do(A:dh)(x:kR):dh:={t:=fun i=>if x.d=some i then x.p else A.t i,b:=iy x.bw A.b,e:=iy x.ew A.e,F:=fun k=>A.F k∧x.rm≠some k}
structure kR.apart (x y:kR):Prop where
 d:∀i,x.d=some i→y.d≠some i
 b:∀k,(look k x.bw).isSome→look k y.bw=none
 e:∀k,(look k x.ew).isSome→look k y.ew=none
theorem dh.do_comm(A:dh){x y:kR}(h:x.apart y):(A.do x).do y=(A.do y).do x:=by
 simp only[dh.do,dh.mk.injEq];refine⟨?_,?_,?_,?_⟩
 ·funext i;by_cases J:x.d=some i
  ·have:=h.d i J;simp[J,this]
  ·simp[J]
 ·funext k;simp only[iy];cases af:look k x.bw with
  |none=>cases look k y.bw<;>rfl
  |some u=>rw[h.b k (by simp[af])]
 ·funext k;simp only[iy];cases af:look k x.ew with
  |none=>cases look k y.ew<;>rfl
  |some u=>rw[h.e k (by simp[af])]
 ·funext k;exact propext ⟨fun h=>⟨⟨h.1.1,h.2⟩,h.1.2⟩,fun h=>⟨⟨h.1.1,h.2⟩,h.1.2⟩⟩
def dy(t:Nat→ah):dr→ah
 | .t i=>t i
 | .c p=>p
def rY(b:aI→aZ (List ah))(e:aI→aZ fN)(agg:Bool)(sz:Nat):ah→aZ (Prop×ah)
 | .rptr dI k n i f=>yJ agg sz dI n i f (e k)
 | .ptr k off=>
  match b k with
  |some cs=>if agg then some (hU cs=true∧off+sz≤cs.length,.agg ((cs.drop off).take sz))else(cs[off]?).map fun p=>(hU cs=true,p)
  |none=>none
 | .eptr p=>if agg then some (isAgg sz p,p)else some (ec p=true∧cells p=[p],p)
 |_=>none
def xq(t:Nat→ah):List ah→List (Nat×Nat×dr)→aZ (Prop×List ah)
 |cs,[]=>some (True,cs)
 |cs,(off,sz,x)::r=>
  match xq t (n3 cs off (cells (dy t x))) r with
  |some (c,cs')=>some ((ec (dy t x)=true∧(cells (dy t x)).length=sz∧off+sz≤cs.length)∧c,cs')
  |none=>none
def pO(t:Nat→ah)(b:aI→aZ (List ah))(e:aI→aZ fN):fS→aZ (Prop×ah)
 | .mov x=>some (True,dy t x)
 | .pick c x y=>GP (dy t c) (dy t x) (dy t y)
 | .load agg sz x=>rY b e agg sz (dy t x)
 | .faddr off agg sz x=>p0 off agg sz (dy t x)
 | .fld off agg sz x=>rC off agg sz (dy t x)
 | .iaddr sz x i=>Ae sz (dy t x) (dy t i)
 | .sidx x i=>Ht (dy t x) (dy t i)
 | .ssl x lo hi=>Hy (dy t x) (lo.map (dy t)) (hi.map (dy t))
 | .lsl sz x lo hi=>Gr sz (dy t x) (lo.map (dy t)) (hi.map (dy t))
 | .bin op wr x y=>xp op wr (dy t x) (dy t y)
 | .notB x=>GF (dy t x)
 | .neg x=>GA (dy t x)
 | .conv k x=>E0 k (dy t x)
 | .ext i x=>zq i (dy t x)
 | .len x=>Ao (dy t x)
 | .slen x=>DT (dy t x)
 | .build zero parts=>(xq t zero parts).map fun(c,cs)=>(c,.agg cs)
 | .nck x=>AA (dy t x)
 | .min2 x y=>Gz (dy t x) (dy t y)
 | .mkf n xs=>some (True,.func n (xs.map (dy t)))
 | .mget ch zero ok x k=>nY b ch zero ok (dy t x) (dy t k)
 | .ment x=>pG b (dy t x)
 | .mlen x=>uZ b (dy t x)
 | .beq neg dR x y=>iv neg dR (dy t x) (dy t y)
 | .max2 x y=>Gv (dy t x) (dy t y)
 | .mkif n x=>some (True,.iface n (dy t x))
 | .loadB agg sz x=>rY b (fun _=>none) agg sz (dy t x)
 | .mgetB ch zero ok x k=>nY b ch zero ok (dy t x) (dy t k)
 | .loadZ agg sz x=>B1 agg sz (dy t x)
structure lu (st:bs) (A:dh):Prop where
 t:∀i,get i st.t=A.t i
 b:∀k,look k st.b=A.b k
 e:∀k,look k st.e=A.e k
theorem iJ{st:bs}{A:dh}(h:lu st A)(x:dr):cr st.t x=dy A.t x:=by
 cases x
 ·exact h.t _
 ·rfl
theorem ug{st:bs}{A:dh}(h:lu st A):cr st.t=dy A.t:=funext (iJ h)
theorem aha{st:bs}{A:dh}(h:lu st A)(agg:Bool)(sz:Nat)(p:ah):mK st.b st.e agg sz p=rY A.b A.e agg sz p:=by
 cases p<;>simp only[mK,rY]
 ·rw[h.b];try rfl
 ·rw[h.e]
theorem ahb{st:bs}{A:dh}(h:lu st A)(agg:Bool)(sz:Nat)(p:ah):mK st.b [] agg sz p=rY A.b (fun _=>none) agg sz p:=by
 cases p<;>simp only[mK,rY]
 ·rw[h.b];try rfl
 ·rfl
theorem OC{st:bs}{A:dh}(h:lu st A):∀(parts:List (Nat×Nat×dr)) (cs:List ah),ua st.t cs parts=xq A.t cs parts
 |[],cs=>rfl
 |(off,sz,x)::r,cs=>by simp only[ua,xq,iJ h,OC h r];try rfl
theorem XB{st:bs}{A:dh}(h:lu st A)(i:fS):hj st i=pO A.t A.b A.e i:=by have ad:(fun k=>look k st.b)=A.b:=funext h.b;cases i<;>simp only[hj,pO,ug h,aha h,ahb h,OC h,ad]
def hg:dr→List Nat
 | .t i=>[i]
 | .c _=>[]
def LX:aZ dr→List Nat
 |some x=>hg x
 |none=>[]
def fS.looks:fS→List Nat
 | .mov x| .load _ _ x| .loadB _ _ x| .loadZ _ _ x| .faddr _ _ _ x| .fld _ _ _ x| .notB x| .neg x| .conv _ x| .ext _ x| .len x| .slen x| .nck x| .ment x| .mlen x| .mkif _ x=>hg x
 | .pick c x y=>hg c++hg x++hg y
 | .iaddr _ x i| .sidx x i=>hg x++hg i
 | .ssl x lo hi| .lsl _ x lo hi=>hg x++LX lo++LX hi
 | .bin _ _ x y| .min2 x y| .max2 x y| .beq _ _ x y=>hg x++hg y
 | .build _ cx=>cx.flatMap fun p=>hg p.2.2
 | .mkf _ xs=>xs.flatMap hg
 | .mget _ _ _ x k| .mgetB _ _ _ x k=>hg x++hg k
def eo.looks:eo→List Nat
 | .v _ i=>i.looks
 | .box _ _ x=>hg x
 | .alloc _ _ _=>[]
 | .store _ x y=>hg x++hg y
 | .storeE _ x y=>hg x++hg y
 | .bsl _ _ _ xs=>xs.flatMap hg
 | .app _ _ _ x y=>hg x++hg y
 | .bslm _ _ _ _ xs=>xs.flatMap hg
 | .mks _ _ _ _ _ x=>hg x
 | .appm _ _ _ _ x y=>hg x++hg y
 | .mkmap _ _=>[]
 | .mput _ x k y=>hg x++hg k++hg y
 | .range _ _ x=>hg x
def ei.looks:ei→List Nat
 | .s i=>i.looks
 | .call _ f xs=>hg f++xs.flatMap hg
 | .next _ x=>hg x
def c6.looks(g:c6):List Nat:=(match g.g with|some (s,_)=>[s]|none=>[])++g.i.looks
def qC(l:List Nat)(t dO:Nat→ah):Prop:= ∀i∈l,t i=dO i
theorem gu{t dO:Nat→ah}{x:dr}(h:qC (hg x) t dO):dy t x=dy dO x:=by
 cases x
 ·exact h _ (by simp[hg])
 ·rfl
theorem kp{l a1:List Nat}{t dO:Nat→ah}(h:qC (l++a1) t dO):qC l t dO∧qC a1 t dO:=⟨fun i hi=>h i (by simp[hi]),fun i hi=>h i (by simp[hi])⟩
theorem E8{t dO:Nat→ah}{x:aZ dr}(h:qC (LX x) t dO):x.map (dy t)=x.map (dy dO):=by
 cases x
 ·rfl
 ·simp[gu h]
theorem OB{t dO:Nat→ah}:∀{parts:List (Nat×Nat×dr)} {cs:List ah},qC (parts.flatMap fun p=>hg p.2.2) t dO→xq t cs parts=xq dO cs parts
 |[],cs,_=>rfl
 |(off,sz,x)::r,cs,h=>by simp only[List.flatMap_cons]at h;obtain⟨J,U⟩:=kp h;simp only[xq,gu J,OB U]
theorem Gu{t dO:Nat→ah}:∀{xs:List dr},qC (xs.flatMap hg) t dO→xs.map (dy t)=xs.map (dy dO)
 |[],_=>rfl
 |x::xs,h=>by simp only[List.flatMap_cons]at h;obtain⟨J,U⟩:=kp h;simp[gu J,Gu U]
def fS.isLoad:fS→Bool
 | .load _ _ _=>true
 | .loadB _ _ _=>true
 | .mgetB _ _ _ _ _=>true
 | .mget _ _ _ _ _=>true
 | .ment _=>true
 | .mlen _=>true
 |_=>false
theorem amF{t dO:Nat→ah}{b b5:aI→aZ (List ah)}{e fy:aI→aZ fN}{i:fS}(h:qC i.looks t dO)(ad:i.isLoad=false):pO t b e i=pO dO b5 fy i:=by
 cases i<;>simp only[fS.looks]at h<;>simp only[pO];case load agg sz x=>simp[fS.isLoad]at ad
 case loadB agg sz x=>simp[fS.isLoad]at ad
 case pick c x y=>obtain⟨J,ar⟩:=kp h;obtain⟨J,U⟩:=kp J;rw[gu J,gu U,gu ar]
 case iaddr=>obtain⟨J,U⟩:=kp h;rw[gu J,gu U]
 case sidx=>obtain⟨J,U⟩:=kp h;rw[gu J,gu U]
 case ssl=>obtain⟨J,ar⟩:=kp h;obtain⟨J,U⟩:=kp J;rw[gu J,E8 U,E8 ar]
 case lsl=>obtain⟨J,ar⟩:=kp h;obtain⟨J,U⟩:=kp J;rw[gu J,E8 U,E8 ar]
 case bin=>obtain⟨J,U⟩:=kp h;rw[gu J,gu U]
 case min2=>obtain⟨J,U⟩:=kp h;rw[gu J,gu U]
 case build=>rw[OB h]
 case mkf=>rw[Gu h]
 case mget=>simp[fS.isLoad]at ad
 case mgetB=>simp[fS.isLoad]at ad
 case ment=>simp[fS.isLoad]at ad
 case mlen=>simp[fS.isLoad]at ad
 case max2=>obtain⟨J,U⟩:=kp h;rw[gu J,gu U]
 case beq=>obtain⟨J,U⟩:=kp h;rw[gu J,gu U]
 all_goals rw[gu h]
end Go.Pv
