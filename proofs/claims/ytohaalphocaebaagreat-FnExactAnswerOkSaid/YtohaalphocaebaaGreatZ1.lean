/- Regions that draw their order, I: abstract states as functions, effects, and what an instruction does to them. -/
import Derived.WalkKit
import Derived.Orders
import Derived.KernelRfl
import Derived.IntWalk
import Derived.Laws.StructEq
import Derived.ChangeKeysEq
import Derived.MapKept
import Derived.ArgAppend
import Derived.Laws.OwnMore
set_option linter.all false
set_option maxHeartbeats 4000000
open Array renaming getElem?_toList→tg
open BitVec renaming ofInt→p3
open Bool renaming and_eq_true→cA,eq_iff_iff→p4,false_eq_true→gT
open ByteArray renaming ext→ant,size→asX
open Go renaming Program→cB,TypeId→fV
open Go.ByteArray renaming toList_eq→anu
open Go.IntWalk renaming i64_in→oF
open Go.Op renaming bytesLess→hr
open Go.Region renaming wanted→oG
open Go.Result renaming andThen_ok→fJ
open Go.Sem renaming run_bind→fF,run_pure→gq
open Go.Value renaming cells→oH,ownBlock→nP
open Go.Value.pointer renaming injEq→as4
open Go.World.grownBy renaming refl→anx
open List renaming all_eq_true→ir,cons_append→bP,getElem?_eq_getElem→cf,getElem?_eq_none→p5,getElem?_eq_some_iff→fw,length_append→oI,length_cons→oJ,length_drop→r4,length_map→p6,map_cons→gM,map_nil→mz,mem_append→jP,mem_cons→fK,mem_cons_of_mem→oK,mem_filter→nk,mem_map→iO,pairwise_cons→mA,replicate→qP,take→jQ,take_length→k6,take_of_length_le→hB
open List.cons renaming injEq→nQ
open Nat renaming add_mul→pw,le_refl→eV,le_trans→j4
open Ne renaming symm→kL
open Option renaming bind_some→kM,isSome_iff_exists→fL,isSome_none→l0,map_eq_some_iff→gN,map_some→nS
open Option.some renaming injEq→dE
open Prod.mk renaming injEq→jj
open _root_ renaming False→eR,Option→aY,UInt8→dz,beq_iff_eq→dL,congrArg→eZ,decide_eq_true_eq→fm
namespace Go.Pv
open Go Go.RowKit
inductive aD where
 |loc (s:Nat)
 |obj (n:Nat)
 deriving DecidableEq,Inhabited
inductive A0 where
 |no
 |nil
 |own (k:aD)
 |tr (k:aD) (j:Nat)
 |lo (k:aD)
 deriving DecidableEq,Inhabited
inductive ah where
 |junk
 |int (k:IntKind) (n:Int)
 |bool (b:Bool)
 |str (s:List dz)
 |slice (sz:Nat) (tag:A0) (xs:List ah)
 |agg (cs:List ah)
 |ptr (key:aD) (off:Nat)
 |eptr (x:ah)
 |iface (t:Nat) (x:ah)
 |nilp
 |tuple (bc:List ah)
 |func (f:Nat) (da:List ah)
 |gmap (key:aD)
 |row (sz:Nat) (key:aD) (n:Nat)
 |rptr (sz:Nat) (key:aD) (n i f:Nat)
 |hdm (clock:Nat) (borns:List Nat)
 |hdi (since:Nat) (seen:List Nat) (last:Nat)
 |cst (v:Value)
 deriving Inhabited
structure bd where
 A:Nat→Nat→Prop
 bx:aD→aY Nat
 ow:aD→aY (Nat×Value)
 tr:aD→Nat→Nat→Prop
def lim:Nat:=68719476736
def lx(w:World)(A:Nat→Nat→Prop)(b:Nat):Nat→List Value→Prop
 |_,[]=>True
 |off,u::us=>(A b off∧w.cell? ⟨b,off,none⟩=some u)∧lx w A b (off+1) us
def shape(w:World)(b:Nat):aY (Nat×fV×(Nat×Nat)):=
 match w.heap[b]? with
 |some (.cells cur el fz)=>some (cur.size,el,fz)
 |_=>none
theorem wh{w w':World}{b:Nat}(h:w'.heap[b]? =w.heap[b]?):shape w' b=shape w b:=by unfold shape;rw[h]
mutual
def fX(t:Bool)(w:World)(A:Nat→Nat→Prop)(F:Nat→Prop):ah→Value→Prop
 | .int k n,v=>v= .int k n
 | .bool b,v=>v= .bool b
 | .str s,v=>v= .string ⟨s.toArray⟩∧s.length≤lim
 | .slice sz _ xs,v=> ∃a cap,v= .slice a xs.length cap∧xs.length≤cap∧(cap≤maxLen∧xs.length≤lim)∧
   (xs=[]∨ ∃b off us G,a=some ⟨b,off,none⟩∧F b∧(∀c,G c→F c∧(t=true→c≠b))∧lx w A b off us∧(t=true→off=0∧0<us.length∧∃el,shape w b=some (cap*sz,el,(0,0)))∧tL t w A G sz xs us)
 | .agg cs,v=> ∃us:Array Value,v= .agg us∧tM t w A F cs us.toList
 |_,_=>eR
def tM(t:Bool)(w:World)(A:Nat→Nat→Prop)(F:Nat→Prop):List ah→List Value→Prop
 |[],us=>us=[]
 |c::cs,us=> ∃u cj h2 ic,us=u::cj∧((∀b,h2 b→F b)∧(∀b,ic b→F b)∧(t=true→∀b,h2 b→¬ic b))∧(fX t w A h2 c u∧u.oneCell'=true)∧tM t w A ic cs cj
def tL(t:Bool)(w:World)(A:Nat→Nat→Prop)(F:Nat→Prop)(sz:Nat):List ah→List Value→Prop
 |[],us=>us=[]
 |x::xs,us=> ∃u cj h2 ic,us=u.cells.toList++cj∧((∀b,h2 b→F b)∧(∀b,ic b→F b)∧(t=true→∀b,h2 b→¬ic b))∧(fX t w A h2 x u∧u.cells.size=sz∧(∀c∈u.cells.toList,c.oneCell'=true))∧tL t w A ic sz xs cj
end
mutual
def ba(w:World)(ν:bd):ah→Value→Prop
 | .junk,_=>True
 | .int k n,v=>v= .int k n
 | .bool b,v=>v= .bool b
 | .str s,v=>v= .string ⟨s.toArray⟩∧s.length≤lim
 | .slice sz tag xs,v=>
   (∃a cap,v= .slice a xs.length cap∧xs.length≤cap∧(cap≤maxLen∧xs.length≤lim)∧(xs=[]∨ ∃b off us,a=some ⟨b,off,none⟩∧lx w ν.A b off us∧dx w ν sz xs us))∧
   (tag= .nil→v= .slice none 0 0)∧
   (∀g,tag= .own g→∃n u,ν.ow g=some (n,u)∧xs.length≤n∧(xs.length=n→v=u))∧
   (∀k j,tag= .tr k j→fX true w ν.A (ν.tr k j) (.slice sz tag xs) v)∧(∀k,tag= .lo k→fX false w ν.A (ν.tr k 0) (.slice sz tag xs) v)
 | .agg cs,v=> ∃us:Array Value,v= .agg us∧c4 w ν cs us.toList
 | .ptr key off,v=> ∃b,ν.bx key=some b∧v= .pointer (some ⟨b,off,none⟩)
 | .eptr x,v=> ∃b off u,v= .pointer (some ⟨b,off,none⟩)∧ba w ν x u∧lx w ν.A b off u.cells.toList
 | .iface t x,v=> ∃u,v= .iface t u∧ba w ν x u
 | .nilp,v=>v= .pointer none
 | .tuple bc,v=> ∃us:Array Value,v= .tuple us∧cP w ν bc us.toList
 | .func f da,v=> ∃us:Array Value,v= .func (.func f) #[] us∧cP w ν da us.toList
 | .gmap key,v=> ∃b,ν.bx key=some b∧v= .map (some b)
 | .row _ key n,v=>(∃b cap,v= .slice (some ⟨b,0,none⟩) n cap)∧n≤lim∧∃n' u,ν.ow key=some (n',u)∧n≤n'∧(n=n'→v=u)
 | .rptr sz key n i f,v=>(∃b o,v= .pointer (some ⟨b,o,none⟩))∧i<n∧∃n' u,ν.ow key=some (n',u)∧n≤n'∧(n=n'→∃b,u.ownBlock=some b∧v= .pointer (some ⟨b,i*sz+f,none⟩))
 | .hdm _ _,_=>eR
 | .hdi _ _ _,_=>eR
 | .cst c,v=>v=c
def c4(w:World)(ν:bd):List ah→List Value→Prop
 |[],us=>us=[]
 |c::cs,us=> ∃u cj,us=u::cj∧(ba w ν c u∧u.oneCell'=true)∧c4 w ν cs cj
def cP(w:World)(ν:bd):List ah→List Value→Prop
 |[],us=>us=[]
 |c::cs,us=> ∃u cj,us=u::cj∧ba w ν c u∧cP w ν cs cj
def dx(w:World)(ν:bd)(sz:Nat):List ah→List Value→Prop
 |[],us=>us=[]
 |x::xs,us=> ∃u cj,us=u.cells.toList++cj∧(ba w ν x u∧u.cells.size=sz∧(∀c∈u.cells.toList,c.oneCell'=true))∧dx w ν sz xs cj
end
theorem Fy{w w':World}{A gb:Nat→Nat→Prop}{b:Nat}(bh:∀b o,A b o→gb b o∧w'.cell? ⟨b,o,none⟩=w.cell? ⟨b,o,none⟩):
  ∀(us:List Value) (off:Nat),lx w A b off us→lx w' gb b off us
 |[],_,_=>trivial
 |_::us,off,h=>⟨⟨(bh _ _ h.1.1).1,(bh _ _ h.1.1).2.trans h.1.2⟩,Fy bh us (off+1) h.2⟩
mutual
theorem Ey{t:Bool}{w w':World}{A gb:Nat→Nat→Prop}(bh:∀b o,A b o→gb b o∧w'.cell? ⟨b,o,none⟩=w.cell? ⟨b,o,none⟩)(ag:∀b o,A b o→shape w' b=shape w b):∀(p:ah) (F oN:Nat→Prop) (v:Value),(∀b,F b→oN b)→fX t w A F p v→fX t w' gb oN p v
 | .int k n,_,_,_,_,h=>by simp only[fX]at h⊢;exact h
 | .bool b,_,_,_,_,h=>by simp only[fX]at h⊢;exact h
 | .str s,_,_,_,_,h=>by simp only[fX]at h⊢;exact h
 | .slice sz tag xs,F,oN,v,gG,h=>by
  simp only[fX]at h⊢;obtain⟨a,cap,J,U,ao,a7⟩:=h;refine⟨a,cap,J,U,ao,?_⟩;rcases a7 with a7|⟨b,off,us,G,ak,aC,bj,dd,gW,hI⟩
  ·exact .inl a7
  ·refine .inr ⟨b,off,us,G,ak,gG _ aC,fun c aw=>⟨gG _ (bj c aw).1,(bj c aw).2⟩,Fy bh _ _ dd,fun aL=>?_,Q8 bh ag xs G G _ (fun _ h=>h) hI⟩;obtain⟨f1,f2,el,f3⟩:=gW aL;refine⟨f1,f2,el,?_⟩;cases us with
   |nil=>simp at f2
   |cons u us=>rw[ag b off dd.1.1];exact f3
 | .agg cs,F,oN,v,gG,h=>by simp only[fX]at h⊢;obtain⟨us,J,U⟩:=h;exact⟨us,J,Q9 bh ag cs F oN _ gG U⟩
 | .junk,_,_,_,_,h=>by simp[fX]at h
 | .ptr _ _,_,_,_,_,h=>by simp[fX]at h
 | .eptr _,_,_,_,_,h=>by simp[fX]at h
 | .iface _ _,_,_,_,_,h=>by simp[fX]at h
 | .nilp,_,_,_,_,h=>by simp[fX]at h
 | .tuple _,_,_,_,_,h=>by simp[fX]at h
 | .func _ _,_,_,_,_,h=>by simp[fX]at h
 | .gmap _,_,_,_,_,h=>by simp[fX]at h
 | .row _ _ _,_,_,_,_,h=>by simp[fX]at h
 | .rptr _ _ _ _ _,_,_,_,_,h=>by simp[fX]at h
 | .hdm _ _,_,_,_,_,h=>by simp[fX]at h
 | .hdi _ _ _,_,_,_,_,h=>by simp[fX]at h
 | .cst _,_,_,_,_,h=>by simp[fX]at h
theorem Q9{t:Bool}{w w':World}{A gb:Nat→Nat→Prop}(bh:∀b o,A b o→gb b o∧w'.cell? ⟨b,o,none⟩=w.cell? ⟨b,o,none⟩)(ag:∀b o,A b o→shape w' b=shape w b):∀(cs:List ah) (F oN:Nat→Prop) (us:List Value),(∀b,F b→oN b)→tM t w A F cs us→tM t w' gb oN cs us
 |[],_,_,_,_,h=>by simp only[tM]at h⊢;exact h
 |c::cs,F,oN,us,gG,h=>by simp only[tM]at h⊢;obtain⟨u,cj,h2,ic,J,⟨U,ao,a7⟩,⟨bZ,c6⟩,eg⟩:=h;exact⟨u,cj,h2,ic,J,⟨fun b ae=>gG _ (U b ae),fun b ae=>gG _ (ao b ae),a7⟩,⟨Ey bh ag c h2 h2 u (fun _ h=>h) bZ,c6⟩,Q9 bh ag cs ic ic cj (fun _ h=>h) eg⟩
theorem Q8{t:Bool}{w w':World}{A gb:Nat→Nat→Prop}(bh:∀b o,A b o→gb b o∧w'.cell? ⟨b,o,none⟩=w.cell? ⟨b,o,none⟩)(ag:∀b o,A b o→shape w' b=shape w b){sz:Nat}:∀(cs:List ah) (F oN:Nat→Prop) (us:List Value),(∀b,F b→oN b)→tL t w A F sz cs us→tL t w' gb oN sz cs us
 |[],_,_,_,_,h=>by simp only[tL]at h⊢;exact h
 |c::cs,F,oN,us,gG,h=>by simp only[tL]at h⊢;obtain⟨u,cj,h2,ic,J,⟨U,ao,a7⟩,⟨bZ,c6⟩,eg⟩:=h;exact⟨u,cj,h2,ic,J,⟨fun b ae=>gG _ (U b ae),fun b ae=>gG _ (ao b ae),a7⟩,⟨Ey bh ag c h2 h2 u (fun _ h=>h) bZ,c6⟩,Q8 bh ag cs ic ic cj (fun _ h=>h) eg⟩
end
mutual
def aB(S:aD→Prop):ah→Prop
 | .slice _ tag xs=>(match tag with| .own k=>S k| .tr k _=>S k| .lo k=>S k|_=>True)∧aG S xs
 | .agg cs=>aG S cs
 | .ptr k _=>S k
 | .eptr x=>aB S x
 | .iface _ x=>aB S x
 | .tuple bc=>aG S bc
 | .func _ da=>aG S da
 | .gmap k=>S k
 | .row _ k _=>S k
 | .rptr _ k _ _ _=>S k
 |_=>True
def aG(S:aD→Prop):List ah→Prop
 |[]=>True
 |x::xs=>aB S x∧aG S xs
end
mutual
theorem vJ{S T:aD→Prop}(h:∀k,S k→T k):∀p:ah,aB S p→aB T p
 | .junk,_=>by simp[aB]
 | .int _ _,_=>by simp[aB]
 | .bool _,_=>by simp[aB]
 | .str _,_=>by simp[aB]
 | .slice sz tag xs,bH=>by simp only[aB]at bH⊢;exact⟨by cases tag<;>first|trivial|exact h _ bH.1,jH h xs bH.2⟩
 | .agg cs,bH=>by simp only[aB]at bH⊢;exact jH h cs bH
 | .ptr k _,bH=>by simp only[aB]at bH⊢;exact h _ bH
 | .eptr x,bH=>by simp only[aB]at bH⊢;exact vJ h x bH
 | .iface _ x,bH=>by simp only[aB]at bH⊢;exact vJ h x bH
 | .nilp,_=>by simp[aB]
 | .tuple bc,bH=>by simp only[aB]at bH⊢;exact jH h bc bH
 | .func _ da,bH=>by simp only[aB]at bH⊢;exact jH h da bH
 | .gmap k,bH=>by simp only[aB]at bH⊢;exact h _ bH
 | .row _ k _,bH=>by simp only[aB]at bH⊢;exact h _ bH
 | .rptr _ k _ _ _,bH=>by simp only[aB]at bH⊢;exact h _ bH
 | .hdm _ _,_=>by simp[aB]
 | .hdi _ _ _,_=>by simp[aB]
 | .cst _,_=>by simp[aB]
theorem jH{S T:aD→Prop}(h:∀k,S k→T k):∀cu:List ah,aG S cu→aG T cu
 |[],_=>by simp[aG]
 |x::xs,bH=>by simp only[aG]at bH⊢;exact⟨vJ h x bH.1,jH h xs bH.2⟩
end
mutual
theorem Fv:∀p:ah,aB (fun _=>True) p
 | .junk=>by simp[aB]
 | .int _ _=>by simp[aB]
 | .bool _=>by simp[aB]
 | .str _=>by simp[aB]
 | .slice sz tag xs=>by simp only[aB];exact⟨by cases tag<;>trivial,ug xs⟩
 | .agg cs=>by simp only[aB];exact ug cs
 | .ptr k _=>by simp[aB]
 | .eptr x=>by simp only[aB];exact Fv x
 | .iface _ x=>by simp only[aB];exact Fv x
 | .nilp=>by simp[aB]
 | .tuple bc=>by simp only[aB];exact ug bc
 | .func _ da=>by simp only[aB];exact ug da
 | .gmap k=>by simp[aB]
 | .row _ k _=>by simp[aB]
 | .rptr _ k _ _ _=>by simp[aB]
 | .hdm _ _=>by simp[aB]
 | .hdi _ _ _=>by simp[aB]
 | .cst _=>by simp[aB]
theorem ug:∀cu:List ah,aG (fun _=>True) cu
 |[]=>by simp[aG]
 |x::xs=>by simp only[aG];exact⟨Fv x,ug xs⟩
end
def fy:List Nat→List Value→List MapEntry
 |b::eN,k::v::r=>⟨k,v,b⟩::fy eN r
 |_,_=>[]
def jz(cs:List ah)(us:Array Value)(el:fV):Obj:=
 match cs with
 | .hdm clock borns::_=>.map (fy borns us.toList).toArray clock
 | .hdi since seen last::_=>.mapIter (match us.toList with|[.map m]=>m|_=>none) since seen.toArray last
 |_=>.cells us el
structure agz (clock:Nat) (borns:List Nat) (r:List ah):Prop where
 len:r.length=2*borns.length
 inc:borns.Pairwise (· < ·)
 lt:∀b∈borns,b<clock
def iX(w:World)(ν:bd)(cs:List ah)(us:List Value):Prop:=
 match cs with
 | .hdm clock borns::r=>cP w ν r us∧agz clock borns r
 | .hdi _ _ _::r=>cP w ν r us
 |cs=>c4 w ν cs us
def gn:List ah→Bool
 | .hdm _ _::_=>false
 | .hdi _ _ _::_=>false
 |_=>true
theorem Av{w:World}{ν:bd}{cs:List ah}{us:List Value}(h:c4 w ν cs us):gn cs=true:=by
 unfold gn;split
 ·simp only[c4,ba]at h;obtain⟨_,_,_,⟨h,_⟩,_⟩:=h;exact h.elim
 ·simp only[c4,ba]at h;obtain⟨_,_,_,⟨h,_⟩,_⟩:=h;exact h.elim
 ·rfl
theorem uy{cs:List ah}(h:gn cs=true)(us:Array Value)(el:fV):jz cs us el= .cells us el:=by
 unfold gn at h;unfold jz;split at h<;>first|cases h|skip
 rfl
theorem uz{w:World}{ν:bd}{cs:List ah}(h:gn cs=true)(us:List Value):iX w ν cs us=c4 w ν cs us:=by
 unfold gn at h;unfold iX;split at h<;>first|cases h|skip
 rfl
structure oP (S:aD→Prop) (w:World) (ν:bd) (w':World) (bo:bd):Prop where
 A:∀b o,ν.A b o→bo.A b o∧w'.cell? ⟨b,o,none⟩=w.cell? ⟨b,o,none⟩
 bx:∀k b,S k→ν.bx k=some b→bo.bx k=some b
 ow:∀g n u,S g→ν.ow g=some (n,u)→∃n' eQ,bo.ow g=some (n',eQ)∧(n'=n∧eQ=u∨n<n')
 sh:∀b o,ν.A b o→shape w' b=shape w b
 tr:∀k j b,S k→ν.tr k j b→bo.tr k j b
abbrev la:=oP (fun _=>True)
mutual
theorem uG{S:aD→Prop}{w w':World}{ν bo:bd}(av:oP S w ν w' bo):∀(p:ah) (v:Value),aB S p→ba w ν p v→ba w' bo p v
 | .junk,_,_,_=>by simp[ba]
 | .int k n,_,_,h=>by simp only[ba]at h⊢;exact h
 | .bool b,_,_,h=>by simp only[ba]at h⊢;exact h
 | .str s,_,_,h=>by simp only[ba]at h⊢;exact h
 | .slice sz tag xs,v,ab,h=>by
  simp only[ba,aB]at h ab⊢;obtain⟨⟨a,cap,J,U,ao,a7⟩,bZ,c6,nv,sq⟩:=h;refine⟨⟨a,cap,J,U,ao,?_⟩,bZ,fun g a8=>?_,fun k j nx=>?_,fun k nx=>?_⟩
  ·rcases a7 with a7|⟨b,off,us,a7,c6,eg⟩
   ·exact .inl a7
   ·exact .inr ⟨b,off,us,a7,Fy av.A _ _ c6,Gv av sz xs us ab.2 eg⟩
  ·obtain⟨n,u,ak,aC,bj⟩:=c6 g a8;subst a8;obtain⟨n',eQ,f1,f2⟩:=av.ow g n u ab.1 ak;refine⟨n',eQ,f1,?_⟩;rcases f2 with⟨rfl,rfl⟩|f2
   ·exact⟨aC,bj⟩
   ·exact⟨by omega,fun e=>by omega⟩
  ·have:=nv k j nx;subst nx;exact Ey av.A av.sh _ _ _ _ (fun b=>av.tr k j b ab.1) this
  ·have:=sq k nx;subst nx;exact Ey av.A av.sh _ _ _ _ (fun b=>av.tr k 0 b ab.1) this
 | .agg cs,v,ab,h=>by simp only[ba,aB]at h ab⊢;obtain⟨us,J,U⟩:=h;exact⟨us,J,Gy av cs _ ab U⟩
 | .ptr key off,v,ab,h=>by simp only[ba,aB]at h ab⊢;obtain⟨b,J,U⟩:=h;exact⟨b,av.bx _ _ ab J,U⟩
 | .iface t x,v,ab,h=>by simp only[ba,aB]at h ab⊢;obtain⟨u,J,U⟩:=h;exact⟨u,J,uG av x u ab U⟩
 | .eptr x,v,ab,h=>by simp only[ba,aB]at h ab⊢;obtain⟨b,off,u,J,U,ao⟩:=h;exact⟨b,off,u,J,uG av x u ab U,Fy av.A _ _ ao⟩
 | .nilp,_,_,h=>by simp only[ba]at h⊢;exact h
 | .tuple bc,v,ab,h=>by simp only[ba,aB]at h ab⊢;obtain⟨us,J,U⟩:=h;exact⟨us,J,ya av bc _ ab U⟩
 | .func f da,v,ab,h=>by simp only[ba,aB]at h ab⊢;obtain⟨us,J,U⟩:=h;exact⟨us,J,ya av da _ ab U⟩
 | .gmap key,v,ab,h=>by simp only[ba,aB]at h ab⊢;obtain⟨b,J,U⟩:=h;exact⟨b,av.bx _ _ ab J,U⟩
 | .row sz key n,v,ab,h=>by
  simp only[ba,aB]at h ab⊢;obtain⟨J,U,n',u,ao,a7,bZ⟩:=h;obtain⟨gg,ji,f1,f2⟩:=av.ow key n' u ab ao;refine⟨J,U,gg,ji,f1,?_⟩;rcases f2 with⟨rfl,rfl⟩|f2
  ·exact⟨a7,bZ⟩
  ·exact⟨by omega,fun e=>by omega⟩
 | .rptr sz key n i f,v,ab,h=>by
  simp only[ba,aB]at h ab⊢;obtain⟨J,U,n',u,ao,a7,bZ⟩:=h;obtain⟨gg,ji,f1,f2⟩:=av.ow key n' u ab ao;refine⟨J,U,gg,ji,f1,?_⟩;rcases f2 with⟨rfl,rfl⟩|f2
  ·exact⟨a7,bZ⟩
  ·exact⟨by omega,fun e=>by omega⟩
 | .hdm _ _,_,_,h=>by simp only[ba]at h
 | .hdi _ _ _,_,_,h=>by simp only[ba]at h
 | .cst c,_,_,h=>by simp only[ba]at h⊢;exact h
theorem Gy{S:aD→Prop}{w w':World}{ν bo:bd}(av:oP S w ν w' bo):∀(cs:List ah) (us:List Value),aG S cs→c4 w ν cs us→c4 w' bo cs us
 |[],_,_,h=>by simp only[c4]at h⊢;exact h
 |c::cs,us,ab,h=>by simp only[c4,aG]at h ab⊢;obtain⟨u,cj,J,U,ao⟩:=h;exact⟨u,cj,J,⟨uG av c u ab.1 U.1,U.2⟩,Gy av cs cj ab.2 ao⟩
theorem ya{S:aD→Prop}{w w':World}{ν bo:bd}(av:oP S w ν w' bo):∀(cs:List ah) (us:List Value),aG S cs→cP w ν cs us→cP w' bo cs us
 |[],_,_,h=>by simp only[cP]at h⊢;exact h
 |c::cs,us,ab,h=>by simp only[cP,aG]at h ab⊢;obtain⟨u,cj,J,U,ao⟩:=h;exact⟨u,cj,J,uG av c u ab.1 U,ya av cs cj ab.2 ao⟩
theorem Gv{S:aD→Prop}{w w':World}{ν bo:bd}(av:oP S w ν w' bo)(sz:Nat):∀(xs:List ah) (us:List Value),aG S xs→dx w ν sz xs us→dx w' bo sz xs us
 |[],_,_,h=>by simp only[dx]at h⊢;exact h
 |x::xs,us,ab,h=>by simp only[dx,aG]at h ab⊢;obtain⟨u,cj,J,⟨U,ao,a7⟩,bZ⟩:=h;exact⟨u,cj,J,⟨uG av x u ab.1 U,ao,a7⟩,Gv av sz xs cj ab.2 bZ⟩
end
theorem VZ{S:aD→Prop}{w w':World}{ν bo:bd}(av:oP S w ν w' bo){cs:List ah}{us:List Value}(ab:aG S cs)(h:iX w ν cs us):iX w' bo cs us:=by
 unfold iX at h⊢;split
 ·simp only[aG]at ab;exact⟨ya av _ _ ab.2 h.1,h.2⟩
 ·simp only[aG]at ab;exact ya av _ _ ab.2 h
 ·rename_i J U;split at h
  ·exact absurd rfl (J _ _ _)
  ·exact absurd rfl (U _ _ _ _)
  ·exact Gy av _ _ ab h
section
variable {w w':World} {ν bo:bd} (av:la w ν w' bo)
include av
theorem yb{p:ah}{v:Value}(h:ba w ν p v):ba w' bo p v:=uG av p v (Fv p) h
theorem V4{p:List ah}{v:List Value}(h:c4 w ν p v):c4 w' bo p v:=Gy av p v (ug p) h
theorem GB{p:List ah}{v:List Value}(h:cP w ν p v):cP w' bo p v:=ya av p v (ug p) h
theorem pY{p:List ah}{v:List Value}(h:iX w ν p v):iX w' bo p v:=VZ av (ug p) h
theorem Aq{sz:Nat}{p:List ah}{v:List Value}(h:dx w ν sz p v):dx w' bo sz p v:=Gv av sz p v (ug p) h
end
end Go.Pv
namespace Go.Pv
open Go Go.RowKit
def get(k:Nat):List (Nat×ah)→ah
 |[]=>.junk
 |(i,p)::r=>if i=k then p else get k r
def put(k:Nat)(p:ah):List (Nat×ah)→List (Nat×ah)
 |[]=>[(k,p)]
 |(i,q)::r=>if i=k then(i,p)::r else(i,q)::put k p r
def look{α:Type}(k:aD):List (aD×α)→aY α
 |[]=>none
 |(i,p)::r=>if i=k then some p else look k r
def cw{α:Type}(k:aD)(p:α):List (aD×α)→List (aD×α)
 |[]=>[(k,p)]
 |(i,q)::r=>if i=k then(i,p)::r else(i,q)::cw k p r
theorem o4(k j:Nat)(p:ah):∀l,get j (put k p l)=if k=j then p else get j l
 |[]=>by simp[get,put]
 |(i,q)::r=>by
  by_cases h:i=k
  ·subst h;by_cases U:i=j<;>simp[get,put,U]
  ·by_cases U:i=j
   ·subst U;simp[get,put,h,kL h]
   ·simp[get,put,h,U,o4 k j p r]
theorem iI{α:Type}(k j:aD)(p:α):∀l,look j (cw k p l)=if k=j then some p else look j l
 |[]=>by simp[look,cw]
 |(i,q)::r=>by
  by_cases h:i=k
  ·subst h;by_cases U:i=j<;>simp[look,cw,U]
  ·by_cases U:i=j
   ·subst U;simp[look,cw,h,kL h]
   ·simp[look,cw,h,U,iI k j p r]
structure fM where
 n:Nat
 el:Nat
 sz:Nat
 xs:aY (List ah)
def L0(w:World)(ν:bd)(o:fM)(v:Value)(us:List Value):Prop:=∀xs,o.xs=some xs→xs.length=o.n∧dx w ν o.sz xs us∧∀bl,v.ownBlock=some bl→∀j,¬ν.A bl j
theorem rO{w w':World}{ν bo:bd}(av:la w ν w' bo){o:fM}{v:Value}{us:List Value}(bh:∀bl,v.ownBlock=some bl→∀j,bo.A bl j→ν.A bl j)(h:L0 w ν o v us):L0 w' bo o v us:=fun xs ad=>⟨(h xs ad).1,Aq av (h xs ad).2.1,fun bl ae j af=>(h xs ad).2.2 bl ae j (bh bl ae j af)⟩
def dR(S:aD→Prop)(o:fM):Prop:= ∀xs,o.xs=some xs→aG S xs
structure bp where
 t:List (Nat×ah)
 b:List (aD×List ah)
 e:List (aD×fM)
 n:Nat
 o:List aD
def fresh(n:Nat)(o:List aD)(k:aD):Prop:=(match k with| .loc m=>n≤m| .obj _=>True)∧k∉o
theorem IQ{n n':Nat}{o o':List aD}(aA:n≤n')(av:∀k∈o,k∈o'){k:aD}(h:fresh n' o' k):fresh n o k:=by unfold fresh at h⊢;exact⟨by cases k<;>simp at h⊢;omega,fun ab=>h.2 (av k ab)⟩
def Mv(ν:bd)(b:List (aD×List ah))(e:List (aD×fM))(bl:Nat):Prop:=(∃k,(look k b).isSome∧ν.bx k=some bl)∨(∃g n v,(look g e).isSome∧ν.ow g=some (n,v)∧v.ownBlock=some bl)
structure Good (pr:Nat→Prop) (w:World) (ν:bd) (b:List (aD×List ah)) (e:List (aD×fM)):Prop where
 alt:∀bl o,ν.A bl o→bl<w.heap.size
 box:∀k cs,look k b=some cs→∃bl us el,ν.bx k=some bl∧pr bl∧(∀o,¬ν.A bl o)∧w.heap[bl]? =some (jz cs us el)∧iX w ν cs us.toList
 inj:∀k bM bl,(look k b).isSome→(look bM b).isSome→ν.bx k=some bl→ν.bx bM=some bl→k=bM
 own:∀g o,look g e=some o→∃v us,ν.ow g=some (o.n,v)∧w.ownsRow 0 o.el o.sz v o.n us∧(∀bl,v.ownBlock=some bl→pr bl∧(∀j,ν.A bl j→j<o.n*o.sz))∧L0 w ν o v us
 oinj:∀g fe n n' v v' bl,(look g e).isSome→(look fe e).isSome→ν.ow g=some (n,v)→ν.ow fe=some (n',v')→v.ownBlock=some bl→v'.ownBlock=some bl→g=fe
 obx:∀g k n v bl,(look g e).isSome→(look k b).isSome→ν.ow g=some (n,v)→v.ownBlock=some bl→ν.bx k=some bl→eR
 one:∀k,ν.bx k=none∨ν.ow k=none
 otr:∀bl,Mv ν b e bl→∀k j,¬ν.tr k j bl
structure fc where
 w0:World
 ν0:bd
 mt:Nat→Prop
 N:Nat
 ob:List aD
def fc.pr(C:fc)(bl:Nat):Prop:=C.mt bl∨C.w0.heap.size≤bl
def akR:aD:= .obj 990001
def fU:aD:= .obj 990002
structure p8 (C:fc) (w:World) (ν:bd):Prop where
 os:w.os=C.w0.os
 tape:w.tape=C.w0.tape
 output:w.output=C.w0.output
 size:C.w0.heap.size≤w.heap.size
 block:∀k,k<C.w0.heap.size→¬C.mt k→w.heap[k]? =C.w0.heap[k]?
 keep:∀b o,C.ν0.A b o→ν.A b o∧w.cell? ⟨b,o,none⟩=C.w0.cell? ⟨b,o,none⟩
 fresh:∀b o,ν.A b o→C.ν0.A b o∨C.pr b
 obj:∀n b,C.ν0.bx (.obj n)=some b→ν.bx (.obj n)=some b
 obn:∀n b,C.ν0.bx (.obj n)=some b→ .obj n∈C.ob
 row:∀m n u,C.ν0.ow (.obj m)=some (n,u)→∃n' eQ,ν.ow (.obj m)=some (n',eQ)∧(n'=n∧eQ=u∨n<n')
 obr:∀m n u,C.ν0.ow (.obj m)=some (n,u)→ .obj m∈C.ob
 trd:∀k j bM dy b,ν.tr k j b→ν.tr bM dy b→k=bM∧j=dy
 trb:∀k j b,ν.tr k j b→(k=akR∨C.w0.heap.size≤b)∧b<w.heap.size
 trn:∀k j b,ν.tr k j b→ν.bx k=none∧ν.ow k=none
 sh:∀b o,C.ν0.A b o→shape w b=shape C.w0 b
theorem C8{ν bo:bd}{g:aD}{n:Nat}{u:Value}(h:∃n' eQ,ν.ow g=some (n',eQ)∧(n'=n∧eQ=u∨n<n'))(av:∀n u,ν.ow g=some (n,u)→∃n' eQ,bo.ow g=some (n',eQ)∧(n'=n∧eQ=u∨n<n')):
  ∃n' eQ,bo.ow g=some (n',eQ)∧(n'=n∧eQ=u∨n<n'):=by
 obtain⟨ia,iM,ak,aC⟩:=h;obtain⟨gg,ji,f1,f2⟩:=av ia iM ak;refine⟨gg,ji,f1,?_⟩;rcases aC with⟨rfl,rfl⟩|aC
 ·exact f2
 ·rcases f2 with⟨rfl,rfl⟩|f2
  ·exact .inr aC
  ·exact .inr (by omega)
structure cT (C:fc) (st:bp) (a:Act) (w:World) (ν:bd):Prop where
 good:Good C.pr w ν st.b st.e
 fr:p8 C w ν
 defers:a.defers=[]
 size:a.tmps.size=C.N
 slot:∀i,ba w ν (get i st.t) (a.tmps.getD i undef)
 new:∀k,fresh st.n st.o k→ν.bx k=none∧ν.ow k=none∧∀j b,¬ν.tr k j b
def eM(d:aY Nat)(p:ah)(t:List (Nat×ah)):List (Nat×ah):=
 match d with
 |some d=>put d p t
 |none=>t
def jb(N:Nat)(d:aY Nat):Bool:=match d with|some d=>decide (d<N)|none=>true
theorem cT.put{C:fc}{st:bp}{a:Act}{w:World}{ν:bd}(h:cT C st a w ν){d:aY Nat}(aR:jb C.N d=true){p:ah}{v:Value}(bH:ba w ν p v):
  cT C {st with t:=eM d p st.t} (a.put d v) w ν:=by
 cases d with
 |none=>exact h
 |some d=>
  have bA:d<a.tmps.size:=by rw[h.size];simpa[jb]using aR
  refine⟨h.good,h.fr,h.defers,by simpa[Act.put]using h.size,fun i=>?_,h.new⟩;simp only[eM,o4];by_cases e:d=i
  ·subst e;simpa[Act.put,Array.getD_eq_getD_getElem?,bA]using bH
  ·have:=h.slot i;simpa[e,Act.put,Array.getD_eq_getD_getElem?,Array.getElem?_setIfInBounds_ne e]using this
theorem cT.over{C:fc}{st st':bp}{a:Act}{w w':World}{ν bo:bd}(h:cT C st a w ν)(av:la w ν w' bo)(aL:st'.t=st.t)(a8:Good C.pr w' bo st'.b st'.e)(aH:p8 C w' bo)
  (aA:∀k,fresh st'.n st'.o k→bo.bx k=none∧bo.ow k=none∧∀j b,¬bo.tr k j b):cT C st' a w' bo:=
 ⟨a8,aH,h.defers,h.size,fun i=>by rw[aL];exact yb av (h.slot i),aA⟩
inductive dr where
 |t (i:Nat)
 |c (p:ah)
 deriving Inhabited
def cm(t:List (Nat×ah)):dr→ah
 | .t i=>get i t
 | .c p=>p
def DV:ah→Value→Bool
 | .int k n,.int bM n'=>decide (k=bM∧n=n')
 | .bool b,.bool b2=>b==b2
 | .str s,.string l=>decide (l.data.toList=s∧s.length≤lim)
 | .slice _ .nil [],.slice none 0 0=>true
 | .nilp,.pointer none=>true
 | .tuple [],.tuple ⟨[]⟩=>true
 | .func f [],.func (.func g) ⟨[]⟩ ⟨[]⟩=>f==g
 | .junk,_=>true
 |_,_=>false
theorem NU(w:World)(ν:bd){p:ah}{v:Value}(h:DV p v=true):ba w ν p v:=by
 unfold DV at h;split at h
 ·simp at h;obtain⟨rfl,rfl⟩:=h;simp[ba]
 ·simp at h;subst h;simp[ba]
 ·rename_i s l;simp at h;obtain⟨J,U⟩:=h;refine⟨?_,U⟩;subst J;simp
 ·simp only[ba];refine⟨⟨none,0,rfl,by simp,by simp,by simp⟩,by simp,(fun _ h=>by cases h),(fun _ _ h=>by cases h),(fun _ h=>by cases h)⟩
 ·simp[ba]
 ·simp[ba,cP]
 ·simp at h;subst h;simp[ba,cP]
 ·simp[ba]
 ·cases h
def yH:List ah→List Value→Bool
 |[],[]=>true
 |p::cu,v::bc=>DV p v&&v.oneCell'&&yH cu bc
 |_,_=>false
def yG:ah→Value→Bool
 | .agg cs,.agg us=>yH cs us.toList
 |p,v=>DV p v
theorem NV(w:World)(ν:bd):∀(cu:List ah) (bc:List Value),yH cu bc=true→c4 w ν cu bc
 |[],[],_=>by simp[c4]
 |[],_::_,h=>by simp[yH]at h
 |_::_,[],h=>by simp[yH]at h
 |p::cu,v::bc,h=>by simp only[yH,cA]at h;simp only[c4];exact⟨v,bc,rfl,⟨NU w ν h.1.1,h.1.2⟩,NV w ν cu bc h.2⟩
theorem HK(w:World)(ν:bd){p:ah}{v:Value}(h:yG p v=true):ba w ν p v:=by
 unfold yG at h;split at h
 ·simp only[ba];exact⟨_,rfl,NV w ν _ _ h⟩
 ·exact NU w ν h
def ei:dr→Operand→Bool
 | .t i,.tmp j=>i==j
 | .c p,.const v=>yG p v
 | .c (.func f []),.func g=>f==g
 |_,_=>false
theorem ej{C:fc}{st:bp}{a:Act}{w:World}{ν:bd}(h:cT C st a w ν){x:dr}{o:Operand}(ad:ei x o=true):ba w ν (cm st.t x) (a.eval o):=by
 unfold ei at ad;split at ad
 ·simp at ad;subst ad;simpa[cm,Act.eval]using h.slot _
 ·simpa[cm,Act.eval]using HK w ν ad
 ·simp at ad;subst ad;simp[cm,Act.eval,ba,cP]
 ·cases ad
inductive AZ where
 |int (k:IntKind)
 |bool
 |str
 |slice (e:Nat)
 |struct (dJ:List (Nat×Nat))
 |map (k e:Nat)
 |other
 deriving DecidableEq
structure dA where
 size:Nat
 bytes:Nat
 kind:AZ
 zero:ah
def AZ.isAgg:AZ→Bool
 | .struct _=>true
 |_=>false
def AR:List ah→List Value→Bool
 |[],[]=>true
 |p::cu,v::bc=>yG p v&&v.oneCell'&&AR cu bc
 |_,_=>false
def yt:ah→Value→Bool
 | .agg cs,.agg us=>AR cs us.toList
 | .agg _,_=>false
 |p,v=>yG p v&&v.oneCell'
def jU:AZ→TypeDesc→Bool
 | .int k,.int bM=>decide (k=bM)
 | .bool,.bool=>true
 | .str,.string=>true
 | .slice e,.slice fE=>e==fE
 | .struct dJ,.struct gs=>decide (gs.toList.map (fun f=>(f.offset,f.type))=dJ)
 | .map k e,.map bM fE=>k==bM&&e==fE
 | .other,d=>match d with| .struct _| .array _ _| .int _| .bool| .string| .slice _=>false|_=>true
 |_,_=>false
def Q0(P:cB)(gs:Array Field):Bool:=gs.toList.all fun f=>match P.underlying f.type with|some (.int _)=>true|some .string=>true|_=>false
def Qc(P:cB)(t:Nat)(gs:Array Field):Bool:=gs.toList.all (fun f=>f.name != "_")&& !P.stoodInHeld t&& !P.eqGuardType P.depth t
def Ia(P:cB)(t:Nat):TypeDesc→Bool
 | .struct gs=> !Q0 P gs||Qc P t gs
 |_=>true
def MC(P:cB)(t:Nat)(f:dA):Bool:=
 match P.info? t,P.underlying t with
 |some i,some d=>Ia P t d&&i.size==f.size&&i.bytes==f.bytes&&jU f.kind d&&(match i.zero with|some z=>yt f.zero z&&z.cells.size==f.size|none=>false)
 |_,_=>false
def fN(P:cB)(bz:List (Nat×dA)):Bool:=bz.all fun x=>MC P x.1 x.2
def dZ(bz:List (Nat×dA))(t:Nat):aY dA:=(bz.find? fun x=>x.1==t).map (·.2)
theorem alK{P:cB}{bz:List (Nat×dA)}(h:fN P bz=true){t:Nat}{f:dA}(aH:dZ bz t=some f):MC P t f=true:=by
 unfold dZ at aH;cases ad:bz.find? fun x=>x.1==t with
 |none=>simp[ad]at aH
 |some x=>simp[ad]at aH;have J:=List.find?_some ad;simp at J;have U:=List.mem_of_find?_eq_some ad;have ao:=ir.1 h x U;rw[←aH,←J];exact ao
structure X5 (P:cB) (t:Nat) (f:dA):Prop where
 cmp:∀d,P.underlying t=some d→Ia P t d=true
 ex:∃i d z,P.info? t=some i∧P.underlying t=some d∧i.size=f.size∧i.bytes=f.bytes∧jU f.kind d=true∧i.zero=some z∧yt f.zero z=true∧z.cells.size=f.size
theorem uQ{P:cB}{bz:List (Nat×dA)}(h:fN P bz=true){t:Nat}{f:dA}(aH:dZ bz t=some f):X5 P t f:=by
 have h:=alK h aH;unfold MC at h;split at h
 ·rename_i i d J U;simp only[cA,dL]at h;obtain⟨⟨⟨⟨bq,ao⟩,a7⟩,bZ⟩,c6⟩:=h;split at c6
  ·rename_i z bE;simp only[cA,dL]at c6;exact⟨fun b9 l9=>by rw[U]at l9;cases l9;exact bq,i,d,z,J,U,ao,a7,bZ,bE,c6.1,c6.2⟩
  ·cases c6
 ·cases h
theorem oR(b o j:Nat):(⟨b,o,none⟩:Addr).add j=⟨b,o+j,none⟩:=by
 unfold Addr.add;split
 ·rename_i h;subst h;rfl
 ·rfl
theorem M2(w:World)(ν:bd):∀(cu:List ah) (bc:List Value),AR cu bc=true→c4 w ν cu bc
 |[],[],_=>by simp[c4]
 |[],_::_,h=>by simp[AR]at h
 |_::_,[],h=>by simp[AR]at h
 |p::cu,v::bc,h=>by simp only[AR,cA]at h;simp only[c4];exact⟨v,bc,rfl,⟨HK w ν h.1.1,h.1.2⟩,M2 w ν cu bc h.2⟩
def cells:ah→List ah
 | .agg cs=>cs
 |p=>[p]
def dY:ah→Bool
 | .junk| .tuple _=>false
 | .cst (.slice _ _ _)| .cst (.string _)=>true
 | .cst _=>false
 |_=>true
theorem LY{w:World}{ν:bd}{p:ah}{v:Value}(h:ba w ν p v)(ag:dY p=true)(bD:∀cs,p≠ .agg cs):v.oneCell'=true∧v.cells= #[v]:=by
 cases p<;>simp only[ba,dY]at h ag;case junk=>cases ag
 case tuple=>cases ag
 case cst c=>subst h;cases v<;>first|exact⟨rfl,rfl⟩|cases ag
 case agg cs=>exact absurd rfl (bD cs)
 case int=>subst h;exact⟨rfl,rfl⟩
 case bool=>subst h;exact⟨rfl,rfl⟩
 case str=>rw[h.1];exact⟨rfl,rfl⟩
 case slice=>obtain⟨⟨a,cap,J,_⟩,_⟩:=h;subst J;exact⟨rfl,rfl⟩
 case ptr=>obtain⟨b,_,J⟩:=h;subst J;exact⟨rfl,rfl⟩
 case eptr=>obtain⟨b,o,u,J,_⟩:=h;subst J;exact⟨rfl,rfl⟩
 case iface=>obtain⟨u,J,_⟩:=h;subst J;exact⟨rfl,rfl⟩
 case nilp=>subst h;exact⟨rfl,rfl⟩
 case func=>obtain⟨us,J,_⟩:=h;subst J;exact⟨rfl,rfl⟩
 case gmap=>obtain⟨b,_,J⟩:=h;subst J;exact⟨rfl,rfl⟩
 case row=>obtain⟨⟨a,cap,J⟩,_⟩:=h;subst J;exact⟨rfl,rfl⟩
 case rptr=>obtain⟨⟨a,o,J⟩,_⟩:=h;subst J;exact⟨rfl,rfl⟩
theorem uF{w:World}{ν:bd}{p:ah}{v:Value}(h:ba w ν p v)(ag:dY p=true):c4 w ν (cells p) v.cells.toList:=by
 by_cases bD:∃cs,p= .agg cs
 ·obtain⟨cs,rfl⟩:=bD;simp only[ba]at h;obtain⟨us,rfl,U⟩:=h;simpa[cells,oH]using U
 ·have mM:∀cs,p≠ .agg cs:=fun cs e=>bD ⟨cs,e⟩;obtain⟨J,U⟩:=LY h ag mM;have aw:cells p=[p]:=by cases p<;>first|rfl|exact absurd rfl (mM _)
  rw[aw,U];simp only[c4];exact⟨v,[],rfl,⟨h,J⟩,rfl⟩
theorem Au{w:World}{ν:bd}:∀{cu:List ah} {bc:List Value},c4 w ν cu bc→∀c∈bc,c.oneCell'=true
 |[],bc,h=>by simp only[c4]at h;subst h;simp
 |p::cu,bc,h=>by
  simp only[c4]at h;obtain⟨u,cj,rfl,J,U⟩:=h;intro c aw;rcases fK.1 aw with rfl|aw
  ·exact J.2
  ·exact Au U c aw
theorem po{w:World}{ν:bd}:∀{cu:List ah} {bc:List Value},c4 w ν cu bc→bc.length=cu.length
 |[],bc,h=>by simp only[c4]at h;subst h;rfl
 |p::cu,bc,h=>by simp only[c4]at h;obtain⟨u,cj,rfl,_,U⟩:=h;simp[po U]
theorem Ar{w:World}{ν:bd}:∀(n:Nat) {cu:List ah} {bc:List Value},c4 w ν cu bc→c4 w ν (cu.drop n) (bc.drop n)
 |0,_,_,h=>by simpa using h
 |n+1,[],bc,h=>by simp only[c4]at h;subst h;simp[c4]
 |n+1,p::cu,bc,h=>by simp only[c4]at h;obtain⟨u,cj,rfl,_,U⟩:=h;simpa using Ar n U
theorem C3{w:World}{ν:bd}:∀(n:Nat) {cu:List ah} {bc:List Value},c4 w ν cu bc→c4 w ν (cu.take n) (bc.take n)
 |0,_,_,_=>by simp[c4]
 |n+1,[],bc,h=>by simp only[c4]at h;subst h;simp[c4]
 |n+1,p::cu,bc,h=>by simp only[c4]at h;obtain⟨u,cj,rfl,J,U⟩:=h;simp only[List.take_succ_cons,c4];exact⟨u,_,rfl,J,C3 n U⟩
theorem x9{w:World}{ν:bd}:∀{cu bW:List ah} {bc us:List Value},c4 w ν cu bc→c4 w ν bW us→c4 w ν (cu++bW) (bc++us)
 |[],bW,bc,us,h,cr=>by simp only[c4]at h;subst h;simpa using cr
 |p::cu,bW,bc,us,h,cr=>by simp only[c4]at h;obtain⟨u,cj,rfl,J,U⟩:=h;simp only[bP,c4];exact⟨u,_,rfl,J,x9 U cr⟩
theorem C2{w:World}{ν:bd}:∀(n:Nat) {cu:List ah} {bc:List Value} {p:ah},c4 w ν cu bc→cu[n]? =some p→∃v,bc[n]? =some v∧ba w ν p v∧v.oneCell'=true
 |n,[],_,p,_,bH=>by simp at bH
 |0,q::cu,bc,p,h,bH=>by simp only[c4]at h;obtain⟨u,cj,rfl,J,_⟩:=h;simp at bH;subst bH;exact⟨u,rfl,J.1,J.2⟩
 |n+1,q::cu,bc,p,h,bH=>by simp only[c4]at h;obtain⟨u,cj,rfl,_,U⟩:=h;simpa using C2 n U (by simpa using bH)
theorem Gz{w:World}{ν:bd}:∀(n:Nat) {cu:List ah} {bc:List Value} {p:ah},cP w ν cu bc→cu[n]? =some p→∃v,bc[n]? =some v∧ba w ν p v
 |n,[],_,p,_,bH=>by simp at bH
 |0,q::cu,bc,p,h,bH=>by simp only[cP]at h;obtain⟨u,cj,rfl,J,_⟩:=h;simp at bH;subst bH;exact⟨u,rfl,J⟩
 |n+1,q::cu,bc,p,h,bH=>by simp only[cP]at h;obtain⟨u,cj,rfl,_,U⟩:=h;simpa using Gz n U (by simpa using bH)
theorem uj{w:World}{A:Nat→Nat→Prop}{b:Nat}:∀{us:List Value} {off j:Nat} {u:Value},lx w A b off us→us[j]? =some u→A b (off+j)∧w.cell? ⟨b,off+j,none⟩=some u
 |[],_,_,_,_,h=>by simp at h
 |x::us,off,0,u,ar,h=>by simp at h;subst h;exact ar.1
 |x::us,off,j+1,u,ar,h=>by have:=uj (j:=j) ar.2 (by simpa using h);rwa[show off+1+j=off+(j+1)from by omega]at this
theorem Fx{w:World}{A:Nat→Nat→Prop}{b:Nat}:∀(n:Nat) {us:List Value} {off:Nat},lx w A b off us→lx w A b (off+n) (us.drop n)
 |0,_,_,h=>by simpa using h
 |n+1,[],_,_=>by simp[lx]
 |n+1,x::us,off,h=>by have:=Fx n h.2;rw[show off+(n+1)=off+1+n from by omega];simpa using this
theorem Fz{w:World}{A:Nat→Nat→Prop}{b:Nat}:∀(n:Nat) {us:List Value} {off:Nat},lx w A b off us→lx w A b off (us.take n)
 |0,_,_,_=>by simp[lx]
 |n+1,[],_,_=>by simp[lx]
 |n+1,x::us,off,h=>by simp only[List.take_succ_cons];exact⟨h.1,Fz n h.2⟩
theorem akL{P:cB}{w:World}{A:Nat→Nat→Prop}{b off:Nat}{us:List Value}(h:lx w A b off us):(loadCells ⟨b,off,none⟩ us.length).run P w= .ok us.toArray w:=run_loadCells_list w _ us fun j v af=>by rw[oR];exact(uj h af).2
theorem akK{P:cB}{w:World}{b off n:Nat}{us:Array Value}{el:fV}{fr:Nat×Nat}(h:w.heap[b]? =some (.cells us el fr))(aA:off+n≤us.size):
  (loadCells ⟨b,off,none⟩ n).run P w= .ok ((us.toList.drop off).take n).toArray w:=by
 have ar:((us.toList.drop off).take n).length=n:=by simp;omega
 have:=run_loadCells_list (P:=P) w ⟨b,off,none⟩ ((us.toList.drop off).take n) fun j v af=>by
  rw[oR];have aex:j<n:=by have:=(fw.1 af).1;omega
  simp only[World.cell?,h,l0,gT,if_false];rw[List.getElem?_take]at af;simpa[aex]using af
 rw[ar]at this;exact this
theorem Qp{α:Type}(l r:List α)(n sz:Nat)(h:l.length=sz):(l++r).drop ((n+1)*sz)=r.drop (n*sz):=by
 have e:(n+1)*sz=l.length+n*sz:=by rw[h,Nat.succ_mul,Nat.add_comm]
 rw[e,←List.drop_drop];simp
theorem WJ{α:Type}(l r:List α)(n sz:Nat)(h:l.length=sz):(l++r).take ((n+1)*sz)=l++r.take (n*sz):=by
 have e:(n+1)*sz=l.length+n*sz:=by rw[h,Nat.succ_mul,Nat.add_comm]
 rw[e,List.take_length_add_append]
theorem Gu{w:World}{ν:bd}{sz:Nat}:∀(i:Nat) {xs:List ah} {us:List Value} {p:ah},dx w ν sz xs us→xs[i]? =some p→
  ∃u,ba w ν p u∧u.cells.size=sz∧u.cells.toList=(us.drop (i*sz)).take sz
 |i,[],_,p,_,bH=>by simp at bH
 |0,x::xs,us,p,h,bH=>by
  simp only[dx]at h;obtain⟨u,cj,rfl,⟨J,U,ao⟩,_⟩:=h;simp at bH;subst bH;refine⟨u,J,U,?_⟩;have:u.cells.toList.length=sz:=by simpa using U
  simp[←this]
 |i+1,x::xs,us,p,h,bH=>by
  simp only[dx]at h;obtain⟨u,cj,rfl,⟨_,U,_⟩,bZ⟩:=h;obtain⟨v,g1,g2,g3⟩:=Gu i bZ (by simpa using bH);refine⟨v,g1,g2,?_⟩;have:u.cells.toList.length=sz:=by simpa using U
  rw[g3,Qp _ _ _ _ this]
theorem sX{w:World}{ν:bd}{sz:Nat}:∀{xs:List ah} {us:List Value},dx w ν sz xs us→us.length=xs.length*sz
 |[],us,h=>by simp only[dx]at h;subst h;simp
 |x::xs,us,h=>by
  simp only[dx]at h;obtain⟨u,cj,rfl,⟨_,U,_⟩,bZ⟩:=h;have:u.cells.toList.length=sz:=by simpa using U
  rw[oI,this,sX bZ,oJ,Nat.succ_mul];omega
theorem x8{w:World}{ν:bd}{sz:Nat}:∀{xs:List ah} {us:List Value},dx w ν sz xs us→∀c∈us,c.oneCell'=true
 |[],us,h=>by simp only[dx]at h;subst h;simp
 |x::xs,us,h=>by
  simp only[dx]at h;obtain⟨u,cj,rfl,⟨_,_,ao⟩,bZ⟩:=h;intro c aw;rcases jP.1 aw with aw|aw
  ·exact ao c aw
  ·exact x8 bZ c aw
theorem C1{w:World}{ν:bd}{sz:Nat}:∀{cu bW:List ah} {bc us:List Value},dx w ν sz cu bc→dx w ν sz bW us→dx w ν sz (cu++bW) (bc++us)
 |[],bW,bc,us,h,cr=>by simp only[dx]at h;subst h;simpa using cr
 |p::cu,bW,bc,us,h,cr=>by simp only[dx]at h;obtain⟨u,cj,rfl,J,U⟩:=h;simp only[bP,dx];exact⟨u,cj++us,by simp,J,C1 U cr⟩
theorem V0{w:World}{ν:bd}{sz:Nat}:∀(n:Nat) {xs:List ah} {us:List Value},dx w ν sz xs us→dx w ν sz (xs.drop n) (us.drop (n*sz))
 |0,_,_,h=>by simpa using h
 |n+1,[],us,h=>by simp only[dx]at h;subst h;simp[dx]
 |n+1,x::xs,us,h=>by
  simp only[dx]at h;obtain⟨u,cj,rfl,⟨_,U,_⟩,bZ⟩:=h;have:u.cells.toList.length=sz:=by simpa using U
  rw[Qp _ _ _ _ this];simpa using V0 n bZ
theorem V3{w:World}{ν:bd}{sz:Nat}:∀(n:Nat) {xs:List ah} {us:List Value},dx w ν sz xs us→dx w ν sz (xs.take n) (us.take (n*sz))
 |0,_,_,_=>by simp[dx]
 |n+1,[],us,h=>by simp only[dx]at h;subst h;simp[dx]
 |n+1,x::xs,us,h=>by
  simp only[dx]at h;obtain⟨u,cj,rfl,⟨J,U,ao⟩,bZ⟩:=h;have:u.cells.toList.length=sz:=by simpa using U
  simp only[List.take_succ_cons,dx];refine⟨u,cj.take (n*sz),?_,⟨J,U,ao⟩,V3 n bZ⟩;rw[WJ _ _ _ _ this]
def isAgg(sz:Nat)(p:ah):Prop:= ∃cs,p= .agg cs∧cs.length=sz
def yd(agg:Bool)(sz dD n i f:Nat):aY fM→aY (Prop×ah)
 |some ⟨n',_,iZ,some xs⟩=>if n'=n∧iZ=dD then
   (match xs[i]? with
    |some p=>if agg then some (dY p=true∧f+sz≤(cells p).length,.agg (((cells p).drop f).take sz))else((cells p)[f]?).map fun q=>(dY p=true,q)
    |none=>none)else none
 |_=>none
def mo(b:List (aD×List ah))(e:List (aD×fM))(agg:Bool)(sz:Nat):ah→aY (Prop×ah)
 | .rptr dD k n i f=>yd agg sz dD n i f (look k e)
 | .ptr k off=>
  match look k b with
  |some cs=>if agg then some (gn cs=true∧off+sz≤cs.length,.agg ((cs.drop off).take sz))else(cs[off]?).map fun p=>(gn cs=true,p)
  |none=>none
 | .eptr p=>if agg then some (isAgg sz p,p)else some (dY p=true∧cells p=[p],p)
 |_=>none
def Bs(agg:Bool)(sz:Nat):ah→aY (Prop×ah)
 | .eptr p=>if agg then some (isAgg sz p,p)else some (dY p=true∧cells p=[p],p)
 |_=>none
theorem acQ{b:List (aD×List ah)}{e:List (aD×fM)}{agg:Bool}{sz:Nat}{p:ah}{r:Prop×ah}(h:Bs agg sz p=some r):mo b e agg sz p=some r:=by
 cases p<;>simp only[Bs]at h<;>first|cases h;done|skip
 simpa only[mo]using h
theorem agt{b:List (aD×List ah)}{e:List (aD×fM)}{agg:Bool}{sz:Nat}{p:ah}{r:Prop×ah}(h:mo b [] agg sz p=some r):mo b e agg sz p=some r:=by cases p<;>simp only[mo]at h⊢ <;>first|exact h|(simp[look,yd]at h)
def pF(off:Nat)(agg:Bool)(sz:Nat):ah→aY (Prop×ah)
 | .ptr k o=>some (True,.ptr k (o+off))
 | .rptr dD k n i f=>some (True,.rptr dD k n i (f+off))
 | .eptr (.agg cs)=>if agg then some (off+sz≤cs.length,.eptr (.agg ((cs.drop off).take sz)))else(cs[off]?).map fun p=>(dY p=true∧cells p=[p],.eptr p)
 |_=>none
def q2(off:Nat)(agg:Bool)(sz:Nat):ah→aY (Prop×ah)
 | .agg cs=>if agg then some (off+sz≤cs.length,.agg ((cs.drop off).take sz))else(cs[off]?).map fun p=>(True,p)
 |_=>none
def zB(sz:Nat):ah→ah→aY (Prop×ah)
 | .slice dD _ xs,.int _ i=>if dD=sz then some (0≤i∧i<xs.length,.eptr (xs.getD i.toNat .junk))else none
 | .row dD k n,.int _ i=>if dD=sz then some (0≤i∧i<n,.rptr dD k n i.toNat 0)else none
 |_,_=>none
def GL:ah→ah→aY (Prop×ah)
 | .str s,.int _ i=>some (0≤i∧i<s.length,.int .u8 (s.getD i.toNat 0).toNat)
 |_,_=>none
def qA(Ej:Int):aY ah→aY Int
 |none=>some Ej
 |some (.int _ i)=>some i
 |_=>none
def GQ(x:ah)(lo hi:aY ah):aY (Prop×ah):=
 match x with
 | .str s=>match qA 0 lo,qA s.length hi with
  |some l,some h=>some (0≤l∧l≤h∧h≤s.length,.str ((s.take h.toNat).drop l.toNat))
  |_,_=>none
 |_=>none
def FF(sz:Nat)(x:ah)(lo hi:aY ah):aY (Prop×ah):=
 match x with
 | .slice dD _ xs=>if dD=sz then match qA 0 lo,qA xs.length hi with
  |some l,some h=>some (0≤l∧l≤h∧h≤xs.length,.slice sz .no ((xs.take h.toNat).drop l.toNat))
  |_,_=>none else none
 |_=>none
def sH(n:Int):Prop:= -9223372036854775808≤n∧n≤9223372036854775807
def Ff(op:BinOp)(wr:Bool)(k:IntKind)(a b:Int):aY (Prop×ah):=
 match op with
 | .add=>if wr then some (True,.int k (k.wrap (a+b)))else some (k= .i64∧sH (a+b),.int .i64 (a+b))
 | .sub=>if wr then some (True,.int k (k.wrap (a-b)))else some (k= .i64∧sH (a-b),.int .i64 (a-b))
 | .mul=>if wr then some (True,.int k (k.wrap (a*b)))else some (k= .i64∧sH (a*b),.int .i64 (a*b))
 | .quo=>some (b≠0,.int k (k.wrap (a.tdiv b)))
 | .rem=>some (b≠0,.int k (a.tmod b))
 | .eql=>some (True,.bool (a==b))
 | .neq=>some (True,.bool (a !=b))
 | .lss=>some (True,.bool (decide (a<b)))
 | .leq=>some (True,.bool (decide (a≤b)))
 | .gtr=>some (True,.bool (decide (b<a)))
 | .geq=>some (True,.bool (decide (b≤a)))
 | .and=>some (True,.int k (k.wrap (p3 k.bits a&&& p3 k.bits b).toNat))
 | .or=>some (True,.int k (k.wrap (p3 k.bits a|||p3 k.bits b).toNat))
 | .xor=>some (True,.int k (k.wrap (p3 k.bits a ^^^ p3 k.bits b).toNat))
 |_=>none
def GR(op:BinOp)(a b:List dz):aY (Prop×ah):=
 match op with
 | .add=>some (a.length+b.length≤lim,.str (a++b))
 | .eql=>some (True,.bool (a==b))
 | .neq=>some (True,.bool (!(a==b)))
 | .lss=>some (True,.bool (hr a b))
 | .leq=>some (True,.bool (hr a b||a==b))
 | .gtr=>some (True,.bool (!(hr a b||a==b)))
 | .geq=>some (True,.bool (!hr a b))
 |_=>none
def A6(op:BinOp)(wr:Bool):ah→ah→aY (Prop×ah)
 | .int k a,.int bM b=>match op with
  | .shl=>some (0≤b,.int k (k.wrap (a*2 ^ (min b.toNat k.bits))))
  | .shr=>some (0≤b,.int k (a.fdiv (2 ^ (min b.toNat k.bits))))
  |_=>if k=bM then Ff op wr k a b else none
 | .str a,.str b=>GR op a b
 |_,_=>none
def nH(cs:List ah)(off:Nat)(cu:List ah):List ah:=cs.take off++cu++cs.drop (off+cu.length)
def tz(t:List (Nat×ah)):List ah→List (Nat×Nat×dr)→aY (Prop×List ah)
 |cs,[]=>some (True,cs)
 |cs,(off,sz,x)::r=>
  let p:=cm t x
  match tz t (nH cs off (cells p)) r with
  |some (c,cs')=>some ((dY p=true∧(cells p).length=sz∧off+sz≤cs.length)∧c,cs')
  |none=>none
def F7(c x y:ah):aY (Prop×ah):=
 match c with
 | .bool b=>match x,y with
  | .bool u,.bool v=>some (True,.bool (cond b u v))
  |p,q=>match b with
   |true=>some (True,p)
   |false=>some (True,q)
 |_=>none
def FU:ah→aY (Prop×ah)
 | .bool b=>some (True,.bool (!b))
 |_=>none
def FP:ah→aY (Prop×ah)
 | .int k n=>some (True,.int k (k.wrap (0-n)))
 |_=>none
def yS(i:Nat):ah→aY (Prop×ah)
 | .tuple bc=>(bc[i]?).map fun p=>(True,p)
 |_=>none
def zK:ah→aY (Prop×ah)
 | .slice _ _ xs=>some (True,.int .i64 xs.length)
 | .row _ _ n=>some (True,.int .i64 n)
 | .cst (.slice _ n _)=>some (True,.int .i64 n)
 |_=>none
def De:ah→aY (Prop×ah)
 | .str s=>some (True,.int .i64 s.length)
 | .cst (.string s)=>some (True,.int .i64 s.size)
 |_=>none
def Eg(k:IntKind):ah→aY (Prop×ah)
 | .int _ n=>some (True,.int k (k.wrap n))
 |_=>none
def zU:ah→aY (Prop×ah)
 | .ptr k o=>some (True,.ptr k o)
 | .eptr p=>some (True,.eptr p)
 | .func f cs=>some (True,.func f cs)
 |_=>none
def FO:ah→ah→aY (Prop×ah)
 | .int k a,.int bM b=>if k=bM then some (True,.int k (if b<a then b else a))else none
 |_,_=>none
def jT:List Bool→List ah→List ah→aY Bool
 |[],[],[]=>some true
 |false::r,.int k a::as,.int bM b::eN=>if k=bM then(jT r as eN).map fun q=>(a==b)&&q else none
 |true::r,.str a::as,.str b::eN=>(jT r as eN).map fun q=>(a==b)&&q
 |_,_,_=>none
inductive jl where
 |i
 |s
 |a (dJ:List Bool)
 deriving DecidableEq
def sK:jl→ah→ah→aY Bool
 | .i,.int k a,.int bM b=>if k=bM then some (a==b)else none
 | .s,.str a,.str b=>some (a==b)
 | .a dJ,.agg as,.agg eN=>jT dJ as eN
 |_,_,_=>none
def ue:jl→ah→Bool
 | .a dJ,.agg as=>(jT dJ as as).isSome
 | .a _,_=>false
 |_,_=>true
@[simp] theorem Tq(k:ah):ue .i k=true:=by cases k<;>rfl
@[simp] theorem apD(k:ah):ue .s k=true:=by cases k<;>rfl
def vP(ca:jl)(k:ah):List ah→aY (aY ah)
 |bM::v::r=>match sK ca k bM with
  |some true=>some (some v)
  |some false=>vP ca k r
  |none=>none
 |_=>some none
def nE(b:aD→aY (List ah))(ca:jl)(zero:ah)(ok:Bool)(x k:ah):aY (Prop×ah):=
 match x with
 | .gmap key=>match b key with
  |some (.hdm _ _::kvs)=>if ue ca k=false then none else match vP ca k kvs with
   |some (some v)=>some (True,if ok then .tuple [v,.bool true]else v)
   |some none=>some (True,if ok then .tuple [zero,.bool false]else zero)
   |none=>none
  |_=>none
 |_=>none
def ur(b:aD→aY (List ah))(x:ah):aY (Prop×ah):=
 match x with
 | .gmap key=>match b key with
  |some (.hdm _ borns::_)=>some (True,.int .i64 borns.length)
  |_=>none
 |_=>none
def ig(neg:Bool):aY (List Bool)→ah→ah→aY (Prop×ah)
 |none,.bool a,.bool b=>some (True,.bool (if neg then a !=b else a==b))
 |some dJ,.agg as,.agg eN=>(jT dJ as eN).map fun q=>(True,.bool (if neg then !q else q))
 |_,_,_=>none
def FJ:ah→ah→aY (Prop×ah)
 | .int k a,.int bM b=>if k=bM then some (True,.int k (if a<b then b else a))else none
 |_,_=>none
def uu(ca:jl)(k v:ah):List ah→aY (aY (List ah))
 |bM::v'::r=>match sK ca k bM with
  |some true=>some (some (k::v::r))
  |some false=>match uu ca k v r with
   |some (some eF)=>some (some (bM::v'::eF))
   |some none=>some none
   |none=>none
  |none=>none
 |_=>some none
def mq(n:Nat):List Nat→List ah→aY ah
 |b::eN,k::v::r=>if b=n then some (.tuple [k,v])else mq n eN r
 |_,_=>none
def pf(b:aD→aY (List ah))(x:ah):aY (Prop×ah):=
 match x with
 | .ptr fi 0=>match b fi with
  |some [.hdi _ seen last,.gmap mk]=>match b mk with
   |some (.hdm clock borns::kvs)=>match seen.getLast? with
    |some n=>(mq n borns kvs).map fun p=>(clock=last,p)
    |none=>none
   |_=>none
  |_=>none
 |_=>none
theorem Uf{f g:aD→aY (List ah)}(h:∀k,f k≠none→g k=f k){ca:jl}{zero:ah}{ok:Bool}{x k:ah}{r:Prop×ah}(he:nE f ca zero ok x k=some r):nE g ca zero ok x k=some r:=by
 unfold nE at he⊢;split at he
 ·rename_i key;cases aH:f key with
  |none=>simp[aH]at he
  |some cs=>rw[h key (by rw[aH];simp),aH];rw[aH]at he;exact he
 ·cases he
theorem ag1{f g:aD→aY (List ah)}(h:∀k,f k≠none→g k=f k){x:ah}{r:Prop×ah}(he:ur f x=some r):ur g x=some r:=by
 unfold ur at he⊢;split at he
 ·rename_i key;cases aH:f key with
  |none=>simp[aH]at he
  |some cs=>rw[h key (by rw[aH];simp),aH];rw[aH]at he;exact he
 ·cases he
theorem agG{f g:aD→aY (List ah)}(h:∀k,f k≠none→g k=f k){x:ah}{r:Prop×ah}(he:pf f x=some r):pf g x=some r:=by
 unfold pf at he⊢;split at he
 ·rename_i fi;cases aH:f fi with
  |none=>simp[aH]at he
  |some cs=>
   simp only[h fi (by rw[aH];simp),aH]at he⊢;split at he
   ·rename_i since seen last mk dp;cases tR:f mk with
    |none=>simp[tR]at he
    |some eG=>simp only[h mk (by rw[tR];simp),tR]at he⊢;exact he
   ·cases he
 ·cases he
inductive fP where
 |mov (x:dr)
 |pick (c x y:dr)
 |load (agg:Bool) (sz:Nat) (x:dr)
 |faddr (off:Nat) (agg:Bool) (sz:Nat) (x:dr)
 |fld (off:Nat) (agg:Bool) (sz:Nat) (x:dr)
 |iaddr (sz:Nat) (x i:dr)
 |sidx (x i:dr)
 |ssl (x:dr) (lo hi:aY dr)
 |lsl (sz:Nat) (x:dr) (lo hi:aY dr)
 |bin (op:BinOp) (wr:Bool) (x y:dr)
 |notB (x:dr)
 |neg (x:dr)
 |conv (k:IntKind) (x:dr)
 |ext (i:Nat) (x:dr)
 |len (x:dr)
 |slen (x:dr)
 |build (zero:List ah) (parts:List (Nat×Nat×dr))
 |nck (x:dr)
 |min2 (x y:dr)
 |mkf (n:Nat) (xs:List dr)
 |mget (ca:jl) (zero:ah) (ok:Bool) (x k:dr)
 |ment (x:dr)
 |mlen (x:dr)
 |beq (neg:Bool) (dJ:aY (List Bool)) (x y:dr)
 |max2 (x y:dr)
 |mkif (t:Nat) (x:dr)
 |loadB (agg:Bool) (sz:Nat) (x:dr)
 |mgetB (ca:jl) (zero:ah) (ok:Bool) (x k:dr)
 |loadZ (agg:Bool) (sz:Nat) (x:dr)
def hg(st:bp):fP→aY (Prop×ah)
 | .mov x=>some (True,cm st.t x)
 | .pick c x y=>F7 (cm st.t c) (cm st.t x) (cm st.t y)
 | .load agg sz x=>mo st.b st.e agg sz (cm st.t x)
 | .faddr off agg sz x=>pF off agg sz (cm st.t x)
 | .fld off agg sz x=>q2 off agg sz (cm st.t x)
 | .iaddr sz x i=>zB sz (cm st.t x) (cm st.t i)
 | .sidx x i=>GL (cm st.t x) (cm st.t i)
 | .ssl x lo hi=>GQ (cm st.t x) (lo.map (cm st.t)) (hi.map (cm st.t))
 | .lsl sz x lo hi=>FF sz (cm st.t x) (lo.map (cm st.t)) (hi.map (cm st.t))
 | .bin op wr x y=>A6 op wr (cm st.t x) (cm st.t y)
 | .notB x=>FU (cm st.t x)
 | .neg x=>FP (cm st.t x)
 | .conv k x=>Eg k (cm st.t x)
 | .ext i x=>yS i (cm st.t x)
 | .len x=>zK (cm st.t x)
 | .slen x=>De (cm st.t x)
 | .build zero parts=>(tz st.t zero parts).map fun(c,cs)=>(c,.agg cs)
 | .nck x=>zU (cm st.t x)
 | .min2 x y=>FO (cm st.t x) (cm st.t y)
 | .mkf n xs=>some (True,.func n (xs.map (cm st.t)))
 | .mget ca zero ok x k=>nE (fun k=>look k st.b) ca zero ok (cm st.t x) (cm st.t k)
 | .ment x=>pf (fun k=>look k st.b) (cm st.t x)
 | .mlen x=>ur (fun k=>look k st.b) (cm st.t x)
 | .beq neg dJ x y=>ig neg dJ (cm st.t x) (cm st.t y)
 | .max2 x y=>FJ (cm st.t x) (cm st.t y)
 | .mkif t x=>some (True,.iface t (cm st.t x))
 | .loadB agg sz x=>mo st.b [] agg sz (cm st.t x)
 | .mgetB ca zero ok x k=>nE (fun k=>look k st.b) ca zero ok (cm st.t x) (cm st.t k)
 | .loadZ agg sz x=>Bs agg sz (cm st.t x)
def Ab(bz:List (Nat×dA))(dJ:List (Nat×Nat)):List (Nat×Nat×dr)→List (Nat×Operand)→Bool
 |[],[]=>true
 |(off,sz,x)::r,(i,o)::s=>(match dJ[i]? with|some (vT,t)=>off==vT&&((dZ bz t).map (·.size))==some sz|none=>false)&&ei x o&&Ab bz dJ r s
 |_,_=>false
def Hf:ah→ah→Bool
 | .int k n,.int bM n'=>decide (k=bM∧n=n')
 | .bool b,.bool b2=>b==b2
 | .str [],.str []=>true
 | .slice a .nil [],.slice b .nil []=>a==b
 | .nilp,.nilp=>true
 | .junk,.junk=>true
 |_,_=>false
def yr:List ah→List ah→Bool
 |[],[]=>true
 |c::cs,d::eG=>Hf c d&&yr cs eG
 |_,_=>false
def AS:ah→ah→Bool
 | .agg cs,.agg eG=>yr cs eG
 | .agg _,_=>false
 |p,q=>Hf p q
def x0:List dr→List Operand→Bool
 |[],[]=>true
 |x::xs,o::os=>ei x o&&x0 xs os
 |_,_=>false
def y0(bz:List (Nat×dA)):Nat→List Bool→List (Nat×Nat)→Bool
 |_,[],[]=>true
 |n,b::r,(off,t)::dJ=>off==n&&(match dZ bz t with|some ⟨_,_,.int _,_⟩=> !b|some ⟨_,_,.str,_⟩=>b|_=>false)&&y0 bz (n+1) r dJ
 |_,_,_=>false
def Ew(bz:List (Nat×dA))(dJ:List Bool)(t:Nat):Bool:=match dZ bz t with
 |some ⟨_,_,.struct gs,_⟩=>y0 bz 0 dJ gs
 |_=>false
def xH(bz:List (Nat×dA))(ca:jl)(t:Nat):Bool:=match ca with
 | .i=>(match dZ bz t with|some ⟨_,_,.int _,_⟩=>true|_=>false)
 | .s=>(match dZ bz t with|some ⟨_,_,.str,_⟩=>true|_=>false)
 | .a dJ=>Ew bz dJ t
def M5:List ah→ah→Bool
 |cs,.agg eG=>yr cs eG
 |_,_=>false
def vW:aY dr→aY Operand→Bool
 |none,none=>true
 |some x,some o=>ei x o
 |_,_=>false
def Dq(bz:List (Nat×dA)):fP→Op→Bool
 | .mov x,.move o=>ei x o
 | .mov x,.assign o=>ei x o
 | .pick c x y,.pick cq Dy XD=>ei c cq&&ei x Dy&&ei y XD
 | .load agg sz x,.load t o=>(match dZ bz t with|some f=>f.size==sz&&f.kind.isAgg==agg|none=>false)&&ei x o
 | .faddr off agg sz x,.fieldAddr s o i=>
  (match dZ bz s with
   |some ⟨_,_,.struct dJ,_⟩=>(match dJ[i]? with|some (vT,t)=>off==vT&&(match dZ bz t with|some f=>f.size==sz&&f.kind.isAgg==agg&&sz !=0|none=>false)|none=>false)
   |_=>false)&&ei x o
 | .fld off agg sz x,.field s o i=>
  (match dZ bz s with
   |some ⟨_,_,.struct dJ,_⟩=>(match dJ[i]? with|some (vT,t)=>off==vT&&(match dZ bz t with|some f=>f.size==sz&&f.kind.isAgg==agg|none=>false)|none=>false)
   |_=>false)&&ei x o
 | .iaddr sz x i,.indexAddr t o j=>(match dZ bz t with|some ⟨_,_,.slice e,_⟩=>(match dZ bz e with|some f=>f.size==sz|none=>false)|_=>false)&&ei x o&&ei i j
 | .sidx x i,.index t o j=>(match dZ bz t with|some ⟨_,_,.str,_⟩=>true|_=>false)&&ei x o&&ei i j
 | .ssl x lo hi,.slice t o l h none=>(match dZ bz t with|some ⟨_,_,.str,_⟩=>true|_=>false)&&ei x o&&vW lo l&&vW hi h
 | .lsl sz x lo hi,.slice t o l h none=>(match dZ bz t with|some ⟨_,_,.slice e,_⟩=>(match dZ bz e with|some f=>f.size==sz|none=>false)|_=>false)&&ei x o&&vW lo l&&vW hi h
 | .bin op _ x y,.binOp UQ _ o o' _=>decide (op=UQ)&&ei x o&&ei y o'
 | .notB x,.unOp op _ o=>decide (op= .not)&&ei x o
 | .neg x,.unOp op _ o=>decide (op= .neg)&&ei x o
 | .conv k x,.convert s d o=>(match dZ bz s,dZ bz d with|some ⟨_,_,.int _,_⟩,some ⟨_,_,.int bM,_⟩=>decide (k=bM)|_,_=>false)&&ei x o
 | .ext i x,.extract o j=>i==j&&ei x o
 | .len x,.call ⟨.builtin .len,⟨[o]⟩,⟨[t]⟩⟩=>(match dZ bz t with|some ⟨_,_,.slice _,_⟩=>true|_=>false)&&ei x o
 | .slen x,.call ⟨.builtin .len,⟨[o]⟩,⟨[t]⟩⟩=>(match dZ bz t with|some ⟨_,_,.str,_⟩=>true|_=>false)&&ei x o
 | .build zero parts,.build t cu=>(match dZ bz t with|some ⟨_,_,.struct dJ,z⟩=>M5 zero z&&(dJ.all fun x=>(dZ bz x.2).isSome)&&Ab bz dJ parts cu.toList|_=>false)
 | .nck x,.nilCheck o=>ei x o
 | .min2 x y,.call ⟨.builtin .min,⟨[o,o']⟩,⟨[_,_]⟩⟩=>ei x o&&ei y o'
 | .mkf n xs,.makeFunc (.func m) ⟨[]⟩ os=>n==m&&x0 xs os.toList
 | .mget ca zero ok x k,.lookup t o o' FV=>ok==FV&&(match dZ bz t with|some ⟨_,_,.map mn o1,_⟩=>xH bz ca mn&&(match dZ bz o1 with|some f=>AS zero f.zero|none=>false)|_=>false)&&ei x o&&ei k o'
 | .ment x,.entry o=>ei x o
 | .mlen x,.call ⟨.builtin .len,⟨[o]⟩,⟨[t]⟩⟩=>(match dZ bz t with|some ⟨_,_,.map _ _,_⟩=>true|_=>false)&&ei x o
 | .beq neg dJ x y,.binOp op t o o' _=>decide (op=if neg then .neq else .eql)&&(match dJ with|none=>(match dZ bz t with|some ⟨_,_,.bool,_⟩=>true|_=>false)|some dJ=>Ew bz dJ t)&&ei x o&&ei y o'
 | .max2 x y,.call ⟨.builtin .max,⟨[o,o']⟩,⟨[_,_]⟩⟩=>ei x o&&ei y o'
 | .mkif t x,.makeInterface dG o=>t==dG&&(match dZ bz t with|some ⟨_,_,.slice _,_⟩=>true|_=>false)&&ei x o
 | .loadB agg sz x,.load t o=>(match dZ bz t with|some f=>f.size==sz&&f.kind.isAgg==agg|none=>false)&&ei x o
 | .loadZ agg sz x,.load t o=>(match dZ bz t with|some f=>f.size==sz&&f.kind.isAgg==agg|none=>false)&&ei x o
 | .mgetB ca zero ok x k,.lookup t o o' FV=>ok==FV&&(match dZ bz t with|some ⟨_,_,.map mn o1,_⟩=>xH bz ca mn&&(match dZ bz o1 with|some f=>AS zero f.zero|none=>false)|_=>false)&&ei x o&&ei k o'
 |_,_=>false
end Go.Pv
namespace Go.Pv
open Go Go.RowKit
theorem Is(P:cB)(w:World)(op:BinOp)(t:fV)(x y:Operand)(k bM:IntKind)(m n:Int):(eqGuard op t x y (.int k m) (.int bM n)).run P w= .ok () w:=by cases op<;>rfl
theorem ZJ(P:cB)(w:World)(op:BinOp)(t:fV)(x y:Operand)(m n:ByteArray):(eqGuard op t x y (.string m) (.string n)).run P w= .ok () w:=by cases op<;>rfl
theorem alN(l:List dz):(⟨l.toArray⟩:ByteArray).toList=l:=by simp
theorem Ym(a b:List dz):(⟨a.toArray⟩:ByteArray)++(⟨b.toArray⟩:ByteArray)=⟨(a++b).toArray⟩:=by apply ant;simp
theorem aaC(a:List dz)(l h:Nat):(⟨a.toArray⟩:ByteArray).extract l h=⟨((a.take h).drop l).toArray⟩:=by apply ant;simp[List.drop_take]
theorem Dd(a:List dz):(⟨a.toArray⟩:ByteArray).size=a.length:=by simp[asX]
section
variable {P:cB} {w:World} {r:Sem Value}
theorem q4{k:IntKind}{x:Int}(h:r.run P w= .ok (.int k x) w):∃v,r.run P w= .ok v w∧∀ν,ba w ν (.int k x) v:=⟨_,h,fun ν=>by simp[ba]⟩
theorem Ru{x:Bool}(h:r.run P w= .ok (.bool x) w):∃v,r.run P w= .ok v w∧∀ν,ba w ν (.bool x) v:=⟨_,h,fun ν=>by simp[ba]⟩
end
theorem afD(P:cB)(w:World){op:BinOp}{wr:Bool}{k:IntKind}{a b:Int}{c:Prop}{p:ah}(he:Ff op wr k a b=some (c,p))(aw:c)(t:fV):
  ∃v,(binOp op t (.int k a) (.int k b)).run P w= .ok v w∧∀ν,ba w ν p v:=by
 cases op<;>simp only[Ff]at he;case add=>
  cases wr<;>simp only[if_true,gT,if_false]at he<;>cases he
  ·obtain⟨rfl,h⟩:=aw;exact q4 (by simp[binOp,Op.intArith,oF _ h])
  ·exact q4 (by simp[binOp,Op.intArith])
 case sub=>
  cases wr<;>simp only[if_true,gT,if_false]at he<;>cases he
  ·obtain⟨rfl,h⟩:=aw;exact q4 (by simp[binOp,Op.intArith,oF _ h])
  ·exact q4 (by simp[binOp,Op.intArith])
 case mul=>
  cases wr<;>simp only[if_true,gT,if_false]at he<;>cases he
  ·obtain⟨rfl,h⟩:=aw;exact q4 (by simp[binOp,Op.intArith,oF _ h])
  ·exact q4 (by simp[binOp,Op.intArith])
 case quo=>cases he;exact q4 (by simp[binOp,Op.intDiv,aw])
 case rem=>cases he;exact q4 (by simp[binOp,Op.intDiv,aw])
 case and=>cases he;exact q4 (by simp only[binOp,Op.intBits,ne_eq,not_true_eq_false,if_false,gq])
 case or=>cases he;exact q4 (by simp only[binOp,Op.intBits,ne_eq,not_true_eq_false,if_false,gq])
 case xor=>cases he;exact q4 (by simp only[binOp,Op.intBits,ne_eq,not_true_eq_false,if_false,gq])
 all_goals cases he
 all_goals exact Ru (by simp only[binOp,Op.intCmp,ne_eq,not_true_eq_false,if_false,gq,gt_iff_lt,ge_iff_le])
theorem alp(P:cB)(w:World){op:BinOp}{a b:List dz}{c:Prop}{p:ah}(he:GR op a b=some (c,p))(aw:c)(t:fV):
  ∃v,(binOp op t (.string ⟨a.toArray⟩) (.string ⟨b.toArray⟩)).run P w= .ok v w∧∀ν,ba w ν p v:=by
 cases op<;>simp only[GR]at he;case add=>
  cases he;refine⟨.string ⟨(a++b).toArray⟩,?_,fun ν=>by simp only[ba];exact⟨trivial,by simpa using aw⟩⟩;have J:¬(((⟨a.toArray⟩:ByteArray).size+(⟨b.toArray⟩:ByteArray).size:Nat):Int)>IntKind.i64.max:=by
   have:IntKind.i64.max=9223372036854775807:=by decide
   rw[this,Dd,Dd];simp only[lim]at aw;omega
  simp only[binOp,Op.stringOp,J,if_false,gq,Ym]
 all_goals cases he
 all_goals exact Ru (by simp only[binOp,Op.stringOp,alN,gq])
theorem Yz(P:cB)(w:World)(ν:bd){op:BinOp}{wr:Bool}{x y:ah}{c:Prop}{p:ah}(he:A6 op wr x y=some (c,p))(aw:c)(t:fV){u v:Value}(hu:ba w ν x u)(aJ:ba w ν y v)(o o':Operand):
  ∃r,(do eqGuard op t o o' u v;binOp op t u v).run P w= .ok r w∧ba w ν p r:=by
 unfold A6 at he;split at he
 ·rename_i k a bM b;simp only[ba]at hu aJ;subst hu;subst aJ;split at he
  ·cases he;refine⟨_,?_,by simp[ba];rfl⟩;simp[binOp,Op.shift,Is,Int.not_lt.2 aw]
  ·cases he;refine⟨_,?_,by simp[ba];rfl⟩;simp[binOp,Op.shift,Is,Int.not_lt.2 aw]
  ·split at he
   ·rename_i ab;subst ab;obtain⟨r,J,U⟩:=afD P w he aw t;exact⟨r,by simp[Is,J],U ν⟩
   ·cases he
 ·simp only[ba]at hu aJ;rw[hu.1,aJ.1];obtain⟨r,J,U⟩:=alp P w he aw t;exact⟨r,by simp[ZJ,J],U ν⟩
 ·cases he
theorem IL{w:World}{ν:bd}:∀(v:List Value) (i off:Nat) (cs:Array Value),off+i+v.length≤cs.size→
  ((v.zipIdx i).foldl (fun cs (x:Value×Nat)=>cs.setIfInBounds (off+x.2) x.1) cs).toList=cs.toList.take (off+i)++v++cs.toList.drop (off+i+v.length)
 |[],i,off,cs,_=>by simp
 |u::v,i,off,cs,h=>by
  simp only[List.zipIdx_cons,List.foldl_cons];rw[IL (w:=w) (ν:=ν) v (i+1) off _ (by simp at h⊢;omega)];have bA:off+i<cs.toList.length:=by simp at h⊢;omega
  simp only[Array.toList_setIfInBounds];have ak:(cs.toList.set (off+i) u).take (off+(i+1))=cs.toList.take (off+i)++[u]:=by rw[show off+(i+1)=(off+i)+1 from by omega,List.take_succ_eq_append_getElem (by simpa using bA)];simp[List.take_set_of_le (eV _)]
  have aC:(cs.toList.set (off+i) u).drop (off+(i+1)+v.length)=cs.toList.drop (off+i+(u::v).length):=by rw[List.drop_set_of_lt (by omega)];congr 1;simp;omega
  rw[ak,aC];simp
theorem Wf{w:World}{ν:bd}{C:fc}{st:bp}{a:Act}(aK:cT C st a w ν){bz:List (Nat×dA)}{dJ:List (Nat×Nat)}{qC:List (Nat×Nat)}
  (bH:∀(i off t sz:Nat),dJ[i]? =some (off,t)→(dZ bz t).map (·.size)=some sz→qC[i]? =some (off,sz)):
  ∀(parts:List (Nat×Nat×dr)) (cu:List (Nat×Operand)) (cs:List ah) (us:Array Value) (c:Prop) (cs':List ah),Ab bz dJ parts cu=true→c4 w ν cs us.toList→tz st.t cs parts=some (c,cs')→c→
  ∃cj:Array Value,Instr.fill (qC.toArray[·]?) us (cu.map fun(x:Nat×Operand)=>(x.1,a.eval x.2))=some cj∧c4 w ν cs' cj.toList
 |[],[],cs,us,c,cs',_,h,he,aw=>by simp only[tz]at he;cases he;exact⟨us,by simp[Instr.fill],h⟩
 |[],_::_,_,_,_,_,eX,_,_,_=>by simp[Ab]at eX
 |_::_,[],_,_,_,_,eX,_,_,_=>by simp[Ab]at eX
 |(off,sz,x)::parts,(i,o)::cu,cs,us,c,cs',eX,h,he,aw=>by
  simp only[Ab,cA]at eX;obtain⟨⟨J,U⟩,ao⟩:=eX;split at J
  ·rename_i vT t BK;simp only[cA,dL]at J;obtain⟨rfl,J⟩:=J;have sE:=bH i off t sz BK J;simp only[tz]at he;split at he
   ·rename_i cq aop ae;cases he;obtain⟨⟨ag,ar,hle⟩,hv⟩:=aw;have ad:=ej aK U;have ln:=uF ad ag;have hlen:=po ln;have rr:=po h;have kE:(a.eval o).cells.size=sz:=by have:(a.eval o).cells.toList.length=(cells (cm st.t x)).length:=hlen;rw[ar]at this;simpa using this
    have qv:us.size=cs.length:=by simpa using rr
    have xx:=IL (w:=w) (ν:=ν) (a.eval o).cells.toList 0 off us (by simp[kE,qv];omega);have mf:c4 w ν (nH cs off (cells (cm st.t x))) ((((a.eval o).cells.toList.zipIdx 0).foldl (fun cs (x:Value×Nat)=>cs.setIfInBounds (off+x.2) x.1) us).toList):=by rw[xx];unfold nH;refine x9 (x9 (C3 off h) ln) ?_;rw[Nat.add_zero,hlen];exact Ar _ h
    obtain⟨cj,g1,g2⟩:=Wf aK bH parts cu _ _ cq cs' ao mf ae hv;refine⟨cj,?_,g2⟩;simp only[gM,Instr.fill,List.getElem?_toArray,sE];rw[if_neg (by simp[kE,qv];omega)];rw[←g1];simp only[List.getElem?_toArray];congr 1;rw[←Array.foldl_toList];simp
   ·cases he
  ·cases J
end Go.Pv
namespace Go.Pv
open Go Go.RowKit
theorem uP{P:cB}{bz:List (Nat×dA)}(aL:fN P bz=true){t:Nat}{f:dA}(aH:dZ bz t=some f)(w:World):
  (Go.isAgg t).run P w= .ok f.kind.isAgg w∧(sizeOf t).run P w= .ok f.size w:=by
 obtain⟨i,d,z,J,U,ao,a7,bZ,c6,eg,nv⟩:=(uQ aL aH).ex;refine⟨?_,by simp[sizeOf,typeInfo,J,ao]⟩;simp only[Go.isAgg,fF,run_underlying U,fJ];cases ab:f.kind<;>rw[ab]at bZ<;>cases d<;>simp[jU]at bZ<;>simp[AZ.isAgg]
theorem iL{P:cB}{bz:List (Nat×dA)}(aL:fN P bz=true){t:Nat}{f:dA}(aH:dZ bz t=some f):∃d,P.underlying t=some d∧jU f.kind d=true:=by obtain⟨i,d,z,J,U,ao,a7,bZ,c6,eg,nv⟩:=(uQ aL aH).ex;exact⟨d,U,bZ⟩
theorem sf{e:Nat}{d:TypeDesc}(h:jU (.slice e) d=true):d= .slice e:=by cases d<;>simp[jU]at h;subst h;rfl
theorem yP{d:TypeDesc}(h:jU .str d=true):d= .string:=by cases d<;>simp[jU]at h;rfl
theorem Ei{k:IntKind}{d:TypeDesc}(h:jU (.int k) d=true):d= .int k:=by cases d<;>simp[jU]at h;subst h;rfl
theorem Ie{dJ:List (Nat×Nat)}{d:TypeDesc}(h:jU (.struct dJ) d=true):∃gs:Array Field,d= .struct gs∧gs.toList.map (fun f=>(f.offset,f.type))=dJ:=by cases d<;>simp[jU]at h;rename_i gs;exact⟨gs,rfl,by simpa using h⟩
theorem Gx{w:World}{ν:bd}{cs:List ah}{us:List Value}(h:c4 w ν cs us)(off sz:Nat):c4 w ν ((cs.drop off).take sz) ((us.drop off).take sz):=C3 sz (Ar off h)
theorem UX{w:World}{base el sz n:Nat}{v:Value}{us:List Value}(h:w.ownsRow base el sz v n us){b:Nat}(ae:v.ownBlock=some b):∃cap,v= .slice (some ⟨b,0,none⟩) n cap:=by
 rcases h.2 with⟨rfl,_⟩|⟨g,cap,cur,rfl,_⟩
 ·simp[nP]at ae
 ·simp[nP]at ae;subst ae;exact⟨cap,rfl⟩
theorem Good.rowElem{pr:Nat→Prop}{w:World}{ν:bd}{b:List (aD×List ah)}{e:List (aD×fM)}(a8:Good pr w ν b e){k:aD}{n el sz:Nat}{xs:List ah}(ab:look k e=some ⟨n,el,sz,some xs⟩){i f:Nat}{u:Value}(ad:ba w ν (.rptr sz k n i f) u){p:ah}(bH:xs[i]? =some p):
  ∃(v:Value) (us:List Value) (fR:Nat),ba w ν p v∧v.cells.size=sz∧∃b o,u= .pointer (some ⟨b,o,none⟩)∧∀j c,v.cells.toList[f+j]? =some c→w.cell? ⟨b,o+j,none⟩=some c:=by
 simp only[ba]at ad;obtain⟨_,hi,n',eQ,J,U,ao⟩:=ad;obtain⟨v,us,a6,bB,bS,c1⟩:=a8.own k _ ab;rw[J]at a6;simp only[dE,jj]at a6;obtain⟨rfl,rfl⟩:=a6;obtain⟨bl,ae,rfl⟩:=ao rfl;obtain⟨cap,rfl⟩:=UX bB ae;obtain⟨ar,mf,_⟩:=c1 xs rfl;simp only at ar mf;obtain⟨v,dF,fb,kG⟩:=Gu i mf bH;refine⟨v,us,el,dF,fb,bl,_,rfl,fun j c af=>?_⟩;have bA:f+j<sz:=by have:=(fw.1 af).1;simp[fb]at this;exact this
 have hmul:i*sz+sz≤n'*sz:=by have:=Nat.mul_le_mul_right sz (show i+1≤n' from hi);rwa[Nat.succ_mul]at this
 have aw:=bB.cellAt (i*sz+f+j) (by show _<n'*sz;omega);rw[aw];rw[kG,List.getElem?_take,if_pos bA,List.getElem?_drop]at af;rw[←af];congr 1;omega
theorem FE{P:cB}{bz:List (Nat×dA)}(aL:fN P bz=true){pr:Nat→Prop}{w:World}{ν:bd}{b:List (aD×List ah)}{e:List (aD×fM)}(a8:Good pr w ν b e){t:Nat}{f:dA}(aH:dZ bz t=some f)
  {x:ah} {u:Value} (ad:ba w ν x u) {c:Prop} {p:ah} (he:mo b e f.kind.isAgg f.size x=some (c,p)) (aw:c):∃v,(Instr.loadAt t u).run P w= .ok v w∧ba w ν p v:=by
 obtain⟨bD,ag⟩:=uP aL aH w;generalize EG:f.kind.isAgg=e2 at*;generalize eh:f.size=sz at*;unfold mo at he;split at he
 ·rename_i dD k n i sl;unfold yd at he;split at he
  ·rename_i n' el iZ xs ab;split at he
   ·rename_i aA;obtain⟨rfl,rfl⟩:=aA;split at he
    ·rename_i ajj aeZ;obtain⟨MV,us,fR,g1,g2,qo⟩:=Good.rowElem a8 ab ad aeZ;have kU:dY ajj=true:=by
      cases e2
      ·simp only[gT,if_false,gN]at he;obtain⟨q,_,he⟩:=he;cases he;exact aw
      ·simp only[if_true]at he;cases he;exact aw.1
     have dp:=uF g1 kU;cases e2
     ·simp only[gT,if_false,gN]at he;obtain⟨q,br,he⟩:=he;cases he;obtain⟨v,f1,f2,f3⟩:=C2 sl dp br;refine⟨v,?_,f2⟩;obtain⟨b,o,rfl,qo⟩:=qo;have:=qo 0 v (by simpa using f1);simp only[Nat.add_zero]at this;simp[Instr.loadAt,Instr.sureAddr,loadVar,bD,this]
     ·simp only[if_true]at he;cases he;obtain⟨b,o,rfl,qo⟩:=qo;refine⟨.agg ((MV.cells.toList.drop sl).take sz).toArray,?_,by simp only[ba];exact⟨_,rfl,by simpa using Gx dp sl sz⟩⟩;have ar:=po dp;have hlen:((MV.cells.toList.drop sl).take sz).length=sz:=by simp only[List.length_take,r4];omega
      have iF:=run_loadCells_list (P:=P) w ⟨b,o,none⟩ ((MV.cells.toList.drop sl).take sz) (fun j v af=>by
       rw[oR];refine qo j v ?_;rw[List.getElem?_take]at af;split at af
       ·simpa[List.getElem?_drop]using af
       ·cases af)
      rw[hlen]at iF;simp only[Instr.loadAt,Instr.sureAddr,loadVar,fF,gq,fJ,bD,if_true,ag,iF]
    ·cases he
   ·cases he
  ·cases he
 ·rename_i k off;simp only[ba]at ad;obtain⟨bl,J,rfl⟩:=ad;split at he
  ·rename_i cs ab;obtain⟨ih,us,el,g1,g2,g3,g4,g5⟩:=a8.box k cs ab;rw[J]at g1;cases g1;have sE:gn cs=true:=by
    cases e2
    ·simp only[gT,if_false,gN]at he;obtain⟨q,br,he⟩:=he;cases he;exact aw
    ·simp only[if_true]at he;cases he;exact aw.1
   rw[uy sE]at g4;rw[uz sE]at g5;have ar:=po g5;cases e2
   ·simp only[gT,if_false,gN]at he;obtain⟨q,br,he⟩:=he;cases he;obtain⟨v,f1,f2,f3⟩:=C2 off g5 br;refine⟨v,?_,f2⟩;have qo:w.cell? ⟨bl,off,none⟩=some v:=by simpa[World.cell?,g4]using f1
    simp[Instr.loadAt,Instr.sureAddr,loadVar,bD,qo]
   ·simp only[if_true]at he;cases he;replace aw:=aw.2;refine⟨_,?_,by simp only[ba];exact⟨_,rfl,by simpa using Gx g5 off sz⟩⟩;simp only[Instr.loadAt,Instr.sureAddr,loadVar,fF,gq,fJ,bD,if_true,ag];rw[akK g4 (by simp at ar;omega)];rfl
  ·cases he
 ·rename_i q;simp only[ba]at ad;obtain⟨bl,off,eQ,rfl,U,ao⟩:=ad;cases e2
  ·simp only[gT,if_false]at he;cases he;obtain⟨RL,y9⟩:=aw;obtain⟨g1,g2⟩:=LY U RL (fun cs e=>by subst e;have:=eZ List.length y9;simp only[cells,oJ,List.length_nil]at this;cases cs with
    |nil=>simp[cells]at y9
    |cons y ys=>simp only[cells,nQ]at y9;obtain⟨ak,aC⟩:=y9;subst aC;have:=eZ SizeOf.sizeOf ak;simp at this;omega)
   refine⟨eQ,?_,U⟩;rw[g2]at ao;have qo:=ao.1.2;simp[Instr.loadAt,Instr.sureAddr,loadVar,bD,qo]
  ·simp only[if_true]at he;cases he;obtain⟨cs,rfl,hlen⟩:=aw;simp only[ba]at U;obtain⟨us,rfl,a7⟩:=U;refine⟨.agg us,?_,by simp only[ba];exact⟨us,rfl,a7⟩⟩;simp only[oH]at ao;have ar:=po a7;have:=akL (P:=P) ao;rw[show us.toList.length=sz from by omega]at this;simp[Instr.loadAt,Instr.sureAddr,loadVar,bD,ag,this]
 ·cases he
theorem acD{P:cB}{bz:List (Nat×dA)}(aL:fN P bz=true){w:World}{ν:bd}{s i:Nat}{f:dA}{dJ:List (Nat×Nat)}(aH:dZ bz s=some f)(ab:f.kind= .struct dJ){off t:Nat}{g:dA}(hi:dJ[i]? =some (off,t))(a8:dZ bz t=some g)(bq:g.size≠0)
  {x:ah} {u:Value} (ad:ba w ν x u) {c:Prop} {p:ah} (he:pF off g.kind.isAgg g.size x=some (c,p)) (aw:c):∃v,(Instr.fieldAt s u i).run P w= .ok v w∧ba w ν p v:=by
 obtain⟨d,aR,eW⟩:=iL aL aH;rw[ab]at eW;obtain⟨gs,rfl,kf⟩:=Ie eW;have tU:∃fd:Field,gs[i]? =some fd∧fd.offset=off∧fd.type=t:=by rw[←kf]at hi;simp only[List.getElem?_map,gN]at hi;obtain⟨fd,J,U⟩:=hi;simp only[jj]at U;exact⟨fd,by simpa using J,U.1,U.2⟩
 obtain⟨fd,EN,av,og⟩:=tU;obtain⟨bD,ag⟩:=uP aL a8 w;have iF:∀b o,(Instr.fieldAt s (.pointer (some ⟨b,o,none⟩)) i).run P w= .ok (.pointer (some ⟨b,o+off,none⟩)) w:=by intro b o;simp[Instr.fieldAt,run_underlying aR,EN,Instr.sureAddr,fieldPlace,og,ag,bq,oR,av]
 unfold pF at he;split at he
 ·cases he;simp only[ba]at ad;obtain⟨b,J,rfl⟩:=ad;exact⟨_,iF _ _,by simp only[ba];exact⟨b,J,rfl⟩⟩
 ·cases he;simp only[ba]at ad;obtain⟨⟨b,o,rfl⟩,hi,n',eQ,J,U,ao⟩:=ad;refine⟨_,iF _ _,?_⟩;simp only[ba];refine⟨⟨b,_,rfl⟩,hi,n',eQ,J,U,fun e=>?_⟩;obtain⟨b2,ak,aC⟩:=ao e;simp only[as4,dE,Addr.mk.injEq,and_true]at aC;obtain⟨rfl,rfl⟩:=aC;exact⟨b,ak,by rw[Nat.add_assoc]⟩
 ·rename_i cs;simp only[ba]at ad;obtain⟨b,o,eQ,rfl,⟨us,rfl,U⟩,ao⟩:=ad;refine⟨_,iF _ _,?_⟩;simp only[oH]at ao;split at he
  ·cases he;simp only[ba];exact⟨b,o+off,.agg ((us.toList.drop off).take g.size).toArray,rfl,⟨_,rfl,by simpa using Gx U off g.size⟩,by simpa[oH]using Fz g.size (Fx off ao)⟩
  ·simp only[gN]at he;obtain⟨q,br,he⟩:=he;cases he;obtain⟨v,f1,f2,f3⟩:=C2 off U br;simp only[ba];have aeH:=uj ao f1;have afl:v.cells= #[v]:=by cases v<;>first|rfl|cases f3
   exact⟨b,o+off,v,rfl,f2,by rw[afl];exact⟨aeH,trivial⟩⟩
 ·cases he
theorem acJ{P:cB}{bz:List (Nat×dA)}(aL:fN P bz=true){w:World}{ν:bd}{s i:Nat}{f:dA}{dJ:List (Nat×Nat)}(aH:dZ bz s=some f)(ab:f.kind= .struct dJ){off t:Nat}{g:dA}(hi:dJ[i]? =some (off,t))(a8:dZ bz t=some g)
  {x:ah} {u:Value} (ad:ba w ν x u) {c:Prop} {p:ah} (he:q2 off g.kind.isAgg g.size x=some (c,p)) (aw:c):∃v,(Instr.field s u i).run P w= .ok v w∧ba w ν p v:=by
 obtain⟨d,aR,eW⟩:=iL aL aH;rw[ab]at eW;obtain⟨gs,rfl,kf⟩:=Ie eW;have tU:∃fd:Field,gs[i]? =some fd∧fd.offset=off∧fd.type=t:=by rw[←kf]at hi;simp only[List.getElem?_map,gN]at hi;obtain⟨fd,J,U⟩:=hi;simp only[jj]at U;exact⟨fd,by simpa using J,U.1,U.2⟩
 obtain⟨fd,EN,av,og⟩:=tU;obtain⟨bD,ag⟩:=uP aL a8 w;unfold q2 at he;split at he
 ·rename_i cs;simp only[ba]at ad;obtain⟨us,rfl,U⟩:=ad;generalize EG:g.kind.isAgg=e2 at*;cases e2
  ·simp only[gT,if_false,gN]at he;obtain⟨q,br,he⟩:=he;cases he;obtain⟨v,f1,f2,f3⟩:=C2 off U br;have aaD:us[off]? =some v:=by simpa using f1
   exact⟨v,by simp[Instr.field,run_underlying aR,EN,asAgg,part,og,bD,av,aaD],f2⟩
  ·simp only[if_true]at he;cases he;refine⟨.agg (us.extract off (off+g.size)),by simp[Instr.field,run_underlying aR,EN,asAgg,part,og,bD,av,ag],?_⟩;simp only[ba];refine⟨_,rfl,?_⟩;have:=Gx U off g.size;simpa[List.take_drop]using this
 ·cases he
theorem afy{P:cB}{bz:List (Nat×dA)}(aL:fN P bz=true){w:World}{ν:bd}{t e:Nat}{f g:dA}(aH:dZ bz t=some f)(ab:f.kind= .slice e)(a8:dZ bz e=some g)
  {x y:ah} {u v:Value} (ad:ba w ν x u) (aM:ba w ν y v) {c:Prop} {p:ah} (he:zB g.size x y=some (c,p)) (aw:c):∃r,(Instr.indexAt t u v).run P w= .ok r w∧ba w ν p r:=by
 obtain⟨d,aR,eW⟩:=iL aL aH;rw[ab]at eW;obtain rfl:=sf eW;obtain⟨bD,ag⟩:=uP aL a8 w;unfold zB at he;split at he
 ·rename_i dD tag xs k i;split at he
  ·rename_i eh;cases he;simp only[ba]at ad aM;subst aM;subst eh;obtain⟨⟨a,cap,rfl,J,U,ao⟩,_⟩:=ad;obtain⟨BP,lM⟩:=aw;have jc:i.toNat<xs.length:=by omega
   rcases ao with rfl|⟨b,off,us,rfl,a7,bZ⟩
   ·simp at jc
   ·have ad:xs[i.toNat]? =some xs[i.toNat]:=cf jc;obtain⟨w',dF,fb,kG⟩:=Gu i.toNat bZ ad;refine⟨.pointer (some ⟨b,off+i.toNat*g.size,none⟩),?_,?_⟩
    ·simp only[Instr.indexAt,asIntOf,fF,gq,fJ,run_underlying aR,BP,lM,and_self,if_true,ag,oR]
    ·simp only[ba];refine⟨b,off+i.toNat*g.size,w',rfl,by simpa[List.getD,ad]using dF,?_⟩;rw[kG];exact Fz g.size (Fx _ a7)
  ·cases he
 ·rename_i dD k n nC i;split at he
  ·rename_i eh;cases he;simp only[ba]at ad aM;subst aM;subst eh;obtain⟨⟨b,cap,rfl⟩,U,n',eQ,ao,a7,bZ⟩:=ad;obtain⟨BP,lM⟩:=aw;refine⟨.pointer (some ⟨b,0+i.toNat*g.size,none⟩),?_,?_⟩
   ·simp only[Instr.indexAt,asIntOf,fF,gq,fJ,run_underlying aR,BP,lM,and_self,if_true,ag,oR]
   ·simp only[ba];refine⟨⟨b,_,rfl⟩,by omega,n',eQ,ao,a7,fun e=>⟨b,?_,by simp⟩⟩;rw[←bZ e];rfl
  ·cases he
 ·cases he
theorem FZ{C:fc}{st:bp}{a:Act}{w:World}{ν:bd}(h:cT C st a w ν){x:aY dr}{o:aY Operand}(ad:vW x o=true){Ej n:Int}(he:qA Ej (x.map (cm st.t))=some n):
  (o.map a.eval=none∧n=Ej)∨ ∃k,o.map a.eval=some (.int k n):=by
 cases x with
 |none=>cases o with
  |none=>simp[qA]at he;exact .inl ⟨rfl,he.symm⟩
  |some o=>simp[vW]at ad
 |some x=>cases o with
  |none=>simp[vW]at ad
  |some o=>
   simp only[vW]at ad
   have:=ej h ad
   simp only[nS]at he⊢
   cases tQ:cm st.t x<;>simp[tQ,qA]at he
   rw[tQ]at this
   simp only[ba]at this
   subst he
   exact .inr ⟨_,by rw[this]⟩
theorem XF{c d:ah}(h:Hf c d=true):c=d:=by unfold Hf at h;split at h<;>simp_all
theorem M1:∀{cs eG:List ah},yr cs eG=true→cs=eG
 |[],[],_=>rfl
 |[],_::_,h=>by simp[yr]at h
 |_::_,[],h=>by simp[yr]at h
 |c::cs,d::eG,h=>by simp only[yr,cA]at h;rw[XF h.1,M1 h.2]
theorem anr{cs:List ah}{z:ah}(h:M5 cs z=true):z= .agg cs:=by
 cases z<;>simp only[M5]at h;case agg eG=>rw[M1 h]
 all_goals cases h
theorem adG(s:List dz)(n:Nat)(h:n<s.length):(⟨s.toArray⟩:ByteArray)[n]? =some (s.getD n 0):=by
 have eh:n<(⟨s.toArray⟩:ByteArray).size:=by rw[Dd];exact h
 have e:(⟨s.toArray⟩:ByteArray)[n]? =some ((⟨s.toArray⟩:ByteArray)[n]'eh):=getElem?_pos (⟨s.toArray⟩:ByteArray) n eh;rw[e];congr 1;simp[List.getD,h];rfl
theorem GN(P:cB)(w:World)(k:IntKind)(i:Int)(y:Nat)(c:BoundsCode)(bq:0≤i)(J:i≤y):(Instr.sliceBound (.int k i) y c).run P w= .ok i.toNat w:=by simp[Instr.sliceBound,asIntOf,bq,J]
theorem NN(P:cB)(w:World)(afS:Bool)(len cap:Nat)(lo hi:aY Value)(l h:Int)(BU:(lo=none∧l=0)∨ ∃k,lo=some (.int k l))(BO:(hi=none∧h=len)∨ ∃k,hi=some (.int k h))
  (bq:0≤l) (J:l≤h) (U:h≤len) (aw:len≤cap):(Instr.sliceBounds afS len cap lo hi none).run P w= .ok (l.toNat,h.toNat,cap) w:=by
 rcases BU with⟨rfl,rfl⟩|⟨k,rfl⟩<;>rcases BO with⟨rfl,rfl⟩|⟨bM,rfl⟩
 ·simp[Instr.sliceBounds]
 ·simp[Instr.sliceBounds,GN P w bM h cap _ (by omega) (by omega)]
 ·simp[Instr.sliceBounds,GN P w k l len _ (by omega) (by omega)]
 ·simp[Instr.sliceBounds,GN P w bM h cap _ (by omega) (by omega),GN P w k l h.toNat _ (by omega) (by omega)]
theorem U3{P:cB}{bz:List (Nat×dA)}(aL:fN P bz=true):∀(gs:List Field),(gs.all fun f=>(dZ bz f.type).isSome)=true→
  ∃qC:List (Nat×Nat),gs.mapM (fun f=>(P.info? f.type).map fun i=>(f.offset,i.size))=some qC∧
   ∀(i off t sz:Nat),(gs.map (fun f=>(f.offset,f.type)))[i]? =some (off,t)→(dZ bz t).map (·.size)=some sz→qC[i]? =some (off,sz)
 |[],_=>⟨[],by simp,by simp⟩
 |f::gs,h=>by
  simp only[List.all_cons,cA]at h;obtain⟨qC,J,U⟩:=U3 aL gs h.2;obtain⟨g,a8⟩:=fL.1 h.1;obtain⟨i,d,z,ak,aC,bj,dd,gW,hI,qU,qV⟩:=(uQ aL a8).ex;refine⟨(f.offset,g.size)::qC,by simp[List.mapM_cons,ak,bj,J],fun j off t sz af eh=>?_⟩;cases j with
  |zero=>simp only[gM,List.getElem?_cons_zero,dE,jj]at af⊢;obtain⟨rfl,rfl⟩:=af;rw[a8]at eh;simpa using eh
  |succ j=>simp only[gM,List.getElem?_cons_succ]at af⊢;exact U j off t sz af eh
theorem k2{P:cB}{w:World}{x:Sem Value}{v:Value}(h:x.run P w= .ok v w):(do pure (Next.value (←x)):Sem Next).run P w= .ok (.value v) w:=by simp[h]
theorem M4{p q:ah}(h:AS p q=true):p=q:=by
 unfold AS at h;split at h
 ·rw[M1 h]
 ·cases h
 ·exact XF h
theorem M3(w:World)(ν:bd){p:ah}{v:Value}(h:yt p v=true):ba w ν p v∧c4 w ν (cells p) v.cells.toList:=by
 by_cases bD:∃cs,p= .agg cs
 ·obtain⟨cs,rfl⟩:=bD;cases v<;>simp only[yt]at h;case agg us=>have:=M2 w ν _ _ h;exact⟨by simp only[ba];exact⟨us,rfl,this⟩,by simpa[cells,oH]using this⟩
  all_goals cases h
 ·have cr:yG p v=true∧v.oneCell'=true:=by cases p<;>simp only[yt,cA]at h<;>first|exact h|exact absurd ⟨_,rfl⟩ bD
  have aK:=HK w ν cr.1;refine⟨aK,?_⟩;have aw:cells p=[p]:=by cases p<;>first|rfl|exact absurd ⟨_,rfl⟩ bD
  have aJ:v.cells= #[v]:=by have:=cr.2;cases v<;>first|rfl|simp[Value.oneCell']at this
  rw[aw,aJ];simp only[c4];exact⟨v,[],rfl,⟨aK,cr.2⟩,rfl⟩
theorem Mw{P:cB}{bz:List (Nat×dA)}(aL:fN P bz=true){t:Nat}{f:dA}(aH:dZ bz t=some f)(w:World):∃z,(zeroValue t).run P w= .ok z w∧yt f.zero z=true∧z.cells.size=f.size:=by obtain⟨i,d,z,J,U,ao,a7,bZ,c6,eg,nv⟩:=(uQ aL aH).ex;exact⟨z,by simp[zeroValue,typeInfo,J,c6],eg,nv⟩
theorem C4{C:fc}{st:bp}{a:Act}{w:World}{ν:bd}(h:cT C st a w ν):∀{xs:List dr} {os:List Operand},x0 xs os=true→cP w ν (xs.map (cm st.t)) (os.map a.eval)
 |[],[],_=>by simp[cP]
 |[],_::_,ab=>by simp[x0]at ab
 |_::_,[],ab=>by simp[x0]at ab
 |x::xs,o::os,ab=>by simp only[x0,cA]at ab;simp only[gM,cP];exact⟨_,_,rfl,ej h ab.1,C4 h ab.2⟩
theorem ZK{P:cB}{w:World}{t:fV}(aR:P.underlying t=some .bool)(d:Nat)(a b:Bool):(Op.equalIn (d+1) t (.bool a) (.bool b)).run P w= .ok (a==b) w:=by rw[Op.equalIn];simp only[fF,run_underlying aR,fJ,gq]
theorem ZL{P:cB}{w:World}{t:fV}(aR:P.underlying t=some .bool)(a b:Bool):(Op.equal t (.bool a) (.bool b)).run P w= .ok (a==b) w:=ZK aR _ a b
theorem Qt:∀{borns:List Nat} {kvs:List ah} {us:List Value},kvs.length=2*borns.length→us.length=kvs.length→(fy borns us).length=borns.length
 |[],_,us,_,_=>by simp[fy]
 |b2::eN,kvs,[],J,U=>by rw[J]at U;simp at U
 |b2::eN,kvs,[_],J,U=>by rw[J]at U;simp at U;omega
 |b2::eN,kvs,k::v::us,J,U=>by simp only[fy,oJ];rw[Qt (kvs:=kvs.drop 2) (us:=us) (borns:=eN) (by simp at J⊢;omega) (by simp at J U⊢;omega)]
theorem V9{w:World}{ν:bd}:∀{cu:List ah} {bc:List Value},cP w ν cu bc→bc.length=cu.length
 |[],bc,h=>by simp only[cP]at h;subst h;rfl
 |p::cu,bc,h=>by simp only[cP]at h;obtain⟨u,cj,rfl,_,U⟩:=h;simp[V9 U]
theorem uK{P:cB}{w:World}{r:Nat}{o:Obj}(ae:w.heap[r]? =some o)(aA:∀c e f,o≠ .cells c e f:=by simp):(getObj r).run P w= .ok o w:=by simp only[getObj,Sem.run,ae]
def p7(P:cB):Nat→List Bool→List Field→Prop
 |_,[],[]=>True
 |n,b::r,f::gs=>(f.offset=n∧f.name≠ "_" ∧(if b=true then P.underlying f.type=some .string else∃k,P.underlying f.type=some (.int k)))∧p7 P (n+1) r gs
 |_,_,_=>eR
theorem CT{P:cB}{t:fV}{b:Bool}(h:if b=true then P.underlying t=some .string else∃k,P.underlying t=some (.int k)):P.plainKey t=true:=by
 cases b
 ·obtain⟨k,h⟩:=(by simpa using h:∃k,P.underlying t=some (.int k));simp[Program.plainKey,h]
 ·have h:P.underlying t=some .string:=by simpa using h
  simp[Program.plainKey,h]
theorem YP{P:cB}{w:World}{ν:bd}(d:Nat){X Y:Array Value}(dJ:List Bool):∀(gs:List Field) (n:Nat) (as eN:List ah) (us bc:List Value) (q:Bool),p7 P n dJ gs→X.toList.drop n=us→Y.toList.drop n=bc→c4 w ν as us→c4 w ν eN bc→jT dJ as eN=some q→
  (Op.eqFields (d+1) X Y gs).run P w= .ok q w∧(q=true→us=bc)∧∀m,(us.zip us).all (fun(x,y)=>Instr.sameBits m x y)=true:=by
 induction dJ with
 |nil=>intro gs n as eN us bc q a8 BB BC J U h;cases as<;>cases eN<;>simp only[jT,dE,reduceCtorEq]at h;cases gs<;>simp only[p7]at a8;simp only[c4]at J U;rw[J,U,←h];exact⟨by simp[Op.eqFields],fun _=>rfl,fun m=>rfl⟩
 |cons w2 r bN=>
  intro gs n as eN us bc q a8 BB BC J U h;cases gs with
  |nil=>simp only[p7]at a8
  |cons f gs=>
  simp only[p7]at a8;obtain⟨⟨EZ,BY,og⟩,a8⟩:=a8;cases as with
  |nil=>cases w2<;>cases eN<;>simp[jT]at h
  |cons CR as=>
  cases eN with
  |nil=>cases w2<;>cases CR<;>simp[jT]at h
  |cons F6 eN=>
  cases w2 with
  |false=>
   have aw:∃k a b gD,CR= .int k a∧F6= .int k b∧jT r as eN=some gD∧q=((a==b)&&gD):=by
    cases CR<;>first|(simp[jT]at h;done)|skip
    cases F6<;>first|(simp[jT]at h;done)|skip
    simp only[jT]at h;split at h
    ·rename_i ab;subst ab;simp only[gN]at h;obtain⟨gD,ao,a7⟩:=h;exact⟨_,_,_,gD,rfl,rfl,ao,a7.symm⟩
    ·cases h
   obtain⟨k,a,b,gD,rfl,rfl,ao,rfl⟩:=aw;simp only[c4,ba]at J U;obtain⟨u,cj,rfl,⟨rfl,_⟩,J⟩:=J;obtain⟨v,vs',rfl,⟨rfl,_⟩,U⟩:=U;have CQ:X[n]? =some (.int k a):=by rw[←tg,←List.head?_drop,BB];rfl
   have Lg:Y[n]? =some (.int k b):=by rw[←tg,←List.head?_drop,BC];rfl
   obtain⟨i1,i2,i3⟩:=bN gs (n+1) as eN cj vs' gD a8 (by rw[←List.tail_drop,BB];rfl) (by rw[←List.tail_drop,BC];rfl) J U ao;obtain⟨nC,JS⟩:=(by simpa using og:∃k,P.underlying f.type=some (.int k));refine⟨?_,?_,fun m=>?_⟩
   ·simp only[Op.eqFields,BY,ne_eq,not_false_eq_true,if_true,fF,EZ,run_part_plain w (CT og) CQ,run_part_plain w (CT og) Lg,fJ,run_equalIn_int w d f.type k nC a b JS];cases mN:(a==b)
    ·simp
    ·simpa using i1
   ·intro br;simp only[cA,dL]at br;rw[br.1,i2 br.2]
   ·have:=i3 m;simp only[List.zip_cons_cons,List.all_cons,this,Bool.and_true];cases m<;>simp[Instr.sameBits]
  |true=>
   have aw:∃a b gD,CR= .str a∧F6= .str b∧jT r as eN=some gD∧q=((a==b)&&gD):=by
    cases CR<;>first|(simp[jT]at h;done)|skip
    cases F6<;>first|(simp[jT]at h;done)|skip
    simp only[jT,gN]at h;obtain⟨gD,ao,a7⟩:=h;exact⟨_,_,gD,rfl,rfl,ao,a7.symm⟩
   obtain⟨a,b,gD,rfl,rfl,ao,rfl⟩:=aw;simp only[c4,ba]at J U;obtain⟨u,cj,rfl,⟨⟨rfl,_⟩,_⟩,J⟩:=J;obtain⟨v,vs',rfl,⟨⟨rfl,_⟩,_⟩,U⟩:=U;have CQ:X[n]? =some (.string ⟨a.toArray⟩):=by rw[←tg,←List.head?_drop,BB];rfl
   have Lg:Y[n]? =some (.string ⟨b.toArray⟩):=by rw[←tg,←List.head?_drop,BC];rfl
   obtain⟨i1,i2,i3⟩:=bN gs (n+1) as eN cj vs' gD a8 (by rw[←List.tail_drop,BB];rfl) (by rw[←List.tail_drop,BC];rfl) J U ao;have JS:P.underlying f.type=some .string:=by simpa using og
   refine⟨?_,?_,fun m=>?_⟩
   ·simp only[Op.eqFields,BY,ne_eq,not_false_eq_true,if_true,fF,EZ,run_part_plain w (CT og) CQ,run_part_plain w (CT og) Lg,fJ,run_equalIn_string w d f.type _ _ JS];have e:((⟨a.toArray⟩:ByteArray).toList==(⟨b.toArray⟩:ByteArray).toList)=(a==b):=by rw[anu,anu]
    rw[e];cases mN:(a==b)
    ·simp
    ·simpa using i1
   ·intro br;simp only[cA,dL]at br;rw[br.1,i2 br.2]
   ·have:=i3 m;simp only[List.zip_cons_cons,List.all_cons,this,Bool.and_true];cases m<;>simp only[Instr.sameBits]<;>exact(MapKept.bytes_beq _ _).2 rfl
theorem QZ{P:cB}{bz:List (Nat×dA)}(aL:fN P bz=true):∀(dJ:List Bool) (gs:List Field) (n:Nat),y0 bz n dJ (gs.map fun f=>(f.offset,f.type))=true→(gs.all (fun f=>match P.underlying f.type with|some (.int _)=>true|some .string=>true|_=>false)=true)∧((∀f∈gs,f.name≠ "_")→p7 P n dJ gs)
 |[],[],_,_=>⟨rfl,fun _=>trivial⟩
 |[],_::_,_,h=>by simp[y0]at h
 |_::_,[],_,h=>by simp[y0]at h
 |b::r,f::gs,n,h=>by
  simp only[gM,y0,cA,dL]at h;obtain⟨⟨J,U⟩,ao⟩:=h;obtain⟨i1,i2⟩:=QZ aL r gs (n+1) ao;split at U
  ·rename_i aH;obtain⟨d,hu,aR⟩:=iL aL aH;obtain rfl:=Ei aR;refine⟨by simp only[List.all_cons,hu,i1,Bool.and_self],fun aA=>⟨⟨J,aA f (by simp),?_⟩,i2 fun g a8=>aA g (by simp[a8])⟩⟩;have:b=false:=by simpa using U
   subst this;simpa using⟨_,hu⟩
  ·rename_i aH;obtain⟨d,hu,aR⟩:=iL aL aH;obtain rfl:=yP aR;refine⟨by simp only[List.all_cons,hu,i1,Bool.and_self],fun aA=>⟨⟨J,aA f (by simp),?_⟩,i2 fun g a8=>aA g (by simp[a8])⟩⟩;subst U;simpa using hu
  ·cases U
theorem Q1{P:cB}{bz:List (Nat×dA)}(aL:fN P bz=true){dJ:List Bool}{t:Nat}(h:Ew bz dJ t=true):∃gs,P.underlying t=some (.struct gs)∧p7 P 0 dJ gs.toList∧P.stoodInHeld t=false∧P.eqGuardType P.depth t=false:=by
 unfold Ew at h;split at h
 ·rename_i aH;obtain⟨d,hu,aR⟩:=iL aL aH;have aw:=(uQ aL aH).cmp d hu;cases d<;>simp[jU]at aR;rename_i gs;subst aR;obtain⟨i1,i2⟩:=QZ aL dJ gs.toList 0 h;have sw:Q0 P gs=true:=i1;simp only[Ia,sw,Bool.not_true,Bool.false_or,Qc,cA,Bool.not_eq_true',ir,bne_iff_ne,ne_eq]at aw;exact⟨gs,hu,i2 aw.1.1,aw.1.2,aw.2⟩
 ·cases h
theorem Qx{P:cB}{w:World}{ν:bd}{t:fV}{gs:Array Field}{dJ:List Bool}(hu:P.underlying t=some (.struct gs))(a8:p7 P 0 dJ gs.toList)(cO:P.stoodInHeld t=false){as eN:List ah}{X Y:Array Value}(J:c4 w ν as X.toList)(U:c4 w ν eN Y.toList){q:Bool}(h:jT dJ as eN=some q):
  (Op.equalIn 10000 t (.agg X) (.agg Y)).run P w= .ok q w∧(q=true→X=Y)∧∀m,(X.toList.zip X.toList).all (fun(x,y)=>Instr.sameBits m x y)=true:=by
 have aH:P.fieldsOf t=gs:=by simp[Program.fieldsOf,hu]
 obtain⟨i1,i2,i3⟩:=YP 9998 dJ gs.toList 0 as eN _ _ q a8 rfl rfl J U h;refine⟨?_,fun e=>?_,?_⟩
 ·rw[run_equalIn_struct w 9999 t X Y (by rw[aH];exact hu) cO,aH];exact i1
 ·have:=i2 e;simpa using this
 ·simpa using i3
inductive tl (P:cB):jl→fV→Prop
 |i {t:fV} {k:IntKind}:P.underlying t=some (.int k)→tl P .i t
 |s {t:fV}:P.underlying t=some .string→tl P .s t
 |a {t:fV} {dJ:List Bool} {gs:Array Field}:P.underlying t=some (.struct gs)→p7 P 0 dJ gs.toList→P.stoodInHeld t=false→tl P (.a dJ) t
theorem Kg{P:cB}{bz:List (Nat×dA)}(aL:fN P bz=true){ca:jl}{t:Nat}(h:xH bz ca t=true):tl P ca t:=by
 cases ca with
 |i=>
  simp only[xH]at h;split at h
  ·rename_i aH;obtain⟨d,hu,aR⟩:=iL aL aH;obtain rfl:=Ei aR;exact .i hu
  ·cases h
 |s=>
  simp only[xH]at h;split at h
  ·rename_i aH;obtain⟨d,hu,aR⟩:=iL aL aH;obtain rfl:=yP aR;exact .s hu
  ·cases h
 |a dJ=>obtain⟨gs,J,U,ao,_⟩:=Q1 aL h;exact .a J U ao
def r9(P:cB)(w:World)(ca:jl)(t:fV)(ha u:Value)(b:Bool):Prop:=match ca with
 | .a _=>(Op.equal t ha u).run P w= .ok b w
 |_=> ∀d,P.underlying t=some d→Instr.sameNow d ha u=some b
def hU(P:cB)(w:World)(ca:jl)(t:fV)(ha:Value)(es:List MapEntry)(i:Nat)(r:aY (Nat×Value)):Prop:=match ca with
 | .a _=>(Instr.findAsking t ha es i).run P w= .ok r w
 |_=> ∀d,P.underlying t=some d→Instr.findNow d ha es i=some r
theorem hU.nil(P:cB)(w:World)(ca:jl)(t:fV)(ha:Value)(i:Nat):hU P w ca t ha [] i none:=by cases ca<;>simp[hU,Instr.findAsking,Instr.findNow]
theorem hU.hit{P:cB}{w:World}{ca:jl}{t:fV}{ha:Value}{e:MapEntry}{es:List MapEntry}{i:Nat}(h:r9 P w ca t ha e.key true):hU P w ca t ha (e::es) i (some (i,e.val)):=by
 cases ca with
 |a dJ=>simp only[r9]at h;simp[hU,Instr.findAsking,h]
 |i=>simp only[r9]at h;simp only[hU];intro d aR;simp[Instr.findNow,h d aR]
 |s=>simp only[r9]at h;simp only[hU];intro d aR;simp[Instr.findNow,h d aR]
theorem hU.miss{P:cB}{w:World}{ca:jl}{t:fV}{ha:Value}{e:MapEntry}{es:List MapEntry}{i:Nat}{r:aY (Nat×Value)}(h:r9 P w ca t ha e.key false)(aK:hU P w ca t ha es (i+1) r):hU P w ca t ha (e::es) i r:=by
 cases ca with
 |a dJ=>simp only[r9]at h;simp only[hU]at aK;simp[hU,Instr.findAsking,h,aK]
 |i=>simp only[r9]at h;simp only[hU]at aK⊢;intro d aR;simp[Instr.findNow,h d aR,aK d aR]
 |s=>simp only[r9]at h;simp only[hU]at aK⊢;intro d aR;simp[Instr.findNow,h d aR,aK d aR]
theorem hU.run{P:cB}{w:World}{ca:jl}{t:fV}(aR:tl P ca t){ha:Value}{es:List MapEntry}{r:aY (Nat×Value)}(h:hU P w ca t ha es 0 r):(Instr.findKey t ha es).run P w= .ok r w:=by
 cases aR with
 |i hu=>simp only[hU]at h;simp[Instr.findKey,run_underlying hu,h _ hu]
 |s hu=>simp only[hU]at h;simp[Instr.findKey,run_underlying hu,h _ hu]
 |a hu a8 cO=>
  simp only[hU]at h;cases es with
  |nil=>simp[Instr.findAsking]at h;simp[Instr.findKey,run_underlying hu,Instr.findNow,h]
  |cons e es=>
   rename_i gs;have:Instr.sameNow (.struct gs) ha e.key=none:=by cases ha<;>rfl
   simp only[Instr.findKey,fF,run_underlying hu,fJ,Instr.findNow,this];exact h
theorem Tp{P:cB}{w:World}{ν:bd}{ca:jl}{t:fV}(aR:tl P ca t){k bM:ah}{ha u:Value}(ab:ba w ν k ha)(J:ba w ν bM u){bb:Bool}(ae:sK ca k bM=some bb):
  r9 P w ca t ha u bb∧(bb=true→u=ha∧Instr.sameBits 10000 u ha=true):=by
 unfold sK at ae;split at ae
 ·split at ae
  ·rename_i ll;subst ll;simp only[ba]at ab J;subst ab;subst J;cases aR with
   |i hu=>refine⟨fun d aR=>by rw[hu]at aR;cases aR;simpa[Instr.sameNow]using ae,fun e=>?_⟩;subst e;simp only[dE,dL]at ae;subst ae;exact⟨rfl,by simp[Instr.sameBits]⟩
  ·cases ae
 ·rename_i a b;simp only[ba]at ab J;obtain⟨rfl,_⟩:=ab;obtain⟨rfl,_⟩:=J;cases aR with
  |s hu=>
   refine⟨fun d aR=>?_,fun e=>?_⟩
   ·rw[hu]at aR;cases aR;simp only[Instr.sameNow];rw[←ae];congr 1;rw[p4,MapKept.bytes_beq];simp
   ·subst e;simp only[dE,dL]at ae;subst ae;exact⟨rfl,by simp only[Instr.sameBits];exact(MapKept.bytes_beq _ _).2 rfl⟩
 ·simp only[ba]at ab J;obtain⟨X,rfl,ab⟩:=ab;obtain⟨Y,rfl,J⟩:=J;cases aR with
  |a hu a8 cO=>obtain⟨i1,i2,i3⟩:=Qx hu a8 cO ab J ae;refine⟨by simpa[r9,Op.equal,Op.maxDepth]using i1,fun e=>?_⟩;have:=i2 e;subst this;exact⟨rfl,by simp[Instr.sameBits,i3]⟩
 ·cases ae
theorem KI{P:cB}{w:World}{ν:bd}{ca:jl}{t:fV}(aR:tl P ca t){k:ah}{ha:Value}(ab:ba w ν k ha):∀(borns:List Nat) (kvs:List ah) (us:List Value) (i:Nat) (r:aY ah),cP w ν kvs us→kvs.length=2*borns.length→vP ca k kvs=some r→
  match r with
  |none=>hU P w ca t ha (fy borns us) i none
  |some v=> ∃j u,hU P w ca t ha (fy borns us) i (some (j,u))∧ba w ν v u
 |[],[],us,i,r,h,_,hm=>by simp only[vP]at hm;cases hm;simp only[cP]at h;subst h;simpa[fy]using hU.nil P w ca t ha i
 |[],_::_,_,_,_,_,ar,_=>by simp at ar
 |b::eN,[],_,_,_,_,ar,_=>by simp at ar
 |b::eN,[_],_,_,_,_,ar,_=>by simp at ar;omega
 |b::eN,bM::v::kvs,us,i,r,h,ar,hm=>by
  simp only[cP]at h;obtain⟨iM,MF,rfl,J,ji,rU,rfl,U,ao⟩:=h;simp only[vP]at hm;simp only[fy];cases br:sK ca k bM with
  |none=>simp[br]at hm
  |some bb=>
   obtain⟨s1,_⟩:=Tp aR ab J br;simp only[br]at hm;cases bb with
   |true=>simp only[dE]at hm;subst hm;exact⟨i,ji,hU.hit (e:=⟨iM,ji,b⟩) s1,U⟩
   |false=>
    simp only at hm;have bN:=KI aR ab eN kvs rU (i+1) r ao (by simp at ar;omega) hm;cases r with
    |none=>exact hU.miss (e:=⟨iM,ji,b⟩) s1 bN
    |some v'=>obtain⟨j,u,g1,g2⟩:=bN;exact⟨j,u,hU.miss (e:=⟨iM,ji,b⟩) s1 g1,g2⟩
theorem H9{P:cB}{w:World}{t:Nat}{d:TypeDesc}(hu:P.underlying t=some d)(aR:(∃k,d= .int k)∨d= .string)(e:Bool)(n:Nat)(v:Value):(Instr.checkKey e (n+1) t v).run P w= .ok () w:=by unfold Instr.checkKey;rcases aR with⟨k,rfl⟩|rfl<;>simp[run_underlying hu]
theorem acI{P:cB}{w:World}{ν:bd}{X:Array Value}(dJ:List Bool):∀(gs:List Field) (n:Nat) (as:List ah),p7 P n dJ gs→c4 w ν as (X.toList.drop n)→(jT dJ as as).isSome=true→
  ∀f∈gs,(∃v,(part f.type X f.offset).run P w= .ok v w)∧∃d,P.underlying f.type=some d∧((∃k,d= .int k)∨d= .string):=by
 induction dJ with
 |nil=>intro gs n as a8 _ _ f aH;cases gs<;>simp only[p7]at a8;cases aH
 |cons w2 r bN=>
  intro gs n as a8 aK aw f aH;cases gs with
  |nil=>cases aH
  |cons g gs=>
  simp only[p7]at a8;obtain⟨⟨EZ,BY,og⟩,a8⟩:=a8;cases as with
  |nil=>cases w2<;>simp[jT]at aw
  |cons p as=>
  have hv:(jT r as as).isSome=true:=by cases w2<;>cases p<;>simp[jT]at aw⊢ <;>exact aw
  simp only[c4]at aK;obtain⟨u,cj,e,_,dC⟩:=aK;have aC:X.toList.drop (n+1)=cj:=by rw[←List.tail_drop,e];rfl
  have CQ:X[n]? =some u:=by rw[←tg,←List.head?_drop,e];rfl
  rcases fK.1 aH with rfl|aH
  ·refine⟨⟨u,by rw[EZ];exact run_part_plain w (CT og) CQ⟩,?_⟩;cases w2
   ·obtain⟨k,h⟩:=(by simpa using og:∃k,P.underlying f.type=some (.int k));exact⟨_,h,.inl ⟨k,rfl⟩⟩
   ·exact⟨_,by simpa using og,.inr rfl⟩
  ·exact bN gs (n+1) as a8 (by rw[aC];exact dC) hv f aH
theorem Q7{P:cB}{w:World}{α:Type}(body:α→PUnit→Sem (ForInStep PUnit)):∀(l:List α),(∀f∈l,(body f ⟨⟩).run P w= .ok (.yield ⟨⟩) w)→(forIn l PUnit.unit body).run P w= .ok PUnit.unit w
 |[],_=>by simp
 |f::l,h=>by simp only[List.forIn_cons,fF,h f (by simp),fJ];exact Q7 body l fun g a8=>h g (by simp[a8])
theorem L1{P:cB}{w:World}{ν:bd}{ca:jl}{t:Nat}(aR:tl P ca t)(e:Bool){k:ah}{v:Value}(ab:ba w ν k v)(hi:ue ca k=true):(Instr.checkKey e 10000 t v).run P w= .ok () w:=by
 cases aR with
 |i hu=>exact H9 hu (.inl ⟨_,rfl⟩) e 9999 v
 |s hu=>exact H9 hu (.inr rfl) e 9999 v
 |a hu a8 cO=>
  rename_i dJ gs;cases k<;>simp only[ue,gT]at hi;rename_i as;simp only[ba]at ab;obtain⟨X,rfl,ab⟩:=ab;unfold Instr.checkKey;simp only[fF,run_underlying hu,fJ];rw[←Array.forIn_toList];rw[Q7]
  ·simp
  ·intro f aH;obtain⟨⟨v,J⟩,d,U,ao⟩:=acI dJ gs.toList 0 as a8 (by simpa using ab) hi f aH;have a7:=H9 (w:=w) U ao e 9998 v;by_cases aA:f.name= "_"
   ·simp[aA]
   ·simp[aA,J,a7]
theorem T8{w:World}{ν:bd}{n:Nat}:∀(borns:List Nat) (kvs:List ah) (us:List Value) (p:ah),cP w ν kvs us→mq n borns kvs=some p→∃e,(fy borns us).find? (·.born==n)=some e∧ba w ν p (.tuple #[e.key,e.val])
 |[],_,_,_,_,hm=>by simp[mq]at hm
 |_::_,[],_,_,_,hm=>by simp[mq]at hm
 |_::_,[_],_,_,_,hm=>by simp[mq]at hm
 |b::eN,k::v::kvs,us,p,h,hm=>by
  simp only[cP]at h;obtain⟨iM,MF,rfl,J,ji,rU,rfl,U,ao⟩:=h;simp only[mq]at hm;simp only[fy];by_cases e:b=n
  ·rw[if_pos e]at hm;cases hm;refine⟨⟨iM,ji,b⟩,by simp[List.find?,e],?_⟩;simp only[ba];exact⟨#[iM,ji],rfl,by simp only[cP];exact⟨_,_,rfl,J,_,_,rfl,U,rfl⟩⟩
  ·rw[if_neg e]at hm;obtain⟨x,g1,g2⟩:=T8 eN kvs rU p ao hm;have ad5:(b==n)=false:=by simpa using e
   exact⟨x,by simp[List.find?,ad5,g1],g2⟩
theorem WW{P:cB}{bz:List (Nat×dA)}(aL:fN P bz=true){C:fc}{st:bp}{a:Act}{w:World}{ν:bd}(aK:cT C st a w ν){i:fP}(ad4:∀ca z ok x k,i≠ .mgetB ca z ok x k){o:Oper}(av:Dq bz i o.op=true)
  {c:Prop} {p:ah} (he:hg st i=some (c,p)) (aw:c):∃v,(execOp a.eval o).run P w= .ok (.value v) w∧ba w ν p v:=by
 obtain⟨dst,op,type,pos,after,guard⟩:=o;simp only at av;unfold Dq at av;split at av
 ·rename_i x o;simp only[hg]at he;cases he;exact⟨_,rfl,ej aK av⟩
 ·rename_i x o;simp only[hg]at he;cases he;exact⟨_,rfl,ej aK av⟩
 ·rename_i cq x y anT Dy XD;simp only[cA]at av;have J:=ej aK av.1.1;have U:=ej aK av.1.2;have ao:=ej aK av.2;simp only[hg,F7]at he;split at he
  ·rename_i b ae;rw[ae]at J;simp only[ba]at J;split at he
   ·rename_i u v hu aJ;cases he;rw[hu]at U;rw[aJ]at ao;simp only[ba]at U ao;refine⟨.bool (cond b u v),?_,by simp[ba]⟩;simp only[execOp,J,U,ao,asBool,fF,gq,fJ];cases b<;>rfl
   ·split at he
    ·cases he;exact⟨_,by simp only[execOp,J,asBool,fF,gq,fJ,if_true],U⟩
    ·cases he;exact⟨_,by simp only[execOp,J,asBool,fF,gq,fJ,gT,if_false],ao⟩
  ·cases he
 ·rename_i agg sz x t o;simp only[cA]at av;obtain⟨J,U⟩:=av;split at J
  ·rename_i f aH;simp only[cA,dL]at J;obtain⟨rfl,rfl⟩:=J;obtain⟨v,g1,g2⟩:=FE aL aK.good aH (ej aK U) (by simpa only[hg]using he) aw;exact⟨v,k2 g1,g2⟩
  ·cases J
 ·rename_i off agg sz x s o i;simp only[cA]at av;obtain⟨J,U⟩:=av;split at J
  ·rename_i f aH;split at J
   ·rename_i vT t BK;simp only[cA,dL]at J;obtain⟨rfl,J⟩:=J;split at J
    ·rename_i g a8;simp only[cA,dL,bne_iff_ne,ne_eq]at J;obtain⟨⟨rfl,rfl⟩,bq⟩:=J;obtain⟨v,g1,g2⟩:=acD aL aH rfl BK a8 bq (ej aK U) (by simpa only[hg]using he) aw;exact⟨v,k2 g1,g2⟩
    ·cases J
   ·cases J
  ·cases J
 ·rename_i off agg sz x s o i;simp only[cA]at av;obtain⟨J,U⟩:=av;split at J
  ·rename_i f aH;split at J
   ·rename_i vT t BK;simp only[cA,dL]at J;obtain⟨rfl,J⟩:=J;split at J
    ·rename_i g a8;simp only[cA,dL]at J;obtain⟨rfl,rfl⟩:=J;obtain⟨v,g1,g2⟩:=acJ aL aH rfl BK a8 (ej aK U) (by simpa only[hg]using he) aw;exact⟨v,k2 g1,g2⟩
    ·cases J
   ·cases J
  ·cases J
 ·rename_i sz x i t o j;simp only[cA]at av;obtain⟨⟨J,U⟩,ao⟩:=av;split at J
  ·rename_i e aH;split at J
   ·rename_i g a8;simp only[dL]at J;subst J;obtain⟨v,g1,g2⟩:=afy aL aH rfl a8 (ej aK U) (ej aK ao) (by simpa only[hg]using he) aw;exact⟨v,k2 g1,g2⟩
   ·cases J
  ·cases J
 ·rename_i x i t o j;simp only[cA]at av;obtain⟨⟨J,U⟩,ao⟩:=av;split at J
  ·rename_i aH;obtain⟨d,aR,eW⟩:=iL aL aH;obtain rfl:=yP eW;have ak:=ej aK U;have aC:=ej aK ao;simp only[hg,GL]at he;split at he
   ·rename_i s k n ag aA;cases he;rw[ag]at ak;rw[aA]at aC;simp only[ba]at ak aC;obtain⟨tO,RL⟩:=aw;have bA:n.toNat<s.length:=by omega
    have aet:(⟨s.toArray⟩:ByteArray)[n.toNat]? =some (s.getD n.toNat 0):=by exact adG s n.toNat bA
    refine⟨_,k2 (v:= .int .u8 (s.getD n.toNat 0).toNat) ?_,by simp[ba]⟩;simp only[Instr.index,aC,asIntOf,ak.1,fF,gq,fJ,run_underlying aR,tO,if_true,aet]
   ·cases he
  ·cases J
 ·rename_i x lo hi t o l h;simp only[cA]at av;obtain⟨⟨⟨J,U⟩,ao⟩,a7⟩:=av;split at J
  ·rename_i aH;obtain⟨d,aR,eW⟩:=iL aL aH;obtain rfl:=yP eW;have ak:=ej aK U;simp only[hg,GQ]at he;split at he
   ·rename_i s ag;rw[ag]at ak;simp only[ba]at ak;split at he
    ·rename_i pS cS ar Js;cases he;obtain⟨bG,ch,c3⟩:=aw;have aZ:=FZ aK ao ar;have bI:=FZ aK a7 Js;refine⟨_,k2 (v:= .string ⟨((s.take cS.toNat).drop pS.toNat).toArray⟩) ?_,?_⟩
     ·have ae:=NN P w false s.length s.length (l.map a.eval) (h.map a.eval) pS cS
       aZ bI bG ch c3 (eV _)
      simp only[Instr.sliceAt,Instr.slice,ak.1,fF,gq,fJ,run_underlying aR,Option.map_none,l0,gT,if_false,Dd,ae,aaC]
     ·simp only[ba];refine⟨trivial,?_⟩;have:=ak.2;simp only[r4,List.length_take];omega
    ·cases he
   ·cases he
  ·cases J
 ·rename_i sz x lo hi t o l h;simp only[cA]at av;obtain⟨⟨⟨J,U⟩,ao⟩,a7⟩:=av;split at J
  ·rename_i e aH;split at J
   ·rename_i g a8;simp only[dL]at J;subst J;obtain⟨d,aR,eW⟩:=iL aL aH;obtain rfl:=sf eW;obtain⟨_,eh⟩:=uP aL a8 w;have ak:=ej aK U;simp only[hg,FF]at he;split at he
    ·rename_i dD tag xs ag;split at he
     ·rename_i e9;subst e9;rw[ag]at ak;simp only[ba]at ak;obtain⟨⟨sa,cap,aJ,b8,b3,fG⟩,_⟩:=ak;split at he
      ·rename_i pS cS ar Js;cases he;obtain⟨bG,ch,c3⟩:=aw;have aZ:=FZ aK ao ar;have bI:=FZ aK a7 Js;have ae:=NN P w true xs.length cap (l.map a.eval) (h.map a.eval) pS cS
        aZ bI bG ch c3 b8
       refine⟨_,k2 (v:= .slice (if cap=pS.toNat then sa else sa.map (·.add (pS.toNat*g.size))) (cS.toNat-pS.toNat) (cap-pS.toNat)) ?_,?_⟩
       ·simp only[Instr.sliceAt,Instr.slice,aJ,fF,gq,fJ,run_underlying aR,Option.map_none,ae,eh]
       ·simp only[ba];have hlen:((xs.take cS.toNat).drop pS.toNat).length=cS.toNat-pS.toNat:=by simp;omega
        refine⟨⟨_,_,by rw[hlen],by rw[hlen];omega,⟨by omega,by rw[hlen];omega⟩,?_⟩,(fun h=>by cases h),(fun g h=>by cases h),(fun _ _ h=>by cases h),(fun _ h=>by cases h)⟩;rcases fG with rfl|⟨b,off,us,rfl,g1,g2⟩
        ·left;simp
        ·by_cases za:cap=pS.toNat
         ·left;apply List.eq_nil_of_length_eq_zero;rw[hlen];omega
         ·right;rw[if_neg za];refine⟨b,off+pS.toNat*g.size,(us.take (cS.toNat*g.size)).drop (pS.toNat*g.size),by simp[oR],Fx _ (Fz _ g1),V0 _ (V3 _ g2)⟩
      ·cases he
     ·cases he
    ·cases he
   ·cases J
  ·cases J
 ·rename_i op wr x y UQ ty o o' alS;simp only[cA,fm]at av;obtain⟨⟨rfl,J⟩,U⟩:=av;obtain⟨r,g1,g2⟩:=Yz P w ν (by simpa only[hg]using he) aw ty (ej aK J) (ej aK U) o o';exact⟨r,k2 g1,g2⟩
 ·rename_i x op ty o;simp only[cA,fm]at av;obtain⟨rfl,J⟩:=av;have ak:=ej aK J;simp only[hg]at he;unfold FU at he;split at he
  ·rename_i b ae;cases he;rw[ae]at ak;simp only[ba]at ak;exact⟨_,k2 (v:= .bool (!b)) (by simp[Op.unary,ak]),by simp[ba]⟩
  ·cases he
 ·rename_i x op ty o;simp only[cA,fm]at av;obtain⟨rfl,J⟩:=av;have ak:=ej aK J;simp only[hg]at he;unfold FP at he;split at he
  ·rename_i k n ae;cases he;rw[ae]at ak;simp only[ba]at ak;exact⟨_,k2 (v:= .int k (k.wrap (0-n))) (by simp[Op.unary,ak,Op.intArith]),by simp[ba]⟩
  ·cases he
 ·rename_i k x s d o;simp only[cA]at av;obtain⟨J,U⟩:=av;split at J
  ·rename_i aZ bI BI tR;simp only[fm]at J;subst J;obtain⟨d1,fo,aed⟩:=iL aL BI;obtain rfl:=Ei aed;obtain⟨d2,eH,aee⟩:=iL aL tR;obtain rfl:=Ei aee;have ak:=ej aK U;simp only[hg]at he;unfold Eg at he;split at he
   ·rename_i bM n ae;cases he;rw[ae]at ak;simp only[ba]at ak;exact⟨_,k2 (v:= .int k (k.wrap n)) (by simp[convert,ak,run_underlying fo,run_underlying eH,Conv.intToInt]),by simp[ba]⟩
   ·cases he
  ·cases J
 ·rename_i i x o j;simp only[cA,dL]at av;obtain⟨rfl,J⟩:=av;have ak:=ej aK J;simp only[hg]at he;unfold yS at he;split at he
  ·rename_i bc ae;simp only[gN]at he;obtain⟨q,br,he⟩:=he;cases he;rw[ae]at ak;simp only[ba]at ak;obtain⟨us,hu,U⟩:=ak;obtain⟨v,g1,g2⟩:=Gz i U br;have kQ:us[i]? =some v:=by simpa using g1
   exact⟨v,k2 (by simp[Instr.extract,hu,kQ]),g2⟩
  ·cases he
 ·rename_i x o t;simp only[cA]at av;obtain⟨J,U⟩:=av;have ak:=ej aK U;simp only[hg]at he;unfold zK at he;split at he
  ·rename_i sz tag xs ae;cases he;rw[ae]at ak;simp only[ba]at ak;obtain⟨⟨sa,cap,aJ,_⟩,_⟩:=ak;refine⟨.int .i64 xs.length,?_,by simp[ba]⟩;split at J
   ·rename_i aH;obtain⟨d,aR,eW⟩:=iL aL aH;obtain rfl:=sf eW;simp[execOp,resolve,invoke,builtin,Builtin.len_,run_underlying aR,aJ,goInt]
   ·cases J
  ·rename_i sz k n ae;cases he;rw[ae]at ak;simp only[ba]at ak;obtain⟨⟨sa,cap,aJ⟩,_⟩:=ak;refine⟨.int .i64 n,?_,by simp[ba]⟩;split at J
   ·rename_i aH;obtain⟨d,aR,eW⟩:=iL aL aH;obtain rfl:=sf eW;simp[execOp,resolve,invoke,builtin,Builtin.len_,run_underlying aR,aJ,goInt]
   ·cases J
  ·rename_i sa n cap ae;cases he;rw[ae]at ak;simp only[ba]at ak;refine⟨.int .i64 n,?_,by simp[ba]⟩;split at J
   ·rename_i aH;obtain⟨d,aR,eW⟩:=iL aL aH;obtain rfl:=sf eW;simp[execOp,resolve,invoke,builtin,Builtin.len_,run_underlying aR,ak,goInt]
   ·cases J
  ·cases he
 ·rename_i x o t;simp only[cA]at av;obtain⟨J,U⟩:=av;have ak:=ej aK U;simp only[hg]at he;unfold De at he;split at he
  ·rename_i s ae;cases he;rw[ae]at ak;simp only[ba]at ak;refine⟨.int .i64 s.length,?_,by simp[ba]⟩;split at J
   ·rename_i aH;obtain⟨d,aR,eW⟩:=iL aL aH;obtain rfl:=yP eW;simp[execOp,resolve,invoke,builtin,Builtin.len_,run_underlying aR,ak.1,goInt,Dd]
   ·cases J
  ·rename_i s ae;cases he;rw[ae]at ak;simp only[ba]at ak;refine⟨.int .i64 s.size,?_,by simp[ba]⟩;split at J
   ·rename_i aH;obtain⟨d,aR,eW⟩:=iL aL aH;obtain rfl:=yP eW;simp[execOp,resolve,invoke,builtin,Builtin.len_,run_underlying aR,ak,goInt]
   ·cases J
  ·cases he
 ·rename_i zero parts t cu;split at av
  ·rename_i dJ z aH;simp only[cA]at av;obtain⟨⟨J,U⟩,ao⟩:=av;have bE:=anr J;obtain⟨i,d,anq,ak,aC,bj,dd,gW,hI,qU,qV⟩:=(uQ aL aH).ex;obtain⟨gs,rfl,kf⟩:=Ie gW;simp only at bE qU qV;subst bE;have lg:(gs.toList.all fun f=>(dZ bz f.type).isSome)=true:=by rw[←kf]at U;simpa[List.all_map,Function.comp_def]using U
   obtain⟨qC,cU,ds⟩:=U3 aL gs.toList lg;rw[kf]at ds;cases anq<;>simp only[yt]at qU;case agg us=>
    simp only[hg]at he;cases ae:tz st.t zero parts with
    |none=>simp[ae]at he
    |some x=>obtain⟨cq,cs'⟩:=x;simp only[ae,nS]at he;cases he;obtain⟨cj,g1,g2⟩:=Wf aK ds parts cu.toList zero us c cs' ao (M2 w ν _ _ qU) ae aw;refine⟨.agg cj,k2 (run_build w t _ cj ?_),by simp only[ba];exact⟨cj,rfl,g2⟩⟩;simp only[Program.built,ak,aC,hI,cU,oH];simpa using g1
   all_goals cases qU
  ·cases av
 ·rename_i x o;have ak:=ej aK av;simp only[hg]at he;unfold zU at he;split at he
  ·rename_i k off ae;cases he;rw[ae]at ak;have aC:=ak;simp only[ba]at ak;obtain⟨b,_,aJ⟩:=ak;exact⟨a.eval o,by simp[execOp,aJ],aC⟩
  ·rename_i q ae;cases he;rw[ae]at ak;have aC:=ak;simp only[ba]at ak;obtain⟨b,off,u,aJ,_⟩:=ak;exact⟨a.eval o,by simp[execOp,aJ],aC⟩
  ·rename_i f cs ae;cases he;rw[ae]at ak;have aC:=ak;simp only[ba]at ak;obtain⟨us,aJ,_⟩:=ak;exact⟨a.eval o,by simp[execOp,aJ],aC⟩
  ·cases he
 ·rename_i x y o o' t dG;simp only[cA]at av;have ak:=ej aK av.1;have aC:=ej aK av.2;simp only[hg]at he;unfold FO at he;split at he
  ·rename_i k m bM n hm aA;split at he
   ·rename_i ab;subst ab;cases he;rw[hm]at ak;rw[aA]at aC;simp only[ba]at ak aC;exact⟨.int k (if n<m then n else m),by simp[execOp,resolve,invoke,builtin,Builtin.min_,Builtin.min2,ak,aC],by simp[ba]⟩
   ·cases he
  ·cases he
 ·rename_i n xs m os;simp only[cA,dL]at av;obtain⟨rfl,av⟩:=av;simp only[hg]at he;cases he;have tN:=C4 aK av;refine⟨.func (.func n) #[] (os.map a.eval),by simp[execOp,Instr.makeFunc],?_⟩;simp only[ba];exact⟨os.map a.eval,rfl,by simpa using tN⟩
 ·rename_i ca zero ok x k t o o' FV;simp only[cA,dL]at av;obtain⟨⟨⟨rfl,J⟩,U⟩,ao⟩:=av;have ak:=ej aK U;have aC:=ej aK ao;split at J
  ·rename_i sz kP mn o1 z aH;simp only[cA]at J;obtain⟨BR,Jk⟩:=J;split at Jk
   ·rename_i aoG aeh;have bE:=M4 Jk;obtain⟨cG,hu,eW⟩:=iL aL aH;have sv:cG= .map mn o1:=by cases cG<;>simp[jU]at eW;obtain⟨rfl,rfl⟩:=eW;rfl
    subst sv;obtain⟨b1,kJ,z2,_⟩:=Mw aL aeh w;rw[←bE]at z2;have aa:=(M3 w ν z2).1;have lK:=Kg aL BR;simp only[hg]at he;unfold nE at he;split at he
    ·rename_i key ad;rw[ad]at ak;simp only[ba]at ak;obtain⟨bl,b8,b3⟩:=ak;split at he
     ·rename_i clock borns kvs hZ;obtain⟨ih,us,el,g1,g2,g3,g4,g5⟩:=aK.good.box key _ hZ;rw[b8]at g1;cases g1;simp only[jz]at g4;simp only[iX]at g5;have gX:(getObj bl).run P w= .ok (.map (fy borns us.toList).toArray clock) w:=uK g4;split at he
      ·cases he
      rename_i vm;have vh:=L1 (P:=P) (w:=w) lK ((fy borns us.toList).toArray.isEmpty) aC (by simpa using vm);split at he
      ·rename_i v hm;cases he;obtain⟨j,u,f1,f2⟩:=KI lK aC borns kvs us.toList 0 _ g5.1 g5.2.len hm;refine⟨if ok then .tuple #[u,.bool true]else u,?_,?_⟩
       ·simp only[execOp];refine k2 ?_;simp only[Instr.lookup,fF,run_underlying hu,fJ,b3,gX,gq,vh,f1.run lK]
       ·cases ok
        ·simpa using f2
        ·simp only[if_true,ba];exact⟨_,rfl,by simp only[cP];exact⟨_,_,rfl,f2,_,_,rfl,by simp[ba],rfl⟩⟩
      ·rename_i hm;cases he;have f1:=KI lK aC borns kvs us.toList 0 _ g5.1 g5.2.len hm;simp only at f1;refine⟨if ok then .tuple #[b1,.bool false]else b1,?_,?_⟩
       ·simp only[execOp];refine k2 ?_;simp only[Instr.lookup,fF,run_underlying hu,fJ,b3,gX,gq,vh,f1.run lK,kJ]
       ·cases ok
        ·simpa using aa
        ·simp only[if_true,ba];exact⟨_,rfl,by simp only[cP];exact⟨_,_,rfl,aa,_,_,rfl,by simp[ba],rfl⟩⟩
      ·cases he
     ·cases he
    ·cases he
   ·cases Jk
  ·cases J
 ·rename_i x o;have ak:=ej aK av;simp only[hg]at he;unfold pf at he;split at he
  ·rename_i fi ad;rw[ad]at ak;simp only[ba]at ak;obtain⟨bl,b8,b3⟩:=ak;split at he
   ·rename_i since seen last mk hZ;obtain⟨ih,us,el,g1,g2,g3,g4,g5⟩:=aK.good.box fi _ hZ;rw[b8]at g1;cases g1;simp only[jz]at g4;simp only[iX,cP,ba]at g5;obtain⟨u,cj,qv,⟨mb,m1,rfl⟩,rfl⟩:=g5;rw[qv]at g4;simp only at g4;split at he
    ·rename_i clock borns kvs aeI;obtain⟨anR,rU,aor,aZ,bI,ck,eK,c8⟩:=aK.good.box mk _ aeI;rw[m1]at aZ;cases aZ;simp only[jz]at eK;simp only[iX]at c8;split at he
     ·rename_i n aA;simp only[gN]at he;obtain⟨q,br,he⟩:=he;cases he;obtain⟨e,f1,f2⟩:=T8 borns kvs rU.toList p c8.1 br;refine⟨.tuple #[e.key,e.val],?_,f2⟩;simp only[execOp];refine k2 ?_;have aep:(getObj bl).run P w= .ok (.mapIter (some mb) since seen.toArray last) w:=uK g4;have aeq:(getObj mb).run P w= .ok (.map (fy borns rU.toList).toArray clock) w:=uK eK;have Jd:seen.toArray.back? =some n:=by simpa using aA
      have zb:(clock !=last)=false:=by simp[aw]
      have aei:(fy borns rU.toList).toArray.find? (·.born==n)=some e:=by simpa using f1
      simp only[Instr.entry,b3,fF,aep,fJ,Jd,aeq,zb,gT,if_false,aei,gq]
     ·cases he
    ·cases he
   ·cases he
  ·cases he
 ·rename_i x o t;simp only[cA]at av;obtain⟨J,U⟩:=av;have ak:=ej aK U;simp only[hg]at he;unfold ur at he;split at he
  ·rename_i key ae;rw[ae]at ak;simp only[ba]at ak;obtain⟨bl,b8,b3⟩:=ak;split at he
   ·rename_i clock borns kvs hZ;cases he;obtain⟨ih,us,el,g1,g2,g3,g4,g5⟩:=aK.good.box key _ hZ;rw[b8]at g1;cases g1;simp only[jz]at g4;simp only[iX]at g5;have gX:(getObj bl).run P w= .ok (.map (fy borns us.toList).toArray clock) w:=uK g4;have hlen:(fy borns us.toList).length=borns.length:=Qt g5.2.len (V9 g5.1);refine⟨.int .i64 borns.length,?_,by simp[ba]⟩;split at J
    ·rename_i aH;obtain⟨d,aR,eW⟩:=iL aL aH;obtain⟨mn,o1,rfl⟩:∃mn o1,d= .map mn o1:=by cases d<;>simp[jU]at eW;exact⟨_,_,rfl⟩
     simp[execOp,resolve,invoke,builtin,Builtin.len_,run_underlying aR,b3,goInt,gX,hlen]
    ·cases J
   ·cases he
  ·cases he
 ·rename_i neg dJ x y op t o o' alS;simp only[cA,fm]at av;obtain⟨⟨⟨rfl,bq⟩,J⟩,U⟩:=av;have ak:=ej aK J;have aC:=ej aK U;simp only[hg]at he;unfold ig at he;split at he
  ·rename_i bn b2 bD ae;simp only at bq;cases he;rw[bD]at ak;rw[ae]at aC;simp only[ba]at ak aC;split at bq
   ·rename_i aH;obtain⟨d,aR,eW⟩:=iL aL aH;obtain rfl:d= .bool:=by cases d<;>simp[jU]at eW;rfl
    refine⟨.bool (if neg then bn !=b2 else bn==b2),k2 ?_,by simp[ba]⟩;cases neg<;>simp[ak,aC,eqGuard,binOp,ZL aR,bne]
   ·cases bq
  ·rename_i aoP as eN bD ae;simp only at bq;simp only[gN]at he;obtain⟨q,br,he⟩:=he;cases he;rw[bD]at ak;rw[ae]at aC;simp only[ba]at ak aC;obtain⟨X,ZA,ajw⟩:=ak;obtain⟨Y,ZB,ajx⟩:=aC;obtain⟨gs,hu,a8,cO,iD⟩:=Q1 aL bq;obtain⟨i1,_,_⟩:=Qx hu a8 cO ajw ajx br;refine⟨.bool (if neg then !q else q),k2 ?_,by simp[ba]⟩;rw[ZA,ZB];cases neg
   ·simp only[gT,if_false,fF,run_eqGuard_agg w _ t o o' X Y iD,fJ,run_eql_struct,i1]
   ·simp only[if_true,fF,run_eqGuard_agg w _ t o o' X Y iD,fJ,run_neq_struct,i1]
  ·cases he
 ·rename_i x y o o' t dG;simp only[cA]at av;have ak:=ej aK av.1;have aC:=ej aK av.2;simp only[hg]at he;unfold FJ at he;split at he
  ·rename_i k m bM n hm aA;split at he
   ·rename_i ab;subst ab;cases he;rw[hm]at ak;rw[aA]at aC;simp only[ba]at ak aC;exact⟨.int k (if m<n then n else m),by simp[execOp,resolve,invoke,builtin,Builtin.max_,Builtin.max2,ak,aC],by simp[ba]⟩
   ·cases he
  ·cases he
 ·rename_i t x dG o;simp only[cA,dL]at av;obtain⟨⟨rfl,J⟩,U⟩:=av;have ak:=ej aK U;simp only[hg]at he;cases he;split at J
  ·rename_i aH;obtain⟨d,aR,eW⟩:=iL aL aH;obtain rfl:=sf eW;refine⟨.iface t (a.eval o),k2 (by simp[Instr.makeInterface,run_underlying aR]),?_⟩;simp only[ba];exact⟨_,rfl,ak⟩
  ·cases J
 ·rename_i agg sz x t o;simp only[cA]at av;obtain⟨J,U⟩:=av;split at J
  ·rename_i f aH;simp only[cA,dL]at J;obtain⟨rfl,rfl⟩:=J;obtain⟨v,g1,g2⟩:=FE aL aK.good aH (ej aK U) (agt (by simpa only[hg]using he)) aw;exact⟨v,k2 g1,g2⟩
  ·cases J
 ·rename_i agg sz x t o;simp only[cA]at av;obtain⟨J,U⟩:=av;split at J
  ·rename_i f aH;simp only[cA,dL]at J;obtain⟨rfl,rfl⟩:=J;obtain⟨v,g1,g2⟩:=FE aL aK.good aH (ej aK U) (acQ (by simpa only[hg]using he)) aw;exact⟨v,k2 g1,g2⟩
  ·cases J
 ·exact absurd rfl (ad4 _ _ _ _ _)
 ·cases av
theorem alZ{P:cB}{bz:List (Nat×dA)}(aL:fN P bz=true){C:fc}{st:bp}{a:Act}{w:World}{ν:bd}(aK:cT C st a w ν){i:fP}{o:Oper}(av:Dq bz i o.op=true)
  {c:Prop} {p:ah} (he:hg st i=some (c,p)) (aw:c):∃v,(execOp a.eval o).run P w= .ok (.value v) w∧ba w ν p v:=by
 by_cases ae:∃ca z ok x k,i= .mgetB ca z ok x k
 ·obtain⟨ca,z,ok,x,k,rfl⟩:=ae;refine WW aL aK (i:= .mget ca z ok x k) (fun _ _ _ _ _ e=>by cases e) ?_ he aw;obtain⟨dst,op,type,pos,after,guard⟩:=o;cases op<;>first|exact av|simp[Dq]at av
 ·exact WW aL aK (fun ca z ok x k e=>ae ⟨ca,z,ok,x,k,e⟩) av he aw
theorem P4{w:World}{o:Obj}{b i:Nat}(h:b<w.heap.size):(w.alloc o).cell? ⟨b,i,none⟩=w.cell? ⟨b,i,none⟩:=World.cell?_of_block (Below.heap_alloc w o b h)
def bd.withBox(ν:bd)(k:aD)(bl:Nat):bd:={ν with bx:=fun j=>if j=k then some bl else ν.bx j}
def bd.withOwn(ν:bd)(k:aD)(n:Nat)(v:Value):bd:={ν with ow:=fun j=>if j=k then some (n,v)else ν.ow j}
theorem cT.lookNone{C:fc}{st:bp}{a:Act}{w:World}{ν:bd}(h:cT C st a w ν){k:aD}(ab:fresh st.n st.o k):look k st.b=none∧look k st.e=none:=by
 obtain⟨J,U,_⟩:=h.new k ab;constructor
 ·cases ae:look k st.b with
  |none=>rfl
  |some cs=>obtain⟨bl,us,el,g1,_⟩:=h.good.box _ _ ae;rw[J]at g1;cases g1
 ·cases ae:look k st.e with
  |none=>rfl
  |some o=>obtain⟨v,us,g1,_⟩:=h.good.own _ _ ae;rw[U]at g1;cases g1
theorem Good.ownLt{pr:Nat→Prop}{w:World}{ν:bd}{b:List (aD×List ah)}{e:List (aD×fM)}(h:Good pr w ν b e){g:aD}{o:fM}(a8:look g e=some o){n:Nat}{v:Value}(aJ:ν.ow g=some (n,v)){bl:Nat}(ae:v.ownBlock=some bl):bl<w.heap.size:=by obtain⟨v',us,g1,g2,_⟩:=h.own g o a8;rw[aJ]at g1;cases g1;exact(g2.lt bl ae).2
theorem Good.boxLt{pr:Nat→Prop}{w:World}{ν:bd}{b:List (aD×List ah)}{e:List (aD×fM)}(h:Good pr w ν b e){k:aD}{cs:List ah}(ab:look k b=some cs){bl:Nat}(ae:ν.bx k=some bl):bl<w.heap.size:=by obtain⟨ih,us,el,g1,_,_,g4,_⟩:=h.box k cs ab;rw[ae]at g1;cases g1;exact(Array.getElem?_eq_some_iff.1 g4).1
theorem cT.newBox{C:fc}{st:bp}{a:Act}{w:World}{ν:bd}(h:cT C st a w ν){ff:aD}(BQ:ν.bx ff=none∧ν.ow ff=none∧∀j b,¬ν.tr ff j b){n':Nat}{o':List aD}(dg:∀j,fresh n' o' j→fresh st.n st.o j∧j≠ff){cs:List ah}{us:Array Value}(el:fV)(aw:iX w ν cs us.toList):
  cT C {st with b:=cw ff cs st.b,n:=n',o:=o'} a (w.alloc (jz cs us el)) (ν.withBox ff w.heap.size)∧
  ba (w.alloc (jz cs us el)) (ν.withBox ff w.heap.size) (.ptr ff 0) (.pointer (some ⟨w.heap.size,0,none⟩)):=by
 obtain⟨rk,BW,aeO⟩:=BQ;have av:la w ν (w.alloc (jz cs us el)) (ν.withBox ff w.heap.size):=by
  refine⟨fun b o bh=>⟨bh,P4 (h.good.alt b o bh)⟩,fun k b _ ab=>?_,fun g n u _ a8=>⟨n,u,a8,.inl ⟨rfl,rfl⟩⟩,fun b o bh=>wh (Below.heap_alloc w _ b (h.good.alt b o bh)),fun _ _ _ _ h=>h⟩;have:k≠ff:=fun e=>by subst e;rw[rk]at ab;cases ab
  simp[bd.withBox,this,ab]
 have eh:(w.alloc (jz cs us el)).heap.size=w.heap.size+1:=by simp
 have lj:∀k,(look k (cw ff cs st.b)).isSome→k=ff∨(k≠ff∧(look k st.b).isSome∧(ν.withBox ff w.heap.size).bx k=ν.bx k):=by
  intro k ab;by_cases e:k=ff
  ·exact .inl e
  ·rw[iI,if_neg (kL e)]at ab;exact .inr ⟨e,ab,by simp[bd.withBox,e]⟩
 refine⟨h.over av rfl ⟨fun bl o bh=>by rw[eh];have:=h.good.alt bl o bh;omega,fun k eG ab=>?_,fun k bM bl ab nx ak aC=>?_,fun g o a8=>?_,h.good.oinj,fun g k n v bl a8 ab aJ ae ad=>?_,fun k=>?_,fun bl ae k j aL=>?_⟩
  ⟨h.fr.os,h.fr.tape,h.fr.output,by rw[eh];have:=h.fr.size;omega,fun k ab hm=>?_,fun b o bh=>?_,h.fr.fresh,fun n b ae=>?_,h.fr.obn,h.fr.row,h.fr.obr,h.fr.trd,fun k j b ae=>⟨(h.fr.trb k j b ae).1,by rw[eh];have:=(h.fr.trb k j b ae).2;omega⟩,fun k j b ae=>?_,fun b o bh=>(av.sh b o (h.fr.keep b o bh).1).trans (h.fr.sh b o bh)⟩ (fun m hm=>?_),?_⟩
 ·simp only at ab;rw[iI]at ab;by_cases e:ff=k
  ·rw[if_pos e]at ab;cases ab;subst e;refine⟨w.heap.size,us,el,by simp[bd.withBox],.inr h.fr.size,fun o bh=>?_,heap_alloc_new w _,pY av aw⟩;have:=h.good.alt _ o bh;omega
  ·rw[if_neg e]at ab;obtain⟨bl,cj,fR,g1,g2,g3,g4,g5⟩:=h.good.box k eG ab;exact⟨bl,cj,fR,av.bx _ _ trivial g1,g2,g3,by rw[Below.heap_alloc w _ bl (Array.getElem?_eq_some_iff.1 g4).1];exact g4,pY av g5⟩
 ·rcases lj k ab with rfl|⟨ia,gg,iV⟩<;>rcases lj bM nx with rfl|⟨m1,m2,m3⟩
  ·rfl
  ·exfalso;simp only[bd.withBox,if_true,dE]at ak;subst ak;rw[m3]at aC;obtain⟨eG,iC⟩:=fL.1 m2;have:=h.good.boxLt iC aC;omega
  ·exfalso;simp only[bd.withBox,if_true,dE]at aC;subst aC;rw[iV]at ak;obtain⟨eG,iC⟩:=fL.1 gg;have:=h.good.boxLt iC ak;omega
  ·rw[iV]at ak;rw[m3]at aC;exact h.good.inj k bM bl gg m2 ak aC
 ·obtain⟨v,xs,g1,g2,g3,g4⟩:=h.good.own g o a8;exact⟨v,xs,g1,g2.alloc _,g3,rO av (fun _ _ _ h=>h) g4⟩
 ·rcases lj k ab with rfl|⟨ia,gg,iV⟩
  ·simp only[bd.withBox,if_true,dE]at ad;subst ad;obtain⟨o,hK⟩:=fL.1 a8;have:=h.good.ownLt hK aJ ae;omega
  ·rw[iV]at ad;exact h.good.obx g k n v bl a8 gg aJ ae ad
 ·by_cases e:k=ff
  ·subst e;exact .inr BW
  ·rcases h.good.one k with J|J
   ·exact .inl (by simp[bd.withBox,e,J])
   ·exact .inr J
 ·rcases ae with⟨bM,bC,a2⟩|ae
  ·rcases lj bM bC with rfl|⟨ia,gg,iV⟩
   ·simp[bd.withBox]at a2;subst a2;exact absurd (h.fr.trb k j _ aL).2 (Nat.lt_irrefl _)
   ·exact h.good.otr bl (.inl ⟨bM,gg,by rw[←iV];exact a2⟩) k j aL
  ·exact h.good.otr bl (.inr ae) k j aL
 ·rw[Below.heap_alloc w _ k (by have:=h.fr.size;omega)];exact h.fr.block k ab hm
 ·obtain⟨aZ,bI⟩:=h.fr.keep b o bh;exact⟨aZ,(P4 (h.good.alt b o aZ)).trans bI⟩
 ·exact av.bx _ _ trivial (h.fr.obj n b ae)
 ·have cF:k≠ff:=fun e=>by subst e;exact aeO j b ae
  obtain⟨t1,t2⟩:=h.fr.trn k j b ae;exact⟨by simp[bd.withBox,cF,t1],t2⟩
 ·obtain⟨f1,f2⟩:=dg m hm;obtain⟨aZ,bI⟩:=h.new m f1;refine⟨?_,bI⟩;simp[bd.withBox,f2,aZ]
 ·simp[ba,bd.withBox]
theorem cT.setBox{C:fc}{st:bp}{a:Act}{w w':World}{ν:bd}(h:cT C st a w ν){k:aD}{cs cs':List ah}(ab:look k st.b=some cs){bl:Nat}(ae:ν.bx k=some bl){us:Array Value}{el:fV}
  (zp:w'.os=w.os) (JR:w'.tape=w.tape) (JE:w'.output=w.output) (mS:∀j,j≠bl→w'.heap[j]? =w.heap[j]?) (eh:w'.heap.size=w.heap.size) (kg:w'.heap[bl]? =some (jz cs' us el)) (aw:iX w ν cs' us.toList):
  cT C {st with b:=cw k cs' st.b} a w' ν∧la w ν w' ν:=by
 obtain⟨ih,fu,aoq,g1,g2,g3,g4,g5⟩:=h.good.box k cs ab;rw[ae]at g1;cases g1;have av:la w ν w' ν:=by
  refine⟨fun b o bh=>⟨bh,World.cell?_of_block (mS b fun e=>?_)⟩,fun _ _ _ h=>h,fun g n u _ a8=>⟨n,u,a8,.inl ⟨rfl,rfl⟩⟩,fun b o bh=>wh (mS b fun e=>?_),fun _ _ _ _ h=>h⟩<;>
  (subst e;exact g3 o bh)
 have ER:∀j,(look j (cw k cs' st.b)).isSome→(look j st.b).isSome:=by
  intro j af;rw[iI]at af;by_cases e:k=j
  ·subst e;simp[ab]
  ·rwa[if_neg e]at af
 refine⟨h.over av rfl ⟨fun b o bh=>by rw[eh];exact h.good.alt b o bh,fun j eG af=>?_,fun j dy b af jd=>h.good.inj j dy b (ER j af) (ER dy jd),fun g o a8=>?_,h.good.oinj,fun g j n v b a8 af=>h.good.obx g j n v b a8 (ER j af),h.good.one,fun bl ae=>h.good.otr bl (ae.imp (fun⟨k,J,U⟩=>⟨k,ER k J,U⟩) id)⟩
  ⟨zp.trans h.fr.os,JR.trans h.fr.tape,JE.trans h.fr.output,by rw[eh];exact h.fr.size,fun j af hm=>?_,fun b o bh=>?_,h.fr.fresh,h.fr.obj,h.fr.obn,h.fr.row,h.fr.obr,h.fr.trd,fun k j b ae=>⟨(h.fr.trb k j b ae).1,by rw[eh];exact(h.fr.trb k j b ae).2⟩,h.fr.trn,fun b o bh=>(av.sh b o (h.fr.keep b o bh).1).trans (h.fr.sh b o bh)⟩ h.new,av⟩
 ·simp only at af;rw[iI]at af;by_cases e:k=j
  ·rw[if_pos e]at af;cases af;subst e;exact⟨bl,us,el,ae,g2,g3,kg,pY av aw⟩
  ·rw[if_neg e]at af;obtain⟨b,cj,fR,ak,aC,bj,dd,gW⟩:=h.good.box j eG af;refine⟨b,cj,fR,ak,aC,bj,?_,pY av gW⟩;rw[mS b fun fE=>e (h.good.inj k j bl (by simp[ab]) (by simp[af]) ae (by rw[←fE];exact ak))];exact dd
 ·obtain⟨v,xs,ak,aC,bj,dd⟩:=h.good.own g o a8;refine⟨v,xs,ak,⟨aC.1,?_⟩,bj,rO av (fun _ _ _ h=>h) dd⟩;rcases aC.2 with aC|⟨bb,cap,cur,f1,f2,f3,f4⟩
  ·exact .inl aC
  ·refine .inr ⟨bb,cap,cur,f1,f2,?_,f4⟩;rw[mS bb fun fE=>h.good.obx g k o.n v bl (by simp[a8]) (by simp[ab]) ak (by rw[f1,←fE];rfl) ae];exact f3
 ·rw[mS j fun e=>by subst e;exact g2.elim hm (fun g2=>by omega)];exact h.fr.block j af hm
 ·obtain⟨aZ,bI⟩:=h.fr.keep b o bh;exact⟨aZ,(av.A b o aZ).2.trans bI⟩
theorem cT.storeBox{C:fc}{st:bp}{a:Act}{w:World}{ν:bd}(h:cT C st a w ν){k:aD}{cs cs':List ah}(ab:look k st.b=some cs){bl:Nat}(ae:ν.bx k=some bl)(bH:gn cs=true){us:Array Value}(aw:c4 w ν cs' us.toList):
  cT C {st with b:=cw k cs' st.b} a (w.setRow bl us) ν:=by
 obtain⟨ih,fu,el,g1,g2,g3,g4,g5⟩:=h.good.box k cs ab;rw[ae]at g1;cases g1;rw[uy bH]at g4;have St:=Av aw;exact(h.setBox (w':=w.setRow bl us) ab ae (us:=us) (el:=el) rfl rfl rfl (fun j af=>setRow_other w bl j us af) (setRow_size w bl us) (by rw[uy St];exact setRow_heap w bl fu us el _ g4) (by rw[uz St];exact aw)).1
def bd.withRowOf(ν:bd)(k:aD)(v:Value)(n cells:Nat):bd:={A:=fun b o=>ν.A b o∨(v.ownBlock=some b∧o<cells),bx:=ν.bx,ow:=fun j=>if j=k then some (n,v)else ν.ow j,tr:=ν.tr}
theorem Km{w:World}{A:Nat→Nat→Prop}{b:Nat}:∀(us:List Value) (off:Nat),(∀j u,us[j]? =some u→A b (off+j)∧w.cell? ⟨b,off+j,none⟩=some u)→lx w A b off us
 |[],_,_=>trivial
 |u::us,off,h=>⟨h 0 u rfl,Km us (off+1) fun j x af=>by have:=h (j+1) x (by simpa using af);rwa[show off+(j+1)=off+1+j from by omega]at this⟩
theorem Ed{w w':World}(a8:w.grownBy w' none){b i:Nat}(h:b<w.heap.size):w'.cell? ⟨b,i,none⟩=w.cell? ⟨b,i,none⟩:=World.cell?_of_block (a8.block b h (by simp))
theorem cT.newRowM{C:fc}{st:bp}{a:Act}{w w':World}{ν:bd}(h:cT C st a w ν){k:aD}{xs:List ah}(ab:(ν.bx k=none∧ν.ow k=none∧∀j b,¬ν.tr k j b)∨ ∃o,look k st.e=some o∧o.n<xs.length){el sz:Nat}{v:Value}{us:List Value}
  (a8:w.grownBy w' none) (lq:w'.ownsRow w.heap.size el sz v xs.length us) (aw:dx w ν sz xs us) (eI:xs.length≤lim) {n':Nat} {o':List aD} (dg:∀j,fresh n' o' j→fresh st.n st.o j∧j≠k):
  cT C {st with e:=cw k ⟨xs.length,el,sz,some xs⟩ st.e,n:=n',o:=o'} a w' (ν.withOwn k xs.length v)∧
  ((∃b cap,v= .slice (some ⟨b,0,none⟩) xs.length cap)→ba w' (ν.withOwn k xs.length v) (.row sz k xs.length) v):=by
 have qm:∀bl,v.ownBlock=some bl→w.heap.size≤bl∧bl<w'.heap.size:=fun bl ae=>lq.lt bl ae;have av:la w ν w' (ν.withOwn k xs.length v):=by
  refine⟨fun b o bh=>⟨bh,Ed a8 (h.good.alt b o bh)⟩,fun j b _ af=>af,fun g n u _ iD=>?_,fun b o bh=>wh (a8.block b (h.good.alt b o bh) (by simp)),fun _ _ _ _ h=>h⟩;by_cases e:g=k
  ·subst e;rcases ab with ab|⟨o,av,bA⟩
   ·rw[ab.2.1]at iD;cases iD
   ·obtain⟨v0,fu,ak,_⟩:=h.good.own g o av;rw[ak]at iD;cases iD;exact⟨xs.length,v,by simp[bd.withOwn],.inr bA⟩
  ·exact⟨n,u,by simp[bd.withOwn,e,iD],.inl ⟨rfl,rfl⟩⟩
 have kC:∀g,(look g (cw k ⟨xs.length,el,sz,some xs⟩ st.e)).isSome→g=k∨(g≠k∧(look g st.e).isSome∧(ν.withOwn k xs.length v).ow g=ν.ow g):=by
  intro g kf;by_cases e:g=k
  ·exact .inl e
  ·rw[iI,if_neg (kL e)]at kf;exact .inr ⟨e,kf,by simp[bd.withOwn,e]⟩
 have Sp:∀bl,v.ownBlock=some bl→∀j,¬ν.A bl j:=fun bl ae j bh=>by have J:=h.good.alt bl j bh;have:=(qm bl ae).1;omega
 have aeV:∀j b,¬ν.tr k j b:=fun j b ae=>by
  rcases ab with ab|⟨o,hK,_⟩
  ·exact ab.2.2 j b ae
  ·obtain⟨v0,fu,ak,_⟩:=h.good.own k o hK;rw[(h.fr.trn k j b ae).2]at ak;cases ak
 refine⟨h.over av rfl ⟨fun bl o bh=>?_,fun j eG af=>?_,h.good.inj,fun g o eT=>?_,fun g fe n n' u eQ bl J U ao a7 bZ c6=>?_,fun g j n u bl J U ao a7 bZ=>?_,fun j=>?_,fun bl ae bM j aL=>?_⟩
  ⟨a8.os.trans h.fr.os,a8.tape.trans h.fr.tape,a8.output.trans h.fr.output,j4 h.fr.size a8.size,fun j af hm=>?_,fun b o bh=>?_,h.fr.fresh,h.fr.obj,h.fr.obn,fun m n u hm=>C8 (h.fr.row m n u hm) (fun n u=>av.ow _ n u trivial),h.fr.obr,h.fr.trd,fun k j b ae=>⟨(h.fr.trb k j b ae).1,Nat.lt_of_lt_of_le (h.fr.trb k j b ae).2 a8.size⟩,fun bM j b ae=>?_,fun b o bh=>(av.sh b o (h.fr.keep b o bh).1).trans (h.fr.sh b o bh)⟩ (fun m hm=>?_),?_⟩
 ·have:=h.good.alt bl o bh;have:=a8.size;omega
 ·obtain⟨bl,cj,fR,g1,g2,g3,g4,g5⟩:=h.good.box j eG af;have bA:=(Array.getElem?_eq_some_iff.1 g4).1;exact⟨bl,cj,fR,g1,g2,g3,by rw[a8.block bl bA (by simp)];exact g4,pY av g5⟩
 ·simp only at eT;rw[iI]at eT;by_cases e:k=g
  ·rw[if_pos e]at eT;cases eT;subst e;refine⟨v,us,by simp[bd.withOwn],⟨lq.1,?_⟩,fun bl ae=>⟨.inr (j4 h.fr.size (qm bl ae).1),fun j bh=>absurd bh (Sp bl ae j)⟩,fun ys aM=>?_⟩
   ·rcases lq.2 with ak|⟨bb,cap,cur,f1,f2,f3⟩
    ·exact .inl ak
    ·exact .inr ⟨bb,cap,cur,f1,by omega,f3⟩
   ·simp only[dE]at aM;subst aM;exact⟨rfl,Aq av aw,Sp⟩
  ·rw[if_neg e]at eT;obtain⟨v0,fu,ak,aC,bj,dd⟩:=h.good.own g o eT;exact⟨v0,fu,by simp[bd.withOwn,kL e,ak],aC.kept a8 (by cases v0.ownBlock<;>simp),bj,rO av (fun _ _ _ h=>h) dd⟩
 ·rcases kC g J with rfl|⟨ia,gg,iV⟩<;>rcases kC fe U with rfl|⟨m1,m2,m3⟩
  ·rfl
  ·exfalso;simp only[bd.withOwn,if_true,dE,jj]at ao;rw[m3]at a7;obtain⟨o,hK⟩:=fL.1 m2;have ar:=h.good.ownLt hK a7 c6;have:=(qm bl (by rw[ao.2];exact bZ)).1;omega
  ·exfalso;simp only[bd.withOwn,if_true,dE,jj]at a7;rw[iV]at ao;obtain⟨o,hK⟩:=fL.1 gg;have ar:=h.good.ownLt hK ao bZ;have:=(qm bl (by rw[a7.2];exact c6)).1;omega
  ·rw[iV]at ao;rw[m3]at a7;exact h.good.oinj g fe n n' u eQ bl gg m2 ao a7 bZ c6
 ·rcases kC g J with rfl|⟨ia,gg,iV⟩
  ·simp only[bd.withOwn,if_true,dE,jj]at ao;obtain⟨eG,iC⟩:=fL.1 U;have ar:=h.good.boxLt iC bZ;have:=(qm bl (by rw[ao.2];exact a7)).1;omega
  ·rw[iV]at ao;exact h.good.obx g j n u bl gg U ao a7 bZ
 ·by_cases e:j=k
  ·subst e;rcases ab with ab|⟨o,hK,_⟩
   ·exact .inl ab.1
   ·obtain⟨v0,fu,ak,_⟩:=h.good.own j o hK;rcases h.good.one j with J|J
    ·exact .inl J
    ·rw[J]at ak;cases ak
  ·rcases h.good.one j with J|J
   ·exact .inl J
   ·exact .inr (by simp[bd.withOwn,e,J])
 ·rcases ae with ae|⟨g,n,u,bC,a2,a3⟩
  ·exact h.good.otr bl (.inl ae) bM j aL
  ·rcases kC g bC with rfl|⟨ia,gg,iV⟩
   ·simp only[bd.withOwn,if_true,dE,jj]at a2;have J:=(qm bl (by rw[a2.2];exact a3)).1;have U:=(h.fr.trb bM j _ aL).2;omega
   ·exact h.good.otr bl (.inr ⟨g,n,u,gg,by rw[←iV];exact a2,a3⟩) bM j aL
 ·rw[a8.block j (by have:=h.fr.size;omega) (by simp)];exact h.fr.block j af hm
 ·obtain⟨aZ,bI⟩:=h.fr.keep b o bh;exact⟨aZ,(av.A b o aZ).2.trans bI⟩
 ·have cF:bM≠k:=fun e=>by subst e;exact aeV j b ae
  obtain⟨t1,t2⟩:=h.fr.trn bM j b ae;exact⟨t1,by simp[bd.withOwn,cF,t2]⟩
 ·obtain⟨f1,f2⟩:=dg m hm;obtain⟨aZ,bI,ck⟩:=h.new m f1;refine⟨aZ,?_,ck⟩;simp[bd.withOwn,f2,bI]
 ·intro Jo;simp only[ba];exact⟨Jo,eI,xs.length,v,by simp[bd.withOwn],eV _,fun _=>rfl⟩
theorem cT.publish{C:fc}{st:bp}{a:Act}{w:World}{ν:bd}(h:cT C st a w ν){k:aD}{o:fM}{xs:List ah}(ab:look k st.e=some o)(ad:o.xs=some xs){v:Value}(aJ:ν.ow k=some (o.n,v))(eI:xs.length≤lim):
  cT C {st with e:=cw k ⟨o.n,o.el,o.sz,none⟩ st.e} a w (ν.withRowOf k v o.n (o.n*o.sz))∧
  ba w (ν.withRowOf k v o.n (o.n*o.sz)) (.slice o.sz (.own k) xs) v:=by
 obtain⟨v0,us,a6,bB,bS,c1⟩:=h.good.own k o ab;rw[aJ]at a6;cases a6;obtain⟨c9,nF,uA⟩:=c1 xs ad;have oe:∀g,(ν.withRowOf k v o.n (o.n*o.sz)).ow g=ν.ow g:=fun g=>by
  simp only[bd.withRowOf];split
  ·rename_i e;subst e;exact aJ.symm
  ·rfl
 have av:la w ν w (ν.withRowOf k v o.n (o.n*o.sz)):=⟨fun b o bh=>⟨.inl bh,rfl⟩,fun j b _ af=>af,fun g n u _ iD=>⟨n,u,by rw[oe];exact iD,.inl ⟨rfl,rfl⟩⟩,fun _ _ _=>rfl,fun _ _ _ _ h=>h⟩
 have kC:∀g,(look g (cw k ⟨o.n,o.el,o.sz,none⟩ st.e)).isSome→(look g st.e).isSome:=by
  intro g kf;by_cases e:k=g
  ·subst e;simp[ab]
  ·rwa[iI,if_neg e]at kf
 refine⟨h.over av rfl ⟨fun bl i bh=>?_,fun j eG af=>?_,h.good.inj,fun g o' eT=>?_,fun g fe n n' u eQ bl J U ao a7=>h.good.oinj g fe n n' u eQ bl (kC g J) (kC fe U) (by rwa[oe]at ao) (by rwa[oe]at a7),fun g j n u bl J U ao=>h.good.obx g j n u bl (kC g J) U (by rwa[oe]at ao),fun j=>?_,fun bl ae=>h.good.otr bl (ae.imp id (fun⟨g,n,v,bC,a2,a3⟩=>⟨g,n,v,kC g bC,by rwa[oe]at a2,a3⟩))⟩
  ⟨h.fr.os,h.fr.tape,h.fr.output,h.fr.size,h.fr.block,fun b i bh=>⟨.inl (h.fr.keep b i bh).1,(h.fr.keep b i bh).2⟩,fun b i bh=>?_,h.fr.obj,h.fr.obn,fun m n u hm=>C8 (h.fr.row m n u hm) (fun n u=>av.ow _ n u trivial),h.fr.obr,h.fr.trd,h.fr.trb,fun bM j b ae=>⟨(h.fr.trn bM j b ae).1,by rw[oe];exact(h.fr.trn bM j b ae).2⟩,h.fr.sh⟩ (fun m hm=>?_),?_⟩
 ·rcases bh with bh|⟨bh,_⟩
  ·exact h.good.alt bl i bh
  ·exact(bB.lt bl bh).2
 ·obtain⟨bl,cj,fR,g1,g2,g3,g4,g5⟩:=h.good.box j eG af;refine⟨bl,cj,fR,g1,g2,fun i bh=>?_,g4,pY av g5⟩;rcases bh with bh|⟨bh,_⟩
  ·exact g3 i bh
  ·exact h.good.obx k j o.n v bl (by simp[ab]) (by simp[af]) aJ bh g1
 ·simp only at eT;rw[iI]at eT;by_cases e:k=g
  ·rw[if_pos e]at eT;cases eT;subst e;refine⟨v,us,by rw[oe];exact aJ,bB,fun bl ae=>⟨(bS bl ae).1,fun j bh=>?_⟩,fun ys aM=>by cases aM⟩;rcases bh with bh|⟨_,bh⟩
   ·exact(bS bl ae).2 j bh
   ·exact bh
  ·rw[if_neg e]at eT;obtain⟨v0,fu,ak,aC,bj,dd⟩:=h.good.own g o' eT;have ve:∀bl,v0.ownBlock=some bl→∀j,(ν.withRowOf k v o.n (o.n*o.sz)).A bl j→ν.A bl j:=fun bl ae j bh=>by
    rcases bh with bh|⟨bh,_⟩
    ·exact bh
    ·exact absurd (h.good.oinj k g o.n o'.n v v0 bl (by simp[ab]) (by simp[eT]) aJ ak bh ae) e
   exact⟨v0,fu,by rw[oe];exact ak,aC,fun bl ae=>⟨(bj bl ae).1,fun j bh=>(bj bl ae).2 j (ve bl ae j bh)⟩,rO av ve dd⟩
 ·rcases h.good.one j with J|J
  ·exact .inl J
  ·exact .inr (by rw[oe];exact J)
 ·rcases bh with bh|⟨bh,_⟩
  ·exact h.fr.fresh b i bh
  ·exact .inr (bS b bh).1
 ·obtain⟨aZ,bI,ck⟩:=h.new m hm;exact⟨aZ,by rw[oe];exact bI,ck⟩
 ·simp only[ba];refine⟨?_,fun e=>(by cases e),fun g e=>?_,fun _ _ e=>(by cases e),fun _ e=>(by cases e)⟩
  ·rcases bB.2 with⟨ak,aC⟩|⟨bb,cap,cur,f1,f2,f3,f4,f5,f6,f7⟩
   ·refine⟨none,0,by rw[ak,c9,aC],by omega,⟨by simp[maxLen],eI⟩,.inl (List.eq_nil_of_length_eq_zero (by omega))⟩
   ·refine⟨some ⟨bb,0,none⟩,cap,by rw[f1,c9],by omega,⟨f5,eI⟩,.inr ⟨bb,0,us,rfl,Km us 0 fun j u af=>?_,Aq av nF⟩⟩;have oh:v.ownBlock=some bb:=by rw[f1];rfl
    have zj:j<us.length:=(fw.1 af).1;refine⟨.inr ⟨oh,by rw[bB.1]at zj;omega⟩,?_⟩;have:=bB.cells oh j u af;rwa[oR]at this
  ·cases e;exact⟨o.n,v,by rw[oe];exact aJ,by omega,fun _=>rfl⟩
theorem WU{α:Type}(k:aD)(p q:α):∀l,cw k q (cw k p l)=cw k q l
 |[]=>by simp[cw]
 |(i,r)::l=>by
  by_cases e:i=k
  ·simp[cw,e]
  ·simp[cw,e,WU k p q l]
theorem cT.newRow{C:fc}{st:bp}{a:Act}{w w':World}{ν:bd}(h:cT C st a w ν){k:aD}{xs:List ah}(ab:(ν.bx k=none∧ν.ow k=none∧∀j b,¬ν.tr k j b)∨ ∃o,look k st.e=some o∧o.n<xs.length){el sz:Nat}{v:Value}{us:List Value}
  (a8:w.grownBy w' none) (lq:w'.ownsRow w.heap.size el sz v xs.length us) (aw:dx w ν sz xs us) (eI:xs.length≤lim) {n':Nat} {o':List aD} (dg:∀j,fresh n' o' j→fresh st.n st.o j∧j≠k):
  cT C {st with e:=cw k ⟨xs.length,el,sz,none⟩ st.e,n:=n',o:=o'} a w' ((ν.withOwn k xs.length v).withRowOf k v xs.length (xs.length*sz))∧
  ba w' ((ν.withOwn k xs.length v).withRowOf k v xs.length (xs.length*sz)) (.slice sz (.own k) xs) v:=by
 have J:=(h.newRowM ab a8 lq aw eI dg).1;have U:=J.publish (k:=k) (o:=⟨xs.length,el,sz,some xs⟩) (xs:=xs) (v:=v) (by simp[iI]) rfl (by simp[bd.withOwn]) eI;simpa only[WU]using U
theorem cT.setRowM{C:fc}{st:bp}{a:Act}{w w':World}{ν:bd}(h:cT C st a w ν){k:aD}{o:fM}{xs xs':List ah}(ab:look k st.e=some o)(ad:o.xs=some xs){bl:Nat}{v v':Value}(aJ:ν.ow k=some (o.n,v))(oh:v.ownBlock=some bl)(E8:v'.ownBlock=some bl)
  (aA:(xs'.length=o.n∧v'=v)∨o.n<xs'.length) {us:List Value} (zp:w'.os=w.os) (JR:w'.tape=w.tape) (JE:w'.output=w.output) (mS:∀j,j≠bl→w'.heap[j]? =w.heap[j]?) (eh:w'.heap.size=w.heap.size)
  (lq:w'.ownsRow 0 o.el o.sz v' xs'.length us) (aw:dx w ν o.sz xs' us):
  cT C {st with e:=cw k ⟨xs'.length,o.el,o.sz,some xs'⟩ st.e} a w' (ν.withOwn k xs'.length v')∧la w ν w' (ν.withOwn k xs'.length v')∧(xs'.length≤lim→ba w' (ν.withOwn k xs'.length v') (.row o.sz k xs'.length) v'):=by
 obtain⟨v0,fu,a6,bB,bS,c1⟩:=h.good.own k o ab;rw[aJ]at a6;cases a6;obtain⟨c9,nF,uA⟩:=c1 xs ad;have av:la w ν w' (ν.withOwn k xs'.length v'):=by
  refine⟨fun b i bh=>⟨bh,World.cell?_of_block (mS b fun e=>by subst e;exact uA b oh i bh)⟩,fun j b _ af=>af,fun g n u _ iD=>?_,fun b i bh=>wh (mS b fun e=>by subst e;exact uA b oh i bh),fun _ _ _ _ h=>h⟩;by_cases e:g=k
  ·subst e;rw[aJ]at iD;cases iD;refine⟨xs'.length,v',by simp[bd.withOwn],?_⟩;rcases aA with⟨J,U⟩|J
   ·exact .inl ⟨J,U⟩
   ·exact .inr J
  ·exact⟨n,u,by simp[bd.withOwn,e,iD],.inl ⟨rfl,rfl⟩⟩
 have kC:∀g n u,(look g (cw k ⟨xs'.length,o.el,o.sz,some xs'⟩ st.e)).isSome→(ν.withOwn k xs'.length v').ow g=some (n,u)→∀b,u.ownBlock=some b→(look g st.e).isSome∧∃n u,ν.ow g=some (n,u)∧u.ownBlock=some b:=by
  intro g n u kf iD b ae;by_cases e:g=k
  ·subst e;simp only[bd.withOwn,if_true,dE,jj]at iD;rw[←iD.2,E8]at ae;cases ae;exact⟨by simp[ab],o.n,v,aJ,oh⟩
  ·rw[iI,if_neg (kL e)]at kf;simp only[bd.withOwn,e,if_false]at iD;exact⟨kf,n,u,iD,ae⟩
 refine⟨h.over av rfl ⟨fun b i bh=>by rw[eh];exact h.good.alt b i bh,fun j eG af=>?_,h.good.inj,fun g o' eT=>?_,fun g fe n n' u eQ b J U ao a7 bZ c6=>?_,fun g j n u b J U ao a7 bZ=>?_,fun j=>?_,fun b ae=>h.good.otr b (ae.imp id (fun⟨g,n,v,bC,a2,a3⟩=>by obtain⟨b8,ia,iM,b3,fG⟩:=kC g n v bC a2 b a3;exact⟨g,ia,iM,b8,b3,fG⟩))⟩
  ⟨zp.trans h.fr.os,JR.trans h.fr.tape,JE.trans h.fr.output,by rw[eh];exact h.fr.size,fun j af hm=>?_,fun b i bh=>?_,h.fr.fresh,h.fr.obj,h.fr.obn,fun m n u hm=>C8 (h.fr.row m n u hm) (fun n u=>av.ow _ n u trivial),h.fr.obr,h.fr.trd,fun k j b ae=>⟨(h.fr.trb k j b ae).1,by rw[eh];exact(h.fr.trb k j b ae).2⟩,fun bM j b ae=>?_,fun b o bh=>(av.sh b o (h.fr.keep b o bh).1).trans (h.fr.sh b o bh)⟩ (fun m hm=>?_),av,?_⟩
 ·obtain⟨b,cj,fR,g1,g2,g3,g4,g5⟩:=h.good.box j eG af;have cF:b≠bl:=fun e=>h.good.obx k j o.n _ bl (by simp[ab]) (by simp[af]) aJ oh (by rw[←e];exact g1);exact⟨b,cj,fR,g1,g2,g3,by rw[mS b cF];exact g4,pY av g5⟩
 ·simp only at eT;rw[iI]at eT;by_cases e:k=g
  ·rw[if_pos e]at eT;cases eT;subst e;refine⟨v',us,by simp[bd.withOwn],lq,fun b ae=>?_,fun ys aM=>?_⟩
   ·rw[E8]at ae;cases ae;exact⟨(bS bl oh).1,fun j bh=>absurd bh (uA bl oh j)⟩
   ·simp only[dE]at aM;subst aM;exact⟨rfl,Aq av aw,fun b ae=>by rw[E8]at ae;cases ae;exact uA bl oh⟩
  ·rw[if_neg e]at eT;obtain⟨v0,fu,ak,aC,bj,dd⟩:=h.good.own g o' eT;have cF:∀b,v0.ownBlock=some b→b≠bl:=fun b ae Il=>e (h.good.oinj k g o.n o'.n _ v0 bl (by simp[ab]) (by simp[eT]) aJ ak oh (by rw[←Il];exact ae));refine⟨v0,fu,by simp[bd.withOwn,kL e,ak],⟨aC.1,?_⟩,bj,rO av (fun _ _ _ h=>h) dd⟩;rcases aC.2 with aC|⟨bb,Ec,l5,f1,f2,f3,f4⟩
   ·exact .inl aC
   ·exact .inr ⟨bb,Ec,l5,f1,f2,by rw[mS bb (cF bb (by rw[f1];rfl))];exact f3,f4⟩
 ·obtain⟨bC,ia,iM,a2,a3⟩:=kC g n u J ao b bZ;obtain⟨b8,gg,ji,b3,fG⟩:=kC fe n' eQ U a7 b c6;exact h.good.oinj g fe ia gg iM ji b bC b8 a2 b3 a3 fG
 ·obtain⟨bC,ia,iM,a2,a3⟩:=kC g n u J ao b a7;exact h.good.obx g j ia iM b bC U a2 a3 bZ
 ·by_cases e:j=k
  ·subst e;rcases h.good.one j with J|J
   ·exact .inl J
   ·rw[J]at aJ;cases aJ
  ·rcases h.good.one j with J|J
   ·exact .inl J
   ·exact .inr (by simp[bd.withOwn,e,J])
 ·rw[mS j fun e=>by subst e;exact(bS j oh).1.elim hm (fun g2=>by omega)];exact h.fr.block j af hm
 ·obtain⟨aZ,bI⟩:=h.fr.keep b i bh;exact⟨aZ,(av.A b i aZ).2.trans bI⟩
 ·obtain⟨t1,t2⟩:=h.fr.trn bM j b ae;have cF:bM≠k:=fun e=>by subst e;rw[t2]at aJ;cases aJ
  exact⟨t1,by simp[bd.withOwn,cF,t2]⟩
 ·obtain⟨aZ,bI,ck⟩:=h.new m hm;refine⟨aZ,?_,ck⟩;have:m≠k:=fun e=>by subst e;rw[bI]at aJ;cases aJ
  simp[bd.withOwn,this,bI]
 ·intro eI;simp only[ba];obtain⟨cap,Jo⟩:=UX lq E8;exact⟨⟨bl,cap,Jo⟩,eI,xs'.length,v',by simp[bd.withOwn],eV _,fun _=>rfl⟩
theorem cT.inPlace{C:fc}{st:bp}{a:Act}{w:World}{ν:bd}(h:cT C st a w ν){k:aD}{o:fM}(ab:look k st.e=some o){bl cap:Nat}{cur:Array Value}(aJ:ν.ow k=some (o.n,.slice (some ⟨bl,0,none⟩) o.n cap))
  (xd:w.heap[bl]? =some (.cells cur o.el (0,0))) (za:cap≤maxLen) (eh:cur.size=cap*o.sz) {xs ys:List ah} {us ns:List Value} (ju:xs.length=o.n) (qv:cur.toList.take (o.n*o.sz)=us) (aw:dx w ν o.sz xs us) (zc:dx w ν o.sz ys ns)
  (fq:0<ys.length) (rn:o.n+ys.length≤cap) (eI:xs.length+ys.length≤lim):
  cT C {st with e:=cw k ⟨o.n+ys.length,o.el,o.sz,none⟩ st.e} a (w.setRow bl (us++ns++cur.toList.drop (o.n*o.sz+ns.length)).toArray)
   (ν.withRowOf k (.slice (some ⟨bl,0,none⟩) (o.n+ys.length) cap) (o.n+ys.length) ((o.n+ys.length)*o.sz))∧
  ba (w.setRow bl (us++ns++cur.toList.drop (o.n*o.sz+ns.length)).toArray) (ν.withRowOf k (.slice (some ⟨bl,0,none⟩) (o.n+ys.length) cap) (o.n+ys.length) ((o.n+ys.length)*o.sz))
   (.slice o.sz (.own k) (xs++ys)) (.slice (some ⟨bl,0,none⟩) (o.n+ys.length) cap):=by
 have js:=sX zc;have rr:=sX aw;rw[ju]at rr;have hmul:(o.n+ys.length)*o.sz≤cap*o.sz:=Nat.mul_le_mul_right _ rn;rw[pw]at hmul;obtain⟨v0,fu,a6,bB,bS,_⟩:=h.good.own k o ab;rw[aJ]at a6;cases a6;obtain⟨c1,c9⟩:=bS bl rfl;generalize zy:w.setRow bl (us++ns++cur.toList.drop (o.n*o.sz+ns.length)).toArray=w';have mS:∀j,j≠bl→w'.heap[j]? =w.heap[j]?:=fun j af=>by rw[←zy];exact setRow_other w bl j _ af
 have kg:w'.heap[bl]? =some (.cells (us++ns++cur.toList.drop (o.n*o.sz+ns.length)).toArray o.el (0,0)):=by rw[←zy];exact setRow_heap w bl cur _ o.el _ xd
 have JN:w'.heap.size=w.heap.size:=by rw[←zy];exact setRow_size w bl _
 have qo:∀j,j<o.n*o.sz→w'.cell? ⟨bl,j,none⟩=w.cell? ⟨bl,j,none⟩:=by intro j af;simp only[World.cell?,kg,xd,l0,gT,if_false];rw[List.getElem?_toArray,List.append_assoc,List.getElem?_append_left (by omega),←qv,List.getElem?_take,if_pos af];simp
 have av:la w ν w' (ν.withRowOf k (.slice (some ⟨bl,0,none⟩) (o.n+ys.length) cap) (o.n+ys.length) ((o.n+ys.length)*o.sz)):=by
  refine⟨fun b j bh=>⟨.inl bh,?_⟩,fun j b _ af=>af,fun g n u _ iD=>?_,fun b j bh=>?_,fun _ _ _ _ h=>h⟩;rotate_left 2
  ·by_cases e:b=bl
   ·subst e;simp only[shape,kg,xd,List.size_toArray,oI,r4,Array.length_toList];congr 2;omega
   ·exact wh (mS b e)
  ·by_cases e:b=bl
   ·subst e;exact qo j (c9 j bh)
   ·exact World.cell?_of_block (mS b e)
  ·by_cases e:g=k
   ·subst e;rw[aJ]at iD;cases iD;exact⟨o.n+ys.length,.slice (some ⟨bl,0,none⟩) (o.n+ys.length) cap,by simp[bd.withRowOf],.inr (by omega)⟩
   ·exact⟨n,u,by simp[bd.withRowOf,e,iD],.inl ⟨rfl,rfl⟩⟩
 have kC:∀g,(look g (cw k ⟨o.n+ys.length,o.el,o.sz,none⟩ st.e)).isSome→g=k∨(g≠k∧(look g st.e).isSome∧(ν.withRowOf k (.slice (some ⟨bl,0,none⟩) (o.n+ys.length) cap) (o.n+ys.length) ((o.n+ys.length)*o.sz)).ow g=ν.ow g):=by
  intro g kf;by_cases e:g=k
  ·exact .inl e
  ·rw[iI,if_neg (kL e)]at kf;exact .inr ⟨e,kf,by simp[bd.withRowOf,e]⟩
 have ao0:bl<w.heap.size:=(Array.getElem?_eq_some_iff.1 xd).1;have ad7:∀j u,(us++ns)[j]? =some u→w'.cell? ⟨bl,j,none⟩=some u:=by intro j u af;have zj:=(fw.1 af).1;simp only[World.cell?,kg,l0,gT,if_false];rw[List.getElem?_toArray,List.getElem?_append_left zj];exact af
 refine⟨h.over av rfl ⟨fun b j bh=>?_,fun j eG af=>?_,h.good.inj,fun g o' eT=>?_,fun g fe n n' u eQ b J U ao a7 bZ c6=>?_,fun g j n u b J U ao a7 bZ=>?_,fun j=>?_,fun b ae=>h.good.otr b ?_⟩
  ⟨by rw[←zy];exact h.fr.os,by rw[←zy];exact h.fr.tape,by rw[←zy];exact h.fr.output,by rw[JN];exact h.fr.size,fun j af hm=>?_,fun b j bh=>?_,fun b j bh=>?_,h.fr.obj,h.fr.obn,fun m n u hm=>C8 (h.fr.row m n u hm) (fun n u=>av.ow _ n u trivial),h.fr.obr,h.fr.trd,fun k j b ae=>⟨(h.fr.trb k j b ae).1,by rw[JN];exact(h.fr.trb k j b ae).2⟩,fun bM j b ae=>?_,fun b o bh=>(av.sh b o (h.fr.keep b o bh).1).trans (h.fr.sh b o bh)⟩ (fun m hm=>?_),?_⟩
 ·rw[JN];rcases bh with bh|⟨bh,_⟩
  ·exact h.good.alt b j bh
  ·simp only[nP,dE]at bh;omega
 ·obtain⟨b,cj,fR,g1,g2,g3,g4,g5⟩:=h.good.box j eG af;have cF:b≠bl:=fun e=>h.good.obx k j o.n _ bl (by simp[ab]) (by simp[af]) aJ rfl (by rw[←e];exact g1);refine⟨b,cj,fR,g1,g2,fun i bh=>?_,by rw[mS b cF];exact g4,pY av g5⟩;rcases bh with bh|⟨bh,_⟩
  ·exact g3 i bh
  ·simp only[nP,dE]at bh;exact cF bh.symm
 ·simp only at eT;rw[iI]at eT;by_cases e:k=g
  ·rw[if_pos e]at eT;cases eT;subst e;refine⟨.slice (some ⟨bl,0,none⟩) (o.n+ys.length) cap,us++ns,by simp[bd.withRowOf],⟨by rw[oI,rr,js,pw],.inr ⟨bl,cap,_,rfl,Nat.zero_le _,kg,rn,za,?_,?_⟩⟩,fun b ae=>⟨?_,fun j bh=>?_⟩,fun ys aM=>by cases aM⟩
   ·simp only[List.size_toArray,oI,r4,Array.length_toList];omega
   ·have ar:(us++ns).length=(o.n+ys.length)*o.sz:=by rw[oI,rr,js,pw]
    simp only[←ar];rw[List.take_append_of_le_length (eV _),k6]
   ·simp only[nP,dE]at ae;subst ae;exact c1
   ·simp only[nP,dE]at ae;subst ae;rcases bh with bh|⟨_,bh⟩
    ·have:=c9 j bh;simp only;rw[pw];omega
    ·exact bh
  ·rw[if_neg e]at eT;obtain⟨v0,fu,ak,aC,bj,dd⟩:=h.good.own g o' eT;have cF:∀b,v0.ownBlock=some b→b≠bl:=fun b ae Il=>e (h.good.oinj k g o.n o'.n _ v0 bl (by simp[ab]) (by simp[eT]) aJ ak rfl (by rw[←Il];exact ae));have ve:∀b,v0.ownBlock=some b→∀j,(ν.withRowOf k (.slice (some ⟨bl,0,none⟩) (o.n+ys.length) cap) (o.n+ys.length) ((o.n+ys.length)*o.sz)).A b j→ν.A b j:=fun b ae j bh=>by
    rcases bh with bh|⟨bh,_⟩
    ·exact bh
    ·simp only[nP,dE]at bh;exact absurd bh.symm (cF b ae)
   refine⟨v0,fu,by simp[bd.withRowOf,kL e,ak],⟨aC.1,?_⟩,fun b ae=>⟨(bj b ae).1,fun j bh=>(bj b ae).2 j (ve b ae j bh)⟩,rO av ve dd⟩;rcases aC.2 with aC|⟨bb,Ec,l5,f1,f2,f3,f4⟩
   ·exact .inl aC
   ·exact .inr ⟨bb,Ec,l5,f1,f2,by rw[mS bb (cF bb (by rw[f1];rfl))];exact f3,f4⟩
 ·rcases kC g J with rfl|⟨ia,gg,iV⟩<;>rcases kC fe U with rfl|⟨m1,m2,m3⟩
  ·rfl
  ·exfalso;simp only[bd.withRowOf,if_true,dE,jj]at ao;rw[m3]at a7;rw[←ao.2]at bZ;simp only[nP,dE]at bZ;subst bZ;exact m1 (h.good.oinj fe g n' o.n eQ _ bl m2 (by simp[ab]) a7 aJ c6 rfl)
  ·exfalso;simp only[bd.withRowOf,if_true,dE,jj]at a7;rw[iV]at ao;rw[←a7.2]at c6;simp only[nP,dE]at c6;subst c6;exact ia (h.good.oinj g fe n o.n u _ bl gg (by simp[ab]) ao aJ bZ rfl)
  ·rw[iV]at ao;rw[m3]at a7;exact h.good.oinj g fe n n' u eQ b gg m2 ao a7 bZ c6
 ·rcases kC g J with rfl|⟨ia,gg,iV⟩
  ·simp only[bd.withRowOf,if_true,dE,jj]at ao;rw[←ao.2]at a7;simp only[nP,dE]at a7;subst a7;exact h.good.obx g j o.n _ bl (by simp[ab]) U aJ rfl bZ
  ·rw[iV]at ao;exact h.good.obx g j n u b gg U ao a7 bZ
 ·by_cases e:j=k
  ·subst e;rcases h.good.one j with J|J
   ·exact .inl J
   ·rw[J]at aJ;cases aJ
  ·rcases h.good.one j with J|J
   ·exact .inl J
   ·exact .inr (by simp[bd.withRowOf,e,J])
 ·rcases ae with ae|⟨g,n,u,bC,a2,a3⟩
  ·exact .inl ae
  ·rcases kC g bC with rfl|⟨ia,gg,iV⟩
   ·simp only[bd.withRowOf,if_true,dE,jj]at a2;rw[←a2.2]at a3;exact .inr ⟨g,_,_,by simp[ab],aJ,a3⟩
   ·exact .inr ⟨g,n,u,gg,by rw[←iV];exact a2,a3⟩
 ·rw[mS j fun e=>by subst e;exact c1.elim hm (fun g2=>by omega)];exact h.fr.block j af hm
 ·obtain⟨aZ,bI⟩:=h.fr.keep b j bh;exact⟨.inl aZ,(av.A b j aZ).2.trans bI⟩
 ·rcases bh with bh|⟨bh,_⟩
  ·exact h.fr.fresh b j bh
  ·simp only[nP,dE]at bh;subst bh;exact .inr c1
 ·obtain⟨t1,t2⟩:=h.fr.trn bM j b ae;have cF:bM≠k:=fun e=>by subst e;rw[t2]at aJ;cases aJ
  exact⟨t1,by simp[bd.withRowOf,cF,t2]⟩
 ·obtain⟨aZ,bI,ck⟩:=h.new m hm;refine⟨aZ,?_,ck⟩;have:m≠k:=fun e=>by subst e;rw[bI]at aJ;cases aJ
  simp[bd.withRowOf,this,bI]
 ·simp only[ba];refine⟨⟨some ⟨bl,0,none⟩,cap,by simp[ju],by simp;omega,⟨za,by simpa using eI⟩,.inr ⟨bl,0,us++ns,rfl,Km _ 0 fun j u af=>?_,C1 (Aq av aw) (Aq av zc)⟩⟩,fun e=>(by cases e),fun g e=>?_,fun _ _ e=>(by cases e),fun _ e=>(by cases e)⟩
  ·have zj:=(fw.1 af).1;rw[Nat.zero_add];refine⟨.inr ⟨rfl,?_⟩,ad7 j u af⟩;rw[oI,rr,js]at zj;rw[pw];exact zj
  ·cases e;exact⟨o.n+ys.length,.slice (some ⟨bl,0,none⟩) (o.n+ys.length) cap,by simp[bd.withRowOf],by simp[ju],fun _=>rfl⟩
theorem GG{P:cB}{w:World}{t ty e:fV}{i:TypeInfo}(aL:P.underlying t=some (.slice e))(hi:P.info? e=some i)(b:aY Addr)(n cap:Nat)(aA:n≤cap)(x:aY Addr)(c:Nat):
  (Builtin.append_ #[t,t] ty #[.slice b n cap,.slice x 0 c]).run P w= .ok (.slice b n cap) w:=by
 cases b<;>cases x<;>simp[Builtin.append_,run_underlying aL,sizeOf,typeInfo,hi,Builtin.lenOf,aA,Builtin.firstCells,loadCells,loadCellsFrom,storeCells]
inductive ek where
 |v (d:Nat) (i:fP)
 |box (d:Nat) (key:aY Nat) (x:dr)
 |alloc (d:Nat) (key:aY Nat) (zero:ah)
 |store (sz:Nat) (x y:dr)
 |bsl (d:Nat) (sz el:Nat) (xs:List dr)
 |app (d:Nat) (sz el:Nat) (x y:dr)
 |bslm (d:Nat) (key:aY Nat) (sz el:Nat) (xs:List dr)
 |appm (d:Nat) (key:aY Nat) (sz el:Nat) (x y:dr)
 |mkmap (d:Nat) (key:aY Nat)
 |mput (ca:jl) (x k v:dr)
 |range (d:Nat) (key:aY Nat) (x:dr)
 |storeE (sz:Nat) (x y:dr)
 |mks (d:Nat) (key:aY Nat) (sz el:Nat) (z:ah) (x:dr)
def jy(st:bp):aY Nat→aD
 |none=>.loc st.n
 |some m=>.obj m
def pR(st:bp):aY Nat→Prop
 |none=>.loc st.n∉st.o
 |some m=>.obj m∉st.o
def mY(st:bp):aY Nat→Nat
 |none=>st.n+1
 |some _=>st.n
def mZ(st:bp):aY Nat→List aD
 |none=>st.o
 |some m=>.obj m::st.o
theorem vQ{st:bp}{key:aY Nat}(h:pR st key):fresh st.n st.o (jy st key):=by cases key<;>simp[jy,fresh,pR]at h⊢ <;>exact h
theorem vR{st:bp}{key:aY Nat}:∀j,fresh (mY st key) (mZ st key) j→fresh st.n st.o j∧j≠jy st key:=by
 intro j af;cases key<;>cases j<;>simp[fresh,mY,mZ,jy]at af⊢
 ·exact⟨⟨by omega,af.2⟩,by omega⟩
 ·exact af
 ·exact af
 ·exact⟨af.2,af.1⟩
def sb(sz:Nat):List ah→Prop
 |[]=>True
 |p::cu=>(dY p=true∧(cells p).length=sz)∧sb sz cu
def ou(ca:jl)(k v:ah):List ah→aY (List ah)
 | .hdm clock borns::kvs=>if ue ca k=false then none else match uu ca k v kvs with
  |some (some vL)=>some (.hdm clock borns::vL)
  |some none=>some (.hdm (clock+1) (borns++[clock])::(kvs++[k,v]))
  |none=>none
 |_=>none
def wb(m:aD):List ah→aY (List ah)
 | .hdm clock _::_=>some [.hdi clock [] clock,.gmap m]
 |_=>none
def sc(st:bp)(sz el:Nat)(x y:ah):aY ((aY (aD×List ah))×List ah):=
 match x,y with
 | .slice dD .nil _,.slice iZ _ ys=>if dD=sz∧iZ=sz then some (none,ys)else none
 | .row dD k n,.slice iZ _ ys=>if dD=sz∧iZ=sz then
   match look k st.e with
   |some ⟨n',fR,wk,some xs⟩=>if n'=n∧fR=el∧wk=sz then some (some (k,xs),ys)else none
   |_=>none
  else none
 |_,_=>none
def mu:ah→Nat→List ah→ah
 | .agg eG,f,cs=>.agg (nH eG f cs)
 |_,_,[q]=>q
 |_,_,_=>.junk
def qI(st:bp)(sz:Nat)(p v:ah):aY (Prop×bp):=
 match p with
 | .rptr dD k n i f=>match look k st.e with
  |some ⟨n',el,iZ,some xs⟩=>if n'=n∧iZ=dD then
    match xs[i]? with
    |some q=>some (dY q=true∧dY v=true∧(cells v).length=sz∧f+sz≤(cells q).length∧0<sz,{st with e:=cw k ⟨n',el,iZ,some (xs.set i (mu q f (cells v)))⟩ st.e})
    |none=>none
   else none
  |_=>none
 |_=>none
def lW(st:bp):ek→aY (Prop×bp)
 | .mks d key sz el z x=>match cm st.t x with
  | .int _ n=>some (pR st key∧0≤n∧n≤lim,
    {t:=put d (.row sz (jy st key) n.toNat) st.t,b:=st.b,e:=cw (jy st key) ⟨n.toNat,el,sz,some (qP n.toNat z)⟩ st.e,n:=mY st key,o:=mZ st key})
  |_=>none
 | .bslm d key sz el xs=>some (pR st key∧sb sz (xs.map (cm st.t)),
   {t:=put d (.row sz (jy st key) xs.length) st.t,b:=st.b,e:=cw (jy st key) ⟨xs.length,el,sz,some (xs.map (cm st.t))⟩ st.e,n:=mY st key,o:=mZ st key})
 | .appm d key sz el x y=>match sc st sz el (cm st.t x) (cm st.t y)with
  |some (none,ys)=>some (pR st key∧ys.length≤lim∧ys≠[],
    {t:=put d (.row sz (jy st key) ys.length) st.t,b:=st.b,e:=cw (jy st key) ⟨ys.length,el,sz,some ys⟩ st.e,n:=mY st key,o:=mZ st key})
  |some (some (k,xs),ys)=>some (xs.length+ys.length≤lim,{st with t:=put d (.row sz k (xs.length+ys.length)) st.t,e:=cw k ⟨xs.length+ys.length,el,sz,some (xs++ys)⟩ st.e})
  |none=>none
 | .mkmap d key=>some (pR st key,{t:=put d (.gmap (jy st key)) st.t,b:=cw (jy st key) [.hdm 0 []] st.b,e:=st.e,n:=mY st key,o:=mZ st key})
 | .mput ca x k v=>match cm st.t x with
  | .gmap m=>match look m st.b with
   |some cs=>match ou ca (cm st.t k) (cm st.t v) cs with
    |some cs'=>some (True,{st with b:=cw m cs' st.b})
    |none=>none
   |none=>none
  |_=>none
 | .range d key x=>match cm st.t x with
  | .gmap m=>match look m st.b with
   |some cs=>match wb m cs with
    |some cs'=>some (pR st key,{t:=put d (.ptr (jy st key) 0) st.t,b:=cw (jy st key) cs' st.b,e:=st.e,n:=mY st key,o:=mZ st key})
    |none=>none
   |none=>none
  |_=>none
 | .v d i=>match hg st i with
  |some (c,p)=>some (c,{st with t:=put d p st.t})
  |none=>none
 | .storeE sz x y=>qI st sz (cm st.t x) (cm st.t y)
 | .box d key x=>some (pR st key∧dY (cm st.t x)=true,
   {t:=put d (.ptr (jy st key) 0) st.t,b:=cw (jy st key) (cells (cm st.t x)) st.b,e:=st.e,n:=mY st key,o:=mZ st key})
 | .alloc d key z=>some (pR st key,{t:=put d (.ptr (jy st key) 0) st.t,b:=cw (jy st key) (cells z) st.b,e:=st.e,n:=mY st key,o:=mZ st key})
 | .store sz x y=>match cm st.t x with
  | .ptr k off=>match look k st.b with
   |some cs=>some (gn cs=true∧dY (cm st.t y)=true∧(cells (cm st.t y)).length=sz∧off+sz≤cs.length,{st with b:=cw k (nH cs off (cells (cm st.t y))) st.b})
   |none=>none
  |p=>qI st sz p (cm st.t y)
 | .bsl d sz el xs=>some (pR st none∧sb sz (xs.map (cm st.t)),
   {st with t:=put d (.slice sz (.own (.loc st.n)) (xs.map (cm st.t))) st.t,e:=cw (.loc st.n) ⟨xs.length,el,sz,none⟩ st.e,n:=st.n+1})
 | .app d sz el x y=>match cm st.t x,cm st.t y with
  | .slice dD tag xs,.slice iZ _ ys=>if dD=sz∧iZ=sz then
    match tag with
    | .own k=>match look k st.e with
     |some o=>some (o.n=xs.length∧o.el=el∧o.sz=sz∧xs.length+ys.length≤lim,
       {st with t:=put d (.slice sz (.own k) (xs++ys)) st.t,e:=cw k ⟨xs.length+ys.length,el,sz,none⟩ st.e})
     |none=>none
    | .nil=>some (pR st none∧ys.length≤lim,{st with t:=put d (.slice sz (.own (.loc st.n)) ys) st.t,e:=cw (.loc st.n) ⟨ys.length,el,sz,none⟩ st.e,n:=st.n+1})
    |_=>none
   else none
  |_,_=>none
def eB(κ:aD)(n':Nat)(o':List aD)(st:bp):ek→aY (Prop×bp)
 | .mks d _ sz el z x=>match cm st.t x with
  | .int _ n=>some (0≤n∧n≤lim,
    {t:=put d (.row sz κ n.toNat) st.t,b:=st.b,e:=cw κ ⟨n.toNat,el,sz,some (qP n.toNat z)⟩ st.e,n:=n',o:=o'})
  |_=>none
 | .bslm d _ sz el xs=>some (sb sz (xs.map (cm st.t)),
   {t:=put d (.row sz κ xs.length) st.t,b:=st.b,e:=cw κ ⟨xs.length,el,sz,some (xs.map (cm st.t))⟩ st.e,n:=n',o:=o'})
 | .appm d _ sz el x y=>match sc st sz el (cm st.t x) (cm st.t y)with
  |some (none,ys)=>some (ys.length≤lim∧ys≠[],
    {t:=put d (.row sz κ ys.length) st.t,b:=st.b,e:=cw κ ⟨ys.length,el,sz,some ys⟩ st.e,n:=n',o:=o'})
  |some (some (k,xs),ys)=>some (xs.length+ys.length≤lim,{st with t:=put d (.row sz k (xs.length+ys.length)) st.t,e:=cw k ⟨xs.length+ys.length,el,sz,some (xs++ys)⟩ st.e})
  |none=>none
 | .mkmap d _=>some (True,{t:=put d (.gmap κ) st.t,b:=cw κ [.hdm 0 []] st.b,e:=st.e,n:=n',o:=o'})
 | .mput ca x k v=>match cm st.t x with
  | .gmap m=>match look m st.b with
   |some cs=>match ou ca (cm st.t k) (cm st.t v) cs with
    |some cs'=>some (True,{st with b:=cw m cs' st.b})
    |none=>none
   |none=>none
  |_=>none
 | .range d _ x=>match cm st.t x with
  | .gmap m=>match look m st.b with
   |some cs=>match wb m cs with
    |some cs'=>some (True,{t:=put d (.ptr κ 0) st.t,b:=cw κ cs' st.b,e:=st.e,n:=n',o:=o'})
    |none=>none
   |none=>none
  |_=>none
 | .v d i=>match hg st i with
  |some (c,p)=>some (c,{st with t:=put d p st.t})
  |none=>none
 | .storeE sz x y=>qI st sz (cm st.t x) (cm st.t y)
 | .box d _ x=>some (dY (cm st.t x)=true,{t:=put d (.ptr κ 0) st.t,b:=cw κ (cells (cm st.t x)) st.b,e:=st.e,n:=n',o:=o'})
 | .alloc d _ z=>some (True,{t:=put d (.ptr κ 0) st.t,b:=cw κ (cells z) st.b,e:=st.e,n:=n',o:=o'})
 | .store sz x y=>match cm st.t x with
  | .ptr k off=>match look k st.b with
   |some cs=>some (gn cs=true∧dY (cm st.t y)=true∧(cells (cm st.t y)).length=sz∧off+sz≤cs.length,{st with b:=cw k (nH cs off (cells (cm st.t y))) st.b})
   |none=>none
  |p=>qI st sz p (cm st.t y)
 | .bsl d sz el xs=>some (sb sz (xs.map (cm st.t)),
   {st with t:=put d (.slice sz (.own κ) (xs.map (cm st.t))) st.t,e:=cw κ ⟨xs.length,el,sz,none⟩ st.e,n:=n',o:=o'})
 | .app d sz el x y=>match cm st.t x,cm st.t y with
  | .slice dD tag xs,.slice iZ _ ys=>if dD=sz∧iZ=sz then
    match tag with
    | .own k=>match look k st.e with
     |some o=>some (o.n=xs.length∧o.el=el∧o.sz=sz∧xs.length+ys.length≤lim,
       {st with t:=put d (.slice sz (.own k) (xs++ys)) st.t,e:=cw k ⟨xs.length+ys.length,el,sz,none⟩ st.e})
     |none=>none
    | .nil=>some (ys.length≤lim,{st with t:=put d (.slice sz (.own κ) ys) st.t,e:=cw κ ⟨ys.length,el,sz,none⟩ st.e,n:=n',o:=o'})
    |_=>none
   else none
  |_,_=>none
def vV:Nat→List dr→List (Nat×Operand)→Bool
 |_,[],[]=>true
 |i,x::xs,(j,o)::os=>i==j&&ei x o&&vV (i+1) xs os
 |_,_,_=>false
def Da(N:Nat)(bz:List (Nat×dA))(i:ek)(o:Oper):Bool:=
 match i,o.op with
 | .mkmap d _,.makeMap _ none=>o.dst==some d&&decide (d<N)
 | .mput ca x k v,.mapUpdate t gR gJ pW=>o.dst==none&&(match dZ bz t with|some ⟨_,_,.map mn _,_⟩=>xH bz ca mn|_=>false)&&ei x gR&&ei k gJ&&ei v pW
 | .mput ca x k v,.insert t gR gJ pW=>o.dst==none&&(match dZ bz t with|some ⟨_,_,.map mn _,_⟩=>xH bz ca mn|_=>false)&&ei x gR&&ei k gJ&&ei v pW
 | .range d _ x,.range t gR=>o.dst==some d&&decide (d<N)&&(match dZ bz t with|some ⟨_,_,.map _ _,_⟩=>true|_=>false)&&ei x gR
 | .v d i,op=>o.dst==some d&&decide (d<N)&&Dq bz i op
 | .box d _ x,.box _ o'=>o.dst==some d&&decide (d<N)&&ei x o'
 | .alloc d _ z,.alloc el=>o.dst==some d&&decide (d<N)&&(match dZ bz el with|some f=>AS z f.zero|none=>false)
 | .store sz x y,.store t o' iW=>o.dst==none&&(match dZ bz t with|some f=>f.size==sz|none=>false)&&ei x o'&&ei y iW
 | .bsl d sz el xs,.buildSlice t len parts=>o.dst==some d&&decide (d<N)&&(match dZ bz t with|some ⟨_,_,.slice fR,_⟩=>el==fR|_=>false)&&(match dZ bz el with|some f=>f.size==sz&&decide (0<sz)|none=>false)
   &&len==xs.length&&decide (len*sz≤16777216)&&vV 0 xs parts.toList
 | .app d sz el x y,.call ⟨.builtin .append,⟨[o',iW]⟩,⟨[t,dG]⟩⟩=>o.dst==some d&&decide (d<N)&&t==dG&&(match dZ bz t with|some ⟨_,_,.slice fR,_⟩=>el==fR|_=>false)
   &&(match dZ bz el with|some f=>f.size==sz&&decide (0<sz)&&decide (f.bytes≤2048)|none=>false)&&ei x o'&&ei y iW
 | .bslm d _ sz el xs,.buildSlice t len parts=>o.dst==some d&&decide (d<N)&&(match dZ bz t with|some ⟨_,_,.slice fR,_⟩=>el==fR|_=>false)&&(match dZ bz el with|some f=>f.size==sz&&decide (0<sz)|none=>false)
   &&len==xs.length&&decide (len*sz≤16777216)&&vV 0 xs parts.toList
 | .appm d _ sz el x y,.call ⟨.builtin .append,⟨[o',iW]⟩,⟨[t,dG]⟩⟩=>o.dst==some d&&decide (d<N)&&t==dG&&(match dZ bz t with|some ⟨_,_,.slice fR,_⟩=>el==fR|_=>false)
   &&(match dZ bz el with|some f=>f.size==sz&&decide (0<sz)&&decide (f.bytes≤2048)|none=>false)&&ei x o'&&ei y iW
 | .storeE sz x y,.store t o' iW=>o.dst==none&&(match dZ bz t with|some f=>f.size==sz|none=>false)&&ei x o'&&ei y iW
 | .mks d _ sz el z x,.makeSlice t o' iW=>o.dst==some d&&decide (d<N)&&(match dZ bz t with|some ⟨_,_,.slice fR,_⟩=>el==fR|_=>false)
   &&(match dZ bz el with|some f=>f.size==sz&&decide (0<sz)&&decide (f.bytes≤2048)&&AS z f.zero|none=>false)&&ei x o'&&ei x iW
 |_,_=>false
theorem Wg{w:World}{ν:bd}{C:fc}{st:bp}{a:Act}(aK:cT C st a w ν){sz:Nat}:
  ∀(xs:List dr) (i:Nat) (os:List (Nat×Operand)) (pre:List ah) (us:Array Value) (bc:List Value),vV i xs os=true→sb sz (xs.map (cm st.t))→us.toList.take (i*sz)=bc→dx w ν sz pre bc→i=pre.length→us.size=(i+xs.length)*sz→
  ∃cj:Array Value,Instr.fill (fun i=>some (i*sz,sz)) us (os.map fun(x:Nat×Operand)=>(x.1,a.eval x.2))=some cj∧dx w ν sz (pre++xs.map (cm st.t)) cj.toList∧cj.size=us.size
 |[],i,[],pre,us,bc,_,_,aJ,h,hi,ag=>by refine⟨us,by simp[Instr.fill],?_,rfl⟩;have ar:=sX h;have:us.toList.take (i*sz)=us.toList:=hB (by simp at ag⊢;omega);rw[this]at aJ;simpa[aJ]using h
 |[],_,_::_,_,_,_,eX,_,_,_,_,_=>by simp[vV]at eX
 |_::_,_,[],_,_,_,eX,_,_,_,_,_=>by simp[vV]at eX
 |x::xs,i,(j,o)::os,pre,us,bc,eX,bD,aJ,h,hi,ag=>by
  simp only[vV,cA,dL]at eX;obtain⟨⟨rfl,J⟩,U⟩:=eX;simp only[gM,sb]at bD;obtain⟨⟨kU,hlen⟩,bD⟩:=bD;have ad:=ej aK J;have ln:=uF ad kU;have zb:=po ln;have dp:(a.eval o).cells.size=sz:=by rw[hlen]at zb;simpa using zb
  have hmul:i*sz+sz≤us.size:=by rw[ag,oJ,show i+(xs.length+1)=(i+1)+xs.length from by omega,pw,Nat.succ_mul];omega
  have xx:=IL (w:=w) (ν:=ν) (a.eval o).cells.toList 0 (i*sz) us (by simp[dp];omega);have jt:dx w ν sz (pre++[cm st.t x]) (bc++(a.eval o).cells.toList):=by refine C1 h ?_;simp only[dx];exact⟨a.eval o,[],by simp,⟨ad,dp,Au ln⟩,rfl⟩
  have pM:bc.length=i*sz:=by rw[←aJ];simp;omega
  obtain⟨cj,g1,g2,g3⟩:=Wg aK xs (i+1) os (pre++[cm st.t x]) (((a.eval o).cells.toList.zipIdx 0).foldl (fun cs (x:Value×Nat)=>cs.setIfInBounds (i*sz+x.2) x.1) us) (bc++(a.eval o).cells.toList) U bD
   (by
    rw[xx];simp only[Nat.add_zero];rw[aJ];have:(bc++(a.eval o).cells.toList).length=(i+1)*sz:=by rw[oI,pM,Nat.succ_mul];simp[dp]
    rw[←this,List.take_append_of_le_length (eV _),k6]) jt (by simp[hi])
   (by have bq:=eZ List.length xx;simp only[Array.length_toList,oI,List.length_take,r4,dp]at bq;rw[bq,ag,oJ,show i+(xs.length+1)=i+1+xs.length from by omega];rw[ag,oJ,show i+(xs.length+1)=i+1+xs.length from by omega]at hmul;omega)
  refine⟨cj,?_,by simpa using g2,?_⟩
  ·simp only[gM,Instr.fill];rw[if_neg (by simp[dp];omega),←g1];congr 1;rw[←Array.foldl_toList];simp
  ·rw[g3];have bq:=eZ List.length xx;simp only[Array.length_toList,oI,List.length_take,r4,dp]at bq;rw[bq];omega
theorem lZ{P:cB}{o:Oper}{a:Act}{w w':World}{v:Value}{K:Act→World→Prop}{Q:Exit→Act→World→Prop}(h:(execOp a.eval o).run P w= .ok (.value v) w')(ab:K (a.put o.dst v) w'):o.wp P a w K Q:=by unfold Oper.wp;rw[h];exact ab
theorem Dx{P:cB}{o:Oper}{a:Act}{w w':World}{K:Act→World→Prop}{Q:Exit→Act→World→Prop}(h:(execOp a.eval o).run P w= .ok .skip w')(ab:K (a.put o.dst undef) w'):o.wp P a w K Q:=by unfold Oper.wp;rw[h];exact ab
theorem Dr{P:cB}{w w':World}{x:Sem Value}{v:Value}(h:x.run P w= .ok v w'):(do pure (Next.value (←x)):Sem Next).run P w= .ok (.value v) w':=by simp[h]
theorem We{P:cB}{bz:List (Nat×dA)}(aL:fN P bz=true){C:fc}{st:bp}{a:Act}{w:World}{ν:bd}(aK:cT C st a w ν){t el:Nat}{f g:dA}(aH:dZ bz t=some f)(ab:f.kind= .slice el)(a8:dZ bz el=some g)
  {xs:List dr} {os:List (Nat×Operand)} (eX:vV 0 xs os=true) (eh:sb g.size (xs.map (cm st.t))) (hlen:xs.length*g.size≤16777216):
  ∃us:Array Value,(Instr.buildSlice t xs.length (os.map fun(x:Nat×Operand)=>(x.1,a.eval x.2)).toArray).run P w= .ok (.slice (some ⟨w.heap.size,0,none⟩) xs.length xs.length) (w.alloc (.cells us el))∧
   dx w ν g.size (xs.map (cm st.t)) us.toList∧us.size=xs.length*g.size:=by
 obtain⟨d,aR,eW⟩:=iL aL aH;rw[ab]at eW;obtain rfl:=sf eW;obtain⟨_,ag⟩:=uP aL a8 w;obtain⟨z,xB,apg,aph⟩:=Mw aL a8 w;have aA:¬xs.length*g.size>2 ^ 24:=by omega
 let init:Array Value:=if xs.length*g.size=0 then(Array.range (xs.length*g.size)).map ((#[]:Array Value)[· %(#[]:Array Value).size]!)else(Array.range (xs.length*g.size)).map (z.cells[· %z.cells.size]!)
 have R4:init.size=xs.length*g.size:=by simp only[init];split<;>simp
 obtain⟨cj,g1,g2,g3⟩:=Wg (a:=a) aK xs 0 os [] init [] eX eh (by simp) (by simp[dx]) rfl (by rw[R4];simp);refine⟨cj,?_,by simpa using g2,by rw[g3,R4]⟩;simp only[init]at g1;by_cases bq:xs.length*g.size=0
 ·rw[if_pos bq]at g1;rw[bq]at g1;have adJ:¬(0:Nat)>2 ^ 24:=by decide
  simp only[Instr.buildSlice,fF,run_underlying aR,fJ,ag,if_false,gq,bq,if_true,adJ,g1,newRow,run_newObj];rfl
 ·rw[if_neg bq]at g1;simp only[Instr.buildSlice,fF,run_underlying aR,fJ,ag,aA,if_false,gq,bq,xB,g1,newRow,run_newObj];rfl
theorem CE{P:cB}{w:World}{ν:bd}{ca:jl}{t:fV}(aR:tl P ca t){k v:ah}{ha MW:Value}(ab:ba w ν k ha)(aJ:ba w ν v MW):
  ∀(borns:List Nat) (kvs:List ah) (us:List Value) (i:Nat) (r:aY (List ah)),cP w ν kvs us→kvs.length=2*borns.length→uu ca k v kvs=some r→
  match r with
  |none=>hU P w ca t ha (fy borns us) i none
  |some vL=> ∃j u cj e,hU P w ca t ha (fy borns us) i (some (i+j,u))∧cP w ν vL cj∧vL.length=kvs.length∧(fy borns us)[j]? =some e∧e.key=ha∧Instr.sameBits 10000 e.key ha=true∧fy borns cj=(fy borns us).modify j (fun e=>{e with key:=ha,val:=MW})
 |[],[],us,i,r,h,_,hm=>by simp only[uu]at hm;cases hm;simp only[cP]at h;subst h;simpa[fy]using hU.nil P w ca t ha i
 |[],_::_,_,_,_,_,ar,_=>by simp at ar
 |b::eN,[],_,_,_,_,ar,_=>by simp at ar
 |b::eN,[_],_,_,_,_,ar,_=>by simp at ar;omega
 |b::eN,bM::v'::kvs,us,i,r,h,ar,hm=>by
  simp only[cP]at h;obtain⟨iM,MF,rfl,J,ji,rU,rfl,U,ao⟩:=h;simp only[uu]at hm;simp only[fy];cases br:sK ca k bM with
  |none=>simp[br]at hm
  |some bb=>
   obtain⟨s1,s2⟩:=Tp aR ab J br;simp only[br]at hm;cases bb with
   |true=>simp only[dE]at hm;subst hm;obtain⟨rfl,s3⟩:=s2 rfl;refine⟨0,ji,iM::MW::rU,⟨iM,ji,b⟩,hU.hit (e:=⟨iM,ji,b⟩) s1,?_,by simp,by simp,rfl,s3,by simp[fy]⟩;simp only[cP];exact⟨_,_,rfl,ab,_,_,rfl,aJ,ao⟩
   |false=>
    simp only at hm;have bN:=fun eF dC=>CE aR ab aJ eN kvs rU (i+1) eF ao (by simp at ar;omega) dC;split at hm
    ·rename_i eF dC;cases hm;obtain⟨j,u,cj,e,g1,g2,g3,g4,g5,g6,g7⟩:=bN _ dC;refine⟨j+1,u,iM::ji::cj,e,hU.miss (e:=⟨iM,ji,b⟩) s1 (by rw[show i+(j+1)=i+1+j from by omega];exact g1),?_,by simp[g3],by simpa using g4,g5,g6,by simp[fy,g7]⟩;simp only[cP];exact⟨_,_,rfl,J,_,_,rfl,U,g2⟩
    ·rename_i dC;cases hm;exact hU.miss (e:=⟨iM,ji,b⟩) s1 (bN _ dC)
    ·cases hm
theorem Ip:∀(borns:List Nat) (us:List Value) (b:Nat) (k v:Value),us.length=2*borns.length→fy (borns++[b]) (us++[k,v])=fy borns us++[⟨k,v,b⟩]
 |[],us,b,k,v,h=>by have:us=[]:=List.eq_nil_of_length_eq_zero (by simpa using h);subst this;simp[fy]
 |b2::eN,[],b,k,v,h=>by simp at h
 |b2::eN,[_],b,k,v,h=>by simp at h;omega
 |b2::eN,bM::v'::us,b,k,v,h=>by simp only[bP,fy,Ip eN us b k v (by simp at h;omega)]
theorem LX{w:World}{ν:bd}:∀{cu bW:List ah} {bc us:List Value},cP w ν cu bc→cP w ν bW us→cP w ν (cu++bW) (bc++us)
 |[],bW,bc,us,h,cr=>by simp only[cP]at h;subst h;simpa using cr
 |p::cu,bW,bc,us,h,cr=>by simp only[cP]at h;obtain⟨u,cj,rfl,J,U⟩:=h;simp only[bP,cP];exact⟨u,_,rfl,J,LX U cr⟩
theorem GA{w:World}{ν:bd}:∀{cu:List ah} {bc:List Value},cP w ν cu bc→bc.length=cu.length
 |[],bc,h=>by simp only[cP]at h;subst h;rfl
 |p::cu,bc,h=>by simp only[cP]at h;obtain⟨u,cj,rfl,_,U⟩:=h;simp[GA U]
theorem C9{P:cB}{w:World}{r:Nat}{o o':Obj}(ae:w.heap[r]? =some o)(aA:∀c e f,o≠ .cells c e f:=by simp):(setObj r o').run P w= .ok () {w with heap:=w.heap.setIfInBounds r o'}:=by simp only[setObj,Sem.run,ae]
def ek.makes(st:bp):ek→Bool
 | .box _ _ _| .alloc _ _ _| .bsl _ _ _ _| .bslm _ _ _ _ _| .mkmap _ _| .range _ _ _| .mks _ _ _ _ _ _=>true
 | .appm _ _ _ _ x _=>match cm st.t x with
  | .slice _ .nil _=>true
  |_=>false
 | .app _ _ _ x _=>match cm st.t x with
  | .slice _ .nil _=>true
  |_=>false
 |_=>false
theorem cT.forgetRow{C:fc}{st:bp}{a:Act}{w:World}{ν:bd}(aK:cT C st a w ν){k:aD}{ow:fM}(ab:look k st.e=some ow):cT C {st with e:=cw k ⟨ow.n,ow.el,ow.sz,none⟩ st.e} a w ν:=by
 have hZ:∀g,(look g (cw k ⟨ow.n,ow.el,ow.sz,none⟩ st.e)).isSome→(look g st.e).isSome:=fun g a8=>by
  rw[iI]at a8;split at a8
  ·rename_i e;subst e;simp[ab]
  ·exact a8
 refine⟨⟨aK.good.alt,aK.good.box,aK.good.inj,fun g o a8=>?_,fun g fe n n' v v' bl bC a2=>aK.good.oinj g fe n n' v v' bl (hZ g bC) (hZ fe a2),fun g j n v bl bC=>aK.good.obx g j n v bl (hZ g bC),aK.good.one,fun bl ae=>aK.good.otr bl (ae.imp id (fun⟨g,n,v,bC,a2⟩=>⟨g,n,v,hZ g bC,a2⟩))⟩,aK.fr,aK.defers,aK.size,aK.slot,aK.new⟩;simp only at a8;rw[iI]at a8;split at a8
 ·rename_i e;subst e;cases a8;obtain⟨v,us,a6,bB,bS,_⟩:=aK.good.own k ow ab;exact⟨v,us,a6,bB,bS,fun xs ad=>by cases ad⟩
 ·exact aK.good.own g o a8
theorem UY{w:World}{base el sz n:Nat}{v:Value}{us:List Value}(h:w.ownsRow base el sz v n us)(aA:0<n):∃b cap,v= .slice (some ⟨b,0,none⟩) n cap:=by
 rcases h.2 with⟨ak,aC⟩|⟨bb,cap,cur,f1,_⟩
 ·omega
 ·exact⟨_,_,f1⟩
theorem Gw{w:World}{ν:bd}{sz:Nat}:∀{xs:List ah} {us:List Value} {i:Nat} {q gD:ah} {eQ:Value},dx w ν sz xs us→xs[i]? =some q→ba w ν gD eQ→eQ.cells.size=sz→(∀c∈eQ.cells.toList,c.oneCell'=true)→dx w ν sz (xs.set i gD) (us.take (i*sz)++eQ.cells.toList++us.drop (i*sz+sz))
 |[],_,_,_,_,_,_,br,_,_,_=>by simp at br
 |x::xs,us,0,q,gD,eQ,h,br,aK,ag,av=>by
  simp only[dx]at h;obtain⟨u,cj,rfl,⟨J,U,ao⟩,bZ⟩:=h;have ar:u.cells.toList.length=sz:=by simpa using U
  simp only[List.set_cons_zero,dx];refine⟨eQ,cj,?_,⟨aK,ag,av⟩,bZ⟩;simp[←ar]
 |x::xs,us,i+1,q,gD,eQ,h,br,aK,ag,av=>by
  simp only[dx]at h;obtain⟨u,cj,rfl,⟨J,U,ao⟩,bZ⟩:=h;have ar:u.cells.toList.length=sz:=by simpa using U
  have bN:=Gw bZ (by simpa using br) aK ag av;simp only[List.set_cons_succ,dx];refine⟨u,_,?_,⟨J,U,ao⟩,bN⟩;have e:(i+1)*sz+sz=u.cells.toList.length+(i*sz+sz):=by rw[ar,Nat.succ_mul];omega
  rw[WJ _ _ _ _ ar,e,←List.drop_drop];simp
theorem akI{w:World}{ν:bd}{q:ah}{v:Value}(br:ba w ν q v)(ag:dY q=true){cs:List ah}{us:List Value}(aw:c4 w ν cs us){f:Nat}(aH:f+us.length≤v.cells.size)(cF:us≠[]):
  ∃v',ba w ν (mu q f cs) v'∧v'.cells.toList=v.cells.toList.take f++us++v.cells.toList.drop (f+us.length)∧v'.cells.size=v.cells.size∧∀c∈v'.cells.toList,c.oneCell'=true:=by
 have hlen:=po aw;have lg:=uF br ag;by_cases bD:∃eG,q= .agg eG
 ·obtain⟨eG,rfl⟩:=bD;simp only[ba]at br;obtain⟨bc,rfl,kE⟩:=br;simp only[oH]at aH⊢;have kg:c4 w ν (nH eG f cs) (bc.toList.take f++us++bc.toList.drop (f+us.length)):=by unfold nH;rw[hlen];exact x9 (x9 (C3 f kE) aw) (Ar _ kE)
  refine⟨.agg (bc.toList.take f++us++bc.toList.drop (f+us.length)).toArray,by simp only[mu,ba];exact⟨_,rfl,by simpa using kg⟩,by simp[oH],?_,fun c hv=>?_⟩
  ·simp[oH];omega
  ·exact Au kg c (by simpa[oH]using hv)
 ·have mM:∀cs,q≠ .agg cs:=fun cs e=>bD ⟨cs,e⟩;obtain⟨J,U⟩:=LY br ag mM;rw[U]at aH⊢;match us,cF,aw with
  |u::cj,_,aw=>
   simp at aH;obtain⟨rfl,rfl⟩:f=0∧cj=[]:=⟨by omega,List.length_eq_zero_iff.1 (by omega)⟩;match cs,aw,hlen with
   |[c],aw,_=>
    simp only[c4]at aw;obtain⟨wy,fu,ak,⟨Jg,RP⟩,_⟩:=aw;cases ak;have hu:u.cells= #[u]:=by cases u<;>first|rfl|cases RP
    have zs:mu q 0 [c]=c:=by cases q<;>first|rfl|exact absurd rfl (mM _)
    rw[zs];refine⟨u,Jg,by simp[hu],by simp[hu],fun c hv=>?_⟩;rw[hu]at hv;simp at hv;subst hv;exact RP
theorem alj{α:Type}(A us:List α)(a f sz N:Nat)(J:f+us.length≤sz)(U:a+sz≤N)(ao:N≤A.length):
  ((A.take (a+f)++us++A.drop (a+f+us.length)).toArray.toList).take N=(A.take N).take a++((((A.take N).drop a).take sz).take f++us++(((A.take N).drop a).take sz).drop (f+us.length))++(A.take N).drop (a+sz):=by
 have ak:(A.take N).take a++(((A.take N).drop a).take sz).take f=A.take (a+f):=by rw[List.take_take (i:=f),Nat.min_eq_left (show f≤sz by omega),←List.take_add,List.take_take,Nat.min_eq_left (by omega)]
 have aC:(((A.take N).drop a).take sz).drop (f+us.length)++(A.take N).drop (a+sz)=(A.take N).drop (a+f+us.length):=by
  have ar:f+us.length≤(((A.take N).drop a).take sz).length:=by simp;omega
  have e8:(A.take N).drop (a+sz)=((A.take N).drop a).drop sz:=by rw[List.drop_drop]
  rw[e8,←List.drop_append_of_le_length ar,List.take_append_drop,List.drop_drop];congr 1;omega
 have bj:(A.take N).drop (a+f+us.length)=(A.drop (a+f+us.length)).take (N-(a+f+us.length)):=by rw[List.drop_take]
 have ar:(A.take (a+f)++us).length=a+f+us.length:=by simp;omega
 simp only[List.append_assoc]at*;rw[aC,bj,←List.append_assoc (jQ a _),ak];have n5:N=(A.take (a+f)++us).length+(N-(a+f+us.length)):=by rw[ar];omega
 rw[←List.append_assoc,←List.append_assoc];conv=>lhs;rw[n5,List.take_length_add_append]
theorem cT.storeRow{P:cB}{C:fc}{st:bp}{a:Act}{w:World}{ν:bd}(h:cT C st a w ν){k:aD}{n el sz:Nat}{xs:List ah}(ab:look k st.e=some ⟨n,el,sz,some xs⟩){i f:Nat}{u:Value}(ad:ba w ν (.rptr sz k n i f) u){q:ah}(br:xs[i]? =some q)(ag:dY q=true)
  {cs:List ah} {us:List Value} (aw:c4 w ν cs us) (aH:f+us.length≤(cells q).length) (cF:us≠[]):
  ∃bl off l5,u= .pointer (some ⟨bl,off,none⟩)∧(storeCells ⟨bl,off,none⟩ us).run P w= .ok () (w.setRow bl l5)∧∃bo,cT C {st with e:=cw k ⟨n,el,sz,some (xs.set i (mu q f cs))⟩ st.e} a (w.setRow bl l5) bo:=by
 simp only[ba]at ad;obtain⟨_,hi,n',eQ,J,U,ao⟩:=ad;obtain⟨v,fu,a6,bB,bS,c1⟩:=h.good.own k _ ab;rw[J]at a6;simp only[dE,jj]at a6;obtain⟨rfl,rfl⟩:=a6;obtain⟨bl,ae,rfl⟩:=ao rfl;obtain⟨c9,nF,uA⟩:=c1 xs rfl;simp only at c9 nF;obtain⟨v,dF,fb,kG⟩:=Gu i nF br;have zb:=po (uF dF ag);have ae3:(cells q).length=sz:=by rw[←zb];simpa using fb
 have RZ:f+us.length≤sz:=by rw[←ae3];exact aH
 have hmul:i*sz+sz≤n'*sz:=by have:=Nat.mul_le_mul_right sz (show i+1≤n' from hi);rwa[Nat.succ_mul]at this
 rcases bB.2 with⟨ak,aC⟩|⟨g,cap,cur,rfl,vg,Jr,Jz,ad9,dp,SI⟩
 ·rw[ak]at ae;simp[nP]at ae
 simp only[nP,dE]at ae;subst ae;simp only at SI dp Jz Jr;have za:n'*sz≤cur.size:=by rw[dp];exact Nat.mul_le_mul_right sz Jz
 have cO:=run_storeCells_at P g (i*sz+f) el us 0 cur w Jr (by omega) (Au aw);simp only[Nat.add_zero]at cO;refine⟨g,i*sz+f,_,rfl,cO,?_⟩;generalize xd:(cur.toList.take (i*sz+f)++us++cur.toList.drop (i*sz+f+us.length)).toArray=l5;obtain⟨v',cU,ds,iK,ux⟩:=akI dF ag aw (f:=f) (by rw[fb];exact RZ) cF;have mf:=Gw nF br cU (by rw[iK,fb]) ux;have hlen:fu.length=n'*sz:=bB.1;have aeR:l5.toList.take (n'*sz)=fu.take (i*sz)++v'.cells.toList++fu.drop (i*sz+sz):=by rw[←xd,ds,kG,←SI];exact alj cur.toList us (i*sz) f sz (n'*sz) RZ hmul (by simpa using za)
 have aeb:l5.size=cap*sz:=by rw[←xd,←dp];simp;omega
 have ao8:(xs.set i (mu q f cs)).length=n':=by simp[c9]
 obtain⟨ajk,_,_⟩:=h.setRowM (w':=w.setRow g l5) ab rfl J (bl:=g) rfl (v':= .slice (some ⟨g,0,none⟩) n' cap) rfl (xs':=xs.set i (mu q f cs)) (us:=fu.take (i*sz)++v'.cells.toList++fu.drop (i*sz+sz)) (.inl ⟨by simp[c9],rfl⟩) rfl rfl rfl (fun j af=>setRow_other w g j l5 af) (setRow_size w g l5)
  ⟨by rw[sX mf],.inr ⟨g,cap,l5,by simp[c9],Nat.zero_le _,setRow_heap w g cur l5 el _ Jr,by simpa[c9]using Jz,ad9,aeb,by simpa[c9]using aeR⟩⟩ mf
 exact⟨_,by simpa[c9]using ajk⟩
theorem agy(z:Array Value)(n:Nat)(h:0<z.size):(madeCells z ((n+1)*z.size)).toList=z.toList++(madeCells z (n*z.size)).toList:=by
 apply List.ext_getElem?;intro j;rw[List.getElem?_append];have he:(n+1)*z.size=n*z.size+z.size:=by rw[pw,Nat.one_mul]
 simp only[madeCells,tg,Array.length_toList,Array.getElem?_map];by_cases af:j<z.size
 ·rw[if_pos af,Array.getElem?_range,if_pos (by omega)];simp[Nat.mod_eq_of_lt af,af]
 ·rw[if_neg af,Array.getElem?_range,Array.getElem?_range];by_cases ab:j<n*z.size+z.size
  ·rw[if_pos (by omega),if_pos (by omega)];simp only[nS];rw[←Nat.mod_eq_sub_mod (by omega)]
  ·rw[if_neg (by omega),if_neg (by omega)]
theorem T4{w:World}{ν:bd}{p:ah}{z:Value}(aK:ba w ν p z)(h:0<z.cells.size)(av:∀c∈z.cells.toList,c.oneCell'=true):∀n,dx w ν z.cells.size (qP n p) (madeCells z.cells (n*z.cells.size)).toList
 |0=>by simp[dx,madeCells]
 |n+1=>by rw[agy _ _ h];simp only[List.replicate_succ,dx];exact⟨z,_,rfl,⟨aK,rfl,av⟩,T4 aK h av n⟩
theorem jA{P:cB}{bz:List (Nat×dA)}(aL:fN P bz=true){C:fc}{st st':bp}{a:Act}{w:World}{ν:bd}(aK:cT C st a w ν){i:ek}{o:Oper}(av:Da C.N bz i o=true)
  {κ:aD} {n':Nat} {o₁:List aD} (tS:i.makes st=true→fresh st.n st.o κ) (dg:i.makes st=true→∀j,fresh n' o₁ j→fresh st.n st.o j∧j≠κ) {c:Prop} (he:eB κ n' o₁ st i=some (c,st')) (aw:c) {K:Act→World→Prop} {Q:Exit→Act→World→Prop} (c7:∀bn w' bo,cT C st' bn w' bo→K bn w'):o.wp P a w K Q:=by
 obtain⟨dst,op,type,pos,after,guard⟩:=o;unfold Da at av;dsimp only at av;split at av
 ·rename_i d key t;simp only[cA,dL,fm]at av;obtain⟨rfl,U⟩:=av;simp only[eB]at he;cases he;obtain⟨g1,g2⟩:=aK.newBox (aK.new _ (tS rfl)) (dg rfl) (cs:=[.hdm 0 []]) (us:= #[]) 0 (by simp only[iX];exact⟨by simp[cP],⟨rfl,by simp,by simp⟩⟩);refine lZ (v:= .map (some w.heap.size)) (w':=w.alloc (.map #[] 0)) ?_ (c7 _ _ _ (g1.put (d:=some d) (by simpa[jb]using U) (p:= .gmap κ) ?_))
  ·simp only[execOp,Instr.makeMap,Option.map_none,fF,run_newObj,fJ,gq];rfl
  ·simp[ba,bd.withBox]
 ·rename_i ca x k v t gR gJ pW;simp only[cA,dL]at av;obtain⟨⟨⟨⟨rfl,J⟩,U⟩,ao⟩,a7⟩:=av;have rx:=ej aK U;have uI:=ej aK ao;have yf:=ej aK a7;split at J
  ·rename_i sz kP mn o1 z aH;obtain⟨cG,hu,eW⟩:=iL aL aH;have sv:cG= .map mn o1:=by cases cG<;>simp[jU]at eW;obtain⟨rfl,rfl⟩:=eW;rfl
   subst sv;have lK:=Kg aL J;simp only[eB]at he;split at he
   ·rename_i m ad;rw[ad]at rx;simp only[ba]at rx;obtain⟨bl,b8,b3⟩:=rx;split at he
    ·rename_i cs dp;split at he
     ·rename_i cs' hm;cases he;obtain⟨ih,us,el,a6,bB,bS,c1,c9⟩:=aK.good.box m cs dp;rw[b8]at a6;cases a6;unfold ou at hm;split at hm
      ·rename_i clock borns kvs;split at hm
       ·cases hm
       rename_i vm;simp only[jz]at c1;simp only[iX]at c9;have gX:=uK (P:=P) c1;have vh:=L1 (P:=P) (w:=w) lK false uI (by simpa using vm);have bA:bl<w.heap.size:=(Array.getElem?_eq_some_iff.1 c1).1;have dB:∀(o':Obj) (cj:Array Value) (eG:List ah),(Instr.mapUpdate t (a.eval gR) (a.eval gJ) (a.eval pW)).run P w= .ok () {w with heap:=w.heap.setIfInBounds bl o'}→jz eG cj el=o'→iX w ν eG cj.toList→some eG=some cs'→
         (⟨none,.mapUpdate t gR gJ pW,type,pos,after,guard⟩:Oper).wp P a w K Q:=by
        intro o' cj eG iF B0 mf iC;cases iC;refine Dx (w':={w with heap:=w.heap.setIfInBounds bl o'}) ?_ (c7 _ _ _ (aK.setBox (w':={w with heap:=w.heap.setIfInBounds bl o'}) dp b8 (us:=cj) (el:=el) rfl rfl rfl (fun j af=>?_) (by simp) ?_ mf).1)
        ·simp only[execOp,iF,fF,fJ,gq]
        ·exact Array.getElem?_setIfInBounds_ne (kL af)
        ·rw[B0];simp[bA]
       split at hm
       ·rename_i vL tX;obtain⟨j,u,cj,e,f1,f2,f3,f4,f5,f6,f7⟩:=CE lK uI yf borns kvs us.toList 0 _ c9.1 c9.2.len tX;refine dB (.map (fy borns cj).toArray clock) cj.toArray (.hdm clock borns::vL) ?_ (by simp[jz]) (by simp only[iX];exact⟨by simpa using f2,⟨by rw[f3];exact c9.2.len,c9.2.inc,c9.2.lt⟩⟩) hm;have JQ:(Instr.keyThatStays (((fy borns us.toList).toArray[j]?.map (·.key)).getD (a.eval gJ)) (a.eval gJ)).run P w= .ok (a.eval gJ) w:=by
         have:((fy borns us.toList).toArray[j]?.map (·.key)).getD (a.eval gJ)=e.key:=by simp[f4]
         rw[this];simp[Instr.keyThatStays,f6]
        simp only[Nat.zero_add]at f1;simp only[Instr.mapUpdate,fF,run_underlying hu,fJ,b3,gX,vh,f1.run lK,gq,JQ,C9 c1];rw[f7];simp
       ·rename_i tX;have f1:=CE lK uI yf borns kvs us.toList 0 _ c9.1 c9.2.len tX;simp only at f1;have rr:us.toList.length=2*borns.length:=by rw[GA c9.1,c9.2.len]
        refine dB (.map ((fy borns us.toList).toArray.push ⟨a.eval gJ,a.eval pW,clock⟩) (clock+1)) (us.toList++[a.eval gJ,a.eval pW]).toArray (.hdm (clock+1) (borns++[clock])::(kvs++[cm st.t k,cm st.t v])) ?_ (by simp only[jz,Ip borns us.toList clock _ _ rr];simp) ?_ hm
        ·simp only[Instr.mapUpdate,fF,run_underlying hu,fJ,b3,gX,vh,f1.run lK,gq,C9 c1]
        ·simp only[iX];refine⟨LX c9.1 (by simp only[cP];exact⟨_,_,rfl,uI,_,_,rfl,yf,rfl⟩),⟨by simp[c9.2.len];omega,?_,?_⟩⟩
         ·rw[List.pairwise_append];exact⟨c9.2.inc,by simp,fun x ad y aM=>by simp at aM;subst aM;exact c9.2.lt x ad⟩
         ·intro b ae;rcases jP.1 ae with ae|ae
          ·have:=c9.2.lt b ae;omega
          ·simp at ae;omega
       ·cases hm
      ·cases hm
     ·cases he
    ·cases he
   ·cases he
  ·cases J
 ·rename_i ca x k v t gR gJ pW;simp only[cA,dL]at av;obtain⟨⟨⟨⟨rfl,J⟩,U⟩,ao⟩,a7⟩:=av;have rx:=ej aK U;have uI:=ej aK ao;have yf:=ej aK a7;split at J
  ·rename_i sz kP mn o1 z aH;obtain⟨cG,hu,eW⟩:=iL aL aH;have sv:cG= .map mn o1:=by cases cG<;>simp[jU]at eW;obtain⟨rfl,rfl⟩:=eW;rfl
   subst sv;have lK:=Kg aL J;simp only[eB]at he;split at he
   ·rename_i m ad;rw[ad]at rx;simp only[ba]at rx;obtain⟨bl,b8,b3⟩:=rx;split at he
    ·rename_i cs dp;split at he
     ·rename_i cs' hm;cases he;obtain⟨ih,us,el,a6,bB,bS,c1,c9⟩:=aK.good.box m cs dp;rw[b8]at a6;cases a6;unfold ou at hm;split at hm
      ·rename_i clock borns kvs;split at hm
       ·cases hm
       rename_i vm;simp only[jz]at c1;simp only[iX]at c9;have gX:=uK (P:=P) c1;have vh:=L1 (P:=P) (w:=w) lK false uI (by simpa using vm);have bA:bl<w.heap.size:=(Array.getElem?_eq_some_iff.1 c1).1;have dB:∀(o':Obj) (cj:Array Value) (eG:List ah),(Instr.mapUpdate t (a.eval gR) (a.eval gJ) (a.eval pW)).run P w= .ok () {w with heap:=w.heap.setIfInBounds bl o'}→jz eG cj el=o'→iX w ν eG cj.toList→some eG=some cs'→
         (⟨none,.mapUpdate t gR gJ pW,type,pos,after,guard⟩:Oper).wp P a w K Q:=by
        intro o' cj eG iF B0 mf iC;cases iC;refine Dx (w':={w with heap:=w.heap.setIfInBounds bl o'}) ?_ (c7 _ _ _ (aK.setBox (w':={w with heap:=w.heap.setIfInBounds bl o'}) dp b8 (us:=cj) (el:=el) rfl rfl rfl (fun j af=>?_) (by simp) ?_ mf).1)
        ·simp only[execOp,iF,fF,fJ,gq]
        ·exact Array.getElem?_setIfInBounds_ne (kL af)
        ·rw[B0];simp[bA]
       split at hm
       ·rename_i vL tX;obtain⟨j,u,cj,e,f1,f2,f3,f4,f5,f6,f7⟩:=CE lK uI yf borns kvs us.toList 0 _ c9.1 c9.2.len tX;refine dB (.map (fy borns cj).toArray clock) cj.toArray (.hdm clock borns::vL) ?_ (by simp[jz]) (by simp only[iX];exact⟨by simpa using f2,⟨by rw[f3];exact c9.2.len,c9.2.inc,c9.2.lt⟩⟩) hm;have JQ:(Instr.keyThatStays (((fy borns us.toList).toArray[j]?.map (·.key)).getD (a.eval gJ)) (a.eval gJ)).run P w= .ok (a.eval gJ) w:=by
         have:((fy borns us.toList).toArray[j]?.map (·.key)).getD (a.eval gJ)=e.key:=by simp[f4]
         rw[this];simp[Instr.keyThatStays,f6]
        simp only[Nat.zero_add]at f1;simp only[Instr.mapUpdate,fF,run_underlying hu,fJ,b3,gX,vh,f1.run lK,gq,JQ,C9 c1];rw[f7];simp
       ·rename_i tX;have f1:=CE lK uI yf borns kvs us.toList 0 _ c9.1 c9.2.len tX;simp only at f1;have rr:us.toList.length=2*borns.length:=by rw[GA c9.1,c9.2.len]
        refine dB (.map ((fy borns us.toList).toArray.push ⟨a.eval gJ,a.eval pW,clock⟩) (clock+1)) (us.toList++[a.eval gJ,a.eval pW]).toArray (.hdm (clock+1) (borns++[clock])::(kvs++[cm st.t k,cm st.t v])) ?_ (by simp only[jz,Ip borns us.toList clock _ _ rr];simp) ?_ hm
        ·simp only[Instr.mapUpdate,fF,run_underlying hu,fJ,b3,gX,vh,f1.run lK,gq,C9 c1]
        ·simp only[iX];refine⟨LX c9.1 (by simp only[cP];exact⟨_,_,rfl,uI,_,_,rfl,yf,rfl⟩),⟨by simp[c9.2.len];omega,?_,?_⟩⟩
         ·rw[List.pairwise_append];exact⟨c9.2.inc,by simp,fun x ad y aM=>by simp at aM;subst aM;exact c9.2.lt x ad⟩
         ·intro b ae;rcases jP.1 ae with ae|ae
          ·have:=c9.2.lt b ae;omega
          ·simp at ae;omega
       ·cases hm
      ·cases hm
     ·cases he
    ·cases he
   ·cases he
  ·cases J
 ·rename_i d key x t gR;simp only[cA,dL,fm]at av;obtain⟨⟨⟨rfl,U⟩,J⟩,ao⟩:=av;have rx:=ej aK ao;split at J
  ·rename_i sz kP mn o1 z aH;obtain⟨cG,hu,eW⟩:=iL aL aH;have sv:cG= .map mn o1:=by cases cG<;>simp[jU]at eW;obtain⟨rfl,rfl⟩:=eW;rfl
   subst sv;simp only[eB]at he;split at he
   ·rename_i m ad;rw[ad]at rx;have akN:=rx;simp only[ba]at rx;obtain⟨bl,b8,b3⟩:=rx;split at he
    ·rename_i cs dp;split at he
     ·rename_i cs' hm;cases he;obtain⟨ih,us,el,a6,bB,bS,c1,c9⟩:=aK.good.box m cs dp;rw[b8]at a6;cases a6;unfold wb at hm;split at hm
      ·rename_i clock borns kvs;cases hm;simp only[jz]at c1;have gX:=uK (P:=P) c1;obtain⟨g1,g2⟩:=aK.newBox (aK.new _ (tS rfl)) (dg rfl) (cs:=[.hdi clock [] clock,.gmap m]) (us:= #[a.eval gR]) 0 (by simp only[iX,cP];exact⟨_,_,rfl,akN,rfl⟩);have B0:jz [.hdi clock [] clock,.gmap m] #[a.eval gR] 0= .mapIter (some bl) clock #[] clock:=by simp[jz,b3]
       rw[B0]at g1 g2;refine lZ (v:= .pointer (some ⟨w.heap.size,0,none⟩)) (w':=w.alloc (.mapIter (some bl) clock #[] clock)) ?_ (c7 _ _ _ (g1.put (d:=some d) (by simpa[jb]using U) (p:= .ptr κ 0) g2))
       ·simp only[execOp];refine Dr ?_;simp only[Instr.range,fF,run_underlying hu,fJ,b3,gX,gq,run_newObj];rfl
      ·cases hm
     ·cases he
    ·cases he
   ·cases he
  ·cases J
 ·rename_i d asW;simp only[cA,dL,fm]at av;obtain⟨⟨J,U⟩,ao⟩:=av;subst J;simp only[eB]at he;split at he
  ·rename_i cq p aJ;cases he;obtain⟨v,g1,g2⟩:=alZ (o:=⟨some d,op,type,pos,after,guard⟩) aL aK ao aJ aw;refine lZ g1 (c7 _ _ ν ?_);exact aK.put (d:=some d) (by simpa[jb]using U) g2
  ·cases he
 ·rename_i d key x el o';simp only[cA,dL,fm]at av;obtain⟨⟨J,U⟩,ao⟩:=av;subst J;simp only[eB]at he;cases he;have ad:=ej aK ao;have ln:=uF ad aw;obtain⟨g1,g2⟩:=aK.newBox (aK.new _ (tS rfl)) (dg rfl) el (by rw[uz (Av ln)];exact ln);rw[uy (Av ln)]at g1 g2;refine lZ (v:= .pointer (some ⟨w.heap.size,0,none⟩)) (w':=w.alloc (.cells (a.eval o').cells el)) ?_ (c7 _ _ _ (g1.put (d:=some d) (by simpa[jb]using U) (p:= .ptr κ 0) ?_))
  ·simp only[execOp,Instr.box,newVar,newRow,fF,run_newObj,fJ,gq];rfl
  ·simpa only[ba]using g2
 ·rename_i d key z el;simp only[cA,dL,fm]at av;obtain⟨⟨J,U⟩,ao⟩:=av;subst J;simp only[eB]at he;cases he;split at ao
  ·rename_i f aH;have bE:=M4 ao;obtain⟨b1,kJ,z2,z3⟩:=Mw aL aH w;rw[←bE]at z2;obtain⟨_,ln⟩:=M3 w ν z2;obtain⟨g1,g2⟩:=aK.newBox (aK.new _ (tS rfl)) (dg rfl) el (by rw[uz (Av ln)];exact ln);rw[uy (Av ln)]at g1 g2;refine lZ (v:= .pointer (some ⟨w.heap.size,0,none⟩)) (w':=w.alloc (.cells b1.cells el)) ?_ (c7 _ _ _ (g1.put (d:=some d) (by simpa[jb]using U) (p:= .ptr κ 0) ?_))
   ·simp only[execOp,Instr.alloc,newVar,newRow,fF,kJ,run_newObj,fJ,gq];rfl
   ·simpa only[ba]using g2
  ·cases ao
 ·rename_i sz x y t o' iW;simp only[cA,dL]at av;obtain⟨⟨⟨J,U⟩,ao⟩,a7⟩:=av;subst J;split at U
  ·rename_i f aH;simp only[dL]at U;simp only[eB]at he;split at he
   ·rename_i k off ad;split at he
    ·rename_i cs dp;cases he;obtain⟨hW,bG,ch,c3⟩:=aw;have rx:=ej aK ao;rw[ad]at rx;simp only[ba]at rx;obtain⟨bl,b8,b3⟩:=rx;have lC:=ej aK a7;have uE:=uF lC bG;have uJ:=po uE;obtain⟨ih,us,el,a6,bB,bS,c1,c9⟩:=aK.good.box k cs dp;rw[b8]at a6;cases a6;rw[uy hW]at c1;rw[uz hW]at c9;have ax:=po c9;obtain⟨_,eh⟩:=uP aL aH w;have ua:(a.eval iW).cells.size=sz:=by rw[ch]at uJ;simpa using uJ
     have cO:=run_storeCells_at (P:=P) bl off el (a.eval iW).cells.toList 0 us w c1 (by simp at ax⊢;omega) (Au uE);simp only[Nat.add_zero]at cO;refine Dx (w':=w.setRow bl (us.toList.take off++(a.eval iW).cells.toList++us.toList.drop (off+(a.eval iW).cells.toList.length)).toArray) ?_ (c7 _ _ _ (aK.storeBox dp b8 hW ?_))
     ·simp only[execOp,Instr.storeAt,b3,Instr.sureAddr,storeVar,fF,gq,fJ,eh,ua,U,ne_eq,not_true_eq_false,if_false,cO]
     ·simp only[nH];rw[uJ];exact x9 (x9 (C3 off c9) uE) (Ar _ c9)
    ·cases he
   ·rename_i ad;generalize JF:cm st.t x=px at he;unfold qI at he;split at he
    ·rename_i dD k n i sl;split at he
     ·rename_i n' el iZ xs ab;split at he
      ·rename_i BZ;obtain⟨rfl,rfl⟩:=BZ;split at he
       ·rename_i q br;cases he;obtain⟨hW,bG,ch,c3,hD⟩:=aw;have rx:=ej aK ao;rw[JF]at rx;have lC:=ej aK a7;have uE:=uF lC bG;have uJ:=po uE;obtain⟨_,eh⟩:=uP aL aH w;have ua:(a.eval iW).cells.size=sz:=by rw[ch]at uJ;simpa using uJ
        obtain⟨bl,off,l5,B3,cO,bo,pJ⟩:=aK.storeRow (P:=P) ab rx br hW uE (by simpa[ua]using c3) (fun e=>by have:=eZ List.length e;simp[ua]at this;omega);refine Dx (w':=w.setRow bl l5) ?_ (c7 _ _ _ pJ);simp only[execOp,Instr.storeAt,B3,Instr.sureAddr,storeVar,fF,gq,fJ,eh,ua,U,ne_eq,not_true_eq_false,if_false,cO]
       ·cases he
      ·cases he
     ·cases he
    ·cases he
  ·cases U
 ·rename_i d sz el xs t len parts;simp only[cA,dL,fm]at av;obtain⟨⟨⟨⟨⟨⟨J,U⟩,ao⟩,a7⟩,bZ⟩,c6⟩,eg⟩:=av;subst J;subst bZ;split at ao
  ·rename_i fR aH;simp only[dL]at ao;subst ao;split at a7
   ·rename_i g a8;simp only[cA,dL,fm]at a7;obtain⟨rfl,fq⟩:=a7;simp only[eB]at he;cases he;obtain⟨us,g1,g2,g3⟩:=We aL aK aH rfl a8 eg aw c6;have lq:(w.alloc (.cells us el)).ownsRow w.heap.size el g.size (.slice (some ⟨w.heap.size,0,none⟩) xs.length xs.length) (xs.map (cm st.t)).length us.toList:=by
     refine⟨by simp[g3],.inr ⟨w.heap.size,xs.length,us,by simp,eV _,heap_alloc_new w _,by simp,?_,g3,?_⟩⟩
     ·simp only[maxLen];have:xs.length≤xs.length*g.size:=Nat.le_mul_of_pos_right _ fq;omega
     ·rw[hB];simp[g3]
    obtain⟨dF,fb⟩:=aK.newRow (k:=κ) (xs:=xs.map (cm st.t)) (.inl (aK.new _ (tS rfl))) (World.grownBy_alloc w _ none) lq g2
     (by have:xs.length≤xs.length*g.size:=Nat.le_mul_of_pos_right _ fq;simp only[lim,p6];omega) (dg rfl)
    simp only[p6]at dF fb;refine lZ (v:= .slice (some ⟨w.heap.size,0,none⟩) xs.length xs.length) (w':=w.alloc (.cells us el)) ?_ (c7 _ _ _ (dF.put (d:=some d) (by simpa[jb]using U) (p:= .slice g.size (.own κ) (xs.map (cm st.t))) fb));have bH:(parts.map fun(x:Nat×Operand)=>(x.1,a.eval x.2))=(parts.toList.map fun(x:Nat×Operand)=>(x.1,a.eval x.2)).toArray:=by apply Array.ext';simp
    simp only[execOp];refine Dr ?_;rw[←g1];congr 2
   ·cases a7
  ·cases ao
 ·rename_i d sz el x y o' iW t dG;simp only[cA,dL,fm]at av;obtain⟨⟨⟨⟨⟨⟨J,U⟩,ao⟩,a7⟩,bZ⟩,c6⟩,eg⟩:=av;subst J;subst ao;split at a7
  ·rename_i fR aH;simp only[dL]at a7;subst a7;split at bZ
   ·rename_i g a8;simp only[cA,dL,fm]at bZ;obtain⟨⟨rfl,fq⟩,hby⟩:=bZ;have rx:=ej aK c6;have lC:=ej aK eg;have ma:∀v' w',(Builtin.append_ #[t,t] type #[a.eval o',a.eval iW]).run P w= .ok v' w'→(execOp a.eval ⟨some d,.call ⟨.builtin .append,⟨[o',iW]⟩,⟨[t,t]⟩⟩,type,pos,after,guard⟩).run P w= .ok (.value v') w':=by intro v' w' iF;simp only[execOp,resolve,invoke,builtin,fF,gq,fJ,List.map_toArray,gM,mz];rw[iF];rfl
    obtain⟨ft,b9,z,ak,aC,bj,dd,gW,hI,qU,qV⟩:=(uQ aL a8).ex;obtain⟨eG,iC,eW⟩:=iL aL aH;obtain rfl:=sf eW;simp only[eB]at he;split at he
    ·rename_i dD tag xs iZ kH ys ad aM;split at he
     ·rename_i e9;obtain⟨rfl,e9⟩:=e9;subst e9;rw[ad]at rx;rw[aM]at lC;simp only[ba]at rx lC;obtain⟨⟨tw,oW,rX,cx1,⟨Qf,Qg⟩,cx4⟩,rxn,rxo,rxt⟩:=rx;obtain⟨⟨nn,ld,vy,cy1,⟨Qh,Qi⟩,cy4⟩,_⟩:=lC;split at he
      ·rename_i k;split at he
       ·rename_i ow ab;cases he;obtain⟨bG,ch,c3,hD⟩:=aw;subst ch;obtain⟨n0,wy,dF,fb,kG⟩:=rxo k rfl;obtain⟨v0,fu,a6,bB,bS,_⟩:=aK.good.own k ow ab;rw[dF]at a6;simp only[dE,jj]at a6;obtain⟨rfl,rfl⟩:=a6;have mU:a.eval o'=wy:=kG bG.symm;by_cases iS:ys=[]
        ·subst iS;rw[vy,rX]at ma;have iF:=GG (P:=P) (w:=w) (ty:=type) iC ak tw xs.length oW cx1 nn ld;refine lZ (ma _ _ (by simpa using iF)) (c7 _ _ ν ?_);have cO:{st with t:=put d (.slice ow.sz (.own k) (xs++[])) st.t,e:=cw k ⟨xs.length+([]:List ah).length,ow.el,ow.sz,none⟩ st.e}=({st with e:=cw k ⟨ow.n,ow.el,ow.sz,none⟩ st.e,t:=put d (.slice ow.sz (.own k) xs) st.t}:bp):=by simp[bG]
         rw[←c3,cO];have me:=aK.forgetRow ab;refine me.put (d:=some d) (by simpa[jb]using U) (p:= .slice ow.sz (.own k) xs) ?_;simp only[ba];rw[←c3]at cx4;exact⟨⟨tw,oW,rfl,cx1,⟨Qf,Qg⟩,cx4⟩,fun e=>(by cases e),(fun g e=>by cases e;exact⟨_,_,dF,fb,fun e=>by rw[←rX];exact kG e⟩),fun _ _ e=>(by cases e),fun _ e=>(by cases e)⟩
        ·have hyp:0<ys.length:=by cases ys<;>simp at iS⊢
         rcases cy4 with cy4|⟨kP,na,hf,rfl,xP,l6⟩
         ·exact absurd cy4 iS
         ·have js:=sX l6;have rl:∀j u,hf[j]? =some u→w.cell? ((⟨kP,na,none⟩:Addr).add j)=some u:=fun j u af=>by rw[oR];exact(uj xP af).2
          have re:(xs.length+ys.length)*ft.bytes≤140737488355328:=by
           have lh:ft.bytes≤2048:=by rw[dd];exact hby
           have o6:(xs.length+ys.length)*ft.bytes≤(xs.length+ys.length)*2048:=Nat.mul_le_mul_left _ lh;simp only[lim]at hD;omega
          have mc:xs.length+ys.length≤maxLen:=by simp only[lim]at hD;simp only[maxLen];omega
          rw[vy]at ma;have vx:fu.length=ow.n*ow.sz:=bB.1;have vB:z.cells.size=ft.size:=by rw[qV,bj]
          have BN:(∀cur,eR→cur=(0:Nat))→(∃v' w',(Builtin.append_ #[t,t] type #[a.eval o',.slice (some ⟨kP,na,none⟩) ys.length ld]).run P w= .ok v' w'∧w'.ownsRow w.heap.size ow.el ft.size v' (xs.length+ys.length) (fu++hf)∧w.grownBy w' none∧dx w ν ft.size xs fu)→
            (⟨some d,.call ⟨.builtin .append,⟨[o',iW]⟩,⟨[t,t]⟩⟩,type,pos,after,guard⟩:Oper).wp P a w K Q:=by
           intro _ cS;obtain⟨v',w',f1,f2,f3,f4⟩:=cS;have EL:dx w ν ft.size (xs++ys) (fu++hf):=C1 f4 (by rw[bj];exact l6);obtain⟨cU,ds⟩:=aK.newRow (k:=k) (xs:=xs++ys) (.inr ⟨ow,ab,by rw[bG];simp;omega⟩) f3 (by simpa using f2) EL (by simpa using hD) (n':=st.n) (o':=st.o)
            (fun j af=>⟨af,fun e=>by subst e;have:=(aK.new _ af).2.1;rw[dF]at this;cases this⟩)
           refine lZ (ma _ _ f1) (c7 _ _ ((ν.withOwn k (xs++ys).length v').withRowOf k v' (xs++ys).length ((xs++ys).length*ft.size)) ?_);have:=cU.put (d:=some d) (by simpa[jb]using U) ds;simpa[bj,eM]using this
          rcases bB.2 with⟨nb,x3⟩|⟨bl,cap,cur,nb,x3,Ae,Lj,Lk,Ll,F8⟩
          ·
           have zz:xs=[]:=List.eq_nil_of_length_eq_zero (by omega);have JT:fu=[]:=List.eq_nil_of_length_eq_zero (by rw[vx,x3];simp);subst zz;subst JT;refine BN (fun _ h=>h.elim) ?_;obtain⟨v',w',f1,f2,f3,_⟩:=run_append_own (P:=P) w w.heap.size t type ow.el ft z ft.size ft.bytes iC ak hI rfl rfl vB (by rw[bj];exact fq) (.slice none 0 0) 0 [] (World.ownsRow_nil w _ _ _)
            ⟨kP,na,none⟩ ys.length ld hf (by rw[js,bj]) rl (x8 l6) (by simpa using mc) (by simpa using re) (eV _)
           refine⟨v',w',by rw[mU,nb];exact f1,by simpa using f2,by simpa[nP]using f3,by simp[dx]⟩
          ·have aeE:lx w ν.A bl 0 fu∧dx w ν ft.size xs fu∧True:=by
            rw[mU,nb]at rX;rcases cx4 with cx4|⟨bb,aqS,MG,f1,f2,f3⟩
            ·subst cx4;have:fu=[]:=List.eq_nil_of_length_eq_zero (by rw[vx,bG];simp);subst this;exact⟨trivial,by simp[dx],trivial⟩
            ·subst f1;injection rX with vx1 vx2 vx3;injection vx1 with vx1;injection vx1 with vx1 vx4;subst vx1;subst vx4;have heq:MG=fu:=by
              apply List.ext_getElem?;intro j;have rr:MG.length=fu.length:=by rw[sX f3,vx,bG,c3]
              by_cases af:j<MG.length
              ·have J:=(uj f2 (cf af)).2;rw[Nat.zero_add]at J;have U:=bB.cells (g:=bl) (by rw[nb];rfl) j fu[j] (cf (by omega));rw[oR,Nat.zero_add,J]at U;rw[cf af,cf (by omega)];exact U
              ·rw[p5 (by omega),p5 (by omega)]
             subst heq;exact⟨f2,by rw[bj];exact f3,trivial⟩
           obtain⟨xm,oc,_⟩:=aeE;by_cases rn:xs.length+ys.length≤cap
           ·have ao3:cur.size=cap*ow.sz:=Ll;have hmul:(xs.length+ys.length)*ow.sz≤cap*ow.sz:=Nat.mul_le_mul_right _ rn;rw[pw]at hmul;have f1:=run_append_room (P:=P) w t type ow.el ft iC ak bl xs.length cap cur Ae ⟨kP,na,none⟩ ys.length ld hf (by rw[js,bj]) rl (x8 l6) rn (by rw[js,bj,←c3];omega);obtain⟨cU,ds⟩:=aK.inPlace ab (bl:=bl) (cap:=cap) (cur:=cur) (by rw[dF,←nb]) Ae Lk Ll (xs:=xs) (ys:=ys) (us:=fu) (ns:=hf) bG.symm F8 (by rw[c3,←bj];exact oc) (by rw[c3];exact l6) hyp (by rw[bG];exact rn) hD;refine lZ (v:= .slice (some ⟨bl,0,none⟩) (ow.n+ys.length) cap) (w':=w.setRow bl (fu++hf++cur.toList.drop (ow.n*ow.sz+hf.length)).toArray) (ma _ _ ?_)
             (c7 _ _ (ν.withRowOf k (.slice (some ⟨bl,0,none⟩) (ow.n+ys.length) cap) (ow.n+ys.length) ((ow.n+ys.length)*ow.sz)) ?_)
            ·rw[mU,nb,bG,f1,←F8,bG,c3,bj]
            ·have:=cU.put (d:=some d) (by simpa[jb]using U) ds;simpa[bG,c3,eM]using this
           ·refine BN (fun _ h=>h.elim) ?_;obtain⟨v',w',f1,f2,f3⟩:=run_append_arg_grows (P:=P) w t type ow.el ft z ft.size ft.bytes iC ak hI rfl rfl vB (by rw[bj];exact fq) ⟨bl,0,none⟩ xs.length cap fu (by rw[vx,bG,c3,bj])
             (fun j u af=>by rw[oR];exact(uj xm af).2) ⟨kP,na,none⟩ ys.length ld hf (by rw[js,bj]) rl (by omega) mc re
            exact⟨v',w',by rw[mU,nb,bG];exact f1,f2,f3,oc⟩
       ·cases he
      ·cases he;have EX:=rxn rfl;have zz:xs=[]:=by rw[EX]at rX;injection rX with _ aC;exact List.eq_nil_of_length_eq_zero aC.symm
       subst zz;have xt:(ek.app d g.size el x y).makes st=true:=by simp only[ek.makes,ad]
       have vB:z.cells.size=ft.size:=by rw[qV,bj]
       rw[vy,EX]at ma;have dB:∀(v':Value) (w':World) (hf:List Value),(Builtin.append_ #[t,t] type #[.slice none 0 0,.slice nn ys.length ld]).run P w= .ok v' w'→w'.ownsRow w.heap.size el g.size v' ys.length hf→w.grownBy w' none→dx w ν g.size ys hf→
         (⟨some d,.call ⟨.builtin .append,⟨[o',iW]⟩,⟨[t,t]⟩⟩,type,pos,after,guard⟩:Oper).wp P a w K Q:=by
        intro v' w' hf f1 f2 f3 f4;obtain⟨cU,ds⟩:=aK.newRow (k:=κ) (xs:=ys) (.inl (aK.new _ (tS xt))) f3 f2 f4 aw (dg xt);exact lZ (ma _ _ f1) (c7 _ _ _ (cU.put (d:=some d) (by simpa[jb]using U) ds))
       by_cases iS:ys=[]
       ·subst iS;exact dB _ w [] (GG iC ak none 0 0 (eV _) nn ld) (World.ownsRow_nil w _ _ _) (anx w _) (by simp[dx])
       ·rcases cy4 with cy4|⟨kP,na,hf,rfl,xP,l6⟩
        ·exact absurd cy4 iS
        ·have js:=sX l6;have rl:∀j u,hf[j]? =some u→w.cell? ((⟨kP,na,none⟩:Addr).add j)=some u:=fun j u af=>by rw[oR];exact(uj xP af).2
         have re:ys.length*ft.bytes≤140737488355328:=by
          have J:ft.bytes≤2048:=by rw[dd];exact hby
          have U:ys.length*ft.bytes≤ys.length*2048:=Nat.mul_le_mul_left _ J;simp only[lim]at aw;omega
         have mc:ys.length≤maxLen:=by simp only[lim]at aw;simp only[maxLen];omega
         obtain⟨v',w',f1,f2,f3,_⟩:=run_append_own (P:=P) w w.heap.size t type el ft z ft.size ft.bytes iC ak hI rfl rfl vB (by rw[bj];exact fq) (.slice none 0 0) 0 [] (World.ownsRow_nil w _ _ _)
          ⟨kP,na,none⟩ ys.length ld hf (by rw[js,bj]) rl (x8 l6) (by simpa using mc) (by simpa using re) (eV _)
         exact dB v' w' hf f1 (by rw[←bj];simpa using f2) (by simpa[nP]using f3) l6
      ·cases he
     ·cases he
    ·cases he
   ·cases bZ
  ·cases a7
 ·rename_i d key sz el xs t len parts;simp only[cA,dL,fm]at av;obtain⟨⟨⟨⟨⟨⟨J,U⟩,ao⟩,a7⟩,bZ⟩,c6⟩,eg⟩:=av;subst J;subst bZ;split at ao
  ·rename_i fR aH;simp only[dL]at ao;subst ao;split at a7
   ·rename_i g a8;simp only[cA,dL,fm]at a7;obtain⟨rfl,fq⟩:=a7;simp only[eB]at he;cases he;obtain⟨us,g1,g2,g3⟩:=We aL aK aH rfl a8 eg aw c6;have lq:(w.alloc (.cells us el)).ownsRow w.heap.size el g.size (.slice (some ⟨w.heap.size,0,none⟩) xs.length xs.length) (xs.map (cm st.t)).length us.toList:=by
     refine⟨by simp[g3],.inr ⟨w.heap.size,xs.length,us,by simp,eV _,heap_alloc_new w _,by simp,?_,g3,?_⟩⟩
     ·simp only[maxLen];have:xs.length≤xs.length*g.size:=Nat.le_mul_of_pos_right _ fq;omega
     ·rw[hB];simp[g3]
    obtain⟨dF,fb⟩:=aK.newRowM (k:=κ) (xs:=xs.map (cm st.t)) (.inl (aK.new _ (tS rfl))) (World.grownBy_alloc w _ none) lq g2
     (by have:xs.length≤xs.length*g.size:=Nat.le_mul_of_pos_right _ fq;simp only[lim,p6];omega) (dg rfl)
    simp only[p6]at dF fb;refine lZ (v:= .slice (some ⟨w.heap.size,0,none⟩) xs.length xs.length) (w':=w.alloc (.cells us el)) ?_ (c7 _ _ _ (dF.put (d:=some d) (by simpa[jb]using U) (p:= .row g.size κ xs.length) (fb ⟨_,_,rfl⟩)));have bH:(parts.map fun(x:Nat×Operand)=>(x.1,a.eval x.2))=(parts.toList.map fun(x:Nat×Operand)=>(x.1,a.eval x.2)).toArray:=by apply Array.ext';simp
    simp only[execOp];refine Dr ?_;rw[←g1];congr 2
   ·cases a7
  ·cases ao
 ·rename_i d key sz el x y o' iW t dG;simp only[cA,dL,fm]at av;obtain⟨⟨⟨⟨⟨⟨J,U⟩,ao⟩,a7⟩,bZ⟩,c6⟩,eg⟩:=av;subst J;subst ao;split at a7
  ·rename_i fR aH;simp only[dL]at a7;subst a7;split at bZ
   ·rename_i g a8;simp only[cA,dL,fm]at bZ;obtain⟨⟨rfl,fq⟩,hby⟩:=bZ;have rx:=ej aK c6;have lC:=ej aK eg;have ma:∀v' w',(Builtin.append_ #[t,t] type #[a.eval o',a.eval iW]).run P w= .ok v' w'→(execOp a.eval ⟨some d,.call ⟨.builtin .append,⟨[o',iW]⟩,⟨[t,t]⟩⟩,type,pos,after,guard⟩).run P w= .ok (.value v') w':=by intro v' w' iF;simp only[execOp,resolve,invoke,builtin,fF,gq,fJ,List.map_toArray,gM,mz];rw[iF];rfl
    obtain⟨ft,b9,z,ak,aC,bj,dd,gW,hI,qU,qV⟩:=(uQ aL a8).ex;obtain⟨eG,iC,eW⟩:=iL aL aH;obtain rfl:=sf eW;have vB:z.cells.size=ft.size:=by rw[qV,bj]
    simp only[eB]at he;split at he
    ·
     rename_i ys aJ;cases he;unfold sc at aJ;split at aJ
     ·rename_i dD xs iZ kH anp ad aM;split at aJ
      ·rename_i e9;obtain⟨rfl,e9⟩:=e9;subst e9;cases aJ;rw[ad]at rx;rw[aM]at lC;simp only[ba]at rx lC;obtain⟨⟨tw,oW,rX,cx1,⟨Qf,Qg⟩,cx4⟩,rxn,rxo,rxt⟩:=rx;obtain⟨⟨nn,ld,vy,cy1,⟨Qh,Qi⟩,cy4⟩,_⟩:=lC;have EX:=rxn trivial;have xt:(ek.appm d key g.size el x y).makes st=true:=by simp only[ek.makes,ad]
       rw[vy,EX]at ma;have dB:∀(v':Value) (w':World) (hf:List Value),(Builtin.append_ #[t,t] type #[.slice none 0 0,.slice nn ys.length ld]).run P w= .ok v' w'→w'.ownsRow w.heap.size el g.size v' ys.length hf→w.grownBy w' none→dx w ν g.size ys hf→
         (⟨some d,.call ⟨.builtin .append,⟨[o',iW]⟩,⟨[t,t]⟩⟩,type,pos,after,guard⟩:Oper).wp P a w K Q:=by
        intro v' w' hf f1 f2 f3 f4;obtain⟨cU,ds⟩:=aK.newRowM (k:=κ) (xs:=ys) (.inl (aK.new _ (tS xt))) f3 f2 f4 aw.1 (dg xt);exact lZ (ma _ _ f1) (c7 _ _ _ (cU.put (d:=some d) (by simpa[jb]using U) (ds (UY f2 (by cases ys<;>simp at aw⊢)))))
       by_cases iS:ys=[]
       ·subst iS;exact dB _ w [] (GG iC ak none 0 0 (eV _) nn ld) (World.ownsRow_nil w _ _ _) (anx w _) (by simp[dx])
       ·rcases cy4 with cy4|⟨kP,na,hf,rfl,xP,l6⟩
        ·exact absurd cy4 iS
        ·have js:=sX l6;have rl:∀j u,hf[j]? =some u→w.cell? ((⟨kP,na,none⟩:Addr).add j)=some u:=fun j u af=>by rw[oR];exact(uj xP af).2
         have re:ys.length*ft.bytes≤140737488355328:=by
          have J:ft.bytes≤2048:=by rw[dd];exact hby
          have U:ys.length*ft.bytes≤ys.length*2048:=Nat.mul_le_mul_left _ J;simp only[lim]at aw;omega
         have mc:ys.length≤maxLen:=by simp only[lim]at aw;simp only[maxLen];omega
         obtain⟨v',w',f1,f2,f3,_⟩:=run_append_own (P:=P) w w.heap.size t type el ft z ft.size ft.bytes iC ak hI rfl rfl vB (by rw[bj];exact fq) (.slice none 0 0) 0 [] (World.ownsRow_nil w _ _ _)
          ⟨kP,na,none⟩ ys.length ld hf (by rw[js,bj]) rl (x8 l6) (by simpa using mc) (by simpa using re) (eV _)
         exact dB v' w' hf f1 (by rw[←bj];simpa using f2) (by simpa[nP]using f3) l6
      ·cases aJ
     ·split at aJ
      ·split at aJ
       ·split at aJ<;>cases aJ
       ·cases aJ
      ·cases aJ
     ·cases aJ
    ·
     rename_i k xs ys aJ;cases he;unfold sc at aJ;split at aJ
     ·split at aJ<;>cases aJ
     ·rename_i dD bM n iZ kH anp ad aM;split at aJ
      ·rename_i e9;obtain⟨rfl,e9⟩:=e9;subst e9;split at aJ
       ·rename_i n' fR wk xs' ab;split at aJ
        ·rename_i tP;obtain⟨rfl,rfl,rfl⟩:=tP;cases aJ;rw[ad]at rx;rw[aM]at lC;simp only[ba]at rx lC;obtain⟨⟨bx,oW,rX⟩,rxl,n0,wy,dF,fb,kG⟩:=rx;obtain⟨⟨nn,ld,vy,cy1,⟨Qh,Qi⟩,cy4⟩,_⟩:=lC;obtain⟨v0,fu,a6,bB,bS,c1⟩:=aK.good.own k _ ab;rw[dF]at a6;simp only[dE,jj]at a6 bB;obtain⟨rfl,rfl⟩:=a6;have mU:a.eval o'=wy:=kG rfl;obtain⟨c9,nF,uA⟩:=c1 xs rfl;simp only at c9 nF;have vx:fu.length=xs.length*g.size:=by rw[c9];exact bB.1
         have ju:xs.length=n0:=c9;by_cases iS:ys=[]
         ·subst iS;rw[vy,rX]at ma;have ln:n0≤oW:=by
           rcases bB.2 with⟨nb,x3⟩|⟨bl,cap,cur,nb,x3,Ae,Lj,_⟩
           ·rw[x3];exact Nat.zero_le _
           ·rw[←mU,rX]at nb;injection nb with _ _ e;rw[e];exact Lj
          have iF:=GG (P:=P) (w:=w) (ty:=type) iC ak (some ⟨bx,0,none⟩) n0 oW ln nn ld;refine lZ (ma _ _ (by simpa using iF)) (c7 _ _ ν ?_);have hZ:∀fe,look fe (cw k ⟨n0,fR,g.size,some xs⟩ st.e)=look fe st.e:=fun fe=>by
           rw[iI];split
           ·rename_i e;subst e;rw[ab]
           ·rfl
          have me:cT C {st with e:=cw k ⟨n0,fR,g.size,some xs⟩ st.e} a w ν:=
           ⟨⟨aK.good.alt,aK.good.box,aK.good.inj,fun g o a8=>aK.good.own g o (by rw[←hZ g];exact a8),fun g fe n n' v v' bl bC a2=>aK.good.oinj g fe n n' v v' bl (by rw[←hZ g];exact bC) (by rw[←hZ fe];exact a2),
           fun g j n v bl bC=>aK.good.obx g j n v bl (by rw[←hZ g];exact bC),aK.good.one,fun bl ae=>aK.good.otr bl (ae.imp id (fun⟨g,n,v,bC,a2⟩=>⟨g,n,v,by rw[←hZ g];exact bC,a2⟩))⟩,aK.fr,aK.defers,aK.size,aK.slot,aK.new⟩
          have ao:=me.put (d:=some d) (by simpa[jb]using U) (p:= .row g.size k n0) (v:= .slice (some ⟨bx,0,none⟩) n0 oW) (by simp only[ba];exact⟨⟨_,_,rfl⟩,rxl,_,_,dF,eV _,fun _=>by rw[←rX];exact mU⟩)
          simpa[ju,eM]using ao
         ·have hyp:0<ys.length:=by cases ys<;>simp at iS⊢
          rcases cy4 with cy4|⟨kP,na,hf,rfl,xP,l6⟩
          ·exact absurd cy4 iS
          ·have js:=sX l6;have rl:∀j u,hf[j]? =some u→w.cell? ((⟨kP,na,none⟩:Addr).add j)=some u:=fun j u af=>by rw[oR];exact(uj xP af).2
           have re:(xs.length+ys.length)*ft.bytes≤140737488355328:=by
            have lh:ft.bytes≤2048:=by rw[dd];exact hby
            have o6:(xs.length+ys.length)*ft.bytes≤(xs.length+ys.length)*2048:=Nat.mul_le_mul_left _ lh;simp only[lim]at aw;omega
           have mc:xs.length+ys.length≤maxLen:=by simp only[lim]at aw;simp only[maxLen];omega
           have EL:dx w ν g.size (xs++ys) (fu++hf):=C1 nF l6;rw[vy,mU]at ma;have BN:(∃v' w',(Builtin.append_ #[t,t] type #[wy,.slice (some ⟨kP,na,none⟩) ys.length ld]).run P w= .ok v' w'∧w'.ownsRow w.heap.size fR ft.size v' (xs.length+ys.length) (fu++hf)∧w.grownBy w' none)→
             (⟨some d,.call ⟨.builtin .append,⟨[o',iW]⟩,⟨[t,t]⟩⟩,type,pos,after,guard⟩:Oper).wp P a w K Q:=by
            intro cS;obtain⟨v',w',f1,f2,f3⟩:=cS;obtain⟨cU,ds⟩:=aK.newRowM (k:=k) (xs:=xs++ys) (el:=fR) (sz:=g.size) (.inr ⟨_,ab,by simp;omega⟩) f3 (by rw[←bj];simpa using f2) EL (by simpa using aw) (n':=st.n) (o':=st.o)
             (fun j af=>⟨af,fun e=>by subst e;have:=(aK.new _ af).2.1;rw[dF]at this;cases this⟩)
            refine lZ (ma _ _ f1) (c7 _ _ (ν.withOwn k (xs++ys).length v') ?_);have:=cU.put (d:=some d) (by simpa[jb]using U) (ds (by simpa using UY f2 (by omega)));simpa[eM]using this
           rcases bB.2 with⟨nb,x3⟩|⟨bl,cap,cur,nb,x3,Ae,Lj,Lk,Ll,F8⟩
           ·
            have zz:xs=[]:=List.eq_nil_of_length_eq_zero (by omega);have JT:fu=[]:=List.eq_nil_of_length_eq_zero (by rw[vx,zz];simp);subst zz;subst JT;refine BN ?_;obtain⟨v',w',f1,f2,f3,_⟩:=run_append_own (P:=P) w w.heap.size t type fR ft z ft.size ft.bytes iC ak hI rfl rfl vB (by rw[bj];exact fq) (.slice none 0 0) 0 [] (World.ownsRow_nil w _ _ _)
             ⟨kP,na,none⟩ ys.length ld hf (by rw[js,bj]) rl (x8 l6) (by simpa using mc) (by simpa using re) (eV _)
            exact⟨v',w',by rw[nb];exact f1,by simpa using f2,by simpa[nP]using f3⟩
           ·have oh:wy.ownBlock=some bl:=by rw[nb];rfl
            by_cases rn:xs.length+ys.length≤cap
            ·have hmul:(xs.length+ys.length)*g.size≤cap*g.size:=Nat.mul_le_mul_right _ rn;rw[pw]at hmul;have f1:=run_append_room (P:=P) w t type fR ft iC ak bl xs.length cap cur Ae ⟨kP,na,none⟩ ys.length ld hf (by rw[js,bj]) rl (x8 l6) rn (by rw[js,bj];omega);generalize SK:(cur.toList.take (xs.length*ft.size)++hf++cur.toList.drop (xs.length*ft.size+hf.length)).toArray=sR at f1;have kg:(w.setRow bl sR).heap[bl]? =some (.cells sR fR (0,0)):=setRow_heap w bl cur sR fR _ Ae;have ar:(fu++hf).length=(xs++ys).length*g.size:=by rw[oI,vx,js,oI,pw]
             have bZ:cur.toList.take (xs.length*ft.size)=fu:=by rw[ju,bj];exact F8
             have kj:sR.size=cap*g.size:=by rw[←SK];simp only[List.size_toArray,oI,List.length_take,r4,Array.length_toList];rw[bj];omega
             have o8:sR.toList.take ((xs++ys).length*g.size)=fu++hf:=by rw[←SK,bZ];simp only[←ar];rw[List.take_append_of_le_length (eV _),k6]
             obtain⟨cU,_,ds⟩:=aK.setRowM (w':=w.setRow bl sR) ab rfl dF oh (v':= .slice (some ⟨bl,0,none⟩) (xs.length+ys.length) cap) rfl (xs':=xs++ys) (us:=fu++hf) (.inr (by simp;omega)) rfl rfl rfl (fun j af=>setRow_other w bl j sR af) (setRow_size w bl sR)
              ⟨ar,.inr ⟨bl,cap,sR,by simp,Nat.zero_le _,kg,by simpa using rn,Lk,kj,o8⟩⟩ EL
             replace ds:=ds (by simpa using aw);refine lZ (v:= .slice (some ⟨bl,0,none⟩) (xs.length+ys.length) cap) (w':=w.setRow bl sR) (ma _ _ ?_) (c7 _ _ (ν.withOwn k (xs++ys).length (.slice (some ⟨bl,0,none⟩) (xs.length+ys.length) cap)) ?_)
             ·rw[nb,←ju];exact f1
             ·have:=cU.put (d:=some d) (by simpa[jb]using U) ds;simpa[eM]using this
            ·refine BN ?_;obtain⟨v',w',f1,f2,f3⟩:=run_append_arg_grows (P:=P) w t type fR ft z ft.size ft.bytes iC ak hI rfl rfl vB (by rw[bj];exact fq) ⟨bl,0,none⟩ xs.length cap fu (by rw[vx,bj])
              (fun j u af=>by have:=bB.cells oh j u af;exact this) ⟨kP,na,none⟩ ys.length ld hf (by rw[js,bj]) rl (by omega) mc re
             exact⟨v',w',by rw[nb,←ju];exact f1,f2,f3⟩
        ·cases aJ
       ·cases aJ
      ·cases aJ
     ·cases aJ
    ·cases he
   ·cases bZ
  ·cases a7
 ·rename_i sz x y t o' iW;simp only[cA,dL]at av;obtain⟨⟨⟨J,U⟩,ao⟩,a7⟩:=av;subst J;split at U
  ·rename_i f aH;simp only[dL]at U;simp only[eB]at he;generalize JF:cm st.t x=px at he;unfold qI at he;split at he
   ·rename_i dD k n i sl;split at he
    ·rename_i n' el iZ xs ab;split at he
     ·rename_i BZ;obtain⟨rfl,rfl⟩:=BZ;split at he
      ·rename_i q br;cases he;obtain⟨hW,bG,ch,c3,hD⟩:=aw;have rx:=ej aK ao;rw[JF]at rx;have lC:=ej aK a7;have uE:=uF lC bG;have uJ:=po uE;obtain⟨_,eh⟩:=uP aL aH w;have ua:(a.eval iW).cells.size=sz:=by rw[ch]at uJ;simpa using uJ
       obtain⟨bl,off,l5,B3,cO,bo,pJ⟩:=aK.storeRow (P:=P) ab rx br hW uE (by simpa[ua]using c3) (fun e=>by have:=eZ List.length e;simp[ua]at this;omega);refine Dx (w':=w.setRow bl l5) ?_ (c7 _ _ _ pJ);simp only[execOp,Instr.storeAt,B3,Instr.sureAddr,storeVar,fF,gq,fJ,eh,ua,U,ne_eq,not_true_eq_false,if_false,cO]
      ·cases he
     ·cases he
    ·cases he
   ·cases he
  ·cases U
 ·rename_i d key sz el z x t o' iW;simp only[cA,dL,fm]at av;obtain⟨⟨⟨⟨⟨J,U⟩,ao⟩,a7⟩,bZ⟩,c6⟩:=av;subst J;split at ao
  ·rename_i fR aH;simp only[dL]at ao;subst ao;split at a7
   ·rename_i g a8;simp only[cA,dL,fm]at a7;obtain⟨⟨⟨rfl,fq⟩,hby⟩,bE⟩:=a7;obtain rfl:=M4 bE;have rx:=ej aK bZ;have lC:=ej aK c6;simp only[eB]at he;split at he
    ·rename_i fi n ad;cases he;obtain⟨aeN,js⟩:=aw;obtain⟨m,rfl⟩:=Int.eq_ofNat_of_zero_le aeN;rw[ad]at rx lC;simp only[ba]at rx lC;obtain⟨ft,b9,b1,ak,aC,bj,dd,gW,hI,qU,qV⟩:=(uQ aL a8).ex;obtain⟨eG,iC,eW⟩:=iL aL aH;obtain rfl:=sf eW;have mc:m≤lim:=by simp only[lim]at js⊢;omega
     have re:ft.bytes*m≤281474976710656:=by have J:ft.bytes*m≤2048*m:=Nat.mul_le_mul_right _ (by omega);simp only[lim]at mc;omega
     obtain⟨ae9,aec⟩:=M3 w ν qU;obtain⟨w',g1,g2,g3⟩:=run_make_full (P:=P) w w.heap.size t el ft b1 ft.size iC ak hI rfl fi fi m re (by simp only[maxLen];simp only[lim]at mc;omega) (eV _);have lq:w'.ownsRow w.heap.size el g.size (.slice (some ⟨w.heap.size,0,none⟩) m m) (qP m g.zero).length (madeCells b1.cells (m*b1.cells.size)).toList:=by rw[bj,←qV]at g2;rw[List.length_replicate,←qV];exact g2
     obtain⟨dF,fb⟩:=aK.newRowM (k:=κ) (xs:=qP m g.zero) (.inl (aK.new _ (tS rfl))) g3 lq (by rw[←qV];exact T4 ae9 (by omega) (Au aec) m) (by simpa using mc) (dg rfl);simp only[List.length_replicate]at dF fb;simp only[Int.toNat_natCast]at c7;refine lZ (v:= .slice (some ⟨w.heap.size,0,none⟩) m m) (w':=w') ?_ (c7 _ _ _ (dF.put (d:=some d) (by simpa[jb]using U) (p:= .row g.size κ m) (fb ⟨_,_,rfl⟩)));simp only[execOp];refine Dr ?_;rw[rx,lC];exact g1
    ·cases he
   ·cases a7
  ·cases ao
 ·cases av
theorem akP{P:cB}{bz:List (Nat×dA)}(aL:fN P bz=true){C:fc}{st st':bp}{a:Act}{w:World}{ν:bd}(aK:cT C st a w ν){i:ek}{o:Oper}(av:Da C.N bz i o=true)
  {c:Prop} (he:lW st i=some (c,st')) (aw:c) {K:Act→World→Prop} {Q:Exit→Act→World→Prop} (c7:∀bn w' bo,cT C st' bn w' bo→K bn w'):o.wp P a w K Q:=by
 have od:pR st none→fresh st.n st.o (.loc st.n):=fun h=>vQ (key:=none) h;have fp:∀j,fresh (st.n+1) st.o j→fresh st.n st.o j∧j≠ .loc st.n:=vR (key:=none);cases i with
 |v d i=>exact jA (κ:= .loc 0) (n':=0) (o₁:=[]) aL aK av (fun h=>by simp[ek.makes]at h) (fun h=>by simp[ek.makes]at h) (by simpa only[lW,eB]using he) aw c7
 |box d key x=>simp only[lW]at he;cases he;exact jA (κ:=jy st key) (n':=mY st key) (o₁:=mZ st key) aL aK av (fun _=>vQ aw.1) (fun _=>vR) (by simp only[eB]) aw.2 c7
 |alloc d key z=>simp only[lW]at he;cases he;exact jA (κ:=jy st key) (n':=mY st key) (o₁:=mZ st key) aL aK av (fun _=>vQ aw) (fun _=>vR) (by simp only[eB]) trivial c7
 |mks d key sz el z x=>
  simp only[lW]at he;split at he
  ·rename_i fi n ad;cases he;exact jA (κ:=jy st key) (n':=mY st key) (o₁:=mZ st key) aL aK av (fun _=>vQ aw.1) (fun _=>vR) (by simp only[eB,ad]) aw.2 c7
  ·cases he
 |storeE sz x y=>exact jA (κ:= .loc 0) (n':=0) (o₁:=[]) aL aK av (fun h=>by simp[ek.makes]at h) (fun h=>by simp[ek.makes]at h) (by simpa only[lW,eB]using he) aw c7
 |store sz x y=>exact jA (κ:= .loc 0) (n':=0) (o₁:=[]) aL aK av (fun h=>by simp[ek.makes]at h) (fun h=>by simp[ek.makes]at h) (by simpa only[lW,eB]using he) aw c7
 |bsl d sz el xs=>simp only[lW]at he;cases he;exact jA (κ:= .loc st.n) (n':=st.n+1) (o₁:=st.o) aL aK av (fun _=>od aw.1) (fun _=>fp) (by simp only[eB]) aw.2 c7
 |bslm d key sz el xs=>simp only[lW]at he;cases he;exact jA (κ:=jy st key) (n':=mY st key) (o₁:=mZ st key) aL aK av (fun _=>vQ aw.1) (fun _=>vR) (by simp only[eB]) aw.2 c7
 |appm d key sz el x y=>
  simp only[lW]at he;split at he
  ·rename_i ys aJ;cases he;exact jA (κ:=jy st key) (n':=mY st key) (o₁:=mZ st key) aL aK av (fun _=>vQ aw.1) (fun _=>vR) (by simp only[eB,aJ]) aw.2 c7
  ·rename_i k xs ys aJ;cases he;refine jA (κ:= .loc 0) (n':=0) (o₁:=[]) aL aK av (fun h=>?_) (fun h=>?_) (by simp only[eB,aJ]) aw c7;all_goals
    exfalso
    simp only[ek.makes]at h
    split at h
    ·rename_i ad
     unfold sc at aJ
     rw[ad]at aJ
     split at aJ
     ·split at aJ<;>cases aJ
     ·rename_i J _;cases J
     ·cases aJ
    ·cases h
  ·cases he
 |mkmap d key=>simp only[lW]at he;cases he;exact jA (κ:=jy st key) (n':=mY st key) (o₁:=mZ st key) aL aK av (fun _=>vQ aw) (fun _=>vR) (by simp only[eB]) trivial c7
 |mput ca x k v=>exact jA (κ:= .loc 0) (n':=0) (o₁:=[]) aL aK av (fun h=>by simp[ek.makes]at h) (fun h=>by simp[ek.makes]at h) (by simpa only[lW,eB]using he) aw c7
 |range d key x=>
  simp only[lW]at he;split at he
  ·rename_i m ad;split at he
   ·rename_i cs dp;split at he
    ·rename_i cs' hm;cases he;exact jA (κ:=jy st key) (n':=mY st key) (o₁:=mZ st key) aL aK av (fun _=>vQ aw) (fun _=>vR) (by simp only[eB,ad,dp,hm]) trivial c7
    ·cases he
   ·cases he
  ·cases he
 |app d sz el x y=>
  simp only[lW]at he;split at he
  ·rename_i dD tag xs iZ kH ys ad aM;split at he
   ·rename_i e9;split at he
    ·rename_i k;split at he
     ·rename_i ow ab;cases he;refine jA (κ:= .loc 0) (n':=0) (o₁:=[]) aL aK av (fun h=>by simp[ek.makes,ad]at h) (fun h=>by simp[ek.makes,ad]at h) ?_ aw c7;simp only[eB,ad,aM,e9,and_self,if_true,ab]
     ·cases he
    ·cases he;refine jA (κ:= .loc st.n) (n':=st.n+1) (o₁:=st.o) aL aK av (fun _=>od aw.1) (fun _=>fp) ?_ aw.2 c7;simp only[eB,ad,aM,e9,and_self,if_true]
    ·cases he
   ·cases he
  ·cases he
structure cE where
 b:List (aD×List ah)
 e:List (aD×fM)
def fx(ν:bd)(s:cE)(bl:Nat):Prop:=(∃k,(look k s.b).isSome∧ν.bx k=some bl)∨(∃g n v,(look g s.e).isSome∧ν.ow g=some (n,v)∧v.ownBlock=some bl)
def o2(ν:bd)(s:cE):Prop:= ∀k,(look k s.b=none→ν.bx k=none)∧(look k s.e=none→ν.ow k=none)∧∀j b,¬ν.tr k j b
def cW(s:cE):List aD:=s.b.map (·.1)++s.e.map (·.1)
def iJ(s:cE):Prop:=(∀m,look (.loc m) s.b=none)∧(∀m,look (.loc m) s.e=none)
def wD(P:cB)(f:FuncId)(bc:Array Value)(w:World)(R:Ending→World→Prop):Prop:=((∃fn,P.funcs[f]? =some fn∧fn.body.isSome=true∧(fn.name== "runtime.NumGoroutine")=false)∧Calls P f bc w R)∨ ∃v w',(callFunc f bc).run P w= .ok (.value v) w'∧R (.returned v) w'
def bF(P:cB)(f:FuncId)(args:List ah)(s:cE)(Q:ah→cE→Prop):Prop:=
 ∀(w:World) (ν:bd) (bc:Array Value),Good (fx ν s) w ν s.b s.e→o2 ν s→cP w ν args bc.toList→
  wD P f bc w fun e w'=> ∃v r ai bo,e= .returned v∧Q r ai∧ba w' bo r v∧Good (fun bl=>fx ν s bl∨w.heap.size≤bl) w' bo ai.b ai.e∧o2 bo ai∧iJ ai∧p8 ⟨w,ν,fx ν s,0,cW s⟩ w' bo
def Eo(κ:aY Nat)(ν:bd)(s:cE):Prop:= ∀k,(look k s.b=none→ν.bx k=none)∧(look k s.e=none→ν.ow k=none)∧∀j b,ν.tr k j b→∃m,κ=some m∧k= .loc m
theorem o2.k{ν:bd}{s:cE}(h:o2 ν s):Eo none ν s:=fun k=>⟨(h k).1,(h k).2.1,fun j b ae=>absurd ae ((h k).2.2 j b)⟩
def Hh(P:cB)(f:FuncId)(κ:Nat)(args:List ah)(s:cE)(Q:ah→cE→Prop):Prop:=
 ∀(w:World) (ν:bd) (bc:Array Value),Good (fx ν s) w ν s.b s.e→o2 ν s→cP w ν args bc.toList→
  wD P f bc w fun e w'=> ∃v r ai bo,e= .returned v∧Q r ai∧ba w' bo r v∧Good (fun bl=>fx ν s bl∨w.heap.size≤bl) w' bo ai.b ai.e∧Eo (some κ) bo ai∧iJ ai∧p8 ⟨w,ν,fx ν s,0,cW s⟩ w' bo
def bK(P:cB)(f:FuncId)(args:List ah)(r:ah):Prop:=bF P f args ⟨[],[]⟩ fun eF ai=>eF=r∧ai=⟨[],[]⟩
theorem sN{α:Type}{k:aD}{x:α}:∀{l:List (aD×α)},look k l=some x→(k,x)∈l
 |[],h=>by simp[look]at h
 |(i,y)::r,h=>by
  simp only[look]at h;split at h
  ·rename_i e;subst e;cases h;simp
  ·exact oK _ (sN h)
theorem sS{s:cE}{k:aD}(h:(look k s.b).isSome∨(look k s.e).isSome):k∈cW s:=by
 unfold cW;rcases h with h|h<;>obtain⟨x,ad⟩:=fL.1 h<;>have:=sN ad
 ·exact List.mem_append_left _ (iO.2 ⟨_,this,rfl⟩)
 ·exact List.mem_append_right _ (iO.2 ⟨_,this,rfl⟩)
section
open Classical
noncomputable def bd.cut(ν:bd)(S:aD→Prop):bd:={A:=ν.A,bx:=fun k=>if S k then ν.bx k else none,ow:=fun k=>if S k then ν.ow k else none,tr:=fun k j b=>S k∧ν.tr k j b}
theorem bd.cut_bx{ν:bd}{S:aD→Prop}{k:aD}(h:S k):(ν.cut S).bx k=ν.bx k:=by simp[bd.cut,h]
theorem bd.cut_ow{ν:bd}{S:aD→Prop}{k:aD}(h:S k):(ν.cut S).ow k=ν.ow k:=by simp[bd.cut,h]
theorem bd.cut_no{ν:bd}{S:aD→Prop}{k:aD}(h:¬S k):(ν.cut S).bx k=none∧(ν.cut S).ow k=none∧∀j b,¬(ν.cut S).tr k j b:=by simp[bd.cut,h]
theorem bd.cut_some{ν:bd}{S:aD→Prop}{k:aD}{b:Nat}(h:(ν.cut S).bx k=some b):S k∧ν.bx k=some b:=by
 by_cases ag:S k
 ·exact⟨ag,by rw[bd.cut_bx ag]at h;exact h⟩
 ·rw[(bd.cut_no ag).1]at h;cases h
theorem bd.cut_someO{ν:bd}{S:aD→Prop}{k:aD}{b:Nat×Value}(h:(ν.cut S).ow k=some b):S k∧ν.ow k=some b:=by
 by_cases ag:S k
 ·exact⟨ag,by rw[bd.cut_ow ag]at h;exact h⟩
 ·rw[(bd.cut_no ag).2.1]at h;cases h
theorem oP.cut(S:aD→Prop)(w:World)(ν:bd):oP S w ν w (ν.cut S):=⟨fun _ _ h=>⟨h,rfl⟩,fun k b ab h=>by rw[bd.cut_bx ab];exact h,fun g n u a8 h=>⟨n,u,by rw[bd.cut_ow a8];exact h,.inl ⟨rfl,rfl⟩⟩,fun _ _ _=>rfl,fun _ _ _ ab h=>⟨ab,h⟩⟩
end
def gE(S:aD→Prop)(b2 b:List (aD×List ah)):Prop:= ∀k cs,look k b2=some cs→look k b=some cs∧S k∧aG S cs
def oA(S:aD→Prop)(fE e:List (aD×fM)):Prop:= ∀k o,look k fE=some o→look k e=some o∧S k∧dR S o
theorem Good.cut{pr CU:Nat→Prop}{w:World}{ν:bd}{b b2:List (aD×List ah)}{e fE:List (aD×fM)}(h:Good pr w ν b e){S:aD→Prop}(ae:gE S b2 b)(he:oA S fE e)
  (Sw:∀bl,pr bl→(∃k,(look k b2).isSome∧(ν.cut S).bx k=some bl)∨(∃g n v,(look g fE).isSome∧(ν.cut S).ow g=some (n,v)∧v.ownBlock=some bl)→CU bl):Good CU w (ν.cut S) b2 fE:=by
 have EK:∀k,(look k b2).isSome→(look k b).isSome∧S k:=fun k ab=>by obtain⟨cs,dp⟩:=fL.1 ab;have:=ae k cs dp;exact⟨by simp[this.1],this.2.1⟩
 have EM:∀k,(look k fE).isSome→(look k e).isSome∧S k:=fun k ab=>by obtain⟨cs,dp⟩:=fL.1 ab;have:=he k cs dp;exact⟨by simp[this.1],this.2.1⟩
 refine⟨h.alt,fun k cs ab=>?_,fun k bM bl J U ao a7=>?_,fun g o a8=>?_,fun g fe n n' v v' bl J U ao a7 bZ c6=>?_,fun g k n v bl J U ao a7 bZ=>?_,fun k=>?_,fun bl aL k j af=>?_⟩
 ·obtain⟨g1,g2,g3⟩:=ae k cs ab;obtain⟨bl,us,el,f1,f2,f3,f4,f5⟩:=h.box k cs g1;have lj:(ν.cut S).bx k=some bl:=by rw[bd.cut_bx g2];exact f1
  exact⟨bl,us,el,lj,Sw bl f2 (.inl ⟨k,by simp[ab],lj⟩),f3,f4,VZ (oP.cut S w ν) g3 f5⟩
 ·obtain⟨bC,a2⟩:=EK k J;obtain⟨b8,b3⟩:=EK bM U;exact h.inj k bM bl bC b8 (bd.cut_some ao).2 (bd.cut_some a7).2
 ·obtain⟨g1,g2,g3⟩:=he g o a8;obtain⟨v,us,f1,f2,f3,f4⟩:=h.own g o g1;have B1:(ν.cut S).ow g=some (o.n,v):=by rw[bd.cut_ow g2];exact f1
  exact⟨v,us,B1,f2,fun bl fA=>⟨Sw bl (f3 bl fA).1 (.inr ⟨g,o.n,v,by simp[a8],B1,fA⟩),(f3 bl fA).2⟩,
   fun xs ad=>⟨(f4 xs ad).1,Gv (oP.cut S w ν) _ _ _ (g3 xs ad) (f4 xs ad).2.1,(f4 xs ad).2.2⟩⟩
 ·obtain⟨bC,a2⟩:=EM g J;obtain⟨b8,b3⟩:=EM fe U;exact h.oinj g fe n n' v v' bl bC b8 (bd.cut_someO ao).2 (bd.cut_someO a7).2 bZ c6
 ·obtain⟨bC,a2⟩:=EM g J;obtain⟨b8,b3⟩:=EK k U;exact h.obx g k n v bl bC b8 (bd.cut_someO ao).2 a7 (bd.cut_some bZ).2
 ·by_cases ag:S k
  ·rw[bd.cut_bx ag,bd.cut_ow ag];exact h.one k
  ·exact .inl (bd.cut_no ag).1
 ·refine h.otr bl ?_ k j af.2;rcases aL with⟨bM,bC,a2⟩|⟨g,n,v,bC,a2,a3⟩
  ·exact .inl ⟨bM,(EK bM bC).1,(bd.cut_some a2).2⟩
  ·exact .inr ⟨g,n,v,(EM g bC).1,(bd.cut_someO a2).2,a3⟩
structure iz (ob:List aD) (st st':bp):Prop where
 t:∀x∈st'.t,get x.1 st.t=x.2∧aB (fun k=> ¬fresh st'.n st'.o k) x.2
 b:gE (fun k=> ¬fresh st'.n st'.o k) st'.b st.b
 e:oA (fun k=> ¬fresh st'.n st'.o k) st'.e st.e
 o:∀m∈ob,m∈st'.o
theorem Rs:∀(i:Nat) (l:List (Nat×ah)),get i l= .junk∨(i,get i l)∈l
 |_,[]=>.inl rfl
 |i,(j,p)::r=>by
  by_cases h:j=i
  ·subst h;right;simp[get]
  ·rcases Rs i r with J|J
   ·left;simp[get,h,J]
   ·right;simp[get,h];right;exact J
theorem cT.weaker{C:fc}{st st':bp}{a:Act}{w:World}{ν:bd}(h:cT C st a w ν)(hw:iz C.ob st st'):cT C st' a w (ν.cut fun k=> ¬fresh st'.n st'.o k):=by
 refine⟨h.good.cut hw.b hw.e (fun bl bH _=>bH),⟨h.fr.os,h.fr.tape,h.fr.output,h.fr.size,h.fr.block,h.fr.keep,h.fr.fresh,fun n b ae=>?_,h.fr.obn,fun m n u hm=>?_,h.fr.obr,fun k j bM dy b J U=>h.fr.trd k j bM dy b J.2 U.2,fun k j b ae=>h.fr.trb k j b ae.2,fun k j b ae=>?_,h.fr.sh⟩,h.defers,h.size,fun i=>?_,fun k ab=>bd.cut_no (fun aA=>aA ab)⟩
 ·rw[bd.cut_bx (fun cS=>cS.2 (hw.o _ (h.fr.obn n b ae)))];exact h.fr.obj n b ae
 ·rw[bd.cut_ow (fun cS=>cS.2 (hw.o _ (h.fr.obr m n u hm)))];exact h.fr.row m n u hm
 ·rw[bd.cut_bx ae.1,bd.cut_ow ae.1];exact h.fr.trn k j b ae.2
 ·rcases Rs i st'.t with af|hm
  ·rw[af];simp[ba]
  ·obtain⟨J,U⟩:=hw.t _ hm;simp only at J;have:=h.slot i;rw[J]at this;exact uG (oP.cut _ w ν) _ _ U this
mutual
def dm:ah→ah
 | .slice sz _ xs=>.slice sz .no (cY xs)
 | .agg cs=>.agg (cY cs)
 | .tuple bc=>.tuple (cY bc)
 | .eptr x=>.eptr (dm x)
 | .iface t x=>.iface t (dm x)
 | .func f da=>.func f (cY da)
 |p=>p
def cY:List ah→List ah
 |[]=>[]
 |x::xs=>dm x::cY xs
end
theorem uN:∀xs,(cY xs).length=xs.length
 |[]=>rfl
 |x::xs=>by simp[cY,uN xs]
mutual
theorem IS{t:Bool}{w:World}{A:Nat→Nat→Prop}:∀(p:ah) (F:Nat→Prop) (v:Value),fX t w A F p v→fX t w A F (dm p) v
 | .int _ _,_,_,h=>by simpa only[dm]using h
 | .bool _,_,_,h=>by simpa only[dm]using h
 | .str _,_,_,h=>by simpa only[dm]using h
 | .slice sz tag xs,F,v,h=>by
  simp only[fX,dm]at h⊢;obtain⟨a,cap,J,U,ao,a7⟩:=h;refine⟨a,cap,by rw[uN];exact J,by rw[uN];exact U,by rw[uN];exact ao,?_⟩;rcases a7 with rfl|⟨b,off,us,G,ak,aC,bj,dd,gW,hI⟩
  ·exact .inl rfl
  ·exact .inr ⟨b,off,us,G,ak,aC,bj,dd,gW,Rb sz xs G us hI⟩
 | .agg cs,F,v,h=>by simp only[fX,dm]at h⊢;obtain⟨us,J,U⟩:=h;exact⟨us,J,Rc cs F _ U⟩
 | .junk,_,_,h=>by simp[fX]at h
 | .ptr _ _,_,_,h=>by simp[fX]at h
 | .eptr _,_,_,h=>by simp[fX]at h
 | .iface _ _,_,_,h=>by simp[fX]at h
 | .nilp,_,_,h=>by simp[fX]at h
 | .tuple _,_,_,h=>by simp[fX]at h
 | .func _ _,_,_,h=>by simp[fX]at h
 | .gmap _,_,_,h=>by simp[fX]at h
 | .row _ _ _,_,_,h=>by simp[fX]at h
 | .rptr _ _ _ _ _,_,_,h=>by simp[fX]at h
 | .hdm _ _,_,_,h=>by simp[fX]at h
 | .hdi _ _ _,_,_,h=>by simp[fX]at h
 | .cst _,_,_,h=>by simp[fX]at h
theorem Rc{t:Bool}{w:World}{A:Nat→Nat→Prop}:∀(cs:List ah) (F:Nat→Prop) (us:List Value),tM t w A F cs us→tM t w A F (cY cs) us
 |[],_,_,h=>by simpa only[cY]using h
 |c::cs,F,us,h=>by simp only[tM,cY]at h⊢;obtain⟨u,cj,h2,ic,J,U,⟨bZ,c6⟩,eg⟩:=h;exact⟨u,cj,h2,ic,J,U,⟨IS c h2 u bZ,c6⟩,Rc cs ic cj eg⟩
theorem Rb{t:Bool}{w:World}{A:Nat→Nat→Prop}(sz:Nat):∀(cs:List ah) (F:Nat→Prop) (us:List Value),tL t w A F sz cs us→tL t w A F sz (cY cs) us
 |[],_,_,h=>by simpa only[cY]using h
 |c::cs,F,us,h=>by simp only[tL,cY]at h⊢;obtain⟨u,cj,h2,ic,J,U,⟨bZ,c6⟩,eg⟩:=h;exact⟨u,cj,h2,ic,J,U,⟨IS c h2 u bZ,c6⟩,Rb sz cs ic cj eg⟩
end
theorem Ra{t:Bool}{w:World}{A:Nat→Nat→Prop}{F:Nat→Prop}{sz:Nat}{tag:A0}(kH:A0){xs:List ah}(v:Value)(h:fX t w A F (.slice sz tag xs) v):fX t w A F (.slice sz kH (cY xs)) v:=by have:=IS _ F v h;simp only[dm,fX]at this⊢;exact this
mutual
theorem yc{w:World}{ν:bd}:∀(p:ah) (v:Value),ba w ν p v→ba w ν (dm p) v
 | .junk,_,h=>by simpa only[dm]using h
 | .int k n,_,h=>by simpa only[dm]using h
 | .bool b,_,h=>by simpa only[dm]using h
 | .str s,_,h=>by simpa only[dm]using h
 | .slice sz tag xs,v,h=>by
  simp only[ba,dm]at h⊢;obtain⟨⟨a,cap,J,U,ao,a7⟩,bZ,c6⟩:=h;refine⟨⟨a,cap,by rw[uN];exact J,by rw[uN];exact U,by rw[uN];exact ao,?_⟩,fun e=>(by cases e),fun g e=>(by cases e),fun _ _ e=>(by cases e),fun _ e=>(by cases e)⟩;rcases a7 with rfl|⟨b,off,us,a7,c6,eg⟩
  ·exact .inl rfl
  ·exact .inr ⟨b,off,us,a7,c6,V2 sz xs us eg⟩
 | .agg cs,v,h=>by simp only[ba,dm]at h⊢;obtain⟨us,J,U⟩:=h;exact⟨us,J,V6 cs _ U⟩
 | .ptr key off,v,h=>by simpa only[dm]using h
 | .iface t x,v,h=>by simp only[ba,dm]at h⊢;obtain⟨u,J,U⟩:=h;exact⟨u,J,yc x u U⟩
 | .eptr x,v,h=>by simp only[ba,dm]at h⊢;obtain⟨b,off,u,J,U,ao⟩:=h;exact⟨b,off,u,J,yc x u U,ao⟩
 | .nilp,_,h=>by simpa only[dm]using h
 | .tuple bc,v,h=>by simp only[ba,dm]at h⊢;obtain⟨us,J,U⟩:=h;exact⟨us,J,GC bc _ U⟩
 | .func f da,v,h=>by simp only[ba,dm]at h⊢;obtain⟨us,J,U⟩:=h;exact⟨us,J,GC da _ U⟩
 | .gmap key,v,h=>by simpa only[dm]using h
 | .row _ _ _,v,h=>by simpa only[dm]using h
 | .rptr _ _ _ _ _,v,h=>by simpa only[dm]using h
 | .cst _,v,h=>by simpa only[dm]using h
theorem V6{w:World}{ν:bd}:∀(cs:List ah) (us:List Value),c4 w ν cs us→c4 w ν (cY cs) us
 |[],_,h=>by simpa only[cY]using h
 |c::cs,us,h=>by simp only[c4,cY]at h⊢;obtain⟨u,cj,J,U,ao⟩:=h;exact⟨u,cj,J,⟨yc c u U.1,U.2⟩,V6 cs cj ao⟩
theorem GC{w:World}{ν:bd}:∀(cs:List ah) (us:List Value),cP w ν cs us→cP w ν (cY cs) us
 |[],_,h=>by simpa only[cY]using h
 |c::cs,us,h=>by simp only[cP,cY]at h⊢;obtain⟨u,cj,J,U,ao⟩:=h;exact⟨u,cj,J,yc c u U,GC cs cj ao⟩
theorem V2{w:World}{ν:bd}(sz:Nat):∀(xs:List ah) (us:List Value),dx w ν sz xs us→dx w ν sz (cY xs) us
 |[],_,h=>by simpa only[cY]using h
 |x::xs,us,h=>by simp only[dx,cY]at h⊢;obtain⟨u,cj,J,⟨U,ao,a7⟩,bZ⟩:=h;exact⟨u,cj,J,⟨yc x u U,ao,a7⟩,V2 sz xs cj bZ⟩
end
def inObs(s:cE)(k:aD):Prop:=(look k s.b).isSome=true∨(look k s.e).isSome=true
def cn{α β:Type}(s:List (aD×β)):List (aD×α)→List (aD×α)
 |[]=>[]
 |(k,x)::r=>match look k s with
  |some _=>cn s r
  |none=>(k,x)::cn s r
theorem uo{α β:Type}(s:List (aD×β))(k:aD):∀l:List (aD×α),look k (cn s l)=if(look k s).isSome then none else look k l
 |[]=>by simp[cn,look]
 |(i,x)::r=>by
  simp only[cn];by_cases e:i=k
  ·subst e;cases h:look i s with
   |some y=>simp[uo s i r,h]
   |none=>simp[look]
  ·cases h:look i s with
   |some y=>simp[uo s k r,look,e]
   |none=>simp[look,e,uo s k r]
theorem xO{α:Type}(k:aD):∀l aX:List (aD×α),look k (l++aX)=match look k l with|some x=>some x|none=>look k aX
 |[],aX=>by simp[look]
 |(i,x)::r,aX=>by
  by_cases e:i=k
  ·simp[look,e]
  ·simp[look,e,xO k r aX]
def after(st:bp)(s ai:cE)(d:aY Nat)(r:ah):bp:={t:=eM d r st.t,b:=cn s.b st.b++ai.b,e:=cn s.e st.e++ai.e,n:=st.n,o:=st.o++cW ai}
section
open Classical
noncomputable def bd.join(ν bo:bd)(s ai:cE):bd:={A:=bo.A,bx:=fun k=>if(look k s.b).isSome∨(look k ai.b).isSome then bo.bx k else ν.bx k,ow:=fun k=>if(look k s.e).isSome∨(look k ai.e).isSome then bo.ow k else ν.ow k,tr:=fun k j b=>ν.tr k j b∨bo.tr k j b}
end
theorem cT.callK{C:fc}{st:bp}{a:Act}{w w':World}{ν bo:bd}(h:cT C st a w ν){s ai:cE}(ae:gE (inObs s) s.b st.b)(he:oA (inObs s) s.e st.e)(tY:iJ s)
  (a8:Good (fun bl=>fx (ν.cut (inObs s)) s bl∨w.heap.size≤bl) w' bo ai.b ai.e) {κ:aY Nat} (ad:Eo κ bo ai) (afx:∀m,κ=some m→ν.bx (.loc m)=none∧ν.ow (.loc m)=none∧∀j b,¬ν.tr (.loc m) j b) {n':Nat} {o':List aD} (dg:∀k,fresh n' o' k→fresh st.n (st.o++cW ai) k∧∀m,κ=some m→k≠ .loc m) (sC:iJ ai) (aH:p8 ⟨w,ν.cut (inObs s),fx (ν.cut (inObs s)) s,0,cW s⟩ w' bo)
  (Jy:∀m,(look (.obj m) ai.b).isSome→(look (.obj m) s.b).isSome∨ .obj m∉st.o) (cF:∀m,(look (.obj m) ai.e).isSome→(look (.obj m) s.e).isSome∨ .obj m∉st.o) (d:aY Nat) (aR:jb C.N d=true) {r:ah} {v:Value} (aK:ba w' bo r v):
  cT C {after st s ai d r with n:=n',o:=o'} (a.put d v) w' (ν.join bo s ai):=by
 have qt:∀k,(look k s.b).isSome→(look k st.b).isSome:=fun k ab=>by obtain⟨cs,dp⟩:=fL.1 ab;simp[(ae k cs dp).1]
 have lr:∀k,(look k s.e).isSome→(look k st.e).isSome:=fun k ab=>by obtain⟨cs,dp⟩:=fL.1 ab;simp[(he k cs dp).1]
 have aeS:∀k,(look k ai.b).isSome→¬(look k s.b).isSome→ν.bx k=none:=fun k ab aA=>by
  cases k with
  |loc m=>rw[sC.1 m]at ab;cases ab
  |obj m=>exact(h.new (.obj m) ⟨trivial,(Jy m ab).resolve_left aA⟩).1
 have aeT:∀k,(look k ai.e).isSome→¬(look k s.e).isSome→ν.ow k=none:=fun k ab aA=>by
  cases k with
  |loc m=>rw[sC.2 m]at ab;cases ab
  |obj m=>exact(h.new (.obj m) ⟨trivial,(cF m ab).resolve_left aA⟩).2.1
 have afZ:∀k,(look k s.b).isSome→(ν.join bo s ai).bx k=bo.bx k:=fun k ab=>by simp[bd.join,ab]
 have S9:∀k,(look k ai.b).isSome→(ν.join bo s ai).bx k=bo.bx k:=fun k ab=>by simp[bd.join,ab]
 have Ta:∀k,ν.bx k≠none→¬(look k s.b).isSome→(ν.join bo s ai).bx k=ν.bx k:=fun k J U=>by have ao:¬(look k ai.b).isSome:=fun ao=>J (aeS k ao U);simp[bd.join,U,ao]
 have af0:∀k,(look k s.e).isSome→(ν.join bo s ai).ow k=bo.ow k:=fun k ab=>by simp[bd.join,ab]
 have J9:∀k,(look k ai.e).isSome→(ν.join bo s ai).ow k=bo.ow k:=fun k ab=>by simp[bd.join,ab]
 have Ka:∀k,ν.ow k≠none→¬(look k s.e).isSome→(ν.join bo s ai).ow k=ν.ow k:=fun k J U=>by have ao:¬(look k ai.e).isSome:=fun ao=>J (aeT k ao U);simp[bd.join,U,ao]
 have XB:∀k b,bo.bx k=some b→(look k ai.b).isSome:=fun k b ab=>by
  cases ar:look k ai.b with
  |some _=>rfl
  |none=>rw[(ad k).1 ar]at ab;cases ab
 have XC:∀k b,bo.ow k=some b→(look k ai.e).isSome:=fun k b ab=>by
  cases ar:look k ai.e with
  |some _=>rfl
  |none=>rw[(ad k).2.1 ar]at ab;cases ab
 have av:la w ν w' (ν.join bo s ai):=by
  refine⟨fun b o bh=>aH.keep b o bh,fun k b _ ab=>?_,fun g n u _ a8=>?_,fun b o bh=>aH.sh b o bh,fun _ _ _ _ h=>.inl h⟩
  ·by_cases ag:(look k s.b).isSome
   ·rw[afZ k ag];cases k with
    |loc m=>rw[tY.1 m]at ag;cases ag
    |obj m=>exact aH.obj m b (by rw[bd.cut_bx (.inl ag)];exact ab)
   ·rw[Ta k (by rw[ab];simp) ag];exact ab
  ·by_cases ag:(look g s.e).isSome
   ·rw[af0 g ag];cases g with
    |loc m=>rw[tY.2 m]at ag;cases ag
    |obj m=>exact aH.row m n u (by rw[bd.cut_ow (.inr ag)];exact a8)
   ·rw[Ka g (by rw[a8];simp) ag];exact⟨n,u,a8,.inl ⟨rfl,rfl⟩⟩
 have hK:la w' bo w' (ν.join bo s ai):=⟨fun b o bh=>⟨bh,rfl⟩,fun k b _ ab=>by rw[S9 k (XB k b ab)];exact ab,fun g n u _ ab=>⟨n,u,by rw[J9 g (XC g _ ab)];exact ab,.inl ⟨rfl,rfl⟩⟩,fun _ _ _=>rfl,fun _ _ _ _ h=>.inr h⟩
 have qm:∀bl,fx (ν.cut (inObs s)) s bl→C.pr bl∧bl<w.heap.size:=by
  intro bl fA;rcases fA with⟨k,J,U⟩|⟨g,n,u,J,U,ao⟩
  ·have a7:=(bd.cut_some U).2;obtain⟨cs,dp⟩:=fL.1 (qt k J);obtain⟨ih,us,el,g1,g2,_⟩:=h.good.box k cs dp;rw[a7]at g1;cases g1;exact⟨g2,h.good.boxLt dp a7⟩
  ·have a7:=(bd.cut_someO U).2;obtain⟨o,EY⟩:=fL.1 (lr g J);obtain⟨v',us,g1,g2,g3,_⟩:=h.good.own g o EY;rw[a7]at g1;cases g1;exact⟨(g3 bl ao).1,h.good.ownLt EY a7 ao⟩
 have Sx:∀bl,fx (ν.cut (inObs s)) s bl∨w.heap.size≤bl→C.pr bl:=fun bl fA=>by
  rcases fA with fA|fA
  ·exact(qm bl fA).1
  ·exact .inr (j4 h.fr.size fA)
 have afe:∀k cs bl,look k st.b=some cs→¬(look k s.b).isSome→ν.bx k=some bl→¬fx (ν.cut (inObs s)) s bl:=by
  intro k cs bl J U ao a7;rcases a7 with⟨bM,bC,a2⟩|⟨g,n,u,bC,a2,a3⟩
  ·have:=h.good.inj k bM bl (by simp[J]) (qt bM bC) ao (bd.cut_some a2).2;subst this;exact U bC
  ·exact h.good.obx g k n u bl (lr g bC) (by simp[J]) (bd.cut_someO a2).2 a3 ao
 have aff:∀g o n u bl,look g st.e=some o→¬(look g s.e).isSome→ν.ow g=some (n,u)→u.ownBlock=some bl→¬fx (ν.cut (inObs s)) s bl:=by
  intro g o n u bl J U ao a7 bZ;rcases bZ with⟨bM,bC,a2⟩|⟨fe,n',eQ,bC,a2,a3⟩
  ·exact h.good.obx g bM n u bl (by simp[J]) (qt bM bC) ao a7 (bd.cut_some a2).2
  ·have:=h.good.oinj g fe n n' u eQ bl (by simp[J]) (lr fe bC) ao (bd.cut_someO a2).2 a7 a3;subst this;exact U bC
 have P2:∀k cs,look k (cn s.b st.b++ai.b)=some cs→(¬(look k s.b).isSome∧look k st.b=some cs)∨look k ai.b=some cs:=by
  intro k cs ab;rw[xO,uo]at ab;by_cases ag:(look k s.b).isSome
  ·simp only[ag,if_true]at ab;exact .inr ab
  ·simp only[ag]at ab;cases ar:look k st.b with
   |some x=>simp[ar]at ab;subst ab;exact .inl ⟨ag,rfl⟩
   |none=>simp[ar]at ab;exact .inr ab
 have P3:∀k cs,look k (cn s.e st.e++ai.e)=some cs→(¬(look k s.e).isSome∧look k st.e=some cs)∨look k ai.e=some cs:=by
  intro k cs ab;rw[xO,uo]at ab;by_cases ag:(look k s.e).isSome
  ·simp only[ag,if_true]at ab;exact .inr ab
  ·simp only[ag]at ab;cases ar:look k st.e with
   |some x=>simp[ar]at ab;subst ab;exact .inl ⟨ag,rfl⟩
   |none=>simp[ar]at ab;exact .inr ab
 have AA:∀bl,fx (ν.cut (inObs s)) s bl∨w.heap.size≤bl→∀ih,ih<w.heap.size→¬fx (ν.cut (inObs s)) s ih→bl≠ih:=by
  intro bl J ih U ao e;subst e;rcases J with J|J
  ·exact ao J
  ·omega
 have Ke:∀bl,bl<w.heap.size→¬fx (ν.cut (inObs s)) s bl→w'.heap[bl]? =w.heap[bl]?:=fun bl J U=>aH.block bl J U;have isB:∀k bl,(look k (cn s.b st.b++ai.b)).isSome→(ν.join bo s ai).bx k=some bl→(¬(look k s.b).isSome∧(look k st.b).isSome∧ν.bx k=some bl)∨((look k ai.b).isSome∧bo.bx k=some bl):=by
  intro k bl ab lj;obtain⟨cs,dp⟩:=fL.1 ab;rcases P2 k cs dp with⟨J,U⟩|J
  ·obtain⟨ih,us,el,g1,_⟩:=h.good.box k cs U;rw[Ta k (by rw[g1];simp) J]at lj;exact .inl ⟨J,by simp[U],lj⟩
  ·rw[S9 k (by simp[J])]at lj;exact .inr ⟨by simp[J],lj⟩
 have Fh:∀k x,(look k (cn s.e st.e++ai.e)).isSome→(ν.join bo s ai).ow k=some x→(¬(look k s.e).isSome∧(look k st.e).isSome∧ν.ow k=some x)∨((look k ai.e).isSome∧bo.ow k=some x):=by
  intro k x ab lj;obtain⟨cs,dp⟩:=fL.1 ab;rcases P3 k cs dp with⟨J,U⟩|J
  ·obtain⟨v',us,g1,_⟩:=h.good.own k cs U;rw[Ka k (by rw[g1];simp) J]at lj;exact .inl ⟨J,by simp[U],lj⟩
  ·rw[J9 k (by simp[J])]at lj;exact .inr ⟨by simp[J],lj⟩
 have A8:∀k bl,¬(look k s.b).isSome→(look k st.b).isSome→ν.bx k=some bl→bl<w.heap.size∧¬fx (ν.cut (inObs s)) s bl:=by intro k bl J U ao;obtain⟨cs,dp⟩:=fL.1 U;exact⟨h.good.boxLt dp ao,afe k cs bl dp J ao⟩
 have ye:∀k n u bl,¬(look k s.e).isSome→(look k st.e).isSome→ν.ow k=some (n,u)→u.ownBlock=some bl→bl<w.heap.size∧¬fx (ν.cut (inObs s)) s bl:=by intro k n u bl J U ao a7;obtain⟨cs,dp⟩:=fL.1 U;exact⟨h.good.ownLt dp ao a7,aff k cs n u bl dp J ao a7⟩
 have DU:∀k bl,(look k ai.b).isSome→bo.bx k=some bl→fx (ν.cut (inObs s)) s bl∨w.heap.size≤bl:=by intro k bl J U;obtain⟨cs,dp⟩:=fL.1 J;obtain⟨ih,us,el,g1,g2,_⟩:=a8.box k cs dp;rw[U]at g1;cases g1;exact g2
 have GF:∀k n u bl,(look k ai.e).isSome→bo.ow k=some (n,u)→u.ownBlock=some bl→fx (ν.cut (inObs s)) s bl∨w.heap.size≤bl:=by intro k n u bl J U ao;obtain⟨cs,dp⟩:=fL.1 J;obtain⟨v',us,g1,g2,g3,_⟩:=a8.own k cs dp;rw[U]at g1;cases g1;exact(g3 bl ao).1
 have bh:∀bl o,bo.A bl o→bl<w.heap.size→¬fx (ν.cut (inObs s)) s bl→ν.A bl o:=by
  intro bl o J U ao;rcases aH.fresh bl o J with a7|a7|a7
  ·exact a7
  ·exact absurd a7 ao
  ·simp only at a7;omega
 have pJ:cT C {t:=st.t,b:=cn s.b st.b++ai.b,e:=cn s.e st.e++ai.e,n:=n',o:=o'} a w' (ν.join bo s ai):=by
  refine h.over av rfl ⟨a8.alt,fun k cs ab=>?_,fun k bM bl J U ao a7=>?_,fun g o eT=>?_,fun g fe n n' u eQ bl J U ao a7 bZ c6=>?_,fun g k n u bl J U ao a7 bZ=>?_,fun k=>?_,fun bl aL k j ls=>?_⟩
   ⟨aH.os.trans h.fr.os,aH.tape.trans h.fr.tape,aH.output.trans h.fr.output,j4 h.fr.size aH.size,fun k ab hm=>?_,fun b o q7=>?_,fun b o q7=>?_,fun n b aA=>av.bx _ _ trivial (h.fr.obj n b aA),h.fr.obn,
    fun m n u hm=>C8 (h.fr.row m n u hm) (fun n u=>av.ow _ n u trivial),h.fr.obr,fun k j bM dy b J U=>?_,fun k j b ae=>?_,fun k j b ae=>?_,fun b o bh=>(av.sh b o (h.fr.keep b o bh).1).trans (h.fr.sh b o bh)⟩ (fun k ab=>?_)
  ·rcases P2 k cs ab with⟨J,U⟩|J
   ·obtain⟨bl,us,el,g1,g2,g3,g4,g5⟩:=h.good.box k cs U;obtain⟨b8,b3⟩:=A8 k bl J (by simp[U]) g1;exact⟨bl,us,el,av.bx _ _ trivial g1,g2,fun o q7=>g3 o (bh bl o q7 b8 b3),by rw[Ke bl b8 b3];exact g4,pY av g5⟩
   ·obtain⟨bl,us,el,g1,g2,g3,g4,g5⟩:=a8.box k cs J;exact⟨bl,us,el,hK.bx _ _ trivial g1,Sx bl g2,g3,g4,pY hK g5⟩
  ·rcases isB k bl J ao with⟨bC,a2,a3⟩|⟨bC,a2⟩<;>rcases isB bM bl U a7 with⟨b8,b3,fG⟩|⟨b8,b3⟩
   ·exact h.good.inj k bM bl a2 b3 a3 fG
   ·obtain⟨bG,ch⟩:=A8 k bl bC a2 a3;exact absurd rfl (AA bl (DU bM bl b8 b3) bl bG ch)
   ·obtain⟨bG,ch⟩:=A8 bM bl b8 b3 fG;exact absurd rfl (AA bl (DU k bl bC a2) bl bG ch)
   ·exact a8.inj k bM bl bC b8 a2 b3
  ·rcases P3 g o eT with⟨J,U⟩|J
   ·obtain⟨u,us,g1,g2,g3,g4⟩:=h.good.own g o U;refine⟨u,us,by rw[Ka g (by rw[g1];simp) J];exact g1,⟨g2.1,?_⟩,fun bl fA=>?_,rO av (fun bl fA j q7=>?_) g4⟩
    ·rcases g2.2 with aC|⟨bb,cap,cur,f1,f2,f3,f4⟩
     ·exact .inl aC
     ·obtain⟨b8,b3⟩:=ye g _ u bb J (by simp[U]) g1 (by rw[f1];rfl);exact .inr ⟨bb,cap,cur,f1,f2,by rw[Ke bb b8 b3];exact f3,f4⟩
    ·obtain⟨b8,b3⟩:=ye g _ u bl J (by simp[U]) g1 fA;exact⟨(g3 bl fA).1,fun j q7=>(g3 bl fA).2 j (bh bl j q7 b8 b3)⟩
    ·obtain⟨b8,b3⟩:=ye g _ u bl J (by simp[U]) g1 fA;exact bh bl j q7 b8 b3
   ·obtain⟨u,us,g1,g2,g3,g4⟩:=a8.own g o J;exact⟨u,us,by rw[J9 g (by simp[J])];exact g1,g2,fun bl fA=>⟨Sx bl (g3 bl fA).1,(g3 bl fA).2⟩,rO hK (fun _ _ _ h=>h) g4⟩
  ·rcases Fh g _ J ao with⟨bC,a2,a3⟩|⟨bC,a2⟩<;>rcases Fh fe _ U a7 with⟨b8,b3,fG⟩|⟨b8,b3⟩
   ·exact h.good.oinj g fe n n' u eQ bl a2 b3 a3 fG bZ c6
   ·obtain⟨bG,ch⟩:=ye g n u bl bC a2 a3 bZ;exact absurd rfl (AA bl (GF fe n' eQ bl b8 b3 c6) bl bG ch)
   ·obtain⟨bG,ch⟩:=ye fe n' eQ bl b8 b3 fG c6;exact absurd rfl (AA bl (GF g n u bl bC a2 bZ) bl bG ch)
   ·exact a8.oinj g fe n n' u eQ bl bC b8 a2 b3 bZ c6
  ·rcases Fh g _ J ao with⟨bC,a2,a3⟩|⟨bC,a2⟩<;>rcases isB k bl U bZ with⟨b8,b3,fG⟩|⟨b8,b3⟩
   ·exact h.good.obx g k n u bl a2 b3 a3 a7 fG
   ·obtain⟨bG,ch⟩:=ye g n u bl bC a2 a3 a7;exact absurd rfl (AA bl (DU k bl b8 b3) bl bG ch)
   ·obtain⟨bG,ch⟩:=A8 k bl b8 b3 fG;exact absurd rfl (AA bl (GF g n u bl bC a2 a7) bl bG ch)
   ·exact a8.obx g k n u bl bC b8 a2 a7 b3
  ·
   cases lj:(ν.join bo s ai).bx k with
   |none=>exact .inl rfl
   |some bl=>
    right;cases B1:(ν.join bo s ai).ow k with
    |none=>rfl
    |some x=>
     exfalso;have ak:(ν.bx k=some bl∧¬(look k s.b).isSome∧¬(look k ai.b).isSome)∨bo.bx k=some bl:=by
      by_cases ag:(look k s.b).isSome∨(look k ai.b).isSome
      ·right;simpa[bd.join,ag]using lj
      ·left;simp only[not_or]at ag;exact⟨by simpa[bd.join,ag.1,ag.2]using lj,ag.1,ag.2⟩
     have aC:(ν.ow k=some x∧¬(look k s.e).isSome∧¬(look k ai.e).isSome)∨bo.ow k=some x:=by
      by_cases ag:(look k s.e).isSome∨(look k ai.e).isSome
      ·right;simpa[bd.join,ag]using B1
      ·left;simp only[not_or]at ag;exact⟨by simpa[bd.join,ag.1,ag.2]using B1,ag.1,ag.2⟩
     rcases ak with⟨bC,a2,a3⟩|bC<;>rcases aC with⟨b8,b3,fG⟩|b8
     ·rcases h.good.one k with cS|cS
      ·rw[cS]at bC;cases bC
      ·rw[cS]at b8;cases b8
     ·have tW:=XC k x b8;have e9:(look k s.e).isSome:=by
       cases k with
       |loc m=>rw[sC.2 m]at tW;cases tW
       |obj m=>
        rcases cF m tW with cS|cS
        ·exact cS
        ·rw[(h.new (.obj m) ⟨trivial,cS⟩).1]at bC;cases bC
      obtain⟨o,EY⟩:=fL.1 (lr k e9);obtain⟨v',us,g1,_⟩:=h.good.own k o EY;rcases h.good.one k with cS|cS
      ·rw[cS]at bC;cases bC
      ·rw[cS]at g1;cases g1
     ·have xj:=XB k bl bC;have e9:(look k s.b).isSome:=by
       cases k with
       |loc m=>rw[sC.1 m]at xj;cases xj
       |obj m=>
        rcases Jy m xj with cS|cS
        ·exact cS
        ·rw[(h.new (.obj m) ⟨trivial,cS⟩).2.1]at b8;cases b8
      obtain⟨cs,dp⟩:=fL.1 (qt k e9);obtain⟨ih,us,el,g1,_⟩:=h.good.box k cs dp;rcases h.good.one k with cS|cS
      ·rw[cS]at g1;cases g1
      ·rw[cS]at b8;cases b8
     ·rcases a8.one k with cS|cS
      ·rw[cS]at bC;cases bC
      ·rw[cS]at b8;cases b8
  ·have Sl:∀k j,bo.tr k j bl→w.heap.size≤bl:=fun k j cS=>by
    rcases(aH.trb k j bl cS).1 with a2|a2
    ·obtain⟨m,_,hm⟩:=(ad k).2.2 j bl cS;rw[hm]at a2;cases a2
    ·exact a2
   have hold:fx (ν.cut (inObs s)) s bl→¬ν.tr k j bl:=by
    rintro(⟨bM,bC,a2⟩|⟨g,n,u,bC,a2,a3⟩) cS
    ·exact h.good.otr bl (.inl ⟨bM,qt bM bC,(bd.cut_some a2).2⟩) k j cS
    ·exact h.good.otr bl (.inr ⟨g,n,u,lr g bC,(bd.cut_someO a2).2,a3⟩) k j cS
   have kg:fx (ν.cut (inObs s)) s bl∨w.heap.size≤bl→¬ν.tr k j bl:=by
    rintro(J|J) cS
    ·exact hold J cS
    ·have:=(h.fr.trb k j bl cS).2;omega
   rcases aL with⟨bM,bC,a2⟩|⟨g,n,u,bC,a2,a3⟩
   ·rcases isB bM bl bC a2 with⟨b8,b3,fG⟩|⟨b8,b3⟩
    ·rcases ls with ls|ls
     ·exact h.good.otr bl (.inl ⟨bM,b3,fG⟩) k j ls
     ·have:=(A8 bM bl b8 b3 fG).1;have:=Sl k j ls;omega
    ·rcases ls with ls|ls
     ·exact kg (DU bM bl b8 b3) ls
     ·exact a8.otr bl (.inl ⟨bM,b8,b3⟩) k j ls
   ·rcases Fh g _ bC a2 with⟨b8,b3,fG⟩|⟨b8,b3⟩
    ·rcases ls with ls|ls
     ·exact h.good.otr bl (.inr ⟨g,n,u,b3,fG,a3⟩) k j ls
     ·have:=(ye g n u bl b8 b3 fG a3).1;have:=Sl k j ls;omega
    ·rcases ls with ls|ls
     ·exact kg (GF g n u bl b8 b3 a3) ls
     ·exact a8.otr bl (.inr ⟨g,n,u,b8,b3,a3⟩) k j ls
  ·have bA:k<w.heap.size:=Nat.lt_of_lt_of_le ab h.fr.size;rw[Ke k bA fun fA=>by
    rcases(qm k fA).1 with J|J
    ·exact hm J
    ·omega]
   exact h.fr.block k ab hm
  ·obtain⟨aZ,bI⟩:=h.fr.keep b o q7;obtain⟨ck,eK⟩:=aH.keep b o aZ;exact⟨ck,eK.trans bI⟩
  ·rcases aH.fresh b o q7 with a7|a7|a7
   ·exact h.fr.fresh b o a7
   ·exact .inr (qm b a7).1
   ·exact .inr (.inr (j4 h.fr.size a7))
  ·rcases J with J|J<;>rcases U with U|U
   ·exact h.fr.trd k j bM dy b J U
   ·have bC:=(h.fr.trb k j b J).2;have a2:=(aH.trb bM dy b U).1;rcases a2 with a2|a2
    ·obtain⟨m,_,hm⟩:=(ad bM).2.2 dy b U;rw[hm]at a2;cases a2
    ·simp only at a2;omega
   ·have bC:=(h.fr.trb bM dy b U).2;have a2:=(aH.trb k j b J).1;rcases a2 with a2|a2
    ·obtain⟨m,_,hm⟩:=(ad k).2.2 j b J;rw[hm]at a2;cases a2
    ·simp only at a2;omega
   ·exact aH.trd k j bM dy b J U
  ·rcases ae with ae|ae
   ·exact⟨(h.fr.trb k j b ae).1,Nat.lt_of_lt_of_le (h.fr.trb k j b ae).2 aH.size⟩
   ·refine⟨.inr ?_,(aH.trb k j b ae).2⟩;rcases(aH.trb k j b ae).1 with a2|a2
    ·obtain⟨m,_,hm⟩:=(ad k).2.2 j b ae;rw[hm]at a2;cases a2
    ·exact j4 h.fr.size a2
  ·have key:ν.bx k=none∧ν.ow k=none∧¬(look k ai.b).isSome∧¬(look k ai.e).isSome:=by
    rcases ae with ae|ae
    ·obtain⟨t1,t2⟩:=h.fr.trn k j b ae;refine⟨t1,t2,fun cS=>?_,fun cS=>?_⟩
     ·cases k with
      |loc m=>rw[sC.1 m]at cS;cases cS
      |obj m=>
       rcases Jy m cS with bZ|bZ
       ·obtain⟨cs,dp⟩:=fL.1 (qt _ bZ);obtain⟨ih,us,el,g1,_⟩:=h.good.box _ cs dp;rw[t1]at g1;cases g1
       ·exact(h.new (.obj m) ⟨trivial,bZ⟩).2.2 j b ae
     ·cases k with
      |loc m=>rw[sC.2 m]at cS;cases cS
      |obj m=>
       rcases cF m cS with bZ|bZ
       ·obtain⟨cs,dp⟩:=fL.1 (lr _ bZ);obtain⟨ih,us,g1,_⟩:=h.good.own _ cs dp;rw[t2]at g1;cases g1
       ·exact(h.new (.obj m) ⟨trivial,bZ⟩).2.2 j b ae
    ·obtain⟨m,hm,rfl⟩:=(ad k).2.2 j b ae;obtain⟨t1,t2,_⟩:=afx m hm;exact⟨t1,t2,by simp[sC.1 m],by simp[sC.2 m]⟩
   obtain⟨t1,t2,t3,t4⟩:=key;have t5:¬(look k s.b).isSome:=fun cS=>by obtain⟨cs,dp⟩:=fL.1 (qt _ cS);obtain⟨ih,us,el,g1,_⟩:=h.good.box _ cs dp;rw[t1]at g1;cases g1
   have t6:¬(look k s.e).isSome:=fun cS=>by obtain⟨cs,dp⟩:=fL.1 (lr _ cS);obtain⟨ih,us,g1,_⟩:=h.good.own _ cs dp;rw[t2]at g1;cases g1
   exact⟨by simp[bd.join,t3,t5,t1],by simp[bd.join,t4,t6,t2]⟩
  ·
   simp only at ab;obtain⟨ab,aeB⟩:=dg k ab;have Sr:(∀j b,¬ν.tr k j b)→∀j b,¬(ν.join bo s ai).tr k j b:=fun J j b ae=>by
    rcases ae with ae|ae
    ·exact J j b ae
    ·obtain⟨m,hm,e⟩:=(ad k).2.2 j b ae;exact aeB m hm e
   cases k with
   |loc m=>obtain⟨ia,gg,iV⟩:=h.new (.loc m) (IQ (eV _) (fun _ h=>List.mem_append_left _ h) ab);exact⟨by simp[bd.join,tY.1 m,sC.1 m,ia],by simp[bd.join,tY.2 m,sC.2 m,gg],Sr iV⟩
   |obj m=>
    simp only[fresh,jP,not_or,true_and]at ab;obtain⟨ia,gg,iV⟩:=h.new (.obj m) ⟨trivial,ab.1⟩;have a6:¬(look (.obj m) ai.b).isSome:=fun cS=>ab.2 (sS (.inl cS));have bB:¬(look (.obj m) ai.e).isSome:=fun cS=>ab.2 (sS (.inr cS));have bS:¬(look (.obj m) s.b).isSome:=fun cS=>by obtain⟨cs,dp⟩:=fL.1 (qt _ cS);obtain⟨ih,us,el,g1,_⟩:=h.good.box _ cs dp;rw[ia]at g1;cases g1
    have c1:¬(look (.obj m) s.e).isSome:=fun cS=>by obtain⟨cs,dp⟩:=fL.1 (lr _ cS);obtain⟨v',us,g1,_⟩:=h.good.own _ cs dp;rw[gg]at g1;cases g1
    exact⟨by simp[bd.join,a6,bS,ia],by simp[bd.join,bB,c1,gg],Sr iV⟩
 exact pJ.put aR (yb hK aK)
inductive ee where
 |s (i:ek)
 |call (d:aY Nat) (f:dr) (xs:List dr)
 |next (d:Nat) (x:dr)
structure c5 where
 g:aY (Nat×Bool)
 i:ee
def ek.dst:ek→aY Nat
 | .v d _| .box d _ _| .alloc d _ _| .bsl d _ _ _| .app d _ _ _ _| .bslm d _ _ _ _| .appm d _ _ _ _ _| .mkmap d _| .range d _ _| .mks d _ _ _ _ _=>some d
 | .store _ _ _| .mput _ _ _ _| .storeE _ _ _=>none
def ee.dst:ee→aY Nat
 | .s i=>i.dst
 | .call d _ _=>d
 | .next d _=>some d
def cV(P:cB)(n:Nat)(args:List ah)(st:bp)(d:aY Nat)(K:bp→Prop):Prop:=
 (∃s Q,gE (inObs s) s.b st.b∧oA (inObs s) s.e st.e∧iJ s∧aG (inObs s) args∧bF P n args s Q∧
  ∀r ai,Q r ai→((∀m,(look (.obj m) ai.b).isSome→(look (.obj m) s.b).isSome∨ .obj m∉st.o)∧(∀m,(look (.obj m) ai.e).isSome→(look (.obj m) s.e).isSome∨ .obj m∉st.o))∧K (after st s ai d r))∨
 (∃s Q,gE (inObs s) s.b st.b∧oA (inObs s) s.e st.e∧iJ s∧aG (inObs s) args∧ .loc st.n∉st.o∧Hh P n st.n args s Q∧
  ∀r ai,Q r ai→((∀m,(look (.obj m) ai.b).isSome→(look (.obj m) s.b).isSome∨ .obj m∉st.o)∧(∀m,(look (.obj m) ai.e).isSome→(look (.obj m) s.e).isSome∨ .obj m∉st.o))∧K {after st s ai d r with n:=st.n+1})
def KQ(st:bp)(d:Nat)(fi mk:aD)(since:Nat)(seen:List Nat)(last clock:Nat)(borns:List Nat)(kvs:List ah)(K:bp→Prop):Prop:=
 (since=clock∧last=clock)∧((∀b∈borns,b∈seen)→K {st with t:=put d (.tuple [.bool false]) st.t})∧
 (∀b k v,mq b borns kvs=some (.tuple [k,v])→b∉seen→K {st with t:=put d (.tuple [.bool true,k,v]) st.t,b:=cw fi [.hdi since (seen++[b]) last,.gmap mk] st.b})
def sk(st:bp)(d:Nat)(v:ah)(K:bp→Prop):Prop:=
 match v with
 | .ptr fi 0=>match look fi st.b with
  |some [.hdi since seen last,.gmap mk]=>match look mk st.b with
   |some (.hdm clock borns::kvs)=>KQ st d fi mk since seen last clock borns kvs K
   |_=>eR
  |_=>eR
 |_=>eR
def tE(P:cB)(st:bp)(K:bp→Prop):ee→Prop
 | .next d x=>sk st d (cm st.t x) K
 | .s i=>match lW st i with
  |some (c,st')=>c∧K st'
  |none=>eR
 | .call d f xs=>match cm st.t f with
  | .func n da=>cV P n (cY (xs.map (cm st.t)++da)) st d K
  |_=>eR
def hX(P:cB):List c5→bp→(bp→Prop)→Prop
 |[],st,K=>K st
 |⟨none,i⟩::r,st,K=>tE P st (fun st'=>hX P r st' K) i
 |⟨some (s,want),i⟩::r,st,K=>match get s st.t with
  | .bool b=>(b=want→tE P {st with t:=put s (.bool want) st.t} (fun st'=>hX P r st' K) i)∧(b= !want→hX P r {st with t:=eM i.dst (.tuple []) (put s (.bool !want) st.t)} K)
  | .tuple []=>hX P r {st with t:=eM i.dst (.tuple []) st.t} K
  |_=>eR
def uB(N:Nat)(bz:List (Nat×dA))(i:ee)(o:Oper):Bool:=
 match i with
 | .s i=>Da N bz i o
 | .next d x=>match o.op with
  | .next it false=>o.dst==some d&&decide (d<N)&&ei x it
  |_=>false
 | .call d f xs=>match o.op with
  | .call ⟨.value q0,args,_⟩=>o.dst==d&&jb N d&&ei f q0&&x0 xs args.toList
  |_=>false
def Bt(N:Nat)(bz:List (Nat×dA))(ops:List Oper)(g:c5)(o:Oper):Bool:=
 (match g.g,o.guard with
  |none,none=>true
  |some (s,b),some (j,b2)=>b==b2&&((ops[j]?).bind (·.dst))==some s&&decide (s<N)&&o.dst==g.i.dst&&jb N g.i.dst
  |_,_=>false)&&uB N bz g.i o
def ka(N:Nat)(bz:List (Nat×dA))(ops:List Oper):List c5→List Oper→Bool
 |[],[]=>true
 |g::gs,o::os=>Bt N bz ops g o&&ka N bz ops gs os
 |_,_=>false
theorem V7{w:World}{ν:bd}:∀{cu bW:List ah} {bc us:List Value},cP w ν cu bc→cP w ν bW us→cP w ν (cu++bW) (bc++us)
 |[],bW,bc,us,h,cr=>by simp only[cP]at h;subst h;simpa using cr
 |p::cu,bW,bc,us,h,cr=>by simp only[cP]at h;obtain⟨u,cj,rfl,J,U⟩:=h;simp only[bP,cP];exact⟨u,_,rfl,J,V7 U cr⟩
theorem wD.mono{P:cB}{f:FuncId}{bc:Array Value}{w:World}{R Nf:Ending→World→Prop}(h:wD P f bc w R)(a1:∀e w',R e w'→Nf e w'):wD P f bc w Nf:=by
 rcases h with⟨J,U⟩|⟨v,w',J,U⟩
 ·exact .inl ⟨J,U.mono a1⟩
 ·exact .inr ⟨v,w',J,a1 _ _ U⟩
theorem P0{P:cB}{C:fc}{st:bp}{a:Act}{w:World}{ν:bd}(aK:cT C st a w ν){o:Oper}{q0:Operand}{args:Array Operand}{AH:Array fV}(mR:o.op= .call ⟨.value q0,args,AH⟩){d:aY Nat}(aR:o.dst=d)(xf:jb C.N d=true)
  {n:Nat} {da:List ah} (aH:ba w ν (.func n da) (a.eval q0)) {cu:List ah} (tN:cP w ν cu (args.toList.map a.eval)) {K:bp→Prop}
  (aw:∃(s:cE) (qa:ah→cE→Prop) (κ:aY Nat) (n':Nat) (o':cE→List aD),gE (inObs s) s.b st.b∧oA (inObs s) s.e st.e∧iJ s∧aG (inObs s) (cY (cu++da))∧(∀(w:World) (ν:bd) (bc:Array Value),Good (fx ν s) w ν s.b s.e→o2 ν s→cP w ν (cY (cu++da)) bc.toList→
   wD P n bc w fun e w'=> ∃v r ai bo,e= .returned v∧qa r ai∧ba w' bo r v∧Good (fun bl=>fx ν s bl∨w.heap.size≤bl) w' bo ai.b ai.e∧Eo κ bo ai∧iJ ai∧p8 ⟨w,ν,fx ν s,0,cW s⟩ w' bo)∧
   (∀m,κ=some m→fresh st.n st.o (.loc m))∧(∀k r ai,qa r ai→fresh n' (o' ai) k→fresh st.n (st.o++cW ai) k∧∀m,κ=some m→k≠ .loc m)∧
   ∀r ai,qa r ai→((∀m,(look (.obj m) ai.b).isSome→(look (.obj m) s.b).isSome∨ .obj m∉st.o)∧(∀m,(look (.obj m) ai.e).isSome→(look (.obj m) s.e).isSome∨ .obj m∉st.o))∧K {after st s ai d r with n:=n',o:=o' ai})
  {qQ:Act→World→Prop} {Q:Exit→Act→World→Prop} (c7:∀st' bn w' bo,K st'→cT C st' bn w' bo→qQ bn w'):o.wp P a w qQ Q:=by
 obtain⟨s,qa,κ,n',o',bG,ch,c3,hD,j7,Qj,Qd,oV⟩:=aw;simp only[ba]at aH;obtain⟨us,aJ,hu⟩:=aH;have mf:cP w (ν.cut (inObs s)) (cY (cu++da)) ((args.map a.eval)++us).toList:=by refine ya (oP.cut _ w ν) _ _ hD (GC _ _ ?_);simpa using V7 tN hu
 have rh:Good (fx (ν.cut (inObs s)) s) w (ν.cut (inObs s)) s.b s.e:=aK.good.cut bG ch (fun bl _ h=>h);have hex:o2 (ν.cut (inObs s)) s:=by
  intro k;refine⟨?_,?_,?_⟩;rotate_left 2
  ·rintro j b ⟨ag,ae⟩;obtain⟨t1,t2⟩:=aK.fr.trn k j b ae;rcases ag with ag|ag<;>obtain⟨x,ad⟩:=fL.1 ag
   ·obtain⟨bl,cj,el,ak,_⟩:=aK.good.box k x (bG k x ad).1;rw[t1]at ak;cases ak
   ·obtain⟨v',cj,ak,_⟩:=aK.good.own k x (ch k x ad).1;rw[t2]at ak;cases ak
  ·intro ar;by_cases ag:inObs s k
   ·rw[bd.cut_bx ag];rcases ag with ag|ag
    ·rw[ar]at ag;cases ag
    ·obtain⟨x,ad⟩:=fL.1 ag;obtain⟨v',cj,ak,_⟩:=aK.good.own k x (ch k x ad).1;rcases aK.good.one k with J|J
     ·exact J
     ·rw[J]at ak;cases ak
   ·exact(bd.cut_no ag).1
  ·intro ar;by_cases ag:inObs s k
   ·rw[bd.cut_ow ag];rcases ag with ag|ag
    ·obtain⟨x,ad⟩:=fL.1 ag;obtain⟨bl,cj,el,ak,_⟩:=aK.good.box k x (bG k x ad).1;rcases aK.good.one k with J|J
     ·rw[J]at ak;cases ak
     ·exact J
    ·rw[ar]at ag;cases ag
   ·exact(bd.cut_no ag).2.1
 rcases j7 w (ν.cut (inObs s)) ((args.map a.eval)++us) rh hex mf with⟨⟨fn,g1,g2,g3⟩,j7⟩|⟨v,w',j7,bH⟩
 ·obtain⟨code,aea⟩:=fL.1 g2;have iF:(execOp a.eval o).run P w= .ok (.enter n ((args.map a.eval)++us)) w:=by obtain⟨dst,op,ty,pos,Nn,vd⟩:=o;simp only at mR;subst mR;simp only[execOp,resolve,aJ,Deferred.ofValue,fF,gq,fJ,invoke,callFunc,run_program,g1,g3,aea];simp
  unfold Oper.wp;rw[iF];simp only[Oper.upon];refine j7.mono fun e w' bH=>?_;obtain⟨v,r,ai,bo,rfl,br,a6,bB,bS,c1,c9⟩:=bH;obtain⟨⟨ia,gg⟩,ab⟩:=oV r ai br;rw[aR];exact c7 _ _ _ _ ab (aK.callK bG ch c3 bB bS (fun m hm=>aK.new _ (Qj m hm)) (n':=n') (o':=o' ai) (fun k ab=>Qd k r ai br ab) c1 c9 ia gg d xf a6)
 ·have iF:(execOp a.eval o).run P w= .ok (.value v) w':=by obtain⟨dst,op,ty,pos,Nn,vd⟩:=o;simp only at mR;subst mR;simp only[execOp,resolve,aJ,Deferred.ofValue,fF,gq,fJ,invoke];simpa using j7
  obtain⟨v2,r,ai,bo,Cd,br,a6,bB,bS,c1,c9⟩:=bH;cases Cd;obtain⟨⟨ia,gg⟩,ab⟩:=oV r ai br;refine lZ iF ?_;rw[aR];exact c7 _ _ _ _ ab (aK.callK bG ch c3 bB bS (fun m hm=>aK.new _ (Qj m hm)) (n':=n') (o':=o' ai) (fun k ab=>Qd k r ai br ab) c1 c9 ia gg d xf a6)
theorem PZ{P:cB}{C:fc}{st:bp}{a:Act}{w:World}{ν:bd}(aK:cT C st a w ν){o:Oper}{q0:Operand}{args:Array Operand}{AH:Array fV}(mR:o.op= .call ⟨.value q0,args,AH⟩){d:aY Nat}(aR:o.dst=d)(xf:jb C.N d=true)
  {n:Nat} {da:List ah} (aH:ba w ν (.func n da) (a.eval q0)) {cu:List ah} (tN:cP w ν cu (args.toList.map a.eval)) {K:bp→Prop} (aw:cV P n (cY (cu++da)) st d K)
  {qQ:Act→World→Prop} {Q:Exit→Act→World→Prop} (c7:∀st' bn w' bo,K st'→cT C st' bn w' bo→qQ bn w'):o.wp P a w qQ Q:=by
 refine P0 aK mR aR xf aH tN (K:=K) ?_ c7;rcases aw with⟨s,qa,bG,ch,c3,hD,j7,oV⟩|⟨s,qa,bG,ch,c3,hD,hW,j7,oV⟩
 ·refine⟨s,qa,none,st.n,fun ai=>st.o++cW ai,bG,ch,c3,hD,fun w ν bc J U ao=>(j7 w ν bc J U ao).mono fun e w' bH=>?_,fun m hm=>(by cases hm),fun k _ ai _ ab=>⟨ab,fun m hm=>by cases hm⟩,oV⟩;obtain⟨v,r,ai,bo,g1,g2,g3,g4,g5,g6⟩:=bH;exact⟨v,r,ai,bo,g1,g2,g3,g4,g5.k,g6⟩
 ·refine⟨s,qa,some st.n,st.n+1,fun ai=>st.o++cW ai,bG,ch,c3,hD,j7,fun m hm=>(by cases hm;exact⟨eV _,hW⟩),fun k _ ai _ ab=>⟨IQ (Nat.le_succ _) (fun _ h=>h) ab,fun m hm=>?_⟩,oV⟩;cases hm;rintro rfl;have:=ab.1;simp only at this;omega
theorem cT.drawn{C:fc}{st:bp}{a:Act}{w:World}{ν:bd}(aK:cT C st a w ν)(n:Nat):cT C st a {w with drawn:=n} ν:=by
 have kD:la w ν {w with drawn:=n} ν:=⟨fun _ _ h=>⟨h,rfl⟩,fun _ _ _ h=>h,fun _ n u _ h=>⟨n,u,h,.inl ⟨rfl,rfl⟩⟩,fun _ _ _=>rfl,fun _ _ _ _ h=>h⟩;refine aK.over kD rfl ⟨aK.good.alt,fun k cs ab=>?_,aK.good.inj,fun g o a8=>?_,aK.good.oinj,aK.good.obx,aK.good.one,aK.good.otr⟩ ⟨aK.fr.os,aK.fr.tape,aK.fr.output,aK.fr.size,aK.fr.block,aK.fr.keep,aK.fr.fresh,aK.fr.obj,aK.fr.obn,aK.fr.row,aK.fr.obr,aK.fr.trd,aK.fr.trb,aK.fr.trn,aK.fr.sh⟩ aK.new
 ·obtain⟨bl,us,el,J,U,ao,a7,bZ⟩:=aK.good.box k cs ab;exact⟨bl,us,el,J,U,ao,a7,pY kD bZ⟩
 ·obtain⟨v,us,J,U,ao,a7⟩:=aK.good.own g o a8;exact⟨v,us,J,U,ao,rO kD (fun _ _ _ h=>h) a7⟩
theorem acG{α:Type}{l:List α}{p:α→Bool}(h:∀x∈l,p x=false):l.filter p=[]:=by rw[List.filter_eq_nil_iff];intro x ad;simp[h x ad]
theorem acF{α:Type}{l:List α}{p:α→Bool}(h:∀x∈l,p x=true):l.filter p=l:=List.filter_eq_self.2 h
def FR(r m since clock:Nat)(seen:Array Nat)(P1:Array (aY MapEntry)):Sem Value:=do
 match P1[←choose (.mapNext P1.size)]? with
 |some (some e)=>
  setObj r (.mapIter (some m) since (seen.push e.born) clock)
  pure (.tuple #[.bool true,e.key,e.val])
 |some none=>pure (.tuple #[.bool false])
 |none=>stuck "Next: no such candidate"
theorem Wh{P:cB}{w:World}(r m since clock:Nat)(seen:Array Nat)(l:List (aY MapEntry))(ar:l≠[]):∃n x,x∈l∧(FR r m since clock seen l.toArray).run P w=
  (match x with|some e=>(do setObj r (.mapIter (some m) since (seen.push e.born) clock);pure (.tuple #[.bool true,e.key,e.val]):Sem Value)|none=>pure (.tuple #[.bool false])).run P {w with drawn:=n}:=by
 have fq:0<l.length:=List.length_pos_iff.2 ar;unfold FR;have key:∀i,i<l.length→∀w',((do match(l.toArray[i]?:aY (aY MapEntry))with
   |some (some e)=>setObj r (.mapIter (some m) since (seen.push e.born) clock);pure (.tuple #[.bool true,e.key,e.val])
   |some none=>pure (.tuple #[.bool false])
   |none=>stuck "Next: no such candidate" :Sem Value)).run P w'=((match l[i]! with|some e=>(do setObj r (.mapIter (some m) since (seen.push e.born) clock);pure (.tuple #[.bool true,e.key,e.val]):Sem Value)|none=>pure (.tuple #[.bool false]))).run P w':=by
  intro i hi w';have J:l.toArray[i]? =some l[i]!:=by simp[hi]
  rw[J];cases l[i]!<;>rfl
 by_cases aH:(Question.mapNext l.length).forced=true
 ·refine⟨w.drawn,l[0]!,by simp[fq],?_⟩;rw[←key 0 fq];have aw:(choose (.mapNext l.length):Sem Nat).run P w= .ok 0 w:=by simp[aH]
  simp only[List.size_toArray,fF,aw,fJ]
 ·refine⟨w.drawn+1,l[(w.tape w.drawn (.mapNext l.length))%l.length]!,by simp[Nat.mod_lt _ fq],?_⟩;rw[←key _ (Nat.mod_lt _ fq)];have aw:(choose (.mapNext l.length):Sem Nat).run P w= .ok ((w.tape w.drawn (.mapNext l.length))%l.length) {w with drawn:=w.drawn+1}:=by simp[aH,Question.cut]
  simp only[List.size_toArray,fF,aw,fJ]
theorem akM{P:cB}{w:World}{bl mb:Nat}{seen:List Nat}{es:List MapEntry}{clock:Nat}{ty:fV}(J:w.heap[bl]? =some (.mapIter (some mb) clock seen.toArray clock))(U:w.heap[mb]? =some (.map es.toArray clock))(bA:∀e∈es,e.born<clock):
  ∃n,((∀e∈es,e.born∈seen)∧(Instr.next (.pointer (some ⟨bl,0,none⟩)) false ty).run P w= .ok (.tuple #[.bool false]) {w with drawn:=n})∨
   ∃e∈es,e.born∉seen∧(Instr.next (.pointer (some ⟨bl,0,none⟩)) false ty).run P w= .ok (.tuple #[.bool true,e.key,e.val]) {w with drawn:=n,heap:=w.heap.setIfInBounds bl (.mapIter (some mb) clock (seen++[e.born]).toArray clock)}:=by
 have gv:(!seen.toArray.isEmpty&& !es.toArray.isEmpty&&es.toArray.all (fun e=>decide (e.born≥clock)))=false:=by
  cases es with
  |nil=>simp
  |cons e r=>have:=bA e (by simp);simp;intro _ h;omega
 generalize jo:(es.filter fun e=> !seen.contains e.born)=left;have aeG:(es.toArray.filter fun e=> !seen.toArray.contains e.born)=left.toArray:=by rw[←jo];simp
 have il:∀e∈left,e∈es∧e.born∉seen:=fun e he=>by rw[←jo]at he;have:=nk.1 he;exact⟨this.1,by simpa using this.2⟩
 have hold:(left.toArray.filter fun e=>decide (e.born<clock))=left.toArray:=by rw[List.filter_toArray,acF];intro e he;have:=bA e (il e he).1;simp[this]
 have kg:(left.toArray.filter fun e=>decide (e.born≥clock))= #[]:=by rw[List.filter_toArray,acG];intro e he;have:=bA e (il e he).1;simp;omega
 have iF:(Instr.next (.pointer (some ⟨bl,0,none⟩)) false ty).run P w=(FR bl mb clock clock seen.toArray ((if left.toArray.isEmpty then #[none]else #[])++(left.toArray++ #[]).map some)).run P w:=by unfold Instr.next FR;simp only[fF,uK J,uK U,fJ,gv,aeG,hold,kg,gT,if_false];rfl
 rw[iF];by_cases zl:left=[]
 ·subst zl;obtain⟨n,x,g1,g2⟩:=Wh (P:=P) (w:=w) bl mb clock clock seen.toArray [none] (by simp);refine⟨n,.inl ⟨fun e he=>?_,?_⟩⟩
  ·have:=List.filter_eq_nil_iff.1 jo e he;simpa using this
  ·simp only[List.mem_singleton]at g1;subst g1;have aw:((if(([]:List MapEntry).toArray).isEmpty then #[none]else #[])++(([]:List MapEntry).toArray++ #[]).map some)=[none].toArray:=by simp
   rw[aw,g2];rfl
 ·have aw:((if left.toArray.isEmpty then #[none]else #[])++(left.toArray++ #[]).map some)=(left.map some).toArray:=by simp[zl]
  obtain⟨n,x,g1,g2⟩:=Wh (P:=P) (w:=w) bl mb clock clock seen.toArray (left.map some) (by simpa using zl);simp only[iO]at g1;obtain⟨e,he,rfl⟩:=g1;refine⟨n,.inr ⟨e,(il e he).1,(il e he).2,?_⟩⟩;rw[aw,g2];simp only[fF];rw[C9 (w:={w with drawn:=n}) (o:= .mapIter (some mb) clock seen.toArray clock) J];simp
theorem Iq:∀{borns:List Nat} {us:List Value} {e:MapEntry},e∈fy borns us→e.born∈borns
 |[],us,e,h=>by simp[fy]at h
 |b::eN,[],e,h=>by simp[fy]at h
 |b::eN,[_],e,h=>by simp[fy]at h
 |b::eN,k::v::us,e,h=>by
  simp only[fy,fK]at h;rcases h with rfl|h
  ·simp
  ·exact oK _ (Iq h)
theorem Qu:∀{borns:List Nat} {kvs:List ah} {us:List Value},kvs.length=2*borns.length→us.length=kvs.length→∀{b:Nat},b∈borns→∃e∈fy borns us,e.born=b
 |[],_,_,_,_,b,ae=>by simp at ae
 |b2::eN,kvs,[],J,U,b,ae=>by rw[J]at U;simp at U
 |b2::eN,kvs,[_],J,U,b,ae=>by rw[J]at U;simp at U;omega
 |b2::eN,kvs,k::v::us,J,U,b,ae=>by
  rcases fK.1 ae with rfl|ae
  ·exact⟨⟨k,v,b⟩,by simp[fy],rfl⟩
  ·obtain⟨e,g1,g2⟩:=Qu (kvs:=kvs.drop 2) (us:=us) (borns:=eN) (by simp at J⊢;omega) (by simp at J U⊢;omega) ae;exact⟨e,by simp[fy,g1],g2⟩
theorem T7{w:World}{ν:bd}:∀{borns:List Nat} {kvs:List ah} {us:List Value},kvs.length=2*borns.length→borns.Pairwise (· < ·)→cP w ν kvs us→∀{e:MapEntry},e∈fy borns us→∃k v,mq e.born borns kvs=some (.tuple [k,v])∧ba w ν k e.key∧ba w ν v e.val
 |[],_,_,_,_,_,e,h=>by simp[fy]at h
 |b::eN,[],us,J,_,_,e,_=>by simp at J
 |b::eN,[_],us,J,_,_,e,_=>by simp at J;omega
 |b::eN,k::v::kvs,us,J,U,ao,e,h=>by
  simp only[cP]at ao;obtain⟨iM,MF,rfl,dF,ji,rU,rfl,fb,kG⟩:=ao;simp only[fy,fK]at h;rw[mA]at U;rcases h with rfl|h
  ·exact⟨k,v,by simp[mq],dF,fb⟩
  ·obtain⟨bM,v',g1,g2,g3⟩:=T7 (by simp at J;omega) U.2 kG h;have cF:b≠e.born:=Nat.ne_of_lt (U.1 _ (Iq h));exact⟨bM,v',by simp[mq,cF,g1],g2,g3⟩
theorem ahe{P:cB}{C:fc}{st:bp}{a:Act}{w:World}{ν:bd}(aK:cT C st a w ν){o:Oper}{it:Operand}(mR:o.op= .next it false){d:Nat}(aR:o.dst=some d)(xf:jb C.N (some d)=true){v:ah}(aJ:ba w ν v (a.eval it)){K:bp→Prop}(he:sk st d v K)
  {qQ:Act→World→Prop} {Q:Exit→Act→World→Prop} (c7:∀st' bn w' bo,K st'→cT C st' bn w' bo→qQ bn w'):o.wp P a w qQ Q:=by
 unfold sk at he;split at he
 ·rename_i fi;split at he
  ·rename_i since seen last mk vk;split at he
   ·rename_i clock borns kvs xt;obtain⟨⟨rfl,rfl⟩,zf,oa⟩:=he;simp only[ba]at aJ;obtain⟨bl,b8,b3⟩:=aJ;obtain⟨ih,us,el,a6,bB,bS,c1,c9⟩:=aK.good.box fi _ vk;rw[b8]at a6;cases a6;obtain⟨mb,ms,aqC,m1,m2,m3,m4,m5⟩:=aK.good.box mk _ xt;simp only[iX,cP]at c9;obtain⟨u,cj,hu,⟨aqB,dF,rfl⟩,rfl⟩:=c9;rw[m1]at dF;cases dF;simp only[jz,hu]at c1;simp only[jz]at m4;simp only[iX]at m5;obtain⟨n,lK⟩:=akM (P:=P) (ty:=o.type) c1 m4 (fun e he=>m5.2.lt _ (Iq he));have ma:∀v' w',(Instr.next (.pointer (some ⟨bl,0,none⟩)) false o.type).run P w= .ok v' w'→(execOp a.eval o).run P w= .ok (.value v') w':=by intro v' w' iF;obtain⟨dst,op,ty,pos,Nn,vd⟩:=o;simp only at mR iF;subst mR;simp only[execOp,b3];exact Dr iF
    rcases lK with⟨J,U⟩|⟨e,J,U,ao⟩
    ·refine lZ (ma _ _ U) ?_;rw[aR];refine c7 _ _ _ _ (zf fun b ae=>?_) ((aK.drawn n).put xf (p:= .tuple [.bool false]) (by simp[ba,cP]));obtain⟨e,f1,f2⟩:=Qu m5.2.len (GA m5.1) ae;rw[←f2];exact J e f1
    ·obtain⟨k,v,f1,f2,f3⟩:=T7 m5.2.len m5.2.inc m5.1 J;refine lZ (ma _ _ ao) ?_;rw[aR];have vv:=((aK.drawn n).setBox (w':={w with drawn:=n,heap:=w.heap.setIfInBounds bl (.mapIter (some mb) last (seen++[e.born]).toArray last)}) vk b8 (cs':=[.hdi last (seen++[e.born]) last,.gmap mk]) (us:=us) (el:=el) rfl rfl rfl
      (fun j af=>Array.getElem?_setIfInBounds_ne (kL af)) (by simp) (by simp[jz,hu,(Array.getElem?_eq_some_iff.1 c1).1]) (by simp only[iX,cP];exact⟨_,_,hu,by simp only[ba];exact⟨mb,m1,rfl⟩,rfl⟩))
     refine c7 _ _ _ _ (oa e.born k v f1 U) (vv.1.put xf (p:= .tuple [.bool true,k,v]) ?_);simp only[ba];refine⟨_,rfl,?_⟩;simp only[cP];have kD:la w ν {w with drawn:=n} ν:=⟨fun _ _ h=>⟨h,rfl⟩,fun _ _ _ h=>h,fun _ n u _ h=>⟨n,u,h,.inl ⟨rfl,rfl⟩⟩,fun _ _ _=>rfl,fun _ _ _ _ h=>h⟩;exact⟨_,_,rfl,by simp[ba],_,_,rfl,yb vv.2 (yb kD f2),_,_,rfl,yb vv.2 (yb kD f3),rfl⟩
   ·exact he.elim
  ·exact he.elim
 ·exact he.elim
theorem Qy{P:cB}{bz:List (Nat×dA)}(aL:fN P bz=true){C:fc}{st:bp}{a:Act}{w:World}{ν:bd}(aK:cT C st a w ν){i:ee}{o:Oper}(av:uB C.N bz i o=true){K:bp→Prop}(he:tE P st K i)
  {qQ:Act→World→Prop} {Q:Exit→Act→World→Prop} (c7:∀st' bn w' bo,K st'→cT C st' bn w' bo→qQ bn w'):o.wp P a w qQ Q:=by
 cases i with
 |s i=>
  simp only[tE]at he;split at he
  ·rename_i c st' ag;exact akP aL aK (by simpa only[uB]using av) ag he.1 fun bn w' bo h=>c7 _ _ _ _ he.2 h
  ·exact he.elim
 |next d x=>
  simp only[tE]at he;simp only[uB]at av;split at av
  ·rename_i it mR;simp only[cA,dL,fm]at av;obtain⟨⟨J,U⟩,ao⟩:=av;exact ahe aK mR J (by simpa[jb]using U) (ej aK ao) he c7
  ·cases av
 |call d f xs=>
  simp only[tE]at he;simp only[uB]at av;split at av
  ·rename_i q0 args AH mR;simp only[cA,dL]at av;obtain⟨⟨⟨J,U⟩,ao⟩,a7⟩:=av;split at he
   ·rename_i n da aH;have:=ej aK ao;rw[aH]at this;exact PZ aK mR J U this (C4 aK a7) he c7
   ·exact he.elim
  ·cases av
theorem LQ{C:fc}{st:bp}{a:Act}{w:World}{ν:bd}(h:cT C st a w ν){s:Nat}{b:Bool}(ag:get s st.t= .bool b):cT C {st with t:=put s (.bool b) st.t} a w ν:=by
 refine⟨h.good,h.fr,h.defers,h.size,fun i=>?_,h.new⟩;have:=h.slot i;simp only[o4];split
 ·rename_i e;subst e;rw[←ag];exact this
 ·exact this
theorem XE{C:fc}{st:bp}{a:Act}{w:World}{ν:bd}(h:cT C st a w ν){ops:Array Oper}{j s:Nat}(af:(ops.toList[j]?).bind (·.dst)=some s)(ag:s<C.N):
  (∀b,get s st.t= .bool b→yielded ops a.tmps j=some b)∧(get s st.t= .tuple []→yielded ops a.tmps j=none):=by
 have bA:s<a.tmps.size:=by rw[h.size];exact ag
 have rp:=h.slot s;have gX:a.tmps.getD s undef=a.tmps[s]:=by simp[Array.getD,bA]
 rw[gX]at rp;have aM:yielded ops a.tmps j=match a.tmps[s]with| .bool b=>some b|_=>none:=by unfold yielded;rw[tg]at af;rw[af];simp only[kM,Array.getElem?_eq_getElem bA];cases a.tmps[s]<;>rfl
 constructor
 ·intro b ae;rw[ae]at rp;simp only[ba]at rp;rw[aM,rp]
 ·intro ae;rw[ae]at rp;simp only[ba,cP]at rp;obtain⟨us,ak,aC⟩:=rp;rw[aM,ak]
theorem QC{P:cB}{bz:List (Nat×dA)}(aL:fN P bz=true){C:fc}{ops:Array Oper}{K:bp→Prop}{Q:Exit→Act→World→Prop}(hF:∀st' bn w' bo,K st'→cT C st' bn w' bo→Q .normal bn w'):
  ∀(gs:List c5) (os:List Oper) (k:Nat),(∀j,os[j]? =ops[k+j]?)→ka C.N bz ops.toList gs os=true→∀(st:bp) (a:Act) (w:World) (ν:bd),hX P gs st K→cT C st a w ν→wpOps P ops Q (List.range' k gs.length) a w
 |[],[],k,_,_,st,a,w,ν,he,aK=>by simp only[List.length_nil,List.range'_zero,wpOps];exact hF _ _ _ _ he aK
 |[],_::_,_,_,ab,_,_,_,_,_,_=>by simp[ka]at ab
 |_::_,[],_,_,ab,_,_,_,_,_,_=>by simp[ka]at ab
 |g::gs,o::os,k,zp,ab,st,a,w,ν,he,aK=>by
  simp only[ka,cA]at ab;have bq:ops[k]? =some o:=by simpa using(zp 0).symm
  have B5:∀j,os[j]? =ops[k+1+j]?:=fun j=>by have:=zp (j+1);simpa[Nat.add_assoc,Nat.add_comm 1 j]using this
  simp only[oJ,List.range'_succ,wpOps,bq];have bN:∀st' bn w' bo,hX P gs st' K→cT C st' bn w' bo→wpOps P ops Q (List.range' (k+1) gs.length) bn w':=fun st' bn w' bo J U=>QC aL hF gs os (k+1) B5 ab.2 st' bn w' bo J U;obtain⟨mJ,Rt⟩:=g;have a8:=ab.1;simp only[Bt,cA]at a8;obtain⟨qq,rf⟩:=a8;cases mJ with
  |none=>
   cases eT:o.guard with
   |some x=>simp[eT]at qq
   |none=>
    have hw:oG o (yielded ops a.tmps)=true:=by simp[oG,eT]
    rw[if_pos hw];simp only[hX]at he;exact .inl (Qy aL aK rf he bN)
  |some ym=>
   obtain⟨s,want⟩:=ym;cases eT:o.guard with
   |none=>simp[eT]at qq
   |some x=>
    obtain⟨j,b2⟩:=x;simp only[eT,cA,dL,fm]at qq;obtain⟨⟨⟨⟨rfl,U⟩,ao⟩,a7⟩,bZ⟩:=qq;obtain⟨ks,oE⟩:=XE aK U ao;simp only[hX]at he;split at he
    ·rename_i b ae;have aM:=ks b ae;by_cases e:b=want
     ·subst e;have hw:oG o (yielded ops a.tmps)=true:=by simp[oG,eT,aM]
      rw[if_pos hw];exact .inl (Qy aL (LQ aK ae) rf (he.1 rfl) bN)
     ·have hw:¬(oG o (yielded ops a.tmps)=true):=by simp[oG,eT,aM,e]
      rw[if_neg hw];have fI:b= !want:=by cases b<;>cases want<;>simp at e⊢
      have me:cT C {st with t:=put s (.bool !want) st.t} a w ν:=LQ aK (by rw[ae,fI]);rw[a7];exact bN _ _ _ _ (he.2 fI) (me.put bZ (by simp[ba,cP,undef]))
    ·rename_i ae;have aM:=oE ae;have hw:¬(oG o (yielded ops a.tmps)=true):=by simp[oG,eT,aM]
     rw[if_neg hw,a7];exact bN _ _ _ _ he (aK.put bZ (by simp[ba,cP,undef]))
    ·exact he.elim
structure de where
 t:Nat→ah
 b:aD→aY (List ah)
 e:aD→aY fM
 F:aD→Prop
structure kv where
 d:aY Nat
 p:ah
 bw:List (aD×List ah)
 ew:List (aD×fM)
 rm:aY aD
def ij{α:Type}(l:List (aD×α))(f:aD→aY α):aD→aY α:=fun k=>match look k l with|some x=>some x|none=>f k
def de.do(A:de)(x:kv):de:={t:=fun i=>if x.d=some i then x.p else A.t i,b:=ij x.bw A.b,e:=ij x.ew A.e,F:=fun k=>A.F k∧x.rm≠some k}
structure kv.apart (x y:kv):Prop where
 d:∀i,x.d=some i→y.d≠some i
 b:∀k,(look k x.bw).isSome→look k y.bw=none
 e:∀k,(look k x.ew).isSome→look k y.ew=none
theorem de.do_comm(A:de){x y:kv}(h:x.apart y):(A.do x).do y=(A.do y).do x:=by
 simp only[de.do,de.mk.injEq];refine⟨?_,?_,?_,?_⟩
 ·funext i;by_cases J:x.d=some i
  ·have:=h.d i J;simp[J,this]
  ·simp[J]
 ·funext k;simp only[ij];cases ad:look k x.bw with
  |none=>cases look k y.bw<;>rfl
  |some u=>rw[h.b k (by simp[ad])]
 ·funext k;simp only[ij];cases ad:look k x.ew with
  |none=>cases look k y.ew<;>rfl
  |some u=>rw[h.e k (by simp[ad])]
 ·funext k;exact propext ⟨fun h=>⟨⟨h.1.1,h.2⟩,h.1.2⟩,fun h=>⟨⟨h.1.1,h.2⟩,h.1.2⟩⟩
def dv(t:Nat→ah):dr→ah
 | .t i=>t i
 | .c p=>p
def rC(b:aD→aY (List ah))(e:aD→aY fM)(agg:Bool)(sz:Nat):ah→aY (Prop×ah)
 | .rptr dD k n i f=>yd agg sz dD n i f (e k)
 | .ptr k off=>
  match b k with
  |some cs=>if agg then some (gn cs=true∧off+sz≤cs.length,.agg ((cs.drop off).take sz))else(cs[off]?).map fun p=>(gn cs=true,p)
  |none=>none
 | .eptr p=>if agg then some (isAgg sz p,p)else some (dY p=true∧cells p=[p],p)
 |_=>none
def wQ(t:Nat→ah):List ah→List (Nat×Nat×dr)→aY (Prop×List ah)
 |cs,[]=>some (True,cs)
 |cs,(off,sz,x)::r=>
  match wQ t (nH cs off (cells (dv t x))) r with
  |some (c,cs')=>some ((dY (dv t x)=true∧(cells (dv t x)).length=sz∧off+sz≤cs.length)∧c,cs')
  |none=>none
def ps(t:Nat→ah)(b:aD→aY (List ah))(e:aD→aY fM):fP→aY (Prop×ah)
 | .mov x=>some (True,dv t x)
 | .pick c x y=>F7 (dv t c) (dv t x) (dv t y)
 | .load agg sz x=>rC b e agg sz (dv t x)
 | .faddr off agg sz x=>pF off agg sz (dv t x)
 | .fld off agg sz x=>q2 off agg sz (dv t x)
 | .iaddr sz x i=>zB sz (dv t x) (dv t i)
 | .sidx x i=>GL (dv t x) (dv t i)
 | .ssl x lo hi=>GQ (dv t x) (lo.map (dv t)) (hi.map (dv t))
 | .lsl sz x lo hi=>FF sz (dv t x) (lo.map (dv t)) (hi.map (dv t))
 | .bin op wr x y=>A6 op wr (dv t x) (dv t y)
 | .notB x=>FU (dv t x)
 | .neg x=>FP (dv t x)
 | .conv k x=>Eg k (dv t x)
 | .ext i x=>yS i (dv t x)
 | .len x=>zK (dv t x)
 | .slen x=>De (dv t x)
 | .build zero parts=>(wQ t zero parts).map fun(c,cs)=>(c,.agg cs)
 | .nck x=>zU (dv t x)
 | .min2 x y=>FO (dv t x) (dv t y)
 | .mkf n xs=>some (True,.func n (xs.map (dv t)))
 | .mget ca zero ok x k=>nE b ca zero ok (dv t x) (dv t k)
 | .ment x=>pf b (dv t x)
 | .mlen x=>ur b (dv t x)
 | .beq neg dJ x y=>ig neg dJ (dv t x) (dv t y)
 | .max2 x y=>FJ (dv t x) (dv t y)
 | .mkif n x=>some (True,.iface n (dv t x))
 | .loadB agg sz x=>rC b (fun _=>none) agg sz (dv t x)
 | .mgetB ca zero ok x k=>nE b ca zero ok (dv t x) (dv t k)
 | .loadZ agg sz x=>Bs agg sz (dv t x)
structure k9 (st:bp) (A:de):Prop where
 t:∀i,get i st.t=A.t i
 b:∀k,look k st.b=A.b k
 e:∀k,look k st.e=A.e k
theorem iB{st:bp}{A:de}(h:k9 st A)(x:dr):cm st.t x=dv A.t x:=by
 cases x
 ·exact h.t _
 ·rfl
theorem tH{st:bp}{A:de}(h:k9 st A):cm st.t=dv A.t:=funext (iB h)
theorem agr{st:bp}{A:de}(h:k9 st A)(agg:Bool)(sz:Nat)(p:ah):mo st.b st.e agg sz p=rC A.b A.e agg sz p:=by
 cases p<;>simp only[mo,rC]
 ·rw[h.b];try rfl
 ·rw[h.e]
theorem ags{st:bp}{A:de}(h:k9 st A)(agg:Bool)(sz:Nat)(p:ah):mo st.b [] agg sz p=rC A.b (fun _=>none) agg sz p:=by
 cases p<;>simp only[mo,rC]
 ·rw[h.b];try rfl
 ·rfl
theorem NS{st:bp}{A:de}(h:k9 st A):∀(parts:List (Nat×Nat×dr)) (cs:List ah),tz st.t cs parts=wQ A.t cs parts
 |[],cs=>rfl
 |(off,sz,x)::r,cs=>by simp only[tz,wQ,iB h,NS h r];try rfl
theorem WV{st:bp}{A:de}(h:k9 st A)(i:fP):hg st i=ps A.t A.b A.e i:=by have ae:(fun k=>look k st.b)=A.b:=funext h.b;cases i<;>simp only[hg,ps,tH h,agr h,ags h,NS h,ae]
def hc:dr→List Nat
 | .t i=>[i]
 | .c _=>[]
def La:aY dr→List Nat
 |some x=>hc x
 |none=>[]
def fP.looks:fP→List Nat
 | .mov x| .load _ _ x| .loadB _ _ x| .loadZ _ _ x| .faddr _ _ _ x| .fld _ _ _ x| .notB x| .neg x| .conv _ x| .ext _ x| .len x| .slen x| .nck x| .ment x| .mlen x| .mkif _ x=>hc x
 | .pick c x y=>hc c++hc x++hc y
 | .iaddr _ x i| .sidx x i=>hc x++hc i
 | .ssl x lo hi| .lsl _ x lo hi=>hc x++La lo++La hi
 | .bin _ _ x y| .min2 x y| .max2 x y| .beq _ _ x y=>hc x++hc y
 | .build _ cu=>cu.flatMap fun p=>hc p.2.2
 | .mkf _ xs=>xs.flatMap hc
 | .mget _ _ _ x k| .mgetB _ _ _ x k=>hc x++hc k
def ek.looks:ek→List Nat
 | .v _ i=>i.looks
 | .box _ _ x=>hc x
 | .alloc _ _ _=>[]
 | .store _ x y=>hc x++hc y
 | .storeE _ x y=>hc x++hc y
 | .bsl _ _ _ xs=>xs.flatMap hc
 | .app _ _ _ x y=>hc x++hc y
 | .bslm _ _ _ _ xs=>xs.flatMap hc
 | .mks _ _ _ _ _ x=>hc x
 | .appm _ _ _ _ x y=>hc x++hc y
 | .mkmap _ _=>[]
 | .mput _ x k y=>hc x++hc k++hc y
 | .range _ _ x=>hc x
def ee.looks:ee→List Nat
 | .s i=>i.looks
 | .call _ f xs=>hc f++xs.flatMap hc
 | .next _ x=>hc x
def c5.looks(g:c5):List Nat:=(match g.g with|some (s,_)=>[s]|none=>[])++g.i.looks
def qd(l:List Nat)(t dG:Nat→ah):Prop:= ∀i∈l,t i=dG i
theorem gl{t dG:Nat→ah}{x:dr}(h:qd (hc x) t dG):dv t x=dv dG x:=by
 cases x
 ·exact h _ (by simp[hc])
 ·rfl
theorem j6{l aX:List Nat}{t dG:Nat→ah}(h:qd (l++aX) t dG):qd l t dG∧qd aX t dG:=⟨fun i hi=>h i (by simp[hi]),fun i hi=>h i (by simp[hi])⟩
theorem En{t dG:Nat→ah}{x:aY dr}(h:qd (La x) t dG):x.map (dv t)=x.map (dv dG):=by
 cases x
 ·rfl
 ·simp[gl h]
theorem NR{t dG:Nat→ah}:∀{parts:List (Nat×Nat×dr)} {cs:List ah},qd (parts.flatMap fun p=>hc p.2.2) t dG→wQ t cs parts=wQ dG cs parts
 |[],cs,_=>rfl
 |(off,sz,x)::r,cs,h=>by simp only[List.flatMap_cons]at h;obtain⟨J,U⟩:=j6 h;simp only[wQ,gl J,NR U]
theorem FI{t dG:Nat→ah}:∀{xs:List dr},qd (xs.flatMap hc) t dG→xs.map (dv t)=xs.map (dv dG)
 |[],_=>rfl
 |x::xs,h=>by simp only[List.flatMap_cons]at h;obtain⟨J,U⟩:=j6 h;simp[gl J,FI U]
def fP.isLoad:fP→Bool
 | .load _ _ _=>true
 | .loadB _ _ _=>true
 | .mgetB _ _ _ _ _=>true
 | .mget _ _ _ _ _=>true
 | .ment _=>true
 | .mlen _=>true
 |_=>false
theorem alY{t dG:Nat→ah}{b b2:aD→aY (List ah)}{e fE:aD→aY fM}{i:fP}(h:qd i.looks t dG)(ae:i.isLoad=false):ps t b e i=ps dG b2 fE i:=by
 cases i<;>simp only[fP.looks]at h<;>simp only[ps];case load agg sz x=>simp[fP.isLoad]at ae
 case loadB agg sz x=>simp[fP.isLoad]at ae
 case pick c x y=>obtain⟨J,ao⟩:=j6 h;obtain⟨J,U⟩:=j6 J;rw[gl J,gl U,gl ao]
 case iaddr=>obtain⟨J,U⟩:=j6 h;rw[gl J,gl U]
 case sidx=>obtain⟨J,U⟩:=j6 h;rw[gl J,gl U]
 case ssl=>obtain⟨J,ao⟩:=j6 h;obtain⟨J,U⟩:=j6 J;rw[gl J,En U,En ao]
 case lsl=>obtain⟨J,ao⟩:=j6 h;obtain⟨J,U⟩:=j6 J;rw[gl J,En U,En ao]
 case bin=>obtain⟨J,U⟩:=j6 h;rw[gl J,gl U]
 case min2=>obtain⟨J,U⟩:=j6 h;rw[gl J,gl U]
 case build=>rw[NR h]
 case mkf=>rw[FI h]
 case mget=>simp[fP.isLoad]at ae
 case mgetB=>simp[fP.isLoad]at ae
 case ment=>simp[fP.isLoad]at ae
 case mlen=>simp[fP.isLoad]at ae
 case max2=>obtain⟨J,U⟩:=j6 h;rw[gl J,gl U]
 case beq=>obtain⟨J,U⟩:=j6 h;rw[gl J,gl U]
 all_goals rw[gl h]
end Go.Pv
