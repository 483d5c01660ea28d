/- Regions that draw their order, I: abstract states as functions, effects, and what an instruction does to them. -/
import Derived.WalkKit
import Derived.Orders
import Derived.KernelRfl
import Derived.IntWalk
import Derived.Laws.StructEq
import Derived.ChangeKeysEq
import Derived.MapKept
import Derived.ArgAppend
import Derived.Laws.OwnMore
set_option linter.all false
set_option maxHeartbeats 4000000
open Array renaming getElem?_toList→sG
open BitVec renaming ofInt→pG
open Bool renaming and_eq_true→cA,eq_iff_iff→pH,false_eq_true→gI
open ByteArray renaming ext→akI,size→apt
open Go renaming Program→cy,TypeId→fT
open Go.ByteArray renaming toList_eq→akJ
open Go.IntWalk renaming i64_in→oc
open Go.Op renaming bytesLess→hf
open Go.Region renaming wanted→od
open Go.Result renaming andThen_ok→fD
open Go.Sem renaming run_bind→fv,run_pure→gj
open Go.Value renaming cells→oU,ownBlock→nx
open Go.Value.pointer renaming injEq→apA
open Go.World.grownBy renaming refl→akM
open List renaming all_eq_true→ja,cons_append→bN,getElem?_eq_getElem→ca,getElem?_eq_none→pJ,getElem?_eq_some_iff→fH,length_append→oV,length_cons→pK,length_drop→rC,map_cons→gX,mem_append→ki,mem_cons→fU,mem_cons_of_mem→oW,mem_filter→mT,mem_map→iC,pairwise_cons→mg,replicate→qp,take→ll,take_length→oY,take_of_length_le→hq
open List.cons renaming injEq→pI
open Nat renaming add_mul→oZ,le_refl→eQ,le_trans→jT
open Ne renaming symm→ky
open Option renaming bind_some→kA,isSome_iff_exists→fE,isSome_none→lK,map_eq_some_iff→gA,map_some→ny
open Option.some renaming injEq→dz
open Prod.mk renaming injEq→jb
open _root_ renaming False→eI,Option→aW,UInt8→dA,beq_iff_eq→dG,congrArg→e1,decide_eq_true_eq→fx
namespace Go.Pv
open Go Go.RowKit
inductive aD where
 |loc (s:Nat)
 |obj (n:Nat)
 deriving DecidableEq,Inhabited
inductive Ag where
 |no
 |nil
 |own (k:aD)
 |tr (k:aD) (j:Nat)
 |lo (k:aD)
 deriving DecidableEq,Inhabited
inductive ah where
 |junk
 |int (k:IntKind) (n:Int)
 |bool (b:Bool)
 |str (s:List dA)
 |slice (sz:Nat) (tag:Ag) (xs:List ah)
 |agg (cs:List ah)
 |ptr (key:aD) (off:Nat)
 |eptr (x:ah)
 |iface (t:Nat) (x:ah)
 |nilp
 |tuple (ba:List ah)
 |func (f:Nat) (dh:List ah)
 |gmap (key:aD)
 |row (sz:Nat) (key:aD) (n:Nat)
 |rptr (sz:Nat) (key:aD) (n i f:Nat)
 |hdm (clock:Nat) (borns:List Nat)
 |hdi (since:Nat) (seen:List Nat) (last:Nat)
 |cst (v:Value)
 deriving Inhabited
structure bc where
 A:Nat→Nat→Prop
 bx:aD→aW Nat
 ow:aD→aW (Nat×Value)
 tr:aD→Nat→Nat→Prop
def lim:Nat:=68719476736
def k8(w:World)(A:Nat→Nat→Prop)(b:Nat):Nat→List Value→Prop
 |_,[]=>True
 |off,u::us=>(A b off∧w.cell? ⟨b,off,none⟩=some u)∧k8 w A b (off+1) us
def shape(w:World)(b:Nat):aW (Nat×fT×(Nat×Nat)):=
 match w.heap[b]? with
 |some (.cells cur el fz)=>some (cur.size,el,fz)
 |_=>none
theorem vB{w w':World}{b:Nat}(h:w'.heap[b]? =w.heap[b]?):shape w' b=shape w b:=by unfold shape;rw[h]
mutual
def fQ(t:Bool)(w:World)(A:Nat→Nat→Prop)(F:Nat→Prop):ah→Value→Prop
 | .int k n,v=>v= .int k n
 | .bool b,v=>v= .bool b
 | .str s,v=>v= .string ⟨s.toArray⟩∧s.length≤lim
 | .slice sz _ xs,v=> ∃a cap,v= .slice a xs.length cap∧xs.length≤cap∧(cap≤maxLen∧xs.length≤lim)∧
   (xs=[]∨ ∃b off us G,a=some ⟨b,off,none⟩∧F b∧(∀c,G c→F c∧(t=true→c≠b))∧k8 w A b off us∧(t=true→off=0∧0<us.length∧∃el,shape w b=some (cap*sz,el,(0,0)))∧ta t w A G sz xs us)
 | .agg cs,v=> ∃us:Array Value,v= .agg us∧tb t w A F cs us.toList
 |_,_=>eI
def tb(t:Bool)(w:World)(A:Nat→Nat→Prop)(F:Nat→Prop):List ah→List Value→Prop
 |[],us=>us=[]
 |c::cs,us=> ∃u cb hP h0,us=u::cb∧((∀b,hP b→F b)∧(∀b,h0 b→F b)∧(t=true→∀b,hP b→¬h0 b))∧(fQ t w A hP c u∧u.oneCell'=true)∧tb t w A h0 cs cb
def ta(t:Bool)(w:World)(A:Nat→Nat→Prop)(F:Nat→Prop)(sz:Nat):List ah→List Value→Prop
 |[],us=>us=[]
 |x::xs,us=> ∃u cb hP h0,us=u.cells.toList++cb∧((∀b,hP b→F b)∧(∀b,h0 b→F b)∧(t=true→∀b,hP b→¬h0 b))∧(fQ t w A hP x u∧u.cells.size=sz∧(∀c∈u.cells.toList,c.oneCell'=true))∧ta t w A h0 sz xs cb
end
mutual
def a7(w:World)(ν:bc):ah→Value→Prop
 | .junk,_=>True
 | .int k n,v=>v= .int k n
 | .bool b,v=>v= .bool b
 | .str s,v=>v= .string ⟨s.toArray⟩∧s.length≤lim
 | .slice sz tag xs,v=>
   (∃a cap,v= .slice a xs.length cap∧xs.length≤cap∧(cap≤maxLen∧xs.length≤lim)∧(xs=[]∨ ∃b off us,a=some ⟨b,off,none⟩∧k8 w ν.A b off us∧dt w ν sz xs us))∧
   (tag= .nil→v= .slice none 0 0)∧
   (∀g,tag= .own g→∃n u,ν.ow g=some (n,u)∧xs.length≤n∧(xs.length=n→v=u))∧
   (∀k j,tag= .tr k j→fQ true w ν.A (ν.tr k j) (.slice sz tag xs) v)∧(∀k,tag= .lo k→fQ false w ν.A (ν.tr k 0) (.slice sz tag xs) v)
 | .agg cs,v=> ∃us:Array Value,v= .agg us∧c0 w ν cs us.toList
 | .ptr key off,v=> ∃b,ν.bx key=some b∧v= .pointer (some ⟨b,off,none⟩)
 | .eptr x,v=> ∃b off u,v= .pointer (some ⟨b,off,none⟩)∧a7 w ν x u∧k8 w ν.A b off u.cells.toList
 | .iface t x,v=> ∃u,v= .iface t u∧a7 w ν x u
 | .nilp,v=>v= .pointer none
 | .tuple ba,v=> ∃us:Array Value,v= .tuple us∧cH w ν ba us.toList
 | .func f dh,v=> ∃us:Array Value,v= .func (.func f) #[] us∧cH w ν dh us.toList
 | .gmap key,v=> ∃b,ν.bx key=some b∧v= .map (some b)
 | .row _ key n,v=>(∃b cap,v= .slice (some ⟨b,0,none⟩) n cap)∧n≤lim∧∃n' u,ν.ow key=some (n',u)∧n≤n'∧(n=n'→v=u)
 | .rptr sz key n i f,v=>(∃b o,v= .pointer (some ⟨b,o,none⟩))∧i<n∧∃n' u,ν.ow key=some (n',u)∧n≤n'∧(n=n'→∃b,u.ownBlock=some b∧v= .pointer (some ⟨b,i*sz+f,none⟩))
 | .hdm _ _,_=>eI
 | .hdi _ _ _,_=>eI
 | .cst c,v=>v=c
def c0(w:World)(ν:bc):List ah→List Value→Prop
 |[],us=>us=[]
 |c::cs,us=> ∃u cb,us=u::cb∧(a7 w ν c u∧u.oneCell'=true)∧c0 w ν cs cb
def cH(w:World)(ν:bc):List ah→List Value→Prop
 |[],us=>us=[]
 |c::cs,us=> ∃u cb,us=u::cb∧a7 w ν c u∧cH w ν cs cb
def dt(w:World)(ν:bc)(sz:Nat):List ah→List Value→Prop
 |[],us=>us=[]
 |x::xs,us=> ∃u cb,us=u.cells.toList++cb∧(a7 w ν x u∧u.cells.size=sz∧(∀c∈u.cells.toList,c.oneCell'=true))∧dt w ν sz xs cb
end
theorem EE{w w':World}{A fV:Nat→Nat→Prop}{b:Nat}(bd:∀b o,A b o→fV b o∧w'.cell? ⟨b,o,none⟩=w.cell? ⟨b,o,none⟩):
  ∀(us:List Value) (off:Nat),k8 w A b off us→k8 w' fV b off us
 |[],_,_=>trivial
 |_::us,off,h=>⟨⟨(bd _ _ h.1.1).1,(bd _ _ h.1.1).2.trans h.1.2⟩,EE bd us (off+1) h.2⟩
mutual
theorem DI{t:Bool}{w w':World}{A fV:Nat→Nat→Prop}(bd:∀b o,A b o→fV b o∧w'.cell? ⟨b,o,none⟩=w.cell? ⟨b,o,none⟩)(ag:∀b o,A b o→shape w' b=shape w b):∀(p:ah) (F oh:Nat→Prop) (v:Value),(∀b,F b→oh b)→fQ t w A F p v→fQ t w' fV oh p v
 | .int k n,_,_,_,_,h=>by simp only[fQ]at h⊢;exact h
 | .bool b,_,_,_,_,h=>by simp only[fQ]at h⊢;exact h
 | .str s,_,_,_,_,h=>by simp only[fQ]at h⊢;exact h
 | .slice sz tag xs,F,oh,v,gw,h=>by
  simp only[fQ]at h⊢;obtain⟨a,cap,J,U,al,a6⟩:=h;refine⟨a,cap,J,U,al,?_⟩;rcases a6 with a6|⟨b,off,us,G,aj,aC,bg,da,gL,hz⟩
  ·exact .inl a6
  ·refine .inr ⟨b,off,us,G,aj,gw _ aC,fun c aw=>⟨gw _ (bg c aw).1,(bg c aw).2⟩,EE bd _ _ da,fun aO=>?_,PA bd ag xs G G _ (fun _ h=>h) hz⟩;obtain⟨f1,f2,el,f3⟩:=gL aO;refine⟨f1,f2,el,?_⟩;cases us with
   |nil=>simp at f2
   |cons u us=>rw[ag b off da.1.1];exact f3
 | .agg cs,F,oh,v,gw,h=>by simp only[fQ]at h⊢;obtain⟨us,J,U⟩:=h;exact⟨us,J,PB bd ag cs F oh _ gw U⟩
 | .junk,_,_,_,_,h=>by simp[fQ]at h
 | .ptr _ _,_,_,_,_,h=>by simp[fQ]at h
 | .eptr _,_,_,_,_,h=>by simp[fQ]at h
 | .iface _ _,_,_,_,_,h=>by simp[fQ]at h
 | .nilp,_,_,_,_,h=>by simp[fQ]at h
 | .tuple _,_,_,_,_,h=>by simp[fQ]at h
 | .func _ _,_,_,_,_,h=>by simp[fQ]at h
 | .gmap _,_,_,_,_,h=>by simp[fQ]at h
 | .row _ _ _,_,_,_,_,h=>by simp[fQ]at h
 | .rptr _ _ _ _ _,_,_,_,_,h=>by simp[fQ]at h
 | .hdm _ _,_,_,_,_,h=>by simp[fQ]at h
 | .hdi _ _ _,_,_,_,_,h=>by simp[fQ]at h
 | .cst _,_,_,_,_,h=>by simp[fQ]at h
theorem PB{t:Bool}{w w':World}{A fV:Nat→Nat→Prop}(bd:∀b o,A b o→fV b o∧w'.cell? ⟨b,o,none⟩=w.cell? ⟨b,o,none⟩)(ag:∀b o,A b o→shape w' b=shape w b):∀(cs:List ah) (F oh:Nat→Prop) (us:List Value),(∀b,F b→oh b)→tb t w A F cs us→tb t w' fV oh cs us
 |[],_,_,_,_,h=>by simp only[tb]at h⊢;exact h
 |c::cs,F,oh,us,gw,h=>by simp only[tb]at h⊢;obtain⟨u,cb,hP,h0,J,⟨U,al,a6⟩,⟨bW,c3⟩,dV⟩:=h;exact⟨u,cb,hP,h0,J,⟨fun b ae=>gw _ (U b ae),fun b ae=>gw _ (al b ae),a6⟩,⟨DI bd ag c hP hP u (fun _ h=>h) bW,c3⟩,PB bd ag cs h0 h0 cb (fun _ h=>h) dV⟩
theorem PA{t:Bool}{w w':World}{A fV:Nat→Nat→Prop}(bd:∀b o,A b o→fV b o∧w'.cell? ⟨b,o,none⟩=w.cell? ⟨b,o,none⟩)(ag:∀b o,A b o→shape w' b=shape w b){sz:Nat}:∀(cs:List ah) (F oh:Nat→Prop) (us:List Value),(∀b,F b→oh b)→ta t w A F sz cs us→ta t w' fV oh sz cs us
 |[],_,_,_,_,h=>by simp only[ta]at h⊢;exact h
 |c::cs,F,oh,us,gw,h=>by simp only[ta]at h⊢;obtain⟨u,cb,hP,h0,J,⟨U,al,a6⟩,⟨bW,c3⟩,dV⟩:=h;exact⟨u,cb,hP,h0,J,⟨fun b ae=>gw _ (U b ae),fun b ae=>gw _ (al b ae),a6⟩,⟨DI bd ag c hP hP u (fun _ h=>h) bW,c3⟩,PA bd ag cs h0 h0 cb (fun _ h=>h) dV⟩
end
mutual
def aB(S:aD→Prop):ah→Prop
 | .slice _ tag xs=>(match tag with| .own k=>S k| .tr k _=>S k| .lo k=>S k|_=>True)∧aH S xs
 | .agg cs=>aH S cs
 | .ptr k _=>S k
 | .eptr x=>aB S x
 | .iface _ x=>aB S x
 | .tuple ba=>aH S ba
 | .func _ dh=>aH S dh
 | .gmap k=>S k
 | .row _ k _=>S k
 | .rptr _ k _ _ _=>S k
 |_=>True
def aH(S:aD→Prop):List ah→Prop
 |[]=>True
 |x::xs=>aB S x∧aH S xs
end
mutual
theorem vc{S T:aD→Prop}(h:∀k,S k→T k):∀p:ah,aB S p→aB T p
 | .junk,_=>by simp[aB]
 | .int _ _,_=>by simp[aB]
 | .bool _,_=>by simp[aB]
 | .str _,_=>by simp[aB]
 | .slice sz tag xs,bF=>by simp only[aB]at bF⊢;exact⟨by cases tag<;>first|trivial|exact h _ bF.1,jw h xs bF.2⟩
 | .agg cs,bF=>by simp only[aB]at bF⊢;exact jw h cs bF
 | .ptr k _,bF=>by simp only[aB]at bF⊢;exact h _ bF
 | .eptr x,bF=>by simp only[aB]at bF⊢;exact vc h x bF
 | .iface _ x,bF=>by simp only[aB]at bF⊢;exact vc h x bF
 | .nilp,_=>by simp[aB]
 | .tuple ba,bF=>by simp only[aB]at bF⊢;exact jw h ba bF
 | .func _ dh,bF=>by simp only[aB]at bF⊢;exact jw h dh bF
 | .gmap k,bF=>by simp only[aB]at bF⊢;exact h _ bF
 | .row _ k _,bF=>by simp only[aB]at bF⊢;exact h _ bF
 | .rptr _ k _ _ _,bF=>by simp only[aB]at bF⊢;exact h _ bF
 | .hdm _ _,_=>by simp[aB]
 | .hdi _ _ _,_=>by simp[aB]
 | .cst _,_=>by simp[aB]
theorem jw{S T:aD→Prop}(h:∀k,S k→T k):∀cm:List ah,aH S cm→aH T cm
 |[],_=>by simp[aH]
 |x::xs,bF=>by simp only[aH]at bF⊢;exact⟨vc h x bF.1,jw h xs bF.2⟩
end
mutual
theorem EB:∀p:ah,aB (fun _=>True) p
 | .junk=>by simp[aB]
 | .int _ _=>by simp[aB]
 | .bool _=>by simp[aB]
 | .str _=>by simp[aB]
 | .slice sz tag xs=>by simp only[aB];exact⟨by cases tag<;>trivial,tA xs⟩
 | .agg cs=>by simp only[aB];exact tA cs
 | .ptr k _=>by simp[aB]
 | .eptr x=>by simp only[aB];exact EB x
 | .iface _ x=>by simp only[aB];exact EB x
 | .nilp=>by simp[aB]
 | .tuple ba=>by simp only[aB];exact tA ba
 | .func _ dh=>by simp only[aB];exact tA dh
 | .gmap k=>by simp[aB]
 | .row _ k _=>by simp[aB]
 | .rptr _ k _ _ _=>by simp[aB]
 | .hdm _ _=>by simp[aB]
 | .hdi _ _ _=>by simp[aB]
 | .cst _=>by simp[aB]
theorem tA:∀cm:List ah,aH (fun _=>True) cm
 |[]=>by simp[aH]
 |x::xs=>by simp only[aH];exact⟨EB x,tA xs⟩
end
def fq:List Nat→List Value→List MapEntry
 |b::eF,k::v::r=>⟨k,v,b⟩::fq eF r
 |_,_=>[]
def jq(cs:List ah)(us:Array Value)(el:fT):Obj:=
 match cs with
 | .hdm clock borns::_=>.map (fq borns us.toList).toArray clock
 | .hdi since seen last::_=>.mapIter (match us.toList with|[.map m]=>m|_=>none) since seen.toArray last
 |_=>.cells us el
structure aem (clock:Nat) (borns:List Nat) (r:List ah):Prop where
 len:r.length=2*borns.length
 inc:borns.Pairwise (· < ·)
 lt:∀b∈borns,b<clock
def iM(w:World)(ν:bc)(cs:List ah)(us:List Value):Prop:=
 match cs with
 | .hdm clock borns::r=>cH w ν r us∧aem clock borns r
 | .hdi _ _ _::r=>cH w ν r us
 |cs=>c0 w ν cs us
def hF:List ah→Bool
 | .hdm _ _::_=>false
 | .hdi _ _ _::_=>false
 |_=>true
theorem zI{w:World}{ν:bc}{cs:List ah}{us:List Value}(h:c0 w ν cs us):hF cs=true:=by
 unfold hF;split
 ·simp only[c0,a7]at h;obtain⟨_,_,_,⟨h,_⟩,_⟩:=h;exact h.elim
 ·simp only[c0,a7]at h;obtain⟨_,_,_,⟨h,_⟩,_⟩:=h;exact h.elim
 ·rfl
theorem tN{cs:List ah}(h:hF cs=true)(us:Array Value)(el:fT):jq cs us el= .cells us el:=by
 unfold hF at h;unfold jq;split at h<;>first|cases h|skip
 rfl
theorem tO{w:World}{ν:bc}{cs:List ah}(h:hF cs=true)(us:List Value):iM w ν cs us=c0 w ν cs us:=by
 unfold hF at h;unfold iM;split at h<;>first|cases h|skip
 rfl
structure oj (S:aD→Prop) (w:World) (ν:bc) (w':World) (bn:bc):Prop where
 A:∀b o,ν.A b o→bn.A b o∧w'.cell? ⟨b,o,none⟩=w.cell? ⟨b,o,none⟩
 bx:∀k b,S k→ν.bx k=some b→bn.bx k=some b
 ow:∀g n u,S g→ν.ow g=some (n,u)→∃n' e0,bn.ow g=some (n',e0)∧(n'=n∧e0=u∨n<n')
 sh:∀b o,ν.A b o→shape w' b=shape w b
 tr:∀k j b,S k→ν.tr k j b→bn.tr k j b
abbrev kT:=oj (fun _=>True)
mutual
theorem tW{S:aD→Prop}{w w':World}{ν bn:bc}(av:oj S w ν w' bn):∀(p:ah) (v:Value),aB S p→a7 w ν p v→a7 w' bn p v
 | .junk,_,_,_=>by simp[a7]
 | .int k n,_,_,h=>by simp only[a7]at h⊢;exact h
 | .bool b,_,_,h=>by simp only[a7]at h⊢;exact h
 | .str s,_,_,h=>by simp only[a7]at h⊢;exact h
 | .slice sz tag xs,v,ab,h=>by
  simp only[a7,aB]at h ab⊢;obtain⟨⟨a,cap,J,U,al,a6⟩,bW,c3,nc,rT⟩:=h;refine⟨⟨a,cap,J,U,al,?_⟩,bW,fun g a1=>?_,fun k j nf=>?_,fun k nf=>?_⟩
  ·rcases a6 with a6|⟨b,off,us,a6,c3,dV⟩
   ·exact .inl a6
   ·exact .inr ⟨b,off,us,a6,EE av.A _ _ c3,Fy av sz xs us ab.2 dV⟩
  ·obtain⟨n,u,aj,aC,bg⟩:=c3 g a1;subst a1;obtain⟨n',e0,f1,f2⟩:=av.ow g n u ab.1 aj;refine⟨n',e0,f1,?_⟩;rcases f2 with⟨rfl,rfl⟩|f2
   ·exact⟨aC,bg⟩
   ·exact⟨by omega,fun e=>by omega⟩
  ·have:=nc k j nf;subst nf;exact DI av.A av.sh _ _ _ _ (fun b=>av.tr k j b ab.1) this
  ·have:=rT k nf;subst nf;exact DI av.A av.sh _ _ _ _ (fun b=>av.tr k 0 b ab.1) this
 | .agg cs,v,ab,h=>by simp only[a7,aB]at h ab⊢;obtain⟨us,J,U⟩:=h;exact⟨us,J,FB av cs _ ab U⟩
 | .ptr key off,v,ab,h=>by simp only[a7,aB]at h ab⊢;obtain⟨b,J,U⟩:=h;exact⟨b,av.bx _ _ ab J,U⟩
 | .iface t x,v,ab,h=>by simp only[a7,aB]at h ab⊢;obtain⟨u,J,U⟩:=h;exact⟨u,J,tW av x u ab U⟩
 | .eptr x,v,ab,h=>by simp only[a7,aB]at h ab⊢;obtain⟨b,off,u,J,U,al⟩:=h;exact⟨b,off,u,J,tW av x u ab U,EE av.A _ _ al⟩
 | .nilp,_,_,h=>by simp only[a7]at h⊢;exact h
 | .tuple ba,v,ab,h=>by simp only[a7,aB]at h ab⊢;obtain⟨us,J,U⟩:=h;exact⟨us,J,xy av ba _ ab U⟩
 | .func f dh,v,ab,h=>by simp only[a7,aB]at h ab⊢;obtain⟨us,J,U⟩:=h;exact⟨us,J,xy av dh _ ab U⟩
 | .gmap key,v,ab,h=>by simp only[a7,aB]at h ab⊢;obtain⟨b,J,U⟩:=h;exact⟨b,av.bx _ _ ab J,U⟩
 | .row sz key n,v,ab,h=>by
  simp only[a7,aB]at h ab⊢;obtain⟨J,U,n',u,al,a6,bW⟩:=h;obtain⟨fZ,iY,f1,f2⟩:=av.ow key n' u ab al;refine⟨J,U,fZ,iY,f1,?_⟩;rcases f2 with⟨rfl,rfl⟩|f2
  ·exact⟨a6,bW⟩
  ·exact⟨by omega,fun e=>by omega⟩
 | .rptr sz key n i f,v,ab,h=>by
  simp only[a7,aB]at h ab⊢;obtain⟨J,U,n',u,al,a6,bW⟩:=h;obtain⟨fZ,iY,f1,f2⟩:=av.ow key n' u ab al;refine⟨J,U,fZ,iY,f1,?_⟩;rcases f2 with⟨rfl,rfl⟩|f2
  ·exact⟨a6,bW⟩
  ·exact⟨by omega,fun e=>by omega⟩
 | .hdm _ _,_,_,h=>by simp only[a7]at h
 | .hdi _ _ _,_,_,h=>by simp only[a7]at h
 | .cst c,_,_,h=>by simp only[a7]at h⊢;exact h
theorem FB{S:aD→Prop}{w w':World}{ν bn:bc}(av:oj S w ν w' bn):∀(cs:List ah) (us:List Value),aH S cs→c0 w ν cs us→c0 w' bn cs us
 |[],_,_,h=>by simp only[c0]at h⊢;exact h
 |c::cs,us,ab,h=>by simp only[c0,aH]at h ab⊢;obtain⟨u,cb,J,U,al⟩:=h;exact⟨u,cb,J,⟨tW av c u ab.1 U.1,U.2⟩,FB av cs cb ab.2 al⟩
theorem xy{S:aD→Prop}{w w':World}{ν bn:bc}(av:oj S w ν w' bn):∀(cs:List ah) (us:List Value),aH S cs→cH w ν cs us→cH w' bn cs us
 |[],_,_,h=>by simp only[cH]at h⊢;exact h
 |c::cs,us,ab,h=>by simp only[cH,aH]at h ab⊢;obtain⟨u,cb,J,U,al⟩:=h;exact⟨u,cb,J,tW av c u ab.1 U,xy av cs cb ab.2 al⟩
theorem Fy{S:aD→Prop}{w w':World}{ν bn:bc}(av:oj S w ν w' bn)(sz:Nat):∀(xs:List ah) (us:List Value),aH S xs→dt w ν sz xs us→dt w' bn sz xs us
 |[],_,_,h=>by simp only[dt]at h⊢;exact h
 |x::xs,us,ab,h=>by simp only[dt,aH]at h ab⊢;obtain⟨u,cb,J,⟨U,al,a6⟩,bW⟩:=h;exact⟨u,cb,J,⟨tW av x u ab.1 U,al,a6⟩,Fy av sz xs cb ab.2 bW⟩
end
theorem Ua{S:aD→Prop}{w w':World}{ν bn:bc}(av:oj S w ν w' bn){cs:List ah}{us:List Value}(ab:aH S cs)(h:iM w ν cs us):iM w' bn cs us:=by
 unfold iM at h⊢;split
 ·simp only[aH]at ab;exact⟨xy av _ _ ab.2 h.1,h.2⟩
 ·simp only[aH]at ab;exact xy av _ _ ab.2 h
 ·rename_i J U;split at h
  ·exact absurd rfl (J _ _ _)
  ·exact absurd rfl (U _ _ _ _)
  ·exact FB av _ _ ab h
section
variable {w w':World} {ν bn:bc} (av:kT w ν w' bn)
include av
theorem xz{p:ah}{v:Value}(h:a7 w ν p v):a7 w' bn p v:=tW av p v (EB p) h
theorem Uf{p:List ah}{v:List Value}(h:c0 w ν p v):c0 w' bn p v:=FB av p v (tA p) h
theorem FE{p:List ah}{v:List Value}(h:cH w ν p v):cH w' bn p v:=xy av p v (tA p) h
theorem pB{p:List ah}{v:List Value}(h:iM w ν p v):iM w' bn p v:=Ua av (tA p) h
theorem zF{sz:Nat}{p:List ah}{v:List Value}(h:dt w ν sz p v):dt w' bn sz p v:=Fy av sz p v (tA p) h
end
end Go.Pv
namespace Go.Pv
open Go Go.RowKit
def get(k:Nat):List (Nat×ah)→ah
 |[]=>.junk
 |(i,p)::r=>if i=k then p else get k r
def put(k:Nat)(p:ah):List (Nat×ah)→List (Nat×ah)
 |[]=>[(k,p)]
 |(i,q)::r=>if i=k then(i,p)::r else(i,q)::put k p r
def look{α:Type}(k:aD):List (aD×α)→aW α
 |[]=>none
 |(i,p)::r=>if i=k then some p else look k r
def cw{α:Type}(k:aD)(p:α):List (aD×α)→List (aD×α)
 |[]=>[(k,p)]
 |(i,q)::r=>if i=k then(i,p)::r else(i,q)::cw k p r
theorem oF(k j:Nat)(p:ah):∀l,get j (put k p l)=if k=j then p else get j l
 |[]=>by simp[get,put]
 |(i,q)::r=>by
  by_cases h:i=k
  ·subst h;by_cases U:i=j<;>simp[get,put,U]
  ·by_cases U:i=j
   ·subst U;simp[get,put,h,ky h]
   ·simp[get,put,h,U,oF k j p r]
theorem iw{α:Type}(k j:aD)(p:α):∀l,look j (cw k p l)=if k=j then some p else look j l
 |[]=>by simp[look,cw]
 |(i,q)::r=>by
  by_cases h:i=k
  ·subst h;by_cases U:i=j<;>simp[look,cw,U]
  ·by_cases U:i=j
   ·subst U;simp[look,cw,h,ky h]
   ·simp[look,cw,h,U,iw k j p r]
structure fF where
 n:Nat
 el:Nat
 sz:Nat
 xs:aW (List ah)
def KM(w:World)(ν:bc)(o:fF)(v:Value)(us:List Value):Prop:=∀xs,o.xs=some xs→xs.length=o.n∧dt w ν o.sz xs us∧∀bl,v.ownBlock=some bl→∀j,¬ν.A bl j
theorem rj{w w':World}{ν bn:bc}(av:kT w ν w' bn){o:fF}{v:Value}{us:List Value}(bd:∀bl,v.ownBlock=some bl→∀j,bn.A bl j→ν.A bl j)(h:KM w ν o v us):KM w' bn o v us:=fun xs ad=>⟨(h xs ad).1,zF av (h xs ad).2.1,fun bl ae j af=>(h xs ad).2.2 bl ae j (bd bl ae j af)⟩
def dN(S:aD→Prop)(o:fF):Prop:= ∀xs,o.xs=some xs→aH S xs
structure bo where
 t:List (Nat×ah)
 b:List (aD×List ah)
 e:List (aD×fF)
 n:Nat
 o:List aD
def fresh(n:Nat)(o:List aD)(k:aD):Prop:=(match k with| .loc m=>n≤m| .obj _=>True)∧k∉o
theorem HI{n n':Nat}{o o':List aD}(aA:n≤n')(av:∀k∈o,k∈o'){k:aD}(h:fresh n' o' k):fresh n o k:=by unfold fresh at h⊢;exact⟨by cases k<;>simp at h⊢;omega,fun ab=>h.2 (av k ab)⟩
def Lf(ν:bc)(b:List (aD×List ah))(e:List (aD×fF))(bl:Nat):Prop:=(∃k,(look k b).isSome∧ν.bx k=some bl)∨(∃g n v,(look g e).isSome∧ν.ow g=some (n,v)∧v.ownBlock=some bl)
structure Good (pr:Nat→Prop) (w:World) (ν:bc) (b:List (aD×List ah)) (e:List (aD×fF)):Prop where
 alt:∀bl o,ν.A bl o→bl<w.heap.size
 box:∀k cs,look k b=some cs→∃bl us el,ν.bx k=some bl∧pr bl∧(∀o,¬ν.A bl o)∧w.heap[bl]? =some (jq cs us el)∧iM w ν cs us.toList
 inj:∀k bH bl,(look k b).isSome→(look bH b).isSome→ν.bx k=some bl→ν.bx bH=some bl→k=bH
 own:∀g o,look g e=some o→∃v us,ν.ow g=some (o.n,v)∧w.ownsRow 0 o.el o.sz v o.n us∧(∀bl,v.ownBlock=some bl→pr bl∧(∀j,ν.A bl j→j<o.n*o.sz))∧KM w ν o v us
 oinj:∀g e8 n n' v v' bl,(look g e).isSome→(look e8 e).isSome→ν.ow g=some (n,v)→ν.ow e8=some (n',v')→v.ownBlock=some bl→v'.ownBlock=some bl→g=e8
 obx:∀g k n v bl,(look g e).isSome→(look k b).isSome→ν.ow g=some (n,v)→v.ownBlock=some bl→ν.bx k=some bl→eI
 one:∀k,ν.bx k=none∨ν.ow k=none
 otr:∀bl,Lf ν b e bl→∀k j,¬ν.tr k j bl
structure e7 where
 w0:World
 ν0:bc
 mt:Nat→Prop
 N:Nat
 ob:List aD
def e7.pr(C:e7)(bl:Nat):Prop:=C.mt bl∨C.w0.heap.size≤bl
def aiq:aD:= .obj 990001
def fM:aD:= .obj 990002
structure pM (C:e7) (w:World) (ν:bc):Prop where
 os:w.os=C.w0.os
 tape:w.tape=C.w0.tape
 output:w.output=C.w0.output
 size:C.w0.heap.size≤w.heap.size
 block:∀k,k<C.w0.heap.size→¬C.mt k→w.heap[k]? =C.w0.heap[k]?
 keep:∀b o,C.ν0.A b o→ν.A b o∧w.cell? ⟨b,o,none⟩=C.w0.cell? ⟨b,o,none⟩
 fresh:∀b o,ν.A b o→C.ν0.A b o∨C.pr b
 obj:∀n b,C.ν0.bx (.obj n)=some b→ν.bx (.obj n)=some b
 obn:∀n b,C.ν0.bx (.obj n)=some b→ .obj n∈C.ob
 row:∀m n u,C.ν0.ow (.obj m)=some (n,u)→∃n' e0,ν.ow (.obj m)=some (n',e0)∧(n'=n∧e0=u∨n<n')
 obr:∀m n u,C.ν0.ow (.obj m)=some (n,u)→ .obj m∈C.ob
 trd:∀k j bH du b,ν.tr k j b→ν.tr bH du b→k=bH∧j=du
 trb:∀k j b,ν.tr k j b→(k=aiq∨C.w0.heap.size≤b)∧b<w.heap.size
 trn:∀k j b,ν.tr k j b→ν.bx k=none∧ν.ow k=none
 sh:∀b o,C.ν0.A b o→shape w b=shape C.w0 b
theorem Cq{ν bn:bc}{g:aD}{n:Nat}{u:Value}(h:∃n' e0,ν.ow g=some (n',e0)∧(n'=n∧e0=u∨n<n'))(av:∀n u,ν.ow g=some (n,u)→∃n' e0,bn.ow g=some (n',e0)∧(n'=n∧e0=u∨n<n')):
  ∃n' e0,bn.ow g=some (n',e0)∧(n'=n∧e0=u∨n<n'):=by
 obtain⟨hX,iA,aj,aC⟩:=h;obtain⟨fZ,iY,f1,f2⟩:=av hX iA aj;refine⟨fZ,iY,f1,?_⟩;rcases aC with⟨rfl,rfl⟩|aC
 ·exact f2
 ·rcases f2 with⟨rfl,rfl⟩|f2
  ·exact .inr aC
  ·exact .inr (by omega)
structure cJ (C:e7) (st:bo) (a:Act) (w:World) (ν:bc):Prop where
 good:Good C.pr w ν st.b st.e
 fr:pM C w ν
 defers:a.defers=[]
 size:a.tmps.size=C.N
 slot:∀i,a7 w ν (get i st.t) (a.tmps.getD i undef)
 new:∀k,fresh st.n st.o k→ν.bx k=none∧ν.ow k=none∧∀j b,¬ν.tr k j b
def eC(d:aW Nat)(p:ah)(t:List (Nat×ah)):List (Nat×ah):=
 match d with
 |some d=>put d p t
 |none=>t
def iS(N:Nat)(d:aW Nat):Bool:=match d with|some d=>decide (d<N)|none=>true
theorem cJ.put{C:e7}{st:bo}{a:Act}{w:World}{ν:bc}(h:cJ C st a w ν){d:aW Nat}(aP:iS C.N d=true){p:ah}{v:Value}(bF:a7 w ν p v):
  cJ C {st with t:=eC d p st.t} (a.put d v) w ν:=by
 cases d with
 |none=>exact h
 |some d=>
  have bu:d<a.tmps.size:=by rw[h.size];simpa[iS]using aP
  refine⟨h.good,h.fr,h.defers,by simpa[Act.put]using h.size,fun i=>?_,h.new⟩;simp only[eC,oF];by_cases e:d=i
  ·subst e;simpa[Act.put,Array.getD_eq_getD_getElem?,bu]using bF
  ·have:=h.slot i;simpa[e,Act.put,Array.getD_eq_getD_getElem?,Array.getElem?_setIfInBounds_ne e]using this
theorem cJ.over{C:e7}{st st':bo}{a:Act}{w w':World}{ν bn:bc}(h:cJ C st a w ν)(av:kT w ν w' bn)(aO:st'.t=st.t)(a1:Good C.pr w' bn st'.b st'.e)(aI:pM C w' bn)
  (aA:∀k,fresh st'.n st'.o k→bn.bx k=none∧bn.ow k=none∧∀j b,¬bn.tr k j b):cJ C st' a w' bn:=
 ⟨a1,aI,h.defers,h.size,fun i=>by rw[aO];exact xz av (h.slot i),aA⟩
inductive dk where
 |t (i:Nat)
 |c (p:ah)
 deriving Inhabited
def cg(t:List (Nat×ah)):dk→ah
 | .t i=>get i t
 | .c p=>p
def C8:ah→Value→Bool
 | .int k n,.int bH n'=>decide (k=bH∧n=n')
 | .bool b,.bool bY=>b==bY
 | .str s,.string l=>decide (l.data.toList=s∧s.length≤lim)
 | .slice _ .nil [],.slice none 0 0=>true
 | .nilp,.pointer none=>true
 | .tuple [],.tuple ⟨[]⟩=>true
 | .func f [],.func (.func g) ⟨[]⟩ ⟨[]⟩=>f==g
 | .junk,_=>true
 |_,_=>false
theorem Mu(w:World)(ν:bc){p:ah}{v:Value}(h:C8 p v=true):a7 w ν p v:=by
 unfold C8 at h;split at h
 ·simp at h;obtain⟨rfl,rfl⟩:=h;simp[a7]
 ·simp at h;subst h;simp[a7]
 ·rename_i s l;simp at h;obtain⟨J,U⟩:=h;refine⟨?_,U⟩;subst J;simp
 ·simp only[a7];refine⟨⟨none,0,rfl,by simp,by simp,by simp⟩,by simp,(fun _ h=>by cases h),(fun _ _ h=>by cases h),(fun _ h=>by cases h)⟩
 ·simp[a7]
 ·simp[a7,cH]
 ·simp at h;subst h;simp[a7,cH]
 ·simp[a7]
 ·cases h
def x6:List ah→List Value→Bool
 |[],[]=>true
 |p::cm,v::ba=>C8 p v&&v.oneCell'&&x6 cm ba
 |_,_=>false
def x5:ah→Value→Bool
 | .agg cs,.agg us=>x6 cs us.toList
 |p,v=>C8 p v
theorem Mv(w:World)(ν:bc):∀(cm:List ah) (ba:List Value),x6 cm ba=true→c0 w ν cm ba
 |[],[],_=>by simp[c0]
 |[],_::_,h=>by simp[x6]at h
 |_::_,[],h=>by simp[x6]at h
 |p::cm,v::ba,h=>by simp only[x6,cA]at h;simp only[c0];exact⟨v,ba,rfl,⟨Mu w ν h.1.1,h.1.2⟩,Mv w ν cm ba h.2⟩
theorem GL(w:World)(ν:bc){p:ah}{v:Value}(h:x5 p v=true):a7 w ν p v:=by
 unfold x5 at h;split at h
 ·simp only[a7];exact⟨_,rfl,Mv w ν _ _ h⟩
 ·exact Mu w ν h
def dY:dk→Operand→Bool
 | .t i,.tmp j=>i==j
 | .c p,.const v=>x5 p v
 | .c (.func f []),.func g=>f==g
 |_,_=>false
theorem dZ{C:e7}{st:bo}{a:Act}{w:World}{ν:bc}(h:cJ C st a w ν){x:dk}{o:Operand}(ad:dY x o=true):a7 w ν (cg st.t x) (a.eval o):=by
 unfold dY at ad;split at ad
 ·simp at ad;subst ad;simpa[cg,Act.eval]using h.slot _
 ·simpa[cg,Act.eval]using GL w ν ad
 ·simp at ad;subst ad;simp[cg,Act.eval,a7,cH]
 ·cases ad
inductive Af where
 |int (k:IntKind)
 |bool
 |str
 |slice (e:Nat)
 |struct (dF:List (Nat×Nat))
 |map (k e:Nat)
 |other
 deriving DecidableEq
structure dB where
 size:Nat
 bytes:Nat
 kind:Af
 zero:ah
def Af.isAgg:Af→Bool
 | .struct _=>true
 |_=>false
def z7:List ah→List Value→Bool
 |[],[]=>true
 |p::cm,v::ba=>x5 p v&&v.oneCell'&&z7 cm ba
 |_,_=>false
def xT:ah→Value→Bool
 | .agg cs,.agg us=>z7 cs us.toList
 | .agg _,_=>false
 |p,v=>x5 p v&&v.oneCell'
def jJ:Af→TypeDesc→Bool
 | .int k,.int bH=>decide (k=bH)
 | .bool,.bool=>true
 | .str,.string=>true
 | .slice e,.slice fB=>e==fB
 | .struct dF,.struct gs=>decide (gs.toList.map (fun f=>(f.offset,f.type))=dF)
 | .map k e,.map bH fB=>k==bH&&e==fB
 | .other,d=>match d with| .struct _| .array _ _| .int _| .bool| .string| .slice _=>false|_=>true
 |_,_=>false
def Pr(P:cy)(gs:Array Field):Bool:=gs.toList.all fun f=>match P.underlying f.type with|some (.int _)=>true|some .string=>true|_=>false
def OE(P:cy)(t:Nat)(gs:Array Field):Bool:=gs.toList.all (fun f=>f.name != "_")&& !P.stoodInHeld t&& !P.eqGuardType P.depth t
def G9(P:cy)(t:Nat):TypeDesc→Bool
 | .struct gs=> !Pr P gs||OE P t gs
 |_=>true
def Li(P:cy)(t:Nat)(f:dB):Bool:=
 match P.info? t,P.underlying t with
 |some i,some d=>G9 P t d&&i.size==f.size&&i.bytes==f.bytes&&jJ f.kind d&&(match i.zero with|some z=>xT f.zero z&&z.cells.size==f.size|none=>false)
 |_,_=>false
def fN(P:cy)(bt:List (Nat×dB)):Bool:=bt.all fun x=>Li P x.1 x.2
def dQ(bt:List (Nat×dB))(t:Nat):aW dB:=(bt.find? fun x=>x.1==t).map (·.2)
theorem ajc{P:cy}{bt:List (Nat×dB)}(h:fN P bt=true){t:Nat}{f:dB}(aI:dQ bt t=some f):Li P t f=true:=by
 unfold dQ at aI;cases ad:bt.find? fun x=>x.1==t with
 |none=>simp[ad]at aI
 |some x=>simp[ad]at aI;have J:=List.find?_some ad;simp at J;have U:=List.mem_of_find?_eq_some ad;have al:=ja.1 h x U;rw[←aI,←J];exact al
structure Wa (P:cy) (t:Nat) (f:dB):Prop where
 cmp:∀d,P.underlying t=some d→G9 P t d=true
 ex:∃i d z,P.info? t=some i∧P.underlying t=some d∧i.size=f.size∧i.bytes=f.bytes∧jJ f.kind d=true∧i.zero=some z∧xT f.zero z=true∧z.cells.size=f.size
theorem uf{P:cy}{bt:List (Nat×dB)}(h:fN P bt=true){t:Nat}{f:dB}(aI:dQ bt t=some f):Wa P t f:=by
 have h:=ajc h aI;unfold Li at h;split at h
 ·rename_i i d J U;simp only[cA,dG]at h;obtain⟨⟨⟨⟨bs,al⟩,a6⟩,bW⟩,c3⟩:=h;split at c3
  ·rename_i z bC;simp only[cA,dG]at c3;exact⟨fun b6 lT=>by rw[U]at lT;cases lT;exact bs,i,d,z,J,U,al,a6,bW,bC,c3.1,c3.2⟩
  ·cases c3
 ·cases h
theorem oq(b o j:Nat):(⟨b,o,none⟩:Addr).add j=⟨b,o+j,none⟩:=by
 unfold Addr.add;split
 ·rename_i h;subst h;rfl
 ·rfl
theorem LI(w:World)(ν:bc):∀(cm:List ah) (ba:List Value),z7 cm ba=true→c0 w ν cm ba
 |[],[],_=>by simp[c0]
 |[],_::_,h=>by simp[z7]at h
 |_::_,[],h=>by simp[z7]at h
 |p::cm,v::ba,h=>by simp only[z7,cA]at h;simp only[c0];exact⟨v,ba,rfl,⟨GL w ν h.1.1,h.1.2⟩,LI w ν cm ba h.2⟩
def cells:ah→List ah
 | .agg cs=>cs
 |p=>[p]
def dS:ah→Bool
 | .junk| .tuple _=>false
 | .cst (.slice _ _ _)| .cst (.string _)=>true
 | .cst _=>false
 |_=>true
theorem KK{w:World}{ν:bc}{p:ah}{v:Value}(h:a7 w ν p v)(ag:dS p=true)(bD:∀cs,p≠ .agg cs):v.oneCell'=true∧v.cells= #[v]:=by
 cases p<;>simp only[a7,dS]at h ag;case junk=>cases ag
 case tuple=>cases ag
 case cst c=>subst h;cases v<;>first|exact⟨rfl,rfl⟩|cases ag
 case agg cs=>exact absurd rfl (bD cs)
 case int=>subst h;exact⟨rfl,rfl⟩
 case bool=>subst h;exact⟨rfl,rfl⟩
 case str=>rw[h.1];exact⟨rfl,rfl⟩
 case slice=>obtain⟨⟨a,cap,J,_⟩,_⟩:=h;subst J;exact⟨rfl,rfl⟩
 case ptr=>obtain⟨b,_,J⟩:=h;subst J;exact⟨rfl,rfl⟩
 case eptr=>obtain⟨b,o,u,J,_⟩:=h;subst J;exact⟨rfl,rfl⟩
 case iface=>obtain⟨u,J,_⟩:=h;subst J;exact⟨rfl,rfl⟩
 case nilp=>subst h;exact⟨rfl,rfl⟩
 case func=>obtain⟨us,J,_⟩:=h;subst J;exact⟨rfl,rfl⟩
 case gmap=>obtain⟨b,_,J⟩:=h;subst J;exact⟨rfl,rfl⟩
 case row=>obtain⟨⟨a,cap,J⟩,_⟩:=h;subst J;exact⟨rfl,rfl⟩
 case rptr=>obtain⟨⟨a,o,J⟩,_⟩:=h;subst J;exact⟨rfl,rfl⟩
theorem tV{w:World}{ν:bc}{p:ah}{v:Value}(h:a7 w ν p v)(ag:dS p=true):c0 w ν (cells p) v.cells.toList:=by
 by_cases bD:∃cs,p= .agg cs
 ·obtain⟨cs,rfl⟩:=bD;simp only[a7]at h;obtain⟨us,rfl,U⟩:=h;simpa[cells,oU]using U
 ·have mw:∀cs,p≠ .agg cs:=fun cs e=>bD ⟨cs,e⟩;obtain⟨J,U⟩:=KK h ag mw;have aw:cells p=[p]:=by cases p<;>first|rfl|exact absurd rfl (mw _)
  rw[aw,U];simp only[c0];exact⟨v,[],rfl,⟨h,J⟩,rfl⟩
theorem zH{w:World}{ν:bc}:∀{cm:List ah} {ba:List Value},c0 w ν cm ba→∀c∈ba,c.oneCell'=true
 |[],ba,h=>by simp only[c0]at h;subst h;simp
 |p::cm,ba,h=>by
  simp only[c0]at h;obtain⟨u,cb,rfl,J,U⟩:=h;intro c aw;rcases fU.1 aw with rfl|aw
  ·exact J.2
  ·exact zH U c aw
theorem oR{w:World}{ν:bc}:∀{cm:List ah} {ba:List Value},c0 w ν cm ba→ba.length=cm.length
 |[],ba,h=>by simp only[c0]at h;subst h;rfl
 |p::cm,ba,h=>by simp only[c0]at h;obtain⟨u,cb,rfl,_,U⟩:=h;simp[oR U]
theorem zG{w:World}{ν:bc}:∀(n:Nat) {cm:List ah} {ba:List Value},c0 w ν cm ba→c0 w ν (cm.drop n) (ba.drop n)
 |0,_,_,h=>by simpa using h
 |n+1,[],ba,h=>by simp only[c0]at h;subst h;simp[c0]
 |n+1,p::cm,ba,h=>by simp only[c0]at h;obtain⟨u,cb,rfl,_,U⟩:=h;simpa using zG n U
theorem Cl{w:World}{ν:bc}:∀(n:Nat) {cm:List ah} {ba:List Value},c0 w ν cm ba→c0 w ν (cm.take n) (ba.take n)
 |0,_,_,_=>by simp[c0]
 |n+1,[],ba,h=>by simp only[c0]at h;subst h;simp[c0]
 |n+1,p::cm,ba,h=>by simp only[c0]at h;obtain⟨u,cb,rfl,J,U⟩:=h;simp only[List.take_succ_cons,c0];exact⟨u,_,rfl,J,Cl n U⟩
theorem xx{w:World}{ν:bc}:∀{cm b1:List ah} {ba us:List Value},c0 w ν cm ba→c0 w ν b1 us→c0 w ν (cm++b1) (ba++us)
 |[],b1,ba,us,h,cp=>by simp only[c0]at h;subst h;simpa using cp
 |p::cm,b1,ba,us,h,cp=>by simp only[c0]at h;obtain⟨u,cb,rfl,J,U⟩:=h;simp only[bN,c0];exact⟨u,_,rfl,J,xx U cp⟩
theorem Ck{w:World}{ν:bc}:∀(n:Nat) {cm:List ah} {ba:List Value} {p:ah},c0 w ν cm ba→cm[n]? =some p→∃v,ba[n]? =some v∧a7 w ν p v∧v.oneCell'=true
 |n,[],_,p,_,bF=>by simp at bF
 |0,q::cm,ba,p,h,bF=>by simp only[c0]at h;obtain⟨u,cb,rfl,J,_⟩:=h;simp at bF;subst bF;exact⟨u,rfl,J.1,J.2⟩
 |n+1,q::cm,ba,p,h,bF=>by simp only[c0]at h;obtain⟨u,cb,rfl,_,U⟩:=h;simpa using Ck n U (by simpa using bF)
theorem FC{w:World}{ν:bc}:∀(n:Nat) {cm:List ah} {ba:List Value} {p:ah},cH w ν cm ba→cm[n]? =some p→∃v,ba[n]? =some v∧a7 w ν p v
 |n,[],_,p,_,bF=>by simp at bF
 |0,q::cm,ba,p,h,bF=>by simp only[cH]at h;obtain⟨u,cb,rfl,J,_⟩:=h;simp at bF;subst bF;exact⟨u,rfl,J⟩
 |n+1,q::cm,ba,p,h,bF=>by simp only[cH]at h;obtain⟨u,cb,rfl,_,U⟩:=h;simpa using FC n U (by simpa using bF)
theorem tE{w:World}{A:Nat→Nat→Prop}{b:Nat}:∀{us:List Value} {off j:Nat} {u:Value},k8 w A b off us→us[j]? =some u→A b (off+j)∧w.cell? ⟨b,off+j,none⟩=some u
 |[],_,_,_,_,h=>by simp at h
 |x::us,off,0,u,au,h=>by simp at h;subst h;exact au.1
 |x::us,off,j+1,u,au,h=>by have:=tE (j:=j) au.2 (by simpa using h);rwa[show off+1+j=off+(j+1)from by omega]at this
theorem ED{w:World}{A:Nat→Nat→Prop}{b:Nat}:∀(n:Nat) {us:List Value} {off:Nat},k8 w A b off us→k8 w A b (off+n) (us.drop n)
 |0,_,_,h=>by simpa using h
 |n+1,[],_,_=>by simp[k8]
 |n+1,x::us,off,h=>by have:=ED n h.2;rw[show off+(n+1)=off+1+n from by omega];simpa using this
theorem EF{w:World}{A:Nat→Nat→Prop}{b:Nat}:∀(n:Nat) {us:List Value} {off:Nat},k8 w A b off us→k8 w A b off (us.take n)
 |0,_,_,_=>by simp[k8]
 |n+1,[],_,_=>by simp[k8]
 |n+1,x::us,off,h=>by simp only[List.take_succ_cons];exact⟨h.1,EF n h.2⟩
theorem aik{P:cy}{w:World}{A:Nat→Nat→Prop}{b off:Nat}{us:List Value}(h:k8 w A b off us):(loadCells ⟨b,off,none⟩ us.length).run P w= .ok us.toArray w:=run_loadCells_list w _ us fun j v af=>by rw[oq];exact(tE h af).2
theorem aij{P:cy}{w:World}{b off n:Nat}{us:Array Value}{el:fT}{fr:Nat×Nat}(h:w.heap[b]? =some (.cells us el fr))(aA:off+n≤us.size):
  (loadCells ⟨b,off,none⟩ n).run P w= .ok ((us.toList.drop off).take n).toArray w:=by
 have au:((us.toList.drop off).take n).length=n:=by simp;omega
 have:=run_loadCells_list (P:=P) w ⟨b,off,none⟩ ((us.toList.drop off).take n) fun j v af=>by
  rw[oq];have acf:j<n:=by have:=(fH.1 af).1;omega
  simp only[World.cell?,h,lK,gI,if_false];rw[List.getElem?_take]at af;simpa[acf]using af
 rw[au]at this;exact this
theorem OR{α:Type}(l r:List α)(n sz:Nat)(h:l.length=sz):(l++r).drop ((n+1)*sz)=r.drop (n*sz):=by
 have e:(n+1)*sz=l.length+n*sz:=by rw[h,Nat.succ_mul,Nat.add_comm]
 rw[e,←List.drop_drop];simp
theorem UU{α:Type}(l r:List α)(n sz:Nat)(h:l.length=sz):(l++r).take ((n+1)*sz)=l++r.take (n*sz):=by
 have e:(n+1)*sz=l.length+n*sz:=by rw[h,Nat.succ_mul,Nat.add_comm]
 rw[e,List.take_length_add_append]
theorem Fx{w:World}{ν:bc}{sz:Nat}:∀(i:Nat) {xs:List ah} {us:List Value} {p:ah},dt w ν sz xs us→xs[i]? =some p→
  ∃u,a7 w ν p u∧u.cells.size=sz∧u.cells.toList=(us.drop (i*sz)).take sz
 |i,[],_,p,_,bF=>by simp at bF
 |0,x::xs,us,p,h,bF=>by
  simp only[dt]at h;obtain⟨u,cb,rfl,⟨J,U,al⟩,_⟩:=h;simp at bF;subst bF;refine⟨u,J,U,?_⟩;have:u.cells.toList.length=sz:=by simpa using U
  simp[←this]
 |i+1,x::xs,us,p,h,bF=>by
  simp only[dt]at h;obtain⟨u,cb,rfl,⟨_,U,_⟩,bW⟩:=h;obtain⟨v,g1,g2,g3⟩:=Fx i bW (by simpa using bF);refine⟨v,g1,g2,?_⟩;have:u.cells.toList.length=sz:=by simpa using U
  rw[g3,OR _ _ _ _ this]
theorem sq{w:World}{ν:bc}{sz:Nat}:∀{xs:List ah} {us:List Value},dt w ν sz xs us→us.length=xs.length*sz
 |[],us,h=>by simp only[dt]at h;subst h;simp
 |x::xs,us,h=>by
  simp only[dt]at h;obtain⟨u,cb,rfl,⟨_,U,_⟩,bW⟩:=h;have:u.cells.toList.length=sz:=by simpa using U
  rw[oV,this,sq bW,pK,Nat.succ_mul];omega
theorem xw{w:World}{ν:bc}{sz:Nat}:∀{xs:List ah} {us:List Value},dt w ν sz xs us→∀c∈us,c.oneCell'=true
 |[],us,h=>by simp only[dt]at h;subst h;simp
 |x::xs,us,h=>by
  simp only[dt]at h;obtain⟨u,cb,rfl,⟨_,_,al⟩,bW⟩:=h;intro c aw;rcases ki.1 aw with aw|aw
  ·exact al c aw
  ·exact xw bW c aw
theorem Cj{w:World}{ν:bc}{sz:Nat}:∀{cm b1:List ah} {ba us:List Value},dt w ν sz cm ba→dt w ν sz b1 us→dt w ν sz (cm++b1) (ba++us)
 |[],b1,ba,us,h,cp=>by simp only[dt]at h;subst h;simpa using cp
 |p::cm,b1,ba,us,h,cp=>by simp only[dt]at h;obtain⟨u,cb,rfl,J,U⟩:=h;simp only[bN,dt];exact⟨u,cb++us,by simp,J,Cj U cp⟩
theorem Ub{w:World}{ν:bc}{sz:Nat}:∀(n:Nat) {xs:List ah} {us:List Value},dt w ν sz xs us→dt w ν sz (xs.drop n) (us.drop (n*sz))
 |0,_,_,h=>by simpa using h
 |n+1,[],us,h=>by simp only[dt]at h;subst h;simp[dt]
 |n+1,x::xs,us,h=>by
  simp only[dt]at h;obtain⟨u,cb,rfl,⟨_,U,_⟩,bW⟩:=h;have:u.cells.toList.length=sz:=by simpa using U
  rw[OR _ _ _ _ this];simpa using Ub n bW
theorem Ue{w:World}{ν:bc}{sz:Nat}:∀(n:Nat) {xs:List ah} {us:List Value},dt w ν sz xs us→dt w ν sz (xs.take n) (us.take (n*sz))
 |0,_,_,_=>by simp[dt]
 |n+1,[],us,h=>by simp only[dt]at h;subst h;simp[dt]
 |n+1,x::xs,us,h=>by
  simp only[dt]at h;obtain⟨u,cb,rfl,⟨J,U,al⟩,bW⟩:=h;have:u.cells.toList.length=sz:=by simpa using U
  simp only[List.take_succ_cons,dt];refine⟨u,cb.take (n*sz),?_,⟨J,U,al⟩,Ue n bW⟩;rw[UU _ _ _ _ this]
def isAgg(sz:Nat)(p:ah):Prop:= ∃cs,p= .agg cs∧cs.length=sz
def xB(agg:Bool)(sz dy n i f:Nat):aW fF→aW (Prop×ah)
 |some ⟨n',_,iO,some xs⟩=>if n'=n∧iO=dy then
   (match xs[i]? with
    |some p=>if agg then some (dS p=true∧f+sz≤(cells p).length,.agg (((cells p).drop f).take sz))else((cells p)[f]?).map fun q=>(dS p=true,q)
    |none=>none)else none
 |_=>none
def l6(b:List (aD×List ah))(e:List (aD×fF))(agg:Bool)(sz:Nat):ah→aW (Prop×ah)
 | .rptr dy k n i f=>xB agg sz dy n i f (look k e)
 | .ptr k off=>
  match look k b with
  |some cs=>if agg then some (hF cs=true∧off+sz≤cs.length,.agg ((cs.drop off).take sz))else(cs[off]?).map fun p=>(hF cs=true,p)
  |none=>none
 | .eptr p=>if agg then some (isAgg sz p,p)else some (dS p=true∧cells p=[p],p)
 |_=>none
def AL(agg:Bool)(sz:Nat):ah→aW (Prop×ah)
 | .eptr p=>if agg then some (isAgg sz p,p)else some (dS p=true∧cells p=[p],p)
 |_=>none
theorem aaG{b:List (aD×List ah)}{e:List (aD×fF)}{agg:Bool}{sz:Nat}{p:ah}{r:Prop×ah}(h:AL agg sz p=some r):l6 b e agg sz p=some r:=by
 cases p<;>simp only[AL]at h<;>first|cases h;done|skip
 simpa only[l6]using h
theorem aeg{b:List (aD×List ah)}{e:List (aD×fF)}{agg:Bool}{sz:Nat}{p:ah}{r:Prop×ah}(h:l6 b [] agg sz p=some r):l6 b e agg sz p=some r:=by cases p<;>simp only[l6]at h⊢ <;>first|exact h|(simp[look,xB]at h)
def o6(off:Nat)(agg:Bool)(sz:Nat):ah→aW (Prop×ah)
 | .ptr k o=>some (True,.ptr k (o+off))
 | .rptr dy k n i f=>some (True,.rptr dy k n i (f+off))
 | .eptr (.agg cs)=>if agg then some (off+sz≤cs.length,.eptr (.agg ((cs.drop off).take sz)))else(cs[off]?).map fun p=>(dS p=true∧cells p=[p],.eptr p)
 |_=>none
def qC(off:Nat)(agg:Bool)(sz:Nat):ah→aW (Prop×ah)
 | .agg cs=>if agg then some (off+sz≤cs.length,.agg ((cs.drop off).take sz))else(cs[off]?).map fun p=>(True,p)
 |_=>none
def yY(sz:Nat):ah→ah→aW (Prop×ah)
 | .slice dy _ xs,.int _ i=>if dy=sz then some (0≤i∧i<xs.length,.eptr (xs.getD i.toNat .junk))else none
 | .row dy k n,.int _ i=>if dy=sz then some (0≤i∧i<n,.rptr dy k n i.toNat 0)else none
 |_,_=>none
def FN:ah→ah→aW (Prop×ah)
 | .str s,.int _ i=>some (0≤i∧i<s.length,.int .u8 (s.getD i.toNat 0).toNat)
 |_,_=>none
def qd(Dv:Int):aW ah→aW Int
 |none=>some Dv
 |some (.int _ i)=>some i
 |_=>none
def FT(x:ah)(lo hi:aW ah):aW (Prop×ah):=
 match x with
 | .str s=>match qd 0 lo,qd s.length hi with
  |some l,some h=>some (0≤l∧l≤h∧h≤s.length,.str ((s.take h.toNat).drop l.toNat))
  |_,_=>none
 |_=>none
def EL(sz:Nat)(x:ah)(lo hi:aW ah):aW (Prop×ah):=
 match x with
 | .slice dy _ xs=>if dy=sz then match qd 0 lo,qd xs.length hi with
  |some l,some h=>some (0≤l∧l≤h∧h≤xs.length,.slice sz .no ((xs.take h.toNat).drop l.toNat))
  |_,_=>none else none
 |_=>none
def r8(n:Int):Prop:= -9223372036854775808≤n∧n≤9223372036854775807
def Eo(op:BinOp)(wr:Bool)(k:IntKind)(a b:Int):aW (Prop×ah):=
 match op with
 | .add=>if wr then some (True,.int k (k.wrap (a+b)))else some (k= .i64∧r8 (a+b),.int .i64 (a+b))
 | .sub=>if wr then some (True,.int k (k.wrap (a-b)))else some (k= .i64∧r8 (a-b),.int .i64 (a-b))
 | .mul=>if wr then some (True,.int k (k.wrap (a*b)))else some (k= .i64∧r8 (a*b),.int .i64 (a*b))
 | .quo=>some (b≠0,.int k (k.wrap (a.tdiv b)))
 | .rem=>some (b≠0,.int k (a.tmod b))
 | .eql=>some (True,.bool (a==b))
 | .neq=>some (True,.bool (a !=b))
 | .lss=>some (True,.bool (decide (a<b)))
 | .leq=>some (True,.bool (decide (a≤b)))
 | .gtr=>some (True,.bool (decide (b<a)))
 | .geq=>some (True,.bool (decide (b≤a)))
 | .and=>some (True,.int k (k.wrap (pG k.bits a&&& pG k.bits b).toNat))
 | .or=>some (True,.int k (k.wrap (pG k.bits a|||pG k.bits b).toNat))
 | .xor=>some (True,.int k (k.wrap (pG k.bits a ^^^ pG k.bits b).toNat))
 |_=>none
def FU(op:BinOp)(a b:List dA):aW (Prop×ah):=
 match op with
 | .add=>some (a.length+b.length≤lim,.str (a++b))
 | .eql=>some (True,.bool (a==b))
 | .neq=>some (True,.bool (!(a==b)))
 | .lss=>some (True,.bool (hf a b))
 | .leq=>some (True,.bool (hf a b||a==b))
 | .gtr=>some (True,.bool (!(hf a b||a==b)))
 | .geq=>some (True,.bool (!hf a b))
 |_=>none
def Am(op:BinOp)(wr:Bool):ah→ah→aW (Prop×ah)
 | .int k a,.int bH b=>match op with
  | .shl=>some (0≤b,.int k (k.wrap (a*2 ^ (min b.toNat k.bits))))
  | .shr=>some (0≤b,.int k (a.fdiv (2 ^ (min b.toNat k.bits))))
  |_=>if k=bH then Eo op wr k a b else none
 | .str a,.str b=>FU op a b
 |_,_=>none
def nn(cs:List ah)(off:Nat)(cm:List ah):List ah:=cs.take off++cm++cs.drop (off+cm.length)
def sV(t:List (Nat×ah)):List ah→List (Nat×Nat×dk)→aW (Prop×List ah)
 |cs,[]=>some (True,cs)
 |cs,(off,sz,x)::r=>
  let p:=cg t x
  match sV t (nn cs off (cells p)) r with
  |some (c,cs')=>some ((dS p=true∧(cells p).length=sz∧off+sz≤cs.length)∧c,cs')
  |none=>none
def E9(c x y:ah):aW (Prop×ah):=
 match c with
 | .bool b=>match x,y with
  | .bool u,.bool v=>some (True,.bool (cond b u v))
  |p,q=>match b with
   |true=>some (True,p)
   |false=>some (True,q)
 |_=>none
def E0:ah→aW (Prop×ah)
 | .bool b=>some (True,.bool (!b))
 |_=>none
def EW:ah→aW (Prop×ah)
 | .int k n=>some (True,.int k (k.wrap (0-n)))
 |_=>none
def yg(i:Nat):ah→aW (Prop×ah)
 | .tuple ba=>(ba[i]?).map fun p=>(True,p)
 |_=>none
def y7:ah→aW (Prop×ah)
 | .slice _ _ xs=>some (True,.int .i64 xs.length)
 | .row _ _ n=>some (True,.int .i64 n)
 | .cst (.slice _ n _)=>some (True,.int .i64 n)
 |_=>none
def Cw:ah→aW (Prop×ah)
 | .str s=>some (True,.int .i64 s.length)
 | .cst (.string s)=>some (True,.int .i64 s.size)
 |_=>none
def Ds(k:IntKind):ah→aW (Prop×ah)
 | .int _ n=>some (True,.int k (k.wrap n))
 |_=>none
def zi:ah→aW (Prop×ah)
 | .ptr k o=>some (True,.ptr k o)
 | .eptr p=>some (True,.eptr p)
 | .func f cs=>some (True,.func f cs)
 |_=>none
def EV:ah→ah→aW (Prop×ah)
 | .int k a,.int bH b=>if k=bH then some (True,.int k (if b<a then b else a))else none
 |_,_=>none
def jI:List Bool→List ah→List ah→aW Bool
 |[],[],[]=>some true
 |false::r,.int k a::as,.int bH b::eF=>if k=bH then(jI r as eF).map fun q=>(a==b)&&q else none
 |true::r,.str a::as,.str b::eF=>(jI r as eF).map fun q=>(a==b)&&q
 |_,_,_=>none
inductive jd where
 |i
 |s
 |a (dF:List Bool)
 deriving DecidableEq
def sb:jd→ah→ah→aW Bool
 | .i,.int k a,.int bH b=>if k=bH then some (a==b)else none
 | .s,.str a,.str b=>some (a==b)
 | .a dF,.agg as,.agg eF=>jI dF as eF
 |_,_,_=>none
def tx:jd→ah→Bool
 | .a dF,.agg as=>(jI dF as as).isSome
 | .a _,_=>false
 |_,_=>true
@[simp] theorem RF(k:ah):tx .i k=true:=by cases k<;>rfl
@[simp] theorem amN(k:ah):tx .s k=true:=by cases k<;>rfl
def vi(b7:jd)(k:ah):List ah→aW (aW ah)
 |bH::v::r=>match sb b7 k bH with
  |some true=>some (some v)
  |some false=>vi b7 k r
  |none=>none
 |_=>some none
def nk(b:aD→aW (List ah))(b7:jd)(zero:ah)(ok:Bool)(x k:ah):aW (Prop×ah):=
 match x with
 | .gmap key=>match b key with
  |some (.hdm _ _::kvs)=>if tx b7 k=false then none else match vi b7 k kvs with
   |some (some v)=>some (True,if ok then .tuple [v,.bool true]else v)
   |some none=>some (True,if ok then .tuple [zero,.bool false]else zero)
   |none=>none
  |_=>none
 |_=>none
def tJ(b:aD→aW (List ah))(x:ah):aW (Prop×ah):=
 match x with
 | .gmap key=>match b key with
  |some (.hdm _ borns::_)=>some (True,.int .i64 borns.length)
  |_=>none
 |_=>none
def h2(neg:Bool):aW (List Bool)→ah→ah→aW (Prop×ah)
 |none,.bool a,.bool b=>some (True,.bool (if neg then a !=b else a==b))
 |some dF,.agg as,.agg eF=>(jI dF as eF).map fun q=>(True,.bool (if neg then !q else q))
 |_,_,_=>none
def EP:ah→ah→aW (Prop×ah)
 | .int k a,.int bH b=>if k=bH then some (True,.int k (if a<b then b else a))else none
 |_,_=>none
def tK(b7:jd)(k v:ah):List ah→aW (aW (List ah))
 |bH::v'::r=>match sb b7 k bH with
  |some true=>some (some (k::v::r))
  |some false=>match tK b7 k v r with
   |some (some ev)=>some (some (bH::v'::ev))
   |some none=>some none
   |none=>none
  |none=>none
 |_=>some none
def l7(n:Nat):List Nat→List ah→aW ah
 |b::eF,k::v::r=>if b=n then some (.tuple [k,v])else l7 n eF r
 |_,_=>none
def oN(b:aD→aW (List ah))(x:ah):aW (Prop×ah):=
 match x with
 | .ptr fb 0=>match b fb with
  |some [.hdi _ seen last,.gmap mk]=>match b mk with
   |some (.hdm clock borns::kvs)=>match seen.getLast? with
    |some n=>(l7 n borns kvs).map fun p=>(clock=last,p)
    |none=>none
   |_=>none
  |_=>none
 |_=>none
theorem Sv{f g:aD→aW (List ah)}(h:∀k,f k≠none→g k=f k){b7:jd}{zero:ah}{ok:Bool}{x k:ah}{r:Prop×ah}(he:nk f b7 zero ok x k=some r):nk g b7 zero ok x k=some r:=by
 unfold nk at he⊢;split at he
 ·rename_i key;cases aI:f key with
  |none=>simp[aI]at he
  |some cs=>rw[h key (by rw[aI];simp),aI];rw[aI]at he;exact he
 ·cases he
theorem aeO{f g:aD→aW (List ah)}(h:∀k,f k≠none→g k=f k){x:ah}{r:Prop×ah}(he:tJ f x=some r):tJ g x=some r:=by
 unfold tJ at he⊢;split at he
 ·rename_i key;cases aI:f key with
  |none=>simp[aI]at he
  |some cs=>rw[h key (by rw[aI];simp),aI];rw[aI]at he;exact he
 ·cases he
theorem aet{f g:aD→aW (List ah)}(h:∀k,f k≠none→g k=f k){x:ah}{r:Prop×ah}(he:oN f x=some r):oN g x=some r:=by
 unfold oN at he⊢;split at he
 ·rename_i fb;cases aI:f fb with
  |none=>simp[aI]at he
  |some cs=>
   simp only[h fb (by rw[aI];simp),aI]at he⊢;split at he
   ·rename_i since seen last mk dj;cases tg:f mk with
    |none=>simp[tg]at he
    |some ey=>simp only[h mk (by rw[tg];simp),tg]at he⊢;exact he
   ·cases he
 ·cases he
inductive fI where
 |mov (x:dk)
 |pick (c x y:dk)
 |load (agg:Bool) (sz:Nat) (x:dk)
 |faddr (off:Nat) (agg:Bool) (sz:Nat) (x:dk)
 |fld (off:Nat) (agg:Bool) (sz:Nat) (x:dk)
 |iaddr (sz:Nat) (x i:dk)
 |sidx (x i:dk)
 |ssl (x:dk) (lo hi:aW dk)
 |lsl (sz:Nat) (x:dk) (lo hi:aW dk)
 |bin (op:BinOp) (wr:Bool) (x y:dk)
 |notB (x:dk)
 |neg (x:dk)
 |conv (k:IntKind) (x:dk)
 |ext (i:Nat) (x:dk)
 |len (x:dk)
 |slen (x:dk)
 |build (zero:List ah) (parts:List (Nat×Nat×dk))
 |nck (x:dk)
 |min2 (x y:dk)
 |mkf (n:Nat) (xs:List dk)
 |mget (b7:jd) (zero:ah) (ok:Bool) (x k:dk)
 |ment (x:dk)
 |mlen (x:dk)
 |beq (neg:Bool) (dF:aW (List Bool)) (x y:dk)
 |max2 (x y:dk)
 |mkif (t:Nat) (x:dk)
 |loadB (agg:Bool) (sz:Nat) (x:dk)
 |mgetB (b7:jd) (zero:ah) (ok:Bool) (x k:dk)
 |loadZ (agg:Bool) (sz:Nat) (x:dk)
def gU(st:bo):fI→aW (Prop×ah)
 | .mov x=>some (True,cg st.t x)
 | .pick c x y=>E9 (cg st.t c) (cg st.t x) (cg st.t y)
 | .load agg sz x=>l6 st.b st.e agg sz (cg st.t x)
 | .faddr off agg sz x=>o6 off agg sz (cg st.t x)
 | .fld off agg sz x=>qC off agg sz (cg st.t x)
 | .iaddr sz x i=>yY sz (cg st.t x) (cg st.t i)
 | .sidx x i=>FN (cg st.t x) (cg st.t i)
 | .ssl x lo hi=>FT (cg st.t x) (lo.map (cg st.t)) (hi.map (cg st.t))
 | .lsl sz x lo hi=>EL sz (cg st.t x) (lo.map (cg st.t)) (hi.map (cg st.t))
 | .bin op wr x y=>Am op wr (cg st.t x) (cg st.t y)
 | .notB x=>E0 (cg st.t x)
 | .neg x=>EW (cg st.t x)
 | .conv k x=>Ds k (cg st.t x)
 | .ext i x=>yg i (cg st.t x)
 | .len x=>y7 (cg st.t x)
 | .slen x=>Cw (cg st.t x)
 | .build zero parts=>(sV st.t zero parts).map fun(c,cs)=>(c,.agg cs)
 | .nck x=>zi (cg st.t x)
 | .min2 x y=>EV (cg st.t x) (cg st.t y)
 | .mkf n xs=>some (True,.func n (xs.map (cg st.t)))
 | .mget b7 zero ok x k=>nk (fun k=>look k st.b) b7 zero ok (cg st.t x) (cg st.t k)
 | .ment x=>oN (fun k=>look k st.b) (cg st.t x)
 | .mlen x=>tJ (fun k=>look k st.b) (cg st.t x)
 | .beq neg dF x y=>h2 neg dF (cg st.t x) (cg st.t y)
 | .max2 x y=>EP (cg st.t x) (cg st.t y)
 | .mkif t x=>some (True,.iface t (cg st.t x))
 | .loadB agg sz x=>l6 st.b [] agg sz (cg st.t x)
 | .mgetB b7 zero ok x k=>nk (fun k=>look k st.b) b7 zero ok (cg st.t x) (cg st.t k)
 | .loadZ agg sz x=>AL agg sz (cg st.t x)
def zs(bt:List (Nat×dB))(dF:List (Nat×Nat)):List (Nat×Nat×dk)→List (Nat×Operand)→Bool
 |[],[]=>true
 |(off,sz,x)::r,(i,o)::s=>(match dF[i]? with|some (vm,t)=>off==vm&&((dQ bt t).map (·.size))==some sz|none=>false)&&dY x o&&zs bt dF r s
 |_,_=>false
def Gf:ah→ah→Bool
 | .int k n,.int bH n'=>decide (k=bH∧n=n')
 | .bool b,.bool bY=>b==bY
 | .str [],.str []=>true
 | .slice a .nil [],.slice b .nil []=>a==b
 | .nilp,.nilp=>true
 | .junk,.junk=>true
 |_,_=>false
def xS:List ah→List ah→Bool
 |[],[]=>true
 |c::cs,d::ey=>Gf c d&&xS cs ey
 |_,_=>false
def z8:ah→ah→Bool
 | .agg cs,.agg ey=>xS cs ey
 | .agg _,_=>false
 |p,q=>Gf p q
def xo:List dk→List Operand→Bool
 |[],[]=>true
 |x::xs,o::os=>dY x o&&xo xs os
 |_,_=>false
def yn(bt:List (Nat×dB)):Nat→List Bool→List (Nat×Nat)→Bool
 |_,[],[]=>true
 |n,b::r,(off,t)::dF=>off==n&&(match dQ bt t with|some ⟨_,_,.int _,_⟩=> !b|some ⟨_,_,.str,_⟩=>b|_=>false)&&yn bt (n+1) r dF
 |_,_,_=>false
def DG(bt:List (Nat×dB))(dF:List Bool)(t:Nat):Bool:=match dQ bt t with
 |some ⟨_,_,.struct gs,_⟩=>yn bt 0 dF gs
 |_=>false
def w6(bt:List (Nat×dB))(b7:jd)(t:Nat):Bool:=match b7 with
 | .i=>(match dQ bt t with|some ⟨_,_,.int _,_⟩=>true|_=>false)
 | .s=>(match dQ bt t with|some ⟨_,_,.str,_⟩=>true|_=>false)
 | .a dF=>DG bt dF t
def LL:List ah→ah→Bool
 |cs,.agg ey=>xS cs ey
 |_,_=>false
def vp:aW dk→aW Operand→Bool
 |none,none=>true
 |some x,some o=>dY x o
 |_,_=>false
def CG(bt:List (Nat×dB)):fI→Op→Bool
 | .mov x,.move o=>dY x o
 | .mov x,.assign o=>dY x o
 | .pick c x y,.pick ch Gc VL=>dY c ch&&dY x Gc&&dY y VL
 | .load agg sz x,.load t o=>(match dQ bt t with|some f=>f.size==sz&&f.kind.isAgg==agg|none=>false)&&dY x o
 | .faddr off agg sz x,.fieldAddr s o i=>
  (match dQ bt s with
   |some ⟨_,_,.struct dF,_⟩=>(match dF[i]? with|some (vm,t)=>off==vm&&(match dQ bt t with|some f=>f.size==sz&&f.kind.isAgg==agg&&sz !=0|none=>false)|none=>false)
   |_=>false)&&dY x o
 | .fld off agg sz x,.field s o i=>
  (match dQ bt s with
   |some ⟨_,_,.struct dF,_⟩=>(match dF[i]? with|some (vm,t)=>off==vm&&(match dQ bt t with|some f=>f.size==sz&&f.kind.isAgg==agg|none=>false)|none=>false)
   |_=>false)&&dY x o
 | .iaddr sz x i,.indexAddr t o j=>(match dQ bt t with|some ⟨_,_,.slice e,_⟩=>(match dQ bt e with|some f=>f.size==sz|none=>false)|_=>false)&&dY x o&&dY i j
 | .sidx x i,.index t o j=>(match dQ bt t with|some ⟨_,_,.str,_⟩=>true|_=>false)&&dY x o&&dY i j
 | .ssl x lo hi,.slice t o l h none=>(match dQ bt t with|some ⟨_,_,.str,_⟩=>true|_=>false)&&dY x o&&vp lo l&&vp hi h
 | .lsl sz x lo hi,.slice t o l h none=>(match dQ bt t with|some ⟨_,_,.slice e,_⟩=>(match dQ bt e with|some f=>f.size==sz|none=>false)|_=>false)&&dY x o&&vp lo l&&vp hi h
 | .bin op _ x y,.binOp S6 _ o o' _=>decide (op=S6)&&dY x o&&dY y o'
 | .notB x,.unOp op _ o=>decide (op= .not)&&dY x o
 | .neg x,.unOp op _ o=>decide (op= .neg)&&dY x o
 | .conv k x,.convert s d o=>(match dQ bt s,dQ bt d with|some ⟨_,_,.int _,_⟩,some ⟨_,_,.int bH,_⟩=>decide (k=bH)|_,_=>false)&&dY x o
 | .ext i x,.extract o j=>i==j&&dY x o
 | .len x,.call ⟨.builtin .len,⟨[o]⟩,⟨[t]⟩⟩=>(match dQ bt t with|some ⟨_,_,.slice _,_⟩=>true|_=>false)&&dY x o
 | .slen x,.call ⟨.builtin .len,⟨[o]⟩,⟨[t]⟩⟩=>(match dQ bt t with|some ⟨_,_,.str,_⟩=>true|_=>false)&&dY x o
 | .build zero parts,.build t cm=>(match dQ bt t with|some ⟨_,_,.struct dF,z⟩=>LL zero z&&(dF.all fun x=>(dQ bt x.2).isSome)&&zs bt dF parts cm.toList|_=>false)
 | .nck x,.nilCheck o=>dY x o
 | .min2 x y,.call ⟨.builtin .min,⟨[o,o']⟩,⟨[_,_]⟩⟩=>dY x o&&dY y o'
 | .mkf n xs,.makeFunc (.func m) ⟨[]⟩ os=>n==m&&xo xs os.toList
 | .mget b7 zero ok x k,.lookup t o o' E1=>ok==E1&&(match dQ bt t with|some ⟨_,_,.map l5 oC,_⟩=>w6 bt b7 l5&&(match dQ bt oC with|some f=>z8 zero f.zero|none=>false)|_=>false)&&dY x o&&dY k o'
 | .ment x,.entry o=>dY x o
 | .mlen x,.call ⟨.builtin .len,⟨[o]⟩,⟨[t]⟩⟩=>(match dQ bt t with|some ⟨_,_,.map _ _,_⟩=>true|_=>false)&&dY x o
 | .beq neg dF x y,.binOp op t o o' _=>decide (op=if neg then .neq else .eql)&&(match dF with|none=>(match dQ bt t with|some ⟨_,_,.bool,_⟩=>true|_=>false)|some dF=>DG bt dF t)&&dY x o&&dY y o'
 | .max2 x y,.call ⟨.builtin .max,⟨[o,o']⟩,⟨[_,_]⟩⟩=>dY x o&&dY y o'
 | .mkif t x,.makeInterface dD o=>t==dD&&(match dQ bt t with|some ⟨_,_,.slice _,_⟩=>true|_=>false)&&dY x o
 | .loadB agg sz x,.load t o=>(match dQ bt t with|some f=>f.size==sz&&f.kind.isAgg==agg|none=>false)&&dY x o
 | .loadZ agg sz x,.load t o=>(match dQ bt t with|some f=>f.size==sz&&f.kind.isAgg==agg|none=>false)&&dY x o
 | .mgetB b7 zero ok x k,.lookup t o o' E1=>ok==E1&&(match dQ bt t with|some ⟨_,_,.map l5 oC,_⟩=>w6 bt b7 l5&&(match dQ bt oC with|some f=>z8 zero f.zero|none=>false)|_=>false)&&dY x o&&dY k o'
 |_,_=>false
end Go.Pv
namespace Go.Pv
open Go Go.RowKit
theorem Ho(P:cy)(w:World)(op:BinOp)(t:fT)(x y:Operand)(k bH:IntKind)(m n:Int):(eqGuard op t x y (.int k m) (.int bH n)).run P w= .ok () w:=by cases op<;>rfl
theorem XM(P:cy)(w:World)(op:BinOp)(t:fT)(x y:Operand)(m n:ByteArray):(eqGuard op t x y (.string m) (.string n)).run P w= .ok () w:=by cases op<;>rfl
theorem aje(l:List dA):(⟨l.toArray⟩:ByteArray).toList=l:=by simp
theorem Wp(a b:List dA):(⟨a.toArray⟩:ByteArray)++(⟨b.toArray⟩:ByteArray)=⟨(a++b).toArray⟩:=by apply akI;simp
theorem YF(a:List dA)(l h:Nat):(⟨a.toArray⟩:ByteArray).extract l h=⟨((a.take h).drop l).toArray⟩:=by apply akI;simp[List.drop_take]
theorem Cv(a:List dA):(⟨a.toArray⟩:ByteArray).size=a.length:=by simp[apt]
section
variable {P:cy} {w:World} {r:Sem Value}
theorem qE{k:IntKind}{x:Int}(h:r.run P w= .ok (.int k x) w):∃v,r.run P w= .ok v w∧∀ν,a7 w ν (.int k x) v:=⟨_,h,fun ν=>by simp[a7]⟩
theorem PU{x:Bool}(h:r.run P w= .ok (.bool x) w):∃v,r.run P w= .ok v w∧∀ν,a7 w ν (.bool x) v:=⟨_,h,fun ν=>by simp[a7]⟩
end
theorem ads(P:cy)(w:World){op:BinOp}{wr:Bool}{k:IntKind}{a b:Int}{c:Prop}{p:ah}(he:Eo op wr k a b=some (c,p))(aw:c)(t:fT):
  ∃v,(binOp op t (.int k a) (.int k b)).run P w= .ok v w∧∀ν,a7 w ν p v:=by
 cases op<;>simp only[Eo]at he;case add=>
  cases wr<;>simp only[if_true,gI,if_false]at he<;>cases he
  ·obtain⟨rfl,h⟩:=aw;exact qE (by simp[binOp,Op.intArith,oc _ h])
  ·exact qE (by simp[binOp,Op.intArith])
 case sub=>
  cases wr<;>simp only[if_true,gI,if_false]at he<;>cases he
  ·obtain⟨rfl,h⟩:=aw;exact qE (by simp[binOp,Op.intArith,oc _ h])
  ·exact qE (by simp[binOp,Op.intArith])
 case mul=>
  cases wr<;>simp only[if_true,gI,if_false]at he<;>cases he
  ·obtain⟨rfl,h⟩:=aw;exact qE (by simp[binOp,Op.intArith,oc _ h])
  ·exact qE (by simp[binOp,Op.intArith])
 case quo=>cases he;exact qE (by simp[binOp,Op.intDiv,aw])
 case rem=>cases he;exact qE (by simp[binOp,Op.intDiv,aw])
 case and=>cases he;exact qE (by simp only[binOp,Op.intBits,ne_eq,not_true_eq_false,if_false,gj])
 case or=>cases he;exact qE (by simp only[binOp,Op.intBits,ne_eq,not_true_eq_false,if_false,gj])
 case xor=>cases he;exact qE (by simp only[binOp,Op.intBits,ne_eq,not_true_eq_false,if_false,gj])
 all_goals cases he
 all_goals exact PU (by simp only[binOp,Op.intCmp,ne_eq,not_true_eq_false,if_false,gj,gt_iff_lt,ge_iff_le])
theorem aiY(P:cy)(w:World){op:BinOp}{a b:List dA}{c:Prop}{p:ah}(he:FU op a b=some (c,p))(aw:c)(t:fT):
  ∃v,(binOp op t (.string ⟨a.toArray⟩) (.string ⟨b.toArray⟩)).run P w= .ok v w∧∀ν,a7 w ν p v:=by
 cases op<;>simp only[FU]at he;case add=>
  cases he;refine⟨.string ⟨(a++b).toArray⟩,?_,fun ν=>by simp only[a7];exact⟨trivial,by simpa using aw⟩⟩;have J:¬(((⟨a.toArray⟩:ByteArray).size+(⟨b.toArray⟩:ByteArray).size:Nat):Int)>IntKind.i64.max:=by
   have:IntKind.i64.max=9223372036854775807:=by decide
   rw[this,Cv,Cv];simp only[lim]at aw;omega
  simp only[binOp,Op.stringOp,J,if_false,gj,Wp]
 all_goals cases he
 all_goals exact PU (by simp only[binOp,Op.stringOp,aje,gj])
theorem WB(P:cy)(w:World)(ν:bc){op:BinOp}{wr:Bool}{x y:ah}{c:Prop}{p:ah}(he:Am op wr x y=some (c,p))(aw:c)(t:fT){u v:Value}(hu:a7 w ν x u)(aK:a7 w ν y v)(o o':Operand):
  ∃r,(do eqGuard op t o o' u v;binOp op t u v).run P w= .ok r w∧a7 w ν p r:=by
 unfold Am at he;split at he
 ·rename_i k a bH b;simp only[a7]at hu aK;subst hu;subst aK;split at he
  ·cases he;refine⟨_,?_,by simp[a7];rfl⟩;simp[binOp,Op.shift,Ho,Int.not_lt.2 aw]
  ·cases he;refine⟨_,?_,by simp[a7];rfl⟩;simp[binOp,Op.shift,Ho,Int.not_lt.2 aw]
  ·split at he
   ·rename_i ab;subst ab;obtain⟨r,J,U⟩:=ads P w he aw t;exact⟨r,by simp[Ho,J],U ν⟩
   ·cases he
 ·simp only[a7]at hu aK;rw[hu.1,aK.1];obtain⟨r,J,U⟩:=aiY P w he aw t;exact⟨r,by simp[XM,J],U ν⟩
 ·cases he
theorem HF{w:World}{ν:bc}:∀(v:List Value) (i off:Nat) (cs:Array Value),off+i+v.length≤cs.size→
  ((v.zipIdx i).foldl (fun cs (x:Value×Nat)=>cs.setIfInBounds (off+x.2) x.1) cs).toList=cs.toList.take (off+i)++v++cs.toList.drop (off+i+v.length)
 |[],i,off,cs,_=>by simp
 |u::v,i,off,cs,h=>by
  simp only[List.zipIdx_cons,List.foldl_cons];rw[HF (w:=w) (ν:=ν) v (i+1) off _ (by simp at h⊢;omega)];have bu:off+i<cs.toList.length:=by simp at h⊢;omega
  simp only[Array.toList_setIfInBounds];have aj:(cs.toList.set (off+i) u).take (off+(i+1))=cs.toList.take (off+i)++[u]:=by rw[show off+(i+1)=(off+i)+1 from by omega,List.take_succ_eq_append_getElem (by simpa using bu)];simp[List.take_set_of_le (eQ _)]
  have aC:(cs.toList.set (off+i) u).drop (off+(i+1)+v.length)=cs.toList.drop (off+i+(u::v).length):=by rw[List.drop_set_of_lt (by omega)];congr 1;simp;omega
  rw[aj,aC];simp
theorem Uq{w:World}{ν:bc}{C:e7}{st:bo}{a:Act}(aJ:cJ C st a w ν){bt:List (Nat×dB)}{dF:List (Nat×Nat)}{sl:List (Nat×Nat)}
  (bF:∀(i off t sz:Nat),dF[i]? =some (off,t)→(dQ bt t).map (·.size)=some sz→sl[i]? =some (off,sz)):
  ∀(parts:List (Nat×Nat×dk)) (cm:List (Nat×Operand)) (cs:List ah) (us:Array Value) (c:Prop) (cs':List ah),zs bt dF parts cm=true→c0 w ν cs us.toList→sV st.t cs parts=some (c,cs')→c→
  ∃cb:Array Value,Instr.fill (sl.toArray[·]?) us (cm.map fun(x:Nat×Operand)=>(x.1,a.eval x.2))=some cb∧c0 w ν cs' cb.toList
 |[],[],cs,us,c,cs',_,h,he,aw=>by simp only[sV]at he;cases he;exact⟨us,by simp[Instr.fill],h⟩
 |[],_::_,_,_,_,_,eS,_,_,_=>by simp[zs]at eS
 |_::_,[],_,_,_,_,eS,_,_,_=>by simp[zs]at eS
 |(off,sz,x)::parts,(i,o)::cm,cs,us,c,cs',eS,h,he,aw=>by
  simp only[zs,cA]at eS;obtain⟨⟨J,U⟩,al⟩:=eS;split at J
  ·rename_i vm t A4;simp only[cA,dG]at J;obtain⟨rfl,J⟩:=J;have r5:=bF i off t sz A4 J;simp only[sV]at he;split at he
   ·rename_i ch alE ae;cases he;obtain⟨⟨ag,au,hle⟩,hj⟩:=aw;have ad:=dZ aJ U;have k1:=tV ad ag;have hlen:=oR k1;have qW:=oR h;have kp:(a.eval o).cells.size=sz:=by have:(a.eval o).cells.toList.length=(cells (cg st.t x)).length:=hlen;rw[au]at this;simpa using this
    have p8:us.size=cs.length:=by simpa using qW
    have wV:=HF (w:=w) (ν:=ν) (a.eval o).cells.toList 0 off us (by simp[kp,p8];omega);have lX:c0 w ν (nn cs off (cells (cg st.t x))) ((((a.eval o).cells.toList.zipIdx 0).foldl (fun cs (x:Value×Nat)=>cs.setIfInBounds (off+x.2) x.1) us).toList):=by rw[wV];unfold nn;refine xx (xx (Cl off h) k1) ?_;rw[Nat.add_zero,hlen];exact zG _ h
    obtain⟨cb,g1,g2⟩:=Uq aJ bF parts cm _ _ ch cs' al lX ae hj;refine⟨cb,?_,g2⟩;simp only[gX,Instr.fill,List.getElem?_toArray,r5];rw[if_neg (by simp[kp,p8];omega)];rw[←g1];simp only[List.getElem?_toArray];congr 1;rw[←Array.foldl_toList];simp
   ·cases he
  ·cases J
end Go.Pv
namespace Go.Pv
open Go Go.RowKit
theorem ue{P:cy}{bt:List (Nat×dB)}(aO:fN P bt=true){t:Nat}{f:dB}(aI:dQ bt t=some f)(w:World):
  (Go.isAgg t).run P w= .ok f.kind.isAgg w∧(sizeOf t).run P w= .ok f.size w:=by
 obtain⟨i,d,z,J,U,al,a6,bW,c3,dV,nc⟩:=(uf aO aI).ex;refine⟨?_,by simp[sizeOf,typeInfo,J,al]⟩;simp only[Go.isAgg,fv,run_underlying U,fD];cases ab:f.kind<;>rw[ab]at bW<;>cases d<;>simp[jJ]at bW<;>simp[Af.isAgg]
theorem iz{P:cy}{bt:List (Nat×dB)}(aO:fN P bt=true){t:Nat}{f:dB}(aI:dQ bt t=some f):∃d,P.underlying t=some d∧jJ f.kind d=true:=by obtain⟨i,d,z,J,U,al,a6,bW,c3,dV,nc⟩:=(uf aO aI).ex;exact⟨d,U,bW⟩
theorem rL{e:Nat}{d:TypeDesc}(h:jJ (.slice e) d=true):d= .slice e:=by cases d<;>simp[jJ]at h;subst h;rfl
theorem ye{d:TypeDesc}(h:jJ .str d=true):d= .string:=by cases d<;>simp[jJ]at h;rfl
theorem Du{k:IntKind}{d:TypeDesc}(h:jJ (.int k) d=true):d= .int k:=by cases d<;>simp[jJ]at h;subst h;rfl
theorem Hc{dF:List (Nat×Nat)}{d:TypeDesc}(h:jJ (.struct dF) d=true):∃gs:Array Field,d= .struct gs∧gs.toList.map (fun f=>(f.offset,f.type))=dF:=by cases d<;>simp[jJ]at h;rename_i gs;exact⟨gs,rfl,by simpa using h⟩
theorem FA{w:World}{ν:bc}{cs:List ah}{us:List Value}(h:c0 w ν cs us)(off sz:Nat):c0 w ν ((cs.drop off).take sz) ((us.drop off).take sz):=Cl sz (zG off h)
theorem Tb{w:World}{base el sz n:Nat}{v:Value}{us:List Value}(h:w.ownsRow base el sz v n us){b:Nat}(ae:v.ownBlock=some b):∃cap,v= .slice (some ⟨b,0,none⟩) n cap:=by
 rcases h.2 with⟨rfl,_⟩|⟨g,cap,cur,rfl,_⟩
 ·simp[nx]at ae
 ·simp[nx]at ae;subst ae;exact⟨cap,rfl⟩
theorem Good.rowElem{pr:Nat→Prop}{w:World}{ν:bc}{b:List (aD×List ah)}{e:List (aD×fF)}(a1:Good pr w ν b e){k:aD}{n el sz:Nat}{xs:List ah}(ab:look k e=some ⟨n,el,sz,some xs⟩){i f:Nat}{u:Value}(ad:a7 w ν (.rptr sz k n i f) u){p:ah}(bF:xs[i]? =some p):
  ∃(v:Value) (us:List Value) (fJ:Nat),a7 w ν p v∧v.cells.size=sz∧∃b o,u= .pointer (some ⟨b,o,none⟩)∧∀j c,v.cells.toList[f+j]? =some c→w.cell? ⟨b,o+j,none⟩=some c:=by
 simp only[a7]at ad;obtain⟨_,hi,n',e0,J,U,al⟩:=ad;obtain⟨v,us,aZ,bB,bQ,cS⟩:=a1.own k _ ab;rw[J]at aZ;simp only[dz,jb]at aZ;obtain⟨rfl,rfl⟩:=aZ;obtain⟨bl,ae,rfl⟩:=al rfl;obtain⟨cap,rfl⟩:=Tb bB ae;obtain⟨au,lX,_⟩:=cS xs rfl;simp only at au lX;obtain⟨v,dC,e6,kr⟩:=Fx i lX bF;refine⟨v,us,el,dC,e6,bl,_,rfl,fun j c af=>?_⟩;have bu:f+j<sz:=by have:=(fH.1 af).1;simp[e6]at this;exact this
 have hmul:i*sz+sz≤n'*sz:=by have:=Nat.mul_le_mul_right sz (show i+1≤n' from hi);rwa[Nat.succ_mul]at this
 have aw:=bB.cellAt (i*sz+f+j) (by show _<n'*sz;omega);rw[aw];rw[kr,List.getElem?_take,if_pos bu,List.getElem?_drop]at af;rw[←af];congr 1;omega
theorem EK{P:cy}{bt:List (Nat×dB)}(aO:fN P bt=true){pr:Nat→Prop}{w:World}{ν:bc}{b:List (aD×List ah)}{e:List (aD×fF)}(a1:Good pr w ν b e){t:Nat}{f:dB}(aI:dQ bt t=some f)
  {x:ah} {u:Value} (ad:a7 w ν x u) {c:Prop} {p:ah} (he:l6 b e f.kind.isAgg f.size x=some (c,p)) (aw:c):∃v,(Instr.loadAt t u).run P w= .ok v w∧a7 w ν p v:=by
 obtain⟨bD,ag⟩:=ue aO aI w;generalize DQ:f.kind.isAgg=eW at*;generalize dW:f.size=sz at*;unfold l6 at he;split at he
 ·rename_i dy k n i rQ;unfold xB at he;split at he
  ·rename_i n' el iO xs ab;split at he
   ·rename_i aA;obtain⟨rfl,rfl⟩:=aA;split at he
    ·rename_i agZ acL;obtain⟨LA,us,fJ,g1,g2,p2⟩:=Good.rowElem a1 ab ad acL;have kH:dS agZ=true:=by
      cases eW
      ·simp only[gI,if_false,gA]at he;obtain⟨q,_,he⟩:=he;cases he;exact aw
      ·simp only[if_true]at he;cases he;exact aw.1
     have dj:=tV g1 kH;cases eW
     ·simp only[gI,if_false,gA]at he;obtain⟨q,bp,he⟩:=he;cases he;obtain⟨v,f1,f2,f3⟩:=Ck rQ dj bp;refine⟨v,?_,f2⟩;obtain⟨b,o,rfl,p2⟩:=p2;have:=p2 0 v (by simpa using f1);simp only[Nat.add_zero]at this;simp[Instr.loadAt,Instr.sureAddr,loadVar,bD,this]
     ·simp only[if_true]at he;cases he;obtain⟨b,o,rfl,p2⟩:=p2;refine⟨.agg ((LA.cells.toList.drop rQ).take sz).toArray,?_,by simp only[a7];exact⟨_,rfl,by simpa using FA dj rQ sz⟩⟩;have au:=oR dj;have hlen:((LA.cells.toList.drop rQ).take sz).length=sz:=by simp only[List.length_take,rC];omega
      have iu:=run_loadCells_list (P:=P) w ⟨b,o,none⟩ ((LA.cells.toList.drop rQ).take sz) (fun j v af=>by
       rw[oq];refine p2 j v ?_;rw[List.getElem?_take]at af;split at af
       ·simpa[List.getElem?_drop]using af
       ·cases af)
      rw[hlen]at iu;simp only[Instr.loadAt,Instr.sureAddr,loadVar,fv,gj,fD,bD,if_true,ag,iu]
    ·cases he
   ·cases he
  ·cases he
 ·rename_i k off;simp only[a7]at ad;obtain⟨bl,J,rfl⟩:=ad;split at he
  ·rename_i cs ab;obtain⟨h3,us,el,g1,g2,g3,g4,g5⟩:=a1.box k cs ab;rw[J]at g1;cases g1;have r5:hF cs=true:=by
    cases eW
    ·simp only[gI,if_false,gA]at he;obtain⟨q,bp,he⟩:=he;cases he;exact aw
    ·simp only[if_true]at he;cases he;exact aw.1
   rw[tN r5]at g4;rw[tO r5]at g5;have au:=oR g5;cases eW
   ·simp only[gI,if_false,gA]at he;obtain⟨q,bp,he⟩:=he;cases he;obtain⟨v,f1,f2,f3⟩:=Ck off g5 bp;refine⟨v,?_,f2⟩;have p2:w.cell? ⟨bl,off,none⟩=some v:=by simpa[World.cell?,g4]using f1
    simp[Instr.loadAt,Instr.sureAddr,loadVar,bD,p2]
   ·simp only[if_true]at he;cases he;replace aw:=aw.2;refine⟨_,?_,by simp only[a7];exact⟨_,rfl,by simpa using FA g5 off sz⟩⟩;simp only[Instr.loadAt,Instr.sureAddr,loadVar,fv,gj,fD,bD,if_true,ag];rw[aij g4 (by simp at au;omega)];rfl
  ·cases he
 ·rename_i q;simp only[a7]at ad;obtain⟨bl,off,e0,rfl,U,al⟩:=ad;cases eW
  ·simp only[gI,if_false]at he;cases he;obtain⟨Qb,yw⟩:=aw;obtain⟨g1,g2⟩:=KK U Qb (fun cs e=>by subst e;have:=e1 List.length yw;simp only[cells,pK,List.length_nil]at this;cases cs with
    |nil=>simp[cells]at yw
    |cons y ys=>simp only[cells,pI]at yw;obtain⟨aj,aC⟩:=yw;subst aC;have:=e1 SizeOf.sizeOf aj;simp at this;omega)
   refine⟨e0,?_,U⟩;rw[g2]at al;have p2:=al.1.2;simp[Instr.loadAt,Instr.sureAddr,loadVar,bD,p2]
  ·simp only[if_true]at he;cases he;obtain⟨cs,rfl,hlen⟩:=aw;simp only[a7]at U;obtain⟨us,rfl,a6⟩:=U;refine⟨.agg us,?_,by simp only[a7];exact⟨us,rfl,a6⟩⟩;simp only[oU]at al;have au:=oR a6;have:=aik (P:=P) al;rw[show us.toList.length=sz from by omega]at this;simp[Instr.loadAt,Instr.sureAddr,loadVar,bD,ag,this]
 ·cases he
theorem aav{P:cy}{bt:List (Nat×dB)}(aO:fN P bt=true){w:World}{ν:bc}{s i:Nat}{f:dB}{dF:List (Nat×Nat)}(aI:dQ bt s=some f)(ab:f.kind= .struct dF){off t:Nat}{g:dB}(hi:dF[i]? =some (off,t))(a1:dQ bt t=some g)(bs:g.size≠0)
  {x:ah} {u:Value} (ad:a7 w ν x u) {c:Prop} {p:ah} (he:o6 off g.kind.isAgg g.size x=some (c,p)) (aw:c):∃v,(Instr.fieldAt s u i).run P w= .ok v w∧a7 w ν p v:=by
 obtain⟨d,aP,eR⟩:=iz aO aI;rw[ab]at eR;obtain⟨gs,rfl,j2⟩:=Hc eR;have tj:∃fd:Field,gs[i]? =some fd∧fd.offset=off∧fd.type=t:=by rw[←j2]at hi;simp only[List.getElem?_map,gA]at hi;obtain⟨fd,J,U⟩:=hi;simp only[jb]at U;exact⟨fd,by simpa using J,U.1,U.2⟩
 obtain⟨fd,DX,av,nQ⟩:=tj;obtain⟨bD,ag⟩:=ue aO a1 w;have iu:∀b o,(Instr.fieldAt s (.pointer (some ⟨b,o,none⟩)) i).run P w= .ok (.pointer (some ⟨b,o+off,none⟩)) w:=by intro b o;simp[Instr.fieldAt,run_underlying aP,DX,Instr.sureAddr,fieldPlace,nQ,ag,bs,oq,av]
 unfold o6 at he;split at he
 ·cases he;simp only[a7]at ad;obtain⟨b,J,rfl⟩:=ad;exact⟨_,iu _ _,by simp only[a7];exact⟨b,J,rfl⟩⟩
 ·cases he;simp only[a7]at ad;obtain⟨⟨b,o,rfl⟩,hi,n',e0,J,U,al⟩:=ad;refine⟨_,iu _ _,?_⟩;simp only[a7];refine⟨⟨b,_,rfl⟩,hi,n',e0,J,U,fun e=>?_⟩;obtain⟨bY,aj,aC⟩:=al e;simp only[apA,dz,Addr.mk.injEq,and_true]at aC;obtain⟨rfl,rfl⟩:=aC;exact⟨b,aj,by rw[Nat.add_assoc]⟩
 ·rename_i cs;simp only[a7]at ad;obtain⟨b,o,e0,rfl,⟨us,rfl,U⟩,al⟩:=ad;refine⟨_,iu _ _,?_⟩;simp only[oU]at al;split at he
  ·cases he;simp only[a7];exact⟨b,o+off,.agg ((us.toList.drop off).take g.size).toArray,rfl,⟨_,rfl,by simpa using FA U off g.size⟩,by simpa[oU]using EF g.size (ED off al)⟩
  ·simp only[gA]at he;obtain⟨q,bp,he⟩:=he;cases he;obtain⟨v,f1,f2,f3⟩:=Ck off U bp;simp only[a7];have acs:=tE al f1;have ac8:v.cells= #[v]:=by cases v<;>first|rfl|cases f3
   exact⟨b,o+off,v,rfl,f2,by rw[ac8];exact⟨acs,trivial⟩⟩
 ·cases he
theorem aaB{P:cy}{bt:List (Nat×dB)}(aO:fN P bt=true){w:World}{ν:bc}{s i:Nat}{f:dB}{dF:List (Nat×Nat)}(aI:dQ bt s=some f)(ab:f.kind= .struct dF){off t:Nat}{g:dB}(hi:dF[i]? =some (off,t))(a1:dQ bt t=some g)
  {x:ah} {u:Value} (ad:a7 w ν x u) {c:Prop} {p:ah} (he:qC off g.kind.isAgg g.size x=some (c,p)) (aw:c):∃v,(Instr.field s u i).run P w= .ok v w∧a7 w ν p v:=by
 obtain⟨d,aP,eR⟩:=iz aO aI;rw[ab]at eR;obtain⟨gs,rfl,j2⟩:=Hc eR;have tj:∃fd:Field,gs[i]? =some fd∧fd.offset=off∧fd.type=t:=by rw[←j2]at hi;simp only[List.getElem?_map,gA]at hi;obtain⟨fd,J,U⟩:=hi;simp only[jb]at U;exact⟨fd,by simpa using J,U.1,U.2⟩
 obtain⟨fd,DX,av,nQ⟩:=tj;obtain⟨bD,ag⟩:=ue aO a1 w;unfold qC at he;split at he
 ·rename_i cs;simp only[a7]at ad;obtain⟨us,rfl,U⟩:=ad;generalize DQ:g.kind.isAgg=eW at*;cases eW
  ·simp only[gI,if_false,gA]at he;obtain⟨q,bp,he⟩:=he;cases he;obtain⟨v,f1,f2,f3⟩:=Ck off U bp;have YG:us[off]? =some v:=by simpa using f1
   exact⟨v,by simp[Instr.field,run_underlying aP,DX,asAgg,part,nQ,bD,av,YG],f2⟩
  ·simp only[if_true]at he;cases he;refine⟨.agg (us.extract off (off+g.size)),by simp[Instr.field,run_underlying aP,DX,asAgg,part,nQ,bD,av,ag],?_⟩;simp only[a7];refine⟨_,rfl,?_⟩;have:=FA U off g.size;simpa[List.take_drop]using this
 ·cases he
theorem adn{P:cy}{bt:List (Nat×dB)}(aO:fN P bt=true){w:World}{ν:bc}{t e:Nat}{f g:dB}(aI:dQ bt t=some f)(ab:f.kind= .slice e)(a1:dQ bt e=some g)
  {x y:ah} {u v:Value} (ad:a7 w ν x u) (aL:a7 w ν y v) {c:Prop} {p:ah} (he:yY g.size x y=some (c,p)) (aw:c):∃r,(Instr.indexAt t u v).run P w= .ok r w∧a7 w ν p r:=by
 obtain⟨d,aP,eR⟩:=iz aO aI;rw[ab]at eR;obtain rfl:=rL eR;obtain⟨bD,ag⟩:=ue aO a1 w;unfold yY at he;split at he
 ·rename_i dy tag xs k i;split at he
  ·rename_i dW;cases he;simp only[a7]at ad aL;subst aL;subst dW;obtain⟨⟨a,cap,rfl,J,U,al⟩,_⟩:=ad;obtain⟨A9,lx⟩:=aw;have iT:i.toNat<xs.length:=by omega
   rcases al with rfl|⟨b,off,us,rfl,a6,bW⟩
   ·simp at iT
   ·have ad:xs[i.toNat]? =some xs[i.toNat]:=ca iT;obtain⟨w',dC,e6,kr⟩:=Fx i.toNat bW ad;refine⟨.pointer (some ⟨b,off+i.toNat*g.size,none⟩),?_,?_⟩
    ·simp only[Instr.indexAt,asIntOf,fv,gj,fD,run_underlying aP,A9,lx,and_self,if_true,ag,oq]
    ·simp only[a7];refine⟨b,off+i.toNat*g.size,w',rfl,by simpa[List.getD,ad]using dC,?_⟩;rw[kr];exact EF g.size (ED _ a6)
  ·cases he
 ·rename_i dy k n ni i;split at he
  ·rename_i dW;cases he;simp only[a7]at ad aL;subst aL;subst dW;obtain⟨⟨b,cap,rfl⟩,U,n',e0,al,a6,bW⟩:=ad;obtain⟨A9,lx⟩:=aw;refine⟨.pointer (some ⟨b,0+i.toNat*g.size,none⟩),?_,?_⟩
   ·simp only[Instr.indexAt,asIntOf,fv,gj,fD,run_underlying aP,A9,lx,and_self,if_true,ag,oq]
   ·simp only[a7];refine⟨⟨b,_,rfl⟩,by omega,n',e0,al,a6,fun e=>⟨b,?_,by simp⟩⟩;rw[←bW e];rfl
  ·cases he
 ·cases he
theorem E4{C:e7}{st:bo}{a:Act}{w:World}{ν:bc}(h:cJ C st a w ν){x:aW dk}{o:aW Operand}(ad:vp x o=true){Dv n:Int}(he:qd Dv (x.map (cg st.t))=some n):
  (o.map a.eval=none∧n=Dv)∨ ∃k,o.map a.eval=some (.int k n):=by
 cases x with
 |none=>cases o with
  |none=>simp[qd]at he;exact .inl ⟨rfl,he.symm⟩
  |some o=>simp[vp]at ad
 |some x=>cases o with
  |none=>simp[vp]at ad
  |some o=>
   simp only[vp]at ad
   have:=dZ h ad
   simp only[ny]at he⊢
   cases tf:cg st.t x<;>simp[tf,qd]at he
   rw[tf]at this
   simp only[a7]at this
   subst he
   exact .inr ⟨_,by rw[this]⟩
theorem VN{c d:ah}(h:Gf c d=true):c=d:=by unfold Gf at h;split at h<;>simp_all
theorem LH:∀{cs ey:List ah},xS cs ey=true→cs=ey
 |[],[],_=>rfl
 |[],_::_,h=>by simp[xS]at h
 |_::_,[],h=>by simp[xS]at h
 |c::cs,d::ey,h=>by simp only[xS,cA]at h;rw[VN h.1,LH h.2]
theorem akG{cs:List ah}{z:ah}(h:LL cs z=true):z= .agg cs:=by
 cases z<;>simp only[LL]at h;case agg ey=>rw[LH h]
 all_goals cases h
theorem abp(s:List dA)(n:Nat)(h:n<s.length):(⟨s.toArray⟩:ByteArray)[n]? =some (s.getD n 0):=by
 have dW:n<(⟨s.toArray⟩:ByteArray).size:=by rw[Cv];exact h
 have e:(⟨s.toArray⟩:ByteArray)[n]? =some ((⟨s.toArray⟩:ByteArray)[n]'dW):=getElem?_pos (⟨s.toArray⟩:ByteArray) n dW;rw[e];congr 1;simp[List.getD,h];rfl
theorem FP(P:cy)(w:World)(k:IntKind)(i:Int)(y:Nat)(c:BoundsCode)(bs:0≤i)(J:i≤y):(Instr.sliceBound (.int k i) y c).run P w= .ok i.toNat w:=by simp[Instr.sliceBound,asIntOf,bs,J]
theorem Mn(P:cy)(w:World)(adI:Bool)(len cap:Nat)(lo hi:aW Value)(l h:Int)(Bb:(lo=none∧l=0)∨ ∃k,lo=some (.int k l))(A8:(hi=none∧h=len)∨ ∃k,hi=some (.int k h))
  (bs:0≤l) (J:l≤h) (U:h≤len) (aw:len≤cap):(Instr.sliceBounds adI len cap lo hi none).run P w= .ok (l.toNat,h.toNat,cap) w:=by
 rcases Bb with⟨rfl,rfl⟩|⟨k,rfl⟩<;>rcases A8 with⟨rfl,rfl⟩|⟨bH,rfl⟩
 ·simp[Instr.sliceBounds]
 ·simp[Instr.sliceBounds,FP P w bH h cap _ (by omega) (by omega)]
 ·simp[Instr.sliceBounds,FP P w k l len _ (by omega) (by omega)]
 ·simp[Instr.sliceBounds,FP P w bH h cap _ (by omega) (by omega),FP P w k l h.toNat _ (by omega) (by omega)]
theorem Th{P:cy}{bt:List (Nat×dB)}(aO:fN P bt=true):∀(gs:List Field),(gs.all fun f=>(dQ bt f.type).isSome)=true→
  ∃sl:List (Nat×Nat),gs.mapM (fun f=>(P.info? f.type).map fun i=>(f.offset,i.size))=some sl∧
   ∀(i off t sz:Nat),(gs.map (fun f=>(f.offset,f.type)))[i]? =some (off,t)→(dQ bt t).map (·.size)=some sz→sl[i]? =some (off,sz)
 |[],_=>⟨[],by simp,by simp⟩
 |f::gs,h=>by
  simp only[List.all_cons,cA]at h;obtain⟨sl,J,U⟩:=Th aO gs h.2;obtain⟨g,a1⟩:=fE.1 h.1;obtain⟨i,d,z,aj,aC,bg,da,gL,hz,qu,qv⟩:=(uf aO a1).ex;refine⟨(f.offset,g.size)::sl,by simp[List.mapM_cons,aj,bg,J],fun j off t sz af dW=>?_⟩;cases j with
  |zero=>simp only[gX,List.getElem?_cons_zero,dz,jb]at af⊢;obtain⟨rfl,rfl⟩:=af;rw[a1]at dW;simpa using dW
  |succ j=>simp only[gX,List.getElem?_cons_succ]at af⊢;exact U j off t sz af dW
theorem kN{P:cy}{w:World}{x:Sem Value}{v:Value}(h:x.run P w= .ok v w):(do pure (Next.value (←x)):Sem Next).run P w= .ok (.value v) w:=by simp[h]
theorem LK{p q:ah}(h:z8 p q=true):p=q:=by
 unfold z8 at h;split at h
 ·rw[LH h]
 ·cases h
 ·exact VN h
theorem LJ(w:World)(ν:bc){p:ah}{v:Value}(h:xT p v=true):a7 w ν p v∧c0 w ν (cells p) v.cells.toList:=by
 by_cases bD:∃cs,p= .agg cs
 ·obtain⟨cs,rfl⟩:=bD;cases v<;>simp only[xT]at h;case agg us=>have:=LI w ν _ _ h;exact⟨by simp only[a7];exact⟨us,rfl,this⟩,by simpa[cells,oU]using this⟩
  all_goals cases h
 ·have cp:x5 p v=true∧v.oneCell'=true:=by cases p<;>simp only[xT,cA]at h<;>first|exact h|exact absurd ⟨_,rfl⟩ bD
  have aJ:=GL w ν cp.1;refine⟨aJ,?_⟩;have aw:cells p=[p]:=by cases p<;>first|rfl|exact absurd ⟨_,rfl⟩ bD
  have aK:v.cells= #[v]:=by have:=cp.2;cases v<;>first|rfl|simp[Value.oneCell']at this
  rw[aw,aK];simp only[c0];exact⟨v,[],rfl,⟨aJ,cp.2⟩,rfl⟩
theorem Lg{P:cy}{bt:List (Nat×dB)}(aO:fN P bt=true){t:Nat}{f:dB}(aI:dQ bt t=some f)(w:World):∃z,(zeroValue t).run P w= .ok z w∧xT f.zero z=true∧z.cells.size=f.size:=by obtain⟨i,d,z,J,U,al,a6,bW,c3,dV,nc⟩:=(uf aO aI).ex;exact⟨z,by simp[zeroValue,typeInfo,J,c3],dV,nc⟩
theorem Cm{C:e7}{st:bo}{a:Act}{w:World}{ν:bc}(h:cJ C st a w ν):∀{xs:List dk} {os:List Operand},xo xs os=true→cH w ν (xs.map (cg st.t)) (os.map a.eval)
 |[],[],_=>by simp[cH]
 |[],_::_,ab=>by simp[xo]at ab
 |_::_,[],ab=>by simp[xo]at ab
 |x::xs,o::os,ab=>by simp only[xo,cA]at ab;simp only[gX,cH];exact⟨_,_,rfl,dZ h ab.1,Cm h ab.2⟩
theorem XN{P:cy}{w:World}{t:fT}(aP:P.underlying t=some .bool)(d:Nat)(a b:Bool):(Op.equalIn (d+1) t (.bool a) (.bool b)).run P w= .ok (a==b) w:=by rw[Op.equalIn];simp only[fv,run_underlying aP,fD,gj]
theorem XO{P:cy}{w:World}{t:fT}(aP:P.underlying t=some .bool)(a b:Bool):(Op.equal t (.bool a) (.bool b)).run P w= .ok (a==b) w:=XN aP _ a b
theorem OW:∀{borns:List Nat} {kvs:List ah} {us:List Value},kvs.length=2*borns.length→us.length=kvs.length→(fq borns us).length=borns.length
 |[],_,us,_,_=>by simp[fq]
 |bY::eF,kvs,[],J,U=>by rw[J]at U;simp at U
 |bY::eF,kvs,[_],J,U=>by rw[J]at U;simp at U;omega
 |bY::eF,kvs,k::v::us,J,U=>by simp only[fq,pK];rw[OW (kvs:=kvs.drop 2) (us:=us) (borns:=eF) (by simp at J⊢;omega) (by simp at J U⊢;omega)]
theorem Uk{w:World}{ν:bc}:∀{cm:List ah} {ba:List Value},cH w ν cm ba→ba.length=cm.length
 |[],ba,h=>by simp only[cH]at h;subst h;rfl
 |p::cm,ba,h=>by simp only[cH]at h;obtain⟨u,cb,rfl,_,U⟩:=h;simp[Uk U]
theorem ua{P:cy}{w:World}{r:Nat}{o:Obj}(ae:w.heap[r]? =some o)(aA:∀c e f,o≠ .cells c e f:=by simp):(getObj r).run P w= .ok o w:=by simp only[getObj,Sem.run,ae]
def pL(P:cy):Nat→List Bool→List Field→Prop
 |_,[],[]=>True
 |n,b::r,f::gs=>(f.offset=n∧f.name≠ "_" ∧(if b=true then P.underlying f.type=some .string else∃k,P.underlying f.type=some (.int k)))∧pL P (n+1) r gs
 |_,_,_=>eI
theorem Ca{P:cy}{t:fT}{b:Bool}(h:if b=true then P.underlying t=some .string else∃k,P.underlying t=some (.int k)):P.plainKey t=true:=by
 cases b
 ·obtain⟨k,h⟩:=(by simpa using h:∃k,P.underlying t=some (.int k));simp[Program.plainKey,h]
 ·have h:P.underlying t=some .string:=by simpa using h
  simp[Program.plainKey,h]
theorem WR{P:cy}{w:World}{ν:bc}(d:Nat){X Y:Array Value}(dF:List Bool):∀(gs:List Field) (n:Nat) (as eF:List ah) (us ba:List Value) (q:Bool),pL P n dF gs→X.toList.drop n=us→Y.toList.drop n=ba→c0 w ν as us→c0 w ν eF ba→jI dF as eF=some q→
  (Op.eqFields (d+1) X Y gs).run P w= .ok q w∧(q=true→us=ba)∧∀m,(us.zip us).all (fun(x,y)=>Instr.sameBits m x y)=true:=by
 induction dF with
 |nil=>intro gs n as eF us ba q a1 AV AW J U h;cases as<;>cases eF<;>simp only[jI,dz,reduceCtorEq]at h;cases gs<;>simp only[pL]at a1;simp only[c0]at J U;rw[J,U,←h];exact⟨by simp[Op.eqFields],fun _=>rfl,fun m=>rfl⟩
 |cons wm r bM=>
  intro gs n as eF us ba q a1 AV AW J U h;cases gs with
  |nil=>simp only[pL]at a1
  |cons f gs=>
  simp only[pL]at a1;obtain⟨⟨D8,Bg,nQ⟩,a1⟩:=a1;cases as with
  |nil=>cases wm<;>cases eF<;>simp[jI]at h
  |cons B8 as=>
  cases eF with
  |nil=>cases wm<;>cases B8<;>simp[jI]at h
  |cons E8 eF=>
  cases wm with
  |false=>
   have aw:∃k a b gr,B8= .int k a∧E8= .int k b∧jI r as eF=some gr∧q=((a==b)&&gr):=by
    cases B8<;>first|(simp[jI]at h;done)|skip
    cases E8<;>first|(simp[jI]at h;done)|skip
    simp only[jI]at h;split at h
    ·rename_i ab;subst ab;simp only[gA]at h;obtain⟨gr,al,a6⟩:=h;exact⟨_,_,_,gr,rfl,rfl,al,a6.symm⟩
    ·cases h
   obtain⟨k,a,b,gr,rfl,rfl,al,rfl⟩:=aw;simp only[c0,a7]at J U;obtain⟨u,cb,rfl,⟨rfl,_⟩,J⟩:=J;obtain⟨v,vs',rfl,⟨rfl,_⟩,U⟩:=U;have B7:X[n]? =some (.int k a):=by rw[←sG,←List.head?_drop,AV];rfl
   have J6:Y[n]? =some (.int k b):=by rw[←sG,←List.head?_drop,AW];rfl
   obtain⟨i1,i2,i3⟩:=bM gs (n+1) as eF cb vs' gr a1 (by rw[←List.tail_drop,AV];rfl) (by rw[←List.tail_drop,AW];rfl) J U al;obtain⟨ni,IK⟩:=(by simpa using nQ:∃k,P.underlying f.type=some (.int k));refine⟨?_,?_,fun m=>?_⟩
   ·simp only[Op.eqFields,Bg,ne_eq,not_false_eq_true,if_true,fv,D8,run_part_plain w (Ca nQ) B7,run_part_plain w (Ca nQ) J6,fD,run_equalIn_int w d f.type k ni a b IK];cases mx:(a==b)
    ·simp
    ·simpa using i1
   ·intro bp;simp only[cA,dG]at bp;rw[bp.1,i2 bp.2]
   ·have:=i3 m;simp only[List.zip_cons_cons,List.all_cons,this,Bool.and_true];cases m<;>simp[Instr.sameBits]
  |true=>
   have aw:∃a b gr,B8= .str a∧E8= .str b∧jI r as eF=some gr∧q=((a==b)&&gr):=by
    cases B8<;>first|(simp[jI]at h;done)|skip
    cases E8<;>first|(simp[jI]at h;done)|skip
    simp only[jI,gA]at h;obtain⟨gr,al,a6⟩:=h;exact⟨_,_,gr,rfl,rfl,al,a6.symm⟩
   obtain⟨a,b,gr,rfl,rfl,al,rfl⟩:=aw;simp only[c0,a7]at J U;obtain⟨u,cb,rfl,⟨⟨rfl,_⟩,_⟩,J⟩:=J;obtain⟨v,vs',rfl,⟨⟨rfl,_⟩,_⟩,U⟩:=U;have B7:X[n]? =some (.string ⟨a.toArray⟩):=by rw[←sG,←List.head?_drop,AV];rfl
   have J6:Y[n]? =some (.string ⟨b.toArray⟩):=by rw[←sG,←List.head?_drop,AW];rfl
   obtain⟨i1,i2,i3⟩:=bM gs (n+1) as eF cb vs' gr a1 (by rw[←List.tail_drop,AV];rfl) (by rw[←List.tail_drop,AW];rfl) J U al;have IK:P.underlying f.type=some .string:=by simpa using nQ
   refine⟨?_,?_,fun m=>?_⟩
   ·simp only[Op.eqFields,Bg,ne_eq,not_false_eq_true,if_true,fv,D8,run_part_plain w (Ca nQ) B7,run_part_plain w (Ca nQ) J6,fD,run_equalIn_string w d f.type _ _ IK];have e:((⟨a.toArray⟩:ByteArray).toList==(⟨b.toArray⟩:ByteArray).toList)=(a==b):=by rw[akJ,akJ]
    rw[e];cases mx:(a==b)
    ·simp
    ·simpa using i1
   ·intro bp;simp only[cA,dG]at bp;rw[bp.1,i2 bp.2]
   ·have:=i3 m;simp only[List.zip_cons_cons,List.all_cons,this,Bool.and_true];cases m<;>simp only[Instr.sameBits]<;>exact(MapKept.bytes_beq _ _).2 rfl
theorem Pq{P:cy}{bt:List (Nat×dB)}(aO:fN P bt=true):∀(dF:List Bool) (gs:List Field) (n:Nat),yn bt n dF (gs.map fun f=>(f.offset,f.type))=true→(gs.all (fun f=>match P.underlying f.type with|some (.int _)=>true|some .string=>true|_=>false)=true)∧((∀f∈gs,f.name≠ "_")→pL P n dF gs)
 |[],[],_,_=>⟨rfl,fun _=>trivial⟩
 |[],_::_,_,h=>by simp[yn]at h
 |_::_,[],_,h=>by simp[yn]at h
 |b::r,f::gs,n,h=>by
  simp only[gX,yn,cA,dG]at h;obtain⟨⟨J,U⟩,al⟩:=h;obtain⟨i1,i2⟩:=Pq aO r gs (n+1) al;split at U
  ·rename_i aI;obtain⟨d,hu,aP⟩:=iz aO aI;obtain rfl:=Du aP;refine⟨by simp only[List.all_cons,hu,i1,Bool.and_self],fun aA=>⟨⟨J,aA f (by simp),?_⟩,i2 fun g a1=>aA g (by simp[a1])⟩⟩;have:b=false:=by simpa using U
   subst this;simpa using⟨_,hu⟩
  ·rename_i aI;obtain⟨d,hu,aP⟩:=iz aO aI;obtain rfl:=ye aP;refine⟨by simp only[List.all_cons,hu,i1,Bool.and_self],fun aA=>⟨⟨J,aA f (by simp),?_⟩,i2 fun g a1=>aA g (by simp[a1])⟩⟩;subst U;simpa using hu
  ·cases U
theorem Ps{P:cy}{bt:List (Nat×dB)}(aO:fN P bt=true){dF:List Bool}{t:Nat}(h:DG bt dF t=true):∃gs,P.underlying t=some (.struct gs)∧pL P 0 dF gs.toList∧P.stoodInHeld t=false∧P.eqGuardType P.depth t=false:=by
 unfold DG at h;split at h
 ·rename_i aI;obtain⟨d,hu,aP⟩:=iz aO aI;have aw:=(uf aO aI).cmp d hu;cases d<;>simp[jJ]at aP;rename_i gs;subst aP;obtain⟨i1,i2⟩:=Pq aO dF gs.toList 0 h;have rX:Pr P gs=true:=i1;simp only[G9,rX,Bool.not_true,Bool.false_or,OE,cA,Bool.not_eq_true',ja,bne_iff_ne,ne_eq]at aw;exact⟨gs,hu,i2 aw.1.1,aw.1.2,aw.2⟩
 ·cases h
theorem O0{P:cy}{w:World}{ν:bc}{t:fT}{gs:Array Field}{dF:List Bool}(hu:P.underlying t=some (.struct gs))(a1:pL P 0 dF gs.toList)(c9:P.stoodInHeld t=false){as eF:List ah}{X Y:Array Value}(J:c0 w ν as X.toList)(U:c0 w ν eF Y.toList){q:Bool}(h:jI dF as eF=some q):
  (Op.equalIn 10000 t (.agg X) (.agg Y)).run P w= .ok q w∧(q=true→X=Y)∧∀m,(X.toList.zip X.toList).all (fun(x,y)=>Instr.sameBits m x y)=true:=by
 have aI:P.fieldsOf t=gs:=by simp[Program.fieldsOf,hu]
 obtain⟨i1,i2,i3⟩:=WR 9998 dF gs.toList 0 as eF _ _ q a1 rfl rfl J U h;refine⟨?_,fun e=>?_,?_⟩
 ·rw[run_equalIn_struct w 9999 t X Y (by rw[aI];exact hu) c9,aI];exact i1
 ·have:=i2 e;simpa using this
 ·simpa using i3
inductive sL (P:cy):jd→fT→Prop
 |i {t:fT} {k:IntKind}:P.underlying t=some (.int k)→sL P .i t
 |s {t:fT}:P.underlying t=some .string→sL P .s t
 |a {t:fT} {dF:List Bool} {gs:Array Field}:P.underlying t=some (.struct gs)→pL P 0 dF gs.toList→P.stoodInHeld t=false→sL P (.a dF) t
theorem Ja{P:cy}{bt:List (Nat×dB)}(aO:fN P bt=true){b7:jd}{t:Nat}(h:w6 bt b7 t=true):sL P b7 t:=by
 cases b7 with
 |i=>
  simp only[w6]at h;split at h
  ·rename_i aI;obtain⟨d,hu,aP⟩:=iz aO aI;obtain rfl:=Du aP;exact .i hu
  ·cases h
 |s=>
  simp only[w6]at h;split at h
  ·rename_i aI;obtain⟨d,hu,aP⟩:=iz aO aI;obtain rfl:=ye aP;exact .s hu
  ·cases h
 |a dF=>obtain⟨gs,J,U,al,_⟩:=Ps aO h;exact .a J U al
def rG(P:cy)(w:World)(b7:jd)(t:fT)(gP u:Value)(b:Bool):Prop:=match b7 with
 | .a _=>(Op.equal t gP u).run P w= .ok b w
 |_=> ∀d,P.underlying t=some d→Instr.sameNow d gP u=some b
def hI(P:cy)(w:World)(b7:jd)(t:fT)(gP:Value)(es:List MapEntry)(i:Nat)(r:aW (Nat×Value)):Prop:=match b7 with
 | .a _=>(Instr.findAsking t gP es i).run P w= .ok r w
 |_=> ∀d,P.underlying t=some d→Instr.findNow d gP es i=some r
theorem hI.nil(P:cy)(w:World)(b7:jd)(t:fT)(gP:Value)(i:Nat):hI P w b7 t gP [] i none:=by cases b7<;>simp[hI,Instr.findAsking,Instr.findNow]
theorem hI.hit{P:cy}{w:World}{b7:jd}{t:fT}{gP:Value}{e:MapEntry}{es:List MapEntry}{i:Nat}(h:rG P w b7 t gP e.key true):hI P w b7 t gP (e::es) i (some (i,e.val)):=by
 cases b7 with
 |a dF=>simp only[rG]at h;simp[hI,Instr.findAsking,h]
 |i=>simp only[rG]at h;simp only[hI];intro d aP;simp[Instr.findNow,h d aP]
 |s=>simp only[rG]at h;simp only[hI];intro d aP;simp[Instr.findNow,h d aP]
theorem hI.miss{P:cy}{w:World}{b7:jd}{t:fT}{gP:Value}{e:MapEntry}{es:List MapEntry}{i:Nat}{r:aW (Nat×Value)}(h:rG P w b7 t gP e.key false)(aJ:hI P w b7 t gP es (i+1) r):hI P w b7 t gP (e::es) i r:=by
 cases b7 with
 |a dF=>simp only[rG]at h;simp only[hI]at aJ;simp[hI,Instr.findAsking,h,aJ]
 |i=>simp only[rG]at h;simp only[hI]at aJ⊢;intro d aP;simp[Instr.findNow,h d aP,aJ d aP]
 |s=>simp only[rG]at h;simp only[hI]at aJ⊢;intro d aP;simp[Instr.findNow,h d aP,aJ d aP]
theorem hI.run{P:cy}{w:World}{b7:jd}{t:fT}(aP:sL P b7 t){gP:Value}{es:List MapEntry}{r:aW (Nat×Value)}(h:hI P w b7 t gP es 0 r):(Instr.findKey t gP es).run P w= .ok r w:=by
 cases aP with
 |i hu=>simp only[hI]at h;simp[Instr.findKey,run_underlying hu,h _ hu]
 |s hu=>simp only[hI]at h;simp[Instr.findKey,run_underlying hu,h _ hu]
 |a hu a1 c9=>
  simp only[hI]at h;cases es with
  |nil=>simp[Instr.findAsking]at h;simp[Instr.findKey,run_underlying hu,Instr.findNow,h]
  |cons e es=>
   rename_i gs;have:Instr.sameNow (.struct gs) gP e.key=none:=by cases gP<;>rfl
   simp only[Instr.findKey,fv,run_underlying hu,fD,Instr.findNow,this];exact h
theorem RE{P:cy}{w:World}{ν:bc}{b7:jd}{t:fT}(aP:sL P b7 t){k bH:ah}{gP u:Value}(ab:a7 w ν k gP)(J:a7 w ν bH u){bb:Bool}(ae:sb b7 k bH=some bb):
  rG P w b7 t gP u bb∧(bb=true→u=gP∧Instr.sameBits 10000 u gP=true):=by
 unfold sb at ae;split at ae
 ·split at ae
  ·rename_i k0;subst k0;simp only[a7]at ab J;subst ab;subst J;cases aP with
   |i hu=>refine⟨fun d aP=>by rw[hu]at aP;cases aP;simpa[Instr.sameNow]using ae,fun e=>?_⟩;subst e;simp only[dz,dG]at ae;subst ae;exact⟨rfl,by simp[Instr.sameBits]⟩
  ·cases ae
 ·rename_i a b;simp only[a7]at ab J;obtain⟨rfl,_⟩:=ab;obtain⟨rfl,_⟩:=J;cases aP with
  |s hu=>
   refine⟨fun d aP=>?_,fun e=>?_⟩
   ·rw[hu]at aP;cases aP;simp only[Instr.sameNow];rw[←ae];congr 1;rw[pH,MapKept.bytes_beq];simp
   ·subst e;simp only[dz,dG]at ae;subst ae;exact⟨rfl,by simp only[Instr.sameBits];exact(MapKept.bytes_beq _ _).2 rfl⟩
 ·simp only[a7]at ab J;obtain⟨X,rfl,ab⟩:=ab;obtain⟨Y,rfl,J⟩:=J;cases aP with
  |a hu a1 c9=>obtain⟨i1,i2,i3⟩:=O0 hu a1 c9 ab J ae;refine⟨by simpa[rG,Op.equal,Op.maxDepth]using i1,fun e=>?_⟩;have:=i2 e;subst this;exact⟨rfl,by simp[Instr.sameBits,i3]⟩
 ·cases ae
theorem JC{P:cy}{w:World}{ν:bc}{b7:jd}{t:fT}(aP:sL P b7 t){k:ah}{gP:Value}(ab:a7 w ν k gP):∀(borns:List Nat) (kvs:List ah) (us:List Value) (i:Nat) (r:aW ah),cH w ν kvs us→kvs.length=2*borns.length→vi b7 k kvs=some r→
  match r with
  |none=>hI P w b7 t gP (fq borns us) i none
  |some v=> ∃j u,hI P w b7 t gP (fq borns us) i (some (j,u))∧a7 w ν v u
 |[],[],us,i,r,h,_,hm=>by simp only[vi]at hm;cases hm;simp only[cH]at h;subst h;simpa[fq]using hI.nil P w b7 t gP i
 |[],_::_,_,_,_,_,au,_=>by simp at au
 |b::eF,[],_,_,_,_,au,_=>by simp at au
 |b::eF,[_],_,_,_,_,au,_=>by simp at au;omega
 |b::eF,bH::v::kvs,us,i,r,h,au,hm=>by
  simp only[cH]at h;obtain⟨iA,Ll,rfl,J,iY,rq,rfl,U,al⟩:=h;simp only[vi]at hm;simp only[fq];cases bp:sb b7 k bH with
  |none=>simp[bp]at hm
  |some bb=>
   obtain⟨s1,_⟩:=RE aP ab J bp;simp only[bp]at hm;cases bb with
   |true=>simp only[dz]at hm;subst hm;exact⟨i,iY,hI.hit (e:=⟨iA,iY,b⟩) s1,U⟩
   |false=>
    simp only at hm;have bM:=JC aP ab eF kvs rq (i+1) r al (by simp at au;omega) hm;cases r with
    |none=>exact hI.miss (e:=⟨iA,iY,b⟩) s1 bM
    |some v'=>obtain⟨j,u,g1,g2⟩:=bM;exact⟨j,u,hI.miss (e:=⟨iA,iY,b⟩) s1 g1,g2⟩
theorem G7{P:cy}{w:World}{t:Nat}{d:TypeDesc}(hu:P.underlying t=some d)(aP:(∃k,d= .int k)∨d= .string)(e:Bool)(n:Nat)(v:Value):(Instr.checkKey e (n+1) t v).run P w= .ok () w:=by unfold Instr.checkKey;rcases aP with⟨k,rfl⟩|rfl<;>simp[run_underlying hu]
theorem aaA{P:cy}{w:World}{ν:bc}{X:Array Value}(dF:List Bool):∀(gs:List Field) (n:Nat) (as:List ah),pL P n dF gs→c0 w ν as (X.toList.drop n)→(jI dF as as).isSome=true→
  ∀f∈gs,(∃v,(part f.type X f.offset).run P w= .ok v w)∧∃d,P.underlying f.type=some d∧((∃k,d= .int k)∨d= .string):=by
 induction dF with
 |nil=>intro gs n as a1 _ _ f aI;cases gs<;>simp only[pL]at a1;cases aI
 |cons wm r bM=>
  intro gs n as a1 aJ aw f aI;cases gs with
  |nil=>cases aI
  |cons g gs=>
  simp only[pL]at a1;obtain⟨⟨D8,Bg,nQ⟩,a1⟩:=a1;cases as with
  |nil=>cases wm<;>simp[jI]at aw
  |cons p as=>
  have hj:(jI r as as).isSome=true:=by cases wm<;>cases p<;>simp[jI]at aw⊢ <;>exact aw
  simp only[c0]at aJ;obtain⟨u,cb,e,_,dx⟩:=aJ;have aC:X.toList.drop (n+1)=cb:=by rw[←List.tail_drop,e];rfl
  have B7:X[n]? =some u:=by rw[←sG,←List.head?_drop,e];rfl
  rcases fU.1 aI with rfl|aI
  ·refine⟨⟨u,by rw[D8];exact run_part_plain w (Ca nQ) B7⟩,?_⟩;cases wm
   ·obtain⟨k,h⟩:=(by simpa using nQ:∃k,P.underlying f.type=some (.int k));exact⟨_,h,.inl ⟨k,rfl⟩⟩
   ·exact⟨_,by simpa using nQ,.inr rfl⟩
  ·exact bM gs (n+1) as a1 (by rw[aC];exact dx) hj f aI
theorem Pz{P:cy}{w:World}{α:Type}(body:α→PUnit→Sem (ForInStep PUnit)):∀(l:List α),(∀f∈l,(body f ⟨⟩).run P w= .ok (.yield ⟨⟩) w)→(forIn l PUnit.unit body).run P w= .ok PUnit.unit w
 |[],_=>by simp
 |f::l,h=>by simp only[List.forIn_cons,fv,h f (by simp),fD];exact Pz body l fun g a1=>h g (by simp[a1])
theorem KN{P:cy}{w:World}{ν:bc}{b7:jd}{t:Nat}(aP:sL P b7 t)(e:Bool){k:ah}{v:Value}(ab:a7 w ν k v)(hi:tx b7 k=true):(Instr.checkKey e 10000 t v).run P w= .ok () w:=by
 cases aP with
 |i hu=>exact G7 hu (.inl ⟨_,rfl⟩) e 9999 v
 |s hu=>exact G7 hu (.inr rfl) e 9999 v
 |a hu a1 c9=>
  rename_i dF gs;cases k<;>simp only[tx,gI]at hi;rename_i as;simp only[a7]at ab;obtain⟨X,rfl,ab⟩:=ab;unfold Instr.checkKey;simp only[fv,run_underlying hu,fD];rw[←Array.forIn_toList];rw[Pz]
  ·simp
  ·intro f aI;obtain⟨⟨v,J⟩,d,U,al⟩:=aaA dF gs.toList 0 as a1 (by simpa using ab) hi f aI;have a6:=G7 (w:=w) U al e 9998 v;by_cases aA:f.name= "_"
   ·simp[aA]
   ·simp[aA,J,a6]
theorem Sn{w:World}{ν:bc}{n:Nat}:∀(borns:List Nat) (kvs:List ah) (us:List Value) (p:ah),cH w ν kvs us→l7 n borns kvs=some p→∃e,(fq borns us).find? (·.born==n)=some e∧a7 w ν p (.tuple #[e.key,e.val])
 |[],_,_,_,_,hm=>by simp[l7]at hm
 |_::_,[],_,_,_,hm=>by simp[l7]at hm
 |_::_,[_],_,_,_,hm=>by simp[l7]at hm
 |b::eF,k::v::kvs,us,p,h,hm=>by
  simp only[cH]at h;obtain⟨iA,Ll,rfl,J,iY,rq,rfl,U,al⟩:=h;simp only[l7]at hm;simp only[fq];by_cases e:b=n
  ·rw[if_pos e]at hm;cases hm;refine⟨⟨iA,iY,b⟩,by simp[List.find?,e],?_⟩;simp only[a7];exact⟨#[iA,iY],rfl,by simp only[cH];exact⟨_,_,rfl,J,_,_,rfl,U,rfl⟩⟩
  ·rw[if_neg e]at hm;obtain⟨x,g1,g2⟩:=Sn eF kvs rq p al hm;have abM:(b==n)=false:=by simpa using e
   exact⟨x,by simp[List.find?,abM,g1],g2⟩
theorem U9{P:cy}{bt:List (Nat×dB)}(aO:fN P bt=true){C:e7}{st:bo}{a:Act}{w:World}{ν:bc}(aJ:cJ C st a w ν){i:fI}(abL:∀b7 z ok x k,i≠ .mgetB b7 z ok x k){o:Oper}(av:CG bt i o.op=true)
  {c:Prop} {p:ah} (he:gU st i=some (c,p)) (aw:c):∃v,(execOp a.eval o).run P w= .ok (.value v) w∧a7 w ν p v:=by
 obtain⟨dst,op,type,pos,after,guard⟩:=o;simp only at av;unfold CG at av;split at av
 ·rename_i x o;simp only[gU]at he;cases he;exact⟨_,rfl,dZ aJ av⟩
 ·rename_i x o;simp only[gU]at he;cases he;exact⟨_,rfl,dZ aJ av⟩
 ·rename_i ch x y ak7 Gc VL;simp only[cA]at av;have J:=dZ aJ av.1.1;have U:=dZ aJ av.1.2;have al:=dZ aJ av.2;simp only[gU,E9]at he;split at he
  ·rename_i b ae;rw[ae]at J;simp only[a7]at J;split at he
   ·rename_i u v hu aK;cases he;rw[hu]at U;rw[aK]at al;simp only[a7]at U al;refine⟨.bool (cond b u v),?_,by simp[a7]⟩;simp only[execOp,J,U,al,asBool,fv,gj,fD];cases b<;>rfl
   ·split at he
    ·cases he;exact⟨_,by simp only[execOp,J,asBool,fv,gj,fD,if_true],U⟩
    ·cases he;exact⟨_,by simp only[execOp,J,asBool,fv,gj,fD,gI,if_false],al⟩
  ·cases he
 ·rename_i agg sz x t o;simp only[cA]at av;obtain⟨J,U⟩:=av;split at J
  ·rename_i f aI;simp only[cA,dG]at J;obtain⟨rfl,rfl⟩:=J;obtain⟨v,g1,g2⟩:=EK aO aJ.good aI (dZ aJ U) (by simpa only[gU]using he) aw;exact⟨v,kN g1,g2⟩
  ·cases J
 ·rename_i off agg sz x s o i;simp only[cA]at av;obtain⟨J,U⟩:=av;split at J
  ·rename_i f aI;split at J
   ·rename_i vm t A4;simp only[cA,dG]at J;obtain⟨rfl,J⟩:=J;split at J
    ·rename_i g a1;simp only[cA,dG,bne_iff_ne,ne_eq]at J;obtain⟨⟨rfl,rfl⟩,bs⟩:=J;obtain⟨v,g1,g2⟩:=aav aO aI rfl A4 a1 bs (dZ aJ U) (by simpa only[gU]using he) aw;exact⟨v,kN g1,g2⟩
    ·cases J
   ·cases J
  ·cases J
 ·rename_i off agg sz x s o i;simp only[cA]at av;obtain⟨J,U⟩:=av;split at J
  ·rename_i f aI;split at J
   ·rename_i vm t A4;simp only[cA,dG]at J;obtain⟨rfl,J⟩:=J;split at J
    ·rename_i g a1;simp only[cA,dG]at J;obtain⟨rfl,rfl⟩:=J;obtain⟨v,g1,g2⟩:=aaB aO aI rfl A4 a1 (dZ aJ U) (by simpa only[gU]using he) aw;exact⟨v,kN g1,g2⟩
    ·cases J
   ·cases J
  ·cases J
 ·rename_i sz x i t o j;simp only[cA]at av;obtain⟨⟨J,U⟩,al⟩:=av;split at J
  ·rename_i e aI;split at J
   ·rename_i g a1;simp only[dG]at J;subst J;obtain⟨v,g1,g2⟩:=adn aO aI rfl a1 (dZ aJ U) (dZ aJ al) (by simpa only[gU]using he) aw;exact⟨v,kN g1,g2⟩
   ·cases J
  ·cases J
 ·rename_i x i t o j;simp only[cA]at av;obtain⟨⟨J,U⟩,al⟩:=av;split at J
  ·rename_i aI;obtain⟨d,aP,eR⟩:=iz aO aI;obtain rfl:=ye eR;have aj:=dZ aJ U;have aC:=dZ aJ al;simp only[gU,FN]at he;split at he
   ·rename_i s k n ag aA;cases he;rw[ag]at aj;rw[aA]at aC;simp only[a7]at aj aC;obtain⟨td,Qb⟩:=aw;have bu:n.toNat<s.length:=by omega
    have aca:(⟨s.toArray⟩:ByteArray)[n.toNat]? =some (s.getD n.toNat 0):=by exact abp s n.toNat bu
    refine⟨_,kN (v:= .int .u8 (s.getD n.toNat 0).toNat) ?_,by simp[a7]⟩;simp only[Instr.index,aC,asIntOf,aj.1,fv,gj,fD,run_underlying aP,td,if_true,aca]
   ·cases he
  ·cases J
 ·rename_i x lo hi t o l h;simp only[cA]at av;obtain⟨⟨⟨J,U⟩,al⟩,a6⟩:=av;split at J
  ·rename_i aI;obtain⟨d,aP,eR⟩:=iz aO aI;obtain rfl:=ye eR;have aj:=dZ aJ U;simp only[gU,FT]at he;split at he
   ·rename_i s ag;rw[ag]at aj;simp only[a7]at aj;split at he
    ·rename_i pn cI au Ij;cases he;obtain⟨bE,cc,c8⟩:=aw;have a8:=E4 aJ al au;have bU:=E4 aJ a6 Ij;refine⟨_,kN (v:= .string ⟨((s.take cI.toNat).drop pn.toNat).toArray⟩) ?_,?_⟩
     ·have ae:=Mn P w false s.length s.length (l.map a.eval) (h.map a.eval) pn cI
       a8 bU bE cc c8 (eQ _)
      simp only[Instr.sliceAt,Instr.slice,aj.1,fv,gj,fD,run_underlying aP,Option.map_none,lK,gI,if_false,Cv,ae,YF]
     ·simp only[a7];refine⟨trivial,?_⟩;have:=aj.2;simp only[rC,List.length_take];omega
    ·cases he
   ·cases he
  ·cases J
 ·rename_i sz x lo hi t o l h;simp only[cA]at av;obtain⟨⟨⟨J,U⟩,al⟩,a6⟩:=av;split at J
  ·rename_i e aI;split at J
   ·rename_i g a1;simp only[dG]at J;subst J;obtain⟨d,aP,eR⟩:=iz aO aI;obtain rfl:=rL eR;obtain⟨_,dW⟩:=ue aO a1 w;have aj:=dZ aJ U;simp only[gU,EL]at he;split at he
    ·rename_i dy tag xs ag;split at he
     ·rename_i e4;subst e4;rw[ag]at aj;simp only[a7]at aj;obtain⟨⟨rH,cap,aK,b9,bZ,fy⟩,_⟩:=aj;split at he
      ·rename_i pn cI au Ij;cases he;obtain⟨bE,cc,c8⟩:=aw;have a8:=E4 aJ al au;have bU:=E4 aJ a6 Ij;have ae:=Mn P w true xs.length cap (l.map a.eval) (h.map a.eval) pn cI
        a8 bU bE cc c8 b9
       refine⟨_,kN (v:= .slice (if cap=pn.toNat then rH else rH.map (·.add (pn.toNat*g.size))) (cI.toNat-pn.toNat) (cap-pn.toNat)) ?_,?_⟩
       ·simp only[Instr.sliceAt,Instr.slice,aK,fv,gj,fD,run_underlying aP,Option.map_none,ae,dW]
       ·simp only[a7];have hlen:((xs.take cI.toNat).drop pn.toNat).length=cI.toNat-pn.toNat:=by simp;omega
        refine⟨⟨_,_,by rw[hlen],by rw[hlen];omega,⟨by omega,by rw[hlen];omega⟩,?_⟩,(fun h=>by cases h),(fun g h=>by cases h),(fun _ _ h=>by cases h),(fun _ h=>by cases h)⟩;rcases fy with rfl|⟨b,off,us,rfl,g1,g2⟩
        ·left;simp
        ·by_cases yx:cap=pn.toNat
         ·left;apply List.eq_nil_of_length_eq_zero;rw[hlen];omega
         ·right;rw[if_neg yx];refine⟨b,off+pn.toNat*g.size,(us.take (cI.toNat*g.size)).drop (pn.toNat*g.size),by simp[oq],ED _ (EF _ g1),Ub _ (Ue _ g2)⟩
      ·cases he
     ·cases he
    ·cases he
   ·cases J
  ·cases J
 ·rename_i op wr x y S6 ty o o' ajg;simp only[cA,fx]at av;obtain⟨⟨rfl,J⟩,U⟩:=av;obtain⟨r,g1,g2⟩:=WB P w ν (by simpa only[gU]using he) aw ty (dZ aJ J) (dZ aJ U) o o';exact⟨r,kN g1,g2⟩
 ·rename_i x op ty o;simp only[cA,fx]at av;obtain⟨rfl,J⟩:=av;have aj:=dZ aJ J;simp only[gU]at he;unfold E0 at he;split at he
  ·rename_i b ae;cases he;rw[ae]at aj;simp only[a7]at aj;exact⟨_,kN (v:= .bool (!b)) (by simp[Op.unary,aj]),by simp[a7]⟩
  ·cases he
 ·rename_i x op ty o;simp only[cA,fx]at av;obtain⟨rfl,J⟩:=av;have aj:=dZ aJ J;simp only[gU]at he;unfold EW at he;split at he
  ·rename_i k n ae;cases he;rw[ae]at aj;simp only[a7]at aj;exact⟨_,kN (v:= .int k (k.wrap (0-n))) (by simp[Op.unary,aj,Op.intArith]),by simp[a7]⟩
  ·cases he
 ·rename_i k x s d o;simp only[cA]at av;obtain⟨J,U⟩:=av;split at J
  ·rename_i a8 bU A2 tg;simp only[fx]at J;subst J;obtain⟨d1,fh,abU⟩:=iz aO A2;obtain rfl:=Du abU;obtain⟨d2,ez,abV⟩:=iz aO tg;obtain rfl:=Du abV;have aj:=dZ aJ U;simp only[gU]at he;unfold Ds at he;split at he
   ·rename_i bH n ae;cases he;rw[ae]at aj;simp only[a7]at aj;exact⟨_,kN (v:= .int k (k.wrap n)) (by simp[convert,aj,run_underlying fh,run_underlying ez,Conv.intToInt]),by simp[a7]⟩
   ·cases he
  ·cases J
 ·rename_i i x o j;simp only[cA,dG]at av;obtain⟨rfl,J⟩:=av;have aj:=dZ aJ J;simp only[gU]at he;unfold yg at he;split at he
  ·rename_i ba ae;simp only[gA]at he;obtain⟨q,bp,he⟩:=he;cases he;rw[ae]at aj;simp only[a7]at aj;obtain⟨us,hu,U⟩:=aj;obtain⟨v,g1,g2⟩:=FC i U bp;have kD:us[i]? =some v:=by simpa using g1
   exact⟨v,kN (by simp[Instr.extract,hu,kD]),g2⟩
  ·cases he
 ·rename_i x o t;simp only[cA]at av;obtain⟨J,U⟩:=av;have aj:=dZ aJ U;simp only[gU]at he;unfold y7 at he;split at he
  ·rename_i sz tag xs ae;cases he;rw[ae]at aj;simp only[a7]at aj;obtain⟨⟨rH,cap,aK,_⟩,_⟩:=aj;refine⟨.int .i64 xs.length,?_,by simp[a7]⟩;split at J
   ·rename_i aI;obtain⟨d,aP,eR⟩:=iz aO aI;obtain rfl:=rL eR;simp[execOp,resolve,invoke,builtin,Builtin.len_,run_underlying aP,aK,goInt]
   ·cases J
  ·rename_i sz k n ae;cases he;rw[ae]at aj;simp only[a7]at aj;obtain⟨⟨rH,cap,aK⟩,_⟩:=aj;refine⟨.int .i64 n,?_,by simp[a7]⟩;split at J
   ·rename_i aI;obtain⟨d,aP,eR⟩:=iz aO aI;obtain rfl:=rL eR;simp[execOp,resolve,invoke,builtin,Builtin.len_,run_underlying aP,aK,goInt]
   ·cases J
  ·rename_i rH n cap ae;cases he;rw[ae]at aj;simp only[a7]at aj;refine⟨.int .i64 n,?_,by simp[a7]⟩;split at J
   ·rename_i aI;obtain⟨d,aP,eR⟩:=iz aO aI;obtain rfl:=rL eR;simp[execOp,resolve,invoke,builtin,Builtin.len_,run_underlying aP,aj,goInt]
   ·cases J
  ·cases he
 ·rename_i x o t;simp only[cA]at av;obtain⟨J,U⟩:=av;have aj:=dZ aJ U;simp only[gU]at he;unfold Cw at he;split at he
  ·rename_i s ae;cases he;rw[ae]at aj;simp only[a7]at aj;refine⟨.int .i64 s.length,?_,by simp[a7]⟩;split at J
   ·rename_i aI;obtain⟨d,aP,eR⟩:=iz aO aI;obtain rfl:=ye eR;simp[execOp,resolve,invoke,builtin,Builtin.len_,run_underlying aP,aj.1,goInt,Cv]
   ·cases J
  ·rename_i s ae;cases he;rw[ae]at aj;simp only[a7]at aj;refine⟨.int .i64 s.size,?_,by simp[a7]⟩;split at J
   ·rename_i aI;obtain⟨d,aP,eR⟩:=iz aO aI;obtain rfl:=ye eR;simp[execOp,resolve,invoke,builtin,Builtin.len_,run_underlying aP,aj,goInt]
   ·cases J
  ·cases he
 ·rename_i zero parts t cm;split at av
  ·rename_i dF z aI;simp only[cA]at av;obtain⟨⟨J,U⟩,al⟩:=av;have bC:=akG J;obtain⟨i,d,akF,aj,aC,bg,da,gL,hz,qu,qv⟩:=(uf aO aI).ex;obtain⟨gs,rfl,j2⟩:=Hc gL;simp only at bC qu qv;subst bC;have kX:(gs.toList.all fun f=>(dQ bt f.type).isSome)=true:=by rw[←j2]at U;simpa[List.all_map,Function.comp_def]using U
   obtain⟨sl,cL,dm⟩:=Th aO gs.toList kX;rw[j2]at dm;cases akF<;>simp only[xT]at qu;case agg us=>
    simp only[gU]at he;cases ae:sV st.t zero parts with
    |none=>simp[ae]at he
    |some x=>obtain⟨ch,cs'⟩:=x;simp only[ae,ny]at he;cases he;obtain⟨cb,g1,g2⟩:=Uq aJ dm parts cm.toList zero us c cs' al (LI w ν _ _ qu) ae aw;refine⟨.agg cb,kN (run_build w t _ cb ?_),by simp only[a7];exact⟨cb,rfl,g2⟩⟩;simp only[Program.built,aj,aC,hz,cL,oU];simpa using g1
   all_goals cases qu
  ·cases av
 ·rename_i x o;have aj:=dZ aJ av;simp only[gU]at he;unfold zi at he;split at he
  ·rename_i k off ae;cases he;rw[ae]at aj;have aC:=aj;simp only[a7]at aj;obtain⟨b,_,aK⟩:=aj;exact⟨a.eval o,by simp[execOp,aK],aC⟩
  ·rename_i q ae;cases he;rw[ae]at aj;have aC:=aj;simp only[a7]at aj;obtain⟨b,off,u,aK,_⟩:=aj;exact⟨a.eval o,by simp[execOp,aK],aC⟩
  ·rename_i f cs ae;cases he;rw[ae]at aj;have aC:=aj;simp only[a7]at aj;obtain⟨us,aK,_⟩:=aj;exact⟨a.eval o,by simp[execOp,aK],aC⟩
  ·cases he
 ·rename_i x y o o' t dD;simp only[cA]at av;have aj:=dZ aJ av.1;have aC:=dZ aJ av.2;simp only[gU]at he;unfold EV at he;split at he
  ·rename_i k m bH n hm aA;split at he
   ·rename_i ab;subst ab;cases he;rw[hm]at aj;rw[aA]at aC;simp only[a7]at aj aC;exact⟨.int k (if n<m then n else m),by simp[execOp,resolve,invoke,builtin,Builtin.min_,Builtin.min2,aj,aC],by simp[a7]⟩
   ·cases he
  ·cases he
 ·rename_i n xs m os;simp only[cA,dG]at av;obtain⟨rfl,av⟩:=av;simp only[gU]at he;cases he;have tc:=Cm aJ av;refine⟨.func (.func n) #[] (os.map a.eval),by simp[execOp,Instr.makeFunc],?_⟩;simp only[a7];exact⟨os.map a.eval,rfl,by simpa using tc⟩
 ·rename_i b7 zero ok x k t o o' E1;simp only[cA,dG]at av;obtain⟨⟨⟨rfl,J⟩,U⟩,al⟩:=av;have aj:=dZ aJ U;have aC:=dZ aJ al;split at J
  ·rename_i sz kC l5 oC z aI;simp only[cA]at J;obtain⟨acj,Ia⟩:=J;split at Ia
   ·rename_i alV abY;have bC:=LK Ia;obtain⟨cD,hu,eR⟩:=iz aO aI;have rW:cD= .map l5 oC:=by cases cD<;>simp[jJ]at eR;obtain⟨rfl,rfl⟩:=eR;rfl
    subst rW;obtain⟨b0,kv,z2,_⟩:=Lg aO abY w;rw[←bC]at z2;have aa:=(LJ w ν z2).1;have lu:=Ja aO acj;simp only[gU]at he;unfold nk at he;split at he
    ·rename_i key ad;rw[ad]at aj;simp only[a7]at aj;obtain⟨bl,b9,bZ⟩:=aj;split at he
     ·rename_i clock borns kvs hL;obtain⟨h3,us,el,g1,g2,g3,g4,g5⟩:=aJ.good.box key _ hL;rw[b9]at g1;cases g1;simp only[jq]at g4;simp only[iM]at g5;have gN:(getObj bl).run P w= .ok (.map (fq borns us.toList).toArray clock) w:=ua g4;split at he
      ·cases he
      rename_i uQ;have uL:=KN (P:=P) (w:=w) lu ((fq borns us.toList).toArray.isEmpty) aC (by simpa using uQ);split at he
      ·rename_i v hm;cases he;obtain⟨j,u,f1,f2⟩:=JC lu aC borns kvs us.toList 0 _ g5.1 g5.2.len hm;refine⟨if ok then .tuple #[u,.bool true]else u,?_,?_⟩
       ·simp only[execOp];refine kN ?_;simp only[Instr.lookup,fv,run_underlying hu,fD,bZ,gN,gj,uL,f1.run lu]
       ·cases ok
        ·simpa using f2
        ·simp only[if_true,a7];exact⟨_,rfl,by simp only[cH];exact⟨_,_,rfl,f2,_,_,rfl,by simp[a7],rfl⟩⟩
      ·rename_i hm;cases he;have f1:=JC lu aC borns kvs us.toList 0 _ g5.1 g5.2.len hm;simp only at f1;refine⟨if ok then .tuple #[b0,.bool false]else b0,?_,?_⟩
       ·simp only[execOp];refine kN ?_;simp only[Instr.lookup,fv,run_underlying hu,fD,bZ,gN,gj,uL,f1.run lu,kv]
       ·cases ok
        ·simpa using aa
        ·simp only[if_true,a7];exact⟨_,rfl,by simp only[cH];exact⟨_,_,rfl,aa,_,_,rfl,by simp[a7],rfl⟩⟩
      ·cases he
     ·cases he
    ·cases he
   ·cases Ia
  ·cases J
 ·rename_i x o;have aj:=dZ aJ av;simp only[gU]at he;unfold oN at he;split at he
  ·rename_i fb ad;rw[ad]at aj;simp only[a7]at aj;obtain⟨bl,b9,bZ⟩:=aj;split at he
   ·rename_i since seen last mk hL;obtain⟨h3,us,el,g1,g2,g3,g4,g5⟩:=aJ.good.box fb _ hL;rw[b9]at g1;cases g1;simp only[jq]at g4;simp only[iM,cH,a7]at g5;obtain⟨u,cb,p8,⟨mb,m1,rfl⟩,rfl⟩:=g5;rw[p8]at g4;simp only at g4;split at he
    ·rename_i clock borns kvs acu;obtain⟨ak5,rq,alG,a8,bU,cj,eB,c5⟩:=aJ.good.box mk _ acu;rw[m1]at a8;cases a8;simp only[jq]at eB;simp only[iM]at c5;split at he
     ·rename_i n aA;simp only[gA]at he;obtain⟨q,bp,he⟩:=he;cases he;obtain⟨e,f1,f2⟩:=Sn borns kvs rq.toList p c5.1 bp;refine⟨.tuple #[e.key,e.val],?_,f2⟩;simp only[execOp];refine kN ?_;have ab6:(getObj bl).run P w= .ok (.mapIter (some mb) since seen.toArray last) w:=ua g4;have ab7:(getObj mb).run P w= .ok (.map (fq borns rq.toList).toArray clock) w:=ua eB;have H4:seen.toArray.back? =some n:=by simpa using aA
      have yy:(clock !=last)=false:=by simp[aw]
      have abZ:(fq borns rq.toList).toArray.find? (·.born==n)=some e:=by simpa using f1
      simp only[Instr.entry,bZ,fv,ab6,fD,H4,ab7,yy,gI,if_false,abZ,gj]
     ·cases he
    ·cases he
   ·cases he
  ·cases he
 ·rename_i x o t;simp only[cA]at av;obtain⟨J,U⟩:=av;have aj:=dZ aJ U;simp only[gU]at he;unfold tJ at he;split at he
  ·rename_i key ae;rw[ae]at aj;simp only[a7]at aj;obtain⟨bl,b9,bZ⟩:=aj;split at he
   ·rename_i clock borns kvs hL;cases he;obtain⟨h3,us,el,g1,g2,g3,g4,g5⟩:=aJ.good.box key _ hL;rw[b9]at g1;cases g1;simp only[jq]at g4;simp only[iM]at g5;have gN:(getObj bl).run P w= .ok (.map (fq borns us.toList).toArray clock) w:=ua g4;have hlen:(fq borns us.toList).length=borns.length:=OW g5.2.len (Uk g5.1);refine⟨.int .i64 borns.length,?_,by simp[a7]⟩;split at J
    ·rename_i aI;obtain⟨d,aP,eR⟩:=iz aO aI;obtain⟨l5,oC,rfl⟩:∃l5 oC,d= .map l5 oC:=by cases d<;>simp[jJ]at eR;exact⟨_,_,rfl⟩
     simp[execOp,resolve,invoke,builtin,Builtin.len_,run_underlying aP,bZ,goInt,gN,hlen]
    ·cases J
   ·cases he
  ·cases he
 ·rename_i neg dF x y op t o o' ajg;simp only[cA,fx]at av;obtain⟨⟨⟨rfl,bs⟩,J⟩,U⟩:=av;have aj:=dZ aJ J;have aC:=dZ aJ U;simp only[gU]at he;unfold h2 at he;split at he
  ·rename_i bj bY bD ae;simp only at bs;cases he;rw[bD]at aj;rw[ae]at aC;simp only[a7]at aj aC;split at bs
   ·rename_i aI;obtain⟨d,aP,eR⟩:=iz aO aI;obtain rfl:d= .bool:=by cases d<;>simp[jJ]at eR;rfl
    refine⟨.bool (if neg then bj !=bY else bj==bY),kN ?_,by simp[a7]⟩;cases neg<;>simp[aj,aC,eqGuard,binOp,XO aP,bne]
   ·cases bs
  ·rename_i al4 as eF bD ae;simp only at bs;simp only[gA]at he;obtain⟨q,bp,he⟩:=he;cases he;rw[bD]at aj;rw[ae]at aC;simp only[a7]at aj aC;obtain⟨X,XD,ahc⟩:=aj;obtain⟨Y,XE,ahd⟩:=aC;obtain⟨gs,hu,a1,c9,iq⟩:=Ps aO bs;obtain⟨i1,_,_⟩:=O0 hu a1 c9 ahc ahd bp;refine⟨.bool (if neg then !q else q),kN ?_,by simp[a7]⟩;rw[XD,XE];cases neg
   ·simp only[gI,if_false,fv,run_eqGuard_agg w _ t o o' X Y iq,fD,run_eql_struct,i1]
   ·simp only[if_true,fv,run_eqGuard_agg w _ t o o' X Y iq,fD,run_neq_struct,i1]
  ·cases he
 ·rename_i x y o o' t dD;simp only[cA]at av;have aj:=dZ aJ av.1;have aC:=dZ aJ av.2;simp only[gU]at he;unfold EP at he;split at he
  ·rename_i k m bH n hm aA;split at he
   ·rename_i ab;subst ab;cases he;rw[hm]at aj;rw[aA]at aC;simp only[a7]at aj aC;exact⟨.int k (if m<n then n else m),by simp[execOp,resolve,invoke,builtin,Builtin.max_,Builtin.max2,aj,aC],by simp[a7]⟩
   ·cases he
  ·cases he
 ·rename_i t x dD o;simp only[cA,dG]at av;obtain⟨⟨rfl,J⟩,U⟩:=av;have aj:=dZ aJ U;simp only[gU]at he;cases he;split at J
  ·rename_i aI;obtain⟨d,aP,eR⟩:=iz aO aI;obtain rfl:=rL eR;refine⟨.iface t (a.eval o),kN (by simp[Instr.makeInterface,run_underlying aP]),?_⟩;simp only[a7];exact⟨_,rfl,aj⟩
  ·cases J
 ·rename_i agg sz x t o;simp only[cA]at av;obtain⟨J,U⟩:=av;split at J
  ·rename_i f aI;simp only[cA,dG]at J;obtain⟨rfl,rfl⟩:=J;obtain⟨v,g1,g2⟩:=EK aO aJ.good aI (dZ aJ U) (aeg (by simpa only[gU]using he)) aw;exact⟨v,kN g1,g2⟩
  ·cases J
 ·rename_i agg sz x t o;simp only[cA]at av;obtain⟨J,U⟩:=av;split at J
  ·rename_i f aI;simp only[cA,dG]at J;obtain⟨rfl,rfl⟩:=J;obtain⟨v,g1,g2⟩:=EK aO aJ.good aI (dZ aJ U) (aaG (by simpa only[gU]using he)) aw;exact⟨v,kN g1,g2⟩
  ·cases J
 ·exact absurd rfl (abL _ _ _ _ _)
 ·cases av
theorem ajm{P:cy}{bt:List (Nat×dB)}(aO:fN P bt=true){C:e7}{st:bo}{a:Act}{w:World}{ν:bc}(aJ:cJ C st a w ν){i:fI}{o:Oper}(av:CG bt i o.op=true)
  {c:Prop} {p:ah} (he:gU st i=some (c,p)) (aw:c):∃v,(execOp a.eval o).run P w= .ok (.value v) w∧a7 w ν p v:=by
 by_cases ae:∃b7 z ok x k,i= .mgetB b7 z ok x k
 ·obtain⟨b7,z,ok,x,k,rfl⟩:=ae;refine U9 aO aJ (i:= .mget b7 z ok x k) (fun _ _ _ _ _ e=>by cases e) ?_ he aw;obtain⟨dst,op,type,pos,after,guard⟩:=o;cases op<;>first|exact av|simp[CG]at av
 ·exact U9 aO aJ (fun b7 z ok x k e=>ae ⟨b7,z,ok,x,k,e⟩) av he aw
theorem Oy{w:World}{o:Obj}{b i:Nat}(h:b<w.heap.size):(w.alloc o).cell? ⟨b,i,none⟩=w.cell? ⟨b,i,none⟩:=World.cell?_of_block (Below.heap_alloc w o b h)
def bc.withBox(ν:bc)(k:aD)(bl:Nat):bc:={ν with bx:=fun j=>if j=k then some bl else ν.bx j}
def bc.withOwn(ν:bc)(k:aD)(n:Nat)(v:Value):bc:={ν with ow:=fun j=>if j=k then some (n,v)else ν.ow j}
theorem cJ.lookNone{C:e7}{st:bo}{a:Act}{w:World}{ν:bc}(h:cJ C st a w ν){k:aD}(ab:fresh st.n st.o k):look k st.b=none∧look k st.e=none:=by
 obtain⟨J,U,_⟩:=h.new k ab;constructor
 ·cases ae:look k st.b with
  |none=>rfl
  |some cs=>obtain⟨bl,us,el,g1,_⟩:=h.good.box _ _ ae;rw[J]at g1;cases g1
 ·cases ae:look k st.e with
  |none=>rfl
  |some o=>obtain⟨v,us,g1,_⟩:=h.good.own _ _ ae;rw[U]at g1;cases g1
theorem Good.ownLt{pr:Nat→Prop}{w:World}{ν:bc}{b:List (aD×List ah)}{e:List (aD×fF)}(h:Good pr w ν b e){g:aD}{o:fF}(a1:look g e=some o){n:Nat}{v:Value}(aK:ν.ow g=some (n,v)){bl:Nat}(ae:v.ownBlock=some bl):bl<w.heap.size:=by obtain⟨v',us,g1,g2,_⟩:=h.own g o a1;rw[aK]at g1;cases g1;exact(g2.lt bl ae).2
theorem Good.boxLt{pr:Nat→Prop}{w:World}{ν:bc}{b:List (aD×List ah)}{e:List (aD×fF)}(h:Good pr w ν b e){k:aD}{cs:List ah}(ab:look k b=some cs){bl:Nat}(ae:ν.bx k=some bl):bl<w.heap.size:=by obtain⟨h3,us,el,g1,_,_,g4,_⟩:=h.box k cs ab;rw[ae]at g1;cases g1;exact(Array.getElem?_eq_some_iff.1 g4).1
theorem cJ.newBox{C:e7}{st:bo}{a:Act}{w:World}{ν:bc}(h:cJ C st a w ν){e9:aD}(Ba:ν.bx e9=none∧ν.ow e9=none∧∀j b,¬ν.tr e9 j b){n':Nat}{o':List aD}(de:∀j,fresh n' o' j→fresh st.n st.o j∧j≠e9){cs:List ah}{us:Array Value}(el:fT)(aw:iM w ν cs us.toList):
  cJ C {st with b:=cw e9 cs st.b,n:=n',o:=o'} a (w.alloc (jq cs us el)) (ν.withBox e9 w.heap.size)∧
  a7 (w.alloc (jq cs us el)) (ν.withBox e9 w.heap.size) (.ptr e9 0) (.pointer (some ⟨w.heap.size,0,none⟩)):=by
 obtain⟨qR,Bd,acA⟩:=Ba;have av:kT w ν (w.alloc (jq cs us el)) (ν.withBox e9 w.heap.size):=by
  refine⟨fun b o bd=>⟨bd,Oy (h.good.alt b o bd)⟩,fun k b _ ab=>?_,fun g n u _ a1=>⟨n,u,a1,.inl ⟨rfl,rfl⟩⟩,fun b o bd=>vB (Below.heap_alloc w _ b (h.good.alt b o bd)),fun _ _ _ _ h=>h⟩;have:k≠e9:=fun e=>by subst e;rw[qR]at ab;cases ab
  simp[bc.withBox,this,ab]
 have dW:(w.alloc (jq cs us el)).heap.size=w.heap.size+1:=by simp
 have kZ:∀k,(look k (cw e9 cs st.b)).isSome→k=e9∨(k≠e9∧(look k st.b).isSome∧(ν.withBox e9 w.heap.size).bx k=ν.bx k):=by
  intro k ab;by_cases e:k=e9
  ·exact .inl e
  ·rw[iw,if_neg (ky e)]at ab;exact .inr ⟨e,ab,by simp[bc.withBox,e]⟩
 refine⟨h.over av rfl ⟨fun bl o bd=>by rw[dW];have:=h.good.alt bl o bd;omega,fun k ey ab=>?_,fun k bH bl ab nf aj aC=>?_,fun g o a1=>?_,h.good.oinj,fun g k n v bl a1 ab aK ae ad=>?_,fun k=>?_,fun bl ae k j aO=>?_⟩
  ⟨h.fr.os,h.fr.tape,h.fr.output,by rw[dW];have:=h.fr.size;omega,fun k ab hm=>?_,fun b o bd=>?_,h.fr.fresh,fun n b ae=>?_,h.fr.obn,h.fr.row,h.fr.obr,h.fr.trd,fun k j b ae=>⟨(h.fr.trb k j b ae).1,by rw[dW];have:=(h.fr.trb k j b ae).2;omega⟩,fun k j b ae=>?_,fun b o bd=>(av.sh b o (h.fr.keep b o bd).1).trans (h.fr.sh b o bd)⟩ (fun m hm=>?_),?_⟩
 ·simp only at ab;rw[iw]at ab;by_cases e:e9=k
  ·rw[if_pos e]at ab;cases ab;subst e;refine⟨w.heap.size,us,el,by simp[bc.withBox],.inr h.fr.size,fun o bd=>?_,heap_alloc_new w _,pB av aw⟩;have:=h.good.alt _ o bd;omega
  ·rw[if_neg e]at ab;obtain⟨bl,cb,fJ,g1,g2,g3,g4,g5⟩:=h.good.box k ey ab;exact⟨bl,cb,fJ,av.bx _ _ trivial g1,g2,g3,by rw[Below.heap_alloc w _ bl (Array.getElem?_eq_some_iff.1 g4).1];exact g4,pB av g5⟩
 ·rcases kZ k ab with rfl|⟨hX,fZ,iK⟩<;>rcases kZ bH nf with rfl|⟨m1,m2,m3⟩
  ·rfl
  ·exfalso;simp only[bc.withBox,if_true,dz]at aj;subst aj;rw[m3]at aC;obtain⟨ey,im⟩:=fE.1 m2;have:=h.good.boxLt im aC;omega
  ·exfalso;simp only[bc.withBox,if_true,dz]at aC;subst aC;rw[iK]at aj;obtain⟨ey,im⟩:=fE.1 fZ;have:=h.good.boxLt im aj;omega
  ·rw[iK]at aj;rw[m3]at aC;exact h.good.inj k bH bl fZ m2 aj aC
 ·obtain⟨v,xs,g1,g2,g3,g4⟩:=h.good.own g o a1;exact⟨v,xs,g1,g2.alloc _,g3,rj av (fun _ _ _ h=>h) g4⟩
 ·rcases kZ k ab with rfl|⟨hX,fZ,iK⟩
  ·simp only[bc.withBox,if_true,dz]at ad;subst ad;obtain⟨o,hB⟩:=fE.1 a1;have:=h.good.ownLt hB aK ae;omega
  ·rw[iK]at ad;exact h.good.obx g k n v bl a1 fZ aK ae ad
 ·by_cases e:k=e9
  ·subst e;exact .inr Bd
  ·rcases h.good.one k with J|J
   ·exact .inl (by simp[bc.withBox,e,J])
   ·exact .inr J
 ·rcases ae with⟨bH,bz,a2⟩|ae
  ·rcases kZ bH bz with rfl|⟨hX,fZ,iK⟩
   ·simp[bc.withBox]at a2;subst a2;exact absurd (h.fr.trb k j _ aO).2 (Nat.lt_irrefl _)
   ·exact h.good.otr bl (.inl ⟨bH,fZ,by rw[←iK];exact a2⟩) k j aO
  ·exact h.good.otr bl (.inr ae) k j aO
 ·rw[Below.heap_alloc w _ k (by have:=h.fr.size;omega)];exact h.fr.block k ab hm
 ·obtain⟨a8,bU⟩:=h.fr.keep b o bd;exact⟨a8,(Oy (h.good.alt b o a8)).trans bU⟩
 ·exact av.bx _ _ trivial (h.fr.obj n b ae)
 ·have cC:k≠e9:=fun e=>by subst e;exact acA j b ae
  obtain⟨t1,t2⟩:=h.fr.trn k j b ae;exact⟨by simp[bc.withBox,cC,t1],t2⟩
 ·obtain⟨f1,f2⟩:=de m hm;obtain⟨a8,bU⟩:=h.new m f1;refine⟨?_,bU⟩;simp[bc.withBox,f2,a8]
 ·simp[a7,bc.withBox]
theorem cJ.setBox{C:e7}{st:bo}{a:Act}{w w':World}{ν:bc}(h:cJ C st a w ν){k:aD}{cs cs':List ah}(ab:look k st.b=some cs){bl:Nat}(ae:ν.bx k=some bl){us:Array Value}{el:fT}
  (yM:w'.os=w.os) (IJ:w'.tape=w.tape) (Iv:w'.output=w.output) (mC:∀j,j≠bl→w'.heap[j]? =w.heap[j]?) (dW:w'.heap.size=w.heap.size) (j3:w'.heap[bl]? =some (jq cs' us el)) (aw:iM w ν cs' us.toList):
  cJ C {st with b:=cw k cs' st.b} a w' ν∧kT w ν w' ν:=by
 obtain⟨h3,fm,alF,g1,g2,g3,g4,g5⟩:=h.good.box k cs ab;rw[ae]at g1;cases g1;have av:kT w ν w' ν:=by
  refine⟨fun b o bd=>⟨bd,World.cell?_of_block (mC b fun e=>?_)⟩,fun _ _ _ h=>h,fun g n u _ a1=>⟨n,u,a1,.inl ⟨rfl,rfl⟩⟩,fun b o bd=>vB (mC b fun e=>?_),fun _ _ _ _ h=>h⟩<;>
  (subst e;exact g3 o bd)
 have D0:∀j,(look j (cw k cs' st.b)).isSome→(look j st.b).isSome:=by
  intro j af;rw[iw]at af;by_cases e:k=j
  ·subst e;simp[ab]
  ·rwa[if_neg e]at af
 refine⟨h.over av rfl ⟨fun b o bd=>by rw[dW];exact h.good.alt b o bd,fun j ey af=>?_,fun j du b af iU=>h.good.inj j du b (D0 j af) (D0 du iU),fun g o a1=>?_,h.good.oinj,fun g j n v b a1 af=>h.good.obx g j n v b a1 (D0 j af),h.good.one,fun bl ae=>h.good.otr bl (ae.imp (fun⟨k,J,U⟩=>⟨k,D0 k J,U⟩) id)⟩
  ⟨yM.trans h.fr.os,IJ.trans h.fr.tape,Iv.trans h.fr.output,by rw[dW];exact h.fr.size,fun j af hm=>?_,fun b o bd=>?_,h.fr.fresh,h.fr.obj,h.fr.obn,h.fr.row,h.fr.obr,h.fr.trd,fun k j b ae=>⟨(h.fr.trb k j b ae).1,by rw[dW];exact(h.fr.trb k j b ae).2⟩,h.fr.trn,fun b o bd=>(av.sh b o (h.fr.keep b o bd).1).trans (h.fr.sh b o bd)⟩ h.new,av⟩
 ·simp only at af;rw[iw]at af;by_cases e:k=j
  ·rw[if_pos e]at af;cases af;subst e;exact⟨bl,us,el,ae,g2,g3,j3,pB av aw⟩
  ·rw[if_neg e]at af;obtain⟨b,cb,fJ,aj,aC,bg,da,gL⟩:=h.good.box j ey af;refine⟨b,cb,fJ,aj,aC,bg,?_,pB av gL⟩;rw[mC b fun fB=>e (h.good.inj k j bl (by simp[ab]) (by simp[af]) ae (by rw[←fB];exact aj))];exact da
 ·obtain⟨v,xs,aj,aC,bg,da⟩:=h.good.own g o a1;refine⟨v,xs,aj,⟨aC.1,?_⟩,bg,rj av (fun _ _ _ h=>h) da⟩;rcases aC.2 with aC|⟨bb,cap,cur,f1,f2,f3,f4⟩
  ·exact .inl aC
  ·refine .inr ⟨bb,cap,cur,f1,f2,?_,f4⟩;rw[mC bb fun fB=>h.good.obx g k o.n v bl (by simp[a1]) (by simp[ab]) aj (by rw[f1,←fB];rfl) ae];exact f3
 ·rw[mC j fun e=>by subst e;exact g2.elim hm (fun g2=>by omega)];exact h.fr.block j af hm
 ·obtain⟨a8,bU⟩:=h.fr.keep b o bd;exact⟨a8,(av.A b o a8).2.trans bU⟩
theorem cJ.storeBox{C:e7}{st:bo}{a:Act}{w:World}{ν:bc}(h:cJ C st a w ν){k:aD}{cs cs':List ah}(ab:look k st.b=some cs){bl:Nat}(ae:ν.bx k=some bl)(bF:hF cs=true){us:Array Value}(aw:c0 w ν cs' us.toList):
  cJ C {st with b:=cw k cs' st.b} a (w.setRow bl us) ν:=by
 obtain⟨h3,fm,el,g1,g2,g3,g4,g5⟩:=h.good.box k cs ab;rw[ae]at g1;cases g1;rw[tN bF]at g4;have QO:=zI aw;exact(h.setBox (w':=w.setRow bl us) ab ae (us:=us) (el:=el) rfl rfl rfl (fun j af=>setRow_other w bl j us af) (setRow_size w bl us) (by rw[tN QO];exact setRow_heap w bl fm us el _ g4) (by rw[tO QO];exact aw)).1
def bc.withRowOf(ν:bc)(k:aD)(v:Value)(n cells:Nat):bc:={A:=fun b o=>ν.A b o∨(v.ownBlock=some b∧o<cells),bx:=ν.bx,ow:=fun j=>if j=k then some (n,v)else ν.ow j,tr:=ν.tr}
theorem Jh{w:World}{A:Nat→Nat→Prop}{b:Nat}:∀(us:List Value) (off:Nat),(∀j u,us[j]? =some u→A b (off+j)∧w.cell? ⟨b,off+j,none⟩=some u)→k8 w A b off us
 |[],_,_=>trivial
 |u::us,off,h=>⟨h 0 u rfl,Jh us (off+1) fun j x af=>by have:=h (j+1) x (by simpa using af);rwa[show off+(j+1)=off+1+j from by omega]at this⟩
theorem Dq{w w':World}(a1:w.grownBy w' none){b i:Nat}(h:b<w.heap.size):w'.cell? ⟨b,i,none⟩=w.cell? ⟨b,i,none⟩:=World.cell?_of_block (a1.block b h (by simp))
theorem cJ.newRowM{C:e7}{st:bo}{a:Act}{w w':World}{ν:bc}(h:cJ C st a w ν){k:aD}{xs:List ah}(ab:(ν.bx k=none∧ν.ow k=none∧∀j b,¬ν.tr k j b)∨ ∃o,look k st.e=some o∧o.n<xs.length){el sz:Nat}{v:Value}{us:List Value}
  (a1:w.grownBy w' none) (k3:w'.ownsRow w.heap.size el sz v xs.length us) (aw:dt w ν sz xs us) (eX:xs.length≤lim) {n':Nat} {o':List aD} (de:∀j,fresh n' o' j→fresh st.n st.o j∧j≠k):
  cJ C {st with e:=cw k ⟨xs.length,el,sz,some xs⟩ st.e,n:=n',o:=o'} a w' (ν.withOwn k xs.length v)∧
  ((∃b cap,v= .slice (some ⟨b,0,none⟩) xs.length cap)→a7 w' (ν.withOwn k xs.length v) (.row sz k xs.length) v):=by
 have p0:∀bl,v.ownBlock=some bl→w.heap.size≤bl∧bl<w'.heap.size:=fun bl ae=>k3.lt bl ae;have av:kT w ν w' (ν.withOwn k xs.length v):=by
  refine⟨fun b o bd=>⟨bd,Dq a1 (h.good.alt b o bd)⟩,fun j b _ af=>af,fun g n u _ iq=>?_,fun b o bd=>vB (a1.block b (h.good.alt b o bd) (by simp)),fun _ _ _ _ h=>h⟩;by_cases e:g=k
  ·subst e;rcases ab with ab|⟨o,av,bu⟩
   ·rw[ab.2.1]at iq;cases iq
   ·obtain⟨v0,fm,aj,_⟩:=h.good.own g o av;rw[aj]at iq;cases iq;exact⟨xs.length,v,by simp[bc.withOwn],.inr bu⟩
  ·exact⟨n,u,by simp[bc.withOwn,e,iq],.inl ⟨rfl,rfl⟩⟩
 have kn:∀g,(look g (cw k ⟨xs.length,el,sz,some xs⟩ st.e)).isSome→g=k∨(g≠k∧(look g st.e).isSome∧(ν.withOwn k xs.length v).ow g=ν.ow g):=by
  intro g j2;by_cases e:g=k
  ·exact .inl e
  ·rw[iw,if_neg (ky e)]at j2;exact .inr ⟨e,j2,by simp[bc.withOwn,e]⟩
 have QK:∀bl,v.ownBlock=some bl→∀j,¬ν.A bl j:=fun bl ae j bd=>by have J:=h.good.alt bl j bd;have:=(p0 bl ae).1;omega
 have acH:∀j b,¬ν.tr k j b:=fun j b ae=>by
  rcases ab with ab|⟨o,hB,_⟩
  ·exact ab.2.2 j b ae
  ·obtain⟨v0,fm,aj,_⟩:=h.good.own k o hB;rw[(h.fr.trn k j b ae).2]at aj;cases aj
 refine⟨h.over av rfl ⟨fun bl o bd=>?_,fun j ey af=>?_,h.good.inj,fun g o eM=>?_,fun g e8 n n' u e0 bl J U al a6 bW c3=>?_,fun g j n u bl J U al a6 bW=>?_,fun j=>?_,fun bl ae bH j aO=>?_⟩
  ⟨a1.os.trans h.fr.os,a1.tape.trans h.fr.tape,a1.output.trans h.fr.output,jT h.fr.size a1.size,fun j af hm=>?_,fun b o bd=>?_,h.fr.fresh,h.fr.obj,h.fr.obn,fun m n u hm=>Cq (h.fr.row m n u hm) (fun n u=>av.ow _ n u trivial),h.fr.obr,h.fr.trd,fun k j b ae=>⟨(h.fr.trb k j b ae).1,Nat.lt_of_lt_of_le (h.fr.trb k j b ae).2 a1.size⟩,fun bH j b ae=>?_,fun b o bd=>(av.sh b o (h.fr.keep b o bd).1).trans (h.fr.sh b o bd)⟩ (fun m hm=>?_),?_⟩
 ·have:=h.good.alt bl o bd;have:=a1.size;omega
 ·obtain⟨bl,cb,fJ,g1,g2,g3,g4,g5⟩:=h.good.box j ey af;have bu:=(Array.getElem?_eq_some_iff.1 g4).1;exact⟨bl,cb,fJ,g1,g2,g3,by rw[a1.block bl bu (by simp)];exact g4,pB av g5⟩
 ·simp only at eM;rw[iw]at eM;by_cases e:k=g
  ·rw[if_pos e]at eM;cases eM;subst e;refine⟨v,us,by simp[bc.withOwn],⟨k3.1,?_⟩,fun bl ae=>⟨.inr (jT h.fr.size (p0 bl ae).1),fun j bd=>absurd bd (QK bl ae j)⟩,fun ys aL=>?_⟩
   ·rcases k3.2 with aj|⟨bb,cap,cur,f1,f2,f3⟩
    ·exact .inl aj
    ·exact .inr ⟨bb,cap,cur,f1,by omega,f3⟩
   ·simp only[dz]at aL;subst aL;exact⟨rfl,zF av aw,QK⟩
  ·rw[if_neg e]at eM;obtain⟨v0,fm,aj,aC,bg,da⟩:=h.good.own g o eM;exact⟨v0,fm,by simp[bc.withOwn,ky e,aj],aC.kept a1 (by cases v0.ownBlock<;>simp),bg,rj av (fun _ _ _ h=>h) da⟩
 ·rcases kn g J with rfl|⟨hX,fZ,iK⟩<;>rcases kn e8 U with rfl|⟨m1,m2,m3⟩
  ·rfl
  ·exfalso;simp only[bc.withOwn,if_true,dz,jb]at al;rw[m3]at a6;obtain⟨o,hB⟩:=fE.1 m2;have au:=h.good.ownLt hB a6 c3;have:=(p0 bl (by rw[al.2];exact bW)).1;omega
  ·exfalso;simp only[bc.withOwn,if_true,dz,jb]at a6;rw[iK]at al;obtain⟨o,hB⟩:=fE.1 fZ;have au:=h.good.ownLt hB al bW;have:=(p0 bl (by rw[a6.2];exact c3)).1;omega
  ·rw[iK]at al;rw[m3]at a6;exact h.good.oinj g e8 n n' u e0 bl fZ m2 al a6 bW c3
 ·rcases kn g J with rfl|⟨hX,fZ,iK⟩
  ·simp only[bc.withOwn,if_true,dz,jb]at al;obtain⟨ey,im⟩:=fE.1 U;have au:=h.good.boxLt im bW;have:=(p0 bl (by rw[al.2];exact a6)).1;omega
  ·rw[iK]at al;exact h.good.obx g j n u bl fZ U al a6 bW
 ·by_cases e:j=k
  ·subst e;rcases ab with ab|⟨o,hB,_⟩
   ·exact .inl ab.1
   ·obtain⟨v0,fm,aj,_⟩:=h.good.own j o hB;rcases h.good.one j with J|J
    ·exact .inl J
    ·rw[J]at aj;cases aj
  ·rcases h.good.one j with J|J
   ·exact .inl J
   ·exact .inr (by simp[bc.withOwn,e,J])
 ·rcases ae with ae|⟨g,n,u,bz,a2,a3⟩
  ·exact h.good.otr bl (.inl ae) bH j aO
  ·rcases kn g bz with rfl|⟨hX,fZ,iK⟩
   ·simp only[bc.withOwn,if_true,dz,jb]at a2;have J:=(p0 bl (by rw[a2.2];exact a3)).1;have U:=(h.fr.trb bH j _ aO).2;omega
   ·exact h.good.otr bl (.inr ⟨g,n,u,fZ,by rw[←iK];exact a2,a3⟩) bH j aO
 ·rw[a1.block j (by have:=h.fr.size;omega) (by simp)];exact h.fr.block j af hm
 ·obtain⟨a8,bU⟩:=h.fr.keep b o bd;exact⟨a8,(av.A b o a8).2.trans bU⟩
 ·have cC:bH≠k:=fun e=>by subst e;exact acH j b ae
  obtain⟨t1,t2⟩:=h.fr.trn bH j b ae;exact⟨t1,by simp[bc.withOwn,cC,t2]⟩
 ·obtain⟨f1,f2⟩:=de m hm;obtain⟨a8,bU,cj⟩:=h.new m f1;refine⟨a8,?_,cj⟩;simp[bc.withOwn,f2,bU]
 ·intro If;simp only[a7];exact⟨If,eX,xs.length,v,by simp[bc.withOwn],eQ _,fun _=>rfl⟩
theorem cJ.publish{C:e7}{st:bo}{a:Act}{w:World}{ν:bc}(h:cJ C st a w ν){k:aD}{o:fF}{xs:List ah}(ab:look k st.e=some o)(ad:o.xs=some xs){v:Value}(aK:ν.ow k=some (o.n,v))(eX:xs.length≤lim):
  cJ C {st with e:=cw k ⟨o.n,o.el,o.sz,none⟩ st.e} a w (ν.withRowOf k v o.n (o.n*o.sz))∧
  a7 w (ν.withRowOf k v o.n (o.n*o.sz)) (.slice o.sz (.own k) xs) v:=by
 obtain⟨v0,us,aZ,bB,bQ,cS⟩:=h.good.own k o ab;rw[aK]at aZ;cases aZ;obtain⟨c6,nl,tP⟩:=cS xs ad;have nP:∀g,(ν.withRowOf k v o.n (o.n*o.sz)).ow g=ν.ow g:=fun g=>by
  simp only[bc.withRowOf];split
  ·rename_i e;subst e;exact aK.symm
  ·rfl
 have av:kT w ν w (ν.withRowOf k v o.n (o.n*o.sz)):=⟨fun b o bd=>⟨.inl bd,rfl⟩,fun j b _ af=>af,fun g n u _ iq=>⟨n,u,by rw[nP];exact iq,.inl ⟨rfl,rfl⟩⟩,fun _ _ _=>rfl,fun _ _ _ _ h=>h⟩
 have kn:∀g,(look g (cw k ⟨o.n,o.el,o.sz,none⟩ st.e)).isSome→(look g st.e).isSome:=by
  intro g j2;by_cases e:k=g
  ·subst e;simp[ab]
  ·rwa[iw,if_neg e]at j2
 refine⟨h.over av rfl ⟨fun bl i bd=>?_,fun j ey af=>?_,h.good.inj,fun g o' eM=>?_,fun g e8 n n' u e0 bl J U al a6=>h.good.oinj g e8 n n' u e0 bl (kn g J) (kn e8 U) (by rwa[nP]at al) (by rwa[nP]at a6),fun g j n u bl J U al=>h.good.obx g j n u bl (kn g J) U (by rwa[nP]at al),fun j=>?_,fun bl ae=>h.good.otr bl (ae.imp id (fun⟨g,n,v,bz,a2,a3⟩=>⟨g,n,v,kn g bz,by rwa[nP]at a2,a3⟩))⟩
  ⟨h.fr.os,h.fr.tape,h.fr.output,h.fr.size,h.fr.block,fun b i bd=>⟨.inl (h.fr.keep b i bd).1,(h.fr.keep b i bd).2⟩,fun b i bd=>?_,h.fr.obj,h.fr.obn,fun m n u hm=>Cq (h.fr.row m n u hm) (fun n u=>av.ow _ n u trivial),h.fr.obr,h.fr.trd,h.fr.trb,fun bH j b ae=>⟨(h.fr.trn bH j b ae).1,by rw[nP];exact(h.fr.trn bH j b ae).2⟩,h.fr.sh⟩ (fun m hm=>?_),?_⟩
 ·rcases bd with bd|⟨bd,_⟩
  ·exact h.good.alt bl i bd
  ·exact(bB.lt bl bd).2
 ·obtain⟨bl,cb,fJ,g1,g2,g3,g4,g5⟩:=h.good.box j ey af;refine⟨bl,cb,fJ,g1,g2,fun i bd=>?_,g4,pB av g5⟩;rcases bd with bd|⟨bd,_⟩
  ·exact g3 i bd
  ·exact h.good.obx k j o.n v bl (by simp[ab]) (by simp[af]) aK bd g1
 ·simp only at eM;rw[iw]at eM;by_cases e:k=g
  ·rw[if_pos e]at eM;cases eM;subst e;refine⟨v,us,by rw[nP];exact aK,bB,fun bl ae=>⟨(bQ bl ae).1,fun j bd=>?_⟩,fun ys aL=>by cases aL⟩;rcases bd with bd|⟨_,bd⟩
   ·exact(bQ bl ae).2 j bd
   ·exact bd
  ·rw[if_neg e]at eM;obtain⟨v0,fm,aj,aC,bg,da⟩:=h.good.own g o' eM;have uI:∀bl,v0.ownBlock=some bl→∀j,(ν.withRowOf k v o.n (o.n*o.sz)).A bl j→ν.A bl j:=fun bl ae j bd=>by
    rcases bd with bd|⟨bd,_⟩
    ·exact bd
    ·exact absurd (h.good.oinj k g o.n o'.n v v0 bl (by simp[ab]) (by simp[eM]) aK aj bd ae) e
   exact⟨v0,fm,by rw[nP];exact aj,aC,fun bl ae=>⟨(bg bl ae).1,fun j bd=>(bg bl ae).2 j (uI bl ae j bd)⟩,rj av uI da⟩
 ·rcases h.good.one j with J|J
  ·exact .inl J
  ·exact .inr (by rw[nP];exact J)
 ·rcases bd with bd|⟨bd,_⟩
  ·exact h.fr.fresh b i bd
  ·exact .inr (bQ b bd).1
 ·obtain⟨a8,bU,cj⟩:=h.new m hm;exact⟨a8,by rw[nP];exact bU,cj⟩
 ·simp only[a7];refine⟨?_,fun e=>(by cases e),fun g e=>?_,fun _ _ e=>(by cases e),fun _ e=>(by cases e)⟩
  ·rcases bB.2 with⟨aj,aC⟩|⟨bb,cap,cur,f1,f2,f3,f4,f5,f6,f7⟩
   ·refine⟨none,0,by rw[aj,c6,aC],by omega,⟨by simp[maxLen],eX⟩,.inl (List.eq_nil_of_length_eq_zero (by omega))⟩
   ·refine⟨some ⟨bb,0,none⟩,cap,by rw[f1,c6],by omega,⟨f5,eX⟩,.inr ⟨bb,0,us,rfl,Jh us 0 fun j u af=>?_,zF av nl⟩⟩;have nR:v.ownBlock=some bb:=by rw[f1];rfl
    have yG:j<us.length:=(fH.1 af).1;refine⟨.inr ⟨nR,by rw[bB.1]at yG;omega⟩,?_⟩;have:=bB.cells nR j u af;rwa[oq]at this
  ·cases e;exact⟨o.n,v,by rw[nP];exact aK,by omega,fun _=>rfl⟩
theorem U7{α:Type}(k:aD)(p q:α):∀l,cw k q (cw k p l)=cw k q l
 |[]=>by simp[cw]
 |(i,r)::l=>by
  by_cases e:i=k
  ·simp[cw,e]
  ·simp[cw,e,U7 k p q l]
theorem cJ.newRow{C:e7}{st:bo}{a:Act}{w w':World}{ν:bc}(h:cJ C st a w ν){k:aD}{xs:List ah}(ab:(ν.bx k=none∧ν.ow k=none∧∀j b,¬ν.tr k j b)∨ ∃o,look k st.e=some o∧o.n<xs.length){el sz:Nat}{v:Value}{us:List Value}
  (a1:w.grownBy w' none) (k3:w'.ownsRow w.heap.size el sz v xs.length us) (aw:dt w ν sz xs us) (eX:xs.length≤lim) {n':Nat} {o':List aD} (de:∀j,fresh n' o' j→fresh st.n st.o j∧j≠k):
  cJ C {st with e:=cw k ⟨xs.length,el,sz,none⟩ st.e,n:=n',o:=o'} a w' ((ν.withOwn k xs.length v).withRowOf k v xs.length (xs.length*sz))∧
  a7 w' ((ν.withOwn k xs.length v).withRowOf k v xs.length (xs.length*sz)) (.slice sz (.own k) xs) v:=by
 have J:=(h.newRowM ab a1 k3 aw eX de).1;have U:=J.publish (k:=k) (o:=⟨xs.length,el,sz,some xs⟩) (xs:=xs) (v:=v) (by simp[iw]) rfl (by simp[bc.withOwn]) eX;simpa only[U7]using U
theorem cJ.setRowM{C:e7}{st:bo}{a:Act}{w w':World}{ν:bc}(h:cJ C st a w ν){k:aD}{o:fF}{xs xs':List ah}(ab:look k st.e=some o)(ad:o.xs=some xs){bl:Nat}{v v':Value}(aK:ν.ow k=some (o.n,v))(nR:v.ownBlock=some bl)(Eh:v'.ownBlock=some bl)
  (aA:(xs'.length=o.n∧v'=v)∨o.n<xs'.length) {us:List Value} (yM:w'.os=w.os) (IJ:w'.tape=w.tape) (Iv:w'.output=w.output) (mC:∀j,j≠bl→w'.heap[j]? =w.heap[j]?) (dW:w'.heap.size=w.heap.size)
  (k3:w'.ownsRow 0 o.el o.sz v' xs'.length us) (aw:dt w ν o.sz xs' us):
  cJ C {st with e:=cw k ⟨xs'.length,o.el,o.sz,some xs'⟩ st.e} a w' (ν.withOwn k xs'.length v')∧kT w ν w' (ν.withOwn k xs'.length v')∧(xs'.length≤lim→a7 w' (ν.withOwn k xs'.length v') (.row o.sz k xs'.length) v'):=by
 obtain⟨v0,fm,aZ,bB,bQ,cS⟩:=h.good.own k o ab;rw[aK]at aZ;cases aZ;obtain⟨c6,nl,tP⟩:=cS xs ad;have av:kT w ν w' (ν.withOwn k xs'.length v'):=by
  refine⟨fun b i bd=>⟨bd,World.cell?_of_block (mC b fun e=>by subst e;exact tP b nR i bd)⟩,fun j b _ af=>af,fun g n u _ iq=>?_,fun b i bd=>vB (mC b fun e=>by subst e;exact tP b nR i bd),fun _ _ _ _ h=>h⟩;by_cases e:g=k
  ·subst e;rw[aK]at iq;cases iq;refine⟨xs'.length,v',by simp[bc.withOwn],?_⟩;rcases aA with⟨J,U⟩|J
   ·exact .inl ⟨J,U⟩
   ·exact .inr J
  ·exact⟨n,u,by simp[bc.withOwn,e,iq],.inl ⟨rfl,rfl⟩⟩
 have kn:∀g n u,(look g (cw k ⟨xs'.length,o.el,o.sz,some xs'⟩ st.e)).isSome→(ν.withOwn k xs'.length v').ow g=some (n,u)→∀b,u.ownBlock=some b→(look g st.e).isSome∧∃n u,ν.ow g=some (n,u)∧u.ownBlock=some b:=by
  intro g n u j2 iq b ae;by_cases e:g=k
  ·subst e;simp only[bc.withOwn,if_true,dz,jb]at iq;rw[←iq.2,Eh]at ae;cases ae;exact⟨by simp[ab],o.n,v,aK,nR⟩
  ·rw[iw,if_neg (ky e)]at j2;simp only[bc.withOwn,e,if_false]at iq;exact⟨j2,n,u,iq,ae⟩
 refine⟨h.over av rfl ⟨fun b i bd=>by rw[dW];exact h.good.alt b i bd,fun j ey af=>?_,h.good.inj,fun g o' eM=>?_,fun g e8 n n' u e0 b J U al a6 bW c3=>?_,fun g j n u b J U al a6 bW=>?_,fun j=>?_,fun b ae=>h.good.otr b (ae.imp id (fun⟨g,n,v,bz,a2,a3⟩=>by obtain⟨b9,hX,iA,bZ,fy⟩:=kn g n v bz a2 b a3;exact⟨g,hX,iA,b9,bZ,fy⟩))⟩
  ⟨yM.trans h.fr.os,IJ.trans h.fr.tape,Iv.trans h.fr.output,by rw[dW];exact h.fr.size,fun j af hm=>?_,fun b i bd=>?_,h.fr.fresh,h.fr.obj,h.fr.obn,fun m n u hm=>Cq (h.fr.row m n u hm) (fun n u=>av.ow _ n u trivial),h.fr.obr,h.fr.trd,fun k j b ae=>⟨(h.fr.trb k j b ae).1,by rw[dW];exact(h.fr.trb k j b ae).2⟩,fun bH j b ae=>?_,fun b o bd=>(av.sh b o (h.fr.keep b o bd).1).trans (h.fr.sh b o bd)⟩ (fun m hm=>?_),av,?_⟩
 ·obtain⟨b,cb,fJ,g1,g2,g3,g4,g5⟩:=h.good.box j ey af;have cC:b≠bl:=fun e=>h.good.obx k j o.n _ bl (by simp[ab]) (by simp[af]) aK nR (by rw[←e];exact g1);exact⟨b,cb,fJ,g1,g2,g3,by rw[mC b cC];exact g4,pB av g5⟩
 ·simp only at eM;rw[iw]at eM;by_cases e:k=g
  ·rw[if_pos e]at eM;cases eM;subst e;refine⟨v',us,by simp[bc.withOwn],k3,fun b ae=>?_,fun ys aL=>?_⟩
   ·rw[Eh]at ae;cases ae;exact⟨(bQ bl nR).1,fun j bd=>absurd bd (tP bl nR j)⟩
   ·simp only[dz]at aL;subst aL;exact⟨rfl,zF av aw,fun b ae=>by rw[Eh]at ae;cases ae;exact tP bl nR⟩
  ·rw[if_neg e]at eM;obtain⟨v0,fm,aj,aC,bg,da⟩:=h.good.own g o' eM;have cC:∀b,v0.ownBlock=some b→b≠bl:=fun b ae Hi=>e (h.good.oinj k g o.n o'.n _ v0 bl (by simp[ab]) (by simp[eM]) aK aj nR (by rw[←Hi];exact ae));refine⟨v0,fm,by simp[bc.withOwn,ky e,aj],⟨aC.1,?_⟩,bg,rj av (fun _ _ _ h=>h) da⟩;rcases aC.2 with aC|⟨bb,Dp,lP,f1,f2,f3,f4⟩
   ·exact .inl aC
   ·exact .inr ⟨bb,Dp,lP,f1,f2,by rw[mC bb (cC bb (by rw[f1];rfl))];exact f3,f4⟩
 ·obtain⟨bz,hX,iA,a2,a3⟩:=kn g n u J al b bW;obtain⟨b9,fZ,iY,bZ,fy⟩:=kn e8 n' e0 U a6 b c3;exact h.good.oinj g e8 hX fZ iA iY b bz b9 a2 bZ a3 fy
 ·obtain⟨bz,hX,iA,a2,a3⟩:=kn g n u J al b a6;exact h.good.obx g j hX iA b bz U a2 a3 bW
 ·by_cases e:j=k
  ·subst e;rcases h.good.one j with J|J
   ·exact .inl J
   ·rw[J]at aK;cases aK
  ·rcases h.good.one j with J|J
   ·exact .inl J
   ·exact .inr (by simp[bc.withOwn,e,J])
 ·rw[mC j fun e=>by subst e;exact(bQ j nR).1.elim hm (fun g2=>by omega)];exact h.fr.block j af hm
 ·obtain⟨a8,bU⟩:=h.fr.keep b i bd;exact⟨a8,(av.A b i a8).2.trans bU⟩
 ·obtain⟨t1,t2⟩:=h.fr.trn bH j b ae;have cC:bH≠k:=fun e=>by subst e;rw[t2]at aK;cases aK
  exact⟨t1,by simp[bc.withOwn,cC,t2]⟩
 ·obtain⟨a8,bU,cj⟩:=h.new m hm;refine⟨a8,?_,cj⟩;have:m≠k:=fun e=>by subst e;rw[bU]at aK;cases aK
  simp[bc.withOwn,this,bU]
 ·intro eX;simp only[a7];obtain⟨cap,If⟩:=Tb k3 Eh;exact⟨⟨bl,cap,If⟩,eX,xs'.length,v',by simp[bc.withOwn],eQ _,fun _=>rfl⟩
theorem cJ.inPlace{C:e7}{st:bo}{a:Act}{w:World}{ν:bc}(h:cJ C st a w ν){k:aD}{o:fF}(ab:look k st.e=some o){bl cap:Nat}{cur:Array Value}(aK:ν.ow k=some (o.n,.slice (some ⟨bl,0,none⟩) o.n cap))
  (wD:w.heap[bl]? =some (.cells cur o.el (0,0))) (yx:cap≤maxLen) (dW:cur.size=cap*o.sz) {xs ys:List ah} {us ns:List Value} (jM:xs.length=o.n) (p8:cur.toList.take (o.n*o.sz)=us) (aw:dt w ν o.sz xs us) (yz:dt w ν o.sz ys ns)
  (fj:0<ys.length) (qT:o.n+ys.length≤cap) (eX:xs.length+ys.length≤lim):
  cJ C {st with e:=cw k ⟨o.n+ys.length,o.el,o.sz,none⟩ st.e} a (w.setRow bl (us++ns++cur.toList.drop (o.n*o.sz+ns.length)).toArray)
   (ν.withRowOf k (.slice (some ⟨bl,0,none⟩) (o.n+ys.length) cap) (o.n+ys.length) ((o.n+ys.length)*o.sz))∧
  a7 (w.setRow bl (us++ns++cur.toList.drop (o.n*o.sz+ns.length)).toArray) (ν.withRowOf k (.slice (some ⟨bl,0,none⟩) (o.n+ys.length) cap) (o.n+ys.length) ((o.n+ys.length)*o.sz))
   (.slice o.sz (.own k) (xs++ys)) (.slice (some ⟨bl,0,none⟩) (o.n+ys.length) cap):=by
 have jj:=sq yz;have qW:=sq aw;rw[jM]at qW;have hmul:(o.n+ys.length)*o.sz≤cap*o.sz:=Nat.mul_le_mul_right _ qT;rw[oZ]at hmul;obtain⟨v0,fm,aZ,bB,bQ,_⟩:=h.good.own k o ab;rw[aK]at aZ;cases aZ;obtain⟨cS,c6⟩:=bQ bl rfl;generalize yV:w.setRow bl (us++ns++cur.toList.drop (o.n*o.sz+ns.length)).toArray=w';have mC:∀j,j≠bl→w'.heap[j]? =w.heap[j]?:=fun j af=>by rw[←yV];exact setRow_other w bl j _ af
 have j3:w'.heap[bl]? =some (.cells (us++ns++cur.toList.drop (o.n*o.sz+ns.length)).toArray o.el (0,0)):=by rw[←yV];exact setRow_heap w bl cur _ o.el _ wD
 have IE:w'.heap.size=w.heap.size:=by rw[←yV];exact setRow_size w bl _
 have p2:∀j,j<o.n*o.sz→w'.cell? ⟨bl,j,none⟩=w.cell? ⟨bl,j,none⟩:=by intro j af;simp only[World.cell?,j3,wD,lK,gI,if_false];rw[List.getElem?_toArray,List.append_assoc,List.getElem?_append_left (by omega),←p8,List.getElem?_take,if_pos af];simp
 have av:kT w ν w' (ν.withRowOf k (.slice (some ⟨bl,0,none⟩) (o.n+ys.length) cap) (o.n+ys.length) ((o.n+ys.length)*o.sz)):=by
  refine⟨fun b j bd=>⟨.inl bd,?_⟩,fun j b _ af=>af,fun g n u _ iq=>?_,fun b j bd=>?_,fun _ _ _ _ h=>h⟩;rotate_left 2
  ·by_cases e:b=bl
   ·subst e;simp only[shape,j3,wD,List.size_toArray,oV,rC,Array.length_toList];congr 2;omega
   ·exact vB (mC b e)
  ·by_cases e:b=bl
   ·subst e;exact p2 j (c6 j bd)
   ·exact World.cell?_of_block (mC b e)
  ·by_cases e:g=k
   ·subst e;rw[aK]at iq;cases iq;exact⟨o.n+ys.length,.slice (some ⟨bl,0,none⟩) (o.n+ys.length) cap,by simp[bc.withRowOf],.inr (by omega)⟩
   ·exact⟨n,u,by simp[bc.withRowOf,e,iq],.inl ⟨rfl,rfl⟩⟩
 have kn:∀g,(look g (cw k ⟨o.n+ys.length,o.el,o.sz,none⟩ st.e)).isSome→g=k∨(g≠k∧(look g st.e).isSome∧(ν.withRowOf k (.slice (some ⟨bl,0,none⟩) (o.n+ys.length) cap) (o.n+ys.length) ((o.n+ys.length)*o.sz)).ow g=ν.ow g):=by
  intro g j2;by_cases e:g=k
  ·exact .inl e
  ·rw[iw,if_neg (ky e)]at j2;exact .inr ⟨e,j2,by simp[bc.withRowOf,e]⟩
 have amc:bl<w.heap.size:=(Array.getElem?_eq_some_iff.1 wD).1;have abO:∀j u,(us++ns)[j]? =some u→w'.cell? ⟨bl,j,none⟩=some u:=by intro j u af;have yG:=(fH.1 af).1;simp only[World.cell?,j3,lK,gI,if_false];rw[List.getElem?_toArray,List.getElem?_append_left yG];exact af
 refine⟨h.over av rfl ⟨fun b j bd=>?_,fun j ey af=>?_,h.good.inj,fun g o' eM=>?_,fun g e8 n n' u e0 b J U al a6 bW c3=>?_,fun g j n u b J U al a6 bW=>?_,fun j=>?_,fun b ae=>h.good.otr b ?_⟩
  ⟨by rw[←yV];exact h.fr.os,by rw[←yV];exact h.fr.tape,by rw[←yV];exact h.fr.output,by rw[IE];exact h.fr.size,fun j af hm=>?_,fun b j bd=>?_,fun b j bd=>?_,h.fr.obj,h.fr.obn,fun m n u hm=>Cq (h.fr.row m n u hm) (fun n u=>av.ow _ n u trivial),h.fr.obr,h.fr.trd,fun k j b ae=>⟨(h.fr.trb k j b ae).1,by rw[IE];exact(h.fr.trb k j b ae).2⟩,fun bH j b ae=>?_,fun b o bd=>(av.sh b o (h.fr.keep b o bd).1).trans (h.fr.sh b o bd)⟩ (fun m hm=>?_),?_⟩
 ·rw[IE];rcases bd with bd|⟨bd,_⟩
  ·exact h.good.alt b j bd
  ·simp only[nx,dz]at bd;omega
 ·obtain⟨b,cb,fJ,g1,g2,g3,g4,g5⟩:=h.good.box j ey af;have cC:b≠bl:=fun e=>h.good.obx k j o.n _ bl (by simp[ab]) (by simp[af]) aK rfl (by rw[←e];exact g1);refine⟨b,cb,fJ,g1,g2,fun i bd=>?_,by rw[mC b cC];exact g4,pB av g5⟩;rcases bd with bd|⟨bd,_⟩
  ·exact g3 i bd
  ·simp only[nx,dz]at bd;exact cC bd.symm
 ·simp only at eM;rw[iw]at eM;by_cases e:k=g
  ·rw[if_pos e]at eM;cases eM;subst e;refine⟨.slice (some ⟨bl,0,none⟩) (o.n+ys.length) cap,us++ns,by simp[bc.withRowOf],⟨by rw[oV,qW,jj,oZ],.inr ⟨bl,cap,_,rfl,Nat.zero_le _,j3,qT,yx,?_,?_⟩⟩,fun b ae=>⟨?_,fun j bd=>?_⟩,fun ys aL=>by cases aL⟩
   ·simp only[List.size_toArray,oV,rC,Array.length_toList];omega
   ·have au:(us++ns).length=(o.n+ys.length)*o.sz:=by rw[oV,qW,jj,oZ]
    simp only[←au];rw[List.take_append_of_le_length (eQ _),oY]
   ·simp only[nx,dz]at ae;subst ae;exact cS
   ·simp only[nx,dz]at ae;subst ae;rcases bd with bd|⟨_,bd⟩
    ·have:=c6 j bd;simp only;rw[oZ];omega
    ·exact bd
  ·rw[if_neg e]at eM;obtain⟨v0,fm,aj,aC,bg,da⟩:=h.good.own g o' eM;have cC:∀b,v0.ownBlock=some b→b≠bl:=fun b ae Hi=>e (h.good.oinj k g o.n o'.n _ v0 bl (by simp[ab]) (by simp[eM]) aK aj rfl (by rw[←Hi];exact ae));have uI:∀b,v0.ownBlock=some b→∀j,(ν.withRowOf k (.slice (some ⟨bl,0,none⟩) (o.n+ys.length) cap) (o.n+ys.length) ((o.n+ys.length)*o.sz)).A b j→ν.A b j:=fun b ae j bd=>by
    rcases bd with bd|⟨bd,_⟩
    ·exact bd
    ·simp only[nx,dz]at bd;exact absurd bd.symm (cC b ae)
   refine⟨v0,fm,by simp[bc.withRowOf,ky e,aj],⟨aC.1,?_⟩,fun b ae=>⟨(bg b ae).1,fun j bd=>(bg b ae).2 j (uI b ae j bd)⟩,rj av uI da⟩;rcases aC.2 with aC|⟨bb,Dp,lP,f1,f2,f3,f4⟩
   ·exact .inl aC
   ·exact .inr ⟨bb,Dp,lP,f1,f2,by rw[mC bb (cC bb (by rw[f1];rfl))];exact f3,f4⟩
 ·rcases kn g J with rfl|⟨hX,fZ,iK⟩<;>rcases kn e8 U with rfl|⟨m1,m2,m3⟩
  ·rfl
  ·exfalso;simp only[bc.withRowOf,if_true,dz,jb]at al;rw[m3]at a6;rw[←al.2]at bW;simp only[nx,dz]at bW;subst bW;exact m1 (h.good.oinj e8 g n' o.n e0 _ bl m2 (by simp[ab]) a6 aK c3 rfl)
  ·exfalso;simp only[bc.withRowOf,if_true,dz,jb]at a6;rw[iK]at al;rw[←a6.2]at c3;simp only[nx,dz]at c3;subst c3;exact hX (h.good.oinj g e8 n o.n u _ bl fZ (by simp[ab]) al aK bW rfl)
  ·rw[iK]at al;rw[m3]at a6;exact h.good.oinj g e8 n n' u e0 b fZ m2 al a6 bW c3
 ·rcases kn g J with rfl|⟨hX,fZ,iK⟩
  ·simp only[bc.withRowOf,if_true,dz,jb]at al;rw[←al.2]at a6;simp only[nx,dz]at a6;subst a6;exact h.good.obx g j o.n _ bl (by simp[ab]) U aK rfl bW
  ·rw[iK]at al;exact h.good.obx g j n u b fZ U al a6 bW
 ·by_cases e:j=k
  ·subst e;rcases h.good.one j with J|J
   ·exact .inl J
   ·rw[J]at aK;cases aK
  ·rcases h.good.one j with J|J
   ·exact .inl J
   ·exact .inr (by simp[bc.withRowOf,e,J])
 ·rcases ae with ae|⟨g,n,u,bz,a2,a3⟩
  ·exact .inl ae
  ·rcases kn g bz with rfl|⟨hX,fZ,iK⟩
   ·simp only[bc.withRowOf,if_true,dz,jb]at a2;rw[←a2.2]at a3;exact .inr ⟨g,_,_,by simp[ab],aK,a3⟩
   ·exact .inr ⟨g,n,u,fZ,by rw[←iK];exact a2,a3⟩
 ·rw[mC j fun e=>by subst e;exact cS.elim hm (fun g2=>by omega)];exact h.fr.block j af hm
 ·obtain⟨a8,bU⟩:=h.fr.keep b j bd;exact⟨.inl a8,(av.A b j a8).2.trans bU⟩
 ·rcases bd with bd|⟨bd,_⟩
  ·exact h.fr.fresh b j bd
  ·simp only[nx,dz]at bd;subst bd;exact .inr cS
 ·obtain⟨t1,t2⟩:=h.fr.trn bH j b ae;have cC:bH≠k:=fun e=>by subst e;rw[t2]at aK;cases aK
  exact⟨t1,by simp[bc.withRowOf,cC,t2]⟩
 ·obtain⟨a8,bU,cj⟩:=h.new m hm;refine⟨a8,?_,cj⟩;have:m≠k:=fun e=>by subst e;rw[bU]at aK;cases aK
  simp[bc.withRowOf,this,bU]
 ·simp only[a7];refine⟨⟨some ⟨bl,0,none⟩,cap,by simp[jM],by simp;omega,⟨yx,by simpa using eX⟩,.inr ⟨bl,0,us++ns,rfl,Jh _ 0 fun j u af=>?_,Cj (zF av aw) (zF av yz)⟩⟩,fun e=>(by cases e),fun g e=>?_,fun _ _ e=>(by cases e),fun _ e=>(by cases e)⟩
  ·have yG:=(fH.1 af).1;rw[Nat.zero_add];refine⟨.inr ⟨rfl,?_⟩,abO j u af⟩;rw[oV,qW,jj]at yG;rw[oZ];exact yG
  ·cases e;exact⟨o.n+ys.length,.slice (some ⟨bl,0,none⟩) (o.n+ys.length) cap,by simp[bc.withRowOf],by simp[jM],fun _=>rfl⟩
theorem FI{P:cy}{w:World}{t ty e:fT}{i:TypeInfo}(aO:P.underlying t=some (.slice e))(hi:P.info? e=some i)(b:aW Addr)(n cap:Nat)(aA:n≤cap)(x:aW Addr)(c:Nat):
  (Builtin.append_ #[t,t] ty #[.slice b n cap,.slice x 0 c]).run P w= .ok (.slice b n cap) w:=by
 cases b<;>cases x<;>simp[Builtin.append_,run_underlying aO,sizeOf,typeInfo,hi,Builtin.lenOf,aA,Builtin.firstCells,loadCells,loadCellsFrom,storeCells]
inductive ea where
 |v (d:Nat) (i:fI)
 |box (d:Nat) (key:aW Nat) (x:dk)
 |alloc (d:Nat) (key:aW Nat) (zero:ah)
 |store (sz:Nat) (x y:dk)
 |bsl (d:Nat) (sz el:Nat) (xs:List dk)
 |app (d:Nat) (sz el:Nat) (x y:dk)
 |bslm (d:Nat) (key:aW Nat) (sz el:Nat) (xs:List dk)
 |appm (d:Nat) (key:aW Nat) (sz el:Nat) (x y:dk)
 |mkmap (d:Nat) (key:aW Nat)
 |mput (b7:jd) (x k v:dk)
 |range (d:Nat) (key:aW Nat) (x:dk)
 |storeE (sz:Nat) (x y:dk)
 |mks (d:Nat) (key:aW Nat) (sz el:Nat) (z:ah) (x:dk)
def jo(st:bo):aW Nat→aD
 |none=>.loc st.n
 |some m=>.obj m
def pj(st:bo):aW Nat→Prop
 |none=>.loc st.n∉st.o
 |some m=>.obj m∉st.o
def mJ(st:bo):aW Nat→Nat
 |none=>st.n+1
 |some _=>st.n
def mK(st:bo):aW Nat→List aD
 |none=>st.o
 |some m=>.obj m::st.o
theorem vj{st:bo}{key:aW Nat}(h:pj st key):fresh st.n st.o (jo st key):=by cases key<;>simp[jo,fresh,pj]at h⊢ <;>exact h
theorem vk{st:bo}{key:aW Nat}:∀j,fresh (mJ st key) (mK st key) j→fresh st.n st.o j∧j≠jo st key:=by
 intro j af;cases key<;>cases j<;>simp[fresh,mJ,mK,jo]at af⊢
 ·exact⟨⟨by omega,af.2⟩,by omega⟩
 ·exact af
 ·exact af
 ·exact⟨af.2,af.1⟩
def rI(sz:Nat):List ah→Prop
 |[]=>True
 |p::cm=>(dS p=true∧(cells p).length=sz)∧rI sz cm
def nX(b7:jd)(k v:ah):List ah→aW (List ah)
 | .hdm clock borns::kvs=>if tx b7 k=false then none else match tK b7 k v kvs with
  |some (some ve)=>some (.hdm clock borns::ve)
  |some none=>some (.hdm (clock+1) (borns++[clock])::(kvs++[k,v]))
  |none=>none
 |_=>none
def vw(m:aD):List ah→aW (List ah)
 | .hdm clock _::_=>some [.hdi clock [] clock,.gmap m]
 |_=>none
def rJ(st:bo)(sz el:Nat)(x y:ah):aW ((aW (aD×List ah))×List ah):=
 match x,y with
 | .slice dy .nil _,.slice iO _ ys=>if dy=sz∧iO=sz then some (none,ys)else none
 | .row dy k n,.slice iO _ ys=>if dy=sz∧iO=sz then
   match look k st.e with
   |some ⟨n',fJ,vE,some xs⟩=>if n'=n∧fJ=el∧vE=sz then some (some (k,xs),ys)else none
   |_=>none
  else none
 |_,_=>none
def l9:ah→Nat→List ah→ah
 | .agg ey,f,cs=>.agg (nn ey f cs)
 |_,_,[q]=>q
 |_,_,_=>.junk
def qj(st:bo)(sz:Nat)(p v:ah):aW (Prop×bo):=
 match p with
 | .rptr dy k n i f=>match look k st.e with
  |some ⟨n',el,iO,some xs⟩=>if n'=n∧iO=dy then
    match xs[i]? with
    |some q=>some (dS q=true∧dS v=true∧(cells v).length=sz∧f+sz≤(cells q).length∧0<sz,{st with e:=cw k ⟨n',el,iO,some (xs.set i (l9 q f (cells v)))⟩ st.e})
    |none=>none
   else none
  |_=>none
 |_=>none
def lG(st:bo):ea→aW (Prop×bo)
 | .mks d key sz el z x=>match cg st.t x with
  | .int _ n=>some (pj st key∧0≤n∧n≤lim,
    {t:=put d (.row sz (jo st key) n.toNat) st.t,b:=st.b,e:=cw (jo st key) ⟨n.toNat,el,sz,some (qp n.toNat z)⟩ st.e,n:=mJ st key,o:=mK st key})
  |_=>none
 | .bslm d key sz el xs=>some (pj st key∧rI sz (xs.map (cg st.t)),
   {t:=put d (.row sz (jo st key) xs.length) st.t,b:=st.b,e:=cw (jo st key) ⟨xs.length,el,sz,some (xs.map (cg st.t))⟩ st.e,n:=mJ st key,o:=mK st key})
 | .appm d key sz el x y=>match rJ st sz el (cg st.t x) (cg st.t y)with
  |some (none,ys)=>some (pj st key∧ys.length≤lim∧ys≠[],
    {t:=put d (.row sz (jo st key) ys.length) st.t,b:=st.b,e:=cw (jo st key) ⟨ys.length,el,sz,some ys⟩ st.e,n:=mJ st key,o:=mK st key})
  |some (some (k,xs),ys)=>some (xs.length+ys.length≤lim,{st with t:=put d (.row sz k (xs.length+ys.length)) st.t,e:=cw k ⟨xs.length+ys.length,el,sz,some (xs++ys)⟩ st.e})
  |none=>none
 | .mkmap d key=>some (pj st key,{t:=put d (.gmap (jo st key)) st.t,b:=cw (jo st key) [.hdm 0 []] st.b,e:=st.e,n:=mJ st key,o:=mK st key})
 | .mput b7 x k v=>match cg st.t x with
  | .gmap m=>match look m st.b with
   |some cs=>match nX b7 (cg st.t k) (cg st.t v) cs with
    |some cs'=>some (True,{st with b:=cw m cs' st.b})
    |none=>none
   |none=>none
  |_=>none
 | .range d key x=>match cg st.t x with
  | .gmap m=>match look m st.b with
   |some cs=>match vw m cs with
    |some cs'=>some (pj st key,{t:=put d (.ptr (jo st key) 0) st.t,b:=cw (jo st key) cs' st.b,e:=st.e,n:=mJ st key,o:=mK st key})
    |none=>none
   |none=>none
  |_=>none
 | .v d i=>match gU st i with
  |some (c,p)=>some (c,{st with t:=put d p st.t})
  |none=>none
 | .storeE sz x y=>qj st sz (cg st.t x) (cg st.t y)
 | .box d key x=>some (pj st key∧dS (cg st.t x)=true,
   {t:=put d (.ptr (jo st key) 0) st.t,b:=cw (jo st key) (cells (cg st.t x)) st.b,e:=st.e,n:=mJ st key,o:=mK st key})
 | .alloc d key z=>some (pj st key,{t:=put d (.ptr (jo st key) 0) st.t,b:=cw (jo st key) (cells z) st.b,e:=st.e,n:=mJ st key,o:=mK st key})
 | .store sz x y=>match cg st.t x with
  | .ptr k off=>match look k st.b with
   |some cs=>some (hF cs=true∧dS (cg st.t y)=true∧(cells (cg st.t y)).length=sz∧off+sz≤cs.length,{st with b:=cw k (nn cs off (cells (cg st.t y))) st.b})
   |none=>none
  |p=>qj st sz p (cg st.t y)
 | .bsl d sz el xs=>some (pj st none∧rI sz (xs.map (cg st.t)),
   {st with t:=put d (.slice sz (.own (.loc st.n)) (xs.map (cg st.t))) st.t,e:=cw (.loc st.n) ⟨xs.length,el,sz,none⟩ st.e,n:=st.n+1})
 | .app d sz el x y=>match cg st.t x,cg st.t y with
  | .slice dy tag xs,.slice iO _ ys=>if dy=sz∧iO=sz then
    match tag with
    | .own k=>match look k st.e with
     |some o=>some (o.n=xs.length∧o.el=el∧o.sz=sz∧xs.length+ys.length≤lim,
       {st with t:=put d (.slice sz (.own k) (xs++ys)) st.t,e:=cw k ⟨xs.length+ys.length,el,sz,none⟩ st.e})
     |none=>none
    | .nil=>some (pj st none∧ys.length≤lim,{st with t:=put d (.slice sz (.own (.loc st.n)) ys) st.t,e:=cw (.loc st.n) ⟨ys.length,el,sz,none⟩ st.e,n:=st.n+1})
    |_=>none
   else none
  |_,_=>none
def er(κ:aD)(n':Nat)(o':List aD)(st:bo):ea→aW (Prop×bo)
 | .mks d _ sz el z x=>match cg st.t x with
  | .int _ n=>some (0≤n∧n≤lim,
    {t:=put d (.row sz κ n.toNat) st.t,b:=st.b,e:=cw κ ⟨n.toNat,el,sz,some (qp n.toNat z)⟩ st.e,n:=n',o:=o'})
  |_=>none
 | .bslm d _ sz el xs=>some (rI sz (xs.map (cg st.t)),
   {t:=put d (.row sz κ xs.length) st.t,b:=st.b,e:=cw κ ⟨xs.length,el,sz,some (xs.map (cg st.t))⟩ st.e,n:=n',o:=o'})
 | .appm d _ sz el x y=>match rJ st sz el (cg st.t x) (cg st.t y)with
  |some (none,ys)=>some (ys.length≤lim∧ys≠[],
    {t:=put d (.row sz κ ys.length) st.t,b:=st.b,e:=cw κ ⟨ys.length,el,sz,some ys⟩ st.e,n:=n',o:=o'})
  |some (some (k,xs),ys)=>some (xs.length+ys.length≤lim,{st with t:=put d (.row sz k (xs.length+ys.length)) st.t,e:=cw k ⟨xs.length+ys.length,el,sz,some (xs++ys)⟩ st.e})
  |none=>none
 | .mkmap d _=>some (True,{t:=put d (.gmap κ) st.t,b:=cw κ [.hdm 0 []] st.b,e:=st.e,n:=n',o:=o'})
 | .mput b7 x k v=>match cg st.t x with
  | .gmap m=>match look m st.b with
   |some cs=>match nX b7 (cg st.t k) (cg st.t v) cs with
    |some cs'=>some (True,{st with b:=cw m cs' st.b})
    |none=>none
   |none=>none
  |_=>none
 | .range d _ x=>match cg st.t x with
  | .gmap m=>match look m st.b with
   |some cs=>match vw m cs with
    |some cs'=>some (True,{t:=put d (.ptr κ 0) st.t,b:=cw κ cs' st.b,e:=st.e,n:=n',o:=o'})
    |none=>none
   |none=>none
  |_=>none
 | .v d i=>match gU st i with
  |some (c,p)=>some (c,{st with t:=put d p st.t})
  |none=>none
 | .storeE sz x y=>qj st sz (cg st.t x) (cg st.t y)
 | .box d _ x=>some (dS (cg st.t x)=true,{t:=put d (.ptr κ 0) st.t,b:=cw κ (cells (cg st.t x)) st.b,e:=st.e,n:=n',o:=o'})
 | .alloc d _ z=>some (True,{t:=put d (.ptr κ 0) st.t,b:=cw κ (cells z) st.b,e:=st.e,n:=n',o:=o'})
 | .store sz x y=>match cg st.t x with
  | .ptr k off=>match look k st.b with
   |some cs=>some (hF cs=true∧dS (cg st.t y)=true∧(cells (cg st.t y)).length=sz∧off+sz≤cs.length,{st with b:=cw k (nn cs off (cells (cg st.t y))) st.b})
   |none=>none
  |p=>qj st sz p (cg st.t y)
 | .bsl d sz el xs=>some (rI sz (xs.map (cg st.t)),
   {st with t:=put d (.slice sz (.own κ) (xs.map (cg st.t))) st.t,e:=cw κ ⟨xs.length,el,sz,none⟩ st.e,n:=n',o:=o'})
 | .app d sz el x y=>match cg st.t x,cg st.t y with
  | .slice dy tag xs,.slice iO _ ys=>if dy=sz∧iO=sz then
    match tag with
    | .own k=>match look k st.e with
     |some o=>some (o.n=xs.length∧o.el=el∧o.sz=sz∧xs.length+ys.length≤lim,
       {st with t:=put d (.slice sz (.own k) (xs++ys)) st.t,e:=cw k ⟨xs.length+ys.length,el,sz,none⟩ st.e})
     |none=>none
    | .nil=>some (ys.length≤lim,{st with t:=put d (.slice sz (.own κ) ys) st.t,e:=cw κ ⟨ys.length,el,sz,none⟩ st.e,n:=n',o:=o'})
    |_=>none
   else none
  |_,_=>none
def vo:Nat→List dk→List (Nat×Operand)→Bool
 |_,[],[]=>true
 |i,x::xs,(j,o)::os=>i==j&&dY x o&&vo (i+1) xs os
 |_,_,_=>false
def Cs(N:Nat)(bt:List (Nat×dB))(i:ea)(o:Oper):Bool:=
 match i,o.op with
 | .mkmap d _,.makeMap _ none=>o.dst==some d&&decide (d<N)
 | .mput b7 x k v,.mapUpdate t gF gy pz=>o.dst==none&&(match dQ bt t with|some ⟨_,_,.map l5 _,_⟩=>w6 bt b7 l5|_=>false)&&dY x gF&&dY k gy&&dY v pz
 | .mput b7 x k v,.insert t gF gy pz=>o.dst==none&&(match dQ bt t with|some ⟨_,_,.map l5 _,_⟩=>w6 bt b7 l5|_=>false)&&dY x gF&&dY k gy&&dY v pz
 | .range d _ x,.range t gF=>o.dst==some d&&decide (d<N)&&(match dQ bt t with|some ⟨_,_,.map _ _,_⟩=>true|_=>false)&&dY x gF
 | .v d i,op=>o.dst==some d&&decide (d<N)&&CG bt i op
 | .box d _ x,.box _ o'=>o.dst==some d&&decide (d<N)&&dY x o'
 | .alloc d _ z,.alloc el=>o.dst==some d&&decide (d<N)&&(match dQ bt el with|some f=>z8 z f.zero|none=>false)
 | .store sz x y,.store t o' iL=>o.dst==none&&(match dQ bt t with|some f=>f.size==sz|none=>false)&&dY x o'&&dY y iL
 | .bsl d sz el xs,.buildSlice t len parts=>o.dst==some d&&decide (d<N)&&(match dQ bt t with|some ⟨_,_,.slice fJ,_⟩=>el==fJ|_=>false)&&(match dQ bt el with|some f=>f.size==sz&&decide (0<sz)|none=>false)
   &&len==xs.length&&decide (len*sz≤16777216)&&vo 0 xs parts.toList
 | .app d sz el x y,.call ⟨.builtin .append,⟨[o',iL]⟩,⟨[t,dD]⟩⟩=>o.dst==some d&&decide (d<N)&&t==dD&&(match dQ bt t with|some ⟨_,_,.slice fJ,_⟩=>el==fJ|_=>false)
   &&(match dQ bt el with|some f=>f.size==sz&&decide (0<sz)&&decide (f.bytes≤2048)|none=>false)&&dY x o'&&dY y iL
 | .bslm d _ sz el xs,.buildSlice t len parts=>o.dst==some d&&decide (d<N)&&(match dQ bt t with|some ⟨_,_,.slice fJ,_⟩=>el==fJ|_=>false)&&(match dQ bt el with|some f=>f.size==sz&&decide (0<sz)|none=>false)
   &&len==xs.length&&decide (len*sz≤16777216)&&vo 0 xs parts.toList
 | .appm d _ sz el x y,.call ⟨.builtin .append,⟨[o',iL]⟩,⟨[t,dD]⟩⟩=>o.dst==some d&&decide (d<N)&&t==dD&&(match dQ bt t with|some ⟨_,_,.slice fJ,_⟩=>el==fJ|_=>false)
   &&(match dQ bt el with|some f=>f.size==sz&&decide (0<sz)&&decide (f.bytes≤2048)|none=>false)&&dY x o'&&dY y iL
 | .storeE sz x y,.store t o' iL=>o.dst==none&&(match dQ bt t with|some f=>f.size==sz|none=>false)&&dY x o'&&dY y iL
 | .mks d _ sz el z x,.makeSlice t o' iL=>o.dst==some d&&decide (d<N)&&(match dQ bt t with|some ⟨_,_,.slice fJ,_⟩=>el==fJ|_=>false)
   &&(match dQ bt el with|some f=>f.size==sz&&decide (0<sz)&&decide (f.bytes≤2048)&&z8 z f.zero|none=>false)&&dY x o'&&dY x iL
 |_,_=>false
theorem Ur{w:World}{ν:bc}{C:e7}{st:bo}{a:Act}(aJ:cJ C st a w ν){sz:Nat}:
  ∀(xs:List dk) (i:Nat) (os:List (Nat×Operand)) (pre:List ah) (us:Array Value) (ba:List Value),vo i xs os=true→rI sz (xs.map (cg st.t))→us.toList.take (i*sz)=ba→dt w ν sz pre ba→i=pre.length→us.size=(i+xs.length)*sz→
  ∃cb:Array Value,Instr.fill (fun i=>some (i*sz,sz)) us (os.map fun(x:Nat×Operand)=>(x.1,a.eval x.2))=some cb∧dt w ν sz (pre++xs.map (cg st.t)) cb.toList∧cb.size=us.size
 |[],i,[],pre,us,ba,_,_,aK,h,hi,ag=>by refine⟨us,by simp[Instr.fill],?_,rfl⟩;have au:=sq h;have:us.toList.take (i*sz)=us.toList:=hq (by simp at ag⊢;omega);rw[this]at aK;simpa[aK]using h
 |[],_,_::_,_,_,_,eS,_,_,_,_,_=>by simp[vo]at eS
 |_::_,_,[],_,_,_,eS,_,_,_,_,_=>by simp[vo]at eS
 |x::xs,i,(j,o)::os,pre,us,ba,eS,bD,aK,h,hi,ag=>by
  simp only[vo,cA,dG]at eS;obtain⟨⟨rfl,J⟩,U⟩:=eS;simp only[gX,rI]at bD;obtain⟨⟨kH,hlen⟩,bD⟩:=bD;have ad:=dZ aJ J;have k1:=tV ad kH;have yy:=oR k1;have dj:(a.eval o).cells.size=sz:=by rw[hlen]at yy;simpa using yy
  have hmul:i*sz+sz≤us.size:=by rw[ag,pK,show i+(xs.length+1)=(i+1)+xs.length from by omega,oZ,Nat.succ_mul];omega
  have wV:=HF (w:=w) (ν:=ν) (a.eval o).cells.toList 0 (i*sz) us (by simp[dj];omega);have jk:dt w ν sz (pre++[cg st.t x]) (ba++(a.eval o).cells.toList):=by refine Cj h ?_;simp only[dt];exact⟨a.eval o,[],by simp,⟨ad,dj,zH k1⟩,rfl⟩
  have pc:ba.length=i*sz:=by rw[←aK];simp;omega
  obtain⟨cb,g1,g2,g3⟩:=Ur aJ xs (i+1) os (pre++[cg st.t x]) (((a.eval o).cells.toList.zipIdx 0).foldl (fun cs (x:Value×Nat)=>cs.setIfInBounds (i*sz+x.2) x.1) us) (ba++(a.eval o).cells.toList) U bD
   (by
    rw[wV];simp only[Nat.add_zero];rw[aK];have:(ba++(a.eval o).cells.toList).length=(i+1)*sz:=by rw[oV,pc,Nat.succ_mul];simp[dj]
    rw[←this,List.take_append_of_le_length (eQ _),oY]) jk (by simp[hi])
   (by have bs:=e1 List.length wV;simp only[Array.length_toList,oV,List.length_take,rC,dj]at bs;rw[bs,ag,pK,show i+(xs.length+1)=i+1+xs.length from by omega];rw[ag,pK,show i+(xs.length+1)=i+1+xs.length from by omega]at hmul;omega)
  refine⟨cb,?_,by simpa using g2,?_⟩
  ·simp only[gX,Instr.fill];rw[if_neg (by simp[dj];omega),←g1];congr 1;rw[←Array.foldl_toList];simp
  ·rw[g3];have bs:=e1 List.length wV;simp only[Array.length_toList,oV,List.length_take,rC,dj]at bs;rw[bs];omega
theorem lJ{P:cy}{o:Oper}{a:Act}{w w':World}{v:Value}{K:Act→World→Prop}{Q:Exit→Act→World→Prop}(h:(execOp a.eval o).run P w= .ok (.value v) w')(ab:K (a.put o.dst v) w'):o.wp P a w K Q:=by unfold Oper.wp;rw[h];exact ab
theorem CN{P:cy}{o:Oper}{a:Act}{w w':World}{K:Act→World→Prop}{Q:Exit→Act→World→Prop}(h:(execOp a.eval o).run P w= .ok .skip w')(ab:K (a.put o.dst undef) w'):o.wp P a w K Q:=by unfold Oper.wp;rw[h];exact ab
theorem CH{P:cy}{w w':World}{x:Sem Value}{v:Value}(h:x.run P w= .ok v w'):(do pure (Next.value (←x)):Sem Next).run P w= .ok (.value v) w':=by simp[h]
theorem Up{P:cy}{bt:List (Nat×dB)}(aO:fN P bt=true){C:e7}{st:bo}{a:Act}{w:World}{ν:bc}(aJ:cJ C st a w ν){t el:Nat}{f g:dB}(aI:dQ bt t=some f)(ab:f.kind= .slice el)(a1:dQ bt el=some g)
  {xs:List dk} {os:List (Nat×Operand)} (eS:vo 0 xs os=true) (dW:rI g.size (xs.map (cg st.t))) (hlen:xs.length*g.size≤16777216):
  ∃us:Array Value,(Instr.buildSlice t xs.length (os.map fun(x:Nat×Operand)=>(x.1,a.eval x.2)).toArray).run P w= .ok (.slice (some ⟨w.heap.size,0,none⟩) xs.length xs.length) (w.alloc (.cells us el))∧
   dt w ν g.size (xs.map (cg st.t)) us.toList∧us.size=xs.length*g.size:=by
 obtain⟨d,aP,eR⟩:=iz aO aI;rw[ab]at eR;obtain rfl:=rL eR;obtain⟨_,ag⟩:=ue aO a1 w;obtain⟨z,wZ,amr,ams⟩:=Lg aO a1 w;have aA:¬xs.length*g.size>2 ^ 24:=by omega
 let init:Array Value:=if xs.length*g.size=0 then(Array.range (xs.length*g.size)).map ((#[]:Array Value)[· %(#[]:Array Value).size]!)else(Array.range (xs.length*g.size)).map (z.cells[· %z.cells.size]!)
 have Qs:init.size=xs.length*g.size:=by simp only[init];split<;>simp
 obtain⟨cb,g1,g2,g3⟩:=Ur (a:=a) aJ xs 0 os [] init [] eS dW (by simp) (by simp[dt]) rfl (by rw[Qs];simp);refine⟨cb,?_,by simpa using g2,by rw[g3,Qs]⟩;simp only[init]at g1;by_cases bs:xs.length*g.size=0
 ·rw[if_pos bs]at g1;rw[bs]at g1;have abt:¬(0:Nat)>2 ^ 24:=by decide
  simp only[Instr.buildSlice,fv,run_underlying aP,fD,ag,if_false,gj,bs,if_true,abt,g1,newRow,run_newObj];rfl
 ·rw[if_neg bs]at g1;simp only[Instr.buildSlice,fv,run_underlying aP,fD,ag,aA,if_false,gj,bs,wZ,g1,newRow,run_newObj];rfl
theorem BV{P:cy}{w:World}{ν:bc}{b7:jd}{t:fT}(aP:sL P b7 t){k v:ah}{gP LB:Value}(ab:a7 w ν k gP)(aK:a7 w ν v LB):
  ∀(borns:List Nat) (kvs:List ah) (us:List Value) (i:Nat) (r:aW (List ah)),cH w ν kvs us→kvs.length=2*borns.length→tK b7 k v kvs=some r→
  match r with
  |none=>hI P w b7 t gP (fq borns us) i none
  |some ve=> ∃j u cb e,hI P w b7 t gP (fq borns us) i (some (i+j,u))∧cH w ν ve cb∧ve.length=kvs.length∧(fq borns us)[j]? =some e∧e.key=gP∧Instr.sameBits 10000 e.key gP=true∧fq borns cb=(fq borns us).modify j (fun e=>{e with key:=gP,val:=LB})
 |[],[],us,i,r,h,_,hm=>by simp only[tK]at hm;cases hm;simp only[cH]at h;subst h;simpa[fq]using hI.nil P w b7 t gP i
 |[],_::_,_,_,_,_,au,_=>by simp at au
 |b::eF,[],_,_,_,_,au,_=>by simp at au
 |b::eF,[_],_,_,_,_,au,_=>by simp at au;omega
 |b::eF,bH::v'::kvs,us,i,r,h,au,hm=>by
  simp only[cH]at h;obtain⟨iA,Ll,rfl,J,iY,rq,rfl,U,al⟩:=h;simp only[tK]at hm;simp only[fq];cases bp:sb b7 k bH with
  |none=>simp[bp]at hm
  |some bb=>
   obtain⟨s1,s2⟩:=RE aP ab J bp;simp only[bp]at hm;cases bb with
   |true=>simp only[dz]at hm;subst hm;obtain⟨rfl,s3⟩:=s2 rfl;refine⟨0,iY,iA::LB::rq,⟨iA,iY,b⟩,hI.hit (e:=⟨iA,iY,b⟩) s1,?_,by simp,by simp,rfl,s3,by simp[fq]⟩;simp only[cH];exact⟨_,_,rfl,ab,_,_,rfl,aK,al⟩
   |false=>
    simp only at hm;have bM:=fun ev dx=>BV aP ab aK eF kvs rq (i+1) ev al (by simp at au;omega) dx;split at hm
    ·rename_i ev dx;cases hm;obtain⟨j,u,cb,e,g1,g2,g3,g4,g5,g6,g7⟩:=bM _ dx;refine⟨j+1,u,iA::iY::cb,e,hI.miss (e:=⟨iA,iY,b⟩) s1 (by rw[show i+(j+1)=i+1+j from by omega];exact g1),?_,by simp[g3],by simpa using g4,g5,g6,by simp[fq,g7]⟩;simp only[cH];exact⟨_,_,rfl,J,_,_,rfl,U,g2⟩
    ·rename_i dx;cases hm;exact hI.miss (e:=⟨iA,iY,b⟩) s1 (bM _ dx)
    ·cases hm
theorem Hl:∀(borns:List Nat) (us:List Value) (b:Nat) (k v:Value),us.length=2*borns.length→fq (borns++[b]) (us++[k,v])=fq borns us++[⟨k,v,b⟩]
 |[],us,b,k,v,h=>by have:us=[]:=List.eq_nil_of_length_eq_zero (by simpa using h);subst this;simp[fq]
 |bY::eF,[],b,k,v,h=>by simp at h
 |bY::eF,[_],b,k,v,h=>by simp at h;omega
 |bY::eF,bH::v'::us,b,k,v,h=>by simp only[bN,fq,Hl eF us b k v (by simp at h;omega)]
theorem KJ{w:World}{ν:bc}:∀{cm b1:List ah} {ba us:List Value},cH w ν cm ba→cH w ν b1 us→cH w ν (cm++b1) (ba++us)
 |[],b1,ba,us,h,cp=>by simp only[cH]at h;subst h;simpa using cp
 |p::cm,b1,ba,us,h,cp=>by simp only[cH]at h;obtain⟨u,cb,rfl,J,U⟩:=h;simp only[bN,cH];exact⟨u,_,rfl,J,KJ U cp⟩
theorem FD{w:World}{ν:bc}:∀{cm:List ah} {ba:List Value},cH w ν cm ba→ba.length=cm.length
 |[],ba,h=>by simp only[cH]at h;subst h;rfl
 |p::cm,ba,h=>by simp only[cH]at h;obtain⟨u,cb,rfl,_,U⟩:=h;simp[FD U]
theorem Cr{P:cy}{w:World}{r:Nat}{o o':Obj}(ae:w.heap[r]? =some o)(aA:∀c e f,o≠ .cells c e f:=by simp):(setObj r o').run P w= .ok () {w with heap:=w.heap.setIfInBounds r o'}:=by simp only[setObj,Sem.run,ae]
def ea.makes(st:bo):ea→Bool
 | .box _ _ _| .alloc _ _ _| .bsl _ _ _ _| .bslm _ _ _ _ _| .mkmap _ _| .range _ _ _| .mks _ _ _ _ _ _=>true
 | .appm _ _ _ _ x _=>match cg st.t x with
  | .slice _ .nil _=>true
  |_=>false
 | .app _ _ _ x _=>match cg st.t x with
  | .slice _ .nil _=>true
  |_=>false
 |_=>false
theorem cJ.forgetRow{C:e7}{st:bo}{a:Act}{w:World}{ν:bc}(aJ:cJ C st a w ν){k:aD}{ow:fF}(ab:look k st.e=some ow):cJ C {st with e:=cw k ⟨ow.n,ow.el,ow.sz,none⟩ st.e} a w ν:=by
 have hL:∀g,(look g (cw k ⟨ow.n,ow.el,ow.sz,none⟩ st.e)).isSome→(look g st.e).isSome:=fun g a1=>by
  rw[iw]at a1;split at a1
  ·rename_i e;subst e;simp[ab]
  ·exact a1
 refine⟨⟨aJ.good.alt,aJ.good.box,aJ.good.inj,fun g o a1=>?_,fun g e8 n n' v v' bl bz a2=>aJ.good.oinj g e8 n n' v v' bl (hL g bz) (hL e8 a2),fun g j n v bl bz=>aJ.good.obx g j n v bl (hL g bz),aJ.good.one,fun bl ae=>aJ.good.otr bl (ae.imp id (fun⟨g,n,v,bz,a2⟩=>⟨g,n,v,hL g bz,a2⟩))⟩,aJ.fr,aJ.defers,aJ.size,aJ.slot,aJ.new⟩;simp only at a1;rw[iw]at a1;split at a1
 ·rename_i e;subst e;cases a1;obtain⟨v,us,aZ,bB,bQ,_⟩:=aJ.good.own k ow ab;exact⟨v,us,aZ,bB,bQ,fun xs ad=>by cases ad⟩
 ·exact aJ.good.own g o a1
theorem Tc{w:World}{base el sz n:Nat}{v:Value}{us:List Value}(h:w.ownsRow base el sz v n us)(aA:0<n):∃b cap,v= .slice (some ⟨b,0,none⟩) n cap:=by
 rcases h.2 with⟨aj,aC⟩|⟨bb,cap,cur,f1,_⟩
 ·omega
 ·exact⟨_,_,f1⟩
theorem Fz{w:World}{ν:bc}{sz:Nat}:∀{xs:List ah} {us:List Value} {i:Nat} {q gr:ah} {e0:Value},dt w ν sz xs us→xs[i]? =some q→a7 w ν gr e0→e0.cells.size=sz→(∀c∈e0.cells.toList,c.oneCell'=true)→dt w ν sz (xs.set i gr) (us.take (i*sz)++e0.cells.toList++us.drop (i*sz+sz))
 |[],_,_,_,_,_,_,bp,_,_,_=>by simp at bp
 |x::xs,us,0,q,gr,e0,h,bp,aJ,ag,av=>by
  simp only[dt]at h;obtain⟨u,cb,rfl,⟨J,U,al⟩,bW⟩:=h;have au:u.cells.toList.length=sz:=by simpa using U
  simp only[List.set_cons_zero,dt];refine⟨e0,cb,?_,⟨aJ,ag,av⟩,bW⟩;simp[←au]
 |x::xs,us,i+1,q,gr,e0,h,bp,aJ,ag,av=>by
  simp only[dt]at h;obtain⟨u,cb,rfl,⟨J,U,al⟩,bW⟩:=h;have au:u.cells.toList.length=sz:=by simpa using U
  have bM:=Fz bW (by simpa using bp) aJ ag av;simp only[List.set_cons_succ,dt];refine⟨u,_,?_,⟨J,U,al⟩,bM⟩;have e:(i+1)*sz+sz=u.cells.toList.length+(i*sz+sz):=by rw[au,Nat.succ_mul];omega
  rw[UU _ _ _ _ au,e,←List.drop_drop];simp
theorem aih{w:World}{ν:bc}{q:ah}{v:Value}(bp:a7 w ν q v)(ag:dS q=true){cs:List ah}{us:List Value}(aw:c0 w ν cs us){f:Nat}(aI:f+us.length≤v.cells.size)(cC:us≠[]):
  ∃v',a7 w ν (l9 q f cs) v'∧v'.cells.toList=v.cells.toList.take f++us++v.cells.toList.drop (f+us.length)∧v'.cells.size=v.cells.size∧∀c∈v'.cells.toList,c.oneCell'=true:=by
 have hlen:=oR aw;have kX:=tV bp ag;by_cases bD:∃ey,q= .agg ey
 ·obtain⟨ey,rfl⟩:=bD;simp only[a7]at bp;obtain⟨ba,rfl,kp⟩:=bp;simp only[oU]at aI⊢;have j3:c0 w ν (nn ey f cs) (ba.toList.take f++us++ba.toList.drop (f+us.length)):=by unfold nn;rw[hlen];exact xx (xx (Cl f kp) aw) (zG _ kp)
  refine⟨.agg (ba.toList.take f++us++ba.toList.drop (f+us.length)).toArray,by simp only[l9,a7];exact⟨_,rfl,by simpa using j3⟩,by simp[oU],?_,fun c hj=>?_⟩
  ·simp[oU];omega
  ·exact zH j3 c (by simpa[oU]using hj)
 ·have mw:∀cs,q≠ .agg cs:=fun cs e=>bD ⟨cs,e⟩;obtain⟨J,U⟩:=KK bp ag mw;rw[U]at aI⊢;match us,cC,aw with
  |u::cb,_,aw=>
   simp at aI;obtain⟨rfl,rfl⟩:f=0∧cb=[]:=⟨by omega,List.length_eq_zero_iff.1 (by omega)⟩;match cs,aw,hlen with
   |[c],aw,_=>
    simp only[c0]at aw;obtain⟨vK,fm,aj,⟨H6,Qf⟩,_⟩:=aw;cases aj;have hu:u.cells= #[u]:=by cases u<;>first|rfl|cases Qf
    have yP:l9 q 0 [c]=c:=by cases q<;>first|rfl|exact absurd rfl (mw _)
    rw[yP];refine⟨u,H6,by simp[hu],by simp[hu],fun c hj=>?_⟩;rw[hu]at hj;simp at hj;subst hj;exact Qf
theorem aiS{α:Type}(A us:List α)(a f sz N:Nat)(J:f+us.length≤sz)(U:a+sz≤N)(al:N≤A.length):
  ((A.take (a+f)++us++A.drop (a+f+us.length)).toArray.toList).take N=(A.take N).take a++((((A.take N).drop a).take sz).take f++us++(((A.take N).drop a).take sz).drop (f+us.length))++(A.take N).drop (a+sz):=by
 have aj:(A.take N).take a++(((A.take N).drop a).take sz).take f=A.take (a+f):=by rw[List.take_take (i:=f),Nat.min_eq_left (show f≤sz by omega),←List.take_add,List.take_take,Nat.min_eq_left (by omega)]
 have aC:(((A.take N).drop a).take sz).drop (f+us.length)++(A.take N).drop (a+sz)=(A.take N).drop (a+f+us.length):=by
  have au:f+us.length≤(((A.take N).drop a).take sz).length:=by simp;omega
  have ff:(A.take N).drop (a+sz)=((A.take N).drop a).drop sz:=by rw[List.drop_drop]
  rw[ff,←List.drop_append_of_le_length au,List.take_append_drop,List.drop_drop];congr 1;omega
 have bg:(A.take N).drop (a+f+us.length)=(A.drop (a+f+us.length)).take (N-(a+f+us.length)):=by rw[List.drop_take]
 have au:(A.take (a+f)++us).length=a+f+us.length:=by simp;omega
 simp only[List.append_assoc]at*;rw[aC,bg,←List.append_assoc (ll a _),aj];have nJ:N=(A.take (a+f)++us).length+(N-(a+f+us.length)):=by rw[au];omega
 rw[←List.append_assoc,←List.append_assoc];conv=>lhs;rw[nJ,List.take_length_add_append]
theorem cJ.storeRow{P:cy}{C:e7}{st:bo}{a:Act}{w:World}{ν:bc}(h:cJ C st a w ν){k:aD}{n el sz:Nat}{xs:List ah}(ab:look k st.e=some ⟨n,el,sz,some xs⟩){i f:Nat}{u:Value}(ad:a7 w ν (.rptr sz k n i f) u){q:ah}(bp:xs[i]? =some q)(ag:dS q=true)
  {cs:List ah} {us:List Value} (aw:c0 w ν cs us) (aI:f+us.length≤(cells q).length) (cC:us≠[]):
  ∃bl off lP,u= .pointer (some ⟨bl,off,none⟩)∧(storeCells ⟨bl,off,none⟩ us).run P w= .ok () (w.setRow bl lP)∧∃bn,cJ C {st with e:=cw k ⟨n,el,sz,some (xs.set i (l9 q f cs))⟩ st.e} a (w.setRow bl lP) bn:=by
 simp only[a7]at ad;obtain⟨_,hi,n',e0,J,U,al⟩:=ad;obtain⟨v,fm,aZ,bB,bQ,cS⟩:=h.good.own k _ ab;rw[J]at aZ;simp only[dz,jb]at aZ;obtain⟨rfl,rfl⟩:=aZ;obtain⟨bl,ae,rfl⟩:=al rfl;obtain⟨c6,nl,tP⟩:=cS xs rfl;simp only at c6 nl;obtain⟨v,dC,e6,kr⟩:=Fx i nl bp;have yy:=oR (tV dC ag);have acQ:(cells q).length=sz:=by rw[←yy];simpa using e6
 have Qp:f+us.length≤sz:=by rw[←acQ];exact aI
 have hmul:i*sz+sz≤n'*sz:=by have:=Nat.mul_le_mul_right sz (show i+1≤n' from hi);rwa[Nat.succ_mul]at this
 rcases bB.2 with⟨aj,aC⟩|⟨g,cap,cur,rfl,uK,Ii,Iq,abQ,dj,Q2⟩
 ·rw[aj]at ae;simp[nx]at ae
 simp only[nx,dz]at ae;subst ae;simp only at Q2 dj Iq Ii;have yx:n'*sz≤cur.size:=by rw[dj];exact Nat.mul_le_mul_right sz Iq
 have c9:=run_storeCells_at P g (i*sz+f) el us 0 cur w Ii (by omega) (zH aw);simp only[Nat.add_zero]at c9;refine⟨g,i*sz+f,_,rfl,c9,?_⟩;generalize wD:(cur.toList.take (i*sz+f)++us++cur.toList.drop (i*sz+f+us.length)).toArray=lP;obtain⟨v',cL,dm,iy,tM⟩:=aih dC ag aw (f:=f) (by rw[e6];exact Qp) cC;have lX:=Fz nl bp cL (by rw[iy,e6]) tM;have hlen:fm.length=n'*sz:=bB.1;have acD:lP.toList.take (n'*sz)=fm.take (i*sz)++v'.cells.toList++fm.drop (i*sz+sz):=by rw[←wD,dm,kr,←Q2];exact aiS cur.toList us (i*sz) f sz (n'*sz) Qp hmul (by simpa using yx)
 have abS:lP.size=cap*sz:=by rw[←wD,←dj];simp;omega
 have amk:(xs.set i (l9 q f cs)).length=n':=by simp[c6]
 obtain⟨ag0,_,_⟩:=h.setRowM (w':=w.setRow g lP) ab rfl J (bl:=g) rfl (v':= .slice (some ⟨g,0,none⟩) n' cap) rfl (xs':=xs.set i (l9 q f cs)) (us:=fm.take (i*sz)++v'.cells.toList++fm.drop (i*sz+sz)) (.inl ⟨by simp[c6],rfl⟩) rfl rfl rfl (fun j af=>setRow_other w g j lP af) (setRow_size w g lP)
  ⟨by rw[sq lX],.inr ⟨g,cap,lP,by simp[c6],Nat.zero_le _,setRow_heap w g cur lP el _ Ii,by simpa[c6]using Iq,abQ,abS,by simpa[c6]using acD⟩⟩ lX
 exact⟨_,by simpa[c6]using ag0⟩
theorem ael(z:Array Value)(n:Nat)(h:0<z.size):(madeCells z ((n+1)*z.size)).toList=z.toList++(madeCells z (n*z.size)).toList:=by
 apply List.ext_getElem?;intro j;rw[List.getElem?_append];have he:(n+1)*z.size=n*z.size+z.size:=by rw[oZ,Nat.one_mul]
 simp only[madeCells,sG,Array.length_toList,Array.getElem?_map];by_cases af:j<z.size
 ·rw[if_pos af,Array.getElem?_range,if_pos (by omega)];simp[Nat.mod_eq_of_lt af,af]
 ·rw[if_neg af,Array.getElem?_range,Array.getElem?_range];by_cases ab:j<n*z.size+z.size
  ·rw[if_pos (by omega),if_pos (by omega)];simp only[ny];rw[←Nat.mod_eq_sub_mod (by omega)]
  ·rw[if_neg (by omega),if_neg (by omega)]
theorem Sk{w:World}{ν:bc}{p:ah}{z:Value}(aJ:a7 w ν p z)(h:0<z.cells.size)(av:∀c∈z.cells.toList,c.oneCell'=true):∀n,dt w ν z.cells.size (qp n p) (madeCells z.cells (n*z.cells.size)).toList
 |0=>by simp[dt,madeCells]
 |n+1=>by rw[ael _ _ h];simp only[List.replicate_succ,dt];exact⟨z,_,rfl,⟨aJ,rfl,av⟩,Sk aJ h av n⟩
theorem jr{P:cy}{bt:List (Nat×dB)}(aO:fN P bt=true){C:e7}{st st':bo}{a:Act}{w:World}{ν:bc}(aJ:cJ C st a w ν){i:ea}{o:Oper}(av:Cs C.N bt i o=true)
  {κ:aD} {n':Nat} {o₁:List aD} (th:i.makes st=true→fresh st.n st.o κ) (de:i.makes st=true→∀j,fresh n' o₁ j→fresh st.n st.o j∧j≠κ) {c:Prop} (he:er κ n' o₁ st i=some (c,st')) (aw:c) {K:Act→World→Prop} {Q:Exit→Act→World→Prop} (c4:∀bj w' bn,cJ C st' bj w' bn→K bj w'):o.wp P a w K Q:=by
 obtain⟨dst,op,type,pos,after,guard⟩:=o;unfold Cs at av;dsimp only at av;split at av
 ·rename_i d key t;simp only[cA,dG,fx]at av;obtain⟨rfl,U⟩:=av;simp only[er]at he;cases he;obtain⟨g1,g2⟩:=aJ.newBox (aJ.new _ (th rfl)) (de rfl) (cs:=[.hdm 0 []]) (us:= #[]) 0 (by simp only[iM];exact⟨by simp[cH],⟨rfl,by simp,by simp⟩⟩);refine lJ (v:= .map (some w.heap.size)) (w':=w.alloc (.map #[] 0)) ?_ (c4 _ _ _ (g1.put (d:=some d) (by simpa[iS]using U) (p:= .gmap κ) ?_))
  ·simp only[execOp,Instr.makeMap,Option.map_none,fv,run_newObj,fD,gj];rfl
  ·simp[a7,bc.withBox]
 ·rename_i b7 x k v t gF gy pz;simp only[cA,dG]at av;obtain⟨⟨⟨⟨rfl,J⟩,U⟩,al⟩,a6⟩:=av;have rx:=dZ aJ U;have tY:=dZ aJ al;have xD:=dZ aJ a6;split at J
  ·rename_i sz kC l5 oC z aI;obtain⟨cD,hu,eR⟩:=iz aO aI;have rW:cD= .map l5 oC:=by cases cD<;>simp[jJ]at eR;obtain⟨rfl,rfl⟩:=eR;rfl
   subst rW;have lu:=Ja aO J;simp only[er]at he;split at he
   ·rename_i m ad;rw[ad]at rx;simp only[a7]at rx;obtain⟨bl,b9,bZ⟩:=rx;split at he
    ·rename_i cs dj;split at he
     ·rename_i cs' hm;cases he;obtain⟨h3,us,el,aZ,bB,bQ,cS,c6⟩:=aJ.good.box m cs dj;rw[b9]at aZ;cases aZ;unfold nX at hm;split at hm
      ·rename_i clock borns kvs;split at hm
       ·cases hm
       rename_i uQ;simp only[jq]at cS;simp only[iM]at c6;have gN:=ua (P:=P) cS;have uL:=KN (P:=P) (w:=w) lu false tY (by simpa using uQ);have bu:bl<w.heap.size:=(Array.getElem?_eq_some_iff.1 cS).1;have dw:∀(o':Obj) (cb:Array Value) (ey:List ah),(Instr.mapUpdate t (a.eval gF) (a.eval gy) (a.eval pz)).run P w= .ok () {w with heap:=w.heap.setIfInBounds bl o'}→jq ey cb el=o'→iM w ν ey cb.toList→some ey=some cs'→
         (⟨none,.mapUpdate t gF gy pz,type,pos,after,guard⟩:Oper).wp P a w K Q:=by
        intro o' cb ey iu Bi lX im;cases im;refine CN (w':={w with heap:=w.heap.setIfInBounds bl o'}) ?_ (c4 _ _ _ (aJ.setBox (w':={w with heap:=w.heap.setIfInBounds bl o'}) dj b9 (us:=cb) (el:=el) rfl rfl rfl (fun j af=>?_) (by simp) ?_ lX).1)
        ·simp only[execOp,iu,fv,fD,gj]
        ·exact Array.getElem?_setIfInBounds_ne (ky af)
        ·rw[Bi];simp[bu]
       split at hm
       ·rename_i ve tp;obtain⟨j,u,cb,e,f1,f2,f3,f4,f5,f6,f7⟩:=BV lu tY xD borns kvs us.toList 0 _ c6.1 c6.2.len tp;refine dw (.map (fq borns cb).toArray clock) cb.toArray (.hdm clock borns::ve) ?_ (by simp[jq]) (by simp only[iM];exact⟨by simpa using f2,⟨by rw[f3];exact c6.2.len,c6.2.inc,c6.2.lt⟩⟩) hm;have IH:(Instr.keyThatStays (((fq borns us.toList).toArray[j]?.map (·.key)).getD (a.eval gy)) (a.eval gy)).run P w= .ok (a.eval gy) w:=by
         have:((fq borns us.toList).toArray[j]?.map (·.key)).getD (a.eval gy)=e.key:=by simp[f4]
         rw[this];simp[Instr.keyThatStays,f6]
        simp only[Nat.zero_add]at f1;simp only[Instr.mapUpdate,fv,run_underlying hu,fD,bZ,gN,uL,f1.run lu,gj,IH,Cr cS];rw[f7];simp
       ·rename_i tp;have f1:=BV lu tY xD borns kvs us.toList 0 _ c6.1 c6.2.len tp;simp only at f1;have qW:us.toList.length=2*borns.length:=by rw[FD c6.1,c6.2.len]
        refine dw (.map ((fq borns us.toList).toArray.push ⟨a.eval gy,a.eval pz,clock⟩) (clock+1)) (us.toList++[a.eval gy,a.eval pz]).toArray (.hdm (clock+1) (borns++[clock])::(kvs++[cg st.t k,cg st.t v])) ?_ (by simp only[jq,Hl borns us.toList clock _ _ qW];simp) ?_ hm
        ·simp only[Instr.mapUpdate,fv,run_underlying hu,fD,bZ,gN,uL,f1.run lu,gj,Cr cS]
        ·simp only[iM];refine⟨KJ c6.1 (by simp only[cH];exact⟨_,_,rfl,tY,_,_,rfl,xD,rfl⟩),⟨by simp[c6.2.len];omega,?_,?_⟩⟩
         ·rw[List.pairwise_append];exact⟨c6.2.inc,by simp,fun x ad y aL=>by simp at aL;subst aL;exact c6.2.lt x ad⟩
         ·intro b ae;rcases ki.1 ae with ae|ae
          ·have:=c6.2.lt b ae;omega
          ·simp at ae;omega
       ·cases hm
      ·cases hm
     ·cases he
    ·cases he
   ·cases he
  ·cases J
 ·rename_i b7 x k v t gF gy pz;simp only[cA,dG]at av;obtain⟨⟨⟨⟨rfl,J⟩,U⟩,al⟩,a6⟩:=av;have rx:=dZ aJ U;have tY:=dZ aJ al;have xD:=dZ aJ a6;split at J
  ·rename_i sz kC l5 oC z aI;obtain⟨cD,hu,eR⟩:=iz aO aI;have rW:cD= .map l5 oC:=by cases cD<;>simp[jJ]at eR;obtain⟨rfl,rfl⟩:=eR;rfl
   subst rW;have lu:=Ja aO J;simp only[er]at he;split at he
   ·rename_i m ad;rw[ad]at rx;simp only[a7]at rx;obtain⟨bl,b9,bZ⟩:=rx;split at he
    ·rename_i cs dj;split at he
     ·rename_i cs' hm;cases he;obtain⟨h3,us,el,aZ,bB,bQ,cS,c6⟩:=aJ.good.box m cs dj;rw[b9]at aZ;cases aZ;unfold nX at hm;split at hm
      ·rename_i clock borns kvs;split at hm
       ·cases hm
       rename_i uQ;simp only[jq]at cS;simp only[iM]at c6;have gN:=ua (P:=P) cS;have uL:=KN (P:=P) (w:=w) lu false tY (by simpa using uQ);have bu:bl<w.heap.size:=(Array.getElem?_eq_some_iff.1 cS).1;have dw:∀(o':Obj) (cb:Array Value) (ey:List ah),(Instr.mapUpdate t (a.eval gF) (a.eval gy) (a.eval pz)).run P w= .ok () {w with heap:=w.heap.setIfInBounds bl o'}→jq ey cb el=o'→iM w ν ey cb.toList→some ey=some cs'→
         (⟨none,.mapUpdate t gF gy pz,type,pos,after,guard⟩:Oper).wp P a w K Q:=by
        intro o' cb ey iu Bi lX im;cases im;refine CN (w':={w with heap:=w.heap.setIfInBounds bl o'}) ?_ (c4 _ _ _ (aJ.setBox (w':={w with heap:=w.heap.setIfInBounds bl o'}) dj b9 (us:=cb) (el:=el) rfl rfl rfl (fun j af=>?_) (by simp) ?_ lX).1)
        ·simp only[execOp,iu,fv,fD,gj]
        ·exact Array.getElem?_setIfInBounds_ne (ky af)
        ·rw[Bi];simp[bu]
       split at hm
       ·rename_i ve tp;obtain⟨j,u,cb,e,f1,f2,f3,f4,f5,f6,f7⟩:=BV lu tY xD borns kvs us.toList 0 _ c6.1 c6.2.len tp;refine dw (.map (fq borns cb).toArray clock) cb.toArray (.hdm clock borns::ve) ?_ (by simp[jq]) (by simp only[iM];exact⟨by simpa using f2,⟨by rw[f3];exact c6.2.len,c6.2.inc,c6.2.lt⟩⟩) hm;have IH:(Instr.keyThatStays (((fq borns us.toList).toArray[j]?.map (·.key)).getD (a.eval gy)) (a.eval gy)).run P w= .ok (a.eval gy) w:=by
         have:((fq borns us.toList).toArray[j]?.map (·.key)).getD (a.eval gy)=e.key:=by simp[f4]
         rw[this];simp[Instr.keyThatStays,f6]
        simp only[Nat.zero_add]at f1;simp only[Instr.mapUpdate,fv,run_underlying hu,fD,bZ,gN,uL,f1.run lu,gj,IH,Cr cS];rw[f7];simp
       ·rename_i tp;have f1:=BV lu tY xD borns kvs us.toList 0 _ c6.1 c6.2.len tp;simp only at f1;have qW:us.toList.length=2*borns.length:=by rw[FD c6.1,c6.2.len]
        refine dw (.map ((fq borns us.toList).toArray.push ⟨a.eval gy,a.eval pz,clock⟩) (clock+1)) (us.toList++[a.eval gy,a.eval pz]).toArray (.hdm (clock+1) (borns++[clock])::(kvs++[cg st.t k,cg st.t v])) ?_ (by simp only[jq,Hl borns us.toList clock _ _ qW];simp) ?_ hm
        ·simp only[Instr.mapUpdate,fv,run_underlying hu,fD,bZ,gN,uL,f1.run lu,gj,Cr cS]
        ·simp only[iM];refine⟨KJ c6.1 (by simp only[cH];exact⟨_,_,rfl,tY,_,_,rfl,xD,rfl⟩),⟨by simp[c6.2.len];omega,?_,?_⟩⟩
         ·rw[List.pairwise_append];exact⟨c6.2.inc,by simp,fun x ad y aL=>by simp at aL;subst aL;exact c6.2.lt x ad⟩
         ·intro b ae;rcases ki.1 ae with ae|ae
          ·have:=c6.2.lt b ae;omega
          ·simp at ae;omega
       ·cases hm
      ·cases hm
     ·cases he
    ·cases he
   ·cases he
  ·cases J
 ·rename_i d key x t gF;simp only[cA,dG,fx]at av;obtain⟨⟨⟨rfl,U⟩,J⟩,al⟩:=av;have rx:=dZ aJ al;split at J
  ·rename_i sz kC l5 oC z aI;obtain⟨cD,hu,eR⟩:=iz aO aI;have rW:cD= .map l5 oC:=by cases cD<;>simp[jJ]at eR;obtain⟨rfl,rfl⟩:=eR;rfl
   subst rW;simp only[er]at he;split at he
   ·rename_i m ad;rw[ad]at rx;have aim:=rx;simp only[a7]at rx;obtain⟨bl,b9,bZ⟩:=rx;split at he
    ·rename_i cs dj;split at he
     ·rename_i cs' hm;cases he;obtain⟨h3,us,el,aZ,bB,bQ,cS,c6⟩:=aJ.good.box m cs dj;rw[b9]at aZ;cases aZ;unfold vw at hm;split at hm
      ·rename_i clock borns kvs;cases hm;simp only[jq]at cS;have gN:=ua (P:=P) cS;obtain⟨g1,g2⟩:=aJ.newBox (aJ.new _ (th rfl)) (de rfl) (cs:=[.hdi clock [] clock,.gmap m]) (us:= #[a.eval gF]) 0 (by simp only[iM,cH];exact⟨_,_,rfl,aim,rfl⟩);have Bi:jq [.hdi clock [] clock,.gmap m] #[a.eval gF] 0= .mapIter (some bl) clock #[] clock:=by simp[jq,bZ]
       rw[Bi]at g1 g2;refine lJ (v:= .pointer (some ⟨w.heap.size,0,none⟩)) (w':=w.alloc (.mapIter (some bl) clock #[] clock)) ?_ (c4 _ _ _ (g1.put (d:=some d) (by simpa[iS]using U) (p:= .ptr κ 0) g2))
       ·simp only[execOp];refine CH ?_;simp only[Instr.range,fv,run_underlying hu,fD,bZ,gN,gj,run_newObj];rfl
      ·cases hm
     ·cases he
    ·cases he
   ·cases he
  ·cases J
 ·rename_i d aps;simp only[cA,dG,fx]at av;obtain⟨⟨J,U⟩,al⟩:=av;subst J;simp only[er]at he;split at he
  ·rename_i ch p aK;cases he;obtain⟨v,g1,g2⟩:=ajm (o:=⟨some d,op,type,pos,after,guard⟩) aO aJ al aK aw;refine lJ g1 (c4 _ _ ν ?_);exact aJ.put (d:=some d) (by simpa[iS]using U) g2
  ·cases he
 ·rename_i d key x el o';simp only[cA,dG,fx]at av;obtain⟨⟨J,U⟩,al⟩:=av;subst J;simp only[er]at he;cases he;have ad:=dZ aJ al;have k1:=tV ad aw;obtain⟨g1,g2⟩:=aJ.newBox (aJ.new _ (th rfl)) (de rfl) el (by rw[tO (zI k1)];exact k1);rw[tN (zI k1)]at g1 g2;refine lJ (v:= .pointer (some ⟨w.heap.size,0,none⟩)) (w':=w.alloc (.cells (a.eval o').cells el)) ?_ (c4 _ _ _ (g1.put (d:=some d) (by simpa[iS]using U) (p:= .ptr κ 0) ?_))
  ·simp only[execOp,Instr.box,newVar,newRow,fv,run_newObj,fD,gj];rfl
  ·simpa only[a7]using g2
 ·rename_i d key z el;simp only[cA,dG,fx]at av;obtain⟨⟨J,U⟩,al⟩:=av;subst J;simp only[er]at he;cases he;split at al
  ·rename_i f aI;have bC:=LK al;obtain⟨b0,kv,z2,z3⟩:=Lg aO aI w;rw[←bC]at z2;obtain⟨_,k1⟩:=LJ w ν z2;obtain⟨g1,g2⟩:=aJ.newBox (aJ.new _ (th rfl)) (de rfl) el (by rw[tO (zI k1)];exact k1);rw[tN (zI k1)]at g1 g2;refine lJ (v:= .pointer (some ⟨w.heap.size,0,none⟩)) (w':=w.alloc (.cells b0.cells el)) ?_ (c4 _ _ _ (g1.put (d:=some d) (by simpa[iS]using U) (p:= .ptr κ 0) ?_))
   ·simp only[execOp,Instr.alloc,newVar,newRow,fv,kv,run_newObj,fD,gj];rfl
   ·simpa only[a7]using g2
  ·cases al
 ·rename_i sz x y t o' iL;simp only[cA,dG]at av;obtain⟨⟨⟨J,U⟩,al⟩,a6⟩:=av;subst J;split at U
  ·rename_i f aI;simp only[dG]at U;simp only[er]at he;split at he
   ·rename_i k off ad;split at he
    ·rename_i cs dj;cases he;obtain⟨ij,bE,cc,c8⟩:=aw;have rx:=dZ aJ al;rw[ad]at rx;simp only[a7]at rx;obtain⟨bl,b9,bZ⟩:=rx;have lf:=dZ aJ a6;have tT:=tV lf bE;have tZ:=oR tT;obtain⟨h3,us,el,aZ,bB,bQ,cS,c6⟩:=aJ.good.box k cs dj;rw[b9]at aZ;cases aZ;rw[tN ij]at cS;rw[tO ij]at c6;have ax:=oR c6;obtain⟨_,dW⟩:=ue aO aI w;have tt:(a.eval iL).cells.size=sz:=by rw[cc]at tZ;simpa using tZ
     have c9:=run_storeCells_at (P:=P) bl off el (a.eval iL).cells.toList 0 us w cS (by simp at ax⊢;omega) (zH tT);simp only[Nat.add_zero]at c9;refine CN (w':=w.setRow bl (us.toList.take off++(a.eval iL).cells.toList++us.toList.drop (off+(a.eval iL).cells.toList.length)).toArray) ?_ (c4 _ _ _ (aJ.storeBox dj b9 ij ?_))
     ·simp only[execOp,Instr.storeAt,bZ,Instr.sureAddr,storeVar,fv,gj,fD,dW,tt,U,ne_eq,not_true_eq_false,if_false,c9]
     ·simp only[nn];rw[tZ];exact xx (xx (Cl off c6) tT) (zG _ c6)
    ·cases he
   ·rename_i ad;generalize Iw:cg st.t x=px at he;unfold qj at he;split at he
    ·rename_i dy k n i rQ;split at he
     ·rename_i n' el iO xs ab;split at he
      ·rename_i Bh;obtain⟨rfl,rfl⟩:=Bh;split at he
       ·rename_i q bp;cases he;obtain⟨ij,bE,cc,c8,h4⟩:=aw;have rx:=dZ aJ al;rw[Iw]at rx;have lf:=dZ aJ a6;have tT:=tV lf bE;have tZ:=oR tT;obtain⟨_,dW⟩:=ue aO aI w;have tt:(a.eval iL).cells.size=sz:=by rw[cc]at tZ;simpa using tZ
        obtain⟨bl,off,lP,Bm,c9,bn,pa⟩:=aJ.storeRow (P:=P) ab rx bp ij tT (by simpa[tt]using c8) (fun e=>by have:=e1 List.length e;simp[tt]at this;omega);refine CN (w':=w.setRow bl lP) ?_ (c4 _ _ _ pa);simp only[execOp,Instr.storeAt,Bm,Instr.sureAddr,storeVar,fv,gj,fD,dW,tt,U,ne_eq,not_true_eq_false,if_false,c9]
       ·cases he
      ·cases he
     ·cases he
    ·cases he
  ·cases U
 ·rename_i d sz el xs t len parts;simp only[cA,dG,fx]at av;obtain⟨⟨⟨⟨⟨⟨J,U⟩,al⟩,a6⟩,bW⟩,c3⟩,dV⟩:=av;subst J;subst bW;split at al
  ·rename_i fJ aI;simp only[dG]at al;subst al;split at a6
   ·rename_i g a1;simp only[cA,dG,fx]at a6;obtain⟨rfl,fj⟩:=a6;simp only[er]at he;cases he;obtain⟨us,g1,g2,g3⟩:=Up aO aJ aI rfl a1 dV aw c3;have k3:(w.alloc (.cells us el)).ownsRow w.heap.size el g.size (.slice (some ⟨w.heap.size,0,none⟩) xs.length xs.length) (xs.map (cg st.t)).length us.toList:=by
     refine⟨by simp[g3],.inr ⟨w.heap.size,xs.length,us,by simp,eQ _,heap_alloc_new w _,by simp,?_,g3,?_⟩⟩
     ·simp only[maxLen];have:xs.length≤xs.length*g.size:=Nat.le_mul_of_pos_right _ fj;omega
     ·rw[hq];simp[g3]
    obtain⟨dC,e6⟩:=aJ.newRow (k:=κ) (xs:=xs.map (cg st.t)) (.inl (aJ.new _ (th rfl))) (World.grownBy_alloc w _ none) k3 g2
     (by have:xs.length≤xs.length*g.size:=Nat.le_mul_of_pos_right _ fj;simp only[lim,List.length_map];omega) (de rfl)
    simp only[List.length_map]at dC e6;refine lJ (v:= .slice (some ⟨w.heap.size,0,none⟩) xs.length xs.length) (w':=w.alloc (.cells us el)) ?_ (c4 _ _ _ (dC.put (d:=some d) (by simpa[iS]using U) (p:= .slice g.size (.own κ) (xs.map (cg st.t))) e6));have bF:(parts.map fun(x:Nat×Operand)=>(x.1,a.eval x.2))=(parts.toList.map fun(x:Nat×Operand)=>(x.1,a.eval x.2)).toArray:=by apply Array.ext';simp
    simp only[execOp];refine CH ?_;rw[←g1];congr 2
   ·cases a6
  ·cases al
 ·rename_i d sz el x y o' iL t dD;simp only[cA,dG,fx]at av;obtain⟨⟨⟨⟨⟨⟨J,U⟩,al⟩,a6⟩,bW⟩,c3⟩,dV⟩:=av;subst J;subst al;split at a6
  ·rename_i fJ aI;simp only[dG]at a6;subst a6;split at bW
   ·rename_i g a1;simp only[cA,dG,fx]at bW;obtain⟨⟨rfl,fj⟩,hby⟩:=bW;have rx:=dZ aJ c3;have lf:=dZ aJ dV;have lU:∀v' w',(Builtin.append_ #[t,t] type #[a.eval o',a.eval iL]).run P w= .ok v' w'→(execOp a.eval ⟨some d,.call ⟨.builtin .append,⟨[o',iL]⟩,⟨[t,t]⟩⟩,type,pos,after,guard⟩).run P w= .ok (.value v') w':=by intro v' w' iu;simp only[execOp,resolve,invoke,builtin,fv,gj,fD,List.map_toArray,gX,List.map_nil];rw[iu];rfl
    obtain⟨fl,b6,z,aj,aC,bg,da,gL,hz,qu,qv⟩:=(uf aO a1).ex;obtain⟨ey,im,eR⟩:=iz aO aI;obtain rfl:=rL eR;simp only[er]at he;split at he
    ·rename_i dy tag xs iO ks ys ad aL;split at he
     ·rename_i e4;obtain⟨rfl,e4⟩:=e4;subst e4;rw[ad]at rx;rw[aL]at lf;simp only[a7]at rx lf;obtain⟨⟨sT,oy,rs,cx1,⟨OH,OI⟩,cx4⟩,rxn,rxo,rxt⟩:=rx;obtain⟨⟨mW,kV,vy,cy1,⟨OJ,OK⟩,cy4⟩,_⟩:=lf;split at he
      ·rename_i k;split at he
       ·rename_i ow ab;cases he;obtain⟨bE,cc,c8,h4⟩:=aw;subst cc;obtain⟨n0,vK,dC,e6,kr⟩:=rxo k rfl;obtain⟨v0,fm,aZ,bB,bQ,_⟩:=aJ.good.own k ow ab;rw[dC]at aZ;simp only[dz,jb]at aZ;obtain⟨rfl,rfl⟩:=aZ;have mE:a.eval o'=vK:=kr bE.symm;by_cases iG:ys=[]
        ·subst iG;rw[vy,rs]at lU;have iu:=FI (P:=P) (w:=w) (ty:=type) im aj sT xs.length oy cx1 mW kV;refine lJ (lU _ _ (by simpa using iu)) (c4 _ _ ν ?_);have c9:{st with t:=put d (.slice ow.sz (.own k) (xs++[])) st.t,e:=cw k ⟨xs.length+([]:List ah).length,ow.el,ow.sz,none⟩ st.e}=({st with e:=cw k ⟨ow.n,ow.el,ow.sz,none⟩ st.e,t:=put d (.slice ow.sz (.own k) xs) st.t}:bo):=by simp[bE]
         rw[←c8,c9];have lW:=aJ.forgetRow ab;refine lW.put (d:=some d) (by simpa[iS]using U) (p:= .slice ow.sz (.own k) xs) ?_;simp only[a7];rw[←c8]at cx4;exact⟨⟨sT,oy,rfl,cx1,⟨OH,OI⟩,cx4⟩,fun e=>(by cases e),(fun g e=>by cases e;exact⟨_,_,dC,e6,fun e=>by rw[←rs];exact kr e⟩),fun _ _ e=>(by cases e),fun _ e=>(by cases e)⟩
        ·have hyp:0<ys.length:=by cases ys<;>simp at iG⊢
         rcases cy4 with cy4|⟨kC,mL,gT,rfl,xd,lQ⟩
         ·exact absurd cy4 iG
         ·have jj:=sq lQ;have qS:∀j u,gT[j]? =some u→w.cell? ((⟨kC,mL,none⟩:Addr).add j)=some u:=fun j u af=>by rw[oq];exact(tE xd af).2
          have qM:(xs.length+ys.length)*fl.bytes≤140737488355328:=by
           have kY:fl.bytes≤2048:=by rw[da];exact hby
           have oH:(xs.length+ys.length)*fl.bytes≤(xs.length+ys.length)*2048:=Nat.mul_le_mul_left _ kY;simp only[lim]at h4;omega
          have lV:xs.length+ys.length≤maxLen:=by simp only[lim]at h4;simp only[maxLen];omega
          rw[vy]at lU;have u0:fm.length=ow.n*ow.sz:=bB.1;have u3:z.cells.size=fl.size:=by rw[qv,bg]
          have A7:(∀cur,eI→cur=(0:Nat))→(∃v' w',(Builtin.append_ #[t,t] type #[a.eval o',.slice (some ⟨kC,mL,none⟩) ys.length kV]).run P w= .ok v' w'∧w'.ownsRow w.heap.size ow.el fl.size v' (xs.length+ys.length) (fm++gT)∧w.grownBy w' none∧dt w ν fl.size xs fm)→
            (⟨some d,.call ⟨.builtin .append,⟨[o',iL]⟩,⟨[t,t]⟩⟩,type,pos,after,guard⟩:Oper).wp P a w K Q:=by
           intro _ cI;obtain⟨v',w',f1,f2,f3,f4⟩:=cI;have DV:dt w ν fl.size (xs++ys) (fm++gT):=Cj f4 (by rw[bg];exact lQ);obtain⟨cL,dm⟩:=aJ.newRow (k:=k) (xs:=xs++ys) (.inr ⟨ow,ab,by rw[bE];simp;omega⟩) f3 (by simpa using f2) DV (by simpa using h4) (n':=st.n) (o':=st.o)
            (fun j af=>⟨af,fun e=>by subst e;have:=(aJ.new _ af).2.1;rw[dC]at this;cases this⟩)
           refine lJ (lU _ _ f1) (c4 _ _ ((ν.withOwn k (xs++ys).length v').withRowOf k v' (xs++ys).length ((xs++ys).length*fl.size)) ?_);have:=cL.put (d:=some d) (by simpa[iS]using U) dm;simpa[bg,eC]using this
          rcases bB.2 with⟨mM,xr⟩|⟨bl,cap,cur,mM,xr,zv,J9,Ka,Kb,Fa⟩
          ·
           have yW:xs=[]:=List.eq_nil_of_length_eq_zero (by omega);have IL:fm=[]:=List.eq_nil_of_length_eq_zero (by rw[u0,xr];simp);subst yW;subst IL;refine A7 (fun _ h=>h.elim) ?_;obtain⟨v',w',f1,f2,f3,_⟩:=run_append_own (P:=P) w w.heap.size t type ow.el fl z fl.size fl.bytes im aj hz rfl rfl u3 (by rw[bg];exact fj) (.slice none 0 0) 0 [] (World.ownsRow_nil w _ _ _)
            ⟨kC,mL,none⟩ ys.length kV gT (by rw[jj,bg]) qS (xw lQ) (by simpa using lV) (by simpa using qM) (eQ _)
           refine⟨v',w',by rw[mE,mM];exact f1,by simpa using f2,by simpa[nx]using f3,by simp[dt]⟩
          ·have acp:k8 w ν.A bl 0 fm∧dt w ν fl.size xs fm∧True:=by
            rw[mE,mM]at rs;rcases cx4 with cx4|⟨bb,an3,Lm,f1,f2,f3⟩
            ·subst cx4;have:fm=[]:=List.eq_nil_of_length_eq_zero (by rw[u0,bE];simp);subst this;exact⟨trivial,by simp[dt],trivial⟩
            ·subst f1;injection rs with vx1 vx2 vx3;injection vx1 with vx1;injection vx1 with vx1 vx4;subst vx1;subst vx4;have heq:Lm=fm:=by
              apply List.ext_getElem?;intro j;have qW:Lm.length=fm.length:=by rw[sq f3,u0,bE,c8]
              by_cases af:j<Lm.length
              ·have J:=(tE f2 (ca af)).2;rw[Nat.zero_add]at J;have U:=bB.cells (g:=bl) (by rw[mM];rfl) j fm[j] (ca (by omega));rw[oq,Nat.zero_add,J]at U;rw[ca af,ca (by omega)];exact U
              ·rw[pJ (by omega),pJ (by omega)]
             subst heq;exact⟨f2,by rw[bg];exact f3,trivial⟩
           obtain⟨wM,nN,_⟩:=acp;by_cases qT:xs.length+ys.length≤cap
           ·have amf:cur.size=cap*ow.sz:=Kb;have hmul:(xs.length+ys.length)*ow.sz≤cap*ow.sz:=Nat.mul_le_mul_right _ qT;rw[oZ]at hmul;have f1:=run_append_room (P:=P) w t type ow.el fl im aj bl xs.length cap cur zv ⟨kC,mL,none⟩ ys.length kV gT (by rw[jj,bg]) qS (xw lQ) qT (by rw[jj,bg,←c8];omega);obtain⟨cL,dm⟩:=aJ.inPlace ab (bl:=bl) (cap:=cap) (cur:=cur) (by rw[dC,←mM]) zv Ka Kb (xs:=xs) (ys:=ys) (us:=fm) (ns:=gT) bE.symm Fa (by rw[c8,←bg];exact nN) (by rw[c8];exact lQ) hyp (by rw[bE];exact qT) h4;refine lJ (v:= .slice (some ⟨bl,0,none⟩) (ow.n+ys.length) cap) (w':=w.setRow bl (fm++gT++cur.toList.drop (ow.n*ow.sz+gT.length)).toArray) (lU _ _ ?_)
             (c4 _ _ (ν.withRowOf k (.slice (some ⟨bl,0,none⟩) (ow.n+ys.length) cap) (ow.n+ys.length) ((ow.n+ys.length)*ow.sz)) ?_)
            ·rw[mE,mM,bE,f1,←Fa,bE,c8,bg]
            ·have:=cL.put (d:=some d) (by simpa[iS]using U) dm;simpa[bE,c8,eC]using this
           ·refine A7 (fun _ h=>h.elim) ?_;obtain⟨v',w',f1,f2,f3⟩:=run_append_arg_grows (P:=P) w t type ow.el fl z fl.size fl.bytes im aj hz rfl rfl u3 (by rw[bg];exact fj) ⟨bl,0,none⟩ xs.length cap fm (by rw[u0,bE,c8,bg])
             (fun j u af=>by rw[oq];exact(tE wM af).2) ⟨kC,mL,none⟩ ys.length kV gT (by rw[jj,bg]) qS (by omega) lV qM
            exact⟨v',w',by rw[mE,mM,bE];exact f1,f2,f3,nN⟩
       ·cases he
      ·cases he;have D6:=rxn rfl;have yW:xs=[]:=by rw[D6]at rs;injection rs with _ aC;exact List.eq_nil_of_length_eq_zero aC.symm
       subst yW;have wR:(ea.app d g.size el x y).makes st=true:=by simp only[ea.makes,ad]
       have u3:z.cells.size=fl.size:=by rw[qv,bg]
       rw[vy,D6]at lU;have dw:∀(v':Value) (w':World) (gT:List Value),(Builtin.append_ #[t,t] type #[.slice none 0 0,.slice mW ys.length kV]).run P w= .ok v' w'→w'.ownsRow w.heap.size el g.size v' ys.length gT→w.grownBy w' none→dt w ν g.size ys gT→
         (⟨some d,.call ⟨.builtin .append,⟨[o',iL]⟩,⟨[t,t]⟩⟩,type,pos,after,guard⟩:Oper).wp P a w K Q:=by
        intro v' w' gT f1 f2 f3 f4;obtain⟨cL,dm⟩:=aJ.newRow (k:=κ) (xs:=ys) (.inl (aJ.new _ (th wR))) f3 f2 f4 aw (de wR);exact lJ (lU _ _ f1) (c4 _ _ _ (cL.put (d:=some d) (by simpa[iS]using U) dm))
       by_cases iG:ys=[]
       ·subst iG;exact dw _ w [] (FI im aj none 0 0 (eQ _) mW kV) (World.ownsRow_nil w _ _ _) (akM w _) (by simp[dt])
       ·rcases cy4 with cy4|⟨kC,mL,gT,rfl,xd,lQ⟩
        ·exact absurd cy4 iG
        ·have jj:=sq lQ;have qS:∀j u,gT[j]? =some u→w.cell? ((⟨kC,mL,none⟩:Addr).add j)=some u:=fun j u af=>by rw[oq];exact(tE xd af).2
         have qM:ys.length*fl.bytes≤140737488355328:=by
          have J:fl.bytes≤2048:=by rw[da];exact hby
          have U:ys.length*fl.bytes≤ys.length*2048:=Nat.mul_le_mul_left _ J;simp only[lim]at aw;omega
         have lV:ys.length≤maxLen:=by simp only[lim]at aw;simp only[maxLen];omega
         obtain⟨v',w',f1,f2,f3,_⟩:=run_append_own (P:=P) w w.heap.size t type el fl z fl.size fl.bytes im aj hz rfl rfl u3 (by rw[bg];exact fj) (.slice none 0 0) 0 [] (World.ownsRow_nil w _ _ _)
          ⟨kC,mL,none⟩ ys.length kV gT (by rw[jj,bg]) qS (xw lQ) (by simpa using lV) (by simpa using qM) (eQ _)
         exact dw v' w' gT f1 (by rw[←bg];simpa using f2) (by simpa[nx]using f3) lQ
      ·cases he
     ·cases he
    ·cases he
   ·cases bW
  ·cases a6
 ·rename_i d key sz el xs t len parts;simp only[cA,dG,fx]at av;obtain⟨⟨⟨⟨⟨⟨J,U⟩,al⟩,a6⟩,bW⟩,c3⟩,dV⟩:=av;subst J;subst bW;split at al
  ·rename_i fJ aI;simp only[dG]at al;subst al;split at a6
   ·rename_i g a1;simp only[cA,dG,fx]at a6;obtain⟨rfl,fj⟩:=a6;simp only[er]at he;cases he;obtain⟨us,g1,g2,g3⟩:=Up aO aJ aI rfl a1 dV aw c3;have k3:(w.alloc (.cells us el)).ownsRow w.heap.size el g.size (.slice (some ⟨w.heap.size,0,none⟩) xs.length xs.length) (xs.map (cg st.t)).length us.toList:=by
     refine⟨by simp[g3],.inr ⟨w.heap.size,xs.length,us,by simp,eQ _,heap_alloc_new w _,by simp,?_,g3,?_⟩⟩
     ·simp only[maxLen];have:xs.length≤xs.length*g.size:=Nat.le_mul_of_pos_right _ fj;omega
     ·rw[hq];simp[g3]
    obtain⟨dC,e6⟩:=aJ.newRowM (k:=κ) (xs:=xs.map (cg st.t)) (.inl (aJ.new _ (th rfl))) (World.grownBy_alloc w _ none) k3 g2
     (by have:xs.length≤xs.length*g.size:=Nat.le_mul_of_pos_right _ fj;simp only[lim,List.length_map];omega) (de rfl)
    simp only[List.length_map]at dC e6;refine lJ (v:= .slice (some ⟨w.heap.size,0,none⟩) xs.length xs.length) (w':=w.alloc (.cells us el)) ?_ (c4 _ _ _ (dC.put (d:=some d) (by simpa[iS]using U) (p:= .row g.size κ xs.length) (e6 ⟨_,_,rfl⟩)));have bF:(parts.map fun(x:Nat×Operand)=>(x.1,a.eval x.2))=(parts.toList.map fun(x:Nat×Operand)=>(x.1,a.eval x.2)).toArray:=by apply Array.ext';simp
    simp only[execOp];refine CH ?_;rw[←g1];congr 2
   ·cases a6
  ·cases al
 ·rename_i d key sz el x y o' iL t dD;simp only[cA,dG,fx]at av;obtain⟨⟨⟨⟨⟨⟨J,U⟩,al⟩,a6⟩,bW⟩,c3⟩,dV⟩:=av;subst J;subst al;split at a6
  ·rename_i fJ aI;simp only[dG]at a6;subst a6;split at bW
   ·rename_i g a1;simp only[cA,dG,fx]at bW;obtain⟨⟨rfl,fj⟩,hby⟩:=bW;have rx:=dZ aJ c3;have lf:=dZ aJ dV;have lU:∀v' w',(Builtin.append_ #[t,t] type #[a.eval o',a.eval iL]).run P w= .ok v' w'→(execOp a.eval ⟨some d,.call ⟨.builtin .append,⟨[o',iL]⟩,⟨[t,t]⟩⟩,type,pos,after,guard⟩).run P w= .ok (.value v') w':=by intro v' w' iu;simp only[execOp,resolve,invoke,builtin,fv,gj,fD,List.map_toArray,gX,List.map_nil];rw[iu];rfl
    obtain⟨fl,b6,z,aj,aC,bg,da,gL,hz,qu,qv⟩:=(uf aO a1).ex;obtain⟨ey,im,eR⟩:=iz aO aI;obtain rfl:=rL eR;have u3:z.cells.size=fl.size:=by rw[qv,bg]
    simp only[er]at he;split at he
    ·
     rename_i ys aK;cases he;unfold rJ at aK;split at aK
     ·rename_i dy xs iO ks akE ad aL;split at aK
      ·rename_i e4;obtain⟨rfl,e4⟩:=e4;subst e4;cases aK;rw[ad]at rx;rw[aL]at lf;simp only[a7]at rx lf;obtain⟨⟨sT,oy,rs,cx1,⟨OH,OI⟩,cx4⟩,rxn,rxo,rxt⟩:=rx;obtain⟨⟨mW,kV,vy,cy1,⟨OJ,OK⟩,cy4⟩,_⟩:=lf;have D6:=rxn trivial;have wR:(ea.appm d key g.size el x y).makes st=true:=by simp only[ea.makes,ad]
       rw[vy,D6]at lU;have dw:∀(v':Value) (w':World) (gT:List Value),(Builtin.append_ #[t,t] type #[.slice none 0 0,.slice mW ys.length kV]).run P w= .ok v' w'→w'.ownsRow w.heap.size el g.size v' ys.length gT→w.grownBy w' none→dt w ν g.size ys gT→
         (⟨some d,.call ⟨.builtin .append,⟨[o',iL]⟩,⟨[t,t]⟩⟩,type,pos,after,guard⟩:Oper).wp P a w K Q:=by
        intro v' w' gT f1 f2 f3 f4;obtain⟨cL,dm⟩:=aJ.newRowM (k:=κ) (xs:=ys) (.inl (aJ.new _ (th wR))) f3 f2 f4 aw.1 (de wR);exact lJ (lU _ _ f1) (c4 _ _ _ (cL.put (d:=some d) (by simpa[iS]using U) (dm (Tc f2 (by cases ys<;>simp at aw⊢)))))
       by_cases iG:ys=[]
       ·subst iG;exact dw _ w [] (FI im aj none 0 0 (eQ _) mW kV) (World.ownsRow_nil w _ _ _) (akM w _) (by simp[dt])
       ·rcases cy4 with cy4|⟨kC,mL,gT,rfl,xd,lQ⟩
        ·exact absurd cy4 iG
        ·have jj:=sq lQ;have qS:∀j u,gT[j]? =some u→w.cell? ((⟨kC,mL,none⟩:Addr).add j)=some u:=fun j u af=>by rw[oq];exact(tE xd af).2
         have qM:ys.length*fl.bytes≤140737488355328:=by
          have J:fl.bytes≤2048:=by rw[da];exact hby
          have U:ys.length*fl.bytes≤ys.length*2048:=Nat.mul_le_mul_left _ J;simp only[lim]at aw;omega
         have lV:ys.length≤maxLen:=by simp only[lim]at aw;simp only[maxLen];omega
         obtain⟨v',w',f1,f2,f3,_⟩:=run_append_own (P:=P) w w.heap.size t type el fl z fl.size fl.bytes im aj hz rfl rfl u3 (by rw[bg];exact fj) (.slice none 0 0) 0 [] (World.ownsRow_nil w _ _ _)
          ⟨kC,mL,none⟩ ys.length kV gT (by rw[jj,bg]) qS (xw lQ) (by simpa using lV) (by simpa using qM) (eQ _)
         exact dw v' w' gT f1 (by rw[←bg];simpa using f2) (by simpa[nx]using f3) lQ
      ·cases aK
     ·split at aK
      ·split at aK
       ·split at aK<;>cases aK
       ·cases aK
      ·cases aK
     ·cases aK
    ·
     rename_i k xs ys aK;cases he;unfold rJ at aK;split at aK
     ·split at aK<;>cases aK
     ·rename_i dy bH n iO ks akE ad aL;split at aK
      ·rename_i e4;obtain⟨rfl,e4⟩:=e4;subst e4;split at aK
       ·rename_i n' fJ vE xs' ab;split at aK
        ·rename_i te;obtain⟨rfl,rfl,rfl⟩:=te;cases aK;rw[ad]at rx;rw[aL]at lf;simp only[a7]at rx lf;obtain⟨⟨bx,oy,rs⟩,rxl,n0,vK,dC,e6,kr⟩:=rx;obtain⟨⟨mW,kV,vy,cy1,⟨OJ,OK⟩,cy4⟩,_⟩:=lf;obtain⟨v0,fm,aZ,bB,bQ,cS⟩:=aJ.good.own k _ ab;rw[dC]at aZ;simp only[dz,jb]at aZ bB;obtain⟨rfl,rfl⟩:=aZ;have mE:a.eval o'=vK:=kr rfl;obtain⟨c6,nl,tP⟩:=cS xs rfl;simp only at c6 nl;have u0:fm.length=xs.length*g.size:=by rw[c6];exact bB.1
         have jM:xs.length=n0:=c6;by_cases iG:ys=[]
         ·subst iG;rw[vy,rs]at lU;have k1:n0≤oy:=by
           rcases bB.2 with⟨mM,xr⟩|⟨bl,cap,cur,mM,xr,zv,J9,_⟩
           ·rw[xr];exact Nat.zero_le _
           ·rw[←mE,rs]at mM;injection mM with _ _ e;rw[e];exact J9
          have iu:=FI (P:=P) (w:=w) (ty:=type) im aj (some ⟨bx,0,none⟩) n0 oy k1 mW kV;refine lJ (lU _ _ (by simpa using iu)) (c4 _ _ ν ?_);have hL:∀e8,look e8 (cw k ⟨n0,fJ,g.size,some xs⟩ st.e)=look e8 st.e:=fun e8=>by
           rw[iw];split
           ·rename_i e;subst e;rw[ab]
           ·rfl
          have lW:cJ C {st with e:=cw k ⟨n0,fJ,g.size,some xs⟩ st.e} a w ν:=
           ⟨⟨aJ.good.alt,aJ.good.box,aJ.good.inj,fun g o a1=>aJ.good.own g o (by rw[←hL g];exact a1),fun g e8 n n' v v' bl bz a2=>aJ.good.oinj g e8 n n' v v' bl (by rw[←hL g];exact bz) (by rw[←hL e8];exact a2),
           fun g j n v bl bz=>aJ.good.obx g j n v bl (by rw[←hL g];exact bz),aJ.good.one,fun bl ae=>aJ.good.otr bl (ae.imp id (fun⟨g,n,v,bz,a2⟩=>⟨g,n,v,by rw[←hL g];exact bz,a2⟩))⟩,aJ.fr,aJ.defers,aJ.size,aJ.slot,aJ.new⟩
          have al:=lW.put (d:=some d) (by simpa[iS]using U) (p:= .row g.size k n0) (v:= .slice (some ⟨bx,0,none⟩) n0 oy) (by simp only[a7];exact⟨⟨_,_,rfl⟩,rxl,_,_,dC,eQ _,fun _=>by rw[←rs];exact mE⟩)
          simpa[jM,eC]using al
         ·have hyp:0<ys.length:=by cases ys<;>simp at iG⊢
          rcases cy4 with cy4|⟨kC,mL,gT,rfl,xd,lQ⟩
          ·exact absurd cy4 iG
          ·have jj:=sq lQ;have qS:∀j u,gT[j]? =some u→w.cell? ((⟨kC,mL,none⟩:Addr).add j)=some u:=fun j u af=>by rw[oq];exact(tE xd af).2
           have qM:(xs.length+ys.length)*fl.bytes≤140737488355328:=by
            have kY:fl.bytes≤2048:=by rw[da];exact hby
            have oH:(xs.length+ys.length)*fl.bytes≤(xs.length+ys.length)*2048:=Nat.mul_le_mul_left _ kY;simp only[lim]at aw;omega
           have lV:xs.length+ys.length≤maxLen:=by simp only[lim]at aw;simp only[maxLen];omega
           have DV:dt w ν g.size (xs++ys) (fm++gT):=Cj nl lQ;rw[vy,mE]at lU;have A7:(∃v' w',(Builtin.append_ #[t,t] type #[vK,.slice (some ⟨kC,mL,none⟩) ys.length kV]).run P w= .ok v' w'∧w'.ownsRow w.heap.size fJ fl.size v' (xs.length+ys.length) (fm++gT)∧w.grownBy w' none)→
             (⟨some d,.call ⟨.builtin .append,⟨[o',iL]⟩,⟨[t,t]⟩⟩,type,pos,after,guard⟩:Oper).wp P a w K Q:=by
            intro cI;obtain⟨v',w',f1,f2,f3⟩:=cI;obtain⟨cL,dm⟩:=aJ.newRowM (k:=k) (xs:=xs++ys) (el:=fJ) (sz:=g.size) (.inr ⟨_,ab,by simp;omega⟩) f3 (by rw[←bg];simpa using f2) DV (by simpa using aw) (n':=st.n) (o':=st.o)
             (fun j af=>⟨af,fun e=>by subst e;have:=(aJ.new _ af).2.1;rw[dC]at this;cases this⟩)
            refine lJ (lU _ _ f1) (c4 _ _ (ν.withOwn k (xs++ys).length v') ?_);have:=cL.put (d:=some d) (by simpa[iS]using U) (dm (by simpa using Tc f2 (by omega)));simpa[eC]using this
           rcases bB.2 with⟨mM,xr⟩|⟨bl,cap,cur,mM,xr,zv,J9,Ka,Kb,Fa⟩
           ·
            have yW:xs=[]:=List.eq_nil_of_length_eq_zero (by omega);have IL:fm=[]:=List.eq_nil_of_length_eq_zero (by rw[u0,yW];simp);subst yW;subst IL;refine A7 ?_;obtain⟨v',w',f1,f2,f3,_⟩:=run_append_own (P:=P) w w.heap.size t type fJ fl z fl.size fl.bytes im aj hz rfl rfl u3 (by rw[bg];exact fj) (.slice none 0 0) 0 [] (World.ownsRow_nil w _ _ _)
             ⟨kC,mL,none⟩ ys.length kV gT (by rw[jj,bg]) qS (xw lQ) (by simpa using lV) (by simpa using qM) (eQ _)
            exact⟨v',w',by rw[mM];exact f1,by simpa using f2,by simpa[nx]using f3⟩
           ·have nR:vK.ownBlock=some bl:=by rw[mM];rfl
            by_cases qT:xs.length+ys.length≤cap
            ·have hmul:(xs.length+ys.length)*g.size≤cap*g.size:=Nat.mul_le_mul_right _ qT;rw[oZ]at hmul;have f1:=run_append_room (P:=P) w t type fJ fl im aj bl xs.length cap cur zv ⟨kC,mL,none⟩ ys.length kV gT (by rw[jj,bg]) qS (xw lQ) qT (by rw[jj,bg];omega);generalize Q4:(cur.toList.take (xs.length*fl.size)++gT++cur.toList.drop (xs.length*fl.size+gT.length)).toArray=sj at f1;have j3:(w.setRow bl sj).heap[bl]? =some (.cells sj fJ (0,0)):=setRow_heap w bl cur sj fJ _ zv;have au:(fm++gT).length=(xs++ys).length*g.size:=by rw[oV,u0,jj,oV,oZ]
             have bW:cur.toList.take (xs.length*fl.size)=fm:=by rw[jM,bg];exact Fa
             have j6:sj.size=cap*g.size:=by rw[←Q4];simp only[List.size_toArray,oV,List.length_take,rC,Array.length_toList];rw[bg];omega
             have oJ:sj.toList.take ((xs++ys).length*g.size)=fm++gT:=by rw[←Q4,bW];simp only[←au];rw[List.take_append_of_le_length (eQ _),oY]
             obtain⟨cL,_,dm⟩:=aJ.setRowM (w':=w.setRow bl sj) ab rfl dC nR (v':= .slice (some ⟨bl,0,none⟩) (xs.length+ys.length) cap) rfl (xs':=xs++ys) (us:=fm++gT) (.inr (by simp;omega)) rfl rfl rfl (fun j af=>setRow_other w bl j sj af) (setRow_size w bl sj)
              ⟨au,.inr ⟨bl,cap,sj,by simp,Nat.zero_le _,j3,by simpa using qT,Ka,j6,oJ⟩⟩ DV
             replace dm:=dm (by simpa using aw);refine lJ (v:= .slice (some ⟨bl,0,none⟩) (xs.length+ys.length) cap) (w':=w.setRow bl sj) (lU _ _ ?_) (c4 _ _ (ν.withOwn k (xs++ys).length (.slice (some ⟨bl,0,none⟩) (xs.length+ys.length) cap)) ?_)
             ·rw[mM,←jM];exact f1
             ·have:=cL.put (d:=some d) (by simpa[iS]using U) dm;simpa[eC]using this
            ·refine A7 ?_;obtain⟨v',w',f1,f2,f3⟩:=run_append_arg_grows (P:=P) w t type fJ fl z fl.size fl.bytes im aj hz rfl rfl u3 (by rw[bg];exact fj) ⟨bl,0,none⟩ xs.length cap fm (by rw[u0,bg])
              (fun j u af=>by have:=bB.cells nR j u af;exact this) ⟨kC,mL,none⟩ ys.length kV gT (by rw[jj,bg]) qS (by omega) lV qM
             exact⟨v',w',by rw[mM,←jM];exact f1,f2,f3⟩
        ·cases aK
       ·cases aK
      ·cases aK
     ·cases aK
    ·cases he
   ·cases bW
  ·cases a6
 ·rename_i sz x y t o' iL;simp only[cA,dG]at av;obtain⟨⟨⟨J,U⟩,al⟩,a6⟩:=av;subst J;split at U
  ·rename_i f aI;simp only[dG]at U;simp only[er]at he;generalize Iw:cg st.t x=px at he;unfold qj at he;split at he
   ·rename_i dy k n i rQ;split at he
    ·rename_i n' el iO xs ab;split at he
     ·rename_i Bh;obtain⟨rfl,rfl⟩:=Bh;split at he
      ·rename_i q bp;cases he;obtain⟨ij,bE,cc,c8,h4⟩:=aw;have rx:=dZ aJ al;rw[Iw]at rx;have lf:=dZ aJ a6;have tT:=tV lf bE;have tZ:=oR tT;obtain⟨_,dW⟩:=ue aO aI w;have tt:(a.eval iL).cells.size=sz:=by rw[cc]at tZ;simpa using tZ
       obtain⟨bl,off,lP,Bm,c9,bn,pa⟩:=aJ.storeRow (P:=P) ab rx bp ij tT (by simpa[tt]using c8) (fun e=>by have:=e1 List.length e;simp[tt]at this;omega);refine CN (w':=w.setRow bl lP) ?_ (c4 _ _ _ pa);simp only[execOp,Instr.storeAt,Bm,Instr.sureAddr,storeVar,fv,gj,fD,dW,tt,U,ne_eq,not_true_eq_false,if_false,c9]
      ·cases he
     ·cases he
    ·cases he
   ·cases he
  ·cases U
 ·rename_i d key sz el z x t o' iL;simp only[cA,dG,fx]at av;obtain⟨⟨⟨⟨⟨J,U⟩,al⟩,a6⟩,bW⟩,c3⟩:=av;subst J;split at al
  ·rename_i fJ aI;simp only[dG]at al;subst al;split at a6
   ·rename_i g a1;simp only[cA,dG,fx]at a6;obtain⟨⟨⟨rfl,fj⟩,hby⟩,bC⟩:=a6;obtain rfl:=LK bC;have rx:=dZ aJ bW;have lf:=dZ aJ c3;simp only[er]at he;split at he
    ·rename_i fb n ad;cases he;obtain⟨acz,jj⟩:=aw;obtain⟨m,rfl⟩:=Int.eq_ofNat_of_zero_le acz;rw[ad]at rx lf;simp only[a7]at rx lf;obtain⟨fl,b6,b0,aj,aC,bg,da,gL,hz,qu,qv⟩:=(uf aO a1).ex;obtain⟨ey,im,eR⟩:=iz aO aI;obtain rfl:=rL eR;have lV:m≤lim:=by simp only[lim]at jj⊢;omega
     have qM:fl.bytes*m≤281474976710656:=by have J:fl.bytes*m≤2048*m:=Nat.mul_le_mul_right _ (by omega);simp only[lim]at lV;omega
     obtain⟨acW,abT⟩:=LJ w ν qu;obtain⟨w',g1,g2,g3⟩:=run_make_full (P:=P) w w.heap.size t el fl b0 fl.size im aj hz rfl fb fb m qM (by simp only[maxLen];simp only[lim]at lV;omega) (eQ _);have k3:w'.ownsRow w.heap.size el g.size (.slice (some ⟨w.heap.size,0,none⟩) m m) (qp m g.zero).length (madeCells b0.cells (m*b0.cells.size)).toList:=by rw[bg,←qv]at g2;rw[List.length_replicate,←qv];exact g2
     obtain⟨dC,e6⟩:=aJ.newRowM (k:=κ) (xs:=qp m g.zero) (.inl (aJ.new _ (th rfl))) g3 k3 (by rw[←qv];exact Sk acW (by omega) (zH abT) m) (by simpa using lV) (de rfl);simp only[List.length_replicate]at dC e6;simp only[Int.toNat_natCast]at c4;refine lJ (v:= .slice (some ⟨w.heap.size,0,none⟩) m m) (w':=w') ?_ (c4 _ _ _ (dC.put (d:=some d) (by simpa[iS]using U) (p:= .row g.size κ m) (e6 ⟨_,_,rfl⟩)));simp only[execOp];refine CH ?_;rw[rx,lf];exact g1
    ·cases he
   ·cases a6
  ·cases al
 ·cases av
theorem aio{P:cy}{bt:List (Nat×dB)}(aO:fN P bt=true){C:e7}{st st':bo}{a:Act}{w:World}{ν:bc}(aJ:cJ C st a w ν){i:ea}{o:Oper}(av:Cs C.N bt i o=true)
  {c:Prop} (he:lG st i=some (c,st')) (aw:c) {K:Act→World→Prop} {Q:Exit→Act→World→Prop} (c4:∀bj w' bn,cJ C st' bj w' bn→K bj w'):o.wp P a w K Q:=by
 have nO:pj st none→fresh st.n st.o (.loc st.n):=fun h=>vj (key:=none) h;have fi:∀j,fresh (st.n+1) st.o j→fresh st.n st.o j∧j≠ .loc st.n:=vk (key:=none);cases i with
 |v d i=>exact jr (κ:= .loc 0) (n':=0) (o₁:=[]) aO aJ av (fun h=>by simp[ea.makes]at h) (fun h=>by simp[ea.makes]at h) (by simpa only[lG,er]using he) aw c4
 |box d key x=>simp only[lG]at he;cases he;exact jr (κ:=jo st key) (n':=mJ st key) (o₁:=mK st key) aO aJ av (fun _=>vj aw.1) (fun _=>vk) (by simp only[er]) aw.2 c4
 |alloc d key z=>simp only[lG]at he;cases he;exact jr (κ:=jo st key) (n':=mJ st key) (o₁:=mK st key) aO aJ av (fun _=>vj aw) (fun _=>vk) (by simp only[er]) trivial c4
 |mks d key sz el z x=>
  simp only[lG]at he;split at he
  ·rename_i fb n ad;cases he;exact jr (κ:=jo st key) (n':=mJ st key) (o₁:=mK st key) aO aJ av (fun _=>vj aw.1) (fun _=>vk) (by simp only[er,ad]) aw.2 c4
  ·cases he
 |storeE sz x y=>exact jr (κ:= .loc 0) (n':=0) (o₁:=[]) aO aJ av (fun h=>by simp[ea.makes]at h) (fun h=>by simp[ea.makes]at h) (by simpa only[lG,er]using he) aw c4
 |store sz x y=>exact jr (κ:= .loc 0) (n':=0) (o₁:=[]) aO aJ av (fun h=>by simp[ea.makes]at h) (fun h=>by simp[ea.makes]at h) (by simpa only[lG,er]using he) aw c4
 |bsl d sz el xs=>simp only[lG]at he;cases he;exact jr (κ:= .loc st.n) (n':=st.n+1) (o₁:=st.o) aO aJ av (fun _=>nO aw.1) (fun _=>fi) (by simp only[er]) aw.2 c4
 |bslm d key sz el xs=>simp only[lG]at he;cases he;exact jr (κ:=jo st key) (n':=mJ st key) (o₁:=mK st key) aO aJ av (fun _=>vj aw.1) (fun _=>vk) (by simp only[er]) aw.2 c4
 |appm d key sz el x y=>
  simp only[lG]at he;split at he
  ·rename_i ys aK;cases he;exact jr (κ:=jo st key) (n':=mJ st key) (o₁:=mK st key) aO aJ av (fun _=>vj aw.1) (fun _=>vk) (by simp only[er,aK]) aw.2 c4
  ·rename_i k xs ys aK;cases he;refine jr (κ:= .loc 0) (n':=0) (o₁:=[]) aO aJ av (fun h=>?_) (fun h=>?_) (by simp only[er,aK]) aw c4;all_goals
    exfalso
    simp only[ea.makes]at h
    split at h
    ·rename_i ad
     unfold rJ at aK
     rw[ad]at aK
     split at aK
     ·split at aK<;>cases aK
     ·rename_i J _;cases J
     ·cases aK
    ·cases h
  ·cases he
 |mkmap d key=>simp only[lG]at he;cases he;exact jr (κ:=jo st key) (n':=mJ st key) (o₁:=mK st key) aO aJ av (fun _=>vj aw) (fun _=>vk) (by simp only[er]) trivial c4
 |mput b7 x k v=>exact jr (κ:= .loc 0) (n':=0) (o₁:=[]) aO aJ av (fun h=>by simp[ea.makes]at h) (fun h=>by simp[ea.makes]at h) (by simpa only[lG,er]using he) aw c4
 |range d key x=>
  simp only[lG]at he;split at he
  ·rename_i m ad;split at he
   ·rename_i cs dj;split at he
    ·rename_i cs' hm;cases he;exact jr (κ:=jo st key) (n':=mJ st key) (o₁:=mK st key) aO aJ av (fun _=>vj aw) (fun _=>vk) (by simp only[er,ad,dj,hm]) trivial c4
    ·cases he
   ·cases he
  ·cases he
 |app d sz el x y=>
  simp only[lG]at he;split at he
  ·rename_i dy tag xs iO ks ys ad aL;split at he
   ·rename_i e4;split at he
    ·rename_i k;split at he
     ·rename_i ow ab;cases he;refine jr (κ:= .loc 0) (n':=0) (o₁:=[]) aO aJ av (fun h=>by simp[ea.makes,ad]at h) (fun h=>by simp[ea.makes,ad]at h) ?_ aw c4;simp only[er,ad,aL,e4,and_self,if_true,ab]
     ·cases he
    ·cases he;refine jr (κ:= .loc st.n) (n':=st.n+1) (o₁:=st.o) aO aJ av (fun _=>nO aw.1) (fun _=>fi) ?_ aw.2 c4;simp only[er,ad,aL,e4,and_self,if_true]
    ·cases he
   ·cases he
  ·cases he
structure cF where
 b:List (aD×List ah)
 e:List (aD×fF)
def fp(ν:bc)(s:cF)(bl:Nat):Prop:=(∃k,(look k s.b).isSome∧ν.bx k=some bl)∨(∃g n v,(look g s.e).isSome∧ν.ow g=some (n,v)∧v.ownBlock=some bl)
def oD(ν:bc)(s:cF):Prop:= ∀k,(look k s.b=none→ν.bx k=none)∧(look k s.e=none→ν.ow k=none)∧∀j b,¬ν.tr k j b
def cO(s:cF):List aD:=s.b.map (·.1)++s.e.map (·.1)
def ix(s:cF):Prop:=(∀m,look (.loc m) s.b=none)∧(∀m,look (.loc m) s.e=none)
def vP(P:cy)(f:FuncId)(ba:Array Value)(w:World)(R:Ending→World→Prop):Prop:=((∃fn,P.funcs[f]? =some fn∧fn.body.isSome=true∧(fn.name== "runtime.NumGoroutine")=false)∧Calls P f ba w R)∨ ∃v w',(callFunc f ba).run P w= .ok (.value v) w'∧R (.returned v) w'
def bJ(P:cy)(f:FuncId)(args:List ah)(s:cF)(Q:ah→cF→Prop):Prop:=
 ∀(w:World) (ν:bc) (ba:Array Value),Good (fp ν s) w ν s.b s.e→oD ν s→cH w ν args ba.toList→
  vP P f ba w fun e w'=> ∃v r ai bn,e= .returned v∧Q r ai∧a7 w' bn r v∧Good (fun bl=>fp ν s bl∨w.heap.size≤bl) w' bn ai.b ai.e∧oD bn ai∧ix ai∧pM ⟨w,ν,fp ν s,0,cO s⟩ w' bn
def DA(κ:aW Nat)(ν:bc)(s:cF):Prop:= ∀k,(look k s.b=none→ν.bx k=none)∧(look k s.e=none→ν.ow k=none)∧∀j b,ν.tr k j b→∃m,κ=some m∧k= .loc m
theorem oD.k{ν:bc}{s:cF}(h:oD ν s):DA none ν s:=fun k=>⟨(h k).1,(h k).2.1,fun j b ae=>absurd ae ((h k).2.2 j b)⟩
def Gh(P:cy)(f:FuncId)(κ:Nat)(args:List ah)(s:cF)(Q:ah→cF→Prop):Prop:=
 ∀(w:World) (ν:bc) (ba:Array Value),Good (fp ν s) w ν s.b s.e→oD ν s→cH w ν args ba.toList→
  vP P f ba w fun e w'=> ∃v r ai bn,e= .returned v∧Q r ai∧a7 w' bn r v∧Good (fun bl=>fp ν s bl∨w.heap.size≤bl) w' bn ai.b ai.e∧DA (some κ) bn ai∧ix ai∧pM ⟨w,ν,fp ν s,0,cO s⟩ w' bn
def bI(P:cy)(f:FuncId)(args:List ah)(r:ah):Prop:=bJ P f args ⟨[],[]⟩ fun ev ai=>ev=r∧ai=⟨[],[]⟩
theorem se{α:Type}{k:aD}{x:α}:∀{l:List (aD×α)},look k l=some x→(k,x)∈l
 |[],h=>by simp[look]at h
 |(i,y)::r,h=>by
  simp only[look]at h;split at h
  ·rename_i e;subst e;cases h;simp
  ·exact oW _ (se h)
theorem sk{s:cF}{k:aD}(h:(look k s.b).isSome∨(look k s.e).isSome):k∈cO s:=by
 unfold cO;rcases h with h|h<;>obtain⟨x,ad⟩:=fE.1 h<;>have:=se ad
 ·exact List.mem_append_left _ (iC.2 ⟨_,this,rfl⟩)
 ·exact List.mem_append_right _ (iC.2 ⟨_,this,rfl⟩)
section
open Classical
noncomputable def bc.cut(ν:bc)(S:aD→Prop):bc:={A:=ν.A,bx:=fun k=>if S k then ν.bx k else none,ow:=fun k=>if S k then ν.ow k else none,tr:=fun k j b=>S k∧ν.tr k j b}
theorem bc.cut_bx{ν:bc}{S:aD→Prop}{k:aD}(h:S k):(ν.cut S).bx k=ν.bx k:=by simp[bc.cut,h]
theorem bc.cut_ow{ν:bc}{S:aD→Prop}{k:aD}(h:S k):(ν.cut S).ow k=ν.ow k:=by simp[bc.cut,h]
theorem bc.cut_no{ν:bc}{S:aD→Prop}{k:aD}(h:¬S k):(ν.cut S).bx k=none∧(ν.cut S).ow k=none∧∀j b,¬(ν.cut S).tr k j b:=by simp[bc.cut,h]
theorem bc.cut_some{ν:bc}{S:aD→Prop}{k:aD}{b:Nat}(h:(ν.cut S).bx k=some b):S k∧ν.bx k=some b:=by
 by_cases ag:S k
 ·exact⟨ag,by rw[bc.cut_bx ag]at h;exact h⟩
 ·rw[(bc.cut_no ag).1]at h;cases h
theorem bc.cut_someO{ν:bc}{S:aD→Prop}{k:aD}{b:Nat×Value}(h:(ν.cut S).ow k=some b):S k∧ν.ow k=some b:=by
 by_cases ag:S k
 ·exact⟨ag,by rw[bc.cut_ow ag]at h;exact h⟩
 ·rw[(bc.cut_no ag).2.1]at h;cases h
theorem oj.cut(S:aD→Prop)(w:World)(ν:bc):oj S w ν w (ν.cut S):=⟨fun _ _ h=>⟨h,rfl⟩,fun k b ab h=>by rw[bc.cut_bx ab];exact h,fun g n u a1 h=>⟨n,u,by rw[bc.cut_ow a1];exact h,.inl ⟨rfl,rfl⟩⟩,fun _ _ _=>rfl,fun _ _ _ ab h=>⟨ab,h⟩⟩
end
def gu(S:aD→Prop)(bY b:List (aD×List ah)):Prop:= ∀k cs,look k bY=some cs→look k b=some cs∧S k∧aH S cs
def n4(S:aD→Prop)(fB e:List (aD×fF)):Prop:= ∀k o,look k fB=some o→look k e=some o∧S k∧dN S o
theorem Good.cut{pr Cb:Nat→Prop}{w:World}{ν:bc}{b bY:List (aD×List ah)}{e fB:List (aD×fF)}(h:Good pr w ν b e){S:aD→Prop}(ae:gu S bY b)(he:n4 S fB e)
  (QR:∀bl,pr bl→(∃k,(look k bY).isSome∧(ν.cut S).bx k=some bl)∨(∃g n v,(look g fB).isSome∧(ν.cut S).ow g=some (n,v)∧v.ownBlock=some bl)→Cb bl):Good Cb w (ν.cut S) bY fB:=by
 have DU:∀k,(look k bY).isSome→(look k b).isSome∧S k:=fun k ab=>by obtain⟨cs,dj⟩:=fE.1 ab;have:=ae k cs dj;exact⟨by simp[this.1],this.2.1⟩
 have DW:∀k,(look k fB).isSome→(look k e).isSome∧S k:=fun k ab=>by obtain⟨cs,dj⟩:=fE.1 ab;have:=he k cs dj;exact⟨by simp[this.1],this.2.1⟩
 refine⟨h.alt,fun k cs ab=>?_,fun k bH bl J U al a6=>?_,fun g o a1=>?_,fun g e8 n n' v v' bl J U al a6 bW c3=>?_,fun g k n v bl J U al a6 bW=>?_,fun k=>?_,fun bl aO k j af=>?_⟩
 ·obtain⟨g1,g2,g3⟩:=ae k cs ab;obtain⟨bl,us,el,f1,f2,f3,f4,f5⟩:=h.box k cs g1;have kZ:(ν.cut S).bx k=some bl:=by rw[bc.cut_bx g2];exact f1
  exact⟨bl,us,el,kZ,QR bl f2 (.inl ⟨k,by simp[ab],kZ⟩),f3,f4,Ua (oj.cut S w ν) g3 f5⟩
 ·obtain⟨bz,a2⟩:=DU k J;obtain⟨b9,bZ⟩:=DU bH U;exact h.inj k bH bl bz b9 (bc.cut_some al).2 (bc.cut_some a6).2
 ·obtain⟨g1,g2,g3⟩:=he g o a1;obtain⟨v,us,f1,f2,f3,f4⟩:=h.own g o g1;have Bk:(ν.cut S).ow g=some (o.n,v):=by rw[bc.cut_ow g2];exact f1
  exact⟨v,us,Bk,f2,fun bl fs=>⟨QR bl (f3 bl fs).1 (.inr ⟨g,o.n,v,by simp[a1],Bk,fs⟩),(f3 bl fs).2⟩,
   fun xs ad=>⟨(f4 xs ad).1,Fy (oj.cut S w ν) _ _ _ (g3 xs ad) (f4 xs ad).2.1,(f4 xs ad).2.2⟩⟩
 ·obtain⟨bz,a2⟩:=DW g J;obtain⟨b9,bZ⟩:=DW e8 U;exact h.oinj g e8 n n' v v' bl bz b9 (bc.cut_someO al).2 (bc.cut_someO a6).2 bW c3
 ·obtain⟨bz,a2⟩:=DW g J;obtain⟨b9,bZ⟩:=DU k U;exact h.obx g k n v bl bz b9 (bc.cut_someO al).2 a6 (bc.cut_some bW).2
 ·by_cases ag:S k
  ·rw[bc.cut_bx ag,bc.cut_ow ag];exact h.one k
  ·exact .inl (bc.cut_no ag).1
 ·refine h.otr bl ?_ k j af.2;rcases aO with⟨bH,bz,a2⟩|⟨g,n,v,bz,a2,a3⟩
  ·exact .inl ⟨bH,(DU bH bz).1,(bc.cut_some a2).2⟩
  ·exact .inr ⟨g,n,v,(DW g bz).1,(bc.cut_someO a2).2,a3⟩
structure ig (ob:List aD) (st st':bo):Prop where
 t:∀x∈st'.t,get x.1 st.t=x.2∧aB (fun k=> ¬fresh st'.n st'.o k) x.2
 b:gu (fun k=> ¬fresh st'.n st'.o k) st'.b st.b
 e:n4 (fun k=> ¬fresh st'.n st'.o k) st'.e st.e
 o:∀m∈ob,m∈st'.o
theorem PS:∀(i:Nat) (l:List (Nat×ah)),get i l= .junk∨(i,get i l)∈l
 |_,[]=>.inl rfl
 |i,(j,p)::r=>by
  by_cases h:j=i
  ·subst h;right;simp[get]
  ·rcases PS i r with J|J
   ·left;simp[get,h,J]
   ·right;simp[get,h];right;exact J
theorem cJ.weaker{C:e7}{st st':bo}{a:Act}{w:World}{ν:bc}(h:cJ C st a w ν)(hw:ig C.ob st st'):cJ C st' a w (ν.cut fun k=> ¬fresh st'.n st'.o k):=by
 refine⟨h.good.cut hw.b hw.e (fun bl bF _=>bF),⟨h.fr.os,h.fr.tape,h.fr.output,h.fr.size,h.fr.block,h.fr.keep,h.fr.fresh,fun n b ae=>?_,h.fr.obn,fun m n u hm=>?_,h.fr.obr,fun k j bH du b J U=>h.fr.trd k j bH du b J.2 U.2,fun k j b ae=>h.fr.trb k j b ae.2,fun k j b ae=>?_,h.fr.sh⟩,h.defers,h.size,fun i=>?_,fun k ab=>bc.cut_no (fun aA=>aA ab)⟩
 ·rw[bc.cut_bx (fun cI=>cI.2 (hw.o _ (h.fr.obn n b ae)))];exact h.fr.obj n b ae
 ·rw[bc.cut_ow (fun cI=>cI.2 (hw.o _ (h.fr.obr m n u hm)))];exact h.fr.row m n u hm
 ·rw[bc.cut_bx ae.1,bc.cut_ow ae.1];exact h.fr.trn k j b ae.2
 ·rcases PS i st'.t with af|hm
  ·rw[af];simp[a7]
  ·obtain⟨J,U⟩:=hw.t _ hm;simp only at J;have:=h.slot i;rw[J]at this;exact tW (oj.cut _ w ν) _ _ U this
mutual
def dn:ah→ah
 | .slice sz _ xs=>.slice sz .no (cU xs)
 | .agg cs=>.agg (cU cs)
 | .tuple ba=>.tuple (cU ba)
 | .eptr x=>.eptr (dn x)
 | .iface t x=>.iface t (dn x)
 | .func f dh=>.func f (cU dh)
 |p=>p
def cU:List ah→List ah
 |[]=>[]
 |x::xs=>dn x::cU xs
end
theorem ud:∀xs,(cU xs).length=xs.length
 |[]=>rfl
 |x::xs=>by simp[cU,ud xs]
mutual
theorem HJ{t:Bool}{w:World}{A:Nat→Nat→Prop}:∀(p:ah) (F:Nat→Prop) (v:Value),fQ t w A F p v→fQ t w A F (dn p) v
 | .int _ _,_,_,h=>by simpa only[dn]using h
 | .bool _,_,_,h=>by simpa only[dn]using h
 | .str _,_,_,h=>by simpa only[dn]using h
 | .slice sz tag xs,F,v,h=>by
  simp only[fQ,dn]at h⊢;obtain⟨a,cap,J,U,al,a6⟩:=h;refine⟨a,cap,by rw[ud];exact J,by rw[ud];exact U,by rw[ud];exact al,?_⟩;rcases a6 with rfl|⟨b,off,us,G,aj,aC,bg,da,gL,hz⟩
  ·exact .inl rfl
  ·exact .inr ⟨b,off,us,G,aj,aC,bg,da,gL,PD sz xs G us hz⟩
 | .agg cs,F,v,h=>by simp only[fQ,dn]at h⊢;obtain⟨us,J,U⟩:=h;exact⟨us,J,PE cs F _ U⟩
 | .junk,_,_,h=>by simp[fQ]at h
 | .ptr _ _,_,_,h=>by simp[fQ]at h
 | .eptr _,_,_,h=>by simp[fQ]at h
 | .iface _ _,_,_,h=>by simp[fQ]at h
 | .nilp,_,_,h=>by simp[fQ]at h
 | .tuple _,_,_,h=>by simp[fQ]at h
 | .func _ _,_,_,h=>by simp[fQ]at h
 | .gmap _,_,_,h=>by simp[fQ]at h
 | .row _ _ _,_,_,h=>by simp[fQ]at h
 | .rptr _ _ _ _ _,_,_,h=>by simp[fQ]at h
 | .hdm _ _,_,_,h=>by simp[fQ]at h
 | .hdi _ _ _,_,_,h=>by simp[fQ]at h
 | .cst _,_,_,h=>by simp[fQ]at h
theorem PE{t:Bool}{w:World}{A:Nat→Nat→Prop}:∀(cs:List ah) (F:Nat→Prop) (us:List Value),tb t w A F cs us→tb t w A F (cU cs) us
 |[],_,_,h=>by simpa only[cU]using h
 |c::cs,F,us,h=>by simp only[tb,cU]at h⊢;obtain⟨u,cb,hP,h0,J,U,⟨bW,c3⟩,dV⟩:=h;exact⟨u,cb,hP,h0,J,U,⟨HJ c hP u bW,c3⟩,PE cs h0 cb dV⟩
theorem PD{t:Bool}{w:World}{A:Nat→Nat→Prop}(sz:Nat):∀(cs:List ah) (F:Nat→Prop) (us:List Value),ta t w A F sz cs us→ta t w A F sz (cU cs) us
 |[],_,_,h=>by simpa only[cU]using h
 |c::cs,F,us,h=>by simp only[ta,cU]at h⊢;obtain⟨u,cb,hP,h0,J,U,⟨bW,c3⟩,dV⟩:=h;exact⟨u,cb,hP,h0,J,U,⟨HJ c hP u bW,c3⟩,PD sz cs h0 cb dV⟩
end
theorem PC{t:Bool}{w:World}{A:Nat→Nat→Prop}{F:Nat→Prop}{sz:Nat}{tag:Ag}(ks:Ag){xs:List ah}(v:Value)(h:fQ t w A F (.slice sz tag xs) v):fQ t w A F (.slice sz ks (cU xs)) v:=by have:=HJ _ F v h;simp only[dn,fQ]at this⊢;exact this
mutual
theorem xA{w:World}{ν:bc}:∀(p:ah) (v:Value),a7 w ν p v→a7 w ν (dn p) v
 | .junk,_,h=>by simpa only[dn]using h
 | .int k n,_,h=>by simpa only[dn]using h
 | .bool b,_,h=>by simpa only[dn]using h
 | .str s,_,h=>by simpa only[dn]using h
 | .slice sz tag xs,v,h=>by
  simp only[a7,dn]at h⊢;obtain⟨⟨a,cap,J,U,al,a6⟩,bW,c3⟩:=h;refine⟨⟨a,cap,by rw[ud];exact J,by rw[ud];exact U,by rw[ud];exact al,?_⟩,fun e=>(by cases e),fun g e=>(by cases e),fun _ _ e=>(by cases e),fun _ e=>(by cases e)⟩;rcases a6 with rfl|⟨b,off,us,a6,c3,dV⟩
  ·exact .inl rfl
  ·exact .inr ⟨b,off,us,a6,c3,Ud sz xs us dV⟩
 | .agg cs,v,h=>by simp only[a7,dn]at h⊢;obtain⟨us,J,U⟩:=h;exact⟨us,J,Uh cs _ U⟩
 | .ptr key off,v,h=>by simpa only[dn]using h
 | .iface t x,v,h=>by simp only[a7,dn]at h⊢;obtain⟨u,J,U⟩:=h;exact⟨u,J,xA x u U⟩
 | .eptr x,v,h=>by simp only[a7,dn]at h⊢;obtain⟨b,off,u,J,U,al⟩:=h;exact⟨b,off,u,J,xA x u U,al⟩
 | .nilp,_,h=>by simpa only[dn]using h
 | .tuple ba,v,h=>by simp only[a7,dn]at h⊢;obtain⟨us,J,U⟩:=h;exact⟨us,J,FF ba _ U⟩
 | .func f dh,v,h=>by simp only[a7,dn]at h⊢;obtain⟨us,J,U⟩:=h;exact⟨us,J,FF dh _ U⟩
 | .gmap key,v,h=>by simpa only[dn]using h
 | .row _ _ _,v,h=>by simpa only[dn]using h
 | .rptr _ _ _ _ _,v,h=>by simpa only[dn]using h
 | .cst _,v,h=>by simpa only[dn]using h
theorem Uh{w:World}{ν:bc}:∀(cs:List ah) (us:List Value),c0 w ν cs us→c0 w ν (cU cs) us
 |[],_,h=>by simpa only[cU]using h
 |c::cs,us,h=>by simp only[c0,cU]at h⊢;obtain⟨u,cb,J,U,al⟩:=h;exact⟨u,cb,J,⟨xA c u U.1,U.2⟩,Uh cs cb al⟩
theorem FF{w:World}{ν:bc}:∀(cs:List ah) (us:List Value),cH w ν cs us→cH w ν (cU cs) us
 |[],_,h=>by simpa only[cU]using h
 |c::cs,us,h=>by simp only[cH,cU]at h⊢;obtain⟨u,cb,J,U,al⟩:=h;exact⟨u,cb,J,xA c u U,FF cs cb al⟩
theorem Ud{w:World}{ν:bc}(sz:Nat):∀(xs:List ah) (us:List Value),dt w ν sz xs us→dt w ν sz (cU xs) us
 |[],_,h=>by simpa only[cU]using h
 |x::xs,us,h=>by simp only[dt,cU]at h⊢;obtain⟨u,cb,J,⟨U,al,a6⟩,bW⟩:=h;exact⟨u,cb,J,⟨xA x u U,al,a6⟩,Ud sz xs cb bW⟩
end
def inObs(s:cF)(k:aD):Prop:=(look k s.b).isSome=true∨(look k s.e).isSome=true
def cu{α β:Type}(s:List (aD×β)):List (aD×α)→List (aD×α)
 |[]=>[]
 |(k,x)::r=>match look k s with
  |some _=>cu s r
  |none=>(k,x)::cu s r
theorem tH{α β:Type}(s:List (aD×β))(k:aD):∀l:List (aD×α),look k (cu s l)=if(look k s).isSome then none else look k l
 |[]=>by simp[cu,look]
 |(i,x)::r=>by
  simp only[cu];by_cases e:i=k
  ·subst e;cases h:look i s with
   |some y=>simp[tH s i r,h]
   |none=>simp[look]
  ·cases h:look i s with
   |some y=>simp[tH s k r,look,e]
   |none=>simp[look,e,tH s k r]
theorem xc{α:Type}(k:aD):∀l aX:List (aD×α),look k (l++aX)=match look k l with|some x=>some x|none=>look k aX
 |[],aX=>by simp[look]
 |(i,x)::r,aX=>by
  by_cases e:i=k
  ·simp[look,e]
  ·simp[look,e,xc k r aX]
def after(st:bo)(s ai:cF)(d:aW Nat)(r:ah):bo:={t:=eC d r st.t,b:=cu s.b st.b++ai.b,e:=cu s.e st.e++ai.e,n:=st.n,o:=st.o++cO ai}
section
open Classical
noncomputable def bc.join(ν bn:bc)(s ai:cF):bc:={A:=bn.A,bx:=fun k=>if(look k s.b).isSome∨(look k ai.b).isSome then bn.bx k else ν.bx k,ow:=fun k=>if(look k s.e).isSome∨(look k ai.e).isSome then bn.ow k else ν.ow k,tr:=fun k j b=>ν.tr k j b∨bn.tr k j b}
end
theorem cJ.callK{C:e7}{st:bo}{a:Act}{w w':World}{ν bn:bc}(h:cJ C st a w ν){s ai:cF}(ae:gu (inObs s) s.b st.b)(he:n4 (inObs s) s.e st.e)(tq:ix s)
  (a1:Good (fun bl=>fp (ν.cut (inObs s)) s bl∨w.heap.size≤bl) w' bn ai.b ai.e) {κ:aW Nat} (ad:DA κ bn ai) (adm:∀m,κ=some m→ν.bx (.loc m)=none∧ν.ow (.loc m)=none∧∀j b,¬ν.tr (.loc m) j b) {n':Nat} {o':List aD} (de:∀k,fresh n' o' k→fresh st.n (st.o++cO ai) k∧∀m,κ=some m→k≠ .loc m) (r3:ix ai) (aI:pM ⟨w,ν.cut (inObs s),fp (ν.cut (inObs s)) s,0,cO s⟩ w' bn)
  (Ip:∀m,(look (.obj m) ai.b).isSome→(look (.obj m) s.b).isSome∨ .obj m∉st.o) (cC:∀m,(look (.obj m) ai.e).isSome→(look (.obj m) s.e).isSome∨ .obj m∉st.o) (d:aW Nat) (aP:iS C.N d=true) {r:ah} {v:Value} (aJ:a7 w' bn r v):
  cJ C {after st s ai d r with n:=n',o:=o'} (a.put d v) w' (ν.join bn s ai):=by
 have p6:∀k,(look k s.b).isSome→(look k st.b).isSome:=fun k ab=>by obtain⟨cs,dj⟩:=fE.1 ab;simp[(ae k cs dj).1]
 have k4:∀k,(look k s.e).isSome→(look k st.e).isSome:=fun k ab=>by obtain⟨cs,dj⟩:=fE.1 ab;simp[(he k cs dj).1]
 have acE:∀k,(look k ai.b).isSome→¬(look k s.b).isSome→ν.bx k=none:=fun k ab aA=>by
  cases k with
  |loc m=>rw[r3.1 m]at ab;cases ab
  |obj m=>exact(h.new (.obj m) ⟨trivial,(Ip m ab).resolve_left aA⟩).1
 have acF:∀k,(look k ai.e).isSome→¬(look k s.e).isSome→ν.ow k=none:=fun k ab aA=>by
  cases k with
  |loc m=>rw[r3.2 m]at ab;cases ab
  |obj m=>exact(h.new (.obj m) ⟨trivial,(cC m ab).resolve_left aA⟩).2.1
 have adP:∀k,(look k s.b).isSome→(ν.join bn s ai).bx k=bn.bx k:=fun k ab=>by simp[bc.join,ab]
 have Rp:∀k,(look k ai.b).isSome→(ν.join bn s ai).bx k=bn.bx k:=fun k ab=>by simp[bc.join,ab]
 have Rq:∀k,ν.bx k≠none→¬(look k s.b).isSome→(ν.join bn s ai).bx k=ν.bx k:=fun k J U=>by have al:¬(look k ai.b).isSome:=fun al=>J (acE k al U);simp[bc.join,U,al]
 have adQ:∀k,(look k s.e).isSome→(ν.join bn s ai).ow k=bn.ow k:=fun k ab=>by simp[bc.join,ab]
 have I3:∀k,(look k ai.e).isSome→(ν.join bn s ai).ow k=bn.ow k:=fun k ab=>by simp[bc.join,ab]
 have I4:∀k,ν.ow k≠none→¬(look k s.e).isSome→(ν.join bn s ai).ow k=ν.ow k:=fun k J U=>by have al:¬(look k ai.e).isSome:=fun al=>J (acF k al U);simp[bc.join,U,al]
 have VJ:∀k b,bn.bx k=some b→(look k ai.b).isSome:=fun k b ab=>by
  cases au:look k ai.b with
  |some _=>rfl
  |none=>rw[(ad k).1 au]at ab;cases ab
 have VK:∀k b,bn.ow k=some b→(look k ai.e).isSome:=fun k b ab=>by
  cases au:look k ai.e with
  |some _=>rfl
  |none=>rw[(ad k).2.1 au]at ab;cases ab
 have av:kT w ν w' (ν.join bn s ai):=by
  refine⟨fun b o bd=>aI.keep b o bd,fun k b _ ab=>?_,fun g n u _ a1=>?_,fun b o bd=>aI.sh b o bd,fun _ _ _ _ h=>.inl h⟩
  ·by_cases ag:(look k s.b).isSome
   ·rw[adP k ag];cases k with
    |loc m=>rw[tq.1 m]at ag;cases ag
    |obj m=>exact aI.obj m b (by rw[bc.cut_bx (.inl ag)];exact ab)
   ·rw[Rq k (by rw[ab];simp) ag];exact ab
  ·by_cases ag:(look g s.e).isSome
   ·rw[adQ g ag];cases g with
    |loc m=>rw[tq.2 m]at ag;cases ag
    |obj m=>exact aI.row m n u (by rw[bc.cut_ow (.inr ag)];exact a1)
   ·rw[I4 g (by rw[a1];simp) ag];exact⟨n,u,a1,.inl ⟨rfl,rfl⟩⟩
 have hB:kT w' bn w' (ν.join bn s ai):=⟨fun b o bd=>⟨bd,rfl⟩,fun k b _ ab=>by rw[Rp k (VJ k b ab)];exact ab,fun g n u _ ab=>⟨n,u,by rw[I3 g (VK g _ ab)];exact ab,.inl ⟨rfl,rfl⟩⟩,fun _ _ _=>rfl,fun _ _ _ _ h=>.inr h⟩
 have p0:∀bl,fp (ν.cut (inObs s)) s bl→C.pr bl∧bl<w.heap.size:=by
  intro bl fs;rcases fs with⟨k,J,U⟩|⟨g,n,u,J,U,al⟩
  ·have a6:=(bc.cut_some U).2;obtain⟨cs,dj⟩:=fE.1 (p6 k J);obtain⟨h3,us,el,g1,g2,_⟩:=h.good.box k cs dj;rw[a6]at g1;cases g1;exact⟨g2,h.good.boxLt dj a6⟩
  ·have a6:=(bc.cut_someO U).2;obtain⟨o,D7⟩:=fE.1 (k4 g J);obtain⟨v',us,g1,g2,g3,_⟩:=h.good.own g o D7;rw[a6]at g1;cases g1;exact⟨(g3 bl al).1,h.good.ownLt D7 a6 al⟩
 have QS:∀bl,fp (ν.cut (inObs s)) s bl∨w.heap.size≤bl→C.pr bl:=fun bl fs=>by
  rcases fs with fs|fs
  ·exact(p0 bl fs).1
  ·exact .inr (jT h.fr.size fs)
 have ac1:∀k cs bl,look k st.b=some cs→¬(look k s.b).isSome→ν.bx k=some bl→¬fp (ν.cut (inObs s)) s bl:=by
  intro k cs bl J U al a6;rcases a6 with⟨bH,bz,a2⟩|⟨g,n,u,bz,a2,a3⟩
  ·have:=h.good.inj k bH bl (by simp[J]) (p6 bH bz) al (bc.cut_some a2).2;subst this;exact U bz
  ·exact h.good.obx g k n u bl (k4 g bz) (by simp[J]) (bc.cut_someO a2).2 a3 al
 have ac2:∀g o n u bl,look g st.e=some o→¬(look g s.e).isSome→ν.ow g=some (n,u)→u.ownBlock=some bl→¬fp (ν.cut (inObs s)) s bl:=by
  intro g o n u bl J U al a6 bW;rcases bW with⟨bH,bz,a2⟩|⟨e8,n',e0,bz,a2,a3⟩
  ·exact h.good.obx g bH n u bl (by simp[J]) (p6 bH bz) al a6 (bc.cut_some a2).2
  ·have:=h.good.oinj g e8 n n' u e0 bl (by simp[J]) (k4 e8 bz) al (bc.cut_someO a2).2 a6 a3;subst this;exact U bz
 have Ow:∀k cs,look k (cu s.b st.b++ai.b)=some cs→(¬(look k s.b).isSome∧look k st.b=some cs)∨look k ai.b=some cs:=by
  intro k cs ab;rw[xc,tH]at ab;by_cases ag:(look k s.b).isSome
  ·simp only[ag,if_true]at ab;exact .inr ab
  ·simp only[ag]at ab;cases au:look k st.b with
   |some x=>simp[au]at ab;subst ab;exact .inl ⟨ag,rfl⟩
   |none=>simp[au]at ab;exact .inr ab
 have Ox:∀k cs,look k (cu s.e st.e++ai.e)=some cs→(¬(look k s.e).isSome∧look k st.e=some cs)∨look k ai.e=some cs:=by
  intro k cs ab;rw[xc,tH]at ab;by_cases ag:(look k s.e).isSome
  ·simp only[ag,if_true]at ab;exact .inr ab
  ·simp only[ag]at ab;cases au:look k st.e with
   |some x=>simp[au]at ab;subst ab;exact .inl ⟨ag,rfl⟩
   |none=>simp[au]at ab;exact .inr ab
 have zN:∀bl,fp (ν.cut (inObs s)) s bl∨w.heap.size≤bl→∀h3,h3<w.heap.size→¬fp (ν.cut (inObs s)) s h3→bl≠h3:=by
  intro bl J h3 U al e;subst e;rcases J with J|J
  ·exact al J
  ·omega
 have I8:∀bl,bl<w.heap.size→¬fp (ν.cut (inObs s)) s bl→w'.heap[bl]? =w.heap[bl]?:=fun bl J U=>aI.block bl J U;have isB:∀k bl,(look k (cu s.b st.b++ai.b)).isSome→(ν.join bn s ai).bx k=some bl→(¬(look k s.b).isSome∧(look k st.b).isSome∧ν.bx k=some bl)∨((look k ai.b).isSome∧bn.bx k=some bl):=by
  intro k bl ab kZ;obtain⟨cs,dj⟩:=fE.1 ab;rcases Ow k cs dj with⟨J,U⟩|J
  ·obtain⟨h3,us,el,g1,_⟩:=h.good.box k cs U;rw[Rq k (by rw[g1];simp) J]at kZ;exact .inl ⟨J,by simp[U],kZ⟩
  ·rw[Rp k (by simp[J])]at kZ;exact .inr ⟨by simp[J],kZ⟩
 have Er:∀k x,(look k (cu s.e st.e++ai.e)).isSome→(ν.join bn s ai).ow k=some x→(¬(look k s.e).isSome∧(look k st.e).isSome∧ν.ow k=some x)∨((look k ai.e).isSome∧bn.ow k=some x):=by
  intro k x ab kZ;obtain⟨cs,dj⟩:=fE.1 ab;rcases Ox k cs dj with⟨J,U⟩|J
  ·obtain⟨v',us,g1,_⟩:=h.good.own k cs U;rw[I4 k (by rw[g1];simp) J]at kZ;exact .inl ⟨J,by simp[U],kZ⟩
  ·rw[I3 k (by simp[J])]at kZ;exact .inr ⟨by simp[J],kZ⟩
 have Ap:∀k bl,¬(look k s.b).isSome→(look k st.b).isSome→ν.bx k=some bl→bl<w.heap.size∧¬fp (ν.cut (inObs s)) s bl:=by intro k bl J U al;obtain⟨cs,dj⟩:=fE.1 U;exact⟨h.good.boxLt dj al,ac1 k cs bl dj J al⟩
 have xC:∀k n u bl,¬(look k s.e).isSome→(look k st.e).isSome→ν.ow k=some (n,u)→u.ownBlock=some bl→bl<w.heap.size∧¬fp (ν.cut (inObs s)) s bl:=by intro k n u bl J U al a6;obtain⟨cs,dj⟩:=fE.1 U;exact⟨h.good.ownLt dj al a6,ac2 k cs n u bl dj J al a6⟩
 have C7:∀k bl,(look k ai.b).isSome→bn.bx k=some bl→fp (ν.cut (inObs s)) s bl∨w.heap.size≤bl:=by intro k bl J U;obtain⟨cs,dj⟩:=fE.1 J;obtain⟨h3,us,el,g1,g2,_⟩:=a1.box k cs dj;rw[U]at g1;cases g1;exact g2
 have FH:∀k n u bl,(look k ai.e).isSome→bn.ow k=some (n,u)→u.ownBlock=some bl→fp (ν.cut (inObs s)) s bl∨w.heap.size≤bl:=by intro k n u bl J U al;obtain⟨cs,dj⟩:=fE.1 J;obtain⟨v',us,g1,g2,g3,_⟩:=a1.own k cs dj;rw[U]at g1;cases g1;exact(g3 bl al).1
 have bd:∀bl o,bn.A bl o→bl<w.heap.size→¬fp (ν.cut (inObs s)) s bl→ν.A bl o:=by
  intro bl o J U al;rcases aI.fresh bl o J with a6|a6|a6
  ·exact a6
  ·exact absurd a6 al
  ·simp only at a6;omega
 have pa:cJ C {t:=st.t,b:=cu s.b st.b++ai.b,e:=cu s.e st.e++ai.e,n:=n',o:=o'} a w' (ν.join bn s ai):=by
  refine h.over av rfl ⟨a1.alt,fun k cs ab=>?_,fun k bH bl J U al a6=>?_,fun g o eM=>?_,fun g e8 n n' u e0 bl J U al a6 bW c3=>?_,fun g k n u bl J U al a6 bW=>?_,fun k=>?_,fun bl aO k j k5=>?_⟩
   ⟨aI.os.trans h.fr.os,aI.tape.trans h.fr.tape,aI.output.trans h.fr.output,jT h.fr.size aI.size,fun k ab hm=>?_,fun b o qH=>?_,fun b o qH=>?_,fun n b aA=>av.bx _ _ trivial (h.fr.obj n b aA),h.fr.obn,
    fun m n u hm=>Cq (h.fr.row m n u hm) (fun n u=>av.ow _ n u trivial),h.fr.obr,fun k j bH du b J U=>?_,fun k j b ae=>?_,fun k j b ae=>?_,fun b o bd=>(av.sh b o (h.fr.keep b o bd).1).trans (h.fr.sh b o bd)⟩ (fun k ab=>?_)
  ·rcases Ow k cs ab with⟨J,U⟩|J
   ·obtain⟨bl,us,el,g1,g2,g3,g4,g5⟩:=h.good.box k cs U;obtain⟨b9,bZ⟩:=Ap k bl J (by simp[U]) g1;exact⟨bl,us,el,av.bx _ _ trivial g1,g2,fun o qH=>g3 o (bd bl o qH b9 bZ),by rw[I8 bl b9 bZ];exact g4,pB av g5⟩
   ·obtain⟨bl,us,el,g1,g2,g3,g4,g5⟩:=a1.box k cs J;exact⟨bl,us,el,hB.bx _ _ trivial g1,QS bl g2,g3,g4,pB hB g5⟩
  ·rcases isB k bl J al with⟨bz,a2,a3⟩|⟨bz,a2⟩<;>rcases isB bH bl U a6 with⟨b9,bZ,fy⟩|⟨b9,bZ⟩
   ·exact h.good.inj k bH bl a2 bZ a3 fy
   ·obtain⟨bE,cc⟩:=Ap k bl bz a2 a3;exact absurd rfl (zN bl (C7 bH bl b9 bZ) bl bE cc)
   ·obtain⟨bE,cc⟩:=Ap bH bl b9 bZ fy;exact absurd rfl (zN bl (C7 k bl bz a2) bl bE cc)
   ·exact a1.inj k bH bl bz b9 a2 bZ
  ·rcases Ox g o eM with⟨J,U⟩|J
   ·obtain⟨u,us,g1,g2,g3,g4⟩:=h.good.own g o U;refine⟨u,us,by rw[I4 g (by rw[g1];simp) J];exact g1,⟨g2.1,?_⟩,fun bl fs=>?_,rj av (fun bl fs j qH=>?_) g4⟩
    ·rcases g2.2 with aC|⟨bb,cap,cur,f1,f2,f3,f4⟩
     ·exact .inl aC
     ·obtain⟨b9,bZ⟩:=xC g _ u bb J (by simp[U]) g1 (by rw[f1];rfl);exact .inr ⟨bb,cap,cur,f1,f2,by rw[I8 bb b9 bZ];exact f3,f4⟩
    ·obtain⟨b9,bZ⟩:=xC g _ u bl J (by simp[U]) g1 fs;exact⟨(g3 bl fs).1,fun j qH=>(g3 bl fs).2 j (bd bl j qH b9 bZ)⟩
    ·obtain⟨b9,bZ⟩:=xC g _ u bl J (by simp[U]) g1 fs;exact bd bl j qH b9 bZ
   ·obtain⟨u,us,g1,g2,g3,g4⟩:=a1.own g o J;exact⟨u,us,by rw[I3 g (by simp[J])];exact g1,g2,fun bl fs=>⟨QS bl (g3 bl fs).1,(g3 bl fs).2⟩,rj hB (fun _ _ _ h=>h) g4⟩
  ·rcases Er g _ J al with⟨bz,a2,a3⟩|⟨bz,a2⟩<;>rcases Er e8 _ U a6 with⟨b9,bZ,fy⟩|⟨b9,bZ⟩
   ·exact h.good.oinj g e8 n n' u e0 bl a2 bZ a3 fy bW c3
   ·obtain⟨bE,cc⟩:=xC g n u bl bz a2 a3 bW;exact absurd rfl (zN bl (FH e8 n' e0 bl b9 bZ c3) bl bE cc)
   ·obtain⟨bE,cc⟩:=xC e8 n' e0 bl b9 bZ fy c3;exact absurd rfl (zN bl (FH g n u bl bz a2 bW) bl bE cc)
   ·exact a1.oinj g e8 n n' u e0 bl bz b9 a2 bZ bW c3
  ·rcases Er g _ J al with⟨bz,a2,a3⟩|⟨bz,a2⟩<;>rcases isB k bl U bW with⟨b9,bZ,fy⟩|⟨b9,bZ⟩
   ·exact h.good.obx g k n u bl a2 bZ a3 a6 fy
   ·obtain⟨bE,cc⟩:=xC g n u bl bz a2 a3 a6;exact absurd rfl (zN bl (C7 k bl b9 bZ) bl bE cc)
   ·obtain⟨bE,cc⟩:=Ap k bl b9 bZ fy;exact absurd rfl (zN bl (FH g n u bl bz a2 a6) bl bE cc)
   ·exact a1.obx g k n u bl bz b9 a2 a6 bZ
  ·
   cases kZ:(ν.join bn s ai).bx k with
   |none=>exact .inl rfl
   |some bl=>
    right;cases Bk:(ν.join bn s ai).ow k with
    |none=>rfl
    |some x=>
     exfalso;have aj:(ν.bx k=some bl∧¬(look k s.b).isSome∧¬(look k ai.b).isSome)∨bn.bx k=some bl:=by
      by_cases ag:(look k s.b).isSome∨(look k ai.b).isSome
      ·right;simpa[bc.join,ag]using kZ
      ·left;simp only[not_or]at ag;exact⟨by simpa[bc.join,ag.1,ag.2]using kZ,ag.1,ag.2⟩
     have aC:(ν.ow k=some x∧¬(look k s.e).isSome∧¬(look k ai.e).isSome)∨bn.ow k=some x:=by
      by_cases ag:(look k s.e).isSome∨(look k ai.e).isSome
      ·right;simpa[bc.join,ag]using Bk
      ·left;simp only[not_or]at ag;exact⟨by simpa[bc.join,ag.1,ag.2]using Bk,ag.1,ag.2⟩
     rcases aj with⟨bz,a2,a3⟩|bz<;>rcases aC with⟨b9,bZ,fy⟩|b9
     ·rcases h.good.one k with cI|cI
      ·rw[cI]at bz;cases bz
      ·rw[cI]at b9;cases b9
     ·have tn:=VK k x b9;have e4:(look k s.e).isSome:=by
       cases k with
       |loc m=>rw[r3.2 m]at tn;cases tn
       |obj m=>
        rcases cC m tn with cI|cI
        ·exact cI
        ·rw[(h.new (.obj m) ⟨trivial,cI⟩).1]at bz;cases bz
      obtain⟨o,D7⟩:=fE.1 (k4 k e4);obtain⟨v',us,g1,_⟩:=h.good.own k o D7;rcases h.good.one k with cI|cI
      ·rw[cI]at bz;cases bz
      ·rw[cI]at g1;cases g1
     ·have wJ:=VJ k bl bz;have e4:(look k s.b).isSome:=by
       cases k with
       |loc m=>rw[r3.1 m]at wJ;cases wJ
       |obj m=>
        rcases Ip m wJ with cI|cI
        ·exact cI
        ·rw[(h.new (.obj m) ⟨trivial,cI⟩).2.1]at b9;cases b9
      obtain⟨cs,dj⟩:=fE.1 (p6 k e4);obtain⟨h3,us,el,g1,_⟩:=h.good.box k cs dj;rcases h.good.one k with cI|cI
      ·rw[cI]at g1;cases g1
      ·rw[cI]at b9;cases b9
     ·rcases a1.one k with cI|cI
      ·rw[cI]at bz;cases bz
      ·rw[cI]at b9;cases b9
  ·have QH:∀k j,bn.tr k j bl→w.heap.size≤bl:=fun k j cI=>by
    rcases(aI.trb k j bl cI).1 with a2|a2
    ·obtain⟨m,_,hm⟩:=(ad k).2.2 j bl cI;rw[hm]at a2;cases a2
    ·exact a2
   have hold:fp (ν.cut (inObs s)) s bl→¬ν.tr k j bl:=by
    rintro(⟨bH,bz,a2⟩|⟨g,n,u,bz,a2,a3⟩) cI
    ·exact h.good.otr bl (.inl ⟨bH,p6 bH bz,(bc.cut_some a2).2⟩) k j cI
    ·exact h.good.otr bl (.inr ⟨g,n,u,k4 g bz,(bc.cut_someO a2).2,a3⟩) k j cI
   have j3:fp (ν.cut (inObs s)) s bl∨w.heap.size≤bl→¬ν.tr k j bl:=by
    rintro(J|J) cI
    ·exact hold J cI
    ·have:=(h.fr.trb k j bl cI).2;omega
   rcases aO with⟨bH,bz,a2⟩|⟨g,n,u,bz,a2,a3⟩
   ·rcases isB bH bl bz a2 with⟨b9,bZ,fy⟩|⟨b9,bZ⟩
    ·rcases k5 with k5|k5
     ·exact h.good.otr bl (.inl ⟨bH,bZ,fy⟩) k j k5
     ·have:=(Ap bH bl b9 bZ fy).1;have:=QH k j k5;omega
    ·rcases k5 with k5|k5
     ·exact j3 (C7 bH bl b9 bZ) k5
     ·exact a1.otr bl (.inl ⟨bH,b9,bZ⟩) k j k5
   ·rcases Er g _ bz a2 with⟨b9,bZ,fy⟩|⟨b9,bZ⟩
    ·rcases k5 with k5|k5
     ·exact h.good.otr bl (.inr ⟨g,n,u,bZ,fy,a3⟩) k j k5
     ·have:=(xC g n u bl b9 bZ fy a3).1;have:=QH k j k5;omega
    ·rcases k5 with k5|k5
     ·exact j3 (FH g n u bl b9 bZ a3) k5
     ·exact a1.otr bl (.inr ⟨g,n,u,b9,bZ,a3⟩) k j k5
  ·have bu:k<w.heap.size:=Nat.lt_of_lt_of_le ab h.fr.size;rw[I8 k bu fun fs=>by
    rcases(p0 k fs).1 with J|J
    ·exact hm J
    ·omega]
   exact h.fr.block k ab hm
  ·obtain⟨a8,bU⟩:=h.fr.keep b o qH;obtain⟨cj,eB⟩:=aI.keep b o a8;exact⟨cj,eB.trans bU⟩
  ·rcases aI.fresh b o qH with a6|a6|a6
   ·exact h.fr.fresh b o a6
   ·exact .inr (p0 b a6).1
   ·exact .inr (.inr (jT h.fr.size a6))
  ·rcases J with J|J<;>rcases U with U|U
   ·exact h.fr.trd k j bH du b J U
   ·have bz:=(h.fr.trb k j b J).2;have a2:=(aI.trb bH du b U).1;rcases a2 with a2|a2
    ·obtain⟨m,_,hm⟩:=(ad bH).2.2 du b U;rw[hm]at a2;cases a2
    ·simp only at a2;omega
   ·have bz:=(h.fr.trb bH du b U).2;have a2:=(aI.trb k j b J).1;rcases a2 with a2|a2
    ·obtain⟨m,_,hm⟩:=(ad k).2.2 j b J;rw[hm]at a2;cases a2
    ·simp only at a2;omega
   ·exact aI.trd k j bH du b J U
  ·rcases ae with ae|ae
   ·exact⟨(h.fr.trb k j b ae).1,Nat.lt_of_lt_of_le (h.fr.trb k j b ae).2 aI.size⟩
   ·refine⟨.inr ?_,(aI.trb k j b ae).2⟩;rcases(aI.trb k j b ae).1 with a2|a2
    ·obtain⟨m,_,hm⟩:=(ad k).2.2 j b ae;rw[hm]at a2;cases a2
    ·exact jT h.fr.size a2
  ·have key:ν.bx k=none∧ν.ow k=none∧¬(look k ai.b).isSome∧¬(look k ai.e).isSome:=by
    rcases ae with ae|ae
    ·obtain⟨t1,t2⟩:=h.fr.trn k j b ae;refine⟨t1,t2,fun cI=>?_,fun cI=>?_⟩
     ·cases k with
      |loc m=>rw[r3.1 m]at cI;cases cI
      |obj m=>
       rcases Ip m cI with bW|bW
       ·obtain⟨cs,dj⟩:=fE.1 (p6 _ bW);obtain⟨h3,us,el,g1,_⟩:=h.good.box _ cs dj;rw[t1]at g1;cases g1
       ·exact(h.new (.obj m) ⟨trivial,bW⟩).2.2 j b ae
     ·cases k with
      |loc m=>rw[r3.2 m]at cI;cases cI
      |obj m=>
       rcases cC m cI with bW|bW
       ·obtain⟨cs,dj⟩:=fE.1 (k4 _ bW);obtain⟨h3,us,g1,_⟩:=h.good.own _ cs dj;rw[t2]at g1;cases g1
       ·exact(h.new (.obj m) ⟨trivial,bW⟩).2.2 j b ae
    ·obtain⟨m,hm,rfl⟩:=(ad k).2.2 j b ae;obtain⟨t1,t2,_⟩:=adm m hm;exact⟨t1,t2,by simp[r3.1 m],by simp[r3.2 m]⟩
   obtain⟨t1,t2,t3,t4⟩:=key;have t5:¬(look k s.b).isSome:=fun cI=>by obtain⟨cs,dj⟩:=fE.1 (p6 _ cI);obtain⟨h3,us,el,g1,_⟩:=h.good.box _ cs dj;rw[t1]at g1;cases g1
   have t6:¬(look k s.e).isSome:=fun cI=>by obtain⟨cs,dj⟩:=fE.1 (k4 _ cI);obtain⟨h3,us,g1,_⟩:=h.good.own _ cs dj;rw[t2]at g1;cases g1
   exact⟨by simp[bc.join,t3,t5,t1],by simp[bc.join,t4,t6,t2]⟩
  ·
   simp only at ab;obtain⟨ab,ack⟩:=de k ab;have QM:(∀j b,¬ν.tr k j b)→∀j b,¬(ν.join bn s ai).tr k j b:=fun J j b ae=>by
    rcases ae with ae|ae
    ·exact J j b ae
    ·obtain⟨m,hm,e⟩:=(ad k).2.2 j b ae;exact ack m hm e
   cases k with
   |loc m=>obtain⟨hX,fZ,iK⟩:=h.new (.loc m) (HI (eQ _) (fun _ h=>List.mem_append_left _ h) ab);exact⟨by simp[bc.join,tq.1 m,r3.1 m,hX],by simp[bc.join,tq.2 m,r3.2 m,fZ],QM iK⟩
   |obj m=>
    simp only[fresh,ki,not_or,true_and]at ab;obtain⟨hX,fZ,iK⟩:=h.new (.obj m) ⟨trivial,ab.1⟩;have aZ:¬(look (.obj m) ai.b).isSome:=fun cI=>ab.2 (sk (.inl cI));have bB:¬(look (.obj m) ai.e).isSome:=fun cI=>ab.2 (sk (.inr cI));have bQ:¬(look (.obj m) s.b).isSome:=fun cI=>by obtain⟨cs,dj⟩:=fE.1 (p6 _ cI);obtain⟨h3,us,el,g1,_⟩:=h.good.box _ cs dj;rw[hX]at g1;cases g1
    have cS:¬(look (.obj m) s.e).isSome:=fun cI=>by obtain⟨cs,dj⟩:=fE.1 (k4 _ cI);obtain⟨v',us,g1,_⟩:=h.good.own _ cs dj;rw[fZ]at g1;cases g1
    exact⟨by simp[bc.join,aZ,bQ,hX],by simp[bc.join,bB,cS,fZ],QM iK⟩
 exact pa.put aP (xz hB aJ)
inductive dT where
 |s (i:ea)
 |call (d:aW Nat) (f:dk) (xs:List dk)
 |next (d:Nat) (x:dk)
structure cY where
 g:aW (Nat×Bool)
 i:dT
def ea.dst:ea→aW Nat
 | .v d _| .box d _ _| .alloc d _ _| .bsl d _ _ _| .app d _ _ _ _| .bslm d _ _ _ _| .appm d _ _ _ _ _| .mkmap d _| .range d _ _| .mks d _ _ _ _ _=>some d
 | .store _ _ _| .mput _ _ _ _| .storeE _ _ _=>none
def dT.dst:dT→aW Nat
 | .s i=>i.dst
 | .call d _ _=>d
 | .next d _=>some d
def c2(P:cy)(n:Nat)(args:List ah)(st:bo)(d:aW Nat)(K:bo→Prop):Prop:=
 (∃s Q,gu (inObs s) s.b st.b∧n4 (inObs s) s.e st.e∧ix s∧aH (inObs s) args∧bJ P n args s Q∧
  ∀r ai,Q r ai→((∀m,(look (.obj m) ai.b).isSome→(look (.obj m) s.b).isSome∨ .obj m∉st.o)∧(∀m,(look (.obj m) ai.e).isSome→(look (.obj m) s.e).isSome∨ .obj m∉st.o))∧K (after st s ai d r))∨
 (∃s Q,gu (inObs s) s.b st.b∧n4 (inObs s) s.e st.e∧ix s∧aH (inObs s) args∧ .loc st.n∉st.o∧Gh P n st.n args s Q∧
  ∀r ai,Q r ai→((∀m,(look (.obj m) ai.b).isSome→(look (.obj m) s.b).isSome∨ .obj m∉st.o)∧(∀m,(look (.obj m) ai.e).isSome→(look (.obj m) s.e).isSome∨ .obj m∉st.o))∧K {after st s ai d r with n:=st.n+1})
def JK(st:bo)(d:Nat)(fb mk:aD)(since:Nat)(seen:List Nat)(last clock:Nat)(borns:List Nat)(kvs:List ah)(K:bo→Prop):Prop:=
 (since=clock∧last=clock)∧((∀b∈borns,b∈seen)→K {st with t:=put d (.tuple [.bool false]) st.t})∧
 (∀b k v,l7 b borns kvs=some (.tuple [k,v])→b∉seen→K {st with t:=put d (.tuple [.bool true,k,v]) st.t,b:=cw fb [.hdi since (seen++[b]) last,.gmap mk] st.b})
def rP(st:bo)(d:Nat)(v:ah)(K:bo→Prop):Prop:=
 match v with
 | .ptr fb 0=>match look fb st.b with
  |some [.hdi since seen last,.gmap mk]=>match look mk st.b with
   |some (.hdm clock borns::kvs)=>JK st d fb mk since seen last clock borns kvs K
   |_=>eI
  |_=>eI
 |_=>eI
def sZ(P:cy)(st:bo)(K:bo→Prop):dT→Prop
 | .next d x=>rP st d (cg st.t x) K
 | .s i=>match lG st i with
  |some (c,st')=>c∧K st'
  |none=>eI
 | .call d f xs=>match cg st.t f with
  | .func n dh=>c2 P n (cU (xs.map (cg st.t)++dh)) st d K
  |_=>eI
def hJ(P:cy):List cY→bo→(bo→Prop)→Prop
 |[],st,K=>K st
 |⟨none,i⟩::r,st,K=>sZ P st (fun st'=>hJ P r st' K) i
 |⟨some (s,want),i⟩::r,st,K=>match get s st.t with
  | .bool b=>(b=want→sZ P {st with t:=put s (.bool want) st.t} (fun st'=>hJ P r st' K) i)∧(b= !want→hJ P r {st with t:=eC i.dst (.tuple []) (put s (.bool !want) st.t)} K)
  | .tuple []=>hJ P r {st with t:=eC i.dst (.tuple []) st.t} K
  |_=>eI
def tQ(N:Nat)(bt:List (Nat×dB))(i:dT)(o:Oper):Bool:=
 match i with
 | .s i=>Cs N bt i o
 | .next d x=>match o.op with
  | .next it false=>o.dst==some d&&decide (d<N)&&dY x it
  |_=>false
 | .call d f xs=>match o.op with
  | .call ⟨.value qA,args,_⟩=>o.dst==d&&iS N d&&dY f qA&&xo xs args.toList
  |_=>false
def AM(N:Nat)(bt:List (Nat×dB))(ops:List Oper)(g:cY)(o:Oper):Bool:=
 (match g.g,o.guard with
  |none,none=>true
  |some (s,b),some (j,bY)=>b==bY&&((ops[j]?).bind (·.dst))==some s&&decide (s<N)&&o.dst==g.i.dst&&iS N g.i.dst
  |_,_=>false)&&tQ N bt g.i o
def jZ(N:Nat)(bt:List (Nat×dB))(ops:List Oper):List cY→List Oper→Bool
 |[],[]=>true
 |g::gs,o::os=>AM N bt ops g o&&jZ N bt ops gs os
 |_,_=>false
theorem Ui{w:World}{ν:bc}:∀{cm b1:List ah} {ba us:List Value},cH w ν cm ba→cH w ν b1 us→cH w ν (cm++b1) (ba++us)
 |[],b1,ba,us,h,cp=>by simp only[cH]at h;subst h;simpa using cp
 |p::cm,b1,ba,us,h,cp=>by simp only[cH]at h;obtain⟨u,cb,rfl,J,U⟩:=h;simp only[bN,cH];exact⟨u,_,rfl,J,Ui U cp⟩
theorem vP.mono{P:cy}{f:FuncId}{ba:Array Value}{w:World}{R LV:Ending→World→Prop}(h:vP P f ba w R)(bh:∀e w',R e w'→LV e w'):vP P f ba w LV:=by
 rcases h with⟨J,U⟩|⟨v,w',J,U⟩
 ·exact .inl ⟨J,U.mono bh⟩
 ·exact .inr ⟨v,w',J,bh _ _ U⟩
theorem Ou{P:cy}{C:e7}{st:bo}{a:Act}{w:World}{ν:bc}(aJ:cJ C st a w ν){o:Oper}{qA:Operand}{args:Array Operand}{zS:Array fT}(mB:o.op= .call ⟨.value qA,args,zS⟩){d:aW Nat}(aP:o.dst=d)(wF:iS C.N d=true)
  {n:Nat} {dh:List ah} (aI:a7 w ν (.func n dh) (a.eval qA)) {cm:List ah} (tc:cH w ν cm (args.toList.map a.eval)) {K:bo→Prop}
  (aw:∃(s:cF) (pO:ah→cF→Prop) (κ:aW Nat) (n':Nat) (o':cF→List aD),gu (inObs s) s.b st.b∧n4 (inObs s) s.e st.e∧ix s∧aH (inObs s) (cU (cm++dh))∧(∀(w:World) (ν:bc) (ba:Array Value),Good (fp ν s) w ν s.b s.e→oD ν s→cH w ν (cU (cm++dh)) ba.toList→
   vP P n ba w fun e w'=> ∃v r ai bn,e= .returned v∧pO r ai∧a7 w' bn r v∧Good (fun bl=>fp ν s bl∨w.heap.size≤bl) w' bn ai.b ai.e∧DA κ bn ai∧ix ai∧pM ⟨w,ν,fp ν s,0,cO s⟩ w' bn)∧
   (∀m,κ=some m→fresh st.n st.o (.loc m))∧(∀k r ai,pO r ai→fresh n' (o' ai) k→fresh st.n (st.o++cO ai) k∧∀m,κ=some m→k≠ .loc m)∧
   ∀r ai,pO r ai→((∀m,(look (.obj m) ai.b).isSome→(look (.obj m) s.b).isSome∨ .obj m∉st.o)∧(∀m,(look (.obj m) ai.e).isSome→(look (.obj m) s.e).isSome∨ .obj m∉st.o))∧K {after st s ai d r with n:=n',o:=o' ai})
  {qq:Act→World→Prop} {Q:Exit→Act→World→Prop} (c4:∀st' bj w' bn,K st'→cJ C st' bj w' bn→qq bj w'):o.wp P a w qq Q:=by
 obtain⟨s,pO,κ,n',o',bE,cc,c8,h4,lq,OL,OF,ox⟩:=aw;simp only[a7]at aI;obtain⟨us,aK,hu⟩:=aI;have lX:cH w (ν.cut (inObs s)) (cU (cm++dh)) ((args.map a.eval)++us).toList:=by refine xy (oj.cut _ w ν) _ _ h4 (FF _ _ ?_);simpa using Ui tc hu
 have qO:Good (fp (ν.cut (inObs s)) s) w (ν.cut (inObs s)) s.b s.e:=aJ.good.cut bE cc (fun bl _ h=>h);have hex:oD (ν.cut (inObs s)) s:=by
  intro k;refine⟨?_,?_,?_⟩;rotate_left 2
  ·rintro j b ⟨ag,ae⟩;obtain⟨t1,t2⟩:=aJ.fr.trn k j b ae;rcases ag with ag|ag<;>obtain⟨x,ad⟩:=fE.1 ag
   ·obtain⟨bl,cb,el,aj,_⟩:=aJ.good.box k x (bE k x ad).1;rw[t1]at aj;cases aj
   ·obtain⟨v',cb,aj,_⟩:=aJ.good.own k x (cc k x ad).1;rw[t2]at aj;cases aj
  ·intro au;by_cases ag:inObs s k
   ·rw[bc.cut_bx ag];rcases ag with ag|ag
    ·rw[au]at ag;cases ag
    ·obtain⟨x,ad⟩:=fE.1 ag;obtain⟨v',cb,aj,_⟩:=aJ.good.own k x (cc k x ad).1;rcases aJ.good.one k with J|J
     ·exact J
     ·rw[J]at aj;cases aj
   ·exact(bc.cut_no ag).1
  ·intro au;by_cases ag:inObs s k
   ·rw[bc.cut_ow ag];rcases ag with ag|ag
    ·obtain⟨x,ad⟩:=fE.1 ag;obtain⟨bl,cb,el,aj,_⟩:=aJ.good.box k x (bE k x ad).1;rcases aJ.good.one k with J|J
     ·rw[J]at aj;cases aj
     ·exact J
    ·rw[au]at ag;cases ag
   ·exact(bc.cut_no ag).2.1
 rcases lq w (ν.cut (inObs s)) ((args.map a.eval)++us) qO hex lX with⟨⟨fn,g1,g2,g3⟩,lq⟩|⟨v,w',lq,bF⟩
 ·obtain⟨code,abR⟩:=fE.1 g2;have iu:(execOp a.eval o).run P w= .ok (.enter n ((args.map a.eval)++us)) w:=by obtain⟨dst,op,ty,pos,L2,uH⟩:=o;simp only at mB;subst mB;simp only[execOp,resolve,aK,Deferred.ofValue,fv,gj,fD,invoke,callFunc,run_program,g1,g3,abR];simp
  unfold Oper.wp;rw[iu];simp only[Oper.upon];refine lq.mono fun e w' bF=>?_;obtain⟨v,r,ai,bn,rfl,bp,aZ,bB,bQ,cS,c6⟩:=bF;obtain⟨⟨hX,fZ⟩,ab⟩:=ox r ai bp;rw[aP];exact c4 _ _ _ _ ab (aJ.callK bE cc c8 bB bQ (fun m hm=>aJ.new _ (OL m hm)) (n':=n') (o':=o' ai) (fun k ab=>OF k r ai bp ab) cS c6 hX fZ d wF aZ)
 ·have iu:(execOp a.eval o).run P w= .ok (.value v) w':=by obtain⟨dst,op,ty,pos,L2,uH⟩:=o;simp only at mB;subst mB;simp only[execOp,resolve,aK,Deferred.ofValue,fv,gj,fD,invoke];simpa using lq
  obtain⟨v2,r,ai,bn,Bw,bp,aZ,bB,bQ,cS,c6⟩:=bF;cases Bw;obtain⟨⟨hX,fZ⟩,ab⟩:=ox r ai bp;refine lJ iu ?_;rw[aP];exact c4 _ _ _ _ ab (aJ.callK bE cc c8 bB bQ (fun m hm=>aJ.new _ (OL m hm)) (n':=n') (o':=o' ai) (fun k ab=>OF k r ai bp ab) cS c6 hX fZ d wF aZ)
theorem Ot{P:cy}{C:e7}{st:bo}{a:Act}{w:World}{ν:bc}(aJ:cJ C st a w ν){o:Oper}{qA:Operand}{args:Array Operand}{zS:Array fT}(mB:o.op= .call ⟨.value qA,args,zS⟩){d:aW Nat}(aP:o.dst=d)(wF:iS C.N d=true)
  {n:Nat} {dh:List ah} (aI:a7 w ν (.func n dh) (a.eval qA)) {cm:List ah} (tc:cH w ν cm (args.toList.map a.eval)) {K:bo→Prop} (aw:c2 P n (cU (cm++dh)) st d K)
  {qq:Act→World→Prop} {Q:Exit→Act→World→Prop} (c4:∀st' bj w' bn,K st'→cJ C st' bj w' bn→qq bj w'):o.wp P a w qq Q:=by
 refine Ou aJ mB aP wF aI tc (K:=K) ?_ c4;rcases aw with⟨s,pO,bE,cc,c8,h4,lq,ox⟩|⟨s,pO,bE,cc,c8,h4,ij,lq,ox⟩
 ·refine⟨s,pO,none,st.n,fun ai=>st.o++cO ai,bE,cc,c8,h4,fun w ν ba J U al=>(lq w ν ba J U al).mono fun e w' bF=>?_,fun m hm=>(by cases hm),fun k _ ai _ ab=>⟨ab,fun m hm=>by cases hm⟩,ox⟩;obtain⟨v,r,ai,bn,g1,g2,g3,g4,g5,g6⟩:=bF;exact⟨v,r,ai,bn,g1,g2,g3,g4,g5.k,g6⟩
 ·refine⟨s,pO,some st.n,st.n+1,fun ai=>st.o++cO ai,bE,cc,c8,h4,lq,fun m hm=>(by cases hm;exact⟨eQ _,ij⟩),fun k _ ai _ ab=>⟨HI (Nat.le_succ _) (fun _ h=>h) ab,fun m hm=>?_⟩,ox⟩;cases hm;rintro rfl;have:=ab.1;simp only at this;omega
theorem cJ.drawn{C:e7}{st:bo}{a:Act}{w:World}{ν:bc}(aJ:cJ C st a w ν)(n:Nat):cJ C st a {w with drawn:=n} ν:=by
 have ko:kT w ν {w with drawn:=n} ν:=⟨fun _ _ h=>⟨h,rfl⟩,fun _ _ _ h=>h,fun _ n u _ h=>⟨n,u,h,.inl ⟨rfl,rfl⟩⟩,fun _ _ _=>rfl,fun _ _ _ _ h=>h⟩;refine aJ.over ko rfl ⟨aJ.good.alt,fun k cs ab=>?_,aJ.good.inj,fun g o a1=>?_,aJ.good.oinj,aJ.good.obx,aJ.good.one,aJ.good.otr⟩ ⟨aJ.fr.os,aJ.fr.tape,aJ.fr.output,aJ.fr.size,aJ.fr.block,aJ.fr.keep,aJ.fr.fresh,aJ.fr.obj,aJ.fr.obn,aJ.fr.row,aJ.fr.obr,aJ.fr.trd,aJ.fr.trb,aJ.fr.trn,aJ.fr.sh⟩ aJ.new
 ·obtain⟨bl,us,el,J,U,al,a6,bW⟩:=aJ.good.box k cs ab;exact⟨bl,us,el,J,U,al,a6,pB ko bW⟩
 ·obtain⟨v,us,J,U,al,a6⟩:=aJ.good.own g o a1;exact⟨v,us,J,U,al,rj ko (fun _ _ _ h=>h) a6⟩
theorem aay{α:Type}{l:List α}{p:α→Bool}(h:∀x∈l,p x=false):l.filter p=[]:=by rw[List.filter_eq_nil_iff];intro x ad;simp[h x ad]
theorem aax{α:Type}{l:List α}{p:α→Bool}(h:∀x∈l,p x=true):l.filter p=l:=List.filter_eq_self.2 h
def EY(r m since clock:Nat)(seen:Array Nat)(Ov:Array (aW MapEntry)):Sem Value:=do
 match Ov[←choose (.mapNext Ov.size)]? with
 |some (some e)=>
  setObj r (.mapIter (some m) since (seen.push e.born) clock)
  pure (.tuple #[.bool true,e.key,e.val])
 |some none=>pure (.tuple #[.bool false])
 |none=>stuck "Next: no such candidate"
theorem Us{P:cy}{w:World}(r m since clock:Nat)(seen:Array Nat)(l:List (aW MapEntry))(au:l≠[]):∃n x,x∈l∧(EY r m since clock seen l.toArray).run P w=
  (match x with|some e=>(do setObj r (.mapIter (some m) since (seen.push e.born) clock);pure (.tuple #[.bool true,e.key,e.val]):Sem Value)|none=>pure (.tuple #[.bool false])).run P {w with drawn:=n}:=by
 have fj:0<l.length:=List.length_pos_iff.2 au;unfold EY;have key:∀i,i<l.length→∀w',((do match(l.toArray[i]?:aW (aW MapEntry))with
   |some (some e)=>setObj r (.mapIter (some m) since (seen.push e.born) clock);pure (.tuple #[.bool true,e.key,e.val])
   |some none=>pure (.tuple #[.bool false])
   |none=>stuck "Next: no such candidate" :Sem Value)).run P w'=((match l[i]! with|some e=>(do setObj r (.mapIter (some m) since (seen.push e.born) clock);pure (.tuple #[.bool true,e.key,e.val]):Sem Value)|none=>pure (.tuple #[.bool false]))).run P w':=by
  intro i hi w';have J:l.toArray[i]? =some l[i]!:=by simp[hi]
  rw[J];cases l[i]!<;>rfl
 by_cases aI:(Question.mapNext l.length).forced=true
 ·refine⟨w.drawn,l[0]!,by simp[fj],?_⟩;rw[←key 0 fj];have aw:(choose (.mapNext l.length):Sem Nat).run P w= .ok 0 w:=by simp[aI]
  simp only[List.size_toArray,fv,aw,fD]
 ·refine⟨w.drawn+1,l[(w.tape w.drawn (.mapNext l.length))%l.length]!,by simp[Nat.mod_lt _ fj],?_⟩;rw[←key _ (Nat.mod_lt _ fj)];have aw:(choose (.mapNext l.length):Sem Nat).run P w= .ok ((w.tape w.drawn (.mapNext l.length))%l.length) {w with drawn:=w.drawn+1}:=by simp[aI,Question.cut]
  simp only[List.size_toArray,fv,aw,fD]
theorem ail{P:cy}{w:World}{bl mb:Nat}{seen:List Nat}{es:List MapEntry}{clock:Nat}{ty:fT}(J:w.heap[bl]? =some (.mapIter (some mb) clock seen.toArray clock))(U:w.heap[mb]? =some (.map es.toArray clock))(bu:∀e∈es,e.born<clock):
  ∃n,((∀e∈es,e.born∈seen)∧(Instr.next (.pointer (some ⟨bl,0,none⟩)) false ty).run P w= .ok (.tuple #[.bool false]) {w with drawn:=n})∨
   ∃e∈es,e.born∉seen∧(Instr.next (.pointer (some ⟨bl,0,none⟩)) false ty).run P w= .ok (.tuple #[.bool true,e.key,e.val]) {w with drawn:=n,heap:=w.heap.setIfInBounds bl (.mapIter (some mb) clock (seen++[e.born]).toArray clock)}:=by
 have gl:(!seen.toArray.isEmpty&& !es.toArray.isEmpty&&es.toArray.all (fun e=>decide (e.born≥clock)))=false:=by
  cases es with
  |nil=>simp
  |cons e r=>have:=bu e (by simp);simp;intro _ h;omega
 generalize jg:(es.filter fun e=> !seen.contains e.born)=left;have acr:(es.toArray.filter fun e=> !seen.toArray.contains e.born)=left.toArray:=by rw[←jg];simp
 have ji:∀e∈left,e∈es∧e.born∉seen:=fun e he=>by rw[←jg]at he;have:=mT.1 he;exact⟨this.1,by simpa using this.2⟩
 have hold:(left.toArray.filter fun e=>decide (e.born<clock))=left.toArray:=by rw[List.filter_toArray,aax];intro e he;have:=bu e (ji e he).1;simp[this]
 have j3:(left.toArray.filter fun e=>decide (e.born≥clock))= #[]:=by rw[List.filter_toArray,aay];intro e he;have:=bu e (ji e he).1;simp;omega
 have iu:(Instr.next (.pointer (some ⟨bl,0,none⟩)) false ty).run P w=(EY bl mb clock clock seen.toArray ((if left.toArray.isEmpty then #[none]else #[])++(left.toArray++ #[]).map some)).run P w:=by unfold Instr.next EY;simp only[fv,ua J,ua U,fD,gl,acr,hold,j3,gI,if_false];rfl
 rw[iu];by_cases yI:left=[]
 ·subst yI;obtain⟨n,x,g1,g2⟩:=Us (P:=P) (w:=w) bl mb clock clock seen.toArray [none] (by simp);refine⟨n,.inl ⟨fun e he=>?_,?_⟩⟩
  ·have:=List.filter_eq_nil_iff.1 jg e he;simpa using this
  ·simp only[List.mem_singleton]at g1;subst g1;have aw:((if(([]:List MapEntry).toArray).isEmpty then #[none]else #[])++(([]:List MapEntry).toArray++ #[]).map some)=[none].toArray:=by simp
   rw[aw,g2];rfl
 ·have aw:((if left.toArray.isEmpty then #[none]else #[])++(left.toArray++ #[]).map some)=(left.map some).toArray:=by simp[yI]
  obtain⟨n,x,g1,g2⟩:=Us (P:=P) (w:=w) bl mb clock clock seen.toArray (left.map some) (by simpa using yI);simp only[iC]at g1;obtain⟨e,he,rfl⟩:=g1;refine⟨n,.inr ⟨e,(ji e he).1,(ji e he).2,?_⟩⟩;rw[aw,g2];simp only[fv];rw[Cr (w:={w with drawn:=n}) (o:= .mapIter (some mb) clock seen.toArray clock) J];simp
theorem Hm:∀{borns:List Nat} {us:List Value} {e:MapEntry},e∈fq borns us→e.born∈borns
 |[],us,e,h=>by simp[fq]at h
 |b::eF,[],e,h=>by simp[fq]at h
 |b::eF,[_],e,h=>by simp[fq]at h
 |b::eF,k::v::us,e,h=>by
  simp only[fq,fU]at h;rcases h with rfl|h
  ·simp
  ·exact oW _ (Hm h)
theorem OX:∀{borns:List Nat} {kvs:List ah} {us:List Value},kvs.length=2*borns.length→us.length=kvs.length→∀{b:Nat},b∈borns→∃e∈fq borns us,e.born=b
 |[],_,_,_,_,b,ae=>by simp at ae
 |bY::eF,kvs,[],J,U,b,ae=>by rw[J]at U;simp at U
 |bY::eF,kvs,[_],J,U,b,ae=>by rw[J]at U;simp at U;omega
 |bY::eF,kvs,k::v::us,J,U,b,ae=>by
  rcases fU.1 ae with rfl|ae
  ·exact⟨⟨k,v,b⟩,by simp[fq],rfl⟩
  ·obtain⟨e,g1,g2⟩:=OX (kvs:=kvs.drop 2) (us:=us) (borns:=eF) (by simp at J⊢;omega) (by simp at J U⊢;omega) ae;exact⟨e,by simp[fq,g1],g2⟩
theorem Sm{w:World}{ν:bc}:∀{borns:List Nat} {kvs:List ah} {us:List Value},kvs.length=2*borns.length→borns.Pairwise (· < ·)→cH w ν kvs us→∀{e:MapEntry},e∈fq borns us→∃k v,l7 e.born borns kvs=some (.tuple [k,v])∧a7 w ν k e.key∧a7 w ν v e.val
 |[],_,_,_,_,_,e,h=>by simp[fq]at h
 |b::eF,[],us,J,_,_,e,_=>by simp at J
 |b::eF,[_],us,J,_,_,e,_=>by simp at J;omega
 |b::eF,k::v::kvs,us,J,U,al,e,h=>by
  simp only[cH]at al;obtain⟨iA,Ll,rfl,dC,iY,rq,rfl,e6,kr⟩:=al;simp only[fq,fU]at h;rw[mg]at U;rcases h with rfl|h
  ·exact⟨k,v,by simp[l7],dC,e6⟩
  ·obtain⟨bH,v',g1,g2,g3⟩:=Sm (by simp at J;omega) U.2 kr h;have cC:b≠e.born:=Nat.ne_of_lt (U.1 _ (Hm h));exact⟨bH,v',by simp[l7,cC,g1],g2,g3⟩
theorem ae1{P:cy}{C:e7}{st:bo}{a:Act}{w:World}{ν:bc}(aJ:cJ C st a w ν){o:Oper}{it:Operand}(mB:o.op= .next it false){d:Nat}(aP:o.dst=some d)(wF:iS C.N (some d)=true){v:ah}(aK:a7 w ν v (a.eval it)){K:bo→Prop}(he:rP st d v K)
  {qq:Act→World→Prop} {Q:Exit→Act→World→Prop} (c4:∀st' bj w' bn,K st'→cJ C st' bj w' bn→qq bj w'):o.wp P a w qq Q:=by
 unfold rP at he;split at he
 ·rename_i fb;split at he
  ·rename_i since seen last mk uO;split at he
   ·rename_i clock borns kvs wR;obtain⟨⟨rfl,rfl⟩,yC,nM⟩:=he;simp only[a7]at aK;obtain⟨bl,b9,bZ⟩:=aK;obtain⟨h3,us,el,aZ,bB,bQ,cS,c6⟩:=aJ.good.box fb _ uO;rw[b9]at aZ;cases aZ;obtain⟨mb,ms,anN,m1,m2,m3,m4,m5⟩:=aJ.good.box mk _ wR;simp only[iM,cH]at c6;obtain⟨u,cb,hu,⟨anM,dC,rfl⟩,rfl⟩:=c6;rw[m1]at dC;cases dC;simp only[jq,hu]at cS;simp only[jq]at m4;simp only[iM]at m5;obtain⟨n,lu⟩:=ail (P:=P) (ty:=o.type) cS m4 (fun e he=>m5.2.lt _ (Hm he));have lU:∀v' w',(Instr.next (.pointer (some ⟨bl,0,none⟩)) false o.type).run P w= .ok v' w'→(execOp a.eval o).run P w= .ok (.value v') w':=by intro v' w' iu;obtain⟨dst,op,ty,pos,L2,uH⟩:=o;simp only at mB iu;subst mB;simp only[execOp,bZ];exact CH iu
    rcases lu with⟨J,U⟩|⟨e,J,U,al⟩
    ·refine lJ (lU _ _ U) ?_;rw[aP];refine c4 _ _ _ _ (yC fun b ae=>?_) ((aJ.drawn n).put wF (p:= .tuple [.bool false]) (by simp[a7,cH]));obtain⟨e,f1,f2⟩:=OX m5.2.len (FD m5.1) ae;rw[←f2];exact J e f1
    ·obtain⟨k,v,f1,f2,f3⟩:=Sm m5.2.len m5.2.inc m5.1 J;refine lJ (lU _ _ al) ?_;rw[aP];have uY:=((aJ.drawn n).setBox (w':={w with drawn:=n,heap:=w.heap.setIfInBounds bl (.mapIter (some mb) last (seen++[e.born]).toArray last)}) uO b9 (cs':=[.hdi last (seen++[e.born]) last,.gmap mk]) (us:=us) (el:=el) rfl rfl rfl
      (fun j af=>Array.getElem?_setIfInBounds_ne (ky af)) (by simp) (by simp[jq,hu,(Array.getElem?_eq_some_iff.1 cS).1]) (by simp only[iM,cH];exact⟨_,_,hu,by simp only[a7];exact⟨mb,m1,rfl⟩,rfl⟩))
     refine c4 _ _ _ _ (nM e.born k v f1 U) (uY.1.put wF (p:= .tuple [.bool true,k,v]) ?_);simp only[a7];refine⟨_,rfl,?_⟩;simp only[cH];have ko:kT w ν {w with drawn:=n} ν:=⟨fun _ _ h=>⟨h,rfl⟩,fun _ _ _ h=>h,fun _ n u _ h=>⟨n,u,h,.inl ⟨rfl,rfl⟩⟩,fun _ _ _=>rfl,fun _ _ _ _ h=>h⟩;exact⟨_,_,rfl,by simp[a7],_,_,rfl,xz uY.2 (xz ko f2),_,_,rfl,xz uY.2 (xz ko f3),rfl⟩
   ·exact he.elim
  ·exact he.elim
 ·exact he.elim
theorem O1{P:cy}{bt:List (Nat×dB)}(aO:fN P bt=true){C:e7}{st:bo}{a:Act}{w:World}{ν:bc}(aJ:cJ C st a w ν){i:dT}{o:Oper}(av:tQ C.N bt i o=true){K:bo→Prop}(he:sZ P st K i)
  {qq:Act→World→Prop} {Q:Exit→Act→World→Prop} (c4:∀st' bj w' bn,K st'→cJ C st' bj w' bn→qq bj w'):o.wp P a w qq Q:=by
 cases i with
 |s i=>
  simp only[sZ]at he;split at he
  ·rename_i c st' ag;exact aio aO aJ (by simpa only[tQ]using av) ag he.1 fun bj w' bn h=>c4 _ _ _ _ he.2 h
  ·exact he.elim
 |next d x=>
  simp only[sZ]at he;simp only[tQ]at av;split at av
  ·rename_i it mB;simp only[cA,dG,fx]at av;obtain⟨⟨J,U⟩,al⟩:=av;exact ae1 aJ mB J (by simpa[iS]using U) (dZ aJ al) he c4
  ·cases av
 |call d f xs=>
  simp only[sZ]at he;simp only[tQ]at av;split at av
  ·rename_i qA args zS mB;simp only[cA,dG]at av;obtain⟨⟨⟨J,U⟩,al⟩,a6⟩:=av;split at he
   ·rename_i n dh aI;have:=dZ aJ al;rw[aI]at this;exact Ot aJ mB J U this (Cm aJ a6) he c4
   ·exact he.elim
  ·cases av
theorem KD{C:e7}{st:bo}{a:Act}{w:World}{ν:bc}(h:cJ C st a w ν){s:Nat}{b:Bool}(ag:get s st.t= .bool b):cJ C {st with t:=put s (.bool b) st.t} a w ν:=by
 refine⟨h.good,h.fr,h.defers,h.size,fun i=>?_,h.new⟩;have:=h.slot i;simp only[oF];split
 ·rename_i e;subst e;rw[←ag];exact this
 ·exact this
theorem VM{C:e7}{st:bo}{a:Act}{w:World}{ν:bc}(h:cJ C st a w ν){ops:Array Oper}{j s:Nat}(af:(ops.toList[j]?).bind (·.dst)=some s)(ag:s<C.N):
  (∀b,get s st.t= .bool b→yielded ops a.tmps j=some b)∧(get s st.t= .tuple []→yielded ops a.tmps j=none):=by
 have bu:s<a.tmps.size:=by rw[h.size];exact ag
 have qU:=h.slot s;have gN:a.tmps.getD s undef=a.tmps[s]:=by simp[Array.getD,bu]
 rw[gN]at qU;have aL:yielded ops a.tmps j=match a.tmps[s]with| .bool b=>some b|_=>none:=by unfold yielded;rw[sG]at af;rw[af];simp only[kA,Array.getElem?_eq_getElem bu];cases a.tmps[s]<;>rfl
 constructor
 ·intro b ae;rw[ae]at qU;simp only[a7]at qU;rw[aL,qU]
 ·intro ae;rw[ae]at qU;simp only[a7,cH]at qU;obtain⟨us,aj,aC⟩:=qU;rw[aL,aj]
theorem O5{P:cy}{bt:List (Nat×dB)}(aO:fN P bt=true){C:e7}{ops:Array Oper}{K:bo→Prop}{Q:Exit→Act→World→Prop}(ht:∀st' bj w' bn,K st'→cJ C st' bj w' bn→Q .normal bj w'):
  ∀(gs:List cY) (os:List Oper) (k:Nat),(∀j,os[j]? =ops[k+j]?)→jZ C.N bt ops.toList gs os=true→∀(st:bo) (a:Act) (w:World) (ν:bc),hJ P gs st K→cJ C st a w ν→wpOps P ops Q (List.range' k gs.length) a w
 |[],[],k,_,_,st,a,w,ν,he,aJ=>by simp only[List.length_nil,List.range'_zero,wpOps];exact ht _ _ _ _ he aJ
 |[],_::_,_,_,ab,_,_,_,_,_,_=>by simp[jZ]at ab
 |_::_,[],_,_,ab,_,_,_,_,_,_=>by simp[jZ]at ab
 |g::gs,o::os,k,yM,ab,st,a,w,ν,he,aJ=>by
  simp only[jZ,cA]at ab;have bs:ops[k]? =some o:=by simpa using(yM 0).symm
  have Bo:∀j,os[j]? =ops[k+1+j]?:=fun j=>by have:=yM (j+1);simpa[Nat.add_assoc,Nat.add_comm 1 j]using this
  simp only[pK,List.range'_succ,wpOps,bs];have bM:∀st' bj w' bn,hJ P gs st' K→cJ C st' bj w' bn→wpOps P ops Q (List.range' (k+1) gs.length) bj w':=fun st' bj w' bn J U=>O5 aO ht gs os (k+1) Bo ab.2 st' bj w' bn J U;obtain⟨mr,PT⟩:=g;have a1:=ab.1;simp only[AM,cA]at a1;obtain⟨p4,qN⟩:=a1;cases mr with
  |none=>
   cases eM:o.guard with
   |some x=>simp[eM]at p4
   |none=>
    have hw:od o (yielded ops a.tmps)=true:=by simp[od,eM]
    rw[if_pos hw];simp only[hJ]at he;exact .inl (O1 aO aJ qN he bM)
  |some xK=>
   obtain⟨s,want⟩:=xK;cases eM:o.guard with
   |none=>simp[eM]at p4
   |some x=>
    obtain⟨j,bY⟩:=x;simp only[eM,cA,dG,fx]at p4;obtain⟨⟨⟨⟨rfl,U⟩,al⟩,a6⟩,bW⟩:=p4;obtain⟨kg,oa⟩:=VM aJ U al;simp only[hJ]at he;split at he
    ·rename_i b ae;have aL:=kg b ae;by_cases e:b=want
     ·subst e;have hw:od o (yielded ops a.tmps)=true:=by simp[od,eM,aL]
      rw[if_pos hw];exact .inl (O1 aO (KD aJ ae) qN (he.1 rfl) bM)
     ·have hw:¬(od o (yielded ops a.tmps)=true):=by simp[od,eM,aL,e]
      rw[if_neg hw];have fL:b= !want:=by cases b<;>cases want<;>simp at e⊢
      have lW:cJ C {st with t:=put s (.bool !want) st.t} a w ν:=KD aJ (by rw[ae,fL]);rw[a6];exact bM _ _ _ _ (he.2 fL) (lW.put bW (by simp[a7,cH,undef]))
    ·rename_i ae;have aL:=oa ae;have hw:¬(od o (yielded ops a.tmps)=true):=by simp[od,eM,aL]
     rw[if_neg hw,a6];exact bM _ _ _ _ he (aJ.put bW (by simp[a7,cH,undef]))
    ·exact he.elim
structure dc where
 t:Nat→ah
 b:aD→aW (List ah)
 e:aD→aW fF
 F:aD→Prop
structure kj where
 d:aW Nat
 p:ah
 bw:List (aD×List ah)
 ew:List (aD×fF)
 rm:aW aD
def h5{α:Type}(l:List (aD×α))(f:aD→aW α):aD→aW α:=fun k=>match look k l with|some x=>some x|none=>f k
def dc.do(A:dc)(x:kj):dc:={t:=fun i=>if x.d=some i then x.p else A.t i,b:=h5 x.bw A.b,e:=h5 x.ew A.e,F:=fun k=>A.F k∧x.rm≠some k}
structure kj.apart (x y:kj):Prop where
 d:∀i,x.d=some i→y.d≠some i
 b:∀k,(look k x.bw).isSome→look k y.bw=none
 e:∀k,(look k x.ew).isSome→look k y.ew=none
theorem dc.do_comm(A:dc){x y:kj}(h:x.apart y):(A.do x).do y=(A.do y).do x:=by
 simp only[dc.do,dc.mk.injEq];refine⟨?_,?_,?_,?_⟩
 ·funext i;by_cases J:x.d=some i
  ·have:=h.d i J;simp[J,this]
  ·simp[J]
 ·funext k;simp only[h5];cases ad:look k x.bw with
  |none=>cases look k y.bw<;>rfl
  |some u=>rw[h.b k (by simp[ad])]
 ·funext k;simp only[h5];cases ad:look k x.ew with
  |none=>cases look k y.ew<;>rfl
  |some u=>rw[h.e k (by simp[ad])]
 ·funext k;exact propext ⟨fun h=>⟨⟨h.1.1,h.2⟩,h.1.2⟩,fun h=>⟨⟨h.1.1,h.2⟩,h.1.2⟩⟩
def dr(t:Nat→ah):dk→ah
 | .t i=>t i
 | .c p=>p
def q4(b:aD→aW (List ah))(e:aD→aW fF)(agg:Bool)(sz:Nat):ah→aW (Prop×ah)
 | .rptr dy k n i f=>xB agg sz dy n i f (e k)
 | .ptr k off=>
  match b k with
  |some cs=>if agg then some (hF cs=true∧off+sz≤cs.length,.agg ((cs.drop off).take sz))else(cs[off]?).map fun p=>(hF cs=true,p)
  |none=>none
 | .eptr p=>if agg then some (isAgg sz p,p)else some (dS p=true∧cells p=[p],p)
 |_=>none
def wa(t:Nat→ah):List ah→List (Nat×Nat×dk)→aW (Prop×List ah)
 |cs,[]=>some (True,cs)
 |cs,(off,sz,x)::r=>
  match wa t (nn cs off (cells (dr t x))) r with
  |some (c,cs')=>some ((dS (dr t x)=true∧(cells (dr t x)).length=sz∧off+sz≤cs.length)∧c,cs')
  |none=>none
def oT(t:Nat→ah)(b:aD→aW (List ah))(e:aD→aW fF):fI→aW (Prop×ah)
 | .mov x=>some (True,dr t x)
 | .pick c x y=>E9 (dr t c) (dr t x) (dr t y)
 | .load agg sz x=>q4 b e agg sz (dr t x)
 | .faddr off agg sz x=>o6 off agg sz (dr t x)
 | .fld off agg sz x=>qC off agg sz (dr t x)
 | .iaddr sz x i=>yY sz (dr t x) (dr t i)
 | .sidx x i=>FN (dr t x) (dr t i)
 | .ssl x lo hi=>FT (dr t x) (lo.map (dr t)) (hi.map (dr t))
 | .lsl sz x lo hi=>EL sz (dr t x) (lo.map (dr t)) (hi.map (dr t))
 | .bin op wr x y=>Am op wr (dr t x) (dr t y)
 | .notB x=>E0 (dr t x)
 | .neg x=>EW (dr t x)
 | .conv k x=>Ds k (dr t x)
 | .ext i x=>yg i (dr t x)
 | .len x=>y7 (dr t x)
 | .slen x=>Cw (dr t x)
 | .build zero parts=>(wa t zero parts).map fun(c,cs)=>(c,.agg cs)
 | .nck x=>zi (dr t x)
 | .min2 x y=>EV (dr t x) (dr t y)
 | .mkf n xs=>some (True,.func n (xs.map (dr t)))
 | .mget b7 zero ok x k=>nk b b7 zero ok (dr t x) (dr t k)
 | .ment x=>oN b (dr t x)
 | .mlen x=>tJ b (dr t x)
 | .beq neg dF x y=>h2 neg dF (dr t x) (dr t y)
 | .max2 x y=>EP (dr t x) (dr t y)
 | .mkif n x=>some (True,.iface n (dr t x))
 | .loadB agg sz x=>q4 b (fun _=>none) agg sz (dr t x)
 | .mgetB b7 zero ok x k=>nk b b7 zero ok (dr t x) (dr t k)
 | .loadZ agg sz x=>AL agg sz (dr t x)
structure kS (st:bo) (A:dc):Prop where
 t:∀i,get i st.t=A.t i
 b:∀k,look k st.b=A.b k
 e:∀k,look k st.e=A.e k
theorem il{st:bo}{A:dc}(h:kS st A)(x:dk):cg st.t x=dr A.t x:=by
 cases x
 ·exact h.t _
 ·rfl
theorem s7{st:bo}{A:dc}(h:kS st A):cg st.t=dr A.t:=funext (il h)
theorem aee{st:bo}{A:dc}(h:kS st A)(agg:Bool)(sz:Nat)(p:ah):l6 st.b st.e agg sz p=q4 A.b A.e agg sz p:=by
 cases p<;>simp only[l6,q4]
 ·rw[h.b];try rfl
 ·rw[h.e]
theorem aef{st:bo}{A:dc}(h:kS st A)(agg:Bool)(sz:Nat)(p:ah):l6 st.b [] agg sz p=q4 A.b (fun _=>none) agg sz p:=by
 cases p<;>simp only[l6,q4]
 ·rw[h.b];try rfl
 ·rfl
theorem Ms{st:bo}{A:dc}(h:kS st A):∀(parts:List (Nat×Nat×dk)) (cs:List ah),sV st.t cs parts=wa A.t cs parts
 |[],cs=>rfl
 |(off,sz,x)::r,cs=>by simp only[sV,wa,il h,Ms h r];try rfl
theorem U8{st:bo}{A:dc}(h:kS st A)(i:fI):gU st i=oT A.t A.b A.e i:=by have ae:(fun k=>look k st.b)=A.b:=funext h.b;cases i<;>simp only[gU,oT,s7 h,aee h,aef h,Ms h,ae]
def gR:dk→List Nat
 | .t i=>[i]
 | .c _=>[]
def J3:aW dk→List Nat
 |some x=>gR x
 |none=>[]
def fI.looks:fI→List Nat
 | .mov x| .load _ _ x| .loadB _ _ x| .loadZ _ _ x| .faddr _ _ _ x| .fld _ _ _ x| .notB x| .neg x| .conv _ x| .ext _ x| .len x| .slen x| .nck x| .ment x| .mlen x| .mkif _ x=>gR x
 | .pick c x y=>gR c++gR x++gR y
 | .iaddr _ x i| .sidx x i=>gR x++gR i
 | .ssl x lo hi| .lsl _ x lo hi=>gR x++J3 lo++J3 hi
 | .bin _ _ x y| .min2 x y| .max2 x y| .beq _ _ x y=>gR x++gR y
 | .build _ cm=>cm.flatMap fun p=>gR p.2.2
 | .mkf _ xs=>xs.flatMap gR
 | .mget _ _ _ x k| .mgetB _ _ _ x k=>gR x++gR k
def ea.looks:ea→List Nat
 | .v _ i=>i.looks
 | .box _ _ x=>gR x
 | .alloc _ _ _=>[]
 | .store _ x y=>gR x++gR y
 | .storeE _ x y=>gR x++gR y
 | .bsl _ _ _ xs=>xs.flatMap gR
 | .app _ _ _ x y=>gR x++gR y
 | .bslm _ _ _ _ xs=>xs.flatMap gR
 | .mks _ _ _ _ _ x=>gR x
 | .appm _ _ _ _ x y=>gR x++gR y
 | .mkmap _ _=>[]
 | .mput _ x k y=>gR x++gR k++gR y
 | .range _ _ x=>gR x
def dT.looks:dT→List Nat
 | .s i=>i.looks
 | .call _ f xs=>gR f++xs.flatMap gR
 | .next _ x=>gR x
def cY.looks(g:cY):List Nat:=(match g.g with|some (s,_)=>[s]|none=>[])++g.i.looks
def pR(l:List Nat)(t dD:Nat→ah):Prop:= ∀i∈l,t i=dD i
theorem gf{t dD:Nat→ah}{x:dk}(h:pR (gR x) t dD):dr t x=dr dD x:=by
 cases x
 ·exact h _ (by simp[gR])
 ·rfl
theorem jV{l aX:List Nat}{t dD:Nat→ah}(h:pR (l++aX) t dD):pR l t dD∧pR aX t dD:=⟨fun i hi=>h i (by simp[hi]),fun i hi=>h i (by simp[hi])⟩
theorem Dz{t dD:Nat→ah}{x:aW dk}(h:pR (J3 x) t dD):x.map (dr t)=x.map (dr dD):=by
 cases x
 ·rfl
 ·simp[gf h]
theorem Mr{t dD:Nat→ah}:∀{parts:List (Nat×Nat×dk)} {cs:List ah},pR (parts.flatMap fun p=>gR p.2.2) t dD→wa t cs parts=wa dD cs parts
 |[],cs,_=>rfl
 |(off,sz,x)::r,cs,h=>by simp only[List.flatMap_cons]at h;obtain⟨J,U⟩:=jV h;simp only[wa,gf J,Mr U]
theorem EO{t dD:Nat→ah}:∀{xs:List dk},pR (xs.flatMap gR) t dD→xs.map (dr t)=xs.map (dr dD)
 |[],_=>rfl
 |x::xs,h=>by simp only[List.flatMap_cons]at h;obtain⟨J,U⟩:=jV h;simp[gf J,EO U]
def fI.isLoad:fI→Bool
 | .load _ _ _=>true
 | .loadB _ _ _=>true
 | .mgetB _ _ _ _ _=>true
 | .mget _ _ _ _ _=>true
 | .ment _=>true
 | .mlen _=>true
 |_=>false
theorem ajl{t dD:Nat→ah}{b bY:aD→aW (List ah)}{e fB:aD→aW fF}{i:fI}(h:pR i.looks t dD)(ae:i.isLoad=false):oT t b e i=oT dD bY fB i:=by
 cases i<;>simp only[fI.looks]at h<;>simp only[oT];case load agg sz x=>simp[fI.isLoad]at ae
 case loadB agg sz x=>simp[fI.isLoad]at ae
 case pick c x y=>obtain⟨J,al⟩:=jV h;obtain⟨J,U⟩:=jV J;rw[gf J,gf U,gf al]
 case iaddr=>obtain⟨J,U⟩:=jV h;rw[gf J,gf U]
 case sidx=>obtain⟨J,U⟩:=jV h;rw[gf J,gf U]
 case ssl=>obtain⟨J,al⟩:=jV h;obtain⟨J,U⟩:=jV J;rw[gf J,Dz U,Dz al]
 case lsl=>obtain⟨J,al⟩:=jV h;obtain⟨J,U⟩:=jV J;rw[gf J,Dz U,Dz al]
 case bin=>obtain⟨J,U⟩:=jV h;rw[gf J,gf U]
 case min2=>obtain⟨J,U⟩:=jV h;rw[gf J,gf U]
 case build=>rw[Mr h]
 case mkf=>rw[EO h]
 case mget=>simp[fI.isLoad]at ae
 case mgetB=>simp[fI.isLoad]at ae
 case ment=>simp[fI.isLoad]at ae
 case mlen=>simp[fI.isLoad]at ae
 case max2=>obtain⟨J,U⟩:=jV h;rw[gf J,gf U]
 case beq=>obtain⟨J,U⟩:=jV h;rw[gf J,gf U]
 all_goals rw[gf h]
end Go.Pv
