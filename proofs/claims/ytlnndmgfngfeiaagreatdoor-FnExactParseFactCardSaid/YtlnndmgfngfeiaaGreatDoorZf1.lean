/- Rows of the call's own: a new one, and one that is appended to in place. -/
import Derived.WalkKit
import Derived.Orders
import Derived.KernelRfl
import Derived.IntWalk
import Derived.Laws.StructEq
import Derived.ChangeKeysEq
import Derived.MapKept
import Derived.ArgAppend
set_option linter.all false
set_option maxHeartbeats 4000000
set_option maxRecDepth 4000
namespace Go
theorem Ω{p:Prop}(h:p:=by omega):p:=h
theorem Ψ{p:Prop}(h:p:=by simp):p:=h
end Go
open Array renaming getD_eq_getD_getElem?->mg
open Bool renaming and_eq_true->bA,false_eq_true->ia,not_eq_true'->oO
open ByteArray renaming empty->aar,ext->WA,push->aas,size->Gj
open Go renaming Operand->gY,Program->bp,TypeId->eU
open Go.ByteArray renaming toList_eq->WB
open Go.IntKind renaming i64->jY
open Go.IntWalk renaming i64_in->ll
open Go.Result renaming andThen_ok->eg
open Go.Sem renaming run_bind->ee,run_pure->eT
open Go.Value renaming cells->mj,int->lM,ownBlock->ln
open Go.Value.pointer renaming injEq->aax
open List renaming all_eq_true->kj,cons_append->eI,eq_nil_of_length_eq_zero->pS,getElem?_eq_getElem->eh,getElem?_eq_some_iff->fG,length_append->jA,length_cons->lN,length_drop->lp,map_cons->gZ,mem_append->ha,mem_cons->gp
open List.cons renaming injEq->MR
open Nat renaming le_refl->cE
open Option renaming isSome_iff_exists->ei,isSome_none->qF,map_eq_some_iff->lr,map_some->mZ
open Option.some renaming injEq->dv
open Prod.mk renaming injEq->hx
open UInt8 renaming ofNat->lP
open _root_ renaming ByteArray->ib,False->cw,Option->aV,UInt8->aC,beq_iff_eq->df,congrArg->dq,decide_eq_true_eq->fH,if_neg->be
namespace Go.Pv
section
open Go Go.RowKit
inductive aq where
 |loc (s:Nat)
 |obj (n:Nat)
 deriving DecidableEq,Inhabited
inductive jZ where
 |no
 |nil
 |own (k:aq)
 |tr (k:aq) (j:Nat)
 |lo (k:aq)
 deriving DecidableEq,Inhabited
inductive ab where
 |junk
 |int (k:IntKind) (n:Int)
 |bool (b:Bool)
 |str (s:List aC)
 |slice (sz:Nat) (tag:jZ) (xs:List ab)
 |agg (cs:List ab)
 |ptr (key:aq) (off:Nat)
 |eptr (x:ab)
 |iface (t:Nat) (x:ab)
 |nilp
 |tuple (vs:List ab)
 |func (f:Nat) (cG:List ab)
 |gmap (key:aq)
 |row (sz:Nat) (key:aq) (n:Nat)
 |rptr (sz:Nat) (key:aq) (n i f:Nat)
 |hdm (clock:Nat) (borns:List Nat)
 |hdi (since:Nat) (seen:List Nat) (last:Nat)
 |cst (v:Value)
 deriving Inhabited
structure aD where
 A:Nat->Nat->Prop
 bx:aq->aV Nat
 ow:aq->aV (Nat×Value)
 tr:aq->Nat->Nat->Prop
def bX:Nat:=68719476736
def h5(w:World)(A:Nat->Nat->Prop)(b:Nat):Nat->List Value->Prop
 |_,[]=>True
 |off,u::us=>(A b off/\w.cell? ⟨b,off,none⟩=some u)/\h5 w A b (off+1) us
def shape(w:World)(b:Nat):aV (Nat×eU×(Nat×Nat)):=
 match w.heap[b]? with
 |some (.cells cur el fz)=>some (cur.size,el,fz)
 |_=>none
theorem wO{w w':World}{b:Nat}(h:w'.heap[b]? =w.heap[b]?):shape w' b=shape w b:=by unfold shape;rw[h]
mutual
def bQ(t:Bool)(w:World)(A:Nat->Nat->Prop)(F:Nat->Prop):ab->Value->Prop
 | .int k n,v=>v= .int k n
 | .bool b,v=>v= .bool b
 | .str s,v=>v= .string ⟨s.toArray⟩/\s.length<=bX
 | .slice sz _ xs,v=> ∃a cap,v= .slice a xs.length cap/\xs.length<=cap/\(cap<=maxLen/\xs.length<=bX)/\
   (xs=[]\/ ∃b off us G,a=some ⟨b,off,none⟩/\F b/\(∀c,G c->F c/\(t=true->c≠b))/\h5 w A b off us/\(t=true->off=0/\0<us.length/\∃el,shape w b=some (cap*sz,el,(0,0)))/\hA t w A G sz xs us)
 | .agg cs,v=> ∃us:Array Value,v= .agg us/\h1 t w A F cs us.toList
 |_,_=>cw
def h1(t:Bool)(w:World)(A:Nat->Nat->Prop)(F:Nat->Prop):List ab->List Value->Prop
 |[],us=>us=[]
 |c::cs,us=> ∃u a6 e2 e3,us=u::a6/\((∀b,e2 b->F b)/\(∀b,e3 b->F b)/\(t=true->∀b,e2 b->¬e3 b))/\(bQ t w A e2 c u/\u.oneCell'=true)/\h1 t w A e3 cs a6
def hA(t:Bool)(w:World)(A:Nat->Nat->Prop)(F:Nat->Prop)(sz:Nat):List ab->List Value->Prop
 |[],us=>us=[]
 |x::xs,us=> ∃u a6 e2 e3,us=u.cells.toList++a6/\((∀b,e2 b->F b)/\(∀b,e3 b->F b)/\(t=true->∀b,e2 b->¬e3 b))/\(bQ t w A e2 x u/\u.cells.size=sz/\(∀c∈u.cells.toList,c.oneCell'=true))/\hA t w A e3 sz xs a6
end
def rQ(f:Nat):Nat:=f-1000000
def p3(f:Nat)(us:Array Value):Value:=if f<1000000 then .func (.func f) #[] us else .func (.func (rQ f)) us #[]
theorem Qi{f:Nat}(h:f<1000000)(us:Array Value):p3 f us= .func (.func f) #[] us:=if_pos h
theorem Qh{f:Nat}(h:¬f<1000000)(us:Array Value):p3 f us= .func (.func (rQ f)) us #[]:=be h
theorem Qg(m:Nat)(us:Array Value):p3 (m+1000000) us= .func (.func m) us #[]:=by unfold p3 rQ;rw[be Ω,Nat.add_sub_cancel]
mutual
def aw(w:World)(ν:aD):ab->Value->Prop
 | .junk,_=>True
 | .int k n,v=>v= .int k n
 | .bool b,v=>v= .bool b
 | .str s,v=>v= .string ⟨s.toArray⟩/\s.length<=bX
 | .slice sz tag xs,v=>
   (∃a cap,v= .slice a xs.length cap/\xs.length<=cap/\(cap<=maxLen/\xs.length<=bX)/\(xs=[]\/ ∃b off us,a=some ⟨b,off,none⟩/\h5 w ν.A b off us/\b4 w ν sz xs us))/\
   (tag= .nil->v= .slice none 0 0)/\
   (∀g,tag= .own g->∃n u,ν.ow g=some (n,u)/\xs.length<=n/\(xs.length=n->v=u))/\
   (∀k j,tag= .tr k j->bQ true w ν.A (ν.tr k j) (.slice sz tag xs) v)/\(∀k,tag= .lo k->bQ false w ν.A (ν.tr k 0) (.slice sz tag xs) v)
 | .agg cs,v=> ∃us:Array Value,v= .agg us/\bV w ν cs us.toList
 | .ptr key off,v=> ∃b,ν.bx key=some b/\v= .pointer (some ⟨b,off,none⟩)
 | .eptr x,v=> ∃b off u,v= .pointer (some ⟨b,off,none⟩)/\aw w ν x u/\h5 w ν.A b off u.cells.toList
 | .iface t x,v=> ∃u,v= .iface t u/\aw w ν x u
 | .nilp,v=>v= .pointer none
 | .tuple vs,v=> ∃us:Array Value,v= .tuple us/\bP w ν vs us.toList
 | .func f cG,v=> ∃us:Array Value,v=p3 f us/\bP w ν cG us.toList
 | .gmap key,v=> ∃b,ν.bx key=some b/\v= .map (some b)
 | .row _ key n,v=>(∃b cap,v= .slice (some ⟨b,0,none⟩) n cap)/\n<=bX/\∃n' u,ν.ow key=some (n',u)/\n<=n'/\(n=n'->v=u)
 | .rptr sz key n i f,v=>(∃b o,v= .pointer (some ⟨b,o,none⟩))/\i<n/\∃n' u,ν.ow key=some (n',u)/\n<=n'/\(n=n'->∃b,u.ownBlock=some b/\v= .pointer (some ⟨b,i*sz+f,none⟩))
 | .hdm _ _,_=>cw
 | .hdi _ _ _,_=>cw
 | .cst c,v=>v=c
def bV(w:World)(ν:aD):List ab->List Value->Prop
 |[],us=>us=[]
 |c::cs,us=> ∃u a6,us=u::a6/\(aw w ν c u/\u.oneCell'=true)/\bV w ν cs a6
def bP(w:World)(ν:aD):List ab->List Value->Prop
 |[],us=>us=[]
 |c::cs,us=> ∃u a6,us=u::a6/\aw w ν c u/\bP w ν cs a6
def b4(w:World)(ν:aD)(sz:Nat):List ab->List Value->Prop
 |[],us=>us=[]
 |x::xs,us=> ∃u a6,us=u.cells.toList++a6/\(aw w ν x u/\u.cells.size=sz/\(∀c∈u.cells.toList,c.oneCell'=true))/\b4 w ν sz xs a6
end
theorem sW{w w':World}{A A':Nat->Nat->Prop}{b:Nat}(aT:∀b o,A b o->A' b o/\w'.cell? ⟨b,o,none⟩=w.cell? ⟨b,o,none⟩):
  ∀(us:List Value) (off:Nat),h5 w A b off us->h5 w' A' b off us
 |[],_,_=>trivial
 |_::us,off,h=>⟨⟨(aT _ _ h.1.1).1,(aT _ _ h.1.1).2.trans h.1.2⟩,sW aT us (off+1) h.2⟩
mutual
theorem p5{t:Bool}{w w':World}{A A':Nat->Nat->Prop}(aT:∀b o,A b o->A' b o/\w'.cell? ⟨b,o,none⟩=w.cell? ⟨b,o,none⟩)(ao:∀b o,A b o->shape w' b=shape w b):∀(p:ab) (F mn:Nat->Prop) (v:Value),(∀b,F b->mn b)->bQ t w A F p v->bQ t w' A' mn p v
 | .int k n,_,_,_,_,h=>by simp only[bQ]at h⊢;exact h
 | .bool b,_,_,_,_,h=>by simp only[bQ]at h⊢;exact h
 | .str s,_,_,_,_,h=>by simp only[bQ]at h⊢;exact h
 | .slice sz tag xs,F,mn,v,ez,h=>by
  simp only[bQ]at h⊢;obtain⟨a,cap,I,aa,ak,aK⟩:=h;refine⟨a,cap,I,aa,ak,?_⟩;rcases aK with aK|⟨b,off,us,G,ah,aE,bg,cB,hc,e0⟩
  ·exact .inl aK
  ·refine .inr ⟨b,off,us,G,ah,ez _ aE,fun c az=>⟨ez _ (bg c az).1,(bg c az).2⟩,sW aT _ _ cB,fun au=>?_,zT aT ao xs G G _ (fun _ h=>h) e0⟩;obtain⟨f1,f2,el,f3⟩:=hc au;refine⟨f1,f2,el,?_⟩;cases us with
   |nil=>simp at f2
   |cons u us=>rw[ao b off cB.1.1];exact f3
 | .agg cs,F,mn,v,ez,h=>by simp only[bQ]at h⊢;obtain⟨us,I,aa⟩:=h;exact⟨us,I,Iu aT ao cs F mn _ ez aa⟩
 | .junk,_,_,_,_,h=>by simp[bQ]at h
 | .ptr _ _,_,_,_,_,h=>by simp[bQ]at h
 | .eptr _,_,_,_,_,h=>by simp[bQ]at h
 | .iface _ _,_,_,_,_,h=>by simp[bQ]at h
 | .nilp,_,_,_,_,h=>by simp[bQ]at h
 | .tuple _,_,_,_,_,h=>by simp[bQ]at h
 | .func _ _,_,_,_,_,h=>by simp[bQ]at h
 | .gmap _,_,_,_,_,h=>by simp[bQ]at h
 | .row _ _ _,_,_,_,_,h=>by simp[bQ]at h
 | .rptr _ _ _ _ _,_,_,_,_,h=>by simp[bQ]at h
 | .hdm _ _,_,_,_,_,h=>by simp[bQ]at h
 | .hdi _ _ _,_,_,_,_,h=>by simp[bQ]at h
 | .cst _,_,_,_,_,h=>by simp[bQ]at h
theorem Iu{t:Bool}{w w':World}{A A':Nat->Nat->Prop}(aT:∀b o,A b o->A' b o/\w'.cell? ⟨b,o,none⟩=w.cell? ⟨b,o,none⟩)(ao:∀b o,A b o->shape w' b=shape w b):∀(cs:List ab) (F mn:Nat->Prop) (us:List Value),(∀b,F b->mn b)->h1 t w A F cs us->h1 t w' A' mn cs us
 |[],_,_,_,_,h=>by simp only[h1]at h⊢;exact h
 |c::cs,F,mn,us,ez,h=>by simp only[h1]at h⊢;obtain⟨u,a6,e2,e3,I,⟨aa,ak,aK⟩,⟨bb,ct⟩,dZ⟩:=h;exact⟨u,a6,e2,e3,I,⟨fun b af=>ez _ (aa b af),fun b af=>ez _ (ak b af),aK⟩,⟨p5 aT ao c e2 e2 u (fun _ h=>h) bb,ct⟩,Iu aT ao cs e3 e3 a6 (fun _ h=>h) dZ⟩
theorem zT{t:Bool}{w w':World}{A A':Nat->Nat->Prop}(aT:∀b o,A b o->A' b o/\w'.cell? ⟨b,o,none⟩=w.cell? ⟨b,o,none⟩)(ao:∀b o,A b o->shape w' b=shape w b){sz:Nat}:∀(cs:List ab) (F mn:Nat->Prop) (us:List Value),(∀b,F b->mn b)->hA t w A F sz cs us->hA t w' A' mn sz cs us
 |[],_,_,_,_,h=>by simp only[hA]at h⊢;exact h
 |c::cs,F,mn,us,ez,h=>by simp only[hA]at h⊢;obtain⟨u,a6,e2,e3,I,⟨aa,ak,aK⟩,⟨bb,ct⟩,dZ⟩:=h;exact⟨u,a6,e2,e3,I,⟨fun b af=>ez _ (aa b af),fun b af=>ez _ (ak b af),aK⟩,⟨p5 aT ao c e2 e2 u (fun _ h=>h) bb,ct⟩,zT aT ao cs e3 e3 a6 (fun _ h=>h) dZ⟩
end
mutual
def kin(S:aq->Prop):ab->Prop
 | .slice _ tag xs=>(match tag with| .own k=>S k| .tr k _=>S k| .lo k=>S k|_=>True)/\kinL S xs
 | .agg cs=>kinL S cs
 | .ptr k _=>S k
 | .eptr x=>kin S x
 | .iface _ x=>kin S x
 | .tuple vs=>kinL S vs
 | .func _ cG=>kinL S cG
 | .gmap k=>S k
 | .row _ k _=>S k
 | .rptr _ k _ _ _=>S k
 |_=>True
def kinL(S:aq->Prop):List ab->Prop
 |[]=>True
 |x::xs=>kin S x/\kinL S xs
end
mutual
theorem l6{S T:aq->Prop}(h:∀k,S k->T k):∀p:ab,kin S p->kin T p
 | .junk,_=>by simp[kin]
 | .int _ _,_=>by simp[kin]
 | .bool _,_=>by simp[kin]
 | .str _,_=>by simp[kin]
 | .slice sz tag xs,aY=>by simp only[kin]at aY⊢;exact⟨by cases tag<;>first|trivial|exact h _ aY.1,lF h xs aY.2⟩
 | .agg cs,aY=>by simp only[kin]at aY⊢;exact lF h cs aY
 | .ptr k _,aY=>by simp only[kin]at aY⊢;exact h _ aY
 | .eptr x,aY=>by simp only[kin]at aY⊢;exact l6 h x aY
 | .iface _ x,aY=>by simp only[kin]at aY⊢;exact l6 h x aY
 | .nilp,_=>by simp[kin]
 | .tuple vs,aY=>by simp only[kin]at aY⊢;exact lF h vs aY
 | .func _ cG,aY=>by simp only[kin]at aY⊢;exact lF h cG aY
 | .gmap k,aY=>by simp only[kin]at aY⊢;exact h _ aY
 | .row _ k _,aY=>by simp only[kin]at aY⊢;exact h _ aY
 | .rptr _ k _ _ _,aY=>by simp only[kin]at aY⊢;exact h _ aY
 | .hdm _ _,_=>by simp[kin]
 | .hdi _ _ _,_=>by simp[kin]
 | .cst _,_=>by simp[kin]
theorem lF{S T:aq->Prop}(h:∀k,S k->T k):∀aZ:List ab,kinL S aZ->kinL T aZ
 |[],_=>by simp[kinL]
 |x::xs,aY=>by simp only[kinL]at aY⊢;exact⟨l6 h x aY.1,lF h xs aY.2⟩
end
mutual
theorem AO:∀p:ab,kin (fun _=>True) p
 | .junk=>by simp[kin]
 | .int _ _=>by simp[kin]
 | .bool _=>by simp[kin]
 | .str _=>by simp[kin]
 | .slice sz tag xs=>by simp only[kin];exact⟨by cases tag<;>trivial,sU xs⟩
 | .agg cs=>by simp only[kin];exact sU cs
 | .ptr k _=>by simp[kin]
 | .eptr x=>by simp only[kin];exact AO x
 | .iface _ x=>by simp only[kin];exact AO x
 | .nilp=>by simp[kin]
 | .tuple vs=>by simp only[kin];exact sU vs
 | .func _ cG=>by simp only[kin];exact sU cG
 | .gmap k=>by simp[kin]
 | .row _ k _=>by simp[kin]
 | .rptr _ k _ _ _=>by simp[kin]
 | .hdm _ _=>by simp[kin]
 | .hdi _ _ _=>by simp[kin]
 | .cst _=>by simp[kin]
theorem sU:∀aZ:List ab,kinL (fun _=>True) aZ
 |[]=>by simp[kinL]
 |x::xs=>by simp only[kinL];exact⟨AO x,sU xs⟩
end
def eK:List Nat->List Value->List MapEntry
 |b::dx,k::v::r=>⟨k,v,b⟩::eK dx r
 |_,_=>[]
def hp(cs:List ab)(us:Array Value)(el:eU):Obj:=
 match cs with
 | .hdm clock borns::_=>.map (eK borns us.toList).toArray clock
 | .hdi since seen last::_=>.mapIter (match us.toList with|[.map m]=>m|_=>none) since seen.toArray last
 |_=>.cells us el
structure Te (clock:Nat) (borns:List Nat) (r:List ab):Prop where
 len:r.length=2*borns.length
 inc:borns.Pairwise (· < ·)
 lt:∀b∈borns,b<clock
def gJ(w:World)(ν:aD)(cs:List ab)(us:List Value):Prop:=
 match cs with
 | .hdm clock borns::r=>bP w ν r us/\Te clock borns r
 | .hdi _ _ _::r=>bP w ν r us
 |cs=>bV w ν cs us
def fm:List ab->Bool
 | .hdm _ _::_=>false
 | .hdi _ _ _::_=>false
 |_=>true
theorem qu{w:World}{ν:aD}{cs:List ab}{us:List Value}(h:bV w ν cs us):fm cs=true:=by
 unfold fm;split
 ·simp only[bV,aw]at h;obtain⟨_,_,_,⟨h,_⟩,_⟩:=h;exact h.elim
 ·simp only[bV,aw]at h;obtain⟨_,_,_,⟨h,_⟩,_⟩:=h;exact h.elim
 ·rfl
theorem lJ{cs:List ab}(h:fm cs=true)(us:Array Value)(el:eU):hp cs us el= .cells us el:=by
 unfold fm at h;unfold hp;split at h<;>first|cases h|skip
 rfl
theorem lk{w:World}{ν:aD}{cs:List ab}(h:fm cs=true)(us:List Value):gJ w ν cs us=bV w ν cs us:=by
 unfold fm at h;unfold gJ;split at h<;>first|cases h|skip
 rfl
structure kU (S:aq->Prop) (w:World) (ν:aD) (w':World) (ν':aD):Prop where
 A:∀b o,ν.A b o->ν'.A b o/\w'.cell? ⟨b,o,none⟩=w.cell? ⟨b,o,none⟩
 bx:∀k b,S k->ν.bx k=some b->ν'.bx k=some b
 ow:∀g n u,S g->ν.ow g=some (n,u)->∃n' dw,ν'.ow g=some (n',dw)/\(n'=n/\dw=u\/n<n')
 sh:∀b o,ν.A b o->shape w' b=shape w b
 tr:∀k j b,S k->ν.tr k j b->ν'.tr k j b
abbrev km:=kU (fun _=>True)
mutual
theorem oB{S:aq->Prop}{w w':World}{ν ν':aD}(ag:kU S w ν w' ν'):∀(p:ab) (v:Value),kin S p->aw w ν p v->aw w' ν' p v
 | .junk,_,_,_=>by simp[aw]
 | .int k n,_,_,h=>by simp only[aw]at h⊢;exact h
 | .bool b,_,_,h=>by simp only[aw]at h⊢;exact h
 | .str s,_,_,h=>by simp only[aw]at h⊢;exact h
 | .slice sz tag xs,v,J,h=>by
  simp only[aw,kin]at h J⊢;obtain⟨⟨a,cap,I,aa,ak,aK⟩,bb,ct,hS,fb⟩:=h;refine⟨⟨a,cap,I,aa,ak,?_⟩,bb,fun g aP=>?_,fun k j fU=>?_,fun k fU=>?_⟩
  ·rcases aK with aK|⟨b,off,us,aK,ct,dZ⟩
   ·exact .inl aK
   ·exact .inr ⟨b,off,us,aK,sW ag.A _ _ ct,BB ag sz xs us J.2 dZ⟩
  ·obtain⟨n,u,ah,aE,bg⟩:=ct g aP;subst aP;obtain⟨n',dw,f1,f2⟩:=ag.ow g n u J.1 ah;refine⟨n',dw,f1,?_⟩;rcases f2 with⟨rfl,rfl⟩|f2
   ·exact⟨aE,bg⟩
   ·exact⟨Ω,fun e=>Ω⟩
  ·have:=hS k j fU;subst fU;exact p5 ag.A ag.sh _ _ _ _ (fun b=>ag.tr k j b J.1) this
  ·have:=fb k fU;subst fU;exact p5 ag.A ag.sh _ _ _ _ (fun b=>ag.tr k 0 b J.1) this
 | .agg cs,v,J,h=>by simp only[aw,kin]at h J⊢;obtain⟨us,I,aa⟩:=h;exact⟨us,I,BD ag cs _ J aa⟩
 | .ptr key off,v,J,h=>by simp only[aw,kin]at h J⊢;obtain⟨b,I,aa⟩:=h;exact⟨b,ag.bx _ _ J I,aa⟩
 | .iface t x,v,J,h=>by simp only[aw,kin]at h J⊢;obtain⟨u,I,aa⟩:=h;exact⟨u,I,oB ag x u J aa⟩
 | .eptr x,v,J,h=>by simp only[aw,kin]at h J⊢;obtain⟨b,off,u,I,aa,ak⟩:=h;exact⟨b,off,u,I,oB ag x u J aa,sW ag.A _ _ ak⟩
 | .nilp,_,_,h=>by simp only[aw]at h⊢;exact h
 | .tuple vs,v,J,h=>by simp only[aw,kin]at h J⊢;obtain⟨us,I,aa⟩:=h;exact⟨us,I,wK ag vs _ J aa⟩
 | .func f cG,v,J,h=>by simp only[aw,kin]at h J⊢;obtain⟨us,I,aa⟩:=h;exact⟨us,I,wK ag cG _ J aa⟩
 | .gmap key,v,J,h=>by simp only[aw,kin]at h J⊢;obtain⟨b,I,aa⟩:=h;exact⟨b,ag.bx _ _ J I,aa⟩
 | .row sz key n,v,J,h=>by
  simp only[aw,kin]at h J⊢;obtain⟨I,aa,n',u,ak,aK,bb⟩:=h;obtain⟨eM,h7,f1,f2⟩:=ag.ow key n' u J ak;refine⟨I,aa,eM,h7,f1,?_⟩;rcases f2 with⟨rfl,rfl⟩|f2
  ·exact⟨aK,bb⟩
  ·exact⟨Ω,fun e=>Ω⟩
 | .rptr sz key n i f,v,J,h=>by
  simp only[aw,kin]at h J⊢;obtain⟨I,aa,n',u,ak,aK,bb⟩:=h;obtain⟨eM,h7,f1,f2⟩:=ag.ow key n' u J ak;refine⟨I,aa,eM,h7,f1,?_⟩;rcases f2 with⟨rfl,rfl⟩|f2
  ·exact⟨aK,bb⟩
  ·exact⟨Ω,fun e=>Ω⟩
 | .hdm _ _,_,_,h=>by simp only[aw]at h
 | .hdi _ _ _,_,_,h=>by simp only[aw]at h
 | .cst c,_,_,h=>by simp only[aw]at h⊢;exact h
theorem BD{S:aq->Prop}{w w':World}{ν ν':aD}(ag:kU S w ν w' ν'):∀(cs:List ab) (us:List Value),kinL S cs->bV w ν cs us->bV w' ν' cs us
 |[],_,_,h=>by simp only[bV]at h⊢;exact h
 |c::cs,us,J,h=>by simp only[bV,kinL]at h J⊢;obtain⟨u,a6,I,aa,ak⟩:=h;exact⟨u,a6,I,⟨oB ag c u J.1 aa.1,aa.2⟩,BD ag cs a6 J.2 ak⟩
theorem wK{S:aq->Prop}{w w':World}{ν ν':aD}(ag:kU S w ν w' ν'):∀(cs:List ab) (us:List Value),kinL S cs->bP w ν cs us->bP w' ν' cs us
 |[],_,_,h=>by simp only[bP]at h⊢;exact h
 |c::cs,us,J,h=>by simp only[bP,kinL]at h J⊢;obtain⟨u,a6,I,aa,ak⟩:=h;exact⟨u,a6,I,oB ag c u J.1 aa,wK ag cs a6 J.2 ak⟩
theorem BB{S:aq->Prop}{w w':World}{ν ν':aD}(ag:kU S w ν w' ν')(sz:Nat):∀(xs:List ab) (us:List Value),kinL S xs->b4 w ν sz xs us->b4 w' ν' sz xs us
 |[],_,_,h=>by simp only[b4]at h⊢;exact h
 |x::xs,us,J,h=>by simp only[b4,kinL]at h J⊢;obtain⟨u,a6,I,⟨aa,ak,aK⟩,bb⟩:=h;exact⟨u,a6,I,⟨oB ag x u J.1 aa,ak,aK⟩,BB ag sz xs a6 J.2 bb⟩
end
theorem Fb{S:aq->Prop}{w w':World}{ν ν':aD}(ag:kU S w ν w' ν'){cs:List ab}{us:List Value}(J:kinL S cs)(h:gJ w ν cs us):gJ w' ν' cs us:=by
 unfold gJ at h⊢;split
 ·simp only[kinL]at J;exact⟨wK ag _ _ J.2 h.1,h.2⟩
 ·simp only[kinL]at J;exact wK ag _ _ J.2 h
 ·rename_i I aa;split at h
  ·exact absurd rfl (I _ _ _)
  ·exact absurd rfl (aa _ _ _ _)
  ·exact BD ag _ _ J h
section
variable {w w':World} {ν ν':aD} (ag:km w ν w' ν')
include ag
theorem rC{p:ab}{v:Value}(h:aw w ν p v):aw w' ν' p v:=oB ag p v (AO p) h
theorem Lz{p:List ab}{v:List Value}(h:bV w ν p v):bV w' ν' p v:=BD ag p v (sU p) h
theorem nH{p:List ab}{v:List Value}(h:gJ w ν p v):gJ w' ν' p v:=Fb ag (sU p) h
theorem wG{sz:Nat}{p:List ab}{v:List Value}(h:b4 w ν sz p v):b4 w' ν' sz p v:=BB ag sz p v (sU p) h
end
end
section
open Go Go.RowKit
def get(k:Nat):List (Nat×ab)->ab
 |[]=>.junk
 |(i,p)::r=>if i=k then p else get k r
def put(k:Nat)(p:ab):List (Nat×ab)->List (Nat×ab)
 |[]=>[(k,p)]
 |(i,q)::r=>if i=k then(i,p)::r else(i,q)::put k p r
def look{α:Type}(k:aq):List (aq×α)->aV α
 |[]=>none
 |(i,p)::r=>if i=k then some p else look k r
def ck{α:Type}(k:aq)(p:α):List (aq×α)->List (aq×α)
 |[]=>[(k,p)]
 |(i,q)::r=>if i=k then(i,p)::r else(i,q)::ck k p r
theorem nn(k j:Nat)(p:ab):∀l,get j (put k p l)=if k=j then p else get j l
 |[]=>by simp[get,put]
 |(i,q)::r=>by
  by_cases h:i=k
  ·subst h;by_cases aa:i=j<;>simp[get,put,aa]
  ·by_cases aa:i=j
   ·subst aa;simp[get,put,h,Ne.symm h]
   ·simp[get,put,h,aa,nn k j p r]
theorem hJ{α:Type}(k j:aq)(p:α):∀l,look j (ck k p l)=if k=j then some p else look j l
 |[]=>by simp[look,ck]
 |(i,q)::r=>by
  by_cases h:i=k
  ·subst h;by_cases aa:i=j<;>simp[look,ck,aa]
  ·by_cases aa:i=j
   ·subst aa;simp[look,ck,h,Ne.symm h]
   ·simp[look,ck,h,aa,hJ k j p r]
structure cq where
 n:Nat
 el:Nat
 sz:Nat
 xs:aV (List ab)
def Fm(w:World)(ν:aD)(o:cq)(v:Value)(us:List Value):Prop:=∀xs,o.xs=some xs->xs.length=o.n/\b4 w ν o.sz xs us/\∀bl,v.ownBlock=some bl->∀j,¬ν.A bl j
theorem pJ{w w':World}{ν ν':aD}(ag:km w ν w' ν'){o:cq}{v:Value}{us:List Value}(aT:∀bl,v.ownBlock=some bl->∀j,ν'.A bl j->ν.A bl j)(h:Fm w ν o v us):Fm w' ν' o v us:=fun xs ad=>⟨(h xs ad).1,wG ag (h xs ad).2.1,fun bl af j av=>(h xs ad).2.2 bl af j (aT bl af j av)⟩
def ef(S:aq->Prop)(o:cq):Prop:= ∀xs,o.xs=some xs->kinL S xs
structure aN where
 t:List (Nat×ab)
 b:List (aq×List ab)
 e:List (aq×cq)
 n:Nat
 o:List aq
def fresh(n:Nat)(o:List aq)(k:aq):Prop:=(match k with| .loc m=>n<=m| .obj _=>True)/\k∉o
theorem oh{n n':Nat}{o o':List aq}(aR:n<=n')(ag:∀k∈o,k∈o'){k:aq}(h:fresh n' o' k):fresh n o k:=by unfold fresh at h⊢;exact⟨by cases k<;>simp at h⊢;omega,fun J=>h.2 (ag k J)⟩
def tj(ν:aD)(b:List (aq×List ab))(e:List (aq×cq))(bl:Nat):Prop:=(∃k,(look k b).isSome/\ν.bx k=some bl)\/(∃g n v,(look g e).isSome/\ν.ow g=some (n,v)/\v.ownBlock=some bl)
def FQ:Nat:=106
def B4(k:aq):={el:eU//k= .obj 861->el=FQ}
structure Good (pr:Nat->Prop) (w:World) (ν:aD) (b:List (aq×List ab)) (e:List (aq×cq)):Prop where
 alt:∀bl o,ν.A bl o->bl<w.heap.size
 box:∀k cs,look k b=some cs->∃(bl:Nat) (us:Array Value) (el:B4 k),ν.bx k=some bl/\pr bl/\(∀o,¬ν.A bl o)/\w.heap[bl]? =some (hp cs us el.1)/\gJ w ν cs us.toList
 inj:∀k aX bl,(look k b).isSome->(look aX b).isSome->ν.bx k=some bl->ν.bx aX=some bl->k=aX
 own:∀g o,look g e=some o->∃v us,ν.ow g=some (o.n,v)/\w.ownsRow 0 o.el o.sz v o.n us/\(∀bl,v.ownBlock=some bl->pr bl/\(∀j,ν.A bl j->j<o.n*o.sz))/\Fm w ν o v us
 oinj:∀g dH n n' v v' bl,(look g e).isSome->(look dH e).isSome->ν.ow g=some (n,v)->ν.ow dH=some (n',v')->v.ownBlock=some bl->v'.ownBlock=some bl->g=dH
 obx:∀g k n v bl,(look g e).isSome->(look k b).isSome->ν.ow g=some (n,v)->v.ownBlock=some bl->ν.bx k=some bl->cw
 one:∀k,ν.bx k=none\/ν.ow k=none
 otr:∀bl,tj ν b e bl->∀k j,¬ν.tr k j bl
def sp:List (Nat×Nat×Nat×(Value->Prop)):=((List.range 20).map fun i=>(0,i,20,fun v=>v=lM .u64 ((10 ^ i:Nat):Int)))++[(1,0,1,fun v=> ∃t p,v=Value.iface t p),(2,0,1,fun v=> ∃t p,v=Value.iface t p)]
def lQ(w:World)(ν:aD):Prop:= ∀x∈sp,ν.A x.1 x.2.1/\(∃v,w.cell? ⟨x.1,x.2.1,none⟩=some v/\x.2.2.2 v)/\∃el,shape w x.1=some (x.2.2.1,el)
structure dh where
 w0:World
 ν0:aD
 mt:Nat->Prop
 N:Nat
 ob:List aq
 gl:lQ w0 ν0
 ex:List (ab×Value)
def dh.pr(C:dh)(bl:Nat):Prop:=C.mt bl\/C.w0.heap.size<=bl
def cV:aq:= .obj 990001
structure mo (C:dh) (w:World) (ν:aD):Prop where
 os:w.os=C.w0.os
 tape:w.tape=C.w0.tape
 output:w.output=C.w0.output
 size:C.w0.heap.size<=w.heap.size
 block:∀k,k<C.w0.heap.size->¬C.mt k->w.heap[k]? =C.w0.heap[k]?
 keep:∀b o,C.ν0.A b o->ν.A b o/\w.cell? ⟨b,o,none⟩=C.w0.cell? ⟨b,o,none⟩
 fresh:∀b o,ν.A b o->C.ν0.A b o\/C.pr b
 obj:∀n b,C.ν0.bx (.obj n)=some b->ν.bx (.obj n)=some b
 obn:∀n b,C.ν0.bx (.obj n)=some b-> .obj n∈C.ob
 row:∀m n u,C.ν0.ow (.obj m)=some (n,u)->∃n' dw,ν.ow (.obj m)=some (n',dw)/\(n'=n/\dw=u\/n<n')
 obr:∀m n u,C.ν0.ow (.obj m)=some (n,u)-> .obj m∈C.ob
 trd:∀k j aX dj b,ν.tr k j b->ν.tr aX dj b->k=aX/\j=dj
 trb:∀k j b,ν.tr k j b->(k=cV\/C.w0.heap.size<=b)/\b<w.heap.size
 trn:∀k j b,ν.tr k j b->ν.bx k=none/\ν.ow k=none
 sh:∀b o,C.ν0.A b o->shape w b=shape C.w0 b
 nrow:∀j n u b,ν.ow (.loc j)=some (n,u)->u.ownBlock=some b->C.w0.heap.size<=b
theorem mo.gl{C:dh}{w:World}{ν:aD}(h:mo C w ν):lQ w ν:=fun x ad=>⟨(h.keep _ _ (C.gl x ad).1).1,(C.gl x ad).2.1.imp fun _ aL=>⟨(h.keep _ _ (C.gl x ad).1).2.trans aL.1,aL.2⟩,(C.gl x ad).2.2.imp fun _ aL=>(h.sh _ _ (C.gl x ad).1).trans aL⟩
theorem yV{ν ν':aD}{g:aq}{n:Nat}{u:Value}(h:∃n' dw,ν.ow g=some (n',dw)/\(n'=n/\dw=u\/n<n'))(ag:∀n u,ν.ow g=some (n,u)->∃n' dw,ν'.ow g=some (n',dw)/\(n'=n/\dw=u\/n<n')):
  ∃n' dw,ν'.ow g=some (n',dw)/\(n'=n/\dw=u\/n<n'):=by
 obtain⟨ft,ix,ah,aE⟩:=h;obtain⟨eM,h7,f1,f2⟩:=ag ft ix ah;refine⟨eM,h7,f1,?_⟩;rcases aE with⟨rfl,rfl⟩|aE
 ·exact f2
 ·rcases f2 with⟨rfl,rfl⟩|f2
  ·exact .inr aE
  ·exact .inr Ω
structure bH (C:dh) (st:aN) (a:Act) (w:World) (ν:aD):Prop where
 good:Good C.pr w ν st.b st.e
 fr:mo C w ν
 defers:a.defers=[]
 size:a.tmps.size=C.N
 slot:∀i,aw w ν (get i st.t) (a.tmps.getD i undef)
 new:∀k,fresh st.n st.o k->ν.bx k=none/\ν.ow k=none/\∀j b,¬ν.tr k j b
 ext:∀x∈C.ex,aw w ν x.1 x.2/\kin (fun k=>k∈C.ob) x.1
 obk:∀m∈C.ob,¬fresh st.n st.o m
def eD(d:aV Nat)(p:ab)(t:List (Nat×ab)):List (Nat×ab):=
 match d with
 |some d=>put d p t
 |none=>t
def ga(N:Nat)(d:aV Nat):Bool:=match d with|some d=>decide (d<N)|none=>true
theorem bH.put{C:dh}{st:aN}{a:Act}{w:World}{ν:aD}(h:bH C st a w ν){d:aV Nat}(aF:ga C.N d=true){p:ab}{v:Value}(aY:aw w ν p v):
  bH C {st with t:=eD d p st.t} (a.put d v) w ν:=by
 cases d with
 |none=>exact h
 |some d=>
  have bU:d<a.tmps.size:=by rw[h.size];simpa[ga]using aF
  refine⟨h.good,h.fr,h.defers,by simpa[Act.put]using h.size,fun i=>?_,h.new,h.ext,h.obk⟩;simp only[eD,nn];by_cases e:d=i
  ·subst e;simpa[Act.put,mg,bU]using aY
  ·have:=h.slot i;simpa[e,Act.put,mg,Array.getElem?_setIfInBounds_ne e]using this
theorem bH.over{C:dh}{st st':aN}{a:Act}{w w':World}{ν ν':aD}(h:bH C st a w ν)(ag:km w ν w' ν')(au:st'.t=st.t)(aP:Good C.pr w' ν' st'.b st'.e)(aH:mo C w' ν')
  (aR:∀k,fresh st'.n st'.o k->ν'.bx k=none/\ν'.ow k=none/\∀j b,¬ν'.tr k j b) (dM:∀m,fresh st'.n st'.o m->fresh st.n st.o m:=by exact fun _ h=>h):bH C st' a w' ν':=
 ⟨aP,aH,h.defers,h.size,fun i=>by rw[au];exact rC ag (h.slot i),aR,fun x ad=>⟨rC ag (h.ext x ad).1,(h.ext x ad).2⟩,fun m hm aH=>h.obk m hm (dM m aH)⟩
inductive cg where
 |t (i:Nat)
 |c (p:ab)
 deriving Inhabited
def bh(t:List (Nat×ab)):cg->ab
 | .t i=>get i t
 | .c p=>p
def zq:ab->Value->Bool
 | .int k n,.int aX n'=>decide (k=aX/\n=n')
 | .bool b,.bool fh=>b==fh
 | .str s,.string l=>decide (l.data.toList=s/\s.length<=bX)
 | .slice _ .nil [],.slice none 0 0=>true
 | .nilp,.pointer none=>true
 | .tuple [],.tuple ⟨[]⟩=>true
 | .func f [],.func (.func g) ⟨[]⟩ ⟨[]⟩=>decide (f=g/\f<1000000)
 | .junk,_=>true
 |_,_=>false
theorem GR(w:World)(ν:aD){p:ab}{v:Value}(h:zq p v=true):aw w ν p v:=by
 unfold zq at h;split at h
 ·simp at h;obtain⟨rfl,rfl⟩:=h;simp[aw]
 ·simp at h;subst h;simp[aw]
 ·rename_i s l;simp at h;obtain⟨I,aa⟩:=h;refine⟨?_,aa⟩;subst I;simp
 ·simp only[aw];refine⟨⟨none,0,rfl,Ψ,Ψ,Ψ⟩,Ψ,(fun _ h=>by cases h),(fun _ _ h=>by cases h),(fun _ h=>by cases h)⟩
 ·simp[aw]
 ·simp[aw,bP]
 ·simp at h;obtain⟨rfl,h⟩:=h;simp[aw,bP,p3,h]
 ·simp[aw]
 ·cases h
def vd:List ab->List Value->Bool
 |[],[]=>true
 |p::aZ,v::vs=>zq p v&&v.oneCell'&&vd aZ vs
 |_,_=>false
def vc:ab->Value->Bool
 | .agg cs,.agg us=>vd cs us.toList
 |p,v=>zq p v
theorem GS(w:World)(ν:aD):∀(aZ:List ab) (vs:List Value),vd aZ vs=true->bV w ν aZ vs
 |[],[],_=>by simp[bV]
 |[],_::_,h=>by simp[vd]at h
 |_::_,[],h=>by simp[vd]at h
 |p::aZ,v::vs,h=>by simp only[vd,bA]at h;simp only[bV];exact⟨v,vs,rfl,⟨GR w ν h.1.1,h.1.2⟩,GS w ν aZ vs h.2⟩
theorem Cj(w:World)(ν:aD){p:ab}{v:Value}(h:vc p v=true):aw w ν p v:=by
 unfold vc at h;split at h
 ·simp only[aw];exact⟨_,rfl,GS w ν _ _ h⟩
 ·exact GR w ν h
def c8:cg->gY->Bool
 | .t i,.tmp j=>i==j
 | .c p,.const v=>vc p v
 | .c (.func f []),.func g=>decide (f=g/\f<1000000)
 |_,_=>false
theorem da{C:dh}{st:aN}{a:Act}{w:World}{ν:aD}(h:bH C st a w ν){x:cg}{o:gY}(ad:c8 x o=true):aw w ν (bh st.t x) (a.eval o):=by
 unfold c8 at ad;split at ad
 ·simp at ad;subst ad;simpa[bh,Act.eval]using h.slot _
 ·simpa[bh,Act.eval]using Cj w ν ad
 ·simp at ad;obtain⟨rfl,ad⟩:=ad;simp[bh,Act.eval,aw,bP,p3,ad]
 ·cases ad
inductive xc where
 |int (k:IntKind)
 |bool
 |str
 |slice (e:Nat)
 |struct (cT:List (Nat×Nat))
 |map (k e:Nat)
 |other
 |iface
 deriving DecidableEq
structure cm where
 size:Nat
 bytes:Nat
 kind:xc
 zero:ab
def xc.isAgg:xc->Bool
 | .struct _=>true
 |_=>false
def w3:List ab->List Value->Bool
 |[],[]=>true
 |p::aZ,v::vs=>vc p v&&v.oneCell'&&w3 aZ vs
 |_,_=>false
def u2:ab->Value->Bool
 | .agg cs,.agg us=>w3 cs us.toList
 | .agg _,_=>false
 |p,v=>vc p v&&v.oneCell'
def jH:xc->TypeDesc->Bool
 | .int k,.int aX=>decide (k=aX)
 | .bool,.bool=>true
 | .str,.string=>true
 | .slice e,.slice fS=>e==fS
 | .struct cT,.struct gs=>decide (gs.toList.map (fun f=>(f.offset,f.type))=cT)
 | .map k e,.map aX fS=>k==aX&&e==fS
 | .iface,.interface _=>true
 | .other,d=>match d with| .struct _| .array _ _| .int _| .bool| .string| .slice _=>false|_=>true
 |_,_=>false
def Ik(P:bp)(gs:Array Field):Bool:=gs.toList.all fun f=>match P.underlying f.type with|some (.int _)=>true|some .string=>true|_=>false
def HC(P:bp)(t:Nat)(gs:Array Field):Bool:=gs.toList.all (fun f=>f.name != "_")&& !P.stoodInHeld t&& !P.eqGuardType P.depth t
def Ct(P:bp)(t:Nat):TypeDesc->Bool
 | .struct gs=> !Ik P gs||HC P t gs
 |_=>true
def FR(P:bp)(t:Nat)(f:cm):Bool:=
 match P.info? t,P.underlying t with
 |some i,some d=>Ct P t d&&i.size==f.size&&i.bytes==f.bytes&&jH f.kind d&&(match i.zero with|some z=>u2 f.zero z&&z.cells.size==f.size|none=>false)
 |_,_=>false
def dJ(P:bp)(aW:List (Nat×cm)):Bool:=(aW.all fun x=>FR P x.1 x.2)&&decide (P.funcs.size<=1000000)
theorem dJ.sz{P:bp}{aW:List (Nat×cm)}(h:dJ P aW=true):P.funcs.size<=1000000:=by unfold dJ at h;rw[bA,fH]at h;exact h.2
def cW(aW:List (Nat×cm))(t:Nat):aV cm:=(aW.find? fun x=>x.1==t).map (·.2)
theorem VF{P:bp}{aW:List (Nat×cm)}(h:dJ P aW=true){t:Nat}{f:cm}(aH:cW aW t=some f):FR P t f=true:=by
 unfold cW at aH;cases ad:aW.find? fun x=>x.1==t with
 |none=>simp[ad]at aH
 |some x=>simp[ad]at aH;have I:=List.find?_some ad;simp at I;have aa:=List.mem_of_find?_eq_some ad;have ak:=kj.1 (by unfold dJ at h;rw[bA]at h;exact h.1) x aa;rw[<-aH,<-I];exact ak
structure M4 (P:bp) (t:Nat) (f:cm):Prop where
 cmp:∀d,P.underlying t=some d->Ct P t d=true
 ex:∃i d z,P.info? t=some i/\P.underlying t=some d/\i.size=f.size/\i.bytes=f.bytes/\jH f.kind d=true/\i.zero=some z/\u2 f.zero z=true/\z.cells.size=f.size
theorem qC{P:bp}{aW:List (Nat×cm)}(h:dJ P aW=true){t:Nat}{f:cm}(aH:cW aW t=some f):M4 P t f:=by
 have h:=VF h aH;unfold FR at h;split at h
 ·rename_i i d I aa;simp only[bA,df]at h;obtain⟨⟨⟨⟨bN,ak⟩,aK⟩,bb⟩,ct⟩:=h;split at ct
  ·rename_i z eB;simp only[bA,df]at ct;exact⟨fun ik mB=>by rw[aa]at mB;cases mB;exact bN,i,d,z,I,aa,ak,aK,bb,eB,ct.1,ct.2⟩
  ·cases ct
 ·cases h
theorem lU(b o j:Nat):(⟨b,o,none⟩:Addr).add j=⟨b,o+j,none⟩:=by
 unfold Addr.add;split
 ·rename_i h;subst h;rfl
 ·rfl
theorem Ge(w:World)(ν:aD):∀(aZ:List ab) (vs:List Value),w3 aZ vs=true->bV w ν aZ vs
 |[],[],_=>by simp[bV]
 |[],_::_,h=>by simp[w3]at h
 |_::_,[],h=>by simp[w3]at h
 |p::aZ,v::vs,h=>by simp only[w3,bA]at h;simp only[bV];exact⟨v,vs,rfl,⟨Cj w ν h.1.1,h.1.2⟩,Ge w ν aZ vs h.2⟩
def cells:ab->List ab
 | .agg cs=>cs
 |p=>[p]
def dP:ab->Bool
 | .junk| .tuple _=>false
 | .cst (.slice _ _ _)| .cst (.string _)=>true
 | .cst _=>false
 |_=>true
theorem Fj{w:World}{ν:aD}{p:ab}{v:Value}(h:aw w ν p v)(ao:dP p=true)(bL:∀cs,p≠ .agg cs):v.oneCell'=true/\v.cells= #[v]:=by
 cases p<;>simp only[aw,dP]at h ao;case junk=>cases ao
 case tuple=>cases ao
 case cst c=>subst h;cases v<;>first|exact⟨rfl,rfl⟩|cases ao
 case agg cs=>exact absurd rfl (bL cs)
 case int=>subst h;exact⟨rfl,rfl⟩
 case bool=>subst h;exact⟨rfl,rfl⟩
 case str=>rw[h.1];exact⟨rfl,rfl⟩
 case slice=>obtain⟨⟨a,cap,I,_⟩,_⟩:=h;subst I;exact⟨rfl,rfl⟩
 case ptr=>obtain⟨b,_,I⟩:=h;subst I;exact⟨rfl,rfl⟩
 case eptr=>obtain⟨b,o,u,I,_⟩:=h;subst I;exact⟨rfl,rfl⟩
 case iface=>obtain⟨u,I,_⟩:=h;subst I;exact⟨rfl,rfl⟩
 case nilp=>subst h;exact⟨rfl,rfl⟩
 case func=>obtain⟨us,I,_⟩:=h;subst I;unfold p3;split<;>exact⟨rfl,rfl⟩
 case gmap=>obtain⟨b,_,I⟩:=h;subst I;exact⟨rfl,rfl⟩
 case row=>obtain⟨⟨a,cap,I⟩,_⟩:=h;subst I;exact⟨rfl,rfl⟩
 case rptr=>obtain⟨⟨a,o,I⟩,_⟩:=h;subst I;exact⟨rfl,rfl⟩
theorem rB{w:World}{ν:aD}{p:ab}{v:Value}(h:aw w ν p v)(ao:dP p=true):bV w ν (cells p) v.cells.toList:=by
 by_cases bL:∃cs,p= .agg cs
 ·obtain⟨cs,rfl⟩:=bL;simp only[aw]at h;obtain⟨us,rfl,aa⟩:=h;simpa[cells,mj]using aa
 ·have vG:∀cs,p≠ .agg cs:=fun cs e=>bL ⟨cs,e⟩;obtain⟨I,aa⟩:=Fj h ao vG;have az:cells p=[p]:=by cases p<;>first|rfl|exact absurd rfl (vG _)
  rw[az,aa];simp only[bV];exact⟨v,[],rfl,⟨h,I⟩,rfl⟩
theorem wI{w:World}{ν:aD}:∀{aZ:List ab} {vs:List Value},bV w ν aZ vs->∀c∈vs,c.oneCell'=true
 |[],vs,h=>by simp only[bV]at h;subst h;simp
 |p::aZ,vs,h=>by
  simp only[bV]at h;obtain⟨u,a6,rfl,I,aa⟩:=h;intro c az;rcases gp.1 az with rfl|az
  ·exact I.2
  ·exact wI aa c az
theorem mQ{w:World}{ν:aD}:∀{aZ:List ab} {vs:List Value},bV w ν aZ vs->vs.length=aZ.length
 |[],vs,h=>by simp only[bV]at h;subst h;rfl
 |p::aZ,vs,h=>by simp only[bV]at h;obtain⟨u,a6,rfl,_,aa⟩:=h;simp[mQ aa]
theorem wH{w:World}{ν:aD}:∀(n:Nat) {aZ:List ab} {vs:List Value},bV w ν aZ vs->bV w ν (aZ.drop n) (vs.drop n)
 |0,_,_,h=>by simpa using h
 |n+1,[],vs,h=>by simp only[bV]at h;subst h;simp[bV]
 |n+1,p::aZ,vs,h=>by simp only[bV]at h;obtain⟨u,a6,rfl,_,aa⟩:=h;simpa using wH n aa
theorem yQ{w:World}{ν:aD}:∀(n:Nat) {aZ:List ab} {vs:List Value},bV w ν aZ vs->bV w ν (aZ.take n) (vs.take n)
 |0,_,_,_=>by simp[bV]
 |n+1,[],vs,h=>by simp only[bV]at h;subst h;simp[bV]
 |n+1,p::aZ,vs,h=>by simp only[bV]at h;obtain⟨u,a6,rfl,I,aa⟩:=h;simp only[List.take_succ_cons,bV];exact⟨u,_,rfl,I,yQ n aa⟩
theorem uL{w:World}{ν:aD}:∀{aZ bO:List ab} {vs us:List Value},bV w ν aZ vs->bV w ν bO us->bV w ν (aZ++bO) (vs++us)
 |[],bO,vs,us,h,b6=>by simp only[bV]at h;subst h;simpa using b6
 |p::aZ,bO,vs,us,h,b6=>by simp only[bV]at h;obtain⟨u,a6,rfl,I,aa⟩:=h;simp only[eI,bV];exact⟨u,_,rfl,I,uL aa b6⟩
theorem yP{w:World}{ν:aD}:∀(n:Nat) {aZ:List ab} {vs:List Value} {p:ab},bV w ν aZ vs->aZ[n]? =some p->∃v,vs[n]? =some v/\aw w ν p v/\v.oneCell'=true
 |n,[],_,p,_,aY=>by simp at aY
 |0,q::aZ,vs,p,h,aY=>by simp only[bV]at h;obtain⟨u,a6,rfl,I,_⟩:=h;simp at aY;subst aY;exact⟨u,rfl,I.1,I.2⟩
 |n+1,q::aZ,vs,p,h,aY=>by simp only[bV]at h;obtain⟨u,a6,rfl,_,aa⟩:=h;simpa using yP n aa (by simpa using aY)
theorem wJ{w:World}{ν:aD}:∀(n:Nat) {aZ:List ab} {vs:List Value} {p:ab},bP w ν aZ vs->aZ[n]? =some p->∃v,vs[n]? =some v/\aw w ν p v
 |n,[],_,p,_,aY=>by simp at aY
 |0,q::aZ,vs,p,h,aY=>by simp only[bP]at h;obtain⟨u,a6,rfl,I,_⟩:=h;simp at aY;subst aY;exact⟨u,rfl,I⟩
 |n+1,q::aZ,vs,p,h,aY=>by simp only[bP]at h;obtain⟨u,a6,rfl,_,aa⟩:=h;simpa using wJ n aa (by simpa using aY)
theorem qk{w:World}{A:Nat->Nat->Prop}{b:Nat}:∀{us:List Value} {off j:Nat} {u:Value},h5 w A b off us->us[j]? =some u->A b (off+j)/\w.cell? ⟨b,off+j,none⟩=some u
 |[],_,_,_,_,h=>by simp at h
 |x::us,off,0,u,aA,h=>by simp at h;subst h;exact aA.1
 |x::us,off,j+1,u,aA,h=>by have:=qk (j:=j) aA.2 (by simpa using h);rwa[show off+1+j=off+(j+1)from by omega]at this
theorem AQ{w:World}{A:Nat->Nat->Prop}{b:Nat}:∀(n:Nat) {us:List Value} {off:Nat},h5 w A b off us->h5 w A b (off+n) (us.drop n)
 |0,_,_,h=>by simpa using h
 |n+1,[],_,_=>by simp[h5]
 |n+1,x::us,off,h=>by have:=AQ n h.2;rw[show off+(n+1)=off+1+n from by omega];simpa using this
theorem AR{w:World}{A:Nat->Nat->Prop}{b:Nat}:∀(n:Nat) {us:List Value} {off:Nat},h5 w A b off us->h5 w A b off (us.take n)
 |0,_,_,_=>by simp[h5]
 |n+1,[],_,_=>by simp[h5]
 |n+1,x::us,off,h=>by simp only[List.take_succ_cons];exact⟨h.1,AR n h.2⟩
theorem LO{P:bp}{w:World}{A:Nat->Nat->Prop}{b off:Nat}{us:List Value}(h:h5 w A b off us):(loadCells ⟨b,off,none⟩ us.length).run P w= .ok us.toArray w:=run_loadCells_list w _ us fun j v av=>by rw[lU];exact(qk h av).2
theorem U8{P:bp}{w:World}{b off n:Nat}{us:Array Value}{el:eU}{fr:Nat×Nat}(h:w.heap[b]? =some (.cells us el fr))(aR:off+n<=us.size):
  (loadCells ⟨b,off,none⟩ n).run P w= .ok ((us.toList.drop off).take n).toArray w:=by
 have aA:((us.toList.drop off).take n).length=n:=by simp;omega
 have:=run_loadCells_list (P:=P) w ⟨b,off,none⟩ ((us.toList.drop off).take n) fun j v av=>by
  rw[lU];have RA:j<n:=by have:=(fG.1 av).1;omega
  simp only[World.cell?,h,qF,ia,if_false];rw[List.getElem?_take]at av;simpa[RA]using av
 rw[aA]at this;exact this
theorem HT{α:Type}(l r:List α)(n sz:Nat)(h:l.length=sz):(l++r).drop ((n+1)*sz)=r.drop (n*sz):=by
 have e:(n+1)*sz=l.length+n*sz:=by rw[h,Nat.succ_mul,Nat.add_comm]
 rw[e,<-List.drop_drop];simp
theorem Md{α:Type}(l r:List α)(n sz:Nat)(h:l.length=sz):(l++r).take ((n+1)*sz)=l++r.take (n*sz):=by
 have e:(n+1)*sz=l.length+n*sz:=by rw[h,Nat.succ_mul,Nat.add_comm]
 rw[e,List.take_length_add_append]
theorem BA{w:World}{ν:aD}{sz:Nat}:∀(i:Nat) {xs:List ab} {us:List Value} {p:ab},b4 w ν sz xs us->xs[i]? =some p->
  ∃u,aw w ν p u/\u.cells.size=sz/\u.cells.toList=(us.drop (i*sz)).take sz
 |i,[],_,p,_,aY=>by simp at aY
 |0,x::xs,us,p,h,aY=>by
  simp only[b4]at h;obtain⟨u,a6,rfl,⟨I,aa,ak⟩,_⟩:=h;simp at aY;subst aY;refine⟨u,I,aa,?_⟩;have:u.cells.toList.length=sz:=by simpa using aa
  simp[<-this]
 |i+1,x::xs,us,p,h,aY=>by
  simp only[b4]at h;obtain⟨u,a6,rfl,⟨_,aa,_⟩,bb⟩:=h;obtain⟨v,g1,g2,g3⟩:=BA i bb (by simpa using aY);refine⟨v,g1,g2,?_⟩;have:u.cells.toList.length=sz:=by simpa using aa
  rw[g3,HT _ _ _ _ this]
theorem nI{w:World}{ν:aD}{sz:Nat}:∀{xs:List ab} {us:List Value},b4 w ν sz xs us->us.length=xs.length*sz
 |[],us,h=>by simp only[b4]at h;subst h;simp
 |x::xs,us,h=>by
  simp only[b4]at h;obtain⟨u,a6,rfl,⟨_,aa,_⟩,bb⟩:=h;have:u.cells.toList.length=sz:=by simpa using aa
  rw[jA,this,nI bb,lN,Nat.succ_mul];omega
theorem uK{w:World}{ν:aD}{sz:Nat}:∀{xs:List ab} {us:List Value},b4 w ν sz xs us->∀c∈us,c.oneCell'=true
 |[],us,h=>by simp only[b4]at h;subst h;simp
 |x::xs,us,h=>by
  simp only[b4]at h;obtain⟨u,a6,rfl,⟨_,_,ak⟩,bb⟩:=h;intro c az;rcases ha.1 az with az|az
  ·exact ak c az
  ·exact uK bb c az
theorem wF{w:World}{ν:aD}{sz:Nat}:∀{aZ bO:List ab} {vs us:List Value},b4 w ν sz aZ vs->b4 w ν sz bO us->b4 w ν sz (aZ++bO) (vs++us)
 |[],bO,vs,us,h,b6=>by simp only[b4]at h;subst h;simpa using b6
 |p::aZ,bO,vs,us,h,b6=>by simp only[b4]at h;obtain⟨u,a6,rfl,I,aa⟩:=h;simp only[eI,b4];exact⟨u,a6++us,Ψ,I,wF aa b6⟩
theorem Lu{w:World}{ν:aD}{sz:Nat}:∀(n:Nat) {xs:List ab} {us:List Value},b4 w ν sz xs us->b4 w ν sz (xs.drop n) (us.drop (n*sz))
 |0,_,_,h=>by simpa using h
 |n+1,[],us,h=>by simp only[b4]at h;subst h;simp[b4]
 |n+1,x::xs,us,h=>by
  simp only[b4]at h;obtain⟨u,a6,rfl,⟨_,aa,_⟩,bb⟩:=h;have:u.cells.toList.length=sz:=by simpa using aa
  rw[HT _ _ _ _ this];simpa using Lu n bb
theorem Ly{w:World}{ν:aD}{sz:Nat}:∀(n:Nat) {xs:List ab} {us:List Value},b4 w ν sz xs us->b4 w ν sz (xs.take n) (us.take (n*sz))
 |0,_,_,_=>by simp[b4]
 |n+1,[],us,h=>by simp only[b4]at h;subst h;simp[b4]
 |n+1,x::xs,us,h=>by
  simp only[b4]at h;obtain⟨u,a6,rfl,⟨I,aa,ak⟩,bb⟩:=h;have:u.cells.toList.length=sz:=by simpa using aa
  simp only[List.take_succ_cons,b4];refine⟨u,a6.take (n*sz),?_,⟨I,aa,ak⟩,Ly n bb⟩;rw[Md _ _ _ _ this]
def isAgg(sz:Nat)(p:ab):Prop:= ∃cs,p= .agg cs/\cs.length=sz
def uN(agg:Bool)(sz cD n i f:Nat):aV cq->aV (Prop×ab)
 |some ⟨n',_,gK,some xs⟩=>if n'=n/\gK=cD then
   (match xs[i]? with
    |some p=>if agg then some (dP p=true/\f+sz<=(cells p).length,.agg (((cells p).drop f).take sz))else((cells p)[f]?).map fun q=>(dP p=true,q)
    |none=>none)else none
 |_=>none
def kG(b:List (aq×List ab))(e:List (aq×cq))(agg:Bool)(sz:Nat):ab->aV (Prop×ab)
 | .rptr cD k n i f=>uN agg sz cD n i f (look k e)
 | .ptr k off=>
  match look k b with
  |some cs=>if agg then some (fm cs=true/\off+sz<=cs.length,.agg ((cs.drop off).take sz))else(cs[off]?).map fun p=>(fm cs=true,p)
  |none=>none
 | .eptr p=>if agg then some (isAgg sz p,p)else some (dP p=true/\cells p=[p],p)
 |_=>none
def xD(agg:Bool)(sz:Nat):ab->aV (Prop×ab)
 | .eptr p=>if agg then some (isAgg sz p,p)else some (dP p=true/\cells p=[p],p)
 |_=>none
theorem Ql{b:List (aq×List ab)}{e:List (aq×cq)}{agg:Bool}{sz:Nat}{p:ab}{r:Prop×ab}(h:xD agg sz p=some r):kG b e agg sz p=some r:=by
 cases p<;>simp only[xD]at h<;>first|cases h;done|skip
 simpa only[kG]using h
theorem S6{b:List (aq×List ab)}{e:List (aq×cq)}{agg:Bool}{sz:Nat}{p:ab}{r:Prop×ab}(h:kG b [] agg sz p=some r):kG b e agg sz p=some r:=by cases p<;>simp only[kG]at h⊢ <;>first|exact h|(simp[look,uN]at h)
def mx(off:Nat)(agg:Bool)(sz:Nat):ab->aV (Prop×ab)
 | .ptr k o=>some (True,.ptr k (o+off))
 | .rptr cD k n i f=>some (True,.rptr cD k n i (f+off))
 | .eptr (.agg cs)=>if agg then some (off+sz<=cs.length,.eptr (.agg ((cs.drop off).take sz)))else(cs[off]?).map fun p=>(dP p=true/\cells p=[p],.eptr p)
 |_=>none
def p2(off:Nat)(agg:Bool)(sz:Nat):ab->aV (Prop×ab)
 | .agg cs=>if agg then some (off+sz<=cs.length,.agg ((cs.drop off).take sz))else(cs[off]?).map fun p=>(True,p)
 |_=>none
def vT(sz:Nat):ab->ab->aV (Prop×ab)
 | .slice cD _ xs,.int _ i=>if cD=sz then some (0<=i/\i<xs.length,.eptr (xs.getD i.toNat .junk))else none
 | .row cD k n,.int _ i=>if cD=sz then some (0<=i/\i<n,.rptr cD k n i.toNat 0)else none
 |_,_=>none
def BQ:ab->ab->aV (Prop×ab)
 | .str s,.int _ i=>some (0<=i/\i<s.length,.int .u8 (s.getD i.toNat 0).toNat)
 |_,_=>none
def oA(zy:Int):aV ab->aV Int
 |none=>some zy
 |some (.int _ i)=>some i
 |_=>none
def BS(x:ab)(lo aB:aV ab):aV (Prop×ab):=
 match x with
 | .str s=>match oA 0 lo,oA s.length aB with
  |some l,some h=>some (0<=l/\l<=h/\h<=s.length,.str ((s.take h.toNat).drop l.toNat))
  |_,_=>none
 |_=>none
def AW(sz:Nat)(x:ab)(lo aB:aV ab):aV (Prop×ab):=
 match x with
 | .slice cD _ xs=>if cD=sz then match oA 0 lo,oA xs.length aB with
  |some l,some h=>some (0<=l/\l<=h/\h<=xs.length,.slice sz .no ((xs.take h.toNat).drop l.toNat))
  |_,_=>none else none
 |_=>none
def bm(n:Int):Prop:= -9223372036854775808<=n/\n<=9223372036854775807
def vU(op:BinOp)(wr:Bool)(k:IntKind)(a b:Int):aV (Prop×ab):=
 match op with
 | .add=>if wr then some (True,.int k (k.wrap (a+b)))else some (k= .i64/\bm (a+b),.int .i64 (a+b))
 | .sub=>if wr then some (True,.int k (k.wrap (a-b)))else some (k= .i64/\bm (a-b),.int .i64 (a-b))
 | .mul=>if wr then some (True,.int k (k.wrap (a*b)))else some (k= .i64/\bm (a*b),.int .i64 (a*b))
 | .quo=>some (b≠0,.int k (k.wrap (a.tdiv b)))
 | .rem=>some (b≠0,.int k (a.tmod b))
 | .eql=>some (True,.bool (a==b))
 | .neq=>some (True,.bool (a !=b))
 | .lss=>some (True,.bool (decide (a<b)))
 | .leq=>some (True,.bool (decide (a<=b)))
 | .gtr=>some (True,.bool (decide (b<a)))
 | .geq=>some (True,.bool (decide (b<=a)))
 | .and=>some (True,.int k (k.wrap (BitVec.ofInt k.bits a&&& BitVec.ofInt k.bits b).toNat))
 | .or=>some (True,.int k (k.wrap (BitVec.ofInt k.bits a|||BitVec.ofInt k.bits b).toNat))
 | .xor=>some (True,.int k (k.wrap (BitVec.ofInt k.bits a ^^^ BitVec.ofInt k.bits b).toNat))
 |_=>none
def BT(op:BinOp)(a b:List aC):aV (Prop×ab):=
 match op with
 | .add=>some (a.length+b.length<=bX,.str (a++b))
 | .eql=>some (True,.bool (a==b))
 | .neq=>some (True,.bool (!(a==b)))
 | .lss=>some (True,.bool (Op.bytesLess a b))
 | .leq=>some (True,.bool (Op.bytesLess a b||a==b))
 | .gtr=>some (True,.bool (!(Op.bytesLess a b||a==b)))
 | .geq=>some (True,.bool (!Op.bytesLess a b))
 |_=>none
def jD(op:BinOp)(wr:Bool):ab->ab->aV (Prop×ab)
 | .int k a,.int aX b=>match op with
  | .shl=>some (0<=b,.int k (k.wrap (a*2 ^ (min b.toNat k.bits))))
  | .shr=>some (0<=b,.int k (a.fdiv (2 ^ (min b.toNat k.bits))))
  |_=>if k=aX then vU op wr k a b else none
 | .str a,.str b=>BT op a b
 |_,_=>none
def me(cs:List ab)(off:Nat)(aZ:List ab):List ab:=cs.take off++aZ++cs.drop (off+aZ.length)
def qP(t:List (Nat×ab)):List ab->List (Nat×Nat×cg)->aV (Prop×List ab)
 |cs,[]=>some (True,cs)
 |cs,(off,sz,x)::r=>
  let p:=bh t x
  match qP t (me cs off (cells p)) r with
  |some (c,cs')=>some ((dP p=true/\(cells p).length=sz/\off+sz<=cs.length)/\c,cs')
  |none=>none
def Bl(c x y:ab):aV (Prop×ab):=
 match c with
 | .bool b=>match x,y with
  | .bool u,.bool v=>some (True,.bool (cond b u v))
  |p,q=>match b with
   |true=>some (True,p)
   |false=>some (True,q)
 |_=>none
def A8:ab->aV (Prop×ab)
 | .bool b=>some (True,.bool (!b))
 |_=>none
def A4:ab->aV (Prop×ab)
 | .int k n=>some (True,.int k (k.wrap (0-n)))
 |_=>none
def zK(i:Nat):ab->aV (Prop×ab)
 | .tuple vs=>(vs[i]?).map fun p=>(True,p)
 |_=>none
def v8:ab->aV (Prop×ab)
 | .slice _ _ xs=>some (True,.int .i64 xs.length)
 | .row _ _ n=>some (True,.int .i64 n)
 | .cst (.slice _ n _)=>some (True,.int .i64 n)
 |_=>none
def y2:ab->aV (Prop×ab)
 | .str s=>some (True,.int .i64 s.length)
 | .cst (.string s)=>some (True,.int .i64 s.size)
 |_=>none
def zx(k:IntKind):ab->aV (Prop×ab)
 | .int _ n=>some (True,.int k (k.wrap n))
 |_=>none
def n8:List ab->aV (List aC)
 |[]=>some []
 | .int .u8 n::r=>(n8 r).map (lP n.toNat:: ·)
 |_=>none
def zl:ab->aV (Prop×ab)
 | .slice _ _ xs=>(n8 xs).map fun s=>(True,.str s)
 |_=>none
def AJ(neg:Bool):ab->aV (Prop×ab)
 | .iface _ _=>some (True,.bool neg)
 | .cst .nilIface=>some (True,.bool (!neg))
 |_=>none
def wh:ab->aV (Prop×ab)
 | .ptr k o=>some (True,.ptr k o)
 | .eptr p=>some (True,.eptr p)
 | .func f cs=>some (True,.func f cs)
 |_=>none
def A0:ab->ab->aV (Prop×ab)
 | .int k a,.int aX b=>if k=aX then some (True,.int k (if b<a then b else a))else none
 |_,_=>none
def iS:List Bool->List ab->List ab->aV Bool
 |[],[],[]=>some true
 |false::r,.int k a::as,.int aX b::dx=>if k=aX then(iS r as dx).map fun q=>(a==b)&&q else none
 |true::r,.str a::as,.str b::dx=>(iS r as dx).map fun q=>(a==b)&&q
 |_,_,_=>none
inductive ig where
 |i
 |s
 |a (cT:List Bool)
 deriving DecidableEq
def rj:ig->ab->ab->aV Bool
 | .i,.int k a,.int aX b=>if k=aX then some (a==b)else none
 | .s,.str a,.str b=>some (a==b)
 | .a cT,.agg as,.agg dx=>iS cT as dx
 |_,_,_=>none
def ux:ig->ab->Bool
 | .a cT,.agg as=>(iS cT as as).isSome
 | .a _,_=>false
 |_,_=>true
@[simp]theorem Ke(k:ab):ux .i k=true:=by cases k<;>rfl
@[simp]theorem Kf(k:ab):ux .s k=true:=by cases k<;>rfl
def qo(bD:ig)(k:ab):List ab->aV (aV ab)
 |aX::v::r=>match rj bD k aX with
  |some true=>some (some v)
  |some false=>qo bD k r
  |none=>none
 |_=>some none
def nD(b:aq->aV (List ab))(bD:ig)(zero:ab)(ok:Bool)(x k:ab):aV (Prop×ab):=
 match x with
 | .gmap key=>match b key with
  |some (.hdm _ _::kvs)=>if ux bD k=false then none else match qo bD k kvs with
   |some (some v)=>some (True,if ok then .tuple [v,.bool true]else v)
   |some none=>some (True,if ok then .tuple [zero,.bool false]else zero)
   |none=>none
  |_=>none
 |_=>none
def we(b:aq->aV (List ab))(x:ab):aV (Prop×ab):=
 match x with
 | .gmap key=>match b key with
  |some (.hdm _ borns::_)=>some (True,.int .i64 borns.length)
  |_=>none
 |_=>none
def zo(neg:Bool):aV (List Bool)->ab->ab->aV (Prop×ab)
 |none,.bool a,.bool b=>some (True,.bool (if neg then a !=b else a==b))
 |some cT,.agg as,.agg dx=>(iS cT as dx).map fun q=>(True,.bool (if neg then !q else q))
 |_,_,_=>none
def AY:ab->ab->aV (Prop×ab)
 | .int k a,.int aX b=>if k=aX then some (True,.int k (if a<b then b else a))else none
 |_,_=>none
def rq(bD:ig)(k v:ab):List ab->aV (aV (List ab))
 |aX::v'::r=>match rj bD k aX with
  |some true=>some (some (k::v::r))
  |some false=>match rq bD k v r with
   |some (some cv)=>some (some (aX::v'::cv))
   |some none=>some none
   |none=>none
  |none=>none
 |_=>some none
def l7(n:Nat):List Nat->List ab->aV ab
 |b::dx,k::v::r=>if b=n then some (.tuple [k,v])else l7 n dx r
 |_,_=>none
def qn(b:aq->aV (List ab))(x:ab):aV (Prop×ab):=
 match x with
 | .ptr fW 0=>match b fW with
  |some [.hdi _ seen last,.gmap mk]=>match b mk with
   |some (.hdm clock borns::kvs)=>match seen.getLast? with
    |some n=>(l7 n borns kvs).map fun p=>(clock=last,p)
    |none=>none
   |_=>none
  |_=>none
 |_=>none
theorem KB{f g:aq->aV (List ab)}(h:∀k,f k≠none->g k=f k){bD:ig}{zero:ab}{ok:Bool}{x k:ab}{r:Prop×ab}(he:nD f bD zero ok x k=some r):nD g bD zero ok x k=some r:=by
 unfold nD at he⊢;split at he
 ·rename_i key;cases aH:f key with
  |none=>simp[aH]at he
  |some cs=>rw[h key (by rw[aH];simp),aH];rw[aH]at he;exact he
 ·cases he
theorem Ts{f g:aq->aV (List ab)}(h:∀k,f k≠none->g k=f k){x:ab}{r:Prop×ab}(he:we f x=some r):we g x=some r:=by
 unfold we at he⊢;split at he
 ·rename_i key;cases aH:f key with
  |none=>simp[aH]at he
  |some cs=>rw[h key (by rw[aH];simp),aH];rw[aH]at he;exact he
 ·cases he
theorem Tg{f g:aq->aV (List ab)}(h:∀k,f k≠none->g k=f k){x:ab}{r:Prop×ab}(he:qn f x=some r):qn g x=some r:=by
 unfold qn at he⊢;split at he
 ·rename_i fW;cases aH:f fW with
  |none=>simp[aH]at he
  |some cs=>
   simp only[h fW (by rw[aH];simp),aH]at he⊢;split at he
   ·rename_i since seen last mk ch;cases qc:f mk with
    |none=>simp[qc]at he
    |some cn=>simp only[h mk (by rw[qc];simp),qc]at he⊢;exact he
   ·cases he
 ·cases he
inductive eY where
 |mov (x:cg)
 |pick (c x y:cg)
 |load (agg:Bool) (sz:Nat) (x:cg)
 |faddr (off:Nat) (agg:Bool) (sz:Nat) (x:cg)
 |fld (off:Nat) (agg:Bool) (sz:Nat) (x:cg)
 |iaddr (sz:Nat) (x i:cg)
 |sidx (x i:cg)
 |ssl (x:cg) (lo aB:aV cg)
 |lsl (sz:Nat) (x:cg) (lo aB:aV cg)
 |bin (op:BinOp) (wr:Bool) (x y:cg)
 |notB (x:cg)
 |neg (x:cg)
 |conv (k:IntKind) (x:cg)
 |ext (i:Nat) (x:cg)
 |len (x:cg)
 |slen (x:cg)
 |build (zero:List ab) (parts:List (Nat×Nat×cg))
 |nck (x:cg)
 |min2 (x y:cg)
 |mkf (n:Nat) (xs:List cg)
 |mget (bD:ig) (zero:ab) (ok:Bool) (x k:cg)
 |ment (x:cg)
 |mlen (x:cg)
 |beq (neg:Bool) (cT:aV (List Bool)) (x y:cg)
 |max2 (x y:cg)
 |mkif (t:Nat) (x:cg)
 |loadB (agg:Bool) (sz:Nat) (x:cg)
 |mgetB (bD:ig) (zero:ab) (ok:Bool) (x k:cg)
 |loadZ (agg:Bool) (sz:Nat) (x:cg)
 |b2s (x:cg)
 |isn (neg:Bool) (x:cg)
def fw(st:aN):eY->aV (Prop×ab)
 | .mov x=>some (True,bh st.t x)
 | .pick c x y=>Bl (bh st.t c) (bh st.t x) (bh st.t y)
 | .load agg sz x=>kG st.b st.e agg sz (bh st.t x)
 | .faddr off agg sz x=>mx off agg sz (bh st.t x)
 | .fld off agg sz x=>p2 off agg sz (bh st.t x)
 | .iaddr sz x i=>vT sz (bh st.t x) (bh st.t i)
 | .sidx x i=>BQ (bh st.t x) (bh st.t i)
 | .ssl x lo aB=>BS (bh st.t x) (lo.map (bh st.t)) (aB.map (bh st.t))
 | .lsl sz x lo aB=>AW sz (bh st.t x) (lo.map (bh st.t)) (aB.map (bh st.t))
 | .bin op wr x y=>jD op wr (bh st.t x) (bh st.t y)
 | .notB x=>A8 (bh st.t x)
 | .neg x=>A4 (bh st.t x)
 | .conv k x=>zx k (bh st.t x)
 | .ext i x=>zK i (bh st.t x)
 | .len x=>v8 (bh st.t x)
 | .slen x=>y2 (bh st.t x)
 | .build zero parts=>(qP st.t zero parts).map fun(c,cs)=>(c,.agg cs)
 | .nck x=>wh (bh st.t x)
 | .min2 x y=>A0 (bh st.t x) (bh st.t y)
 | .mkf n xs=>some (True,.func n (xs.map (bh st.t)))
 | .mget bD zero ok x k=>nD (fun k=>look k st.b) bD zero ok (bh st.t x) (bh st.t k)
 | .ment x=>qn (fun k=>look k st.b) (bh st.t x)
 | .mlen x=>we (fun k=>look k st.b) (bh st.t x)
 | .beq neg cT x y=>zo neg cT (bh st.t x) (bh st.t y)
 | .max2 x y=>AY (bh st.t x) (bh st.t y)
 | .mkif t x=>some (True,.iface t (bh st.t x))
 | .loadB agg sz x=>kG st.b [] agg sz (bh st.t x)
 | .mgetB bD zero ok x k=>nD (fun k=>look k st.b) bD zero ok (bh st.t x) (bh st.t k)
 | .loadZ agg sz x=>xD agg sz (bh st.t x)
 | .b2s x=>zl (bh st.t x)
 | .isn neg x=>AJ neg (bh st.t x)
def wv(aW:List (Nat×cm))(cT:List (Nat×Nat)):List (Nat×Nat×cg)->List (Nat×gY)->Bool
 |[],[]=>true
 |(off,sz,x)::r,(i,o)::s=>(match cT[i]? with|some (s4,t)=>off==s4&&((cW aW t).map (·.size))==some sz|none=>false)&&c8 x o&&wv aW cT r s
 |_,_=>false
def zf:ab->ab->Bool
 | .int k n,.int aX n'=>decide (k=aX/\n=n')
 | .bool b,.bool fh=>b==fh
 | .str [],.str []=>true
 | .slice a .nil [],.slice b .nil []=>a==b
 | .nilp,.nilp=>true
 | .junk,.junk=>true
 |_,_=>false
def w2:List ab->List ab->Bool
 |[],[]=>true
 |c::cs,d::cn=>zf c d&&w2 cs cn
 |_,_=>false
def w4:ab->ab->Bool
 | .agg cs,.agg cn=>w2 cs cn
 | .agg _,_=>false
 |p,q=>zf p q
def rs:List cg->List gY->Bool
 |[],[]=>true
 |x::xs,o::os=>c8 x o&&rs xs os
 |_,_=>false
def vy(aW:List (Nat×cm)):Nat->List Bool->List (Nat×Nat)->Bool
 |_,[],[]=>true
 |n,b::r,(off,t)::cT=>off==n&&(match cW aW t with|some ⟨_,_,.int _,_⟩=> !b|some ⟨_,_,.str,_⟩=>b|_=>false)&&vy aW (n+1) r cT
 |_,_,_=>false
def zP(aW:List (Nat×cm))(cT:List Bool)(t:Nat):Bool:=match cW aW t with
 |some ⟨_,_,.struct gs,_⟩=>vy aW 0 cT gs
 |_=>false
def uy(aW:List (Nat×cm))(bD:ig)(t:Nat):Bool:=match bD with
 | .i=>(match cW aW t with|some ⟨_,_,.int _,_⟩=>true|_=>false)
 | .s=>(match cW aW t with|some ⟨_,_,.str,_⟩=>true|_=>false)
 | .a cT=>zP aW cT t
def Gc:ab->ab->Bool
 | .slice a .no [],.slice b .nil []=>a==b
 |c,d=>zf c d
def u1:List ab->List ab->Bool
 |[],[]=>true
 |c::cs,d::cn=>Gc c d&&u1 cs cn
 |_,_=>false
def Gh:List ab->ab->Bool
 |cs,.agg cn=>u1 cs cn
 |_,_=>false
def s7:aV cg->aV gY->Bool
 |none,none=>true
 |some x,some o=>c8 x o
 |_,_=>false
def zb(aW:List (Nat×cm)):eY->Op->Bool
 | .mov x,.move o=>c8 x o
 | .mov x,.assign o=>c8 x o
 | .pick c x y,.pick fY w1 y'=>c8 c fY&&c8 x w1&&c8 y y'
 | .load agg sz x,.load t o=>(match cW aW t with|some f=>f.size==sz&&f.kind.isAgg==agg|none=>false)&&c8 x o
 | .faddr off agg sz x,.fieldAddr s o i=>
  (match cW aW s with
   |some ⟨_,_,.struct cT,_⟩=>(match cT[i]? with|some (s4,t)=>off==s4&&(match cW aW t with|some f=>f.size==sz&&f.kind.isAgg==agg&&sz !=0|none=>false)|none=>false)
   |_=>false)&&c8 x o
 | .fld off agg sz x,.field s o i=>
  (match cW aW s with
   |some ⟨_,_,.struct cT,_⟩=>(match cT[i]? with|some (s4,t)=>off==s4&&(match cW aW t with|some f=>f.size==sz&&f.kind.isAgg==agg|none=>false)|none=>false)
   |_=>false)&&c8 x o
 | .iaddr sz x i,.indexAddr t o j=>(match cW aW t with|some ⟨_,_,.slice e,_⟩=>(match cW aW e with|some f=>f.size==sz|none=>false)|_=>false)&&c8 x o&&c8 i j
 | .sidx x i,.index t o j=>(match cW aW t with|some ⟨_,_,.str,_⟩=>true|_=>false)&&c8 x o&&c8 i j
 | .ssl x lo aB,.slice t o l h none=>(match cW aW t with|some ⟨_,_,.str,_⟩=>true|_=>false)&&c8 x o&&s7 lo l&&s7 aB h
 | .lsl sz x lo aB,.slice t o l h none=>(match cW aW t with|some ⟨_,_,.slice e,_⟩=>(match cW aW e with|some f=>f.size==sz|none=>false)|_=>false)&&c8 x o&&s7 lo l&&s7 aB h
 | .bin op _ x y,.binOp KW _ o o' _=>decide (op=KW)&&c8 x o&&c8 y o'
 | .notB x,.unOp op _ o=>decide (op= .not)&&c8 x o
 | .neg x,.unOp op _ o=>decide (op= .neg)&&c8 x o
 | .conv k x,.convert s d o=>(match cW aW s,cW aW d with|some ⟨_,_,.int _,_⟩,some ⟨_,_,.int aX,_⟩=>decide (k=aX)|_,_=>false)&&c8 x o
 | .ext i x,.extract o j=>i==j&&c8 x o
 | .len x,.call ⟨.builtin .len,⟨[o]⟩,⟨[t]⟩⟩=>(match cW aW t with|some ⟨_,_,.slice _,_⟩=>true|_=>false)&&c8 x o
 | .slen x,.call ⟨.builtin .len,⟨[o]⟩,⟨[t]⟩⟩=>(match cW aW t with|some ⟨_,_,.str,_⟩=>true|_=>false)&&c8 x o
 | .build zero parts,.build t aZ=>(match cW aW t with|some ⟨_,_,.struct cT,z⟩=>Gh zero z&&(cT.all fun x=>(cW aW x.2).isSome)&&wv aW cT parts aZ.toList|_=>false)
 | .nck x,.nilCheck o=>c8 x o
 | .min2 x y,.call ⟨.builtin .min,⟨[o,o']⟩,⟨[_,_]⟩⟩=>c8 x o&&c8 y o'
 | .mkf n xs,.makeFunc (.func m) ⟨[]⟩ os=>decide (n=m/\n<1000000)&&rs xs os.toList
 | .mkf n xs,.makeFunc (.func m) dx ⟨[]⟩=>decide (n=m+1000000)&&rs xs dx.toList
 | .mget bD zero ok x k,.lookup t o o' A9=>ok==A9&&(match cW aW t with|some ⟨_,_,.map eC mw,_⟩=>uy aW bD eC&&(match cW aW mw with|some f=>w4 zero f.zero|none=>false)|_=>false)&&c8 x o&&c8 k o'
 | .ment x,.entry o=>c8 x o
 | .mlen x,.call ⟨.builtin .len,⟨[o]⟩,⟨[t]⟩⟩=>(match cW aW t with|some ⟨_,_,.map _ _,_⟩=>true|_=>false)&&c8 x o
 | .beq neg cT x y,.binOp op t o o' _=>decide (op=if neg then .neq else .eql)&&(match cT with|none=>(match cW aW t with|some ⟨_,_,.bool,_⟩=>true|_=>false)|some cT=>zP aW cT t)&&c8 x o&&c8 y o'
 | .max2 x y,.call ⟨.builtin .max,⟨[o,o']⟩,⟨[_,_]⟩⟩=>c8 x o&&c8 y o'
 | .mkif t x,.makeInterface t' o=>t==t'&&(match cW aW t with|some ⟨_,_,.slice _,_⟩=>true|_=>false)&&c8 x o
 | .loadB agg sz x,.load t o=>(match cW aW t with|some f=>f.size==sz&&f.kind.isAgg==agg|none=>false)&&c8 x o
 | .b2s x,.convert s d o=>(match cW aW s,cW aW d with|some ⟨_,_,.slice e,_⟩,some ⟨_,_,.str,_⟩=>(match cW aW e with|some ⟨_,_,.int .u8,_⟩=>true|_=>false)|_,_=>false)&&c8 x o
 | .isn neg x,.binOp op t o (.const .nilIface) _=>decide (op=if neg then .neq else .eql)&&(match cW aW t with|some ⟨_,_,.iface,_⟩=>true|_=>false)&&c8 x o
 | .loadZ agg sz x,.load t o=>(match cW aW t with|some f=>f.size==sz&&f.kind.isAgg==agg|none=>false)&&c8 x o
 | .mgetB bD zero ok x k,.lookup t o o' A9=>ok==A9&&(match cW aW t with|some ⟨_,_,.map eC mw,_⟩=>uy aW bD eC&&(match cW aW mw with|some f=>w4 zero f.zero|none=>false)|_=>false)&&c8 x o&&c8 k o'
 |_,_=>false
end
section
open Go Go.RowKit
theorem CL(P:bp)(w:World)(op:BinOp)(t:eU)(x y:gY)(k aX:IntKind)(m n:Int):(eqGuard op t x y (.int k m) (.int aX n)).run P w= .ok () w:=by cases op<;>rfl
theorem Ot(P:bp)(w:World)(op:BinOp)(t:eU)(x y:gY)(m n:ib):(eqGuard op t x y (.string m) (.string n)).run P w= .ok () w:=by cases op<;>rfl
theorem VH(l:List aC):(⟨l.toArray⟩:ib).toList=l:=by simp
theorem M9(a b:List aC):(⟨a.toArray⟩:ib)++(⟨b.toArray⟩:ib)=⟨(a++b).toArray⟩:=by apply WA;simp
theorem Pw(a:List aC)(l h:Nat):(⟨a.toArray⟩:ib).extract l h=⟨((a.take h).drop l).toArray⟩:=by apply WA;simp[List.drop_take]
theorem y1(a:List aC):(⟨a.toArray⟩:ib).size=a.length:=by simp[Gj]
section
variable {P:bp} {w:World} {r:Sem Value}
theorem o1{k:IntKind}{x:Int}(h:r.run P w= .ok (.int k x) w):∃v,r.run P w= .ok v w/\∀ν,aw w ν (.int k x) v:=⟨_,h,fun ν=>by simp[aw]⟩
theorem IK{x:Bool}(h:r.run P w= .ok (.bool x) w):∃v,r.run P w= .ok v w/\∀ν,aw w ν (.bool x) v:=⟨_,h,fun ν=>by simp[aw]⟩
end
theorem SC(P:bp)(w:World){op:BinOp}{wr:Bool}{k:IntKind}{a b:Int}{c:Prop}{p:ab}(he:vU op wr k a b=some (c,p))(az:c)(t:eU):
  ∃v,(binOp op t (.int k a) (.int k b)).run P w= .ok v w/\∀ν,aw w ν p v:=by
 cases op<;>simp only[vU]at he;case add=>
  cases wr<;>simp only[if_true,ia,if_false]at he<;>cases he
  ·obtain⟨rfl,h⟩:=az;exact o1 (by simp[binOp,Op.intArith,ll _ h])
  ·exact o1 (by simp[binOp,Op.intArith])
 case sub=>
  cases wr<;>simp only[if_true,ia,if_false]at he<;>cases he
  ·obtain⟨rfl,h⟩:=az;exact o1 (by simp[binOp,Op.intArith,ll _ h])
  ·exact o1 (by simp[binOp,Op.intArith])
 case mul=>
  cases wr<;>simp only[if_true,ia,if_false]at he<;>cases he
  ·obtain⟨rfl,h⟩:=az;exact o1 (by simp[binOp,Op.intArith,ll _ h])
  ·exact o1 (by simp[binOp,Op.intArith])
 case quo=>cases he;exact o1 (by simp[binOp,Op.intDiv,az])
 case rem=>cases he;exact o1 (by simp[binOp,Op.intDiv,az])
 case and=>cases he;exact o1 (by simp only[binOp,Op.intBits,ne_eq,not_true_eq_false,if_false,eT])
 case or=>cases he;exact o1 (by simp only[binOp,Op.intBits,ne_eq,not_true_eq_false,if_false,eT])
 case xor=>cases he;exact o1 (by simp only[binOp,Op.intBits,ne_eq,not_true_eq_false,if_false,eT])
 all_goals cases he
 all_goals exact IK (by simp only[binOp,Op.intCmp,ne_eq,not_true_eq_false,if_false,eT,gt_iff_lt,ge_iff_le])
theorem Vu(P:bp)(w:World){op:BinOp}{a b:List aC}{c:Prop}{p:ab}(he:BT op a b=some (c,p))(az:c)(t:eU):
  ∃v,(binOp op t (.string ⟨a.toArray⟩) (.string ⟨b.toArray⟩)).run P w= .ok v w/\∀ν,aw w ν p v:=by
 cases op<;>simp only[BT]at he;case add=>
  cases he;refine⟨.string ⟨(a++b).toArray⟩,?_,fun ν=>by simp only[aw];exact⟨trivial,by simpa using az⟩⟩;have I:¬(((⟨a.toArray⟩:ib).size+(⟨b.toArray⟩:ib).size:Nat):Int)>jY.max:=by
   have:jY.max=9223372036854775807:=by decide
   rw[this,y1,y1];simp only[bX]at az;omega
  simp only[binOp,Op.stringOp,I,if_false,eT,M9]
 all_goals cases he
 all_goals exact IK (by simp only[binOp,Op.stringOp,VH,eT])
theorem Ni(P:bp)(w:World)(ν:aD){op:BinOp}{wr:Bool}{x y:ab}{c:Prop}{p:ab}(he:jD op wr x y=some (c,p))(az:c)(t:eU){u v:Value}(hu:aw w ν x u)(aL:aw w ν y v)(o o':gY):
  ∃r,(do eqGuard op t o o' u v;binOp op t u v).run P w= .ok r w/\aw w ν p r:=by
 unfold jD at he;split at he
 ·rename_i k a aX b;simp only[aw]at hu aL;subst hu;subst aL;split at he
  ·cases he;refine⟨_,?_,by simp[aw];rfl⟩;simp[binOp,Op.shift,CL,Int.not_lt.2 az]
  ·cases he;refine⟨_,?_,by simp[aw];rfl⟩;simp[binOp,Op.shift,CL,Int.not_lt.2 az]
  ·split at he
   ·rename_i J;subst J;obtain⟨r,I,aa⟩:=SC P w he az t;exact⟨r,by simp[CL,I],aa ν⟩
   ·cases he
 ·simp only[aw]at hu aL;rw[hu.1,aL.1];obtain⟨r,I,aa⟩:=Vu P w he az t;exact⟨r,by simp[Ot,I],aa ν⟩
 ·cases he
theorem CW{w:World}{ν:aD}:∀(v:List Value) (i off:Nat) (cs:Array Value),off+i+v.length<=cs.size->
  ((v.zipIdx i).foldl (fun cs (x:Value×Nat)=>cs.setIfInBounds (off+x.2) x.1) cs).toList=cs.toList.take (off+i)++v++cs.toList.drop (off+i+v.length)
 |[],i,off,cs,_=>by simp
 |u::v,i,off,cs,h=>by
  simp only[List.zipIdx_cons,List.foldl_cons];rw[CW (w:=w) (ν:=ν) v (i+1) off _ (by simp at h⊢;omega)];have bU:off+i<cs.toList.length:=by simp at h⊢;omega
  simp only[Array.toList_setIfInBounds];have ah:(cs.toList.set (off+i) u).take (off+(i+1))=cs.toList.take (off+i)++[u]:=by rw[show off+(i+1)=(off+i)+1 from by omega,List.take_succ_eq_append_getElem (by simpa using bU)];simp[List.take_set_of_le (cE _)]
  have aE:(cs.toList.set (off+i) u).drop (off+(i+1)+v.length)=cs.toList.drop (off+i+(u::v).length):=by rw[List.drop_set_of_lt Ω];congr 1;simp;omega
  rw[ah,aE];simp
theorem LM{w:World}{ν:aD}{C:dh}{st:aN}{a:Act}(hr:bH C st a w ν){aW:List (Nat×cm)}{cT:List (Nat×Nat)}{places:List (Nat×Nat)}
  (aY:∀(i off t sz:Nat),cT[i]? =some (off,t)->(cW aW t).map (·.size)=some sz->places[i]? =some (off,sz)):
  ∀(parts:List (Nat×Nat×cg)) (aZ:List (Nat×gY)) (cs:List ab) (us:Array Value) (c:Prop) (cs':List ab),wv aW cT parts aZ=true->bV w ν cs us.toList->qP st.t cs parts=some (c,cs')->c->
  ∃a6:Array Value,Instr.fill (places.toArray[·]?) us (aZ.map fun(x:Nat×gY)=>(x.1,a.eval x.2))=some a6/\bV w ν cs' a6.toList
 |[],[],cs,us,c,cs',_,h,he,az=>by simp only[qP]at he;cases he;exact⟨us,by simp[Instr.fill],h⟩
 |[],_::_,_,_,_,_,dM,_,_,_=>by simp[wv]at dM
 |_::_,[],_,_,_,_,dM,_,_,_=>by simp[wv]at dM
 |(off,sz,x)::parts,(i,o)::aZ,cs,us,c,cs',dM,h,he,az=>by
  simp only[wv,bA]at dM;obtain⟨⟨I,aa⟩,ak⟩:=dM;split at I
  ·rename_i s4 t xS;simp only[bA,df]at I;obtain⟨rfl,I⟩:=I;have hl:=aY i off t sz xS I;simp only[qP]at he;split at he
   ·rename_i fY XO af;cases he;obtain⟨⟨ao,aA,hle⟩,jj⟩:=az;have ad:=da hr aa;have kv:=rB ad ao;have hlen:=mQ kv;have ps:=mQ h;have fl:(a.eval o).cells.size=sz:=by have:(a.eval o).cells.toList.length=(cells (bh st.t x)).length:=hlen;rw[aA]at this;simpa using this
    have mH:us.size=cs.length:=by simpa using ps
    have k9:=CW (w:=w) (ν:=ν) (a.eval o).cells.toList 0 off us (by simp[fl,mH];omega);have hZ:bV w ν (me cs off (cells (bh st.t x))) ((((a.eval o).cells.toList.zipIdx 0).foldl (fun cs (x:Value×Nat)=>cs.setIfInBounds (off+x.2) x.1) us).toList):=by rw[k9];unfold me;refine uL (uL (yQ off h) kv) ?_;rw[Nat.add_zero,hlen];exact wH _ h
    obtain⟨a6,g1,g2⟩:=LM hr aY parts aZ _ _ fY cs' ak hZ af jj;refine⟨a6,?_,g2⟩;simp only[gZ,Instr.fill,List.getElem?_toArray,hl];rw[be (by simp[fl,mH];omega)];rw[<-g1];simp only[List.getElem?_toArray];congr 1;rw[<-Array.foldl_toList];simp
   ·cases he
  ·cases I
end
section
open Go Go.RowKit
theorem rK{P:bp}{aW:List (Nat×cm)}(au:dJ P aW=true){t:Nat}{f:cm}(aH:cW aW t=some f)(w:World):
  (Go.isAgg t).run P w= .ok f.kind.isAgg w/\(sizeOf t).run P w= .ok f.size w:=by
 obtain⟨i,d,z,I,aa,ak,aK,bb,ct,dZ,hS⟩:=(qC au aH).ex;refine⟨?_,by simp[sizeOf,typeInfo,I,ak]⟩;simp only[Go.isAgg,ee,run_underlying aa,eg];cases J:f.kind<;>rw[J]at bb<;>cases d<;>simp[jH]at bb<;>simp[xc.isAgg]
theorem gn{P:bp}{aW:List (Nat×cm)}(au:dJ P aW=true){t:Nat}{f:cm}(aH:cW aW t=some f):∃d,P.underlying t=some d/\jH f.kind d=true:=by obtain⟨i,d,z,I,aa,ak,aK,bb,ct,dZ,hS⟩:=(qC au aH).ex;exact⟨d,aa,bb⟩
theorem oc{e:Nat}{d:TypeDesc}(h:jH (.slice e) d=true):d= .slice e:=by cases d<;>simp[jH]at h;subst h;rfl
theorem r9{d:TypeDesc}(h:jH .str d=true):d= .string:=by cases d<;>simp[jH]at h;rfl
theorem xu{k:IntKind}{d:TypeDesc}(h:jH (.int k) d=true):d= .int k:=by cases d<;>simp[jH]at h;subst h;rfl
theorem Cy{cT:List (Nat×Nat)}{d:TypeDesc}(h:jH (.struct cT) d=true):∃gs:Array Field,d= .struct gs/\gs.toList.map (fun f=>(f.offset,f.type))=cT:=by cases d<;>simp[jH]at h;rename_i gs;exact⟨gs,rfl,by simpa using h⟩
theorem BC{w:World}{ν:aD}{cs:List ab}{us:List Value}(h:bV w ν cs us)(off sz:Nat):bV w ν ((cs.drop off).take sz) ((us.drop off).take sz):=yQ sz (wH off h)
theorem KX{w:World}{base el sz n:Nat}{v:Value}{us:List Value}(h:w.ownsRow base el sz v n us){b:Nat}(af:v.ownBlock=some b):∃cap,v= .slice (some ⟨b,0,none⟩) n cap:=by
 rcases h.2 with⟨rfl,_⟩|⟨g,cap,cur,rfl,_⟩
 ·simp[ln]at af
 ·simp[ln]at af;subst af;exact⟨cap,rfl⟩
theorem Good.rowElem{pr:Nat->Prop}{w:World}{ν:aD}{b:List (aq×List ab)}{e:List (aq×cq)}(aP:Good pr w ν b e){k:aq}{n el sz:Nat}{xs:List ab}(J:look k e=some ⟨n,el,sz,some xs⟩){i f:Nat}{u:Value}(ad:aw w ν (.rptr sz k n i f) u){p:ab}(aY:xs[i]? =some p):
  ∃(v:Value) (us:List Value) (dQ:Nat),aw w ν p v/\v.cells.size=sz/\∃b o,u= .pointer (some ⟨b,o,none⟩)/\∀j c,v.cells.toList[f+j]? =some c->w.cell? ⟨b,o+j,none⟩=some c:=by
 simp only[aw]at ad;obtain⟨_,aB,n',dw,I,aa,ak⟩:=ad;obtain⟨v,us,bJ,cj,de,du⟩:=aP.own k _ J;rw[I]at bJ;simp only[dv,hx]at bJ;obtain⟨rfl,rfl⟩:=bJ;obtain⟨bl,af,rfl⟩:=ak rfl;obtain⟨cap,rfl⟩:=KX cj af;obtain⟨aA,hZ,_⟩:=du xs rfl;simp only at aA hZ;obtain⟨v,eH,fB,kL⟩:=BA i hZ aY;refine⟨v,us,el,eH,fB,bl,_,rfl,fun j c av=>?_⟩;have bU:f+j<sz:=by have:=(fG.1 av).1;simp[fB]at this;exact this
 have hmul:i*sz+sz<=n'*sz:=by have:=Nat.mul_le_mul_right sz (show i+1<=n' from aB);rwa[Nat.succ_mul]at this
 have az:=cj.cellAt (i*sz+f+j) (by show _<n'*sz;omega);rw[az];rw[kL,List.getElem?_take,if_pos bU,List.getElem?_drop]at av;rw[<-av];congr 1;omega
theorem AU{P:bp}{aW:List (Nat×cm)}(au:dJ P aW=true){pr:Nat->Prop}{w:World}{ν:aD}{b:List (aq×List ab)}{e:List (aq×cq)}(aP:Good pr w ν b e){t:Nat}{f:cm}(aH:cW aW t=some f)
  {x:ab} {u:Value} (ad:aw w ν x u) {c:Prop} {p:ab} (he:kG b e f.kind.isAgg f.size x=some (c,p)) (az:c):∃v,(Instr.loadAt t u).run P w= .ok v w/\aw w ν p v:=by
 obtain⟨bL,ao⟩:=rK au aH w;generalize z8:f.kind.isAgg=er at*;generalize cO:f.size=sz at*;unfold kG at he;split at he
 ·rename_i cD k n i tU;unfold uN at he;split at he
  ·rename_i n' el gK xs J;split at he
   ·rename_i aR;obtain⟨rfl,rfl⟩:=aR;split at he
    ·rename_i gx R5;obtain⟨F5,us,dQ,g1,g2,l1⟩:=Good.rowElem aP J ad R5;have DN:dP gx=true:=by
      cases er
      ·simp only[ia,if_false,lr]at he;obtain⟨q,_,he⟩:=he;cases he;exact az
      ·simp only[if_true]at he;cases he;exact az.1
     have ch:=rB g1 DN;cases er
     ·simp only[ia,if_false,lr]at he;obtain⟨q,bj,he⟩:=he;cases he;obtain⟨v,f1,f2,f3⟩:=yP tU ch bj;refine⟨v,?_,f2⟩;obtain⟨b,o,rfl,l1⟩:=l1;have:=l1 0 v (by simpa using f1);simp only[Nat.add_zero]at this;simp[Instr.loadAt,Instr.sureAddr,loadVar,bL,this]
     ·simp only[if_true]at he;cases he;obtain⟨b,o,rfl,l1⟩:=l1;refine⟨.agg ((F5.cells.toList.drop tU).take sz).toArray,?_,by simp only[aw];exact⟨_,rfl,by simpa using BC ch tU sz⟩⟩;have aA:=mQ ch;have hlen:((F5.cells.toList.drop tU).take sz).length=sz:=by simp only[List.length_take,lp];omega
      have fy:=run_loadCells_list (P:=P) w ⟨b,o,none⟩ ((F5.cells.toList.drop tU).take sz) (fun j v av=>by
       rw[lU];refine l1 j v ?_;rw[List.getElem?_take]at av;split at av
       ·simpa[List.getElem?_drop]using av
       ·cases av)
      rw[hlen]at fy;simp only[Instr.loadAt,Instr.sureAddr,loadVar,ee,eT,eg,bL,if_true,ao,fy]
    ·cases he
   ·cases he
  ·cases he
 ·rename_i k off;simp only[aw]at ad;obtain⟨bl,I,rfl⟩:=ad;split at he
  ·rename_i cs J;obtain⟨fC,us,el,g1,g2,g3,g4,g5⟩:=aP.box k cs J;rw[I]at g1;cases g1;have hl:fm cs=true:=by
    cases er
    ·simp only[ia,if_false,lr]at he;obtain⟨q,bj,he⟩:=he;cases he;exact az
    ·simp only[if_true]at he;cases he;exact az.1
   rw[lJ hl]at g4;rw[lk hl]at g5;have aA:=mQ g5;cases er
   ·simp only[ia,if_false,lr]at he;obtain⟨q,bj,he⟩:=he;cases he;obtain⟨v,f1,f2,f3⟩:=yP off g5 bj;refine⟨v,?_,f2⟩;have l1:w.cell? ⟨bl,off,none⟩=some v:=by simpa[World.cell?,g4]using f1
    simp[Instr.loadAt,Instr.sureAddr,loadVar,bL,l1]
   ·simp only[if_true]at he;cases he;replace az:=az.2;refine⟨_,?_,by simp only[aw];exact⟨_,rfl,by simpa using BC g5 off sz⟩⟩;simp only[Instr.loadAt,Instr.sureAddr,loadVar,ee,eT,eg,bL,if_true,ao];rw[U8 g4 (by simp at aA;omega)];rfl
  ·cases he
 ·rename_i q;simp only[aw]at ad;obtain⟨bl,off,dw,rfl,aa,ak⟩:=ad;cases er
  ·simp only[ia,if_false]at he;cases he;obtain⟨p9,pa⟩:=az;obtain⟨g1,g2⟩:=Fj aa p9 (fun cs e=>by subst e;have:=dq List.length pa;simp only[cells,lN,List.length_nil]at this;cases cs with
    |nil=>simp[cells]at pa
    |cons y ys=>simp only[cells,MR]at pa;obtain⟨ah,aE⟩:=pa;subst aE;have:=dq SizeOf.sizeOf ah;simp at this;omega)
   refine⟨dw,?_,aa⟩;rw[g2]at ak;have l1:=ak.1.2;simp[Instr.loadAt,Instr.sureAddr,loadVar,bL,l1]
  ·simp only[if_true]at he;cases he;obtain⟨cs,rfl,hlen⟩:=az;simp only[aw]at aa;obtain⟨us,rfl,aK⟩:=aa;refine⟨.agg us,?_,by simp only[aw];exact⟨us,rfl,aK⟩⟩;simp only[mj]at ak;have aA:=mQ aK;have:=LO (P:=P) ak;rw[show us.toList.length=sz from by omega]at this;simp[Instr.loadAt,Instr.sureAddr,loadVar,bL,ao,this]
 ·cases he
theorem P7{P:bp}{aW:List (Nat×cm)}(au:dJ P aW=true){w:World}{ν:aD}{s i:Nat}{f:cm}{cT:List (Nat×Nat)}(aH:cW aW s=some f)(J:f.kind= .struct cT){off t:Nat}{g:cm}(aB:cT[i]? =some (off,t))(aP:cW aW t=some g)(bN:g.size≠0)
  {x:ab} {u:Value} (ad:aw w ν x u) {c:Prop} {p:ab} (he:mx off g.kind.isAgg g.size x=some (c,p)) (az:c):∃v,(Instr.fieldAt s u i).run P w= .ok v w/\aw w ν p v:=by
 obtain⟨d,aF,ej⟩:=gn au aH;rw[J]at ej;obtain⟨gs,rfl,hj⟩:=Cy ej;have l3:∃fd:Field,gs[i]? =some fd/\fd.offset=off/\fd.type=t:=by rw[<-hj]at aB;simp only[List.getElem?_map,lr]at aB;obtain⟨fd,I,aa⟩:=aB;simp only[hx]at aa;exact⟨fd,by simpa using I,aa.1,aa.2⟩
 obtain⟨fd,Af,ag,j9⟩:=l3;obtain⟨bL,ao⟩:=rK au aP w;have fy:∀b o,(Instr.fieldAt s (.pointer (some ⟨b,o,none⟩)) i).run P w= .ok (.pointer (some ⟨b,o+off,none⟩)) w:=by intro b o;simp[Instr.fieldAt,run_underlying aF,Af,Instr.sureAddr,fieldPlace,j9,ao,bN,lU,ag]
 unfold mx at he;split at he
 ·cases he;simp only[aw]at ad;obtain⟨b,I,rfl⟩:=ad;exact⟨_,fy _ _,by simp only[aw];exact⟨b,I,rfl⟩⟩
 ·cases he;simp only[aw]at ad;obtain⟨⟨b,o,rfl⟩,aB,n',dw,I,aa,ak⟩:=ad;refine⟨_,fy _ _,?_⟩;simp only[aw];refine⟨⟨b,_,rfl⟩,aB,n',dw,I,aa,fun e=>?_⟩;obtain⟨fh,ah,aE⟩:=ak e;simp only[aax,dv,Addr.mk.injEq,and_true]at aE;obtain⟨rfl,rfl⟩:=aE;exact⟨b,ah,by rw[Nat.add_assoc]⟩
 ·rename_i cs;simp only[aw]at ad;obtain⟨b,o,dw,rfl,⟨us,rfl,aa⟩,ak⟩:=ad;refine⟨_,fy _ _,?_⟩;simp only[mj]at ak;split at he
  ·cases he;simp only[aw];exact⟨b,o+off,.agg ((us.toList.drop off).take g.size).toArray,rfl,⟨_,rfl,by simpa using BC aa off g.size⟩,by simpa[mj]using AR g.size (AQ off ak)⟩
  ·simp only[lr]at he;obtain⟨q,bj,he⟩:=he;cases he;obtain⟨v,f1,f2,f3⟩:=yP off aa bj;simp only[aw];have RL:=qk ak f1;have Sj:v.cells= #[v]:=by cases v<;>first|rfl|cases f3
   exact⟨b,o+off,v,rfl,f2,by rw[Sj];exact⟨RL,trivial⟩⟩
 ·cases he
theorem Qf{P:bp}{aW:List (Nat×cm)}(au:dJ P aW=true){w:World}{ν:aD}{s i:Nat}{f:cm}{cT:List (Nat×Nat)}(aH:cW aW s=some f)(J:f.kind= .struct cT){off t:Nat}{g:cm}(aB:cT[i]? =some (off,t))(aP:cW aW t=some g)
  {x:ab} {u:Value} (ad:aw w ν x u) {c:Prop} {p:ab} (he:p2 off g.kind.isAgg g.size x=some (c,p)) (az:c):∃v,(Instr.field s u i).run P w= .ok v w/\aw w ν p v:=by
 obtain⟨d,aF,ej⟩:=gn au aH;rw[J]at ej;obtain⟨gs,rfl,hj⟩:=Cy ej;have l3:∃fd:Field,gs[i]? =some fd/\fd.offset=off/\fd.type=t:=by rw[<-hj]at aB;simp only[List.getElem?_map,lr]at aB;obtain⟨fd,I,aa⟩:=aB;simp only[hx]at aa;exact⟨fd,by simpa using I,aa.1,aa.2⟩
 obtain⟨fd,Af,ag,j9⟩:=l3;obtain⟨bL,ao⟩:=rK au aP w;unfold p2 at he;split at he
 ·rename_i cs;simp only[aw]at ad;obtain⟨us,rfl,aa⟩:=ad;generalize z8:g.kind.isAgg=er at*;cases er
  ·simp only[ia,if_false,lr]at he;obtain⟨q,bj,he⟩:=he;cases he;obtain⟨v,f1,f2,f3⟩:=yP off aa bj;have Px:us[off]? =some v:=by simpa using f1
   exact⟨v,by simp[Instr.field,run_underlying aF,Af,asAgg,part,j9,bL,ag,Px],f2⟩
  ·simp only[if_true]at he;cases he;refine⟨.agg (us.extract off (off+g.size)),by simp[Instr.field,run_underlying aF,Af,asAgg,part,j9,bL,ag,ao],?_⟩;simp only[aw];refine⟨_,rfl,?_⟩;have:=BC aa off g.size;simpa[List.take_drop]using this
 ·cases he
theorem Sv{P:bp}{aW:List (Nat×cm)}(au:dJ P aW=true){w:World}{ν:aD}{t e:Nat}{f g:cm}(aH:cW aW t=some f)(J:f.kind= .slice e)(aP:cW aW e=some g)
  {x y:ab} {u v:Value} (ad:aw w ν x u) (bk:aw w ν y v) {c:Prop} {p:ab} (he:vT g.size x y=some (c,p)) (az:c):∃r,(Instr.indexAt t u v).run P w= .ok r w/\aw w ν p r:=by
 obtain⟨d,aF,ej⟩:=gn au aH;rw[J]at ej;obtain rfl:=oc ej;obtain⟨bL,ao⟩:=rK au aP w;unfold vT at he;split at he
 ·rename_i cD tag xs k i;split at he
  ·rename_i cO;cases he;simp only[aw]at ad bk;subst bk;subst cO;obtain⟨⟨a,cap,rfl,I,aa,ak⟩,_⟩:=ad;obtain⟨vL,lz⟩:=az;have jL:i.toNat<xs.length:=Ω
   rcases ak with rfl|⟨b,off,us,rfl,aK,bb⟩
   ·simp at jL
   ·have ad:xs[i.toNat]? =some xs[i.toNat]:=eh jL;obtain⟨w',eH,fB,kL⟩:=BA i.toNat bb ad;refine⟨.pointer (some ⟨b,off+i.toNat*g.size,none⟩),?_,?_⟩
    ·simp only[Instr.indexAt,asIntOf,ee,eT,eg,run_underlying aF,vL,lz,and_self,if_true,ao,lU]
    ·simp only[aw];refine⟨b,off+i.toNat*g.size,w',rfl,by simpa[List.getD,ad]using eH,?_⟩;rw[kL];exact AR g.size (AQ _ aK)
  ·cases he
 ·rename_i cD k n Kj i;split at he
  ·rename_i cO;cases he;simp only[aw]at ad bk;subst bk;subst cO;obtain⟨⟨b,cap,rfl⟩,aa,n',dw,ak,aK,bb⟩:=ad;obtain⟨vL,lz⟩:=az;refine⟨.pointer (some ⟨b,0+i.toNat*g.size,none⟩),?_,?_⟩
   ·simp only[Instr.indexAt,asIntOf,ee,eT,eg,run_underlying aF,vL,lz,and_self,if_true,ao,lU]
   ·simp only[aw];refine⟨⟨b,_,rfl⟩,Ω,n',dw,ak,aK,fun e=>⟨b,?_,Ψ⟩⟩;rw[<-bb e];rfl
  ·cases he
 ·cases he
theorem Bg{C:dh}{st:aN}{a:Act}{w:World}{ν:aD}(h:bH C st a w ν){x:aV cg}{o:aV gY}(ad:s7 x o=true){zy n:Int}(he:oA zy (x.map (bh st.t))=some n):
  (o.map a.eval=none/\n=zy)\/ ∃k,o.map a.eval=some (.int k n):=by
 cases x with
 |none=>cases o with
  |none=>simp[oA]at he;exact .inl ⟨rfl,he.symm⟩
  |some o=>simp[s7]at ad
 |some x=>cases o with
  |none=>simp[s7]at ad
  |some o=>
   simp only[s7]at ad
   have:=da h ad
   simp only[mZ]at he⊢
   cases q3:bh st.t x<;>simp[q3,oA]at he
   rw[q3]at this
   simp only[aw]at this
   subst he
   exact .inr ⟨_,by rw[this]⟩
theorem GP:∀{xs:List ab} {s:List aC},n8 xs=some s->s.length=xs.length
 |[],s,h=>by simp only[n8]at h;cases h;rfl
 |x::xs,s,h=>by
  cases x<;>try(simp[n8]at h;done)
  rename_i k n;cases k<;>simp only[n8,lr,reduceCtorEq]at h;obtain⟨aj,I,rfl⟩:=h;simp[GP I]
def vb(n:Int):aC:=lP n.toNat
theorem GQ{w:World}{ν:aD}{sz:Nat}:∀{xs:List ab} {s:List aC} {us:List Value},n8 xs=some s->b4 w ν sz xs us->∃ns:List Int,us=ns.map (lM .u8)/\s=ns.map vb/\us.length=xs.length
 |[],s,us,h,hr=>by simp only[n8]at h;cases h;simp only[b4]at hr;subst hr;exact⟨[],rfl,rfl,rfl⟩
 |x::xs,s,us,h,hr=>by
  cases x<;>try(simp[n8]at h;done)
  rename_i k n;cases k<;>simp only[n8,lr,reduceCtorEq]at h;obtain⟨aj,I,rfl⟩:=h;simp only[b4,aw]at hr;obtain⟨u,a6,rfl,⟨rfl,_⟩,hr⟩:=hr;obtain⟨ns,rfl,rfl,aA⟩:=GQ I hr;exact⟨n::ns,by simp[mj],rfl,by simp[mj]at aA⊢;exact aA⟩
theorem K7{P:bp}{w:World}{f:Value->ib->Sem (ForInStep ib)}(aH:∀n s,f (.int .u8 n) s=pure (.yield (s.push (vb n)))):∀(ns:List Int) (s:ib),(forIn (ns.map (lM .u8)) s f).run P w= .ok ⟨(s.data.toList++ns.map vb).toArray⟩ w
 |[],s=>by simp
 |n::ns,s=>by simp only[gZ,List.forIn_cons,ee,aH,eT,eg];rw[K7 aH ns];simp[aas]
theorem Ng{P:bp}{w:World}{A:Nat->Nat->Prop}{a:aV Addr}{len cap:Nat}{ns:List Int}(aA:ns.length=len)(h:len=0\/ ∃b off,a=some ⟨b,off,none⟩/\h5 w A b off (ns.map (lM .u8))):
  (Conv.bytesToString (.slice a len cap)).run P w= .ok (.string ⟨(ns.map vb).toArray⟩) w:=by
 have RP:∀j0,a=some j0->(loadCells j0 len).run P w= .ok (ns.map (lM .u8)).toArray w:=fun j0 e=>by
  rcases h with h|⟨b,off,ah,aa⟩
  ·subst h;have:ns=[]:=by cases ns<;>simp_all
   subst this;exact run_loadCells_list w j0 [] fun j v av=>by simp at av
  ·rw[ah]at e;cases e;have:=LO (P:=P) aa;simpa[aA]using this
 unfold Conv.bytesToString;cases a with
 |none=>
  have:ns=[]:=by
   rcases h with h|⟨b,off,ah,aa⟩
   ·subst h;cases ns<;>simp_all
   ·cases ah
  subst this;simp;rfl
 |some j0=>simp only[ee,RP j0 rfl,eg,Array.forIn_toList,List.forIn_toArray];rw[K7 (fun n s=>rfl) ns aar];simp
theorem Gd{c d:ab}(h:zf c d=true):c=d:=by unfold zf at h;split at h<;>simp_all
theorem MO:∀{cs cn:List ab},w2 cs cn=true->cs=cn
 |[],[],_=>rfl
 |[],_::_,h=>by simp[w2]at h
 |_::_,[],h=>by simp[w2]at h
 |c::cs,d::cn,h=>by simp only[w2,bA]at h;rw[Gd h.1,MO h.2]
theorem Wy{w:World}{ν:aD}{c d:ab}{v:Value}(h:Gc c d=true)(aF:aw w ν d v):aw w ν c v:=by
 unfold Gc at h;split at h
 ·simp only[df]at h;subst h;simp only[aw]at aF⊢;exact⟨aF.1,fun e=>(by cases e),fun _ e=>(by cases e),fun _ _ e=>(by cases e),fun _ e=>(by cases e)⟩
 ·rw[Gd h];exact aF
theorem MN{w:World}{ν:aD}:∀{cs cn:List ab} {us:List Value},u1 cs cn=true->bV w ν cn us->bV w ν cs us
 |[],[],_,_,h=>h
 |[],_::_,_,h,_=>by simp[u1]at h
 |_::_,[],_,h,_=>by simp[u1]at h
 |c::cs,d::cn,us,h,hr=>by simp only[u1,bA]at h;simp only[bV]at hr⊢;obtain⟨u,a6,ah,⟨aE,bg⟩,cB⟩:=hr;exact⟨u,a6,ah,⟨Wy h.1 aE,bg⟩,MN h.2 cB⟩
theorem Wz{cs:List ab}{z:ab}(h:Gh cs z=true):∃cn,z= .agg cn/\u1 cs cn=true:=by
 cases z<;>simp only[Gh]at h;case agg cn=>exact⟨cn,rfl,h⟩
 all_goals cases h
theorem QA(s:List aC)(n:Nat)(h:n<s.length):(⟨s.toArray⟩:ib)[n]? =some (s.getD n 0):=by
 have cO:n<(⟨s.toArray⟩:ib).size:=by rw[y1];exact h
 have e:(⟨s.toArray⟩:ib)[n]? =some ((⟨s.toArray⟩:ib)[n]'cO):=getElem?_pos (⟨s.toArray⟩:ib) n cO;rw[e];congr 1;simp[List.getD,h];rfl
theorem BR(P:bp)(w:World)(k:IntKind)(i:Int)(y:Nat)(c:BoundsCode)(bN:0<=i)(I:i<=y):(Instr.sliceBound (.int k i) y c).run P w= .ok i.toNat w:=by simp[Instr.sliceBound,asIntOf,bN,I]
theorem GM(P:bp)(w:World)(SJ:Bool)(len cap:Nat)(lo aB:aV Value)(l h:Int)(RO:(lo=none/\l=0)\/ ∃k,lo=some (.int k l))(Rv:(aB=none/\h=len)\/ ∃k,aB=some (.int k h))
  (bN:0<=l) (I:l<=h) (aa:h<=len) (az:len<=cap):(Instr.sliceBounds SJ len cap lo aB none).run P w= .ok (l.toNat,h.toNat,cap) w:=by
 rcases RO with⟨rfl,rfl⟩|⟨k,rfl⟩<;>rcases Rv with⟨rfl,rfl⟩|⟨aX,rfl⟩
 ·simp[Instr.sliceBounds]
 ·simp[Instr.sliceBounds,BR P w aX h cap _ Ω Ω]
 ·simp[Instr.sliceBounds,BR P w k l len _ Ω Ω]
 ·simp[Instr.sliceBounds,BR P w aX h cap _ Ω Ω,BR P w k l h.toNat _ Ω Ω]
theorem K2{P:bp}{aW:List (Nat×cm)}(au:dJ P aW=true):∀(gs:List Field),(gs.all fun f=>(cW aW f.type).isSome)=true->
  ∃places:List (Nat×Nat),gs.mapM (fun f=>(P.info? f.type).map fun i=>(f.offset,i.size))=some places/\
   ∀(i off t sz:Nat),(gs.map (fun f=>(f.offset,f.type)))[i]? =some (off,t)->(cW aW t).map (·.size)=some sz->places[i]? =some (off,sz)
 |[],_=>⟨[],Ψ,Ψ⟩
 |f::gs,h=>by
  simp only[List.all_cons,bA]at h;obtain⟨places,I,aa⟩:=K2 au gs h.2;obtain⟨g,aP⟩:=ei.1 h.1;obtain⟨i,d,z,ah,aE,bg,cB,hc,e0,oe,lZ⟩:=(qC au aP).ex;refine⟨(f.offset,g.size)::places,by simp[List.mapM_cons,ah,bg,I],fun j off t sz av cO=>?_⟩;cases j with
  |zero=>simp only[gZ,List.getElem?_cons_zero,dv,hx]at av⊢;obtain⟨rfl,rfl⟩:=av;rw[aP]at cO;simpa using cO
  |succ j=>simp only[gZ,List.getElem?_cons_succ]at av⊢;exact aa j off t sz av cO
theorem iy{P:bp}{w:World}{x:Sem Value}{v:Value}(h:x.run P w= .ok v w):(do pure (Next.value (<-x)):Sem Next).run P w= .ok (.value v) w:=by simp[h]
theorem Gg{p q:ab}(h:w4 p q=true):p=q:=by
 unfold w4 at h;split at h
 ·rw[MO h]
 ·cases h
 ·exact Gd h
theorem Gf(w:World)(ν:aD){p:ab}{v:Value}(h:u2 p v=true):aw w ν p v/\bV w ν (cells p) v.cells.toList:=by
 by_cases bL:∃cs,p= .agg cs
 ·obtain⟨cs,rfl⟩:=bL;cases v<;>simp only[u2]at h;case agg us=>have:=Ge w ν _ _ h;exact⟨by simp only[aw];exact⟨us,rfl,this⟩,by simpa[cells,mj]using this⟩
  all_goals cases h
 ·have b6:vc p v=true/\v.oneCell'=true:=by cases p<;>simp only[u2,bA]at h<;>first|exact h|exact absurd ⟨_,rfl⟩ bL
  have hr:=Cj w ν b6.1;refine⟨hr,?_⟩;have az:cells p=[p]:=by cases p<;>first|rfl|exact absurd ⟨_,rfl⟩ bL
  have aL:v.cells= #[v]:=by have:=b6.2;cases v<;>first|rfl|simp[Value.oneCell']at this
  rw[az,aL];simp only[bV];exact⟨v,[],rfl,⟨hr,b6.2⟩,rfl⟩
theorem FL{P:bp}{aW:List (Nat×cm)}(au:dJ P aW=true){t:Nat}{f:cm}(aH:cW aW t=some f)(w:World):∃z,(zeroValue t).run P w= .ok z w/\u2 f.zero z=true/\z.cells.size=f.size:=by obtain⟨i,d,z,I,aa,ak,aK,bb,ct,dZ,hS⟩:=(qC au aH).ex;exact⟨z,by simp[zeroValue,typeInfo,I,ct],dZ,hS⟩
theorem uM{C:dh}{st:aN}{a:Act}{w:World}{ν:aD}(h:bH C st a w ν):∀{xs:List cg} {os:List gY},rs xs os=true->bP w ν (xs.map (bh st.t)) (os.map a.eval)
 |[],[],_=>by simp[bP]
 |[],_::_,J=>by simp[rs]at J
 |_::_,[],J=>by simp[rs]at J
 |x::xs,o::os,J=>by simp only[rs,bA]at J;simp only[gZ,bP];exact⟨_,_,rfl,da h J.1,uM h J.2⟩
theorem Ou{P:bp}{w:World}{t:eU}(aF:P.underlying t=some .bool)(d:Nat)(a b:Bool):(Op.equalIn (d+1) t (.bool a) (.bool b)).run P w= .ok (a==b) w:=by rw[Op.equalIn];simp only[ee,run_underlying aF,eg,eT]
theorem Ov{P:bp}{w:World}{t:eU}{ms:Array (String×eU)}(aF:P.underlying t=some (.interface ms))(d:Nat):(∀u x,(Op.equalIn (d+1) t (.iface u x) .nilIface).run P w= .ok false w)/\(Op.equalIn (d+1) t .nilIface .nilIface).run P w= .ok true w:=by
 constructor
 ·intro u x;simp[Op.equalIn,run_underlying aF]
 ·simp[Op.equalIn,run_underlying aF]
theorem zG{P:bp}{w:World}{t:eU}{ms:Array (String×eU)}(aF:P.underlying t=some (.interface ms)):(∀u x,(Op.equal t (.iface u x) .nilIface).run P w= .ok false w)/\(Op.equal t .nilIface .nilIface).run P w= .ok true w:=Ov aF 9999
theorem Ow{P:bp}{w:World}{t:eU}(aF:P.underlying t=some .bool)(a b:Bool):(Op.equal t (.bool a) (.bool b)).run P w= .ok (a==b) w:=Ou aF _ a b
theorem H3:∀{borns:List Nat} {kvs:List ab} {us:List Value},kvs.length=2*borns.length->us.length=kvs.length->(eK borns us).length=borns.length
 |[],_,us,_,_=>by simp[eK]
 |fh::dx,kvs,[],I,aa=>by rw[I]at aa;simp at aa
 |fh::dx,kvs,[_],I,aa=>by rw[I]at aa;simp at aa;omega
 |fh::dx,kvs,k::v::us,I,aa=>by simp only[eK,lN];rw[H3 (kvs:=kvs.drop 2) (us:=us) (borns:=dx) (by simp at I⊢;omega) (by simp at I aa⊢;omega)]
theorem LD{w:World}{ν:aD}:∀{aZ:List ab} {vs:List Value},bP w ν aZ vs->vs.length=aZ.length
 |[],vs,h=>by simp only[bP]at h;subst h;rfl
 |p::aZ,vs,h=>by simp only[bP]at h;obtain⟨u,a6,rfl,_,aa⟩:=h;simp[LD aa]
theorem rG{P:bp}{w:World}{r:Nat}{o:Obj}(af:w.heap[r]? =some o)(aR:∀c e f,o≠ .cells c e f:=by simp):(getObj r).run P w= .ok o w:=by simp only[getObj,Sem.run,af]
def nX(P:bp):Nat->List Bool->List Field->Prop
 |_,[],[]=>True
 |n,b::r,f::gs=>(f.offset=n/\f.name≠ "_" /\(if b=true then P.underlying f.type=some .string else∃k,P.underlying f.type=some (.int k)))/\nX P (n+1) r gs
 |_,_,_=>cw
theorem yE{P:bp}{t:eU}{b:Bool}(h:if b=true then P.underlying t=some .string else∃k,P.underlying t=some (.int k)):P.plainKey t=true:=by
 cases b
 ·obtain⟨k,h⟩:=(by simpa using h:∃k,P.underlying t=some (.int k));simp[Program.plainKey,h]
 ·have h:P.underlying t=some .string:=by simpa using h
  simp[Program.plainKey,h]
theorem Nv{P:bp}{w:World}{ν:aD}(d:Nat){X Y:Array Value}(cT:List Bool):∀(gs:List Field) (n:Nat) (as dx:List ab) (us vs:List Value) (q:Bool),nX P n cT gs->X.toList.drop n=us->Y.toList.drop n=vs->bV w ν as us->bV w ν dx vs->iS cT as dx=some q->
  (Op.eqFields (d+1) X Y gs).run P w= .ok q w/\(q=true->us=vs)/\∀m,(us.zip us).all (fun(x,y)=>Instr.sameBits m x y)=true:=by
 induction cT with
 |nil=>intro gs n as dx us vs q aP o8 vF I aa h;cases as<;>cases dx<;>simp only[iS,dv,reduceCtorEq]at h;cases gs<;>simp only[nX]at aP;simp only[bV]at I aa;rw[I,aa,<-h];exact⟨by simp[Op.eqFields],fun _=>rfl,fun m=>rfl⟩
 |cons tS r a8=>
  intro gs n as dx us vs q aP o8 vF I aa h;cases gs with
  |nil=>simp only[nX]at aP
  |cons f gs=>
  simp only[nX]at aP;obtain⟨⟨Ar,fL,j9⟩,aP⟩:=aP;cases as with
  |nil=>cases tS<;>cases dx<;>simp[iS]at h
  |cons yD as=>
  cases dx with
  |nil=>cases tS<;>cases yD<;>simp[iS]at h
  |cons Bk dx=>
  cases tS with
  |false=>
   have az:∃k a b hh,yD= .int k a/\Bk= .int k b/\iS r as dx=some hh/\q=((a==b)&&hh):=by
    cases yD<;>first|(simp[iS]at h;done)|skip
    cases Bk<;>first|(simp[iS]at h;done)|skip
    simp only[iS]at h;split at h
    ·rename_i J;subst J;simp only[lr]at h;obtain⟨hh,ak,aK⟩:=h;exact⟨_,_,_,hh,rfl,rfl,ak,aK.symm⟩
    ·cases h
   obtain⟨k,a,b,hh,rfl,rfl,ak,rfl⟩:=az;simp only[bV,aw]at I aa;obtain⟨u,a6,rfl,⟨rfl,_⟩,I⟩:=I;obtain⟨v,vs',rfl,⟨rfl,_⟩,aa⟩:=aa;have yC:X[n]? =some (.int k a):=by rw[<-Array.getElem?_toList,<-List.head?_drop,o8];rfl
   have EX:Y[n]? =some (.int k b):=by rw[<-Array.getElem?_toList,<-List.head?_drop,vF];rfl
   obtain⟨i1,i2,i3⟩:=a8 gs (n+1) as dx a6 vs' hh aP (by rw[<-List.tail_drop,o8];rfl) (by rw[<-List.tail_drop,vF];rfl) I aa ak;obtain⟨Kj,DS⟩:=(by simpa using j9:∃k,P.underlying f.type=some (.int k));refine⟨?_,?_,fun m=>?_⟩
   ·simp only[Op.eqFields,fL,ne_eq,not_false_eq_true,if_true,ee,Ar,run_part_plain w (yE j9) yC,run_part_plain w (yE j9) EX,eg,run_equalIn_int w d f.type k Kj a b DS];cases oj:(a==b)
    ·simp
    ·simpa using i1
   ·intro bj;simp only[bA,df]at bj;rw[bj.1,i2 bj.2]
   ·have:=i3 m;simp only[List.zip_cons_cons,List.all_cons,this,Bool.and_true];cases m<;>simp[Instr.sameBits]
  |true=>
   have az:∃a b hh,yD= .str a/\Bk= .str b/\iS r as dx=some hh/\q=((a==b)&&hh):=by
    cases yD<;>first|(simp[iS]at h;done)|skip
    cases Bk<;>first|(simp[iS]at h;done)|skip
    simp only[iS,lr]at h;obtain⟨hh,ak,aK⟩:=h;exact⟨_,_,hh,rfl,rfl,ak,aK.symm⟩
   obtain⟨a,b,hh,rfl,rfl,ak,rfl⟩:=az;simp only[bV,aw]at I aa;obtain⟨u,a6,rfl,⟨⟨rfl,_⟩,_⟩,I⟩:=I;obtain⟨v,vs',rfl,⟨⟨rfl,_⟩,_⟩,aa⟩:=aa;have yC:X[n]? =some (.string ⟨a.toArray⟩):=by rw[<-Array.getElem?_toList,<-List.head?_drop,o8];rfl
   have EX:Y[n]? =some (.string ⟨b.toArray⟩):=by rw[<-Array.getElem?_toList,<-List.head?_drop,vF];rfl
   obtain⟨i1,i2,i3⟩:=a8 gs (n+1) as dx a6 vs' hh aP (by rw[<-List.tail_drop,o8];rfl) (by rw[<-List.tail_drop,vF];rfl) I aa ak;have DS:P.underlying f.type=some .string:=by simpa using j9
   refine⟨?_,?_,fun m=>?_⟩
   ·simp only[Op.eqFields,fL,ne_eq,not_false_eq_true,if_true,ee,Ar,run_part_plain w (yE j9) yC,run_part_plain w (yE j9) EX,eg,run_equalIn_string w d f.type _ _ DS];have e:((⟨a.toArray⟩:ib).toList==(⟨b.toArray⟩:ib).toList)=(a==b):=by rw[WB,WB]
    rw[e];cases oj:(a==b)
    ·simp
    ·simpa using i1
   ·intro bj;simp only[bA,df]at bj;rw[bj.1,i2 bj.2]
   ·have:=i3 m;simp only[List.zip_cons_cons,List.all_cons,this,Bool.and_true];cases m<;>simp only[Instr.sameBits]<;>exact(MapKept.bytes_beq _ _).2 rfl
theorem Ij{P:bp}{aW:List (Nat×cm)}(au:dJ P aW=true):∀(cT:List Bool) (gs:List Field) (n:Nat),vy aW n cT (gs.map fun f=>(f.offset,f.type))=true->(gs.all (fun f=>match P.underlying f.type with|some (.int _)=>true|some .string=>true|_=>false)=true)/\((∀f∈gs,f.name≠ "_")->nX P n cT gs)
 |[],[],_,_=>⟨rfl,fun _=>trivial⟩
 |[],_::_,_,h=>by simp[vy]at h
 |_::_,[],_,h=>by simp[vy]at h
 |b::r,f::gs,n,h=>by
  simp only[gZ,vy,bA,df]at h;obtain⟨⟨I,aa⟩,ak⟩:=h;obtain⟨i1,i2⟩:=Ij au r gs (n+1) ak;split at aa
  ·rename_i aH;obtain⟨d,hu,aF⟩:=gn au aH;obtain rfl:=xu aF;refine⟨by simp only[List.all_cons,hu,i1,Bool.and_self],fun aR=>⟨⟨I,aR f Ψ,?_⟩,i2 fun g aP=>aR g (by simp[aP])⟩⟩;have:b=false:=by simpa using aa
   subst this;simpa using⟨_,hu⟩
  ·rename_i aH;obtain⟨d,hu,aF⟩:=gn au aH;obtain rfl:=r9 aF;refine⟨by simp only[List.all_cons,hu,i1,Bool.and_self],fun aR=>⟨⟨I,aR f Ψ,?_⟩,i2 fun g aP=>aR g (by simp[aP])⟩⟩;subst aa;simpa using hu
  ·cases aa
theorem Il{P:bp}{aW:List (Nat×cm)}(au:dJ P aW=true){cT:List Bool}{t:Nat}(h:zP aW cT t=true):∃gs,P.underlying t=some (.struct gs)/\nX P 0 cT gs.toList/\P.stoodInHeld t=false/\P.eqGuardType P.depth t=false:=by
 unfold zP at h;split at h
 ·rename_i aH;obtain⟨d,hu,aF⟩:=gn au aH;have az:=(qC au aH).cmp d hu;cases d<;>simp[jH]at aF;rename_i gs;subst aF;obtain⟨i1,i2⟩:=Ij au cT gs.toList 0 h;have Ro:Ik P gs=true:=i1;simp only[Ct,Ro,Bool.not_true,Bool.false_or,HC,bA,oO,kj,bne_iff_ne,ne_eq]at az;exact⟨gs,hu,i2 az.1.1,az.1.2,az.2⟩
 ·cases h
theorem H5{P:bp}{w:World}{ν:aD}{t:eU}{gs:Array Field}{cT:List Bool}(hu:P.underlying t=some (.struct gs))(aP:nX P 0 cT gs.toList)(fe:P.stoodInHeld t=false){as dx:List ab}{X Y:Array Value}(I:bV w ν as X.toList)(aa:bV w ν dx Y.toList){q:Bool}(h:iS cT as dx=some q):
  (Op.equalIn 10000 t (.agg X) (.agg Y)).run P w= .ok q w/\(q=true->X=Y)/\∀m,(X.toList.zip X.toList).all (fun(x,y)=>Instr.sameBits m x y)=true:=by
 have aH:P.fieldsOf t=gs:=by simp[Program.fieldsOf,hu]
 obtain⟨i1,i2,i3⟩:=Nv 9998 cT gs.toList 0 as dx _ _ q aP rfl rfl I aa h;refine⟨?_,fun e=>?_,?_⟩
 ·rw[run_equalIn_struct w 9999 t X Y (by rw[aH];exact hu) fe,aH];exact i1
 ·have:=i2 e;simpa using this
 ·simpa using i3
inductive qH (P:bp):ig->eU->Prop
 |i {t:eU} {k:IntKind}:P.underlying t=some (.int k)->qH P .i t
 |s {t:eU}:P.underlying t=some .string->qH P .s t
 |a {t:eU} {cT:List Bool} {gs:Array Field}:P.underlying t=some (.struct gs)->nX P 0 cT gs.toList->P.stoodInHeld t=false->qH P (.a cT) t
theorem Ed{P:bp}{aW:List (Nat×cm)}(au:dJ P aW=true){bD:ig}{t:Nat}(h:uy aW bD t=true):qH P bD t:=by
 cases bD with
 |i=>
  simp only[uy]at h;split at h
  ·rename_i aH;obtain⟨d,hu,aF⟩:=gn au aH;obtain rfl:=xu aF;exact .i hu
  ·cases h
 |s=>
  simp only[uy]at h;split at h
  ·rename_i aH;obtain⟨d,hu,aF⟩:=gn au aH;obtain rfl:=r9 aF;exact .s hu
  ·cases h
 |a cT=>obtain⟨gs,I,aa,ak,_⟩:=Il au h;exact .a I aa ak
def pW(P:bp)(w:World)(bD:ig)(t:eU)(fO u:Value)(b:Bool):Prop:=match bD with
 | .a _=>(Op.equal t fO u).run P w= .ok b w
 |_=> ∀d,P.underlying t=some d->Instr.sameNow d fO u=some b
def gL(P:bp)(w:World)(bD:ig)(t:eU)(fO:Value)(es:List MapEntry)(i:Nat)(r:aV (Nat×Value)):Prop:=match bD with
 | .a _=>(Instr.findAsking t fO es i).run P w= .ok r w
 |_=> ∀d,P.underlying t=some d->Instr.findNow d fO es i=some r
theorem gL.nil(P:bp)(w:World)(bD:ig)(t:eU)(fO:Value)(i:Nat):gL P w bD t fO [] i none:=by cases bD<;>simp[gL,Instr.findAsking,Instr.findNow]
theorem gL.hit{P:bp}{w:World}{bD:ig}{t:eU}{fO:Value}{e:MapEntry}{es:List MapEntry}{i:Nat}(h:pW P w bD t fO e.key true):gL P w bD t fO (e::es) i (some (i,e.val)):=by
 cases bD with
 |a cT=>simp only[pW]at h;simp[gL,Instr.findAsking,h]
 |i=>simp only[pW]at h;simp only[gL];intro d aF;simp[Instr.findNow,h d aF]
 |s=>simp only[pW]at h;simp only[gL];intro d aF;simp[Instr.findNow,h d aF]
theorem gL.miss{P:bp}{w:World}{bD:ig}{t:eU}{fO:Value}{e:MapEntry}{es:List MapEntry}{i:Nat}{r:aV (Nat×Value)}(h:pW P w bD t fO e.key false)(hr:gL P w bD t fO es (i+1) r):gL P w bD t fO (e::es) i r:=by
 cases bD with
 |a cT=>simp only[pW]at h;simp only[gL]at hr;simp[gL,Instr.findAsking,h,hr]
 |i=>simp only[pW]at h;simp only[gL]at hr⊢;intro d aF;simp[Instr.findNow,h d aF,hr d aF]
 |s=>simp only[pW]at h;simp only[gL]at hr⊢;intro d aF;simp[Instr.findNow,h d aF,hr d aF]
theorem gL.run{P:bp}{w:World}{bD:ig}{t:eU}(aF:qH P bD t){fO:Value}{es:List MapEntry}{r:aV (Nat×Value)}(h:gL P w bD t fO es 0 r):(Instr.findKey t fO es).run P w= .ok r w:=by
 cases aF with
 |i hu=>simp only[gL]at h;simp[Instr.findKey,run_underlying hu,h _ hu]
 |s hu=>simp only[gL]at h;simp[Instr.findKey,run_underlying hu,h _ hu]
 |a hu aP fe=>
  simp only[gL]at h;cases es with
  |nil=>simp[Instr.findAsking]at h;simp[Instr.findKey,run_underlying hu,Instr.findNow,h]
  |cons e es=>
   rename_i gs;have:Instr.sameNow (.struct gs) fO e.key=none:=by cases fO<;>rfl
   simp only[Instr.findKey,ee,run_underlying hu,eg,Instr.findNow,this];exact h
theorem Kd{P:bp}{w:World}{ν:aD}{bD:ig}{t:eU}(aF:qH P bD t){k aX:ab}{fO u:Value}(J:aw w ν k fO)(I:aw w ν aX u){hb:Bool}(af:rj bD k aX=some hb):
  pW P w bD t fO u hb/\(hb=true->u=fO/\Instr.sameBits 10000 u fO=true):=by
 unfold rj at af;split at af
 ·split at af
  ·rename_i hE;subst hE;simp only[aw]at J I;subst J;subst I;cases aF with
   |i hu=>refine⟨fun d aF=>by rw[hu]at aF;cases aF;simpa[Instr.sameNow]using af,fun e=>?_⟩;subst e;simp only[dv,df]at af;subst af;exact⟨rfl,by simp[Instr.sameBits]⟩
  ·cases af
 ·rename_i a b;simp only[aw]at J I;obtain⟨rfl,_⟩:=J;obtain⟨rfl,_⟩:=I;cases aF with
  |s hu=>
   refine⟨fun d aF=>?_,fun e=>?_⟩
   ·rw[hu]at aF;cases aF;simp only[Instr.sameNow];rw[<-af];congr 1;rw[Bool.eq_iff_iff,MapKept.bytes_beq];simp
   ·subst e;simp only[dv,df]at af;subst af;exact⟨rfl,by simp only[Instr.sameBits];exact(MapKept.bytes_beq _ _).2 rfl⟩
 ·simp only[aw]at J I;obtain⟨X,rfl,J⟩:=J;obtain⟨Y,rfl,I⟩:=I;cases aF with
  |a hu aP fe=>obtain⟨i1,i2,i3⟩:=H5 hu aP fe J I af;refine⟨by simpa[pW,Op.equal,Op.maxDepth]using i1,fun e=>?_⟩;have:=i2 e;subst this;exact⟨rfl,by simp[Instr.sameBits,i3]⟩
 ·cases af
theorem Ey{P:bp}{w:World}{ν:aD}{bD:ig}{t:eU}(aF:qH P bD t){k:ab}{fO:Value}(J:aw w ν k fO):∀(borns:List Nat) (kvs:List ab) (us:List Value) (i:Nat) (r:aV ab),bP w ν kvs us->kvs.length=2*borns.length->qo bD k kvs=some r->
  match r with
  |none=>gL P w bD t fO (eK borns us) i none
  |some v=> ∃j u,gL P w bD t fO (eK borns us) i (some (j,u))/\aw w ν v u
 |[],[],us,i,r,h,_,hm=>by simp only[qo]at hm;cases hm;simp only[bP]at h;subst h;simpa[eK]using gL.nil P w bD t fO i
 |[],_::_,_,_,_,_,aA,_=>by simp at aA
 |b::dx,[],_,_,_,_,aA,_=>by simp at aA
 |b::dx,[_],_,_,_,_,aA,_=>by simp at aA;omega
 |b::dx,aX::v::kvs,us,i,r,h,aA,hm=>by
  simp only[bP]at h;obtain⟨ix,FW,rfl,I,h7,oK,rfl,aa,ak⟩:=h;simp only[qo]at hm;simp only[eK];cases bj:rj bD k aX with
  |none=>simp[bj]at hm
  |some hb=>
   obtain⟨s1,_⟩:=Kd aF J I bj;simp only[bj]at hm;cases hb with
   |true=>simp only[dv]at hm;subst hm;exact⟨i,h7,gL.hit (e:=⟨ix,h7,b⟩) s1,aa⟩
   |false=>
    simp only at hm;have a8:=Ey aF J dx kvs oK (i+1) r ak (by simp at aA;omega) hm;cases r with
    |none=>exact gL.miss (e:=⟨ix,h7,b⟩) s1 a8
    |some v'=>obtain⟨j,u,g1,g2⟩:=a8;exact⟨j,u,gL.miss (e:=⟨ix,h7,b⟩) s1 g1,g2⟩
theorem Cr{P:bp}{w:World}{t:Nat}{d:TypeDesc}(hu:P.underlying t=some d)(aF:(∃k,d= .int k)\/d= .string)(e:Bool)(n:Nat)(v:Value):(Instr.checkKey e (n+1) t v).run P w= .ok () w:=by unfold Instr.checkKey;rcases aF with⟨k,rfl⟩|rfl<;>simp[run_underlying hu]
theorem Qe{P:bp}{w:World}{ν:aD}{X:Array Value}(cT:List Bool):∀(gs:List Field) (n:Nat) (as:List ab),nX P n cT gs->bV w ν as (X.toList.drop n)->(iS cT as as).isSome=true->
  ∀f∈gs,(∃v,(part f.type X f.offset).run P w= .ok v w)/\∃d,P.underlying f.type=some d/\((∃k,d= .int k)\/d= .string):=by
 induction cT with
 |nil=>intro gs n as aP _ _ f aH;cases gs<;>simp only[nX]at aP;cases aH
 |cons tS r a8=>
  intro gs n as aP hr az f aH;cases gs with
  |nil=>cases aH
  |cons g gs=>
  simp only[nX]at aP;obtain⟨⟨Ar,fL,j9⟩,aP⟩:=aP;cases as with
  |nil=>cases tS<;>simp[iS]at az
  |cons p as=>
  have jj:(iS r as as).isSome=true:=by cases tS<;>cases p<;>simp[iS]at az⊢ <;>exact az
  simp only[bV]at hr;obtain⟨u,a6,e,_,bG⟩:=hr;have aE:X.toList.drop (n+1)=a6:=by rw[<-List.tail_drop,e];rfl
  have yC:X[n]? =some u:=by rw[<-Array.getElem?_toList,<-List.head?_drop,e];rfl
  rcases gp.1 aH with rfl|aH
  ·refine⟨⟨u,by rw[Ar];exact run_part_plain w (yE j9) yC⟩,?_⟩;cases tS
   ·obtain⟨k,h⟩:=(by simpa using j9:∃k,P.underlying f.type=some (.int k));exact⟨_,h,.inl ⟨k,rfl⟩⟩
   ·exact⟨_,by simpa using j9,.inr rfl⟩
  ·exact a8 gs (n+1) as aP (by rw[aE];exact bG) jj f aH
theorem Iq{P:bp}{w:World}{α:Type}(body:α->PUnit->Sem (ForInStep PUnit)):∀(l:List α),(∀f∈l,(body f ⟨⟩).run P w= .ok (.yield ⟨⟩) w)->(forIn l PUnit.unit body).run P w= .ok PUnit.unit w
 |[],_=>by simp
 |f::l,h=>by simp only[List.forIn_cons,ee,h f Ψ,eg];exact Iq body l fun g aP=>h g (by simp[aP])
theorem Fp{P:bp}{w:World}{ν:aD}{bD:ig}{t:Nat}(aF:qH P bD t)(e:Bool){k:ab}{v:Value}(J:aw w ν k v)(aB:ux bD k=true):(Instr.checkKey e 10000 t v).run P w= .ok () w:=by
 cases aF with
 |i hu=>exact Cr hu (.inl ⟨_,rfl⟩) e 9999 v
 |s hu=>exact Cr hu (.inr rfl) e 9999 v
 |a hu aP fe=>
  rename_i cT gs;cases k<;>simp only[ux,ia]at aB;rename_i as;simp only[aw]at J;obtain⟨X,rfl,J⟩:=J;unfold Instr.checkKey;simp only[ee,run_underlying hu,eg];rw[<-Array.forIn_toList];rw[Iq]
  ·simp
  ·intro f aH;obtain⟨⟨v,I⟩,d,aa,ak⟩:=Qe cT gs.toList 0 as aP (by simpa using J) aB f aH;have aK:=Cr (w:=w) aa ak e 9998 v;by_cases aR:f.name= "_"
   ·simp[aR]
   ·simp[aR,I,aK]
theorem Kx{w:World}{ν:aD}{n:Nat}:∀(borns:List Nat) (kvs:List ab) (us:List Value) (p:ab),bP w ν kvs us->l7 n borns kvs=some p->∃e,(eK borns us).find? (·.born==n)=some e/\aw w ν p (.tuple #[e.key,e.val])
 |[],_,_,_,_,hm=>by simp[l7]at hm
 |_::_,[],_,_,_,hm=>by simp[l7]at hm
 |_::_,[_],_,_,_,hm=>by simp[l7]at hm
 |b::dx,k::v::kvs,us,p,h,hm=>by
  simp only[bP]at h;obtain⟨ix,FW,rfl,I,h7,oK,rfl,aa,ak⟩:=h;simp only[l7]at hm;simp only[eK];by_cases e:b=n
  ·rw[if_pos e]at hm;cases hm;refine⟨⟨ix,h7,b⟩,by simp[List.find?,e],?_⟩;simp only[aw];exact⟨#[ix,h7],rfl,by simp only[bP];exact⟨_,_,rfl,I,_,_,rfl,aa,rfl⟩⟩
  ·rw[be e]at hm;obtain⟨x,g1,g2⟩:=Kx dx kvs oK p ak hm;have Q2:(b==n)=false:=by simpa using e
   exact⟨x,by simp[List.find?,Q2,g1],g2⟩
theorem Mt{P:bp}{aW:List (Nat×cm)}(au:dJ P aW=true){C:dh}{st:aN}{a:Act}{w:World}{ν:aD}(hr:bH C st a w ν){i:eY}(Q1:∀bD z ok x k,i≠ .mgetB bD z ok x k){o:Oper}(ag:zb aW i o.op=true)
  {c:Prop} {p:ab} (he:fw st i=some (c,p)) (az:c):∃v,(execOp a.eval o).run P w= .ok (.value v) w/\aw w ν p v:=by
 obtain⟨dst,op,type,pos,after,guard⟩:=o;simp only at ag;unfold zb at ag;split at ag
 ·rename_i x o;simp only[fw]at he;cases he;exact⟨_,rfl,da hr ag⟩
 ·rename_i x o;simp only[fw]at he;cases he;exact⟨_,rfl,da hr ag⟩
 ·rename_i fY x y Xo w1 y';simp only[bA]at ag;have I:=da hr ag.1.1;have aa:=da hr ag.1.2;have ak:=da hr ag.2;simp only[fw,Bl]at he;split at he
  ·rename_i b af;rw[af]at I;simp only[aw]at I;split at he
   ·rename_i u v hu aL;cases he;rw[hu]at aa;rw[aL]at ak;simp only[aw]at aa ak;refine⟨.bool (cond b u v),?_,by simp[aw]⟩;simp only[execOp,I,aa,ak,asBool,ee,eT,eg];cases b<;>rfl
   ·split at he
    ·cases he;exact⟨_,by simp only[execOp,I,asBool,ee,eT,eg,if_true],aa⟩
    ·cases he;exact⟨_,by simp only[execOp,I,asBool,ee,eT,eg,ia,if_false],ak⟩
  ·cases he
 ·rename_i agg sz x t o;simp only[bA]at ag;obtain⟨I,aa⟩:=ag;split at I
  ·rename_i f aH;simp only[bA,df]at I;obtain⟨rfl,rfl⟩:=I;obtain⟨v,g1,g2⟩:=AU au hr.good aH (da hr aa) (by simpa only[fw]using he) az;exact⟨v,iy g1,g2⟩
  ·cases I
 ·rename_i off agg sz x s o i;simp only[bA]at ag;obtain⟨I,aa⟩:=ag;split at I
  ·rename_i f aH;split at I
   ·rename_i s4 t xS;simp only[bA,df]at I;obtain⟨rfl,I⟩:=I;split at I
    ·rename_i g aP;simp only[bA,df,bne_iff_ne,ne_eq]at I;obtain⟨⟨rfl,rfl⟩,bN⟩:=I;obtain⟨v,g1,g2⟩:=P7 au aH rfl xS aP bN (da hr aa) (by simpa only[fw]using he) az;exact⟨v,iy g1,g2⟩
    ·cases I
   ·cases I
  ·cases I
 ·rename_i off agg sz x s o i;simp only[bA]at ag;obtain⟨I,aa⟩:=ag;split at I
  ·rename_i f aH;split at I
   ·rename_i s4 t xS;simp only[bA,df]at I;obtain⟨rfl,I⟩:=I;split at I
    ·rename_i g aP;simp only[bA,df]at I;obtain⟨rfl,rfl⟩:=I;obtain⟨v,g1,g2⟩:=Qf au aH rfl xS aP (da hr aa) (by simpa only[fw]using he) az;exact⟨v,iy g1,g2⟩
    ·cases I
   ·cases I
  ·cases I
 ·rename_i sz x i t o j;simp only[bA]at ag;obtain⟨⟨I,aa⟩,ak⟩:=ag;split at I
  ·rename_i e aH;split at I
   ·rename_i g aP;simp only[df]at I;subst I;obtain⟨v,g1,g2⟩:=Sv au aH rfl aP (da hr aa) (da hr ak) (by simpa only[fw]using he) az;exact⟨v,iy g1,g2⟩
   ·cases I
  ·cases I
 ·rename_i x i t o j;simp only[bA]at ag;obtain⟨⟨I,aa⟩,ak⟩:=ag;split at I
  ·rename_i aH;obtain⟨d,aF,ej⟩:=gn au aH;obtain rfl:=r9 ej;have ah:=da hr aa;have aE:=da hr ak;simp only[fw,BQ]at he;split at he
   ·rename_i s k n ao aR;cases he;rw[ao]at ah;rw[aR]at aE;simp only[aw]at ah aE;obtain⟨qZ,p9⟩:=az;have bU:n.toNat<s.length:=Ω
    have Rw:(⟨s.toArray⟩:ib)[n.toNat]? =some (s.getD n.toNat 0):=by exact QA s n.toNat bU
    refine⟨_,iy (v:= .int .u8 (s.getD n.toNat 0).toNat) ?_,by simp[aw]⟩;simp only[Instr.index,aE,asIntOf,ah.1,ee,eT,eg,run_underlying aF,qZ,if_true,Rw]
   ·cases he
  ·cases I
 ·rename_i x lo aB t o l h;simp only[bA]at ag;obtain⟨⟨⟨I,aa⟩,ak⟩,aK⟩:=ag;split at I
  ·rename_i aH;obtain⟨d,aF,ej⟩:=gn au aH;obtain rfl:=r9 ej;have ah:=da hr aa;simp only[fw,BS]at he;split at he
   ·rename_i s ao;rw[ao]at ah;simp only[aw]at ah;split at he
    ·rename_i nB bq aA Dt;cases he;obtain⟨cM,c2,c3⟩:=az;have cu:=Bg hr ak aA;have cI:=Bg hr aK Dt;refine⟨_,iy (v:= .string ⟨((s.take bq.toNat).drop nB.toNat).toArray⟩) ?_,?_⟩
     ·have af:=GM P w false s.length s.length (l.map a.eval) (h.map a.eval) nB bq
       cu cI cM c2 c3 (cE _)
      simp only[Instr.sliceAt,Instr.slice,ah.1,ee,eT,eg,run_underlying aF,Option.map_none,qF,ia,if_false,y1,af,Pw]
     ·simp only[aw];refine⟨trivial,?_⟩;have:=ah.2;simp only[lp,List.length_take];omega
    ·cases he
   ·cases he
  ·cases I
 ·rename_i sz x lo aB t o l h;simp only[bA]at ag;obtain⟨⟨⟨I,aa⟩,ak⟩,aK⟩:=ag;split at I
  ·rename_i e aH;split at I
   ·rename_i g aP;simp only[df]at I;subst I;obtain⟨d,aF,ej⟩:=gn au aH;obtain rfl:=oc ej;obtain⟨_,cO⟩:=rK au aP w;have ah:=da hr aa;simp only[fw,AW]at he;split at he
    ·rename_i cD tag xs ao;split at he
     ·rename_i eb;subst eb;rw[ao]at ah;simp only[aw]at ah;obtain⟨⟨j0,cap,aL,bS,bY,fk⟩,_⟩:=ah;split at he
      ·rename_i nB bq aA Dt;cases he;obtain⟨cM,c2,c3⟩:=az;have cu:=Bg hr ak aA;have cI:=Bg hr aK Dt;have af:=GM P w true xs.length cap (l.map a.eval) (h.map a.eval) nB bq
        cu cI cM c2 c3 bS
       refine⟨_,iy (v:= .slice (if cap=nB.toNat then j0 else j0.map (·.add (nB.toNat*g.size))) (bq.toNat-nB.toNat) (cap-nB.toNat)) ?_,?_⟩
       ·simp only[Instr.sliceAt,Instr.slice,aL,ee,eT,eg,run_underlying aF,Option.map_none,af,cO]
       ·simp only[aw];have hlen:((xs.take bq.toNat).drop nB.toNat).length=bq.toNat-nB.toNat:=by simp;omega
        refine⟨⟨_,_,by rw[hlen],by rw[hlen];omega,⟨Ω,by rw[hlen];omega⟩,?_⟩,(fun h=>by cases h),(fun g h=>by cases h),(fun _ _ h=>by cases h),(fun _ h=>by cases h)⟩;rcases fk with rfl|⟨b,off,us,rfl,g1,g2⟩
        ·left;simp
        ·by_cases qa:cap=nB.toNat
         ·left;apply pS;rw[hlen];omega
         ·right;rw[be qa];refine⟨b,off+nB.toNat*g.size,(us.take (bq.toNat*g.size)).drop (nB.toNat*g.size),by simp[lU],AQ _ (AR _ g1),Lu _ (Ly _ g2)⟩
      ·cases he
     ·cases he
    ·cases he
   ·cases I
  ·cases I
 ·rename_i op wr x y KW ty o o' Mn;simp only[bA,fH]at ag;obtain⟨⟨rfl,I⟩,aa⟩:=ag;obtain⟨r,g1,g2⟩:=Ni P w ν (by simpa only[fw]using he) az ty (da hr I) (da hr aa) o o';exact⟨r,iy g1,g2⟩
 ·rename_i x op ty o;simp only[bA,fH]at ag;obtain⟨rfl,I⟩:=ag;have ah:=da hr I;simp only[fw]at he;unfold A8 at he;split at he
  ·rename_i b af;cases he;rw[af]at ah;simp only[aw]at ah;exact⟨_,iy (v:= .bool (!b)) (by simp[Op.unary,ah]),by simp[aw]⟩
  ·cases he
 ·rename_i x op ty o;simp only[bA,fH]at ag;obtain⟨rfl,I⟩:=ag;have ah:=da hr I;simp only[fw]at he;unfold A4 at he;split at he
  ·rename_i k n af;cases he;rw[af]at ah;simp only[aw]at ah;exact⟨_,iy (v:= .int k (k.wrap (0-n))) (by simp[Op.unary,ah,Op.intArith]),by simp[aw]⟩
  ·cases he
 ·rename_i k x s d o;simp only[bA]at ag;obtain⟨I,aa⟩:=ag;split at I
  ·rename_i cu cI Dn qc;simp only[fH]at I;subst I;obtain⟨d1,sD,Di⟩:=gn au Dn;obtain rfl:=xu Di;obtain⟨d2,vI,Dj⟩:=gn au qc;obtain rfl:=xu Dj;have ah:=da hr aa;simp only[fw]at he;unfold zx at he;split at he
   ·rename_i aX n af;cases he;rw[af]at ah;simp only[aw]at ah;exact⟨_,iy (v:= .int k (k.wrap n)) (by simp[convert,ah,run_underlying sD,run_underlying vI,Conv.intToInt]),by simp[aw]⟩
   ·cases he
  ·cases I
 ·rename_i i x o j;simp only[bA,df]at ag;obtain⟨rfl,I⟩:=ag;have ah:=da hr I;simp only[fw]at he;unfold zK at he;split at he
  ·rename_i vs af;simp only[lr]at he;obtain⟨q,bj,he⟩:=he;cases he;rw[af]at ah;simp only[aw]at ah;obtain⟨us,hu,aa⟩:=ah;obtain⟨v,g1,g2⟩:=wJ i aa bj;have Qn:us[i]? =some v:=by simpa using g1
   exact⟨v,iy (by simp[Instr.extract,hu,Qn]),g2⟩
  ·cases he
 ·rename_i x o t;simp only[bA]at ag;obtain⟨I,aa⟩:=ag;have ah:=da hr aa;simp only[fw]at he;unfold v8 at he;split at he
  ·rename_i sz tag xs af;cases he;rw[af]at ah;simp only[aw]at ah;obtain⟨⟨j0,cap,aL,_⟩,_⟩:=ah;refine⟨.int .i64 xs.length,?_,by simp[aw]⟩;split at I
   ·rename_i aH;obtain⟨d,aF,ej⟩:=gn au aH;obtain rfl:=oc ej;simp[execOp,resolve,invoke,builtin,Builtin.len_,run_underlying aF,aL,goInt]
   ·cases I
  ·rename_i sz k n af;cases he;rw[af]at ah;simp only[aw]at ah;obtain⟨⟨j0,cap,aL⟩,_⟩:=ah;refine⟨.int .i64 n,?_,by simp[aw]⟩;split at I
   ·rename_i aH;obtain⟨d,aF,ej⟩:=gn au aH;obtain rfl:=oc ej;simp[execOp,resolve,invoke,builtin,Builtin.len_,run_underlying aF,aL,goInt]
   ·cases I
  ·rename_i j0 n cap af;cases he;rw[af]at ah;simp only[aw]at ah;refine⟨.int .i64 n,?_,by simp[aw]⟩;split at I
   ·rename_i aH;obtain⟨d,aF,ej⟩:=gn au aH;obtain rfl:=oc ej;simp[execOp,resolve,invoke,builtin,Builtin.len_,run_underlying aF,ah,goInt]
   ·cases I
  ·cases he
 ·rename_i x o t;simp only[bA]at ag;obtain⟨I,aa⟩:=ag;have ah:=da hr aa;simp only[fw]at he;unfold y2 at he;split at he
  ·rename_i s af;cases he;rw[af]at ah;simp only[aw]at ah;refine⟨.int .i64 s.length,?_,by simp[aw]⟩;split at I
   ·rename_i aH;obtain⟨d,aF,ej⟩:=gn au aH;obtain rfl:=r9 ej;simp[execOp,resolve,invoke,builtin,Builtin.len_,run_underlying aF,ah.1,goInt,y1]
   ·cases I
  ·rename_i s af;cases he;rw[af]at ah;simp only[aw]at ah;refine⟨.int .i64 s.size,?_,by simp[aw]⟩;split at I
   ·rename_i aH;obtain⟨d,aF,ej⟩:=gn au aH;obtain rfl:=r9 ej;simp[execOp,resolve,invoke,builtin,Builtin.len_,run_underlying aF,ah,goInt]
   ·cases I
  ·cases he
 ·rename_i zero parts t aZ;split at ag
  ·rename_i cT z aH;simp only[bA]at ag;obtain⟨⟨I,aa⟩,ak⟩:=ag;obtain⟨eu,eB,Su⟩:=Wz I;obtain⟨i,d,Wx,ah,aE,bg,cB,hc,e0,oe,lZ⟩:=(qC au aH).ex;obtain⟨gs,rfl,hj⟩:=Cy hc;simp only at eB oe lZ;subst eB;have jJ:(gs.toList.all fun f=>(cW aW f.type).isSome)=true:=by rw[<-hj]at aa;simpa[List.all_map,Function.comp_def]using aa
   obtain⟨places,gy,gz⟩:=K2 au gs.toList jJ;rw[hj]at gz;cases Wx<;>simp only[u2]at oe;case agg us=>
    simp only[fw]at he;cases af:qP st.t zero parts with
    |none=>simp[af]at he
    |some x=>obtain⟨fY,cs'⟩:=x;simp only[af,mZ]at he;cases he;obtain⟨a6,g1,g2⟩:=LM hr gz parts aZ.toList zero us c cs' ak (MN Su (Ge w ν _ _ oe)) af az;refine⟨.agg a6,iy (run_build w t _ a6 ?_),by simp only[aw];exact⟨a6,rfl,g2⟩⟩;simp only[Program.built,ah,aE,e0,gy,mj];simpa using g1
   all_goals cases oe
  ·cases ag
 ·rename_i x o;have ah:=da hr ag;simp only[fw]at he;unfold wh at he;split at he
  ·rename_i k off af;cases he;rw[af]at ah;have aE:=ah;simp only[aw]at ah;obtain⟨b,_,aL⟩:=ah;exact⟨a.eval o,by simp[execOp,aL],aE⟩
  ·rename_i q af;cases he;rw[af]at ah;have aE:=ah;simp only[aw]at ah;obtain⟨b,off,u,aL,_⟩:=ah;exact⟨a.eval o,by simp[execOp,aL],aE⟩
  ·rename_i f cs af;cases he;rw[af]at ah;have aE:=ah;simp only[aw]at ah;obtain⟨us,aL,_⟩:=ah;have AB:a.eval o= .func (.func f) #[] us\/a.eval o= .func (.func (rQ f)) us #[]:=by rw[aL];unfold p3;split;exact .inl rfl;exact .inr rfl
   exact⟨a.eval o,by rcases AB with AB|AB<;>simp[execOp,AB],aE⟩
  ·cases he
 ·rename_i x y o o' t t';simp only[bA]at ag;have ah:=da hr ag.1;have aE:=da hr ag.2;simp only[fw]at he;unfold A0 at he;split at he
  ·rename_i k m aX n hm aR;split at he
   ·rename_i J;subst J;cases he;rw[hm]at ah;rw[aR]at aE;simp only[aw]at ah aE;exact⟨.int k (if n<m then n else m),by simp[execOp,resolve,invoke,builtin,Builtin.min_,Builtin.min2,ah,aE],by simp[aw]⟩
   ·cases he
  ·cases he
 ·rename_i n xs m os;simp only[bA,fH]at ag;obtain⟨⟨rfl,aR⟩,ag⟩:=ag;simp only[fw]at he;cases he;have hC:=uM hr ag;refine⟨.func (.func n) #[] (os.map a.eval),by simp[execOp,Instr.makeFunc],?_⟩;simp only[aw];exact⟨os.map a.eval,by simp[p3,aR],by simpa using hC⟩
 ·rename_i n xs m dx _;simp only[bA,fH]at ag;obtain⟨rfl,ag⟩:=ag;simp only[fw]at he;cases he;have hC:=uM hr ag;refine⟨.func (.func m) (dx.map a.eval) #[],by simp[execOp,Instr.makeFunc],?_⟩;simp only[aw];exact⟨dx.map a.eval,(Qg m _).symm,by simpa using hC⟩
 ·rename_i bD zero ok x k t o o' A9;simp only[bA,df]at ag;obtain⟨⟨⟨rfl,I⟩,aa⟩,ak⟩:=ag;have ah:=da hr aa;have aE:=da hr ak;split at I
  ·rename_i sz jh eC mw z aH;simp only[bA]at I;obtain⟨RD,Dm⟩:=I;split at Dm
   ·rename_i X5 uc;have eB:=Gg Dm;obtain⟨fa,hu,ej⟩:=gn au aH;have fD:fa= .map eC mw:=by cases fa<;>simp[jH]at ej;obtain⟨rfl,rfl⟩:=ej;rfl
    subst fD;obtain⟨a7,Gb,z2,_⟩:=FL au uc w;rw[<-eB]at z2;have al:=(Gf w ν z2).1;have j6:=Ed au RD;simp only[fw]at he;unfold nD at he;split at he
    ·rename_i key ad;rw[ad]at ah;simp only[aw]at ah;obtain⟨bl,bS,bY⟩:=ah;split at he
     ·rename_i clock borns kvs fV;obtain⟨fC,us,el,g1,g2,g3,g4,g5⟩:=hr.good.box key _ fV;rw[bS]at g1;cases g1;simp only[hp]at g4;simp only[gJ]at g5;have k3:(getObj bl).run P w= .ok (.map (eK borns us.toList).toArray clock) w:=rG g4;split at he
      ·cases he
      rename_i fK;have sB:=Fp (P:=P) (w:=w) j6 ((eK borns us.toList).toArray.isEmpty) aE (by simpa using fK);split at he
      ·rename_i v hm;cases he;obtain⟨j,u,f1,f2⟩:=Ey j6 aE borns kvs us.toList 0 _ g5.1 g5.2.len hm;refine⟨if ok then .tuple #[u,.bool true]else u,?_,?_⟩
       ·simp only[execOp];refine iy ?_;simp only[Instr.lookup,ee,run_underlying hu,eg,bY,k3,eT,sB,f1.run j6]
       ·cases ok
        ·simpa using f2
        ·simp only[if_true,aw];exact⟨_,rfl,by simp only[bP];exact⟨_,_,rfl,f2,_,_,rfl,by simp[aw],rfl⟩⟩
      ·rename_i hm;cases he;have f1:=Ey j6 aE borns kvs us.toList 0 _ g5.1 g5.2.len hm;simp only at f1;refine⟨if ok then .tuple #[a7,.bool false]else a7,?_,?_⟩
       ·simp only[execOp];refine iy ?_;simp only[Instr.lookup,ee,run_underlying hu,eg,bY,k3,eT,sB,f1.run j6,Gb]
       ·cases ok
        ·simpa using al
        ·simp only[if_true,aw];exact⟨_,rfl,by simp only[bP];exact⟨_,_,rfl,al,_,_,rfl,by simp[aw],rfl⟩⟩
      ·cases he
     ·cases he
    ·cases he
   ·cases Dm
  ·cases I
 ·rename_i x o;have ah:=da hr ag;simp only[fw]at he;unfold qn at he;split at he
  ·rename_i fW ad;rw[ad]at ah;simp only[aw]at ah;obtain⟨bl,bS,bY⟩:=ah;split at he
   ·rename_i since seen last mk fV;obtain⟨fC,us,el,g1,g2,g3,g4,g5⟩:=hr.good.box fW _ fV;rw[bS]at g1;cases g1;simp only[hp]at g4;simp only[gJ,bP,aw]at g5;obtain⟨u,a6,mH,⟨nC,m1,rfl⟩,rfl⟩:=g5;rw[mH]at g4;simp only at g4;split at he
    ·rename_i clock borns kvs RN;obtain⟨Nj,oK,Oj,cu,cI,gI,ju,ov⟩:=hr.good.box mk _ RN;rw[m1]at cu;cases cu;simp only[hp]at ju;simp only[gJ]at ov;split at he
     ·rename_i n aR;simp only[lr]at he;obtain⟨q,bj,he⟩:=he;cases he;obtain⟨e,f1,f2⟩:=Kx borns kvs oK.toList p ov.1 bj;refine⟨.tuple #[e.key,e.val],?_,f2⟩;simp only[execOp];refine iy ?_;have Rr:(getObj bl).run P w= .ok (.mapIter (some nC) since seen.toArray last) w:=rG g4;have Rs:(getObj nC).run P w= .ok (.map (eK borns oK.toList).toArray clock) w:=rG ju;have p8:seen.toArray.back? =some n:=by simpa using aR
      have sC:(clock !=last)=false:=by simp[az]
      have Rm:(eK borns oK.toList).toArray.find? (·.born==n)=some e:=by simpa using f1
      simp only[Instr.entry,bY,ee,Rr,eg,p8,Rs,sC,ia,if_false,Rm,eT]
     ·cases he
    ·cases he
   ·cases he
  ·cases he
 ·rename_i x o t;simp only[bA]at ag;obtain⟨I,aa⟩:=ag;have ah:=da hr aa;simp only[fw]at he;unfold we at he;split at he
  ·rename_i key af;rw[af]at ah;simp only[aw]at ah;obtain⟨bl,bS,bY⟩:=ah;split at he
   ·rename_i clock borns kvs fV;cases he;obtain⟨fC,us,el,g1,g2,g3,g4,g5⟩:=hr.good.box key _ fV;rw[bS]at g1;cases g1;simp only[hp]at g4;simp only[gJ]at g5;have k3:(getObj bl).run P w= .ok (.map (eK borns us.toList).toArray clock) w:=rG g4;have hlen:(eK borns us.toList).length=borns.length:=H3 g5.2.len (LD g5.1);refine⟨.int .i64 borns.length,?_,by simp[aw]⟩;split at I
    ·rename_i aH;obtain⟨d,aF,ej⟩:=gn au aH;obtain⟨eC,mw,rfl⟩:∃eC mw,d= .map eC mw:=by cases d<;>simp[jH]at ej;exact⟨_,_,rfl⟩
     simp[execOp,resolve,invoke,builtin,Builtin.len_,run_underlying aF,bY,goInt,k3,hlen]
    ·cases I
   ·cases he
  ·cases he
 ·rename_i neg cT x y op t o o' Mn;simp only[bA,fH]at ag;obtain⟨⟨⟨rfl,bN⟩,I⟩,aa⟩:=ag;have ah:=da hr I;have aE:=da hr aa;simp only[fw]at he;unfold zo at he;split at he
  ·rename_i bE fh bL af;simp only at bN;cases he;rw[bL]at ah;rw[af]at aE;simp only[aw]at ah aE;split at bN
   ·rename_i aH;obtain⟨d,aF,ej⟩:=gn au aH;obtain rfl:d= .bool:=by cases d<;>simp[jH]at ej;rfl
    refine⟨.bool (if neg then bE !=fh else bE==fh),iy ?_,by simp[aw]⟩;cases neg<;>simp[ah,aE,eqGuard,binOp,Ow aF,bne]
   ·cases bN
  ·rename_i Yd as dx bL af;simp only at bN;simp only[lr]at he;obtain⟨q,bj,he⟩:=he;cases he;rw[bL]at ah;rw[af]at aE;simp only[aw]at ah aE;obtain⟨X,Od,Ux⟩:=ah;obtain⟨Y,Oe,Uy⟩:=aE;obtain⟨gs,hu,aP,fe,hk⟩:=Il au bN;obtain⟨i1,_,_⟩:=H5 hu aP fe Ux Uy bj;refine⟨.bool (if neg then !q else q),iy ?_,by simp[aw]⟩;rw[Od,Oe];cases neg
   ·simp only[ia,if_false,ee,run_eqGuard_agg w _ t o o' X Y hk,eg,run_eql_struct,i1]
   ·simp only[if_true,ee,run_eqGuard_agg w _ t o o' X Y hk,eg,run_neq_struct,i1]
  ·cases he
 ·rename_i x y o o' t t';simp only[bA]at ag;have ah:=da hr ag.1;have aE:=da hr ag.2;simp only[fw]at he;unfold AY at he;split at he
  ·rename_i k m aX n hm aR;split at he
   ·rename_i J;subst J;cases he;rw[hm]at ah;rw[aR]at aE;simp only[aw]at ah aE;exact⟨.int k (if m<n then n else m),by simp[execOp,resolve,invoke,builtin,Builtin.max_,Builtin.max2,ah,aE],by simp[aw]⟩
   ·cases he
  ·cases he
 ·rename_i t x t' o;simp only[bA,df]at ag;obtain⟨⟨rfl,I⟩,aa⟩:=ag;have ah:=da hr aa;simp only[fw]at he;cases he;split at I
  ·rename_i aH;obtain⟨d,aF,ej⟩:=gn au aH;obtain rfl:=oc ej;refine⟨.iface t (a.eval o),iy (by simp[Instr.makeInterface,run_underlying aF]),?_⟩;simp only[aw];exact⟨_,rfl,ah⟩
  ·cases I
 ·rename_i agg sz x t o;simp only[bA]at ag;obtain⟨I,aa⟩:=ag;split at I
  ·rename_i f aH;simp only[bA,df]at I;obtain⟨rfl,rfl⟩:=I;obtain⟨v,g1,g2⟩:=AU au hr.good aH (da hr aa) (S6 (by simpa only[fw]using he)) az;exact⟨v,iy g1,g2⟩
  ·cases I
 ·rename_i x s d o;simp only[bA]at ag;obtain⟨I,aa⟩:=ag;split at I
  ·rename_i e _ _ Dn qc;split at I
   ·rename_i Rl;obtain⟨d1,sD,Di⟩:=gn au Dn;obtain rfl:=oc Di;obtain⟨d2,vI,Dj⟩:=gn au qc;obtain rfl:=r9 Dj;obtain⟨d3,Rb,Rh⟩:=gn au Rl;obtain rfl:=xu Rh;have ah:=da hr aa;simp only[fw]at he;unfold zl at he;split at he
    ·rename_i sz tag xs af;simp only[lr]at he;obtain⟨dx,qX,he⟩:=he;cases he;rw[af]at ah;simp only[aw]at ah;obtain⟨⟨j0,cap,bJ,cj,de,du⟩,_⟩:=ah;have aA:=GP qX;have ad:∃ns:List Int,ns.length=xs.length/\dx=ns.map vb/\(xs.length=0\/ ∃b off,j0=some ⟨b,off,none⟩/\h5 w ν.A b off (ns.map (lM .u8))):=by
      rcases du with rfl|⟨b,off,us,gy,gz,mP⟩
      ·simp only[n8,dv]at qX;exact⟨[],rfl,by rw[<-qX];rfl,.inl rfl⟩
      ·obtain⟨ns,eH,fB,kL⟩:=GQ qX mP;subst eH;exact⟨ns,by simpa using kL,fB,.inr ⟨b,off,gy,gz⟩⟩
     obtain⟨ns,ft,rfl,hK⟩:=ad;refine⟨_,iy (v:= .string ⟨(ns.map vb).toArray⟩) ?_,by simp only[aw];exact⟨trivial,by rw[aA];exact de.2⟩⟩;rw[bJ];simp only[convert,ee,run_underlying sD,run_underlying vI,eg];simp only[run_underlying Rb,ee,eg,Ng ft hK]
    ·cases he
   ·cases I
  ·cases I
 ·rename_i neg x op t o Mn;simp only[bA,fH]at ag;obtain⟨⟨rfl,bN⟩,I⟩:=ag;have ah:=da hr I;split at bN
  ·rename_i aH;obtain⟨d,aF,ej⟩:=gn au aH;obtain⟨ms,rfl⟩:∃ms,d= .interface ms:=by cases d<;>simp[jH]at ej;exact⟨_,rfl⟩
   simp only[fw]at he;unfold AJ at he;split at he
   ·rename_i aam q bj;cases he;rw[bj]at ah;simp only[aw]at ah;obtain⟨u,ah,_⟩:=ah;refine⟨.bool neg,iy ?_,by simp[aw]⟩;rw[show a.eval (.const .nilIface)= .nilIface from rfl,ah];cases neg<;>simp[eqGuard,binOp,(zG (w:=w) aF).1,(zG (w:=w) aF).2]
   ·rename_i bj;cases he;rw[bj]at ah;simp only[aw]at ah;refine⟨.bool (!neg),iy ?_,by simp[aw]⟩;rw[show a.eval (.const .nilIface)= .nilIface from rfl,ah];cases neg<;>simp[eqGuard,binOp,(zG (w:=w) aF).1,(zG (w:=w) aF).2]
   ·cases he
  ·cases bN
 ·rename_i agg sz x t o;simp only[bA]at ag;obtain⟨I,aa⟩:=ag;split at I
  ·rename_i f aH;simp only[bA,df]at I;obtain⟨rfl,rfl⟩:=I;obtain⟨v,g1,g2⟩:=AU au hr.good aH (da hr aa) (Ql (by simpa only[fw]using he)) az;exact⟨v,iy g1,g2⟩
  ·cases I
 ·exact absurd rfl (Q1 _ _ _ _ _)
 ·cases ag
theorem VP{P:bp}{aW:List (Nat×cm)}(au:dJ P aW=true){C:dh}{st:aN}{a:Act}{w:World}{ν:aD}(hr:bH C st a w ν){i:eY}{o:Oper}(ag:zb aW i o.op=true)
  {c:Prop} {p:ab} (he:fw st i=some (c,p)) (az:c):∃v,(execOp a.eval o).run P w= .ok (.value v) w/\aw w ν p v:=by
 by_cases af:∃bD z ok x k,i= .mgetB bD z ok x k
 ·obtain⟨bD,z,ok,x,k,rfl⟩:=af;refine Mt au hr (i:= .mget bD z ok x k) (fun _ _ _ _ _ e=>by cases e) ?_ he az;obtain⟨dst,op,type,pos,after,guard⟩:=o;cases op<;>first|exact ag|simp[zb]at ag
 ·exact Mt au hr (fun bD z ok x k e=>af ⟨bD,z,ok,x,k,e⟩) ag he az
theorem Hz{w:World}{o:Obj}{b i:Nat}(h:b<w.heap.size):(w.alloc o).cell? ⟨b,i,none⟩=w.cell? ⟨b,i,none⟩:=World.cell?_of_block (Below.heap_alloc w o b h)
def aD.withBox(ν:aD)(k:aq)(bl:Nat):aD:={ν with bx:=fun j=>if j=k then some bl else ν.bx j}
def aD.withOwn(ν:aD)(k:aq)(n:Nat)(v:Value):aD:={ν with ow:=fun j=>if j=k then some (n,v)else ν.ow j}
theorem bH.lookNone{C:dh}{st:aN}{a:Act}{w:World}{ν:aD}(h:bH C st a w ν){k:aq}(J:fresh st.n st.o k):look k st.b=none/\look k st.e=none:=by
 obtain⟨I,aa,_⟩:=h.new k J;constructor
 ·cases af:look k st.b with
  |none=>rfl
  |some cs=>obtain⟨bl,us,el,g1,_⟩:=h.good.box _ _ af;rw[I]at g1;cases g1
 ·cases af:look k st.e with
  |none=>rfl
  |some o=>obtain⟨v,us,g1,_⟩:=h.good.own _ _ af;rw[aa]at g1;cases g1
theorem Good.ownLt{pr:Nat->Prop}{w:World}{ν:aD}{b:List (aq×List ab)}{e:List (aq×cq)}(h:Good pr w ν b e){g:aq}{o:cq}(aP:look g e=some o){n:Nat}{v:Value}(aL:ν.ow g=some (n,v)){bl:Nat}(af:v.ownBlock=some bl):bl<w.heap.size:=by obtain⟨v',us,g1,g2,_⟩:=h.own g o aP;rw[aL]at g1;cases g1;exact(g2.lt bl af).2
theorem Good.boxLt{pr:Nat->Prop}{w:World}{ν:aD}{b:List (aq×List ab)}{e:List (aq×cq)}(h:Good pr w ν b e){k:aq}{cs:List ab}(J:look k b=some cs){bl:Nat}(af:ν.bx k=some bl):bl<w.heap.size:=by obtain⟨fC,us,el,g1,_,_,g4,_⟩:=h.box k cs J;rw[af]at g1;cases g1;exact(Array.getElem?_eq_some_iff.1 g4).1
theorem bH.newBox{C:dh}{st:aN}{a:Act}{w:World}{ν:aD}(h:bH C st a w ν){et:aq}(RB:ν.bx et=none/\ν.ow et=none/\∀j b,¬ν.tr et j b){n':Nat}{o':List aq}(gd:∀j,fresh n' o' j->fresh st.n st.o j/\j≠et){cs:List ab}{us:Array Value}(el:B4 et)(az:gJ w ν cs us.toList):
  bH C {st with b:=ck et cs st.b,n:=n',o:=o'} a (w.alloc (hp cs us el.1)) (ν.withBox et w.heap.size)/\
  aw (w.alloc (hp cs us el.1)) (ν.withBox et w.heap.size) (.ptr et 0) (.pointer (some ⟨w.heap.size,0,none⟩)):=by
 obtain⟨x0,oq,RW⟩:=RB;have ag:km w ν (w.alloc (hp cs us el.1)) (ν.withBox et w.heap.size):=by
  refine⟨fun b o aT=>⟨aT,Hz (h.good.alt b o aT)⟩,fun k b _ J=>?_,fun g n u _ aP=>⟨n,u,aP,.inl ⟨rfl,rfl⟩⟩,fun b o aT=>wO (Below.heap_alloc w _ b (h.good.alt b o aT)),fun _ _ _ _ h=>h⟩;have:k≠et:=fun e=>by subst e;rw[x0]at J;cases J
  simp[aD.withBox,this,J]
 have cO:(w.alloc (hp cs us el.1)).heap.size=w.heap.size+1:=by simp
 have hD:∀k,(look k (ck et cs st.b)).isSome->k=et\/(k≠et/\(look k st.b).isSome/\(ν.withBox et w.heap.size).bx k=ν.bx k):=by
  intro k J;by_cases e:k=et
  ·exact .inl e
  ·rw[hJ,be (Ne.symm e)]at J;exact .inr ⟨e,J,by simp[aD.withBox,e]⟩
 refine⟨h.over ag rfl ⟨fun bl o aT=>by rw[cO];have:=h.good.alt bl o aT;omega,fun k cn J=>?_,fun k aX bl J fU ah aE=>?_,fun g o aP=>?_,h.good.oinj,fun g k n v bl aP J aL af ad=>?_,fun k=>?_,fun bl af k j au=>?_⟩
  ⟨h.fr.os,h.fr.tape,h.fr.output,by rw[cO];have:=h.fr.size;omega,fun k J hm=>?_,fun b o aT=>?_,h.fr.fresh,fun n b af=>?_,h.fr.obn,h.fr.row,h.fr.obr,h.fr.trd,fun k j b af=>⟨(h.fr.trb k j b af).1,by rw[cO];have:=(h.fr.trb k j b af).2;omega⟩,fun k j b af=>?_,fun b o aT=>(ag.sh b o (h.fr.keep b o aT).1).trans (h.fr.sh b o aT),h.fr.nrow⟩ (fun m hm=>?_) (fun m hm=>(gd m hm).1),?_⟩
 ·simp only at J;rw[hJ]at J;by_cases e:et=k
  ·rw[if_pos e]at J;cases J;subst e;refine⟨w.heap.size,us,el,by simp[aD.withBox],.inr h.fr.size,fun o aT=>?_,heap_alloc_new w _,nH ag az⟩;have:=h.good.alt _ o aT;omega
  ·rw[be e]at J;obtain⟨bl,a6,dQ,g1,g2,g3,g4,g5⟩:=h.good.box k cn J;exact⟨bl,a6,dQ,ag.bx _ _ trivial g1,g2,g3,by rw[Below.heap_alloc w _ bl (Array.getElem?_eq_some_iff.1 g4).1];exact g4,nH ag g5⟩
 ·rcases hD k J with rfl|⟨ft,eM,hK⟩<;>rcases hD aX fU with rfl|⟨m1,m2,m3⟩
  ·rfl
  ·exfalso;simp only[aD.withBox,if_true,dv]at ah;subst ah;rw[m3]at aE;obtain⟨cn,fJ⟩:=ei.1 m2;have:=h.good.boxLt fJ aE;omega
  ·exfalso;simp only[aD.withBox,if_true,dv]at aE;subst aE;rw[hK]at ah;obtain⟨cn,fJ⟩:=ei.1 eM;have:=h.good.boxLt fJ ah;omega
  ·rw[hK]at ah;rw[m3]at aE;exact h.good.inj k aX bl eM m2 ah aE
 ·obtain⟨v,xs,g1,g2,g3,g4⟩:=h.good.own g o aP;exact⟨v,xs,g1,g2.alloc _,g3,pJ ag (fun _ _ _ h=>h) g4⟩
 ·rcases hD k J with rfl|⟨ft,eM,hK⟩
  ·simp only[aD.withBox,if_true,dv]at ad;subst ad;obtain⟨o,fM⟩:=ei.1 aP;have:=h.good.ownLt fM aL af;omega
  ·rw[hK]at ad;exact h.good.obx g k n v bl aP eM aL af ad
 ·by_cases e:k=et
  ·subst e;exact .inr oq
  ·rcases h.good.one k with I|I
   ·exact .inl (by simp[aD.withBox,e,I])
   ·exact .inr I
 ·rcases af with⟨aX,bt,a2⟩|af
  ·rcases hD aX bt with rfl|⟨ft,eM,hK⟩
   ·simp[aD.withBox]at a2;subst a2;exact absurd (h.fr.trb k j _ au).2 (Nat.lt_irrefl _)
   ·exact h.good.otr bl (.inl ⟨aX,eM,by rw[<-hK];exact a2⟩) k j au
  ·exact h.good.otr bl (.inr af) k j au
 ·rw[Below.heap_alloc w _ k (by have:=h.fr.size;omega)];exact h.fr.block k J hm
 ·obtain⟨cu,cI⟩:=h.fr.keep b o aT;exact⟨cu,(Hz (h.good.alt b o cu)).trans cI⟩
 ·exact ag.bx _ _ trivial (h.fr.obj n b af)
 ·have b7:k≠et:=fun e=>by subst e;exact RW j b af
  obtain⟨t1,t2⟩:=h.fr.trn k j b af;exact⟨by simp[aD.withBox,b7,t1],t2⟩
 ·obtain⟨f1,f2⟩:=gd m hm;obtain⟨cu,cI⟩:=h.new m f1;refine⟨?_,cI⟩;simp[aD.withBox,f2,cu]
 ·simp[aw,aD.withBox]
theorem bH.setBox{C:dh}{st:aN}{a:Act}{w w':World}{ν:aD}(h:bH C st a w ν){k:aq}{cs cs':List ab}(J:look k st.b=some cs){bl:Nat}(af:ν.bx k=some bl){us:Array Value}{el:B4 k}
  (vN:w'.os=w.os) (DR:w'.tape=w.tape) (DD:w'.output=w.output) (k6:∀j,j≠bl->w'.heap[j]? =w.heap[j]?) (cO:w'.heap.size=w.heap.size) (iE:w'.heap[bl]? =some (hp cs' us el.1)) (az:gJ w ν cs' us.toList):
  bH C {st with b:=ck k cs' st.b} a w' ν/\km w ν w' ν:=by
 obtain⟨fC,dX,XQ,g1,g2,g3,g4,g5⟩:=h.good.box k cs J;rw[af]at g1;cases g1;have ag:km w ν w' ν:=by
  refine⟨fun b o aT=>⟨aT,World.cell?_of_block (k6 b fun e=>?_)⟩,fun _ _ _ h=>h,fun g n u _ aP=>⟨n,u,aP,.inl ⟨rfl,rfl⟩⟩,fun b o aT=>wO (k6 b fun e=>?_),fun _ _ _ _ h=>h⟩<;>
  (subst e;exact g3 o aT)
 have sG:∀j,(look j (ck k cs' st.b)).isSome->(look j st.b).isSome:=by
  intro j av;rw[hJ]at av;by_cases e:k=j
  ·subst e;simp[J]
  ·rwa[be e]at av
 refine⟨h.over ag rfl ⟨fun b o aT=>by rw[cO];exact h.good.alt b o aT,fun j cn av=>?_,fun j dj b av jM=>h.good.inj j dj b (sG j av) (sG dj jM),fun g o aP=>?_,h.good.oinj,fun g j n v b aP av=>h.good.obx g j n v b aP (sG j av),h.good.one,fun bl af=>h.good.otr bl (af.imp (fun⟨k,I,aa⟩=>⟨k,sG k I,aa⟩) id)⟩
  ⟨vN.trans h.fr.os,DR.trans h.fr.tape,DD.trans h.fr.output,by rw[cO];exact h.fr.size,fun j av hm=>?_,fun b o aT=>?_,h.fr.fresh,h.fr.obj,h.fr.obn,h.fr.row,h.fr.obr,h.fr.trd,fun k j b af=>⟨(h.fr.trb k j b af).1,by rw[cO];exact(h.fr.trb k j b af).2⟩,h.fr.trn,fun b o aT=>(ag.sh b o (h.fr.keep b o aT).1).trans (h.fr.sh b o aT),h.fr.nrow⟩ h.new,ag⟩
 ·simp only at av;rw[hJ]at av;by_cases e:k=j
  ·rw[if_pos e]at av;cases av;subst e;exact⟨bl,us,el,af,g2,g3,iE,nH ag az⟩
  ·rw[be e]at av;obtain⟨b,a6,dQ,ah,aE,bg,cB,hc⟩:=h.good.box j cn av;refine⟨b,a6,dQ,ah,aE,bg,?_,nH ag hc⟩;rw[k6 b fun fS=>e (h.good.inj k j bl (by simp[J]) (by simp[av]) af (by rw[<-fS];exact ah))];exact cB
 ·obtain⟨v,xs,ah,aE,bg,cB⟩:=h.good.own g o aP;refine⟨v,xs,ah,⟨aE.1,?_⟩,bg,pJ ag (fun _ _ _ h=>h) cB⟩;rcases aE.2 with aE|⟨hb,cap,cur,f1,f2,f3,f4⟩
  ·exact .inl aE
  ·refine .inr ⟨hb,cap,cur,f1,f2,?_,f4⟩;rw[k6 hb fun fS=>h.good.obx g k o.n v bl (by simp[aP]) (by simp[J]) ah (by rw[f1,<-fS];rfl) af];exact f3
 ·rw[k6 j fun e=>by subst e;exact g2.elim hm (fun g2=>Ω)];exact h.fr.block j av hm
 ·obtain⟨cu,cI⟩:=h.fr.keep b o aT;exact⟨cu,(ag.A b o cu).2.trans cI⟩
theorem bH.storeBox{C:dh}{st:aN}{a:Act}{w:World}{ν:aD}(h:bH C st a w ν){k:aq}{cs cs':List ab}(J:look k st.b=some cs){bl:Nat}(af:ν.bx k=some bl)(aY:fm cs=true){us:Array Value}(az:bV w ν cs' us.toList):
  bH C {st with b:=ck k cs' st.b} a (w.setRow bl us) ν:=by
 obtain⟨fC,dX,el,g1,g2,g3,g4,g5⟩:=h.good.box k cs J;rw[af]at g1;cases g1;rw[lJ aY]at g4;have vO:=qu az;exact(h.setBox (w':=w.setRow bl us) J af (us:=us) (el:=el) rfl rfl rfl (fun j av=>setRow_other w bl j us av) (setRow_size w bl us) (by rw[lJ vO];exact setRow_heap w bl dX us el.1 _ g4) (by rw[lk vO];exact az)).1
def aD.withRowOf(ν:aD)(k:aq)(v:Value)(n cells:Nat):aD:={A:=fun b o=>ν.A b o\/(v.ownBlock=some b/\o<cells),bx:=ν.bx,ow:=fun j=>if j=k then some (n,v)else ν.ow j,tr:=ν.tr}
theorem v7{w:World}{A:Nat->Nat->Prop}{b:Nat}:∀(us:List Value) (off:Nat),(∀j u,us[j]? =some u->A b (off+j)/\w.cell? ⟨b,off+j,none⟩=some u)->h5 w A b off us
 |[],_,_=>trivial
 |u::us,off,h=>⟨h 0 u rfl,v7 us (off+1) fun j x av=>by have:=h (j+1) x (by simpa using av);rwa[show off+(j+1)=off+1+j from by omega]at this⟩
theorem HA{w w':World}(aP:w.grownBy w' none){b i:Nat}(h:b<w.heap.size):w'.cell? ⟨b,i,none⟩=w.cell? ⟨b,i,none⟩:=World.cell?_of_block (aP.block b h Ψ)
theorem bH.newRowM{C:dh}{st:aN}{a:Act}{w w':World}{ν:aD}(h:bH C st a w ν){k:aq}{xs:List ab}(J:(ν.bx k=none/\ν.ow k=none/\∀j b,¬ν.tr k j b)\/ ∃o,look k st.e=some o/\o.n<xs.length){el sz:Nat}{v:Value}{us:List Value}
  (aP:w.grownBy w' none) (jo:w'.ownsRow w.heap.size el sz v xs.length us) (az:b4 w ν sz xs us) (hg:xs.length<=bX) {n':Nat} {o':List aq} (gd:∀j,fresh n' o' j->fresh st.n st.o j/\j≠k):
  bH C {st with e:=ck k ⟨xs.length,el,sz,some xs⟩ st.e,n:=n',o:=o'} a w' (ν.withOwn k xs.length v)/\
  ((∃b cap,v= .slice (some ⟨b,0,none⟩) xs.length cap)->aw w' (ν.withOwn k xs.length v) (.row sz k xs.length) v):=by
 have ly:∀bl,v.ownBlock=some bl->w.heap.size<=bl/\bl<w'.heap.size:=fun bl af=>jo.lt bl af;have ag:km w ν w' (ν.withOwn k xs.length v):=by
  refine⟨fun b o aT=>⟨aT,HA aP (h.good.alt b o aT)⟩,fun j b _ av=>av,fun g n u _ hk=>?_,fun b o aT=>wO (aP.block b (h.good.alt b o aT) Ψ),fun _ _ _ _ h=>h⟩;by_cases e:g=k
  ·subst e;rcases J with J|⟨o,ag,bU⟩
   ·rw[J.2.1]at hk;cases hk
   ·obtain⟨v0,dX,ah,_⟩:=h.good.own g o ag;rw[ah]at hk;cases hk;exact⟨xs.length,v,by simp[aD.withOwn],.inr bU⟩
  ·exact⟨n,u,by simp[aD.withOwn,e,hk],.inl ⟨rfl,rfl⟩⟩
 have iY:∀g,(look g (ck k ⟨xs.length,el,sz,some xs⟩ st.e)).isSome->g=k\/(g≠k/\(look g st.e).isSome/\(ν.withOwn k xs.length v).ow g=ν.ow g):=by
  intro g hj;by_cases e:g=k
  ·exact .inl e
  ·rw[hJ,be (Ne.symm e)]at hj;exact .inr ⟨e,hj,by simp[aD.withOwn,e]⟩
 have Jr:∀bl,v.ownBlock=some bl->∀j,¬ν.A bl j:=fun bl af j aT=>by have I:=h.good.alt bl j aT;have:=(ly bl af).1;omega
 have R2:∀j b,¬ν.tr k j b:=fun j b af=>by
  rcases J with J|⟨o,fM,_⟩
  ·exact J.2.2 j b af
  ·obtain⟨v0,dX,ah,_⟩:=h.good.own k o fM;rw[(h.fr.trn k j b af).2]at ah;cases ah
 refine⟨h.over ag rfl ⟨fun bl o aT=>?_,fun j cn av=>?_,h.good.inj,fun g o ea=>?_,fun g dH n n' u dw bl I aa ak aK bb ct=>?_,fun g j n u bl I aa ak aK bb=>?_,fun j=>?_,fun bl af aX j au=>?_⟩
  ⟨aP.os.trans h.fr.os,aP.tape.trans h.fr.tape,aP.output.trans h.fr.output,Nat.le_trans h.fr.size aP.size,fun j av hm=>?_,fun b o aT=>?_,h.fr.fresh,h.fr.obj,h.fr.obn,fun m n u hm=>yV (h.fr.row m n u hm) (fun n u=>ag.ow _ n u trivial),h.fr.obr,h.fr.trd,fun k j b af=>⟨(h.fr.trb k j b af).1,Nat.lt_of_lt_of_le (h.fr.trb k j b af).2 aP.size⟩,fun aX j b af=>?_,fun b o aT=>(ag.sh b o (h.fr.keep b o aT).1).trans (h.fr.sh b o aT),fun j n u b ah aE=>?_⟩ (fun m hm=>?_) (fun m hm=>(gd m hm).1),?_⟩
 ·have:=h.good.alt bl o aT;have:=aP.size;omega
 ·obtain⟨bl,a6,dQ,g1,g2,g3,g4,g5⟩:=h.good.box j cn av;have bU:=(Array.getElem?_eq_some_iff.1 g4).1;exact⟨bl,a6,dQ,g1,g2,g3,by rw[aP.block bl bU Ψ];exact g4,nH ag g5⟩
 ·simp only at ea;rw[hJ]at ea;by_cases e:k=g
  ·rw[if_pos e]at ea;cases ea;subst e;refine⟨v,us,by simp[aD.withOwn],⟨jo.1,?_⟩,fun bl af=>⟨.inr (Nat.le_trans h.fr.size (ly bl af).1),fun j aT=>absurd aT (Jr bl af j)⟩,fun ys bk=>?_⟩
   ·rcases jo.2 with ah|⟨hb,cap,cur,f1,f2,f3⟩
    ·exact .inl ah
    ·exact .inr ⟨hb,cap,cur,f1,Ω,f3⟩
   ·simp only[dv]at bk;subst bk;exact⟨rfl,wG ag az,Jr⟩
  ·rw[be e]at ea;obtain⟨v0,dX,ah,aE,bg,cB⟩:=h.good.own g o ea;exact⟨v0,dX,by simp[aD.withOwn,Ne.symm e,ah],aE.kept aP (by cases v0.ownBlock<;>simp),bg,pJ ag (fun _ _ _ h=>h) cB⟩
 ·rcases iY g I with rfl|⟨ft,eM,hK⟩<;>rcases iY dH aa with rfl|⟨m1,m2,m3⟩
  ·rfl
  ·exfalso;simp only[aD.withOwn,if_true,dv,hx]at ak;rw[m3]at aK;obtain⟨o,fM⟩:=ei.1 m2;have aA:=h.good.ownLt fM aK ct;have:=(ly bl (by rw[ak.2];exact bb)).1;omega
  ·exfalso;simp only[aD.withOwn,if_true,dv,hx]at aK;rw[hK]at ak;obtain⟨o,fM⟩:=ei.1 eM;have aA:=h.good.ownLt fM ak bb;have:=(ly bl (by rw[aK.2];exact ct)).1;omega
  ·rw[hK]at ak;rw[m3]at aK;exact h.good.oinj g dH n n' u dw bl eM m2 ak aK bb ct
 ·rcases iY g I with rfl|⟨ft,eM,hK⟩
  ·simp only[aD.withOwn,if_true,dv,hx]at ak;obtain⟨cn,fJ⟩:=ei.1 aa;have aA:=h.good.boxLt fJ bb;have:=(ly bl (by rw[ak.2];exact aK)).1;omega
  ·rw[hK]at ak;exact h.good.obx g j n u bl eM aa ak aK bb
 ·by_cases e:j=k
  ·subst e;rcases J with J|⟨o,fM,_⟩
   ·exact .inl J.1
   ·obtain⟨v0,dX,ah,_⟩:=h.good.own j o fM;rcases h.good.one j with I|I
    ·exact .inl I
    ·rw[I]at ah;cases ah
  ·rcases h.good.one j with I|I
   ·exact .inl I
   ·exact .inr (by simp[aD.withOwn,e,I])
 ·rcases af with af|⟨g,n,u,bt,a2,a3⟩
  ·exact h.good.otr bl (.inl af) aX j au
  ·rcases iY g bt with rfl|⟨ft,eM,hK⟩
   ·simp only[aD.withOwn,if_true,dv,hx]at a2;have I:=(ly bl (by rw[a2.2];exact a3)).1;have aa:=(h.fr.trb aX j _ au).2;omega
   ·exact h.good.otr bl (.inr ⟨g,n,u,eM,by rw[<-hK];exact a2,a3⟩) aX j au
 ·rw[aP.block j (by have:=h.fr.size;omega) Ψ];exact h.fr.block j av hm
 ·obtain⟨cu,cI⟩:=h.fr.keep b o aT;exact⟨cu,(ag.A b o cu).2.trans cI⟩
 ·have b7:aX≠k:=fun e=>by subst e;exact R2 j b af
  obtain⟨t1,t2⟩:=h.fr.trn aX j b af;exact⟨t1,by simp[aD.withOwn,b7,t2]⟩
 ·by_cases e:aq.loc j=k
  ·subst e;simp only[aD.withOwn,if_true,dv,hx]at ah;exact Nat.le_trans h.fr.size (ly b (by rw[ah.2];exact aE)).1
  ·simp only[aD.withOwn,be e]at ah;exact h.fr.nrow j n u b ah aE
 ·obtain⟨f1,f2⟩:=gd m hm;obtain⟨cu,cI,gI⟩:=h.new m f1;refine⟨cu,?_,gI⟩;simp[aD.withOwn,f2,cI]
 ·intro Dq;simp only[aw];exact⟨Dq,hg,xs.length,v,by simp[aD.withOwn],cE _,fun _=>rfl⟩
theorem bH.publish{C:dh}{st:aN}{a:Act}{w:World}{ν:aD}(h:bH C st a w ν){k:aq}{o:cq}{xs:List ab}(J:look k st.e=some o)(ad:o.xs=some xs){v:Value}(aL:ν.ow k=some (o.n,v))(hg:xs.length<=bX):
  bH C {st with e:=ck k ⟨o.n,o.el,o.sz,none⟩ st.e} a w (ν.withRowOf k v o.n (o.n*o.sz))/\
  aw w (ν.withRowOf k v o.n (o.n*o.sz)) (.slice o.sz (.own k) xs) v:=by
 obtain⟨v0,us,bJ,cj,de,du⟩:=h.good.own k o J;rw[aL]at bJ;cases bJ;obtain⟨cy,kK,qq⟩:=du xs ad;have hU:∀g,(ν.withRowOf k v o.n (o.n*o.sz)).ow g=ν.ow g:=fun g=>by
  simp only[aD.withRowOf];split
  ·rename_i e;subst e;exact aL.symm
  ·rfl
 have ag:km w ν w (ν.withRowOf k v o.n (o.n*o.sz)):=⟨fun b o aT=>⟨.inl aT,rfl⟩,fun j b _ av=>av,fun g n u _ hk=>⟨n,u,by rw[hU];exact hk,.inl ⟨rfl,rfl⟩⟩,fun _ _ _=>rfl,fun _ _ _ _ h=>h⟩
 have iY:∀g,(look g (ck k ⟨o.n,o.el,o.sz,none⟩ st.e)).isSome->(look g st.e).isSome:=by
  intro g hj;by_cases e:k=g
  ·subst e;simp[J]
  ·rwa[hJ,be e]at hj
 refine⟨h.over ag rfl ⟨fun bl i aT=>?_,fun j cn av=>?_,h.good.inj,fun g o' ea=>?_,fun g dH n n' u dw bl I aa ak aK=>h.good.oinj g dH n n' u dw bl (iY g I) (iY dH aa) (by rwa[hU]at ak) (by rwa[hU]at aK),fun g j n u bl I aa ak=>h.good.obx g j n u bl (iY g I) aa (by rwa[hU]at ak),fun j=>?_,fun bl af=>h.good.otr bl (af.imp id (fun⟨g,n,v,bt,a2,a3⟩=>⟨g,n,v,iY g bt,by rwa[hU]at a2,a3⟩))⟩
  ⟨h.fr.os,h.fr.tape,h.fr.output,h.fr.size,h.fr.block,fun b i aT=>⟨.inl (h.fr.keep b i aT).1,(h.fr.keep b i aT).2⟩,fun b i aT=>?_,h.fr.obj,h.fr.obn,fun m n u hm=>yV (h.fr.row m n u hm) (fun n u=>ag.ow _ n u trivial),h.fr.obr,h.fr.trd,h.fr.trb,fun aX j b af=>⟨(h.fr.trn aX j b af).1,by rw[hU];exact(h.fr.trn aX j b af).2⟩,h.fr.sh,fun j n u b ah aE=>h.fr.nrow j n u b (by rw[<-hU];exact ah) aE⟩ (fun m hm=>?_),?_⟩
 ·rcases aT with aT|⟨aT,_⟩
  ·exact h.good.alt bl i aT
  ·exact(cj.lt bl aT).2
 ·obtain⟨bl,a6,dQ,g1,g2,g3,g4,g5⟩:=h.good.box j cn av;refine⟨bl,a6,dQ,g1,g2,fun i aT=>?_,g4,nH ag g5⟩;rcases aT with aT|⟨aT,_⟩
  ·exact g3 i aT
  ·exact h.good.obx k j o.n v bl (by simp[J]) (by simp[av]) aL aT g1
 ·simp only at ea;rw[hJ]at ea;by_cases e:k=g
  ·rw[if_pos e]at ea;cases ea;subst e;refine⟨v,us,by rw[hU];exact aL,cj,fun bl af=>⟨(de bl af).1,fun j aT=>?_⟩,fun ys bk=>by cases bk⟩;rcases aT with aT|⟨_,aT⟩
   ·exact(de bl af).2 j aT
   ·exact aT
  ·rw[be e]at ea;obtain⟨v0,dX,ah,aE,bg,cB⟩:=h.good.own g o' ea;have sx:∀bl,v0.ownBlock=some bl->∀j,(ν.withRowOf k v o.n (o.n*o.sz)).A bl j->ν.A bl j:=fun bl af j aT=>by
    rcases aT with aT|⟨aT,_⟩
    ·exact aT
    ·exact absurd (h.good.oinj k g o.n o'.n v v0 bl (by simp[J]) (by simp[ea]) aL ah aT af) e
   exact⟨v0,dX,by rw[hU];exact ah,aE,fun bl af=>⟨(bg bl af).1,fun j aT=>(bg bl af).2 j (sx bl af j aT)⟩,pJ ag sx cB⟩
 ·rcases h.good.one j with I|I
  ·exact .inl I
  ·exact .inr (by rw[hU];exact I)
 ·rcases aT with aT|⟨aT,_⟩
  ·exact h.fr.fresh b i aT
  ·exact .inr (de b aT).1
 ·obtain⟨cu,cI,gI⟩:=h.new m hm;exact⟨cu,by rw[hU];exact cI,gI⟩
 ·simp only[aw];refine⟨?_,fun e=>(by cases e),fun g e=>?_,fun _ _ e=>(by cases e),fun _ e=>(by cases e)⟩
  ·rcases cj.2 with⟨ah,aE⟩|⟨hb,cap,cur,f1,f2,f3,f4,f5,f6,f7⟩
   ·refine⟨none,0,by rw[ah,cy,aE],Ω,⟨by simp[maxLen],hg⟩,.inl (pS Ω)⟩
   ·refine⟨some ⟨hb,0,none⟩,cap,by rw[f1,cy],Ω,⟨f5,hg⟩,.inr ⟨hb,0,us,rfl,v7 us 0 fun j u av=>?_,wG ag kK⟩⟩;have h0:v.ownBlock=some hb:=by rw[f1];rfl
    have eV:j<us.length:=(fG.1 av).1;refine⟨.inr ⟨h0,by rw[cj.1]at eV;omega⟩,?_⟩;have:=cj.cells h0 j u av;rwa[lU]at this
  ·cases e;exact⟨o.n,v,by rw[hU];exact aL,Ω,fun _=>rfl⟩
theorem Mr{α:Type}(k:aq)(p q:α):∀l,ck k q (ck k p l)=ck k q l
 |[]=>by simp[ck]
 |(i,r)::l=>by
  by_cases e:i=k
  ·simp[ck,e]
  ·simp[ck,e,Mr k p q l]
theorem bH.newRow{C:dh}{st:aN}{a:Act}{w w':World}{ν:aD}(h:bH C st a w ν){k:aq}{xs:List ab}(J:(ν.bx k=none/\ν.ow k=none/\∀j b,¬ν.tr k j b)\/ ∃o,look k st.e=some o/\o.n<xs.length){el sz:Nat}{v:Value}{us:List Value}
  (aP:w.grownBy w' none) (jo:w'.ownsRow w.heap.size el sz v xs.length us) (az:b4 w ν sz xs us) (hg:xs.length<=bX) {n':Nat} {o':List aq} (gd:∀j,fresh n' o' j->fresh st.n st.o j/\j≠k):
  bH C {st with e:=ck k ⟨xs.length,el,sz,none⟩ st.e,n:=n',o:=o'} a w' ((ν.withOwn k xs.length v).withRowOf k v xs.length (xs.length*sz))/\
  aw w' ((ν.withOwn k xs.length v).withRowOf k v xs.length (xs.length*sz)) (.slice sz (.own k) xs) v:=by
 have I:=(h.newRowM J aP jo az hg gd).1;have aa:=I.publish (k:=k) (o:=⟨xs.length,el,sz,some xs⟩) (xs:=xs) (v:=v) (by simp[hJ]) rfl (by simp[aD.withOwn]) hg;simpa only[Mr]using aa
theorem bH.setRowM{C:dh}{st:aN}{a:Act}{w w':World}{ν:aD}(h:bH C st a w ν){k:aq}{o:cq}{xs xs':List ab}(J:look k st.e=some o)(ad:o.xs=some xs){bl:Nat}{v v':Value}(aL:ν.ow k=some (o.n,v))(h0:v.ownBlock=some bl)(yf:v'.ownBlock=some bl)
  (aR:(xs'.length=o.n/\v'=v)\/o.n<xs'.length) {us:List Value} (vN:w'.os=w.os) (DR:w'.tape=w.tape) (DD:w'.output=w.output) (k6:∀j,j≠bl->w'.heap[j]? =w.heap[j]?) (cO:w'.heap.size=w.heap.size)
  (jo:w'.ownsRow 0 o.el o.sz v' xs'.length us) (az:b4 w ν o.sz xs' us):
  bH C {st with e:=ck k ⟨xs'.length,o.el,o.sz,some xs'⟩ st.e} a w' (ν.withOwn k xs'.length v')/\km w ν w' (ν.withOwn k xs'.length v')/\(xs'.length<=bX->aw w' (ν.withOwn k xs'.length v') (.row o.sz k xs'.length) v'):=by
 obtain⟨v0,dX,bJ,cj,de,du⟩:=h.good.own k o J;rw[aL]at bJ;cases bJ;obtain⟨cy,kK,qq⟩:=du xs ad;have ag:km w ν w' (ν.withOwn k xs'.length v'):=by
  refine⟨fun b i aT=>⟨aT,World.cell?_of_block (k6 b fun e=>by subst e;exact qq b h0 i aT)⟩,fun j b _ av=>av,fun g n u _ hk=>?_,fun b i aT=>wO (k6 b fun e=>by subst e;exact qq b h0 i aT),fun _ _ _ _ h=>h⟩;by_cases e:g=k
  ·subst e;rw[aL]at hk;cases hk;refine⟨xs'.length,v',by simp[aD.withOwn],?_⟩;rcases aR with⟨I,aa⟩|I
   ·exact .inl ⟨I,aa⟩
   ·exact .inr I
  ·exact⟨n,u,by simp[aD.withOwn,e,hk],.inl ⟨rfl,rfl⟩⟩
 have iY:∀g n u,(look g (ck k ⟨xs'.length,o.el,o.sz,some xs'⟩ st.e)).isSome->(ν.withOwn k xs'.length v').ow g=some (n,u)->∀b,u.ownBlock=some b->(look g st.e).isSome/\∃n u,ν.ow g=some (n,u)/\u.ownBlock=some b:=by
  intro g n u hj hk b af;by_cases e:g=k
  ·subst e;simp only[aD.withOwn,if_true,dv,hx]at hk;rw[<-hk.2,yf]at af;cases af;exact⟨by simp[J],o.n,v,aL,h0⟩
  ·rw[hJ,be (Ne.symm e)]at hj;simp only[aD.withOwn,e,if_false]at hk;exact⟨hj,n,u,hk,af⟩
 refine⟨h.over ag rfl ⟨fun b i aT=>by rw[cO];exact h.good.alt b i aT,fun j cn av=>?_,h.good.inj,fun g o' ea=>?_,fun g dH n n' u dw b I aa ak aK bb ct=>?_,fun g j n u b I aa ak aK bb=>?_,fun j=>?_,fun b af=>h.good.otr b (af.imp id (fun⟨g,n,v,bt,a2,a3⟩=>by obtain⟨bS,ft,ix,bY,fk⟩:=iY g n v bt a2 b a3;exact⟨g,ft,ix,bS,bY,fk⟩))⟩
  ⟨vN.trans h.fr.os,DR.trans h.fr.tape,DD.trans h.fr.output,by rw[cO];exact h.fr.size,fun j av hm=>?_,fun b i aT=>?_,h.fr.fresh,h.fr.obj,h.fr.obn,fun m n u hm=>yV (h.fr.row m n u hm) (fun n u=>ag.ow _ n u trivial),h.fr.obr,h.fr.trd,fun k j b af=>⟨(h.fr.trb k j b af).1,by rw[cO];exact(h.fr.trb k j b af).2⟩,fun aX j b af=>?_,fun b o aT=>(ag.sh b o (h.fr.keep b o aT).1).trans (h.fr.sh b o aT),fun j n u b ah aE=>(by
   by_cases e:aq.loc j=k
   ·subst e;simp only[aD.withOwn,if_true,dv,hx]at ah;rw[<-ah.2,yf]at aE;cases aE;exact h.fr.nrow j o.n v bl aL h0
   ·simp only[aD.withOwn,be e]at ah;exact h.fr.nrow j n u b ah aE)⟩ (fun m hm=>?_),ag,?_⟩
 ·obtain⟨b,a6,dQ,g1,g2,g3,g4,g5⟩:=h.good.box j cn av;have b7:b≠bl:=fun e=>h.good.obx k j o.n _ bl (by simp[J]) (by simp[av]) aL h0 (by rw[<-e];exact g1);exact⟨b,a6,dQ,g1,g2,g3,by rw[k6 b b7];exact g4,nH ag g5⟩
 ·simp only at ea;rw[hJ]at ea;by_cases e:k=g
  ·rw[if_pos e]at ea;cases ea;subst e;refine⟨v',us,by simp[aD.withOwn],jo,fun b af=>?_,fun ys bk=>?_⟩
   ·rw[yf]at af;cases af;exact⟨(de bl h0).1,fun j aT=>absurd aT (qq bl h0 j)⟩
   ·simp only[dv]at bk;subst bk;exact⟨rfl,wG ag az,fun b af=>by rw[yf]at af;cases af;exact qq bl h0⟩
  ·rw[be e]at ea;obtain⟨v0,dX,ah,aE,bg,cB⟩:=h.good.own g o' ea;have b7:∀b,v0.ownBlock=some b->b≠bl:=fun b af CG=>e (h.good.oinj k g o.n o'.n _ v0 bl (by simp[J]) (by simp[ea]) aL ah h0 (by rw[<-CG];exact af));refine⟨v0,dX,by simp[aD.withOwn,Ne.symm e,ah],⟨aE.1,?_⟩,bg,pJ ag (fun _ _ _ h=>h) cB⟩;rcases aE.2 with aE|⟨hb,xo,kp,f1,f2,f3,f4⟩
   ·exact .inl aE
   ·exact .inr ⟨hb,xo,kp,f1,f2,by rw[k6 hb (b7 hb (by rw[f1];rfl))];exact f3,f4⟩
 ·obtain⟨bt,ft,ix,a2,a3⟩:=iY g n u I ak b bb;obtain⟨bS,eM,h7,bY,fk⟩:=iY dH n' dw aa aK b ct;exact h.good.oinj g dH ft eM ix h7 b bt bS a2 bY a3 fk
 ·obtain⟨bt,ft,ix,a2,a3⟩:=iY g n u I ak b aK;exact h.good.obx g j ft ix b bt aa a2 a3 bb
 ·by_cases e:j=k
  ·subst e;rcases h.good.one j with I|I
   ·exact .inl I
   ·rw[I]at aL;cases aL
  ·rcases h.good.one j with I|I
   ·exact .inl I
   ·exact .inr (by simp[aD.withOwn,e,I])
 ·rw[k6 j fun e=>by subst e;exact(de j h0).1.elim hm (fun g2=>Ω)];exact h.fr.block j av hm
 ·obtain⟨cu,cI⟩:=h.fr.keep b i aT;exact⟨cu,(ag.A b i cu).2.trans cI⟩
 ·obtain⟨t1,t2⟩:=h.fr.trn aX j b af;have b7:aX≠k:=fun e=>by subst e;rw[t2]at aL;cases aL
  exact⟨t1,by simp[aD.withOwn,b7,t2]⟩
 ·obtain⟨cu,cI,gI⟩:=h.new m hm;refine⟨cu,?_,gI⟩;have:m≠k:=fun e=>by subst e;rw[cI]at aL;cases aL
  simp[aD.withOwn,this,cI]
 ·intro hg;simp only[aw];obtain⟨cap,Dq⟩:=KX jo yf;exact⟨⟨bl,cap,Dq⟩,hg,xs'.length,v',by simp[aD.withOwn],cE _,fun _=>rfl⟩
end
end Go.Pv
