/- Regions that draw their order, I: abstract states as functions, effects, and what an instruction does to them. -/
import Derived.WalkKit
import Derived.Orders
import Derived.KernelRfl
import Derived.IntWalk
import Derived.Laws.StructEq
import Derived.ChangeKeysEq
import Derived.MapKept
import Derived.ArgAppend
import Derived.Laws.OwnMore
set_option linter.all false
set_option maxHeartbeats 4000000
set_option maxRecDepth 4000
namespace Go
theorem Ω{p:Prop}(h:p:=by omega):p:=h
theorem Ψ{p:Prop}(h:p:=by simp):p:=h
end Go
open Array renaming getElem?_toList->uO
open BitVec renaming ofInt->mr
open Bool renaming and_eq_true->cr,eq_iff_iff->q4,false_eq_true->gZ,not_eq_true'->pQ
open ByteArray renaming ext->aqW,size->avd
open Go renaming Program->cJ,TypeId->ha
open Go.ByteArray renaming toList_eq->aqX
open Go.IntKind renaming i64->nD
open Go.IntWalk renaming i64_in->mT
open Go.Op renaming bytesLess->hL
open Go.Region renaming wanted->pR
open Go.Result renaming andThen_ok->fT
open Go.Sem renaming run_bind->fO,run_pure->gF
open Go.Value renaming cells->pS,ownBlock->oZ
open Go.Value.pointer renaming injEq->avk
open Go.World.grownBy renaming refl->aq0
open List renaming all_eq_true->fy,cons_append->bZ,getElem?_eq_getElem->bY,getElem?_eq_none->pT,getElem?_eq_some_iff->eS,getElem?_map->q5,length_append->o0,length_cons->oj,length_drop->tB,length_map->r5,map_cons->ht,map_nil->oo,mem_append->iz,mem_cons->e7,mem_cons_of_mem->o1,mem_filter->iL,mem_map->hG,mem_singleton->jT,pairwise_cons->mU,take->pU,take_length->k9,take_of_length_le->gw
open List.cons renaming injEq->zK
open Nat renaming add_mul->o3,le_refl->eu,le_trans->gS,mul_le_mul_right->pV
open Ne renaming symm->lF
open Option renaming bind_some->ij,isSome_iff_exists->fE,isSome_none->jG,map_eq_some_iff->gm,map_some->oq
open Option.some renaming injEq->dE
open Prod.mk renaming injEq->jU
open _root_ renaming False->eB,UInt8->c0,beq_iff_eq->dQ,congrArg->eP,decide_eq_true_eq->en
namespace Go.Pv
section
open Go Go.RowKit
inductive aM where
 |loc (s:Nat)
 |obj (n:Nat)
 deriving DecidableEq,Inhabited
inductive Ct where
 |no
 |nil
 |own (k:aM)
 |tr (k:aM) (j:Nat)
 |lo (k:aM)
 deriving DecidableEq,Inhabited
inductive ak where
 |junk
 |int (k:IntKind) (n:Int)
 |bool (b:Bool)
 |str (s:List c0)
 |slice (sz:Nat) (tag:Ct) (xs:List ak)
 |agg (cs:List ak)
 |ptr (key:aM) (off:Nat)
 |eptr (x:ak)
 |iface (t:Nat) (x:ak)
 |nilp
 |tuple (a7:List ak)
 |func (f:Nat) (dt:List ak)
 |gmap (key:aM)
 |row (sz:Nat) (key:aM) (n:Nat)
 |rptr (sz:Nat) (key:aM) (n i f:Nat)
 |hdm (clock:Nat) (borns:List Nat)
 |hdi (since:Nat) (seen:List Nat) (last:Nat)
 |cst (v:Value)
 deriving Inhabited
structure be where
 A:Nat->Nat->Prop
 bx:aM->Option Nat
 ow:aM->Option (Nat×Value)
 tr:aM->Nat->Nat->Prop
def lim:Nat:=68719476736
def mj(w:World)(A:Nat->Nat->Prop)(b:Nat):Nat->List Value->Prop
 |_,[]=>True
 |off,u::us=>(A b off/\w.cell? ⟨b,off,none⟩=some u)/\mj w A b (off+1) us
def shape(w:World)(b:Nat):Option (Nat×ha×(Nat×Nat)):=
 match w.heap[b]? with
 |some (.cells cur el fz)=>some (cur.size,el,fz)
 |_=>none
theorem xz{w w':World}{b:Nat}(h:w'.heap[b]? =w.heap[b]?):shape w' b=shape w b:=by unfold shape;rw[h]
mutual
def gr(t:Bool)(w:World)(A:Nat->Nat->Prop)(F:Nat->Prop):ak->Value->Prop
 | .int k n,v=>v= .int k n
 | .bool b,v=>v= .bool b
 | .str s,v=>v= .string ⟨s.toArray⟩/\s.length<=lim
 | .slice sz _ xs,v=> ∃a cap,v= .slice a xs.length cap/\xs.length<=cap/\(cap<=maxLen/\xs.length<=lim)/\
   (xs=[]\/ ∃b off us G,a=some ⟨b,off,none⟩/\F b/\(∀c,G c->F c/\(t=true->c≠b))/\mj w A b off us/\(t=true->off=0/\0<us.length/\∃el,shape w b=some (cap*sz,el,(0,0)))/\vf t w A G sz xs us)
 | .agg cs,v=> ∃us:Array Value,v= .agg us/\vg t w A F cs us.toList
 |_,_=>eB
def vg(t:Bool)(w:World)(A:Nat->Nat->Prop)(F:Nat->Prop):List ak->List Value->Prop
 |[],us=>us=[]
 |c::cs,us=> ∃u ck iA iM,us=u::ck/\((∀b,iA b->F b)/\(∀b,iM b->F b)/\(t=true->∀b,iA b->¬iM b))/\(gr t w A iA c u/\u.oneCell'=true)/\vg t w A iM cs ck
def vf(t:Bool)(w:World)(A:Nat->Nat->Prop)(F:Nat->Prop)(sz:Nat):List ak->List Value->Prop
 |[],us=>us=[]
 |x::xs,us=> ∃u ck iA iM,us=u.cells.toList++ck/\((∀b,iA b->F b)/\(∀b,iM b->F b)/\(t=true->∀b,iA b->¬iM b))/\(gr t w A iA x u/\u.cells.size=sz/\(∀c∈u.cells.toList,c.oneCell'=true))/\vf t w A iM sz xs ck
end
mutual
def bc(w:World)(ν:be):ak->Value->Prop
 | .junk,_=>True
 | .int k n,v=>v= .int k n
 | .bool b,v=>v= .bool b
 | .str s,v=>v= .string ⟨s.toArray⟩/\s.length<=lim
 | .slice sz tag xs,v=>
   (∃a cap,v= .slice a xs.length cap/\xs.length<=cap/\(cap<=maxLen/\xs.length<=lim)/\(xs=[]\/ ∃b off us,a=some ⟨b,off,none⟩/\mj w ν.A b off us/\dD w ν sz xs us))/\
   (tag= .nil->v= .slice none 0 0)/\
   (∀g,tag= .own g->∃n u,ν.ow g=some (n,u)/\xs.length<=n/\(xs.length=n->v=u))/\
   (∀k j,tag= .tr k j->gr true w ν.A (ν.tr k j) (.slice sz tag xs) v)/\(∀k,tag= .lo k->gr false w ν.A (ν.tr k 0) (.slice sz tag xs) v)
 | .agg cs,v=> ∃us:Array Value,v= .agg us/\dr w ν cs us.toList
 | .ptr key off,v=> ∃b,ν.bx key=some b/\v= .pointer (some ⟨b,off,none⟩)
 | .eptr x,v=> ∃b off u,v= .pointer (some ⟨b,off,none⟩)/\bc w ν x u/\mj w ν.A b off u.cells.toList
 | .iface t x,v=> ∃u,v= .iface t u/\bc w ν x u
 | .nilp,v=>v= .pointer none
 | .tuple a7,v=> ∃us:Array Value,v= .tuple us/\cT w ν a7 us.toList
 | .func f dt,v=> ∃us:Array Value,v= .func (.func f) #[] us/\cT w ν dt us.toList
 | .gmap key,v=> ∃b,ν.bx key=some b/\v= .map (some b)
 | .row _ key n,v=>(∃b cap,v= .slice (some ⟨b,0,none⟩) n cap)/\n<=lim/\∃n' u,ν.ow key=some (n',u)/\n<=n'/\(n=n'->v=u)
 | .rptr sz key n i f,v=>(∃b o,v= .pointer (some ⟨b,o,none⟩))/\i<n/\∃n' u,ν.ow key=some (n',u)/\n<=n'/\(n=n'->∃b,u.ownBlock=some b/\v= .pointer (some ⟨b,i*sz+f,none⟩))
 | .hdm _ _,_=>eB
 | .hdi _ _ _,_=>eB
 | .cst c,v=>v=c
def dr(w:World)(ν:be):List ak->List Value->Prop
 |[],us=>us=[]
 |c::cs,us=> ∃u ck,us=u::ck/\(bc w ν c u/\u.oneCell'=true)/\dr w ν cs ck
def cT(w:World)(ν:be):List ak->List Value->Prop
 |[],us=>us=[]
 |c::cs,us=> ∃u ck,us=u::ck/\bc w ν c u/\cT w ν cs ck
def dD(w:World)(ν:be)(sz:Nat):List ak->List Value->Prop
 |[],us=>us=[]
 |x::xs,us=> ∃u ck,us=u.cells.toList++ck/\(bc w ν x u/\u.cells.size=sz/\(∀c∈u.cells.toList,c.oneCell'=true))/\dD w ν sz xs ck
end
theorem HS{w w':World}{A gy:Nat->Nat->Prop}{b:Nat}(bg:∀b o,A b o->gy b o/\w'.cell? ⟨b,o,none⟩=w.cell? ⟨b,o,none⟩):
  ∀(us:List Value) (off:Nat),mj w A b off us->mj w' gy b off us
 |[],_,_=>trivial
 |_::us,off,h=>⟨⟨(bg _ _ h.1.1).1,(bg _ _ h.1.1).2.trans h.1.2⟩,HS bg us (off+1) h.2⟩
mutual
theorem GF{t:Bool}{w w':World}{A gy:Nat->Nat->Prop}(bg:∀b o,A b o->gy b o/\w'.cell? ⟨b,o,none⟩=w.cell? ⟨b,o,none⟩)(ag:∀b o,A b o->shape w' b=shape w b):∀(p:ak) (F pX:Nat->Prop) (v:Value),(∀b,F b->pX b)->gr t w A F p v->gr t w' gy pX p v
 | .int k n,_,_,_,_,h=>by simp only[gr]at h⊢;exact h
 | .bool b,_,_,_,_,h=>by simp only[gr]at h⊢;exact h
 | .str s,_,_,_,_,h=>by simp only[gr]at h⊢;exact h
 | .slice sz tag xs,F,pX,v,gB,h=>by
  simp only[gr]at h⊢;obtain⟨a,cap,J,U,ao,a6⟩:=h;refine⟨a,cap,J,U,ao,?_⟩;rcases a6 with a6|⟨b,off,us,G,aq,aG,bG,di,hx,h7⟩
  ·exact .inl a6
  ·refine .inr ⟨b,off,us,G,aq,gB _ aG,fun c ar=>⟨gB _ (bG c ar).1,(bG c ar).2⟩,HS bg _ _ di,fun aH=>?_,T7 bg ag xs G G _ (fun _ h=>h) h7⟩;obtain⟨f1,f2,el,f3⟩:=hx aH;refine⟨f1,f2,el,?_⟩;cases us with
   |nil=>simp at f2
   |cons u us=>rw[ag b off di.1.1];exact f3
 | .agg cs,F,pX,v,gB,h=>by simp only[gr]at h⊢;obtain⟨us,J,U⟩:=h;exact⟨us,J,T8 bg ag cs F pX _ gB U⟩
 | .junk,_,_,_,_,h=>by simp[gr]at h
 | .ptr _ _,_,_,_,_,h=>by simp[gr]at h
 | .eptr _,_,_,_,_,h=>by simp[gr]at h
 | .iface _ _,_,_,_,_,h=>by simp[gr]at h
 | .nilp,_,_,_,_,h=>by simp[gr]at h
 | .tuple _,_,_,_,_,h=>by simp[gr]at h
 | .func _ _,_,_,_,_,h=>by simp[gr]at h
 | .gmap _,_,_,_,_,h=>by simp[gr]at h
 | .row _ _ _,_,_,_,_,h=>by simp[gr]at h
 | .rptr _ _ _ _ _,_,_,_,_,h=>by simp[gr]at h
 | .hdm _ _,_,_,_,_,h=>by simp[gr]at h
 | .hdi _ _ _,_,_,_,_,h=>by simp[gr]at h
 | .cst _,_,_,_,_,h=>by simp[gr]at h
theorem T8{t:Bool}{w w':World}{A gy:Nat->Nat->Prop}(bg:∀b o,A b o->gy b o/\w'.cell? ⟨b,o,none⟩=w.cell? ⟨b,o,none⟩)(ag:∀b o,A b o->shape w' b=shape w b):∀(cs:List ak) (F pX:Nat->Prop) (us:List Value),(∀b,F b->pX b)->vg t w A F cs us->vg t w' gy pX cs us
 |[],_,_,_,_,h=>by simp only[vg]at h⊢;exact h
 |c::cs,F,pX,us,gB,h=>by simp only[vg]at h⊢;obtain⟨u,ck,iA,iM,J,⟨U,ao,a6⟩,⟨b7,dd⟩,ed⟩:=h;exact⟨u,ck,iA,iM,J,⟨fun b ab=>gB _ (U b ab),fun b ab=>gB _ (ao b ab),a6⟩,⟨GF bg ag c iA iA u (fun _ h=>h) b7,dd⟩,T8 bg ag cs iM iM ck (fun _ h=>h) ed⟩
theorem T7{t:Bool}{w w':World}{A gy:Nat->Nat->Prop}(bg:∀b o,A b o->gy b o/\w'.cell? ⟨b,o,none⟩=w.cell? ⟨b,o,none⟩)(ag:∀b o,A b o->shape w' b=shape w b){sz:Nat}:∀(cs:List ak) (F pX:Nat->Prop) (us:List Value),(∀b,F b->pX b)->vf t w A F sz cs us->vf t w' gy pX sz cs us
 |[],_,_,_,_,h=>by simp only[vf]at h⊢;exact h
 |c::cs,F,pX,us,gB,h=>by simp only[vf]at h⊢;obtain⟨u,ck,iA,iM,J,⟨U,ao,a6⟩,⟨b7,dd⟩,ed⟩:=h;exact⟨u,ck,iA,iM,J,⟨fun b ab=>gB _ (U b ab),fun b ab=>gB _ (ao b ab),a6⟩,⟨GF bg ag c iA iA u (fun _ h=>h) b7,dd⟩,T7 bg ag cs iM iM ck (fun _ h=>h) ed⟩
end
mutual
def aJ(S:aM->Prop):ak->Prop
 | .slice _ tag xs=>(match tag with| .own k=>S k| .tr k _=>S k| .lo k=>S k|_=>True)/\aN S xs
 | .agg cs=>aN S cs
 | .ptr k _=>S k
 | .eptr x=>aJ S x
 | .iface _ x=>aJ S x
 | .tuple a7=>aN S a7
 | .func _ dt=>aN S dt
 | .gmap k=>S k
 | .row _ k _=>S k
 | .rptr _ k _ _ _=>S k
 |_=>True
def aN(S:aM->Prop):List ak->Prop
 |[]=>True
 |x::xs=>aJ S x/\aN S xs
end
mutual
theorem w9{S T:aM->Prop}(h:∀k,S k->T k):∀p:ak,aJ S p->aJ T p
 | .junk,_=>by simp[aJ]
 | .int _ _,_=>by simp[aJ]
 | .bool _,_=>by simp[aJ]
 | .str _,_=>by simp[aJ]
 | .slice sz tag xs,bD=>by simp only[aJ]at bD⊢;exact⟨by cases tag<;>first|trivial|exact h _ bD.1,ki h xs bD.2⟩
 | .agg cs,bD=>by simp only[aJ]at bD⊢;exact ki h cs bD
 | .ptr k _,bD=>by simp only[aJ]at bD⊢;exact h _ bD
 | .eptr x,bD=>by simp only[aJ]at bD⊢;exact w9 h x bD
 | .iface _ x,bD=>by simp only[aJ]at bD⊢;exact w9 h x bD
 | .nilp,_=>by simp[aJ]
 | .tuple a7,bD=>by simp only[aJ]at bD⊢;exact ki h a7 bD
 | .func _ dt,bD=>by simp only[aJ]at bD⊢;exact ki h dt bD
 | .gmap k,bD=>by simp only[aJ]at bD⊢;exact h _ bD
 | .row _ k _,bD=>by simp only[aJ]at bD⊢;exact h _ bD
 | .rptr _ k _ _ _,bD=>by simp only[aJ]at bD⊢;exact h _ bD
 | .hdm _ _,_=>by simp[aJ]
 | .hdi _ _ _,_=>by simp[aJ]
 | .cst _,_=>by simp[aJ]
theorem ki{S T:aM->Prop}(h:∀k,S k->T k):∀cE:List ak,aN S cE->aN T cE
 |[],_=>by simp[aN]
 |x::xs,bD=>by simp only[aN]at bD⊢;exact⟨w9 h x bD.1,ki h xs bD.2⟩
end
mutual
theorem HP:∀p:ak,aJ (fun _=>True) p
 | .junk=>by simp[aJ]
 | .int _ _=>by simp[aJ]
 | .bool _=>by simp[aJ]
 | .str _=>by simp[aJ]
 | .slice sz tag xs=>by simp only[aJ];exact⟨by cases tag<;>trivial,vC xs⟩
 | .agg cs=>by simp only[aJ];exact vC cs
 | .ptr k _=>by simp[aJ]
 | .eptr x=>by simp only[aJ];exact HP x
 | .iface _ x=>by simp only[aJ];exact HP x
 | .nilp=>by simp[aJ]
 | .tuple a7=>by simp only[aJ];exact vC a7
 | .func _ dt=>by simp only[aJ];exact vC dt
 | .gmap k=>by simp[aJ]
 | .row _ k _=>by simp[aJ]
 | .rptr _ k _ _ _=>by simp[aJ]
 | .hdm _ _=>by simp[aJ]
 | .hdi _ _ _=>by simp[aJ]
 | .cst _=>by simp[aJ]
theorem vC:∀cE:List ak,aN (fun _=>True) cE
 |[]=>by simp[aN]
 |x::xs=>by simp only[aN];exact⟨HP x,vC xs⟩
end
def fG:List Nat->List Value->List MapEntry
 |b::e0,k::v::r=>⟨k,v,b⟩::fG e0 r
 |_,_=>[]
def j6(cs:List ak)(us:Array Value)(el:ha):Obj:=
 match cs with
 | .hdm clock borns::_=>.map (fG borns us.toList).toArray clock
 | .hdi since seen last::_=>.mapIter (match us.toList with|[.map m]=>m|_=>none) since seen.toArray last
 |_=>.cells us el
structure akw (clock:Nat) (borns:List Nat) (r:List ak):Prop where
 len:r.length=2*borns.length
 inc:borns.Pairwise (· < ·)
 lt:∀b∈borns,b<clock
def jD(w:World)(ν:be)(cs:List ak)(us:List Value):Prop:=
 match cs with
 | .hdm clock borns::r=>cT w ν r us/\akw clock borns r
 | .hdi _ _ _::r=>cT w ν r us
 |cs=>dr w ν cs us
def ie:List ak->Bool
 | .hdm _ _::_=>false
 | .hdi _ _ _::_=>false
 |_=>true
theorem BU{w:World}{ν:be}{cs:List ak}{us:List Value}(h:dr w ν cs us):ie cs=true:=by
 unfold ie;split
 ·simp only[dr,bc]at h;obtain⟨_,_,_,⟨h,_⟩,_⟩:=h;exact h.elim
 ·simp only[dr,bc]at h;obtain⟨_,_,_,⟨h,_⟩,_⟩:=h;exact h.elim
 ·rfl
theorem vP{cs:List ak}(h:ie cs=true)(us:Array Value)(el:ha):j6 cs us el= .cells us el:=by
 unfold ie at h;unfold j6;split at h<;>first|cases h|skip
 rfl
theorem vQ{w:World}{ν:be}{cs:List ak}(h:ie cs=true)(us:List Value):jD w ν cs us=dr w ν cs us:=by
 unfold ie at h;unfold jD;split at h<;>first|cases h|skip
 rfl
structure o5 (S:aM->Prop) (w:World) (ν:be) (w':World) (bo:be):Prop where
 A:∀b o,ν.A b o->bo.A b o/\w'.cell? ⟨b,o,none⟩=w.cell? ⟨b,o,none⟩
 bx:∀k b,S k->ν.bx k=some b->bo.bx k=some b
 ow:∀g n u,S g->ν.ow g=some (n,u)->∃n' fi,bo.ow g=some (n',fi)/\(n'=n/\fi=u\/n<n')
 sh:∀b o,ν.A b o->shape w' b=shape w b
 tr:∀k j b,S k->ν.tr k j b->bo.tr k j b
abbrev lZ:=o5 (fun _=>True)
mutual
theorem kI{S:aM->Prop}{w w':World}{ν bo:be}(aw:o5 S w ν w' bo):∀(p:ak) (v:Value),aJ S p->bc w ν p v->bc w' bo p v
 | .junk,_,_,_=>by simp[bc]
 | .int k n,_,_,h=>by simp only[bc]at h⊢;exact h
 | .bool b,_,_,h=>by simp only[bc]at h⊢;exact h
 | .str s,_,_,h=>by simp only[bc]at h⊢;exact h
 | .slice sz tag xs,v,ae,h=>by
  simp only[bc,aJ]at h ae⊢;obtain⟨⟨a,cap,J,U,ao,a6⟩,b7,dd,ll,tT⟩:=h;refine⟨⟨a,cap,J,U,ao,?_⟩,b7,fun g aX=>?_,fun k j oD=>?_,fun k oD=>?_⟩
  ·rcases a6 with a6|⟨b,off,us,a6,dd,ed⟩
   ·exact .inl a6
   ·exact .inr ⟨b,off,us,a6,HS aw.A _ _ dd,IW aw sz xs us ae.2 ed⟩
  ·obtain⟨n,u,aq,aG,bG⟩:=dd g aX;subst aX;obtain⟨n',fi,f1,f2⟩:=aw.ow g n u ae.1 aq;refine⟨n',fi,f1,?_⟩;rcases f2 with⟨rfl,rfl⟩|f2
   ·exact⟨aG,bG⟩
   ·exact⟨Ω,fun e=>Ω⟩
  ·have:=ll k j oD;subst oD;exact GF aw.A aw.sh _ _ _ _ (fun b=>aw.tr k j b ae.1) this
  ·have:=tT k oD;subst oD;exact GF aw.A aw.sh _ _ _ _ (fun b=>aw.tr k 0 b ae.1) this
 | .agg cs,v,ae,h=>by simp only[bc,aJ]at h ae⊢;obtain⟨us,J,U⟩:=h;exact⟨us,J,IZ aw cs _ ae U⟩
 | .ptr key off,v,ae,h=>by simp only[bc,aJ]at h ae⊢;obtain⟨b,J,U⟩:=h;exact⟨b,aw.bx _ _ ae J,U⟩
 | .iface t x,v,ae,h=>by simp only[bc,aJ]at h ae⊢;obtain⟨u,J,U⟩:=h;exact⟨u,J,kI aw x u ae U⟩
 | .eptr x,v,ae,h=>by simp only[bc,aJ]at h ae⊢;obtain⟨b,off,u,J,U,ao⟩:=h;exact⟨b,off,u,J,kI aw x u ae U,HS aw.A _ _ ao⟩
 | .nilp,_,_,h=>by simp only[bc]at h⊢;exact h
 | .tuple a7,v,ae,h=>by simp only[bc,aJ]at h ae⊢;obtain⟨us,J,U⟩:=h;exact⟨us,J,zl aw a7 _ ae U⟩
 | .func f dt,v,ae,h=>by simp only[bc,aJ]at h ae⊢;obtain⟨us,J,U⟩:=h;exact⟨us,J,zl aw dt _ ae U⟩
 | .gmap key,v,ae,h=>by simp only[bc,aJ]at h ae⊢;obtain⟨b,J,U⟩:=h;exact⟨b,aw.bx _ _ ae J,U⟩
 | .row sz key n,v,ae,h=>by
  simp only[bc,aJ]at h ae⊢;obtain⟨J,U,n',u,ao,a6,b7⟩:=h;obtain⟨gE,jS,f1,f2⟩:=aw.ow key n' u ae ao;refine⟨J,U,gE,jS,f1,?_⟩;rcases f2 with⟨rfl,rfl⟩|f2
  ·exact⟨a6,b7⟩
  ·exact⟨Ω,fun e=>Ω⟩
 | .rptr sz key n i f,v,ae,h=>by
  simp only[bc,aJ]at h ae⊢;obtain⟨J,U,n',u,ao,a6,b7⟩:=h;obtain⟨gE,jS,f1,f2⟩:=aw.ow key n' u ae ao;refine⟨J,U,gE,jS,f1,?_⟩;rcases f2 with⟨rfl,rfl⟩|f2
  ·exact⟨a6,b7⟩
  ·exact⟨Ω,fun e=>Ω⟩
 | .hdm _ _,_,_,h=>by simp only[bc]at h
 | .hdi _ _ _,_,_,h=>by simp only[bc]at h
 | .cst c,_,_,h=>by simp only[bc]at h⊢;exact h
theorem IZ{S:aM->Prop}{w w':World}{ν bo:be}(aw:o5 S w ν w' bo):∀(cs:List ak) (us:List Value),aN S cs->dr w ν cs us->dr w' bo cs us
 |[],_,_,h=>by simp only[dr]at h⊢;exact h
 |c::cs,us,ae,h=>by simp only[dr,aN]at h ae⊢;obtain⟨u,ck,J,U,ao⟩:=h;exact⟨u,ck,J,⟨kI aw c u ae.1 U.1,U.2⟩,IZ aw cs ck ae.2 ao⟩
theorem zl{S:aM->Prop}{w w':World}{ν bo:be}(aw:o5 S w ν w' bo):∀(cs:List ak) (us:List Value),aN S cs->cT w ν cs us->cT w' bo cs us
 |[],_,_,h=>by simp only[cT]at h⊢;exact h
 |c::cs,us,ae,h=>by simp only[cT,aN]at h ae⊢;obtain⟨u,ck,J,U,ao⟩:=h;exact⟨u,ck,J,kI aw c u ae.1 U,zl aw cs ck ae.2 ao⟩
theorem IW{S:aM->Prop}{w w':World}{ν bo:be}(aw:o5 S w ν w' bo)(sz:Nat):∀(xs:List ak) (us:List Value),aN S xs->dD w ν sz xs us->dD w' bo sz xs us
 |[],_,_,h=>by simp only[dD]at h⊢;exact h
 |x::xs,us,ae,h=>by simp only[dD,aN]at h ae⊢;obtain⟨u,ck,J,⟨U,ao,a6⟩,b7⟩:=h;exact⟨u,ck,J,⟨kI aw x u ae.1 U,ao,a6⟩,IW aw sz xs ck ae.2 b7⟩
end
theorem Zm{S:aM->Prop}{w w':World}{ν bo:be}(aw:o5 S w ν w' bo){cs:List ak}{us:List Value}(ae:aN S cs)(h:jD w ν cs us):jD w' bo cs us:=by
 unfold jD at h⊢;split
 ·simp only[aN]at ae;exact⟨zl aw _ _ ae.2 h.1,h.2⟩
 ·simp only[aN]at ae;exact zl aw _ _ ae.2 h
 ·rename_i J U;split at h
  ·exact absurd rfl (J _ _ _)
  ·exact absurd rfl (U _ _ _ _)
  ·exact IZ aw _ _ ae h
section
variable {w w':World} {ν bo:be} (aw:lZ w ν w' bo)
include aw
theorem zm{p:ak}{v:Value}(h:bc w ν p v):bc w' bo p v:=kI aw p v (HP p) h
theorem Zr{p:List ak}{v:List Value}(h:dr w ν p v):dr w' bo p v:=IZ aw p v (vC p) h
theorem I1{p:List ak}{v:List Value}(h:cT w ν p v):cT w' bo p v:=zl aw p v (vC p) h
theorem qZ{p:List ak}{v:List Value}(h:jD w ν p v):jD w' bo p v:=Zm aw (vC p) h
theorem BR{sz:Nat}{p:List ak}{v:List Value}(h:dD w ν sz p v):dD w' bo sz p v:=IW aw sz p v (vC p) h
end
end
section
open Go Go.RowKit
def get(k:Nat):List (Nat×ak)->ak
 |[]=>.junk
 |(i,p)::r=>if i=k then p else get k r
def put(k:Nat)(p:ak):List (Nat×ak)->List (Nat×ak)
 |[]=>[(k,p)]
 |(i,q)::r=>if i=k then(i,p)::r else(i,q)::put k p r
def look{α:Type}(k:aM):List (aM×α)->Option α
 |[]=>none
 |(i,p)::r=>if i=k then some p else look k r
def cF{α:Type}(k:aM)(p:α):List (aM×α)->List (aM×α)
 |[]=>[(k,p)]
 |(i,q)::r=>if i=k then(i,p)::r else(i,q)::cF k p r
theorem qc(k j:Nat)(p:ak):∀l,get j (put k p l)=if k=j then p else get j l
 |[]=>by simp[get,put]
 |(i,q)::r=>by
  by_cases h:i=k
  ·subst h;by_cases U:i=j<;>simp[get,put,U]
  ·by_cases U:i=j
   ·subst U;simp[get,put,h,lF h]
   ·simp[get,put,h,U,qc k j p r]
theorem jh{α:Type}(k j:aM)(p:α):∀l,look j (cF k p l)=if k=j then some p else look j l
 |[]=>by simp[look,cF]
 |(i,q)::r=>by
  by_cases h:i=k
  ·subst h;by_cases U:i=j<;>simp[look,cF,U]
  ·by_cases U:i=j
   ·subst U;simp[look,cF,h,lF h]
   ·simp[look,cF,h,U,jh k j p r]
structure fQ where
 n:Nat
 el:Nat
 sz:Nat
 xs:Option (List ak)
def OQ(w:World)(ν:be)(o:fQ)(v:Value)(us:List Value):Prop:=∀xs,o.xs=some xs->xs.length=o.n/\dD w ν o.sz xs us/\∀bl,v.ownBlock=some bl->∀j,¬ν.A bl j
theorem te{w w':World}{ν bo:be}(aw:lZ w ν w' bo){o:fQ}{v:Value}{us:List Value}(bg:∀bl,v.ownBlock=some bl->∀j,bo.A bl j->ν.A bl j)(h:OQ w ν o v us):OQ w' bo o v us:=fun xs ad=>⟨(h xs ad).1,BR aw (h xs ad).2.1,fun bl ab j af=>(h xs ad).2.2 bl ab j (bg bl ab j af)⟩
def eg(S:aM->Prop)(o:fQ):Prop:= ∀xs,o.xs=some xs->aN S xs
structure br where
 t:List (Nat×ak)
 b:List (aM×List ak)
 e:List (aM×fQ)
 n:Nat
 o:List aM
def fresh(n:Nat)(o:List aM)(k:aM):Prop:=(match k with| .loc m=>n<=m| .obj _=>True)/\k∉o
theorem Lk{n n':Nat}{o o':List aM}(au:n<=n')(aw:∀k∈o,k∈o'){k:aM}(h:fresh n' o' k):fresh n o k:=by unfold fresh at h⊢;exact⟨by cases k<;>simp at h⊢;omega,fun ae=>h.2 (aw k ae)⟩
def Pq(ν:be)(b:List (aM×List ak))(e:List (aM×fQ))(bl:Nat):Prop:=(∃k,(look k b).isSome/\ν.bx k=some bl)\/(∃g n v,(look g e).isSome/\ν.ow g=some (n,v)/\v.ownBlock=some bl)
structure Good (pr:Nat->Prop) (w:World) (ν:be) (b:List (aM×List ak)) (e:List (aM×fQ)):Prop where
 alt:∀bl o,ν.A bl o->bl<w.heap.size
 box:∀k cs,look k b=some cs->∃bl us el,ν.bx k=some bl/\pr bl/\(∀o,¬ν.A bl o)/\w.heap[bl]? =some (j6 cs us el)/\jD w ν cs us.toList
 inj:∀k bH bl,(look k b).isSome->(look bH b).isSome->ν.bx k=some bl->ν.bx bH=some bl->k=bH
 own:∀g o,look g e=some o->∃v us,ν.ow g=some (o.n,v)/\w.ownsRow 0 o.el o.sz v o.n us/\(∀bl,v.ownBlock=some bl->pr bl/\(∀j,ν.A bl j->j<o.n*o.sz))/\OQ w ν o v us
 oinj:∀g fc n n' v v' bl,(look g e).isSome->(look fc e).isSome->ν.ow g=some (n,v)->ν.ow fc=some (n',v')->v.ownBlock=some bl->v'.ownBlock=some bl->g=fc
 obx:∀g k n v bl,(look g e).isSome->(look k b).isSome->ν.ow g=some (n,v)->v.ownBlock=some bl->ν.bx k=some bl->eB
 one:∀k,ν.bx k=none\/ν.ow k=none
 otr:∀bl,Pq ν b e bl->∀k j,¬ν.tr k j bl
structure fj where
 w0:World
 ν0:be
 mt:Nat->Prop
 N:Nat
 ob:List aM
def fj.pr(C:fj)(bl:Nat):Prop:=C.mt bl\/C.w0.heap.size<=bl
def aoJ:aM:= .obj 990001
def fS:aM:= .obj 990002
structure qB (C:fj) (w:World) (ν:be):Prop where
 os:w.os=C.w0.os
 tape:w.tape=C.w0.tape
 output:w.output=C.w0.output
 size:C.w0.heap.size<=w.heap.size
 block:∀k,k<C.w0.heap.size->¬C.mt k->w.heap[k]? =C.w0.heap[k]?
 keep:∀b o,C.ν0.A b o->ν.A b o/\w.cell? ⟨b,o,none⟩=C.w0.cell? ⟨b,o,none⟩
 fresh:∀b o,ν.A b o->C.ν0.A b o\/C.pr b
 obj:∀n b,C.ν0.bx (.obj n)=some b->ν.bx (.obj n)=some b
 obn:∀n b,C.ν0.bx (.obj n)=some b-> .obj n∈C.ob
 row:∀m n u,C.ν0.ow (.obj m)=some (n,u)->∃n' fi,ν.ow (.obj m)=some (n',fi)/\(n'=n/\fi=u\/n<n')
 obr:∀m n u,C.ν0.ow (.obj m)=some (n,u)-> .obj m∈C.ob
 trd:∀k j bH dG b,ν.tr k j b->ν.tr bH dG b->k=bH/\j=dG
 trb:∀k j b,ν.tr k j b->(k=aoJ\/C.w0.heap.size<=b)/\b<w.heap.size
 trn:∀k j b,ν.tr k j b->ν.bx k=none/\ν.ow k=none
 sh:∀b o,C.ν0.A b o->shape w b=shape C.w0 b
theorem ES{ν bo:be}{g:aM}{n:Nat}{u:Value}(h:∃n' fi,ν.ow g=some (n',fi)/\(n'=n/\fi=u\/n<n'))(aw:∀n u,ν.ow g=some (n,u)->∃n' fi,bo.ow g=some (n',fi)/\(n'=n/\fi=u\/n<n')):
  ∃n' fi,bo.ow g=some (n',fi)/\(n'=n/\fi=u\/n<n'):=by
 obtain⟨iJ,jm,aq,aG⟩:=h;obtain⟨gE,jS,f1,f2⟩:=aw iJ jm aq;refine⟨gE,jS,f1,?_⟩;rcases aG with⟨rfl,rfl⟩|aG
 ·exact f2
 ·rcases f2 with⟨rfl,rfl⟩|f2
  ·exact .inr aG
  ·exact .inr Ω
structure cY (C:fj) (st:br) (a:Act) (w:World) (ν:be):Prop where
 good:Good C.pr w ν st.b st.e
 fr:qB C w ν
 defers:a.defers=[]
 size:a.tmps.size=C.N
 slot:∀i,bc w ν (get i st.t) (a.tmps.getD i undef)
 new:∀k,fresh st.n st.o k->ν.bx k=none/\ν.ow k=none/\∀j b,¬ν.tr k j b
def eY(d:Option Nat)(p:ak)(t:List (Nat×ak)):List (Nat×ak):=
 match d with
 |some d=>put d p t
 |none=>t
def jJ(N:Nat)(d:Option Nat):Bool:=match d with|some d=>decide (d<N)|none=>true
theorem cY.put{C:fj}{st:br}{a:Act}{w:World}{ν:be}(h:cY C st a w ν){d:Option Nat}(aF:jJ C.N d=true){p:ak}{v:Value}(bD:bc w ν p v):
  cY C {st with t:=eY d p st.t} (a.put d v) w ν:=by
 cases d with
 |none=>exact h
 |some d=>
  have bz:d<a.tmps.size:=by rw[h.size];simpa[jJ]using aF
  refine⟨h.good,h.fr,h.defers,by simpa[Act.put]using h.size,fun i=>?_,h.new⟩;simp only[eY,qc];by_cases e:d=i
  ·subst e;simpa[Act.put,Array.getD_eq_getD_getElem?,bz]using bD
  ·have:=h.slot i;simpa[e,Act.put,Array.getD_eq_getD_getElem?,Array.getElem?_setIfInBounds_ne e]using this
theorem cY.over{C:fj}{st st':br}{a:Act}{w w':World}{ν bo:be}(h:cY C st a w ν)(aw:lZ w ν w' bo)(aH:st'.t=st.t)(aX:Good C.pr w' bo st'.b st'.e)(aQ:qB C w' bo)
  (au:∀k,fresh st'.n st'.o k->bo.bx k=none/\bo.ow k=none/\∀j b,¬bo.tr k j b):cY C st' a w' bo:=
 ⟨aX,aQ,h.defers,h.size,fun i=>by rw[aH];exact zm aw (h.slot i),au⟩
inductive dw where
 |t (i:Nat)
 |c (p:ak)
 deriving Inhabited
def cy(t:List (Nat×ak)):dw->ak
 | .t i=>get i t
 | .c p=>p
def FX:ak->Value->Bool
 | .int k n,.int bH n'=>decide (k=bH/\n=n')
 | .bool b,.bool b1=>b==b1
 | .str s,.string l=>decide (l.data.toList=s/\s.length<=lim)
 | .slice _ .nil [],.slice none 0 0=>true
 | .nilp,.pointer none=>true
 | .tuple [],.tuple ⟨[]⟩=>true
 | .func f [],.func (.func g) ⟨[]⟩ ⟨[]⟩=>f==g
 | .junk,_=>true
 |_,_=>false
theorem QR(w:World)(ν:be){p:ak}{v:Value}(h:FX p v=true):bc w ν p v:=by
 unfold FX at h;split at h
 ·simp at h;obtain⟨rfl,rfl⟩:=h;simp[bc]
 ·simp at h;subst h;simp[bc]
 ·rename_i s l;simp at h;obtain⟨J,U⟩:=h;refine⟨?_,U⟩;subst J;simp
 ·simp only[bc];refine⟨⟨none,0,rfl,Ψ,Ψ,Ψ⟩,Ψ,(fun _ h=>by cases h),(fun _ _ h=>by cases h),(fun _ h=>by cases h)⟩
 ·simp[bc]
 ·simp[bc,cT]
 ·simp at h;subst h;simp[bc,cT]
 ·simp[bc]
 ·cases h
def zW:List ak->List Value->Bool
 |[],[]=>true
 |p::cE,v::a7=>FX p v&&v.oneCell'&&zW cE a7
 |_,_=>false
def zV:ak->Value->Bool
 | .agg cs,.agg us=>zW cs us.toList
 |p,v=>FX p v
theorem QS(w:World)(ν:be):∀(cE:List ak) (a7:List Value),zW cE a7=true->dr w ν cE a7
 |[],[],_=>by simp[dr]
 |[],_::_,h=>by simp[zW]at h
 |_::_,[],h=>by simp[zW]at h
 |p::cE,v::a7,h=>by simp only[zW,cr]at h;simp only[dr];exact⟨v,a7,rfl,⟨QR w ν h.1.1,h.1.2⟩,QS w ν cE a7 h.2⟩
theorem Ka(w:World)(ν:be){p:ak}{v:Value}(h:zV p v=true):bc w ν p v:=by
 unfold zV at h;split at h
 ·simp only[bc];exact⟨_,rfl,QS w ν _ _ h⟩
 ·exact QR w ν h
def er:dw->Operand->Bool
 | .t i,.tmp j=>i==j
 | .c p,.const v=>zV p v
 | .c (.func f []),.func g=>f==g
 |_,_=>false
theorem et{C:fj}{st:br}{a:Act}{w:World}{ν:be}(h:cY C st a w ν){x:dw}{o:Operand}(ad:er x o=true):bc w ν (cy st.t x) (a.eval o):=by
 unfold er at ad;split at ad
 ·simp at ad;subst ad;simpa[cy,Act.eval]using h.slot _
 ·simpa[cy,Act.eval]using Ka w ν ad
 ·simp at ad;subst ad;simp[cy,Act.eval,bc,cT]
 ·cases ad
inductive Cs where
 |int (k:IntKind)
 |bool
 |str
 |slice (e:Nat)
 |struct (dU:List (Nat×Nat))
 |map (k e:Nat)
 |other
 deriving DecidableEq
structure dB where
 size:Nat
 bytes:Nat
 kind:Cs
 zero:ak
def Cs.isAgg:Cs->Bool
 | .struct _=>true
 |_=>false
def Cl:List ak->List Value->Bool
 |[],[]=>true
 |p::cE,v::a7=>zV p v&&v.oneCell'&&Cl cE a7
 |_,_=>false
def zI:ak->Value->Bool
 | .agg cs,.agg us=>Cl cs us.toList
 | .agg _,_=>false
 |p,v=>zV p v&&v.oneCell'
def kx:Cs->TypeDesc->Bool
 | .int k,.int bH=>decide (k=bH)
 | .bool,.bool=>true
 | .str,.string=>true
 | .slice e,.slice fF=>e==fF
 | .struct dU,.struct gs=>decide (gs.toList.map (fun f=>(f.offset,f.type))=dU)
 | .map k e,.map bH fF=>k==bH&&e==fF
 | .other,d=>match d with| .struct _| .array _ _| .int _| .bool| .string| .slice _=>false|_=>true
 |_,_=>false
def TZ(P:cJ)(gs:Array Field):Bool:=gs.toList.all fun f=>match P.underlying f.type with|some (.int _)=>true|some .string=>true|_=>false
def S2(P:cJ)(t:Nat)(gs:Array Field):Bool:=gs.toList.all (fun f=>f.name != "_")&& !P.stoodInHeld t&& !P.eqGuardType P.depth t
def KB(P:cJ)(t:Nat):TypeDesc->Bool
 | .struct gs=> !TZ P gs||S2 P t gs
 |_=>true
def Pt(P:cJ)(t:Nat)(f:dB):Bool:=
 match P.info? t,P.underlying t with
 |some i,some d=>KB P t d&&i.size==f.size&&i.bytes==f.bytes&&kx f.kind d&&(match i.zero with|some z=>zI f.zero z&&z.cells.size==f.size|none=>false)
 |_,_=>false
def fM(P:cJ)(bF:List (Nat×dB)):Bool:=bF.all fun x=>Pt P x.1 x.2
def ei(bF:List (Nat×dB))(t:Nat):Option dB:=(bF.find? fun x=>x.1==t).map (·.2)
theorem aps{P:cJ}{bF:List (Nat×dB)}(h:fM P bF=true){t:Nat}{f:dB}(aQ:ei bF t=some f):Pt P t f=true:=by
 unfold ei at aQ;cases ad:bF.find? fun x=>x.1==t with
 |none=>simp[ad]at aQ
 |some x=>simp[ad]at aQ;have J:=List.find?_some ad;simp at J;have U:=List.mem_of_find?_eq_some ad;have ao:=fy.1 h x U;rw[<-aQ,<-J];exact ao
structure abu (P:cJ) (t:Nat) (f:dB):Prop where
 cmp:∀d,P.underlying t=some d->KB P t d=true
 ex:∃i d z,P.info? t=some i/\P.underlying t=some d/\i.size=f.size/\i.bytes=f.bytes/\kx f.kind d=true/\i.zero=some z/\zI f.zero z=true/\z.cells.size=f.size
theorem wc{P:cJ}{bF:List (Nat×dB)}(h:fM P bF=true){t:Nat}{f:dB}(aQ:ei bF t=some f):abu P t f:=by
 have h:=aps h aQ;unfold Pt at h;split at h
 ·rename_i i d J U;simp only[cr,dQ]at h;obtain⟨⟨⟨⟨bE,ao⟩,a6⟩,b7⟩,dd⟩:=h;split at dd
  ·rename_i z ba;simp only[cr,dQ]at dd;exact⟨fun cn nk=>by rw[U]at nk;cases nk;exact bE,i,d,z,J,U,ao,a6,b7,ba,dd.1,dd.2⟩
  ·cases dd
 ·cases h
theorem p0(b o j:Nat):(⟨b,o,none⟩:Addr).add j=⟨b,o+j,none⟩:=by
 unfold Addr.add;split
 ·rename_i h;subst h;rfl
 ·rfl
theorem P1(w:World)(ν:be):∀(cE:List ak) (a7:List Value),Cl cE a7=true->dr w ν cE a7
 |[],[],_=>by simp[dr]
 |[],_::_,h=>by simp[Cl]at h
 |_::_,[],h=>by simp[Cl]at h
 |p::cE,v::a7,h=>by simp only[Cl,cr]at h;simp only[dr];exact⟨v,a7,rfl,⟨Ka w ν h.1.1,h.1.2⟩,P1 w ν cE a7 h.2⟩
def cells:ak->List ak
 | .agg cs=>cs
 |p=>[p]
def eR:ak->Bool
 | .junk| .tuple _=>false
 | .cst (.slice _ _ _)| .cst (.string _)=>true
 | .cst _=>false
 |_=>true
theorem OP{w:World}{ν:be}{p:ak}{v:Value}(h:bc w ν p v)(ag:eR p=true)(bm:∀cs,p≠ .agg cs):v.oneCell'=true/\v.cells= #[v]:=by
 cases p<;>simp only[bc,eR]at h ag;case junk=>cases ag
 case tuple=>cases ag
 case cst c=>subst h;cases v<;>first|exact⟨rfl,rfl⟩|cases ag
 case agg cs=>exact absurd rfl (bm cs)
 case int=>subst h;exact⟨rfl,rfl⟩
 case bool=>subst h;exact⟨rfl,rfl⟩
 case str=>rw[h.1];exact⟨rfl,rfl⟩
 case slice=>obtain⟨⟨a,cap,J,_⟩,_⟩:=h;subst J;exact⟨rfl,rfl⟩
 case ptr=>obtain⟨b,_,J⟩:=h;subst J;exact⟨rfl,rfl⟩
 case eptr=>obtain⟨b,o,u,J,_⟩:=h;subst J;exact⟨rfl,rfl⟩
 case iface=>obtain⟨u,J,_⟩:=h;subst J;exact⟨rfl,rfl⟩
 case nilp=>subst h;exact⟨rfl,rfl⟩
 case func=>obtain⟨us,J,_⟩:=h;subst J;exact⟨rfl,rfl⟩
 case gmap=>obtain⟨b,_,J⟩:=h;subst J;exact⟨rfl,rfl⟩
 case row=>obtain⟨⟨a,cap,J⟩,_⟩:=h;subst J;exact⟨rfl,rfl⟩
 case rptr=>obtain⟨⟨a,o,J⟩,_⟩:=h;subst J;exact⟨rfl,rfl⟩
theorem vW{w:World}{ν:be}{p:ak}{v:Value}(h:bc w ν p v)(ag:eR p=true):dr w ν (cells p) v.cells.toList:=by
 by_cases bm:∃cs,p= .agg cs
 ·obtain⟨cs,rfl⟩:=bm;simp only[bc]at h;obtain⟨us,rfl,U⟩:=h;simpa[cells,pS]using U
 ·have nO:∀cs,p≠ .agg cs:=fun cs e=>bm ⟨cs,e⟩;obtain⟨J,U⟩:=OP h ag nO;have ar:cells p=[p]:=by cases p<;>first|rfl|exact absurd rfl (nO _)
  rw[ar,U];simp only[dr];exact⟨v,[],rfl,⟨h,J⟩,rfl⟩
theorem BT{w:World}{ν:be}:∀{cE:List ak} {a7:List Value},dr w ν cE a7->∀c∈a7,c.oneCell'=true
 |[],a7,h=>by simp only[dr]at h;subst h;simp
 |p::cE,a7,h=>by
  simp only[dr]at h;obtain⟨u,ck,rfl,J,U⟩:=h;intro c ar;rcases e7.1 ar with rfl|ar
  ·exact J.2
  ·exact BT U c ar
theorem qu{w:World}{ν:be}:∀{cE:List ak} {a7:List Value},dr w ν cE a7->a7.length=cE.length
 |[],a7,h=>by simp only[dr]at h;subst h;rfl
 |p::cE,a7,h=>by simp only[dr]at h;obtain⟨u,ck,rfl,_,U⟩:=h;simp[qu U]
theorem BS{w:World}{ν:be}:∀(n:Nat) {cE:List ak} {a7:List Value},dr w ν cE a7->dr w ν (cE.drop n) (a7.drop n)
 |0,_,_,h=>by simpa using h
 |n+1,[],a7,h=>by simp only[dr]at h;subst h;simp[dr]
 |n+1,p::cE,a7,h=>by simp only[dr]at h;obtain⟨u,ck,rfl,_,U⟩:=h;simpa using BS n U
theorem EN{w:World}{ν:be}:∀(n:Nat) {cE:List ak} {a7:List Value},dr w ν cE a7->dr w ν (cE.take n) (a7.take n)
 |0,_,_,_=>by simp[dr]
 |n+1,[],a7,h=>by simp only[dr]at h;subst h;simp[dr]
 |n+1,p::cE,a7,h=>by simp only[dr]at h;obtain⟨u,ck,rfl,J,U⟩:=h;simp only[List.take_succ_cons,dr];exact⟨u,_,rfl,J,EN n U⟩
theorem zj{w:World}{ν:be}:∀{cE bu:List ak} {a7 us:List Value},dr w ν cE a7->dr w ν bu us->dr w ν (cE++bu) (a7++us)
 |[],bu,a7,us,h,cd=>by simp only[dr]at h;subst h;simpa using cd
 |p::cE,bu,a7,us,h,cd=>by simp only[dr]at h;obtain⟨u,ck,rfl,J,U⟩:=h;simp only[bZ,dr];exact⟨u,_,rfl,J,zj U cd⟩
theorem EM{w:World}{ν:be}:∀(n:Nat) {cE:List ak} {a7:List Value} {p:ak},dr w ν cE a7->cE[n]? =some p->∃v,a7[n]? =some v/\bc w ν p v/\v.oneCell'=true
 |n,[],_,p,_,bD=>by simp at bD
 |0,q::cE,a7,p,h,bD=>by simp only[dr]at h;obtain⟨u,ck,rfl,J,_⟩:=h;simp at bD;subst bD;exact⟨u,rfl,J.1,J.2⟩
 |n+1,q::cE,a7,p,h,bD=>by simp only[dr]at h;obtain⟨u,ck,rfl,_,U⟩:=h;simpa using EM n U (by simpa using bD)
theorem EP{w:World}{ν:be}:∀(n:Nat) {cE:List ak} {a7:List Value} {p:ak},cT w ν cE a7->cE[n]? =some p->∃v,a7[n]? =some v/\bc w ν p v
 |n,[],_,p,_,bD=>by simp at bD
 |0,q::cE,a7,p,h,bD=>by simp only[cT]at h;obtain⟨u,ck,rfl,J,_⟩:=h;simp at bD;subst bD;exact⟨u,rfl,J⟩
 |n+1,q::cE,a7,p,h,bD=>by simp only[cT]at h;obtain⟨u,ck,rfl,_,U⟩:=h;simpa using EP n U (by simpa using bD)
theorem vG{w:World}{A:Nat->Nat->Prop}{b:Nat}:∀{us:List Value} {off j:Nat} {u:Value},mj w A b off us->us[j]? =some u->A b (off+j)/\w.cell? ⟨b,off+j,none⟩=some u
 |[],_,_,_,_,h=>by simp at h
 |x::us,off,0,u,av,h=>by simp at h;subst h;exact av.1
 |x::us,off,j+1,u,av,h=>by have:=vG (j:=j) av.2 (by simpa using h);rwa[show off+1+j=off+(j+1)from by omega]at this
theorem HR{w:World}{A:Nat->Nat->Prop}{b:Nat}:∀(n:Nat) {us:List Value} {off:Nat},mj w A b off us->mj w A b (off+n) (us.drop n)
 |0,_,_,h=>by simpa using h
 |n+1,[],_,_=>by simp[mj]
 |n+1,x::us,off,h=>by have:=HR n h.2;rw[show off+(n+1)=off+1+n from by omega];simpa using this
theorem HT{w:World}{A:Nat->Nat->Prop}{b:Nat}:∀(n:Nat) {us:List Value} {off:Nat},mj w A b off us->mj w A b off (us.take n)
 |0,_,_,_=>by simp[mj]
 |n+1,[],_,_=>by simp[mj]
 |n+1,x::us,off,h=>by simp only[List.take_succ_cons];exact⟨h.1,HT n h.2⟩
theorem aoC{P:cJ}{w:World}{A:Nat->Nat->Prop}{b off:Nat}{us:List Value}(h:mj w A b off us):(loadCells ⟨b,off,none⟩ us.length).run P w= .ok us.toArray w:=run_loadCells_list w _ us fun j v af=>by rw[p0];exact(vG h af).2
theorem aoB{P:cJ}{w:World}{b off n:Nat}{us:Array Value}{el:ha}{fr:Nat×Nat}(h:w.heap[b]? =some (.cells us el fr))(au:off+n<=us.size):
  (loadCells ⟨b,off,none⟩ n).run P w= .ok ((us.toList.drop off).take n).toArray w:=by
 have av:((us.toList.drop off).take n).length=n:=by simp;omega
 have:=run_loadCells_list (P:=P) w ⟨b,off,none⟩ ((us.toList.drop off).take n) fun j v af=>by
  rw[p0];have aia:j<n:=by have:=(eS.1 af).1;omega
  simp only[World.cell?,h,jG,gZ,if_false];rw[List.getElem?_take]at af;simpa[aia]using af
 rw[av]at this;exact this
theorem Tl{α:Type}(l r:List α)(n sz:Nat)(h:l.length=sz):(l++r).drop ((n+1)*sz)=r.drop (n*sz):=by
 have e:(n+1)*sz=l.length+n*sz:=by rw[h,Nat.succ_mul,Nat.add_comm]
 rw[e,<-List.drop_drop];simp
theorem ZX{α:Type}(l r:List α)(n sz:Nat)(h:l.length=sz):(l++r).take ((n+1)*sz)=l++r.take (n*sz):=by
 have e:(n+1)*sz=l.length+n*sz:=by rw[h,Nat.succ_mul,Nat.add_comm]
 rw[e,List.take_length_add_append]
theorem IU{w:World}{ν:be}{sz:Nat}:∀(i:Nat) {xs:List ak} {us:List Value} {p:ak},dD w ν sz xs us->xs[i]? =some p->
  ∃u,bc w ν p u/\u.cells.size=sz/\u.cells.toList=(us.drop (i*sz)).take sz
 |i,[],_,p,_,bD=>by simp at bD
 |0,x::xs,us,p,h,bD=>by
  simp only[dD]at h;obtain⟨u,ck,rfl,⟨J,U,ao⟩,_⟩:=h;simp at bD;subst bD;refine⟨u,J,U,?_⟩;have:u.cells.toList.length=sz:=by simpa using U
  simp[<-this]
 |i+1,x::xs,us,p,h,bD=>by
  simp only[dD]at h;obtain⟨u,ck,rfl,⟨_,U,_⟩,b7⟩:=h;obtain⟨v,g1,g2,g3⟩:=IU i b7 (by simpa using bD);refine⟨v,g1,g2,?_⟩;have:u.cells.toList.length=sz:=by simpa using U
  rw[g3,Tl _ _ _ _ this]
theorem uE{w:World}{ν:be}{sz:Nat}:∀{xs:List ak} {us:List Value},dD w ν sz xs us->us.length=xs.length*sz
 |[],us,h=>by simp only[dD]at h;subst h;simp
 |x::xs,us,h=>by
  simp only[dD]at h;obtain⟨u,ck,rfl,⟨_,U,_⟩,b7⟩:=h;have:u.cells.toList.length=sz:=by simpa using U
  rw[o0,this,uE b7,oj,Nat.succ_mul];omega
theorem zi{w:World}{ν:be}{sz:Nat}:∀{xs:List ak} {us:List Value},dD w ν sz xs us->∀c∈us,c.oneCell'=true
 |[],us,h=>by simp only[dD]at h;subst h;simp
 |x::xs,us,h=>by
  simp only[dD]at h;obtain⟨u,ck,rfl,⟨_,_,ao⟩,b7⟩:=h;intro c ar;rcases iz.1 ar with ar|ar
  ·exact ao c ar
  ·exact zi b7 c ar
theorem EL{w:World}{ν:be}{sz:Nat}:∀{cE bu:List ak} {a7 us:List Value},dD w ν sz cE a7->dD w ν sz bu us->dD w ν sz (cE++bu) (a7++us)
 |[],bu,a7,us,h,cd=>by simp only[dD]at h;subst h;simpa using cd
 |p::cE,bu,a7,us,h,cd=>by simp only[dD]at h;obtain⟨u,ck,rfl,J,U⟩:=h;simp only[bZ,dD];exact⟨u,ck++us,Ψ,J,EL U cd⟩
theorem Zn{w:World}{ν:be}{sz:Nat}:∀(n:Nat) {xs:List ak} {us:List Value},dD w ν sz xs us->dD w ν sz (xs.drop n) (us.drop (n*sz))
 |0,_,_,h=>by simpa using h
 |n+1,[],us,h=>by simp only[dD]at h;subst h;simp[dD]
 |n+1,x::xs,us,h=>by
  simp only[dD]at h;obtain⟨u,ck,rfl,⟨_,U,_⟩,b7⟩:=h;have:u.cells.toList.length=sz:=by simpa using U
  rw[Tl _ _ _ _ this];simpa using Zn n b7
theorem Zq{w:World}{ν:be}{sz:Nat}:∀(n:Nat) {xs:List ak} {us:List Value},dD w ν sz xs us->dD w ν sz (xs.take n) (us.take (n*sz))
 |0,_,_,_=>by simp[dD]
 |n+1,[],us,h=>by simp only[dD]at h;subst h;simp[dD]
 |n+1,x::xs,us,h=>by
  simp only[dD]at h;obtain⟨u,ck,rfl,⟨J,U,ao⟩,b7⟩:=h;have:u.cells.toList.length=sz:=by simpa using U
  simp only[List.take_succ_cons,dD];refine⟨u,ck.take (n*sz),?_,⟨J,U,ao⟩,Zq n b7⟩;rw[ZX _ _ _ _ this]
def isAgg(sz:Nat)(p:ak):Prop:= ∃cs,p= .agg cs/\cs.length=sz
def zn(agg:Bool)(sz dH n i f:Nat):Option fQ->Option (Prop×ak)
 |some ⟨n',_,jE,some xs⟩=>if n'=n/\jE=dH then
   (match xs[i]? with
    |some p=>if agg then some (eR p=true/\f+sz<=(cells p).length,.agg (((cells p).drop f).take sz))else((cells p)[f]?).map fun q=>(eR p=true,q)
    |none=>none)else none
 |_=>none
def nx(b:List (aM×List ak))(e:List (aM×fQ))(agg:Bool)(sz:Nat):ak->Option (Prop×ak)
 | .rptr dH k n i f=>zn agg sz dH n i f (look k e)
 | .ptr k off=>
  match look k b with
  |some cs=>if agg then some (ie cs=true/\off+sz<=cs.length,.agg ((cs.drop off).take sz))else(cs[off]?).map fun p=>(ie cs=true,p)
  |none=>none
 | .eptr p=>if agg then some (isAgg sz p,p)else some (eR p=true/\cells p=[p],p)
 |_=>none
def C1(agg:Bool)(sz:Nat):ak->Option (Prop×ak)
 | .eptr p=>if agg then some (isAgg sz p,p)else some (eR p=true/\cells p=[p],p)
 |_=>none
theorem agp{b:List (aM×List ak)}{e:List (aM×fQ)}{agg:Bool}{sz:Nat}{p:ak}{r:Prop×ak}(h:C1 agg sz p=some r):nx b e agg sz p=some r:=by
 cases p<;>simp only[C1]at h<;>first|cases h;done|skip
 simpa only[nx]using h
theorem akp{b:List (aM×List ak)}{e:List (aM×fQ)}{agg:Bool}{sz:Nat}{p:ak}{r:Prop×ak}(h:nx b [] agg sz p=some r):nx b e agg sz p=some r:=by cases p<;>simp only[nx]at h⊢ <;>first|exact h|(simp[look,zn]at h)
def rs(off:Nat)(agg:Bool)(sz:Nat):ak->Option (Prop×ak)
 | .ptr k o=>some (True,.ptr k (o+off))
 | .rptr dH k n i f=>some (True,.rptr dH k n i (f+off))
 | .eptr (.agg cs)=>if agg then some (off+sz<=cs.length,.eptr (.agg ((cs.drop off).take sz)))else(cs[off]?).map fun p=>(eR p=true/\cells p=[p],.eptr p)
 |_=>none
def vd(off:Nat)(agg:Bool)(sz:Nat):ak->Option (Prop×ak)
 | .agg cs=>if agg then some (off+sz<=cs.length,.agg ((cs.drop off).take sz))else(cs[off]?).map fun p=>(True,p)
 |_=>none
def A4(sz:Nat):ak->ak->Option (Prop×ak)
 | .slice dH _ xs,.int _ i=>if dH=sz then some (0<=i/\i<xs.length,.eptr (xs.getD i.toNat .junk))else none
 | .row dH k n,.int _ i=>if dH=sz then some (0<=i/\i<n,.rptr dH k n i.toNat 0)else none
 |_,_=>none
def Jg:ak->ak->Option (Prop×ak)
 | .str s,.int _ i=>some (0<=i/\i<s.length,.int .u8 (s.getD i.toNat 0).toNat)
 |_,_=>none
def rO(Gr:Int):Option ak->Option Int
 |none=>some Gr
 |some (.int _ i)=>some i
 |_=>none
def Jl(x:ak)(lo hi:Option ak):Option (Prop×ak):=
 match x with
 | .str s=>match rO 0 lo,rO s.length hi with
  |some l,some h=>some (0<=l/\l<=h/\h<=s.length,.str ((s.take h.toNat).drop l.toNat))
  |_,_=>none
 |_=>none
def HY(sz:Nat)(x:ak)(lo hi:Option ak):Option (Prop×ak):=
 match x with
 | .slice dH _ xs=>if dH=sz then match rO 0 lo,rO xs.length hi with
  |some l,some h=>some (0<=l/\l<=h/\h<=xs.length,.slice sz .no ((xs.take h.toNat).drop l.toNat))
  |_,_=>none else none
 |_=>none
def pE(n:Int):Prop:= -9223372036854775808<=n/\n<=9223372036854775807
def bX(op:BinOp)(wr:Bool)(k:IntKind)(a b:Int):Option (Prop×ak):=
 match op with
 | .add=>if wr then some (True,.int k (k.wrap (a+b)))else some (k= .i64/\pE (a+b),.int .i64 (a+b))
 | .sub=>if wr then some (True,.int k (k.wrap (a-b)))else some (k= .i64/\pE (a-b),.int .i64 (a-b))
 | .mul=>if wr then some (True,.int k (k.wrap (a*b)))else some (k= .i64/\pE (a*b),.int .i64 (a*b))
 | .quo=>some (b≠0,.int k (k.wrap (a.tdiv b)))
 | .rem=>some (b≠0,.int k (a.tmod b))
 | .eql=>some (True,.bool (a==b))
 | .neq=>some (True,.bool (a !=b))
 | .lss=>some (True,.bool (decide (a<b)))
 | .leq=>some (True,.bool (decide (a<=b)))
 | .gtr=>some (True,.bool (decide (b<a)))
 | .geq=>some (True,.bool (decide (b<=a)))
 | .and=>some (True,.int k (k.wrap (mr k.bits a&&& mr k.bits b).toNat))
 | .or=>some (True,.int k (k.wrap (mr k.bits a|||mr k.bits b).toNat))
 | .xor=>some (True,.int k (k.wrap (mr k.bits a ^^^ mr k.bits b).toNat))
 |_=>none
def Jm(op:BinOp)(a b:List c0):Option (Prop×ak):=
 match op with
 | .add=>some (a.length+b.length<=lim,.str (a++b))
 | .eql=>some (True,.bool (a==b))
 | .neq=>some (True,.bool (!(a==b)))
 | .lss=>some (True,.bool (hL a b))
 | .leq=>some (True,.bool (hL a b||a==b))
 | .gtr=>some (True,.bool (!(hL a b||a==b)))
 | .geq=>some (True,.bool (!hL a b))
 |_=>none
def bJ(op:BinOp)(wr:Bool):ak->ak->Option (Prop×ak)
 | .int k a,.int bH b=>match op with
  | .shl=>some (0<=b,.int k (k.wrap (a*2 ^ (min b.toNat k.bits))))
  | .shr=>some (0<=b,.int k (a.fdiv (2 ^ (min b.toNat k.bits))))
  |_=>if k=bH then bX op wr k a b else none
 | .str a,.str b=>Jm op a b
 |_,_=>none
def oQ(cs:List ak)(off:Nat)(cE:List ak):List ak:=cs.take off++cE++cs.drop (off+cE.length)
def u5(t:List (Nat×ak)):List ak->List (Nat×Nat×dw)->Option (Prop×List ak)
 |cs,[]=>some (True,cs)
 |cs,(off,sz,x)::r=>
  let p:=cy t x
  match u5 t (oQ cs off (cells p)) r with
  |some (c,cs')=>some ((eR p=true/\(cells p).length=sz/\off+sz<=cs.length)/\c,cs')
  |none=>none
def Il(c x y:ak):Option (Prop×ak):=
 match c with
 | .bool b=>match x,y with
  | .bool u,.bool v=>some (True,.bool (cond b u v))
  |p,q=>match b with
   |true=>some (True,p)
   |false=>some (True,q)
 |_=>none
def Ib:ak->Option (Prop×ak)
 | .bool b=>some (True,.bool (!b))
 |_=>none
def H8:ak->Option (Prop×ak)
 | .int k n=>some (True,.int k (k.wrap (0-n)))
 |_=>none
def Ai(i:Nat):ak->Option (Prop×ak)
 | .tuple a7=>(a7[i]?).map fun p=>(True,p)
 |_=>none
def Be:ak->Option (Prop×ak)
 | .slice _ _ xs=>some (True,.int .i64 xs.length)
 | .row _ _ n=>some (True,.int .i64 n)
 | .cst (.slice _ n _)=>some (True,.int .i64 n)
 |_=>none
def E4:ak->Option (Prop×ak)
 | .str s=>some (True,.int .i64 s.length)
 | .cst (.string s)=>some (True,.int .i64 s.size)
 |_=>none
def Gm(k:IntKind):ak->Option (Prop×ak)
 | .int _ n=>some (True,.int k (k.wrap n))
 |_=>none
def Bq:ak->Option (Prop×ak)
 | .ptr k o=>some (True,.ptr k o)
 | .eptr p=>some (True,.eptr p)
 | .func f cs=>some (True,.func f cs)
 |_=>none
def H7:ak->ak->Option (Prop×ak)
 | .int k a,.int bH b=>if k=bH then some (True,.int k (if b<a then b else a))else none
 |_,_=>none
def kv:List Bool->List ak->List ak->Option Bool
 |[],[],[]=>some true
 |false::r,.int k a::as,.int bH b::e0=>if k=bH then(kv r as e0).map fun q=>(a==b)&&q else none
 |true::r,.str a::as,.str b::e0=>(kv r as e0).map fun q=>(a==b)&&q
 |_,_,_=>none
inductive jW where
 |i
 |s
 |a (dU:List Bool)
 deriving DecidableEq
def uo:jW->ak->ak->Option Bool
 | .i,.int k a,.int bH b=>if k=bH then some (a==b)else none
 | .s,.str a,.str b=>some (a==b)
 | .a dU,.agg as,.agg e0=>kv dU as e0
 |_,_,_=>none
def w7:jW->ak->Bool
 | .a dU,.agg as=>(kv dU as as).isSome
 | .a _,_=>false
 |_,_=>true
@[simp]theorem Wv(k:ak):w7 .i k=true:=by cases k<;>rfl
def xf(ch:jW)(k:ak):List ak->Option (Option ak)
 |bH::v::r=>match uo ch k bH with
  |some true=>some (some v)
  |some false=>xf ch k r
  |none=>none
 |_=>some none
def oM(b:aM->Option (List ak))(ch:jW)(zero:ak)(ok:Bool)(x k:ak):Option (Prop×ak):=
 match x with
 | .gmap key=>match b key with
  |some (.hdm _ _::kvs)=>if w7 ch k=false then none else match xf ch k kvs with
   |some (some v)=>some (True,if ok then .tuple [v,.bool true]else v)
   |some none=>some (True,if ok then .tuple [zero,.bool false]else zero)
   |none=>none
  |_=>none
 |_=>none
def Bp(b:aM->Option (List ak))(x:ak):Option (Prop×ak):=
 match x with
 | .gmap key=>match b key with
  |some (.hdm _ borns::_)=>some (True,.int .i64 borns.length)
  |_=>none
 |_=>none
def iO(neg:Bool):Option (List Bool)->ak->ak->Option (Prop×ak)
 |none,.bool a,.bool b=>some (True,.bool (if neg then a !=b else a==b))
 |some dU,.agg as,.agg e0=>(kv dU as e0).map fun q=>(True,.bool (if neg then !q else q))
 |_,_,_=>none
def H3:ak->ak->Option (Prop×ak)
 | .int k a,.int bH b=>if k=bH then some (True,.int k (if a<b then b else a))else none
 |_,_=>none
def vL(ch:jW)(k v:ak):List ak->Option (Option (List ak))
 |bH::v'::r=>match uo ch k bH with
  |some true=>some (some (k::v::r))
  |some false=>match vL ch k v r with
   |some (some eQ)=>some (some (bH::v'::eQ))
   |some none=>some none
   |none=>none
  |none=>none
 |_=>some none
def ny(n:Nat):List Nat->List ak->Option ak
 |b::e0,k::v::r=>if b=n then some (.tuple [k,v])else ny n e0 r
 |_,_=>none
def qm(b:aM->Option (List ak))(x:ak):Option (Prop×ak):=
 match x with
 | .ptr fv 0=>match b fv with
  |some [.hdi _ seen last,.gmap mk]=>match b mk with
   |some (.hdm clock borns::kvs)=>match seen.getLast? with
    |some n=>(ny n borns kvs).map fun p=>(clock=last,p)
    |none=>none
   |_=>none
  |_=>none
 |_=>none
theorem Xd{f g:aM->Option (List ak)}(h:∀k,f k≠none->g k=f k){ch:jW}{zero:ak}{ok:Bool}{x k:ak}{r:Prop×ak}(he:oM f ch zero ok x k=some r):oM g ch zero ok x k=some r:=by
 unfold oM at he⊢;split at he
 ·rename_i key;cases aQ:f key with
  |none=>simp[aQ]at he
  |some cs=>rw[h key (by rw[aQ];simp),aQ];rw[aQ]at he;exact he
 ·cases he
theorem akW{f g:aM->Option (List ak)}(h:∀k,f k≠none->g k=f k){x:ak}{r:Prop×ak}(he:Bp f x=some r):Bp g x=some r:=by
 unfold Bp at he⊢;split at he
 ·rename_i key;cases aQ:f key with
  |none=>simp[aQ]at he
  |some cs=>rw[h key (by rw[aQ];simp),aQ];rw[aQ]at he;exact he
 ·cases he
theorem akB{f g:aM->Option (List ak)}(h:∀k,f k≠none->g k=f k){x:ak}{r:Prop×ak}(he:qm f x=some r):qm g x=some r:=by
 unfold qm at he⊢;split at he
 ·rename_i fv;cases aQ:f fv with
  |none=>simp[aQ]at he
  |some cs=>
   simp only[h fv (by rw[aQ];simp),aQ]at he⊢;split at he
   ·rename_i since seen last mk dn;cases vm:f mk with
    |none=>simp[vm]at he
    |some eU=>simp only[h mk (by rw[vm];simp),vm]at he⊢;exact he
   ·cases he
 ·cases he
inductive gg where
 |mov (x:dw)
 |pick (c x y:dw)
 |load (agg:Bool) (sz:Nat) (x:dw)
 |faddr (off:Nat) (agg:Bool) (sz:Nat) (x:dw)
 |fld (off:Nat) (agg:Bool) (sz:Nat) (x:dw)
 |iaddr (sz:Nat) (x i:dw)
 |sidx (x i:dw)
 |ssl (x:dw) (lo hi:Option dw)
 |lsl (sz:Nat) (x:dw) (lo hi:Option dw)
 |bin (op:BinOp) (wr:Bool) (x y:dw)
 |notB (x:dw)
 |neg (x:dw)
 |conv (k:IntKind) (x:dw)
 |ext (i:Nat) (x:dw)
 |len (x:dw)
 |slen (x:dw)
 |build (zero:List ak) (parts:List (Nat×Nat×dw))
 |nck (x:dw)
 |min2 (x y:dw)
 |mkf (n:Nat) (xs:List dw)
 |mget (ch:jW) (zero:ak) (ok:Bool) (x k:dw)
 |ment (x:dw)
 |mlen (x:dw)
 |beq (neg:Bool) (dU:Option (List Bool)) (x y:dw)
 |max2 (x y:dw)
 |mkif (t:Nat) (x:dw)
 |loadB (agg:Bool) (sz:Nat) (x:dw)
 |mgetB (ch:jW) (zero:ak) (ok:Bool) (x k:dw)
 |loadZ (agg:Bool) (sz:Nat) (x:dw)
def hD(st:br):gg->Option (Prop×ak)
 | .mov x=>some (True,cy st.t x)
 | .pick c x y=>Il (cy st.t c) (cy st.t x) (cy st.t y)
 | .load agg sz x=>nx st.b st.e agg sz (cy st.t x)
 | .faddr off agg sz x=>rs off agg sz (cy st.t x)
 | .fld off agg sz x=>vd off agg sz (cy st.t x)
 | .iaddr sz x i=>A4 sz (cy st.t x) (cy st.t i)
 | .sidx x i=>Jg (cy st.t x) (cy st.t i)
 | .ssl x lo hi=>Jl (cy st.t x) (lo.map (cy st.t)) (hi.map (cy st.t))
 | .lsl sz x lo hi=>HY sz (cy st.t x) (lo.map (cy st.t)) (hi.map (cy st.t))
 | .bin op wr x y=>bJ op wr (cy st.t x) (cy st.t y)
 | .notB x=>Ib (cy st.t x)
 | .neg x=>H8 (cy st.t x)
 | .conv k x=>Gm k (cy st.t x)
 | .ext i x=>Ai i (cy st.t x)
 | .len x=>Be (cy st.t x)
 | .slen x=>E4 (cy st.t x)
 | .build zero parts=>(u5 st.t zero parts).map fun(c,cs)=>(c,.agg cs)
 | .nck x=>Bq (cy st.t x)
 | .min2 x y=>H7 (cy st.t x) (cy st.t y)
 | .mkf n xs=>some (True,.func n (xs.map (cy st.t)))
 | .mget ch zero ok x k=>oM (fun k=>look k st.b) ch zero ok (cy st.t x) (cy st.t k)
 | .ment x=>qm (fun k=>look k st.b) (cy st.t x)
 | .mlen x=>Bp (fun k=>look k st.b) (cy st.t x)
 | .beq neg dU x y=>iO neg dU (cy st.t x) (cy st.t y)
 | .max2 x y=>H3 (cy st.t x) (cy st.t y)
 | .mkif t x=>some (True,.iface t (cy st.t x))
 | .loadB agg sz x=>nx st.b [] agg sz (cy st.t x)
 | .mgetB ch zero ok x k=>oM (fun k=>look k st.b) ch zero ok (cy st.t x) (cy st.t k)
 | .loadZ agg sz x=>C1 agg sz (cy st.t x)
def BD(bF:List (Nat×dB))(dU:List (Nat×Nat)):List (Nat×Nat×dw)->List (Nat×Operand)->Bool
 |[],[]=>true
 |(off,sz,x)::r,(i,o)::s=>(match dU[i]? with|some (xm,t)=>off==xm&&((ei bF t).map (·.size))==some sz|none=>false)&&er x o&&BD bF dU r s
 |_,_=>false
def JC:ak->ak->Bool
 | .int k n,.int bH n'=>decide (k=bH/\n=n')
 | .bool b,.bool b1=>b==b1
 | .str [],.str []=>true
 | .slice a .nil [],.slice b .nil []=>a==b
 | .nilp,.nilp=>true
 | .junk,.junk=>true
 |_,_=>false
def zH:List ak->List ak->Bool
 |[],[]=>true
 |c::cs,d::eU=>JC c d&&zH cs eU
 |_,_=>false
def Cm:ak->ak->Bool
 | .agg cs,.agg eU=>zH cs eU
 | .agg _,_=>false
 |p,q=>JC p q
def y9:List dw->List Operand->Bool
 |[],[]=>true
 |x::xs,o::os=>er x o&&y9 xs os
 |_,_=>false
def Aq(bF:List (Nat×dB)):Nat->List Bool->List (Nat×Nat)->Bool
 |_,[],[]=>true
 |n,b::r,(off,t)::dU=>off==n&&(match ei bF t with|some ⟨_,_,.int _,_⟩=> !b|some ⟨_,_,.str,_⟩=>b|_=>false)&&Aq bF (n+1) r dU
 |_,_,_=>false
def GC(bF:List (Nat×dB))(dU:List Bool)(t:Nat):Bool:=match ei bF t with
 |some ⟨_,_,.struct gs,_⟩=>Aq bF 0 dU gs
 |_=>false
def yP(bF:List (Nat×dB))(ch:jW)(t:Nat):Bool:=match ch with
 | .i=>(match ei bF t with|some ⟨_,_,.int _,_⟩=>true|_=>false)
 | .s=>(match ei bF t with|some ⟨_,_,.str,_⟩=>true|_=>false)
 | .a dU=>GC bF dU t
def P4:List ak->ak->Bool
 |cs,.agg eU=>zH cs eU
 |_,_=>false
def xp:Option dw->Option Operand->Bool
 |none,none=>true
 |some x,some o=>er x o
 |_,_=>false
def Ff(bF:List (Nat×dB)):gg->Op->Bool
 | .mov x,.move o=>er x o
 | .mov x,.assign o=>er x o
 | .pick c x y,.pick cq aa1 aa5=>er c cq&&er x aa1&&er y aa5
 | .load agg sz x,.load t o=>(match ei bF t with|some f=>f.size==sz&&f.kind.isAgg==agg|none=>false)&&er x o
 | .faddr off agg sz x,.fieldAddr s o i=>
  (match ei bF s with
   |some ⟨_,_,.struct dU,_⟩=>(match dU[i]? with|some (xm,t)=>off==xm&&(match ei bF t with|some f=>f.size==sz&&f.kind.isAgg==agg&&sz !=0|none=>false)|none=>false)
   |_=>false)&&er x o
 | .fld off agg sz x,.field s o i=>
  (match ei bF s with
   |some ⟨_,_,.struct dU,_⟩=>(match dU[i]? with|some (xm,t)=>off==xm&&(match ei bF t with|some f=>f.size==sz&&f.kind.isAgg==agg|none=>false)|none=>false)
   |_=>false)&&er x o
 | .iaddr sz x i,.indexAddr t o j=>(match ei bF t with|some ⟨_,_,.slice e,_⟩=>(match ei bF e with|some f=>f.size==sz|none=>false)|_=>false)&&er x o&&er i j
 | .sidx x i,.index t o j=>(match ei bF t with|some ⟨_,_,.str,_⟩=>true|_=>false)&&er x o&&er i j
 | .ssl x lo hi,.slice t o l h none=>(match ei bF t with|some ⟨_,_,.str,_⟩=>true|_=>false)&&er x o&&xp lo l&&xp hi h
 | .lsl sz x lo hi,.slice t o l h none=>(match ei bF t with|some ⟨_,_,.slice e,_⟩=>(match ei bF e with|some f=>f.size==sz|none=>false)|_=>false)&&er x o&&xp lo l&&xp hi h
 | .bin op _ x y,.binOp XW _ o o' _=>decide (op=XW)&&er x o&&er y o'
 | .notB x,.unOp op _ o=>decide (op= .not)&&er x o
 | .neg x,.unOp op _ o=>decide (op= .neg)&&er x o
 | .conv k x,.convert s d o=>(match ei bF s,ei bF d with|some ⟨_,_,.int _,_⟩,some ⟨_,_,.int bH,_⟩=>decide (k=bH)|_,_=>false)&&er x o
 | .ext i x,.extract o j=>i==j&&er x o
 | .len x,.call ⟨.builtin .len,⟨[o]⟩,⟨[t]⟩⟩=>(match ei bF t with|some ⟨_,_,.slice _,_⟩=>true|_=>false)&&er x o
 | .slen x,.call ⟨.builtin .len,⟨[o]⟩,⟨[t]⟩⟩=>(match ei bF t with|some ⟨_,_,.str,_⟩=>true|_=>false)&&er x o
 | .build zero parts,.build t cE=>(match ei bF t with|some ⟨_,_,.struct dU,z⟩=>P4 zero z&&(dU.all fun x=>(ei bF x.2).isSome)&&BD bF dU parts cE.toList|_=>false)
 | .nck x,.nilCheck o=>er x o
 | .min2 x y,.call ⟨.builtin .min,⟨[o,o']⟩,⟨[_,_]⟩⟩=>er x o&&er y o'
 | .mkf n xs,.makeFunc (.func m) ⟨[]⟩ os=>n==m&&y9 xs os.toList
 | .mget ch zero ok x k,.lookup t o o' Ic=>ok==Ic&&(match ei bF t with|some ⟨_,_,.map nv qa,_⟩=>yP bF ch nv&&(match ei bF qa with|some f=>Cm zero f.zero|none=>false)|_=>false)&&er x o&&er k o'
 | .ment x,.entry o=>er x o
 | .mlen x,.call ⟨.builtin .len,⟨[o]⟩,⟨[t]⟩⟩=>(match ei bF t with|some ⟨_,_,.map _ _,_⟩=>true|_=>false)&&er x o
 | .beq neg dU x y,.binOp op t o o' _=>decide (op=if neg then .neq else .eql)&&(match dU with|none=>(match ei bF t with|some ⟨_,_,.bool,_⟩=>true|_=>false)|some dU=>GC bF dU t)&&er x o&&er y o'
 | .max2 x y,.call ⟨.builtin .max,⟨[o,o']⟩,⟨[_,_]⟩⟩=>er x o&&er y o'
 | .mkif t x,.makeInterface dO o=>t==dO&&(match ei bF t with|some ⟨_,_,.slice _,_⟩=>true|_=>false)&&er x o
 | .loadB agg sz x,.load t o=>(match ei bF t with|some f=>f.size==sz&&f.kind.isAgg==agg|none=>false)&&er x o
 | .loadZ agg sz x,.load t o=>(match ei bF t with|some f=>f.size==sz&&f.kind.isAgg==agg|none=>false)&&er x o
 | .mgetB ch zero ok x k,.lookup t o o' Ic=>ok==Ic&&(match ei bF t with|some ⟨_,_,.map nv qa,_⟩=>yP bF ch nv&&(match ei bF qa with|some f=>Cm zero f.zero|none=>false)|_=>false)&&er x o&&er k o'
 |_,_=>false
end
section
open Go Go.RowKit
theorem KS(P:cJ)(w:World)(op:BinOp)(t:ha)(x y:Operand)(k bH:IntKind)(m n:Int):(eqGuard op t x y (.int k m) (.int bH n)).run P w= .ok () w:=by cases op<;>rfl
theorem adg(P:cJ)(w:World)(op:BinOp)(t:ha)(x y:Operand)(m n:ByteArray):(eqGuard op t x y (.string m) (.string n)).run P w= .ok () w:=by cases op<;>rfl
theorem apv(l:List c0):(⟨l.toArray⟩:ByteArray).toList=l:=by simp
theorem abO(a b:List c0):(⟨a.toArray⟩:ByteArray)++(⟨b.toArray⟩:ByteArray)=⟨(a++b).toArray⟩:=by apply aqW;simp
theorem aeb(a:List c0)(l h:Nat):(⟨a.toArray⟩:ByteArray).extract l h=⟨((a.take h).drop l).toArray⟩:=by apply aqW;simp[List.drop_take]
theorem E3(a:List c0):(⟨a.toArray⟩:ByteArray).size=a.length:=by simp[avd]
section
variable {P:cJ} {w:World} {r:Sem Value}
theorem sq{k:IntKind}{x:Int}(h:r.run P w= .ok (.int k x) w):∃v,r.run P w= .ok v w/\∀ν,bc w ν (.int k x) v:=⟨_,h,fun ν=>by simp[bc]⟩
theorem Up{x:Bool}(h:r.run P w= .ok (.bool x) w):∃v,r.run P w= .ok v w/\∀ν,bc w ν (.bool x) v:=⟨_,h,fun ν=>by simp[bc]⟩
end
theorem ajv(P:cJ)(w:World){op:BinOp}{wr:Bool}{k:IntKind}{a b:Int}{c:Prop}{p:ak}(he:bX op wr k a b=some (c,p))(ar:c)(t:ha):
  ∃v,(binOp op t (.int k a) (.int k b)).run P w= .ok v w/\∀ν,bc w ν p v:=by
 cases op<;>simp only[bX]at he;case add=>
  cases wr<;>simp only[if_true,gZ,if_false]at he<;>cases he
  ·obtain⟨rfl,h⟩:=ar;exact sq (by simp[binOp,Op.intArith,mT _ h])
  ·exact sq (by simp[binOp,Op.intArith])
 case sub=>
  cases wr<;>simp only[if_true,gZ,if_false]at he<;>cases he
  ·obtain⟨rfl,h⟩:=ar;exact sq (by simp[binOp,Op.intArith,mT _ h])
  ·exact sq (by simp[binOp,Op.intArith])
 case mul=>
  cases wr<;>simp only[if_true,gZ,if_false]at he<;>cases he
  ·obtain⟨rfl,h⟩:=ar;exact sq (by simp[binOp,Op.intArith,mT _ h])
  ·exact sq (by simp[binOp,Op.intArith])
 case quo=>cases he;exact sq (by simp[binOp,Op.intDiv,ar])
 case rem=>cases he;exact sq (by simp[binOp,Op.intDiv,ar])
 case and=>cases he;exact sq (by simp only[binOp,Op.intBits,ne_eq,not_true_eq_false,if_false,gF])
 case or=>cases he;exact sq (by simp only[binOp,Op.intBits,ne_eq,not_true_eq_false,if_false,gF])
 case xor=>cases he;exact sq (by simp only[binOp,Op.intBits,ne_eq,not_true_eq_false,if_false,gF])
 all_goals cases he
 all_goals exact Up (by simp only[binOp,Op.intCmp,ne_eq,not_true_eq_false,if_false,gF,gt_iff_lt,ge_iff_le])
theorem apg(P:cJ)(w:World){op:BinOp}{a b:List c0}{c:Prop}{p:ak}(he:Jm op a b=some (c,p))(ar:c)(t:ha):
  ∃v,(binOp op t (.string ⟨a.toArray⟩) (.string ⟨b.toArray⟩)).run P w= .ok v w/\∀ν,bc w ν p v:=by
 cases op<;>simp only[Jm]at he;case add=>
  cases he;refine⟨.string ⟨(a++b).toArray⟩,?_,fun ν=>by simp only[bc];exact⟨trivial,by simpa using ar⟩⟩;have J:¬(((⟨a.toArray⟩:ByteArray).size+(⟨b.toArray⟩:ByteArray).size:Nat):Int)>nD.max:=by
   have:nD.max=9223372036854775807:=by decide
   rw[this,E3,E3];simp only[lim]at ar;omega
  simp only[binOp,Op.stringOp,J,if_false,gF,abO]
 all_goals cases he
 all_goals exact Up (by simp only[binOp,Op.stringOp,apv,gF])
theorem ab5(P:cJ)(w:World)(ν:be){op:BinOp}{wr:Bool}{x y:ak}{c:Prop}{p:ak}(he:bJ op wr x y=some (c,p))(ar:c)(t:ha){u v:Value}(hu:bc w ν x u)(ay:bc w ν y v)(o o':Operand):
  ∃r,(do eqGuard op t o o' u v;binOp op t u v).run P w= .ok r w/\bc w ν p r:=by
 unfold bJ at he;split at he
 ·rename_i k a bH b;simp only[bc]at hu ay;subst hu;subst ay;split at he
  ·cases he;refine⟨_,?_,by simp[bc];rfl⟩;simp[binOp,Op.shift,KS,Int.not_lt.2 ar]
  ·cases he;refine⟨_,?_,by simp[bc];rfl⟩;simp[binOp,Op.shift,KS,Int.not_lt.2 ar]
  ·split at he
   ·rename_i ae;subst ae;obtain⟨r,J,U⟩:=ajv P w he ar t;exact⟨r,by simp[KS,J],U ν⟩
   ·cases he
 ·simp only[bc]at hu ay;rw[hu.1,ay.1];obtain⟨r,J,U⟩:=apg P w he ar t;exact⟨r,by simp[adg,J],U ν⟩
 ·cases he
theorem Lf{w:World}{ν:be}:∀(v:List Value) (i off:Nat) (cs:Array Value),off+i+v.length<=cs.size->
  ((v.zipIdx i).foldl (fun cs (x:Value×Nat)=>cs.setIfInBounds (off+x.2) x.1) cs).toList=cs.toList.take (off+i)++v++cs.toList.drop (off+i+v.length)
 |[],i,off,cs,_=>by simp
 |u::v,i,off,cs,h=>by
  simp only[List.zipIdx_cons,List.foldl_cons];rw[Lf (w:=w) (ν:=ν) v (i+1) off _ (by simp at h⊢;omega)];have bz:off+i<cs.toList.length:=by simp at h⊢;omega
  simp only[Array.toList_setIfInBounds];have aq:(cs.toList.set (off+i) u).take (off+(i+1))=cs.toList.take (off+i)++[u]:=by rw[show off+(i+1)=(off+i)+1 from by omega,List.take_succ_eq_append_getElem (by simpa using bz)];simp[List.take_set_of_le (eu _)]
  have aG:(cs.toList.set (off+i) u).drop (off+(i+1)+v.length)=cs.toList.drop (off+i+(u::v).length):=by rw[List.drop_set_of_lt Ω];congr 1;simp;omega
  rw[aq,aG];simp
theorem ZC{w:World}{ν:be}{C:fj}{st:br}{a:Act}(aK:cY C st a w ν){bF:List (Nat×dB)}{dU:List (Nat×Nat)}{uA:List (Nat×Nat)}
  (bD:∀(i off t sz:Nat),dU[i]? =some (off,t)->(ei bF t).map (·.size)=some sz->uA[i]? =some (off,sz)):
  ∀(parts:List (Nat×Nat×dw)) (cE:List (Nat×Operand)) (cs:List ak) (us:Array Value) (c:Prop) (cs':List ak),BD bF dU parts cE=true->dr w ν cs us.toList->u5 st.t cs parts=some (c,cs')->c->
  ∃ck:Array Value,Instr.fill (uA.toArray[·]?) us (cE.map fun(x:Nat×Operand)=>(x.1,a.eval x.2))=some ck/\dr w ν cs' ck.toList
 |[],[],cs,us,c,cs',_,h,he,ar=>by simp only[u5]at he;cases he;exact⟨us,by simp[Instr.fill],h⟩
 |[],_::_,_,_,_,_,eh,_,_,_=>by simp[BD]at eh
 |_::_,[],_,_,_,_,eh,_,_,_=>by simp[BD]at eh
 |(off,sz,x)::parts,(i,o)::cE,cs,us,c,cs',eh,h,he,ar=>by
  simp only[BD,cr]at eh;obtain⟨⟨J,U⟩,ao⟩:=eh;split at J
  ·rename_i xm t Dk;simp only[cr,dQ]at J;obtain⟨rfl,J⟩:=J;have uh:=bD i off t sz Dk J;simp only[u5]at he;split at he
   ·rename_i cq ar4 ab;cases he;obtain⟨⟨ag,av,hle⟩,hy⟩:=ar;have ad:=et aK U;have kR:=vW ad ag;have hlen:=qu kR;have pA:=qu h;have kW:(a.eval o).cells.size=sz:=by have:(a.eval o).cells.toList.length=(cells (cy st.t x)).length:=hlen;rw[av]at this;simpa using this
    have rH:us.size=cs.length:=by simpa using pA
    have yG:=Lf (w:=w) (ν:=ν) (a.eval o).cells.toList 0 off us (by simp[kW,rH];omega);have ma:dr w ν (oQ cs off (cells (cy st.t x))) ((((a.eval o).cells.toList.zipIdx 0).foldl (fun cs (x:Value×Nat)=>cs.setIfInBounds (off+x.2) x.1) us).toList):=by rw[yG];unfold oQ;refine zj (zj (EN off h) kR) ?_;rw[Nat.add_zero,hlen];exact BS _ h
    obtain⟨ck,g1,g2⟩:=ZC aK bD parts cE _ _ cq cs' ao ma ab hy;refine⟨ck,?_,g2⟩;simp only[ht,Instr.fill,List.getElem?_toArray,uh];rw[if_neg (by simp[kW,rH];omega)];rw[<-g1];simp only[List.getElem?_toArray];congr 1;rw[<-Array.foldl_toList];simp
   ·cases he
  ·cases J
end
section
open Go Go.RowKit
theorem wb{P:cJ}{bF:List (Nat×dB)}(aH:fM P bF=true){t:Nat}{f:dB}(aQ:ei bF t=some f)(w:World):
  (Go.isAgg t).run P w= .ok f.kind.isAgg w/\(sizeOf t).run P w= .ok f.size w:=by
 obtain⟨i,d,z,J,U,ao,a6,b7,dd,ed,ll⟩:=(wc aH aQ).ex;refine⟨?_,by simp[sizeOf,typeInfo,J,ao]⟩;simp only[Go.isAgg,fO,run_underlying U,fT];cases ae:f.kind<;>rw[ae]at b7<;>cases d<;>simp[kx]at b7<;>simp[Cs.isAgg]
theorem jl{P:cJ}{bF:List (Nat×dB)}(aH:fM P bF=true){t:Nat}{f:dB}(aQ:ei bF t=some f):∃d,P.underlying t=some d/\kx f.kind d=true:=by obtain⟨i,d,z,J,U,ao,a6,b7,dd,ed,ll⟩:=(wc aH aQ).ex;exact⟨d,U,b7⟩
theorem tL{e:Nat}{d:TypeDesc}(h:kx (.slice e) d=true):d= .slice e:=by cases d<;>simp[kx]at h;subst h;rfl
theorem Ac{d:TypeDesc}(h:kx .str d=true):d= .string:=by cases d<;>simp[kx]at h;rfl
theorem Gq{k:IntKind}{d:TypeDesc}(h:kx (.int k) d=true):d= .int k:=by cases d<;>simp[kx]at h;subst h;rfl
theorem KE{dU:List (Nat×Nat)}{d:TypeDesc}(h:kx (.struct dU) d=true):∃gs:Array Field,d= .struct gs/\gs.toList.map (fun f=>(f.offset,f.type))=dU:=by cases d<;>simp[kx]at h;rename_i gs;exact⟨gs,rfl,by simpa using h⟩
theorem IY{w:World}{ν:be}{cs:List ak}{us:List Value}(h:dr w ν cs us)(off sz:Nat):dr w ν ((cs.drop off).take sz) ((us.drop off).take sz):=EN sz (BS off h)
theorem X1{w:World}{base el sz n:Nat}{v:Value}{us:List Value}(h:w.ownsRow base el sz v n us){b:Nat}(ab:v.ownBlock=some b):∃cap,v= .slice (some ⟨b,0,none⟩) n cap:=by
 rcases h.2 with⟨rfl,_⟩|⟨g,cap,cur,rfl,_⟩
 ·simp[oZ]at ab
 ·simp[oZ]at ab;subst ab;exact⟨cap,rfl⟩
theorem Good.rowElem{pr:Nat->Prop}{w:World}{ν:be}{b:List (aM×List ak)}{e:List (aM×fQ)}(aX:Good pr w ν b e){k:aM}{n el sz:Nat}{xs:List ak}(ae:look k e=some ⟨n,el,sz,some xs⟩){i f:Nat}{u:Value}(ad:bc w ν (.rptr sz k n i f) u){p:ak}(bD:xs[i]? =some p):
  ∃(v:Value) (us:List Value) (gi:Nat),bc w ν p v/\v.cells.size=sz/\∃b o,u= .pointer (some ⟨b,o,none⟩)/\∀j c,v.cells.toList[f+j]? =some c->w.cell? ⟨b,o+j,none⟩=some c:=by
 simp only[bc]at ad;obtain⟨_,hi,n',fi,J,U,ao⟩:=ad;obtain⟨v,us,a1,bp,bV,cQ⟩:=aX.own k _ ae;rw[J]at a1;simp only[dE,jU]at a1;obtain⟨rfl,rfl⟩:=a1;obtain⟨bl,ab,rfl⟩:=ao rfl;obtain⟨cap,rfl⟩:=X1 bp ab;obtain⟨av,ma,_⟩:=cQ xs rfl;simp only at av ma;obtain⟨v,e1,fY,qs⟩:=IU i ma bD;refine⟨v,us,el,e1,fY,bl,_,rfl,fun j c af=>?_⟩;have bz:f+j<sz:=by have:=(eS.1 af).1;simp[fY]at this;exact this
 have hmul:i*sz+sz<=n'*sz:=by have:=pV sz (show i+1<=n' from hi);rwa[Nat.succ_mul]at this
 have ar:=bp.cellAt (i*sz+f+j) (by show _<n'*sz;omega);rw[ar];rw[qs,List.getElem?_take,if_pos bz,List.getElem?_drop]at af;rw[<-af];congr 1;omega
theorem HX{P:cJ}{bF:List (Nat×dB)}(aH:fM P bF=true){pr:Nat->Prop}{w:World}{ν:be}{b:List (aM×List ak)}{e:List (aM×fQ)}(aX:Good pr w ν b e){t:Nat}{f:dB}(aQ:ei bF t=some f)
  {x:ak} {u:Value} (ad:bc w ν x u) {c:Prop} {p:ak} (he:nx b e f.kind.isAgg f.size x=some (c,p)) (ar:c):∃v,(Instr.loadAt t u).run P w= .ok v w/\bc w ν p v:=by
 obtain⟨bm,ag⟩:=wb aH aQ w;generalize GS:f.kind.isAgg=gh at*;generalize ep:f.size=sz at*;unfold nx at he;split at he
 ·rename_i dH k n i tQ;unfold zn at he;split at he
  ·rename_i n' el jE xs ae;split at he
   ·rename_i au;obtain⟨rfl,rfl⟩:=au;split at he
    ·rename_i ank aiJ;obtain⟨PT,us,gi,g1,g2,nj⟩:=Good.rowElem aX ae ad aiJ;have iw:eR ank=true:=by
      cases gh
      ·simp only[gZ,if_false,gm]at he;obtain⟨q,_,he⟩:=he;cases he;exact ar
      ·simp only[if_true]at he;cases he;exact ar.1
     have dn:=vW g1 iw;cases gh
     ·simp only[gZ,if_false,gm]at he;obtain⟨q,bt,he⟩:=he;cases he;obtain⟨v,f1,f2,f3⟩:=EM tQ dn bt;refine⟨v,?_,f2⟩;obtain⟨b,o,rfl,nj⟩:=nj;have:=nj 0 v (by simpa using f1);simp only[Nat.add_zero]at this;simp[Instr.loadAt,Instr.sureAddr,loadVar,bm,this]
     ·simp only[if_true]at he;cases he;obtain⟨b,o,rfl,nj⟩:=nj;refine⟨.agg ((PT.cells.toList.drop tQ).take sz).toArray,?_,by simp only[bc];exact⟨_,rfl,by simpa using IY dn tQ sz⟩⟩;have av:=qu dn;have hlen:((PT.cells.toList.drop tQ).take sz).length=sz:=by simp only[List.length_take,tB];omega
      have iF:=run_loadCells_list (P:=P) w ⟨b,o,none⟩ ((PT.cells.toList.drop tQ).take sz) (fun j v af=>by
       rw[p0];refine nj j v ?_;rw[List.getElem?_take]at af;split at af
       ·simpa[List.getElem?_drop]using af
       ·cases af)
      rw[hlen]at iF;simp only[Instr.loadAt,Instr.sureAddr,loadVar,fO,gF,fT,bm,if_true,ag,iF]
    ·cases he
   ·cases he
  ·cases he
 ·rename_i k off;simp only[bc]at ad;obtain⟨bl,J,rfl⟩:=ad;split at he
  ·rename_i cs ae;obtain⟨iP,us,el,g1,g2,g3,g4,g5⟩:=aX.box k cs ae;rw[J]at g1;cases g1;have uh:ie cs=true:=by
    cases gh
    ·simp only[gZ,if_false,gm]at he;obtain⟨q,bt,he⟩:=he;cases he;exact ar
    ·simp only[if_true]at he;cases he;exact ar.1
   rw[vP uh]at g4;rw[vQ uh]at g5;have av:=qu g5;cases gh
   ·simp only[gZ,if_false,gm]at he;obtain⟨q,bt,he⟩:=he;cases he;obtain⟨v,f1,f2,f3⟩:=EM off g5 bt;refine⟨v,?_,f2⟩;have nj:w.cell? ⟨bl,off,none⟩=some v:=by simpa[World.cell?,g4]using f1
    simp[Instr.loadAt,Instr.sureAddr,loadVar,bm,nj]
   ·simp only[if_true]at he;cases he;replace ar:=ar.2;refine⟨_,?_,by simp only[bc];exact⟨_,rfl,by simpa using IY g5 off sz⟩⟩;simp only[Instr.loadAt,Instr.sureAddr,loadVar,fO,gF,fT,bm,if_true,ag];rw[aoB g4 (by simp at av;omega)];rfl
  ·cases he
 ·rename_i q;simp only[bc]at ad;obtain⟨bl,off,fi,rfl,U,ao⟩:=ad;cases gh
  ·simp only[gZ,if_false]at he;cases he;obtain⟨wG,pn⟩:=ar;obtain⟨g1,g2⟩:=OP U wG (fun cs e=>by subst e;have:=eP List.length pn;simp only[cells,oj,List.length_nil]at this;cases cs with
    |nil=>simp[cells]at pn
    |cons y ys=>simp only[cells,zK]at pn;obtain⟨aq,aG⟩:=pn;subst aG;have:=eP SizeOf.sizeOf aq;simp at this;omega)
   refine⟨fi,?_,U⟩;rw[g2]at ao;have nj:=ao.1.2;simp[Instr.loadAt,Instr.sureAddr,loadVar,bm,nj]
  ·simp only[if_true]at he;cases he;obtain⟨cs,rfl,hlen⟩:=ar;simp only[bc]at U;obtain⟨us,rfl,a6⟩:=U;refine⟨.agg us,?_,by simp only[bc];exact⟨us,rfl,a6⟩⟩;simp only[pS]at ao;have av:=qu a6;have:=aoC (P:=P) ao;rw[show us.toList.length=sz from by omega]at this;simp[Instr.loadAt,Instr.sureAddr,loadVar,bm,ag,this]
 ·cases he
theorem af9{P:cJ}{bF:List (Nat×dB)}(aH:fM P bF=true){w:World}{ν:be}{s i:Nat}{f:dB}{dU:List (Nat×Nat)}(aQ:ei bF s=some f)(ae:f.kind= .struct dU){off t:Nat}{g:dB}(hi:dU[i]? =some (off,t))(aX:ei bF t=some g)(bE:g.size≠0)
  {x:ak} {u:Value} (ad:bc w ν x u) {c:Prop} {p:ak} (he:rs off g.kind.isAgg g.size x=some (c,p)) (ar:c):∃v,(Instr.fieldAt s u i).run P w= .ok v w/\bc w ν p v:=by
 obtain⟨d,aF,eK⟩:=jl aH aQ;rw[ae]at eK;obtain⟨gs,rfl,kS⟩:=KE eK;have rD:∃fd:Field,gs[i]? =some fd/\fd.offset=off/\fd.type=t:=by rw[<-kS]at hi;simp only[q5,gm]at hi;obtain⟨fd,J,U⟩:=hi;simp only[jU]at U;exact⟨fd,by simpa using J,U.1,U.2⟩
 obtain⟨fd,G3,aw,pz⟩:=rD;obtain⟨bm,ag⟩:=wb aH aX w;have iF:∀b o,(Instr.fieldAt s (.pointer (some ⟨b,o,none⟩)) i).run P w= .ok (.pointer (some ⟨b,o+off,none⟩)) w:=by intro b o;simp[Instr.fieldAt,run_underlying aF,G3,Instr.sureAddr,fieldPlace,pz,ag,bE,p0,aw]
 unfold rs at he;split at he
 ·cases he;simp only[bc]at ad;obtain⟨b,J,rfl⟩:=ad;exact⟨_,iF _ _,by simp only[bc];exact⟨b,J,rfl⟩⟩
 ·cases he;simp only[bc]at ad;obtain⟨⟨b,o,rfl⟩,hi,n',fi,J,U,ao⟩:=ad;refine⟨_,iF _ _,?_⟩;simp only[bc];refine⟨⟨b,_,rfl⟩,hi,n',fi,J,U,fun e=>?_⟩;obtain⟨b1,aq,aG⟩:=ao e;simp only[avk,dE,Addr.mk.injEq,and_true]at aG;obtain⟨rfl,rfl⟩:=aG;exact⟨b,aq,by rw[Nat.add_assoc]⟩
 ·rename_i cs;simp only[bc]at ad;obtain⟨b,o,fi,rfl,⟨us,rfl,U⟩,ao⟩:=ad;refine⟨_,iF _ _,?_⟩;simp only[pS]at ao;split at he
  ·cases he;simp only[bc];exact⟨b,o+off,.agg ((us.toList.drop off).take g.size).toArray,rfl,⟨_,rfl,by simpa using IY U off g.size⟩,by simpa[pS]using HT g.size (HR off ao)⟩
  ·simp only[gm]at he;obtain⟨q,bt,he⟩:=he;cases he;obtain⟨v,f1,f2,f3⟩:=EM off U bt;simp only[bc];have aio:=vG ao f1;have ai9:v.cells= #[v]:=by cases v<;>first|rfl|cases f3
   exact⟨b,o+off,v,rfl,f2,by rw[ai9];exact⟨aio,trivial⟩⟩
 ·cases he
theorem agi{P:cJ}{bF:List (Nat×dB)}(aH:fM P bF=true){w:World}{ν:be}{s i:Nat}{f:dB}{dU:List (Nat×Nat)}(aQ:ei bF s=some f)(ae:f.kind= .struct dU){off t:Nat}{g:dB}(hi:dU[i]? =some (off,t))(aX:ei bF t=some g)
  {x:ak} {u:Value} (ad:bc w ν x u) {c:Prop} {p:ak} (he:vd off g.kind.isAgg g.size x=some (c,p)) (ar:c):∃v,(Instr.field s u i).run P w= .ok v w/\bc w ν p v:=by
 obtain⟨d,aF,eK⟩:=jl aH aQ;rw[ae]at eK;obtain⟨gs,rfl,kS⟩:=KE eK;have rD:∃fd:Field,gs[i]? =some fd/\fd.offset=off/\fd.type=t:=by rw[<-kS]at hi;simp only[q5,gm]at hi;obtain⟨fd,J,U⟩:=hi;simp only[jU]at U;exact⟨fd,by simpa using J,U.1,U.2⟩
 obtain⟨fd,G3,aw,pz⟩:=rD;obtain⟨bm,ag⟩:=wb aH aX w;unfold vd at he;split at he
 ·rename_i cs;simp only[bc]at ad;obtain⟨us,rfl,U⟩:=ad;generalize GS:g.kind.isAgg=gh at*;cases gh
  ·simp only[gZ,if_false,gm]at he;obtain⟨q,bt,he⟩:=he;cases he;obtain⟨v,f1,f2,f3⟩:=EM off U bt;have aec:us[off]? =some v:=by simpa using f1
   exact⟨v,by simp[Instr.field,run_underlying aF,G3,asAgg,part,pz,bm,aw,aec],f2⟩
  ·simp only[if_true]at he;cases he;refine⟨.agg (us.extract off (off+g.size)),by simp[Instr.field,run_underlying aF,G3,asAgg,part,pz,bm,aw,ag],?_⟩;simp only[bc];refine⟨_,rfl,?_⟩;have:=IY U off g.size;simpa[List.take_drop]using this
 ·cases he
theorem ajn{P:cJ}{bF:List (Nat×dB)}(aH:fM P bF=true){w:World}{ν:be}{t e:Nat}{f g:dB}(aQ:ei bF t=some f)(ae:f.kind= .slice e)(aX:ei bF e=some g)
  {x y:ak} {u v:Value} (ad:bc w ν x u) (aC:bc w ν y v) {c:Prop} {p:ak} (he:A4 g.size x y=some (c,p)) (ar:c):∃r,(Instr.indexAt t u v).run P w= .ok r w/\bc w ν p r:=by
 obtain⟨d,aF,eK⟩:=jl aH aQ;rw[ae]at eK;obtain rfl:=tL eK;obtain⟨bm,ag⟩:=wb aH aX w;unfold A4 at he;split at he
 ·rename_i dH tag xs k i;split at he
  ·rename_i ep;cases he;simp only[bc]at ad aC;subst aC;subst ep;obtain⟨⟨a,cap,rfl,J,U,ao⟩,_⟩:=ad;obtain⟨Dq,ln⟩:=ar;have jw:i.toNat<xs.length:=Ω
   rcases ao with rfl|⟨b,off,us,rfl,a6,b7⟩
   ·simp at jw
   ·have ad:xs[i.toNat]? =some xs[i.toNat]:=bY jw;obtain⟨w',e1,fY,qs⟩:=IU i.toNat b7 ad;refine⟨.pointer (some ⟨b,off+i.toNat*g.size,none⟩),?_,?_⟩
    ·simp only[Instr.indexAt,asIntOf,fO,gF,fT,run_underlying aF,Dq,ln,and_self,if_true,ag,p0]
    ·simp only[bc];refine⟨b,off+i.toNat*g.size,w',rfl,by simpa[List.getD,ad]using e1,?_⟩;rw[qs];exact HT g.size (HR _ a6)
  ·cases he
 ·rename_i dH k n kE i;split at he
  ·rename_i ep;cases he;simp only[bc]at ad aC;subst aC;subst ep;obtain⟨⟨b,cap,rfl⟩,U,n',fi,ao,a6,b7⟩:=ad;obtain⟨Dq,ln⟩:=ar;refine⟨.pointer (some ⟨b,0+i.toNat*g.size,none⟩),?_,?_⟩
   ·simp only[Instr.indexAt,asIntOf,fO,gF,fT,run_underlying aF,Dq,ln,and_self,if_true,ag,p0]
   ·simp only[bc];refine⟨⟨b,_,rfl⟩,Ω,n',fi,ao,a6,fun e=>⟨b,?_,Ψ⟩⟩;rw[<-b7 e];rfl
  ·cases he
 ·cases he
theorem Ih{C:fj}{st:br}{a:Act}{w:World}{ν:be}(h:cY C st a w ν){x:Option dw}{o:Option Operand}(ad:xp x o=true){Gr n:Int}(he:rO Gr (x.map (cy st.t))=some n):
  (o.map a.eval=none/\n=Gr)\/ ∃k,o.map a.eval=some (.int k n):=by
 cases x with
 |none=>cases o with
  |none=>simp[rO]at he;exact .inl ⟨rfl,he.symm⟩
  |some o=>simp[xp]at ad
 |some x=>cases o with
  |none=>simp[xp]at ad
  |some o=>
   simp only[xp]at ad
   have:=et h ad
   simp only[oq]at he⊢
   cases vl:cy st.t x<;>simp[vl,rO]at he
   rw[vl]at this
   simp only[bc]at this
   subst he
   exact .inr ⟨_,by rw[this]⟩
theorem aa7{c d:ak}(h:JC c d=true):c=d:=by unfold JC at h;split at h<;>simp_all
theorem P0:∀{cs eU:List ak},zH cs eU=true->cs=eU
 |[],[],_=>rfl
 |[],_::_,h=>by simp[zH]at h
 |_::_,[],h=>by simp[zH]at h
 |c::cs,d::eU,h=>by simp only[zH,cr]at h;rw[aa7 h.1,P0 h.2]
theorem aqU{cs:List ak}{z:ak}(h:P4 cs z=true):z= .agg cs:=by
 cases z<;>simp only[P4]at h;case agg eU=>rw[P0 h]
 all_goals cases h
theorem ahe(s:List c0)(n:Nat)(h:n<s.length):(⟨s.toArray⟩:ByteArray)[n]? =some (s.getD n 0):=by
 have ep:n<(⟨s.toArray⟩:ByteArray).size:=by rw[E3];exact h
 have e:(⟨s.toArray⟩:ByteArray)[n]? =some ((⟨s.toArray⟩:ByteArray)[n]'ep):=getElem?_pos (⟨s.toArray⟩:ByteArray) n ep;rw[e];congr 1;simp[List.getD,h];rfl
theorem Ji(P:cJ)(w:World)(k:IntKind)(i:Int)(y:Nat)(c:BoundsCode)(bE:0<=i)(J:i<=y):(Instr.sliceBound (.int k i) y c).run P w= .ok i.toNat w:=by simp[Instr.sliceBound,asIntOf,bE,J]
theorem QJ(P:cJ)(w:World)(ajO:Bool)(len cap:Nat)(lo hi:Option Value)(l h:Int)(wP:(lo=none/\l=0)\/ ∃k,lo=some (.int k l))(wL:(hi=none/\h=len)\/ ∃k,hi=some (.int k h))
  (bE:0<=l) (J:l<=h) (U:h<=len) (ar:len<=cap):(Instr.sliceBounds ajO len cap lo hi none).run P w= .ok (l.toNat,h.toNat,cap) w:=by
 rcases wP with⟨rfl,rfl⟩|⟨k,rfl⟩<;>rcases wL with⟨rfl,rfl⟩|⟨bH,rfl⟩
 ·simp[Instr.sliceBounds]
 ·simp[Instr.sliceBounds,Ji P w bH h cap _ Ω Ω]
 ·simp[Instr.sliceBounds,Ji P w k l len _ Ω Ω]
 ·simp[Instr.sliceBounds,Ji P w bH h cap _ Ω Ω,Ji P w k l h.toNat _ Ω Ω]
theorem X7{P:cJ}{bF:List (Nat×dB)}(aH:fM P bF=true):∀(gs:List Field),(gs.all fun f=>(ei bF f.type).isSome)=true->
  ∃uA:List (Nat×Nat),gs.mapM (fun f=>(P.info? f.type).map fun i=>(f.offset,i.size))=some uA/\
   ∀(i off t sz:Nat),(gs.map (fun f=>(f.offset,f.type)))[i]? =some (off,t)->(ei bF t).map (·.size)=some sz->uA[i]? =some (off,sz)
 |[],_=>⟨[],Ψ,Ψ⟩
 |f::gs,h=>by
  simp only[List.all_cons,cr]at h;obtain⟨uA,J,U⟩:=X7 aH gs h.2;obtain⟨g,aX⟩:=fE.1 h.1;obtain⟨i,d,z,aq,aG,bG,di,hx,h7,sd,se⟩:=(wc aH aX).ex;refine⟨(f.offset,g.size)::uA,by simp[List.mapM_cons,aq,bG,J],fun j off t sz af ep=>?_⟩;cases j with
  |zero=>simp only[ht,List.getElem?_cons_zero,dE,jU]at af⊢;obtain⟨rfl,rfl⟩:=af;rw[aX]at ep;simpa using ep
  |succ j=>simp only[ht,List.getElem?_cons_succ]at af⊢;exact U j off t sz af ep
theorem lV{P:cJ}{w:World}{x:Sem Value}{v:Value}(h:x.run P w= .ok v w):(do pure (Next.value (<-x)):Sem Next).run P w= .ok (.value v) w:=by simp[h]
theorem P3{p q:ak}(h:Cm p q=true):p=q:=by
 unfold Cm at h;split at h
 ·rw[P0 h]
 ·cases h
 ·exact aa7 h
theorem P2(w:World)(ν:be){p:ak}{v:Value}(h:zI p v=true):bc w ν p v/\dr w ν (cells p) v.cells.toList:=by
 by_cases bm:∃cs,p= .agg cs
 ·obtain⟨cs,rfl⟩:=bm;cases v<;>simp only[zI]at h;case agg us=>have:=P1 w ν _ _ h;exact⟨by simp only[bc];exact⟨us,rfl,this⟩,by simpa[cells,pS]using this⟩
  all_goals cases h
 ·have cd:zV p v=true/\v.oneCell'=true:=by cases p<;>simp only[zI,cr]at h<;>first|exact h|exact absurd ⟨_,rfl⟩ bm
  have aK:=Ka w ν cd.1;refine⟨aK,?_⟩;have ar:cells p=[p]:=by cases p<;>first|rfl|exact absurd ⟨_,rfl⟩ bm
  have ay:v.cells= #[v]:=by have:=cd.2;cases v<;>first|rfl|simp[Value.oneCell']at this
  rw[ar,ay];simp only[dr];exact⟨v,[],rfl,⟨aK,cd.2⟩,rfl⟩
theorem Pr{P:cJ}{bF:List (Nat×dB)}(aH:fM P bF=true){t:Nat}{f:dB}(aQ:ei bF t=some f)(w:World):∃z,(zeroValue t).run P w= .ok z w/\zI f.zero z=true/\z.cells.size=f.size:=by obtain⟨i,d,z,J,U,ao,a6,b7,dd,ed,ll⟩:=(wc aH aQ).ex;exact⟨z,by simp[zeroValue,typeInfo,J,dd],ed,ll⟩
theorem EO{C:fj}{st:br}{a:Act}{w:World}{ν:be}(h:cY C st a w ν):∀{xs:List dw} {os:List Operand},y9 xs os=true->cT w ν (xs.map (cy st.t)) (os.map a.eval)
 |[],[],_=>by simp[cT]
 |[],_::_,ae=>by simp[y9]at ae
 |_::_,[],ae=>by simp[y9]at ae
 |x::xs,o::os,ae=>by simp only[y9,cr]at ae;simp only[ht,cT];exact⟨_,_,rfl,et h ae.1,EO h ae.2⟩
theorem adj{P:cJ}{w:World}{t:ha}(aF:P.underlying t=some .bool)(d:Nat)(a b:Bool):(Op.equalIn (d+1) t (.bool a) (.bool b)).run P w= .ok (a==b) w:=by rw[Op.equalIn];simp only[fO,run_underlying aF,fT,gF]
theorem adk{P:cJ}{w:World}{t:ha}(aF:P.underlying t=some .bool)(a b:Bool):(Op.equal t (.bool a) (.bool b)).run P w= .ok (a==b) w:=adj aF _ a b
theorem Tp:∀{borns:List Nat} {kvs:List ak} {us:List Value},kvs.length=2*borns.length->us.length=kvs.length->(fG borns us).length=borns.length
 |[],_,us,_,_=>by simp[fG]
 |b1::e0,kvs,[],J,U=>by rw[J]at U;simp at U
 |b1::e0,kvs,[_],J,U=>by rw[J]at U;simp at U;omega
 |b1::e0,kvs,k::v::us,J,U=>by simp only[fG,oj];rw[Tp (kvs:=kvs.drop 2) (us:=us) (borns:=e0) (by simp at J⊢;omega) (by simp at J U⊢;omega)]
theorem Zv{w:World}{ν:be}:∀{cE:List ak} {a7:List Value},cT w ν cE a7->a7.length=cE.length
 |[],a7,h=>by simp only[cT]at h;subst h;rfl
 |p::cE,a7,h=>by simp only[cT]at h;obtain⟨u,ck,rfl,_,U⟩:=h;simp[Zv U]
theorem vZ{P:cJ}{w:World}{r:Nat}{o:Obj}(ab:w.heap[r]? =some o)(au:∀c e f,o≠ .cells c e f:=by simp):(getObj r).run P w= .ok o w:=by simp only[getObj,Sem.run,ab]
def q7(P:cJ):Nat->List Bool->List Field->Prop
 |_,[],[]=>True
 |n,b::r,f::gs=>(f.offset=n/\f.name≠ "_" /\(if b=true then P.underlying f.type=some .string else∃k,P.underlying f.type=some (.int k)))/\q7 P (n+1) r gs
 |_,_,_=>eB
theorem EB{P:cJ}{t:ha}{b:Bool}(h:if b=true then P.underlying t=some .string else∃k,P.underlying t=some (.int k)):P.plainKey t=true:=by
 cases b
 ·obtain⟨k,h⟩:=(by simpa using h:∃k,P.underlying t=some (.int k));simp[Program.plainKey,h]
 ·have h:P.underlying t=some .string:=by simpa using h
  simp[Program.plainKey,h]
theorem acg{P:cJ}{w:World}{ν:be}(d:Nat){X Y:Array Value}(dU:List Bool):∀(gs:List Field) (n:Nat) (as e0:List ak) (us a7:List Value) (q:Bool),q7 P n dU gs->X.toList.drop n=us->Y.toList.drop n=a7->dr w ν as us->dr w ν e0 a7->kv dU as e0=some q->
  (Op.eqFields (d+1) X Y gs).run P w= .ok q w/\(q=true->us=a7)/\∀m,(us.zip us).all (fun(x,y)=>Instr.sameBits m x y)=true:=by
 induction dU with
 |nil=>intro gs n as e0 us a7 q aX Da Db J U h;cases as<;>cases e0<;>simp only[kv,dE,reduceCtorEq]at h;cases gs<;>simp only[q7]at aX;simp only[dr]at J U;rw[J,U,<-h];exact⟨by simp[Op.eqFields],fun _=>rfl,fun m=>rfl⟩
 |cons yd r bR=>
  intro gs n as e0 us a7 q aX Da Db J U h;cases gs with
  |nil=>simp only[q7]at aX
  |cons f gs=>
  simp only[q7]at aX;obtain⟨⟨Hc,AP,pz⟩,aX⟩:=aX;cases as with
  |nil=>cases yd<;>cases e0<;>simp[kv]at h
  |cons Ez as=>
  cases e0 with
  |nil=>cases yd<;>cases Ez<;>simp[kv]at h
  |cons Ik e0=>
  cases yd with
  |false=>
   have ar:∃k a b fX,Ez= .int k a/\Ik= .int k b/\kv r as e0=some fX/\q=((a==b)&&fX):=by
    cases Ez<;>first|(simp[kv]at h;done)|skip
    cases Ik<;>first|(simp[kv]at h;done)|skip
    simp only[kv]at h;split at h
    ·rename_i ae;subst ae;simp only[gm]at h;obtain⟨fX,ao,a6⟩:=h;exact⟨_,_,_,fX,rfl,rfl,ao,a6.symm⟩
    ·cases h
   obtain⟨k,a,b,fX,rfl,rfl,ao,rfl⟩:=ar;simp only[dr,bc]at J U;obtain⟨u,ck,rfl,⟨rfl,_⟩,J⟩:=J;obtain⟨v,vs',rfl,⟨rfl,_⟩,U⟩:=U;have Ey:X[n]? =some (.int k a):=by rw[<-uO,<-List.head?_drop,Da];rfl
   have N0:Y[n]? =some (.int k b):=by rw[<-uO,<-List.head?_drop,Db];rfl
   obtain⟨i1,i2,i3⟩:=bR gs (n+1) as e0 ck vs' fX aX (by rw[<-List.tail_drop,Da];rfl) (by rw[<-List.tail_drop,Db];rfl) J U ao;obtain⟨kE,Ms⟩:=(by simpa using pz:∃k,P.underlying f.type=some (.int k));refine⟨?_,?_,fun m=>?_⟩
   ·simp only[Op.eqFields,AP,ne_eq,not_false_eq_true,if_true,fO,Hc,run_part_plain w (EB pz) Ey,run_part_plain w (EB pz) N0,fT,run_equalIn_int w d f.type k kE a b Ms];cases nP:(a==b)
    ·simp
    ·simpa using i1
   ·intro bt;simp only[cr,dQ]at bt;rw[bt.1,i2 bt.2]
   ·have:=i3 m;simp only[List.zip_cons_cons,List.all_cons,this,Bool.and_true];cases m<;>simp[Instr.sameBits]
  |true=>
   have ar:∃a b fX,Ez= .str a/\Ik= .str b/\kv r as e0=some fX/\q=((a==b)&&fX):=by
    cases Ez<;>first|(simp[kv]at h;done)|skip
    cases Ik<;>first|(simp[kv]at h;done)|skip
    simp only[kv,gm]at h;obtain⟨fX,ao,a6⟩:=h;exact⟨_,_,fX,rfl,rfl,ao,a6.symm⟩
   obtain⟨a,b,fX,rfl,rfl,ao,rfl⟩:=ar;simp only[dr,bc]at J U;obtain⟨u,ck,rfl,⟨⟨rfl,_⟩,_⟩,J⟩:=J;obtain⟨v,vs',rfl,⟨⟨rfl,_⟩,_⟩,U⟩:=U;have Ey:X[n]? =some (.string ⟨a.toArray⟩):=by rw[<-uO,<-List.head?_drop,Da];rfl
   have N0:Y[n]? =some (.string ⟨b.toArray⟩):=by rw[<-uO,<-List.head?_drop,Db];rfl
   obtain⟨i1,i2,i3⟩:=bR gs (n+1) as e0 ck vs' fX aX (by rw[<-List.tail_drop,Da];rfl) (by rw[<-List.tail_drop,Db];rfl) J U ao;have Ms:P.underlying f.type=some .string:=by simpa using pz
   refine⟨?_,?_,fun m=>?_⟩
   ·simp only[Op.eqFields,AP,ne_eq,not_false_eq_true,if_true,fO,Hc,run_part_plain w (EB pz) Ey,run_part_plain w (EB pz) N0,fT,run_equalIn_string w d f.type _ _ Ms];have e:((⟨a.toArray⟩:ByteArray).toList==(⟨b.toArray⟩:ByteArray).toList)=(a==b):=by rw[aqX,aqX]
    rw[e];cases nP:(a==b)
    ·simp
    ·simpa using i1
   ·intro bt;simp only[cr,dQ]at bt;rw[bt.1,i2 bt.2]
   ·have:=i3 m;simp only[List.zip_cons_cons,List.all_cons,this,Bool.and_true];cases m<;>simp only[Instr.sameBits]<;>exact(MapKept.bytes_beq _ _).2 rfl
theorem TY{P:cJ}{bF:List (Nat×dB)}(aH:fM P bF=true):∀(dU:List Bool) (gs:List Field) (n:Nat),Aq bF n dU (gs.map fun f=>(f.offset,f.type))=true->(gs.all (fun f=>match P.underlying f.type with|some (.int _)=>true|some .string=>true|_=>false)=true)/\((∀f∈gs,f.name≠ "_")->q7 P n dU gs)
 |[],[],_,_=>⟨rfl,fun _=>trivial⟩
 |[],_::_,_,h=>by simp[Aq]at h
 |_::_,[],_,h=>by simp[Aq]at h
 |b::r,f::gs,n,h=>by
  simp only[ht,Aq,cr,dQ]at h;obtain⟨⟨J,U⟩,ao⟩:=h;obtain⟨i1,i2⟩:=TY aH r gs (n+1) ao;split at U
  ·rename_i aQ;obtain⟨d,hu,aF⟩:=jl aH aQ;obtain rfl:=Gq aF;refine⟨by simp only[List.all_cons,hu,i1,Bool.and_self],fun au=>⟨⟨J,au f Ψ,?_⟩,i2 fun g aX=>au g (by simp[aX])⟩⟩;have:b=false:=by simpa using U
   subst this;simpa using⟨_,hu⟩
  ·rename_i aQ;obtain⟨d,hu,aF⟩:=jl aH aQ;obtain rfl:=Ac aF;refine⟨by simp only[List.all_cons,hu,i1,Bool.and_self],fun au=>⟨⟨J,au f Ψ,?_⟩,i2 fun g aX=>au g (by simp[aX])⟩⟩;subst U;simpa using hu
  ·cases U
theorem T0{P:cJ}{bF:List (Nat×dB)}(aH:fM P bF=true){dU:List Bool}{t:Nat}(h:GC bF dU t=true):∃gs,P.underlying t=some (.struct gs)/\q7 P 0 dU gs.toList/\P.stoodInHeld t=false/\P.eqGuardType P.depth t=false:=by
 unfold GC at h;split at h
 ·rename_i aQ;obtain⟨d,hu,aF⟩:=jl aH aQ;have ar:=(wc aH aQ).cmp d hu;cases d<;>simp[kx]at aF;rename_i gs;subst aF;obtain⟨i1,i2⟩:=TY aH dU gs.toList 0 h;have tZ:TZ P gs=true:=i1;simp only[KB,tZ,Bool.not_true,Bool.false_or,S2,cr,pQ,fy,bne_iff_ne,ne_eq]at ar;exact⟨gs,hu,i2 ar.1.1,ar.1.2,ar.2⟩
 ·cases h
theorem Tt{P:cJ}{w:World}{ν:be}{t:ha}{gs:Array Field}{dU:List Bool}(hu:P.underlying t=some (.struct gs))(aX:q7 P 0 dU gs.toList)(dh:P.stoodInHeld t=false){as e0:List ak}{X Y:Array Value}(J:dr w ν as X.toList)(U:dr w ν e0 Y.toList){q:Bool}(h:kv dU as e0=some q):
  (Op.equalIn 10000 t (.agg X) (.agg Y)).run P w= .ok q w/\(q=true->X=Y)/\∀m,(X.toList.zip X.toList).all (fun(x,y)=>Instr.sameBits m x y)=true:=by
 have aQ:P.fieldsOf t=gs:=by simp[Program.fieldsOf,hu]
 obtain⟨i1,i2,i3⟩:=acg 9998 dU gs.toList 0 as e0 _ _ q aX rfl rfl J U h;refine⟨?_,fun e=>?_,?_⟩
 ·rw[run_equalIn_struct w 9999 t X Y (by rw[aQ];exact hu) dh,aQ];exact i1
 ·have:=i2 e;simpa using this
 ·simpa using i3
inductive uS (P:cJ):jW->ha->Prop
 |i {t:ha} {k:IntKind}:P.underlying t=some (.int k)->uS P .i t
 |s {t:ha}:P.underlying t=some .string->uS P .s t
 |a {t:ha} {dU:List Bool} {gs:Array Field}:P.underlying t=some (.struct gs)->q7 P 0 dU gs.toList->P.stoodInHeld t=false->uS P (.a dU) t
theorem MU{P:cJ}{bF:List (Nat×dB)}(aH:fM P bF=true){ch:jW}{t:Nat}(h:yP bF ch t=true):uS P ch t:=by
 cases ch with
 |i=>
  simp only[yP]at h;split at h
  ·rename_i aQ;obtain⟨d,hu,aF⟩:=jl aH aQ;obtain rfl:=Gq aF;exact .i hu
  ·cases h
 |s=>
  simp only[yP]at h;split at h
  ·rename_i aQ;obtain⟨d,hu,aF⟩:=jl aH aQ;obtain rfl:=Ac aF;exact .s hu
  ·cases h
 |a dU=>obtain⟨gs,J,U,ao,_⟩:=T0 aH h;exact .a J U ao
def tF(P:cJ)(w:World)(ch:jW)(t:ha)(hn u:Value)(b:Bool):Prop:=match ch with
 | .a _=>(Op.equal t hn u).run P w= .ok b w
 |_=> ∀d,P.underlying t=some d->Instr.sameNow d hn u=some b
def ik(P:cJ)(w:World)(ch:jW)(t:ha)(hn:Value)(es:List MapEntry)(i:Nat)(r:Option (Nat×Value)):Prop:=match ch with
 | .a _=>(Instr.findAsking t hn es i).run P w= .ok r w
 |_=> ∀d,P.underlying t=some d->Instr.findNow d hn es i=some r
theorem ik.nil(P:cJ)(w:World)(ch:jW)(t:ha)(hn:Value)(i:Nat):ik P w ch t hn [] i none:=by cases ch<;>simp[ik,Instr.findAsking,Instr.findNow]
theorem ik.hit{P:cJ}{w:World}{ch:jW}{t:ha}{hn:Value}{e:MapEntry}{es:List MapEntry}{i:Nat}(h:tF P w ch t hn e.key true):ik P w ch t hn (e::es) i (some (i,e.val)):=by
 cases ch with
 |a dU=>simp only[tF]at h;simp[ik,Instr.findAsking,h]
 |i=>simp only[tF]at h;simp only[ik];intro d aF;simp[Instr.findNow,h d aF]
 |s=>simp only[tF]at h;simp only[ik];intro d aF;simp[Instr.findNow,h d aF]
theorem ik.miss{P:cJ}{w:World}{ch:jW}{t:ha}{hn:Value}{e:MapEntry}{es:List MapEntry}{i:Nat}{r:Option (Nat×Value)}(h:tF P w ch t hn e.key false)(aK:ik P w ch t hn es (i+1) r):ik P w ch t hn (e::es) i r:=by
 cases ch with
 |a dU=>simp only[tF]at h;simp only[ik]at aK;simp[ik,Instr.findAsking,h,aK]
 |i=>simp only[tF]at h;simp only[ik]at aK⊢;intro d aF;simp[Instr.findNow,h d aF,aK d aF]
 |s=>simp only[tF]at h;simp only[ik]at aK⊢;intro d aF;simp[Instr.findNow,h d aF,aK d aF]
theorem ik.run{P:cJ}{w:World}{ch:jW}{t:ha}(aF:uS P ch t){hn:Value}{es:List MapEntry}{r:Option (Nat×Value)}(h:ik P w ch t hn es 0 r):(Instr.findKey t hn es).run P w= .ok r w:=by
 cases aF with
 |i hu=>simp only[ik]at h;simp[Instr.findKey,run_underlying hu,h _ hu]
 |s hu=>simp only[ik]at h;simp[Instr.findKey,run_underlying hu,h _ hu]
 |a hu aX dh=>
  simp only[ik]at h;cases es with
  |nil=>simp[Instr.findAsking]at h;simp[Instr.findKey,run_underlying hu,Instr.findNow,h]
  |cons e es=>
   rename_i gs;have:Instr.sameNow (.struct gs) hn e.key=none:=by cases hn<;>rfl
   simp only[Instr.findKey,fO,run_underlying hu,fT,Instr.findNow,this];exact h
theorem Wu{P:cJ}{w:World}{ν:be}{ch:jW}{t:ha}(aF:uS P ch t){k bH:ak}{hn u:Value}(ae:bc w ν k hn)(J:bc w ν bH u){bb:Bool}(ab:uo ch k bH=some bb):
  tF P w ch t hn u bb/\(bb=true->u=hn/\Instr.sameBits 10000 u hn=true):=by
 unfold uo at ab;split at ab
 ·split at ab
  ·rename_i l5;subst l5;simp only[bc]at ae J;subst ae;subst J;cases aF with
   |i hu=>refine⟨fun d aF=>by rw[hu]at aF;cases aF;simpa[Instr.sameNow]using ab,fun e=>?_⟩;subst e;simp only[dE,dQ]at ab;subst ab;exact⟨rfl,by simp[Instr.sameBits]⟩
  ·cases ab
 ·rename_i a b;simp only[bc]at ae J;obtain⟨rfl,_⟩:=ae;obtain⟨rfl,_⟩:=J;cases aF with
  |s hu=>
   refine⟨fun d aF=>?_,fun e=>?_⟩
   ·rw[hu]at aF;cases aF;simp only[Instr.sameNow];rw[<-ab];congr 1;rw[q4,MapKept.bytes_beq];simp
   ·subst e;simp only[dE,dQ]at ab;subst ab;exact⟨rfl,by simp only[Instr.sameBits];exact(MapKept.bytes_beq _ _).2 rfl⟩
 ·simp only[bc]at ae J;obtain⟨X,rfl,ae⟩:=ae;obtain⟨Y,rfl,J⟩:=J;cases aF with
  |a hu aX dh=>obtain⟨i1,i2,i3⟩:=Tt hu aX dh ae J ab;refine⟨by simpa[tF,Op.equal,Op.maxDepth]using i1,fun e=>?_⟩;have:=i2 e;subst this;exact⟨rfl,by simp[Instr.sameBits,i3]⟩
 ·cases ab
theorem Nq{P:cJ}{w:World}{ν:be}{ch:jW}{t:ha}(aF:uS P ch t){k:ak}{hn:Value}(ae:bc w ν k hn):∀(borns:List Nat) (kvs:List ak) (us:List Value) (i:Nat) (r:Option ak),cT w ν kvs us->kvs.length=2*borns.length->xf ch k kvs=some r->
  match r with
  |none=>ik P w ch t hn (fG borns us) i none
  |some v=> ∃j u,ik P w ch t hn (fG borns us) i (some (j,u))/\bc w ν v u
 |[],[],us,i,r,h,_,hm=>by simp only[xf]at hm;cases hm;simp only[cT]at h;subst h;simpa[fG]using ik.nil P w ch t hn i
 |[],_::_,_,_,_,_,av,_=>by simp at av
 |b::e0,[],_,_,_,_,av,_=>by simp at av
 |b::e0,[_],_,_,_,_,av,_=>by simp at av;omega
 |b::e0,bH::v::kvs,us,i,r,h,av,hm=>by
  simp only[cT]at h;obtain⟨jm,Pz,rfl,J,jS,tt,rfl,U,ao⟩:=h;simp only[xf]at hm;simp only[fG];cases bt:uo ch k bH with
  |none=>simp[bt]at hm
  |some bb=>
   obtain⟨s1,_⟩:=Wu aF ae J bt;simp only[bt]at hm;cases bb with
   |true=>simp only[dE]at hm;subst hm;exact⟨i,jS,ik.hit (e:=⟨jm,jS,b⟩) s1,U⟩
   |false=>
    simp only at hm;have bR:=Nq aF ae e0 kvs tt (i+1) r ao (by simp at av;omega) hm;cases r with
    |none=>exact ik.miss (e:=⟨jm,jS,b⟩) s1 bR
    |some v'=>obtain⟨j,u,g1,g2⟩:=bR;exact⟨j,u,ik.miss (e:=⟨jm,jS,b⟩) s1 g1,g2⟩
theorem KA{P:cJ}{w:World}{t:Nat}{d:TypeDesc}(hu:P.underlying t=some d)(aF:(∃k,d= .int k)\/d= .string)(e:Bool)(n:Nat)(v:Value):(Instr.checkKey e (n+1) t v).run P w= .ok () w:=by unfold Instr.checkKey;rcases aF with⟨k,rfl⟩|rfl<;>simp[run_underlying hu]
theorem agh{P:cJ}{w:World}{ν:be}{X:Array Value}(dU:List Bool):∀(gs:List Field) (n:Nat) (as:List ak),q7 P n dU gs->dr w ν as (X.toList.drop n)->(kv dU as as).isSome=true->
  ∀f∈gs,(∃v,(part f.type X f.offset).run P w= .ok v w)/\∃d,P.underlying f.type=some d/\((∃k,d= .int k)\/d= .string):=by
 induction dU with
 |nil=>intro gs n as aX _ _ f aQ;cases gs<;>simp only[q7]at aX;cases aQ
 |cons yd r bR=>
  intro gs n as aX aK ar f aQ;cases gs with
  |nil=>cases aQ
  |cons g gs=>
  simp only[q7]at aX;obtain⟨⟨Hc,AP,pz⟩,aX⟩:=aX;cases as with
  |nil=>cases yd<;>simp[kv]at ar
  |cons p as=>
  have hy:(kv r as as).isSome=true:=by cases yd<;>cases p<;>simp[kv]at ar⊢ <;>exact ar
  simp only[dr]at aK;obtain⟨u,ck,e,_,dp⟩:=aK;have aG:X.toList.drop (n+1)=ck:=by rw[<-List.tail_drop,e];rfl
  have Ey:X[n]? =some u:=by rw[<-uO,<-List.head?_drop,e];rfl
  rcases e7.1 aQ with rfl|aQ
  ·refine⟨⟨u,by rw[Hc];exact run_part_plain w (EB pz) Ey⟩,?_⟩;cases yd
   ·obtain⟨k,h⟩:=(by simpa using pz:∃k,P.underlying f.type=some (.int k));exact⟨_,h,.inl ⟨k,rfl⟩⟩
   ·exact⟨_,by simpa using pz,.inr rfl⟩
  ·exact bR gs (n+1) as aX (by rw[aG];exact dp) hy f aQ
theorem T6{P:cJ}{w:World}{α:Type}(body:α->PUnit->Sem (ForInStep PUnit)):∀(l:List α),(∀f∈l,(body f ⟨⟩).run P w= .ok (.yield ⟨⟩) w)->(forIn l PUnit.unit body).run P w= .ok PUnit.unit w
 |[],_=>by simp
 |f::l,h=>by simp only[List.forIn_cons,fO,h f Ψ,fT];exact T6 body l fun g aX=>h g (by simp[aX])
theorem OR{P:cJ}{w:World}{ν:be}{ch:jW}{t:Nat}(aF:uS P ch t)(e:Bool){k:ak}{v:Value}(ae:bc w ν k v)(hi:w7 ch k=true):(Instr.checkKey e 10000 t v).run P w= .ok () w:=by
 cases aF with
 |i hu=>exact KA hu (.inl ⟨_,rfl⟩) e 9999 v
 |s hu=>exact KA hu (.inr rfl) e 9999 v
 |a hu aX dh=>
  rename_i dU gs;cases k<;>simp only[w7,gZ]at hi;rename_i as;simp only[bc]at ae;obtain⟨X,rfl,ae⟩:=ae;unfold Instr.checkKey;simp only[fO,run_underlying hu,fT];rw[<-Array.forIn_toList];rw[T6]
  ·simp
  ·intro f aQ;obtain⟨⟨v,J⟩,d,U,ao⟩:=agh dU gs.toList 0 as aX (by simpa using ae) hi f aQ;have a6:=KA (w:=w) U ao e 9998 v;by_cases au:f.name= "_"
   ·simp[au]
   ·simp[au,J,a6]
theorem W7{w:World}{ν:be}{n:Nat}:∀(borns:List Nat) (kvs:List ak) (us:List Value) (p:ak),cT w ν kvs us->ny n borns kvs=some p->∃e,(fG borns us).find? (·.born==n)=some e/\bc w ν p (.tuple #[e.key,e.val])
 |[],_,_,_,_,hm=>by simp[ny]at hm
 |_::_,[],_,_,_,hm=>by simp[ny]at hm
 |_::_,[_],_,_,_,hm=>by simp[ny]at hm
 |b::e0,k::v::kvs,us,p,h,hm=>by
  simp only[cT]at h;obtain⟨jm,Pz,rfl,J,jS,tt,rfl,U,ao⟩:=h;simp only[ny]at hm;simp only[fG];by_cases e:b=n
  ·rw[if_pos e]at hm;cases hm;refine⟨⟨jm,jS,b⟩,by simp[List.find?,e],?_⟩;simp only[bc];exact⟨#[jm,jS],rfl,by simp only[cT];exact⟨_,_,rfl,J,_,_,rfl,U,rfl⟩⟩
  ·rw[if_neg e]at hm;obtain⟨x,g1,g2⟩:=W7 e0 kvs tt p ao hm;have ahE:(b==n)=false:=by simpa using e
   exact⟨x,by simp[List.find?,ahE,g1],g2⟩
theorem Z9{P:cJ}{bF:List (Nat×dB)}(aH:fM P bF=true){C:fj}{st:br}{a:Act}{w:World}{ν:be}(aK:cY C st a w ν){i:gg}(ahD:∀ch z ok x k,i≠ .mgetB ch z ok x k){o:Oper}(aw:Ff bF i o.op=true)
  {c:Prop} {p:ak} (he:hD st i=some (c,p)) (ar:c):∃v,(execOp a.eval o).run P w= .ok (.value v) w/\bc w ν p v:=by
 obtain⟨dst,op,type,pos,after,guard⟩:=o;simp only at aw;unfold Ff at aw;split at aw
 ·rename_i x o;simp only[hD]at he;cases he;exact⟨_,rfl,et aK aw⟩
 ·rename_i x o;simp only[hD]at he;cases he;exact⟨_,rfl,et aK aw⟩
 ·rename_i cq x y arG aa1 aa5;simp only[cr]at aw;have J:=et aK aw.1.1;have U:=et aK aw.1.2;have ao:=et aK aw.2;simp only[hD,Il]at he;split at he
  ·rename_i b ab;rw[ab]at J;simp only[bc]at J;split at he
   ·rename_i u v hu ay;cases he;rw[hu]at U;rw[ay]at ao;simp only[bc]at U ao;refine⟨.bool (cond b u v),?_,by simp[bc]⟩;simp only[execOp,J,U,ao,asBool,fO,gF,fT];cases b<;>rfl
   ·split at he
    ·cases he;exact⟨_,by simp only[execOp,J,asBool,fO,gF,fT,if_true],U⟩
    ·cases he;exact⟨_,by simp only[execOp,J,asBool,fO,gF,fT,gZ,if_false],ao⟩
  ·cases he
 ·rename_i agg sz x t o;simp only[cr]at aw;obtain⟨J,U⟩:=aw;split at J
  ·rename_i f aQ;simp only[cr,dQ]at J;obtain⟨rfl,rfl⟩:=J;obtain⟨v,g1,g2⟩:=HX aH aK.good aQ (et aK U) (by simpa only[hD]using he) ar;exact⟨v,lV g1,g2⟩
  ·cases J
 ·rename_i off agg sz x s o i;simp only[cr]at aw;obtain⟨J,U⟩:=aw;split at J
  ·rename_i f aQ;split at J
   ·rename_i xm t Dk;simp only[cr,dQ]at J;obtain⟨rfl,J⟩:=J;split at J
    ·rename_i g aX;simp only[cr,dQ,bne_iff_ne,ne_eq]at J;obtain⟨⟨rfl,rfl⟩,bE⟩:=J;obtain⟨v,g1,g2⟩:=af9 aH aQ rfl Dk aX bE (et aK U) (by simpa only[hD]using he) ar;exact⟨v,lV g1,g2⟩
    ·cases J
   ·cases J
  ·cases J
 ·rename_i off agg sz x s o i;simp only[cr]at aw;obtain⟨J,U⟩:=aw;split at J
  ·rename_i f aQ;split at J
   ·rename_i xm t Dk;simp only[cr,dQ]at J;obtain⟨rfl,J⟩:=J;split at J
    ·rename_i g aX;simp only[cr,dQ]at J;obtain⟨rfl,rfl⟩:=J;obtain⟨v,g1,g2⟩:=agi aH aQ rfl Dk aX (et aK U) (by simpa only[hD]using he) ar;exact⟨v,lV g1,g2⟩
    ·cases J
   ·cases J
  ·cases J
 ·rename_i sz x i t o j;simp only[cr]at aw;obtain⟨⟨J,U⟩,ao⟩:=aw;split at J
  ·rename_i e aQ;split at J
   ·rename_i g aX;simp only[dQ]at J;subst J;obtain⟨v,g1,g2⟩:=ajn aH aQ rfl aX (et aK U) (et aK ao) (by simpa only[hD]using he) ar;exact⟨v,lV g1,g2⟩
   ·cases J
  ·cases J
 ·rename_i x i t o j;simp only[cr]at aw;obtain⟨⟨J,U⟩,ao⟩:=aw;split at J
  ·rename_i aQ;obtain⟨d,aF,eK⟩:=jl aH aQ;obtain rfl:=Ac eK;have aq:=et aK U;have aG:=et aK ao;simp only[hD,Jg]at he;split at he
   ·rename_i s k n ag au;cases he;rw[ag]at aq;rw[au]at aG;simp only[bc]at aq aG;obtain⟨tV,wG⟩:=ar;have bz:n.toNat<s.length:=Ω
    have ah5:(⟨s.toArray⟩:ByteArray)[n.toNat]? =some (s.getD n.toNat 0):=by exact ahe s n.toNat bz
    refine⟨_,lV (v:= .int .u8 (s.getD n.toNat 0).toNat) ?_,by simp[bc]⟩;simp only[Instr.index,aG,asIntOf,aq.1,fO,gF,fT,run_underlying aF,tV,if_true,ah5]
   ·cases he
  ·cases J
 ·rename_i x lo hi t o l h;simp only[cr]at aw;obtain⟨⟨⟨J,U⟩,ao⟩,a6⟩:=aw;split at J
  ·rename_i aQ;obtain⟨d,aF,eK⟩:=jl aH aQ;obtain rfl:=Ac eK;have aq:=et aK U;simp only[hD,Jl]at he;split at he
   ·rename_i s ag;rw[ag]at aq;simp only[bc]at aq;split at he
    ·rename_i qS cA av LW;cases he;obtain⟨b0,cu,dg⟩:=ar;have aP:=Ih aK ao av;have bd:=Ih aK a6 LW;refine⟨_,lV (v:= .string ⟨((s.take cA.toNat).drop qS.toNat).toArray⟩) ?_,?_⟩
     ·have ab:=QJ P w false s.length s.length (l.map a.eval) (h.map a.eval) qS cA
       aP bd b0 cu dg (eu _)
      simp only[Instr.sliceAt,Instr.slice,aq.1,fO,gF,fT,run_underlying aF,Option.map_none,jG,gZ,if_false,E3,ab,aeb]
     ·simp only[bc];refine⟨trivial,?_⟩;have:=aq.2;simp only[tB,List.length_take];omega
    ·cases he
   ·cases he
  ·cases J
 ·rename_i sz x lo hi t o l h;simp only[cr]at aw;obtain⟨⟨⟨J,U⟩,ao⟩,a6⟩:=aw;split at J
  ·rename_i e aQ;split at J
   ·rename_i g aX;simp only[dQ]at J;subst J;obtain⟨d,aF,eK⟩:=jl aH aQ;obtain rfl:=tL eK;obtain⟨_,ep⟩:=wb aH aX w;have aq:=et aK U;simp only[hD,HY]at he;split at he
    ·rename_i dH tag xs ag;split at he
     ·rename_i fo;subst fo;rw[ag]at aq;simp only[bc]at aq;obtain⟨⟨tG,cap,ay,cg,cc,gq⟩,_⟩:=aq;split at he
      ·rename_i qS cA av LW;cases he;obtain⟨b0,cu,dg⟩:=ar;have aP:=Ih aK ao av;have bd:=Ih aK a6 LW;have ab:=QJ P w true xs.length cap (l.map a.eval) (h.map a.eval) qS cA
        aP bd b0 cu dg cg
       refine⟨_,lV (v:= .slice (if cap=qS.toNat then tG else tG.map (·.add (qS.toNat*g.size))) (cA.toNat-qS.toNat) (cap-qS.toNat)) ?_,?_⟩
       ·simp only[Instr.sliceAt,Instr.slice,ay,fO,gF,fT,run_underlying aF,Option.map_none,ab,ep]
       ·simp only[bc];have hlen:((xs.take cA.toNat).drop qS.toNat).length=cA.toNat-qS.toNat:=by simp;omega
        refine⟨⟨_,_,by rw[hlen],by rw[hlen];omega,⟨Ω,by rw[hlen];omega⟩,?_⟩,(fun h=>by cases h),(fun g h=>by cases h),(fun _ _ h=>by cases h),(fun _ h=>by cases h)⟩;rcases gq with rfl|⟨b,off,us,rfl,g1,g2⟩
        ·left;simp
        ·by_cases AB:cap=qS.toNat
         ·left;apply List.eq_nil_of_length_eq_zero;rw[hlen];omega
         ·right;rw[if_neg AB];refine⟨b,off+qS.toNat*g.size,(us.take (cA.toNat*g.size)).drop (qS.toNat*g.size),by simp[p0],HR _ (HT _ g1),Zn _ (Zq _ g2)⟩
      ·cases he
     ·cases he
    ·cases he
   ·cases J
  ·cases J
 ·rename_i op wr x y XW ty o o' apx;simp only[cr,en]at aw;obtain⟨⟨rfl,J⟩,U⟩:=aw;obtain⟨r,g1,g2⟩:=ab5 P w ν (by simpa only[hD]using he) ar ty (et aK J) (et aK U) o o';exact⟨r,lV g1,g2⟩
 ·rename_i x op ty o;simp only[cr,en]at aw;obtain⟨rfl,J⟩:=aw;have aq:=et aK J;simp only[hD]at he;unfold Ib at he;split at he
  ·rename_i b ab;cases he;rw[ab]at aq;simp only[bc]at aq;exact⟨_,lV (v:= .bool (!b)) (by simp[Op.unary,aq]),by simp[bc]⟩
  ·cases he
 ·rename_i x op ty o;simp only[cr,en]at aw;obtain⟨rfl,J⟩:=aw;have aq:=et aK J;simp only[hD]at he;unfold H8 at he;split at he
  ·rename_i k n ab;cases he;rw[ab]at aq;simp only[bc]at aq;exact⟨_,lV (v:= .int k (k.wrap (0-n))) (by simp[Op.unary,aq,Op.intArith]),by simp[bc]⟩
  ·cases he
 ·rename_i k x s d o;simp only[cr]at aw;obtain⟨J,U⟩:=aw;split at J
  ·rename_i aP bd Di vm;simp only[en]at J;subst J;obtain⟨d1,fs,ahQ⟩:=jl aH Di;obtain rfl:=Gq ahQ;obtain⟨d2,eV,Dg⟩:=jl aH vm;obtain rfl:=Gq Dg;have aq:=et aK U;simp only[hD]at he;unfold Gm at he;split at he
   ·rename_i bH n ab;cases he;rw[ab]at aq;simp only[bc]at aq;exact⟨_,lV (v:= .int k (k.wrap n)) (by simp[convert,aq,run_underlying fs,run_underlying eV,Conv.intToInt]),by simp[bc]⟩
   ·cases he
  ·cases J
 ·rename_i i x o j;simp only[cr,dQ]at aw;obtain⟨rfl,J⟩:=aw;have aq:=et aK J;simp only[hD]at he;unfold Ai at he;split at he
  ·rename_i a7 ab;simp only[gm]at he;obtain⟨q,bt,he⟩:=he;cases he;rw[ab]at aq;simp only[bc]at aq;obtain⟨us,hu,U⟩:=aq;obtain⟨v,g1,g2⟩:=EP i U bt;have jK:us[i]? =some v:=by simpa using g1
   exact⟨v,lV (by simp[Instr.extract,hu,jK]),g2⟩
  ·cases he
 ·rename_i x o t;simp only[cr]at aw;obtain⟨J,U⟩:=aw;have aq:=et aK U;simp only[hD]at he;unfold Be at he;split at he
  ·rename_i sz tag xs ab;cases he;rw[ab]at aq;simp only[bc]at aq;obtain⟨⟨tG,cap,ay,_⟩,_⟩:=aq;refine⟨.int .i64 xs.length,?_,by simp[bc]⟩;split at J
   ·rename_i aQ;obtain⟨d,aF,eK⟩:=jl aH aQ;obtain rfl:=tL eK;simp[execOp,resolve,invoke,builtin,Builtin.len_,run_underlying aF,ay,goInt]
   ·cases J
  ·rename_i sz k n ab;cases he;rw[ab]at aq;simp only[bc]at aq;obtain⟨⟨tG,cap,ay⟩,_⟩:=aq;refine⟨.int .i64 n,?_,by simp[bc]⟩;split at J
   ·rename_i aQ;obtain⟨d,aF,eK⟩:=jl aH aQ;obtain rfl:=tL eK;simp[execOp,resolve,invoke,builtin,Builtin.len_,run_underlying aF,ay,goInt]
   ·cases J
  ·rename_i tG n cap ab;cases he;rw[ab]at aq;simp only[bc]at aq;refine⟨.int .i64 n,?_,by simp[bc]⟩;split at J
   ·rename_i aQ;obtain⟨d,aF,eK⟩:=jl aH aQ;obtain rfl:=tL eK;simp[execOp,resolve,invoke,builtin,Builtin.len_,run_underlying aF,aq,goInt]
   ·cases J
  ·cases he
 ·rename_i x o t;simp only[cr]at aw;obtain⟨J,U⟩:=aw;have aq:=et aK U;simp only[hD]at he;unfold E4 at he;split at he
  ·rename_i s ab;cases he;rw[ab]at aq;simp only[bc]at aq;refine⟨.int .i64 s.length,?_,by simp[bc]⟩;split at J
   ·rename_i aQ;obtain⟨d,aF,eK⟩:=jl aH aQ;obtain rfl:=Ac eK;simp[execOp,resolve,invoke,builtin,Builtin.len_,run_underlying aF,aq.1,goInt,E3]
   ·cases J
  ·rename_i s ab;cases he;rw[ab]at aq;simp only[bc]at aq;refine⟨.int .i64 s.size,?_,by simp[bc]⟩;split at J
   ·rename_i aQ;obtain⟨d,aF,eK⟩:=jl aH aQ;obtain rfl:=Ac eK;simp[execOp,resolve,invoke,builtin,Builtin.len_,run_underlying aF,aq,goInt]
   ·cases J
  ·cases he
 ·rename_i zero parts t cE;split at aw
  ·rename_i dU z aQ;simp only[cr]at aw;obtain⟨⟨J,U⟩,ao⟩:=aw;have ba:=aqU J;obtain⟨i,d,aqT,aq,aG,bG,di,hx,h7,sd,se⟩:=(wc aH aQ).ex;obtain⟨gs,rfl,kS⟩:=KE hx;simp only at ba sd se;subst ba;have l3:(gs.toList.all fun f=>(ei bF f.type).isSome)=true:=by rw[<-kS]at U;simpa[List.all_map,Function.comp_def]using U
   obtain⟨uA,c1,dv⟩:=X7 aH gs.toList l3;rw[kS]at dv;cases aqT<;>simp only[zI]at sd;case agg us=>
    simp only[hD]at he;cases ab:u5 st.t zero parts with
    |none=>simp[ab]at he
    |some x=>obtain⟨cq,cs'⟩:=x;simp only[ab,oq]at he;cases he;obtain⟨ck,g1,g2⟩:=ZC aK dv parts cE.toList zero us c cs' ao (P1 w ν _ _ sd) ab ar;refine⟨.agg ck,lV (run_build w t _ ck ?_),by simp only[bc];exact⟨ck,rfl,g2⟩⟩;simp only[Program.built,aq,aG,h7,c1,pS];simpa using g1
   all_goals cases sd
  ·cases aw
 ·rename_i x o;have aq:=et aK aw;simp only[hD]at he;unfold Bq at he;split at he
  ·rename_i k off ab;cases he;rw[ab]at aq;have aG:=aq;simp only[bc]at aq;obtain⟨b,_,ay⟩:=aq;exact⟨a.eval o,by simp[execOp,ay],aG⟩
  ·rename_i q ab;cases he;rw[ab]at aq;have aG:=aq;simp only[bc]at aq;obtain⟨b,off,u,ay,_⟩:=aq;exact⟨a.eval o,by simp[execOp,ay],aG⟩
  ·rename_i f cs ab;cases he;rw[ab]at aq;have aG:=aq;simp only[bc]at aq;obtain⟨us,ay,_⟩:=aq;exact⟨a.eval o,by simp[execOp,ay],aG⟩
  ·cases he
 ·rename_i x y o o' t dO;simp only[cr]at aw;have aq:=et aK aw.1;have aG:=et aK aw.2;simp only[hD]at he;unfold H7 at he;split at he
  ·rename_i k m bH n hm au;split at he
   ·rename_i ae;subst ae;cases he;rw[hm]at aq;rw[au]at aG;simp only[bc]at aq aG;exact⟨.int k (if n<m then n else m),by simp[execOp,resolve,invoke,builtin,Builtin.min_,Builtin.min2,aq,aG],by simp[bc]⟩
   ·cases he
  ·cases he
 ·rename_i n xs m os;simp only[cr,dQ]at aw;obtain⟨rfl,aw⟩:=aw;simp only[hD]at he;cases he;have vj:=EO aK aw;refine⟨.func (.func n) #[] (os.map a.eval),by simp[execOp,Instr.makeFunc],?_⟩;simp only[bc];exact⟨os.map a.eval,rfl,by simpa using vj⟩
 ·rename_i ch zero ok x k t o o' Ic;simp only[cr,dQ]at aw;obtain⟨⟨⟨rfl,J⟩,U⟩,ao⟩:=aw;have aq:=et aK U;have aG:=et aK ao;split at J
  ·rename_i sz lJ nv qa z aQ;simp only[cr]at J;obtain⟨aif,LN⟩:=J;split at LN
   ·rename_i asm ahT;have ba:=P3 LN;obtain⟨cN,hu,eK⟩:=jl aH aQ;have tX:cN= .map nv qa:=by cases cN<;>simp[kx]at eK;obtain⟨rfl,rfl⟩:=eK;rfl
    subst tX;obtain⟨b2,lD,z2,_⟩:=Pr aH ahT w;rw[<-ba]at z2;have aa:=(P2 w ν z2).1;have mC:=MU aH aif;simp only[hD]at he;unfold oM at he;split at he
    ·rename_i key ad;rw[ad]at aq;simp only[bc]at aq;obtain⟨bl,cg,cc⟩:=aq;split at he
     ·rename_i clock borns kvs hW;obtain⟨iP,us,el,g1,g2,g3,g4,g5⟩:=aK.good.box key _ hW;rw[cg]at g1;cases g1;simp only[j6]at g4;simp only[jD]at g5;have hj:(getObj bl).run P w= .ok (.map (fG borns us.toList).toArray clock) w:=vZ g4;split at he
      ·cases he
      rename_i vs;have wH:=OR (P:=P) (w:=w) mC ((fG borns us.toList).toArray.isEmpty) aG (by simpa using vs);split at he
      ·rename_i v hm;cases he;obtain⟨j,u,f1,f2⟩:=Nq mC aG borns kvs us.toList 0 _ g5.1 g5.2.len hm;refine⟨if ok then .tuple #[u,.bool true]else u,?_,?_⟩
       ·simp only[execOp];refine lV ?_;simp only[Instr.lookup,fO,run_underlying hu,fT,cc,hj,gF,wH,f1.run mC]
       ·cases ok
        ·simpa using f2
        ·simp only[if_true,bc];exact⟨_,rfl,by simp only[cT];exact⟨_,_,rfl,f2,_,_,rfl,by simp[bc],rfl⟩⟩
      ·rename_i hm;cases he;have f1:=Nq mC aG borns kvs us.toList 0 _ g5.1 g5.2.len hm;simp only at f1;refine⟨if ok then .tuple #[b2,.bool false]else b2,?_,?_⟩
       ·simp only[execOp];refine lV ?_;simp only[Instr.lookup,fO,run_underlying hu,fT,cc,hj,gF,wH,f1.run mC,lD]
       ·cases ok
        ·simpa using aa
        ·simp only[if_true,bc];exact⟨_,rfl,by simp only[cT];exact⟨_,_,rfl,aa,_,_,rfl,by simp[bc],rfl⟩⟩
      ·cases he
     ·cases he
    ·cases he
   ·cases LN
  ·cases J
 ·rename_i x o;have aq:=et aK aw;simp only[hD]at he;unfold qm at he;split at he
  ·rename_i fv ad;rw[ad]at aq;simp only[bc]at aq;obtain⟨bl,cg,cc⟩:=aq;split at he
   ·rename_i since seen last mk hW;obtain⟨iP,us,el,g1,g2,g3,g4,g5⟩:=aK.good.box fv _ hW;rw[cg]at g1;cases g1;simp only[j6]at g4;simp only[jD,cT,bc]at g5;obtain⟨u,ck,rH,⟨mb,m1,rfl⟩,rfl⟩:=g5;rw[rH]at g4;simp only at g4;split at he
    ·rename_i clock borns kvs aip;obtain⟨arD,tt,ar6,aP,bd,bS,ea,dj⟩:=aK.good.box mk _ aip;rw[m1]at aP;cases aP;simp only[j6]at ea;simp only[jD]at dj;split at he
     ·rename_i n au;simp only[gm]at he;obtain⟨q,bt,he⟩:=he;cases he;obtain⟨e,f1,f2⟩:=W7 borns kvs tt.toList p dj.1 bt;refine⟨.tuple #[e.key,e.val],?_,f2⟩;simp only[execOp];refine lV ?_;have ah0:(getObj bl).run P w= .ok (.mapIter (some mb) since seen.toArray last) w:=vZ g4;have ah1:(getObj mb).run P w= .ok (.map (fG borns tt.toList).toArray clock) w:=vZ ea;have LH:seen.toArray.back? =some n:=by simpa using au
      have AD:(clock !=last)=false:=by simp[ar]
      have ahU:(fG borns tt.toList).toArray.find? (·.born==n)=some e:=by simpa using f1
      simp only[Instr.entry,cc,fO,ah0,fT,LH,ah1,AD,gZ,if_false,ahU,gF]
     ·cases he
    ·cases he
   ·cases he
  ·cases he
 ·rename_i x o t;simp only[cr]at aw;obtain⟨J,U⟩:=aw;have aq:=et aK U;simp only[hD]at he;unfold Bp at he;split at he
  ·rename_i key ab;rw[ab]at aq;simp only[bc]at aq;obtain⟨bl,cg,cc⟩:=aq;split at he
   ·rename_i clock borns kvs hW;cases he;obtain⟨iP,us,el,g1,g2,g3,g4,g5⟩:=aK.good.box key _ hW;rw[cg]at g1;cases g1;simp only[j6]at g4;simp only[jD]at g5;have hj:(getObj bl).run P w= .ok (.map (fG borns us.toList).toArray clock) w:=vZ g4;have hlen:(fG borns us.toList).length=borns.length:=Tp g5.2.len (Zv g5.1);refine⟨.int .i64 borns.length,?_,by simp[bc]⟩;split at J
    ·rename_i aQ;obtain⟨d,aF,eK⟩:=jl aH aQ;obtain⟨nv,qa,rfl⟩:∃nv qa,d= .map nv qa:=by cases d<;>simp[kx]at eK;exact⟨_,_,rfl⟩
     simp[execOp,resolve,invoke,builtin,Builtin.len_,run_underlying aF,cc,goInt,hj,hlen]
    ·cases J
   ·cases he
  ·cases he
 ·rename_i neg dU x y op t o o' apx;simp only[cr,en]at aw;obtain⟨⟨⟨rfl,bE⟩,J⟩,U⟩:=aw;have aq:=et aK J;have aG:=et aK U;simp only[hD]at he;unfold iO at he;split at he
  ·rename_i bn b1 bm ab;simp only at bE;cases he;rw[bm]at aq;rw[ab]at aG;simp only[bc]at aq aG;split at bE
   ·rename_i aQ;obtain⟨d,aF,eK⟩:=jl aH aQ;obtain rfl:d= .bool:=by cases d<;>simp[kx]at eK;rfl
    refine⟨.bool (if neg then bn !=b1 else bn==b1),lV ?_,by simp[bc]⟩;cases neg<;>simp[aq,aG,eqGuard,binOp,adk aF,bne]
   ·cases bE
  ·rename_i ast as e0 bm ab;simp only at bE;simp only[gm]at he;obtain⟨q,bt,he⟩:=he;cases he;rw[bm]at aq;rw[ab]at aG;simp only[bc]at aq aG;obtain⟨X,ac6,anE⟩:=aq;obtain⟨Y,ac7,anF⟩:=aG;obtain⟨gs,hu,aX,dh,jf⟩:=T0 aH bE;obtain⟨i1,_,_⟩:=Tt hu aX dh anE anF bt;refine⟨.bool (if neg then !q else q),lV ?_,by simp[bc]⟩;rw[ac6,ac7];cases neg
   ·simp only[gZ,if_false,fO,run_eqGuard_agg w _ t o o' X Y jf,fT,run_eql_struct,i1]
   ·simp only[if_true,fO,run_eqGuard_agg w _ t o o' X Y jf,fT,run_neq_struct,i1]
  ·cases he
 ·rename_i x y o o' t dO;simp only[cr]at aw;have aq:=et aK aw.1;have aG:=et aK aw.2;simp only[hD]at he;unfold H3 at he;split at he
  ·rename_i k m bH n hm au;split at he
   ·rename_i ae;subst ae;cases he;rw[hm]at aq;rw[au]at aG;simp only[bc]at aq aG;exact⟨.int k (if m<n then n else m),by simp[execOp,resolve,invoke,builtin,Builtin.max_,Builtin.max2,aq,aG],by simp[bc]⟩
   ·cases he
  ·cases he
 ·rename_i t x dO o;simp only[cr,dQ]at aw;obtain⟨⟨rfl,J⟩,U⟩:=aw;have aq:=et aK U;simp only[hD]at he;cases he;split at J
  ·rename_i aQ;obtain⟨d,aF,eK⟩:=jl aH aQ;obtain rfl:=tL eK;refine⟨.iface t (a.eval o),lV (by simp[Instr.makeInterface,run_underlying aF]),?_⟩;simp only[bc];exact⟨_,rfl,aq⟩
  ·cases J
 ·rename_i agg sz x t o;simp only[cr]at aw;obtain⟨J,U⟩:=aw;split at J
  ·rename_i f aQ;simp only[cr,dQ]at J;obtain⟨rfl,rfl⟩:=J;obtain⟨v,g1,g2⟩:=HX aH aK.good aQ (et aK U) (akp (by simpa only[hD]using he)) ar;exact⟨v,lV g1,g2⟩
  ·cases J
 ·rename_i agg sz x t o;simp only[cr]at aw;obtain⟨J,U⟩:=aw;split at J
  ·rename_i f aQ;simp only[cr,dQ]at J;obtain⟨rfl,rfl⟩:=J;obtain⟨v,g1,g2⟩:=HX aH aK.good aQ (et aK U) (agp (by simpa only[hD]using he)) ar;exact⟨v,lV g1,g2⟩
  ·cases J
 ·exact absurd rfl (ahD _ _ _ _ _)
 ·cases aw
theorem apG{P:cJ}{bF:List (Nat×dB)}(aH:fM P bF=true){C:fj}{st:br}{a:Act}{w:World}{ν:be}(aK:cY C st a w ν){i:gg}{o:Oper}(aw:Ff bF i o.op=true)
  {c:Prop} {p:ak} (he:hD st i=some (c,p)) (ar:c):∃v,(execOp a.eval o).run P w= .ok (.value v) w/\bc w ν p v:=by
 by_cases ab:∃ch z ok x k,i= .mgetB ch z ok x k
 ·obtain⟨ch,z,ok,x,k,rfl⟩:=ab;refine Z9 aH aK (i:= .mget ch z ok x k) (fun _ _ _ _ _ e=>by cases e) ?_ he ar;obtain⟨dst,op,type,pos,after,guard⟩:=o;cases op<;>first|exact aw|simp[Ff]at aw
 ·exact Z9 aH aK (fun ch z ok x k e=>ab ⟨ch,z,ok,x,k,e⟩) aw he ar
theorem S1{w:World}{o:Obj}{b i:Nat}(h:b<w.heap.size):(w.alloc o).cell? ⟨b,i,none⟩=w.cell? ⟨b,i,none⟩:=World.cell?_of_block (Below.heap_alloc w o b h)
def be.withBox(ν:be)(k:aM)(bl:Nat):be:={ν with bx:=fun j=>if j=k then some bl else ν.bx j}
def be.withOwn(ν:be)(k:aM)(n:Nat)(v:Value):be:={ν with ow:=fun j=>if j=k then some (n,v)else ν.ow j}
theorem cY.lookNone{C:fj}{st:br}{a:Act}{w:World}{ν:be}(h:cY C st a w ν){k:aM}(ae:fresh st.n st.o k):look k st.b=none/\look k st.e=none:=by
 obtain⟨J,U,_⟩:=h.new k ae;constructor
 ·cases ab:look k st.b with
  |none=>rfl
  |some cs=>obtain⟨bl,us,el,g1,_⟩:=h.good.box _ _ ab;rw[J]at g1;cases g1
 ·cases ab:look k st.e with
  |none=>rfl
  |some o=>obtain⟨v,us,g1,_⟩:=h.good.own _ _ ab;rw[U]at g1;cases g1
theorem Good.ownLt{pr:Nat->Prop}{w:World}{ν:be}{b:List (aM×List ak)}{e:List (aM×fQ)}(h:Good pr w ν b e){g:aM}{o:fQ}(aX:look g e=some o){n:Nat}{v:Value}(ay:ν.ow g=some (n,v)){bl:Nat}(ab:v.ownBlock=some bl):bl<w.heap.size:=by obtain⟨v',us,g1,g2,_⟩:=h.own g o aX;rw[ay]at g1;cases g1;exact(g2.lt bl ab).2
theorem Good.boxLt{pr:Nat->Prop}{w:World}{ν:be}{b:List (aM×List ak)}{e:List (aM×fQ)}(h:Good pr w ν b e){k:aM}{cs:List ak}(ae:look k b=some cs){bl:Nat}(ab:ν.bx k=some bl):bl<w.heap.size:=by obtain⟨iP,us,el,g1,_,_,g4,_⟩:=h.box k cs ae;rw[ab]at g1;cases g1;exact(Array.getElem?_eq_some_iff.1 g4).1
theorem cY.newBox{C:fj}{st:br}{a:Act}{w:World}{ν:be}(h:cY C st a w ν){hk:aM}(sG:ν.bx hk=none/\ν.ow hk=none/\∀j b,¬ν.tr hk j b){n':Nat}{o':List aM}(cB:∀j,fresh n' o' j->fresh st.n st.o j/\j≠hk){cs:List ak}{us:Array Value}(el:ha)(ar:jD w ν cs us.toList):
  cY C {st with b:=cF hk cs st.b,n:=n',o:=o'} a (w.alloc (j6 cs us el)) (ν.withBox hk w.heap.size)/\
  bc (w.alloc (j6 cs us el)) (ν.withBox hk w.heap.size) (.ptr hk 0) (.pointer (some ⟨w.heap.size,0,none⟩)):=by
 obtain⟨qf,qg,aiw⟩:=sG;have aw:lZ w ν (w.alloc (j6 cs us el)) (ν.withBox hk w.heap.size):=by
  refine⟨fun b o bg=>⟨bg,S1 (h.good.alt b o bg)⟩,fun k b _ ae=>?_,fun g n u _ aX=>⟨n,u,aX,.inl ⟨rfl,rfl⟩⟩,fun b o bg=>xz (Below.heap_alloc w _ b (h.good.alt b o bg)),fun _ _ _ _ h=>h⟩;have:k≠hk:=fun e=>by subst e;rw[qf]at ae;cases ae
  simp[be.withBox,this,ae]
 have ep:(w.alloc (j6 cs us el)).heap.size=w.heap.size+1:=by simp
 have jv:∀k,(look k (cF hk cs st.b)).isSome->k=hk\/(k≠hk/\(look k st.b).isSome/\(ν.withBox hk w.heap.size).bx k=ν.bx k):=by
  intro k ae;by_cases e:k=hk
  ·exact .inl e
  ·rw[jh,if_neg (lF e)]at ae;exact .inr ⟨e,ae,by simp[be.withBox,e]⟩
 refine⟨h.over aw rfl ⟨fun bl o bg=>by rw[ep];have:=h.good.alt bl o bg;omega,fun k eU ae=>?_,fun k bH bl ae oD aq aG=>?_,fun g o aX=>?_,h.good.oinj,fun g k n v bl aX ae ay ab ad=>?_,fun k=>?_,fun bl ab k j aH=>?_⟩
  ⟨h.fr.os,h.fr.tape,h.fr.output,by rw[ep];have:=h.fr.size;omega,fun k ae hm=>?_,fun b o bg=>?_,h.fr.fresh,fun n b ab=>?_,h.fr.obn,h.fr.row,h.fr.obr,h.fr.trd,fun k j b ab=>⟨(h.fr.trb k j b ab).1,by rw[ep];have:=(h.fr.trb k j b ab).2;omega⟩,fun k j b ab=>?_,fun b o bg=>(aw.sh b o (h.fr.keep b o bg).1).trans (h.fr.sh b o bg)⟩ (fun m hm=>?_),?_⟩
 ·simp only at ae;rw[jh]at ae;by_cases e:hk=k
  ·rw[if_pos e]at ae;cases ae;subst e;refine⟨w.heap.size,us,el,by simp[be.withBox],.inr h.fr.size,fun o bg=>?_,heap_alloc_new w _,qZ aw ar⟩;have:=h.good.alt _ o bg;omega
  ·rw[if_neg e]at ae;obtain⟨bl,ck,gi,g1,g2,g3,g4,g5⟩:=h.good.box k eU ae;exact⟨bl,ck,gi,aw.bx _ _ trivial g1,g2,g3,by rw[Below.heap_alloc w _ bl (Array.getElem?_eq_some_iff.1 g4).1];exact g4,qZ aw g5⟩
 ·rcases jv k ae with rfl|⟨iJ,gE,jB⟩<;>rcases jv bH oD with rfl|⟨m1,m2,m3⟩
  ·rfl
  ·exfalso;simp only[be.withBox,if_true,dE]at aq;subst aq;rw[m3]at aG;obtain⟨eU,je⟩:=fE.1 m2;have:=h.good.boxLt je aG;omega
  ·exfalso;simp only[be.withBox,if_true,dE]at aG;subst aG;rw[jB]at aq;obtain⟨eU,je⟩:=fE.1 gE;have:=h.good.boxLt je aq;omega
  ·rw[jB]at aq;rw[m3]at aG;exact h.good.inj k bH bl gE m2 aq aG
 ·obtain⟨v,xs,g1,g2,g3,g4⟩:=h.good.own g o aX;exact⟨v,xs,g1,g2.alloc _,g3,te aw (fun _ _ _ h=>h) g4⟩
 ·rcases jv k ae with rfl|⟨iJ,gE,jB⟩
  ·simp only[be.withBox,if_true,dE]at ad;subst ad;obtain⟨o,hb⟩:=fE.1 aX;have:=h.good.ownLt hb ay ab;omega
  ·rw[jB]at ad;exact h.good.obx g k n v bl aX gE ay ab ad
 ·by_cases e:k=hk
  ·subst e;exact .inr qg
  ·rcases h.good.one k with J|J
   ·exact .inl (by simp[be.withBox,e,J])
   ·exact .inr J
 ·rcases ab with⟨bH,bC,a2⟩|ab
  ·rcases jv bH bC with rfl|⟨iJ,gE,jB⟩
   ·simp[be.withBox]at a2;subst a2;exact absurd (h.fr.trb k j _ aH).2 (Nat.lt_irrefl _)
   ·exact h.good.otr bl (.inl ⟨bH,gE,by rw[<-jB];exact a2⟩) k j aH
  ·exact h.good.otr bl (.inr ab) k j aH
 ·rw[Below.heap_alloc w _ k (by have:=h.fr.size;omega)];exact h.fr.block k ae hm
 ·obtain⟨aP,bd⟩:=h.fr.keep b o bg;exact⟨aP,(S1 (h.good.alt b o aP)).trans bd⟩
 ·exact aw.bx _ _ trivial (h.fr.obj n b ab)
 ·have cK:k≠hk:=fun e=>by subst e;exact aiw j b ab
  obtain⟨t1,t2⟩:=h.fr.trn k j b ab;exact⟨by simp[be.withBox,cK,t1],t2⟩
 ·obtain⟨f1,f2⟩:=cB m hm;obtain⟨aP,bd⟩:=h.new m f1;refine⟨?_,bd⟩;simp[be.withBox,f2,aP]
 ·simp[bc,be.withBox]
theorem cY.setBox{C:fj}{st:br}{a:Act}{w w':World}{ν:be}(h:cY C st a w ν){k:aM}{cs cs':List ak}(ae:look k st.b=some cs){bl:Nat}(ab:ν.bx k=some bl){us:Array Value}{el:ha}
  (AS:w'.os=w.os) (Mq:w'.tape=w.tape) (Mc:w'.output=w.output) (nT:∀j,j≠bl->w'.heap[j]? =w.heap[j]?) (ep:w'.heap.size=w.heap.size) (kg:w'.heap[bl]? =some (j6 cs' us el)) (ar:jD w ν cs' us.toList):
  cY C {st with b:=cF k cs' st.b} a w' ν/\lZ w ν w' ν:=by
 obtain⟨iP,fD,ar5,g1,g2,g3,g4,g5⟩:=h.good.box k cs ae;rw[ab]at g1;cases g1;have aw:lZ w ν w' ν:=by
  refine⟨fun b o bg=>⟨bg,World.cell?_of_block (nT b fun e=>?_)⟩,fun _ _ _ h=>h,fun g n u _ aX=>⟨n,u,aX,.inl ⟨rfl,rfl⟩⟩,fun b o bg=>xz (nT b fun e=>?_),fun _ _ _ _ h=>h⟩<;>
  (subst e;exact g3 o bg)
 have G5:∀j,(look j (cF k cs' st.b)).isSome->(look j st.b).isSome:=by
  intro j af;rw[jh]at af;by_cases e:k=j
  ·subst e;simp[ae]
  ·rwa[if_neg e]at af
 refine⟨h.over aw rfl ⟨fun b o bg=>by rw[ep];exact h.good.alt b o bg,fun j eU af=>?_,fun j dG b af jL=>h.good.inj j dG b (G5 j af) (G5 dG jL),fun g o aX=>?_,h.good.oinj,fun g j n v b aX af=>h.good.obx g j n v b aX (G5 j af),h.good.one,fun bl ab=>h.good.otr bl (ab.imp (fun⟨k,J,U⟩=>⟨k,G5 k J,U⟩) id)⟩
  ⟨AS.trans h.fr.os,Mq.trans h.fr.tape,Mc.trans h.fr.output,by rw[ep];exact h.fr.size,fun j af hm=>?_,fun b o bg=>?_,h.fr.fresh,h.fr.obj,h.fr.obn,h.fr.row,h.fr.obr,h.fr.trd,fun k j b ab=>⟨(h.fr.trb k j b ab).1,by rw[ep];exact(h.fr.trb k j b ab).2⟩,h.fr.trn,fun b o bg=>(aw.sh b o (h.fr.keep b o bg).1).trans (h.fr.sh b o bg)⟩ h.new,aw⟩
 ·simp only at af;rw[jh]at af;by_cases e:k=j
  ·rw[if_pos e]at af;cases af;subst e;exact⟨bl,us,el,ab,g2,g3,kg,qZ aw ar⟩
  ·rw[if_neg e]at af;obtain⟨b,ck,gi,aq,aG,bG,di,hx⟩:=h.good.box j eU af;refine⟨b,ck,gi,aq,aG,bG,?_,qZ aw hx⟩;rw[nT b fun fF=>e (h.good.inj k j bl (by simp[ae]) (by simp[af]) ab (by rw[<-fF];exact aq))];exact di
 ·obtain⟨v,xs,aq,aG,bG,di⟩:=h.good.own g o aX;refine⟨v,xs,aq,⟨aG.1,?_⟩,bG,te aw (fun _ _ _ h=>h) di⟩;rcases aG.2 with aG|⟨bb,cap,cur,f1,f2,f3,f4⟩
  ·exact .inl aG
  ·refine .inr ⟨bb,cap,cur,f1,f2,?_,f4⟩;rw[nT bb fun fF=>h.good.obx g k o.n v bl (by simp[aX]) (by simp[ae]) aq (by rw[f1,<-fF];rfl) ab];exact f3
 ·rw[nT j fun e=>by subst e;exact g2.elim hm (fun g2=>Ω)];exact h.fr.block j af hm
 ·obtain⟨aP,bd⟩:=h.fr.keep b o bg;exact⟨aP,(aw.A b o aP).2.trans bd⟩
theorem cY.storeBox{C:fj}{st:br}{a:Act}{w:World}{ν:be}(h:cY C st a w ν){k:aM}{cs cs':List ak}(ae:look k st.b=some cs){bl:Nat}(ab:ν.bx k=some bl)(bD:ie cs=true){us:Array Value}(ar:dr w ν cs' us.toList):
  cY C {st with b:=cF k cs' st.b} a (w.setRow bl us) ν:=by
 obtain⟨iP,fD,el,g1,g2,g3,g4,g5⟩:=h.good.box k cs ae;rw[ab]at g1;cases g1;rw[vP bD]at g4;have Vp:=BU ar;exact(h.setBox (w':=w.setRow bl us) ae ab (us:=us) (el:=el) rfl rfl rfl (fun j af=>setRow_other w bl j us af) (setRow_size w bl us) (by rw[vP Vp];exact setRow_heap w bl fD us el _ g4) (by rw[vQ Vp];exact ar)).1
def be.withRowOf(ν:be)(k:aM)(v:Value)(n cells:Nat):be:={A:=fun b o=>ν.A b o\/(v.ownBlock=some b/\o<cells),bx:=ν.bx,ow:=fun j=>if j=k then some (n,v)else ν.ow j,tr:=ν.tr}
theorem Bd{w:World}{A:Nat->Nat->Prop}{b:Nat}:∀(us:List Value) (off:Nat),(∀j u,us[j]? =some u->A b (off+j)/\w.cell? ⟨b,off+j,none⟩=some u)->mj w A b off us
 |[],_,_=>trivial
 |u::us,off,h=>⟨h 0 u rfl,Bd us (off+1) fun j x af=>by have:=h (j+1) x (by simpa using af);rwa[show off+(j+1)=off+1+j from by omega]at this⟩
theorem Gj{w w':World}(aX:w.grownBy w' none){b i:Nat}(h:b<w.heap.size):w'.cell? ⟨b,i,none⟩=w.cell? ⟨b,i,none⟩:=World.cell?_of_block (aX.block b h Ψ)
theorem cY.newRowM{C:fj}{st:br}{a:Act}{w w':World}{ν:be}(h:cY C st a w ν){k:aM}{xs:List ak}(ae:(ν.bx k=none/\ν.ow k=none/\∀j b,¬ν.tr k j b)\/ ∃o,look k st.e=some o/\o.n<xs.length){el sz:Nat}{v:Value}{us:List Value}
  (aX:w.grownBy w' none) (l8:w'.ownsRow w.heap.size el sz v xs.length us) (ar:dD w ν sz xs us) (h1:xs.length<=lim) {n':Nat} {o':List aM} (cB:∀j,fresh n' o' j->fresh st.n st.o j/\j≠k):
  cY C {st with e:=cF k ⟨xs.length,el,sz,some xs⟩ st.e,n:=n',o:=o'} a w' (ν.withOwn k xs.length v)/\
  ((∃b cap,v= .slice (some ⟨b,0,none⟩) xs.length cap)->bc w' (ν.withOwn k xs.length v) (.row sz k xs.length) v):=by
 have qI:∀bl,v.ownBlock=some bl->w.heap.size<=bl/\bl<w'.heap.size:=fun bl ab=>l8.lt bl ab;have aw:lZ w ν w' (ν.withOwn k xs.length v):=by
  refine⟨fun b o bg=>⟨bg,Gj aX (h.good.alt b o bg)⟩,fun j b _ af=>af,fun g n u _ jf=>?_,fun b o bg=>xz (aX.block b (h.good.alt b o bg) Ψ),fun _ _ _ _ h=>h⟩;by_cases e:g=k
  ·subst e;rcases ae with ae|⟨o,aw,bz⟩
   ·rw[ae.2.1]at jf;cases jf
   ·obtain⟨v0,fD,aq,_⟩:=h.good.own g o aw;rw[aq]at jf;cases jf;exact⟨xs.length,v,by simp[be.withOwn],.inr bz⟩
  ·exact⟨n,u,by simp[be.withOwn,e,jf],.inl ⟨rfl,rfl⟩⟩
 have lr:∀g,(look g (cF k ⟨xs.length,el,sz,some xs⟩ st.e)).isSome->g=k\/(g≠k/\(look g st.e).isSome/\(ν.withOwn k xs.length v).ow g=ν.ow g):=by
  intro g kS;by_cases e:g=k
  ·exact .inl e
  ·rw[jh,if_neg (lF e)]at kS;exact .inr ⟨e,kS,by simp[be.withOwn,e]⟩
 have Vm:∀bl,v.ownBlock=some bl->∀j,¬ν.A bl j:=fun bl ab j bg=>by have J:=h.good.alt bl j bg;have:=(qI bl ab).1;omega
 have aiE:∀j b,¬ν.tr k j b:=fun j b ab=>by
  rcases ae with ae|⟨o,hb,_⟩
  ·exact ae.2.2 j b ab
  ·obtain⟨v0,fD,aq,_⟩:=h.good.own k o hb;rw[(h.fr.trn k j b ab).2]at aq;cases aq
 refine⟨h.over aw rfl ⟨fun bl o bg=>?_,fun j eU af=>?_,h.good.inj,fun g o dR=>?_,fun g fc n n' u fi bl J U ao a6 b7 dd=>?_,fun g j n u bl J U ao a6 b7=>?_,fun j=>?_,fun bl ab bH j aH=>?_⟩
  ⟨aX.os.trans h.fr.os,aX.tape.trans h.fr.tape,aX.output.trans h.fr.output,gS h.fr.size aX.size,fun j af hm=>?_,fun b o bg=>?_,h.fr.fresh,h.fr.obj,h.fr.obn,fun m n u hm=>ES (h.fr.row m n u hm) (fun n u=>aw.ow _ n u trivial),h.fr.obr,h.fr.trd,fun k j b ab=>⟨(h.fr.trb k j b ab).1,Nat.lt_of_lt_of_le (h.fr.trb k j b ab).2 aX.size⟩,fun bH j b ab=>?_,fun b o bg=>(aw.sh b o (h.fr.keep b o bg).1).trans (h.fr.sh b o bg)⟩ (fun m hm=>?_),?_⟩
 ·have:=h.good.alt bl o bg;have:=aX.size;omega
 ·obtain⟨bl,ck,gi,g1,g2,g3,g4,g5⟩:=h.good.box j eU af;have bz:=(Array.getElem?_eq_some_iff.1 g4).1;exact⟨bl,ck,gi,g1,g2,g3,by rw[aX.block bl bz Ψ];exact g4,qZ aw g5⟩
 ·simp only at dR;rw[jh]at dR;by_cases e:k=g
  ·rw[if_pos e]at dR;cases dR;subst e;refine⟨v,us,by simp[be.withOwn],⟨l8.1,?_⟩,fun bl ab=>⟨.inr (gS h.fr.size (qI bl ab).1),fun j bg=>absurd bg (Vm bl ab j)⟩,fun ys aC=>?_⟩
   ·rcases l8.2 with aq|⟨bb,cap,cur,f1,f2,f3⟩
    ·exact .inl aq
    ·exact .inr ⟨bb,cap,cur,f1,Ω,f3⟩
   ·simp only[dE]at aC;subst aC;exact⟨rfl,BR aw ar,Vm⟩
  ·rw[if_neg e]at dR;obtain⟨v0,fD,aq,aG,bG,di⟩:=h.good.own g o dR;exact⟨v0,fD,by simp[be.withOwn,lF e,aq],aG.kept aX (by cases v0.ownBlock<;>simp),bG,te aw (fun _ _ _ h=>h) di⟩
 ·rcases lr g J with rfl|⟨iJ,gE,jB⟩<;>rcases lr fc U with rfl|⟨m1,m2,m3⟩
  ·rfl
  ·exfalso;simp only[be.withOwn,if_true,dE,jU]at ao;rw[m3]at a6;obtain⟨o,hb⟩:=fE.1 m2;have av:=h.good.ownLt hb a6 dd;have:=(qI bl (by rw[ao.2];exact b7)).1;omega
  ·exfalso;simp only[be.withOwn,if_true,dE,jU]at a6;rw[jB]at ao;obtain⟨o,hb⟩:=fE.1 gE;have av:=h.good.ownLt hb ao b7;have:=(qI bl (by rw[a6.2];exact dd)).1;omega
  ·rw[jB]at ao;rw[m3]at a6;exact h.good.oinj g fc n n' u fi bl gE m2 ao a6 b7 dd
 ·rcases lr g J with rfl|⟨iJ,gE,jB⟩
  ·simp only[be.withOwn,if_true,dE,jU]at ao;obtain⟨eU,je⟩:=fE.1 U;have av:=h.good.boxLt je b7;have:=(qI bl (by rw[ao.2];exact a6)).1;omega
  ·rw[jB]at ao;exact h.good.obx g j n u bl gE U ao a6 b7
 ·by_cases e:j=k
  ·subst e;rcases ae with ae|⟨o,hb,_⟩
   ·exact .inl ae.1
   ·obtain⟨v0,fD,aq,_⟩:=h.good.own j o hb;rcases h.good.one j with J|J
    ·exact .inl J
    ·rw[J]at aq;cases aq
  ·rcases h.good.one j with J|J
   ·exact .inl J
   ·exact .inr (by simp[be.withOwn,e,J])
 ·rcases ab with ab|⟨g,n,u,bC,a2,a3⟩
  ·exact h.good.otr bl (.inl ab) bH j aH
  ·rcases lr g bC with rfl|⟨iJ,gE,jB⟩
   ·simp only[be.withOwn,if_true,dE,jU]at a2;have J:=(qI bl (by rw[a2.2];exact a3)).1;have U:=(h.fr.trb bH j _ aH).2;omega
   ·exact h.good.otr bl (.inr ⟨g,n,u,gE,by rw[<-jB];exact a2,a3⟩) bH j aH
 ·rw[aX.block j (by have:=h.fr.size;omega) Ψ];exact h.fr.block j af hm
 ·obtain⟨aP,bd⟩:=h.fr.keep b o bg;exact⟨aP,(aw.A b o aP).2.trans bd⟩
 ·have cK:bH≠k:=fun e=>by subst e;exact aiE j b ab
  obtain⟨t1,t2⟩:=h.fr.trn bH j b ab;exact⟨t1,by simp[be.withOwn,cK,t2]⟩
 ·obtain⟨f1,f2⟩:=cB m hm;obtain⟨aP,bd,bS⟩:=h.new m f1;refine⟨aP,?_,bS⟩;simp[be.withOwn,f2,bd]
 ·intro LR;simp only[bc];exact⟨LR,h1,xs.length,v,by simp[be.withOwn],eu _,fun _=>rfl⟩
theorem cY.publish{C:fj}{st:br}{a:Act}{w:World}{ν:be}(h:cY C st a w ν){k:aM}{o:fQ}{xs:List ak}(ae:look k st.e=some o)(ad:o.xs=some xs){v:Value}(ay:ν.ow k=some (o.n,v))(h1:xs.length<=lim):
  cY C {st with e:=cF k ⟨o.n,o.el,o.sz,none⟩ st.e} a w (ν.withRowOf k v o.n (o.n*o.sz))/\
  bc w (ν.withRowOf k v o.n (o.n*o.sz)) (.slice o.sz (.own k) xs) v:=by
 obtain⟨v0,us,a1,bp,bV,cQ⟩:=h.good.own k o ae;rw[ay]at a1;cases a1;obtain⟨cZ,oO,vR⟩:=cQ xs ad;have pt:∀g,(ν.withRowOf k v o.n (o.n*o.sz)).ow g=ν.ow g:=fun g=>by
  simp only[be.withRowOf];split
  ·rename_i e;subst e;exact ay.symm
  ·rfl
 have aw:lZ w ν w (ν.withRowOf k v o.n (o.n*o.sz)):=⟨fun b o bg=>⟨.inl bg,rfl⟩,fun j b _ af=>af,fun g n u _ jf=>⟨n,u,by rw[pt];exact jf,.inl ⟨rfl,rfl⟩⟩,fun _ _ _=>rfl,fun _ _ _ _ h=>h⟩
 have lr:∀g,(look g (cF k ⟨o.n,o.el,o.sz,none⟩ st.e)).isSome->(look g st.e).isSome:=by
  intro g kS;by_cases e:k=g
  ·subst e;simp[ae]
  ·rwa[jh,if_neg e]at kS
 refine⟨h.over aw rfl ⟨fun bl i bg=>?_,fun j eU af=>?_,h.good.inj,fun g o' dR=>?_,fun g fc n n' u fi bl J U ao a6=>h.good.oinj g fc n n' u fi bl (lr g J) (lr fc U) (by rwa[pt]at ao) (by rwa[pt]at a6),fun g j n u bl J U ao=>h.good.obx g j n u bl (lr g J) U (by rwa[pt]at ao),fun j=>?_,fun bl ab=>h.good.otr bl (ab.imp id (fun⟨g,n,v,bC,a2,a3⟩=>⟨g,n,v,lr g bC,by rwa[pt]at a2,a3⟩))⟩
  ⟨h.fr.os,h.fr.tape,h.fr.output,h.fr.size,h.fr.block,fun b i bg=>⟨.inl (h.fr.keep b i bg).1,(h.fr.keep b i bg).2⟩,fun b i bg=>?_,h.fr.obj,h.fr.obn,fun m n u hm=>ES (h.fr.row m n u hm) (fun n u=>aw.ow _ n u trivial),h.fr.obr,h.fr.trd,h.fr.trb,fun bH j b ab=>⟨(h.fr.trn bH j b ab).1,by rw[pt];exact(h.fr.trn bH j b ab).2⟩,h.fr.sh⟩ (fun m hm=>?_),?_⟩
 ·rcases bg with bg|⟨bg,_⟩
  ·exact h.good.alt bl i bg
  ·exact(bp.lt bl bg).2
 ·obtain⟨bl,ck,gi,g1,g2,g3,g4,g5⟩:=h.good.box j eU af;refine⟨bl,ck,gi,g1,g2,fun i bg=>?_,g4,qZ aw g5⟩;rcases bg with bg|⟨bg,_⟩
  ·exact g3 i bg
  ·exact h.good.obx k j o.n v bl (by simp[ae]) (by simp[af]) ay bg g1
 ·simp only at dR;rw[jh]at dR;by_cases e:k=g
  ·rw[if_pos e]at dR;cases dR;subst e;refine⟨v,us,by rw[pt];exact ay,bp,fun bl ab=>⟨(bV bl ab).1,fun j bg=>?_⟩,fun ys aC=>by cases aC⟩;rcases bg with bg|⟨_,bg⟩
   ·exact(bV bl ab).2 j bg
   ·exact bg
  ·rw[if_neg e]at dR;obtain⟨v0,fD,aq,aG,bG,di⟩:=h.good.own g o' dR;have wE:∀bl,v0.ownBlock=some bl->∀j,(ν.withRowOf k v o.n (o.n*o.sz)).A bl j->ν.A bl j:=fun bl ab j bg=>by
    rcases bg with bg|⟨bg,_⟩
    ·exact bg
    ·exact absurd (h.good.oinj k g o.n o'.n v v0 bl (by simp[ae]) (by simp[dR]) ay aq bg ab) e
   exact⟨v0,fD,by rw[pt];exact aq,aG,fun bl ab=>⟨(bG bl ab).1,fun j bg=>(bG bl ab).2 j (wE bl ab j bg)⟩,te aw wE di⟩
 ·rcases h.good.one j with J|J
  ·exact .inl J
  ·exact .inr (by rw[pt];exact J)
 ·rcases bg with bg|⟨bg,_⟩
  ·exact h.fr.fresh b i bg
  ·exact .inr (bV b bg).1
 ·obtain⟨aP,bd,bS⟩:=h.new m hm;exact⟨aP,by rw[pt];exact bd,bS⟩
 ·simp only[bc];refine⟨?_,fun e=>(by cases e),fun g e=>?_,fun _ _ e=>(by cases e),fun _ e=>(by cases e)⟩
  ·rcases bp.2 with⟨aq,aG⟩|⟨bb,cap,cur,f1,f2,f3,f4,f5,f6,f7⟩
   ·refine⟨none,0,by rw[aq,cZ,aG],Ω,⟨by simp[maxLen],h1⟩,.inl (List.eq_nil_of_length_eq_zero Ω)⟩
   ·refine⟨some ⟨bb,0,none⟩,cap,by rw[f1,cZ],Ω,⟨f5,h1⟩,.inr ⟨bb,0,us,rfl,Bd us 0 fun j u af=>?_,BR aw oO⟩⟩;have pB:v.ownBlock=some bb:=by rw[f1];rfl
    have AL:j<us.length:=(eS.1 af).1;refine⟨.inr ⟨pB,by rw[bp.1]at AL;omega⟩,?_⟩;have:=bp.cells pB j u af;rwa[p0]at this
  ·cases e;exact⟨o.n,v,by rw[pt];exact ay,Ω,fun _=>rfl⟩
theorem Z7{α:Type}(k:aM)(p q:α):∀l,cF k q (cF k p l)=cF k q l
 |[]=>by simp[cF]
 |(i,r)::l=>by
  by_cases e:i=k
  ·simp[cF,e]
  ·simp[cF,e,Z7 k p q l]
theorem cY.newRow{C:fj}{st:br}{a:Act}{w w':World}{ν:be}(h:cY C st a w ν){k:aM}{xs:List ak}(ae:(ν.bx k=none/\ν.ow k=none/\∀j b,¬ν.tr k j b)\/ ∃o,look k st.e=some o/\o.n<xs.length){el sz:Nat}{v:Value}{us:List Value}
  (aX:w.grownBy w' none) (l8:w'.ownsRow w.heap.size el sz v xs.length us) (ar:dD w ν sz xs us) (h1:xs.length<=lim) {n':Nat} {o':List aM} (cB:∀j,fresh n' o' j->fresh st.n st.o j/\j≠k):
  cY C {st with e:=cF k ⟨xs.length,el,sz,none⟩ st.e,n:=n',o:=o'} a w' ((ν.withOwn k xs.length v).withRowOf k v xs.length (xs.length*sz))/\
  bc w' ((ν.withOwn k xs.length v).withRowOf k v xs.length (xs.length*sz)) (.slice sz (.own k) xs) v:=by
 have J:=(h.newRowM ae aX l8 ar h1 cB).1;have U:=J.publish (k:=k) (o:=⟨xs.length,el,sz,some xs⟩) (xs:=xs) (v:=v) (by simp[jh]) rfl (by simp[be.withOwn]) h1;simpa only[Z7]using U
theorem cY.setRowM{C:fj}{st:br}{a:Act}{w w':World}{ν:be}(h:cY C st a w ν){k:aM}{o:fQ}{xs xs':List ak}(ae:look k st.e=some o)(ad:o.xs=some xs){bl:Nat}{v v':Value}(ay:ν.ow k=some (o.n,v))(pB:v.ownBlock=some bl)(Hr:v'.ownBlock=some bl)
  (au:(xs'.length=o.n/\v'=v)\/o.n<xs'.length) {us:List Value} (AS:w'.os=w.os) (Mq:w'.tape=w.tape) (Mc:w'.output=w.output) (nT:∀j,j≠bl->w'.heap[j]? =w.heap[j]?) (ep:w'.heap.size=w.heap.size)
  (l8:w'.ownsRow 0 o.el o.sz v' xs'.length us) (ar:dD w ν o.sz xs' us):
  cY C {st with e:=cF k ⟨xs'.length,o.el,o.sz,some xs'⟩ st.e} a w' (ν.withOwn k xs'.length v')/\lZ w ν w' (ν.withOwn k xs'.length v')/\(xs'.length<=lim->bc w' (ν.withOwn k xs'.length v') (.row o.sz k xs'.length) v'):=by
 obtain⟨v0,fD,a1,bp,bV,cQ⟩:=h.good.own k o ae;rw[ay]at a1;cases a1;obtain⟨cZ,oO,vR⟩:=cQ xs ad;have aw:lZ w ν w' (ν.withOwn k xs'.length v'):=by
  refine⟨fun b i bg=>⟨bg,World.cell?_of_block (nT b fun e=>by subst e;exact vR b pB i bg)⟩,fun j b _ af=>af,fun g n u _ jf=>?_,fun b i bg=>xz (nT b fun e=>by subst e;exact vR b pB i bg),fun _ _ _ _ h=>h⟩;by_cases e:g=k
  ·subst e;rw[ay]at jf;cases jf;refine⟨xs'.length,v',by simp[be.withOwn],?_⟩;rcases au with⟨J,U⟩|J
   ·exact .inl ⟨J,U⟩
   ·exact .inr J
  ·exact⟨n,u,by simp[be.withOwn,e,jf],.inl ⟨rfl,rfl⟩⟩
 have lr:∀g n u,(look g (cF k ⟨xs'.length,o.el,o.sz,some xs'⟩ st.e)).isSome->(ν.withOwn k xs'.length v').ow g=some (n,u)->∀b,u.ownBlock=some b->(look g st.e).isSome/\∃n u,ν.ow g=some (n,u)/\u.ownBlock=some b:=by
  intro g n u kS jf b ab;by_cases e:g=k
  ·subst e;simp only[be.withOwn,if_true,dE,jU]at jf;rw[<-jf.2,Hr]at ab;cases ab;exact⟨by simp[ae],o.n,v,ay,pB⟩
  ·rw[jh,if_neg (lF e)]at kS;simp only[be.withOwn,e,if_false]at jf;exact⟨kS,n,u,jf,ab⟩
 refine⟨h.over aw rfl ⟨fun b i bg=>by rw[ep];exact h.good.alt b i bg,fun j eU af=>?_,h.good.inj,fun g o' dR=>?_,fun g fc n n' u fi b J U ao a6 b7 dd=>?_,fun g j n u b J U ao a6 b7=>?_,fun j=>?_,fun b ab=>h.good.otr b (ab.imp id (fun⟨g,n,v,bC,a2,a3⟩=>by obtain⟨cg,iJ,jm,cc,gq⟩:=lr g n v bC a2 b a3;exact⟨g,iJ,jm,cg,cc,gq⟩))⟩
  ⟨AS.trans h.fr.os,Mq.trans h.fr.tape,Mc.trans h.fr.output,by rw[ep];exact h.fr.size,fun j af hm=>?_,fun b i bg=>?_,h.fr.fresh,h.fr.obj,h.fr.obn,fun m n u hm=>ES (h.fr.row m n u hm) (fun n u=>aw.ow _ n u trivial),h.fr.obr,h.fr.trd,fun k j b ab=>⟨(h.fr.trb k j b ab).1,by rw[ep];exact(h.fr.trb k j b ab).2⟩,fun bH j b ab=>?_,fun b o bg=>(aw.sh b o (h.fr.keep b o bg).1).trans (h.fr.sh b o bg)⟩ (fun m hm=>?_),aw,?_⟩
 ·obtain⟨b,ck,gi,g1,g2,g3,g4,g5⟩:=h.good.box j eU af;have cK:b≠bl:=fun e=>h.good.obx k j o.n _ bl (by simp[ae]) (by simp[af]) ay pB (by rw[<-e];exact g1);exact⟨b,ck,gi,g1,g2,g3,by rw[nT b cK];exact g4,qZ aw g5⟩
 ·simp only at dR;rw[jh]at dR;by_cases e:k=g
  ·rw[if_pos e]at dR;cases dR;subst e;refine⟨v',us,by simp[be.withOwn],l8,fun b ab=>?_,fun ys aC=>?_⟩
   ·rw[Hr]at ab;cases ab;exact⟨(bV bl pB).1,fun j bg=>absurd bg (vR bl pB j)⟩
   ·simp only[dE]at aC;subst aC;exact⟨rfl,BR aw ar,fun b ab=>by rw[Hr]at ab;cases ab;exact vR bl pB⟩
  ·rw[if_neg e]at dR;obtain⟨v0,fD,aq,aG,bG,di⟩:=h.good.own g o' dR;have cK:∀b,v0.ownBlock=some b->b≠bl:=fun b ab KL=>e (h.good.oinj k g o.n o'.n _ v0 bl (by simp[ae]) (by simp[dR]) ay aq pB (by rw[<-KL];exact ab));refine⟨v0,fD,by simp[be.withOwn,lF e,aq],⟨aG.1,?_⟩,bG,te aw (fun _ _ _ h=>h) di⟩;rcases aG.2 with aG|⟨bb,CJ,nb,f1,f2,f3,f4⟩
   ·exact .inl aG
   ·exact .inr ⟨bb,CJ,nb,f1,f2,by rw[nT bb (cK bb (by rw[f1];rfl))];exact f3,f4⟩
 ·obtain⟨bC,iJ,jm,a2,a3⟩:=lr g n u J ao b b7;obtain⟨cg,gE,jS,cc,gq⟩:=lr fc n' fi U a6 b dd;exact h.good.oinj g fc iJ gE jm jS b bC cg a2 cc a3 gq
 ·obtain⟨bC,iJ,jm,a2,a3⟩:=lr g n u J ao b a6;exact h.good.obx g j iJ jm b bC U a2 a3 b7
 ·by_cases e:j=k
  ·subst e;rcases h.good.one j with J|J
   ·exact .inl J
   ·rw[J]at ay;cases ay
  ·rcases h.good.one j with J|J
   ·exact .inl J
   ·exact .inr (by simp[be.withOwn,e,J])
 ·rw[nT j fun e=>by subst e;exact(bV j pB).1.elim hm (fun g2=>Ω)];exact h.fr.block j af hm
 ·obtain⟨aP,bd⟩:=h.fr.keep b i bg;exact⟨aP,(aw.A b i aP).2.trans bd⟩
 ·obtain⟨t1,t2⟩:=h.fr.trn bH j b ab;have cK:bH≠k:=fun e=>by subst e;rw[t2]at ay;cases ay
  exact⟨t1,by simp[be.withOwn,cK,t2]⟩
 ·obtain⟨aP,bd,bS⟩:=h.new m hm;refine⟨aP,?_,bS⟩;have:m≠k:=fun e=>by subst e;rw[bd]at ay;cases ay
  simp[be.withOwn,this,bd]
 ·intro h1;simp only[bc];obtain⟨cap,LR⟩:=X1 l8 Hr;exact⟨⟨bl,cap,LR⟩,h1,xs'.length,v',by simp[be.withOwn],eu _,fun _=>rfl⟩
theorem cY.inPlace{C:fj}{st:br}{a:Act}{w:World}{ν:be}(h:cY C st a w ν){k:aM}{o:fQ}(ae:look k st.e=some o){bl cap:Nat}{cur:Array Value}(ay:ν.ow k=some (o.n,.slice (some ⟨bl,0,none⟩) o.n cap))
  (yo:w.heap[bl]? =some (.cells cur o.el (0,0))) (AB:cap<=maxLen) (ep:cur.size=cap*o.sz) {xs ys:List ak} {us ns:List Value} (qk:xs.length=o.n) (rH:cur.toList.take (o.n*o.sz)=us) (ar:dD w ν o.sz xs us) (AE:dD w ν o.sz ys ns)
  (eW:0<ys.length) (sK:o.n+ys.length<=cap) (h1:xs.length+ys.length<=lim):
  cY C {st with e:=cF k ⟨o.n+ys.length,o.el,o.sz,none⟩ st.e} a (w.setRow bl (us++ns++cur.toList.drop (o.n*o.sz+ns.length)).toArray)
   (ν.withRowOf k (.slice (some ⟨bl,0,none⟩) (o.n+ys.length) cap) (o.n+ys.length) ((o.n+ys.length)*o.sz))/\
  bc (w.setRow bl (us++ns++cur.toList.drop (o.n*o.sz+ns.length)).toArray) (ν.withRowOf k (.slice (some ⟨bl,0,none⟩) (o.n+ys.length) cap) (o.n+ys.length) ((o.n+ys.length)*o.sz))
   (.slice o.sz (.own k) (xs++ys)) (.slice (some ⟨bl,0,none⟩) (o.n+ys.length) cap):=by
 have j1:=uE AE;have pA:=uE ar;rw[qk]at pA;have hmul:(o.n+ys.length)*o.sz<=cap*o.sz:=pV _ sK;rw[o3]at hmul;obtain⟨v0,fD,a1,bp,bV,_⟩:=h.good.own k o ae;rw[ay]at a1;cases a1;obtain⟨cQ,cZ⟩:=bV bl rfl;generalize A1:w.setRow bl (us++ns++cur.toList.drop (o.n*o.sz+ns.length)).toArray=w';have nT:∀j,j≠bl->w'.heap[j]? =w.heap[j]?:=fun j af=>by rw[<-A1];exact setRow_other w bl j _ af
 have kg:w'.heap[bl]? =some (.cells (us++ns++cur.toList.drop (o.n*o.sz+ns.length)).toArray o.el (0,0)):=by rw[<-A1];exact setRow_heap w bl cur _ o.el _ yo
 have Ml:w'.heap.size=w.heap.size:=by rw[<-A1];exact setRow_size w bl _
 have nj:∀j,j<o.n*o.sz->w'.cell? ⟨bl,j,none⟩=w.cell? ⟨bl,j,none⟩:=by intro j af;simp only[World.cell?,kg,yo,jG,gZ,if_false];rw[List.getElem?_toArray,List.append_assoc,List.getElem?_append_left Ω,<-rH,List.getElem?_take,if_pos af];simp
 have aw:lZ w ν w' (ν.withRowOf k (.slice (some ⟨bl,0,none⟩) (o.n+ys.length) cap) (o.n+ys.length) ((o.n+ys.length)*o.sz)):=by
  refine⟨fun b j bg=>⟨.inl bg,?_⟩,fun j b _ af=>af,fun g n u _ jf=>?_,fun b j bg=>?_,fun _ _ _ _ h=>h⟩;rotate_left 2
  ·by_cases e:b=bl
   ·subst e;simp only[shape,kg,yo,List.size_toArray,o0,tB,Array.length_toList];congr 2;omega
   ·exact xz (nT b e)
  ·by_cases e:b=bl
   ·subst e;exact nj j (cZ j bg)
   ·exact World.cell?_of_block (nT b e)
  ·by_cases e:g=k
   ·subst e;rw[ay]at jf;cases jf;exact⟨o.n+ys.length,.slice (some ⟨bl,0,none⟩) (o.n+ys.length) cap,by simp[be.withRowOf],.inr Ω⟩
   ·exact⟨n,u,by simp[be.withRowOf,e,jf],.inl ⟨rfl,rfl⟩⟩
 have lr:∀g,(look g (cF k ⟨o.n+ys.length,o.el,o.sz,none⟩ st.e)).isSome->g=k\/(g≠k/\(look g st.e).isSome/\(ν.withRowOf k (.slice (some ⟨bl,0,none⟩) (o.n+ys.length) cap) (o.n+ys.length) ((o.n+ys.length)*o.sz)).ow g=ν.ow g):=by
  intro g kS;by_cases e:g=k
  ·exact .inl e
  ·rw[jh,if_neg (lF e)]at kS;exact .inr ⟨e,kS,by simp[be.withRowOf,e]⟩
 have asD:bl<w.heap.size:=(Array.getElem?_eq_some_iff.1 yo).1;have ahI:∀j u,(us++ns)[j]? =some u->w'.cell? ⟨bl,j,none⟩=some u:=by intro j u af;have AL:=(eS.1 af).1;simp only[World.cell?,kg,jG,gZ,if_false];rw[List.getElem?_toArray,List.getElem?_append_left AL];exact af
 refine⟨h.over aw rfl ⟨fun b j bg=>?_,fun j eU af=>?_,h.good.inj,fun g o' dR=>?_,fun g fc n n' u fi b J U ao a6 b7 dd=>?_,fun g j n u b J U ao a6 b7=>?_,fun j=>?_,fun b ab=>h.good.otr b ?_⟩
  ⟨by rw[<-A1];exact h.fr.os,by rw[<-A1];exact h.fr.tape,by rw[<-A1];exact h.fr.output,by rw[Ml];exact h.fr.size,fun j af hm=>?_,fun b j bg=>?_,fun b j bg=>?_,h.fr.obj,h.fr.obn,fun m n u hm=>ES (h.fr.row m n u hm) (fun n u=>aw.ow _ n u trivial),h.fr.obr,h.fr.trd,fun k j b ab=>⟨(h.fr.trb k j b ab).1,by rw[Ml];exact(h.fr.trb k j b ab).2⟩,fun bH j b ab=>?_,fun b o bg=>(aw.sh b o (h.fr.keep b o bg).1).trans (h.fr.sh b o bg)⟩ (fun m hm=>?_),?_⟩
 ·rw[Ml];rcases bg with bg|⟨bg,_⟩
  ·exact h.good.alt b j bg
  ·simp only[oZ,dE]at bg;omega
 ·obtain⟨b,ck,gi,g1,g2,g3,g4,g5⟩:=h.good.box j eU af;have cK:b≠bl:=fun e=>h.good.obx k j o.n _ bl (by simp[ae]) (by simp[af]) ay rfl (by rw[<-e];exact g1);refine⟨b,ck,gi,g1,g2,fun i bg=>?_,by rw[nT b cK];exact g4,qZ aw g5⟩;rcases bg with bg|⟨bg,_⟩
  ·exact g3 i bg
  ·simp only[oZ,dE]at bg;exact cK bg.symm
 ·simp only at dR;rw[jh]at dR;by_cases e:k=g
  ·rw[if_pos e]at dR;cases dR;subst e;refine⟨.slice (some ⟨bl,0,none⟩) (o.n+ys.length) cap,us++ns,by simp[be.withRowOf],⟨by rw[o0,pA,j1,o3],.inr ⟨bl,cap,_,rfl,Nat.zero_le _,kg,sK,AB,?_,?_⟩⟩,fun b ab=>⟨?_,fun j bg=>?_⟩,fun ys aC=>by cases aC⟩
   ·simp only[List.size_toArray,o0,tB,Array.length_toList];omega
   ·have av:(us++ns).length=(o.n+ys.length)*o.sz:=by rw[o0,pA,j1,o3]
    simp only[<-av];rw[List.take_append_of_le_length (eu _),k9]
   ·simp only[oZ,dE]at ab;subst ab;exact cQ
   ·simp only[oZ,dE]at ab;subst ab;rcases bg with bg|⟨_,bg⟩
    ·have:=cZ j bg;simp only;rw[o3];omega
    ·exact bg
  ·rw[if_neg e]at dR;obtain⟨v0,fD,aq,aG,bG,di⟩:=h.good.own g o' dR;have cK:∀b,v0.ownBlock=some b->b≠bl:=fun b ab KL=>e (h.good.oinj k g o.n o'.n _ v0 bl (by simp[ae]) (by simp[dR]) ay aq rfl (by rw[<-KL];exact ab));have wE:∀b,v0.ownBlock=some b->∀j,(ν.withRowOf k (.slice (some ⟨bl,0,none⟩) (o.n+ys.length) cap) (o.n+ys.length) ((o.n+ys.length)*o.sz)).A b j->ν.A b j:=fun b ab j bg=>by
    rcases bg with bg|⟨bg,_⟩
    ·exact bg
    ·simp only[oZ,dE]at bg;exact absurd bg.symm (cK b ab)
   refine⟨v0,fD,by simp[be.withRowOf,lF e,aq],⟨aG.1,?_⟩,fun b ab=>⟨(bG b ab).1,fun j bg=>(bG b ab).2 j (wE b ab j bg)⟩,te aw wE di⟩;rcases aG.2 with aG|⟨bb,CJ,nb,f1,f2,f3,f4⟩
   ·exact .inl aG
   ·exact .inr ⟨bb,CJ,nb,f1,f2,by rw[nT bb (cK bb (by rw[f1];rfl))];exact f3,f4⟩
 ·rcases lr g J with rfl|⟨iJ,gE,jB⟩<;>rcases lr fc U with rfl|⟨m1,m2,m3⟩
  ·rfl
  ·exfalso;simp only[be.withRowOf,if_true,dE,jU]at ao;rw[m3]at a6;rw[<-ao.2]at b7;simp only[oZ,dE]at b7;subst b7;exact m1 (h.good.oinj fc g n' o.n fi _ bl m2 (by simp[ae]) a6 ay dd rfl)
  ·exfalso;simp only[be.withRowOf,if_true,dE,jU]at a6;rw[jB]at ao;rw[<-a6.2]at dd;simp only[oZ,dE]at dd;subst dd;exact iJ (h.good.oinj g fc n o.n u _ bl gE (by simp[ae]) ao ay b7 rfl)
  ·rw[jB]at ao;rw[m3]at a6;exact h.good.oinj g fc n n' u fi b gE m2 ao a6 b7 dd
 ·rcases lr g J with rfl|⟨iJ,gE,jB⟩
  ·simp only[be.withRowOf,if_true,dE,jU]at ao;rw[<-ao.2]at a6;simp only[oZ,dE]at a6;subst a6;exact h.good.obx g j o.n _ bl (by simp[ae]) U ay rfl b7
  ·rw[jB]at ao;exact h.good.obx g j n u b gE U ao a6 b7
 ·by_cases e:j=k
  ·subst e;rcases h.good.one j with J|J
   ·exact .inl J
   ·rw[J]at ay;cases ay
  ·rcases h.good.one j with J|J
   ·exact .inl J
   ·exact .inr (by simp[be.withRowOf,e,J])
 ·rcases ab with ab|⟨g,n,u,bC,a2,a3⟩
  ·exact .inl ab
  ·rcases lr g bC with rfl|⟨iJ,gE,jB⟩
   ·simp only[be.withRowOf,if_true,dE,jU]at a2;rw[<-a2.2]at a3;exact .inr ⟨g,_,_,by simp[ae],ay,a3⟩
   ·exact .inr ⟨g,n,u,gE,by rw[<-jB];exact a2,a3⟩
 ·rw[nT j fun e=>by subst e;exact cQ.elim hm (fun g2=>Ω)];exact h.fr.block j af hm
 ·obtain⟨aP,bd⟩:=h.fr.keep b j bg;exact⟨.inl aP,(aw.A b j aP).2.trans bd⟩
 ·rcases bg with bg|⟨bg,_⟩
  ·exact h.fr.fresh b j bg
  ·simp only[oZ,dE]at bg;subst bg;exact .inr cQ
 ·obtain⟨t1,t2⟩:=h.fr.trn bH j b ab;have cK:bH≠k:=fun e=>by subst e;rw[t2]at ay;cases ay
  exact⟨t1,by simp[be.withRowOf,cK,t2]⟩
 ·obtain⟨aP,bd,bS⟩:=h.new m hm;refine⟨aP,?_,bS⟩;have:m≠k:=fun e=>by subst e;rw[bd]at ay;cases ay
  simp[be.withRowOf,this,bd]
 ·simp only[bc];refine⟨⟨some ⟨bl,0,none⟩,cap,by simp[qk],by simp;omega,⟨AB,by simpa using h1⟩,.inr ⟨bl,0,us++ns,rfl,Bd _ 0 fun j u af=>?_,EL (BR aw ar) (BR aw AE)⟩⟩,fun e=>(by cases e),fun g e=>?_,fun _ _ e=>(by cases e),fun _ e=>(by cases e)⟩
  ·have AL:=(eS.1 af).1;rw[Nat.zero_add];refine⟨.inr ⟨rfl,?_⟩,ahI j u af⟩;rw[o0,pA,j1]at AL;rw[o3];exact AL
  ·cases e;exact⟨o.n+ys.length,.slice (some ⟨bl,0,none⟩) (o.n+ys.length) cap,by simp[be.withRowOf],by simp[qk],fun _=>rfl⟩
theorem Jc{P:cJ}{w:World}{t ty e:ha}{i:TypeInfo}(aH:P.underlying t=some (.slice e))(hi:P.info? e=some i)(b:Option Addr)(n cap:Nat)(au:n<=cap)(x:Option Addr)(c:Nat):
  (Builtin.append_ #[t,t] ty #[.slice b n cap,.slice x 0 c]).run P w= .ok (.slice b n cap) w:=by
 cases b<;>cases x<;>simp[Builtin.append_,run_underlying aH,sizeOf,typeInfo,hi,Builtin.lenOf,au,Builtin.firstCells,loadCells,loadCellsFrom,storeCells]
inductive ev where
 |v (d:Nat) (i:gg)
 |box (d:Nat) (key:Option Nat) (x:dw)
 |alloc (d:Nat) (key:Option Nat) (zero:ak)
 |store (sz:Nat) (x y:dw)
 |bsl (d:Nat) (sz el:Nat) (xs:List dw)
 |app (d:Nat) (sz el:Nat) (x y:dw)
 |bslm (d:Nat) (key:Option Nat) (sz el:Nat) (xs:List dw)
 |appm (d:Nat) (key:Option Nat) (sz el:Nat) (x y:dw)
 |mkmap (d:Nat) (key:Option Nat)
 |mput (ch:jW) (x k v:dw)
 |range (d:Nat) (key:Option Nat) (x:dw)
 |storeE (sz:Nat) (x y:dw)
 |mks (d:Nat) (key:Option Nat) (sz el:Nat) (z:ak) (x:dw)
def j5(st:br):Option Nat->aM
 |none=>.loc st.n
 |some m=>.obj m
def qR(st:br):Option Nat->Prop
 |none=>.loc st.n∉st.o
 |some m=>.obj m∉st.o
def n2(st:br):Option Nat->Nat
 |none=>st.n+1
 |some _=>st.n
def n3(st:br):Option Nat->List aM
 |none=>st.o
 |some m=>.obj m::st.o
theorem xi{st:br}{key:Option Nat}(h:qR st key):fresh st.n st.o (j5 st key):=by cases key<;>simp[j5,fresh,qR]at h⊢ <;>exact h
theorem xj{st:br}{key:Option Nat}:∀j,fresh (n2 st key) (n3 st key) j->fresh st.n st.o j/\j≠j5 st key:=by
 intro j af;cases key<;>cases j<;>simp[fresh,n2,n3,j5]at af⊢
 ·exact⟨⟨Ω,af.2⟩,Ω⟩
 ·exact af
 ·exact af
 ·exact⟨af.2,af.1⟩
def tH(sz:Nat):List ak->Prop
 |[]=>True
 |p::cE=>(eR p=true/\(cells p).length=sz)/\tH sz cE
def pH(ch:jW)(k v:ak):List ak->Option (List ak)
 | .hdm clock borns::kvs=>if w7 ch k=false then none else match vL ch k v kvs with
  |some (some xb)=>some (.hdm clock borns::xb)
  |some none=>some (.hdm (clock+1) (borns++[clock])::(kvs++[k,v]))
  |none=>none
 |_=>none
def zh(m:aM):List ak->Option (List ak)
 | .hdm clock _::_=>some [.hdi clock [] clock,.gmap m]
 |_=>none
def tI(st:br)(sz el:Nat)(x y:ak):Option ((Option (aM×List ak))×List ak):=
 match x,y with
 | .slice dH .nil _,.slice jE _ ys=>if dH=sz/\jE=sz then some (none,ys)else none
 | .row dH k n,.slice jE _ ys=>if dH=sz/\jE=sz then
   match look k st.e with
   |some ⟨n',gi,xD,some xs⟩=>if n'=n/\gi=el/\xD=sz then some (some (k,xs),ys)else none
   |_=>none
  else none
 |_,_=>none
def qw:ak->Nat->List ak->ak
 | .agg eU,f,cs=>.agg (oQ eU f cs)
 |_,_,[q]=>q
 |_,_,_=>.junk
def rU(st:br)(sz:Nat)(p v:ak):Option (Prop×br):=
 match p with
 | .rptr dH k n i f=>match look k st.e with
  |some ⟨n',el,jE,some xs⟩=>if n'=n/\jE=dH then
    match xs[i]? with
    |some q=>some (eR q=true/\eR v=true/\(cells v).length=sz/\f+sz<=(cells q).length/\0<sz,{st with e:=cF k ⟨n',el,jE,some (xs.set i (qw q f (cells v)))⟩ st.e})
    |none=>none
   else none
  |_=>none
 |_=>none
def mL(st:br):ev->Option (Prop×br)
 | .mks d key sz el z x=>match cy st.t x with
  | .int _ n=>some (qR st key/\0<=n/\n<=lim,
    {t:=put d (.row sz (j5 st key) n.toNat) st.t,b:=st.b,e:=cF (j5 st key) ⟨n.toNat,el,sz,some (List.replicate n.toNat z)⟩ st.e,n:=n2 st key,o:=n3 st key})
  |_=>none
 | .bslm d key sz el xs=>some (qR st key/\tH sz (xs.map (cy st.t)),
   {t:=put d (.row sz (j5 st key) xs.length) st.t,b:=st.b,e:=cF (j5 st key) ⟨xs.length,el,sz,some (xs.map (cy st.t))⟩ st.e,n:=n2 st key,o:=n3 st key})
 | .appm d key sz el x y=>match tI st sz el (cy st.t x) (cy st.t y)with
  |some (none,ys)=>some (qR st key/\ys.length<=lim/\ys≠[],
    {t:=put d (.row sz (j5 st key) ys.length) st.t,b:=st.b,e:=cF (j5 st key) ⟨ys.length,el,sz,some ys⟩ st.e,n:=n2 st key,o:=n3 st key})
  |some (some (k,xs),ys)=>some (xs.length+ys.length<=lim,{st with t:=put d (.row sz k (xs.length+ys.length)) st.t,e:=cF k ⟨xs.length+ys.length,el,sz,some (xs++ys)⟩ st.e})
  |none=>none
 | .mkmap d key=>some (qR st key,{t:=put d (.gmap (j5 st key)) st.t,b:=cF (j5 st key) [.hdm 0 []] st.b,e:=st.e,n:=n2 st key,o:=n3 st key})
 | .mput ch x k v=>match cy st.t x with
  | .gmap m=>match look m st.b with
   |some cs=>match pH ch (cy st.t k) (cy st.t v) cs with
    |some cs'=>some (True,{st with b:=cF m cs' st.b})
    |none=>none
   |none=>none
  |_=>none
 | .range d key x=>match cy st.t x with
  | .gmap m=>match look m st.b with
   |some cs=>match zh m cs with
    |some cs'=>some (qR st key,{t:=put d (.ptr (j5 st key) 0) st.t,b:=cF (j5 st key) cs' st.b,e:=st.e,n:=n2 st key,o:=n3 st key})
    |none=>none
   |none=>none
  |_=>none
 | .v d i=>match hD st i with
  |some (c,p)=>some (c,{st with t:=put d p st.t})
  |none=>none
 | .storeE sz x y=>rU st sz (cy st.t x) (cy st.t y)
 | .box d key x=>some (qR st key/\eR (cy st.t x)=true,
   {t:=put d (.ptr (j5 st key) 0) st.t,b:=cF (j5 st key) (cells (cy st.t x)) st.b,e:=st.e,n:=n2 st key,o:=n3 st key})
 | .alloc d key z=>some (qR st key,{t:=put d (.ptr (j5 st key) 0) st.t,b:=cF (j5 st key) (cells z) st.b,e:=st.e,n:=n2 st key,o:=n3 st key})
 | .store sz x y=>match cy st.t x with
  | .ptr k off=>match look k st.b with
   |some cs=>some (ie cs=true/\eR (cy st.t y)=true/\(cells (cy st.t y)).length=sz/\off+sz<=cs.length,{st with b:=cF k (oQ cs off (cells (cy st.t y))) st.b})
   |none=>none
  |p=>rU st sz p (cy st.t y)
 | .bsl d sz el xs=>some (qR st none/\tH sz (xs.map (cy st.t)),
   {st with t:=put d (.slice sz (.own (.loc st.n)) (xs.map (cy st.t))) st.t,e:=cF (.loc st.n) ⟨xs.length,el,sz,none⟩ st.e,n:=st.n+1})
 | .app d sz el x y=>match cy st.t x,cy st.t y with
  | .slice dH tag xs,.slice jE _ ys=>if dH=sz/\jE=sz then
    match tag with
    | .own k=>match look k st.e with
     |some o=>some (o.n=xs.length/\o.el=el/\o.sz=sz/\xs.length+ys.length<=lim,
       {st with t:=put d (.slice sz (.own k) (xs++ys)) st.t,e:=cF k ⟨xs.length+ys.length,el,sz,none⟩ st.e})
     |none=>none
    | .nil=>some (qR st none/\ys.length<=lim,{st with t:=put d (.slice sz (.own (.loc st.n)) ys) st.t,e:=cF (.loc st.n) ⟨ys.length,el,sz,none⟩ st.e,n:=st.n+1})
    |_=>none
   else none
  |_,_=>none
def eJ(κ:aM)(n':Nat)(o':List aM)(st:br):ev->Option (Prop×br)
 | .mks d _ sz el z x=>match cy st.t x with
  | .int _ n=>some (0<=n/\n<=lim,
    {t:=put d (.row sz κ n.toNat) st.t,b:=st.b,e:=cF κ ⟨n.toNat,el,sz,some (List.replicate n.toNat z)⟩ st.e,n:=n',o:=o'})
  |_=>none
 | .bslm d _ sz el xs=>some (tH sz (xs.map (cy st.t)),
   {t:=put d (.row sz κ xs.length) st.t,b:=st.b,e:=cF κ ⟨xs.length,el,sz,some (xs.map (cy st.t))⟩ st.e,n:=n',o:=o'})
 | .appm d _ sz el x y=>match tI st sz el (cy st.t x) (cy st.t y)with
  |some (none,ys)=>some (ys.length<=lim/\ys≠[],
    {t:=put d (.row sz κ ys.length) st.t,b:=st.b,e:=cF κ ⟨ys.length,el,sz,some ys⟩ st.e,n:=n',o:=o'})
  |some (some (k,xs),ys)=>some (xs.length+ys.length<=lim,{st with t:=put d (.row sz k (xs.length+ys.length)) st.t,e:=cF k ⟨xs.length+ys.length,el,sz,some (xs++ys)⟩ st.e})
  |none=>none
 | .mkmap d _=>some (True,{t:=put d (.gmap κ) st.t,b:=cF κ [.hdm 0 []] st.b,e:=st.e,n:=n',o:=o'})
 | .mput ch x k v=>match cy st.t x with
  | .gmap m=>match look m st.b with
   |some cs=>match pH ch (cy st.t k) (cy st.t v) cs with
    |some cs'=>some (True,{st with b:=cF m cs' st.b})
    |none=>none
   |none=>none
  |_=>none
 | .range d _ x=>match cy st.t x with
  | .gmap m=>match look m st.b with
   |some cs=>match zh m cs with
    |some cs'=>some (True,{t:=put d (.ptr κ 0) st.t,b:=cF κ cs' st.b,e:=st.e,n:=n',o:=o'})
    |none=>none
   |none=>none
  |_=>none
 | .v d i=>match hD st i with
  |some (c,p)=>some (c,{st with t:=put d p st.t})
  |none=>none
 | .storeE sz x y=>rU st sz (cy st.t x) (cy st.t y)
 | .box d _ x=>some (eR (cy st.t x)=true,{t:=put d (.ptr κ 0) st.t,b:=cF κ (cells (cy st.t x)) st.b,e:=st.e,n:=n',o:=o'})
 | .alloc d _ z=>some (True,{t:=put d (.ptr κ 0) st.t,b:=cF κ (cells z) st.b,e:=st.e,n:=n',o:=o'})
 | .store sz x y=>match cy st.t x with
  | .ptr k off=>match look k st.b with
   |some cs=>some (ie cs=true/\eR (cy st.t y)=true/\(cells (cy st.t y)).length=sz/\off+sz<=cs.length,{st with b:=cF k (oQ cs off (cells (cy st.t y))) st.b})
   |none=>none
  |p=>rU st sz p (cy st.t y)
 | .bsl d sz el xs=>some (tH sz (xs.map (cy st.t)),
   {st with t:=put d (.slice sz (.own κ) (xs.map (cy st.t))) st.t,e:=cF κ ⟨xs.length,el,sz,none⟩ st.e,n:=n',o:=o'})
 | .app d sz el x y=>match cy st.t x,cy st.t y with
  | .slice dH tag xs,.slice jE _ ys=>if dH=sz/\jE=sz then
    match tag with
    | .own k=>match look k st.e with
     |some o=>some (o.n=xs.length/\o.el=el/\o.sz=sz/\xs.length+ys.length<=lim,
       {st with t:=put d (.slice sz (.own k) (xs++ys)) st.t,e:=cF k ⟨xs.length+ys.length,el,sz,none⟩ st.e})
     |none=>none
    | .nil=>some (ys.length<=lim,{st with t:=put d (.slice sz (.own κ) ys) st.t,e:=cF κ ⟨ys.length,el,sz,none⟩ st.e,n:=n',o:=o'})
    |_=>none
   else none
  |_,_=>none
def xo:Nat->List dw->List (Nat×Operand)->Bool
 |_,[],[]=>true
 |i,x::xs,(j,o)::os=>i==j&&er x o&&xo (i+1) xs os
 |_,_,_=>false
def EU(N:Nat)(bF:List (Nat×dB))(i:ev)(o:Oper):Bool:=
 match i,o.op with
 | .mkmap d _,.makeMap _ none=>o.dst==some d&&decide (d<N)
 | .mput ch x k v,.mapUpdate t gW gR pI=>o.dst==none&&(match ei bF t with|some ⟨_,_,.map nv _,_⟩=>yP bF ch nv|_=>false)&&er x gW&&er k gR&&er v pI
 | .mput ch x k v,.insert t gW gR pI=>o.dst==none&&(match ei bF t with|some ⟨_,_,.map nv _,_⟩=>yP bF ch nv|_=>false)&&er x gW&&er k gR&&er v pI
 | .range d _ x,.range t gW=>o.dst==some d&&decide (d<N)&&(match ei bF t with|some ⟨_,_,.map _ _,_⟩=>true|_=>false)&&er x gW
 | .v d i,op=>o.dst==some d&&decide (d<N)&&Ff bF i op
 | .box d _ x,.box _ o'=>o.dst==some d&&decide (d<N)&&er x o'
 | .alloc d _ z,.alloc el=>o.dst==some d&&decide (d<N)&&(match ei bF el with|some f=>Cm z f.zero|none=>false)
 | .store sz x y,.store t o' jC=>o.dst==none&&(match ei bF t with|some f=>f.size==sz|none=>false)&&er x o'&&er y jC
 | .bsl d sz el xs,.buildSlice t len parts=>o.dst==some d&&decide (d<N)&&(match ei bF t with|some ⟨_,_,.slice gi,_⟩=>el==gi|_=>false)&&(match ei bF el with|some f=>f.size==sz&&decide (0<sz)|none=>false)
   &&len==xs.length&&decide (len*sz<=16777216)&&xo 0 xs parts.toList
 | .app d sz el x y,.call ⟨.builtin .append,⟨[o',jC]⟩,⟨[t,dO]⟩⟩=>o.dst==some d&&decide (d<N)&&t==dO&&(match ei bF t with|some ⟨_,_,.slice gi,_⟩=>el==gi|_=>false)
   &&(match ei bF el with|some f=>f.size==sz&&decide (0<sz)&&decide (f.bytes<=2048)|none=>false)&&er x o'&&er y jC
 | .bslm d _ sz el xs,.buildSlice t len parts=>o.dst==some d&&decide (d<N)&&(match ei bF t with|some ⟨_,_,.slice gi,_⟩=>el==gi|_=>false)&&(match ei bF el with|some f=>f.size==sz&&decide (0<sz)|none=>false)
   &&len==xs.length&&decide (len*sz<=16777216)&&xo 0 xs parts.toList
 | .appm d _ sz el x y,.call ⟨.builtin .append,⟨[o',jC]⟩,⟨[t,dO]⟩⟩=>o.dst==some d&&decide (d<N)&&t==dO&&(match ei bF t with|some ⟨_,_,.slice gi,_⟩=>el==gi|_=>false)
   &&(match ei bF el with|some f=>f.size==sz&&decide (0<sz)&&decide (f.bytes<=2048)|none=>false)&&er x o'&&er y jC
 | .storeE sz x y,.store t o' jC=>o.dst==none&&(match ei bF t with|some f=>f.size==sz|none=>false)&&er x o'&&er y jC
 | .mks d _ sz el z x,.makeSlice t o' jC=>o.dst==some d&&decide (d<N)&&(match ei bF t with|some ⟨_,_,.slice gi,_⟩=>el==gi|_=>false)
   &&(match ei bF el with|some f=>f.size==sz&&decide (0<sz)&&decide (f.bytes<=2048)&&Cm z f.zero|none=>false)&&er x o'&&er x jC
 |_,_=>false
theorem ZD{w:World}{ν:be}{C:fj}{st:br}{a:Act}(aK:cY C st a w ν){sz:Nat}:
  ∀(xs:List dw) (i:Nat) (os:List (Nat×Operand)) (pre:List ak) (us:Array Value) (a7:List Value),xo i xs os=true->tH sz (xs.map (cy st.t))->us.toList.take (i*sz)=a7->dD w ν sz pre a7->i=pre.length->us.size=(i+xs.length)*sz->
  ∃ck:Array Value,Instr.fill (fun i=>some (i*sz,sz)) us (os.map fun(x:Nat×Operand)=>(x.1,a.eval x.2))=some ck/\dD w ν sz (pre++xs.map (cy st.t)) ck.toList/\ck.size=us.size
 |[],i,[],pre,us,a7,_,_,ay,h,hi,ag=>by refine⟨us,by simp[Instr.fill],?_,rfl⟩;have av:=uE h;have:us.toList.take (i*sz)=us.toList:=gw (by simp at ag⊢;omega);rw[this]at ay;simpa[ay]using h
 |[],_,_::_,_,_,_,eh,_,_,_,_,_=>by simp[xo]at eh
 |_::_,_,[],_,_,_,eh,_,_,_,_,_=>by simp[xo]at eh
 |x::xs,i,(j,o)::os,pre,us,a7,eh,bm,ay,h,hi,ag=>by
  simp only[xo,cr,dQ]at eh;obtain⟨⟨rfl,J⟩,U⟩:=eh;simp only[ht,tH]at bm;obtain⟨⟨iw,hlen⟩,bm⟩:=bm;have ad:=et aK J;have kR:=vW ad iw;have AD:=qu kR;have dn:(a.eval o).cells.size=sz:=by rw[hlen]at AD;simpa using AD
  have hmul:i*sz+sz<=us.size:=by rw[ag,oj,show i+(xs.length+1)=(i+1)+xs.length from by omega,o3,Nat.succ_mul];omega
  have yG:=Lf (w:=w) (ν:=ν) (a.eval o).cells.toList 0 (i*sz) us (by simp[dn];omega);have h2:dD w ν sz (pre++[cy st.t x]) (a7++(a.eval o).cells.toList):=by refine EL h ?_;simp only[dD];exact⟨a.eval o,[],Ψ,⟨ad,dn,BT kR⟩,rfl⟩
  have iT:a7.length=i*sz:=by rw[<-ay];simp;omega
  obtain⟨ck,g1,g2,g3⟩:=ZD aK xs (i+1) os (pre++[cy st.t x]) (((a.eval o).cells.toList.zipIdx 0).foldl (fun cs (x:Value×Nat)=>cs.setIfInBounds (i*sz+x.2) x.1) us) (a7++(a.eval o).cells.toList) U bm
   (by
    rw[yG];simp only[Nat.add_zero];rw[ay];have:(a7++(a.eval o).cells.toList).length=(i+1)*sz:=by rw[o0,iT,Nat.succ_mul];simp[dn]
    rw[<-this,List.take_append_of_le_length (eu _),k9]) h2 (by simp[hi])
   (by have bE:=eP List.length yG;simp only[Array.length_toList,o0,List.length_take,tB,dn]at bE;rw[bE,ag,oj,show i+(xs.length+1)=i+1+xs.length from by omega];rw[ag,oj,show i+(xs.length+1)=i+1+xs.length from by omega]at hmul;omega)
  refine⟨ck,?_,by simpa using g2,?_⟩
  ·simp only[ht,Instr.fill];rw[if_neg (by simp[dn];omega),<-g1];congr 1;rw[<-Array.foldl_toList];simp
  ·rw[g3];have bE:=eP List.length yG;simp only[Array.length_toList,o0,List.length_take,tB,dn]at bE;rw[bE];omega
theorem mS{P:cJ}{o:Oper}{a:Act}{w w':World}{v:Value}{K:Act->World->Prop}{Q:Exit->Act->World->Prop}(h:(execOp a.eval o).run P w= .ok (.value v) w')(ae:K (a.put o.dst v) w'):o.wp P a w K Q:=by unfold Oper.wp;rw[h];exact ae
theorem Fq{P:cJ}{o:Oper}{a:Act}{w w':World}{K:Act->World->Prop}{Q:Exit->Act->World->Prop}(h:(execOp a.eval o).run P w= .ok .skip w')(ae:K (a.put o.dst undef) w'):o.wp P a w K Q:=by unfold Oper.wp;rw[h];exact ae
theorem Fl{P:cJ}{w w':World}{x:Sem Value}{v:Value}(h:x.run P w= .ok v w'):(do pure (Next.value (<-x)):Sem Next).run P w= .ok (.value v) w':=by simp[h]
theorem ZB{P:cJ}{bF:List (Nat×dB)}(aH:fM P bF=true){C:fj}{st:br}{a:Act}{w:World}{ν:be}(aK:cY C st a w ν){t el:Nat}{f g:dB}(aQ:ei bF t=some f)(ae:f.kind= .slice el)(aX:ei bF el=some g)
  {xs:List dw} {os:List (Nat×Operand)} (eh:xo 0 xs os=true) (ep:tH g.size (xs.map (cy st.t))) (hlen:xs.length*g.size<=16777216):
  ∃us:Array Value,(Instr.buildSlice t xs.length (os.map fun(x:Nat×Operand)=>(x.1,a.eval x.2)).toArray).run P w= .ok (.slice (some ⟨w.heap.size,0,none⟩) xs.length xs.length) (w.alloc (.cells us el))/\
   dD w ν g.size (xs.map (cy st.t)) us.toList/\us.size=xs.length*g.size:=by
 obtain⟨d,aF,eK⟩:=jl aH aQ;rw[ae]at eK;obtain rfl:=tL eK;obtain⟨_,ag⟩:=wb aH aX w;obtain⟨z,yK,VP,asV⟩:=Pr aH aX w;have au:¬xs.length*g.size>2 ^ 24:=Ω
 let init:Array Value:=if xs.length*g.size=0 then(Array.range (xs.length*g.size)).map ((#[]:Array Value)[· %(#[]:Array Value).size]!)else(Array.range (xs.length*g.size)).map (z.cells[· %z.cells.size]!)
 have U5:init.size=xs.length*g.size:=by simp only[init];split<;>simp
 obtain⟨ck,g1,g2,g3⟩:=ZD (a:=a) aK xs 0 os [] init [] eh ep Ψ (by simp[dD]) rfl (by rw[U5];simp);refine⟨ck,?_,by simpa using g2,by rw[g3,U5]⟩;simp only[init]at g1;by_cases bE:xs.length*g.size=0
 ·rw[if_pos bE]at g1;rw[bE]at g1;have ahk:¬(0:Nat)>2 ^ 24:=by decide
  simp only[Instr.buildSlice,fO,run_underlying aF,fT,ag,if_false,gF,bE,if_true,ahk,g1,newRow,run_newObj];rfl
 ·rw[if_neg bE]at g1;simp only[Instr.buildSlice,fO,run_underlying aF,fT,ag,au,if_false,gF,bE,yK,g1,newRow,run_newObj];rfl
theorem Ej{P:cJ}{w:World}{ν:be}{ch:jW}{t:ha}(aF:uS P ch t){k v:ak}{hn PU:Value}(ae:bc w ν k hn)(ay:bc w ν v PU):
  ∀(borns:List Nat) (kvs:List ak) (us:List Value) (i:Nat) (r:Option (List ak)),cT w ν kvs us->kvs.length=2*borns.length->vL ch k v kvs=some r->
  match r with
  |none=>ik P w ch t hn (fG borns us) i none
  |some xb=> ∃j u ck e,ik P w ch t hn (fG borns us) i (some (i+j,u))/\cT w ν xb ck/\xb.length=kvs.length/\(fG borns us)[j]? =some e/\e.key=hn/\Instr.sameBits 10000 e.key hn=true/\fG borns ck=(fG borns us).modify j (fun e=>{e with key:=hn,val:=PU})
 |[],[],us,i,r,h,_,hm=>by simp only[vL]at hm;cases hm;simp only[cT]at h;subst h;simpa[fG]using ik.nil P w ch t hn i
 |[],_::_,_,_,_,_,av,_=>by simp at av
 |b::e0,[],_,_,_,_,av,_=>by simp at av
 |b::e0,[_],_,_,_,_,av,_=>by simp at av;omega
 |b::e0,bH::v'::kvs,us,i,r,h,av,hm=>by
  simp only[cT]at h;obtain⟨jm,Pz,rfl,J,jS,tt,rfl,U,ao⟩:=h;simp only[vL]at hm;simp only[fG];cases bt:uo ch k bH with
  |none=>simp[bt]at hm
  |some bb=>
   obtain⟨s1,s2⟩:=Wu aF ae J bt;simp only[bt]at hm;cases bb with
   |true=>simp only[dE]at hm;subst hm;obtain⟨rfl,s3⟩:=s2 rfl;refine⟨0,jS,jm::PU::tt,⟨jm,jS,b⟩,ik.hit (e:=⟨jm,jS,b⟩) s1,?_,Ψ,Ψ,rfl,s3,by simp[fG]⟩;simp only[cT];exact⟨_,_,rfl,ae,_,_,rfl,ay,ao⟩
   |false=>
    simp only at hm;have bR:=fun eQ dp=>Ej aF ae ay e0 kvs tt (i+1) eQ ao (by simp at av;omega) dp;split at hm
    ·rename_i eQ dp;cases hm;obtain⟨j,u,ck,e,g1,g2,g3,g4,g5,g6,g7⟩:=bR _ dp;refine⟨j+1,u,jm::jS::ck,e,ik.miss (e:=⟨jm,jS,b⟩) s1 (by rw[show i+(j+1)=i+1+j from by omega];exact g1),?_,by simp[g3],by simpa using g4,g5,g6,by simp[fG,g7]⟩;simp only[cT];exact⟨_,_,rfl,J,_,_,rfl,U,g2⟩
    ·rename_i dp;cases hm;exact ik.miss (e:=⟨jm,jS,b⟩) s1 (bR _ dp)
    ·cases hm
theorem KP:∀(borns:List Nat) (us:List Value) (b:Nat) (k v:Value),us.length=2*borns.length->fG (borns++[b]) (us++[k,v])=fG borns us++[⟨k,v,b⟩]
 |[],us,b,k,v,h=>by have:us=[]:=List.eq_nil_of_length_eq_zero (by simpa using h);subst this;simp[fG]
 |b1::e0,[],b,k,v,h=>by simp at h
 |b1::e0,[_],b,k,v,h=>by simp at h;omega
 |b1::e0,bH::v'::us,b,k,v,h=>by simp only[bZ,fG,KP e0 us b k v (by simp at h;omega)]
theorem ON{w:World}{ν:be}:∀{cE bu:List ak} {a7 us:List Value},cT w ν cE a7->cT w ν bu us->cT w ν (cE++bu) (a7++us)
 |[],bu,a7,us,h,cd=>by simp only[cT]at h;subst h;simpa using cd
 |p::cE,bu,a7,us,h,cd=>by simp only[cT]at h;obtain⟨u,ck,rfl,J,U⟩:=h;simp only[bZ,cT];exact⟨u,_,rfl,J,ON U cd⟩
theorem I0{w:World}{ν:be}:∀{cE:List ak} {a7:List Value},cT w ν cE a7->a7.length=cE.length
 |[],a7,h=>by simp only[cT]at h;subst h;rfl
 |p::cE,a7,h=>by simp only[cT]at h;obtain⟨u,ck,rfl,_,U⟩:=h;simp[I0 U]
theorem ET{P:cJ}{w:World}{r:Nat}{o o':Obj}(ab:w.heap[r]? =some o)(au:∀c e f,o≠ .cells c e f:=by simp):(setObj r o').run P w= .ok () {w with heap:=w.heap.setIfInBounds r o'}:=by simp only[setObj,Sem.run,ab]
def ev.makes(st:br):ev->Bool
 | .box _ _ _| .alloc _ _ _| .bsl _ _ _ _| .bslm _ _ _ _ _| .mkmap _ _| .range _ _ _| .mks _ _ _ _ _ _=>true
 | .appm _ _ _ _ x _=>match cy st.t x with
  | .slice _ .nil _=>true
  |_=>false
 | .app _ _ _ x _=>match cy st.t x with
  | .slice _ .nil _=>true
  |_=>false
 |_=>false
theorem cY.forgetRow{C:fj}{st:br}{a:Act}{w:World}{ν:be}(aK:cY C st a w ν){k:aM}{ow:fQ}(ae:look k st.e=some ow):cY C {st with e:=cF k ⟨ow.n,ow.el,ow.sz,none⟩ st.e} a w ν:=by
 have hW:∀g,(look g (cF k ⟨ow.n,ow.el,ow.sz,none⟩ st.e)).isSome->(look g st.e).isSome:=fun g aX=>by
  rw[jh]at aX;split at aX
  ·rename_i e;subst e;simp[ae]
  ·exact aX
 refine⟨⟨aK.good.alt,aK.good.box,aK.good.inj,fun g o aX=>?_,fun g fc n n' v v' bl bC a2=>aK.good.oinj g fc n n' v v' bl (hW g bC) (hW fc a2),fun g j n v bl bC=>aK.good.obx g j n v bl (hW g bC),aK.good.one,fun bl ab=>aK.good.otr bl (ab.imp id (fun⟨g,n,v,bC,a2⟩=>⟨g,n,v,hW g bC,a2⟩))⟩,aK.fr,aK.defers,aK.size,aK.slot,aK.new⟩;simp only at aX;rw[jh]at aX;split at aX
 ·rename_i e;subst e;cases aX;obtain⟨v,us,a1,bp,bV,_⟩:=aK.good.own k ow ae;exact⟨v,us,a1,bp,bV,fun xs ad=>by cases ad⟩
 ·exact aK.good.own g o aX
theorem X2{w:World}{base el sz n:Nat}{v:Value}{us:List Value}(h:w.ownsRow base el sz v n us)(au:0<n):∃b cap,v= .slice (some ⟨b,0,none⟩) n cap:=by
 rcases h.2 with⟨aq,aG⟩|⟨bb,cap,cur,f1,_⟩
 ·omega
 ·exact⟨_,_,f1⟩
theorem IX{w:World}{ν:be}{sz:Nat}:∀{xs:List ak} {us:List Value} {i:Nat} {q fX:ak} {fi:Value},dD w ν sz xs us->xs[i]? =some q->bc w ν fX fi->fi.cells.size=sz->(∀c∈fi.cells.toList,c.oneCell'=true)->dD w ν sz (xs.set i fX) (us.take (i*sz)++fi.cells.toList++us.drop (i*sz+sz))
 |[],_,_,_,_,_,_,bt,_,_,_=>by simp at bt
 |x::xs,us,0,q,fX,fi,h,bt,aK,ag,aw=>by
  simp only[dD]at h;obtain⟨u,ck,rfl,⟨J,U,ao⟩,b7⟩:=h;have av:u.cells.toList.length=sz:=by simpa using U
  simp only[List.set_cons_zero,dD];refine⟨fi,ck,?_,⟨aK,ag,aw⟩,b7⟩;simp[<-av]
 |x::xs,us,i+1,q,fX,fi,h,bt,aK,ag,aw=>by
  simp only[dD]at h;obtain⟨u,ck,rfl,⟨J,U,ao⟩,b7⟩:=h;have av:u.cells.toList.length=sz:=by simpa using U
  have bR:=IX b7 (by simpa using bt) aK ag aw;simp only[List.set_cons_succ,dD];refine⟨u,_,?_,⟨J,U,ao⟩,bR⟩;have e:(i+1)*sz+sz=u.cells.toList.length+(i*sz+sz):=by rw[av,Nat.succ_mul];omega
  rw[ZX _ _ _ _ av,e,<-List.drop_drop];simp
theorem aoy{w:World}{ν:be}{q:ak}{v:Value}(bt:bc w ν q v)(ag:eR q=true){cs:List ak}{us:List Value}(ar:dr w ν cs us){f:Nat}(aQ:f+us.length<=v.cells.size)(cK:us≠[]):
  ∃v',bc w ν (qw q f cs) v'/\v'.cells.toList=v.cells.toList.take f++us++v.cells.toList.drop (f+us.length)/\v'.cells.size=v.cells.size/\∀c∈v'.cells.toList,c.oneCell'=true:=by
 have hlen:=qu ar;have l3:=vW bt ag;by_cases bm:∃eU,q= .agg eU
 ·obtain⟨eU,rfl⟩:=bm;simp only[bc]at bt;obtain⟨a7,rfl,kW⟩:=bt;simp only[pS]at aQ⊢;have kg:dr w ν (oQ eU f cs) (a7.toList.take f++us++a7.toList.drop (f+us.length)):=by unfold oQ;rw[hlen];exact zj (zj (EN f kW) ar) (BS _ kW)
  refine⟨.agg (a7.toList.take f++us++a7.toList.drop (f+us.length)).toArray,by simp only[qw,bc];exact⟨_,rfl,by simpa using kg⟩,by simp[pS],?_,fun c hy=>?_⟩
  ·simp[pS];omega
  ·exact BT kg c (by simpa[pS]using hy)
 ·have nO:∀cs,q≠ .agg cs:=fun cs e=>bm ⟨cs,e⟩;obtain⟨J,U⟩:=OP bt ag nO;rw[U]at aQ⊢;match us,cK,ar with
  |u::ck,_,ar=>
   simp at aQ;obtain⟨rfl,rfl⟩:f=0/\ck=[]:=⟨Ω,List.length_eq_zero_iff.1 Ω⟩;match cs,ar,hlen with
   |[c],ar,_=>
    simp only[dr]at ar;obtain⟨B9,fD,aq,⟨LJ,US⟩,_⟩:=ar;cases aq;have hu:u.cells= #[u]:=by cases u<;>first|rfl|cases US
    have AV:qw q 0 [c]=c:=by cases q<;>first|rfl|exact absurd rfl (nO _)
    rw[AV];refine⟨u,LJ,by simp[hu],by simp[hu],fun c hy=>?_⟩;rw[hu]at hy;simp at hy;subst hy;exact US
theorem apa{α:Type}(A us:List α)(a f sz N:Nat)(J:f+us.length<=sz)(U:a+sz<=N)(ao:N<=A.length):
  ((A.take (a+f)++us++A.drop (a+f+us.length)).toArray.toList).take N=(A.take N).take a++((((A.take N).drop a).take sz).take f++us++(((A.take N).drop a).take sz).drop (f+us.length))++(A.take N).drop (a+sz):=by
 have aq:(A.take N).take a++(((A.take N).drop a).take sz).take f=A.take (a+f):=by rw[List.take_take (i:=f),Nat.min_eq_left (show f<=sz by omega),<-List.take_add,List.take_take,Nat.min_eq_left Ω]
 have aG:(((A.take N).drop a).take sz).drop (f+us.length)++(A.take N).drop (a+sz)=(A.take N).drop (a+f+us.length):=by
  have av:f+us.length<=(((A.take N).drop a).take sz).length:=by simp;omega
  have pb:(A.take N).drop (a+sz)=((A.take N).drop a).drop sz:=by rw[List.drop_drop]
  rw[pb,<-List.drop_append_of_le_length av,List.take_append_drop,List.drop_drop];congr 1;omega
 have bG:(A.take N).drop (a+f+us.length)=(A.drop (a+f+us.length)).take (N-(a+f+us.length)):=by rw[List.drop_take]
 have av:(A.take (a+f)++us).length=a+f+us.length:=by simp;omega
 simp only[List.append_assoc]at*;rw[aG,bG,<-List.append_assoc (pU a _),aq];have jY:N=(A.take (a+f)++us).length+(N-(a+f+us.length)):=by rw[av];omega
 rw[<-List.append_assoc,<-List.append_assoc];conv=>lhs;rw[jY,List.take_length_add_append]
theorem cY.storeRow{P:cJ}{C:fj}{st:br}{a:Act}{w:World}{ν:be}(h:cY C st a w ν){k:aM}{n el sz:Nat}{xs:List ak}(ae:look k st.e=some ⟨n,el,sz,some xs⟩){i f:Nat}{u:Value}(ad:bc w ν (.rptr sz k n i f) u){q:ak}(bt:xs[i]? =some q)(ag:eR q=true)
  {cs:List ak} {us:List Value} (ar:dr w ν cs us) (aQ:f+us.length<=(cells q).length) (cK:us≠[]):
  ∃bl off nb,u= .pointer (some ⟨bl,off,none⟩)/\(storeCells ⟨bl,off,none⟩ us).run P w= .ok () (w.setRow bl nb)/\∃bo,cY C {st with e:=cF k ⟨n,el,sz,some (xs.set i (qw q f cs))⟩ st.e} a (w.setRow bl nb) bo:=by
 simp only[bc]at ad;obtain⟨_,hi,n',fi,J,U,ao⟩:=ad;obtain⟨v,fD,a1,bp,bV,cQ⟩:=h.good.own k _ ae;rw[J]at a1;simp only[dE,jU]at a1;obtain⟨rfl,rfl⟩:=a1;obtain⟨bl,ab,rfl⟩:=ao rfl;obtain⟨cZ,oO,vR⟩:=cQ xs rfl;simp only at cZ oO;obtain⟨v,e1,fY,qs⟩:=IU i oO bt;have AD:=qu (vW e1 ag);have aiQ:(cells q).length=sz:=by rw[<-AD];simpa using fY
 have ky:f+us.length<=sz:=by rw[<-aiQ];exact aQ
 have hmul:i*sz+sz<=n'*sz:=by have:=pV sz (show i+1<=n' from hi);rwa[Nat.succ_mul]at this
 rcases bp.2 with⟨aq,aG⟩|⟨g,cap,cur,rfl,sA,LV,L7,ahK,dn,VG⟩
 ·rw[aq]at ab;simp[oZ]at ab
 simp only[oZ,dE]at ab;subst ab;simp only at VG dn L7 LV;have AB:n'*sz<=cur.size:=by rw[dn];exact pV sz L7
 have dh:=run_storeCells_at P g (i*sz+f) el us 0 cur w LV Ω (BT ar);simp only[Nat.add_zero]at dh;refine⟨g,i*sz+f,_,rfl,dh,?_⟩;generalize yo:(cur.toList.take (i*sz+f)++us++cur.toList.drop (i*sz+f+us.length)).toArray=nb;obtain⟨v',c1,dv,jj,vO⟩:=aoy e1 ag ar (f:=f) (by rw[fY];exact ky) cK;have ma:=IX oO bt c1 (by rw[jj,fY]) vO;have hlen:fD.length=n'*sz:=bp.1;have aiA:nb.toList.take (n'*sz)=fD.take (i*sz)++v'.cells.toList++fD.drop (i*sz+sz):=by rw[<-yo,dv,qs,<-VG];exact apa cur.toList us (i*sz) f sz (n'*sz) ky hmul (by simpa using AB)
 have ahM:nb.size=cap*sz:=by rw[<-yo,<-dn];simp;omega
 have asN:(xs.set i (qw q f cs)).length=n':=by simp[cZ]
 obtain⟨anl,_,_⟩:=h.setRowM (w':=w.setRow g nb) ae rfl J (bl:=g) rfl (v':= .slice (some ⟨g,0,none⟩) n' cap) rfl (xs':=xs.set i (qw q f cs)) (us:=fD.take (i*sz)++v'.cells.toList++fD.drop (i*sz+sz)) (.inl ⟨by simp[cZ],rfl⟩) rfl rfl rfl (fun j af=>setRow_other w g j nb af) (setRow_size w g nb)
  ⟨by rw[uE ma],.inr ⟨g,cap,nb,by simp[cZ],Nat.zero_le _,setRow_heap w g cur nb el _ LV,by simpa[cZ]using L7,ahK,ahM,by simpa[cZ]using aiA⟩⟩ ma
 exact⟨_,by simpa[cZ]using anl⟩
theorem aku(z:Array Value)(n:Nat)(h:0<z.size):(madeCells z ((n+1)*z.size)).toList=z.toList++(madeCells z (n*z.size)).toList:=by
 apply List.ext_getElem?;intro j;rw[List.getElem?_append];have he:(n+1)*z.size=n*z.size+z.size:=by rw[o3,Nat.one_mul]
 simp only[madeCells,uO,Array.length_toList,Array.getElem?_map];by_cases af:j<z.size
 ·rw[if_pos af,Array.getElem?_range,if_pos Ω];simp[Nat.mod_eq_of_lt af,af]
 ·rw[if_neg af,Array.getElem?_range,Array.getElem?_range];by_cases ae:j<n*z.size+z.size
  ·rw[if_pos Ω,if_pos Ω];simp only[oq];rw[<-Nat.mod_eq_sub_mod Ω]
  ·rw[if_neg Ω,if_neg Ω]
theorem W4{w:World}{ν:be}{p:ak}{z:Value}(aK:bc w ν p z)(h:0<z.cells.size)(aw:∀c∈z.cells.toList,c.oneCell'=true):∀n,dD w ν z.cells.size (List.replicate n p) (madeCells z.cells (n*z.cells.size)).toList
 |0=>by simp[dD,madeCells]
 |n+1=>by rw[aku _ _ h];simp only[List.replicate_succ,dD];exact⟨z,_,rfl,⟨aK,rfl,aw⟩,W4 aK h aw n⟩
theorem j7{P:cJ}{bF:List (Nat×dB)}(aH:fM P bF=true){C:fj}{st st':br}{a:Act}{w:World}{ν:be}(aK:cY C st a w ν){i:ev}{o:Oper}(aw:EU C.N bF i o=true)
  {κ:aM} {n':Nat} {o₁:List aM} (vn:i.makes st=true->fresh st.n st.o κ) (cB:i.makes st=true->∀j,fresh n' o₁ j->fresh st.n st.o j/\j≠κ) {c:Prop} (he:eJ κ n' o₁ st i=some (c,st')) (ar:c) {K:Act->World->Prop} {Q:Exit->Act->World->Prop} (c4:∀bn w' bo,cY C st' bn w' bo->K bn w'):o.wp P a w K Q:=by
 obtain⟨dst,op,type,pos,after,guard⟩:=o;unfold EU at aw;dsimp only at aw;split at aw
 ·rename_i d key t;simp only[cr,dQ,en]at aw;obtain⟨rfl,U⟩:=aw;simp only[eJ]at he;cases he;obtain⟨g1,g2⟩:=aK.newBox (aK.new _ (vn rfl)) (cB rfl) (cs:=[.hdm 0 []]) (us:= #[]) 0 (by simp only[jD];exact⟨by simp[cT],⟨rfl,Ψ,Ψ⟩⟩);refine mS (v:= .map (some w.heap.size)) (w':=w.alloc (.map #[] 0)) ?_ (c4 _ _ _ (g1.put (d:=some d) (by simpa[jJ]using U) (p:= .gmap κ) ?_))
  ·simp only[execOp,Instr.makeMap,Option.map_none,fO,run_newObj,fT,gF];rfl
  ·simp[bc,be.withBox]
 ·rename_i ch x k v t gW gR pI;simp only[cr,dQ]at aw;obtain⟨⟨⟨⟨rfl,J⟩,U⟩,ao⟩,a6⟩:=aw;have rx:=et aK U;have vX:=et aK ao;have zp:=et aK a6;split at J
  ·rename_i sz lJ nv qa z aQ;obtain⟨cN,hu,eK⟩:=jl aH aQ;have tX:cN= .map nv qa:=by cases cN<;>simp[kx]at eK;obtain⟨rfl,rfl⟩:=eK;rfl
   subst tX;have mC:=MU aH J;simp only[eJ]at he;split at he
   ·rename_i m ad;rw[ad]at rx;simp only[bc]at rx;obtain⟨bl,cg,cc⟩:=rx;split at he
    ·rename_i cs dn;split at he
     ·rename_i cs' hm;cases he;obtain⟨iP,us,el,a1,bp,bV,cQ,cZ⟩:=aK.good.box m cs dn;rw[cg]at a1;cases a1;unfold pH at hm;split at hm
      ·rename_i clock borns kvs;split at hm
       ·cases hm
       rename_i vs;simp only[j6]at cQ;simp only[jD]at cZ;have hj:=vZ (P:=P) cQ;have wH:=OR (P:=P) (w:=w) mC false vX (by simpa using vs);have bz:bl<w.heap.size:=(Array.getElem?_eq_some_iff.1 cQ).1;have dz:∀(o':Obj) (ck:Array Value) (eU:List ak),(Instr.mapUpdate t (a.eval gW) (a.eval gR) (a.eval pI)).run P w= .ok () {w with heap:=w.heap.setIfInBounds bl o'}->j6 eU ck el=o'->jD w ν eU ck.toList->some eU=some cs'->
         (⟨none,.mapUpdate t gW gR pI,type,pos,after,guard⟩:Oper).wp P a w K Q:=by
        intro o' ck eU iF Dx ma je;cases je;refine Fq (w':={w with heap:=w.heap.setIfInBounds bl o'}) ?_ (c4 _ _ _ (aK.setBox (w':={w with heap:=w.heap.setIfInBounds bl o'}) dn cg (us:=ck) (el:=el) rfl rfl rfl (fun j af=>?_) Ψ ?_ ma).1)
        ·simp only[execOp,iF,fO,fT,gF]
        ·exact Array.getElem?_setIfInBounds_ne (lF af)
        ·rw[Dx];simp[bz]
       split at hm
       ·rename_i xb vt;obtain⟨j,u,ck,e,f1,f2,f3,f4,f5,f6,f7⟩:=Ej mC vX zp borns kvs us.toList 0 _ cZ.1 cZ.2.len vt;refine dz (.map (fG borns ck).toArray clock) ck.toArray (.hdm clock borns::xb) ?_ (by simp[j6]) (by simp only[jD];exact⟨by simpa using f2,⟨by rw[f3];exact cZ.2.len,cZ.2.inc,cZ.2.lt⟩⟩) hm;have Mo:(Instr.keyThatStays (((fG borns us.toList).toArray[j]?.map (·.key)).getD (a.eval gR)) (a.eval gR)).run P w= .ok (a.eval gR) w:=by
         have:((fG borns us.toList).toArray[j]?.map (·.key)).getD (a.eval gR)=e.key:=by simp[f4]
         rw[this];simp[Instr.keyThatStays,f6]
        simp only[Nat.zero_add]at f1;simp only[Instr.mapUpdate,fO,run_underlying hu,fT,cc,hj,wH,f1.run mC,gF,Mo,ET cQ];rw[f7];simp
       ·rename_i vt;have f1:=Ej mC vX zp borns kvs us.toList 0 _ cZ.1 cZ.2.len vt;simp only at f1;have pA:us.toList.length=2*borns.length:=by rw[I0 cZ.1,cZ.2.len]
        refine dz (.map ((fG borns us.toList).toArray.push ⟨a.eval gR,a.eval pI,clock⟩) (clock+1)) (us.toList++[a.eval gR,a.eval pI]).toArray (.hdm (clock+1) (borns++[clock])::(kvs++[cy st.t k,cy st.t v])) ?_ (by simp only[j6,KP borns us.toList clock _ _ pA];simp) ?_ hm
        ·simp only[Instr.mapUpdate,fO,run_underlying hu,fT,cc,hj,wH,f1.run mC,gF,ET cQ]
        ·simp only[jD];refine⟨ON cZ.1 (by simp only[cT];exact⟨_,_,rfl,vX,_,_,rfl,zp,rfl⟩),⟨by simp[cZ.2.len];omega,?_,?_⟩⟩
         ·rw[List.pairwise_append];exact⟨cZ.2.inc,Ψ,fun x ad y aC=>by simp at aC;subst aC;exact cZ.2.lt x ad⟩
         ·intro b ab;rcases iz.1 ab with ab|ab
          ·have:=cZ.2.lt b ab;omega
          ·simp at ab;omega
       ·cases hm
      ·cases hm
     ·cases he
    ·cases he
   ·cases he
  ·cases J
 ·rename_i ch x k v t gW gR pI;simp only[cr,dQ]at aw;obtain⟨⟨⟨⟨rfl,J⟩,U⟩,ao⟩,a6⟩:=aw;have rx:=et aK U;have vX:=et aK ao;have zp:=et aK a6;split at J
  ·rename_i sz lJ nv qa z aQ;obtain⟨cN,hu,eK⟩:=jl aH aQ;have tX:cN= .map nv qa:=by cases cN<;>simp[kx]at eK;obtain⟨rfl,rfl⟩:=eK;rfl
   subst tX;have mC:=MU aH J;simp only[eJ]at he;split at he
   ·rename_i m ad;rw[ad]at rx;simp only[bc]at rx;obtain⟨bl,cg,cc⟩:=rx;split at he
    ·rename_i cs dn;split at he
     ·rename_i cs' hm;cases he;obtain⟨iP,us,el,a1,bp,bV,cQ,cZ⟩:=aK.good.box m cs dn;rw[cg]at a1;cases a1;unfold pH at hm;split at hm
      ·rename_i clock borns kvs;split at hm
       ·cases hm
       rename_i vs;simp only[j6]at cQ;simp only[jD]at cZ;have hj:=vZ (P:=P) cQ;have wH:=OR (P:=P) (w:=w) mC false vX (by simpa using vs);have bz:bl<w.heap.size:=(Array.getElem?_eq_some_iff.1 cQ).1;have dz:∀(o':Obj) (ck:Array Value) (eU:List ak),(Instr.mapUpdate t (a.eval gW) (a.eval gR) (a.eval pI)).run P w= .ok () {w with heap:=w.heap.setIfInBounds bl o'}->j6 eU ck el=o'->jD w ν eU ck.toList->some eU=some cs'->
         (⟨none,.mapUpdate t gW gR pI,type,pos,after,guard⟩:Oper).wp P a w K Q:=by
        intro o' ck eU iF Dx ma je;cases je;refine Fq (w':={w with heap:=w.heap.setIfInBounds bl o'}) ?_ (c4 _ _ _ (aK.setBox (w':={w with heap:=w.heap.setIfInBounds bl o'}) dn cg (us:=ck) (el:=el) rfl rfl rfl (fun j af=>?_) Ψ ?_ ma).1)
        ·simp only[execOp,iF,fO,fT,gF]
        ·exact Array.getElem?_setIfInBounds_ne (lF af)
        ·rw[Dx];simp[bz]
       split at hm
       ·rename_i xb vt;obtain⟨j,u,ck,e,f1,f2,f3,f4,f5,f6,f7⟩:=Ej mC vX zp borns kvs us.toList 0 _ cZ.1 cZ.2.len vt;refine dz (.map (fG borns ck).toArray clock) ck.toArray (.hdm clock borns::xb) ?_ (by simp[j6]) (by simp only[jD];exact⟨by simpa using f2,⟨by rw[f3];exact cZ.2.len,cZ.2.inc,cZ.2.lt⟩⟩) hm;have Mo:(Instr.keyThatStays (((fG borns us.toList).toArray[j]?.map (·.key)).getD (a.eval gR)) (a.eval gR)).run P w= .ok (a.eval gR) w:=by
         have:((fG borns us.toList).toArray[j]?.map (·.key)).getD (a.eval gR)=e.key:=by simp[f4]
         rw[this];simp[Instr.keyThatStays,f6]
        simp only[Nat.zero_add]at f1;simp only[Instr.mapUpdate,fO,run_underlying hu,fT,cc,hj,wH,f1.run mC,gF,Mo,ET cQ];rw[f7];simp
       ·rename_i vt;have f1:=Ej mC vX zp borns kvs us.toList 0 _ cZ.1 cZ.2.len vt;simp only at f1;have pA:us.toList.length=2*borns.length:=by rw[I0 cZ.1,cZ.2.len]
        refine dz (.map ((fG borns us.toList).toArray.push ⟨a.eval gR,a.eval pI,clock⟩) (clock+1)) (us.toList++[a.eval gR,a.eval pI]).toArray (.hdm (clock+1) (borns++[clock])::(kvs++[cy st.t k,cy st.t v])) ?_ (by simp only[j6,KP borns us.toList clock _ _ pA];simp) ?_ hm
        ·simp only[Instr.mapUpdate,fO,run_underlying hu,fT,cc,hj,wH,f1.run mC,gF,ET cQ]
        ·simp only[jD];refine⟨ON cZ.1 (by simp only[cT];exact⟨_,_,rfl,vX,_,_,rfl,zp,rfl⟩),⟨by simp[cZ.2.len];omega,?_,?_⟩⟩
         ·rw[List.pairwise_append];exact⟨cZ.2.inc,Ψ,fun x ad y aC=>by simp at aC;subst aC;exact cZ.2.lt x ad⟩
         ·intro b ab;rcases iz.1 ab with ab|ab
          ·have:=cZ.2.lt b ab;omega
          ·simp at ab;omega
       ·cases hm
      ·cases hm
     ·cases he
    ·cases he
   ·cases he
  ·cases J
 ·rename_i d key x t gW;simp only[cr,dQ,en]at aw;obtain⟨⟨⟨rfl,U⟩,J⟩,ao⟩:=aw;have rx:=et aK ao;split at J
  ·rename_i sz lJ nv qa z aQ;obtain⟨cN,hu,eK⟩:=jl aH aQ;have tX:cN= .map nv qa:=by cases cN<;>simp[kx]at eK;obtain⟨rfl,rfl⟩:=eK;rfl
   subst tX;simp only[eJ]at he;split at he
   ·rename_i m ad;rw[ad]at rx;have aoE:=rx;simp only[bc]at rx;obtain⟨bl,cg,cc⟩:=rx;split at he
    ·rename_i cs dn;split at he
     ·rename_i cs' hm;cases he;obtain⟨iP,us,el,a1,bp,bV,cQ,cZ⟩:=aK.good.box m cs dn;rw[cg]at a1;cases a1;unfold zh at hm;split at hm
      ·rename_i clock borns kvs;cases hm;simp only[j6]at cQ;have hj:=vZ (P:=P) cQ;obtain⟨g1,g2⟩:=aK.newBox (aK.new _ (vn rfl)) (cB rfl) (cs:=[.hdi clock [] clock,.gmap m]) (us:= #[a.eval gW]) 0 (by simp only[jD,cT];exact⟨_,_,rfl,aoE,rfl⟩);have Dx:j6 [.hdi clock [] clock,.gmap m] #[a.eval gW] 0= .mapIter (some bl) clock #[] clock:=by simp[j6,cc]
       rw[Dx]at g1 g2;refine mS (v:= .pointer (some ⟨w.heap.size,0,none⟩)) (w':=w.alloc (.mapIter (some bl) clock #[] clock)) ?_ (c4 _ _ _ (g1.put (d:=some d) (by simpa[jJ]using U) (p:= .ptr κ 0) g2))
       ·simp only[execOp];refine Fl ?_;simp only[Instr.range,fO,run_underlying hu,fT,cc,hj,gF,run_newObj];rfl
      ·cases hm
     ·cases he
    ·cases he
   ·cases he
  ·cases J
 ·rename_i d avc;simp only[cr,dQ,en]at aw;obtain⟨⟨J,U⟩,ao⟩:=aw;subst J;simp only[eJ]at he;split at he
  ·rename_i cq p ay;cases he;obtain⟨v,g1,g2⟩:=apG (o:=⟨some d,op,type,pos,after,guard⟩) aH aK ao ay ar;refine mS g1 (c4 _ _ ν ?_);exact aK.put (d:=some d) (by simpa[jJ]using U) g2
  ·cases he
 ·rename_i d key x el o';simp only[cr,dQ,en]at aw;obtain⟨⟨J,U⟩,ao⟩:=aw;subst J;simp only[eJ]at he;cases he;have ad:=et aK ao;have kR:=vW ad ar;obtain⟨g1,g2⟩:=aK.newBox (aK.new _ (vn rfl)) (cB rfl) el (by rw[vQ (BU kR)];exact kR);rw[vP (BU kR)]at g1 g2;refine mS (v:= .pointer (some ⟨w.heap.size,0,none⟩)) (w':=w.alloc (.cells (a.eval o').cells el)) ?_ (c4 _ _ _ (g1.put (d:=some d) (by simpa[jJ]using U) (p:= .ptr κ 0) ?_))
  ·simp only[execOp,Instr.box,newVar,newRow,fO,run_newObj,fT,gF];rfl
  ·simpa only[bc]using g2
 ·rename_i d key z el;simp only[cr,dQ,en]at aw;obtain⟨⟨J,U⟩,ao⟩:=aw;subst J;simp only[eJ]at he;cases he;split at ao
  ·rename_i f aQ;have ba:=P3 ao;obtain⟨b2,lD,z2,z3⟩:=Pr aH aQ w;rw[<-ba]at z2;obtain⟨_,kR⟩:=P2 w ν z2;obtain⟨g1,g2⟩:=aK.newBox (aK.new _ (vn rfl)) (cB rfl) el (by rw[vQ (BU kR)];exact kR);rw[vP (BU kR)]at g1 g2;refine mS (v:= .pointer (some ⟨w.heap.size,0,none⟩)) (w':=w.alloc (.cells b2.cells el)) ?_ (c4 _ _ _ (g1.put (d:=some d) (by simpa[jJ]using U) (p:= .ptr κ 0) ?_))
   ·simp only[execOp,Instr.alloc,newVar,newRow,fO,lD,run_newObj,fT,gF];rfl
   ·simpa only[bc]using g2
  ·cases ao
 ·rename_i sz x y t o' jC;simp only[cr,dQ]at aw;obtain⟨⟨⟨J,U⟩,ao⟩,a6⟩:=aw;subst J;split at U
  ·rename_i f aQ;simp only[dQ]at U;simp only[eJ]at he;split at he
   ·rename_i k off ad;split at he
    ·rename_i cs dn;cases he;obtain⟨kM,b0,cu,dg⟩:=ar;have rx:=et aK ao;rw[ad]at rx;simp only[bc]at rx;obtain⟨bl,cg,cc⟩:=rx;have mo:=et aK a6;have vV:=vW mo b0;have vY:=qu vV;obtain⟨iP,us,el,a1,bp,bV,cQ,cZ⟩:=aK.good.box k cs dn;rw[cg]at a1;cases a1;rw[vP kM]at cQ;rw[vQ kM]at cZ;have az:=qu cZ;obtain⟨_,ep⟩:=wb aH aQ w;have sO:(a.eval jC).cells.size=sz:=by rw[cu]at vY;simpa using vY
     have dh:=run_storeCells_at (P:=P) bl off el (a.eval jC).cells.toList 0 us w cQ (by simp at az⊢;omega) (BT vV);simp only[Nat.add_zero]at dh;refine Fq (w':=w.setRow bl (us.toList.take off++(a.eval jC).cells.toList++us.toList.drop (off+(a.eval jC).cells.toList.length)).toArray) ?_ (c4 _ _ _ (aK.storeBox dn cg kM ?_))
     ·simp only[execOp,Instr.storeAt,cc,Instr.sureAddr,storeVar,fO,gF,fT,ep,sO,U,ne_eq,not_true_eq_false,if_false,dh]
     ·simp only[oQ];rw[vY];exact zj (zj (EN off cZ) vV) (BS _ cZ)
    ·cases he
   ·rename_i ad;generalize Md:cy st.t x=px at he;unfold rU at he;split at he
    ·rename_i dH k n i tQ;split at he
     ·rename_i n' el jE xs ae;split at he
      ·rename_i L9;obtain⟨rfl,rfl⟩:=L9;split at he
       ·rename_i q bt;cases he;obtain⟨kM,b0,cu,dg,ku⟩:=ar;have rx:=et aK ao;rw[Md]at rx;have mo:=et aK a6;have vV:=vW mo b0;have vY:=qu vV;obtain⟨_,ep⟩:=wb aH aQ w;have sO:(a.eval jC).cells.size=sz:=by rw[cu]at vY;simpa using vY
        obtain⟨bl,off,nb,DB,dh,bo,pw⟩:=aK.storeRow (P:=P) ae rx bt kM vV (by simpa[sO]using dg) (fun e=>by have:=eP List.length e;simp[sO]at this;omega);refine Fq (w':=w.setRow bl nb) ?_ (c4 _ _ _ pw);simp only[execOp,Instr.storeAt,DB,Instr.sureAddr,storeVar,fO,gF,fT,ep,sO,U,ne_eq,not_true_eq_false,if_false,dh]
       ·cases he
      ·cases he
     ·cases he
    ·cases he
  ·cases U
 ·rename_i d sz el xs t len parts;simp only[cr,dQ,en]at aw;obtain⟨⟨⟨⟨⟨⟨J,U⟩,ao⟩,a6⟩,b7⟩,dd⟩,ed⟩:=aw;subst J;subst b7;split at ao
  ·rename_i gi aQ;simp only[dQ]at ao;subst ao;split at a6
   ·rename_i g aX;simp only[cr,dQ,en]at a6;obtain⟨rfl,eW⟩:=a6;simp only[eJ]at he;cases he;obtain⟨us,g1,g2,g3⟩:=ZB aH aK aQ rfl aX ed ar dd;have l8:(w.alloc (.cells us el)).ownsRow w.heap.size el g.size (.slice (some ⟨w.heap.size,0,none⟩) xs.length xs.length) (xs.map (cy st.t)).length us.toList:=by
     refine⟨by simp[g3],.inr ⟨w.heap.size,xs.length,us,Ψ,eu _,heap_alloc_new w _,Ψ,?_,g3,?_⟩⟩
     ·simp only[maxLen];have:xs.length<=xs.length*g.size:=Nat.le_mul_of_pos_right _ eW;omega
     ·rw[gw];simp[g3]
    obtain⟨e1,fY⟩:=aK.newRow (k:=κ) (xs:=xs.map (cy st.t)) (.inl (aK.new _ (vn rfl))) (World.grownBy_alloc w _ none) l8 g2
     (by have:xs.length<=xs.length*g.size:=Nat.le_mul_of_pos_right _ eW;simp only[lim,r5];omega) (cB rfl)
    simp only[r5]at e1 fY;refine mS (v:= .slice (some ⟨w.heap.size,0,none⟩) xs.length xs.length) (w':=w.alloc (.cells us el)) ?_ (c4 _ _ _ (e1.put (d:=some d) (by simpa[jJ]using U) (p:= .slice g.size (.own κ) (xs.map (cy st.t))) fY));have bD:(parts.map fun(x:Nat×Operand)=>(x.1,a.eval x.2))=(parts.toList.map fun(x:Nat×Operand)=>(x.1,a.eval x.2)).toArray:=by apply Array.ext';simp
    simp only[execOp];refine Fl ?_;rw[<-g1];congr 2
   ·cases a6
  ·cases ao
 ·rename_i d sz el x y o' jC t dO;simp only[cr,dQ,en]at aw;obtain⟨⟨⟨⟨⟨⟨J,U⟩,ao⟩,a6⟩,b7⟩,dd⟩,ed⟩:=aw;subst J;subst ao;split at a6
  ·rename_i gi aQ;simp only[dQ]at a6;subst a6;split at b7
   ·rename_i g aX;simp only[cr,dQ,en]at b7;obtain⟨⟨rfl,eW⟩,vk⟩:=b7;have rx:=et aK dd;have mo:=et aK ed;have nl:∀v' w',(Builtin.append_ #[t,t] type #[a.eval o',a.eval jC]).run P w= .ok v' w'->(execOp a.eval ⟨some d,.call ⟨.builtin .append,⟨[o',jC]⟩,⟨[t,t]⟩⟩,type,pos,after,guard⟩).run P w= .ok (.value v') w':=by intro v' w' iF;simp only[execOp,resolve,invoke,builtin,fO,gF,fT,List.map_toArray,ht,oo];rw[iF];rfl
    obtain⟨fC,cn,z,aq,aG,bG,di,hx,h7,sd,se⟩:=(wc aH aX).ex;obtain⟨eU,je,eK⟩:=jl aH aQ;obtain rfl:=tL eK;simp only[eJ]at he;split at he
    ·rename_i dH tag xs jE lA ys ad aC;split at he
     ·rename_i fo;obtain⟨rfl,fo⟩:=fo;subst fo;rw[ad]at rx;rw[aC]at mo;simp only[bc]at rx mo;obtain⟨⟨u1,p5,tu,cx1,⟨S6,S7⟩,cx4⟩,rxn,rxo,rxt⟩:=rx;obtain⟨⟨ov,l1,vy,cy1,⟨S8,S9⟩,cy4⟩,_⟩:=mo;split at he
      ·rename_i k;split at he
       ·rename_i ow ae;cases he;obtain⟨b0,cu,dg,ku⟩:=ar;subst cu;obtain⟨n0,B9,e1,fY,qs⟩:=rxo k rfl;obtain⟨v0,fD,a1,bp,bV,_⟩:=aK.good.own k ow ae;rw[e1]at a1;simp only[dE,jU]at a1;obtain⟨rfl,rfl⟩:=a1;have nV:a.eval o'=B9:=qs b0.symm;by_cases jx:ys=[]
        ·subst jx;rw[vy,tu]at nl;have iF:=Jc (P:=P) (w:=w) (ty:=type) je aq u1 xs.length p5 cx1 ov l1;refine mS (nl _ _ (by simpa using iF)) (c4 _ _ ν ?_);have dh:{st with t:=put d (.slice ow.sz (.own k) (xs++[])) st.t,e:=cF k ⟨xs.length+([]:List ak).length,ow.el,ow.sz,none⟩ st.e}=({st with e:=cF k ⟨ow.n,ow.el,ow.sz,none⟩ st.e,t:=put d (.slice ow.sz (.own k) xs) st.t}:br):=by simp[b0]
         rw[<-dg,dh];have l9:=aK.forgetRow ae;refine l9.put (d:=some d) (by simpa[jJ]using U) (p:= .slice ow.sz (.own k) xs) ?_;simp only[bc];rw[<-dg]at cx4;exact⟨⟨u1,p5,rfl,cx1,⟨S6,S7⟩,cx4⟩,fun e=>(by cases e),(fun g e=>by cases e;exact⟨_,_,e1,fY,fun e=>by rw[<-tu];exact qs e⟩),fun _ _ e=>(by cases e),fun _ e=>(by cases e)⟩
        ·have hyp:0<ys.length:=by cases ys<;>simp at jx⊢
         rcases cy4 with cy4|⟨lJ,n4,hC,rfl,yW,nc⟩
         ·exact absurd cy4 jx
         ·have j1:=uE nc;have sI:∀j u,hC[j]? =some u->w.cell? ((⟨lJ,n4,none⟩:Addr).add j)=some u:=fun j u af=>by rw[p0];exact(vG yW af).2
          have sC:(xs.length+ys.length)*fC.bytes<=140737488355328:=by
           have l4:fC.bytes<=2048:=by rw[di];exact vk
           have pg:(xs.length+ys.length)*fC.bytes<=(xs.length+ys.length)*2048:=Nat.mul_le_mul_left _ l4;simp only[lim]at ku;omega
          have l6:xs.length+ys.length<=maxLen:=by simp only[lim]at ku;simp only[maxLen];omega
          rw[vy]at nl;have wX:fD.length=ow.n*ow.sz:=bp.1;have wZ:z.cells.size=fC.size:=by rw[se,bG]
          have Dp:(∀cur,eB->cur=(0:Nat))->(∃v' w',(Builtin.append_ #[t,t] type #[a.eval o',.slice (some ⟨lJ,n4,none⟩) ys.length l1]).run P w= .ok v' w'/\w'.ownsRow w.heap.size ow.el fC.size v' (xs.length+ys.length) (fD++hC)/\w.grownBy w' none/\dD w ν fC.size xs fD)->
            (⟨some d,.call ⟨.builtin .append,⟨[o',jC]⟩,⟨[t,t]⟩⟩,type,pos,after,guard⟩:Oper).wp P a w K Q:=by
           intro _ cA;obtain⟨v',w',f1,f2,f3,f4⟩:=cA;have GZ:dD w ν fC.size (xs++ys) (fD++hC):=EL f4 (by rw[bG];exact nc);obtain⟨c1,dv⟩:=aK.newRow (k:=k) (xs:=xs++ys) (.inr ⟨ow,ae,by rw[b0];simp;omega⟩) f3 (by simpa using f2) GZ (by simpa using ku) (n':=st.n) (o':=st.o)
            (fun j af=>⟨af,fun e=>by subst e;have:=(aK.new _ af).2.1;rw[e1]at this;cases this⟩)
           refine mS (nl _ _ f1) (c4 _ _ ((ν.withOwn k (xs++ys).length v').withRowOf k v' (xs++ys).length ((xs++ys).length*fC.size)) ?_);have:=c1.put (d:=some d) (by simpa[jJ]using U) dv;simpa[bG,eY]using this
          rcases bp.2 with⟨n5,zc⟩|⟨bl,cap,cur,n5,zc,BH,N3,N4,N5,Iq⟩
          ·
           have A2:xs=[]:=List.eq_nil_of_length_eq_zero Ω;have Mt:fD=[]:=List.eq_nil_of_length_eq_zero (by rw[wX,zc];simp);subst A2;subst Mt;refine Dp (fun _ h=>h.elim) ?_;obtain⟨v',w',f1,f2,f3,_⟩:=run_append_own (P:=P) w w.heap.size t type ow.el fC z fC.size fC.bytes je aq h7 rfl rfl wZ (by rw[bG];exact eW) (.slice none 0 0) 0 [] (World.ownsRow_nil w _ _ _)
            ⟨lJ,n4,none⟩ ys.length l1 hC (by rw[j1,bG]) sI (zi nc) (by simpa using l6) (by simpa using sC) (eu _)
           refine⟨v',w',by rw[nV,n5];exact f1,by simpa using f2,by simpa[oZ]using f3,by simp[dD]⟩
          ·have ail:mj w ν.A bl 0 fD/\dD w ν fC.size xs fD/\True:=by
            rw[nV,n5]at tu;rcases cx4 with cx4|⟨bb,aud,PA,f1,f2,f3⟩
            ·subst cx4;have:fD=[]:=List.eq_nil_of_length_eq_zero (by rw[wX,b0];simp);subst this;exact⟨trivial,by simp[dD],trivial⟩
            ·subst f1;injection tu with vx1 vx2 vx3;injection vx1 with vx1;injection vx1 with vx1 vx4;subst vx1;subst vx4;have heq:PA=fD:=by
              apply List.ext_getElem?;intro j;have pA:PA.length=fD.length:=by rw[uE f3,wX,b0,dg]
              by_cases af:j<PA.length
              ·have J:=(vG f2 (bY af)).2;rw[Nat.zero_add]at J;have U:=bp.cells (g:=bl) (by rw[n5];rfl) j fD[j] (bY Ω);rw[p0,Nat.zero_add,J]at U;rw[bY af,bY Ω];exact U
              ·rw[pT Ω,pT Ω]
             subst heq;exact⟨f2,by rw[bG];exact f3,trivial⟩
           obtain⟨yy,oE,_⟩:=ail;by_cases sK:xs.length+ys.length<=cap
           ·have asH:cur.size=cap*ow.sz:=N5;have hmul:(xs.length+ys.length)*ow.sz<=cap*ow.sz:=pV _ sK;rw[o3]at hmul;have f1:=run_append_room (P:=P) w t type ow.el fC je aq bl xs.length cap cur BH ⟨lJ,n4,none⟩ ys.length l1 hC (by rw[j1,bG]) sI (zi nc) sK (by rw[j1,bG,<-dg];omega);obtain⟨c1,dv⟩:=aK.inPlace ae (bl:=bl) (cap:=cap) (cur:=cur) (by rw[e1,<-n5]) BH N4 N5 (xs:=xs) (ys:=ys) (us:=fD) (ns:=hC) b0.symm Iq (by rw[dg,<-bG];exact oE) (by rw[dg];exact nc) hyp (by rw[b0];exact sK) ku;refine mS (v:= .slice (some ⟨bl,0,none⟩) (ow.n+ys.length) cap) (w':=w.setRow bl (fD++hC++cur.toList.drop (ow.n*ow.sz+hC.length)).toArray) (nl _ _ ?_)
             (c4 _ _ (ν.withRowOf k (.slice (some ⟨bl,0,none⟩) (ow.n+ys.length) cap) (ow.n+ys.length) ((ow.n+ys.length)*ow.sz)) ?_)
            ·rw[nV,n5,b0,f1,<-Iq,b0,dg,bG]
            ·have:=c1.put (d:=some d) (by simpa[jJ]using U) dv;simpa[b0,dg,eY]using this
           ·refine Dp (fun _ h=>h.elim) ?_;obtain⟨v',w',f1,f2,f3⟩:=run_append_arg_grows (P:=P) w t type ow.el fC z fC.size fC.bytes je aq h7 rfl rfl wZ (by rw[bG];exact eW) ⟨bl,0,none⟩ xs.length cap fD (by rw[wX,b0,dg,bG])
             (fun j u af=>by rw[p0];exact(vG yy af).2) ⟨lJ,n4,none⟩ ys.length l1 hC (by rw[j1,bG]) sI Ω l6 sC
            exact⟨v',w',by rw[nV,n5,b0];exact f1,f2,f3,oE⟩
       ·cases he
      ·cases he;have Ha:=rxn rfl;have A2:xs=[]:=by rw[Ha]at tu;injection tu with _ aG;exact List.eq_nil_of_length_eq_zero aG.symm
       subst A2;have yD:(ev.app d g.size el x y).makes st=true:=by simp only[ev.makes,ad]
       have wZ:z.cells.size=fC.size:=by rw[se,bG]
       rw[vy,Ha]at nl;have dz:∀(v':Value) (w':World) (hC:List Value),(Builtin.append_ #[t,t] type #[.slice none 0 0,.slice ov ys.length l1]).run P w= .ok v' w'->w'.ownsRow w.heap.size el g.size v' ys.length hC->w.grownBy w' none->dD w ν g.size ys hC->
         (⟨some d,.call ⟨.builtin .append,⟨[o',jC]⟩,⟨[t,t]⟩⟩,type,pos,after,guard⟩:Oper).wp P a w K Q:=by
        intro v' w' hC f1 f2 f3 f4;obtain⟨c1,dv⟩:=aK.newRow (k:=κ) (xs:=ys) (.inl (aK.new _ (vn yD))) f3 f2 f4 ar (cB yD);exact mS (nl _ _ f1) (c4 _ _ _ (c1.put (d:=some d) (by simpa[jJ]using U) dv))
       by_cases jx:ys=[]
       ·subst jx;exact dz _ w [] (Jc je aq none 0 0 (eu _) ov l1) (World.ownsRow_nil w _ _ _) (aq0 w _) (by simp[dD])
       ·rcases cy4 with cy4|⟨lJ,n4,hC,rfl,yW,nc⟩
        ·exact absurd cy4 jx
        ·have j1:=uE nc;have sI:∀j u,hC[j]? =some u->w.cell? ((⟨lJ,n4,none⟩:Addr).add j)=some u:=fun j u af=>by rw[p0];exact(vG yW af).2
         have sC:ys.length*fC.bytes<=140737488355328:=by
          have J:fC.bytes<=2048:=by rw[di];exact vk
          have U:ys.length*fC.bytes<=ys.length*2048:=Nat.mul_le_mul_left _ J;simp only[lim]at ar;omega
         have l6:ys.length<=maxLen:=by simp only[lim]at ar;simp only[maxLen];omega
         obtain⟨v',w',f1,f2,f3,_⟩:=run_append_own (P:=P) w w.heap.size t type el fC z fC.size fC.bytes je aq h7 rfl rfl wZ (by rw[bG];exact eW) (.slice none 0 0) 0 [] (World.ownsRow_nil w _ _ _)
          ⟨lJ,n4,none⟩ ys.length l1 hC (by rw[j1,bG]) sI (zi nc) (by simpa using l6) (by simpa using sC) (eu _)
         exact dz v' w' hC f1 (by rw[<-bG];simpa using f2) (by simpa[oZ]using f3) nc
      ·cases he
     ·cases he
    ·cases he
   ·cases b7
  ·cases a6
 ·rename_i d key sz el xs t len parts;simp only[cr,dQ,en]at aw;obtain⟨⟨⟨⟨⟨⟨J,U⟩,ao⟩,a6⟩,b7⟩,dd⟩,ed⟩:=aw;subst J;subst b7;split at ao
  ·rename_i gi aQ;simp only[dQ]at ao;subst ao;split at a6
   ·rename_i g aX;simp only[cr,dQ,en]at a6;obtain⟨rfl,eW⟩:=a6;simp only[eJ]at he;cases he;obtain⟨us,g1,g2,g3⟩:=ZB aH aK aQ rfl aX ed ar dd;have l8:(w.alloc (.cells us el)).ownsRow w.heap.size el g.size (.slice (some ⟨w.heap.size,0,none⟩) xs.length xs.length) (xs.map (cy st.t)).length us.toList:=by
     refine⟨by simp[g3],.inr ⟨w.heap.size,xs.length,us,Ψ,eu _,heap_alloc_new w _,Ψ,?_,g3,?_⟩⟩
     ·simp only[maxLen];have:xs.length<=xs.length*g.size:=Nat.le_mul_of_pos_right _ eW;omega
     ·rw[gw];simp[g3]
    obtain⟨e1,fY⟩:=aK.newRowM (k:=κ) (xs:=xs.map (cy st.t)) (.inl (aK.new _ (vn rfl))) (World.grownBy_alloc w _ none) l8 g2
     (by have:xs.length<=xs.length*g.size:=Nat.le_mul_of_pos_right _ eW;simp only[lim,r5];omega) (cB rfl)
    simp only[r5]at e1 fY;refine mS (v:= .slice (some ⟨w.heap.size,0,none⟩) xs.length xs.length) (w':=w.alloc (.cells us el)) ?_ (c4 _ _ _ (e1.put (d:=some d) (by simpa[jJ]using U) (p:= .row g.size κ xs.length) (fY ⟨_,_,rfl⟩)));have bD:(parts.map fun(x:Nat×Operand)=>(x.1,a.eval x.2))=(parts.toList.map fun(x:Nat×Operand)=>(x.1,a.eval x.2)).toArray:=by apply Array.ext';simp
    simp only[execOp];refine Fl ?_;rw[<-g1];congr 2
   ·cases a6
  ·cases ao
 ·rename_i d key sz el x y o' jC t dO;simp only[cr,dQ,en]at aw;obtain⟨⟨⟨⟨⟨⟨J,U⟩,ao⟩,a6⟩,b7⟩,dd⟩,ed⟩:=aw;subst J;subst ao;split at a6
  ·rename_i gi aQ;simp only[dQ]at a6;subst a6;split at b7
   ·rename_i g aX;simp only[cr,dQ,en]at b7;obtain⟨⟨rfl,eW⟩,vk⟩:=b7;have rx:=et aK dd;have mo:=et aK ed;have nl:∀v' w',(Builtin.append_ #[t,t] type #[a.eval o',a.eval jC]).run P w= .ok v' w'->(execOp a.eval ⟨some d,.call ⟨.builtin .append,⟨[o',jC]⟩,⟨[t,t]⟩⟩,type,pos,after,guard⟩).run P w= .ok (.value v') w':=by intro v' w' iF;simp only[execOp,resolve,invoke,builtin,fO,gF,fT,List.map_toArray,ht,oo];rw[iF];rfl
    obtain⟨fC,cn,z,aq,aG,bG,di,hx,h7,sd,se⟩:=(wc aH aX).ex;obtain⟨eU,je,eK⟩:=jl aH aQ;obtain rfl:=tL eK;have wZ:z.cells.size=fC.size:=by rw[se,bG]
    simp only[eJ]at he;split at he
    ·
     rename_i ys ay;cases he;unfold tI at ay;split at ay
     ·rename_i dH xs jE lA aqS ad aC;split at ay
      ·rename_i fo;obtain⟨rfl,fo⟩:=fo;subst fo;cases ay;rw[ad]at rx;rw[aC]at mo;simp only[bc]at rx mo;obtain⟨⟨u1,p5,tu,cx1,⟨S6,S7⟩,cx4⟩,rxn,rxo,rxt⟩:=rx;obtain⟨⟨ov,l1,vy,cy1,⟨S8,S9⟩,cy4⟩,_⟩:=mo;have Ha:=rxn trivial;have yD:(ev.appm d key g.size el x y).makes st=true:=by simp only[ev.makes,ad]
       rw[vy,Ha]at nl;have dz:∀(v':Value) (w':World) (hC:List Value),(Builtin.append_ #[t,t] type #[.slice none 0 0,.slice ov ys.length l1]).run P w= .ok v' w'->w'.ownsRow w.heap.size el g.size v' ys.length hC->w.grownBy w' none->dD w ν g.size ys hC->
         (⟨some d,.call ⟨.builtin .append,⟨[o',jC]⟩,⟨[t,t]⟩⟩,type,pos,after,guard⟩:Oper).wp P a w K Q:=by
        intro v' w' hC f1 f2 f3 f4;obtain⟨c1,dv⟩:=aK.newRowM (k:=κ) (xs:=ys) (.inl (aK.new _ (vn yD))) f3 f2 f4 ar.1 (cB yD);exact mS (nl _ _ f1) (c4 _ _ _ (c1.put (d:=some d) (by simpa[jJ]using U) (dv (X2 f2 (by cases ys<;>simp at ar⊢)))))
       by_cases jx:ys=[]
       ·subst jx;exact dz _ w [] (Jc je aq none 0 0 (eu _) ov l1) (World.ownsRow_nil w _ _ _) (aq0 w _) (by simp[dD])
       ·rcases cy4 with cy4|⟨lJ,n4,hC,rfl,yW,nc⟩
        ·exact absurd cy4 jx
        ·have j1:=uE nc;have sI:∀j u,hC[j]? =some u->w.cell? ((⟨lJ,n4,none⟩:Addr).add j)=some u:=fun j u af=>by rw[p0];exact(vG yW af).2
         have sC:ys.length*fC.bytes<=140737488355328:=by
          have J:fC.bytes<=2048:=by rw[di];exact vk
          have U:ys.length*fC.bytes<=ys.length*2048:=Nat.mul_le_mul_left _ J;simp only[lim]at ar;omega
         have l6:ys.length<=maxLen:=by simp only[lim]at ar;simp only[maxLen];omega
         obtain⟨v',w',f1,f2,f3,_⟩:=run_append_own (P:=P) w w.heap.size t type el fC z fC.size fC.bytes je aq h7 rfl rfl wZ (by rw[bG];exact eW) (.slice none 0 0) 0 [] (World.ownsRow_nil w _ _ _)
          ⟨lJ,n4,none⟩ ys.length l1 hC (by rw[j1,bG]) sI (zi nc) (by simpa using l6) (by simpa using sC) (eu _)
         exact dz v' w' hC f1 (by rw[<-bG];simpa using f2) (by simpa[oZ]using f3) nc
      ·cases ay
     ·split at ay
      ·split at ay
       ·split at ay<;>cases ay
       ·cases ay
      ·cases ay
     ·cases ay
    ·
     rename_i k xs ys ay;cases he;unfold tI at ay;split at ay
     ·split at ay<;>cases ay
     ·rename_i dH bH n jE lA aqS ad aC;split at ay
      ·rename_i fo;obtain⟨rfl,fo⟩:=fo;subst fo;split at ay
       ·rename_i n' gi xD xs' ae;split at ay
        ·rename_i sD;obtain⟨rfl,rfl,rfl⟩:=sD;cases ay;rw[ad]at rx;rw[aC]at mo;simp only[bc]at rx mo;obtain⟨⟨bx,p5,tu⟩,rxl,n0,B9,e1,fY,qs⟩:=rx;obtain⟨⟨ov,l1,vy,cy1,⟨S8,S9⟩,cy4⟩,_⟩:=mo;obtain⟨v0,fD,a1,bp,bV,cQ⟩:=aK.good.own k _ ae;rw[e1]at a1;simp only[dE,jU]at a1 bp;obtain⟨rfl,rfl⟩:=a1;have nV:a.eval o'=B9:=qs rfl;obtain⟨cZ,oO,vR⟩:=cQ xs rfl;simp only at cZ oO;have wX:fD.length=xs.length*g.size:=by rw[cZ];exact bp.1
         have qk:xs.length=n0:=cZ;by_cases jx:ys=[]
         ·subst jx;rw[vy,tu]at nl;have kR:n0<=p5:=by
           rcases bp.2 with⟨n5,zc⟩|⟨bl,cap,cur,n5,zc,BH,N3,_⟩
           ·rw[zc];exact Nat.zero_le _
           ·rw[<-nV,tu]at n5;injection n5 with _ _ e;rw[e];exact N3
          have iF:=Jc (P:=P) (w:=w) (ty:=type) je aq (some ⟨bx,0,none⟩) n0 p5 kR ov l1;refine mS (nl _ _ (by simpa using iF)) (c4 _ _ ν ?_);have hW:∀fc,look fc (cF k ⟨n0,gi,g.size,some xs⟩ st.e)=look fc st.e:=fun fc=>by
           rw[jh];split
           ·rename_i e;subst e;rw[ae]
           ·rfl
          have l9:cY C {st with e:=cF k ⟨n0,gi,g.size,some xs⟩ st.e} a w ν:=
           ⟨⟨aK.good.alt,aK.good.box,aK.good.inj,fun g o aX=>aK.good.own g o (by rw[<-hW g];exact aX),fun g fc n n' v v' bl bC a2=>aK.good.oinj g fc n n' v v' bl (by rw[<-hW g];exact bC) (by rw[<-hW fc];exact a2),
           fun g j n v bl bC=>aK.good.obx g j n v bl (by rw[<-hW g];exact bC),aK.good.one,fun bl ab=>aK.good.otr bl (ab.imp id (fun⟨g,n,v,bC,a2⟩=>⟨g,n,v,by rw[<-hW g];exact bC,a2⟩))⟩,aK.fr,aK.defers,aK.size,aK.slot,aK.new⟩
          have ao:=l9.put (d:=some d) (by simpa[jJ]using U) (p:= .row g.size k n0) (v:= .slice (some ⟨bx,0,none⟩) n0 p5) (by simp only[bc];exact⟨⟨_,_,rfl⟩,rxl,_,_,e1,eu _,fun _=>by rw[<-tu];exact nV⟩)
          simpa[qk,eY]using ao
         ·have hyp:0<ys.length:=by cases ys<;>simp at jx⊢
          rcases cy4 with cy4|⟨lJ,n4,hC,rfl,yW,nc⟩
          ·exact absurd cy4 jx
          ·have j1:=uE nc;have sI:∀j u,hC[j]? =some u->w.cell? ((⟨lJ,n4,none⟩:Addr).add j)=some u:=fun j u af=>by rw[p0];exact(vG yW af).2
           have sC:(xs.length+ys.length)*fC.bytes<=140737488355328:=by
            have l4:fC.bytes<=2048:=by rw[di];exact vk
            have pg:(xs.length+ys.length)*fC.bytes<=(xs.length+ys.length)*2048:=Nat.mul_le_mul_left _ l4;simp only[lim]at ar;omega
           have l6:xs.length+ys.length<=maxLen:=by simp only[lim]at ar;simp only[maxLen];omega
           have GZ:dD w ν g.size (xs++ys) (fD++hC):=EL oO nc;rw[vy,nV]at nl;have Dp:(∃v' w',(Builtin.append_ #[t,t] type #[B9,.slice (some ⟨lJ,n4,none⟩) ys.length l1]).run P w= .ok v' w'/\w'.ownsRow w.heap.size gi fC.size v' (xs.length+ys.length) (fD++hC)/\w.grownBy w' none)->
             (⟨some d,.call ⟨.builtin .append,⟨[o',jC]⟩,⟨[t,t]⟩⟩,type,pos,after,guard⟩:Oper).wp P a w K Q:=by
            intro cA;obtain⟨v',w',f1,f2,f3⟩:=cA;obtain⟨c1,dv⟩:=aK.newRowM (k:=k) (xs:=xs++ys) (el:=gi) (sz:=g.size) (.inr ⟨_,ae,by simp;omega⟩) f3 (by rw[<-bG];simpa using f2) GZ (by simpa using ar) (n':=st.n) (o':=st.o)
             (fun j af=>⟨af,fun e=>by subst e;have:=(aK.new _ af).2.1;rw[e1]at this;cases this⟩)
            refine mS (nl _ _ f1) (c4 _ _ (ν.withOwn k (xs++ys).length v') ?_);have:=c1.put (d:=some d) (by simpa[jJ]using U) (dv (by simpa using X2 f2 Ω));simpa[eY]using this
           rcases bp.2 with⟨n5,zc⟩|⟨bl,cap,cur,n5,zc,BH,N3,N4,N5,Iq⟩
           ·
            have A2:xs=[]:=List.eq_nil_of_length_eq_zero Ω;have Mt:fD=[]:=List.eq_nil_of_length_eq_zero (by rw[wX,A2];simp);subst A2;subst Mt;refine Dp ?_;obtain⟨v',w',f1,f2,f3,_⟩:=run_append_own (P:=P) w w.heap.size t type gi fC z fC.size fC.bytes je aq h7 rfl rfl wZ (by rw[bG];exact eW) (.slice none 0 0) 0 [] (World.ownsRow_nil w _ _ _)
             ⟨lJ,n4,none⟩ ys.length l1 hC (by rw[j1,bG]) sI (zi nc) (by simpa using l6) (by simpa using sC) (eu _)
            exact⟨v',w',by rw[n5];exact f1,by simpa using f2,by simpa[oZ]using f3⟩
           ·have pB:B9.ownBlock=some bl:=by rw[n5];rfl
            by_cases sK:xs.length+ys.length<=cap
            ·have hmul:(xs.length+ys.length)*g.size<=cap*g.size:=pV _ sK;rw[o3]at hmul;have f1:=run_append_room (P:=P) w t type gi fC je aq bl xs.length cap cur BH ⟨lJ,n4,none⟩ ys.length l1 hC (by rw[j1,bG]) sI (zi nc) sK (by rw[j1,bG];omega);generalize VK:(cur.toList.take (xs.length*fC.size)++hC++cur.toList.drop (xs.length*fC.size+hC.length)).toArray=uy at f1;have kg:(w.setRow bl uy).heap[bl]? =some (.cells uy gi (0,0)):=setRow_heap w bl cur uy gi _ BH;have av:(fD++hC).length=(xs++ys).length*g.size:=by rw[o0,wX,j1,o0,o3]
             have b7:cur.toList.take (xs.length*fC.size)=fD:=by rw[qk,bG];exact Iq
             have kV:uy.size=cap*g.size:=by rw[<-VK];simp only[List.size_toArray,o0,List.length_take,tB,Array.length_toList];rw[bG];omega
             have qh:uy.toList.take ((xs++ys).length*g.size)=fD++hC:=by rw[<-VK,b7];simp only[<-av];rw[List.take_append_of_le_length (eu _),k9]
             obtain⟨c1,_,dv⟩:=aK.setRowM (w':=w.setRow bl uy) ae rfl e1 pB (v':= .slice (some ⟨bl,0,none⟩) (xs.length+ys.length) cap) rfl (xs':=xs++ys) (us:=fD++hC) (.inr (by simp;omega)) rfl rfl rfl (fun j af=>setRow_other w bl j uy af) (setRow_size w bl uy)
              ⟨av,.inr ⟨bl,cap,uy,Ψ,Nat.zero_le _,kg,by simpa using sK,N4,kV,qh⟩⟩ GZ
             replace dv:=dv (by simpa using ar);refine mS (v:= .slice (some ⟨bl,0,none⟩) (xs.length+ys.length) cap) (w':=w.setRow bl uy) (nl _ _ ?_) (c4 _ _ (ν.withOwn k (xs++ys).length (.slice (some ⟨bl,0,none⟩) (xs.length+ys.length) cap)) ?_)
             ·rw[n5,<-qk];exact f1
             ·have:=c1.put (d:=some d) (by simpa[jJ]using U) dv;simpa[eY]using this
            ·refine Dp ?_;obtain⟨v',w',f1,f2,f3⟩:=run_append_arg_grows (P:=P) w t type gi fC z fC.size fC.bytes je aq h7 rfl rfl wZ (by rw[bG];exact eW) ⟨bl,0,none⟩ xs.length cap fD (by rw[wX,bG])
              (fun j u af=>by have:=bp.cells pB j u af;exact this) ⟨lJ,n4,none⟩ ys.length l1 hC (by rw[j1,bG]) sI Ω l6 sC
             exact⟨v',w',by rw[n5,<-qk];exact f1,f2,f3⟩
        ·cases ay
       ·cases ay
      ·cases ay
     ·cases ay
    ·cases he
   ·cases b7
  ·cases a6
 ·rename_i sz x y t o' jC;simp only[cr,dQ]at aw;obtain⟨⟨⟨J,U⟩,ao⟩,a6⟩:=aw;subst J;split at U
  ·rename_i f aQ;simp only[dQ]at U;simp only[eJ]at he;generalize Md:cy st.t x=px at he;unfold rU at he;split at he
   ·rename_i dH k n i tQ;split at he
    ·rename_i n' el jE xs ae;split at he
     ·rename_i L9;obtain⟨rfl,rfl⟩:=L9;split at he
      ·rename_i q bt;cases he;obtain⟨kM,b0,cu,dg,ku⟩:=ar;have rx:=et aK ao;rw[Md]at rx;have mo:=et aK a6;have vV:=vW mo b0;have vY:=qu vV;obtain⟨_,ep⟩:=wb aH aQ w;have sO:(a.eval jC).cells.size=sz:=by rw[cu]at vY;simpa using vY
       obtain⟨bl,off,nb,DB,dh,bo,pw⟩:=aK.storeRow (P:=P) ae rx bt kM vV (by simpa[sO]using dg) (fun e=>by have:=eP List.length e;simp[sO]at this;omega);refine Fq (w':=w.setRow bl nb) ?_ (c4 _ _ _ pw);simp only[execOp,Instr.storeAt,DB,Instr.sureAddr,storeVar,fO,gF,fT,ep,sO,U,ne_eq,not_true_eq_false,if_false,dh]
      ·cases he
     ·cases he
    ·cases he
   ·cases he
  ·cases U
 ·rename_i d key sz el z x t o' jC;simp only[cr,dQ,en]at aw;obtain⟨⟨⟨⟨⟨J,U⟩,ao⟩,a6⟩,b7⟩,dd⟩:=aw;subst J;split at ao
  ·rename_i gi aQ;simp only[dQ]at ao;subst ao;split at a6
   ·rename_i g aX;simp only[cr,dQ,en]at a6;obtain⟨⟨⟨rfl,eW⟩,vk⟩,ba⟩:=a6;obtain rfl:=P3 ba;have rx:=et aK b7;have mo:=et aK dd;simp only[eJ]at he;split at he
    ·rename_i fv n ad;cases he;obtain⟨aiv,j1⟩:=ar;obtain⟨m,rfl⟩:=Int.eq_ofNat_of_zero_le aiv;rw[ad]at rx mo;simp only[bc]at rx mo;obtain⟨fC,cn,b2,aq,aG,bG,di,hx,h7,sd,se⟩:=(wc aH aX).ex;obtain⟨eU,je,eK⟩:=jl aH aQ;obtain rfl:=tL eK;have l6:m<=lim:=by simp only[lim]at j1⊢;omega
     have sC:fC.bytes*m<=281474976710656:=by have J:fC.bytes*m<=2048*m:=pV _ Ω;simp only[lim]at l6;omega
     obtain⟨aiU,G0⟩:=P2 w ν sd;obtain⟨w',g1,g2,g3⟩:=run_make_full (P:=P) w w.heap.size t el fC b2 fC.size je aq h7 rfl fv fv m sC (by simp only[maxLen];simp only[lim]at l6;omega) (eu _);have l8:w'.ownsRow w.heap.size el g.size (.slice (some ⟨w.heap.size,0,none⟩) m m) (List.replicate m g.zero).length (madeCells b2.cells (m*b2.cells.size)).toList:=by rw[bG,<-se]at g2;rw[List.length_replicate,<-se];exact g2
     obtain⟨e1,fY⟩:=aK.newRowM (k:=κ) (xs:=List.replicate m g.zero) (.inl (aK.new _ (vn rfl))) g3 l8 (by rw[<-se];exact W4 aiU Ω (BT G0) m) (by simpa using l6) (cB rfl);simp only[List.length_replicate]at e1 fY;simp only[Int.toNat_natCast]at c4;refine mS (v:= .slice (some ⟨w.heap.size,0,none⟩) m m) (w':=w') ?_ (c4 _ _ _ (e1.put (d:=some d) (by simpa[jJ]using U) (p:= .row g.size κ m) (fY ⟨_,_,rfl⟩)));simp only[execOp];refine Fl ?_;rw[rx,mo];exact g1
    ·cases he
   ·cases a6
  ·cases ao
 ·cases aw
theorem aoG{P:cJ}{bF:List (Nat×dB)}(aH:fM P bF=true){C:fj}{st st':br}{a:Act}{w:World}{ν:be}(aK:cY C st a w ν){i:ev}{o:Oper}(aw:EU C.N bF i o=true)
  {c:Prop} (he:mL st i=some (c,st')) (ar:c) {K:Act->World->Prop} {Q:Exit->Act->World->Prop} (c4:∀bn w' bo,cY C st' bn w' bo->K bn w'):o.wp P a w K Q:=by
 have ps:qR st none->fresh st.n st.o (.loc st.n):=fun h=>xi (key:=none) h;have fA:∀j,fresh (st.n+1) st.o j->fresh st.n st.o j/\j≠ .loc st.n:=xj (key:=none);cases i with
 |v d i=>exact j7 (κ:= .loc 0) (n':=0) (o₁:=[]) aH aK aw (fun h=>by simp[ev.makes]at h) (fun h=>by simp[ev.makes]at h) (by simpa only[mL,eJ]using he) ar c4
 |box d key x=>simp only[mL]at he;cases he;exact j7 (κ:=j5 st key) (n':=n2 st key) (o₁:=n3 st key) aH aK aw (fun _=>xi ar.1) (fun _=>xj) (by simp only[eJ]) ar.2 c4
 |alloc d key z=>simp only[mL]at he;cases he;exact j7 (κ:=j5 st key) (n':=n2 st key) (o₁:=n3 st key) aH aK aw (fun _=>xi ar) (fun _=>xj) (by simp only[eJ]) trivial c4
 |mks d key sz el z x=>
  simp only[mL]at he;split at he
  ·rename_i fv n ad;cases he;exact j7 (κ:=j5 st key) (n':=n2 st key) (o₁:=n3 st key) aH aK aw (fun _=>xi ar.1) (fun _=>xj) (by simp only[eJ,ad]) ar.2 c4
  ·cases he
 |storeE sz x y=>exact j7 (κ:= .loc 0) (n':=0) (o₁:=[]) aH aK aw (fun h=>by simp[ev.makes]at h) (fun h=>by simp[ev.makes]at h) (by simpa only[mL,eJ]using he) ar c4
 |store sz x y=>exact j7 (κ:= .loc 0) (n':=0) (o₁:=[]) aH aK aw (fun h=>by simp[ev.makes]at h) (fun h=>by simp[ev.makes]at h) (by simpa only[mL,eJ]using he) ar c4
 |bsl d sz el xs=>simp only[mL]at he;cases he;exact j7 (κ:= .loc st.n) (n':=st.n+1) (o₁:=st.o) aH aK aw (fun _=>ps ar.1) (fun _=>fA) (by simp only[eJ]) ar.2 c4
 |bslm d key sz el xs=>simp only[mL]at he;cases he;exact j7 (κ:=j5 st key) (n':=n2 st key) (o₁:=n3 st key) aH aK aw (fun _=>xi ar.1) (fun _=>xj) (by simp only[eJ]) ar.2 c4
 |appm d key sz el x y=>
  simp only[mL]at he;split at he
  ·rename_i ys ay;cases he;exact j7 (κ:=j5 st key) (n':=n2 st key) (o₁:=n3 st key) aH aK aw (fun _=>xi ar.1) (fun _=>xj) (by simp only[eJ,ay]) ar.2 c4
  ·rename_i k xs ys ay;cases he;refine j7 (κ:= .loc 0) (n':=0) (o₁:=[]) aH aK aw (fun h=>?_) (fun h=>?_) (by simp only[eJ,ay]) ar c4;all_goals
    exfalso
    simp only[ev.makes]at h
    split at h
    ·rename_i ad
     unfold tI at ay
     rw[ad]at ay
     split at ay
     ·split at ay<;>cases ay
     ·rename_i J _;cases J
     ·cases ay
    ·cases h
  ·cases he
 |mkmap d key=>simp only[mL]at he;cases he;exact j7 (κ:=j5 st key) (n':=n2 st key) (o₁:=n3 st key) aH aK aw (fun _=>xi ar) (fun _=>xj) (by simp only[eJ]) trivial c4
 |mput ch x k v=>exact j7 (κ:= .loc 0) (n':=0) (o₁:=[]) aH aK aw (fun h=>by simp[ev.makes]at h) (fun h=>by simp[ev.makes]at h) (by simpa only[mL,eJ]using he) ar c4
 |range d key x=>
  simp only[mL]at he;split at he
  ·rename_i m ad;split at he
   ·rename_i cs dn;split at he
    ·rename_i cs' hm;cases he;exact j7 (κ:=j5 st key) (n':=n2 st key) (o₁:=n3 st key) aH aK aw (fun _=>xi ar) (fun _=>xj) (by simp only[eJ,ad,dn,hm]) trivial c4
    ·cases he
   ·cases he
  ·cases he
 |app d sz el x y=>
  simp only[mL]at he;split at he
  ·rename_i dH tag xs jE lA ys ad aC;split at he
   ·rename_i fo;split at he
    ·rename_i k;split at he
     ·rename_i ow ae;cases he;refine j7 (κ:= .loc 0) (n':=0) (o₁:=[]) aH aK aw (fun h=>by simp[ev.makes,ad]at h) (fun h=>by simp[ev.makes,ad]at h) ?_ ar c4;simp only[eJ,ad,aC,fo,and_self,if_true,ae]
     ·cases he
    ·cases he;refine j7 (κ:= .loc st.n) (n':=st.n+1) (o₁:=st.o) aH aK aw (fun _=>ps ar.1) (fun _=>fA) ?_ ar.2 c4;simp only[eJ,ad,aC,fo,and_self,if_true]
    ·cases he
   ·cases he
  ·cases he
structure cR where
 b:List (aM×List ak)
 e:List (aM×fQ)
def fq(ν:be)(s:cR)(bl:Nat):Prop:=(∃k,(look k s.b).isSome/\ν.bx k=some bl)\/(∃g n v,(look g s.e).isSome/\ν.ow g=some (n,v)/\v.ownBlock=some bl)
def pe(ν:be)(s:cR):Prop:= ∀k,(look k s.b=none->ν.bx k=none)/\(look k s.e=none->ν.ow k=none)/\∀j b,¬ν.tr k j b
def c3(s:cR):List aM:=s.b.map (·.1)++s.e.map (·.1)
def iV(s:cR):Prop:=(∀m,look (.loc m) s.b=none)/\(∀m,look (.loc m) s.e=none)
def xT(P:cJ)(f:FuncId)(a7:Array Value)(w:World)(R:Ending->World->Prop):Prop:=((∃fn,P.funcs[f]? =some fn/\fn.body.isSome=true/\(fn.name== "runtime.NumGoroutine")=false)/\Calls P f a7 w R)\/ ∃v w',(callFunc f a7).run P w= .ok (.value v) w'/\R (.returned v) w'
def bI(P:cJ)(f:FuncId)(args:List ak)(s:cR)(Q:ak->cR->Prop):Prop:=
 ∀(w:World) (ν:be) (a7:Array Value),Good (fq ν s) w ν s.b s.e->pe ν s->cT w ν args a7.toList->
  xT P f a7 w fun e w'=> ∃v r ah bo,e= .returned v/\Q r ah/\bc w' bo r v/\Good (fun bl=>fq ν s bl\/w.heap.size<=bl) w' bo ah.b ah.e/\pe bo ah/\iV ah/\qB ⟨w,ν,fq ν s,0,c3 s⟩ w' bo
def Gw(κ:Option Nat)(ν:be)(s:cR):Prop:= ∀k,(look k s.b=none->ν.bx k=none)/\(look k s.e=none->ν.ow k=none)/\∀j b,ν.tr k j b->∃m,κ=some m/\k= .loc m
theorem pe.k{ν:be}{s:cR}(h:pe ν s):Gw none ν s:=fun k=>⟨(h k).1,(h k).2.1,fun j b ab=>absurd ab ((h k).2.2 j b)⟩
def JE(P:cJ)(f:FuncId)(κ:Nat)(args:List ak)(s:cR)(Q:ak->cR->Prop):Prop:=
 ∀(w:World) (ν:be) (a7:Array Value),Good (fq ν s) w ν s.b s.e->pe ν s->cT w ν args a7.toList->
  xT P f a7 w fun e w'=> ∃v r ah bo,e= .returned v/\Q r ah/\bc w' bo r v/\Good (fun bl=>fq ν s bl\/w.heap.size<=bl) w' bo ah.b ah.e/\Gw (some κ) bo ah/\iV ah/\qB ⟨w,ν,fq ν s,0,c3 s⟩ w' bo
def bQ(P:cJ)(f:FuncId)(args:List ak)(r:ak):Prop:=bI P f args ⟨[],[]⟩ fun eQ ah=>eQ=r/\ah=⟨[],[]⟩
theorem uu{α:Type}{k:aM}{x:α}:∀{l:List (aM×α)},look k l=some x->(k,x)∈l
 |[],h=>by simp[look]at h
 |(i,y)::r,h=>by
  simp only[look]at h;split at h
  ·rename_i e;subst e;cases h;simp
  ·exact o1 _ (uu h)
theorem uz{s:cR}{k:aM}(h:(look k s.b).isSome\/(look k s.e).isSome):k∈c3 s:=by
 unfold c3;rcases h with h|h<;>obtain⟨x,ad⟩:=fE.1 h<;>have:=uu ad
 ·exact List.mem_append_left _ (hG.2 ⟨_,this,rfl⟩)
 ·exact List.mem_append_right _ (hG.2 ⟨_,this,rfl⟩)
section
open Classical
noncomputable def be.cut(ν:be)(S:aM->Prop):be:={A:=ν.A,bx:=fun k=>if S k then ν.bx k else none,ow:=fun k=>if S k then ν.ow k else none,tr:=fun k j b=>S k/\ν.tr k j b}
theorem be.cut_bx{ν:be}{S:aM->Prop}{k:aM}(h:S k):(ν.cut S).bx k=ν.bx k:=by simp[be.cut,h]
theorem be.cut_ow{ν:be}{S:aM->Prop}{k:aM}(h:S k):(ν.cut S).ow k=ν.ow k:=by simp[be.cut,h]
theorem be.cut_no{ν:be}{S:aM->Prop}{k:aM}(h:¬S k):(ν.cut S).bx k=none/\(ν.cut S).ow k=none/\∀j b,¬(ν.cut S).tr k j b:=by simp[be.cut,h]
theorem be.cut_some{ν:be}{S:aM->Prop}{k:aM}{b:Nat}(h:(ν.cut S).bx k=some b):S k/\ν.bx k=some b:=by
 by_cases ag:S k
 ·exact⟨ag,by rw[be.cut_bx ag]at h;exact h⟩
 ·rw[(be.cut_no ag).1]at h;cases h
theorem be.cut_someO{ν:be}{S:aM->Prop}{k:aM}{b:Nat×Value}(h:(ν.cut S).ow k=some b):S k/\ν.ow k=some b:=by
 by_cases ag:S k
 ·exact⟨ag,by rw[be.cut_ow ag]at h;exact h⟩
 ·rw[(be.cut_no ag).2.1]at h;cases h
theorem o5.cut(S:aM->Prop)(w:World)(ν:be):o5 S w ν w (ν.cut S):=⟨fun _ _ h=>⟨h,rfl⟩,fun k b ae h=>by rw[be.cut_bx ae];exact h,fun g n u aX h=>⟨n,u,by rw[be.cut_ow aX];exact h,.inl ⟨rfl,rfl⟩⟩,fun _ _ _=>rfl,fun _ _ _ ae h=>⟨ae,h⟩⟩
end
def gL(S:aM->Prop)(b1 b:List (aM×List ak)):Prop:= ∀k cs,look k b1=some cs->look k b=some cs/\S k/\aN S cs
def oa(S:aM->Prop)(fF e:List (aM×fQ)):Prop:= ∀k o,look k fF=some o->look k e=some o/\S k/\eg S o
theorem Good.cut{pr EC:Nat->Prop}{w:World}{ν:be}{b b1:List (aM×List ak)}{e fF:List (aM×fQ)}(h:Good pr w ν b e){S:aM->Prop}(ab:gL S b1 b)(he:oa S fF e)
  (Vu:∀bl,pr bl->(∃k,(look k b1).isSome/\(ν.cut S).bx k=some bl)\/(∃g n v,(look g fF).isSome/\(ν.cut S).ow g=some (n,v)/\v.ownBlock=some bl)->EC bl):Good EC w (ν.cut S) b1 fF:=by
 have GX:∀k,(look k b1).isSome->(look k b).isSome/\S k:=fun k ae=>by obtain⟨cs,dn⟩:=fE.1 ae;have:=ab k cs dn;exact⟨by simp[this.1],this.2.1⟩
 have G2:∀k,(look k fF).isSome->(look k e).isSome/\S k:=fun k ae=>by obtain⟨cs,dn⟩:=fE.1 ae;have:=he k cs dn;exact⟨by simp[this.1],this.2.1⟩
 refine⟨h.alt,fun k cs ae=>?_,fun k bH bl J U ao a6=>?_,fun g o aX=>?_,fun g fc n n' v v' bl J U ao a6 b7 dd=>?_,fun g k n v bl J U ao a6 b7=>?_,fun k=>?_,fun bl aH k j af=>?_⟩
 ·obtain⟨g1,g2,g3⟩:=ab k cs ae;obtain⟨bl,us,el,f1,f2,f3,f4,f5⟩:=h.box k cs g1;have jv:(ν.cut S).bx k=some bl:=by rw[be.cut_bx g2];exact f1
  exact⟨bl,us,el,jv,Vu bl f2 (.inl ⟨k,by simp[ae],jv⟩),f3,f4,Zm (o5.cut S w ν) g3 f5⟩
 ·obtain⟨bC,a2⟩:=GX k J;obtain⟨cg,cc⟩:=GX bH U;exact h.inj k bH bl bC cg (be.cut_some ao).2 (be.cut_some a6).2
 ·obtain⟨g1,g2,g3⟩:=he g o aX;obtain⟨v,us,f1,f2,f3,f4⟩:=h.own g o g1;have Dy:(ν.cut S).ow g=some (o.n,v):=by rw[be.cut_ow g2];exact f1
  exact⟨v,us,Dy,f2,fun bl fm=>⟨Vu bl (f3 bl fm).1 (.inr ⟨g,o.n,v,by simp[aX],Dy,fm⟩),(f3 bl fm).2⟩,
   fun xs ad=>⟨(f4 xs ad).1,IW (o5.cut S w ν) _ _ _ (g3 xs ad) (f4 xs ad).2.1,(f4 xs ad).2.2⟩⟩
 ·obtain⟨bC,a2⟩:=G2 g J;obtain⟨cg,cc⟩:=G2 fc U;exact h.oinj g fc n n' v v' bl bC cg (be.cut_someO ao).2 (be.cut_someO a6).2 b7 dd
 ·obtain⟨bC,a2⟩:=G2 g J;obtain⟨cg,cc⟩:=GX k U;exact h.obx g k n v bl bC cg (be.cut_someO ao).2 a6 (be.cut_some b7).2
 ·by_cases ag:S k
  ·rw[be.cut_bx ag,be.cut_ow ag];exact h.one k
  ·exact .inl (be.cut_no ag).1
 ·refine h.otr bl ?_ k j af.2;rcases aH with⟨bH,bC,a2⟩|⟨g,n,v,bC,a2,a3⟩
  ·exact .inl ⟨bH,(GX bH bC).1,(be.cut_some a2).2⟩
  ·exact .inr ⟨g,n,v,(G2 g bC).1,(be.cut_someO a2).2,a3⟩
structure jc (ob:List aM) (st st':br):Prop where
 t:∀x∈st'.t,get x.1 st.t=x.2/\aJ (fun k=> ¬fresh st'.n st'.o k) x.2
 b:gL (fun k=> ¬fresh st'.n st'.o k) st'.b st.b
 e:oa (fun k=> ¬fresh st'.n st'.o k) st'.e st.e
 o:∀m∈ob,m∈st'.o
theorem Un:∀(i:Nat) (l:List (Nat×ak)),get i l= .junk\/(i,get i l)∈l
 |_,[]=>.inl rfl
 |i,(j,p)::r=>by
  by_cases h:j=i
  ·subst h;right;simp[get]
  ·rcases Un i r with J|J
   ·left;simp[get,h,J]
   ·right;simp[get,h];right;exact J
theorem cY.weaker{C:fj}{st st':br}{a:Act}{w:World}{ν:be}(h:cY C st a w ν)(hw:jc C.ob st st'):cY C st' a w (ν.cut fun k=> ¬fresh st'.n st'.o k):=by
 refine⟨h.good.cut hw.b hw.e (fun bl bD _=>bD),⟨h.fr.os,h.fr.tape,h.fr.output,h.fr.size,h.fr.block,h.fr.keep,h.fr.fresh,fun n b ab=>?_,h.fr.obn,fun m n u hm=>?_,h.fr.obr,fun k j bH dG b J U=>h.fr.trd k j bH dG b J.2 U.2,fun k j b ab=>h.fr.trb k j b ab.2,fun k j b ab=>?_,h.fr.sh⟩,h.defers,h.size,fun i=>?_,fun k ae=>be.cut_no (fun au=>au ae)⟩
 ·rw[be.cut_bx (fun cA=>cA.2 (hw.o _ (h.fr.obn n b ab)))];exact h.fr.obj n b ab
 ·rw[be.cut_ow (fun cA=>cA.2 (hw.o _ (h.fr.obr m n u hm)))];exact h.fr.row m n u hm
 ·rw[be.cut_bx ab.1,be.cut_ow ab.1];exact h.fr.trn k j b ab.2
 ·rcases Un i st'.t with af|hm
  ·rw[af];simp[bc]
  ·obtain⟨J,U⟩:=hw.t _ hm;simp only at J;have:=h.slot i;rw[J]at this;exact kI (o5.cut _ w ν) _ _ U this
mutual
def eb:ak->ak
 | .slice sz _ xs=>.slice sz .no (c7 xs)
 | .agg cs=>.agg (c7 cs)
 | .tuple a7=>.tuple (c7 a7)
 | .eptr x=>.eptr (eb x)
 | .iface t x=>.iface t (eb x)
 | .func f dt=>.func f (c7 dt)
 |p=>p
def c7:List ak->List ak
 |[]=>[]
 |x::xs=>eb x::c7 xs
end
theorem tp:∀xs,(c7 xs).length=xs.length
 |[]=>rfl
 |x::xs=>by simp[c7,tp xs]
theorem Jn:∀xs,c7 xs=xs.map eb
 |[]=>rfl
 |x::xs=>by simp[c7,Jn xs]
mutual
theorem Ll{t:Bool}{w:World}{A:Nat->Nat->Prop}:∀(p:ak) (F:Nat->Prop) (v:Value),gr t w A F p v->gr t w A F (eb p) v
 | .int _ _,_,_,h=>by simpa only[eb]using h
 | .bool _,_,_,h=>by simpa only[eb]using h
 | .str _,_,_,h=>by simpa only[eb]using h
 | .slice sz tag xs,F,v,h=>by
  simp only[gr,eb]at h⊢;obtain⟨a,cap,J,U,ao,a6⟩:=h;refine⟨a,cap,by rw[tp];exact J,by rw[tp];exact U,by rw[tp];exact ao,?_⟩;rcases a6 with rfl|⟨b,off,us,G,aq,aG,bG,di,hx,h7⟩
  ·exact .inl rfl
  ·exact .inr ⟨b,off,us,G,aq,aG,bG,di,hx,Ua sz xs G us h7⟩
 | .agg cs,F,v,h=>by simp only[gr,eb]at h⊢;obtain⟨us,J,U⟩:=h;exact⟨us,J,Ub cs F _ U⟩
 | .junk,_,_,h=>by simp[gr]at h
 | .ptr _ _,_,_,h=>by simp[gr]at h
 | .eptr _,_,_,h=>by simp[gr]at h
 | .iface _ _,_,_,h=>by simp[gr]at h
 | .nilp,_,_,h=>by simp[gr]at h
 | .tuple _,_,_,h=>by simp[gr]at h
 | .func _ _,_,_,h=>by simp[gr]at h
 | .gmap _,_,_,h=>by simp[gr]at h
 | .row _ _ _,_,_,h=>by simp[gr]at h
 | .rptr _ _ _ _ _,_,_,h=>by simp[gr]at h
 | .hdm _ _,_,_,h=>by simp[gr]at h
 | .hdi _ _ _,_,_,h=>by simp[gr]at h
 | .cst _,_,_,h=>by simp[gr]at h
theorem Ub{t:Bool}{w:World}{A:Nat->Nat->Prop}:∀(cs:List ak) (F:Nat->Prop) (us:List Value),vg t w A F cs us->vg t w A F (c7 cs) us
 |[],_,_,h=>by simpa only[c7]using h
 |c::cs,F,us,h=>by simp only[vg,c7]at h⊢;obtain⟨u,ck,iA,iM,J,U,⟨b7,dd⟩,ed⟩:=h;exact⟨u,ck,iA,iM,J,U,⟨Ll c iA u b7,dd⟩,Ub cs iM ck ed⟩
theorem Ua{t:Bool}{w:World}{A:Nat->Nat->Prop}(sz:Nat):∀(cs:List ak) (F:Nat->Prop) (us:List Value),vf t w A F sz cs us->vf t w A F sz (c7 cs) us
 |[],_,_,h=>by simpa only[c7]using h
 |c::cs,F,us,h=>by simp only[vf,c7]at h⊢;obtain⟨u,ck,iA,iM,J,U,⟨b7,dd⟩,ed⟩:=h;exact⟨u,ck,iA,iM,J,U,⟨Ll c iA u b7,dd⟩,Ua sz cs iM ck ed⟩
end
theorem T9{t:Bool}{w:World}{A:Nat->Nat->Prop}{F:Nat->Prop}{sz:Nat}{tag:Ct}(lA:Ct){xs:List ak}(v:Value)(h:gr t w A F (.slice sz tag xs) v):gr t w A F (.slice sz lA (c7 xs)) v:=by have:=Ll _ F v h;simp only[eb,gr]at this⊢;exact this
mutual
theorem lz{w:World}{ν:be}:∀(p:ak) (v:Value),bc w ν p v->bc w ν (eb p) v
 | .junk,_,h=>by simpa only[eb]using h
 | .int k n,_,h=>by simpa only[eb]using h
 | .bool b,_,h=>by simpa only[eb]using h
 | .str s,_,h=>by simpa only[eb]using h
 | .slice sz tag xs,v,h=>by
  simp only[bc,eb]at h⊢;obtain⟨⟨a,cap,J,U,ao,a6⟩,b7,dd⟩:=h;refine⟨⟨a,cap,by rw[tp];exact J,by rw[tp];exact U,by rw[tp];exact ao,?_⟩,fun e=>(by cases e),fun g e=>(by cases e),fun _ _ e=>(by cases e),fun _ e=>(by cases e)⟩;rcases a6 with rfl|⟨b,off,us,a6,dd,ed⟩
  ·exact .inl rfl
  ·exact .inr ⟨b,off,us,a6,dd,Zp sz xs us ed⟩
 | .agg cs,v,h=>by simp only[bc,eb]at h⊢;obtain⟨us,J,U⟩:=h;exact⟨us,J,Zt cs _ U⟩
 | .ptr key off,v,h=>by simpa only[eb]using h
 | .iface t x,v,h=>by simp only[bc,eb]at h⊢;obtain⟨u,J,U⟩:=h;exact⟨u,J,lz x u U⟩
 | .eptr x,v,h=>by simp only[bc,eb]at h⊢;obtain⟨b,off,u,J,U,ao⟩:=h;exact⟨b,off,u,J,lz x u U,ao⟩
 | .nilp,_,h=>by simpa only[eb]using h
 | .tuple a7,v,h=>by simp only[bc,eb]at h⊢;obtain⟨us,J,U⟩:=h;exact⟨us,J,I2 a7 _ U⟩
 | .func f dt,v,h=>by simp only[bc,eb]at h⊢;obtain⟨us,J,U⟩:=h;exact⟨us,J,I2 dt _ U⟩
 | .gmap key,v,h=>by simpa only[eb]using h
 | .row _ _ _,v,h=>by simpa only[eb]using h
 | .rptr _ _ _ _ _,v,h=>by simpa only[eb]using h
 | .cst _,v,h=>by simpa only[eb]using h
theorem Zt{w:World}{ν:be}:∀(cs:List ak) (us:List Value),dr w ν cs us->dr w ν (c7 cs) us
 |[],_,h=>by simpa only[c7]using h
 |c::cs,us,h=>by simp only[dr,c7]at h⊢;obtain⟨u,ck,J,U,ao⟩:=h;exact⟨u,ck,J,⟨lz c u U.1,U.2⟩,Zt cs ck ao⟩
theorem I2{w:World}{ν:be}:∀(cs:List ak) (us:List Value),cT w ν cs us->cT w ν (c7 cs) us
 |[],_,h=>by simpa only[c7]using h
 |c::cs,us,h=>by simp only[cT,c7]at h⊢;obtain⟨u,ck,J,U,ao⟩:=h;exact⟨u,ck,J,lz c u U,I2 cs ck ao⟩
theorem Zp{w:World}{ν:be}(sz:Nat):∀(xs:List ak) (us:List Value),dD w ν sz xs us->dD w ν sz (c7 xs) us
 |[],_,h=>by simpa only[c7]using h
 |x::xs,us,h=>by simp only[dD,c7]at h⊢;obtain⟨u,ck,J,⟨U,ao,a6⟩,b7⟩:=h;exact⟨u,ck,J,⟨lz x u U,ao,a6⟩,Zp sz xs ck b7⟩
end
def inObs(s:cR)(k:aM):Prop:=(look k s.b).isSome=true\/(look k s.e).isSome=true
def cb{α β:Type}(s:List (aM×β)):List (aM×α)->List (aM×α)
 |[]=>[]
 |(k,x)::r=>match look k s with
  |some _=>cb s r
  |none=>(k,x)::cb s r
theorem vJ{α β:Type}(s:List (aM×β))(k:aM):∀l:List (aM×α),look k (cb s l)=if(look k s).isSome then none else look k l
 |[]=>by simp[cb,look]
 |(i,x)::r=>by
  simp only[cb];by_cases e:i=k
  ·subst e;cases h:look i s with
   |some y=>simp[vJ s i r,h]
   |none=>simp[look]
  ·cases h:look i s with
   |some y=>simp[vJ s k r,look,e]
   |none=>simp[look,e,vJ s k r]
theorem yV{α:Type}(k:aM):∀l a8:List (aM×α),look k (l++a8)=match look k l with|some x=>some x|none=>look k a8
 |[],a8=>by simp[look]
 |(i,x)::r,a8=>by
  by_cases e:i=k
  ·simp[look,e]
  ·simp[look,e,yV k r a8]
def after(st:br)(s ah:cR)(d:Option Nat)(r:ak):br:={t:=eY d r st.t,b:=cb s.b st.b++ah.b,e:=cb s.e st.e++ah.e,n:=st.n,o:=st.o++c3 ah}
section
open Classical
noncomputable def be.join(ν bo:be)(s ah:cR):be:={A:=bo.A,bx:=fun k=>if(look k s.b).isSome\/(look k ah.b).isSome then bo.bx k else ν.bx k,ow:=fun k=>if(look k s.e).isSome\/(look k ah.e).isSome then bo.ow k else ν.ow k,tr:=fun k j b=>ν.tr k j b\/bo.tr k j b}
end
theorem cY.callK{C:fj}{st:br}{a:Act}{w w':World}{ν bo:be}(h:cY C st a w ν){s ah:cR}(ab:gL (inObs s) s.b st.b)(he:oa (inObs s) s.e st.e)(vu:iV s)
  (aX:Good (fun bl=>fq (ν.cut (inObs s)) s bl\/w.heap.size<=bl) w' bo ah.b ah.e) {κ:Option Nat} (ad:Gw κ bo ah) (ajl:∀m,κ=some m->ν.bx (.loc m)=none/\ν.ow (.loc m)=none/\∀j b,¬ν.tr (.loc m) j b) {n':Nat} {o':List aM} (cB:∀k,fresh n' o' k->fresh st.n (st.o++c3 ah) k/\∀m,κ=some m->k≠ .loc m) (uf:iV ah) (aQ:qB ⟨w,ν.cut (inObs s),fq (ν.cut (inObs s)) s,0,c3 s⟩ w' bo)
  (L6:∀m,(look (.obj m) ah.b).isSome->(look (.obj m) s.b).isSome\/ .obj m∉st.o) (cK:∀m,(look (.obj m) ah.e).isSome->(look (.obj m) s.e).isSome\/ .obj m∉st.o) (d:Option Nat) (aF:jJ C.N d=true) {r:ak} {v:Value} (aK:bc w' bo r v):
  cY C {after st s ah d r with n:=n',o:=o'} (a.put d v) w' (ν.join bo s ah):=by
 have lN:∀k,(look k s.b).isSome->(look k st.b).isSome:=fun k ae=>by obtain⟨cs,dn⟩:=fE.1 ae;simp[(ab k cs dn).1]
 have kB:∀k,(look k s.e).isSome->(look k st.e).isSome:=fun k ae=>by obtain⟨cs,dn⟩:=fE.1 ae;simp[(he k cs dn).1]
 have aiB:∀k,(look k ah.b).isSome->¬(look k s.b).isSome->ν.bx k=none:=fun k ae au=>by
  cases k with
  |loc m=>rw[uf.1 m]at ae;cases ae
  |obj m=>exact(h.new (.obj m) ⟨trivial,(L6 m ae).resolve_left au⟩).1
 have aiC:∀k,(look k ah.e).isSome->¬(look k s.e).isSome->ν.ow k=none:=fun k ae au=>by
  cases k with
  |loc m=>rw[uf.2 m]at ae;cases ae
  |obj m=>exact(h.new (.obj m) ⟨trivial,(cK m ae).resolve_left au⟩).2.1
 have ajZ:∀k,(look k s.b).isSome->(ν.join bo s ah).bx k=bo.bx k:=fun k ae=>by simp[be.join,ae]
 have Wc:∀k,(look k ah.b).isSome->(ν.join bo s ah).bx k=bo.bx k:=fun k ae=>by simp[be.join,ae]
 have Wd:∀k,ν.bx k≠none->¬(look k s.b).isSome->(ν.join bo s ah).bx k=ν.bx k:=fun k J U=>by have ao:¬(look k ah.b).isSome:=fun ao=>J (aiB k ao U);simp[be.join,U,ao]
 have aj0:∀k,(look k s.e).isSome->(ν.join bo s ah).ow k=bo.ow k:=fun k ae=>by simp[be.join,ae]
 have MM:∀k,(look k ah.e).isSome->(ν.join bo s ah).ow k=bo.ow k:=fun k ae=>by simp[be.join,ae]
 have MN:∀k,ν.ow k≠none->¬(look k s.e).isSome->(ν.join bo s ah).ow k=ν.ow k:=fun k J U=>by have ao:¬(look k ah.e).isSome:=fun ao=>J (aiC k ao U);simp[be.join,U,ao]
 have aa2:∀k b,bo.bx k=some b->(look k ah.b).isSome:=fun k b ae=>by
  cases av:look k ah.b with
  |some _=>rfl
  |none=>rw[(ad k).1 av]at ae;cases ae
 have aa3:∀k b,bo.ow k=some b->(look k ah.e).isSome:=fun k b ae=>by
  cases av:look k ah.e with
  |some _=>rfl
  |none=>rw[(ad k).2.1 av]at ae;cases ae
 have aw:lZ w ν w' (ν.join bo s ah):=by
  refine⟨fun b o bg=>aQ.keep b o bg,fun k b _ ae=>?_,fun g n u _ aX=>?_,fun b o bg=>aQ.sh b o bg,fun _ _ _ _ h=>.inl h⟩
  ·by_cases ag:(look k s.b).isSome
   ·rw[ajZ k ag];cases k with
    |loc m=>rw[vu.1 m]at ag;cases ag
    |obj m=>exact aQ.obj m b (by rw[be.cut_bx (.inl ag)];exact ae)
   ·rw[Wd k (by rw[ae];simp) ag];exact ae
  ·by_cases ag:(look g s.e).isSome
   ·rw[aj0 g ag];cases g with
    |loc m=>rw[vu.2 m]at ag;cases ag
    |obj m=>exact aQ.row m n u (by rw[be.cut_ow (.inr ag)];exact aX)
   ·rw[MN g (by rw[aX];simp) ag];exact⟨n,u,aX,.inl ⟨rfl,rfl⟩⟩
 have hb:lZ w' bo w' (ν.join bo s ah):=⟨fun b o bg=>⟨bg,rfl⟩,fun k b _ ae=>by rw[Wc k (aa2 k b ae)];exact ae,fun g n u _ ae=>⟨n,u,by rw[MM g (aa3 g _ ae)];exact ae,.inl ⟨rfl,rfl⟩⟩,fun _ _ _=>rfl,fun _ _ _ _ h=>.inr h⟩
 have qI:∀bl,fq (ν.cut (inObs s)) s bl->C.pr bl/\bl<w.heap.size:=by
  intro bl fm;rcases fm with⟨k,J,U⟩|⟨g,n,u,J,U,ao⟩
  ·have a6:=(be.cut_some U).2;obtain⟨cs,dn⟩:=fE.1 (lN k J);obtain⟨iP,us,el,g1,g2,_⟩:=h.good.box k cs dn;rw[a6]at g1;cases g1;exact⟨g2,h.good.boxLt dn a6⟩
  ·have a6:=(be.cut_someO U).2;obtain⟨o,Hb⟩:=fE.1 (kB g J);obtain⟨v',us,g1,g2,g3,_⟩:=h.good.own g o Hb;rw[a6]at g1;cases g1;exact⟨(g3 bl ao).1,h.good.ownLt Hb a6 ao⟩
 have Vv:∀bl,fq (ν.cut (inObs s)) s bl\/w.heap.size<=bl->C.pr bl:=fun bl fm=>by
  rcases fm with fm|fm
  ·exact(qI bl fm).1
  ·exact .inr (gS h.fr.size fm)
 have ai0:∀k cs bl,look k st.b=some cs->¬(look k s.b).isSome->ν.bx k=some bl->¬fq (ν.cut (inObs s)) s bl:=by
  intro k cs bl J U ao a6;rcases a6 with⟨bH,bC,a2⟩|⟨g,n,u,bC,a2,a3⟩
  ·have:=h.good.inj k bH bl (by simp[J]) (lN bH bC) ao (be.cut_some a2).2;subst this;exact U bC
  ·exact h.good.obx g k n u bl (kB g bC) (by simp[J]) (be.cut_someO a2).2 a3 ao
 have ai1:∀g o n u bl,look g st.e=some o->¬(look g s.e).isSome->ν.ow g=some (n,u)->u.ownBlock=some bl->¬fq (ν.cut (inObs s)) s bl:=by
  intro g o n u bl J U ao a6 b7;rcases b7 with⟨bH,bC,a2⟩|⟨fc,n',fi,bC,a2,a3⟩
  ·exact h.good.obx g bH n u bl (by simp[J]) (lN bH bC) ao a6 (be.cut_some a2).2
  ·have:=h.good.oinj g fc n n' u fi bl (by simp[J]) (kB fc bC) ao (be.cut_someO a2).2 a6 a3;subst this;exact U bC
 have SZ:∀k cs,look k (cb s.b st.b++ah.b)=some cs->(¬(look k s.b).isSome/\look k st.b=some cs)\/look k ah.b=some cs:=by
  intro k cs ae;rw[yV,vJ]at ae;by_cases ag:(look k s.b).isSome
  ·simp only[ag,if_true]at ae;exact .inr ae
  ·simp only[ag]at ae;cases av:look k st.b with
   |some x=>simp[av]at ae;subst ae;exact .inl ⟨ag,rfl⟩
   |none=>simp[av]at ae;exact .inr ae
 have S0:∀k cs,look k (cb s.e st.e++ah.e)=some cs->(¬(look k s.e).isSome/\look k st.e=some cs)\/look k ah.e=some cs:=by
  intro k cs ae;rw[yV,vJ]at ae;by_cases ag:(look k s.e).isSome
  ·simp only[ag,if_true]at ae;exact .inr ae
  ·simp only[ag]at ae;cases av:look k st.e with
   |some x=>simp[av]at ae;subst ae;exact .inl ⟨ag,rfl⟩
   |none=>simp[av]at ae;exact .inr ae
 have B0:∀bl,fq (ν.cut (inObs s)) s bl\/w.heap.size<=bl->∀iP,iP<w.heap.size->¬fq (ν.cut (inObs s)) s iP->bl≠iP:=by
  intro bl J iP U ao e;subst e;rcases J with J|J
  ·exact ao J
  ·omega
 have MS:∀bl,bl<w.heap.size->¬fq (ν.cut (inObs s)) s bl->w'.heap[bl]? =w.heap[bl]?:=fun bl J U=>aQ.block bl J U;have isB:∀k bl,(look k (cb s.b st.b++ah.b)).isSome->(ν.join bo s ah).bx k=some bl->(¬(look k s.b).isSome/\(look k st.b).isSome/\ν.bx k=some bl)\/((look k ah.b).isSome/\bo.bx k=some bl):=by
  intro k bl ae jv;obtain⟨cs,dn⟩:=fE.1 ae;rcases SZ k cs dn with⟨J,U⟩|J
  ·obtain⟨iP,us,el,g1,_⟩:=h.good.box k cs U;rw[Wd k (by rw[g1];simp) J]at jv;exact .inl ⟨J,by simp[U],jv⟩
  ·rw[Wc k (by simp[J])]at jv;exact .inr ⟨by simp[J],jv⟩
 have HD:∀k x,(look k (cb s.e st.e++ah.e)).isSome->(ν.join bo s ah).ow k=some x->(¬(look k s.e).isSome/\(look k st.e).isSome/\ν.ow k=some x)\/((look k ah.e).isSome/\bo.ow k=some x):=by
  intro k x ae jv;obtain⟨cs,dn⟩:=fE.1 ae;rcases S0 k cs dn with⟨J,U⟩|J
  ·obtain⟨v',us,g1,_⟩:=h.good.own k cs U;rw[MN k (by rw[g1];simp) J]at jv;exact .inl ⟨J,by simp[U],jv⟩
  ·rw[MM k (by simp[J])]at jv;exact .inr ⟨by simp[J],jv⟩
 have CD:∀k bl,¬(look k s.b).isSome->(look k st.b).isSome->ν.bx k=some bl->bl<w.heap.size/\¬fq (ν.cut (inObs s)) s bl:=by intro k bl J U ao;obtain⟨cs,dn⟩:=fE.1 U;exact⟨h.good.boxLt dn ao,ai0 k cs bl dn J ao⟩
 have zo:∀k n u bl,¬(look k s.e).isSome->(look k st.e).isSome->ν.ow k=some (n,u)->u.ownBlock=some bl->bl<w.heap.size/\¬fq (ν.cut (inObs s)) s bl:=by intro k n u bl J U ao a6;obtain⟨cs,dn⟩:=fE.1 U;exact⟨h.good.ownLt dn ao a6,ai1 k cs n u bl dn J ao a6⟩
 have FW:∀k bl,(look k ah.b).isSome->bo.bx k=some bl->fq (ν.cut (inObs s)) s bl\/w.heap.size<=bl:=by intro k bl J U;obtain⟨cs,dn⟩:=fE.1 J;obtain⟨iP,us,el,g1,g2,_⟩:=aX.box k cs dn;rw[U]at g1;cases g1;exact g2
 have Ja:∀k n u bl,(look k ah.e).isSome->bo.ow k=some (n,u)->u.ownBlock=some bl->fq (ν.cut (inObs s)) s bl\/w.heap.size<=bl:=by intro k n u bl J U ao;obtain⟨cs,dn⟩:=fE.1 J;obtain⟨v',us,g1,g2,g3,_⟩:=aX.own k cs dn;rw[U]at g1;cases g1;exact(g3 bl ao).1
 have bg:∀bl o,bo.A bl o->bl<w.heap.size->¬fq (ν.cut (inObs s)) s bl->ν.A bl o:=by
  intro bl o J U ao;rcases aQ.fresh bl o J with a6|a6|a6
  ·exact a6
  ·exact absurd a6 ao
  ·simp only at a6;omega
 have pw:cY C {t:=st.t,b:=cb s.b st.b++ah.b,e:=cb s.e st.e++ah.e,n:=n',o:=o'} a w' (ν.join bo s ah):=by
  refine h.over aw rfl ⟨aX.alt,fun k cs ae=>?_,fun k bH bl J U ao a6=>?_,fun g o dR=>?_,fun g fc n n' u fi bl J U ao a6 b7 dd=>?_,fun g k n u bl J U ao a6 b7=>?_,fun k=>?_,fun bl aH k j me=>?_⟩
   ⟨aQ.os.trans h.fr.os,aQ.tape.trans h.fr.tape,aQ.output.trans h.fr.output,gS h.fr.size aQ.size,fun k ae hm=>?_,fun b o sv=>?_,fun b o sv=>?_,fun n b au=>aw.bx _ _ trivial (h.fr.obj n b au),h.fr.obn,
    fun m n u hm=>ES (h.fr.row m n u hm) (fun n u=>aw.ow _ n u trivial),h.fr.obr,fun k j bH dG b J U=>?_,fun k j b ab=>?_,fun k j b ab=>?_,fun b o bg=>(aw.sh b o (h.fr.keep b o bg).1).trans (h.fr.sh b o bg)⟩ (fun k ae=>?_)
  ·rcases SZ k cs ae with⟨J,U⟩|J
   ·obtain⟨bl,us,el,g1,g2,g3,g4,g5⟩:=h.good.box k cs U;obtain⟨cg,cc⟩:=CD k bl J (by simp[U]) g1;exact⟨bl,us,el,aw.bx _ _ trivial g1,g2,fun o sv=>g3 o (bg bl o sv cg cc),by rw[MS bl cg cc];exact g4,qZ aw g5⟩
   ·obtain⟨bl,us,el,g1,g2,g3,g4,g5⟩:=aX.box k cs J;exact⟨bl,us,el,hb.bx _ _ trivial g1,Vv bl g2,g3,g4,qZ hb g5⟩
  ·rcases isB k bl J ao with⟨bC,a2,a3⟩|⟨bC,a2⟩<;>rcases isB bH bl U a6 with⟨cg,cc,gq⟩|⟨cg,cc⟩
   ·exact h.good.inj k bH bl a2 cc a3 gq
   ·obtain⟨b0,cu⟩:=CD k bl bC a2 a3;exact absurd rfl (B0 bl (FW bH bl cg cc) bl b0 cu)
   ·obtain⟨b0,cu⟩:=CD bH bl cg cc gq;exact absurd rfl (B0 bl (FW k bl bC a2) bl b0 cu)
   ·exact aX.inj k bH bl bC cg a2 cc
  ·rcases S0 g o dR with⟨J,U⟩|J
   ·obtain⟨u,us,g1,g2,g3,g4⟩:=h.good.own g o U;refine⟨u,us,by rw[MN g (by rw[g1];simp) J];exact g1,⟨g2.1,?_⟩,fun bl fm=>?_,te aw (fun bl fm j sv=>?_) g4⟩
    ·rcases g2.2 with aG|⟨bb,cap,cur,f1,f2,f3,f4⟩
     ·exact .inl aG
     ·obtain⟨cg,cc⟩:=zo g _ u bb J (by simp[U]) g1 (by rw[f1];rfl);exact .inr ⟨bb,cap,cur,f1,f2,by rw[MS bb cg cc];exact f3,f4⟩
    ·obtain⟨cg,cc⟩:=zo g _ u bl J (by simp[U]) g1 fm;exact⟨(g3 bl fm).1,fun j sv=>(g3 bl fm).2 j (bg bl j sv cg cc)⟩
    ·obtain⟨cg,cc⟩:=zo g _ u bl J (by simp[U]) g1 fm;exact bg bl j sv cg cc
   ·obtain⟨u,us,g1,g2,g3,g4⟩:=aX.own g o J;exact⟨u,us,by rw[MM g (by simp[J])];exact g1,g2,fun bl fm=>⟨Vv bl (g3 bl fm).1,(g3 bl fm).2⟩,te hb (fun _ _ _ h=>h) g4⟩
  ·rcases HD g _ J ao with⟨bC,a2,a3⟩|⟨bC,a2⟩<;>rcases HD fc _ U a6 with⟨cg,cc,gq⟩|⟨cg,cc⟩
   ·exact h.good.oinj g fc n n' u fi bl a2 cc a3 gq b7 dd
   ·obtain⟨b0,cu⟩:=zo g n u bl bC a2 a3 b7;exact absurd rfl (B0 bl (Ja fc n' fi bl cg cc dd) bl b0 cu)
   ·obtain⟨b0,cu⟩:=zo fc n' fi bl cg cc gq dd;exact absurd rfl (B0 bl (Ja g n u bl bC a2 b7) bl b0 cu)
   ·exact aX.oinj g fc n n' u fi bl bC cg a2 cc b7 dd
  ·rcases HD g _ J ao with⟨bC,a2,a3⟩|⟨bC,a2⟩<;>rcases isB k bl U b7 with⟨cg,cc,gq⟩|⟨cg,cc⟩
   ·exact h.good.obx g k n u bl a2 cc a3 a6 gq
   ·obtain⟨b0,cu⟩:=zo g n u bl bC a2 a3 a6;exact absurd rfl (B0 bl (FW k bl cg cc) bl b0 cu)
   ·obtain⟨b0,cu⟩:=CD k bl cg cc gq;exact absurd rfl (B0 bl (Ja g n u bl bC a2 a6) bl b0 cu)
   ·exact aX.obx g k n u bl bC cg a2 a6 cc
  ·
   cases jv:(ν.join bo s ah).bx k with
   |none=>exact .inl rfl
   |some bl=>
    right;cases Dy:(ν.join bo s ah).ow k with
    |none=>rfl
    |some x=>
     exfalso;have aq:(ν.bx k=some bl/\¬(look k s.b).isSome/\¬(look k ah.b).isSome)\/bo.bx k=some bl:=by
      by_cases ag:(look k s.b).isSome\/(look k ah.b).isSome
      ·right;simpa[be.join,ag]using jv
      ·left;simp only[not_or]at ag;exact⟨by simpa[be.join,ag.1,ag.2]using jv,ag.1,ag.2⟩
     have aG:(ν.ow k=some x/\¬(look k s.e).isSome/\¬(look k ah.e).isSome)\/bo.ow k=some x:=by
      by_cases ag:(look k s.e).isSome\/(look k ah.e).isSome
      ·right;simpa[be.join,ag]using Dy
      ·left;simp only[not_or]at ag;exact⟨by simpa[be.join,ag.1,ag.2]using Dy,ag.1,ag.2⟩
     rcases aq with⟨bC,a2,a3⟩|bC<;>rcases aG with⟨cg,cc,gq⟩|cg
     ·rcases h.good.one k with cA|cA
      ·rw[cA]at bC;cases bC
      ·rw[cA]at cg;cases cg
     ·have vr:=aa3 k x cg;have fo:(look k s.e).isSome:=by
       cases k with
       |loc m=>rw[uf.2 m]at vr;cases vr
       |obj m=>
        rcases cK m vr with cA|cA
        ·exact cA
        ·rw[(h.new (.obj m) ⟨trivial,cA⟩).1]at bC;cases bC
      obtain⟨o,Hb⟩:=fE.1 (kB k fo);obtain⟨v',us,g1,_⟩:=h.good.own k o Hb;rcases h.good.one k with cA|cA
      ·rw[cA]at bC;cases bC
      ·rw[cA]at g1;cases g1
     ·have qJ:=aa2 k bl bC;have fo:(look k s.b).isSome:=by
       cases k with
       |loc m=>rw[uf.1 m]at qJ;cases qJ
       |obj m=>
        rcases L6 m qJ with cA|cA
        ·exact cA
        ·rw[(h.new (.obj m) ⟨trivial,cA⟩).2.1]at cg;cases cg
      obtain⟨cs,dn⟩:=fE.1 (lN k fo);obtain⟨iP,us,el,g1,_⟩:=h.good.box k cs dn;rcases h.good.one k with cA|cA
      ·rw[cA]at g1;cases g1
      ·rw[cA]at cg;cases cg
     ·rcases aX.one k with cA|cA
      ·rw[cA]at bC;cases bC
      ·rw[cA]at cg;cases cg
  ·have Vj:∀k j,bo.tr k j bl->w.heap.size<=bl:=fun k j cA=>by
    rcases(aQ.trb k j bl cA).1 with a2|a2
    ·obtain⟨m,_,hm⟩:=(ad k).2.2 j bl cA;rw[hm]at a2;cases a2
    ·exact a2
   have hold:fq (ν.cut (inObs s)) s bl->¬ν.tr k j bl:=by
    rintro(⟨bH,bC,a2⟩|⟨g,n,u,bC,a2,a3⟩) cA
    ·exact h.good.otr bl (.inl ⟨bH,lN bH bC,(be.cut_some a2).2⟩) k j cA
    ·exact h.good.otr bl (.inr ⟨g,n,u,kB g bC,(be.cut_someO a2).2,a3⟩) k j cA
   have kg:fq (ν.cut (inObs s)) s bl\/w.heap.size<=bl->¬ν.tr k j bl:=by
    rintro(J|J) cA
    ·exact hold J cA
    ·have:=(h.fr.trb k j bl cA).2;omega
   rcases aH with⟨bH,bC,a2⟩|⟨g,n,u,bC,a2,a3⟩
   ·rcases isB bH bl bC a2 with⟨cg,cc,gq⟩|⟨cg,cc⟩
    ·rcases me with me|me
     ·exact h.good.otr bl (.inl ⟨bH,cc,gq⟩) k j me
     ·have:=(CD bH bl cg cc gq).1;have:=Vj k j me;omega
    ·rcases me with me|me
     ·exact kg (FW bH bl cg cc) me
     ·exact aX.otr bl (.inl ⟨bH,cg,cc⟩) k j me
   ·rcases HD g _ bC a2 with⟨cg,cc,gq⟩|⟨cg,cc⟩
    ·rcases me with me|me
     ·exact h.good.otr bl (.inr ⟨g,n,u,cc,gq,a3⟩) k j me
     ·have:=(zo g n u bl cg cc gq a3).1;have:=Vj k j me;omega
    ·rcases me with me|me
     ·exact kg (Ja g n u bl cg cc a3) me
     ·exact aX.otr bl (.inr ⟨g,n,u,cg,cc,a3⟩) k j me
  ·have bz:k<w.heap.size:=Nat.lt_of_lt_of_le ae h.fr.size;rw[MS k bz fun fm=>by
    rcases(qI k fm).1 with J|J
    ·exact hm J
    ·omega]
   exact h.fr.block k ae hm
  ·obtain⟨aP,bd⟩:=h.fr.keep b o sv;obtain⟨bS,ea⟩:=aQ.keep b o aP;exact⟨bS,ea.trans bd⟩
  ·rcases aQ.fresh b o sv with a6|a6|a6
   ·exact h.fr.fresh b o a6
   ·exact .inr (qI b a6).1
   ·exact .inr (.inr (gS h.fr.size a6))
  ·rcases J with J|J<;>rcases U with U|U
   ·exact h.fr.trd k j bH dG b J U
   ·have bC:=(h.fr.trb k j b J).2;have a2:=(aQ.trb bH dG b U).1;rcases a2 with a2|a2
    ·obtain⟨m,_,hm⟩:=(ad bH).2.2 dG b U;rw[hm]at a2;cases a2
    ·simp only at a2;omega
   ·have bC:=(h.fr.trb bH dG b U).2;have a2:=(aQ.trb k j b J).1;rcases a2 with a2|a2
    ·obtain⟨m,_,hm⟩:=(ad k).2.2 j b J;rw[hm]at a2;cases a2
    ·simp only at a2;omega
   ·exact aQ.trd k j bH dG b J U
  ·rcases ab with ab|ab
   ·exact⟨(h.fr.trb k j b ab).1,Nat.lt_of_lt_of_le (h.fr.trb k j b ab).2 aQ.size⟩
   ·refine⟨.inr ?_,(aQ.trb k j b ab).2⟩;rcases(aQ.trb k j b ab).1 with a2|a2
    ·obtain⟨m,_,hm⟩:=(ad k).2.2 j b ab;rw[hm]at a2;cases a2
    ·exact gS h.fr.size a2
  ·have key:ν.bx k=none/\ν.ow k=none/\¬(look k ah.b).isSome/\¬(look k ah.e).isSome:=by
    rcases ab with ab|ab
    ·obtain⟨t1,t2⟩:=h.fr.trn k j b ab;refine⟨t1,t2,fun cA=>?_,fun cA=>?_⟩
     ·cases k with
      |loc m=>rw[uf.1 m]at cA;cases cA
      |obj m=>
       rcases L6 m cA with b7|b7
       ·obtain⟨cs,dn⟩:=fE.1 (lN _ b7);obtain⟨iP,us,el,g1,_⟩:=h.good.box _ cs dn;rw[t1]at g1;cases g1
       ·exact(h.new (.obj m) ⟨trivial,b7⟩).2.2 j b ab
     ·cases k with
      |loc m=>rw[uf.2 m]at cA;cases cA
      |obj m=>
       rcases cK m cA with b7|b7
       ·obtain⟨cs,dn⟩:=fE.1 (kB _ b7);obtain⟨iP,us,g1,_⟩:=h.good.own _ cs dn;rw[t2]at g1;cases g1
       ·exact(h.new (.obj m) ⟨trivial,b7⟩).2.2 j b ab
    ·obtain⟨m,hm,rfl⟩:=(ad k).2.2 j b ab;obtain⟨t1,t2,_⟩:=ajl m hm;exact⟨t1,t2,by simp[uf.1 m],by simp[uf.2 m]⟩
   obtain⟨t1,t2,t3,t4⟩:=key;have t5:¬(look k s.b).isSome:=fun cA=>by obtain⟨cs,dn⟩:=fE.1 (lN _ cA);obtain⟨iP,us,el,g1,_⟩:=h.good.box _ cs dn;rw[t1]at g1;cases g1
   have t6:¬(look k s.e).isSome:=fun cA=>by obtain⟨cs,dn⟩:=fE.1 (kB _ cA);obtain⟨iP,us,g1,_⟩:=h.good.own _ cs dn;rw[t2]at g1;cases g1
   exact⟨by simp[be.join,t3,t5,t1],by simp[be.join,t4,t6,t2]⟩
  ·
   simp only at ae;obtain⟨ae,aih⟩:=cB k ae;have Vo:(∀j b,¬ν.tr k j b)->∀j b,¬(ν.join bo s ah).tr k j b:=fun J j b ab=>by
    rcases ab with ab|ab
    ·exact J j b ab
    ·obtain⟨m,hm,e⟩:=(ad k).2.2 j b ab;exact aih m hm e
   cases k with
   |loc m=>obtain⟨iJ,gE,jB⟩:=h.new (.loc m) (Lk (eu _) (fun _ h=>List.mem_append_left _ h) ae);exact⟨by simp[be.join,vu.1 m,uf.1 m,iJ],by simp[be.join,vu.2 m,uf.2 m,gE],Vo jB⟩
   |obj m=>
    simp only[fresh,iz,not_or,true_and]at ae;obtain⟨iJ,gE,jB⟩:=h.new (.obj m) ⟨trivial,ae.1⟩;have a1:¬(look (.obj m) ah.b).isSome:=fun cA=>ae.2 (uz (.inl cA));have bp:¬(look (.obj m) ah.e).isSome:=fun cA=>ae.2 (uz (.inr cA));have bV:¬(look (.obj m) s.b).isSome:=fun cA=>by obtain⟨cs,dn⟩:=fE.1 (lN _ cA);obtain⟨iP,us,el,g1,_⟩:=h.good.box _ cs dn;rw[iJ]at g1;cases g1
    have cQ:¬(look (.obj m) s.e).isSome:=fun cA=>by obtain⟨cs,dn⟩:=fE.1 (kB _ cA);obtain⟨v',us,g1,_⟩:=h.good.own _ cs dn;rw[gE]at g1;cases g1
    exact⟨by simp[be.join,a1,bV,iJ],by simp[be.join,bp,cQ,gE],Vo jB⟩
 exact pw.put aF (zm hb aK)
inductive eo where
 |s (i:ev)
 |call (d:Option Nat) (f:dw) (xs:List dw)
 |next (d:Nat) (x:dw)
structure dc where
 g:Option (Nat×Bool)
 i:eo
def ev.dst:ev->Option Nat
 | .v d _| .box d _ _| .alloc d _ _| .bsl d _ _ _| .app d _ _ _ _| .bslm d _ _ _ _| .appm d _ _ _ _ _| .mkmap d _| .range d _ _| .mks d _ _ _ _ _=>some d
 | .store _ _ _| .mput _ _ _ _| .storeE _ _ _=>none
def eo.dst:eo->Option Nat
 | .s i=>i.dst
 | .call d _ _=>d
 | .next d _=>some d
def cO(P:cJ)(n:Nat)(args:List ak)(st:br)(d:Option Nat)(K:br->Prop):Prop:=
 (∃s Q,gL (inObs s) s.b st.b/\oa (inObs s) s.e st.e/\iV s/\aN (inObs s) args/\bI P n args s Q/\
  ∀r ah,Q r ah->((∀m,(look (.obj m) ah.b).isSome->(look (.obj m) s.b).isSome\/ .obj m∉st.o)/\(∀m,(look (.obj m) ah.e).isSome->(look (.obj m) s.e).isSome\/ .obj m∉st.o))/\K (after st s ah d r))\/
 (∃s Q,gL (inObs s) s.b st.b/\oa (inObs s) s.e st.e/\iV s/\aN (inObs s) args/\ .loc st.n∉st.o/\JE P n st.n args s Q/\
  ∀r ah,Q r ah->((∀m,(look (.obj m) ah.b).isSome->(look (.obj m) s.b).isSome\/ .obj m∉st.o)/\(∀m,(look (.obj m) ah.e).isSome->(look (.obj m) s.e).isSome\/ .obj m∉st.o))/\K {after st s ah d r with n:=st.n+1})
def Ny(st:br)(d:Nat)(fv mk:aM)(since:Nat)(seen:List Nat)(last clock:Nat)(borns:List Nat)(kvs:List ak)(K:br->Prop):Prop:=
 (since=clock/\last=clock)/\((∀b∈borns,b∈seen)->K {st with t:=put d (.tuple [.bool false]) st.t})/\
 (∀b k v,ny b borns kvs=some (.tuple [k,v])->b∉seen->K {st with t:=put d (.tuple [.bool true,k,v]) st.t,b:=cF fv [.hdi since (seen++[b]) last,.gmap mk] st.b})
def tP(st:br)(d:Nat)(v:ak)(K:br->Prop):Prop:=
 match v with
 | .ptr fv 0=>match look fv st.b with
  |some [.hdi since seen last,.gmap mk]=>match look mk st.b with
   |some (.hdm clock borns::kvs)=>Ny st d fv mk since seen last clock borns kvs K
   |_=>eB
  |_=>eB
 |_=>eB
def u7(P:cJ)(st:br)(K:br->Prop):eo->Prop
 | .next d x=>tP st d (cy st.t x) K
 | .s i=>match mL st i with
  |some (c,st')=>c/\K st'
  |none=>eB
 | .call d f xs=>match cy st.t f with
  | .func n dt=>cO P n (c7 (xs.map (cy st.t)++dt)) st d K
  |_=>eB
def iq(P:cJ):List dc->br->(br->Prop)->Prop
 |[],st,K=>K st
 |⟨none,i⟩::r,st,K=>u7 P st (fun st'=>iq P r st' K) i
 |⟨some (s,want),i⟩::r,st,K=>match get s st.t with
  | .bool b=>(b=want->u7 P {st with t:=put s (.bool want) st.t} (fun st'=>iq P r st' K) i)/\(b= !want->iq P r {st with t:=eY i.dst (.tuple []) (put s (.bool !want) st.t)} K)
  | .tuple []=>iq P r {st with t:=eY i.dst (.tuple []) st.t} K
  |_=>eB
def vS(N:Nat)(bF:List (Nat×dB))(i:eo)(o:Oper):Bool:=
 match i with
 | .s i=>EU N bF i o
 | .next d x=>match o.op with
  | .next it false=>o.dst==some d&&decide (d<N)&&er x it
  |_=>false
 | .call d f xs=>match o.op with
  | .call ⟨.value si,args,_⟩=>o.dst==d&&jJ N d&&er f si&&y9 xs args.toList
  |_=>false
def C2(N:Nat)(bF:List (Nat×dB))(ops:List Oper)(g:dc)(o:Oper):Bool:=
 (match g.g,o.guard with
  |none,none=>true
  |some (s,b),some (j,b1)=>b==b1&&((ops[j]?).bind (·.dst))==some s&&decide (s<N)&&o.dst==g.i.dst&&jJ N g.i.dst
  |_,_=>false)&&vS N bF g.i o
def kQ(N:Nat)(bF:List (Nat×dB))(ops:List Oper):List dc->List Oper->Bool
 |[],[]=>true
 |g::gs,o::os=>C2 N bF ops g o&&kQ N bF ops gs os
 |_,_=>false
theorem Zu{w:World}{ν:be}:∀{cE bu:List ak} {a7 us:List Value},cT w ν cE a7->cT w ν bu us->cT w ν (cE++bu) (a7++us)
 |[],bu,a7,us,h,cd=>by simp only[cT]at h;subst h;simpa using cd
 |p::cE,bu,a7,us,h,cd=>by simp only[cT]at h;obtain⟨u,ck,rfl,J,U⟩:=h;simp only[bZ,cT];exact⟨u,_,rfl,J,Zu U cd⟩
theorem xT.mono{P:cJ}{f:FuncId}{a7:Array Value}{w:World}{R Qb:Ending->World->Prop}(h:xT P f a7 w R)(bA:∀e w',R e w'->Qb e w'):xT P f a7 w Qb:=by
 rcases h with⟨J,U⟩|⟨v,w',J,U⟩
 ·exact .inl ⟨J,U.mono bA⟩
 ·exact .inr ⟨v,w',J,bA _ _ U⟩
theorem SX{P:cJ}{C:fj}{st:br}{a:Act}{w:World}{ν:be}(aK:cY C st a w ν){o:Oper}{si:Operand}{args:Array Operand}{B4:Array ha}(nS:o.op= .call ⟨.value si,args,B4⟩){d:Option Nat}(aF:o.dst=d)(yr:jJ C.N d=true)
  {n:Nat} {dt:List ak} (aQ:bc w ν (.func n dt) (a.eval si)) {cE:List ak} (vj:cT w ν cE (args.toList.map a.eval)) {K:br->Prop}
  (ar:∃(s:cR) (q9:ak->cR->Prop) (κ:Option Nat) (n':Nat) (o':cR->List aM),gL (inObs s) s.b st.b/\oa (inObs s) s.e st.e/\iV s/\aN (inObs s) (c7 (cE++dt))/\(∀(w:World) (ν:be) (a7:Array Value),Good (fq ν s) w ν s.b s.e->pe ν s->cT w ν (c7 (cE++dt)) a7.toList->
   xT P n a7 w fun e w'=> ∃v r ah bo,e= .returned v/\q9 r ah/\bc w' bo r v/\Good (fun bl=>fq ν s bl\/w.heap.size<=bl) w' bo ah.b ah.e/\Gw κ bo ah/\iV ah/\qB ⟨w,ν,fq ν s,0,c3 s⟩ w' bo)/\
   (∀m,κ=some m->fresh st.n st.o (.loc m))/\(∀k r ah,q9 r ah->fresh n' (o' ah) k->fresh st.n (st.o++c3 ah) k/\∀m,κ=some m->k≠ .loc m)/\
   ∀r ah,q9 r ah->((∀m,(look (.obj m) ah.b).isSome->(look (.obj m) s.b).isSome\/ .obj m∉st.o)/\(∀m,(look (.obj m) ah.e).isSome->(look (.obj m) s.e).isSome\/ .obj m∉st.o))/\K {after st s ah d r with n:=n',o:=o' ah})
  {r7:Act->World->Prop} {Q:Exit->Act->World->Prop} (c4:∀st' bn w' bo,K st'->cY C st' bn w' bo->r7 bn w'):o.wp P a w r7 Q:=by
 obtain⟨s,q9,κ,n',o',b0,cu,dg,ku,lg,Ta,S3,oA⟩:=ar;simp only[bc]at aQ;obtain⟨us,ay,hu⟩:=aQ;have ma:cT w (ν.cut (inObs s)) (c7 (cE++dt)) ((args.map a.eval)++us).toList:=by refine zl (o5.cut _ w ν) _ _ ku (I2 _ _ ?_);simpa using Zu vj hu
 have sE:Good (fq (ν.cut (inObs s)) s) w (ν.cut (inObs s)) s.b s.e:=aK.good.cut b0 cu (fun bl _ h=>h);have hex:pe (ν.cut (inObs s)) s:=by
  intro k;refine⟨?_,?_,?_⟩;rotate_left 2
  ·rintro j b ⟨ag,ab⟩;obtain⟨t1,t2⟩:=aK.fr.trn k j b ab;rcases ag with ag|ag<;>obtain⟨x,ad⟩:=fE.1 ag
   ·obtain⟨bl,ck,el,aq,_⟩:=aK.good.box k x (b0 k x ad).1;rw[t1]at aq;cases aq
   ·obtain⟨v',ck,aq,_⟩:=aK.good.own k x (cu k x ad).1;rw[t2]at aq;cases aq
  ·intro av;by_cases ag:inObs s k
   ·rw[be.cut_bx ag];rcases ag with ag|ag
    ·rw[av]at ag;cases ag
    ·obtain⟨x,ad⟩:=fE.1 ag;obtain⟨v',ck,aq,_⟩:=aK.good.own k x (cu k x ad).1;rcases aK.good.one k with J|J
     ·exact J
     ·rw[J]at aq;cases aq
   ·exact(be.cut_no ag).1
  ·intro av;by_cases ag:inObs s k
   ·rw[be.cut_ow ag];rcases ag with ag|ag
    ·obtain⟨x,ad⟩:=fE.1 ag;obtain⟨bl,ck,el,aq,_⟩:=aK.good.box k x (b0 k x ad).1;rcases aK.good.one k with J|J
     ·rw[J]at aq;cases aq
     ·exact J
    ·rw[av]at ag;cases ag
   ·exact(be.cut_no ag).2.1
 rcases lg w (ν.cut (inObs s)) ((args.map a.eval)++us) sE hex ma with⟨⟨fn,g1,g2,g3⟩,lg⟩|⟨v,w',lg,bD⟩
 ·obtain⟨code,ahL⟩:=fE.1 g2;have iF:(execOp a.eval o).run P w= .ok (.enter n ((args.map a.eval)++us)) w:=by obtain⟨dst,op,ty,pos,Qm,wD⟩:=o;simp only at nS;subst nS;simp only[execOp,resolve,ay,Deferred.ofValue,fO,gF,fT,invoke,callFunc,run_program,g1,g3,ahL];simp
  unfold Oper.wp;rw[iF];simp only[Oper.upon];refine lg.mono fun e w' bD=>?_;obtain⟨v,r,ah,bo,rfl,bt,a1,bp,bV,cQ,cZ⟩:=bD;obtain⟨⟨iJ,gE⟩,ae⟩:=oA r ah bt;rw[aF];exact c4 _ _ _ _ ae (aK.callK b0 cu dg bp bV (fun m hm=>aK.new _ (Ta m hm)) (n':=n') (o':=o' ah) (fun k ae=>S3 k r ah bt ae) cQ cZ iJ gE d yr a1)
 ·have iF:(execOp a.eval o).run P w= .ok (.value v) w':=by obtain⟨dst,op,ty,pos,Qm,wD⟩:=o;simp only at nS;subst nS;simp only[execOp,resolve,ay,Deferred.ofValue,fO,gF,fT,invoke];simpa using lg
  obtain⟨v2,r,ah,bo,DK,bt,a1,bp,bV,cQ,cZ⟩:=bD;cases DK;obtain⟨⟨iJ,gE⟩,ae⟩:=oA r ah bt;refine mS iF ?_;rw[aF];exact c4 _ _ _ _ ae (aK.callK b0 cu dg bp bV (fun m hm=>aK.new _ (Ta m hm)) (n':=n') (o':=o' ah) (fun k ae=>S3 k r ah bt ae) cQ cZ iJ gE d yr a1)
theorem SV{P:cJ}{C:fj}{st:br}{a:Act}{w:World}{ν:be}(aK:cY C st a w ν){o:Oper}{si:Operand}{args:Array Operand}{B4:Array ha}(nS:o.op= .call ⟨.value si,args,B4⟩){d:Option Nat}(aF:o.dst=d)(yr:jJ C.N d=true)
  {n:Nat} {dt:List ak} (aQ:bc w ν (.func n dt) (a.eval si)) {cE:List ak} (vj:cT w ν cE (args.toList.map a.eval)) {K:br->Prop} (ar:cO P n (c7 (cE++dt)) st d K)
  {r7:Act->World->Prop} {Q:Exit->Act->World->Prop} (c4:∀st' bn w' bo,K st'->cY C st' bn w' bo->r7 bn w'):o.wp P a w r7 Q:=by
 refine SX aK nS aF yr aQ vj (K:=K) ?_ c4;rcases ar with⟨s,q9,b0,cu,dg,ku,lg,oA⟩|⟨s,q9,b0,cu,dg,ku,kM,lg,oA⟩
 ·refine⟨s,q9,none,st.n,fun ah=>st.o++c3 ah,b0,cu,dg,ku,fun w ν a7 J U ao=>(lg w ν a7 J U ao).mono fun e w' bD=>?_,fun m hm=>(by cases hm),fun k _ ah _ ae=>⟨ae,fun m hm=>by cases hm⟩,oA⟩;obtain⟨v,r,ah,bo,g1,g2,g3,g4,g5,g6⟩:=bD;exact⟨v,r,ah,bo,g1,g2,g3,g4,g5.k,g6⟩
 ·refine⟨s,q9,some st.n,st.n+1,fun ah=>st.o++c3 ah,b0,cu,dg,ku,lg,fun m hm=>(by cases hm;exact⟨eu _,kM⟩),fun k _ ah _ ae=>⟨Lk (Nat.le_succ _) (fun _ h=>h) ae,fun m hm=>?_⟩,oA⟩;cases hm;rintro rfl;have:=ae.1;simp only at this;omega
theorem cY.drawn{C:fj}{st:br}{a:Act}{w:World}{ν:be}(aK:cY C st a w ν)(n:Nat):cY C st a {w with drawn:=n} ν:=by
 have ls:lZ w ν {w with drawn:=n} ν:=⟨fun _ _ h=>⟨h,rfl⟩,fun _ _ _ h=>h,fun _ n u _ h=>⟨n,u,h,.inl ⟨rfl,rfl⟩⟩,fun _ _ _=>rfl,fun _ _ _ _ h=>h⟩;refine aK.over ls rfl ⟨aK.good.alt,fun k cs ae=>?_,aK.good.inj,fun g o aX=>?_,aK.good.oinj,aK.good.obx,aK.good.one,aK.good.otr⟩ ⟨aK.fr.os,aK.fr.tape,aK.fr.output,aK.fr.size,aK.fr.block,aK.fr.keep,aK.fr.fresh,aK.fr.obj,aK.fr.obn,aK.fr.row,aK.fr.obr,aK.fr.trd,aK.fr.trb,aK.fr.trn,aK.fr.sh⟩ aK.new
 ·obtain⟨bl,us,el,J,U,ao,a6,b7⟩:=aK.good.box k cs ae;exact⟨bl,us,el,J,U,ao,a6,qZ ls b7⟩
 ·obtain⟨v,us,J,U,ao,a6⟩:=aK.good.own g o aX;exact⟨v,us,J,U,ao,te ls (fun _ _ _ h=>h) a6⟩
theorem agc{α:Type}{l:List α}{p:α->Bool}(h:∀x∈l,p x=false):l.filter p=[]:=by rw[List.filter_eq_nil_iff];intro x ad;simp[h x ad]
theorem agb{α:Type}{l:List α}{p:α->Bool}(h:∀x∈l,p x=true):l.filter p=l:=List.filter_eq_self.2 h
def H9(r m since clock:Nat)(seen:Array Nat)(SY:Array (Option MapEntry)):Sem Value:=do
 match SY[<-choose (.mapNext SY.size)]? with
 |some (some e)=>
  setObj r (.mapIter (some m) since (seen.push e.born) clock)
  pure (.tuple #[.bool true,e.key,e.val])
 |some none=>pure (.tuple #[.bool false])
 |none=>stuck "Next: no such candidate"
theorem ZE{P:cJ}{w:World}(r m since clock:Nat)(seen:Array Nat)(l:List (Option MapEntry))(av:l≠[]):∃n x,x∈l/\(H9 r m since clock seen l.toArray).run P w=
  (match x with|some e=>(do setObj r (.mapIter (some m) since (seen.push e.born) clock);pure (.tuple #[.bool true,e.key,e.val]):Sem Value)|none=>pure (.tuple #[.bool false])).run P {w with drawn:=n}:=by
 have eW:0<l.length:=List.length_pos_iff.2 av;unfold H9;have key:∀i,i<l.length->∀w',((do match(l.toArray[i]?:Option (Option MapEntry))with
   |some (some e)=>setObj r (.mapIter (some m) since (seen.push e.born) clock);pure (.tuple #[.bool true,e.key,e.val])
   |some none=>pure (.tuple #[.bool false])
   |none=>stuck "Next: no such candidate" :Sem Value)).run P w'=((match l[i]! with|some e=>(do setObj r (.mapIter (some m) since (seen.push e.born) clock);pure (.tuple #[.bool true,e.key,e.val]):Sem Value)|none=>pure (.tuple #[.bool false]))).run P w':=by
  intro i hi w';have J:l.toArray[i]? =some l[i]!:=by simp[hi]
  rw[J];cases l[i]!<;>rfl
 by_cases aQ:(Question.mapNext l.length).forced=true
 ·refine⟨w.drawn,l[0]!,by simp[eW],?_⟩;rw[<-key 0 eW];have ar:(choose (.mapNext l.length):Sem Nat).run P w= .ok 0 w:=by simp[aQ]
  simp only[List.size_toArray,fO,ar,fT]
 ·refine⟨w.drawn+1,l[(w.tape w.drawn (.mapNext l.length))%l.length]!,by simp[Nat.mod_lt _ eW],?_⟩;rw[<-key _ (Nat.mod_lt _ eW)];have ar:(choose (.mapNext l.length):Sem Nat).run P w= .ok ((w.tape w.drawn (.mapNext l.length))%l.length) {w with drawn:=w.drawn+1}:=by simp[aQ,Question.cut]
  simp only[List.size_toArray,fO,ar,fT]
theorem aoD{P:cJ}{w:World}{bl mb:Nat}{seen:List Nat}{es:List MapEntry}{clock:Nat}{ty:ha}(J:w.heap[bl]? =some (.mapIter (some mb) clock seen.toArray clock))(U:w.heap[mb]? =some (.map es.toArray clock))(bz:∀e∈es,e.born<clock):
  ∃n,((∀e∈es,e.born∈seen)/\(Instr.next (.pointer (some ⟨bl,0,none⟩)) false ty).run P w= .ok (.tuple #[.bool false]) {w with drawn:=n})\/
   ∃e∈es,e.born∉seen/\(Instr.next (.pointer (some ⟨bl,0,none⟩)) false ty).run P w= .ok (.tuple #[.bool true,e.key,e.val]) {w with drawn:=n,heap:=w.heap.setIfInBounds bl (.mapIter (some mb) clock (seen++[e.born]).toArray clock)}:=by
 have e8:(!seen.toArray.isEmpty&& !es.toArray.isEmpty&&es.toArray.all (fun e=>decide (e.born≥clock)))=false:=by
  cases es with
  |nil=>simp
  |cons e r=>have:=bz e Ψ;simp;intro _ h;omega
 generalize gU:(es.filter fun e=> !seen.contains e.born)=left;have ain:(es.toArray.filter fun e=> !seen.toArray.contains e.born)=left.toArray:=by rw[<-gU];simp
 have j0:∀e∈left,e∈es/\e.born∉seen:=fun e he=>by rw[<-gU]at he;have:=iL.1 he;exact⟨this.1,by simpa using this.2⟩
 have hold:(left.toArray.filter fun e=>decide (e.born<clock))=left.toArray:=by rw[List.filter_toArray,agb];intro e he;have:=bz e (j0 e he).1;simp[this]
 have kg:(left.toArray.filter fun e=>decide (e.born≥clock))= #[]:=by rw[List.filter_toArray,agc];intro e he;have:=bz e (j0 e he).1;simp;omega
 have iF:(Instr.next (.pointer (some ⟨bl,0,none⟩)) false ty).run P w=(H9 bl mb clock clock seen.toArray ((if left.toArray.isEmpty then #[none]else #[])++(left.toArray++ #[]).map some)).run P w:=by unfold Instr.next H9;simp only[fO,vZ J,vZ U,fT,e8,ain,hold,kg,gZ,if_false];rfl
 rw[iF];by_cases ud:left=[]
 ·subst ud;obtain⟨n,x,g1,g2⟩:=ZE (P:=P) (w:=w) bl mb clock clock seen.toArray [none] Ψ;refine⟨n,.inl ⟨fun e he=>?_,?_⟩⟩
  ·have:=List.filter_eq_nil_iff.1 gU e he;simpa using this
  ·simp only[jT]at g1;subst g1;have ar:((if(([]:List MapEntry).toArray).isEmpty then #[none]else #[])++(([]:List MapEntry).toArray++ #[]).map some)=[none].toArray:=by simp
   rw[ar,g2];rfl
 ·have ar:((if left.toArray.isEmpty then #[none]else #[])++(left.toArray++ #[]).map some)=(left.map some).toArray:=by simp[ud]
  obtain⟨n,x,g1,g2⟩:=ZE (P:=P) (w:=w) bl mb clock clock seen.toArray (left.map some) (by simpa using ud);simp only[hG]at g1;obtain⟨e,he,rfl⟩:=g1;refine⟨n,.inr ⟨e,(j0 e he).1,(j0 e he).2,?_⟩⟩;rw[ar,g2];simp only[fO];rw[ET (w:={w with drawn:=n}) (o:= .mapIter (some mb) clock seen.toArray clock) J];simp
theorem KQ:∀{borns:List Nat} {us:List Value} {e:MapEntry},e∈fG borns us->e.born∈borns
 |[],us,e,h=>by simp[fG]at h
 |b::e0,[],e,h=>by simp[fG]at h
 |b::e0,[_],e,h=>by simp[fG]at h
 |b::e0,k::v::us,e,h=>by
  simp only[fG,e7]at h;rcases h with rfl|h
  ·simp
  ·exact o1 _ (KQ h)
theorem Tq:∀{borns:List Nat} {kvs:List ak} {us:List Value},kvs.length=2*borns.length->us.length=kvs.length->∀{b:Nat},b∈borns->∃e∈fG borns us,e.born=b
 |[],_,_,_,_,b,ab=>by simp at ab
 |b1::e0,kvs,[],J,U,b,ab=>by rw[J]at U;simp at U
 |b1::e0,kvs,[_],J,U,b,ab=>by rw[J]at U;simp at U;omega
 |b1::e0,kvs,k::v::us,J,U,b,ab=>by
  rcases e7.1 ab with rfl|ab
  ·exact⟨⟨k,v,b⟩,by simp[fG],rfl⟩
  ·obtain⟨e,g1,g2⟩:=Tq (kvs:=kvs.drop 2) (us:=us) (borns:=e0) (by simp at J⊢;omega) (by simp at J U⊢;omega) ab;exact⟨e,by simp[fG,g1],g2⟩
theorem W6{w:World}{ν:be}:∀{borns:List Nat} {kvs:List ak} {us:List Value},kvs.length=2*borns.length->borns.Pairwise (· < ·)->cT w ν kvs us->∀{e:MapEntry},e∈fG borns us->∃k v,ny e.born borns kvs=some (.tuple [k,v])/\bc w ν k e.key/\bc w ν v e.val
 |[],_,_,_,_,_,e,h=>by simp[fG]at h
 |b::e0,[],us,J,_,_,e,_=>by simp at J
 |b::e0,[_],us,J,_,_,e,_=>by simp at J;omega
 |b::e0,k::v::kvs,us,J,U,ao,e,h=>by
  simp only[cT]at ao;obtain⟨jm,Pz,rfl,e1,jS,tt,rfl,fY,qs⟩:=ao;simp only[fG,e7]at h;rw[mU]at U;rcases h with rfl|h
  ·exact⟨k,v,by simp[ny],e1,fY⟩
  ·obtain⟨bH,v',g1,g2,g3⟩:=W6 (by simp at J;omega) U.2 qs h;have cK:b≠e.born:=Nat.ne_of_lt (U.1 _ (KQ h));exact⟨bH,v',by simp[ny,cK,g1],g2,g3⟩
theorem ak8{P:cJ}{C:fj}{st:br}{a:Act}{w:World}{ν:be}(aK:cY C st a w ν){o:Oper}{it:Operand}(nS:o.op= .next it false){d:Nat}(aF:o.dst=some d)(yr:jJ C.N (some d)=true){v:ak}(ay:bc w ν v (a.eval it)){K:br->Prop}(he:tP st d v K)
  {r7:Act->World->Prop} {Q:Exit->Act->World->Prop} (c4:∀st' bn w' bo,K st'->cY C st' bn w' bo->r7 bn w'):o.wp P a w r7 Q:=by
 unfold tP at he;split at he
 ·rename_i fv;split at he
  ·rename_i since seen last mk vp;split at he
   ·rename_i clock borns kvs yD;obtain⟨⟨rfl,rfl⟩,wJ,po⟩:=he;simp only[bc]at ay;obtain⟨bl,cg,cc⟩:=ay;obtain⟨iP,us,el,a1,bp,bV,cQ,cZ⟩:=aK.good.box fv _ vp;rw[cg]at a1;cases a1;obtain⟨mb,ms,atX,m1,m2,m3,m4,m5⟩:=aK.good.box mk _ yD;simp only[jD,cT]at cZ;obtain⟨u,ck,hu,⟨atW,e1,rfl⟩,rfl⟩:=cZ;rw[m1]at e1;cases e1;simp only[j6,hu]at cQ;simp only[j6]at m4;simp only[jD]at m5;obtain⟨n,mC⟩:=aoD (P:=P) (ty:=o.type) cQ m4 (fun e he=>m5.2.lt _ (KQ he));have nl:∀v' w',(Instr.next (.pointer (some ⟨bl,0,none⟩)) false o.type).run P w= .ok v' w'->(execOp a.eval o).run P w= .ok (.value v') w':=by intro v' w' iF;obtain⟨dst,op,ty,pos,Qm,wD⟩:=o;simp only at nS iF;subst nS;simp only[execOp,cc];exact Fl iF
    rcases mC with⟨J,U⟩|⟨e,J,U,ao⟩
    ·refine mS (nl _ _ U) ?_;rw[aF];refine c4 _ _ _ _ (wJ fun b ab=>?_) ((aK.drawn n).put yr (p:= .tuple [.bool false]) (by simp[bc,cT]));obtain⟨e,f1,f2⟩:=Tq m5.2.len (I0 m5.1) ab;rw[<-f2];exact J e f1
    ·obtain⟨k,v,f1,f2,f3⟩:=W6 m5.2.len m5.2.inc m5.1 J;refine mS (nl _ _ ao) ?_;rw[aF];have wV:=((aK.drawn n).setBox (w':={w with drawn:=n,heap:=w.heap.setIfInBounds bl (.mapIter (some mb) last (seen++[e.born]).toArray last)}) vp cg (cs':=[.hdi last (seen++[e.born]) last,.gmap mk]) (us:=us) (el:=el) rfl rfl rfl
      (fun j af=>Array.getElem?_setIfInBounds_ne (lF af)) Ψ (by simp[j6,hu,(Array.getElem?_eq_some_iff.1 cQ).1]) (by simp only[jD,cT];exact⟨_,_,hu,by simp only[bc];exact⟨mb,m1,rfl⟩,rfl⟩))
     refine c4 _ _ _ _ (po e.born k v f1 U) (wV.1.put yr (p:= .tuple [.bool true,k,v]) ?_);simp only[bc];refine⟨_,rfl,?_⟩;simp only[cT];have ls:lZ w ν {w with drawn:=n} ν:=⟨fun _ _ h=>⟨h,rfl⟩,fun _ _ _ h=>h,fun _ n u _ h=>⟨n,u,h,.inl ⟨rfl,rfl⟩⟩,fun _ _ _=>rfl,fun _ _ _ _ h=>h⟩;exact⟨_,_,rfl,by simp[bc],_,_,rfl,zm wV.2 (zm ls f2),_,_,rfl,zm wV.2 (zm ls f3),rfl⟩
   ·exact he.elim
  ·exact he.elim
 ·exact he.elim
theorem Tu{P:cJ}{bF:List (Nat×dB)}(aH:fM P bF=true){C:fj}{st:br}{a:Act}{w:World}{ν:be}(aK:cY C st a w ν){i:eo}{o:Oper}(aw:vS C.N bF i o=true){K:br->Prop}(he:u7 P st K i)
  {r7:Act->World->Prop} {Q:Exit->Act->World->Prop} (c4:∀st' bn w' bo,K st'->cY C st' bn w' bo->r7 bn w'):o.wp P a w r7 Q:=by
 cases i with
 |s i=>
  simp only[u7]at he;split at he
  ·rename_i c st' ag;exact aoG aH aK (by simpa only[vS]using aw) ag he.1 fun bn w' bo h=>c4 _ _ _ _ he.2 h
  ·exact he.elim
 |next d x=>
  simp only[u7]at he;simp only[vS]at aw;split at aw
  ·rename_i it nS;simp only[cr,dQ,en]at aw;obtain⟨⟨J,U⟩,ao⟩:=aw;exact ak8 aK nS J (by simpa[jJ]using U) (et aK ao) he c4
  ·cases aw
 |call d f xs=>
  simp only[u7]at he;simp only[vS]at aw;split at aw
  ·rename_i si args B4 nS;simp only[cr,dQ]at aw;obtain⟨⟨⟨J,U⟩,ao⟩,a6⟩:=aw;split at he
   ·rename_i n dt aQ;have:=et aK ao;rw[aQ]at this;exact SV aK nS J U this (EO aK a6) he c4
   ·exact he.elim
  ·cases aw
theorem OG{C:fj}{st:br}{a:Act}{w:World}{ν:be}(h:cY C st a w ν){s:Nat}{b:Bool}(ag:get s st.t= .bool b):cY C {st with t:=put s (.bool b) st.t} a w ν:=by
 refine⟨h.good,h.fr,h.defers,h.size,fun i=>?_,h.new⟩;have:=h.slot i;simp only[qc];split
 ·rename_i e;subst e;rw[<-ag];exact this
 ·exact this
theorem aa6{C:fj}{st:br}{a:Act}{w:World}{ν:be}(h:cY C st a w ν){ops:Array Oper}{j s:Nat}(af:(ops.toList[j]?).bind (·.dst)=some s)(ag:s<C.N):
  (∀b,get s st.t= .bool b->yielded ops a.tmps j=some b)/\(get s st.t= .tuple []->yielded ops a.tmps j=none):=by
 have bz:s<a.tmps.size:=by rw[h.size];exact ag
 have sL:=h.slot s;have hj:a.tmps.getD s undef=a.tmps[s]:=by simp[Array.getD,bz]
 rw[hj]at sL;have aC:yielded ops a.tmps j=match a.tmps[s]with| .bool b=>some b|_=>none:=by unfold yielded;rw[uO]at af;rw[af];simp only[ij,Array.getElem?_eq_getElem bz];cases a.tmps[s]<;>rfl
 constructor
 ·intro b ab;rw[ab]at sL;simp only[bc]at sL;rw[aC,sL]
 ·intro ab;rw[ab]at sL;simp only[bc,cT]at sL;obtain⟨us,aq,aG⟩:=sL;rw[aC,aq]
theorem Ty{P:cJ}{bF:List (Nat×dB)}(aH:fM P bF=true){C:fj}{ops:Array Oper}{K:br->Prop}{Q:Exit->Act->World->Prop}(iu:∀st' bn w' bo,K st'->cY C st' bn w' bo->Q .normal bn w'):
  ∀(gs:List dc) (os:List Oper) (k:Nat),(∀j,os[j]? =ops[k+j]?)->kQ C.N bF ops.toList gs os=true->∀(st:br) (a:Act) (w:World) (ν:be),iq P gs st K->cY C st a w ν->wpOps P ops Q (List.range' k gs.length) a w
 |[],[],k,_,_,st,a,w,ν,he,aK=>by simp only[List.length_nil,List.range'_zero,wpOps];exact iu _ _ _ _ he aK
 |[],_::_,_,_,ae,_,_,_,_,_,_=>by simp[kQ]at ae
 |_::_,[],_,_,ae,_,_,_,_,_,_=>by simp[kQ]at ae
 |g::gs,o::os,k,AS,ae,st,a,w,ν,he,aK=>by
  simp only[kQ,cr]at ae;have bE:ops[k]? =some o:=by simpa using(AS 0).symm
  have DD:∀j,os[j]? =ops[k+1+j]?:=fun j=>by have:=AS (j+1);simpa[Nat.add_assoc,Nat.add_comm 1 j]using this
  simp only[oj,List.range'_succ,wpOps,bE];have bR:∀st' bn w' bo,iq P gs st' K->cY C st' bn w' bo->wpOps P ops Q (List.range' (k+1) gs.length) bn w':=fun st' bn w' bo J U=>Ty aH iu gs os (k+1) DD ae.2 st' bn w' bo J U;obtain⟨nM,Uo⟩:=g;have aX:=ae.1;simp only[C2,cr]at aX;obtain⟨rC,pq⟩:=aX;cases nM with
  |none=>
   cases dR:o.guard with
   |some x=>simp[dR]at rC
   |none=>
    have hw:pR o (yielded ops a.tmps)=true:=by simp[pR,dR]
    rw[if_pos hw];simp only[iq]at he;exact .inl (Tu aH aK pq he bR)
  |some zw=>
   obtain⟨s,want⟩:=zw;cases dR:o.guard with
   |none=>simp[dR]at rC
   |some x=>
    obtain⟨j,b1⟩:=x;simp only[dR,cr,dQ,en]at rC;obtain⟨⟨⟨⟨rfl,U⟩,ao⟩,a6⟩,b7⟩:=rC;obtain⟨k5,pP⟩:=aa6 aK U ao;simp only[iq]at he;split at he
    ·rename_i b ab;have aC:=k5 b ab;by_cases e:b=want
     ·subst e;have hw:pR o (yielded ops a.tmps)=true:=by simp[pR,dR,aC]
      rw[if_pos hw];exact .inl (Tu aH (OG aK ab) pq (he.1 rfl) bR)
     ·have hw:¬(pR o (yielded ops a.tmps)=true):=by simp[pR,dR,aC,e]
      rw[if_neg hw];have gk:b= !want:=by cases b<;>cases want<;>simp at e⊢
      have l9:cY C {st with t:=put s (.bool !want) st.t} a w ν:=OG aK (by rw[ab,gk]);rw[a6];exact bR _ _ _ _ (he.2 gk) (l9.put b7 (by simp[bc,cT,undef]))
    ·rename_i ab;have aC:=pP ab;have hw:¬(pR o (yielded ops a.tmps)=true):=by simp[pR,dR,aC]
     rw[if_neg hw,a6];exact bR _ _ _ _ he (aK.put b7 (by simp[bc,cT,undef]))
    ·exact he.elim
structure dm where
 t:Nat->ak
 b:aM->Option (List ak)
 e:aM->Option fQ
 F:aM->Prop
structure la where
 d:Option Nat
 p:ak
 bw:List (aM×List ak)
 ew:List (aM×fQ)
 rm:Option aM
def iQ{α:Type}(l:List (aM×α))(f:aM->Option α):aM->Option α:=fun k=>match look k l with|some x=>some x|none=>f k
def dm.do(A:dm)(x:la):dm:={t:=fun i=>if x.d=some i then x.p else A.t i,b:=iQ x.bw A.b,e:=iQ x.ew A.e,F:=fun k=>A.F k/\x.rm≠some k}
structure la.apart (x y:la):Prop where
 d:∀i,x.d=some i->y.d≠some i
 b:∀k,(look k x.bw).isSome->look k y.bw=none
 e:∀k,(look k x.ew).isSome->look k y.ew=none
theorem dm.do_comm(A:dm){x y:la}(h:x.apart y):(A.do x).do y=(A.do y).do x:=by
 simp only[dm.do,dm.mk.injEq];refine⟨?_,?_,?_,?_⟩
 ·funext i;by_cases J:x.d=some i
  ·have:=h.d i J;simp[J,this]
  ·simp[J]
 ·funext k;simp only[iQ];cases ad:look k x.bw with
  |none=>cases look k y.bw<;>rfl
  |some u=>rw[h.b k (by simp[ad])]
 ·funext k;simp only[iQ];cases ad:look k x.ew with
  |none=>cases look k y.ew<;>rfl
  |some u=>rw[h.e k (by simp[ad])]
 ·funext k;exact propext ⟨fun h=>⟨⟨h.1.1,h.2⟩,h.1.2⟩,fun h=>⟨⟨h.1.1,h.2⟩,h.1.2⟩⟩
def dC(t:Nat->ak):dw->ak
 | .t i=>t i
 | .c p=>p
def sV(b:aM->Option (List ak))(e:aM->Option fQ)(agg:Bool)(sz:Nat):ak->Option (Prop×ak)
 | .rptr dH k n i f=>zn agg sz dH n i f (e k)
 | .ptr k off=>
  match b k with
  |some cs=>if agg then some (ie cs=true/\off+sz<=cs.length,.agg ((cs.drop off).take sz))else(cs[off]?).map fun p=>(ie cs=true,p)
  |none=>none
 | .eptr p=>if agg then some (isAgg sz p,p)else some (eR p=true/\cells p=[p],p)
 |_=>none
def x4(t:Nat->ak):List ak->List (Nat×Nat×dw)->Option (Prop×List ak)
 |cs,[]=>some (True,cs)
 |cs,(off,sz,x)::r=>
  match x4 t (oQ cs off (cells (dC t x))) r with
  |some (c,cs')=>some ((eR (dC t x)=true/\(cells (dC t x)).length=sz/\off+sz<=cs.length)/\c,cs')
  |none=>none
def qz(t:Nat->ak)(b:aM->Option (List ak))(e:aM->Option fQ):gg->Option (Prop×ak)
 | .mov x=>some (True,dC t x)
 | .pick c x y=>Il (dC t c) (dC t x) (dC t y)
 | .load agg sz x=>sV b e agg sz (dC t x)
 | .faddr off agg sz x=>rs off agg sz (dC t x)
 | .fld off agg sz x=>vd off agg sz (dC t x)
 | .iaddr sz x i=>A4 sz (dC t x) (dC t i)
 | .sidx x i=>Jg (dC t x) (dC t i)
 | .ssl x lo hi=>Jl (dC t x) (lo.map (dC t)) (hi.map (dC t))
 | .lsl sz x lo hi=>HY sz (dC t x) (lo.map (dC t)) (hi.map (dC t))
 | .bin op wr x y=>bJ op wr (dC t x) (dC t y)
 | .notB x=>Ib (dC t x)
 | .neg x=>H8 (dC t x)
 | .conv k x=>Gm k (dC t x)
 | .ext i x=>Ai i (dC t x)
 | .len x=>Be (dC t x)
 | .slen x=>E4 (dC t x)
 | .build zero parts=>(x4 t zero parts).map fun(c,cs)=>(c,.agg cs)
 | .nck x=>Bq (dC t x)
 | .min2 x y=>H7 (dC t x) (dC t y)
 | .mkf n xs=>some (True,.func n (xs.map (dC t)))
 | .mget ch zero ok x k=>oM b ch zero ok (dC t x) (dC t k)
 | .ment x=>qm b (dC t x)
 | .mlen x=>Bp b (dC t x)
 | .beq neg dU x y=>iO neg dU (dC t x) (dC t y)
 | .max2 x y=>H3 (dC t x) (dC t y)
 | .mkif n x=>some (True,.iface n (dC t x))
 | .loadB agg sz x=>sV b (fun _=>none) agg sz (dC t x)
 | .mgetB ch zero ok x k=>oM b ch zero ok (dC t x) (dC t k)
 | .loadZ agg sz x=>C1 agg sz (dC t x)
structure lX (st:br) (A:dm):Prop where
 t:∀i,get i st.t=A.t i
 b:∀k,look k st.b=A.b k
 e:∀k,look k st.e=A.e k
theorem jd{st:br}{A:dm}(h:lX st A)(x:dw):cy st.t x=dC A.t x:=by
 cases x
 ·exact h.t _
 ·rfl
theorem vb{st:br}{A:dm}(h:lX st A):cy st.t=dC A.t:=funext (jd h)
theorem akn{st:br}{A:dm}(h:lX st A)(agg:Bool)(sz:Nat)(p:ak):nx st.b st.e agg sz p=sV A.b A.e agg sz p:=by
 cases p<;>simp only[nx,sV]
 ·rw[h.b];try rfl
 ·rw[h.e]
theorem ako{st:br}{A:dm}(h:lX st A)(agg:Bool)(sz:Nat)(p:ak):nx st.b [] agg sz p=sV A.b (fun _=>none) agg sz p:=by
 cases p<;>simp only[nx,sV]
 ·rw[h.b];try rfl
 ·rfl
theorem QO{st:br}{A:dm}(h:lX st A):∀(parts:List (Nat×Nat×dw)) (cs:List ak),u5 st.t cs parts=x4 A.t cs parts
 |[],cs=>rfl
 |(off,sz,x)::r,cs=>by simp only[u5,x4,jd h,QO h r];try rfl
theorem Z8{st:br}{A:dm}(h:lX st A)(i:gg):hD st i=qz A.t A.b A.e i:=by have ab:(fun k=>look k st.b)=A.b:=funext h.b;cases i<;>simp only[hD,qz,vb h,akn h,ako h,QO h,ab]
def hB:dw->List Nat
 | .t i=>[i]
 | .c _=>[]
def NY:Option dw->List Nat
 |some x=>hB x
 |none=>[]
def gg.looks:gg->List Nat
 | .mov x| .load _ _ x| .loadB _ _ x| .loadZ _ _ x| .faddr _ _ _ x| .fld _ _ _ x| .notB x| .neg x| .conv _ x| .ext _ x| .len x| .slen x| .nck x| .ment x| .mlen x| .mkif _ x=>hB x
 | .pick c x y=>hB c++hB x++hB y
 | .iaddr _ x i| .sidx x i=>hB x++hB i
 | .ssl x lo hi| .lsl _ x lo hi=>hB x++NY lo++NY hi
 | .bin _ _ x y| .min2 x y| .max2 x y| .beq _ _ x y=>hB x++hB y
 | .build _ cE=>cE.flatMap fun p=>hB p.2.2
 | .mkf _ xs=>xs.flatMap hB
 | .mget _ _ _ x k| .mgetB _ _ _ x k=>hB x++hB k
def ev.looks:ev->List Nat
 | .v _ i=>i.looks
 | .box _ _ x=>hB x
 | .alloc _ _ _=>[]
 | .store _ x y=>hB x++hB y
 | .storeE _ x y=>hB x++hB y
 | .bsl _ _ _ xs=>xs.flatMap hB
 | .app _ _ _ x y=>hB x++hB y
 | .bslm _ _ _ _ xs=>xs.flatMap hB
 | .mks _ _ _ _ _ x=>hB x
 | .appm _ _ _ _ x y=>hB x++hB y
 | .mkmap _ _=>[]
 | .mput _ x k y=>hB x++hB k++hB y
 | .range _ _ x=>hB x
def eo.looks:eo->List Nat
 | .s i=>i.looks
 | .call _ f xs=>hB f++xs.flatMap hB
 | .next _ x=>hB x
def dc.looks(g:dc):List Nat:=(match g.g with|some (s,_)=>[s]|none=>[])++g.i.looks
def re(l:List Nat)(t dO:Nat->ak):Prop:= ∀i∈l,t i=dO i
theorem gJ{t dO:Nat->ak}{x:dw}(h:re (hB x) t dO):dC t x=dC dO x:=by
 cases x
 ·exact h _ (by simp[hB])
 ·rfl
theorem kL{l a8:List Nat}{t dO:Nat->ak}(h:re (l++a8) t dO):re l t dO/\re a8 t dO:=⟨fun i hi=>h i (by simp[hi]),fun i hi=>h i (by simp[hi])⟩
theorem Gv{t dO:Nat->ak}{x:Option dw}(h:re (NY x) t dO):x.map (dC t)=x.map (dC dO):=by
 cases x
 ·rfl
 ·simp[gJ h]
theorem QN{t dO:Nat->ak}:∀{parts:List (Nat×Nat×dw)} {cs:List ak},re (parts.flatMap fun p=>hB p.2.2) t dO->x4 t cs parts=x4 dO cs parts
 |[],cs,_=>rfl
 |(off,sz,x)::r,cs,h=>by simp only[List.flatMap_cons]at h;obtain⟨J,U⟩:=kL h;simp only[x4,gJ J,QN U]
theorem H2{t dO:Nat->ak}:∀{xs:List dw},re (xs.flatMap hB) t dO->xs.map (dC t)=xs.map (dC dO)
 |[],_=>rfl
 |x::xs,h=>by simp only[List.flatMap_cons]at h;obtain⟨J,U⟩:=kL h;simp[gJ J,H2 U]
def gg.isLoad:gg->Bool
 | .load _ _ _=>true
 | .loadB _ _ _=>true
 | .mgetB _ _ _ _ _=>true
 | .mget _ _ _ _ _=>true
 | .ment _=>true
 | .mlen _=>true
 |_=>false
theorem apF{t dO:Nat->ak}{b b1:aM->Option (List ak)}{e fF:aM->Option fQ}{i:gg}(h:re i.looks t dO)(ab:i.isLoad=false):qz t b e i=qz dO b1 fF i:=by
 cases i<;>simp only[gg.looks]at h<;>simp only[qz];case load agg sz x=>simp[gg.isLoad]at ab
 case loadB agg sz x=>simp[gg.isLoad]at ab
 case pick c x y=>obtain⟨J,ao⟩:=kL h;obtain⟨J,U⟩:=kL J;rw[gJ J,gJ U,gJ ao]
 case iaddr=>obtain⟨J,U⟩:=kL h;rw[gJ J,gJ U]
 case sidx=>obtain⟨J,U⟩:=kL h;rw[gJ J,gJ U]
 case ssl=>obtain⟨J,ao⟩:=kL h;obtain⟨J,U⟩:=kL J;rw[gJ J,Gv U,Gv ao]
 case lsl=>obtain⟨J,ao⟩:=kL h;obtain⟨J,U⟩:=kL J;rw[gJ J,Gv U,Gv ao]
 case bin=>obtain⟨J,U⟩:=kL h;rw[gJ J,gJ U]
 case min2=>obtain⟨J,U⟩:=kL h;rw[gJ J,gJ U]
 case build=>rw[QN h]
 case mkf=>rw[H2 h]
 case mget=>simp[gg.isLoad]at ab
 case mgetB=>simp[gg.isLoad]at ab
 case ment=>simp[gg.isLoad]at ab
 case mlen=>simp[gg.isLoad]at ab
 case max2=>obtain⟨J,U⟩:=kL h;rw[gJ J,gJ U]
 case beq=>obtain⟨J,U⟩:=kL h;rw[gJ J,gJ U]
 all_goals rw[gJ h]
end
end Go.Pv
