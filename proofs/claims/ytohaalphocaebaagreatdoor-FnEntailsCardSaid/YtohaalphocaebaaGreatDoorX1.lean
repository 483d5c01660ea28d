/- Regions that draw their order, I: abstract states as functions, effects, and what an instruction does to them. -/
import Derived.WalkKit
import Derived.Orders
import Derived.KernelRfl
import Derived.IntWalk
import Derived.Laws.StructEq
import Derived.ChangeKeysEq
import Derived.MapKept
import Derived.ArgAppend
import Derived.Laws.OwnMore
set_option linter.all false
set_option maxHeartbeats 4000000
set_option maxRecDepth 4000
namespace Go
theorem ba{p:Prop}(h:p:=by simp only[aP,aD,aE,bP,bU];exact aH):p:=h
theorem bi{p:Prop}(h:p:=by first|exact cl _|exact cl ‹_› _):p:=h
theorem bv{p:Prop}(h:p:=by simp[aP,aD,aE]):p:=h
theorem ci{p:Prop}(h:p:=by unfold bQ;exact aH):p:=h
theorem co{p:Prop}(h:p:=by kernel_rfl):p:=h
theorem dl{p:Prop}(h:p:=by simp[inObs,Pv.look,aP,aD,aE]):p:=h
theorem d6{p:Prop}(h:p:=by simp[aJ]):p:=h
theorem d7{p:Prop}(h:p:=by simp;omega):p:=h
theorem d8{p:Prop}(h:p:=by first|exact iD _|exact iD ‹_› _):p:=h
theorem d9{p:Prop}(h:p:=by simp[-bZ,-bO,inObs,bQ,Pv.look]):p:=h
theorem f8{p:Prop}(h:p:=by simp[aO,aJ,inObs,Pv.look]):p:=h
theorem gc{p:Prop}(h:p:=by simp only[gn,aD,aE,bP,bU];exact aH):p:=h
theorem ge{p:Prop}(h:p:=by simp only[eO,aD,aE,fC,e3,gT,hU,hV,hW,bP,bU];exact aH):p:=h
theorem gt{p:Prop}(h:p:=by first|exact jT _|exact jT ‹_› _):p:=h
theorem g8{p:Prop}(h:p:=by simp[fresh,aO,aJ,cn,inObs,Pv.look,e9]):p:=h
theorem g9{p:Prop}(h:p:=by simp[fresh,aO,aJ,dW,inObs,Pv.look,e9]):p:=h
theorem Ω{p:Prop}(h:p:=by omega):p:=h
theorem Ψ{p:Prop}(h:p:=by simp):p:=h
end Go
open Array renaming getElem?_toList->u7
open BitVec renaming ofInt->mF
open Bool renaming and_eq_true->cr,eq_iff_iff->qz,false_eq_true->hg,not_eq_true'->oG
open ByteArray renaming ext->aq1,size->avo
open Go renaming Program->cK,TypeId->hh
open Go.ByteArray renaming toList_eq->aq2
open Go.IntKind renaming i64->nT
open Go.IntWalk renaming i64_in->nm
open Go.Op renaming bytesLess->hP
open Go.Region renaming wanted->pW
open Go.Result renaming andThen_ok->fZ
open Go.Sem renaming run_bind->fU,run_pure->gC
open Go.Value renaming cells->pX,ownBlock->pb
open Go.Value.pointer renaming injEq->avv
open Go.World.grownBy renaming refl->aq5
open List renaming all_eq_true->fV,cons_append->bP,getElem?_eq_getElem->cg,getElem?_eq_none->rf,getElem?_eq_some_iff->fD,length_append->pc,length_cons->mG,length_drop->tG,map_cons->gZ,map_nil->nn,mem_append->hQ,mem_cons->fm,mem_cons_of_mem->pd,mem_filter->ia,mem_map->hR,mem_singleton->iS,pairwise_cons->np,take->pZ,take_length->lQ,take_of_length_le->hl
open List.cons renaming injEq->yk
open Nat renaming add_mul->p0,le_refl->dZ,le_trans->ha,mul_le_mul_right->rh
open Ne renaming symm->lR
open Option renaming bind_some->jy,isSome_iff_exists->fo,isSome_none->k1,map_eq_some_iff->gv,map_some->oK
open Option.some renaming injEq->dE
open Prod.mk renaming injEq->j7
open _root_ renaming DecidableEq->nl,False->ey,beq_iff_eq->dM,congrArg->eW,decide_eq_true_eq->eN
namespace Go.Pv
section
open Go Go.RowKit
inductive aL where
 |loc (s:Nat)
 |obj (n:Nat)
 deriving nl,Inhabited
inductive CU where
 |no
 |nil
 |own (k:aL)
 |tr (k:aL) (j:Nat)
 |lo (k:aL)
 deriving nl,Inhabited
inductive aj where
 |junk
 |int (k:IntKind) (n:Int)
 |bool (b:Bool)
 |str (s:List UInt8)
 |slice (sz:Nat) (tag:CU) (xs:List aj)
 |agg (cs:List aj)
 |ptr (key:aL) (off:Nat)
 |eptr (x:aj)
 |iface (t:Nat) (x:aj)
 |nilp
 |tuple (a7:List aj)
 |func (f:Nat) (dr:List aj)
 |gmap (key:aL)
 |row (sz:Nat) (key:aL) (n:Nat)
 |rptr (sz:Nat) (key:aL) (n i f:Nat)
 |hdm (clock:Nat) (borns:List Nat)
 |hdi (since:Nat) (seen:List Nat) (last:Nat)
 |cst (v:Value)
 deriving Inhabited
structure bc where
 A:Nat->Nat->Prop
 bx:aL->Option Nat
 ow:aL->Option (Nat×Value)
 tr:aL->Nat->Nat->Prop
def lim:Nat:=68719476736
def mx(w:World)(A:Nat->Nat->Prop)(b:Nat):Nat->List Value->Prop
 |_,[]=>True
 |off,u::us=>(A b off/\w.cell? ⟨b,off,none⟩=some u)/\mx w A b (off+1) us
def shape(w:World)(b:Nat):Option (Nat×hh×(Nat×Nat)):=
 match w.heap[b]? with
 |some (.cells cur el fz)=>some (cur.size,el,fz)
 |_=>none
theorem xY{w w':World}{b:Nat}(h:w'.heap[b]? =w.heap[b]?):shape w' b=shape w b:=by unfold shape;rw[h]
mutual
def gq(t:Bool)(w:World)(A:Nat->Nat->Prop)(F:Nat->Prop):aj->Value->Prop
 | .int k n,v=>v= .int k n
 | .bool b,v=>v= .bool b
 | .str s,v=>v= .string ⟨s.toArray⟩/\s.length<=lim
 | .slice sz _ xs,v=> ∃a cap,v= .slice a xs.length cap/\xs.length<=cap/\(cap<=maxLen/\xs.length<=lim)/\
   (xs=[]\/ ∃b off us G,a=some ⟨b,off,none⟩/\F b/\(∀c,G c->F c/\(t=true->c≠b))/\mx w A b off us/\(t=true->off=0/\0<us.length/\∃el,shape w b=some (cap*sz,el,(0,0)))/\vw t w A G sz xs us)
 | .agg cs,v=> ∃us:Array Value,v= .agg us/\vx t w A F cs us.toList
 |_,_=>ey
def vx(t:Bool)(w:World)(A:Nat->Nat->Prop)(F:Nat->Prop):List aj->List Value->Prop
 |[],us=>us=[]
 |c::cs,us=> ∃u cj iC iT,us=u::cj/\((∀b,iC b->F b)/\(∀b,iT b->F b)/\(t=true->∀b,iC b->¬iT b))/\(gq t w A iC c u/\u.oneCell'=true)/\vx t w A iT cs cj
def vw(t:Bool)(w:World)(A:Nat->Nat->Prop)(F:Nat->Prop)(sz:Nat):List aj->List Value->Prop
 |[],us=>us=[]
 |x::xs,us=> ∃u cj iC iT,us=u.cells.toList++cj/\((∀b,iC b->F b)/\(∀b,iT b->F b)/\(t=true->∀b,iC b->¬iT b))/\(gq t w A iC x u/\u.cells.size=sz/\(∀c∈u.cells.toList,c.oneCell'=true))/\vw t w A iT sz xs cj
end
mutual
def a8(w:World)(Z:bc):aj->Value->Prop
 | .junk,_=>True
 | .int k n,v=>v= .int k n
 | .bool b,v=>v= .bool b
 | .str s,v=>v= .string ⟨s.toArray⟩/\s.length<=lim
 | .slice sz tag xs,v=>
   (∃a cap,v= .slice a xs.length cap/\xs.length<=cap/\(cap<=maxLen/\xs.length<=lim)/\(xs=[]\/ ∃b off us,a=some ⟨b,off,none⟩/\mx w Z.A b off us/\dH w Z sz xs us))/\
   (tag= .nil->v= .slice none 0 0)/\
   (∀g,tag= .own g->∃n u,Z.ow g=some (n,u)/\xs.length<=n/\(xs.length=n->v=u))/\
   (∀k j,tag= .tr k j->gq true w Z.A (Z.tr k j) (.slice sz tag xs) v)/\(∀k,tag= .lo k->gq false w Z.A (Z.tr k 0) (.slice sz tag xs) v)
 | .agg cs,v=> ∃us:Array Value,v= .agg us/\dm w Z cs us.toList
 | .ptr key off,v=> ∃b,Z.bx key=some b/\v= .pointer (some ⟨b,off,none⟩)
 | .eptr x,v=> ∃b off u,v= .pointer (some ⟨b,off,none⟩)/\a8 w Z x u/\mx w Z.A b off u.cells.toList
 | .iface t x,v=> ∃u,v= .iface t u/\a8 w Z x u
 | .nilp,v=>v= .pointer none
 | .tuple a7,v=> ∃us:Array Value,v= .tuple us/\cX w Z a7 us.toList
 | .func f dr,v=> ∃us:Array Value,v= .func (.func f) #[] us/\cX w Z dr us.toList
 | .gmap key,v=> ∃b,Z.bx key=some b/\v= .map (some b)
 | .row _ key n,v=>(∃b cap,v= .slice (some ⟨b,0,none⟩) n cap)/\n<=lim/\∃n' u,Z.ow key=some (n',u)/\n<=n'/\(n=n'->v=u)
 | .rptr sz key n i f,v=>(∃b o,v= .pointer (some ⟨b,o,none⟩))/\i<n/\∃n' u,Z.ow key=some (n',u)/\n<=n'/\(n=n'->∃b,u.ownBlock=some b/\v= .pointer (some ⟨b,i*sz+f,none⟩))
 | .hdm _ _,_=>ey
 | .hdi _ _ _,_=>ey
 | .cst c,v=>v=c
def dm(w:World)(Z:bc):List aj->List Value->Prop
 |[],us=>us=[]
 |c::cs,us=> ∃u cj,us=u::cj/\(a8 w Z c u/\u.oneCell'=true)/\dm w Z cs cj
def cX(w:World)(Z:bc):List aj->List Value->Prop
 |[],us=>us=[]
 |c::cs,us=> ∃u cj,us=u::cj/\a8 w Z c u/\cX w Z cs cj
def dH(w:World)(Z:bc)(sz:Nat):List aj->List Value->Prop
 |[],us=>us=[]
 |x::xs,us=> ∃u cj,us=u.cells.toList++cj/\(a8 w Z x u/\u.cells.size=sz/\(∀c∈u.cells.toList,c.oneCell'=true))/\dH w Z sz xs cj
end
theorem Ic{w w':World}{A gw:Nat->Nat->Prop}{b:Nat}(be:∀b o,A b o->gw b o/\w'.cell? ⟨b,o,none⟩=w.cell? ⟨b,o,none⟩):
  ∀(us:List Value) (off:Nat),mx w A b off us->mx w' gw b off us
 |[],_,_=>trivial
 |_::us,off,h=>⟨⟨(be _ _ h.1.1).1,(be _ _ h.1.1).2.trans h.1.2⟩,Ic be us (off+1) h.2⟩
mutual
theorem G3{t:Bool}{w w':World}{A gw:Nat->Nat->Prop}(be:∀b o,A b o->gw b o/\w'.cell? ⟨b,o,none⟩=w.cell? ⟨b,o,none⟩)(af:∀b o,A b o->shape w' b=shape w b):∀(p:aj) (F p2:Nat->Prop) (v:Value),(∀b,F b->p2 b)->gq t w A F p v->gq t w' gw p2 p v
 | .int k n,_,_,_,_,h=>by simp only[gq]at h⊢;exact h
 | .bool b,_,_,_,_,h=>by simp only[gq]at h⊢;exact h
 | .str s,_,_,_,_,h=>by simp only[gq]at h⊢;exact h
 | .slice sz tag xs,F,p2,v,gy,h=>by
  simp only[gq]at h⊢;obtain⟨a,cap,J,U,h3,h4⟩:=h;refine⟨a,cap,J,U,h3,?_⟩;rcases h4 with h4|⟨b,off,us,G,aq,aF,bB,ds,ie,ig⟩
  ·exact .inl h4
  ·refine .inr ⟨b,off,us,G,aq,gy _ aF,fun c ao=>⟨gy _ (bB c ao).1,(bB c ao).2⟩,Ic be _ _ ds,fun aI=>?_,UM be af xs G G _ (fun _ h=>h) ig⟩;obtain⟨f1,f2,el,f3⟩:=ie aI;refine⟨f1,f2,el,?_⟩;cases us with
   |nil=>simp at f2
   |cons u us=>rw[af b off ds.1.1];exact f3
 | .agg cs,F,p2,v,gy,h=>by simp only[gq]at h⊢;obtain⟨us,J,U⟩:=h;exact⟨us,J,UN be af cs F p2 _ gy U⟩
 | .junk,_,_,_,_,h=>by simp[gq]at h
 | .ptr _ _,_,_,_,_,h=>by simp[gq]at h
 | .eptr _,_,_,_,_,h=>by simp[gq]at h
 | .iface _ _,_,_,_,_,h=>by simp[gq]at h
 | .nilp,_,_,_,_,h=>by simp[gq]at h
 | .tuple _,_,_,_,_,h=>by simp[gq]at h
 | .func _ _,_,_,_,_,h=>by simp[gq]at h
 | .gmap _,_,_,_,_,h=>by simp[gq]at h
 | .row _ _ _,_,_,_,_,h=>by simp[gq]at h
 | .rptr _ _ _ _ _,_,_,_,_,h=>by simp[gq]at h
 | .hdm _ _,_,_,_,_,h=>by simp[gq]at h
 | .hdi _ _ _,_,_,_,_,h=>by simp[gq]at h
 | .cst _,_,_,_,_,h=>by simp[gq]at h
theorem UN{t:Bool}{w w':World}{A gw:Nat->Nat->Prop}(be:∀b o,A b o->gw b o/\w'.cell? ⟨b,o,none⟩=w.cell? ⟨b,o,none⟩)(af:∀b o,A b o->shape w' b=shape w b):∀(cs:List aj) (F p2:Nat->Prop) (us:List Value),(∀b,F b->p2 b)->vx t w A F cs us->vx t w' gw p2 cs us
 |[],_,_,_,_,h=>by simp only[vx]at h⊢;exact h
 |c::cs,F,p2,us,gy,h=>by simp only[vx]at h⊢;obtain⟨u,cj,iC,iT,J,⟨U,h3,h4⟩,⟨h5,c9⟩,dX⟩:=h;exact⟨u,cj,iC,iT,J,⟨fun b ad=>gy _ (U b ad),fun b ad=>gy _ (h3 b ad),h4⟩,⟨G3 be af c iC iC u (fun _ h=>h) h5,c9⟩,UN be af cs iT iT cj (fun _ h=>h) dX⟩
theorem UM{t:Bool}{w w':World}{A gw:Nat->Nat->Prop}(be:∀b o,A b o->gw b o/\w'.cell? ⟨b,o,none⟩=w.cell? ⟨b,o,none⟩)(af:∀b o,A b o->shape w' b=shape w b){sz:Nat}:∀(cs:List aj) (F p2:Nat->Prop) (us:List Value),(∀b,F b->p2 b)->vw t w A F sz cs us->vw t w' gw p2 sz cs us
 |[],_,_,_,_,h=>by simp only[vw]at h⊢;exact h
 |c::cs,F,p2,us,gy,h=>by simp only[vw]at h⊢;obtain⟨u,cj,iC,iT,J,⟨U,h3,h4⟩,⟨h5,c9⟩,dX⟩:=h;exact⟨u,cj,iC,iT,J,⟨fun b ad=>gy _ (U b ad),fun b ad=>gy _ (h3 b ad),h4⟩,⟨G3 be af c iC iC u (fun _ h=>h) h5,c9⟩,UM be af cs iT iT cj (fun _ h=>h) dX⟩
end
mutual
def aJ(S:aL->Prop):aj->Prop
 | .slice _ tag xs=>(match tag with| .own k=>S k| .tr k _=>S k| .lo k=>S k|_=>True)/\aO S xs
 | .agg cs=>aO S cs
 | .ptr k _=>S k
 | .eptr x=>aJ S x
 | .iface _ x=>aJ S x
 | .tuple a7=>aO S a7
 | .func _ dr=>aO S dr
 | .gmap k=>S k
 | .row _ k _=>S k
 | .rptr _ k _ _ _=>S k
 |_=>True
def aO(S:aL->Prop):List aj->Prop
 |[]=>True
 |x::xs=>aJ S x/\aO S xs
end
mutual
theorem xC{S T:aL->Prop}(h:∀k,S k->T k):∀p:aj,aJ S p->aJ T p
 | .junk,_=>by simp[aJ]
 | .int _ _,_=>by simp[aJ]
 | .bool _,_=>by simp[aJ]
 | .str _,_=>by simp[aJ]
 | .slice sz tag xs,bF=>by simp only[aJ]at bF⊢;exact⟨by cases tag<;>first|trivial|exact h _ bF.1,ki h xs bF.2⟩
 | .agg cs,bF=>by simp only[aJ]at bF⊢;exact ki h cs bF
 | .ptr k _,bF=>by simp only[aJ]at bF⊢;exact h _ bF
 | .eptr x,bF=>by simp only[aJ]at bF⊢;exact xC h x bF
 | .iface _ x,bF=>by simp only[aJ]at bF⊢;exact xC h x bF
 | .nilp,_=>by simp[aJ]
 | .tuple a7,bF=>by simp only[aJ]at bF⊢;exact ki h a7 bF
 | .func _ dr,bF=>by simp only[aJ]at bF⊢;exact ki h dr bF
 | .gmap k,bF=>by simp only[aJ]at bF⊢;exact h _ bF
 | .row _ k _,bF=>by simp only[aJ]at bF⊢;exact h _ bF
 | .rptr _ k _ _ _,bF=>by simp only[aJ]at bF⊢;exact h _ bF
 | .hdm _ _,_=>by simp[aJ]
 | .hdi _ _ _,_=>by simp[aJ]
 | .cst _,_=>by simp[aJ]
theorem ki{S T:aL->Prop}(h:∀k,S k->T k):∀cy:List aj,aO S cy->aO T cy
 |[],_=>by simp[aO]
 |x::xs,bF=>by simp only[aO]at bF⊢;exact⟨xC h x bF.1,ki h xs bF.2⟩
end
mutual
theorem H9:∀p:aj,aJ (fun _=>True) p
 | .junk=>by simp[aJ]
 | .int _ _=>by simp[aJ]
 | .bool _=>by simp[aJ]
 | .str _=>by simp[aJ]
 | .slice sz tag xs=>by simp only[aJ];exact⟨by cases tag<;>trivial,vX xs⟩
 | .agg cs=>by simp only[aJ];exact vX cs
 | .ptr k _=>by simp[aJ]
 | .eptr x=>by simp only[aJ];exact H9 x
 | .iface _ x=>by simp only[aJ];exact H9 x
 | .nilp=>by simp[aJ]
 | .tuple a7=>by simp only[aJ];exact vX a7
 | .func _ dr=>by simp only[aJ];exact vX dr
 | .gmap k=>by simp[aJ]
 | .row _ k _=>by simp[aJ]
 | .rptr _ k _ _ _=>by simp[aJ]
 | .hdm _ _=>by simp[aJ]
 | .hdi _ _ _=>by simp[aJ]
 | .cst _=>by simp[aJ]
theorem vX:∀cy:List aj,aO (fun _=>True) cy
 |[]=>by simp[aO]
 |x::xs=>by simp only[aO];exact⟨H9 x,vX xs⟩
end
def fQ:List Nat->List Value->List MapEntry
 |b::e6,k::v::r=>⟨k,v,b⟩::fQ e6 r
 |_,_=>[]
def kl(cs:List aj)(us:Array Value)(el:hh):Obj:=
 match cs with
 | .hdm clock borns::_=>.map (fQ borns us.toList).toArray clock
 | .hdi since seen last::_=>.mapIter (match us.toList with|[.map m]=>m|_=>none) since seen.toArray last
 |_=>.cells us el
structure akr (clock:Nat) (borns:List Nat) (r:List aj):Prop where
 len:r.length=2*borns.length
 inc:borns.Pairwise (· < ·)
 lt:∀b∈borns,b<clock
def jP(w:World)(Z:bc)(cs:List aj)(us:List Value):Prop:=
 match cs with
 | .hdm clock borns::r=>cX w Z r us/\akr clock borns r
 | .hdi _ _ _::r=>cX w Z r us
 |cs=>dm w Z cs us
def h9:List aj->Bool
 | .hdm _ _::_=>false
 | .hdi _ _ _::_=>false
 |_=>true
theorem Co{w:World}{Z:bc}{cs:List aj}{us:List Value}(h:dm w Z cs us):h9 cs=true:=by
 unfold h9;split
 ·simp only[dm,a8]at h;obtain⟨_,_,_,⟨h,_⟩,_⟩:=h;exact h.elim
 ·simp only[dm,a8]at h;obtain⟨_,_,_,⟨h,_⟩,_⟩:=h;exact h.elim
 ·rfl
theorem wj{cs:List aj}(h:h9 cs=true)(us:Array Value)(el:hh):kl cs us el= .cells us el:=by
 unfold h9 at h;unfold kl;split at h<;>first|cases h|skip
 rfl
theorem wk{w:World}{Z:bc}{cs:List aj}(h:h9 cs=true)(us:List Value):jP w Z cs us=dm w Z cs us:=by
 unfold h9 at h;unfold jP;split at h<;>first|cases h|skip
 rfl
structure pf (S:aL->Prop) (w:World) (Z:bc) (w':World) (bh:bc):Prop where
 A:∀b o,Z.A b o->bh.A b o/\w'.cell? ⟨b,o,none⟩=w.cell? ⟨b,o,none⟩
 bx:∀k b,S k->Z.bx k=some b->bh.bx k=some b
 ow:∀g n u,S g->Z.ow g=some (n,u)->∃n' fl,bh.ow g=some (n',fl)/\(n'=n/\fl=u\/n<n')
 sh:∀b o,Z.A b o->shape w' b=shape w b
 tr:∀k j b,S k->Z.tr k j b->bh.tr k j b
abbrev ma:=pf (fun _=>True)
mutual
theorem kY{S:aL->Prop}{w w':World}{Z bh:bc}(ay:pf S w Z w' bh):∀(p:aj) (v:Value),aJ S p->a8 w Z p v->a8 w' bh p v
 | .junk,_,_,_=>by simp[a8]
 | .int k n,_,_,h=>by simp only[a8]at h⊢;exact h
 | .bool b,_,_,h=>by simp only[a8]at h⊢;exact h
 | .str s,_,_,h=>by simp only[a8]at h⊢;exact h
 | .slice sz tag xs,v,ae,h=>by
  simp only[a8,aJ]at h ae⊢;obtain⟨⟨a,cap,J,U,h3,h4⟩,h5,c9,jD,kp⟩:=h;refine⟨⟨a,cap,J,U,h3,?_⟩,h5,fun g aW=>?_,fun k j nD=>?_,fun k nD=>?_⟩
  ·rcases h4 with h4|⟨b,off,us,h4,c9,dX⟩
   ·exact .inl h4
   ·exact .inr ⟨b,off,us,h4,Ic ay.A _ _ c9,Ji ay sz xs us ae.2 dX⟩
  ·obtain⟨n,u,aq,aF,bB⟩:=c9 g aW;subst aW;obtain⟨n',fl,f1,f2⟩:=ay.ow g n u ae.1 aq;refine⟨n',fl,f1,?_⟩;rcases f2 with⟨rfl,rfl⟩|f2
   ·exact⟨aF,bB⟩
   ·exact⟨Ω,fun e=>Ω⟩
  ·have:=jD k j nD;subst nD;exact G3 ay.A ay.sh _ _ _ _ (fun b=>ay.tr k j b ae.1) this
  ·have:=kp k nD;subst nD;exact G3 ay.A ay.sh _ _ _ _ (fun b=>ay.tr k 0 b ae.1) this
 | .agg cs,v,ae,h=>by simp only[a8,aJ]at h ae⊢;obtain⟨us,J,U⟩:=h;exact⟨us,J,Jl ay cs _ ae U⟩
 | .ptr key off,v,ae,h=>by simp only[a8,aJ]at h ae⊢;obtain⟨b,J,U⟩:=h;exact⟨b,ay.bx _ _ ae J,U⟩
 | .iface t x,v,ae,h=>by simp only[a8,aJ]at h ae⊢;obtain⟨u,J,U⟩:=h;exact⟨u,J,kY ay x u ae U⟩
 | .eptr x,v,ae,h=>by simp only[a8,aJ]at h ae⊢;obtain⟨b,off,u,J,U,h3⟩:=h;exact⟨b,off,u,J,kY ay x u ae U,Ic ay.A _ _ h3⟩
 | .nilp,_,_,h=>by simp only[a8]at h⊢;exact h
 | .tuple a7,v,ae,h=>by simp only[a8,aJ]at h ae⊢;obtain⟨us,J,U⟩:=h;exact⟨us,J,zO ay a7 _ ae U⟩
 | .func f dr,v,ae,h=>by simp only[a8,aJ]at h ae⊢;obtain⟨us,J,U⟩:=h;exact⟨us,J,zO ay dr _ ae U⟩
 | .gmap key,v,ae,h=>by simp only[a8,aJ]at h ae⊢;obtain⟨b,J,U⟩:=h;exact⟨b,ay.bx _ _ ae J,U⟩
 | .row sz key n,v,ae,h=>by
  simp only[a8,aJ]at h ae⊢;obtain⟨J,U,n',u,h3,h4,h5⟩:=h;obtain⟨gB,j5,f1,f2⟩:=ay.ow key n' u ae h3;refine⟨J,U,gB,j5,f1,?_⟩;rcases f2 with⟨rfl,rfl⟩|f2
  ·exact⟨h4,h5⟩
  ·exact⟨Ω,fun e=>Ω⟩
 | .rptr sz key n i f,v,ae,h=>by
  simp only[a8,aJ]at h ae⊢;obtain⟨J,U,n',u,h3,h4,h5⟩:=h;obtain⟨gB,j5,f1,f2⟩:=ay.ow key n' u ae h3;refine⟨J,U,gB,j5,f1,?_⟩;rcases f2 with⟨rfl,rfl⟩|f2
  ·exact⟨h4,h5⟩
  ·exact⟨Ω,fun e=>Ω⟩
 | .hdm _ _,_,_,h=>by simp only[a8]at h
 | .hdi _ _ _,_,_,h=>by simp only[a8]at h
 | .cst c,_,_,h=>by simp only[a8]at h⊢;exact h
theorem Jl{S:aL->Prop}{w w':World}{Z bh:bc}(ay:pf S w Z w' bh):∀(cs:List aj) (us:List Value),aO S cs->dm w Z cs us->dm w' bh cs us
 |[],_,_,h=>by simp only[dm]at h⊢;exact h
 |c::cs,us,ae,h=>by simp only[dm,aO]at h ae⊢;obtain⟨u,cj,J,U,h3⟩:=h;exact⟨u,cj,J,⟨kY ay c u ae.1 U.1,U.2⟩,Jl ay cs cj ae.2 h3⟩
theorem zO{S:aL->Prop}{w w':World}{Z bh:bc}(ay:pf S w Z w' bh):∀(cs:List aj) (us:List Value),aO S cs->cX w Z cs us->cX w' bh cs us
 |[],_,_,h=>by simp only[cX]at h⊢;exact h
 |c::cs,us,ae,h=>by simp only[cX,aO]at h ae⊢;obtain⟨u,cj,J,U,h3⟩:=h;exact⟨u,cj,J,kY ay c u ae.1 U,zO ay cs cj ae.2 h3⟩
theorem Ji{S:aL->Prop}{w w':World}{Z bh:bc}(ay:pf S w Z w' bh)(sz:Nat):∀(xs:List aj) (us:List Value),aO S xs->dH w Z sz xs us->dH w' bh sz xs us
 |[],_,_,h=>by simp only[dH]at h⊢;exact h
 |x::xs,us,ae,h=>by simp only[dH,aO]at h ae⊢;obtain⟨u,cj,J,⟨U,h3,h4⟩,h5⟩:=h;exact⟨u,cj,J,⟨kY ay x u ae.1 U,h3,h4⟩,Ji ay sz xs cj ae.2 h5⟩
end
theorem ZO{S:aL->Prop}{w w':World}{Z bh:bc}(ay:pf S w Z w' bh){cs:List aj}{us:List Value}(ae:aO S cs)(h:jP w Z cs us):jP w' bh cs us:=by
 unfold jP at h⊢;split
 ·simp only[aO]at ae;exact⟨zO ay _ _ ae.2 h.1,h.2⟩
 ·simp only[aO]at ae;exact zO ay _ _ ae.2 h
 ·rename_i J U;split at h
  ·exact absurd rfl (J _ _ _)
  ·exact absurd rfl (U _ _ _ _)
  ·exact Jl ay _ _ ae h
section
variable {w w':World} {Z bh:bc} (ay:ma w Z w' bh)
include ay
theorem zP{p:aj}{v:Value}(h:a8 w Z p v):a8 w' bh p v:=kY ay p v (H9 p) h
theorem ZT{p:List aj}{v:List Value}(h:dm w Z p v):dm w' bh p v:=Jl ay p v (vX p) h
theorem Jn{p:List aj}{v:List Value}(h:cX w Z p v):cX w' bh p v:=zO ay p v (vX p) h
theorem q8{p:List aj}{v:List Value}(h:jP w Z p v):jP w' bh p v:=ZO ay (vX p) h
theorem Cl{sz:Nat}{p:List aj}{v:List Value}(h:dH w Z sz p v):dH w' bh sz p v:=Ji ay sz p v (vX p) h
end
end
section
open Go Go.RowKit
def get(k:Nat):List (Nat×aj)->aj
 |[]=>.junk
 |(i,p)::r=>if i=k then p else get k r
def put(k:Nat)(p:aj):List (Nat×aj)->List (Nat×aj)
 |[]=>[(k,p)]
 |(i,q)::r=>if i=k then(i,p)::r else(i,q)::put k p r
def look{α:Type}(k:aL):List (aL×α)->Option α
 |[]=>none
 |(i,p)::r=>if i=k then some p else look k r
def cB{α:Type}(k:aL)(p:α):List (aL×α)->List (aL×α)
 |[]=>[(k,p)]
 |(i,q)::r=>if i=k then(i,p)::r else(i,q)::cB k p r
theorem eX(k j:Nat)(p:aj):∀l,get j (put k p l)=if k=j then p else get j l
 |[]=>by simp[get,put]
 |(i,q)::r=>by
  by_cases h:i=k
  ·subst h;by_cases U:i=j<;>simp[get,put,U]
  ·by_cases U:i=j
   ·subst U;simp[get,put,h,lR h]
   ·simp[get,put,h,U,eX k j p r]
theorem ju{α:Type}(k j:aL)(p:α):∀l,look j (cB k p l)=if k=j then some p else look j l
 |[]=>by simp[look,cB]
 |(i,q)::r=>by
  by_cases h:i=k
  ·subst h;by_cases U:i=j<;>simp[look,cB,U]
  ·by_cases U:i=j
   ·subst U;simp[look,cB,h,lR h]
   ·simp[look,cB,h,U,ju k j p r]
structure fP where
 n:Nat
 el:Nat
 sz:Nat
 xs:Option (List aj)
def Po(w:World)(Z:bc)(o:fP)(v:Value)(us:List Value):Prop:=∀xs,o.xs=some xs->xs.length=o.n/\dH w Z o.sz xs us/\∀bl,v.ownBlock=some bl->∀j,¬Z.A bl j
theorem tp{w w':World}{Z bh:bc}(ay:ma w Z w' bh){o:fP}{v:Value}{us:List Value}(be:∀bl,v.ownBlock=some bl->∀j,bh.A bl j->Z.A bl j)(h:Po w Z o v us):Po w' bh o v us:=fun xs ab=>⟨(h xs ab).1,Cl ay (h xs ab).2.1,fun bl ad j ag=>(h xs ab).2.2 bl ad j (be bl ad j ag)⟩
def dW(S:aL->Prop)(o:fP):Prop:= ∀xs,o.xs=some xs->aO S xs
structure bn where
 t:List (Nat×aj)
 b:List (aL×List aj)
 e:List (aL×fP)
 n:Nat
 o:List aL
def fresh(n:Nat)(o:List aL)(k:aL):Prop:=(match k with| .loc m=>n<=m| .obj _=>True)/\k∉o
theorem LW{n n':Nat}{o o':List aL}(au:n<=n')(ay:∀k∈o,k∈o'){k:aL}(h:fresh n' o' k):fresh n o k:=by unfold fresh at h⊢;exact⟨by cases k<;>simp at h⊢;omega,fun ae=>h.2 (ay k ae)⟩
def P1(Z:bc)(b:List (aL×List aj))(e:List (aL×fP))(bl:Nat):Prop:=(∃k,(look k b).isSome/\Z.bx k=some bl)\/(∃g n v,(look g e).isSome/\Z.ow g=some (n,v)/\v.ownBlock=some bl)
structure Good (pr:Nat->Prop) (w:World) (Z:bc) (b:List (aL×List aj)) (e:List (aL×fP)):Prop where
 alt:∀bl o,Z.A bl o->bl<w.heap.size
 box:∀k cs,look k b=some cs->∃bl us el,Z.bx k=some bl/\pr bl/\(∀o,¬Z.A bl o)/\w.heap[bl]? =some (kl cs us el)/\jP w Z cs us.toList
 inj:∀k bI bl,(look k b).isSome->(look bI b).isSome->Z.bx k=some bl->Z.bx bI=some bl->k=bI
 own:∀g o,look g e=some o->∃v us,Z.ow g=some (o.n,v)/\w.ownsRow 0 o.el o.sz v o.n us/\(∀bl,v.ownBlock=some bl->pr bl/\(∀j,Z.A bl j->j<o.n*o.sz))/\Po w Z o v us
 oinj:∀g fb n n' v v' bl,(look g e).isSome->(look fb e).isSome->Z.ow g=some (n,v)->Z.ow fb=some (n',v')->v.ownBlock=some bl->v'.ownBlock=some bl->g=fb
 obx:∀g k n v bl,(look g e).isSome->(look k b).isSome->Z.ow g=some (n,v)->v.ownBlock=some bl->Z.bx k=some bl->ey
 one:∀k,Z.bx k=none\/Z.ow k=none
 otr:∀bl,P1 Z b e bl->∀k j,¬Z.tr k j bl
structure fp where
 w0:World
 Z0:bc
 mt:Nat->Prop
 N:Nat
 ob:List aL
def fp.pr(C:fp)(bl:Nat):Prop:=C.mt bl\/C.w0.heap.size<=bl
def aoG:aL:= .obj 990001
def gm:aL:= .obj 990002
structure qB (C:fp) (w:World) (Z:bc):Prop where
 os:w.os=C.w0.os
 tape:w.tape=C.w0.tape
 output:w.output=C.w0.output
 size:C.w0.heap.size<=w.heap.size
 block:∀k,k<C.w0.heap.size->¬C.mt k->w.heap[k]? =C.w0.heap[k]?
 keep:∀b o,C.Z0.A b o->Z.A b o/\w.cell? ⟨b,o,none⟩=C.w0.cell? ⟨b,o,none⟩
 fresh:∀b o,Z.A b o->C.Z0.A b o\/C.pr b
 obj:∀n b,C.Z0.bx (.obj n)=some b->Z.bx (.obj n)=some b
 obn:∀n b,C.Z0.bx (.obj n)=some b-> .obj n∈C.ob
 row:∀m n u,C.Z0.ow (.obj m)=some (n,u)->∃n' fl,Z.ow (.obj m)=some (n',fl)/\(n'=n/\fl=u\/n<n')
 obr:∀m n u,C.Z0.ow (.obj m)=some (n,u)-> .obj m∈C.ob
 trd:∀k j bI dJ b,Z.tr k j b->Z.tr bI dJ b->k=bI/\j=dJ
 trb:∀k j b,Z.tr k j b->(k=aoG\/C.w0.heap.size<=b)/\b<w.heap.size
 trn:∀k j b,Z.tr k j b->Z.bx k=none/\Z.ow k=none
 sh:∀b o,C.Z0.A b o->shape w b=shape C.w0 b
theorem Fj{Z bh:bc}{g:aL}{n:Nat}{u:Value}(h:∃n' fl,Z.ow g=some (n',fl)/\(n'=n/\fl=u\/n<n'))(ay:∀n u,Z.ow g=some (n,u)->∃n' fl,bh.ow g=some (n',fl)/\(n'=n/\fl=u\/n<n')):
  ∃n' fl,bh.ow g=some (n',fl)/\(n'=n/\fl=u\/n<n'):=by
 obtain⟨iP,jx,aq,aF⟩:=h;obtain⟨gB,j5,f1,f2⟩:=ay iP jx aq;refine⟨gB,j5,f1,?_⟩;rcases aF with⟨rfl,rfl⟩|aF
 ·exact f2
 ·rcases f2 with⟨rfl,rfl⟩|f2
  ·exact .inr aF
  ·exact .inr Ω
structure c2 (C:fp) (st:bn) (a:Act) (w:World) (Z:bc):Prop where
 good:Good C.pr w Z st.b st.e
 fr:qB C w Z
 defers:a.defers=[]
 size:a.tmps.size=C.N
 slot:∀i,a8 w Z (get i st.t) (a.tmps.getD i undef)
 new:∀k,fresh st.n st.o k->Z.bx k=none/\Z.ow k=none/\∀j b,¬Z.tr k j b
def eS(d:Option Nat)(p:aj)(t:List (Nat×aj)):List (Nat×aj):=
 match d with
 |some d=>put d p t
 |none=>t
def jW(N:Nat)(d:Option Nat):Bool:=match d with|some d=>decide (d<N)|none=>true
theorem c2.put{C:fp}{st:bn}{a:Act}{w:World}{Z:bc}(h:c2 C st a w Z){d:Option Nat}(aG:jW C.N d=true){p:aj}{v:Value}(bF:a8 w Z p v):
  c2 C {st with t:=eS d p st.t} (a.put d v) w Z:=by
 cases d with
 |none=>exact h
 |some d=>
  have bs:d<a.tmps.size:=by rw[h.size];simpa[jW]using aG
  refine⟨h.good,h.fr,h.defers,by simpa[Act.put]using h.size,fun i=>?_,h.new⟩;simp only[eS,eX];by_cases e:d=i
  ·subst e;simpa[Act.put,Array.getD_eq_getD_getElem?,bs]using bF
  ·have:=h.slot i;simpa[e,Act.put,Array.getD_eq_getD_getElem?,Array.getElem?_setIfInBounds_ne e]using this
theorem c2.over{C:fp}{st st':bn}{a:Act}{w w':World}{Z bh:bc}(h:c2 C st a w Z)(ay:ma w Z w' bh)(aI:st'.t=st.t)(aW:Good C.pr w' bh st'.b st'.e)(aN:qB C w' bh)
  (au:∀k,fresh st'.n st'.o k->bh.bx k=none/\bh.ow k=none/\∀j b,¬bh.tr k j b):c2 C st' a w' bh:=
 ⟨aW,aN,h.defers,h.size,fun i=>by rw[aI];exact zP ay (h.slot i),au⟩
inductive dv where
 |t (i:Nat)
 |c (p:aj)
 deriving Inhabited
def cu(t:List (Nat×aj)):dv->aj
 | .t i=>get i t
 | .c p=>p
def Gm:aj->Value->Bool
 | .int k n,.int bI n'=>decide (k=bI/\n=n')
 | .bool b,.bool b3=>b==b3
 | .str s,.string l=>decide (l.data.toList=s/\s.length<=lim)
 | .slice _ .nil [],.slice none 0 0=>true
 | .nilp,.pointer none=>true
 | .tuple [],.tuple ⟨[]⟩=>true
 | .func f [],.func (.func g) ⟨[]⟩ ⟨[]⟩=>f==g
 | .junk,_=>true
 |_,_=>false
theorem Rt(w:World)(Z:bc){p:aj}{v:Value}(h:Gm p v=true):a8 w Z p v:=by
 unfold Gm at h;split at h
 ·simp at h;obtain⟨rfl,rfl⟩:=h;simp[a8]
 ·simp at h;subst h;simp[a8]
 ·rename_i s l;simp at h;obtain⟨J,U⟩:=h;refine⟨?_,U⟩;subst J;simp
 ·simp only[a8];refine⟨⟨none,0,rfl,Ψ,Ψ,Ψ⟩,Ψ,(fun _ h=>by cases h),(fun _ _ h=>by cases h),(fun _ h=>by cases h)⟩
 ·simp[a8]
 ·simp[a8,cX]
 ·simp at h;subst h;simp[a8,cX]
 ·simp[a8]
 ·cases h
def Ay:List aj->List Value->Bool
 |[],[]=>true
 |p::cy,v::a7=>Gm p v&&v.oneCell'&&Ay cy a7
 |_,_=>false
def Ax:aj->Value->Bool
 | .agg cs,.agg us=>Ay cs us.toList
 |p,v=>Gm p v
theorem Ru(w:World)(Z:bc):∀(cy:List aj) (a7:List Value),Ay cy a7=true->dm w Z cy a7
 |[],[],_=>by simp[dm]
 |[],_::_,h=>by simp[Ay]at h
 |_::_,[],h=>by simp[Ay]at h
 |p::cy,v::a7,h=>by simp only[Ay,cr]at h;simp only[dm];exact⟨v,a7,rfl,⟨Rt w Z h.1.1,h.1.2⟩,Ru w Z cy a7 h.2⟩
theorem KJ(w:World)(Z:bc){p:aj}{v:Value}(h:Ax p v=true):a8 w Z p v:=by
 unfold Ax at h;split at h
 ·simp only[a8];exact⟨_,rfl,Ru w Z _ _ h⟩
 ·exact Rt w Z h
def er:dv->Operand->Bool
 | .t i,.tmp j=>i==j
 | .c p,.const v=>Ax p v
 | .c (.func f []),.func g=>f==g
 |_,_=>false
theorem et{C:fp}{st:bn}{a:Act}{w:World}{Z:bc}(h:c2 C st a w Z){x:dv}{o:Operand}(ab:er x o=true):a8 w Z (cu st.t x) (a.eval o):=by
 unfold er at ab;split at ab
 ·simp at ab;subst ab;simpa[cu,Act.eval]using h.slot _
 ·simpa[cu,Act.eval]using KJ w Z ab
 ·simp at ab;subst ab;simp[cu,Act.eval,a8,cX]
 ·cases ab
inductive CT where
 |int (k:IntKind)
 |bool
 |str
 |slice (e:Nat)
 |struct (dQ:List (Nat×Nat))
 |map (k e:Nat)
 |other
 deriving nl
structure dy where
 size:Nat
 bytes:Nat
 kind:CT
 zero:aj
def CT.isAgg:CT->Bool
 | .struct _=>true
 |_=>false
def CM:List aj->List Value->Bool
 |[],[]=>true
 |p::cy,v::a7=>Ax p v&&v.oneCell'&&CM cy a7
 |_,_=>false
def Ah:aj->Value->Bool
 | .agg cs,.agg us=>CM cs us.toList
 | .agg _,_=>false
 |p,v=>Ax p v&&v.oneCell'
def kQ:CT->TypeDesc->Bool
 | .int k,.int bI=>decide (k=bI)
 | .bool,.bool=>true
 | .str,.string=>true
 | .slice e,.slice fE=>e==fE
 | .struct dQ,.struct gs=>decide (gs.toList.map (fun f=>(f.offset,f.type))=dQ)
 | .map k e,.map bI fE=>k==bI&&e==fE
 | .other,d=>match d with| .struct _| .array _ _| .int _| .bool| .string| .slice _=>false|_=>true
 |_,_=>false
def UF(P:cK)(gs:Array Field):Bool:=gs.toList.all fun f=>match P.underlying f.type with|some (.int _)=>true|some .string=>true|_=>false
def TE(P:cK)(t:Nat)(gs:Array Field):Bool:=gs.toList.all (fun f=>f.name != "_")&& !P.stoodInHeld t&& !P.eqGuardType P.depth t
def Le(P:cK)(t:Nat):TypeDesc->Bool
 | .struct gs=> !UF P gs||TE P t gs
 |_=>true
def P4(P:cK)(t:Nat)(f:dy):Bool:=
 match P.info? t,P.underlying t with
 |some i,some d=>Le P t d&&i.size==f.size&&i.bytes==f.bytes&&kQ f.kind d&&(match i.zero with|some z=>Ah f.zero z&&z.cells.size==f.size|none=>false)
 |_,_=>false
def fJ(P:cK)(bC:List (Nat×dy)):Bool:=bC.all fun x=>P4 P x.1 x.2
def ej(bC:List (Nat×dy))(t:Nat):Option dy:=(bC.find? fun x=>x.1==t).map (·.2)
theorem aps{P:cK}{bC:List (Nat×dy)}(h:fJ P bC=true){t:Nat}{f:dy}(aN:ej bC t=some f):P4 P t f=true:=by
 unfold ej at aN;cases ab:bC.find? fun x=>x.1==t with
 |none=>simp[ab]at aN
 |some x=>simp[ab]at aN;have J:=List.find?_some ab;simp at J;have U:=List.mem_of_find?_eq_some ab;have h3:=fV.1 h x U;rw[<-aN,<-J];exact h3
structure ab4 (P:cK) (t:Nat) (f:dy):Prop where
 cmp:∀d,P.underlying t=some d->Le P t d=true
 ex:∃i d z,P.info? t=some i/\P.underlying t=some d/\i.size=f.size/\i.bytes=f.bytes/\kQ f.kind d=true/\i.zero=some z/\Ah f.zero z=true/\z.cells.size=f.size
theorem wF{P:cK}{bC:List (Nat×dy)}(h:fJ P bC=true){t:Nat}{f:dy}(aN:ej bC t=some f):ab4 P t f:=by
 have h:=aps h aN;unfold P4 at h;split at h
 ·rename_i i d J U;simp only[cr,dM]at h;obtain⟨⟨⟨⟨bz,h3⟩,h4⟩,h5⟩,c9⟩:=h;split at c9
  ·rename_i z bd;simp only[cr,dM]at c9;exact⟨fun cm lZ=>by rw[U]at lZ;cases lZ;exact bz,i,d,z,J,U,h3,h4,h5,bd,c9.1,c9.2⟩
  ·cases c9
 ·cases h
theorem p4(b o j:Nat):(⟨b,o,none⟩:Addr).add j=⟨b,o+j,none⟩:=by
 unfold Addr.add;split
 ·rename_i h;subst h;rfl
 ·rfl
theorem QD(w:World)(Z:bc):∀(cy:List aj) (a7:List Value),CM cy a7=true->dm w Z cy a7
 |[],[],_=>by simp[dm]
 |[],_::_,h=>by simp[CM]at h
 |_::_,[],h=>by simp[CM]at h
 |p::cy,v::a7,h=>by simp only[CM,cr]at h;simp only[dm];exact⟨v,a7,rfl,⟨KJ w Z h.1.1,h.1.2⟩,QD w Z cy a7 h.2⟩
def cells:aj->List aj
 | .agg cs=>cs
 |p=>[p]
def e4:aj->Bool
 | .junk| .tuple _=>false
 | .cst (.slice _ _ _)| .cst (.string _)=>true
 | .cst _=>false
 |_=>true
theorem Pn{w:World}{Z:bc}{p:aj}{v:Value}(h:a8 w Z p v)(af:e4 p=true)(bg:∀cs,p≠ .agg cs):v.oneCell'=true/\v.cells= #[v]:=by
 cases p<;>simp only[a8,e4]at h af;case junk=>cases af
 case tuple=>cases af
 case cst c=>subst h;cases v<;>first|exact⟨rfl,rfl⟩|cases af
 case agg cs=>exact absurd rfl (bg cs)
 case int=>subst h;exact⟨rfl,rfl⟩
 case bool=>subst h;exact⟨rfl,rfl⟩
 case str=>rw[h.1];exact⟨rfl,rfl⟩
 case slice=>obtain⟨⟨a,cap,J,_⟩,_⟩:=h;subst J;exact⟨rfl,rfl⟩
 case ptr=>obtain⟨b,_,J⟩:=h;subst J;exact⟨rfl,rfl⟩
 case eptr=>obtain⟨b,o,u,J,_⟩:=h;subst J;exact⟨rfl,rfl⟩
 case iface=>obtain⟨u,J,_⟩:=h;subst J;exact⟨rfl,rfl⟩
 case nilp=>subst h;exact⟨rfl,rfl⟩
 case func=>obtain⟨us,J,_⟩:=h;subst J;exact⟨rfl,rfl⟩
 case gmap=>obtain⟨b,_,J⟩:=h;subst J;exact⟨rfl,rfl⟩
 case row=>obtain⟨⟨a,cap,J⟩,_⟩:=h;subst J;exact⟨rfl,rfl⟩
 case rptr=>obtain⟨⟨a,o,J⟩,_⟩:=h;subst J;exact⟨rfl,rfl⟩
theorem wx{w:World}{Z:bc}{p:aj}{v:Value}(h:a8 w Z p v)(af:e4 p=true):dm w Z (cells p) v.cells.toList:=by
 by_cases bg:∃cs,p= .agg cs
 ·obtain⟨cs,rfl⟩:=bg;simp only[a8]at h;obtain⟨us,rfl,U⟩:=h;simpa[cells,pX]using U
 ·have n7:∀cs,p≠ .agg cs:=fun cs e=>bg ⟨cs,e⟩;obtain⟨J,U⟩:=Pn h af n7;have ao:cells p=[p]:=by cases p<;>first|rfl|exact absurd rfl (n7 _)
  rw[ao,U];simp only[dm];exact⟨v,[],rfl,⟨h,J⟩,rfl⟩
theorem Cn{w:World}{Z:bc}:∀{cy:List aj} {a7:List Value},dm w Z cy a7->∀c∈a7,c.oneCell'=true
 |[],a7,h=>by simp only[dm]at h;subst h;simp
 |p::cy,a7,h=>by
  simp only[dm]at h;obtain⟨u,cj,rfl,J,U⟩:=h;intro c ao;rcases fm.1 ao with rfl|ao
  ·exact J.2
  ·exact Cn U c ao
theorem qu{w:World}{Z:bc}:∀{cy:List aj} {a7:List Value},dm w Z cy a7->a7.length=cy.length
 |[],a7,h=>by simp only[dm]at h;subst h;rfl
 |p::cy,a7,h=>by simp only[dm]at h;obtain⟨u,cj,rfl,_,U⟩:=h;simp[qu U]
theorem Cm{w:World}{Z:bc}:∀(n:Nat) {cy:List aj} {a7:List Value},dm w Z cy a7->dm w Z (cy.drop n) (a7.drop n)
 |0,_,_,h=>by simpa using h
 |n+1,[],a7,h=>by simp only[dm]at h;subst h;simp[dm]
 |n+1,p::cy,a7,h=>by simp only[dm]at h;obtain⟨u,cj,rfl,_,U⟩:=h;simpa using Cm n U
theorem Ff{w:World}{Z:bc}:∀(n:Nat) {cy:List aj} {a7:List Value},dm w Z cy a7->dm w Z (cy.take n) (a7.take n)
 |0,_,_,_=>by simp[dm]
 |n+1,[],a7,h=>by simp only[dm]at h;subst h;simp[dm]
 |n+1,p::cy,a7,h=>by simp only[dm]at h;obtain⟨u,cj,rfl,J,U⟩:=h;simp only[List.take_succ_cons,dm];exact⟨u,_,rfl,J,Ff n U⟩
theorem zM{w:World}{Z:bc}:∀{cy bD:List aj} {a7 us:List Value},dm w Z cy a7->dm w Z bD us->dm w Z (cy++bD) (a7++us)
 |[],bD,a7,us,h,b9=>by simp only[dm]at h;subst h;simpa using b9
 |p::cy,bD,a7,us,h,b9=>by simp only[dm]at h;obtain⟨u,cj,rfl,J,U⟩:=h;simp only[bP,dm];exact⟨u,_,rfl,J,zM U b9⟩
theorem Fe{w:World}{Z:bc}:∀(n:Nat) {cy:List aj} {a7:List Value} {p:aj},dm w Z cy a7->cy[n]? =some p->∃v,a7[n]? =some v/\a8 w Z p v/\v.oneCell'=true
 |n,[],_,p,_,bF=>by simp at bF
 |0,q::cy,a7,p,h,bF=>by simp only[dm]at h;obtain⟨u,cj,rfl,J,_⟩:=h;simp at bF;subst bF;exact⟨u,rfl,J.1,J.2⟩
 |n+1,q::cy,a7,p,h,bF=>by simp only[dm]at h;obtain⟨u,cj,rfl,_,U⟩:=h;simpa using Fe n U (by simpa using bF)
theorem Fh{w:World}{Z:bc}:∀(n:Nat) {cy:List aj} {a7:List Value} {p:aj},cX w Z cy a7->cy[n]? =some p->∃v,a7[n]? =some v/\a8 w Z p v
 |n,[],_,p,_,bF=>by simp at bF
 |0,q::cy,a7,p,h,bF=>by simp only[cX]at h;obtain⟨u,cj,rfl,J,_⟩:=h;simp at bF;subst bF;exact⟨u,rfl,J⟩
 |n+1,q::cy,a7,p,h,bF=>by simp only[cX]at h;obtain⟨u,cj,rfl,_,U⟩:=h;simpa using Fh n U (by simpa using bF)
theorem v8{w:World}{A:Nat->Nat->Prop}{b:Nat}:∀{us:List Value} {off j:Nat} {u:Value},mx w A b off us->us[j]? =some u->A b (off+j)/\w.cell? ⟨b,off+j,none⟩=some u
 |[],_,_,_,_,h=>by simp at h
 |x::us,off,0,u,av,h=>by simp at h;subst h;exact av.1
 |x::us,off,j+1,u,av,h=>by have:=v8 (j:=j) av.2 (by simpa using h);rwa[show off+1+j=off+(j+1)from by omega]at this
theorem Ib{w:World}{A:Nat->Nat->Prop}{b:Nat}:∀(n:Nat) {us:List Value} {off:Nat},mx w A b off us->mx w A b (off+n) (us.drop n)
 |0,_,_,h=>by simpa using h
 |n+1,[],_,_=>by simp[mx]
 |n+1,x::us,off,h=>by have:=Ib n h.2;rw[show off+(n+1)=off+1+n from by omega];simpa using this
theorem Ie{w:World}{A:Nat->Nat->Prop}{b:Nat}:∀(n:Nat) {us:List Value} {off:Nat},mx w A b off us->mx w A b off (us.take n)
 |0,_,_,_=>by simp[mx]
 |n+1,[],_,_=>by simp[mx]
 |n+1,x::us,off,h=>by simp only[List.take_succ_cons];exact⟨h.1,Ie n h.2⟩
theorem aoA{P:cK}{w:World}{A:Nat->Nat->Prop}{b off:Nat}{us:List Value}(h:mx w A b off us):(loadCells ⟨b,off,none⟩ us.length).run P w= .ok us.toArray w:=run_loadCells_list w _ us fun j v ag=>by rw[p4];exact(v8 h ag).2
theorem aoz{P:cK}{w:World}{b off n:Nat}{us:Array Value}{el:hh}{fr:Nat×Nat}(h:w.heap[b]? =some (.cells us el fr))(au:off+n<=us.size):
  (loadCells ⟨b,off,none⟩ n).run P w= .ok ((us.toList.drop off).take n).toArray w:=by
 have av:((us.toList.drop off).take n).length=n:=by simp;omega
 have:=run_loadCells_list (P:=P) w ⟨b,off,none⟩ ((us.toList.drop off).take n) fun j v ag=>by
  rw[p4];have aih:j<n:=by have:=(fD.1 ag).1;omega
  simp only[World.cell?,h,k1,hg,if_false];rw[List.getElem?_take]at ag;simpa[aih]using ag
 rw[av]at this;exact this
theorem TY{α:Type}(l r:List α)(n sz:Nat)(h:l.length=sz):(l++r).drop ((n+1)*sz)=r.drop (n*sz):=by
 have e:(n+1)*sz=l.length+n*sz:=by rw[h,Nat.succ_mul,Nat.add_comm]
 rw[e,<-List.drop_drop];simp
theorem aas{α:Type}(l r:List α)(n sz:Nat)(h:l.length=sz):(l++r).take ((n+1)*sz)=l++r.take (n*sz):=by
 have e:(n+1)*sz=l.length+n*sz:=by rw[h,Nat.succ_mul,Nat.add_comm]
 rw[e,List.take_length_add_append]
theorem Jh{w:World}{Z:bc}{sz:Nat}:∀(i:Nat) {xs:List aj} {us:List Value} {p:aj},dH w Z sz xs us->xs[i]? =some p->
  ∃u,a8 w Z p u/\u.cells.size=sz/\u.cells.toList=(us.drop (i*sz)).take sz
 |i,[],_,p,_,bF=>by simp at bF
 |0,x::xs,us,p,h,bF=>by
  simp only[dH]at h;obtain⟨u,cj,rfl,⟨J,U,h3⟩,_⟩:=h;simp at bF;subst bF;refine⟨u,J,U,?_⟩;have:u.cells.toList.length=sz:=by simpa using U
  simp[<-this]
 |i+1,x::xs,us,p,h,bF=>by
  simp only[dH]at h;obtain⟨u,cj,rfl,⟨_,U,_⟩,h5⟩:=h;obtain⟨v,g1,g2,g3⟩:=Jh i h5 (by simpa using bF);refine⟨v,g1,g2,?_⟩;have:u.cells.toList.length=sz:=by simpa using U
  rw[g3,TY _ _ _ _ this]
theorem uU{w:World}{Z:bc}{sz:Nat}:∀{xs:List aj} {us:List Value},dH w Z sz xs us->us.length=xs.length*sz
 |[],us,h=>by simp only[dH]at h;subst h;simp
 |x::xs,us,h=>by
  simp only[dH]at h;obtain⟨u,cj,rfl,⟨_,U,_⟩,h5⟩:=h;have:u.cells.toList.length=sz:=by simpa using U
  rw[pc,this,uU h5,mG,Nat.succ_mul];omega
theorem zL{w:World}{Z:bc}{sz:Nat}:∀{xs:List aj} {us:List Value},dH w Z sz xs us->∀c∈us,c.oneCell'=true
 |[],us,h=>by simp only[dH]at h;subst h;simp
 |x::xs,us,h=>by
  simp only[dH]at h;obtain⟨u,cj,rfl,⟨_,_,h3⟩,h5⟩:=h;intro c ao;rcases hQ.1 ao with ao|ao
  ·exact h3 c ao
  ·exact zL h5 c ao
theorem Fc{w:World}{Z:bc}{sz:Nat}:∀{cy bD:List aj} {a7 us:List Value},dH w Z sz cy a7->dH w Z sz bD us->dH w Z sz (cy++bD) (a7++us)
 |[],bD,a7,us,h,b9=>by simp only[dH]at h;subst h;simpa using b9
 |p::cy,bD,a7,us,h,b9=>by simp only[dH]at h;obtain⟨u,cj,rfl,J,U⟩:=h;simp only[bP,dH];exact⟨u,cj++us,Ψ,J,Fc U b9⟩
theorem ZP{w:World}{Z:bc}{sz:Nat}:∀(n:Nat) {xs:List aj} {us:List Value},dH w Z sz xs us->dH w Z sz (xs.drop n) (us.drop (n*sz))
 |0,_,_,h=>by simpa using h
 |n+1,[],us,h=>by simp only[dH]at h;subst h;simp[dH]
 |n+1,x::xs,us,h=>by
  simp only[dH]at h;obtain⟨u,cj,rfl,⟨_,U,_⟩,h5⟩:=h;have:u.cells.toList.length=sz:=by simpa using U
  rw[TY _ _ _ _ this];simpa using ZP n h5
theorem ZS{w:World}{Z:bc}{sz:Nat}:∀(n:Nat) {xs:List aj} {us:List Value},dH w Z sz xs us->dH w Z sz (xs.take n) (us.take (n*sz))
 |0,_,_,_=>by simp[dH]
 |n+1,[],us,h=>by simp only[dH]at h;subst h;simp[dH]
 |n+1,x::xs,us,h=>by
  simp only[dH]at h;obtain⟨u,cj,rfl,⟨J,U,h3⟩,h5⟩:=h;have:u.cells.toList.length=sz:=by simpa using U
  simp only[List.take_succ_cons,dH];refine⟨u,cj.take (n*sz),?_,⟨J,U,h3⟩,ZS n h5⟩;rw[aas _ _ _ _ this]
def isAgg(sz:Nat)(p:aj):Prop:= ∃cs,p= .agg cs/\cs.length=sz
def zQ(agg:Bool)(sz dL n i f:Nat):Option fP->Option (Prop×aj)
 |some ⟨n',_,jQ,some xs⟩=>if n'=n/\jQ=dL then
   (match xs[i]? with
    |some p=>if agg then some (e4 p=true/\f+sz<=(cells p).length,.agg (((cells p).drop f).take sz))else((cells p)[f]?).map fun q=>(e4 p=true,q)
    |none=>none)else none
 |_=>none
def nM(b:List (aL×List aj))(e:List (aL×fP))(agg:Bool)(sz:Nat):aj->Option (Prop×aj)
 | .rptr dL k n i f=>zQ agg sz dL n i f (look k e)
 | .ptr k off=>
  match look k b with
  |some cs=>if agg then some (h9 cs=true/\off+sz<=cs.length,.agg ((cs.drop off).take sz))else(cs[off]?).map fun p=>(h9 cs=true,p)
  |none=>none
 | .eptr p=>if agg then some (isAgg sz p,p)else some (e4 p=true/\cells p=[p],p)
 |_=>none
def Ds(agg:Bool)(sz:Nat):aj->Option (Prop×aj)
 | .eptr p=>if agg then some (isAgg sz p,p)else some (e4 p=true/\cells p=[p],p)
 |_=>none
theorem agt{b:List (aL×List aj)}{e:List (aL×fP)}{agg:Bool}{sz:Nat}{p:aj}{r:Prop×aj}(h:Ds agg sz p=some r):nM b e agg sz p=some r:=by
 cases p<;>simp only[Ds]at h<;>first|cases h;done|skip
 simpa only[nM]using h
theorem akj{b:List (aL×List aj)}{e:List (aL×fP)}{agg:Bool}{sz:Nat}{p:aj}{r:Prop×aj}(h:nM b [] agg sz p=some r):nM b e agg sz p=some r:=by cases p<;>simp only[nM]at h⊢ <;>first|exact h|(simp[look,zQ]at h)
def sv(off:Nat)(agg:Bool)(sz:Nat):aj->Option (Prop×aj)
 | .ptr k o=>some (True,.ptr k (o+off))
 | .rptr dL k n i f=>some (True,.rptr dL k n i (f+off))
 | .eptr (.agg cs)=>if agg then some (off+sz<=cs.length,.eptr (.agg ((cs.drop off).take sz)))else(cs[off]?).map fun p=>(e4 p=true/\cells p=[p],.eptr p)
 |_=>none
def vt(off:Nat)(agg:Bool)(sz:Nat):aj->Option (Prop×aj)
 | .agg cs=>if agg then some (off+sz<=cs.length,.agg ((cs.drop off).take sz))else(cs[off]?).map fun p=>(True,p)
 |_=>none
def Bv(sz:Nat):aj->aj->Option (Prop×aj)
 | .slice dL _ xs,.int _ i=>if dL=sz then some (0<=i/\i<xs.length,.eptr (xs.getD i.toNat .junk))else none
 | .row dL k n,.int _ i=>if dL=sz then some (0<=i/\i<n,.rptr dL k n i.toNat 0)else none
 |_,_=>none
def JD:aj->aj->Option (Prop×aj)
 | .str s,.int _ i=>some (0<=i/\i<s.length,.int .u8 (s.getD i.toNat 0).toNat)
 |_,_=>none
def rV(GL:Int):Option aj->Option Int
 |none=>some GL
 |some (.int _ i)=>some i
 |_=>none
def JI(x:aj)(lo hi:Option aj):Option (Prop×aj):=
 match x with
 | .str s=>match rV 0 lo,rV s.length hi with
  |some l,some h=>some (0<=l/\l<=h/\h<=s.length,.str ((s.take h.toNat).drop l.toNat))
  |_,_=>none
 |_=>none
def Ii(sz:Nat)(x:aj)(lo hi:Option aj):Option (Prop×aj):=
 match x with
 | .slice dL _ xs=>if dL=sz then match rV 0 lo,rV xs.length hi with
  |some l,some h=>some (0<=l/\l<=h/\h<=xs.length,.slice sz .no ((xs.take h.toNat).drop l.toNat))
  |_,_=>none else none
 |_=>none
def pJ(n:Int):Prop:= -9223372036854775808<=n/\n<=9223372036854775807
def bZ(op:BinOp)(wr:Bool)(k:IntKind)(a b:Int):Option (Prop×aj):=
 match op with
 | .add=>if wr then some (True,.int k (k.wrap (a+b)))else some (k= .i64/\pJ (a+b),.int .i64 (a+b))
 | .sub=>if wr then some (True,.int k (k.wrap (a-b)))else some (k= .i64/\pJ (a-b),.int .i64 (a-b))
 | .mul=>if wr then some (True,.int k (k.wrap (a*b)))else some (k= .i64/\pJ (a*b),.int .i64 (a*b))
 | .quo=>some (b≠0,.int k (k.wrap (a.tdiv b)))
 | .rem=>some (b≠0,.int k (a.tmod b))
 | .eql=>some (True,.bool (a==b))
 | .neq=>some (True,.bool (a !=b))
 | .lss=>some (True,.bool (decide (a<b)))
 | .leq=>some (True,.bool (decide (a<=b)))
 | .gtr=>some (True,.bool (decide (b<a)))
 | .geq=>some (True,.bool (decide (b<=a)))
 | .and=>some (True,.int k (k.wrap (mF k.bits a&&& mF k.bits b).toNat))
 | .or=>some (True,.int k (k.wrap (mF k.bits a|||mF k.bits b).toNat))
 | .xor=>some (True,.int k (k.wrap (mF k.bits a ^^^ mF k.bits b).toNat))
 |_=>none
def JJ(op:BinOp)(a b:List UInt8):Option (Prop×aj):=
 match op with
 | .add=>some (a.length+b.length<=lim,.str (a++b))
 | .eql=>some (True,.bool (a==b))
 | .neq=>some (True,.bool (!(a==b)))
 | .lss=>some (True,.bool (hP a b))
 | .leq=>some (True,.bool (hP a b||a==b))
 | .gtr=>some (True,.bool (!(hP a b||a==b)))
 | .geq=>some (True,.bool (!hP a b))
 |_=>none
def bO(op:BinOp)(wr:Bool):aj->aj->Option (Prop×aj)
 | .int k a,.int bI b=>match op with
  | .shl=>some (0<=b,.int k (k.wrap (a*2 ^ (min b.toNat k.bits))))
  | .shr=>some (0<=b,.int k (a.fdiv (2 ^ (min b.toNat k.bits))))
  |_=>if k=bI then bZ op wr k a b else none
 | .str a,.str b=>JJ op a b
 |_,_=>none
def o3(cs:List aj)(off:Nat)(cy:List aj):List aj:=cs.take off++cy++cs.drop (off+cy.length)
def vn(t:List (Nat×aj)):List aj->List (Nat×Nat×dv)->Option (Prop×List aj)
 |cs,[]=>some (True,cs)
 |cs,(off,sz,x)::r=>
  let p:=cu t x
  match vn t (o3 cs off (cells p)) r with
  |some (c,cs')=>some ((e4 p=true/\(cells p).length=sz/\off+sz<=cs.length)/\c,cs')
  |none=>none
def IK(c x y:aj):Option (Prop×aj):=
 match c with
 | .bool b=>match x,y with
  | .bool u,.bool v=>some (True,.bool (cond b u v))
  |p,q=>match b with
   |true=>some (True,p)
   |false=>some (True,q)
 |_=>none
def Iy:aj->Option (Prop×aj)
 | .bool b=>some (True,.bool (!b))
 |_=>none
def Is:aj->Option (Prop×aj)
 | .int k n=>some (True,.int k (k.wrap (0-n)))
 |_=>none
def AN(i:Nat):aj->Option (Prop×aj)
 | .tuple a7=>(a7[i]?).map fun p=>(True,p)
 |_=>none
def BI:aj->Option (Prop×aj)
 | .slice _ _ xs=>some (True,.int .i64 xs.length)
 | .row _ _ n=>some (True,.int .i64 n)
 | .cst (.slice _ n _)=>some (True,.int .i64 n)
 |_=>none
def Fv:aj->Option (Prop×aj)
 | .str s=>some (True,.int .i64 s.length)
 | .cst (.string s)=>some (True,.int .i64 s.size)
 |_=>none
def GH(k:IntKind):aj->Option (Prop×aj)
 | .int _ n=>some (True,.int k (k.wrap n))
 |_=>none
def BU:aj->Option (Prop×aj)
 | .ptr k o=>some (True,.ptr k o)
 | .eptr p=>some (True,.eptr p)
 | .func f cs=>some (True,.func f cs)
 |_=>none
def Iq:aj->aj->Option (Prop×aj)
 | .int k a,.int bI b=>if k=bI then some (True,.int k (if b<a then b else a))else none
 |_,_=>none
def kP:List Bool->List aj->List aj->Option Bool
 |[],[],[]=>some true
 |false::r,.int k a::as,.int bI b::e6=>if k=bI then(kP r as e6).map fun q=>(a==b)&&q else none
 |true::r,.str a::as,.str b::e6=>(kP r as e6).map fun q=>(a==b)&&q
 |_,_,_=>none
inductive j9 where
 |i
 |s
 |a (dQ:List Bool)
 deriving nl
def rO:j9->aj->aj->Option Bool
 | .i,.int k a,.int bI b=>if k=bI then some (a==b)else none
 | .s,.str a,.str b=>some (a==b)
 | .a dQ,.agg as,.agg e6=>kP dQ as e6
 |_,_,_=>none
def vV:j9->aj->Bool
 | .a dQ,.agg as=>(kP dQ as as).isSome
 | .a _,_=>false
 |_,_=>true
@[simp]theorem WZ(k:aj):vV .i k=true:=by cases k<;>rfl
@[simp]theorem W0(k:aj):vV .s k=true:=by cases k<;>rfl
def uL(ch:j9)(k:aj):List aj->Option (Option aj)
 |bI::v::r=>match rO ch k bI with
  |some true=>some (some v)
  |some false=>uL ch k r
  |none=>none
 |_=>some none
def nO(b:aL->Option (List aj))(ch:j9)(zero:aj)(ok:Bool)(x k:aj):Option (Prop×aj):=
 match x with
 | .gmap key=>match b key with
  |some (.hdm _ _::kvs)=>if vV ch k=false then none else match uL ch k kvs with
   |some (some v)=>some (True,if ok then .tuple [v,.bool true]else v)
   |some none=>some (True,if ok then .tuple [zero,.bool false]else zero)
   |none=>none
  |_=>none
 |_=>none
def BT(b:aL->Option (List aj))(x:aj):Option (Prop×aj):=
 match x with
 | .gmap key=>match b key with
  |some (.hdm _ borns::_)=>some (True,.int .i64 borns.length)
  |_=>none
 |_=>none
def iW(neg:Bool):Option (List Bool)->aj->aj->Option (Prop×aj)
 |none,.bool a,.bool b=>some (True,.bool (if neg then a !=b else a==b))
 |some dQ,.agg as,.agg e6=>(kP dQ as e6).map fun q=>(True,.bool (if neg then !q else q))
 |_,_,_=>none
def Im:aj->aj->Option (Prop×aj)
 | .int k a,.int bI b=>if k=bI then some (True,.int k (if a<b then b else a))else none
 |_,_=>none
def td(ch:j9)(k v:aj):List aj->Option (Option (List aj))
 |bI::v'::r=>match rO ch k bI with
  |some true=>some (some (k::v::r))
  |some false=>match td ch k v r with
   |some (some eQ)=>some (some (bI::v'::eQ))
   |some none=>some none
   |none=>none
  |none=>none
 |_=>some none
def nN(n:Nat):List Nat->List aj->Option aj
 |b::e6,k::v::r=>if b=n then some (.tuple [k,v])else nN n e6 r
 |_,_=>none
def qn(b:aL->Option (List aj))(x:aj):Option (Prop×aj):=
 match x with
 | .ptr fF 0=>match b fF with
  |some [.hdi _ seen last,.gmap mk]=>match b mk with
   |some (.hdm clock borns::kvs)=>match seen.getLast? with
    |some n=>(nN n borns kvs).map fun p=>(clock=last,p)
    |none=>none
   |_=>none
  |_=>none
 |_=>none
theorem XE{f g:aL->Option (List aj)}(h:∀k,f k≠none->g k=f k){ch:j9}{zero:aj}{ok:Bool}{x k:aj}{r:Prop×aj}(he:nO f ch zero ok x k=some r):nO g ch zero ok x k=some r:=by
 unfold nO at he⊢;split at he
 ·rename_i key;cases aN:f key with
  |none=>simp[aN]at he
  |some cs=>rw[h key (by rw[aN];simp),aN];rw[aN]at he;exact he
 ·cases he
theorem akP{f g:aL->Option (List aj)}(h:∀k,f k≠none->g k=f k){x:aj}{r:Prop×aj}(he:BT f x=some r):BT g x=some r:=by
 unfold BT at he⊢;split at he
 ·rename_i key;cases aN:f key with
  |none=>simp[aN]at he
  |some cs=>rw[h key (by rw[aN];simp),aN];rw[aN]at he;exact he
 ·cases he
theorem akw{f g:aL->Option (List aj)}(h:∀k,f k≠none->g k=f k){x:aj}{r:Prop×aj}(he:qn f x=some r):qn g x=some r:=by
 unfold qn at he⊢;split at he
 ·rename_i fF;cases aN:f fF with
  |none=>simp[aN]at he
  |some cs=>
   simp only[h fF (by rw[aN];simp),aN]at he⊢;split at he
   ·rename_i since seen last mk dj;cases vD:f mk with
    |none=>simp[vD]at he
    |some e2=>simp only[h mk (by rw[vD];simp),vD]at he⊢;exact he
   ·cases he
 ·cases he
inductive gh where
 |mov (x:dv)
 |pick (c x y:dv)
 |load (agg:Bool) (sz:Nat) (x:dv)
 |faddr (off:Nat) (agg:Bool) (sz:Nat) (x:dv)
 |fld (off:Nat) (agg:Bool) (sz:Nat) (x:dv)
 |iaddr (sz:Nat) (x i:dv)
 |sidx (x i:dv)
 |ssl (x:dv) (lo hi:Option dv)
 |lsl (sz:Nat) (x:dv) (lo hi:Option dv)
 |bin (op:BinOp) (wr:Bool) (x y:dv)
 |notB (x:dv)
 |neg (x:dv)
 |conv (k:IntKind) (x:dv)
 |ext (i:Nat) (x:dv)
 |len (x:dv)
 |slen (x:dv)
 |build (zero:List aj) (parts:List (Nat×Nat×dv))
 |nck (x:dv)
 |min2 (x y:dv)
 |mkf (n:Nat) (xs:List dv)
 |mget (ch:j9) (zero:aj) (ok:Bool) (x k:dv)
 |ment (x:dv)
 |mlen (x:dv)
 |beq (neg:Bool) (dQ:Option (List Bool)) (x y:dv)
 |max2 (x y:dv)
 |mkif (t:Nat) (x:dv)
 |loadB (agg:Bool) (sz:Nat) (x:dv)
 |mgetB (ch:j9) (zero:aj) (ok:Bool) (x k:dv)
 |loadZ (agg:Bool) (sz:Nat) (x:dv)
def hE(st:bn):gh->Option (Prop×aj)
 | .mov x=>some (True,cu st.t x)
 | .pick c x y=>IK (cu st.t c) (cu st.t x) (cu st.t y)
 | .load agg sz x=>nM st.b st.e agg sz (cu st.t x)
 | .faddr off agg sz x=>sv off agg sz (cu st.t x)
 | .fld off agg sz x=>vt off agg sz (cu st.t x)
 | .iaddr sz x i=>Bv sz (cu st.t x) (cu st.t i)
 | .sidx x i=>JD (cu st.t x) (cu st.t i)
 | .ssl x lo hi=>JI (cu st.t x) (lo.map (cu st.t)) (hi.map (cu st.t))
 | .lsl sz x lo hi=>Ii sz (cu st.t x) (lo.map (cu st.t)) (hi.map (cu st.t))
 | .bin op wr x y=>bO op wr (cu st.t x) (cu st.t y)
 | .notB x=>Iy (cu st.t x)
 | .neg x=>Is (cu st.t x)
 | .conv k x=>GH k (cu st.t x)
 | .ext i x=>AN i (cu st.t x)
 | .len x=>BI (cu st.t x)
 | .slen x=>Fv (cu st.t x)
 | .build zero parts=>(vn st.t zero parts).map fun(c,cs)=>(c,.agg cs)
 | .nck x=>BU (cu st.t x)
 | .min2 x y=>Iq (cu st.t x) (cu st.t y)
 | .mkf n xs=>some (True,.func n (xs.map (cu st.t)))
 | .mget ch zero ok x k=>nO (fun k=>look k st.b) ch zero ok (cu st.t x) (cu st.t k)
 | .ment x=>qn (fun k=>look k st.b) (cu st.t x)
 | .mlen x=>BT (fun k=>look k st.b) (cu st.t x)
 | .beq neg dQ x y=>iW neg dQ (cu st.t x) (cu st.t y)
 | .max2 x y=>Im (cu st.t x) (cu st.t y)
 | .mkif t x=>some (True,.iface t (cu st.t x))
 | .loadB agg sz x=>nM st.b [] agg sz (cu st.t x)
 | .mgetB ch zero ok x k=>nO (fun k=>look k st.b) ch zero ok (cu st.t x) (cu st.t k)
 | .loadZ agg sz x=>Ds agg sz (cu st.t x)
def B7(bC:List (Nat×dy))(dQ:List (Nat×Nat)):List (Nat×Nat×dv)->List (Nat×Operand)->Bool
 |[],[]=>true
 |(off,sz,x)::r,(i,o)::s=>(match dQ[i]? with|some (xN,t)=>off==xN&&((ej bC t).map (·.size))==some sz|none=>false)&&er x o&&B7 bC dQ r s
 |_,_=>false
def Ka:aj->aj->Bool
 | .int k n,.int bI n'=>decide (k=bI/\n=n')
 | .bool b,.bool b3=>b==b3
 | .str [],.str []=>true
 | .slice a .nil [],.slice b .nil []=>a==b
 | .nilp,.nilp=>true
 | .junk,.junk=>true
 |_,_=>false
def Ag:List aj->List aj->Bool
 |[],[]=>true
 |c::cs,d::e2=>Ka c d&&Ag cs e2
 |_,_=>false
def CN:aj->aj->Bool
 | .agg cs,.agg e2=>Ag cs e2
 | .agg _,_=>false
 |p,q=>Ka p q
def zC:List dv->List Operand->Bool
 |[],[]=>true
 |x::xs,o::os=>er x o&&zC xs os
 |_,_=>false
def AU(bC:List (Nat×dy)):Nat->List Bool->List (Nat×Nat)->Bool
 |_,[],[]=>true
 |n,b::r,(off,t)::dQ=>off==n&&(match ej bC t with|some ⟨_,_,.int _,_⟩=> !b|some ⟨_,_,.str,_⟩=>b|_=>false)&&AU bC (n+1) r dQ
 |_,_,_=>false
def G1(bC:List (Nat×dy))(dQ:List Bool)(t:Nat):Bool:=match ej bC t with
 |some ⟨_,_,.struct gs,_⟩=>AU bC 0 dQ gs
 |_=>false
def zi(bC:List (Nat×dy))(ch:j9)(t:Nat):Bool:=match ch with
 | .i=>(match ej bC t with|some ⟨_,_,.int _,_⟩=>true|_=>false)
 | .s=>(match ej bC t with|some ⟨_,_,.str,_⟩=>true|_=>false)
 | .a dQ=>G1 bC dQ t
def QG:List aj->aj->Bool
 |cs,.agg e2=>Ag cs e2
 |_,_=>false
def xP:Option dv->Option Operand->Bool
 |none,none=>true
 |some x,some o=>er x o
 |_,_=>false
def FE(bC:List (Nat×dy)):gh->Op->Bool
 | .mov x,.move o=>er x o
 | .mov x,.assign o=>er x o
 | .pick c x y,.pick cq J5 J7=>er c cq&&er x J5&&er y J7
 | .load agg sz x,.load t o=>(match ej bC t with|some f=>f.size==sz&&f.kind.isAgg==agg|none=>false)&&er x o
 | .faddr off agg sz x,.fieldAddr s o i=>
  (match ej bC s with
   |some ⟨_,_,.struct dQ,_⟩=>(match dQ[i]? with|some (xN,t)=>off==xN&&(match ej bC t with|some f=>f.size==sz&&f.kind.isAgg==agg&&sz !=0|none=>false)|none=>false)
   |_=>false)&&er x o
 | .fld off agg sz x,.field s o i=>
  (match ej bC s with
   |some ⟨_,_,.struct dQ,_⟩=>(match dQ[i]? with|some (xN,t)=>off==xN&&(match ej bC t with|some f=>f.size==sz&&f.kind.isAgg==agg|none=>false)|none=>false)
   |_=>false)&&er x o
 | .iaddr sz x i,.indexAddr t o j=>(match ej bC t with|some ⟨_,_,.slice e,_⟩=>(match ej bC e with|some f=>f.size==sz|none=>false)|_=>false)&&er x o&&er i j
 | .sidx x i,.index t o j=>(match ej bC t with|some ⟨_,_,.str,_⟩=>true|_=>false)&&er x o&&er i j
 | .ssl x lo hi,.slice t o l h none=>(match ej bC t with|some ⟨_,_,.str,_⟩=>true|_=>false)&&er x o&&xP lo l&&xP hi h
 | .lsl sz x lo hi,.slice t o l h none=>(match ej bC t with|some ⟨_,_,.slice e,_⟩=>(match ej bC e with|some f=>f.size==sz|none=>false)|_=>false)&&er x o&&xP lo l&&xP hi h
 | .bin op _ x y,.binOp Yw _ o o' _=>decide (op=Yw)&&er x o&&er y o'
 | .notB x,.unOp op _ o=>decide (op= .not)&&er x o
 | .neg x,.unOp op _ o=>decide (op= .neg)&&er x o
 | .conv k x,.convert s d o=>(match ej bC s,ej bC d with|some ⟨_,_,.int _,_⟩,some ⟨_,_,.int bI,_⟩=>decide (k=bI)|_,_=>false)&&er x o
 | .ext i x,.extract o j=>i==j&&er x o
 | .len x,.call ⟨.builtin .len,⟨[o]⟩,⟨[t]⟩⟩=>(match ej bC t with|some ⟨_,_,.slice _,_⟩=>true|_=>false)&&er x o
 | .slen x,.call ⟨.builtin .len,⟨[o]⟩,⟨[t]⟩⟩=>(match ej bC t with|some ⟨_,_,.str,_⟩=>true|_=>false)&&er x o
 | .build zero parts,.build t cy=>(match ej bC t with|some ⟨_,_,.struct dQ,z⟩=>QG zero z&&(dQ.all fun x=>(ej bC x.2).isSome)&&B7 bC dQ parts cy.toList|_=>false)
 | .nck x,.nilCheck o=>er x o
 | .min2 x y,.call ⟨.builtin .min,⟨[o,o']⟩,⟨[_,_]⟩⟩=>er x o&&er y o'
 | .mkf n xs,.makeFunc (.func m) ⟨[]⟩ os=>n==m&&zC xs os.toList
 | .mget ch zero ok x k,.lookup t o o' Iz=>ok==Iz&&(match ej bC t with|some ⟨_,_,.map nL qc,_⟩=>zi bC ch nL&&(match ej bC qc with|some f=>CN zero f.zero|none=>false)|_=>false)&&er x o&&er k o'
 | .ment x,.entry o=>er x o
 | .mlen x,.call ⟨.builtin .len,⟨[o]⟩,⟨[t]⟩⟩=>(match ej bC t with|some ⟨_,_,.map _ _,_⟩=>true|_=>false)&&er x o
 | .beq neg dQ x y,.binOp op t o o' _=>decide (op=if neg then .neq else .eql)&&(match dQ with|none=>(match ej bC t with|some ⟨_,_,.bool,_⟩=>true|_=>false)|some dQ=>G1 bC dQ t)&&er x o&&er y o'
 | .max2 x y,.call ⟨.builtin .max,⟨[o,o']⟩,⟨[_,_]⟩⟩=>er x o&&er y o'
 | .mkif t x,.makeInterface du o=>t==du&&(match ej bC t with|some ⟨_,_,.slice _,_⟩=>true|_=>false)&&er x o
 | .loadB agg sz x,.load t o=>(match ej bC t with|some f=>f.size==sz&&f.kind.isAgg==agg|none=>false)&&er x o
 | .loadZ agg sz x,.load t o=>(match ej bC t with|some f=>f.size==sz&&f.kind.isAgg==agg|none=>false)&&er x o
 | .mgetB ch zero ok x k,.lookup t o o' Iz=>ok==Iz&&(match ej bC t with|some ⟨_,_,.map nL qc,_⟩=>zi bC ch nL&&(match ej bC qc with|some f=>CN zero f.zero|none=>false)|_=>false)&&er x o&&er k o'
 |_,_=>false
end
section
open Go Go.RowKit
theorem Lw(P:cK)(w:World)(op:BinOp)(t:hh)(x y:Operand)(k bI:IntKind)(m n:Int):(eqGuard op t x y (.int k m) (.int bI n)).run P w= .ok () w:=by cases op<;>rfl
theorem adl(P:cK)(w:World)(op:BinOp)(t:hh)(x y:Operand)(m n:ByteArray):(eqGuard op t x y (.string m) (.string n)).run P w= .ok () w:=by cases op<;>rfl
theorem apu(l:List UInt8):(⟨l.toArray⟩:ByteArray).toList=l:=by simp
theorem acw(a b:List UInt8):(⟨a.toArray⟩:ByteArray)++(⟨b.toArray⟩:ByteArray)=⟨(a++b).toArray⟩:=by apply aq1;simp
theorem aef(a:List UInt8)(l h:Nat):(⟨a.toArray⟩:ByteArray).extract l h=⟨((a.take h).drop l).toArray⟩:=by apply aq1;simp[List.drop_take]
theorem Fu(a:List UInt8):(⟨a.toArray⟩:ByteArray).size=a.length:=by simp[avo]
section
variable {P:cK} {w:World} {r:Sem Value}
theorem sx{k:IntKind}{x:Int}(h:r.run P w= .ok (.int k x) w):∃v,r.run P w= .ok v w/\∀Z,a8 w Z (.int k x) v:=⟨_,h,fun Z=>by simp[a8]⟩
theorem U9{x:Bool}(h:r.run P w= .ok (.bool x) w):∃v,r.run P w= .ok v w/\∀Z,a8 w Z (.bool x) v:=⟨_,h,fun Z=>by simp[a8]⟩
end
theorem ajt(P:cK)(w:World){op:BinOp}{wr:Bool}{k:IntKind}{a b:Int}{c:Prop}{p:aj}(he:bZ op wr k a b=some (c,p))(ao:c)(t:hh):
  ∃v,(binOp op t (.int k a) (.int k b)).run P w= .ok v w/\∀Z,a8 w Z p v:=by
 cases op<;>simp only[bZ]at he;case add=>
  cases wr<;>simp only[if_true,hg,if_false]at he<;>cases he
  ·obtain⟨rfl,h⟩:=ao;exact sx (by simp[binOp,Op.intArith,nm _ h])
  ·exact sx (by simp[binOp,Op.intArith])
 case sub=>
  cases wr<;>simp only[if_true,hg,if_false]at he<;>cases he
  ·obtain⟨rfl,h⟩:=ao;exact sx (by simp[binOp,Op.intArith,nm _ h])
  ·exact sx (by simp[binOp,Op.intArith])
 case mul=>
  cases wr<;>simp only[if_true,hg,if_false]at he<;>cases he
  ·obtain⟨rfl,h⟩:=ao;exact sx (by simp[binOp,Op.intArith,nm _ h])
  ·exact sx (by simp[binOp,Op.intArith])
 case quo=>cases he;exact sx (by simp[binOp,Op.intDiv,ao])
 case rem=>cases he;exact sx (by simp[binOp,Op.intDiv,ao])
 case and=>cases he;exact sx (by simp only[binOp,Op.intBits,ne_eq,not_true_eq_false,if_false,gC])
 case or=>cases he;exact sx (by simp only[binOp,Op.intBits,ne_eq,not_true_eq_false,if_false,gC])
 case xor=>cases he;exact sx (by simp only[binOp,Op.intBits,ne_eq,not_true_eq_false,if_false,gC])
 all_goals cases he
 all_goals exact U9 (by simp only[binOp,Op.intCmp,ne_eq,not_true_eq_false,if_false,gC,gt_iff_lt,ge_iff_le])
theorem ape(P:cK)(w:World){op:BinOp}{a b:List UInt8}{c:Prop}{p:aj}(he:JJ op a b=some (c,p))(ao:c)(t:hh):
  ∃v,(binOp op t (.string ⟨a.toArray⟩) (.string ⟨b.toArray⟩)).run P w= .ok v w/\∀Z,a8 w Z p v:=by
 cases op<;>simp only[JJ]at he;case add=>
  cases he;refine⟨.string ⟨(a++b).toArray⟩,?_,fun Z=>by simp only[a8];exact⟨trivial,by simpa using ao⟩⟩;have J:¬(((⟨a.toArray⟩:ByteArray).size+(⟨b.toArray⟩:ByteArray).size:Nat):Int)>nT.max:=by
   have:nT.max=9223372036854775807:=by decide
   rw[this,Fu,Fu];simp only[lim]at ao;omega
  simp only[binOp,Op.stringOp,J,if_false,gC,acw]
 all_goals cases he
 all_goals exact U9 (by simp only[binOp,Op.stringOp,apu,gC])
theorem acL(P:cK)(w:World)(Z:bc){op:BinOp}{wr:Bool}{x y:aj}{c:Prop}{p:aj}(he:bO op wr x y=some (c,p))(ao:c)(t:hh){u v:Value}(hu:a8 w Z x u)(az:a8 w Z y v)(o o':Operand):
  ∃r,(do eqGuard op t o o' u v;binOp op t u v).run P w= .ok r w/\a8 w Z p r:=by
 unfold bO at he;split at he
 ·rename_i k a bI b;simp only[a8]at hu az;subst hu;subst az;split at he
  ·cases he;refine⟨_,?_,by simp[a8];rfl⟩;simp[binOp,Op.shift,Lw,Int.not_lt.2 ao]
  ·cases he;refine⟨_,?_,by simp[a8];rfl⟩;simp[binOp,Op.shift,Lw,Int.not_lt.2 ao]
  ·split at he
   ·rename_i ae;subst ae;obtain⟨r,J,U⟩:=ajt P w he ao t;exact⟨r,by simp[Lw,J],U Z⟩
   ·cases he
 ·simp only[a8]at hu az;rw[hu.1,az.1];obtain⟨r,J,U⟩:=ape P w he ao t;exact⟨r,by simp[adl,J],U Z⟩
 ·cases he
theorem LP{w:World}{Z:bc}:∀(v:List Value) (i off:Nat) (cs:Array Value),off+i+v.length<=cs.size->
  ((v.zipIdx i).foldl (fun cs (x:Value×Nat)=>cs.setIfInBounds (off+x.2) x.1) cs).toList=cs.toList.take (off+i)++v++cs.toList.drop (off+i+v.length)
 |[],i,off,cs,_=>by simp
 |u::v,i,off,cs,h=>by
  simp only[List.zipIdx_cons,List.foldl_cons];rw[LP (w:=w) (Z:=Z) v (i+1) off _ (by simp at h⊢;omega)];have bs:off+i<cs.toList.length:=by simp at h⊢;omega
  simp only[Array.toList_setIfInBounds];have aq:(cs.toList.set (off+i) u).take (off+(i+1))=cs.toList.take (off+i)++[u]:=by rw[show off+(i+1)=(off+i)+1 from by omega,List.take_succ_eq_append_getElem (by simpa using bs)];simp[List.take_set_of_le (dZ _)]
  have aF:(cs.toList.set (off+i) u).drop (off+(i+1)+v.length)=cs.toList.drop (off+i+(u::v).length):=by rw[List.drop_set_of_lt Ω];congr 1;simp;omega
  rw[aq,aF];simp
theorem Z5{w:World}{Z:bc}{C:fp}{st:bn}{a:Act}(aM:c2 C st a w Z){bC:List (Nat×dy)}{dQ:List (Nat×Nat)}{places:List (Nat×Nat)}
  (bF:∀(i off t sz:Nat),dQ[i]? =some (off,t)->(ej bC t).map (·.size)=some sz->places[i]? =some (off,sz)):
  ∀(parts:List (Nat×Nat×dv)) (cy:List (Nat×Operand)) (cs:List aj) (us:Array Value) (c:Prop) (cs':List aj),B7 bC dQ parts cy=true->dm w Z cs us.toList->vn st.t cs parts=some (c,cs')->c->
  ∃cj:Array Value,Instr.fill (places.toArray[·]?) us (cy.map fun(x:Nat×Operand)=>(x.1,a.eval x.2))=some cj/\dm w Z cs' cj.toList
 |[],[],cs,us,c,cs',_,h,he,ao=>by simp only[vn]at he;cases he;exact⟨us,by simp[Instr.fill],h⟩
 |[],_::_,_,_,_,_,eh,_,_,_=>by simp[B7]at eh
 |_::_,[],_,_,_,_,eh,_,_,_=>by simp[B7]at eh
 |(off,sz,x)::parts,(i,o)::cy,cs,us,c,cs',eh,h,he,ao=>by
  simp only[B7,cr]at eh;obtain⟨⟨J,U⟩,h3⟩:=eh;split at J
  ·rename_i xN t DM;simp only[cr,dM]at J;obtain⟨rfl,J⟩:=J;have uq:=bF i off t sz DM J;simp only[vn]at he;split at he
   ·rename_i cq ar8 ad;cases he;obtain⟨⟨af,av,hle⟩,hx⟩:=ao;have ab:=et aM U;have kf:=wx ab af;have hlen:=qu kf;have sT:=qu h;have lf:(a.eval o).cells.size=sz:=by have:(a.eval o).cells.toList.length=(cells (cu st.t x)).length:=hlen;rw[av]at this;simpa using this
    have rL:us.size=cs.length:=by simpa using sT
    have y9:=LP (w:=w) (Z:=Z) (a.eval o).cells.toList 0 off us (by simp[lf,rL];omega);have mq:dm w Z (o3 cs off (cells (cu st.t x))) ((((a.eval o).cells.toList.zipIdx 0).foldl (fun cs (x:Value×Nat)=>cs.setIfInBounds (off+x.2) x.1) us).toList):=by rw[y9];unfold o3;refine zM (zM (Ff off h) kf) ?_;rw[Nat.add_zero,hlen];exact Cm _ h
    obtain⟨cj,g1,g2⟩:=Z5 aM bF parts cy _ _ cq cs' h3 mq ad hx;refine⟨cj,?_,g2⟩;simp only[gZ,Instr.fill,List.getElem?_toArray,uq];rw[if_neg (by simp[lf,rL];omega)];rw[<-g1];simp only[List.getElem?_toArray];congr 1;rw[<-Array.foldl_toList];simp
   ·cases he
  ·cases J
end
section
open Go Go.RowKit
theorem wE{P:cK}{bC:List (Nat×dy)}(aI:fJ P bC=true){t:Nat}{f:dy}(aN:ej bC t=some f)(w:World):
  (Go.isAgg t).run P w= .ok f.kind.isAgg w/\(sizeOf t).run P w= .ok f.size w:=by
 obtain⟨i,d,z,J,U,h3,h4,h5,c9,dX,jD⟩:=(wF aI aN).ex;refine⟨?_,by simp[sizeOf,typeInfo,J,h3]⟩;simp only[Go.isAgg,fU,run_underlying U,fZ];cases ae:f.kind<;>rw[ae]at h5<;>cases d<;>simp[kQ]at h5<;>simp[CT.isAgg]
theorem jw{P:cK}{bC:List (Nat×dy)}(aI:fJ P bC=true){t:Nat}{f:dy}(aN:ej bC t=some f):∃d,P.underlying t=some d/\kQ f.kind d=true:=by obtain⟨i,d,z,J,U,h3,h4,h5,c9,dX,jD⟩:=(wF aI aN).ex;exact⟨d,U,h5⟩
theorem tT{e:Nat}{d:TypeDesc}(h:kQ (.slice e) d=true):d= .slice e:=by cases d<;>simp[kQ]at h;subst h;rfl
theorem AJ{d:TypeDesc}(h:kQ .str d=true):d= .string:=by cases d<;>simp[kQ]at h;rfl
theorem GK{k:IntKind}{d:TypeDesc}(h:kQ (.int k) d=true):d= .int k:=by cases d<;>simp[kQ]at h;subst h;rfl
theorem Li{dQ:List (Nat×Nat)}{d:TypeDesc}(h:kQ (.struct dQ) d=true):∃gs:Array Field,d= .struct gs/\gs.toList.map (fun f=>(f.offset,f.type))=dQ:=by cases d<;>simp[kQ]at h;rename_i gs;exact⟨gs,rfl,by simpa using h⟩
theorem Jk{w:World}{Z:bc}{cs:List aj}{us:List Value}(h:dm w Z cs us)(off sz:Nat):dm w Z ((cs.drop off).take sz) ((us.drop off).take sz):=Ff sz (Cm off h)
theorem YB{w:World}{base el sz n:Nat}{v:Value}{us:List Value}(h:w.ownsRow base el sz v n us){b:Nat}(ad:v.ownBlock=some b):∃cap,v= .slice (some ⟨b,0,none⟩) n cap:=by
 rcases h.2 with⟨rfl,_⟩|⟨g,cap,cur,rfl,_⟩
 ·simp[pb]at ad
 ·simp[pb]at ad;subst ad;exact⟨cap,rfl⟩
theorem Good.rowElem{pr:Nat->Prop}{w:World}{Z:bc}{b:List (aL×List aj)}{e:List (aL×fP)}(aW:Good pr w Z b e){k:aL}{n el sz:Nat}{xs:List aj}(ae:look k e=some ⟨n,el,sz,some xs⟩){i f:Nat}{u:Value}(ab:a8 w Z (.rptr sz k n i f) u){p:aj}(bF:xs[i]? =some p):
  ∃(v:Value) (us:List Value) (gj:Nat),a8 w Z p v/\v.cells.size=sz/\∃b o,u= .pointer (some ⟨b,o,none⟩)/\∀j c,v.cells.toList[f+j]? =some c->w.cell? ⟨b,o+j,none⟩=some c:=by
 simp only[a8]at ab;obtain⟨_,hi,n',fl,J,U,h3⟩:=ab;obtain⟨v,us,a1,bm,bW,cZ⟩:=aW.own k _ ae;rw[J]at a1;simp only[dE,j7]at a1;obtain⟨rfl,rfl⟩:=a1;obtain⟨bl,ad,rfl⟩:=h3 rfl;obtain⟨cap,rfl⟩:=YB bm ad;obtain⟨av,mq,_⟩:=cZ xs rfl;simp only at av mq;obtain⟨v,eu,fe,qs⟩:=Jh i mq bF;refine⟨v,us,el,eu,fe,bl,_,rfl,fun j c ag=>?_⟩;have bs:f+j<sz:=by have:=(fD.1 ag).1;simp[fe]at this;exact this
 have hmul:i*sz+sz<=n'*sz:=by have:=rh sz (show i+1<=n' from hi);rwa[Nat.succ_mul]at this
 have ao:=bm.cellAt (i*sz+f+j) (by show _<n'*sz;omega);rw[ao];rw[qs,List.getElem?_take,if_pos bs,List.getElem?_drop]at ag;rw[<-ag];congr 1;omega
theorem Ih{P:cK}{bC:List (Nat×dy)}(aI:fJ P bC=true){pr:Nat->Prop}{w:World}{Z:bc}{b:List (aL×List aj)}{e:List (aL×fP)}(aW:Good pr w Z b e){t:Nat}{f:dy}(aN:ej bC t=some f)
  {x:aj} {u:Value} (ab:a8 w Z x u) {c:Prop} {p:aj} (he:nM b e f.kind.isAgg f.size x=some (c,p)) (ao:c):∃v,(Instr.loadAt t u).run P w= .ok v w/\a8 w Z p v:=by
 obtain⟨bg,af⟩:=wE aI aN w;generalize He:f.kind.isAgg=gG at*;generalize dS:f.size=sz at*;unfold nM at he;split at he
 ·rename_i dL k n i tY;unfold zQ at he;split at he
  ·rename_i n' el jQ xs ae;split at he
   ·rename_i au;obtain⟨rfl,rfl⟩:=au;split at he
    ·rename_i anb aiO;obtain⟨Qv,us,gj,g1,g2,nB⟩:=Good.rowElem aW ae ab aiO;have iy:e4 anb=true:=by
      cases gG
      ·simp only[hg,if_false,gv]at he;obtain⟨q,_,he⟩:=he;cases he;exact ao
      ·simp only[if_true]at he;cases he;exact ao.1
     have dj:=wx g1 iy;cases gG
     ·simp only[hg,if_false,gv]at he;obtain⟨q,bE,he⟩:=he;cases he;obtain⟨v,f1,f2,f3⟩:=Fe tY dj bE;refine⟨v,?_,f2⟩;obtain⟨b,o,rfl,nB⟩:=nB;have:=nB 0 v (by simpa using f1);simp only[Nat.add_zero]at this;simp[Instr.loadAt,Instr.sureAddr,loadVar,bg,this]
     ·simp only[if_true]at he;cases he;obtain⟨b,o,rfl,nB⟩:=nB;refine⟨.agg ((Qv.cells.toList.drop tY).take sz).toArray,?_,by simp only[a8];exact⟨_,rfl,by simpa using Jk dj tY sz⟩⟩;have av:=qu dj;have hlen:((Qv.cells.toList.drop tY).take sz).length=sz:=by simp only[List.length_take,tG];omega
      have iI:=run_loadCells_list (P:=P) w ⟨b,o,none⟩ ((Qv.cells.toList.drop tY).take sz) (fun j v ag=>by
       rw[p4];refine nB j v ?_;rw[List.getElem?_take]at ag;split at ag
       ·simpa[List.getElem?_drop]using ag
       ·cases ag)
      rw[hlen]at iI;simp only[Instr.loadAt,Instr.sureAddr,loadVar,fU,gC,fZ,bg,if_true,af,iI]
    ·cases he
   ·cases he
  ·cases he
 ·rename_i k off;simp only[a8]at ab;obtain⟨bl,J,rfl⟩:=ab;split at he
  ·rename_i cs ae;obtain⟨iX,us,el,g1,g2,g3,g4,g5⟩:=aW.box k cs ae;rw[J]at g1;cases g1;have uq:h9 cs=true:=by
    cases gG
    ·simp only[hg,if_false,gv]at he;obtain⟨q,bE,he⟩:=he;cases he;exact ao
    ·simp only[if_true]at he;cases he;exact ao.1
   rw[wj uq]at g4;rw[wk uq]at g5;have av:=qu g5;cases gG
   ·simp only[hg,if_false,gv]at he;obtain⟨q,bE,he⟩:=he;cases he;obtain⟨v,f1,f2,f3⟩:=Fe off g5 bE;refine⟨v,?_,f2⟩;have nB:w.cell? ⟨bl,off,none⟩=some v:=by simpa[World.cell?,g4]using f1
    simp[Instr.loadAt,Instr.sureAddr,loadVar,bg,nB]
   ·simp only[if_true]at he;cases he;replace ao:=ao.2;refine⟨_,?_,by simp only[a8];exact⟨_,rfl,by simpa using Jk g5 off sz⟩⟩;simp only[Instr.loadAt,Instr.sureAddr,loadVar,fU,gC,fZ,bg,if_true,af];rw[aoz g4 (by simp at av;omega)];rfl
  ·cases he
 ·rename_i q;simp only[a8]at ab;obtain⟨bl,off,fl,rfl,U,h3⟩:=ab;cases gG
  ·simp only[hg,if_false]at he;cases he;obtain⟨DH,vB⟩:=ao;obtain⟨g1,g2⟩:=Pn U DH (fun cs e=>by subst e;have:=eW List.length vB;simp only[cells,mG,List.length_nil]at this;cases cs with
    |nil=>simp[cells]at vB
    |cons y ys=>simp only[cells,yk]at vB;obtain⟨aq,aF⟩:=vB;subst aF;have:=eW SizeOf.sizeOf aq;simp at this;omega)
   refine⟨fl,?_,U⟩;rw[g2]at h3;have nB:=h3.1.2;simp[Instr.loadAt,Instr.sureAddr,loadVar,bg,nB]
  ·simp only[if_true]at he;cases he;obtain⟨cs,rfl,hlen⟩:=ao;simp only[a8]at U;obtain⟨us,rfl,h4⟩:=U;refine⟨.agg us,?_,by simp only[a8];exact⟨us,rfl,h4⟩⟩;simp only[pX]at h3;have av:=qu h4;have:=aoA (P:=P) h3;rw[show us.toList.length=sz from by omega]at this;simp[Instr.loadAt,Instr.sureAddr,loadVar,bg,af,this]
 ·cases he
theorem age{P:cK}{bC:List (Nat×dy)}(aI:fJ P bC=true){w:World}{Z:bc}{s i:Nat}{f:dy}{dQ:List (Nat×Nat)}(aN:ej bC s=some f)(ae:f.kind= .struct dQ){off t:Nat}{g:dy}(hi:dQ[i]? =some (off,t))(aW:ej bC t=some g)(bz:g.size≠0)
  {x:aj} {u:Value} (ab:a8 w Z x u) {c:Prop} {p:aj} (he:sv off g.kind.isAgg g.size x=some (c,p)) (ao:c):∃v,(Instr.fieldAt s u i).run P w= .ok v w/\a8 w Z p v:=by
 obtain⟨d,aG,fc⟩:=jw aI aN;rw[ae]at fc;obtain⟨gs,rfl,kt⟩:=Li fc;have rH:∃fd:Field,gs[i]? =some fd/\fd.offset=off/\fd.type=t:=by rw[<-kt]at hi;simp only[List.getElem?_map,gv]at hi;obtain⟨fd,J,U⟩:=hi;simp only[j7]at U;exact⟨fd,by simpa using J,U.1,U.2⟩
 obtain⟨fd,Hm,ay,pG⟩:=rH;obtain⟨bg,af⟩:=wE aI aW w;have iI:∀b o,(Instr.fieldAt s (.pointer (some ⟨b,o,none⟩)) i).run P w= .ok (.pointer (some ⟨b,o+off,none⟩)) w:=by intro b o;simp[Instr.fieldAt,run_underlying aG,Hm,Instr.sureAddr,fieldPlace,pG,af,bz,p4,ay]
 unfold sv at he;split at he
 ·cases he;simp only[a8]at ab;obtain⟨b,J,rfl⟩:=ab;exact⟨_,iI _ _,by simp only[a8];exact⟨b,J,rfl⟩⟩
 ·cases he;simp only[a8]at ab;obtain⟨⟨b,o,rfl⟩,hi,n',fl,J,U,h3⟩:=ab;refine⟨_,iI _ _,?_⟩;simp only[a8];refine⟨⟨b,_,rfl⟩,hi,n',fl,J,U,fun e=>?_⟩;obtain⟨b3,aq,aF⟩:=h3 e;simp only[avv,dE,Addr.mk.injEq,and_true]at aF;obtain⟨rfl,rfl⟩:=aF;exact⟨b,aq,by rw[Nat.add_assoc]⟩
 ·rename_i cs;simp only[a8]at ab;obtain⟨b,o,fl,rfl,⟨us,rfl,U⟩,h3⟩:=ab;refine⟨_,iI _ _,?_⟩;simp only[pX]at h3;split at he
  ·cases he;simp only[a8];exact⟨b,o+off,.agg ((us.toList.drop off).take g.size).toArray,rfl,⟨_,rfl,by simpa using Jk U off g.size⟩,by simpa[pX]using Ie g.size (Ib off h3)⟩
  ·simp only[gv]at he;obtain⟨q,bE,he⟩:=he;cases he;obtain⟨v,f1,f2,f3⟩:=Fe off U bE;simp only[a8];have aiv:=v8 h3 f1;have aja:v.cells= #[v]:=by cases v<;>first|rfl|cases f3
   exact⟨b,o+off,v,rfl,f2,by rw[aja];exact⟨aiv,trivial⟩⟩
 ·cases he
theorem agm{P:cK}{bC:List (Nat×dy)}(aI:fJ P bC=true){w:World}{Z:bc}{s i:Nat}{f:dy}{dQ:List (Nat×Nat)}(aN:ej bC s=some f)(ae:f.kind= .struct dQ){off t:Nat}{g:dy}(hi:dQ[i]? =some (off,t))(aW:ej bC t=some g)
  {x:aj} {u:Value} (ab:a8 w Z x u) {c:Prop} {p:aj} (he:vt off g.kind.isAgg g.size x=some (c,p)) (ao:c):∃v,(Instr.field s u i).run P w= .ok v w/\a8 w Z p v:=by
 obtain⟨d,aG,fc⟩:=jw aI aN;rw[ae]at fc;obtain⟨gs,rfl,kt⟩:=Li fc;have rH:∃fd:Field,gs[i]? =some fd/\fd.offset=off/\fd.type=t:=by rw[<-kt]at hi;simp only[List.getElem?_map,gv]at hi;obtain⟨fd,J,U⟩:=hi;simp only[j7]at U;exact⟨fd,by simpa using J,U.1,U.2⟩
 obtain⟨fd,Hm,ay,pG⟩:=rH;obtain⟨bg,af⟩:=wE aI aW w;unfold vt at he;split at he
 ·rename_i cs;simp only[a8]at ab;obtain⟨us,rfl,U⟩:=ab;generalize He:g.kind.isAgg=gG at*;cases gG
  ·simp only[hg,if_false,gv]at he;obtain⟨q,bE,he⟩:=he;cases he;obtain⟨v,f1,f2,f3⟩:=Fe off U bE;have aeg:us[off]? =some v:=by simpa using f1
   exact⟨v,by simp[Instr.field,run_underlying aG,Hm,asAgg,part,pG,bg,ay,aeg],f2⟩
  ·simp only[if_true]at he;cases he;refine⟨.agg (us.extract off (off+g.size)),by simp[Instr.field,run_underlying aG,Hm,asAgg,part,pG,bg,ay,af],?_⟩;simp only[a8];refine⟨_,rfl,?_⟩;have:=Jk U off g.size;simpa[List.take_drop]using this
 ·cases he
theorem ajn{P:cK}{bC:List (Nat×dy)}(aI:fJ P bC=true){w:World}{Z:bc}{t e:Nat}{f g:dy}(aN:ej bC t=some f)(ae:f.kind= .slice e)(aW:ej bC e=some g)
  {x y:aj} {u v:Value} (ab:a8 w Z x u) (aC:a8 w Z y v) {c:Prop} {p:aj} (he:Bv g.size x y=some (c,p)) (ao:c):∃r,(Instr.indexAt t u v).run P w= .ok r w/\a8 w Z p r:=by
 obtain⟨d,aG,fc⟩:=jw aI aN;rw[ae]at fc;obtain rfl:=tT fc;obtain⟨bg,af⟩:=wE aI aW w;unfold Bv at he;split at he
 ·rename_i dL tag xs k i;split at he
  ·rename_i dS;cases he;simp only[a8]at ab aC;subst aC;subst dS;obtain⟨⟨a,cap,rfl,J,U,h3⟩,_⟩:=ab;obtain⟨DR,mR⟩:=ao;have gU:i.toNat<xs.length:=Ω
   rcases h3 with rfl|⟨b,off,us,rfl,h4,h5⟩
   ·simp at gU
   ·have ab:xs[i.toNat]? =some xs[i.toNat]:=cg gU;obtain⟨w',eu,fe,qs⟩:=Jh i.toNat h5 ab;refine⟨.pointer (some ⟨b,off+i.toNat*g.size,none⟩),?_,?_⟩
    ·simp only[Instr.indexAt,asIntOf,fU,gC,fZ,run_underlying aG,DR,mR,and_self,if_true,af,p4]
    ·simp only[a8];refine⟨b,off+i.toNat*g.size,w',rfl,by simpa[List.getD,ab]using eu,?_⟩;rw[qs];exact Ie g.size (Ib _ h4)
  ·cases he
 ·rename_i dL k n kU i;split at he
  ·rename_i dS;cases he;simp only[a8]at ab aC;subst aC;subst dS;obtain⟨⟨b,cap,rfl⟩,U,n',fl,h3,h4,h5⟩:=ab;obtain⟨DR,mR⟩:=ao;refine⟨.pointer (some ⟨b,0+i.toNat*g.size,none⟩),?_,?_⟩
   ·simp only[Instr.indexAt,asIntOf,fU,gC,fZ,run_underlying aG,DR,mR,and_self,if_true,af,p4]
   ·simp only[a8];refine⟨⟨b,_,rfl⟩,Ω,n',fl,h3,h4,fun e=>⟨b,?_,Ψ⟩⟩;rw[<-h5 e];rfl
  ·cases he
 ·cases he
theorem ID{C:fp}{st:bn}{a:Act}{w:World}{Z:bc}(h:c2 C st a w Z){x:Option dv}{o:Option Operand}(ab:xP x o=true){GL n:Int}(he:rV GL (x.map (cu st.t))=some n):
  (o.map a.eval=none/\n=GL)\/ ∃k,o.map a.eval=some (.int k n):=by
 cases x with
 |none=>cases o with
  |none=>simp[rV]at he;exact .inl ⟨rfl,he.symm⟩
  |some o=>simp[xP]at ab
 |some x=>cases o with
  |none=>simp[xP]at ab
  |some o=>
   simp only[xP]at ab
   have:=et h ab
   simp only[oK]at he⊢
   cases vC:cu st.t x<;>simp[vC,rV]at he
   rw[vC]at this
   simp only[a8]at this
   subst he
   exact .inr ⟨_,by rw[this]⟩
theorem abH{c d:aj}(h:Ka c d=true):c=d:=by unfold Ka at h;split at h<;>simp_all
theorem QC:∀{cs e2:List aj},Ag cs e2=true->cs=e2
 |[],[],_=>rfl
 |[],_::_,h=>by simp[Ag]at h
 |_::_,[],h=>by simp[Ag]at h
 |c::cs,d::e2,h=>by simp only[Ag,cr]at h;rw[abH h.1,QC h.2]
theorem aqZ{cs:List aj}{z:aj}(h:QG cs z=true):z= .agg cs:=by
 cases z<;>simp only[QG]at h;case agg e2=>rw[QC h]
 all_goals cases h
theorem ahh(s:List UInt8)(n:Nat)(h:n<s.length):(⟨s.toArray⟩:ByteArray)[n]? =some (s.getD n 0):=by
 have dS:n<(⟨s.toArray⟩:ByteArray).size:=by rw[Fu];exact h
 have e:(⟨s.toArray⟩:ByteArray)[n]? =some ((⟨s.toArray⟩:ByteArray)[n]'dS):=getElem?_pos (⟨s.toArray⟩:ByteArray) n dS;rw[e];congr 1;simp[List.getD,h];rfl
theorem JF(P:cK)(w:World)(k:IntKind)(i:Int)(y:Nat)(c:BoundsCode)(bz:0<=i)(J:i<=y):(Instr.sliceBound (.int k i) y c).run P w= .ok i.toNat w:=by simp[Instr.sliceBound,asIntOf,bz,J]
theorem Rl(P:cK)(w:World)(ajM:Bool)(len cap:Nat)(lo hi:Option Value)(l h:Int)(DT:(lo=none/\l=0)\/ ∃k,lo=some (.int k l))(DQ:(hi=none/\h=len)\/ ∃k,hi=some (.int k h))
  (bz:0<=l) (J:l<=h) (U:h<=len) (ao:len<=cap):(Instr.sliceBounds ajM len cap lo hi none).run P w= .ok (l.toNat,h.toNat,cap) w:=by
 rcases DT with⟨rfl,rfl⟩|⟨k,rfl⟩<;>rcases DQ with⟨rfl,rfl⟩|⟨bI,rfl⟩
 ·simp[Instr.sliceBounds]
 ·simp[Instr.sliceBounds,JF P w bI h cap _ Ω Ω]
 ·simp[Instr.sliceBounds,JF P w k l len _ Ω Ω]
 ·simp[Instr.sliceBounds,JF P w bI h cap _ Ω Ω,JF P w k l h.toNat _ Ω Ω]
theorem YH{P:cK}{bC:List (Nat×dy)}(aI:fJ P bC=true):∀(gs:List Field),(gs.all fun f=>(ej bC f.type).isSome)=true->
  ∃places:List (Nat×Nat),gs.mapM (fun f=>(P.info? f.type).map fun i=>(f.offset,i.size))=some places/\
   ∀(i off t sz:Nat),(gs.map (fun f=>(f.offset,f.type)))[i]? =some (off,t)->(ej bC t).map (·.size)=some sz->places[i]? =some (off,sz)
 |[],_=>⟨[],Ψ,Ψ⟩
 |f::gs,h=>by
  simp only[List.all_cons,cr]at h;obtain⟨places,J,U⟩:=YH aI gs h.2;obtain⟨g,aW⟩:=fo.1 h.1;obtain⟨i,d,z,aq,aF,bB,ds,ie,ig,sl,sn⟩:=(wF aI aW).ex;refine⟨(f.offset,g.size)::places,by simp[List.mapM_cons,aq,bB,J],fun j off t sz ag dS=>?_⟩;cases j with
  |zero=>simp only[gZ,List.getElem?_cons_zero,dE,j7]at ag⊢;obtain⟨rfl,rfl⟩:=ag;rw[aW]at dS;simpa using dS
  |succ j=>simp only[gZ,List.getElem?_cons_succ]at ag⊢;exact U j off t sz ag dS
theorem l6{P:cK}{w:World}{x:Sem Value}{v:Value}(h:x.run P w= .ok v w):(do pure (Next.value (<-x)):Sem Next).run P w= .ok (.value v) w:=by simp[h]
theorem QF{p q:aj}(h:CN p q=true):p=q:=by
 unfold CN at h;split at h
 ·rw[QC h]
 ·cases h
 ·exact abH h
theorem QE(w:World)(Z:bc){p:aj}{v:Value}(h:Ah p v=true):a8 w Z p v/\dm w Z (cells p) v.cells.toList:=by
 by_cases bg:∃cs,p= .agg cs
 ·obtain⟨cs,rfl⟩:=bg;cases v<;>simp only[Ah]at h;case agg us=>have:=QD w Z _ _ h;exact⟨by simp only[a8];exact⟨us,rfl,this⟩,by simpa[cells,pX]using this⟩
  all_goals cases h
 ·have b9:Ax p v=true/\v.oneCell'=true:=by cases p<;>simp only[Ah,cr]at h<;>first|exact h|exact absurd ⟨_,rfl⟩ bg
  have aM:=KJ w Z b9.1;refine⟨aM,?_⟩;have ao:cells p=[p]:=by cases p<;>first|rfl|exact absurd ⟨_,rfl⟩ bg
  have az:v.cells= #[v]:=by have:=b9.2;cases v<;>first|rfl|simp[Value.oneCell']at this
  rw[ao,az];simp only[dm];exact⟨v,[],rfl,⟨aM,b9.2⟩,rfl⟩
theorem P2{P:cK}{bC:List (Nat×dy)}(aI:fJ P bC=true){t:Nat}{f:dy}(aN:ej bC t=some f)(w:World):∃z,(zeroValue t).run P w= .ok z w/\Ah f.zero z=true/\z.cells.size=f.size:=by obtain⟨i,d,z,J,U,h3,h4,h5,c9,dX,jD⟩:=(wF aI aN).ex;exact⟨z,by simp[zeroValue,typeInfo,J,c9],dX,jD⟩
theorem Fg{C:fp}{st:bn}{a:Act}{w:World}{Z:bc}(h:c2 C st a w Z):∀{xs:List dv} {os:List Operand},zC xs os=true->cX w Z (xs.map (cu st.t)) (os.map a.eval)
 |[],[],_=>by simp[cX]
 |[],_::_,ae=>by simp[zC]at ae
 |_::_,[],ae=>by simp[zC]at ae
 |x::xs,o::os,ae=>by simp only[zC,cr]at ae;simp only[gZ,cX];exact⟨_,_,rfl,et h ae.1,Fg h ae.2⟩
theorem adn{P:cK}{w:World}{t:hh}(aG:P.underlying t=some .bool)(d:Nat)(a b:Bool):(Op.equalIn (d+1) t (.bool a) (.bool b)).run P w= .ok (a==b) w:=by rw[Op.equalIn];simp only[fU,run_underlying aG,fZ,gC]
theorem ado{P:cK}{w:World}{t:hh}(aG:P.underlying t=some .bool)(a b:Bool):(Op.equal t (.bool a) (.bool b)).run P w= .ok (a==b) w:=adn aG _ a b
theorem T2:∀{borns:List Nat} {kvs:List aj} {us:List Value},kvs.length=2*borns.length->us.length=kvs.length->(fQ borns us).length=borns.length
 |[],_,us,_,_=>by simp[fQ]
 |b3::e6,kvs,[],J,U=>by rw[J]at U;simp at U
 |b3::e6,kvs,[_],J,U=>by rw[J]at U;simp at U;omega
 |b3::e6,kvs,k::v::us,J,U=>by simp only[fQ,mG];rw[T2 (kvs:=kvs.drop 2) (us:=us) (borns:=e6) (by simp at J⊢;omega) (by simp at J U⊢;omega)]
theorem ZX{w:World}{Z:bc}:∀{cy:List aj} {a7:List Value},cX w Z cy a7->a7.length=cy.length
 |[],a7,h=>by simp only[cX]at h;subst h;rfl
 |p::cy,a7,h=>by simp only[cX]at h;obtain⟨u,cj,rfl,_,U⟩:=h;simp[ZX U]
theorem wA{P:cK}{w:World}{r:Nat}{o:Obj}(ad:w.heap[r]? =some o)(au:∀c e f,o≠ .cells c e f:=by simp):(getObj r).run P w= .ok o w:=by simp only[getObj,Sem.run,ad]
def ri(P:cK):Nat->List Bool->List Field->Prop
 |_,[],[]=>True
 |n,b::r,f::gs=>(f.offset=n/\f.name≠ "_" /\(if b=true then P.underlying f.type=some .string else∃k,P.underlying f.type=some (.int k)))/\ri P (n+1) r gs
 |_,_,_=>ey
theorem E0{P:cK}{t:hh}{b:Bool}(h:if b=true then P.underlying t=some .string else∃k,P.underlying t=some (.int k)):P.plainKey t=true:=by
 cases b
 ·obtain⟨k,h⟩:=(by simpa using h:∃k,P.underlying t=some (.int k));simp[Program.plainKey,h]
 ·have h:P.underlying t=some .string:=by simpa using h
  simp[Program.plainKey,h]
theorem acV{P:cK}{w:World}{Z:bc}(d:Nat){X Y:Array Value}(dQ:List Bool):∀(gs:List Field) (n:Nat) (as e6:List aj) (us a7:List Value) (q:Bool),ri P n dQ gs->X.toList.drop n=us->Y.toList.drop n=a7->dm w Z as us->dm w Z e6 a7->kP dQ as e6=some q->
  (Op.eqFields (d+1) X Y gs).run P w= .ok q w/\(q=true->us=a7)/\∀m,(us.zip us).all (fun(x,y)=>Instr.sameBits m x y)=true:=by
 induction dQ with
 |nil=>intro gs n as e6 us a7 q aW DB DC J U h;cases as<;>cases e6<;>simp only[kP,dE,reduceCtorEq]at h;cases gs<;>simp only[ri]at aW;simp only[dm]at J U;rw[J,U,<-h];exact⟨by simp[Op.eqFields],fun _=>rfl,fun m=>rfl⟩
 |cons yJ r bN=>
  intro gs n as e6 us a7 q aW DB DC J U h;cases gs with
  |nil=>simp only[ri]at aW
  |cons f gs=>
  simp only[ri]at aW;obtain⟨⟨Hz,Bg,pG⟩,aW⟩:=aW;cases as with
  |nil=>cases yJ<;>cases e6<;>simp[kP]at h
  |cons EY as=>
  cases e6 with
  |nil=>cases yJ<;>cases EY<;>simp[kP]at h
  |cons IH e6=>
  cases yJ with
  |false=>
   have ao:∃k a b gl,EY= .int k a/\IH= .int k b/\kP r as e6=some gl/\q=((a==b)&&gl):=by
    cases EY<;>first|(simp[kP]at h;done)|skip
    cases IH<;>first|(simp[kP]at h;done)|skip
    simp only[kP]at h;split at h
    ·rename_i ae;subst ae;simp only[gv]at h;obtain⟨gl,h3,h4⟩:=h;exact⟨_,_,_,gl,rfl,rfl,h3,h4.symm⟩
    ·cases h
   obtain⟨k,a,b,gl,rfl,rfl,h3,rfl⟩:=ao;simp only[dm,a8]at J U;obtain⟨u,cj,rfl,⟨rfl,_⟩,J⟩:=J;obtain⟨v,vs',rfl,⟨rfl,_⟩,U⟩:=U;have EX:X[n]? =some (.int k a):=by rw[<-u7,<-List.head?_drop,DB];rfl
   have OB:Y[n]? =some (.int k b):=by rw[<-u7,<-List.head?_drop,DC];rfl
   obtain⟨i1,i2,i3⟩:=bN gs (n+1) as e6 cj vs' gl aW (by rw[<-List.tail_drop,DB];rfl) (by rw[<-List.tail_drop,DC];rfl) J U h3;obtain⟨kU,MZ⟩:=(by simpa using pG:∃k,P.underlying f.type=some (.int k));refine⟨?_,?_,fun m=>?_⟩
   ·simp only[Op.eqFields,Bg,ne_eq,not_false_eq_true,if_true,fU,Hz,run_part_plain w (E0 pG) EX,run_part_plain w (E0 pG) OB,fZ,run_equalIn_int w d f.type k kU a b MZ];cases oa:(a==b)
    ·simp
    ·simpa using i1
   ·intro bE;simp only[cr,dM]at bE;rw[bE.1,i2 bE.2]
   ·have:=i3 m;simp only[List.zip_cons_cons,List.all_cons,this,Bool.and_true];cases m<;>simp[Instr.sameBits]
  |true=>
   have ao:∃a b gl,EY= .str a/\IH= .str b/\kP r as e6=some gl/\q=((a==b)&&gl):=by
    cases EY<;>first|(simp[kP]at h;done)|skip
    cases IH<;>first|(simp[kP]at h;done)|skip
    simp only[kP,gv]at h;obtain⟨gl,h3,h4⟩:=h;exact⟨_,_,gl,rfl,rfl,h3,h4.symm⟩
   obtain⟨a,b,gl,rfl,rfl,h3,rfl⟩:=ao;simp only[dm,a8]at J U;obtain⟨u,cj,rfl,⟨⟨rfl,_⟩,_⟩,J⟩:=J;obtain⟨v,vs',rfl,⟨⟨rfl,_⟩,_⟩,U⟩:=U;have EX:X[n]? =some (.string ⟨a.toArray⟩):=by rw[<-u7,<-List.head?_drop,DB];rfl
   have OB:Y[n]? =some (.string ⟨b.toArray⟩):=by rw[<-u7,<-List.head?_drop,DC];rfl
   obtain⟨i1,i2,i3⟩:=bN gs (n+1) as e6 cj vs' gl aW (by rw[<-List.tail_drop,DB];rfl) (by rw[<-List.tail_drop,DC];rfl) J U h3;have MZ:P.underlying f.type=some .string:=by simpa using pG
   refine⟨?_,?_,fun m=>?_⟩
   ·simp only[Op.eqFields,Bg,ne_eq,not_false_eq_true,if_true,fU,Hz,run_part_plain w (E0 pG) EX,run_part_plain w (E0 pG) OB,fZ,run_equalIn_string w d f.type _ _ MZ];have e:((⟨a.toArray⟩:ByteArray).toList==(⟨b.toArray⟩:ByteArray).toList)=(a==b):=by rw[aq2,aq2]
    rw[e];cases oa:(a==b)
    ·simp
    ·simpa using i1
   ·intro bE;simp only[cr,dM]at bE;rw[bE.1,i2 bE.2]
   ·have:=i3 m;simp only[List.zip_cons_cons,List.all_cons,this,Bool.and_true];cases m<;>simp only[Instr.sameBits]<;>exact(MapKept.bytes_beq _ _).2 rfl
theorem UE{P:cK}{bC:List (Nat×dy)}(aI:fJ P bC=true):∀(dQ:List Bool) (gs:List Field) (n:Nat),AU bC n dQ (gs.map fun f=>(f.offset,f.type))=true->(gs.all (fun f=>match P.underlying f.type with|some (.int _)=>true|some .string=>true|_=>false)=true)/\((∀f∈gs,f.name≠ "_")->ri P n dQ gs)
 |[],[],_,_=>⟨rfl,fun _=>trivial⟩
 |[],_::_,_,h=>by simp[AU]at h
 |_::_,[],_,h=>by simp[AU]at h
 |b::r,f::gs,n,h=>by
  simp only[gZ,AU,cr,dM]at h;obtain⟨⟨J,U⟩,h3⟩:=h;obtain⟨i1,i2⟩:=UE aI r gs (n+1) h3;split at U
  ·rename_i aN;obtain⟨d,hu,aG⟩:=jw aI aN;obtain rfl:=GK aG;refine⟨by simp only[List.all_cons,hu,i1,Bool.and_self],fun au=>⟨⟨J,au f Ψ,?_⟩,i2 fun g aW=>au g (by simp[aW])⟩⟩;have:b=false:=by simpa using U
   subst this;simpa using⟨_,hu⟩
  ·rename_i aN;obtain⟨d,hu,aG⟩:=jw aI aN;obtain rfl:=AJ aG;refine⟨by simp only[List.all_cons,hu,i1,Bool.and_self],fun au=>⟨⟨J,au f Ψ,?_⟩,i2 fun g aW=>au g (by simp[aW])⟩⟩;subst U;simpa using hu
  ·cases U
theorem UG{P:cK}{bC:List (Nat×dy)}(aI:fJ P bC=true){dQ:List Bool}{t:Nat}(h:G1 bC dQ t=true):∃gs,P.underlying t=some (.struct gs)/\ri P 0 dQ gs.toList/\P.stoodInHeld t=false/\P.eqGuardType P.depth t=false:=by
 unfold G1 at h;split at h
 ·rename_i aN;obtain⟨d,hu,aG⟩:=jw aI aN;have ao:=(wF aI aN).cmp d hu;cases d<;>simp[kQ]at aG;rename_i gs;subst aG;obtain⟨i1,i2⟩:=UE aI dQ gs.toList 0 h;have qN:UF P gs=true:=i1;simp only[Le,qN,Bool.not_true,Bool.false_or,TE,cr,oG,fV,bne_iff_ne,ne_eq]at ao;exact⟨gs,hu,i2 ao.1.1,ao.1.2,ao.2⟩
 ·cases h
theorem T7{P:cK}{w:World}{Z:bc}{t:hh}{gs:Array Field}{dQ:List Bool}(hu:P.underlying t=some (.struct gs))(aW:ri P 0 dQ gs.toList)(dd:P.stoodInHeld t=false){as e6:List aj}{X Y:Array Value}(J:dm w Z as X.toList)(U:dm w Z e6 Y.toList){q:Bool}(h:kP dQ as e6=some q):
  (Op.equalIn 10000 t (.agg X) (.agg Y)).run P w= .ok q w/\(q=true->X=Y)/\∀m,(X.toList.zip X.toList).all (fun(x,y)=>Instr.sameBits m x y)=true:=by
 have aN:P.fieldsOf t=gs:=by simp[Program.fieldsOf,hu]
 obtain⟨i1,i2,i3⟩:=acV 9998 dQ gs.toList 0 as e6 _ _ q aW rfl rfl J U h;refine⟨?_,fun e=>?_,?_⟩
 ·rw[run_equalIn_struct w 9999 t X Y (by rw[aN];exact hu) dd,aN];exact i1
 ·have:=i2 e;simpa using this
 ·simpa using i3
inductive vc (P:cK):j9->hh->Prop
 |i {t:hh} {k:IntKind}:P.underlying t=some (.int k)->vc P .i t
 |s {t:hh}:P.underlying t=some .string->vc P .s t
 |a {t:hh} {dQ:List Bool} {gs:Array Field}:P.underlying t=some (.struct gs)->ri P 0 dQ gs.toList->P.stoodInHeld t=false->vc P (.a dQ) t
theorem Nt{P:cK}{bC:List (Nat×dy)}(aI:fJ P bC=true){ch:j9}{t:Nat}(h:zi bC ch t=true):vc P ch t:=by
 cases ch with
 |i=>
  simp only[zi]at h;split at h
  ·rename_i aN;obtain⟨d,hu,aG⟩:=jw aI aN;obtain rfl:=GK aG;exact .i hu
  ·cases h
 |s=>
  simp only[zi]at h;split at h
  ·rename_i aN;obtain⟨d,hu,aG⟩:=jw aI aN;obtain rfl:=AJ aG;exact .s hu
  ·cases h
 |a dQ=>obtain⟨gs,J,U,h3,_⟩:=UG aI h;exact .a J U h3
def tL(P:cK)(w:World)(ch:j9)(t:hh)(hq u:Value)(b:Bool):Prop:=match ch with
 | .a _=>(Op.equal t hq u).run P w= .ok b w
 |_=> ∀d,P.underlying t=some d->Instr.sameNow d hq u=some b
def iq(P:cK)(w:World)(ch:j9)(t:hh)(hq:Value)(es:List MapEntry)(i:Nat)(r:Option (Nat×Value)):Prop:=match ch with
 | .a _=>(Instr.findAsking t hq es i).run P w= .ok r w
 |_=> ∀d,P.underlying t=some d->Instr.findNow d hq es i=some r
theorem iq.nil(P:cK)(w:World)(ch:j9)(t:hh)(hq:Value)(i:Nat):iq P w ch t hq [] i none:=by cases ch<;>simp[iq,Instr.findAsking,Instr.findNow]
theorem iq.hit{P:cK}{w:World}{ch:j9}{t:hh}{hq:Value}{e:MapEntry}{es:List MapEntry}{i:Nat}(h:tL P w ch t hq e.key true):iq P w ch t hq (e::es) i (some (i,e.val)):=by
 cases ch with
 |a dQ=>simp only[tL]at h;simp[iq,Instr.findAsking,h]
 |i=>simp only[tL]at h;simp only[iq];intro d aG;simp[Instr.findNow,h d aG]
 |s=>simp only[tL]at h;simp only[iq];intro d aG;simp[Instr.findNow,h d aG]
theorem iq.miss{P:cK}{w:World}{ch:j9}{t:hh}{hq:Value}{e:MapEntry}{es:List MapEntry}{i:Nat}{r:Option (Nat×Value)}(h:tL P w ch t hq e.key false)(aM:iq P w ch t hq es (i+1) r):iq P w ch t hq (e::es) i r:=by
 cases ch with
 |a dQ=>simp only[tL]at h;simp only[iq]at aM;simp[iq,Instr.findAsking,h,aM]
 |i=>simp only[tL]at h;simp only[iq]at aM⊢;intro d aG;simp[Instr.findNow,h d aG,aM d aG]
 |s=>simp only[tL]at h;simp only[iq]at aM⊢;intro d aG;simp[Instr.findNow,h d aG,aM d aG]
theorem iq.run{P:cK}{w:World}{ch:j9}{t:hh}(aG:vc P ch t){hq:Value}{es:List MapEntry}{r:Option (Nat×Value)}(h:iq P w ch t hq es 0 r):(Instr.findKey t hq es).run P w= .ok r w:=by
 cases aG with
 |i hu=>simp only[iq]at h;simp[Instr.findKey,run_underlying hu,h _ hu]
 |s hu=>simp only[iq]at h;simp[Instr.findKey,run_underlying hu,h _ hu]
 |a hu aW dd=>
  simp only[iq]at h;cases es with
  |nil=>simp[Instr.findAsking]at h;simp[Instr.findKey,run_underlying hu,Instr.findNow,h]
  |cons e es=>
   rename_i gs;have:Instr.sameNow (.struct gs) hq e.key=none:=by cases hq<;>rfl
   simp only[Instr.findKey,fU,run_underlying hu,fZ,Instr.findNow,this];exact h
theorem WY{P:cK}{w:World}{Z:bc}{ch:j9}{t:hh}(aG:vc P ch t){k bI:aj}{hq u:Value}(ae:a8 w Z k hq)(J:a8 w Z bI u){bb:Bool}(ad:rO ch k bI=some bb):
  tL P w ch t hq u bb/\(bb=true->u=hq/\Instr.sameBits 10000 u hq=true):=by
 unfold rO at ad;split at ad
 ·split at ad
  ·rename_i mi;subst mi;simp only[a8]at ae J;subst ae;subst J;cases aG with
   |i hu=>refine⟨fun d aG=>by rw[hu]at aG;cases aG;simpa[Instr.sameNow]using ad,fun e=>?_⟩;subst e;simp only[dE,dM]at ad;subst ad;exact⟨rfl,by simp[Instr.sameBits]⟩
  ·cases ad
 ·rename_i a b;simp only[a8]at ae J;obtain⟨rfl,_⟩:=ae;obtain⟨rfl,_⟩:=J;cases aG with
  |s hu=>
   refine⟨fun d aG=>?_,fun e=>?_⟩
   ·rw[hu]at aG;cases aG;simp only[Instr.sameNow];rw[<-ad];congr 1;rw[qz,MapKept.bytes_beq];simp
   ·subst e;simp only[dE,dM]at ad;subst ad;exact⟨rfl,by simp only[Instr.sameBits];exact(MapKept.bytes_beq _ _).2 rfl⟩
 ·simp only[a8]at ae J;obtain⟨X,rfl,ae⟩:=ae;obtain⟨Y,rfl,J⟩:=J;cases aG with
  |a hu aW dd=>obtain⟨i1,i2,i3⟩:=T7 hu aW dd ae J ad;refine⟨by simpa[tL,Op.equal,Op.maxDepth]using i1,fun e=>?_⟩;have:=i2 e;subst this;exact⟨rfl,by simp[Instr.sameBits,i3]⟩
 ·cases ad
theorem N1{P:cK}{w:World}{Z:bc}{ch:j9}{t:hh}(aG:vc P ch t){k:aj}{hq:Value}(ae:a8 w Z k hq):∀(borns:List Nat) (kvs:List aj) (us:List Value) (i:Nat) (r:Option aj),cX w Z kvs us->kvs.length=2*borns.length->uL ch k kvs=some r->
  match r with
  |none=>iq P w ch t hq (fQ borns us) i none
  |some v=> ∃j u,iq P w ch t hq (fQ borns us) i (some (j,u))/\a8 w Z v u
 |[],[],us,i,r,h,_,hm=>by simp only[uL]at hm;cases hm;simp only[cX]at h;subst h;simpa[fQ]using iq.nil P w ch t hq i
 |[],_::_,_,_,_,_,av,_=>by simp at av
 |b::e6,[],_,_,_,_,av,_=>by simp at av
 |b::e6,[_],_,_,_,_,av,_=>by simp at av;omega
 |b::e6,bI::v::kvs,us,i,r,h,av,hm=>by
  simp only[cX]at h;obtain⟨jx,P7,rfl,J,j5,tA,rfl,U,h3⟩:=h;simp only[uL]at hm;simp only[fQ];cases bE:rO ch k bI with
  |none=>simp[bE]at hm
  |some bb=>
   obtain⟨s1,_⟩:=WY aG ae J bE;simp only[bE]at hm;cases bb with
   |true=>simp only[dE]at hm;subst hm;exact⟨i,j5,iq.hit (e:=⟨jx,j5,b⟩) s1,U⟩
   |false=>
    simp only at hm;have bN:=N1 aG ae e6 kvs tA (i+1) r h3 (by simp at av;omega) hm;cases r with
    |none=>exact iq.miss (e:=⟨jx,j5,b⟩) s1 bN
    |some v'=>obtain⟨j,u,g1,g2⟩:=bN;exact⟨j,u,iq.miss (e:=⟨jx,j5,b⟩) s1 g1,g2⟩
theorem Ld{P:cK}{w:World}{t:Nat}{d:TypeDesc}(hu:P.underlying t=some d)(aG:(∃k,d= .int k)\/d= .string)(e:Bool)(n:Nat)(v:Value):(Instr.checkKey e (n+1) t v).run P w= .ok () w:=by unfold Instr.checkKey;rcases aG with⟨k,rfl⟩|rfl<;>simp[run_underlying hu]
theorem agl{P:cK}{w:World}{Z:bc}{X:Array Value}(dQ:List Bool):∀(gs:List Field) (n:Nat) (as:List aj),ri P n dQ gs->dm w Z as (X.toList.drop n)->(kP dQ as as).isSome=true->
  ∀f∈gs,(∃v,(part f.type X f.offset).run P w= .ok v w)/\∃d,P.underlying f.type=some d/\((∃k,d= .int k)\/d= .string):=by
 induction dQ with
 |nil=>intro gs n as aW _ _ f aN;cases gs<;>simp only[ri]at aW;cases aN
 |cons yJ r bN=>
  intro gs n as aW aM ao f aN;cases gs with
  |nil=>cases aN
  |cons g gs=>
  simp only[ri]at aW;obtain⟨⟨Hz,Bg,pG⟩,aW⟩:=aW;cases as with
  |nil=>cases yJ<;>simp[kP]at ao
  |cons p as=>
  have hx:(kP r as as).isSome=true:=by cases yJ<;>cases p<;>simp[kP]at ao⊢ <;>exact ao
  simp only[dm]at aM;obtain⟨u,cj,e,_,dk⟩:=aM;have aF:X.toList.drop (n+1)=cj:=by rw[<-List.tail_drop,e];rfl
  have EX:X[n]? =some u:=by rw[<-u7,<-List.head?_drop,e];rfl
  rcases fm.1 aN with rfl|aN
  ·refine⟨⟨u,by rw[Hz];exact run_part_plain w (E0 pG) EX⟩,?_⟩;cases yJ
   ·obtain⟨k,h⟩:=(by simpa using pG:∃k,P.underlying f.type=some (.int k));exact⟨_,h,.inl ⟨k,rfl⟩⟩
   ·exact⟨_,by simpa using pG,.inr rfl⟩
  ·exact bN gs (n+1) as aW (by rw[aF];exact dk) hx f aN
theorem UK{P:cK}{w:World}{α:Type}(body:α->PUnit->Sem (ForInStep PUnit)):∀(l:List α),(∀f∈l,(body f ⟨⟩).run P w= .ok (.yield ⟨⟩) w)->(forIn l PUnit.unit body).run P w= .ok PUnit.unit w
 |[],_=>by simp
 |f::l,h=>by simp only[List.forIn_cons,fU,h f Ψ,fZ];exact UK body l fun g aW=>h g (by simp[aW])
theorem Pq{P:cK}{w:World}{Z:bc}{ch:j9}{t:Nat}(aG:vc P ch t)(e:Bool){k:aj}{v:Value}(ae:a8 w Z k v)(hi:vV ch k=true):(Instr.checkKey e 10000 t v).run P w= .ok () w:=by
 cases aG with
 |i hu=>exact Ld hu (.inl ⟨_,rfl⟩) e 9999 v
 |s hu=>exact Ld hu (.inr rfl) e 9999 v
 |a hu aW dd=>
  rename_i dQ gs;cases k<;>simp only[vV,hg]at hi;rename_i as;simp only[a8]at ae;obtain⟨X,rfl,ae⟩:=ae;unfold Instr.checkKey;simp only[fU,run_underlying hu,fZ];rw[<-Array.forIn_toList];rw[UK]
  ·simp
  ·intro f aN;obtain⟨⟨v,J⟩,d,U,h3⟩:=agl dQ gs.toList 0 as aW (by simpa using ae) hi f aN;have h4:=Ld (w:=w) U h3 e 9998 v;by_cases au:f.name= "_"
   ·simp[au]
   ·simp[au,J,h4]
theorem Xx{w:World}{Z:bc}{n:Nat}:∀(borns:List Nat) (kvs:List aj) (us:List Value) (p:aj),cX w Z kvs us->nN n borns kvs=some p->∃e,(fQ borns us).find? (·.born==n)=some e/\a8 w Z p (.tuple #[e.key,e.val])
 |[],_,_,_,_,hm=>by simp[nN]at hm
 |_::_,[],_,_,_,hm=>by simp[nN]at hm
 |_::_,[_],_,_,_,hm=>by simp[nN]at hm
 |b::e6,k::v::kvs,us,p,h,hm=>by
  simp only[cX]at h;obtain⟨jx,P7,rfl,J,j5,tA,rfl,U,h3⟩:=h;simp only[nN]at hm;simp only[fQ];by_cases e:b=n
  ·rw[if_pos e]at hm;cases hm;refine⟨⟨jx,j5,b⟩,by simp[List.find?,e],?_⟩;simp only[a8];exact⟨#[jx,j5],rfl,by simp only[cX];exact⟨_,_,rfl,J,_,_,rfl,U,rfl⟩⟩
  ·rw[if_neg e]at hm;obtain⟨x,g1,g2⟩:=Xx e6 kvs tA p h3 hm;have ahG:(b==n)=false:=by simpa using e
   exact⟨x,by simp[List.find?,ahG,g1],g2⟩
theorem aaN{P:cK}{bC:List (Nat×dy)}(aI:fJ P bC=true){C:fp}{st:bn}{a:Act}{w:World}{Z:bc}(aM:c2 C st a w Z){i:gh}(ahF:∀ch z ok x k,i≠ .mgetB ch z ok x k){o:Oper}(ay:FE bC i o.op=true)
  {c:Prop} {p:aj} (he:hE st i=some (c,p)) (ao:c):∃v,(execOp a.eval o).run P w= .ok (.value v) w/\a8 w Z p v:=by
 obtain⟨dst,op,type,pos,after,guard⟩:=o;simp only at ay;unfold FE at ay;split at ay
 ·rename_i x o;simp only[hE]at he;cases he;exact⟨_,rfl,et aM ay⟩
 ·rename_i x o;simp only[hE]at he;cases he;exact⟨_,rfl,et aM ay⟩
 ·rename_i cq x y arK J5 J7;simp only[cr]at ay;have J:=et aM ay.1.1;have U:=et aM ay.1.2;have h3:=et aM ay.2;simp only[hE,IK]at he;split at he
  ·rename_i b ad;rw[ad]at J;simp only[a8]at J;split at he
   ·rename_i u v hu az;cases he;rw[hu]at U;rw[az]at h3;simp only[a8]at U h3;refine⟨.bool (cond b u v),?_,by simp[a8]⟩;simp only[execOp,J,U,h3,asBool,fU,gC,fZ];cases b<;>rfl
   ·split at he
    ·cases he;exact⟨_,by simp only[execOp,J,asBool,fU,gC,fZ,if_true],U⟩
    ·cases he;exact⟨_,by simp only[execOp,J,asBool,fU,gC,fZ,hg,if_false],h3⟩
  ·cases he
 ·rename_i agg sz x t o;simp only[cr]at ay;obtain⟨J,U⟩:=ay;split at J
  ·rename_i f aN;simp only[cr,dM]at J;obtain⟨rfl,rfl⟩:=J;obtain⟨v,g1,g2⟩:=Ih aI aM.good aN (et aM U) (by simpa only[hE]using he) ao;exact⟨v,l6 g1,g2⟩
  ·cases J
 ·rename_i off agg sz x s o i;simp only[cr]at ay;obtain⟨J,U⟩:=ay;split at J
  ·rename_i f aN;split at J
   ·rename_i xN t DM;simp only[cr,dM]at J;obtain⟨rfl,J⟩:=J;split at J
    ·rename_i g aW;simp only[cr,dM,bne_iff_ne,ne_eq]at J;obtain⟨⟨rfl,rfl⟩,bz⟩:=J;obtain⟨v,g1,g2⟩:=age aI aN rfl DM aW bz (et aM U) (by simpa only[hE]using he) ao;exact⟨v,l6 g1,g2⟩
    ·cases J
   ·cases J
  ·cases J
 ·rename_i off agg sz x s o i;simp only[cr]at ay;obtain⟨J,U⟩:=ay;split at J
  ·rename_i f aN;split at J
   ·rename_i xN t DM;simp only[cr,dM]at J;obtain⟨rfl,J⟩:=J;split at J
    ·rename_i g aW;simp only[cr,dM]at J;obtain⟨rfl,rfl⟩:=J;obtain⟨v,g1,g2⟩:=agm aI aN rfl DM aW (et aM U) (by simpa only[hE]using he) ao;exact⟨v,l6 g1,g2⟩
    ·cases J
   ·cases J
  ·cases J
 ·rename_i sz x i t o j;simp only[cr]at ay;obtain⟨⟨J,U⟩,h3⟩:=ay;split at J
  ·rename_i e aN;split at J
   ·rename_i g aW;simp only[dM]at J;subst J;obtain⟨v,g1,g2⟩:=ajn aI aN rfl aW (et aM U) (et aM h3) (by simpa only[hE]using he) ao;exact⟨v,l6 g1,g2⟩
   ·cases J
  ·cases J
 ·rename_i x i t o j;simp only[cr]at ay;obtain⟨⟨J,U⟩,h3⟩:=ay;split at J
  ·rename_i aN;obtain⟨d,aG,fc⟩:=jw aI aN;obtain rfl:=AJ fc;have aq:=et aM U;have aF:=et aM h3;simp only[hE,JD]at he;split at he
   ·rename_i s k n af au;cases he;rw[af]at aq;rw[au]at aF;simp only[a8]at aq aF;obtain⟨vA,DH⟩:=ao;have bs:n.toNat<s.length:=Ω
    have aib:(⟨s.toArray⟩:ByteArray)[n.toNat]? =some (s.getD n.toNat 0):=by exact ahh s n.toNat bs
    refine⟨_,l6 (v:= .int .u8 (s.getD n.toNat 0).toNat) ?_,by simp[a8]⟩;simp only[Instr.index,aF,asIntOf,aq.1,fU,gC,fZ,run_underlying aG,vA,if_true,aib]
   ·cases he
  ·cases J
 ·rename_i x lo hi t o l h;simp only[cr]at ay;obtain⟨⟨⟨J,U⟩,h3⟩,h4⟩:=ay;split at J
  ·rename_i aN;obtain⟨d,aG,fc⟩:=jw aI aN;obtain rfl:=AJ fc;have aq:=et aM U;simp only[hE,JI]at he;split at he
   ·rename_i s af;rw[af]at aq;simp only[a8]at aq;split at he
    ·rename_i q2 cE av Mz;cases he;obtain⟨bY,cw,dC⟩:=ao;have aS:=ID aM h3 av;have bf:=ID aM h4 Mz;refine⟨_,l6 (v:= .string ⟨((s.take cE.toNat).drop q2.toNat).toArray⟩) ?_,?_⟩
     ·have ad:=Rl P w false s.length s.length (l.map a.eval) (h.map a.eval) q2 cE
       aS bf bY cw dC (dZ _)
      simp only[Instr.sliceAt,Instr.slice,aq.1,fU,gC,fZ,run_underlying aG,Option.map_none,k1,hg,if_false,Fu,ad,aef]
     ·simp only[a8];refine⟨trivial,?_⟩;have:=aq.2;simp only[tG,List.length_take];omega
    ·cases he
   ·cases he
  ·cases J
 ·rename_i sz x lo hi t o l h;simp only[cr]at ay;obtain⟨⟨⟨J,U⟩,h3⟩,h4⟩:=ay;split at J
  ·rename_i e aN;split at J
   ·rename_i g aW;simp only[dM]at J;subst J;obtain⟨d,aG,fc⟩:=jw aI aN;obtain rfl:=tT fc;obtain⟨_,dS⟩:=wE aI aW w;have aq:=et aM U;simp only[hE,Ii]at he;split at he
    ·rename_i dL tag xs af;split at he
     ·rename_i fv;subst fv;rw[af]at aq;simp only[a8]at aq;obtain⟨⟨tM,cap,az,b1,b2,gp⟩,_⟩:=aq;split at he
      ·rename_i q2 cE av Mz;cases he;obtain⟨bY,cw,dC⟩:=ao;have aS:=ID aM h3 av;have bf:=ID aM h4 Mz;have ad:=Rl P w true xs.length cap (l.map a.eval) (h.map a.eval) q2 cE
        aS bf bY cw dC b1
       refine⟨_,l6 (v:= .slice (if cap=q2.toNat then tM else tM.map (·.add (q2.toNat*g.size))) (cE.toNat-q2.toNat) (cap-q2.toNat)) ?_,?_⟩
       ·simp only[Instr.sliceAt,Instr.slice,az,fU,gC,fZ,run_underlying aG,Option.map_none,ad,dS]
       ·simp only[a8];have hlen:((xs.take cE.toNat).drop q2.toNat).length=cE.toNat-q2.toNat:=by simp;omega
        refine⟨⟨_,_,by rw[hlen],by rw[hlen];omega,⟨Ω,by rw[hlen];omega⟩,?_⟩,(fun h=>by cases h),(fun g h=>by cases h),(fun _ _ h=>by cases h),(fun _ h=>by cases h)⟩;rcases gp with rfl|⟨b,off,us,rfl,g1,g2⟩
        ·left;simp
        ·by_cases A4:cap=q2.toNat
         ·left;apply List.eq_nil_of_length_eq_zero;rw[hlen];omega
         ·right;rw[if_neg A4];refine⟨b,off+q2.toNat*g.size,(us.take (cE.toNat*g.size)).drop (q2.toNat*g.size),by simp[p4],Ib _ (Ie _ g1),ZP _ (ZS _ g2)⟩
      ·cases he
     ·cases he
    ·cases he
   ·cases J
  ·cases J
 ·rename_i op wr x y Yw ty o o' apw;simp only[cr,eN]at ay;obtain⟨⟨rfl,J⟩,U⟩:=ay;obtain⟨r,g1,g2⟩:=acL P w Z (by simpa only[hE]using he) ao ty (et aM J) (et aM U) o o';exact⟨r,l6 g1,g2⟩
 ·rename_i x op ty o;simp only[cr,eN]at ay;obtain⟨rfl,J⟩:=ay;have aq:=et aM J;simp only[hE]at he;unfold Iy at he;split at he
  ·rename_i b ad;cases he;rw[ad]at aq;simp only[a8]at aq;exact⟨_,l6 (v:= .bool (!b)) (by simp[Op.unary,aq]),by simp[a8]⟩
  ·cases he
 ·rename_i x op ty o;simp only[cr,eN]at ay;obtain⟨rfl,J⟩:=ay;have aq:=et aM J;simp only[hE]at he;unfold Is at he;split at he
  ·rename_i k n ad;cases he;rw[ad]at aq;simp only[a8]at aq;exact⟨_,l6 (v:= .int k (k.wrap (0-n))) (by simp[Op.unary,aq,Op.intArith]),by simp[a8]⟩
  ·cases he
 ·rename_i k x s d o;simp only[cr]at ay;obtain⟨J,U⟩:=ay;split at J
  ·rename_i aS bf DK vD;simp only[eN]at J;subst J;obtain⟨d1,fC,ahU⟩:=jw aI DK;obtain rfl:=GK ahU;obtain⟨d2,e3,ahV⟩:=jw aI vD;obtain rfl:=GK ahV;have aq:=et aM U;simp only[hE]at he;unfold GH at he;split at he
   ·rename_i bI n ad;cases he;rw[ad]at aq;simp only[a8]at aq;exact⟨_,l6 (v:= .int k (k.wrap n)) (by simp[convert,aq,run_underlying fC,run_underlying e3,Conv.intToInt]),by simp[a8]⟩
   ·cases he
  ·cases J
 ·rename_i i x o j;simp only[cr,dM]at ay;obtain⟨rfl,J⟩:=ay;have aq:=et aM J;simp only[hE]at he;unfold AN at he;split at he
  ·rename_i a7 ad;simp only[gv]at he;obtain⟨q,bE,he⟩:=he;cases he;rw[ad]at aq;simp only[a8]at aq;obtain⟨us,hu,U⟩:=aq;obtain⟨v,g1,g2⟩:=Fh i U bE;have lW:us[i]? =some v:=by simpa using g1
   exact⟨v,l6 (by simp[Instr.extract,hu,lW]),g2⟩
  ·cases he
 ·rename_i x o t;simp only[cr]at ay;obtain⟨J,U⟩:=ay;have aq:=et aM U;simp only[hE]at he;unfold BI at he;split at he
  ·rename_i sz tag xs ad;cases he;rw[ad]at aq;simp only[a8]at aq;obtain⟨⟨tM,cap,az,_⟩,_⟩:=aq;refine⟨.int .i64 xs.length,?_,by simp[a8]⟩;split at J
   ·rename_i aN;obtain⟨d,aG,fc⟩:=jw aI aN;obtain rfl:=tT fc;simp[execOp,resolve,invoke,builtin,Builtin.len_,run_underlying aG,az,goInt]
   ·cases J
  ·rename_i sz k n ad;cases he;rw[ad]at aq;simp only[a8]at aq;obtain⟨⟨tM,cap,az⟩,_⟩:=aq;refine⟨.int .i64 n,?_,by simp[a8]⟩;split at J
   ·rename_i aN;obtain⟨d,aG,fc⟩:=jw aI aN;obtain rfl:=tT fc;simp[execOp,resolve,invoke,builtin,Builtin.len_,run_underlying aG,az,goInt]
   ·cases J
  ·rename_i tM n cap ad;cases he;rw[ad]at aq;simp only[a8]at aq;refine⟨.int .i64 n,?_,by simp[a8]⟩;split at J
   ·rename_i aN;obtain⟨d,aG,fc⟩:=jw aI aN;obtain rfl:=tT fc;simp[execOp,resolve,invoke,builtin,Builtin.len_,run_underlying aG,aq,goInt]
   ·cases J
  ·cases he
 ·rename_i x o t;simp only[cr]at ay;obtain⟨J,U⟩:=ay;have aq:=et aM U;simp only[hE]at he;unfold Fv at he;split at he
  ·rename_i s ad;cases he;rw[ad]at aq;simp only[a8]at aq;refine⟨.int .i64 s.length,?_,by simp[a8]⟩;split at J
   ·rename_i aN;obtain⟨d,aG,fc⟩:=jw aI aN;obtain rfl:=AJ fc;simp[execOp,resolve,invoke,builtin,Builtin.len_,run_underlying aG,aq.1,goInt,Fu]
   ·cases J
  ·rename_i s ad;cases he;rw[ad]at aq;simp only[a8]at aq;refine⟨.int .i64 s.size,?_,by simp[a8]⟩;split at J
   ·rename_i aN;obtain⟨d,aG,fc⟩:=jw aI aN;obtain rfl:=AJ fc;simp[execOp,resolve,invoke,builtin,Builtin.len_,run_underlying aG,aq,goInt]
   ·cases J
  ·cases he
 ·rename_i zero parts t cy;split at ay
  ·rename_i dQ z aN;simp only[cr]at ay;obtain⟨⟨J,U⟩,h3⟩:=ay;have bd:=aqZ J;obtain⟨i,d,QB,aq,aF,bB,ds,ie,ig,sl,sn⟩:=(wF aI aN).ex;obtain⟨gs,rfl,kt⟩:=Li ie;simp only at bd sl sn;subst bd;have lE:(gs.toList.all fun f=>(ej bC f.type).isSome)=true:=by rw[<-kt]at U;simpa[List.all_map,Function.comp_def]using U
   obtain⟨places,cP,c8⟩:=YH aI gs.toList lE;rw[kt]at c8;cases QB<;>simp only[Ah]at sl;case agg us=>
    simp only[hE]at he;cases ad:vn st.t zero parts with
    |none=>simp[ad]at he
    |some x=>obtain⟨cq,cs'⟩:=x;simp only[ad,oK]at he;cases he;obtain⟨cj,g1,g2⟩:=Z5 aM c8 parts cy.toList zero us c cs' h3 (QD w Z _ _ sl) ad ao;refine⟨.agg cj,l6 (run_build w t _ cj ?_),by simp only[a8];exact⟨cj,rfl,g2⟩⟩;simp only[Program.built,aq,aF,ig,cP,pX];simpa using g1
   all_goals cases sl
  ·cases ay
 ·rename_i x o;have aq:=et aM ay;simp only[hE]at he;unfold BU at he;split at he
  ·rename_i k off ad;cases he;rw[ad]at aq;have aF:=aq;simp only[a8]at aq;obtain⟨b,_,az⟩:=aq;exact⟨a.eval o,by simp[execOp,az],aF⟩
  ·rename_i q ad;cases he;rw[ad]at aq;have aF:=aq;simp only[a8]at aq;obtain⟨b,off,u,az,_⟩:=aq;exact⟨a.eval o,by simp[execOp,az],aF⟩
  ·rename_i f cs ad;cases he;rw[ad]at aq;have aF:=aq;simp only[a8]at aq;obtain⟨us,az,_⟩:=aq;exact⟨a.eval o,by simp[execOp,az],aF⟩
  ·cases he
 ·rename_i x y o o' t du;simp only[cr]at ay;have aq:=et aM ay.1;have aF:=et aM ay.2;simp only[hE]at he;unfold Iq at he;split at he
  ·rename_i k m bI n hm au;split at he
   ·rename_i ae;subst ae;cases he;rw[hm]at aq;rw[au]at aF;simp only[a8]at aq aF;exact⟨.int k (if n<m then n else m),by simp[execOp,resolve,invoke,builtin,Builtin.min_,Builtin.min2,aq,aF],by simp[a8]⟩
   ·cases he
  ·cases he
 ·rename_i n xs m os;simp only[cr,dM]at ay;obtain⟨rfl,ay⟩:=ay;simp only[hE]at he;cases he;have vz:=Fg aM ay;refine⟨.func (.func n) #[] (os.map a.eval),by simp[execOp,Instr.makeFunc],?_⟩;simp only[a8];exact⟨os.map a.eval,rfl,by simpa using vz⟩
 ·rename_i ch zero ok x k t o o' Iz;simp only[cr,dM]at ay;obtain⟨⟨⟨rfl,J⟩,U⟩,h3⟩:=ay;have aq:=et aM U;have aF:=et aM h3;split at J
  ·rename_i sz lU nL qc z aN;simp only[cr]at J;obtain⟨aim,Mr⟩:=J;split at Mr
   ·rename_i asp ahY;have bd:=QF Mr;obtain⟨cN,hu,fc⟩:=jw aI aN;have ud:cN= .map nL qc:=by cases cN<;>simp[kQ]at fc;obtain⟨rfl,rfl⟩:=fc;rfl
    subst ud;obtain⟨bS,jR,z2,_⟩:=P2 aI ahY w;rw[<-bd]at z2;have aa:=(QE w Z z2).1;have mP:=Nt aI aim;simp only[hE]at he;unfold nO at he;split at he
    ·rename_i key ab;rw[ab]at aq;simp only[a8]at aq;obtain⟨bl,b1,b2⟩:=aq;split at he
     ·rename_i clock borns kvs hY;obtain⟨iX,us,el,g1,g2,g3,g4,g5⟩:=aM.good.box key _ hY;rw[b1]at g1;cases g1;simp only[kl]at g4;simp only[jP]at g5;have h6:(getObj bl).run P w= .ok (.map (fQ borns us.toList).toArray clock) w:=wA g4;split at he
      ·cases he
      rename_i vI;have xb:=Pq (P:=P) (w:=w) mP ((fQ borns us.toList).toArray.isEmpty) aF (by simpa using vI);split at he
      ·rename_i v hm;cases he;obtain⟨j,u,f1,f2⟩:=N1 mP aF borns kvs us.toList 0 _ g5.1 g5.2.len hm;refine⟨if ok then .tuple #[u,.bool true]else u,?_,?_⟩
       ·simp only[execOp];refine l6 ?_;simp only[Instr.lookup,fU,run_underlying hu,fZ,b2,h6,gC,xb,f1.run mP]
       ·cases ok
        ·simpa using f2
        ·simp only[if_true,a8];exact⟨_,rfl,by simp only[cX];exact⟨_,_,rfl,f2,_,_,rfl,by simp[a8],rfl⟩⟩
      ·rename_i hm;cases he;have f1:=N1 mP aF borns kvs us.toList 0 _ g5.1 g5.2.len hm;simp only at f1;refine⟨if ok then .tuple #[bS,.bool false]else bS,?_,?_⟩
       ·simp only[execOp];refine l6 ?_;simp only[Instr.lookup,fU,run_underlying hu,fZ,b2,h6,gC,xb,f1.run mP,jR]
       ·cases ok
        ·simpa using aa
        ·simp only[if_true,a8];exact⟨_,rfl,by simp only[cX];exact⟨_,_,rfl,aa,_,_,rfl,by simp[a8],rfl⟩⟩
      ·cases he
     ·cases he
    ·cases he
   ·cases Mr
  ·cases J
 ·rename_i x o;have aq:=et aM ay;simp only[hE]at he;unfold qn at he;split at he
  ·rename_i fF ab;rw[ab]at aq;simp only[a8]at aq;obtain⟨bl,b1,b2⟩:=aq;split at he
   ·rename_i since seen last mk hY;obtain⟨iX,us,el,g1,g2,g3,g4,g5⟩:=aM.good.box fF _ hY;rw[b1]at g1;cases g1;simp only[kl]at g4;simp only[jP,cX,a8]at g5;obtain⟨u,cj,rL,⟨mb,m1,rfl⟩,rfl⟩:=g5;rw[rL]at g4;simp only at g4;split at he
    ·rename_i clock borns kvs aix;obtain⟨arH,tA,asa,aS,bf,b4,ep,df⟩:=aM.good.box mk _ aix;rw[m1]at aS;cases aS;simp only[kl]at ep;simp only[jP]at df;split at he
     ·rename_i n au;simp only[gv]at he;obtain⟨q,bE,he⟩:=he;cases he;obtain⟨e,f1,f2⟩:=Xx borns kvs tA.toList p df.1 bE;refine⟨.tuple #[e.key,e.val],?_,f2⟩;simp only[execOp];refine l6 ?_;have ah6:(getObj bl).run P w= .ok (.mapIter (some mb) since seen.toArray last) w:=wA g4;have ah7:(getObj mb).run P w= .ok (.map (fQ borns tA.toList).toArray clock) w:=wA ep;have Mi:seen.toArray.back? =some n:=by simpa using au
      have A5:(clock !=last)=false:=by simp[ao]
      have ahZ:(fQ borns tA.toList).toArray.find? (·.born==n)=some e:=by simpa using f1
      simp only[Instr.entry,b2,fU,ah6,fZ,Mi,ah7,A5,hg,if_false,ahZ,gC]
     ·cases he
    ·cases he
   ·cases he
  ·cases he
 ·rename_i x o t;simp only[cr]at ay;obtain⟨J,U⟩:=ay;have aq:=et aM U;simp only[hE]at he;unfold BT at he;split at he
  ·rename_i key ad;rw[ad]at aq;simp only[a8]at aq;obtain⟨bl,b1,b2⟩:=aq;split at he
   ·rename_i clock borns kvs hY;cases he;obtain⟨iX,us,el,g1,g2,g3,g4,g5⟩:=aM.good.box key _ hY;rw[b1]at g1;cases g1;simp only[kl]at g4;simp only[jP]at g5;have h6:(getObj bl).run P w= .ok (.map (fQ borns us.toList).toArray clock) w:=wA g4;have hlen:(fQ borns us.toList).length=borns.length:=T2 g5.2.len (ZX g5.1);refine⟨.int .i64 borns.length,?_,by simp[a8]⟩;split at J
    ·rename_i aN;obtain⟨d,aG,fc⟩:=jw aI aN;obtain⟨nL,qc,rfl⟩:∃nL qc,d= .map nL qc:=by cases d<;>simp[kQ]at fc;exact⟨_,_,rfl⟩
     simp[execOp,resolve,invoke,builtin,Builtin.len_,run_underlying aG,b2,goInt,h6,hlen]
    ·cases J
   ·cases he
  ·cases he
 ·rename_i neg dQ x y op t o o' apw;simp only[cr,eN]at ay;obtain⟨⟨⟨rfl,bz⟩,J⟩,U⟩:=ay;have aq:=et aM J;have aF:=et aM U;simp only[hE]at he;unfold iW at he;split at he
  ·rename_i bk b3 bg ad;simp only at bz;cases he;rw[bg]at aq;rw[ad]at aF;simp only[a8]at aq aF;split at bz
   ·rename_i aN;obtain⟨d,aG,fc⟩:=jw aI aN;obtain rfl:d= .bool:=by cases d<;>simp[kQ]at fc;rfl
    refine⟨.bool (if neg then bk !=b3 else bk==b3),l6 ?_,by simp[a8]⟩;cases neg<;>simp[aq,aF,eqGuard,binOp,ado aG,bne]
   ·cases bz
  ·rename_i asw as e6 bg ad;simp only at bz;simp only[gv]at he;obtain⟨q,bE,he⟩:=he;cases he;rw[bg]at aq;rw[ad]at aF;simp only[a8]at aq aF;obtain⟨X,ac8,ant⟩:=aq;obtain⟨Y,ac9,anu⟩:=aF;obtain⟨gs,hu,aW,dd,js⟩:=UG aI bz;obtain⟨i1,_,_⟩:=T7 hu aW dd ant anu bE;refine⟨.bool (if neg then !q else q),l6 ?_,by simp[a8]⟩;rw[ac8,ac9];cases neg
   ·simp only[hg,if_false,fU,run_eqGuard_agg w _ t o o' X Y js,fZ,run_eql_struct,i1]
   ·simp only[if_true,fU,run_eqGuard_agg w _ t o o' X Y js,fZ,run_neq_struct,i1]
  ·cases he
 ·rename_i x y o o' t du;simp only[cr]at ay;have aq:=et aM ay.1;have aF:=et aM ay.2;simp only[hE]at he;unfold Im at he;split at he
  ·rename_i k m bI n hm au;split at he
   ·rename_i ae;subst ae;cases he;rw[hm]at aq;rw[au]at aF;simp only[a8]at aq aF;exact⟨.int k (if m<n then n else m),by simp[execOp,resolve,invoke,builtin,Builtin.max_,Builtin.max2,aq,aF],by simp[a8]⟩
   ·cases he
  ·cases he
 ·rename_i t x du o;simp only[cr,dM]at ay;obtain⟨⟨rfl,J⟩,U⟩:=ay;have aq:=et aM U;simp only[hE]at he;cases he;split at J
  ·rename_i aN;obtain⟨d,aG,fc⟩:=jw aI aN;obtain rfl:=tT fc;refine⟨.iface t (a.eval o),l6 (by simp[Instr.makeInterface,run_underlying aG]),?_⟩;simp only[a8];exact⟨_,rfl,aq⟩
  ·cases J
 ·rename_i agg sz x t o;simp only[cr]at ay;obtain⟨J,U⟩:=ay;split at J
  ·rename_i f aN;simp only[cr,dM]at J;obtain⟨rfl,rfl⟩:=J;obtain⟨v,g1,g2⟩:=Ih aI aM.good aN (et aM U) (akj (by simpa only[hE]using he)) ao;exact⟨v,l6 g1,g2⟩
  ·cases J
 ·rename_i agg sz x t o;simp only[cr]at ay;obtain⟨J,U⟩:=ay;split at J
  ·rename_i f aN;simp only[cr,dM]at J;obtain⟨rfl,rfl⟩:=J;obtain⟨v,g1,g2⟩:=Ih aI aM.good aN (et aM U) (agt (by simpa only[hE]using he)) ao;exact⟨v,l6 g1,g2⟩
  ·cases J
 ·exact absurd rfl (ahF _ _ _ _ _)
 ·cases ay
theorem apH{P:cK}{bC:List (Nat×dy)}(aI:fJ P bC=true){C:fp}{st:bn}{a:Act}{w:World}{Z:bc}(aM:c2 C st a w Z){i:gh}{o:Oper}(ay:FE bC i o.op=true)
  {c:Prop} {p:aj} (he:hE st i=some (c,p)) (ao:c):∃v,(execOp a.eval o).run P w= .ok (.value v) w/\a8 w Z p v:=by
 by_cases ad:∃ch z ok x k,i= .mgetB ch z ok x k
 ·obtain⟨ch,z,ok,x,k,rfl⟩:=ad;refine aaN aI aM (i:= .mget ch z ok x k) (fun _ _ _ _ _ e=>by cases e) ?_ he ao;obtain⟨dst,op,type,pos,after,guard⟩:=o;cases op<;>first|exact ay|simp[FE]at ay
 ·exact aaN aI aM (fun ch z ok x k e=>ad ⟨ch,z,ok,x,k,e⟩) ay he ao
theorem TD{w:World}{o:Obj}{b i:Nat}(h:b<w.heap.size):(w.alloc o).cell? ⟨b,i,none⟩=w.cell? ⟨b,i,none⟩:=World.cell?_of_block (Below.heap_alloc w o b h)
def bc.withBox(Z:bc)(k:aL)(bl:Nat):bc:={Z with bx:=fun j=>if j=k then some bl else Z.bx j}
def bc.withOwn(Z:bc)(k:aL)(n:Nat)(v:Value):bc:={Z with ow:=fun j=>if j=k then some (n,v)else Z.ow j}
theorem c2.lookNone{C:fp}{st:bn}{a:Act}{w:World}{Z:bc}(h:c2 C st a w Z){k:aL}(ae:fresh st.n st.o k):look k st.b=none/\look k st.e=none:=by
 obtain⟨J,U,_⟩:=h.new k ae;constructor
 ·cases ad:look k st.b with
  |none=>rfl
  |some cs=>obtain⟨bl,us,el,g1,_⟩:=h.good.box _ _ ad;rw[J]at g1;cases g1
 ·cases ad:look k st.e with
  |none=>rfl
  |some o=>obtain⟨v,us,g1,_⟩:=h.good.own _ _ ad;rw[U]at g1;cases g1
theorem Good.ownLt{pr:Nat->Prop}{w:World}{Z:bc}{b:List (aL×List aj)}{e:List (aL×fP)}(h:Good pr w Z b e){g:aL}{o:fP}(aW:look g e=some o){n:Nat}{v:Value}(az:Z.ow g=some (n,v)){bl:Nat}(ad:v.ownBlock=some bl):bl<w.heap.size:=by obtain⟨v',us,g1,g2,_⟩:=h.own g o aW;rw[az]at g1;cases g1;exact(g2.lt bl ad).2
theorem Good.boxLt{pr:Nat->Prop}{w:World}{Z:bc}{b:List (aL×List aj)}{e:List (aL×fP)}(h:Good pr w Z b e){k:aL}{cs:List aj}(ae:look k b=some cs){bl:Nat}(ad:Z.bx k=some bl):bl<w.heap.size:=by obtain⟨iX,us,el,g1,_,_,g4,_⟩:=h.box k cs ae;rw[ad]at g1;cases g1;exact(Array.getElem?_eq_some_iff.1 g4).1
theorem c2.newBox{C:fp}{st:bn}{a:Act}{w:World}{Z:bc}(h:c2 C st a w Z){hp:aL}(yY:Z.bx hp=none/\Z.ow hp=none/\∀j b,¬Z.tr hp j b){n':Nat}{o':List aL}(cU:∀j,fresh n' o' j->fresh st.n st.o j/\j≠hp){cs:List aj}{us:Array Value}(el:hh)(ao:jP w Z cs us.toList):
  c2 C {st with b:=cB hp cs st.b,n:=n',o:=o'} a (w.alloc (kl cs us el)) (Z.withBox hp w.heap.size)/\
  a8 (w.alloc (kl cs us el)) (Z.withBox hp w.heap.size) (.ptr hp 0) (.pointer (some ⟨w.heap.size,0,none⟩)):=by
 obtain⟨sO,DV,aiD⟩:=yY;have ay:ma w Z (w.alloc (kl cs us el)) (Z.withBox hp w.heap.size):=by
  refine⟨fun b o be=>⟨be,TD (h.good.alt b o be)⟩,fun k b _ ae=>?_,fun g n u _ aW=>⟨n,u,aW,.inl ⟨rfl,rfl⟩⟩,fun b o be=>xY (Below.heap_alloc w _ b (h.good.alt b o be)),fun _ _ _ _ h=>h⟩;have:k≠hp:=fun e=>by subst e;rw[sO]at ae;cases ae
  simp[bc.withBox,this,ae]
 have dS:(w.alloc (kl cs us el)).heap.size=w.heap.size+1:=by simp
 have la:∀k,(look k (cB hp cs st.b)).isSome->k=hp\/(k≠hp/\(look k st.b).isSome/\(Z.withBox hp w.heap.size).bx k=Z.bx k):=by
  intro k ae;by_cases e:k=hp
  ·exact .inl e
  ·rw[ju,if_neg (lR e)]at ae;exact .inr ⟨e,ae,by simp[bc.withBox,e]⟩
 refine⟨h.over ay rfl ⟨fun bl o be=>by rw[dS];have:=h.good.alt bl o be;omega,fun k e2 ae=>?_,fun k bI bl ae nD aq aF=>?_,fun g o aW=>?_,h.good.oinj,fun g k n v bl aW ae az ad ab=>?_,fun k=>?_,fun bl ad k j aI=>?_⟩
  ⟨h.fr.os,h.fr.tape,h.fr.output,by rw[dS];have:=h.fr.size;omega,fun k ae hm=>?_,fun b o be=>?_,h.fr.fresh,fun n b ad=>?_,h.fr.obn,h.fr.row,h.fr.obr,h.fr.trd,fun k j b ad=>⟨(h.fr.trb k j b ad).1,by rw[dS];have:=(h.fr.trb k j b ad).2;omega⟩,fun k j b ad=>?_,fun b o be=>(ay.sh b o (h.fr.keep b o be).1).trans (h.fr.sh b o be)⟩ (fun m hm=>?_),?_⟩
 ·simp only at ae;rw[ju]at ae;by_cases e:hp=k
  ·rw[if_pos e]at ae;cases ae;subst e;refine⟨w.heap.size,us,el,by simp[bc.withBox],.inr h.fr.size,fun o be=>?_,heap_alloc_new w _,q8 ay ao⟩;have:=h.good.alt _ o be;omega
  ·rw[if_neg e]at ae;obtain⟨bl,cj,gj,g1,g2,g3,g4,g5⟩:=h.good.box k e2 ae;exact⟨bl,cj,gj,ay.bx _ _ trivial g1,g2,g3,by rw[Below.heap_alloc w _ bl (Array.getElem?_eq_some_iff.1 g4).1];exact g4,q8 ay g5⟩
 ·rcases la k ae with rfl|⟨iP,gB,jM⟩<;>rcases la bI nD with rfl|⟨m1,m2,m3⟩
  ·rfl
  ·exfalso;simp only[bc.withBox,if_true,dE]at aq;subst aq;rw[m3]at aF;obtain⟨e2,jr⟩:=fo.1 m2;have:=h.good.boxLt jr aF;omega
  ·exfalso;simp only[bc.withBox,if_true,dE]at aF;subst aF;rw[jM]at aq;obtain⟨e2,jr⟩:=fo.1 gB;have:=h.good.boxLt jr aq;omega
  ·rw[jM]at aq;rw[m3]at aF;exact h.good.inj k bI bl gB m2 aq aF
 ·obtain⟨v,xs,g1,g2,g3,g4⟩:=h.good.own g o aW;exact⟨v,xs,g1,g2.alloc _,g3,tp ay (fun _ _ _ h=>h) g4⟩
 ·rcases la k ae with rfl|⟨iP,gB,jM⟩
  ·simp only[bc.withBox,if_true,dE]at ab;subst ab;obtain⟨o,ik⟩:=fo.1 aW;have:=h.good.ownLt ik az ad;omega
  ·rw[jM]at ab;exact h.good.obx g k n v bl aW gB az ad ab
 ·by_cases e:k=hp
  ·subst e;exact .inr DV
  ·rcases h.good.one k with J|J
   ·exact .inl (by simp[bc.withBox,e,J])
   ·exact .inr J
 ·rcases ad with⟨bI,bA,a2⟩|ad
  ·rcases la bI bA with rfl|⟨iP,gB,jM⟩
   ·simp[bc.withBox]at a2;subst a2;exact absurd (h.fr.trb k j _ aI).2 (Nat.lt_irrefl _)
   ·exact h.good.otr bl (.inl ⟨bI,gB,by rw[<-jM];exact a2⟩) k j aI
  ·exact h.good.otr bl (.inr ad) k j aI
 ·rw[Below.heap_alloc w _ k (by have:=h.fr.size;omega)];exact h.fr.block k ae hm
 ·obtain⟨aS,bf⟩:=h.fr.keep b o be;exact⟨aS,(TD (h.good.alt b o aS)).trans bf⟩
 ·exact ay.bx _ _ trivial (h.fr.obj n b ad)
 ·have cA:k≠hp:=fun e=>by subst e;exact aiD j b ad
  obtain⟨t1,t2⟩:=h.fr.trn k j b ad;exact⟨by simp[bc.withBox,cA,t1],t2⟩
 ·obtain⟨f1,f2⟩:=cU m hm;obtain⟨aS,bf⟩:=h.new m f1;refine⟨?_,bf⟩;simp[bc.withBox,f2,aS]
 ·simp[a8,bc.withBox]
theorem c2.setBox{C:fp}{st:bn}{a:Act}{w w':World}{Z:bc}(h:c2 C st a w Z){k:aL}{cs cs':List aj}(ae:look k st.b=some cs){bl:Nat}(ad:Z.bx k=some bl){us:Array Value}{el:hh}
  (Bi:w'.os=w.os) (MY:w'.tape=w.tape) (MK:w'.output=w.output) (oh:∀j,j≠bl->w'.heap[j]? =w.heap[j]?) (dS:w'.heap.size=w.heap.size) (ku:w'.heap[bl]? =some (kl cs' us el)) (ao:jP w Z cs' us.toList):
  c2 C {st with b:=cB k cs' st.b} a w' Z/\ma w Z w' Z:=by
 obtain⟨iX,fO,ar9,g1,g2,g3,g4,g5⟩:=h.good.box k cs ae;rw[ad]at g1;cases g1;have ay:ma w Z w' Z:=by
  refine⟨fun b o be=>⟨be,World.cell?_of_block (oh b fun e=>?_)⟩,fun _ _ _ h=>h,fun g n u _ aW=>⟨n,u,aW,.inl ⟨rfl,rfl⟩⟩,fun b o be=>xY (oh b fun e=>?_),fun _ _ _ _ h=>h⟩<;>
  (subst e;exact g3 o be)
 have Hq:∀j,(look j (cB k cs' st.b)).isSome->(look j st.b).isSome:=by
  intro j ag;rw[ju]at ag;by_cases e:k=j
  ·subst e;simp[ae]
  ·rwa[if_neg e]at ag
 refine⟨h.over ay rfl ⟨fun b o be=>by rw[dS];exact h.good.alt b o be,fun j e2 ag=>?_,fun j dJ b ag jX=>h.good.inj j dJ b (Hq j ag) (Hq dJ jX),fun g o aW=>?_,h.good.oinj,fun g j n v b aW ag=>h.good.obx g j n v b aW (Hq j ag),h.good.one,fun bl ad=>h.good.otr bl (ad.imp (fun⟨k,J,U⟩=>⟨k,Hq k J,U⟩) id)⟩
  ⟨Bi.trans h.fr.os,MY.trans h.fr.tape,MK.trans h.fr.output,by rw[dS];exact h.fr.size,fun j ag hm=>?_,fun b o be=>?_,h.fr.fresh,h.fr.obj,h.fr.obn,h.fr.row,h.fr.obr,h.fr.trd,fun k j b ad=>⟨(h.fr.trb k j b ad).1,by rw[dS];exact(h.fr.trb k j b ad).2⟩,h.fr.trn,fun b o be=>(ay.sh b o (h.fr.keep b o be).1).trans (h.fr.sh b o be)⟩ h.new,ay⟩
 ·simp only at ag;rw[ju]at ag;by_cases e:k=j
  ·rw[if_pos e]at ag;cases ag;subst e;exact⟨bl,us,el,ad,g2,g3,ku,q8 ay ao⟩
  ·rw[if_neg e]at ag;obtain⟨b,cj,gj,aq,aF,bB,ds,ie⟩:=h.good.box j e2 ag;refine⟨b,cj,gj,aq,aF,bB,?_,q8 ay ie⟩;rw[oh b fun fE=>e (h.good.inj k j bl (by simp[ae]) (by simp[ag]) ad (by rw[<-fE];exact aq))];exact ds
 ·obtain⟨v,xs,aq,aF,bB,ds⟩:=h.good.own g o aW;refine⟨v,xs,aq,⟨aF.1,?_⟩,bB,tp ay (fun _ _ _ h=>h) ds⟩;rcases aF.2 with aF|⟨bb,cap,cur,f1,f2,f3,f4⟩
  ·exact .inl aF
  ·refine .inr ⟨bb,cap,cur,f1,f2,?_,f4⟩;rw[oh bb fun fE=>h.good.obx g k o.n v bl (by simp[aW]) (by simp[ae]) aq (by rw[f1,<-fE];rfl) ad];exact f3
 ·rw[oh j fun e=>by subst e;exact g2.elim hm (fun g2=>Ω)];exact h.fr.block j ag hm
 ·obtain⟨aS,bf⟩:=h.fr.keep b o be;exact⟨aS,(ay.A b o aS).2.trans bf⟩
theorem c2.storeBox{C:fp}{st:bn}{a:Act}{w:World}{Z:bc}(h:c2 C st a w Z){k:aL}{cs cs':List aj}(ae:look k st.b=some cs){bl:Nat}(ad:Z.bx k=some bl)(bF:h9 cs=true){us:Array Value}(ao:dm w Z cs' us.toList):
  c2 C {st with b:=cB k cs' st.b} a (w.setRow bl us) Z:=by
 obtain⟨iX,fO,el,g1,g2,g3,g4,g5⟩:=h.good.box k cs ae;rw[ad]at g1;cases g1;rw[wj bF]at g4;have V6:=Co ao;exact(h.setBox (w':=w.setRow bl us) ae ad (us:=us) (el:=el) rfl rfl rfl (fun j ag=>setRow_other w bl j us ag) (setRow_size w bl us) (by rw[wj V6];exact setRow_heap w bl fO us el _ g4) (by rw[wk V6];exact ao)).1
def bc.withRowOf(Z:bc)(k:aL)(v:Value)(n cells:Nat):bc:={A:=fun b o=>Z.A b o\/(v.ownBlock=some b/\o<cells),bx:=Z.bx,ow:=fun j=>if j=k then some (n,v)else Z.ow j,tr:=Z.tr}
theorem BH{w:World}{A:Nat->Nat->Prop}{b:Nat}:∀(us:List Value) (off:Nat),(∀j u,us[j]? =some u->A b (off+j)/\w.cell? ⟨b,off+j,none⟩=some u)->mx w A b off us
 |[],_,_=>trivial
 |u::us,off,h=>⟨h 0 u rfl,BH us (off+1) fun j x ag=>by have:=h (j+1) x (by simpa using ag);rwa[show off+(j+1)=off+1+j from by omega]at this⟩
theorem GF{w w':World}(aW:w.grownBy w' none){b i:Nat}(h:b<w.heap.size):w'.cell? ⟨b,i,none⟩=w.cell? ⟨b,i,none⟩:=World.cell?_of_block (aW.block b h Ψ)
theorem c2.newRowM{C:fp}{st:bn}{a:Act}{w w':World}{Z:bc}(h:c2 C st a w Z){k:aL}{xs:List aj}(ae:(Z.bx k=none/\Z.ow k=none/\∀j b,¬Z.tr k j b)\/ ∃o,look k st.e=some o/\o.n<xs.length){el sz:Nat}{v:Value}{us:List Value}
  (aW:w.grownBy w' none) (mo:w'.ownsRow w.heap.size el sz v xs.length us) (ao:dH w Z sz xs us) (h7:xs.length<=lim) {n':Nat} {o':List aL} (cU:∀j,fresh n' o' j->fresh st.n st.o j/\j≠k):
  c2 C {st with e:=cB k ⟨xs.length,el,sz,some xs⟩ st.e,n:=n',o:=o'} a w' (Z.withOwn k xs.length v)/\
  ((∃b cap,v= .slice (some ⟨b,0,none⟩) xs.length cap)->a8 w' (Z.withOwn k xs.length v) (.row sz k xs.length) v):=by
 have qM:∀bl,v.ownBlock=some bl->w.heap.size<=bl/\bl<w'.heap.size:=fun bl ad=>mo.lt bl ad;have ay:ma w Z w' (Z.withOwn k xs.length v):=by
  refine⟨fun b o be=>⟨be,GF aW (h.good.alt b o be)⟩,fun j b _ ag=>ag,fun g n u _ js=>?_,fun b o be=>xY (aW.block b (h.good.alt b o be) Ψ),fun _ _ _ _ h=>h⟩;by_cases e:g=k
  ·subst e;rcases ae with ae|⟨o,ay,bs⟩
   ·rw[ae.2.1]at js;cases js
   ·obtain⟨v0,fO,aq,_⟩:=h.good.own g o ay;rw[aq]at js;cases js;exact⟨xs.length,v,by simp[bc.withOwn],.inr bs⟩
  ·exact⟨n,u,by simp[bc.withOwn,e,js],.inl ⟨rfl,rfl⟩⟩
 have lF:∀g,(look g (cB k ⟨xs.length,el,sz,some xs⟩ st.e)).isSome->g=k\/(g≠k/\(look g st.e).isSome/\(Z.withOwn k xs.length v).ow g=Z.ow g):=by
  intro g kt;by_cases e:g=k
  ·exact .inl e
  ·rw[ju,if_neg (lR e)]at kt;exact .inr ⟨e,kt,by simp[bc.withOwn,e]⟩
 have V1:∀bl,v.ownBlock=some bl->∀j,¬Z.A bl j:=fun bl ad j be=>by have J:=h.good.alt bl j be;have:=(qM bl ad).1;omega
 have aiK:∀j b,¬Z.tr k j b:=fun j b ad=>by
  rcases ae with ae|⟨o,ik,_⟩
  ·exact ae.2.2 j b ad
  ·obtain⟨v0,fO,aq,_⟩:=h.good.own k o ik;rw[(h.fr.trn k j b ad).2]at aq;cases aq
 refine⟨h.over ay rfl ⟨fun bl o be=>?_,fun j e2 ag=>?_,h.good.inj,fun g o eA=>?_,fun g fb n n' u fl bl J U h3 h4 h5 c9=>?_,fun g j n u bl J U h3 h4 h5=>?_,fun j=>?_,fun bl ad bI j aI=>?_⟩
  ⟨aW.os.trans h.fr.os,aW.tape.trans h.fr.tape,aW.output.trans h.fr.output,ha h.fr.size aW.size,fun j ag hm=>?_,fun b o be=>?_,h.fr.fresh,h.fr.obj,h.fr.obn,fun m n u hm=>Fj (h.fr.row m n u hm) (fun n u=>ay.ow _ n u trivial),h.fr.obr,h.fr.trd,fun k j b ad=>⟨(h.fr.trb k j b ad).1,Nat.lt_of_lt_of_le (h.fr.trb k j b ad).2 aW.size⟩,fun bI j b ad=>?_,fun b o be=>(ay.sh b o (h.fr.keep b o be).1).trans (h.fr.sh b o be)⟩ (fun m hm=>?_),?_⟩
 ·have:=h.good.alt bl o be;have:=aW.size;omega
 ·obtain⟨bl,cj,gj,g1,g2,g3,g4,g5⟩:=h.good.box j e2 ag;have bs:=(Array.getElem?_eq_some_iff.1 g4).1;exact⟨bl,cj,gj,g1,g2,g3,by rw[aW.block bl bs Ψ];exact g4,q8 ay g5⟩
 ·simp only at eA;rw[ju]at eA;by_cases e:k=g
  ·rw[if_pos e]at eA;cases eA;subst e;refine⟨v,us,by simp[bc.withOwn],⟨mo.1,?_⟩,fun bl ad=>⟨.inr (ha h.fr.size (qM bl ad).1),fun j be=>absurd be (V1 bl ad j)⟩,fun ys aC=>?_⟩
   ·rcases mo.2 with aq|⟨bb,cap,cur,f1,f2,f3⟩
    ·exact .inl aq
    ·exact .inr ⟨bb,cap,cur,f1,Ω,f3⟩
   ·simp only[dE]at aC;subst aC;exact⟨rfl,Cl ay ao,V1⟩
  ·rw[if_neg e]at eA;obtain⟨v0,fO,aq,aF,bB,ds⟩:=h.good.own g o eA;exact⟨v0,fO,by simp[bc.withOwn,lR e,aq],aF.kept aW (by cases v0.ownBlock<;>simp),bB,tp ay (fun _ _ _ h=>h) ds⟩
 ·rcases lF g J with rfl|⟨iP,gB,jM⟩<;>rcases lF fb U with rfl|⟨m1,m2,m3⟩
  ·rfl
  ·exfalso;simp only[bc.withOwn,if_true,dE,j7]at h3;rw[m3]at h4;obtain⟨o,ik⟩:=fo.1 m2;have av:=h.good.ownLt ik h4 c9;have:=(qM bl (by rw[h3.2];exact h5)).1;omega
  ·exfalso;simp only[bc.withOwn,if_true,dE,j7]at h4;rw[jM]at h3;obtain⟨o,ik⟩:=fo.1 gB;have av:=h.good.ownLt ik h3 h5;have:=(qM bl (by rw[h4.2];exact c9)).1;omega
  ·rw[jM]at h3;rw[m3]at h4;exact h.good.oinj g fb n n' u fl bl gB m2 h3 h4 h5 c9
 ·rcases lF g J with rfl|⟨iP,gB,jM⟩
  ·simp only[bc.withOwn,if_true,dE,j7]at h3;obtain⟨e2,jr⟩:=fo.1 U;have av:=h.good.boxLt jr h5;have:=(qM bl (by rw[h3.2];exact h4)).1;omega
  ·rw[jM]at h3;exact h.good.obx g j n u bl gB U h3 h4 h5
 ·by_cases e:j=k
  ·subst e;rcases ae with ae|⟨o,ik,_⟩
   ·exact .inl ae.1
   ·obtain⟨v0,fO,aq,_⟩:=h.good.own j o ik;rcases h.good.one j with J|J
    ·exact .inl J
    ·rw[J]at aq;cases aq
  ·rcases h.good.one j with J|J
   ·exact .inl J
   ·exact .inr (by simp[bc.withOwn,e,J])
 ·rcases ad with ad|⟨g,n,u,bA,a2,a3⟩
  ·exact h.good.otr bl (.inl ad) bI j aI
  ·rcases lF g bA with rfl|⟨iP,gB,jM⟩
   ·simp only[bc.withOwn,if_true,dE,j7]at a2;have J:=(qM bl (by rw[a2.2];exact a3)).1;have U:=(h.fr.trb bI j _ aI).2;omega
   ·exact h.good.otr bl (.inr ⟨g,n,u,gB,by rw[<-jM];exact a2,a3⟩) bI j aI
 ·rw[aW.block j (by have:=h.fr.size;omega) Ψ];exact h.fr.block j ag hm
 ·obtain⟨aS,bf⟩:=h.fr.keep b o be;exact⟨aS,(ay.A b o aS).2.trans bf⟩
 ·have cA:bI≠k:=fun e=>by subst e;exact aiK j b ad
  obtain⟨t1,t2⟩:=h.fr.trn bI j b ad;exact⟨t1,by simp[bc.withOwn,cA,t2]⟩
 ·obtain⟨f1,f2⟩:=cU m hm;obtain⟨aS,bf,b4⟩:=h.new m f1;refine⟨aS,?_,b4⟩;simp[bc.withOwn,f2,bf]
 ·intro Mv;simp only[a8];exact⟨Mv,h7,xs.length,v,by simp[bc.withOwn],dZ _,fun _=>rfl⟩
theorem c2.publish{C:fp}{st:bn}{a:Act}{w:World}{Z:bc}(h:c2 C st a w Z){k:aL}{o:fP}{xs:List aj}(ae:look k st.e=some o)(ab:o.xs=some xs){v:Value}(az:Z.ow k=some (o.n,v))(h7:xs.length<=lim):
  c2 C {st with e:=cB k ⟨o.n,o.el,o.sz,none⟩ st.e} a w (Z.withRowOf k v o.n (o.n*o.sz))/\
  a8 w (Z.withRowOf k v o.n (o.n*o.sz)) (.slice o.sz (.own k) xs) v:=by
 obtain⟨v0,us,a1,bm,bW,cZ⟩:=h.good.own k o ae;rw[az]at a1;cases a1;obtain⟨c6,o1,wm⟩:=cZ xs ab;have pE:∀g,(Z.withRowOf k v o.n (o.n*o.sz)).ow g=Z.ow g:=fun g=>by
  simp only[bc.withRowOf];split
  ·rename_i e;subst e;exact az.symm
  ·rfl
 have ay:ma w Z w (Z.withRowOf k v o.n (o.n*o.sz)):=⟨fun b o be=>⟨.inl be,rfl⟩,fun j b _ ag=>ag,fun g n u _ js=>⟨n,u,by rw[pE];exact js,.inl ⟨rfl,rfl⟩⟩,fun _ _ _=>rfl,fun _ _ _ _ h=>h⟩
 have lF:∀g,(look g (cB k ⟨o.n,o.el,o.sz,none⟩ st.e)).isSome->(look g st.e).isSome:=by
  intro g kt;by_cases e:k=g
  ·subst e;simp[ae]
  ·rwa[ju,if_neg e]at kt
 refine⟨h.over ay rfl ⟨fun bl i be=>?_,fun j e2 ag=>?_,h.good.inj,fun g o' eA=>?_,fun g fb n n' u fl bl J U h3 h4=>h.good.oinj g fb n n' u fl bl (lF g J) (lF fb U) (by rwa[pE]at h3) (by rwa[pE]at h4),fun g j n u bl J U h3=>h.good.obx g j n u bl (lF g J) U (by rwa[pE]at h3),fun j=>?_,fun bl ad=>h.good.otr bl (ad.imp id (fun⟨g,n,v,bA,a2,a3⟩=>⟨g,n,v,lF g bA,by rwa[pE]at a2,a3⟩))⟩
  ⟨h.fr.os,h.fr.tape,h.fr.output,h.fr.size,h.fr.block,fun b i be=>⟨.inl (h.fr.keep b i be).1,(h.fr.keep b i be).2⟩,fun b i be=>?_,h.fr.obj,h.fr.obn,fun m n u hm=>Fj (h.fr.row m n u hm) (fun n u=>ay.ow _ n u trivial),h.fr.obr,h.fr.trd,h.fr.trb,fun bI j b ad=>⟨(h.fr.trn bI j b ad).1,by rw[pE];exact(h.fr.trn bI j b ad).2⟩,h.fr.sh⟩ (fun m hm=>?_),?_⟩
 ·rcases be with be|⟨be,_⟩
  ·exact h.good.alt bl i be
  ·exact(bm.lt bl be).2
 ·obtain⟨bl,cj,gj,g1,g2,g3,g4,g5⟩:=h.good.box j e2 ag;refine⟨bl,cj,gj,g1,g2,fun i be=>?_,g4,q8 ay g5⟩;rcases be with be|⟨be,_⟩
  ·exact g3 i be
  ·exact h.good.obx k j o.n v bl (by simp[ae]) (by simp[ag]) az be g1
 ·simp only at eA;rw[ju]at eA;by_cases e:k=g
  ·rw[if_pos e]at eA;cases eA;subst e;refine⟨v,us,by rw[pE];exact az,bm,fun bl ad=>⟨(bW bl ad).1,fun j be=>?_⟩,fun ys aC=>by cases aC⟩;rcases be with be|⟨_,be⟩
   ·exact(bW bl ad).2 j be
   ·exact be
  ·rw[if_neg e]at eA;obtain⟨v0,fO,aq,aF,bB,ds⟩:=h.good.own g o' eA;have xa:∀bl,v0.ownBlock=some bl->∀j,(Z.withRowOf k v o.n (o.n*o.sz)).A bl j->Z.A bl j:=fun bl ad j be=>by
    rcases be with be|⟨be,_⟩
    ·exact be
    ·exact absurd (h.good.oinj k g o.n o'.n v v0 bl (by simp[ae]) (by simp[eA]) az aq be ad) e
   exact⟨v0,fO,by rw[pE];exact aq,aF,fun bl ad=>⟨(bB bl ad).1,fun j be=>(bB bl ad).2 j (xa bl ad j be)⟩,tp ay xa ds⟩
 ·rcases h.good.one j with J|J
  ·exact .inl J
  ·exact .inr (by rw[pE];exact J)
 ·rcases be with be|⟨be,_⟩
  ·exact h.fr.fresh b i be
  ·exact .inr (bW b be).1
 ·obtain⟨aS,bf,b4⟩:=h.new m hm;exact⟨aS,by rw[pE];exact bf,b4⟩
 ·simp only[a8];refine⟨?_,fun e=>(by cases e),fun g e=>?_,fun _ _ e=>(by cases e),fun _ e=>(by cases e)⟩
  ·rcases bm.2 with⟨aq,aF⟩|⟨bb,cap,cur,f1,f2,f3,f4,f5,f6,f7⟩
   ·refine⟨none,0,by rw[aq,c6,aF],Ω,⟨by simp[maxLen],h7⟩,.inl (List.eq_nil_of_length_eq_zero Ω)⟩
   ·refine⟨some ⟨bb,0,none⟩,cap,by rw[f1,c6],Ω,⟨f5,h7⟩,.inr ⟨bb,0,us,rfl,BH us 0 fun j u ag=>?_,Cl ay o1⟩⟩;have pH:v.ownBlock=some bb:=by rw[f1];rfl
    have Bc:j<us.length:=(fD.1 ag).1;refine⟨.inr ⟨pH,by rw[bm.1]at Bc;omega⟩,?_⟩;have:=bm.cells pH j u ag;rwa[p4]at this
  ·cases e;exact⟨o.n,v,by rw[pE];exact az,Ω,fun _=>rfl⟩
theorem aaE{α:Type}(k:aL)(p q:α):∀l,cB k q (cB k p l)=cB k q l
 |[]=>by simp[cB]
 |(i,r)::l=>by
  by_cases e:i=k
  ·simp[cB,e]
  ·simp[cB,e,aaE k p q l]
theorem c2.newRow{C:fp}{st:bn}{a:Act}{w w':World}{Z:bc}(h:c2 C st a w Z){k:aL}{xs:List aj}(ae:(Z.bx k=none/\Z.ow k=none/\∀j b,¬Z.tr k j b)\/ ∃o,look k st.e=some o/\o.n<xs.length){el sz:Nat}{v:Value}{us:List Value}
  (aW:w.grownBy w' none) (mo:w'.ownsRow w.heap.size el sz v xs.length us) (ao:dH w Z sz xs us) (h7:xs.length<=lim) {n':Nat} {o':List aL} (cU:∀j,fresh n' o' j->fresh st.n st.o j/\j≠k):
  c2 C {st with e:=cB k ⟨xs.length,el,sz,none⟩ st.e,n:=n',o:=o'} a w' ((Z.withOwn k xs.length v).withRowOf k v xs.length (xs.length*sz))/\
  a8 w' ((Z.withOwn k xs.length v).withRowOf k v xs.length (xs.length*sz)) (.slice sz (.own k) xs) v:=by
 have J:=(h.newRowM ae aW mo ao h7 cU).1;have U:=J.publish (k:=k) (o:=⟨xs.length,el,sz,some xs⟩) (xs:=xs) (v:=v) (by simp[ju]) rfl (by simp[bc.withOwn]) h7;simpa only[aaE]using U
theorem c2.setRowM{C:fp}{st:bn}{a:Act}{w w':World}{Z:bc}(h:c2 C st a w Z){k:aL}{o:fP}{xs xs':List aj}(ae:look k st.e=some o)(ab:o.xs=some xs){bl:Nat}{v v':Value}(az:Z.ow k=some (o.n,v))(pH:v.ownBlock=some bl)(HK:v'.ownBlock=some bl)
  (au:(xs'.length=o.n/\v'=v)\/o.n<xs'.length) {us:List Value} (Bi:w'.os=w.os) (MY:w'.tape=w.tape) (MK:w'.output=w.output) (oh:∀j,j≠bl->w'.heap[j]? =w.heap[j]?) (dS:w'.heap.size=w.heap.size)
  (mo:w'.ownsRow 0 o.el o.sz v' xs'.length us) (ao:dH w Z o.sz xs' us):
  c2 C {st with e:=cB k ⟨xs'.length,o.el,o.sz,some xs'⟩ st.e} a w' (Z.withOwn k xs'.length v')/\ma w Z w' (Z.withOwn k xs'.length v')/\(xs'.length<=lim->a8 w' (Z.withOwn k xs'.length v') (.row o.sz k xs'.length) v'):=by
 obtain⟨v0,fO,a1,bm,bW,cZ⟩:=h.good.own k o ae;rw[az]at a1;cases a1;obtain⟨c6,o1,wm⟩:=cZ xs ab;have ay:ma w Z w' (Z.withOwn k xs'.length v'):=by
  refine⟨fun b i be=>⟨be,World.cell?_of_block (oh b fun e=>by subst e;exact wm b pH i be)⟩,fun j b _ ag=>ag,fun g n u _ js=>?_,fun b i be=>xY (oh b fun e=>by subst e;exact wm b pH i be),fun _ _ _ _ h=>h⟩;by_cases e:g=k
  ·subst e;rw[az]at js;cases js;refine⟨xs'.length,v',by simp[bc.withOwn],?_⟩;rcases au with⟨J,U⟩|J
   ·exact .inl ⟨J,U⟩
   ·exact .inr J
  ·exact⟨n,u,by simp[bc.withOwn,e,js],.inl ⟨rfl,rfl⟩⟩
 have lF:∀g n u,(look g (cB k ⟨xs'.length,o.el,o.sz,some xs'⟩ st.e)).isSome->(Z.withOwn k xs'.length v').ow g=some (n,u)->∀b,u.ownBlock=some b->(look g st.e).isSome/\∃n u,Z.ow g=some (n,u)/\u.ownBlock=some b:=by
  intro g n u kt js b ad;by_cases e:g=k
  ·subst e;simp only[bc.withOwn,if_true,dE,j7]at js;rw[<-js.2,HK]at ad;cases ad;exact⟨by simp[ae],o.n,v,az,pH⟩
  ·rw[ju,if_neg (lR e)]at kt;simp only[bc.withOwn,e,if_false]at js;exact⟨kt,n,u,js,ad⟩
 refine⟨h.over ay rfl ⟨fun b i be=>by rw[dS];exact h.good.alt b i be,fun j e2 ag=>?_,h.good.inj,fun g o' eA=>?_,fun g fb n n' u fl b J U h3 h4 h5 c9=>?_,fun g j n u b J U h3 h4 h5=>?_,fun j=>?_,fun b ad=>h.good.otr b (ad.imp id (fun⟨g,n,v,bA,a2,a3⟩=>by obtain⟨b1,iP,jx,b2,gp⟩:=lF g n v bA a2 b a3;exact⟨g,iP,jx,b1,b2,gp⟩))⟩
  ⟨Bi.trans h.fr.os,MY.trans h.fr.tape,MK.trans h.fr.output,by rw[dS];exact h.fr.size,fun j ag hm=>?_,fun b i be=>?_,h.fr.fresh,h.fr.obj,h.fr.obn,fun m n u hm=>Fj (h.fr.row m n u hm) (fun n u=>ay.ow _ n u trivial),h.fr.obr,h.fr.trd,fun k j b ad=>⟨(h.fr.trb k j b ad).1,by rw[dS];exact(h.fr.trb k j b ad).2⟩,fun bI j b ad=>?_,fun b o be=>(ay.sh b o (h.fr.keep b o be).1).trans (h.fr.sh b o be)⟩ (fun m hm=>?_),ay,?_⟩
 ·obtain⟨b,cj,gj,g1,g2,g3,g4,g5⟩:=h.good.box j e2 ag;have cA:b≠bl:=fun e=>h.good.obx k j o.n _ bl (by simp[ae]) (by simp[ag]) az pH (by rw[<-e];exact g1);exact⟨b,cj,gj,g1,g2,g3,by rw[oh b cA];exact g4,q8 ay g5⟩
 ·simp only at eA;rw[ju]at eA;by_cases e:k=g
  ·rw[if_pos e]at eA;cases eA;subst e;refine⟨v',us,by simp[bc.withOwn],mo,fun b ad=>?_,fun ys aC=>?_⟩
   ·rw[HK]at ad;cases ad;exact⟨(bW bl pH).1,fun j be=>absurd be (wm bl pH j)⟩
   ·simp only[dE]at aC;subst aC;exact⟨rfl,Cl ay ao,fun b ad=>by rw[HK]at ad;cases ad;exact wm bl pH⟩
  ·rw[if_neg e]at eA;obtain⟨v0,fO,aq,aF,bB,ds⟩:=h.good.own g o' eA;have cA:∀b,v0.ownBlock=some b->b≠bl:=fun b ad Lp=>e (h.good.oinj k g o.n o'.n _ v0 bl (by simp[ae]) (by simp[eA]) az aq pH (by rw[<-Lp];exact ad));refine⟨v0,fO,by simp[bc.withOwn,lR e,aq],⟨aF.1,?_⟩,bB,tp ay (fun _ _ _ h=>h) ds⟩;rcases aF.2 with aF|⟨bb,Da,nx,f1,f2,f3,f4⟩
   ·exact .inl aF
   ·exact .inr ⟨bb,Da,nx,f1,f2,by rw[oh bb (cA bb (by rw[f1];rfl))];exact f3,f4⟩
 ·obtain⟨bA,iP,jx,a2,a3⟩:=lF g n u J h3 b h5;obtain⟨b1,gB,j5,b2,gp⟩:=lF fb n' fl U h4 b c9;exact h.good.oinj g fb iP gB jx j5 b bA b1 a2 b2 a3 gp
 ·obtain⟨bA,iP,jx,a2,a3⟩:=lF g n u J h3 b h4;exact h.good.obx g j iP jx b bA U a2 a3 h5
 ·by_cases e:j=k
  ·subst e;rcases h.good.one j with J|J
   ·exact .inl J
   ·rw[J]at az;cases az
  ·rcases h.good.one j with J|J
   ·exact .inl J
   ·exact .inr (by simp[bc.withOwn,e,J])
 ·rw[oh j fun e=>by subst e;exact(bW j pH).1.elim hm (fun g2=>Ω)];exact h.fr.block j ag hm
 ·obtain⟨aS,bf⟩:=h.fr.keep b i be;exact⟨aS,(ay.A b i aS).2.trans bf⟩
 ·obtain⟨t1,t2⟩:=h.fr.trn bI j b ad;have cA:bI≠k:=fun e=>by subst e;rw[t2]at az;cases az
  exact⟨t1,by simp[bc.withOwn,cA,t2]⟩
 ·obtain⟨aS,bf,b4⟩:=h.new m hm;refine⟨aS,?_,b4⟩;have:m≠k:=fun e=>by subst e;rw[bf]at az;cases az
  simp[bc.withOwn,this,bf]
 ·intro h7;simp only[a8];obtain⟨cap,Mv⟩:=YB mo HK;exact⟨⟨bl,cap,Mv⟩,h7,xs'.length,v',by simp[bc.withOwn],dZ _,fun _=>rfl⟩
theorem c2.inPlace{C:fp}{st:bn}{a:Act}{w:World}{Z:bc}(h:c2 C st a w Z){k:aL}{o:fP}(ae:look k st.e=some o){bl cap:Nat}{cur:Array Value}(az:Z.ow k=some (o.n,.slice (some ⟨bl,0,none⟩) o.n cap))
  (yT:w.heap[bl]? =some (.cells cur o.el (0,0))) (A4:cap<=maxLen) (dS:cur.size=cap*o.sz) {xs ys:List aj} {us ns:List Value} (pI:xs.length=o.n) (rL:cur.toList.take (o.n*o.sz)=us) (ao:dH w Z o.sz xs us) (A6:dH w Z o.sz ys ns)
  (fR:0<ys.length) (sR:o.n+ys.length<=cap) (h7:xs.length+ys.length<=lim):
  c2 C {st with e:=cB k ⟨o.n+ys.length,o.el,o.sz,none⟩ st.e} a (w.setRow bl (us++ns++cur.toList.drop (o.n*o.sz+ns.length)).toArray)
   (Z.withRowOf k (.slice (some ⟨bl,0,none⟩) (o.n+ys.length) cap) (o.n+ys.length) ((o.n+ys.length)*o.sz))/\
  a8 (w.setRow bl (us++ns++cur.toList.drop (o.n*o.sz+ns.length)).toArray) (Z.withRowOf k (.slice (some ⟨bl,0,none⟩) (o.n+ys.length) cap) (o.n+ys.length) ((o.n+ys.length)*o.sz))
   (.slice o.sz (.own k) (xs++ys)) (.slice (some ⟨bl,0,none⟩) (o.n+ys.length) cap):=by
 have kg:=uU A6;have sT:=uU ao;rw[pI]at sT;have hmul:(o.n+ys.length)*o.sz<=cap*o.sz:=rh _ sR;rw[p0]at hmul;obtain⟨v0,fO,a1,bm,bW,_⟩:=h.good.own k o ae;rw[az]at a1;cases a1;obtain⟨cZ,c6⟩:=bW bl rfl;generalize qj:w.setRow bl (us++ns++cur.toList.drop (o.n*o.sz+ns.length)).toArray=w';have oh:∀j,j≠bl->w'.heap[j]? =w.heap[j]?:=fun j ag=>by rw[<-qj];exact setRow_other w bl j _ ag
 have ku:w'.heap[bl]? =some (.cells (us++ns++cur.toList.drop (o.n*o.sz+ns.length)).toArray o.el (0,0)):=by rw[<-qj];exact setRow_heap w bl cur _ o.el _ yT
 have MU:w'.heap.size=w.heap.size:=by rw[<-qj];exact setRow_size w bl _
 have nB:∀j,j<o.n*o.sz->w'.cell? ⟨bl,j,none⟩=w.cell? ⟨bl,j,none⟩:=by intro j ag;simp only[World.cell?,ku,yT,k1,hg,if_false];rw[List.getElem?_toArray,List.append_assoc,List.getElem?_append_left Ω,<-rL,List.getElem?_take,if_pos ag];simp
 have ay:ma w Z w' (Z.withRowOf k (.slice (some ⟨bl,0,none⟩) (o.n+ys.length) cap) (o.n+ys.length) ((o.n+ys.length)*o.sz)):=by
  refine⟨fun b j be=>⟨.inl be,?_⟩,fun j b _ ag=>ag,fun g n u _ js=>?_,fun b j be=>?_,fun _ _ _ _ h=>h⟩;rotate_left 2
  ·by_cases e:b=bl
   ·subst e;simp only[shape,ku,yT,List.size_toArray,pc,tG,Array.length_toList];congr 2;omega
   ·exact xY (oh b e)
  ·by_cases e:b=bl
   ·subst e;exact nB j (c6 j be)
   ·exact World.cell?_of_block (oh b e)
  ·by_cases e:g=k
   ·subst e;rw[az]at js;cases js;exact⟨o.n+ys.length,.slice (some ⟨bl,0,none⟩) (o.n+ys.length) cap,by simp[bc.withRowOf],.inr Ω⟩
   ·exact⟨n,u,by simp[bc.withRowOf,e,js],.inl ⟨rfl,rfl⟩⟩
 have lF:∀g,(look g (cB k ⟨o.n+ys.length,o.el,o.sz,none⟩ st.e)).isSome->g=k\/(g≠k/\(look g st.e).isSome/\(Z.withRowOf k (.slice (some ⟨bl,0,none⟩) (o.n+ys.length) cap) (o.n+ys.length) ((o.n+ys.length)*o.sz)).ow g=Z.ow g):=by
  intro g kt;by_cases e:g=k
  ·exact .inl e
  ·rw[ju,if_neg (lR e)]at kt;exact .inr ⟨e,kt,by simp[bc.withRowOf,e]⟩
 have asF:bl<w.heap.size:=(Array.getElem?_eq_some_iff.1 yT).1;have ahK:∀j u,(us++ns)[j]? =some u->w'.cell? ⟨bl,j,none⟩=some u:=by intro j u ag;have Bc:=(fD.1 ag).1;simp only[World.cell?,ku,k1,hg,if_false];rw[List.getElem?_toArray,List.getElem?_append_left Bc];exact ag
 refine⟨h.over ay rfl ⟨fun b j be=>?_,fun j e2 ag=>?_,h.good.inj,fun g o' eA=>?_,fun g fb n n' u fl b J U h3 h4 h5 c9=>?_,fun g j n u b J U h3 h4 h5=>?_,fun j=>?_,fun b ad=>h.good.otr b ?_⟩
  ⟨by rw[<-qj];exact h.fr.os,by rw[<-qj];exact h.fr.tape,by rw[<-qj];exact h.fr.output,by rw[MU];exact h.fr.size,fun j ag hm=>?_,fun b j be=>?_,fun b j be=>?_,h.fr.obj,h.fr.obn,fun m n u hm=>Fj (h.fr.row m n u hm) (fun n u=>ay.ow _ n u trivial),h.fr.obr,h.fr.trd,fun k j b ad=>⟨(h.fr.trb k j b ad).1,by rw[MU];exact(h.fr.trb k j b ad).2⟩,fun bI j b ad=>?_,fun b o be=>(ay.sh b o (h.fr.keep b o be).1).trans (h.fr.sh b o be)⟩ (fun m hm=>?_),?_⟩
 ·rw[MU];rcases be with be|⟨be,_⟩
  ·exact h.good.alt b j be
  ·simp only[pb,dE]at be;omega
 ·obtain⟨b,cj,gj,g1,g2,g3,g4,g5⟩:=h.good.box j e2 ag;have cA:b≠bl:=fun e=>h.good.obx k j o.n _ bl (by simp[ae]) (by simp[ag]) az rfl (by rw[<-e];exact g1);refine⟨b,cj,gj,g1,g2,fun i be=>?_,by rw[oh b cA];exact g4,q8 ay g5⟩;rcases be with be|⟨be,_⟩
  ·exact g3 i be
  ·simp only[pb,dE]at be;exact cA be.symm
 ·simp only at eA;rw[ju]at eA;by_cases e:k=g
  ·rw[if_pos e]at eA;cases eA;subst e;refine⟨.slice (some ⟨bl,0,none⟩) (o.n+ys.length) cap,us++ns,by simp[bc.withRowOf],⟨by rw[pc,sT,kg,p0],.inr ⟨bl,cap,_,rfl,Nat.zero_le _,ku,sR,A4,?_,?_⟩⟩,fun b ad=>⟨?_,fun j be=>?_⟩,fun ys aC=>by cases aC⟩
   ·simp only[List.size_toArray,pc,tG,Array.length_toList];omega
   ·have av:(us++ns).length=(o.n+ys.length)*o.sz:=by rw[pc,sT,kg,p0]
    simp only[<-av];rw[List.take_append_of_le_length (dZ _),lQ]
   ·simp only[pb,dE]at ad;subst ad;exact cZ
   ·simp only[pb,dE]at ad;subst ad;rcases be with be|⟨_,be⟩
    ·have:=c6 j be;simp only;rw[p0];omega
    ·exact be
  ·rw[if_neg e]at eA;obtain⟨v0,fO,aq,aF,bB,ds⟩:=h.good.own g o' eA;have cA:∀b,v0.ownBlock=some b->b≠bl:=fun b ad Lp=>e (h.good.oinj k g o.n o'.n _ v0 bl (by simp[ae]) (by simp[eA]) az aq rfl (by rw[<-Lp];exact ad));have xa:∀b,v0.ownBlock=some b->∀j,(Z.withRowOf k (.slice (some ⟨bl,0,none⟩) (o.n+ys.length) cap) (o.n+ys.length) ((o.n+ys.length)*o.sz)).A b j->Z.A b j:=fun b ad j be=>by
    rcases be with be|⟨be,_⟩
    ·exact be
    ·simp only[pb,dE]at be;exact absurd be.symm (cA b ad)
   refine⟨v0,fO,by simp[bc.withRowOf,lR e,aq],⟨aF.1,?_⟩,fun b ad=>⟨(bB b ad).1,fun j be=>(bB b ad).2 j (xa b ad j be)⟩,tp ay xa ds⟩;rcases aF.2 with aF|⟨bb,Da,nx,f1,f2,f3,f4⟩
   ·exact .inl aF
   ·exact .inr ⟨bb,Da,nx,f1,f2,by rw[oh bb (cA bb (by rw[f1];rfl))];exact f3,f4⟩
 ·rcases lF g J with rfl|⟨iP,gB,jM⟩<;>rcases lF fb U with rfl|⟨m1,m2,m3⟩
  ·rfl
  ·exfalso;simp only[bc.withRowOf,if_true,dE,j7]at h3;rw[m3]at h4;rw[<-h3.2]at h5;simp only[pb,dE]at h5;subst h5;exact m1 (h.good.oinj fb g n' o.n fl _ bl m2 (by simp[ae]) h4 az c9 rfl)
  ·exfalso;simp only[bc.withRowOf,if_true,dE,j7]at h4;rw[jM]at h3;rw[<-h4.2]at c9;simp only[pb,dE]at c9;subst c9;exact iP (h.good.oinj g fb n o.n u _ bl gB (by simp[ae]) h3 az h5 rfl)
  ·rw[jM]at h3;rw[m3]at h4;exact h.good.oinj g fb n n' u fl b gB m2 h3 h4 h5 c9
 ·rcases lF g J with rfl|⟨iP,gB,jM⟩
  ·simp only[bc.withRowOf,if_true,dE,j7]at h3;rw[<-h3.2]at h4;simp only[pb,dE]at h4;subst h4;exact h.good.obx g j o.n _ bl (by simp[ae]) U az rfl h5
  ·rw[jM]at h3;exact h.good.obx g j n u b gB U h3 h4 h5
 ·by_cases e:j=k
  ·subst e;rcases h.good.one j with J|J
   ·exact .inl J
   ·rw[J]at az;cases az
  ·rcases h.good.one j with J|J
   ·exact .inl J
   ·exact .inr (by simp[bc.withRowOf,e,J])
 ·rcases ad with ad|⟨g,n,u,bA,a2,a3⟩
  ·exact .inl ad
  ·rcases lF g bA with rfl|⟨iP,gB,jM⟩
   ·simp only[bc.withRowOf,if_true,dE,j7]at a2;rw[<-a2.2]at a3;exact .inr ⟨g,_,_,by simp[ae],az,a3⟩
   ·exact .inr ⟨g,n,u,gB,by rw[<-jM];exact a2,a3⟩
 ·rw[oh j fun e=>by subst e;exact cZ.elim hm (fun g2=>Ω)];exact h.fr.block j ag hm
 ·obtain⟨aS,bf⟩:=h.fr.keep b j be;exact⟨.inl aS,(ay.A b j aS).2.trans bf⟩
 ·rcases be with be|⟨be,_⟩
  ·exact h.fr.fresh b j be
  ·simp only[pb,dE]at be;subst be;exact .inr cZ
 ·obtain⟨t1,t2⟩:=h.fr.trn bI j b ad;have cA:bI≠k:=fun e=>by subst e;rw[t2]at az;cases az
  exact⟨t1,by simp[bc.withRowOf,cA,t2]⟩
 ·obtain⟨aS,bf,b4⟩:=h.new m hm;refine⟨aS,?_,b4⟩;have:m≠k:=fun e=>by subst e;rw[bf]at az;cases az
  simp[bc.withRowOf,this,bf]
 ·simp only[a8];refine⟨⟨some ⟨bl,0,none⟩,cap,by simp[pI],by simp;omega,⟨A4,by simpa using h7⟩,.inr ⟨bl,0,us++ns,rfl,BH _ 0 fun j u ag=>?_,Fc (Cl ay ao) (Cl ay A6)⟩⟩,fun e=>(by cases e),fun g e=>?_,fun _ _ e=>(by cases e),fun _ e=>(by cases e)⟩
  ·have Bc:=(fD.1 ag).1;rw[Nat.zero_add];refine⟨.inr ⟨rfl,?_⟩,ahK j u ag⟩;rw[pc,sT,kg]at Bc;rw[p0];exact Bc
  ·cases e;exact⟨o.n+ys.length,.slice (some ⟨bl,0,none⟩) (o.n+ys.length) cap,by simp[bc.withRowOf],by simp[pI],fun _=>rfl⟩
theorem Jy{P:cK}{w:World}{t ty e:hh}{i:TypeInfo}(aI:P.underlying t=some (.slice e))(hi:P.info? e=some i)(b:Option Addr)(n cap:Nat)(au:n<=cap)(x:Option Addr)(c:Nat):
  (Builtin.append_ #[t,t] ty #[.slice b n cap,.slice x 0 c]).run P w= .ok (.slice b n cap) w:=by
 cases b<;>cases x<;>simp[Builtin.append_,run_underlying aI,sizeOf,typeInfo,hi,Builtin.lenOf,au,Builtin.firstCells,loadCells,loadCellsFrom,storeCells]
inductive ez where
 |v (d:Nat) (i:gh)
 |box (d:Nat) (key:Option Nat) (x:dv)
 |alloc (d:Nat) (key:Option Nat) (zero:aj)
 |store (sz:Nat) (x y:dv)
 |bsl (d:Nat) (sz el:Nat) (xs:List dv)
 |app (d:Nat) (sz el:Nat) (x y:dv)
 |bslm (d:Nat) (key:Option Nat) (sz el:Nat) (xs:List dv)
 |appm (d:Nat) (key:Option Nat) (sz el:Nat) (x y:dv)
 |mkmap (d:Nat) (key:Option Nat)
 |mput (ch:j9) (x k v:dv)
 |range (d:Nat) (key:Option Nat) (x:dv)
 |storeE (sz:Nat) (x y:dv)
 |mks (d:Nat) (key:Option Nat) (sz el:Nat) (z:aj) (x:dv)
def kk(st:bn):Option Nat->aL
 |none=>.loc st.n
 |some m=>.obj m
def q1(st:bn):Option Nat->Prop
 |none=>.loc st.n∉st.o
 |some m=>.obj m∉st.o
def ov(st:bn):Option Nat->Nat
 |none=>st.n+1
 |some _=>st.n
def ox(st:bn):Option Nat->List aL
 |none=>st.o
 |some m=>.obj m::st.o
theorem xK{st:bn}{key:Option Nat}(h:q1 st key):fresh st.n st.o (kk st key):=by cases key<;>simp[kk,fresh,q1]at h⊢ <;>exact h
theorem xL{st:bn}{key:Option Nat}:∀j,fresh (ov st key) (ox st key) j->fresh st.n st.o j/\j≠kk st key:=by
 intro j ag;cases key<;>cases j<;>simp[fresh,ov,ox,kk]at ag⊢
 ·exact⟨⟨Ω,ag.2⟩,Ω⟩
 ·exact ag
 ·exact ag
 ·exact⟨ag.2,ag.1⟩
def tO(sz:Nat):List aj->Prop
 |[]=>True
 |p::cy=>(e4 p=true/\(cells p).length=sz)/\tO sz cy
def ot(ch:j9)(k v:aj):List aj->Option (List aj)
 | .hdm clock borns::kvs=>if vV ch k=false then none else match td ch k v kvs with
  |some (some xE)=>some (.hdm clock borns::xE)
  |some none=>some (.hdm (clock+1) (borns++[clock])::(kvs++[k,v]))
  |none=>none
 |_=>none
def zK(m:aL):List aj->Option (List aj)
 | .hdm clock _::_=>some [.hdi clock [] clock,.gmap m]
 |_=>none
def tQ(st:bn)(sz el:Nat)(x y:aj):Option ((Option (aL×List aj))×List aj):=
 match x,y with
 | .slice dL .nil _,.slice jQ _ ys=>if dL=sz/\jQ=sz then some (none,ys)else none
 | .row dL k n,.slice jQ _ ys=>if dL=sz/\jQ=sz then
   match look k st.e with
   |some ⟨n',gj,x3,some xs⟩=>if n'=n/\gj=el/\x3=sz then some (some (k,xs),ys)else none
   |_=>none
  else none
 |_,_=>none
def qw:aj->Nat->List aj->aj
 | .agg e2,f,cs=>.agg (o3 e2 f cs)
 |_,_,[q]=>q
 |_,_,_=>.junk
def r4(st:bn)(sz:Nat)(p v:aj):Option (Prop×bn):=
 match p with
 | .rptr dL k n i f=>match look k st.e with
  |some ⟨n',el,jQ,some xs⟩=>if n'=n/\jQ=dL then
    match xs[i]? with
    |some q=>some (e4 q=true/\e4 v=true/\(cells v).length=sz/\f+sz<=(cells q).length/\0<sz,{st with e:=cB k ⟨n',el,jQ,some (xs.set i (qw q f (cells v)))⟩ st.e})
    |none=>none
   else none
  |_=>none
 |_=>none
def nb(st:bn):ez->Option (Prop×bn)
 | .mks d key sz el z x=>match cu st.t x with
  | .int _ n=>some (q1 st key/\0<=n/\n<=lim,
    {t:=put d (.row sz (kk st key) n.toNat) st.t,b:=st.b,e:=cB (kk st key) ⟨n.toNat,el,sz,some (List.replicate n.toNat z)⟩ st.e,n:=ov st key,o:=ox st key})
  |_=>none
 | .bslm d key sz el xs=>some (q1 st key/\tO sz (xs.map (cu st.t)),
   {t:=put d (.row sz (kk st key) xs.length) st.t,b:=st.b,e:=cB (kk st key) ⟨xs.length,el,sz,some (xs.map (cu st.t))⟩ st.e,n:=ov st key,o:=ox st key})
 | .appm d key sz el x y=>match tQ st sz el (cu st.t x) (cu st.t y)with
  |some (none,ys)=>some (q1 st key/\ys.length<=lim/\ys≠[],
    {t:=put d (.row sz (kk st key) ys.length) st.t,b:=st.b,e:=cB (kk st key) ⟨ys.length,el,sz,some ys⟩ st.e,n:=ov st key,o:=ox st key})
  |some (some (k,xs),ys)=>some (xs.length+ys.length<=lim,{st with t:=put d (.row sz k (xs.length+ys.length)) st.t,e:=cB k ⟨xs.length+ys.length,el,sz,some (xs++ys)⟩ st.e})
  |none=>none
 | .mkmap d key=>some (q1 st key,{t:=put d (.gmap (kk st key)) st.t,b:=cB (kk st key) [.hdm 0 []] st.b,e:=st.e,n:=ov st key,o:=ox st key})
 | .mput ch x k v=>match cu st.t x with
  | .gmap m=>match look m st.b with
   |some cs=>match ot ch (cu st.t k) (cu st.t v) cs with
    |some cs'=>some (True,{st with b:=cB m cs' st.b})
    |none=>none
   |none=>none
  |_=>none
 | .range d key x=>match cu st.t x with
  | .gmap m=>match look m st.b with
   |some cs=>match zK m cs with
    |some cs'=>some (q1 st key,{t:=put d (.ptr (kk st key) 0) st.t,b:=cB (kk st key) cs' st.b,e:=st.e,n:=ov st key,o:=ox st key})
    |none=>none
   |none=>none
  |_=>none
 | .v d i=>match hE st i with
  |some (c,p)=>some (c,{st with t:=put d p st.t})
  |none=>none
 | .storeE sz x y=>r4 st sz (cu st.t x) (cu st.t y)
 | .box d key x=>some (q1 st key/\e4 (cu st.t x)=true,
   {t:=put d (.ptr (kk st key) 0) st.t,b:=cB (kk st key) (cells (cu st.t x)) st.b,e:=st.e,n:=ov st key,o:=ox st key})
 | .alloc d key z=>some (q1 st key,{t:=put d (.ptr (kk st key) 0) st.t,b:=cB (kk st key) (cells z) st.b,e:=st.e,n:=ov st key,o:=ox st key})
 | .store sz x y=>match cu st.t x with
  | .ptr k off=>match look k st.b with
   |some cs=>some (h9 cs=true/\e4 (cu st.t y)=true/\(cells (cu st.t y)).length=sz/\off+sz<=cs.length,{st with b:=cB k (o3 cs off (cells (cu st.t y))) st.b})
   |none=>none
  |p=>r4 st sz p (cu st.t y)
 | .bsl d sz el xs=>some (q1 st none/\tO sz (xs.map (cu st.t)),
   {st with t:=put d (.slice sz (.own (.loc st.n)) (xs.map (cu st.t))) st.t,e:=cB (.loc st.n) ⟨xs.length,el,sz,none⟩ st.e,n:=st.n+1})
 | .app d sz el x y=>match cu st.t x,cu st.t y with
  | .slice dL tag xs,.slice jQ _ ys=>if dL=sz/\jQ=sz then
    match tag with
    | .own k=>match look k st.e with
     |some o=>some (o.n=xs.length/\o.el=el/\o.sz=sz/\xs.length+ys.length<=lim,
       {st with t:=put d (.slice sz (.own k) (xs++ys)) st.t,e:=cB k ⟨xs.length+ys.length,el,sz,none⟩ st.e})
     |none=>none
    | .nil=>some (q1 st none/\ys.length<=lim,{st with t:=put d (.slice sz (.own (.loc st.n)) ys) st.t,e:=cB (.loc st.n) ⟨ys.length,el,sz,none⟩ st.e,n:=st.n+1})
    |_=>none
   else none
  |_,_=>none
def eR(κ:aL)(n':Nat)(o':List aL)(st:bn):ez->Option (Prop×bn)
 | .mks d _ sz el z x=>match cu st.t x with
  | .int _ n=>some (0<=n/\n<=lim,
    {t:=put d (.row sz κ n.toNat) st.t,b:=st.b,e:=cB κ ⟨n.toNat,el,sz,some (List.replicate n.toNat z)⟩ st.e,n:=n',o:=o'})
  |_=>none
 | .bslm d _ sz el xs=>some (tO sz (xs.map (cu st.t)),
   {t:=put d (.row sz κ xs.length) st.t,b:=st.b,e:=cB κ ⟨xs.length,el,sz,some (xs.map (cu st.t))⟩ st.e,n:=n',o:=o'})
 | .appm d _ sz el x y=>match tQ st sz el (cu st.t x) (cu st.t y)with
  |some (none,ys)=>some (ys.length<=lim/\ys≠[],
    {t:=put d (.row sz κ ys.length) st.t,b:=st.b,e:=cB κ ⟨ys.length,el,sz,some ys⟩ st.e,n:=n',o:=o'})
  |some (some (k,xs),ys)=>some (xs.length+ys.length<=lim,{st with t:=put d (.row sz k (xs.length+ys.length)) st.t,e:=cB k ⟨xs.length+ys.length,el,sz,some (xs++ys)⟩ st.e})
  |none=>none
 | .mkmap d _=>some (True,{t:=put d (.gmap κ) st.t,b:=cB κ [.hdm 0 []] st.b,e:=st.e,n:=n',o:=o'})
 | .mput ch x k v=>match cu st.t x with
  | .gmap m=>match look m st.b with
   |some cs=>match ot ch (cu st.t k) (cu st.t v) cs with
    |some cs'=>some (True,{st with b:=cB m cs' st.b})
    |none=>none
   |none=>none
  |_=>none
 | .range d _ x=>match cu st.t x with
  | .gmap m=>match look m st.b with
   |some cs=>match zK m cs with
    |some cs'=>some (True,{t:=put d (.ptr κ 0) st.t,b:=cB κ cs' st.b,e:=st.e,n:=n',o:=o'})
    |none=>none
   |none=>none
  |_=>none
 | .v d i=>match hE st i with
  |some (c,p)=>some (c,{st with t:=put d p st.t})
  |none=>none
 | .storeE sz x y=>r4 st sz (cu st.t x) (cu st.t y)
 | .box d _ x=>some (e4 (cu st.t x)=true,{t:=put d (.ptr κ 0) st.t,b:=cB κ (cells (cu st.t x)) st.b,e:=st.e,n:=n',o:=o'})
 | .alloc d _ z=>some (True,{t:=put d (.ptr κ 0) st.t,b:=cB κ (cells z) st.b,e:=st.e,n:=n',o:=o'})
 | .store sz x y=>match cu st.t x with
  | .ptr k off=>match look k st.b with
   |some cs=>some (h9 cs=true/\e4 (cu st.t y)=true/\(cells (cu st.t y)).length=sz/\off+sz<=cs.length,{st with b:=cB k (o3 cs off (cells (cu st.t y))) st.b})
   |none=>none
  |p=>r4 st sz p (cu st.t y)
 | .bsl d sz el xs=>some (tO sz (xs.map (cu st.t)),
   {st with t:=put d (.slice sz (.own κ) (xs.map (cu st.t))) st.t,e:=cB κ ⟨xs.length,el,sz,none⟩ st.e,n:=n',o:=o'})
 | .app d sz el x y=>match cu st.t x,cu st.t y with
  | .slice dL tag xs,.slice jQ _ ys=>if dL=sz/\jQ=sz then
    match tag with
    | .own k=>match look k st.e with
     |some o=>some (o.n=xs.length/\o.el=el/\o.sz=sz/\xs.length+ys.length<=lim,
       {st with t:=put d (.slice sz (.own k) (xs++ys)) st.t,e:=cB k ⟨xs.length+ys.length,el,sz,none⟩ st.e})
     |none=>none
    | .nil=>some (ys.length<=lim,{st with t:=put d (.slice sz (.own κ) ys) st.t,e:=cB κ ⟨ys.length,el,sz,none⟩ st.e,n:=n',o:=o'})
    |_=>none
   else none
  |_,_=>none
def xO:Nat->List dv->List (Nat×Operand)->Bool
 |_,[],[]=>true
 |i,x::xs,(j,o)::os=>i==j&&er x o&&xO (i+1) xs os
 |_,_,_=>false
def Fl(N:Nat)(bC:List (Nat×dy))(i:ez)(o:Oper):Bool:=
 match i,o.op with
 | .mkmap d _,.makeMap _ none=>o.dst==some d&&decide (d<N)
 | .mput ch x k v,.mapUpdate t ei ee pO=>o.dst==none&&(match ej bC t with|some ⟨_,_,.map nL _,_⟩=>zi bC ch nL|_=>false)&&er x ei&&er k ee&&er v pO
 | .mput ch x k v,.insert t ei ee pO=>o.dst==none&&(match ej bC t with|some ⟨_,_,.map nL _,_⟩=>zi bC ch nL|_=>false)&&er x ei&&er k ee&&er v pO
 | .range d _ x,.range t ei=>o.dst==some d&&decide (d<N)&&(match ej bC t with|some ⟨_,_,.map _ _,_⟩=>true|_=>false)&&er x ei
 | .v d i,op=>o.dst==some d&&decide (d<N)&&FE bC i op
 | .box d _ x,.box _ o'=>o.dst==some d&&decide (d<N)&&er x o'
 | .alloc d _ z,.alloc el=>o.dst==some d&&decide (d<N)&&(match ej bC el with|some f=>CN z f.zero|none=>false)
 | .store sz x y,.store t o' jN=>o.dst==none&&(match ej bC t with|some f=>f.size==sz|none=>false)&&er x o'&&er y jN
 | .bsl d sz el xs,.buildSlice t len parts=>o.dst==some d&&decide (d<N)&&(match ej bC t with|some ⟨_,_,.slice gj,_⟩=>el==gj|_=>false)&&(match ej bC el with|some f=>f.size==sz&&decide (0<sz)|none=>false)
   &&len==xs.length&&decide (len*sz<=16777216)&&xO 0 xs parts.toList
 | .app d sz el x y,.call ⟨.builtin .append,⟨[o',jN]⟩,⟨[t,du]⟩⟩=>o.dst==some d&&decide (d<N)&&t==du&&(match ej bC t with|some ⟨_,_,.slice gj,_⟩=>el==gj|_=>false)
   &&(match ej bC el with|some f=>f.size==sz&&decide (0<sz)&&decide (f.bytes<=2048)|none=>false)&&er x o'&&er y jN
 | .bslm d _ sz el xs,.buildSlice t len parts=>o.dst==some d&&decide (d<N)&&(match ej bC t with|some ⟨_,_,.slice gj,_⟩=>el==gj|_=>false)&&(match ej bC el with|some f=>f.size==sz&&decide (0<sz)|none=>false)
   &&len==xs.length&&decide (len*sz<=16777216)&&xO 0 xs parts.toList
 | .appm d _ sz el x y,.call ⟨.builtin .append,⟨[o',jN]⟩,⟨[t,du]⟩⟩=>o.dst==some d&&decide (d<N)&&t==du&&(match ej bC t with|some ⟨_,_,.slice gj,_⟩=>el==gj|_=>false)
   &&(match ej bC el with|some f=>f.size==sz&&decide (0<sz)&&decide (f.bytes<=2048)|none=>false)&&er x o'&&er y jN
 | .storeE sz x y,.store t o' jN=>o.dst==none&&(match ej bC t with|some f=>f.size==sz|none=>false)&&er x o'&&er y jN
 | .mks d _ sz el z x,.makeSlice t o' jN=>o.dst==some d&&decide (d<N)&&(match ej bC t with|some ⟨_,_,.slice gj,_⟩=>el==gj|_=>false)
   &&(match ej bC el with|some f=>f.size==sz&&decide (0<sz)&&decide (f.bytes<=2048)&&CN z f.zero|none=>false)&&er x o'&&er x jN
 |_,_=>false
theorem Z6{w:World}{Z:bc}{C:fp}{st:bn}{a:Act}(aM:c2 C st a w Z){sz:Nat}:
  ∀(xs:List dv) (i:Nat) (os:List (Nat×Operand)) (pre:List aj) (us:Array Value) (a7:List Value),xO i xs os=true->tO sz (xs.map (cu st.t))->us.toList.take (i*sz)=a7->dH w Z sz pre a7->i=pre.length->us.size=(i+xs.length)*sz->
  ∃cj:Array Value,Instr.fill (fun i=>some (i*sz,sz)) us (os.map fun(x:Nat×Operand)=>(x.1,a.eval x.2))=some cj/\dH w Z sz (pre++xs.map (cu st.t)) cj.toList/\cj.size=us.size
 |[],i,[],pre,us,a7,_,_,az,h,hi,af=>by refine⟨us,by simp[Instr.fill],?_,rfl⟩;have av:=uU h;have:us.toList.take (i*sz)=us.toList:=hl (by simp at af⊢;omega);rw[this]at az;simpa[az]using h
 |[],_,_::_,_,_,_,eh,_,_,_,_,_=>by simp[xO]at eh
 |_::_,_,[],_,_,_,eh,_,_,_,_,_=>by simp[xO]at eh
 |x::xs,i,(j,o)::os,pre,us,a7,eh,bg,az,h,hi,af=>by
  simp only[xO,cr,dM]at eh;obtain⟨⟨rfl,J⟩,U⟩:=eh;simp only[gZ,tO]at bg;obtain⟨⟨iy,hlen⟩,bg⟩:=bg;have ab:=et aM J;have kf:=wx ab iy;have A5:=qu kf;have dj:(a.eval o).cells.size=sz:=by rw[hlen]at A5;simpa using A5
  have hmul:i*sz+sz<=us.size:=by rw[af,mG,show i+(xs.length+1)=(i+1)+xs.length from by omega,p0,Nat.succ_mul];omega
  have y9:=LP (w:=w) (Z:=Z) (a.eval o).cells.toList 0 (i*sz) us (by simp[dj];omega);have kh:dH w Z sz (pre++[cu st.t x]) (a7++(a.eval o).cells.toList):=by refine Fc h ?_;simp only[dH];exact⟨a.eval o,[],Ψ,⟨ab,dj,Cn kf⟩,rfl⟩
  have kv:a7.length=i*sz:=by rw[<-az];simp;omega
  obtain⟨cj,g1,g2,g3⟩:=Z6 aM xs (i+1) os (pre++[cu st.t x]) (((a.eval o).cells.toList.zipIdx 0).foldl (fun cs (x:Value×Nat)=>cs.setIfInBounds (i*sz+x.2) x.1) us) (a7++(a.eval o).cells.toList) U bg
   (by
    rw[y9];simp only[Nat.add_zero];rw[az];have:(a7++(a.eval o).cells.toList).length=(i+1)*sz:=by rw[pc,kv,Nat.succ_mul];simp[dj]
    rw[<-this,List.take_append_of_le_length (dZ _),lQ]) kh (by simp[hi])
   (by have bz:=eW List.length y9;simp only[Array.length_toList,pc,List.length_take,tG,dj]at bz;rw[bz,af,mG,show i+(xs.length+1)=i+1+xs.length from by omega];rw[af,mG,show i+(xs.length+1)=i+1+xs.length from by omega]at hmul;omega)
  refine⟨cj,?_,by simpa using g2,?_⟩
  ·simp only[gZ,Instr.fill];rw[if_neg (by simp[dj];omega),<-g1];congr 1;rw[<-Array.foldl_toList];simp
  ·rw[g3];have bz:=eW List.length y9;simp only[Array.length_toList,pc,List.length_take,tG,dj]at bz;rw[bz];omega
theorem nj{P:cK}{o:Oper}{a:Act}{w w':World}{v:Value}{K:Act->World->Prop}{Q:Exit->Act->World->Prop}(h:(execOp a.eval o).run P w= .ok (.value v) w')(ae:K (a.put o.dst v) w'):o.wp P a w K Q:=by unfold Oper.wp;rw[h];exact ae
theorem FQ{P:cK}{o:Oper}{a:Act}{w w':World}{K:Act->World->Prop}{Q:Exit->Act->World->Prop}(h:(execOp a.eval o).run P w= .ok .skip w')(ae:K (a.put o.dst undef) w'):o.wp P a w K Q:=by unfold Oper.wp;rw[h];exact ae
theorem FK{P:cK}{w w':World}{x:Sem Value}{v:Value}(h:x.run P w= .ok v w'):(do pure (Next.value (<-x)):Sem Next).run P w= .ok (.value v) w':=by simp[h]
theorem Z4{P:cK}{bC:List (Nat×dy)}(aI:fJ P bC=true){C:fp}{st:bn}{a:Act}{w:World}{Z:bc}(aM:c2 C st a w Z){t el:Nat}{f g:dy}(aN:ej bC t=some f)(ae:f.kind= .slice el)(aW:ej bC el=some g)
  {xs:List dv} {os:List (Nat×Operand)} (eh:xO 0 xs os=true) (dS:tO g.size (xs.map (cu st.t))) (hlen:xs.length*g.size<=16777216):
  ∃us:Array Value,(Instr.buildSlice t xs.length (os.map fun(x:Nat×Operand)=>(x.1,a.eval x.2)).toArray).run P w= .ok (.slice (some ⟨w.heap.size,0,none⟩) xs.length xs.length) (w.alloc (.cells us el))/\
   dH w Z g.size (xs.map (cu st.t)) us.toList/\us.size=xs.length*g.size:=by
 obtain⟨d,aG,fc⟩:=jw aI aN;rw[ae]at fc;obtain rfl:=tT fc;obtain⟨_,af⟩:=wE aI aW w;obtain⟨z,zd,Wr,asZ⟩:=P2 aI aW w;have au:¬xs.length*g.size>2 ^ 24:=Ω
 let init:Array Value:=if xs.length*g.size=0 then(Array.range (xs.length*g.size)).map ((#[]:Array Value)[· %(#[]:Array Value).size]!)else(Array.range (xs.length*g.size)).map (z.cells[· %z.cells.size]!)
 have VK:init.size=xs.length*g.size:=by simp only[init];split<;>simp
 obtain⟨cj,g1,g2,g3⟩:=Z6 (a:=a) aM xs 0 os [] init [] eh dS Ψ (by simp[dH]) rfl (by rw[VK];simp);refine⟨cj,?_,by simpa using g2,by rw[g3,VK]⟩;simp only[init]at g1;by_cases bz:xs.length*g.size=0
 ·rw[if_pos bz]at g1;rw[bz]at g1;have ahm:¬(0:Nat)>2 ^ 24:=by decide
  simp only[Instr.buildSlice,fU,run_underlying aG,fZ,af,if_false,gC,bz,if_true,ahm,g1,newRow,run_newObj];rfl
 ·rw[if_neg bz]at g1;simp only[Instr.buildSlice,fU,run_underlying aG,fZ,af,au,if_false,gC,bz,zd,g1,newRow,run_newObj];rfl
theorem EI{P:cK}{w:World}{Z:bc}{ch:j9}{t:hh}(aG:vc P ch t){k v:aj}{hq Qw:Value}(ae:a8 w Z k hq)(az:a8 w Z v Qw):
  ∀(borns:List Nat) (kvs:List aj) (us:List Value) (i:Nat) (r:Option (List aj)),cX w Z kvs us->kvs.length=2*borns.length->td ch k v kvs=some r->
  match r with
  |none=>iq P w ch t hq (fQ borns us) i none
  |some xE=> ∃j u cj e,iq P w ch t hq (fQ borns us) i (some (i+j,u))/\cX w Z xE cj/\xE.length=kvs.length/\(fQ borns us)[j]? =some e/\e.key=hq/\Instr.sameBits 10000 e.key hq=true/\fQ borns cj=(fQ borns us).modify j (fun e=>{e with key:=hq,val:=Qw})
 |[],[],us,i,r,h,_,hm=>by simp only[td]at hm;cases hm;simp only[cX]at h;subst h;simpa[fQ]using iq.nil P w ch t hq i
 |[],_::_,_,_,_,_,av,_=>by simp at av
 |b::e6,[],_,_,_,_,av,_=>by simp at av
 |b::e6,[_],_,_,_,_,av,_=>by simp at av;omega
 |b::e6,bI::v'::kvs,us,i,r,h,av,hm=>by
  simp only[cX]at h;obtain⟨jx,P7,rfl,J,j5,tA,rfl,U,h3⟩:=h;simp only[td]at hm;simp only[fQ];cases bE:rO ch k bI with
  |none=>simp[bE]at hm
  |some bb=>
   obtain⟨s1,s2⟩:=WY aG ae J bE;simp only[bE]at hm;cases bb with
   |true=>simp only[dE]at hm;subst hm;obtain⟨rfl,s3⟩:=s2 rfl;refine⟨0,j5,jx::Qw::tA,⟨jx,j5,b⟩,iq.hit (e:=⟨jx,j5,b⟩) s1,?_,Ψ,Ψ,rfl,s3,by simp[fQ]⟩;simp only[cX];exact⟨_,_,rfl,ae,_,_,rfl,az,h3⟩
   |false=>
    simp only at hm;have bN:=fun eQ dk=>EI aG ae az e6 kvs tA (i+1) eQ h3 (by simp at av;omega) dk;split at hm
    ·rename_i eQ dk;cases hm;obtain⟨j,u,cj,e,g1,g2,g3,g4,g5,g6,g7⟩:=bN _ dk;refine⟨j+1,u,jx::j5::cj,e,iq.miss (e:=⟨jx,j5,b⟩) s1 (by rw[show i+(j+1)=i+1+j from by omega];exact g1),?_,by simp[g3],by simpa using g4,g5,g6,by simp[fQ,g7]⟩;simp only[cX];exact⟨_,_,rfl,J,_,_,rfl,U,g2⟩
    ·rename_i dk;cases hm;exact iq.miss (e:=⟨jx,j5,b⟩) s1 (bN _ dk)
    ·cases hm
theorem Lt:∀(borns:List Nat) (us:List Value) (b:Nat) (k v:Value),us.length=2*borns.length->fQ (borns++[b]) (us++[k,v])=fQ borns us++[⟨k,v,b⟩]
 |[],us,b,k,v,h=>by have:us=[]:=List.eq_nil_of_length_eq_zero (by simpa using h);subst this;simp[fQ]
 |b3::e6,[],b,k,v,h=>by simp at h
 |b3::e6,[_],b,k,v,h=>by simp at h;omega
 |b3::e6,bI::v'::us,b,k,v,h=>by simp only[bP,fQ,Lt e6 us b k v (by simp at h;omega)]
theorem Pl{w:World}{Z:bc}:∀{cy bD:List aj} {a7 us:List Value},cX w Z cy a7->cX w Z bD us->cX w Z (cy++bD) (a7++us)
 |[],bD,a7,us,h,b9=>by simp only[cX]at h;subst h;simpa using b9
 |p::cy,bD,a7,us,h,b9=>by simp only[cX]at h;obtain⟨u,cj,rfl,J,U⟩:=h;simp only[bP,cX];exact⟨u,_,rfl,J,Pl U b9⟩
theorem Jm{w:World}{Z:bc}:∀{cy:List aj} {a7:List Value},cX w Z cy a7->a7.length=cy.length
 |[],a7,h=>by simp only[cX]at h;subst h;rfl
 |p::cy,a7,h=>by simp only[cX]at h;obtain⟨u,cj,rfl,_,U⟩:=h;simp[Jm U]
theorem Fk{P:cK}{w:World}{r:Nat}{o o':Obj}(ad:w.heap[r]? =some o)(au:∀c e f,o≠ .cells c e f:=by simp):(setObj r o').run P w= .ok () {w with heap:=w.heap.setIfInBounds r o'}:=by simp only[setObj,Sem.run,ad]
def ez.makes(st:bn):ez->Bool
 | .box _ _ _| .alloc _ _ _| .bsl _ _ _ _| .bslm _ _ _ _ _| .mkmap _ _| .range _ _ _| .mks _ _ _ _ _ _=>true
 | .appm _ _ _ _ x _=>match cu st.t x with
  | .slice _ .nil _=>true
  |_=>false
 | .app _ _ _ x _=>match cu st.t x with
  | .slice _ .nil _=>true
  |_=>false
 |_=>false
theorem c2.forgetRow{C:fp}{st:bn}{a:Act}{w:World}{Z:bc}(aM:c2 C st a w Z){k:aL}{ow:fP}(ae:look k st.e=some ow):c2 C {st with e:=cB k ⟨ow.n,ow.el,ow.sz,none⟩ st.e} a w Z:=by
 have hY:∀g,(look g (cB k ⟨ow.n,ow.el,ow.sz,none⟩ st.e)).isSome->(look g st.e).isSome:=fun g aW=>by
  rw[ju]at aW;split at aW
  ·rename_i e;subst e;simp[ae]
  ·exact aW
 refine⟨⟨aM.good.alt,aM.good.box,aM.good.inj,fun g o aW=>?_,fun g fb n n' v v' bl bA a2=>aM.good.oinj g fb n n' v v' bl (hY g bA) (hY fb a2),fun g j n v bl bA=>aM.good.obx g j n v bl (hY g bA),aM.good.one,fun bl ad=>aM.good.otr bl (ad.imp id (fun⟨g,n,v,bA,a2⟩=>⟨g,n,v,hY g bA,a2⟩))⟩,aM.fr,aM.defers,aM.size,aM.slot,aM.new⟩;simp only at aW;rw[ju]at aW;split at aW
 ·rename_i e;subst e;cases aW;obtain⟨v,us,a1,bm,bW,_⟩:=aM.good.own k ow ae;exact⟨v,us,a1,bm,bW,fun xs ab=>by cases ab⟩
 ·exact aM.good.own g o aW
theorem YC{w:World}{base el sz n:Nat}{v:Value}{us:List Value}(h:w.ownsRow base el sz v n us)(au:0<n):∃b cap,v= .slice (some ⟨b,0,none⟩) n cap:=by
 rcases h.2 with⟨aq,aF⟩|⟨bb,cap,cur,f1,_⟩
 ·omega
 ·exact⟨_,_,f1⟩
theorem Jj{w:World}{Z:bc}{sz:Nat}:∀{xs:List aj} {us:List Value} {i:Nat} {q gl:aj} {fl:Value},dH w Z sz xs us->xs[i]? =some q->a8 w Z gl fl->fl.cells.size=sz->(∀c∈fl.cells.toList,c.oneCell'=true)->dH w Z sz (xs.set i gl) (us.take (i*sz)++fl.cells.toList++us.drop (i*sz+sz))
 |[],_,_,_,_,_,_,bE,_,_,_=>by simp at bE
 |x::xs,us,0,q,gl,fl,h,bE,aM,af,ay=>by
  simp only[dH]at h;obtain⟨u,cj,rfl,⟨J,U,h3⟩,h5⟩:=h;have av:u.cells.toList.length=sz:=by simpa using U
  simp only[List.set_cons_zero,dH];refine⟨fl,cj,?_,⟨aM,af,ay⟩,h5⟩;simp[<-av]
 |x::xs,us,i+1,q,gl,fl,h,bE,aM,af,ay=>by
  simp only[dH]at h;obtain⟨u,cj,rfl,⟨J,U,h3⟩,h5⟩:=h;have av:u.cells.toList.length=sz:=by simpa using U
  have bN:=Jj h5 (by simpa using bE) aM af ay;simp only[List.set_cons_succ,dH];refine⟨u,_,?_,⟨J,U,h3⟩,bN⟩;have e:(i+1)*sz+sz=u.cells.toList.length+(i*sz+sz):=by rw[av,Nat.succ_mul];omega
  rw[aas _ _ _ _ av,e,<-List.drop_drop];simp
theorem aos{w:World}{Z:bc}{q:aj}{v:Value}(bE:a8 w Z q v)(af:e4 q=true){cs:List aj}{us:List Value}(ao:dm w Z cs us){f:Nat}(aN:f+us.length<=v.cells.size)(cA:us≠[]):
  ∃v',a8 w Z (qw q f cs) v'/\v'.cells.toList=v.cells.toList.take f++us++v.cells.toList.drop (f+us.length)/\v'.cells.size=v.cells.size/\∀c∈v'.cells.toList,c.oneCell'=true:=by
 have hlen:=qu ao;have lE:=wx bE af;by_cases bg:∃e2,q= .agg e2
 ·obtain⟨e2,rfl⟩:=bg;simp only[a8]at bE;obtain⟨a7,rfl,lf⟩:=bE;simp only[pX]at aN⊢;have ku:dm w Z (o3 e2 f cs) (a7.toList.take f++us++a7.toList.drop (f+us.length)):=by unfold o3;rw[hlen];exact zM (zM (Ff f lf) ao) (Cm _ lf)
  refine⟨.agg (a7.toList.take f++us++a7.toList.drop (f+us.length)).toArray,by simp only[qw,a8];exact⟨_,rfl,by simpa using ku⟩,by simp[pX],?_,fun c hx=>?_⟩
  ·simp[pX];omega
  ·exact Cn ku c (by simpa[pX]using hx)
 ·have n7:∀cs,q≠ .agg cs:=fun cs e=>bg ⟨cs,e⟩;obtain⟨J,U⟩:=Pn bE af n7;rw[U]at aN⊢;match us,cA,ao with
  |u::cj,_,ao=>
   simp at aN;obtain⟨rfl,rfl⟩:f=0/\cj=[]:=⟨Ω,List.length_eq_zero_iff.1 Ω⟩;match cs,ao,hlen with
   |[c],ao,_=>
    simp only[dm]at ao;obtain⟨CC,fO,aq,⟨Ml,DI⟩,_⟩:=ao;cases aq;have hu:u.cells= #[u]:=by cases u<;>first|rfl|cases DI
    have Bl:qw q 0 [c]=c:=by cases q<;>first|rfl|exact absurd rfl (n7 _)
    rw[Bl];refine⟨u,Ml,by simp[hu],by simp[hu],fun c hx=>?_⟩;rw[hu]at hx;simp at hx;subst hx;exact DI
theorem ao8{α:Type}(A us:List α)(a f sz N:Nat)(J:f+us.length<=sz)(U:a+sz<=N)(h3:N<=A.length):
  ((A.take (a+f)++us++A.drop (a+f+us.length)).toArray.toList).take N=(A.take N).take a++((((A.take N).drop a).take sz).take f++us++(((A.take N).drop a).take sz).drop (f+us.length))++(A.take N).drop (a+sz):=by
 have aq:(A.take N).take a++(((A.take N).drop a).take sz).take f=A.take (a+f):=by rw[List.take_take (i:=f),Nat.min_eq_left (show f<=sz by omega),<-List.take_add,List.take_take,Nat.min_eq_left Ω]
 have aF:(((A.take N).drop a).take sz).drop (f+us.length)++(A.take N).drop (a+sz)=(A.take N).drop (a+f+us.length):=by
  have av:f+us.length<=(((A.take N).drop a).take sz).length:=by simp;omega
  have lV:(A.take N).drop (a+sz)=((A.take N).drop a).drop sz:=by rw[List.drop_drop]
  rw[lV,<-List.drop_append_of_le_length av,List.take_append_drop,List.drop_drop];congr 1;omega
 have bB:(A.take N).drop (a+f+us.length)=(A.drop (a+f+us.length)).take (N-(a+f+us.length)):=by rw[List.drop_take]
 have av:(A.take (a+f)++us).length=a+f+us.length:=by simp;omega
 simp only[List.append_assoc]at*;rw[aF,bB,<-List.append_assoc (pZ a _),aq];have kc:N=(A.take (a+f)++us).length+(N-(a+f+us.length)):=by rw[av];omega
 rw[<-List.append_assoc,<-List.append_assoc];conv=>lhs;rw[kc,List.take_length_add_append]
theorem c2.storeRow{P:cK}{C:fp}{st:bn}{a:Act}{w:World}{Z:bc}(h:c2 C st a w Z){k:aL}{n el sz:Nat}{xs:List aj}(ae:look k st.e=some ⟨n,el,sz,some xs⟩){i f:Nat}{u:Value}(ab:a8 w Z (.rptr sz k n i f) u){q:aj}(bE:xs[i]? =some q)(af:e4 q=true)
  {cs:List aj} {us:List Value} (ao:dm w Z cs us) (aN:f+us.length<=(cells q).length) (cA:us≠[]):
  ∃bl off nx,u= .pointer (some ⟨bl,off,none⟩)/\(storeCells ⟨bl,off,none⟩ us).run P w= .ok () (w.setRow bl nx)/\∃bh,c2 C {st with e:=cB k ⟨n,el,sz,some (xs.set i (qw q f cs))⟩ st.e} a (w.setRow bl nx) bh:=by
 simp only[a8]at ab;obtain⟨_,hi,n',fl,J,U,h3⟩:=ab;obtain⟨v,fO,a1,bm,bW,cZ⟩:=h.good.own k _ ae;rw[J]at a1;simp only[dE,j7]at a1;obtain⟨rfl,rfl⟩:=a1;obtain⟨bl,ad,rfl⟩:=h3 rfl;obtain⟨c6,o1,wm⟩:=cZ xs rfl;simp only at c6 o1;obtain⟨v,eu,fe,qs⟩:=Jh i o1 bE;have A5:=qu (wx eu af);have aiT:(cells q).length=sz:=by rw[<-A5];simpa using fe
 have qP:f+us.length<=sz:=by rw[<-aiT];exact aN
 have hmul:i*sz+sz<=n'*sz:=by have:=rh sz (show i+1<=n' from hi);rwa[Nat.succ_mul]at this
 rcases bm.2 with⟨aq,aF⟩|⟨g,cap,cur,rfl,sG,My,MG,ahN,dj,Wk⟩
 ·rw[aq]at ad;simp[pb]at ad
 simp only[pb,dE]at ad;subst ad;simp only at Wk dj MG My;have A4:n'*sz<=cur.size:=by rw[dj];exact rh sz MG
 have dd:=run_storeCells_at P g (i*sz+f) el us 0 cur w My Ω (Cn ao);simp only[Nat.add_zero]at dd;refine⟨g,i*sz+f,_,rfl,dd,?_⟩;generalize yT:(cur.toList.take (i*sz+f)++us++cur.toList.drop (i*sz+f+us.length)).toArray=nx;obtain⟨v',cP,c8,jv,wi⟩:=aos eu af ao (f:=f) (by rw[fe];exact qP) cA;have mq:=Jj o1 bE cP (by rw[jv,fe]) wi;have hlen:fO.length=n'*sz:=bm.1;have aiG:nx.toList.take (n'*sz)=fO.take (i*sz)++v'.cells.toList++fO.drop (i*sz+sz):=by rw[<-yT,c8,qs,<-Wk];exact ao8 cur.toList us (i*sz) f sz (n'*sz) qP hmul (by simpa using A4)
 have ahP:nx.size=cap*sz:=by rw[<-yT,<-dj];simp;omega
 have asN:(xs.set i (qw q f cs)).length=n':=by simp[c6]
 obtain⟨anc,_,_⟩:=h.setRowM (w':=w.setRow g nx) ae rfl J (bl:=g) rfl (v':= .slice (some ⟨g,0,none⟩) n' cap) rfl (xs':=xs.set i (qw q f cs)) (us:=fO.take (i*sz)++v'.cells.toList++fO.drop (i*sz+sz)) (.inl ⟨by simp[c6],rfl⟩) rfl rfl rfl (fun j ag=>setRow_other w g j nx ag) (setRow_size w g nx)
  ⟨by rw[uU mq],.inr ⟨g,cap,nx,by simp[c6],Nat.zero_le _,setRow_heap w g cur nx el _ My,by simpa[c6]using MG,ahN,ahP,by simpa[c6]using aiG⟩⟩ mq
 exact⟨_,by simpa[c6]using anc⟩
theorem akp(z:Array Value)(n:Nat)(h:0<z.size):(madeCells z ((n+1)*z.size)).toList=z.toList++(madeCells z (n*z.size)).toList:=by
 apply List.ext_getElem?;intro j;rw[List.getElem?_append];have he:(n+1)*z.size=n*z.size+z.size:=by rw[p0,Nat.one_mul]
 simp only[madeCells,u7,Array.length_toList,Array.getElem?_map];by_cases ag:j<z.size
 ·rw[if_pos ag,Array.getElem?_range,if_pos Ω];simp[Nat.mod_eq_of_lt ag,ag]
 ·rw[if_neg ag,Array.getElem?_range,Array.getElem?_range];by_cases ae:j<n*z.size+z.size
  ·rw[if_pos Ω,if_pos Ω];simp only[oK];rw[<-Nat.mod_eq_sub_mod Ω]
  ·rw[if_neg Ω,if_neg Ω]
theorem Xu{w:World}{Z:bc}{p:aj}{z:Value}(aM:a8 w Z p z)(h:0<z.cells.size)(ay:∀c∈z.cells.toList,c.oneCell'=true):∀n,dH w Z z.cells.size (List.replicate n p) (madeCells z.cells (n*z.cells.size)).toList
 |0=>by simp[dH,madeCells]
 |n+1=>by rw[akp _ _ h];simp only[List.replicate_succ,dH];exact⟨z,_,rfl,⟨aM,rfl,ay⟩,Xu aM h ay n⟩
theorem km{P:cK}{bC:List (Nat×dy)}(aI:fJ P bC=true){C:fp}{st st':bn}{a:Act}{w:World}{Z:bc}(aM:c2 C st a w Z){i:ez}{o:Oper}(ay:Fl C.N bC i o=true)
  {κ:aL} {n':Nat} {o₁:List aL} (vE:i.makes st=true->fresh st.n st.o κ) (cU:i.makes st=true->∀j,fresh n' o₁ j->fresh st.n st.o j/\j≠κ) {c:Prop} (he:eR κ n' o₁ st i=some (c,st')) (ao:c) {K:Act->World->Prop} {Q:Exit->Act->World->Prop} (c7:∀bk w' bh,c2 C st' bk w' bh->K bk w'):o.wp P a w K Q:=by
 obtain⟨dst,op,type,pos,after,guard⟩:=o;unfold Fl at ay;dsimp only at ay;split at ay
 ·rename_i d key t;simp only[cr,dM,eN]at ay;obtain⟨rfl,U⟩:=ay;simp only[eR]at he;cases he;obtain⟨g1,g2⟩:=aM.newBox (aM.new _ (vE rfl)) (cU rfl) (cs:=[.hdm 0 []]) (us:= #[]) 0 (by simp only[jP];exact⟨by simp[cX],⟨rfl,Ψ,Ψ⟩⟩);refine nj (v:= .map (some w.heap.size)) (w':=w.alloc (.map #[] 0)) ?_ (c7 _ _ _ (g1.put (d:=some d) (by simpa[jW]using U) (p:= .gmap κ) ?_))
  ·simp only[execOp,Instr.makeMap,Option.map_none,fU,run_newObj,fZ,gC];rfl
  ·simp[a8,bc.withBox]
 ·rename_i ch x k v t ei ee pO;simp only[cr,dM]at ay;obtain⟨⟨⟨⟨rfl,J⟩,U⟩,h3⟩,h4⟩:=ay;have rx:=et aM U;have wy:=et aM h3;have zT:=et aM h4;split at J
  ·rename_i sz lU nL qc z aN;obtain⟨cN,hu,fc⟩:=jw aI aN;have ud:cN= .map nL qc:=by cases cN<;>simp[kQ]at fc;obtain⟨rfl,rfl⟩:=fc;rfl
   subst ud;have mP:=Nt aI J;simp only[eR]at he;split at he
   ·rename_i m ab;rw[ab]at rx;simp only[a8]at rx;obtain⟨bl,b1,b2⟩:=rx;split at he
    ·rename_i cs dj;split at he
     ·rename_i cs' hm;cases he;obtain⟨iX,us,el,a1,bm,bW,cZ,c6⟩:=aM.good.box m cs dj;rw[b1]at a1;cases a1;unfold ot at hm;split at hm
      ·rename_i clock borns kvs;split at hm
       ·cases hm
       rename_i vI;simp only[kl]at cZ;simp only[jP]at c6;have h6:=wA (P:=P) cZ;have xb:=Pq (P:=P) (w:=w) mP false wy (by simpa using vI);have bs:bl<w.heap.size:=(Array.getElem?_eq_some_iff.1 cZ).1;have dG:∀(o':Obj) (cj:Array Value) (e2:List aj),(Instr.mapUpdate t (a.eval ei) (a.eval ee) (a.eval pO)).run P w= .ok () {w with heap:=w.heap.setIfInBounds bl o'}->kl e2 cj el=o'->jP w Z e2 cj.toList->some e2=some cs'->
         (⟨none,.mapUpdate t ei ee pO,type,pos,after,guard⟩:Oper).wp P a w K Q:=by
        intro o' cj e2 iI DY mq jr;cases jr;refine FQ (w':={w with heap:=w.heap.setIfInBounds bl o'}) ?_ (c7 _ _ _ (aM.setBox (w':={w with heap:=w.heap.setIfInBounds bl o'}) dj b1 (us:=cj) (el:=el) rfl rfl rfl (fun j ag=>?_) Ψ ?_ mq).1)
        ·simp only[execOp,iI,fU,fZ,gC]
        ·exact Array.getElem?_setIfInBounds_ne (lR ag)
        ·rw[DY];simp[bs]
       split at hm
       ·rename_i xE vJ;obtain⟨j,u,cj,e,f1,f2,f3,f4,f5,f6,f7⟩:=EI mP wy zT borns kvs us.toList 0 _ c6.1 c6.2.len vJ;refine dG (.map (fQ borns cj).toArray clock) cj.toArray (.hdm clock borns::xE) ?_ (by simp[kl]) (by simp only[jP];exact⟨by simpa using f2,⟨by rw[f3];exact c6.2.len,c6.2.inc,c6.2.lt⟩⟩) hm;have MX:(Instr.keyThatStays (((fQ borns us.toList).toArray[j]?.map (·.key)).getD (a.eval ee)) (a.eval ee)).run P w= .ok (a.eval ee) w:=by
         have:((fQ borns us.toList).toArray[j]?.map (·.key)).getD (a.eval ee)=e.key:=by simp[f4]
         rw[this];simp[Instr.keyThatStays,f6]
        simp only[Nat.zero_add]at f1;simp only[Instr.mapUpdate,fU,run_underlying hu,fZ,b2,h6,xb,f1.run mP,gC,MX,Fk cZ];rw[f7];simp
       ·rename_i vJ;have f1:=EI mP wy zT borns kvs us.toList 0 _ c6.1 c6.2.len vJ;simp only at f1;have sT:us.toList.length=2*borns.length:=by rw[Jm c6.1,c6.2.len]
        refine dG (.map ((fQ borns us.toList).toArray.push ⟨a.eval ee,a.eval pO,clock⟩) (clock+1)) (us.toList++[a.eval ee,a.eval pO]).toArray (.hdm (clock+1) (borns++[clock])::(kvs++[cu st.t k,cu st.t v])) ?_ (by simp only[kl,Lt borns us.toList clock _ _ sT];simp) ?_ hm
        ·simp only[Instr.mapUpdate,fU,run_underlying hu,fZ,b2,h6,xb,f1.run mP,gC,Fk cZ]
        ·simp only[jP];refine⟨Pl c6.1 (by simp only[cX];exact⟨_,_,rfl,wy,_,_,rfl,zT,rfl⟩),⟨by simp[c6.2.len];omega,?_,?_⟩⟩
         ·rw[List.pairwise_append];exact⟨c6.2.inc,Ψ,fun x ab y aC=>by simp at aC;subst aC;exact c6.2.lt x ab⟩
         ·intro b ad;rcases hQ.1 ad with ad|ad
          ·have:=c6.2.lt b ad;omega
          ·simp at ad;omega
       ·cases hm
      ·cases hm
     ·cases he
    ·cases he
   ·cases he
  ·cases J
 ·rename_i ch x k v t ei ee pO;simp only[cr,dM]at ay;obtain⟨⟨⟨⟨rfl,J⟩,U⟩,h3⟩,h4⟩:=ay;have rx:=et aM U;have wy:=et aM h3;have zT:=et aM h4;split at J
  ·rename_i sz lU nL qc z aN;obtain⟨cN,hu,fc⟩:=jw aI aN;have ud:cN= .map nL qc:=by cases cN<;>simp[kQ]at fc;obtain⟨rfl,rfl⟩:=fc;rfl
   subst ud;have mP:=Nt aI J;simp only[eR]at he;split at he
   ·rename_i m ab;rw[ab]at rx;simp only[a8]at rx;obtain⟨bl,b1,b2⟩:=rx;split at he
    ·rename_i cs dj;split at he
     ·rename_i cs' hm;cases he;obtain⟨iX,us,el,a1,bm,bW,cZ,c6⟩:=aM.good.box m cs dj;rw[b1]at a1;cases a1;unfold ot at hm;split at hm
      ·rename_i clock borns kvs;split at hm
       ·cases hm
       rename_i vI;simp only[kl]at cZ;simp only[jP]at c6;have h6:=wA (P:=P) cZ;have xb:=Pq (P:=P) (w:=w) mP false wy (by simpa using vI);have bs:bl<w.heap.size:=(Array.getElem?_eq_some_iff.1 cZ).1;have dG:∀(o':Obj) (cj:Array Value) (e2:List aj),(Instr.mapUpdate t (a.eval ei) (a.eval ee) (a.eval pO)).run P w= .ok () {w with heap:=w.heap.setIfInBounds bl o'}->kl e2 cj el=o'->jP w Z e2 cj.toList->some e2=some cs'->
         (⟨none,.mapUpdate t ei ee pO,type,pos,after,guard⟩:Oper).wp P a w K Q:=by
        intro o' cj e2 iI DY mq jr;cases jr;refine FQ (w':={w with heap:=w.heap.setIfInBounds bl o'}) ?_ (c7 _ _ _ (aM.setBox (w':={w with heap:=w.heap.setIfInBounds bl o'}) dj b1 (us:=cj) (el:=el) rfl rfl rfl (fun j ag=>?_) Ψ ?_ mq).1)
        ·simp only[execOp,iI,fU,fZ,gC]
        ·exact Array.getElem?_setIfInBounds_ne (lR ag)
        ·rw[DY];simp[bs]
       split at hm
       ·rename_i xE vJ;obtain⟨j,u,cj,e,f1,f2,f3,f4,f5,f6,f7⟩:=EI mP wy zT borns kvs us.toList 0 _ c6.1 c6.2.len vJ;refine dG (.map (fQ borns cj).toArray clock) cj.toArray (.hdm clock borns::xE) ?_ (by simp[kl]) (by simp only[jP];exact⟨by simpa using f2,⟨by rw[f3];exact c6.2.len,c6.2.inc,c6.2.lt⟩⟩) hm;have MX:(Instr.keyThatStays (((fQ borns us.toList).toArray[j]?.map (·.key)).getD (a.eval ee)) (a.eval ee)).run P w= .ok (a.eval ee) w:=by
         have:((fQ borns us.toList).toArray[j]?.map (·.key)).getD (a.eval ee)=e.key:=by simp[f4]
         rw[this];simp[Instr.keyThatStays,f6]
        simp only[Nat.zero_add]at f1;simp only[Instr.mapUpdate,fU,run_underlying hu,fZ,b2,h6,xb,f1.run mP,gC,MX,Fk cZ];rw[f7];simp
       ·rename_i vJ;have f1:=EI mP wy zT borns kvs us.toList 0 _ c6.1 c6.2.len vJ;simp only at f1;have sT:us.toList.length=2*borns.length:=by rw[Jm c6.1,c6.2.len]
        refine dG (.map ((fQ borns us.toList).toArray.push ⟨a.eval ee,a.eval pO,clock⟩) (clock+1)) (us.toList++[a.eval ee,a.eval pO]).toArray (.hdm (clock+1) (borns++[clock])::(kvs++[cu st.t k,cu st.t v])) ?_ (by simp only[kl,Lt borns us.toList clock _ _ sT];simp) ?_ hm
        ·simp only[Instr.mapUpdate,fU,run_underlying hu,fZ,b2,h6,xb,f1.run mP,gC,Fk cZ]
        ·simp only[jP];refine⟨Pl c6.1 (by simp only[cX];exact⟨_,_,rfl,wy,_,_,rfl,zT,rfl⟩),⟨by simp[c6.2.len];omega,?_,?_⟩⟩
         ·rw[List.pairwise_append];exact⟨c6.2.inc,Ψ,fun x ab y aC=>by simp at aC;subst aC;exact c6.2.lt x ab⟩
         ·intro b ad;rcases hQ.1 ad with ad|ad
          ·have:=c6.2.lt b ad;omega
          ·simp at ad;omega
       ·cases hm
      ·cases hm
     ·cases he
    ·cases he
   ·cases he
  ·cases J
 ·rename_i d key x t ei;simp only[cr,dM,eN]at ay;obtain⟨⟨⟨rfl,U⟩,J⟩,h3⟩:=ay;have rx:=et aM h3;split at J
  ·rename_i sz lU nL qc z aN;obtain⟨cN,hu,fc⟩:=jw aI aN;have ud:cN= .map nL qc:=by cases cN<;>simp[kQ]at fc;obtain⟨rfl,rfl⟩:=fc;rfl
   subst ud;simp only[eR]at he;split at he
   ·rename_i m ab;rw[ab]at rx;have aoC:=rx;simp only[a8]at rx;obtain⟨bl,b1,b2⟩:=rx;split at he
    ·rename_i cs dj;split at he
     ·rename_i cs' hm;cases he;obtain⟨iX,us,el,a1,bm,bW,cZ,c6⟩:=aM.good.box m cs dj;rw[b1]at a1;cases a1;unfold zK at hm;split at hm
      ·rename_i clock borns kvs;cases hm;simp only[kl]at cZ;have h6:=wA (P:=P) cZ;obtain⟨g1,g2⟩:=aM.newBox (aM.new _ (vE rfl)) (cU rfl) (cs:=[.hdi clock [] clock,.gmap m]) (us:= #[a.eval ei]) 0 (by simp only[jP,cX];exact⟨_,_,rfl,aoC,rfl⟩);have DY:kl [.hdi clock [] clock,.gmap m] #[a.eval ei] 0= .mapIter (some bl) clock #[] clock:=by simp[kl,b2]
       rw[DY]at g1 g2;refine nj (v:= .pointer (some ⟨w.heap.size,0,none⟩)) (w':=w.alloc (.mapIter (some bl) clock #[] clock)) ?_ (c7 _ _ _ (g1.put (d:=some d) (by simpa[jW]using U) (p:= .ptr κ 0) g2))
       ·simp only[execOp];refine FK ?_;simp only[Instr.range,fU,run_underlying hu,fZ,b2,h6,gC,run_newObj];rfl
      ·cases hm
     ·cases he
    ·cases he
   ·cases he
  ·cases J
 ·rename_i d avn;simp only[cr,dM,eN]at ay;obtain⟨⟨J,U⟩,h3⟩:=ay;subst J;simp only[eR]at he;split at he
  ·rename_i cq p az;cases he;obtain⟨v,g1,g2⟩:=apH (o:=⟨some d,op,type,pos,after,guard⟩) aI aM h3 az ao;refine nj g1 (c7 _ _ Z ?_);exact aM.put (d:=some d) (by simpa[jW]using U) g2
  ·cases he
 ·rename_i d key x el o';simp only[cr,dM,eN]at ay;obtain⟨⟨J,U⟩,h3⟩:=ay;subst J;simp only[eR]at he;cases he;have ab:=et aM h3;have kf:=wx ab ao;obtain⟨g1,g2⟩:=aM.newBox (aM.new _ (vE rfl)) (cU rfl) el (by rw[wk (Co kf)];exact kf);rw[wj (Co kf)]at g1 g2;refine nj (v:= .pointer (some ⟨w.heap.size,0,none⟩)) (w':=w.alloc (.cells (a.eval o').cells el)) ?_ (c7 _ _ _ (g1.put (d:=some d) (by simpa[jW]using U) (p:= .ptr κ 0) ?_))
  ·simp only[execOp,Instr.box,newVar,newRow,fU,run_newObj,fZ,gC];rfl
  ·simpa only[a8]using g2
 ·rename_i d key z el;simp only[cr,dM,eN]at ay;obtain⟨⟨J,U⟩,h3⟩:=ay;subst J;simp only[eR]at he;cases he;split at h3
  ·rename_i f aN;have bd:=QF h3;obtain⟨bS,jR,z2,z3⟩:=P2 aI aN w;rw[<-bd]at z2;obtain⟨_,kf⟩:=QE w Z z2;obtain⟨g1,g2⟩:=aM.newBox (aM.new _ (vE rfl)) (cU rfl) el (by rw[wk (Co kf)];exact kf);rw[wj (Co kf)]at g1 g2;refine nj (v:= .pointer (some ⟨w.heap.size,0,none⟩)) (w':=w.alloc (.cells bS.cells el)) ?_ (c7 _ _ _ (g1.put (d:=some d) (by simpa[jW]using U) (p:= .ptr κ 0) ?_))
   ·simp only[execOp,Instr.alloc,newVar,newRow,fU,jR,run_newObj,fZ,gC];rfl
   ·simpa only[a8]using g2
  ·cases h3
 ·rename_i sz x y t o' jN;simp only[cr,dM]at ay;obtain⟨⟨⟨J,U⟩,h3⟩,h4⟩:=ay;subst J;split at U
  ·rename_i f aN;simp only[dM]at U;simp only[eR]at he;split at he
   ·rename_i k off ab;split at he
    ·rename_i cs dj;cases he;obtain⟨k4,bY,cw,dC⟩:=ao;have rx:=et aM h3;rw[ab]at rx;simp only[a8]at rx;obtain⟨bl,b1,b2⟩:=rx;have mB:=et aM h4;have wv:=wx mB bY;have wz:=qu wv;obtain⟨iX,us,el,a1,bm,bW,cZ,c6⟩:=aM.good.box k cs dj;rw[b1]at a1;cases a1;rw[wj k4]at cZ;rw[wk k4]at c6;have ax:=qu c6;obtain⟨_,dS⟩:=wE aI aN w;have sX:(a.eval jN).cells.size=sz:=by rw[cw]at wz;simpa using wz
     have dd:=run_storeCells_at (P:=P) bl off el (a.eval jN).cells.toList 0 us w cZ (by simp at ax⊢;omega) (Cn wv);simp only[Nat.add_zero]at dd;refine FQ (w':=w.setRow bl (us.toList.take off++(a.eval jN).cells.toList++us.toList.drop (off+(a.eval jN).cells.toList.length)).toArray) ?_ (c7 _ _ _ (aM.storeBox dj b1 k4 ?_))
     ·simp only[execOp,Instr.storeAt,b2,Instr.sureAddr,storeVar,fU,gC,fZ,dS,sX,U,ne_eq,not_true_eq_false,if_false,dd]
     ·simp only[o3];rw[wz];exact zM (zM (Ff off c6) wv) (Cm _ c6)
    ·cases he
   ·rename_i ab;generalize ML:cu st.t x=px at he;unfold r4 at he;split at he
    ·rename_i dL k n i tY;split at he
     ·rename_i n' el jQ xs ae;split at he
      ·rename_i vK;obtain⟨rfl,rfl⟩:=vK;split at he
       ·rename_i q bE;cases he;obtain⟨k4,bY,cw,dC,kO⟩:=ao;have rx:=et aM h3;rw[ML]at rx;have mB:=et aM h4;have wv:=wx mB bY;have wz:=qu wv;obtain⟨_,dS⟩:=wE aI aN w;have sX:(a.eval jN).cells.size=sz:=by rw[cw]at wz;simpa using wz
        obtain⟨bl,off,nx,D1,dd,bh,pF⟩:=aM.storeRow (P:=P) ae rx bE k4 wv (by simpa[sX]using dC) (fun e=>by have:=eW List.length e;simp[sX]at this;omega);refine FQ (w':=w.setRow bl nx) ?_ (c7 _ _ _ pF);simp only[execOp,Instr.storeAt,D1,Instr.sureAddr,storeVar,fU,gC,fZ,dS,sX,U,ne_eq,not_true_eq_false,if_false,dd]
       ·cases he
      ·cases he
     ·cases he
    ·cases he
  ·cases U
 ·rename_i d sz el xs t len parts;simp only[cr,dM,eN]at ay;obtain⟨⟨⟨⟨⟨⟨J,U⟩,h3⟩,h4⟩,h5⟩,c9⟩,dX⟩:=ay;subst J;subst h5;split at h3
  ·rename_i gj aN;simp only[dM]at h3;subst h3;split at h4
   ·rename_i g aW;simp only[cr,dM,eN]at h4;obtain⟨rfl,fR⟩:=h4;simp only[eR]at he;cases he;obtain⟨us,g1,g2,g3⟩:=Z4 aI aM aN rfl aW dX ao c9;have mo:(w.alloc (.cells us el)).ownsRow w.heap.size el g.size (.slice (some ⟨w.heap.size,0,none⟩) xs.length xs.length) (xs.map (cu st.t)).length us.toList:=by
     refine⟨by simp[g3],.inr ⟨w.heap.size,xs.length,us,Ψ,dZ _,heap_alloc_new w _,Ψ,?_,g3,?_⟩⟩
     ·simp only[maxLen];have:xs.length<=xs.length*g.size:=Nat.le_mul_of_pos_right _ fR;omega
     ·rw[hl];simp[g3]
    obtain⟨eu,fe⟩:=aM.newRow (k:=κ) (xs:=xs.map (cu st.t)) (.inl (aM.new _ (vE rfl))) (World.grownBy_alloc w _ none) mo g2
     (by have:xs.length<=xs.length*g.size:=Nat.le_mul_of_pos_right _ fR;simp only[lim,List.length_map];omega) (cU rfl)
    simp only[List.length_map]at eu fe;refine nj (v:= .slice (some ⟨w.heap.size,0,none⟩) xs.length xs.length) (w':=w.alloc (.cells us el)) ?_ (c7 _ _ _ (eu.put (d:=some d) (by simpa[jW]using U) (p:= .slice g.size (.own κ) (xs.map (cu st.t))) fe));have bF:(parts.map fun(x:Nat×Operand)=>(x.1,a.eval x.2))=(parts.toList.map fun(x:Nat×Operand)=>(x.1,a.eval x.2)).toArray:=by apply Array.ext';simp
    simp only[execOp];refine FK ?_;rw[<-g1];congr 2
   ·cases h4
  ·cases h3
 ·rename_i d sz el x y o' jN t du;simp only[cr,dM,eN]at ay;obtain⟨⟨⟨⟨⟨⟨J,U⟩,h3⟩,h4⟩,h5⟩,c9⟩,dX⟩:=ay;subst J;subst h3;split at h4
  ·rename_i gj aN;simp only[dM]at h4;subst h4;split at h5
   ·rename_i g aW;simp only[cr,dM,eN]at h5;obtain⟨⟨rfl,fR⟩,hby⟩:=h5;have rx:=et aM c9;have mB:=et aM dX;have nC:∀v' w',(Builtin.append_ #[t,t] type #[a.eval o',a.eval jN]).run P w= .ok v' w'->(execOp a.eval ⟨some d,.call ⟨.builtin .append,⟨[o',jN]⟩,⟨[t,t]⟩⟩,type,pos,after,guard⟩).run P w= .ok (.value v') w':=by intro v' w' iI;simp only[execOp,resolve,invoke,builtin,fU,gC,fZ,List.map_toArray,gZ,nn];rw[iI];rfl
    obtain⟨fN,cm,z,aq,aF,bB,ds,ie,ig,sl,sn⟩:=(wF aI aW).ex;obtain⟨e2,jr,fc⟩:=jw aI aN;obtain rfl:=tT fc;simp only[eR]at he;split at he
    ·rename_i dL tag xs jQ lL ys ab aC;split at he
     ·rename_i fv;obtain⟨rfl,fv⟩:=fv;subst fv;rw[ab]at rx;rw[aC]at mB;simp only[a8]at rx mB;obtain⟨⟨vj,p7,tC,cx1,⟨TH,TI⟩,cx4⟩,rxn,rxo,rxt⟩:=rx;obtain⟨⟨oN,mg,vy,cy1,⟨TJ,TK⟩,cy4⟩,_⟩:=mB;split at he
      ·rename_i k;split at he
       ·rename_i ow ae;cases he;obtain⟨bY,cw,dC,kO⟩:=ao;subst cw;obtain⟨n0,CC,eu,fe,qs⟩:=rxo k rfl;obtain⟨v0,fO,a1,bm,bW,_⟩:=aM.good.own k ow ae;rw[eu]at a1;simp only[dE,j7]at a1;obtain⟨rfl,rfl⟩:=a1;have oi:a.eval o'=CC:=qs bY.symm;by_cases jH:ys=[]
        ·subst jH;rw[vy,tC]at nC;have iI:=Jy (P:=P) (w:=w) (ty:=type) jr aq vj xs.length p7 cx1 oN mg;refine nj (nC _ _ (by simpa using iI)) (c7 _ _ Z ?_);have dd:{st with t:=put d (.slice ow.sz (.own k) (xs++[])) st.t,e:=cB k ⟨xs.length+([]:List aj).length,ow.el,ow.sz,none⟩ st.e}=({st with e:=cB k ⟨ow.n,ow.el,ow.sz,none⟩ st.e,t:=put d (.slice ow.sz (.own k) xs) st.t}:bn):=by simp[bY]
         rw[<-dC,dd];have nF:=aM.forgetRow ae;refine nF.put (d:=some d) (by simpa[jW]using U) (p:= .slice ow.sz (.own k) xs) ?_;simp only[a8];rw[<-dC]at cx4;exact⟨⟨vj,p7,rfl,cx1,⟨TH,TI⟩,cx4⟩,fun e=>(by cases e),(fun g e=>by cases e;exact⟨_,_,eu,fe,fun e=>by rw[<-tC];exact qs e⟩),fun _ _ e=>(by cases e),fun _ e=>(by cases e)⟩
        ·have hyp:0<ys.length:=by cases ys<;>simp at jH⊢
         rcases cy4 with cy4|⟨lU,oy,hD,rfl,zo,ny⟩
         ·exact absurd cy4 jH
         ·have kg:=uU ny;have sP:∀j u,hD[j]? =some u->w.cell? ((⟨lU,oy,none⟩:Addr).add j)=some u:=fun j u ag=>by rw[p4];exact(v8 zo ag).2
          have sI:(xs.length+ys.length)*fN.bytes<=140737488355328:=by
           have kr:fN.bytes<=2048:=by rw[ds];exact hby
           have od:(xs.length+ys.length)*fN.bytes<=(xs.length+ys.length)*2048:=Nat.mul_le_mul_left _ kr;simp only[lim]at kO;omega
          have mm:xs.length+ys.length<=maxLen:=by simp only[lim]at kO;simp only[maxLen];omega
          rw[vy]at nC;have xu:fO.length=ow.n*ow.sz:=bm.1;have xw:z.cells.size=fN.size:=by rw[sn,bB]
          have DP:(∀cur,ey->cur=(0:Nat))->(∃v' w',(Builtin.append_ #[t,t] type #[a.eval o',.slice (some ⟨lU,oy,none⟩) ys.length mg]).run P w= .ok v' w'/\w'.ownsRow w.heap.size ow.el fN.size v' (xs.length+ys.length) (fO++hD)/\w.grownBy w' none/\dH w Z fN.size xs fO)->
            (⟨some d,.call ⟨.builtin .append,⟨[o',jN]⟩,⟨[t,t]⟩⟩,type,pos,after,guard⟩:Oper).wp P a w K Q:=by
           intro _ cE;obtain⟨v',w',f1,f2,f3,f4⟩:=cE;have Hj:dH w Z fN.size (xs++ys) (fO++hD):=Fc f4 (by rw[bB];exact ny);obtain⟨cP,c8⟩:=aM.newRow (k:=k) (xs:=xs++ys) (.inr ⟨ow,ae,by rw[bY];simp;omega⟩) f3 (by simpa using f2) Hj (by simpa using kO) (n':=st.n) (o':=st.o)
            (fun j ag=>⟨ag,fun e=>by subst e;have:=(aM.new _ ag).2.1;rw[eu]at this;cases this⟩)
           refine nj (nC _ _ f1) (c7 _ _ ((Z.withOwn k (xs++ys).length v').withRowOf k v' (xs++ys).length ((xs++ys).length*fN.size)) ?_);have:=cP.put (d:=some d) (by simpa[jW]using U) c8;simpa[bB,eS]using this
          rcases bm.2 with⟨oz,zF⟩|⟨bl,cap,cur,oz,zF,Ca,OF,OG,OH,IP⟩
          ·
           have Bt:xs=[]:=List.eq_nil_of_length_eq_zero Ω;have M0:fO=[]:=List.eq_nil_of_length_eq_zero (by rw[xu,zF];simp);subst Bt;subst M0;refine DP (fun _ h=>h.elim) ?_;obtain⟨v',w',f1,f2,f3,_⟩:=run_append_own (P:=P) w w.heap.size t type ow.el fN z fN.size fN.bytes jr aq ig rfl rfl xw (by rw[bB];exact fR) (.slice none 0 0) 0 [] (World.ownsRow_nil w _ _ _)
            ⟨lU,oy,none⟩ ys.length mg hD (by rw[kg,bB]) sP (zL ny) (by simpa using mm) (by simpa using sI) (dZ _)
           refine⟨v',w',by rw[oi,oz];exact f1,by simpa using f2,by simpa[pb]using f3,by simp[dH]⟩
          ·have ais:mx w Z.A bl 0 fO/\dH w Z fN.size xs fO/\True:=by
            rw[oi,oz]at tC;rcases cx4 with cx4|⟨bb,aup,Qc,f1,f2,f3⟩
            ·subst cx4;have:fO=[]:=List.eq_nil_of_length_eq_zero (by rw[xu,bY];simp);subst this;exact⟨trivial,by simp[dH],trivial⟩
            ·subst f1;injection tC with vx1 vx2 vx3;injection vx1 with vx1;injection vx1 with vx1 vx4;subst vx1;subst vx4;have heq:Qc=fO:=by
              apply List.ext_getElem?;intro j;have sT:Qc.length=fO.length:=by rw[uU f3,xu,bY,dC]
              by_cases ag:j<Qc.length
              ·have J:=(v8 f2 (cg ag)).2;rw[Nat.zero_add]at J;have U:=bm.cells (g:=bl) (by rw[oz];rfl) j fO[j] (cg Ω);rw[p4,Nat.zero_add,J]at U;rw[cg ag,cg Ω];exact U
              ·rw[rf Ω,rf Ω]
             subst heq;exact⟨f2,by rw[bB];exact f3,trivial⟩
           obtain⟨sM,ml,_⟩:=ais;by_cases sR:xs.length+ys.length<=cap
           ·have asH:cur.size=cap*ow.sz:=OH;have hmul:(xs.length+ys.length)*ow.sz<=cap*ow.sz:=rh _ sR;rw[p0]at hmul;have f1:=run_append_room (P:=P) w t type ow.el fN jr aq bl xs.length cap cur Ca ⟨lU,oy,none⟩ ys.length mg hD (by rw[kg,bB]) sP (zL ny) sR (by rw[kg,bB,<-dC];omega);obtain⟨cP,c8⟩:=aM.inPlace ae (bl:=bl) (cap:=cap) (cur:=cur) (by rw[eu,<-oz]) Ca OG OH (xs:=xs) (ys:=ys) (us:=fO) (ns:=hD) bY.symm IP (by rw[dC,<-bB];exact ml) (by rw[dC];exact ny) hyp (by rw[bY];exact sR) kO;refine nj (v:= .slice (some ⟨bl,0,none⟩) (ow.n+ys.length) cap) (w':=w.setRow bl (fO++hD++cur.toList.drop (ow.n*ow.sz+hD.length)).toArray) (nC _ _ ?_)
             (c7 _ _ (Z.withRowOf k (.slice (some ⟨bl,0,none⟩) (ow.n+ys.length) cap) (ow.n+ys.length) ((ow.n+ys.length)*ow.sz)) ?_)
            ·rw[oi,oz,bY,f1,<-IP,bY,dC,bB]
            ·have:=cP.put (d:=some d) (by simpa[jW]using U) c8;simpa[bY,dC,eS]using this
           ·refine DP (fun _ h=>h.elim) ?_;obtain⟨v',w',f1,f2,f3⟩:=run_append_arg_grows (P:=P) w t type ow.el fN z fN.size fN.bytes jr aq ig rfl rfl xw (by rw[bB];exact fR) ⟨bl,0,none⟩ xs.length cap fO (by rw[xu,bY,dC,bB])
             (fun j u ag=>by rw[p4];exact(v8 sM ag).2) ⟨lU,oy,none⟩ ys.length mg hD (by rw[kg,bB]) sP Ω mm sI
            exact⟨v',w',by rw[oi,oz,bY];exact f1,f2,f3,ml⟩
       ·cases he
      ·cases he;have Hx:=rxn rfl;have Bt:xs=[]:=by rw[Hx]at tC;injection tC with _ aF;exact List.eq_nil_of_length_eq_zero aF.symm
       subst Bt;have y5:(ez.app d g.size el x y).makes st=true:=by simp only[ez.makes,ab]
       have xw:z.cells.size=fN.size:=by rw[sn,bB]
       rw[vy,Hx]at nC;have dG:∀(v':Value) (w':World) (hD:List Value),(Builtin.append_ #[t,t] type #[.slice none 0 0,.slice oN ys.length mg]).run P w= .ok v' w'->w'.ownsRow w.heap.size el g.size v' ys.length hD->w.grownBy w' none->dH w Z g.size ys hD->
         (⟨some d,.call ⟨.builtin .append,⟨[o',jN]⟩,⟨[t,t]⟩⟩,type,pos,after,guard⟩:Oper).wp P a w K Q:=by
        intro v' w' hD f1 f2 f3 f4;obtain⟨cP,c8⟩:=aM.newRow (k:=κ) (xs:=ys) (.inl (aM.new _ (vE y5))) f3 f2 f4 ao (cU y5);exact nj (nC _ _ f1) (c7 _ _ _ (cP.put (d:=some d) (by simpa[jW]using U) c8))
       by_cases jH:ys=[]
       ·subst jH;exact dG _ w [] (Jy jr aq none 0 0 (dZ _) oN mg) (World.ownsRow_nil w _ _ _) (aq5 w _) (by simp[dH])
       ·rcases cy4 with cy4|⟨lU,oy,hD,rfl,zo,ny⟩
        ·exact absurd cy4 jH
        ·have kg:=uU ny;have sP:∀j u,hD[j]? =some u->w.cell? ((⟨lU,oy,none⟩:Addr).add j)=some u:=fun j u ag=>by rw[p4];exact(v8 zo ag).2
         have sI:ys.length*fN.bytes<=140737488355328:=by
          have J:fN.bytes<=2048:=by rw[ds];exact hby
          have U:ys.length*fN.bytes<=ys.length*2048:=Nat.mul_le_mul_left _ J;simp only[lim]at ao;omega
         have mm:ys.length<=maxLen:=by simp only[lim]at ao;simp only[maxLen];omega
         obtain⟨v',w',f1,f2,f3,_⟩:=run_append_own (P:=P) w w.heap.size t type el fN z fN.size fN.bytes jr aq ig rfl rfl xw (by rw[bB];exact fR) (.slice none 0 0) 0 [] (World.ownsRow_nil w _ _ _)
          ⟨lU,oy,none⟩ ys.length mg hD (by rw[kg,bB]) sP (zL ny) (by simpa using mm) (by simpa using sI) (dZ _)
         exact dG v' w' hD f1 (by rw[<-bB];simpa using f2) (by simpa[pb]using f3) ny
      ·cases he
     ·cases he
    ·cases he
   ·cases h5
  ·cases h4
 ·rename_i d key sz el xs t len parts;simp only[cr,dM,eN]at ay;obtain⟨⟨⟨⟨⟨⟨J,U⟩,h3⟩,h4⟩,h5⟩,c9⟩,dX⟩:=ay;subst J;subst h5;split at h3
  ·rename_i gj aN;simp only[dM]at h3;subst h3;split at h4
   ·rename_i g aW;simp only[cr,dM,eN]at h4;obtain⟨rfl,fR⟩:=h4;simp only[eR]at he;cases he;obtain⟨us,g1,g2,g3⟩:=Z4 aI aM aN rfl aW dX ao c9;have mo:(w.alloc (.cells us el)).ownsRow w.heap.size el g.size (.slice (some ⟨w.heap.size,0,none⟩) xs.length xs.length) (xs.map (cu st.t)).length us.toList:=by
     refine⟨by simp[g3],.inr ⟨w.heap.size,xs.length,us,Ψ,dZ _,heap_alloc_new w _,Ψ,?_,g3,?_⟩⟩
     ·simp only[maxLen];have:xs.length<=xs.length*g.size:=Nat.le_mul_of_pos_right _ fR;omega
     ·rw[hl];simp[g3]
    obtain⟨eu,fe⟩:=aM.newRowM (k:=κ) (xs:=xs.map (cu st.t)) (.inl (aM.new _ (vE rfl))) (World.grownBy_alloc w _ none) mo g2
     (by have:xs.length<=xs.length*g.size:=Nat.le_mul_of_pos_right _ fR;simp only[lim,List.length_map];omega) (cU rfl)
    simp only[List.length_map]at eu fe;refine nj (v:= .slice (some ⟨w.heap.size,0,none⟩) xs.length xs.length) (w':=w.alloc (.cells us el)) ?_ (c7 _ _ _ (eu.put (d:=some d) (by simpa[jW]using U) (p:= .row g.size κ xs.length) (fe ⟨_,_,rfl⟩)));have bF:(parts.map fun(x:Nat×Operand)=>(x.1,a.eval x.2))=(parts.toList.map fun(x:Nat×Operand)=>(x.1,a.eval x.2)).toArray:=by apply Array.ext';simp
    simp only[execOp];refine FK ?_;rw[<-g1];congr 2
   ·cases h4
  ·cases h3
 ·rename_i d key sz el x y o' jN t du;simp only[cr,dM,eN]at ay;obtain⟨⟨⟨⟨⟨⟨J,U⟩,h3⟩,h4⟩,h5⟩,c9⟩,dX⟩:=ay;subst J;subst h3;split at h4
  ·rename_i gj aN;simp only[dM]at h4;subst h4;split at h5
   ·rename_i g aW;simp only[cr,dM,eN]at h5;obtain⟨⟨rfl,fR⟩,hby⟩:=h5;have rx:=et aM c9;have mB:=et aM dX;have nC:∀v' w',(Builtin.append_ #[t,t] type #[a.eval o',a.eval jN]).run P w= .ok v' w'->(execOp a.eval ⟨some d,.call ⟨.builtin .append,⟨[o',jN]⟩,⟨[t,t]⟩⟩,type,pos,after,guard⟩).run P w= .ok (.value v') w':=by intro v' w' iI;simp only[execOp,resolve,invoke,builtin,fU,gC,fZ,List.map_toArray,gZ,nn];rw[iI];rfl
    obtain⟨fN,cm,z,aq,aF,bB,ds,ie,ig,sl,sn⟩:=(wF aI aW).ex;obtain⟨e2,jr,fc⟩:=jw aI aN;obtain rfl:=tT fc;have xw:z.cells.size=fN.size:=by rw[sn,bB]
    simp only[eR]at he;split at he
    ·
     rename_i ys az;cases he;unfold tQ at az;split at az
     ·rename_i dL xs jQ lL aqY ab aC;split at az
      ·rename_i fv;obtain⟨rfl,fv⟩:=fv;subst fv;cases az;rw[ab]at rx;rw[aC]at mB;simp only[a8]at rx mB;obtain⟨⟨vj,p7,tC,cx1,⟨TH,TI⟩,cx4⟩,rxn,rxo,rxt⟩:=rx;obtain⟨⟨oN,mg,vy,cy1,⟨TJ,TK⟩,cy4⟩,_⟩:=mB;have Hx:=rxn trivial;have y5:(ez.appm d key g.size el x y).makes st=true:=by simp only[ez.makes,ab]
       rw[vy,Hx]at nC;have dG:∀(v':Value) (w':World) (hD:List Value),(Builtin.append_ #[t,t] type #[.slice none 0 0,.slice oN ys.length mg]).run P w= .ok v' w'->w'.ownsRow w.heap.size el g.size v' ys.length hD->w.grownBy w' none->dH w Z g.size ys hD->
         (⟨some d,.call ⟨.builtin .append,⟨[o',jN]⟩,⟨[t,t]⟩⟩,type,pos,after,guard⟩:Oper).wp P a w K Q:=by
        intro v' w' hD f1 f2 f3 f4;obtain⟨cP,c8⟩:=aM.newRowM (k:=κ) (xs:=ys) (.inl (aM.new _ (vE y5))) f3 f2 f4 ao.1 (cU y5);exact nj (nC _ _ f1) (c7 _ _ _ (cP.put (d:=some d) (by simpa[jW]using U) (c8 (YC f2 (by cases ys<;>simp at ao⊢)))))
       by_cases jH:ys=[]
       ·subst jH;exact dG _ w [] (Jy jr aq none 0 0 (dZ _) oN mg) (World.ownsRow_nil w _ _ _) (aq5 w _) (by simp[dH])
       ·rcases cy4 with cy4|⟨lU,oy,hD,rfl,zo,ny⟩
        ·exact absurd cy4 jH
        ·have kg:=uU ny;have sP:∀j u,hD[j]? =some u->w.cell? ((⟨lU,oy,none⟩:Addr).add j)=some u:=fun j u ag=>by rw[p4];exact(v8 zo ag).2
         have sI:ys.length*fN.bytes<=140737488355328:=by
          have J:fN.bytes<=2048:=by rw[ds];exact hby
          have U:ys.length*fN.bytes<=ys.length*2048:=Nat.mul_le_mul_left _ J;simp only[lim]at ao;omega
         have mm:ys.length<=maxLen:=by simp only[lim]at ao;simp only[maxLen];omega
         obtain⟨v',w',f1,f2,f3,_⟩:=run_append_own (P:=P) w w.heap.size t type el fN z fN.size fN.bytes jr aq ig rfl rfl xw (by rw[bB];exact fR) (.slice none 0 0) 0 [] (World.ownsRow_nil w _ _ _)
          ⟨lU,oy,none⟩ ys.length mg hD (by rw[kg,bB]) sP (zL ny) (by simpa using mm) (by simpa using sI) (dZ _)
         exact dG v' w' hD f1 (by rw[<-bB];simpa using f2) (by simpa[pb]using f3) ny
      ·cases az
     ·split at az
      ·split at az
       ·split at az<;>cases az
       ·cases az
      ·cases az
     ·cases az
    ·
     rename_i k xs ys az;cases he;unfold tQ at az;split at az
     ·split at az<;>cases az
     ·rename_i dL bI n jQ lL aqY ab aC;split at az
      ·rename_i fv;obtain⟨rfl,fv⟩:=fv;subst fv;split at az
       ·rename_i n' gj x3 xs' ae;split at az
        ·rename_i sJ;obtain⟨rfl,rfl,rfl⟩:=sJ;cases az;rw[ab]at rx;rw[aC]at mB;simp only[a8]at rx mB;obtain⟨⟨bx,p7,tC⟩,rxl,n0,CC,eu,fe,qs⟩:=rx;obtain⟨⟨oN,mg,vy,cy1,⟨TJ,TK⟩,cy4⟩,_⟩:=mB;obtain⟨v0,fO,a1,bm,bW,cZ⟩:=aM.good.own k _ ae;rw[eu]at a1;simp only[dE,j7]at a1 bm;obtain⟨rfl,rfl⟩:=a1;have oi:a.eval o'=CC:=qs rfl;obtain⟨c6,o1,wm⟩:=cZ xs rfl;simp only at c6 o1;have xu:fO.length=xs.length*g.size:=by rw[c6];exact bm.1
         have pI:xs.length=n0:=c6;by_cases jH:ys=[]
         ·subst jH;rw[vy,tC]at nC;have kf:n0<=p7:=by
           rcases bm.2 with⟨oz,zF⟩|⟨bl,cap,cur,oz,zF,Ca,OF,_⟩
           ·rw[zF];exact Nat.zero_le _
           ·rw[<-oi,tC]at oz;injection oz with _ _ e;rw[e];exact OF
          have iI:=Jy (P:=P) (w:=w) (ty:=type) jr aq (some ⟨bx,0,none⟩) n0 p7 kf oN mg;refine nj (nC _ _ (by simpa using iI)) (c7 _ _ Z ?_);have hY:∀fb,look fb (cB k ⟨n0,gj,g.size,some xs⟩ st.e)=look fb st.e:=fun fb=>by
           rw[ju];split
           ·rename_i e;subst e;rw[ae]
           ·rfl
          have nF:c2 C {st with e:=cB k ⟨n0,gj,g.size,some xs⟩ st.e} a w Z:=
           ⟨⟨aM.good.alt,aM.good.box,aM.good.inj,fun g o aW=>aM.good.own g o (by rw[<-hY g];exact aW),fun g fb n n' v v' bl bA a2=>aM.good.oinj g fb n n' v v' bl (by rw[<-hY g];exact bA) (by rw[<-hY fb];exact a2),
           fun g j n v bl bA=>aM.good.obx g j n v bl (by rw[<-hY g];exact bA),aM.good.one,fun bl ad=>aM.good.otr bl (ad.imp id (fun⟨g,n,v,bA,a2⟩=>⟨g,n,v,by rw[<-hY g];exact bA,a2⟩))⟩,aM.fr,aM.defers,aM.size,aM.slot,aM.new⟩
          have h3:=nF.put (d:=some d) (by simpa[jW]using U) (p:= .row g.size k n0) (v:= .slice (some ⟨bx,0,none⟩) n0 p7) (by simp only[a8];exact⟨⟨_,_,rfl⟩,rxl,_,_,eu,dZ _,fun _=>by rw[<-tC];exact oi⟩)
          simpa[pI,eS]using h3
         ·have hyp:0<ys.length:=by cases ys<;>simp at jH⊢
          rcases cy4 with cy4|⟨lU,oy,hD,rfl,zo,ny⟩
          ·exact absurd cy4 jH
          ·have kg:=uU ny;have sP:∀j u,hD[j]? =some u->w.cell? ((⟨lU,oy,none⟩:Addr).add j)=some u:=fun j u ag=>by rw[p4];exact(v8 zo ag).2
           have sI:(xs.length+ys.length)*fN.bytes<=140737488355328:=by
            have kr:fN.bytes<=2048:=by rw[ds];exact hby
            have od:(xs.length+ys.length)*fN.bytes<=(xs.length+ys.length)*2048:=Nat.mul_le_mul_left _ kr;simp only[lim]at ao;omega
           have mm:xs.length+ys.length<=maxLen:=by simp only[lim]at ao;simp only[maxLen];omega
           have Hj:dH w Z g.size (xs++ys) (fO++hD):=Fc o1 ny;rw[vy,oi]at nC;have DP:(∃v' w',(Builtin.append_ #[t,t] type #[CC,.slice (some ⟨lU,oy,none⟩) ys.length mg]).run P w= .ok v' w'/\w'.ownsRow w.heap.size gj fN.size v' (xs.length+ys.length) (fO++hD)/\w.grownBy w' none)->
             (⟨some d,.call ⟨.builtin .append,⟨[o',jN]⟩,⟨[t,t]⟩⟩,type,pos,after,guard⟩:Oper).wp P a w K Q:=by
            intro cE;obtain⟨v',w',f1,f2,f3⟩:=cE;obtain⟨cP,c8⟩:=aM.newRowM (k:=k) (xs:=xs++ys) (el:=gj) (sz:=g.size) (.inr ⟨_,ae,by simp;omega⟩) f3 (by rw[<-bB];simpa using f2) Hj (by simpa using ao) (n':=st.n) (o':=st.o)
             (fun j ag=>⟨ag,fun e=>by subst e;have:=(aM.new _ ag).2.1;rw[eu]at this;cases this⟩)
            refine nj (nC _ _ f1) (c7 _ _ (Z.withOwn k (xs++ys).length v') ?_);have:=cP.put (d:=some d) (by simpa[jW]using U) (c8 (by simpa using YC f2 Ω));simpa[eS]using this
           rcases bm.2 with⟨oz,zF⟩|⟨bl,cap,cur,oz,zF,Ca,OF,OG,OH,IP⟩
           ·
            have Bt:xs=[]:=List.eq_nil_of_length_eq_zero Ω;have M0:fO=[]:=List.eq_nil_of_length_eq_zero (by rw[xu,Bt];simp);subst Bt;subst M0;refine DP ?_;obtain⟨v',w',f1,f2,f3,_⟩:=run_append_own (P:=P) w w.heap.size t type gj fN z fN.size fN.bytes jr aq ig rfl rfl xw (by rw[bB];exact fR) (.slice none 0 0) 0 [] (World.ownsRow_nil w _ _ _)
             ⟨lU,oy,none⟩ ys.length mg hD (by rw[kg,bB]) sP (zL ny) (by simpa using mm) (by simpa using sI) (dZ _)
            exact⟨v',w',by rw[oz];exact f1,by simpa using f2,by simpa[pb]using f3⟩
           ·have pH:CC.ownBlock=some bl:=by rw[oz];rfl
            by_cases sR:xs.length+ys.length<=cap
            ·have hmul:(xs.length+ys.length)*g.size<=cap*g.size:=rh _ sR;rw[p0]at hmul;have f1:=run_append_room (P:=P) w t type gj fN jr aq bl xs.length cap cur Ca ⟨lU,oy,none⟩ ys.length mg hD (by rw[kg,bB]) sP (zL ny) sR (by rw[kg,bB];omega);generalize Bs:(cur.toList.take (xs.length*fN.size)++hD++cur.toList.drop (xs.length*fN.size+hD.length)).toArray=uO at f1;have ku:(w.setRow bl uO).heap[bl]? =some (.cells uO gj (0,0)):=setRow_heap w bl cur uO gj _ Ca;have av:(fO++hD).length=(xs++ys).length*g.size:=by rw[pc,xu,kg,pc,p0]
             have h5:cur.toList.take (xs.length*fN.size)=fO:=by rw[pI,bB];exact IP
             have ld:uO.size=cap*g.size:=by rw[<-Bs];simp only[List.size_toArray,pc,List.length_take,tG,Array.length_toList];rw[bB];omega
             have qh:uO.toList.take ((xs++ys).length*g.size)=fO++hD:=by rw[<-Bs,h5];simp only[<-av];rw[List.take_append_of_le_length (dZ _),lQ]
             obtain⟨cP,_,c8⟩:=aM.setRowM (w':=w.setRow bl uO) ae rfl eu pH (v':= .slice (some ⟨bl,0,none⟩) (xs.length+ys.length) cap) rfl (xs':=xs++ys) (us:=fO++hD) (.inr d7) rfl rfl rfl (fun j ag=>setRow_other w bl j uO ag) (setRow_size w bl uO)
              ⟨av,.inr ⟨bl,cap,uO,Ψ,Nat.zero_le _,ku,by simpa using sR,OG,ld,qh⟩⟩ Hj
             replace c8:=c8 (by simpa using ao);refine nj (v:= .slice (some ⟨bl,0,none⟩) (xs.length+ys.length) cap) (w':=w.setRow bl uO) (nC _ _ ?_) (c7 _ _ (Z.withOwn k (xs++ys).length (.slice (some ⟨bl,0,none⟩) (xs.length+ys.length) cap)) ?_)
             ·rw[oz,<-pI];exact f1
             ·have:=cP.put (d:=some d) (by simpa[jW]using U) c8;simpa[eS]using this
            ·refine DP ?_;obtain⟨v',w',f1,f2,f3⟩:=run_append_arg_grows (P:=P) w t type gj fN z fN.size fN.bytes jr aq ig rfl rfl xw (by rw[bB];exact fR) ⟨bl,0,none⟩ xs.length cap fO (by rw[xu,bB])
              (fun j u ag=>by have:=bm.cells pH j u ag;exact this) ⟨lU,oy,none⟩ ys.length mg hD (by rw[kg,bB]) sP Ω mm sI
             exact⟨v',w',by rw[oz,<-pI];exact f1,f2,f3⟩
        ·cases az
       ·cases az
      ·cases az
     ·cases az
    ·cases he
   ·cases h5
  ·cases h4
 ·rename_i sz x y t o' jN;simp only[cr,dM]at ay;obtain⟨⟨⟨J,U⟩,h3⟩,h4⟩:=ay;subst J;split at U
  ·rename_i f aN;simp only[dM]at U;simp only[eR]at he;generalize ML:cu st.t x=px at he;unfold r4 at he;split at he
   ·rename_i dL k n i tY;split at he
    ·rename_i n' el jQ xs ae;split at he
     ·rename_i vK;obtain⟨rfl,rfl⟩:=vK;split at he
      ·rename_i q bE;cases he;obtain⟨k4,bY,cw,dC,kO⟩:=ao;have rx:=et aM h3;rw[ML]at rx;have mB:=et aM h4;have wv:=wx mB bY;have wz:=qu wv;obtain⟨_,dS⟩:=wE aI aN w;have sX:(a.eval jN).cells.size=sz:=by rw[cw]at wz;simpa using wz
       obtain⟨bl,off,nx,D1,dd,bh,pF⟩:=aM.storeRow (P:=P) ae rx bE k4 wv (by simpa[sX]using dC) (fun e=>by have:=eW List.length e;simp[sX]at this;omega);refine FQ (w':=w.setRow bl nx) ?_ (c7 _ _ _ pF);simp only[execOp,Instr.storeAt,D1,Instr.sureAddr,storeVar,fU,gC,fZ,dS,sX,U,ne_eq,not_true_eq_false,if_false,dd]
      ·cases he
     ·cases he
    ·cases he
   ·cases he
  ·cases U
 ·rename_i d key sz el z x t o' jN;simp only[cr,dM,eN]at ay;obtain⟨⟨⟨⟨⟨J,U⟩,h3⟩,h4⟩,h5⟩,c9⟩:=ay;subst J;split at h3
  ·rename_i gj aN;simp only[dM]at h3;subst h3;split at h4
   ·rename_i g aW;simp only[cr,dM,eN]at h4;obtain⟨⟨⟨rfl,fR⟩,hby⟩,bd⟩:=h4;obtain rfl:=QF bd;have rx:=et aM h5;have mB:=et aM c9;simp only[eR]at he;split at he
    ·rename_i fF n ab;cases he;obtain⟨aiC,kg⟩:=ao;obtain⟨m,rfl⟩:=Int.eq_ofNat_of_zero_le aiC;rw[ab]at rx mB;simp only[a8]at rx mB;obtain⟨fN,cm,bS,aq,aF,bB,ds,ie,ig,sl,sn⟩:=(wF aI aW).ex;obtain⟨e2,jr,fc⟩:=jw aI aN;obtain rfl:=tT fc;have mm:m<=lim:=by simp only[lim]at kg⊢;omega
     have sI:fN.bytes*m<=281474976710656:=by have J:fN.bytes*m<=2048*m:=rh _ Ω;simp only[lim]at mm;omega
     obtain⟨aiX,ahR⟩:=QE w Z sl;obtain⟨w',g1,g2,g3⟩:=run_make_full (P:=P) w w.heap.size t el fN bS fN.size jr aq ig rfl fF fF m sI (by simp only[maxLen];simp only[lim]at mm;omega) (dZ _);have mo:w'.ownsRow w.heap.size el g.size (.slice (some ⟨w.heap.size,0,none⟩) m m) (List.replicate m g.zero).length (madeCells bS.cells (m*bS.cells.size)).toList:=by rw[bB,<-sn]at g2;rw[List.length_replicate,<-sn];exact g2
     obtain⟨eu,fe⟩:=aM.newRowM (k:=κ) (xs:=List.replicate m g.zero) (.inl (aM.new _ (vE rfl))) g3 mo (by rw[<-sn];exact Xu aiX Ω (Cn ahR) m) (by simpa using mm) (cU rfl);simp only[List.length_replicate]at eu fe;simp only[Int.toNat_natCast]at c7;refine nj (v:= .slice (some ⟨w.heap.size,0,none⟩) m m) (w':=w') ?_ (c7 _ _ _ (eu.put (d:=some d) (by simpa[jW]using U) (p:= .row g.size κ m) (fe ⟨_,_,rfl⟩)));simp only[execOp];refine FK ?_;rw[rx,mB];exact g1
    ·cases he
   ·cases h4
  ·cases h3
 ·cases ay
theorem aoE{P:cK}{bC:List (Nat×dy)}(aI:fJ P bC=true){C:fp}{st st':bn}{a:Act}{w:World}{Z:bc}(aM:c2 C st a w Z){i:ez}{o:Oper}(ay:Fl C.N bC i o=true)
  {c:Prop} (he:nb st i=some (c,st')) (ao:c) {K:Act->World->Prop} {Q:Exit->Act->World->Prop} (c7:∀bk w' bh,c2 C st' bk w' bh->K bk w'):o.wp P a w K Q:=by
 have pD:q1 st none->fresh st.n st.o (.loc st.n):=fun h=>xK (key:=none) h;have fL:∀j,fresh (st.n+1) st.o j->fresh st.n st.o j/\j≠ .loc st.n:=xL (key:=none);cases i with
 |v d i=>exact km (κ:= .loc 0) (n':=0) (o₁:=[]) aI aM ay (fun h=>by simp[ez.makes]at h) (fun h=>by simp[ez.makes]at h) (by simpa only[nb,eR]using he) ao c7
 |box d key x=>simp only[nb]at he;cases he;exact km (κ:=kk st key) (n':=ov st key) (o₁:=ox st key) aI aM ay (fun _=>xK ao.1) (fun _=>xL) (by simp only[eR]) ao.2 c7
 |alloc d key z=>simp only[nb]at he;cases he;exact km (κ:=kk st key) (n':=ov st key) (o₁:=ox st key) aI aM ay (fun _=>xK ao) (fun _=>xL) (by simp only[eR]) trivial c7
 |mks d key sz el z x=>
  simp only[nb]at he;split at he
  ·rename_i fF n ab;cases he;exact km (κ:=kk st key) (n':=ov st key) (o₁:=ox st key) aI aM ay (fun _=>xK ao.1) (fun _=>xL) (by simp only[eR,ab]) ao.2 c7
  ·cases he
 |storeE sz x y=>exact km (κ:= .loc 0) (n':=0) (o₁:=[]) aI aM ay (fun h=>by simp[ez.makes]at h) (fun h=>by simp[ez.makes]at h) (by simpa only[nb,eR]using he) ao c7
 |store sz x y=>exact km (κ:= .loc 0) (n':=0) (o₁:=[]) aI aM ay (fun h=>by simp[ez.makes]at h) (fun h=>by simp[ez.makes]at h) (by simpa only[nb,eR]using he) ao c7
 |bsl d sz el xs=>simp only[nb]at he;cases he;exact km (κ:= .loc st.n) (n':=st.n+1) (o₁:=st.o) aI aM ay (fun _=>pD ao.1) (fun _=>fL) (by simp only[eR]) ao.2 c7
 |bslm d key sz el xs=>simp only[nb]at he;cases he;exact km (κ:=kk st key) (n':=ov st key) (o₁:=ox st key) aI aM ay (fun _=>xK ao.1) (fun _=>xL) (by simp only[eR]) ao.2 c7
 |appm d key sz el x y=>
  simp only[nb]at he;split at he
  ·rename_i ys az;cases he;exact km (κ:=kk st key) (n':=ov st key) (o₁:=ox st key) aI aM ay (fun _=>xK ao.1) (fun _=>xL) (by simp only[eR,az]) ao.2 c7
  ·rename_i k xs ys az;cases he;refine km (κ:= .loc 0) (n':=0) (o₁:=[]) aI aM ay (fun h=>?_) (fun h=>?_) (by simp only[eR,az]) ao c7;all_goals
    exfalso
    simp only[ez.makes]at h
    split at h
    ·rename_i ab
     unfold tQ at az
     rw[ab]at az
     split at az
     ·split at az<;>cases az
     ·rename_i J _;cases J
     ·cases az
    ·cases h
  ·cases he
 |mkmap d key=>simp only[nb]at he;cases he;exact km (κ:=kk st key) (n':=ov st key) (o₁:=ox st key) aI aM ay (fun _=>xK ao) (fun _=>xL) (by simp only[eR]) trivial c7
 |mput ch x k v=>exact km (κ:= .loc 0) (n':=0) (o₁:=[]) aI aM ay (fun h=>by simp[ez.makes]at h) (fun h=>by simp[ez.makes]at h) (by simpa only[nb,eR]using he) ao c7
 |range d key x=>
  simp only[nb]at he;split at he
  ·rename_i m ab;split at he
   ·rename_i cs dj;split at he
    ·rename_i cs' hm;cases he;exact km (κ:=kk st key) (n':=ov st key) (o₁:=ox st key) aI aM ay (fun _=>xK ao) (fun _=>xL) (by simp only[eR,ab,dj,hm]) trivial c7
    ·cases he
   ·cases he
  ·cases he
 |app d sz el x y=>
  simp only[nb]at he;split at he
  ·rename_i dL tag xs jQ lL ys ab aC;split at he
   ·rename_i fv;split at he
    ·rename_i k;split at he
     ·rename_i ow ae;cases he;refine km (κ:= .loc 0) (n':=0) (o₁:=[]) aI aM ay (fun h=>by simp[ez.makes,ab]at h) (fun h=>by simp[ez.makes,ab]at h) ?_ ao c7;simp only[eR,ab,aC,fv,and_self,if_true,ae]
     ·cases he
    ·cases he;refine km (κ:= .loc st.n) (n':=st.n+1) (o₁:=st.o) aI aM ay (fun _=>pD ao.1) (fun _=>fL) ?_ ao.2 c7;simp only[eR,ab,aC,fv,and_self,if_true]
    ·cases he
   ·cases he
  ·cases he
structure cT where
 b:List (aL×List aj)
 e:List (aL×fP)
def fA(Z:bc)(s:cT)(bl:Nat):Prop:=(∃k,(look k s.b).isSome/\Z.bx k=some bl)\/(∃g n v,(look g s.e).isSome/\Z.ow g=some (n,v)/\v.ownBlock=some bl)
def pw(Z:bc)(s:cT):Prop:= ∀k,(look k s.b=none->Z.bx k=none)/\(look k s.e=none->Z.ow k=none)/\∀j b,¬Z.tr k j b
def c5(s:cT):List aL:=s.b.map (·.1)++s.e.map (·.1)
def je(s:cT):Prop:=(∀m,look (.loc m) s.b=none)/\(∀m,look (.loc m) s.e=none)
def yl(P:cK)(f:FuncId)(a7:Array Value)(w:World)(R:Ending->World->Prop):Prop:=((∃fn,P.funcs[f]? =some fn/\fn.body.isSome=true/\(fn.name== "runtime.NumGoroutine")=false)/\Calls P f a7 w R)\/ ∃v w',(callFunc f a7).run P w= .ok (.value v) w'/\R (.returned v) w'
def bG(P:cK)(f:FuncId)(args:List aj)(s:cT)(Q:aj->cT->Prop):Prop:=
 ∀(w:World) (Z:bc) (a7:Array Value),Good (fA Z s) w Z s.b s.e->pw Z s->cX w Z args a7.toList->
  yl P f a7 w fun e w'=> ∃v r ah bh,e= .returned v/\Q r ah/\a8 w' bh r v/\Good (fun bl=>fA Z s bl\/w.heap.size<=bl) w' bh ah.b ah.e/\pw bh ah/\je ah/\qB ⟨w,Z,fA Z s,0,c5 s⟩ w' bh
def GR(κ:Option Nat)(Z:bc)(s:cT):Prop:= ∀k,(look k s.b=none->Z.bx k=none)/\(look k s.e=none->Z.ow k=none)/\∀j b,Z.tr k j b->∃m,κ=some m/\k= .loc m
theorem pw.k{Z:bc}{s:cT}(h:pw Z s):GR none Z s:=fun k=>⟨(h k).1,(h k).2.1,fun j b ad=>absurd ad ((h k).2.2 j b)⟩
def Kc(P:cK)(f:FuncId)(κ:Nat)(args:List aj)(s:cT)(Q:aj->cT->Prop):Prop:=
 ∀(w:World) (Z:bc) (a7:Array Value),Good (fA Z s) w Z s.b s.e->pw Z s->cX w Z args a7.toList->
  yl P f a7 w fun e w'=> ∃v r ah bh,e= .returned v/\Q r ah/\a8 w' bh r v/\Good (fun bl=>fA Z s bl\/w.heap.size<=bl) w' bh ah.b ah.e/\GR (some κ) bh ah/\je ah/\qB ⟨w,Z,fA Z s,0,c5 s⟩ w' bh
def bK(P:cK)(f:FuncId)(args:List aj)(r:aj):Prop:=bG P f args ⟨[],[]⟩ fun eQ ah=>eQ=r/\ah=⟨[],[]⟩
theorem uH{α:Type}{k:aL}{x:α}:∀{l:List (aL×α)},look k l=some x->(k,x)∈l
 |[],h=>by simp[look]at h
 |(i,y)::r,h=>by
  simp only[look]at h;split at h
  ·rename_i e;subst e;cases h;simp
  ·exact pd _ (uH h)
theorem uQ{s:cT}{k:aL}(h:(look k s.b).isSome\/(look k s.e).isSome):k∈c5 s:=by
 unfold c5;rcases h with h|h<;>obtain⟨x,ab⟩:=fo.1 h<;>have:=uH ab
 ·exact List.mem_append_left _ (hR.2 ⟨_,this,rfl⟩)
 ·exact List.mem_append_right _ (hR.2 ⟨_,this,rfl⟩)
section
open Classical
noncomputable def bc.cut(Z:bc)(S:aL->Prop):bc:={A:=Z.A,bx:=fun k=>if S k then Z.bx k else none,ow:=fun k=>if S k then Z.ow k else none,tr:=fun k j b=>S k/\Z.tr k j b}
theorem bc.cut_bx{Z:bc}{S:aL->Prop}{k:aL}(h:S k):(Z.cut S).bx k=Z.bx k:=by simp[bc.cut,h]
theorem bc.cut_ow{Z:bc}{S:aL->Prop}{k:aL}(h:S k):(Z.cut S).ow k=Z.ow k:=by simp[bc.cut,h]
theorem bc.cut_no{Z:bc}{S:aL->Prop}{k:aL}(h:¬S k):(Z.cut S).bx k=none/\(Z.cut S).ow k=none/\∀j b,¬(Z.cut S).tr k j b:=by simp[bc.cut,h]
theorem bc.cut_some{Z:bc}{S:aL->Prop}{k:aL}{b:Nat}(h:(Z.cut S).bx k=some b):S k/\Z.bx k=some b:=by
 by_cases af:S k
 ·exact⟨af,by rw[bc.cut_bx af]at h;exact h⟩
 ·rw[(bc.cut_no af).1]at h;cases h
theorem bc.cut_someO{Z:bc}{S:aL->Prop}{k:aL}{b:Nat×Value}(h:(Z.cut S).ow k=some b):S k/\Z.ow k=some b:=by
 by_cases af:S k
 ·exact⟨af,by rw[bc.cut_ow af]at h;exact h⟩
 ·rw[(bc.cut_no af).2.1]at h;cases h
theorem pf.cut(S:aL->Prop)(w:World)(Z:bc):pf S w Z w (Z.cut S):=⟨fun _ _ h=>⟨h,rfl⟩,fun k b ae h=>by rw[bc.cut_bx ae];exact h,fun g n u aW h=>⟨n,u,by rw[bc.cut_ow aW];exact h,.inl ⟨rfl,rfl⟩⟩,fun _ _ _=>rfl,fun _ _ _ ae h=>⟨ae,h⟩⟩
end
def gL(S:aL->Prop)(b3 b:List (aL×List aj)):Prop:= ∀k cs,look k b3=some cs->look k b=some cs/\S k/\aO S cs
def oC(S:aL->Prop)(fE e:List (aL×fP)):Prop:= ∀k o,look k fE=some o->look k e=some o/\S k/\dW S o
theorem Good.cut{pr E1:Nat->Prop}{w:World}{Z:bc}{b b3:List (aL×List aj)}{e fE:List (aL×fP)}(h:Good pr w Z b e){S:aL->Prop}(ad:gL S b3 b)(he:oC S fE e)
  (V9:∀bl,pr bl->(∃k,(look k b3).isSome/\(Z.cut S).bx k=some bl)\/(∃g n v,(look g fE).isSome/\(Z.cut S).ow g=some (n,v)/\v.ownBlock=some bl)->E1 bl):Good E1 w (Z.cut S) b3 fE:=by
 have Hi:∀k,(look k b3).isSome->(look k b).isSome/\S k:=fun k ae=>by obtain⟨cs,dj⟩:=fo.1 ae;have:=ad k cs dj;exact⟨by simp[this.1],this.2.1⟩
 have Hl:∀k,(look k fE).isSome->(look k e).isSome/\S k:=fun k ae=>by obtain⟨cs,dj⟩:=fo.1 ae;have:=he k cs dj;exact⟨by simp[this.1],this.2.1⟩
 refine⟨h.alt,fun k cs ae=>?_,fun k bI bl J U h3 h4=>?_,fun g o aW=>?_,fun g fb n n' v v' bl J U h3 h4 h5 c9=>?_,fun g k n v bl J U h3 h4 h5=>?_,fun k=>?_,fun bl aI k j ag=>?_⟩
 ·obtain⟨g1,g2,g3⟩:=ad k cs ae;obtain⟨bl,us,el,f1,f2,f3,f4,f5⟩:=h.box k cs g1;have la:(Z.cut S).bx k=some bl:=by rw[bc.cut_bx g2];exact f1
  exact⟨bl,us,el,la,V9 bl f2 (.inl ⟨k,by simp[ae],la⟩),f3,f4,ZO (pf.cut S w Z) g3 f5⟩
 ·obtain⟨bA,a2⟩:=Hi k J;obtain⟨b1,b2⟩:=Hi bI U;exact h.inj k bI bl bA b1 (bc.cut_some h3).2 (bc.cut_some h4).2
 ·obtain⟨g1,g2,g3⟩:=he g o aW;obtain⟨v,us,f1,f2,f3,f4⟩:=h.own g o g1;have DZ:(Z.cut S).ow g=some (o.n,v):=by rw[bc.cut_ow g2];exact f1
  exact⟨v,us,DZ,f2,fun bl fB=>⟨V9 bl (f3 bl fB).1 (.inr ⟨g,o.n,v,by simp[aW],DZ,fB⟩),(f3 bl fB).2⟩,
   fun xs ab=>⟨(f4 xs ab).1,Ji (pf.cut S w Z) _ _ _ (g3 xs ab) (f4 xs ab).2.1,(f4 xs ab).2.2⟩⟩
 ·obtain⟨bA,a2⟩:=Hl g J;obtain⟨b1,b2⟩:=Hl fb U;exact h.oinj g fb n n' v v' bl bA b1 (bc.cut_someO h3).2 (bc.cut_someO h4).2 h5 c9
 ·obtain⟨bA,a2⟩:=Hl g J;obtain⟨b1,b2⟩:=Hi k U;exact h.obx g k n v bl bA b1 (bc.cut_someO h3).2 h4 (bc.cut_some h5).2
 ·by_cases af:S k
  ·rw[bc.cut_bx af,bc.cut_ow af];exact h.one k
  ·exact .inl (bc.cut_no af).1
 ·refine h.otr bl ?_ k j ag.2;rcases aI with⟨bI,bA,a2⟩|⟨g,n,v,bA,a2,a3⟩
  ·exact .inl ⟨bI,(Hi bI bA).1,(bc.cut_some a2).2⟩
  ·exact .inr ⟨g,n,v,(Hl g bA).1,(bc.cut_someO a2).2,a3⟩
structure jn (ob:List aL) (st st':bn):Prop where
 t:∀x∈st'.t,get x.1 st.t=x.2/\aJ (fun k=> ¬fresh st'.n st'.o k) x.2
 b:gL (fun k=> ¬fresh st'.n st'.o k) st'.b st.b
 e:oC (fun k=> ¬fresh st'.n st'.o k) st'.e st.e
 o:∀m∈ob,m∈st'.o
theorem U7:∀(i:Nat) (l:List (Nat×aj)),get i l= .junk\/(i,get i l)∈l
 |_,[]=>.inl rfl
 |i,(j,p)::r=>by
  by_cases h:j=i
  ·subst h;right;simp[get]
  ·rcases U7 i r with J|J
   ·left;simp[get,h,J]
   ·right;simp[get,h];right;exact J
theorem c2.weaker{C:fp}{st st':bn}{a:Act}{w:World}{Z:bc}(h:c2 C st a w Z)(hw:jn C.ob st st'):c2 C st' a w (Z.cut fun k=> ¬fresh st'.n st'.o k):=by
 refine⟨h.good.cut hw.b hw.e (fun bl bF _=>bF),⟨h.fr.os,h.fr.tape,h.fr.output,h.fr.size,h.fr.block,h.fr.keep,h.fr.fresh,fun n b ad=>?_,h.fr.obn,fun m n u hm=>?_,h.fr.obr,fun k j bI dJ b J U=>h.fr.trd k j bI dJ b J.2 U.2,fun k j b ad=>h.fr.trb k j b ad.2,fun k j b ad=>?_,h.fr.sh⟩,h.defers,h.size,fun i=>?_,fun k ae=>bc.cut_no (fun au=>au ae)⟩
 ·rw[bc.cut_bx (fun cE=>cE.2 (hw.o _ (h.fr.obn n b ad)))];exact h.fr.obj n b ad
 ·rw[bc.cut_ow (fun cE=>cE.2 (hw.o _ (h.fr.obr m n u hm)))];exact h.fr.row m n u hm
 ·rw[bc.cut_bx ad.1,bc.cut_ow ad.1];exact h.fr.trn k j b ad.2
 ·rcases U7 i st'.t with ag|hm
  ·rw[ag];simp[a8]
  ·obtain⟨J,U⟩:=hw.t _ hm;simp only at J;have:=h.slot i;rw[J]at this;exact kY (pf.cut _ w Z) _ _ U this
mutual
def eb:aj->aj
 | .slice sz _ xs=>.slice sz .no (dq xs)
 | .agg cs=>.agg (dq cs)
 | .tuple a7=>.tuple (dq a7)
 | .eptr x=>.eptr (eb x)
 | .iface t x=>.iface t (eb x)
 | .func f dr=>.func f (dq dr)
 |p=>p
def dq:List aj->List aj
 |[]=>[]
 |x::xs=>eb x::dq xs
end
theorem tw:∀xs,(dq xs).length=xs.length
 |[]=>rfl
 |x::xs=>by simp[dq,tw xs]
mutual
theorem LX{t:Bool}{w:World}{A:Nat->Nat->Prop}:∀(p:aj) (F:Nat->Prop) (v:Value),gq t w A F p v->gq t w A F (eb p) v
 | .int _ _,_,_,h=>by simpa only[eb]using h
 | .bool _,_,_,h=>by simpa only[eb]using h
 | .str _,_,_,h=>by simpa only[eb]using h
 | .slice sz tag xs,F,v,h=>by
  simp only[gq,eb]at h⊢;obtain⟨a,cap,J,U,h3,h4⟩:=h;refine⟨a,cap,by rw[tw];exact J,by rw[tw];exact U,by rw[tw];exact h3,?_⟩;rcases h4 with rfl|⟨b,off,us,G,aq,aF,bB,ds,ie,ig⟩
  ·exact .inl rfl
  ·exact .inr ⟨b,off,us,G,aq,aF,bB,ds,ie,UP sz xs G us ig⟩
 | .agg cs,F,v,h=>by simp only[gq,eb]at h⊢;obtain⟨us,J,U⟩:=h;exact⟨us,J,UQ cs F _ U⟩
 | .junk,_,_,h=>by simp[gq]at h
 | .ptr _ _,_,_,h=>by simp[gq]at h
 | .eptr _,_,_,h=>by simp[gq]at h
 | .iface _ _,_,_,h=>by simp[gq]at h
 | .nilp,_,_,h=>by simp[gq]at h
 | .tuple _,_,_,h=>by simp[gq]at h
 | .func _ _,_,_,h=>by simp[gq]at h
 | .gmap _,_,_,h=>by simp[gq]at h
 | .row _ _ _,_,_,h=>by simp[gq]at h
 | .rptr _ _ _ _ _,_,_,h=>by simp[gq]at h
 | .hdm _ _,_,_,h=>by simp[gq]at h
 | .hdi _ _ _,_,_,h=>by simp[gq]at h
 | .cst _,_,_,h=>by simp[gq]at h
theorem UQ{t:Bool}{w:World}{A:Nat->Nat->Prop}:∀(cs:List aj) (F:Nat->Prop) (us:List Value),vx t w A F cs us->vx t w A F (dq cs) us
 |[],_,_,h=>by simpa only[dq]using h
 |c::cs,F,us,h=>by simp only[vx,dq]at h⊢;obtain⟨u,cj,iC,iT,J,U,⟨h5,c9⟩,dX⟩:=h;exact⟨u,cj,iC,iT,J,U,⟨LX c iC u h5,c9⟩,UQ cs iT cj dX⟩
theorem UP{t:Bool}{w:World}{A:Nat->Nat->Prop}(sz:Nat):∀(cs:List aj) (F:Nat->Prop) (us:List Value),vw t w A F sz cs us->vw t w A F sz (dq cs) us
 |[],_,_,h=>by simpa only[dq]using h
 |c::cs,F,us,h=>by simp only[vw,dq]at h⊢;obtain⟨u,cj,iC,iT,J,U,⟨h5,c9⟩,dX⟩:=h;exact⟨u,cj,iC,iT,J,U,⟨LX c iC u h5,c9⟩,UP sz cs iT cj dX⟩
end
theorem UO{t:Bool}{w:World}{A:Nat->Nat->Prop}{F:Nat->Prop}{sz:Nat}{tag:CU}(lL:CU){xs:List aj}(v:Value)(h:gq t w A F (.slice sz tag xs) v):gq t w A F (.slice sz lL (dq xs)) v:=by have:=LX _ F v h;simp only[eb,gq]at this⊢;exact this
mutual
theorem lK{w:World}{Z:bc}:∀(p:aj) (v:Value),a8 w Z p v->a8 w Z (eb p) v
 | .junk,_,h=>by simpa only[eb]using h
 | .int k n,_,h=>by simpa only[eb]using h
 | .bool b,_,h=>by simpa only[eb]using h
 | .str s,_,h=>by simpa only[eb]using h
 | .slice sz tag xs,v,h=>by
  simp only[a8,eb]at h⊢;obtain⟨⟨a,cap,J,U,h3,h4⟩,h5,c9⟩:=h;refine⟨⟨a,cap,by rw[tw];exact J,by rw[tw];exact U,by rw[tw];exact h3,?_⟩,fun e=>(by cases e),fun g e=>(by cases e),fun _ _ e=>(by cases e),fun _ e=>(by cases e)⟩;rcases h4 with rfl|⟨b,off,us,h4,c9,dX⟩
  ·exact .inl rfl
  ·exact .inr ⟨b,off,us,h4,c9,ZR sz xs us dX⟩
 | .agg cs,v,h=>by simp only[a8,eb]at h⊢;obtain⟨us,J,U⟩:=h;exact⟨us,J,ZV cs _ U⟩
 | .ptr key off,v,h=>by simpa only[eb]using h
 | .iface t x,v,h=>by simp only[a8,eb]at h⊢;obtain⟨u,J,U⟩:=h;exact⟨u,J,lK x u U⟩
 | .eptr x,v,h=>by simp only[a8,eb]at h⊢;obtain⟨b,off,u,J,U,h3⟩:=h;exact⟨b,off,u,J,lK x u U,h3⟩
 | .nilp,_,h=>by simpa only[eb]using h
 | .tuple a7,v,h=>by simp only[a8,eb]at h⊢;obtain⟨us,J,U⟩:=h;exact⟨us,J,Jo a7 _ U⟩
 | .func f dr,v,h=>by simp only[a8,eb]at h⊢;obtain⟨us,J,U⟩:=h;exact⟨us,J,Jo dr _ U⟩
 | .gmap key,v,h=>by simpa only[eb]using h
 | .row _ _ _,v,h=>by simpa only[eb]using h
 | .rptr _ _ _ _ _,v,h=>by simpa only[eb]using h
 | .cst _,v,h=>by simpa only[eb]using h
theorem ZV{w:World}{Z:bc}:∀(cs:List aj) (us:List Value),dm w Z cs us->dm w Z (dq cs) us
 |[],_,h=>by simpa only[dq]using h
 |c::cs,us,h=>by simp only[dm,dq]at h⊢;obtain⟨u,cj,J,U,h3⟩:=h;exact⟨u,cj,J,⟨lK c u U.1,U.2⟩,ZV cs cj h3⟩
theorem Jo{w:World}{Z:bc}:∀(cs:List aj) (us:List Value),cX w Z cs us->cX w Z (dq cs) us
 |[],_,h=>by simpa only[dq]using h
 |c::cs,us,h=>by simp only[cX,dq]at h⊢;obtain⟨u,cj,J,U,h3⟩:=h;exact⟨u,cj,J,lK c u U,Jo cs cj h3⟩
theorem ZR{w:World}{Z:bc}(sz:Nat):∀(xs:List aj) (us:List Value),dH w Z sz xs us->dH w Z sz (dq xs) us
 |[],_,h=>by simpa only[dq]using h
 |x::xs,us,h=>by simp only[dH,dq]at h⊢;obtain⟨u,cj,J,⟨U,h3,h4⟩,h5⟩:=h;exact⟨u,cj,J,⟨lK x u U,h3,h4⟩,ZR sz xs cj h5⟩
end
def inObs(s:cT)(k:aL):Prop:=(look k s.b).isSome=true\/(look k s.e).isSome=true
def cb{α β:Type}(s:List (aL×β)):List (aL×α)->List (aL×α)
 |[]=>[]
 |(k,x)::r=>match look k s with
  |some _=>cb s r
  |none=>(k,x)::cb s r
theorem wc{α β:Type}(s:List (aL×β))(k:aL):∀l:List (aL×α),look k (cb s l)=if(look k s).isSome then none else look k l
 |[]=>by simp[cb,look]
 |(i,x)::r=>by
  simp only[cb];by_cases e:i=k
  ·subst e;cases h:look i s with
   |some y=>simp[wc s i r,h]
   |none=>simp[look]
  ·cases h:look i s with
   |some y=>simp[wc s k r,look,e]
   |none=>simp[look,e,wc s k r]
theorem zn{α:Type}(k:aL):∀l a6:List (aL×α),look k (l++a6)=match look k l with|some x=>some x|none=>look k a6
 |[],a6=>by simp[look]
 |(i,x)::r,a6=>by
  by_cases e:i=k
  ·simp[look,e]
  ·simp[look,e,zn k r a6]
def after(st:bn)(s ah:cT)(d:Option Nat)(r:aj):bn:={t:=eS d r st.t,b:=cb s.b st.b++ah.b,e:=cb s.e st.e++ah.e,n:=st.n,o:=st.o++c5 ah}
section
open Classical
noncomputable def bc.join(Z bh:bc)(s ah:cT):bc:={A:=bh.A,bx:=fun k=>if(look k s.b).isSome\/(look k ah.b).isSome then bh.bx k else Z.bx k,ow:=fun k=>if(look k s.e).isSome\/(look k ah.e).isSome then bh.ow k else Z.ow k,tr:=fun k j b=>Z.tr k j b\/bh.tr k j b}
end
theorem c2.callK{C:fp}{st:bn}{a:Act}{w w':World}{Z bh:bc}(h:c2 C st a w Z){s ah:cT}(ad:gL (inObs s) s.b st.b)(he:oC (inObs s) s.e st.e)(vL:je s)
  (aW:Good (fun bl=>fA (Z.cut (inObs s)) s bl\/w.heap.size<=bl) w' bh ah.b ah.e) {κ:Option Nat} (ab:GR κ bh ah) (ajl:∀m,κ=some m->Z.bx (.loc m)=none/\Z.ow (.loc m)=none/\∀j b,¬Z.tr (.loc m) j b) {n':Nat} {o':List aL} (cU:∀k,fresh n' o' k->fresh st.n (st.o++c5 ah) k/\∀m,κ=some m->k≠ .loc m) (uk:je ah) (aN:qB ⟨w,Z.cut (inObs s),fA (Z.cut (inObs s)) s,0,c5 s⟩ w' bh)
  (MF:∀m,(look (.obj m) ah.b).isSome->(look (.obj m) s.b).isSome\/ .obj m∉st.o) (cA:∀m,(look (.obj m) ah.e).isSome->(look (.obj m) s.e).isSome\/ .obj m∉st.o) (d:Option Nat) (aG:jW C.N d=true) {r:aj} {v:Value} (aM:a8 w' bh r v):
  c2 C {after st s ah d r with n:=n',o:=o'} (a.put d v) w' (Z.join bh s ah):=by
 have lH:∀k,(look k s.b).isSome->(look k st.b).isSome:=fun k ae=>by obtain⟨cs,dj⟩:=fo.1 ae;simp[(ad k cs dj).1]
 have kR:∀k,(look k s.e).isSome->(look k st.e).isSome:=fun k ae=>by obtain⟨cs,dj⟩:=fo.1 ae;simp[(he k cs dj).1]
 have aiH:∀k,(look k ah.b).isSome->¬(look k s.b).isSome->Z.bx k=none:=fun k ae au=>by
  cases k with
  |loc m=>rw[uk.1 m]at ae;cases ae
  |obj m=>exact(h.new (.obj m) ⟨trivial,(MF m ae).resolve_left au⟩).1
 have aiI:∀k,(look k ah.e).isSome->¬(look k s.e).isSome->Z.ow k=none:=fun k ae au=>by
  cases k with
  |loc m=>rw[uk.2 m]at ae;cases ae
  |obj m=>exact(h.new (.obj m) ⟨trivial,(cA m ae).resolve_left au⟩).2.1
 have ajU:∀k,(look k s.b).isSome->(Z.join bh s ah).bx k=bh.bx k:=fun k ae=>by simp[bc.join,ae]
 have WJ:∀k,(look k ah.b).isSome->(Z.join bh s ah).bx k=bh.bx k:=fun k ae=>by simp[bc.join,ae]
 have WK:∀k,Z.bx k≠none->¬(look k s.b).isSome->(Z.join bh s ah).bx k=Z.bx k:=fun k J U=>by have h3:¬(look k ah.b).isSome:=fun h3=>J (aiH k h3 U);simp[bc.join,U,h3]
 have ajV:∀k,(look k s.e).isSome->(Z.join bh s ah).ow k=bh.ow k:=fun k ae=>by simp[bc.join,ae]
 have Nj:∀k,(look k ah.e).isSome->(Z.join bh s ah).ow k=bh.ow k:=fun k ae=>by simp[bc.join,ae]
 have Nk:∀k,Z.ow k≠none->¬(look k s.e).isSome->(Z.join bh s ah).ow k=Z.ow k:=fun k J U=>by have h3:¬(look k ah.e).isSome:=fun h3=>J (aiI k h3 U);simp[bc.join,U,h3]
 have abD:∀k b,bh.bx k=some b->(look k ah.b).isSome:=fun k b ae=>by
  cases av:look k ah.b with
  |some _=>rfl
  |none=>rw[(ab k).1 av]at ae;cases ae
 have abE:∀k b,bh.ow k=some b->(look k ah.e).isSome:=fun k b ae=>by
  cases av:look k ah.e with
  |some _=>rfl
  |none=>rw[(ab k).2.1 av]at ae;cases ae
 have ay:ma w Z w' (Z.join bh s ah):=by
  refine⟨fun b o be=>aN.keep b o be,fun k b _ ae=>?_,fun g n u _ aW=>?_,fun b o be=>aN.sh b o be,fun _ _ _ _ h=>.inl h⟩
  ·by_cases af:(look k s.b).isSome
   ·rw[ajU k af];cases k with
    |loc m=>rw[vL.1 m]at af;cases af
    |obj m=>exact aN.obj m b (by rw[bc.cut_bx (.inl af)];exact ae)
   ·rw[WK k (by rw[ae];simp) af];exact ae
  ·by_cases af:(look g s.e).isSome
   ·rw[ajV g af];cases g with
    |loc m=>rw[vL.2 m]at af;cases af
    |obj m=>exact aN.row m n u (by rw[bc.cut_ow (.inr af)];exact aW)
   ·rw[Nk g (by rw[aW];simp) af];exact⟨n,u,aW,.inl ⟨rfl,rfl⟩⟩
 have ik:ma w' bh w' (Z.join bh s ah):=⟨fun b o be=>⟨be,rfl⟩,fun k b _ ae=>by rw[WJ k (abD k b ae)];exact ae,fun g n u _ ae=>⟨n,u,by rw[Nj g (abE g _ ae)];exact ae,.inl ⟨rfl,rfl⟩⟩,fun _ _ _=>rfl,fun _ _ _ _ h=>.inr h⟩
 have qM:∀bl,fA (Z.cut (inObs s)) s bl->C.pr bl/\bl<w.heap.size:=by
  intro bl fB;rcases fB with⟨k,J,U⟩|⟨g,n,u,J,U,h3⟩
  ·have h4:=(bc.cut_some U).2;obtain⟨cs,dj⟩:=fo.1 (lH k J);obtain⟨iX,us,el,g1,g2,_⟩:=h.good.box k cs dj;rw[h4]at g1;cases g1;exact⟨g2,h.good.boxLt dj h4⟩
  ·have h4:=(bc.cut_someO U).2;obtain⟨o,Hy⟩:=fo.1 (kR g J);obtain⟨v',us,g1,g2,g3,_⟩:=h.good.own g o Hy;rw[h4]at g1;cases g1;exact⟨(g3 bl h3).1,h.good.ownLt Hy h4 h3⟩
 have Wa:∀bl,fA (Z.cut (inObs s)) s bl\/w.heap.size<=bl->C.pr bl:=fun bl fB=>by
  rcases fB with fB|fB
  ·exact(qM bl fB).1
  ·exact .inr (ha h.fr.size fB)
 have ai3:∀k cs bl,look k st.b=some cs->¬(look k s.b).isSome->Z.bx k=some bl->¬fA (Z.cut (inObs s)) s bl:=by
  intro k cs bl J U h3 h4;rcases h4 with⟨bI,bA,a2⟩|⟨g,n,u,bA,a2,a3⟩
  ·have:=h.good.inj k bI bl (by simp[J]) (lH bI bA) h3 (bc.cut_some a2).2;subst this;exact U bA
  ·exact h.good.obx g k n u bl (kR g bA) (by simp[J]) (bc.cut_someO a2).2 a3 h3
 have ai4:∀g o n u bl,look g st.e=some o->¬(look g s.e).isSome->Z.ow g=some (n,u)->u.ownBlock=some bl->¬fA (Z.cut (inObs s)) s bl:=by
  intro g o n u bl J U h3 h4 h5;rcases h5 with⟨bI,bA,a2⟩|⟨fb,n',fl,bA,a2,a3⟩
  ·exact h.good.obx g bI n u bl (by simp[J]) (lH bI bA) h3 h4 (bc.cut_some a2).2
  ·have:=h.good.oinj g fb n n' u fl bl (by simp[J]) (kR fb bA) h3 (bc.cut_someO a2).2 h4 a3;subst this;exact U bA
 have TB:∀k cs,look k (cb s.b st.b++ah.b)=some cs->(¬(look k s.b).isSome/\look k st.b=some cs)\/look k ah.b=some cs:=by
  intro k cs ae;rw[zn,wc]at ae;by_cases af:(look k s.b).isSome
  ·simp only[af,if_true]at ae;exact .inr ae
  ·simp only[af]at ae;cases av:look k st.b with
   |some x=>simp[av]at ae;subst ae;exact .inl ⟨af,rfl⟩
   |none=>simp[av]at ae;exact .inr ae
 have TC:∀k cs,look k (cb s.e st.e++ah.e)=some cs->(¬(look k s.e).isSome/\look k st.e=some cs)\/look k ah.e=some cs:=by
  intro k cs ae;rw[zn,wc]at ae;by_cases af:(look k s.e).isSome
  ·simp only[af,if_true]at ae;exact .inr ae
  ·simp only[af]at ae;cases av:look k st.e with
   |some x=>simp[av]at ae;subst ae;exact .inl ⟨af,rfl⟩
   |none=>simp[av]at ae;exact .inr ae
 have Ct:∀bl,fA (Z.cut (inObs s)) s bl\/w.heap.size<=bl->∀iX,iX<w.heap.size->¬fA (Z.cut (inObs s)) s iX->bl≠iX:=by
  intro bl J iX U h3 e;subst e;rcases J with J|J
  ·exact h3 J
  ·omega
 have Nr:∀bl,bl<w.heap.size->¬fA (Z.cut (inObs s)) s bl->w'.heap[bl]? =w.heap[bl]?:=fun bl J U=>aN.block bl J U;have isB:∀k bl,(look k (cb s.b st.b++ah.b)).isSome->(Z.join bh s ah).bx k=some bl->(¬(look k s.b).isSome/\(look k st.b).isSome/\Z.bx k=some bl)\/((look k ah.b).isSome/\bh.bx k=some bl):=by
  intro k bl ae la;obtain⟨cs,dj⟩:=fo.1 ae;rcases TB k cs dj with⟨J,U⟩|J
  ·obtain⟨iX,us,el,g1,_⟩:=h.good.box k cs U;rw[WK k (by rw[g1];simp) J]at la;exact .inl ⟨J,by simp[U],la⟩
  ·rw[WJ k (by simp[J])]at la;exact .inr ⟨by simp[J],la⟩
 have HV:∀k x,(look k (cb s.e st.e++ah.e)).isSome->(Z.join bh s ah).ow k=some x->(¬(look k s.e).isSome/\(look k st.e).isSome/\Z.ow k=some x)\/((look k ah.e).isSome/\bh.ow k=some x):=by
  intro k x ae la;obtain⟨cs,dj⟩:=fo.1 ae;rcases TC k cs dj with⟨J,U⟩|J
  ·obtain⟨v',us,g1,_⟩:=h.good.own k cs U;rw[Nk k (by rw[g1];simp) J]at la;exact .inl ⟨J,by simp[U],la⟩
  ·rw[Nj k (by simp[J])]at la;exact .inr ⟨by simp[J],la⟩
 have C4:∀k bl,¬(look k s.b).isSome->(look k st.b).isSome->Z.bx k=some bl->bl<w.heap.size/\¬fA (Z.cut (inObs s)) s bl:=by intro k bl J U h3;obtain⟨cs,dj⟩:=fo.1 U;exact⟨h.good.boxLt dj h3,ai3 k cs bl dj J h3⟩
 have zR:∀k n u bl,¬(look k s.e).isSome->(look k st.e).isSome->Z.ow k=some (n,u)->u.ownBlock=some bl->bl<w.heap.size/\¬fA (Z.cut (inObs s)) s bl:=by intro k n u bl J U h3 h4;obtain⟨cs,dj⟩:=fo.1 U;exact⟨h.good.ownLt dj h3 h4,ai4 k cs n u bl dj J h3 h4⟩
 have Gl:∀k bl,(look k ah.b).isSome->bh.bx k=some bl->fA (Z.cut (inObs s)) s bl\/w.heap.size<=bl:=by intro k bl J U;obtain⟨cs,dj⟩:=fo.1 J;obtain⟨iX,us,el,g1,g2,_⟩:=aW.box k cs dj;rw[U]at g1;cases g1;exact g2
 have Jw:∀k n u bl,(look k ah.e).isSome->bh.ow k=some (n,u)->u.ownBlock=some bl->fA (Z.cut (inObs s)) s bl\/w.heap.size<=bl:=by intro k n u bl J U h3;obtain⟨cs,dj⟩:=fo.1 J;obtain⟨v',us,g1,g2,g3,_⟩:=aW.own k cs dj;rw[U]at g1;cases g1;exact(g3 bl h3).1
 have be:∀bl o,bh.A bl o->bl<w.heap.size->¬fA (Z.cut (inObs s)) s bl->Z.A bl o:=by
  intro bl o J U h3;rcases aN.fresh bl o J with h4|h4|h4
  ·exact h4
  ·exact absurd h4 h3
  ·simp only at h4;omega
 have pF:c2 C {t:=st.t,b:=cb s.b st.b++ah.b,e:=cb s.e st.e++ah.e,n:=n',o:=o'} a w' (Z.join bh s ah):=by
  refine h.over ay rfl ⟨aW.alt,fun k cs ae=>?_,fun k bI bl J U h3 h4=>?_,fun g o eA=>?_,fun g fb n n' u fl bl J U h3 h4 h5 c9=>?_,fun g k n u bl J U h3 h4 h5=>?_,fun k=>?_,fun bl aI k j mr=>?_⟩
   ⟨aN.os.trans h.fr.os,aN.tape.trans h.fr.tape,aN.output.trans h.fr.output,ha h.fr.size aN.size,fun k ae hm=>?_,fun b o sB=>?_,fun b o sB=>?_,fun n b au=>ay.bx _ _ trivial (h.fr.obj n b au),h.fr.obn,
    fun m n u hm=>Fj (h.fr.row m n u hm) (fun n u=>ay.ow _ n u trivial),h.fr.obr,fun k j bI dJ b J U=>?_,fun k j b ad=>?_,fun k j b ad=>?_,fun b o be=>(ay.sh b o (h.fr.keep b o be).1).trans (h.fr.sh b o be)⟩ (fun k ae=>?_)
  ·rcases TB k cs ae with⟨J,U⟩|J
   ·obtain⟨bl,us,el,g1,g2,g3,g4,g5⟩:=h.good.box k cs U;obtain⟨b1,b2⟩:=C4 k bl J (by simp[U]) g1;exact⟨bl,us,el,ay.bx _ _ trivial g1,g2,fun o sB=>g3 o (be bl o sB b1 b2),by rw[Nr bl b1 b2];exact g4,q8 ay g5⟩
   ·obtain⟨bl,us,el,g1,g2,g3,g4,g5⟩:=aW.box k cs J;exact⟨bl,us,el,ik.bx _ _ trivial g1,Wa bl g2,g3,g4,q8 ik g5⟩
  ·rcases isB k bl J h3 with⟨bA,a2,a3⟩|⟨bA,a2⟩<;>rcases isB bI bl U h4 with⟨b1,b2,gp⟩|⟨b1,b2⟩
   ·exact h.good.inj k bI bl a2 b2 a3 gp
   ·obtain⟨bY,cw⟩:=C4 k bl bA a2 a3;exact absurd rfl (Ct bl (Gl bI bl b1 b2) bl bY cw)
   ·obtain⟨bY,cw⟩:=C4 bI bl b1 b2 gp;exact absurd rfl (Ct bl (Gl k bl bA a2) bl bY cw)
   ·exact aW.inj k bI bl bA b1 a2 b2
  ·rcases TC g o eA with⟨J,U⟩|J
   ·obtain⟨u,us,g1,g2,g3,g4⟩:=h.good.own g o U;refine⟨u,us,by rw[Nk g (by rw[g1];simp) J];exact g1,⟨g2.1,?_⟩,fun bl fB=>?_,tp ay (fun bl fB j sB=>?_) g4⟩
    ·rcases g2.2 with aF|⟨bb,cap,cur,f1,f2,f3,f4⟩
     ·exact .inl aF
     ·obtain⟨b1,b2⟩:=zR g _ u bb J (by simp[U]) g1 (by rw[f1];rfl);exact .inr ⟨bb,cap,cur,f1,f2,by rw[Nr bb b1 b2];exact f3,f4⟩
    ·obtain⟨b1,b2⟩:=zR g _ u bl J (by simp[U]) g1 fB;exact⟨(g3 bl fB).1,fun j sB=>(g3 bl fB).2 j (be bl j sB b1 b2)⟩
    ·obtain⟨b1,b2⟩:=zR g _ u bl J (by simp[U]) g1 fB;exact be bl j sB b1 b2
   ·obtain⟨u,us,g1,g2,g3,g4⟩:=aW.own g o J;exact⟨u,us,by rw[Nj g (by simp[J])];exact g1,g2,fun bl fB=>⟨Wa bl (g3 bl fB).1,(g3 bl fB).2⟩,tp ik (fun _ _ _ h=>h) g4⟩
  ·rcases HV g _ J h3 with⟨bA,a2,a3⟩|⟨bA,a2⟩<;>rcases HV fb _ U h4 with⟨b1,b2,gp⟩|⟨b1,b2⟩
   ·exact h.good.oinj g fb n n' u fl bl a2 b2 a3 gp h5 c9
   ·obtain⟨bY,cw⟩:=zR g n u bl bA a2 a3 h5;exact absurd rfl (Ct bl (Jw fb n' fl bl b1 b2 c9) bl bY cw)
   ·obtain⟨bY,cw⟩:=zR fb n' fl bl b1 b2 gp c9;exact absurd rfl (Ct bl (Jw g n u bl bA a2 h5) bl bY cw)
   ·exact aW.oinj g fb n n' u fl bl bA b1 a2 b2 h5 c9
  ·rcases HV g _ J h3 with⟨bA,a2,a3⟩|⟨bA,a2⟩<;>rcases isB k bl U h5 with⟨b1,b2,gp⟩|⟨b1,b2⟩
   ·exact h.good.obx g k n u bl a2 b2 a3 h4 gp
   ·obtain⟨bY,cw⟩:=zR g n u bl bA a2 a3 h4;exact absurd rfl (Ct bl (Gl k bl b1 b2) bl bY cw)
   ·obtain⟨bY,cw⟩:=C4 k bl b1 b2 gp;exact absurd rfl (Ct bl (Jw g n u bl bA a2 h4) bl bY cw)
   ·exact aW.obx g k n u bl bA b1 a2 h4 b2
  ·
   cases la:(Z.join bh s ah).bx k with
   |none=>exact .inl rfl
   |some bl=>
    right;cases DZ:(Z.join bh s ah).ow k with
    |none=>rfl
    |some x=>
     exfalso;have aq:(Z.bx k=some bl/\¬(look k s.b).isSome/\¬(look k ah.b).isSome)\/bh.bx k=some bl:=by
      by_cases af:(look k s.b).isSome\/(look k ah.b).isSome
      ·right;simpa[bc.join,af]using la
      ·left;simp only[not_or]at af;exact⟨by simpa[bc.join,af.1,af.2]using la,af.1,af.2⟩
     have aF:(Z.ow k=some x/\¬(look k s.e).isSome/\¬(look k ah.e).isSome)\/bh.ow k=some x:=by
      by_cases af:(look k s.e).isSome\/(look k ah.e).isSome
      ·right;simpa[bc.join,af]using DZ
      ·left;simp only[not_or]at af;exact⟨by simpa[bc.join,af.1,af.2]using DZ,af.1,af.2⟩
     rcases aq with⟨bA,a2,a3⟩|bA<;>rcases aF with⟨b1,b2,gp⟩|b1
     ·rcases h.good.one k with cE|cE
      ·rw[cE]at bA;cases bA
      ·rw[cE]at b1;cases b1
     ·have vH:=abE k x b1;have fv:(look k s.e).isSome:=by
       cases k with
       |loc m=>rw[uk.2 m]at vH;cases vH
       |obj m=>
        rcases cA m vH with cE|cE
        ·exact cE
        ·rw[(h.new (.obj m) ⟨trivial,cE⟩).1]at bA;cases bA
      obtain⟨o,Hy⟩:=fo.1 (kR k fv);obtain⟨v',us,g1,_⟩:=h.good.own k o Hy;rcases h.good.one k with cE|cE
      ·rw[cE]at bA;cases bA
      ·rw[cE]at g1;cases g1
     ·have uh:=abD k bl bA;have fv:(look k s.b).isSome:=by
       cases k with
       |loc m=>rw[uk.1 m]at uh;cases uh
       |obj m=>
        rcases MF m uh with cE|cE
        ·exact cE
        ·rw[(h.new (.obj m) ⟨trivial,cE⟩).2.1]at b1;cases b1
      obtain⟨cs,dj⟩:=fo.1 (lH k fv);obtain⟨iX,us,el,g1,_⟩:=h.good.box k cs dj;rcases h.good.one k with cE|cE
      ·rw[cE]at g1;cases g1
      ·rw[cE]at b1;cases b1
     ·rcases aW.one k with cE|cE
      ·rw[cE]at bA;cases bA
      ·rw[cE]at b1;cases b1
  ·have VY:∀k j,bh.tr k j bl->w.heap.size<=bl:=fun k j cE=>by
    rcases(aN.trb k j bl cE).1 with a2|a2
    ·obtain⟨m,_,hm⟩:=(ab k).2.2 j bl cE;rw[hm]at a2;cases a2
    ·exact a2
   have hold:fA (Z.cut (inObs s)) s bl->¬Z.tr k j bl:=by
    rintro(⟨bI,bA,a2⟩|⟨g,n,u,bA,a2,a3⟩) cE
    ·exact h.good.otr bl (.inl ⟨bI,lH bI bA,(bc.cut_some a2).2⟩) k j cE
    ·exact h.good.otr bl (.inr ⟨g,n,u,kR g bA,(bc.cut_someO a2).2,a3⟩) k j cE
   have ku:fA (Z.cut (inObs s)) s bl\/w.heap.size<=bl->¬Z.tr k j bl:=by
    rintro(J|J) cE
    ·exact hold J cE
    ·have:=(h.fr.trb k j bl cE).2;omega
   rcases aI with⟨bI,bA,a2⟩|⟨g,n,u,bA,a2,a3⟩
   ·rcases isB bI bl bA a2 with⟨b1,b2,gp⟩|⟨b1,b2⟩
    ·rcases mr with mr|mr
     ·exact h.good.otr bl (.inl ⟨bI,b2,gp⟩) k j mr
     ·have:=(C4 bI bl b1 b2 gp).1;have:=VY k j mr;omega
    ·rcases mr with mr|mr
     ·exact ku (Gl bI bl b1 b2) mr
     ·exact aW.otr bl (.inl ⟨bI,b1,b2⟩) k j mr
   ·rcases HV g _ bA a2 with⟨b1,b2,gp⟩|⟨b1,b2⟩
    ·rcases mr with mr|mr
     ·exact h.good.otr bl (.inr ⟨g,n,u,b2,gp,a3⟩) k j mr
     ·have:=(zR g n u bl b1 b2 gp a3).1;have:=VY k j mr;omega
    ·rcases mr with mr|mr
     ·exact ku (Jw g n u bl b1 b2 a3) mr
     ·exact aW.otr bl (.inr ⟨g,n,u,b1,b2,a3⟩) k j mr
  ·have bs:k<w.heap.size:=Nat.lt_of_lt_of_le ae h.fr.size;rw[Nr k bs fun fB=>by
    rcases(qM k fB).1 with J|J
    ·exact hm J
    ·omega]
   exact h.fr.block k ae hm
  ·obtain⟨aS,bf⟩:=h.fr.keep b o sB;obtain⟨b4,ep⟩:=aN.keep b o aS;exact⟨b4,ep.trans bf⟩
  ·rcases aN.fresh b o sB with h4|h4|h4
   ·exact h.fr.fresh b o h4
   ·exact .inr (qM b h4).1
   ·exact .inr (.inr (ha h.fr.size h4))
  ·rcases J with J|J<;>rcases U with U|U
   ·exact h.fr.trd k j bI dJ b J U
   ·have bA:=(h.fr.trb k j b J).2;have a2:=(aN.trb bI dJ b U).1;rcases a2 with a2|a2
    ·obtain⟨m,_,hm⟩:=(ab bI).2.2 dJ b U;rw[hm]at a2;cases a2
    ·simp only at a2;omega
   ·have bA:=(h.fr.trb bI dJ b U).2;have a2:=(aN.trb k j b J).1;rcases a2 with a2|a2
    ·obtain⟨m,_,hm⟩:=(ab k).2.2 j b J;rw[hm]at a2;cases a2
    ·simp only at a2;omega
   ·exact aN.trd k j bI dJ b J U
  ·rcases ad with ad|ad
   ·exact⟨(h.fr.trb k j b ad).1,Nat.lt_of_lt_of_le (h.fr.trb k j b ad).2 aN.size⟩
   ·refine⟨.inr ?_,(aN.trb k j b ad).2⟩;rcases(aN.trb k j b ad).1 with a2|a2
    ·obtain⟨m,_,hm⟩:=(ab k).2.2 j b ad;rw[hm]at a2;cases a2
    ·exact ha h.fr.size a2
  ·have key:Z.bx k=none/\Z.ow k=none/\¬(look k ah.b).isSome/\¬(look k ah.e).isSome:=by
    rcases ad with ad|ad
    ·obtain⟨t1,t2⟩:=h.fr.trn k j b ad;refine⟨t1,t2,fun cE=>?_,fun cE=>?_⟩
     ·cases k with
      |loc m=>rw[uk.1 m]at cE;cases cE
      |obj m=>
       rcases MF m cE with h5|h5
       ·obtain⟨cs,dj⟩:=fo.1 (lH _ h5);obtain⟨iX,us,el,g1,_⟩:=h.good.box _ cs dj;rw[t1]at g1;cases g1
       ·exact(h.new (.obj m) ⟨trivial,h5⟩).2.2 j b ad
     ·cases k with
      |loc m=>rw[uk.2 m]at cE;cases cE
      |obj m=>
       rcases cA m cE with h5|h5
       ·obtain⟨cs,dj⟩:=fo.1 (kR _ h5);obtain⟨iX,us,g1,_⟩:=h.good.own _ cs dj;rw[t2]at g1;cases g1
       ·exact(h.new (.obj m) ⟨trivial,h5⟩).2.2 j b ad
    ·obtain⟨m,hm,rfl⟩:=(ab k).2.2 j b ad;obtain⟨t1,t2,_⟩:=ajl m hm;exact⟨t1,t2,by simp[uk.1 m],by simp[uk.2 m]⟩
   obtain⟨t1,t2,t3,t4⟩:=key;have t5:¬(look k s.b).isSome:=fun cE=>by obtain⟨cs,dj⟩:=fo.1 (lH _ cE);obtain⟨iX,us,el,g1,_⟩:=h.good.box _ cs dj;rw[t1]at g1;cases g1
   have t6:¬(look k s.e).isSome:=fun cE=>by obtain⟨cs,dj⟩:=fo.1 (kR _ cE);obtain⟨iX,us,g1,_⟩:=h.good.own _ cs dj;rw[t2]at g1;cases g1
   exact⟨by simp[bc.join,t3,t5,t1],by simp[bc.join,t4,t6,t2]⟩
  ·
   simp only at ae;obtain⟨ae,ain⟩:=cU k ae;have V3:(∀j b,¬Z.tr k j b)->∀j b,¬(Z.join bh s ah).tr k j b:=fun J j b ad=>by
    rcases ad with ad|ad
    ·exact J j b ad
    ·obtain⟨m,hm,e⟩:=(ab k).2.2 j b ad;exact ain m hm e
   cases k with
   |loc m=>obtain⟨iP,gB,jM⟩:=h.new (.loc m) (LW (dZ _) (fun _ h=>List.mem_append_left _ h) ae);exact⟨by simp[bc.join,vL.1 m,uk.1 m,iP],by simp[bc.join,vL.2 m,uk.2 m,gB],V3 jM⟩
   |obj m=>
    simp only[fresh,hQ,not_or,true_and]at ae;obtain⟨iP,gB,jM⟩:=h.new (.obj m) ⟨trivial,ae.1⟩;have a1:¬(look (.obj m) ah.b).isSome:=fun cE=>ae.2 (uQ (.inl cE));have bm:¬(look (.obj m) ah.e).isSome:=fun cE=>ae.2 (uQ (.inr cE));have bW:¬(look (.obj m) s.b).isSome:=fun cE=>by obtain⟨cs,dj⟩:=fo.1 (lH _ cE);obtain⟨iX,us,el,g1,_⟩:=h.good.box _ cs dj;rw[iP]at g1;cases g1
    have cZ:¬(look (.obj m) s.e).isSome:=fun cE=>by obtain⟨cs,dj⟩:=fo.1 (kR _ cE);obtain⟨v',us,g1,_⟩:=h.good.own _ cs dj;rw[gB]at g1;cases g1
    exact⟨by simp[bc.join,a1,bW,iP],by simp[bc.join,bm,cZ,gB],V3 jM⟩
 exact pF.put aG (zP ik aM)
inductive eo where
 |s (i:ez)
 |call (d:Option Nat) (f:dv) (xs:List dv)
 |next (d:Nat) (x:dv)
structure dc where
 g:Option (Nat×Bool)
 i:eo
def ez.dst:ez->Option Nat
 | .v d _| .box d _ _| .alloc d _ _| .bsl d _ _ _| .app d _ _ _ _| .bslm d _ _ _ _| .appm d _ _ _ _ _| .mkmap d _| .range d _ _| .mks d _ _ _ _ _=>some d
 | .store _ _ _| .mput _ _ _ _| .storeE _ _ _=>none
def eo.dst:eo->Option Nat
 | .s i=>i.dst
 | .call d _ _=>d
 | .next d _=>some d
def cQ(P:cK)(n:Nat)(args:List aj)(st:bn)(d:Option Nat)(K:bn->Prop):Prop:=
 (∃s Q,gL (inObs s) s.b st.b/\oC (inObs s) s.e st.e/\je s/\aO (inObs s) args/\bG P n args s Q/\
  ∀r ah,Q r ah->((∀m,(look (.obj m) ah.b).isSome->(look (.obj m) s.b).isSome\/ .obj m∉st.o)/\(∀m,(look (.obj m) ah.e).isSome->(look (.obj m) s.e).isSome\/ .obj m∉st.o))/\K (after st s ah d r))\/
 (∃s Q,gL (inObs s) s.b st.b/\oC (inObs s) s.e st.e/\je s/\aO (inObs s) args/\ .loc st.n∉st.o/\Kc P n st.n args s Q/\
  ∀r ah,Q r ah->((∀m,(look (.obj m) ah.b).isSome->(look (.obj m) s.b).isSome\/ .obj m∉st.o)/\(∀m,(look (.obj m) ah.e).isSome->(look (.obj m) s.e).isSome\/ .obj m∉st.o))/\K {after st s ah d r with n:=st.n+1})
def N9(st:bn)(d:Nat)(fF mk:aL)(since:Nat)(seen:List Nat)(last clock:Nat)(borns:List Nat)(kvs:List aj)(K:bn->Prop):Prop:=
 (since=clock/\last=clock)/\((∀b∈borns,b∈seen)->K {st with t:=put d (.tuple [.bool false]) st.t})/\
 (∀b k v,nN b borns kvs=some (.tuple [k,v])->b∉seen->K {st with t:=put d (.tuple [.bool true,k,v]) st.t,b:=cB fF [.hdi since (seen++[b]) last,.gmap mk] st.b})
def tX(st:bn)(d:Nat)(v:aj)(K:bn->Prop):Prop:=
 match v with
 | .ptr fF 0=>match look fF st.b with
  |some [.hdi since seen last,.gmap mk]=>match look mk st.b with
   |some (.hdm clock borns::kvs)=>N9 st d fF mk since seen last clock borns kvs K
   |_=>ey
  |_=>ey
 |_=>ey
def vp(P:cK)(st:bn)(K:bn->Prop):eo->Prop
 | .next d x=>tX st d (cu st.t x) K
 | .s i=>match nb st i with
  |some (c,st')=>c/\K st'
  |none=>ey
 | .call d f xs=>match cu st.t f with
  | .func n dr=>cQ P n (dq (xs.map (cu st.t)++dr)) st d K
  |_=>ey
def iv(P:cK):List dc->bn->(bn->Prop)->Prop
 |[],st,K=>K st
 |⟨none,i⟩::r,st,K=>vp P st (fun st'=>iv P r st' K) i
 |⟨some (s,want),i⟩::r,st,K=>match get s st.t with
  | .bool b=>(b=want->vp P {st with t:=put s (.bool want) st.t} (fun st'=>iv P r st' K) i)/\(b= !want->iv P r {st with t:=eS i.dst (.tuple []) (put s (.bool !want) st.t)} K)
  | .tuple []=>iv P r {st with t:=eS i.dst (.tuple []) st.t} K
  |_=>ey
def wo(N:Nat)(bC:List (Nat×dy))(i:eo)(o:Oper):Bool:=
 match i with
 | .s i=>Fl N bC i o
 | .next d x=>match o.op with
  | .next it false=>o.dst==some d&&decide (d<N)&&er x it
  |_=>false
 | .call d f xs=>match o.op with
  | .call ⟨.value sr,args,_⟩=>o.dst==d&&jW N d&&er f sr&&zC xs args.toList
  |_=>false
def Dt(N:Nat)(bC:List (Nat×dy))(ops:List Oper)(g:dc)(o:Oper):Bool:=
 (match g.g,o.guard with
  |none,none=>true
  |some (s,b),some (j,b3)=>b==b3&&((ops[j]?).bind (·.dst))==some s&&decide (s<N)&&o.dst==g.i.dst&&jW N g.i.dst
  |_,_=>false)&&wo N bC g.i o
def k7(N:Nat)(bC:List (Nat×dy))(ops:List Oper):List dc->List Oper->Bool
 |[],[]=>true
 |g::gs,o::os=>Dt N bC ops g o&&k7 N bC ops gs os
 |_,_=>false
theorem ZW{w:World}{Z:bc}:∀{cy bD:List aj} {a7 us:List Value},cX w Z cy a7->cX w Z bD us->cX w Z (cy++bD) (a7++us)
 |[],bD,a7,us,h,b9=>by simp only[cX]at h;subst h;simpa using b9
 |p::cy,bD,a7,us,h,b9=>by simp only[cX]at h;obtain⟨u,cj,rfl,J,U⟩:=h;simp only[bP,cX];exact⟨u,_,rfl,J,ZW U b9⟩
theorem yl.mono{P:cK}{f:FuncId}{a7:Array Value}{w:World}{R QQ:Ending->World->Prop}(h:yl P f a7 w R)(bH:∀e w',R e w'->QQ e w'):yl P f a7 w QQ:=by
 rcases h with⟨J,U⟩|⟨v,w',J,U⟩
 ·exact .inl ⟨J,U.mono bH⟩
 ·exact .inr ⟨v,w',J,bH _ _ U⟩
theorem Tz{P:cK}{C:fp}{st:bn}{a:Act}{w:World}{Z:bc}(aM:c2 C st a w Z){o:Oper}{sr:Operand}{args:Array Operand}{Cy:Array hh}(og:o.op= .call ⟨.value sr,args,Cy⟩){d:Option Nat}(aG:o.dst=d)(yV:jW C.N d=true)
  {n:Nat} {dr:List aj} (aN:a8 w Z (.func n dr) (a.eval sr)) {cy:List aj} (vz:cX w Z cy (args.toList.map a.eval)) {K:bn->Prop}
  (ao:∃(s:cT) (rk:aj->cT->Prop) (κ:Option Nat) (n':Nat) (o':cT->List aL),gL (inObs s) s.b st.b/\oC (inObs s) s.e st.e/\je s/\aO (inObs s) (dq (cy++dr))/\(∀(w:World) (Z:bc) (a7:Array Value),Good (fA Z s) w Z s.b s.e->pw Z s->cX w Z (dq (cy++dr)) a7.toList->
   yl P n a7 w fun e w'=> ∃v r ah bh,e= .returned v/\rk r ah/\a8 w' bh r v/\Good (fun bl=>fA Z s bl\/w.heap.size<=bl) w' bh ah.b ah.e/\GR κ bh ah/\je ah/\qB ⟨w,Z,fA Z s,0,c5 s⟩ w' bh)/\
   (∀m,κ=some m->fresh st.n st.o (.loc m))/\(∀k r ah,rk r ah->fresh n' (o' ah) k->fresh st.n (st.o++c5 ah) k/\∀m,κ=some m->k≠ .loc m)/\
   ∀r ah,rk r ah->((∀m,(look (.obj m) ah.b).isSome->(look (.obj m) s.b).isSome\/ .obj m∉st.o)/\(∀m,(look (.obj m) ah.e).isSome->(look (.obj m) s.e).isSome\/ .obj m∉st.o))/\K {after st s ah d r with n:=n',o:=o' ah})
  {se:Act->World->Prop} {Q:Exit->Act->World->Prop} (c7:∀st' bk w' bh,K st'->c2 C st' bk w' bh->se bk w'):o.wp P a w se Q:=by
 obtain⟨s,rk,κ,n',o',bY,cw,dC,kO,lB,TL,TF,oR⟩:=ao;simp only[a8]at aN;obtain⟨us,az,hu⟩:=aN;have mq:cX w (Z.cut (inObs s)) (dq (cy++dr)) ((args.map a.eval)++us).toList:=by refine zO (pf.cut _ w Z) _ _ kO (Jo _ _ ?_);simpa using ZW vz hu
 have sK:Good (fA (Z.cut (inObs s)) s) w (Z.cut (inObs s)) s.b s.e:=aM.good.cut bY cw (fun bl _ h=>h);have hex:pw (Z.cut (inObs s)) s:=by
  intro k;refine⟨?_,?_,?_⟩;rotate_left 2
  ·rintro j b ⟨af,ad⟩;obtain⟨t1,t2⟩:=aM.fr.trn k j b ad;rcases af with af|af<;>obtain⟨x,ab⟩:=fo.1 af
   ·obtain⟨bl,cj,el,aq,_⟩:=aM.good.box k x (bY k x ab).1;rw[t1]at aq;cases aq
   ·obtain⟨v',cj,aq,_⟩:=aM.good.own k x (cw k x ab).1;rw[t2]at aq;cases aq
  ·intro av;by_cases af:inObs s k
   ·rw[bc.cut_bx af];rcases af with af|af
    ·rw[av]at af;cases af
    ·obtain⟨x,ab⟩:=fo.1 af;obtain⟨v',cj,aq,_⟩:=aM.good.own k x (cw k x ab).1;rcases aM.good.one k with J|J
     ·exact J
     ·rw[J]at aq;cases aq
   ·exact(bc.cut_no af).1
  ·intro av;by_cases af:inObs s k
   ·rw[bc.cut_ow af];rcases af with af|af
    ·obtain⟨x,ab⟩:=fo.1 af;obtain⟨bl,cj,el,aq,_⟩:=aM.good.box k x (bY k x ab).1;rcases aM.good.one k with J|J
     ·rw[J]at aq;cases aq
     ·exact J
    ·rw[av]at af;cases af
   ·exact(bc.cut_no af).2.1
 rcases lB w (Z.cut (inObs s)) ((args.map a.eval)++us) sK hex mq with⟨⟨fn,g1,g2,g3⟩,lB⟩|⟨v,w',lB,bF⟩
 ·obtain⟨code,ahO⟩:=fo.1 g2;have iI:(execOp a.eval o).run P w= .ok (.enter n ((args.map a.eval)++us)) w:=by obtain⟨dst,op,ty,pos,QX,w4⟩:=o;simp only at og;subst og;simp only[execOp,resolve,az,Deferred.ofValue,fU,gC,fZ,invoke,callFunc,run_program,g1,g3,ahO];simp
  unfold Oper.wp;rw[iI];simp only[Oper.upon];refine lB.mono fun e w' bF=>?_;obtain⟨v,r,ah,bh,rfl,bE,a1,bm,bW,cZ,c6⟩:=bF;obtain⟨⟨iP,gB⟩,ae⟩:=oR r ah bE;rw[aG];exact c7 _ _ _ _ ae (aM.callK bY cw dC bm bW (fun m hm=>aM.new _ (TL m hm)) (n':=n') (o':=o' ah) (fun k ae=>TF k r ah bE ae) cZ c6 iP gB d yV a1)
 ·have iI:(execOp a.eval o).run P w= .ok (.value v) w':=by obtain⟨dst,op,ty,pos,QX,w4⟩:=o;simp only at og;subst og;simp only[execOp,resolve,az,Deferred.ofValue,fU,gC,fZ,invoke];simpa using lB
  obtain⟨v2,r,ah,bh,D8,bE,a1,bm,bW,cZ,c6⟩:=bF;cases D8;obtain⟨⟨iP,gB⟩,ae⟩:=oR r ah bE;refine nj iI ?_;rw[aG];exact c7 _ _ _ _ ae (aM.callK bY cw dC bm bW (fun m hm=>aM.new _ (TL m hm)) (n':=n') (o':=o' ah) (fun k ae=>TF k r ah bE ae) cZ c6 iP gB d yV a1)
theorem Ty{P:cK}{C:fp}{st:bn}{a:Act}{w:World}{Z:bc}(aM:c2 C st a w Z){o:Oper}{sr:Operand}{args:Array Operand}{Cy:Array hh}(og:o.op= .call ⟨.value sr,args,Cy⟩){d:Option Nat}(aG:o.dst=d)(yV:jW C.N d=true)
  {n:Nat} {dr:List aj} (aN:a8 w Z (.func n dr) (a.eval sr)) {cy:List aj} (vz:cX w Z cy (args.toList.map a.eval)) {K:bn->Prop} (ao:cQ P n (dq (cy++dr)) st d K)
  {se:Act->World->Prop} {Q:Exit->Act->World->Prop} (c7:∀st' bk w' bh,K st'->c2 C st' bk w' bh->se bk w'):o.wp P a w se Q:=by
 refine Tz aM og aG yV aN vz (K:=K) ?_ c7;rcases ao with⟨s,rk,bY,cw,dC,kO,lB,oR⟩|⟨s,rk,bY,cw,dC,kO,k4,lB,oR⟩
 ·refine⟨s,rk,none,st.n,fun ah=>st.o++c5 ah,bY,cw,dC,kO,fun w Z a7 J U h3=>(lB w Z a7 J U h3).mono fun e w' bF=>?_,fun m hm=>(by cases hm),fun k _ ah _ ae=>⟨ae,fun m hm=>by cases hm⟩,oR⟩;obtain⟨v,r,ah,bh,g1,g2,g3,g4,g5,g6⟩:=bF;exact⟨v,r,ah,bh,g1,g2,g3,g4,g5.k,g6⟩
 ·refine⟨s,rk,some st.n,st.n+1,fun ah=>st.o++c5 ah,bY,cw,dC,kO,lB,fun m hm=>(by cases hm;exact⟨dZ _,k4⟩),fun k _ ah _ ae=>⟨LW (Nat.le_succ _) (fun _ h=>h) ae,fun m hm=>?_⟩,oR⟩;cases hm;rintro rfl;have:=ae.1;simp only at this;omega
theorem c2.drawn{C:fp}{st:bn}{a:Act}{w:World}{Z:bc}(aM:c2 C st a w Z)(n:Nat):c2 C st a {w with drawn:=n} Z:=by
 have lG:ma w Z {w with drawn:=n} Z:=⟨fun _ _ h=>⟨h,rfl⟩,fun _ _ _ h=>h,fun _ n u _ h=>⟨n,u,h,.inl ⟨rfl,rfl⟩⟩,fun _ _ _=>rfl,fun _ _ _ _ h=>h⟩;refine aM.over lG rfl ⟨aM.good.alt,fun k cs ae=>?_,aM.good.inj,fun g o aW=>?_,aM.good.oinj,aM.good.obx,aM.good.one,aM.good.otr⟩ ⟨aM.fr.os,aM.fr.tape,aM.fr.output,aM.fr.size,aM.fr.block,aM.fr.keep,aM.fr.fresh,aM.fr.obj,aM.fr.obn,aM.fr.row,aM.fr.obr,aM.fr.trd,aM.fr.trb,aM.fr.trn,aM.fr.sh⟩ aM.new
 ·obtain⟨bl,us,el,J,U,h3,h4,h5⟩:=aM.good.box k cs ae;exact⟨bl,us,el,J,U,h3,h4,q8 lG h5⟩
 ·obtain⟨v,us,J,U,h3,h4⟩:=aM.good.own g o aW;exact⟨v,us,J,U,h3,tp lG (fun _ _ _ h=>h) h4⟩
theorem agi{α:Type}{l:List α}{p:α->Bool}(h:∀x∈l,p x=false):l.filter p=[]:=by rw[List.filter_eq_nil_iff];intro x ab;simp[h x ab]
theorem agh{α:Type}{l:List α}{p:α->Bool}(h:∀x∈l,p x=true):l.filter p=l:=List.filter_eq_self.2 h
def Iu(r m since clock:Nat)(seen:Array Nat)(TA:Array (Option MapEntry)):Sem Value:=do
 match TA[<-choose (.mapNext TA.size)]? with
 |some (some e)=>
  setObj r (.mapIter (some m) since (seen.push e.born) clock)
  pure (.tuple #[.bool true,e.key,e.val])
 |some none=>pure (.tuple #[.bool false])
 |none=>stuck "Next: no such candidate"
theorem Z7{P:cK}{w:World}(r m since clock:Nat)(seen:Array Nat)(l:List (Option MapEntry))(av:l≠[]):∃n x,x∈l/\(Iu r m since clock seen l.toArray).run P w=
  (match x with|some e=>(do setObj r (.mapIter (some m) since (seen.push e.born) clock);pure (.tuple #[.bool true,e.key,e.val]):Sem Value)|none=>pure (.tuple #[.bool false])).run P {w with drawn:=n}:=by
 have fR:0<l.length:=List.length_pos_iff.2 av;unfold Iu;have key:∀i,i<l.length->∀w',((do match(l.toArray[i]?:Option (Option MapEntry))with
   |some (some e)=>setObj r (.mapIter (some m) since (seen.push e.born) clock);pure (.tuple #[.bool true,e.key,e.val])
   |some none=>pure (.tuple #[.bool false])
   |none=>stuck "Next: no such candidate" :Sem Value)).run P w'=((match l[i]! with|some e=>(do setObj r (.mapIter (some m) since (seen.push e.born) clock);pure (.tuple #[.bool true,e.key,e.val]):Sem Value)|none=>pure (.tuple #[.bool false]))).run P w':=by
  intro i hi w';have J:l.toArray[i]? =some l[i]!:=by simp[hi]
  rw[J];cases l[i]!<;>rfl
 by_cases aN:(Question.mapNext l.length).forced=true
 ·refine⟨w.drawn,l[0]!,by simp[fR],?_⟩;rw[<-key 0 fR];have ao:(choose (.mapNext l.length):Sem Nat).run P w= .ok 0 w:=by simp[aN]
  simp only[List.size_toArray,fU,ao,fZ]
 ·refine⟨w.drawn+1,l[(w.tape w.drawn (.mapNext l.length))%l.length]!,by simp[Nat.mod_lt _ fR],?_⟩;rw[<-key _ (Nat.mod_lt _ fR)];have ao:(choose (.mapNext l.length):Sem Nat).run P w= .ok ((w.tape w.drawn (.mapNext l.length))%l.length) {w with drawn:=w.drawn+1}:=by simp[aN,Question.cut]
  simp only[List.size_toArray,fU,ao,fZ]
theorem aoB{P:cK}{w:World}{bl mb:Nat}{seen:List Nat}{es:List MapEntry}{clock:Nat}{ty:hh}(J:w.heap[bl]? =some (.mapIter (some mb) clock seen.toArray clock))(U:w.heap[mb]? =some (.map es.toArray clock))(bs:∀e∈es,e.born<clock):
  ∃n,((∀e∈es,e.born∈seen)/\(Instr.next (.pointer (some ⟨bl,0,none⟩)) false ty).run P w= .ok (.tuple #[.bool false]) {w with drawn:=n})\/
   ∃e∈es,e.born∉seen/\(Instr.next (.pointer (some ⟨bl,0,none⟩)) false ty).run P w= .ok (.tuple #[.bool true,e.key,e.val]) {w with drawn:=n,heap:=w.heap.setIfInBounds bl (.mapIter (some mb) clock (seen++[e.born]).toArray clock)}:=by
 have fW:(!seen.toArray.isEmpty&& !es.toArray.isEmpty&&es.toArray.all (fun e=>decide (e.born≥clock)))=false:=by
  cases es with
  |nil=>simp
  |cons e r=>have:=bs e Ψ;simp;intro _ h;omega
 generalize ft:(es.filter fun e=> !seen.contains e.born)=left;have aiu:(es.toArray.filter fun e=> !seen.toArray.contains e.born)=left.toArray:=by rw[<-ft];simp
 have hL:∀e∈left,e∈es/\e.born∉seen:=fun e he=>by rw[<-ft]at he;have:=ia.1 he;exact⟨this.1,by simpa using this.2⟩
 have hold:(left.toArray.filter fun e=>decide (e.born<clock))=left.toArray:=by rw[List.filter_toArray,agh];intro e he;have:=bs e (hL e he).1;simp[this]
 have ku:(left.toArray.filter fun e=>decide (e.born≥clock))= #[]:=by rw[List.filter_toArray,agi];intro e he;have:=bs e (hL e he).1;simp;omega
 have iI:(Instr.next (.pointer (some ⟨bl,0,none⟩)) false ty).run P w=(Iu bl mb clock clock seen.toArray ((if left.toArray.isEmpty then #[none]else #[])++(left.toArray++ #[]).map some)).run P w:=by unfold Instr.next Iu;simp only[fU,wA J,wA U,fZ,fW,aiu,hold,ku,hg,if_false];rfl
 rw[iI];by_cases Bd:left=[]
 ·subst Bd;obtain⟨n,x,g1,g2⟩:=Z7 (P:=P) (w:=w) bl mb clock clock seen.toArray [none] Ψ;refine⟨n,.inl ⟨fun e he=>?_,?_⟩⟩
  ·have:=List.filter_eq_nil_iff.1 ft e he;simpa using this
  ·simp only[iS]at g1;subst g1;have ao:((if(([]:List MapEntry).toArray).isEmpty then #[none]else #[])++(([]:List MapEntry).toArray++ #[]).map some)=[none].toArray:=by simp
   rw[ao,g2];rfl
 ·have ao:((if left.toArray.isEmpty then #[none]else #[])++(left.toArray++ #[]).map some)=(left.map some).toArray:=by simp[Bd]
  obtain⟨n,x,g1,g2⟩:=Z7 (P:=P) (w:=w) bl mb clock clock seen.toArray (left.map some) (by simpa using Bd);simp only[hR]at g1;obtain⟨e,he,rfl⟩:=g1;refine⟨n,.inr ⟨e,(hL e he).1,(hL e he).2,?_⟩⟩;rw[ao,g2];simp only[fU];rw[Fk (w:={w with drawn:=n}) (o:= .mapIter (some mb) clock seen.toArray clock) J];simp
theorem Lu:∀{borns:List Nat} {us:List Value} {e:MapEntry},e∈fQ borns us->e.born∈borns
 |[],us,e,h=>by simp[fQ]at h
 |b::e6,[],e,h=>by simp[fQ]at h
 |b::e6,[_],e,h=>by simp[fQ]at h
 |b::e6,k::v::us,e,h=>by
  simp only[fQ,fm]at h;rcases h with rfl|h
  ·simp
  ·exact pd _ (Lu h)
theorem T3:∀{borns:List Nat} {kvs:List aj} {us:List Value},kvs.length=2*borns.length->us.length=kvs.length->∀{b:Nat},b∈borns->∃e∈fQ borns us,e.born=b
 |[],_,_,_,_,b,ad=>by simp at ad
 |b3::e6,kvs,[],J,U,b,ad=>by rw[J]at U;simp at U
 |b3::e6,kvs,[_],J,U,b,ad=>by rw[J]at U;simp at U;omega
 |b3::e6,kvs,k::v::us,J,U,b,ad=>by
  rcases fm.1 ad with rfl|ad
  ·exact⟨⟨k,v,b⟩,by simp[fQ],rfl⟩
  ·obtain⟨e,g1,g2⟩:=T3 (kvs:=kvs.drop 2) (us:=us) (borns:=e6) (by simp at J⊢;omega) (by simp at J U⊢;omega) ad;exact⟨e,by simp[fQ,g1],g2⟩
theorem Xw{w:World}{Z:bc}:∀{borns:List Nat} {kvs:List aj} {us:List Value},kvs.length=2*borns.length->borns.Pairwise (· < ·)->cX w Z kvs us->∀{e:MapEntry},e∈fQ borns us->∃k v,nN e.born borns kvs=some (.tuple [k,v])/\a8 w Z k e.key/\a8 w Z v e.val
 |[],_,_,_,_,_,e,h=>by simp[fQ]at h
 |b::e6,[],us,J,_,_,e,_=>by simp at J
 |b::e6,[_],us,J,_,_,e,_=>by simp at J;omega
 |b::e6,k::v::kvs,us,J,U,h3,e,h=>by
  simp only[cX]at h3;obtain⟨jx,P7,rfl,eu,j5,tA,rfl,fe,qs⟩:=h3;simp only[fQ,fm]at h;rw[np]at U;rcases h with rfl|h
  ·exact⟨k,v,by simp[nN],eu,fe⟩
  ·obtain⟨bI,v',g1,g2,g3⟩:=Xw (by simp at J;omega) U.2 qs h;have cA:b≠e.born:=Nat.ne_of_lt (U.1 _ (Lu h));exact⟨bI,v',by simp[nN,cA,g1],g2,g3⟩
theorem ak1{P:cK}{C:fp}{st:bn}{a:Act}{w:World}{Z:bc}(aM:c2 C st a w Z){o:Oper}{it:Operand}(og:o.op= .next it false){d:Nat}(aG:o.dst=some d)(yV:jW C.N (some d)=true){v:aj}(az:a8 w Z v (a.eval it)){K:bn->Prop}(he:tX st d v K)
  {se:Act->World->Prop} {Q:Exit->Act->World->Prop} (c7:∀st' bk w' bh,K st'->c2 C st' bk w' bh->se bk w'):o.wp P a w se Q:=by
 unfold tX at he;split at he
 ·rename_i fF;split at he
  ·rename_i since seen last mk xg;split at he
   ·rename_i clock borns kvs y5;obtain⟨⟨rfl,rfl⟩,xe,pC⟩:=he;simp only[a8]at az;obtain⟨bl,b1,b2⟩:=az;obtain⟨iX,us,el,a1,bm,bW,cZ,c6⟩:=aM.good.box fF _ xg;rw[b1]at a1;cases a1;obtain⟨mb,ms,at4,m1,m2,m3,m4,m5⟩:=aM.good.box mk _ y5;simp only[jP,cX]at c6;obtain⟨u,cj,hu,⟨at3,eu,rfl⟩,rfl⟩:=c6;rw[m1]at eu;cases eu;simp only[kl,hu]at cZ;simp only[kl]at m4;simp only[jP]at m5;obtain⟨n,mP⟩:=aoB (P:=P) (ty:=o.type) cZ m4 (fun e he=>m5.2.lt _ (Lu he));have nC:∀v' w',(Instr.next (.pointer (some ⟨bl,0,none⟩)) false o.type).run P w= .ok v' w'->(execOp a.eval o).run P w= .ok (.value v') w':=by intro v' w' iI;obtain⟨dst,op,ty,pos,QX,w4⟩:=o;simp only at og iI;subst og;simp only[execOp,b2];exact FK iI
    rcases mP with⟨J,U⟩|⟨e,J,U,h3⟩
    ·refine nj (nC _ _ U) ?_;rw[aG];refine c7 _ _ _ _ (xe fun b ad=>?_) ((aM.drawn n).put yV (p:= .tuple [.bool false]) (by simp[a8,cX]));obtain⟨e,f1,f2⟩:=T3 m5.2.len (Jm m5.1) ad;rw[<-f2];exact J e f1
    ·obtain⟨k,v,f1,f2,f3⟩:=Xw m5.2.len m5.2.inc m5.1 J;refine nj (nC _ _ h3) ?_;rw[aG];have xt:=((aM.drawn n).setBox (w':={w with drawn:=n,heap:=w.heap.setIfInBounds bl (.mapIter (some mb) last (seen++[e.born]).toArray last)}) xg b1 (cs':=[.hdi last (seen++[e.born]) last,.gmap mk]) (us:=us) (el:=el) rfl rfl rfl
      (fun j ag=>Array.getElem?_setIfInBounds_ne (lR ag)) Ψ (by simp[kl,hu,(Array.getElem?_eq_some_iff.1 cZ).1]) (by simp only[jP,cX];exact⟨_,_,hu,by simp only[a8];exact⟨mb,m1,rfl⟩,rfl⟩))
     refine c7 _ _ _ _ (pC e.born k v f1 U) (xt.1.put yV (p:= .tuple [.bool true,k,v]) ?_);simp only[a8];refine⟨_,rfl,?_⟩;simp only[cX];have lG:ma w Z {w with drawn:=n} Z:=⟨fun _ _ h=>⟨h,rfl⟩,fun _ _ _ h=>h,fun _ n u _ h=>⟨n,u,h,.inl ⟨rfl,rfl⟩⟩,fun _ _ _=>rfl,fun _ _ _ _ h=>h⟩;exact⟨_,_,rfl,by simp[a8],_,_,rfl,zP xt.2 (zP lG f2),_,_,rfl,zP xt.2 (zP lG f3),rfl⟩
   ·exact he.elim
  ·exact he.elim
 ·exact he.elim
theorem T8{P:cK}{bC:List (Nat×dy)}(aI:fJ P bC=true){C:fp}{st:bn}{a:Act}{w:World}{Z:bc}(aM:c2 C st a w Z){i:eo}{o:Oper}(ay:wo C.N bC i o=true){K:bn->Prop}(he:vp P st K i)
  {se:Act->World->Prop} {Q:Exit->Act->World->Prop} (c7:∀st' bk w' bh,K st'->c2 C st' bk w' bh->se bk w'):o.wp P a w se Q:=by
 cases i with
 |s i=>
  simp only[vp]at he;split at he
  ·rename_i c st' af;exact aoE aI aM (by simpa only[wo]using ay) af he.1 fun bk w' bh h=>c7 _ _ _ _ he.2 h
  ·exact he.elim
 |next d x=>
  simp only[vp]at he;simp only[wo]at ay;split at ay
  ·rename_i it og;simp only[cr,dM,eN]at ay;obtain⟨⟨J,U⟩,h3⟩:=ay;exact ak1 aM og J (by simpa[jW]using U) (et aM h3) he c7
  ·cases ay
 |call d f xs=>
  simp only[vp]at he;simp only[wo]at ay;split at ay
  ·rename_i sr args Cy og;simp only[cr,dM]at ay;obtain⟨⟨⟨J,U⟩,h3⟩,h4⟩:=ay;split at he
   ·rename_i n dr aN;have:=et aM h3;rw[aN]at this;exact Ty aM og J U this (Fg aM h4) he c7
   ·exact he.elim
  ·cases ay
theorem Pd{C:fp}{st:bn}{a:Act}{w:World}{Z:bc}(h:c2 C st a w Z){s:Nat}{b:Bool}(af:get s st.t= .bool b):c2 C {st with t:=put s (.bool b) st.t} a w Z:=by
 refine⟨h.good,h.fr,h.defers,h.size,fun i=>?_,h.new⟩;have:=h.slot i;simp only[eX];split
 ·rename_i e;subst e;rw[<-af];exact this
 ·exact this
theorem abG{C:fp}{st:bn}{a:Act}{w:World}{Z:bc}(h:c2 C st a w Z){ops:Array Oper}{j s:Nat}(ag:(ops.toList[j]?).bind (·.dst)=some s)(af:s<C.N):
  (∀b,get s st.t= .bool b->yielded ops a.tmps j=some b)/\(get s st.t= .tuple []->yielded ops a.tmps j=none):=by
 have bs:s<a.tmps.size:=by rw[h.size];exact af
 have sS:=h.slot s;have h6:a.tmps.getD s undef=a.tmps[s]:=by simp[Array.getD,bs]
 rw[h6]at sS;have aC:yielded ops a.tmps j=match a.tmps[s]with| .bool b=>some b|_=>none:=by unfold yielded;rw[u7]at ag;rw[ag];simp only[jy,Array.getElem?_eq_getElem bs];cases a.tmps[s]<;>rfl
 constructor
 ·intro b ad;rw[ad]at sS;simp only[a8]at sS;rw[aC,sS]
 ·intro ad;rw[ad]at sS;simp only[a8,cX]at sS;obtain⟨us,aq,aF⟩:=sS;rw[aC,aq]
theorem Uc{P:cK}{bC:List (Nat×dy)}(aI:fJ P bC=true){C:fp}{ops:Array Oper}{K:bn->Prop}{Q:Exit->Act->World->Prop}(ix:∀st' bk w' bh,K st'->c2 C st' bk w' bh->Q .normal bk w'):
  ∀(gs:List dc) (os:List Oper) (k:Nat),(∀j,os[j]? =ops[k+j]?)->k7 C.N bC ops.toList gs os=true->∀(st:bn) (a:Act) (w:World) (Z:bc),iv P gs st K->c2 C st a w Z->wpOps P ops Q (List.range' k gs.length) a w
 |[],[],k,_,_,st,a,w,Z,he,aM=>by simp only[List.length_nil,List.range'_zero,wpOps];exact ix _ _ _ _ he aM
 |[],_::_,_,_,ae,_,_,_,_,_,_=>by simp[k7]at ae
 |_::_,[],_,_,ae,_,_,_,_,_,_=>by simp[k7]at ae
 |g::gs,o::os,k,Bi,ae,st,a,w,Z,he,aM=>by
  simp only[k7,cr]at ae;have bz:ops[k]? =some o:=by simpa using(Bi 0).symm
  have D3:∀j,os[j]? =ops[k+1+j]?:=fun j=>by have:=Bi (j+1);simpa[Nat.add_assoc,Nat.add_comm 1 j]using this
  simp only[mG,List.range'_succ,wpOps,bz];have bN:∀st' bk w' bh,iv P gs st' K->c2 C st' bk w' bh->wpOps P ops Q (List.range' (k+1) gs.length) bk w':=fun st' bk w' bh J U=>Uc aI ix gs os (k+1) D3 ae.2 st' bk w' bh J U;obtain⟨n4,U8⟩:=g;have aW:=ae.1;simp only[Dt,cr]at aW;obtain⟨rG,qQ⟩:=aW;cases n4 with
  |none=>
   cases eA:o.guard with
   |some x=>simp[eA]at rG
   |none=>
    have hw:pW o (yielded ops a.tmps)=true:=by simp[pW,eA]
    rw[if_pos hw];simp only[iv]at he;exact .inl (T8 aI aM qQ he bN)
  |some z6=>
   obtain⟨s,want⟩:=z6;cases eA:o.guard with
   |none=>simp[eA]at rG
   |some x=>
    obtain⟨j,b3⟩:=x;simp only[eA,cr,dM,eN]at rG;obtain⟨⟨⟨⟨rfl,U⟩,h3⟩,h4⟩,h5⟩:=rG;obtain⟨j6,nk⟩:=abG aM U h3;simp only[iv]at he;split at he
    ·rename_i b ad;have aC:=j6 b ad;by_cases e:b=want
     ·subst e;have hw:pW o (yielded ops a.tmps)=true:=by simp[pW,eA,aC]
      rw[if_pos hw];exact .inl (T8 aI (Pd aM ad) qQ (he.1 rfl) bN)
     ·have hw:¬(pW o (yielded ops a.tmps)=true):=by simp[pW,eA,aC,e]
      rw[if_neg hw];have gd:b= !want:=by cases b<;>cases want<;>simp at e⊢
      have nF:c2 C {st with t:=put s (.bool !want) st.t} a w Z:=Pd aM (by rw[ad,gd]);rw[h4];exact bN _ _ _ _ (he.2 gd) (nF.put h5 (by simp[a8,cX,undef]))
    ·rename_i ad;have aC:=nk ad;have hw:¬(pW o (yielded ops a.tmps)=true):=by simp[pW,eA,aC]
     rw[if_neg hw,h4];exact bN _ _ _ _ he (aM.put h5 (by simp[a8,cX,undef]))
    ·exact he.elim
structure di where
 t:Nat->aj
 b:aL->Option (List aj)
 e:aL->Option fP
 F:aL->Prop
structure lx where
 d:Option Nat
 p:aj
 bw:List (aL×List aj)
 ew:List (aL×fP)
 rm:Option aL
def iZ{α:Type}(l:List (aL×α))(f:aL->Option α):aL->Option α:=fun k=>match look k l with|some x=>some x|none=>f k
def di.do(A:di)(x:lx):di:={t:=fun i=>if x.d=some i then x.p else A.t i,b:=iZ x.bw A.b,e:=iZ x.ew A.e,F:=fun k=>A.F k/\x.rm≠some k}
structure lx.apart (x y:lx):Prop where
 d:∀i,x.d=some i->y.d≠some i
 b:∀k,(look k x.bw).isSome->look k y.bw=none
 e:∀k,(look k x.ew).isSome->look k y.ew=none
theorem di.do_comm(A:di){x y:lx}(h:x.apart y):(A.do x).do y=(A.do y).do x:=by
 simp only[di.do,di.mk.injEq];refine⟨?_,?_,?_,?_⟩
 ·funext i;by_cases J:x.d=some i
  ·have:=h.d i J;simp[J,this]
  ·simp[J]
 ·funext k;simp only[iZ];cases ab:look k x.bw with
  |none=>cases look k y.bw<;>rfl
  |some u=>rw[h.b k (by simp[ab])]
 ·funext k;simp only[iZ];cases ab:look k x.ew with
  |none=>cases look k y.ew<;>rfl
  |some u=>rw[h.e k (by simp[ab])]
 ·funext k;exact propext ⟨fun h=>⟨⟨h.1.1,h.2⟩,h.1.2⟩,fun h=>⟨⟨h.1.1,h.2⟩,h.1.2⟩⟩
def dF(t:Nat->aj):dv->aj
 | .t i=>t i
 | .c p=>p
def ta(b:aL->Option (List aj))(e:aL->Option fP)(agg:Bool)(sz:Nat):aj->Option (Prop×aj)
 | .rptr dL k n i f=>zQ agg sz dL n i f (e k)
 | .ptr k off=>
  match b k with
  |some cs=>if agg then some (h9 cs=true/\off+sz<=cs.length,.agg ((cs.drop off).take sz))else(cs[off]?).map fun p=>(h9 cs=true,p)
  |none=>none
 | .eptr p=>if agg then some (isAgg sz p,p)else some (e4 p=true/\cells p=[p],p)
 |_=>none
def yy(t:Nat->aj):List aj->List (Nat×Nat×dv)->Option (Prop×List aj)
 |cs,[]=>some (True,cs)
 |cs,(off,sz,x)::r=>
  match yy t (o3 cs off (cells (dF t x))) r with
  |some (c,cs')=>some ((e4 (dF t x)=true/\(cells (dF t x)).length=sz/\off+sz<=cs.length)/\c,cs')
  |none=>none
def qy(t:Nat->aj)(b:aL->Option (List aj))(e:aL->Option fP):gh->Option (Prop×aj)
 | .mov x=>some (True,dF t x)
 | .pick c x y=>IK (dF t c) (dF t x) (dF t y)
 | .load agg sz x=>ta b e agg sz (dF t x)
 | .faddr off agg sz x=>sv off agg sz (dF t x)
 | .fld off agg sz x=>vt off agg sz (dF t x)
 | .iaddr sz x i=>Bv sz (dF t x) (dF t i)
 | .sidx x i=>JD (dF t x) (dF t i)
 | .ssl x lo hi=>JI (dF t x) (lo.map (dF t)) (hi.map (dF t))
 | .lsl sz x lo hi=>Ii sz (dF t x) (lo.map (dF t)) (hi.map (dF t))
 | .bin op wr x y=>bO op wr (dF t x) (dF t y)
 | .notB x=>Iy (dF t x)
 | .neg x=>Is (dF t x)
 | .conv k x=>GH k (dF t x)
 | .ext i x=>AN i (dF t x)
 | .len x=>BI (dF t x)
 | .slen x=>Fv (dF t x)
 | .build zero parts=>(yy t zero parts).map fun(c,cs)=>(c,.agg cs)
 | .nck x=>BU (dF t x)
 | .min2 x y=>Iq (dF t x) (dF t y)
 | .mkf n xs=>some (True,.func n (xs.map (dF t)))
 | .mget ch zero ok x k=>nO b ch zero ok (dF t x) (dF t k)
 | .ment x=>qn b (dF t x)
 | .mlen x=>BT b (dF t x)
 | .beq neg dQ x y=>iW neg dQ (dF t x) (dF t y)
 | .max2 x y=>Im (dF t x) (dF t y)
 | .mkif n x=>some (True,.iface n (dF t x))
 | .loadB agg sz x=>ta b (fun _=>none) agg sz (dF t x)
 | .mgetB ch zero ok x k=>nO b ch zero ok (dF t x) (dF t k)
 | .loadZ agg sz x=>Ds agg sz (dF t x)
structure l8 (st:bn) (A:di):Prop where
 t:∀i,get i st.t=A.t i
 b:∀k,look k st.b=A.b k
 e:∀k,look k st.e=A.e k
theorem jo{st:bn}{A:di}(h:l8 st A)(x:dv):cu st.t x=dF A.t x:=by
 cases x
 ·exact h.t _
 ·rfl
theorem vr{st:bn}{A:di}(h:l8 st A):cu st.t=dF A.t:=funext (jo h)
theorem akh{st:bn}{A:di}(h:l8 st A)(agg:Bool)(sz:Nat)(p:aj):nM st.b st.e agg sz p=ta A.b A.e agg sz p:=by
 cases p<;>simp only[nM,ta]
 ·rw[h.b];try rfl
 ·rw[h.e]
theorem aki{st:bn}{A:di}(h:l8 st A)(agg:Bool)(sz:Nat)(p:aj):nM st.b [] agg sz p=ta A.b (fun _=>none) agg sz p:=by
 cases p<;>simp only[nM,ta]
 ·rw[h.b];try rfl
 ·rfl
theorem Rq{st:bn}{A:di}(h:l8 st A):∀(parts:List (Nat×Nat×dv)) (cs:List aj),vn st.t cs parts=yy A.t cs parts
 |[],cs=>rfl
 |(off,sz,x)::r,cs=>by simp only[vn,yy,jo h,Rq h r];try rfl
theorem aaM{st:bn}{A:di}(h:l8 st A)(i:gh):hE st i=qy A.t A.b A.e i:=by have ad:(fun k=>look k st.b)=A.b:=funext h.b;cases i<;>simp only[hE,qy,vr h,akh h,aki h,Rq h,ad]
def hB:dv->List Nat
 | .t i=>[i]
 | .c _=>[]
def Oy:Option dv->List Nat
 |some x=>hB x
 |none=>[]
def gh.looks:gh->List Nat
 | .mov x| .load _ _ x| .loadB _ _ x| .loadZ _ _ x| .faddr _ _ _ x| .fld _ _ _ x| .notB x| .neg x| .conv _ x| .ext _ x| .len x| .slen x| .nck x| .ment x| .mlen x| .mkif _ x=>hB x
 | .pick c x y=>hB c++hB x++hB y
 | .iaddr _ x i| .sidx x i=>hB x++hB i
 | .ssl x lo hi| .lsl _ x lo hi=>hB x++Oy lo++Oy hi
 | .bin _ _ x y| .min2 x y| .max2 x y| .beq _ _ x y=>hB x++hB y
 | .build _ cy=>cy.flatMap fun p=>hB p.2.2
 | .mkf _ xs=>xs.flatMap hB
 | .mget _ _ _ x k| .mgetB _ _ _ x k=>hB x++hB k
def ez.looks:ez->List Nat
 | .v _ i=>i.looks
 | .box _ _ x=>hB x
 | .alloc _ _ _=>[]
 | .store _ x y=>hB x++hB y
 | .storeE _ x y=>hB x++hB y
 | .bsl _ _ _ xs=>xs.flatMap hB
 | .app _ _ _ x y=>hB x++hB y
 | .bslm _ _ _ _ xs=>xs.flatMap hB
 | .mks _ _ _ _ _ x=>hB x
 | .appm _ _ _ _ x y=>hB x++hB y
 | .mkmap _ _=>[]
 | .mput _ x k y=>hB x++hB k++hB y
 | .range _ _ x=>hB x
def eo.looks:eo->List Nat
 | .s i=>i.looks
 | .call _ f xs=>hB f++xs.flatMap hB
 | .next _ x=>hB x
def dc.looks(g:dc):List Nat:=(match g.g with|some (s,_)=>[s]|none=>[])++g.i.looks
def rp(l:List Nat)(t du:Nat->aj):Prop:= ∀i∈l,t i=du i
theorem gI{t du:Nat->aj}{x:dv}(h:rp (hB x) t du):dF t x=dF du x:=by
 cases x
 ·exact h _ (by simp[hB])
 ·rfl
theorem k3{l a6:List Nat}{t du:Nat->aj}(h:rp (l++a6) t du):rp l t du/\rp a6 t du:=⟨fun i hi=>h i (by simp[hi]),fun i hi=>h i (by simp[hi])⟩
theorem GQ{t du:Nat->aj}{x:Option dv}(h:rp (Oy x) t du):x.map (dF t)=x.map (dF du):=by
 cases x
 ·rfl
 ·simp[gI h]
theorem Rp{t du:Nat->aj}:∀{parts:List (Nat×Nat×dv)} {cs:List aj},rp (parts.flatMap fun p=>hB p.2.2) t du->yy t cs parts=yy du cs parts
 |[],cs,_=>rfl
 |(off,sz,x)::r,cs,h=>by simp only[List.flatMap_cons]at h;obtain⟨J,U⟩:=k3 h;simp only[yy,gI J,Rp U]
theorem Il{t du:Nat->aj}:∀{xs:List dv},rp (xs.flatMap hB) t du->xs.map (dF t)=xs.map (dF du)
 |[],_=>rfl
 |x::xs,h=>by simp only[List.flatMap_cons]at h;obtain⟨J,U⟩:=k3 h;simp[gI J,Il U]
def gh.isLoad:gh->Bool
 | .load _ _ _=>true
 | .loadB _ _ _=>true
 | .mgetB _ _ _ _ _=>true
 | .mget _ _ _ _ _=>true
 | .ment _=>true
 | .mlen _=>true
 |_=>false
theorem apG{t du:Nat->aj}{b b3:aL->Option (List aj)}{e fE:aL->Option fP}{i:gh}(h:rp i.looks t du)(ad:i.isLoad=false):qy t b e i=qy du b3 fE i:=by
 cases i<;>simp only[gh.looks]at h<;>simp only[qy];case load agg sz x=>simp[gh.isLoad]at ad
 case loadB agg sz x=>simp[gh.isLoad]at ad
 case pick c x y=>obtain⟨J,h3⟩:=k3 h;obtain⟨J,U⟩:=k3 J;rw[gI J,gI U,gI h3]
 case iaddr=>obtain⟨J,U⟩:=k3 h;rw[gI J,gI U]
 case sidx=>obtain⟨J,U⟩:=k3 h;rw[gI J,gI U]
 case ssl=>obtain⟨J,h3⟩:=k3 h;obtain⟨J,U⟩:=k3 J;rw[gI J,GQ U,GQ h3]
 case lsl=>obtain⟨J,h3⟩:=k3 h;obtain⟨J,U⟩:=k3 J;rw[gI J,GQ U,GQ h3]
 case bin=>obtain⟨J,U⟩:=k3 h;rw[gI J,gI U]
 case min2=>obtain⟨J,U⟩:=k3 h;rw[gI J,gI U]
 case build=>rw[Rp h]
 case mkf=>rw[Il h]
 case mget=>simp[gh.isLoad]at ad
 case mgetB=>simp[gh.isLoad]at ad
 case ment=>simp[gh.isLoad]at ad
 case mlen=>simp[gh.isLoad]at ad
 case max2=>obtain⟨J,U⟩:=k3 h;rw[gI J,gI U]
 case beq=>obtain⟨J,U⟩:=k3 h;rw[gI J,gI U]
 all_goals rw[gI h]
end
end Go.Pv
