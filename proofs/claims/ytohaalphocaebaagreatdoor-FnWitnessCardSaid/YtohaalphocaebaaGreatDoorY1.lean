/- Regions that draw their order, I: abstract states as functions, effects, and what an instruction does to them. -/
import Derived.WalkKit
import Derived.Orders
import Derived.KernelRfl
import Derived.IntWalk
import Derived.Laws.StructEq
import Derived.ChangeKeysEq
import Derived.MapKept
import Derived.ArgAppend
import Derived.Laws.OwnMore
set_option linter.all false
set_option maxHeartbeats 4000000
set_option maxRecDepth 4000
namespace Go
theorem be{p:Prop}(h:p:=by simp only[aO,aA,aB,bO,bS];exact aK):p:=h
theorem bi{p:Prop}(h:p:=by first|exact cj _|exact cj ‹_› _):p:=h
theorem bv{p:Prop}(h:p:=by simp[aO,aA,aB]):p:=h
theorem ci{p:Prop}(h:p:=by kernel_rfl):p:=h
theorem co{p:Prop}(h:p:=by unfold cB;exact aK):p:=h
theorem dl{p:Prop}(h:p:=by simp[inObs,Pv.look,aO,aA,aB]):p:=h
theorem d6{p:Prop}(h:p:=by simp[aG]):p:=h
theorem d7{p:Prop}(h:p:=by simp;omega):p:=h
theorem d8{p:Prop}(h:p:=by first|exact il _|exact il ‹_› _):p:=h
theorem d9{p:Prop}(h:p:=by simp[aP,aG,inObs,Pv.look]):p:=h
theorem gc{p:Prop}(h:p:=by simp only[gd,aA,aB,bO,bS];exact aK):p:=h
theorem ge{p:Prop}(h:p:=by simp only[ez,aA,aB,fk,eQ,gG,hI,hJ,hK,bO,bS];exact aK):p:=h
theorem gt{p:Prop}(h:p:=by first|exact jy _|exact jy ‹_› _):p:=h
theorem g8{p:Prop}(h:p:=by simp[fresh,aP,aG,cn,inObs,Pv.look,e0]):p:=h
theorem g9{p:Prop}(h:p:=by simp[fresh,aP,aG,dV,inObs,Pv.look,e0]):p:=h
theorem Ω{p:Prop}(h:p:=by omega):p:=h
theorem Ψ{p:Prop}(h:p:=by simp):p:=h
end Go
open Array renaming getElem?_toList->um
open BitVec renaming ofInt->l3
open Bool renaming and_eq_true->cE,eq_iff_iff->p1,false_eq_true->gO,not_eq_true'->rC
open ByteArray renaming ext->anD,size->arW
open Go renaming Program->cL,TypeId->gP
open Go.ByteArray renaming toList_eq->anE
open Go.IntKind renaming i64->nk
open Go.IntWalk renaming i64_in->mB
open Go.Op renaming bytesLess->hE
open Go.Region renaming wanted->pd
open Go.Result renaming andThen_ok->fR
open Go.Sem renaming run_bind->fL,run_pure->gB
open Go.Value renaming cells->pe,ownBlock->oD
open Go.Value.pointer renaming injEq->ar3
open Go.World.grownBy renaming refl->anH
open List renaming all_eq_true->fM,cons_append->bO,getElem?_eq_getElem->cf,getElem?_eq_none->qF,getElem?_eq_some_iff->fb,length_append->pf,length_cons->l5,length_drop->sZ,map_cons->hk,map_nil->qG,mem_append->ih,mem_cons->fD,mem_cons_of_mem->oE,mem_filter->lC,mem_map->iy,mem_singleton->oF,pairwise_cons->mC,take->pj,take_length->l6,take_of_length_le->hx
open List.cons renaming injEq->xE
open Nat renaming add_mul->p2,le_refl->eX,le_trans->kn
open Ne renaming symm->ld
open Option renaming bind_some->jK,isSome_iff_exists->fE,isSome_none->lD,map_eq_some_iff->gk,map_some->oH
open Option.some renaming injEq->dC
open Prod.mk renaming injEq->jM
open _root_ renaming DecidableEq->mA,False->eW,beq_iff_eq->dL,congrArg->eK,decide_eq_true_eq->e6
namespace Go.Pv
section
open Go Go.RowKit
inductive aL where
 |loc (s:Nat)
 |obj (n:Nat)
 deriving mA,Inhabited
inductive BZ where
 |no
 |nil
 |own (k:aL)
 |tr (k:aL) (j:Nat)
 |lo (k:aL)
 deriving mA,Inhabited
inductive ai where
 |junk
 |int (k:IntKind) (n:Int)
 |bool (b:Bool)
 |str (s:List UInt8)
 |slice (sz:Nat) (tag:BZ) (xs:List ai)
 |agg (cs:List ai)
 |ptr (key:aL) (off:Nat)
 |eptr (x:ai)
 |iface (t:Nat) (x:ai)
 |nilp
 |tuple (ba:List ai)
 |func (f:Nat) (dn:List ai)
 |gmap (key:aL)
 |row (sz:Nat) (key:aL) (n:Nat)
 |rptr (sz:Nat) (key:aL) (n i f:Nat)
 |hdm (clock:Nat) (borns:List Nat)
 |hdi (since:Nat) (seen:List Nat) (last:Nat)
 |cst (v:Value)
 deriving Inhabited
structure bc where
 A:Nat->Nat->Prop
 bx:aL->Option Nat
 ow:aL->Option (Nat×Value)
 tr:aL->Nat->Nat->Prop
def lim:Nat:=68719476736
def lV(w:World)(A:Nat->Nat->Prop)(b:Nat):Nat->List Value->Prop
 |_,[]=>True
 |off,u::us=>(A b off/\w.cell? ⟨b,off,none⟩=some u)/\lV w A b (off+1) us
def shape(w:World)(b:Nat):Option (Nat×gP×(Nat×Nat)):=
 match w.heap[b]? with
 |some (.cells cur el fz)=>some (cur.size,el,fz)
 |_=>none
theorem xf{w w':World}{b:Nat}(h:w'.heap[b]? =w.heap[b]?):shape w' b=shape w b:=by unfold shape;rw[h]
mutual
def gh(t:Bool)(w:World)(A:Nat->Nat->Prop)(F:Nat->Prop):ai->Value->Prop
 | .int k n,v=>v= .int k n
 | .bool b,v=>v= .bool b
 | .str s,v=>v= .string ⟨s.toArray⟩/\s.length<=lim
 | .slice sz _ xs,v=> ∃a cap,v= .slice a xs.length cap/\xs.length<=cap/\(cap<=maxLen/\xs.length<=lim)/\
   (xs=[]\/ ∃b off us G,a=some ⟨b,off,none⟩/\F b/\(∀c,G c->F c/\(t=true->c≠b))/\lV w A b off us/\(t=true->off=0/\0<us.length/\∃el,shape w b=some (cap*sz,el,(0,0)))/\uQ t w A G sz xs us)
 | .agg cs,v=> ∃us:Array Value,v= .agg us/\uR t w A F cs us.toList
 |_,_=>eW
def uR(t:Bool)(w:World)(A:Nat->Nat->Prop)(F:Nat->Prop):List ai->List Value->Prop
 |[],us=>us=[]
 |c::cs,us=> ∃u cm ik iz,us=u::cm/\((∀b,ik b->F b)/\(∀b,iz b->F b)/\(t=true->∀b,ik b->¬iz b))/\(gh t w A ik c u/\u.oneCell'=true)/\uR t w A iz cs cm
def uQ(t:Bool)(w:World)(A:Nat->Nat->Prop)(F:Nat->Prop)(sz:Nat):List ai->List Value->Prop
 |[],us=>us=[]
 |x::xs,us=> ∃u cm ik iz,us=u.cells.toList++cm/\((∀b,ik b->F b)/\(∀b,iz b->F b)/\(t=true->∀b,ik b->¬iz b))/\(gh t w A ik x u/\u.cells.size=sz/\(∀c∈u.cells.toList,c.oneCell'=true))/\uQ t w A iz sz xs cm
end
mutual
def bd(w:World)(Z:bc):ai->Value->Prop
 | .junk,_=>True
 | .int k n,v=>v= .int k n
 | .bool b,v=>v= .bool b
 | .str s,v=>v= .string ⟨s.toArray⟩/\s.length<=lim
 | .slice sz tag xs,v=>
   (∃a cap,v= .slice a xs.length cap/\xs.length<=cap/\(cap<=maxLen/\xs.length<=lim)/\(xs=[]\/ ∃b off us,a=some ⟨b,off,none⟩/\lV w Z.A b off us/\dB w Z sz xs us))/\
   (tag= .nil->v= .slice none 0 0)/\
   (∀g,tag= .own g->∃n u,Z.ow g=some (n,u)/\xs.length<=n/\(xs.length=n->v=u))/\
   (∀k j,tag= .tr k j->gh true w Z.A (Z.tr k j) (.slice sz tag xs) v)/\(∀k,tag= .lo k->gh false w Z.A (Z.tr k 0) (.slice sz tag xs) v)
 | .agg cs,v=> ∃us:Array Value,v= .agg us/\ds w Z cs us.toList
 | .ptr key off,v=> ∃b,Z.bx key=some b/\v= .pointer (some ⟨b,off,none⟩)
 | .eptr x,v=> ∃b off u,v= .pointer (some ⟨b,off,none⟩)/\bd w Z x u/\lV w Z.A b off u.cells.toList
 | .iface t x,v=> ∃u,v= .iface t u/\bd w Z x u
 | .nilp,v=>v= .pointer none
 | .tuple ba,v=> ∃us:Array Value,v= .tuple us/\cX w Z ba us.toList
 | .func f dn,v=> ∃us:Array Value,v= .func (.func f) #[] us/\cX w Z dn us.toList
 | .gmap key,v=> ∃b,Z.bx key=some b/\v= .map (some b)
 | .row _ key n,v=>(∃b cap,v= .slice (some ⟨b,0,none⟩) n cap)/\n<=lim/\∃n' u,Z.ow key=some (n',u)/\n<=n'/\(n=n'->v=u)
 | .rptr sz key n i f,v=>(∃b o,v= .pointer (some ⟨b,o,none⟩))/\i<n/\∃n' u,Z.ow key=some (n',u)/\n<=n'/\(n=n'->∃b,u.ownBlock=some b/\v= .pointer (some ⟨b,i*sz+f,none⟩))
 | .hdm _ _,_=>eW
 | .hdi _ _ _,_=>eW
 | .cst c,v=>v=c
def ds(w:World)(Z:bc):List ai->List Value->Prop
 |[],us=>us=[]
 |c::cs,us=> ∃u cm,us=u::cm/\(bd w Z c u/\u.oneCell'=true)/\ds w Z cs cm
def cX(w:World)(Z:bc):List ai->List Value->Prop
 |[],us=>us=[]
 |c::cs,us=> ∃u cm,us=u::cm/\bd w Z c u/\cX w Z cs cm
def dB(w:World)(Z:bc)(sz:Nat):List ai->List Value->Prop
 |[],us=>us=[]
 |x::xs,us=> ∃u cm,us=u.cells.toList++cm/\(bd w Z x u/\u.cells.size=sz/\(∀c∈u.cells.toList,c.oneCell'=true))/\dB w Z sz xs cm
end
theorem GM{w w':World}{A gl:Nat->Nat->Prop}{b:Nat}(bg:∀b o,A b o->gl b o/\w'.cell? ⟨b,o,none⟩=w.cell? ⟨b,o,none⟩):
  ∀(us:List Value) (off:Nat),lV w A b off us->lV w' gl b off us
 |[],_,_=>trivial
 |_::us,off,h=>⟨⟨(bg _ _ h.1.1).1,(bg _ _ h.1.1).2.trans h.1.2⟩,GM bg us (off+1) h.2⟩
mutual
theorem FN{t:Bool}{w w':World}{A gl:Nat->Nat->Prop}(bg:∀b o,A b o->gl b o/\w'.cell? ⟨b,o,none⟩=w.cell? ⟨b,o,none⟩)(ag:∀b o,A b o->shape w' b=shape w b):∀(p:ai) (F pn:Nat->Prop) (v:Value),(∀b,F b->pn b)->gh t w A F p v->gh t w' gl pn p v
 | .int k n,_,_,_,_,h=>by simp only[gh]at h⊢;exact h
 | .bool b,_,_,_,_,h=>by simp only[gh]at h⊢;exact h
 | .str s,_,_,_,_,h=>by simp only[gh]at h⊢;exact h
 | .slice sz tag xs,F,pn,v,gm,h=>by
  simp only[gh]at h⊢;obtain⟨a,cap,J,U,ar,a8⟩:=h;refine⟨a,cap,J,U,ar,?_⟩;rcases a8 with a8|⟨b,off,us,G,ao,aF,bA,dr,hX,hY⟩
  ·exact .inl a8
  ·refine .inr ⟨b,off,us,G,ao,gm _ aF,fun c aq=>⟨gm _ (bA c aq).1,(bA c aq).2⟩,GM bg _ _ dr,fun aM=>?_,Sh bg ag xs G G _ (fun _ h=>h) hY⟩;obtain⟨f1,f2,el,f3⟩:=hX aM;refine⟨f1,f2,el,?_⟩;cases us with
   |nil=>simp at f2
   |cons u us=>rw[ag b off dr.1.1];exact f3
 | .agg cs,F,pn,v,gm,h=>by simp only[gh]at h⊢;obtain⟨us,J,U⟩:=h;exact⟨us,J,Si bg ag cs F pn _ gm U⟩
 | .junk,_,_,_,_,h=>by simp[gh]at h
 | .ptr _ _,_,_,_,_,h=>by simp[gh]at h
 | .eptr _,_,_,_,_,h=>by simp[gh]at h
 | .iface _ _,_,_,_,_,h=>by simp[gh]at h
 | .nilp,_,_,_,_,h=>by simp[gh]at h
 | .tuple _,_,_,_,_,h=>by simp[gh]at h
 | .func _ _,_,_,_,_,h=>by simp[gh]at h
 | .gmap _,_,_,_,_,h=>by simp[gh]at h
 | .row _ _ _,_,_,_,_,h=>by simp[gh]at h
 | .rptr _ _ _ _ _,_,_,_,_,h=>by simp[gh]at h
 | .hdm _ _,_,_,_,_,h=>by simp[gh]at h
 | .hdi _ _ _,_,_,_,_,h=>by simp[gh]at h
 | .cst _,_,_,_,_,h=>by simp[gh]at h
theorem Si{t:Bool}{w w':World}{A gl:Nat->Nat->Prop}(bg:∀b o,A b o->gl b o/\w'.cell? ⟨b,o,none⟩=w.cell? ⟨b,o,none⟩)(ag:∀b o,A b o->shape w' b=shape w b):∀(cs:List ai) (F pn:Nat->Prop) (us:List Value),(∀b,F b->pn b)->uR t w A F cs us->uR t w' gl pn cs us
 |[],_,_,_,_,h=>by simp only[uR]at h⊢;exact h
 |c::cs,F,pn,us,gm,h=>by simp only[uR]at h⊢;obtain⟨u,cm,ik,iz,J,⟨U,ar,a8⟩,⟨b8,de⟩,dX⟩:=h;exact⟨u,cm,ik,iz,J,⟨fun b ab=>gm _ (U b ab),fun b ab=>gm _ (ar b ab),a8⟩,⟨FN bg ag c ik ik u (fun _ h=>h) b8,de⟩,Si bg ag cs iz iz cm (fun _ h=>h) dX⟩
theorem Sh{t:Bool}{w w':World}{A gl:Nat->Nat->Prop}(bg:∀b o,A b o->gl b o/\w'.cell? ⟨b,o,none⟩=w.cell? ⟨b,o,none⟩)(ag:∀b o,A b o->shape w' b=shape w b){sz:Nat}:∀(cs:List ai) (F pn:Nat->Prop) (us:List Value),(∀b,F b->pn b)->uQ t w A F sz cs us->uQ t w' gl pn sz cs us
 |[],_,_,_,_,h=>by simp only[uQ]at h⊢;exact h
 |c::cs,F,pn,us,gm,h=>by simp only[uQ]at h⊢;obtain⟨u,cm,ik,iz,J,⟨U,ar,a8⟩,⟨b8,de⟩,dX⟩:=h;exact⟨u,cm,ik,iz,J,⟨fun b ab=>gm _ (U b ab),fun b ab=>gm _ (ar b ab),a8⟩,⟨FN bg ag c ik ik u (fun _ h=>h) b8,de⟩,Sh bg ag cs iz iz cm (fun _ h=>h) dX⟩
end
mutual
def aG(S:aL->Prop):ai->Prop
 | .slice _ tag xs=>(match tag with| .own k=>S k| .tr k _=>S k| .lo k=>S k|_=>True)/\aP S xs
 | .agg cs=>aP S cs
 | .ptr k _=>S k
 | .eptr x=>aG S x
 | .iface _ x=>aG S x
 | .tuple ba=>aP S ba
 | .func _ dn=>aP S dn
 | .gmap k=>S k
 | .row _ k _=>S k
 | .rptr _ k _ _ _=>S k
 |_=>True
def aP(S:aL->Prop):List ai->Prop
 |[]=>True
 |x::xs=>aG S x/\aP S xs
end
mutual
theorem wS{S T:aL->Prop}(h:∀k,S k->T k):∀p:ai,aG S p->aG T p
 | .junk,_=>by simp[aG]
 | .int _ _,_=>by simp[aG]
 | .bool _,_=>by simp[aG]
 | .str _,_=>by simp[aG]
 | .slice sz tag xs,bK=>by simp only[aG]at bK⊢;exact⟨by cases tag<;>first|trivial|exact h _ bK.1,j9 h xs bK.2⟩
 | .agg cs,bK=>by simp only[aG]at bK⊢;exact j9 h cs bK
 | .ptr k _,bK=>by simp only[aG]at bK⊢;exact h _ bK
 | .eptr x,bK=>by simp only[aG]at bK⊢;exact wS h x bK
 | .iface _ x,bK=>by simp only[aG]at bK⊢;exact wS h x bK
 | .nilp,_=>by simp[aG]
 | .tuple ba,bK=>by simp only[aG]at bK⊢;exact j9 h ba bK
 | .func _ dn,bK=>by simp only[aG]at bK⊢;exact j9 h dn bK
 | .gmap k,bK=>by simp only[aG]at bK⊢;exact h _ bK
 | .row _ k _,bK=>by simp only[aG]at bK⊢;exact h _ bK
 | .rptr _ k _ _ _,bK=>by simp only[aG]at bK⊢;exact h _ bK
 | .hdm _ _,_=>by simp[aG]
 | .hdi _ _ _,_=>by simp[aG]
 | .cst _,_=>by simp[aG]
theorem j9{S T:aL->Prop}(h:∀k,S k->T k):∀cH:List ai,aP S cH->aP T cH
 |[],_=>by simp[aP]
 |x::xs,bK=>by simp only[aP]at bK⊢;exact⟨wS h x bK.1,j9 h xs bK.2⟩
end
mutual
theorem GJ:∀p:ai,aG (fun _=>True) p
 | .junk=>by simp[aG]
 | .int _ _=>by simp[aG]
 | .bool _=>by simp[aG]
 | .str _=>by simp[aG]
 | .slice sz tag xs=>by simp only[aG];exact⟨by cases tag<;>trivial,vg xs⟩
 | .agg cs=>by simp only[aG];exact vg cs
 | .ptr k _=>by simp[aG]
 | .eptr x=>by simp only[aG];exact GJ x
 | .iface _ x=>by simp only[aG];exact GJ x
 | .nilp=>by simp[aG]
 | .tuple ba=>by simp only[aG];exact vg ba
 | .func _ dn=>by simp only[aG];exact vg dn
 | .gmap k=>by simp[aG]
 | .row _ k _=>by simp[aG]
 | .rptr _ k _ _ _=>by simp[aG]
 | .hdm _ _=>by simp[aG]
 | .hdi _ _ _=>by simp[aG]
 | .cst _=>by simp[aG]
theorem vg:∀cH:List ai,aP (fun _=>True) cH
 |[]=>by simp[aP]
 |x::xs=>by simp only[aP];exact⟨GJ x,vg xs⟩
end
def fy:List Nat->List Value->List MapEntry
 |b::eT,k::v::r=>⟨k,v,b⟩::fy eT r
 |_,_=>[]
def j0(cs:List ai)(us:Array Value)(el:gP):Obj:=
 match cs with
 | .hdm clock borns::_=>.map (fy borns us.toList).toArray clock
 | .hdi since seen last::_=>.mapIter (match us.toList with|[.map m]=>m|_=>none) since seen.toArray last
 |_=>.cells us el
structure ahe (clock:Nat) (borns:List Nat) (r:List ai):Prop where
 len:r.length=2*borns.length
 inc:borns.Pairwise (· < ·)
 lt:∀b∈borns,b<clock
def jt(w:World)(Z:bc)(cs:List ai)(us:List Value):Prop:=
 match cs with
 | .hdm clock borns::r=>cX w Z r us/\ahe clock borns r
 | .hdi _ _ _::r=>cX w Z r us
 |cs=>ds w Z cs us
def hV:List ai->Bool
 | .hdm _ _::_=>false
 | .hdi _ _ _::_=>false
 |_=>true
theorem Bv{w:World}{Z:bc}{cs:List ai}{us:List Value}(h:ds w Z cs us):hV cs=true:=by
 unfold hV;split
 ·simp only[ds,bd]at h;obtain⟨_,_,_,⟨h,_⟩,_⟩:=h;exact h.elim
 ·simp only[ds,bd]at h;obtain⟨_,_,_,⟨h,_⟩,_⟩:=h;exact h.elim
 ·rfl
theorem vs{cs:List ai}(h:hV cs=true)(us:Array Value)(el:gP):j0 cs us el= .cells us el:=by
 unfold hV at h;unfold j0;split at h<;>first|cases h|skip
 rfl
theorem vt{w:World}{Z:bc}{cs:List ai}(h:hV cs=true)(us:List Value):jt w Z cs us=ds w Z cs us:=by
 unfold hV at h;unfold jt;split at h<;>first|cases h|skip
 rfl
structure pq (S:aL->Prop) (w:World) (Z:bc) (w':World) (bn:bc):Prop where
 A:∀b o,Z.A b o->bn.A b o/\w'.cell? ⟨b,o,none⟩=w.cell? ⟨b,o,none⟩
 bx:∀k b,S k->Z.bx k=some b->bn.bx k=some b
 ow:∀g n u,S g->Z.ow g=some (n,u)->∃n' fa,bn.ow g=some (n',fa)/\(n'=n/\fa=u\/n<n')
 sh:∀b o,Z.A b o->shape w' b=shape w b
 tr:∀k j b,S k->Z.tr k j b->bn.tr k j b
abbrev lF:=pq (fun _=>True)
mutual
theorem vB{S:aL->Prop}{w w':World}{Z bn:bc}(ax:pq S w Z w' bn):∀(p:ai) (v:Value),aG S p->bd w Z p v->bd w' bn p v
 | .junk,_,_,_=>by simp[bd]
 | .int k n,_,_,h=>by simp only[bd]at h⊢;exact h
 | .bool b,_,_,h=>by simp only[bd]at h⊢;exact h
 | .str s,_,_,h=>by simp only[bd]at h⊢;exact h
 | .slice sz tag xs,v,ad,h=>by
  simp only[bd,aG]at h ad⊢;obtain⟨⟨a,cap,J,U,ar,a8⟩,b8,de,ll,pI⟩:=h;refine⟨⟨a,cap,J,U,ar,?_⟩,b8,fun g aX=>?_,fun k j mO=>?_,fun k mO=>?_⟩
  ·rcases a8 with a8|⟨b,off,us,a8,de,dX⟩
   ·exact .inl a8
   ·exact .inr ⟨b,off,us,a8,GM ax.A _ _ de,HL ax sz xs us ad.2 dX⟩
  ·obtain⟨n,u,ao,aF,bA⟩:=de g aX;subst aX;obtain⟨n',fa,f1,f2⟩:=ax.ow g n u ad.1 ao;refine⟨n',fa,f1,?_⟩;rcases f2 with⟨rfl,rfl⟩|f2
   ·exact⟨aF,bA⟩
   ·exact⟨Ω,fun e=>Ω⟩
  ·have:=ll k j mO;subst mO;exact FN ax.A ax.sh _ _ _ _ (fun b=>ax.tr k j b ad.1) this
  ·have:=pI k mO;subst mO;exact FN ax.A ax.sh _ _ _ _ (fun b=>ax.tr k 0 b ad.1) this
 | .agg cs,v,ad,h=>by simp only[bd,aG]at h ad⊢;obtain⟨us,J,U⟩:=h;exact⟨us,J,HO ax cs _ ad U⟩
 | .ptr key off,v,ad,h=>by simp only[bd,aG]at h ad⊢;obtain⟨b,J,U⟩:=h;exact⟨b,ax.bx _ _ ad J,U⟩
 | .iface t x,v,ad,h=>by simp only[bd,aG]at h ad⊢;obtain⟨u,J,U⟩:=h;exact⟨u,J,vB ax x u ad U⟩
 | .eptr x,v,ad,h=>by simp only[bd,aG]at h ad⊢;obtain⟨b,off,u,J,U,ar⟩:=h;exact⟨b,off,u,J,vB ax x u ad U,GM ax.A _ _ ar⟩
 | .nilp,_,_,h=>by simp only[bd]at h⊢;exact h
 | .tuple ba,v,ad,h=>by simp only[bd,aG]at h ad⊢;obtain⟨us,J,U⟩:=h;exact⟨us,J,y5 ax ba _ ad U⟩
 | .func f dn,v,ad,h=>by simp only[bd,aG]at h ad⊢;obtain⟨us,J,U⟩:=h;exact⟨us,J,y5 ax dn _ ad U⟩
 | .gmap key,v,ad,h=>by simp only[bd,aG]at h ad⊢;obtain⟨b,J,U⟩:=h;exact⟨b,ax.bx _ _ ad J,U⟩
 | .row sz key n,v,ad,h=>by
  simp only[bd,aG]at h ad⊢;obtain⟨J,U,n',u,ar,a8,b8⟩:=h;obtain⟨gp,jJ,f1,f2⟩:=ax.ow key n' u ad ar;refine⟨J,U,gp,jJ,f1,?_⟩;rcases f2 with⟨rfl,rfl⟩|f2
  ·exact⟨a8,b8⟩
  ·exact⟨Ω,fun e=>Ω⟩
 | .rptr sz key n i f,v,ad,h=>by
  simp only[bd,aG]at h ad⊢;obtain⟨J,U,n',u,ar,a8,b8⟩:=h;obtain⟨gp,jJ,f1,f2⟩:=ax.ow key n' u ad ar;refine⟨J,U,gp,jJ,f1,?_⟩;rcases f2 with⟨rfl,rfl⟩|f2
  ·exact⟨a8,b8⟩
  ·exact⟨Ω,fun e=>Ω⟩
 | .hdm _ _,_,_,h=>by simp only[bd]at h
 | .hdi _ _ _,_,_,h=>by simp only[bd]at h
 | .cst c,_,_,h=>by simp only[bd]at h⊢;exact h
theorem HO{S:aL->Prop}{w w':World}{Z bn:bc}(ax:pq S w Z w' bn):∀(cs:List ai) (us:List Value),aP S cs->ds w Z cs us->ds w' bn cs us
 |[],_,_,h=>by simp only[ds]at h⊢;exact h
 |c::cs,us,ad,h=>by simp only[ds,aP]at h ad⊢;obtain⟨u,cm,J,U,ar⟩:=h;exact⟨u,cm,J,⟨vB ax c u ad.1 U.1,U.2⟩,HO ax cs cm ad.2 ar⟩
theorem y5{S:aL->Prop}{w w':World}{Z bn:bc}(ax:pq S w Z w' bn):∀(cs:List ai) (us:List Value),aP S cs->cX w Z cs us->cX w' bn cs us
 |[],_,_,h=>by simp only[cX]at h⊢;exact h
 |c::cs,us,ad,h=>by simp only[cX,aP]at h ad⊢;obtain⟨u,cm,J,U,ar⟩:=h;exact⟨u,cm,J,vB ax c u ad.1 U,y5 ax cs cm ad.2 ar⟩
theorem HL{S:aL->Prop}{w w':World}{Z bn:bc}(ax:pq S w Z w' bn)(sz:Nat):∀(xs:List ai) (us:List Value),aP S xs->dB w Z sz xs us->dB w' bn sz xs us
 |[],_,_,h=>by simp only[dB]at h⊢;exact h
 |x::xs,us,ad,h=>by simp only[dB,aP]at h ad⊢;obtain⟨u,cm,J,⟨U,ar,a8⟩,b8⟩:=h;exact⟨u,cm,J,⟨vB ax x u ad.1 U,ar,a8⟩,HL ax sz xs cm ad.2 b8⟩
end
theorem W7{S:aL->Prop}{w w':World}{Z bn:bc}(ax:pq S w Z w' bn){cs:List ai}{us:List Value}(ad:aP S cs)(h:jt w Z cs us):jt w' bn cs us:=by
 unfold jt at h⊢;split
 ·simp only[aP]at ad;exact⟨y5 ax _ _ ad.2 h.1,h.2⟩
 ·simp only[aP]at ad;exact y5 ax _ _ ad.2 h
 ·rename_i J U;split at h
  ·exact absurd rfl (J _ _ _)
  ·exact absurd rfl (U _ _ _ _)
  ·exact HO ax _ _ ad h
section
variable {w w':World} {Z bn:bc} (ax:lF w Z w' bn)
include ax
theorem y6{p:ai}{v:Value}(h:bd w Z p v):bd w' bn p v:=vB ax p v (GJ p) h
theorem Xc{p:List ai}{v:List Value}(h:ds w Z p v):ds w' bn p v:=HO ax p v (vg p) h
theorem HR{p:List ai}{v:List Value}(h:cX w Z p v):cX w' bn p v:=y5 ax p v (vg p) h
theorem qz{p:List ai}{v:List Value}(h:jt w Z p v):jt w' bn p v:=W7 ax (vg p) h
theorem Bs{sz:Nat}{p:List ai}{v:List Value}(h:dB w Z sz p v):dB w' bn sz p v:=HL ax sz p v (vg p) h
end
end
section
open Go Go.RowKit
def get(k:Nat):List (Nat×ai)->ai
 |[]=>.junk
 |(i,p)::r=>if i=k then p else get k r
def put(k:Nat)(p:ai):List (Nat×ai)->List (Nat×ai)
 |[]=>[(k,p)]
 |(i,q)::r=>if i=k then(i,p)::r else(i,q)::put k p r
def look{α:Type}(k:aL):List (aL×α)->Option α
 |[]=>none
 |(i,p)::r=>if i=k then some p else look k r
def cA{α:Type}(k:aL)(p:α):List (aL×α)->List (aL×α)
 |[]=>[(k,p)]
 |(i,q)::r=>if i=k then(i,p)::r else(i,q)::cA k p r
theorem pH(k j:Nat)(p:ai):∀l,get j (put k p l)=if k=j then p else get j l
 |[]=>by simp[get,put]
 |(i,q)::r=>by
  by_cases h:i=k
  ·subst h;by_cases U:i=j<;>simp[get,put,U]
  ·by_cases U:i=j
   ·subst U;simp[get,put,h,ld h]
   ·simp[get,put,h,U,pH k j p r]
theorem ja{α:Type}(k j:aL)(p:α):∀l,look j (cA k p l)=if k=j then some p else look j l
 |[]=>by simp[look,cA]
 |(i,q)::r=>by
  by_cases h:i=k
  ·subst h;by_cases U:i=j<;>simp[look,cA,U]
  ·by_cases U:i=j
   ·subst U;simp[look,cA,h,ld h]
   ·simp[look,cA,h,U,ja k j p r]
structure fN where
 n:Nat
 el:Nat
 sz:Nat
 xs:Option (List ai)
def Nf(w:World)(Z:bc)(o:fN)(v:Value)(us:List Value):Prop:=∀xs,o.xs=some xs->xs.length=o.n/\dB w Z o.sz xs us/\∀bl,v.ownBlock=some bl->∀j,¬Z.A bl j
theorem sG{w w':World}{Z bn:bc}(ax:lF w Z w' bn){o:fN}{v:Value}{us:List Value}(bg:∀bl,v.ownBlock=some bl->∀j,bn.A bl j->Z.A bl j)(h:Nf w Z o v us):Nf w' bn o v us:=fun xs ae=>⟨(h xs ae).1,Bs ax (h xs ae).2.1,fun bl ab j af=>(h xs ae).2.2 bl ab j (bg bl ab j af)⟩
def dV(S:aL->Prop)(o:fN):Prop:= ∀xs,o.xs=some xs->aP S xs
structure bm where
 t:List (Nat×ai)
 b:List (aL×List ai)
 e:List (aL×fN)
 n:Nat
 o:List aL
def fresh(n:Nat)(o:List aL)(k:aL):Prop:=(match k with| .loc m=>n<=m| .obj _=>True)/\k∉o
theorem J7{n n':Nat}{o o':List aL}(ay:n<=n')(ax:∀k∈o,k∈o'){k:aL}(h:fresh n' o' k):fresh n o k:=by unfold fresh at h⊢;exact⟨by cases k<;>simp at h⊢;omega,fun ad=>h.2 (ax k ad)⟩
def NM(Z:bc)(b:List (aL×List ai))(e:List (aL×fN))(bl:Nat):Prop:=(∃k,(look k b).isSome/\Z.bx k=some bl)\/(∃g n v,(look g e).isSome/\Z.ow g=some (n,v)/\v.ownBlock=some bl)
structure Good (pr:Nat->Prop) (w:World) (Z:bc) (b:List (aL×List ai)) (e:List (aL×fN)):Prop where
 alt:∀bl o,Z.A bl o->bl<w.heap.size
 box:∀k cs,look k b=some cs->∃bl us el,Z.bx k=some bl/\pr bl/\(∀o,¬Z.A bl o)/\w.heap[bl]? =some (j0 cs us el)/\jt w Z cs us.toList
 inj:∀k bI bl,(look k b).isSome->(look bI b).isSome->Z.bx k=some bl->Z.bx bI=some bl->k=bI
 own:∀g o,look g e=some o->∃v us,Z.ow g=some (o.n,v)/\w.ownsRow 0 o.el o.sz v o.n us/\(∀bl,v.ownBlock=some bl->pr bl/\(∀j,Z.A bl j->j<o.n*o.sz))/\Nf w Z o v us
 oinj:∀g ff n n' v v' bl,(look g e).isSome->(look ff e).isSome->Z.ow g=some (n,v)->Z.ow ff=some (n',v')->v.ownBlock=some bl->v'.ownBlock=some bl->g=ff
 obx:∀g k n v bl,(look g e).isSome->(look k b).isSome->Z.ow g=some (n,v)->v.ownBlock=some bl->Z.bx k=some bl->eW
 one:∀k,Z.bx k=none\/Z.ow k=none
 otr:∀bl,NM Z b e bl->∀k j,¬Z.tr k j bl
structure fj where
 w0:World
 Z0:bc
 mt:Nat->Prop
 N:Nat
 ob:List aL
def fj.pr(C:fj)(bl:Nat):Prop:=C.mt bl\/C.w0.heap.size<=bl
def ali:aL:= .obj 990001
def gb:aL:= .obj 990002
structure qI (C:fj) (w:World) (Z:bc):Prop where
 os:w.os=C.w0.os
 tape:w.tape=C.w0.tape
 output:w.output=C.w0.output
 size:C.w0.heap.size<=w.heap.size
 block:∀k,k<C.w0.heap.size->¬C.mt k->w.heap[k]? =C.w0.heap[k]?
 keep:∀b o,C.Z0.A b o->Z.A b o/\w.cell? ⟨b,o,none⟩=C.w0.cell? ⟨b,o,none⟩
 fresh:∀b o,Z.A b o->C.Z0.A b o\/C.pr b
 obj:∀n b,C.Z0.bx (.obj n)=some b->Z.bx (.obj n)=some b
 obn:∀n b,C.Z0.bx (.obj n)=some b-> .obj n∈C.ob
 row:∀m n u,C.Z0.ow (.obj m)=some (n,u)->∃n' fa,Z.ow (.obj m)=some (n',fa)/\(n'=n/\fa=u\/n<n')
 obr:∀m n u,C.Z0.ow (.obj m)=some (n,u)-> .obj m∈C.ob
 trd:∀k j bI dD b,Z.tr k j b->Z.tr bI dD b->k=bI/\j=dD
 trb:∀k j b,Z.tr k j b->(k=ali\/C.w0.heap.size<=b)/\b<w.heap.size
 trn:∀k j b,Z.tr k j b->Z.bx k=none/\Z.ow k=none
 sh:∀b o,C.Z0.A b o->shape w b=shape C.w0 b
theorem Ec{Z bn:bc}{g:aL}{n:Nat}{u:Value}(h:∃n' fa,Z.ow g=some (n',fa)/\(n'=n/\fa=u\/n<n'))(ax:∀n u,Z.ow g=some (n,u)->∃n' fa,bn.ow g=some (n',fa)/\(n'=n/\fa=u\/n<n')):
  ∃n' fa,bn.ow g=some (n',fa)/\(n'=n/\fa=u\/n<n'):=by
 obtain⟨iw,jf,ao,aF⟩:=h;obtain⟨gp,jJ,f1,f2⟩:=ax iw jf ao;refine⟨gp,jJ,f1,?_⟩;rcases aF with⟨rfl,rfl⟩|aF
 ·exact f2
 ·rcases f2 with⟨rfl,rfl⟩|f2
  ·exact .inr aF
  ·exact .inr Ω
structure cZ (C:fj) (st:bm) (a:Act) (w:World) (Z:bc):Prop where
 good:Good C.pr w Z st.b st.e
 fr:qI C w Z
 defers:a.defers=[]
 size:a.tmps.size=C.N
 slot:∀i,bd w Z (get i st.t) (a.tmps.getD i undef)
 new:∀k,fresh st.n st.o k->Z.bx k=none/\Z.ow k=none/\∀j b,¬Z.tr k j b
def eR(d:Option Nat)(p:ai)(t:List (Nat×ai)):List (Nat×ai):=
 match d with
 |some d=>put d p t
 |none=>t
def jz(N:Nat)(d:Option Nat):Bool:=match d with|some d=>decide (d<N)|none=>true
theorem cZ.put{C:fj}{st:bm}{a:Act}{w:World}{Z:bc}(h:cZ C st a w Z){d:Option Nat}(aN:jz C.N d=true){p:ai}{v:Value}(bK:bd w Z p v):
  cZ C {st with t:=eR d p st.t} (a.put d v) w Z:=by
 cases d with
 |none=>exact h
 |some d=>
  have bs:d<a.tmps.size:=by rw[h.size];simpa[jz]using aN
  refine⟨h.good,h.fr,h.defers,by simpa[Act.put]using h.size,fun i=>?_,h.new⟩;simp only[eR,pH];by_cases e:d=i
  ·subst e;simpa[Act.put,Array.getD_eq_getD_getElem?,bs]using bK
  ·have:=h.slot i;simpa[e,Act.put,Array.getD_eq_getD_getElem?,Array.getElem?_setIfInBounds_ne e]using this
theorem cZ.over{C:fj}{st st':bm}{a:Act}{w w':World}{Z bn:bc}(h:cZ C st a w Z)(ax:lF w Z w' bn)(aM:st'.t=st.t)(aX:Good C.pr w' bn st'.b st'.e)(aR:qI C w' bn)
  (ay:∀k,fresh st'.n st'.o k->bn.bx k=none/\bn.ow k=none/\∀j b,¬bn.tr k j b):cZ C st' a w' bn:=
 ⟨aX,aR,h.defers,h.size,fun i=>by rw[aM];exact y6 ax (h.slot i),ay⟩
inductive dt where
 |t (i:Nat)
 |c (p:ai)
 deriving Inhabited
def ct(t:List (Nat×ai)):dt->ai
 | .t i=>get i t
 | .c p=>p
def Fa:ai->Value->Bool
 | .int k n,.int bI n'=>decide (k=bI/\n=n')
 | .bool b,.bool b0=>b==b0
 | .str s,.string l=>decide (l.data.toList=s/\s.length<=lim)
 | .slice _ .nil [],.slice none 0 0=>true
 | .nilp,.pointer none=>true
 | .tuple [],.tuple ⟨[]⟩=>true
 | .func f [],.func (.func g) ⟨[]⟩ ⟨[]⟩=>f==g
 | .junk,_=>true
 |_,_=>false
theorem Pe(w:World)(Z:bc){p:ai}{v:Value}(h:Fa p v=true):bd w Z p v:=by
 unfold Fa at h;split at h
 ·simp at h;obtain⟨rfl,rfl⟩:=h;simp[bd]
 ·simp at h;subst h;simp[bd]
 ·rename_i s l;simp at h;obtain⟨J,U⟩:=h;refine⟨?_,U⟩;subst J;simp
 ·simp only[bd];refine⟨⟨none,0,rfl,Ψ,Ψ,Ψ⟩,Ψ,(fun _ h=>by cases h),(fun _ _ h=>by cases h),(fun _ h=>by cases h)⟩
 ·simp[bd]
 ·simp[bd,cX]
 ·simp at h;subst h;simp[bd,cX]
 ·simp[bd]
 ·cases h
def zB:List ai->List Value->Bool
 |[],[]=>true
 |p::cH,v::ba=>Fa p v&&v.oneCell'&&zB cH ba
 |_,_=>false
def zA:ai->Value->Bool
 | .agg cs,.agg us=>zB cs us.toList
 |p,v=>Fa p v
theorem Pf(w:World)(Z:bc):∀(cH:List ai) (ba:List Value),zB cH ba=true->ds w Z cH ba
 |[],[],_=>by simp[ds]
 |[],_::_,h=>by simp[zB]at h
 |_::_,[],h=>by simp[zB]at h
 |p::cH,v::ba,h=>by simp only[zB,cE]at h;simp only[ds];exact⟨v,ba,rfl,⟨Pe w Z h.1.1,h.1.2⟩,Pf w Z cH ba h.2⟩
theorem I8(w:World)(Z:bc){p:ai}{v:Value}(h:zA p v=true):bd w Z p v:=by
 unfold zA at h;split at h
 ·simp only[bd];exact⟨_,rfl,Pf w Z _ _ h⟩
 ·exact Pe w Z h
def ef:dt->Operand->Bool
 | .t i,.tmp j=>i==j
 | .c p,.const v=>zA p v
 | .c (.func f []),.func g=>f==g
 |_,_=>false
theorem eg{C:fj}{st:bm}{a:Act}{w:World}{Z:bc}(h:cZ C st a w Z){x:dt}{o:Operand}(ae:ef x o=true):bd w Z (ct st.t x) (a.eval o):=by
 unfold ef at ae;split at ae
 ·simp at ae;subst ae;simpa[ct,Act.eval]using h.slot _
 ·simpa[ct,Act.eval]using I8 w Z ae
 ·simp at ae;subst ae;simp[ct,Act.eval,bd,cX]
 ·cases ae
inductive BY where
 |int (k:IntKind)
 |bool
 |str
 |slice (e:Nat)
 |struct (dO:List (Nat×Nat))
 |map (k e:Nat)
 |other
 deriving mA
structure dz where
 size:Nat
 bytes:Nat
 kind:BY
 zero:ai
def BY.isAgg:BY->Bool
 | .struct _=>true
 |_=>false
def BR:List ai->List Value->Bool
 |[],[]=>true
 |p::cH,v::ba=>zA p v&&v.oneCell'&&BR cH ba
 |_,_=>false
def zp:ai->Value->Bool
 | .agg cs,.agg us=>BR cs us.toList
 | .agg _,_=>false
 |p,v=>zA p v&&v.oneCell'
def kr:BY->TypeDesc->Bool
 | .int k,.int bI=>decide (k=bI)
 | .bool,.bool=>true
 | .str,.string=>true
 | .slice e,.slice fo=>e==fo
 | .struct dO,.struct gs=>decide (gs.toList.map (fun f=>(f.offset,f.type))=dO)
 | .map k e,.map bI fo=>k==bI&&e==fo
 | .other,d=>match d with| .struct _| .array _ _| .int _| .bool| .string| .slice _=>false|_=>true
 |_,_=>false
def Sa(P:cL)(gs:Array Field):Bool:=gs.toList.all fun f=>match P.underlying f.type with|some (.int _)=>true|some .string=>true|_=>false
def Rl(P:cL)(t:Nat)(gs:Array Field):Bool:=gs.toList.all (fun f=>f.name != "_")&& !P.stoodInHeld t&& !P.eqGuardType P.depth t
def Jv(P:cL)(t:Nat):TypeDesc->Bool
 | .struct gs=> !Sa P gs||Rl P t gs
 |_=>true
def NP(P:cL)(t:Nat)(f:dz):Bool:=
 match P.info? t,P.underlying t with
 |some i,some d=>Jv P t d&&i.size==f.size&&i.bytes==f.bytes&&kr f.kind d&&(match i.zero with|some z=>zp f.zero z&&z.cells.size==f.size|none=>false)
 |_,_=>false
def fI(P:cL)(bC:List (Nat×dz)):Bool:=bC.all fun x=>NP P x.1 x.2
def eb(bC:List (Nat×dz))(t:Nat):Option dz:=(bC.find? fun x=>x.1==t).map (·.2)
theorem al5{P:cL}{bC:List (Nat×dz)}(h:fI P bC=true){t:Nat}{f:dz}(aR:eb bC t=some f):NP P t f=true:=by
 unfold eb at aR;cases ae:bC.find? fun x=>x.1==t with
 |none=>simp[ae]at aR
 |some x=>simp[ae]at aR;have J:=List.find?_some ae;simp at J;have U:=List.mem_of_find?_eq_some ae;have ar:=fM.1 h x U;rw[<-aR,<-J];exact ar
structure Y7 (P:cL) (t:Nat) (f:dz):Prop where
 cmp:∀d,P.underlying t=some d->Jv P t d=true
 ex:∃i d z,P.info? t=some i/\P.underlying t=some d/\i.size=f.size/\i.bytes=f.bytes/\kr f.kind d=true/\i.zero=some z/\zp f.zero z=true/\z.cells.size=f.size
theorem vL{P:cL}{bC:List (Nat×dz)}(h:fI P bC=true){t:Nat}{f:dz}(aR:eb bC t=some f):Y7 P t f:=by
 have h:=al5 h aR;unfold NP at h;split at h
 ·rename_i i d J U;simp only[cE,dL]at h;obtain⟨⟨⟨⟨bE,ar⟩,a8⟩,b8⟩,de⟩:=h;split at de
  ·rename_i z bf;simp only[cE,dL]at de;exact⟨fun cl lp=>by rw[U]at lp;cases lp;exact bE,i,d,z,J,U,ar,a8,b8,bf,de.1,de.2⟩
  ·cases de
 ·cases h
theorem ps(b o j:Nat):(⟨b,o,none⟩:Addr).add j=⟨b,o+j,none⟩:=by
 unfold Addr.add;split
 ·rename_i h;subst h;rfl
 ·rfl
theorem Oq(w:World)(Z:bc):∀(cH:List ai) (ba:List Value),BR cH ba=true->ds w Z cH ba
 |[],[],_=>by simp[ds]
 |[],_::_,h=>by simp[BR]at h
 |_::_,[],h=>by simp[BR]at h
 |p::cH,v::ba,h=>by simp only[BR,cE]at h;simp only[ds];exact⟨v,ba,rfl,⟨I8 w Z h.1.1,h.1.2⟩,Oq w Z cH ba h.2⟩
def cells:ai->List ai
 | .agg cs=>cs
 |p=>[p]
def eO:ai->Bool
 | .junk| .tuple _=>false
 | .cst (.slice _ _ _)| .cst (.string _)=>true
 | .cst _=>false
 |_=>true
theorem Nc{w:World}{Z:bc}{p:ai}{v:Value}(h:bd w Z p v)(ag:eO p=true)(bk:∀cs,p≠ .agg cs):v.oneCell'=true/\v.cells= #[v]:=by
 cases p<;>simp only[bd,eO]at h ag;case junk=>cases ag
 case tuple=>cases ag
 case cst c=>subst h;cases v<;>first|exact⟨rfl,rfl⟩|cases ag
 case agg cs=>exact absurd rfl (bk cs)
 case int=>subst h;exact⟨rfl,rfl⟩
 case bool=>subst h;exact⟨rfl,rfl⟩
 case str=>rw[h.1];exact⟨rfl,rfl⟩
 case slice=>obtain⟨⟨a,cap,J,_⟩,_⟩:=h;subst J;exact⟨rfl,rfl⟩
 case ptr=>obtain⟨b,_,J⟩:=h;subst J;exact⟨rfl,rfl⟩
 case eptr=>obtain⟨b,o,u,J,_⟩:=h;subst J;exact⟨rfl,rfl⟩
 case iface=>obtain⟨u,J,_⟩:=h;subst J;exact⟨rfl,rfl⟩
 case nilp=>subst h;exact⟨rfl,rfl⟩
 case func=>obtain⟨us,J,_⟩:=h;subst J;exact⟨rfl,rfl⟩
 case gmap=>obtain⟨b,_,J⟩:=h;subst J;exact⟨rfl,rfl⟩
 case row=>obtain⟨⟨a,cap,J⟩,_⟩:=h;subst J;exact⟨rfl,rfl⟩
 case rptr=>obtain⟨⟨a,o,J⟩,_⟩:=h;subst J;exact⟨rfl,rfl⟩
theorem vA{w:World}{Z:bc}{p:ai}{v:Value}(h:bd w Z p v)(ag:eO p=true):ds w Z (cells p) v.cells.toList:=by
 by_cases bk:∃cs,p= .agg cs
 ·obtain⟨cs,rfl⟩:=bk;simp only[bd]at h;obtain⟨us,rfl,U⟩:=h;simpa[cells,pe]using U
 ·have nz:∀cs,p≠ .agg cs:=fun cs e=>bk ⟨cs,e⟩;obtain⟨J,U⟩:=Nc h ag nz;have aq:cells p=[p]:=by cases p<;>first|rfl|exact absurd rfl (nz _)
  rw[aq,U];simp only[ds];exact⟨v,[],rfl,⟨h,J⟩,rfl⟩
theorem Bu{w:World}{Z:bc}:∀{cH:List ai} {ba:List Value},ds w Z cH ba->∀c∈ba,c.oneCell'=true
 |[],ba,h=>by simp only[ds]at h;subst h;simp
 |p::cH,ba,h=>by
  simp only[ds]at h;obtain⟨u,cm,rfl,J,U⟩:=h;intro c aq;rcases fD.1 aq with rfl|aq
  ·exact J.2
  ·exact Bu U c aq
theorem pW{w:World}{Z:bc}:∀{cH:List ai} {ba:List Value},ds w Z cH ba->ba.length=cH.length
 |[],ba,h=>by simp only[ds]at h;subst h;rfl
 |p::cH,ba,h=>by simp only[ds]at h;obtain⟨u,cm,rfl,_,U⟩:=h;simp[pW U]
theorem Bt{w:World}{Z:bc}:∀(n:Nat) {cH:List ai} {ba:List Value},ds w Z cH ba->ds w Z (cH.drop n) (ba.drop n)
 |0,_,_,h=>by simpa using h
 |n+1,[],ba,h=>by simp only[ds]at h;subst h;simp[ds]
 |n+1,p::cH,ba,h=>by simp only[ds]at h;obtain⟨u,cm,rfl,_,U⟩:=h;simpa using Bt n U
theorem D8{w:World}{Z:bc}:∀(n:Nat) {cH:List ai} {ba:List Value},ds w Z cH ba->ds w Z (cH.take n) (ba.take n)
 |0,_,_,_=>by simp[ds]
 |n+1,[],ba,h=>by simp only[ds]at h;subst h;simp[ds]
 |n+1,p::cH,ba,h=>by simp only[ds]at h;obtain⟨u,cm,rfl,J,U⟩:=h;simp only[List.take_succ_cons,ds];exact⟨u,_,rfl,J,D8 n U⟩
theorem y4{w:World}{Z:bc}:∀{cH bN:List ai} {ba us:List Value},ds w Z cH ba->ds w Z bN us->ds w Z (cH++bN) (ba++us)
 |[],bN,ba,us,h,b4=>by simp only[ds]at h;subst h;simpa using b4
 |p::cH,bN,ba,us,h,b4=>by simp only[ds]at h;obtain⟨u,cm,rfl,J,U⟩:=h;simp only[bO,ds];exact⟨u,_,rfl,J,y4 U b4⟩
theorem D7{w:World}{Z:bc}:∀(n:Nat) {cH:List ai} {ba:List Value} {p:ai},ds w Z cH ba->cH[n]? =some p->∃v,ba[n]? =some v/\bd w Z p v/\v.oneCell'=true
 |n,[],_,p,_,bK=>by simp at bK
 |0,q::cH,ba,p,h,bK=>by simp only[ds]at h;obtain⟨u,cm,rfl,J,_⟩:=h;simp at bK;subst bK;exact⟨u,rfl,J.1,J.2⟩
 |n+1,q::cH,ba,p,h,bK=>by simp only[ds]at h;obtain⟨u,cm,rfl,_,U⟩:=h;simpa using D7 n U (by simpa using bK)
theorem HP{w:World}{Z:bc}:∀(n:Nat) {cH:List ai} {ba:List Value} {p:ai},cX w Z cH ba->cH[n]? =some p->∃v,ba[n]? =some v/\bd w Z p v
 |n,[],_,p,_,bK=>by simp at bK
 |0,q::cH,ba,p,h,bK=>by simp only[cX]at h;obtain⟨u,cm,rfl,J,_⟩:=h;simp at bK;subst bK;exact⟨u,rfl,J⟩
 |n+1,q::cH,ba,p,h,bK=>by simp only[cX]at h;obtain⟨u,cm,rfl,_,U⟩:=h;simpa using HP n U (by simpa using bK)
theorem vk{w:World}{A:Nat->Nat->Prop}{b:Nat}:∀{us:List Value} {off j:Nat} {u:Value},lV w A b off us->us[j]? =some u->A b (off+j)/\w.cell? ⟨b,off+j,none⟩=some u
 |[],_,_,_,_,h=>by simp at h
 |x::us,off,0,u,av,h=>by simp at h;subst h;exact av.1
 |x::us,off,j+1,u,av,h=>by have:=vk (j:=j) av.2 (by simpa using h);rwa[show off+1+j=off+(j+1)from by omega]at this
theorem GL{w:World}{A:Nat->Nat->Prop}{b:Nat}:∀(n:Nat) {us:List Value} {off:Nat},lV w A b off us->lV w A b (off+n) (us.drop n)
 |0,_,_,h=>by simpa using h
 |n+1,[],_,_=>by simp[lV]
 |n+1,x::us,off,h=>by have:=GL n h.2;rw[show off+(n+1)=off+1+n from by omega];simpa using this
theorem GN{w:World}{A:Nat->Nat->Prop}{b:Nat}:∀(n:Nat) {us:List Value} {off:Nat},lV w A b off us->lV w A b off (us.take n)
 |0,_,_,_=>by simp[lV]
 |n+1,[],_,_=>by simp[lV]
 |n+1,x::us,off,h=>by simp only[List.take_succ_cons];exact⟨h.1,GN n h.2⟩
theorem alb{P:cL}{w:World}{A:Nat->Nat->Prop}{b off:Nat}{us:List Value}(h:lV w A b off us):(loadCells ⟨b,off,none⟩ us.length).run P w= .ok us.toArray w:=run_loadCells_list w _ us fun j v af=>by rw[ps];exact(vk h af).2
theorem ala{P:cL}{w:World}{b off n:Nat}{us:Array Value}{el:gP}{fr:Nat×Nat}(h:w.heap[b]? =some (.cells us el fr))(ay:off+n<=us.size):
  (loadCells ⟨b,off,none⟩ n).run P w= .ok ((us.toList.drop off).take n).toArray w:=by
 have av:((us.toList.drop off).take n).length=n:=by simp;omega
 have:=run_loadCells_list (P:=P) w ⟨b,off,none⟩ ((us.toList.drop off).take n) fun j v af=>by
  rw[ps];have ae5:j<n:=by have:=(fb.1 af).1;omega
  simp only[World.cell?,h,lD,gO,if_false];rw[List.getElem?_take]at af;simpa[ae5]using af
 rw[av]at this;exact this
theorem RB{α:Type}(l r:List α)(n sz:Nat)(h:l.length=sz):(l++r).drop ((n+1)*sz)=r.drop (n*sz):=by
 have e:(n+1)*sz=l.length+n*sz:=by rw[h,Nat.succ_mul,Nat.add_comm]
 rw[e,<-List.drop_drop];simp
theorem XG{α:Type}(l r:List α)(n sz:Nat)(h:l.length=sz):(l++r).take ((n+1)*sz)=l++r.take (n*sz):=by
 have e:(n+1)*sz=l.length+n*sz:=by rw[h,Nat.succ_mul,Nat.add_comm]
 rw[e,List.take_length_add_append]
theorem HK{w:World}{Z:bc}{sz:Nat}:∀(i:Nat) {xs:List ai} {us:List Value} {p:ai},dB w Z sz xs us->xs[i]? =some p->
  ∃u,bd w Z p u/\u.cells.size=sz/\u.cells.toList=(us.drop (i*sz)).take sz
 |i,[],_,p,_,bK=>by simp at bK
 |0,x::xs,us,p,h,bK=>by
  simp only[dB]at h;obtain⟨u,cm,rfl,⟨J,U,ar⟩,_⟩:=h;simp at bK;subst bK;refine⟨u,J,U,?_⟩;have:u.cells.toList.length=sz:=by simpa using U
  simp[<-this]
 |i+1,x::xs,us,p,h,bK=>by
  simp only[dB]at h;obtain⟨u,cm,rfl,⟨_,U,_⟩,b8⟩:=h;obtain⟨v,g1,g2,g3⟩:=HK i b8 (by simpa using bK);refine⟨v,g1,g2,?_⟩;have:u.cells.toList.length=sz:=by simpa using U
  rw[g3,RB _ _ _ _ this]
theorem ub{w:World}{Z:bc}{sz:Nat}:∀{xs:List ai} {us:List Value},dB w Z sz xs us->us.length=xs.length*sz
 |[],us,h=>by simp only[dB]at h;subst h;simp
 |x::xs,us,h=>by
  simp only[dB]at h;obtain⟨u,cm,rfl,⟨_,U,_⟩,b8⟩:=h;have:u.cells.toList.length=sz:=by simpa using U
  rw[pf,this,ub b8,l5,Nat.succ_mul];omega
theorem y3{w:World}{Z:bc}{sz:Nat}:∀{xs:List ai} {us:List Value},dB w Z sz xs us->∀c∈us,c.oneCell'=true
 |[],us,h=>by simp only[dB]at h;subst h;simp
 |x::xs,us,h=>by
  simp only[dB]at h;obtain⟨u,cm,rfl,⟨_,_,ar⟩,b8⟩:=h;intro c aq;rcases ih.1 aq with aq|aq
  ·exact ar c aq
  ·exact y3 b8 c aq
theorem D6{w:World}{Z:bc}{sz:Nat}:∀{cH bN:List ai} {ba us:List Value},dB w Z sz cH ba->dB w Z sz bN us->dB w Z sz (cH++bN) (ba++us)
 |[],bN,ba,us,h,b4=>by simp only[dB]at h;subst h;simpa using b4
 |p::cH,bN,ba,us,h,b4=>by simp only[dB]at h;obtain⟨u,cm,rfl,J,U⟩:=h;simp only[bO,dB];exact⟨u,cm++us,Ψ,J,D6 U b4⟩
theorem W8{w:World}{Z:bc}{sz:Nat}:∀(n:Nat) {xs:List ai} {us:List Value},dB w Z sz xs us->dB w Z sz (xs.drop n) (us.drop (n*sz))
 |0,_,_,h=>by simpa using h
 |n+1,[],us,h=>by simp only[dB]at h;subst h;simp[dB]
 |n+1,x::xs,us,h=>by
  simp only[dB]at h;obtain⟨u,cm,rfl,⟨_,U,_⟩,b8⟩:=h;have:u.cells.toList.length=sz:=by simpa using U
  rw[RB _ _ _ _ this];simpa using W8 n b8
theorem Xb{w:World}{Z:bc}{sz:Nat}:∀(n:Nat) {xs:List ai} {us:List Value},dB w Z sz xs us->dB w Z sz (xs.take n) (us.take (n*sz))
 |0,_,_,_=>by simp[dB]
 |n+1,[],us,h=>by simp only[dB]at h;subst h;simp[dB]
 |n+1,x::xs,us,h=>by
  simp only[dB]at h;obtain⟨u,cm,rfl,⟨J,U,ar⟩,b8⟩:=h;have:u.cells.toList.length=sz:=by simpa using U
  simp only[List.take_succ_cons,dB];refine⟨u,cm.take (n*sz),?_,⟨J,U,ar⟩,Xb n b8⟩;rw[XG _ _ _ _ this]
def isAgg(sz:Nat)(p:ai):Prop:= ∃cs,p= .agg cs/\cs.length=sz
def y8(agg:Bool)(sz dK n i f:Nat):Option fN->Option (Prop×ai)
 |some ⟨n',_,ju,some xs⟩=>if n'=n/\ju=dK then
   (match xs[i]? with
    |some p=>if agg then some (eO p=true/\f+sz<=(cells p).length,.agg (((cells p).drop f).take sz))else((cells p)[f]?).map fun q=>(eO p=true,q)
    |none=>none)else none
 |_=>none
def mZ(b:List (aL×List ai))(e:List (aL×fN))(agg:Bool)(sz:Nat):ai->Option (Prop×ai)
 | .rptr dK k n i f=>y8 agg sz dK n i f (look k e)
 | .ptr k off=>
  match look k b with
  |some cs=>if agg then some (hV cs=true/\off+sz<=cs.length,.agg ((cs.drop off).take sz))else(cs[off]?).map fun p=>(hV cs=true,p)
  |none=>none
 | .eptr p=>if agg then some (isAgg sz p,p)else some (eO p=true/\cells p=[p],p)
 |_=>none
def Cw(agg:Bool)(sz:Nat):ai->Option (Prop×ai)
 | .eptr p=>if agg then some (isAgg sz p,p)else some (eO p=true/\cells p=[p],p)
 |_=>none
theorem adn{b:List (aL×List ai)}{e:List (aL×fN)}{agg:Bool}{sz:Nat}{p:ai}{r:Prop×ai}(h:Cw agg sz p=some r):mZ b e agg sz p=some r:=by
 cases p<;>simp only[Cw]at h<;>first|cases h;done|skip
 simpa only[mZ]using h
theorem ag7{b:List (aL×List ai)}{e:List (aL×fN)}{agg:Bool}{sz:Nat}{p:ai}{r:Prop×ai}(h:mZ b [] agg sz p=some r):mZ b e agg sz p=some r:=by cases p<;>simp only[mZ]at h⊢ <;>first|exact h|(simp[look,y8]at h)
def qW(off:Nat)(agg:Bool)(sz:Nat):ai->Option (Prop×ai)
 | .ptr k o=>some (True,.ptr k (o+off))
 | .rptr dK k n i f=>some (True,.rptr dK k n i (f+off))
 | .eptr (.agg cs)=>if agg then some (off+sz<=cs.length,.eptr (.agg ((cs.drop off).take sz)))else(cs[off]?).map fun p=>(eO p=true/\cells p=[p],.eptr p)
 |_=>none
def uN(off:Nat)(agg:Bool)(sz:Nat):ai->Option (Prop×ai)
 | .agg cs=>if agg then some (off+sz<=cs.length,.agg ((cs.drop off).take sz))else(cs[off]?).map fun p=>(True,p)
 |_=>none
def AF(sz:Nat):ai->ai->Option (Prop×ai)
 | .slice dK _ xs,.int _ i=>if dK=sz then some (0<=i/\i<xs.length,.eptr (xs.getD i.toNat .junk))else none
 | .row dK k n,.int _ i=>if dK=sz then some (0<=i/\i<n,.rptr dK k n i.toNat 0)else none
 |_,_=>none
def H5:ai->ai->Option (Prop×ai)
 | .str s,.int _ i=>some (0<=i/\i<s.length,.int .u8 (s.getD i.toNat 0).toNat)
 |_,_=>none
def rb(Fx:Int):Option ai->Option Int
 |none=>some Fx
 |some (.int _ i)=>some i
 |_=>none
def Ib(x:ai)(lo hi:Option ai):Option (Prop×ai):=
 match x with
 | .str s=>match rb 0 lo,rb s.length hi with
  |some l,some h=>some (0<=l/\l<=h/\h<=s.length,.str ((s.take h.toNat).drop l.toNat))
  |_,_=>none
 |_=>none
def GU(sz:Nat)(x:ai)(lo hi:Option ai):Option (Prop×ai):=
 match x with
 | .slice dK _ xs=>if dK=sz then match rb 0 lo,rb xs.length hi with
  |some l,some h=>some (0<=l/\l<=h/\h<=xs.length,.slice sz .no ((xs.take h.toNat).drop l.toNat))
  |_,_=>none else none
 |_=>none
def oZ(n:Int):Prop:= -9223372036854775808<=n/\n<=9223372036854775807
def cG(op:BinOp)(wr:Bool)(k:IntKind)(a b:Int):Option (Prop×ai):=
 match op with
 | .add=>if wr then some (True,.int k (k.wrap (a+b)))else some (k= .i64/\oZ (a+b),.int .i64 (a+b))
 | .sub=>if wr then some (True,.int k (k.wrap (a-b)))else some (k= .i64/\oZ (a-b),.int .i64 (a-b))
 | .mul=>if wr then some (True,.int k (k.wrap (a*b)))else some (k= .i64/\oZ (a*b),.int .i64 (a*b))
 | .quo=>some (b≠0,.int k (k.wrap (a.tdiv b)))
 | .rem=>some (b≠0,.int k (a.tmod b))
 | .eql=>some (True,.bool (a==b))
 | .neq=>some (True,.bool (a !=b))
 | .lss=>some (True,.bool (decide (a<b)))
 | .leq=>some (True,.bool (decide (a<=b)))
 | .gtr=>some (True,.bool (decide (b<a)))
 | .geq=>some (True,.bool (decide (b<=a)))
 | .and=>some (True,.int k (k.wrap (l3 k.bits a&&& l3 k.bits b).toNat))
 | .or=>some (True,.int k (k.wrap (l3 k.bits a|||l3 k.bits b).toNat))
 | .xor=>some (True,.int k (k.wrap (l3 k.bits a ^^^ l3 k.bits b).toNat))
 |_=>none
def Ic(op:BinOp)(a b:List UInt8):Option (Prop×ai):=
 match op with
 | .add=>some (a.length+b.length<=lim,.str (a++b))
 | .eql=>some (True,.bool (a==b))
 | .neq=>some (True,.bool (!(a==b)))
 | .lss=>some (True,.bool (hE a b))
 | .leq=>some (True,.bool (hE a b||a==b))
 | .gtr=>some (True,.bool (!(hE a b||a==b)))
 | .geq=>some (True,.bool (!hE a b))
 |_=>none
def cr(op:BinOp)(wr:Bool):ai->ai->Option (Prop×ai)
 | .int k a,.int bI b=>match op with
  | .shl=>some (0<=b,.int k (k.wrap (a*2 ^ (min b.toNat k.bits))))
  | .shr=>some (0<=b,.int k (a.fdiv (2 ^ (min b.toNat k.bits))))
  |_=>if k=bI then cG op wr k a b else none
 | .str a,.str b=>Ic op a b
 |_,_=>none
def ov(cs:List ai)(off:Nat)(cH:List ai):List ai:=cs.take off++cH++cs.drop (off+cH.length)
def uG(t:List (Nat×ai)):List ai->List (Nat×Nat×dt)->Option (Prop×List ai)
 |cs,[]=>some (True,cs)
 |cs,(off,sz,x)::r=>
  let p:=ct t x
  match uG t (ov cs off (cells p)) r with
  |some (c,cs')=>some ((eO p=true/\(cells p).length=sz/\off+sz<=cs.length)/\c,cs')
  |none=>none
def Hk(c x y:ai):Option (Prop×ai):=
 match c with
 | .bool b=>match x,y with
  | .bool u,.bool v=>some (True,.bool (cond b u v))
  |p,q=>match b with
   |true=>some (True,p)
   |false=>some (True,q)
 |_=>none
def G9:ai->Option (Prop×ai)
 | .bool b=>some (True,.bool (!b))
 |_=>none
def G5:ai->Option (Prop×ai)
 | .int k n=>some (True,.int k (k.wrap (0-n)))
 |_=>none
def zP(i:Nat):ai->Option (Prop×ai)
 | .tuple ba=>(ba[i]?).map fun p=>(True,p)
 |_=>none
def AQ:ai->Option (Prop×ai)
 | .slice _ _ xs=>some (True,.int .i64 xs.length)
 | .row _ _ n=>some (True,.int .i64 n)
 | .cst (.slice _ n _)=>some (True,.int .i64 n)
 |_=>none
def Em:ai->Option (Prop×ai)
 | .str s=>some (True,.int .i64 s.length)
 | .cst (.string s)=>some (True,.int .i64 s.size)
 |_=>none
def Fu(k:IntKind):ai->Option (Prop×ai)
 | .int _ n=>some (True,.int k (k.wrap n))
 |_=>none
def A2:ai->Option (Prop×ai)
 | .ptr k o=>some (True,.ptr k o)
 | .eptr p=>some (True,.eptr p)
 | .func f cs=>some (True,.func f cs)
 |_=>none
def G3:ai->ai->Option (Prop×ai)
 | .int k a,.int bI b=>if k=bI then some (True,.int k (if b<a then b else a))else none
 |_,_=>none
def kq:List Bool->List ai->List ai->Option Bool
 |[],[],[]=>some true
 |false::r,.int k a::as,.int bI b::eT=>if k=bI then(kq r as eT).map fun q=>(a==b)&&q else none
 |true::r,.str a::as,.str b::eT=>(kq r as eT).map fun q=>(a==b)&&q
 |_,_,_=>none
inductive jO where
 |i
 |s
 |a (dO:List Bool)
 deriving mA
def q7:jO->ai->ai->Option Bool
 | .i,.int k a,.int bI b=>if k=bI then some (a==b)else none
 | .s,.str a,.str b=>some (a==b)
 | .a dO,.agg as,.agg eT=>kq dO as eT
 |_,_,_=>none
def vf:jO->ai->Bool
 | .a dO,.agg as=>(kq dO as as).isSome
 | .a _,_=>false
 |_,_=>true
@[simp]theorem Ur(k:ai):vf .i k=true:=by cases k<;>rfl
@[simp]theorem Us(k:ai):vf .s k=true:=by cases k<;>rfl
def tU(cg:jO)(k:ai):List ai->Option (Option ai)
 |bI::v::r=>match q7 cg k bI with
  |some true=>some (some v)
  |some false=>tU cg k r
  |none=>none
 |_=>some none
def nb(b:aL->Option (List ai))(cg:jO)(zero:ai)(ok:Bool)(x k:ai):Option (Prop×ai):=
 match x with
 | .gmap key=>match b key with
  |some (.hdm _ _::kvs)=>if vf cg k=false then none else match tU cg k kvs with
   |some (some v)=>some (True,if ok then .tuple [v,.bool true]else v)
   |some none=>some (True,if ok then .tuple [zero,.bool false]else zero)
   |none=>none
  |_=>none
 |_=>none
def A1(b:aL->Option (List ai))(x:ai):Option (Prop×ai):=
 match x with
 | .gmap key=>match b key with
  |some (.hdm _ borns::_)=>some (True,.int .i64 borns.length)
  |_=>none
 |_=>none
def iB(neg:Bool):Option (List Bool)->ai->ai->Option (Prop×ai)
 |none,.bool a,.bool b=>some (True,.bool (if neg then a !=b else a==b))
 |some dO,.agg as,.agg eT=>(kq dO as eT).map fun q=>(True,.bool (if neg then !q else q))
 |_,_,_=>none
def GY:ai->ai->Option (Prop×ai)
 | .int k a,.int bI b=>if k=bI then some (True,.int k (if a<b then b else a))else none
 |_,_=>none
def sw(cg:jO)(k v:ai):List ai->Option (Option (List ai))
 |bI::v'::r=>match q7 cg k bI with
  |some true=>some (some (k::v::r))
  |some false=>match sw cg k v r with
   |some (some eM)=>some (some (bI::v'::eM))
   |some none=>some none
   |none=>none
  |none=>none
 |_=>some none
def na(n:Nat):List Nat->List ai->Option ai
 |b::eT,k::v::r=>if b=n then some (.tuple [k,v])else na n eT r
 |_,_=>none
def pQ(b:aL->Option (List ai))(x:ai):Option (Prop×ai):=
 match x with
 | .ptr fp 0=>match b fp with
  |some [.hdi _ seen last,.gmap mk]=>match b mk with
   |some (.hdm clock borns::kvs)=>match seen.getLast? with
    |some n=>(na n borns kvs).map fun p=>(clock=last,p)
    |none=>none
   |_=>none
  |_=>none
 |_=>none
theorem U9{f g:aL->Option (List ai)}(h:∀k,f k≠none->g k=f k){cg:jO}{zero:ai}{ok:Bool}{x k:ai}{r:Prop×ai}(he:nb f cg zero ok x k=some r):nb g cg zero ok x k=some r:=by
 unfold nb at he⊢;split at he
 ·rename_i key;cases aR:f key with
  |none=>simp[aR]at he
  |some cs=>rw[h key (by rw[aR];simp),aR];rw[aR]at he;exact he
 ·cases he
theorem ahA{f g:aL->Option (List ai)}(h:∀k,f k≠none->g k=f k){x:ai}{r:Prop×ai}(he:A1 f x=some r):A1 g x=some r:=by
 unfold A1 at he⊢;split at he
 ·rename_i key;cases aR:f key with
  |none=>simp[aR]at he
  |some cs=>rw[h key (by rw[aR];simp),aR];rw[aR]at he;exact he
 ·cases he
theorem ahj{f g:aL->Option (List ai)}(h:∀k,f k≠none->g k=f k){x:ai}{r:Prop×ai}(he:pQ f x=some r):pQ g x=some r:=by
 unfold pQ at he⊢;split at he
 ·rename_i fp;cases aR:f fp with
  |none=>simp[aR]at he
  |some cs=>
   simp only[h fp (by rw[aR];simp),aR]at he⊢;split at he
   ·rename_i since seen last mk di;cases uX:f mk with
    |none=>simp[uX]at he
    |some eP=>simp only[h mk (by rw[uX];simp),uX]at he⊢;exact he
   ·cases he
 ·cases he
inductive fV where
 |mov (x:dt)
 |pick (c x y:dt)
 |load (agg:Bool) (sz:Nat) (x:dt)
 |faddr (off:Nat) (agg:Bool) (sz:Nat) (x:dt)
 |fld (off:Nat) (agg:Bool) (sz:Nat) (x:dt)
 |iaddr (sz:Nat) (x i:dt)
 |sidx (x i:dt)
 |ssl (x:dt) (lo hi:Option dt)
 |lsl (sz:Nat) (x:dt) (lo hi:Option dt)
 |bin (op:BinOp) (wr:Bool) (x y:dt)
 |notB (x:dt)
 |neg (x:dt)
 |conv (k:IntKind) (x:dt)
 |ext (i:Nat) (x:dt)
 |len (x:dt)
 |slen (x:dt)
 |build (zero:List ai) (parts:List (Nat×Nat×dt))
 |nck (x:dt)
 |min2 (x y:dt)
 |mkf (n:Nat) (xs:List dt)
 |mget (cg:jO) (zero:ai) (ok:Bool) (x k:dt)
 |ment (x:dt)
 |mlen (x:dt)
 |beq (neg:Bool) (dO:Option (List Bool)) (x y:dt)
 |max2 (x y:dt)
 |mkif (t:Nat) (x:dt)
 |loadB (agg:Bool) (sz:Nat) (x:dt)
 |mgetB (cg:jO) (zero:ai) (ok:Bool) (x k:dt)
 |loadZ (agg:Bool) (sz:Nat) (x:dt)
def hs(st:bm):fV->Option (Prop×ai)
 | .mov x=>some (True,ct st.t x)
 | .pick c x y=>Hk (ct st.t c) (ct st.t x) (ct st.t y)
 | .load agg sz x=>mZ st.b st.e agg sz (ct st.t x)
 | .faddr off agg sz x=>qW off agg sz (ct st.t x)
 | .fld off agg sz x=>uN off agg sz (ct st.t x)
 | .iaddr sz x i=>AF sz (ct st.t x) (ct st.t i)
 | .sidx x i=>H5 (ct st.t x) (ct st.t i)
 | .ssl x lo hi=>Ib (ct st.t x) (lo.map (ct st.t)) (hi.map (ct st.t))
 | .lsl sz x lo hi=>GU sz (ct st.t x) (lo.map (ct st.t)) (hi.map (ct st.t))
 | .bin op wr x y=>cr op wr (ct st.t x) (ct st.t y)
 | .notB x=>G9 (ct st.t x)
 | .neg x=>G5 (ct st.t x)
 | .conv k x=>Fu k (ct st.t x)
 | .ext i x=>zP i (ct st.t x)
 | .len x=>AQ (ct st.t x)
 | .slen x=>Em (ct st.t x)
 | .build zero parts=>(uG st.t zero parts).map fun(c,cs)=>(c,.agg cs)
 | .nck x=>A2 (ct st.t x)
 | .min2 x y=>G3 (ct st.t x) (ct st.t y)
 | .mkf n xs=>some (True,.func n (xs.map (ct st.t)))
 | .mget cg zero ok x k=>nb (fun k=>look k st.b) cg zero ok (ct st.t x) (ct st.t k)
 | .ment x=>pQ (fun k=>look k st.b) (ct st.t x)
 | .mlen x=>A1 (fun k=>look k st.b) (ct st.t x)
 | .beq neg dO x y=>iB neg dO (ct st.t x) (ct st.t y)
 | .max2 x y=>GY (ct st.t x) (ct st.t y)
 | .mkif t x=>some (True,.iface t (ct st.t x))
 | .loadB agg sz x=>mZ st.b [] agg sz (ct st.t x)
 | .mgetB cg zero ok x k=>nb (fun k=>look k st.b) cg zero ok (ct st.t x) (ct st.t k)
 | .loadZ agg sz x=>Cw agg sz (ct st.t x)
def Be(bC:List (Nat×dz))(dO:List (Nat×Nat)):List (Nat×Nat×dt)->List (Nat×Operand)->Bool
 |[],[]=>true
 |(off,sz,x)::r,(i,o)::s=>(match dO[i]? with|some (w3,t)=>off==w3&&((eb bC t).map (·.size))==some sz|none=>false)&&ef x o&&Be bC dO r s
 |_,_=>false
def Iw:ai->ai->Bool
 | .int k n,.int bI n'=>decide (k=bI/\n=n')
 | .bool b,.bool b0=>b==b0
 | .str [],.str []=>true
 | .slice a .nil [],.slice b .nil []=>a==b
 | .nilp,.nilp=>true
 | .junk,.junk=>true
 |_,_=>false
def zo:List ai->List ai->Bool
 |[],[]=>true
 |c::cs,d::eP=>Iw c d&&zo cs eP
 |_,_=>false
def BS:ai->ai->Bool
 | .agg cs,.agg eP=>zo cs eP
 | .agg _,_=>false
 |p,q=>Iw p q
def yV:List dt->List Operand->Bool
 |[],[]=>true
 |x::xs,o::os=>ef x o&&yV xs os
 |_,_=>false
def zW(bC:List (Nat×dz)):Nat->List Bool->List (Nat×Nat)->Bool
 |_,[],[]=>true
 |n,b::r,(off,t)::dO=>off==n&&(match eb bC t with|some ⟨_,_,.int _,_⟩=> !b|some ⟨_,_,.str,_⟩=>b|_=>false)&&zW bC (n+1) r dO
 |_,_,_=>false
def FL(bC:List (Nat×dz))(dO:List Bool)(t:Nat):Bool:=match eb bC t with
 |some ⟨_,_,.struct gs,_⟩=>zW bC 0 dO gs
 |_=>false
def yC(bC:List (Nat×dz))(cg:jO)(t:Nat):Bool:=match cg with
 | .i=>(match eb bC t with|some ⟨_,_,.int _,_⟩=>true|_=>false)
 | .s=>(match eb bC t with|some ⟨_,_,.str,_⟩=>true|_=>false)
 | .a dO=>FL bC dO t
def Ov:List ai->ai->Bool
 |cs,.agg eP=>zo cs eP
 |_,_=>false
def w5:Option dt->Option Operand->Bool
 |none,none=>true
 |some x,some o=>ef x o
 |_,_=>false
def Ey(bC:List (Nat×dz)):fV->Op->Bool
 | .mov x,.move o=>ef x o
 | .mov x,.assign o=>ef x o
 | .pick c x y,.pick cp YF YJ=>ef c cp&&ef x YF&&ef y YJ
 | .load agg sz x,.load t o=>(match eb bC t with|some f=>f.size==sz&&f.kind.isAgg==agg|none=>false)&&ef x o
 | .faddr off agg sz x,.fieldAddr s o i=>
  (match eb bC s with
   |some ⟨_,_,.struct dO,_⟩=>(match dO[i]? with|some (w3,t)=>off==w3&&(match eb bC t with|some f=>f.size==sz&&f.kind.isAgg==agg&&sz !=0|none=>false)|none=>false)
   |_=>false)&&ef x o
 | .fld off agg sz x,.field s o i=>
  (match eb bC s with
   |some ⟨_,_,.struct dO,_⟩=>(match dO[i]? with|some (w3,t)=>off==w3&&(match eb bC t with|some f=>f.size==sz&&f.kind.isAgg==agg|none=>false)|none=>false)
   |_=>false)&&ef x o
 | .iaddr sz x i,.indexAddr t o j=>(match eb bC t with|some ⟨_,_,.slice e,_⟩=>(match eb bC e with|some f=>f.size==sz|none=>false)|_=>false)&&ef x o&&ef i j
 | .sidx x i,.index t o j=>(match eb bC t with|some ⟨_,_,.str,_⟩=>true|_=>false)&&ef x o&&ef i j
 | .ssl x lo hi,.slice t o l h none=>(match eb bC t with|some ⟨_,_,.str,_⟩=>true|_=>false)&&ef x o&&w5 lo l&&w5 hi h
 | .lsl sz x lo hi,.slice t o l h none=>(match eb bC t with|some ⟨_,_,.slice e,_⟩=>(match eb bC e with|some f=>f.size==sz|none=>false)|_=>false)&&ef x o&&w5 lo l&&w5 hi h
 | .bin op _ x y,.binOp VS _ o o' _=>decide (op=VS)&&ef x o&&ef y o'
 | .notB x,.unOp op _ o=>decide (op= .not)&&ef x o
 | .neg x,.unOp op _ o=>decide (op= .neg)&&ef x o
 | .conv k x,.convert s d o=>(match eb bC s,eb bC d with|some ⟨_,_,.int _,_⟩,some ⟨_,_,.int bI,_⟩=>decide (k=bI)|_,_=>false)&&ef x o
 | .ext i x,.extract o j=>i==j&&ef x o
 | .len x,.call ⟨.builtin .len,⟨[o]⟩,⟨[t]⟩⟩=>(match eb bC t with|some ⟨_,_,.slice _,_⟩=>true|_=>false)&&ef x o
 | .slen x,.call ⟨.builtin .len,⟨[o]⟩,⟨[t]⟩⟩=>(match eb bC t with|some ⟨_,_,.str,_⟩=>true|_=>false)&&ef x o
 | .build zero parts,.build t cH=>(match eb bC t with|some ⟨_,_,.struct dO,z⟩=>Ov zero z&&(dO.all fun x=>(eb bC x.2).isSome)&&Be bC dO parts cH.toList|_=>false)
 | .nck x,.nilCheck o=>ef x o
 | .min2 x y,.call ⟨.builtin .min,⟨[o,o']⟩,⟨[_,_]⟩⟩=>ef x o&&ef y o'
 | .mkf n xs,.makeFunc (.func m) ⟨[]⟩ os=>n==m&&yV xs os.toList
 | .mget cg zero ok x k,.lookup t o o' Ha=>ok==Ha&&(match eb bC t with|some ⟨_,_,.map mY pE,_⟩=>yC bC cg mY&&(match eb bC pE with|some f=>BS zero f.zero|none=>false)|_=>false)&&ef x o&&ef k o'
 | .ment x,.entry o=>ef x o
 | .mlen x,.call ⟨.builtin .len,⟨[o]⟩,⟨[t]⟩⟩=>(match eb bC t with|some ⟨_,_,.map _ _,_⟩=>true|_=>false)&&ef x o
 | .beq neg dO x y,.binOp op t o o' _=>decide (op=if neg then .neq else .eql)&&(match dO with|none=>(match eb bC t with|some ⟨_,_,.bool,_⟩=>true|_=>false)|some dO=>FL bC dO t)&&ef x o&&ef y o'
 | .max2 x y,.call ⟨.builtin .max,⟨[o,o']⟩,⟨[_,_]⟩⟩=>ef x o&&ef y o'
 | .mkif t x,.makeInterface dE o=>t==dE&&(match eb bC t with|some ⟨_,_,.slice _,_⟩=>true|_=>false)&&ef x o
 | .loadB agg sz x,.load t o=>(match eb bC t with|some f=>f.size==sz&&f.kind.isAgg==agg|none=>false)&&ef x o
 | .loadZ agg sz x,.load t o=>(match eb bC t with|some f=>f.size==sz&&f.kind.isAgg==agg|none=>false)&&ef x o
 | .mgetB cg zero ok x k,.lookup t o o' Ha=>ok==Ha&&(match eb bC t with|some ⟨_,_,.map mY pE,_⟩=>yC bC cg mY&&(match eb bC pE with|some f=>BS zero f.zero|none=>false)|_=>false)&&ef x o&&ef k o'
 |_,_=>false
end
section
open Go Go.RowKit
theorem JN(P:cL)(w:World)(op:BinOp)(t:gP)(x y:Operand)(k bI:IntKind)(m n:Int):(eqGuard op t x y (.int k m) (.int bI n)).run P w= .ok () w:=by cases op<;>rfl
theorem aac(P:cL)(w:World)(op:BinOp)(t:gP)(x y:Operand)(m n:ByteArray):(eqGuard op t x y (.string m) (.string n)).run P w= .ok () w:=by cases op<;>rfl
theorem al7(l:List UInt8):(⟨l.toArray⟩:ByteArray).toList=l:=by simp
theorem Zq(a b:List UInt8):(⟨a.toArray⟩:ByteArray)++(⟨b.toArray⟩:ByteArray)=⟨(a++b).toArray⟩:=by apply anD;simp
theorem aa6(a:List UInt8)(l h:Nat):(⟨a.toArray⟩:ByteArray).extract l h=⟨((a.take h).drop l).toArray⟩:=by apply anD;simp[List.drop_take]
theorem El(a:List UInt8):(⟨a.toArray⟩:ByteArray).size=a.length:=by simp[arW]
section
variable {P:cL} {w:World} {r:Sem Value}
theorem rX{k:IntKind}{x:Int}(h:r.run P w= .ok (.int k x) w):∃v,r.run P w= .ok v w/\∀Z,bd w Z (.int k x) v:=⟨_,h,fun Z=>by simp[bd]⟩
theorem SD{x:Bool}(h:r.run P w= .ok (.bool x) w):∃v,r.run P w= .ok v w/\∀Z,bd w Z (.bool x) v:=⟨_,h,fun Z=>by simp[bd]⟩
end
theorem agh(P:cL)(w:World){op:BinOp}{wr:Bool}{k:IntKind}{a b:Int}{c:Prop}{p:ai}(he:cG op wr k a b=some (c,p))(aq:c)(t:gP):
  ∃v,(binOp op t (.int k a) (.int k b)).run P w= .ok v w/\∀Z,bd w Z p v:=by
 cases op<;>simp only[cG]at he;case add=>
  cases wr<;>simp only[if_true,gO,if_false]at he<;>cases he
  ·obtain⟨rfl,h⟩:=aq;exact rX (by simp[binOp,Op.intArith,mB _ h])
  ·exact rX (by simp[binOp,Op.intArith])
 case sub=>
  cases wr<;>simp only[if_true,gO,if_false]at he<;>cases he
  ·obtain⟨rfl,h⟩:=aq;exact rX (by simp[binOp,Op.intArith,mB _ h])
  ·exact rX (by simp[binOp,Op.intArith])
 case mul=>
  cases wr<;>simp only[if_true,gO,if_false]at he<;>cases he
  ·obtain⟨rfl,h⟩:=aq;exact rX (by simp[binOp,Op.intArith,mB _ h])
  ·exact rX (by simp[binOp,Op.intArith])
 case quo=>cases he;exact rX (by simp[binOp,Op.intDiv,aq])
 case rem=>cases he;exact rX (by simp[binOp,Op.intDiv,aq])
 case and=>cases he;exact rX (by simp only[binOp,Op.intBits,ne_eq,not_true_eq_false,if_false,gB])
 case or=>cases he;exact rX (by simp only[binOp,Op.intBits,ne_eq,not_true_eq_false,if_false,gB])
 case xor=>cases he;exact rX (by simp only[binOp,Op.intBits,ne_eq,not_true_eq_false,if_false,gB])
 all_goals cases he
 all_goals exact SD (by simp only[binOp,Op.intCmp,ne_eq,not_true_eq_false,if_false,gB,gt_iff_lt,ge_iff_le])
theorem alT(P:cL)(w:World){op:BinOp}{a b:List UInt8}{c:Prop}{p:ai}(he:Ic op a b=some (c,p))(aq:c)(t:gP):
  ∃v,(binOp op t (.string ⟨a.toArray⟩) (.string ⟨b.toArray⟩)).run P w= .ok v w/\∀Z,bd w Z p v:=by
 cases op<;>simp only[Ic]at he;case add=>
  cases he;refine⟨.string ⟨(a++b).toArray⟩,?_,fun Z=>by simp only[bd];exact⟨trivial,by simpa using aq⟩⟩;have J:¬(((⟨a.toArray⟩:ByteArray).size+(⟨b.toArray⟩:ByteArray).size:Nat):Int)>nk.max:=by
   have:nk.max=9223372036854775807:=by decide
   rw[this,El,El];simp only[lim]at aq;omega
  simp only[binOp,Op.stringOp,J,if_false,gB,Zq]
 all_goals cases he
 all_goals exact SD (by simp only[binOp,Op.stringOp,al7,gB])
theorem ZF(P:cL)(w:World)(Z:bc){op:BinOp}{wr:Bool}{x y:ai}{c:Prop}{p:ai}(he:cr op wr x y=some (c,p))(aq:c)(t:gP){u v:Value}(hu:bd w Z x u)(aC:bd w Z y v)(o o':Operand):
  ∃r,(do eqGuard op t o o' u v;binOp op t u v).run P w= .ok r w/\bd w Z p r:=by
 unfold cr at he;split at he
 ·rename_i k a bI b;simp only[bd]at hu aC;subst hu;subst aC;split at he
  ·cases he;refine⟨_,?_,by simp[bd];rfl⟩;simp[binOp,Op.shift,JN,Int.not_lt.2 aq]
  ·cases he;refine⟨_,?_,by simp[bd];rfl⟩;simp[binOp,Op.shift,JN,Int.not_lt.2 aq]
  ·split at he
   ·rename_i ad;subst ad;obtain⟨r,J,U⟩:=agh P w he aq t;exact⟨r,by simp[JN,J],U Z⟩
   ·cases he
 ·simp only[bd]at hu aC;rw[hu.1,aC.1];obtain⟨r,J,U⟩:=alT P w he aq t;exact⟨r,by simp[aac,J],U Z⟩
 ·cases he
theorem J3{w:World}{Z:bc}:∀(v:List Value) (i off:Nat) (cs:Array Value),off+i+v.length<=cs.size->
  ((v.zipIdx i).foldl (fun cs (x:Value×Nat)=>cs.setIfInBounds (off+x.2) x.1) cs).toList=cs.toList.take (off+i)++v++cs.toList.drop (off+i+v.length)
 |[],i,off,cs,_=>by simp
 |u::v,i,off,cs,h=>by
  simp only[List.zipIdx_cons,List.foldl_cons];rw[J3 (w:=w) (Z:=Z) v (i+1) off _ (by simp at h⊢;omega)];have bs:off+i<cs.toList.length:=by simp at h⊢;omega
  simp only[Array.toList_setIfInBounds];have ao:(cs.toList.set (off+i) u).take (off+(i+1))=cs.toList.take (off+i)++[u]:=by rw[show off+(i+1)=(off+i)+1 from by omega,List.take_succ_eq_append_getElem (by simpa using bs)];simp[List.take_set_of_le (eX _)]
  have aF:(cs.toList.set (off+i) u).drop (off+(i+1)+v.length)=cs.toList.drop (off+i+(u::v).length):=by rw[List.drop_set_of_lt Ω];congr 1;simp;omega
  rw[ao,aF];simp
theorem Xo{w:World}{Z:bc}{C:fj}{st:bm}{a:Act}(aJ:cZ C st a w Z){bC:List (Nat×dz)}{dO:List (Nat×Nat)}{places:List (Nat×Nat)}
  (bK:∀(i off t sz:Nat),dO[i]? =some (off,t)->(eb bC t).map (·.size)=some sz->places[i]? =some (off,sz)):
  ∀(parts:List (Nat×Nat×dt)) (cH:List (Nat×Operand)) (cs:List ai) (us:Array Value) (c:Prop) (cs':List ai),Be bC dO parts cH=true->ds w Z cs us.toList->uG st.t cs parts=some (c,cs')->c->
  ∃cm:Array Value,Instr.fill (places.toArray[·]?) us (cH.map fun(x:Nat×Operand)=>(x.1,a.eval x.2))=some cm/\ds w Z cs' cm.toList
 |[],[],cs,us,c,cs',_,h,he,aq=>by simp only[uG]at he;cases he;exact⟨us,by simp[Instr.fill],h⟩
 |[],_::_,_,_,_,_,eA,_,_,_=>by simp[Be]at eA
 |_::_,[],_,_,_,_,eA,_,_,_=>by simp[Be]at eA
 |(off,sz,x)::parts,(i,o)::cH,cs,us,c,cs',eA,h,he,aq=>by
  simp only[Be,cE]at eA;obtain⟨⟨J,U⟩,ar⟩:=eA;split at J
  ·rename_i w3 t CP;simp only[cE,dL]at J;obtain⟨rfl,J⟩:=J;have tG:=bK i off t sz CP J;simp only[uG]at he;split at he
   ·rename_i cp aoG ab;cases he;obtain⟨⟨ag,av,hle⟩,hH⟩:=aq;have ae:=eg aJ U;have kI:=vA ae ag;have hlen:=pW kI;have sg:=pW h;have k6:(a.eval o).cells.size=sz:=by have:(a.eval o).cells.toList.length=(cells (ct st.t x)).length:=hlen;rw[av]at this;simpa using this
    have q3:us.size=cs.length:=by simpa using sg
    have yt:=J3 (w:=w) (Z:=Z) (a.eval o).cells.toList 0 off us (by simp[k6,q3];omega);have mR:ds w Z (ov cs off (cells (ct st.t x))) ((((a.eval o).cells.toList.zipIdx 0).foldl (fun cs (x:Value×Nat)=>cs.setIfInBounds (off+x.2) x.1) us).toList):=by rw[yt];unfold ov;refine y4 (y4 (D8 off h) kI) ?_;rw[Nat.add_zero,hlen];exact Bt _ h
    obtain⟨cm,g1,g2⟩:=Xo aJ bK parts cH _ _ cp cs' ar mR ab hH;refine⟨cm,?_,g2⟩;simp only[hk,Instr.fill,List.getElem?_toArray,tG];rw[if_neg (by simp[k6,q3];omega)];rw[<-g1];simp only[List.getElem?_toArray];congr 1;rw[<-Array.foldl_toList];simp
   ·cases he
  ·cases J
end
section
open Go Go.RowKit
theorem vK{P:cL}{bC:List (Nat×dz)}(aM:fI P bC=true){t:Nat}{f:dz}(aR:eb bC t=some f)(w:World):
  (Go.isAgg t).run P w= .ok f.kind.isAgg w/\(sizeOf t).run P w= .ok f.size w:=by
 obtain⟨i,d,z,J,U,ar,a8,b8,de,dX,ll⟩:=(vL aM aR).ex;refine⟨?_,by simp[sizeOf,typeInfo,J,ar]⟩;simp only[Go.isAgg,fL,run_underlying U,fR];cases ad:f.kind<;>rw[ad]at b8<;>cases d<;>simp[kr]at b8<;>simp[BY.isAgg]
theorem je{P:cL}{bC:List (Nat×dz)}(aM:fI P bC=true){t:Nat}{f:dz}(aR:eb bC t=some f):∃d,P.underlying t=some d/\kr f.kind d=true:=by obtain⟨i,d,z,J,U,ar,a8,b8,de,dX,ll⟩:=(vL aM aR).ex;exact⟨d,U,b8⟩
theorem tf{e:Nat}{d:TypeDesc}(h:kr (.slice e) d=true):d= .slice e:=by cases d<;>simp[kr]at h;subst h;rfl
theorem zL{d:TypeDesc}(h:kr .str d=true):d= .string:=by cases d<;>simp[kr]at h;rfl
theorem Fw{k:IntKind}{d:TypeDesc}(h:kr (.int k) d=true):d= .int k:=by cases d<;>simp[kr]at h;subst h;rfl
theorem Jz{dO:List (Nat×Nat)}{d:TypeDesc}(h:kr (.struct dO) d=true):∃gs:Array Field,d= .struct gs/\gs.toList.map (fun f=>(f.offset,f.type))=dO:=by cases d<;>simp[kr]at h;rename_i gs;exact⟨gs,rfl,by simpa using h⟩
theorem HN{w:World}{Z:bc}{cs:List ai}{us:List Value}(h:ds w Z cs us)(off sz:Nat):ds w Z ((cs.drop off).take sz) ((us.drop off).take sz):=D8 sz (Bt off h)
theorem VX{w:World}{base el sz n:Nat}{v:Value}{us:List Value}(h:w.ownsRow base el sz v n us){b:Nat}(ab:v.ownBlock=some b):∃cap,v= .slice (some ⟨b,0,none⟩) n cap:=by
 rcases h.2 with⟨rfl,_⟩|⟨g,cap,cur,rfl,_⟩
 ·simp[oD]at ab
 ·simp[oD]at ab;subst ab;exact⟨cap,rfl⟩
theorem Good.rowElem{pr:Nat->Prop}{w:World}{Z:bc}{b:List (aL×List ai)}{e:List (aL×fN)}(aX:Good pr w Z b e){k:aL}{n el sz:Nat}{xs:List ai}(ad:look k e=some ⟨n,el,sz,some xs⟩){i f:Nat}{u:Value}(ae:bd w Z (.rptr sz k n i f) u){p:ai}(bK:xs[i]? =some p):
  ∃(v:Value) (us:List Value) (fX:Nat),bd w Z p v/\v.cells.size=sz/\∃b o,u= .pointer (some ⟨b,o,none⟩)/\∀j c,v.cells.toList[f+j]? =some c->w.cell? ⟨b,o+j,none⟩=some c:=by
 simp only[bd]at ae;obtain⟨_,hi,n',fa,J,U,ar⟩:=ae;obtain⟨v,us,a6,bD,bY,c5⟩:=aX.own k _ ad;rw[J]at a6;simp only[dC,jM]at a6;obtain⟨rfl,rfl⟩:=a6;obtain⟨bl,ab,rfl⟩:=ar rfl;obtain⟨cap,rfl⟩:=VX bD ab;obtain⟨av,mR,_⟩:=c5 xs rfl;simp only at av mR;obtain⟨v,eU,fP,pU⟩:=HK i mR bK;refine⟨v,us,el,eU,fP,bl,_,rfl,fun j c af=>?_⟩;have bs:f+j<sz:=by have:=(fb.1 af).1;simp[fP]at this;exact this
 have hmul:i*sz+sz<=n'*sz:=by have:=Nat.mul_le_mul_right sz (show i+1<=n' from hi);rwa[Nat.succ_mul]at this
 have aq:=bD.cellAt (i*sz+f+j) (by show _<n'*sz;omega);rw[aq];rw[pU,List.getElem?_take,if_pos bs,List.getElem?_drop]at af;rw[<-af];congr 1;omega
theorem GS{P:cL}{bC:List (Nat×dz)}(aM:fI P bC=true){pr:Nat->Prop}{w:World}{Z:bc}{b:List (aL×List ai)}{e:List (aL×fN)}(aX:Good pr w Z b e){t:Nat}{f:dz}(aR:eb bC t=some f)
  {x:ai} {u:Value} (ae:bd w Z x u) {c:Prop} {p:ai} (he:mZ b e f.kind.isAgg f.size x=some (c,p)) (aq:c):∃v,(Instr.loadAt t u).run P w= .ok v w/\bd w Z p v:=by
 obtain⟨bk,ag⟩:=vK aM aR w;generalize FW:f.kind.isAgg=fW at*;generalize dS:f.size=sz at*;unfold mZ at he;split at he
 ·rename_i dK k n i tn;unfold y8 at he;split at he
  ·rename_i n' el ju xs ad;split at he
   ·rename_i ay;obtain⟨rfl,rfl⟩:=ay;split at he
    ·rename_i ajR afB;obtain⟨Og,us,fX,g1,g2,mM⟩:=Good.rowElem aX ad ae afB;have lu:eO ajR=true:=by
      cases fW
      ·simp only[gO,if_false,gk]at he;obtain⟨q,_,he⟩:=he;cases he;exact aq
      ·simp only[if_true]at he;cases he;exact aq.1
     have di:=vA g1 lu;cases fW
     ·simp only[gO,if_false,gk]at he;obtain⟨q,bF,he⟩:=he;cases he;obtain⟨v,f1,f2,f3⟩:=D7 tn di bF;refine⟨v,?_,f2⟩;obtain⟨b,o,rfl,mM⟩:=mM;have:=mM 0 v (by simpa using f1);simp only[Nat.add_zero]at this;simp[Instr.loadAt,Instr.sureAddr,loadVar,bk,this]
     ·simp only[if_true]at he;cases he;obtain⟨b,o,rfl,mM⟩:=mM;refine⟨.agg ((Og.cells.toList.drop tn).take sz).toArray,?_,by simp only[bd];exact⟨_,rfl,by simpa using HN di tn sz⟩⟩;have av:=pW di;have hlen:((Og.cells.toList.drop tn).take sz).length=sz:=by simp only[List.length_take,sZ];omega
      have iW:=run_loadCells_list (P:=P) w ⟨b,o,none⟩ ((Og.cells.toList.drop tn).take sz) (fun j v af=>by
       rw[ps];refine mM j v ?_;rw[List.getElem?_take]at af;split at af
       ·simpa[List.getElem?_drop]using af
       ·cases af)
      rw[hlen]at iW;simp only[Instr.loadAt,Instr.sureAddr,loadVar,fL,gB,fR,bk,if_true,ag,iW]
    ·cases he
   ·cases he
  ·cases he
 ·rename_i k off;simp only[bd]at ae;obtain⟨bl,J,rfl⟩:=ae;split at he
  ·rename_i cs ad;obtain⟨iC,us,el,g1,g2,g3,g4,g5⟩:=aX.box k cs ad;rw[J]at g1;cases g1;have tG:hV cs=true:=by
    cases fW
    ·simp only[gO,if_false,gk]at he;obtain⟨q,bF,he⟩:=he;cases he;exact aq
    ·simp only[if_true]at he;cases he;exact aq.1
   rw[vs tG]at g4;rw[vt tG]at g5;have av:=pW g5;cases fW
   ·simp only[gO,if_false,gk]at he;obtain⟨q,bF,he⟩:=he;cases he;obtain⟨v,f1,f2,f3⟩:=D7 off g5 bF;refine⟨v,?_,f2⟩;have mM:w.cell? ⟨bl,off,none⟩=some v:=by simpa[World.cell?,g4]using f1
    simp[Instr.loadAt,Instr.sureAddr,loadVar,bk,mM]
   ·simp only[if_true]at he;cases he;replace aq:=aq.2;refine⟨_,?_,by simp only[bd];exact⟨_,rfl,by simpa using HN g5 off sz⟩⟩;simp only[Instr.loadAt,Instr.sureAddr,loadVar,fL,gB,fR,bk,if_true,ag];rw[ala g4 (by simp at av;omega)];rfl
  ·cases he
 ·rename_i q;simp only[bd]at ae;obtain⟨bl,off,fa,rfl,U,ar⟩:=ae;cases fW
  ·simp only[gO,if_false]at he;cases he;obtain⟨CK,uU⟩:=aq;obtain⟨g1,g2⟩:=Nc U CK (fun cs e=>by subst e;have:=eK List.length uU;simp only[cells,l5,List.length_nil]at this;cases cs with
    |nil=>simp[cells]at uU
    |cons y ys=>simp only[cells,xE]at uU;obtain⟨ao,aF⟩:=uU;subst aF;have:=eK SizeOf.sizeOf ao;simp at this;omega)
   refine⟨fa,?_,U⟩;rw[g2]at ar;have mM:=ar.1.2;simp[Instr.loadAt,Instr.sureAddr,loadVar,bk,mM]
  ·simp only[if_true]at he;cases he;obtain⟨cs,rfl,hlen⟩:=aq;simp only[bd]at U;obtain⟨us,rfl,a8⟩:=U;refine⟨.agg us,?_,by simp only[bd];exact⟨us,rfl,a8⟩⟩;simp only[pe]at ar;have av:=pW a8;have:=alb (P:=P) ar;rw[show us.toList.length=sz from by omega]at this;simp[Instr.loadAt,Instr.sureAddr,loadVar,bk,ag,this]
 ·cases he
theorem ac7{P:cL}{bC:List (Nat×dz)}(aM:fI P bC=true){w:World}{Z:bc}{s i:Nat}{f:dz}{dO:List (Nat×Nat)}(aR:eb bC s=some f)(ad:f.kind= .struct dO){off t:Nat}{g:dz}(hi:dO[i]? =some (off,t))(aX:eb bC t=some g)(bE:g.size≠0)
  {x:ai} {u:Value} (ae:bd w Z x u) {c:Prop} {p:ai} (he:qW off g.kind.isAgg g.size x=some (c,p)) (aq:c):∃v,(Instr.fieldAt s u i).run P w= .ok v w/\bd w Z p v:=by
 obtain⟨d,aN,e2⟩:=je aM aR;rw[ad]at e2;obtain⟨gs,rfl,j7⟩:=Jz e2;have uZ:∃fd:Field,gs[i]? =some fd/\fd.offset=off/\fd.type=t:=by rw[<-j7]at hi;simp only[List.getElem?_map,gk]at hi;obtain⟨fd,J,U⟩:=hi;simp only[jM]at U;exact⟨fd,by simpa using J,U.1,U.2⟩
 obtain⟨fd,F3,ax,oV⟩:=uZ;obtain⟨bk,ag⟩:=vK aM aX w;have iW:∀b o,(Instr.fieldAt s (.pointer (some ⟨b,o,none⟩)) i).run P w= .ok (.pointer (some ⟨b,o+off,none⟩)) w:=by intro b o;simp[Instr.fieldAt,run_underlying aN,F3,Instr.sureAddr,fieldPlace,oV,ag,bE,ps,ax]
 unfold qW at he;split at he
 ·cases he;simp only[bd]at ae;obtain⟨b,J,rfl⟩:=ae;exact⟨_,iW _ _,by simp only[bd];exact⟨b,J,rfl⟩⟩
 ·cases he;simp only[bd]at ae;obtain⟨⟨b,o,rfl⟩,hi,n',fa,J,U,ar⟩:=ae;refine⟨_,iW _ _,?_⟩;simp only[bd];refine⟨⟨b,_,rfl⟩,hi,n',fa,J,U,fun e=>?_⟩;obtain⟨b0,ao,aF⟩:=ar e;simp only[ar3,dC,Addr.mk.injEq,and_true]at aF;obtain⟨rfl,rfl⟩:=aF;exact⟨b,ao,by rw[Nat.add_assoc]⟩
 ·rename_i cs;simp only[bd]at ae;obtain⟨b,o,fa,rfl,⟨us,rfl,U⟩,ar⟩:=ae;refine⟨_,iW _ _,?_⟩;simp only[pe]at ar;split at he
  ·cases he;simp only[bd];exact⟨b,o+off,.agg ((us.toList.drop off).take g.size).toArray,rfl,⟨_,rfl,by simpa using HN U off g.size⟩,by simpa[pe]using GN g.size (GL off ar)⟩
  ·simp only[gk]at he;obtain⟨q,bF,he⟩:=he;cases he;obtain⟨v,f1,f2,f3⟩:=D7 off U bF;simp only[bd];have afi:=vk ar f1;have afY:v.cells= #[v]:=by cases v<;>first|rfl|cases f3
   exact⟨b,o+off,v,rfl,f2,by rw[afY];exact⟨afi,trivial⟩⟩
 ·cases he
theorem adg{P:cL}{bC:List (Nat×dz)}(aM:fI P bC=true){w:World}{Z:bc}{s i:Nat}{f:dz}{dO:List (Nat×Nat)}(aR:eb bC s=some f)(ad:f.kind= .struct dO){off t:Nat}{g:dz}(hi:dO[i]? =some (off,t))(aX:eb bC t=some g)
  {x:ai} {u:Value} (ae:bd w Z x u) {c:Prop} {p:ai} (he:uN off g.kind.isAgg g.size x=some (c,p)) (aq:c):∃v,(Instr.field s u i).run P w= .ok v w/\bd w Z p v:=by
 obtain⟨d,aN,e2⟩:=je aM aR;rw[ad]at e2;obtain⟨gs,rfl,j7⟩:=Jz e2;have uZ:∃fd:Field,gs[i]? =some fd/\fd.offset=off/\fd.type=t:=by rw[<-j7]at hi;simp only[List.getElem?_map,gk]at hi;obtain⟨fd,J,U⟩:=hi;simp only[jM]at U;exact⟨fd,by simpa using J,U.1,U.2⟩
 obtain⟨fd,F3,ax,oV⟩:=uZ;obtain⟨bk,ag⟩:=vK aM aX w;unfold uN at he;split at he
 ·rename_i cs;simp only[bd]at ae;obtain⟨us,rfl,U⟩:=ae;generalize FW:g.kind.isAgg=fW at*;cases fW
  ·simp only[gO,if_false,gk]at he;obtain⟨q,bF,he⟩:=he;cases he;obtain⟨v,f1,f2,f3⟩:=D7 off U bF;have aa7:us[off]? =some v:=by simpa using f1
   exact⟨v,by simp[Instr.field,run_underlying aN,F3,asAgg,part,oV,bk,ax,aa7],f2⟩
  ·simp only[if_true]at he;cases he;refine⟨.agg (us.extract off (off+g.size)),by simp[Instr.field,run_underlying aN,F3,asAgg,part,oV,bk,ax,ag],?_⟩;simp only[bd];refine⟨_,rfl,?_⟩;have:=HN U off g.size;simpa[List.take_drop]using this
 ·cases he
theorem af9{P:cL}{bC:List (Nat×dz)}(aM:fI P bC=true){w:World}{Z:bc}{t e:Nat}{f g:dz}(aR:eb bC t=some f)(ad:f.kind= .slice e)(aX:eb bC e=some g)
  {x y:ai} {u v:Value} (ae:bd w Z x u) (aH:bd w Z y v) {c:Prop} {p:ai} (he:AF g.size x y=some (c,p)) (aq:c):∃r,(Instr.indexAt t u v).run P w= .ok r w/\bd w Z p r:=by
 obtain⟨d,aN,e2⟩:=je aM aR;rw[ad]at e2;obtain rfl:=tf e2;obtain⟨bk,ag⟩:=vK aM aX w;unfold AF at he;split at he
 ·rename_i dK tag xs k i;split at he
  ·rename_i dS;cases he;simp only[bd]at ae aH;subst aH;subst dS;obtain⟨⟨a,cap,rfl,J,U,ar⟩,_⟩:=ae;obtain⟨CU,mi⟩:=aq;have gH:i.toNat<xs.length:=Ω
   rcases ar with rfl|⟨b,off,us,rfl,a8,b8⟩
   ·simp at gH
   ·have ae:xs[i.toNat]? =some xs[i.toNat]:=cf gH;obtain⟨w',eU,fP,pU⟩:=HK i.toNat b8 ae;refine⟨.pointer (some ⟨b,off+i.toNat*g.size,none⟩),?_,?_⟩
    ·simp only[Instr.indexAt,asIntOf,fL,gB,fR,run_underlying aN,CU,mi,and_self,if_true,ag,ps]
    ·simp only[bd];refine⟨b,off+i.toNat*g.size,w',rfl,by simpa[List.getD,ae]using eU,?_⟩;rw[pU];exact GN g.size (GL _ a8)
  ·cases he
 ·rename_i dK k n kv i;split at he
  ·rename_i dS;cases he;simp only[bd]at ae aH;subst aH;subst dS;obtain⟨⟨b,cap,rfl⟩,U,n',fa,ar,a8,b8⟩:=ae;obtain⟨CU,mi⟩:=aq;refine⟨.pointer (some ⟨b,0+i.toNat*g.size,none⟩),?_,?_⟩
   ·simp only[Instr.indexAt,asIntOf,fL,gB,fR,run_underlying aN,CU,mi,and_self,if_true,ag,ps]
   ·simp only[bd];refine⟨⟨b,_,rfl⟩,Ω,n',fa,ar,a8,fun e=>⟨b,?_,Ψ⟩⟩;rw[<-b8 e];rfl
  ·cases he
 ·cases he
theorem He{C:fj}{st:bm}{a:Act}{w:World}{Z:bc}(h:cZ C st a w Z){x:Option dt}{o:Option Operand}(ae:w5 x o=true){Fx n:Int}(he:rb Fx (x.map (ct st.t))=some n):
  (o.map a.eval=none/\n=Fx)\/ ∃k,o.map a.eval=some (.int k n):=by
 cases x with
 |none=>cases o with
  |none=>simp[rb]at he;exact .inl ⟨rfl,he.symm⟩
  |some o=>simp[w5]at ae
 |some x=>cases o with
  |none=>simp[w5]at ae
  |some o=>
   simp only[w5]at ae
   have:=eg h ae
   simp only[oH]at he⊢
   cases uW:ct st.t x<;>simp[uW,rb]at he
   rw[uW]at this
   simp only[bd]at this
   subst he
   exact .inr ⟨_,by rw[this]⟩
theorem YL{c d:ai}(h:Iw c d=true):c=d:=by unfold Iw at h;split at h<;>simp_all
theorem Oo:∀{cs eP:List ai},zo cs eP=true->cs=eP
 |[],[],_=>rfl
 |[],_::_,h=>by simp[zo]at h
 |_::_,[],h=>by simp[zo]at h
 |c::cs,d::eP,h=>by simp only[zo,cE]at h;rw[YL h.1,Oo h.2]
theorem anB{cs:List ai}{z:ai}(h:Ov cs z=true):z= .agg cs:=by
 cases z<;>simp only[Ov]at h;case agg eP=>rw[Oo h]
 all_goals cases h
theorem aeb(s:List UInt8)(n:Nat)(h:n<s.length):(⟨s.toArray⟩:ByteArray)[n]? =some (s.getD n 0):=by
 have dS:n<(⟨s.toArray⟩:ByteArray).size:=by rw[El];exact h
 have e:(⟨s.toArray⟩:ByteArray)[n]? =some ((⟨s.toArray⟩:ByteArray)[n]'dS):=getElem?_pos (⟨s.toArray⟩:ByteArray) n dS;rw[e];congr 1;simp[List.getD,h];rfl
theorem H7(P:cL)(w:World)(k:IntKind)(i:Int)(y:Nat)(c:BoundsCode)(bE:0<=i)(J:i<=y):(Instr.sliceBound (.int k i) y c).run P w= .ok i.toNat w:=by simp[Instr.sliceBound,asIntOf,bE,J]
theorem O6(P:cL)(w:World)(agB:Bool)(len cap:Nat)(lo hi:Option Value)(l h:Int)(CW:(lo=none/\l=0)\/ ∃k,lo=some (.int k l))(CT:(hi=none/\h=len)\/ ∃k,hi=some (.int k h))
  (bE:0<=l) (J:l<=h) (U:h<=len) (aq:len<=cap):(Instr.sliceBounds agB len cap lo hi none).run P w= .ok (l.toNat,h.toNat,cap) w:=by
 rcases CW with⟨rfl,rfl⟩|⟨k,rfl⟩<;>rcases CT with⟨rfl,rfl⟩|⟨bI,rfl⟩
 ·simp[Instr.sliceBounds]
 ·simp[Instr.sliceBounds,H7 P w bI h cap _ Ω Ω]
 ·simp[Instr.sliceBounds,H7 P w k l len _ Ω Ω]
 ·simp[Instr.sliceBounds,H7 P w bI h cap _ Ω Ω,H7 P w k l h.toNat _ Ω Ω]
theorem V3{P:cL}{bC:List (Nat×dz)}(aM:fI P bC=true):∀(gs:List Field),(gs.all fun f=>(eb bC f.type).isSome)=true->
  ∃places:List (Nat×Nat),gs.mapM (fun f=>(P.info? f.type).map fun i=>(f.offset,i.size))=some places/\
   ∀(i off t sz:Nat),(gs.map (fun f=>(f.offset,f.type)))[i]? =some (off,t)->(eb bC t).map (·.size)=some sz->places[i]? =some (off,sz)
 |[],_=>⟨[],Ψ,Ψ⟩
 |f::gs,h=>by
  simp only[List.all_cons,cE]at h;obtain⟨places,J,U⟩:=V3 aM gs h.2;obtain⟨g,aX⟩:=fE.1 h.1;obtain⟨i,d,z,ao,aF,bA,dr,hX,hY,rL,rM⟩:=(vL aM aX).ex;refine⟨(f.offset,g.size)::places,by simp[List.mapM_cons,ao,bA,J],fun j off t sz af dS=>?_⟩;cases j with
  |zero=>simp only[hk,List.getElem?_cons_zero,dC,jM]at af⊢;obtain⟨rfl,rfl⟩:=af;rw[aX]at dS;simpa using dS
  |succ j=>simp only[hk,List.getElem?_cons_succ]at af⊢;exact U j off t sz af dS
theorem lA{P:cL}{w:World}{x:Sem Value}{v:Value}(h:x.run P w= .ok v w):(do pure (Next.value (<-x)):Sem Next).run P w= .ok (.value v) w:=by simp[h]
theorem Ou{p q:ai}(h:BS p q=true):p=q:=by
 unfold BS at h;split at h
 ·rw[Oo h]
 ·cases h
 ·exact YL h
theorem Ot(w:World)(Z:bc){p:ai}{v:Value}(h:zp p v=true):bd w Z p v/\ds w Z (cells p) v.cells.toList:=by
 by_cases bk:∃cs,p= .agg cs
 ·obtain⟨cs,rfl⟩:=bk;cases v<;>simp only[zp]at h;case agg us=>have:=Oq w Z _ _ h;exact⟨by simp only[bd];exact⟨us,rfl,this⟩,by simpa[cells,pe]using this⟩
  all_goals cases h
 ·have b4:zA p v=true/\v.oneCell'=true:=by cases p<;>simp only[zp,cE]at h<;>first|exact h|exact absurd ⟨_,rfl⟩ bk
  have aJ:=I8 w Z b4.1;refine⟨aJ,?_⟩;have aq:cells p=[p]:=by cases p<;>first|rfl|exact absurd ⟨_,rfl⟩ bk
  have aC:v.cells= #[v]:=by have:=b4.2;cases v<;>first|rfl|simp[Value.oneCell']at this
  rw[aq,aC];simp only[ds];exact⟨v,[],rfl,⟨aJ,b4.2⟩,rfl⟩
theorem NN{P:cL}{bC:List (Nat×dz)}(aM:fI P bC=true){t:Nat}{f:dz}(aR:eb bC t=some f)(w:World):∃z,(zeroValue t).run P w= .ok z w/\zp f.zero z=true/\z.cells.size=f.size:=by obtain⟨i,d,z,J,U,ar,a8,b8,de,dX,ll⟩:=(vL aM aR).ex;exact⟨z,by simp[zeroValue,typeInfo,J,de],dX,ll⟩
theorem D9{C:fj}{st:bm}{a:Act}{w:World}{Z:bc}(h:cZ C st a w Z):∀{xs:List dt} {os:List Operand},yV xs os=true->cX w Z (xs.map (ct st.t)) (os.map a.eval)
 |[],[],_=>by simp[cX]
 |[],_::_,ad=>by simp[yV]at ad
 |_::_,[],ad=>by simp[yV]at ad
 |x::xs,o::os,ad=>by simp only[yV,cE]at ad;simp only[hk,cX];exact⟨_,_,rfl,eg h ad.1,D9 h ad.2⟩
theorem aae{P:cL}{w:World}{t:gP}(aN:P.underlying t=some .bool)(d:Nat)(a b:Bool):(Op.equalIn (d+1) t (.bool a) (.bool b)).run P w= .ok (a==b) w:=by rw[Op.equalIn];simp only[fL,run_underlying aN,fR,gB]
theorem aaf{P:cL}{w:World}{t:gP}(aN:P.underlying t=some .bool)(a b:Bool):(Op.equal t (.bool a) (.bool b)).run P w= .ok (a==b) w:=aae aN _ a b
theorem RE:∀{borns:List Nat} {kvs:List ai} {us:List Value},kvs.length=2*borns.length->us.length=kvs.length->(fy borns us).length=borns.length
 |[],_,us,_,_=>by simp[fy]
 |b0::eT,kvs,[],J,U=>by rw[J]at U;simp at U
 |b0::eT,kvs,[_],J,U=>by rw[J]at U;simp at U;omega
 |b0::eT,kvs,k::v::us,J,U=>by simp only[fy,l5];rw[RE (kvs:=kvs.drop 2) (us:=us) (borns:=eT) (by simp at J⊢;omega) (by simp at J U⊢;omega)]
theorem Xh{w:World}{Z:bc}:∀{cH:List ai} {ba:List Value},cX w Z cH ba->ba.length=cH.length
 |[],ba,h=>by simp only[cX]at h;subst h;rfl
 |p::cH,ba,h=>by simp only[cX]at h;obtain⟨u,cm,rfl,_,U⟩:=h;simp[Xh U]
theorem vF{P:cL}{w:World}{r:Nat}{o:Obj}(ab:w.heap[r]? =some o)(ay:∀c e f,o≠ .cells c e f:=by simp):(getObj r).run P w= .ok o w:=by simp only[getObj,Sem.run,ab]
def qH(P:cL):Nat->List Bool->List Field->Prop
 |_,[],[]=>True
 |n,b::r,f::gs=>(f.offset=n/\f.name≠ "_" /\(if b=true then P.underlying f.type=some .string else∃k,P.underlying f.type=some (.int k)))/\qH P (n+1) r gs
 |_,_,_=>eW
theorem DW{P:cL}{t:gP}{b:Bool}(h:if b=true then P.underlying t=some .string else∃k,P.underlying t=some (.int k)):P.plainKey t=true:=by
 cases b
 ·obtain⟨k,h⟩:=(by simpa using h:∃k,P.underlying t=some (.int k));simp[Program.plainKey,h]
 ·have h:P.underlying t=some .string:=by simpa using h
  simp[Program.plainKey,h]
theorem ZP{P:cL}{w:World}{Z:bc}(d:Nat){X Y:Array Value}(dO:List Bool):∀(gs:List Field) (n:Nat) (as eT:List ai) (us ba:List Value) (q:Bool),qH P n dO gs->X.toList.drop n=us->Y.toList.drop n=ba->ds w Z as us->ds w Z eT ba->kq dO as eT=some q->
  (Op.eqFields (d+1) X Y gs).run P w= .ok q w/\(q=true->us=ba)/\∀m,(us.zip us).all (fun(x,y)=>Instr.sameBits m x y)=true:=by
 induction dO with
 |nil=>intro gs n as eT us ba q aX CE CF J U h;cases as<;>cases eT<;>simp only[kq,dC,reduceCtorEq]at h;cases gs<;>simp only[qH]at aX;simp only[ds]at J U;rw[J,U,<-h];exact⟨by simp[Op.eqFields],fun _=>rfl,fun m=>rfl⟩
 |cons xZ r bU=>
  intro gs n as eT us ba q aX CE CF J U h;cases gs with
  |nil=>simp only[qH]at aX
  |cons f gs=>
  simp only[qH]at aX;obtain⟨⟨Gg,C1,oV⟩,aX⟩:=aX;cases as with
  |nil=>cases xZ<;>cases eT<;>simp[kq]at h
  |cons DU as=>
  cases eT with
  |nil=>cases xZ<;>cases DU<;>simp[kq]at h
  |cons Hi eT=>
  cases xZ with
  |false=>
   have aq:∃k a b ga,DU= .int k a/\Hi= .int k b/\kq r as eT=some ga/\q=((a==b)&&ga):=by
    cases DU<;>first|(simp[kq]at h;done)|skip
    cases Hi<;>first|(simp[kq]at h;done)|skip
    simp only[kq]at h;split at h
    ·rename_i ad;subst ad;simp only[gk]at h;obtain⟨ga,ar,a8⟩:=h;exact⟨_,_,_,ga,rfl,rfl,ar,a8.symm⟩
    ·cases h
   obtain⟨k,a,b,ga,rfl,rfl,ar,rfl⟩:=aq;simp only[ds,bd]at J U;obtain⟨u,cm,rfl,⟨rfl,_⟩,J⟩:=J;obtain⟨v,vs',rfl,⟨rfl,_⟩,U⟩:=U;have DT:X[n]? =some (.int k a):=by rw[<-um,<-List.head?_drop,CE];rfl
   have Mw:Y[n]? =some (.int k b):=by rw[<-um,<-List.head?_drop,CF];rfl
   obtain⟨i1,i2,i3⟩:=bU gs (n+1) as eT cm vs' ga aX (by rw[<-List.tail_drop,CE];rfl) (by rw[<-List.tail_drop,CF];rfl) J U ar;obtain⟨kv,K9⟩:=(by simpa using oV:∃k,P.underlying f.type=some (.int k));refine⟨?_,?_,fun m=>?_⟩
   ·simp only[Op.eqFields,C1,ne_eq,not_false_eq_true,if_true,fL,Gg,run_part_plain w (DW oV) DT,run_part_plain w (DW oV) Mw,fR,run_equalIn_int w d f.type k kv a b K9];cases nA:(a==b)
    ·simp
    ·simpa using i1
   ·intro bF;simp only[cE,dL]at bF;rw[bF.1,i2 bF.2]
   ·have:=i3 m;simp only[List.zip_cons_cons,List.all_cons,this,Bool.and_true];cases m<;>simp[Instr.sameBits]
  |true=>
   have aq:∃a b ga,DU= .str a/\Hi= .str b/\kq r as eT=some ga/\q=((a==b)&&ga):=by
    cases DU<;>first|(simp[kq]at h;done)|skip
    cases Hi<;>first|(simp[kq]at h;done)|skip
    simp only[kq,gk]at h;obtain⟨ga,ar,a8⟩:=h;exact⟨_,_,ga,rfl,rfl,ar,a8.symm⟩
   obtain⟨a,b,ga,rfl,rfl,ar,rfl⟩:=aq;simp only[ds,bd]at J U;obtain⟨u,cm,rfl,⟨⟨rfl,_⟩,_⟩,J⟩:=J;obtain⟨v,vs',rfl,⟨⟨rfl,_⟩,_⟩,U⟩:=U;have DT:X[n]? =some (.string ⟨a.toArray⟩):=by rw[<-um,<-List.head?_drop,CE];rfl
   have Mw:Y[n]? =some (.string ⟨b.toArray⟩):=by rw[<-um,<-List.head?_drop,CF];rfl
   obtain⟨i1,i2,i3⟩:=bU gs (n+1) as eT cm vs' ga aX (by rw[<-List.tail_drop,CE];rfl) (by rw[<-List.tail_drop,CF];rfl) J U ar;have K9:P.underlying f.type=some .string:=by simpa using oV
   refine⟨?_,?_,fun m=>?_⟩
   ·simp only[Op.eqFields,C1,ne_eq,not_false_eq_true,if_true,fL,Gg,run_part_plain w (DW oV) DT,run_part_plain w (DW oV) Mw,fR,run_equalIn_string w d f.type _ _ K9];have e:((⟨a.toArray⟩:ByteArray).toList==(⟨b.toArray⟩:ByteArray).toList)=(a==b):=by rw[anE,anE]
    rw[e];cases nA:(a==b)
    ·simp
    ·simpa using i1
   ·intro bF;simp only[cE,dL]at bF;rw[bF.1,i2 bF.2]
   ·have:=i3 m;simp only[List.zip_cons_cons,List.all_cons,this,Bool.and_true];cases m<;>simp only[Instr.sameBits]<;>exact(MapKept.bytes_beq _ _).2 rfl
theorem R9{P:cL}{bC:List (Nat×dz)}(aM:fI P bC=true):∀(dO:List Bool) (gs:List Field) (n:Nat),zW bC n dO (gs.map fun f=>(f.offset,f.type))=true->(gs.all (fun f=>match P.underlying f.type with|some (.int _)=>true|some .string=>true|_=>false)=true)/\((∀f∈gs,f.name≠ "_")->qH P n dO gs)
 |[],[],_,_=>⟨rfl,fun _=>trivial⟩
 |[],_::_,_,h=>by simp[zW]at h
 |_::_,[],_,h=>by simp[zW]at h
 |b::r,f::gs,n,h=>by
  simp only[hk,zW,cE,dL]at h;obtain⟨⟨J,U⟩,ar⟩:=h;obtain⟨i1,i2⟩:=R9 aM r gs (n+1) ar;split at U
  ·rename_i aR;obtain⟨d,hu,aN⟩:=je aM aR;obtain rfl:=Fw aN;refine⟨by simp only[List.all_cons,hu,i1,Bool.and_self],fun ay=>⟨⟨J,ay f Ψ,?_⟩,i2 fun g aX=>ay g (by simp[aX])⟩⟩;have:b=false:=by simpa using U
   subst this;simpa using⟨_,hu⟩
  ·rename_i aR;obtain⟨d,hu,aN⟩:=je aM aR;obtain rfl:=zL aN;refine⟨by simp only[List.all_cons,hu,i1,Bool.and_self],fun ay=>⟨⟨J,ay f Ψ,?_⟩,i2 fun g aX=>ay g (by simp[aX])⟩⟩;subst U;simpa using hu
  ·cases U
theorem Sb{P:cL}{bC:List (Nat×dz)}(aM:fI P bC=true){dO:List Bool}{t:Nat}(h:FL bC dO t=true):∃gs,P.underlying t=some (.struct gs)/\qH P 0 dO gs.toList/\P.stoodInHeld t=false/\P.eqGuardType P.depth t=false:=by
 unfold FL at h;split at h
 ·rename_i aR;obtain⟨d,hu,aN⟩:=je aM aR;have aq:=(vL aM aR).cmp d hu;cases d<;>simp[kr]at aN;rename_i gs;subst aN;obtain⟨i1,i2⟩:=R9 aM dO gs.toList 0 h;have qe:Sa P gs=true:=i1;simp only[Jv,qe,Bool.not_true,Bool.false_or,Rl,cE,rC,fM,bne_iff_ne,ne_eq]at aq;exact⟨gs,hu,i2 aq.1.1,aq.1.2,aq.2⟩
 ·cases h
theorem RI{P:cL}{w:World}{Z:bc}{t:gP}{gs:Array Field}{dO:List Bool}(hu:P.underlying t=some (.struct gs))(aX:qH P 0 dO gs.toList)(da:P.stoodInHeld t=false){as eT:List ai}{X Y:Array Value}(J:ds w Z as X.toList)(U:ds w Z eT Y.toList){q:Bool}(h:kq dO as eT=some q):
  (Op.equalIn 10000 t (.agg X) (.agg Y)).run P w= .ok q w/\(q=true->X=Y)/\∀m,(X.toList.zip X.toList).all (fun(x,y)=>Instr.sameBits m x y)=true:=by
 have aR:P.fieldsOf t=gs:=by simp[Program.fieldsOf,hu]
 obtain⟨i1,i2,i3⟩:=ZP 9998 dO gs.toList 0 as eT _ _ q aX rfl rfl J U h;refine⟨?_,fun e=>?_,?_⟩
 ·rw[run_equalIn_struct w 9999 t X Y (by rw[aR];exact hu) da,aR];exact i1
 ·have:=i2 e;simpa using this
 ·simpa using i3
inductive uu (P:cL):jO->gP->Prop
 |i {t:gP} {k:IntKind}:P.underlying t=some (.int k)->uu P .i t
 |s {t:gP}:P.underlying t=some .string->uu P .s t
 |a {t:gP} {dO:List Bool} {gs:Array Field}:P.underlying t=some (.struct gs)->qH P 0 dO gs.toList->P.stoodInHeld t=false->uu P (.a dO) t
theorem Lx{P:cL}{bC:List (Nat×dz)}(aM:fI P bC=true){cg:jO}{t:Nat}(h:yC bC cg t=true):uu P cg t:=by
 cases cg with
 |i=>
  simp only[yC]at h;split at h
  ·rename_i aR;obtain⟨d,hu,aN⟩:=je aM aR;obtain rfl:=Fw aN;exact .i hu
  ·cases h
 |s=>
  simp only[yC]at h;split at h
  ·rename_i aR;obtain⟨d,hu,aN⟩:=je aM aR;obtain rfl:=zL aN;exact .s hu
  ·cases h
 |a dO=>obtain⟨gs,J,U,ar,_⟩:=Sb aM h;exact .a J U ar
def s8(P:cL)(w:World)(cg:jO)(t:gP)(hc u:Value)(b:Bool):Prop:=match cg with
 | .a _=>(Op.equal t hc u).run P w= .ok b w
 |_=> ∀d,P.underlying t=some d->Instr.sameNow d hc u=some b
def h7(P:cL)(w:World)(cg:jO)(t:gP)(hc:Value)(es:List MapEntry)(i:Nat)(r:Option (Nat×Value)):Prop:=match cg with
 | .a _=>(Instr.findAsking t hc es i).run P w= .ok r w
 |_=> ∀d,P.underlying t=some d->Instr.findNow d hc es i=some r
theorem h7.nil(P:cL)(w:World)(cg:jO)(t:gP)(hc:Value)(i:Nat):h7 P w cg t hc [] i none:=by cases cg<;>simp[h7,Instr.findAsking,Instr.findNow]
theorem h7.hit{P:cL}{w:World}{cg:jO}{t:gP}{hc:Value}{e:MapEntry}{es:List MapEntry}{i:Nat}(h:s8 P w cg t hc e.key true):h7 P w cg t hc (e::es) i (some (i,e.val)):=by
 cases cg with
 |a dO=>simp only[s8]at h;simp[h7,Instr.findAsking,h]
 |i=>simp only[s8]at h;simp only[h7];intro d aN;simp[Instr.findNow,h d aN]
 |s=>simp only[s8]at h;simp only[h7];intro d aN;simp[Instr.findNow,h d aN]
theorem h7.miss{P:cL}{w:World}{cg:jO}{t:gP}{hc:Value}{e:MapEntry}{es:List MapEntry}{i:Nat}{r:Option (Nat×Value)}(h:s8 P w cg t hc e.key false)(aJ:h7 P w cg t hc es (i+1) r):h7 P w cg t hc (e::es) i r:=by
 cases cg with
 |a dO=>simp only[s8]at h;simp only[h7]at aJ;simp[h7,Instr.findAsking,h,aJ]
 |i=>simp only[s8]at h;simp only[h7]at aJ⊢;intro d aN;simp[Instr.findNow,h d aN,aJ d aN]
 |s=>simp only[s8]at h;simp only[h7]at aJ⊢;intro d aN;simp[Instr.findNow,h d aN,aJ d aN]
theorem h7.run{P:cL}{w:World}{cg:jO}{t:gP}(aN:uu P cg t){hc:Value}{es:List MapEntry}{r:Option (Nat×Value)}(h:h7 P w cg t hc es 0 r):(Instr.findKey t hc es).run P w= .ok r w:=by
 cases aN with
 |i hu=>simp only[h7]at h;simp[Instr.findKey,run_underlying hu,h _ hu]
 |s hu=>simp only[h7]at h;simp[Instr.findKey,run_underlying hu,h _ hu]
 |a hu aX da=>
  simp only[h7]at h;cases es with
  |nil=>simp[Instr.findAsking]at h;simp[Instr.findKey,run_underlying hu,Instr.findNow,h]
  |cons e es=>
   rename_i gs;have:Instr.sameNow (.struct gs) hc e.key=none:=by cases hc<;>rfl
   simp only[Instr.findKey,fL,run_underlying hu,fR,Instr.findNow,this];exact h
theorem Uq{P:cL}{w:World}{Z:bc}{cg:jO}{t:gP}(aN:uu P cg t){k bI:ai}{hc u:Value}(ad:bd w Z k hc)(J:bd w Z bI u){bb:Bool}(ab:q7 cg k bI=some bb):
  s8 P w cg t hc u bb/\(bb=true->u=hc/\Instr.sameBits 10000 u hc=true):=by
 unfold q7 at ab;split at ab
 ·split at ab
  ·rename_i lL;subst lL;simp only[bd]at ad J;subst ad;subst J;cases aN with
   |i hu=>refine⟨fun d aN=>by rw[hu]at aN;cases aN;simpa[Instr.sameNow]using ab,fun e=>?_⟩;subst e;simp only[dC,dL]at ab;subst ab;exact⟨rfl,by simp[Instr.sameBits]⟩
  ·cases ab
 ·rename_i a b;simp only[bd]at ad J;obtain⟨rfl,_⟩:=ad;obtain⟨rfl,_⟩:=J;cases aN with
  |s hu=>
   refine⟨fun d aN=>?_,fun e=>?_⟩
   ·rw[hu]at aN;cases aN;simp only[Instr.sameNow];rw[<-ab];congr 1;rw[p1,MapKept.bytes_beq];simp
   ·subst e;simp only[dC,dL]at ab;subst ab;exact⟨rfl,by simp only[Instr.sameBits];exact(MapKept.bytes_beq _ _).2 rfl⟩
 ·simp only[bd]at ad J;obtain⟨X,rfl,ad⟩:=ad;obtain⟨Y,rfl,J⟩:=J;cases aN with
  |a hu aX da=>obtain⟨i1,i2,i3⟩:=RI hu aX da ad J ab;refine⟨by simpa[s8,Op.equal,Op.maxDepth]using i1,fun e=>?_⟩;have:=i2 e;subst this;exact⟨rfl,by simp[Instr.sameBits,i3]⟩
 ·cases ab
theorem L4{P:cL}{w:World}{Z:bc}{cg:jO}{t:gP}(aN:uu P cg t){k:ai}{hc:Value}(ad:bd w Z k hc):∀(borns:List Nat) (kvs:List ai) (us:List Value) (i:Nat) (r:Option ai),cX w Z kvs us->kvs.length=2*borns.length->tU cg k kvs=some r->
  match r with
  |none=>h7 P w cg t hc (fy borns us) i none
  |some v=> ∃j u,h7 P w cg t hc (fy borns us) i (some (j,u))/\bd w Z v u
 |[],[],us,i,r,h,_,hm=>by simp only[tU]at hm;cases hm;simp only[cX]at h;subst h;simpa[fy]using h7.nil P w cg t hc i
 |[],_::_,_,_,_,_,av,_=>by simp at av
 |b::eT,[],_,_,_,_,av,_=>by simp at av
 |b::eT,[_],_,_,_,_,av,_=>by simp at av;omega
 |b::eT,bI::v::kvs,us,i,r,h,av,hm=>by
  simp only[cX]at h;obtain⟨jf,NS,rfl,J,jJ,sS,rfl,U,ar⟩:=h;simp only[tU]at hm;simp only[fy];cases bF:q7 cg k bI with
  |none=>simp[bF]at hm
  |some bb=>
   obtain⟨s1,_⟩:=Uq aN ad J bF;simp only[bF]at hm;cases bb with
   |true=>simp only[dC]at hm;subst hm;exact⟨i,jJ,h7.hit (e:=⟨jf,jJ,b⟩) s1,U⟩
   |false=>
    simp only at hm;have bU:=L4 aN ad eT kvs sS (i+1) r ar (by simp at av;omega) hm;cases r with
    |none=>exact h7.miss (e:=⟨jf,jJ,b⟩) s1 bU
    |some v'=>obtain⟨j,u,g1,g2⟩:=bU;exact⟨j,u,h7.miss (e:=⟨jf,jJ,b⟩) s1 g1,g2⟩
theorem Ju{P:cL}{w:World}{t:Nat}{d:TypeDesc}(hu:P.underlying t=some d)(aN:(∃k,d= .int k)\/d= .string)(e:Bool)(n:Nat)(v:Value):(Instr.checkKey e (n+1) t v).run P w= .ok () w:=by unfold Instr.checkKey;rcases aN with⟨k,rfl⟩|rfl<;>simp[run_underlying hu]
theorem adf{P:cL}{w:World}{Z:bc}{X:Array Value}(dO:List Bool):∀(gs:List Field) (n:Nat) (as:List ai),qH P n dO gs->ds w Z as (X.toList.drop n)->(kq dO as as).isSome=true->
  ∀f∈gs,(∃v,(part f.type X f.offset).run P w= .ok v w)/\∃d,P.underlying f.type=some d/\((∃k,d= .int k)\/d= .string):=by
 induction dO with
 |nil=>intro gs n as aX _ _ f aR;cases gs<;>simp only[qH]at aX;cases aR
 |cons xZ r bU=>
  intro gs n as aX aJ aq f aR;cases gs with
  |nil=>cases aR
  |cons g gs=>
  simp only[qH]at aX;obtain⟨⟨Gg,C1,oV⟩,aX⟩:=aX;cases as with
  |nil=>cases xZ<;>simp[kq]at aq
  |cons p as=>
  have hH:(kq r as as).isSome=true:=by cases xZ<;>cases p<;>simp[kq]at aq⊢ <;>exact aq
  simp only[ds]at aJ;obtain⟨u,cm,e,_,dH⟩:=aJ;have aF:X.toList.drop (n+1)=cm:=by rw[<-List.tail_drop,e];rfl
  have DT:X[n]? =some u:=by rw[<-um,<-List.head?_drop,e];rfl
  rcases fD.1 aR with rfl|aR
  ·refine⟨⟨u,by rw[Gg];exact run_part_plain w (DW oV) DT⟩,?_⟩;cases xZ
   ·obtain⟨k,h⟩:=(by simpa using oV:∃k,P.underlying f.type=some (.int k));exact⟨_,h,.inl ⟨k,rfl⟩⟩
   ·exact⟨_,by simpa using oV,.inr rfl⟩
  ·exact bU gs (n+1) as aX (by rw[aF];exact dH) hH f aR
theorem Sf{P:cL}{w:World}{α:Type}(body:α->PUnit->Sem (ForInStep PUnit)):∀(l:List α),(∀f∈l,(body f ⟨⟩).run P w= .ok (.yield ⟨⟩) w)->(forIn l PUnit.unit body).run P w= .ok PUnit.unit w
 |[],_=>by simp
 |f::l,h=>by simp only[List.forIn_cons,fL,h f Ψ,fR];exact Sf body l fun g aX=>h g (by simp[aX])
theorem Nh{P:cL}{w:World}{Z:bc}{cg:jO}{t:Nat}(aN:uu P cg t)(e:Bool){k:ai}{v:Value}(ad:bd w Z k v)(hi:vf cg k=true):(Instr.checkKey e 10000 t v).run P w= .ok () w:=by
 cases aN with
 |i hu=>exact Ju hu (.inl ⟨_,rfl⟩) e 9999 v
 |s hu=>exact Ju hu (.inr rfl) e 9999 v
 |a hu aX da=>
  rename_i dO gs;cases k<;>simp only[vf,gO]at hi;rename_i as;simp only[bd]at ad;obtain⟨X,rfl,ad⟩:=ad;unfold Instr.checkKey;simp only[fL,run_underlying hu,fR];rw[<-Array.forIn_toList];rw[Sf]
  ·simp
  ·intro f aR;obtain⟨⟨v,J⟩,d,U,ar⟩:=adf dO gs.toList 0 as aX (by simpa using ad) hi f aR;have a8:=Ju (w:=w) U ar e 9998 v;by_cases ay:f.name= "_"
   ·simp[ay]
   ·simp[ay,J,a8]
theorem U0{w:World}{Z:bc}{n:Nat}:∀(borns:List Nat) (kvs:List ai) (us:List Value) (p:ai),cX w Z kvs us->na n borns kvs=some p->∃e,(fy borns us).find? (·.born==n)=some e/\bd w Z p (.tuple #[e.key,e.val])
 |[],_,_,_,_,hm=>by simp[na]at hm
 |_::_,[],_,_,_,hm=>by simp[na]at hm
 |_::_,[_],_,_,_,hm=>by simp[na]at hm
 |b::eT,k::v::kvs,us,p,h,hm=>by
  simp only[cX]at h;obtain⟨jf,NS,rfl,J,jJ,sS,rfl,U,ar⟩:=h;simp only[na]at hm;simp only[fy];by_cases e:b=n
  ·rw[if_pos e]at hm;cases hm;refine⟨⟨jf,jJ,b⟩,by simp[List.find?,e],?_⟩;simp only[bd];exact⟨#[jf,jJ],rfl,by simp only[cX];exact⟨_,_,rfl,J,_,_,rfl,U,rfl⟩⟩
  ·rw[if_neg e]at hm;obtain⟨x,g1,g2⟩:=U0 eT kvs sS p ar hm;have aez:(b==n)=false:=by simpa using e
   exact⟨x,by simp[List.find?,aez,g1],g2⟩
theorem XZ{P:cL}{bC:List (Nat×dz)}(aM:fI P bC=true){C:fj}{st:bm}{a:Act}{w:World}{Z:bc}(aJ:cZ C st a w Z){i:fV}(aey:∀cg z ok x k,i≠ .mgetB cg z ok x k){o:Oper}(ax:Ey bC i o.op=true)
  {c:Prop} {p:ai} (he:hs st i=some (c,p)) (aq:c):∃v,(execOp a.eval o).run P w= .ok (.value v) w/\bd w Z p v:=by
 obtain⟨dst,op,type,pos,after,guard⟩:=o;simp only at ax;unfold Ey at ax;split at ax
 ·rename_i x o;simp only[hs]at he;cases he;exact⟨_,rfl,eg aJ ax⟩
 ·rename_i x o;simp only[hs]at he;cases he;exact⟨_,rfl,eg aJ ax⟩
 ·rename_i cp x y aoi YF YJ;simp only[cE]at ax;have J:=eg aJ ax.1.1;have U:=eg aJ ax.1.2;have ar:=eg aJ ax.2;simp only[hs,Hk]at he;split at he
  ·rename_i b ab;rw[ab]at J;simp only[bd]at J;split at he
   ·rename_i u v hu aC;cases he;rw[hu]at U;rw[aC]at ar;simp only[bd]at U ar;refine⟨.bool (cond b u v),?_,by simp[bd]⟩;simp only[execOp,J,U,ar,asBool,fL,gB,fR];cases b<;>rfl
   ·split at he
    ·cases he;exact⟨_,by simp only[execOp,J,asBool,fL,gB,fR,if_true],U⟩
    ·cases he;exact⟨_,by simp only[execOp,J,asBool,fL,gB,fR,gO,if_false],ar⟩
  ·cases he
 ·rename_i agg sz x t o;simp only[cE]at ax;obtain⟨J,U⟩:=ax;split at J
  ·rename_i f aR;simp only[cE,dL]at J;obtain⟨rfl,rfl⟩:=J;obtain⟨v,g1,g2⟩:=GS aM aJ.good aR (eg aJ U) (by simpa only[hs]using he) aq;exact⟨v,lA g1,g2⟩
  ·cases J
 ·rename_i off agg sz x s o i;simp only[cE]at ax;obtain⟨J,U⟩:=ax;split at J
  ·rename_i f aR;split at J
   ·rename_i w3 t CP;simp only[cE,dL]at J;obtain⟨rfl,J⟩:=J;split at J
    ·rename_i g aX;simp only[cE,dL,bne_iff_ne,ne_eq]at J;obtain⟨⟨rfl,rfl⟩,bE⟩:=J;obtain⟨v,g1,g2⟩:=ac7 aM aR rfl CP aX bE (eg aJ U) (by simpa only[hs]using he) aq;exact⟨v,lA g1,g2⟩
    ·cases J
   ·cases J
  ·cases J
 ·rename_i off agg sz x s o i;simp only[cE]at ax;obtain⟨J,U⟩:=ax;split at J
  ·rename_i f aR;split at J
   ·rename_i w3 t CP;simp only[cE,dL]at J;obtain⟨rfl,J⟩:=J;split at J
    ·rename_i g aX;simp only[cE,dL]at J;obtain⟨rfl,rfl⟩:=J;obtain⟨v,g1,g2⟩:=adg aM aR rfl CP aX (eg aJ U) (by simpa only[hs]using he) aq;exact⟨v,lA g1,g2⟩
    ·cases J
   ·cases J
  ·cases J
 ·rename_i sz x i t o j;simp only[cE]at ax;obtain⟨⟨J,U⟩,ar⟩:=ax;split at J
  ·rename_i e aR;split at J
   ·rename_i g aX;simp only[dL]at J;subst J;obtain⟨v,g1,g2⟩:=af9 aM aR rfl aX (eg aJ U) (eg aJ ar) (by simpa only[hs]using he) aq;exact⟨v,lA g1,g2⟩
   ·cases J
  ·cases J
 ·rename_i x i t o j;simp only[cE]at ax;obtain⟨⟨J,U⟩,ar⟩:=ax;split at J
  ·rename_i aR;obtain⟨d,aN,e2⟩:=je aM aR;obtain rfl:=zL e2;have ao:=eg aJ U;have aF:=eg aJ ar;simp only[hs,H5]at he;split at he
   ·rename_i s k n ag ay;cases he;rw[ag]at ao;rw[ay]at aF;simp only[bd]at ao aF;obtain⟨uT,CK⟩:=aq;have bs:n.toNat<s.length:=Ω
    have ae0:(⟨s.toArray⟩:ByteArray)[n.toNat]? =some (s.getD n.toNat 0):=by exact aeb s n.toNat bs
    refine⟨_,lA (v:= .int .u8 (s.getD n.toNat 0).toNat) ?_,by simp[bd]⟩;simp only[Instr.index,aF,asIntOf,ao.1,fL,gB,fR,run_underlying aN,uT,if_true,ae0]
   ·cases he
  ·cases J
 ·rename_i x lo hi t o l h;simp only[cE]at ax;obtain⟨⟨⟨J,U⟩,ar⟩,a8⟩:=ax;split at J
  ·rename_i aR;obtain⟨d,aN,e2⟩:=je aM aR;obtain rfl:=zL e2;have ao:=eg aJ U;simp only[hs,Ib]at he;split at he
   ·rename_i s ag;rw[ag]at ao;simp only[bd]at ao;split at he
    ·rename_i qs cu av KK;cases he;obtain⟨bT,cx,dy⟩:=aq;have aU:=He aJ ar av;have bp:=He aJ a8 KK;refine⟨_,lA (v:= .string ⟨((s.take cu.toNat).drop qs.toNat).toArray⟩) ?_,?_⟩
     ·have ab:=O6 P w false s.length s.length (l.map a.eval) (h.map a.eval) qs cu
       aU bp bT cx dy (eX _)
      simp only[Instr.sliceAt,Instr.slice,ao.1,fL,gB,fR,run_underlying aN,Option.map_none,lD,gO,if_false,El,ab,aa6]
     ·simp only[bd];refine⟨trivial,?_⟩;have:=ao.2;simp only[sZ,List.length_take];omega
    ·cases he
   ·cases he
  ·cases J
 ·rename_i sz x lo hi t o l h;simp only[cE]at ax;obtain⟨⟨⟨J,U⟩,ar⟩,a8⟩:=ax;split at J
  ·rename_i e aR;split at J
   ·rename_i g aX;simp only[dL]at J;subst J;obtain⟨d,aN,e2⟩:=je aM aR;obtain rfl:=tf e2;obtain⟨_,dS⟩:=vK aM aX w;have ao:=eg aJ U;simp only[hs,GU]at he;split at he
    ·rename_i dK tag xs ag;split at he
     ·rename_i fh;subst fh;rw[ag]at ao;simp only[bd]at ao;obtain⟨⟨s9,cap,aC,ck,ca,gf⟩,_⟩:=ao;split at he
      ·rename_i qs cu av KK;cases he;obtain⟨bT,cx,dy⟩:=aq;have aU:=He aJ ar av;have bp:=He aJ a8 KK;have ab:=O6 P w true xs.length cap (l.map a.eval) (h.map a.eval) qs cu
        aU bp bT cx dy ck
       refine⟨_,lA (v:= .slice (if cap=qs.toNat then s9 else s9.map (·.add (qs.toNat*g.size))) (cu.toNat-qs.toNat) (cap-qs.toNat)) ?_,?_⟩
       ·simp only[Instr.sliceAt,Instr.slice,aC,fL,gB,fR,run_underlying aN,Option.map_none,ab,dS]
       ·simp only[bd];have hlen:((xs.take cu.toNat).drop qs.toNat).length=cu.toNat-qs.toNat:=by simp;omega
        refine⟨⟨_,_,by rw[hlen],by rw[hlen];omega,⟨Ω,by rw[hlen];omega⟩,?_⟩,(fun h=>by cases h),(fun g h=>by cases h),(fun _ _ h=>by cases h),(fun _ h=>by cases h)⟩;rcases gf with rfl|⟨b,off,us,rfl,g1,g2⟩
        ·left;simp
        ·by_cases Ac:cap=qs.toNat
         ·left;apply List.eq_nil_of_length_eq_zero;rw[hlen];omega
         ·right;rw[if_neg Ac];refine⟨b,off+qs.toNat*g.size,(us.take (cu.toNat*g.size)).drop (qs.toNat*g.size),by simp[ps],GL _ (GN _ g1),W8 _ (Xb _ g2)⟩
      ·cases he
     ·cases he
    ·cases he
   ·cases J
  ·cases J
 ·rename_i op wr x y VS ty o o' al9;simp only[cE,e6]at ax;obtain⟨⟨rfl,J⟩,U⟩:=ax;obtain⟨r,g1,g2⟩:=ZF P w Z (by simpa only[hs]using he) aq ty (eg aJ J) (eg aJ U) o o';exact⟨r,lA g1,g2⟩
 ·rename_i x op ty o;simp only[cE,e6]at ax;obtain⟨rfl,J⟩:=ax;have ao:=eg aJ J;simp only[hs]at he;unfold G9 at he;split at he
  ·rename_i b ab;cases he;rw[ab]at ao;simp only[bd]at ao;exact⟨_,lA (v:= .bool (!b)) (by simp[Op.unary,ao]),by simp[bd]⟩
  ·cases he
 ·rename_i x op ty o;simp only[cE,e6]at ax;obtain⟨rfl,J⟩:=ax;have ao:=eg aJ J;simp only[hs]at he;unfold G5 at he;split at he
  ·rename_i k n ab;cases he;rw[ab]at ao;simp only[bd]at ao;exact⟨_,lA (v:= .int k (k.wrap (0-n))) (by simp[Op.unary,ao,Op.intArith]),by simp[bd]⟩
  ·cases he
 ·rename_i k x s d o;simp only[cE]at ax;obtain⟨J,U⟩:=ax;split at J
  ·rename_i aU bp CN uX;simp only[e6]at J;subst J;obtain⟨d1,fk,aeK⟩:=je aM CN;obtain rfl:=Fw aeK;obtain⟨d2,eQ,aeL⟩:=je aM uX;obtain rfl:=Fw aeL;have ao:=eg aJ U;simp only[hs]at he;unfold Fu at he;split at he
   ·rename_i bI n ab;cases he;rw[ab]at ao;simp only[bd]at ao;exact⟨_,lA (v:= .int k (k.wrap n)) (by simp[convert,ao,run_underlying fk,run_underlying eQ,Conv.intToInt]),by simp[bd]⟩
   ·cases he
  ·cases J
 ·rename_i i x o j;simp only[cE,dL]at ax;obtain⟨rfl,J⟩:=ax;have ao:=eg aJ J;simp only[hs]at he;unfold zP at he;split at he
  ·rename_i ba ab;simp only[gk]at he;obtain⟨q,bF,he⟩:=he;cases he;rw[ab]at ao;simp only[bd]at ao;obtain⟨us,hu,U⟩:=ao;obtain⟨v,g1,g2⟩:=HP i U bF;have lj:us[i]? =some v:=by simpa using g1
   exact⟨v,lA (by simp[Instr.extract,hu,lj]),g2⟩
  ·cases he
 ·rename_i x o t;simp only[cE]at ax;obtain⟨J,U⟩:=ax;have ao:=eg aJ U;simp only[hs]at he;unfold AQ at he;split at he
  ·rename_i sz tag xs ab;cases he;rw[ab]at ao;simp only[bd]at ao;obtain⟨⟨s9,cap,aC,_⟩,_⟩:=ao;refine⟨.int .i64 xs.length,?_,by simp[bd]⟩;split at J
   ·rename_i aR;obtain⟨d,aN,e2⟩:=je aM aR;obtain rfl:=tf e2;simp[execOp,resolve,invoke,builtin,Builtin.len_,run_underlying aN,aC,goInt]
   ·cases J
  ·rename_i sz k n ab;cases he;rw[ab]at ao;simp only[bd]at ao;obtain⟨⟨s9,cap,aC⟩,_⟩:=ao;refine⟨.int .i64 n,?_,by simp[bd]⟩;split at J
   ·rename_i aR;obtain⟨d,aN,e2⟩:=je aM aR;obtain rfl:=tf e2;simp[execOp,resolve,invoke,builtin,Builtin.len_,run_underlying aN,aC,goInt]
   ·cases J
  ·rename_i s9 n cap ab;cases he;rw[ab]at ao;simp only[bd]at ao;refine⟨.int .i64 n,?_,by simp[bd]⟩;split at J
   ·rename_i aR;obtain⟨d,aN,e2⟩:=je aM aR;obtain rfl:=tf e2;simp[execOp,resolve,invoke,builtin,Builtin.len_,run_underlying aN,ao,goInt]
   ·cases J
  ·cases he
 ·rename_i x o t;simp only[cE]at ax;obtain⟨J,U⟩:=ax;have ao:=eg aJ U;simp only[hs]at he;unfold Em at he;split at he
  ·rename_i s ab;cases he;rw[ab]at ao;simp only[bd]at ao;refine⟨.int .i64 s.length,?_,by simp[bd]⟩;split at J
   ·rename_i aR;obtain⟨d,aN,e2⟩:=je aM aR;obtain rfl:=zL e2;simp[execOp,resolve,invoke,builtin,Builtin.len_,run_underlying aN,ao.1,goInt,El]
   ·cases J
  ·rename_i s ab;cases he;rw[ab]at ao;simp only[bd]at ao;refine⟨.int .i64 s.size,?_,by simp[bd]⟩;split at J
   ·rename_i aR;obtain⟨d,aN,e2⟩:=je aM aR;obtain rfl:=zL e2;simp[execOp,resolve,invoke,builtin,Builtin.len_,run_underlying aN,ao,goInt]
   ·cases J
  ·cases he
 ·rename_i zero parts t cH;split at ax
  ·rename_i dO z aR;simp only[cE]at ax;obtain⟨⟨J,U⟩,ar⟩:=ax;have bf:=anB J;obtain⟨i,d,anA,ao,aF,bA,dr,hX,hY,rL,rM⟩:=(vL aM aR).ex;obtain⟨gs,rfl,j7⟩:=Jz hX;simp only at bf rL rM;subst bf;have k3:(gs.toList.all fun f=>(eb bC f.type).isSome)=true:=by rw[<-j7]at U;simpa[List.all_map,Function.comp_def]using U
   obtain⟨places,c0,du⟩:=V3 aM gs.toList k3;rw[j7]at du;cases anA<;>simp only[zp]at rL;case agg us=>
    simp only[hs]at he;cases ab:uG st.t zero parts with
    |none=>simp[ab]at he
    |some x=>obtain⟨cp,cs'⟩:=x;simp only[ab,oH]at he;cases he;obtain⟨cm,g1,g2⟩:=Xo aJ du parts cH.toList zero us c cs' ar (Oq w Z _ _ rL) ab aq;refine⟨.agg cm,lA (run_build w t _ cm ?_),by simp only[bd];exact⟨cm,rfl,g2⟩⟩;simp only[Program.built,ao,aF,hY,c0,pe];simpa using g1
   all_goals cases rL
  ·cases ax
 ·rename_i x o;have ao:=eg aJ ax;simp only[hs]at he;unfold A2 at he;split at he
  ·rename_i k off ab;cases he;rw[ab]at ao;have aF:=ao;simp only[bd]at ao;obtain⟨b,_,aC⟩:=ao;exact⟨a.eval o,by simp[execOp,aC],aF⟩
  ·rename_i q ab;cases he;rw[ab]at ao;have aF:=ao;simp only[bd]at ao;obtain⟨b,off,u,aC,_⟩:=ao;exact⟨a.eval o,by simp[execOp,aC],aF⟩
  ·rename_i f cs ab;cases he;rw[ab]at ao;have aF:=ao;simp only[bd]at ao;obtain⟨us,aC,_⟩:=ao;exact⟨a.eval o,by simp[execOp,aC],aF⟩
  ·cases he
 ·rename_i x y o o' t dE;simp only[cE]at ax;have ao:=eg aJ ax.1;have aF:=eg aJ ax.2;simp only[hs]at he;unfold G3 at he;split at he
  ·rename_i k m bI n hm ay;split at he
   ·rename_i ad;subst ad;cases he;rw[hm]at ao;rw[ay]at aF;simp only[bd]at ao aF;exact⟨.int k (if n<m then n else m),by simp[execOp,resolve,invoke,builtin,Builtin.min_,Builtin.min2,ao,aF],by simp[bd]⟩
   ·cases he
  ·cases he
 ·rename_i n xs m os;simp only[cE,dL]at ax;obtain⟨rfl,ax⟩:=ax;simp only[hs]at he;cases he;have uS:=D9 aJ ax;refine⟨.func (.func n) #[] (os.map a.eval),by simp[execOp,Instr.makeFunc],?_⟩;simp only[bd];exact⟨os.map a.eval,rfl,by simpa using uS⟩
 ·rename_i cg zero ok x k t o o' Ha;simp only[cE,dL]at ax;obtain⟨⟨⟨rfl,J⟩,U⟩,ar⟩:=ax;have ao:=eg aJ U;have aF:=eg aJ ar;split at J
  ·rename_i sz lh mY pE z aR;simp only[cE]at J;obtain⟨ae9,KC⟩:=J;split at KC
   ·rename_i aoW aeO;have bf:=Ou KC;obtain⟨cP,hu,e2⟩:=je aM aR;have tv:cP= .map mY pE:=by cases cP<;>simp[kr]at e2;obtain⟨rfl,rfl⟩:=e2;rfl
    subst tv;obtain⟨bR,la,z2,_⟩:=NN aM aeO w;rw[<-bf]at z2;have aa:=(Ot w Z z2).1;have mg:=Lx aM ae9;simp only[hs]at he;unfold nb at he;split at he
    ·rename_i key ae;rw[ae]at ao;simp only[bd]at ao;obtain⟨bl,ck,ca⟩:=ao;split at he
     ·rename_i clock borns kvs ib;obtain⟨iC,us,el,g1,g2,g3,g4,g5⟩:=aJ.good.box key _ ib;rw[ck]at g1;cases g1;simp only[j0]at g4;simp only[jt]at g5;have hR:(getObj bl).run P w= .ok (.map (fy borns us.toList).toArray clock) w:=vF g4;split at he
      ·cases he
      rename_i u3;have wj:=Nh (P:=P) (w:=w) mg ((fy borns us.toList).toArray.isEmpty) aF (by simpa using u3);split at he
      ·rename_i v hm;cases he;obtain⟨j,u,f1,f2⟩:=L4 mg aF borns kvs us.toList 0 _ g5.1 g5.2.len hm;refine⟨if ok then .tuple #[u,.bool true]else u,?_,?_⟩
       ·simp only[execOp];refine lA ?_;simp only[Instr.lookup,fL,run_underlying hu,fR,ca,hR,gB,wj,f1.run mg]
       ·cases ok
        ·simpa using f2
        ·simp only[if_true,bd];exact⟨_,rfl,by simp only[cX];exact⟨_,_,rfl,f2,_,_,rfl,by simp[bd],rfl⟩⟩
      ·rename_i hm;cases he;have f1:=L4 mg aF borns kvs us.toList 0 _ g5.1 g5.2.len hm;simp only at f1;refine⟨if ok then .tuple #[bR,.bool false]else bR,?_,?_⟩
       ·simp only[execOp];refine lA ?_;simp only[Instr.lookup,fL,run_underlying hu,fR,ca,hR,gB,wj,f1.run mg,la]
       ·cases ok
        ·simpa using aa
        ·simp only[if_true,bd];exact⟨_,rfl,by simp only[cX];exact⟨_,_,rfl,aa,_,_,rfl,by simp[bd],rfl⟩⟩
      ·cases he
     ·cases he
    ·cases he
   ·cases KC
  ·cases J
 ·rename_i x o;have ao:=eg aJ ax;simp only[hs]at he;unfold pQ at he;split at he
  ·rename_i fp ae;rw[ae]at ao;simp only[bd]at ao;obtain⟨bl,ck,ca⟩:=ao;split at he
   ·rename_i since seen last mk ib;obtain⟨iC,us,el,g1,g2,g3,g4,g5⟩:=aJ.good.box fp _ ib;rw[ck]at g1;cases g1;simp only[j0]at g4;simp only[jt,cX,bd]at g5;obtain⟨u,cm,q3,⟨mb,m1,rfl⟩,rfl⟩:=g5;rw[q3]at g4;simp only at g4;split at he
    ·rename_i clock borns kvs afk;obtain⟨aof,sS,aoI,aU,bp,b1,fT,df⟩:=aJ.good.box mk _ afk;rw[m1]at aU;cases aU;simp only[j0]at fT;simp only[jt]at df;split at he
     ·rename_i n ay;simp only[gk]at he;obtain⟨q,bF,he⟩:=he;cases he;obtain⟨e,f1,f2⟩:=U0 borns kvs sS.toList p df.1 bF;refine⟨.tuple #[e.key,e.val],?_,f2⟩;simp only[execOp];refine lA ?_;have aeW:(getObj bl).run P w= .ok (.mapIter (some mb) since seen.toArray last) w:=vF g4;have aeX:(getObj mb).run P w= .ok (.map (fy borns sS.toList).toArray clock) w:=vF fT;have Ku:seen.toArray.back? =some n:=by simpa using ay
      have Ad:(clock !=last)=false:=by simp[aq]
      have aeP:(fy borns sS.toList).toArray.find? (·.born==n)=some e:=by simpa using f1
      simp only[Instr.entry,ca,fL,aeW,fR,Ku,aeX,Ad,gO,if_false,aeP,gB]
     ·cases he
    ·cases he
   ·cases he
  ·cases he
 ·rename_i x o t;simp only[cE]at ax;obtain⟨J,U⟩:=ax;have ao:=eg aJ U;simp only[hs]at he;unfold A1 at he;split at he
  ·rename_i key ab;rw[ab]at ao;simp only[bd]at ao;obtain⟨bl,ck,ca⟩:=ao;split at he
   ·rename_i clock borns kvs ib;cases he;obtain⟨iC,us,el,g1,g2,g3,g4,g5⟩:=aJ.good.box key _ ib;rw[ck]at g1;cases g1;simp only[j0]at g4;simp only[jt]at g5;have hR:(getObj bl).run P w= .ok (.map (fy borns us.toList).toArray clock) w:=vF g4;have hlen:(fy borns us.toList).length=borns.length:=RE g5.2.len (Xh g5.1);refine⟨.int .i64 borns.length,?_,by simp[bd]⟩;split at J
    ·rename_i aR;obtain⟨d,aN,e2⟩:=je aM aR;obtain⟨mY,pE,rfl⟩:∃mY pE,d= .map mY pE:=by cases d<;>simp[kr]at e2;exact⟨_,_,rfl⟩
     simp[execOp,resolve,invoke,builtin,Builtin.len_,run_underlying aN,ca,goInt,hR,hlen]
    ·cases J
   ·cases he
  ·cases he
 ·rename_i neg dO x y op t o o' al9;simp only[cE,e6]at ax;obtain⟨⟨⟨rfl,bE⟩,J⟩,U⟩:=ax;have ao:=eg aJ J;have aF:=eg aJ U;simp only[hs]at he;unfold iB at he;split at he
  ·rename_i bj b0 bk ab;simp only at bE;cases he;rw[bk]at ao;rw[ab]at aF;simp only[bd]at ao aF;split at bE
   ·rename_i aR;obtain⟨d,aN,e2⟩:=je aM aR;obtain rfl:d= .bool:=by cases d<;>simp[kr]at e2;rfl
    refine⟨.bool (if neg then bj !=b0 else bj==b0),lA ?_,by simp[bd]⟩;cases neg<;>simp[ao,aF,eqGuard,binOp,aaf aN,bne]
   ·cases bE
  ·rename_i ao3 as eT bk ab;simp only at bE;simp only[gk]at he;obtain⟨q,bF,he⟩:=he;cases he;rw[bk]at ao;rw[ab]at aF;simp only[bd]at ao aF;obtain⟨X,Z3,aka⟩:=ao;obtain⟨Y,Z4,akb⟩:=aF;obtain⟨gs,hu,aX,da,iU⟩:=Sb aM bE;obtain⟨i1,_,_⟩:=RI hu aX da aka akb bF;refine⟨.bool (if neg then !q else q),lA ?_,by simp[bd]⟩;rw[Z3,Z4];cases neg
   ·simp only[gO,if_false,fL,run_eqGuard_agg w _ t o o' X Y iU,fR,run_eql_struct,i1]
   ·simp only[if_true,fL,run_eqGuard_agg w _ t o o' X Y iU,fR,run_neq_struct,i1]
  ·cases he
 ·rename_i x y o o' t dE;simp only[cE]at ax;have ao:=eg aJ ax.1;have aF:=eg aJ ax.2;simp only[hs]at he;unfold GY at he;split at he
  ·rename_i k m bI n hm ay;split at he
   ·rename_i ad;subst ad;cases he;rw[hm]at ao;rw[ay]at aF;simp only[bd]at ao aF;exact⟨.int k (if m<n then n else m),by simp[execOp,resolve,invoke,builtin,Builtin.max_,Builtin.max2,ao,aF],by simp[bd]⟩
   ·cases he
  ·cases he
 ·rename_i t x dE o;simp only[cE,dL]at ax;obtain⟨⟨rfl,J⟩,U⟩:=ax;have ao:=eg aJ U;simp only[hs]at he;cases he;split at J
  ·rename_i aR;obtain⟨d,aN,e2⟩:=je aM aR;obtain rfl:=tf e2;refine⟨.iface t (a.eval o),lA (by simp[Instr.makeInterface,run_underlying aN]),?_⟩;simp only[bd];exact⟨_,rfl,ao⟩
  ·cases J
 ·rename_i agg sz x t o;simp only[cE]at ax;obtain⟨J,U⟩:=ax;split at J
  ·rename_i f aR;simp only[cE,dL]at J;obtain⟨rfl,rfl⟩:=J;obtain⟨v,g1,g2⟩:=GS aM aJ.good aR (eg aJ U) (ag7 (by simpa only[hs]using he)) aq;exact⟨v,lA g1,g2⟩
  ·cases J
 ·rename_i agg sz x t o;simp only[cE]at ax;obtain⟨J,U⟩:=ax;split at J
  ·rename_i f aR;simp only[cE,dL]at J;obtain⟨rfl,rfl⟩:=J;obtain⟨v,g1,g2⟩:=GS aM aJ.good aR (eg aJ U) (adn (by simpa only[hs]using he)) aq;exact⟨v,lA g1,g2⟩
  ·cases J
 ·exact absurd rfl (aey _ _ _ _ _)
 ·cases ax
theorem ami{P:cL}{bC:List (Nat×dz)}(aM:fI P bC=true){C:fj}{st:bm}{a:Act}{w:World}{Z:bc}(aJ:cZ C st a w Z){i:fV}{o:Oper}(ax:Ey bC i o.op=true)
  {c:Prop} {p:ai} (he:hs st i=some (c,p)) (aq:c):∃v,(execOp a.eval o).run P w= .ok (.value v) w/\bd w Z p v:=by
 by_cases ab:∃cg z ok x k,i= .mgetB cg z ok x k
 ·obtain⟨cg,z,ok,x,k,rfl⟩:=ab;refine XZ aM aJ (i:= .mget cg z ok x k) (fun _ _ _ _ _ e=>by cases e) ?_ he aq;obtain⟨dst,op,type,pos,after,guard⟩:=o;cases op<;>first|exact ax|simp[Ey]at ax
 ·exact XZ aM aJ (fun cg z ok x k e=>ab ⟨cg,z,ok,x,k,e⟩) ax he aq
theorem Rk{w:World}{o:Obj}{b i:Nat}(h:b<w.heap.size):(w.alloc o).cell? ⟨b,i,none⟩=w.cell? ⟨b,i,none⟩:=World.cell?_of_block (Below.heap_alloc w o b h)
def bc.withBox(Z:bc)(k:aL)(bl:Nat):bc:={Z with bx:=fun j=>if j=k then some bl else Z.bx j}
def bc.withOwn(Z:bc)(k:aL)(n:Nat)(v:Value):bc:={Z with ow:=fun j=>if j=k then some (n,v)else Z.ow j}
theorem cZ.lookNone{C:fj}{st:bm}{a:Act}{w:World}{Z:bc}(h:cZ C st a w Z){k:aL}(ad:fresh st.n st.o k):look k st.b=none/\look k st.e=none:=by
 obtain⟨J,U,_⟩:=h.new k ad;constructor
 ·cases ab:look k st.b with
  |none=>rfl
  |some cs=>obtain⟨bl,us,el,g1,_⟩:=h.good.box _ _ ab;rw[J]at g1;cases g1
 ·cases ab:look k st.e with
  |none=>rfl
  |some o=>obtain⟨v,us,g1,_⟩:=h.good.own _ _ ab;rw[U]at g1;cases g1
theorem Good.ownLt{pr:Nat->Prop}{w:World}{Z:bc}{b:List (aL×List ai)}{e:List (aL×fN)}(h:Good pr w Z b e){g:aL}{o:fN}(aX:look g e=some o){n:Nat}{v:Value}(aC:Z.ow g=some (n,v)){bl:Nat}(ab:v.ownBlock=some bl):bl<w.heap.size:=by obtain⟨v',us,g1,g2,_⟩:=h.own g o aX;rw[aC]at g1;cases g1;exact(g2.lt bl ab).2
theorem Good.boxLt{pr:Nat->Prop}{w:World}{Z:bc}{b:List (aL×List ai)}{e:List (aL×fN)}(h:Good pr w Z b e){k:aL}{cs:List ai}(ad:look k b=some cs){bl:Nat}(ab:Z.bx k=some bl):bl<w.heap.size:=by obtain⟨iC,us,el,g1,_,_,g4,_⟩:=h.box k cs ad;rw[ab]at g1;cases g1;exact(Array.getElem?_eq_some_iff.1 g4).1
theorem cZ.newBox{C:fj}{st:bm}{a:Act}{w:World}{Z:bc}(h:cZ C st a w Z){hb:aL}(CV:Z.bx hb=none/\Z.ow hb=none/\∀j b,¬Z.tr hb j b){n':Nat}{o':List aL}(cF:∀j,fresh n' o' j->fresh st.n st.o j/\j≠hb){cs:List ai}{us:Array Value}(el:gP)(aq:jt w Z cs us.toList):
  cZ C {st with b:=cA hb cs st.b,n:=n',o:=o'} a (w.alloc (j0 cs us el)) (Z.withBox hb w.heap.size)/\
  bd (w.alloc (j0 cs us el)) (Z.withBox hb w.heap.size) (.ptr hb 0) (.pointer (some ⟨w.heap.size,0,none⟩)):=by
 obtain⟨sb,CY,afq⟩:=CV;have ax:lF w Z (w.alloc (j0 cs us el)) (Z.withBox hb w.heap.size):=by
  refine⟨fun b o bg=>⟨bg,Rk (h.good.alt b o bg)⟩,fun k b _ ad=>?_,fun g n u _ aX=>⟨n,u,aX,.inl ⟨rfl,rfl⟩⟩,fun b o bg=>xf (Below.heap_alloc w _ b (h.good.alt b o bg)),fun _ _ _ _ h=>h⟩;have:k≠hb:=fun e=>by subst e;rw[sb]at ad;cases ad
  simp[bc.withBox,this,ad]
 have dS:(w.alloc (j0 cs us el)).heap.size=w.heap.size+1:=by simp
 have kH:∀k,(look k (cA hb cs st.b)).isSome->k=hb\/(k≠hb/\(look k st.b).isSome/\(Z.withBox hb w.heap.size).bx k=Z.bx k):=by
  intro k ad;by_cases e:k=hb
  ·exact .inl e
  ·rw[ja,if_neg (ld e)]at ad;exact .inr ⟨e,ad,by simp[bc.withBox,e]⟩
 refine⟨h.over ax rfl ⟨fun bl o bg=>by rw[dS];have:=h.good.alt bl o bg;omega,fun k eP ad=>?_,fun k bI bl ad mO ao aF=>?_,fun g o aX=>?_,h.good.oinj,fun g k n v bl aX ad aC ab ae=>?_,fun k=>?_,fun bl ab k j aM=>?_⟩
  ⟨h.fr.os,h.fr.tape,h.fr.output,by rw[dS];have:=h.fr.size;omega,fun k ad hm=>?_,fun b o bg=>?_,h.fr.fresh,fun n b ab=>?_,h.fr.obn,h.fr.row,h.fr.obr,h.fr.trd,fun k j b ab=>⟨(h.fr.trb k j b ab).1,by rw[dS];have:=(h.fr.trb k j b ab).2;omega⟩,fun k j b ab=>?_,fun b o bg=>(ax.sh b o (h.fr.keep b o bg).1).trans (h.fr.sh b o bg)⟩ (fun m hm=>?_),?_⟩
 ·simp only at ad;rw[ja]at ad;by_cases e:hb=k
  ·rw[if_pos e]at ad;cases ad;subst e;refine⟨w.heap.size,us,el,by simp[bc.withBox],.inr h.fr.size,fun o bg=>?_,heap_alloc_new w _,qz ax aq⟩;have:=h.good.alt _ o bg;omega
  ·rw[if_neg e]at ad;obtain⟨bl,cm,fX,g1,g2,g3,g4,g5⟩:=h.good.box k eP ad;exact⟨bl,cm,fX,ax.bx _ _ trivial g1,g2,g3,by rw[Below.heap_alloc w _ bl (Array.getElem?_eq_some_iff.1 g4).1];exact g4,qz ax g5⟩
 ·rcases kH k ad with rfl|⟨iw,gp,jr⟩<;>rcases kH bI mO with rfl|⟨m1,m2,m3⟩
  ·rfl
  ·exfalso;simp only[bc.withBox,if_true,dC]at ao;subst ao;rw[m3]at aF;obtain⟨eP,iT⟩:=fE.1 m2;have:=h.good.boxLt iT aF;omega
  ·exfalso;simp only[bc.withBox,if_true,dC]at aF;subst aF;rw[jr]at ao;obtain⟨eP,iT⟩:=fE.1 gp;have:=h.good.boxLt iT ao;omega
  ·rw[jr]at ao;rw[m3]at aF;exact h.good.inj k bI bl gp m2 ao aF
 ·obtain⟨v,xs,g1,g2,g3,g4⟩:=h.good.own g o aX;exact⟨v,xs,g1,g2.alloc _,g3,sG ax (fun _ _ _ h=>h) g4⟩
 ·rcases kH k ad with rfl|⟨iw,gp,jr⟩
  ·simp only[bc.withBox,if_true,dC]at ae;subst ae;obtain⟨o,h1⟩:=fE.1 aX;have:=h.good.ownLt h1 aC ab;omega
  ·rw[jr]at ae;exact h.good.obx g k n v bl aX gp aC ab ae
 ·by_cases e:k=hb
  ·subst e;exact .inr CY
  ·rcases h.good.one k with J|J
   ·exact .inl (by simp[bc.withBox,e,J])
   ·exact .inr J
 ·rcases ab with⟨bI,bB,a2⟩|ab
  ·rcases kH bI bB with rfl|⟨iw,gp,jr⟩
   ·simp[bc.withBox]at a2;subst a2;exact absurd (h.fr.trb k j _ aM).2 (Nat.lt_irrefl _)
   ·exact h.good.otr bl (.inl ⟨bI,gp,by rw[<-jr];exact a2⟩) k j aM
  ·exact h.good.otr bl (.inr ab) k j aM
 ·rw[Below.heap_alloc w _ k (by have:=h.fr.size;omega)];exact h.fr.block k ad hm
 ·obtain⟨aU,bp⟩:=h.fr.keep b o bg;exact⟨aU,(Rk (h.good.alt b o aU)).trans bp⟩
 ·exact ax.bx _ _ trivial (h.fr.obj n b ab)
 ·have cK:k≠hb:=fun e=>by subst e;exact afq j b ab
  obtain⟨t1,t2⟩:=h.fr.trn k j b ab;exact⟨by simp[bc.withBox,cK,t1],t2⟩
 ·obtain⟨f1,f2⟩:=cF m hm;obtain⟨aU,bp⟩:=h.new m f1;refine⟨?_,bp⟩;simp[bc.withBox,f2,aU]
 ·simp[bd,bc.withBox]
theorem cZ.setBox{C:fj}{st:bm}{a:Act}{w w':World}{Z:bc}(h:cZ C st a w Z){k:aL}{cs cs':List ai}(ad:look k st.b=some cs){bl:Nat}(ab:Z.bx k=some bl){us:Array Value}{el:gP}
  (Aq:w'.os=w.os) (K8:w'.tape=w.tape) (KV:w'.output=w.output) (nF:∀j,j≠bl->w'.heap[j]? =w.heap[j]?) (dS:w'.heap.size=w.heap.size) (j8:w'.heap[bl]? =some (j0 cs' us el)) (aq:jt w Z cs' us.toList):
  cZ C {st with b:=cA k cs' st.b} a w' Z/\lF w Z w' Z:=by
 obtain⟨iC,fw,aoH,g1,g2,g3,g4,g5⟩:=h.good.box k cs ad;rw[ab]at g1;cases g1;have ax:lF w Z w' Z:=by
  refine⟨fun b o bg=>⟨bg,World.cell?_of_block (nF b fun e=>?_)⟩,fun _ _ _ h=>h,fun g n u _ aX=>⟨n,u,aX,.inl ⟨rfl,rfl⟩⟩,fun b o bg=>xf (nF b fun e=>?_),fun _ _ _ _ h=>h⟩<;>
  (subst e;exact g3 o bg)
 have F7:∀j,(look j (cA k cs' st.b)).isSome->(look j st.b).isSome:=by
  intro j af;rw[ja]at af;by_cases e:k=j
  ·subst e;simp[ad]
  ·rwa[if_neg e]at af
 refine⟨h.over ax rfl ⟨fun b o bg=>by rw[dS];exact h.good.alt b o bg,fun j eP af=>?_,fun j dD b af jB=>h.good.inj j dD b (F7 j af) (F7 dD jB),fun g o aX=>?_,h.good.oinj,fun g j n v b aX af=>h.good.obx g j n v b aX (F7 j af),h.good.one,fun bl ab=>h.good.otr bl (ab.imp (fun⟨k,J,U⟩=>⟨k,F7 k J,U⟩) id)⟩
  ⟨Aq.trans h.fr.os,K8.trans h.fr.tape,KV.trans h.fr.output,by rw[dS];exact h.fr.size,fun j af hm=>?_,fun b o bg=>?_,h.fr.fresh,h.fr.obj,h.fr.obn,h.fr.row,h.fr.obr,h.fr.trd,fun k j b ab=>⟨(h.fr.trb k j b ab).1,by rw[dS];exact(h.fr.trb k j b ab).2⟩,h.fr.trn,fun b o bg=>(ax.sh b o (h.fr.keep b o bg).1).trans (h.fr.sh b o bg)⟩ h.new,ax⟩
 ·simp only at af;rw[ja]at af;by_cases e:k=j
  ·rw[if_pos e]at af;cases af;subst e;exact⟨bl,us,el,ab,g2,g3,j8,qz ax aq⟩
  ·rw[if_neg e]at af;obtain⟨b,cm,fX,ao,aF,bA,dr,hX⟩:=h.good.box j eP af;refine⟨b,cm,fX,ao,aF,bA,?_,qz ax hX⟩;rw[nF b fun fo=>e (h.good.inj k j bl (by simp[ad]) (by simp[af]) ab (by rw[<-fo];exact ao))];exact dr
 ·obtain⟨v,xs,ao,aF,bA,dr⟩:=h.good.own g o aX;refine⟨v,xs,ao,⟨aF.1,?_⟩,bA,sG ax (fun _ _ _ h=>h) dr⟩;rcases aF.2 with aF|⟨bb,cap,cur,f1,f2,f3,f4⟩
  ·exact .inl aF
  ·refine .inr ⟨bb,cap,cur,f1,f2,?_,f4⟩;rw[nF bb fun fo=>h.good.obx g k o.n v bl (by simp[aX]) (by simp[ad]) ao (by rw[f1,<-fo];rfl) ab];exact f3
 ·rw[nF j fun e=>by subst e;exact g2.elim hm (fun g2=>Ω)];exact h.fr.block j af hm
 ·obtain⟨aU,bp⟩:=h.fr.keep b o bg;exact⟨aU,(ax.A b o aU).2.trans bp⟩
theorem cZ.storeBox{C:fj}{st:bm}{a:Act}{w:World}{Z:bc}(h:cZ C st a w Z){k:aL}{cs cs':List ai}(ad:look k st.b=some cs){bl:Nat}(ab:Z.bx k=some bl)(bK:hV cs=true){us:Array Value}(aq:ds w Z cs' us.toList):
  cZ C {st with b:=cA k cs' st.b} a (w.setRow bl us) Z:=by
 obtain⟨iC,fw,el,g1,g2,g3,g4,g5⟩:=h.good.box k cs ad;rw[ab]at g1;cases g1;rw[vs bK]at g4;have Tz:=Bv aq;exact(h.setBox (w':=w.setRow bl us) ad ab (us:=us) (el:=el) rfl rfl rfl (fun j af=>setRow_other w bl j us af) (setRow_size w bl us) (by rw[vs Tz];exact setRow_heap w bl fw us el _ g4) (by rw[vt Tz];exact aq)).1
def bc.withRowOf(Z:bc)(k:aL)(v:Value)(n cells:Nat):bc:={A:=fun b o=>Z.A b o\/(v.ownBlock=some b/\o<cells),bx:=Z.bx,ow:=fun j=>if j=k then some (n,v)else Z.ow j,tr:=Z.tr}
theorem AP{w:World}{A:Nat->Nat->Prop}{b:Nat}:∀(us:List Value) (off:Nat),(∀j u,us[j]? =some u->A b (off+j)/\w.cell? ⟨b,off+j,none⟩=some u)->lV w A b off us
 |[],_,_=>trivial
 |u::us,off,h=>⟨h 0 u rfl,AP us (off+1) fun j x af=>by have:=h (j+1) x (by simpa using af);rwa[show off+(j+1)=off+1+j from by omega]at this⟩
theorem Fs{w w':World}(aX:w.grownBy w' none){b i:Nat}(h:b<w.heap.size):w'.cell? ⟨b,i,none⟩=w.cell? ⟨b,i,none⟩:=World.cell?_of_block (aX.block b h Ψ)
theorem cZ.newRowM{C:fj}{st:bm}{a:Act}{w w':World}{Z:bc}(h:cZ C st a w Z){k:aL}{xs:List ai}(ad:(Z.bx k=none/\Z.ow k=none/\∀j b,¬Z.tr k j b)\/ ∃o,look k st.e=some o/\o.n<xs.length){el sz:Nat}{v:Value}{us:List Value}
  (aX:w.grownBy w' none) (lO:w'.ownsRow w.heap.size el sz v xs.length us) (aq:dB w Z sz xs us) (ir:xs.length<=lim) {n':Nat} {o':List aL} (cF:∀j,fresh n' o' j->fresh st.n st.o j/\j≠k):
  cZ C {st with e:=cA k ⟨xs.length,el,sz,some xs⟩ st.e,n:=n',o:=o'} a w' (Z.withOwn k xs.length v)/\
  ((∃b cap,v= .slice (some ⟨b,0,none⟩) xs.length cap)->bd w' (Z.withOwn k xs.length v) (.row sz k xs.length) v):=by
 have qd:∀bl,v.ownBlock=some bl->w.heap.size<=bl/\bl<w'.heap.size:=fun bl ab=>lO.lt bl ab;have ax:lF w Z w' (Z.withOwn k xs.length v):=by
  refine⟨fun b o bg=>⟨bg,Fs aX (h.good.alt b o bg)⟩,fun j b _ af=>af,fun g n u _ iU=>?_,fun b o bg=>xf (aX.block b (h.good.alt b o bg) Ψ),fun _ _ _ _ h=>h⟩;by_cases e:g=k
  ·subst e;rcases ad with ad|⟨o,ax,bs⟩
   ·rw[ad.2.1]at iU;cases iU
   ·obtain⟨v0,fw,ao,_⟩:=h.good.own g o ax;rw[ao]at iU;cases iU;exact⟨xs.length,v,by simp[bc.withOwn],.inr bs⟩
  ·exact⟨n,u,by simp[bc.withOwn,e,iU],.inl ⟨rfl,rfl⟩⟩
 have k4:∀g,(look g (cA k ⟨xs.length,el,sz,some xs⟩ st.e)).isSome->g=k\/(g≠k/\(look g st.e).isSome/\(Z.withOwn k xs.length v).ow g=Z.ow g):=by
  intro g j7;by_cases e:g=k
  ·exact .inl e
  ·rw[ja,if_neg (ld e)]at j7;exact .inr ⟨e,j7,by simp[bc.withOwn,e]⟩
 have Tu:∀bl,v.ownBlock=some bl->∀j,¬Z.A bl j:=fun bl ab j bg=>by have J:=h.good.alt bl j bg;have:=(qd bl ab).1;omega
 have afx:∀j b,¬Z.tr k j b:=fun j b ab=>by
  rcases ad with ad|⟨o,h1,_⟩
  ·exact ad.2.2 j b ab
  ·obtain⟨v0,fw,ao,_⟩:=h.good.own k o h1;rw[(h.fr.trn k j b ab).2]at ao;cases ao
 refine⟨h.over ax rfl ⟨fun bl o bg=>?_,fun j eP af=>?_,h.good.inj,fun g o dY=>?_,fun g ff n n' u fa bl J U ar a8 b8 de=>?_,fun g j n u bl J U ar a8 b8=>?_,fun j=>?_,fun bl ab bI j aM=>?_⟩
  ⟨aX.os.trans h.fr.os,aX.tape.trans h.fr.tape,aX.output.trans h.fr.output,kn h.fr.size aX.size,fun j af hm=>?_,fun b o bg=>?_,h.fr.fresh,h.fr.obj,h.fr.obn,fun m n u hm=>Ec (h.fr.row m n u hm) (fun n u=>ax.ow _ n u trivial),h.fr.obr,h.fr.trd,fun k j b ab=>⟨(h.fr.trb k j b ab).1,Nat.lt_of_lt_of_le (h.fr.trb k j b ab).2 aX.size⟩,fun bI j b ab=>?_,fun b o bg=>(ax.sh b o (h.fr.keep b o bg).1).trans (h.fr.sh b o bg)⟩ (fun m hm=>?_),?_⟩
 ·have:=h.good.alt bl o bg;have:=aX.size;omega
 ·obtain⟨bl,cm,fX,g1,g2,g3,g4,g5⟩:=h.good.box j eP af;have bs:=(Array.getElem?_eq_some_iff.1 g4).1;exact⟨bl,cm,fX,g1,g2,g3,by rw[aX.block bl bs Ψ];exact g4,qz ax g5⟩
 ·simp only at dY;rw[ja]at dY;by_cases e:k=g
  ·rw[if_pos e]at dY;cases dY;subst e;refine⟨v,us,by simp[bc.withOwn],⟨lO.1,?_⟩,fun bl ab=>⟨.inr (kn h.fr.size (qd bl ab).1),fun j bg=>absurd bg (Tu bl ab j)⟩,fun ys aH=>?_⟩
   ·rcases lO.2 with ao|⟨bb,cap,cur,f1,f2,f3⟩
    ·exact .inl ao
    ·exact .inr ⟨bb,cap,cur,f1,Ω,f3⟩
   ·simp only[dC]at aH;subst aH;exact⟨rfl,Bs ax aq,Tu⟩
  ·rw[if_neg e]at dY;obtain⟨v0,fw,ao,aF,bA,dr⟩:=h.good.own g o dY;exact⟨v0,fw,by simp[bc.withOwn,ld e,ao],aF.kept aX (by cases v0.ownBlock<;>simp),bA,sG ax (fun _ _ _ h=>h) dr⟩
 ·rcases k4 g J with rfl|⟨iw,gp,jr⟩<;>rcases k4 ff U with rfl|⟨m1,m2,m3⟩
  ·rfl
  ·exfalso;simp only[bc.withOwn,if_true,dC,jM]at ar;rw[m3]at a8;obtain⟨o,h1⟩:=fE.1 m2;have av:=h.good.ownLt h1 a8 de;have:=(qd bl (by rw[ar.2];exact b8)).1;omega
  ·exfalso;simp only[bc.withOwn,if_true,dC,jM]at a8;rw[jr]at ar;obtain⟨o,h1⟩:=fE.1 gp;have av:=h.good.ownLt h1 ar b8;have:=(qd bl (by rw[a8.2];exact de)).1;omega
  ·rw[jr]at ar;rw[m3]at a8;exact h.good.oinj g ff n n' u fa bl gp m2 ar a8 b8 de
 ·rcases k4 g J with rfl|⟨iw,gp,jr⟩
  ·simp only[bc.withOwn,if_true,dC,jM]at ar;obtain⟨eP,iT⟩:=fE.1 U;have av:=h.good.boxLt iT b8;have:=(qd bl (by rw[ar.2];exact a8)).1;omega
  ·rw[jr]at ar;exact h.good.obx g j n u bl gp U ar a8 b8
 ·by_cases e:j=k
  ·subst e;rcases ad with ad|⟨o,h1,_⟩
   ·exact .inl ad.1
   ·obtain⟨v0,fw,ao,_⟩:=h.good.own j o h1;rcases h.good.one j with J|J
    ·exact .inl J
    ·rw[J]at ao;cases ao
  ·rcases h.good.one j with J|J
   ·exact .inl J
   ·exact .inr (by simp[bc.withOwn,e,J])
 ·rcases ab with ab|⟨g,n,u,bB,a2,a3⟩
  ·exact h.good.otr bl (.inl ab) bI j aM
  ·rcases k4 g bB with rfl|⟨iw,gp,jr⟩
   ·simp only[bc.withOwn,if_true,dC,jM]at a2;have J:=(qd bl (by rw[a2.2];exact a3)).1;have U:=(h.fr.trb bI j _ aM).2;omega
   ·exact h.good.otr bl (.inr ⟨g,n,u,gp,by rw[<-jr];exact a2,a3⟩) bI j aM
 ·rw[aX.block j (by have:=h.fr.size;omega) Ψ];exact h.fr.block j af hm
 ·obtain⟨aU,bp⟩:=h.fr.keep b o bg;exact⟨aU,(ax.A b o aU).2.trans bp⟩
 ·have cK:bI≠k:=fun e=>by subst e;exact afx j b ab
  obtain⟨t1,t2⟩:=h.fr.trn bI j b ab;exact⟨t1,by simp[bc.withOwn,cK,t2]⟩
 ·obtain⟨f1,f2⟩:=cF m hm;obtain⟨aU,bp,b1⟩:=h.new m f1;refine⟨aU,?_,b1⟩;simp[bc.withOwn,f2,bp]
 ·intro KG;simp only[bd];exact⟨KG,ir,xs.length,v,by simp[bc.withOwn],eX _,fun _=>rfl⟩
theorem cZ.publish{C:fj}{st:bm}{a:Act}{w:World}{Z:bc}(h:cZ C st a w Z){k:aL}{o:fN}{xs:List ai}(ad:look k st.e=some o)(ae:o.xs=some xs){v:Value}(aC:Z.ow k=some (o.n,v))(ir:xs.length<=lim):
  cZ C {st with e:=cA k ⟨o.n,o.el,o.sz,none⟩ st.e} a w (Z.withRowOf k v o.n (o.n*o.sz))/\
  bd w (Z.withRowOf k v o.n (o.n*o.sz)) (.slice o.sz (.own k) xs) v:=by
 obtain⟨v0,us,a6,bD,bY,c5⟩:=h.good.own k o ad;rw[aC]at a6;cases a6;obtain⟨dc,oq,vu⟩:=c5 xs ae;have oU:∀g,(Z.withRowOf k v o.n (o.n*o.sz)).ow g=Z.ow g:=fun g=>by
  simp only[bc.withRowOf];split
  ·rename_i e;subst e;exact aC.symm
  ·rfl
 have ax:lF w Z w (Z.withRowOf k v o.n (o.n*o.sz)):=⟨fun b o bg=>⟨.inl bg,rfl⟩,fun j b _ af=>af,fun g n u _ iU=>⟨n,u,by rw[oU];exact iU,.inl ⟨rfl,rfl⟩⟩,fun _ _ _=>rfl,fun _ _ _ _ h=>h⟩
 have k4:∀g,(look g (cA k ⟨o.n,o.el,o.sz,none⟩ st.e)).isSome->(look g st.e).isSome:=by
  intro g j7;by_cases e:k=g
  ·subst e;simp[ad]
  ·rwa[ja,if_neg e]at j7
 refine⟨h.over ax rfl ⟨fun bl i bg=>?_,fun j eP af=>?_,h.good.inj,fun g o' dY=>?_,fun g ff n n' u fa bl J U ar a8=>h.good.oinj g ff n n' u fa bl (k4 g J) (k4 ff U) (by rwa[oU]at ar) (by rwa[oU]at a8),fun g j n u bl J U ar=>h.good.obx g j n u bl (k4 g J) U (by rwa[oU]at ar),fun j=>?_,fun bl ab=>h.good.otr bl (ab.imp id (fun⟨g,n,v,bB,a2,a3⟩=>⟨g,n,v,k4 g bB,by rwa[oU]at a2,a3⟩))⟩
  ⟨h.fr.os,h.fr.tape,h.fr.output,h.fr.size,h.fr.block,fun b i bg=>⟨.inl (h.fr.keep b i bg).1,(h.fr.keep b i bg).2⟩,fun b i bg=>?_,h.fr.obj,h.fr.obn,fun m n u hm=>Ec (h.fr.row m n u hm) (fun n u=>ax.ow _ n u trivial),h.fr.obr,h.fr.trd,h.fr.trb,fun bI j b ab=>⟨(h.fr.trn bI j b ab).1,by rw[oU];exact(h.fr.trn bI j b ab).2⟩,h.fr.sh⟩ (fun m hm=>?_),?_⟩
 ·rcases bg with bg|⟨bg,_⟩
  ·exact h.good.alt bl i bg
  ·exact(bD.lt bl bg).2
 ·obtain⟨bl,cm,fX,g1,g2,g3,g4,g5⟩:=h.good.box j eP af;refine⟨bl,cm,fX,g1,g2,fun i bg=>?_,g4,qz ax g5⟩;rcases bg with bg|⟨bg,_⟩
  ·exact g3 i bg
  ·exact h.good.obx k j o.n v bl (by simp[ad]) (by simp[af]) aC bg g1
 ·simp only at dY;rw[ja]at dY;by_cases e:k=g
  ·rw[if_pos e]at dY;cases dY;subst e;refine⟨v,us,by rw[oU];exact aC,bD,fun bl ab=>⟨(bY bl ab).1,fun j bg=>?_⟩,fun ys aH=>by cases aH⟩;rcases bg with bg|⟨_,bg⟩
   ·exact(bY bl ab).2 j bg
   ·exact bg
  ·rw[if_neg e]at dY;obtain⟨v0,fw,ao,aF,bA,dr⟩:=h.good.own g o' dY;have wh:∀bl,v0.ownBlock=some bl->∀j,(Z.withRowOf k v o.n (o.n*o.sz)).A bl j->Z.A bl j:=fun bl ab j bg=>by
    rcases bg with bg|⟨bg,_⟩
    ·exact bg
    ·exact absurd (h.good.oinj k g o.n o'.n v v0 bl (by simp[ad]) (by simp[dY]) aC ao bg ab) e
   exact⟨v0,fw,by rw[oU];exact ao,aF,fun bl ab=>⟨(bA bl ab).1,fun j bg=>(bA bl ab).2 j (wh bl ab j bg)⟩,sG ax wh dr⟩
 ·rcases h.good.one j with J|J
  ·exact .inl J
  ·exact .inr (by rw[oU];exact J)
 ·rcases bg with bg|⟨bg,_⟩
  ·exact h.fr.fresh b i bg
  ·exact .inr (bY b bg).1
 ·obtain⟨aU,bp,b1⟩:=h.new m hm;exact⟨aU,by rw[oU];exact bp,b1⟩
 ·simp only[bd];refine⟨?_,fun e=>(by cases e),fun g e=>?_,fun _ _ e=>(by cases e),fun _ e=>(by cases e)⟩
  ·rcases bD.2 with⟨ao,aF⟩|⟨bb,cap,cur,f1,f2,f3,f4,f5,f6,f7⟩
   ·refine⟨none,0,by rw[ao,dc,aF],Ω,⟨by simp[maxLen],ir⟩,.inl (List.eq_nil_of_length_eq_zero Ω)⟩
   ·refine⟨some ⟨bb,0,none⟩,cap,by rw[f1,dc],Ω,⟨f5,ir⟩,.inr ⟨bb,0,us,rfl,AP us 0 fun j u af=>?_,Bs ax oq⟩⟩;have oW:v.ownBlock=some bb:=by rw[f1];rfl
    have Ak:j<us.length:=(fb.1 af).1;refine⟨.inr ⟨oW,by rw[bD.1]at Ak;omega⟩,?_⟩;have:=bD.cells oW j u af;rwa[ps]at this
  ·cases e;exact⟨o.n,v,by rw[oU];exact aC,Ω,fun _=>rfl⟩
theorem XQ{α:Type}(k:aL)(p q:α):∀l,cA k q (cA k p l)=cA k q l
 |[]=>by simp[cA]
 |(i,r)::l=>by
  by_cases e:i=k
  ·simp[cA,e]
  ·simp[cA,e,XQ k p q l]
theorem cZ.newRow{C:fj}{st:bm}{a:Act}{w w':World}{Z:bc}(h:cZ C st a w Z){k:aL}{xs:List ai}(ad:(Z.bx k=none/\Z.ow k=none/\∀j b,¬Z.tr k j b)\/ ∃o,look k st.e=some o/\o.n<xs.length){el sz:Nat}{v:Value}{us:List Value}
  (aX:w.grownBy w' none) (lO:w'.ownsRow w.heap.size el sz v xs.length us) (aq:dB w Z sz xs us) (ir:xs.length<=lim) {n':Nat} {o':List aL} (cF:∀j,fresh n' o' j->fresh st.n st.o j/\j≠k):
  cZ C {st with e:=cA k ⟨xs.length,el,sz,none⟩ st.e,n:=n',o:=o'} a w' ((Z.withOwn k xs.length v).withRowOf k v xs.length (xs.length*sz))/\
  bd w' ((Z.withOwn k xs.length v).withRowOf k v xs.length (xs.length*sz)) (.slice sz (.own k) xs) v:=by
 have J:=(h.newRowM ad aX lO aq ir cF).1;have U:=J.publish (k:=k) (o:=⟨xs.length,el,sz,some xs⟩) (xs:=xs) (v:=v) (by simp[ja]) rfl (by simp[bc.withOwn]) ir;simpa only[XQ]using U
theorem cZ.setRowM{C:fj}{st:bm}{a:Act}{w w':World}{Z:bc}(h:cZ C st a w Z){k:aL}{o:fN}{xs xs':List ai}(ad:look k st.e=some o)(ae:o.xs=some xs){bl:Nat}{v v':Value}(aC:Z.ow k=some (o.n,v))(oW:v.ownBlock=some bl)(Gs:v'.ownBlock=some bl)
  (ay:(xs'.length=o.n/\v'=v)\/o.n<xs'.length) {us:List Value} (Aq:w'.os=w.os) (K8:w'.tape=w.tape) (KV:w'.output=w.output) (nF:∀j,j≠bl->w'.heap[j]? =w.heap[j]?) (dS:w'.heap.size=w.heap.size)
  (lO:w'.ownsRow 0 o.el o.sz v' xs'.length us) (aq:dB w Z o.sz xs' us):
  cZ C {st with e:=cA k ⟨xs'.length,o.el,o.sz,some xs'⟩ st.e} a w' (Z.withOwn k xs'.length v')/\lF w Z w' (Z.withOwn k xs'.length v')/\(xs'.length<=lim->bd w' (Z.withOwn k xs'.length v') (.row o.sz k xs'.length) v'):=by
 obtain⟨v0,fw,a6,bD,bY,c5⟩:=h.good.own k o ad;rw[aC]at a6;cases a6;obtain⟨dc,oq,vu⟩:=c5 xs ae;have ax:lF w Z w' (Z.withOwn k xs'.length v'):=by
  refine⟨fun b i bg=>⟨bg,World.cell?_of_block (nF b fun e=>by subst e;exact vu b oW i bg)⟩,fun j b _ af=>af,fun g n u _ iU=>?_,fun b i bg=>xf (nF b fun e=>by subst e;exact vu b oW i bg),fun _ _ _ _ h=>h⟩;by_cases e:g=k
  ·subst e;rw[aC]at iU;cases iU;refine⟨xs'.length,v',by simp[bc.withOwn],?_⟩;rcases ay with⟨J,U⟩|J
   ·exact .inl ⟨J,U⟩
   ·exact .inr J
  ·exact⟨n,u,by simp[bc.withOwn,e,iU],.inl ⟨rfl,rfl⟩⟩
 have k4:∀g n u,(look g (cA k ⟨xs'.length,o.el,o.sz,some xs'⟩ st.e)).isSome->(Z.withOwn k xs'.length v').ow g=some (n,u)->∀b,u.ownBlock=some b->(look g st.e).isSome/\∃n u,Z.ow g=some (n,u)/\u.ownBlock=some b:=by
  intro g n u j7 iU b ab;by_cases e:g=k
  ·subst e;simp only[bc.withOwn,if_true,dC,jM]at iU;rw[<-iU.2,Gs]at ab;cases ab;exact⟨by simp[ad],o.n,v,aC,oW⟩
  ·rw[ja,if_neg (ld e)]at j7;simp only[bc.withOwn,e,if_false]at iU;exact⟨j7,n,u,iU,ab⟩
 refine⟨h.over ax rfl ⟨fun b i bg=>by rw[dS];exact h.good.alt b i bg,fun j eP af=>?_,h.good.inj,fun g o' dY=>?_,fun g ff n n' u fa b J U ar a8 b8 de=>?_,fun g j n u b J U ar a8 b8=>?_,fun j=>?_,fun b ab=>h.good.otr b (ab.imp id (fun⟨g,n,v,bB,a2,a3⟩=>by obtain⟨ck,iw,jf,ca,gf⟩:=k4 g n v bB a2 b a3;exact⟨g,iw,jf,ck,ca,gf⟩))⟩
  ⟨Aq.trans h.fr.os,K8.trans h.fr.tape,KV.trans h.fr.output,by rw[dS];exact h.fr.size,fun j af hm=>?_,fun b i bg=>?_,h.fr.fresh,h.fr.obj,h.fr.obn,fun m n u hm=>Ec (h.fr.row m n u hm) (fun n u=>ax.ow _ n u trivial),h.fr.obr,h.fr.trd,fun k j b ab=>⟨(h.fr.trb k j b ab).1,by rw[dS];exact(h.fr.trb k j b ab).2⟩,fun bI j b ab=>?_,fun b o bg=>(ax.sh b o (h.fr.keep b o bg).1).trans (h.fr.sh b o bg)⟩ (fun m hm=>?_),ax,?_⟩
 ·obtain⟨b,cm,fX,g1,g2,g3,g4,g5⟩:=h.good.box j eP af;have cK:b≠bl:=fun e=>h.good.obx k j o.n _ bl (by simp[ad]) (by simp[af]) aC oW (by rw[<-e];exact g1);exact⟨b,cm,fX,g1,g2,g3,by rw[nF b cK];exact g4,qz ax g5⟩
 ·simp only at dY;rw[ja]at dY;by_cases e:k=g
  ·rw[if_pos e]at dY;cases dY;subst e;refine⟨v',us,by simp[bc.withOwn],lO,fun b ab=>?_,fun ys aH=>?_⟩
   ·rw[Gs]at ab;cases ab;exact⟨(bY bl oW).1,fun j bg=>absurd bg (vu bl oW j)⟩
   ·simp only[dC]at aH;subst aH;exact⟨rfl,Bs ax aq,fun b ab=>by rw[Gs]at ab;cases ab;exact vu bl oW⟩
  ·rw[if_neg e]at dY;obtain⟨v0,fw,ao,aF,bA,dr⟩:=h.good.own g o' dY;have cK:∀b,v0.ownBlock=some b->b≠bl:=fun b ab JH=>e (h.good.oinj k g o.n o'.n _ v0 bl (by simp[ad]) (by simp[dY]) aC ao oW (by rw[<-JH];exact ab));refine⟨v0,fw,by simp[bc.withOwn,ld e,ao],⟨aF.1,?_⟩,bA,sG ax (fun _ _ _ h=>h) dr⟩;rcases aF.2 with aF|⟨bb,Cf,mI,f1,f2,f3,f4⟩
   ·exact .inl aF
   ·exact .inr ⟨bb,Cf,mI,f1,f2,by rw[nF bb (cK bb (by rw[f1];rfl))];exact f3,f4⟩
 ·obtain⟨bB,iw,jf,a2,a3⟩:=k4 g n u J ar b b8;obtain⟨ck,gp,jJ,ca,gf⟩:=k4 ff n' fa U a8 b de;exact h.good.oinj g ff iw gp jf jJ b bB ck a2 ca a3 gf
 ·obtain⟨bB,iw,jf,a2,a3⟩:=k4 g n u J ar b a8;exact h.good.obx g j iw jf b bB U a2 a3 b8
 ·by_cases e:j=k
  ·subst e;rcases h.good.one j with J|J
   ·exact .inl J
   ·rw[J]at aC;cases aC
  ·rcases h.good.one j with J|J
   ·exact .inl J
   ·exact .inr (by simp[bc.withOwn,e,J])
 ·rw[nF j fun e=>by subst e;exact(bY j oW).1.elim hm (fun g2=>Ω)];exact h.fr.block j af hm
 ·obtain⟨aU,bp⟩:=h.fr.keep b i bg;exact⟨aU,(ax.A b i aU).2.trans bp⟩
 ·obtain⟨t1,t2⟩:=h.fr.trn bI j b ab;have cK:bI≠k:=fun e=>by subst e;rw[t2]at aC;cases aC
  exact⟨t1,by simp[bc.withOwn,cK,t2]⟩
 ·obtain⟨aU,bp,b1⟩:=h.new m hm;refine⟨aU,?_,b1⟩;have:m≠k:=fun e=>by subst e;rw[bp]at aC;cases aC
  simp[bc.withOwn,this,bp]
 ·intro ir;simp only[bd];obtain⟨cap,KG⟩:=VX lO Gs;exact⟨⟨bl,cap,KG⟩,ir,xs'.length,v',by simp[bc.withOwn],eX _,fun _=>rfl⟩
theorem cZ.inPlace{C:fj}{st:bm}{a:Act}{w:World}{Z:bc}(h:cZ C st a w Z){k:aL}{o:fN}(ad:look k st.e=some o){bl cap:Nat}{cur:Array Value}(aC:Z.ow k=some (o.n,.slice (some ⟨bl,0,none⟩) o.n cap))
  (yb:w.heap[bl]? =some (.cells cur o.el (0,0))) (Ac:cap<=maxLen) (dS:cur.size=cap*o.sz) {xs ys:List ai} {us ns:List Value} (oY:xs.length=o.n) (q3:cur.toList.take (o.n*o.sz)=us) (aq:dB w Z o.sz xs us) (Ae:dB w Z o.sz ys ns)
  (fA:0<ys.length) (sd:o.n+ys.length<=cap) (ir:xs.length+ys.length<=lim):
  cZ C {st with e:=cA k ⟨o.n+ys.length,o.el,o.sz,none⟩ st.e} a (w.setRow bl (us++ns++cur.toList.drop (o.n*o.sz+ns.length)).toArray)
   (Z.withRowOf k (.slice (some ⟨bl,0,none⟩) (o.n+ys.length) cap) (o.n+ys.length) ((o.n+ys.length)*o.sz))/\
  bd (w.setRow bl (us++ns++cur.toList.drop (o.n*o.sz+ns.length)).toArray) (Z.withRowOf k (.slice (some ⟨bl,0,none⟩) (o.n+ys.length) cap) (o.n+ys.length) ((o.n+ys.length)*o.sz))
   (.slice o.sz (.own k) (xs++ys)) (.slice (some ⟨bl,0,none⟩) (o.n+ys.length) cap):=by
 have jV:=ub Ae;have sg:=ub aq;rw[oY]at sg;have hmul:(o.n+ys.length)*o.sz<=cap*o.sz:=Nat.mul_le_mul_right _ sd;rw[p2]at hmul;obtain⟨v0,fw,a6,bD,bY,_⟩:=h.good.own k o ad;rw[aC]at a6;cases a6;obtain⟨c5,dc⟩:=bY bl rfl;generalize pO:w.setRow bl (us++ns++cur.toList.drop (o.n*o.sz+ns.length)).toArray=w';have nF:∀j,j≠bl->w'.heap[j]? =w.heap[j]?:=fun j af=>by rw[<-pO];exact setRow_other w bl j _ af
 have j8:w'.heap[bl]? =some (.cells (us++ns++cur.toList.drop (o.n*o.sz+ns.length)).toArray o.el (0,0)):=by rw[<-pO];exact setRow_heap w bl cur _ o.el _ yb
 have K4:w'.heap.size=w.heap.size:=by rw[<-pO];exact setRow_size w bl _
 have mM:∀j,j<o.n*o.sz->w'.cell? ⟨bl,j,none⟩=w.cell? ⟨bl,j,none⟩:=by intro j af;simp only[World.cell?,j8,yb,lD,gO,if_false];rw[List.getElem?_toArray,List.append_assoc,List.getElem?_append_left Ω,<-q3,List.getElem?_take,if_pos af];simp
 have ax:lF w Z w' (Z.withRowOf k (.slice (some ⟨bl,0,none⟩) (o.n+ys.length) cap) (o.n+ys.length) ((o.n+ys.length)*o.sz)):=by
  refine⟨fun b j bg=>⟨.inl bg,?_⟩,fun j b _ af=>af,fun g n u _ iU=>?_,fun b j bg=>?_,fun _ _ _ _ h=>h⟩;rotate_left 2
  ·by_cases e:b=bl
   ·subst e;simp only[shape,j8,yb,List.size_toArray,pf,sZ,Array.length_toList];congr 2;omega
   ·exact xf (nF b e)
  ·by_cases e:b=bl
   ·subst e;exact mM j (dc j bg)
   ·exact World.cell?_of_block (nF b e)
  ·by_cases e:g=k
   ·subst e;rw[aC]at iU;cases iU;exact⟨o.n+ys.length,.slice (some ⟨bl,0,none⟩) (o.n+ys.length) cap,by simp[bc.withRowOf],.inr Ω⟩
   ·exact⟨n,u,by simp[bc.withRowOf,e,iU],.inl ⟨rfl,rfl⟩⟩
 have k4:∀g,(look g (cA k ⟨o.n+ys.length,o.el,o.sz,none⟩ st.e)).isSome->g=k\/(g≠k/\(look g st.e).isSome/\(Z.withRowOf k (.slice (some ⟨bl,0,none⟩) (o.n+ys.length) cap) (o.n+ys.length) ((o.n+ys.length)*o.sz)).ow g=Z.ow g):=by
  intro g j7;by_cases e:g=k
  ·exact .inl e
  ·rw[ja,if_neg (ld e)]at j7;exact .inr ⟨e,j7,by simp[bc.withRowOf,e]⟩
 have apd:bl<w.heap.size:=(Array.getElem?_eq_some_iff.1 yb).1;have aeC:∀j u,(us++ns)[j]? =some u->w'.cell? ⟨bl,j,none⟩=some u:=by intro j u af;have Ak:=(fb.1 af).1;simp only[World.cell?,j8,lD,gO,if_false];rw[List.getElem?_toArray,List.getElem?_append_left Ak];exact af
 refine⟨h.over ax rfl ⟨fun b j bg=>?_,fun j eP af=>?_,h.good.inj,fun g o' dY=>?_,fun g ff n n' u fa b J U ar a8 b8 de=>?_,fun g j n u b J U ar a8 b8=>?_,fun j=>?_,fun b ab=>h.good.otr b ?_⟩
  ⟨by rw[<-pO];exact h.fr.os,by rw[<-pO];exact h.fr.tape,by rw[<-pO];exact h.fr.output,by rw[K4];exact h.fr.size,fun j af hm=>?_,fun b j bg=>?_,fun b j bg=>?_,h.fr.obj,h.fr.obn,fun m n u hm=>Ec (h.fr.row m n u hm) (fun n u=>ax.ow _ n u trivial),h.fr.obr,h.fr.trd,fun k j b ab=>⟨(h.fr.trb k j b ab).1,by rw[K4];exact(h.fr.trb k j b ab).2⟩,fun bI j b ab=>?_,fun b o bg=>(ax.sh b o (h.fr.keep b o bg).1).trans (h.fr.sh b o bg)⟩ (fun m hm=>?_),?_⟩
 ·rw[K4];rcases bg with bg|⟨bg,_⟩
  ·exact h.good.alt b j bg
  ·simp only[oD,dC]at bg;omega
 ·obtain⟨b,cm,fX,g1,g2,g3,g4,g5⟩:=h.good.box j eP af;have cK:b≠bl:=fun e=>h.good.obx k j o.n _ bl (by simp[ad]) (by simp[af]) aC rfl (by rw[<-e];exact g1);refine⟨b,cm,fX,g1,g2,fun i bg=>?_,by rw[nF b cK];exact g4,qz ax g5⟩;rcases bg with bg|⟨bg,_⟩
  ·exact g3 i bg
  ·simp only[oD,dC]at bg;exact cK bg.symm
 ·simp only at dY;rw[ja]at dY;by_cases e:k=g
  ·rw[if_pos e]at dY;cases dY;subst e;refine⟨.slice (some ⟨bl,0,none⟩) (o.n+ys.length) cap,us++ns,by simp[bc.withRowOf],⟨by rw[pf,sg,jV,p2],.inr ⟨bl,cap,_,rfl,Nat.zero_le _,j8,sd,Ac,?_,?_⟩⟩,fun b ab=>⟨?_,fun j bg=>?_⟩,fun ys aH=>by cases aH⟩
   ·simp only[List.size_toArray,pf,sZ,Array.length_toList];omega
   ·have av:(us++ns).length=(o.n+ys.length)*o.sz:=by rw[pf,sg,jV,p2]
    simp only[<-av];rw[List.take_append_of_le_length (eX _),l6]
   ·simp only[oD,dC]at ab;subst ab;exact c5
   ·simp only[oD,dC]at ab;subst ab;rcases bg with bg|⟨_,bg⟩
    ·have:=dc j bg;simp only;rw[p2];omega
    ·exact bg
  ·rw[if_neg e]at dY;obtain⟨v0,fw,ao,aF,bA,dr⟩:=h.good.own g o' dY;have cK:∀b,v0.ownBlock=some b->b≠bl:=fun b ab JH=>e (h.good.oinj k g o.n o'.n _ v0 bl (by simp[ad]) (by simp[dY]) aC ao rfl (by rw[<-JH];exact ab));have wh:∀b,v0.ownBlock=some b->∀j,(Z.withRowOf k (.slice (some ⟨bl,0,none⟩) (o.n+ys.length) cap) (o.n+ys.length) ((o.n+ys.length)*o.sz)).A b j->Z.A b j:=fun b ab j bg=>by
    rcases bg with bg|⟨bg,_⟩
    ·exact bg
    ·simp only[oD,dC]at bg;exact absurd bg.symm (cK b ab)
   refine⟨v0,fw,by simp[bc.withRowOf,ld e,ao],⟨aF.1,?_⟩,fun b ab=>⟨(bA b ab).1,fun j bg=>(bA b ab).2 j (wh b ab j bg)⟩,sG ax wh dr⟩;rcases aF.2 with aF|⟨bb,Cf,mI,f1,f2,f3,f4⟩
   ·exact .inl aF
   ·exact .inr ⟨bb,Cf,mI,f1,f2,by rw[nF bb (cK bb (by rw[f1];rfl))];exact f3,f4⟩
 ·rcases k4 g J with rfl|⟨iw,gp,jr⟩<;>rcases k4 ff U with rfl|⟨m1,m2,m3⟩
  ·rfl
  ·exfalso;simp only[bc.withRowOf,if_true,dC,jM]at ar;rw[m3]at a8;rw[<-ar.2]at b8;simp only[oD,dC]at b8;subst b8;exact m1 (h.good.oinj ff g n' o.n fa _ bl m2 (by simp[ad]) a8 aC de rfl)
  ·exfalso;simp only[bc.withRowOf,if_true,dC,jM]at a8;rw[jr]at ar;rw[<-a8.2]at de;simp only[oD,dC]at de;subst de;exact iw (h.good.oinj g ff n o.n u _ bl gp (by simp[ad]) ar aC b8 rfl)
  ·rw[jr]at ar;rw[m3]at a8;exact h.good.oinj g ff n n' u fa b gp m2 ar a8 b8 de
 ·rcases k4 g J with rfl|⟨iw,gp,jr⟩
  ·simp only[bc.withRowOf,if_true,dC,jM]at ar;rw[<-ar.2]at a8;simp only[oD,dC]at a8;subst a8;exact h.good.obx g j o.n _ bl (by simp[ad]) U aC rfl b8
  ·rw[jr]at ar;exact h.good.obx g j n u b gp U ar a8 b8
 ·by_cases e:j=k
  ·subst e;rcases h.good.one j with J|J
   ·exact .inl J
   ·rw[J]at aC;cases aC
  ·rcases h.good.one j with J|J
   ·exact .inl J
   ·exact .inr (by simp[bc.withRowOf,e,J])
 ·rcases ab with ab|⟨g,n,u,bB,a2,a3⟩
  ·exact .inl ab
  ·rcases k4 g bB with rfl|⟨iw,gp,jr⟩
   ·simp only[bc.withRowOf,if_true,dC,jM]at a2;rw[<-a2.2]at a3;exact .inr ⟨g,_,_,by simp[ad],aC,a3⟩
   ·exact .inr ⟨g,n,u,gp,by rw[<-jr];exact a2,a3⟩
 ·rw[nF j fun e=>by subst e;exact c5.elim hm (fun g2=>Ω)];exact h.fr.block j af hm
 ·obtain⟨aU,bp⟩:=h.fr.keep b j bg;exact⟨.inl aU,(ax.A b j aU).2.trans bp⟩
 ·rcases bg with bg|⟨bg,_⟩
  ·exact h.fr.fresh b j bg
  ·simp only[oD,dC]at bg;subst bg;exact .inr c5
 ·obtain⟨t1,t2⟩:=h.fr.trn bI j b ab;have cK:bI≠k:=fun e=>by subst e;rw[t2]at aC;cases aC
  exact⟨t1,by simp[bc.withRowOf,cK,t2]⟩
 ·obtain⟨aU,bp,b1⟩:=h.new m hm;refine⟨aU,?_,b1⟩;have:m≠k:=fun e=>by subst e;rw[bp]at aC;cases aC
  simp[bc.withRowOf,this,bp]
 ·simp only[bd];refine⟨⟨some ⟨bl,0,none⟩,cap,by simp[oY],by simp;omega,⟨Ac,by simpa using ir⟩,.inr ⟨bl,0,us++ns,rfl,AP _ 0 fun j u af=>?_,D6 (Bs ax aq) (Bs ax Ae)⟩⟩,fun e=>(by cases e),fun g e=>?_,fun _ _ e=>(by cases e),fun _ e=>(by cases e)⟩
  ·have Ak:=(fb.1 af).1;rw[Nat.zero_add];refine⟨.inr ⟨rfl,?_⟩,aeC j u af⟩;rw[pf,sg,jV]at Ak;rw[p2];exact Ak
  ·cases e;exact⟨o.n+ys.length,.slice (some ⟨bl,0,none⟩) (o.n+ys.length) cap,by simp[bc.withRowOf],by simp[oY],fun _=>rfl⟩
theorem H0{P:cL}{w:World}{t ty e:gP}{i:TypeInfo}(aM:P.underlying t=some (.slice e))(hi:P.info? e=some i)(b:Option Addr)(n cap:Nat)(ay:n<=cap)(x:Option Addr)(c:Nat):
  (Builtin.append_ #[t,t] ty #[.slice b n cap,.slice x 0 c]).run P w= .ok (.slice b n cap) w:=by
 cases b<;>cases x<;>simp[Builtin.append_,run_underlying aM,sizeOf,typeInfo,hi,Builtin.lenOf,ay,Builtin.firstCells,loadCells,loadCellsFrom,storeCells]
inductive eh where
 |v (d:Nat) (i:fV)
 |box (d:Nat) (key:Option Nat) (x:dt)
 |alloc (d:Nat) (key:Option Nat) (zero:ai)
 |store (sz:Nat) (x y:dt)
 |bsl (d:Nat) (sz el:Nat) (xs:List dt)
 |app (d:Nat) (sz el:Nat) (x y:dt)
 |bslm (d:Nat) (key:Option Nat) (sz el:Nat) (xs:List dt)
 |appm (d:Nat) (key:Option Nat) (sz el:Nat) (x y:dt)
 |mkmap (d:Nat) (key:Option Nat)
 |mput (cg:jO) (x k v:dt)
 |range (d:Nat) (key:Option Nat) (x:dt)
 |storeE (sz:Nat) (x y:dt)
 |mks (d:Nat) (key:Option Nat) (sz el:Nat) (z:ai) (x:dt)
def jZ(st:bm):Option Nat->aL
 |none=>.loc st.n
 |some m=>.obj m
def qq(st:bm):Option Nat->Prop
 |none=>.loc st.n∉st.o
 |some m=>.obj m∉st.o
def nM(st:bm):Option Nat->Nat
 |none=>st.n+1
 |some _=>st.n
def nN(st:bm):Option Nat->List aL
 |none=>st.o
 |some m=>.obj m::st.o
theorem wZ{st:bm}{key:Option Nat}(h:qq st key):fresh st.n st.o (jZ st key):=by cases key<;>simp[jZ,fresh,qq]at h⊢ <;>exact h
theorem w1{st:bm}{key:Option Nat}:∀j,fresh (nM st key) (nN st key) j->fresh st.n st.o j/\j≠jZ st key:=by
 intro j af;cases key<;>cases j<;>simp[fresh,nM,nN,jZ]at af⊢
 ·exact⟨⟨Ω,af.2⟩,Ω⟩
 ·exact af
 ·exact af
 ·exact⟨af.2,af.1⟩
def ta(sz:Nat):List ai->Prop
 |[]=>True
 |p::cH=>(eO p=true/\(cells p).length=sz)/\ta sz cH
def nK(cg:jO)(k v:ai):List ai->Option (List ai)
 | .hdm clock borns::kvs=>if vf cg k=false then none else match sw cg k v kvs with
  |some (some wU)=>some (.hdm clock borns::wU)
  |some none=>some (.hdm (clock+1) (borns++[clock])::(kvs++[k,v]))
  |none=>none
 |_=>none
def y2(m:aL):List ai->Option (List ai)
 | .hdm clock _::_=>some [.hdi clock [] clock,.gmap m]
 |_=>none
def tc(st:bm)(sz el:Nat)(x y:ai):Option ((Option (aL×List ai))×List ai):=
 match x,y with
 | .slice dK .nil _,.slice ju _ ys=>if dK=sz/\ju=sz then some (none,ys)else none
 | .row dK k n,.slice ju _ ys=>if dK=sz/\ju=sz then
   match look k st.e with
   |some ⟨n',fX,xl,some xs⟩=>if n'=n/\fX=el/\xl=sz then some (some (k,xs),ys)else none
   |_=>none
  else none
 |_,_=>none
def pY:ai->Nat->List ai->ai
 | .agg eP,f,cs=>.agg (ov eP f cs)
 |_,_,[q]=>q
 |_,_,_=>.junk
def rl(st:bm)(sz:Nat)(p v:ai):Option (Prop×bm):=
 match p with
 | .rptr dK k n i f=>match look k st.e with
  |some ⟨n',el,ju,some xs⟩=>if n'=n/\ju=dK then
    match xs[i]? with
    |some q=>some (eO q=true/\eO v=true/\(cells v).length=sz/\f+sz<=(cells q).length/\0<sz,{st with e:=cA k ⟨n',el,ju,some (xs.set i (pY q f (cells v)))⟩ st.e})
    |none=>none
   else none
  |_=>none
 |_=>none
def mv(st:bm):eh->Option (Prop×bm)
 | .mks d key sz el z x=>match ct st.t x with
  | .int _ n=>some (qq st key/\0<=n/\n<=lim,
    {t:=put d (.row sz (jZ st key) n.toNat) st.t,b:=st.b,e:=cA (jZ st key) ⟨n.toNat,el,sz,some (List.replicate n.toNat z)⟩ st.e,n:=nM st key,o:=nN st key})
  |_=>none
 | .bslm d key sz el xs=>some (qq st key/\ta sz (xs.map (ct st.t)),
   {t:=put d (.row sz (jZ st key) xs.length) st.t,b:=st.b,e:=cA (jZ st key) ⟨xs.length,el,sz,some (xs.map (ct st.t))⟩ st.e,n:=nM st key,o:=nN st key})
 | .appm d key sz el x y=>match tc st sz el (ct st.t x) (ct st.t y)with
  |some (none,ys)=>some (qq st key/\ys.length<=lim/\ys≠[],
    {t:=put d (.row sz (jZ st key) ys.length) st.t,b:=st.b,e:=cA (jZ st key) ⟨ys.length,el,sz,some ys⟩ st.e,n:=nM st key,o:=nN st key})
  |some (some (k,xs),ys)=>some (xs.length+ys.length<=lim,{st with t:=put d (.row sz k (xs.length+ys.length)) st.t,e:=cA k ⟨xs.length+ys.length,el,sz,some (xs++ys)⟩ st.e})
  |none=>none
 | .mkmap d key=>some (qq st key,{t:=put d (.gmap (jZ st key)) st.t,b:=cA (jZ st key) [.hdm 0 []] st.b,e:=st.e,n:=nM st key,o:=nN st key})
 | .mput cg x k v=>match ct st.t x with
  | .gmap m=>match look m st.b with
   |some cs=>match nK cg (ct st.t k) (ct st.t v) cs with
    |some cs'=>some (True,{st with b:=cA m cs' st.b})
    |none=>none
   |none=>none
  |_=>none
 | .range d key x=>match ct st.t x with
  | .gmap m=>match look m st.b with
   |some cs=>match y2 m cs with
    |some cs'=>some (qq st key,{t:=put d (.ptr (jZ st key) 0) st.t,b:=cA (jZ st key) cs' st.b,e:=st.e,n:=nM st key,o:=nN st key})
    |none=>none
   |none=>none
  |_=>none
 | .v d i=>match hs st i with
  |some (c,p)=>some (c,{st with t:=put d p st.t})
  |none=>none
 | .storeE sz x y=>rl st sz (ct st.t x) (ct st.t y)
 | .box d key x=>some (qq st key/\eO (ct st.t x)=true,
   {t:=put d (.ptr (jZ st key) 0) st.t,b:=cA (jZ st key) (cells (ct st.t x)) st.b,e:=st.e,n:=nM st key,o:=nN st key})
 | .alloc d key z=>some (qq st key,{t:=put d (.ptr (jZ st key) 0) st.t,b:=cA (jZ st key) (cells z) st.b,e:=st.e,n:=nM st key,o:=nN st key})
 | .store sz x y=>match ct st.t x with
  | .ptr k off=>match look k st.b with
   |some cs=>some (hV cs=true/\eO (ct st.t y)=true/\(cells (ct st.t y)).length=sz/\off+sz<=cs.length,{st with b:=cA k (ov cs off (cells (ct st.t y))) st.b})
   |none=>none
  |p=>rl st sz p (ct st.t y)
 | .bsl d sz el xs=>some (qq st none/\ta sz (xs.map (ct st.t)),
   {st with t:=put d (.slice sz (.own (.loc st.n)) (xs.map (ct st.t))) st.t,e:=cA (.loc st.n) ⟨xs.length,el,sz,none⟩ st.e,n:=st.n+1})
 | .app d sz el x y=>match ct st.t x,ct st.t y with
  | .slice dK tag xs,.slice ju _ ys=>if dK=sz/\ju=sz then
    match tag with
    | .own k=>match look k st.e with
     |some o=>some (o.n=xs.length/\o.el=el/\o.sz=sz/\xs.length+ys.length<=lim,
       {st with t:=put d (.slice sz (.own k) (xs++ys)) st.t,e:=cA k ⟨xs.length+ys.length,el,sz,none⟩ st.e})
     |none=>none
    | .nil=>some (qq st none/\ys.length<=lim,{st with t:=put d (.slice sz (.own (.loc st.n)) ys) st.t,e:=cA (.loc st.n) ⟨ys.length,el,sz,none⟩ st.e,n:=st.n+1})
    |_=>none
   else none
  |_,_=>none
def eD(κ:aL)(n':Nat)(o':List aL)(st:bm):eh->Option (Prop×bm)
 | .mks d _ sz el z x=>match ct st.t x with
  | .int _ n=>some (0<=n/\n<=lim,
    {t:=put d (.row sz κ n.toNat) st.t,b:=st.b,e:=cA κ ⟨n.toNat,el,sz,some (List.replicate n.toNat z)⟩ st.e,n:=n',o:=o'})
  |_=>none
 | .bslm d _ sz el xs=>some (ta sz (xs.map (ct st.t)),
   {t:=put d (.row sz κ xs.length) st.t,b:=st.b,e:=cA κ ⟨xs.length,el,sz,some (xs.map (ct st.t))⟩ st.e,n:=n',o:=o'})
 | .appm d _ sz el x y=>match tc st sz el (ct st.t x) (ct st.t y)with
  |some (none,ys)=>some (ys.length<=lim/\ys≠[],
    {t:=put d (.row sz κ ys.length) st.t,b:=st.b,e:=cA κ ⟨ys.length,el,sz,some ys⟩ st.e,n:=n',o:=o'})
  |some (some (k,xs),ys)=>some (xs.length+ys.length<=lim,{st with t:=put d (.row sz k (xs.length+ys.length)) st.t,e:=cA k ⟨xs.length+ys.length,el,sz,some (xs++ys)⟩ st.e})
  |none=>none
 | .mkmap d _=>some (True,{t:=put d (.gmap κ) st.t,b:=cA κ [.hdm 0 []] st.b,e:=st.e,n:=n',o:=o'})
 | .mput cg x k v=>match ct st.t x with
  | .gmap m=>match look m st.b with
   |some cs=>match nK cg (ct st.t k) (ct st.t v) cs with
    |some cs'=>some (True,{st with b:=cA m cs' st.b})
    |none=>none
   |none=>none
  |_=>none
 | .range d _ x=>match ct st.t x with
  | .gmap m=>match look m st.b with
   |some cs=>match y2 m cs with
    |some cs'=>some (True,{t:=put d (.ptr κ 0) st.t,b:=cA κ cs' st.b,e:=st.e,n:=n',o:=o'})
    |none=>none
   |none=>none
  |_=>none
 | .v d i=>match hs st i with
  |some (c,p)=>some (c,{st with t:=put d p st.t})
  |none=>none
 | .storeE sz x y=>rl st sz (ct st.t x) (ct st.t y)
 | .box d _ x=>some (eO (ct st.t x)=true,{t:=put d (.ptr κ 0) st.t,b:=cA κ (cells (ct st.t x)) st.b,e:=st.e,n:=n',o:=o'})
 | .alloc d _ z=>some (True,{t:=put d (.ptr κ 0) st.t,b:=cA κ (cells z) st.b,e:=st.e,n:=n',o:=o'})
 | .store sz x y=>match ct st.t x with
  | .ptr k off=>match look k st.b with
   |some cs=>some (hV cs=true/\eO (ct st.t y)=true/\(cells (ct st.t y)).length=sz/\off+sz<=cs.length,{st with b:=cA k (ov cs off (cells (ct st.t y))) st.b})
   |none=>none
  |p=>rl st sz p (ct st.t y)
 | .bsl d sz el xs=>some (ta sz (xs.map (ct st.t)),
   {st with t:=put d (.slice sz (.own κ) (xs.map (ct st.t))) st.t,e:=cA κ ⟨xs.length,el,sz,none⟩ st.e,n:=n',o:=o'})
 | .app d sz el x y=>match ct st.t x,ct st.t y with
  | .slice dK tag xs,.slice ju _ ys=>if dK=sz/\ju=sz then
    match tag with
    | .own k=>match look k st.e with
     |some o=>some (o.n=xs.length/\o.el=el/\o.sz=sz/\xs.length+ys.length<=lim,
       {st with t:=put d (.slice sz (.own k) (xs++ys)) st.t,e:=cA k ⟨xs.length+ys.length,el,sz,none⟩ st.e})
     |none=>none
    | .nil=>some (ys.length<=lim,{st with t:=put d (.slice sz (.own κ) ys) st.t,e:=cA κ ⟨ys.length,el,sz,none⟩ st.e,n:=n',o:=o'})
    |_=>none
   else none
  |_,_=>none
def w4:Nat->List dt->List (Nat×Operand)->Bool
 |_,[],[]=>true
 |i,x::xs,(j,o)::os=>i==j&&ef x o&&w4 (i+1) xs os
 |_,_,_=>false
def Ee(N:Nat)(bC:List (Nat×dz))(i:eh)(o:Oper):Bool:=
 match i,o.op with
 | .mkmap d _,.makeMap _ none=>o.dst==some d&&decide (d<N)
 | .mput cg x k v,.mapUpdate t hf gU qy=>o.dst==none&&(match eb bC t with|some ⟨_,_,.map mY _,_⟩=>yC bC cg mY|_=>false)&&ef x hf&&ef k gU&&ef v qy
 | .mput cg x k v,.insert t hf gU qy=>o.dst==none&&(match eb bC t with|some ⟨_,_,.map mY _,_⟩=>yC bC cg mY|_=>false)&&ef x hf&&ef k gU&&ef v qy
 | .range d _ x,.range t hf=>o.dst==some d&&decide (d<N)&&(match eb bC t with|some ⟨_,_,.map _ _,_⟩=>true|_=>false)&&ef x hf
 | .v d i,op=>o.dst==some d&&decide (d<N)&&Ey bC i op
 | .box d _ x,.box _ o'=>o.dst==some d&&decide (d<N)&&ef x o'
 | .alloc d _ z,.alloc el=>o.dst==some d&&decide (d<N)&&(match eb bC el with|some f=>BS z f.zero|none=>false)
 | .store sz x y,.store t o' js=>o.dst==none&&(match eb bC t with|some f=>f.size==sz|none=>false)&&ef x o'&&ef y js
 | .bsl d sz el xs,.buildSlice t len parts=>o.dst==some d&&decide (d<N)&&(match eb bC t with|some ⟨_,_,.slice fX,_⟩=>el==fX|_=>false)&&(match eb bC el with|some f=>f.size==sz&&decide (0<sz)|none=>false)
   &&len==xs.length&&decide (len*sz<=16777216)&&w4 0 xs parts.toList
 | .app d sz el x y,.call ⟨.builtin .append,⟨[o',js]⟩,⟨[t,dE]⟩⟩=>o.dst==some d&&decide (d<N)&&t==dE&&(match eb bC t with|some ⟨_,_,.slice fX,_⟩=>el==fX|_=>false)
   &&(match eb bC el with|some f=>f.size==sz&&decide (0<sz)&&decide (f.bytes<=2048)|none=>false)&&ef x o'&&ef y js
 | .bslm d _ sz el xs,.buildSlice t len parts=>o.dst==some d&&decide (d<N)&&(match eb bC t with|some ⟨_,_,.slice fX,_⟩=>el==fX|_=>false)&&(match eb bC el with|some f=>f.size==sz&&decide (0<sz)|none=>false)
   &&len==xs.length&&decide (len*sz<=16777216)&&w4 0 xs parts.toList
 | .appm d _ sz el x y,.call ⟨.builtin .append,⟨[o',js]⟩,⟨[t,dE]⟩⟩=>o.dst==some d&&decide (d<N)&&t==dE&&(match eb bC t with|some ⟨_,_,.slice fX,_⟩=>el==fX|_=>false)
   &&(match eb bC el with|some f=>f.size==sz&&decide (0<sz)&&decide (f.bytes<=2048)|none=>false)&&ef x o'&&ef y js
 | .storeE sz x y,.store t o' js=>o.dst==none&&(match eb bC t with|some f=>f.size==sz|none=>false)&&ef x o'&&ef y js
 | .mks d _ sz el z x,.makeSlice t o' js=>o.dst==some d&&decide (d<N)&&(match eb bC t with|some ⟨_,_,.slice fX,_⟩=>el==fX|_=>false)
   &&(match eb bC el with|some f=>f.size==sz&&decide (0<sz)&&decide (f.bytes<=2048)&&BS z f.zero|none=>false)&&ef x o'&&ef x js
 |_,_=>false
theorem Xp{w:World}{Z:bc}{C:fj}{st:bm}{a:Act}(aJ:cZ C st a w Z){sz:Nat}:
  ∀(xs:List dt) (i:Nat) (os:List (Nat×Operand)) (pre:List ai) (us:Array Value) (ba:List Value),w4 i xs os=true->ta sz (xs.map (ct st.t))->us.toList.take (i*sz)=ba->dB w Z sz pre ba->i=pre.length->us.size=(i+xs.length)*sz->
  ∃cm:Array Value,Instr.fill (fun i=>some (i*sz,sz)) us (os.map fun(x:Nat×Operand)=>(x.1,a.eval x.2))=some cm/\dB w Z sz (pre++xs.map (ct st.t)) cm.toList/\cm.size=us.size
 |[],i,[],pre,us,ba,_,_,aC,h,hi,ag=>by refine⟨us,by simp[Instr.fill],?_,rfl⟩;have av:=ub h;have:us.toList.take (i*sz)=us.toList:=hx (by simp at ag⊢;omega);rw[this]at aC;simpa[aC]using h
 |[],_,_::_,_,_,_,eA,_,_,_,_,_=>by simp[w4]at eA
 |_::_,_,[],_,_,_,eA,_,_,_,_,_=>by simp[w4]at eA
 |x::xs,i,(j,o)::os,pre,us,ba,eA,bk,aC,h,hi,ag=>by
  simp only[w4,cE,dL]at eA;obtain⟨⟨rfl,J⟩,U⟩:=eA;simp only[hk,ta]at bk;obtain⟨⟨lu,hlen⟩,bk⟩:=bk;have ae:=eg aJ J;have kI:=vA ae lu;have Ad:=pW kI;have di:(a.eval o).cells.size=sz:=by rw[hlen]at Ad;simpa using Ad
  have hmul:i*sz+sz<=us.size:=by rw[ag,l5,show i+(xs.length+1)=(i+1)+xs.length from by omega,p2,Nat.succ_mul];omega
  have yt:=J3 (w:=w) (Z:=Z) (a.eval o).cells.toList 0 (i*sz) us (by simp[di];omega);have jW:dB w Z sz (pre++[ct st.t x]) (ba++(a.eval o).cells.toList):=by refine D6 h ?_;simp only[dB];exact⟨a.eval o,[],Ψ,⟨ae,di,Bu kI⟩,rfl⟩
  have jl:ba.length=i*sz:=by rw[<-aC];simp;omega
  obtain⟨cm,g1,g2,g3⟩:=Xp aJ xs (i+1) os (pre++[ct st.t x]) (((a.eval o).cells.toList.zipIdx 0).foldl (fun cs (x:Value×Nat)=>cs.setIfInBounds (i*sz+x.2) x.1) us) (ba++(a.eval o).cells.toList) U bk
   (by
    rw[yt];simp only[Nat.add_zero];rw[aC];have:(ba++(a.eval o).cells.toList).length=(i+1)*sz:=by rw[pf,jl,Nat.succ_mul];simp[di]
    rw[<-this,List.take_append_of_le_length (eX _),l6]) jW (by simp[hi])
   (by have bE:=eK List.length yt;simp only[Array.length_toList,pf,List.length_take,sZ,di]at bE;rw[bE,ag,l5,show i+(xs.length+1)=i+1+xs.length from by omega];rw[ag,l5,show i+(xs.length+1)=i+1+xs.length from by omega]at hmul;omega)
  refine⟨cm,?_,by simpa using g2,?_⟩
  ·simp only[hk,Instr.fill];rw[if_neg (by simp[di];omega),<-g1];congr 1;rw[<-Array.foldl_toList];simp
  ·rw[g3];have bE:=eK List.length yt;simp only[Array.length_toList,pf,List.length_take,sZ,di]at bE;rw[bE];omega
theorem mz{P:cL}{o:Oper}{a:Act}{w w':World}{v:Value}{K:Act->World->Prop}{Q:Exit->Act->World->Prop}(h:(execOp a.eval o).run P w= .ok (.value v) w')(ad:K (a.put o.dst v) w'):o.wp P a w K Q:=by unfold Oper.wp;rw[h];exact ad
theorem EI{P:cL}{o:Oper}{a:Act}{w w':World}{K:Act->World->Prop}{Q:Exit->Act->World->Prop}(h:(execOp a.eval o).run P w= .ok .skip w')(ad:K (a.put o.dst undef) w'):o.wp P a w K Q:=by unfold Oper.wp;rw[h];exact ad
theorem EB{P:cL}{w w':World}{x:Sem Value}{v:Value}(h:x.run P w= .ok v w'):(do pure (Next.value (<-x)):Sem Next).run P w= .ok (.value v) w':=by simp[h]
theorem Xn{P:cL}{bC:List (Nat×dz)}(aM:fI P bC=true){C:fj}{st:bm}{a:Act}{w:World}{Z:bc}(aJ:cZ C st a w Z){t el:Nat}{f g:dz}(aR:eb bC t=some f)(ad:f.kind= .slice el)(aX:eb bC el=some g)
  {xs:List dt} {os:List (Nat×Operand)} (eA:w4 0 xs os=true) (dS:ta g.size (xs.map (ct st.t))) (hlen:xs.length*g.size<=16777216):
  ∃us:Array Value,(Instr.buildSlice t xs.length (os.map fun(x:Nat×Operand)=>(x.1,a.eval x.2)).toArray).run P w= .ok (.slice (some ⟨w.heap.size,0,none⟩) xs.length xs.length) (w.alloc (.cells us el))/\
   dB w Z g.size (xs.map (ct st.t)) us.toList/\us.size=xs.length*g.size:=by
 obtain⟨d,aN,e2⟩:=je aM aR;rw[ad]at e2;obtain rfl:=tf e2;obtain⟨_,ag⟩:=vK aM aX w;obtain⟨z,yx,TT,apz⟩:=NN aM aX w;have ay:¬xs.length*g.size>2 ^ 24:=Ω
 let init:Array Value:=if xs.length*g.size=0 then(Array.range (xs.length*g.size)).map ((#[]:Array Value)[· %(#[]:Array Value).size]!)else(Array.range (xs.length*g.size)).map (z.cells[· %z.cells.size]!)
 have Tf:init.size=xs.length*g.size:=by simp only[init];split<;>simp
 obtain⟨cm,g1,g2,g3⟩:=Xp (a:=a) aJ xs 0 os [] init [] eA dS Ψ (by simp[dB]) rfl (by rw[Tf];simp);refine⟨cm,?_,by simpa using g2,by rw[g3,Tf]⟩;simp only[init]at g1;by_cases bE:xs.length*g.size=0
 ·rw[if_pos bE]at g1;rw[bE]at g1;have aef:¬(0:Nat)>2 ^ 24:=by decide
  simp only[Instr.buildSlice,fL,run_underlying aN,fR,ag,if_false,gB,bE,if_true,aef,g1,newRow,run_newObj];rfl
 ·rw[if_neg bE]at g1;simp only[Instr.buildSlice,fL,run_underlying aN,fR,ag,ay,if_false,gB,bE,yx,g1,newRow,run_newObj];rfl
theorem DF{P:cL}{w:World}{Z:bc}{cg:jO}{t:gP}(aN:uu P cg t){k v:ai}{hc Oh:Value}(ad:bd w Z k hc)(aC:bd w Z v Oh):
  ∀(borns:List Nat) (kvs:List ai) (us:List Value) (i:Nat) (r:Option (List ai)),cX w Z kvs us->kvs.length=2*borns.length->sw cg k v kvs=some r->
  match r with
  |none=>h7 P w cg t hc (fy borns us) i none
  |some wU=> ∃j u cm e,h7 P w cg t hc (fy borns us) i (some (i+j,u))/\cX w Z wU cm/\wU.length=kvs.length/\(fy borns us)[j]? =some e/\e.key=hc/\Instr.sameBits 10000 e.key hc=true/\fy borns cm=(fy borns us).modify j (fun e=>{e with key:=hc,val:=Oh})
 |[],[],us,i,r,h,_,hm=>by simp only[sw]at hm;cases hm;simp only[cX]at h;subst h;simpa[fy]using h7.nil P w cg t hc i
 |[],_::_,_,_,_,_,av,_=>by simp at av
 |b::eT,[],_,_,_,_,av,_=>by simp at av
 |b::eT,[_],_,_,_,_,av,_=>by simp at av;omega
 |b::eT,bI::v'::kvs,us,i,r,h,av,hm=>by
  simp only[cX]at h;obtain⟨jf,NS,rfl,J,jJ,sS,rfl,U,ar⟩:=h;simp only[sw]at hm;simp only[fy];cases bF:q7 cg k bI with
  |none=>simp[bF]at hm
  |some bb=>
   obtain⟨s1,s2⟩:=Uq aN ad J bF;simp only[bF]at hm;cases bb with
   |true=>simp only[dC]at hm;subst hm;obtain⟨rfl,s3⟩:=s2 rfl;refine⟨0,jJ,jf::Oh::sS,⟨jf,jJ,b⟩,h7.hit (e:=⟨jf,jJ,b⟩) s1,?_,Ψ,Ψ,rfl,s3,by simp[fy]⟩;simp only[cX];exact⟨_,_,rfl,ad,_,_,rfl,aC,ar⟩
   |false=>
    simp only at hm;have bU:=fun eM dH=>DF aN ad aC eT kvs sS (i+1) eM ar (by simp at av;omega) dH;split at hm
    ·rename_i eM dH;cases hm;obtain⟨j,u,cm,e,g1,g2,g3,g4,g5,g6,g7⟩:=bU _ dH;refine⟨j+1,u,jf::jJ::cm,e,h7.miss (e:=⟨jf,jJ,b⟩) s1 (by rw[show i+(j+1)=i+1+j from by omega];exact g1),?_,by simp[g3],by simpa using g4,g5,g6,by simp[fy,g7]⟩;simp only[cX];exact⟨_,_,rfl,J,_,_,rfl,U,g2⟩
    ·rename_i dH;cases hm;exact h7.miss (e:=⟨jf,jJ,b⟩) s1 (bU _ dH)
    ·cases hm
theorem JK:∀(borns:List Nat) (us:List Value) (b:Nat) (k v:Value),us.length=2*borns.length->fy (borns++[b]) (us++[k,v])=fy borns us++[⟨k,v,b⟩]
 |[],us,b,k,v,h=>by have:us=[]:=List.eq_nil_of_length_eq_zero (by simpa using h);subst this;simp[fy]
 |b0::eT,[],b,k,v,h=>by simp at h
 |b0::eT,[_],b,k,v,h=>by simp at h;omega
 |b0::eT,bI::v'::us,b,k,v,h=>by simp only[bO,fy,JK eT us b k v (by simp at h;omega)]
theorem Nb{w:World}{Z:bc}:∀{cH bN:List ai} {ba us:List Value},cX w Z cH ba->cX w Z bN us->cX w Z (cH++bN) (ba++us)
 |[],bN,ba,us,h,b4=>by simp only[cX]at h;subst h;simpa using b4
 |p::cH,bN,ba,us,h,b4=>by simp only[cX]at h;obtain⟨u,cm,rfl,J,U⟩:=h;simp only[bO,cX];exact⟨u,_,rfl,J,Nb U b4⟩
theorem HQ{w:World}{Z:bc}:∀{cH:List ai} {ba:List Value},cX w Z cH ba->ba.length=cH.length
 |[],ba,h=>by simp only[cX]at h;subst h;rfl
 |p::cH,ba,h=>by simp only[cX]at h;obtain⟨u,cm,rfl,_,U⟩:=h;simp[HQ U]
theorem Ed{P:cL}{w:World}{r:Nat}{o o':Obj}(ab:w.heap[r]? =some o)(ay:∀c e f,o≠ .cells c e f:=by simp):(setObj r o').run P w= .ok () {w with heap:=w.heap.setIfInBounds r o'}:=by simp only[setObj,Sem.run,ab]
def eh.makes(st:bm):eh->Bool
 | .box _ _ _| .alloc _ _ _| .bsl _ _ _ _| .bslm _ _ _ _ _| .mkmap _ _| .range _ _ _| .mks _ _ _ _ _ _=>true
 | .appm _ _ _ _ x _=>match ct st.t x with
  | .slice _ .nil _=>true
  |_=>false
 | .app _ _ _ x _=>match ct st.t x with
  | .slice _ .nil _=>true
  |_=>false
 |_=>false
theorem cZ.forgetRow{C:fj}{st:bm}{a:Act}{w:World}{Z:bc}(aJ:cZ C st a w Z){k:aL}{ow:fN}(ad:look k st.e=some ow):cZ C {st with e:=cA k ⟨ow.n,ow.el,ow.sz,none⟩ st.e} a w Z:=by
 have ib:∀g,(look g (cA k ⟨ow.n,ow.el,ow.sz,none⟩ st.e)).isSome->(look g st.e).isSome:=fun g aX=>by
  rw[ja]at aX;split at aX
  ·rename_i e;subst e;simp[ad]
  ·exact aX
 refine⟨⟨aJ.good.alt,aJ.good.box,aJ.good.inj,fun g o aX=>?_,fun g ff n n' v v' bl bB a2=>aJ.good.oinj g ff n n' v v' bl (ib g bB) (ib ff a2),fun g j n v bl bB=>aJ.good.obx g j n v bl (ib g bB),aJ.good.one,fun bl ab=>aJ.good.otr bl (ab.imp id (fun⟨g,n,v,bB,a2⟩=>⟨g,n,v,ib g bB,a2⟩))⟩,aJ.fr,aJ.defers,aJ.size,aJ.slot,aJ.new⟩;simp only at aX;rw[ja]at aX;split at aX
 ·rename_i e;subst e;cases aX;obtain⟨v,us,a6,bD,bY,_⟩:=aJ.good.own k ow ad;exact⟨v,us,a6,bD,bY,fun xs ae=>by cases ae⟩
 ·exact aJ.good.own g o aX
theorem VY{w:World}{base el sz n:Nat}{v:Value}{us:List Value}(h:w.ownsRow base el sz v n us)(ay:0<n):∃b cap,v= .slice (some ⟨b,0,none⟩) n cap:=by
 rcases h.2 with⟨ao,aF⟩|⟨bb,cap,cur,f1,_⟩
 ·omega
 ·exact⟨_,_,f1⟩
theorem HM{w:World}{Z:bc}{sz:Nat}:∀{xs:List ai} {us:List Value} {i:Nat} {q ga:ai} {fa:Value},dB w Z sz xs us->xs[i]? =some q->bd w Z ga fa->fa.cells.size=sz->(∀c∈fa.cells.toList,c.oneCell'=true)->dB w Z sz (xs.set i ga) (us.take (i*sz)++fa.cells.toList++us.drop (i*sz+sz))
 |[],_,_,_,_,_,_,bF,_,_,_=>by simp at bF
 |x::xs,us,0,q,ga,fa,h,bF,aJ,ag,ax=>by
  simp only[dB]at h;obtain⟨u,cm,rfl,⟨J,U,ar⟩,b8⟩:=h;have av:u.cells.toList.length=sz:=by simpa using U
  simp only[List.set_cons_zero,dB];refine⟨fa,cm,?_,⟨aJ,ag,ax⟩,b8⟩;simp[<-av]
 |x::xs,us,i+1,q,ga,fa,h,bF,aJ,ag,ax=>by
  simp only[dB]at h;obtain⟨u,cm,rfl,⟨J,U,ar⟩,b8⟩:=h;have av:u.cells.toList.length=sz:=by simpa using U
  have bU:=HM b8 (by simpa using bF) aJ ag ax;simp only[List.set_cons_succ,dB];refine⟨u,_,?_,⟨J,U,ar⟩,bU⟩;have e:(i+1)*sz+sz=u.cells.toList.length+(i*sz+sz):=by rw[av,Nat.succ_mul];omega
  rw[XG _ _ _ _ av,e,<-List.drop_drop];simp
theorem ak5{w:World}{Z:bc}{q:ai}{v:Value}(bF:bd w Z q v)(ag:eO q=true){cs:List ai}{us:List Value}(aq:ds w Z cs us){f:Nat}(aR:f+us.length<=v.cells.size)(cK:us≠[]):
  ∃v',bd w Z (pY q f cs) v'/\v'.cells.toList=v.cells.toList.take f++us++v.cells.toList.drop (f+us.length)/\v'.cells.size=v.cells.size/\∀c∈v'.cells.toList,c.oneCell'=true:=by
 have hlen:=pW aq;have k3:=vA bF ag;by_cases bk:∃eP,q= .agg eP
 ·obtain⟨eP,rfl⟩:=bk;simp only[bd]at bF;obtain⟨ba,rfl,k6⟩:=bF;simp only[pe]at aR⊢;have j8:ds w Z (ov eP f cs) (ba.toList.take f++us++ba.toList.drop (f+us.length)):=by unfold ov;rw[hlen];exact y4 (y4 (D8 f k6) aq) (Bt _ k6)
  refine⟨.agg (ba.toList.take f++us++ba.toList.drop (f+us.length)).toArray,by simp only[pY,bd];exact⟨_,rfl,by simpa using j8⟩,by simp[pe],?_,fun c hH=>?_⟩
  ·simp[pe];omega
  ·exact Bu j8 c (by simpa[pe]using hH)
 ·have nz:∀cs,q≠ .agg cs:=fun cs e=>bk ⟨cs,e⟩;obtain⟨J,U⟩:=Nc bF ag nz;rw[U]at aR⊢;match us,cK,aq with
  |u::cm,_,aq=>
   simp at aR;obtain⟨rfl,rfl⟩:f=0/\cm=[]:=⟨Ω,List.length_eq_zero_iff.1 Ω⟩;match cs,aq,hlen with
   |[c],aq,_=>
    simp only[ds]at aq;obtain⟨BH,fw,ao,⟨Kx,CL⟩,_⟩:=aq;cases ao;have hu:u.cells= #[u]:=by cases u<;>first|rfl|cases CL
    have Av:pY q 0 [c]=c:=by cases q<;>first|rfl|exact absurd rfl (nz _)
    rw[Av];refine⟨u,Kx,by simp[hu],by simp[hu],fun c hH=>?_⟩;rw[hu]at hH;simp at hH;subst hH;exact CL
theorem alO{α:Type}(A us:List α)(a f sz N:Nat)(J:f+us.length<=sz)(U:a+sz<=N)(ar:N<=A.length):
  ((A.take (a+f)++us++A.drop (a+f+us.length)).toArray.toList).take N=(A.take N).take a++((((A.take N).drop a).take sz).take f++us++(((A.take N).drop a).take sz).drop (f+us.length))++(A.take N).drop (a+sz):=by
 have ao:(A.take N).take a++(((A.take N).drop a).take sz).take f=A.take (a+f):=by rw[List.take_take (i:=f),Nat.min_eq_left (show f<=sz by omega),<-List.take_add,List.take_take,Nat.min_eq_left Ω]
 have aF:(((A.take N).drop a).take sz).drop (f+us.length)++(A.take N).drop (a+sz)=(A.take N).drop (a+f+us.length):=by
  have av:f+us.length<=(((A.take N).drop a).take sz).length:=by simp;omega
  have p8:(A.take N).drop (a+sz)=((A.take N).drop a).drop sz:=by rw[List.drop_drop]
  rw[p8,<-List.drop_append_of_le_length av,List.take_append_drop,List.drop_drop];congr 1;omega
 have bA:(A.take N).drop (a+f+us.length)=(A.drop (a+f+us.length)).take (N-(a+f+us.length)):=by rw[List.drop_take]
 have av:(A.take (a+f)++us).length=a+f+us.length:=by simp;omega
 simp only[List.append_assoc]at*;rw[aF,bA,<-List.append_assoc (pj a _),ao];have me:N=(A.take (a+f)++us).length+(N-(a+f+us.length)):=by rw[av];omega
 rw[<-List.append_assoc,<-List.append_assoc];conv=>lhs;rw[me,List.take_length_add_append]
theorem cZ.storeRow{P:cL}{C:fj}{st:bm}{a:Act}{w:World}{Z:bc}(h:cZ C st a w Z){k:aL}{n el sz:Nat}{xs:List ai}(ad:look k st.e=some ⟨n,el,sz,some xs⟩){i f:Nat}{u:Value}(ae:bd w Z (.rptr sz k n i f) u){q:ai}(bF:xs[i]? =some q)(ag:eO q=true)
  {cs:List ai} {us:List Value} (aq:ds w Z cs us) (aR:f+us.length<=(cells q).length) (cK:us≠[]):
  ∃bl off mI,u= .pointer (some ⟨bl,off,none⟩)/\(storeCells ⟨bl,off,none⟩ us).run P w= .ok () (w.setRow bl mI)/\∃bn,cZ C {st with e:=cA k ⟨n,el,sz,some (xs.set i (pY q f cs))⟩ st.e} a (w.setRow bl mI) bn:=by
 simp only[bd]at ae;obtain⟨_,hi,n',fa,J,U,ar⟩:=ae;obtain⟨v,fw,a6,bD,bY,c5⟩:=h.good.own k _ ad;rw[J]at a6;simp only[dC,jM]at a6;obtain⟨rfl,rfl⟩:=a6;obtain⟨bl,ab,rfl⟩:=ar rfl;obtain⟨dc,oq,vu⟩:=c5 xs rfl;simp only at dc oq;obtain⟨v,eU,fP,pU⟩:=HK i oq bF;have Ad:=pW (vA eU ag);have afG:(cells q).length=sz:=by rw[<-Ad];simpa using fP
 have ks:f+us.length<=sz:=by rw[<-afG];exact aR
 have hmul:i*sz+sz<=n'*sz:=by have:=Nat.mul_le_mul_right sz (show i+1<=n' from hi);rwa[Nat.succ_mul]at this
 rcases bD.2 with⟨ao,aF⟩|⟨g,cap,cur,rfl,r5,KJ,KR,aeF,di,TN⟩
 ·rw[ao]at ab;simp[oD]at ab
 simp only[oD,dC]at ab;subst ab;simp only at TN di KR KJ;have Ac:n'*sz<=cur.size:=by rw[di];exact Nat.mul_le_mul_right sz KR
 have da:=run_storeCells_at P g (i*sz+f) el us 0 cur w KJ Ω (Bu aq);simp only[Nat.add_zero]at da;refine⟨g,i*sz+f,_,rfl,da,?_⟩;generalize yb:(cur.toList.take (i*sz+f)++us++cur.toList.drop (i*sz+f+us.length)).toArray=mI;obtain⟨v',c0,du,jd,vr⟩:=ak5 eU ag aq (f:=f) (by rw[fP];exact ks) cK;have mR:=HM oq bF c0 (by rw[jd,fP]) vr;have hlen:fw.length=n'*sz:=bD.1;have aft:mI.toList.take (n'*sz)=fw.take (i*sz)++v'.cells.toList++fw.drop (i*sz+sz):=by rw[<-yb,du,pU,<-TN];exact alO cur.toList us (i*sz) f sz (n'*sz) ks hmul (by simpa using Ac)
 have aeH:mI.size=cap*sz:=by rw[<-yb,<-di];simp;omega
 have apl:(xs.set i (pY q f cs)).length=n':=by simp[dc]
 obtain⟨ajS,_,_⟩:=h.setRowM (w':=w.setRow g mI) ad rfl J (bl:=g) rfl (v':= .slice (some ⟨g,0,none⟩) n' cap) rfl (xs':=xs.set i (pY q f cs)) (us:=fw.take (i*sz)++v'.cells.toList++fw.drop (i*sz+sz)) (.inl ⟨by simp[dc],rfl⟩) rfl rfl rfl (fun j af=>setRow_other w g j mI af) (setRow_size w g mI)
  ⟨by rw[ub mR],.inr ⟨g,cap,mI,by simp[dc],Nat.zero_le _,setRow_heap w g cur mI el _ KJ,by simpa[dc]using KR,aeF,aeH,by simpa[dc]using aft⟩⟩ mR
 exact⟨_,by simpa[dc]using ajS⟩
theorem ahc(z:Array Value)(n:Nat)(h:0<z.size):(madeCells z ((n+1)*z.size)).toList=z.toList++(madeCells z (n*z.size)).toList:=by
 apply List.ext_getElem?;intro j;rw[List.getElem?_append];have he:(n+1)*z.size=n*z.size+z.size:=by rw[p2,Nat.one_mul]
 simp only[madeCells,um,Array.length_toList,Array.getElem?_map];by_cases af:j<z.size
 ·rw[if_pos af,Array.getElem?_range,if_pos Ω];simp[Nat.mod_eq_of_lt af,af]
 ·rw[if_neg af,Array.getElem?_range,Array.getElem?_range];by_cases ad:j<n*z.size+z.size
  ·rw[if_pos Ω,if_pos Ω];simp only[oH];rw[<-Nat.mod_eq_sub_mod Ω]
  ·rw[if_neg Ω,if_neg Ω]
theorem UX{w:World}{Z:bc}{p:ai}{z:Value}(aJ:bd w Z p z)(h:0<z.cells.size)(ax:∀c∈z.cells.toList,c.oneCell'=true):∀n,dB w Z z.cells.size (List.replicate n p) (madeCells z.cells (n*z.cells.size)).toList
 |0=>by simp[dB,madeCells]
 |n+1=>by rw[ahc _ _ h];simp only[List.replicate_succ,dB];exact⟨z,_,rfl,⟨aJ,rfl,ax⟩,UX aJ h ax n⟩
theorem j2{P:cL}{bC:List (Nat×dz)}(aM:fI P bC=true){C:fj}{st st':bm}{a:Act}{w:World}{Z:bc}(aJ:cZ C st a w Z){i:eh}{o:Oper}(ax:Ee C.N bC i o=true)
  {κ:aL} {n':Nat} {o₁:List aL} (uY:i.makes st=true->fresh st.n st.o κ) (cF:i.makes st=true->∀j,fresh n' o₁ j->fresh st.n st.o j/\j≠κ) {c:Prop} (he:eD κ n' o₁ st i=some (c,st')) (aq:c) {K:Act->World->Prop} {Q:Exit->Act->World->Prop} (c4:∀bj w' bn,cZ C st' bj w' bn->K bj w'):o.wp P a w K Q:=by
 obtain⟨dst,op,type,pos,after,guard⟩:=o;unfold Ee at ax;dsimp only at ax;split at ax
 ·rename_i d key t;simp only[cE,dL,e6]at ax;obtain⟨rfl,U⟩:=ax;simp only[eD]at he;cases he;obtain⟨g1,g2⟩:=aJ.newBox (aJ.new _ (uY rfl)) (cF rfl) (cs:=[.hdm 0 []]) (us:= #[]) 0 (by simp only[jt];exact⟨by simp[cX],⟨rfl,Ψ,Ψ⟩⟩);refine mz (v:= .map (some w.heap.size)) (w':=w.alloc (.map #[] 0)) ?_ (c4 _ _ _ (g1.put (d:=some d) (by simpa[jz]using U) (p:= .gmap κ) ?_))
  ·simp only[execOp,Instr.makeMap,Option.map_none,fL,run_newObj,fR,gB];rfl
  ·simp[bd,bc.withBox]
 ·rename_i cg x k v t hf gU qy;simp only[cE,dL]at ax;obtain⟨⟨⟨⟨rfl,J⟩,U⟩,ar⟩,a8⟩:=ax;have rx:=eg aJ U;have vD:=eg aJ ar;have za:=eg aJ a8;split at J
  ·rename_i sz lh mY pE z aR;obtain⟨cP,hu,e2⟩:=je aM aR;have tv:cP= .map mY pE:=by cases cP<;>simp[kr]at e2;obtain⟨rfl,rfl⟩:=e2;rfl
   subst tv;have mg:=Lx aM J;simp only[eD]at he;split at he
   ·rename_i m ae;rw[ae]at rx;simp only[bd]at rx;obtain⟨bl,ck,ca⟩:=rx;split at he
    ·rename_i cs di;split at he
     ·rename_i cs' hm;cases he;obtain⟨iC,us,el,a6,bD,bY,c5,dc⟩:=aJ.good.box m cs di;rw[ck]at a6;cases a6;unfold nK at hm;split at hm
      ·rename_i clock borns kvs;split at hm
       ·cases hm
       rename_i u3;simp only[j0]at c5;simp only[jt]at dc;have hR:=vF (P:=P) c5;have wj:=Nh (P:=P) (w:=w) mg false vD (by simpa using u3);have bs:bl<w.heap.size:=(Array.getElem?_eq_some_iff.1 c5).1;have dG:∀(o':Obj) (cm:Array Value) (eP:List ai),(Instr.mapUpdate t (a.eval hf) (a.eval gU) (a.eval qy)).run P w= .ok () {w with heap:=w.heap.setIfInBounds bl o'}->j0 eP cm el=o'->jt w Z eP cm.toList->some eP=some cs'->
         (⟨none,.mapUpdate t hf gU qy,type,pos,after,guard⟩:Oper).wp P a w K Q:=by
        intro o' cm eP iW C2 mR iT;cases iT;refine EI (w':={w with heap:=w.heap.setIfInBounds bl o'}) ?_ (c4 _ _ _ (aJ.setBox (w':={w with heap:=w.heap.setIfInBounds bl o'}) di ck (us:=cm) (el:=el) rfl rfl rfl (fun j af=>?_) Ψ ?_ mR).1)
        ·simp only[execOp,iW,fL,fR,gB]
        ·exact Array.getElem?_setIfInBounds_ne (ld af)
        ·rw[C2];simp[bs]
       split at hm
       ·rename_i wU u4;obtain⟨j,u,cm,e,f1,f2,f3,f4,f5,f6,f7⟩:=DF mg vD za borns kvs us.toList 0 _ dc.1 dc.2.len u4;refine dG (.map (fy borns cm).toArray clock) cm.toArray (.hdm clock borns::wU) ?_ (by simp[j0]) (by simp only[jt];exact⟨by simpa using f2,⟨by rw[f3];exact dc.2.len,dc.2.inc,dc.2.lt⟩⟩) hm;have K7:(Instr.keyThatStays (((fy borns us.toList).toArray[j]?.map (·.key)).getD (a.eval gU)) (a.eval gU)).run P w= .ok (a.eval gU) w:=by
         have:((fy borns us.toList).toArray[j]?.map (·.key)).getD (a.eval gU)=e.key:=by simp[f4]
         rw[this];simp[Instr.keyThatStays,f6]
        simp only[Nat.zero_add]at f1;simp only[Instr.mapUpdate,fL,run_underlying hu,fR,ca,hR,wj,f1.run mg,gB,K7,Ed c5];rw[f7];simp
       ·rename_i u4;have f1:=DF mg vD za borns kvs us.toList 0 _ dc.1 dc.2.len u4;simp only at f1;have sg:us.toList.length=2*borns.length:=by rw[HQ dc.1,dc.2.len]
        refine dG (.map ((fy borns us.toList).toArray.push ⟨a.eval gU,a.eval qy,clock⟩) (clock+1)) (us.toList++[a.eval gU,a.eval qy]).toArray (.hdm (clock+1) (borns++[clock])::(kvs++[ct st.t k,ct st.t v])) ?_ (by simp only[j0,JK borns us.toList clock _ _ sg];simp) ?_ hm
        ·simp only[Instr.mapUpdate,fL,run_underlying hu,fR,ca,hR,wj,f1.run mg,gB,Ed c5]
        ·simp only[jt];refine⟨Nb dc.1 (by simp only[cX];exact⟨_,_,rfl,vD,_,_,rfl,za,rfl⟩),⟨by simp[dc.2.len];omega,?_,?_⟩⟩
         ·rw[List.pairwise_append];exact⟨dc.2.inc,Ψ,fun x ae y aH=>by simp at aH;subst aH;exact dc.2.lt x ae⟩
         ·intro b ab;rcases ih.1 ab with ab|ab
          ·have:=dc.2.lt b ab;omega
          ·simp at ab;omega
       ·cases hm
      ·cases hm
     ·cases he
    ·cases he
   ·cases he
  ·cases J
 ·rename_i cg x k v t hf gU qy;simp only[cE,dL]at ax;obtain⟨⟨⟨⟨rfl,J⟩,U⟩,ar⟩,a8⟩:=ax;have rx:=eg aJ U;have vD:=eg aJ ar;have za:=eg aJ a8;split at J
  ·rename_i sz lh mY pE z aR;obtain⟨cP,hu,e2⟩:=je aM aR;have tv:cP= .map mY pE:=by cases cP<;>simp[kr]at e2;obtain⟨rfl,rfl⟩:=e2;rfl
   subst tv;have mg:=Lx aM J;simp only[eD]at he;split at he
   ·rename_i m ae;rw[ae]at rx;simp only[bd]at rx;obtain⟨bl,ck,ca⟩:=rx;split at he
    ·rename_i cs di;split at he
     ·rename_i cs' hm;cases he;obtain⟨iC,us,el,a6,bD,bY,c5,dc⟩:=aJ.good.box m cs di;rw[ck]at a6;cases a6;unfold nK at hm;split at hm
      ·rename_i clock borns kvs;split at hm
       ·cases hm
       rename_i u3;simp only[j0]at c5;simp only[jt]at dc;have hR:=vF (P:=P) c5;have wj:=Nh (P:=P) (w:=w) mg false vD (by simpa using u3);have bs:bl<w.heap.size:=(Array.getElem?_eq_some_iff.1 c5).1;have dG:∀(o':Obj) (cm:Array Value) (eP:List ai),(Instr.mapUpdate t (a.eval hf) (a.eval gU) (a.eval qy)).run P w= .ok () {w with heap:=w.heap.setIfInBounds bl o'}->j0 eP cm el=o'->jt w Z eP cm.toList->some eP=some cs'->
         (⟨none,.mapUpdate t hf gU qy,type,pos,after,guard⟩:Oper).wp P a w K Q:=by
        intro o' cm eP iW C2 mR iT;cases iT;refine EI (w':={w with heap:=w.heap.setIfInBounds bl o'}) ?_ (c4 _ _ _ (aJ.setBox (w':={w with heap:=w.heap.setIfInBounds bl o'}) di ck (us:=cm) (el:=el) rfl rfl rfl (fun j af=>?_) Ψ ?_ mR).1)
        ·simp only[execOp,iW,fL,fR,gB]
        ·exact Array.getElem?_setIfInBounds_ne (ld af)
        ·rw[C2];simp[bs]
       split at hm
       ·rename_i wU u4;obtain⟨j,u,cm,e,f1,f2,f3,f4,f5,f6,f7⟩:=DF mg vD za borns kvs us.toList 0 _ dc.1 dc.2.len u4;refine dG (.map (fy borns cm).toArray clock) cm.toArray (.hdm clock borns::wU) ?_ (by simp[j0]) (by simp only[jt];exact⟨by simpa using f2,⟨by rw[f3];exact dc.2.len,dc.2.inc,dc.2.lt⟩⟩) hm;have K7:(Instr.keyThatStays (((fy borns us.toList).toArray[j]?.map (·.key)).getD (a.eval gU)) (a.eval gU)).run P w= .ok (a.eval gU) w:=by
         have:((fy borns us.toList).toArray[j]?.map (·.key)).getD (a.eval gU)=e.key:=by simp[f4]
         rw[this];simp[Instr.keyThatStays,f6]
        simp only[Nat.zero_add]at f1;simp only[Instr.mapUpdate,fL,run_underlying hu,fR,ca,hR,wj,f1.run mg,gB,K7,Ed c5];rw[f7];simp
       ·rename_i u4;have f1:=DF mg vD za borns kvs us.toList 0 _ dc.1 dc.2.len u4;simp only at f1;have sg:us.toList.length=2*borns.length:=by rw[HQ dc.1,dc.2.len]
        refine dG (.map ((fy borns us.toList).toArray.push ⟨a.eval gU,a.eval qy,clock⟩) (clock+1)) (us.toList++[a.eval gU,a.eval qy]).toArray (.hdm (clock+1) (borns++[clock])::(kvs++[ct st.t k,ct st.t v])) ?_ (by simp only[j0,JK borns us.toList clock _ _ sg];simp) ?_ hm
        ·simp only[Instr.mapUpdate,fL,run_underlying hu,fR,ca,hR,wj,f1.run mg,gB,Ed c5]
        ·simp only[jt];refine⟨Nb dc.1 (by simp only[cX];exact⟨_,_,rfl,vD,_,_,rfl,za,rfl⟩),⟨by simp[dc.2.len];omega,?_,?_⟩⟩
         ·rw[List.pairwise_append];exact⟨dc.2.inc,Ψ,fun x ae y aH=>by simp at aH;subst aH;exact dc.2.lt x ae⟩
         ·intro b ab;rcases ih.1 ab with ab|ab
          ·have:=dc.2.lt b ab;omega
          ·simp at ab;omega
       ·cases hm
      ·cases hm
     ·cases he
    ·cases he
   ·cases he
  ·cases J
 ·rename_i d key x t hf;simp only[cE,dL,e6]at ax;obtain⟨⟨⟨rfl,U⟩,J⟩,ar⟩:=ax;have rx:=eg aJ ar;split at J
  ·rename_i sz lh mY pE z aR;obtain⟨cP,hu,e2⟩:=je aM aR;have tv:cP= .map mY pE:=by cases cP<;>simp[kr]at e2;obtain⟨rfl,rfl⟩:=e2;rfl
   subst tv;simp only[eD]at he;split at he
   ·rename_i m ae;rw[ae]at rx;have ald:=rx;simp only[bd]at rx;obtain⟨bl,ck,ca⟩:=rx;split at he
    ·rename_i cs di;split at he
     ·rename_i cs' hm;cases he;obtain⟨iC,us,el,a6,bD,bY,c5,dc⟩:=aJ.good.box m cs di;rw[ck]at a6;cases a6;unfold y2 at hm;split at hm
      ·rename_i clock borns kvs;cases hm;simp only[j0]at c5;have hR:=vF (P:=P) c5;obtain⟨g1,g2⟩:=aJ.newBox (aJ.new _ (uY rfl)) (cF rfl) (cs:=[.hdi clock [] clock,.gmap m]) (us:= #[a.eval hf]) 0 (by simp only[jt,cX];exact⟨_,_,rfl,ald,rfl⟩);have C2:j0 [.hdi clock [] clock,.gmap m] #[a.eval hf] 0= .mapIter (some bl) clock #[] clock:=by simp[j0,ca]
       rw[C2]at g1 g2;refine mz (v:= .pointer (some ⟨w.heap.size,0,none⟩)) (w':=w.alloc (.mapIter (some bl) clock #[] clock)) ?_ (c4 _ _ _ (g1.put (d:=some d) (by simpa[jz]using U) (p:= .ptr κ 0) g2))
       ·simp only[execOp];refine EB ?_;simp only[Instr.range,fL,run_underlying hu,fR,ca,hR,gB,run_newObj];rfl
      ·cases hm
     ·cases he
    ·cases he
   ·cases he
  ·cases J
 ·rename_i d arV;simp only[cE,dL,e6]at ax;obtain⟨⟨J,U⟩,ar⟩:=ax;subst J;simp only[eD]at he;split at he
  ·rename_i cp p aC;cases he;obtain⟨v,g1,g2⟩:=ami (o:=⟨some d,op,type,pos,after,guard⟩) aM aJ ar aC aq;refine mz g1 (c4 _ _ Z ?_);exact aJ.put (d:=some d) (by simpa[jz]using U) g2
  ·cases he
 ·rename_i d key x el o';simp only[cE,dL,e6]at ax;obtain⟨⟨J,U⟩,ar⟩:=ax;subst J;simp only[eD]at he;cases he;have ae:=eg aJ ar;have kI:=vA ae aq;obtain⟨g1,g2⟩:=aJ.newBox (aJ.new _ (uY rfl)) (cF rfl) el (by rw[vt (Bv kI)];exact kI);rw[vs (Bv kI)]at g1 g2;refine mz (v:= .pointer (some ⟨w.heap.size,0,none⟩)) (w':=w.alloc (.cells (a.eval o').cells el)) ?_ (c4 _ _ _ (g1.put (d:=some d) (by simpa[jz]using U) (p:= .ptr κ 0) ?_))
  ·simp only[execOp,Instr.box,newVar,newRow,fL,run_newObj,fR,gB];rfl
  ·simpa only[bd]using g2
 ·rename_i d key z el;simp only[cE,dL,e6]at ax;obtain⟨⟨J,U⟩,ar⟩:=ax;subst J;simp only[eD]at he;cases he;split at ar
  ·rename_i f aR;have bf:=Ou ar;obtain⟨bR,la,z2,z3⟩:=NN aM aR w;rw[<-bf]at z2;obtain⟨_,kI⟩:=Ot w Z z2;obtain⟨g1,g2⟩:=aJ.newBox (aJ.new _ (uY rfl)) (cF rfl) el (by rw[vt (Bv kI)];exact kI);rw[vs (Bv kI)]at g1 g2;refine mz (v:= .pointer (some ⟨w.heap.size,0,none⟩)) (w':=w.alloc (.cells bR.cells el)) ?_ (c4 _ _ _ (g1.put (d:=some d) (by simpa[jz]using U) (p:= .ptr κ 0) ?_))
   ·simp only[execOp,Instr.alloc,newVar,newRow,fL,la,run_newObj,fR,gB];rfl
   ·simpa only[bd]using g2
  ·cases ar
 ·rename_i sz x y t o' js;simp only[cE,dL]at ax;obtain⟨⟨⟨J,U⟩,ar⟩,a8⟩:=ax;subst J;split at U
  ·rename_i f aR;simp only[dL]at U;simp only[eD]at he;split at he
   ·rename_i k off ae;split at he
    ·rename_i cs di;cases he;obtain⟨kC,bT,cx,dy⟩:=aq;have rx:=eg aJ ar;rw[ae]at rx;simp only[bd]at rx;obtain⟨bl,ck,ca⟩:=rx;have l0:=eg aJ a8;have vz:=vA l0 bT;have vE:=pW vz;obtain⟨iC,us,el,a6,bD,bY,c5,dc⟩:=aJ.good.box k cs di;rw[ck]at a6;cases a6;rw[vs kC]at c5;rw[vt kC]at dc;have aw:=pW dc;obtain⟨_,dS⟩:=vK aM aR w;have u9:(a.eval js).cells.size=sz:=by rw[cx]at vE;simpa using vE
     have da:=run_storeCells_at (P:=P) bl off el (a.eval js).cells.toList 0 us w c5 (by simp at aw⊢;omega) (Bu vz);simp only[Nat.add_zero]at da;refine EI (w':=w.setRow bl (us.toList.take off++(a.eval js).cells.toList++us.toList.drop (off+(a.eval js).cells.toList.length)).toArray) ?_ (c4 _ _ _ (aJ.storeBox di ck kC ?_))
     ·simp only[execOp,Instr.storeAt,ca,Instr.sureAddr,storeVar,fL,gB,fR,dS,u9,U,ne_eq,not_true_eq_false,if_false,da]
     ·simp only[ov];rw[vE];exact y4 (y4 (D8 off dc) vz) (Bt _ dc)
    ·cases he
   ·rename_i ae;generalize KW:ct st.t x=px at he;unfold rl at he;split at he
    ·rename_i dK k n i tn;split at he
     ·rename_i n' el ju xs ad;split at he
      ·rename_i yo;obtain⟨rfl,rfl⟩:=yo;split at he
       ·rename_i q bF;cases he;obtain⟨kC,bT,cx,dy,kp⟩:=aq;have rx:=eg aJ ar;rw[KW]at rx;have l0:=eg aJ a8;have vz:=vA l0 bT;have vE:=pW vz;obtain⟨_,dS⟩:=vK aM aR w;have u9:(a.eval js).cells.size=sz:=by rw[cx]at vE;simpa using vE
        obtain⟨bl,off,mI,C5,da,bn,qj⟩:=aJ.storeRow (P:=P) ad rx bF kC vz (by simpa[u9]using dy) (fun e=>by have:=eK List.length e;simp[u9]at this;omega);refine EI (w':=w.setRow bl mI) ?_ (c4 _ _ _ qj);simp only[execOp,Instr.storeAt,C5,Instr.sureAddr,storeVar,fL,gB,fR,dS,u9,U,ne_eq,not_true_eq_false,if_false,da]
       ·cases he
      ·cases he
     ·cases he
    ·cases he
  ·cases U
 ·rename_i d sz el xs t len parts;simp only[cE,dL,e6]at ax;obtain⟨⟨⟨⟨⟨⟨J,U⟩,ar⟩,a8⟩,b8⟩,de⟩,dX⟩:=ax;subst J;subst b8;split at ar
  ·rename_i fX aR;simp only[dL]at ar;subst ar;split at a8
   ·rename_i g aX;simp only[cE,dL,e6]at a8;obtain⟨rfl,fA⟩:=a8;simp only[eD]at he;cases he;obtain⟨us,g1,g2,g3⟩:=Xn aM aJ aR rfl aX dX aq de;have lO:(w.alloc (.cells us el)).ownsRow w.heap.size el g.size (.slice (some ⟨w.heap.size,0,none⟩) xs.length xs.length) (xs.map (ct st.t)).length us.toList:=by
     refine⟨by simp[g3],.inr ⟨w.heap.size,xs.length,us,Ψ,eX _,heap_alloc_new w _,Ψ,?_,g3,?_⟩⟩
     ·simp only[maxLen];have:xs.length<=xs.length*g.size:=Nat.le_mul_of_pos_right _ fA;omega
     ·rw[hx];simp[g3]
    obtain⟨eU,fP⟩:=aJ.newRow (k:=κ) (xs:=xs.map (ct st.t)) (.inl (aJ.new _ (uY rfl))) (World.grownBy_alloc w _ none) lO g2
     (by have:xs.length<=xs.length*g.size:=Nat.le_mul_of_pos_right _ fA;simp only[lim,List.length_map];omega) (cF rfl)
    simp only[List.length_map]at eU fP;refine mz (v:= .slice (some ⟨w.heap.size,0,none⟩) xs.length xs.length) (w':=w.alloc (.cells us el)) ?_ (c4 _ _ _ (eU.put (d:=some d) (by simpa[jz]using U) (p:= .slice g.size (.own κ) (xs.map (ct st.t))) fP));have bK:(parts.map fun(x:Nat×Operand)=>(x.1,a.eval x.2))=(parts.toList.map fun(x:Nat×Operand)=>(x.1,a.eval x.2)).toArray:=by apply Array.ext';simp
    simp only[execOp];refine EB ?_;rw[<-g1];congr 2
   ·cases a8
  ·cases ar
 ·rename_i d sz el x y o' js t dE;simp only[cE,dL,e6]at ax;obtain⟨⟨⟨⟨⟨⟨J,U⟩,ar⟩,a8⟩,b8⟩,de⟩,dX⟩:=ax;subst J;subst ar;split at a8
  ·rename_i fX aR;simp only[dL]at a8;subst a8;split at b8
   ·rename_i g aX;simp only[cE,dL,e6]at b8;obtain⟨⟨rfl,fA⟩,hby⟩:=b8;have rx:=eg aJ de;have l0:=eg aJ dX;have mN:∀v' w',(Builtin.append_ #[t,t] type #[a.eval o',a.eval js]).run P w= .ok v' w'->(execOp a.eval ⟨some d,.call ⟨.builtin .append,⟨[o',js]⟩,⟨[t,t]⟩⟩,type,pos,after,guard⟩).run P w= .ok (.value v') w':=by intro v' w' iW;simp only[execOp,resolve,invoke,builtin,fL,gB,fR,List.map_toArray,hk,qG];rw[iW];rfl
    obtain⟨fv,cl,z,ao,aF,bA,dr,hX,hY,rL,rM⟩:=(vL aM aX).ex;obtain⟨eP,iT,e2⟩:=je aM aR;obtain rfl:=tf e2;simp only[eD]at he;split at he
    ·rename_i dK tag xs ju k8 ys ae aH;split at he
     ·rename_i fh;obtain⟨rfl,fh⟩:=fh;subst fh;rw[ae]at rx;rw[aH]at l0;simp only[bd]at rx l0;obtain⟨⟨uC,pA,sV,cx1,⟨Ro,Rp⟩,cx4⟩,rxn,rxo,rxt⟩:=rx;obtain⟨⟨nZ,lI,vy,cy1,⟨Rq,Rr⟩,cy4⟩,_⟩:=l0;split at he
      ·rename_i k;split at he
       ·rename_i ow ad;cases he;obtain⟨bT,cx,dy,kp⟩:=aq;subst cx;obtain⟨n0,BH,eU,fP,pU⟩:=rxo k rfl;obtain⟨v0,fw,a6,bD,bY,_⟩:=aJ.good.own k ow ad;rw[eU]at a6;simp only[dC,jM]at a6;obtain⟨rfl,rfl⟩:=a6;have nH:a.eval o'=BH:=pU bT.symm;by_cases jm:ys=[]
        ·subst jm;rw[vy,sV]at mN;have iW:=H0 (P:=P) (w:=w) (ty:=type) iT ao uC xs.length pA cx1 nZ lI;refine mz (mN _ _ (by simpa using iW)) (c4 _ _ Z ?_);have da:{st with t:=put d (.slice ow.sz (.own k) (xs++[])) st.t,e:=cA k ⟨xs.length+([]:List ai).length,ow.el,ow.sz,none⟩ st.e}=({st with e:=cA k ⟨ow.n,ow.el,ow.sz,none⟩ st.e,t:=put d (.slice ow.sz (.own k) xs) st.t}:bm):=by simp[bT]
         rw[<-dy,da];have mQ:=aJ.forgetRow ad;refine mQ.put (d:=some d) (by simpa[jz]using U) (p:= .slice ow.sz (.own k) xs) ?_;simp only[bd];rw[<-dy]at cx4;exact⟨⟨uC,pA,rfl,cx1,⟨Ro,Rp⟩,cx4⟩,fun e=>(by cases e),(fun g e=>by cases e;exact⟨_,_,eU,fP,fun e=>by rw[<-sV];exact pU e⟩),fun _ _ e=>(by cases e),fun _ e=>(by cases e)⟩
        ·have hyp:0<ys.length:=by cases ys<;>simp at jm⊢
         rcases cy4 with cy4|⟨lh,nO,hr,rfl,yI,mJ⟩
         ·exact absurd cy4 jm
         ·have jV:=ub mJ;have sc:∀j u,hr[j]? =some u->w.cell? ((⟨lh,nO,none⟩:Addr).add j)=some u:=fun j u af=>by rw[ps];exact(vk yI af).2
          have r7:(xs.length+ys.length)*fv.bytes<=140737488355328:=by
           have j5:fv.bytes<=2048:=by rw[dr];exact hby
           have nC:(xs.length+ys.length)*fv.bytes<=(xs.length+ys.length)*2048:=Nat.mul_le_mul_left _ j5;simp only[lim]at kp;omega
          have lq:xs.length+ys.length<=maxLen:=by simp only[lim]at kp;simp only[maxLen];omega
          rw[vy]at mN;have wG:fw.length=ow.n*ow.sz:=bD.1;have wK:z.cells.size=fv.size:=by rw[rM,bA]
          have CS:(∀cur,eW->cur=(0:Nat))->(∃v' w',(Builtin.append_ #[t,t] type #[a.eval o',.slice (some ⟨lh,nO,none⟩) ys.length lI]).run P w= .ok v' w'/\w'.ownsRow w.heap.size ow.el fv.size v' (xs.length+ys.length) (fw++hr)/\w.grownBy w' none/\dB w Z fv.size xs fw)->
            (⟨some d,.call ⟨.builtin .append,⟨[o',js]⟩,⟨[t,t]⟩⟩,type,pos,after,guard⟩:Oper).wp P a w K Q:=by
           intro _ cu;obtain⟨v',w',f1,f2,f3,f4⟩:=cu;have F0:dB w Z fv.size (xs++ys) (fw++hr):=D6 f4 (by rw[bA];exact mJ);obtain⟨c0,du⟩:=aJ.newRow (k:=k) (xs:=xs++ys) (.inr ⟨ow,ad,by rw[bT];simp;omega⟩) f3 (by simpa using f2) F0 (by simpa using kp) (n':=st.n) (o':=st.o)
            (fun j af=>⟨af,fun e=>by subst e;have:=(aJ.new _ af).2.1;rw[eU]at this;cases this⟩)
           refine mz (mN _ _ f1) (c4 _ _ ((Z.withOwn k (xs++ys).length v').withRowOf k v' (xs++ys).length ((xs++ys).length*fv.size)) ?_);have:=c0.put (d:=some d) (by simpa[jz]using U) du;simpa[bA,eR]using this
          rcases bD.2 with⟨nP,yY⟩|⟨bl,cap,cur,nP,yY,Bh,My,Mz,MA,Hl⟩
          ·
           have AD:xs=[]:=List.eq_nil_of_length_eq_zero Ω;have La:fw=[]:=List.eq_nil_of_length_eq_zero (by rw[wG,yY];simp);subst AD;subst La;refine CS (fun _ h=>h.elim) ?_;obtain⟨v',w',f1,f2,f3,_⟩:=run_append_own (P:=P) w w.heap.size t type ow.el fv z fv.size fv.bytes iT ao hY rfl rfl wK (by rw[bA];exact fA) (.slice none 0 0) 0 [] (World.ownsRow_nil w _ _ _)
            ⟨lh,nO,none⟩ ys.length lI hr (by rw[jV,bA]) sc (y3 mJ) (by simpa using lq) (by simpa using r7) (eX _)
           refine⟨v',w',by rw[nH,nP];exact f1,by simpa using f2,by simpa[oD]using f3,by simp[dB]⟩
          ·have aff:lV w Z.A bl 0 fw/\dB w Z fv.size xs fw/\True:=by
            rw[nH,nP]at sV;rcases cx4 with cx4|⟨bb,aqV,NX,f1,f2,f3⟩
            ·subst cx4;have:fw=[]:=List.eq_nil_of_length_eq_zero (by rw[wG,bT];simp);subst this;exact⟨trivial,by simp[dB],trivial⟩
            ·subst f1;injection sV with vx1 vx2 vx3;injection vx1 with vx1;injection vx1 with vx1 vx4;subst vx1;subst vx4;have heq:NX=fw:=by
              apply List.ext_getElem?;intro j;have sg:NX.length=fw.length:=by rw[ub f3,wG,bT,dy]
              by_cases af:j<NX.length
              ·have J:=(vk f2 (cf af)).2;rw[Nat.zero_add]at J;have U:=bD.cells (g:=bl) (by rw[nP];rfl) j fw[j] (cf Ω);rw[ps,Nat.zero_add,J]at U;rw[cf af,cf Ω];exact U
              ·rw[qF Ω,qF Ω]
             subst heq;exact⟨f2,by rw[bA];exact f3,trivial⟩
           obtain⟨yi,od,_⟩:=aff;by_cases sd:xs.length+ys.length<=cap
           ·have apf:cur.size=cap*ow.sz:=MA;have hmul:(xs.length+ys.length)*ow.sz<=cap*ow.sz:=Nat.mul_le_mul_right _ sd;rw[p2]at hmul;have f1:=run_append_room (P:=P) w t type ow.el fv iT ao bl xs.length cap cur Bh ⟨lh,nO,none⟩ ys.length lI hr (by rw[jV,bA]) sc (y3 mJ) sd (by rw[jV,bA,<-dy];omega);obtain⟨c0,du⟩:=aJ.inPlace ad (bl:=bl) (cap:=cap) (cur:=cur) (by rw[eU,<-nP]) Bh Mz MA (xs:=xs) (ys:=ys) (us:=fw) (ns:=hr) bT.symm Hl (by rw[dy,<-bA];exact od) (by rw[dy];exact mJ) hyp (by rw[bT];exact sd) kp;refine mz (v:= .slice (some ⟨bl,0,none⟩) (ow.n+ys.length) cap) (w':=w.setRow bl (fw++hr++cur.toList.drop (ow.n*ow.sz+hr.length)).toArray) (mN _ _ ?_)
             (c4 _ _ (Z.withRowOf k (.slice (some ⟨bl,0,none⟩) (ow.n+ys.length) cap) (ow.n+ys.length) ((ow.n+ys.length)*ow.sz)) ?_)
            ·rw[nH,nP,bT,f1,<-Hl,bT,dy,bA]
            ·have:=c0.put (d:=some d) (by simpa[jz]using U) du;simpa[bT,dy,eR]using this
           ·refine CS (fun _ h=>h.elim) ?_;obtain⟨v',w',f1,f2,f3⟩:=run_append_arg_grows (P:=P) w t type ow.el fv z fv.size fv.bytes iT ao hY rfl rfl wK (by rw[bA];exact fA) ⟨bl,0,none⟩ xs.length cap fw (by rw[wG,bT,dy,bA])
             (fun j u af=>by rw[ps];exact(vk yi af).2) ⟨lh,nO,none⟩ ys.length lI hr (by rw[jV,bA]) sc Ω lq r7
            exact⟨v',w',by rw[nH,nP,bT];exact f1,f2,f3,od⟩
       ·cases he
      ·cases he;have Ge:=rxn rfl;have AD:xs=[]:=by rw[Ge]at sV;injection sV with _ aF;exact List.eq_nil_of_length_eq_zero aF.symm
       subst AD;have yn:(eh.app d g.size el x y).makes st=true:=by simp only[eh.makes,ae]
       have wK:z.cells.size=fv.size:=by rw[rM,bA]
       rw[vy,Ge]at mN;have dG:∀(v':Value) (w':World) (hr:List Value),(Builtin.append_ #[t,t] type #[.slice none 0 0,.slice nZ ys.length lI]).run P w= .ok v' w'->w'.ownsRow w.heap.size el g.size v' ys.length hr->w.grownBy w' none->dB w Z g.size ys hr->
         (⟨some d,.call ⟨.builtin .append,⟨[o',js]⟩,⟨[t,t]⟩⟩,type,pos,after,guard⟩:Oper).wp P a w K Q:=by
        intro v' w' hr f1 f2 f3 f4;obtain⟨c0,du⟩:=aJ.newRow (k:=κ) (xs:=ys) (.inl (aJ.new _ (uY yn))) f3 f2 f4 aq (cF yn);exact mz (mN _ _ f1) (c4 _ _ _ (c0.put (d:=some d) (by simpa[jz]using U) du))
       by_cases jm:ys=[]
       ·subst jm;exact dG _ w [] (H0 iT ao none 0 0 (eX _) nZ lI) (World.ownsRow_nil w _ _ _) (anH w _) (by simp[dB])
       ·rcases cy4 with cy4|⟨lh,nO,hr,rfl,yI,mJ⟩
        ·exact absurd cy4 jm
        ·have jV:=ub mJ;have sc:∀j u,hr[j]? =some u->w.cell? ((⟨lh,nO,none⟩:Addr).add j)=some u:=fun j u af=>by rw[ps];exact(vk yI af).2
         have r7:ys.length*fv.bytes<=140737488355328:=by
          have J:fv.bytes<=2048:=by rw[dr];exact hby
          have U:ys.length*fv.bytes<=ys.length*2048:=Nat.mul_le_mul_left _ J;simp only[lim]at aq;omega
         have lq:ys.length<=maxLen:=by simp only[lim]at aq;simp only[maxLen];omega
         obtain⟨v',w',f1,f2,f3,_⟩:=run_append_own (P:=P) w w.heap.size t type el fv z fv.size fv.bytes iT ao hY rfl rfl wK (by rw[bA];exact fA) (.slice none 0 0) 0 [] (World.ownsRow_nil w _ _ _)
          ⟨lh,nO,none⟩ ys.length lI hr (by rw[jV,bA]) sc (y3 mJ) (by simpa using lq) (by simpa using r7) (eX _)
         exact dG v' w' hr f1 (by rw[<-bA];simpa using f2) (by simpa[oD]using f3) mJ
      ·cases he
     ·cases he
    ·cases he
   ·cases b8
  ·cases a8
 ·rename_i d key sz el xs t len parts;simp only[cE,dL,e6]at ax;obtain⟨⟨⟨⟨⟨⟨J,U⟩,ar⟩,a8⟩,b8⟩,de⟩,dX⟩:=ax;subst J;subst b8;split at ar
  ·rename_i fX aR;simp only[dL]at ar;subst ar;split at a8
   ·rename_i g aX;simp only[cE,dL,e6]at a8;obtain⟨rfl,fA⟩:=a8;simp only[eD]at he;cases he;obtain⟨us,g1,g2,g3⟩:=Xn aM aJ aR rfl aX dX aq de;have lO:(w.alloc (.cells us el)).ownsRow w.heap.size el g.size (.slice (some ⟨w.heap.size,0,none⟩) xs.length xs.length) (xs.map (ct st.t)).length us.toList:=by
     refine⟨by simp[g3],.inr ⟨w.heap.size,xs.length,us,Ψ,eX _,heap_alloc_new w _,Ψ,?_,g3,?_⟩⟩
     ·simp only[maxLen];have:xs.length<=xs.length*g.size:=Nat.le_mul_of_pos_right _ fA;omega
     ·rw[hx];simp[g3]
    obtain⟨eU,fP⟩:=aJ.newRowM (k:=κ) (xs:=xs.map (ct st.t)) (.inl (aJ.new _ (uY rfl))) (World.grownBy_alloc w _ none) lO g2
     (by have:xs.length<=xs.length*g.size:=Nat.le_mul_of_pos_right _ fA;simp only[lim,List.length_map];omega) (cF rfl)
    simp only[List.length_map]at eU fP;refine mz (v:= .slice (some ⟨w.heap.size,0,none⟩) xs.length xs.length) (w':=w.alloc (.cells us el)) ?_ (c4 _ _ _ (eU.put (d:=some d) (by simpa[jz]using U) (p:= .row g.size κ xs.length) (fP ⟨_,_,rfl⟩)));have bK:(parts.map fun(x:Nat×Operand)=>(x.1,a.eval x.2))=(parts.toList.map fun(x:Nat×Operand)=>(x.1,a.eval x.2)).toArray:=by apply Array.ext';simp
    simp only[execOp];refine EB ?_;rw[<-g1];congr 2
   ·cases a8
  ·cases ar
 ·rename_i d key sz el x y o' js t dE;simp only[cE,dL,e6]at ax;obtain⟨⟨⟨⟨⟨⟨J,U⟩,ar⟩,a8⟩,b8⟩,de⟩,dX⟩:=ax;subst J;subst ar;split at a8
  ·rename_i fX aR;simp only[dL]at a8;subst a8;split at b8
   ·rename_i g aX;simp only[cE,dL,e6]at b8;obtain⟨⟨rfl,fA⟩,hby⟩:=b8;have rx:=eg aJ de;have l0:=eg aJ dX;have mN:∀v' w',(Builtin.append_ #[t,t] type #[a.eval o',a.eval js]).run P w= .ok v' w'->(execOp a.eval ⟨some d,.call ⟨.builtin .append,⟨[o',js]⟩,⟨[t,t]⟩⟩,type,pos,after,guard⟩).run P w= .ok (.value v') w':=by intro v' w' iW;simp only[execOp,resolve,invoke,builtin,fL,gB,fR,List.map_toArray,hk,qG];rw[iW];rfl
    obtain⟨fv,cl,z,ao,aF,bA,dr,hX,hY,rL,rM⟩:=(vL aM aX).ex;obtain⟨eP,iT,e2⟩:=je aM aR;obtain rfl:=tf e2;have wK:z.cells.size=fv.size:=by rw[rM,bA]
    simp only[eD]at he;split at he
    ·
     rename_i ys aC;cases he;unfold tc at aC;split at aC
     ·rename_i dK xs ju k8 anz ae aH;split at aC
      ·rename_i fh;obtain⟨rfl,fh⟩:=fh;subst fh;cases aC;rw[ae]at rx;rw[aH]at l0;simp only[bd]at rx l0;obtain⟨⟨uC,pA,sV,cx1,⟨Ro,Rp⟩,cx4⟩,rxn,rxo,rxt⟩:=rx;obtain⟨⟨nZ,lI,vy,cy1,⟨Rq,Rr⟩,cy4⟩,_⟩:=l0;have Ge:=rxn trivial;have yn:(eh.appm d key g.size el x y).makes st=true:=by simp only[eh.makes,ae]
       rw[vy,Ge]at mN;have dG:∀(v':Value) (w':World) (hr:List Value),(Builtin.append_ #[t,t] type #[.slice none 0 0,.slice nZ ys.length lI]).run P w= .ok v' w'->w'.ownsRow w.heap.size el g.size v' ys.length hr->w.grownBy w' none->dB w Z g.size ys hr->
         (⟨some d,.call ⟨.builtin .append,⟨[o',js]⟩,⟨[t,t]⟩⟩,type,pos,after,guard⟩:Oper).wp P a w K Q:=by
        intro v' w' hr f1 f2 f3 f4;obtain⟨c0,du⟩:=aJ.newRowM (k:=κ) (xs:=ys) (.inl (aJ.new _ (uY yn))) f3 f2 f4 aq.1 (cF yn);exact mz (mN _ _ f1) (c4 _ _ _ (c0.put (d:=some d) (by simpa[jz]using U) (du (VY f2 (by cases ys<;>simp at aq⊢)))))
       by_cases jm:ys=[]
       ·subst jm;exact dG _ w [] (H0 iT ao none 0 0 (eX _) nZ lI) (World.ownsRow_nil w _ _ _) (anH w _) (by simp[dB])
       ·rcases cy4 with cy4|⟨lh,nO,hr,rfl,yI,mJ⟩
        ·exact absurd cy4 jm
        ·have jV:=ub mJ;have sc:∀j u,hr[j]? =some u->w.cell? ((⟨lh,nO,none⟩:Addr).add j)=some u:=fun j u af=>by rw[ps];exact(vk yI af).2
         have r7:ys.length*fv.bytes<=140737488355328:=by
          have J:fv.bytes<=2048:=by rw[dr];exact hby
          have U:ys.length*fv.bytes<=ys.length*2048:=Nat.mul_le_mul_left _ J;simp only[lim]at aq;omega
         have lq:ys.length<=maxLen:=by simp only[lim]at aq;simp only[maxLen];omega
         obtain⟨v',w',f1,f2,f3,_⟩:=run_append_own (P:=P) w w.heap.size t type el fv z fv.size fv.bytes iT ao hY rfl rfl wK (by rw[bA];exact fA) (.slice none 0 0) 0 [] (World.ownsRow_nil w _ _ _)
          ⟨lh,nO,none⟩ ys.length lI hr (by rw[jV,bA]) sc (y3 mJ) (by simpa using lq) (by simpa using r7) (eX _)
         exact dG v' w' hr f1 (by rw[<-bA];simpa using f2) (by simpa[oD]using f3) mJ
      ·cases aC
     ·split at aC
      ·split at aC
       ·split at aC<;>cases aC
       ·cases aC
      ·cases aC
     ·cases aC
    ·
     rename_i k xs ys aC;cases he;unfold tc at aC;split at aC
     ·split at aC<;>cases aC
     ·rename_i dK bI n ju k8 anz ae aH;split at aC
      ·rename_i fh;obtain⟨rfl,fh⟩:=fh;subst fh;split at aC
       ·rename_i n' fX xl xs' ad;split at aC
        ·rename_i uV;obtain⟨rfl,rfl,rfl⟩:=uV;cases aC;rw[ae]at rx;rw[aH]at l0;simp only[bd]at rx l0;obtain⟨⟨bx,pA,sV⟩,rxl,n0,BH,eU,fP,pU⟩:=rx;obtain⟨⟨nZ,lI,vy,cy1,⟨Rq,Rr⟩,cy4⟩,_⟩:=l0;obtain⟨v0,fw,a6,bD,bY,c5⟩:=aJ.good.own k _ ad;rw[eU]at a6;simp only[dC,jM]at a6 bD;obtain⟨rfl,rfl⟩:=a6;have nH:a.eval o'=BH:=pU rfl;obtain⟨dc,oq,vu⟩:=c5 xs rfl;simp only at dc oq;have wG:fw.length=xs.length*g.size:=by rw[dc];exact bD.1
         have oY:xs.length=n0:=dc;by_cases jm:ys=[]
         ·subst jm;rw[vy,sV]at mN;have kI:n0<=pA:=by
           rcases bD.2 with⟨nP,yY⟩|⟨bl,cap,cur,nP,yY,Bh,My,_⟩
           ·rw[yY];exact Nat.zero_le _
           ·rw[<-nH,sV]at nP;injection nP with _ _ e;rw[e];exact My
          have iW:=H0 (P:=P) (w:=w) (ty:=type) iT ao (some ⟨bx,0,none⟩) n0 pA kI nZ lI;refine mz (mN _ _ (by simpa using iW)) (c4 _ _ Z ?_);have ib:∀ff,look ff (cA k ⟨n0,fX,g.size,some xs⟩ st.e)=look ff st.e:=fun ff=>by
           rw[ja];split
           ·rename_i e;subst e;rw[ad]
           ·rfl
          have mQ:cZ C {st with e:=cA k ⟨n0,fX,g.size,some xs⟩ st.e} a w Z:=
           ⟨⟨aJ.good.alt,aJ.good.box,aJ.good.inj,fun g o aX=>aJ.good.own g o (by rw[<-ib g];exact aX),fun g ff n n' v v' bl bB a2=>aJ.good.oinj g ff n n' v v' bl (by rw[<-ib g];exact bB) (by rw[<-ib ff];exact a2),
           fun g j n v bl bB=>aJ.good.obx g j n v bl (by rw[<-ib g];exact bB),aJ.good.one,fun bl ab=>aJ.good.otr bl (ab.imp id (fun⟨g,n,v,bB,a2⟩=>⟨g,n,v,by rw[<-ib g];exact bB,a2⟩))⟩,aJ.fr,aJ.defers,aJ.size,aJ.slot,aJ.new⟩
          have ar:=mQ.put (d:=some d) (by simpa[jz]using U) (p:= .row g.size k n0) (v:= .slice (some ⟨bx,0,none⟩) n0 pA) (by simp only[bd];exact⟨⟨_,_,rfl⟩,rxl,_,_,eU,eX _,fun _=>by rw[<-sV];exact nH⟩)
          simpa[oY,eR]using ar
         ·have hyp:0<ys.length:=by cases ys<;>simp at jm⊢
          rcases cy4 with cy4|⟨lh,nO,hr,rfl,yI,mJ⟩
          ·exact absurd cy4 jm
          ·have jV:=ub mJ;have sc:∀j u,hr[j]? =some u->w.cell? ((⟨lh,nO,none⟩:Addr).add j)=some u:=fun j u af=>by rw[ps];exact(vk yI af).2
           have r7:(xs.length+ys.length)*fv.bytes<=140737488355328:=by
            have j5:fv.bytes<=2048:=by rw[dr];exact hby
            have nC:(xs.length+ys.length)*fv.bytes<=(xs.length+ys.length)*2048:=Nat.mul_le_mul_left _ j5;simp only[lim]at aq;omega
           have lq:xs.length+ys.length<=maxLen:=by simp only[lim]at aq;simp only[maxLen];omega
           have F0:dB w Z g.size (xs++ys) (fw++hr):=D6 oq mJ;rw[vy,nH]at mN;have CS:(∃v' w',(Builtin.append_ #[t,t] type #[BH,.slice (some ⟨lh,nO,none⟩) ys.length lI]).run P w= .ok v' w'/\w'.ownsRow w.heap.size fX fv.size v' (xs.length+ys.length) (fw++hr)/\w.grownBy w' none)->
             (⟨some d,.call ⟨.builtin .append,⟨[o',js]⟩,⟨[t,t]⟩⟩,type,pos,after,guard⟩:Oper).wp P a w K Q:=by
            intro cu;obtain⟨v',w',f1,f2,f3⟩:=cu;obtain⟨c0,du⟩:=aJ.newRowM (k:=k) (xs:=xs++ys) (el:=fX) (sz:=g.size) (.inr ⟨_,ad,by simp;omega⟩) f3 (by rw[<-bA];simpa using f2) F0 (by simpa using aq) (n':=st.n) (o':=st.o)
             (fun j af=>⟨af,fun e=>by subst e;have:=(aJ.new _ af).2.1;rw[eU]at this;cases this⟩)
            refine mz (mN _ _ f1) (c4 _ _ (Z.withOwn k (xs++ys).length v') ?_);have:=c0.put (d:=some d) (by simpa[jz]using U) (du (by simpa using VY f2 Ω));simpa[eR]using this
           rcases bD.2 with⟨nP,yY⟩|⟨bl,cap,cur,nP,yY,Bh,My,Mz,MA,Hl⟩
           ·
            have AD:xs=[]:=List.eq_nil_of_length_eq_zero Ω;have La:fw=[]:=List.eq_nil_of_length_eq_zero (by rw[wG,AD];simp);subst AD;subst La;refine CS ?_;obtain⟨v',w',f1,f2,f3,_⟩:=run_append_own (P:=P) w w.heap.size t type fX fv z fv.size fv.bytes iT ao hY rfl rfl wK (by rw[bA];exact fA) (.slice none 0 0) 0 [] (World.ownsRow_nil w _ _ _)
             ⟨lh,nO,none⟩ ys.length lI hr (by rw[jV,bA]) sc (y3 mJ) (by simpa using lq) (by simpa using r7) (eX _)
            exact⟨v',w',by rw[nP];exact f1,by simpa using f2,by simpa[oD]using f3⟩
           ·have oW:BH.ownBlock=some bl:=by rw[nP];rfl
            by_cases sd:xs.length+ys.length<=cap
            ·have hmul:(xs.length+ys.length)*g.size<=cap*g.size:=Nat.mul_le_mul_right _ sd;rw[p2]at hmul;have f1:=run_append_room (P:=P) w t type fX fv iT ao bl xs.length cap cur Bh ⟨lh,nO,none⟩ ys.length lI hr (by rw[jV,bA]) sc (y3 mJ) sd (by rw[jV,bA];omega);generalize AB:(cur.toList.take (xs.length*fv.size)++hr++cur.toList.drop (xs.length*fv.size+hr.length)).toArray=tX at f1;have j8:(w.setRow bl tX).heap[bl]? =some (.cells tX fX (0,0)):=setRow_heap w bl cur tX fX _ Bh;have av:(fw++hr).length=(xs++ys).length*g.size:=by rw[pf,wG,jV,pf,p2]
             have b8:cur.toList.take (xs.length*fv.size)=fw:=by rw[oY,bA];exact Hl
             have kL:tX.size=cap*g.size:=by rw[<-AB];simp only[List.size_toArray,pf,List.length_take,sZ,Array.length_toList];rw[bA];omega
             have pM:tX.toList.take ((xs++ys).length*g.size)=fw++hr:=by rw[<-AB,b8];simp only[<-av];rw[List.take_append_of_le_length (eX _),l6]
             obtain⟨c0,_,du⟩:=aJ.setRowM (w':=w.setRow bl tX) ad rfl eU oW (v':= .slice (some ⟨bl,0,none⟩) (xs.length+ys.length) cap) rfl (xs':=xs++ys) (us:=fw++hr) (.inr d7) rfl rfl rfl (fun j af=>setRow_other w bl j tX af) (setRow_size w bl tX)
              ⟨av,.inr ⟨bl,cap,tX,Ψ,Nat.zero_le _,j8,by simpa using sd,Mz,kL,pM⟩⟩ F0
             replace du:=du (by simpa using aq);refine mz (v:= .slice (some ⟨bl,0,none⟩) (xs.length+ys.length) cap) (w':=w.setRow bl tX) (mN _ _ ?_) (c4 _ _ (Z.withOwn k (xs++ys).length (.slice (some ⟨bl,0,none⟩) (xs.length+ys.length) cap)) ?_)
             ·rw[nP,<-oY];exact f1
             ·have:=c0.put (d:=some d) (by simpa[jz]using U) du;simpa[eR]using this
            ·refine CS ?_;obtain⟨v',w',f1,f2,f3⟩:=run_append_arg_grows (P:=P) w t type fX fv z fv.size fv.bytes iT ao hY rfl rfl wK (by rw[bA];exact fA) ⟨bl,0,none⟩ xs.length cap fw (by rw[wG,bA])
              (fun j u af=>by have:=bD.cells oW j u af;exact this) ⟨lh,nO,none⟩ ys.length lI hr (by rw[jV,bA]) sc Ω lq r7
             exact⟨v',w',by rw[nP,<-oY];exact f1,f2,f3⟩
        ·cases aC
       ·cases aC
      ·cases aC
     ·cases aC
    ·cases he
   ·cases b8
  ·cases a8
 ·rename_i sz x y t o' js;simp only[cE,dL]at ax;obtain⟨⟨⟨J,U⟩,ar⟩,a8⟩:=ax;subst J;split at U
  ·rename_i f aR;simp only[dL]at U;simp only[eD]at he;generalize KW:ct st.t x=px at he;unfold rl at he;split at he
   ·rename_i dK k n i tn;split at he
    ·rename_i n' el ju xs ad;split at he
     ·rename_i yo;obtain⟨rfl,rfl⟩:=yo;split at he
      ·rename_i q bF;cases he;obtain⟨kC,bT,cx,dy,kp⟩:=aq;have rx:=eg aJ ar;rw[KW]at rx;have l0:=eg aJ a8;have vz:=vA l0 bT;have vE:=pW vz;obtain⟨_,dS⟩:=vK aM aR w;have u9:(a.eval js).cells.size=sz:=by rw[cx]at vE;simpa using vE
       obtain⟨bl,off,mI,C5,da,bn,qj⟩:=aJ.storeRow (P:=P) ad rx bF kC vz (by simpa[u9]using dy) (fun e=>by have:=eK List.length e;simp[u9]at this;omega);refine EI (w':=w.setRow bl mI) ?_ (c4 _ _ _ qj);simp only[execOp,Instr.storeAt,C5,Instr.sureAddr,storeVar,fL,gB,fR,dS,u9,U,ne_eq,not_true_eq_false,if_false,da]
      ·cases he
     ·cases he
    ·cases he
   ·cases he
  ·cases U
 ·rename_i d key sz el z x t o' js;simp only[cE,dL,e6]at ax;obtain⟨⟨⟨⟨⟨J,U⟩,ar⟩,a8⟩,b8⟩,de⟩:=ax;subst J;split at ar
  ·rename_i fX aR;simp only[dL]at ar;subst ar;split at a8
   ·rename_i g aX;simp only[cE,dL,e6]at a8;obtain⟨⟨⟨rfl,fA⟩,hby⟩,bf⟩:=a8;obtain rfl:=Ou bf;have rx:=eg aJ b8;have l0:=eg aJ de;simp only[eD]at he;split at he
    ·rename_i fp n ae;cases he;obtain⟨afp,jV⟩:=aq;obtain⟨m,rfl⟩:=Int.eq_ofNat_of_zero_le afp;rw[ae]at rx l0;simp only[bd]at rx l0;obtain⟨fv,cl,bR,ao,aF,bA,dr,hX,hY,rL,rM⟩:=(vL aM aX).ex;obtain⟨eP,iT,e2⟩:=je aM aR;obtain rfl:=tf e2;have lq:m<=lim:=by simp only[lim]at jV⊢;omega
     have r7:fv.bytes*m<=281474976710656:=by have J:fv.bytes*m<=2048*m:=Nat.mul_le_mul_right _ Ω;simp only[lim]at lq;omega
     obtain⟨afL,aeI⟩:=Ot w Z rL;obtain⟨w',g1,g2,g3⟩:=run_make_full (P:=P) w w.heap.size t el fv bR fv.size iT ao hY rfl fp fp m r7 (by simp only[maxLen];simp only[lim]at lq;omega) (eX _);have lO:w'.ownsRow w.heap.size el g.size (.slice (some ⟨w.heap.size,0,none⟩) m m) (List.replicate m g.zero).length (madeCells bR.cells (m*bR.cells.size)).toList:=by rw[bA,<-rM]at g2;rw[List.length_replicate,<-rM];exact g2
     obtain⟨eU,fP⟩:=aJ.newRowM (k:=κ) (xs:=List.replicate m g.zero) (.inl (aJ.new _ (uY rfl))) g3 lO (by rw[<-rM];exact UX afL Ω (Bu aeI) m) (by simpa using lq) (cF rfl);simp only[List.length_replicate]at eU fP;simp only[Int.toNat_natCast]at c4;refine mz (v:= .slice (some ⟨w.heap.size,0,none⟩) m m) (w':=w') ?_ (c4 _ _ _ (eU.put (d:=some d) (by simpa[jz]using U) (p:= .row g.size κ m) (fP ⟨_,_,rfl⟩)));simp only[execOp];refine EB ?_;rw[rx,l0];exact g1
    ·cases he
   ·cases a8
  ·cases ar
 ·cases ax
theorem alf{P:cL}{bC:List (Nat×dz)}(aM:fI P bC=true){C:fj}{st st':bm}{a:Act}{w:World}{Z:bc}(aJ:cZ C st a w Z){i:eh}{o:Oper}(ax:Ee C.N bC i o=true)
  {c:Prop} (he:mv st i=some (c,st')) (aq:c) {K:Act->World->Prop} {Q:Exit->Act->World->Prop} (c4:∀bj w' bn,cZ C st' bj w' bn->K bj w'):o.wp P a w K Q:=by
 have oT:qq st none->fresh st.n st.o (.loc st.n):=fun h=>wZ (key:=none) h;have fu:∀j,fresh (st.n+1) st.o j->fresh st.n st.o j/\j≠ .loc st.n:=w1 (key:=none);cases i with
 |v d i=>exact j2 (κ:= .loc 0) (n':=0) (o₁:=[]) aM aJ ax (fun h=>by simp[eh.makes]at h) (fun h=>by simp[eh.makes]at h) (by simpa only[mv,eD]using he) aq c4
 |box d key x=>simp only[mv]at he;cases he;exact j2 (κ:=jZ st key) (n':=nM st key) (o₁:=nN st key) aM aJ ax (fun _=>wZ aq.1) (fun _=>w1) (by simp only[eD]) aq.2 c4
 |alloc d key z=>simp only[mv]at he;cases he;exact j2 (κ:=jZ st key) (n':=nM st key) (o₁:=nN st key) aM aJ ax (fun _=>wZ aq) (fun _=>w1) (by simp only[eD]) trivial c4
 |mks d key sz el z x=>
  simp only[mv]at he;split at he
  ·rename_i fp n ae;cases he;exact j2 (κ:=jZ st key) (n':=nM st key) (o₁:=nN st key) aM aJ ax (fun _=>wZ aq.1) (fun _=>w1) (by simp only[eD,ae]) aq.2 c4
  ·cases he
 |storeE sz x y=>exact j2 (κ:= .loc 0) (n':=0) (o₁:=[]) aM aJ ax (fun h=>by simp[eh.makes]at h) (fun h=>by simp[eh.makes]at h) (by simpa only[mv,eD]using he) aq c4
 |store sz x y=>exact j2 (κ:= .loc 0) (n':=0) (o₁:=[]) aM aJ ax (fun h=>by simp[eh.makes]at h) (fun h=>by simp[eh.makes]at h) (by simpa only[mv,eD]using he) aq c4
 |bsl d sz el xs=>simp only[mv]at he;cases he;exact j2 (κ:= .loc st.n) (n':=st.n+1) (o₁:=st.o) aM aJ ax (fun _=>oT aq.1) (fun _=>fu) (by simp only[eD]) aq.2 c4
 |bslm d key sz el xs=>simp only[mv]at he;cases he;exact j2 (κ:=jZ st key) (n':=nM st key) (o₁:=nN st key) aM aJ ax (fun _=>wZ aq.1) (fun _=>w1) (by simp only[eD]) aq.2 c4
 |appm d key sz el x y=>
  simp only[mv]at he;split at he
  ·rename_i ys aC;cases he;exact j2 (κ:=jZ st key) (n':=nM st key) (o₁:=nN st key) aM aJ ax (fun _=>wZ aq.1) (fun _=>w1) (by simp only[eD,aC]) aq.2 c4
  ·rename_i k xs ys aC;cases he;refine j2 (κ:= .loc 0) (n':=0) (o₁:=[]) aM aJ ax (fun h=>?_) (fun h=>?_) (by simp only[eD,aC]) aq c4;all_goals
    exfalso
    simp only[eh.makes]at h
    split at h
    ·rename_i ae
     unfold tc at aC
     rw[ae]at aC
     split at aC
     ·split at aC<;>cases aC
     ·rename_i J _;cases J
     ·cases aC
    ·cases h
  ·cases he
 |mkmap d key=>simp only[mv]at he;cases he;exact j2 (κ:=jZ st key) (n':=nM st key) (o₁:=nN st key) aM aJ ax (fun _=>wZ aq) (fun _=>w1) (by simp only[eD]) trivial c4
 |mput cg x k v=>exact j2 (κ:= .loc 0) (n':=0) (o₁:=[]) aM aJ ax (fun h=>by simp[eh.makes]at h) (fun h=>by simp[eh.makes]at h) (by simpa only[mv,eD]using he) aq c4
 |range d key x=>
  simp only[mv]at he;split at he
  ·rename_i m ae;split at he
   ·rename_i cs di;split at he
    ·rename_i cs' hm;cases he;exact j2 (κ:=jZ st key) (n':=nM st key) (o₁:=nN st key) aM aJ ax (fun _=>wZ aq) (fun _=>w1) (by simp only[eD,ae,di,hm]) trivial c4
    ·cases he
   ·cases he
  ·cases he
 |app d sz el x y=>
  simp only[mv]at he;split at he
  ·rename_i dK tag xs ju k8 ys ae aH;split at he
   ·rename_i fh;split at he
    ·rename_i k;split at he
     ·rename_i ow ad;cases he;refine j2 (κ:= .loc 0) (n':=0) (o₁:=[]) aM aJ ax (fun h=>by simp[eh.makes,ae]at h) (fun h=>by simp[eh.makes,ae]at h) ?_ aq c4;simp only[eD,ae,aH,fh,and_self,if_true,ad]
     ·cases he
    ·cases he;refine j2 (κ:= .loc st.n) (n':=st.n+1) (o₁:=st.o) aM aJ ax (fun _=>oT aq.1) (fun _=>fu) ?_ aq.2 c4;simp only[eD,ae,aH,fh,and_self,if_true]
    ·cases he
   ·cases he
  ·cases he
structure cS where
 b:List (aL×List ai)
 e:List (aL×fN)
def fx(Z:bc)(s:cS)(bl:Nat):Prop:=(∃k,(look k s.b).isSome/\Z.bx k=some bl)\/(∃g n v,(look g s.e).isSome/\Z.ow g=some (n,v)/\v.ownBlock=some bl)
def pF(Z:bc)(s:cS):Prop:= ∀k,(look k s.b=none->Z.bx k=none)/\(look k s.e=none->Z.ow k=none)/\∀j b,¬Z.tr k j b
def c2(s:cS):List aL:=s.b.map (·.1)++s.e.map (·.1)
def jc(s:cS):Prop:=(∀m,look (.loc m) s.b=none)/\(∀m,look (.loc m) s.e=none)
def xF(P:cL)(f:FuncId)(ba:Array Value)(w:World)(R:Ending->World->Prop):Prop:=((∃fn,P.funcs[f]? =some fn/\fn.body.isSome=true/\(fn.name== "runtime.NumGoroutine")=false)/\Calls P f ba w R)\/ ∃v w',(callFunc f ba).run P w= .ok (.value v) w'/\R (.returned v) w'
def bH(P:cL)(f:FuncId)(args:List ai)(s:cS)(Q:ai->cS->Prop):Prop:=
 ∀(w:World) (Z:bc) (ba:Array Value),Good (fx Z s) w Z s.b s.e->pF Z s->cX w Z args ba.toList->
  xF P f ba w fun e w'=> ∃v r ah bn,e= .returned v/\Q r ah/\bd w' bn r v/\Good (fun bl=>fx Z s bl\/w.heap.size<=bl) w' bn ah.b ah.e/\pF bn ah/\jc ah/\qI ⟨w,Z,fx Z s,0,c2 s⟩ w' bn
def FD(κ:Option Nat)(Z:bc)(s:cS):Prop:= ∀k,(look k s.b=none->Z.bx k=none)/\(look k s.e=none->Z.ow k=none)/\∀j b,Z.tr k j b->∃m,κ=some m/\k= .loc m
theorem pF.k{Z:bc}{s:cS}(h:pF Z s):FD none Z s:=fun k=>⟨(h k).1,(h k).2.1,fun j b ab=>absurd ab ((h k).2.2 j b)⟩
def Iy(P:cL)(f:FuncId)(κ:Nat)(args:List ai)(s:cS)(Q:ai->cS->Prop):Prop:=
 ∀(w:World) (Z:bc) (ba:Array Value),Good (fx Z s) w Z s.b s.e->pF Z s->cX w Z args ba.toList->
  xF P f ba w fun e w'=> ∃v r ah bn,e= .returned v/\Q r ah/\bd w' bn r v/\Good (fun bl=>fx Z s bl\/w.heap.size<=bl) w' bn ah.b ah.e/\FD (some κ) bn ah/\jc ah/\qI ⟨w,Z,fx Z s,0,c2 s⟩ w' bn
def bZ(P:cL)(f:FuncId)(args:List ai)(r:ai):Prop:=bH P f args ⟨[],[]⟩ fun eM ah=>eM=r/\ah=⟨[],[]⟩
theorem tQ{α:Type}{k:aL}{x:α}:∀{l:List (aL×α)},look k l=some x->(k,x)∈l
 |[],h=>by simp[look]at h
 |(i,y)::r,h=>by
  simp only[look]at h;split at h
  ·rename_i e;subst e;cases h;simp
  ·exact oE _ (tQ h)
theorem tY{s:cS}{k:aL}(h:(look k s.b).isSome\/(look k s.e).isSome):k∈c2 s:=by
 unfold c2;rcases h with h|h<;>obtain⟨x,ae⟩:=fE.1 h<;>have:=tQ ae
 ·exact List.mem_append_left _ (iy.2 ⟨_,this,rfl⟩)
 ·exact List.mem_append_right _ (iy.2 ⟨_,this,rfl⟩)
section
open Classical
noncomputable def bc.cut(Z:bc)(S:aL->Prop):bc:={A:=Z.A,bx:=fun k=>if S k then Z.bx k else none,ow:=fun k=>if S k then Z.ow k else none,tr:=fun k j b=>S k/\Z.tr k j b}
theorem bc.cut_bx{Z:bc}{S:aL->Prop}{k:aL}(h:S k):(Z.cut S).bx k=Z.bx k:=by simp[bc.cut,h]
theorem bc.cut_ow{Z:bc}{S:aL->Prop}{k:aL}(h:S k):(Z.cut S).ow k=Z.ow k:=by simp[bc.cut,h]
theorem bc.cut_no{Z:bc}{S:aL->Prop}{k:aL}(h:¬S k):(Z.cut S).bx k=none/\(Z.cut S).ow k=none/\∀j b,¬(Z.cut S).tr k j b:=by simp[bc.cut,h]
theorem bc.cut_some{Z:bc}{S:aL->Prop}{k:aL}{b:Nat}(h:(Z.cut S).bx k=some b):S k/\Z.bx k=some b:=by
 by_cases ag:S k
 ·exact⟨ag,by rw[bc.cut_bx ag]at h;exact h⟩
 ·rw[(bc.cut_no ag).1]at h;cases h
theorem bc.cut_someO{Z:bc}{S:aL->Prop}{k:aL}{b:Nat×Value}(h:(Z.cut S).ow k=some b):S k/\Z.ow k=some b:=by
 by_cases ag:S k
 ·exact⟨ag,by rw[bc.cut_ow ag]at h;exact h⟩
 ·rw[(bc.cut_no ag).2.1]at h;cases h
theorem pq.cut(S:aL->Prop)(w:World)(Z:bc):pq S w Z w (Z.cut S):=⟨fun _ _ h=>⟨h,rfl⟩,fun k b ad h=>by rw[bc.cut_bx ad];exact h,fun g n u aX h=>⟨n,u,by rw[bc.cut_ow aX];exact h,.inl ⟨rfl,rfl⟩⟩,fun _ _ _=>rfl,fun _ _ _ ad h=>⟨ad,h⟩⟩
end
def gz(S:aL->Prop)(b0 b:List (aL×List ai)):Prop:= ∀k cs,look k b0=some cs->look k b=some cs/\S k/\aP S cs
def nS(S:aL->Prop)(fo e:List (aL×fN)):Prop:= ∀k o,look k fo=some o->look k e=some o/\S k/\dV S o
theorem Good.cut{pr DX:Nat->Prop}{w:World}{Z:bc}{b b0:List (aL×List ai)}{e fo:List (aL×fN)}(h:Good pr w Z b e){S:aL->Prop}(ab:gz S b0 b)(he:nS S fo e)
  (TC:∀bl,pr bl->(∃k,(look k b0).isSome/\(Z.cut S).bx k=some bl)\/(∃g n v,(look g fo).isSome/\(Z.cut S).ow g=some (n,v)/\v.ownBlock=some bl)->DX bl):Good DX w (Z.cut S) b0 fo:=by
 have FZ:∀k,(look k b0).isSome->(look k b).isSome/\S k:=fun k ad=>by obtain⟨cs,di⟩:=fE.1 ad;have:=ab k cs di;exact⟨by simp[this.1],this.2.1⟩
 have F2:∀k,(look k fo).isSome->(look k e).isSome/\S k:=fun k ad=>by obtain⟨cs,di⟩:=fE.1 ad;have:=he k cs di;exact⟨by simp[this.1],this.2.1⟩
 refine⟨h.alt,fun k cs ad=>?_,fun k bI bl J U ar a8=>?_,fun g o aX=>?_,fun g ff n n' v v' bl J U ar a8 b8 de=>?_,fun g k n v bl J U ar a8 b8=>?_,fun k=>?_,fun bl aM k j af=>?_⟩
 ·obtain⟨g1,g2,g3⟩:=ab k cs ad;obtain⟨bl,us,el,f1,f2,f3,f4,f5⟩:=h.box k cs g1;have kH:(Z.cut S).bx k=some bl:=by rw[bc.cut_bx g2];exact f1
  exact⟨bl,us,el,kH,TC bl f2 (.inl ⟨k,by simp[ad],kH⟩),f3,f4,W7 (pq.cut S w Z) g3 f5⟩
 ·obtain⟨bB,a2⟩:=FZ k J;obtain⟨ck,ca⟩:=FZ bI U;exact h.inj k bI bl bB ck (bc.cut_some ar).2 (bc.cut_some a8).2
 ·obtain⟨g1,g2,g3⟩:=he g o aX;obtain⟨v,us,f1,f2,f3,f4⟩:=h.own g o g1;have C3:(Z.cut S).ow g=some (o.n,v):=by rw[bc.cut_ow g2];exact f1
  exact⟨v,us,C3,f2,fun bl e8=>⟨TC bl (f3 bl e8).1 (.inr ⟨g,o.n,v,by simp[aX],C3,e8⟩),(f3 bl e8).2⟩,
   fun xs ae=>⟨(f4 xs ae).1,HL (pq.cut S w Z) _ _ _ (g3 xs ae) (f4 xs ae).2.1,(f4 xs ae).2.2⟩⟩
 ·obtain⟨bB,a2⟩:=F2 g J;obtain⟨ck,ca⟩:=F2 ff U;exact h.oinj g ff n n' v v' bl bB ck (bc.cut_someO ar).2 (bc.cut_someO a8).2 b8 de
 ·obtain⟨bB,a2⟩:=F2 g J;obtain⟨ck,ca⟩:=FZ k U;exact h.obx g k n v bl bB ck (bc.cut_someO ar).2 a8 (bc.cut_some b8).2
 ·by_cases ag:S k
  ·rw[bc.cut_bx ag,bc.cut_ow ag];exact h.one k
  ·exact .inl (bc.cut_no ag).1
 ·refine h.otr bl ?_ k j af.2;rcases aM with⟨bI,bB,a2⟩|⟨g,n,v,bB,a2,a3⟩
  ·exact .inl ⟨bI,(FZ bI bB).1,(bc.cut_some a2).2⟩
  ·exact .inr ⟨g,n,v,(F2 g bB).1,(bc.cut_someO a2).2,a3⟩
structure iO (ob:List aL) (st st':bm):Prop where
 t:∀x∈st'.t,get x.1 st.t=x.2/\aG (fun k=> ¬fresh st'.n st'.o k) x.2
 b:gz (fun k=> ¬fresh st'.n st'.o k) st'.b st.b
 e:nS (fun k=> ¬fresh st'.n st'.o k) st'.e st.e
 o:∀m∈ob,m∈st'.o
theorem SB:∀(i:Nat) (l:List (Nat×ai)),get i l= .junk\/(i,get i l)∈l
 |_,[]=>.inl rfl
 |i,(j,p)::r=>by
  by_cases h:j=i
  ·subst h;right;simp[get]
  ·rcases SB i r with J|J
   ·left;simp[get,h,J]
   ·right;simp[get,h];right;exact J
theorem cZ.weaker{C:fj}{st st':bm}{a:Act}{w:World}{Z:bc}(h:cZ C st a w Z)(hw:iO C.ob st st'):cZ C st' a w (Z.cut fun k=> ¬fresh st'.n st'.o k):=by
 refine⟨h.good.cut hw.b hw.e (fun bl bK _=>bK),⟨h.fr.os,h.fr.tape,h.fr.output,h.fr.size,h.fr.block,h.fr.keep,h.fr.fresh,fun n b ab=>?_,h.fr.obn,fun m n u hm=>?_,h.fr.obr,fun k j bI dD b J U=>h.fr.trd k j bI dD b J.2 U.2,fun k j b ab=>h.fr.trb k j b ab.2,fun k j b ab=>?_,h.fr.sh⟩,h.defers,h.size,fun i=>?_,fun k ad=>bc.cut_no (fun ay=>ay ad)⟩
 ·rw[bc.cut_bx (fun cu=>cu.2 (hw.o _ (h.fr.obn n b ab)))];exact h.fr.obj n b ab
 ·rw[bc.cut_ow (fun cu=>cu.2 (hw.o _ (h.fr.obr m n u hm)))];exact h.fr.row m n u hm
 ·rw[bc.cut_bx ab.1,bc.cut_ow ab.1];exact h.fr.trn k j b ab.2
 ·rcases SB i st'.t with af|hm
  ·rw[af];simp[bd]
  ·obtain⟨J,U⟩:=hw.t _ hm;simp only at J;have:=h.slot i;rw[J]at this;exact vB (pq.cut _ w Z) _ _ U this
mutual
def ey:ai->ai
 | .slice sz _ xs=>.slice sz .no (dv xs)
 | .agg cs=>.agg (dv cs)
 | .tuple ba=>.tuple (dv ba)
 | .eptr x=>.eptr (ey x)
 | .iface t x=>.iface t (ey x)
 | .func f dn=>.func f (dv dn)
 |p=>p
def dv:List ai->List ai
 |[]=>[]
 |x::xs=>ey x::dv xs
end
theorem vI:∀xs,(dv xs).length=xs.length
 |[]=>rfl
 |x::xs=>by simp[dv,vI xs]
mutual
theorem J8{t:Bool}{w:World}{A:Nat->Nat->Prop}:∀(p:ai) (F:Nat->Prop) (v:Value),gh t w A F p v->gh t w A F (ey p) v
 | .int _ _,_,_,h=>by simpa only[ey]using h
 | .bool _,_,_,h=>by simpa only[ey]using h
 | .str _,_,_,h=>by simpa only[ey]using h
 | .slice sz tag xs,F,v,h=>by
  simp only[gh,ey]at h⊢;obtain⟨a,cap,J,U,ar,a8⟩:=h;refine⟨a,cap,by rw[vI];exact J,by rw[vI];exact U,by rw[vI];exact ar,?_⟩;rcases a8 with rfl|⟨b,off,us,G,ao,aF,bA,dr,hX,hY⟩
  ·exact .inl rfl
  ·exact .inr ⟨b,off,us,G,ao,aF,bA,dr,hX,Sk sz xs G us hY⟩
 | .agg cs,F,v,h=>by simp only[gh,ey]at h⊢;obtain⟨us,J,U⟩:=h;exact⟨us,J,Sl cs F _ U⟩
 | .junk,_,_,h=>by simp[gh]at h
 | .ptr _ _,_,_,h=>by simp[gh]at h
 | .eptr _,_,_,h=>by simp[gh]at h
 | .iface _ _,_,_,h=>by simp[gh]at h
 | .nilp,_,_,h=>by simp[gh]at h
 | .tuple _,_,_,h=>by simp[gh]at h
 | .func _ _,_,_,h=>by simp[gh]at h
 | .gmap _,_,_,h=>by simp[gh]at h
 | .row _ _ _,_,_,h=>by simp[gh]at h
 | .rptr _ _ _ _ _,_,_,h=>by simp[gh]at h
 | .hdm _ _,_,_,h=>by simp[gh]at h
 | .hdi _ _ _,_,_,h=>by simp[gh]at h
 | .cst _,_,_,h=>by simp[gh]at h
theorem Sl{t:Bool}{w:World}{A:Nat->Nat->Prop}:∀(cs:List ai) (F:Nat->Prop) (us:List Value),uR t w A F cs us->uR t w A F (dv cs) us
 |[],_,_,h=>by simpa only[dv]using h
 |c::cs,F,us,h=>by simp only[uR,dv]at h⊢;obtain⟨u,cm,ik,iz,J,U,⟨b8,de⟩,dX⟩:=h;exact⟨u,cm,ik,iz,J,U,⟨J8 c ik u b8,de⟩,Sl cs iz cm dX⟩
theorem Sk{t:Bool}{w:World}{A:Nat->Nat->Prop}(sz:Nat):∀(cs:List ai) (F:Nat->Prop) (us:List Value),uQ t w A F sz cs us->uQ t w A F sz (dv cs) us
 |[],_,_,h=>by simpa only[dv]using h
 |c::cs,F,us,h=>by simp only[uQ,dv]at h⊢;obtain⟨u,cm,ik,iz,J,U,⟨b8,de⟩,dX⟩:=h;exact⟨u,cm,ik,iz,J,U,⟨J8 c ik u b8,de⟩,Sk sz cs iz cm dX⟩
end
theorem Sj{t:Bool}{w:World}{A:Nat->Nat->Prop}{F:Nat->Prop}{sz:Nat}{tag:BZ}(k8:BZ){xs:List ai}(v:Value)(h:gh t w A F (.slice sz tag xs) v):gh t w A F (.slice sz k8 (dv xs)) v:=by have:=J8 _ F v h;simp only[ey,gh]at this⊢;exact this
mutual
theorem y7{w:World}{Z:bc}:∀(p:ai) (v:Value),bd w Z p v->bd w Z (ey p) v
 | .junk,_,h=>by simpa only[ey]using h
 | .int k n,_,h=>by simpa only[ey]using h
 | .bool b,_,h=>by simpa only[ey]using h
 | .str s,_,h=>by simpa only[ey]using h
 | .slice sz tag xs,v,h=>by
  simp only[bd,ey]at h⊢;obtain⟨⟨a,cap,J,U,ar,a8⟩,b8,de⟩:=h;refine⟨⟨a,cap,by rw[vI];exact J,by rw[vI];exact U,by rw[vI];exact ar,?_⟩,fun e=>(by cases e),fun g e=>(by cases e),fun _ _ e=>(by cases e),fun _ e=>(by cases e)⟩;rcases a8 with rfl|⟨b,off,us,a8,de,dX⟩
  ·exact .inl rfl
  ·exact .inr ⟨b,off,us,a8,de,Xa sz xs us dX⟩
 | .agg cs,v,h=>by simp only[bd,ey]at h⊢;obtain⟨us,J,U⟩:=h;exact⟨us,J,Xe cs _ U⟩
 | .ptr key off,v,h=>by simpa only[ey]using h
 | .iface t x,v,h=>by simp only[bd,ey]at h⊢;obtain⟨u,J,U⟩:=h;exact⟨u,J,y7 x u U⟩
 | .eptr x,v,h=>by simp only[bd,ey]at h⊢;obtain⟨b,off,u,J,U,ar⟩:=h;exact⟨b,off,u,J,y7 x u U,ar⟩
 | .nilp,_,h=>by simpa only[ey]using h
 | .tuple ba,v,h=>by simp only[bd,ey]at h⊢;obtain⟨us,J,U⟩:=h;exact⟨us,J,HS ba _ U⟩
 | .func f dn,v,h=>by simp only[bd,ey]at h⊢;obtain⟨us,J,U⟩:=h;exact⟨us,J,HS dn _ U⟩
 | .gmap key,v,h=>by simpa only[ey]using h
 | .row _ _ _,v,h=>by simpa only[ey]using h
 | .rptr _ _ _ _ _,v,h=>by simpa only[ey]using h
 | .cst _,v,h=>by simpa only[ey]using h
theorem Xe{w:World}{Z:bc}:∀(cs:List ai) (us:List Value),ds w Z cs us->ds w Z (dv cs) us
 |[],_,h=>by simpa only[dv]using h
 |c::cs,us,h=>by simp only[ds,dv]at h⊢;obtain⟨u,cm,J,U,ar⟩:=h;exact⟨u,cm,J,⟨y7 c u U.1,U.2⟩,Xe cs cm ar⟩
theorem HS{w:World}{Z:bc}:∀(cs:List ai) (us:List Value),cX w Z cs us->cX w Z (dv cs) us
 |[],_,h=>by simpa only[dv]using h
 |c::cs,us,h=>by simp only[cX,dv]at h⊢;obtain⟨u,cm,J,U,ar⟩:=h;exact⟨u,cm,J,y7 c u U,HS cs cm ar⟩
theorem Xa{w:World}{Z:bc}(sz:Nat):∀(xs:List ai) (us:List Value),dB w Z sz xs us->dB w Z sz (dv xs) us
 |[],_,h=>by simpa only[dv]using h
 |x::xs,us,h=>by simp only[dB,dv]at h⊢;obtain⟨u,cm,J,⟨U,ar,a8⟩,b8⟩:=h;exact⟨u,cm,J,⟨y7 x u U,ar,a8⟩,Xa sz xs cm b8⟩
end
def inObs(s:cS)(k:aL):Prop:=(look k s.b).isSome=true\/(look k s.e).isSome=true
def cb{α β:Type}(s:List (aL×β)):List (aL×α)->List (aL×α)
 |[]=>[]
 |(k,x)::r=>match look k s with
  |some _=>cb s r
  |none=>(k,x)::cb s r
theorem vn{α β:Type}(s:List (aL×β))(k:aL):∀l:List (aL×α),look k (cb s l)=if(look k s).isSome then none else look k l
 |[]=>by simp[cb,look]
 |(i,x)::r=>by
  simp only[cb];by_cases e:i=k
  ·subst e;cases h:look i s with
   |some y=>simp[vn s i r,h]
   |none=>simp[look]
  ·cases h:look i s with
   |some y=>simp[vn s k r,look,e]
   |none=>simp[look,e,vn s k r]
theorem yH{α:Type}(k:aL):∀l a1:List (aL×α),look k (l++a1)=match look k l with|some x=>some x|none=>look k a1
 |[],a1=>by simp[look]
 |(i,x)::r,a1=>by
  by_cases e:i=k
  ·simp[look,e]
  ·simp[look,e,yH k r a1]
def after(st:bm)(s ah:cS)(d:Option Nat)(r:ai):bm:={t:=eR d r st.t,b:=cb s.b st.b++ah.b,e:=cb s.e st.e++ah.e,n:=st.n,o:=st.o++c2 ah}
section
open Classical
noncomputable def bc.join(Z bn:bc)(s ah:cS):bc:={A:=bn.A,bx:=fun k=>if(look k s.b).isSome\/(look k ah.b).isSome then bn.bx k else Z.bx k,ow:=fun k=>if(look k s.e).isSome\/(look k ah.e).isSome then bn.ow k else Z.ow k,tr:=fun k j b=>Z.tr k j b\/bn.tr k j b}
end
theorem cZ.callK{C:fj}{st:bm}{a:Act}{w w':World}{Z bn:bc}(h:cZ C st a w Z){s ah:cS}(ab:gz (inObs s) s.b st.b)(he:nS (inObs s) s.e st.e)(u5:jc s)
  (aX:Good (fun bl=>fx (Z.cut (inObs s)) s bl\/w.heap.size<=bl) w' bn ah.b ah.e) {κ:Option Nat} (ae:FD κ bn ah) (af8:∀m,κ=some m->Z.bx (.loc m)=none/\Z.ow (.loc m)=none/\∀j b,¬Z.tr (.loc m) j b) {n':Nat} {o':List aL} (cF:∀k,fresh n' o' k->fresh st.n (st.o++c2 ah) k/\∀m,κ=some m->k≠ .loc m) (tE:jc ah) (aR:qI ⟨w,Z.cut (inObs s),fx (Z.cut (inObs s)) s,0,c2 s⟩ w' bn)
  (KQ:∀m,(look (.obj m) ah.b).isSome->(look (.obj m) s.b).isSome\/ .obj m∉st.o) (cK:∀m,(look (.obj m) ah.e).isSome->(look (.obj m) s.e).isSome\/ .obj m∉st.o) (d:Option Nat) (aN:jz C.N d=true) {r:ai} {v:Value} (aJ:bd w' bn r v):
  cZ C {after st s ah d r with n:=n',o:=o'} (a.put d v) w' (Z.join bn s ah):=by
 have jE:∀k,(look k s.b).isSome->(look k st.b).isSome:=fun k ad=>by obtain⟨cs,di⟩:=fE.1 ad;simp[(ab k cs di).1]
 have lP:∀k,(look k s.e).isSome->(look k st.e).isSome:=fun k ad=>by obtain⟨cs,di⟩:=fE.1 ad;simp[(he k cs di).1]
 have afu:∀k,(look k ah.b).isSome->¬(look k s.b).isSome->Z.bx k=none:=fun k ad ay=>by
  cases k with
  |loc m=>rw[tE.1 m]at ad;cases ad
  |obj m=>exact(h.new (.obj m) ⟨trivial,(KQ m ad).resolve_left ay⟩).1
 have afv:∀k,(look k ah.e).isSome->¬(look k s.e).isSome->Z.ow k=none:=fun k ad ay=>by
  cases k with
  |loc m=>rw[tE.2 m]at ad;cases ad
  |obj m=>exact(h.new (.obj m) ⟨trivial,(cK m ad).resolve_left ay⟩).2.1
 have agI:∀k,(look k s.b).isSome->(Z.join bn s ah).bx k=bn.bx k:=fun k ad=>by simp[bc.join,ad]
 have Uc:∀k,(look k ah.b).isSome->(Z.join bn s ah).bx k=bn.bx k:=fun k ad=>by simp[bc.join,ad]
 have Ud:∀k,Z.bx k≠none->¬(look k s.b).isSome->(Z.join bn s ah).bx k=Z.bx k:=fun k J U=>by have ar:¬(look k ah.b).isSome:=fun ar=>J (afu k ar U);simp[bc.join,U,ar]
 have agJ:∀k,(look k s.e).isSome->(Z.join bn s ah).ow k=bn.ow k:=fun k ad=>by simp[bc.join,ad]
 have Lp:∀k,(look k ah.e).isSome->(Z.join bn s ah).ow k=bn.ow k:=fun k ad=>by simp[bc.join,ad]
 have Lq:∀k,Z.ow k≠none->¬(look k s.e).isSome->(Z.join bn s ah).ow k=Z.ow k:=fun k J U=>by have ar:¬(look k ah.e).isSome:=fun ar=>J (afv k ar U);simp[bc.join,U,ar]
 have YG:∀k b,bn.bx k=some b->(look k ah.b).isSome:=fun k b ad=>by
  cases av:look k ah.b with
  |some _=>rfl
  |none=>rw[(ae k).1 av]at ad;cases ad
 have YH:∀k b,bn.ow k=some b->(look k ah.e).isSome:=fun k b ad=>by
  cases av:look k ah.e with
  |some _=>rfl
  |none=>rw[(ae k).2.1 av]at ad;cases ad
 have ax:lF w Z w' (Z.join bn s ah):=by
  refine⟨fun b o bg=>aR.keep b o bg,fun k b _ ad=>?_,fun g n u _ aX=>?_,fun b o bg=>aR.sh b o bg,fun _ _ _ _ h=>.inl h⟩
  ·by_cases ag:(look k s.b).isSome
   ·rw[agI k ag];cases k with
    |loc m=>rw[u5.1 m]at ag;cases ag
    |obj m=>exact aR.obj m b (by rw[bc.cut_bx (.inl ag)];exact ad)
   ·rw[Ud k (by rw[ad];simp) ag];exact ad
  ·by_cases ag:(look g s.e).isSome
   ·rw[agJ g ag];cases g with
    |loc m=>rw[u5.2 m]at ag;cases ag
    |obj m=>exact aR.row m n u (by rw[bc.cut_ow (.inr ag)];exact aX)
   ·rw[Lq g (by rw[aX];simp) ag];exact⟨n,u,aX,.inl ⟨rfl,rfl⟩⟩
 have h1:lF w' bn w' (Z.join bn s ah):=⟨fun b o bg=>⟨bg,rfl⟩,fun k b _ ad=>by rw[Uc k (YG k b ad)];exact ad,fun g n u _ ad=>⟨n,u,by rw[Lp g (YH g _ ad)];exact ad,.inl ⟨rfl,rfl⟩⟩,fun _ _ _=>rfl,fun _ _ _ _ h=>.inr h⟩
 have qd:∀bl,fx (Z.cut (inObs s)) s bl->C.pr bl/\bl<w.heap.size:=by
  intro bl e8;rcases e8 with⟨k,J,U⟩|⟨g,n,u,J,U,ar⟩
  ·have a8:=(bc.cut_some U).2;obtain⟨cs,di⟩:=fE.1 (jE k J);obtain⟨iC,us,el,g1,g2,_⟩:=h.good.box k cs di;rw[a8]at g1;cases g1;exact⟨g2,h.good.boxLt di a8⟩
  ·have a8:=(bc.cut_someO U).2;obtain⟨o,Gf⟩:=fE.1 (lP g J);obtain⟨v',us,g1,g2,g3,_⟩:=h.good.own g o Gf;rw[a8]at g1;cases g1;exact⟨(g3 bl ar).1,h.good.ownLt Gf a8 ar⟩
 have TD:∀bl,fx (Z.cut (inObs s)) s bl\/w.heap.size<=bl->C.pr bl:=fun bl e8=>by
  rcases e8 with e8|e8
  ·exact(qd bl e8).1
  ·exact .inr (kn h.fr.size e8)
 have afR:∀k cs bl,look k st.b=some cs->¬(look k s.b).isSome->Z.bx k=some bl->¬fx (Z.cut (inObs s)) s bl:=by
  intro k cs bl J U ar a8;rcases a8 with⟨bI,bB,a2⟩|⟨g,n,u,bB,a2,a3⟩
  ·have:=h.good.inj k bI bl (by simp[J]) (jE bI bB) ar (bc.cut_some a2).2;subst this;exact U bB
  ·exact h.good.obx g k n u bl (lP g bB) (by simp[J]) (bc.cut_someO a2).2 a3 ar
 have afS:∀g o n u bl,look g st.e=some o->¬(look g s.e).isSome->Z.ow g=some (n,u)->u.ownBlock=some bl->¬fx (Z.cut (inObs s)) s bl:=by
  intro g o n u bl J U ar a8 b8;rcases b8 with⟨bI,bB,a2⟩|⟨ff,n',fa,bB,a2,a3⟩
  ·exact h.good.obx g bI n u bl (by simp[J]) (jE bI bB) ar a8 (bc.cut_some a2).2
  ·have:=h.good.oinj g ff n n' u fa bl (by simp[J]) (lP ff bB) ar (bc.cut_someO a2).2 a8 a3;subst this;exact U bB
 have Ri:∀k cs,look k (cb s.b st.b++ah.b)=some cs->(¬(look k s.b).isSome/\look k st.b=some cs)\/look k ah.b=some cs:=by
  intro k cs ad;rw[yH,vn]at ad;by_cases ag:(look k s.b).isSome
  ·simp only[ag,if_true]at ad;exact .inr ad
  ·simp only[ag]at ad;cases av:look k st.b with
   |some x=>simp[av]at ad;subst ad;exact .inl ⟨ag,rfl⟩
   |none=>simp[av]at ad;exact .inr ad
 have Rj:∀k cs,look k (cb s.e st.e++ah.e)=some cs->(¬(look k s.e).isSome/\look k st.e=some cs)\/look k ah.e=some cs:=by
  intro k cs ad;rw[yH,vn]at ad;by_cases ag:(look k s.e).isSome
  ·simp only[ag,if_true]at ad;exact .inr ad
  ·simp only[ag]at ad;cases av:look k st.e with
   |some x=>simp[av]at ad;subst ad;exact .inl ⟨ag,rfl⟩
   |none=>simp[av]at ad;exact .inr ad
 have BA:∀bl,fx (Z.cut (inObs s)) s bl\/w.heap.size<=bl->∀iC,iC<w.heap.size->¬fx (Z.cut (inObs s)) s iC->bl≠iC:=by
  intro bl J iC U ar e;subst e;rcases J with J|J
  ·exact ar J
  ·omega
 have Lv:∀bl,bl<w.heap.size->¬fx (Z.cut (inObs s)) s bl->w'.heap[bl]? =w.heap[bl]?:=fun bl J U=>aR.block bl J U;have isB:∀k bl,(look k (cb s.b st.b++ah.b)).isSome->(Z.join bn s ah).bx k=some bl->(¬(look k s.b).isSome/\(look k st.b).isSome/\Z.bx k=some bl)\/((look k ah.b).isSome/\bn.bx k=some bl):=by
  intro k bl ad kH;obtain⟨cs,di⟩:=fE.1 ad;rcases Ri k cs di with⟨J,U⟩|J
  ·obtain⟨iC,us,el,g1,_⟩:=h.good.box k cs U;rw[Ud k (by rw[g1];simp) J]at kH;exact .inl ⟨J,by simp[U],kH⟩
  ·rw[Uc k (by simp[J])]at kH;exact .inr ⟨by simp[J],kH⟩
 have Gy:∀k x,(look k (cb s.e st.e++ah.e)).isSome->(Z.join bn s ah).ow k=some x->(¬(look k s.e).isSome/\(look k st.e).isSome/\Z.ow k=some x)\/((look k ah.e).isSome/\bn.ow k=some x):=by
  intro k x ad kH;obtain⟨cs,di⟩:=fE.1 ad;rcases Rj k cs di with⟨J,U⟩|J
  ·obtain⟨v',us,g1,_⟩:=h.good.own k cs U;rw[Lq k (by rw[g1];simp) J]at kH;exact .inl ⟨J,by simp[U],kH⟩
  ·rw[Lp k (by simp[J])]at kH;exact .inr ⟨by simp[J],kH⟩
 have B9:∀k bl,¬(look k s.b).isSome->(look k st.b).isSome->Z.bx k=some bl->bl<w.heap.size/\¬fx (Z.cut (inObs s)) s bl:=by intro k bl J U ar;obtain⟨cs,di⟩:=fE.1 U;exact⟨h.good.boxLt di ar,afR k cs bl di J ar⟩
 have y9:∀k n u bl,¬(look k s.e).isSome->(look k st.e).isSome->Z.ow k=some (n,u)->u.ownBlock=some bl->bl<w.heap.size/\¬fx (Z.cut (inObs s)) s bl:=by intro k n u bl J U ar a8;obtain⟨cs,di⟩:=fE.1 U;exact⟨h.good.ownLt di ar a8,afS k cs n u bl di J ar a8⟩
 have E9:∀k bl,(look k ah.b).isSome->bn.bx k=some bl->fx (Z.cut (inObs s)) s bl\/w.heap.size<=bl:=by intro k bl J U;obtain⟨cs,di⟩:=fE.1 J;obtain⟨iC,us,el,g1,g2,_⟩:=aX.box k cs di;rw[U]at g1;cases g1;exact g2
 have HZ:∀k n u bl,(look k ah.e).isSome->bn.ow k=some (n,u)->u.ownBlock=some bl->fx (Z.cut (inObs s)) s bl\/w.heap.size<=bl:=by intro k n u bl J U ar;obtain⟨cs,di⟩:=fE.1 J;obtain⟨v',us,g1,g2,g3,_⟩:=aX.own k cs di;rw[U]at g1;cases g1;exact(g3 bl ar).1
 have bg:∀bl o,bn.A bl o->bl<w.heap.size->¬fx (Z.cut (inObs s)) s bl->Z.A bl o:=by
  intro bl o J U ar;rcases aR.fresh bl o J with a8|a8|a8
  ·exact a8
  ·exact absurd a8 ar
  ·simp only at a8;omega
 have qj:cZ C {t:=st.t,b:=cb s.b st.b++ah.b,e:=cb s.e st.e++ah.e,n:=n',o:=o'} a w' (Z.join bn s ah):=by
  refine h.over ax rfl ⟨aX.alt,fun k cs ad=>?_,fun k bI bl J U ar a8=>?_,fun g o dY=>?_,fun g ff n n' u fa bl J U ar a8 b8 de=>?_,fun g k n u bl J U ar a8 b8=>?_,fun k=>?_,fun bl aM k j lR=>?_⟩
   ⟨aR.os.trans h.fr.os,aR.tape.trans h.fr.tape,aR.output.trans h.fr.output,kn h.fr.size aR.size,fun k ad hm=>?_,fun b o r1=>?_,fun b o r1=>?_,fun n b ay=>ax.bx _ _ trivial (h.fr.obj n b ay),h.fr.obn,
    fun m n u hm=>Ec (h.fr.row m n u hm) (fun n u=>ax.ow _ n u trivial),h.fr.obr,fun k j bI dD b J U=>?_,fun k j b ab=>?_,fun k j b ab=>?_,fun b o bg=>(ax.sh b o (h.fr.keep b o bg).1).trans (h.fr.sh b o bg)⟩ (fun k ad=>?_)
  ·rcases Ri k cs ad with⟨J,U⟩|J
   ·obtain⟨bl,us,el,g1,g2,g3,g4,g5⟩:=h.good.box k cs U;obtain⟨ck,ca⟩:=B9 k bl J (by simp[U]) g1;exact⟨bl,us,el,ax.bx _ _ trivial g1,g2,fun o r1=>g3 o (bg bl o r1 ck ca),by rw[Lv bl ck ca];exact g4,qz ax g5⟩
   ·obtain⟨bl,us,el,g1,g2,g3,g4,g5⟩:=aX.box k cs J;exact⟨bl,us,el,h1.bx _ _ trivial g1,TD bl g2,g3,g4,qz h1 g5⟩
  ·rcases isB k bl J ar with⟨bB,a2,a3⟩|⟨bB,a2⟩<;>rcases isB bI bl U a8 with⟨ck,ca,gf⟩|⟨ck,ca⟩
   ·exact h.good.inj k bI bl a2 ca a3 gf
   ·obtain⟨bT,cx⟩:=B9 k bl bB a2 a3;exact absurd rfl (BA bl (E9 bI bl ck ca) bl bT cx)
   ·obtain⟨bT,cx⟩:=B9 bI bl ck ca gf;exact absurd rfl (BA bl (E9 k bl bB a2) bl bT cx)
   ·exact aX.inj k bI bl bB ck a2 ca
  ·rcases Rj g o dY with⟨J,U⟩|J
   ·obtain⟨u,us,g1,g2,g3,g4⟩:=h.good.own g o U;refine⟨u,us,by rw[Lq g (by rw[g1];simp) J];exact g1,⟨g2.1,?_⟩,fun bl e8=>?_,sG ax (fun bl e8 j r1=>?_) g4⟩
    ·rcases g2.2 with aF|⟨bb,cap,cur,f1,f2,f3,f4⟩
     ·exact .inl aF
     ·obtain⟨ck,ca⟩:=y9 g _ u bb J (by simp[U]) g1 (by rw[f1];rfl);exact .inr ⟨bb,cap,cur,f1,f2,by rw[Lv bb ck ca];exact f3,f4⟩
    ·obtain⟨ck,ca⟩:=y9 g _ u bl J (by simp[U]) g1 e8;exact⟨(g3 bl e8).1,fun j r1=>(g3 bl e8).2 j (bg bl j r1 ck ca)⟩
    ·obtain⟨ck,ca⟩:=y9 g _ u bl J (by simp[U]) g1 e8;exact bg bl j r1 ck ca
   ·obtain⟨u,us,g1,g2,g3,g4⟩:=aX.own g o J;exact⟨u,us,by rw[Lp g (by simp[J])];exact g1,g2,fun bl e8=>⟨TD bl (g3 bl e8).1,(g3 bl e8).2⟩,sG h1 (fun _ _ _ h=>h) g4⟩
  ·rcases Gy g _ J ar with⟨bB,a2,a3⟩|⟨bB,a2⟩<;>rcases Gy ff _ U a8 with⟨ck,ca,gf⟩|⟨ck,ca⟩
   ·exact h.good.oinj g ff n n' u fa bl a2 ca a3 gf b8 de
   ·obtain⟨bT,cx⟩:=y9 g n u bl bB a2 a3 b8;exact absurd rfl (BA bl (HZ ff n' fa bl ck ca de) bl bT cx)
   ·obtain⟨bT,cx⟩:=y9 ff n' fa bl ck ca gf de;exact absurd rfl (BA bl (HZ g n u bl bB a2 b8) bl bT cx)
   ·exact aX.oinj g ff n n' u fa bl bB ck a2 ca b8 de
  ·rcases Gy g _ J ar with⟨bB,a2,a3⟩|⟨bB,a2⟩<;>rcases isB k bl U b8 with⟨ck,ca,gf⟩|⟨ck,ca⟩
   ·exact h.good.obx g k n u bl a2 ca a3 a8 gf
   ·obtain⟨bT,cx⟩:=y9 g n u bl bB a2 a3 a8;exact absurd rfl (BA bl (E9 k bl ck ca) bl bT cx)
   ·obtain⟨bT,cx⟩:=B9 k bl ck ca gf;exact absurd rfl (BA bl (HZ g n u bl bB a2 a8) bl bT cx)
   ·exact aX.obx g k n u bl bB ck a2 a8 ca
  ·
   cases kH:(Z.join bn s ah).bx k with
   |none=>exact .inl rfl
   |some bl=>
    right;cases C3:(Z.join bn s ah).ow k with
    |none=>rfl
    |some x=>
     exfalso;have ao:(Z.bx k=some bl/\¬(look k s.b).isSome/\¬(look k ah.b).isSome)\/bn.bx k=some bl:=by
      by_cases ag:(look k s.b).isSome\/(look k ah.b).isSome
      ·right;simpa[bc.join,ag]using kH
      ·left;simp only[not_or]at ag;exact⟨by simpa[bc.join,ag.1,ag.2]using kH,ag.1,ag.2⟩
     have aF:(Z.ow k=some x/\¬(look k s.e).isSome/\¬(look k ah.e).isSome)\/bn.ow k=some x:=by
      by_cases ag:(look k s.e).isSome\/(look k ah.e).isSome
      ·right;simpa[bc.join,ag]using C3
      ·left;simp only[not_or]at ag;exact⟨by simpa[bc.join,ag.1,ag.2]using C3,ag.1,ag.2⟩
     rcases ao with⟨bB,a2,a3⟩|bB<;>rcases aF with⟨ck,ca,gf⟩|ck
     ·rcases h.good.one k with cu|cu
      ·rw[cu]at bB;cases bB
      ·rw[cu]at ck;cases ck
     ·have u2:=YH k x ck;have fh:(look k s.e).isSome:=by
       cases k with
       |loc m=>rw[tE.2 m]at u2;cases u2
       |obj m=>
        rcases cK m u2 with cu|cu
        ·exact cu
        ·rw[(h.new (.obj m) ⟨trivial,cu⟩).1]at bB;cases bB
      obtain⟨o,Gf⟩:=fE.1 (lP k fh);obtain⟨v',us,g1,_⟩:=h.good.own k o Gf;rcases h.good.one k with cu|cu
      ·rw[cu]at bB;cases bB
      ·rw[cu]at g1;cases g1
     ·have qh:=YG k bl bB;have fh:(look k s.b).isSome:=by
       cases k with
       |loc m=>rw[tE.1 m]at qh;cases qh
       |obj m=>
        rcases KQ m qh with cu|cu
        ·exact cu
        ·rw[(h.new (.obj m) ⟨trivial,cu⟩).2.1]at ck;cases ck
      obtain⟨cs,di⟩:=fE.1 (jE k fh);obtain⟨iC,us,el,g1,_⟩:=h.good.box k cs di;rcases h.good.one k with cu|cu
      ·rw[cu]at g1;cases g1
      ·rw[cu]at ck;cases ck
     ·rcases aX.one k with cu|cu
      ·rw[cu]at bB;cases bB
      ·rw[cu]at ck;cases ck
  ·have Tr:∀k j,bn.tr k j bl->w.heap.size<=bl:=fun k j cu=>by
    rcases(aR.trb k j bl cu).1 with a2|a2
    ·obtain⟨m,_,hm⟩:=(ae k).2.2 j bl cu;rw[hm]at a2;cases a2
    ·exact a2
   have hold:fx (Z.cut (inObs s)) s bl->¬Z.tr k j bl:=by
    rintro(⟨bI,bB,a2⟩|⟨g,n,u,bB,a2,a3⟩) cu
    ·exact h.good.otr bl (.inl ⟨bI,jE bI bB,(bc.cut_some a2).2⟩) k j cu
    ·exact h.good.otr bl (.inr ⟨g,n,u,lP g bB,(bc.cut_someO a2).2,a3⟩) k j cu
   have j8:fx (Z.cut (inObs s)) s bl\/w.heap.size<=bl->¬Z.tr k j bl:=by
    rintro(J|J) cu
    ·exact hold J cu
    ·have:=(h.fr.trb k j bl cu).2;omega
   rcases aM with⟨bI,bB,a2⟩|⟨g,n,u,bB,a2,a3⟩
   ·rcases isB bI bl bB a2 with⟨ck,ca,gf⟩|⟨ck,ca⟩
    ·rcases lR with lR|lR
     ·exact h.good.otr bl (.inl ⟨bI,ca,gf⟩) k j lR
     ·have:=(B9 bI bl ck ca gf).1;have:=Tr k j lR;omega
    ·rcases lR with lR|lR
     ·exact j8 (E9 bI bl ck ca) lR
     ·exact aX.otr bl (.inl ⟨bI,ck,ca⟩) k j lR
   ·rcases Gy g _ bB a2 with⟨ck,ca,gf⟩|⟨ck,ca⟩
    ·rcases lR with lR|lR
     ·exact h.good.otr bl (.inr ⟨g,n,u,ca,gf,a3⟩) k j lR
     ·have:=(y9 g n u bl ck ca gf a3).1;have:=Tr k j lR;omega
    ·rcases lR with lR|lR
     ·exact j8 (HZ g n u bl ck ca a3) lR
     ·exact aX.otr bl (.inr ⟨g,n,u,ck,ca,a3⟩) k j lR
  ·have bs:k<w.heap.size:=Nat.lt_of_lt_of_le ad h.fr.size;rw[Lv k bs fun e8=>by
    rcases(qd k e8).1 with J|J
    ·exact hm J
    ·omega]
   exact h.fr.block k ad hm
  ·obtain⟨aU,bp⟩:=h.fr.keep b o r1;obtain⟨b1,fT⟩:=aR.keep b o aU;exact⟨b1,fT.trans bp⟩
  ·rcases aR.fresh b o r1 with a8|a8|a8
   ·exact h.fr.fresh b o a8
   ·exact .inr (qd b a8).1
   ·exact .inr (.inr (kn h.fr.size a8))
  ·rcases J with J|J<;>rcases U with U|U
   ·exact h.fr.trd k j bI dD b J U
   ·have bB:=(h.fr.trb k j b J).2;have a2:=(aR.trb bI dD b U).1;rcases a2 with a2|a2
    ·obtain⟨m,_,hm⟩:=(ae bI).2.2 dD b U;rw[hm]at a2;cases a2
    ·simp only at a2;omega
   ·have bB:=(h.fr.trb bI dD b U).2;have a2:=(aR.trb k j b J).1;rcases a2 with a2|a2
    ·obtain⟨m,_,hm⟩:=(ae k).2.2 j b J;rw[hm]at a2;cases a2
    ·simp only at a2;omega
   ·exact aR.trd k j bI dD b J U
  ·rcases ab with ab|ab
   ·exact⟨(h.fr.trb k j b ab).1,Nat.lt_of_lt_of_le (h.fr.trb k j b ab).2 aR.size⟩
   ·refine⟨.inr ?_,(aR.trb k j b ab).2⟩;rcases(aR.trb k j b ab).1 with a2|a2
    ·obtain⟨m,_,hm⟩:=(ae k).2.2 j b ab;rw[hm]at a2;cases a2
    ·exact kn h.fr.size a2
  ·have key:Z.bx k=none/\Z.ow k=none/\¬(look k ah.b).isSome/\¬(look k ah.e).isSome:=by
    rcases ab with ab|ab
    ·obtain⟨t1,t2⟩:=h.fr.trn k j b ab;refine⟨t1,t2,fun cu=>?_,fun cu=>?_⟩
     ·cases k with
      |loc m=>rw[tE.1 m]at cu;cases cu
      |obj m=>
       rcases KQ m cu with b8|b8
       ·obtain⟨cs,di⟩:=fE.1 (jE _ b8);obtain⟨iC,us,el,g1,_⟩:=h.good.box _ cs di;rw[t1]at g1;cases g1
       ·exact(h.new (.obj m) ⟨trivial,b8⟩).2.2 j b ab
     ·cases k with
      |loc m=>rw[tE.2 m]at cu;cases cu
      |obj m=>
       rcases cK m cu with b8|b8
       ·obtain⟨cs,di⟩:=fE.1 (lP _ b8);obtain⟨iC,us,g1,_⟩:=h.good.own _ cs di;rw[t2]at g1;cases g1
       ·exact(h.new (.obj m) ⟨trivial,b8⟩).2.2 j b ab
    ·obtain⟨m,hm,rfl⟩:=(ae k).2.2 j b ab;obtain⟨t1,t2,_⟩:=af8 m hm;exact⟨t1,t2,by simp[tE.1 m],by simp[tE.2 m]⟩
   obtain⟨t1,t2,t3,t4⟩:=key;have t5:¬(look k s.b).isSome:=fun cu=>by obtain⟨cs,di⟩:=fE.1 (jE _ cu);obtain⟨iC,us,el,g1,_⟩:=h.good.box _ cs di;rw[t1]at g1;cases g1
   have t6:¬(look k s.e).isSome:=fun cu=>by obtain⟨cs,di⟩:=fE.1 (lP _ cu);obtain⟨iC,us,g1,_⟩:=h.good.own _ cs di;rw[t2]at g1;cases g1
   exact⟨by simp[bc.join,t3,t5,t1],by simp[bc.join,t4,t6,t2]⟩
  ·
   simp only at ad;obtain⟨ad,afa⟩:=cF k ad;have Tw:(∀j b,¬Z.tr k j b)->∀j b,¬(Z.join bn s ah).tr k j b:=fun J j b ab=>by
    rcases ab with ab|ab
    ·exact J j b ab
    ·obtain⟨m,hm,e⟩:=(ae k).2.2 j b ab;exact afa m hm e
   cases k with
   |loc m=>obtain⟨iw,gp,jr⟩:=h.new (.loc m) (J7 (eX _) (fun _ h=>List.mem_append_left _ h) ad);exact⟨by simp[bc.join,u5.1 m,tE.1 m,iw],by simp[bc.join,u5.2 m,tE.2 m,gp],Tw jr⟩
   |obj m=>
    simp only[fresh,ih,not_or,true_and]at ad;obtain⟨iw,gp,jr⟩:=h.new (.obj m) ⟨trivial,ad.1⟩;have a6:¬(look (.obj m) ah.b).isSome:=fun cu=>ad.2 (tY (.inl cu));have bD:¬(look (.obj m) ah.e).isSome:=fun cu=>ad.2 (tY (.inr cu));have bY:¬(look (.obj m) s.b).isSome:=fun cu=>by obtain⟨cs,di⟩:=fE.1 (jE _ cu);obtain⟨iC,us,el,g1,_⟩:=h.good.box _ cs di;rw[iw]at g1;cases g1
    have c5:¬(look (.obj m) s.e).isSome:=fun cu=>by obtain⟨cs,di⟩:=fE.1 (lP _ cu);obtain⟨v',us,g1,_⟩:=h.good.own _ cs di;rw[gp]at g1;cases g1
    exact⟨by simp[bc.join,a6,bY,iw],by simp[bc.join,bD,c5,gp],Tw jr⟩
 exact qj.put aN (y6 h1 aJ)
inductive ee where
 |s (i:eh)
 |call (d:Option Nat) (f:dt) (xs:List dt)
 |next (d:Nat) (x:dt)
structure c9 where
 g:Option (Nat×Bool)
 i:ee
def eh.dst:eh->Option Nat
 | .v d _| .box d _ _| .alloc d _ _| .bsl d _ _ _| .app d _ _ _ _| .bslm d _ _ _ _| .appm d _ _ _ _ _| .mkmap d _| .range d _ _| .mks d _ _ _ _ _=>some d
 | .store _ _ _| .mput _ _ _ _| .storeE _ _ _=>none
def ee.dst:ee->Option Nat
 | .s i=>i.dst
 | .call d _ _=>d
 | .next d _=>some d
def cW(P:cL)(n:Nat)(args:List ai)(st:bm)(d:Option Nat)(K:bm->Prop):Prop:=
 (∃s Q,gz (inObs s) s.b st.b/\nS (inObs s) s.e st.e/\jc s/\aP (inObs s) args/\bH P n args s Q/\
  ∀r ah,Q r ah->((∀m,(look (.obj m) ah.b).isSome->(look (.obj m) s.b).isSome\/ .obj m∉st.o)/\(∀m,(look (.obj m) ah.e).isSome->(look (.obj m) s.e).isSome\/ .obj m∉st.o))/\K (after st s ah d r))\/
 (∃s Q,gz (inObs s) s.b st.b/\nS (inObs s) s.e st.e/\jc s/\aP (inObs s) args/\ .loc st.n∉st.o/\Iy P n st.n args s Q/\
  ∀r ah,Q r ah->((∀m,(look (.obj m) ah.b).isSome->(look (.obj m) s.b).isSome\/ .obj m∉st.o)/\(∀m,(look (.obj m) ah.e).isSome->(look (.obj m) s.e).isSome\/ .obj m∉st.o))/\K {after st s ah d r with n:=st.n+1})
def Mb(st:bm)(d:Nat)(fp mk:aL)(since:Nat)(seen:List Nat)(last clock:Nat)(borns:List Nat)(kvs:List ai)(K:bm->Prop):Prop:=
 (since=clock/\last=clock)/\((∀b∈borns,b∈seen)->K {st with t:=put d (.tuple [.bool false]) st.t})/\
 (∀b k v,na b borns kvs=some (.tuple [k,v])->b∉seen->K {st with t:=put d (.tuple [.bool true,k,v]) st.t,b:=cA fp [.hdi since (seen++[b]) last,.gmap mk] st.b})
def tl(st:bm)(d:Nat)(v:ai)(K:bm->Prop):Prop:=
 match v with
 | .ptr fp 0=>match look fp st.b with
  |some [.hdi since seen last,.gmap mk]=>match look mk st.b with
   |some (.hdm clock borns::kvs)=>Mb st d fp mk since seen last clock borns kvs K
   |_=>eW
  |_=>eW
 |_=>eW
def uJ(P:cL)(st:bm)(K:bm->Prop):ee->Prop
 | .next d x=>tl st d (ct st.t x) K
 | .s i=>match mv st i with
  |some (c,st')=>c/\K st'
  |none=>eW
 | .call d f xs=>match ct st.t f with
  | .func n dn=>cW P n (dv (xs.map (ct st.t)++dn)) st d K
  |_=>eW
def h8(P:cL):List c9->bm->(bm->Prop)->Prop
 |[],st,K=>K st
 |⟨none,i⟩::r,st,K=>uJ P st (fun st'=>h8 P r st' K) i
 |⟨some (s,want),i⟩::r,st,K=>match get s st.t with
  | .bool b=>(b=want->uJ P {st with t:=put s (.bool want) st.t} (fun st'=>h8 P r st' K) i)/\(b= !want->h8 P r {st with t:=eR i.dst (.tuple []) (put s (.bool !want) st.t)} K)
  | .tuple []=>h8 P r {st with t:=eR i.dst (.tuple []) st.t} K
  |_=>eW
def vv(N:Nat)(bC:List (Nat×dz))(i:ee)(o:Oper):Bool:=
 match i with
 | .s i=>Ee N bC i o
 | .next d x=>match o.op with
  | .next it false=>o.dst==some d&&decide (d<N)&&ef x it
  |_=>false
 | .call d f xs=>match o.op with
  | .call ⟨.value rS,args,_⟩=>o.dst==d&&jz N d&&ef f rS&&yV xs args.toList
  |_=>false
def Cx(N:Nat)(bC:List (Nat×dz))(ops:List Oper)(g:c9)(o:Oper):Bool:=
 (match g.g,o.guard with
  |none,none=>true
  |some (s,b),some (j,b0)=>b==b0&&((ops[j]?).bind (·.dst))==some s&&decide (s<N)&&o.dst==g.i.dst&&jz N g.i.dst
  |_,_=>false)&&vv N bC g.i o
def kF(N:Nat)(bC:List (Nat×dz))(ops:List Oper):List c9->List Oper->Bool
 |[],[]=>true
 |g::gs,o::os=>Cx N bC ops g o&&kF N bC ops gs os
 |_,_=>false
theorem Xf{w:World}{Z:bc}:∀{cH bN:List ai} {ba us:List Value},cX w Z cH ba->cX w Z bN us->cX w Z (cH++bN) (ba++us)
 |[],bN,ba,us,h,b4=>by simp only[cX]at h;subst h;simpa using b4
 |p::cH,bN,ba,us,h,b4=>by simp only[cX]at h;obtain⟨u,cm,rfl,J,U⟩:=h;simp only[bO,cX];exact⟨u,_,rfl,J,Xf U b4⟩
theorem xF.mono{P:cL}{f:FuncId}{ba:Array Value}{w:World}{R OE:Ending->World->Prop}(h:xF P f ba w R)(bG:∀e w',R e w'->OE e w'):xF P f ba w OE:=by
 rcases h with⟨J,U⟩|⟨v,w',J,U⟩
 ·exact .inl ⟨J,U.mono bG⟩
 ·exact .inr ⟨v,w',J,bG _ _ U⟩
theorem Rg{P:cL}{C:fj}{st:bm}{a:Act}{w:World}{Z:bc}(aJ:cZ C st a w Z){o:Oper}{rS:Operand}{args:Array Operand}{BD:Array gP}(nE:o.op= .call ⟨.value rS,args,BD⟩){d:Option Nat}(aN:o.dst=d)(yd:jz C.N d=true)
  {n:Nat} {dn:List ai} (aR:bd w Z (.func n dn) (a.eval rS)) {cH:List ai} (uS:cX w Z cH (args.toList.map a.eval)) {K:bm->Prop}
  (aq:∃(s:cS) (qK:ai->cS->Prop) (κ:Option Nat) (n':Nat) (o':cS->List aL),gz (inObs s) s.b st.b/\nS (inObs s) s.e st.e/\jc s/\aP (inObs s) (dv (cH++dn))/\(∀(w:World) (Z:bc) (ba:Array Value),Good (fx Z s) w Z s.b s.e->pF Z s->cX w Z (dv (cH++dn)) ba.toList->
   xF P n ba w fun e w'=> ∃v r ah bn,e= .returned v/\qK r ah/\bd w' bn r v/\Good (fun bl=>fx Z s bl\/w.heap.size<=bl) w' bn ah.b ah.e/\FD κ bn ah/\jc ah/\qI ⟨w,Z,fx Z s,0,c2 s⟩ w' bn)/\
   (∀m,κ=some m->fresh st.n st.o (.loc m))/\(∀k r ah,qK r ah->fresh n' (o' ah) k->fresh st.n (st.o++c2 ah) k/\∀m,κ=some m->k≠ .loc m)/\
   ∀r ah,qK r ah->((∀m,(look (.obj m) ah.b).isSome->(look (.obj m) s.b).isSome\/ .obj m∉st.o)/\(∀m,(look (.obj m) ah.e).isSome->(look (.obj m) s.e).isSome\/ .obj m∉st.o))/\K {after st s ah d r with n:=n',o:=o' ah})
  {rG:Act->World->Prop} {Q:Exit->Act->World->Prop} (c4:∀st' bj w' bn,K st'->cZ C st' bj w' bn->rG bj w'):o.wp P a w rG Q:=by
 obtain⟨s,qK,κ,n',o',bT,cx,dy,kp,k1,Rs,Rm,n4⟩:=aq;simp only[bd]at aR;obtain⟨us,aC,hu⟩:=aR;have mR:cX w (Z.cut (inObs s)) (dv (cH++dn)) ((args.map a.eval)++us).toList:=by refine y5 (pq.cut _ w Z) _ _ kp (HS _ _ ?_);simpa using Xf uS hu
 have r8:Good (fx (Z.cut (inObs s)) s) w (Z.cut (inObs s)) s.b s.e:=aJ.good.cut bT cx (fun bl _ h=>h);have hex:pF (Z.cut (inObs s)) s:=by
  intro k;refine⟨?_,?_,?_⟩;rotate_left 2
  ·rintro j b ⟨ag,ab⟩;obtain⟨t1,t2⟩:=aJ.fr.trn k j b ab;rcases ag with ag|ag<;>obtain⟨x,ae⟩:=fE.1 ag
   ·obtain⟨bl,cm,el,ao,_⟩:=aJ.good.box k x (bT k x ae).1;rw[t1]at ao;cases ao
   ·obtain⟨v',cm,ao,_⟩:=aJ.good.own k x (cx k x ae).1;rw[t2]at ao;cases ao
  ·intro av;by_cases ag:inObs s k
   ·rw[bc.cut_bx ag];rcases ag with ag|ag
    ·rw[av]at ag;cases ag
    ·obtain⟨x,ae⟩:=fE.1 ag;obtain⟨v',cm,ao,_⟩:=aJ.good.own k x (cx k x ae).1;rcases aJ.good.one k with J|J
     ·exact J
     ·rw[J]at ao;cases ao
   ·exact(bc.cut_no ag).1
  ·intro av;by_cases ag:inObs s k
   ·rw[bc.cut_ow ag];rcases ag with ag|ag
    ·obtain⟨x,ae⟩:=fE.1 ag;obtain⟨bl,cm,el,ao,_⟩:=aJ.good.box k x (bT k x ae).1;rcases aJ.good.one k with J|J
     ·rw[J]at ao;cases ao
     ·exact J
    ·rw[av]at ag;cases ag
   ·exact(bc.cut_no ag).2.1
 rcases k1 w (Z.cut (inObs s)) ((args.map a.eval)++us) r8 hex mR with⟨⟨fn,g1,g2,g3⟩,k1⟩|⟨v,w',k1,bK⟩
 ·obtain⟨code,aeG⟩:=fE.1 g2;have iW:(execOp a.eval o).run P w= .ok (.enter n ((args.map a.eval)++us)) w:=by obtain⟨dst,op,ty,pos,OJ,wg⟩:=o;simp only at nE;subst nE;simp only[execOp,resolve,aC,Deferred.ofValue,fL,gB,fR,invoke,callFunc,run_program,g1,g3,aeG];simp
  unfold Oper.wp;rw[iW];simp only[Oper.upon];refine k1.mono fun e w' bK=>?_;obtain⟨v,r,ah,bn,rfl,bF,a6,bD,bY,c5,dc⟩:=bK;obtain⟨⟨iw,gp⟩,ad⟩:=n4 r ah bF;rw[aN];exact c4 _ _ _ _ ad (aJ.callK bT cx dy bD bY (fun m hm=>aJ.new _ (Rs m hm)) (n':=n') (o':=o' ah) (fun k ad=>Rm k r ah bF ad) c5 dc iw gp d yd a6)
 ·have iW:(execOp a.eval o).run P w= .ok (.value v) w':=by obtain⟨dst,op,ty,pos,OJ,wg⟩:=o;simp only at nE;subst nE;simp only[execOp,resolve,aC,Deferred.ofValue,fL,gB,fR,invoke];simpa using k1
  obtain⟨v2,r,ah,bn,Dd,bF,a6,bD,bY,c5,dc⟩:=bK;cases Dd;obtain⟨⟨iw,gp⟩,ad⟩:=n4 r ah bF;refine mz iW ?_;rw[aN];exact c4 _ _ _ _ ad (aJ.callK bT cx dy bD bY (fun m hm=>aJ.new _ (Rs m hm)) (n':=n') (o':=o' ah) (fun k ad=>Rm k r ah bF ad) c5 dc iw gp d yd a6)
theorem Rf{P:cL}{C:fj}{st:bm}{a:Act}{w:World}{Z:bc}(aJ:cZ C st a w Z){o:Oper}{rS:Operand}{args:Array Operand}{BD:Array gP}(nE:o.op= .call ⟨.value rS,args,BD⟩){d:Option Nat}(aN:o.dst=d)(yd:jz C.N d=true)
  {n:Nat} {dn:List ai} (aR:bd w Z (.func n dn) (a.eval rS)) {cH:List ai} (uS:cX w Z cH (args.toList.map a.eval)) {K:bm->Prop} (aq:cW P n (dv (cH++dn)) st d K)
  {rG:Act->World->Prop} {Q:Exit->Act->World->Prop} (c4:∀st' bj w' bn,K st'->cZ C st' bj w' bn->rG bj w'):o.wp P a w rG Q:=by
 refine Rg aJ nE aN yd aR uS (K:=K) ?_ c4;rcases aq with⟨s,qK,bT,cx,dy,kp,k1,n4⟩|⟨s,qK,bT,cx,dy,kp,kC,k1,n4⟩
 ·refine⟨s,qK,none,st.n,fun ah=>st.o++c2 ah,bT,cx,dy,kp,fun w Z ba J U ar=>(k1 w Z ba J U ar).mono fun e w' bK=>?_,fun m hm=>(by cases hm),fun k _ ah _ ad=>⟨ad,fun m hm=>by cases hm⟩,n4⟩;obtain⟨v,r,ah,bn,g1,g2,g3,g4,g5,g6⟩:=bK;exact⟨v,r,ah,bn,g1,g2,g3,g4,g5.k,g6⟩
 ·refine⟨s,qK,some st.n,st.n+1,fun ah=>st.o++c2 ah,bT,cx,dy,kp,k1,fun m hm=>(by cases hm;exact⟨eX _,kC⟩),fun k _ ah _ ad=>⟨J7 (Nat.le_succ _) (fun _ h=>h) ad,fun m hm=>?_⟩,n4⟩;cases hm;rintro rfl;have:=ad.1;simp only at this;omega
theorem cZ.drawn{C:fj}{st:bm}{a:Act}{w:World}{Z:bc}(aJ:cZ C st a w Z)(n:Nat):cZ C st a {w with drawn:=n} Z:=by
 have k5:lF w Z {w with drawn:=n} Z:=⟨fun _ _ h=>⟨h,rfl⟩,fun _ _ _ h=>h,fun _ n u _ h=>⟨n,u,h,.inl ⟨rfl,rfl⟩⟩,fun _ _ _=>rfl,fun _ _ _ _ h=>h⟩;refine aJ.over k5 rfl ⟨aJ.good.alt,fun k cs ad=>?_,aJ.good.inj,fun g o aX=>?_,aJ.good.oinj,aJ.good.obx,aJ.good.one,aJ.good.otr⟩ ⟨aJ.fr.os,aJ.fr.tape,aJ.fr.output,aJ.fr.size,aJ.fr.block,aJ.fr.keep,aJ.fr.fresh,aJ.fr.obj,aJ.fr.obn,aJ.fr.row,aJ.fr.obr,aJ.fr.trd,aJ.fr.trb,aJ.fr.trn,aJ.fr.sh⟩ aJ.new
 ·obtain⟨bl,us,el,J,U,ar,a8,b8⟩:=aJ.good.box k cs ad;exact⟨bl,us,el,J,U,ar,a8,qz k5 b8⟩
 ·obtain⟨v,us,J,U,ar,a8⟩:=aJ.good.own g o aX;exact⟨v,us,J,U,ar,sG k5 (fun _ _ _ h=>h) a8⟩
theorem ada{α:Type}{l:List α}{p:α->Bool}(h:∀x∈l,p x=false):l.filter p=[]:=by rw[List.filter_eq_nil_iff];intro x ae;simp[h x ae]
theorem ac9{α:Type}{l:List α}{p:α->Bool}(h:∀x∈l,p x=true):l.filter p=l:=List.filter_eq_self.2 h
def G7(r m since clock:Nat)(seen:Array Nat)(Rh:Array (Option MapEntry)):Sem Value:=do
 match Rh[<-choose (.mapNext Rh.size)]? with
 |some (some e)=>
  setObj r (.mapIter (some m) since (seen.push e.born) clock)
  pure (.tuple #[.bool true,e.key,e.val])
 |some none=>pure (.tuple #[.bool false])
 |none=>stuck "Next: no such candidate"
theorem Xq{P:cL}{w:World}(r m since clock:Nat)(seen:Array Nat)(l:List (Option MapEntry))(av:l≠[]):∃n x,x∈l/\(G7 r m since clock seen l.toArray).run P w=
  (match x with|some e=>(do setObj r (.mapIter (some m) since (seen.push e.born) clock);pure (.tuple #[.bool true,e.key,e.val]):Sem Value)|none=>pure (.tuple #[.bool false])).run P {w with drawn:=n}:=by
 have fA:0<l.length:=List.length_pos_iff.2 av;unfold G7;have key:∀i,i<l.length->∀w',((do match(l.toArray[i]?:Option (Option MapEntry))with
   |some (some e)=>setObj r (.mapIter (some m) since (seen.push e.born) clock);pure (.tuple #[.bool true,e.key,e.val])
   |some none=>pure (.tuple #[.bool false])
   |none=>stuck "Next: no such candidate" :Sem Value)).run P w'=((match l[i]! with|some e=>(do setObj r (.mapIter (some m) since (seen.push e.born) clock);pure (.tuple #[.bool true,e.key,e.val]):Sem Value)|none=>pure (.tuple #[.bool false]))).run P w':=by
  intro i hi w';have J:l.toArray[i]? =some l[i]!:=by simp[hi]
  rw[J];cases l[i]!<;>rfl
 by_cases aR:(Question.mapNext l.length).forced=true
 ·refine⟨w.drawn,l[0]!,by simp[fA],?_⟩;rw[<-key 0 fA];have aq:(choose (.mapNext l.length):Sem Nat).run P w= .ok 0 w:=by simp[aR]
  simp only[List.size_toArray,fL,aq,fR]
 ·refine⟨w.drawn+1,l[(w.tape w.drawn (.mapNext l.length))%l.length]!,by simp[Nat.mod_lt _ fA],?_⟩;rw[<-key _ (Nat.mod_lt _ fA)];have aq:(choose (.mapNext l.length):Sem Nat).run P w= .ok ((w.tape w.drawn (.mapNext l.length))%l.length) {w with drawn:=w.drawn+1}:=by simp[aR,Question.cut]
  simp only[List.size_toArray,fL,aq,fR]
theorem alc{P:cL}{w:World}{bl mb:Nat}{seen:List Nat}{es:List MapEntry}{clock:Nat}{ty:gP}(J:w.heap[bl]? =some (.mapIter (some mb) clock seen.toArray clock))(U:w.heap[mb]? =some (.map es.toArray clock))(bs:∀e∈es,e.born<clock):
  ∃n,((∀e∈es,e.born∈seen)/\(Instr.next (.pointer (some ⟨bl,0,none⟩)) false ty).run P w= .ok (.tuple #[.bool false]) {w with drawn:=n})\/
   ∃e∈es,e.born∉seen/\(Instr.next (.pointer (some ⟨bl,0,none⟩)) false ty).run P w= .ok (.tuple #[.bool true,e.key,e.val]) {w with drawn:=n,heap:=w.heap.setIfInBounds bl (.mapIter (some mb) clock (seen++[e.born]).toArray clock)}:=by
 have e1:(!seen.toArray.isEmpty&& !es.toArray.isEmpty&&es.toArray.all (fun e=>decide (e.born≥clock)))=false:=by
  cases es with
  |nil=>simp
  |cons e r=>have:=bs e Ψ;simp;intro _ h;omega
 generalize h0:(es.filter fun e=> !seen.contains e.born)=left;have afh:(es.toArray.filter fun e=> !seen.toArray.contains e.born)=left.toArray:=by rw[<-h0];simp
 have hB:∀e∈left,e∈es/\e.born∉seen:=fun e he=>by rw[<-h0]at he;have:=lC.1 he;exact⟨this.1,by simpa using this.2⟩
 have hold:(left.toArray.filter fun e=>decide (e.born<clock))=left.toArray:=by rw[List.filter_toArray,ac9];intro e he;have:=bs e (hB e he).1;simp[this]
 have j8:(left.toArray.filter fun e=>decide (e.born≥clock))= #[]:=by rw[List.filter_toArray,ada];intro e he;have:=bs e (hB e he).1;simp;omega
 have iW:(Instr.next (.pointer (some ⟨bl,0,none⟩)) false ty).run P w=(G7 bl mb clock clock seen.toArray ((if left.toArray.isEmpty then #[none]else #[])++(left.toArray++ #[]).map some)).run P w:=by unfold Instr.next G7;simp only[fL,vF J,vF U,fR,e1,afh,hold,j8,gO,if_false];rfl
 rw[iW];by_cases Al:left=[]
 ·subst Al;obtain⟨n,x,g1,g2⟩:=Xq (P:=P) (w:=w) bl mb clock clock seen.toArray [none] Ψ;refine⟨n,.inl ⟨fun e he=>?_,?_⟩⟩
  ·have:=List.filter_eq_nil_iff.1 h0 e he;simpa using this
  ·simp only[oF]at g1;subst g1;have aq:((if(([]:List MapEntry).toArray).isEmpty then #[none]else #[])++(([]:List MapEntry).toArray++ #[]).map some)=[none].toArray:=by simp
   rw[aq,g2];rfl
 ·have aq:((if left.toArray.isEmpty then #[none]else #[])++(left.toArray++ #[]).map some)=(left.map some).toArray:=by simp[Al]
  obtain⟨n,x,g1,g2⟩:=Xq (P:=P) (w:=w) bl mb clock clock seen.toArray (left.map some) (by simpa using Al);simp only[iy]at g1;obtain⟨e,he,rfl⟩:=g1;refine⟨n,.inr ⟨e,(hB e he).1,(hB e he).2,?_⟩⟩;rw[aq,g2];simp only[fL];rw[Ed (w:={w with drawn:=n}) (o:= .mapIter (some mb) clock seen.toArray clock) J];simp
theorem JL:∀{borns:List Nat} {us:List Value} {e:MapEntry},e∈fy borns us->e.born∈borns
 |[],us,e,h=>by simp[fy]at h
 |b::eT,[],e,h=>by simp[fy]at h
 |b::eT,[_],e,h=>by simp[fy]at h
 |b::eT,k::v::us,e,h=>by
  simp only[fy,fD]at h;rcases h with rfl|h
  ·simp
  ·exact oE _ (JL h)
theorem RF:∀{borns:List Nat} {kvs:List ai} {us:List Value},kvs.length=2*borns.length->us.length=kvs.length->∀{b:Nat},b∈borns->∃e∈fy borns us,e.born=b
 |[],_,_,_,_,b,ab=>by simp at ab
 |b0::eT,kvs,[],J,U,b,ab=>by rw[J]at U;simp at U
 |b0::eT,kvs,[_],J,U,b,ab=>by rw[J]at U;simp at U;omega
 |b0::eT,kvs,k::v::us,J,U,b,ab=>by
  rcases fD.1 ab with rfl|ab
  ·exact⟨⟨k,v,b⟩,by simp[fy],rfl⟩
  ·obtain⟨e,g1,g2⟩:=RF (kvs:=kvs.drop 2) (us:=us) (borns:=eT) (by simp at J⊢;omega) (by simp at J U⊢;omega) ab;exact⟨e,by simp[fy,g1],g2⟩
theorem UZ{w:World}{Z:bc}:∀{borns:List Nat} {kvs:List ai} {us:List Value},kvs.length=2*borns.length->borns.Pairwise (· < ·)->cX w Z kvs us->∀{e:MapEntry},e∈fy borns us->∃k v,na e.born borns kvs=some (.tuple [k,v])/\bd w Z k e.key/\bd w Z v e.val
 |[],_,_,_,_,_,e,h=>by simp[fy]at h
 |b::eT,[],us,J,_,_,e,_=>by simp at J
 |b::eT,[_],us,J,_,_,e,_=>by simp at J;omega
 |b::eT,k::v::kvs,us,J,U,ar,e,h=>by
  simp only[cX]at ar;obtain⟨jf,NS,rfl,eU,jJ,sS,rfl,fP,pU⟩:=ar;simp only[fy,fD]at h;rw[mC]at U;rcases h with rfl|h
  ·exact⟨k,v,by simp[na],eU,fP⟩
  ·obtain⟨bI,v',g1,g2,g3⟩:=UZ (by simp at J;omega) U.2 pU h;have cK:b≠e.born:=Nat.ne_of_lt (U.1 _ (JL h));exact⟨bI,v',by simp[na,cK,g1],g2,g3⟩
theorem ahL{P:cL}{C:fj}{st:bm}{a:Act}{w:World}{Z:bc}(aJ:cZ C st a w Z){o:Oper}{it:Operand}(nE:o.op= .next it false){d:Nat}(aN:o.dst=some d)(yd:jz C.N (some d)=true){v:ai}(aC:bd w Z v (a.eval it)){K:bm->Prop}(he:tl st d v K)
  {rG:Act->World->Prop} {Q:Exit->Act->World->Prop} (c4:∀st' bj w' bn,K st'->cZ C st' bj w' bn->rG bj w'):o.wp P a w rG Q:=by
 unfold tl at he;split at he
 ·rename_i fp;split at he
  ·rename_i since seen last mk wq;split at he
   ·rename_i clock borns kvs yn;obtain⟨⟨rfl,rfl⟩,wm,oS⟩:=he;simp only[bd]at aC;obtain⟨bl,ck,ca⟩:=aC;obtain⟨iC,us,el,a6,bD,bY,c5,dc⟩:=aJ.good.box fp _ wq;rw[ck]at a6;cases a6;obtain⟨mb,ms,aqC,m1,m2,m3,m4,m5⟩:=aJ.good.box mk _ yn;simp only[jt,cX]at dc;obtain⟨u,cm,hu,⟨aqB,eU,rfl⟩,rfl⟩:=dc;rw[m1]at eU;cases eU;simp only[j0,hu]at c5;simp only[j0]at m4;simp only[jt]at m5;obtain⟨n,mg⟩:=alc (P:=P) (ty:=o.type) c5 m4 (fun e he=>m5.2.lt _ (JL he));have mN:∀v' w',(Instr.next (.pointer (some ⟨bl,0,none⟩)) false o.type).run P w= .ok v' w'->(execOp a.eval o).run P w= .ok (.value v') w':=by intro v' w' iW;obtain⟨dst,op,ty,pos,OJ,wg⟩:=o;simp only at nE iW;subst nE;simp only[execOp,ca];exact EB iW
    rcases mg with⟨J,U⟩|⟨e,J,U,ar⟩
    ·refine mz (mN _ _ U) ?_;rw[aN];refine c4 _ _ _ _ (wm fun b ab=>?_) ((aJ.drawn n).put yd (p:= .tuple [.bool false]) (by simp[bd,cX]));obtain⟨e,f1,f2⟩:=RF m5.2.len (HQ m5.1) ab;rw[<-f2];exact J e f1
    ·obtain⟨k,v,f1,f2,f3⟩:=UZ m5.2.len m5.2.inc m5.1 J;refine mz (mN _ _ ar) ?_;rw[aN];have wE:=((aJ.drawn n).setBox (w':={w with drawn:=n,heap:=w.heap.setIfInBounds bl (.mapIter (some mb) last (seen++[e.born]).toArray last)}) wq ck (cs':=[.hdi last (seen++[e.born]) last,.gmap mk]) (us:=us) (el:=el) rfl rfl rfl
      (fun j af=>Array.getElem?_setIfInBounds_ne (ld af)) Ψ (by simp[j0,hu,(Array.getElem?_eq_some_iff.1 c5).1]) (by simp only[jt,cX];exact⟨_,_,hu,by simp only[bd];exact⟨mb,m1,rfl⟩,rfl⟩))
     refine c4 _ _ _ _ (oS e.born k v f1 U) (wE.1.put yd (p:= .tuple [.bool true,k,v]) ?_);simp only[bd];refine⟨_,rfl,?_⟩;simp only[cX];have k5:lF w Z {w with drawn:=n} Z:=⟨fun _ _ h=>⟨h,rfl⟩,fun _ _ _ h=>h,fun _ n u _ h=>⟨n,u,h,.inl ⟨rfl,rfl⟩⟩,fun _ _ _=>rfl,fun _ _ _ _ h=>h⟩;exact⟨_,_,rfl,by simp[bd],_,_,rfl,y6 wE.2 (y6 k5 f2),_,_,rfl,y6 wE.2 (y6 k5 f3),rfl⟩
   ·exact he.elim
  ·exact he.elim
 ·exact he.elim
theorem RJ{P:cL}{bC:List (Nat×dz)}(aM:fI P bC=true){C:fj}{st:bm}{a:Act}{w:World}{Z:bc}(aJ:cZ C st a w Z){i:ee}{o:Oper}(ax:vv C.N bC i o=true){K:bm->Prop}(he:uJ P st K i)
  {rG:Act->World->Prop} {Q:Exit->Act->World->Prop} (c4:∀st' bj w' bn,K st'->cZ C st' bj w' bn->rG bj w'):o.wp P a w rG Q:=by
 cases i with
 |s i=>
  simp only[uJ]at he;split at he
  ·rename_i c st' ag;exact alf aM aJ (by simpa only[vv]using ax) ag he.1 fun bj w' bn h=>c4 _ _ _ _ he.2 h
  ·exact he.elim
 |next d x=>
  simp only[uJ]at he;simp only[vv]at ax;split at ax
  ·rename_i it nE;simp only[cE,dL,e6]at ax;obtain⟨⟨J,U⟩,ar⟩:=ax;exact ahL aJ nE J (by simpa[jz]using U) (eg aJ ar) he c4
  ·cases ax
 |call d f xs=>
  simp only[uJ]at he;simp only[vv]at ax;split at ax
  ·rename_i rS args BD nE;simp only[cE,dL]at ax;obtain⟨⟨⟨J,U⟩,ar⟩,a8⟩:=ax;split at he
   ·rename_i n dn aR;have:=eg aJ ar;rw[aR]at this;exact Rf aJ nE J U this (D9 aJ a8) he c4
   ·exact he.elim
  ·cases ax
theorem M5{C:fj}{st:bm}{a:Act}{w:World}{Z:bc}(h:cZ C st a w Z){s:Nat}{b:Bool}(ag:get s st.t= .bool b):cZ C {st with t:=put s (.bool b) st.t} a w Z:=by
 refine⟨h.good,h.fr,h.defers,h.size,fun i=>?_,h.new⟩;have:=h.slot i;simp only[pH];split
 ·rename_i e;subst e;rw[<-ag];exact this
 ·exact this
theorem YK{C:fj}{st:bm}{a:Act}{w:World}{Z:bc}(h:cZ C st a w Z){ops:Array Oper}{j s:Nat}(af:(ops.toList[j]?).bind (·.dst)=some s)(ag:s<C.N):
  (∀b,get s st.t= .bool b->yielded ops a.tmps j=some b)/\(get s st.t= .tuple []->yielded ops a.tmps j=none):=by
 have bs:s<a.tmps.size:=by rw[h.size];exact ag
 have se:=h.slot s;have hR:a.tmps.getD s undef=a.tmps[s]:=by simp[Array.getD,bs]
 rw[hR]at se;have aH:yielded ops a.tmps j=match a.tmps[s]with| .bool b=>some b|_=>none:=by unfold yielded;rw[um]at af;rw[af];simp only[jK,Array.getElem?_eq_getElem bs];cases a.tmps[s]<;>rfl
 constructor
 ·intro b ab;rw[ab]at se;simp only[bd]at se;rw[aH,se]
 ·intro ab;rw[ab]at se;simp only[bd,cX]at se;obtain⟨us,ao,aF⟩:=se;rw[aH,ao]
theorem RN{P:cL}{bC:List (Nat×dz)}(aM:fI P bC=true){C:fj}{ops:Array Oper}{K:bm->Prop}{Q:Exit->Act->World->Prop}(ia:∀st' bj w' bn,K st'->cZ C st' bj w' bn->Q .normal bj w'):
  ∀(gs:List c9) (os:List Oper) (k:Nat),(∀j,os[j]? =ops[k+j]?)->kF C.N bC ops.toList gs os=true->∀(st:bm) (a:Act) (w:World) (Z:bc),h8 P gs st K->cZ C st a w Z->wpOps P ops Q (List.range' k gs.length) a w
 |[],[],k,_,_,st,a,w,Z,he,aJ=>by simp only[List.length_nil,List.range'_zero,wpOps];exact ia _ _ _ _ he aJ
 |[],_::_,_,_,ad,_,_,_,_,_,_=>by simp[kF]at ad
 |_::_,[],_,_,ad,_,_,_,_,_,_=>by simp[kF]at ad
 |g::gs,o::os,k,Aq,ad,st,a,w,Z,he,aJ=>by
  simp only[kF,cE]at ad;have bE:ops[k]? =some o:=by simpa using(Aq 0).symm
  have C7:∀j,os[j]? =ops[k+1+j]?:=fun j=>by have:=Aq (j+1);simpa[Nat.add_assoc,Nat.add_comm 1 j]using this
  simp only[l5,List.range'_succ,wpOps,bE];have bU:∀st' bj w' bn,h8 P gs st' K->cZ C st' bj w' bn->wpOps P ops Q (List.range' (k+1) gs.length) bj w':=fun st' bj w' bn J U=>RN aM ia gs os (k+1) C7 ad.2 st' bj w' bn J U;obtain⟨nx,SC⟩:=g;have aX:=ad.1;simp only[Cx,cE]at aX;obtain⟨qZ,qg⟩:=aX;cases nx with
  |none=>
   cases dY:o.guard with
   |some x=>simp[dY]at qZ
   |none=>
    have hw:pd o (yielded ops a.tmps)=true:=by simp[pd,dY]
    rw[if_pos hw];simp only[h8]at he;exact .inl (RJ aM aJ qg he bU)
  |some zh=>
   obtain⟨s,want⟩:=zh;cases dY:o.guard with
   |none=>simp[dY]at qZ
   |some x=>
    obtain⟨j,b0⟩:=x;simp only[dY,cE,dL,e6]at qZ;obtain⟨⟨⟨⟨rfl,U⟩,ar⟩,a8⟩,b8⟩:=qZ;obtain⟨kW,pc⟩:=YK aJ U ar;simp only[h8]at he;split at he
    ·rename_i b ab;have aH:=kW b ab;by_cases e:b=want
     ·subst e;have hw:pd o (yielded ops a.tmps)=true:=by simp[pd,dY,aH]
      rw[if_pos hw];exact .inl (RJ aM (M5 aJ ab) qg (he.1 rfl) bU)
     ·have hw:¬(pd o (yielded ops a.tmps)=true):=by simp[pd,dY,aH,e]
      rw[if_neg hw];have fZ:b= !want:=by cases b<;>cases want<;>simp at e⊢
      have mQ:cZ C {st with t:=put s (.bool !want) st.t} a w Z:=M5 aJ (by rw[ab,fZ]);rw[a8];exact bU _ _ _ _ (he.2 fZ) (mQ.put b8 (by simp[bd,cX,undef]))
    ·rename_i ab;have aH:=pc ab;have hw:¬(pd o (yielded ops a.tmps)=true):=by simp[pd,dY,aH]
     rw[if_neg hw,a8];exact bU _ _ _ _ he (aJ.put b8 (by simp[bd,cX,undef]))
    ·exact he.elim
structure dh where
 t:Nat->ai
 b:aL->Option (List ai)
 e:aL->Option fN
 F:aL->Prop
structure kY where
 d:Option Nat
 p:ai
 bw:List (aL×List ai)
 ew:List (aL×fN)
 rm:Option aL
def iD{α:Type}(l:List (aL×α))(f:aL->Option α):aL->Option α:=fun k=>match look k l with|some x=>some x|none=>f k
def dh.do(A:dh)(x:kY):dh:={t:=fun i=>if x.d=some i then x.p else A.t i,b:=iD x.bw A.b,e:=iD x.ew A.e,F:=fun k=>A.F k/\x.rm≠some k}
structure kY.apart (x y:kY):Prop where
 d:∀i,x.d=some i->y.d≠some i
 b:∀k,(look k x.bw).isSome->look k y.bw=none
 e:∀k,(look k x.ew).isSome->look k y.ew=none
theorem dh.do_comm(A:dh){x y:kY}(h:x.apart y):(A.do x).do y=(A.do y).do x:=by
 simp only[dh.do,dh.mk.injEq];refine⟨?_,?_,?_,?_⟩
 ·funext i;by_cases J:x.d=some i
  ·have:=h.d i J;simp[J,this]
  ·simp[J]
 ·funext k;simp only[iD];cases ae:look k x.bw with
  |none=>cases look k y.bw<;>rfl
  |some u=>rw[h.b k (by simp[ae])]
 ·funext k;simp only[iD];cases ae:look k x.ew with
  |none=>cases look k y.ew<;>rfl
  |some u=>rw[h.e k (by simp[ae])]
 ·funext k;exact propext ⟨fun h=>⟨⟨h.1.1,h.2⟩,h.1.2⟩,fun h=>⟨⟨h.1.1,h.2⟩,h.1.2⟩⟩
def dA(t:Nat->ai):dt->ai
 | .t i=>t i
 | .c p=>p
def sq(b:aL->Option (List ai))(e:aL->Option fN)(agg:Bool)(sz:Nat):ai->Option (Prop×ai)
 | .rptr dK k n i f=>y8 agg sz dK n i f (e k)
 | .ptr k off=>
  match b k with
  |some cs=>if agg then some (hV cs=true/\off+sz<=cs.length,.agg ((cs.drop off).take sz))else(cs[off]?).map fun p=>(hV cs=true,p)
  |none=>none
 | .eptr p=>if agg then some (isAgg sz p,p)else some (eO p=true/\cells p=[p],p)
 |_=>none
def xQ(t:Nat->ai):List ai->List (Nat×Nat×dt)->Option (Prop×List ai)
 |cs,[]=>some (True,cs)
 |cs,(off,sz,x)::r=>
  match xQ t (ov cs off (cells (dA t x))) r with
  |some (c,cs')=>some ((eO (dA t x)=true/\(cells (dA t x)).length=sz/\off+sz<=cs.length)/\c,cs')
  |none=>none
def pZ(t:Nat->ai)(b:aL->Option (List ai))(e:aL->Option fN):fV->Option (Prop×ai)
 | .mov x=>some (True,dA t x)
 | .pick c x y=>Hk (dA t c) (dA t x) (dA t y)
 | .load agg sz x=>sq b e agg sz (dA t x)
 | .faddr off agg sz x=>qW off agg sz (dA t x)
 | .fld off agg sz x=>uN off agg sz (dA t x)
 | .iaddr sz x i=>AF sz (dA t x) (dA t i)
 | .sidx x i=>H5 (dA t x) (dA t i)
 | .ssl x lo hi=>Ib (dA t x) (lo.map (dA t)) (hi.map (dA t))
 | .lsl sz x lo hi=>GU sz (dA t x) (lo.map (dA t)) (hi.map (dA t))
 | .bin op wr x y=>cr op wr (dA t x) (dA t y)
 | .notB x=>G9 (dA t x)
 | .neg x=>G5 (dA t x)
 | .conv k x=>Fu k (dA t x)
 | .ext i x=>zP i (dA t x)
 | .len x=>AQ (dA t x)
 | .slen x=>Em (dA t x)
 | .build zero parts=>(xQ t zero parts).map fun(c,cs)=>(c,.agg cs)
 | .nck x=>A2 (dA t x)
 | .min2 x y=>G3 (dA t x) (dA t y)
 | .mkf n xs=>some (True,.func n (xs.map (dA t)))
 | .mget cg zero ok x k=>nb b cg zero ok (dA t x) (dA t k)
 | .ment x=>pQ b (dA t x)
 | .mlen x=>A1 b (dA t x)
 | .beq neg dO x y=>iB neg dO (dA t x) (dA t y)
 | .max2 x y=>GY (dA t x) (dA t y)
 | .mkif n x=>some (True,.iface n (dA t x))
 | .loadB agg sz x=>sq b (fun _=>none) agg sz (dA t x)
 | .mgetB cg zero ok x k=>nb b cg zero ok (dA t x) (dA t k)
 | .loadZ agg sz x=>Cw agg sz (dA t x)
structure lE (st:bm) (A:dh):Prop where
 t:∀i,get i st.t=A.t i
 b:∀k,look k st.b=A.b k
 e:∀k,look k st.e=A.e k
theorem iR{st:bm}{A:dh}(h:lE st A)(x:dt):ct st.t x=dA A.t x:=by
 cases x
 ·exact h.t _
 ·rfl
theorem uL{st:bm}{A:dh}(h:lE st A):ct st.t=dA A.t:=funext (iR h)
theorem ag5{st:bm}{A:dh}(h:lE st A)(agg:Bool)(sz:Nat)(p:ai):mZ st.b st.e agg sz p=sq A.b A.e agg sz p:=by
 cases p<;>simp only[mZ,sq]
 ·rw[h.b];try rfl
 ·rw[h.e]
theorem ag6{st:bm}{A:dh}(h:lE st A)(agg:Bool)(sz:Nat)(p:ai):mZ st.b [] agg sz p=sq A.b (fun _=>none) agg sz p:=by
 cases p<;>simp only[mZ,sq]
 ·rw[h.b];try rfl
 ·rfl
theorem Pb{st:bm}{A:dh}(h:lE st A):∀(parts:List (Nat×Nat×dt)) (cs:List ai),uG st.t cs parts=xQ A.t cs parts
 |[],cs=>rfl
 |(off,sz,x)::r,cs=>by simp only[uG,xQ,iR h,Pb h r];try rfl
theorem XY{st:bm}{A:dh}(h:lE st A)(i:fV):hs st i=pZ A.t A.b A.e i:=by have ab:(fun k=>look k st.b)=A.b:=funext h.b;cases i<;>simp only[hs,pZ,uL h,ag5 h,ag6 h,Pb h,ab]
def hp:dt->List Nat
 | .t i=>[i]
 | .c _=>[]
def Mt:Option dt->List Nat
 |some x=>hp x
 |none=>[]
def fV.looks:fV->List Nat
 | .mov x| .load _ _ x| .loadB _ _ x| .loadZ _ _ x| .faddr _ _ _ x| .fld _ _ _ x| .notB x| .neg x| .conv _ x| .ext _ x| .len x| .slen x| .nck x| .ment x| .mlen x| .mkif _ x=>hp x
 | .pick c x y=>hp c++hp x++hp y
 | .iaddr _ x i| .sidx x i=>hp x++hp i
 | .ssl x lo hi| .lsl _ x lo hi=>hp x++Mt lo++Mt hi
 | .bin _ _ x y| .min2 x y| .max2 x y| .beq _ _ x y=>hp x++hp y
 | .build _ cH=>cH.flatMap fun p=>hp p.2.2
 | .mkf _ xs=>xs.flatMap hp
 | .mget _ _ _ x k| .mgetB _ _ _ x k=>hp x++hp k
def eh.looks:eh->List Nat
 | .v _ i=>i.looks
 | .box _ _ x=>hp x
 | .alloc _ _ _=>[]
 | .store _ x y=>hp x++hp y
 | .storeE _ x y=>hp x++hp y
 | .bsl _ _ _ xs=>xs.flatMap hp
 | .app _ _ _ x y=>hp x++hp y
 | .bslm _ _ _ _ xs=>xs.flatMap hp
 | .mks _ _ _ _ _ x=>hp x
 | .appm _ _ _ _ x y=>hp x++hp y
 | .mkmap _ _=>[]
 | .mput _ x k y=>hp x++hp k++hp y
 | .range _ _ x=>hp x
def ee.looks:ee->List Nat
 | .s i=>i.looks
 | .call _ f xs=>hp f++xs.flatMap hp
 | .next _ x=>hp x
def c9.looks(g:c9):List Nat:=(match g.g with|some (s,_)=>[s]|none=>[])++g.i.looks
def qN(l:List Nat)(t dE:Nat->ai):Prop:= ∀i∈l,t i=dE i
theorem gw{t dE:Nat->ai}{x:dt}(h:qN (hp x) t dE):dA t x=dA dE x:=by
 cases x
 ·exact h _ (by simp[hp])
 ·rfl
theorem kB{l a1:List Nat}{t dE:Nat->ai}(h:qN (l++a1) t dE):qN l t dE/\qN a1 t dE:=⟨fun i hi=>h i (by simp[hi]),fun i hi=>h i (by simp[hi])⟩
theorem FC{t dE:Nat->ai}{x:Option dt}(h:qN (Mt x) t dE):x.map (dA t)=x.map (dA dE):=by
 cases x
 ·rfl
 ·simp[gw h]
theorem Pa{t dE:Nat->ai}:∀{parts:List (Nat×Nat×dt)} {cs:List ai},qN (parts.flatMap fun p=>hp p.2.2) t dE->xQ t cs parts=xQ dE cs parts
 |[],cs,_=>rfl
 |(off,sz,x)::r,cs,h=>by simp only[List.flatMap_cons]at h;obtain⟨J,U⟩:=kB h;simp only[xQ,gw J,Pa U]
theorem GX{t dE:Nat->ai}:∀{xs:List dt},qN (xs.flatMap hp) t dE->xs.map (dA t)=xs.map (dA dE)
 |[],_=>rfl
 |x::xs,h=>by simp only[List.flatMap_cons]at h;obtain⟨J,U⟩:=kB h;simp[gw J,GX U]
def fV.isLoad:fV->Bool
 | .load _ _ _=>true
 | .loadB _ _ _=>true
 | .mgetB _ _ _ _ _=>true
 | .mget _ _ _ _ _=>true
 | .ment _=>true
 | .mlen _=>true
 |_=>false
theorem amh{t dE:Nat->ai}{b b0:aL->Option (List ai)}{e fo:aL->Option fN}{i:fV}(h:qN i.looks t dE)(ab:i.isLoad=false):pZ t b e i=pZ dE b0 fo i:=by
 cases i<;>simp only[fV.looks]at h<;>simp only[pZ];case load agg sz x=>simp[fV.isLoad]at ab
 case loadB agg sz x=>simp[fV.isLoad]at ab
 case pick c x y=>obtain⟨J,ar⟩:=kB h;obtain⟨J,U⟩:=kB J;rw[gw J,gw U,gw ar]
 case iaddr=>obtain⟨J,U⟩:=kB h;rw[gw J,gw U]
 case sidx=>obtain⟨J,U⟩:=kB h;rw[gw J,gw U]
 case ssl=>obtain⟨J,ar⟩:=kB h;obtain⟨J,U⟩:=kB J;rw[gw J,FC U,FC ar]
 case lsl=>obtain⟨J,ar⟩:=kB h;obtain⟨J,U⟩:=kB J;rw[gw J,FC U,FC ar]
 case bin=>obtain⟨J,U⟩:=kB h;rw[gw J,gw U]
 case min2=>obtain⟨J,U⟩:=kB h;rw[gw J,gw U]
 case build=>rw[Pa h]
 case mkf=>rw[GX h]
 case mget=>simp[fV.isLoad]at ab
 case mgetB=>simp[fV.isLoad]at ab
 case ment=>simp[fV.isLoad]at ab
 case mlen=>simp[fV.isLoad]at ab
 case max2=>obtain⟨J,U⟩:=kB h;rw[gw J,gw U]
 case beq=>obtain⟨J,U⟩:=kB h;rw[gw J,gw U]
 all_goals rw[gw h]
end
end Go.Pv
