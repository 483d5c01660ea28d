/- Regions that draw their order, I: abstract states as functions, effects, and what an instruction does to them. -/
import Derived.WalkKit
import Derived.Orders
import Derived.KernelRfl
import Derived.IntWalk
import Derived.Laws.StructEq
import Derived.ChangeKeysEq
import Derived.MapKept
import Derived.ArgAppend
import Derived.Laws.OwnMore
set_option linter.all false
set_option maxHeartbeats 4000000
set_option maxRecDepth 4000
namespace Go
theorem bf{p:Prop}(h:p:=by simp only[aQ,aH,aI,bQ,bU];exact aL):p:=h
theorem bi{p:Prop}(h:p:=by first|exact cl _|exact cl ‹_› _):p:=h
theorem bv{p:Prop}(h:p:=by simp[aQ,aH,aI]):p:=h
theorem ci{p:Prop}(h:p:=by kernel_rfl):p:=h
theorem co{p:Prop}(h:p:=by unfold cx;exact aL):p:=h
theorem dl{p:Prop}(h:p:=by simp[inObs,Pv.look,aQ,aH,aI]):p:=h
theorem d6{p:Prop}(h:p:=by simp[aK]):p:=h
theorem d7{p:Prop}(h:p:=by simp;omega):p:=h
theorem d8{p:Prop}(h:p:=by first|exact iU _|exact iU ‹_› _):p:=h
theorem d9{p:Prop}(h:p:=by simp[aP,aK,inObs,Pv.look]):p:=h
theorem f8{p:Prop}(h:p:=by simp only[gu,aH,aI,bQ,bU];exact aL):p:=h
theorem gc{p:Prop}(h:p:=by simp only[eP,aH,aI,fF,e5,gY,h6,h7,h8,bQ,bU];exact aL):p:=h
theorem ge{p:Prop}(h:p:=by first|exact j7 _|exact j7 ‹_› _):p:=h
theorem gt{p:Prop}(h:p:=by simp[fresh,aP,aK,cq,inObs,Pv.look,fh]):p:=h
theorem g8{p:Prop}(h:p:=by simp[fresh,aP,aK,ee,inObs,Pv.look,fh]):p:=h
theorem g9{p:Prop}(h:p:=by simp[aq]):p:=h
theorem Ω{p:Prop}(h:p:=by omega):p:=h
theorem Ψ{p:Prop}(h:p:=by simp):p:=h
end Go
open Array renaming getElem?_toList->vb
open BitVec renaming ofInt->mL
open Bool renaming and_eq_true->cv,eq_iff_iff->qP,false_eq_true->hk,not_eq_true'->oJ
open ByteArray renaming ext->arD,size->avZ
open Go renaming Program->cM,TypeId->hl
open Go.ByteArray renaming toList_eq->arE
open Go.IntKind renaming i64->nR
open Go.IntWalk renaming i64_in->nl
open Go.Op renaming bytesLess->h2
open Go.Region renaming wanted->p4
open Go.Result renaming andThen_ok->gf
open Go.Sem renaming run_bind->fZ,run_pure->gI
open Go.Value renaming cells->p5,ownBlock->pk
open Go.Value.pointer renaming injEq->av6
open Go.World.grownBy renaming refl->arH
open List renaming all_eq_true->fi,cons_append->bQ,getElem?_eq_getElem->cm,getElem?_eq_none->rq,getElem?_eq_some_iff->fG,length_append->pn,length_cons->mM,length_drop->tN,map_cons->hc,map_nil->nS,mem_append->h3,mem_cons->eU,mem_cons_of_mem->mh,mem_filter->hD,mem_map->hU,mem_singleton->iG,pairwise_cons->nm,take->p7,take_length->lB,take_of_length_le->hV
open List.cons renaming injEq->yn
open Nat renaming add_mul->p8,le_refl->eo,le_trans->hn,mul_le_mul_right->rr
open Ne renaming symm->lY
open Option renaming bind_some->hE,isSome_iff_exists->fH,isSome_none->je,map_eq_some_iff->gB,map_some->nT
open Option.some renaming injEq->dD
open Prod.mk renaming injEq->kl
open _root_ renaming DecidableEq->nk,False->eI,beq_iff_eq->dO,congrArg->eW,decide_eq_true_eq->eA
namespace Go.Pv
section
open Go Go.RowKit
inductive aM where
 |loc (s:Nat)
 |obj (n:Nat)
 deriving nk,Inhabited
inductive C2 where
 |no
 |nil
 |own (k:aM)
 |tr (k:aM) (j:Nat)
 |lo (k:aM)
 deriving nk,Inhabited
inductive aj where
 |junk
 |int (k:IntKind) (n:Int)
 |bool (b:Bool)
 |str (s:List UInt8)
 |slice (sz:Nat) (tag:C2) (xs:List aj)
 |agg (cs:List aj)
 |ptr (key:aM) (off:Nat)
 |eptr (x:aj)
 |iface (t:Nat) (x:aj)
 |nilp
 |tuple (bc:List aj)
 |func (f:Nat) (dv:List aj)
 |gmap (key:aM)
 |row (sz:Nat) (key:aM) (n:Nat)
 |rptr (sz:Nat) (key:aM) (n i f:Nat)
 |hdm (clock:Nat) (borns:List Nat)
 |hdi (since:Nat) (seen:List Nat) (last:Nat)
 |cst (v:Value)
 deriving Inhabited
structure bg where
 A:Nat->Nat->Prop
 bx:aM->Option Nat
 ow:aM->Option (Nat×Value)
 tr:aM->Nat->Nat->Prop
def lim:Nat:=68719476736
def mE(w:World)(A:Nat->Nat->Prop)(b:Nat):Nat->List Value->Prop
 |_,[]=>True
 |off,u::us=>(A b off/\w.cell? ⟨b,off,none⟩=some u)/\mE w A b (off+1) us
def shape(w:World)(b:Nat):Option (Nat×hl×(Nat×Nat)):=
 match w.heap[b]? with
 |some (.cells cur el fz)=>some (cur.size,el,fz)
 |_=>none
theorem x3{w w':World}{b:Nat}(h:w'.heap[b]? =w.heap[b]?):shape w' b=shape w b:=by unfold shape;rw[h]
mutual
def gv(t:Bool)(w:World)(A:Nat->Nat->Prop)(F:Nat->Prop):aj->Value->Prop
 | .int k n,v=>v= .int k n
 | .bool b,v=>v= .bool b
 | .str s,v=>v= .string ⟨s.toArray⟩/\s.length<=lim
 | .slice sz _ xs,v=> ∃a cap,v= .slice a xs.length cap/\xs.length<=cap/\(cap<=maxLen/\xs.length<=lim)/\
   (xs=[]\/ ∃b off us G,a=some ⟨b,off,none⟩/\F b/\(∀c,G c->F c/\(t=true->c≠b))/\mE w A b off us/\(t=true->off=0/\0<us.length/\∃el,shape w b=some (cap*sz,el,(0,0)))/\vC t w A G sz xs us)
 | .agg cs,v=> ∃us:Array Value,v= .agg us/\vD t w A F cs us.toList
 |_,_=>eI
def vD(t:Bool)(w:World)(A:Nat->Nat->Prop)(F:Nat->Prop):List aj->List Value->Prop
 |[],us=>us=[]
 |c::cs,us=> ∃u ck iR jg,us=u::ck/\((∀b,iR b->F b)/\(∀b,jg b->F b)/\(t=true->∀b,iR b->¬jg b))/\(gv t w A iR c u/\u.oneCell'=true)/\vD t w A jg cs ck
def vC(t:Bool)(w:World)(A:Nat->Nat->Prop)(F:Nat->Prop)(sz:Nat):List aj->List Value->Prop
 |[],us=>us=[]
 |x::xs,us=> ∃u ck iR jg,us=u.cells.toList++ck/\((∀b,iR b->F b)/\(∀b,jg b->F b)/\(t=true->∀b,iR b->¬jg b))/\(gv t w A iR x u/\u.cells.size=sz/\(∀c∈u.cells.toList,c.oneCell'=true))/\vC t w A jg sz xs ck
end
mutual
def be(w:World)(Z:bg):aj->Value->Prop
 | .junk,_=>True
 | .int k n,v=>v= .int k n
 | .bool b,v=>v= .bool b
 | .str s,v=>v= .string ⟨s.toArray⟩/\s.length<=lim
 | .slice sz tag xs,v=>
   (∃a cap,v= .slice a xs.length cap/\xs.length<=cap/\(cap<=maxLen/\xs.length<=lim)/\(xs=[]\/ ∃b off us,a=some ⟨b,off,none⟩/\mE w Z.A b off us/\dK w Z sz xs us))/\
   (tag= .nil->v= .slice none 0 0)/\
   (∀g,tag= .own g->∃n u,Z.ow g=some (n,u)/\xs.length<=n/\(xs.length=n->v=u))/\
   (∀k j,tag= .tr k j->gv true w Z.A (Z.tr k j) (.slice sz tag xs) v)/\(∀k,tag= .lo k->gv false w Z.A (Z.tr k 0) (.slice sz tag xs) v)
 | .agg cs,v=> ∃us:Array Value,v= .agg us/\dt w Z cs us.toList
 | .ptr key off,v=> ∃b,Z.bx key=some b/\v= .pointer (some ⟨b,off,none⟩)
 | .eptr x,v=> ∃b off u,v= .pointer (some ⟨b,off,none⟩)/\be w Z x u/\mE w Z.A b off u.cells.toList
 | .iface t x,v=> ∃u,v= .iface t u/\be w Z x u
 | .nilp,v=>v= .pointer none
 | .tuple bc,v=> ∃us:Array Value,v= .tuple us/\cZ w Z bc us.toList
 | .func f dv,v=> ∃us:Array Value,v= .func (.func f) #[] us/\cZ w Z dv us.toList
 | .gmap key,v=> ∃b,Z.bx key=some b/\v= .map (some b)
 | .row _ key n,v=>(∃b cap,v= .slice (some ⟨b,0,none⟩) n cap)/\n<=lim/\∃n' u,Z.ow key=some (n',u)/\n<=n'/\(n=n'->v=u)
 | .rptr sz key n i f,v=>(∃b o,v= .pointer (some ⟨b,o,none⟩))/\i<n/\∃n' u,Z.ow key=some (n',u)/\n<=n'/\(n=n'->∃b,u.ownBlock=some b/\v= .pointer (some ⟨b,i*sz+f,none⟩))
 | .hdm _ _,_=>eI
 | .hdi _ _ _,_=>eI
 | .cst c,v=>v=c
def dt(w:World)(Z:bg):List aj->List Value->Prop
 |[],us=>us=[]
 |c::cs,us=> ∃u ck,us=u::ck/\(be w Z c u/\u.oneCell'=true)/\dt w Z cs ck
def cZ(w:World)(Z:bg):List aj->List Value->Prop
 |[],us=>us=[]
 |c::cs,us=> ∃u ck,us=u::ck/\be w Z c u/\cZ w Z cs ck
def dK(w:World)(Z:bg)(sz:Nat):List aj->List Value->Prop
 |[],us=>us=[]
 |x::xs,us=> ∃u ck,us=u.cells.toList++ck/\(be w Z x u/\u.cells.size=sz/\(∀c∈u.cells.toList,c.oneCell'=true))/\dK w Z sz xs ck
end
theorem IG{w w':World}{A gC:Nat->Nat->Prop}{b:Nat}(bm:∀b o,A b o->gC b o/\w'.cell? ⟨b,o,none⟩=w.cell? ⟨b,o,none⟩):
  ∀(us:List Value) (off:Nat),mE w A b off us->mE w' gC b off us
 |[],_,_=>trivial
 |_::us,off,h=>⟨⟨(bm _ _ h.1.1).1,(bm _ _ h.1.1).2.trans h.1.2⟩,IG bm us (off+1) h.2⟩
mutual
theorem Hn{t:Bool}{w w':World}{A gC:Nat->Nat->Prop}(bm:∀b o,A b o->gC b o/\w'.cell? ⟨b,o,none⟩=w.cell? ⟨b,o,none⟩)(af:∀b o,A b o->shape w' b=shape w b):∀(p:aj) (F qa:Nat->Prop) (v:Value),(∀b,F b->qa b)->gv t w A F p v->gv t w' gC qa p v
 | .int k n,_,_,_,_,h=>by simp only[gv]at h⊢;exact h
 | .bool b,_,_,_,_,h=>by simp only[gv]at h⊢;exact h
 | .str s,_,_,_,_,h=>by simp only[gv]at h⊢;exact h
 | .slice sz tag xs,F,qa,v,fa,h=>by
  simp only[gv]at h⊢;obtain⟨a,cap,I,U,ao,a7⟩:=h;refine⟨a,cap,I,U,ao,?_⟩;rcases a7 with a7|⟨b,off,us,G,ar,aE,bA,dr,iw,ix⟩
  ·exact .inl a7
  ·refine .inr ⟨b,off,us,G,ar,fa _ aE,fun c aq=>⟨fa _ (bA c aq).1,(bA c aq).2⟩,IG bm _ _ dr,fun aC=>?_,Ve bm af xs G G _ (fun _ h=>h) ix⟩;obtain⟨f1,f2,el,f3⟩:=iw aC;refine⟨f1,f2,el,?_⟩;cases us with
   |nil=>simp at f2
   |cons u us=>rw[af b off dr.1.1];exact f3
 | .agg cs,F,qa,v,fa,h=>by simp only[gv]at h⊢;obtain⟨us,I,U⟩:=h;exact⟨us,I,Vf bm af cs F qa _ fa U⟩
 | .junk,_,_,_,_,h=>by simp[gv]at h
 | .ptr _ _,_,_,_,_,h=>by simp[gv]at h
 | .eptr _,_,_,_,_,h=>by simp[gv]at h
 | .iface _ _,_,_,_,_,h=>by simp[gv]at h
 | .nilp,_,_,_,_,h=>by simp[gv]at h
 | .tuple _,_,_,_,_,h=>by simp[gv]at h
 | .func _ _,_,_,_,_,h=>by simp[gv]at h
 | .gmap _,_,_,_,_,h=>by simp[gv]at h
 | .row _ _ _,_,_,_,_,h=>by simp[gv]at h
 | .rptr _ _ _ _ _,_,_,_,_,h=>by simp[gv]at h
 | .hdm _ _,_,_,_,_,h=>by simp[gv]at h
 | .hdi _ _ _,_,_,_,_,h=>by simp[gv]at h
 | .cst _,_,_,_,_,h=>by simp[gv]at h
theorem Vf{t:Bool}{w w':World}{A gC:Nat->Nat->Prop}(bm:∀b o,A b o->gC b o/\w'.cell? ⟨b,o,none⟩=w.cell? ⟨b,o,none⟩)(af:∀b o,A b o->shape w' b=shape w b):∀(cs:List aj) (F qa:Nat->Prop) (us:List Value),(∀b,F b->qa b)->vD t w A F cs us->vD t w' gC qa cs us
 |[],_,_,_,_,h=>by simp only[vD]at h⊢;exact h
 |c::cs,F,qa,us,fa,h=>by simp only[vD]at h⊢;obtain⟨u,ck,iR,jg,I,⟨U,ao,a7⟩,⟨b8,c6⟩,dM⟩:=h;exact⟨u,ck,iR,jg,I,⟨fun b ad=>fa _ (U b ad),fun b ad=>fa _ (ao b ad),a7⟩,⟨Hn bm af c iR iR u (fun _ h=>h) b8,c6⟩,Vf bm af cs jg jg ck (fun _ h=>h) dM⟩
theorem Ve{t:Bool}{w w':World}{A gC:Nat->Nat->Prop}(bm:∀b o,A b o->gC b o/\w'.cell? ⟨b,o,none⟩=w.cell? ⟨b,o,none⟩)(af:∀b o,A b o->shape w' b=shape w b){sz:Nat}:∀(cs:List aj) (F qa:Nat->Prop) (us:List Value),(∀b,F b->qa b)->vC t w A F sz cs us->vC t w' gC qa sz cs us
 |[],_,_,_,_,h=>by simp only[vC]at h⊢;exact h
 |c::cs,F,qa,us,fa,h=>by simp only[vC]at h⊢;obtain⟨u,ck,iR,jg,I,⟨U,ao,a7⟩,⟨b8,c6⟩,dM⟩:=h;exact⟨u,ck,iR,jg,I,⟨fun b ad=>fa _ (U b ad),fun b ad=>fa _ (ao b ad),a7⟩,⟨Hn bm af c iR iR u (fun _ h=>h) b8,c6⟩,Ve bm af cs jg jg ck (fun _ h=>h) dM⟩
end
mutual
def aK(S:aM->Prop):aj->Prop
 | .slice _ tag xs=>(match tag with| .own k=>S k| .tr k _=>S k| .lo k=>S k|_=>True)/\aP S xs
 | .agg cs=>aP S cs
 | .ptr k _=>S k
 | .eptr x=>aK S x
 | .iface _ x=>aK S x
 | .tuple bc=>aP S bc
 | .func _ dv=>aP S dv
 | .gmap k=>S k
 | .row _ k _=>S k
 | .rptr _ k _ _ _=>S k
 |_=>True
def aP(S:aM->Prop):List aj->Prop
 |[]=>True
 |x::xs=>aK S x/\aP S xs
end
mutual
theorem xH{S T:aM->Prop}(h:∀k,S k->T k):∀p:aj,aK S p->aK T p
 | .junk,_=>by simp[aK]
 | .int _ _,_=>by simp[aK]
 | .bool _,_=>by simp[aK]
 | .str _,_=>by simp[aK]
 | .slice sz tag xs,bG=>by simp only[aK]at bG⊢;exact⟨by cases tag<;>first|trivial|exact h _ bG.1,kJ h xs bG.2⟩
 | .agg cs,bG=>by simp only[aK]at bG⊢;exact kJ h cs bG
 | .ptr k _,bG=>by simp only[aK]at bG⊢;exact h _ bG
 | .eptr x,bG=>by simp only[aK]at bG⊢;exact xH h x bG
 | .iface _ x,bG=>by simp only[aK]at bG⊢;exact xH h x bG
 | .nilp,_=>by simp[aK]
 | .tuple bc,bG=>by simp only[aK]at bG⊢;exact kJ h bc bG
 | .func _ dv,bG=>by simp only[aK]at bG⊢;exact kJ h dv bG
 | .gmap k,bG=>by simp only[aK]at bG⊢;exact h _ bG
 | .row _ k _,bG=>by simp only[aK]at bG⊢;exact h _ bG
 | .rptr _ k _ _ _,bG=>by simp only[aK]at bG⊢;exact h _ bG
 | .hdm _ _,_=>by simp[aK]
 | .hdi _ _ _,_=>by simp[aK]
 | .cst _,_=>by simp[aK]
theorem kJ{S T:aM->Prop}(h:∀k,S k->T k):∀cC:List aj,aP S cC->aP T cC
 |[],_=>by simp[aP]
 |x::xs,bG=>by simp only[aP]at bG⊢;exact⟨xH h x bG.1,kJ h xs bG.2⟩
end
mutual
theorem ID:∀p:aj,aK (fun _=>True) p
 | .junk=>by simp[aK]
 | .int _ _=>by simp[aK]
 | .bool _=>by simp[aK]
 | .str _=>by simp[aK]
 | .slice sz tag xs=>by simp only[aK];exact⟨by cases tag<;>trivial,vX xs⟩
 | .agg cs=>by simp only[aK];exact vX cs
 | .ptr k _=>by simp[aK]
 | .eptr x=>by simp only[aK];exact ID x
 | .iface _ x=>by simp only[aK];exact ID x
 | .nilp=>by simp[aK]
 | .tuple bc=>by simp only[aK];exact vX bc
 | .func _ dv=>by simp only[aK];exact vX dv
 | .gmap k=>by simp[aK]
 | .row _ k _=>by simp[aK]
 | .rptr _ k _ _ _=>by simp[aK]
 | .hdm _ _=>by simp[aK]
 | .hdi _ _ _=>by simp[aK]
 | .cst _=>by simp[aK]
theorem vX:∀cC:List aj,aP (fun _=>True) cC
 |[]=>by simp[aP]
 |x::xs=>by simp only[aP];exact⟨ID x,vX xs⟩
end
def fV:List Nat->List Value->List MapEntry
 |b::e9,k::v::r=>⟨k,v,b⟩::fV e9 r
 |_,_=>[]
def ky(cs:List aj)(us:Array Value)(el:hl):Obj:=
 match cs with
 | .hdm clock borns::_=>.map (fV borns us.toList).toArray clock
 | .hdi since seen last::_=>.mapIter (match us.toList with|[.map m]=>m|_=>none) since seen.toArray last
 |_=>.cells us el
structure ak7 (clock:Nat) (borns:List Nat) (r:List aj):Prop where
 len:r.length=2*borns.length
 inc:borns.Pairwise (· < ·)
 lt:∀b∈borns,b<clock
def j3(w:World)(Z:bg)(cs:List aj)(us:List Value):Prop:=
 match cs with
 | .hdm clock borns::r=>cZ w Z r us/\ak7 clock borns r
 | .hdi _ _ _::r=>cZ w Z r us
 |cs=>dt w Z cs us
def iq:List aj->Bool
 | .hdm _ _::_=>false
 | .hdi _ _ _::_=>false
 |_=>true
theorem Cz{w:World}{Z:bg}{cs:List aj}{us:List Value}(h:dt w Z cs us):iq cs=true:=by
 unfold iq;split
 ·simp only[dt,be]at h;obtain⟨_,_,_,⟨h,_⟩,_⟩:=h;exact h.elim
 ·simp only[dt,be]at h;obtain⟨_,_,_,⟨h,_⟩,_⟩:=h;exact h.elim
 ·rfl
theorem wy{cs:List aj}(h:iq cs=true)(us:Array Value)(el:hl):ky cs us el= .cells us el:=by
 unfold iq at h;unfold ky;split at h<;>first|cases h|skip
 rfl
theorem wz{w:World}{Z:bg}{cs:List aj}(h:iq cs=true)(us:List Value):j3 w Z cs us=dt w Z cs us:=by
 unfold iq at h;unfold j3;split at h<;>first|cases h|skip
 rfl
structure pq (S:aM->Prop) (w:World) (Z:bg) (w':World) (bo:bg):Prop where
 A:∀b o,Z.A b o->bo.A b o/\w'.cell? ⟨b,o,none⟩=w.cell? ⟨b,o,none⟩
 bx:∀k b,S k->Z.bx k=some b->bo.bx k=some b
 ow:∀g n u,S g->Z.ow g=some (n,u)->∃n' fu,bo.ow g=some (n',fu)/\(n'=n/\fu=u\/n<n')
 sh:∀b o,Z.A b o->shape w' b=shape w b
 tr:∀k j b,S k->Z.tr k j b->bo.tr k j b
abbrev mj:=pq (fun _=>True)
mutual
theorem k4{S:aM->Prop}{w w':World}{Z bo:bg}(ax:pq S w Z w' bo):∀(p:aj) (v:Value),aK S p->be w Z p v->be w' bo p v
 | .junk,_,_,_=>by simp[be]
 | .int k n,_,_,h=>by simp only[be]at h⊢;exact h
 | .bool b,_,_,h=>by simp only[be]at h⊢;exact h
 | .str s,_,_,h=>by simp only[be]at h⊢;exact h
 | .slice sz tag xs,v,ae,h=>by
  simp only[be,aK]at h ae⊢;obtain⟨⟨a,cap,I,U,ao,a7⟩,b8,c6,jm,ih⟩:=h;refine⟨⟨a,cap,I,U,ao,?_⟩,b8,fun g aT=>?_,fun k j mx=>?_,fun k mx=>?_⟩
  ·rcases a7 with a7|⟨b,off,us,a7,c6,dM⟩
   ·exact .inl a7
   ·exact .inr ⟨b,off,us,a7,IG ax.A _ _ c6,JE ax sz xs us ae.2 dM⟩
  ·obtain⟨n,u,ar,aE,bA⟩:=c6 g aT;subst aT;obtain⟨n',fu,f1,f2⟩:=ax.ow g n u ae.1 ar;refine⟨n',fu,f1,?_⟩;rcases f2 with⟨rfl,rfl⟩|f2
   ·exact⟨aE,bA⟩
   ·exact⟨Ω,fun e=>Ω⟩
  ·have:=jm k j mx;subst mx;exact Hn ax.A ax.sh _ _ _ _ (fun b=>ax.tr k j b ae.1) this
  ·have:=ih k mx;subst mx;exact Hn ax.A ax.sh _ _ _ _ (fun b=>ax.tr k 0 b ae.1) this
 | .agg cs,v,ae,h=>by simp only[be,aK]at h ae⊢;obtain⟨us,I,U⟩:=h;exact⟨us,I,JH ax cs _ ae U⟩
 | .ptr key off,v,ae,h=>by simp only[be,aK]at h ae⊢;obtain⟨b,I,U⟩:=h;exact⟨b,ax.bx _ _ ae I,U⟩
 | .iface t x,v,ae,h=>by simp only[be,aK]at h ae⊢;obtain⟨u,I,U⟩:=h;exact⟨u,I,k4 ax x u ae U⟩
 | .eptr x,v,ae,h=>by simp only[be,aK]at h ae⊢;obtain⟨b,off,u,I,U,ao⟩:=h;exact⟨b,off,u,I,k4 ax x u ae U,IG ax.A _ _ ao⟩
 | .nilp,_,_,h=>by simp only[be]at h⊢;exact h
 | .tuple bc,v,ae,h=>by simp only[be,aK]at h ae⊢;obtain⟨us,I,U⟩:=h;exact⟨us,I,zU ax bc _ ae U⟩
 | .func f dv,v,ae,h=>by simp only[be,aK]at h ae⊢;obtain⟨us,I,U⟩:=h;exact⟨us,I,zU ax dv _ ae U⟩
 | .gmap key,v,ae,h=>by simp only[be,aK]at h ae⊢;obtain⟨b,I,U⟩:=h;exact⟨b,ax.bx _ _ ae I,U⟩
 | .row sz key n,v,ae,h=>by
  simp only[be,aK]at h ae⊢;obtain⟨I,U,n',u,ao,a7,b8⟩:=h;obtain⟨gG,ki,f1,f2⟩:=ax.ow key n' u ae ao;refine⟨I,U,gG,ki,f1,?_⟩;rcases f2 with⟨rfl,rfl⟩|f2
  ·exact⟨a7,b8⟩
  ·exact⟨Ω,fun e=>Ω⟩
 | .rptr sz key n i f,v,ae,h=>by
  simp only[be,aK]at h ae⊢;obtain⟨I,U,n',u,ao,a7,b8⟩:=h;obtain⟨gG,ki,f1,f2⟩:=ax.ow key n' u ae ao;refine⟨I,U,gG,ki,f1,?_⟩;rcases f2 with⟨rfl,rfl⟩|f2
  ·exact⟨a7,b8⟩
  ·exact⟨Ω,fun e=>Ω⟩
 | .hdm _ _,_,_,h=>by simp only[be]at h
 | .hdi _ _ _,_,_,h=>by simp only[be]at h
 | .cst c,_,_,h=>by simp only[be]at h⊢;exact h
theorem JH{S:aM->Prop}{w w':World}{Z bo:bg}(ax:pq S w Z w' bo):∀(cs:List aj) (us:List Value),aP S cs->dt w Z cs us->dt w' bo cs us
 |[],_,_,h=>by simp only[dt]at h⊢;exact h
 |c::cs,us,ae,h=>by simp only[dt,aP]at h ae⊢;obtain⟨u,ck,I,U,ao⟩:=h;exact⟨u,ck,I,⟨k4 ax c u ae.1 U.1,U.2⟩,JH ax cs ck ae.2 ao⟩
theorem zU{S:aM->Prop}{w w':World}{Z bo:bg}(ax:pq S w Z w' bo):∀(cs:List aj) (us:List Value),aP S cs->cZ w Z cs us->cZ w' bo cs us
 |[],_,_,h=>by simp only[cZ]at h⊢;exact h
 |c::cs,us,ae,h=>by simp only[cZ,aP]at h ae⊢;obtain⟨u,ck,I,U,ao⟩:=h;exact⟨u,ck,I,k4 ax c u ae.1 U,zU ax cs ck ae.2 ao⟩
theorem JE{S:aM->Prop}{w w':World}{Z bo:bg}(ax:pq S w Z w' bo)(sz:Nat):∀(xs:List aj) (us:List Value),aP S xs->dK w Z sz xs us->dK w' bo sz xs us
 |[],_,_,h=>by simp only[dK]at h⊢;exact h
 |x::xs,us,ae,h=>by simp only[dK,aP]at h ae⊢;obtain⟨u,ck,I,⟨U,ao,a7⟩,b8⟩:=h;exact⟨u,ck,I,⟨k4 ax x u ae.1 U,ao,a7⟩,JE ax sz xs ck ae.2 b8⟩
end
theorem aah{S:aM->Prop}{w w':World}{Z bo:bg}(ax:pq S w Z w' bo){cs:List aj}{us:List Value}(ae:aP S cs)(h:j3 w Z cs us):j3 w' bo cs us:=by
 unfold j3 at h⊢;split
 ·simp only[aP]at ae;exact⟨zU ax _ _ ae.2 h.1,h.2⟩
 ·simp only[aP]at ae;exact zU ax _ _ ae.2 h
 ·rename_i I U;split at h
  ·exact absurd rfl (I _ _ _)
  ·exact absurd rfl (U _ _ _ _)
  ·exact JH ax _ _ ae h
section
variable {w w':World} {Z bo:bg} (ax:mj w Z w' bo)
include ax
theorem zV{p:aj}{v:Value}(h:be w Z p v):be w' bo p v:=k4 ax p v (ID p) h
theorem aam{p:List aj}{v:List Value}(h:dt w Z p v):dt w' bo p v:=JH ax p v (vX p) h
theorem JJ{p:List aj}{v:List Value}(h:cZ w Z p v):cZ w' bo p v:=zU ax p v (vX p) h
theorem rj{p:List aj}{v:List Value}(h:j3 w Z p v):j3 w' bo p v:=aah ax (vX p) h
theorem Cw{sz:Nat}{p:List aj}{v:List Value}(h:dK w Z sz p v):dK w' bo sz p v:=JE ax sz p v (vX p) h
end
end
section
open Go Go.RowKit
def get(k:Nat):List (Nat×aj)->aj
 |[]=>.junk
 |(i,p)::r=>if i=k then p else get k r
def put(k:Nat)(p:aj):List (Nat×aj)->List (Nat×aj)
 |[]=>[(k,p)]
 |(i,q)::r=>if i=k then(i,p)::r else(i,q)::put k p r
def look{α:Type}(k:aM):List (aM×α)->Option α
 |[]=>none
 |(i,p)::r=>if i=k then some p else look k r
def cI{α:Type}(k:aM)(p:α):List (aM×α)->List (aM×α)
 |[]=>[(k,p)]
 |(i,q)::r=>if i=k then(i,p)::r else(i,q)::cI k p r
theorem kq(k j:Nat)(p:aj):∀l,get j (put k p l)=if k=j then p else get j l
 |[]=>by simp[get,put]
 |(i,q)::r=>by
  by_cases h:i=k
  ·subst h;by_cases U:i=j<;>simp[get,put,U]
  ·by_cases U:i=j
   ·subst U;simp[get,put,h,lY h]
   ·simp[get,put,h,U,kq k j p r]
theorem jL{α:Type}(k j:aM)(p:α):∀l,look j (cI k p l)=if k=j then some p else look j l
 |[]=>by simp[look,cI]
 |(i,q)::r=>by
  by_cases h:i=k
  ·subst h;by_cases U:i=j<;>simp[look,cI,U]
  ·by_cases U:i=j
   ·subst U;simp[look,cI,h,lY h]
   ·simp[look,cI,h,U,jL k j p r]
structure fU where
 n:Nat
 el:Nat
 sz:Nat
 xs:Option (List aj)
def PR(w:World)(Z:bg)(o:fU)(v:Value)(us:List Value):Prop:=∀xs,o.xs=some xs->xs.length=o.n/\dK w Z o.sz xs us/\∀bl,v.ownBlock=some bl->∀j,¬Z.A bl j
theorem tw{w w':World}{Z bo:bg}(ax:mj w Z w' bo){o:fU}{v:Value}{us:List Value}(bm:∀bl,v.ownBlock=some bl->∀j,bo.A bl j->Z.A bl j)(h:PR w Z o v us):PR w' bo o v us:=fun xs ab=>⟨(h xs ab).1,Cw ax (h xs ab).2.1,fun bl ad j ag=>(h xs ab).2.2 bl ad j (bm bl ad j ag)⟩
def ee(S:aM->Prop)(o:fU):Prop:= ∀xs,o.xs=some xs->aP S xs
structure bt where
 t:List (Nat×aj)
 b:List (aM×List aj)
 e:List (aM×fU)
 n:Nat
 o:List aM
def fresh(n:Nat)(o:List aM)(k:aM):Prop:=(match k with| .loc m=>n<=m| .obj _=>True)/\k∉o
theorem Me{n n':Nat}{o o':List aM}(au:n<=n')(ax:∀k∈o,k∈o'){k:aM}(h:fresh n' o' k):fresh n o k:=by unfold fresh at h⊢;exact⟨by cases k<;>simp at h⊢;omega,fun ae=>h.2 (ax k ae)⟩
def Ql(Z:bg)(b:List (aM×List aj))(e:List (aM×fU))(bl:Nat):Prop:=(∃k,(look k b).isSome/\Z.bx k=some bl)\/(∃g n v,(look g e).isSome/\Z.ow g=some (n,v)/\v.ownBlock=some bl)
structure Good (pr:Nat->Prop) (w:World) (Z:bg) (b:List (aM×List aj)) (e:List (aM×fU)):Prop where
 alt:∀bl o,Z.A bl o->bl<w.heap.size
 box:∀k cs,look k b=some cs->∃bl us el,Z.bx k=some bl/\pr bl/\(∀o,¬Z.A bl o)/\w.heap[bl]? =some (ky cs us el)/\j3 w Z cs us.toList
 inj:∀k bJ bl,(look k b).isSome->(look bJ b).isSome->Z.bx k=some bl->Z.bx bJ=some bl->k=bJ
 own:∀g o,look g e=some o->∃v us,Z.ow g=some (o.n,v)/\w.ownsRow 0 o.el o.sz v o.n us/\(∀bl,v.ownBlock=some bl->pr bl/\(∀j,Z.A bl j->j<o.n*o.sz))/\PR w Z o v us
 oinj:∀g fj n n' v v' bl,(look g e).isSome->(look fj e).isSome->Z.ow g=some (n,v)->Z.ow fj=some (n',v')->v.ownBlock=some bl->v'.ownBlock=some bl->g=fj
 obx:∀g k n v bl,(look g e).isSome->(look k b).isSome->Z.ow g=some (n,v)->v.ownBlock=some bl->Z.bx k=some bl->eI
 one:∀k,Z.bx k=none\/Z.ow k=none
 otr:∀bl,Ql Z b e bl->∀k j,¬Z.tr k j bl
structure fv where
 w0:World
 Z0:bg
 mt:Nat->Prop
 N:Nat
 ob:List aM
def fv.pr(C:fv)(bl:Nat):Prop:=C.mt bl\/C.w0.heap.size<=bl
def apm:aM:= .obj 990001
def gd:aM:= .obj 990002
structure qR (C:fv) (w:World) (Z:bg):Prop where
 os:w.os=C.w0.os
 tape:w.tape=C.w0.tape
 output:w.output=C.w0.output
 size:C.w0.heap.size<=w.heap.size
 block:∀k,k<C.w0.heap.size->¬C.mt k->w.heap[k]? =C.w0.heap[k]?
 keep:∀b o,C.Z0.A b o->Z.A b o/\w.cell? ⟨b,o,none⟩=C.w0.cell? ⟨b,o,none⟩
 fresh:∀b o,Z.A b o->C.Z0.A b o\/C.pr b
 obj:∀n b,C.Z0.bx (.obj n)=some b->Z.bx (.obj n)=some b
 obn:∀n b,C.Z0.bx (.obj n)=some b-> .obj n∈C.ob
 row:∀m n u,C.Z0.ow (.obj m)=some (n,u)->∃n' fu,Z.ow (.obj m)=some (n',fu)/\(n'=n/\fu=u\/n<n')
 obr:∀m n u,C.Z0.ow (.obj m)=some (n,u)-> .obj m∈C.ob
 trd:∀k j bJ dL b,Z.tr k j b->Z.tr bJ dL b->k=bJ/\j=dL
 trb:∀k j b,Z.tr k j b->(k=apm\/C.w0.heap.size<=b)/\b<w.heap.size
 trn:∀k j b,Z.tr k j b->Z.bx k=none/\Z.ow k=none
 sh:∀b o,C.Z0.A b o->shape w b=shape C.w0 b
theorem Fw{Z bo:bg}{g:aM}{n:Nat}{u:Value}(h:∃n' fu,Z.ow g=some (n',fu)/\(n'=n/\fu=u\/n<n'))(ax:∀n u,Z.ow g=some (n,u)->∃n' fu,bo.ow g=some (n',fu)/\(n'=n/\fu=u\/n<n')):
  ∃n' fu,bo.ow g=some (n',fu)/\(n'=n/\fu=u\/n<n'):=by
 obtain⟨jc,jO,ar,aE⟩:=h;obtain⟨gG,ki,f1,f2⟩:=ax jc jO ar;refine⟨gG,ki,f1,?_⟩;rcases aE with⟨rfl,rfl⟩|aE
 ·exact f2
 ·rcases f2 with⟨rfl,rfl⟩|f2
  ·exact .inr aE
  ·exact .inr Ω
structure c7 (C:fv) (st:bt) (a:Act) (w:World) (Z:bg):Prop where
 good:Good C.pr w Z st.b st.e
 fr:qR C w Z
 defers:a.defers=[]
 size:a.tmps.size=C.N
 slot:∀i,be w Z (get i st.t) (a.tmps.getD i undef)
 new:∀k,fresh st.n st.o k->Z.bx k=none/\Z.ow k=none/\∀j b,¬Z.tr k j b
def e6(d:Option Nat)(p:aj)(t:List (Nat×aj)):List (Nat×aj):=
 match d with
 |some d=>put d p t
 |none=>t
def j8(N:Nat)(d:Option Nat):Bool:=match d with|some d=>decide (d<N)|none=>true
theorem c7.put{C:fv}{st:bt}{a:Act}{w:World}{Z:bg}(h:c7 C st a w Z){d:Option Nat}(aD:j8 C.N d=true){p:aj}{v:Value}(bG:be w Z p v):
  c7 C {st with t:=e6 d p st.t} (a.put d v) w Z:=by
 cases d with
 |none=>exact h
 |some d=>
  have bD:d<a.tmps.size:=by rw[h.size];simpa[j8]using aD
  refine⟨h.good,h.fr,h.defers,by simpa[Act.put]using h.size,fun i=>?_,h.new⟩;simp only[e6,kq];by_cases e:d=i
  ·subst e;simpa[Act.put,Array.getD_eq_getD_getElem?,bD]using bG
  ·have:=h.slot i;simpa[e,Act.put,Array.getD_eq_getD_getElem?,Array.getElem?_setIfInBounds_ne e]using this
theorem c7.over{C:fv}{st st':bt}{a:Act}{w w':World}{Z bo:bg}(h:c7 C st a w Z)(ax:mj w Z w' bo)(aC:st'.t=st.t)(aT:Good C.pr w' bo st'.b st'.e)(aO:qR C w' bo)
  (au:∀k,fresh st'.n st'.o k->bo.bx k=none/\bo.ow k=none/\∀j b,¬bo.tr k j b):c7 C st' a w' bo:=
 ⟨aT,aO,h.defers,h.size,fun i=>by rw[aC];exact zV ax (h.slot i),au⟩
inductive dA where
 |t (i:Nat)
 |c (p:aj)
 deriving Inhabited
def cy(t:List (Nat×aj)):dA->aj
 | .t i=>get i t
 | .c p=>p
def GD:aj->Value->Bool
 | .int k n,.int bJ n'=>decide (k=bJ/\n=n')
 | .bool b,.bool b3=>b==b3
 | .str s,.string l=>decide (l.data.toList=s/\s.length<=lim)
 | .slice _ .nil [],.slice none 0 0=>true
 | .nilp,.pointer none=>true
 | .tuple [],.tuple ⟨[]⟩=>true
 | .func f [],.func (.func g) ⟨[]⟩ ⟨[]⟩=>f==g
 | .junk,_=>true
 |_,_=>false
theorem RU(w:World)(Z:bg){p:aj}{v:Value}(h:GD p v=true):be w Z p v:=by
 unfold GD at h;split at h
 ·simp at h;obtain⟨rfl,rfl⟩:=h;simp[be]
 ·simp at h;subst h;simp[be]
 ·rename_i s l;simp at h;obtain⟨I,U⟩:=h;refine⟨?_,U⟩;subst I;simp
 ·simp only[be];refine⟨⟨none,0,rfl,Ψ,Ψ,Ψ⟩,Ψ,(fun _ h=>by cases h),(fun _ _ h=>by cases h),(fun _ h=>by cases h)⟩
 ·simp[be]
 ·simp[be,cZ]
 ·simp at h;subst h;simp[be,cZ]
 ·simp[be]
 ·cases h
def AD:List aj->List Value->Bool
 |[],[]=>true
 |p::cC,v::bc=>GD p v&&v.oneCell'&&AD cC bc
 |_,_=>false
def AB:aj->Value->Bool
 | .agg cs,.agg us=>AD cs us.toList
 |p,v=>GD p v
theorem RV(w:World)(Z:bg):∀(cC:List aj) (bc:List Value),AD cC bc=true->dt w Z cC bc
 |[],[],_=>by simp[dt]
 |[],_::_,h=>by simp[AD]at h
 |_::_,[],h=>by simp[AD]at h
 |p::cC,v::bc,h=>by simp only[AD,cv]at h;simp only[dt];exact⟨v,bc,rfl,⟨RU w Z h.1.1,h.1.2⟩,RV w Z cC bc h.2⟩
theorem K2(w:World)(Z:bg){p:aj}{v:Value}(h:AB p v=true):be w Z p v:=by
 unfold AB at h;split at h
 ·simp only[be];exact⟨_,rfl,RV w Z _ _ h⟩
 ·exact RU w Z h
def ey:dA->Operand->Bool
 | .t i,.tmp j=>i==j
 | .c p,.const v=>AB p v
 | .c (.func f []),.func g=>f==g
 |_,_=>false
theorem ez{C:fv}{st:bt}{a:Act}{w:World}{Z:bg}(h:c7 C st a w Z){x:dA}{o:Operand}(ab:ey x o=true):be w Z (cy st.t x) (a.eval o):=by
 unfold ey at ab;split at ab
 ·simp at ab;subst ab;simpa[cy,Act.eval]using h.slot _
 ·simpa[cy,Act.eval]using K2 w Z ab
 ·simp at ab;subst ab;simp[cy,Act.eval,be,cZ]
 ·cases ab
inductive C1 where
 |int (k:IntKind)
 |bool
 |str
 |slice (e:Nat)
 |struct (dT:List (Nat×Nat))
 |map (k e:Nat)
 |other
 deriving nk
structure dG where
 size:Nat
 bytes:Nat
 kind:C1
 zero:aj
def C1.isAgg:C1->Bool
 | .struct _=>true
 |_=>false
def CU:List aj->List Value->Bool
 |[],[]=>true
 |p::cC,v::bc=>AB p v&&v.oneCell'&&CU cC bc
 |_,_=>false
def Am:aj->Value->Bool
 | .agg cs,.agg us=>CU cs us.toList
 | .agg _,_=>false
 |p,v=>AB p v&&v.oneCell'
def kX:C1->TypeDesc->Bool
 | .int k,.int bJ=>decide (k=bJ)
 | .bool,.bool=>true
 | .str,.string=>true
 | .slice e,.slice fJ=>e==fJ
 | .struct dT,.struct gs=>decide (gs.toList.map (fun f=>(f.offset,f.type))=dT)
 | .map k e,.map bJ fJ=>k==bJ&&e==fJ
 | .other,d=>match d with| .struct _| .array _ _| .int _| .bool| .string| .slice _=>false|_=>true
 |_,_=>false
def U6(P:cM)(gs:Array Field):Bool:=gs.toList.all fun f=>match P.underlying f.type with|some (.int _)=>true|some .string=>true|_=>false
def T5(P:cM)(t:Nat)(gs:Array Field):Bool:=gs.toList.all (fun f=>f.name != "_")&& !P.stoodInHeld t&& !P.eqGuardType P.depth t
def Lu(P:cM)(t:Nat):TypeDesc->Bool
 | .struct gs=> !U6 P gs||T5 P t gs
 |_=>true
def Qo(P:cM)(t:Nat)(f:dG):Bool:=
 match P.info? t,P.underlying t with
 |some i,some d=>Lu P t d&&i.size==f.size&&i.bytes==f.bytes&&kX f.kind d&&(match i.zero with|some z=>Am f.zero z&&z.cells.size==f.size|none=>false)
 |_,_=>false
def fX(P:cM)(bH:List (Nat×dG)):Bool:=bH.all fun x=>Qo P x.1 x.2
def er(bH:List (Nat×dG))(t:Nat):Option dG:=(bH.find? fun x=>x.1==t).map (·.2)
theorem ap8{P:cM}{bH:List (Nat×dG)}(h:fX P bH=true){t:Nat}{f:dG}(aO:er bH t=some f):Qo P t f=true:=by
 unfold er at aO;cases ab:bH.find? fun x=>x.1==t with
 |none=>simp[ab]at aO
 |some x=>simp[ab]at aO;have I:=List.find?_some ab;simp at I;have U:=List.mem_of_find?_eq_some ab;have ao:=fi.1 h x U;rw[<-aO,<-I];exact ao
structure acB (P:cM) (t:Nat) (f:dG):Prop where
 cmp:∀d,P.underlying t=some d->Lu P t d=true
 ex:∃i d z,P.info? t=some i/\P.underlying t=some d/\i.size=f.size/\i.bytes=f.bytes/\kX f.kind d=true/\i.zero=some z/\Am f.zero z=true/\z.cells.size=f.size
theorem wQ{P:cM}{bH:List (Nat×dG)}(h:fX P bH=true){t:Nat}{f:dG}(aO:er bH t=some f):acB P t f:=by
 have h:=ap8 h aO;unfold Qo at h;split at h
 ·rename_i i d I U;simp only[cv,dO]at h;obtain⟨⟨⟨⟨bB,ao⟩,a7⟩,b8⟩,c6⟩:=h;split at c6
  ·rename_i z a8;simp only[cv,dO]at c6;exact⟨fun cn kD=>by rw[U]at kD;cases kD;exact bB,i,d,z,I,U,ao,a7,b8,a8,c6.1,c6.2⟩
  ·cases c6
 ·cases h
theorem qc(b o j:Nat):(⟨b,o,none⟩:Addr).add j=⟨b,o+j,none⟩:=by
 unfold Addr.add;split
 ·rename_i h;subst h;rfl
 ·rfl
theorem Q2(w:World)(Z:bg):∀(cC:List aj) (bc:List Value),CU cC bc=true->dt w Z cC bc
 |[],[],_=>by simp[dt]
 |[],_::_,h=>by simp[CU]at h
 |_::_,[],h=>by simp[CU]at h
 |p::cC,v::bc,h=>by simp only[CU,cv]at h;simp only[dt];exact⟨v,bc,rfl,⟨K2 w Z h.1.1,h.1.2⟩,Q2 w Z cC bc h.2⟩
def cells:aj->List aj
 | .agg cs=>cs
 |p=>[p]
def e7:aj->Bool
 | .junk| .tuple _=>false
 | .cst (.slice _ _ _)| .cst (.string _)=>true
 | .cst _=>false
 |_=>true
theorem PQ{w:World}{Z:bg}{p:aj}{v:Value}(h:be w Z p v)(af:e7 p=true)(bk:∀cs,p≠ .agg cs):v.oneCell'=true/\v.cells= #[v]:=by
 cases p<;>simp only[be,e7]at h af;case junk=>cases af
 case tuple=>cases af
 case cst c=>subst h;cases v<;>first|exact⟨rfl,rfl⟩|cases af
 case agg cs=>exact absurd rfl (bk cs)
 case int=>subst h;exact⟨rfl,rfl⟩
 case bool=>subst h;exact⟨rfl,rfl⟩
 case str=>rw[h.1];exact⟨rfl,rfl⟩
 case slice=>obtain⟨⟨a,cap,I,_⟩,_⟩:=h;subst I;exact⟨rfl,rfl⟩
 case ptr=>obtain⟨b,_,I⟩:=h;subst I;exact⟨rfl,rfl⟩
 case eptr=>obtain⟨b,o,u,I,_⟩:=h;subst I;exact⟨rfl,rfl⟩
 case iface=>obtain⟨u,I,_⟩:=h;subst I;exact⟨rfl,rfl⟩
 case nilp=>subst h;exact⟨rfl,rfl⟩
 case func=>obtain⟨us,I,_⟩:=h;subst I;exact⟨rfl,rfl⟩
 case gmap=>obtain⟨b,_,I⟩:=h;subst I;exact⟨rfl,rfl⟩
 case row=>obtain⟨⟨a,cap,I⟩,_⟩:=h;subst I;exact⟨rfl,rfl⟩
 case rptr=>obtain⟨⟨a,o,I⟩,_⟩:=h;subst I;exact⟨rfl,rfl⟩
theorem wF{w:World}{Z:bg}{p:aj}{v:Value}(h:be w Z p v)(af:e7 p=true):dt w Z (cells p) v.cells.toList:=by
 by_cases bk:∃cs,p= .agg cs
 ·obtain⟨cs,rfl⟩:=bk;simp only[be]at h;obtain⟨us,rfl,U⟩:=h;simpa[cells,p5]using U
 ·have n7:∀cs,p≠ .agg cs:=fun cs e=>bk ⟨cs,e⟩;obtain⟨I,U⟩:=PQ h af n7;have aq:cells p=[p]:=by cases p<;>first|rfl|exact absurd rfl (n7 _)
  rw[aq,U];simp only[dt];exact⟨v,[],rfl,⟨h,I⟩,rfl⟩
theorem Cy{w:World}{Z:bg}:∀{cC:List aj} {bc:List Value},dt w Z cC bc->∀c∈bc,c.oneCell'=true
 |[],bc,h=>by simp only[dt]at h;subst h;simp
 |p::cC,bc,h=>by
  simp only[dt]at h;obtain⟨u,ck,rfl,I,U⟩:=h;intro c aq;rcases eU.1 aq with rfl|aq
  ·exact I.2
  ·exact Cy U c aq
theorem qE{w:World}{Z:bg}:∀{cC:List aj} {bc:List Value},dt w Z cC bc->bc.length=cC.length
 |[],bc,h=>by simp only[dt]at h;subst h;rfl
 |p::cC,bc,h=>by simp only[dt]at h;obtain⟨u,ck,rfl,_,U⟩:=h;simp[qE U]
theorem Cx{w:World}{Z:bg}:∀(n:Nat) {cC:List aj} {bc:List Value},dt w Z cC bc->dt w Z (cC.drop n) (bc.drop n)
 |0,_,_,h=>by simpa using h
 |n+1,[],bc,h=>by simp only[dt]at h;subst h;simp[dt]
 |n+1,p::cC,bc,h=>by simp only[dt]at h;obtain⟨u,ck,rfl,_,U⟩:=h;simpa using Cx n U
theorem Fs{w:World}{Z:bg}:∀(n:Nat) {cC:List aj} {bc:List Value},dt w Z cC bc->dt w Z (cC.take n) (bc.take n)
 |0,_,_,_=>by simp[dt]
 |n+1,[],bc,h=>by simp only[dt]at h;subst h;simp[dt]
 |n+1,p::cC,bc,h=>by simp only[dt]at h;obtain⟨u,ck,rfl,I,U⟩:=h;simp only[List.take_succ_cons,dt];exact⟨u,_,rfl,I,Fs n U⟩
theorem zS{w:World}{Z:bg}:∀{cC bu:List aj} {bc us:List Value},dt w Z cC bc->dt w Z bu us->dt w Z (cC++bu) (bc++us)
 |[],bu,bc,us,h,b4=>by simp only[dt]at h;subst h;simpa using b4
 |p::cC,bu,bc,us,h,b4=>by simp only[dt]at h;obtain⟨u,ck,rfl,I,U⟩:=h;simp only[bQ,dt];exact⟨u,_,rfl,I,zS U b4⟩
theorem Fq{w:World}{Z:bg}:∀(n:Nat) {cC:List aj} {bc:List Value} {p:aj},dt w Z cC bc->cC[n]? =some p->∃v,bc[n]? =some v/\be w Z p v/\v.oneCell'=true
 |n,[],_,p,_,bG=>by simp at bG
 |0,q::cC,bc,p,h,bG=>by simp only[dt]at h;obtain⟨u,ck,rfl,I,_⟩:=h;simp at bG;subst bG;exact⟨u,rfl,I.1,I.2⟩
 |n+1,q::cC,bc,p,h,bG=>by simp only[dt]at h;obtain⟨u,ck,rfl,_,U⟩:=h;simpa using Fq n U (by simpa using bG)
theorem Fu{w:World}{Z:bg}:∀(n:Nat) {cC:List aj} {bc:List Value} {p:aj},cZ w Z cC bc->cC[n]? =some p->∃v,bc[n]? =some v/\be w Z p v
 |n,[],_,p,_,bG=>by simp at bG
 |0,q::cC,bc,p,h,bG=>by simp only[cZ]at h;obtain⟨u,ck,rfl,I,_⟩:=h;simp at bG;subst bG;exact⟨u,rfl,I⟩
 |n+1,q::cC,bc,p,h,bG=>by simp only[cZ]at h;obtain⟨u,ck,rfl,_,U⟩:=h;simpa using Fu n U (by simpa using bG)
theorem v8{w:World}{A:Nat->Nat->Prop}{b:Nat}:∀{us:List Value} {off j:Nat} {u:Value},mE w A b off us->us[j]? =some u->A b (off+j)/\w.cell? ⟨b,off+j,none⟩=some u
 |[],_,_,_,_,h=>by simp at h
 |x::us,off,0,u,aw,h=>by simp at h;subst h;exact aw.1
 |x::us,off,j+1,u,aw,h=>by have:=v8 (j:=j) aw.2 (by simpa using h);rwa[show off+1+j=off+(j+1)from by omega]at this
theorem IF{w:World}{A:Nat->Nat->Prop}{b:Nat}:∀(n:Nat) {us:List Value} {off:Nat},mE w A b off us->mE w A b (off+n) (us.drop n)
 |0,_,_,h=>by simpa using h
 |n+1,[],_,_=>by simp[mE]
 |n+1,x::us,off,h=>by have:=IF n h.2;rw[show off+(n+1)=off+1+n from by omega];simpa using this
theorem IH{w:World}{A:Nat->Nat->Prop}{b:Nat}:∀(n:Nat) {us:List Value} {off:Nat},mE w A b off us->mE w A b off (us.take n)
 |0,_,_,_=>by simp[mE]
 |n+1,[],_,_=>by simp[mE]
 |n+1,x::us,off,h=>by simp only[List.take_succ_cons];exact⟨h.1,IH n h.2⟩
theorem apf{P:cM}{w:World}{A:Nat->Nat->Prop}{b off:Nat}{us:List Value}(h:mE w A b off us):(loadCells ⟨b,off,none⟩ us.length).run P w= .ok us.toArray w:=run_loadCells_list w _ us fun j v ag=>by rw[qc];exact(v8 h ag).2
theorem ape{P:cM}{w:World}{b off n:Nat}{us:Array Value}{el:hl}{fr:Nat×Nat}(h:w.heap[b]? =some (.cells us el fr))(au:off+n<=us.size):
  (loadCells ⟨b,off,none⟩ n).run P w= .ok ((us.toList.drop off).take n).toArray w:=by
 have aw:((us.toList.drop off).take n).length=n:=by simp;omega
 have:=run_loadCells_list (P:=P) w ⟨b,off,none⟩ ((us.toList.drop off).take n) fun j v ag=>by
  rw[qc];have aiP:j<n:=by have:=(fG.1 ag).1;omega
  simp only[World.cell?,h,je,hk,if_false];rw[List.getElem?_take]at ag;simpa[aiP]using ag
 rw[aw]at this;exact this
theorem Up{α:Type}(l r:List α)(n sz:Nat)(h:l.length=sz):(l++r).drop ((n+1)*sz)=r.drop (n*sz):=by
 have e:(n+1)*sz=l.length+n*sz:=by rw[h,Nat.succ_mul,Nat.add_comm]
 rw[e,<-List.drop_drop];simp
theorem aaX{α:Type}(l r:List α)(n sz:Nat)(h:l.length=sz):(l++r).take ((n+1)*sz)=l++r.take (n*sz):=by
 have e:(n+1)*sz=l.length+n*sz:=by rw[h,Nat.succ_mul,Nat.add_comm]
 rw[e,List.take_length_add_append]
theorem JD{w:World}{Z:bg}{sz:Nat}:∀(i:Nat) {xs:List aj} {us:List Value} {p:aj},dK w Z sz xs us->xs[i]? =some p->
  ∃u,be w Z p u/\u.cells.size=sz/\u.cells.toList=(us.drop (i*sz)).take sz
 |i,[],_,p,_,bG=>by simp at bG
 |0,x::xs,us,p,h,bG=>by
  simp only[dK]at h;obtain⟨u,ck,rfl,⟨I,U,ao⟩,_⟩:=h;simp at bG;subst bG;refine⟨u,I,U,?_⟩;have:u.cells.toList.length=sz:=by simpa using U
  simp[<-this]
 |i+1,x::xs,us,p,h,bG=>by
  simp only[dK]at h;obtain⟨u,ck,rfl,⟨_,U,_⟩,b8⟩:=h;obtain⟨v,g1,g2,g3⟩:=JD i b8 (by simpa using bG);refine⟨v,g1,g2,?_⟩;have:u.cells.toList.length=sz:=by simpa using U
  rw[g3,Up _ _ _ _ this]
theorem uY{w:World}{Z:bg}{sz:Nat}:∀{xs:List aj} {us:List Value},dK w Z sz xs us->us.length=xs.length*sz
 |[],us,h=>by simp only[dK]at h;subst h;simp
 |x::xs,us,h=>by
  simp only[dK]at h;obtain⟨u,ck,rfl,⟨_,U,_⟩,b8⟩:=h;have:u.cells.toList.length=sz:=by simpa using U
  rw[pn,this,uY b8,mM,Nat.succ_mul];omega
theorem zR{w:World}{Z:bg}{sz:Nat}:∀{xs:List aj} {us:List Value},dK w Z sz xs us->∀c∈us,c.oneCell'=true
 |[],us,h=>by simp only[dK]at h;subst h;simp
 |x::xs,us,h=>by
  simp only[dK]at h;obtain⟨u,ck,rfl,⟨_,_,ao⟩,b8⟩:=h;intro c aq;rcases h3.1 aq with aq|aq
  ·exact ao c aq
  ·exact zR b8 c aq
theorem Fp{w:World}{Z:bg}{sz:Nat}:∀{cC bu:List aj} {bc us:List Value},dK w Z sz cC bc->dK w Z sz bu us->dK w Z sz (cC++bu) (bc++us)
 |[],bu,bc,us,h,b4=>by simp only[dK]at h;subst h;simpa using b4
 |p::cC,bu,bc,us,h,b4=>by simp only[dK]at h;obtain⟨u,ck,rfl,I,U⟩:=h;simp only[bQ,dK];exact⟨u,ck++us,Ψ,I,Fp U b4⟩
theorem aai{w:World}{Z:bg}{sz:Nat}:∀(n:Nat) {xs:List aj} {us:List Value},dK w Z sz xs us->dK w Z sz (xs.drop n) (us.drop (n*sz))
 |0,_,_,h=>by simpa using h
 |n+1,[],us,h=>by simp only[dK]at h;subst h;simp[dK]
 |n+1,x::xs,us,h=>by
  simp only[dK]at h;obtain⟨u,ck,rfl,⟨_,U,_⟩,b8⟩:=h;have:u.cells.toList.length=sz:=by simpa using U
  rw[Up _ _ _ _ this];simpa using aai n b8
theorem aal{w:World}{Z:bg}{sz:Nat}:∀(n:Nat) {xs:List aj} {us:List Value},dK w Z sz xs us->dK w Z sz (xs.take n) (us.take (n*sz))
 |0,_,_,_=>by simp[dK]
 |n+1,[],us,h=>by simp only[dK]at h;subst h;simp[dK]
 |n+1,x::xs,us,h=>by
  simp only[dK]at h;obtain⟨u,ck,rfl,⟨I,U,ao⟩,b8⟩:=h;have:u.cells.toList.length=sz:=by simpa using U
  simp only[List.take_succ_cons,dK];refine⟨u,ck.take (n*sz),?_,⟨I,U,ao⟩,aal n b8⟩;rw[aaX _ _ _ _ this]
def isAgg(sz:Nat)(p:aj):Prop:= ∃cs,p= .agg cs/\cs.length=sz
def zW(agg:Bool)(sz dN n i f:Nat):Option fU->Option (Prop×aj)
 |some ⟨n',_,j4,some xs⟩=>if n'=n/\j4=dN then
   (match xs[i]? with
    |some p=>if agg then some (e7 p=true/\f+sz<=(cells p).length,.agg (((cells p).drop f).take sz))else((cells p)[f]?).map fun q=>(e7 p=true,q)
    |none=>none)else none
 |_=>none
def nL(b:List (aM×List aj))(e:List (aM×fU))(agg:Bool)(sz:Nat):aj->Option (Prop×aj)
 | .rptr dN k n i f=>zW agg sz dN n i f (look k e)
 | .ptr k off=>
  match look k b with
  |some cs=>if agg then some (iq cs=true/\off+sz<=cs.length,.agg ((cs.drop off).take sz))else(cs[off]?).map fun p=>(iq cs=true,p)
  |none=>none
 | .eptr p=>if agg then some (isAgg sz p,p)else some (e7 p=true/\cells p=[p],p)
 |_=>none
def DE(agg:Bool)(sz:Nat):aj->Option (Prop×aj)
 | .eptr p=>if agg then some (isAgg sz p,p)else some (e7 p=true/\cells p=[p],p)
 |_=>none
theorem agZ{b:List (aM×List aj)}{e:List (aM×fU)}{agg:Bool}{sz:Nat}{p:aj}{r:Prop×aj}(h:DE agg sz p=some r):nL b e agg sz p=some r:=by
 cases p<;>simp only[DE]at h<;>first|cases h;done|skip
 simpa only[nL]using h
theorem ak0{b:List (aM×List aj)}{e:List (aM×fU)}{agg:Bool}{sz:Nat}{p:aj}{r:Prop×aj}(h:nL b [] agg sz p=some r):nL b e agg sz p=some r:=by cases p<;>simp only[nL]at h⊢ <;>first|exact h|(simp[look,zW]at h)
def sE(off:Nat)(agg:Bool)(sz:Nat):aj->Option (Prop×aj)
 | .ptr k o=>some (True,.ptr k (o+off))
 | .rptr dN k n i f=>some (True,.rptr dN k n i (f+off))
 | .eptr (.agg cs)=>if agg then some (off+sz<=cs.length,.eptr (.agg ((cs.drop off).take sz)))else(cs[off]?).map fun p=>(e7 p=true/\cells p=[p],.eptr p)
 |_=>none
def vx(off:Nat)(agg:Bool)(sz:Nat):aj->Option (Prop×aj)
 | .agg cs=>if agg then some (off+sz<=cs.length,.agg ((cs.drop off).take sz))else(cs[off]?).map fun p=>(True,p)
 |_=>none
def BC(sz:Nat):aj->aj->Option (Prop×aj)
 | .slice dN _ xs,.int _ i=>if dN=sz then some (0<=i/\i<xs.length,.eptr (xs.getD i.toNat .junk))else none
 | .row dN k n,.int _ i=>if dN=sz then some (0<=i/\i<n,.rptr dN k n i.toNat 0)else none
 |_,_=>none
def JZ:aj->aj->Option (Prop×aj)
 | .str s,.int _ i=>some (0<=i/\i<s.length,.int .u8 (s.getD i.toNat 0).toNat)
 |_,_=>none
def r4(G7:Int):Option aj->Option Int
 |none=>some G7
 |some (.int _ i)=>some i
 |_=>none
def J5(x:aj)(lo hi:Option aj):Option (Prop×aj):=
 match x with
 | .str s=>match r4 0 lo,r4 s.length hi with
  |some l,some h=>some (0<=l/\l<=h/\h<=s.length,.str ((s.take h.toNat).drop l.toNat))
  |_,_=>none
 |_=>none
def IM(sz:Nat)(x:aj)(lo hi:Option aj):Option (Prop×aj):=
 match x with
 | .slice dN _ xs=>if dN=sz then match r4 0 lo,r4 xs.length hi with
  |some l,some h=>some (0<=l/\l<=h/\h<=xs.length,.slice sz .no ((xs.take h.toNat).drop l.toNat))
  |_,_=>none else none
 |_=>none
def pQ(n:Int):Prop:= -9223372036854775808<=n/\n<=9223372036854775807
def cp(op:BinOp)(wr:Bool)(k:IntKind)(a b:Int):Option (Prop×aj):=
 match op with
 | .add=>if wr then some (True,.int k (k.wrap (a+b)))else some (k= .i64/\pQ (a+b),.int .i64 (a+b))
 | .sub=>if wr then some (True,.int k (k.wrap (a-b)))else some (k= .i64/\pQ (a-b),.int .i64 (a-b))
 | .mul=>if wr then some (True,.int k (k.wrap (a*b)))else some (k= .i64/\pQ (a*b),.int .i64 (a*b))
 | .quo=>some (b≠0,.int k (k.wrap (a.tdiv b)))
 | .rem=>some (b≠0,.int k (a.tmod b))
 | .eql=>some (True,.bool (a==b))
 | .neq=>some (True,.bool (a !=b))
 | .lss=>some (True,.bool (decide (a<b)))
 | .leq=>some (True,.bool (decide (a<=b)))
 | .gtr=>some (True,.bool (decide (b<a)))
 | .geq=>some (True,.bool (decide (b<=a)))
 | .and=>some (True,.int k (k.wrap (mL k.bits a&&& mL k.bits b).toNat))
 | .or=>some (True,.int k (k.wrap (mL k.bits a|||mL k.bits b).toNat))
 | .xor=>some (True,.int k (k.wrap (mL k.bits a ^^^ mL k.bits b).toNat))
 |_=>none
def J6(op:BinOp)(a b:List UInt8):Option (Prop×aj):=
 match op with
 | .add=>some (a.length+b.length<=lim,.str (a++b))
 | .eql=>some (True,.bool (a==b))
 | .neq=>some (True,.bool (!(a==b)))
 | .lss=>some (True,.bool (h2 a b))
 | .leq=>some (True,.bool (h2 a b||a==b))
 | .gtr=>some (True,.bool (!(h2 a b||a==b)))
 | .geq=>some (True,.bool (!h2 a b))
 |_=>none
def b9(op:BinOp)(wr:Bool):aj->aj->Option (Prop×aj)
 | .int k a,.int bJ b=>match op with
  | .shl=>some (0<=b,.int k (k.wrap (a*2 ^ (min b.toNat k.bits))))
  | .shr=>some (0<=b,.int k (a.fdiv (2 ^ (min b.toNat k.bits))))
  |_=>if k=bJ then cp op wr k a b else none
 | .str a,.str b=>J6 op a b
 |_,_=>none
def pa(cs:List aj)(off:Nat)(cC:List aj):List aj:=cs.take off++cC++cs.drop (off+cC.length)
def vp(t:List (Nat×aj)):List aj->List (Nat×Nat×dA)->Option (Prop×List aj)
 |cs,[]=>some (True,cs)
 |cs,(off,sz,x)::r=>
  let p:=cy t x
  match vp t (pa cs off (cells p)) r with
  |some (c,cs')=>some ((e7 p=true/\(cells p).length=sz/\off+sz<=cs.length)/\c,cs')
  |none=>none
def Jd(c x y:aj):Option (Prop×aj):=
 match c with
 | .bool b=>match x,y with
  | .bool u,.bool v=>some (True,.bool (cond b u v))
  |p,q=>match b with
   |true=>some (True,p)
   |false=>some (True,q)
 |_=>none
def I3:aj->Option (Prop×aj)
 | .bool b=>some (True,.bool (!b))
 |_=>none
def IZ:aj->Option (Prop×aj)
 | .int k n=>some (True,.int k (k.wrap (0-n)))
 |_=>none
def AS(i:Nat):aj->Option (Prop×aj)
 | .tuple bc=>(bc[i]?).map fun p=>(True,p)
 |_=>none
def BO:aj->Option (Prop×aj)
 | .slice _ _ xs=>some (True,.int .i64 xs.length)
 | .row _ _ n=>some (True,.int .i64 n)
 | .cst (.slice _ n _)=>some (True,.int .i64 n)
 |_=>none
def FJ:aj->Option (Prop×aj)
 | .str s=>some (True,.int .i64 s.length)
 | .cst (.string s)=>some (True,.int .i64 s.size)
 |_=>none
def G2(k:IntKind):aj->Option (Prop×aj)
 | .int _ n=>some (True,.int k (k.wrap n))
 |_=>none
def B1:aj->Option (Prop×aj)
 | .ptr k o=>some (True,.ptr k o)
 | .eptr p=>some (True,.eptr p)
 | .func f cs=>some (True,.func f cs)
 |_=>none
def IX:aj->aj->Option (Prop×aj)
 | .int k a,.int bJ b=>if k=bJ then some (True,.int k (if b<a then b else a))else none
 |_,_=>none
def kW:List Bool->List aj->List aj->Option Bool
 |[],[],[]=>some true
 |false::r,.int k a::as,.int bJ b::e9=>if k=bJ then(kW r as e9).map fun q=>(a==b)&&q else none
 |true::r,.str a::as,.str b::e9=>(kW r as e9).map fun q=>(a==b)&&q
 |_,_,_=>none
inductive kn where
 |i
 |s
 |a (dT:List Bool)
 deriving nk
def rW:kn->aj->aj->Option Bool
 | .i,.int k a,.int bJ b=>if k=bJ then some (a==b)else none
 | .s,.str a,.str b=>some (a==b)
 | .a dT,.agg as,.agg e9=>kW dT as e9
 |_,_,_=>none
def vV:kn->aj->Bool
 | .a dT,.agg as=>(kW dT as as).isSome
 | .a _,_=>false
 |_,_=>true
@[simp]theorem Xq(k:aj):vV .i k=true:=by cases k<;>rfl
@[simp]theorem Xr(k:aj):vV .s k=true:=by cases k<;>rfl
def uR(cj:kn)(k:aj):List aj->Option (Option aj)
 |bJ::v::r=>match rW cj k bJ with
  |some true=>some (some v)
  |some false=>uR cj k r
  |none=>none
 |_=>some none
def nN(b:aM->Option (List aj))(cj:kn)(zero:aj)(ok:Bool)(x k:aj):Option (Prop×aj):=
 match x with
 | .gmap key=>match b key with
  |some (.hdm _ _::kvs)=>if vV cj k=false then none else match uR cj k kvs with
   |some (some v)=>some (True,if ok then .tuple [v,.bool true]else v)
   |some none=>some (True,if ok then .tuple [zero,.bool false]else zero)
   |none=>none
  |_=>none
 |_=>none
def B0(b:aM->Option (List aj))(x:aj):Option (Prop×aj):=
 match x with
 | .gmap key=>match b key with
  |some (.hdm _ borns::_)=>some (True,.int .i64 borns.length)
  |_=>none
 |_=>none
def jj(neg:Bool):Option (List Bool)->aj->aj->Option (Prop×aj)
 |none,.bool a,.bool b=>some (True,.bool (if neg then a !=b else a==b))
 |some dT,.agg as,.agg e9=>(kW dT as e9).map fun q=>(True,.bool (if neg then !q else q))
 |_,_,_=>none
def IT:aj->aj->Option (Prop×aj)
 | .int k a,.int bJ b=>if k=bJ then some (True,.int k (if a<b then b else a))else none
 |_,_=>none
def ti(cj:kn)(k v:aj):List aj->Option (Option (List aj))
 |bJ::v'::r=>match rW cj k bJ with
  |some true=>some (some (k::v::r))
  |some false=>match ti cj k v r with
   |some (some e2)=>some (some (bJ::v'::e2))
   |some none=>some none
   |none=>none
  |none=>none
 |_=>some none
def nM(n:Nat):List Nat->List aj->Option aj
 |b::e9,k::v::r=>if b=n then some (.tuple [k,v])else nM n e9 r
 |_,_=>none
def qy(b:aM->Option (List aj))(x:aj):Option (Prop×aj):=
 match x with
 | .ptr fL 0=>match b fL with
  |some [.hdi _ seen last,.gmap mk]=>match b mk with
   |some (.hdm clock borns::kvs)=>match seen.getLast? with
    |some n=>(nM n borns kvs).map fun p=>(clock=last,p)
    |none=>none
   |_=>none
  |_=>none
 |_=>none
theorem X8{f g:aM->Option (List aj)}(h:∀k,f k≠none->g k=f k){cj:kn}{zero:aj}{ok:Bool}{x k:aj}{r:Prop×aj}(he:nN f cj zero ok x k=some r):nN g cj zero ok x k=some r:=by
 unfold nN at he⊢;split at he
 ·rename_i key;cases aO:f key with
  |none=>simp[aO]at he
  |some cs=>rw[h key (by rw[aO];simp),aO];rw[aO]at he;exact he
 ·cases he
theorem alw{f g:aM->Option (List aj)}(h:∀k,f k≠none->g k=f k){x:aj}{r:Prop×aj}(he:B0 f x=some r):B0 g x=some r:=by
 unfold B0 at he⊢;split at he
 ·rename_i key;cases aO:f key with
  |none=>simp[aO]at he
  |some cs=>rw[h key (by rw[aO];simp),aO];rw[aO]at he;exact he
 ·cases he
theorem alc{f g:aM->Option (List aj)}(h:∀k,f k≠none->g k=f k){x:aj}{r:Prop×aj}(he:qy f x=some r):qy g x=some r:=by
 unfold qy at he⊢;split at he
 ·rename_i fL;cases aO:f fL with
  |none=>simp[aO]at he
  |some cs=>
   simp only[h fL (by rw[aO];simp),aO]at he⊢;split at he
   ·rename_i since seen last mk dj;cases vH:f mk with
    |none=>simp[vH]at he
    |some e4=>simp only[h mk (by rw[vH];simp),vH]at he⊢;exact he
   ·cases he
 ·cases he
inductive gk where
 |mov (x:dA)
 |pick (c x y:dA)
 |load (agg:Bool) (sz:Nat) (x:dA)
 |faddr (off:Nat) (agg:Bool) (sz:Nat) (x:dA)
 |fld (off:Nat) (agg:Bool) (sz:Nat) (x:dA)
 |iaddr (sz:Nat) (x i:dA)
 |sidx (x i:dA)
 |ssl (x:dA) (lo hi:Option dA)
 |lsl (sz:Nat) (x:dA) (lo hi:Option dA)
 |bin (op:BinOp) (wr:Bool) (x y:dA)
 |notB (x:dA)
 |neg (x:dA)
 |conv (k:IntKind) (x:dA)
 |ext (i:Nat) (x:dA)
 |len (x:dA)
 |slen (x:dA)
 |build (zero:List aj) (parts:List (Nat×Nat×dA))
 |nck (x:dA)
 |min2 (x y:dA)
 |mkf (n:Nat) (xs:List dA)
 |mget (cj:kn) (zero:aj) (ok:Bool) (x k:dA)
 |ment (x:dA)
 |mlen (x:dA)
 |beq (neg:Bool) (dT:Option (List Bool)) (x y:dA)
 |max2 (x y:dA)
 |mkif (t:Nat) (x:dA)
 |loadB (agg:Bool) (sz:Nat) (x:dA)
 |mgetB (cj:kn) (zero:aj) (ok:Bool) (x k:dA)
 |loadZ (agg:Bool) (sz:Nat) (x:dA)
def hQ(st:bt):gk->Option (Prop×aj)
 | .mov x=>some (True,cy st.t x)
 | .pick c x y=>Jd (cy st.t c) (cy st.t x) (cy st.t y)
 | .load agg sz x=>nL st.b st.e agg sz (cy st.t x)
 | .faddr off agg sz x=>sE off agg sz (cy st.t x)
 | .fld off agg sz x=>vx off agg sz (cy st.t x)
 | .iaddr sz x i=>BC sz (cy st.t x) (cy st.t i)
 | .sidx x i=>JZ (cy st.t x) (cy st.t i)
 | .ssl x lo hi=>J5 (cy st.t x) (lo.map (cy st.t)) (hi.map (cy st.t))
 | .lsl sz x lo hi=>IM sz (cy st.t x) (lo.map (cy st.t)) (hi.map (cy st.t))
 | .bin op wr x y=>b9 op wr (cy st.t x) (cy st.t y)
 | .notB x=>I3 (cy st.t x)
 | .neg x=>IZ (cy st.t x)
 | .conv k x=>G2 k (cy st.t x)
 | .ext i x=>AS i (cy st.t x)
 | .len x=>BO (cy st.t x)
 | .slen x=>FJ (cy st.t x)
 | .build zero parts=>(vp st.t zero parts).map fun(c,cs)=>(c,.agg cs)
 | .nck x=>B1 (cy st.t x)
 | .min2 x y=>IX (cy st.t x) (cy st.t y)
 | .mkf n xs=>some (True,.func n (xs.map (cy st.t)))
 | .mget cj zero ok x k=>nN (fun k=>look k st.b) cj zero ok (cy st.t x) (cy st.t k)
 | .ment x=>qy (fun k=>look k st.b) (cy st.t x)
 | .mlen x=>B0 (fun k=>look k st.b) (cy st.t x)
 | .beq neg dT x y=>jj neg dT (cy st.t x) (cy st.t y)
 | .max2 x y=>IT (cy st.t x) (cy st.t y)
 | .mkif t x=>some (True,.iface t (cy st.t x))
 | .loadB agg sz x=>nL st.b [] agg sz (cy st.t x)
 | .mgetB cj zero ok x k=>nN (fun k=>look k st.b) cj zero ok (cy st.t x) (cy st.t k)
 | .loadZ agg sz x=>DE agg sz (cy st.t x)
def Ce(bH:List (Nat×dG))(dT:List (Nat×Nat)):List (Nat×Nat×dA)->List (Nat×Operand)->Bool
 |[],[]=>true
 |(off,sz,x)::r,(i,o)::s=>(match dT[i]? with|some (xR,t)=>off==xR&&((er bH t).map (·.size))==some sz|none=>false)&&ey x o&&Ce bH dT r s
 |_,_=>false
def Kt:aj->aj->Bool
 | .int k n,.int bJ n'=>decide (k=bJ/\n=n')
 | .bool b,.bool b3=>b==b3
 | .str [],.str []=>true
 | .slice a .nil [],.slice b .nil []=>a==b
 | .nilp,.nilp=>true
 | .junk,.junk=>true
 |_,_=>false
def Al:List aj->List aj->Bool
 |[],[]=>true
 |c::cs,d::e4=>Kt c d&&Al cs e4
 |_,_=>false
def CV:aj->aj->Bool
 | .agg cs,.agg e4=>Al cs e4
 | .agg _,_=>false
 |p,q=>Kt p q
def zI:List dA->List Operand->Bool
 |[],[]=>true
 |x::xs,o::os=>ey x o&&zI xs os
 |_,_=>false
def AZ(bH:List (Nat×dG)):Nat->List Bool->List (Nat×Nat)->Bool
 |_,[],[]=>true
 |n,b::r,(off,t)::dT=>off==n&&(match er bH t with|some ⟨_,_,.int _,_⟩=> !b|some ⟨_,_,.str,_⟩=>b|_=>false)&&AZ bH (n+1) r dT
 |_,_,_=>false
def Hl(bH:List (Nat×dG))(dT:List Bool)(t:Nat):Bool:=match er bH t with
 |some ⟨_,_,.struct gs,_⟩=>AZ bH 0 dT gs
 |_=>false
def zo(bH:List (Nat×dG))(cj:kn)(t:Nat):Bool:=match cj with
 | .i=>(match er bH t with|some ⟨_,_,.int _,_⟩=>true|_=>false)
 | .s=>(match er bH t with|some ⟨_,_,.str,_⟩=>true|_=>false)
 | .a dT=>Hl bH dT t
def Q5:List aj->aj->Bool
 |cs,.agg e4=>Al cs e4
 |_,_=>false
def xT:Option dA->Option Operand->Bool
 |none,none=>true
 |some x,some o=>ey x o
 |_,_=>false
def FU(bH:List (Nat×dG)):gk->Op->Bool
 | .mov x,.move o=>ey x o
 | .mov x,.assign o=>ey x o
 | .pick c x y,.pick cr QY QZ=>ey c cr&&ey x QY&&ey y QZ
 | .load agg sz x,.load t o=>(match er bH t with|some f=>f.size==sz&&f.kind.isAgg==agg|none=>false)&&ey x o
 | .faddr off agg sz x,.fieldAddr s o i=>
  (match er bH s with
   |some ⟨_,_,.struct dT,_⟩=>(match dT[i]? with|some (xR,t)=>off==xR&&(match er bH t with|some f=>f.size==sz&&f.kind.isAgg==agg&&sz !=0|none=>false)|none=>false)
   |_=>false)&&ey x o
 | .fld off agg sz x,.field s o i=>
  (match er bH s with
   |some ⟨_,_,.struct dT,_⟩=>(match dT[i]? with|some (xR,t)=>off==xR&&(match er bH t with|some f=>f.size==sz&&f.kind.isAgg==agg|none=>false)|none=>false)
   |_=>false)&&ey x o
 | .iaddr sz x i,.indexAddr t o j=>(match er bH t with|some ⟨_,_,.slice e,_⟩=>(match er bH e with|some f=>f.size==sz|none=>false)|_=>false)&&ey x o&&ey i j
 | .sidx x i,.index t o j=>(match er bH t with|some ⟨_,_,.str,_⟩=>true|_=>false)&&ey x o&&ey i j
 | .ssl x lo hi,.slice t o l h none=>(match er bH t with|some ⟨_,_,.str,_⟩=>true|_=>false)&&ey x o&&xT lo l&&xT hi h
 | .lsl sz x lo hi,.slice t o l h none=>(match er bH t with|some ⟨_,_,.slice e,_⟩=>(match er bH e with|some f=>f.size==sz|none=>false)|_=>false)&&ey x o&&xT lo l&&xT hi h
 | .bin op _ x y,.binOp Y1 _ o o' _=>decide (op=Y1)&&ey x o&&ey y o'
 | .notB x,.unOp op _ o=>decide (op= .not)&&ey x o
 | .neg x,.unOp op _ o=>decide (op= .neg)&&ey x o
 | .conv k x,.convert s d o=>(match er bH s,er bH d with|some ⟨_,_,.int _,_⟩,some ⟨_,_,.int bJ,_⟩=>decide (k=bJ)|_,_=>false)&&ey x o
 | .ext i x,.extract o j=>i==j&&ey x o
 | .len x,.call ⟨.builtin .len,⟨[o]⟩,⟨[t]⟩⟩=>(match er bH t with|some ⟨_,_,.slice _,_⟩=>true|_=>false)&&ey x o
 | .slen x,.call ⟨.builtin .len,⟨[o]⟩,⟨[t]⟩⟩=>(match er bH t with|some ⟨_,_,.str,_⟩=>true|_=>false)&&ey x o
 | .build zero parts,.build t cC=>(match er bH t with|some ⟨_,_,.struct dT,z⟩=>Q5 zero z&&(dT.all fun x=>(er bH x.2).isSome)&&Ce bH dT parts cC.toList|_=>false)
 | .nck x,.nilCheck o=>ey x o
 | .min2 x y,.call ⟨.builtin .min,⟨[o,o']⟩,⟨[_,_]⟩⟩=>ey x o&&ey y o'
 | .mkf n xs,.makeFunc (.func m) ⟨[]⟩ os=>n==m&&zI xs os.toList
 | .mget cj zero ok x k,.lookup t o o' I4=>ok==I4&&(match er bH t with|some ⟨_,_,.map nK qm,_⟩=>zo bH cj nK&&(match er bH qm with|some f=>CV zero f.zero|none=>false)|_=>false)&&ey x o&&ey k o'
 | .ment x,.entry o=>ey x o
 | .mlen x,.call ⟨.builtin .len,⟨[o]⟩,⟨[t]⟩⟩=>(match er bH t with|some ⟨_,_,.map _ _,_⟩=>true|_=>false)&&ey x o
 | .beq neg dT x y,.binOp op t o o' _=>decide (op=if neg then .neq else .eql)&&(match dT with|none=>(match er bH t with|some ⟨_,_,.bool,_⟩=>true|_=>false)|some dT=>Hl bH dT t)&&ey x o&&ey y o'
 | .max2 x y,.call ⟨.builtin .max,⟨[o,o']⟩,⟨[_,_]⟩⟩=>ey x o&&ey y o'
 | .mkif t x,.makeInterface dH o=>t==dH&&(match er bH t with|some ⟨_,_,.slice _,_⟩=>true|_=>false)&&ey x o
 | .loadB agg sz x,.load t o=>(match er bH t with|some f=>f.size==sz&&f.kind.isAgg==agg|none=>false)&&ey x o
 | .loadZ agg sz x,.load t o=>(match er bH t with|some f=>f.size==sz&&f.kind.isAgg==agg|none=>false)&&ey x o
 | .mgetB cj zero ok x k,.lookup t o o' I4=>ok==I4&&(match er bH t with|some ⟨_,_,.map nK qm,_⟩=>zo bH cj nK&&(match er bH qm with|some f=>CV zero f.zero|none=>false)|_=>false)&&ey x o&&ey k o'
 |_,_=>false
end
section
open Go Go.RowKit
theorem LN(P:cM)(w:World)(op:BinOp)(t:hl)(x y:Operand)(k bJ:IntKind)(m n:Int):(eqGuard op t x y (.int k m) (.int bJ n)).run P w= .ok () w:=by cases op<;>rfl
theorem adO(P:cM)(w:World)(op:BinOp)(t:hl)(x y:Operand)(m n:ByteArray):(eqGuard op t x y (.string m) (.string n)).run P w= .ok () w:=by cases op<;>rfl
theorem aqa(l:List UInt8):(⟨l.toArray⟩:ByteArray).toList=l:=by simp
theorem acW(a b:List UInt8):(⟨a.toArray⟩:ByteArray)++(⟨b.toArray⟩:ByteArray)=⟨(a++b).toArray⟩:=by apply arD;simp
theorem aeK(a:List UInt8)(l h:Nat):(⟨a.toArray⟩:ByteArray).extract l h=⟨((a.take h).drop l).toArray⟩:=by apply arD;simp[List.drop_take]
theorem FI(a:List UInt8):(⟨a.toArray⟩:ByteArray).size=a.length:=by simp[avZ]
section
variable {P:cM} {w:World} {r:Sem Value}
theorem sG{k:IntKind}{x:Int}(h:r.run P w= .ok (.int k x) w):∃v,r.run P w= .ok v w/\∀Z,be w Z (.int k x) v:=⟨_,h,fun Z=>by simp[be]⟩
theorem Vy{x:Bool}(h:r.run P w= .ok (.bool x) w):∃v,r.run P w= .ok v w/\∀Z,be w Z (.bool x) v:=⟨_,h,fun Z=>by simp[be]⟩
end
theorem aka(P:cM)(w:World){op:BinOp}{wr:Bool}{k:IntKind}{a b:Int}{c:Prop}{p:aj}(he:cp op wr k a b=some (c,p))(aq:c)(t:hl):
  ∃v,(binOp op t (.int k a) (.int k b)).run P w= .ok v w/\∀Z,be w Z p v:=by
 cases op<;>simp only[cp]at he;case add=>
  cases wr<;>simp only[if_true,hk,if_false]at he<;>cases he
  ·obtain⟨rfl,h⟩:=aq;exact sG (by simp[binOp,Op.intArith,nl _ h])
  ·exact sG (by simp[binOp,Op.intArith])
 case sub=>
  cases wr<;>simp only[if_true,hk,if_false]at he<;>cases he
  ·obtain⟨rfl,h⟩:=aq;exact sG (by simp[binOp,Op.intArith,nl _ h])
  ·exact sG (by simp[binOp,Op.intArith])
 case mul=>
  cases wr<;>simp only[if_true,hk,if_false]at he<;>cases he
  ·obtain⟨rfl,h⟩:=aq;exact sG (by simp[binOp,Op.intArith,nl _ h])
  ·exact sG (by simp[binOp,Op.intArith])
 case quo=>cases he;exact sG (by simp[binOp,Op.intDiv,aq])
 case rem=>cases he;exact sG (by simp[binOp,Op.intDiv,aq])
 case and=>cases he;exact sG (by simp only[binOp,Op.intBits,ne_eq,not_true_eq_false,if_false,gI])
 case or=>cases he;exact sG (by simp only[binOp,Op.intBits,ne_eq,not_true_eq_false,if_false,gI])
 case xor=>cases he;exact sG (by simp only[binOp,Op.intBits,ne_eq,not_true_eq_false,if_false,gI])
 all_goals cases he
 all_goals exact Vy (by simp only[binOp,Op.intCmp,ne_eq,not_true_eq_false,if_false,gI,gt_iff_lt,ge_iff_le])
theorem apW(P:cM)(w:World){op:BinOp}{a b:List UInt8}{c:Prop}{p:aj}(he:J6 op a b=some (c,p))(aq:c)(t:hl):
  ∃v,(binOp op t (.string ⟨a.toArray⟩) (.string ⟨b.toArray⟩)).run P w= .ok v w/\∀Z,be w Z p v:=by
 cases op<;>simp only[J6]at he;case add=>
  cases he;refine⟨.string ⟨(a++b).toArray⟩,?_,fun Z=>by simp only[be];exact⟨trivial,by simpa using aq⟩⟩;have I:¬(((⟨a.toArray⟩:ByteArray).size+(⟨b.toArray⟩:ByteArray).size:Nat):Int)>nR.max:=by
   have:nR.max=9223372036854775807:=by decide
   rw[this,FI,FI];simp only[lim]at aq;omega
  simp only[binOp,Op.stringOp,I,if_false,gI,acW]
 all_goals cases he
 all_goals exact Vy (by simp only[binOp,Op.stringOp,aqa,gI])
theorem adb(P:cM)(w:World)(Z:bg){op:BinOp}{wr:Bool}{x y:aj}{c:Prop}{p:aj}(he:b9 op wr x y=some (c,p))(aq:c)(t:hl){u v:Value}(hu:be w Z x u)(az:be w Z y v)(o o':Operand):
  ∃r,(do eqGuard op t o o' u v;binOp op t u v).run P w= .ok r w/\be w Z p r:=by
 unfold b9 at he;split at he
 ·rename_i k a bJ b;simp only[be]at hu az;subst hu;subst az;split at he
  ·cases he;refine⟨_,?_,by simp[be];rfl⟩;simp[binOp,Op.shift,LN,Int.not_lt.2 aq]
  ·cases he;refine⟨_,?_,by simp[be];rfl⟩;simp[binOp,Op.shift,LN,Int.not_lt.2 aq]
  ·split at he
   ·rename_i ae;subst ae;obtain⟨r,I,U⟩:=aka P w he aq t;exact⟨r,by simp[LN,I],U Z⟩
   ·cases he
 ·simp only[be]at hu az;rw[hu.1,az.1];obtain⟨r,I,U⟩:=apW P w he aq t;exact⟨r,by simp[adO,I],U Z⟩
 ·cases he
theorem L9{w:World}{Z:bg}:∀(v:List Value) (i off:Nat) (cs:Array Value),off+i+v.length<=cs.size->
  ((v.zipIdx i).foldl (fun cs (x:Value×Nat)=>cs.setIfInBounds (off+x.2) x.1) cs).toList=cs.toList.take (off+i)++v++cs.toList.drop (off+i+v.length)
 |[],i,off,cs,_=>by simp
 |u::v,i,off,cs,h=>by
  simp only[List.zipIdx_cons,List.foldl_cons];rw[L9 (w:=w) (Z:=Z) v (i+1) off _ (by simp at h⊢;omega)];have bD:off+i<cs.toList.length:=by simp at h⊢;omega
  simp only[Array.toList_setIfInBounds];have ar:(cs.toList.set (off+i) u).take (off+(i+1))=cs.toList.take (off+i)++[u]:=by rw[show off+(i+1)=(off+i)+1 from by omega,List.take_succ_eq_append_getElem (by simpa using bD)];simp[List.take_set_of_le (eo _)]
  have aE:(cs.toList.set (off+i) u).drop (off+(i+1)+v.length)=cs.toList.drop (off+i+(u::v).length):=by rw[List.drop_set_of_lt Ω];congr 1;simp;omega
  rw[ar,aE];simp
theorem aay{w:World}{Z:bg}{C:fv}{st:bt}{a:Act}(aN:c7 C st a w Z){bH:List (Nat×dG)}{dT:List (Nat×Nat)}{places:List (Nat×Nat)}
  (bG:∀(i off t sz:Nat),dT[i]? =some (off,t)->(er bH t).map (·.size)=some sz->places[i]? =some (off,sz)):
  ∀(parts:List (Nat×Nat×dA)) (cC:List (Nat×Operand)) (cs:List aj) (us:Array Value) (c:Prop) (cs':List aj),Ce bH dT parts cC=true->dt w Z cs us.toList->vp st.t cs parts=some (c,cs')->c->
  ∃ck:Array Value,Instr.fill (places.toArray[·]?) us (cC.map fun(x:Nat×Operand)=>(x.1,a.eval x.2))=some ck/\dt w Z cs' ck.toList
 |[],[],cs,us,c,cs',_,h,he,aq=>by simp only[vp]at he;cases he;exact⟨us,by simp[Instr.fill],h⟩
 |[],_::_,_,_,_,_,eh,_,_,_=>by simp[Ce]at eh
 |_::_,[],_,_,_,_,eh,_,_,_=>by simp[Ce]at eh
 |(off,sz,x)::parts,(i,o)::cC,cs,us,c,cs',eh,h,he,aq=>by
  simp only[Ce,cv]at eh;obtain⟨⟨I,U⟩,ao⟩:=eh;split at I
  ·rename_i xR t DZ;simp only[cv,dO]at I;obtain⟨rfl,I⟩:=I;have uB:=bG i off t sz DZ I;simp only[vp]at he;split at he
   ·rename_i cr asI ad;cases he;obtain⟨⟨af,aw,hle⟩,hJ⟩:=aq;have ab:=ez aN U;have ks:=wF ab af;have hlen:=qE ks;have sZ:=qE h;have lh:(a.eval o).cells.size=sz:=by have:(a.eval o).cells.toList.length=(cells (cy st.t x)).length:=hlen;rw[aw]at this;simpa using this
    have rS:us.size=cs.length:=by simpa using sZ
    have zf:=L9 (w:=w) (Z:=Z) (a.eval o).cells.toList 0 off us (by simp[lh,rS];omega);have mA:dt w Z (pa cs off (cells (cy st.t x))) ((((a.eval o).cells.toList.zipIdx 0).foldl (fun cs (x:Value×Nat)=>cs.setIfInBounds (off+x.2) x.1) us).toList):=by rw[zf];unfold pa;refine zS (zS (Fs off h) ks) ?_;rw[Nat.add_zero,hlen];exact Cx _ h
    obtain⟨ck,g1,g2⟩:=aay aN bG parts cC _ _ cr cs' ao mA ad hJ;refine⟨ck,?_,g2⟩;simp only[hc,Instr.fill,List.getElem?_toArray,uB];rw[if_neg (by simp[lh,rS];omega)];rw[<-g1];simp only[List.getElem?_toArray];congr 1;rw[<-Array.foldl_toList];simp
   ·cases he
  ·cases I
end
section
open Go Go.RowKit
theorem wO{P:cM}{bH:List (Nat×dG)}(aC:fX P bH=true){t:Nat}{f:dG}(aO:er bH t=some f)(w:World):
  (Go.isAgg t).run P w= .ok f.kind.isAgg w/\(sizeOf t).run P w= .ok f.size w:=by
 obtain⟨i,d,z,I,U,ao,a7,b8,c6,dM,jm⟩:=(wQ aC aO).ex;refine⟨?_,by simp[sizeOf,typeInfo,I,ao]⟩;simp only[Go.isAgg,fZ,run_underlying U,gf];cases ae:f.kind<;>rw[ae]at b8<;>cases d<;>simp[kX]at b8<;>simp[C1.isAgg]
theorem jM{P:cM}{bH:List (Nat×dG)}(aC:fX P bH=true){t:Nat}{f:dG}(aO:er bH t=some f):∃d,P.underlying t=some d/\kX f.kind d=true:=by obtain⟨i,d,z,I,U,ao,a7,b8,c6,dM,jm⟩:=(wQ aC aO).ex;exact⟨d,U,b8⟩
theorem ua{e:Nat}{d:TypeDesc}(h:kX (.slice e) d=true):d= .slice e:=by cases d<;>simp[kX]at h;subst h;rfl
theorem AN{d:TypeDesc}(h:kX .str d=true):d= .string:=by cases d<;>simp[kX]at h;rfl
theorem G6{k:IntKind}{d:TypeDesc}(h:kX (.int k) d=true):d= .int k:=by cases d<;>simp[kX]at h;subst h;rfl
theorem Lx{dT:List (Nat×Nat)}{d:TypeDesc}(h:kX (.struct dT) d=true):∃gs:Array Field,d= .struct gs/\gs.toList.map (fun f=>(f.offset,f.type))=dT:=by cases d<;>simp[kX]at h;rename_i gs;exact⟨gs,rfl,by simpa using h⟩
theorem JG{w:World}{Z:bg}{cs:List aj}{us:List Value}(h:dt w Z cs us)(off sz:Nat):dt w Z ((cs.drop off).take sz) ((us.drop off).take sz):=Fs sz (Cx off h)
theorem Y6{w:World}{base el sz n:Nat}{v:Value}{us:List Value}(h:w.ownsRow base el sz v n us){b:Nat}(ad:v.ownBlock=some b):∃cap,v= .slice (some ⟨b,0,none⟩) n cap:=by
 rcases h.2 with⟨rfl,_⟩|⟨g,cap,cur,rfl,_⟩
 ·simp[pk]at ad
 ·simp[pk]at ad;subst ad;exact⟨cap,rfl⟩
theorem Good.rowElem{pr:Nat->Prop}{w:World}{Z:bg}{b:List (aM×List aj)}{e:List (aM×fU)}(aT:Good pr w Z b e){k:aM}{n el sz:Nat}{xs:List aj}(ae:look k e=some ⟨n,el,sz,some xs⟩){i f:Nat}{u:Value}(ab:be w Z (.rptr sz k n i f) u){p:aj}(bG:xs[i]? =some p):
  ∃(v:Value) (us:List Value) (gl:Nat),be w Z p v/\v.cells.size=sz/\∃b o,u= .pointer (some ⟨b,o,none⟩)/\∀j c,v.cells.toList[f+j]? =some c->w.cell? ⟨b,o+j,none⟩=some c:=by
 simp only[be]at ab;obtain⟨_,hi,n',fu,I,U,ao⟩:=ab;obtain⟨v,us,aW,bj,bM,cL⟩:=aT.own k _ ae;rw[I]at aW;simp only[dD,kl]at aW;obtain⟨rfl,rfl⟩:=aW;obtain⟨bl,ad,rfl⟩:=ao rfl;obtain⟨cap,rfl⟩:=Y6 bj ad;obtain⟨aw,mA,_⟩:=cL xs rfl;simp only at aw mA;obtain⟨v,fc,gh,qC⟩:=JD i mA bG;refine⟨v,us,el,fc,gh,bl,_,rfl,fun j c ag=>?_⟩;have bD:f+j<sz:=by have:=(fG.1 ag).1;simp[gh]at this;exact this
 have hmul:i*sz+sz<=n'*sz:=by have:=rr sz (show i+1<=n' from hi);rwa[Nat.succ_mul]at this
 have aq:=bj.cellAt (i*sz+f+j) (by show _<n'*sz;omega);rw[aq];rw[qC,List.getElem?_take,if_pos bD,List.getElem?_drop]at ag;rw[<-ag];congr 1;omega
theorem IL{P:cM}{bH:List (Nat×dG)}(aC:fX P bH=true){pr:Nat->Prop}{w:World}{Z:bg}{b:List (aM×List aj)}{e:List (aM×fU)}(aT:Good pr w Z b e){t:Nat}{f:dG}(aO:er bH t=some f)
  {x:aj} {u:Value} (ab:be w Z x u) {c:Prop} {p:aj} (he:nL b e f.kind.isAgg f.size x=some (c,p)) (aq:c):∃v,(Instr.loadAt t u).run P w= .ok v w/\be w Z p v:=by
 obtain⟨bk,af⟩:=wO aC aO w;generalize HB:f.kind.isAgg=gN at*;generalize dY:f.size=sz at*;unfold nL at he;split at he
 ·rename_i dN k n i ug;unfold zW at he;split at he
  ·rename_i n' el j4 xs ae;split at he
   ·rename_i au;obtain⟨rfl,rfl⟩:=au;split at he
    ·rename_i anQ ajm;obtain⟨QR,us,gl,g1,g2,nz⟩:=Good.rowElem aT ae ab ajm;have iM:e7 anQ=true:=by
      cases gN
      ·simp only[hk,if_false,gB]at he;obtain⟨q,_,he⟩:=he;cases he;exact aq
      ·simp only[if_true]at he;cases he;exact aq.1
     have dj:=wF g1 iM;cases gN
     ·simp only[hk,if_false,gB]at he;obtain⟨q,bs,he⟩:=he;cases he;obtain⟨v,f1,f2,f3⟩:=Fq ug dj bs;refine⟨v,?_,f2⟩;obtain⟨b,o,rfl,nz⟩:=nz;have:=nz 0 v (by simpa using f1);simp only[Nat.add_zero]at this;simp[Instr.loadAt,Instr.sureAddr,loadVar,bk,this]
     ·simp only[if_true]at he;cases he;obtain⟨b,o,rfl,nz⟩:=nz;refine⟨.agg ((QR.cells.toList.drop ug).take sz).toArray,?_,by simp only[be];exact⟨_,rfl,by simpa using JG dj ug sz⟩⟩;have aw:=qE dj;have hlen:((QR.cells.toList.drop ug).take sz).length=sz:=by simp only[List.length_take,tN];omega
      have iY:=run_loadCells_list (P:=P) w ⟨b,o,none⟩ ((QR.cells.toList.drop ug).take sz) (fun j v ag=>by
       rw[qc];refine nz j v ?_;rw[List.getElem?_take]at ag;split at ag
       ·simpa[List.getElem?_drop]using ag
       ·cases ag)
      rw[hlen]at iY;simp only[Instr.loadAt,Instr.sureAddr,loadVar,fZ,gI,gf,bk,if_true,af,iY]
    ·cases he
   ·cases he
  ·cases he
 ·rename_i k off;simp only[be]at ab;obtain⟨bl,I,rfl⟩:=ab;split at he
  ·rename_i cs ae;obtain⟨jk,us,el,g1,g2,g3,g4,g5⟩:=aT.box k cs ae;rw[I]at g1;cases g1;have uB:iq cs=true:=by
    cases gN
    ·simp only[hk,if_false,gB]at he;obtain⟨q,bs,he⟩:=he;cases he;exact aq
    ·simp only[if_true]at he;cases he;exact aq.1
   rw[wy uB]at g4;rw[wz uB]at g5;have aw:=qE g5;cases gN
   ·simp only[hk,if_false,gB]at he;obtain⟨q,bs,he⟩:=he;cases he;obtain⟨v,f1,f2,f3⟩:=Fq off g5 bs;refine⟨v,?_,f2⟩;have nz:w.cell? ⟨bl,off,none⟩=some v:=by simpa[World.cell?,g4]using f1
    simp[Instr.loadAt,Instr.sureAddr,loadVar,bk,nz]
   ·simp only[if_true]at he;cases he;replace aq:=aq.2;refine⟨_,?_,by simp only[be];exact⟨_,rfl,by simpa using JG g5 off sz⟩⟩;simp only[Instr.loadAt,Instr.sureAddr,loadVar,fZ,gI,gf,bk,if_true,af];rw[ape g4 (by simp at aw;omega)];rfl
  ·cases he
 ·rename_i q;simp only[be]at ab;obtain⟨bl,off,fu,rfl,U,ao⟩:=ab;cases gN
  ·simp only[hk,if_false]at he;cases he;obtain⟨DU,vF⟩:=aq;obtain⟨g1,g2⟩:=PQ U DU (fun cs e=>by subst e;have:=eW List.length vF;simp only[cells,mM,List.length_nil]at this;cases cs with
    |nil=>simp[cells]at vF
    |cons y ys=>simp only[cells,yn]at vF;obtain⟨ar,aE⟩:=vF;subst aE;have:=eW SizeOf.sizeOf ar;simp at this;omega)
   refine⟨fu,?_,U⟩;rw[g2]at ao;have nz:=ao.1.2;simp[Instr.loadAt,Instr.sureAddr,loadVar,bk,nz]
  ·simp only[if_true]at he;cases he;obtain⟨cs,rfl,hlen⟩:=aq;simp only[be]at U;obtain⟨us,rfl,a7⟩:=U;refine⟨.agg us,?_,by simp only[be];exact⟨us,rfl,a7⟩⟩;simp only[p5]at ao;have aw:=qE a7;have:=apf (P:=P) ao;rw[show us.toList.length=sz from by omega]at this;simp[Instr.loadAt,Instr.sureAddr,loadVar,bk,af,this]
 ·cases he
theorem agI{P:cM}{bH:List (Nat×dG)}(aC:fX P bH=true){w:World}{Z:bg}{s i:Nat}{f:dG}{dT:List (Nat×Nat)}(aO:er bH s=some f)(ae:f.kind= .struct dT){off t:Nat}{g:dG}(hi:dT[i]? =some (off,t))(aT:er bH t=some g)(bB:g.size≠0)
  {x:aj} {u:Value} (ab:be w Z x u) {c:Prop} {p:aj} (he:sE off g.kind.isAgg g.size x=some (c,p)) (aq:c):∃v,(Instr.fieldAt s u i).run P w= .ok v w/\be w Z p v:=by
 obtain⟨d,aD,fk⟩:=jM aC aO;rw[ae]at fk;obtain⟨gs,rfl,kF⟩:=Lx fk;have rP:∃fd:Field,gs[i]? =some fd/\fd.offset=off/\fd.type=t:=by rw[<-kF]at hi;simp only[List.getElem?_map,gB]at hi;obtain⟨fd,I,U⟩:=hi;simp only[kl]at U;exact⟨fd,by simpa using I,U.1,U.2⟩
 obtain⟨fd,HL,ax,pN⟩:=rP;obtain⟨bk,af⟩:=wO aC aT w;have iY:∀b o,(Instr.fieldAt s (.pointer (some ⟨b,o,none⟩)) i).run P w= .ok (.pointer (some ⟨b,o+off,none⟩)) w:=by intro b o;simp[Instr.fieldAt,run_underlying aD,HL,Instr.sureAddr,fieldPlace,pN,af,bB,qc,ax]
 unfold sE at he;split at he
 ·cases he;simp only[be]at ab;obtain⟨b,I,rfl⟩:=ab;exact⟨_,iY _ _,by simp only[be];exact⟨b,I,rfl⟩⟩
 ·cases he;simp only[be]at ab;obtain⟨⟨b,o,rfl⟩,hi,n',fu,I,U,ao⟩:=ab;refine⟨_,iY _ _,?_⟩;simp only[be];refine⟨⟨b,_,rfl⟩,hi,n',fu,I,U,fun e=>?_⟩;obtain⟨b3,ar,aE⟩:=ao e;simp only[av6,dD,Addr.mk.injEq,and_true]at aE;obtain⟨rfl,rfl⟩:=aE;exact⟨b,ar,by rw[Nat.add_assoc]⟩
 ·rename_i cs;simp only[be]at ab;obtain⟨b,o,fu,rfl,⟨us,rfl,U⟩,ao⟩:=ab;refine⟨_,iY _ _,?_⟩;simp only[p5]at ao;split at he
  ·cases he;simp only[be];exact⟨b,o+off,.agg ((us.toList.drop off).take g.size).toArray,rfl,⟨_,rfl,by simpa using JG U off g.size⟩,by simpa[p5]using IH g.size (IF off ao)⟩
  ·simp only[gB]at he;obtain⟨q,bs,he⟩:=he;cases he;obtain⟨v,f1,f2,f3⟩:=Fq off U bs;simp only[be];have ai3:=v8 ao f1;have ajJ:v.cells= #[v]:=by cases v<;>first|rfl|cases f3
   exact⟨b,o+off,v,rfl,f2,by rw[ajJ];exact⟨ai3,trivial⟩⟩
 ·cases he
theorem agQ{P:cM}{bH:List (Nat×dG)}(aC:fX P bH=true){w:World}{Z:bg}{s i:Nat}{f:dG}{dT:List (Nat×Nat)}(aO:er bH s=some f)(ae:f.kind= .struct dT){off t:Nat}{g:dG}(hi:dT[i]? =some (off,t))(aT:er bH t=some g)
  {x:aj} {u:Value} (ab:be w Z x u) {c:Prop} {p:aj} (he:vx off g.kind.isAgg g.size x=some (c,p)) (aq:c):∃v,(Instr.field s u i).run P w= .ok v w/\be w Z p v:=by
 obtain⟨d,aD,fk⟩:=jM aC aO;rw[ae]at fk;obtain⟨gs,rfl,kF⟩:=Lx fk;have rP:∃fd:Field,gs[i]? =some fd/\fd.offset=off/\fd.type=t:=by rw[<-kF]at hi;simp only[List.getElem?_map,gB]at hi;obtain⟨fd,I,U⟩:=hi;simp only[kl]at U;exact⟨fd,by simpa using I,U.1,U.2⟩
 obtain⟨fd,HL,ax,pN⟩:=rP;obtain⟨bk,af⟩:=wO aC aT w;unfold vx at he;split at he
 ·rename_i cs;simp only[be]at ab;obtain⟨us,rfl,U⟩:=ab;generalize HB:g.kind.isAgg=gN at*;cases gN
  ·simp only[hk,if_false,gB]at he;obtain⟨q,bs,he⟩:=he;cases he;obtain⟨v,f1,f2,f3⟩:=Fq off U bs;have aeL:us[off]? =some v:=by simpa using f1
   exact⟨v,by simp[Instr.field,run_underlying aD,HL,asAgg,part,pN,bk,ax,aeL],f2⟩
  ·simp only[if_true]at he;cases he;refine⟨.agg (us.extract off (off+g.size)),by simp[Instr.field,run_underlying aD,HL,asAgg,part,pN,bk,ax,af],?_⟩;simp only[be];refine⟨_,rfl,?_⟩;have:=JG U off g.size;simpa[List.take_drop]using this
 ·cases he
theorem ajY{P:cM}{bH:List (Nat×dG)}(aC:fX P bH=true){w:World}{Z:bg}{t e:Nat}{f g:dG}(aO:er bH t=some f)(ae:f.kind= .slice e)(aT:er bH e=some g)
  {x y:aj} {u v:Value} (ab:be w Z x u) (aB:be w Z y v) {c:Prop} {p:aj} (he:BC g.size x y=some (c,p)) (aq:c):∃r,(Instr.indexAt t u v).run P w= .ok r w/\be w Z p r:=by
 obtain⟨d,aD,fk⟩:=jM aC aO;rw[ae]at fk;obtain rfl:=ua fk;obtain⟨bk,af⟩:=wO aC aT w;unfold BC at he;split at he
 ·rename_i dN tag xs k i;split at he
  ·rename_i dY;cases he;simp only[be]at ab aB;subst aB;subst dY;obtain⟨⟨a,cap,rfl,I,U,ao⟩,_⟩:=ab;obtain⟨D4,mW⟩:=aq;have gZ:i.toNat<xs.length:=Ω
   rcases ao with rfl|⟨b,off,us,rfl,a7,b8⟩
   ·simp at gZ
   ·have ab:xs[i.toNat]? =some xs[i.toNat]:=cm gZ;obtain⟨w',fc,gh,qC⟩:=JD i.toNat b8 ab;refine⟨.pointer (some ⟨b,off+i.toNat*g.size,none⟩),?_,?_⟩
    ·simp only[Instr.indexAt,asIntOf,fZ,gI,gf,run_underlying aD,D4,mW,and_self,if_true,af,qc]
    ·simp only[be];refine⟨b,off+i.toNat*g.size,w',rfl,by simpa[List.getD,ab]using fc,?_⟩;rw[qC];exact IH g.size (IF _ a7)
  ·cases he
 ·rename_i dN k n k0 i;split at he
  ·rename_i dY;cases he;simp only[be]at ab aB;subst aB;subst dY;obtain⟨⟨b,cap,rfl⟩,U,n',fu,ao,a7,b8⟩:=ab;obtain⟨D4,mW⟩:=aq;refine⟨.pointer (some ⟨b,0+i.toNat*g.size,none⟩),?_,?_⟩
   ·simp only[Instr.indexAt,asIntOf,fZ,gI,gf,run_underlying aD,D4,mW,and_self,if_true,af,qc]
   ·simp only[be];refine⟨⟨b,_,rfl⟩,Ω,n',fu,ao,a7,fun e=>⟨b,?_,Ψ⟩⟩;rw[<-b8 e];rfl
  ·cases he
 ·cases he
theorem I8{C:fv}{st:bt}{a:Act}{w:World}{Z:bg}(h:c7 C st a w Z){x:Option dA}{o:Option Operand}(ab:xT x o=true){G7 n:Int}(he:r4 G7 (x.map (cy st.t))=some n):
  (o.map a.eval=none/\n=G7)\/ ∃k,o.map a.eval=some (.int k n):=by
 cases x with
 |none=>cases o with
  |none=>simp[r4]at he;exact .inl ⟨rfl,he.symm⟩
  |some o=>simp[xT]at ab
 |some x=>cases o with
  |none=>simp[xT]at ab
  |some o=>
   simp only[xT]at ab
   have:=ez h ab
   simp only[nT]at he⊢
   cases vG:cy st.t x<;>simp[vG,r4]at he
   rw[vG]at this
   simp only[be]at this
   subst he
   exact .inr ⟨_,by rw[this]⟩
theorem acb{c d:aj}(h:Kt c d=true):c=d:=by unfold Kt at h;split at h<;>simp_all
theorem Q1:∀{cs e4:List aj},Al cs e4=true->cs=e4
 |[],[],_=>rfl
 |[],_::_,h=>by simp[Al]at h
 |_::_,[],h=>by simp[Al]at h
 |c::cs,d::e4,h=>by simp only[Al,cv]at h;rw[acb h.1,Q1 h.2]
theorem arB{cs:List aj}{z:aj}(h:Q5 cs z=true):z= .agg cs:=by
 cases z<;>simp only[Q5]at h;case agg e4=>rw[Q1 h]
 all_goals cases h
theorem ahM(s:List UInt8)(n:Nat)(h:n<s.length):(⟨s.toArray⟩:ByteArray)[n]? =some (s.getD n 0):=by
 have dY:n<(⟨s.toArray⟩:ByteArray).size:=by rw[FI];exact h
 have e:(⟨s.toArray⟩:ByteArray)[n]? =some ((⟨s.toArray⟩:ByteArray)[n]'dY):=getElem?_pos (⟨s.toArray⟩:ByteArray) n dY;rw[e];congr 1;simp[List.getD,h];rfl
theorem J1(P:cM)(w:World)(k:IntKind)(i:Int)(y:Nat)(c:BoundsCode)(bB:0<=i)(I:i<=y):(Instr.sliceBound (.int k i) y c).run P w= .ok i.toNat w:=by simp[Instr.sliceBound,asIntOf,bB,I]
theorem RM(P:cM)(w:World)(aks:Bool)(len cap:Nat)(lo hi:Option Value)(l h:Int)(D6:(lo=none/\l=0)\/ ∃k,lo=some (.int k l))(D3:(hi=none/\h=len)\/ ∃k,hi=some (.int k h))
  (bB:0<=l) (I:l<=h) (U:h<=len) (aq:len<=cap):(Instr.sliceBounds aks len cap lo hi none).run P w= .ok (l.toNat,h.toNat,cap) w:=by
 rcases D6 with⟨rfl,rfl⟩|⟨k,rfl⟩<;>rcases D3 with⟨rfl,rfl⟩|⟨bJ,rfl⟩
 ·simp[Instr.sliceBounds]
 ·simp[Instr.sliceBounds,J1 P w bJ h cap _ Ω Ω]
 ·simp[Instr.sliceBounds,J1 P w k l len _ Ω Ω]
 ·simp[Instr.sliceBounds,J1 P w bJ h cap _ Ω Ω,J1 P w k l h.toNat _ Ω Ω]
theorem Zb{P:cM}{bH:List (Nat×dG)}(aC:fX P bH=true):∀(gs:List Field),(gs.all fun f=>(er bH f.type).isSome)=true->
  ∃places:List (Nat×Nat),gs.mapM (fun f=>(P.info? f.type).map fun i=>(f.offset,i.size))=some places/\
   ∀(i off t sz:Nat),(gs.map (fun f=>(f.offset,f.type)))[i]? =some (off,t)->(er bH t).map (·.size)=some sz->places[i]? =some (off,sz)
 |[],_=>⟨[],Ψ,Ψ⟩
 |f::gs,h=>by
  simp only[List.all_cons,cv]at h;obtain⟨places,I,U⟩:=Zb aC gs h.2;obtain⟨g,aT⟩:=fH.1 h.1;obtain⟨i,d,z,ar,aE,bA,dr,iw,ix,sw,sx⟩:=(wQ aC aT).ex;refine⟨(f.offset,g.size)::places,by simp[List.mapM_cons,ar,bA,I],fun j off t sz ag dY=>?_⟩;cases j with
  |zero=>simp only[hc,List.getElem?_cons_zero,dD,kl]at ag⊢;obtain⟨rfl,rfl⟩:=ag;rw[aT]at dY;simpa using dY
  |succ j=>simp only[hc,List.getElem?_cons_succ]at ag⊢;exact U j off t sz ag dY
theorem me{P:cM}{w:World}{x:Sem Value}{v:Value}(h:x.run P w= .ok v w):(do pure (Next.value (<-x)):Sem Next).run P w= .ok (.value v) w:=by simp[h]
theorem Q4{p q:aj}(h:CV p q=true):p=q:=by
 unfold CV at h;split at h
 ·rw[Q1 h]
 ·cases h
 ·exact acb h
theorem Q3(w:World)(Z:bg){p:aj}{v:Value}(h:Am p v=true):be w Z p v/\dt w Z (cells p) v.cells.toList:=by
 by_cases bk:∃cs,p= .agg cs
 ·obtain⟨cs,rfl⟩:=bk;cases v<;>simp only[Am]at h;case agg us=>have:=Q2 w Z _ _ h;exact⟨by simp only[be];exact⟨us,rfl,this⟩,by simpa[cells,p5]using this⟩
  all_goals cases h
 ·have b4:AB p v=true/\v.oneCell'=true:=by cases p<;>simp only[Am,cv]at h<;>first|exact h|exact absurd ⟨_,rfl⟩ bk
  have aN:=K2 w Z b4.1;refine⟨aN,?_⟩;have aq:cells p=[p]:=by cases p<;>first|rfl|exact absurd ⟨_,rfl⟩ bk
  have az:v.cells= #[v]:=by have:=b4.2;cases v<;>first|rfl|simp[Value.oneCell']at this
  rw[aq,az];simp only[dt];exact⟨v,[],rfl,⟨aN,b4.2⟩,rfl⟩
theorem Qm{P:cM}{bH:List (Nat×dG)}(aC:fX P bH=true){t:Nat}{f:dG}(aO:er bH t=some f)(w:World):∃z,(zeroValue t).run P w= .ok z w/\Am f.zero z=true/\z.cells.size=f.size:=by obtain⟨i,d,z,I,U,ao,a7,b8,c6,dM,jm⟩:=(wQ aC aO).ex;exact⟨z,by simp[zeroValue,typeInfo,I,c6],dM,jm⟩
theorem Ft{C:fv}{st:bt}{a:Act}{w:World}{Z:bg}(h:c7 C st a w Z):∀{xs:List dA} {os:List Operand},zI xs os=true->cZ w Z (xs.map (cy st.t)) (os.map a.eval)
 |[],[],_=>by simp[cZ]
 |[],_::_,ae=>by simp[zI]at ae
 |_::_,[],ae=>by simp[zI]at ae
 |x::xs,o::os,ae=>by simp only[zI,cv]at ae;simp only[hc,cZ];exact⟨_,_,rfl,ez h ae.1,Ft h ae.2⟩
theorem adS{P:cM}{w:World}{t:hl}(aD:P.underlying t=some .bool)(d:Nat)(a b:Bool):(Op.equalIn (d+1) t (.bool a) (.bool b)).run P w= .ok (a==b) w:=by rw[Op.equalIn];simp only[fZ,run_underlying aD,gf,gI]
theorem adT{P:cM}{w:World}{t:hl}(aD:P.underlying t=some .bool)(a b:Bool):(Op.equal t (.bool a) (.bool b)).run P w= .ok (a==b) w:=adS aD _ a b
theorem Us:∀{borns:List Nat} {kvs:List aj} {us:List Value},kvs.length=2*borns.length->us.length=kvs.length->(fV borns us).length=borns.length
 |[],_,us,_,_=>by simp[fV]
 |b3::e9,kvs,[],I,U=>by rw[I]at U;simp at U
 |b3::e9,kvs,[_],I,U=>by rw[I]at U;simp at U;omega
 |b3::e9,kvs,k::v::us,I,U=>by simp only[fV,mM];rw[Us (kvs:=kvs.drop 2) (us:=us) (borns:=e9) (by simp at I⊢;omega) (by simp at I U⊢;omega)]
theorem aaq{w:World}{Z:bg}:∀{cC:List aj} {bc:List Value},cZ w Z cC bc->bc.length=cC.length
 |[],bc,h=>by simp only[cZ]at h;subst h;rfl
 |p::cC,bc,h=>by simp only[cZ]at h;obtain⟨u,ck,rfl,_,U⟩:=h;simp[aaq U]
theorem wI{P:cM}{w:World}{r:Nat}{o:Obj}(ad:w.heap[r]? =some o)(au:∀c e f,o≠ .cells c e f:=by simp):(getObj r).run P w= .ok o w:=by simp only[getObj,Sem.run,ad]
def rs(P:cM):Nat->List Bool->List Field->Prop
 |_,[],[]=>True
 |n,b::r,f::gs=>(f.offset=n/\f.name≠ "_" /\(if b=true then P.underlying f.type=some .string else∃k,P.underlying f.type=some (.int k)))/\rs P (n+1) r gs
 |_,_,_=>eI
theorem Fb{P:cM}{t:hl}{b:Bool}(h:if b=true then P.underlying t=some .string else∃k,P.underlying t=some (.int k)):P.plainKey t=true:=by
 cases b
 ·obtain⟨k,h⟩:=(by simpa using h:∃k,P.underlying t=some (.int k));simp[Program.plainKey,h]
 ·have h:P.underlying t=some .string:=by simpa using h
  simp[Program.plainKey,h]
theorem adn{P:cM}{w:World}{Z:bg}(d:Nat){X Y:Array Value}(dT:List Bool):∀(gs:List Field) (n:Nat) (as e9:List aj) (us bc:List Value) (q:Bool),rs P n dT gs->X.toList.drop n=us->Y.toList.drop n=bc->dt w Z as us->dt w Z e9 bc->kW dT as e9=some q->
  (Op.eqFields (d+1) X Y gs).run P w= .ok q w/\(q=true->us=bc)/\∀m,(us.zip us).all (fun(x,y)=>Instr.sameBits m x y)=true:=by
 induction dT with
 |nil=>intro gs n as e9 us bc q aT DO DP I U h;cases as<;>cases e9<;>simp only[kW,dD,reduceCtorEq]at h;cases gs<;>simp only[rs]at aT;simp only[dt]at I U;rw[I,U,<-h];exact⟨by simp[Op.eqFields],fun _=>rfl,fun m=>rfl⟩
 |cons yL r bK=>
  intro gs n as e9 us bc q aT DO DP I U h;cases gs with
  |nil=>simp only[rs]at aT
  |cons f gs=>
  simp only[rs]at aT;obtain⟨⟨HX,Bm,pN⟩,aT⟩:=aT;cases as with
  |nil=>cases yL<;>cases e9<;>simp[kW]at h
  |cons E9 as=>
  cases e9 with
  |nil=>cases yL<;>cases E9<;>simp[kW]at h
  |cons wx e9=>
  cases yL with
  |false=>
   have aq:∃k a b gq,E9= .int k a/\wx= .int k b/\kW r as e9=some gq/\q=((a==b)&&gq):=by
    cases E9<;>first|(simp[kW]at h;done)|skip
    cases wx<;>first|(simp[kW]at h;done)|skip
    simp only[kW]at h;split at h
    ·rename_i ae;subst ae;simp only[gB]at h;obtain⟨gq,ao,a7⟩:=h;exact⟨_,_,_,gq,rfl,rfl,ao,a7.symm⟩
    ·cases h
   obtain⟨k,a,b,gq,rfl,rfl,ao,rfl⟩:=aq;simp only[dt,be]at I U;obtain⟨u,ck,rfl,⟨rfl,_⟩,I⟩:=I;obtain⟨v,vs',rfl,⟨rfl,_⟩,U⟩:=U;have E8:X[n]? =some (.int k a):=by rw[<-vb,<-List.head?_drop,DO];rfl
   have O2:Y[n]? =some (.int k b):=by rw[<-vb,<-List.head?_drop,DP];rfl
   obtain⟨i1,i2,i3⟩:=bK gs (n+1) as e9 ck vs' gq aT (by rw[<-List.tail_drop,DO];rfl) (by rw[<-List.tail_drop,DP];rfl) I U ao;obtain⟨k0,Nl⟩:=(by simpa using pN:∃k,P.underlying f.type=some (.int k));refine⟨?_,?_,fun m=>?_⟩
   ·simp only[Op.eqFields,Bm,ne_eq,not_false_eq_true,if_true,fZ,HX,run_part_plain w (Fb pN) E8,run_part_plain w (Fb pN) O2,gf,run_equalIn_int w d f.type k k0 a b Nl];cases oa:(a==b)
    ·simp
    ·simpa using i1
   ·intro bs;simp only[cv,dO]at bs;rw[bs.1,i2 bs.2]
   ·have:=i3 m;simp only[List.zip_cons_cons,List.all_cons,this,Bool.and_true];cases m<;>simp[Instr.sameBits]
  |true=>
   have aq:∃a b gq,E9= .str a/\wx= .str b/\kW r as e9=some gq/\q=((a==b)&&gq):=by
    cases E9<;>first|(simp[kW]at h;done)|skip
    cases wx<;>first|(simp[kW]at h;done)|skip
    simp only[kW,gB]at h;obtain⟨gq,ao,a7⟩:=h;exact⟨_,_,gq,rfl,rfl,ao,a7.symm⟩
   obtain⟨a,b,gq,rfl,rfl,ao,rfl⟩:=aq;simp only[dt,be]at I U;obtain⟨u,ck,rfl,⟨⟨rfl,_⟩,_⟩,I⟩:=I;obtain⟨v,vs',rfl,⟨⟨rfl,_⟩,_⟩,U⟩:=U;have E8:X[n]? =some (.string ⟨a.toArray⟩):=by rw[<-vb,<-List.head?_drop,DO];rfl
   have O2:Y[n]? =some (.string ⟨b.toArray⟩):=by rw[<-vb,<-List.head?_drop,DP];rfl
   obtain⟨i1,i2,i3⟩:=bK gs (n+1) as e9 ck vs' gq aT (by rw[<-List.tail_drop,DO];rfl) (by rw[<-List.tail_drop,DP];rfl) I U ao;have Nl:P.underlying f.type=some .string:=by simpa using pN
   refine⟨?_,?_,fun m=>?_⟩
   ·simp only[Op.eqFields,Bm,ne_eq,not_false_eq_true,if_true,fZ,HX,run_part_plain w (Fb pN) E8,run_part_plain w (Fb pN) O2,gf,run_equalIn_string w d f.type _ _ Nl];have e:((⟨a.toArray⟩:ByteArray).toList==(⟨b.toArray⟩:ByteArray).toList)=(a==b):=by rw[arE,arE]
    rw[e];cases oa:(a==b)
    ·simp
    ·simpa using i1
   ·intro bs;simp only[cv,dO]at bs;rw[bs.1,i2 bs.2]
   ·have:=i3 m;simp only[List.zip_cons_cons,List.all_cons,this,Bool.and_true];cases m<;>simp only[Instr.sameBits]<;>exact(MapKept.bytes_beq _ _).2 rfl
theorem U5{P:cM}{bH:List (Nat×dG)}(aC:fX P bH=true):∀(dT:List Bool) (gs:List Field) (n:Nat),AZ bH n dT (gs.map fun f=>(f.offset,f.type))=true->(gs.all (fun f=>match P.underlying f.type with|some (.int _)=>true|some .string=>true|_=>false)=true)/\((∀f∈gs,f.name≠ "_")->rs P n dT gs)
 |[],[],_,_=>⟨rfl,fun _=>trivial⟩
 |[],_::_,_,h=>by simp[AZ]at h
 |_::_,[],_,h=>by simp[AZ]at h
 |b::r,f::gs,n,h=>by
  simp only[hc,AZ,cv,dO]at h;obtain⟨⟨I,U⟩,ao⟩:=h;obtain⟨i1,i2⟩:=U5 aC r gs (n+1) ao;split at U
  ·rename_i aO;obtain⟨d,hu,aD⟩:=jM aC aO;obtain rfl:=G6 aD;refine⟨by simp only[List.all_cons,hu,i1,Bool.and_self],fun au=>⟨⟨I,au f Ψ,?_⟩,i2 fun g aT=>au g (by simp[aT])⟩⟩;have:b=false:=by simpa using U
   subst this;simpa using⟨_,hu⟩
  ·rename_i aO;obtain⟨d,hu,aD⟩:=jM aC aO;obtain rfl:=AN aD;refine⟨by simp only[List.all_cons,hu,i1,Bool.and_self],fun au=>⟨⟨I,au f Ψ,?_⟩,i2 fun g aT=>au g (by simp[aT])⟩⟩;subst U;simpa using hu
  ·cases U
theorem U7{P:cM}{bH:List (Nat×dG)}(aC:fX P bH=true){dT:List Bool}{t:Nat}(h:Hl bH dT t=true):∃gs,P.underlying t=some (.struct gs)/\rs P 0 dT gs.toList/\P.stoodInHeld t=false/\P.eqGuardType P.depth t=false:=by
 unfold Hl at h;split at h
 ·rename_i aO;obtain⟨d,hu,aD⟩:=jM aC aO;have aq:=(wQ aC aO).cmp d hu;cases d<;>simp[kX]at aD;rename_i gs;subst aD;obtain⟨i1,i2⟩:=U5 aC dT gs.toList 0 h;have q0:U6 P gs=true:=i1;simp only[Lu,q0,Bool.not_true,Bool.false_or,T5,cv,oJ,fi,bne_iff_ne,ne_eq]at aq;exact⟨gs,hu,i2 aq.1.1,aq.1.2,aq.2⟩
 ·cases h
theorem Uz{P:cM}{w:World}{Z:bg}{t:hl}{gs:Array Field}{dT:List Bool}(hu:P.underlying t=some (.struct gs))(aT:rs P 0 dT gs.toList)(da:P.stoodInHeld t=false){as e9:List aj}{X Y:Array Value}(I:dt w Z as X.toList)(U:dt w Z e9 Y.toList){q:Bool}(h:kW dT as e9=some q):
  (Op.equalIn 10000 t (.agg X) (.agg Y)).run P w= .ok q w/\(q=true->X=Y)/\∀m,(X.toList.zip X.toList).all (fun(x,y)=>Instr.sameBits m x y)=true:=by
 have aO:P.fieldsOf t=gs:=by simp[Program.fieldsOf,hu]
 obtain⟨i1,i2,i3⟩:=adn 9998 dT gs.toList 0 as e9 _ _ q aT rfl rfl I U h;refine⟨?_,fun e=>?_,?_⟩
 ·rw[run_equalIn_struct w 9999 t X Y (by rw[aO];exact hu) da,aO];exact i1
 ·have:=i2 e;simpa using this
 ·simpa using i3
inductive vf (P:cM):kn->hl->Prop
 |i {t:hl} {k:IntKind}:P.underlying t=some (.int k)->vf P .i t
 |s {t:hl}:P.underlying t=some .string->vf P .s t
 |a {t:hl} {dT:List Bool} {gs:Array Field}:P.underlying t=some (.struct gs)->rs P 0 dT gs.toList->P.stoodInHeld t=false->vf P (.a dT) t
theorem NQ{P:cM}{bH:List (Nat×dG)}(aC:fX P bH=true){cj:kn}{t:Nat}(h:zo bH cj t=true):vf P cj t:=by
 cases cj with
 |i=>
  simp only[zo]at h;split at h
  ·rename_i aO;obtain⟨d,hu,aD⟩:=jM aC aO;obtain rfl:=G6 aD;exact .i hu
  ·cases h
 |s=>
  simp only[zo]at h;split at h
  ·rename_i aO;obtain⟨d,hu,aD⟩:=jM aC aO;obtain rfl:=AN aD;exact .s hu
  ·cases h
 |a dT=>obtain⟨gs,I,U,ao,_⟩:=U7 aC h;exact .a I U ao
def tS(P:cM)(w:World)(cj:kn)(t:hl)(gy u:Value)(b:Bool):Prop:=match cj with
 | .a _=>(Op.equal t gy u).run P w= .ok b w
 |_=> ∀d,P.underlying t=some d->Instr.sameNow d gy u=some b
def iH(P:cM)(w:World)(cj:kn)(t:hl)(gy:Value)(es:List MapEntry)(i:Nat)(r:Option (Nat×Value)):Prop:=match cj with
 | .a _=>(Instr.findAsking t gy es i).run P w= .ok r w
 |_=> ∀d,P.underlying t=some d->Instr.findNow d gy es i=some r
theorem iH.nil(P:cM)(w:World)(cj:kn)(t:hl)(gy:Value)(i:Nat):iH P w cj t gy [] i none:=by cases cj<;>simp[iH,Instr.findAsking,Instr.findNow]
theorem iH.hit{P:cM}{w:World}{cj:kn}{t:hl}{gy:Value}{e:MapEntry}{es:List MapEntry}{i:Nat}(h:tS P w cj t gy e.key true):iH P w cj t gy (e::es) i (some (i,e.val)):=by
 cases cj with
 |a dT=>simp only[tS]at h;simp[iH,Instr.findAsking,h]
 |i=>simp only[tS]at h;simp only[iH];intro d aD;simp[Instr.findNow,h d aD]
 |s=>simp only[tS]at h;simp only[iH];intro d aD;simp[Instr.findNow,h d aD]
theorem iH.miss{P:cM}{w:World}{cj:kn}{t:hl}{gy:Value}{e:MapEntry}{es:List MapEntry}{i:Nat}{r:Option (Nat×Value)}(h:tS P w cj t gy e.key false)(aN:iH P w cj t gy es (i+1) r):iH P w cj t gy (e::es) i r:=by
 cases cj with
 |a dT=>simp only[tS]at h;simp only[iH]at aN;simp[iH,Instr.findAsking,h,aN]
 |i=>simp only[tS]at h;simp only[iH]at aN⊢;intro d aD;simp[Instr.findNow,h d aD,aN d aD]
 |s=>simp only[tS]at h;simp only[iH]at aN⊢;intro d aD;simp[Instr.findNow,h d aD,aN d aD]
theorem iH.run{P:cM}{w:World}{cj:kn}{t:hl}(aD:vf P cj t){gy:Value}{es:List MapEntry}{r:Option (Nat×Value)}(h:iH P w cj t gy es 0 r):(Instr.findKey t gy es).run P w= .ok r w:=by
 cases aD with
 |i hu=>simp only[iH]at h;simp[Instr.findKey,run_underlying hu,h _ hu]
 |s hu=>simp only[iH]at h;simp[Instr.findKey,run_underlying hu,h _ hu]
 |a hu aT da=>
  simp only[iH]at h;cases es with
  |nil=>simp[Instr.findAsking]at h;simp[Instr.findKey,run_underlying hu,Instr.findNow,h]
  |cons e es=>
   rename_i gs;have:Instr.sameNow (.struct gs) gy e.key=none:=by cases gy<;>rfl
   simp only[Instr.findKey,fZ,run_underlying hu,gf,Instr.findNow,this];exact h
theorem Xp{P:cM}{w:World}{Z:bg}{cj:kn}{t:hl}(aD:vf P cj t){k bJ:aj}{gy u:Value}(ae:be w Z k gy)(I:be w Z bJ u){bb:Bool}(ad:rW cj k bJ=some bb):
  tS P w cj t gy u bb/\(bb=true->u=gy/\Instr.sameBits 10000 u gy=true):=by
 unfold rW at ad;split at ad
 ·split at ad
  ·rename_i mu;subst mu;simp only[be]at ae I;subst ae;subst I;cases aD with
   |i hu=>refine⟨fun d aD=>by rw[hu]at aD;cases aD;simpa[Instr.sameNow]using ad,fun e=>?_⟩;subst e;simp only[dD,dO]at ad;subst ad;exact⟨rfl,by simp[Instr.sameBits]⟩
  ·cases ad
 ·rename_i a b;simp only[be]at ae I;obtain⟨rfl,_⟩:=ae;obtain⟨rfl,_⟩:=I;cases aD with
  |s hu=>
   refine⟨fun d aD=>?_,fun e=>?_⟩
   ·rw[hu]at aD;cases aD;simp only[Instr.sameNow];rw[<-ad];congr 1;rw[qP,MapKept.bytes_beq];simp
   ·subst e;simp only[dD,dO]at ad;subst ad;exact⟨rfl,by simp only[Instr.sameBits];exact(MapKept.bytes_beq _ _).2 rfl⟩
 ·simp only[be]at ae I;obtain⟨X,rfl,ae⟩:=ae;obtain⟨Y,rfl,I⟩:=I;cases aD with
  |a hu aT da=>obtain⟨i1,i2,i3⟩:=Uz hu aT da ae I ad;refine⟨by simpa[tS,Op.equal,Op.maxDepth]using i1,fun e=>?_⟩;have:=i2 e;subst this;exact⟨rfl,by simp[Instr.sameBits,i3]⟩
 ·cases ad
theorem Oo{P:cM}{w:World}{Z:bg}{cj:kn}{t:hl}(aD:vf P cj t){k:aj}{gy:Value}(ae:be w Z k gy):∀(borns:List Nat) (kvs:List aj) (us:List Value) (i:Nat) (r:Option aj),cZ w Z kvs us->kvs.length=2*borns.length->uR cj k kvs=some r->
  match r with
  |none=>iH P w cj t gy (fV borns us) i none
  |some v=> ∃j u,iH P w cj t gy (fV borns us) i (some (j,u))/\be w Z v u
 |[],[],us,i,r,h,_,hm=>by simp only[uR]at hm;cases hm;simp only[cZ]at h;subst h;simpa[fV]using iH.nil P w cj t gy i
 |[],_::_,_,_,_,_,aw,_=>by simp at aw
 |b::e9,[],_,_,_,_,aw,_=>by simp at aw
 |b::e9,[_],_,_,_,_,aw,_=>by simp at aw;omega
 |b::e9,bJ::v::kvs,us,i,r,h,aw,hm=>by
  simp only[cZ]at h;obtain⟨jO,Qs,rfl,I,ki,tH,rfl,U,ao⟩:=h;simp only[uR]at hm;simp only[fV];cases bs:rW cj k bJ with
  |none=>simp[bs]at hm
  |some bb=>
   obtain⟨s1,_⟩:=Xp aD ae I bs;simp only[bs]at hm;cases bb with
   |true=>simp only[dD]at hm;subst hm;exact⟨i,ki,iH.hit (e:=⟨jO,ki,b⟩) s1,U⟩
   |false=>
    simp only at hm;have bK:=Oo aD ae e9 kvs tH (i+1) r ao (by simp at aw;omega) hm;cases r with
    |none=>exact iH.miss (e:=⟨jO,ki,b⟩) s1 bK
    |some v'=>obtain⟨j,u,g1,g2⟩:=bK;exact⟨j,u,iH.miss (e:=⟨jO,ki,b⟩) s1 g1,g2⟩
theorem Ls{P:cM}{w:World}{t:Nat}{d:TypeDesc}(hu:P.underlying t=some d)(aD:(∃k,d= .int k)\/d= .string)(e:Bool)(n:Nat)(v:Value):(Instr.checkKey e (n+1) t v).run P w= .ok () w:=by unfold Instr.checkKey;rcases aD with⟨k,rfl⟩|rfl<;>simp[run_underlying hu]
theorem agP{P:cM}{w:World}{Z:bg}{X:Array Value}(dT:List Bool):∀(gs:List Field) (n:Nat) (as:List aj),rs P n dT gs->dt w Z as (X.toList.drop n)->(kW dT as as).isSome=true->
  ∀f∈gs,(∃v,(part f.type X f.offset).run P w= .ok v w)/\∃d,P.underlying f.type=some d/\((∃k,d= .int k)\/d= .string):=by
 induction dT with
 |nil=>intro gs n as aT _ _ f aO;cases gs<;>simp only[rs]at aT;cases aO
 |cons yL r bK=>
  intro gs n as aT aN aq f aO;cases gs with
  |nil=>cases aO
  |cons g gs=>
  simp only[rs]at aT;obtain⟨⟨HX,Bm,pN⟩,aT⟩:=aT;cases as with
  |nil=>cases yL<;>simp[kW]at aq
  |cons p as=>
  have hJ:(kW r as as).isSome=true:=by cases yL<;>cases p<;>simp[kW]at aq⊢ <;>exact aq
  simp only[dt]at aN;obtain⟨u,ck,e,_,dq⟩:=aN;have aE:X.toList.drop (n+1)=ck:=by rw[<-List.tail_drop,e];rfl
  have E8:X[n]? =some u:=by rw[<-vb,<-List.head?_drop,e];rfl
  rcases eU.1 aO with rfl|aO
  ·refine⟨⟨u,by rw[HX];exact run_part_plain w (Fb pN) E8⟩,?_⟩;cases yL
   ·obtain⟨k,h⟩:=(by simpa using pN:∃k,P.underlying f.type=some (.int k));exact⟨_,h,.inl ⟨k,rfl⟩⟩
   ·exact⟨_,by simpa using pN,.inr rfl⟩
  ·exact bK gs (n+1) as aT (by rw[aE];exact dq) hJ f aO
theorem Vb{P:cM}{w:World}{α:Type}(body:α->PUnit->Sem (ForInStep PUnit)):∀(l:List α),(∀f∈l,(body f ⟨⟩).run P w= .ok (.yield ⟨⟩) w)->(forIn l PUnit.unit body).run P w= .ok PUnit.unit w
 |[],_=>by simp
 |f::l,h=>by simp only[List.forIn_cons,fZ,h f Ψ,gf];exact Vb body l fun g aT=>h g (by simp[aT])
theorem PT{P:cM}{w:World}{Z:bg}{cj:kn}{t:Nat}(aD:vf P cj t)(e:Bool){k:aj}{v:Value}(ae:be w Z k v)(hi:vV cj k=true):(Instr.checkKey e 10000 t v).run P w= .ok () w:=by
 cases aD with
 |i hu=>exact Ls hu (.inl ⟨_,rfl⟩) e 9999 v
 |s hu=>exact Ls hu (.inr rfl) e 9999 v
 |a hu aT da=>
  rename_i dT gs;cases k<;>simp only[vV,hk]at hi;rename_i as;simp only[be]at ae;obtain⟨X,rfl,ae⟩:=ae;unfold Instr.checkKey;simp only[fZ,run_underlying hu,gf];rw[<-Array.forIn_toList];rw[Vb]
  ·simp
  ·intro f aO;obtain⟨⟨v,I⟩,d,U,ao⟩:=agP dT gs.toList 0 as aT (by simpa using ae) hi f aO;have a7:=Ls (w:=w) U ao e 9998 v;by_cases au:f.name= "_"
   ·simp[au]
   ·simp[au,I,a7]
theorem X1{w:World}{Z:bg}{n:Nat}:∀(borns:List Nat) (kvs:List aj) (us:List Value) (p:aj),cZ w Z kvs us->nM n borns kvs=some p->∃e,(fV borns us).find? (·.born==n)=some e/\be w Z p (.tuple #[e.key,e.val])
 |[],_,_,_,_,hm=>by simp[nM]at hm
 |_::_,[],_,_,_,hm=>by simp[nM]at hm
 |_::_,[_],_,_,_,hm=>by simp[nM]at hm
 |b::e9,k::v::kvs,us,p,h,hm=>by
  simp only[cZ]at h;obtain⟨jO,Qs,rfl,I,ki,tH,rfl,U,ao⟩:=h;simp only[nM]at hm;simp only[fV];by_cases e:b=n
  ·rw[if_pos e]at hm;cases hm;refine⟨⟨jO,ki,b⟩,by simp[List.find?,e],?_⟩;simp only[be];exact⟨#[jO,ki],rfl,by simp only[cZ];exact⟨_,_,rfl,I,_,_,rfl,U,rfl⟩⟩
  ·rw[if_neg e]at hm;obtain⟨x,g1,g2⟩:=X1 e9 kvs tH p ao hm;have aif:(b==n)=false:=by simpa using e
   exact⟨x,by simp[List.find?,aif,g1],g2⟩
theorem abf{P:cM}{bH:List (Nat×dG)}(aC:fX P bH=true){C:fv}{st:bt}{a:Act}{w:World}{Z:bg}(aN:c7 C st a w Z){i:gk}(aie:∀cj z ok x k,i≠ .mgetB cj z ok x k){o:Oper}(ax:FU bH i o.op=true)
  {c:Prop} {p:aj} (he:hQ st i=some (c,p)) (aq:c):∃v,(execOp a.eval o).run P w= .ok (.value v) w/\be w Z p v:=by
 obtain⟨dst,op,type,pos,after,guard⟩:=o;simp only at ax;unfold FU at ax;split at ax
 ·rename_i x o;simp only[hQ]at he;cases he;exact⟨_,rfl,ez aN ax⟩
 ·rename_i x o;simp only[hQ]at he;cases he;exact⟨_,rfl,ez aN ax⟩
 ·rename_i cr x y asj QY QZ;simp only[cv]at ax;have I:=ez aN ax.1.1;have U:=ez aN ax.1.2;have ao:=ez aN ax.2;simp only[hQ,Jd]at he;split at he
  ·rename_i b ad;rw[ad]at I;simp only[be]at I;split at he
   ·rename_i u v hu az;cases he;rw[hu]at U;rw[az]at ao;simp only[be]at U ao;refine⟨.bool (cond b u v),?_,by simp[be]⟩;simp only[execOp,I,U,ao,asBool,fZ,gI,gf];cases b<;>rfl
   ·split at he
    ·cases he;exact⟨_,by simp only[execOp,I,asBool,fZ,gI,gf,if_true],U⟩
    ·cases he;exact⟨_,by simp only[execOp,I,asBool,fZ,gI,gf,hk,if_false],ao⟩
  ·cases he
 ·rename_i agg sz x t o;simp only[cv]at ax;obtain⟨I,U⟩:=ax;split at I
  ·rename_i f aO;simp only[cv,dO]at I;obtain⟨rfl,rfl⟩:=I;obtain⟨v,g1,g2⟩:=IL aC aN.good aO (ez aN U) (by simpa only[hQ]using he) aq;exact⟨v,me g1,g2⟩
  ·cases I
 ·rename_i off agg sz x s o i;simp only[cv]at ax;obtain⟨I,U⟩:=ax;split at I
  ·rename_i f aO;split at I
   ·rename_i xR t DZ;simp only[cv,dO]at I;obtain⟨rfl,I⟩:=I;split at I
    ·rename_i g aT;simp only[cv,dO,bne_iff_ne,ne_eq]at I;obtain⟨⟨rfl,rfl⟩,bB⟩:=I;obtain⟨v,g1,g2⟩:=agI aC aO rfl DZ aT bB (ez aN U) (by simpa only[hQ]using he) aq;exact⟨v,me g1,g2⟩
    ·cases I
   ·cases I
  ·cases I
 ·rename_i off agg sz x s o i;simp only[cv]at ax;obtain⟨I,U⟩:=ax;split at I
  ·rename_i f aO;split at I
   ·rename_i xR t DZ;simp only[cv,dO]at I;obtain⟨rfl,I⟩:=I;split at I
    ·rename_i g aT;simp only[cv,dO]at I;obtain⟨rfl,rfl⟩:=I;obtain⟨v,g1,g2⟩:=agQ aC aO rfl DZ aT (ez aN U) (by simpa only[hQ]using he) aq;exact⟨v,me g1,g2⟩
    ·cases I
   ·cases I
  ·cases I
 ·rename_i sz x i t o j;simp only[cv]at ax;obtain⟨⟨I,U⟩,ao⟩:=ax;split at I
  ·rename_i e aO;split at I
   ·rename_i g aT;simp only[dO]at I;subst I;obtain⟨v,g1,g2⟩:=ajY aC aO rfl aT (ez aN U) (ez aN ao) (by simpa only[hQ]using he) aq;exact⟨v,me g1,g2⟩
   ·cases I
  ·cases I
 ·rename_i x i t o j;simp only[cv]at ax;obtain⟨⟨I,U⟩,ao⟩:=ax;split at I
  ·rename_i aO;obtain⟨d,aD,fk⟩:=jM aC aO;obtain rfl:=AN fk;have ar:=ez aN U;have aE:=ez aN ao;simp only[hQ,JZ]at he;split at he
   ·rename_i s k n af au;cases he;rw[af]at ar;rw[au]at aE;simp only[be]at ar aE;obtain⟨qq,DU⟩:=aq;have bD:n.toNat<s.length:=Ω
    have aiK:(⟨s.toArray⟩:ByteArray)[n.toNat]? =some (s.getD n.toNat 0):=by exact ahM s n.toNat bD
    refine⟨_,me (v:= .int .u8 (s.getD n.toNat 0).toNat) ?_,by simp[be]⟩;simp only[Instr.index,aE,asIntOf,ar.1,fZ,gI,gf,run_underlying aD,qq,if_true,aiK]
   ·cases he
  ·cases I
 ·rename_i x lo hi t o l h;simp only[cv]at ax;obtain⟨⟨⟨I,U⟩,ao⟩,a7⟩:=ax;split at I
  ·rename_i aO;obtain⟨d,aD,fk⟩:=jM aC aO;obtain rfl:=AN fk;have ar:=ez aN U;simp only[hQ,J5]at he;split at he
   ·rename_i s af;rw[af]at ar;simp only[be]at ar;split at he
    ·rename_i rb cA aw MU;cases he;obtain⟨bY,cB,dE⟩:=aq;have aS:=I8 aN ao aw;have bh:=I8 aN a7 MU;refine⟨_,me (v:= .string ⟨((s.take cA.toNat).drop rb.toNat).toArray⟩) ?_,?_⟩
     ·have ad:=RM P w false s.length s.length (l.map a.eval) (h.map a.eval) rb cA
       aS bh bY cB dE (eo _)
      simp only[Instr.sliceAt,Instr.slice,ar.1,fZ,gI,gf,run_underlying aD,Option.map_none,je,hk,if_false,FI,ad,aeK]
     ·simp only[be];refine⟨trivial,?_⟩;have:=ar.2;simp only[tN,List.length_take];omega
    ·cases he
   ·cases he
  ·cases I
 ·rename_i sz x lo hi t o l h;simp only[cv]at ax;obtain⟨⟨⟨I,U⟩,ao⟩,a7⟩:=ax;split at I
  ·rename_i e aO;split at I
   ·rename_i g aT;simp only[dO]at I;subst I;obtain⟨d,aD,fk⟩:=jM aC aO;obtain rfl:=ua fk;obtain⟨_,dY⟩:=wO aC aT w;have ar:=ez aN U;simp only[hQ,IM]at he;split at he
    ·rename_i dN tag xs af;split at he
     ·rename_i fB;subst fB;rw[af]at ar;simp only[be]at ar;obtain⟨⟨pz,cap,az,b1,b2,fy⟩,_⟩:=ar;split at he
      ·rename_i rb cA aw MU;cases he;obtain⟨bY,cB,dE⟩:=aq;have aS:=I8 aN ao aw;have bh:=I8 aN a7 MU;have ad:=RM P w true xs.length cap (l.map a.eval) (h.map a.eval) rb cA
        aS bh bY cB dE b1
       refine⟨_,me (v:= .slice (if cap=rb.toNat then pz else pz.map (·.add (rb.toNat*g.size))) (cA.toNat-rb.toNat) (cap-rb.toNat)) ?_,?_⟩
       ·simp only[Instr.sliceAt,Instr.slice,az,fZ,gI,gf,run_underlying aD,Option.map_none,ad,dY]
       ·simp only[be];have hlen:((xs.take cA.toNat).drop rb.toNat).length=cA.toNat-rb.toNat:=by simp;omega
        refine⟨⟨_,_,by rw[hlen],by rw[hlen];omega,⟨Ω,by rw[hlen];omega⟩,?_⟩,(fun h=>by cases h),(fun g h=>by cases h),(fun _ _ h=>by cases h),(fun _ h=>by cases h)⟩;rcases fy with rfl|⟨b,off,us,rfl,g1,g2⟩
        ·left;simp
        ·by_cases Bb:cap=rb.toNat
         ·left;apply List.eq_nil_of_length_eq_zero;rw[hlen];omega
         ·right;rw[if_neg Bb];refine⟨b,off+rb.toNat*g.size,(us.take (cA.toNat*g.size)).drop (rb.toNat*g.size),by simp[qc],IF _ (IH _ g1),aai _ (aal _ g2)⟩
      ·cases he
     ·cases he
    ·cases he
   ·cases I
  ·cases I
 ·rename_i op wr x y Y1 ty o o' aqc;simp only[cv,eA]at ax;obtain⟨⟨rfl,I⟩,U⟩:=ax;obtain⟨r,g1,g2⟩:=adb P w Z (by simpa only[hQ]using he) aq ty (ez aN I) (ez aN U) o o';exact⟨r,me g1,g2⟩
 ·rename_i x op ty o;simp only[cv,eA]at ax;obtain⟨rfl,I⟩:=ax;have ar:=ez aN I;simp only[hQ]at he;unfold I3 at he;split at he
  ·rename_i b ad;cases he;rw[ad]at ar;simp only[be]at ar;exact⟨_,me (v:= .bool (!b)) (by simp[Op.unary,ar]),by simp[be]⟩
  ·cases he
 ·rename_i x op ty o;simp only[cv,eA]at ax;obtain⟨rfl,I⟩:=ax;have ar:=ez aN I;simp only[hQ]at he;unfold IZ at he;split at he
  ·rename_i k n ad;cases he;rw[ad]at ar;simp only[be]at ar;exact⟨_,me (v:= .int k (k.wrap (0-n))) (by simp[Op.unary,ar,Op.intArith]),by simp[be]⟩
  ·cases he
 ·rename_i k x s d o;simp only[cv]at ax;obtain⟨I,U⟩:=ax;split at I
  ·rename_i aS bh DX vH;simp only[eA]at I;subst I;obtain⟨d1,fF,ais⟩:=jM aC DX;obtain rfl:=G6 ais;obtain⟨d2,e5,ait⟩:=jM aC vH;obtain rfl:=G6 ait;have ar:=ez aN U;simp only[hQ]at he;unfold G2 at he;split at he
   ·rename_i bJ n ad;cases he;rw[ad]at ar;simp only[be]at ar;exact⟨_,me (v:= .int k (k.wrap n)) (by simp[convert,ar,run_underlying fF,run_underlying e5,Conv.intToInt]),by simp[be]⟩
   ·cases he
  ·cases I
 ·rename_i i x o j;simp only[cv,dO]at ax;obtain⟨rfl,I⟩:=ax;have ar:=ez aN I;simp only[hQ]at he;unfold AS at he;split at he
  ·rename_i bc ad;simp only[gB]at he;obtain⟨q,bs,he⟩:=he;cases he;rw[ad]at ar;simp only[be]at ar;obtain⟨us,hu,U⟩:=ar;obtain⟨v,g1,g2⟩:=Fu i U bs;have l3:us[i]? =some v:=by simpa using g1
   exact⟨v,me (by simp[Instr.extract,hu,l3]),g2⟩
  ·cases he
 ·rename_i x o t;simp only[cv]at ax;obtain⟨I,U⟩:=ax;have ar:=ez aN U;simp only[hQ]at he;unfold BO at he;split at he
  ·rename_i sz tag xs ad;cases he;rw[ad]at ar;simp only[be]at ar;obtain⟨⟨pz,cap,az,_⟩,_⟩:=ar;refine⟨.int .i64 xs.length,?_,by simp[be]⟩;split at I
   ·rename_i aO;obtain⟨d,aD,fk⟩:=jM aC aO;obtain rfl:=ua fk;simp[execOp,resolve,invoke,builtin,Builtin.len_,run_underlying aD,az,goInt]
   ·cases I
  ·rename_i sz k n ad;cases he;rw[ad]at ar;simp only[be]at ar;obtain⟨⟨pz,cap,az⟩,_⟩:=ar;refine⟨.int .i64 n,?_,by simp[be]⟩;split at I
   ·rename_i aO;obtain⟨d,aD,fk⟩:=jM aC aO;obtain rfl:=ua fk;simp[execOp,resolve,invoke,builtin,Builtin.len_,run_underlying aD,az,goInt]
   ·cases I
  ·rename_i pz n cap ad;cases he;rw[ad]at ar;simp only[be]at ar;refine⟨.int .i64 n,?_,by simp[be]⟩;split at I
   ·rename_i aO;obtain⟨d,aD,fk⟩:=jM aC aO;obtain rfl:=ua fk;simp[execOp,resolve,invoke,builtin,Builtin.len_,run_underlying aD,ar,goInt]
   ·cases I
  ·cases he
 ·rename_i x o t;simp only[cv]at ax;obtain⟨I,U⟩:=ax;have ar:=ez aN U;simp only[hQ]at he;unfold FJ at he;split at he
  ·rename_i s ad;cases he;rw[ad]at ar;simp only[be]at ar;refine⟨.int .i64 s.length,?_,by simp[be]⟩;split at I
   ·rename_i aO;obtain⟨d,aD,fk⟩:=jM aC aO;obtain rfl:=AN fk;simp[execOp,resolve,invoke,builtin,Builtin.len_,run_underlying aD,ar.1,goInt,FI]
   ·cases I
  ·rename_i s ad;cases he;rw[ad]at ar;simp only[be]at ar;refine⟨.int .i64 s.size,?_,by simp[be]⟩;split at I
   ·rename_i aO;obtain⟨d,aD,fk⟩:=jM aC aO;obtain rfl:=AN fk;simp[execOp,resolve,invoke,builtin,Builtin.len_,run_underlying aD,ar,goInt]
   ·cases I
  ·cases he
 ·rename_i zero parts t cC;split at ax
  ·rename_i dT z aO;simp only[cv]at ax;obtain⟨⟨I,U⟩,ao⟩:=ax;have a8:=arB I;obtain⟨i,d,Q0,ar,aE,bA,dr,iw,ix,sw,sx⟩:=(wQ aC aO).ex;obtain⟨gs,rfl,kF⟩:=Lx iw;simp only at a8 sw sx;subst a8;have lI:(gs.toList.all fun f=>(er bH f.type).isSome)=true:=by rw[<-kF]at U;simpa[List.all_map,Function.comp_def]using U
   obtain⟨places,cT,dm⟩:=Zb aC gs.toList lI;rw[kF]at dm;cases Q0<;>simp only[Am]at sw;case agg us=>
    simp only[hQ]at he;cases ad:vp st.t zero parts with
    |none=>simp[ad]at he
    |some x=>obtain⟨cr,cs'⟩:=x;simp only[ad,nT]at he;cases he;obtain⟨ck,g1,g2⟩:=aay aN dm parts cC.toList zero us c cs' ao (Q2 w Z _ _ sw) ad aq;refine⟨.agg ck,me (run_build w t _ ck ?_),by simp only[be];exact⟨ck,rfl,g2⟩⟩;simp only[Program.built,ar,aE,ix,cT,p5];simpa using g1
   all_goals cases sw
  ·cases ax
 ·rename_i x o;have ar:=ez aN ax;simp only[hQ]at he;unfold B1 at he;split at he
  ·rename_i k off ad;cases he;rw[ad]at ar;have aE:=ar;simp only[be]at ar;obtain⟨b,_,az⟩:=ar;exact⟨a.eval o,by simp[execOp,az],aE⟩
  ·rename_i q ad;cases he;rw[ad]at ar;have aE:=ar;simp only[be]at ar;obtain⟨b,off,u,az,_⟩:=ar;exact⟨a.eval o,by simp[execOp,az],aE⟩
  ·rename_i f cs ad;cases he;rw[ad]at ar;have aE:=ar;simp only[be]at ar;obtain⟨us,az,_⟩:=ar;exact⟨a.eval o,by simp[execOp,az],aE⟩
  ·cases he
 ·rename_i x y o o' t dH;simp only[cv]at ax;have ar:=ez aN ax.1;have aE:=ez aN ax.2;simp only[hQ]at he;unfold IX at he;split at he
  ·rename_i k m bJ n hm au;split at he
   ·rename_i ae;subst ae;cases he;rw[hm]at ar;rw[au]at aE;simp only[be]at ar aE;exact⟨.int k (if n<m then n else m),by simp[execOp,resolve,invoke,builtin,Builtin.min_,Builtin.min2,ar,aE],by simp[be]⟩
   ·cases he
  ·cases he
 ·rename_i n xs m os;simp only[cv,dO]at ax;obtain⟨rfl,ax⟩:=ax;simp only[hQ]at he;cases he;have vE:=Ft aN ax;refine⟨.func (.func n) #[] (os.map a.eval),by simp[execOp,Instr.makeFunc],?_⟩;simp only[be];exact⟨os.map a.eval,rfl,by simpa using vE⟩
 ·rename_i cj zero ok x k t o o' I4;simp only[cv,dO]at ax;obtain⟨⟨⟨rfl,I⟩,U⟩,ao⟩:=ax;have ar:=ez aN U;have aE:=ez aN ao;split at I
  ·rename_i sz l2 nK qm z aO;simp only[cv]at I;obtain⟨aiU,ML⟩:=I;split at ML
   ·rename_i asX aix;have a8:=Q4 ML;obtain⟨cQ,hu,fk⟩:=jM aC aO;have uq:cQ= .map nK qm:=by cases cQ<;>simp[kX]at fk;obtain⟨rfl,rfl⟩:=fk;rfl
    subst uq;obtain⟨bT,lX,z2,_⟩:=Qm aC aix w;rw[<-a8]at z2;have aa:=(Q3 w Z z2).1;have mU:=NQ aC aiU;simp only[hQ]at he;unfold nN at he;split at he
    ·rename_i key ab;rw[ab]at ar;simp only[be]at ar;obtain⟨bl,b1,b2⟩:=ar;split at he
     ·rename_i clock borns kvs ia;obtain⟨jk,us,el,g1,g2,g3,g4,g5⟩:=aN.good.box key _ ia;rw[b1]at g1;cases g1;simp only[ky]at g4;simp only[j3]at g5;have ij:(getObj bl).run P w= .ok (.map (fV borns us.toList).toArray clock) w:=wI g4;split at he
      ·cases he
      rename_i vM;have xg:=PT (P:=P) (w:=w) mU ((fV borns us.toList).toArray.isEmpty) aE (by simpa using vM);split at he
      ·rename_i v hm;cases he;obtain⟨j,u,f1,f2⟩:=Oo mU aE borns kvs us.toList 0 _ g5.1 g5.2.len hm;refine⟨if ok then .tuple #[u,.bool true]else u,?_,?_⟩
       ·simp only[execOp];refine me ?_;simp only[Instr.lookup,fZ,run_underlying hu,gf,b2,ij,gI,xg,f1.run mU]
       ·cases ok
        ·simpa using f2
        ·simp only[if_true,be];exact⟨_,rfl,by simp only[cZ];exact⟨_,_,rfl,f2,_,_,rfl,by simp[be],rfl⟩⟩
      ·rename_i hm;cases he;have f1:=Oo mU aE borns kvs us.toList 0 _ g5.1 g5.2.len hm;simp only at f1;refine⟨if ok then .tuple #[bT,.bool false]else bT,?_,?_⟩
       ·simp only[execOp];refine me ?_;simp only[Instr.lookup,fZ,run_underlying hu,gf,b2,ij,gI,xg,f1.run mU,lX]
       ·cases ok
        ·simpa using aa
        ·simp only[if_true,be];exact⟨_,rfl,by simp only[cZ];exact⟨_,_,rfl,aa,_,_,rfl,by simp[be],rfl⟩⟩
      ·cases he
     ·cases he
    ·cases he
   ·cases ML
  ·cases I
 ·rename_i x o;have ar:=ez aN ax;simp only[hQ]at he;unfold qy at he;split at he
  ·rename_i fL ab;rw[ab]at ar;simp only[be]at ar;obtain⟨bl,b1,b2⟩:=ar;split at he
   ·rename_i since seen last mk ia;obtain⟨jk,us,el,g1,g2,g3,g4,g5⟩:=aN.good.box fL _ ia;rw[b1]at g1;cases g1;simp only[ky]at g4;simp only[j3,cZ,be]at g5;obtain⟨u,ck,rS,⟨mb,m1,rfl⟩,rfl⟩:=g5;rw[rS]at g4;simp only at g4;split at he
    ·rename_i clock borns kvs ai5;obtain⟨asg,tH,asK,aS,bh,bX,ed,dn⟩:=aN.good.box mk _ ai5;rw[m1]at aS;cases aS;simp only[ky]at ed;simp only[j3]at dn;split at he
     ·rename_i n au;simp only[gB]at he;obtain⟨q,bs,he⟩:=he;cases he;obtain⟨e,f1,f2⟩:=X1 borns kvs tH.toList p dn.1 bs;refine⟨.tuple #[e.key,e.val],?_,f2⟩;simp only[execOp];refine me ?_;have aiF:(getObj bl).run P w= .ok (.mapIter (some mb) since seen.toArray last) w:=wI g4;have aiG:(getObj mb).run P w= .ok (.map (fV borns tH.toList).toArray clock) w:=wI ed;have MC:seen.toArray.back? =some n:=by simpa using au
      have Bc:(clock !=last)=false:=by simp[aq]
      have aiy:(fV borns tH.toList).toArray.find? (·.born==n)=some e:=by simpa using f1
      simp only[Instr.entry,b2,fZ,aiF,gf,MC,aiG,Bc,hk,if_false,aiy,gI]
     ·cases he
    ·cases he
   ·cases he
  ·cases he
 ·rename_i x o t;simp only[cv]at ax;obtain⟨I,U⟩:=ax;have ar:=ez aN U;simp only[hQ]at he;unfold B0 at he;split at he
  ·rename_i key ad;rw[ad]at ar;simp only[be]at ar;obtain⟨bl,b1,b2⟩:=ar;split at he
   ·rename_i clock borns kvs ia;cases he;obtain⟨jk,us,el,g1,g2,g3,g4,g5⟩:=aN.good.box key _ ia;rw[b1]at g1;cases g1;simp only[ky]at g4;simp only[j3]at g5;have ij:(getObj bl).run P w= .ok (.map (fV borns us.toList).toArray clock) w:=wI g4;have hlen:(fV borns us.toList).length=borns.length:=Us g5.2.len (aaq g5.1);refine⟨.int .i64 borns.length,?_,by simp[be]⟩;split at I
    ·rename_i aO;obtain⟨d,aD,fk⟩:=jM aC aO;obtain⟨nK,qm,rfl⟩:∃nK qm,d= .map nK qm:=by cases d<;>simp[kX]at fk;exact⟨_,_,rfl⟩
     simp[execOp,resolve,invoke,builtin,Builtin.len_,run_underlying aD,b2,goInt,ij,hlen]
    ·cases I
   ·cases he
  ·cases he
 ·rename_i neg dT x y op t o o' aqc;simp only[cv,eA]at ax;obtain⟨⟨⟨rfl,bB⟩,I⟩,U⟩:=ax;have ar:=ez aN I;have aE:=ez aN U;simp only[hQ]at he;unfold jj at he;split at he
  ·rename_i bq b3 bk ad;simp only at bB;cases he;rw[bk]at ar;rw[ad]at aE;simp only[be]at ar aE;split at bB
   ·rename_i aO;obtain⟨d,aD,fk⟩:=jM aC aO;obtain rfl:d= .bool:=by cases d<;>simp[kX]at fk;rfl
    refine⟨.bool (if neg then bq !=b3 else bq==b3),me ?_,by simp[be]⟩;cases neg<;>simp[ar,aE,eqGuard,binOp,adT aD,bne]
   ·cases bB
  ·rename_i as4 as e9 bk ad;simp only at bB;simp only[gB]at he;obtain⟨q,bs,he⟩:=he;cases he;rw[bk]at ar;rw[ad]at aE;simp only[be]at ar aE;obtain⟨X,adF,an6⟩:=ar;obtain⟨Y,adG,an7⟩:=aE;obtain⟨gs,hu,aT,da,jH⟩:=U7 aC bB;obtain⟨i1,_,_⟩:=Uz hu aT da an6 an7 bs;refine⟨.bool (if neg then !q else q),me ?_,by simp[be]⟩;rw[adF,adG];cases neg
   ·simp only[hk,if_false,fZ,run_eqGuard_agg w _ t o o' X Y jH,gf,run_eql_struct,i1]
   ·simp only[if_true,fZ,run_eqGuard_agg w _ t o o' X Y jH,gf,run_neq_struct,i1]
  ·cases he
 ·rename_i x y o o' t dH;simp only[cv]at ax;have ar:=ez aN ax.1;have aE:=ez aN ax.2;simp only[hQ]at he;unfold IT at he;split at he
  ·rename_i k m bJ n hm au;split at he
   ·rename_i ae;subst ae;cases he;rw[hm]at ar;rw[au]at aE;simp only[be]at ar aE;exact⟨.int k (if m<n then n else m),by simp[execOp,resolve,invoke,builtin,Builtin.max_,Builtin.max2,ar,aE],by simp[be]⟩
   ·cases he
  ·cases he
 ·rename_i t x dH o;simp only[cv,dO]at ax;obtain⟨⟨rfl,I⟩,U⟩:=ax;have ar:=ez aN U;simp only[hQ]at he;cases he;split at I
  ·rename_i aO;obtain⟨d,aD,fk⟩:=jM aC aO;obtain rfl:=ua fk;refine⟨.iface t (a.eval o),me (by simp[Instr.makeInterface,run_underlying aD]),?_⟩;simp only[be];exact⟨_,rfl,ar⟩
  ·cases I
 ·rename_i agg sz x t o;simp only[cv]at ax;obtain⟨I,U⟩:=ax;split at I
  ·rename_i f aO;simp only[cv,dO]at I;obtain⟨rfl,rfl⟩:=I;obtain⟨v,g1,g2⟩:=IL aC aN.good aO (ez aN U) (ak0 (by simpa only[hQ]using he)) aq;exact⟨v,me g1,g2⟩
  ·cases I
 ·rename_i agg sz x t o;simp only[cv]at ax;obtain⟨I,U⟩:=ax;split at I
  ·rename_i f aO;simp only[cv,dO]at I;obtain⟨rfl,rfl⟩:=I;obtain⟨v,g1,g2⟩:=IL aC aN.good aO (ez aN U) (agZ (by simpa only[hQ]using he)) aq;exact⟨v,me g1,g2⟩
  ·cases I
 ·exact absurd rfl (aie _ _ _ _ _)
 ·cases ax
theorem aql{P:cM}{bH:List (Nat×dG)}(aC:fX P bH=true){C:fv}{st:bt}{a:Act}{w:World}{Z:bg}(aN:c7 C st a w Z){i:gk}{o:Oper}(ax:FU bH i o.op=true)
  {c:Prop} {p:aj} (he:hQ st i=some (c,p)) (aq:c):∃v,(execOp a.eval o).run P w= .ok (.value v) w/\be w Z p v:=by
 by_cases ad:∃cj z ok x k,i= .mgetB cj z ok x k
 ·obtain⟨cj,z,ok,x,k,rfl⟩:=ad;refine abf aC aN (i:= .mget cj z ok x k) (fun _ _ _ _ _ e=>by cases e) ?_ he aq;obtain⟨dst,op,type,pos,after,guard⟩:=o;cases op<;>first|exact ax|simp[FU]at ax
 ·exact abf aC aN (fun cj z ok x k e=>ad ⟨cj,z,ok,x,k,e⟩) ax he aq
theorem T2{w:World}{o:Obj}{b i:Nat}(h:b<w.heap.size):(w.alloc o).cell? ⟨b,i,none⟩=w.cell? ⟨b,i,none⟩:=World.cell?_of_block (Below.heap_alloc w o b h)
def bg.withBox(Z:bg)(k:aM)(bl:Nat):bg:={Z with bx:=fun j=>if j=k then some bl else Z.bx j}
def bg.withOwn(Z:bg)(k:aM)(n:Nat)(v:Value):bg:={Z with ow:=fun j=>if j=k then some (n,v)else Z.ow j}
theorem c7.lookNone{C:fv}{st:bt}{a:Act}{w:World}{Z:bg}(h:c7 C st a w Z){k:aM}(ae:fresh st.n st.o k):look k st.b=none/\look k st.e=none:=by
 obtain⟨I,U,_⟩:=h.new k ae;constructor
 ·cases ad:look k st.b with
  |none=>rfl
  |some cs=>obtain⟨bl,us,el,g1,_⟩:=h.good.box _ _ ad;rw[I]at g1;cases g1
 ·cases ad:look k st.e with
  |none=>rfl
  |some o=>obtain⟨v,us,g1,_⟩:=h.good.own _ _ ad;rw[U]at g1;cases g1
theorem Good.ownLt{pr:Nat->Prop}{w:World}{Z:bg}{b:List (aM×List aj)}{e:List (aM×fU)}(h:Good pr w Z b e){g:aM}{o:fU}(aT:look g e=some o){n:Nat}{v:Value}(az:Z.ow g=some (n,v)){bl:Nat}(ad:v.ownBlock=some bl):bl<w.heap.size:=by obtain⟨v',us,g1,g2,_⟩:=h.own g o aT;rw[az]at g1;cases g1;exact(g2.lt bl ad).2
theorem Good.boxLt{pr:Nat->Prop}{w:World}{Z:bg}{b:List (aM×List aj)}{e:List (aM×fU)}(h:Good pr w Z b e){k:aM}{cs:List aj}(ae:look k b=some cs){bl:Nat}(ad:Z.bx k=some bl):bl<w.heap.size:=by obtain⟨jk,us,el,g1,_,_,g4,_⟩:=h.box k cs ae;rw[ad]at g1;cases g1;exact(Array.getElem?_eq_some_iff.1 g4).1
theorem c7.newBox{C:fv}{st:bt}{a:Act}{w:World}{Z:bg}(h:c7 C st a w Z){hz:aM}(y2:Z.bx hz=none/\Z.ow hz=none/\∀j b,¬Z.tr hz j b){n':Nat}{o':List aM}(cW:∀j,fresh n' o' j->fresh st.n st.o j/\j≠hz){cs:List aj}{us:Array Value}(el:hl)(aq:j3 w Z cs us.toList):
  c7 C {st with b:=cI hz cs st.b,n:=n',o:=o'} a (w.alloc (ky cs us el)) (Z.withBox hz w.heap.size)/\
  be (w.alloc (ky cs us el)) (Z.withBox hz w.heap.size) (.ptr hz 0) (.pointer (some ⟨w.heap.size,0,none⟩)):=by
 obtain⟨nC,D7,ajb⟩:=y2;have ax:mj w Z (w.alloc (ky cs us el)) (Z.withBox hz w.heap.size):=by
  refine⟨fun b o bm=>⟨bm,T2 (h.good.alt b o bm)⟩,fun k b _ ae=>?_,fun g n u _ aT=>⟨n,u,aT,.inl ⟨rfl,rfl⟩⟩,fun b o bm=>x3 (Below.heap_alloc w _ b (h.good.alt b o bm)),fun _ _ _ _ h=>h⟩;have:k≠hz:=fun e=>by subst e;rw[nC]at ae;cases ae
  simp[bg.withBox,this,ae]
 have dY:(w.alloc (ky cs us el)).heap.size=w.heap.size+1:=by simp
 have ld:∀k,(look k (cI hz cs st.b)).isSome->k=hz\/(k≠hz/\(look k st.b).isSome/\(Z.withBox hz w.heap.size).bx k=Z.bx k):=by
  intro k ae;by_cases e:k=hz
  ·exact .inl e
  ·rw[jL,if_neg (lY e)]at ae;exact .inr ⟨e,ae,by simp[bg.withBox,e]⟩
 refine⟨h.over ax rfl ⟨fun bl o bm=>by rw[dY];have:=h.good.alt bl o bm;omega,fun k e4 ae=>?_,fun k bJ bl ae mx ar aE=>?_,fun g o aT=>?_,h.good.oinj,fun g k n v bl aT ae az ad ab=>?_,fun k=>?_,fun bl ad k j aC=>?_⟩
  ⟨h.fr.os,h.fr.tape,h.fr.output,by rw[dY];have:=h.fr.size;omega,fun k ae hm=>?_,fun b o bm=>?_,h.fr.fresh,fun n b ad=>?_,h.fr.obn,h.fr.row,h.fr.obr,h.fr.trd,fun k j b ad=>⟨(h.fr.trb k j b ad).1,by rw[dY];have:=(h.fr.trb k j b ad).2;omega⟩,fun k j b ad=>?_,fun b o bm=>(ax.sh b o (h.fr.keep b o bm).1).trans (h.fr.sh b o bm)⟩ (fun m hm=>?_),?_⟩
 ·simp only at ae;rw[jL]at ae;by_cases e:hz=k
  ·rw[if_pos e]at ae;cases ae;subst e;refine⟨w.heap.size,us,el,by simp[bg.withBox],.inr h.fr.size,fun o bm=>?_,heap_alloc_new w _,rj ax aq⟩;have:=h.good.alt _ o bm;omega
  ·rw[if_neg e]at ae;obtain⟨bl,ck,gl,g1,g2,g3,g4,g5⟩:=h.good.box k e4 ae;exact⟨bl,ck,gl,ax.bx _ _ trivial g1,g2,g3,by rw[Below.heap_alloc w _ bl (Array.getElem?_eq_some_iff.1 g4).1];exact g4,rj ax g5⟩
 ·rcases ld k ae with rfl|⟨jc,gG,jZ⟩<;>rcases ld bJ mx with rfl|⟨m1,m2,m3⟩
  ·rfl
  ·exfalso;simp only[bg.withBox,if_true,dD]at ar;subst ar;rw[m3]at aE;obtain⟨e4,jG⟩:=fH.1 m2;have:=h.good.boxLt jG aE;omega
  ·exfalso;simp only[bg.withBox,if_true,dD]at aE;subst aE;rw[jZ]at ar;obtain⟨e4,jG⟩:=fH.1 gG;have:=h.good.boxLt jG ar;omega
  ·rw[jZ]at ar;rw[m3]at aE;exact h.good.inj k bJ bl gG m2 ar aE
 ·obtain⟨v,xs,g1,g2,g3,g4⟩:=h.good.own g o aT;exact⟨v,xs,g1,g2.alloc _,g3,tw ax (fun _ _ _ h=>h) g4⟩
 ·rcases ld k ae with rfl|⟨jc,gG,jZ⟩
  ·simp only[bg.withBox,if_true,dD]at ab;subst ab;obtain⟨o,iA⟩:=fH.1 aT;have:=h.good.ownLt iA az ad;omega
  ·rw[jZ]at ab;exact h.good.obx g k n v bl aT gG az ad ab
 ·by_cases e:k=hz
  ·subst e;exact .inr D7
  ·rcases h.good.one k with I|I
   ·exact .inl (by simp[bg.withBox,e,I])
   ·exact .inr I
 ·rcases ad with⟨bJ,bF,a2⟩|ad
  ·rcases ld bJ bF with rfl|⟨jc,gG,jZ⟩
   ·simp[bg.withBox]at a2;subst a2;exact absurd (h.fr.trb k j _ aC).2 (Nat.lt_irrefl _)
   ·exact h.good.otr bl (.inl ⟨bJ,gG,by rw[<-jZ];exact a2⟩) k j aC
  ·exact h.good.otr bl (.inr ad) k j aC
 ·rw[Below.heap_alloc w _ k (by have:=h.fr.size;omega)];exact h.fr.block k ae hm
 ·obtain⟨aS,bh⟩:=h.fr.keep b o bm;exact⟨aS,(T2 (h.good.alt b o aS)).trans bh⟩
 ·exact ax.bx _ _ trivial (h.fr.obj n b ad)
 ·have cG:k≠hz:=fun e=>by subst e;exact ajb j b ad
  obtain⟨t1,t2⟩:=h.fr.trn k j b ad;exact⟨by simp[bg.withBox,cG,t1],t2⟩
 ·obtain⟨f1,f2⟩:=cW m hm;obtain⟨aS,bh⟩:=h.new m f1;refine⟨?_,bh⟩;simp[bg.withBox,f2,aS]
 ·simp[be,bg.withBox]
theorem c7.setBox{C:fv}{st:bt}{a:Act}{w w':World}{Z:bg}(h:c7 C st a w Z){k:aM}{cs cs':List aj}(ae:look k st.b=some cs){bl:Nat}(ad:Z.bx k=some bl){us:Array Value}{el:hl}
  (Bo:w'.os=w.os) (Nk:w'.tape=w.tape) (M5:w'.output=w.output) (oh:∀j,j≠bl->w'.heap[j]? =w.heap[j]?) (dY:w'.heap.size=w.heap.size) (kG:w'.heap[bl]? =some (ky cs' us el)) (aq:j3 w Z cs' us.toList):
  c7 C {st with b:=cI k cs' st.b} a w' Z/\mj w Z w' Z:=by
 obtain⟨jk,fS,asJ,g1,g2,g3,g4,g5⟩:=h.good.box k cs ae;rw[ad]at g1;cases g1;have ax:mj w Z w' Z:=by
  refine⟨fun b o bm=>⟨bm,World.cell?_of_block (oh b fun e=>?_)⟩,fun _ _ _ h=>h,fun g n u _ aT=>⟨n,u,aT,.inl ⟨rfl,rfl⟩⟩,fun b o bm=>x3 (oh b fun e=>?_),fun _ _ _ _ h=>h⟩<;>
  (subst e;exact g3 o bm)
 have HP:∀j,(look j (cI k cs' st.b)).isSome->(look j st.b).isSome:=by
  intro j ag;rw[jL]at ag;by_cases e:k=j
  ·subst e;simp[ae]
  ·rwa[if_neg e]at ag
 refine⟨h.over ax rfl ⟨fun b o bm=>by rw[dY];exact h.good.alt b o bm,fun j e4 ag=>?_,fun j dL b ag j9=>h.good.inj j dL b (HP j ag) (HP dL j9),fun g o aT=>?_,h.good.oinj,fun g j n v b aT ag=>h.good.obx g j n v b aT (HP j ag),h.good.one,fun bl ad=>h.good.otr bl (ad.imp (fun⟨k,I,U⟩=>⟨k,HP k I,U⟩) id)⟩
  ⟨Bo.trans h.fr.os,Nk.trans h.fr.tape,M5.trans h.fr.output,by rw[dY];exact h.fr.size,fun j ag hm=>?_,fun b o bm=>?_,h.fr.fresh,h.fr.obj,h.fr.obn,h.fr.row,h.fr.obr,h.fr.trd,fun k j b ad=>⟨(h.fr.trb k j b ad).1,by rw[dY];exact(h.fr.trb k j b ad).2⟩,h.fr.trn,fun b o bm=>(ax.sh b o (h.fr.keep b o bm).1).trans (h.fr.sh b o bm)⟩ h.new,ax⟩
 ·simp only at ag;rw[jL]at ag;by_cases e:k=j
  ·rw[if_pos e]at ag;cases ag;subst e;exact⟨bl,us,el,ad,g2,g3,kG,rj ax aq⟩
  ·rw[if_neg e]at ag;obtain⟨b,ck,gl,ar,aE,bA,dr,iw⟩:=h.good.box j e4 ag;refine⟨b,ck,gl,ar,aE,bA,?_,rj ax iw⟩;rw[oh b fun fJ=>e (h.good.inj k j bl (by simp[ae]) (by simp[ag]) ad (by rw[<-fJ];exact ar))];exact dr
 ·obtain⟨v,xs,ar,aE,bA,dr⟩:=h.good.own g o aT;refine⟨v,xs,ar,⟨aE.1,?_⟩,bA,tw ax (fun _ _ _ h=>h) dr⟩;rcases aE.2 with aE|⟨bb,cap,cur,f1,f2,f3,f4⟩
  ·exact .inl aE
  ·refine .inr ⟨bb,cap,cur,f1,f2,?_,f4⟩;rw[oh bb fun fJ=>h.good.obx g k o.n v bl (by simp[aT]) (by simp[ae]) ar (by rw[f1,<-fJ];rfl) ad];exact f3
 ·rw[oh j fun e=>by subst e;exact g2.elim hm (fun g2=>Ω)];exact h.fr.block j ag hm
 ·obtain⟨aS,bh⟩:=h.fr.keep b o bm;exact⟨aS,(ax.A b o aS).2.trans bh⟩
theorem c7.storeBox{C:fv}{st:bt}{a:Act}{w:World}{Z:bg}(h:c7 C st a w Z){k:aM}{cs cs':List aj}(ae:look k st.b=some cs){bl:Nat}(ad:Z.bx k=some bl)(bG:iq cs=true){us:Array Value}(aq:dt w Z cs' us.toList):
  c7 C {st with b:=cI k cs' st.b} a (w.setRow bl us) Z:=by
 obtain⟨jk,fS,el,g1,g2,g3,g4,g5⟩:=h.good.box k cs ae;rw[ad]at g1;cases g1;rw[wy bG]at g4;have Wv:=Cz aq;exact(h.setBox (w':=w.setRow bl us) ae ad (us:=us) (el:=el) rfl rfl rfl (fun j ag=>setRow_other w bl j us ag) (setRow_size w bl us) (by rw[wy Wv];exact setRow_heap w bl fS us el _ g4) (by rw[wz Wv];exact aq)).1
def bg.withRowOf(Z:bg)(k:aM)(v:Value)(n cells:Nat):bg:={A:=fun b o=>Z.A b o\/(v.ownBlock=some b/\o<cells),bx:=Z.bx,ow:=fun j=>if j=k then some (n,v)else Z.ow j,tr:=Z.tr}
theorem BN{w:World}{A:Nat->Nat->Prop}{b:Nat}:∀(us:List Value) (off:Nat),(∀j u,us[j]? =some u->A b (off+j)/\w.cell? ⟨b,off+j,none⟩=some u)->mE w A b off us
 |[],_,_=>trivial
 |u::us,off,h=>⟨h 0 u rfl,BN us (off+1) fun j x ag=>by have:=h (j+1) x (by simpa using ag);rwa[show off+(j+1)=off+1+j from by omega]at this⟩
theorem GZ{w w':World}(aT:w.grownBy w' none){b i:Nat}(h:b<w.heap.size):w'.cell? ⟨b,i,none⟩=w.cell? ⟨b,i,none⟩:=World.cell?_of_block (aT.block b h Ψ)
theorem c7.newRowM{C:fv}{st:bt}{a:Act}{w w':World}{Z:bg}(h:c7 C st a w Z){k:aM}{xs:List aj}(ae:(Z.bx k=none/\Z.ow k=none/\∀j b,¬Z.tr k j b)\/ ∃o,look k st.e=some o/\o.n<xs.length){el sz:Nat}{v:Value}{us:List Value}
  (aT:w.grownBy w' none) (mz:w'.ownsRow w.heap.size el sz v xs.length us) (aq:dK w Z sz xs us) (ik:xs.length<=lim) {n':Nat} {o':List aM} (cW:∀j,fresh n' o' j->fresh st.n st.o j/\j≠k):
  c7 C {st with e:=cI k ⟨xs.length,el,sz,some xs⟩ st.e,n:=n',o:=o'} a w' (Z.withOwn k xs.length v)/\
  ((∃b cap,v= .slice (some ⟨b,0,none⟩) xs.length cap)->be w' (Z.withOwn k xs.length v) (.row sz k xs.length) v):=by
 have qZ:∀bl,v.ownBlock=some bl->w.heap.size<=bl/\bl<w'.heap.size:=fun bl ad=>mz.lt bl ad;have ax:mj w Z w' (Z.withOwn k xs.length v):=by
  refine⟨fun b o bm=>⟨bm,GZ aT (h.good.alt b o bm)⟩,fun j b _ ag=>ag,fun g n u _ jH=>?_,fun b o bm=>x3 (aT.block b (h.good.alt b o bm) Ψ),fun _ _ _ _ h=>h⟩;by_cases e:g=k
  ·subst e;rcases ae with ae|⟨o,ax,bD⟩
   ·rw[ae.2.1]at jH;cases jH
   ·obtain⟨v0,fS,ar,_⟩:=h.good.own g o ax;rw[ar]at jH;cases jH;exact⟨xs.length,v,by simp[bg.withOwn],.inr bD⟩
  ·exact⟨n,u,by simp[bg.withOwn,e,jH],.inl ⟨rfl,rfl⟩⟩
 have lJ:∀g,(look g (cI k ⟨xs.length,el,sz,some xs⟩ st.e)).isSome->g=k\/(g≠k/\(look g st.e).isSome/\(Z.withOwn k xs.length v).ow g=Z.ow g):=by
  intro g kF;by_cases e:g=k
  ·exact .inl e
  ·rw[jL,if_neg (lY e)]at kF;exact .inr ⟨e,kF,by simp[bg.withOwn,e]⟩
 have Wq:∀bl,v.ownBlock=some bl->∀j,¬Z.A bl j:=fun bl ad j bm=>by have I:=h.good.alt bl j bm;have:=(qZ bl ad).1;omega
 have aji:∀j b,¬Z.tr k j b:=fun j b ad=>by
  rcases ae with ae|⟨o,iA,_⟩
  ·exact ae.2.2 j b ad
  ·obtain⟨v0,fS,ar,_⟩:=h.good.own k o iA;rw[(h.fr.trn k j b ad).2]at ar;cases ar
 refine⟨h.over ax rfl ⟨fun bl o bm=>?_,fun j e4 ag=>?_,h.good.inj,fun g o dF=>?_,fun g fj n n' u fu bl I U ao a7 b8 c6=>?_,fun g j n u bl I U ao a7 b8=>?_,fun j=>?_,fun bl ad bJ j aC=>?_⟩
  ⟨aT.os.trans h.fr.os,aT.tape.trans h.fr.tape,aT.output.trans h.fr.output,hn h.fr.size aT.size,fun j ag hm=>?_,fun b o bm=>?_,h.fr.fresh,h.fr.obj,h.fr.obn,fun m n u hm=>Fw (h.fr.row m n u hm) (fun n u=>ax.ow _ n u trivial),h.fr.obr,h.fr.trd,fun k j b ad=>⟨(h.fr.trb k j b ad).1,Nat.lt_of_lt_of_le (h.fr.trb k j b ad).2 aT.size⟩,fun bJ j b ad=>?_,fun b o bm=>(ax.sh b o (h.fr.keep b o bm).1).trans (h.fr.sh b o bm)⟩ (fun m hm=>?_),?_⟩
 ·have:=h.good.alt bl o bm;have:=aT.size;omega
 ·obtain⟨bl,ck,gl,g1,g2,g3,g4,g5⟩:=h.good.box j e4 ag;have bD:=(Array.getElem?_eq_some_iff.1 g4).1;exact⟨bl,ck,gl,g1,g2,g3,by rw[aT.block bl bD Ψ];exact g4,rj ax g5⟩
 ·simp only at dF;rw[jL]at dF;by_cases e:k=g
  ·rw[if_pos e]at dF;cases dF;subst e;refine⟨v,us,by simp[bg.withOwn],⟨mz.1,?_⟩,fun bl ad=>⟨.inr (hn h.fr.size (qZ bl ad).1),fun j bm=>absurd bm (Wq bl ad j)⟩,fun ys aB=>?_⟩
   ·rcases mz.2 with ar|⟨bb,cap,cur,f1,f2,f3⟩
    ·exact .inl ar
    ·exact .inr ⟨bb,cap,cur,f1,Ω,f3⟩
   ·simp only[dD]at aB;subst aB;exact⟨rfl,Cw ax aq,Wq⟩
  ·rw[if_neg e]at dF;obtain⟨v0,fS,ar,aE,bA,dr⟩:=h.good.own g o dF;exact⟨v0,fS,by simp[bg.withOwn,lY e,ar],aE.kept aT (by cases v0.ownBlock<;>simp),bA,tw ax (fun _ _ _ h=>h) dr⟩
 ·rcases lJ g I with rfl|⟨jc,gG,jZ⟩<;>rcases lJ fj U with rfl|⟨m1,m2,m3⟩
  ·rfl
  ·exfalso;simp only[bg.withOwn,if_true,dD,kl]at ao;rw[m3]at a7;obtain⟨o,iA⟩:=fH.1 m2;have aw:=h.good.ownLt iA a7 c6;have:=(qZ bl (by rw[ao.2];exact b8)).1;omega
  ·exfalso;simp only[bg.withOwn,if_true,dD,kl]at a7;rw[jZ]at ao;obtain⟨o,iA⟩:=fH.1 gG;have aw:=h.good.ownLt iA ao b8;have:=(qZ bl (by rw[a7.2];exact c6)).1;omega
  ·rw[jZ]at ao;rw[m3]at a7;exact h.good.oinj g fj n n' u fu bl gG m2 ao a7 b8 c6
 ·rcases lJ g I with rfl|⟨jc,gG,jZ⟩
  ·simp only[bg.withOwn,if_true,dD,kl]at ao;obtain⟨e4,jG⟩:=fH.1 U;have aw:=h.good.boxLt jG b8;have:=(qZ bl (by rw[ao.2];exact a7)).1;omega
  ·rw[jZ]at ao;exact h.good.obx g j n u bl gG U ao a7 b8
 ·by_cases e:j=k
  ·subst e;rcases ae with ae|⟨o,iA,_⟩
   ·exact .inl ae.1
   ·obtain⟨v0,fS,ar,_⟩:=h.good.own j o iA;rcases h.good.one j with I|I
    ·exact .inl I
    ·rw[I]at ar;cases ar
  ·rcases h.good.one j with I|I
   ·exact .inl I
   ·exact .inr (by simp[bg.withOwn,e,I])
 ·rcases ad with ad|⟨g,n,u,bF,a2,a3⟩
  ·exact h.good.otr bl (.inl ad) bJ j aC
  ·rcases lJ g bF with rfl|⟨jc,gG,jZ⟩
   ·simp only[bg.withOwn,if_true,dD,kl]at a2;have I:=(qZ bl (by rw[a2.2];exact a3)).1;have U:=(h.fr.trb bJ j _ aC).2;omega
   ·exact h.good.otr bl (.inr ⟨g,n,u,gG,by rw[<-jZ];exact a2,a3⟩) bJ j aC
 ·rw[aT.block j (by have:=h.fr.size;omega) Ψ];exact h.fr.block j ag hm
 ·obtain⟨aS,bh⟩:=h.fr.keep b o bm;exact⟨aS,(ax.A b o aS).2.trans bh⟩
 ·have cG:bJ≠k:=fun e=>by subst e;exact aji j b ad
  obtain⟨t1,t2⟩:=h.fr.trn bJ j b ad;exact⟨t1,by simp[bg.withOwn,cG,t2]⟩
 ·obtain⟨f1,f2⟩:=cW m hm;obtain⟨aS,bh,bX⟩:=h.new m f1;refine⟨aS,?_,bX⟩;simp[bg.withOwn,f2,bh]
 ·intro MP;simp only[be];exact⟨MP,ik,xs.length,v,by simp[bg.withOwn],eo _,fun _=>rfl⟩
theorem c7.publish{C:fv}{st:bt}{a:Act}{w:World}{Z:bg}(h:c7 C st a w Z){k:aM}{o:fU}{xs:List aj}(ae:look k st.e=some o)(ab:o.xs=some xs){v:Value}(az:Z.ow k=some (o.n,v))(ik:xs.length<=lim):
  c7 C {st with e:=cI k ⟨o.n,o.el,o.sz,none⟩ st.e} a w (Z.withRowOf k v o.n (o.n*o.sz))/\
  be w (Z.withRowOf k v o.n (o.n*o.sz)) (.slice o.sz (.own k) xs) v:=by
 obtain⟨v0,us,aW,bj,bM,cL⟩:=h.good.own k o ae;rw[az]at aW;cases aW;obtain⟨c2,mG,wA⟩:=cL xs ab;have pL:∀g,(Z.withRowOf k v o.n (o.n*o.sz)).ow g=Z.ow g:=fun g=>by
  simp only[bg.withRowOf];split
  ·rename_i e;subst e;exact az.symm
  ·rfl
 have ax:mj w Z w (Z.withRowOf k v o.n (o.n*o.sz)):=⟨fun b o bm=>⟨.inl bm,rfl⟩,fun j b _ ag=>ag,fun g n u _ jH=>⟨n,u,by rw[pL];exact jH,.inl ⟨rfl,rfl⟩⟩,fun _ _ _=>rfl,fun _ _ _ _ h=>h⟩
 have lJ:∀g,(look g (cI k ⟨o.n,o.el,o.sz,none⟩ st.e)).isSome->(look g st.e).isSome:=by
  intro g kF;by_cases e:k=g
  ·subst e;simp[ae]
  ·rwa[jL,if_neg e]at kF
 refine⟨h.over ax rfl ⟨fun bl i bm=>?_,fun j e4 ag=>?_,h.good.inj,fun g o' dF=>?_,fun g fj n n' u fu bl I U ao a7=>h.good.oinj g fj n n' u fu bl (lJ g I) (lJ fj U) (by rwa[pL]at ao) (by rwa[pL]at a7),fun g j n u bl I U ao=>h.good.obx g j n u bl (lJ g I) U (by rwa[pL]at ao),fun j=>?_,fun bl ad=>h.good.otr bl (ad.imp id (fun⟨g,n,v,bF,a2,a3⟩=>⟨g,n,v,lJ g bF,by rwa[pL]at a2,a3⟩))⟩
  ⟨h.fr.os,h.fr.tape,h.fr.output,h.fr.size,h.fr.block,fun b i bm=>⟨.inl (h.fr.keep b i bm).1,(h.fr.keep b i bm).2⟩,fun b i bm=>?_,h.fr.obj,h.fr.obn,fun m n u hm=>Fw (h.fr.row m n u hm) (fun n u=>ax.ow _ n u trivial),h.fr.obr,h.fr.trd,h.fr.trb,fun bJ j b ad=>⟨(h.fr.trn bJ j b ad).1,by rw[pL];exact(h.fr.trn bJ j b ad).2⟩,h.fr.sh⟩ (fun m hm=>?_),?_⟩
 ·rcases bm with bm|⟨bm,_⟩
  ·exact h.good.alt bl i bm
  ·exact(bj.lt bl bm).2
 ·obtain⟨bl,ck,gl,g1,g2,g3,g4,g5⟩:=h.good.box j e4 ag;refine⟨bl,ck,gl,g1,g2,fun i bm=>?_,g4,rj ax g5⟩;rcases bm with bm|⟨bm,_⟩
  ·exact g3 i bm
  ·exact h.good.obx k j o.n v bl (by simp[ae]) (by simp[ag]) az bm g1
 ·simp only at dF;rw[jL]at dF;by_cases e:k=g
  ·rw[if_pos e]at dF;cases dF;subst e;refine⟨v,us,by rw[pL];exact az,bj,fun bl ad=>⟨(bM bl ad).1,fun j bm=>?_⟩,fun ys aB=>by cases aB⟩;rcases bm with bm|⟨_,bm⟩
   ·exact(bM bl ad).2 j bm
   ·exact bm
  ·rw[if_neg e]at dF;obtain⟨v0,fS,ar,aE,bA,dr⟩:=h.good.own g o' dF;have xd:∀bl,v0.ownBlock=some bl->∀j,(Z.withRowOf k v o.n (o.n*o.sz)).A bl j->Z.A bl j:=fun bl ad j bm=>by
    rcases bm with bm|⟨bm,_⟩
    ·exact bm
    ·exact absurd (h.good.oinj k g o.n o'.n v v0 bl (by simp[ae]) (by simp[dF]) az ar bm ad) e
   exact⟨v0,fS,by rw[pL];exact ar,aE,fun bl ad=>⟨(bA bl ad).1,fun j bm=>(bA bl ad).2 j (xd bl ad j bm)⟩,tw ax xd dr⟩
 ·rcases h.good.one j with I|I
  ·exact .inl I
  ·exact .inr (by rw[pL];exact I)
 ·rcases bm with bm|⟨bm,_⟩
  ·exact h.fr.fresh b i bm
  ·exact .inr (bM b bm).1
 ·obtain⟨aS,bh,bX⟩:=h.new m hm;exact⟨aS,by rw[pL];exact bh,bX⟩
 ·simp only[be];refine⟨?_,fun e=>(by cases e),fun g e=>?_,fun _ _ e=>(by cases e),fun _ e=>(by cases e)⟩
  ·rcases bj.2 with⟨ar,aE⟩|⟨bb,cap,cur,f1,f2,f3,f4,f5,f6,f7⟩
   ·refine⟨none,0,by rw[ar,c2,aE],Ω,⟨by simp[maxLen],ik⟩,.inl (List.eq_nil_of_length_eq_zero Ω)⟩
   ·refine⟨some ⟨bb,0,none⟩,cap,by rw[f1,c2],Ω,⟨f5,ik⟩,.inr ⟨bb,0,us,rfl,BN us 0 fun j u ag=>?_,Cw ax mG⟩⟩;have pO:v.ownBlock=some bb:=by rw[f1];rfl
    have Bi:j<us.length:=(fG.1 ag).1;refine⟨.inr ⟨pO,by rw[bj.1]at Bi;omega⟩,?_⟩;have:=bj.cells pO j u ag;rwa[qc]at this
  ·cases e;exact⟨o.n,v,by rw[pL];exact az,Ω,fun _=>rfl⟩
theorem aa6{α:Type}(k:aM)(p q:α):∀l,cI k q (cI k p l)=cI k q l
 |[]=>by simp[cI]
 |(i,r)::l=>by
  by_cases e:i=k
  ·simp[cI,e]
  ·simp[cI,e,aa6 k p q l]
theorem c7.newRow{C:fv}{st:bt}{a:Act}{w w':World}{Z:bg}(h:c7 C st a w Z){k:aM}{xs:List aj}(ae:(Z.bx k=none/\Z.ow k=none/\∀j b,¬Z.tr k j b)\/ ∃o,look k st.e=some o/\o.n<xs.length){el sz:Nat}{v:Value}{us:List Value}
  (aT:w.grownBy w' none) (mz:w'.ownsRow w.heap.size el sz v xs.length us) (aq:dK w Z sz xs us) (ik:xs.length<=lim) {n':Nat} {o':List aM} (cW:∀j,fresh n' o' j->fresh st.n st.o j/\j≠k):
  c7 C {st with e:=cI k ⟨xs.length,el,sz,none⟩ st.e,n:=n',o:=o'} a w' ((Z.withOwn k xs.length v).withRowOf k v xs.length (xs.length*sz))/\
  be w' ((Z.withOwn k xs.length v).withRowOf k v xs.length (xs.length*sz)) (.slice sz (.own k) xs) v:=by
 have I:=(h.newRowM ae aT mz aq ik cW).1;have U:=I.publish (k:=k) (o:=⟨xs.length,el,sz,some xs⟩) (xs:=xs) (v:=v) (by simp[jL]) rfl (by simp[bg.withOwn]) ik;simpa only[aa6]using U
theorem c7.setRowM{C:fv}{st:bt}{a:Act}{w w':World}{Z:bg}(h:c7 C st a w Z){k:aM}{o:fU}{xs xs':List aj}(ae:look k st.e=some o)(ab:o.xs=some xs){bl:Nat}{v v':Value}(az:Z.ow k=some (o.n,v))(pO:v.ownBlock=some bl)(Ia:v'.ownBlock=some bl)
  (au:(xs'.length=o.n/\v'=v)\/o.n<xs'.length) {us:List Value} (Bo:w'.os=w.os) (Nk:w'.tape=w.tape) (M5:w'.output=w.output) (oh:∀j,j≠bl->w'.heap[j]? =w.heap[j]?) (dY:w'.heap.size=w.heap.size)
  (mz:w'.ownsRow 0 o.el o.sz v' xs'.length us) (aq:dK w Z o.sz xs' us):
  c7 C {st with e:=cI k ⟨xs'.length,o.el,o.sz,some xs'⟩ st.e} a w' (Z.withOwn k xs'.length v')/\mj w Z w' (Z.withOwn k xs'.length v')/\(xs'.length<=lim->be w' (Z.withOwn k xs'.length v') (.row o.sz k xs'.length) v'):=by
 obtain⟨v0,fS,aW,bj,bM,cL⟩:=h.good.own k o ae;rw[az]at aW;cases aW;obtain⟨c2,mG,wA⟩:=cL xs ab;have ax:mj w Z w' (Z.withOwn k xs'.length v'):=by
  refine⟨fun b i bm=>⟨bm,World.cell?_of_block (oh b fun e=>by subst e;exact wA b pO i bm)⟩,fun j b _ ag=>ag,fun g n u _ jH=>?_,fun b i bm=>x3 (oh b fun e=>by subst e;exact wA b pO i bm),fun _ _ _ _ h=>h⟩;by_cases e:g=k
  ·subst e;rw[az]at jH;cases jH;refine⟨xs'.length,v',by simp[bg.withOwn],?_⟩;rcases au with⟨I,U⟩|I
   ·exact .inl ⟨I,U⟩
   ·exact .inr I
  ·exact⟨n,u,by simp[bg.withOwn,e,jH],.inl ⟨rfl,rfl⟩⟩
 have lJ:∀g n u,(look g (cI k ⟨xs'.length,o.el,o.sz,some xs'⟩ st.e)).isSome->(Z.withOwn k xs'.length v').ow g=some (n,u)->∀b,u.ownBlock=some b->(look g st.e).isSome/\∃n u,Z.ow g=some (n,u)/\u.ownBlock=some b:=by
  intro g n u kF jH b ad;by_cases e:g=k
  ·subst e;simp only[bg.withOwn,if_true,dD,kl]at jH;rw[<-jH.2,Ia]at ad;cases ad;exact⟨by simp[ae],o.n,v,az,pO⟩
  ·rw[jL,if_neg (lY e)]at kF;simp only[bg.withOwn,e,if_false]at jH;exact⟨kF,n,u,jH,ad⟩
 refine⟨h.over ax rfl ⟨fun b i bm=>by rw[dY];exact h.good.alt b i bm,fun j e4 ag=>?_,h.good.inj,fun g o' dF=>?_,fun g fj n n' u fu b I U ao a7 b8 c6=>?_,fun g j n u b I U ao a7 b8=>?_,fun j=>?_,fun b ad=>h.good.otr b (ad.imp id (fun⟨g,n,v,bF,a2,a3⟩=>by obtain⟨b1,jc,jO,b2,fy⟩:=lJ g n v bF a2 b a3;exact⟨g,jc,jO,b1,b2,fy⟩))⟩
  ⟨Bo.trans h.fr.os,Nk.trans h.fr.tape,M5.trans h.fr.output,by rw[dY];exact h.fr.size,fun j ag hm=>?_,fun b i bm=>?_,h.fr.fresh,h.fr.obj,h.fr.obn,fun m n u hm=>Fw (h.fr.row m n u hm) (fun n u=>ax.ow _ n u trivial),h.fr.obr,h.fr.trd,fun k j b ad=>⟨(h.fr.trb k j b ad).1,by rw[dY];exact(h.fr.trb k j b ad).2⟩,fun bJ j b ad=>?_,fun b o bm=>(ax.sh b o (h.fr.keep b o bm).1).trans (h.fr.sh b o bm)⟩ (fun m hm=>?_),ax,?_⟩
 ·obtain⟨b,ck,gl,g1,g2,g3,g4,g5⟩:=h.good.box j e4 ag;have cG:b≠bl:=fun e=>h.good.obx k j o.n _ bl (by simp[ae]) (by simp[ag]) az pO (by rw[<-e];exact g1);exact⟨b,ck,gl,g1,g2,g3,by rw[oh b cG];exact g4,rj ax g5⟩
 ·simp only at dF;rw[jL]at dF;by_cases e:k=g
  ·rw[if_pos e]at dF;cases dF;subst e;refine⟨v',us,by simp[bg.withOwn],mz,fun b ad=>?_,fun ys aB=>?_⟩
   ·rw[Ia]at ad;cases ad;exact⟨(bM bl pO).1,fun j bm=>absurd bm (wA bl pO j)⟩
   ·simp only[dD]at aB;subst aB;exact⟨rfl,Cw ax aq,fun b ad=>by rw[Ia]at ad;cases ad;exact wA bl pO⟩
  ·rw[if_neg e]at dF;obtain⟨v0,fS,ar,aE,bA,dr⟩:=h.good.own g o' dF;have cG:∀b,v0.ownBlock=some b->b≠bl:=fun b ad LG=>e (h.good.oinj k g o.n o'.n _ v0 bl (by simp[ae]) (by simp[dF]) az ar pO (by rw[<-LG];exact ad));refine⟨v0,fS,by simp[bg.withOwn,lY e,ar],⟨aE.1,?_⟩,bA,tw ax (fun _ _ _ h=>h) dr⟩;rcases aE.2 with aE|⟨bb,Dk,nt,f1,f2,f3,f4⟩
   ·exact .inl aE
   ·exact .inr ⟨bb,Dk,nt,f1,f2,by rw[oh bb (cG bb (by rw[f1];rfl))];exact f3,f4⟩
 ·obtain⟨bF,jc,jO,a2,a3⟩:=lJ g n u I ao b b8;obtain⟨b1,gG,ki,b2,fy⟩:=lJ fj n' fu U a7 b c6;exact h.good.oinj g fj jc gG jO ki b bF b1 a2 b2 a3 fy
 ·obtain⟨bF,jc,jO,a2,a3⟩:=lJ g n u I ao b a7;exact h.good.obx g j jc jO b bF U a2 a3 b8
 ·by_cases e:j=k
  ·subst e;rcases h.good.one j with I|I
   ·exact .inl I
   ·rw[I]at az;cases az
  ·rcases h.good.one j with I|I
   ·exact .inl I
   ·exact .inr (by simp[bg.withOwn,e,I])
 ·rw[oh j fun e=>by subst e;exact(bM j pO).1.elim hm (fun g2=>Ω)];exact h.fr.block j ag hm
 ·obtain⟨aS,bh⟩:=h.fr.keep b i bm;exact⟨aS,(ax.A b i aS).2.trans bh⟩
 ·obtain⟨t1,t2⟩:=h.fr.trn bJ j b ad;have cG:bJ≠k:=fun e=>by subst e;rw[t2]at az;cases az
  exact⟨t1,by simp[bg.withOwn,cG,t2]⟩
 ·obtain⟨aS,bh,bX⟩:=h.new m hm;refine⟨aS,?_,bX⟩;have:m≠k:=fun e=>by subst e;rw[bh]at az;cases az
  simp[bg.withOwn,this,bh]
 ·intro ik;simp only[be];obtain⟨cap,MP⟩:=Y6 mz Ia;exact⟨⟨bl,cap,MP⟩,ik,xs'.length,v',by simp[bg.withOwn],eo _,fun _=>rfl⟩
theorem c7.inPlace{C:fv}{st:bt}{a:Act}{w:World}{Z:bg}(h:c7 C st a w Z){k:aM}{o:fU}(ae:look k st.e=some o){bl cap:Nat}{cur:Array Value}(az:Z.ow k=some (o.n,.slice (some ⟨bl,0,none⟩) o.n cap))
  (yX:w.heap[bl]? =some (.cells cur o.el (0,0))) (Bb:cap<=maxLen) (dY:cur.size=cap*o.sz) {xs ys:List aj} {us ns:List Value} (pP:xs.length=o.n) (rS:cur.toList.take (o.n*o.sz)=us) (aq:dK w Z o.sz xs us) (uo:dK w Z o.sz ys ns)
  (fW:0<ys.length) (sX:o.n+ys.length<=cap) (ik:xs.length+ys.length<=lim):
  c7 C {st with e:=cI k ⟨o.n+ys.length,o.el,o.sz,none⟩ st.e} a (w.setRow bl (us++ns++cur.toList.drop (o.n*o.sz+ns.length)).toArray)
   (Z.withRowOf k (.slice (some ⟨bl,0,none⟩) (o.n+ys.length) cap) (o.n+ys.length) ((o.n+ys.length)*o.sz))/\
  be (w.setRow bl (us++ns++cur.toList.drop (o.n*o.sz+ns.length)).toArray) (Z.withRowOf k (.slice (some ⟨bl,0,none⟩) (o.n+ys.length) cap) (o.n+ys.length) ((o.n+ys.length)*o.sz))
   (.slice o.sz (.own k) (xs++ys)) (.slice (some ⟨bl,0,none⟩) (o.n+ys.length) cap):=by
 have kt:=uY uo;have sZ:=uY aq;rw[pP]at sZ;have hmul:(o.n+ys.length)*o.sz<=cap*o.sz:=rr _ sX;rw[p8]at hmul;obtain⟨v0,fS,aW,bj,bM,_⟩:=h.good.own k o ae;rw[az]at aW;cases aW;obtain⟨cL,c2⟩:=bM bl rfl;generalize qu:w.setRow bl (us++ns++cur.toList.drop (o.n*o.sz+ns.length)).toArray=w';have oh:∀j,j≠bl->w'.heap[j]? =w.heap[j]?:=fun j ag=>by rw[<-qu];exact setRow_other w bl j _ ag
 have kG:w'.heap[bl]? =some (.cells (us++ns++cur.toList.drop (o.n*o.sz+ns.length)).toArray o.el (0,0)):=by rw[<-qu];exact setRow_heap w bl cur _ o.el _ yX
 have Ng:w'.heap.size=w.heap.size:=by rw[<-qu];exact setRow_size w bl _
 have nz:∀j,j<o.n*o.sz->w'.cell? ⟨bl,j,none⟩=w.cell? ⟨bl,j,none⟩:=by intro j ag;simp only[World.cell?,kG,yX,je,hk,if_false];rw[List.getElem?_toArray,List.append_assoc,List.getElem?_append_left Ω,<-rS,List.getElem?_take,if_pos ag];simp
 have ax:mj w Z w' (Z.withRowOf k (.slice (some ⟨bl,0,none⟩) (o.n+ys.length) cap) (o.n+ys.length) ((o.n+ys.length)*o.sz)):=by
  refine⟨fun b j bm=>⟨.inl bm,?_⟩,fun j b _ ag=>ag,fun g n u _ jH=>?_,fun b j bm=>?_,fun _ _ _ _ h=>h⟩;rotate_left 2
  ·by_cases e:b=bl
   ·subst e;simp only[shape,kG,yX,List.size_toArray,pn,tN,Array.length_toList];congr 2;omega
   ·exact x3 (oh b e)
  ·by_cases e:b=bl
   ·subst e;exact nz j (c2 j bm)
   ·exact World.cell?_of_block (oh b e)
  ·by_cases e:g=k
   ·subst e;rw[az]at jH;cases jH;exact⟨o.n+ys.length,.slice (some ⟨bl,0,none⟩) (o.n+ys.length) cap,by simp[bg.withRowOf],.inr Ω⟩
   ·exact⟨n,u,by simp[bg.withRowOf,e,jH],.inl ⟨rfl,rfl⟩⟩
 have lJ:∀g,(look g (cI k ⟨o.n+ys.length,o.el,o.sz,none⟩ st.e)).isSome->g=k\/(g≠k/\(look g st.e).isSome/\(Z.withRowOf k (.slice (some ⟨bl,0,none⟩) (o.n+ys.length) cap) (o.n+ys.length) ((o.n+ys.length)*o.sz)).ow g=Z.ow g):=by
  intro g kF;by_cases e:g=k
  ·exact .inl e
  ·rw[jL,if_neg (lY e)]at kF;exact .inr ⟨e,kF,by simp[bg.withRowOf,e]⟩
 have atg:bl<w.heap.size:=(Array.getElem?_eq_some_iff.1 yX).1;have aij:∀j u,(us++ns)[j]? =some u->w'.cell? ⟨bl,j,none⟩=some u:=by intro j u ag;have Bi:=(fG.1 ag).1;simp only[World.cell?,kG,je,hk,if_false];rw[List.getElem?_toArray,List.getElem?_append_left Bi];exact ag
 refine⟨h.over ax rfl ⟨fun b j bm=>?_,fun j e4 ag=>?_,h.good.inj,fun g o' dF=>?_,fun g fj n n' u fu b I U ao a7 b8 c6=>?_,fun g j n u b I U ao a7 b8=>?_,fun j=>?_,fun b ad=>h.good.otr b ?_⟩
  ⟨by rw[<-qu];exact h.fr.os,by rw[<-qu];exact h.fr.tape,by rw[<-qu];exact h.fr.output,by rw[Ng];exact h.fr.size,fun j ag hm=>?_,fun b j bm=>?_,fun b j bm=>?_,h.fr.obj,h.fr.obn,fun m n u hm=>Fw (h.fr.row m n u hm) (fun n u=>ax.ow _ n u trivial),h.fr.obr,h.fr.trd,fun k j b ad=>⟨(h.fr.trb k j b ad).1,by rw[Ng];exact(h.fr.trb k j b ad).2⟩,fun bJ j b ad=>?_,fun b o bm=>(ax.sh b o (h.fr.keep b o bm).1).trans (h.fr.sh b o bm)⟩ (fun m hm=>?_),?_⟩
 ·rw[Ng];rcases bm with bm|⟨bm,_⟩
  ·exact h.good.alt b j bm
  ·simp only[pk,dD]at bm;omega
 ·obtain⟨b,ck,gl,g1,g2,g3,g4,g5⟩:=h.good.box j e4 ag;have cG:b≠bl:=fun e=>h.good.obx k j o.n _ bl (by simp[ae]) (by simp[ag]) az rfl (by rw[<-e];exact g1);refine⟨b,ck,gl,g1,g2,fun i bm=>?_,by rw[oh b cG];exact g4,rj ax g5⟩;rcases bm with bm|⟨bm,_⟩
  ·exact g3 i bm
  ·simp only[pk,dD]at bm;exact cG bm.symm
 ·simp only at dF;rw[jL]at dF;by_cases e:k=g
  ·rw[if_pos e]at dF;cases dF;subst e;refine⟨.slice (some ⟨bl,0,none⟩) (o.n+ys.length) cap,us++ns,by simp[bg.withRowOf],⟨by rw[pn,sZ,kt,p8],.inr ⟨bl,cap,_,rfl,Nat.zero_le _,kG,sX,Bb,?_,?_⟩⟩,fun b ad=>⟨?_,fun j bm=>?_⟩,fun ys aB=>by cases aB⟩
   ·simp only[List.size_toArray,pn,tN,Array.length_toList];omega
   ·have aw:(us++ns).length=(o.n+ys.length)*o.sz:=by rw[pn,sZ,kt,p8]
    simp only[<-aw];rw[List.take_append_of_le_length (eo _),lB]
   ·simp only[pk,dD]at ad;subst ad;exact cL
   ·simp only[pk,dD]at ad;subst ad;rcases bm with bm|⟨_,bm⟩
    ·have:=c2 j bm;simp only;rw[p8];omega
    ·exact bm
  ·rw[if_neg e]at dF;obtain⟨v0,fS,ar,aE,bA,dr⟩:=h.good.own g o' dF;have cG:∀b,v0.ownBlock=some b->b≠bl:=fun b ad LG=>e (h.good.oinj k g o.n o'.n _ v0 bl (by simp[ae]) (by simp[dF]) az ar rfl (by rw[<-LG];exact ad));have xd:∀b,v0.ownBlock=some b->∀j,(Z.withRowOf k (.slice (some ⟨bl,0,none⟩) (o.n+ys.length) cap) (o.n+ys.length) ((o.n+ys.length)*o.sz)).A b j->Z.A b j:=fun b ad j bm=>by
    rcases bm with bm|⟨bm,_⟩
    ·exact bm
    ·simp only[pk,dD]at bm;exact absurd bm.symm (cG b ad)
   refine⟨v0,fS,by simp[bg.withRowOf,lY e,ar],⟨aE.1,?_⟩,fun b ad=>⟨(bA b ad).1,fun j bm=>(bA b ad).2 j (xd b ad j bm)⟩,tw ax xd dr⟩;rcases aE.2 with aE|⟨bb,Dk,nt,f1,f2,f3,f4⟩
   ·exact .inl aE
   ·exact .inr ⟨bb,Dk,nt,f1,f2,by rw[oh bb (cG bb (by rw[f1];rfl))];exact f3,f4⟩
 ·rcases lJ g I with rfl|⟨jc,gG,jZ⟩<;>rcases lJ fj U with rfl|⟨m1,m2,m3⟩
  ·rfl
  ·exfalso;simp only[bg.withRowOf,if_true,dD,kl]at ao;rw[m3]at a7;rw[<-ao.2]at b8;simp only[pk,dD]at b8;subst b8;exact m1 (h.good.oinj fj g n' o.n fu _ bl m2 (by simp[ae]) a7 az c6 rfl)
  ·exfalso;simp only[bg.withRowOf,if_true,dD,kl]at a7;rw[jZ]at ao;rw[<-a7.2]at c6;simp only[pk,dD]at c6;subst c6;exact jc (h.good.oinj g fj n o.n u _ bl gG (by simp[ae]) ao az b8 rfl)
  ·rw[jZ]at ao;rw[m3]at a7;exact h.good.oinj g fj n n' u fu b gG m2 ao a7 b8 c6
 ·rcases lJ g I with rfl|⟨jc,gG,jZ⟩
  ·simp only[bg.withRowOf,if_true,dD,kl]at ao;rw[<-ao.2]at a7;simp only[pk,dD]at a7;subst a7;exact h.good.obx g j o.n _ bl (by simp[ae]) U az rfl b8
  ·rw[jZ]at ao;exact h.good.obx g j n u b gG U ao a7 b8
 ·by_cases e:j=k
  ·subst e;rcases h.good.one j with I|I
   ·exact .inl I
   ·rw[I]at az;cases az
  ·rcases h.good.one j with I|I
   ·exact .inl I
   ·exact .inr (by simp[bg.withRowOf,e,I])
 ·rcases ad with ad|⟨g,n,u,bF,a2,a3⟩
  ·exact .inl ad
  ·rcases lJ g bF with rfl|⟨jc,gG,jZ⟩
   ·simp only[bg.withRowOf,if_true,dD,kl]at a2;rw[<-a2.2]at a3;exact .inr ⟨g,_,_,by simp[ae],az,a3⟩
   ·exact .inr ⟨g,n,u,gG,by rw[<-jZ];exact a2,a3⟩
 ·rw[oh j fun e=>by subst e;exact cL.elim hm (fun g2=>Ω)];exact h.fr.block j ag hm
 ·obtain⟨aS,bh⟩:=h.fr.keep b j bm;exact⟨.inl aS,(ax.A b j aS).2.trans bh⟩
 ·rcases bm with bm|⟨bm,_⟩
  ·exact h.fr.fresh b j bm
  ·simp only[pk,dD]at bm;subst bm;exact .inr cL
 ·obtain⟨t1,t2⟩:=h.fr.trn bJ j b ad;have cG:bJ≠k:=fun e=>by subst e;rw[t2]at az;cases az
  exact⟨t1,by simp[bg.withRowOf,cG,t2]⟩
 ·obtain⟨aS,bh,bX⟩:=h.new m hm;refine⟨aS,?_,bX⟩;have:m≠k:=fun e=>by subst e;rw[bh]at az;cases az
  simp[bg.withRowOf,this,bh]
 ·simp only[be];refine⟨⟨some ⟨bl,0,none⟩,cap,by simp[pP],by simp;omega,⟨Bb,by simpa using ik⟩,.inr ⟨bl,0,us++ns,rfl,BN _ 0 fun j u ag=>?_,Fp (Cw ax aq) (Cw ax uo)⟩⟩,fun e=>(by cases e),fun g e=>?_,fun _ _ e=>(by cases e),fun _ e=>(by cases e)⟩
  ·have Bi:=(fG.1 ag).1;rw[Nat.zero_add];refine⟨.inr ⟨rfl,?_⟩,aij j u ag⟩;rw[pn,sZ,kt]at Bi;rw[p8];exact Bi
  ·cases e;exact⟨o.n+ys.length,.slice (some ⟨bl,0,none⟩) (o.n+ys.length) cap,by simp[bg.withRowOf],by simp[pP],fun _=>rfl⟩
theorem JU{P:cM}{w:World}{t ty e:hl}{i:TypeInfo}(aC:P.underlying t=some (.slice e))(hi:P.info? e=some i)(b:Option Addr)(n cap:Nat)(au:n<=cap)(x:Option Addr)(c:Nat):
  (Builtin.append_ #[t,t] ty #[.slice b n cap,.slice x 0 c]).run P w= .ok (.slice b n cap) w:=by
 cases b<;>cases x<;>simp[Builtin.append_,run_underlying aC,sizeOf,typeInfo,hi,Builtin.lenOf,au,Builtin.firstCells,loadCells,loadCellsFrom,storeCells]
inductive eB where
 |v (d:Nat) (i:gk)
 |box (d:Nat) (key:Option Nat) (x:dA)
 |alloc (d:Nat) (key:Option Nat) (zero:aj)
 |store (sz:Nat) (x y:dA)
 |bsl (d:Nat) (sz el:Nat) (xs:List dA)
 |app (d:Nat) (sz el:Nat) (x y:dA)
 |bslm (d:Nat) (key:Option Nat) (sz el:Nat) (xs:List dA)
 |appm (d:Nat) (key:Option Nat) (sz el:Nat) (x y:dA)
 |mkmap (d:Nat) (key:Option Nat)
 |mput (cj:kn) (x k v:dA)
 |range (d:Nat) (key:Option Nat) (x:dA)
 |storeE (sz:Nat) (x y:dA)
 |mks (d:Nat) (key:Option Nat) (sz el:Nat) (z:aj) (x:dA)
def kx(st:bt):Option Nat->aM
 |none=>.loc st.n
 |some m=>.obj m
def ra(st:bt):Option Nat->Prop
 |none=>.loc st.n∉st.o
 |some m=>.obj m∉st.o
def oy(st:bt):Option Nat->Nat
 |none=>st.n+1
 |some _=>st.n
def oz(st:bt):Option Nat->List aM
 |none=>st.o
 |some m=>.obj m::st.o
theorem xO{st:bt}{key:Option Nat}(h:ra st key):fresh st.n st.o (kx st key):=by cases key<;>simp[kx,fresh,ra]at h⊢ <;>exact h
theorem xP{st:bt}{key:Option Nat}:∀j,fresh (oy st key) (oz st key) j->fresh st.n st.o j/\j≠kx st key:=by
 intro j ag;cases key<;>cases j<;>simp[fresh,oy,oz,kx]at ag⊢
 ·exact⟨⟨Ω,ag.2⟩,Ω⟩
 ·exact ag
 ·exact ag
 ·exact⟨ag.2,ag.1⟩
def tU(sz:Nat):List aj->Prop
 |[]=>True
 |p::cC=>(e7 p=true/\(cells p).length=sz)/\tU sz cC
def ov(cj:kn)(k v:aj):List aj->Option (List aj)
 | .hdm clock borns::kvs=>if vV cj k=false then none else match ti cj k v kvs with
  |some (some xJ)=>some (.hdm clock borns::xJ)
  |some none=>some (.hdm (clock+1) (borns++[clock])::(kvs++[k,v]))
  |none=>none
 |_=>none
def zP(m:aM):List aj->Option (List aj)
 | .hdm clock _::_=>some [.hdi clock [] clock,.gmap m]
 |_=>none
def tW(st:bt)(sz el:Nat)(x y:aj):Option ((Option (aM×List aj))×List aj):=
 match x,y with
 | .slice dN .nil _,.slice j4 _ ys=>if dN=sz/\j4=sz then some (none,ys)else none
 | .row dN k n,.slice j4 _ ys=>if dN=sz/\j4=sz then
   match look k st.e with
   |some ⟨n',gl,x9,some xs⟩=>if n'=n/\gl=el/\x9=sz then some (some (k,xs),ys)else none
   |_=>none
  else none
 |_,_=>none
def qG:aj->Nat->List aj->aj
 | .agg e4,f,cs=>.agg (pa e4 f cs)
 |_,_,[q]=>q
 |_,_,_=>.junk
def sd(st:bt)(sz:Nat)(p v:aj):Option (Prop×bt):=
 match p with
 | .rptr dN k n i f=>match look k st.e with
  |some ⟨n',el,j4,some xs⟩=>if n'=n/\j4=dN then
    match xs[i]? with
    |some q=>some (e7 q=true/\e7 v=true/\(cells v).length=sz/\f+sz<=(cells q).length/\0<sz,{st with e:=cI k ⟨n',el,j4,some (xs.set i (qG q f (cells v)))⟩ st.e})
    |none=>none
   else none
  |_=>none
 |_=>none
def nf(st:bt):eB->Option (Prop×bt)
 | .mks d key sz el z x=>match cy st.t x with
  | .int _ n=>some (ra st key/\0<=n/\n<=lim,
    {t:=put d (.row sz (kx st key) n.toNat) st.t,b:=st.b,e:=cI (kx st key) ⟨n.toNat,el,sz,some (List.replicate n.toNat z)⟩ st.e,n:=oy st key,o:=oz st key})
  |_=>none
 | .bslm d key sz el xs=>some (ra st key/\tU sz (xs.map (cy st.t)),
   {t:=put d (.row sz (kx st key) xs.length) st.t,b:=st.b,e:=cI (kx st key) ⟨xs.length,el,sz,some (xs.map (cy st.t))⟩ st.e,n:=oy st key,o:=oz st key})
 | .appm d key sz el x y=>match tW st sz el (cy st.t x) (cy st.t y)with
  |some (none,ys)=>some (ra st key/\ys.length<=lim/\ys≠[],
    {t:=put d (.row sz (kx st key) ys.length) st.t,b:=st.b,e:=cI (kx st key) ⟨ys.length,el,sz,some ys⟩ st.e,n:=oy st key,o:=oz st key})
  |some (some (k,xs),ys)=>some (xs.length+ys.length<=lim,{st with t:=put d (.row sz k (xs.length+ys.length)) st.t,e:=cI k ⟨xs.length+ys.length,el,sz,some (xs++ys)⟩ st.e})
  |none=>none
 | .mkmap d key=>some (ra st key,{t:=put d (.gmap (kx st key)) st.t,b:=cI (kx st key) [.hdm 0 []] st.b,e:=st.e,n:=oy st key,o:=oz st key})
 | .mput cj x k v=>match cy st.t x with
  | .gmap m=>match look m st.b with
   |some cs=>match ov cj (cy st.t k) (cy st.t v) cs with
    |some cs'=>some (True,{st with b:=cI m cs' st.b})
    |none=>none
   |none=>none
  |_=>none
 | .range d key x=>match cy st.t x with
  | .gmap m=>match look m st.b with
   |some cs=>match zP m cs with
    |some cs'=>some (ra st key,{t:=put d (.ptr (kx st key) 0) st.t,b:=cI (kx st key) cs' st.b,e:=st.e,n:=oy st key,o:=oz st key})
    |none=>none
   |none=>none
  |_=>none
 | .v d i=>match hQ st i with
  |some (c,p)=>some (c,{st with t:=put d p st.t})
  |none=>none
 | .storeE sz x y=>sd st sz (cy st.t x) (cy st.t y)
 | .box d key x=>some (ra st key/\e7 (cy st.t x)=true,
   {t:=put d (.ptr (kx st key) 0) st.t,b:=cI (kx st key) (cells (cy st.t x)) st.b,e:=st.e,n:=oy st key,o:=oz st key})
 | .alloc d key z=>some (ra st key,{t:=put d (.ptr (kx st key) 0) st.t,b:=cI (kx st key) (cells z) st.b,e:=st.e,n:=oy st key,o:=oz st key})
 | .store sz x y=>match cy st.t x with
  | .ptr k off=>match look k st.b with
   |some cs=>some (iq cs=true/\e7 (cy st.t y)=true/\(cells (cy st.t y)).length=sz/\off+sz<=cs.length,{st with b:=cI k (pa cs off (cells (cy st.t y))) st.b})
   |none=>none
  |p=>sd st sz p (cy st.t y)
 | .bsl d sz el xs=>some (ra st none/\tU sz (xs.map (cy st.t)),
   {st with t:=put d (.slice sz (.own (.loc st.n)) (xs.map (cy st.t))) st.t,e:=cI (.loc st.n) ⟨xs.length,el,sz,none⟩ st.e,n:=st.n+1})
 | .app d sz el x y=>match cy st.t x,cy st.t y with
  | .slice dN tag xs,.slice j4 _ ys=>if dN=sz/\j4=sz then
    match tag with
    | .own k=>match look k st.e with
     |some o=>some (o.n=xs.length/\o.el=el/\o.sz=sz/\xs.length+ys.length<=lim,
       {st with t:=put d (.slice sz (.own k) (xs++ys)) st.t,e:=cI k ⟨xs.length+ys.length,el,sz,none⟩ st.e})
     |none=>none
    | .nil=>some (ra st none/\ys.length<=lim,{st with t:=put d (.slice sz (.own (.loc st.n)) ys) st.t,e:=cI (.loc st.n) ⟨ys.length,el,sz,none⟩ st.e,n:=st.n+1})
    |_=>none
   else none
  |_,_=>none
def eT(κ:aM)(n':Nat)(o':List aM)(st:bt):eB->Option (Prop×bt)
 | .mks d _ sz el z x=>match cy st.t x with
  | .int _ n=>some (0<=n/\n<=lim,
    {t:=put d (.row sz κ n.toNat) st.t,b:=st.b,e:=cI κ ⟨n.toNat,el,sz,some (List.replicate n.toNat z)⟩ st.e,n:=n',o:=o'})
  |_=>none
 | .bslm d _ sz el xs=>some (tU sz (xs.map (cy st.t)),
   {t:=put d (.row sz κ xs.length) st.t,b:=st.b,e:=cI κ ⟨xs.length,el,sz,some (xs.map (cy st.t))⟩ st.e,n:=n',o:=o'})
 | .appm d _ sz el x y=>match tW st sz el (cy st.t x) (cy st.t y)with
  |some (none,ys)=>some (ys.length<=lim/\ys≠[],
    {t:=put d (.row sz κ ys.length) st.t,b:=st.b,e:=cI κ ⟨ys.length,el,sz,some ys⟩ st.e,n:=n',o:=o'})
  |some (some (k,xs),ys)=>some (xs.length+ys.length<=lim,{st with t:=put d (.row sz k (xs.length+ys.length)) st.t,e:=cI k ⟨xs.length+ys.length,el,sz,some (xs++ys)⟩ st.e})
  |none=>none
 | .mkmap d _=>some (True,{t:=put d (.gmap κ) st.t,b:=cI κ [.hdm 0 []] st.b,e:=st.e,n:=n',o:=o'})
 | .mput cj x k v=>match cy st.t x with
  | .gmap m=>match look m st.b with
   |some cs=>match ov cj (cy st.t k) (cy st.t v) cs with
    |some cs'=>some (True,{st with b:=cI m cs' st.b})
    |none=>none
   |none=>none
  |_=>none
 | .range d _ x=>match cy st.t x with
  | .gmap m=>match look m st.b with
   |some cs=>match zP m cs with
    |some cs'=>some (True,{t:=put d (.ptr κ 0) st.t,b:=cI κ cs' st.b,e:=st.e,n:=n',o:=o'})
    |none=>none
   |none=>none
  |_=>none
 | .v d i=>match hQ st i with
  |some (c,p)=>some (c,{st with t:=put d p st.t})
  |none=>none
 | .storeE sz x y=>sd st sz (cy st.t x) (cy st.t y)
 | .box d _ x=>some (e7 (cy st.t x)=true,{t:=put d (.ptr κ 0) st.t,b:=cI κ (cells (cy st.t x)) st.b,e:=st.e,n:=n',o:=o'})
 | .alloc d _ z=>some (True,{t:=put d (.ptr κ 0) st.t,b:=cI κ (cells z) st.b,e:=st.e,n:=n',o:=o'})
 | .store sz x y=>match cy st.t x with
  | .ptr k off=>match look k st.b with
   |some cs=>some (iq cs=true/\e7 (cy st.t y)=true/\(cells (cy st.t y)).length=sz/\off+sz<=cs.length,{st with b:=cI k (pa cs off (cells (cy st.t y))) st.b})
   |none=>none
  |p=>sd st sz p (cy st.t y)
 | .bsl d sz el xs=>some (tU sz (xs.map (cy st.t)),
   {st with t:=put d (.slice sz (.own κ) (xs.map (cy st.t))) st.t,e:=cI κ ⟨xs.length,el,sz,none⟩ st.e,n:=n',o:=o'})
 | .app d sz el x y=>match cy st.t x,cy st.t y with
  | .slice dN tag xs,.slice j4 _ ys=>if dN=sz/\j4=sz then
    match tag with
    | .own k=>match look k st.e with
     |some o=>some (o.n=xs.length/\o.el=el/\o.sz=sz/\xs.length+ys.length<=lim,
       {st with t:=put d (.slice sz (.own k) (xs++ys)) st.t,e:=cI k ⟨xs.length+ys.length,el,sz,none⟩ st.e})
     |none=>none
    | .nil=>some (ys.length<=lim,{st with t:=put d (.slice sz (.own κ) ys) st.t,e:=cI κ ⟨ys.length,el,sz,none⟩ st.e,n:=n',o:=o'})
    |_=>none
   else none
  |_,_=>none
def xS:Nat->List dA->List (Nat×Operand)->Bool
 |_,[],[]=>true
 |i,x::xs,(j,o)::os=>i==j&&ey x o&&xS (i+1) xs os
 |_,_,_=>false
def Fy(N:Nat)(bH:List (Nat×dG))(i:eB)(o:Oper):Bool:=
 match i,o.op with
 | .mkmap d _,.makeMap _ none=>o.dst==some d&&decide (d<N)
 | .mput cj x k v,.mapUpdate t hh hb pV=>o.dst==none&&(match er bH t with|some ⟨_,_,.map nK _,_⟩=>zo bH cj nK|_=>false)&&ey x hh&&ey k hb&&ey v pV
 | .mput cj x k v,.insert t hh hb pV=>o.dst==none&&(match er bH t with|some ⟨_,_,.map nK _,_⟩=>zo bH cj nK|_=>false)&&ey x hh&&ey k hb&&ey v pV
 | .range d _ x,.range t hh=>o.dst==some d&&decide (d<N)&&(match er bH t with|some ⟨_,_,.map _ _,_⟩=>true|_=>false)&&ey x hh
 | .v d i,op=>o.dst==some d&&decide (d<N)&&FU bH i op
 | .box d _ x,.box _ o'=>o.dst==some d&&decide (d<N)&&ey x o'
 | .alloc d _ z,.alloc el=>o.dst==some d&&decide (d<N)&&(match er bH el with|some f=>CV z f.zero|none=>false)
 | .store sz x y,.store t o' j1=>o.dst==none&&(match er bH t with|some f=>f.size==sz|none=>false)&&ey x o'&&ey y j1
 | .bsl d sz el xs,.buildSlice t len parts=>o.dst==some d&&decide (d<N)&&(match er bH t with|some ⟨_,_,.slice gl,_⟩=>el==gl|_=>false)&&(match er bH el with|some f=>f.size==sz&&decide (0<sz)|none=>false)
   &&len==xs.length&&decide (len*sz<=16777216)&&xS 0 xs parts.toList
 | .app d sz el x y,.call ⟨.builtin .append,⟨[o',j1]⟩,⟨[t,dH]⟩⟩=>o.dst==some d&&decide (d<N)&&t==dH&&(match er bH t with|some ⟨_,_,.slice gl,_⟩=>el==gl|_=>false)
   &&(match er bH el with|some f=>f.size==sz&&decide (0<sz)&&decide (f.bytes<=2048)|none=>false)&&ey x o'&&ey y j1
 | .bslm d _ sz el xs,.buildSlice t len parts=>o.dst==some d&&decide (d<N)&&(match er bH t with|some ⟨_,_,.slice gl,_⟩=>el==gl|_=>false)&&(match er bH el with|some f=>f.size==sz&&decide (0<sz)|none=>false)
   &&len==xs.length&&decide (len*sz<=16777216)&&xS 0 xs parts.toList
 | .appm d _ sz el x y,.call ⟨.builtin .append,⟨[o',j1]⟩,⟨[t,dH]⟩⟩=>o.dst==some d&&decide (d<N)&&t==dH&&(match er bH t with|some ⟨_,_,.slice gl,_⟩=>el==gl|_=>false)
   &&(match er bH el with|some f=>f.size==sz&&decide (0<sz)&&decide (f.bytes<=2048)|none=>false)&&ey x o'&&ey y j1
 | .storeE sz x y,.store t o' j1=>o.dst==none&&(match er bH t with|some f=>f.size==sz|none=>false)&&ey x o'&&ey y j1
 | .mks d _ sz el z x,.makeSlice t o' j1=>o.dst==some d&&decide (d<N)&&(match er bH t with|some ⟨_,_,.slice gl,_⟩=>el==gl|_=>false)
   &&(match er bH el with|some f=>f.size==sz&&decide (0<sz)&&decide (f.bytes<=2048)&&CV z f.zero|none=>false)&&ey x o'&&ey x j1
 |_,_=>false
theorem aaz{w:World}{Z:bg}{C:fv}{st:bt}{a:Act}(aN:c7 C st a w Z){sz:Nat}:
  ∀(xs:List dA) (i:Nat) (os:List (Nat×Operand)) (pre:List aj) (us:Array Value) (bc:List Value),xS i xs os=true->tU sz (xs.map (cy st.t))->us.toList.take (i*sz)=bc->dK w Z sz pre bc->i=pre.length->us.size=(i+xs.length)*sz->
  ∃ck:Array Value,Instr.fill (fun i=>some (i*sz,sz)) us (os.map fun(x:Nat×Operand)=>(x.1,a.eval x.2))=some ck/\dK w Z sz (pre++xs.map (cy st.t)) ck.toList/\ck.size=us.size
 |[],i,[],pre,us,bc,_,_,az,h,hi,af=>by refine⟨us,by simp[Instr.fill],?_,rfl⟩;have aw:=uY h;have:us.toList.take (i*sz)=us.toList:=hV (by simp at af⊢;omega);rw[this]at az;simpa[az]using h
 |[],_,_::_,_,_,_,eh,_,_,_,_,_=>by simp[xS]at eh
 |_::_,_,[],_,_,_,eh,_,_,_,_,_=>by simp[xS]at eh
 |x::xs,i,(j,o)::os,pre,us,bc,eh,bk,az,h,hi,af=>by
  simp only[xS,cv,dO]at eh;obtain⟨⟨rfl,I⟩,U⟩:=eh;simp only[hc,tU]at bk;obtain⟨⟨iM,hlen⟩,bk⟩:=bk;have ab:=ez aN I;have ks:=wF ab iM;have Bc:=qE ks;have dj:(a.eval o).cells.size=sz:=by rw[hlen]at Bc;simpa using Bc
  have hmul:i*sz+sz<=us.size:=by rw[af,mM,show i+(xs.length+1)=(i+1)+xs.length from by omega,p8,Nat.succ_mul];omega
  have zf:=L9 (w:=w) (Z:=Z) (a.eval o).cells.toList 0 (i*sz) us (by simp[dj];omega);have ku:dK w Z sz (pre++[cy st.t x]) (bc++(a.eval o).cells.toList):=by refine Fp h ?_;simp only[dK];exact⟨a.eval o,[],Ψ,⟨ab,dj,Cy ks⟩,rfl⟩
  have kH:bc.length=i*sz:=by rw[<-az];simp;omega
  obtain⟨ck,g1,g2,g3⟩:=aaz aN xs (i+1) os (pre++[cy st.t x]) (((a.eval o).cells.toList.zipIdx 0).foldl (fun cs (x:Value×Nat)=>cs.setIfInBounds (i*sz+x.2) x.1) us) (bc++(a.eval o).cells.toList) U bk
   (by
    rw[zf];simp only[Nat.add_zero];rw[az];have:(bc++(a.eval o).cells.toList).length=(i+1)*sz:=by rw[pn,kH,Nat.succ_mul];simp[dj]
    rw[<-this,List.take_append_of_le_length (eo _),lB]) ku (by simp[hi])
   (by have bB:=eW List.length zf;simp only[Array.length_toList,pn,List.length_take,tN,dj]at bB;rw[bB,af,mM,show i+(xs.length+1)=i+1+xs.length from by omega];rw[af,mM,show i+(xs.length+1)=i+1+xs.length from by omega]at hmul;omega)
  refine⟨ck,?_,by simpa using g2,?_⟩
  ·simp only[hc,Instr.fill];rw[if_neg (by simp[dj];omega),<-g1];congr 1;rw[<-Array.foldl_toList];simp
  ·rw[g3];have bB:=eW List.length zf;simp only[Array.length_toList,pn,List.length_take,tN,dj]at bB;rw[bB];omega
theorem nj{P:cM}{o:Oper}{a:Act}{w w':World}{v:Value}{K:Act->World->Prop}{Q:Exit->Act->World->Prop}(h:(execOp a.eval o).run P w= .ok (.value v) w')(ae:K (a.put o.dst v) w'):o.wp P a w K Q:=by unfold Oper.wp;rw[h];exact ae
theorem F6{P:cM}{o:Oper}{a:Act}{w w':World}{K:Act->World->Prop}{Q:Exit->Act->World->Prop}(h:(execOp a.eval o).run P w= .ok .skip w')(ae:K (a.put o.dst undef) w'):o.wp P a w K Q:=by unfold Oper.wp;rw[h];exact ae
theorem FZ{P:cM}{w w':World}{x:Sem Value}{v:Value}(h:x.run P w= .ok v w'):(do pure (Next.value (<-x)):Sem Next).run P w= .ok (.value v) w':=by simp[h]
theorem aax{P:cM}{bH:List (Nat×dG)}(aC:fX P bH=true){C:fv}{st:bt}{a:Act}{w:World}{Z:bg}(aN:c7 C st a w Z){t el:Nat}{f g:dG}(aO:er bH t=some f)(ae:f.kind= .slice el)(aT:er bH el=some g)
  {xs:List dA} {os:List (Nat×Operand)} (eh:xS 0 xs os=true) (dY:tU g.size (xs.map (cy st.t))) (hlen:xs.length*g.size<=16777216):
  ∃us:Array Value,(Instr.buildSlice t xs.length (os.map fun(x:Nat×Operand)=>(x.1,a.eval x.2)).toArray).run P w= .ok (.slice (some ⟨w.heap.size,0,none⟩) xs.length xs.length) (w.alloc (.cells us el))/\
   dK w Z g.size (xs.map (cy st.t)) us.toList/\us.size=xs.length*g.size:=by
 obtain⟨d,aD,fk⟩:=jM aC aO;rw[ae]at fk;obtain rfl:=ua fk;obtain⟨_,af⟩:=wO aC aT w;obtain⟨z,zj,WT,atA⟩:=Qm aC aT w;have au:¬xs.length*g.size>2 ^ 24:=Ω
 let init:Array Value:=if xs.length*g.size=0 then(Array.range (xs.length*g.size)).map ((#[]:Array Value)[· %(#[]:Array Value).size]!)else(Array.range (xs.length*g.size)).map (z.cells[· %z.cells.size]!)
 have Wb:init.size=xs.length*g.size:=by simp only[init];split<;>simp
 obtain⟨ck,g1,g2,g3⟩:=aaz (a:=a) aN xs 0 os [] init [] eh dY Ψ (by simp[dK]) rfl (by rw[Wb];simp);refine⟨ck,?_,by simpa using g2,by rw[g3,Wb]⟩;simp only[init]at g1;by_cases bB:xs.length*g.size=0
 ·rw[if_pos bB]at g1;rw[bB]at g1;have ahR:¬(0:Nat)>2 ^ 24:=by decide
  simp only[Instr.buildSlice,fZ,run_underlying aD,gf,af,if_false,gI,bB,if_true,ahR,g1,newRow,run_newObj];rfl
 ·rw[if_neg bB]at g1;simp only[Instr.buildSlice,fZ,run_underlying aD,gf,af,au,if_false,gI,bB,zj,g1,newRow,run_newObj];rfl
theorem ET{P:cM}{w:World}{Z:bg}{cj:kn}{t:hl}(aD:vf P cj t){k v:aj}{gy QS:Value}(ae:be w Z k gy)(az:be w Z v QS):
  ∀(borns:List Nat) (kvs:List aj) (us:List Value) (i:Nat) (r:Option (List aj)),cZ w Z kvs us->kvs.length=2*borns.length->ti cj k v kvs=some r->
  match r with
  |none=>iH P w cj t gy (fV borns us) i none
  |some xJ=> ∃j u ck e,iH P w cj t gy (fV borns us) i (some (i+j,u))/\cZ w Z xJ ck/\xJ.length=kvs.length/\(fV borns us)[j]? =some e/\e.key=gy/\Instr.sameBits 10000 e.key gy=true/\fV borns ck=(fV borns us).modify j (fun e=>{e with key:=gy,val:=QS})
 |[],[],us,i,r,h,_,hm=>by simp only[ti]at hm;cases hm;simp only[cZ]at h;subst h;simpa[fV]using iH.nil P w cj t gy i
 |[],_::_,_,_,_,_,aw,_=>by simp at aw
 |b::e9,[],_,_,_,_,aw,_=>by simp at aw
 |b::e9,[_],_,_,_,_,aw,_=>by simp at aw;omega
 |b::e9,bJ::v'::kvs,us,i,r,h,aw,hm=>by
  simp only[cZ]at h;obtain⟨jO,Qs,rfl,I,ki,tH,rfl,U,ao⟩:=h;simp only[ti]at hm;simp only[fV];cases bs:rW cj k bJ with
  |none=>simp[bs]at hm
  |some bb=>
   obtain⟨s1,s2⟩:=Xp aD ae I bs;simp only[bs]at hm;cases bb with
   |true=>simp only[dD]at hm;subst hm;obtain⟨rfl,s3⟩:=s2 rfl;refine⟨0,ki,jO::QS::tH,⟨jO,ki,b⟩,iH.hit (e:=⟨jO,ki,b⟩) s1,?_,Ψ,Ψ,rfl,s3,by simp[fV]⟩;simp only[cZ];exact⟨_,_,rfl,ae,_,_,rfl,az,ao⟩
   |false=>
    simp only at hm;have bK:=fun e2 dq=>ET aD ae az e9 kvs tH (i+1) e2 ao (by simp at aw;omega) dq;split at hm
    ·rename_i e2 dq;cases hm;obtain⟨j,u,ck,e,g1,g2,g3,g4,g5,g6,g7⟩:=bK _ dq;refine⟨j+1,u,jO::ki::ck,e,iH.miss (e:=⟨jO,ki,b⟩) s1 (by rw[show i+(j+1)=i+1+j from by omega];exact g1),?_,by simp[g3],by simpa using g4,g5,g6,by simp[fV,g7]⟩;simp only[cZ];exact⟨_,_,rfl,I,_,_,rfl,U,g2⟩
    ·rename_i dq;cases hm;exact iH.miss (e:=⟨jO,ki,b⟩) s1 (bK _ dq)
    ·cases hm
theorem LK:∀(borns:List Nat) (us:List Value) (b:Nat) (k v:Value),us.length=2*borns.length->fV (borns++[b]) (us++[k,v])=fV borns us++[⟨k,v,b⟩]
 |[],us,b,k,v,h=>by have:us=[]:=List.eq_nil_of_length_eq_zero (by simpa using h);subst this;simp[fV]
 |b3::e9,[],b,k,v,h=>by simp at h
 |b3::e9,[_],b,k,v,h=>by simp at h;omega
 |b3::e9,bJ::v'::us,b,k,v,h=>by simp only[bQ,fV,LK e9 us b k v (by simp at h;omega)]
theorem PN{w:World}{Z:bg}:∀{cC bu:List aj} {bc us:List Value},cZ w Z cC bc->cZ w Z bu us->cZ w Z (cC++bu) (bc++us)
 |[],bu,bc,us,h,b4=>by simp only[cZ]at h;subst h;simpa using b4
 |p::cC,bu,bc,us,h,b4=>by simp only[cZ]at h;obtain⟨u,ck,rfl,I,U⟩:=h;simp only[bQ,cZ];exact⟨u,_,rfl,I,PN U b4⟩
theorem JI{w:World}{Z:bg}:∀{cC:List aj} {bc:List Value},cZ w Z cC bc->bc.length=cC.length
 |[],bc,h=>by simp only[cZ]at h;subst h;rfl
 |p::cC,bc,h=>by simp only[cZ]at h;obtain⟨u,ck,rfl,_,U⟩:=h;simp[JI U]
theorem Fx{P:cM}{w:World}{r:Nat}{o o':Obj}(ad:w.heap[r]? =some o)(au:∀c e f,o≠ .cells c e f:=by simp):(setObj r o').run P w= .ok () {w with heap:=w.heap.setIfInBounds r o'}:=by simp only[setObj,Sem.run,ad]
def eB.makes(st:bt):eB->Bool
 | .box _ _ _| .alloc _ _ _| .bsl _ _ _ _| .bslm _ _ _ _ _| .mkmap _ _| .range _ _ _| .mks _ _ _ _ _ _=>true
 | .appm _ _ _ _ x _=>match cy st.t x with
  | .slice _ .nil _=>true
  |_=>false
 | .app _ _ _ x _=>match cy st.t x with
  | .slice _ .nil _=>true
  |_=>false
 |_=>false
theorem c7.forgetRow{C:fv}{st:bt}{a:Act}{w:World}{Z:bg}(aN:c7 C st a w Z){k:aM}{ow:fU}(ae:look k st.e=some ow):c7 C {st with e:=cI k ⟨ow.n,ow.el,ow.sz,none⟩ st.e} a w Z:=by
 have ia:∀g,(look g (cI k ⟨ow.n,ow.el,ow.sz,none⟩ st.e)).isSome->(look g st.e).isSome:=fun g aT=>by
  rw[jL]at aT;split at aT
  ·rename_i e;subst e;simp[ae]
  ·exact aT
 refine⟨⟨aN.good.alt,aN.good.box,aN.good.inj,fun g o aT=>?_,fun g fj n n' v v' bl bF a2=>aN.good.oinj g fj n n' v v' bl (ia g bF) (ia fj a2),fun g j n v bl bF=>aN.good.obx g j n v bl (ia g bF),aN.good.one,fun bl ad=>aN.good.otr bl (ad.imp id (fun⟨g,n,v,bF,a2⟩=>⟨g,n,v,ia g bF,a2⟩))⟩,aN.fr,aN.defers,aN.size,aN.slot,aN.new⟩;simp only at aT;rw[jL]at aT;split at aT
 ·rename_i e;subst e;cases aT;obtain⟨v,us,aW,bj,bM,_⟩:=aN.good.own k ow ae;exact⟨v,us,aW,bj,bM,fun xs ab=>by cases ab⟩
 ·exact aN.good.own g o aT
theorem Y7{w:World}{base el sz n:Nat}{v:Value}{us:List Value}(h:w.ownsRow base el sz v n us)(au:0<n):∃b cap,v= .slice (some ⟨b,0,none⟩) n cap:=by
 rcases h.2 with⟨ar,aE⟩|⟨bb,cap,cur,f1,_⟩
 ·omega
 ·exact⟨_,_,f1⟩
theorem JF{w:World}{Z:bg}{sz:Nat}:∀{xs:List aj} {us:List Value} {i:Nat} {q gq:aj} {fu:Value},dK w Z sz xs us->xs[i]? =some q->be w Z gq fu->fu.cells.size=sz->(∀c∈fu.cells.toList,c.oneCell'=true)->dK w Z sz (xs.set i gq) (us.take (i*sz)++fu.cells.toList++us.drop (i*sz+sz))
 |[],_,_,_,_,_,_,bs,_,_,_=>by simp at bs
 |x::xs,us,0,q,gq,fu,h,bs,aN,af,ax=>by
  simp only[dK]at h;obtain⟨u,ck,rfl,⟨I,U,ao⟩,b8⟩:=h;have aw:u.cells.toList.length=sz:=by simpa using U
  simp only[List.set_cons_zero,dK];refine⟨fu,ck,?_,⟨aN,af,ax⟩,b8⟩;simp[<-aw]
 |x::xs,us,i+1,q,gq,fu,h,bs,aN,af,ax=>by
  simp only[dK]at h;obtain⟨u,ck,rfl,⟨I,U,ao⟩,b8⟩:=h;have aw:u.cells.toList.length=sz:=by simpa using U
  have bK:=JF b8 (by simpa using bs) aN af ax;simp only[List.set_cons_succ,dK];refine⟨u,_,?_,⟨I,U,ao⟩,bK⟩;have e:(i+1)*sz+sz=u.cells.toList.length+(i*sz+sz):=by rw[aw,Nat.succ_mul];omega
  rw[aaX _ _ _ _ aw,e,<-List.drop_drop];simp
theorem ao6{w:World}{Z:bg}{q:aj}{v:Value}(bs:be w Z q v)(af:e7 q=true){cs:List aj}{us:List Value}(aq:dt w Z cs us){f:Nat}(aO:f+us.length<=v.cells.size)(cG:us≠[]):
  ∃v',be w Z (qG q f cs) v'/\v'.cells.toList=v.cells.toList.take f++us++v.cells.toList.drop (f+us.length)/\v'.cells.size=v.cells.size/\∀c∈v'.cells.toList,c.oneCell'=true:=by
 have hlen:=qE aq;have lI:=wF bs af;by_cases bk:∃e4,q= .agg e4
 ·obtain⟨e4,rfl⟩:=bk;simp only[be]at bs;obtain⟨bc,rfl,lh⟩:=bs;simp only[p5]at aO⊢;have kG:dt w Z (pa e4 f cs) (bc.toList.take f++us++bc.toList.drop (f+us.length)):=by unfold pa;rw[hlen];exact zS (zS (Fs f lh) aq) (Cx _ lh)
  refine⟨.agg (bc.toList.take f++us++bc.toList.drop (f+us.length)).toArray,by simp only[qG,be];exact⟨_,rfl,by simpa using kG⟩,by simp[p5],?_,fun c hJ=>?_⟩
  ·simp[p5];omega
  ·exact Cy kG c (by simpa[p5]using hJ)
 ·have n7:∀cs,q≠ .agg cs:=fun cs e=>bk ⟨cs,e⟩;obtain⟨I,U⟩:=PQ bs af n7;rw[U]at aO⊢;match us,cG,aq with
  |u::ck,_,aq=>
   simp at aO;obtain⟨rfl,rfl⟩:f=0/\ck=[]:=⟨Ω,List.length_eq_zero_iff.1 Ω⟩;match cs,aq,hlen with
   |[c],aq,_=>
    simp only[dt]at aq;obtain⟨CJ,fS,ar,⟨MF,DV⟩,_⟩:=aq;cases ar;have hu:u.cells= #[u]:=by cases u<;>first|rfl|cases DV
    have Bs:qG q 0 [c]=c:=by cases q<;>first|rfl|exact absurd rfl (n7 _)
    rw[Bs];refine⟨u,MF,by simp[hu],by simp[hu],fun c hJ=>?_⟩;rw[hu]at hJ;simp at hJ;subst hJ;exact DV
theorem apR{α:Type}(A us:List α)(a f sz N:Nat)(I:f+us.length<=sz)(U:a+sz<=N)(ao:N<=A.length):
  ((A.take (a+f)++us++A.drop (a+f+us.length)).toArray.toList).take N=(A.take N).take a++((((A.take N).drop a).take sz).take f++us++(((A.take N).drop a).take sz).drop (f+us.length))++(A.take N).drop (a+sz):=by
 have ar:(A.take N).take a++(((A.take N).drop a).take sz).take f=A.take (a+f):=by rw[List.take_take (i:=f),Nat.min_eq_left (show f<=sz by omega),<-List.take_add,List.take_take,Nat.min_eq_left Ω]
 have aE:(((A.take N).drop a).take sz).drop (f+us.length)++(A.take N).drop (a+sz)=(A.take N).drop (a+f+us.length):=by
  have aw:f+us.length<=(((A.take N).drop a).take sz).length:=by simp;omega
  have pC:(A.take N).drop (a+sz)=((A.take N).drop a).drop sz:=by rw[List.drop_drop]
  rw[pC,<-List.drop_append_of_le_length aw,List.take_append_drop,List.drop_drop];congr 1;omega
 have bA:(A.take N).drop (a+f+us.length)=(A.drop (a+f+us.length)).take (N-(a+f+us.length)):=by rw[List.drop_take]
 have aw:(A.take (a+f)++us).length=a+f+us.length:=by simp;omega
 simp only[List.append_assoc]at*;rw[aE,bA,<-List.append_assoc (p7 a _),ar];have iK:N=(A.take (a+f)++us).length+(N-(a+f+us.length)):=by rw[aw];omega
 rw[<-List.append_assoc,<-List.append_assoc];conv=>lhs;rw[iK,List.take_length_add_append]
theorem c7.storeRow{P:cM}{C:fv}{st:bt}{a:Act}{w:World}{Z:bg}(h:c7 C st a w Z){k:aM}{n el sz:Nat}{xs:List aj}(ae:look k st.e=some ⟨n,el,sz,some xs⟩){i f:Nat}{u:Value}(ab:be w Z (.rptr sz k n i f) u){q:aj}(bs:xs[i]? =some q)(af:e7 q=true)
  {cs:List aj} {us:List Value} (aq:dt w Z cs us) (aO:f+us.length<=(cells q).length) (cG:us≠[]):
  ∃bl off nt,u= .pointer (some ⟨bl,off,none⟩)/\(storeCells ⟨bl,off,none⟩ us).run P w= .ok () (w.setRow bl nt)/\∃bo,c7 C {st with e:=cI k ⟨n,el,sz,some (xs.set i (qG q f cs))⟩ st.e} a (w.setRow bl nt) bo:=by
 simp only[be]at ab;obtain⟨_,hi,n',fu,I,U,ao⟩:=ab;obtain⟨v,fS,aW,bj,bM,cL⟩:=h.good.own k _ ae;rw[I]at aW;simp only[dD,kl]at aW;obtain⟨rfl,rfl⟩:=aW;obtain⟨bl,ad,rfl⟩:=ao rfl;obtain⟨c2,mG,wA⟩:=cL xs rfl;simp only at c2 mG;obtain⟨v,fc,gh,qC⟩:=JD i mG bs;have Bc:=qE (wF fc af);have ajs:(cells q).length=sz:=by rw[<-Bc];simpa using gh
 have q2:f+us.length<=sz:=by rw[<-ajs];exact aO
 have hmul:i*sz+sz<=n'*sz:=by have:=rr sz (show i+1<=n' from hi);rwa[Nat.succ_mul]at this
 rcases bj.2 with⟨ar,aE⟩|⟨g,cap,cur,rfl,sN,MT,M1,aim,dj,WL⟩
 ·rw[ar]at ad;simp[pk]at ad
 simp only[pk,dD]at ad;subst ad;simp only at WL dj M1 MT;have Bb:n'*sz<=cur.size:=by rw[dj];exact rr sz M1
 have da:=run_storeCells_at P g (i*sz+f) el us 0 cur w MT Ω (Cy aq);simp only[Nat.add_zero]at da;refine⟨g,i*sz+f,_,rfl,da,?_⟩;generalize yX:(cur.toList.take (i*sz+f)++us++cur.toList.drop (i*sz+f+us.length)).toArray=nt;obtain⟨v',cT,dm,iO,ts⟩:=ao6 fc af aq (f:=f) (by rw[gh];exact q2) cG;have mA:=JF mG bs cT (by rw[iO,gh]) ts;have hlen:fS.length=n'*sz:=bj.1;have aje:nt.toList.take (n'*sz)=fS.take (i*sz)++v'.cells.toList++fS.drop (i*sz+sz):=by rw[<-yX,dm,qC,<-WL];exact apR cur.toList us (i*sz) f sz (n'*sz) q2 hmul (by simpa using Bb)
 have aio:nt.size=cap*sz:=by rw[<-yX,<-dj];simp;omega
 have ato:(xs.set i (qG q f cs)).length=n':=by simp[c2]
 obtain⟨O1,_,_⟩:=h.setRowM (w':=w.setRow g nt) ae rfl I (bl:=g) rfl (v':= .slice (some ⟨g,0,none⟩) n' cap) rfl (xs':=xs.set i (qG q f cs)) (us:=fS.take (i*sz)++v'.cells.toList++fS.drop (i*sz+sz)) (.inl ⟨by simp[c2],rfl⟩) rfl rfl rfl (fun j ag=>setRow_other w g j nt ag) (setRow_size w g nt)
  ⟨by rw[uY mA],.inr ⟨g,cap,nt,by simp[c2],Nat.zero_le _,setRow_heap w g cur nt el _ MT,by simpa[c2]using M1,aim,aio,by simpa[c2]using aje⟩⟩ mA
 exact⟨_,by simpa[c2]using O1⟩
theorem ak6(z:Array Value)(n:Nat)(h:0<z.size):(madeCells z ((n+1)*z.size)).toList=z.toList++(madeCells z (n*z.size)).toList:=by
 apply List.ext_getElem?;intro j;rw[List.getElem?_append];have he:(n+1)*z.size=n*z.size+z.size:=by rw[p8,Nat.one_mul]
 simp only[madeCells,vb,Array.length_toList,Array.getElem?_map];by_cases ag:j<z.size
 ·rw[if_pos ag,Array.getElem?_range,if_pos Ω];simp[Nat.mod_eq_of_lt ag,ag]
 ·rw[if_neg ag,Array.getElem?_range,Array.getElem?_range];by_cases ae:j<n*z.size+z.size
  ·rw[if_pos Ω,if_pos Ω];simp only[nT];rw[<-Nat.mod_eq_sub_mod Ω]
  ·rw[if_neg Ω,if_neg Ω]
theorem XX{w:World}{Z:bg}{p:aj}{z:Value}(aN:be w Z p z)(h:0<z.cells.size)(ax:∀c∈z.cells.toList,c.oneCell'=true):∀n,dK w Z z.cells.size (List.replicate n p) (madeCells z.cells (n*z.cells.size)).toList
 |0=>by simp[dK,madeCells]
 |n+1=>by rw[ak6 _ _ h];simp only[List.replicate_succ,dK];exact⟨z,_,rfl,⟨aN,rfl,ax⟩,XX aN h ax n⟩
theorem kA{P:cM}{bH:List (Nat×dG)}(aC:fX P bH=true){C:fv}{st st':bt}{a:Act}{w:World}{Z:bg}(aN:c7 C st a w Z){i:eB}{o:Oper}(ax:Fy C.N bH i o=true)
  {κ:aM} {n':Nat} {o₁:List aM} (vI:i.makes st=true->fresh st.n st.o κ) (cW:i.makes st=true->∀j,fresh n' o₁ j->fresh st.n st.o j/\j≠κ) {c:Prop} (he:eT κ n' o₁ st i=some (c,st')) (aq:c) {K:Act->World->Prop} {Q:Exit->Act->World->Prop} (de:∀bq w' bo,c7 C st' bq w' bo->K bq w'):o.wp P a w K Q:=by
 obtain⟨dst,op,type,pos,after,guard⟩:=o;unfold Fy at ax;dsimp only at ax;split at ax
 ·rename_i d key t;simp only[cv,dO,eA]at ax;obtain⟨rfl,U⟩:=ax;simp only[eT]at he;cases he;obtain⟨g1,g2⟩:=aN.newBox (aN.new _ (vI rfl)) (cW rfl) (cs:=[.hdm 0 []]) (us:= #[]) 0 (by simp only[j3];exact⟨by simp[cZ],⟨rfl,Ψ,Ψ⟩⟩);refine nj (v:= .map (some w.heap.size)) (w':=w.alloc (.map #[] 0)) ?_ (de _ _ _ (g1.put (d:=some d) (by simpa[j8]using U) (p:= .gmap κ) ?_))
  ·simp only[execOp,Instr.makeMap,Option.map_none,fZ,run_newObj,gf,gI];rfl
  ·simp[be,bg.withBox]
 ·rename_i cj x k v t hh hb pV;simp only[cv,dO]at ax;obtain⟨⟨⟨⟨rfl,I⟩,U⟩,ao⟩,a7⟩:=ax;have rx:=ez aN U;have wG:=ez aN ao;have zZ:=ez aN a7;split at I
  ·rename_i sz l2 nK qm z aO;obtain⟨cQ,hu,fk⟩:=jM aC aO;have uq:cQ= .map nK qm:=by cases cQ<;>simp[kX]at fk;obtain⟨rfl,rfl⟩:=fk;rfl
   subst uq;have mU:=NQ aC I;simp only[eT]at he;split at he
   ·rename_i m ab;rw[ab]at rx;simp only[be]at rx;obtain⟨bl,b1,b2⟩:=rx;split at he
    ·rename_i cs dj;split at he
     ·rename_i cs' hm;cases he;obtain⟨jk,us,el,aW,bj,bM,cL,c2⟩:=aN.good.box m cs dj;rw[b1]at aW;cases aW;unfold ov at hm;split at hm
      ·rename_i clock borns kvs;split at hm
       ·cases hm
       rename_i vM;simp only[ky]at cL;simp only[j3]at c2;have ij:=wI (P:=P) cL;have xg:=PT (P:=P) (w:=w) mU false wG (by simpa using vM);have bD:bl<w.heap.size:=(Array.getElem?_eq_some_iff.1 cL).1;have ds:∀(o':Obj) (ck:Array Value) (e4:List aj),(Instr.mapUpdate t (a.eval hh) (a.eval hb) (a.eval pV)).run P w= .ok () {w with heap:=w.heap.setIfInBounds bl o'}->ky e4 ck el=o'->j3 w Z e4 ck.toList->some e4=some cs'->
         (⟨none,.mapUpdate t hh hb pV,type,pos,after,guard⟩:Oper).wp P a w K Q:=by
        intro o' ck e4 iY Ea mA jG;cases jG;refine F6 (w':={w with heap:=w.heap.setIfInBounds bl o'}) ?_ (de _ _ _ (aN.setBox (w':={w with heap:=w.heap.setIfInBounds bl o'}) dj b1 (us:=ck) (el:=el) rfl rfl rfl (fun j ag=>?_) Ψ ?_ mA).1)
        ·simp only[execOp,iY,fZ,gf,gI]
        ·exact Array.getElem?_setIfInBounds_ne (lY ag)
        ·rw[Ea];simp[bD]
       split at hm
       ·rename_i xJ vO;obtain⟨j,u,ck,e,f1,f2,f3,f4,f5,f6,f7⟩:=ET mU wG zZ borns kvs us.toList 0 _ c2.1 c2.2.len vO;refine ds (.map (fV borns ck).toArray clock) ck.toArray (.hdm clock borns::xJ) ?_ (by simp[ky]) (by simp only[j3];exact⟨by simpa using f2,⟨by rw[f3];exact c2.2.len,c2.2.inc,c2.2.lt⟩⟩) hm;have Nj:(Instr.keyThatStays (((fV borns us.toList).toArray[j]?.map (·.key)).getD (a.eval hb)) (a.eval hb)).run P w= .ok (a.eval hb) w:=by
         have:((fV borns us.toList).toArray[j]?.map (·.key)).getD (a.eval hb)=e.key:=by simp[f4]
         rw[this];simp[Instr.keyThatStays,f6]
        simp only[Nat.zero_add]at f1;simp only[Instr.mapUpdate,fZ,run_underlying hu,gf,b2,ij,xg,f1.run mU,gI,Nj,Fx cL];rw[f7];simp
       ·rename_i vO;have f1:=ET mU wG zZ borns kvs us.toList 0 _ c2.1 c2.2.len vO;simp only at f1;have sZ:us.toList.length=2*borns.length:=by rw[JI c2.1,c2.2.len]
        refine ds (.map ((fV borns us.toList).toArray.push ⟨a.eval hb,a.eval pV,clock⟩) (clock+1)) (us.toList++[a.eval hb,a.eval pV]).toArray (.hdm (clock+1) (borns++[clock])::(kvs++[cy st.t k,cy st.t v])) ?_ (by simp only[ky,LK borns us.toList clock _ _ sZ];simp) ?_ hm
        ·simp only[Instr.mapUpdate,fZ,run_underlying hu,gf,b2,ij,xg,f1.run mU,gI,Fx cL]
        ·simp only[j3];refine⟨PN c2.1 (by simp only[cZ];exact⟨_,_,rfl,wG,_,_,rfl,zZ,rfl⟩),⟨by simp[c2.2.len];omega,?_,?_⟩⟩
         ·rw[List.pairwise_append];exact⟨c2.2.inc,Ψ,fun x ab y aB=>by simp at aB;subst aB;exact c2.2.lt x ab⟩
         ·intro b ad;rcases h3.1 ad with ad|ad
          ·have:=c2.2.lt b ad;omega
          ·simp at ad;omega
       ·cases hm
      ·cases hm
     ·cases he
    ·cases he
   ·cases he
  ·cases I
 ·rename_i cj x k v t hh hb pV;simp only[cv,dO]at ax;obtain⟨⟨⟨⟨rfl,I⟩,U⟩,ao⟩,a7⟩:=ax;have rx:=ez aN U;have wG:=ez aN ao;have zZ:=ez aN a7;split at I
  ·rename_i sz l2 nK qm z aO;obtain⟨cQ,hu,fk⟩:=jM aC aO;have uq:cQ= .map nK qm:=by cases cQ<;>simp[kX]at fk;obtain⟨rfl,rfl⟩:=fk;rfl
   subst uq;have mU:=NQ aC I;simp only[eT]at he;split at he
   ·rename_i m ab;rw[ab]at rx;simp only[be]at rx;obtain⟨bl,b1,b2⟩:=rx;split at he
    ·rename_i cs dj;split at he
     ·rename_i cs' hm;cases he;obtain⟨jk,us,el,aW,bj,bM,cL,c2⟩:=aN.good.box m cs dj;rw[b1]at aW;cases aW;unfold ov at hm;split at hm
      ·rename_i clock borns kvs;split at hm
       ·cases hm
       rename_i vM;simp only[ky]at cL;simp only[j3]at c2;have ij:=wI (P:=P) cL;have xg:=PT (P:=P) (w:=w) mU false wG (by simpa using vM);have bD:bl<w.heap.size:=(Array.getElem?_eq_some_iff.1 cL).1;have ds:∀(o':Obj) (ck:Array Value) (e4:List aj),(Instr.mapUpdate t (a.eval hh) (a.eval hb) (a.eval pV)).run P w= .ok () {w with heap:=w.heap.setIfInBounds bl o'}->ky e4 ck el=o'->j3 w Z e4 ck.toList->some e4=some cs'->
         (⟨none,.mapUpdate t hh hb pV,type,pos,after,guard⟩:Oper).wp P a w K Q:=by
        intro o' ck e4 iY Ea mA jG;cases jG;refine F6 (w':={w with heap:=w.heap.setIfInBounds bl o'}) ?_ (de _ _ _ (aN.setBox (w':={w with heap:=w.heap.setIfInBounds bl o'}) dj b1 (us:=ck) (el:=el) rfl rfl rfl (fun j ag=>?_) Ψ ?_ mA).1)
        ·simp only[execOp,iY,fZ,gf,gI]
        ·exact Array.getElem?_setIfInBounds_ne (lY ag)
        ·rw[Ea];simp[bD]
       split at hm
       ·rename_i xJ vO;obtain⟨j,u,ck,e,f1,f2,f3,f4,f5,f6,f7⟩:=ET mU wG zZ borns kvs us.toList 0 _ c2.1 c2.2.len vO;refine ds (.map (fV borns ck).toArray clock) ck.toArray (.hdm clock borns::xJ) ?_ (by simp[ky]) (by simp only[j3];exact⟨by simpa using f2,⟨by rw[f3];exact c2.2.len,c2.2.inc,c2.2.lt⟩⟩) hm;have Nj:(Instr.keyThatStays (((fV borns us.toList).toArray[j]?.map (·.key)).getD (a.eval hb)) (a.eval hb)).run P w= .ok (a.eval hb) w:=by
         have:((fV borns us.toList).toArray[j]?.map (·.key)).getD (a.eval hb)=e.key:=by simp[f4]
         rw[this];simp[Instr.keyThatStays,f6]
        simp only[Nat.zero_add]at f1;simp only[Instr.mapUpdate,fZ,run_underlying hu,gf,b2,ij,xg,f1.run mU,gI,Nj,Fx cL];rw[f7];simp
       ·rename_i vO;have f1:=ET mU wG zZ borns kvs us.toList 0 _ c2.1 c2.2.len vO;simp only at f1;have sZ:us.toList.length=2*borns.length:=by rw[JI c2.1,c2.2.len]
        refine ds (.map ((fV borns us.toList).toArray.push ⟨a.eval hb,a.eval pV,clock⟩) (clock+1)) (us.toList++[a.eval hb,a.eval pV]).toArray (.hdm (clock+1) (borns++[clock])::(kvs++[cy st.t k,cy st.t v])) ?_ (by simp only[ky,LK borns us.toList clock _ _ sZ];simp) ?_ hm
        ·simp only[Instr.mapUpdate,fZ,run_underlying hu,gf,b2,ij,xg,f1.run mU,gI,Fx cL]
        ·simp only[j3];refine⟨PN c2.1 (by simp only[cZ];exact⟨_,_,rfl,wG,_,_,rfl,zZ,rfl⟩),⟨by simp[c2.2.len];omega,?_,?_⟩⟩
         ·rw[List.pairwise_append];exact⟨c2.2.inc,Ψ,fun x ab y aB=>by simp at aB;subst aB;exact c2.2.lt x ab⟩
         ·intro b ad;rcases h3.1 ad with ad|ad
          ·have:=c2.2.lt b ad;omega
          ·simp at ad;omega
       ·cases hm
      ·cases hm
     ·cases he
    ·cases he
   ·cases he
  ·cases I
 ·rename_i d key x t hh;simp only[cv,dO,eA]at ax;obtain⟨⟨⟨rfl,U⟩,I⟩,ao⟩:=ax;have rx:=ez aN ao;split at I
  ·rename_i sz l2 nK qm z aO;obtain⟨cQ,hu,fk⟩:=jM aC aO;have uq:cQ= .map nK qm:=by cases cQ<;>simp[kX]at fk;obtain⟨rfl,rfl⟩:=fk;rfl
   subst uq;simp only[eT]at he;split at he
   ·rename_i m ab;rw[ab]at rx;have aph:=rx;simp only[be]at rx;obtain⟨bl,b1,b2⟩:=rx;split at he
    ·rename_i cs dj;split at he
     ·rename_i cs' hm;cases he;obtain⟨jk,us,el,aW,bj,bM,cL,c2⟩:=aN.good.box m cs dj;rw[b1]at aW;cases aW;unfold zP at hm;split at hm
      ·rename_i clock borns kvs;cases hm;simp only[ky]at cL;have ij:=wI (P:=P) cL;obtain⟨g1,g2⟩:=aN.newBox (aN.new _ (vI rfl)) (cW rfl) (cs:=[.hdi clock [] clock,.gmap m]) (us:= #[a.eval hh]) 0 (by simp only[j3,cZ];exact⟨_,_,rfl,aph,rfl⟩);have Ea:ky [.hdi clock [] clock,.gmap m] #[a.eval hh] 0= .mapIter (some bl) clock #[] clock:=by simp[ky,b2]
       rw[Ea]at g1 g2;refine nj (v:= .pointer (some ⟨w.heap.size,0,none⟩)) (w':=w.alloc (.mapIter (some bl) clock #[] clock)) ?_ (de _ _ _ (g1.put (d:=some d) (by simpa[j8]using U) (p:= .ptr κ 0) g2))
       ·simp only[execOp];refine FZ ?_;simp only[Instr.range,fZ,run_underlying hu,gf,b2,ij,gI,run_newObj];rfl
      ·cases hm
     ·cases he
    ·cases he
   ·cases he
  ·cases I
 ·rename_i d avY;simp only[cv,dO,eA]at ax;obtain⟨⟨I,U⟩,ao⟩:=ax;subst I;simp only[eT]at he;split at he
  ·rename_i cr p az;cases he;obtain⟨v,g1,g2⟩:=aql (o:=⟨some d,op,type,pos,after,guard⟩) aC aN ao az aq;refine nj g1 (de _ _ Z ?_);exact aN.put (d:=some d) (by simpa[j8]using U) g2
  ·cases he
 ·rename_i d key x el o';simp only[cv,dO,eA]at ax;obtain⟨⟨I,U⟩,ao⟩:=ax;subst I;simp only[eT]at he;cases he;have ab:=ez aN ao;have ks:=wF ab aq;obtain⟨g1,g2⟩:=aN.newBox (aN.new _ (vI rfl)) (cW rfl) el (by rw[wz (Cz ks)];exact ks);rw[wy (Cz ks)]at g1 g2;refine nj (v:= .pointer (some ⟨w.heap.size,0,none⟩)) (w':=w.alloc (.cells (a.eval o').cells el)) ?_ (de _ _ _ (g1.put (d:=some d) (by simpa[j8]using U) (p:= .ptr κ 0) ?_))
  ·simp only[execOp,Instr.box,newVar,newRow,fZ,run_newObj,gf,gI];rfl
  ·simpa only[be]using g2
 ·rename_i d key z el;simp only[cv,dO,eA]at ax;obtain⟨⟨I,U⟩,ao⟩:=ax;subst I;simp only[eT]at he;cases he;split at ao
  ·rename_i f aO;have a8:=Q4 ao;obtain⟨bT,lX,z2,z3⟩:=Qm aC aO w;rw[<-a8]at z2;obtain⟨_,ks⟩:=Q3 w Z z2;obtain⟨g1,g2⟩:=aN.newBox (aN.new _ (vI rfl)) (cW rfl) el (by rw[wz (Cz ks)];exact ks);rw[wy (Cz ks)]at g1 g2;refine nj (v:= .pointer (some ⟨w.heap.size,0,none⟩)) (w':=w.alloc (.cells bT.cells el)) ?_ (de _ _ _ (g1.put (d:=some d) (by simpa[j8]using U) (p:= .ptr κ 0) ?_))
   ·simp only[execOp,Instr.alloc,newVar,newRow,fZ,lX,run_newObj,gf,gI];rfl
   ·simpa only[be]using g2
  ·cases ao
 ·rename_i sz x y t o' j1;simp only[cv,dO]at ax;obtain⟨⟨⟨I,U⟩,ao⟩,a7⟩:=ax;subst I;split at U
  ·rename_i f aO;simp only[dO]at U;simp only[eT]at he;split at he
   ·rename_i k off ab;split at he
    ·rename_i cs dj;cases he;obtain⟨k8,bY,cB,dE⟩:=aq;have rx:=ez aN ao;rw[ab]at rx;simp only[be]at rx;obtain⟨bl,b1,b2⟩:=rx;have mI:=ez aN a7;have wE:=wF mI bY;have wH:=qE wE;obtain⟨jk,us,el,aW,bj,bM,cL,c2⟩:=aN.good.box k cs dj;rw[b1]at aW;cases aW;rw[wy k8]at cL;rw[wz k8]at c2;have ay:=qE c2;obtain⟨_,dY⟩:=wO aC aO w;have s8:(a.eval j1).cells.size=sz:=by rw[cB]at wH;simpa using wH
     have da:=run_storeCells_at (P:=P) bl off el (a.eval j1).cells.toList 0 us w cL (by simp at ay⊢;omega) (Cy wE);simp only[Nat.add_zero]at da;refine F6 (w':=w.setRow bl (us.toList.take off++(a.eval j1).cells.toList++us.toList.drop (off+(a.eval j1).cells.toList.length)).toArray) ?_ (de _ _ _ (aN.storeBox dj b1 k8 ?_))
     ·simp only[execOp,Instr.storeAt,b2,Instr.sureAddr,storeVar,fZ,gI,gf,dY,s8,U,ne_eq,not_true_eq_false,if_false,da]
     ·simp only[pa];rw[wH];exact zS (zS (Fs off c2) wE) (Cx _ c2)
    ·cases he
   ·rename_i ab;generalize M6:cy st.t x=px at he;unfold sd at he;split at he
    ·rename_i dN k n i ug;split at he
     ·rename_i n' el j4 xs ae;split at he
      ·rename_i vP;obtain⟨rfl,rfl⟩:=vP;split at he
       ·rename_i q bs;cases he;obtain⟨k8,bY,cB,dE,kV⟩:=aq;have rx:=ez aN ao;rw[M6]at rx;have mI:=ez aN a7;have wE:=wF mI bY;have wH:=qE wE;obtain⟨_,dY⟩:=wO aC aO w;have s8:(a.eval j1).cells.size=sz:=by rw[cB]at wH;simpa using wH
        obtain⟨bl,off,nt,Ed,da,bo,pM⟩:=aN.storeRow (P:=P) ae rx bs k8 wE (by simpa[s8]using dE) (fun e=>by have:=eW List.length e;simp[s8]at this;omega);refine F6 (w':=w.setRow bl nt) ?_ (de _ _ _ pM);simp only[execOp,Instr.storeAt,Ed,Instr.sureAddr,storeVar,fZ,gI,gf,dY,s8,U,ne_eq,not_true_eq_false,if_false,da]
       ·cases he
      ·cases he
     ·cases he
    ·cases he
  ·cases U
 ·rename_i d sz el xs t len parts;simp only[cv,dO,eA]at ax;obtain⟨⟨⟨⟨⟨⟨I,U⟩,ao⟩,a7⟩,b8⟩,c6⟩,dM⟩:=ax;subst I;subst b8;split at ao
  ·rename_i gl aO;simp only[dO]at ao;subst ao;split at a7
   ·rename_i g aT;simp only[cv,dO,eA]at a7;obtain⟨rfl,fW⟩:=a7;simp only[eT]at he;cases he;obtain⟨us,g1,g2,g3⟩:=aax aC aN aO rfl aT dM aq c6;have mz:(w.alloc (.cells us el)).ownsRow w.heap.size el g.size (.slice (some ⟨w.heap.size,0,none⟩) xs.length xs.length) (xs.map (cy st.t)).length us.toList:=by
     refine⟨by simp[g3],.inr ⟨w.heap.size,xs.length,us,Ψ,eo _,heap_alloc_new w _,Ψ,?_,g3,?_⟩⟩
     ·simp only[maxLen];have:xs.length<=xs.length*g.size:=Nat.le_mul_of_pos_right _ fW;omega
     ·rw[hV];simp[g3]
    obtain⟨fc,gh⟩:=aN.newRow (k:=κ) (xs:=xs.map (cy st.t)) (.inl (aN.new _ (vI rfl))) (World.grownBy_alloc w _ none) mz g2
     (by have:xs.length<=xs.length*g.size:=Nat.le_mul_of_pos_right _ fW;simp only[lim,List.length_map];omega) (cW rfl)
    simp only[List.length_map]at fc gh;refine nj (v:= .slice (some ⟨w.heap.size,0,none⟩) xs.length xs.length) (w':=w.alloc (.cells us el)) ?_ (de _ _ _ (fc.put (d:=some d) (by simpa[j8]using U) (p:= .slice g.size (.own κ) (xs.map (cy st.t))) gh));have bG:(parts.map fun(x:Nat×Operand)=>(x.1,a.eval x.2))=(parts.toList.map fun(x:Nat×Operand)=>(x.1,a.eval x.2)).toArray:=by apply Array.ext';simp
    simp only[execOp];refine FZ ?_;rw[<-g1];congr 2
   ·cases a7
  ·cases ao
 ·rename_i d sz el x y o' j1 t dH;simp only[cv,dO,eA]at ax;obtain⟨⟨⟨⟨⟨⟨I,U⟩,ao⟩,a7⟩,b8⟩,c6⟩,dM⟩:=ax;subst I;subst ao;split at a7
  ·rename_i gl aO;simp only[dO]at a7;subst a7;split at b8
   ·rename_i g aT;simp only[cv,dO,eA]at b8;obtain⟨⟨rfl,fW⟩,hby⟩:=b8;have rx:=ez aN c6;have mI:=ez aN dM;have nA:∀v' w',(Builtin.append_ #[t,t] type #[a.eval o',a.eval j1]).run P w= .ok v' w'->(execOp a.eval ⟨some d,.call ⟨.builtin .append,⟨[o',j1]⟩,⟨[t,t]⟩⟩,type,pos,after,guard⟩).run P w= .ok (.value v') w':=by intro v' w' iY;simp only[execOp,resolve,invoke,builtin,fZ,gI,gf,List.map_toArray,hc,nS];rw[iY];rfl
    obtain⟨fR,cn,z,ar,aE,bA,dr,iw,ix,sw,sx⟩:=(wQ aC aT).ex;obtain⟨e4,jG,fk⟩:=jM aC aO;obtain rfl:=ua fk;simp only[eT]at he;split at he
    ·rename_i dN tag xs j4 lS ys ab aB;split at he
     ·rename_i fB;obtain⟨rfl,fB⟩:=fB;subst fB;rw[ab]at rx;rw[aB]at mI;simp only[be]at rx mI;obtain⟨⟨vm,qh,tJ,cx1,⟨T8,T9⟩,cx4⟩,rxn,rxo,rxt⟩:=rx;obtain⟨⟨oO,mn,vy,cy1,⟨Ua,Ub⟩,cy4⟩,_⟩:=mI;split at he
      ·rename_i k;split at he
       ·rename_i ow ae;cases he;obtain⟨bY,cB,dE,kV⟩:=aq;subst cB;obtain⟨n0,CJ,fc,gh,qC⟩:=rxo k rfl;obtain⟨v0,fS,aW,bj,bM,_⟩:=aN.good.own k ow ae;rw[fc]at aW;simp only[dD,kl]at aW;obtain⟨rfl,rfl⟩:=aW;have oj:a.eval o'=CJ:=qC bY.symm;by_cases jV:ys=[]
        ·subst jV;rw[vy,tJ]at nA;have iY:=JU (P:=P) (w:=w) (ty:=type) jG ar vm xs.length qh cx1 oO mn;refine nj (nA _ _ (by simpa using iY)) (de _ _ Z ?_);have da:{st with t:=put d (.slice ow.sz (.own k) (xs++[])) st.t,e:=cI k ⟨xs.length+([]:List aj).length,ow.el,ow.sz,none⟩ st.e}=({st with e:=cI k ⟨ow.n,ow.el,ow.sz,none⟩ st.e,t:=put d (.slice ow.sz (.own k) xs) st.t}:bt):=by simp[bY]
         rw[<-dE,da];have nE:=aN.forgetRow ae;refine nE.put (d:=some d) (by simpa[j8]using U) (p:= .slice ow.sz (.own k) xs) ?_;simp only[be];rw[<-dE]at cx4;exact⟨⟨vm,qh,rfl,cx1,⟨T8,T9⟩,cx4⟩,fun e=>(by cases e),(fun g e=>by cases e;exact⟨_,_,fc,gh,fun e=>by rw[<-tJ];exact qC e⟩),fun _ _ e=>(by cases e),fun _ e=>(by cases e)⟩
        ·have hyp:0<ys.length:=by cases ys<;>simp at jV⊢
         rcases cy4 with cy4|⟨l2,oA,hP,rfl,zx,nu⟩
         ·exact absurd cy4 jV
         ·have kt:=uY nu;have sV:∀j u,hP[j]? =some u->w.cell? ((⟨l2,oA,none⟩:Addr).add j)=some u:=fun j u ag=>by rw[qc];exact(v8 zx ag).2
          have sP:(xs.length+ys.length)*fR.bytes<=140737488355328:=by
           have kC:fR.bytes<=2048:=by rw[dr];exact hby
           have od:(xs.length+ys.length)*fR.bytes<=(xs.length+ys.length)*2048:=Nat.mul_le_mul_left _ kC;simp only[lim]at kV;omega
          have l6:xs.length+ys.length<=maxLen:=by simp only[lim]at kV;simp only[maxLen];omega
          rw[vy]at nA;have xA:fS.length=ow.n*ow.sz:=bj.1;have xC:z.cells.size=fR.size:=by rw[sx,bA]
          have D2:(∀cur,eI->cur=(0:Nat))->(∃v' w',(Builtin.append_ #[t,t] type #[a.eval o',.slice (some ⟨l2,oA,none⟩) ys.length mn]).run P w= .ok v' w'/\w'.ownsRow w.heap.size ow.el fR.size v' (xs.length+ys.length) (fS++hP)/\w.grownBy w' none/\dK w Z fR.size xs fS)->
            (⟨some d,.call ⟨.builtin .append,⟨[o',j1]⟩,⟨[t,t]⟩⟩,type,pos,after,guard⟩:Oper).wp P a w K Q:=by
           intro _ cA;obtain⟨v',w',f1,f2,f3,f4⟩:=cA;have HG:dK w Z fR.size (xs++ys) (fS++hP):=Fp f4 (by rw[bA];exact nu);obtain⟨cT,dm⟩:=aN.newRow (k:=k) (xs:=xs++ys) (.inr ⟨ow,ae,by rw[bY];simp;omega⟩) f3 (by simpa using f2) HG (by simpa using kV) (n':=st.n) (o':=st.o)
            (fun j ag=>⟨ag,fun e=>by subst e;have:=(aN.new _ ag).2.1;rw[fc]at this;cases this⟩)
           refine nj (nA _ _ f1) (de _ _ ((Z.withOwn k (xs++ys).length v').withRowOf k v' (xs++ys).length ((xs++ys).length*fR.size)) ?_);have:=cT.put (d:=some d) (by simpa[j8]using U) dm;simpa[bA,e6]using this
          rcases bj.2 with⟨oB,zL⟩|⟨bl,cap,cur,oB,zL,Ci,O6,O7,O8,Jh⟩
          ·
           have BA:xs=[]:=List.eq_nil_of_length_eq_zero Ω;have Nn:fS=[]:=List.eq_nil_of_length_eq_zero (by rw[xA,zL];simp);subst BA;subst Nn;refine D2 (fun _ h=>h.elim) ?_;obtain⟨v',w',f1,f2,f3,_⟩:=run_append_own (P:=P) w w.heap.size t type ow.el fR z fR.size fR.bytes jG ar ix rfl rfl xC (by rw[bA];exact fW) (.slice none 0 0) 0 [] (World.ownsRow_nil w _ _ _)
            ⟨l2,oA,none⟩ ys.length mn hP (by rw[kt,bA]) sV (zR nu) (by simpa using l6) (by simpa using sP) (eo _)
           refine⟨v',w',by rw[oj,oB];exact f1,by simpa using f2,by simpa[pk]using f3,by simp[dK]⟩
          ·have ai0:mE w Z.A bl 0 fS/\dK w Z fR.size xs fS/\True:=by
            rw[oj,oB]at tJ;rcases cx4 with cx4|⟨bb,au1,Qx,f1,f2,f3⟩
            ·subst cx4;have:fS=[]:=List.eq_nil_of_length_eq_zero (by rw[xA,bY];simp);subst this;exact⟨trivial,by simp[dK],trivial⟩
            ·subst f1;injection tJ with vx1 vx2 vx3;injection vx1 with vx1;injection vx1 with vx1 vx4;subst vx1;subst vx4;have heq:Qx=fS:=by
              apply List.ext_getElem?;intro j;have sZ:Qx.length=fS.length:=by rw[uY f3,xA,bY,dE]
              by_cases ag:j<Qx.length
              ·have I:=(v8 f2 (cm ag)).2;rw[Nat.zero_add]at I;have U:=bj.cells (g:=bl) (by rw[oB];rfl) j fS[j] (cm Ω);rw[qc,Nat.zero_add,I]at U;rw[cm ag,cm Ω];exact U
              ·rw[rq Ω,rq Ω]
             subst heq;exact⟨f2,by rw[bA];exact f3,trivial⟩
           obtain⟨y5,oY,_⟩:=ai0;by_cases sX:xs.length+ys.length<=cap
           ·have ati:cur.size=cap*ow.sz:=O8;have hmul:(xs.length+ys.length)*ow.sz<=cap*ow.sz:=rr _ sX;rw[p8]at hmul;have f1:=run_append_room (P:=P) w t type ow.el fR jG ar bl xs.length cap cur Ci ⟨l2,oA,none⟩ ys.length mn hP (by rw[kt,bA]) sV (zR nu) sX (by rw[kt,bA,<-dE];omega);obtain⟨cT,dm⟩:=aN.inPlace ae (bl:=bl) (cap:=cap) (cur:=cur) (by rw[fc,<-oB]) Ci O7 O8 (xs:=xs) (ys:=ys) (us:=fS) (ns:=hP) bY.symm Jh (by rw[dE,<-bA];exact oY) (by rw[dE];exact nu) hyp (by rw[bY];exact sX) kV;refine nj (v:= .slice (some ⟨bl,0,none⟩) (ow.n+ys.length) cap) (w':=w.setRow bl (fS++hP++cur.toList.drop (ow.n*ow.sz+hP.length)).toArray) (nA _ _ ?_)
             (de _ _ (Z.withRowOf k (.slice (some ⟨bl,0,none⟩) (ow.n+ys.length) cap) (ow.n+ys.length) ((ow.n+ys.length)*ow.sz)) ?_)
            ·rw[oj,oB,bY,f1,<-Jh,bY,dE,bA]
            ·have:=cT.put (d:=some d) (by simpa[j8]using U) dm;simpa[bY,dE,e6]using this
           ·refine D2 (fun _ h=>h.elim) ?_;obtain⟨v',w',f1,f2,f3⟩:=run_append_arg_grows (P:=P) w t type ow.el fR z fR.size fR.bytes jG ar ix rfl rfl xC (by rw[bA];exact fW) ⟨bl,0,none⟩ xs.length cap fS (by rw[xA,bY,dE,bA])
             (fun j u ag=>by rw[qc];exact(v8 y5 ag).2) ⟨l2,oA,none⟩ ys.length mn hP (by rw[kt,bA]) sV Ω l6 sP
            exact⟨v',w',by rw[oj,oB,bY];exact f1,f2,f3,oY⟩
       ·cases he
      ·cases he;have HV:=rxn rfl;have BA:xs=[]:=by rw[HV]at tJ;injection tJ with _ aE;exact List.eq_nil_of_length_eq_zero aE.symm
       subst BA;have zb:(eB.app d g.size el x y).makes st=true:=by simp only[eB.makes,ab]
       have xC:z.cells.size=fR.size:=by rw[sx,bA]
       rw[vy,HV]at nA;have ds:∀(v':Value) (w':World) (hP:List Value),(Builtin.append_ #[t,t] type #[.slice none 0 0,.slice oO ys.length mn]).run P w= .ok v' w'->w'.ownsRow w.heap.size el g.size v' ys.length hP->w.grownBy w' none->dK w Z g.size ys hP->
         (⟨some d,.call ⟨.builtin .append,⟨[o',j1]⟩,⟨[t,t]⟩⟩,type,pos,after,guard⟩:Oper).wp P a w K Q:=by
        intro v' w' hP f1 f2 f3 f4;obtain⟨cT,dm⟩:=aN.newRow (k:=κ) (xs:=ys) (.inl (aN.new _ (vI zb))) f3 f2 f4 aq (cW zb);exact nj (nA _ _ f1) (de _ _ _ (cT.put (d:=some d) (by simpa[j8]using U) dm))
       by_cases jV:ys=[]
       ·subst jV;exact ds _ w [] (JU jG ar none 0 0 (eo _) oO mn) (World.ownsRow_nil w _ _ _) (arH w _) (by simp[dK])
       ·rcases cy4 with cy4|⟨l2,oA,hP,rfl,zx,nu⟩
        ·exact absurd cy4 jV
        ·have kt:=uY nu;have sV:∀j u,hP[j]? =some u->w.cell? ((⟨l2,oA,none⟩:Addr).add j)=some u:=fun j u ag=>by rw[qc];exact(v8 zx ag).2
         have sP:ys.length*fR.bytes<=140737488355328:=by
          have I:fR.bytes<=2048:=by rw[dr];exact hby
          have U:ys.length*fR.bytes<=ys.length*2048:=Nat.mul_le_mul_left _ I;simp only[lim]at aq;omega
         have l6:ys.length<=maxLen:=by simp only[lim]at aq;simp only[maxLen];omega
         obtain⟨v',w',f1,f2,f3,_⟩:=run_append_own (P:=P) w w.heap.size t type el fR z fR.size fR.bytes jG ar ix rfl rfl xC (by rw[bA];exact fW) (.slice none 0 0) 0 [] (World.ownsRow_nil w _ _ _)
          ⟨l2,oA,none⟩ ys.length mn hP (by rw[kt,bA]) sV (zR nu) (by simpa using l6) (by simpa using sP) (eo _)
         exact ds v' w' hP f1 (by rw[<-bA];simpa using f2) (by simpa[pk]using f3) nu
      ·cases he
     ·cases he
    ·cases he
   ·cases b8
  ·cases a7
 ·rename_i d key sz el xs t len parts;simp only[cv,dO,eA]at ax;obtain⟨⟨⟨⟨⟨⟨I,U⟩,ao⟩,a7⟩,b8⟩,c6⟩,dM⟩:=ax;subst I;subst b8;split at ao
  ·rename_i gl aO;simp only[dO]at ao;subst ao;split at a7
   ·rename_i g aT;simp only[cv,dO,eA]at a7;obtain⟨rfl,fW⟩:=a7;simp only[eT]at he;cases he;obtain⟨us,g1,g2,g3⟩:=aax aC aN aO rfl aT dM aq c6;have mz:(w.alloc (.cells us el)).ownsRow w.heap.size el g.size (.slice (some ⟨w.heap.size,0,none⟩) xs.length xs.length) (xs.map (cy st.t)).length us.toList:=by
     refine⟨by simp[g3],.inr ⟨w.heap.size,xs.length,us,Ψ,eo _,heap_alloc_new w _,Ψ,?_,g3,?_⟩⟩
     ·simp only[maxLen];have:xs.length<=xs.length*g.size:=Nat.le_mul_of_pos_right _ fW;omega
     ·rw[hV];simp[g3]
    obtain⟨fc,gh⟩:=aN.newRowM (k:=κ) (xs:=xs.map (cy st.t)) (.inl (aN.new _ (vI rfl))) (World.grownBy_alloc w _ none) mz g2
     (by have:xs.length<=xs.length*g.size:=Nat.le_mul_of_pos_right _ fW;simp only[lim,List.length_map];omega) (cW rfl)
    simp only[List.length_map]at fc gh;refine nj (v:= .slice (some ⟨w.heap.size,0,none⟩) xs.length xs.length) (w':=w.alloc (.cells us el)) ?_ (de _ _ _ (fc.put (d:=some d) (by simpa[j8]using U) (p:= .row g.size κ xs.length) (gh ⟨_,_,rfl⟩)));have bG:(parts.map fun(x:Nat×Operand)=>(x.1,a.eval x.2))=(parts.toList.map fun(x:Nat×Operand)=>(x.1,a.eval x.2)).toArray:=by apply Array.ext';simp
    simp only[execOp];refine FZ ?_;rw[<-g1];congr 2
   ·cases a7
  ·cases ao
 ·rename_i d key sz el x y o' j1 t dH;simp only[cv,dO,eA]at ax;obtain⟨⟨⟨⟨⟨⟨I,U⟩,ao⟩,a7⟩,b8⟩,c6⟩,dM⟩:=ax;subst I;subst ao;split at a7
  ·rename_i gl aO;simp only[dO]at a7;subst a7;split at b8
   ·rename_i g aT;simp only[cv,dO,eA]at b8;obtain⟨⟨rfl,fW⟩,hby⟩:=b8;have rx:=ez aN c6;have mI:=ez aN dM;have nA:∀v' w',(Builtin.append_ #[t,t] type #[a.eval o',a.eval j1]).run P w= .ok v' w'->(execOp a.eval ⟨some d,.call ⟨.builtin .append,⟨[o',j1]⟩,⟨[t,t]⟩⟩,type,pos,after,guard⟩).run P w= .ok (.value v') w':=by intro v' w' iY;simp only[execOp,resolve,invoke,builtin,fZ,gI,gf,List.map_toArray,hc,nS];rw[iY];rfl
    obtain⟨fR,cn,z,ar,aE,bA,dr,iw,ix,sw,sx⟩:=(wQ aC aT).ex;obtain⟨e4,jG,fk⟩:=jM aC aO;obtain rfl:=ua fk;have xC:z.cells.size=fR.size:=by rw[sx,bA]
    simp only[eT]at he;split at he
    ·
     rename_i ys az;cases he;unfold tW at az;split at az
     ·rename_i dN xs j4 lS arA ab aB;split at az
      ·rename_i fB;obtain⟨rfl,fB⟩:=fB;subst fB;cases az;rw[ab]at rx;rw[aB]at mI;simp only[be]at rx mI;obtain⟨⟨vm,qh,tJ,cx1,⟨T8,T9⟩,cx4⟩,rxn,rxo,rxt⟩:=rx;obtain⟨⟨oO,mn,vy,cy1,⟨Ua,Ub⟩,cy4⟩,_⟩:=mI;have HV:=rxn trivial;have zb:(eB.appm d key g.size el x y).makes st=true:=by simp only[eB.makes,ab]
       rw[vy,HV]at nA;have ds:∀(v':Value) (w':World) (hP:List Value),(Builtin.append_ #[t,t] type #[.slice none 0 0,.slice oO ys.length mn]).run P w= .ok v' w'->w'.ownsRow w.heap.size el g.size v' ys.length hP->w.grownBy w' none->dK w Z g.size ys hP->
         (⟨some d,.call ⟨.builtin .append,⟨[o',j1]⟩,⟨[t,t]⟩⟩,type,pos,after,guard⟩:Oper).wp P a w K Q:=by
        intro v' w' hP f1 f2 f3 f4;obtain⟨cT,dm⟩:=aN.newRowM (k:=κ) (xs:=ys) (.inl (aN.new _ (vI zb))) f3 f2 f4 aq.1 (cW zb);exact nj (nA _ _ f1) (de _ _ _ (cT.put (d:=some d) (by simpa[j8]using U) (dm (Y7 f2 (by cases ys<;>simp at aq⊢)))))
       by_cases jV:ys=[]
       ·subst jV;exact ds _ w [] (JU jG ar none 0 0 (eo _) oO mn) (World.ownsRow_nil w _ _ _) (arH w _) (by simp[dK])
       ·rcases cy4 with cy4|⟨l2,oA,hP,rfl,zx,nu⟩
        ·exact absurd cy4 jV
        ·have kt:=uY nu;have sV:∀j u,hP[j]? =some u->w.cell? ((⟨l2,oA,none⟩:Addr).add j)=some u:=fun j u ag=>by rw[qc];exact(v8 zx ag).2
         have sP:ys.length*fR.bytes<=140737488355328:=by
          have I:fR.bytes<=2048:=by rw[dr];exact hby
          have U:ys.length*fR.bytes<=ys.length*2048:=Nat.mul_le_mul_left _ I;simp only[lim]at aq;omega
         have l6:ys.length<=maxLen:=by simp only[lim]at aq;simp only[maxLen];omega
         obtain⟨v',w',f1,f2,f3,_⟩:=run_append_own (P:=P) w w.heap.size t type el fR z fR.size fR.bytes jG ar ix rfl rfl xC (by rw[bA];exact fW) (.slice none 0 0) 0 [] (World.ownsRow_nil w _ _ _)
          ⟨l2,oA,none⟩ ys.length mn hP (by rw[kt,bA]) sV (zR nu) (by simpa using l6) (by simpa using sP) (eo _)
         exact ds v' w' hP f1 (by rw[<-bA];simpa using f2) (by simpa[pk]using f3) nu
      ·cases az
     ·split at az
      ·split at az
       ·split at az<;>cases az
       ·cases az
      ·cases az
     ·cases az
    ·
     rename_i k xs ys az;cases he;unfold tW at az;split at az
     ·split at az<;>cases az
     ·rename_i dN bJ n j4 lS arA ab aB;split at az
      ·rename_i fB;obtain⟨rfl,fB⟩:=fB;subst fB;split at az
       ·rename_i n' gl x9 xs' ae;split at az
        ·rename_i sQ;obtain⟨rfl,rfl,rfl⟩:=sQ;cases az;rw[ab]at rx;rw[aB]at mI;simp only[be]at rx mI;obtain⟨⟨bx,qh,tJ⟩,rxl,n0,CJ,fc,gh,qC⟩:=rx;obtain⟨⟨oO,mn,vy,cy1,⟨Ua,Ub⟩,cy4⟩,_⟩:=mI;obtain⟨v0,fS,aW,bj,bM,cL⟩:=aN.good.own k _ ae;rw[fc]at aW;simp only[dD,kl]at aW bj;obtain⟨rfl,rfl⟩:=aW;have oj:a.eval o'=CJ:=qC rfl;obtain⟨c2,mG,wA⟩:=cL xs rfl;simp only at c2 mG;have xA:fS.length=xs.length*g.size:=by rw[c2];exact bj.1
         have pP:xs.length=n0:=c2;by_cases jV:ys=[]
         ·subst jV;rw[vy,tJ]at nA;have ks:n0<=qh:=by
           rcases bj.2 with⟨oB,zL⟩|⟨bl,cap,cur,oB,zL,Ci,O6,_⟩
           ·rw[zL];exact Nat.zero_le _
           ·rw[<-oj,tJ]at oB;injection oB with _ _ e;rw[e];exact O6
          have iY:=JU (P:=P) (w:=w) (ty:=type) jG ar (some ⟨bx,0,none⟩) n0 qh ks oO mn;refine nj (nA _ _ (by simpa using iY)) (de _ _ Z ?_);have ia:∀fj,look fj (cI k ⟨n0,gl,g.size,some xs⟩ st.e)=look fj st.e:=fun fj=>by
           rw[jL];split
           ·rename_i e;subst e;rw[ae]
           ·rfl
          have nE:c7 C {st with e:=cI k ⟨n0,gl,g.size,some xs⟩ st.e} a w Z:=
           ⟨⟨aN.good.alt,aN.good.box,aN.good.inj,fun g o aT=>aN.good.own g o (by rw[<-ia g];exact aT),fun g fj n n' v v' bl bF a2=>aN.good.oinj g fj n n' v v' bl (by rw[<-ia g];exact bF) (by rw[<-ia fj];exact a2),
           fun g j n v bl bF=>aN.good.obx g j n v bl (by rw[<-ia g];exact bF),aN.good.one,fun bl ad=>aN.good.otr bl (ad.imp id (fun⟨g,n,v,bF,a2⟩=>⟨g,n,v,by rw[<-ia g];exact bF,a2⟩))⟩,aN.fr,aN.defers,aN.size,aN.slot,aN.new⟩
          have ao:=nE.put (d:=some d) (by simpa[j8]using U) (p:= .row g.size k n0) (v:= .slice (some ⟨bx,0,none⟩) n0 qh) (by simp only[be];exact⟨⟨_,_,rfl⟩,rxl,_,_,fc,eo _,fun _=>by rw[<-tJ];exact oj⟩)
          simpa[pP,e6]using ao
         ·have hyp:0<ys.length:=by cases ys<;>simp at jV⊢
          rcases cy4 with cy4|⟨l2,oA,hP,rfl,zx,nu⟩
          ·exact absurd cy4 jV
          ·have kt:=uY nu;have sV:∀j u,hP[j]? =some u->w.cell? ((⟨l2,oA,none⟩:Addr).add j)=some u:=fun j u ag=>by rw[qc];exact(v8 zx ag).2
           have sP:(xs.length+ys.length)*fR.bytes<=140737488355328:=by
            have kC:fR.bytes<=2048:=by rw[dr];exact hby
            have od:(xs.length+ys.length)*fR.bytes<=(xs.length+ys.length)*2048:=Nat.mul_le_mul_left _ kC;simp only[lim]at aq;omega
           have l6:xs.length+ys.length<=maxLen:=by simp only[lim]at aq;simp only[maxLen];omega
           have HG:dK w Z g.size (xs++ys) (fS++hP):=Fp mG nu;rw[vy,oj]at nA;have D2:(∃v' w',(Builtin.append_ #[t,t] type #[CJ,.slice (some ⟨l2,oA,none⟩) ys.length mn]).run P w= .ok v' w'/\w'.ownsRow w.heap.size gl fR.size v' (xs.length+ys.length) (fS++hP)/\w.grownBy w' none)->
             (⟨some d,.call ⟨.builtin .append,⟨[o',j1]⟩,⟨[t,t]⟩⟩,type,pos,after,guard⟩:Oper).wp P a w K Q:=by
            intro cA;obtain⟨v',w',f1,f2,f3⟩:=cA;obtain⟨cT,dm⟩:=aN.newRowM (k:=k) (xs:=xs++ys) (el:=gl) (sz:=g.size) (.inr ⟨_,ae,by simp;omega⟩) f3 (by rw[<-bA];simpa using f2) HG (by simpa using aq) (n':=st.n) (o':=st.o)
             (fun j ag=>⟨ag,fun e=>by subst e;have:=(aN.new _ ag).2.1;rw[fc]at this;cases this⟩)
            refine nj (nA _ _ f1) (de _ _ (Z.withOwn k (xs++ys).length v') ?_);have:=cT.put (d:=some d) (by simpa[j8]using U) (dm (by simpa using Y7 f2 Ω));simpa[e6]using this
           rcases bj.2 with⟨oB,zL⟩|⟨bl,cap,cur,oB,zL,Ci,O6,O7,O8,Jh⟩
           ·
            have BA:xs=[]:=List.eq_nil_of_length_eq_zero Ω;have Nn:fS=[]:=List.eq_nil_of_length_eq_zero (by rw[xA,BA];simp);subst BA;subst Nn;refine D2 ?_;obtain⟨v',w',f1,f2,f3,_⟩:=run_append_own (P:=P) w w.heap.size t type gl fR z fR.size fR.bytes jG ar ix rfl rfl xC (by rw[bA];exact fW) (.slice none 0 0) 0 [] (World.ownsRow_nil w _ _ _)
             ⟨l2,oA,none⟩ ys.length mn hP (by rw[kt,bA]) sV (zR nu) (by simpa using l6) (by simpa using sP) (eo _)
            exact⟨v',w',by rw[oB];exact f1,by simpa using f2,by simpa[pk]using f3⟩
           ·have pO:CJ.ownBlock=some bl:=by rw[oB];rfl
            by_cases sX:xs.length+ys.length<=cap
            ·have hmul:(xs.length+ys.length)*g.size<=cap*g.size:=rr _ sX;rw[p8]at hmul;have f1:=run_append_room (P:=P) w t type gl fR jG ar bl xs.length cap cur Ci ⟨l2,oA,none⟩ ys.length mn hP (by rw[kt,bA]) sV (zR nu) sX (by rw[kt,bA];omega);generalize Bz:(cur.toList.take (xs.length*fR.size)++hP++cur.toList.drop (xs.length*fR.size+hP.length)).toArray=uT at f1;have kG:(w.setRow bl uT).heap[bl]? =some (.cells uT gl (0,0)):=setRow_heap w bl cur uT gl _ Ci;have aw:(fS++hP).length=(xs++ys).length*g.size:=by rw[pn,xA,kt,pn,p8]
             have b8:cur.toList.take (xs.length*fR.size)=fS:=by rw[pP,bA];exact Jh
             have lg:uT.size=cap*g.size:=by rw[<-Bz];simp only[List.size_toArray,pn,List.length_take,tN,Array.length_toList];rw[bA];omega
             have qt:uT.toList.take ((xs++ys).length*g.size)=fS++hP:=by rw[<-Bz,b8];simp only[<-aw];rw[List.take_append_of_le_length (eo _),lB]
             obtain⟨cT,_,dm⟩:=aN.setRowM (w':=w.setRow bl uT) ae rfl fc pO (v':= .slice (some ⟨bl,0,none⟩) (xs.length+ys.length) cap) rfl (xs':=xs++ys) (us:=fS++hP) (.inr d7) rfl rfl rfl (fun j ag=>setRow_other w bl j uT ag) (setRow_size w bl uT)
              ⟨aw,.inr ⟨bl,cap,uT,Ψ,Nat.zero_le _,kG,by simpa using sX,O7,lg,qt⟩⟩ HG
             replace dm:=dm (by simpa using aq);refine nj (v:= .slice (some ⟨bl,0,none⟩) (xs.length+ys.length) cap) (w':=w.setRow bl uT) (nA _ _ ?_) (de _ _ (Z.withOwn k (xs++ys).length (.slice (some ⟨bl,0,none⟩) (xs.length+ys.length) cap)) ?_)
             ·rw[oB,<-pP];exact f1
             ·have:=cT.put (d:=some d) (by simpa[j8]using U) dm;simpa[e6]using this
            ·refine D2 ?_;obtain⟨v',w',f1,f2,f3⟩:=run_append_arg_grows (P:=P) w t type gl fR z fR.size fR.bytes jG ar ix rfl rfl xC (by rw[bA];exact fW) ⟨bl,0,none⟩ xs.length cap fS (by rw[xA,bA])
              (fun j u ag=>by have:=bj.cells pO j u ag;exact this) ⟨l2,oA,none⟩ ys.length mn hP (by rw[kt,bA]) sV Ω l6 sP
             exact⟨v',w',by rw[oB,<-pP];exact f1,f2,f3⟩
        ·cases az
       ·cases az
      ·cases az
     ·cases az
    ·cases he
   ·cases b8
  ·cases a7
 ·rename_i sz x y t o' j1;simp only[cv,dO]at ax;obtain⟨⟨⟨I,U⟩,ao⟩,a7⟩:=ax;subst I;split at U
  ·rename_i f aO;simp only[dO]at U;simp only[eT]at he;generalize M6:cy st.t x=px at he;unfold sd at he;split at he
   ·rename_i dN k n i ug;split at he
    ·rename_i n' el j4 xs ae;split at he
     ·rename_i vP;obtain⟨rfl,rfl⟩:=vP;split at he
      ·rename_i q bs;cases he;obtain⟨k8,bY,cB,dE,kV⟩:=aq;have rx:=ez aN ao;rw[M6]at rx;have mI:=ez aN a7;have wE:=wF mI bY;have wH:=qE wE;obtain⟨_,dY⟩:=wO aC aO w;have s8:(a.eval j1).cells.size=sz:=by rw[cB]at wH;simpa using wH
       obtain⟨bl,off,nt,Ed,da,bo,pM⟩:=aN.storeRow (P:=P) ae rx bs k8 wE (by simpa[s8]using dE) (fun e=>by have:=eW List.length e;simp[s8]at this;omega);refine F6 (w':=w.setRow bl nt) ?_ (de _ _ _ pM);simp only[execOp,Instr.storeAt,Ed,Instr.sureAddr,storeVar,fZ,gI,gf,dY,s8,U,ne_eq,not_true_eq_false,if_false,da]
      ·cases he
     ·cases he
    ·cases he
   ·cases he
  ·cases U
 ·rename_i d key sz el z x t o' j1;simp only[cv,dO,eA]at ax;obtain⟨⟨⟨⟨⟨I,U⟩,ao⟩,a7⟩,b8⟩,c6⟩:=ax;subst I;split at ao
  ·rename_i gl aO;simp only[dO]at ao;subst ao;split at a7
   ·rename_i g aT;simp only[cv,dO,eA]at a7;obtain⟨⟨⟨rfl,fW⟩,hby⟩,a8⟩:=a7;obtain rfl:=Q4 a8;have rx:=ez aN b8;have mI:=ez aN c6;simp only[eT]at he;split at he
    ·rename_i fL n ab;cases he;obtain⟨aja,kt⟩:=aq;obtain⟨m,rfl⟩:=Int.eq_ofNat_of_zero_le aja;rw[ab]at rx mI;simp only[be]at rx mI;obtain⟨fR,cn,bT,ar,aE,bA,dr,iw,ix,sw,sx⟩:=(wQ aC aT).ex;obtain⟨e4,jG,fk⟩:=jM aC aO;obtain rfl:=ua fk;have l6:m<=lim:=by simp only[lim]at kt⊢;omega
     have sP:fR.bytes*m<=281474976710656:=by have I:fR.bytes*m<=2048*m:=rr _ Ω;simp only[lim]at l6;omega
     obtain⟨ajw,aiq⟩:=Q3 w Z sw;obtain⟨w',g1,g2,g3⟩:=run_make_full (P:=P) w w.heap.size t el fR bT fR.size jG ar ix rfl fL fL m sP (by simp only[maxLen];simp only[lim]at l6;omega) (eo _);have mz:w'.ownsRow w.heap.size el g.size (.slice (some ⟨w.heap.size,0,none⟩) m m) (List.replicate m g.zero).length (madeCells bT.cells (m*bT.cells.size)).toList:=by rw[bA,<-sx]at g2;rw[List.length_replicate,<-sx];exact g2
     obtain⟨fc,gh⟩:=aN.newRowM (k:=κ) (xs:=List.replicate m g.zero) (.inl (aN.new _ (vI rfl))) g3 mz (by rw[<-sx];exact XX ajw Ω (Cy aiq) m) (by simpa using l6) (cW rfl);simp only[List.length_replicate]at fc gh;simp only[Int.toNat_natCast]at de;refine nj (v:= .slice (some ⟨w.heap.size,0,none⟩) m m) (w':=w') ?_ (de _ _ _ (fc.put (d:=some d) (by simpa[j8]using U) (p:= .row g.size κ m) (gh ⟨_,_,rfl⟩)));simp only[execOp];refine FZ ?_;rw[rx,mI];exact g1
    ·cases he
   ·cases a7
  ·cases ao
 ·cases ax
theorem apj{P:cM}{bH:List (Nat×dG)}(aC:fX P bH=true){C:fv}{st st':bt}{a:Act}{w:World}{Z:bg}(aN:c7 C st a w Z){i:eB}{o:Oper}(ax:Fy C.N bH i o=true)
  {c:Prop} (he:nf st i=some (c,st')) (aq:c) {K:Act->World->Prop} {Q:Exit->Act->World->Prop} (de:∀bq w' bo,c7 C st' bq w' bo->K bq w'):o.wp P a w K Q:=by
 have pK:ra st none->fresh st.n st.o (.loc st.n):=fun h=>xO (key:=none) h;have fQ:∀j,fresh (st.n+1) st.o j->fresh st.n st.o j/\j≠ .loc st.n:=xP (key:=none);cases i with
 |v d i=>exact kA (κ:= .loc 0) (n':=0) (o₁:=[]) aC aN ax (fun h=>by simp[eB.makes]at h) (fun h=>by simp[eB.makes]at h) (by simpa only[nf,eT]using he) aq de
 |box d key x=>simp only[nf]at he;cases he;exact kA (κ:=kx st key) (n':=oy st key) (o₁:=oz st key) aC aN ax (fun _=>xO aq.1) (fun _=>xP) (by simp only[eT]) aq.2 de
 |alloc d key z=>simp only[nf]at he;cases he;exact kA (κ:=kx st key) (n':=oy st key) (o₁:=oz st key) aC aN ax (fun _=>xO aq) (fun _=>xP) (by simp only[eT]) trivial de
 |mks d key sz el z x=>
  simp only[nf]at he;split at he
  ·rename_i fL n ab;cases he;exact kA (κ:=kx st key) (n':=oy st key) (o₁:=oz st key) aC aN ax (fun _=>xO aq.1) (fun _=>xP) (by simp only[eT,ab]) aq.2 de
  ·cases he
 |storeE sz x y=>exact kA (κ:= .loc 0) (n':=0) (o₁:=[]) aC aN ax (fun h=>by simp[eB.makes]at h) (fun h=>by simp[eB.makes]at h) (by simpa only[nf,eT]using he) aq de
 |store sz x y=>exact kA (κ:= .loc 0) (n':=0) (o₁:=[]) aC aN ax (fun h=>by simp[eB.makes]at h) (fun h=>by simp[eB.makes]at h) (by simpa only[nf,eT]using he) aq de
 |bsl d sz el xs=>simp only[nf]at he;cases he;exact kA (κ:= .loc st.n) (n':=st.n+1) (o₁:=st.o) aC aN ax (fun _=>pK aq.1) (fun _=>fQ) (by simp only[eT]) aq.2 de
 |bslm d key sz el xs=>simp only[nf]at he;cases he;exact kA (κ:=kx st key) (n':=oy st key) (o₁:=oz st key) aC aN ax (fun _=>xO aq.1) (fun _=>xP) (by simp only[eT]) aq.2 de
 |appm d key sz el x y=>
  simp only[nf]at he;split at he
  ·rename_i ys az;cases he;exact kA (κ:=kx st key) (n':=oy st key) (o₁:=oz st key) aC aN ax (fun _=>xO aq.1) (fun _=>xP) (by simp only[eT,az]) aq.2 de
  ·rename_i k xs ys az;cases he;refine kA (κ:= .loc 0) (n':=0) (o₁:=[]) aC aN ax (fun h=>?_) (fun h=>?_) (by simp only[eT,az]) aq de;all_goals
    exfalso
    simp only[eB.makes]at h
    split at h
    ·rename_i ab
     unfold tW at az
     rw[ab]at az
     split at az
     ·split at az<;>cases az
     ·rename_i I _;cases I
     ·cases az
    ·cases h
  ·cases he
 |mkmap d key=>simp only[nf]at he;cases he;exact kA (κ:=kx st key) (n':=oy st key) (o₁:=oz st key) aC aN ax (fun _=>xO aq) (fun _=>xP) (by simp only[eT]) trivial de
 |mput cj x k v=>exact kA (κ:= .loc 0) (n':=0) (o₁:=[]) aC aN ax (fun h=>by simp[eB.makes]at h) (fun h=>by simp[eB.makes]at h) (by simpa only[nf,eT]using he) aq de
 |range d key x=>
  simp only[nf]at he;split at he
  ·rename_i m ab;split at he
   ·rename_i cs dj;split at he
    ·rename_i cs' hm;cases he;exact kA (κ:=kx st key) (n':=oy st key) (o₁:=oz st key) aC aN ax (fun _=>xO aq) (fun _=>xP) (by simp only[eT,ab,dj,hm]) trivial de
    ·cases he
   ·cases he
  ·cases he
 |app d sz el x y=>
  simp only[nf]at he;split at he
  ·rename_i dN tag xs j4 lS ys ab aB;split at he
   ·rename_i fB;split at he
    ·rename_i k;split at he
     ·rename_i ow ae;cases he;refine kA (κ:= .loc 0) (n':=0) (o₁:=[]) aC aN ax (fun h=>by simp[eB.makes,ab]at h) (fun h=>by simp[eB.makes,ab]at h) ?_ aq de;simp only[eT,ab,aB,fB,and_self,if_true,ae]
     ·cases he
    ·cases he;refine kA (κ:= .loc st.n) (n':=st.n+1) (o₁:=st.o) aC aN ax (fun _=>pK aq.1) (fun _=>fQ) ?_ aq.2 de;simp only[eT,ab,aB,fB,and_self,if_true]
    ·cases he
   ·cases he
  ·cases he
structure cU where
 b:List (aM×List aj)
 e:List (aM×fU)
def fE(Z:bg)(s:cU)(bl:Nat):Prop:=(∃k,(look k s.b).isSome/\Z.bx k=some bl)\/(∃g n v,(look g s.e).isSome/\Z.ow g=some (n,v)/\v.ownBlock=some bl)
def pE(Z:bg)(s:cU):Prop:= ∀k,(look k s.b=none->Z.bx k=none)/\(look k s.e=none->Z.ow k=none)/\∀j b,¬Z.tr k j b
def dc(s:cU):List aM:=s.b.map (·.1)++s.e.map (·.1)
def jv(s:cU):Prop:=(∀m,look (.loc m) s.b=none)/\(∀m,look (.loc m) s.e=none)
def yo(P:cM)(f:FuncId)(bc:Array Value)(w:World)(R:Ending->World->Prop):Prop:=((∃fn,P.funcs[f]? =some fn/\fn.body.isSome=true/\(fn.name== "runtime.NumGoroutine")=false)/\Calls P f bc w R)\/ ∃v w',(callFunc f bc).run P w= .ok (.value v) w'/\R (.returned v) w'
def bL(P:cM)(f:FuncId)(args:List aj)(s:cU)(Q:aj->cU->Prop):Prop:=
 ∀(w:World) (Z:bg) (bc:Array Value),Good (fE Z s) w Z s.b s.e->pE Z s->cZ w Z args bc.toList->
  yo P f bc w fun e w'=> ∃v r ai bo,e= .returned v/\Q r ai/\be w' bo r v/\Good (fun bl=>fE Z s bl\/w.heap.size<=bl) w' bo ai.b ai.e/\pE bo ai/\jv ai/\qR ⟨w,Z,fE Z s,0,dc s⟩ w' bo
def Hd(κ:Option Nat)(Z:bg)(s:cU):Prop:= ∀k,(look k s.b=none->Z.bx k=none)/\(look k s.e=none->Z.ow k=none)/\∀j b,Z.tr k j b->∃m,κ=some m/\k= .loc m
theorem pE.k{Z:bg}{s:cU}(h:pE Z s):Hd none Z s:=fun k=>⟨(h k).1,(h k).2.1,fun j b ad=>absurd ad ((h k).2.2 j b)⟩
def Kw(P:cM)(f:FuncId)(κ:Nat)(args:List aj)(s:cU)(Q:aj->cU->Prop):Prop:=
 ∀(w:World) (Z:bg) (bc:Array Value),Good (fE Z s) w Z s.b s.e->pE Z s->cZ w Z args bc.toList->
  yo P f bc w fun e w'=> ∃v r ai bo,e= .returned v/\Q r ai/\be w' bo r v/\Good (fun bl=>fE Z s bl\/w.heap.size<=bl) w' bo ai.b ai.e/\Hd (some κ) bo ai/\jv ai/\qR ⟨w,Z,fE Z s,0,dc s⟩ w' bo
def bR(P:cM)(f:FuncId)(args:List aj)(r:aj):Prop:=bL P f args ⟨[],[]⟩ fun e2 ai=>e2=r/\ai=⟨[],[]⟩
theorem uN{α:Type}{k:aM}{x:α}:∀{l:List (aM×α)},look k l=some x->(k,x)∈l
 |[],h=>by simp[look]at h
 |(i,y)::r,h=>by
  simp only[look]at h;split at h
  ·rename_i e;subst e;cases h;simp
  ·exact mh _ (uN h)
theorem uU{s:cU}{k:aM}(h:(look k s.b).isSome\/(look k s.e).isSome):k∈dc s:=by
 unfold dc;rcases h with h|h<;>obtain⟨x,ab⟩:=fH.1 h<;>have:=uN ab
 ·exact List.mem_append_left _ (hU.2 ⟨_,this,rfl⟩)
 ·exact List.mem_append_right _ (hU.2 ⟨_,this,rfl⟩)
section
open Classical
noncomputable def bg.cut(Z:bg)(S:aM->Prop):bg:={A:=Z.A,bx:=fun k=>if S k then Z.bx k else none,ow:=fun k=>if S k then Z.ow k else none,tr:=fun k j b=>S k/\Z.tr k j b}
theorem bg.cut_bx{Z:bg}{S:aM->Prop}{k:aM}(h:S k):(Z.cut S).bx k=Z.bx k:=by simp[bg.cut,h]
theorem bg.cut_ow{Z:bg}{S:aM->Prop}{k:aM}(h:S k):(Z.cut S).ow k=Z.ow k:=by simp[bg.cut,h]
theorem bg.cut_no{Z:bg}{S:aM->Prop}{k:aM}(h:¬S k):(Z.cut S).bx k=none/\(Z.cut S).ow k=none/\∀j b,¬(Z.cut S).tr k j b:=by simp[bg.cut,h]
theorem bg.cut_some{Z:bg}{S:aM->Prop}{k:aM}{b:Nat}(h:(Z.cut S).bx k=some b):S k/\Z.bx k=some b:=by
 by_cases af:S k
 ·exact⟨af,by rw[bg.cut_bx af]at h;exact h⟩
 ·rw[(bg.cut_no af).1]at h;cases h
theorem bg.cut_someO{Z:bg}{S:aM->Prop}{k:aM}{b:Nat×Value}(h:(Z.cut S).ow k=some b):S k/\Z.ow k=some b:=by
 by_cases af:S k
 ·exact⟨af,by rw[bg.cut_ow af]at h;exact h⟩
 ·rw[(bg.cut_no af).2.1]at h;cases h
theorem pq.cut(S:aM->Prop)(w:World)(Z:bg):pq S w Z w (Z.cut S):=⟨fun _ _ h=>⟨h,rfl⟩,fun k b ae h=>by rw[bg.cut_bx ae];exact h,fun g n u aT h=>⟨n,u,by rw[bg.cut_ow aT];exact h,.inl ⟨rfl,rfl⟩⟩,fun _ _ _=>rfl,fun _ _ _ ae h=>⟨ae,h⟩⟩
end
def gR(S:aM->Prop)(b3 b:List (aM×List aj)):Prop:= ∀k cs,look k b3=some cs->look k b=some cs/\S k/\aP S cs
def oG(S:aM->Prop)(fJ e:List (aM×fU)):Prop:= ∀k o,look k fJ=some o->look k e=some o/\S k/\ee S o
theorem Good.cut{pr Fc:Nat->Prop}{w:World}{Z:bg}{b b3:List (aM×List aj)}{e fJ:List (aM×fU)}(h:Good pr w Z b e){S:aM->Prop}(ad:gR S b3 b)(he:oG S fJ e)
  (Wy:∀bl,pr bl->(∃k,(look k b3).isSome/\(Z.cut S).bx k=some bl)\/(∃g n v,(look g fJ).isSome/\(Z.cut S).ow g=some (n,v)/\v.ownBlock=some bl)->Fc bl):Good Fc w (Z.cut S) b3 fJ:=by
 have HF:∀k,(look k b3).isSome->(look k b).isSome/\S k:=fun k ae=>by obtain⟨cs,dj⟩:=fH.1 ae;have:=ad k cs dj;exact⟨by simp[this.1],this.2.1⟩
 have HK:∀k,(look k fJ).isSome->(look k e).isSome/\S k:=fun k ae=>by obtain⟨cs,dj⟩:=fH.1 ae;have:=he k cs dj;exact⟨by simp[this.1],this.2.1⟩
 refine⟨h.alt,fun k cs ae=>?_,fun k bJ bl I U ao a7=>?_,fun g o aT=>?_,fun g fj n n' v v' bl I U ao a7 b8 c6=>?_,fun g k n v bl I U ao a7 b8=>?_,fun k=>?_,fun bl aC k j ag=>?_⟩
 ·obtain⟨g1,g2,g3⟩:=ad k cs ae;obtain⟨bl,us,el,f1,f2,f3,f4,f5⟩:=h.box k cs g1;have ld:(Z.cut S).bx k=some bl:=by rw[bg.cut_bx g2];exact f1
  exact⟨bl,us,el,ld,Wy bl f2 (.inl ⟨k,by simp[ae],ld⟩),f3,f4,aah (pq.cut S w Z) g3 f5⟩
 ·obtain⟨bF,a2⟩:=HF k I;obtain⟨b1,b2⟩:=HF bJ U;exact h.inj k bJ bl bF b1 (bg.cut_some ao).2 (bg.cut_some a7).2
 ·obtain⟨g1,g2,g3⟩:=he g o aT;obtain⟨v,us,f1,f2,f3,f4⟩:=h.own g o g1;have Eb:(Z.cut S).ow g=some (o.n,v):=by rw[bg.cut_ow g2];exact f1
  exact⟨v,us,Eb,f2,fun bl fA=>⟨Wy bl (f3 bl fA).1 (.inr ⟨g,o.n,v,by simp[aT],Eb,fA⟩),(f3 bl fA).2⟩,
   fun xs ab=>⟨(f4 xs ab).1,JE (pq.cut S w Z) _ _ _ (g3 xs ab) (f4 xs ab).2.1,(f4 xs ab).2.2⟩⟩
 ·obtain⟨bF,a2⟩:=HK g I;obtain⟨b1,b2⟩:=HK fj U;exact h.oinj g fj n n' v v' bl bF b1 (bg.cut_someO ao).2 (bg.cut_someO a7).2 b8 c6
 ·obtain⟨bF,a2⟩:=HK g I;obtain⟨b1,b2⟩:=HF k U;exact h.obx g k n v bl bF b1 (bg.cut_someO ao).2 a7 (bg.cut_some b8).2
 ·by_cases af:S k
  ·rw[bg.cut_bx af,bg.cut_ow af];exact h.one k
  ·exact .inl (bg.cut_no af).1
 ·refine h.otr bl ?_ k j ag.2;rcases aC with⟨bJ,bF,a2⟩|⟨g,n,v,bF,a2,a3⟩
  ·exact .inl ⟨bJ,(HF bJ bF).1,(bg.cut_some a2).2⟩
  ·exact .inr ⟨g,n,v,(HK g bF).1,(bg.cut_someO a2).2,a3⟩
structure jD (ob:List aM) (st st':bt):Prop where
 t:∀x∈st'.t,get x.1 st.t=x.2/\aK (fun k=> ¬fresh st'.n st'.o k) x.2
 b:gR (fun k=> ¬fresh st'.n st'.o k) st'.b st.b
 e:oG (fun k=> ¬fresh st'.n st'.o k) st'.e st.e
 o:∀m∈ob,m∈st'.o
theorem Vw:∀(i:Nat) (l:List (Nat×aj)),get i l= .junk\/(i,get i l)∈l
 |_,[]=>.inl rfl
 |i,(j,p)::r=>by
  by_cases h:j=i
  ·subst h;right;simp[get]
  ·rcases Vw i r with I|I
   ·left;simp[get,h,I]
   ·right;simp[get,h];right;exact I
theorem c7.weaker{C:fv}{st st':bt}{a:Act}{w:World}{Z:bg}(h:c7 C st a w Z)(hw:jD C.ob st st'):c7 C st' a w (Z.cut fun k=> ¬fresh st'.n st'.o k):=by
 refine⟨h.good.cut hw.b hw.e (fun bl bG _=>bG),⟨h.fr.os,h.fr.tape,h.fr.output,h.fr.size,h.fr.block,h.fr.keep,h.fr.fresh,fun n b ad=>?_,h.fr.obn,fun m n u hm=>?_,h.fr.obr,fun k j bJ dL b I U=>h.fr.trd k j bJ dL b I.2 U.2,fun k j b ad=>h.fr.trb k j b ad.2,fun k j b ad=>?_,h.fr.sh⟩,h.defers,h.size,fun i=>?_,fun k ae=>bg.cut_no (fun au=>au ae)⟩
 ·rw[bg.cut_bx (fun cA=>cA.2 (hw.o _ (h.fr.obn n b ad)))];exact h.fr.obj n b ad
 ·rw[bg.cut_ow (fun cA=>cA.2 (hw.o _ (h.fr.obr m n u hm)))];exact h.fr.row m n u hm
 ·rw[bg.cut_bx ad.1,bg.cut_ow ad.1];exact h.fr.trn k j b ad.2
 ·rcases Vw i st'.t with ag|hm
  ·rw[ag];simp[be]
  ·obtain⟨I,U⟩:=hw.t _ hm;simp only at I;have:=h.slot i;rw[I]at this;exact k4 (pq.cut _ w Z) _ _ U this
mutual
def ej:aj->aj
 | .slice sz _ xs=>.slice sz .no (du xs)
 | .agg cs=>.agg (du cs)
 | .tuple bc=>.tuple (du bc)
 | .eptr x=>.eptr (ej x)
 | .iface t x=>.iface t (ej x)
 | .func f dv=>.func f (du dv)
 |p=>p
def du:List aj->List aj
 |[]=>[]
 |x::xs=>ej x::du xs
end
theorem tE:∀xs,(du xs).length=xs.length
 |[]=>rfl
 |x::xs=>by simp[du,tE xs]
mutual
theorem Mf{t:Bool}{w:World}{A:Nat->Nat->Prop}:∀(p:aj) (F:Nat->Prop) (v:Value),gv t w A F p v->gv t w A F (ej p) v
 | .int _ _,_,_,h=>by simpa only[ej]using h
 | .bool _,_,_,h=>by simpa only[ej]using h
 | .str _,_,_,h=>by simpa only[ej]using h
 | .slice sz tag xs,F,v,h=>by
  simp only[gv,ej]at h⊢;obtain⟨a,cap,I,U,ao,a7⟩:=h;refine⟨a,cap,by rw[tE];exact I,by rw[tE];exact U,by rw[tE];exact ao,?_⟩;rcases a7 with rfl|⟨b,off,us,G,ar,aE,bA,dr,iw,ix⟩
  ·exact .inl rfl
  ·exact .inr ⟨b,off,us,G,ar,aE,bA,dr,iw,Vh sz xs G us ix⟩
 | .agg cs,F,v,h=>by simp only[gv,ej]at h⊢;obtain⟨us,I,U⟩:=h;exact⟨us,I,Vi cs F _ U⟩
 | .junk,_,_,h=>by simp[gv]at h
 | .ptr _ _,_,_,h=>by simp[gv]at h
 | .eptr _,_,_,h=>by simp[gv]at h
 | .iface _ _,_,_,h=>by simp[gv]at h
 | .nilp,_,_,h=>by simp[gv]at h
 | .tuple _,_,_,h=>by simp[gv]at h
 | .func _ _,_,_,h=>by simp[gv]at h
 | .gmap _,_,_,h=>by simp[gv]at h
 | .row _ _ _,_,_,h=>by simp[gv]at h
 | .rptr _ _ _ _ _,_,_,h=>by simp[gv]at h
 | .hdm _ _,_,_,h=>by simp[gv]at h
 | .hdi _ _ _,_,_,h=>by simp[gv]at h
 | .cst _,_,_,h=>by simp[gv]at h
theorem Vi{t:Bool}{w:World}{A:Nat->Nat->Prop}:∀(cs:List aj) (F:Nat->Prop) (us:List Value),vD t w A F cs us->vD t w A F (du cs) us
 |[],_,_,h=>by simpa only[du]using h
 |c::cs,F,us,h=>by simp only[vD,du]at h⊢;obtain⟨u,ck,iR,jg,I,U,⟨b8,c6⟩,dM⟩:=h;exact⟨u,ck,iR,jg,I,U,⟨Mf c iR u b8,c6⟩,Vi cs jg ck dM⟩
theorem Vh{t:Bool}{w:World}{A:Nat->Nat->Prop}(sz:Nat):∀(cs:List aj) (F:Nat->Prop) (us:List Value),vC t w A F sz cs us->vC t w A F sz (du cs) us
 |[],_,_,h=>by simpa only[du]using h
 |c::cs,F,us,h=>by simp only[vC,du]at h⊢;obtain⟨u,ck,iR,jg,I,U,⟨b8,c6⟩,dM⟩:=h;exact⟨u,ck,iR,jg,I,U,⟨Mf c iR u b8,c6⟩,Vh sz cs jg ck dM⟩
end
theorem Vg{t:Bool}{w:World}{A:Nat->Nat->Prop}{F:Nat->Prop}{sz:Nat}{tag:C2}(lS:C2){xs:List aj}(v:Value)(h:gv t w A F (.slice sz tag xs) v):gv t w A F (.slice sz lS (du xs)) v:=by have:=Mf _ F v h;simp only[ej,gv]at this⊢;exact this
mutual
theorem lR{w:World}{Z:bg}:∀(p:aj) (v:Value),be w Z p v->be w Z (ej p) v
 | .junk,_,h=>by simpa only[ej]using h
 | .int k n,_,h=>by simpa only[ej]using h
 | .bool b,_,h=>by simpa only[ej]using h
 | .str s,_,h=>by simpa only[ej]using h
 | .slice sz tag xs,v,h=>by
  simp only[be,ej]at h⊢;obtain⟨⟨a,cap,I,U,ao,a7⟩,b8,c6⟩:=h;refine⟨⟨a,cap,by rw[tE];exact I,by rw[tE];exact U,by rw[tE];exact ao,?_⟩,fun e=>(by cases e),fun g e=>(by cases e),fun _ _ e=>(by cases e),fun _ e=>(by cases e)⟩;rcases a7 with rfl|⟨b,off,us,a7,c6,dM⟩
  ·exact .inl rfl
  ·exact .inr ⟨b,off,us,a7,c6,aak sz xs us dM⟩
 | .agg cs,v,h=>by simp only[be,ej]at h⊢;obtain⟨us,I,U⟩:=h;exact⟨us,I,aao cs _ U⟩
 | .ptr key off,v,h=>by simpa only[ej]using h
 | .iface t x,v,h=>by simp only[be,ej]at h⊢;obtain⟨u,I,U⟩:=h;exact⟨u,I,lR x u U⟩
 | .eptr x,v,h=>by simp only[be,ej]at h⊢;obtain⟨b,off,u,I,U,ao⟩:=h;exact⟨b,off,u,I,lR x u U,ao⟩
 | .nilp,_,h=>by simpa only[ej]using h
 | .tuple bc,v,h=>by simp only[be,ej]at h⊢;obtain⟨us,I,U⟩:=h;exact⟨us,I,JK bc _ U⟩
 | .func f dv,v,h=>by simp only[be,ej]at h⊢;obtain⟨us,I,U⟩:=h;exact⟨us,I,JK dv _ U⟩
 | .gmap key,v,h=>by simpa only[ej]using h
 | .row _ _ _,v,h=>by simpa only[ej]using h
 | .rptr _ _ _ _ _,v,h=>by simpa only[ej]using h
 | .cst _,v,h=>by simpa only[ej]using h
theorem aao{w:World}{Z:bg}:∀(cs:List aj) (us:List Value),dt w Z cs us->dt w Z (du cs) us
 |[],_,h=>by simpa only[du]using h
 |c::cs,us,h=>by simp only[dt,du]at h⊢;obtain⟨u,ck,I,U,ao⟩:=h;exact⟨u,ck,I,⟨lR c u U.1,U.2⟩,aao cs ck ao⟩
theorem JK{w:World}{Z:bg}:∀(cs:List aj) (us:List Value),cZ w Z cs us->cZ w Z (du cs) us
 |[],_,h=>by simpa only[du]using h
 |c::cs,us,h=>by simp only[cZ,du]at h⊢;obtain⟨u,ck,I,U,ao⟩:=h;exact⟨u,ck,I,lR c u U,JK cs ck ao⟩
theorem aak{w:World}{Z:bg}(sz:Nat):∀(xs:List aj) (us:List Value),dK w Z sz xs us->dK w Z sz (du xs) us
 |[],_,h=>by simpa only[du]using h
 |x::xs,us,h=>by simp only[dK,du]at h⊢;obtain⟨u,ck,I,⟨U,ao,a7⟩,b8⟩:=h;exact⟨u,ck,I,⟨lR x u U,ao,a7⟩,aak sz xs ck b8⟩
end
def inObs(s:cU)(k:aM):Prop:=(look k s.b).isSome=true\/(look k s.e).isSome=true
def cc{α β:Type}(s:List (aM×β)):List (aM×α)->List (aM×α)
 |[]=>[]
 |(k,x)::r=>match look k s with
  |some _=>cc s r
  |none=>(k,x)::cc s r
theorem wc{α β:Type}(s:List (aM×β))(k:aM):∀l:List (aM×α),look k (cc s l)=if(look k s).isSome then none else look k l
 |[]=>by simp[cc,look]
 |(i,x)::r=>by
  simp only[cc];by_cases e:i=k
  ·subst e;cases h:look i s with
   |some y=>simp[wc s i r,h]
   |none=>simp[look]
  ·cases h:look i s with
   |some y=>simp[wc s k r,look,e]
   |none=>simp[look,e,wc s k r]
theorem zw{α:Type}(k:aM):∀l ba:List (aM×α),look k (l++ba)=match look k l with|some x=>some x|none=>look k ba
 |[],ba=>by simp[look]
 |(i,x)::r,ba=>by
  by_cases e:i=k
  ·simp[look,e]
  ·simp[look,e,zw k r ba]
def after(st:bt)(s ai:cU)(d:Option Nat)(r:aj):bt:={t:=e6 d r st.t,b:=cc s.b st.b++ai.b,e:=cc s.e st.e++ai.e,n:=st.n,o:=st.o++dc ai}
section
open Classical
noncomputable def bg.join(Z bo:bg)(s ai:cU):bg:={A:=bo.A,bx:=fun k=>if(look k s.b).isSome\/(look k ai.b).isSome then bo.bx k else Z.bx k,ow:=fun k=>if(look k s.e).isSome\/(look k ai.e).isSome then bo.ow k else Z.ow k,tr:=fun k j b=>Z.tr k j b\/bo.tr k j b}
end
theorem c7.callK{C:fv}{st:bt}{a:Act}{w w':World}{Z bo:bg}(h:c7 C st a w Z){s ai:cU}(ad:gR (inObs s) s.b st.b)(he:oG (inObs s) s.e st.e)(vQ:jv s)
  (aT:Good (fun bl=>fE (Z.cut (inObs s)) s bl\/w.heap.size<=bl) w' bo ai.b ai.e) {κ:Option Nat} (ab:Hd κ bo ai) (ajW:∀m,κ=some m->Z.bx (.loc m)=none/\Z.ow (.loc m)=none/\∀j b,¬Z.tr (.loc m) j b) {n':Nat} {o':List aM} (cW:∀k,fresh n' o' k->fresh st.n (st.o++dc ai) k/\∀m,κ=some m->k≠ .loc m) (uz:jv ai) (aO:qR ⟨w,Z.cut (inObs s),fE (Z.cut (inObs s)) s,0,dc s⟩ w' bo)
  (M0:∀m,(look (.obj m) ai.b).isSome->(look (.obj m) s.b).isSome\/ .obj m∉st.o) (cG:∀m,(look (.obj m) ai.e).isSome->(look (.obj m) s.e).isSome\/ .obj m∉st.o) (d:Option Nat) (aD:j8 C.N d=true) {r:aj} {v:Value} (aN:be w' bo r v):
  c7 C {after st s ai d r with n:=n',o:=o'} (a.put d v) w' (Z.join bo s ai):=by
 have lL:∀k,(look k s.b).isSome->(look k st.b).isSome:=fun k ae=>by obtain⟨cs,dj⟩:=fH.1 ae;simp[(ad k cs dj).1]
 have kY:∀k,(look k s.e).isSome->(look k st.e).isSome:=fun k ae=>by obtain⟨cs,dj⟩:=fH.1 ae;simp[(he k cs dj).1]
 have ajf:∀k,(look k ai.b).isSome->¬(look k s.b).isSome->Z.bx k=none:=fun k ae au=>by
  cases k with
  |loc m=>rw[uz.1 m]at ae;cases ae
  |obj m=>exact(h.new (.obj m) ⟨trivial,(M0 m ae).resolve_left au⟩).1
 have ajg:∀k,(look k ai.e).isSome->¬(look k s.e).isSome->Z.ow k=none:=fun k ae au=>by
  cases k with
  |loc m=>rw[uz.2 m]at ae;cases ae
  |obj m=>exact(h.new (.obj m) ⟨trivial,(cG m ae).resolve_left au⟩).2.1
 have akA:∀k,(look k s.b).isSome->(Z.join bo s ai).bx k=bo.bx k:=fun k ae=>by simp[bg.join,ae]
 have Xc:∀k,(look k ai.b).isSome->(Z.join bo s ai).bx k=bo.bx k:=fun k ae=>by simp[bg.join,ae]
 have Xd:∀k,Z.bx k≠none->¬(look k s.b).isSome->(Z.join bo s ai).bx k=Z.bx k:=fun k I U=>by have ao:¬(look k ai.b).isSome:=fun ao=>I (ajf k ao U);simp[bg.join,U,ao]
 have akB:∀k,(look k s.e).isSome->(Z.join bo s ai).ow k=bo.ow k:=fun k ae=>by simp[bg.join,ae]
 have NH:∀k,(look k ai.e).isSome->(Z.join bo s ai).ow k=bo.ow k:=fun k ae=>by simp[bg.join,ae]
 have NI:∀k,Z.ow k≠none->¬(look k s.e).isSome->(Z.join bo s ai).ow k=Z.ow k:=fun k I U=>by have ao:¬(look k ai.e).isSome:=fun ao=>I (ajg k ao U);simp[bg.join,U,ao]
 have ab6:∀k b,bo.bx k=some b->(look k ai.b).isSome:=fun k b ae=>by
  cases aw:look k ai.b with
  |some _=>rfl
  |none=>rw[(ab k).1 aw]at ae;cases ae
 have ab7:∀k b,bo.ow k=some b->(look k ai.e).isSome:=fun k b ae=>by
  cases aw:look k ai.e with
  |some _=>rfl
  |none=>rw[(ab k).2.1 aw]at ae;cases ae
 have ax:mj w Z w' (Z.join bo s ai):=by
  refine⟨fun b o bm=>aO.keep b o bm,fun k b _ ae=>?_,fun g n u _ aT=>?_,fun b o bm=>aO.sh b o bm,fun _ _ _ _ h=>.inl h⟩
  ·by_cases af:(look k s.b).isSome
   ·rw[akA k af];cases k with
    |loc m=>rw[vQ.1 m]at af;cases af
    |obj m=>exact aO.obj m b (by rw[bg.cut_bx (.inl af)];exact ae)
   ·rw[Xd k (by rw[ae];simp) af];exact ae
  ·by_cases af:(look g s.e).isSome
   ·rw[akB g af];cases g with
    |loc m=>rw[vQ.2 m]at af;cases af
    |obj m=>exact aO.row m n u (by rw[bg.cut_ow (.inr af)];exact aT)
   ·rw[NI g (by rw[aT];simp) af];exact⟨n,u,aT,.inl ⟨rfl,rfl⟩⟩
 have iA:mj w' bo w' (Z.join bo s ai):=⟨fun b o bm=>⟨bm,rfl⟩,fun k b _ ae=>by rw[Xc k (ab6 k b ae)];exact ae,fun g n u _ ae=>⟨n,u,by rw[NH g (ab7 g _ ae)];exact ae,.inl ⟨rfl,rfl⟩⟩,fun _ _ _=>rfl,fun _ _ _ _ h=>.inr h⟩
 have qZ:∀bl,fE (Z.cut (inObs s)) s bl->C.pr bl/\bl<w.heap.size:=by
  intro bl fA;rcases fA with⟨k,I,U⟩|⟨g,n,u,I,U,ao⟩
  ·have a7:=(bg.cut_some U).2;obtain⟨cs,dj⟩:=fH.1 (lL k I);obtain⟨jk,us,el,g1,g2,_⟩:=h.good.box k cs dj;rw[a7]at g1;cases g1;exact⟨g2,h.good.boxLt dj a7⟩
  ·have a7:=(bg.cut_someO U).2;obtain⟨o,HW⟩:=fH.1 (kY g I);obtain⟨v',us,g1,g2,g3,_⟩:=h.good.own g o HW;rw[a7]at g1;cases g1;exact⟨(g3 bl ao).1,h.good.ownLt HW a7 ao⟩
 have Wz:∀bl,fE (Z.cut (inObs s)) s bl\/w.heap.size<=bl->C.pr bl:=fun bl fA=>by
  rcases fA with fA|fA
  ·exact(qZ bl fA).1
  ·exact .inr (hn h.fr.size fA)
 have ajC:∀k cs bl,look k st.b=some cs->¬(look k s.b).isSome->Z.bx k=some bl->¬fE (Z.cut (inObs s)) s bl:=by
  intro k cs bl I U ao a7;rcases a7 with⟨bJ,bF,a2⟩|⟨g,n,u,bF,a2,a3⟩
  ·have:=h.good.inj k bJ bl (by simp[I]) (lL bJ bF) ao (bg.cut_some a2).2;subst this;exact U bF
  ·exact h.good.obx g k n u bl (kY g bF) (by simp[I]) (bg.cut_someO a2).2 a3 ao
 have ajD:∀g o n u bl,look g st.e=some o->¬(look g s.e).isSome->Z.ow g=some (n,u)->u.ownBlock=some bl->¬fE (Z.cut (inObs s)) s bl:=by
  intro g o n u bl I U ao a7 b8;rcases b8 with⟨bJ,bF,a2⟩|⟨fj,n',fu,bF,a2,a3⟩
  ·exact h.good.obx g bJ n u bl (by simp[I]) (lL bJ bF) ao a7 (bg.cut_some a2).2
  ·have:=h.good.oinj g fj n n' u fu bl (by simp[I]) (kY fj bF) ao (bg.cut_someO a2).2 a7 a3;subst this;exact U bF
 have T0:∀k cs,look k (cc s.b st.b++ai.b)=some cs->(¬(look k s.b).isSome/\look k st.b=some cs)\/look k ai.b=some cs:=by
  intro k cs ae;rw[zw,wc]at ae;by_cases af:(look k s.b).isSome
  ·simp only[af,if_true]at ae;exact .inr ae
  ·simp only[af]at ae;cases aw:look k st.b with
   |some x=>simp[aw]at ae;subst ae;exact .inl ⟨af,rfl⟩
   |none=>simp[aw]at ae;exact .inr ae
 have T1:∀k cs,look k (cc s.e st.e++ai.e)=some cs->(¬(look k s.e).isSome/\look k st.e=some cs)\/look k ai.e=some cs:=by
  intro k cs ae;rw[zw,wc]at ae;by_cases af:(look k s.e).isSome
  ·simp only[af,if_true]at ae;exact .inr ae
  ·simp only[af]at ae;cases aw:look k st.e with
   |some x=>simp[aw]at ae;subst ae;exact .inl ⟨af,rfl⟩
   |none=>simp[aw]at ae;exact .inr ae
 have CD:∀bl,fE (Z.cut (inObs s)) s bl\/w.heap.size<=bl->∀jk,jk<w.heap.size->¬fE (Z.cut (inObs s)) s jk->bl≠jk:=by
  intro bl I jk U ao e;subst e;rcases I with I|I
  ·exact ao I
  ·omega
 have NO:∀bl,bl<w.heap.size->¬fE (Z.cut (inObs s)) s bl->w'.heap[bl]? =w.heap[bl]?:=fun bl I U=>aO.block bl I U;have isB:∀k bl,(look k (cc s.b st.b++ai.b)).isSome->(Z.join bo s ai).bx k=some bl->(¬(look k s.b).isSome/\(look k st.b).isSome/\Z.bx k=some bl)\/((look k ai.b).isSome/\bo.bx k=some bl):=by
  intro k bl ae ld;obtain⟨cs,dj⟩:=fH.1 ae;rcases T0 k cs dj with⟨I,U⟩|I
  ·obtain⟨jk,us,el,g1,_⟩:=h.good.box k cs U;rw[Xd k (by rw[g1];simp) I]at ld;exact .inl ⟨I,by simp[U],ld⟩
  ·rw[Xc k (by simp[I])]at ld;exact .inr ⟨by simp[I],ld⟩
 have Iq:∀k x,(look k (cc s.e st.e++ai.e)).isSome->(Z.join bo s ai).ow k=some x->(¬(look k s.e).isSome/\(look k st.e).isSome/\Z.ow k=some x)\/((look k ai.e).isSome/\bo.ow k=some x):=by
  intro k x ae ld;obtain⟨cs,dj⟩:=fH.1 ae;rcases T1 k cs dj with⟨I,U⟩|I
  ·obtain⟨v',us,g1,_⟩:=h.good.own k cs U;rw[NI k (by rw[g1];simp) I]at ld;exact .inl ⟨I,by simp[U],ld⟩
  ·rw[NH k (by simp[I])]at ld;exact .inr ⟨by simp[I],ld⟩
 have De:∀k bl,¬(look k s.b).isSome->(look k st.b).isSome->Z.bx k=some bl->bl<w.heap.size/\¬fE (Z.cut (inObs s)) s bl:=by intro k bl I U ao;obtain⟨cs,dj⟩:=fH.1 U;exact⟨h.good.boxLt dj ao,ajC k cs bl dj I ao⟩
 have zX:∀k n u bl,¬(look k s.e).isSome->(look k st.e).isSome->Z.ow k=some (n,u)->u.ownBlock=some bl->bl<w.heap.size/\¬fE (Z.cut (inObs s)) s bl:=by intro k n u bl I U ao a7;obtain⟨cs,dj⟩:=fH.1 U;exact⟨h.good.ownLt dj ao a7,ajD k cs n u bl dj I ao a7⟩
 have GB:∀k bl,(look k ai.b).isSome->bo.bx k=some bl->fE (Z.cut (inObs s)) s bl\/w.heap.size<=bl:=by intro k bl I U;obtain⟨cs,dj⟩:=fH.1 I;obtain⟨jk,us,el,g1,g2,_⟩:=aT.box k cs dj;rw[U]at g1;cases g1;exact g2
 have JS:∀k n u bl,(look k ai.e).isSome->bo.ow k=some (n,u)->u.ownBlock=some bl->fE (Z.cut (inObs s)) s bl\/w.heap.size<=bl:=by intro k n u bl I U ao;obtain⟨cs,dj⟩:=fH.1 I;obtain⟨v',us,g1,g2,g3,_⟩:=aT.own k cs dj;rw[U]at g1;cases g1;exact(g3 bl ao).1
 have bm:∀bl o,bo.A bl o->bl<w.heap.size->¬fE (Z.cut (inObs s)) s bl->Z.A bl o:=by
  intro bl o I U ao;rcases aO.fresh bl o I with a7|a7|a7
  ·exact a7
  ·exact absurd a7 ao
  ·simp only at a7;omega
 have pM:c7 C {t:=st.t,b:=cc s.b st.b++ai.b,e:=cc s.e st.e++ai.e,n:=n',o:=o'} a w' (Z.join bo s ai):=by
  refine h.over ax rfl ⟨aT.alt,fun k cs ae=>?_,fun k bJ bl I U ao a7=>?_,fun g o dF=>?_,fun g fj n n' u fu bl I U ao a7 b8 c6=>?_,fun g k n u bl I U ao a7 b8=>?_,fun k=>?_,fun bl aC k j mB=>?_⟩
   ⟨aO.os.trans h.fr.os,aO.tape.trans h.fr.tape,aO.output.trans h.fr.output,hn h.fr.size aO.size,fun k ae hm=>?_,fun b o sJ=>?_,fun b o sJ=>?_,fun n b au=>ax.bx _ _ trivial (h.fr.obj n b au),h.fr.obn,
    fun m n u hm=>Fw (h.fr.row m n u hm) (fun n u=>ax.ow _ n u trivial),h.fr.obr,fun k j bJ dL b I U=>?_,fun k j b ad=>?_,fun k j b ad=>?_,fun b o bm=>(ax.sh b o (h.fr.keep b o bm).1).trans (h.fr.sh b o bm)⟩ (fun k ae=>?_)
  ·rcases T0 k cs ae with⟨I,U⟩|I
   ·obtain⟨bl,us,el,g1,g2,g3,g4,g5⟩:=h.good.box k cs U;obtain⟨b1,b2⟩:=De k bl I (by simp[U]) g1;exact⟨bl,us,el,ax.bx _ _ trivial g1,g2,fun o sJ=>g3 o (bm bl o sJ b1 b2),by rw[NO bl b1 b2];exact g4,rj ax g5⟩
   ·obtain⟨bl,us,el,g1,g2,g3,g4,g5⟩:=aT.box k cs I;exact⟨bl,us,el,iA.bx _ _ trivial g1,Wz bl g2,g3,g4,rj iA g5⟩
  ·rcases isB k bl I ao with⟨bF,a2,a3⟩|⟨bF,a2⟩<;>rcases isB bJ bl U a7 with⟨b1,b2,fy⟩|⟨b1,b2⟩
   ·exact h.good.inj k bJ bl a2 b2 a3 fy
   ·obtain⟨bY,cB⟩:=De k bl bF a2 a3;exact absurd rfl (CD bl (GB bJ bl b1 b2) bl bY cB)
   ·obtain⟨bY,cB⟩:=De bJ bl b1 b2 fy;exact absurd rfl (CD bl (GB k bl bF a2) bl bY cB)
   ·exact aT.inj k bJ bl bF b1 a2 b2
  ·rcases T1 g o dF with⟨I,U⟩|I
   ·obtain⟨u,us,g1,g2,g3,g4⟩:=h.good.own g o U;refine⟨u,us,by rw[NI g (by rw[g1];simp) I];exact g1,⟨g2.1,?_⟩,fun bl fA=>?_,tw ax (fun bl fA j sJ=>?_) g4⟩
    ·rcases g2.2 with aE|⟨bb,cap,cur,f1,f2,f3,f4⟩
     ·exact .inl aE
     ·obtain⟨b1,b2⟩:=zX g _ u bb I (by simp[U]) g1 (by rw[f1];rfl);exact .inr ⟨bb,cap,cur,f1,f2,by rw[NO bb b1 b2];exact f3,f4⟩
    ·obtain⟨b1,b2⟩:=zX g _ u bl I (by simp[U]) g1 fA;exact⟨(g3 bl fA).1,fun j sJ=>(g3 bl fA).2 j (bm bl j sJ b1 b2)⟩
    ·obtain⟨b1,b2⟩:=zX g _ u bl I (by simp[U]) g1 fA;exact bm bl j sJ b1 b2
   ·obtain⟨u,us,g1,g2,g3,g4⟩:=aT.own g o I;exact⟨u,us,by rw[NH g (by simp[I])];exact g1,g2,fun bl fA=>⟨Wz bl (g3 bl fA).1,(g3 bl fA).2⟩,tw iA (fun _ _ _ h=>h) g4⟩
  ·rcases Iq g _ I ao with⟨bF,a2,a3⟩|⟨bF,a2⟩<;>rcases Iq fj _ U a7 with⟨b1,b2,fy⟩|⟨b1,b2⟩
   ·exact h.good.oinj g fj n n' u fu bl a2 b2 a3 fy b8 c6
   ·obtain⟨bY,cB⟩:=zX g n u bl bF a2 a3 b8;exact absurd rfl (CD bl (JS fj n' fu bl b1 b2 c6) bl bY cB)
   ·obtain⟨bY,cB⟩:=zX fj n' fu bl b1 b2 fy c6;exact absurd rfl (CD bl (JS g n u bl bF a2 b8) bl bY cB)
   ·exact aT.oinj g fj n n' u fu bl bF b1 a2 b2 b8 c6
  ·rcases Iq g _ I ao with⟨bF,a2,a3⟩|⟨bF,a2⟩<;>rcases isB k bl U b8 with⟨b1,b2,fy⟩|⟨b1,b2⟩
   ·exact h.good.obx g k n u bl a2 b2 a3 a7 fy
   ·obtain⟨bY,cB⟩:=zX g n u bl bF a2 a3 a7;exact absurd rfl (CD bl (GB k bl b1 b2) bl bY cB)
   ·obtain⟨bY,cB⟩:=De k bl b1 b2 fy;exact absurd rfl (CD bl (JS g n u bl bF a2 a7) bl bY cB)
   ·exact aT.obx g k n u bl bF b1 a2 a7 b2
  ·
   cases ld:(Z.join bo s ai).bx k with
   |none=>exact .inl rfl
   |some bl=>
    right;cases Eb:(Z.join bo s ai).ow k with
    |none=>rfl
    |some x=>
     exfalso;have ar:(Z.bx k=some bl/\¬(look k s.b).isSome/\¬(look k ai.b).isSome)\/bo.bx k=some bl:=by
      by_cases af:(look k s.b).isSome\/(look k ai.b).isSome
      ·right;simpa[bg.join,af]using ld
      ·left;simp only[not_or]at af;exact⟨by simpa[bg.join,af.1,af.2]using ld,af.1,af.2⟩
     have aE:(Z.ow k=some x/\¬(look k s.e).isSome/\¬(look k ai.e).isSome)\/bo.ow k=some x:=by
      by_cases af:(look k s.e).isSome\/(look k ai.e).isSome
      ·right;simpa[bg.join,af]using Eb
      ·left;simp only[not_or]at af;exact⟨by simpa[bg.join,af.1,af.2]using Eb,af.1,af.2⟩
     rcases ar with⟨bF,a2,a3⟩|bF<;>rcases aE with⟨b1,b2,fy⟩|b1
     ·rcases h.good.one k with cA|cA
      ·rw[cA]at bF;cases bF
      ·rw[cA]at b1;cases b1
     ·have vL:=ab7 k x b1;have fB:(look k s.e).isSome:=by
       cases k with
       |loc m=>rw[uz.2 m]at vL;cases vL
       |obj m=>
        rcases cG m vL with cA|cA
        ·exact cA
        ·rw[(h.new (.obj m) ⟨trivial,cA⟩).1]at bF;cases bF
      obtain⟨o,HW⟩:=fH.1 (kY k fB);obtain⟨v',us,g1,_⟩:=h.good.own k o HW;rcases h.good.one k with cA|cA
      ·rw[cA]at bF;cases bF
      ·rw[cA]at g1;cases g1
     ·have uw:=ab6 k bl bF;have fB:(look k s.b).isSome:=by
       cases k with
       |loc m=>rw[uz.1 m]at uw;cases uw
       |obj m=>
        rcases M0 m uw with cA|cA
        ·exact cA
        ·rw[(h.new (.obj m) ⟨trivial,cA⟩).2.1]at b1;cases b1
      obtain⟨cs,dj⟩:=fH.1 (lL k fB);obtain⟨jk,us,el,g1,_⟩:=h.good.box k cs dj;rcases h.good.one k with cA|cA
      ·rw[cA]at g1;cases g1
      ·rw[cA]at b1;cases b1
     ·rcases aT.one k with cA|cA
      ·rw[cA]at bF;cases bF
      ·rw[cA]at b1;cases b1
  ·have Wn:∀k j,bo.tr k j bl->w.heap.size<=bl:=fun k j cA=>by
    rcases(aO.trb k j bl cA).1 with a2|a2
    ·obtain⟨m,_,hm⟩:=(ab k).2.2 j bl cA;rw[hm]at a2;cases a2
    ·exact a2
   have hold:fE (Z.cut (inObs s)) s bl->¬Z.tr k j bl:=by
    rintro(⟨bJ,bF,a2⟩|⟨g,n,u,bF,a2,a3⟩) cA
    ·exact h.good.otr bl (.inl ⟨bJ,lL bJ bF,(bg.cut_some a2).2⟩) k j cA
    ·exact h.good.otr bl (.inr ⟨g,n,u,kY g bF,(bg.cut_someO a2).2,a3⟩) k j cA
   have kG:fE (Z.cut (inObs s)) s bl\/w.heap.size<=bl->¬Z.tr k j bl:=by
    rintro(I|I) cA
    ·exact hold I cA
    ·have:=(h.fr.trb k j bl cA).2;omega
   rcases aC with⟨bJ,bF,a2⟩|⟨g,n,u,bF,a2,a3⟩
   ·rcases isB bJ bl bF a2 with⟨b1,b2,fy⟩|⟨b1,b2⟩
    ·rcases mB with mB|mB
     ·exact h.good.otr bl (.inl ⟨bJ,b2,fy⟩) k j mB
     ·have:=(De bJ bl b1 b2 fy).1;have:=Wn k j mB;omega
    ·rcases mB with mB|mB
     ·exact kG (GB bJ bl b1 b2) mB
     ·exact aT.otr bl (.inl ⟨bJ,b1,b2⟩) k j mB
   ·rcases Iq g _ bF a2 with⟨b1,b2,fy⟩|⟨b1,b2⟩
    ·rcases mB with mB|mB
     ·exact h.good.otr bl (.inr ⟨g,n,u,b2,fy,a3⟩) k j mB
     ·have:=(zX g n u bl b1 b2 fy a3).1;have:=Wn k j mB;omega
    ·rcases mB with mB|mB
     ·exact kG (JS g n u bl b1 b2 a3) mB
     ·exact aT.otr bl (.inr ⟨g,n,u,b1,b2,a3⟩) k j mB
  ·have bD:k<w.heap.size:=Nat.lt_of_lt_of_le ae h.fr.size;rw[NO k bD fun fA=>by
    rcases(qZ k fA).1 with I|I
    ·exact hm I
    ·omega]
   exact h.fr.block k ae hm
  ·obtain⟨aS,bh⟩:=h.fr.keep b o sJ;obtain⟨bX,ed⟩:=aO.keep b o aS;exact⟨bX,ed.trans bh⟩
  ·rcases aO.fresh b o sJ with a7|a7|a7
   ·exact h.fr.fresh b o a7
   ·exact .inr (qZ b a7).1
   ·exact .inr (.inr (hn h.fr.size a7))
  ·rcases I with I|I<;>rcases U with U|U
   ·exact h.fr.trd k j bJ dL b I U
   ·have bF:=(h.fr.trb k j b I).2;have a2:=(aO.trb bJ dL b U).1;rcases a2 with a2|a2
    ·obtain⟨m,_,hm⟩:=(ab bJ).2.2 dL b U;rw[hm]at a2;cases a2
    ·simp only at a2;omega
   ·have bF:=(h.fr.trb bJ dL b U).2;have a2:=(aO.trb k j b I).1;rcases a2 with a2|a2
    ·obtain⟨m,_,hm⟩:=(ab k).2.2 j b I;rw[hm]at a2;cases a2
    ·simp only at a2;omega
   ·exact aO.trd k j bJ dL b I U
  ·rcases ad with ad|ad
   ·exact⟨(h.fr.trb k j b ad).1,Nat.lt_of_lt_of_le (h.fr.trb k j b ad).2 aO.size⟩
   ·refine⟨.inr ?_,(aO.trb k j b ad).2⟩;rcases(aO.trb k j b ad).1 with a2|a2
    ·obtain⟨m,_,hm⟩:=(ab k).2.2 j b ad;rw[hm]at a2;cases a2
    ·exact hn h.fr.size a2
  ·have key:Z.bx k=none/\Z.ow k=none/\¬(look k ai.b).isSome/\¬(look k ai.e).isSome:=by
    rcases ad with ad|ad
    ·obtain⟨t1,t2⟩:=h.fr.trn k j b ad;refine⟨t1,t2,fun cA=>?_,fun cA=>?_⟩
     ·cases k with
      |loc m=>rw[uz.1 m]at cA;cases cA
      |obj m=>
       rcases M0 m cA with b8|b8
       ·obtain⟨cs,dj⟩:=fH.1 (lL _ b8);obtain⟨jk,us,el,g1,_⟩:=h.good.box _ cs dj;rw[t1]at g1;cases g1
       ·exact(h.new (.obj m) ⟨trivial,b8⟩).2.2 j b ad
     ·cases k with
      |loc m=>rw[uz.2 m]at cA;cases cA
      |obj m=>
       rcases cG m cA with b8|b8
       ·obtain⟨cs,dj⟩:=fH.1 (kY _ b8);obtain⟨jk,us,g1,_⟩:=h.good.own _ cs dj;rw[t2]at g1;cases g1
       ·exact(h.new (.obj m) ⟨trivial,b8⟩).2.2 j b ad
    ·obtain⟨m,hm,rfl⟩:=(ab k).2.2 j b ad;obtain⟨t1,t2,_⟩:=ajW m hm;exact⟨t1,t2,by simp[uz.1 m],by simp[uz.2 m]⟩
   obtain⟨t1,t2,t3,t4⟩:=key;have t5:¬(look k s.b).isSome:=fun cA=>by obtain⟨cs,dj⟩:=fH.1 (lL _ cA);obtain⟨jk,us,el,g1,_⟩:=h.good.box _ cs dj;rw[t1]at g1;cases g1
   have t6:¬(look k s.e).isSome:=fun cA=>by obtain⟨cs,dj⟩:=fH.1 (kY _ cA);obtain⟨jk,us,g1,_⟩:=h.good.own _ cs dj;rw[t2]at g1;cases g1
   exact⟨by simp[bg.join,t3,t5,t1],by simp[bg.join,t4,t6,t2]⟩
  ·
   simp only at ae;obtain⟨ae,aiV⟩:=cW k ae;have Ws:(∀j b,¬Z.tr k j b)->∀j b,¬(Z.join bo s ai).tr k j b:=fun I j b ad=>by
    rcases ad with ad|ad
    ·exact I j b ad
    ·obtain⟨m,hm,e⟩:=(ab k).2.2 j b ad;exact aiV m hm e
   cases k with
   |loc m=>obtain⟨jc,gG,jZ⟩:=h.new (.loc m) (Me (eo _) (fun _ h=>List.mem_append_left _ h) ae);exact⟨by simp[bg.join,vQ.1 m,uz.1 m,jc],by simp[bg.join,vQ.2 m,uz.2 m,gG],Ws jZ⟩
   |obj m=>
    simp only[fresh,h3,not_or,true_and]at ae;obtain⟨jc,gG,jZ⟩:=h.new (.obj m) ⟨trivial,ae.1⟩;have aW:¬(look (.obj m) ai.b).isSome:=fun cA=>ae.2 (uU (.inl cA));have bj:¬(look (.obj m) ai.e).isSome:=fun cA=>ae.2 (uU (.inr cA));have bM:¬(look (.obj m) s.b).isSome:=fun cA=>by obtain⟨cs,dj⟩:=fH.1 (lL _ cA);obtain⟨jk,us,el,g1,_⟩:=h.good.box _ cs dj;rw[jc]at g1;cases g1
    have cL:¬(look (.obj m) s.e).isSome:=fun cA=>by obtain⟨cs,dj⟩:=fH.1 (kY _ cA);obtain⟨v',us,g1,_⟩:=h.good.own _ cs dj;rw[gG]at g1;cases g1
    exact⟨by simp[bg.join,aW,bM,jc],by simp[bg.join,bj,cL,gG],Ws jZ⟩
 exact pM.put aD (zV iA aN)
inductive ev where
 |s (i:eB)
 |call (d:Option Nat) (f:dA) (xs:List dA)
 |next (d:Nat) (x:dA)
structure dh where
 g:Option (Nat×Bool)
 i:ev
def eB.dst:eB->Option Nat
 | .v d _| .box d _ _| .alloc d _ _| .bsl d _ _ _| .app d _ _ _ _| .bslm d _ _ _ _| .appm d _ _ _ _ _| .mkmap d _| .range d _ _| .mks d _ _ _ _ _=>some d
 | .store _ _ _| .mput _ _ _ _| .storeE _ _ _=>none
def ev.dst:ev->Option Nat
 | .s i=>i.dst
 | .call d _ _=>d
 | .next d _=>some d
def cY(P:cM)(n:Nat)(args:List aj)(st:bt)(d:Option Nat)(K:bt->Prop):Prop:=
 (∃s Q,gR (inObs s) s.b st.b/\oG (inObs s) s.e st.e/\jv s/\aP (inObs s) args/\bL P n args s Q/\
  ∀r ai,Q r ai->((∀m,(look (.obj m) ai.b).isSome->(look (.obj m) s.b).isSome\/ .obj m∉st.o)/\(∀m,(look (.obj m) ai.e).isSome->(look (.obj m) s.e).isSome\/ .obj m∉st.o))/\K (after st s ai d r))\/
 (∃s Q,gR (inObs s) s.b st.b/\oG (inObs s) s.e st.e/\jv s/\aP (inObs s) args/\ .loc st.n∉st.o/\Kw P n st.n args s Q/\
  ∀r ai,Q r ai->((∀m,(look (.obj m) ai.b).isSome->(look (.obj m) s.b).isSome\/ .obj m∉st.o)/\(∀m,(look (.obj m) ai.e).isSome->(look (.obj m) s.e).isSome\/ .obj m∉st.o))/\K {after st s ai d r with n:=st.n+1})
def OA(st:bt)(d:Nat)(fL mk:aM)(since:Nat)(seen:List Nat)(last clock:Nat)(borns:List Nat)(kvs:List aj)(K:bt->Prop):Prop:=
 (since=clock/\last=clock)/\((∀b∈borns,b∈seen)->K {st with t:=put d (.tuple [.bool false]) st.t})/\
 (∀b k v,nM b borns kvs=some (.tuple [k,v])->b∉seen->K {st with t:=put d (.tuple [.bool true,k,v]) st.t,b:=cI fL [.hdi since (seen++[b]) last,.gmap mk] st.b})
def uf(st:bt)(d:Nat)(v:aj)(K:bt->Prop):Prop:=
 match v with
 | .ptr fL 0=>match look fL st.b with
  |some [.hdi since seen last,.gmap mk]=>match look mk st.b with
   |some (.hdm clock borns::kvs)=>OA st d fL mk since seen last clock borns kvs K
   |_=>eI
  |_=>eI
 |_=>eI
def vs(P:cM)(st:bt)(K:bt->Prop):ev->Prop
 | .next d x=>uf st d (cy st.t x) K
 | .s i=>match nf st i with
  |some (c,st')=>c/\K st'
  |none=>eI
 | .call d f xs=>match cy st.t f with
  | .func n dv=>cY P n (du (xs.map (cy st.t)++dv)) st d K
  |_=>eI
def iI(P:cM):List dh->bt->(bt->Prop)->Prop
 |[],st,K=>K st
 |⟨none,i⟩::r,st,K=>vs P st (fun st'=>iI P r st' K) i
 |⟨some (s,want),i⟩::r,st,K=>match get s st.t with
  | .bool b=>(b=want->vs P {st with t:=put s (.bool want) st.t} (fun st'=>iI P r st' K) i)/\(b= !want->iI P r {st with t:=e6 i.dst (.tuple []) (put s (.bool !want) st.t)} K)
  | .tuple []=>iI P r {st with t:=e6 i.dst (.tuple []) st.t} K
  |_=>eI
def wB(N:Nat)(bH:List (Nat×dG))(i:ev)(o:Oper):Bool:=
 match i with
 | .s i=>Fy N bH i o
 | .next d x=>match o.op with
  | .next it false=>o.dst==some d&&decide (d<N)&&ey x it
  |_=>false
 | .call d f xs=>match o.op with
  | .call ⟨.value sB,args,_⟩=>o.dst==d&&j8 N d&&ey f sB&&zI xs args.toList
  |_=>false
def DF(N:Nat)(bH:List (Nat×dG))(ops:List Oper)(g:dh)(o:Oper):Bool:=
 (match g.g,o.guard with
  |none,none=>true
  |some (s,b),some (j,b3)=>b==b3&&((ops[j]?).bind (·.dst))==some s&&decide (s<N)&&o.dst==g.i.dst&&j8 N g.i.dst
  |_,_=>false)&&wB N bH g.i o
def lb(N:Nat)(bH:List (Nat×dG))(ops:List Oper):List dh->List Oper->Bool
 |[],[]=>true
 |g::gs,o::os=>DF N bH ops g o&&lb N bH ops gs os
 |_,_=>false
theorem aap{w:World}{Z:bg}:∀{cC bu:List aj} {bc us:List Value},cZ w Z cC bc->cZ w Z bu us->cZ w Z (cC++bu) (bc++us)
 |[],bu,bc,us,h,b4=>by simp only[cZ]at h;subst h;simpa using b4
 |p::cC,bu,bc,us,h,b4=>by simp only[cZ]at h;obtain⟨u,ck,rfl,I,U⟩:=h;simp only[bQ,cZ];exact⟨u,_,rfl,I,aap U b4⟩
theorem yo.mono{P:cM}{f:FuncId}{bc:Array Value}{w:World}{R Re:Ending->World->Prop}(h:yo P f bc w R)(bI:∀e w',R e w'->Re e w'):yo P f bc w Re:=by
 rcases h with⟨I,U⟩|⟨v,w',I,U⟩
 ·exact .inl ⟨I,U.mono bI⟩
 ·exact .inr ⟨v,w',I,bI _ _ U⟩
theorem TY{P:cM}{C:fv}{st:bt}{a:Act}{w:World}{Z:bg}(aN:c7 C st a w Z){o:Oper}{sB:Operand}{args:Array Operand}{CF:Array hl}(og:o.op= .call ⟨.value sB,args,CF⟩){d:Option Nat}(aD:o.dst=d)(yZ:j8 C.N d=true)
  {n:Nat} {dv:List aj} (aO:be w Z (.func n dv) (a.eval sB)) {cC:List aj} (vE:cZ w Z cC (args.toList.map a.eval)) {K:bt->Prop}
  (aq:∃(s:cU) (ry:aj->cU->Prop) (κ:Option Nat) (n':Nat) (o':cU->List aM),gR (inObs s) s.b st.b/\oG (inObs s) s.e st.e/\jv s/\aP (inObs s) (du (cC++dv))/\(∀(w:World) (Z:bg) (bc:Array Value),Good (fE Z s) w Z s.b s.e->pE Z s->cZ w Z (du (cC++dv)) bc.toList->
   yo P n bc w fun e w'=> ∃v r ai bo,e= .returned v/\ry r ai/\be w' bo r v/\Good (fun bl=>fE Z s bl\/w.heap.size<=bl) w' bo ai.b ai.e/\Hd κ bo ai/\jv ai/\qR ⟨w,Z,fE Z s,0,dc s⟩ w' bo)/\
   (∀m,κ=some m->fresh st.n st.o (.loc m))/\(∀k r ai,ry r ai->fresh n' (o' ai) k->fresh st.n (st.o++dc ai) k/\∀m,κ=some m->k≠ .loc m)/\
   ∀r ai,ry r ai->((∀m,(look (.obj m) ai.b).isSome->(look (.obj m) s.b).isSome\/ .obj m∉st.o)/\(∀m,(look (.obj m) ai.e).isSome->(look (.obj m) s.e).isSome\/ .obj m∉st.o))/\K {after st s ai d r with n:=n',o:=o' ai})
  {sq:Act->World->Prop} {Q:Exit->Act->World->Prop} (de:∀st' bq w' bo,K st'->c7 C st' bq w' bo->sq bq w'):o.wp P a w sq Q:=by
 obtain⟨s,ry,κ,n',o',bY,cB,dE,kV,lG,Uc,T6,oS⟩:=aq;simp only[be]at aO;obtain⟨us,az,hu⟩:=aO;have mA:cZ w (Z.cut (inObs s)) (du (cC++dv)) ((args.map a.eval)++us).toList:=by refine zU (pq.cut _ w Z) _ _ kV (JK _ _ ?_);simpa using aap vE hu
 have sR:Good (fE (Z.cut (inObs s)) s) w (Z.cut (inObs s)) s.b s.e:=aN.good.cut bY cB (fun bl _ h=>h);have hex:pE (Z.cut (inObs s)) s:=by
  intro k;refine⟨?_,?_,?_⟩;rotate_left 2
  ·rintro j b ⟨af,ad⟩;obtain⟨t1,t2⟩:=aN.fr.trn k j b ad;rcases af with af|af<;>obtain⟨x,ab⟩:=fH.1 af
   ·obtain⟨bl,ck,el,ar,_⟩:=aN.good.box k x (bY k x ab).1;rw[t1]at ar;cases ar
   ·obtain⟨v',ck,ar,_⟩:=aN.good.own k x (cB k x ab).1;rw[t2]at ar;cases ar
  ·intro aw;by_cases af:inObs s k
   ·rw[bg.cut_bx af];rcases af with af|af
    ·rw[aw]at af;cases af
    ·obtain⟨x,ab⟩:=fH.1 af;obtain⟨v',ck,ar,_⟩:=aN.good.own k x (cB k x ab).1;rcases aN.good.one k with I|I
     ·exact I
     ·rw[I]at ar;cases ar
   ·exact(bg.cut_no af).1
  ·intro aw;by_cases af:inObs s k
   ·rw[bg.cut_ow af];rcases af with af|af
    ·obtain⟨x,ab⟩:=fH.1 af;obtain⟨bl,ck,el,ar,_⟩:=aN.good.box k x (bY k x ab).1;rcases aN.good.one k with I|I
     ·rw[I]at ar;cases ar
     ·exact I
    ·rw[aw]at af;cases af
   ·exact(bg.cut_no af).2.1
 rcases lG w (Z.cut (inObs s)) ((args.map a.eval)++us) sR hex mA with⟨⟨fn,g1,g2,g3⟩,lG⟩|⟨v,w',lG,bG⟩
 ·obtain⟨code,ain⟩:=fH.1 g2;have iY:(execOp a.eval o).run P w= .ok (.enter n ((args.map a.eval)++us)) w:=by obtain⟨dst,op,ty,pos,Ro,xb⟩:=o;simp only at og;subst og;simp only[execOp,resolve,az,Deferred.ofValue,fZ,gI,gf,invoke,callFunc,run_program,g1,g3,ain];simp
  unfold Oper.wp;rw[iY];simp only[Oper.upon];refine lG.mono fun e w' bG=>?_;obtain⟨v,r,ai,bo,rfl,bs,aW,bj,bM,cL,c2⟩:=bG;obtain⟨⟨jc,gG⟩,ae⟩:=oS r ai bs;rw[aD];exact de _ _ _ _ ae (aN.callK bY cB dE bj bM (fun m hm=>aN.new _ (Uc m hm)) (n':=n') (o':=o' ai) (fun k ae=>T6 k r ai bs ae) cL c2 jc gG d yZ aW)
 ·have iY:(execOp a.eval o).run P w= .ok (.value v) w':=by obtain⟨dst,op,ty,pos,Ro,xb⟩:=o;simp only at og;subst og;simp only[execOp,resolve,az,Deferred.ofValue,fZ,gI,gf,invoke];simpa using lG
  obtain⟨v2,r,ai,bo,El,bs,aW,bj,bM,cL,c2⟩:=bG;cases El;obtain⟨⟨jc,gG⟩,ae⟩:=oS r ai bs;refine nj iY ?_;rw[aD];exact de _ _ _ _ ae (aN.callK bY cB dE bj bM (fun m hm=>aN.new _ (Uc m hm)) (n':=n') (o':=o' ai) (fun k ae=>T6 k r ai bs ae) cL c2 jc gG d yZ aW)
theorem TX{P:cM}{C:fv}{st:bt}{a:Act}{w:World}{Z:bg}(aN:c7 C st a w Z){o:Oper}{sB:Operand}{args:Array Operand}{CF:Array hl}(og:o.op= .call ⟨.value sB,args,CF⟩){d:Option Nat}(aD:o.dst=d)(yZ:j8 C.N d=true)
  {n:Nat} {dv:List aj} (aO:be w Z (.func n dv) (a.eval sB)) {cC:List aj} (vE:cZ w Z cC (args.toList.map a.eval)) {K:bt->Prop} (aq:cY P n (du (cC++dv)) st d K)
  {sq:Act->World->Prop} {Q:Exit->Act->World->Prop} (de:∀st' bq w' bo,K st'->c7 C st' bq w' bo->sq bq w'):o.wp P a w sq Q:=by
 refine TY aN og aD yZ aO vE (K:=K) ?_ de;rcases aq with⟨s,ry,bY,cB,dE,kV,lG,oS⟩|⟨s,ry,bY,cB,dE,kV,k8,lG,oS⟩
 ·refine⟨s,ry,none,st.n,fun ai=>st.o++dc ai,bY,cB,dE,kV,fun w Z bc I U ao=>(lG w Z bc I U ao).mono fun e w' bG=>?_,fun m hm=>(by cases hm),fun k _ ai _ ae=>⟨ae,fun m hm=>by cases hm⟩,oS⟩;obtain⟨v,r,ai,bo,g1,g2,g3,g4,g5,g6⟩:=bG;exact⟨v,r,ai,bo,g1,g2,g3,g4,g5.k,g6⟩
 ·refine⟨s,ry,some st.n,st.n+1,fun ai=>st.o++dc ai,bY,cB,dE,kV,lG,fun m hm=>(by cases hm;exact⟨eo _,k8⟩),fun k _ ai _ ae=>⟨Me (Nat.le_succ _) (fun _ h=>h) ae,fun m hm=>?_⟩,oS⟩;cases hm;rintro rfl;have:=ae.1;simp only at this;omega
theorem c7.drawn{C:fv}{st:bt}{a:Act}{w:World}{Z:bg}(aN:c7 C st a w Z)(n:Nat):c7 C st a {w with drawn:=n} Z:=by
 have lK:mj w Z {w with drawn:=n} Z:=⟨fun _ _ h=>⟨h,rfl⟩,fun _ _ _ h=>h,fun _ n u _ h=>⟨n,u,h,.inl ⟨rfl,rfl⟩⟩,fun _ _ _=>rfl,fun _ _ _ _ h=>h⟩;refine aN.over lK rfl ⟨aN.good.alt,fun k cs ae=>?_,aN.good.inj,fun g o aT=>?_,aN.good.oinj,aN.good.obx,aN.good.one,aN.good.otr⟩ ⟨aN.fr.os,aN.fr.tape,aN.fr.output,aN.fr.size,aN.fr.block,aN.fr.keep,aN.fr.fresh,aN.fr.obj,aN.fr.obn,aN.fr.row,aN.fr.obr,aN.fr.trd,aN.fr.trb,aN.fr.trn,aN.fr.sh⟩ aN.new
 ·obtain⟨bl,us,el,I,U,ao,a7,b8⟩:=aN.good.box k cs ae;exact⟨bl,us,el,I,U,ao,a7,rj lK b8⟩
 ·obtain⟨v,us,I,U,ao,a7⟩:=aN.good.own g o aT;exact⟨v,us,I,U,ao,tw lK (fun _ _ _ h=>h) a7⟩
theorem agL{α:Type}{l:List α}{p:α->Bool}(h:∀x∈l,p x=false):l.filter p=[]:=by rw[List.filter_eq_nil_iff];intro x ab;simp[h x ab]
theorem agK{α:Type}{l:List α}{p:α->Bool}(h:∀x∈l,p x=true):l.filter p=l:=List.filter_eq_self.2 h
def I1(r m since clock:Nat)(seen:Array Nat)(TZ:Array (Option MapEntry)):Sem Value:=do
 match TZ[<-choose (.mapNext TZ.size)]? with
 |some (some e)=>
  setObj r (.mapIter (some m) since (seen.push e.born) clock)
  pure (.tuple #[.bool true,e.key,e.val])
 |some none=>pure (.tuple #[.bool false])
 |none=>stuck "Next: no such candidate"
theorem aaA{P:cM}{w:World}(r m since clock:Nat)(seen:Array Nat)(l:List (Option MapEntry))(aw:l≠[]):∃n x,x∈l/\(I1 r m since clock seen l.toArray).run P w=
  (match x with|some e=>(do setObj r (.mapIter (some m) since (seen.push e.born) clock);pure (.tuple #[.bool true,e.key,e.val]):Sem Value)|none=>pure (.tuple #[.bool false])).run P {w with drawn:=n}:=by
 have fW:0<l.length:=List.length_pos_iff.2 aw;unfold I1;have key:∀i,i<l.length->∀w',((do match(l.toArray[i]?:Option (Option MapEntry))with
   |some (some e)=>setObj r (.mapIter (some m) since (seen.push e.born) clock);pure (.tuple #[.bool true,e.key,e.val])
   |some none=>pure (.tuple #[.bool false])
   |none=>stuck "Next: no such candidate" :Sem Value)).run P w'=((match l[i]! with|some e=>(do setObj r (.mapIter (some m) since (seen.push e.born) clock);pure (.tuple #[.bool true,e.key,e.val]):Sem Value)|none=>pure (.tuple #[.bool false]))).run P w':=by
  intro i hi w';have I:l.toArray[i]? =some l[i]!:=by simp[hi]
  rw[I];cases l[i]!<;>rfl
 by_cases aO:(Question.mapNext l.length).forced=true
 ·refine⟨w.drawn,l[0]!,by simp[fW],?_⟩;rw[<-key 0 fW];have aq:(choose (.mapNext l.length):Sem Nat).run P w= .ok 0 w:=by simp[aO]
  simp only[List.size_toArray,fZ,aq,gf]
 ·refine⟨w.drawn+1,l[(w.tape w.drawn (.mapNext l.length))%l.length]!,by simp[Nat.mod_lt _ fW],?_⟩;rw[<-key _ (Nat.mod_lt _ fW)];have aq:(choose (.mapNext l.length):Sem Nat).run P w= .ok ((w.tape w.drawn (.mapNext l.length))%l.length) {w with drawn:=w.drawn+1}:=by simp[aO,Question.cut]
  simp only[List.size_toArray,fZ,aq,gf]
theorem apg{P:cM}{w:World}{bl mb:Nat}{seen:List Nat}{es:List MapEntry}{clock:Nat}{ty:hl}(I:w.heap[bl]? =some (.mapIter (some mb) clock seen.toArray clock))(U:w.heap[mb]? =some (.map es.toArray clock))(bD:∀e∈es,e.born<clock):
  ∃n,((∀e∈es,e.born∈seen)/\(Instr.next (.pointer (some ⟨bl,0,none⟩)) false ty).run P w= .ok (.tuple #[.bool false]) {w with drawn:=n})\/
   ∃e∈es,e.born∉seen/\(Instr.next (.pointer (some ⟨bl,0,none⟩)) false ty).run P w= .ok (.tuple #[.bool true,e.key,e.val]) {w with drawn:=n,heap:=w.heap.setIfInBounds bl (.mapIter (some mb) clock (seen++[e.born]).toArray clock)}:=by
 have eg:(!seen.toArray.isEmpty&& !es.toArray.isEmpty&&es.toArray.all (fun e=>decide (e.born≥clock)))=false:=by
  cases es with
  |nil=>simp
  |cons e r=>have:=bD e Ψ;simp;intro _ h;omega
 generalize e1:(es.filter fun e=> !seen.contains e.born)=left;have ai2:(es.toArray.filter fun e=> !seen.toArray.contains e.born)=left.toArray:=by rw[<-e1];simp
 have h0:∀e∈left,e∈es/\e.born∉seen:=fun e he=>by rw[<-e1]at he;have:=hD.1 he;exact⟨this.1,by simpa using this.2⟩
 have hold:(left.toArray.filter fun e=>decide (e.born<clock))=left.toArray:=by rw[List.filter_toArray,agK];intro e he;have:=bD e (h0 e he).1;simp[this]
 have kG:(left.toArray.filter fun e=>decide (e.born≥clock))= #[]:=by rw[List.filter_toArray,agL];intro e he;have:=bD e (h0 e he).1;simp;omega
 have iY:(Instr.next (.pointer (some ⟨bl,0,none⟩)) false ty).run P w=(I1 bl mb clock clock seen.toArray ((if left.toArray.isEmpty then #[none]else #[])++(left.toArray++ #[]).map some)).run P w:=by unfold Instr.next I1;simp only[fZ,wI I,wI U,gf,eg,ai2,hold,kG,hk,if_false];rfl
 rw[iY];by_cases Bj:left=[]
 ·subst Bj;obtain⟨n,x,g1,g2⟩:=aaA (P:=P) (w:=w) bl mb clock clock seen.toArray [none] Ψ;refine⟨n,.inl ⟨fun e he=>?_,?_⟩⟩
  ·have:=List.filter_eq_nil_iff.1 e1 e he;simpa using this
  ·simp only[iG]at g1;subst g1;have aq:((if(([]:List MapEntry).toArray).isEmpty then #[none]else #[])++(([]:List MapEntry).toArray++ #[]).map some)=[none].toArray:=by simp
   rw[aq,g2];rfl
 ·have aq:((if left.toArray.isEmpty then #[none]else #[])++(left.toArray++ #[]).map some)=(left.map some).toArray:=by simp[Bj]
  obtain⟨n,x,g1,g2⟩:=aaA (P:=P) (w:=w) bl mb clock clock seen.toArray (left.map some) (by simpa using Bj);simp only[hU]at g1;obtain⟨e,he,rfl⟩:=g1;refine⟨n,.inr ⟨e,(h0 e he).1,(h0 e he).2,?_⟩⟩;rw[aq,g2];simp only[fZ];rw[Fx (w:={w with drawn:=n}) (o:= .mapIter (some mb) clock seen.toArray clock) I];simp
theorem LL:∀{borns:List Nat} {us:List Value} {e:MapEntry},e∈fV borns us->e.born∈borns
 |[],us,e,h=>by simp[fV]at h
 |b::e9,[],e,h=>by simp[fV]at h
 |b::e9,[_],e,h=>by simp[fV]at h
 |b::e9,k::v::us,e,h=>by
  simp only[fV,eU]at h;rcases h with rfl|h
  ·simp
  ·exact mh _ (LL h)
theorem Ut:∀{borns:List Nat} {kvs:List aj} {us:List Value},kvs.length=2*borns.length->us.length=kvs.length->∀{b:Nat},b∈borns->∃e∈fV borns us,e.born=b
 |[],_,_,_,_,b,ad=>by simp at ad
 |b3::e9,kvs,[],I,U,b,ad=>by rw[I]at U;simp at U
 |b3::e9,kvs,[_],I,U,b,ad=>by rw[I]at U;simp at U;omega
 |b3::e9,kvs,k::v::us,I,U,b,ad=>by
  rcases eU.1 ad with rfl|ad
  ·exact⟨⟨k,v,b⟩,by simp[fV],rfl⟩
  ·obtain⟨e,g1,g2⟩:=Ut (kvs:=kvs.drop 2) (us:=us) (borns:=e9) (by simp at I⊢;omega) (by simp at I U⊢;omega) ad;exact⟨e,by simp[fV,g1],g2⟩
theorem X0{w:World}{Z:bg}:∀{borns:List Nat} {kvs:List aj} {us:List Value},kvs.length=2*borns.length->borns.Pairwise (· < ·)->cZ w Z kvs us->∀{e:MapEntry},e∈fV borns us->∃k v,nM e.born borns kvs=some (.tuple [k,v])/\be w Z k e.key/\be w Z v e.val
 |[],_,_,_,_,_,e,h=>by simp[fV]at h
 |b::e9,[],us,I,_,_,e,_=>by simp at I
 |b::e9,[_],us,I,_,_,e,_=>by simp at I;omega
 |b::e9,k::v::kvs,us,I,U,ao,e,h=>by
  simp only[cZ]at ao;obtain⟨jO,Qs,rfl,fc,ki,tH,rfl,gh,qC⟩:=ao;simp only[fV,eU]at h;rw[nm]at U;rcases h with rfl|h
  ·exact⟨k,v,by simp[nM],fc,gh⟩
  ·obtain⟨bJ,v',g1,g2,g3⟩:=X0 (by simp at I;omega) U.2 qC h;have cG:b≠e.born:=Nat.ne_of_lt (U.1 _ (LL h));exact⟨bJ,v',by simp[nM,cG,g1],g2,g3⟩
theorem alI{P:cM}{C:fv}{st:bt}{a:Act}{w:World}{Z:bg}(aN:c7 C st a w Z){o:Oper}{it:Operand}(og:o.op= .next it false){d:Nat}(aD:o.dst=some d)(yZ:j8 C.N (some d)=true){v:aj}(az:be w Z v (a.eval it)){K:bt->Prop}(he:uf st d v K)
  {sq:Act->World->Prop} {Q:Exit->Act->World->Prop} (de:∀st' bq w' bo,K st'->c7 C st' bq w' bo->sq bq w'):o.wp P a w sq Q:=by
 unfold uf at he;split at he
 ·rename_i fL;split at he
  ·rename_i since seen last mk xl;split at he
   ·rename_i clock borns kvs zb;obtain⟨⟨rfl,rfl⟩,xj,pI⟩:=he;simp only[be]at az;obtain⟨bl,b1,b2⟩:=az;obtain⟨jk,us,el,aW,bj,bM,cL,c2⟩:=aN.good.box fL _ xl;rw[b1]at aW;cases aW;obtain⟨mb,ms,auI,m1,m2,m3,m4,m5⟩:=aN.good.box mk _ zb;simp only[j3,cZ]at c2;obtain⟨u,ck,hu,⟨auH,fc,rfl⟩,rfl⟩:=c2;rw[m1]at fc;cases fc;simp only[ky,hu]at cL;simp only[ky]at m4;simp only[j3]at m5;obtain⟨n,mU⟩:=apg (P:=P) (ty:=o.type) cL m4 (fun e he=>m5.2.lt _ (LL he));have nA:∀v' w',(Instr.next (.pointer (some ⟨bl,0,none⟩)) false o.type).run P w= .ok v' w'->(execOp a.eval o).run P w= .ok (.value v') w':=by intro v' w' iY;obtain⟨dst,op,ty,pos,Ro,xb⟩:=o;simp only at og iY;subst og;simp only[execOp,b2];exact FZ iY
    rcases mU with⟨I,U⟩|⟨e,I,U,ao⟩
    ·refine nj (nA _ _ U) ?_;rw[aD];refine de _ _ _ _ (xj fun b ad=>?_) ((aN.drawn n).put yZ (p:= .tuple [.bool false]) (by simp[be,cZ]));obtain⟨e,f1,f2⟩:=Ut m5.2.len (JI m5.1) ad;rw[<-f2];exact I e f1
    ·obtain⟨k,v,f1,f2,f3⟩:=X0 m5.2.len m5.2.inc m5.1 I;refine nj (nA _ _ ao) ?_;rw[aD];have xy:=((aN.drawn n).setBox (w':={w with drawn:=n,heap:=w.heap.setIfInBounds bl (.mapIter (some mb) last (seen++[e.born]).toArray last)}) xl b1 (cs':=[.hdi last (seen++[e.born]) last,.gmap mk]) (us:=us) (el:=el) rfl rfl rfl
      (fun j ag=>Array.getElem?_setIfInBounds_ne (lY ag)) Ψ (by simp[ky,hu,(Array.getElem?_eq_some_iff.1 cL).1]) (by simp only[j3,cZ];exact⟨_,_,hu,by simp only[be];exact⟨mb,m1,rfl⟩,rfl⟩))
     refine de _ _ _ _ (pI e.born k v f1 U) (xy.1.put yZ (p:= .tuple [.bool true,k,v]) ?_);simp only[be];refine⟨_,rfl,?_⟩;simp only[cZ];have lK:mj w Z {w with drawn:=n} Z:=⟨fun _ _ h=>⟨h,rfl⟩,fun _ _ _ h=>h,fun _ n u _ h=>⟨n,u,h,.inl ⟨rfl,rfl⟩⟩,fun _ _ _=>rfl,fun _ _ _ _ h=>h⟩;exact⟨_,_,rfl,by simp[be],_,_,rfl,zV xy.2 (zV lK f2),_,_,rfl,zV xy.2 (zV lK f3),rfl⟩
   ·exact he.elim
  ·exact he.elim
 ·exact he.elim
theorem UA{P:cM}{bH:List (Nat×dG)}(aC:fX P bH=true){C:fv}{st:bt}{a:Act}{w:World}{Z:bg}(aN:c7 C st a w Z){i:ev}{o:Oper}(ax:wB C.N bH i o=true){K:bt->Prop}(he:vs P st K i)
  {sq:Act->World->Prop} {Q:Exit->Act->World->Prop} (de:∀st' bq w' bo,K st'->c7 C st' bq w' bo->sq bq w'):o.wp P a w sq Q:=by
 cases i with
 |s i=>
  simp only[vs]at he;split at he
  ·rename_i c st' af;exact apj aC aN (by simpa only[wB]using ax) af he.1 fun bq w' bo h=>de _ _ _ _ he.2 h
  ·exact he.elim
 |next d x=>
  simp only[vs]at he;simp only[wB]at ax;split at ax
  ·rename_i it og;simp only[cv,dO,eA]at ax;obtain⟨⟨I,U⟩,ao⟩:=ax;exact alI aN og I (by simpa[j8]using U) (ez aN ao) he de
  ·cases ax
 |call d f xs=>
  simp only[vs]at he;simp only[wB]at ax;split at ax
  ·rename_i sB args CF og;simp only[cv,dO]at ax;obtain⟨⟨⟨I,U⟩,ao⟩,a7⟩:=ax;split at he
   ·rename_i n dv aO;have:=ez aN ao;rw[aO]at this;exact TX aN og I U this (Ft aN a7) he de
   ·exact he.elim
  ·cases ax
theorem PG{C:fv}{st:bt}{a:Act}{w:World}{Z:bg}(h:c7 C st a w Z){s:Nat}{b:Bool}(af:get s st.t= .bool b):c7 C {st with t:=put s (.bool b) st.t} a w Z:=by
 refine⟨h.good,h.fr,h.defers,h.size,fun i=>?_,h.new⟩;have:=h.slot i;simp only[kq];split
 ·rename_i e;subst e;rw[<-af];exact this
 ·exact this
theorem aca{C:fv}{st:bt}{a:Act}{w:World}{Z:bg}(h:c7 C st a w Z){ops:Array Oper}{j s:Nat}(ag:(ops.toList[j]?).bind (·.dst)=some s)(af:s<C.N):
  (∀b,get s st.t= .bool b->yielded ops a.tmps j=some b)/\(get s st.t= .tuple []->yielded ops a.tmps j=none):=by
 have bD:s<a.tmps.size:=by rw[h.size];exact af
 have sY:=h.slot s;have ij:a.tmps.getD s undef=a.tmps[s]:=by simp[Array.getD,bD]
 rw[ij]at sY;have aB:yielded ops a.tmps j=match a.tmps[s]with| .bool b=>some b|_=>none:=by unfold yielded;rw[vb]at ag;rw[ag];simp only[hE,Array.getElem?_eq_getElem bD];cases a.tmps[s]<;>rfl
 constructor
 ·intro b ad;rw[ad]at sY;simp only[be]at sY;rw[aB,sY]
 ·intro ad;rw[ad]at sY;simp only[be,cZ]at sY;obtain⟨us,ar,aE⟩:=sY;rw[aB,ar]
theorem UE{P:cM}{bH:List (Nat×dG)}(aC:fX P bH=true){C:fv}{ops:Array Oper}{K:bt->Prop}{Q:Exit->Act->World->Prop}(iL:∀st' bq w' bo,K st'->c7 C st' bq w' bo->Q .normal bq w'):
  ∀(gs:List dh) (os:List Oper) (k:Nat),(∀j,os[j]? =ops[k+j]?)->lb C.N bH ops.toList gs os=true->∀(st:bt) (a:Act) (w:World) (Z:bg),iI P gs st K->c7 C st a w Z->wpOps P ops Q (List.range' k gs.length) a w
 |[],[],k,_,_,st,a,w,Z,he,aN=>by simp only[List.length_nil,List.range'_zero,wpOps];exact iL _ _ _ _ he aN
 |[],_::_,_,_,ae,_,_,_,_,_,_=>by simp[lb]at ae
 |_::_,[],_,_,ae,_,_,_,_,_,_=>by simp[lb]at ae
 |g::gs,o::os,k,Bo,ae,st,a,w,Z,he,aN=>by
  simp only[lb,cv]at ae;have bB:ops[k]? =some o:=by simpa using(Bo 0).symm
  have Ef:∀j,os[j]? =ops[k+1+j]?:=fun j=>by have:=Bo (j+1);simpa[Nat.add_assoc,Nat.add_comm 1 j]using this
  simp only[mM,List.range'_succ,wpOps,bB];have bK:∀st' bq w' bo,iI P gs st' K->c7 C st' bq w' bo->wpOps P ops Q (List.range' (k+1) gs.length) bq w':=fun st' bq w' bo I U=>UE aC iL gs os (k+1) Ef ae.2 st' bq w' bo I U;obtain⟨n4,Vx⟩:=g;have aT:=ae.1;simp only[DF,cv]at aT;obtain⟨rO,pJ⟩:=aT;cases n4 with
  |none=>
   cases dF:o.guard with
   |some x=>simp[dF]at rO
   |none=>
    have hw:p4 o (yielded ops a.tmps)=true:=by simp[p4,dF]
    rw[if_pos hw];simp only[iI]at he;exact .inl (UA aC aN pJ he bK)
  |some Ac=>
   obtain⟨s,want⟩:=Ac;cases dF:o.guard with
   |none=>simp[dF]at rO
   |some x=>
    obtain⟨j,b3⟩:=x;simp only[dF,cv,dO,eA]at rO;obtain⟨⟨⟨⟨rfl,U⟩,ao⟩,a7⟩,b8⟩:=rO;obtain⟨lz,p3⟩:=aca aN U ao;simp only[iI]at he;split at he
    ·rename_i b ad;have aB:=lz b ad;by_cases e:b=want
     ·subst e;have hw:p4 o (yielded ops a.tmps)=true:=by simp[p4,dF,aB]
      rw[if_pos hw];exact .inl (UA aC (PG aN ad) pJ (he.1 rfl) bK)
     ·have hw:¬(p4 o (yielded ops a.tmps)=true):=by simp[p4,dF,aB,e]
      rw[if_neg hw];have gn:b= !want:=by cases b<;>cases want<;>simp at e⊢
      have nE:c7 C {st with t:=put s (.bool !want) st.t} a w Z:=PG aN (by rw[ad,gn]);rw[a7];exact bK _ _ _ _ (he.2 gn) (nE.put b8 (by simp[be,cZ,undef]))
    ·rename_i ad;have aB:=p3 ad;have hw:¬(p4 o (yielded ops a.tmps)=true):=by simp[p4,dF,aB]
     rw[if_neg hw,a7];exact bK _ _ _ _ he (aN.put b8 (by simp[be,cZ,undef]))
    ·exact he.elim
structure dp where
 t:Nat->aj
 b:aM->Option (List aj)
 e:aM->Option fU
 F:aM->Prop
structure lC where
 d:Option Nat
 p:aj
 bw:List (aM×List aj)
 ew:List (aM×fU)
 rm:Option aM
def jl{α:Type}(l:List (aM×α))(f:aM->Option α):aM->Option α:=fun k=>match look k l with|some x=>some x|none=>f k
def dp.do(A:dp)(x:lC):dp:={t:=fun i=>if x.d=some i then x.p else A.t i,b:=jl x.bw A.b,e:=jl x.ew A.e,F:=fun k=>A.F k/\x.rm≠some k}
structure lC.apart (x y:lC):Prop where
 d:∀i,x.d=some i->y.d≠some i
 b:∀k,(look k x.bw).isSome->look k y.bw=none
 e:∀k,(look k x.ew).isSome->look k y.ew=none
theorem dp.do_comm(A:dp){x y:lC}(h:x.apart y):(A.do x).do y=(A.do y).do x:=by
 simp only[dp.do,dp.mk.injEq];refine⟨?_,?_,?_,?_⟩
 ·funext i;by_cases I:x.d=some i
  ·have:=h.d i I;simp[I,this]
  ·simp[I]
 ·funext k;simp only[jl];cases ab:look k x.bw with
  |none=>cases look k y.bw<;>rfl
  |some u=>rw[h.b k (by simp[ab])]
 ·funext k;simp only[jl];cases ab:look k x.ew with
  |none=>cases look k y.ew<;>rfl
  |some u=>rw[h.e k (by simp[ab])]
 ·funext k;exact propext ⟨fun h=>⟨⟨h.1.1,h.2⟩,h.1.2⟩,fun h=>⟨⟨h.1.1,h.2⟩,h.1.2⟩⟩
def dJ(t:Nat->aj):dA->aj
 | .t i=>t i
 | .c p=>p
def td(b:aM->Option (List aj))(e:aM->Option fU)(agg:Bool)(sz:Nat):aj->Option (Prop×aj)
 | .rptr dN k n i f=>zW agg sz dN n i f (e k)
 | .ptr k off=>
  match b k with
  |some cs=>if agg then some (iq cs=true/\off+sz<=cs.length,.agg ((cs.drop off).take sz))else(cs[off]?).map fun p=>(iq cs=true,p)
  |none=>none
 | .eptr p=>if agg then some (isAgg sz p,p)else some (e7 p=true/\cells p=[p],p)
 |_=>none
def yB(t:Nat->aj):List aj->List (Nat×Nat×dA)->Option (Prop×List aj)
 |cs,[]=>some (True,cs)
 |cs,(off,sz,x)::r=>
  match yB t (pa cs off (cells (dJ t x))) r with
  |some (c,cs')=>some ((e7 (dJ t x)=true/\(cells (dJ t x)).length=sz/\off+sz<=cs.length)/\c,cs')
  |none=>none
def qO(t:Nat->aj)(b:aM->Option (List aj))(e:aM->Option fU):gk->Option (Prop×aj)
 | .mov x=>some (True,dJ t x)
 | .pick c x y=>Jd (dJ t c) (dJ t x) (dJ t y)
 | .load agg sz x=>td b e agg sz (dJ t x)
 | .faddr off agg sz x=>sE off agg sz (dJ t x)
 | .fld off agg sz x=>vx off agg sz (dJ t x)
 | .iaddr sz x i=>BC sz (dJ t x) (dJ t i)
 | .sidx x i=>JZ (dJ t x) (dJ t i)
 | .ssl x lo hi=>J5 (dJ t x) (lo.map (dJ t)) (hi.map (dJ t))
 | .lsl sz x lo hi=>IM sz (dJ t x) (lo.map (dJ t)) (hi.map (dJ t))
 | .bin op wr x y=>b9 op wr (dJ t x) (dJ t y)
 | .notB x=>I3 (dJ t x)
 | .neg x=>IZ (dJ t x)
 | .conv k x=>G2 k (dJ t x)
 | .ext i x=>AS i (dJ t x)
 | .len x=>BO (dJ t x)
 | .slen x=>FJ (dJ t x)
 | .build zero parts=>(yB t zero parts).map fun(c,cs)=>(c,.agg cs)
 | .nck x=>B1 (dJ t x)
 | .min2 x y=>IX (dJ t x) (dJ t y)
 | .mkf n xs=>some (True,.func n (xs.map (dJ t)))
 | .mget cj zero ok x k=>nN b cj zero ok (dJ t x) (dJ t k)
 | .ment x=>qy b (dJ t x)
 | .mlen x=>B0 b (dJ t x)
 | .beq neg dT x y=>jj neg dT (dJ t x) (dJ t y)
 | .max2 x y=>IT (dJ t x) (dJ t y)
 | .mkif n x=>some (True,.iface n (dJ t x))
 | .loadB agg sz x=>td b (fun _=>none) agg sz (dJ t x)
 | .mgetB cj zero ok x k=>nN b cj zero ok (dJ t x) (dJ t k)
 | .loadZ agg sz x=>DE agg sz (dJ t x)
structure mi (st:bt) (A:dp):Prop where
 t:∀i,get i st.t=A.t i
 b:∀k,look k st.b=A.b k
 e:∀k,look k st.e=A.e k
theorem jE{st:bt}{A:dp}(h:mi st A)(x:dA):cy st.t x=dJ A.t x:=by
 cases x
 ·exact h.t _
 ·rfl
theorem vu{st:bt}{A:dp}(h:mi st A):cy st.t=dJ A.t:=funext (jE h)
theorem akY{st:bt}{A:dp}(h:mi st A)(agg:Bool)(sz:Nat)(p:aj):nL st.b st.e agg sz p=td A.b A.e agg sz p:=by
 cases p<;>simp only[nL,td]
 ·rw[h.b];try rfl
 ·rw[h.e]
theorem akZ{st:bt}{A:dp}(h:mi st A)(agg:Bool)(sz:Nat)(p:aj):nL st.b [] agg sz p=td A.b (fun _=>none) agg sz p:=by
 cases p<;>simp only[nL,td]
 ·rw[h.b];try rfl
 ·rfl
theorem RR{st:bt}{A:dp}(h:mi st A):∀(parts:List (Nat×Nat×dA)) (cs:List aj),vp st.t cs parts=yB A.t cs parts
 |[],cs=>rfl
 |(off,sz,x)::r,cs=>by simp only[vp,yB,jE h,RR h r];try rfl
theorem abe{st:bt}{A:dp}(h:mi st A)(i:gk):hQ st i=qO A.t A.b A.e i:=by have ad:(fun k=>look k st.b)=A.b:=funext h.b;cases i<;>simp only[hQ,qO,vu h,akY h,akZ h,RR h,ad]
def hM:dA->List Nat
 | .t i=>[i]
 | .c _=>[]
def OY:Option dA->List Nat
 |some x=>hM x
 |none=>[]
def gk.looks:gk->List Nat
 | .mov x| .load _ _ x| .loadB _ _ x| .loadZ _ _ x| .faddr _ _ _ x| .fld _ _ _ x| .notB x| .neg x| .conv _ x| .ext _ x| .len x| .slen x| .nck x| .ment x| .mlen x| .mkif _ x=>hM x
 | .pick c x y=>hM c++hM x++hM y
 | .iaddr _ x i| .sidx x i=>hM x++hM i
 | .ssl x lo hi| .lsl _ x lo hi=>hM x++OY lo++OY hi
 | .bin _ _ x y| .min2 x y| .max2 x y| .beq _ _ x y=>hM x++hM y
 | .build _ cC=>cC.flatMap fun p=>hM p.2.2
 | .mkf _ xs=>xs.flatMap hM
 | .mget _ _ _ x k| .mgetB _ _ _ x k=>hM x++hM k
def eB.looks:eB->List Nat
 | .v _ i=>i.looks
 | .box _ _ x=>hM x
 | .alloc _ _ _=>[]
 | .store _ x y=>hM x++hM y
 | .storeE _ x y=>hM x++hM y
 | .bsl _ _ _ xs=>xs.flatMap hM
 | .app _ _ _ x y=>hM x++hM y
 | .bslm _ _ _ _ xs=>xs.flatMap hM
 | .mks _ _ _ _ _ x=>hM x
 | .appm _ _ _ _ x y=>hM x++hM y
 | .mkmap _ _=>[]
 | .mput _ x k y=>hM x++hM k++hM y
 | .range _ _ x=>hM x
def ev.looks:ev->List Nat
 | .s i=>i.looks
 | .call _ f xs=>hM f++xs.flatMap hM
 | .next _ x=>hM x
def dh.looks(g:dh):List Nat:=(match g.g with|some (s,_)=>[s]|none=>[])++g.i.looks
def rB(l:List Nat)(t dH:Nat->aj):Prop:= ∀i∈l,t i=dH i
theorem gP{t dH:Nat->aj}{x:dA}(h:rB (hM x) t dH):dJ t x=dJ dH x:=by
 cases x
 ·exact h _ (by simp[hM])
 ·rfl
theorem k7{l ba:List Nat}{t dH:Nat->aj}(h:rB (l++ba) t dH):rB l t dH/\rB ba t dH:=⟨fun i hi=>h i (by simp[hi]),fun i hi=>h i (by simp[hi])⟩
theorem Hc{t dH:Nat->aj}{x:Option dA}(h:rB (OY x) t dH):x.map (dJ t)=x.map (dJ dH):=by
 cases x
 ·rfl
 ·simp[gP h]
theorem RQ{t dH:Nat->aj}:∀{parts:List (Nat×Nat×dA)} {cs:List aj},rB (parts.flatMap fun p=>hM p.2.2) t dH->yB t cs parts=yB dH cs parts
 |[],cs,_=>rfl
 |(off,sz,x)::r,cs,h=>by simp only[List.flatMap_cons]at h;obtain⟨I,U⟩:=k7 h;simp only[yB,gP I,RQ U]
theorem IQ{t dH:Nat->aj}:∀{xs:List dA},rB (xs.flatMap hM) t dH->xs.map (dJ t)=xs.map (dJ dH)
 |[],_=>rfl
 |x::xs,h=>by simp only[List.flatMap_cons]at h;obtain⟨I,U⟩:=k7 h;simp[gP I,IQ U]
def gk.isLoad:gk->Bool
 | .load _ _ _=>true
 | .loadB _ _ _=>true
 | .mgetB _ _ _ _ _=>true
 | .mget _ _ _ _ _=>true
 | .ment _=>true
 | .mlen _=>true
 |_=>false
theorem aqk{t dH:Nat->aj}{b b3:aM->Option (List aj)}{e fJ:aM->Option fU}{i:gk}(h:rB i.looks t dH)(ad:i.isLoad=false):qO t b e i=qO dH b3 fJ i:=by
 cases i<;>simp only[gk.looks]at h<;>simp only[qO];case load agg sz x=>simp[gk.isLoad]at ad
 case loadB agg sz x=>simp[gk.isLoad]at ad
 case pick c x y=>obtain⟨I,ao⟩:=k7 h;obtain⟨I,U⟩:=k7 I;rw[gP I,gP U,gP ao]
 case iaddr=>obtain⟨I,U⟩:=k7 h;rw[gP I,gP U]
 case sidx=>obtain⟨I,U⟩:=k7 h;rw[gP I,gP U]
 case ssl=>obtain⟨I,ao⟩:=k7 h;obtain⟨I,U⟩:=k7 I;rw[gP I,Hc U,Hc ao]
 case lsl=>obtain⟨I,ao⟩:=k7 h;obtain⟨I,U⟩:=k7 I;rw[gP I,Hc U,Hc ao]
 case bin=>obtain⟨I,U⟩:=k7 h;rw[gP I,gP U]
 case min2=>obtain⟨I,U⟩:=k7 h;rw[gP I,gP U]
 case build=>rw[RQ h]
 case mkf=>rw[IQ h]
 case mget=>simp[gk.isLoad]at ad
 case mgetB=>simp[gk.isLoad]at ad
 case ment=>simp[gk.isLoad]at ad
 case mlen=>simp[gk.isLoad]at ad
 case max2=>obtain⟨I,U⟩:=k7 h;rw[gP I,gP U]
 case beq=>obtain⟨I,U⟩:=k7 h;rw[gP I,gP U]
 all_goals rw[gP h]
end
end Go.Pv
