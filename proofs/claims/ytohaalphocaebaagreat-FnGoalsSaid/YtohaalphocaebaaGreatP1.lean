/- Regions that draw their order, I: abstract states as functions, effects, and what an instruction does to them. -/
import Derived.WalkKit
import Derived.Orders
import Derived.KernelRfl
import Derived.IntWalk
import Derived.Laws.StructEq
import Derived.ChangeKeysEq
import Derived.MapKept
import Derived.ArgAppend
import Derived.Laws.OwnMore
set_option linter.all false
set_option maxHeartbeats 4000000
set_option maxRecDepth 4000
namespace Go
theorem bf{p:Prop}(h:p:=by simp only[aN,aA,aB,bV,b3];exact aE):p:=h
theorem bi{p:Prop}(h:p:=by first|exact cd _|exact cd ‹_› _):p:=h
theorem bv{p:Prop}(h:p:=by unfold bK;exact aE):p:=h
theorem ci{p:Prop}(h:p:=by simp[aN,aA,aB]):p:=h
theorem co{p:Prop}(h:p:=by kernel_rfl):p:=h
theorem dl{p:Prop}(h:p:=by simp[-bh,-be,inObs,bK,Pv.look]):p:=h
theorem d6{p:Prop}(h:p:=by simp[inObs,Pv.look,aN,aA,aB]):p:=h
theorem d7{p:Prop}(h:p:=by simp[aJ]):p:=h
theorem d8{p:Prop}(h:p:=by simp;omega):p:=h
theorem d9{p:Prop}(h:p:=by first|exact ic _|exact ic ‹_› _):p:=h
theorem f8{p:Prop}(h:p:=by simp[aP,aJ,inObs,Pv.look]):p:=h
theorem gc{p:Prop}(h:p:=by simp only[ga,aA,aB,bV,b3];exact aE):p:=h
theorem ge{p:Prop}(h:p:=by simp only[ez,aA,aB,ff,eK,gy,hB,hC,hD,bV,b3];exact aE):p:=h
theorem gt{p:Prop}(h:p:=by simp[fresh,aP,aJ,cx,inObs,Pv.look,eY]):p:=h
theorem g8{p:Prop}(h:p:=by simp[fresh,aP,aJ,et,inObs,Pv.look,eY]):p:=h
theorem Ω{p:Prop}(h:p:=by omega):p:=h
theorem Ψ{p:Prop}(h:p:=by simp):p:=h
end Go
open Array renaming getElem?_toList->tN
open BitVec renaming ofInt->lS
open Bool renaming and_eq_true->ct,eq_iff_iff->pN,false_eq_true->gF,not_eq_true'->qo
open ByteArray renaming ext->anh,size->arA
open Go renaming Program->cG,TypeId->gG
open Go.ByteArray renaming toList_eq->ani
open Go.IntKind renaming i64->mj
open Go.IntWalk renaming i64_in->ml
open Go.Op renaming bytesLess->ht
open Go.Region renaming wanted->oU
open Go.Result renaming andThen_ok->fO
open Go.Sem renaming run_bind->fH,run_pure->gq
open Go.Value renaming cells->oV,ownBlock->oc
open Go.Value.pointer renaming injEq->arH
open Go.World.grownBy renaming refl->anl
open List renaming all_eq_true->gH,cons_append->bV,getElem?_eq_getElem->cr,getElem?_eq_none->qp,getElem?_eq_some_iff->fp,length_append->oW,length_cons->oe,length_drop->sB,map_cons->eO,map_nil->hn,mem_append->h9,mem_cons->fI,mem_cons_of_mem->og,mem_filter->iA,mem_map->ia,mem_singleton->kg,pairwise_cons->mS,take->oY,take_length->oZ,take_of_length_le->hv
open List.cons renaming injEq->yO
open Nat renaming add_mul->o0,le_refl->eC,le_trans->gZ,mul_le_mul_right->qq
open Ne renaming symm->k5
open Option renaming bind_some->hU,isSome_iff_exists->fP,isSome_none->iL,map_eq_some_iff->gr,map_some->nE
open Option.some renaming injEq->dy
open Prod.mk renaming injEq->jE
open _root_ renaming False->eN,UInt8->c4,beq_iff_eq->dM,congrArg->e4,decide_eq_true_eq->eF
namespace Go.Pv
section
open Go Go.RowKit
inductive aL where
 |loc (s:Nat)
 |obj (n:Nat)
 deriving DecidableEq,Inhabited
inductive Bm where
 |no
 |nil
 |own (k:aL)
 |tr (k:aL) (j:Nat)
 |lo (k:aL)
 deriving DecidableEq,Inhabited
inductive ai where
 |junk
 |int (k:IntKind) (n:Int)
 |bool (b:Bool)
 |str (s:List c4)
 |slice (sz:Nat) (tag:Bm) (xs:List ai)
 |agg (cs:List ai)
 |ptr (key:aL) (off:Nat)
 |eptr (x:ai)
 |iface (t:Nat) (x:ai)
 |nilp
 |tuple (ba:List ai)
 |func (f:Nat) (dk:List ai)
 |gmap (key:aL)
 |row (sz:Nat) (key:aL) (n:Nat)
 |rptr (sz:Nat) (key:aL) (n i f:Nat)
 |hdm (clock:Nat) (borns:List Nat)
 |hdi (since:Nat) (seen:List Nat) (last:Nat)
 |cst (v:Value)
 deriving Inhabited
structure bc where
 A:Nat->Nat->Prop
 bx:aL->Option Nat
 ow:aL->Option (Nat×Value)
 tr:aL->Nat->Nat->Prop
def lim:Nat:=68719476736
def lK(w:World)(A:Nat->Nat->Prop)(b:Nat):Nat->List Value->Prop
 |_,[]=>True
 |off,u::us=>(A b off/\w.cell? ⟨b,off,none⟩=some u)/\lK w A b (off+1) us
def shape(w:World)(b:Nat):Option (Nat×gG×(Nat×Nat)):=
 match w.heap[b]? with
 |some (.cells cur el fz)=>some (cur.size,el,fz)
 |_=>none
theorem wO{w w':World}{b:Nat}(h:w'.heap[b]? =w.heap[b]?):shape w' b=shape w b:=by unfold shape;rw[h]
mutual
def gf(t:Bool)(w:World)(A:Nat->Nat->Prop)(F:Nat->Prop):ai->Value->Prop
 | .int k n,v=>v= .int k n
 | .bool b,v=>v= .bool b
 | .str s,v=>v= .string ⟨s.toArray⟩/\s.length<=lim
 | .slice sz _ xs,v=> ∃a cap,v= .slice a xs.length cap/\xs.length<=cap/\(cap<=maxLen/\xs.length<=lim)/\
   (xs=[]\/ ∃b off us G,a=some ⟨b,off,none⟩/\F b/\(∀c,G c->F c/\(t=true->c≠b))/\lK w A b off us/\(t=true->off=0/\0<us.length/\∃el,shape w b=some (cap*sz,el,(0,0)))/\uk t w A G sz xs us)
 | .agg cs,v=> ∃us:Array Value,v= .agg us/\um t w A F cs us.toList
 |_,_=>eN
def um(t:Bool)(w:World)(A:Nat->Nat->Prop)(F:Nat->Prop):List ai->List Value->Prop
 |[],us=>us=[]
 |c::cs,us=> ∃u ch ib iB,us=u::ch/\((∀b,ib b->F b)/\(∀b,iB b->F b)/\(t=true->∀b,ib b->¬iB b))/\(gf t w A ib c u/\u.oneCell'=true)/\um t w A iB cs ch
def uk(t:Bool)(w:World)(A:Nat->Nat->Prop)(F:Nat->Prop)(sz:Nat):List ai->List Value->Prop
 |[],us=>us=[]
 |x::xs,us=> ∃u ch ib iB,us=u.cells.toList++ch/\((∀b,ib b->F b)/\(∀b,iB b->F b)/\(t=true->∀b,ib b->¬iB b))/\(gf t w A ib x u/\u.cells.size=sz/\(∀c∈u.cells.toList,c.oneCell'=true))/\uk t w A iB sz xs ch
end
mutual
def bd(w:World)(Z:bc):ai->Value->Prop
 | .junk,_=>True
 | .int k n,v=>v= .int k n
 | .bool b,v=>v= .bool b
 | .str s,v=>v= .string ⟨s.toArray⟩/\s.length<=lim
 | .slice sz tag xs,v=>
   (∃a cap,v= .slice a xs.length cap/\xs.length<=cap/\(cap<=maxLen/\xs.length<=lim)/\(xs=[]\/ ∃b off us,a=some ⟨b,off,none⟩/\lK w Z.A b off us/\dx w Z sz xs us))/\
   (tag= .nil->v= .slice none 0 0)/\
   (∀g,tag= .own g->∃n u,Z.ow g=some (n,u)/\xs.length<=n/\(xs.length=n->v=u))/\
   (∀k j,tag= .tr k j->gf true w Z.A (Z.tr k j) (.slice sz tag xs) v)/\(∀k,tag= .lo k->gf false w Z.A (Z.tr k 0) (.slice sz tag xs) v)
 | .agg cs,v=> ∃us:Array Value,v= .agg us/\dn w Z cs us.toList
 | .ptr key off,v=> ∃b,Z.bx key=some b/\v= .pointer (some ⟨b,off,none⟩)
 | .eptr x,v=> ∃b off u,v= .pointer (some ⟨b,off,none⟩)/\bd w Z x u/\lK w Z.A b off u.cells.toList
 | .iface t x,v=> ∃u,v= .iface t u/\bd w Z x u
 | .nilp,v=>v= .pointer none
 | .tuple ba,v=> ∃us:Array Value,v= .tuple us/\cR w Z ba us.toList
 | .func f dk,v=> ∃us:Array Value,v= .func (.func f) #[] us/\cR w Z dk us.toList
 | .gmap key,v=> ∃b,Z.bx key=some b/\v= .map (some b)
 | .row _ key n,v=>(∃b cap,v= .slice (some ⟨b,0,none⟩) n cap)/\n<=lim/\∃n' u,Z.ow key=some (n',u)/\n<=n'/\(n=n'->v=u)
 | .rptr sz key n i f,v=>(∃b o,v= .pointer (some ⟨b,o,none⟩))/\i<n/\∃n' u,Z.ow key=some (n',u)/\n<=n'/\(n=n'->∃b,u.ownBlock=some b/\v= .pointer (some ⟨b,i*sz+f,none⟩))
 | .hdm _ _,_=>eN
 | .hdi _ _ _,_=>eN
 | .cst c,v=>v=c
def dn(w:World)(Z:bc):List ai->List Value->Prop
 |[],us=>us=[]
 |c::cs,us=> ∃u ch,us=u::ch/\(bd w Z c u/\u.oneCell'=true)/\dn w Z cs ch
def cR(w:World)(Z:bc):List ai->List Value->Prop
 |[],us=>us=[]
 |c::cs,us=> ∃u ch,us=u::ch/\bd w Z c u/\cR w Z cs ch
def dx(w:World)(Z:bc)(sz:Nat):List ai->List Value->Prop
 |[],us=>us=[]
 |x::xs,us=> ∃u ch,us=u.cells.toList++ch/\(bd w Z x u/\u.cells.size=sz/\(∀c∈u.cells.toList,c.oneCell'=true))/\dx w Z sz xs ch
end
theorem Gj{w w':World}{A gg:Nat->Nat->Prop}{b:Nat}(bj:∀b o,A b o->gg b o/\w'.cell? ⟨b,o,none⟩=w.cell? ⟨b,o,none⟩):
  ∀(us:List Value) (off:Nat),lK w A b off us->lK w' gg b off us
 |[],_,_=>trivial
 |_::us,off,h=>⟨⟨(bj _ _ h.1.1).1,(bj _ _ h.1.1).2.trans h.1.2⟩,Gj bj us (off+1) h.2⟩
mutual
theorem Ff{t:Bool}{w w':World}{A gg:Nat->Nat->Prop}(bj:∀b o,A b o->gg b o/\w'.cell? ⟨b,o,none⟩=w.cell? ⟨b,o,none⟩)(af:∀b o,A b o->shape w' b=shape w b):∀(p:ai) (F o2:Nat->Prop) (v:Value),(∀b,F b->o2 b)->gf t w A F p v->gf t w' gg o2 p v
 | .int k n,_,_,_,_,h=>by simp only[gf]at h⊢;exact h
 | .bool b,_,_,_,_,h=>by simp only[gf]at h⊢;exact h
 | .str s,_,_,_,_,h=>by simp only[gf]at h⊢;exact h
 | .slice sz tag xs,F,o2,v,gw,h=>by
  simp only[gf]at h⊢;obtain⟨a,cap,J,U,al,a1⟩:=h;refine⟨a,cap,J,U,al,?_⟩;rcases a1 with a1|⟨b,off,us,G,ao,aF,bM,dt,hO,hI⟩
  ·exact .inl a1
  ·refine .inr ⟨b,off,us,G,ao,gw _ aF,fun c aq=>⟨gw _ (bM c aq).1,(bM c aq).2⟩,Gj bj _ _ dt,fun aI=>?_,Rv bj af xs G G _ (fun _ h=>h) hI⟩;obtain⟨f1,f2,el,f3⟩:=hO aI;refine⟨f1,f2,el,?_⟩;cases us with
   |nil=>simp at f2
   |cons u us=>rw[af b off dt.1.1];exact f3
 | .agg cs,F,o2,v,gw,h=>by simp only[gf]at h⊢;obtain⟨us,J,U⟩:=h;exact⟨us,J,Rw bj af cs F o2 _ gw U⟩
 | .junk,_,_,_,_,h=>by simp[gf]at h
 | .ptr _ _,_,_,_,_,h=>by simp[gf]at h
 | .eptr _,_,_,_,_,h=>by simp[gf]at h
 | .iface _ _,_,_,_,_,h=>by simp[gf]at h
 | .nilp,_,_,_,_,h=>by simp[gf]at h
 | .tuple _,_,_,_,_,h=>by simp[gf]at h
 | .func _ _,_,_,_,_,h=>by simp[gf]at h
 | .gmap _,_,_,_,_,h=>by simp[gf]at h
 | .row _ _ _,_,_,_,_,h=>by simp[gf]at h
 | .rptr _ _ _ _ _,_,_,_,_,h=>by simp[gf]at h
 | .hdm _ _,_,_,_,_,h=>by simp[gf]at h
 | .hdi _ _ _,_,_,_,_,h=>by simp[gf]at h
 | .cst _,_,_,_,_,h=>by simp[gf]at h
theorem Rw{t:Bool}{w w':World}{A gg:Nat->Nat->Prop}(bj:∀b o,A b o->gg b o/\w'.cell? ⟨b,o,none⟩=w.cell? ⟨b,o,none⟩)(af:∀b o,A b o->shape w' b=shape w b):∀(cs:List ai) (F o2:Nat->Prop) (us:List Value),(∀b,F b->o2 b)->um t w A F cs us->um t w' gg o2 cs us
 |[],_,_,_,_,h=>by simp only[um]at h⊢;exact h
 |c::cs,F,o2,us,gw,h=>by simp only[um]at h⊢;obtain⟨u,ch,ib,iB,J,⟨U,al,a1⟩,⟨bW,dd⟩,dW⟩:=h;exact⟨u,ch,ib,iB,J,⟨fun b ab=>gw _ (U b ab),fun b ab=>gw _ (al b ab),a1⟩,⟨Ff bj af c ib ib u (fun _ h=>h) bW,dd⟩,Rw bj af cs iB iB ch (fun _ h=>h) dW⟩
theorem Rv{t:Bool}{w w':World}{A gg:Nat->Nat->Prop}(bj:∀b o,A b o->gg b o/\w'.cell? ⟨b,o,none⟩=w.cell? ⟨b,o,none⟩)(af:∀b o,A b o->shape w' b=shape w b){sz:Nat}:∀(cs:List ai) (F o2:Nat->Prop) (us:List Value),(∀b,F b->o2 b)->uk t w A F sz cs us->uk t w' gg o2 sz cs us
 |[],_,_,_,_,h=>by simp only[uk]at h⊢;exact h
 |c::cs,F,o2,us,gw,h=>by simp only[uk]at h⊢;obtain⟨u,ch,ib,iB,J,⟨U,al,a1⟩,⟨bW,dd⟩,dW⟩:=h;exact⟨u,ch,ib,iB,J,⟨fun b ab=>gw _ (U b ab),fun b ab=>gw _ (al b ab),a1⟩,⟨Ff bj af c ib ib u (fun _ h=>h) bW,dd⟩,Rv bj af cs iB iB ch (fun _ h=>h) dW⟩
end
mutual
def aJ(S:aL->Prop):ai->Prop
 | .slice _ tag xs=>(match tag with| .own k=>S k| .tr k _=>S k| .lo k=>S k|_=>True)/\aP S xs
 | .agg cs=>aP S cs
 | .ptr k _=>S k
 | .eptr x=>aJ S x
 | .iface _ x=>aJ S x
 | .tuple ba=>aP S ba
 | .func _ dk=>aP S dk
 | .gmap k=>S k
 | .row _ k _=>S k
 | .rptr _ k _ _ _=>S k
 |_=>True
def aP(S:aL->Prop):List ai->Prop
 |[]=>True
 |x::xs=>aJ S x/\aP S xs
end
mutual
theorem we{S T:aL->Prop}(h:∀k,S k->T k):∀p:ai,aJ S p->aJ T p
 | .junk,_=>by simp[aJ]
 | .int _ _,_=>by simp[aJ]
 | .bool _,_=>by simp[aJ]
 | .str _,_=>by simp[aJ]
 | .slice sz tag xs,bL=>by simp only[aJ]at bL⊢;exact⟨by cases tag<;>first|trivial|exact h _ bL.1,j2 h xs bL.2⟩
 | .agg cs,bL=>by simp only[aJ]at bL⊢;exact j2 h cs bL
 | .ptr k _,bL=>by simp only[aJ]at bL⊢;exact h _ bL
 | .eptr x,bL=>by simp only[aJ]at bL⊢;exact we h x bL
 | .iface _ x,bL=>by simp only[aJ]at bL⊢;exact we h x bL
 | .nilp,_=>by simp[aJ]
 | .tuple ba,bL=>by simp only[aJ]at bL⊢;exact j2 h ba bL
 | .func _ dk,bL=>by simp only[aJ]at bL⊢;exact j2 h dk bL
 | .gmap k,bL=>by simp only[aJ]at bL⊢;exact h _ bL
 | .row _ k _,bL=>by simp only[aJ]at bL⊢;exact h _ bL
 | .rptr _ k _ _ _,bL=>by simp only[aJ]at bL⊢;exact h _ bL
 | .hdm _ _,_=>by simp[aJ]
 | .hdi _ _ _,_=>by simp[aJ]
 | .cst _,_=>by simp[aJ]
theorem j2{S T:aL->Prop}(h:∀k,S k->T k):∀cz:List ai,aP S cz->aP T cz
 |[],_=>by simp[aP]
 |x::xs,bL=>by simp only[aP]at bL⊢;exact⟨we h x bL.1,j2 h xs bL.2⟩
end
mutual
theorem Gg:∀p:ai,aJ (fun _=>True) p
 | .junk=>by simp[aJ]
 | .int _ _=>by simp[aJ]
 | .bool _=>by simp[aJ]
 | .str _=>by simp[aJ]
 | .slice sz tag xs=>by simp only[aJ];exact⟨by cases tag<;>trivial,uI xs⟩
 | .agg cs=>by simp only[aJ];exact uI cs
 | .ptr k _=>by simp[aJ]
 | .eptr x=>by simp only[aJ];exact Gg x
 | .iface _ x=>by simp only[aJ];exact Gg x
 | .nilp=>by simp[aJ]
 | .tuple ba=>by simp only[aJ];exact uI ba
 | .func _ dk=>by simp only[aJ];exact uI dk
 | .gmap k=>by simp[aJ]
 | .row _ k _=>by simp[aJ]
 | .rptr _ k _ _ _=>by simp[aJ]
 | .hdm _ _=>by simp[aJ]
 | .hdi _ _ _=>by simp[aJ]
 | .cst _=>by simp[aJ]
theorem uI:∀cz:List ai,aP (fun _=>True) cz
 |[]=>by simp[aP]
 |x::xs=>by simp only[aP];exact⟨Gg x,uI xs⟩
end
def fy:List Nat->List Value->List MapEntry
 |b::eP,k::v::r=>⟨k,v,b⟩::fy eP r
 |_,_=>[]
def jP(cs:List ai)(us:Array Value)(el:gG):Obj:=
 match cs with
 | .hdm clock borns::_=>.map (fy borns us.toList).toArray clock
 | .hdi since seen last::_=>.mapIter (match us.toList with|[.map m]=>m|_=>none) since seen.toArray last
 |_=>.cells us el
structure ag8 (clock:Nat) (borns:List Nat) (r:List ai):Prop where
 len:r.length=2*borns.length
 inc:borns.Pairwise (· < ·)
 lt:∀b∈borns,b<clock
def jn(w:World)(Z:bc)(cs:List ai)(us:List Value):Prop:=
 match cs with
 | .hdm clock borns::r=>cR w Z r us/\ag8 clock borns r
 | .hdi _ _ _::r=>cR w Z r us
 |cs=>dn w Z cs us
def hS:List ai->Bool
 | .hdm _ _::_=>false
 | .hdi _ _ _::_=>false
 |_=>true
theorem AN{w:World}{Z:bc}{cs:List ai}{us:List Value}(h:dn w Z cs us):hS cs=true:=by
 unfold hS;split
 ·simp only[dn,bd]at h;obtain⟨_,_,_,⟨h,_⟩,_⟩:=h;exact h.elim
 ·simp only[dn,bd]at h;obtain⟨_,_,_,⟨h,_⟩,_⟩:=h;exact h.elim
 ·rfl
theorem uU{cs:List ai}(h:hS cs=true)(us:Array Value)(el:gG):jP cs us el= .cells us el:=by
 unfold hS at h;unfold jP;split at h<;>first|cases h|skip
 rfl
theorem uV{w:World}{Z:bc}{cs:List ai}(h:hS cs=true)(us:List Value):jn w Z cs us=dn w Z cs us:=by
 unfold hS at h;unfold jn;split at h<;>first|cases h|skip
 rfl
structure oi (S:aL->Prop) (w:World) (Z:bc) (w':World) (bq:bc):Prop where
 A:∀b o,Z.A b o->bq.A b o/\w'.cell? ⟨b,o,none⟩=w.cell? ⟨b,o,none⟩
 bx:∀k b,S k->Z.bx k=some b->bq.bx k=some b
 ow:∀g n u,S g->Z.ow g=some (n,u)->∃n' e3,bq.ow g=some (n',e3)/\(n'=n/\e3=u\/n<n')
 sh:∀b o,Z.A b o->shape w' b=shape w b
 tr:∀k j b,S k->Z.tr k j b->bq.tr k j b
abbrev lx:=oi (fun _=>True)
mutual
theorem u3{S:aL->Prop}{w w':World}{Z bq:bc}(aw:oi S w Z w' bq):∀(p:ai) (v:Value),aJ S p->bd w Z p v->bd w' bq p v
 | .junk,_,_,_=>by simp[bd]
 | .int k n,_,_,h=>by simp only[bd]at h⊢;exact h
 | .bool b,_,_,h=>by simp only[bd]at h⊢;exact h
 | .str s,_,_,h=>by simp only[bd]at h⊢;exact h
 | .slice sz tag xs,v,ad,h=>by
  simp only[bd,aJ]at h ad⊢;obtain⟨⟨a,cap,J,U,al,a1⟩,bW,dd,nQ,sW⟩:=h;refine⟨⟨a,cap,J,U,al,?_⟩,bW,fun g aW=>?_,fun k j nR=>?_,fun k nR=>?_⟩
  ·rcases a1 with a1|⟨b,off,us,a1,dd,dW⟩
   ·exact .inl a1
   ·exact .inr ⟨b,off,us,a1,Gj aw.A _ _ dd,Hg aw sz xs us ad.2 dW⟩
  ·obtain⟨n,u,ao,aF,bM⟩:=dd g aW;subst aW;obtain⟨n',e3,f1,f2⟩:=aw.ow g n u ad.1 ao;refine⟨n',e3,f1,?_⟩;rcases f2 with⟨rfl,rfl⟩|f2
   ·exact⟨aF,bM⟩
   ·exact⟨Ω,fun e=>Ω⟩
  ·have:=nQ k j nR;subst nR;exact Ff aw.A aw.sh _ _ _ _ (fun b=>aw.tr k j b ad.1) this
  ·have:=sW k nR;subst nR;exact Ff aw.A aw.sh _ _ _ _ (fun b=>aw.tr k 0 b ad.1) this
 | .agg cs,v,ad,h=>by simp only[bd,aJ]at h ad⊢;obtain⟨us,J,U⟩:=h;exact⟨us,J,Hj aw cs _ ad U⟩
 | .ptr key off,v,ad,h=>by simp only[bd,aJ]at h ad⊢;obtain⟨b,J,U⟩:=h;exact⟨b,aw.bx _ _ ad J,U⟩
 | .iface t x,v,ad,h=>by simp only[bd,aJ]at h ad⊢;obtain⟨u,J,U⟩:=h;exact⟨u,J,u3 aw x u ad U⟩
 | .eptr x,v,ad,h=>by simp only[bd,aJ]at h ad⊢;obtain⟨b,off,u,J,U,al⟩:=h;exact⟨b,off,u,J,u3 aw x u ad U,Gj aw.A _ _ al⟩
 | .nilp,_,_,h=>by simp only[bd]at h⊢;exact h
 | .tuple ba,v,ad,h=>by simp only[bd,aJ]at h ad⊢;obtain⟨us,J,U⟩:=h;exact⟨us,J,yu aw ba _ ad U⟩
 | .func f dk,v,ad,h=>by simp only[bd,aJ]at h ad⊢;obtain⟨us,J,U⟩:=h;exact⟨us,J,yu aw dk _ ad U⟩
 | .gmap key,v,ad,h=>by simp only[bd,aJ]at h ad⊢;obtain⟨b,J,U⟩:=h;exact⟨b,aw.bx _ _ ad J,U⟩
 | .row sz key n,v,ad,h=>by
  simp only[bd,aJ]at h ad⊢;obtain⟨J,U,n',u,al,a1,bW⟩:=h;obtain⟨gj,jD,f1,f2⟩:=aw.ow key n' u ad al;refine⟨J,U,gj,jD,f1,?_⟩;rcases f2 with⟨rfl,rfl⟩|f2
  ·exact⟨a1,bW⟩
  ·exact⟨Ω,fun e=>Ω⟩
 | .rptr sz key n i f,v,ad,h=>by
  simp only[bd,aJ]at h ad⊢;obtain⟨J,U,n',u,al,a1,bW⟩:=h;obtain⟨gj,jD,f1,f2⟩:=aw.ow key n' u ad al;refine⟨J,U,gj,jD,f1,?_⟩;rcases f2 with⟨rfl,rfl⟩|f2
  ·exact⟨a1,bW⟩
  ·exact⟨Ω,fun e=>Ω⟩
 | .hdm _ _,_,_,h=>by simp only[bd]at h
 | .hdi _ _ _,_,_,h=>by simp only[bd]at h
 | .cst c,_,_,h=>by simp only[bd]at h⊢;exact h
theorem Hj{S:aL->Prop}{w w':World}{Z bq:bc}(aw:oi S w Z w' bq):∀(cs:List ai) (us:List Value),aP S cs->dn w Z cs us->dn w' bq cs us
 |[],_,_,h=>by simp only[dn]at h⊢;exact h
 |c::cs,us,ad,h=>by simp only[dn,aP]at h ad⊢;obtain⟨u,ch,J,U,al⟩:=h;exact⟨u,ch,J,⟨u3 aw c u ad.1 U.1,U.2⟩,Hj aw cs ch ad.2 al⟩
theorem yu{S:aL->Prop}{w w':World}{Z bq:bc}(aw:oi S w Z w' bq):∀(cs:List ai) (us:List Value),aP S cs->cR w Z cs us->cR w' bq cs us
 |[],_,_,h=>by simp only[cR]at h⊢;exact h
 |c::cs,us,ad,h=>by simp only[cR,aP]at h ad⊢;obtain⟨u,ch,J,U,al⟩:=h;exact⟨u,ch,J,u3 aw c u ad.1 U,yu aw cs ch ad.2 al⟩
theorem Hg{S:aL->Prop}{w w':World}{Z bq:bc}(aw:oi S w Z w' bq)(sz:Nat):∀(xs:List ai) (us:List Value),aP S xs->dx w Z sz xs us->dx w' bq sz xs us
 |[],_,_,h=>by simp only[dx]at h⊢;exact h
 |x::xs,us,ad,h=>by simp only[dx,aP]at h ad⊢;obtain⟨u,ch,J,⟨U,al,a1⟩,bW⟩:=h;exact⟨u,ch,J,⟨u3 aw x u ad.1 U,al,a1⟩,Hg aw sz xs ch ad.2 bW⟩
end
theorem Wv{S:aL->Prop}{w w':World}{Z bq:bc}(aw:oi S w Z w' bq){cs:List ai}{us:List Value}(ad:aP S cs)(h:jn w Z cs us):jn w' bq cs us:=by
 unfold jn at h⊢;split
 ·simp only[aP]at ad;exact⟨yu aw _ _ ad.2 h.1,h.2⟩
 ·simp only[aP]at ad;exact yu aw _ _ ad.2 h
 ·rename_i J U;split at h
  ·exact absurd rfl (J _ _ _)
  ·exact absurd rfl (U _ _ _ _)
  ·exact Hj aw _ _ ad h
section
variable {w w':World} {Z bq:bc} (aw:lx w Z w' bq)
include aw
theorem yv{p:ai}{v:Value}(h:bd w Z p v):bd w' bq p v:=u3 aw p v (Gg p) h
theorem WA{p:List ai}{v:List Value}(h:dn w Z p v):dn w' bq p v:=Hj aw p v (uI p) h
theorem Hm{p:List ai}{v:List Value}(h:cR w Z p v):cR w' bq p v:=yu aw p v (uI p) h
theorem qj{p:List ai}{v:List Value}(h:jn w Z p v):jn w' bq p v:=Wv aw (uI p) h
theorem AK{sz:Nat}{p:List ai}{v:List Value}(h:dx w Z sz p v):dx w' bq sz p v:=Hg aw sz p v (uI p) h
end
end
section
open Go Go.RowKit
def get(k:Nat):List (Nat×ai)->ai
 |[]=>.junk
 |(i,p)::r=>if i=k then p else get k r
def put(k:Nat)(p:ai):List (Nat×ai)->List (Nat×ai)
 |[]=>[(k,p)]
 |(i,q)::r=>if i=k then(i,p)::r else(i,q)::put k p r
def look{α:Type}(k:aL):List (aL×α)->Option α
 |[]=>none
 |(i,p)::r=>if i=k then some p else look k r
def cy{α:Type}(k:aL)(p:α):List (aL×α)->List (aL×α)
 |[]=>[(k,p)]
 |(i,q)::r=>if i=k then(i,p)::r else(i,q)::cy k p r
theorem pg(k j:Nat)(p:ai):∀l,get j (put k p l)=if k=j then p else get j l
 |[]=>by simp[get,put]
 |(i,q)::r=>by
  by_cases h:i=k
  ·subst h;by_cases U:i=j<;>simp[get,put,U]
  ·by_cases U:i=j
   ·subst U;simp[get,put,h,k5 h]
   ·simp[get,put,h,U,pg k j p r]
theorem iW{α:Type}(k j:aL)(p:α):∀l,look j (cy k p l)=if k=j then some p else look j l
 |[]=>by simp[look,cy]
 |(i,q)::r=>by
  by_cases h:i=k
  ·subst h;by_cases U:i=j<;>simp[look,cy,U]
  ·by_cases U:i=j
   ·subst U;simp[look,cy,h,k5 h]
   ·simp[look,cy,h,U,iW k j p r]
structure fQ where
 n:Nat
 el:Nat
 sz:Nat
 xs:Option (List ai)
def MD(w:World)(Z:bc)(o:fQ)(v:Value)(us:List Value):Prop:=∀xs,o.xs=some xs->xs.length=o.n/\dx w Z o.sz xs us/\∀bl,v.ownBlock=some bl->∀j,¬Z.A bl j
theorem si{w w':World}{Z bq:bc}(aw:lx w Z w' bq){o:fQ}{v:Value}{us:List Value}(bj:∀bl,v.ownBlock=some bl->∀j,bq.A bl j->Z.A bl j)(h:MD w Z o v us):MD w' bq o v us:=fun xs ae=>⟨(h xs ae).1,AK aw (h xs ae).2.1,fun bl ab j ag=>(h xs ae).2.2 bl ab j (bj bl ab j ag)⟩
def et(S:aL->Prop)(o:fQ):Prop:= ∀xs,o.xs=some xs->aP S xs
structure bo where
 t:List (Nat×ai)
 b:List (aL×List ai)
 e:List (aL×fQ)
 n:Nat
 o:List aL
def fresh(n:Nat)(o:List aL)(k:aL):Prop:=(match k with| .loc m=>n<=m| .obj _=>True)/\k∉o
theorem Jr{n n':Nat}{o o':List aL}(az:n<=n')(aw:∀k∈o,k∈o'){k:aL}(h:fresh n' o' k):fresh n o k:=by unfold fresh at h⊢;exact⟨by cases k<;>simp at h⊢;omega,fun ad=>h.2 (aw k ad)⟩
def Na(Z:bc)(b:List (aL×List ai))(e:List (aL×fQ))(bl:Nat):Prop:=(∃k,(look k b).isSome/\Z.bx k=some bl)\/(∃g n v,(look g e).isSome/\Z.ow g=some (n,v)/\v.ownBlock=some bl)
structure Good (pr:Nat->Prop) (w:World) (Z:bc) (b:List (aL×List ai)) (e:List (aL×fQ)):Prop where
 alt:∀bl o,Z.A bl o->bl<w.heap.size
 box:∀k cs,look k b=some cs->∃bl us el,Z.bx k=some bl/\pr bl/\(∀o,¬Z.A bl o)/\w.heap[bl]? =some (jP cs us el)/\jn w Z cs us.toList
 inj:∀k bN bl,(look k b).isSome->(look bN b).isSome->Z.bx k=some bl->Z.bx bN=some bl->k=bN
 own:∀g o,look g e=some o->∃v us,Z.ow g=some (o.n,v)/\w.ownsRow 0 o.el o.sz v o.n us/\(∀bl,v.ownBlock=some bl->pr bl/\(∀j,Z.A bl j->j<o.n*o.sz))/\MD w Z o v us
 oinj:∀g fc n n' v v' bl,(look g e).isSome->(look fc e).isSome->Z.ow g=some (n,v)->Z.ow fc=some (n',v')->v.ownBlock=some bl->v'.ownBlock=some bl->g=fc
 obx:∀g k n v bl,(look g e).isSome->(look k b).isSome->Z.ow g=some (n,v)->v.ownBlock=some bl->Z.bx k=some bl->eN
 one:∀k,Z.bx k=none\/Z.ow k=none
 otr:∀bl,Na Z b e bl->∀k j,¬Z.tr k j bl
structure fa where
 w0:World
 Z0:bc
 mt:Nat->Prop
 N:Nat
 ob:List aL
def fa.pr(C:fa)(bl:Nat):Prop:=C.mt bl\/C.w0.heap.size<=bl
def ak4:aL:= .obj 990001
def fo:aL:= .obj 990002
structure qt (C:fa) (w:World) (Z:bc):Prop where
 os:w.os=C.w0.os
 tape:w.tape=C.w0.tape
 output:w.output=C.w0.output
 size:C.w0.heap.size<=w.heap.size
 block:∀k,k<C.w0.heap.size->¬C.mt k->w.heap[k]? =C.w0.heap[k]?
 keep:∀b o,C.Z0.A b o->Z.A b o/\w.cell? ⟨b,o,none⟩=C.w0.cell? ⟨b,o,none⟩
 fresh:∀b o,Z.A b o->C.Z0.A b o\/C.pr b
 obj:∀n b,C.Z0.bx (.obj n)=some b->Z.bx (.obj n)=some b
 obn:∀n b,C.Z0.bx (.obj n)=some b-> .obj n∈C.ob
 row:∀m n u,C.Z0.ow (.obj m)=some (n,u)->∃n' e3,Z.ow (.obj m)=some (n',e3)/\(n'=n/\e3=u\/n<n')
 obr:∀m n u,C.Z0.ow (.obj m)=some (n,u)-> .obj m∈C.ob
 trd:∀k j bN dD b,Z.tr k j b->Z.tr bN dD b->k=bN/\j=dD
 trb:∀k j b,Z.tr k j b->(k=ak4\/C.w0.heap.size<=b)/\b<w.heap.size
 trn:∀k j b,Z.tr k j b->Z.bx k=none/\Z.ow k=none
 sh:∀b o,C.Z0.A b o->shape w b=shape C.w0 b
theorem DG{Z bq:bc}{g:aL}{n:Nat}{u:Value}(h:∃n' e3,Z.ow g=some (n',e3)/\(n'=n/\e3=u\/n<n'))(aw:∀n u,Z.ow g=some (n,u)->∃n' e3,bq.ow g=some (n',e3)/\(n'=n/\e3=u\/n<n')):
  ∃n' e3,bq.ow g=some (n',e3)/\(n'=n/\e3=u\/n<n'):=by
 obtain⟨iw,ja,ao,aF⟩:=h;obtain⟨gj,jD,f1,f2⟩:=aw iw ja ao;refine⟨gj,jD,f1,?_⟩;rcases aF with⟨rfl,rfl⟩|aF
 ·exact f2
 ·rcases f2 with⟨rfl,rfl⟩|f2
  ·exact .inr aF
  ·exact .inr Ω
structure cS (C:fa) (st:bo) (a:Act) (w:World) (Z:bc):Prop where
 good:Good C.pr w Z st.b st.e
 fr:qt C w Z
 defers:a.defers=[]
 size:a.tmps.size=C.N
 slot:∀i,bd w Z (get i st.t) (a.tmps.getD i undef)
 new:∀k,fresh st.n st.o k->Z.bx k=none/\Z.ow k=none/\∀j b,¬Z.tr k j b
def eM(d:Option Nat)(p:ai)(t:List (Nat×ai)):List (Nat×ai):=
 match d with
 |some d=>put d p t
 |none=>t
def jt(N:Nat)(d:Option Nat):Bool:=match d with|some d=>decide (d<N)|none=>true
theorem cS.put{C:fa}{st:bo}{a:Act}{w:World}{Z:bc}(h:cS C st a w Z){d:Option Nat}(aG:jt C.N d=true){p:ai}{v:Value}(bL:bd w Z p v):
  cS C {st with t:=eM d p st.t} (a.put d v) w Z:=by
 cases d with
 |none=>exact h
 |some d=>
  have bt:d<a.tmps.size:=by rw[h.size];simpa[jt]using aG
  refine⟨h.good,h.fr,h.defers,by simpa[Act.put]using h.size,fun i=>?_,h.new⟩;simp only[eM,pg];by_cases e:d=i
  ·subst e;simpa[Act.put,Array.getD_eq_getD_getElem?,bt]using bL
  ·have:=h.slot i;simpa[e,Act.put,Array.getD_eq_getD_getElem?,Array.getElem?_setIfInBounds_ne e]using this
theorem cS.over{C:fa}{st st':bo}{a:Act}{w w':World}{Z bq:bc}(h:cS C st a w Z)(aw:lx w Z w' bq)(aI:st'.t=st.t)(aW:Good C.pr w' bq st'.b st'.e)(aO:qt C w' bq)
  (az:∀k,fresh st'.n st'.o k->bq.bx k=none/\bq.ow k=none/\∀j b,¬bq.tr k j b):cS C st' a w' bq:=
 ⟨aW,aO,h.defers,h.size,fun i=>by rw[aI];exact yv aw (h.slot i),az⟩
inductive dp where
 |t (i:Nat)
 |c (p:ai)
 deriving Inhabited
def cm(t:List (Nat×ai)):dp->ai
 | .t i=>get i t
 | .c p=>p
def EC:ai->Value->Bool
 | .int k n,.int bN n'=>decide (k=bN/\n=n')
 | .bool b,.bool b0=>b==b0
 | .str s,.string l=>decide (l.data.toList=s/\s.length<=lim)
 | .slice _ .nil [],.slice none 0 0=>true
 | .nilp,.pointer none=>true
 | .tuple [],.tuple ⟨[]⟩=>true
 | .func f [],.func (.func g) ⟨[]⟩ ⟨[]⟩=>f==g
 | .junk,_=>true
 |_,_=>false
theorem Oy(w:World)(Z:bc){p:ai}{v:Value}(h:EC p v=true):bd w Z p v:=by
 unfold EC at h;split at h
 ·simp at h;obtain⟨rfl,rfl⟩:=h;simp[bd]
 ·simp at h;subst h;simp[bd]
 ·rename_i s l;simp at h;obtain⟨J,U⟩:=h;refine⟨?_,U⟩;subst J;simp
 ·simp only[bd];refine⟨⟨none,0,rfl,Ψ,Ψ,Ψ⟩,Ψ,(fun _ h=>by cases h),(fun _ _ h=>by cases h),(fun _ h=>by cases h)⟩
 ·simp[bd]
 ·simp[bd,cR]
 ·simp at h;subst h;simp[bd,cR]
 ·simp[bd]
 ·cases h
def y1:List ai->List Value->Bool
 |[],[]=>true
 |p::cz,v::ba=>EC p v&&v.oneCell'&&y1 cz ba
 |_,_=>false
def y0:ai->Value->Bool
 | .agg cs,.agg us=>y1 cs us.toList
 |p,v=>EC p v
theorem Oz(w:World)(Z:bc):∀(cz:List ai) (ba:List Value),y1 cz ba=true->dn w Z cz ba
 |[],[],_=>by simp[dn]
 |[],_::_,h=>by simp[y1]at h
 |_::_,[],h=>by simp[y1]at h
 |p::cz,v::ba,h=>by simp only[y1,ct]at h;simp only[dn];exact⟨v,ba,rfl,⟨Oy w Z h.1.1,h.1.2⟩,Oz w Z cz ba h.2⟩
theorem Is(w:World)(Z:bc){p:ai}{v:Value}(h:y0 p v=true):bd w Z p v:=by
 unfold y0 at h;split at h
 ·simp only[bd];exact⟨_,rfl,Oz w Z _ _ h⟩
 ·exact Oy w Z h
def eg:dp->Operand->Bool
 | .t i,.tmp j=>i==j
 | .c p,.const v=>y0 p v
 | .c (.func f []),.func g=>f==g
 |_,_=>false
theorem eh{C:fa}{st:bo}{a:Act}{w:World}{Z:bc}(h:cS C st a w Z){x:dp}{o:Operand}(ae:eg x o=true):bd w Z (cm st.t x) (a.eval o):=by
 unfold eg at ae;split at ae
 ·simp at ae;subst ae;simpa[cm,Act.eval]using h.slot _
 ·simpa[cm,Act.eval]using Is w Z ae
 ·simp at ae;subst ae;simp[cm,Act.eval,bd,cR]
 ·cases ae
inductive Bl where
 |int (k:IntKind)
 |bool
 |str
 |slice (e:Nat)
 |struct (dL:List (Nat×Nat))
 |map (k e:Nat)
 |other
 deriving DecidableEq
structure dA where
 size:Nat
 bytes:Nat
 kind:Bl
 zero:ai
def Bl.isAgg:Bl->Bool
 | .struct _=>true
 |_=>false
def Bd:List ai->List Value->Bool
 |[],[]=>true
 |p::cz,v::ba=>y0 p v&&v.oneCell'&&Bd cz ba
 |_,_=>false
def yM:ai->Value->Bool
 | .agg cs,.agg us=>Bd cs us.toList
 | .agg _,_=>false
 |p,v=>y0 p v&&v.oneCell'
def kP:Bl->TypeDesc->Bool
 | .int k,.int bN=>decide (k=bN)
 | .bool,.bool=>true
 | .str,.string=>true
 | .slice e,.slice fL=>e==fL
 | .struct dL,.struct gs=>decide (gs.toList.map (fun f=>(f.offset,f.type))=dL)
 | .map k e,.map bN fL=>k==bN&&e==fL
 | .other,d=>match d with| .struct _| .array _ _| .int _| .bool| .string| .slice _=>false|_=>true
 |_,_=>false
def Rn(P:cG)(gs:Array Field):Bool:=gs.toList.all fun f=>match P.underlying f.type with|some (.int _)=>true|some .string=>true|_=>false
def QC(P:cG)(t:Nat)(gs:Array Field):Bool:=gs.toList.all (fun f=>f.name != "_")&& !P.stoodInHeld t&& !P.eqGuardType P.depth t
def IN(P:cG)(t:Nat):TypeDesc->Bool
 | .struct gs=> !Rn P gs||QC P t gs
 |_=>true
def Nd(P:cG)(t:Nat)(f:dA):Bool:=
 match P.info? t,P.underlying t with
 |some i,some d=>IN P t d&&i.size==f.size&&i.bytes==f.bytes&&kP f.kind d&&(match i.zero with|some z=>yM f.zero z&&z.cells.size==f.size|none=>false)
 |_,_=>false
def fN(P:cG)(bB:List (Nat×dA)):Bool:=bB.all fun x=>Nd P x.1 x.2
def dZ(bB:List (Nat×dA))(t:Nat):Option dA:=(bB.find? fun x=>x.1==t).map (·.2)
theorem alX{P:cG}{bB:List (Nat×dA)}(h:fN P bB=true){t:Nat}{f:dA}(aO:dZ bB t=some f):Nd P t f=true:=by
 unfold dZ at aO;cases ae:bB.find? fun x=>x.1==t with
 |none=>simp[ae]at aO
 |some x=>simp[ae]at aO;have J:=List.find?_some ae;simp at J;have U:=List.mem_of_find?_eq_some ae;have al:=gH.1 h x U;rw[<-aO,<-J];exact al
structure Ym (P:cG) (t:Nat) (f:dA):Prop where
 cmp:∀d,P.underlying t=some d->IN P t d=true
 ex:∃i d z,P.info? t=some i/\P.underlying t=some d/\i.size=f.size/\i.bytes=f.bytes/\kP f.kind d=true/\i.zero=some z/\yM f.zero z=true/\z.cells.size=f.size
theorem vd{P:cG}{bB:List (Nat×dA)}(h:fN P bB=true){t:Nat}{f:dA}(aO:dZ bB t=some f):Ym P t f:=by
 have h:=alX h aO;unfold Nd at h;split at h
 ·rename_i i d J U;simp only[ct,dM]at h;obtain⟨⟨⟨⟨bA,al⟩,a1⟩,bW⟩,dd⟩:=h;split at dd
  ·rename_i z bk;simp only[ct,dM]at dd;exact⟨fun cp mC=>by rw[U]at mC;cases mC;exact bA,i,d,z,J,U,al,a1,bW,bk,dd.1,dd.2⟩
  ·cases dd
 ·cases h
theorem o4(b o j:Nat):(⟨b,o,none⟩:Addr).add j=⟨b,o+j,none⟩:=by
 unfold Addr.add;split
 ·rename_i h;subst h;rfl
 ·rfl
theorem NH(w:World)(Z:bc):∀(cz:List ai) (ba:List Value),Bd cz ba=true->dn w Z cz ba
 |[],[],_=>by simp[dn]
 |[],_::_,h=>by simp[Bd]at h
 |_::_,[],h=>by simp[Bd]at h
 |p::cz,v::ba,h=>by simp only[Bd,ct]at h;simp only[dn];exact⟨v,ba,rfl,⟨Is w Z h.1.1,h.1.2⟩,NH w Z cz ba h.2⟩
def cells:ai->List ai
 | .agg cs=>cs
 |p=>[p]
def eH:ai->Bool
 | .junk| .tuple _=>false
 | .cst (.slice _ _ _)| .cst (.string _)=>true
 | .cst _=>false
 |_=>true
theorem MA{w:World}{Z:bc}{p:ai}{v:Value}(h:bd w Z p v)(af:eH p=true)(a7:∀cs,p≠ .agg cs):v.oneCell'=true/\v.cells= #[v]:=by
 cases p<;>simp only[bd,eH]at h af;case junk=>cases af
 case tuple=>cases af
 case cst c=>subst h;cases v<;>first|exact⟨rfl,rfl⟩|cases af
 case agg cs=>exact absurd rfl (a7 cs)
 case int=>subst h;exact⟨rfl,rfl⟩
 case bool=>subst h;exact⟨rfl,rfl⟩
 case str=>rw[h.1];exact⟨rfl,rfl⟩
 case slice=>obtain⟨⟨a,cap,J,_⟩,_⟩:=h;subst J;exact⟨rfl,rfl⟩
 case ptr=>obtain⟨b,_,J⟩:=h;subst J;exact⟨rfl,rfl⟩
 case eptr=>obtain⟨b,o,u,J,_⟩:=h;subst J;exact⟨rfl,rfl⟩
 case iface=>obtain⟨u,J,_⟩:=h;subst J;exact⟨rfl,rfl⟩
 case nilp=>subst h;exact⟨rfl,rfl⟩
 case func=>obtain⟨us,J,_⟩:=h;subst J;exact⟨rfl,rfl⟩
 case gmap=>obtain⟨b,_,J⟩:=h;subst J;exact⟨rfl,rfl⟩
 case row=>obtain⟨⟨a,cap,J⟩,_⟩:=h;subst J;exact⟨rfl,rfl⟩
 case rptr=>obtain⟨⟨a,o,J⟩,_⟩:=h;subst J;exact⟨rfl,rfl⟩
theorem u2{w:World}{Z:bc}{p:ai}{v:Value}(h:bd w Z p v)(af:eH p=true):dn w Z (cells p) v.cells.toList:=by
 by_cases a7:∃cs,p= .agg cs
 ·obtain⟨cs,rfl⟩:=a7;simp only[bd]at h;obtain⟨us,rfl,U⟩:=h;simpa[cells,oV]using U
 ·have ng:∀cs,p≠ .agg cs:=fun cs e=>a7 ⟨cs,e⟩;obtain⟨J,U⟩:=MA h af ng;have aq:cells p=[p]:=by cases p<;>first|rfl|exact absurd rfl (ng _)
  rw[aq,U];simp only[dn];exact⟨v,[],rfl,⟨h,J⟩,rfl⟩
theorem AM{w:World}{Z:bc}:∀{cz:List ai} {ba:List Value},dn w Z cz ba->∀c∈ba,c.oneCell'=true
 |[],ba,h=>by simp only[dn]at h;subst h;simp
 |p::cz,ba,h=>by
  simp only[dn]at h;obtain⟨u,ch,rfl,J,U⟩:=h;intro c aq;rcases fI.1 aq with rfl|aq
  ·exact J.2
  ·exact AM U c aq
theorem pJ{w:World}{Z:bc}:∀{cz:List ai} {ba:List Value},dn w Z cz ba->ba.length=cz.length
 |[],ba,h=>by simp only[dn]at h;subst h;rfl
 |p::cz,ba,h=>by simp only[dn]at h;obtain⟨u,ch,rfl,_,U⟩:=h;simp[pJ U]
theorem AL{w:World}{Z:bc}:∀(n:Nat) {cz:List ai} {ba:List Value},dn w Z cz ba->dn w Z (cz.drop n) (ba.drop n)
 |0,_,_,h=>by simpa using h
 |n+1,[],ba,h=>by simp only[dn]at h;subst h;simp[dn]
 |n+1,p::cz,ba,h=>by simp only[dn]at h;obtain⟨u,ch,rfl,_,U⟩:=h;simpa using AL n U
theorem DC{w:World}{Z:bc}:∀(n:Nat) {cz:List ai} {ba:List Value},dn w Z cz ba->dn w Z (cz.take n) (ba.take n)
 |0,_,_,_=>by simp[dn]
 |n+1,[],ba,h=>by simp only[dn]at h;subst h;simp[dn]
 |n+1,p::cz,ba,h=>by simp only[dn]at h;obtain⟨u,ch,rfl,J,U⟩:=h;simp only[List.take_succ_cons,dn];exact⟨u,_,rfl,J,DC n U⟩
theorem yt{w:World}{Z:bc}:∀{cz bC:List ai} {ba us:List Value},dn w Z cz ba->dn w Z bC us->dn w Z (cz++bC) (ba++us)
 |[],bC,ba,us,h,ck=>by simp only[dn]at h;subst h;simpa using ck
 |p::cz,bC,ba,us,h,ck=>by simp only[dn]at h;obtain⟨u,ch,rfl,J,U⟩:=h;simp only[bV,dn];exact⟨u,_,rfl,J,yt U ck⟩
theorem DB{w:World}{Z:bc}:∀(n:Nat) {cz:List ai} {ba:List Value} {p:ai},dn w Z cz ba->cz[n]? =some p->∃v,ba[n]? =some v/\bd w Z p v/\v.oneCell'=true
 |n,[],_,p,_,bL=>by simp at bL
 |0,q::cz,ba,p,h,bL=>by simp only[dn]at h;obtain⟨u,ch,rfl,J,_⟩:=h;simp at bL;subst bL;exact⟨u,rfl,J.1,J.2⟩
 |n+1,q::cz,ba,p,h,bL=>by simp only[dn]at h;obtain⟨u,ch,rfl,_,U⟩:=h;simpa using DB n U (by simpa using bL)
theorem Hk{w:World}{Z:bc}:∀(n:Nat) {cz:List ai} {ba:List Value} {p:ai},cR w Z cz ba->cz[n]? =some p->∃v,ba[n]? =some v/\bd w Z p v
 |n,[],_,p,_,bL=>by simp at bL
 |0,q::cz,ba,p,h,bL=>by simp only[cR]at h;obtain⟨u,ch,rfl,J,_⟩:=h;simp at bL;subst bL;exact⟨u,rfl,J⟩
 |n+1,q::cz,ba,p,h,bL=>by simp only[cR]at h;obtain⟨u,ch,rfl,_,U⟩:=h;simpa using Hk n U (by simpa using bL)
theorem uM{w:World}{A:Nat->Nat->Prop}{b:Nat}:∀{us:List Value} {off j:Nat} {u:Value},lK w A b off us->us[j]? =some u->A b (off+j)/\w.cell? ⟨b,off+j,none⟩=some u
 |[],_,_,_,_,h=>by simp at h
 |x::us,off,0,u,au,h=>by simp at h;subst h;exact au.1
 |x::us,off,j+1,u,au,h=>by have:=uM (j:=j) au.2 (by simpa using h);rwa[show off+1+j=off+(j+1)from by omega]at this
theorem Gi{w:World}{A:Nat->Nat->Prop}{b:Nat}:∀(n:Nat) {us:List Value} {off:Nat},lK w A b off us->lK w A b (off+n) (us.drop n)
 |0,_,_,h=>by simpa using h
 |n+1,[],_,_=>by simp[lK]
 |n+1,x::us,off,h=>by have:=Gi n h.2;rw[show off+(n+1)=off+1+n from by omega];simpa using this
theorem Gk{w:World}{A:Nat->Nat->Prop}{b:Nat}:∀(n:Nat) {us:List Value} {off:Nat},lK w A b off us->lK w A b off (us.take n)
 |0,_,_,_=>by simp[lK]
 |n+1,[],_,_=>by simp[lK]
 |n+1,x::us,off,h=>by simp only[List.take_succ_cons];exact⟨h.1,Gk n h.2⟩
theorem akW{P:cG}{w:World}{A:Nat->Nat->Prop}{b off:Nat}{us:List Value}(h:lK w A b off us):(loadCells ⟨b,off,none⟩ us.length).run P w= .ok us.toArray w:=run_loadCells_list w _ us fun j v ag=>by rw[o4];exact(uM h ag).2
theorem akV{P:cG}{w:World}{b off n:Nat}{us:Array Value}{el:gG}{fr:Nat×Nat}(h:w.heap[b]? =some (.cells us el fr))(az:off+n<=us.size):
  (loadCells ⟨b,off,none⟩ n).run P w= .ok ((us.toList.drop off).take n).toArray w:=by
 have au:((us.toList.drop off).take n).length=n:=by simp;omega
 have:=run_loadCells_list (P:=P) w ⟨b,off,none⟩ ((us.toList.drop off).take n) fun j v ag=>by
  rw[o4];have ae2:j<n:=by have:=(fp.1 ag).1;omega
  simp only[World.cell?,h,iL,gF,if_false];rw[List.getElem?_take]at ag;simpa[ae2]using ag
 rw[au]at this;exact this
theorem QR{α:Type}(l r:List α)(n sz:Nat)(h:l.length=sz):(l++r).drop ((n+1)*sz)=r.drop (n*sz):=by
 have e:(n+1)*sz=l.length+n*sz:=by rw[h,Nat.succ_mul,Nat.add_comm]
 rw[e,<-List.drop_drop];simp
theorem Xa{α:Type}(l r:List α)(n sz:Nat)(h:l.length=sz):(l++r).take ((n+1)*sz)=l++r.take (n*sz):=by
 have e:(n+1)*sz=l.length+n*sz:=by rw[h,Nat.succ_mul,Nat.add_comm]
 rw[e,List.take_length_add_append]
theorem Hf{w:World}{Z:bc}{sz:Nat}:∀(i:Nat) {xs:List ai} {us:List Value} {p:ai},dx w Z sz xs us->xs[i]? =some p->
  ∃u,bd w Z p u/\u.cells.size=sz/\u.cells.toList=(us.drop (i*sz)).take sz
 |i,[],_,p,_,bL=>by simp at bL
 |0,x::xs,us,p,h,bL=>by
  simp only[dx]at h;obtain⟨u,ch,rfl,⟨J,U,al⟩,_⟩:=h;simp at bL;subst bL;refine⟨u,J,U,?_⟩;have:u.cells.toList.length=sz:=by simpa using U
  simp[<-this]
 |i+1,x::xs,us,p,h,bL=>by
  simp only[dx]at h;obtain⟨u,ch,rfl,⟨_,U,_⟩,bW⟩:=h;obtain⟨v,g1,g2,g3⟩:=Hf i bW (by simpa using bL);refine⟨v,g1,g2,?_⟩;have:u.cells.toList.length=sz:=by simpa using U
  rw[g3,QR _ _ _ _ this]
theorem tE{w:World}{Z:bc}{sz:Nat}:∀{xs:List ai} {us:List Value},dx w Z sz xs us->us.length=xs.length*sz
 |[],us,h=>by simp only[dx]at h;subst h;simp
 |x::xs,us,h=>by
  simp only[dx]at h;obtain⟨u,ch,rfl,⟨_,U,_⟩,bW⟩:=h;have:u.cells.toList.length=sz:=by simpa using U
  rw[oW,this,tE bW,oe,Nat.succ_mul];omega
theorem yr{w:World}{Z:bc}{sz:Nat}:∀{xs:List ai} {us:List Value},dx w Z sz xs us->∀c∈us,c.oneCell'=true
 |[],us,h=>by simp only[dx]at h;subst h;simp
 |x::xs,us,h=>by
  simp only[dx]at h;obtain⟨u,ch,rfl,⟨_,_,al⟩,bW⟩:=h;intro c aq;rcases h9.1 aq with aq|aq
  ·exact al c aq
  ·exact yr bW c aq
theorem DA{w:World}{Z:bc}{sz:Nat}:∀{cz bC:List ai} {ba us:List Value},dx w Z sz cz ba->dx w Z sz bC us->dx w Z sz (cz++bC) (ba++us)
 |[],bC,ba,us,h,ck=>by simp only[dx]at h;subst h;simpa using ck
 |p::cz,bC,ba,us,h,ck=>by simp only[dx]at h;obtain⟨u,ch,rfl,J,U⟩:=h;simp only[bV,dx];exact⟨u,ch++us,Ψ,J,DA U ck⟩
theorem Ww{w:World}{Z:bc}{sz:Nat}:∀(n:Nat) {xs:List ai} {us:List Value},dx w Z sz xs us->dx w Z sz (xs.drop n) (us.drop (n*sz))
 |0,_,_,h=>by simpa using h
 |n+1,[],us,h=>by simp only[dx]at h;subst h;simp[dx]
 |n+1,x::xs,us,h=>by
  simp only[dx]at h;obtain⟨u,ch,rfl,⟨_,U,_⟩,bW⟩:=h;have:u.cells.toList.length=sz:=by simpa using U
  rw[QR _ _ _ _ this];simpa using Ww n bW
theorem Wz{w:World}{Z:bc}{sz:Nat}:∀(n:Nat) {xs:List ai} {us:List Value},dx w Z sz xs us->dx w Z sz (xs.take n) (us.take (n*sz))
 |0,_,_,_=>by simp[dx]
 |n+1,[],us,h=>by simp only[dx]at h;subst h;simp[dx]
 |n+1,x::xs,us,h=>by
  simp only[dx]at h;obtain⟨u,ch,rfl,⟨J,U,al⟩,bW⟩:=h;have:u.cells.toList.length=sz:=by simpa using U
  simp only[List.take_succ_cons,dx];refine⟨u,ch.take (n*sz),?_,⟨J,U,al⟩,Wz n bW⟩;rw[Xa _ _ _ _ this]
def isAgg(sz:Nat)(p:ai):Prop:= ∃cs,p= .agg cs/\cs.length=sz
def yx(agg:Bool)(sz dH n i f:Nat):Option fQ->Option (Prop×ai)
 |some ⟨n',_,jo,some xs⟩=>if n'=n/\jo=dH then
   (match xs[i]? with
    |some p=>if agg then some (eH p=true/\f+sz<=(cells p).length,.agg (((cells p).drop f).take sz))else((cells p)[f]?).map fun q=>(eH p=true,q)
    |none=>none)else none
 |_=>none
def mN(b:List (aL×List ai))(e:List (aL×fQ))(agg:Bool)(sz:Nat):ai->Option (Prop×ai)
 | .rptr dH k n i f=>yx agg sz dH n i f (look k e)
 | .ptr k off=>
  match look k b with
  |some cs=>if agg then some (hS cs=true/\off+sz<=cs.length,.agg ((cs.drop off).take sz))else(cs[off]?).map fun p=>(hS cs=true,p)
  |none=>none
 | .eptr p=>if agg then some (isAgg sz p,p)else some (eH p=true/\cells p=[p],p)
 |_=>none
def BR(agg:Bool)(sz:Nat):ai->Option (Prop×ai)
 | .eptr p=>if agg then some (isAgg sz p,p)else some (eH p=true/\cells p=[p],p)
 |_=>none
theorem ac8{b:List (aL×List ai)}{e:List (aL×fQ)}{agg:Bool}{sz:Nat}{p:ai}{r:Prop×ai}(h:BR agg sz p=some r):mN b e agg sz p=some r:=by
 cases p<;>simp only[BR]at h<;>first|cases h;done|skip
 simpa only[mN]using h
theorem ag2{b:List (aL×List ai)}{e:List (aL×fQ)}{agg:Bool}{sz:Nat}{p:ai}{r:Prop×ai}(h:mN b [] agg sz p=some r):mN b e agg sz p=some r:=by cases p<;>simp only[mN]at h⊢ <;>first|exact h|(simp[look,yx]at h)
def qJ(off:Nat)(agg:Bool)(sz:Nat):ai->Option (Prop×ai)
 | .ptr k o=>some (True,.ptr k (o+off))
 | .rptr dH k n i f=>some (True,.rptr dH k n i (f+off))
 | .eptr (.agg cs)=>if agg then some (off+sz<=cs.length,.eptr (.agg ((cs.drop off).take sz)))else(cs[off]?).map fun p=>(eH p=true/\cells p=[p],.eptr p)
 |_=>none
def ui(off:Nat)(agg:Bool)(sz:Nat):ai->Option (Prop×ai)
 | .agg cs=>if agg then some (off+sz<=cs.length,.agg ((cs.drop off).take sz))else(cs[off]?).map fun p=>(True,p)
 |_=>none
def zQ(sz:Nat):ai->ai->Option (Prop×ai)
 | .slice dH _ xs,.int _ i=>if dH=sz then some (0<=i/\i<xs.length,.eptr (xs.getD i.toNat .junk))else none
 | .row dH k n,.int _ i=>if dH=sz then some (0<=i/\i<n,.rptr dH k n i.toNat 0)else none
 |_,_=>none
def Hv:ai->ai->Option (Prop×ai)
 | .str s,.int _ i=>some (0<=i/\i<s.length,.int .u8 (s.getD i.toNat 0).toNat)
 |_,_=>none
def q0(EZ:Int):Option ai->Option Int
 |none=>some EZ
 |some (.int _ i)=>some i
 |_=>none
def HA(x:ai)(lo hi:Option ai):Option (Prop×ai):=
 match x with
 | .str s=>match q0 0 lo,q0 s.length hi with
  |some l,some h=>some (0<=l/\l<=h/\h<=s.length,.str ((s.take h.toNat).drop l.toNat))
  |_,_=>none
 |_=>none
def Gq(sz:Nat)(x:ai)(lo hi:Option ai):Option (Prop×ai):=
 match x with
 | .slice dH _ xs=>if dH=sz then match q0 0 lo,q0 xs.length hi with
  |some l,some h=>some (0<=l/\l<=h/\h<=xs.length,.slice sz .no ((xs.take h.toNat).drop l.toNat))
  |_,_=>none else none
 |_=>none
def p5(n:Int):Prop:= -9223372036854775808<=n/\n<=9223372036854775807
def bh(op:BinOp)(wr:Bool)(k:IntKind)(a b:Int):Option (Prop×ai):=
 match op with
 | .add=>if wr then some (True,.int k (k.wrap (a+b)))else some (k= .i64/\p5 (a+b),.int .i64 (a+b))
 | .sub=>if wr then some (True,.int k (k.wrap (a-b)))else some (k= .i64/\p5 (a-b),.int .i64 (a-b))
 | .mul=>if wr then some (True,.int k (k.wrap (a*b)))else some (k= .i64/\p5 (a*b),.int .i64 (a*b))
 | .quo=>some (b≠0,.int k (k.wrap (a.tdiv b)))
 | .rem=>some (b≠0,.int k (a.tmod b))
 | .eql=>some (True,.bool (a==b))
 | .neq=>some (True,.bool (a !=b))
 | .lss=>some (True,.bool (decide (a<b)))
 | .leq=>some (True,.bool (decide (a<=b)))
 | .gtr=>some (True,.bool (decide (b<a)))
 | .geq=>some (True,.bool (decide (b<=a)))
 | .and=>some (True,.int k (k.wrap (lS k.bits a&&& lS k.bits b).toNat))
 | .or=>some (True,.int k (k.wrap (lS k.bits a|||lS k.bits b).toNat))
 | .xor=>some (True,.int k (k.wrap (lS k.bits a ^^^ lS k.bits b).toNat))
 |_=>none
def HB(op:BinOp)(a b:List c4):Option (Prop×ai):=
 match op with
 | .add=>some (a.length+b.length<=lim,.str (a++b))
 | .eql=>some (True,.bool (a==b))
 | .neq=>some (True,.bool (!(a==b)))
 | .lss=>some (True,.bool (ht a b))
 | .leq=>some (True,.bool (ht a b||a==b))
 | .gtr=>some (True,.bool (!(ht a b||a==b)))
 | .geq=>some (True,.bool (!ht a b))
 |_=>none
def be(op:BinOp)(wr:Bool):ai->ai->Option (Prop×ai)
 | .int k a,.int bN b=>match op with
  | .shl=>some (0<=b,.int k (k.wrap (a*2 ^ (min b.toNat k.bits))))
  | .shr=>some (0<=b,.int k (a.fdiv (2 ^ (min b.toNat k.bits))))
  |_=>if k=bN then bh op wr k a b else none
 | .str a,.str b=>HB op a b
 |_,_=>none
def n3(cs:List ai)(off:Nat)(cz:List ai):List ai:=cs.take off++cz++cs.drop (off+cz.length)
def ub(t:List (Nat×ai)):List ai->List (Nat×Nat×dp)->Option (Prop×List ai)
 |cs,[]=>some (True,cs)
 |cs,(off,sz,x)::r=>
  let p:=cm t x
  match ub t (n3 cs off (cells p)) r with
  |some (c,cs')=>some ((eH p=true/\(cells p).length=sz/\off+sz<=cs.length)/\c,cs')
  |none=>none
def GN(c x y:ai):Option (Prop×ai):=
 match c with
 | .bool b=>match x,y with
  | .bool u,.bool v=>some (True,.bool (cond b u v))
  |p,q=>match b with
   |true=>some (True,p)
   |false=>some (True,q)
 |_=>none
def GC:ai->Option (Prop×ai)
 | .bool b=>some (True,.bool (!b))
 |_=>none
def Gz:ai->Option (Prop×ai)
 | .int k n=>some (True,.int k (k.wrap (0-n)))
 |_=>none
def zc(i:Nat):ai->Option (Prop×ai)
 | .tuple ba=>(ba[i]?).map fun p=>(True,p)
 |_=>none
def z1:ai->Option (Prop×ai)
 | .slice _ _ xs=>some (True,.int .i64 xs.length)
 | .row _ _ n=>some (True,.int .i64 n)
 | .cst (.slice _ n _)=>some (True,.int .i64 n)
 |_=>none
def DS:ai->Option (Prop×ai)
 | .str s=>some (True,.int .i64 s.length)
 | .cst (.string s)=>some (True,.int .i64 s.size)
 |_=>none
def EW(k:IntKind):ai->Option (Prop×ai)
 | .int _ n=>some (True,.int k (k.wrap n))
 |_=>none
def Ai:ai->Option (Prop×ai)
 | .ptr k o=>some (True,.ptr k o)
 | .eptr p=>some (True,.eptr p)
 | .func f cs=>some (True,.func f cs)
 |_=>none
def Gy:ai->ai->Option (Prop×ai)
 | .int k a,.int bN b=>if k=bN then some (True,.int k (if b<a then b else a))else none
 |_,_=>none
def ki:List Bool->List ai->List ai->Option Bool
 |[],[],[]=>some true
 |false::r,.int k a::as,.int bN b::eP=>if k=bN then(ki r as eP).map fun q=>(a==b)&&q else none
 |true::r,.str a::as,.str b::eP=>(ki r as eP).map fun q=>(a==b)&&q
 |_,_,_=>none
inductive hL where
 |i
 |s
 |a (dL:List Bool)
 deriving DecidableEq
def tl:hL->ai->ai->Option Bool
 | .i,.int k a,.int bN b=>if k=bN then some (a==b)else none
 | .s,.str a,.str b=>some (a==b)
 | .a dL,.agg as,.agg eP=>ki dL as eP
 |_,_,_=>none
def wb:hL->ai->Bool
 | .a dL,.agg as=>(ki dL as as).isSome
 | .a _,_=>false
 |_,_=>true
@[simp]theorem TQ(k:ai):wb .i k=true:=by cases k<;>rfl
def wm(cc:hL)(k:ai):List ai->Option (Option ai)
 |bN::v::r=>match tl cc k bN with
  |some true=>some (some v)
  |some false=>wm cc k r
  |none=>none
 |_=>some none
def nY(b:aL->Option (List ai))(cc:hL)(zero:ai)(ok:Bool)(x k:ai):Option (Prop×ai):=
 match x with
 | .gmap key=>match b key with
  |some (.hdm _ _::kvs)=>if wb cc k=false then none else match wm cc k kvs with
   |some (some v)=>some (True,if ok then .tuple [v,.bool true]else v)
   |some none=>some (True,if ok then .tuple [zero,.bool false]else zero)
   |none=>none
  |_=>none
 |_=>none
def Ah(b:aL->Option (List ai))(x:ai):Option (Prop×ai):=
 match x with
 | .gmap key=>match b key with
  |some (.hdm _ borns::_)=>some (True,.int .i64 borns.length)
  |_=>none
 |_=>none
def mv(neg:Bool):Option (List Bool)->ai->ai->Option (Prop×ai)
 |none,.bool a,.bool b=>some (True,.bool (if neg then a !=b else a==b))
 |some dL,.agg as,.agg eP=>(ki dL as eP).map fun q=>(True,.bool (if neg then !q else q))
 |_,_,_=>none
def Gu:ai->ai->Option (Prop×ai)
 | .int k a,.int bN b=>if k=bN then some (True,.int k (if a<b then b else a))else none
 |_,_=>none
def uR(cc:hL)(k v:ai):List ai->Option (Option (List ai))
 |bN::v'::r=>match tl cc k bN with
  |some true=>some (some (k::v::r))
  |some false=>match uR cc k v r with
   |some (some eG)=>some (some (bN::v'::eG))
   |some none=>some none
   |none=>none
  |none=>none
 |_=>some none
def mO(n:Nat):List Nat->List ai->Option ai
 |b::eP,k::v::r=>if b=n then some (.tuple [k,v])else mO n eP r
 |_,_=>none
def pB(b:aL->Option (List ai))(x:ai):Option (Prop×ai):=
 match x with
 | .ptr fl 0=>match b fl with
  |some [.hdi _ seen last,.gmap mk]=>match b mk with
   |some (.hdm clock borns::kvs)=>match seen.getLast? with
    |some n=>(mO n borns kvs).map fun p=>(clock=last,p)
    |none=>none
   |_=>none
  |_=>none
 |_=>none
theorem Uw{f g:aL->Option (List ai)}(h:∀k,f k≠none->g k=f k){cc:hL}{zero:ai}{ok:Bool}{x k:ai}{r:Prop×ai}(he:nY f cc zero ok x k=some r):nY g cc zero ok x k=some r:=by
 unfold nY at he⊢;split at he
 ·rename_i key;cases aO:f key with
  |none=>simp[aO]at he
  |some cs=>rw[h key (by rw[aO];simp),aO];rw[aO]at he;exact he
 ·cases he
theorem ahy{f g:aL->Option (List ai)}(h:∀k,f k≠none->g k=f k){x:ai}{r:Prop×ai}(he:Ah f x=some r):Ah g x=some r:=by
 unfold Ah at he⊢;split at he
 ·rename_i key;cases aO:f key with
  |none=>simp[aO]at he
  |some cs=>rw[h key (by rw[aO];simp),aO];rw[aO]at he;exact he
 ·cases he
theorem ahe{f g:aL->Option (List ai)}(h:∀k,f k≠none->g k=f k){x:ai}{r:Prop×ai}(he:pB f x=some r):pB g x=some r:=by
 unfold pB at he⊢;split at he
 ·rename_i fl;cases aO:f fl with
  |none=>simp[aO]at he
  |some cs=>
   simp only[h fl (by rw[aO];simp),aO]at he⊢;split at he
   ·rename_i since seen last mk dg;cases uv:f mk with
    |none=>simp[uv]at he
    |some eJ=>simp only[h mk (by rw[uv];simp),uv]at he⊢;exact he
   ·cases he
 ·cases he
inductive fU where
 |mov (x:dp)
 |pick (c x y:dp)
 |load (agg:Bool) (sz:Nat) (x:dp)
 |faddr (off:Nat) (agg:Bool) (sz:Nat) (x:dp)
 |fld (off:Nat) (agg:Bool) (sz:Nat) (x:dp)
 |iaddr (sz:Nat) (x i:dp)
 |sidx (x i:dp)
 |ssl (x:dp) (lo hi:Option dp)
 |lsl (sz:Nat) (x:dp) (lo hi:Option dp)
 |bin (op:BinOp) (wr:Bool) (x y:dp)
 |notB (x:dp)
 |neg (x:dp)
 |conv (k:IntKind) (x:dp)
 |ext (i:Nat) (x:dp)
 |len (x:dp)
 |slen (x:dp)
 |build (zero:List ai) (parts:List (Nat×Nat×dp))
 |nck (x:dp)
 |min2 (x y:dp)
 |mkf (n:Nat) (xs:List dp)
 |mget (cc:hL) (zero:ai) (ok:Bool) (x k:dp)
 |ment (x:dp)
 |mlen (x:dp)
 |beq (neg:Bool) (dL:Option (List Bool)) (x y:dp)
 |max2 (x y:dp)
 |mkif (t:Nat) (x:dp)
 |loadB (agg:Bool) (sz:Nat) (x:dp)
 |mgetB (cc:hL) (zero:ai) (ok:Bool) (x k:dp)
 |loadZ (agg:Bool) (sz:Nat) (x:dp)
def hj(st:bo):fU->Option (Prop×ai)
 | .mov x=>some (True,cm st.t x)
 | .pick c x y=>GN (cm st.t c) (cm st.t x) (cm st.t y)
 | .load agg sz x=>mN st.b st.e agg sz (cm st.t x)
 | .faddr off agg sz x=>qJ off agg sz (cm st.t x)
 | .fld off agg sz x=>ui off agg sz (cm st.t x)
 | .iaddr sz x i=>zQ sz (cm st.t x) (cm st.t i)
 | .sidx x i=>Hv (cm st.t x) (cm st.t i)
 | .ssl x lo hi=>HA (cm st.t x) (lo.map (cm st.t)) (hi.map (cm st.t))
 | .lsl sz x lo hi=>Gq sz (cm st.t x) (lo.map (cm st.t)) (hi.map (cm st.t))
 | .bin op wr x y=>be op wr (cm st.t x) (cm st.t y)
 | .notB x=>GC (cm st.t x)
 | .neg x=>Gz (cm st.t x)
 | .conv k x=>EW k (cm st.t x)
 | .ext i x=>zc i (cm st.t x)
 | .len x=>z1 (cm st.t x)
 | .slen x=>DS (cm st.t x)
 | .build zero parts=>(ub st.t zero parts).map fun(c,cs)=>(c,.agg cs)
 | .nck x=>Ai (cm st.t x)
 | .min2 x y=>Gy (cm st.t x) (cm st.t y)
 | .mkf n xs=>some (True,.func n (xs.map (cm st.t)))
 | .mget cc zero ok x k=>nY (fun k=>look k st.b) cc zero ok (cm st.t x) (cm st.t k)
 | .ment x=>pB (fun k=>look k st.b) (cm st.t x)
 | .mlen x=>Ah (fun k=>look k st.b) (cm st.t x)
 | .beq neg dL x y=>mv neg dL (cm st.t x) (cm st.t y)
 | .max2 x y=>Gu (cm st.t x) (cm st.t y)
 | .mkif t x=>some (True,.iface t (cm st.t x))
 | .loadB agg sz x=>mN st.b [] agg sz (cm st.t x)
 | .mgetB cc zero ok x k=>nY (fun k=>look k st.b) cc zero ok (cm st.t x) (cm st.t k)
 | .loadZ agg sz x=>BR agg sz (cm st.t x)
def Aw(bB:List (Nat×dA))(dL:List (Nat×Nat)):List (Nat×Nat×dp)->List (Nat×Operand)->Bool
 |[],[]=>true
 |(off,sz,x)::r,(i,o)::s=>(match dL[i]? with|some (wA,t)=>off==wA&&((dZ bB t).map (·.size))==some sz|none=>false)&&eg x o&&Aw bB dL r s
 |_,_=>false
def HU:ai->ai->Bool
 | .int k n,.int bN n'=>decide (k=bN/\n=n')
 | .bool b,.bool b0=>b==b0
 | .str [],.str []=>true
 | .slice a .nil [],.slice b .nil []=>a==b
 | .nilp,.nilp=>true
 | .junk,.junk=>true
 |_,_=>false
def yL:List ai->List ai->Bool
 |[],[]=>true
 |c::cs,d::eJ=>HU c d&&yL cs eJ
 |_,_=>false
def Be:ai->ai->Bool
 | .agg cs,.agg eJ=>yL cs eJ
 | .agg _,_=>false
 |p,q=>HU p q
def yh:List dp->List Operand->Bool
 |[],[]=>true
 |x::xs,o::os=>eg x o&&yh xs os
 |_,_=>false
def zi(bB:List (Nat×dA)):Nat->List Bool->List (Nat×Nat)->Bool
 |_,[],[]=>true
 |n,b::r,(off,t)::dL=>off==n&&(match dZ bB t with|some ⟨_,_,.int _,_⟩=> !b|some ⟨_,_,.str,_⟩=>b|_=>false)&&zi bB (n+1) r dL
 |_,_,_=>false
def Fc(bB:List (Nat×dA))(dL:List Bool)(t:Nat):Bool:=match dZ bB t with
 |some ⟨_,_,.struct gs,_⟩=>zi bB 0 dL gs
 |_=>false
def xW(bB:List (Nat×dA))(cc:hL)(t:Nat):Bool:=match cc with
 | .i=>(match dZ bB t with|some ⟨_,_,.int _,_⟩=>true|_=>false)
 | .s=>(match dZ bB t with|some ⟨_,_,.str,_⟩=>true|_=>false)
 | .a dL=>Fc bB dL t
def NK:List ai->ai->Bool
 |cs,.agg eJ=>yL cs eJ
 |_,_=>false
def wC:Option dp->Option Operand->Bool
 |none,none=>true
 |some x,some o=>eg x o
 |_,_=>false
def D2(bB:List (Nat×dA)):fU->Op->Bool
 | .mov x,.move o=>eg x o
 | .mov x,.assign o=>eg x o
 | .pick c x y,.pick cl XU XY=>eg c cl&&eg x XU&&eg y XY
 | .load agg sz x,.load t o=>(match dZ bB t with|some f=>f.size==sz&&f.kind.isAgg==agg|none=>false)&&eg x o
 | .faddr off agg sz x,.fieldAddr s o i=>
  (match dZ bB s with
   |some ⟨_,_,.struct dL,_⟩=>(match dL[i]? with|some (wA,t)=>off==wA&&(match dZ bB t with|some f=>f.size==sz&&f.kind.isAgg==agg&&sz !=0|none=>false)|none=>false)
   |_=>false)&&eg x o
 | .fld off agg sz x,.field s o i=>
  (match dZ bB s with
   |some ⟨_,_,.struct dL,_⟩=>(match dL[i]? with|some (wA,t)=>off==wA&&(match dZ bB t with|some f=>f.size==sz&&f.kind.isAgg==agg|none=>false)|none=>false)
   |_=>false)&&eg x o
 | .iaddr sz x i,.indexAddr t o j=>(match dZ bB t with|some ⟨_,_,.slice e,_⟩=>(match dZ bB e with|some f=>f.size==sz|none=>false)|_=>false)&&eg x o&&eg i j
 | .sidx x i,.index t o j=>(match dZ bB t with|some ⟨_,_,.str,_⟩=>true|_=>false)&&eg x o&&eg i j
 | .ssl x lo hi,.slice t o l h none=>(match dZ bB t with|some ⟨_,_,.str,_⟩=>true|_=>false)&&eg x o&&wC lo l&&wC hi h
 | .lsl sz x lo hi,.slice t o l h none=>(match dZ bB t with|some ⟨_,_,.slice e,_⟩=>(match dZ bB e with|some f=>f.size==sz|none=>false)|_=>false)&&eg x o&&wC lo l&&wC hi h
 | .bin op _ x y,.binOp U8 _ o o' _=>decide (op=U8)&&eg x o&&eg y o'
 | .notB x,.unOp op _ o=>decide (op= .not)&&eg x o
 | .neg x,.unOp op _ o=>decide (op= .neg)&&eg x o
 | .conv k x,.convert s d o=>(match dZ bB s,dZ bB d with|some ⟨_,_,.int _,_⟩,some ⟨_,_,.int bN,_⟩=>decide (k=bN)|_,_=>false)&&eg x o
 | .ext i x,.extract o j=>i==j&&eg x o
 | .len x,.call ⟨.builtin .len,⟨[o]⟩,⟨[t]⟩⟩=>(match dZ bB t with|some ⟨_,_,.slice _,_⟩=>true|_=>false)&&eg x o
 | .slen x,.call ⟨.builtin .len,⟨[o]⟩,⟨[t]⟩⟩=>(match dZ bB t with|some ⟨_,_,.str,_⟩=>true|_=>false)&&eg x o
 | .build zero parts,.build t cz=>(match dZ bB t with|some ⟨_,_,.struct dL,z⟩=>NK zero z&&(dL.all fun x=>(dZ bB x.2).isSome)&&Aw bB dL parts cz.toList|_=>false)
 | .nck x,.nilCheck o=>eg x o
 | .min2 x y,.call ⟨.builtin .min,⟨[o,o']⟩,⟨[_,_]⟩⟩=>eg x o&&eg y o'
 | .mkf n xs,.makeFunc (.func m) ⟨[]⟩ os=>n==m&&yh xs os.toList
 | .mget cc zero ok x k,.lookup t o o' GD=>ok==GD&&(match dZ bB t with|some ⟨_,_,.map mM pd,_⟩=>xW bB cc mM&&(match dZ bB pd with|some f=>Be zero f.zero|none=>false)|_=>false)&&eg x o&&eg k o'
 | .ment x,.entry o=>eg x o
 | .mlen x,.call ⟨.builtin .len,⟨[o]⟩,⟨[t]⟩⟩=>(match dZ bB t with|some ⟨_,_,.map _ _,_⟩=>true|_=>false)&&eg x o
 | .beq neg dL x y,.binOp op t o o' _=>decide (op=if neg then .neq else .eql)&&(match dL with|none=>(match dZ bB t with|some ⟨_,_,.bool,_⟩=>true|_=>false)|some dL=>Fc bB dL t)&&eg x o&&eg y o'
 | .max2 x y,.call ⟨.builtin .max,⟨[o,o']⟩,⟨[_,_]⟩⟩=>eg x o&&eg y o'
 | .mkif t x,.makeInterface dK o=>t==dK&&(match dZ bB t with|some ⟨_,_,.slice _,_⟩=>true|_=>false)&&eg x o
 | .loadB agg sz x,.load t o=>(match dZ bB t with|some f=>f.size==sz&&f.kind.isAgg==agg|none=>false)&&eg x o
 | .loadZ agg sz x,.load t o=>(match dZ bB t with|some f=>f.size==sz&&f.kind.isAgg==agg|none=>false)&&eg x o
 | .mgetB cc zero ok x k,.lookup t o o' GD=>ok==GD&&(match dZ bB t with|some ⟨_,_,.map mM pd,_⟩=>xW bB cc mM&&(match dZ bB pd with|some f=>Be zero f.zero|none=>false)|_=>false)&&eg x o&&eg k o'
 |_,_=>false
end
section
open Go Go.RowKit
theorem I5(P:cG)(w:World)(op:BinOp)(t:gG)(x y:Operand)(k bN:IntKind)(m n:Int):(eqGuard op t x y (.int k m) (.int bN n)).run P w= .ok () w:=by cases op<;>rfl
theorem Z0(P:cG)(w:World)(op:BinOp)(t:gG)(x y:Operand)(m n:ByteArray):(eqGuard op t x y (.string m) (.string n)).run P w= .ok () w:=by cases op<;>rfl
theorem al1(l:List c4):(⟨l.toArray⟩:ByteArray).toList=l:=by simp
theorem YE(a b:List c4):(⟨a.toArray⟩:ByteArray)++(⟨b.toArray⟩:ByteArray)=⟨(a++b).toArray⟩:=by apply anh;simp
theorem aaV(a:List c4)(l h:Nat):(⟨a.toArray⟩:ByteArray).extract l h=⟨((a.take h).drop l).toArray⟩:=by apply anh;simp[List.drop_take]
theorem DR(a:List c4):(⟨a.toArray⟩:ByteArray).size=a.length:=by simp[arA]
section
variable {P:cG} {w:World} {r:Sem Value}
theorem rD{k:IntKind}{x:Int}(h:r.run P w= .ok (.int k x) w):∃v,r.run P w= .ok v w/\∀Z,bd w Z (.int k x) v:=⟨_,h,fun Z=>by simp[bd]⟩
theorem RS{x:Bool}(h:r.run P w= .ok (.bool x) w):∃v,r.run P w= .ok v w/\∀Z,bd w Z (.bool x) v:=⟨_,h,fun Z=>by simp[bd]⟩
end
theorem agb(P:cG)(w:World){op:BinOp}{wr:Bool}{k:IntKind}{a b:Int}{c:Prop}{p:ai}(he:bh op wr k a b=some (c,p))(aq:c)(t:gG):
  ∃v,(binOp op t (.int k a) (.int k b)).run P w= .ok v w/\∀Z,bd w Z p v:=by
 cases op<;>simp only[bh]at he;case add=>
  cases wr<;>simp only[if_true,gF,if_false]at he<;>cases he
  ·obtain⟨rfl,h⟩:=aq;exact rD (by simp[binOp,Op.intArith,ml _ h])
  ·exact rD (by simp[binOp,Op.intArith])
 case sub=>
  cases wr<;>simp only[if_true,gF,if_false]at he<;>cases he
  ·obtain⟨rfl,h⟩:=aq;exact rD (by simp[binOp,Op.intArith,ml _ h])
  ·exact rD (by simp[binOp,Op.intArith])
 case mul=>
  cases wr<;>simp only[if_true,gF,if_false]at he<;>cases he
  ·obtain⟨rfl,h⟩:=aq;exact rD (by simp[binOp,Op.intArith,ml _ h])
  ·exact rD (by simp[binOp,Op.intArith])
 case quo=>cases he;exact rD (by simp[binOp,Op.intDiv,aq])
 case rem=>cases he;exact rD (by simp[binOp,Op.intDiv,aq])
 case and=>cases he;exact rD (by simp only[binOp,Op.intBits,ne_eq,not_true_eq_false,if_false,gq])
 case or=>cases he;exact rD (by simp only[binOp,Op.intBits,ne_eq,not_true_eq_false,if_false,gq])
 case xor=>cases he;exact rD (by simp only[binOp,Op.intBits,ne_eq,not_true_eq_false,if_false,gq])
 all_goals cases he
 all_goals exact RS (by simp only[binOp,Op.intCmp,ne_eq,not_true_eq_false,if_false,gq,gt_iff_lt,ge_iff_le])
theorem alF(P:cG)(w:World){op:BinOp}{a b:List c4}{c:Prop}{p:ai}(he:HB op a b=some (c,p))(aq:c)(t:gG):
  ∃v,(binOp op t (.string ⟨a.toArray⟩) (.string ⟨b.toArray⟩)).run P w= .ok v w/\∀Z,bd w Z p v:=by
 cases op<;>simp only[HB]at he;case add=>
  cases he;refine⟨.string ⟨(a++b).toArray⟩,?_,fun Z=>by simp only[bd];exact⟨trivial,by simpa using aq⟩⟩;have J:¬(((⟨a.toArray⟩:ByteArray).size+(⟨b.toArray⟩:ByteArray).size:Nat):Int)>mj.max:=by
   have:mj.max=9223372036854775807:=by decide
   rw[this,DR,DR];simp only[lim]at aq;omega
  simp only[binOp,Op.stringOp,J,if_false,gq,YE]
 all_goals cases he
 all_goals exact RS (by simp only[binOp,Op.stringOp,al1,gq])
theorem YT(P:cG)(w:World)(Z:bc){op:BinOp}{wr:Bool}{x y:ai}{c:Prop}{p:ai}(he:be op wr x y=some (c,p))(aq:c)(t:gG){u v:Value}(hu:bd w Z x u)(av:bd w Z y v)(o o':Operand):
  ∃r,(do eqGuard op t o o' u v;binOp op t u v).run P w= .ok r w/\bd w Z p r:=by
 unfold be at he;split at he
 ·rename_i k a bN b;simp only[bd]at hu av;subst hu;subst av;split at he
  ·cases he;refine⟨_,?_,by simp[bd];rfl⟩;simp[binOp,Op.shift,I5,Int.not_lt.2 aq]
  ·cases he;refine⟨_,?_,by simp[bd];rfl⟩;simp[binOp,Op.shift,I5,Int.not_lt.2 aq]
  ·split at he
   ·rename_i ad;subst ad;obtain⟨r,J,U⟩:=agb P w he aq t;exact⟨r,by simp[I5,J],U Z⟩
   ·cases he
 ·simp only[bd]at hu av;rw[hu.1,av.1];obtain⟨r,J,U⟩:=alF P w he aq t;exact⟨r,by simp[Z0,J],U Z⟩
 ·cases he
theorem Jm{w:World}{Z:bc}:∀(v:List Value) (i off:Nat) (cs:Array Value),off+i+v.length<=cs.size->
  ((v.zipIdx i).foldl (fun cs (x:Value×Nat)=>cs.setIfInBounds (off+x.2) x.1) cs).toList=cs.toList.take (off+i)++v++cs.toList.drop (off+i+v.length)
 |[],i,off,cs,_=>by simp
 |u::v,i,off,cs,h=>by
  simp only[List.zipIdx_cons,List.foldl_cons];rw[Jm (w:=w) (Z:=Z) v (i+1) off _ (by simp at h⊢;omega)];have bt:off+i<cs.toList.length:=by simp at h⊢;omega
  simp only[Array.toList_setIfInBounds];have ao:(cs.toList.set (off+i) u).take (off+(i+1))=cs.toList.take (off+i)++[u]:=by rw[show off+(i+1)=(off+i)+1 from by omega,List.take_succ_eq_append_getElem (by simpa using bt)];simp[List.take_set_of_le (eC _)]
  have aF:(cs.toList.set (off+i) u).drop (off+(i+1)+v.length)=cs.toList.drop (off+i+(u::v).length):=by rw[List.drop_set_of_lt Ω];congr 1;simp;omega
  rw[ao,aF];simp
theorem WN{w:World}{Z:bc}{C:fa}{st:bo}{a:Act}(aK:cS C st a w Z){bB:List (Nat×dA)}{dL:List (Nat×Nat)}{tB:List (Nat×Nat)}
  (bL:∀(i off t sz:Nat),dL[i]? =some (off,t)->(dZ bB t).map (·.size)=some sz->tB[i]? =some (off,sz)):
  ∀(parts:List (Nat×Nat×dp)) (cz:List (Nat×Operand)) (cs:List ai) (us:Array Value) (c:Prop) (cs':List ai),Aw bB dL parts cz=true->dn w Z cs us.toList->ub st.t cs parts=some (c,cs')->c->
  ∃ch:Array Value,Instr.fill (tB.toArray[·]?) us (cz.map fun(x:Nat×Operand)=>(x.1,a.eval x.2))=some ch/\dn w Z cs' ch.toList
 |[],[],cs,us,c,cs',_,h,he,aq=>by simp only[ub]at he;cases he;exact⟨us,by simp[Instr.fill],h⟩
 |[],_::_,_,_,_,_,e0,_,_,_=>by simp[Aw]at e0
 |_::_,[],_,_,_,_,e0,_,_,_=>by simp[Aw]at e0
 |(off,sz,x)::parts,(i,o)::cz,cs,us,c,cs',e0,h,he,aq=>by
  simp only[Aw,ct]at e0;obtain⟨⟨J,U⟩,al⟩:=e0;split at J
  ·rename_i wA t Ce;simp only[ct,dM]at J;obtain⟨rfl,J⟩:=J;have tf:=bL i off t sz Ce J;simp only[ub]at he;split at he
   ·rename_i cl aom ab;cases he;obtain⟨⟨af,au,hle⟩,hA⟩:=aq;have ae:=eh aK U;have kA:=u2 ae af;have hlen:=pJ kA;have rW:=pJ h;have kU:(a.eval o).cells.size=sz:=by have:(a.eval o).cells.toList.length=(cells (cm st.t x)).length:=hlen;rw[au]at this;simpa using this
    have qS:us.size=cs.length:=by simpa using rW
    have xN:=Jm (w:=w) (Z:=Z) (a.eval o).cells.toList 0 off us (by simp[kU,qS];omega);have mG:dn w Z (n3 cs off (cells (cm st.t x))) ((((a.eval o).cells.toList.zipIdx 0).foldl (fun cs (x:Value×Nat)=>cs.setIfInBounds (off+x.2) x.1) us).toList):=by rw[xN];unfold n3;refine yt (yt (DC off h) kA) ?_;rw[Nat.add_zero,hlen];exact AL _ h
    obtain⟨ch,g1,g2⟩:=WN aK bL parts cz _ _ cl cs' al mG ab hA;refine⟨ch,?_,g2⟩;simp only[eO,Instr.fill,List.getElem?_toArray,tf];rw[if_neg (by simp[kU,qS];omega)];rw[<-g1];simp only[List.getElem?_toArray];congr 1;rw[<-Array.foldl_toList];simp
   ·cases he
  ·cases J
end
section
open Go Go.RowKit
theorem vc{P:cG}{bB:List (Nat×dA)}(aI:fN P bB=true){t:Nat}{f:dA}(aO:dZ bB t=some f)(w:World):
  (Go.isAgg t).run P w= .ok f.kind.isAgg w/\(sizeOf t).run P w= .ok f.size w:=by
 obtain⟨i,d,z,J,U,al,a1,bW,dd,dW,nQ⟩:=(vd aI aO).ex;refine⟨?_,by simp[sizeOf,typeInfo,J,al]⟩;simp only[Go.isAgg,fH,run_underlying U,fO];cases ad:f.kind<;>rw[ad]at bW<;>cases d<;>simp[kP]at bW<;>simp[Bl.isAgg]
theorem iZ{P:cG}{bB:List (Nat×dA)}(aI:fN P bB=true){t:Nat}{f:dA}(aO:dZ bB t=some f):∃d,P.underlying t=some d/\kP f.kind d=true:=by obtain⟨i,d,z,J,U,al,a1,bW,dd,dW,nQ⟩:=(vd aI aO).ex;exact⟨d,U,bW⟩
theorem sN{e:Nat}{d:TypeDesc}(h:kP (.slice e) d=true):d= .slice e:=by cases d<;>simp[kP]at h;subst h;rfl
theorem y9{d:TypeDesc}(h:kP .str d=true):d= .string:=by cases d<;>simp[kP]at h;rfl
theorem EY{k:IntKind}{d:TypeDesc}(h:kP (.int k) d=true):d= .int k:=by cases d<;>simp[kP]at h;subst h;rfl
theorem IS{dL:List (Nat×Nat)}{d:TypeDesc}(h:kP (.struct dL) d=true):∃gs:Array Field,d= .struct gs/\gs.toList.map (fun f=>(f.offset,f.type))=dL:=by cases d<;>simp[kP]at h;rename_i gs;exact⟨gs,rfl,by simpa using h⟩
theorem Hi{w:World}{Z:bc}{cs:List ai}{us:List Value}(h:dn w Z cs us)(off sz:Nat):dn w Z ((cs.drop off).take sz) ((us.drop off).take sz):=DC sz (AL off h)
theorem Vd{w:World}{base el sz n:Nat}{v:Value}{us:List Value}(h:w.ownsRow base el sz v n us){b:Nat}(ab:v.ownBlock=some b):∃cap,v= .slice (some ⟨b,0,none⟩) n cap:=by
 rcases h.2 with⟨rfl,_⟩|⟨g,cap,cur,rfl,_⟩
 ·simp[oc]at ab
 ·simp[oc]at ab;subst ab;exact⟨cap,rfl⟩
theorem Good.rowElem{pr:Nat->Prop}{w:World}{Z:bc}{b:List (aL×List ai)}{e:List (aL×fQ)}(aW:Good pr w Z b e){k:aL}{n el sz:Nat}{xs:List ai}(ad:look k e=some ⟨n,el,sz,some xs⟩){i f:Nat}{u:Value}(ae:bd w Z (.rptr sz k n i f) u){p:ai}(bL:xs[i]? =some p):
  ∃(v:Value) (us:List Value) (fW:Nat),bd w Z p v/\v.cells.size=sz/\∃b o,u= .pointer (some ⟨b,o,none⟩)/\∀j c,v.cells.toList[f+j]? =some c->w.cell? ⟨b,o+j,none⟩=some c:=by
 simp only[bd]at ae;obtain⟨_,hi,n',e3,J,U,al⟩:=ae;obtain⟨v,us,aZ,bm,bP,cP⟩:=aW.own k _ ad;rw[J]at aZ;simp only[dy,jE]at aZ;obtain⟨rfl,rfl⟩:=aZ;obtain⟨bl,ab,rfl⟩:=al rfl;obtain⟨cap,rfl⟩:=Vd bm ab;obtain⟨au,mG,_⟩:=cP xs rfl;simp only at au mG;obtain⟨v,eR,fM,pG⟩:=Hf i mG bL;refine⟨v,us,el,eR,fM,bl,_,rfl,fun j c ag=>?_⟩;have bt:f+j<sz:=by have:=(fp.1 ag).1;simp[fM]at this;exact this
 have hmul:i*sz+sz<=n'*sz:=by have:=qq sz (show i+1<=n' from hi);rwa[Nat.succ_mul]at this
 have aq:=bm.cellAt (i*sz+f+j) (by show _<n'*sz;omega);rw[aq];rw[pG,List.getElem?_take,if_pos bt,List.getElem?_drop]at ag;rw[<-ag];congr 1;omega
theorem Gp{P:cG}{bB:List (Nat×dA)}(aI:fN P bB=true){pr:Nat->Prop}{w:World}{Z:bc}{b:List (aL×List ai)}{e:List (aL×fQ)}(aW:Good pr w Z b e){t:Nat}{f:dA}(aO:dZ bB t=some f)
  {x:ai} {u:Value} (ae:bd w Z x u) {c:Prop} {p:ai} (he:mN b e f.kind.isAgg f.size x=some (c,p)) (aq:c):∃v,(Instr.loadAt t u).run P w= .ok v w/\bd w Z p v:=by
 obtain⟨a7,af⟩:=vc aI aO w;generalize qL:f.kind.isAgg=fV at*;generalize ee:f.size=sz at*;unfold mN at he;split at he
 ·rename_i dH k n i sT;unfold yx at he;split at he
  ·rename_i n' el jo xs ad;split at he
   ·rename_i az;obtain⟨rfl,rfl⟩:=az;split at he
    ·rename_i ajQ afu;obtain⟨Nz,us,fW,g1,g2,mB⟩:=Good.rowElem aW ad ae afu;have h4:eH ajQ=true:=by
      cases fV
      ·simp only[gF,if_false,gr]at he;obtain⟨q,_,he⟩:=he;cases he;exact aq
      ·simp only[if_true]at he;cases he;exact aq.1
     have dg:=u2 g1 h4;cases fV
     ·simp only[gF,if_false,gr]at he;obtain⟨q,bI,he⟩:=he;cases he;obtain⟨v,f1,f2,f3⟩:=DB sT dg bI;refine⟨v,?_,f2⟩;obtain⟨b,o,rfl,mB⟩:=mB;have:=mB 0 v (by simpa using f1);simp only[Nat.add_zero]at this;simp[Instr.loadAt,Instr.sureAddr,loadVar,a7,this]
     ·simp only[if_true]at he;cases he;obtain⟨b,o,rfl,mB⟩:=mB;refine⟨.agg ((Nz.cells.toList.drop sT).take sz).toArray,?_,by simp only[bd];exact⟨_,rfl,by simpa using Hi dg sT sz⟩⟩;have au:=pJ dg;have hlen:((Nz.cells.toList.drop sT).take sz).length=sz:=by simp only[List.length_take,sB];omega
      have iV:=run_loadCells_list (P:=P) w ⟨b,o,none⟩ ((Nz.cells.toList.drop sT).take sz) (fun j v ag=>by
       rw[o4];refine mB j v ?_;rw[List.getElem?_take]at ag;split at ag
       ·simpa[List.getElem?_drop]using ag
       ·cases ag)
      rw[hlen]at iV;simp only[Instr.loadAt,Instr.sureAddr,loadVar,fH,gq,fO,a7,if_true,af,iV]
    ·cases he
   ·cases he
  ·cases he
 ·rename_i k off;simp only[bd]at ae;obtain⟨bl,J,rfl⟩:=ae;split at he
  ·rename_i cs ad;obtain⟨iD,us,el,g1,g2,g3,g4,g5⟩:=aW.box k cs ad;rw[J]at g1;cases g1;have tf:hS cs=true:=by
    cases fV
    ·simp only[gF,if_false,gr]at he;obtain⟨q,bI,he⟩:=he;cases he;exact aq
    ·simp only[if_true]at he;cases he;exact aq.1
   rw[uU tf]at g4;rw[uV tf]at g5;have au:=pJ g5;cases fV
   ·simp only[gF,if_false,gr]at he;obtain⟨q,bI,he⟩:=he;cases he;obtain⟨v,f1,f2,f3⟩:=DB off g5 bI;refine⟨v,?_,f2⟩;have mB:w.cell? ⟨bl,off,none⟩=some v:=by simpa[World.cell?,g4]using f1
    simp[Instr.loadAt,Instr.sureAddr,loadVar,a7,mB]
   ·simp only[if_true]at he;cases he;replace aq:=aq.2;refine⟨_,?_,by simp only[bd];exact⟨_,rfl,by simpa using Hi g5 off sz⟩⟩;simp only[Instr.loadAt,Instr.sureAddr,loadVar,fH,gq,fO,a7,if_true,af];rw[akV g4 (by simp at au;omega)];rfl
  ·cases he
 ·rename_i q;simp only[bd]at ae;obtain⟨bl,off,e3,rfl,U,al⟩:=ae;cases fV
  ·simp only[gF,if_false]at he;cases he;obtain⟨rM,oC⟩:=aq;obtain⟨g1,g2⟩:=MA U rM (fun cs e=>by subst e;have:=e4 List.length oC;simp only[cells,oe,List.length_nil]at this;cases cs with
    |nil=>simp[cells]at oC
    |cons y ys=>simp only[cells,yO]at oC;obtain⟨ao,aF⟩:=oC;subst aF;have:=e4 SizeOf.sizeOf ao;simp at this;omega)
   refine⟨e3,?_,U⟩;rw[g2]at al;have mB:=al.1.2;simp[Instr.loadAt,Instr.sureAddr,loadVar,a7,mB]
  ·simp only[if_true]at he;cases he;obtain⟨cs,rfl,hlen⟩:=aq;simp only[bd]at U;obtain⟨us,rfl,a1⟩:=U;refine⟨.agg us,?_,by simp only[bd];exact⟨us,rfl,a1⟩⟩;simp only[oV]at al;have au:=pJ a1;have:=akW (P:=P) al;rw[show us.toList.length=sz from by omega]at this;simp[Instr.loadAt,Instr.sureAddr,loadVar,a7,af,this]
 ·cases he
theorem acU{P:cG}{bB:List (Nat×dA)}(aI:fN P bB=true){w:World}{Z:bc}{s i:Nat}{f:dA}{dL:List (Nat×Nat)}(aO:dZ bB s=some f)(ad:f.kind= .struct dL){off t:Nat}{g:dA}(hi:dL[i]? =some (off,t))(aW:dZ bB t=some g)(bA:g.size≠0)
  {x:ai} {u:Value} (ae:bd w Z x u) {c:Prop} {p:ai} (he:qJ off g.kind.isAgg g.size x=some (c,p)) (aq:c):∃v,(Instr.fieldAt s u i).run P w= .ok v w/\bd w Z p v:=by
 obtain⟨d,aG,eW⟩:=iZ aI aO;rw[ad]at eW;obtain⟨gs,rfl,kB⟩:=IS eW;have ux:∃fd:Field,gs[i]? =some fd/\fd.offset=off/\fd.type=t:=by rw[<-kB]at hi;simp only[List.getElem?_map,gr]at hi;obtain⟨fd,J,U⟩:=hi;simp only[jE]at U;exact⟨fd,by simpa using J,U.1,U.2⟩
 obtain⟨fd,Fz,aw,oH⟩:=ux;obtain⟨a7,af⟩:=vc aI aW w;have iV:∀b o,(Instr.fieldAt s (.pointer (some ⟨b,o,none⟩)) i).run P w= .ok (.pointer (some ⟨b,o+off,none⟩)) w:=by intro b o;simp[Instr.fieldAt,run_underlying aG,Fz,Instr.sureAddr,fieldPlace,oH,af,bA,o4,aw]
 unfold qJ at he;split at he
 ·cases he;simp only[bd]at ae;obtain⟨b,J,rfl⟩:=ae;exact⟨_,iV _ _,by simp only[bd];exact⟨b,J,rfl⟩⟩
 ·cases he;simp only[bd]at ae;obtain⟨⟨b,o,rfl⟩,hi,n',e3,J,U,al⟩:=ae;refine⟨_,iV _ _,?_⟩;simp only[bd];refine⟨⟨b,_,rfl⟩,hi,n',e3,J,U,fun e=>?_⟩;obtain⟨b0,ao,aF⟩:=al e;simp only[arH,dy,Addr.mk.injEq,and_true]at aF;obtain⟨rfl,rfl⟩:=aF;exact⟨b,ao,by rw[Nat.add_assoc]⟩
 ·rename_i cs;simp only[bd]at ae;obtain⟨b,o,e3,rfl,⟨us,rfl,U⟩,al⟩:=ae;refine⟨_,iV _ _,?_⟩;simp only[oV]at al;split at he
  ·cases he;simp only[bd];exact⟨b,o+off,.agg ((us.toList.drop off).take g.size).toArray,rfl,⟨_,rfl,by simpa using Hi U off g.size⟩,by simpa[oV]using Gk g.size (Gi off al)⟩
  ·simp only[gr]at he;obtain⟨q,bI,he⟩:=he;cases he;obtain⟨v,f1,f2,f3⟩:=DB off U bI;simp only[bd];have afb:=uM al f1;have afR:v.cells= #[v]:=by cases v<;>first|rfl|cases f3
   exact⟨b,o+off,v,rfl,f2,by rw[afR];exact⟨afb,trivial⟩⟩
 ·cases he
theorem ac1{P:cG}{bB:List (Nat×dA)}(aI:fN P bB=true){w:World}{Z:bc}{s i:Nat}{f:dA}{dL:List (Nat×Nat)}(aO:dZ bB s=some f)(ad:f.kind= .struct dL){off t:Nat}{g:dA}(hi:dL[i]? =some (off,t))(aW:dZ bB t=some g)
  {x:ai} {u:Value} (ae:bd w Z x u) {c:Prop} {p:ai} (he:ui off g.kind.isAgg g.size x=some (c,p)) (aq:c):∃v,(Instr.field s u i).run P w= .ok v w/\bd w Z p v:=by
 obtain⟨d,aG,eW⟩:=iZ aI aO;rw[ad]at eW;obtain⟨gs,rfl,kB⟩:=IS eW;have ux:∃fd:Field,gs[i]? =some fd/\fd.offset=off/\fd.type=t:=by rw[<-kB]at hi;simp only[List.getElem?_map,gr]at hi;obtain⟨fd,J,U⟩:=hi;simp only[jE]at U;exact⟨fd,by simpa using J,U.1,U.2⟩
 obtain⟨fd,Fz,aw,oH⟩:=ux;obtain⟨a7,af⟩:=vc aI aW w;unfold ui at he;split at he
 ·rename_i cs;simp only[bd]at ae;obtain⟨us,rfl,U⟩:=ae;generalize qL:g.kind.isAgg=fV at*;cases fV
  ·simp only[gF,if_false,gr]at he;obtain⟨q,bI,he⟩:=he;cases he;obtain⟨v,f1,f2,f3⟩:=DB off U bI;have aaW:us[off]? =some v:=by simpa using f1
   exact⟨v,by simp[Instr.field,run_underlying aG,Fz,asAgg,part,oH,a7,aw,aaW],f2⟩
  ·simp only[if_true]at he;cases he;refine⟨.agg (us.extract off (off+g.size)),by simp[Instr.field,run_underlying aG,Fz,asAgg,part,oH,a7,aw,af],?_⟩;simp only[bd];refine⟨_,rfl,?_⟩;have:=Hi U off g.size;simpa[List.take_drop]using this
 ·cases he
theorem af5{P:cG}{bB:List (Nat×dA)}(aI:fN P bB=true){w:World}{Z:bc}{t e:Nat}{f g:dA}(aO:dZ bB t=some f)(ad:f.kind= .slice e)(aW:dZ bB e=some g)
  {x y:ai} {u v:Value} (ae:bd w Z x u) (aM:bd w Z y v) {c:Prop} {p:ai} (he:zQ g.size x y=some (c,p)) (aq:c):∃r,(Instr.indexAt t u v).run P w= .ok r w/\bd w Z p r:=by
 obtain⟨d,aG,eW⟩:=iZ aI aO;rw[ad]at eW;obtain rfl:=sN eW;obtain⟨a7,af⟩:=vc aI aW w;unfold zQ at he;split at he
 ·rename_i dH tag xs k i;split at he
  ·rename_i ee;cases he;simp only[bd]at ae aM;subst aM;subst ee;obtain⟨⟨a,cap,rfl,J,U,al⟩,_⟩:=ae;obtain⟨Ck,l3⟩:=aq;have jw:i.toNat<xs.length:=Ω
   rcases al with rfl|⟨b,off,us,rfl,a1,bW⟩
   ·simp at jw
   ·have ae:xs[i.toNat]? =some xs[i.toNat]:=cr jw;obtain⟨w',eR,fM,pG⟩:=Hf i.toNat bW ae;refine⟨.pointer (some ⟨b,off+i.toNat*g.size,none⟩),?_,?_⟩
    ·simp only[Instr.indexAt,asIntOf,fH,gq,fO,run_underlying aG,Ck,l3,and_self,if_true,af,o4]
    ·simp only[bd];refine⟨b,off+i.toNat*g.size,w',rfl,by simpa[List.getD,ae]using eR,?_⟩;rw[pG];exact Gk g.size (Gi _ a1)
  ·cases he
 ·rename_i dH k n kk i;split at he
  ·rename_i ee;cases he;simp only[bd]at ae aM;subst aM;subst ee;obtain⟨⟨b,cap,rfl⟩,U,n',e3,al,a1,bW⟩:=ae;obtain⟨Ck,l3⟩:=aq;refine⟨.pointer (some ⟨b,0+i.toNat*g.size,none⟩),?_,?_⟩
   ·simp only[Instr.indexAt,asIntOf,fH,gq,fO,run_underlying aG,Ck,l3,and_self,if_true,af,o4]
   ·simp only[bd];refine⟨⟨b,_,rfl⟩,Ω,n',e3,al,a1,fun e=>⟨b,?_,Ψ⟩⟩;rw[<-bW e];rfl
  ·cases he
 ·cases he
theorem GI{C:fa}{st:bo}{a:Act}{w:World}{Z:bc}(h:cS C st a w Z){x:Option dp}{o:Option Operand}(ae:wC x o=true){EZ n:Int}(he:q0 EZ (x.map (cm st.t))=some n):
  (o.map a.eval=none/\n=EZ)\/ ∃k,o.map a.eval=some (.int k n):=by
 cases x with
 |none=>cases o with
  |none=>simp[q0]at he;exact .inl ⟨rfl,he.symm⟩
  |some o=>simp[wC]at ae
 |some x=>cases o with
  |none=>simp[wC]at ae
  |some o=>
   simp only[wC]at ae
   have:=eh h ae
   simp only[nE]at he⊢
   cases uu:cm st.t x<;>simp[uu,q0]at he
   rw[uu]at this
   simp only[bd]at this
   subst he
   exact .inr ⟨_,by rw[this]⟩
theorem X0{c d:ai}(h:HU c d=true):c=d:=by unfold HU at h;split at h<;>simp_all
theorem NG:∀{cs eJ:List ai},yL cs eJ=true->cs=eJ
 |[],[],_=>rfl
 |[],_::_,h=>by simp[yL]at h
 |_::_,[],h=>by simp[yL]at h
 |c::cs,d::eJ,h=>by simp only[yL,ct]at h;rw[X0 h.1,NG h.2]
theorem anf{cs:List ai}{z:ai}(h:NK cs z=true):z= .agg cs:=by
 cases z<;>simp only[NK]at h;case agg eJ=>rw[NG h]
 all_goals cases h
theorem ad1(s:List c4)(n:Nat)(h:n<s.length):(⟨s.toArray⟩:ByteArray)[n]? =some (s.getD n 0):=by
 have ee:n<(⟨s.toArray⟩:ByteArray).size:=by rw[DR];exact h
 have e:(⟨s.toArray⟩:ByteArray)[n]? =some ((⟨s.toArray⟩:ByteArray)[n]'ee):=getElem?_pos (⟨s.toArray⟩:ByteArray) n ee;rw[e];congr 1;simp[List.getD,h];rfl
theorem Hx(P:cG)(w:World)(k:IntKind)(i:Int)(y:Nat)(c:BoundsCode)(bA:0<=i)(J:i<=y):(Instr.sliceBound (.int k i) y c).run P w= .ok i.toNat w:=by simp[Instr.sliceBound,asIntOf,bA,J]
theorem On(P:cG)(w:World)(agv:Bool)(len cap:Nat)(lo hi:Option Value)(l h:Int)(Cn:(lo=none/\l=0)\/ ∃k,lo=some (.int k l))(Cj:(hi=none/\h=len)\/ ∃k,hi=some (.int k h))
  (bA:0<=l) (J:l<=h) (U:h<=len) (aq:len<=cap):(Instr.sliceBounds agv len cap lo hi none).run P w= .ok (l.toNat,h.toNat,cap) w:=by
 rcases Cn with⟨rfl,rfl⟩|⟨k,rfl⟩<;>rcases Cj with⟨rfl,rfl⟩|⟨bN,rfl⟩
 ·simp[Instr.sliceBounds]
 ·simp[Instr.sliceBounds,Hx P w bN h cap _ Ω Ω]
 ·simp[Instr.sliceBounds,Hx P w k l len _ Ω Ω]
 ·simp[Instr.sliceBounds,Hx P w bN h cap _ Ω Ω,Hx P w k l h.toNat _ Ω Ω]
theorem Vj{P:cG}{bB:List (Nat×dA)}(aI:fN P bB=true):∀(gs:List Field),(gs.all fun f=>(dZ bB f.type).isSome)=true->
  ∃tB:List (Nat×Nat),gs.mapM (fun f=>(P.info? f.type).map fun i=>(f.offset,i.size))=some tB/\
   ∀(i off t sz:Nat),(gs.map (fun f=>(f.offset,f.type)))[i]? =some (off,t)->(dZ bB t).map (·.size)=some sz->tB[i]? =some (off,sz)
 |[],_=>⟨[],Ψ,Ψ⟩
 |f::gs,h=>by
  simp only[List.all_cons,ct]at h;obtain⟨tB,J,U⟩:=Vj aI gs h.2;obtain⟨g,aW⟩:=fP.1 h.1;obtain⟨i,d,z,ao,aF,bM,dt,hO,hI,rq,rr⟩:=(vd aI aW).ex;refine⟨(f.offset,g.size)::tB,by simp[List.mapM_cons,ao,bM,J],fun j off t sz ag ee=>?_⟩;cases j with
  |zero=>simp only[eO,List.getElem?_cons_zero,dy,jE]at ag⊢;obtain⟨rfl,rfl⟩:=ag;rw[aW]at ee;simpa using ee
  |succ j=>simp only[eO,List.getElem?_cons_succ]at ag⊢;exact U j off t sz ag ee
theorem lp{P:cG}{w:World}{x:Sem Value}{v:Value}(h:x.run P w= .ok v w):(do pure (Next.value (<-x)):Sem Next).run P w= .ok (.value v) w:=by simp[h]
theorem NJ{p q:ai}(h:Be p q=true):p=q:=by
 unfold Be at h;split at h
 ·rw[NG h]
 ·cases h
 ·exact X0 h
theorem NI(w:World)(Z:bc){p:ai}{v:Value}(h:yM p v=true):bd w Z p v/\dn w Z (cells p) v.cells.toList:=by
 by_cases a7:∃cs,p= .agg cs
 ·obtain⟨cs,rfl⟩:=a7;cases v<;>simp only[yM]at h;case agg us=>have:=NH w Z _ _ h;exact⟨by simp only[bd];exact⟨us,rfl,this⟩,by simpa[cells,oV]using this⟩
  all_goals cases h
 ·have ck:y0 p v=true/\v.oneCell'=true:=by cases p<;>simp only[yM,ct]at h<;>first|exact h|exact absurd ⟨_,rfl⟩ a7
  have aK:=Is w Z ck.1;refine⟨aK,?_⟩;have aq:cells p=[p]:=by cases p<;>first|rfl|exact absurd ⟨_,rfl⟩ a7
  have av:v.cells= #[v]:=by have:=ck.2;cases v<;>first|rfl|simp[Value.oneCell']at this
  rw[aq,av];simp only[dn];exact⟨v,[],rfl,⟨aK,ck.2⟩,rfl⟩
theorem Nb{P:cG}{bB:List (Nat×dA)}(aI:fN P bB=true){t:Nat}{f:dA}(aO:dZ bB t=some f)(w:World):∃z,(zeroValue t).run P w= .ok z w/\yM f.zero z=true/\z.cells.size=f.size:=by obtain⟨i,d,z,J,U,al,a1,bW,dd,dW,nQ⟩:=(vd aI aO).ex;exact⟨z,by simp[zeroValue,typeInfo,J,dd],dW,nQ⟩
theorem DD{C:fa}{st:bo}{a:Act}{w:World}{Z:bc}(h:cS C st a w Z):∀{xs:List dp} {os:List Operand},yh xs os=true->cR w Z (xs.map (cm st.t)) (os.map a.eval)
 |[],[],_=>by simp[cR]
 |[],_::_,ad=>by simp[yh]at ad
 |_::_,[],ad=>by simp[yh]at ad
 |x::xs,o::os,ad=>by simp only[yh,ct]at ad;simp only[eO,cR];exact⟨_,_,rfl,eh h ad.1,DD h ad.2⟩
theorem Z3{P:cG}{w:World}{t:gG}(aG:P.underlying t=some .bool)(d:Nat)(a b:Bool):(Op.equalIn (d+1) t (.bool a) (.bool b)).run P w= .ok (a==b) w:=by rw[Op.equalIn];simp only[fH,run_underlying aG,fO,gq]
theorem Z4{P:cG}{w:World}{t:gG}(aG:P.underlying t=some .bool)(a b:Bool):(Op.equal t (.bool a) (.bool b)).run P w= .ok (a==b) w:=Z3 aG _ a b
theorem QV:∀{borns:List Nat} {kvs:List ai} {us:List Value},kvs.length=2*borns.length->us.length=kvs.length->(fy borns us).length=borns.length
 |[],_,us,_,_=>by simp[fy]
 |b0::eP,kvs,[],J,U=>by rw[J]at U;simp at U
 |b0::eP,kvs,[_],J,U=>by rw[J]at U;simp at U;omega
 |b0::eP,kvs,k::v::us,J,U=>by simp only[fy,oe];rw[QV (kvs:=kvs.drop 2) (us:=us) (borns:=eP) (by simp at J⊢;omega) (by simp at J U⊢;omega)]
theorem WG{w:World}{Z:bc}:∀{cz:List ai} {ba:List Value},cR w Z cz ba->ba.length=cz.length
 |[],ba,h=>by simp only[cR]at h;subst h;rfl
 |p::cz,ba,h=>by simp only[cR]at h;obtain⟨u,ch,rfl,_,U⟩:=h;simp[WG U]
theorem u6{P:cG}{w:World}{r:Nat}{o:Obj}(ab:w.heap[r]? =some o)(az:∀c e f,o≠ .cells c e f:=by simp):(getObj r).run P w= .ok o w:=by simp only[getObj,Sem.run,ab]
def qs(P:cG):Nat->List Bool->List Field->Prop
 |_,[],[]=>True
 |n,b::r,f::gs=>(f.offset=n/\f.name≠ "_" /\(if b=true then P.underlying f.type=some .string else∃k,P.underlying f.type=some (.int k)))/\qs P (n+1) r gs
 |_,_,_=>eN
theorem Dr{P:cG}{t:gG}{b:Bool}(h:if b=true then P.underlying t=some .string else∃k,P.underlying t=some (.int k)):P.plainKey t=true:=by
 cases b
 ·obtain⟨k,h⟩:=(by simpa using h:∃k,P.underlying t=some (.int k));simp[Program.plainKey,h]
 ·have h:P.underlying t=some .string:=by simpa using h
  simp[Program.plainKey,h]
theorem Y4{P:cG}{w:World}{Z:bc}(d:Nat){X Y:Array Value}(dL:List Bool):∀(gs:List Field) (n:Nat) (as eP:List ai) (us ba:List Value) (q:Bool),qs P n dL gs->X.toList.drop n=us->Y.toList.drop n=ba->dn w Z as us->dn w Z eP ba->ki dL as eP=some q->
  (Op.eqFields (d+1) X Y gs).run P w= .ok q w/\(q=true->us=ba)/\∀m,(us.zip us).all (fun(x,y)=>Instr.sameBits m x y)=true:=by
 induction dL with
 |nil=>intro gs n as eP us ba q aW B6 B7 J U h;cases as<;>cases eP<;>simp only[ki,dy,reduceCtorEq]at h;cases gs<;>simp only[qs]at aW;simp only[dn]at J U;rw[J,U,<-h];exact⟨by simp[Op.eqFields],fun _=>rfl,fun m=>rfl⟩
 |cons hz r bO=>
  intro gs n as eP us ba q aW B6 B7 J U h;cases gs with
  |nil=>simp only[qs]at aW
  |cons f gs=>
  simp only[qs]at aW;obtain⟨⟨FM,Ct,oH⟩,aW⟩:=aW;cases as with
  |nil=>cases hz<;>cases eP<;>simp[ki]at h
  |cons Dp as=>
  cases eP with
  |nil=>cases hz<;>cases Dp<;>simp[ki]at h
  |cons GM eP=>
  cases hz with
  |false=>
   have aq:∃k a b gD,Dp= .int k a/\GM= .int k b/\ki r as eP=some gD/\q=((a==b)&&gD):=by
    cases Dp<;>first|(simp[ki]at h;done)|skip
    cases GM<;>first|(simp[ki]at h;done)|skip
    simp only[ki]at h;split at h
    ·rename_i ad;subst ad;simp only[gr]at h;obtain⟨gD,al,a1⟩:=h;exact⟨_,_,_,gD,rfl,rfl,al,a1.symm⟩
    ·cases h
   obtain⟨k,a,b,gD,rfl,rfl,al,rfl⟩:=aq;simp only[dn,bd]at J U;obtain⟨u,ch,rfl,⟨rfl,_⟩,J⟩:=J;obtain⟨v,vs',rfl,⟨rfl,_⟩,U⟩:=U;have Dn:X[n]? =some (.int k a):=by rw[<-tN,<-List.head?_drop,B6];rfl
   have LW:Y[n]? =some (.int k b):=by rw[<-tN,<-List.head?_drop,B7];rfl
   obtain⟨i1,i2,i3⟩:=bO gs (n+1) as eP ch vs' gD aW (by rw[<-List.tail_drop,B6];rfl) (by rw[<-List.tail_drop,B7];rfl) J U al;obtain⟨kk,Kt⟩:=(by simpa using oH:∃k,P.underlying f.type=some (.int k));refine⟨?_,?_,fun m=>?_⟩
   ·simp only[Op.eqFields,Ct,ne_eq,not_false_eq_true,if_true,fH,FM,run_part_plain w (Dr oH) Dn,run_part_plain w (Dr oH) LW,fO,run_equalIn_int w d f.type k kk a b Kt];cases pn:(a==b)
    ·simp
    ·simpa using i1
   ·intro bI;simp only[ct,dM]at bI;rw[bI.1,i2 bI.2]
   ·have:=i3 m;simp only[List.zip_cons_cons,List.all_cons,this,Bool.and_true];cases m<;>simp[Instr.sameBits]
  |true=>
   have aq:∃a b gD,Dp= .str a/\GM= .str b/\ki r as eP=some gD/\q=((a==b)&&gD):=by
    cases Dp<;>first|(simp[ki]at h;done)|skip
    cases GM<;>first|(simp[ki]at h;done)|skip
    simp only[ki,gr]at h;obtain⟨gD,al,a1⟩:=h;exact⟨_,_,gD,rfl,rfl,al,a1.symm⟩
   obtain⟨a,b,gD,rfl,rfl,al,rfl⟩:=aq;simp only[dn,bd]at J U;obtain⟨u,ch,rfl,⟨⟨rfl,_⟩,_⟩,J⟩:=J;obtain⟨v,vs',rfl,⟨⟨rfl,_⟩,_⟩,U⟩:=U;have Dn:X[n]? =some (.string ⟨a.toArray⟩):=by rw[<-tN,<-List.head?_drop,B6];rfl
   have LW:Y[n]? =some (.string ⟨b.toArray⟩):=by rw[<-tN,<-List.head?_drop,B7];rfl
   obtain⟨i1,i2,i3⟩:=bO gs (n+1) as eP ch vs' gD aW (by rw[<-List.tail_drop,B6];rfl) (by rw[<-List.tail_drop,B7];rfl) J U al;have Kt:P.underlying f.type=some .string:=by simpa using oH
   refine⟨?_,?_,fun m=>?_⟩
   ·simp only[Op.eqFields,Ct,ne_eq,not_false_eq_true,if_true,fH,FM,run_part_plain w (Dr oH) Dn,run_part_plain w (Dr oH) LW,fO,run_equalIn_string w d f.type _ _ Kt];have e:((⟨a.toArray⟩:ByteArray).toList==(⟨b.toArray⟩:ByteArray).toList)=(a==b):=by rw[ani,ani]
    rw[e];cases pn:(a==b)
    ·simp
    ·simpa using i1
   ·intro bI;simp only[ct,dM]at bI;rw[bI.1,i2 bI.2]
   ·have:=i3 m;simp only[List.zip_cons_cons,List.all_cons,this,Bool.and_true];cases m<;>simp only[Instr.sameBits]<;>exact(MapKept.bytes_beq _ _).2 rfl
theorem Rm{P:cG}{bB:List (Nat×dA)}(aI:fN P bB=true):∀(dL:List Bool) (gs:List Field) (n:Nat),zi bB n dL (gs.map fun f=>(f.offset,f.type))=true->(gs.all (fun f=>match P.underlying f.type with|some (.int _)=>true|some .string=>true|_=>false)=true)/\((∀f∈gs,f.name≠ "_")->qs P n dL gs)
 |[],[],_,_=>⟨rfl,fun _=>trivial⟩
 |[],_::_,_,h=>by simp[zi]at h
 |_::_,[],_,h=>by simp[zi]at h
 |b::r,f::gs,n,h=>by
  simp only[eO,zi,ct,dM]at h;obtain⟨⟨J,U⟩,al⟩:=h;obtain⟨i1,i2⟩:=Rm aI r gs (n+1) al;split at U
  ·rename_i aO;obtain⟨d,hu,aG⟩:=iZ aI aO;obtain rfl:=EY aG;refine⟨by simp only[List.all_cons,hu,i1,Bool.and_self],fun az=>⟨⟨J,az f Ψ,?_⟩,i2 fun g aW=>az g (by simp[aW])⟩⟩;have:b=false:=by simpa using U
   subst this;simpa using⟨_,hu⟩
  ·rename_i aO;obtain⟨d,hu,aG⟩:=iZ aI aO;obtain rfl:=y9 aG;refine⟨by simp only[List.all_cons,hu,i1,Bool.and_self],fun az=>⟨⟨J,az f Ψ,?_⟩,i2 fun g aW=>az g (by simp[aW])⟩⟩;subst U;simpa using hu
  ·cases U
theorem Ro{P:cG}{bB:List (Nat×dA)}(aI:fN P bB=true){dL:List Bool}{t:Nat}(h:Fc bB dL t=true):∃gs,P.underlying t=some (.struct gs)/\qs P 0 dL gs.toList/\P.stoodInHeld t=false/\P.eqGuardType P.depth t=false:=by
 unfold Fc at h;split at h
 ·rename_i aO;obtain⟨d,hu,aG⟩:=iZ aI aO;have aq:=(vd aI aO).cmp d hu;cases d<;>simp[kP]at aG;rename_i gs;subst aG;obtain⟨i1,i2⟩:=Rm aI dL gs.toList 0 h;have s7:Rn P gs=true:=i1;simp only[IN,s7,Bool.not_true,Bool.false_or,QC,ct,qo,gH,bne_iff_ne,ne_eq]at aq;exact⟨gs,hu,i2 aq.1.1,aq.1.2,aq.2⟩
 ·cases h
theorem QZ{P:cG}{w:World}{Z:bc}{t:gG}{gs:Array Field}{dL:List Bool}(hu:P.underlying t=some (.struct gs))(aW:qs P 0 dL gs.toList)(dh:P.stoodInHeld t=false){as eP:List ai}{X Y:Array Value}(J:dn w Z as X.toList)(U:dn w Z eP Y.toList){q:Bool}(h:ki dL as eP=some q):
  (Op.equalIn 10000 t (.agg X) (.agg Y)).run P w= .ok q w/\(q=true->X=Y)/\∀m,(X.toList.zip X.toList).all (fun(x,y)=>Instr.sameBits m x y)=true:=by
 have aO:P.fieldsOf t=gs:=by simp[Program.fieldsOf,hu]
 obtain⟨i1,i2,i3⟩:=Y4 9998 dL gs.toList 0 as eP _ _ q aW rfl rfl J U h;refine⟨?_,fun e=>?_,?_⟩
 ·rw[run_equalIn_struct w 9999 t X Y (by rw[aO];exact hu) dh,aO];exact i1
 ·have:=i2 e;simpa using this
 ·simpa using i3
inductive tR (P:cG):hL->gG->Prop
 |i {t:gG} {k:IntKind}:P.underlying t=some (.int k)->tR P .i t
 |s {t:gG}:P.underlying t=some .string->tR P .s t
 |a {t:gG} {dL:List Bool} {gs:Array Field}:P.underlying t=some (.struct gs)->qs P 0 dL gs.toList->P.stoodInHeld t=false->tR P (.a dL) t
theorem KV{P:cG}{bB:List (Nat×dA)}(aI:fN P bB=true){cc:hL}{t:Nat}(h:xW bB cc t=true):tR P cc t:=by
 cases cc with
 |i=>
  simp only[xW]at h;split at h
  ·rename_i aO;obtain⟨d,hu,aG⟩:=iZ aI aO;obtain rfl:=EY aG;exact .i hu
  ·cases h
 |s=>
  simp only[xW]at h;split at h
  ·rename_i aO;obtain⟨d,hu,aG⟩:=iZ aI aO;obtain rfl:=y9 aG;exact .s hu
  ·cases h
 |a dL=>obtain⟨gs,J,U,al,_⟩:=Ro aI h;exact .a J U al
def sG(P:cG)(w:World)(cc:hL)(t:gG)(gi u:Value)(b:Bool):Prop:=match cc with
 | .a _=>(Op.equal t gi u).run P w= .ok b w
 |_=> ∀d,P.underlying t=some d->Instr.sameNow d gi u=some b
def hX(P:cG)(w:World)(cc:hL)(t:gG)(gi:Value)(es:List MapEntry)(i:Nat)(r:Option (Nat×Value)):Prop:=match cc with
 | .a _=>(Instr.findAsking t gi es i).run P w= .ok r w
 |_=> ∀d,P.underlying t=some d->Instr.findNow d gi es i=some r
theorem hX.nil(P:cG)(w:World)(cc:hL)(t:gG)(gi:Value)(i:Nat):hX P w cc t gi [] i none:=by cases cc<;>simp[hX,Instr.findAsking,Instr.findNow]
theorem hX.hit{P:cG}{w:World}{cc:hL}{t:gG}{gi:Value}{e:MapEntry}{es:List MapEntry}{i:Nat}(h:sG P w cc t gi e.key true):hX P w cc t gi (e::es) i (some (i,e.val)):=by
 cases cc with
 |a dL=>simp only[sG]at h;simp[hX,Instr.findAsking,h]
 |i=>simp only[sG]at h;simp only[hX];intro d aG;simp[Instr.findNow,h d aG]
 |s=>simp only[sG]at h;simp only[hX];intro d aG;simp[Instr.findNow,h d aG]
theorem hX.miss{P:cG}{w:World}{cc:hL}{t:gG}{gi:Value}{e:MapEntry}{es:List MapEntry}{i:Nat}{r:Option (Nat×Value)}(h:sG P w cc t gi e.key false)(aK:hX P w cc t gi es (i+1) r):hX P w cc t gi (e::es) i r:=by
 cases cc with
 |a dL=>simp only[sG]at h;simp only[hX]at aK;simp[hX,Instr.findAsking,h,aK]
 |i=>simp only[sG]at h;simp only[hX]at aK⊢;intro d aG;simp[Instr.findNow,h d aG,aK d aG]
 |s=>simp only[sG]at h;simp only[hX]at aK⊢;intro d aG;simp[Instr.findNow,h d aG,aK d aG]
theorem hX.run{P:cG}{w:World}{cc:hL}{t:gG}(aG:tR P cc t){gi:Value}{es:List MapEntry}{r:Option (Nat×Value)}(h:hX P w cc t gi es 0 r):(Instr.findKey t gi es).run P w= .ok r w:=by
 cases aG with
 |i hu=>simp only[hX]at h;simp[Instr.findKey,run_underlying hu,h _ hu]
 |s hu=>simp only[hX]at h;simp[Instr.findKey,run_underlying hu,h _ hu]
 |a hu aW dh=>
  simp only[hX]at h;cases es with
  |nil=>simp[Instr.findAsking]at h;simp[Instr.findKey,run_underlying hu,Instr.findNow,h]
  |cons e es=>
   rename_i gs;have:Instr.sameNow (.struct gs) gi e.key=none:=by cases gi<;>rfl
   simp only[Instr.findKey,fH,run_underlying hu,fO,Instr.findNow,this];exact h
theorem TP{P:cG}{w:World}{Z:bc}{cc:hL}{t:gG}(aG:tR P cc t){k bN:ai}{gi u:Value}(ad:bd w Z k gi)(J:bd w Z bN u){bb:Bool}(ab:tl cc k bN=some bb):
  sG P w cc t gi u bb/\(bb=true->u=gi/\Instr.sameBits 10000 u gi=true):=by
 unfold tl at ab;split at ab
 ·split at ab
  ·rename_i lC;subst lC;simp only[bd]at ad J;subst ad;subst J;cases aG with
   |i hu=>refine⟨fun d aG=>by rw[hu]at aG;cases aG;simpa[Instr.sameNow]using ab,fun e=>?_⟩;subst e;simp only[dy,dM]at ab;subst ab;exact⟨rfl,by simp[Instr.sameBits]⟩
  ·cases ab
 ·rename_i a b;simp only[bd]at ad J;obtain⟨rfl,_⟩:=ad;obtain⟨rfl,_⟩:=J;cases aG with
  |s hu=>
   refine⟨fun d aG=>?_,fun e=>?_⟩
   ·rw[hu]at aG;cases aG;simp only[Instr.sameNow];rw[<-ab];congr 1;rw[pN,MapKept.bytes_beq];simp
   ·subst e;simp only[dy,dM]at ab;subst ab;exact⟨rfl,by simp only[Instr.sameBits];exact(MapKept.bytes_beq _ _).2 rfl⟩
 ·simp only[bd]at ad J;obtain⟨X,rfl,ad⟩:=ad;obtain⟨Y,rfl,J⟩:=J;cases aG with
  |a hu aW dh=>obtain⟨i1,i2,i3⟩:=QZ hu aW dh ad J ab;refine⟨by simpa[sG,Op.equal,Op.maxDepth]using i1,fun e=>?_⟩;have:=i2 e;subst this;exact⟨rfl,by simp[Instr.sameBits,i3]⟩
 ·cases ab
theorem Lq{P:cG}{w:World}{Z:bc}{cc:hL}{t:gG}(aG:tR P cc t){k:ai}{gi:Value}(ad:bd w Z k gi):∀(borns:List Nat) (kvs:List ai) (us:List Value) (i:Nat) (r:Option ai),cR w Z kvs us->kvs.length=2*borns.length->wm cc k kvs=some r->
  match r with
  |none=>hX P w cc t gi (fy borns us) i none
  |some v=> ∃j u,hX P w cc t gi (fy borns us) i (some (j,u))/\bd w Z v u
 |[],[],us,i,r,h,_,hm=>by simp only[wm]at hm;cases hm;simp only[cR]at h;subst h;simpa[fy]using hX.nil P w cc t gi i
 |[],_::_,_,_,_,_,au,_=>by simp at au
 |b::eP,[],_,_,_,_,au,_=>by simp at au
 |b::eP,[_],_,_,_,_,au,_=>by simp at au;omega
 |b::eP,bN::v::kvs,us,i,r,h,au,hm=>by
  simp only[cR]at h;obtain⟨ja,Ni,rfl,J,jD,sr,rfl,U,al⟩:=h;simp only[wm]at hm;simp only[fy];cases bI:tl cc k bN with
  |none=>simp[bI]at hm
  |some bb=>
   obtain⟨s1,_⟩:=TP aG ad J bI;simp only[bI]at hm;cases bb with
   |true=>simp only[dy]at hm;subst hm;exact⟨i,jD,hX.hit (e:=⟨ja,jD,b⟩) s1,U⟩
   |false=>
    simp only at hm;have bO:=Lq aG ad eP kvs sr (i+1) r al (by simp at au;omega) hm;cases r with
    |none=>exact hX.miss (e:=⟨ja,jD,b⟩) s1 bO
    |some v'=>obtain⟨j,u,g1,g2⟩:=bO;exact⟨j,u,hX.miss (e:=⟨ja,jD,b⟩) s1 g1,g2⟩
theorem IM{P:cG}{w:World}{t:Nat}{d:TypeDesc}(hu:P.underlying t=some d)(aG:(∃k,d= .int k)\/d= .string)(e:Bool)(n:Nat)(v:Value):(Instr.checkKey e (n+1) t v).run P w= .ok () w:=by unfold Instr.checkKey;rcases aG with⟨k,rfl⟩|rfl<;>simp[run_underlying hu]
theorem ac0{P:cG}{w:World}{Z:bc}{X:Array Value}(dL:List Bool):∀(gs:List Field) (n:Nat) (as:List ai),qs P n dL gs->dn w Z as (X.toList.drop n)->(ki dL as as).isSome=true->
  ∀f∈gs,(∃v,(part f.type X f.offset).run P w= .ok v w)/\∃d,P.underlying f.type=some d/\((∃k,d= .int k)\/d= .string):=by
 induction dL with
 |nil=>intro gs n as aW _ _ f aO;cases gs<;>simp only[qs]at aW;cases aO
 |cons hz r bO=>
  intro gs n as aW aK aq f aO;cases gs with
  |nil=>cases aO
  |cons g gs=>
  simp only[qs]at aW;obtain⟨⟨FM,Ct,oH⟩,aW⟩:=aW;cases as with
  |nil=>cases hz<;>simp[ki]at aq
  |cons p as=>
  have hA:(ki r as as).isSome=true:=by cases hz<;>cases p<;>simp[ki]at aq⊢ <;>exact aq
  simp only[dn]at aK;obtain⟨u,ch,e,_,dG⟩:=aK;have aF:X.toList.drop (n+1)=ch:=by rw[<-List.tail_drop,e];rfl
  have Dn:X[n]? =some u:=by rw[<-tN,<-List.head?_drop,e];rfl
  rcases fI.1 aO with rfl|aO
  ·refine⟨⟨u,by rw[FM];exact run_part_plain w (Dr oH) Dn⟩,?_⟩;cases hz
   ·obtain⟨k,h⟩:=(by simpa using oH:∃k,P.underlying f.type=some (.int k));exact⟨_,h,.inl ⟨k,rfl⟩⟩
   ·exact⟨_,by simpa using oH,.inr rfl⟩
  ·exact bO gs (n+1) as aW (by rw[aF];exact dG) hA f aO
theorem Ru{P:cG}{w:World}{α:Type}(body:α->PUnit->Sem (ForInStep PUnit)):∀(l:List α),(∀f∈l,(body f ⟨⟩).run P w= .ok (.yield ⟨⟩) w)->(forIn l PUnit.unit body).run P w= .ok PUnit.unit w
 |[],_=>by simp
 |f::l,h=>by simp only[List.forIn_cons,fH,h f Ψ,fO];exact Ru body l fun g aW=>h g (by simp[aW])
theorem MF{P:cG}{w:World}{Z:bc}{cc:hL}{t:Nat}(aG:tR P cc t)(e:Bool){k:ai}{v:Value}(ad:bd w Z k v)(hi:wb cc k=true):(Instr.checkKey e 10000 t v).run P w= .ok () w:=by
 cases aG with
 |i hu=>exact IM hu (.inl ⟨_,rfl⟩) e 9999 v
 |s hu=>exact IM hu (.inr rfl) e 9999 v
 |a hu aW dh=>
  rename_i dL gs;cases k<;>simp only[wb,gF]at hi;rename_i as;simp only[bd]at ad;obtain⟨X,rfl,ad⟩:=ad;unfold Instr.checkKey;simp only[fH,run_underlying hu,fO];rw[<-Array.forIn_toList];rw[Ru]
  ·simp
  ·intro f aO;obtain⟨⟨v,J⟩,d,U,al⟩:=ac0 dL gs.toList 0 as aW (by simpa using ad) hi f aO;have a1:=IM (w:=w) U al e 9998 v;by_cases az:f.name= "_"
   ·simp[az]
   ·simp[az,J,a1]
theorem Uq{w:World}{Z:bc}{n:Nat}:∀(borns:List Nat) (kvs:List ai) (us:List Value) (p:ai),cR w Z kvs us->mO n borns kvs=some p->∃e,(fy borns us).find? (·.born==n)=some e/\bd w Z p (.tuple #[e.key,e.val])
 |[],_,_,_,_,hm=>by simp[mO]at hm
 |_::_,[],_,_,_,hm=>by simp[mO]at hm
 |_::_,[_],_,_,_,hm=>by simp[mO]at hm
 |b::eP,k::v::kvs,us,p,h,hm=>by
  simp only[cR]at h;obtain⟨ja,Ni,rfl,J,jD,sr,rfl,U,al⟩:=h;simp only[mO]at hm;simp only[fy];by_cases e:b=n
  ·rw[if_pos e]at hm;cases hm;refine⟨⟨ja,jD,b⟩,by simp[List.find?,e],?_⟩;simp only[bd];exact⟨#[ja,jD],rfl,by simp only[cR];exact⟨_,_,rfl,J,_,_,rfl,U,rfl⟩⟩
  ·rw[if_neg e]at hm;obtain⟨x,g1,g2⟩:=Uq eP kvs sr p al hm;have aex:(b==n)=false:=by simpa using e
   exact⟨x,by simp[List.find?,aex,g1],g2⟩
theorem Xl{P:cG}{bB:List (Nat×dA)}(aI:fN P bB=true){C:fa}{st:bo}{a:Act}{w:World}{Z:bc}(aK:cS C st a w Z){i:fU}(aew:∀cc z ok x k,i≠ .mgetB cc z ok x k){o:Oper}(aw:D2 bB i o.op=true)
  {c:Prop} {p:ai} (he:hj st i=some (c,p)) (aq:c):∃v,(execOp a.eval o).run P w= .ok (.value v) w/\bd w Z p v:=by
 obtain⟨dst,op,type,pos,after,guard⟩:=o;simp only at aw;unfold D2 at aw;split at aw
 ·rename_i x o;simp only[hj]at he;cases he;exact⟨_,rfl,eh aK aw⟩
 ·rename_i x o;simp only[hj]at he;cases he;exact⟨_,rfl,eh aK aw⟩
 ·rename_i cl x y anY XU XY;simp only[ct]at aw;have J:=eh aK aw.1.1;have U:=eh aK aw.1.2;have al:=eh aK aw.2;simp only[hj,GN]at he;split at he
  ·rename_i b ab;rw[ab]at J;simp only[bd]at J;split at he
   ·rename_i u v hu av;cases he;rw[hu]at U;rw[av]at al;simp only[bd]at U al;refine⟨.bool (cond b u v),?_,by simp[bd]⟩;simp only[execOp,J,U,al,asBool,fH,gq,fO];cases b<;>rfl
   ·split at he
    ·cases he;exact⟨_,by simp only[execOp,J,asBool,fH,gq,fO,if_true],U⟩
    ·cases he;exact⟨_,by simp only[execOp,J,asBool,fH,gq,fO,gF,if_false],al⟩
  ·cases he
 ·rename_i agg sz x t o;simp only[ct]at aw;obtain⟨J,U⟩:=aw;split at J
  ·rename_i f aO;simp only[ct,dM]at J;obtain⟨rfl,rfl⟩:=J;obtain⟨v,g1,g2⟩:=Gp aI aK.good aO (eh aK U) (by simpa only[hj]using he) aq;exact⟨v,lp g1,g2⟩
  ·cases J
 ·rename_i off agg sz x s o i;simp only[ct]at aw;obtain⟨J,U⟩:=aw;split at J
  ·rename_i f aO;split at J
   ·rename_i wA t Ce;simp only[ct,dM]at J;obtain⟨rfl,J⟩:=J;split at J
    ·rename_i g aW;simp only[ct,dM,bne_iff_ne,ne_eq]at J;obtain⟨⟨rfl,rfl⟩,bA⟩:=J;obtain⟨v,g1,g2⟩:=acU aI aO rfl Ce aW bA (eh aK U) (by simpa only[hj]using he) aq;exact⟨v,lp g1,g2⟩
    ·cases J
   ·cases J
  ·cases J
 ·rename_i off agg sz x s o i;simp only[ct]at aw;obtain⟨J,U⟩:=aw;split at J
  ·rename_i f aO;split at J
   ·rename_i wA t Ce;simp only[ct,dM]at J;obtain⟨rfl,J⟩:=J;split at J
    ·rename_i g aW;simp only[ct,dM]at J;obtain⟨rfl,rfl⟩:=J;obtain⟨v,g1,g2⟩:=ac1 aI aO rfl Ce aW (eh aK U) (by simpa only[hj]using he) aq;exact⟨v,lp g1,g2⟩
    ·cases J
   ·cases J
  ·cases J
 ·rename_i sz x i t o j;simp only[ct]at aw;obtain⟨⟨J,U⟩,al⟩:=aw;split at J
  ·rename_i e aO;split at J
   ·rename_i g aW;simp only[dM]at J;subst J;obtain⟨v,g1,g2⟩:=af5 aI aO rfl aW (eh aK U) (eh aK al) (by simpa only[hj]using he) aq;exact⟨v,lp g1,g2⟩
   ·cases J
  ·cases J
 ·rename_i x i t o j;simp only[ct]at aw;obtain⟨⟨J,U⟩,al⟩:=aw;split at J
  ·rename_i aO;obtain⟨d,aG,eW⟩:=iZ aI aO;obtain rfl:=y9 eW;have ao:=eh aK U;have aF:=eh aK al;simp only[hj,Hv]at he;split at he
   ·rename_i s k n af az;cases he;rw[af]at ao;rw[az]at aF;simp only[bd]at ao aF;obtain⟨uq,rM⟩:=aq;have bt:n.toNat<s.length:=Ω
    have aeY:(⟨s.toArray⟩:ByteArray)[n.toNat]? =some (s.getD n.toNat 0):=by exact ad1 s n.toNat bt
    refine⟨_,lp (v:= .int .u8 (s.getD n.toNat 0).toNat) ?_,by simp[bd]⟩;simp only[Instr.index,aF,asIntOf,ao.1,fH,gq,fO,run_underlying aG,uq,if_true,aeY]
   ·cases he
  ·cases J
 ·rename_i x lo hi t o l h;simp only[ct]at aw;obtain⟨⟨⟨J,U⟩,al⟩,a1⟩:=aw;split at J
  ·rename_i aO;obtain⟨d,aG,eW⟩:=iZ aI aO;obtain rfl:=y9 eW;have ao:=eh aK U;simp only[hj,HA]at he;split at he
   ·rename_i s af;rw[af]at ao;simp only[bd]at ao;split at he
    ·rename_i qd cw au J3;cases he;obtain⟨bT,cv,dj⟩:=aq;have aX:=GI aK al au;have bg:=GI aK a1 J3;refine⟨_,lp (v:= .string ⟨((s.take cw.toNat).drop qd.toNat).toArray⟩) ?_,?_⟩
     ·have ab:=On P w false s.length s.length (l.map a.eval) (h.map a.eval) qd cw
       aX bg bT cv dj (eC _)
      simp only[Instr.sliceAt,Instr.slice,ao.1,fH,gq,fO,run_underlying aG,Option.map_none,iL,gF,if_false,DR,ab,aaV]
     ·simp only[bd];refine⟨trivial,?_⟩;have:=ao.2;simp only[sB,List.length_take];omega
    ·cases he
   ·cases he
  ·cases J
 ·rename_i sz x lo hi t o l h;simp only[ct]at aw;obtain⟨⟨⟨J,U⟩,al⟩,a1⟩:=aw;split at J
  ·rename_i e aO;split at J
   ·rename_i g aW;simp only[dM]at J;subst J;obtain⟨d,aG,eW⟩:=iZ aI aO;obtain rfl:=sN eW;obtain⟨_,ee⟩:=vc aI aW w;have ao:=eh aK U;simp only[hj,Gq]at he;split at he
    ·rename_i dH tag xs af;split at he
     ·rename_i e8;subst e8;rw[af]at ao;simp only[bd]at ao;obtain⟨⟨sH,cap,av,cf,b9,gb⟩,_⟩:=ao;split at he
      ·rename_i qd cw au J3;cases he;obtain⟨bT,cv,dj⟩:=aq;have aX:=GI aK al au;have bg:=GI aK a1 J3;have ab:=On P w true xs.length cap (l.map a.eval) (h.map a.eval) qd cw
        aX bg bT cv dj cf
       refine⟨_,lp (v:= .slice (if cap=qd.toNat then sH else sH.map (·.add (qd.toNat*g.size))) (cw.toNat-qd.toNat) (cap-qd.toNat)) ?_,?_⟩
       ·simp only[Instr.sliceAt,Instr.slice,av,fH,gq,fO,run_underlying aG,Option.map_none,ab,ee]
       ·simp only[bd];have hlen:((xs.take cw.toNat).drop qd.toNat).length=cw.toNat-qd.toNat:=by simp;omega
        refine⟨⟨_,_,by rw[hlen],by rw[hlen];omega,⟨Ω,by rw[hlen];omega⟩,?_⟩,(fun h=>by cases h),(fun g h=>by cases h),(fun _ _ h=>by cases h),(fun _ h=>by cases h)⟩;rcases gb with rfl|⟨b,off,us,rfl,g1,g2⟩
        ·left;simp
        ·by_cases zr:cap=qd.toNat
         ·left;apply List.eq_nil_of_length_eq_zero;rw[hlen];omega
         ·right;rw[if_neg zr];refine⟨b,off+qd.toNat*g.size,(us.take (cw.toNat*g.size)).drop (qd.toNat*g.size),by simp[o4],Gi _ (Gk _ g1),Ww _ (Wz _ g2)⟩
      ·cases he
     ·cases he
    ·cases he
   ·cases J
  ·cases J
 ·rename_i op wr x y U8 ty o o' al3;simp only[ct,eF]at aw;obtain⟨⟨rfl,J⟩,U⟩:=aw;obtain⟨r,g1,g2⟩:=YT P w Z (by simpa only[hj]using he) aq ty (eh aK J) (eh aK U) o o';exact⟨r,lp g1,g2⟩
 ·rename_i x op ty o;simp only[ct,eF]at aw;obtain⟨rfl,J⟩:=aw;have ao:=eh aK J;simp only[hj]at he;unfold GC at he;split at he
  ·rename_i b ab;cases he;rw[ab]at ao;simp only[bd]at ao;exact⟨_,lp (v:= .bool (!b)) (by simp[Op.unary,ao]),by simp[bd]⟩
  ·cases he
 ·rename_i x op ty o;simp only[ct,eF]at aw;obtain⟨rfl,J⟩:=aw;have ao:=eh aK J;simp only[hj]at he;unfold Gz at he;split at he
  ·rename_i k n ab;cases he;rw[ab]at ao;simp only[bd]at ao;exact⟨_,lp (v:= .int k (k.wrap (0-n))) (by simp[Op.unary,ao,Op.intArith]),by simp[bd]⟩
  ·cases he
 ·rename_i k x s d o;simp only[ct]at aw;obtain⟨J,U⟩:=aw;split at J
  ·rename_i aX bg Cc uv;simp only[eF]at J;subst J;obtain⟨d1,ff,aeK⟩:=iZ aI Cc;obtain rfl:=EY aeK;obtain⟨d2,eK,aeL⟩:=iZ aI uv;obtain rfl:=EY aeL;have ao:=eh aK U;simp only[hj]at he;unfold EW at he;split at he
   ·rename_i bN n ab;cases he;rw[ab]at ao;simp only[bd]at ao;exact⟨_,lp (v:= .int k (k.wrap n)) (by simp[convert,ao,run_underlying ff,run_underlying eK,Conv.intToInt]),by simp[bd]⟩
   ·cases he
  ·cases J
 ·rename_i i x o j;simp only[ct,dM]at aw;obtain⟨rfl,J⟩:=aw;have ao:=eh aK J;simp only[hj]at he;unfold zc at he;split at he
  ·rename_i ba ab;simp only[gr]at he;obtain⟨q,bI,he⟩:=he;cases he;rw[ab]at ao;simp only[bd]at ao;obtain⟨us,hu,U⟩:=ao;obtain⟨v,g1,g2⟩:=Hk i U bI;have k9:us[i]? =some v:=by simpa using g1
   exact⟨v,lp (by simp[Instr.extract,hu,k9]),g2⟩
  ·cases he
 ·rename_i x o t;simp only[ct]at aw;obtain⟨J,U⟩:=aw;have ao:=eh aK U;simp only[hj]at he;unfold z1 at he;split at he
  ·rename_i sz tag xs ab;cases he;rw[ab]at ao;simp only[bd]at ao;obtain⟨⟨sH,cap,av,_⟩,_⟩:=ao;refine⟨.int .i64 xs.length,?_,by simp[bd]⟩;split at J
   ·rename_i aO;obtain⟨d,aG,eW⟩:=iZ aI aO;obtain rfl:=sN eW;simp[execOp,resolve,invoke,builtin,Builtin.len_,run_underlying aG,av,goInt]
   ·cases J
  ·rename_i sz k n ab;cases he;rw[ab]at ao;simp only[bd]at ao;obtain⟨⟨sH,cap,av⟩,_⟩:=ao;refine⟨.int .i64 n,?_,by simp[bd]⟩;split at J
   ·rename_i aO;obtain⟨d,aG,eW⟩:=iZ aI aO;obtain rfl:=sN eW;simp[execOp,resolve,invoke,builtin,Builtin.len_,run_underlying aG,av,goInt]
   ·cases J
  ·rename_i sH n cap ab;cases he;rw[ab]at ao;simp only[bd]at ao;refine⟨.int .i64 n,?_,by simp[bd]⟩;split at J
   ·rename_i aO;obtain⟨d,aG,eW⟩:=iZ aI aO;obtain rfl:=sN eW;simp[execOp,resolve,invoke,builtin,Builtin.len_,run_underlying aG,ao,goInt]
   ·cases J
  ·cases he
 ·rename_i x o t;simp only[ct]at aw;obtain⟨J,U⟩:=aw;have ao:=eh aK U;simp only[hj]at he;unfold DS at he;split at he
  ·rename_i s ab;cases he;rw[ab]at ao;simp only[bd]at ao;refine⟨.int .i64 s.length,?_,by simp[bd]⟩;split at J
   ·rename_i aO;obtain⟨d,aG,eW⟩:=iZ aI aO;obtain rfl:=y9 eW;simp[execOp,resolve,invoke,builtin,Builtin.len_,run_underlying aG,ao.1,goInt,DR]
   ·cases J
  ·rename_i s ab;cases he;rw[ab]at ao;simp only[bd]at ao;refine⟨.int .i64 s.size,?_,by simp[bd]⟩;split at J
   ·rename_i aO;obtain⟨d,aG,eW⟩:=iZ aI aO;obtain rfl:=y9 eW;simp[execOp,resolve,invoke,builtin,Builtin.len_,run_underlying aG,ao,goInt]
   ·cases J
  ·cases he
 ·rename_i zero parts t cz;split at aw
  ·rename_i dL z aO;simp only[ct]at aw;obtain⟨⟨J,U⟩,al⟩:=aw;have bk:=anf J;obtain⟨i,d,ane,ao,aF,bM,dt,hO,hI,rq,rr⟩:=(vd aI aO).ex;obtain⟨gs,rfl,kB⟩:=IS hO;simp only at bk rq rr;subst bk;have lA:(gs.toList.all fun f=>(dZ bB f.type).isSome)=true:=by rw[<-kB]at U;simpa[List.all_map,Function.comp_def]using U
   obtain⟨tB,cU,dq⟩:=Vj aI gs.toList lA;rw[kB]at dq;cases ane<;>simp only[yM]at rq;case agg us=>
    simp only[hj]at he;cases ab:ub st.t zero parts with
    |none=>simp[ab]at he
    |some x=>obtain⟨cl,cs'⟩:=x;simp only[ab,nE]at he;cases he;obtain⟨ch,g1,g2⟩:=WN aK dq parts cz.toList zero us c cs' al (NH w Z _ _ rq) ab aq;refine⟨.agg ch,lp (run_build w t _ ch ?_),by simp only[bd];exact⟨ch,rfl,g2⟩⟩;simp only[Program.built,ao,aF,hI,cU,oV];simpa using g1
   all_goals cases rq
  ·cases aw
 ·rename_i x o;have ao:=eh aK aw;simp only[hj]at he;unfold Ai at he;split at he
  ·rename_i k off ab;cases he;rw[ab]at ao;have aF:=ao;simp only[bd]at ao;obtain⟨b,_,av⟩:=ao;exact⟨a.eval o,by simp[execOp,av],aF⟩
  ·rename_i q ab;cases he;rw[ab]at ao;have aF:=ao;simp only[bd]at ao;obtain⟨b,off,u,av,_⟩:=ao;exact⟨a.eval o,by simp[execOp,av],aF⟩
  ·rename_i f cs ab;cases he;rw[ab]at ao;have aF:=ao;simp only[bd]at ao;obtain⟨us,av,_⟩:=ao;exact⟨a.eval o,by simp[execOp,av],aF⟩
  ·cases he
 ·rename_i x y o o' t dK;simp only[ct]at aw;have ao:=eh aK aw.1;have aF:=eh aK aw.2;simp only[hj]at he;unfold Gy at he;split at he
  ·rename_i k m bN n hm az;split at he
   ·rename_i ad;subst ad;cases he;rw[hm]at ao;rw[az]at aF;simp only[bd]at ao aF;exact⟨.int k (if n<m then n else m),by simp[execOp,resolve,invoke,builtin,Builtin.min_,Builtin.min2,ao,aF],by simp[bd]⟩
   ·cases he
  ·cases he
 ·rename_i n xs m os;simp only[ct,dM]at aw;obtain⟨rfl,aw⟩:=aw;simp only[hj]at he;cases he;have uo:=DD aK aw;refine⟨.func (.func n) #[] (os.map a.eval),by simp[execOp,Instr.makeFunc],?_⟩;simp only[bd];exact⟨os.map a.eval,rfl,by simpa using uo⟩
 ·rename_i cc zero ok x k t o o' GD;simp only[ct,dM]at aw;obtain⟨⟨⟨rfl,J⟩,U⟩,al⟩:=aw;have ao:=eh aK U;have aF:=eh aK al;split at J
  ·rename_i sz k8 mM pd z aO;simp only[ct]at J;obtain⟨ae6,JV⟩:=J;split at JV
   ·rename_i aoC aeO;have bk:=NJ JV;obtain⟨cK,hu,eW⟩:=iZ aI aO;have sZ:cK= .map mM pd:=by cases cK<;>simp[kP]at eW;obtain⟨rfl,rfl⟩:=eW;rfl
    subst sZ;obtain⟨bQ,k2,z2,_⟩:=Nb aI aeO w;rw[<-bk]at z2;have aa:=(NI w Z z2).1;have l1:=KV aI ae6;simp only[hj]at he;unfold nY at he;split at he
    ·rename_i key ae;rw[ae]at ao;simp only[bd]at ao;obtain⟨bl,cf,b9⟩:=ao;split at he
     ·rename_i clock borns kvs h3;obtain⟨iD,us,el,g1,g2,g3,g4,g5⟩:=aK.good.box key _ h3;rw[cf]at g1;cases g1;simp only[jP]at g4;simp only[jn]at g5;have hJ:(getObj bl).run P w= .ok (.map (fy borns us.toList).toArray clock) w:=u6 g4;split at he
      ·cases he
      rename_i vI;have vB:=MF (P:=P) (w:=w) l1 ((fy borns us.toList).toArray.isEmpty) aF (by simpa using vI);split at he
      ·rename_i v hm;cases he;obtain⟨j,u,f1,f2⟩:=Lq l1 aF borns kvs us.toList 0 _ g5.1 g5.2.len hm;refine⟨if ok then .tuple #[u,.bool true]else u,?_,?_⟩
       ·simp only[execOp];refine lp ?_;simp only[Instr.lookup,fH,run_underlying hu,fO,b9,hJ,gq,vB,f1.run l1]
       ·cases ok
        ·simpa using f2
        ·simp only[if_true,bd];exact⟨_,rfl,by simp only[cR];exact⟨_,_,rfl,f2,_,_,rfl,by simp[bd],rfl⟩⟩
      ·rename_i hm;cases he;have f1:=Lq l1 aF borns kvs us.toList 0 _ g5.1 g5.2.len hm;simp only at f1;refine⟨if ok then .tuple #[bQ,.bool false]else bQ,?_,?_⟩
       ·simp only[execOp];refine lp ?_;simp only[Instr.lookup,fH,run_underlying hu,fO,b9,hJ,gq,vB,f1.run l1,k2]
       ·cases ok
        ·simpa using aa
        ·simp only[if_true,bd];exact⟨_,rfl,by simp only[cR];exact⟨_,_,rfl,aa,_,_,rfl,by simp[bd],rfl⟩⟩
      ·cases he
     ·cases he
    ·cases he
   ·cases JV
  ·cases J
 ·rename_i x o;have ao:=eh aK aw;simp only[hj]at he;unfold pB at he;split at he
  ·rename_i fl ae;rw[ae]at ao;simp only[bd]at ao;obtain⟨bl,cf,b9⟩:=ao;split at he
   ·rename_i since seen last mk h3;obtain⟨iD,us,el,g1,g2,g3,g4,g5⟩:=aK.good.box fl _ h3;rw[cf]at g1;cases g1;simp only[jP]at g4;simp only[jn,cR,bd]at g5;obtain⟨u,ch,qS,⟨mb,m1,rfl⟩,rfl⟩:=g5;rw[qS]at g4;simp only at g4;split at he
    ·rename_i clock borns kvs afc;obtain⟨anV,sr,aoo,aX,bg,b6,cT,de⟩:=aK.good.box mk _ afc;rw[m1]at aX;cases aX;simp only[jP]at cT;simp only[jn]at de;split at he
     ·rename_i n az;simp only[gr]at he;obtain⟨q,bI,he⟩:=he;cases he;obtain⟨e,f1,f2⟩:=Uq borns kvs sr.toList p de.1 bI;refine⟨.tuple #[e.key,e.val],?_,f2⟩;simp only[execOp];refine lp ?_;have aeU:(getObj bl).run P w= .ok (.mapIter (some mb) since seen.toArray last) w:=u6 g4;have aeV:(getObj mb).run P w= .ok (.map (fy borns sr.toList).toArray clock) w:=u6 cT;have JP:seen.toArray.back? =some n:=by simpa using az
      have zs:(clock !=last)=false:=by simp[aq]
      have aeP:(fy borns sr.toList).toArray.find? (·.born==n)=some e:=by simpa using f1
      simp only[Instr.entry,b9,fH,aeU,fO,JP,aeV,zs,gF,if_false,aeP,gq]
     ·cases he
    ·cases he
   ·cases he
  ·cases he
 ·rename_i x o t;simp only[ct]at aw;obtain⟨J,U⟩:=aw;have ao:=eh aK U;simp only[hj]at he;unfold Ah at he;split at he
  ·rename_i key ab;rw[ab]at ao;simp only[bd]at ao;obtain⟨bl,cf,b9⟩:=ao;split at he
   ·rename_i clock borns kvs h3;cases he;obtain⟨iD,us,el,g1,g2,g3,g4,g5⟩:=aK.good.box key _ h3;rw[cf]at g1;cases g1;simp only[jP]at g4;simp only[jn]at g5;have hJ:(getObj bl).run P w= .ok (.map (fy borns us.toList).toArray clock) w:=u6 g4;have hlen:(fy borns us.toList).length=borns.length:=QV g5.2.len (WG g5.1);refine⟨.int .i64 borns.length,?_,by simp[bd]⟩;split at J
    ·rename_i aO;obtain⟨d,aG,eW⟩:=iZ aI aO;obtain⟨mM,pd,rfl⟩:∃mM pd,d= .map mM pd:=by cases d<;>simp[kP]at eW;exact⟨_,_,rfl⟩
     simp[execOp,resolve,invoke,builtin,Builtin.len_,run_underlying aG,b9,goInt,hJ,hlen]
    ·cases J
   ·cases he
  ·cases he
 ·rename_i neg dL x y op t o o' al3;simp only[ct,eF]at aw;obtain⟨⟨⟨rfl,bA⟩,J⟩,U⟩:=aw;have ao:=eh aK J;have aF:=eh aK U;simp only[hj]at he;unfold mv at he;split at he
  ·rename_i bp b0 a7 ab;simp only at bA;cases he;rw[a7]at ao;rw[ab]at aF;simp only[bd]at ao aF;split at bA
   ·rename_i aO;obtain⟨d,aG,eW⟩:=iZ aI aO;obtain rfl:d= .bool:=by cases d<;>simp[kP]at eW;rfl
    refine⟨.bool (if neg then bp !=b0 else bp==b0),lp ?_,by simp[bd]⟩;cases neg<;>simp[ao,aF,eqGuard,binOp,Z4 aG,bne]
   ·cases bA
  ·rename_i aoJ as eP a7 ab;simp only at bA;simp only[gr]at he;obtain⟨q,bI,he⟩:=he;cases he;rw[a7]at ao;rw[ab]at aF;simp only[bd]at ao aF;obtain⟨X,ZR,aj7⟩:=ao;obtain⟨Y,ZS,aj8⟩:=aF;obtain⟨gs,hu,aW,dh,iT⟩:=Ro aI bA;obtain⟨i1,_,_⟩:=QZ hu aW dh aj7 aj8 bI;refine⟨.bool (if neg then !q else q),lp ?_,by simp[bd]⟩;rw[ZR,ZS];cases neg
   ·simp only[gF,if_false,fH,run_eqGuard_agg w _ t o o' X Y iT,fO,run_eql_struct,i1]
   ·simp only[if_true,fH,run_eqGuard_agg w _ t o o' X Y iT,fO,run_neq_struct,i1]
  ·cases he
 ·rename_i x y o o' t dK;simp only[ct]at aw;have ao:=eh aK aw.1;have aF:=eh aK aw.2;simp only[hj]at he;unfold Gu at he;split at he
  ·rename_i k m bN n hm az;split at he
   ·rename_i ad;subst ad;cases he;rw[hm]at ao;rw[az]at aF;simp only[bd]at ao aF;exact⟨.int k (if m<n then n else m),by simp[execOp,resolve,invoke,builtin,Builtin.max_,Builtin.max2,ao,aF],by simp[bd]⟩
   ·cases he
  ·cases he
 ·rename_i t x dK o;simp only[ct,dM]at aw;obtain⟨⟨rfl,J⟩,U⟩:=aw;have ao:=eh aK U;simp only[hj]at he;cases he;split at J
  ·rename_i aO;obtain⟨d,aG,eW⟩:=iZ aI aO;obtain rfl:=sN eW;refine⟨.iface t (a.eval o),lp (by simp[Instr.makeInterface,run_underlying aG]),?_⟩;simp only[bd];exact⟨_,rfl,ao⟩
  ·cases J
 ·rename_i agg sz x t o;simp only[ct]at aw;obtain⟨J,U⟩:=aw;split at J
  ·rename_i f aO;simp only[ct,dM]at J;obtain⟨rfl,rfl⟩:=J;obtain⟨v,g1,g2⟩:=Gp aI aK.good aO (eh aK U) (ag2 (by simpa only[hj]using he)) aq;exact⟨v,lp g1,g2⟩
  ·cases J
 ·rename_i agg sz x t o;simp only[ct]at aw;obtain⟨J,U⟩:=aw;split at J
  ·rename_i f aO;simp only[ct,dM]at J;obtain⟨rfl,rfl⟩:=J;obtain⟨v,g1,g2⟩:=Gp aI aK.good aO (eh aK U) (ac8 (by simpa only[hj]using he)) aq;exact⟨v,lp g1,g2⟩
  ·cases J
 ·exact absurd rfl (aew _ _ _ _ _)
 ·cases aw
theorem al9{P:cG}{bB:List (Nat×dA)}(aI:fN P bB=true){C:fa}{st:bo}{a:Act}{w:World}{Z:bc}(aK:cS C st a w Z){i:fU}{o:Oper}(aw:D2 bB i o.op=true)
  {c:Prop} {p:ai} (he:hj st i=some (c,p)) (aq:c):∃v,(execOp a.eval o).run P w= .ok (.value v) w/\bd w Z p v:=by
 by_cases ab:∃cc z ok x k,i= .mgetB cc z ok x k
 ·obtain⟨cc,z,ok,x,k,rfl⟩:=ab;refine Xl aI aK (i:= .mget cc z ok x k) (fun _ _ _ _ _ e=>by cases e) ?_ he aq;obtain⟨dst,op,type,pos,after,guard⟩:=o;cases op<;>first|exact aw|simp[D2]at aw
 ·exact Xl aI aK (fun cc z ok x k e=>ab ⟨cc,z,ok,x,k,e⟩) aw he aq
theorem QB{w:World}{o:Obj}{b i:Nat}(h:b<w.heap.size):(w.alloc o).cell? ⟨b,i,none⟩=w.cell? ⟨b,i,none⟩:=World.cell?_of_block (Below.heap_alloc w o b h)
def bc.withBox(Z:bc)(k:aL)(bl:Nat):bc:={Z with bx:=fun j=>if j=k then some bl else Z.bx j}
def bc.withOwn(Z:bc)(k:aL)(n:Nat)(v:Value):bc:={Z with ow:=fun j=>if j=k then some (n,v)else Z.ow j}
theorem cS.lookNone{C:fa}{st:bo}{a:Act}{w:World}{Z:bc}(h:cS C st a w Z){k:aL}(ad:fresh st.n st.o k):look k st.b=none/\look k st.e=none:=by
 obtain⟨J,U,_⟩:=h.new k ad;constructor
 ·cases ab:look k st.b with
  |none=>rfl
  |some cs=>obtain⟨bl,us,el,g1,_⟩:=h.good.box _ _ ab;rw[J]at g1;cases g1
 ·cases ab:look k st.e with
  |none=>rfl
  |some o=>obtain⟨v,us,g1,_⟩:=h.good.own _ _ ab;rw[U]at g1;cases g1
theorem Good.ownLt{pr:Nat->Prop}{w:World}{Z:bc}{b:List (aL×List ai)}{e:List (aL×fQ)}(h:Good pr w Z b e){g:aL}{o:fQ}(aW:look g e=some o){n:Nat}{v:Value}(av:Z.ow g=some (n,v)){bl:Nat}(ab:v.ownBlock=some bl):bl<w.heap.size:=by obtain⟨v',us,g1,g2,_⟩:=h.own g o aW;rw[av]at g1;cases g1;exact(g2.lt bl ab).2
theorem Good.boxLt{pr:Nat->Prop}{w:World}{Z:bc}{b:List (aL×List ai)}{e:List (aL×fQ)}(h:Good pr w Z b e){k:aL}{cs:List ai}(ad:look k b=some cs){bl:Nat}(ab:Z.bx k=some bl):bl<w.heap.size:=by obtain⟨iD,us,el,g1,_,_,g4,_⟩:=h.box k cs ad;rw[ab]at g1;cases g1;exact(Array.getElem?_eq_some_iff.1 g4).1
theorem cS.newBox{C:fa}{st:bo}{a:Act}{w:World}{Z:bc}(h:cS C st a w Z){gR:aL}(Cl:Z.bx gR=none/\Z.ow gR=none/\∀j b,¬Z.tr gR j b){n':Nat}{o':List aL}(c8:∀j,fresh n' o' j->fresh st.n st.o j/\j≠gR){cs:List ai}{us:Array Value}(el:gG)(aq:jn w Z cs us.toList):
  cS C {st with b:=cy gR cs st.b,n:=n',o:=o'} a (w.alloc (jP cs us el)) (Z.withBox gR w.heap.size)/\
  bd (w.alloc (jP cs us el)) (Z.withBox gR w.heap.size) (.ptr gR 0) (.pointer (some ⟨w.heap.size,0,none⟩)):=by
 obtain⟨rS,Cq,afi⟩:=Cl;have aw:lx w Z (w.alloc (jP cs us el)) (Z.withBox gR w.heap.size):=by
  refine⟨fun b o bj=>⟨bj,QB (h.good.alt b o bj)⟩,fun k b _ ad=>?_,fun g n u _ aW=>⟨n,u,aW,.inl ⟨rfl,rfl⟩⟩,fun b o bj=>wO (Below.heap_alloc w _ b (h.good.alt b o bj)),fun _ _ _ _ h=>h⟩;have:k≠gR:=fun e=>by subst e;rw[rS]at ad;cases ad
  simp[bc.withBox,this,ad]
 have ee:(w.alloc (jP cs us el)).heap.size=w.heap.size+1:=by simp
 have ky:∀k,(look k (cy gR cs st.b)).isSome->k=gR\/(k≠gR/\(look k st.b).isSome/\(Z.withBox gR w.heap.size).bx k=Z.bx k):=by
  intro k ad;by_cases e:k=gR
  ·exact .inl e
  ·rw[iW,if_neg (k5 e)]at ad;exact .inr ⟨e,ad,by simp[bc.withBox,e]⟩
 refine⟨h.over aw rfl ⟨fun bl o bj=>by rw[ee];have:=h.good.alt bl o bj;omega,fun k eJ ad=>?_,fun k bN bl ad nR ao aF=>?_,fun g o aW=>?_,h.good.oinj,fun g k n v bl aW ad av ab ae=>?_,fun k=>?_,fun bl ab k j aI=>?_⟩
  ⟨h.fr.os,h.fr.tape,h.fr.output,by rw[ee];have:=h.fr.size;omega,fun k ad hm=>?_,fun b o bj=>?_,h.fr.fresh,fun n b ab=>?_,h.fr.obn,h.fr.row,h.fr.obr,h.fr.trd,fun k j b ab=>⟨(h.fr.trb k j b ab).1,by rw[ee];have:=(h.fr.trb k j b ab).2;omega⟩,fun k j b ab=>?_,fun b o bj=>(aw.sh b o (h.fr.keep b o bj).1).trans (h.fr.sh b o bj)⟩ (fun m hm=>?_),?_⟩
 ·simp only at ad;rw[iW]at ad;by_cases e:gR=k
  ·rw[if_pos e]at ad;cases ad;subst e;refine⟨w.heap.size,us,el,by simp[bc.withBox],.inr h.fr.size,fun o bj=>?_,heap_alloc_new w _,qj aw aq⟩;have:=h.good.alt _ o bj;omega
  ·rw[if_neg e]at ad;obtain⟨bl,ch,fW,g1,g2,g3,g4,g5⟩:=h.good.box k eJ ad;exact⟨bl,ch,fW,aw.bx _ _ trivial g1,g2,g3,by rw[Below.heap_alloc w _ bl (Array.getElem?_eq_some_iff.1 g4).1];exact g4,qj aw g5⟩
 ·rcases ky k ad with rfl|⟨iw,gj,jl⟩<;>rcases ky bN nR with rfl|⟨m1,m2,m3⟩
  ·rfl
  ·exfalso;simp only[bc.withBox,if_true,dy]at ao;subst ao;rw[m3]at aF;obtain⟨eJ,iS⟩:=fP.1 m2;have:=h.good.boxLt iS aF;omega
  ·exfalso;simp only[bc.withBox,if_true,dy]at aF;subst aF;rw[jl]at ao;obtain⟨eJ,iS⟩:=fP.1 gj;have:=h.good.boxLt iS ao;omega
  ·rw[jl]at ao;rw[m3]at aF;exact h.good.inj k bN bl gj m2 ao aF
 ·obtain⟨v,xs,g1,g2,g3,g4⟩:=h.good.own g o aW;exact⟨v,xs,g1,g2.alloc _,g3,si aw (fun _ _ _ h=>h) g4⟩
 ·rcases ky k ad with rfl|⟨iw,gj,jl⟩
  ·simp only[bc.withBox,if_true,dy]at ae;subst ae;obtain⟨o,hQ⟩:=fP.1 aW;have:=h.good.ownLt hQ av ab;omega
  ·rw[jl]at ae;exact h.good.obx g k n v bl aW gj av ab ae
 ·by_cases e:k=gR
  ·subst e;exact .inr Cq
  ·rcases h.good.one k with J|J
   ·exact .inl (by simp[bc.withBox,e,J])
   ·exact .inr J
 ·rcases ab with⟨bN,bz,a2⟩|ab
  ·rcases ky bN bz with rfl|⟨iw,gj,jl⟩
   ·simp[bc.withBox]at a2;subst a2;exact absurd (h.fr.trb k j _ aI).2 (Nat.lt_irrefl _)
   ·exact h.good.otr bl (.inl ⟨bN,gj,by rw[<-jl];exact a2⟩) k j aI
  ·exact h.good.otr bl (.inr ab) k j aI
 ·rw[Below.heap_alloc w _ k (by have:=h.fr.size;omega)];exact h.fr.block k ad hm
 ·obtain⟨aX,bg⟩:=h.fr.keep b o bj;exact⟨aX,(QB (h.good.alt b o aX)).trans bg⟩
 ·exact aw.bx _ _ trivial (h.fr.obj n b ab)
 ·have cF:k≠gR:=fun e=>by subst e;exact afi j b ab
  obtain⟨t1,t2⟩:=h.fr.trn k j b ab;exact⟨by simp[bc.withBox,cF,t1],t2⟩
 ·obtain⟨f1,f2⟩:=c8 m hm;obtain⟨aX,bg⟩:=h.new m f1;refine⟨?_,bg⟩;simp[bc.withBox,f2,aX]
 ·simp[bd,bc.withBox]
theorem cS.setBox{C:fa}{st:bo}{a:Act}{w w':World}{Z:bc}(h:cS C st a w Z){k:aL}{cs cs':List ai}(ad:look k st.b=some cs){bl:Nat}(ab:Z.bx k=some bl){us:Array Value}{el:gG}
  (zG:w'.os=w.os) (Ks:w'.tape=w.tape) (Kf:w'.output=w.output) (nk:∀j,j≠bl->w'.heap[j]? =w.heap[j]?) (ee:w'.heap.size=w.heap.size) (jY:w'.heap[bl]? =some (jP cs' us el)) (aq:jn w Z cs' us.toList):
  cS C {st with b:=cy k cs' st.b} a w' Z/\lx w Z w' Z:=by
 obtain⟨iD,fw,aon,g1,g2,g3,g4,g5⟩:=h.good.box k cs ad;rw[ab]at g1;cases g1;have aw:lx w Z w' Z:=by
  refine⟨fun b o bj=>⟨bj,World.cell?_of_block (nk b fun e=>?_)⟩,fun _ _ _ h=>h,fun g n u _ aW=>⟨n,u,aW,.inl ⟨rfl,rfl⟩⟩,fun b o bj=>wO (nk b fun e=>?_),fun _ _ _ _ h=>h⟩<;>
  (subst e;exact g3 o bj)
 have FD:∀j,(look j (cy k cs' st.b)).isSome->(look j st.b).isSome:=by
  intro j ag;rw[iW]at ag;by_cases e:k=j
  ·subst e;simp[ad]
  ·rwa[if_neg e]at ag
 refine⟨h.over aw rfl ⟨fun b o bj=>by rw[ee];exact h.good.alt b o bj,fun j eJ ag=>?_,fun j dD b ag jx=>h.good.inj j dD b (FD j ag) (FD dD jx),fun g o aW=>?_,h.good.oinj,fun g j n v b aW ag=>h.good.obx g j n v b aW (FD j ag),h.good.one,fun bl ab=>h.good.otr bl (ab.imp (fun⟨k,J,U⟩=>⟨k,FD k J,U⟩) id)⟩
  ⟨zG.trans h.fr.os,Ks.trans h.fr.tape,Kf.trans h.fr.output,by rw[ee];exact h.fr.size,fun j ag hm=>?_,fun b o bj=>?_,h.fr.fresh,h.fr.obj,h.fr.obn,h.fr.row,h.fr.obr,h.fr.trd,fun k j b ab=>⟨(h.fr.trb k j b ab).1,by rw[ee];exact(h.fr.trb k j b ab).2⟩,h.fr.trn,fun b o bj=>(aw.sh b o (h.fr.keep b o bj).1).trans (h.fr.sh b o bj)⟩ h.new,aw⟩
 ·simp only at ag;rw[iW]at ag;by_cases e:k=j
  ·rw[if_pos e]at ag;cases ag;subst e;exact⟨bl,us,el,ab,g2,g3,jY,qj aw aq⟩
  ·rw[if_neg e]at ag;obtain⟨b,ch,fW,ao,aF,bM,dt,hO⟩:=h.good.box j eJ ag;refine⟨b,ch,fW,ao,aF,bM,?_,qj aw hO⟩;rw[nk b fun fL=>e (h.good.inj k j bl (by simp[ad]) (by simp[ag]) ab (by rw[<-fL];exact ao))];exact dt
 ·obtain⟨v,xs,ao,aF,bM,dt⟩:=h.good.own g o aW;refine⟨v,xs,ao,⟨aF.1,?_⟩,bM,si aw (fun _ _ _ h=>h) dt⟩;rcases aF.2 with aF|⟨bb,cap,cur,f1,f2,f3,f4⟩
  ·exact .inl aF
  ·refine .inr ⟨bb,cap,cur,f1,f2,?_,f4⟩;rw[nk bb fun fL=>h.good.obx g k o.n v bl (by simp[aW]) (by simp[ad]) ao (by rw[f1,<-fL];rfl) ab];exact f3
 ·rw[nk j fun e=>by subst e;exact g2.elim hm (fun g2=>Ω)];exact h.fr.block j ag hm
 ·obtain⟨aX,bg⟩:=h.fr.keep b o bj;exact⟨aX,(aw.A b o aX).2.trans bg⟩
theorem cS.storeBox{C:fa}{st:bo}{a:Act}{w:World}{Z:bc}(h:cS C st a w Z){k:aL}{cs cs':List ai}(ad:look k st.b=some cs){bl:Nat}(ab:Z.bx k=some bl)(bL:hS cs=true){us:Array Value}(aq:dn w Z cs' us.toList):
  cS C {st with b:=cy k cs' st.b} a (w.setRow bl us) Z:=by
 obtain⟨iD,fw,el,g1,g2,g3,g4,g5⟩:=h.good.box k cs ad;rw[ab]at g1;cases g1;rw[uU bL]at g4;have SV:=AN aq;exact(h.setBox (w':=w.setRow bl us) ad ab (us:=us) (el:=el) rfl rfl rfl (fun j ag=>setRow_other w bl j us ag) (setRow_size w bl us) (by rw[uU SV];exact setRow_heap w bl fw us el _ g4) (by rw[uV SV];exact aq)).1
def bc.withRowOf(Z:bc)(k:aL)(v:Value)(n cells:Nat):bc:={A:=fun b o=>Z.A b o\/(v.ownBlock=some b/\o<cells),bx:=Z.bx,ow:=fun j=>if j=k then some (n,v)else Z.ow j,tr:=Z.tr}
theorem zZ{w:World}{A:Nat->Nat->Prop}{b:Nat}:∀(us:List Value) (off:Nat),(∀j u,us[j]? =some u->A b (off+j)/\w.cell? ⟨b,off+j,none⟩=some u)->lK w A b off us
 |[],_,_=>trivial
 |u::us,off,h=>⟨h 0 u rfl,zZ us (off+1) fun j x ag=>by have:=h (j+1) x (by simpa using ag);rwa[show off+(j+1)=off+1+j from by omega]at this⟩
theorem ET{w w':World}(aW:w.grownBy w' none){b i:Nat}(h:b<w.heap.size):w'.cell? ⟨b,i,none⟩=w.cell? ⟨b,i,none⟩:=World.cell?_of_block (aW.block b h Ψ)
theorem cS.newRowM{C:fa}{st:bo}{a:Act}{w w':World}{Z:bc}(h:cS C st a w Z){k:aL}{xs:List ai}(ad:(Z.bx k=none/\Z.ow k=none/\∀j b,¬Z.tr k j b)\/ ∃o,look k st.e=some o/\o.n<xs.length){el sz:Nat}{v:Value}{us:List Value}
  (aW:w.grownBy w' none) (lF:w'.ownsRow w.heap.size el sz v xs.length us) (aq:dx w Z sz xs us) (iH:xs.length<=lim) {n':Nat} {o':List aL} (c8:∀j,fresh n' o' j->fresh st.n st.o j/\j≠k):
  cS C {st with e:=cy k ⟨xs.length,el,sz,some xs⟩ st.e,n:=n',o:=o'} a w' (Z.withOwn k xs.length v)/\
  ((∃b cap,v= .slice (some ⟨b,0,none⟩) xs.length cap)->bd w' (Z.withOwn k xs.length v) (.row sz k xs.length) v):=by
 have p0:∀bl,v.ownBlock=some bl->w.heap.size<=bl/\bl<w'.heap.size:=fun bl ab=>lF.lt bl ab;have aw:lx w Z w' (Z.withOwn k xs.length v):=by
  refine⟨fun b o bj=>⟨bj,ET aW (h.good.alt b o bj)⟩,fun j b _ ag=>ag,fun g n u _ iT=>?_,fun b o bj=>wO (aW.block b (h.good.alt b o bj) Ψ),fun _ _ _ _ h=>h⟩;by_cases e:g=k
  ·subst e;rcases ad with ad|⟨o,aw,bt⟩
   ·rw[ad.2.1]at iT;cases iT
   ·obtain⟨v0,fw,ao,_⟩:=h.good.own g o aw;rw[ao]at iT;cases iT;exact⟨xs.length,v,by simp[bc.withOwn],.inr bt⟩
  ·exact⟨n,u,by simp[bc.withOwn,e,iT],.inl ⟨rfl,rfl⟩⟩
 have kS:∀g,(look g (cy k ⟨xs.length,el,sz,some xs⟩ st.e)).isSome->g=k\/(g≠k/\(look g st.e).isSome/\(Z.withOwn k xs.length v).ow g=Z.ow g):=by
  intro g kB;by_cases e:g=k
  ·exact .inl e
  ·rw[iW,if_neg (k5 e)]at kB;exact .inr ⟨e,kB,by simp[bc.withOwn,e]⟩
 have SP:∀bl,v.ownBlock=some bl->∀j,¬Z.A bl j:=fun bl ab j bj=>by have J:=h.good.alt bl j bj;have:=(p0 bl ab).1;omega
 have afq:∀j b,¬Z.tr k j b:=fun j b ab=>by
  rcases ad with ad|⟨o,hQ,_⟩
  ·exact ad.2.2 j b ab
  ·obtain⟨v0,fw,ao,_⟩:=h.good.own k o hQ;rw[(h.fr.trn k j b ab).2]at ao;cases ao
 refine⟨h.over aw rfl ⟨fun bl o bj=>?_,fun j eJ ag=>?_,h.good.inj,fun g o er=>?_,fun g fc n n' u e3 bl J U al a1 bW dd=>?_,fun g j n u bl J U al a1 bW=>?_,fun j=>?_,fun bl ab bN j aI=>?_⟩
  ⟨aW.os.trans h.fr.os,aW.tape.trans h.fr.tape,aW.output.trans h.fr.output,gZ h.fr.size aW.size,fun j ag hm=>?_,fun b o bj=>?_,h.fr.fresh,h.fr.obj,h.fr.obn,fun m n u hm=>DG (h.fr.row m n u hm) (fun n u=>aw.ow _ n u trivial),h.fr.obr,h.fr.trd,fun k j b ab=>⟨(h.fr.trb k j b ab).1,Nat.lt_of_lt_of_le (h.fr.trb k j b ab).2 aW.size⟩,fun bN j b ab=>?_,fun b o bj=>(aw.sh b o (h.fr.keep b o bj).1).trans (h.fr.sh b o bj)⟩ (fun m hm=>?_),?_⟩
 ·have:=h.good.alt bl o bj;have:=aW.size;omega
 ·obtain⟨bl,ch,fW,g1,g2,g3,g4,g5⟩:=h.good.box j eJ ag;have bt:=(Array.getElem?_eq_some_iff.1 g4).1;exact⟨bl,ch,fW,g1,g2,g3,by rw[aW.block bl bt Ψ];exact g4,qj aw g5⟩
 ·simp only at er;rw[iW]at er;by_cases e:k=g
  ·rw[if_pos e]at er;cases er;subst e;refine⟨v,us,by simp[bc.withOwn],⟨lF.1,?_⟩,fun bl ab=>⟨.inr (gZ h.fr.size (p0 bl ab).1),fun j bj=>absurd bj (SP bl ab j)⟩,fun ys aM=>?_⟩
   ·rcases lF.2 with ao|⟨bb,cap,cur,f1,f2,f3⟩
    ·exact .inl ao
    ·exact .inr ⟨bb,cap,cur,f1,Ω,f3⟩
   ·simp only[dy]at aM;subst aM;exact⟨rfl,AK aw aq,SP⟩
  ·rw[if_neg e]at er;obtain⟨v0,fw,ao,aF,bM,dt⟩:=h.good.own g o er;exact⟨v0,fw,by simp[bc.withOwn,k5 e,ao],aF.kept aW (by cases v0.ownBlock<;>simp),bM,si aw (fun _ _ _ h=>h) dt⟩
 ·rcases kS g J with rfl|⟨iw,gj,jl⟩<;>rcases kS fc U with rfl|⟨m1,m2,m3⟩
  ·rfl
  ·exfalso;simp only[bc.withOwn,if_true,dy,jE]at al;rw[m3]at a1;obtain⟨o,hQ⟩:=fP.1 m2;have au:=h.good.ownLt hQ a1 dd;have:=(p0 bl (by rw[al.2];exact bW)).1;omega
  ·exfalso;simp only[bc.withOwn,if_true,dy,jE]at a1;rw[jl]at al;obtain⟨o,hQ⟩:=fP.1 gj;have au:=h.good.ownLt hQ al bW;have:=(p0 bl (by rw[a1.2];exact dd)).1;omega
  ·rw[jl]at al;rw[m3]at a1;exact h.good.oinj g fc n n' u e3 bl gj m2 al a1 bW dd
 ·rcases kS g J with rfl|⟨iw,gj,jl⟩
  ·simp only[bc.withOwn,if_true,dy,jE]at al;obtain⟨eJ,iS⟩:=fP.1 U;have au:=h.good.boxLt iS bW;have:=(p0 bl (by rw[al.2];exact a1)).1;omega
  ·rw[jl]at al;exact h.good.obx g j n u bl gj U al a1 bW
 ·by_cases e:j=k
  ·subst e;rcases ad with ad|⟨o,hQ,_⟩
   ·exact .inl ad.1
   ·obtain⟨v0,fw,ao,_⟩:=h.good.own j o hQ;rcases h.good.one j with J|J
    ·exact .inl J
    ·rw[J]at ao;cases ao
  ·rcases h.good.one j with J|J
   ·exact .inl J
   ·exact .inr (by simp[bc.withOwn,e,J])
 ·rcases ab with ab|⟨g,n,u,bz,a2,a3⟩
  ·exact h.good.otr bl (.inl ab) bN j aI
  ·rcases kS g bz with rfl|⟨iw,gj,jl⟩
   ·simp only[bc.withOwn,if_true,dy,jE]at a2;have J:=(p0 bl (by rw[a2.2];exact a3)).1;have U:=(h.fr.trb bN j _ aI).2;omega
   ·exact h.good.otr bl (.inr ⟨g,n,u,gj,by rw[<-jl];exact a2,a3⟩) bN j aI
 ·rw[aW.block j (by have:=h.fr.size;omega) Ψ];exact h.fr.block j ag hm
 ·obtain⟨aX,bg⟩:=h.fr.keep b o bj;exact⟨aX,(aw.A b o aX).2.trans bg⟩
 ·have cF:bN≠k:=fun e=>by subst e;exact afq j b ab
  obtain⟨t1,t2⟩:=h.fr.trn bN j b ab;exact⟨t1,by simp[bc.withOwn,cF,t2]⟩
 ·obtain⟨f1,f2⟩:=c8 m hm;obtain⟨aX,bg,b6⟩:=h.new m f1;refine⟨aX,?_,b6⟩;simp[bc.withOwn,f2,bg]
 ·intro JZ;simp only[bd];exact⟨JZ,iH,xs.length,v,by simp[bc.withOwn],eC _,fun _=>rfl⟩
theorem cS.publish{C:fa}{st:bo}{a:Act}{w:World}{Z:bc}(h:cS C st a w Z){k:aL}{o:fQ}{xs:List ai}(ad:look k st.e=some o)(ae:o.xs=some xs){v:Value}(av:Z.ow k=some (o.n,v))(iH:xs.length<=lim):
  cS C {st with e:=cy k ⟨o.n,o.el,o.sz,none⟩ st.e} a w (Z.withRowOf k v o.n (o.n*o.sz))/\
  bd w (Z.withRowOf k v o.n (o.n*o.sz)) (.slice o.sz (.own k) xs) v:=by
 obtain⟨v0,us,aZ,bm,bP,cP⟩:=h.good.own k o ad;rw[av]at aZ;cases aZ;obtain⟨cZ,n1,uX⟩:=cP xs ae;have oG:∀g,(Z.withRowOf k v o.n (o.n*o.sz)).ow g=Z.ow g:=fun g=>by
  simp only[bc.withRowOf];split
  ·rename_i e;subst e;exact av.symm
  ·rfl
 have aw:lx w Z w (Z.withRowOf k v o.n (o.n*o.sz)):=⟨fun b o bj=>⟨.inl bj,rfl⟩,fun j b _ ag=>ag,fun g n u _ iT=>⟨n,u,by rw[oG];exact iT,.inl ⟨rfl,rfl⟩⟩,fun _ _ _=>rfl,fun _ _ _ _ h=>h⟩
 have kS:∀g,(look g (cy k ⟨o.n,o.el,o.sz,none⟩ st.e)).isSome->(look g st.e).isSome:=by
  intro g kB;by_cases e:k=g
  ·subst e;simp[ad]
  ·rwa[iW,if_neg e]at kB
 refine⟨h.over aw rfl ⟨fun bl i bj=>?_,fun j eJ ag=>?_,h.good.inj,fun g o' er=>?_,fun g fc n n' u e3 bl J U al a1=>h.good.oinj g fc n n' u e3 bl (kS g J) (kS fc U) (by rwa[oG]at al) (by rwa[oG]at a1),fun g j n u bl J U al=>h.good.obx g j n u bl (kS g J) U (by rwa[oG]at al),fun j=>?_,fun bl ab=>h.good.otr bl (ab.imp id (fun⟨g,n,v,bz,a2,a3⟩=>⟨g,n,v,kS g bz,by rwa[oG]at a2,a3⟩))⟩
  ⟨h.fr.os,h.fr.tape,h.fr.output,h.fr.size,h.fr.block,fun b i bj=>⟨.inl (h.fr.keep b i bj).1,(h.fr.keep b i bj).2⟩,fun b i bj=>?_,h.fr.obj,h.fr.obn,fun m n u hm=>DG (h.fr.row m n u hm) (fun n u=>aw.ow _ n u trivial),h.fr.obr,h.fr.trd,h.fr.trb,fun bN j b ab=>⟨(h.fr.trn bN j b ab).1,by rw[oG];exact(h.fr.trn bN j b ab).2⟩,h.fr.sh⟩ (fun m hm=>?_),?_⟩
 ·rcases bj with bj|⟨bj,_⟩
  ·exact h.good.alt bl i bj
  ·exact(bm.lt bl bj).2
 ·obtain⟨bl,ch,fW,g1,g2,g3,g4,g5⟩:=h.good.box j eJ ag;refine⟨bl,ch,fW,g1,g2,fun i bj=>?_,g4,qj aw g5⟩;rcases bj with bj|⟨bj,_⟩
  ·exact g3 i bj
  ·exact h.good.obx k j o.n v bl (by simp[ad]) (by simp[ag]) av bj g1
 ·simp only at er;rw[iW]at er;by_cases e:k=g
  ·rw[if_pos e]at er;cases er;subst e;refine⟨v,us,by rw[oG];exact av,bm,fun bl ab=>⟨(bP bl ab).1,fun j bj=>?_⟩,fun ys aM=>by cases aM⟩;rcases bj with bj|⟨_,bj⟩
   ·exact(bP bl ab).2 j bj
   ·exact bj
  ·rw[if_neg e]at er;obtain⟨v0,fw,ao,aF,bM,dt⟩:=h.good.own g o' er;have vA:∀bl,v0.ownBlock=some bl->∀j,(Z.withRowOf k v o.n (o.n*o.sz)).A bl j->Z.A bl j:=fun bl ab j bj=>by
    rcases bj with bj|⟨bj,_⟩
    ·exact bj
    ·exact absurd (h.good.oinj k g o.n o'.n v v0 bl (by simp[ad]) (by simp[er]) av ao bj ab) e
   exact⟨v0,fw,by rw[oG];exact ao,aF,fun bl ab=>⟨(bM bl ab).1,fun j bj=>(bM bl ab).2 j (vA bl ab j bj)⟩,si aw vA dt⟩
 ·rcases h.good.one j with J|J
  ·exact .inl J
  ·exact .inr (by rw[oG];exact J)
 ·rcases bj with bj|⟨bj,_⟩
  ·exact h.fr.fresh b i bj
  ·exact .inr (bP b bj).1
 ·obtain⟨aX,bg,b6⟩:=h.new m hm;exact⟨aX,by rw[oG];exact bg,b6⟩
 ·simp only[bd];refine⟨?_,fun e=>(by cases e),fun g e=>?_,fun _ _ e=>(by cases e),fun _ e=>(by cases e)⟩
  ·rcases bm.2 with⟨ao,aF⟩|⟨bb,cap,cur,f1,f2,f3,f4,f5,f6,f7⟩
   ·refine⟨none,0,by rw[ao,cZ,aF],Ω,⟨by simp[maxLen],iH⟩,.inl (List.eq_nil_of_length_eq_zero Ω)⟩
   ·refine⟨some ⟨bb,0,none⟩,cap,by rw[f1,cZ],Ω,⟨f5,iH⟩,.inr ⟨bb,0,us,rfl,zZ us 0 fun j u ag=>?_,AK aw n1⟩⟩;have oI:v.ownBlock=some bb:=by rw[f1];rfl
    have zB:j<us.length:=(fp.1 ag).1;refine⟨.inr ⟨oI,by rw[bm.1]at zB;omega⟩,?_⟩;have:=bm.cells oI j u ag;rwa[o4]at this
  ·cases e;exact⟨o.n,v,by rw[oG];exact av,Ω,fun _=>rfl⟩
theorem Xj{α:Type}(k:aL)(p q:α):∀l,cy k q (cy k p l)=cy k q l
 |[]=>by simp[cy]
 |(i,r)::l=>by
  by_cases e:i=k
  ·simp[cy,e]
  ·simp[cy,e,Xj k p q l]
theorem cS.newRow{C:fa}{st:bo}{a:Act}{w w':World}{Z:bc}(h:cS C st a w Z){k:aL}{xs:List ai}(ad:(Z.bx k=none/\Z.ow k=none/\∀j b,¬Z.tr k j b)\/ ∃o,look k st.e=some o/\o.n<xs.length){el sz:Nat}{v:Value}{us:List Value}
  (aW:w.grownBy w' none) (lF:w'.ownsRow w.heap.size el sz v xs.length us) (aq:dx w Z sz xs us) (iH:xs.length<=lim) {n':Nat} {o':List aL} (c8:∀j,fresh n' o' j->fresh st.n st.o j/\j≠k):
  cS C {st with e:=cy k ⟨xs.length,el,sz,none⟩ st.e,n:=n',o:=o'} a w' ((Z.withOwn k xs.length v).withRowOf k v xs.length (xs.length*sz))/\
  bd w' ((Z.withOwn k xs.length v).withRowOf k v xs.length (xs.length*sz)) (.slice sz (.own k) xs) v:=by
 have J:=(h.newRowM ad aW lF aq iH c8).1;have U:=J.publish (k:=k) (o:=⟨xs.length,el,sz,some xs⟩) (xs:=xs) (v:=v) (by simp[iW]) rfl (by simp[bc.withOwn]) iH;simpa only[Xj]using U
theorem cS.setRowM{C:fa}{st:bo}{a:Act}{w w':World}{Z:bc}(h:cS C st a w Z){k:aL}{o:fQ}{xs xs':List ai}(ad:look k st.e=some o)(ae:o.xs=some xs){bl:Nat}{v v':Value}(av:Z.ow k=some (o.n,v))(oI:v.ownBlock=some bl)(FX:v'.ownBlock=some bl)
  (az:(xs'.length=o.n/\v'=v)\/o.n<xs'.length) {us:List Value} (zG:w'.os=w.os) (Ks:w'.tape=w.tape) (Kf:w'.output=w.output) (nk:∀j,j≠bl->w'.heap[j]? =w.heap[j]?) (ee:w'.heap.size=w.heap.size)
  (lF:w'.ownsRow 0 o.el o.sz v' xs'.length us) (aq:dx w Z o.sz xs' us):
  cS C {st with e:=cy k ⟨xs'.length,o.el,o.sz,some xs'⟩ st.e} a w' (Z.withOwn k xs'.length v')/\lx w Z w' (Z.withOwn k xs'.length v')/\(xs'.length<=lim->bd w' (Z.withOwn k xs'.length v') (.row o.sz k xs'.length) v'):=by
 obtain⟨v0,fw,aZ,bm,bP,cP⟩:=h.good.own k o ad;rw[av]at aZ;cases aZ;obtain⟨cZ,n1,uX⟩:=cP xs ae;have aw:lx w Z w' (Z.withOwn k xs'.length v'):=by
  refine⟨fun b i bj=>⟨bj,World.cell?_of_block (nk b fun e=>by subst e;exact uX b oI i bj)⟩,fun j b _ ag=>ag,fun g n u _ iT=>?_,fun b i bj=>wO (nk b fun e=>by subst e;exact uX b oI i bj),fun _ _ _ _ h=>h⟩;by_cases e:g=k
  ·subst e;rw[av]at iT;cases iT;refine⟨xs'.length,v',by simp[bc.withOwn],?_⟩;rcases az with⟨J,U⟩|J
   ·exact .inl ⟨J,U⟩
   ·exact .inr J
  ·exact⟨n,u,by simp[bc.withOwn,e,iT],.inl ⟨rfl,rfl⟩⟩
 have kS:∀g n u,(look g (cy k ⟨xs'.length,o.el,o.sz,some xs'⟩ st.e)).isSome->(Z.withOwn k xs'.length v').ow g=some (n,u)->∀b,u.ownBlock=some b->(look g st.e).isSome/\∃n u,Z.ow g=some (n,u)/\u.ownBlock=some b:=by
  intro g n u kB iT b ab;by_cases e:g=k
  ·subst e;simp only[bc.withOwn,if_true,dy,jE]at iT;rw[<-iT.2,FX]at ab;cases ab;exact⟨by simp[ad],o.n,v,av,oI⟩
  ·rw[iW,if_neg (k5 e)]at kB;simp only[bc.withOwn,e,if_false]at iT;exact⟨kB,n,u,iT,ab⟩
 refine⟨h.over aw rfl ⟨fun b i bj=>by rw[ee];exact h.good.alt b i bj,fun j eJ ag=>?_,h.good.inj,fun g o' er=>?_,fun g fc n n' u e3 b J U al a1 bW dd=>?_,fun g j n u b J U al a1 bW=>?_,fun j=>?_,fun b ab=>h.good.otr b (ab.imp id (fun⟨g,n,v,bz,a2,a3⟩=>by obtain⟨cf,iw,ja,b9,gb⟩:=kS g n v bz a2 b a3;exact⟨g,iw,ja,cf,b9,gb⟩))⟩
  ⟨zG.trans h.fr.os,Ks.trans h.fr.tape,Kf.trans h.fr.output,by rw[ee];exact h.fr.size,fun j ag hm=>?_,fun b i bj=>?_,h.fr.fresh,h.fr.obj,h.fr.obn,fun m n u hm=>DG (h.fr.row m n u hm) (fun n u=>aw.ow _ n u trivial),h.fr.obr,h.fr.trd,fun k j b ab=>⟨(h.fr.trb k j b ab).1,by rw[ee];exact(h.fr.trb k j b ab).2⟩,fun bN j b ab=>?_,fun b o bj=>(aw.sh b o (h.fr.keep b o bj).1).trans (h.fr.sh b o bj)⟩ (fun m hm=>?_),aw,?_⟩
 ·obtain⟨b,ch,fW,g1,g2,g3,g4,g5⟩:=h.good.box j eJ ag;have cF:b≠bl:=fun e=>h.good.obx k j o.n _ bl (by simp[ad]) (by simp[ag]) av oI (by rw[<-e];exact g1);exact⟨b,ch,fW,g1,g2,g3,by rw[nk b cF];exact g4,qj aw g5⟩
 ·simp only at er;rw[iW]at er;by_cases e:k=g
  ·rw[if_pos e]at er;cases er;subst e;refine⟨v',us,by simp[bc.withOwn],lF,fun b ab=>?_,fun ys aM=>?_⟩
   ·rw[FX]at ab;cases ab;exact⟨(bP bl oI).1,fun j bj=>absurd bj (uX bl oI j)⟩
   ·simp only[dy]at aM;subst aM;exact⟨rfl,AK aw aq,fun b ab=>by rw[FX]at ab;cases ab;exact uX bl oI⟩
  ·rw[if_neg e]at er;obtain⟨v0,fw,ao,aF,bM,dt⟩:=h.good.own g o' er;have cF:∀b,v0.ownBlock=some b->b≠bl:=fun b ab IZ=>e (h.good.oinj k g o.n o'.n _ v0 bl (by simp[ad]) (by simp[er]) av ao oI (by rw[<-IZ];exact ab));refine⟨v0,fw,by simp[bc.withOwn,k5 e,ao],⟨aF.1,?_⟩,bM,si aw (fun _ _ _ h=>h) dt⟩;rcases aF.2 with aF|⟨bb,BB,mx,f1,f2,f3,f4⟩
   ·exact .inl aF
   ·exact .inr ⟨bb,BB,mx,f1,f2,by rw[nk bb (cF bb (by rw[f1];rfl))];exact f3,f4⟩
 ·obtain⟨bz,iw,ja,a2,a3⟩:=kS g n u J al b bW;obtain⟨cf,gj,jD,b9,gb⟩:=kS fc n' e3 U a1 b dd;exact h.good.oinj g fc iw gj ja jD b bz cf a2 b9 a3 gb
 ·obtain⟨bz,iw,ja,a2,a3⟩:=kS g n u J al b a1;exact h.good.obx g j iw ja b bz U a2 a3 bW
 ·by_cases e:j=k
  ·subst e;rcases h.good.one j with J|J
   ·exact .inl J
   ·rw[J]at av;cases av
  ·rcases h.good.one j with J|J
   ·exact .inl J
   ·exact .inr (by simp[bc.withOwn,e,J])
 ·rw[nk j fun e=>by subst e;exact(bP j oI).1.elim hm (fun g2=>Ω)];exact h.fr.block j ag hm
 ·obtain⟨aX,bg⟩:=h.fr.keep b i bj;exact⟨aX,(aw.A b i aX).2.trans bg⟩
 ·obtain⟨t1,t2⟩:=h.fr.trn bN j b ab;have cF:bN≠k:=fun e=>by subst e;rw[t2]at av;cases av
  exact⟨t1,by simp[bc.withOwn,cF,t2]⟩
 ·obtain⟨aX,bg,b6⟩:=h.new m hm;refine⟨aX,?_,b6⟩;have:m≠k:=fun e=>by subst e;rw[bg]at av;cases av
  simp[bc.withOwn,this,bg]
 ·intro iH;simp only[bd];obtain⟨cap,JZ⟩:=Vd lF FX;exact⟨⟨bl,cap,JZ⟩,iH,xs'.length,v',by simp[bc.withOwn],eC _,fun _=>rfl⟩
theorem cS.inPlace{C:fa}{st:bo}{a:Act}{w:World}{Z:bc}(h:cS C st a w Z){k:aL}{o:fQ}(ad:look k st.e=some o){bl cap:Nat}{cur:Array Value}(av:Z.ow k=some (o.n,.slice (some ⟨bl,0,none⟩) o.n cap))
  (xz:w.heap[bl]? =some (.cells cur o.el (0,0))) (zr:cap<=maxLen) (ee:cur.size=cap*o.sz) {xs ys:List ai} {us ns:List Value} (pw:xs.length=o.n) (qS:cur.toList.take (o.n*o.sz)=us) (aq:dx w Z o.sz xs us) (zt:dx w Z o.sz ys ns)
  (fB:0<ys.length) (rU:o.n+ys.length<=cap) (iH:xs.length+ys.length<=lim):
  cS C {st with e:=cy k ⟨o.n+ys.length,o.el,o.sz,none⟩ st.e} a (w.setRow bl (us++ns++cur.toList.drop (o.n*o.sz+ns.length)).toArray)
   (Z.withRowOf k (.slice (some ⟨bl,0,none⟩) (o.n+ys.length) cap) (o.n+ys.length) ((o.n+ys.length)*o.sz))/\
  bd (w.setRow bl (us++ns++cur.toList.drop (o.n*o.sz+ns.length)).toArray) (Z.withRowOf k (.slice (some ⟨bl,0,none⟩) (o.n+ys.length) cap) (o.n+ys.length) ((o.n+ys.length)*o.sz))
   (.slice o.sz (.own k) (xs++ys)) (.slice (some ⟨bl,0,none⟩) (o.n+ys.length) cap):=by
 have jJ:=tE zt;have rW:=tE aq;rw[pw]at rW;have hmul:(o.n+ys.length)*o.sz<=cap*o.sz:=qq _ rU;rw[o0]at hmul;obtain⟨v0,fw,aZ,bm,bP,_⟩:=h.good.own k o ad;rw[av]at aZ;cases aZ;obtain⟨cP,cZ⟩:=bP bl rfl;generalize zN:w.setRow bl (us++ns++cur.toList.drop (o.n*o.sz+ns.length)).toArray=w';have nk:∀j,j≠bl->w'.heap[j]? =w.heap[j]?:=fun j ag=>by rw[<-zN];exact setRow_other w bl j _ ag
 have jY:w'.heap[bl]? =some (.cells (us++ns++cur.toList.drop (o.n*o.sz+ns.length)).toArray o.el (0,0)):=by rw[<-zN];exact setRow_heap w bl cur _ o.el _ xz
 have Ko:w'.heap.size=w.heap.size:=by rw[<-zN];exact setRow_size w bl _
 have mB:∀j,j<o.n*o.sz->w'.cell? ⟨bl,j,none⟩=w.cell? ⟨bl,j,none⟩:=by intro j ag;simp only[World.cell?,jY,xz,iL,gF,if_false];rw[List.getElem?_toArray,List.append_assoc,List.getElem?_append_left Ω,<-qS,List.getElem?_take,if_pos ag];simp
 have aw:lx w Z w' (Z.withRowOf k (.slice (some ⟨bl,0,none⟩) (o.n+ys.length) cap) (o.n+ys.length) ((o.n+ys.length)*o.sz)):=by
  refine⟨fun b j bj=>⟨.inl bj,?_⟩,fun j b _ ag=>ag,fun g n u _ iT=>?_,fun b j bj=>?_,fun _ _ _ _ h=>h⟩;rotate_left 2
  ·by_cases e:b=bl
   ·subst e;simp only[shape,jY,xz,List.size_toArray,oW,sB,Array.length_toList];congr 2;omega
   ·exact wO (nk b e)
  ·by_cases e:b=bl
   ·subst e;exact mB j (cZ j bj)
   ·exact World.cell?_of_block (nk b e)
  ·by_cases e:g=k
   ·subst e;rw[av]at iT;cases iT;exact⟨o.n+ys.length,.slice (some ⟨bl,0,none⟩) (o.n+ys.length) cap,by simp[bc.withRowOf],.inr Ω⟩
   ·exact⟨n,u,by simp[bc.withRowOf,e,iT],.inl ⟨rfl,rfl⟩⟩
 have kS:∀g,(look g (cy k ⟨o.n+ys.length,o.el,o.sz,none⟩ st.e)).isSome->g=k\/(g≠k/\(look g st.e).isSome/\(Z.withRowOf k (.slice (some ⟨bl,0,none⟩) (o.n+ys.length) cap) (o.n+ys.length) ((o.n+ys.length)*o.sz)).ow g=Z.ow g):=by
  intro g kB;by_cases e:g=k
  ·exact .inl e
  ·rw[iW,if_neg (k5 e)]at kB;exact .inr ⟨e,kB,by simp[bc.withRowOf,e]⟩
 have aoU:bl<w.heap.size:=(Array.getElem?_eq_some_iff.1 xz).1;have aeB:∀j u,(us++ns)[j]? =some u->w'.cell? ⟨bl,j,none⟩=some u:=by intro j u ag;have zB:=(fp.1 ag).1;simp only[World.cell?,jY,iL,gF,if_false];rw[List.getElem?_toArray,List.getElem?_append_left zB];exact ag
 refine⟨h.over aw rfl ⟨fun b j bj=>?_,fun j eJ ag=>?_,h.good.inj,fun g o' er=>?_,fun g fc n n' u e3 b J U al a1 bW dd=>?_,fun g j n u b J U al a1 bW=>?_,fun j=>?_,fun b ab=>h.good.otr b ?_⟩
  ⟨by rw[<-zN];exact h.fr.os,by rw[<-zN];exact h.fr.tape,by rw[<-zN];exact h.fr.output,by rw[Ko];exact h.fr.size,fun j ag hm=>?_,fun b j bj=>?_,fun b j bj=>?_,h.fr.obj,h.fr.obn,fun m n u hm=>DG (h.fr.row m n u hm) (fun n u=>aw.ow _ n u trivial),h.fr.obr,h.fr.trd,fun k j b ab=>⟨(h.fr.trb k j b ab).1,by rw[Ko];exact(h.fr.trb k j b ab).2⟩,fun bN j b ab=>?_,fun b o bj=>(aw.sh b o (h.fr.keep b o bj).1).trans (h.fr.sh b o bj)⟩ (fun m hm=>?_),?_⟩
 ·rw[Ko];rcases bj with bj|⟨bj,_⟩
  ·exact h.good.alt b j bj
  ·simp only[oc,dy]at bj;omega
 ·obtain⟨b,ch,fW,g1,g2,g3,g4,g5⟩:=h.good.box j eJ ag;have cF:b≠bl:=fun e=>h.good.obx k j o.n _ bl (by simp[ad]) (by simp[ag]) av rfl (by rw[<-e];exact g1);refine⟨b,ch,fW,g1,g2,fun i bj=>?_,by rw[nk b cF];exact g4,qj aw g5⟩;rcases bj with bj|⟨bj,_⟩
  ·exact g3 i bj
  ·simp only[oc,dy]at bj;exact cF bj.symm
 ·simp only at er;rw[iW]at er;by_cases e:k=g
  ·rw[if_pos e]at er;cases er;subst e;refine⟨.slice (some ⟨bl,0,none⟩) (o.n+ys.length) cap,us++ns,by simp[bc.withRowOf],⟨by rw[oW,rW,jJ,o0],.inr ⟨bl,cap,_,rfl,Nat.zero_le _,jY,rU,zr,?_,?_⟩⟩,fun b ab=>⟨?_,fun j bj=>?_⟩,fun ys aM=>by cases aM⟩
   ·simp only[List.size_toArray,oW,sB,Array.length_toList];omega
   ·have au:(us++ns).length=(o.n+ys.length)*o.sz:=by rw[oW,rW,jJ,o0]
    simp only[<-au];rw[List.take_append_of_le_length (eC _),oZ]
   ·simp only[oc,dy]at ab;subst ab;exact cP
   ·simp only[oc,dy]at ab;subst ab;rcases bj with bj|⟨_,bj⟩
    ·have:=cZ j bj;simp only;rw[o0];omega
    ·exact bj
  ·rw[if_neg e]at er;obtain⟨v0,fw,ao,aF,bM,dt⟩:=h.good.own g o' er;have cF:∀b,v0.ownBlock=some b->b≠bl:=fun b ab IZ=>e (h.good.oinj k g o.n o'.n _ v0 bl (by simp[ad]) (by simp[er]) av ao rfl (by rw[<-IZ];exact ab));have vA:∀b,v0.ownBlock=some b->∀j,(Z.withRowOf k (.slice (some ⟨bl,0,none⟩) (o.n+ys.length) cap) (o.n+ys.length) ((o.n+ys.length)*o.sz)).A b j->Z.A b j:=fun b ab j bj=>by
    rcases bj with bj|⟨bj,_⟩
    ·exact bj
    ·simp only[oc,dy]at bj;exact absurd bj.symm (cF b ab)
   refine⟨v0,fw,by simp[bc.withRowOf,k5 e,ao],⟨aF.1,?_⟩,fun b ab=>⟨(bM b ab).1,fun j bj=>(bM b ab).2 j (vA b ab j bj)⟩,si aw vA dt⟩;rcases aF.2 with aF|⟨bb,BB,mx,f1,f2,f3,f4⟩
   ·exact .inl aF
   ·exact .inr ⟨bb,BB,mx,f1,f2,by rw[nk bb (cF bb (by rw[f1];rfl))];exact f3,f4⟩
 ·rcases kS g J with rfl|⟨iw,gj,jl⟩<;>rcases kS fc U with rfl|⟨m1,m2,m3⟩
  ·rfl
  ·exfalso;simp only[bc.withRowOf,if_true,dy,jE]at al;rw[m3]at a1;rw[<-al.2]at bW;simp only[oc,dy]at bW;subst bW;exact m1 (h.good.oinj fc g n' o.n e3 _ bl m2 (by simp[ad]) a1 av dd rfl)
  ·exfalso;simp only[bc.withRowOf,if_true,dy,jE]at a1;rw[jl]at al;rw[<-a1.2]at dd;simp only[oc,dy]at dd;subst dd;exact iw (h.good.oinj g fc n o.n u _ bl gj (by simp[ad]) al av bW rfl)
  ·rw[jl]at al;rw[m3]at a1;exact h.good.oinj g fc n n' u e3 b gj m2 al a1 bW dd
 ·rcases kS g J with rfl|⟨iw,gj,jl⟩
  ·simp only[bc.withRowOf,if_true,dy,jE]at al;rw[<-al.2]at a1;simp only[oc,dy]at a1;subst a1;exact h.good.obx g j o.n _ bl (by simp[ad]) U av rfl bW
  ·rw[jl]at al;exact h.good.obx g j n u b gj U al a1 bW
 ·by_cases e:j=k
  ·subst e;rcases h.good.one j with J|J
   ·exact .inl J
   ·rw[J]at av;cases av
  ·rcases h.good.one j with J|J
   ·exact .inl J
   ·exact .inr (by simp[bc.withRowOf,e,J])
 ·rcases ab with ab|⟨g,n,u,bz,a2,a3⟩
  ·exact .inl ab
  ·rcases kS g bz with rfl|⟨iw,gj,jl⟩
   ·simp only[bc.withRowOf,if_true,dy,jE]at a2;rw[<-a2.2]at a3;exact .inr ⟨g,_,_,by simp[ad],av,a3⟩
   ·exact .inr ⟨g,n,u,gj,by rw[<-jl];exact a2,a3⟩
 ·rw[nk j fun e=>by subst e;exact cP.elim hm (fun g2=>Ω)];exact h.fr.block j ag hm
 ·obtain⟨aX,bg⟩:=h.fr.keep b j bj;exact⟨.inl aX,(aw.A b j aX).2.trans bg⟩
 ·rcases bj with bj|⟨bj,_⟩
  ·exact h.fr.fresh b j bj
  ·simp only[oc,dy]at bj;subst bj;exact .inr cP
 ·obtain⟨t1,t2⟩:=h.fr.trn bN j b ab;have cF:bN≠k:=fun e=>by subst e;rw[t2]at av;cases av
  exact⟨t1,by simp[bc.withRowOf,cF,t2]⟩
 ·obtain⟨aX,bg,b6⟩:=h.new m hm;refine⟨aX,?_,b6⟩;have:m≠k:=fun e=>by subst e;rw[bg]at av;cases av
  simp[bc.withRowOf,this,bg]
 ·simp only[bd];refine⟨⟨some ⟨bl,0,none⟩,cap,by simp[pw],by simp;omega,⟨zr,by simpa using iH⟩,.inr ⟨bl,0,us++ns,rfl,zZ _ 0 fun j u ag=>?_,DA (AK aw aq) (AK aw zt)⟩⟩,fun e=>(by cases e),fun g e=>?_,fun _ _ e=>(by cases e),fun _ e=>(by cases e)⟩
  ·have zB:=(fp.1 ag).1;rw[Nat.zero_add];refine⟨.inr ⟨rfl,?_⟩,aeB j u ag⟩;rw[oW,rW,jJ]at zB;rw[o0];exact zB
  ·cases e;exact⟨o.n+ys.length,.slice (some ⟨bl,0,none⟩) (o.n+ys.length) cap,by simp[bc.withRowOf],by simp[pw],fun _=>rfl⟩
theorem Hr{P:cG}{w:World}{t ty e:gG}{i:TypeInfo}(aI:P.underlying t=some (.slice e))(hi:P.info? e=some i)(b:Option Addr)(n cap:Nat)(az:n<=cap)(x:Option Addr)(c:Nat):
  (Builtin.append_ #[t,t] ty #[.slice b n cap,.slice x 0 c]).run P w= .ok (.slice b n cap) w:=by
 cases b<;>cases x<;>simp[Builtin.append_,run_underlying aI,sizeOf,typeInfo,hi,Builtin.lenOf,az,Builtin.firstCells,loadCells,loadCellsFrom,storeCells]
inductive ei where
 |v (d:Nat) (i:fU)
 |box (d:Nat) (key:Option Nat) (x:dp)
 |alloc (d:Nat) (key:Option Nat) (zero:ai)
 |store (sz:Nat) (x y:dp)
 |bsl (d:Nat) (sz el:Nat) (xs:List dp)
 |app (d:Nat) (sz el:Nat) (x y:dp)
 |bslm (d:Nat) (key:Option Nat) (sz el:Nat) (xs:List dp)
 |appm (d:Nat) (key:Option Nat) (sz el:Nat) (x y:dp)
 |mkmap (d:Nat) (key:Option Nat)
 |mput (cc:hL) (x k v:dp)
 |range (d:Nat) (key:Option Nat) (x:dp)
 |storeE (sz:Nat) (x y:dp)
 |mks (d:Nat) (key:Option Nat) (sz el:Nat) (z:ai) (x:dp)
def jO(st:bo):Option Nat->aL
 |none=>.loc st.n
 |some m=>.obj m
def qc(st:bo):Option Nat->Prop
 |none=>.loc st.n∉st.o
 |some m=>.obj m∉st.o
def nu(st:bo):Option Nat->Nat
 |none=>st.n+1
 |some _=>st.n
def nv(st:bo):Option Nat->List aL
 |none=>st.o
 |some m=>.obj m::st.o
theorem wv{st:bo}{key:Option Nat}(h:qc st key):fresh st.n st.o (jO st key):=by cases key<;>simp[jO,fresh,qc]at h⊢ <;>exact h
theorem wx{st:bo}{key:Option Nat}:∀j,fresh (nu st key) (nv st key) j->fresh st.n st.o j/\j≠jO st key:=by
 intro j ag;cases key<;>cases j<;>simp[fresh,nu,nv,jO]at ag⊢
 ·exact⟨⟨Ω,ag.2⟩,Ω⟩
 ·exact ag
 ·exact ag
 ·exact⟨ag.2,ag.1⟩
def sI(sz:Nat):List ai->Prop
 |[]=>True
 |p::cz=>(eH p=true/\(cells p).length=sz)/\sI sz cz
def oN(cc:hL)(k v:ai):List ai->Option (List ai)
 | .hdm clock borns::kvs=>if wb cc k=false then none else match uR cc k v kvs with
  |some (some wh)=>some (.hdm clock borns::wh)
  |some none=>some (.hdm (clock+1) (borns++[clock])::(kvs++[k,v]))
  |none=>none
 |_=>none
def yq(m:aL):List ai->Option (List ai)
 | .hdm clock _::_=>some [.hdi clock [] clock,.gmap m]
 |_=>none
def sJ(st:bo)(sz el:Nat)(x y:ai):Option ((Option (aL×List ai))×List ai):=
 match x,y with
 | .slice dH .nil _,.slice jo _ ys=>if dH=sz/\jo=sz then some (none,ys)else none
 | .row dH k n,.slice jo _ ys=>if dH=sz/\jo=sz then
   match look k st.e with
   |some ⟨n',fW,wT,some xs⟩=>if n'=n/\fW=el/\wT=sz then some (some (k,xs),ys)else none
   |_=>none
  else none
 |_,_=>none
def pK:ai->Nat->List ai->ai
 | .agg eJ,f,cs=>.agg (n3 eJ f cs)
 |_,_,[q]=>q
 |_,_,_=>.junk
def q9(st:bo)(sz:Nat)(p v:ai):Option (Prop×bo):=
 match p with
 | .rptr dH k n i f=>match look k st.e with
  |some ⟨n',el,jo,some xs⟩=>if n'=n/\jo=dH then
    match xs[i]? with
    |some q=>some (eH q=true/\eH v=true/\(cells v).length=sz/\f+sz<=(cells q).length/\0<sz,{st with e:=cy k ⟨n',el,jo,some (xs.set i (pK q f (cells v)))⟩ st.e})
    |none=>none
   else none
  |_=>none
 |_=>none
def me(st:bo):ei->Option (Prop×bo)
 | .mks d key sz el z x=>match cm st.t x with
  | .int _ n=>some (qc st key/\0<=n/\n<=lim,
    {t:=put d (.row sz (jO st key) n.toNat) st.t,b:=st.b,e:=cy (jO st key) ⟨n.toNat,el,sz,some (List.replicate n.toNat z)⟩ st.e,n:=nu st key,o:=nv st key})
  |_=>none
 | .bslm d key sz el xs=>some (qc st key/\sI sz (xs.map (cm st.t)),
   {t:=put d (.row sz (jO st key) xs.length) st.t,b:=st.b,e:=cy (jO st key) ⟨xs.length,el,sz,some (xs.map (cm st.t))⟩ st.e,n:=nu st key,o:=nv st key})
 | .appm d key sz el x y=>match sJ st sz el (cm st.t x) (cm st.t y)with
  |some (none,ys)=>some (qc st key/\ys.length<=lim/\ys≠[],
    {t:=put d (.row sz (jO st key) ys.length) st.t,b:=st.b,e:=cy (jO st key) ⟨ys.length,el,sz,some ys⟩ st.e,n:=nu st key,o:=nv st key})
  |some (some (k,xs),ys)=>some (xs.length+ys.length<=lim,{st with t:=put d (.row sz k (xs.length+ys.length)) st.t,e:=cy k ⟨xs.length+ys.length,el,sz,some (xs++ys)⟩ st.e})
  |none=>none
 | .mkmap d key=>some (qc st key,{t:=put d (.gmap (jO st key)) st.t,b:=cy (jO st key) [.hdm 0 []] st.b,e:=st.e,n:=nu st key,o:=nv st key})
 | .mput cc x k v=>match cm st.t x with
  | .gmap m=>match look m st.b with
   |some cs=>match oN cc (cm st.t k) (cm st.t v) cs with
    |some cs'=>some (True,{st with b:=cy m cs' st.b})
    |none=>none
   |none=>none
  |_=>none
 | .range d key x=>match cm st.t x with
  | .gmap m=>match look m st.b with
   |some cs=>match yq m cs with
    |some cs'=>some (qc st key,{t:=put d (.ptr (jO st key) 0) st.t,b:=cy (jO st key) cs' st.b,e:=st.e,n:=nu st key,o:=nv st key})
    |none=>none
   |none=>none
  |_=>none
 | .v d i=>match hj st i with
  |some (c,p)=>some (c,{st with t:=put d p st.t})
  |none=>none
 | .storeE sz x y=>q9 st sz (cm st.t x) (cm st.t y)
 | .box d key x=>some (qc st key/\eH (cm st.t x)=true,
   {t:=put d (.ptr (jO st key) 0) st.t,b:=cy (jO st key) (cells (cm st.t x)) st.b,e:=st.e,n:=nu st key,o:=nv st key})
 | .alloc d key z=>some (qc st key,{t:=put d (.ptr (jO st key) 0) st.t,b:=cy (jO st key) (cells z) st.b,e:=st.e,n:=nu st key,o:=nv st key})
 | .store sz x y=>match cm st.t x with
  | .ptr k off=>match look k st.b with
   |some cs=>some (hS cs=true/\eH (cm st.t y)=true/\(cells (cm st.t y)).length=sz/\off+sz<=cs.length,{st with b:=cy k (n3 cs off (cells (cm st.t y))) st.b})
   |none=>none
  |p=>q9 st sz p (cm st.t y)
 | .bsl d sz el xs=>some (qc st none/\sI sz (xs.map (cm st.t)),
   {st with t:=put d (.slice sz (.own (.loc st.n)) (xs.map (cm st.t))) st.t,e:=cy (.loc st.n) ⟨xs.length,el,sz,none⟩ st.e,n:=st.n+1})
 | .app d sz el x y=>match cm st.t x,cm st.t y with
  | .slice dH tag xs,.slice jo _ ys=>if dH=sz/\jo=sz then
    match tag with
    | .own k=>match look k st.e with
     |some o=>some (o.n=xs.length/\o.el=el/\o.sz=sz/\xs.length+ys.length<=lim,
       {st with t:=put d (.slice sz (.own k) (xs++ys)) st.t,e:=cy k ⟨xs.length+ys.length,el,sz,none⟩ st.e})
     |none=>none
    | .nil=>some (qc st none/\ys.length<=lim,{st with t:=put d (.slice sz (.own (.loc st.n)) ys) st.t,e:=cy (.loc st.n) ⟨ys.length,el,sz,none⟩ st.e,n:=st.n+1})
    |_=>none
   else none
  |_,_=>none
def eA(κ:aL)(n':Nat)(o':List aL)(st:bo):ei->Option (Prop×bo)
 | .mks d _ sz el z x=>match cm st.t x with
  | .int _ n=>some (0<=n/\n<=lim,
    {t:=put d (.row sz κ n.toNat) st.t,b:=st.b,e:=cy κ ⟨n.toNat,el,sz,some (List.replicate n.toNat z)⟩ st.e,n:=n',o:=o'})
  |_=>none
 | .bslm d _ sz el xs=>some (sI sz (xs.map (cm st.t)),
   {t:=put d (.row sz κ xs.length) st.t,b:=st.b,e:=cy κ ⟨xs.length,el,sz,some (xs.map (cm st.t))⟩ st.e,n:=n',o:=o'})
 | .appm d _ sz el x y=>match sJ st sz el (cm st.t x) (cm st.t y)with
  |some (none,ys)=>some (ys.length<=lim/\ys≠[],
    {t:=put d (.row sz κ ys.length) st.t,b:=st.b,e:=cy κ ⟨ys.length,el,sz,some ys⟩ st.e,n:=n',o:=o'})
  |some (some (k,xs),ys)=>some (xs.length+ys.length<=lim,{st with t:=put d (.row sz k (xs.length+ys.length)) st.t,e:=cy k ⟨xs.length+ys.length,el,sz,some (xs++ys)⟩ st.e})
  |none=>none
 | .mkmap d _=>some (True,{t:=put d (.gmap κ) st.t,b:=cy κ [.hdm 0 []] st.b,e:=st.e,n:=n',o:=o'})
 | .mput cc x k v=>match cm st.t x with
  | .gmap m=>match look m st.b with
   |some cs=>match oN cc (cm st.t k) (cm st.t v) cs with
    |some cs'=>some (True,{st with b:=cy m cs' st.b})
    |none=>none
   |none=>none
  |_=>none
 | .range d _ x=>match cm st.t x with
  | .gmap m=>match look m st.b with
   |some cs=>match yq m cs with
    |some cs'=>some (True,{t:=put d (.ptr κ 0) st.t,b:=cy κ cs' st.b,e:=st.e,n:=n',o:=o'})
    |none=>none
   |none=>none
  |_=>none
 | .v d i=>match hj st i with
  |some (c,p)=>some (c,{st with t:=put d p st.t})
  |none=>none
 | .storeE sz x y=>q9 st sz (cm st.t x) (cm st.t y)
 | .box d _ x=>some (eH (cm st.t x)=true,{t:=put d (.ptr κ 0) st.t,b:=cy κ (cells (cm st.t x)) st.b,e:=st.e,n:=n',o:=o'})
 | .alloc d _ z=>some (True,{t:=put d (.ptr κ 0) st.t,b:=cy κ (cells z) st.b,e:=st.e,n:=n',o:=o'})
 | .store sz x y=>match cm st.t x with
  | .ptr k off=>match look k st.b with
   |some cs=>some (hS cs=true/\eH (cm st.t y)=true/\(cells (cm st.t y)).length=sz/\off+sz<=cs.length,{st with b:=cy k (n3 cs off (cells (cm st.t y))) st.b})
   |none=>none
  |p=>q9 st sz p (cm st.t y)
 | .bsl d sz el xs=>some (sI sz (xs.map (cm st.t)),
   {st with t:=put d (.slice sz (.own κ) (xs.map (cm st.t))) st.t,e:=cy κ ⟨xs.length,el,sz,none⟩ st.e,n:=n',o:=o'})
 | .app d sz el x y=>match cm st.t x,cm st.t y with
  | .slice dH tag xs,.slice jo _ ys=>if dH=sz/\jo=sz then
    match tag with
    | .own k=>match look k st.e with
     |some o=>some (o.n=xs.length/\o.el=el/\o.sz=sz/\xs.length+ys.length<=lim,
       {st with t:=put d (.slice sz (.own k) (xs++ys)) st.t,e:=cy k ⟨xs.length+ys.length,el,sz,none⟩ st.e})
     |none=>none
    | .nil=>some (ys.length<=lim,{st with t:=put d (.slice sz (.own κ) ys) st.t,e:=cy κ ⟨ys.length,el,sz,none⟩ st.e,n:=n',o:=o'})
    |_=>none
   else none
  |_,_=>none
def wB:Nat->List dp->List (Nat×Operand)->Bool
 |_,[],[]=>true
 |i,x::xs,(j,o)::os=>i==j&&eg x o&&wB (i+1) xs os
 |_,_,_=>false
def DI(N:Nat)(bB:List (Nat×dA))(i:ei)(o:Oper):Bool:=
 match i,o.op with
 | .mkmap d _,.makeMap _ none=>o.dst==some d&&decide (d<N)
 | .mput cc x k v,.mapUpdate t gU gJ qi=>o.dst==none&&(match dZ bB t with|some ⟨_,_,.map mM _,_⟩=>xW bB cc mM|_=>false)&&eg x gU&&eg k gJ&&eg v qi
 | .mput cc x k v,.insert t gU gJ qi=>o.dst==none&&(match dZ bB t with|some ⟨_,_,.map mM _,_⟩=>xW bB cc mM|_=>false)&&eg x gU&&eg k gJ&&eg v qi
 | .range d _ x,.range t gU=>o.dst==some d&&decide (d<N)&&(match dZ bB t with|some ⟨_,_,.map _ _,_⟩=>true|_=>false)&&eg x gU
 | .v d i,op=>o.dst==some d&&decide (d<N)&&D2 bB i op
 | .box d _ x,.box _ o'=>o.dst==some d&&decide (d<N)&&eg x o'
 | .alloc d _ z,.alloc el=>o.dst==some d&&decide (d<N)&&(match dZ bB el with|some f=>Be z f.zero|none=>false)
 | .store sz x y,.store t o' jm=>o.dst==none&&(match dZ bB t with|some f=>f.size==sz|none=>false)&&eg x o'&&eg y jm
 | .bsl d sz el xs,.buildSlice t len parts=>o.dst==some d&&decide (d<N)&&(match dZ bB t with|some ⟨_,_,.slice fW,_⟩=>el==fW|_=>false)&&(match dZ bB el with|some f=>f.size==sz&&decide (0<sz)|none=>false)
   &&len==xs.length&&decide (len*sz<=16777216)&&wB 0 xs parts.toList
 | .app d sz el x y,.call ⟨.builtin .append,⟨[o',jm]⟩,⟨[t,dK]⟩⟩=>o.dst==some d&&decide (d<N)&&t==dK&&(match dZ bB t with|some ⟨_,_,.slice fW,_⟩=>el==fW|_=>false)
   &&(match dZ bB el with|some f=>f.size==sz&&decide (0<sz)&&decide (f.bytes<=2048)|none=>false)&&eg x o'&&eg y jm
 | .bslm d _ sz el xs,.buildSlice t len parts=>o.dst==some d&&decide (d<N)&&(match dZ bB t with|some ⟨_,_,.slice fW,_⟩=>el==fW|_=>false)&&(match dZ bB el with|some f=>f.size==sz&&decide (0<sz)|none=>false)
   &&len==xs.length&&decide (len*sz<=16777216)&&wB 0 xs parts.toList
 | .appm d _ sz el x y,.call ⟨.builtin .append,⟨[o',jm]⟩,⟨[t,dK]⟩⟩=>o.dst==some d&&decide (d<N)&&t==dK&&(match dZ bB t with|some ⟨_,_,.slice fW,_⟩=>el==fW|_=>false)
   &&(match dZ bB el with|some f=>f.size==sz&&decide (0<sz)&&decide (f.bytes<=2048)|none=>false)&&eg x o'&&eg y jm
 | .storeE sz x y,.store t o' jm=>o.dst==none&&(match dZ bB t with|some f=>f.size==sz|none=>false)&&eg x o'&&eg y jm
 | .mks d _ sz el z x,.makeSlice t o' jm=>o.dst==some d&&decide (d<N)&&(match dZ bB t with|some ⟨_,_,.slice fW,_⟩=>el==fW|_=>false)
   &&(match dZ bB el with|some f=>f.size==sz&&decide (0<sz)&&decide (f.bytes<=2048)&&Be z f.zero|none=>false)&&eg x o'&&eg x jm
 |_,_=>false
theorem WO{w:World}{Z:bc}{C:fa}{st:bo}{a:Act}(aK:cS C st a w Z){sz:Nat}:
  ∀(xs:List dp) (i:Nat) (os:List (Nat×Operand)) (pre:List ai) (us:Array Value) (ba:List Value),wB i xs os=true->sI sz (xs.map (cm st.t))->us.toList.take (i*sz)=ba->dx w Z sz pre ba->i=pre.length->us.size=(i+xs.length)*sz->
  ∃ch:Array Value,Instr.fill (fun i=>some (i*sz,sz)) us (os.map fun(x:Nat×Operand)=>(x.1,a.eval x.2))=some ch/\dx w Z sz (pre++xs.map (cm st.t)) ch.toList/\ch.size=us.size
 |[],i,[],pre,us,ba,_,_,av,h,hi,af=>by refine⟨us,by simp[Instr.fill],?_,rfl⟩;have au:=tE h;have:us.toList.take (i*sz)=us.toList:=hv (by simp at af⊢;omega);rw[this]at av;simpa[av]using h
 |[],_,_::_,_,_,_,e0,_,_,_,_,_=>by simp[wB]at e0
 |_::_,_,[],_,_,_,e0,_,_,_,_,_=>by simp[wB]at e0
 |x::xs,i,(j,o)::os,pre,us,ba,e0,a7,av,h,hi,af=>by
  simp only[wB,ct,dM]at e0;obtain⟨⟨rfl,J⟩,U⟩:=e0;simp only[eO,sI]at a7;obtain⟨⟨h4,hlen⟩,a7⟩:=a7;have ae:=eh aK J;have kA:=u2 ae h4;have zs:=pJ kA;have dg:(a.eval o).cells.size=sz:=by rw[hlen]at zs;simpa using zs
  have hmul:i*sz+sz<=us.size:=by rw[af,oe,show i+(xs.length+1)=(i+1)+xs.length from by omega,o0,Nat.succ_mul];omega
  have xN:=Jm (w:=w) (Z:=Z) (a.eval o).cells.toList 0 (i*sz) us (by simp[dg];omega);have jK:dx w Z sz (pre++[cm st.t x]) (ba++(a.eval o).cells.toList):=by refine DA h ?_;simp only[dx];exact⟨a.eval o,[],Ψ,⟨ae,dg,AM kA⟩,rfl⟩
  have kE:ba.length=i*sz:=by rw[<-av];simp;omega
  obtain⟨ch,g1,g2,g3⟩:=WO aK xs (i+1) os (pre++[cm st.t x]) (((a.eval o).cells.toList.zipIdx 0).foldl (fun cs (x:Value×Nat)=>cs.setIfInBounds (i*sz+x.2) x.1) us) (ba++(a.eval o).cells.toList) U a7
   (by
    rw[xN];simp only[Nat.add_zero];rw[av];have:(ba++(a.eval o).cells.toList).length=(i+1)*sz:=by rw[oW,kE,Nat.succ_mul];simp[dg]
    rw[<-this,List.take_append_of_le_length (eC _),oZ]) jK (by simp[hi])
   (by have bA:=e4 List.length xN;simp only[Array.length_toList,oW,List.length_take,sB,dg]at bA;rw[bA,af,oe,show i+(xs.length+1)=i+1+xs.length from by omega];rw[af,oe,show i+(xs.length+1)=i+1+xs.length from by omega]at hmul;omega)
  refine⟨ch,?_,by simpa using g2,?_⟩
  ·simp only[eO,Instr.fill];rw[if_neg (by simp[dg];omega),<-g1];congr 1;rw[<-Array.foldl_toList];simp
  ·rw[g3];have bA:=e4 List.length xN;simp only[Array.length_toList,oW,List.length_take,sB,dg]at bA;rw[bA];omega
theorem mi{P:cG}{o:Oper}{a:Act}{w w':World}{v:Value}{K:Act->World->Prop}{Q:Exit->Act->World->Prop}(h:(execOp a.eval o).run P w= .ok (.value v) w')(ad:K (a.put o.dst v) w'):o.wp P a w K Q:=by unfold Oper.wp;rw[h];exact ad
theorem Ea{P:cG}{o:Oper}{a:Act}{w w':World}{K:Act->World->Prop}{Q:Exit->Act->World->Prop}(h:(execOp a.eval o).run P w= .ok .skip w')(ad:K (a.put o.dst undef) w'):o.wp P a w K Q:=by unfold Oper.wp;rw[h];exact ad
theorem D7{P:cG}{w w':World}{x:Sem Value}{v:Value}(h:x.run P w= .ok v w'):(do pure (Next.value (<-x)):Sem Next).run P w= .ok (.value v) w':=by simp[h]
theorem WM{P:cG}{bB:List (Nat×dA)}(aI:fN P bB=true){C:fa}{st:bo}{a:Act}{w:World}{Z:bc}(aK:cS C st a w Z){t el:Nat}{f g:dA}(aO:dZ bB t=some f)(ad:f.kind= .slice el)(aW:dZ bB el=some g)
  {xs:List dp} {os:List (Nat×Operand)} (e0:wB 0 xs os=true) (ee:sI g.size (xs.map (cm st.t))) (hlen:xs.length*g.size<=16777216):
  ∃us:Array Value,(Instr.buildSlice t xs.length (os.map fun(x:Nat×Operand)=>(x.1,a.eval x.2)).toArray).run P w= .ok (.slice (some ⟨w.heap.size,0,none⟩) xs.length xs.length) (w.alloc (.cells us el))/\
   dx w Z g.size (xs.map (cm st.t)) us.toList/\us.size=xs.length*g.size:=by
 obtain⟨d,aG,eW⟩:=iZ aI aO;rw[ad]at eW;obtain rfl:=sN eW;obtain⟨_,af⟩:=vc aI aW w;obtain⟨z,xR,Ti,apd⟩:=Nb aI aW w;have az:¬xs.length*g.size>2 ^ 24:=Ω
 let init:Array Value:=if xs.length*g.size=0 then(Array.range (xs.length*g.size)).map ((#[]:Array Value)[· %(#[]:Array Value).size]!)else(Array.range (xs.length*g.size)).map (z.cells[· %z.cells.size]!)
 have Sx:init.size=xs.length*g.size:=by simp only[init];split<;>simp
 obtain⟨ch,g1,g2,g3⟩:=WO (a:=a) aK xs 0 os [] init [] e0 ee Ψ (by simp[dx]) rfl (by rw[Sx];simp);refine⟨ch,?_,by simpa using g2,by rw[g3,Sx]⟩;simp only[init]at g1;by_cases bA:xs.length*g.size=0
 ·rw[if_pos bA]at g1;rw[bA]at g1;have ad9:¬(0:Nat)>2 ^ 24:=by decide
  simp only[Instr.buildSlice,fH,run_underlying aG,fO,af,if_false,gq,bA,if_true,ad9,g1,newRow,run_newObj];rfl
 ·rw[if_neg bA]at g1;simp only[Instr.buildSlice,fH,run_underlying aG,fO,af,az,if_false,gq,bA,xR,g1,newRow,run_newObj];rfl
theorem Db{P:cG}{w:World}{Z:bc}{cc:hL}{t:gG}(aG:tR P cc t){k v:ai}{gi NA:Value}(ad:bd w Z k gi)(av:bd w Z v NA):
  ∀(borns:List Nat) (kvs:List ai) (us:List Value) (i:Nat) (r:Option (List ai)),cR w Z kvs us->kvs.length=2*borns.length->uR cc k v kvs=some r->
  match r with
  |none=>hX P w cc t gi (fy borns us) i none
  |some wh=> ∃j u ch e,hX P w cc t gi (fy borns us) i (some (i+j,u))/\cR w Z wh ch/\wh.length=kvs.length/\(fy borns us)[j]? =some e/\e.key=gi/\Instr.sameBits 10000 e.key gi=true/\fy borns ch=(fy borns us).modify j (fun e=>{e with key:=gi,val:=NA})
 |[],[],us,i,r,h,_,hm=>by simp only[uR]at hm;cases hm;simp only[cR]at h;subst h;simpa[fy]using hX.nil P w cc t gi i
 |[],_::_,_,_,_,_,au,_=>by simp at au
 |b::eP,[],_,_,_,_,au,_=>by simp at au
 |b::eP,[_],_,_,_,_,au,_=>by simp at au;omega
 |b::eP,bN::v'::kvs,us,i,r,h,au,hm=>by
  simp only[cR]at h;obtain⟨ja,Ni,rfl,J,jD,sr,rfl,U,al⟩:=h;simp only[uR]at hm;simp only[fy];cases bI:tl cc k bN with
  |none=>simp[bI]at hm
  |some bb=>
   obtain⟨s1,s2⟩:=TP aG ad J bI;simp only[bI]at hm;cases bb with
   |true=>simp only[dy]at hm;subst hm;obtain⟨rfl,s3⟩:=s2 rfl;refine⟨0,jD,ja::NA::sr,⟨ja,jD,b⟩,hX.hit (e:=⟨ja,jD,b⟩) s1,?_,Ψ,Ψ,rfl,s3,by simp[fy]⟩;simp only[cR];exact⟨_,_,rfl,ad,_,_,rfl,av,al⟩
   |false=>
    simp only at hm;have bO:=fun eG dG=>Db aG ad av eP kvs sr (i+1) eG al (by simp at au;omega) dG;split at hm
    ·rename_i eG dG;cases hm;obtain⟨j,u,ch,e,g1,g2,g3,g4,g5,g6,g7⟩:=bO _ dG;refine⟨j+1,u,ja::jD::ch,e,hX.miss (e:=⟨ja,jD,b⟩) s1 (by rw[show i+(j+1)=i+1+j from by omega];exact g1),?_,by simp[g3],by simpa using g4,g5,g6,by simp[fy,g7]⟩;simp only[cR];exact⟨_,_,rfl,J,_,_,rfl,U,g2⟩
    ·rename_i dG;cases hm;exact hX.miss (e:=⟨ja,jD,b⟩) s1 (bO _ dG)
    ·cases hm
theorem I2:∀(borns:List Nat) (us:List Value) (b:Nat) (k v:Value),us.length=2*borns.length->fy (borns++[b]) (us++[k,v])=fy borns us++[⟨k,v,b⟩]
 |[],us,b,k,v,h=>by have:us=[]:=List.eq_nil_of_length_eq_zero (by simpa using h);subst this;simp[fy]
 |b0::eP,[],b,k,v,h=>by simp at h
 |b0::eP,[_],b,k,v,h=>by simp at h;omega
 |b0::eP,bN::v'::us,b,k,v,h=>by simp only[bV,fy,I2 eP us b k v (by simp at h;omega)]
theorem Mz{w:World}{Z:bc}:∀{cz bC:List ai} {ba us:List Value},cR w Z cz ba->cR w Z bC us->cR w Z (cz++bC) (ba++us)
 |[],bC,ba,us,h,ck=>by simp only[cR]at h;subst h;simpa using ck
 |p::cz,bC,ba,us,h,ck=>by simp only[cR]at h;obtain⟨u,ch,rfl,J,U⟩:=h;simp only[bV,cR];exact⟨u,_,rfl,J,Mz U ck⟩
theorem Hl{w:World}{Z:bc}:∀{cz:List ai} {ba:List Value},cR w Z cz ba->ba.length=cz.length
 |[],ba,h=>by simp only[cR]at h;subst h;rfl
 |p::cz,ba,h=>by simp only[cR]at h;obtain⟨u,ch,rfl,_,U⟩:=h;simp[Hl U]
theorem DH{P:cG}{w:World}{r:Nat}{o o':Obj}(ab:w.heap[r]? =some o)(az:∀c e f,o≠ .cells c e f:=by simp):(setObj r o').run P w= .ok () {w with heap:=w.heap.setIfInBounds r o'}:=by simp only[setObj,Sem.run,ab]
def ei.makes(st:bo):ei->Bool
 | .box _ _ _| .alloc _ _ _| .bsl _ _ _ _| .bslm _ _ _ _ _| .mkmap _ _| .range _ _ _| .mks _ _ _ _ _ _=>true
 | .appm _ _ _ _ x _=>match cm st.t x with
  | .slice _ .nil _=>true
  |_=>false
 | .app _ _ _ x _=>match cm st.t x with
  | .slice _ .nil _=>true
  |_=>false
 |_=>false
theorem cS.forgetRow{C:fa}{st:bo}{a:Act}{w:World}{Z:bc}(aK:cS C st a w Z){k:aL}{ow:fQ}(ad:look k st.e=some ow):cS C {st with e:=cy k ⟨ow.n,ow.el,ow.sz,none⟩ st.e} a w Z:=by
 have h3:∀g,(look g (cy k ⟨ow.n,ow.el,ow.sz,none⟩ st.e)).isSome->(look g st.e).isSome:=fun g aW=>by
  rw[iW]at aW;split at aW
  ·rename_i e;subst e;simp[ad]
  ·exact aW
 refine⟨⟨aK.good.alt,aK.good.box,aK.good.inj,fun g o aW=>?_,fun g fc n n' v v' bl bz a2=>aK.good.oinj g fc n n' v v' bl (h3 g bz) (h3 fc a2),fun g j n v bl bz=>aK.good.obx g j n v bl (h3 g bz),aK.good.one,fun bl ab=>aK.good.otr bl (ab.imp id (fun⟨g,n,v,bz,a2⟩=>⟨g,n,v,h3 g bz,a2⟩))⟩,aK.fr,aK.defers,aK.size,aK.slot,aK.new⟩;simp only at aW;rw[iW]at aW;split at aW
 ·rename_i e;subst e;cases aW;obtain⟨v,us,aZ,bm,bP,_⟩:=aK.good.own k ow ad;exact⟨v,us,aZ,bm,bP,fun xs ae=>by cases ae⟩
 ·exact aK.good.own g o aW
theorem Ve{w:World}{base el sz n:Nat}{v:Value}{us:List Value}(h:w.ownsRow base el sz v n us)(az:0<n):∃b cap,v= .slice (some ⟨b,0,none⟩) n cap:=by
 rcases h.2 with⟨ao,aF⟩|⟨bb,cap,cur,f1,_⟩
 ·omega
 ·exact⟨_,_,f1⟩
theorem Hh{w:World}{Z:bc}{sz:Nat}:∀{xs:List ai} {us:List Value} {i:Nat} {q gD:ai} {e3:Value},dx w Z sz xs us->xs[i]? =some q->bd w Z gD e3->e3.cells.size=sz->(∀c∈e3.cells.toList,c.oneCell'=true)->dx w Z sz (xs.set i gD) (us.take (i*sz)++e3.cells.toList++us.drop (i*sz+sz))
 |[],_,_,_,_,_,_,bI,_,_,_=>by simp at bI
 |x::xs,us,0,q,gD,e3,h,bI,aK,af,aw=>by
  simp only[dx]at h;obtain⟨u,ch,rfl,⟨J,U,al⟩,bW⟩:=h;have au:u.cells.toList.length=sz:=by simpa using U
  simp only[List.set_cons_zero,dx];refine⟨e3,ch,?_,⟨aK,af,aw⟩,bW⟩;simp[<-au]
 |x::xs,us,i+1,q,gD,e3,h,bI,aK,af,aw=>by
  simp only[dx]at h;obtain⟨u,ch,rfl,⟨J,U,al⟩,bW⟩:=h;have au:u.cells.toList.length=sz:=by simpa using U
  have bO:=Hh bW (by simpa using bI) aK af aw;simp only[List.set_cons_succ,dx];refine⟨u,_,?_,⟨J,U,al⟩,bO⟩;have e:(i+1)*sz+sz=u.cells.toList.length+(i*sz+sz):=by rw[au,Nat.succ_mul];omega
  rw[Xa _ _ _ _ au,e,<-List.drop_drop];simp
theorem akQ{w:World}{Z:bc}{q:ai}{v:Value}(bI:bd w Z q v)(af:eH q=true){cs:List ai}{us:List Value}(aq:dn w Z cs us){f:Nat}(aO:f+us.length<=v.cells.size)(cF:us≠[]):
  ∃v',bd w Z (pK q f cs) v'/\v'.cells.toList=v.cells.toList.take f++us++v.cells.toList.drop (f+us.length)/\v'.cells.size=v.cells.size/\∀c∈v'.cells.toList,c.oneCell'=true:=by
 have hlen:=pJ aq;have lA:=u2 bI af;by_cases a7:∃eJ,q= .agg eJ
 ·obtain⟨eJ,rfl⟩:=a7;simp only[bd]at bI;obtain⟨ba,rfl,kU⟩:=bI;simp only[oV]at aO⊢;have jY:dn w Z (n3 eJ f cs) (ba.toList.take f++us++ba.toList.drop (f+us.length)):=by unfold n3;rw[hlen];exact yt (yt (DC f kU) aq) (AL _ kU)
  refine⟨.agg (ba.toList.take f++us++ba.toList.drop (f+us.length)).toArray,by simp only[pK,bd];exact⟨_,rfl,by simpa using jY⟩,by simp[oV],?_,fun c hA=>?_⟩
  ·simp[oV];omega
  ·exact AM jY c (by simpa[oV]using hA)
 ·have ng:∀cs,q≠ .agg cs:=fun cs e=>a7 ⟨cs,e⟩;obtain⟨J,U⟩:=MA bI af ng;rw[U]at aO⊢;match us,cF,aq with
  |u::ch,_,aq=>
   simp at aO;obtain⟨rfl,rfl⟩:f=0/\ch=[]:=⟨Ω,List.length_eq_zero_iff.1 Ω⟩;match cs,aq,hlen with
   |[c],aq,_=>
    simp only[dn]at aq;obtain⟨A2,fw,ao,⟨JR,Sk⟩,_⟩:=aq;cases ao;have hu:u.cells= #[u]:=by cases u<;>first|rfl|cases Sk
    have zJ:pK q 0 [c]=c:=by cases q<;>first|rfl|exact absurd rfl (ng _)
    rw[zJ];refine⟨u,JR,by simp[hu],by simp[hu],fun c hA=>?_⟩;rw[hu]at hA;simp at hA;subst hA;exact Sk
theorem alB{α:Type}(A us:List α)(a f sz N:Nat)(J:f+us.length<=sz)(U:a+sz<=N)(al:N<=A.length):
  ((A.take (a+f)++us++A.drop (a+f+us.length)).toArray.toList).take N=(A.take N).take a++((((A.take N).drop a).take sz).take f++us++(((A.take N).drop a).take sz).drop (f+us.length))++(A.take N).drop (a+sz):=by
 have ao:(A.take N).take a++(((A.take N).drop a).take sz).take f=A.take (a+f):=by rw[List.take_take (i:=f),Nat.min_eq_left (show f<=sz by omega),<-List.take_add,List.take_take,Nat.min_eq_left Ω]
 have aF:(((A.take N).drop a).take sz).drop (f+us.length)++(A.take N).drop (a+sz)=(A.take N).drop (a+f+us.length):=by
  have au:f+us.length<=(((A.take N).drop a).take sz).length:=by simp;omega
  have kt:(A.take N).drop (a+sz)=((A.take N).drop a).drop sz:=by rw[List.drop_drop]
  rw[kt,<-List.drop_append_of_le_length au,List.take_append_drop,List.drop_drop];congr 1;omega
 have bM:(A.take N).drop (a+f+us.length)=(A.drop (a+f+us.length)).take (N-(a+f+us.length)):=by rw[List.drop_take]
 have au:(A.take (a+f)++us).length=a+f+us.length:=by simp;omega
 simp only[List.append_assoc]at*;rw[aF,bM,<-List.append_assoc (oY a _),ao];have kQ:N=(A.take (a+f)++us).length+(N-(a+f+us.length)):=by rw[au];omega
 rw[<-List.append_assoc,<-List.append_assoc];conv=>lhs;rw[kQ,List.take_length_add_append]
theorem cS.storeRow{P:cG}{C:fa}{st:bo}{a:Act}{w:World}{Z:bc}(h:cS C st a w Z){k:aL}{n el sz:Nat}{xs:List ai}(ad:look k st.e=some ⟨n,el,sz,some xs⟩){i f:Nat}{u:Value}(ae:bd w Z (.rptr sz k n i f) u){q:ai}(bI:xs[i]? =some q)(af:eH q=true)
  {cs:List ai} {us:List Value} (aq:dn w Z cs us) (aO:f+us.length<=(cells q).length) (cF:us≠[]):
  ∃bl off mx,u= .pointer (some ⟨bl,off,none⟩)/\(storeCells ⟨bl,off,none⟩ us).run P w= .ok () (w.setRow bl mx)/\∃bq,cS C {st with e:=cy k ⟨n,el,sz,some (xs.set i (pK q f cs))⟩ st.e} a (w.setRow bl mx) bq:=by
 simp only[bd]at ae;obtain⟨_,hi,n',e3,J,U,al⟩:=ae;obtain⟨v,fw,aZ,bm,bP,cP⟩:=h.good.own k _ ad;rw[J]at aZ;simp only[dy,jE]at aZ;obtain⟨rfl,rfl⟩:=aZ;obtain⟨bl,ab,rfl⟩:=al rfl;obtain⟨cZ,n1,uX⟩:=cP xs rfl;simp only at cZ n1;obtain⟨v,eR,fM,pG⟩:=Hf i n1 bI;have zs:=pJ (u2 eR af);have afz:(cells q).length=sz:=by rw[<-zs];simpa using fM
 have p1:f+us.length<=sz:=by rw[<-afz];exact aO
 have hmul:i*sz+sz<=n'*sz:=by have:=qq sz (show i+1<=n' from hi);rwa[Nat.succ_mul]at this
 rcases bm.2 with⟨ao,aF⟩|⟨g,cap,cur,rfl,rJ,J2,Ka,aeD,dg,Tb⟩
 ·rw[ao]at ab;simp[oc]at ab
 simp only[oc,dy]at ab;subst ab;simp only at Tb dg Ka J2;have zr:n'*sz<=cur.size:=by rw[dg];exact qq sz Ka
 have dh:=run_storeCells_at P g (i*sz+f) el us 0 cur w J2 Ω (AM aq);simp only[Nat.add_zero]at dh;refine⟨g,i*sz+f,_,rfl,dh,?_⟩;generalize xz:(cur.toList.take (i*sz+f)++us++cur.toList.drop (i*sz+f+us.length)).toArray=mx;obtain⟨v',cU,dq,iY,uT⟩:=akQ eR af aq (f:=f) (by rw[fM];exact p1) cF;have mG:=Hh n1 bI cU (by rw[iY,fM]) uT;have hlen:fw.length=n'*sz:=bm.1;have afl:mx.toList.take (n'*sz)=fw.take (i*sz)++v'.cells.toList++fw.drop (i*sz+sz):=by rw[<-xz,dq,pG,<-Tb];exact alB cur.toList us (i*sz) f sz (n'*sz) p1 hmul (by simpa using zr)
 have aeF:mx.size=cap*sz:=by rw[<-xz,<-dg];simp;omega
 have ao6:(xs.set i (pK q f cs)).length=n':=by simp[cZ]
 obtain⟨ajR,_,_⟩:=h.setRowM (w':=w.setRow g mx) ad rfl J (bl:=g) rfl (v':= .slice (some ⟨g,0,none⟩) n' cap) rfl (xs':=xs.set i (pK q f cs)) (us:=fw.take (i*sz)++v'.cells.toList++fw.drop (i*sz+sz)) (.inl ⟨by simp[cZ],rfl⟩) rfl rfl rfl (fun j ag=>setRow_other w g j mx ag) (setRow_size w g mx)
  ⟨by rw[tE mG],.inr ⟨g,cap,mx,by simp[cZ],Nat.zero_le _,setRow_heap w g cur mx el _ J2,by simpa[cZ]using Ka,aeD,aeF,by simpa[cZ]using afl⟩⟩ mG
 exact⟨_,by simpa[cZ]using ajR⟩
theorem ag7(z:Array Value)(n:Nat)(h:0<z.size):(madeCells z ((n+1)*z.size)).toList=z.toList++(madeCells z (n*z.size)).toList:=by
 apply List.ext_getElem?;intro j;rw[List.getElem?_append];have he:(n+1)*z.size=n*z.size+z.size:=by rw[o0,Nat.one_mul]
 simp only[madeCells,tN,Array.length_toList,Array.getElem?_map];by_cases ag:j<z.size
 ·rw[if_pos ag,Array.getElem?_range,if_pos Ω];simp[Nat.mod_eq_of_lt ag,ag]
 ·rw[if_neg ag,Array.getElem?_range,Array.getElem?_range];by_cases ad:j<n*z.size+z.size
  ·rw[if_pos Ω,if_pos Ω];simp only[nE];rw[<-Nat.mod_eq_sub_mod Ω]
  ·rw[if_neg Ω,if_neg Ω]
theorem Un{w:World}{Z:bc}{p:ai}{z:Value}(aK:bd w Z p z)(h:0<z.cells.size)(aw:∀c∈z.cells.toList,c.oneCell'=true):∀n,dx w Z z.cells.size (List.replicate n p) (madeCells z.cells (n*z.cells.size)).toList
 |0=>by simp[dx,madeCells]
 |n+1=>by rw[ag7 _ _ h];simp only[List.replicate_succ,dx];exact⟨z,_,rfl,⟨aK,rfl,aw⟩,Un aK h aw n⟩
theorem jQ{P:cG}{bB:List (Nat×dA)}(aI:fN P bB=true){C:fa}{st st':bo}{a:Act}{w:World}{Z:bc}(aK:cS C st a w Z){i:ei}{o:Oper}(aw:DI C.N bB i o=true)
  {κ:aL} {n':Nat} {o₁:List aL} (uw:i.makes st=true->fresh st.n st.o κ) (c8:i.makes st=true->∀j,fresh n' o₁ j->fresh st.n st.o j/\j≠κ) {c:Prop} (he:eA κ n' o₁ st i=some (c,st')) (aq:c) {K:Act->World->Prop} {Q:Exit->Act->World->Prop} (c2:∀bp w' bq,cS C st' bp w' bq->K bp w'):o.wp P a w K Q:=by
 obtain⟨dst,op,type,pos,after,guard⟩:=o;unfold DI at aw;dsimp only at aw;split at aw
 ·rename_i d key t;simp only[ct,dM,eF]at aw;obtain⟨rfl,U⟩:=aw;simp only[eA]at he;cases he;obtain⟨g1,g2⟩:=aK.newBox (aK.new _ (uw rfl)) (c8 rfl) (cs:=[.hdm 0 []]) (us:= #[]) 0 (by simp only[jn];exact⟨by simp[cR],⟨rfl,Ψ,Ψ⟩⟩);refine mi (v:= .map (some w.heap.size)) (w':=w.alloc (.map #[] 0)) ?_ (c2 _ _ _ (g1.put (d:=some d) (by simpa[jt]using U) (p:= .gmap κ) ?_))
  ·simp only[execOp,Instr.makeMap,Option.map_none,fH,run_newObj,fO,gq];rfl
  ·simp[bd,bc.withBox]
 ·rename_i cc x k v t gU gJ qi;simp only[ct,dM]at aw;obtain⟨⟨⟨⟨rfl,J⟩,U⟩,al⟩,a1⟩:=aw;have rx:=eh aK U;have u4:=eh aK al;have yz:=eh aK a1;split at J
  ·rename_i sz k8 mM pd z aO;obtain⟨cK,hu,eW⟩:=iZ aI aO;have sZ:cK= .map mM pd:=by cases cK<;>simp[kP]at eW;obtain⟨rfl,rfl⟩:=eW;rfl
   subst sZ;have l1:=KV aI J;simp only[eA]at he;split at he
   ·rename_i m ae;rw[ae]at rx;simp only[bd]at rx;obtain⟨bl,cf,b9⟩:=rx;split at he
    ·rename_i cs dg;split at he
     ·rename_i cs' hm;cases he;obtain⟨iD,us,el,aZ,bm,bP,cP,cZ⟩:=aK.good.box m cs dg;rw[cf]at aZ;cases aZ;unfold oN at hm;split at hm
      ·rename_i clock borns kvs;split at hm
       ·cases hm
       rename_i vI;simp only[jP]at cP;simp only[jn]at cZ;have hJ:=u6 (P:=P) cP;have vB:=MF (P:=P) (w:=w) l1 false u4 (by simpa using vI);have bt:bl<w.heap.size:=(Array.getElem?_eq_some_iff.1 cP).1;have dF:∀(o':Obj) (ch:Array Value) (eJ:List ai),(Instr.mapUpdate t (a.eval gU) (a.eval gJ) (a.eval qi)).run P w= .ok () {w with heap:=w.heap.setIfInBounds bl o'}->jP eJ ch el=o'->jn w Z eJ ch.toList->some eJ=some cs'->
         (⟨none,.mapUpdate t gU gJ qi,type,pos,after,guard⟩:Oper).wp P a w K Q:=by
        intro o' ch eJ iV Cu mG iS;cases iS;refine Ea (w':={w with heap:=w.heap.setIfInBounds bl o'}) ?_ (c2 _ _ _ (aK.setBox (w':={w with heap:=w.heap.setIfInBounds bl o'}) dg cf (us:=ch) (el:=el) rfl rfl rfl (fun j ag=>?_) Ψ ?_ mG).1)
        ·simp only[execOp,iV,fH,fO,gq]
        ·exact Array.getElem?_setIfInBounds_ne (k5 ag)
        ·rw[Cu];simp[bt]
       split at hm
       ·rename_i wh uA;obtain⟨j,u,ch,e,f1,f2,f3,f4,f5,f6,f7⟩:=Db l1 u4 yz borns kvs us.toList 0 _ cZ.1 cZ.2.len uA;refine dF (.map (fy borns ch).toArray clock) ch.toArray (.hdm clock borns::wh) ?_ (by simp[jP]) (by simp only[jn];exact⟨by simpa using f2,⟨by rw[f3];exact cZ.2.len,cZ.2.inc,cZ.2.lt⟩⟩) hm;have Kr:(Instr.keyThatStays (((fy borns us.toList).toArray[j]?.map (·.key)).getD (a.eval gJ)) (a.eval gJ)).run P w= .ok (a.eval gJ) w:=by
         have:((fy borns us.toList).toArray[j]?.map (·.key)).getD (a.eval gJ)=e.key:=by simp[f4]
         rw[this];simp[Instr.keyThatStays,f6]
        simp only[Nat.zero_add]at f1;simp only[Instr.mapUpdate,fH,run_underlying hu,fO,b9,hJ,vB,f1.run l1,gq,Kr,DH cP];rw[f7];simp
       ·rename_i uA;have f1:=Db l1 u4 yz borns kvs us.toList 0 _ cZ.1 cZ.2.len uA;simp only at f1;have rW:us.toList.length=2*borns.length:=by rw[Hl cZ.1,cZ.2.len]
        refine dF (.map ((fy borns us.toList).toArray.push ⟨a.eval gJ,a.eval qi,clock⟩) (clock+1)) (us.toList++[a.eval gJ,a.eval qi]).toArray (.hdm (clock+1) (borns++[clock])::(kvs++[cm st.t k,cm st.t v])) ?_ (by simp only[jP,I2 borns us.toList clock _ _ rW];simp) ?_ hm
        ·simp only[Instr.mapUpdate,fH,run_underlying hu,fO,b9,hJ,vB,f1.run l1,gq,DH cP]
        ·simp only[jn];refine⟨Mz cZ.1 (by simp only[cR];exact⟨_,_,rfl,u4,_,_,rfl,yz,rfl⟩),⟨by simp[cZ.2.len];omega,?_,?_⟩⟩
         ·rw[List.pairwise_append];exact⟨cZ.2.inc,Ψ,fun x ae y aM=>by simp at aM;subst aM;exact cZ.2.lt x ae⟩
         ·intro b ab;rcases h9.1 ab with ab|ab
          ·have:=cZ.2.lt b ab;omega
          ·simp at ab;omega
       ·cases hm
      ·cases hm
     ·cases he
    ·cases he
   ·cases he
  ·cases J
 ·rename_i cc x k v t gU gJ qi;simp only[ct,dM]at aw;obtain⟨⟨⟨⟨rfl,J⟩,U⟩,al⟩,a1⟩:=aw;have rx:=eh aK U;have u4:=eh aK al;have yz:=eh aK a1;split at J
  ·rename_i sz k8 mM pd z aO;obtain⟨cK,hu,eW⟩:=iZ aI aO;have sZ:cK= .map mM pd:=by cases cK<;>simp[kP]at eW;obtain⟨rfl,rfl⟩:=eW;rfl
   subst sZ;have l1:=KV aI J;simp only[eA]at he;split at he
   ·rename_i m ae;rw[ae]at rx;simp only[bd]at rx;obtain⟨bl,cf,b9⟩:=rx;split at he
    ·rename_i cs dg;split at he
     ·rename_i cs' hm;cases he;obtain⟨iD,us,el,aZ,bm,bP,cP,cZ⟩:=aK.good.box m cs dg;rw[cf]at aZ;cases aZ;unfold oN at hm;split at hm
      ·rename_i clock borns kvs;split at hm
       ·cases hm
       rename_i vI;simp only[jP]at cP;simp only[jn]at cZ;have hJ:=u6 (P:=P) cP;have vB:=MF (P:=P) (w:=w) l1 false u4 (by simpa using vI);have bt:bl<w.heap.size:=(Array.getElem?_eq_some_iff.1 cP).1;have dF:∀(o':Obj) (ch:Array Value) (eJ:List ai),(Instr.mapUpdate t (a.eval gU) (a.eval gJ) (a.eval qi)).run P w= .ok () {w with heap:=w.heap.setIfInBounds bl o'}->jP eJ ch el=o'->jn w Z eJ ch.toList->some eJ=some cs'->
         (⟨none,.mapUpdate t gU gJ qi,type,pos,after,guard⟩:Oper).wp P a w K Q:=by
        intro o' ch eJ iV Cu mG iS;cases iS;refine Ea (w':={w with heap:=w.heap.setIfInBounds bl o'}) ?_ (c2 _ _ _ (aK.setBox (w':={w with heap:=w.heap.setIfInBounds bl o'}) dg cf (us:=ch) (el:=el) rfl rfl rfl (fun j ag=>?_) Ψ ?_ mG).1)
        ·simp only[execOp,iV,fH,fO,gq]
        ·exact Array.getElem?_setIfInBounds_ne (k5 ag)
        ·rw[Cu];simp[bt]
       split at hm
       ·rename_i wh uA;obtain⟨j,u,ch,e,f1,f2,f3,f4,f5,f6,f7⟩:=Db l1 u4 yz borns kvs us.toList 0 _ cZ.1 cZ.2.len uA;refine dF (.map (fy borns ch).toArray clock) ch.toArray (.hdm clock borns::wh) ?_ (by simp[jP]) (by simp only[jn];exact⟨by simpa using f2,⟨by rw[f3];exact cZ.2.len,cZ.2.inc,cZ.2.lt⟩⟩) hm;have Kr:(Instr.keyThatStays (((fy borns us.toList).toArray[j]?.map (·.key)).getD (a.eval gJ)) (a.eval gJ)).run P w= .ok (a.eval gJ) w:=by
         have:((fy borns us.toList).toArray[j]?.map (·.key)).getD (a.eval gJ)=e.key:=by simp[f4]
         rw[this];simp[Instr.keyThatStays,f6]
        simp only[Nat.zero_add]at f1;simp only[Instr.mapUpdate,fH,run_underlying hu,fO,b9,hJ,vB,f1.run l1,gq,Kr,DH cP];rw[f7];simp
       ·rename_i uA;have f1:=Db l1 u4 yz borns kvs us.toList 0 _ cZ.1 cZ.2.len uA;simp only at f1;have rW:us.toList.length=2*borns.length:=by rw[Hl cZ.1,cZ.2.len]
        refine dF (.map ((fy borns us.toList).toArray.push ⟨a.eval gJ,a.eval qi,clock⟩) (clock+1)) (us.toList++[a.eval gJ,a.eval qi]).toArray (.hdm (clock+1) (borns++[clock])::(kvs++[cm st.t k,cm st.t v])) ?_ (by simp only[jP,I2 borns us.toList clock _ _ rW];simp) ?_ hm
        ·simp only[Instr.mapUpdate,fH,run_underlying hu,fO,b9,hJ,vB,f1.run l1,gq,DH cP]
        ·simp only[jn];refine⟨Mz cZ.1 (by simp only[cR];exact⟨_,_,rfl,u4,_,_,rfl,yz,rfl⟩),⟨by simp[cZ.2.len];omega,?_,?_⟩⟩
         ·rw[List.pairwise_append];exact⟨cZ.2.inc,Ψ,fun x ae y aM=>by simp at aM;subst aM;exact cZ.2.lt x ae⟩
         ·intro b ab;rcases h9.1 ab with ab|ab
          ·have:=cZ.2.lt b ab;omega
          ·simp at ab;omega
       ·cases hm
      ·cases hm
     ·cases he
    ·cases he
   ·cases he
  ·cases J
 ·rename_i d key x t gU;simp only[ct,dM,eF]at aw;obtain⟨⟨⟨rfl,U⟩,J⟩,al⟩:=aw;have rx:=eh aK al;split at J
  ·rename_i sz k8 mM pd z aO;obtain⟨cK,hu,eW⟩:=iZ aI aO;have sZ:cK= .map mM pd:=by cases cK<;>simp[kP]at eW;obtain⟨rfl,rfl⟩:=eW;rfl
   subst sZ;simp only[eA]at he;split at he
   ·rename_i m ae;rw[ae]at rx;have akY:=rx;simp only[bd]at rx;obtain⟨bl,cf,b9⟩:=rx;split at he
    ·rename_i cs dg;split at he
     ·rename_i cs' hm;cases he;obtain⟨iD,us,el,aZ,bm,bP,cP,cZ⟩:=aK.good.box m cs dg;rw[cf]at aZ;cases aZ;unfold yq at hm;split at hm
      ·rename_i clock borns kvs;cases hm;simp only[jP]at cP;have hJ:=u6 (P:=P) cP;obtain⟨g1,g2⟩:=aK.newBox (aK.new _ (uw rfl)) (c8 rfl) (cs:=[.hdi clock [] clock,.gmap m]) (us:= #[a.eval gU]) 0 (by simp only[jn,cR];exact⟨_,_,rfl,akY,rfl⟩);have Cu:jP [.hdi clock [] clock,.gmap m] #[a.eval gU] 0= .mapIter (some bl) clock #[] clock:=by simp[jP,b9]
       rw[Cu]at g1 g2;refine mi (v:= .pointer (some ⟨w.heap.size,0,none⟩)) (w':=w.alloc (.mapIter (some bl) clock #[] clock)) ?_ (c2 _ _ _ (g1.put (d:=some d) (by simpa[jt]using U) (p:= .ptr κ 0) g2))
       ·simp only[execOp];refine D7 ?_;simp only[Instr.range,fH,run_underlying hu,fO,b9,hJ,gq,run_newObj];rfl
      ·cases hm
     ·cases he
    ·cases he
   ·cases he
  ·cases J
 ·rename_i d arz;simp only[ct,dM,eF]at aw;obtain⟨⟨J,U⟩,al⟩:=aw;subst J;simp only[eA]at he;split at he
  ·rename_i cl p av;cases he;obtain⟨v,g1,g2⟩:=al9 (o:=⟨some d,op,type,pos,after,guard⟩) aI aK al av aq;refine mi g1 (c2 _ _ Z ?_);exact aK.put (d:=some d) (by simpa[jt]using U) g2
  ·cases he
 ·rename_i d key x el o';simp only[ct,dM,eF]at aw;obtain⟨⟨J,U⟩,al⟩:=aw;subst J;simp only[eA]at he;cases he;have ae:=eh aK al;have kA:=u2 ae aq;obtain⟨g1,g2⟩:=aK.newBox (aK.new _ (uw rfl)) (c8 rfl) el (by rw[uV (AN kA)];exact kA);rw[uU (AN kA)]at g1 g2;refine mi (v:= .pointer (some ⟨w.heap.size,0,none⟩)) (w':=w.alloc (.cells (a.eval o').cells el)) ?_ (c2 _ _ _ (g1.put (d:=some d) (by simpa[jt]using U) (p:= .ptr κ 0) ?_))
  ·simp only[execOp,Instr.box,newVar,newRow,fH,run_newObj,fO,gq];rfl
  ·simpa only[bd]using g2
 ·rename_i d key z el;simp only[ct,dM,eF]at aw;obtain⟨⟨J,U⟩,al⟩:=aw;subst J;simp only[eA]at he;cases he;split at al
  ·rename_i f aO;have bk:=NJ al;obtain⟨bQ,k2,z2,z3⟩:=Nb aI aO w;rw[<-bk]at z2;obtain⟨_,kA⟩:=NI w Z z2;obtain⟨g1,g2⟩:=aK.newBox (aK.new _ (uw rfl)) (c8 rfl) el (by rw[uV (AN kA)];exact kA);rw[uU (AN kA)]at g1 g2;refine mi (v:= .pointer (some ⟨w.heap.size,0,none⟩)) (w':=w.alloc (.cells bQ.cells el)) ?_ (c2 _ _ _ (g1.put (d:=some d) (by simpa[jt]using U) (p:= .ptr κ 0) ?_))
   ·simp only[execOp,Instr.alloc,newVar,newRow,fH,k2,run_newObj,fO,gq];rfl
   ·simpa only[bd]using g2
  ·cases al
 ·rename_i sz x y t o' jm;simp only[ct,dM]at aw;obtain⟨⟨⟨J,U⟩,al⟩,a1⟩:=aw;subst J;split at U
  ·rename_i f aO;simp only[dM]at U;simp only[eA]at he;split at he
   ·rename_i k off ae;split at he
    ·rename_i cs dg;cases he;obtain⟨uc,bT,cv,dj⟩:=aq;have rx:=eh aK al;rw[ae]at rx;simp only[bd]at rx;obtain⟨bl,cf,b9⟩:=rx;have lP:=eh aK a1;have u1:=u2 lP bT;have u5:=pJ u1;obtain⟨iD,us,el,aZ,bm,bP,cP,cZ⟩:=aK.good.box k cs dg;rw[cf]at aZ;cases aZ;rw[uU uc]at cP;rw[uV uc]at cZ;have ax:=pJ cZ;obtain⟨_,ee⟩:=vc aI aO w;have r1:(a.eval jm).cells.size=sz:=by rw[cv]at u5;simpa using u5
     have dh:=run_storeCells_at (P:=P) bl off el (a.eval jm).cells.toList 0 us w cP (by simp at ax⊢;omega) (AM u1);simp only[Nat.add_zero]at dh;refine Ea (w':=w.setRow bl (us.toList.take off++(a.eval jm).cells.toList++us.toList.drop (off+(a.eval jm).cells.toList.length)).toArray) ?_ (c2 _ _ _ (aK.storeBox dg cf uc ?_))
     ·simp only[execOp,Instr.storeAt,b9,Instr.sureAddr,storeVar,fH,gq,fO,ee,r1,U,ne_eq,not_true_eq_false,if_false,dh]
     ·simp only[n3];rw[u5];exact yt (yt (DC off cZ) u1) (AL _ cZ)
    ·cases he
   ·rename_i ae;generalize Kg:cm st.t x=px at he;unfold q9 at he;split at he
    ·rename_i dH k n i sT;split at he
     ·rename_i n' el jo xs ad;split at he
      ·rename_i Kc;obtain⟨rfl,rfl⟩:=Kc;split at he
       ·rename_i q bI;cases he;obtain⟨uc,bT,cv,dj,ks⟩:=aq;have rx:=eh aK al;rw[Kg]at rx;have lP:=eh aK a1;have u1:=u2 lP bT;have u5:=pJ u1;obtain⟨_,ee⟩:=vc aI aO w;have r1:(a.eval jm).cells.size=sz:=by rw[cv]at u5;simpa using u5
        obtain⟨bl,off,mx,Cy,dh,bq,p4⟩:=aK.storeRow (P:=P) ad rx bI uc u1 (by simpa[r1]using dj) (fun e=>by have:=e4 List.length e;simp[r1]at this;omega);refine Ea (w':=w.setRow bl mx) ?_ (c2 _ _ _ p4);simp only[execOp,Instr.storeAt,Cy,Instr.sureAddr,storeVar,fH,gq,fO,ee,r1,U,ne_eq,not_true_eq_false,if_false,dh]
       ·cases he
      ·cases he
     ·cases he
    ·cases he
  ·cases U
 ·rename_i d sz el xs t len parts;simp only[ct,dM,eF]at aw;obtain⟨⟨⟨⟨⟨⟨J,U⟩,al⟩,a1⟩,bW⟩,dd⟩,dW⟩:=aw;subst J;subst bW;split at al
  ·rename_i fW aO;simp only[dM]at al;subst al;split at a1
   ·rename_i g aW;simp only[ct,dM,eF]at a1;obtain⟨rfl,fB⟩:=a1;simp only[eA]at he;cases he;obtain⟨us,g1,g2,g3⟩:=WM aI aK aO rfl aW dW aq dd;have lF:(w.alloc (.cells us el)).ownsRow w.heap.size el g.size (.slice (some ⟨w.heap.size,0,none⟩) xs.length xs.length) (xs.map (cm st.t)).length us.toList:=by
     refine⟨by simp[g3],.inr ⟨w.heap.size,xs.length,us,Ψ,eC _,heap_alloc_new w _,Ψ,?_,g3,?_⟩⟩
     ·simp only[maxLen];have:xs.length<=xs.length*g.size:=Nat.le_mul_of_pos_right _ fB;omega
     ·rw[hv];simp[g3]
    obtain⟨eR,fM⟩:=aK.newRow (k:=κ) (xs:=xs.map (cm st.t)) (.inl (aK.new _ (uw rfl))) (World.grownBy_alloc w _ none) lF g2
     (by have:xs.length<=xs.length*g.size:=Nat.le_mul_of_pos_right _ fB;simp only[lim,List.length_map];omega) (c8 rfl)
    simp only[List.length_map]at eR fM;refine mi (v:= .slice (some ⟨w.heap.size,0,none⟩) xs.length xs.length) (w':=w.alloc (.cells us el)) ?_ (c2 _ _ _ (eR.put (d:=some d) (by simpa[jt]using U) (p:= .slice g.size (.own κ) (xs.map (cm st.t))) fM));have bL:(parts.map fun(x:Nat×Operand)=>(x.1,a.eval x.2))=(parts.toList.map fun(x:Nat×Operand)=>(x.1,a.eval x.2)).toArray:=by apply Array.ext';simp
    simp only[execOp];refine D7 ?_;rw[<-g1];congr 2
   ·cases a1
  ·cases al
 ·rename_i d sz el x y o' jm t dK;simp only[ct,dM,eF]at aw;obtain⟨⟨⟨⟨⟨⟨J,U⟩,al⟩,a1⟩,bW⟩,dd⟩,dW⟩:=aw;subst J;subst al;split at a1
  ·rename_i fW aO;simp only[dM]at a1;subst a1;split at bW
   ·rename_i g aW;simp only[ct,dM,eF]at bW;obtain⟨⟨rfl,fB⟩,hby⟩:=bW;have rx:=eh aK dd;have lP:=eh aK dW;have mD:∀v' w',(Builtin.append_ #[t,t] type #[a.eval o',a.eval jm]).run P w= .ok v' w'->(execOp a.eval ⟨some d,.call ⟨.builtin .append,⟨[o',jm]⟩,⟨[t,t]⟩⟩,type,pos,after,guard⟩).run P w= .ok (.value v') w':=by intro v' w' iV;simp only[execOp,resolve,invoke,builtin,fH,gq,fO,List.map_toArray,eO,hn];rw[iV];rfl
    obtain⟨fv,cp,z,ao,aF,bM,dt,hO,hI,rq,rr⟩:=(vd aI aW).ex;obtain⟨eJ,iS,eW⟩:=iZ aI aO;obtain rfl:=sN eW;simp only[eA]at he;split at he
    ·rename_i dH tag xs jo kX ys ae aM;split at he
     ·rename_i e8;obtain⟨rfl,e8⟩:=e8;subst e8;rw[ae]at rx;rw[aM]at lP;simp only[bd]at rx lP;obtain⟨⟨tX,o9,su,cx1,⟨QG,QH⟩,cx4⟩,rxn,rxo,rxt⟩:=rx;obtain⟨⟨nI,lz,vy,cy1,⟨QI,QJ⟩,cy4⟩,_⟩:=lP;split at he
      ·rename_i k;split at he
       ·rename_i ow ad;cases he;obtain⟨bT,cv,dj,ks⟩:=aq;subst cv;obtain⟨n0,A2,eR,fM,pG⟩:=rxo k rfl;obtain⟨v0,fw,aZ,bm,bP,_⟩:=aK.good.own k ow ad;rw[eR]at aZ;simp only[dy,jE]at aZ;obtain⟨rfl,rfl⟩:=aZ;have nl:a.eval o'=A2:=pG bT.symm;by_cases jh:ys=[]
        ·subst jh;rw[vy,su]at mD;have iV:=Hr (P:=P) (w:=w) (ty:=type) iS ao tX xs.length o9 cx1 nI lz;refine mi (mD _ _ (by simpa using iV)) (c2 _ _ Z ?_);have dh:{st with t:=put d (.slice ow.sz (.own k) (xs++[])) st.t,e:=cy k ⟨xs.length+([]:List ai).length,ow.el,ow.sz,none⟩ st.e}=({st with e:=cy k ⟨ow.n,ow.el,ow.sz,none⟩ st.e,t:=put d (.slice ow.sz (.own k) xs) st.t}:bo):=by simp[bT]
         rw[<-dj,dh];have mF:=aK.forgetRow ad;refine mF.put (d:=some d) (by simpa[jt]using U) (p:= .slice ow.sz (.own k) xs) ?_;simp only[bd];rw[<-dj]at cx4;exact⟨⟨tX,o9,rfl,cx1,⟨QG,QH⟩,cx4⟩,fun e=>(by cases e),(fun g e=>by cases e;exact⟨_,_,eR,fM,fun e=>by rw[<-su];exact pG e⟩),fun _ _ e=>(by cases e),fun _ e=>(by cases e)⟩
        ·have hyp:0<ys.length:=by cases ys<;>simp at jh⊢
         rcases cy4 with cy4|⟨k8,nx,hh,rfl,x3,my⟩
         ·exact absurd cy4 jh
         ·have jJ:=tE my;have rT:∀j u,hh[j]? =some u->w.cell? ((⟨k8,nx,none⟩:Addr).add j)=some u:=fun j u ag=>by rw[o4];exact(uM x3 ag).2
          have rL:(xs.length+ys.length)*fv.bytes<=140737488355328:=by
           have lB:fv.bytes<=2048:=by rw[dt];exact hby
           have po:(xs.length+ys.length)*fv.bytes<=(xs.length+ys.length)*2048:=Nat.mul_le_mul_left _ lB;simp only[lim]at ks;omega
          have mE:xs.length+ys.length<=maxLen:=by simp only[lim]at ks;simp only[maxLen];omega
          rw[vy]at mD;have vV:fw.length=ow.n*ow.sz:=bm.1;have vX:z.cells.size=fv.size:=by rw[rr,bM]
          have Ci:(∀cur,eN->cur=(0:Nat))->(∃v' w',(Builtin.append_ #[t,t] type #[a.eval o',.slice (some ⟨k8,nx,none⟩) ys.length lz]).run P w= .ok v' w'/\w'.ownsRow w.heap.size ow.el fv.size v' (xs.length+ys.length) (fw++hh)/\w.grownBy w' none/\dx w Z fv.size xs fw)->
            (⟨some d,.call ⟨.builtin .append,⟨[o',jm]⟩,⟨[t,t]⟩⟩,type,pos,after,guard⟩:Oper).wp P a w K Q:=by
           intro _ cw;obtain⟨v',w',f1,f2,f3,f4⟩:=cw;have Fw:dx w Z fv.size (xs++ys) (fw++hh):=DA f4 (by rw[bM];exact my);obtain⟨cU,dq⟩:=aK.newRow (k:=k) (xs:=xs++ys) (.inr ⟨ow,ad,by rw[bT];simp;omega⟩) f3 (by simpa using f2) Fw (by simpa using ks) (n':=st.n) (o':=st.o)
            (fun j ag=>⟨ag,fun e=>by subst e;have:=(aK.new _ ag).2.1;rw[eR]at this;cases this⟩)
           refine mi (mD _ _ f1) (c2 _ _ ((Z.withOwn k (xs++ys).length v').withRowOf k v' (xs++ys).length ((xs++ys).length*fv.size)) ?_);have:=cU.put (d:=some d) (by simpa[jt]using U) dq;simpa[bM,eM]using this
          rcases bm.2 with⟨ny,yk⟩|⟨bl,cap,cur,ny,yk,Az,LZ,L0,L1,GR⟩
          ·
           have zO:xs=[]:=List.eq_nil_of_length_eq_zero Ω;have Ku:fw=[]:=List.eq_nil_of_length_eq_zero (by rw[vV,yk];simp);subst zO;subst Ku;refine Ci (fun _ h=>h.elim) ?_;obtain⟨v',w',f1,f2,f3,_⟩:=run_append_own (P:=P) w w.heap.size t type ow.el fv z fv.size fv.bytes iS ao hI rfl rfl vX (by rw[bM];exact fB) (.slice none 0 0) 0 [] (World.ownsRow_nil w _ _ _)
            ⟨k8,nx,none⟩ ys.length lz hh (by rw[jJ,bM]) rT (yr my) (by simpa using mE) (by simpa using rL) (eC _)
           refine⟨v',w',by rw[nl,ny];exact f1,by simpa using f2,by simpa[oc]using f3,by simp[dx]⟩
          ·have ae8:lK w Z.A bl 0 fw/\dx w Z fv.size xs fw/\True:=by
            rw[nl,ny]at su;rcases cx4 with cx4|⟨bb,aqy,Nj,f1,f2,f3⟩
            ·subst cx4;have:fw=[]:=List.eq_nil_of_length_eq_zero (by rw[vV,bT];simp);subst this;exact⟨trivial,by simp[dx],trivial⟩
            ·subst f1;injection su with vx1 vx2 vx3;injection vx1 with vx1;injection vx1 with vx1 vx4;subst vx1;subst vx4;have heq:Nj=fw:=by
              apply List.ext_getElem?;intro j;have rW:Nj.length=fw.length:=by rw[tE f3,vV,bT,dj]
              by_cases ag:j<Nj.length
              ·have J:=(uM f2 (cr ag)).2;rw[Nat.zero_add]at J;have U:=bm.cells (g:=bl) (by rw[ny];rfl) j fw[j] (cr Ω);rw[o4,Nat.zero_add,J]at U;rw[cr ag,cr Ω];exact U
              ·rw[qp Ω,qp Ω]
             subst heq;exact⟨f2,by rw[bM];exact f3,trivial⟩
           obtain⟨xH,nS,_⟩:=ae8;by_cases rU:xs.length+ys.length<=cap
           ·have aoX:cur.size=cap*ow.sz:=L1;have hmul:(xs.length+ys.length)*ow.sz<=cap*ow.sz:=qq _ rU;rw[o0]at hmul;have f1:=run_append_room (P:=P) w t type ow.el fv iS ao bl xs.length cap cur Az ⟨k8,nx,none⟩ ys.length lz hh (by rw[jJ,bM]) rT (yr my) rU (by rw[jJ,bM,<-dj];omega);obtain⟨cU,dq⟩:=aK.inPlace ad (bl:=bl) (cap:=cap) (cur:=cur) (by rw[eR,<-ny]) Az L0 L1 (xs:=xs) (ys:=ys) (us:=fw) (ns:=hh) bT.symm GR (by rw[dj,<-bM];exact nS) (by rw[dj];exact my) hyp (by rw[bT];exact rU) ks;refine mi (v:= .slice (some ⟨bl,0,none⟩) (ow.n+ys.length) cap) (w':=w.setRow bl (fw++hh++cur.toList.drop (ow.n*ow.sz+hh.length)).toArray) (mD _ _ ?_)
             (c2 _ _ (Z.withRowOf k (.slice (some ⟨bl,0,none⟩) (ow.n+ys.length) cap) (ow.n+ys.length) ((ow.n+ys.length)*ow.sz)) ?_)
            ·rw[nl,ny,bT,f1,<-GR,bT,dj,bM]
            ·have:=cU.put (d:=some d) (by simpa[jt]using U) dq;simpa[bT,dj,eM]using this
           ·refine Ci (fun _ h=>h.elim) ?_;obtain⟨v',w',f1,f2,f3⟩:=run_append_arg_grows (P:=P) w t type ow.el fv z fv.size fv.bytes iS ao hI rfl rfl vX (by rw[bM];exact fB) ⟨bl,0,none⟩ xs.length cap fw (by rw[vV,bT,dj,bM])
             (fun j u ag=>by rw[o4];exact(uM xH ag).2) ⟨k8,nx,none⟩ ys.length lz hh (by rw[jJ,bM]) rT Ω mE rL
            exact⟨v',w',by rw[nl,ny,bT];exact f1,f2,f3,nS⟩
       ·cases he
      ·cases he;have FI:=rxn rfl;have zO:xs=[]:=by rw[FI]at su;injection su with _ aF;exact List.eq_nil_of_length_eq_zero aF.symm
       subst zO;have xL:(ei.app d g.size el x y).makes st=true:=by simp only[ei.makes,ae]
       have vX:z.cells.size=fv.size:=by rw[rr,bM]
       rw[vy,FI]at mD;have dF:∀(v':Value) (w':World) (hh:List Value),(Builtin.append_ #[t,t] type #[.slice none 0 0,.slice nI ys.length lz]).run P w= .ok v' w'->w'.ownsRow w.heap.size el g.size v' ys.length hh->w.grownBy w' none->dx w Z g.size ys hh->
         (⟨some d,.call ⟨.builtin .append,⟨[o',jm]⟩,⟨[t,t]⟩⟩,type,pos,after,guard⟩:Oper).wp P a w K Q:=by
        intro v' w' hh f1 f2 f3 f4;obtain⟨cU,dq⟩:=aK.newRow (k:=κ) (xs:=ys) (.inl (aK.new _ (uw xL))) f3 f2 f4 aq (c8 xL);exact mi (mD _ _ f1) (c2 _ _ _ (cU.put (d:=some d) (by simpa[jt]using U) dq))
       by_cases jh:ys=[]
       ·subst jh;exact dF _ w [] (Hr iS ao none 0 0 (eC _) nI lz) (World.ownsRow_nil w _ _ _) (anl w _) (by simp[dx])
       ·rcases cy4 with cy4|⟨k8,nx,hh,rfl,x3,my⟩
        ·exact absurd cy4 jh
        ·have jJ:=tE my;have rT:∀j u,hh[j]? =some u->w.cell? ((⟨k8,nx,none⟩:Addr).add j)=some u:=fun j u ag=>by rw[o4];exact(uM x3 ag).2
         have rL:ys.length*fv.bytes<=140737488355328:=by
          have J:fv.bytes<=2048:=by rw[dt];exact hby
          have U:ys.length*fv.bytes<=ys.length*2048:=Nat.mul_le_mul_left _ J;simp only[lim]at aq;omega
         have mE:ys.length<=maxLen:=by simp only[lim]at aq;simp only[maxLen];omega
         obtain⟨v',w',f1,f2,f3,_⟩:=run_append_own (P:=P) w w.heap.size t type el fv z fv.size fv.bytes iS ao hI rfl rfl vX (by rw[bM];exact fB) (.slice none 0 0) 0 [] (World.ownsRow_nil w _ _ _)
          ⟨k8,nx,none⟩ ys.length lz hh (by rw[jJ,bM]) rT (yr my) (by simpa using mE) (by simpa using rL) (eC _)
         exact dF v' w' hh f1 (by rw[<-bM];simpa using f2) (by simpa[oc]using f3) my
      ·cases he
     ·cases he
    ·cases he
   ·cases bW
  ·cases a1
 ·rename_i d key sz el xs t len parts;simp only[ct,dM,eF]at aw;obtain⟨⟨⟨⟨⟨⟨J,U⟩,al⟩,a1⟩,bW⟩,dd⟩,dW⟩:=aw;subst J;subst bW;split at al
  ·rename_i fW aO;simp only[dM]at al;subst al;split at a1
   ·rename_i g aW;simp only[ct,dM,eF]at a1;obtain⟨rfl,fB⟩:=a1;simp only[eA]at he;cases he;obtain⟨us,g1,g2,g3⟩:=WM aI aK aO rfl aW dW aq dd;have lF:(w.alloc (.cells us el)).ownsRow w.heap.size el g.size (.slice (some ⟨w.heap.size,0,none⟩) xs.length xs.length) (xs.map (cm st.t)).length us.toList:=by
     refine⟨by simp[g3],.inr ⟨w.heap.size,xs.length,us,Ψ,eC _,heap_alloc_new w _,Ψ,?_,g3,?_⟩⟩
     ·simp only[maxLen];have:xs.length<=xs.length*g.size:=Nat.le_mul_of_pos_right _ fB;omega
     ·rw[hv];simp[g3]
    obtain⟨eR,fM⟩:=aK.newRowM (k:=κ) (xs:=xs.map (cm st.t)) (.inl (aK.new _ (uw rfl))) (World.grownBy_alloc w _ none) lF g2
     (by have:xs.length<=xs.length*g.size:=Nat.le_mul_of_pos_right _ fB;simp only[lim,List.length_map];omega) (c8 rfl)
    simp only[List.length_map]at eR fM;refine mi (v:= .slice (some ⟨w.heap.size,0,none⟩) xs.length xs.length) (w':=w.alloc (.cells us el)) ?_ (c2 _ _ _ (eR.put (d:=some d) (by simpa[jt]using U) (p:= .row g.size κ xs.length) (fM ⟨_,_,rfl⟩)));have bL:(parts.map fun(x:Nat×Operand)=>(x.1,a.eval x.2))=(parts.toList.map fun(x:Nat×Operand)=>(x.1,a.eval x.2)).toArray:=by apply Array.ext';simp
    simp only[execOp];refine D7 ?_;rw[<-g1];congr 2
   ·cases a1
  ·cases al
 ·rename_i d key sz el x y o' jm t dK;simp only[ct,dM,eF]at aw;obtain⟨⟨⟨⟨⟨⟨J,U⟩,al⟩,a1⟩,bW⟩,dd⟩,dW⟩:=aw;subst J;subst al;split at a1
  ·rename_i fW aO;simp only[dM]at a1;subst a1;split at bW
   ·rename_i g aW;simp only[ct,dM,eF]at bW;obtain⟨⟨rfl,fB⟩,hby⟩:=bW;have rx:=eh aK dd;have lP:=eh aK dW;have mD:∀v' w',(Builtin.append_ #[t,t] type #[a.eval o',a.eval jm]).run P w= .ok v' w'->(execOp a.eval ⟨some d,.call ⟨.builtin .append,⟨[o',jm]⟩,⟨[t,t]⟩⟩,type,pos,after,guard⟩).run P w= .ok (.value v') w':=by intro v' w' iV;simp only[execOp,resolve,invoke,builtin,fH,gq,fO,List.map_toArray,eO,hn];rw[iV];rfl
    obtain⟨fv,cp,z,ao,aF,bM,dt,hO,hI,rq,rr⟩:=(vd aI aW).ex;obtain⟨eJ,iS,eW⟩:=iZ aI aO;obtain rfl:=sN eW;have vX:z.cells.size=fv.size:=by rw[rr,bM]
    simp only[eA]at he;split at he
    ·
     rename_i ys av;cases he;unfold sJ at av;split at av
     ·rename_i dH xs jo kX anc ae aM;split at av
      ·rename_i e8;obtain⟨rfl,e8⟩:=e8;subst e8;cases av;rw[ae]at rx;rw[aM]at lP;simp only[bd]at rx lP;obtain⟨⟨tX,o9,su,cx1,⟨QG,QH⟩,cx4⟩,rxn,rxo,rxt⟩:=rx;obtain⟨⟨nI,lz,vy,cy1,⟨QI,QJ⟩,cy4⟩,_⟩:=lP;have FI:=rxn trivial;have xL:(ei.appm d key g.size el x y).makes st=true:=by simp only[ei.makes,ae]
       rw[vy,FI]at mD;have dF:∀(v':Value) (w':World) (hh:List Value),(Builtin.append_ #[t,t] type #[.slice none 0 0,.slice nI ys.length lz]).run P w= .ok v' w'->w'.ownsRow w.heap.size el g.size v' ys.length hh->w.grownBy w' none->dx w Z g.size ys hh->
         (⟨some d,.call ⟨.builtin .append,⟨[o',jm]⟩,⟨[t,t]⟩⟩,type,pos,after,guard⟩:Oper).wp P a w K Q:=by
        intro v' w' hh f1 f2 f3 f4;obtain⟨cU,dq⟩:=aK.newRowM (k:=κ) (xs:=ys) (.inl (aK.new _ (uw xL))) f3 f2 f4 aq.1 (c8 xL);exact mi (mD _ _ f1) (c2 _ _ _ (cU.put (d:=some d) (by simpa[jt]using U) (dq (Ve f2 (by cases ys<;>simp at aq⊢)))))
       by_cases jh:ys=[]
       ·subst jh;exact dF _ w [] (Hr iS ao none 0 0 (eC _) nI lz) (World.ownsRow_nil w _ _ _) (anl w _) (by simp[dx])
       ·rcases cy4 with cy4|⟨k8,nx,hh,rfl,x3,my⟩
        ·exact absurd cy4 jh
        ·have jJ:=tE my;have rT:∀j u,hh[j]? =some u->w.cell? ((⟨k8,nx,none⟩:Addr).add j)=some u:=fun j u ag=>by rw[o4];exact(uM x3 ag).2
         have rL:ys.length*fv.bytes<=140737488355328:=by
          have J:fv.bytes<=2048:=by rw[dt];exact hby
          have U:ys.length*fv.bytes<=ys.length*2048:=Nat.mul_le_mul_left _ J;simp only[lim]at aq;omega
         have mE:ys.length<=maxLen:=by simp only[lim]at aq;simp only[maxLen];omega
         obtain⟨v',w',f1,f2,f3,_⟩:=run_append_own (P:=P) w w.heap.size t type el fv z fv.size fv.bytes iS ao hI rfl rfl vX (by rw[bM];exact fB) (.slice none 0 0) 0 [] (World.ownsRow_nil w _ _ _)
          ⟨k8,nx,none⟩ ys.length lz hh (by rw[jJ,bM]) rT (yr my) (by simpa using mE) (by simpa using rL) (eC _)
         exact dF v' w' hh f1 (by rw[<-bM];simpa using f2) (by simpa[oc]using f3) my
      ·cases av
     ·split at av
      ·split at av
       ·split at av<;>cases av
       ·cases av
      ·cases av
     ·cases av
    ·
     rename_i k xs ys av;cases he;unfold sJ at av;split at av
     ·split at av<;>cases av
     ·rename_i dH bN n jo kX anc ae aM;split at av
      ·rename_i e8;obtain⟨rfl,e8⟩:=e8;subst e8;split at av
       ·rename_i n' fW wT xs' ad;split at av
        ·rename_i ur;obtain⟨rfl,rfl,rfl⟩:=ur;cases av;rw[ae]at rx;rw[aM]at lP;simp only[bd]at rx lP;obtain⟨⟨bx,o9,su⟩,rxl,n0,A2,eR,fM,pG⟩:=rx;obtain⟨⟨nI,lz,vy,cy1,⟨QI,QJ⟩,cy4⟩,_⟩:=lP;obtain⟨v0,fw,aZ,bm,bP,cP⟩:=aK.good.own k _ ad;rw[eR]at aZ;simp only[dy,jE]at aZ bm;obtain⟨rfl,rfl⟩:=aZ;have nl:a.eval o'=A2:=pG rfl;obtain⟨cZ,n1,uX⟩:=cP xs rfl;simp only at cZ n1;have vV:fw.length=xs.length*g.size:=by rw[cZ];exact bm.1
         have pw:xs.length=n0:=cZ;by_cases jh:ys=[]
         ·subst jh;rw[vy,su]at mD;have kA:n0<=o9:=by
           rcases bm.2 with⟨ny,yk⟩|⟨bl,cap,cur,ny,yk,Az,LZ,_⟩
           ·rw[yk];exact Nat.zero_le _
           ·rw[<-nl,su]at ny;injection ny with _ _ e;rw[e];exact LZ
          have iV:=Hr (P:=P) (w:=w) (ty:=type) iS ao (some ⟨bx,0,none⟩) n0 o9 kA nI lz;refine mi (mD _ _ (by simpa using iV)) (c2 _ _ Z ?_);have h3:∀fc,look fc (cy k ⟨n0,fW,g.size,some xs⟩ st.e)=look fc st.e:=fun fc=>by
           rw[iW];split
           ·rename_i e;subst e;rw[ad]
           ·rfl
          have mF:cS C {st with e:=cy k ⟨n0,fW,g.size,some xs⟩ st.e} a w Z:=
           ⟨⟨aK.good.alt,aK.good.box,aK.good.inj,fun g o aW=>aK.good.own g o (by rw[<-h3 g];exact aW),fun g fc n n' v v' bl bz a2=>aK.good.oinj g fc n n' v v' bl (by rw[<-h3 g];exact bz) (by rw[<-h3 fc];exact a2),
           fun g j n v bl bz=>aK.good.obx g j n v bl (by rw[<-h3 g];exact bz),aK.good.one,fun bl ab=>aK.good.otr bl (ab.imp id (fun⟨g,n,v,bz,a2⟩=>⟨g,n,v,by rw[<-h3 g];exact bz,a2⟩))⟩,aK.fr,aK.defers,aK.size,aK.slot,aK.new⟩
          have al:=mF.put (d:=some d) (by simpa[jt]using U) (p:= .row g.size k n0) (v:= .slice (some ⟨bx,0,none⟩) n0 o9) (by simp only[bd];exact⟨⟨_,_,rfl⟩,rxl,_,_,eR,eC _,fun _=>by rw[<-su];exact nl⟩)
          simpa[pw,eM]using al
         ·have hyp:0<ys.length:=by cases ys<;>simp at jh⊢
          rcases cy4 with cy4|⟨k8,nx,hh,rfl,x3,my⟩
          ·exact absurd cy4 jh
          ·have jJ:=tE my;have rT:∀j u,hh[j]? =some u->w.cell? ((⟨k8,nx,none⟩:Addr).add j)=some u:=fun j u ag=>by rw[o4];exact(uM x3 ag).2
           have rL:(xs.length+ys.length)*fv.bytes<=140737488355328:=by
            have lB:fv.bytes<=2048:=by rw[dt];exact hby
            have po:(xs.length+ys.length)*fv.bytes<=(xs.length+ys.length)*2048:=Nat.mul_le_mul_left _ lB;simp only[lim]at aq;omega
           have mE:xs.length+ys.length<=maxLen:=by simp only[lim]at aq;simp only[maxLen];omega
           have Fw:dx w Z g.size (xs++ys) (fw++hh):=DA n1 my;rw[vy,nl]at mD;have Ci:(∃v' w',(Builtin.append_ #[t,t] type #[A2,.slice (some ⟨k8,nx,none⟩) ys.length lz]).run P w= .ok v' w'/\w'.ownsRow w.heap.size fW fv.size v' (xs.length+ys.length) (fw++hh)/\w.grownBy w' none)->
             (⟨some d,.call ⟨.builtin .append,⟨[o',jm]⟩,⟨[t,t]⟩⟩,type,pos,after,guard⟩:Oper).wp P a w K Q:=by
            intro cw;obtain⟨v',w',f1,f2,f3⟩:=cw;obtain⟨cU,dq⟩:=aK.newRowM (k:=k) (xs:=xs++ys) (el:=fW) (sz:=g.size) (.inr ⟨_,ad,by simp;omega⟩) f3 (by rw[<-bM];simpa using f2) Fw (by simpa using aq) (n':=st.n) (o':=st.o)
             (fun j ag=>⟨ag,fun e=>by subst e;have:=(aK.new _ ag).2.1;rw[eR]at this;cases this⟩)
            refine mi (mD _ _ f1) (c2 _ _ (Z.withOwn k (xs++ys).length v') ?_);have:=cU.put (d:=some d) (by simpa[jt]using U) (dq (by simpa using Ve f2 Ω));simpa[eM]using this
           rcases bm.2 with⟨ny,yk⟩|⟨bl,cap,cur,ny,yk,Az,LZ,L0,L1,GR⟩
           ·
            have zO:xs=[]:=List.eq_nil_of_length_eq_zero Ω;have Ku:fw=[]:=List.eq_nil_of_length_eq_zero (by rw[vV,zO];simp);subst zO;subst Ku;refine Ci ?_;obtain⟨v',w',f1,f2,f3,_⟩:=run_append_own (P:=P) w w.heap.size t type fW fv z fv.size fv.bytes iS ao hI rfl rfl vX (by rw[bM];exact fB) (.slice none 0 0) 0 [] (World.ownsRow_nil w _ _ _)
             ⟨k8,nx,none⟩ ys.length lz hh (by rw[jJ,bM]) rT (yr my) (by simpa using mE) (by simpa using rL) (eC _)
            exact⟨v',w',by rw[ny];exact f1,by simpa using f2,by simpa[oc]using f3⟩
           ·have oI:A2.ownBlock=some bl:=by rw[ny];rfl
            by_cases rU:xs.length+ys.length<=cap
            ·have hmul:(xs.length+ys.length)*g.size<=cap*g.size:=qq _ rU;rw[o0]at hmul;have f1:=run_append_room (P:=P) w t type fW fv iS ao bl xs.length cap cur Az ⟨k8,nx,none⟩ ys.length lz hh (by rw[jJ,bM]) rT (yr my) rU (by rw[jJ,bM];omega);generalize Te:(cur.toList.take (xs.length*fv.size)++hh++cur.toList.drop (xs.length*fv.size+hh.length)).toArray=tx at f1;have jY:(w.setRow bl tx).heap[bl]? =some (.cells tx fW (0,0)):=setRow_heap w bl cur tx fW _ Az;have au:(fw++hh).length=(xs++ys).length*g.size:=by rw[oW,vV,jJ,oW,o0]
             have bW:cur.toList.take (xs.length*fv.size)=fw:=by rw[pw,bM];exact GR
             have kD:tx.size=cap*g.size:=by rw[<-Te];simp only[List.size_toArray,oW,List.length_take,sB,Array.length_toList];rw[bM];omega
             have ps:tx.toList.take ((xs++ys).length*g.size)=fw++hh:=by rw[<-Te,bW];simp only[<-au];rw[List.take_append_of_le_length (eC _),oZ]
             obtain⟨cU,_,dq⟩:=aK.setRowM (w':=w.setRow bl tx) ad rfl eR oI (v':= .slice (some ⟨bl,0,none⟩) (xs.length+ys.length) cap) rfl (xs':=xs++ys) (us:=fw++hh) (.inr d8) rfl rfl rfl (fun j ag=>setRow_other w bl j tx ag) (setRow_size w bl tx)
              ⟨au,.inr ⟨bl,cap,tx,Ψ,Nat.zero_le _,jY,by simpa using rU,L0,kD,ps⟩⟩ Fw
             replace dq:=dq (by simpa using aq);refine mi (v:= .slice (some ⟨bl,0,none⟩) (xs.length+ys.length) cap) (w':=w.setRow bl tx) (mD _ _ ?_) (c2 _ _ (Z.withOwn k (xs++ys).length (.slice (some ⟨bl,0,none⟩) (xs.length+ys.length) cap)) ?_)
             ·rw[ny,<-pw];exact f1
             ·have:=cU.put (d:=some d) (by simpa[jt]using U) dq;simpa[eM]using this
            ·refine Ci ?_;obtain⟨v',w',f1,f2,f3⟩:=run_append_arg_grows (P:=P) w t type fW fv z fv.size fv.bytes iS ao hI rfl rfl vX (by rw[bM];exact fB) ⟨bl,0,none⟩ xs.length cap fw (by rw[vV,bM])
              (fun j u ag=>by have:=bm.cells oI j u ag;exact this) ⟨k8,nx,none⟩ ys.length lz hh (by rw[jJ,bM]) rT Ω mE rL
             exact⟨v',w',by rw[ny,<-pw];exact f1,f2,f3⟩
        ·cases av
       ·cases av
      ·cases av
     ·cases av
    ·cases he
   ·cases bW
  ·cases a1
 ·rename_i sz x y t o' jm;simp only[ct,dM]at aw;obtain⟨⟨⟨J,U⟩,al⟩,a1⟩:=aw;subst J;split at U
  ·rename_i f aO;simp only[dM]at U;simp only[eA]at he;generalize Kg:cm st.t x=px at he;unfold q9 at he;split at he
   ·rename_i dH k n i sT;split at he
    ·rename_i n' el jo xs ad;split at he
     ·rename_i Kc;obtain⟨rfl,rfl⟩:=Kc;split at he
      ·rename_i q bI;cases he;obtain⟨uc,bT,cv,dj,ks⟩:=aq;have rx:=eh aK al;rw[Kg]at rx;have lP:=eh aK a1;have u1:=u2 lP bT;have u5:=pJ u1;obtain⟨_,ee⟩:=vc aI aO w;have r1:(a.eval jm).cells.size=sz:=by rw[cv]at u5;simpa using u5
       obtain⟨bl,off,mx,Cy,dh,bq,p4⟩:=aK.storeRow (P:=P) ad rx bI uc u1 (by simpa[r1]using dj) (fun e=>by have:=e4 List.length e;simp[r1]at this;omega);refine Ea (w':=w.setRow bl mx) ?_ (c2 _ _ _ p4);simp only[execOp,Instr.storeAt,Cy,Instr.sureAddr,storeVar,fH,gq,fO,ee,r1,U,ne_eq,not_true_eq_false,if_false,dh]
      ·cases he
     ·cases he
    ·cases he
   ·cases he
  ·cases U
 ·rename_i d key sz el z x t o' jm;simp only[ct,dM,eF]at aw;obtain⟨⟨⟨⟨⟨J,U⟩,al⟩,a1⟩,bW⟩,dd⟩:=aw;subst J;split at al
  ·rename_i fW aO;simp only[dM]at al;subst al;split at a1
   ·rename_i g aW;simp only[ct,dM,eF]at a1;obtain⟨⟨⟨rfl,fB⟩,hby⟩,bk⟩:=a1;obtain rfl:=NJ bk;have rx:=eh aK bW;have lP:=eh aK dd;simp only[eA]at he;split at he
    ·rename_i fl n ae;cases he;obtain⟨afh,jJ⟩:=aq;obtain⟨m,rfl⟩:=Int.eq_ofNat_of_zero_le afh;rw[ae]at rx lP;simp only[bd]at rx lP;obtain⟨fv,cp,bQ,ao,aF,bM,dt,hO,hI,rq,rr⟩:=(vd aI aW).ex;obtain⟨eJ,iS,eW⟩:=iZ aI aO;obtain rfl:=sN eW;have mE:m<=lim:=by simp only[lim]at jJ⊢;omega
     have rL:fv.bytes*m<=281474976710656:=by have J:fv.bytes*m<=2048*m:=qq _ Ω;simp only[lim]at mE;omega
     obtain⟨afE,aeH⟩:=NI w Z rq;obtain⟨w',g1,g2,g3⟩:=run_make_full (P:=P) w w.heap.size t el fv bQ fv.size iS ao hI rfl fl fl m rL (by simp only[maxLen];simp only[lim]at mE;omega) (eC _);have lF:w'.ownsRow w.heap.size el g.size (.slice (some ⟨w.heap.size,0,none⟩) m m) (List.replicate m g.zero).length (madeCells bQ.cells (m*bQ.cells.size)).toList:=by rw[bM,<-rr]at g2;rw[List.length_replicate,<-rr];exact g2
     obtain⟨eR,fM⟩:=aK.newRowM (k:=κ) (xs:=List.replicate m g.zero) (.inl (aK.new _ (uw rfl))) g3 lF (by rw[<-rr];exact Un afE Ω (AM aeH) m) (by simpa using mE) (c8 rfl);simp only[List.length_replicate]at eR fM;simp only[Int.toNat_natCast]at c2;refine mi (v:= .slice (some ⟨w.heap.size,0,none⟩) m m) (w':=w') ?_ (c2 _ _ _ (eR.put (d:=some d) (by simpa[jt]using U) (p:= .row g.size κ m) (fM ⟨_,_,rfl⟩)));simp only[execOp];refine D7 ?_;rw[rx,lP];exact g1
    ·cases he
   ·cases a1
  ·cases al
 ·cases aw
theorem ak1{P:cG}{bB:List (Nat×dA)}(aI:fN P bB=true){C:fa}{st st':bo}{a:Act}{w:World}{Z:bc}(aK:cS C st a w Z){i:ei}{o:Oper}(aw:DI C.N bB i o=true)
  {c:Prop} (he:me st i=some (c,st')) (aq:c) {K:Act->World->Prop} {Q:Exit->Act->World->Prop} (c2:∀bp w' bq,cS C st' bp w' bq->K bp w'):o.wp P a w K Q:=by
 have oF:qc st none->fresh st.n st.o (.loc st.n):=fun h=>wv (key:=none) h;have fq:∀j,fresh (st.n+1) st.o j->fresh st.n st.o j/\j≠ .loc st.n:=wx (key:=none);cases i with
 |v d i=>exact jQ (κ:= .loc 0) (n':=0) (o₁:=[]) aI aK aw (fun h=>by simp[ei.makes]at h) (fun h=>by simp[ei.makes]at h) (by simpa only[me,eA]using he) aq c2
 |box d key x=>simp only[me]at he;cases he;exact jQ (κ:=jO st key) (n':=nu st key) (o₁:=nv st key) aI aK aw (fun _=>wv aq.1) (fun _=>wx) (by simp only[eA]) aq.2 c2
 |alloc d key z=>simp only[me]at he;cases he;exact jQ (κ:=jO st key) (n':=nu st key) (o₁:=nv st key) aI aK aw (fun _=>wv aq) (fun _=>wx) (by simp only[eA]) trivial c2
 |mks d key sz el z x=>
  simp only[me]at he;split at he
  ·rename_i fl n ae;cases he;exact jQ (κ:=jO st key) (n':=nu st key) (o₁:=nv st key) aI aK aw (fun _=>wv aq.1) (fun _=>wx) (by simp only[eA,ae]) aq.2 c2
  ·cases he
 |storeE sz x y=>exact jQ (κ:= .loc 0) (n':=0) (o₁:=[]) aI aK aw (fun h=>by simp[ei.makes]at h) (fun h=>by simp[ei.makes]at h) (by simpa only[me,eA]using he) aq c2
 |store sz x y=>exact jQ (κ:= .loc 0) (n':=0) (o₁:=[]) aI aK aw (fun h=>by simp[ei.makes]at h) (fun h=>by simp[ei.makes]at h) (by simpa only[me,eA]using he) aq c2
 |bsl d sz el xs=>simp only[me]at he;cases he;exact jQ (κ:= .loc st.n) (n':=st.n+1) (o₁:=st.o) aI aK aw (fun _=>oF aq.1) (fun _=>fq) (by simp only[eA]) aq.2 c2
 |bslm d key sz el xs=>simp only[me]at he;cases he;exact jQ (κ:=jO st key) (n':=nu st key) (o₁:=nv st key) aI aK aw (fun _=>wv aq.1) (fun _=>wx) (by simp only[eA]) aq.2 c2
 |appm d key sz el x y=>
  simp only[me]at he;split at he
  ·rename_i ys av;cases he;exact jQ (κ:=jO st key) (n':=nu st key) (o₁:=nv st key) aI aK aw (fun _=>wv aq.1) (fun _=>wx) (by simp only[eA,av]) aq.2 c2
  ·rename_i k xs ys av;cases he;refine jQ (κ:= .loc 0) (n':=0) (o₁:=[]) aI aK aw (fun h=>?_) (fun h=>?_) (by simp only[eA,av]) aq c2;all_goals
    exfalso
    simp only[ei.makes]at h
    split at h
    ·rename_i ae
     unfold sJ at av
     rw[ae]at av
     split at av
     ·split at av<;>cases av
     ·rename_i J _;cases J
     ·cases av
    ·cases h
  ·cases he
 |mkmap d key=>simp only[me]at he;cases he;exact jQ (κ:=jO st key) (n':=nu st key) (o₁:=nv st key) aI aK aw (fun _=>wv aq) (fun _=>wx) (by simp only[eA]) trivial c2
 |mput cc x k v=>exact jQ (κ:= .loc 0) (n':=0) (o₁:=[]) aI aK aw (fun h=>by simp[ei.makes]at h) (fun h=>by simp[ei.makes]at h) (by simpa only[me,eA]using he) aq c2
 |range d key x=>
  simp only[me]at he;split at he
  ·rename_i m ae;split at he
   ·rename_i cs dg;split at he
    ·rename_i cs' hm;cases he;exact jQ (κ:=jO st key) (n':=nu st key) (o₁:=nv st key) aI aK aw (fun _=>wv aq) (fun _=>wx) (by simp only[eA,ae,dg,hm]) trivial c2
    ·cases he
   ·cases he
  ·cases he
 |app d sz el x y=>
  simp only[me]at he;split at he
  ·rename_i dH tag xs jo kX ys ae aM;split at he
   ·rename_i e8;split at he
    ·rename_i k;split at he
     ·rename_i ow ad;cases he;refine jQ (κ:= .loc 0) (n':=0) (o₁:=[]) aI aK aw (fun h=>by simp[ei.makes,ae]at h) (fun h=>by simp[ei.makes,ae]at h) ?_ aq c2;simp only[eA,ae,aM,e8,and_self,if_true,ad]
     ·cases he
    ·cases he;refine jQ (κ:= .loc st.n) (n':=st.n+1) (o₁:=st.o) aI aK aw (fun _=>oF aq.1) (fun _=>fq) ?_ aq.2 c2;simp only[eA,ae,aM,e8,and_self,if_true]
    ·cases he
   ·cases he
  ·cases he
structure cM where
 b:List (aL×List ai)
 e:List (aL×fQ)
def fx(Z:bc)(s:cM)(bl:Nat):Prop:=(∃k,(look k s.b).isSome/\Z.bx k=some bl)\/(∃g n v,(look g s.e).isSome/\Z.ow g=some (n,v)/\v.ownBlock=some bl)
def pe(Z:bc)(s:cM):Prop:= ∀k,(look k s.b=none->Z.bx k=none)/\(look k s.e=none->Z.ow k=none)/\∀j b,¬Z.tr k j b
def cX(s:cM):List aL:=s.b.map (·.1)++s.e.map (·.1)
def iX(s:cM):Prop:=(∀m,look (.loc m) s.b=none)/\(∀m,look (.loc m) s.e=none)
def w5(P:cG)(f:FuncId)(ba:Array Value)(w:World)(R:Ending->World->Prop):Prop:=((∃fn,P.funcs[f]? =some fn/\fn.body.isSome=true/\(fn.name== "runtime.NumGoroutine")=false)/\Calls P f ba w R)\/ ∃v w',(callFunc f ba).run P w= .ok (.value v) w'/\R (.returned v) w'
def bJ(P:cG)(f:FuncId)(args:List ai)(s:cM)(Q:ai->cM->Prop):Prop:=
 ∀(w:World) (Z:bc) (ba:Array Value),Good (fx Z s) w Z s.b s.e->pe Z s->cR w Z args ba.toList->
  w5 P f ba w fun e w'=> ∃v r ah bq,e= .returned v/\Q r ah/\bd w' bq r v/\Good (fun bl=>fx Z s bl\/w.heap.size<=bl) w' bq ah.b ah.e/\pe bq ah/\iX ah/\qt ⟨w,Z,fx Z s,0,cX s⟩ w' bq
def E5(κ:Option Nat)(Z:bc)(s:cM):Prop:= ∀k,(look k s.b=none->Z.bx k=none)/\(look k s.e=none->Z.ow k=none)/\∀j b,Z.tr k j b->∃m,κ=some m/\k= .loc m
theorem pe.k{Z:bc}{s:cM}(h:pe Z s):E5 none Z s:=fun k=>⟨(h k).1,(h k).2.1,fun j b ab=>absurd ab ((h k).2.2 j b)⟩
def HW(P:cG)(f:FuncId)(κ:Nat)(args:List ai)(s:cM)(Q:ai->cM->Prop):Prop:=
 ∀(w:World) (Z:bc) (ba:Array Value),Good (fx Z s) w Z s.b s.e->pe Z s->cR w Z args ba.toList->
  w5 P f ba w fun e w'=> ∃v r ah bq,e= .returned v/\Q r ah/\bd w' bq r v/\Good (fun bl=>fx Z s bl\/w.heap.size<=bl) w' bq ah.b ah.e/\E5 (some κ) bq ah/\iX ah/\qt ⟨w,Z,fx Z s,0,cX s⟩ w' bq
def bZ(P:cG)(f:FuncId)(args:List ai)(r:ai):Prop:=bJ P f args ⟨[],[]⟩ fun eG ah=>eG=r/\ah=⟨[],[]⟩
theorem ts{α:Type}{k:aL}{x:α}:∀{l:List (aL×α)},look k l=some x->(k,x)∈l
 |[],h=>by simp[look]at h
 |(i,y)::r,h=>by
  simp only[look]at h;split at h
  ·rename_i e;subst e;cases h;simp
  ·exact og _ (ts h)
theorem tz{s:cM}{k:aL}(h:(look k s.b).isSome\/(look k s.e).isSome):k∈cX s:=by
 unfold cX;rcases h with h|h<;>obtain⟨x,ae⟩:=fP.1 h<;>have:=ts ae
 ·exact List.mem_append_left _ (ia.2 ⟨_,this,rfl⟩)
 ·exact List.mem_append_right _ (ia.2 ⟨_,this,rfl⟩)
section
open Classical
noncomputable def bc.cut(Z:bc)(S:aL->Prop):bc:={A:=Z.A,bx:=fun k=>if S k then Z.bx k else none,ow:=fun k=>if S k then Z.ow k else none,tr:=fun k j b=>S k/\Z.tr k j b}
theorem bc.cut_bx{Z:bc}{S:aL->Prop}{k:aL}(h:S k):(Z.cut S).bx k=Z.bx k:=by simp[bc.cut,h]
theorem bc.cut_ow{Z:bc}{S:aL->Prop}{k:aL}(h:S k):(Z.cut S).ow k=Z.ow k:=by simp[bc.cut,h]
theorem bc.cut_no{Z:bc}{S:aL->Prop}{k:aL}(h:¬S k):(Z.cut S).bx k=none/\(Z.cut S).ow k=none/\∀j b,¬(Z.cut S).tr k j b:=by simp[bc.cut,h]
theorem bc.cut_some{Z:bc}{S:aL->Prop}{k:aL}{b:Nat}(h:(Z.cut S).bx k=some b):S k/\Z.bx k=some b:=by
 by_cases af:S k
 ·exact⟨af,by rw[bc.cut_bx af]at h;exact h⟩
 ·rw[(bc.cut_no af).1]at h;cases h
theorem bc.cut_someO{Z:bc}{S:aL->Prop}{k:aL}{b:Nat×Value}(h:(Z.cut S).ow k=some b):S k/\Z.ow k=some b:=by
 by_cases af:S k
 ·exact⟨af,by rw[bc.cut_ow af]at h;exact h⟩
 ·rw[(bc.cut_no af).2.1]at h;cases h
theorem oi.cut(S:aL->Prop)(w:World)(Z:bc):oi S w Z w (Z.cut S):=⟨fun _ _ h=>⟨h,rfl⟩,fun k b ad h=>by rw[bc.cut_bx ad];exact h,fun g n u aW h=>⟨n,u,by rw[bc.cut_ow aW];exact h,.inl ⟨rfl,rfl⟩⟩,fun _ _ _=>rfl,fun _ _ _ ad h=>⟨ad,h⟩⟩
end
def gV(S:aL->Prop)(b0 b:List (aL×List ai)):Prop:= ∀k cs,look k b0=some cs->look k b=some cs/\S k/\aP S cs
def nz(S:aL->Prop)(fL e:List (aL×fQ)):Prop:= ∀k o,look k fL=some o->look k e=some o/\S k/\et S o
theorem Good.cut{pr Ds:Nat->Prop}{w:World}{Z:bc}{b b0:List (aL×List ai)}{e fL:List (aL×fQ)}(h:Good pr w Z b e){S:aL->Prop}(ab:gV S b0 b)(he:nz S fL e)
  (SZ:∀bl,pr bl->(∃k,(look k b0).isSome/\(Z.cut S).bx k=some bl)\/(∃g n v,(look g fL).isSome/\(Z.cut S).ow g=some (n,v)/\v.ownBlock=some bl)->Ds bl):Good Ds w (Z.cut S) b0 fL:=by
 have Fv:∀k,(look k b0).isSome->(look k b).isSome/\S k:=fun k ad=>by obtain⟨cs,dg⟩:=fP.1 ad;have:=ab k cs dg;exact⟨by simp[this.1],this.2.1⟩
 have Fy:∀k,(look k fL).isSome->(look k e).isSome/\S k:=fun k ad=>by obtain⟨cs,dg⟩:=fP.1 ad;have:=he k cs dg;exact⟨by simp[this.1],this.2.1⟩
 refine⟨h.alt,fun k cs ad=>?_,fun k bN bl J U al a1=>?_,fun g o aW=>?_,fun g fc n n' v v' bl J U al a1 bW dd=>?_,fun g k n v bl J U al a1 bW=>?_,fun k=>?_,fun bl aI k j ag=>?_⟩
 ·obtain⟨g1,g2,g3⟩:=ab k cs ad;obtain⟨bl,us,el,f1,f2,f3,f4,f5⟩:=h.box k cs g1;have ky:(Z.cut S).bx k=some bl:=by rw[bc.cut_bx g2];exact f1
  exact⟨bl,us,el,ky,SZ bl f2 (.inl ⟨k,by simp[ad],ky⟩),f3,f4,Wv (oi.cut S w Z) g3 f5⟩
 ·obtain⟨bz,a2⟩:=Fv k J;obtain⟨cf,b9⟩:=Fv bN U;exact h.inj k bN bl bz cf (bc.cut_some al).2 (bc.cut_some a1).2
 ·obtain⟨g1,g2,g3⟩:=he g o aW;obtain⟨v,us,f1,f2,f3,f4⟩:=h.own g o g1;have Cw:(Z.cut S).ow g=some (o.n,v):=by rw[bc.cut_ow g2];exact f1
  exact⟨v,us,Cw,f2,fun bl fk=>⟨SZ bl (f3 bl fk).1 (.inr ⟨g,o.n,v,by simp[aW],Cw,fk⟩),(f3 bl fk).2⟩,
   fun xs ae=>⟨(f4 xs ae).1,Hg (oi.cut S w Z) _ _ _ (g3 xs ae) (f4 xs ae).2.1,(f4 xs ae).2.2⟩⟩
 ·obtain⟨bz,a2⟩:=Fy g J;obtain⟨cf,b9⟩:=Fy fc U;exact h.oinj g fc n n' v v' bl bz cf (bc.cut_someO al).2 (bc.cut_someO a1).2 bW dd
 ·obtain⟨bz,a2⟩:=Fy g J;obtain⟨cf,b9⟩:=Fv k U;exact h.obx g k n v bl bz cf (bc.cut_someO al).2 a1 (bc.cut_some bW).2
 ·by_cases af:S k
  ·rw[bc.cut_bx af,bc.cut_ow af];exact h.one k
  ·exact .inl (bc.cut_no af).1
 ·refine h.otr bl ?_ k j ag.2;rcases aI with⟨bN,bz,a2⟩|⟨g,n,v,bz,a2,a3⟩
  ·exact .inl ⟨bN,(Fv bN bz).1,(bc.cut_some a2).2⟩
  ·exact .inr ⟨g,n,v,(Fy g bz).1,(bc.cut_someO a2).2,a3⟩
structure iP (ob:List aL) (st st':bo):Prop where
 t:∀x∈st'.t,get x.1 st.t=x.2/\aJ (fun k=> ¬fresh st'.n st'.o k) x.2
 b:gV (fun k=> ¬fresh st'.n st'.o k) st'.b st.b
 e:nz (fun k=> ¬fresh st'.n st'.o k) st'.e st.e
 o:∀m∈ob,m∈st'.o
theorem RQ:∀(i:Nat) (l:List (Nat×ai)),get i l= .junk\/(i,get i l)∈l
 |_,[]=>.inl rfl
 |i,(j,p)::r=>by
  by_cases h:j=i
  ·subst h;right;simp[get]
  ·rcases RQ i r with J|J
   ·left;simp[get,h,J]
   ·right;simp[get,h];right;exact J
theorem cS.weaker{C:fa}{st st':bo}{a:Act}{w:World}{Z:bc}(h:cS C st a w Z)(hw:iP C.ob st st'):cS C st' a w (Z.cut fun k=> ¬fresh st'.n st'.o k):=by
 refine⟨h.good.cut hw.b hw.e (fun bl bL _=>bL),⟨h.fr.os,h.fr.tape,h.fr.output,h.fr.size,h.fr.block,h.fr.keep,h.fr.fresh,fun n b ab=>?_,h.fr.obn,fun m n u hm=>?_,h.fr.obr,fun k j bN dD b J U=>h.fr.trd k j bN dD b J.2 U.2,fun k j b ab=>h.fr.trb k j b ab.2,fun k j b ab=>?_,h.fr.sh⟩,h.defers,h.size,fun i=>?_,fun k ad=>bc.cut_no (fun az=>az ad)⟩
 ·rw[bc.cut_bx (fun cw=>cw.2 (hw.o _ (h.fr.obn n b ab)))];exact h.fr.obj n b ab
 ·rw[bc.cut_ow (fun cw=>cw.2 (hw.o _ (h.fr.obr m n u hm)))];exact h.fr.row m n u hm
 ·rw[bc.cut_bx ab.1,bc.cut_ow ab.1];exact h.fr.trn k j b ab.2
 ·rcases RQ i st'.t with ag|hm
  ·rw[ag];simp[bd]
  ·obtain⟨J,U⟩:=hw.t _ hm;simp only at J;have:=h.slot i;rw[J]at this;exact u3 (oi.cut _ w Z) _ _ U this
mutual
def ev:ai->ai
 | .slice sz _ xs=>.slice sz .no (dr xs)
 | .agg cs=>.agg (dr cs)
 | .tuple ba=>.tuple (dr ba)
 | .eptr x=>.eptr (ev x)
 | .iface t x=>.iface t (ev x)
 | .func f dk=>.func f (dr dk)
 |p=>p
def dr:List ai->List ai
 |[]=>[]
 |x::xs=>ev x::dr xs
end
theorem vb:∀xs,(dr xs).length=xs.length
 |[]=>rfl
 |x::xs=>by simp[dr,vb xs]
mutual
theorem Js{t:Bool}{w:World}{A:Nat->Nat->Prop}:∀(p:ai) (F:Nat->Prop) (v:Value),gf t w A F p v->gf t w A F (ev p) v
 | .int _ _,_,_,h=>by simpa only[ev]using h
 | .bool _,_,_,h=>by simpa only[ev]using h
 | .str _,_,_,h=>by simpa only[ev]using h
 | .slice sz tag xs,F,v,h=>by
  simp only[gf,ev]at h⊢;obtain⟨a,cap,J,U,al,a1⟩:=h;refine⟨a,cap,by rw[vb];exact J,by rw[vb];exact U,by rw[vb];exact al,?_⟩;rcases a1 with rfl|⟨b,off,us,G,ao,aF,bM,dt,hO,hI⟩
  ·exact .inl rfl
  ·exact .inr ⟨b,off,us,G,ao,aF,bM,dt,hO,Ry sz xs G us hI⟩
 | .agg cs,F,v,h=>by simp only[gf,ev]at h⊢;obtain⟨us,J,U⟩:=h;exact⟨us,J,Rz cs F _ U⟩
 | .junk,_,_,h=>by simp[gf]at h
 | .ptr _ _,_,_,h=>by simp[gf]at h
 | .eptr _,_,_,h=>by simp[gf]at h
 | .iface _ _,_,_,h=>by simp[gf]at h
 | .nilp,_,_,h=>by simp[gf]at h
 | .tuple _,_,_,h=>by simp[gf]at h
 | .func _ _,_,_,h=>by simp[gf]at h
 | .gmap _,_,_,h=>by simp[gf]at h
 | .row _ _ _,_,_,h=>by simp[gf]at h
 | .rptr _ _ _ _ _,_,_,h=>by simp[gf]at h
 | .hdm _ _,_,_,h=>by simp[gf]at h
 | .hdi _ _ _,_,_,h=>by simp[gf]at h
 | .cst _,_,_,h=>by simp[gf]at h
theorem Rz{t:Bool}{w:World}{A:Nat->Nat->Prop}:∀(cs:List ai) (F:Nat->Prop) (us:List Value),um t w A F cs us->um t w A F (dr cs) us
 |[],_,_,h=>by simpa only[dr]using h
 |c::cs,F,us,h=>by simp only[um,dr]at h⊢;obtain⟨u,ch,ib,iB,J,U,⟨bW,dd⟩,dW⟩:=h;exact⟨u,ch,ib,iB,J,U,⟨Js c ib u bW,dd⟩,Rz cs iB ch dW⟩
theorem Ry{t:Bool}{w:World}{A:Nat->Nat->Prop}(sz:Nat):∀(cs:List ai) (F:Nat->Prop) (us:List Value),uk t w A F sz cs us->uk t w A F sz (dr cs) us
 |[],_,_,h=>by simpa only[dr]using h
 |c::cs,F,us,h=>by simp only[uk,dr]at h⊢;obtain⟨u,ch,ib,iB,J,U,⟨bW,dd⟩,dW⟩:=h;exact⟨u,ch,ib,iB,J,U,⟨Js c ib u bW,dd⟩,Ry sz cs iB ch dW⟩
end
theorem Rx{t:Bool}{w:World}{A:Nat->Nat->Prop}{F:Nat->Prop}{sz:Nat}{tag:Bm}(kX:Bm){xs:List ai}(v:Value)(h:gf t w A F (.slice sz tag xs) v):gf t w A F (.slice sz kX (dr xs)) v:=by have:=Js _ F v h;simp only[ev,gf]at this⊢;exact this
mutual
theorem yw{w:World}{Z:bc}:∀(p:ai) (v:Value),bd w Z p v->bd w Z (ev p) v
 | .junk,_,h=>by simpa only[ev]using h
 | .int k n,_,h=>by simpa only[ev]using h
 | .bool b,_,h=>by simpa only[ev]using h
 | .str s,_,h=>by simpa only[ev]using h
 | .slice sz tag xs,v,h=>by
  simp only[bd,ev]at h⊢;obtain⟨⟨a,cap,J,U,al,a1⟩,bW,dd⟩:=h;refine⟨⟨a,cap,by rw[vb];exact J,by rw[vb];exact U,by rw[vb];exact al,?_⟩,fun e=>(by cases e),fun g e=>(by cases e),fun _ _ e=>(by cases e),fun _ e=>(by cases e)⟩;rcases a1 with rfl|⟨b,off,us,a1,dd,dW⟩
  ·exact .inl rfl
  ·exact .inr ⟨b,off,us,a1,dd,Wy sz xs us dW⟩
 | .agg cs,v,h=>by simp only[bd,ev]at h⊢;obtain⟨us,J,U⟩:=h;exact⟨us,J,WC cs _ U⟩
 | .ptr key off,v,h=>by simpa only[ev]using h
 | .iface t x,v,h=>by simp only[bd,ev]at h⊢;obtain⟨u,J,U⟩:=h;exact⟨u,J,yw x u U⟩
 | .eptr x,v,h=>by simp only[bd,ev]at h⊢;obtain⟨b,off,u,J,U,al⟩:=h;exact⟨b,off,u,J,yw x u U,al⟩
 | .nilp,_,h=>by simpa only[ev]using h
 | .tuple ba,v,h=>by simp only[bd,ev]at h⊢;obtain⟨us,J,U⟩:=h;exact⟨us,J,Hn ba _ U⟩
 | .func f dk,v,h=>by simp only[bd,ev]at h⊢;obtain⟨us,J,U⟩:=h;exact⟨us,J,Hn dk _ U⟩
 | .gmap key,v,h=>by simpa only[ev]using h
 | .row _ _ _,v,h=>by simpa only[ev]using h
 | .rptr _ _ _ _ _,v,h=>by simpa only[ev]using h
 | .cst _,v,h=>by simpa only[ev]using h
theorem WC{w:World}{Z:bc}:∀(cs:List ai) (us:List Value),dn w Z cs us->dn w Z (dr cs) us
 |[],_,h=>by simpa only[dr]using h
 |c::cs,us,h=>by simp only[dn,dr]at h⊢;obtain⟨u,ch,J,U,al⟩:=h;exact⟨u,ch,J,⟨yw c u U.1,U.2⟩,WC cs ch al⟩
theorem Hn{w:World}{Z:bc}:∀(cs:List ai) (us:List Value),cR w Z cs us->cR w Z (dr cs) us
 |[],_,h=>by simpa only[dr]using h
 |c::cs,us,h=>by simp only[cR,dr]at h⊢;obtain⟨u,ch,J,U,al⟩:=h;exact⟨u,ch,J,yw c u U,Hn cs ch al⟩
theorem Wy{w:World}{Z:bc}(sz:Nat):∀(xs:List ai) (us:List Value),dx w Z sz xs us->dx w Z sz (dr xs) us
 |[],_,h=>by simpa only[dr]using h
 |x::xs,us,h=>by simp only[dx,dr]at h⊢;obtain⟨u,ch,J,⟨U,al,a1⟩,bW⟩:=h;exact⟨u,ch,J,⟨yw x u U,al,a1⟩,Wy sz xs ch bW⟩
end
def inObs(s:cM)(k:aL):Prop:=(look k s.b).isSome=true\/(look k s.e).isSome=true
def bX{α β:Type}(s:List (aL×β)):List (aL×α)->List (aL×α)
 |[]=>[]
 |(k,x)::r=>match look k s with
  |some _=>bX s r
  |none=>(k,x)::bX s r
theorem uP{α β:Type}(s:List (aL×β))(k:aL):∀l:List (aL×α),look k (bX s l)=if(look k s).isSome then none else look k l
 |[]=>by simp[bX,look]
 |(i,x)::r=>by
  simp only[bX];by_cases e:i=k
  ·subst e;cases h:look i s with
   |some y=>simp[uP s i r,h]
   |none=>simp[look]
  ·cases h:look i s with
   |some y=>simp[uP s k r,look,e]
   |none=>simp[look,e,uP s k r]
theorem x2{α:Type}(k:aL):∀l a6:List (aL×α),look k (l++a6)=match look k l with|some x=>some x|none=>look k a6
 |[],a6=>by simp[look]
 |(i,x)::r,a6=>by
  by_cases e:i=k
  ·simp[look,e]
  ·simp[look,e,x2 k r a6]
def after(st:bo)(s ah:cM)(d:Option Nat)(r:ai):bo:={t:=eM d r st.t,b:=bX s.b st.b++ah.b,e:=bX s.e st.e++ah.e,n:=st.n,o:=st.o++cX ah}
section
open Classical
noncomputable def bc.join(Z bq:bc)(s ah:cM):bc:={A:=bq.A,bx:=fun k=>if(look k s.b).isSome\/(look k ah.b).isSome then bq.bx k else Z.bx k,ow:=fun k=>if(look k s.e).isSome\/(look k ah.e).isSome then bq.ow k else Z.ow k,tr:=fun k j b=>Z.tr k j b\/bq.tr k j b}
end
theorem cS.callK{C:fa}{st:bo}{a:Act}{w w':World}{Z bq:bc}(h:cS C st a w Z){s ah:cM}(ab:gV (inObs s) s.b st.b)(he:nz (inObs s) s.e st.e)(uC:iX s)
  (aW:Good (fun bl=>fx (Z.cut (inObs s)) s bl\/w.heap.size<=bl) w' bq ah.b ah.e) {κ:Option Nat} (ae:E5 κ bq ah) (af4:∀m,κ=some m->Z.bx (.loc m)=none/\Z.ow (.loc m)=none/\∀j b,¬Z.tr (.loc m) j b) {n':Nat} {o':List aL} (c8:∀k,fresh n' o' k->fresh st.n (st.o++cX ah) k/\∀m,κ=some m->k≠ .loc m) (td:iX ah) (aO:qt ⟨w,Z.cut (inObs s),fx (Z.cut (inObs s)) s,0,cX s⟩ w' bq)
  (J9:∀m,(look (.obj m) ah.b).isSome->(look (.obj m) s.b).isSome\/ .obj m∉st.o) (cF:∀m,(look (.obj m) ah.e).isSome->(look (.obj m) s.e).isSome\/ .obj m∉st.o) (d:Option Nat) (aG:jt C.N d=true) {r:ai} {v:Value} (aK:bd w' bq r v):
  cS C {after st s ah d r with n:=n',o:=o'} (a.put d v) w' (Z.join bq s ah):=by
 have nU:∀k,(look k s.b).isSome->(look k st.b).isSome:=fun k ad=>by obtain⟨cs,dg⟩:=fP.1 ad;simp[(ab k cs dg).1]
 have lG:∀k,(look k s.e).isSome->(look k st.e).isSome:=fun k ad=>by obtain⟨cs,dg⟩:=fP.1 ad;simp[(he k cs dg).1]
 have afm:∀k,(look k ah.b).isSome->¬(look k s.b).isSome->Z.bx k=none:=fun k ad az=>by
  cases k with
  |loc m=>rw[td.1 m]at ad;cases ad
  |obj m=>exact(h.new (.obj m) ⟨trivial,(J9 m ad).resolve_left az⟩).1
 have afn:∀k,(look k ah.e).isSome->¬(look k s.e).isSome->Z.ow k=none:=fun k ad az=>by
  cases k with
  |loc m=>rw[td.2 m]at ad;cases ad
  |obj m=>exact(h.new (.obj m) ⟨trivial,(cF m ad).resolve_left az⟩).2.1
 have agD:∀k,(look k s.b).isSome->(Z.join bq s ah).bx k=bq.bx k:=fun k ad=>by simp[bc.join,ad]
 have TA:∀k,(look k ah.b).isSome->(Z.join bq s ah).bx k=bq.bx k:=fun k ad=>by simp[bc.join,ad]
 have TB:∀k,Z.bx k≠none->¬(look k s.b).isSome->(Z.join bq s ah).bx k=Z.bx k:=fun k J U=>by have al:¬(look k ah.b).isSome:=fun al=>J (afm k al U);simp[bc.join,U,al]
 have agE:∀k,(look k s.e).isSome->(Z.join bq s ah).ow k=bq.ow k:=fun k ad=>by simp[bc.join,ad]
 have KM:∀k,(look k ah.e).isSome->(Z.join bq s ah).ow k=bq.ow k:=fun k ad=>by simp[bc.join,ad]
 have KN:∀k,Z.ow k≠none->¬(look k s.e).isSome->(Z.join bq s ah).ow k=Z.ow k:=fun k J U=>by have al:¬(look k ah.e).isSome:=fun al=>J (afn k al U);simp[bc.join,U,al]
 have XV:∀k b,bq.bx k=some b->(look k ah.b).isSome:=fun k b ad=>by
  cases au:look k ah.b with
  |some _=>rfl
  |none=>rw[(ae k).1 au]at ad;cases ad
 have XW:∀k b,bq.ow k=some b->(look k ah.e).isSome:=fun k b ad=>by
  cases au:look k ah.e with
  |some _=>rfl
  |none=>rw[(ae k).2.1 au]at ad;cases ad
 have aw:lx w Z w' (Z.join bq s ah):=by
  refine⟨fun b o bj=>aO.keep b o bj,fun k b _ ad=>?_,fun g n u _ aW=>?_,fun b o bj=>aO.sh b o bj,fun _ _ _ _ h=>.inl h⟩
  ·by_cases af:(look k s.b).isSome
   ·rw[agD k af];cases k with
    |loc m=>rw[uC.1 m]at af;cases af
    |obj m=>exact aO.obj m b (by rw[bc.cut_bx (.inl af)];exact ad)
   ·rw[TB k (by rw[ad];simp) af];exact ad
  ·by_cases af:(look g s.e).isSome
   ·rw[agE g af];cases g with
    |loc m=>rw[uC.2 m]at af;cases af
    |obj m=>exact aO.row m n u (by rw[bc.cut_ow (.inr af)];exact aW)
   ·rw[KN g (by rw[aW];simp) af];exact⟨n,u,aW,.inl ⟨rfl,rfl⟩⟩
 have hQ:lx w' bq w' (Z.join bq s ah):=⟨fun b o bj=>⟨bj,rfl⟩,fun k b _ ad=>by rw[TA k (XV k b ad)];exact ad,fun g n u _ ad=>⟨n,u,by rw[KM g (XW g _ ad)];exact ad,.inl ⟨rfl,rfl⟩⟩,fun _ _ _=>rfl,fun _ _ _ _ h=>.inr h⟩
 have p0:∀bl,fx (Z.cut (inObs s)) s bl->C.pr bl/\bl<w.heap.size:=by
  intro bl fk;rcases fk with⟨k,J,U⟩|⟨g,n,u,J,U,al⟩
  ·have a1:=(bc.cut_some U).2;obtain⟨cs,dg⟩:=fP.1 (nU k J);obtain⟨iD,us,el,g1,g2,_⟩:=h.good.box k cs dg;rw[a1]at g1;cases g1;exact⟨g2,h.good.boxLt dg a1⟩
  ·have a1:=(bc.cut_someO U).2;obtain⟨o,FL⟩:=fP.1 (lG g J);obtain⟨v',us,g1,g2,g3,_⟩:=h.good.own g o FL;rw[a1]at g1;cases g1;exact⟨(g3 bl al).1,h.good.ownLt FL a1 al⟩
 have S0:∀bl,fx (Z.cut (inObs s)) s bl\/w.heap.size<=bl->C.pr bl:=fun bl fk=>by
  rcases fk with fk|fk
  ·exact(p0 bl fk).1
  ·exact .inr (gZ h.fr.size fk)
 have afJ:∀k cs bl,look k st.b=some cs->¬(look k s.b).isSome->Z.bx k=some bl->¬fx (Z.cut (inObs s)) s bl:=by
  intro k cs bl J U al a1;rcases a1 with⟨bN,bz,a2⟩|⟨g,n,u,bz,a2,a3⟩
  ·have:=h.good.inj k bN bl (by simp[J]) (nU bN bz) al (bc.cut_some a2).2;subst this;exact U bz
  ·exact h.good.obx g k n u bl (lG g bz) (by simp[J]) (bc.cut_someO a2).2 a3 al
 have afK:∀g o n u bl,look g st.e=some o->¬(look g s.e).isSome->Z.ow g=some (n,u)->u.ownBlock=some bl->¬fx (Z.cut (inObs s)) s bl:=by
  intro g o n u bl J U al a1 bW;rcases bW with⟨bN,bz,a2⟩|⟨fc,n',e3,bz,a2,a3⟩
  ·exact h.good.obx g bN n u bl (by simp[J]) (nU bN bz) al a1 (bc.cut_some a2).2
  ·have:=h.good.oinj g fc n n' u e3 bl (by simp[J]) (lG fc bz) al (bc.cut_someO a2).2 a1 a3;subst this;exact U bz
 have Qz:∀k cs,look k (bX s.b st.b++ah.b)=some cs->(¬(look k s.b).isSome/\look k st.b=some cs)\/look k ah.b=some cs:=by
  intro k cs ad;rw[x2,uP]at ad;by_cases af:(look k s.b).isSome
  ·simp only[af,if_true]at ad;exact .inr ad
  ·simp only[af]at ad;cases au:look k st.b with
   |some x=>simp[au]at ad;subst ad;exact .inl ⟨af,rfl⟩
   |none=>simp[au]at ad;exact .inr ad
 have QA:∀k cs,look k (bX s.e st.e++ah.e)=some cs->(¬(look k s.e).isSome/\look k st.e=some cs)\/look k ah.e=some cs:=by
  intro k cs ad;rw[x2,uP]at ad;by_cases af:(look k s.e).isSome
  ·simp only[af,if_true]at ad;exact .inr ad
  ·simp only[af]at ad;cases au:look k st.e with
   |some x=>simp[au]at ad;subst ad;exact .inl ⟨af,rfl⟩
   |none=>simp[au]at ad;exact .inr ad
 have AV:∀bl,fx (Z.cut (inObs s)) s bl\/w.heap.size<=bl->∀iD,iD<w.heap.size->¬fx (Z.cut (inObs s)) s iD->bl≠iD:=by
  intro bl J iD U al e;subst e;rcases J with J|J
  ·exact al J
  ·omega
 have KT:∀bl,bl<w.heap.size->¬fx (Z.cut (inObs s)) s bl->w'.heap[bl]? =w.heap[bl]?:=fun bl J U=>aO.block bl J U;have isB:∀k bl,(look k (bX s.b st.b++ah.b)).isSome->(Z.join bq s ah).bx k=some bl->(¬(look k s.b).isSome/\(look k st.b).isSome/\Z.bx k=some bl)\/((look k ah.b).isSome/\bq.bx k=some bl):=by
  intro k bl ad ky;obtain⟨cs,dg⟩:=fP.1 ad;rcases Qz k cs dg with⟨J,U⟩|J
  ·obtain⟨iD,us,el,g1,_⟩:=h.good.box k cs U;rw[TB k (by rw[g1];simp) J]at ky;exact .inl ⟨J,by simp[U],ky⟩
  ·rw[TA k (by simp[J])]at ky;exact .inr ⟨by simp[J],ky⟩
 have F6:∀k x,(look k (bX s.e st.e++ah.e)).isSome->(Z.join bq s ah).ow k=some x->(¬(look k s.e).isSome/\(look k st.e).isSome/\Z.ow k=some x)\/((look k ah.e).isSome/\bq.ow k=some x):=by
  intro k x ad ky;obtain⟨cs,dg⟩:=fP.1 ad;rcases QA k cs dg with⟨J,U⟩|J
  ·obtain⟨v',us,g1,_⟩:=h.good.own k cs U;rw[KN k (by rw[g1];simp) J]at ky;exact .inl ⟨J,by simp[U],ky⟩
  ·rw[KM k (by simp[J])]at ky;exact .inr ⟨by simp[J],ky⟩
 have Bv:∀k bl,¬(look k s.b).isSome->(look k st.b).isSome->Z.bx k=some bl->bl<w.heap.size/\¬fx (Z.cut (inObs s)) s bl:=by intro k bl J U al;obtain⟨cs,dg⟩:=fP.1 U;exact⟨h.good.boxLt dg al,afJ k cs bl dg J al⟩
 have yy:∀k n u bl,¬(look k s.e).isSome->(look k st.e).isSome->Z.ow k=some (n,u)->u.ownBlock=some bl->bl<w.heap.size/\¬fx (Z.cut (inObs s)) s bl:=by intro k n u bl J U al a1;obtain⟨cs,dg⟩:=fP.1 U;exact⟨h.good.ownLt dg al a1,afK k cs n u bl dg J al a1⟩
 have EB:∀k bl,(look k ah.b).isSome->bq.bx k=some bl->fx (Z.cut (inObs s)) s bl\/w.heap.size<=bl:=by intro k bl J U;obtain⟨cs,dg⟩:=fP.1 J;obtain⟨iD,us,el,g1,g2,_⟩:=aW.box k cs dg;rw[U]at g1;cases g1;exact g2
 have Hp:∀k n u bl,(look k ah.e).isSome->bq.ow k=some (n,u)->u.ownBlock=some bl->fx (Z.cut (inObs s)) s bl\/w.heap.size<=bl:=by intro k n u bl J U al;obtain⟨cs,dg⟩:=fP.1 J;obtain⟨v',us,g1,g2,g3,_⟩:=aW.own k cs dg;rw[U]at g1;cases g1;exact(g3 bl al).1
 have bj:∀bl o,bq.A bl o->bl<w.heap.size->¬fx (Z.cut (inObs s)) s bl->Z.A bl o:=by
  intro bl o J U al;rcases aO.fresh bl o J with a1|a1|a1
  ·exact a1
  ·exact absurd a1 al
  ·simp only at a1;omega
 have p4:cS C {t:=st.t,b:=bX s.b st.b++ah.b,e:=bX s.e st.e++ah.e,n:=n',o:=o'} a w' (Z.join bq s ah):=by
  refine h.over aw rfl ⟨aW.alt,fun k cs ad=>?_,fun k bN bl J U al a1=>?_,fun g o er=>?_,fun g fc n n' u e3 bl J U al a1 bW dd=>?_,fun g k n u bl J U al a1 bW=>?_,fun k=>?_,fun bl aI k j lH=>?_⟩
   ⟨aO.os.trans h.fr.os,aO.tape.trans h.fr.tape,aO.output.trans h.fr.output,gZ h.fr.size aO.size,fun k ad hm=>?_,fun b o rF=>?_,fun b o rF=>?_,fun n b az=>aw.bx _ _ trivial (h.fr.obj n b az),h.fr.obn,
    fun m n u hm=>DG (h.fr.row m n u hm) (fun n u=>aw.ow _ n u trivial),h.fr.obr,fun k j bN dD b J U=>?_,fun k j b ab=>?_,fun k j b ab=>?_,fun b o bj=>(aw.sh b o (h.fr.keep b o bj).1).trans (h.fr.sh b o bj)⟩ (fun k ad=>?_)
  ·rcases Qz k cs ad with⟨J,U⟩|J
   ·obtain⟨bl,us,el,g1,g2,g3,g4,g5⟩:=h.good.box k cs U;obtain⟨cf,b9⟩:=Bv k bl J (by simp[U]) g1;exact⟨bl,us,el,aw.bx _ _ trivial g1,g2,fun o rF=>g3 o (bj bl o rF cf b9),by rw[KT bl cf b9];exact g4,qj aw g5⟩
   ·obtain⟨bl,us,el,g1,g2,g3,g4,g5⟩:=aW.box k cs J;exact⟨bl,us,el,hQ.bx _ _ trivial g1,S0 bl g2,g3,g4,qj hQ g5⟩
  ·rcases isB k bl J al with⟨bz,a2,a3⟩|⟨bz,a2⟩<;>rcases isB bN bl U a1 with⟨cf,b9,gb⟩|⟨cf,b9⟩
   ·exact h.good.inj k bN bl a2 b9 a3 gb
   ·obtain⟨bT,cv⟩:=Bv k bl bz a2 a3;exact absurd rfl (AV bl (EB bN bl cf b9) bl bT cv)
   ·obtain⟨bT,cv⟩:=Bv bN bl cf b9 gb;exact absurd rfl (AV bl (EB k bl bz a2) bl bT cv)
   ·exact aW.inj k bN bl bz cf a2 b9
  ·rcases QA g o er with⟨J,U⟩|J
   ·obtain⟨u,us,g1,g2,g3,g4⟩:=h.good.own g o U;refine⟨u,us,by rw[KN g (by rw[g1];simp) J];exact g1,⟨g2.1,?_⟩,fun bl fk=>?_,si aw (fun bl fk j rF=>?_) g4⟩
    ·rcases g2.2 with aF|⟨bb,cap,cur,f1,f2,f3,f4⟩
     ·exact .inl aF
     ·obtain⟨cf,b9⟩:=yy g _ u bb J (by simp[U]) g1 (by rw[f1];rfl);exact .inr ⟨bb,cap,cur,f1,f2,by rw[KT bb cf b9];exact f3,f4⟩
    ·obtain⟨cf,b9⟩:=yy g _ u bl J (by simp[U]) g1 fk;exact⟨(g3 bl fk).1,fun j rF=>(g3 bl fk).2 j (bj bl j rF cf b9)⟩
    ·obtain⟨cf,b9⟩:=yy g _ u bl J (by simp[U]) g1 fk;exact bj bl j rF cf b9
   ·obtain⟨u,us,g1,g2,g3,g4⟩:=aW.own g o J;exact⟨u,us,by rw[KM g (by simp[J])];exact g1,g2,fun bl fk=>⟨S0 bl (g3 bl fk).1,(g3 bl fk).2⟩,si hQ (fun _ _ _ h=>h) g4⟩
  ·rcases F6 g _ J al with⟨bz,a2,a3⟩|⟨bz,a2⟩<;>rcases F6 fc _ U a1 with⟨cf,b9,gb⟩|⟨cf,b9⟩
   ·exact h.good.oinj g fc n n' u e3 bl a2 b9 a3 gb bW dd
   ·obtain⟨bT,cv⟩:=yy g n u bl bz a2 a3 bW;exact absurd rfl (AV bl (Hp fc n' e3 bl cf b9 dd) bl bT cv)
   ·obtain⟨bT,cv⟩:=yy fc n' e3 bl cf b9 gb dd;exact absurd rfl (AV bl (Hp g n u bl bz a2 bW) bl bT cv)
   ·exact aW.oinj g fc n n' u e3 bl bz cf a2 b9 bW dd
  ·rcases F6 g _ J al with⟨bz,a2,a3⟩|⟨bz,a2⟩<;>rcases isB k bl U bW with⟨cf,b9,gb⟩|⟨cf,b9⟩
   ·exact h.good.obx g k n u bl a2 b9 a3 a1 gb
   ·obtain⟨bT,cv⟩:=yy g n u bl bz a2 a3 a1;exact absurd rfl (AV bl (EB k bl cf b9) bl bT cv)
   ·obtain⟨bT,cv⟩:=Bv k bl cf b9 gb;exact absurd rfl (AV bl (Hp g n u bl bz a2 a1) bl bT cv)
   ·exact aW.obx g k n u bl bz cf a2 a1 b9
  ·
   cases ky:(Z.join bq s ah).bx k with
   |none=>exact .inl rfl
   |some bl=>
    right;cases Cw:(Z.join bq s ah).ow k with
    |none=>rfl
    |some x=>
     exfalso;have ao:(Z.bx k=some bl/\¬(look k s.b).isSome/\¬(look k ah.b).isSome)\/bq.bx k=some bl:=by
      by_cases af:(look k s.b).isSome\/(look k ah.b).isSome
      ·right;simpa[bc.join,af]using ky
      ·left;simp only[not_or]at af;exact⟨by simpa[bc.join,af.1,af.2]using ky,af.1,af.2⟩
     have aF:(Z.ow k=some x/\¬(look k s.e).isSome/\¬(look k ah.e).isSome)\/bq.ow k=some x:=by
      by_cases af:(look k s.e).isSome\/(look k ah.e).isSome
      ·right;simpa[bc.join,af]using Cw
      ·left;simp only[not_or]at af;exact⟨by simpa[bc.join,af.1,af.2]using Cw,af.1,af.2⟩
     rcases ao with⟨bz,a2,a3⟩|bz<;>rcases aF with⟨cf,b9,gb⟩|cf
     ·rcases h.good.one k with cw|cw
      ·rw[cw]at bz;cases bz
      ·rw[cw]at cf;cases cf
     ·have uz:=XW k x cf;have e8:(look k s.e).isSome:=by
       cases k with
       |loc m=>rw[td.2 m]at uz;cases uz
       |obj m=>
        rcases cF m uz with cw|cw
        ·exact cw
        ·rw[(h.new (.obj m) ⟨trivial,cw⟩).1]at bz;cases bz
      obtain⟨o,FL⟩:=fP.1 (lG k e8);obtain⟨v',us,g1,_⟩:=h.good.own k o FL;rcases h.good.one k with cw|cw
      ·rw[cw]at bz;cases bz
      ·rw[cw]at g1;cases g1
     ·have vH:=XV k bl bz;have e8:(look k s.b).isSome:=by
       cases k with
       |loc m=>rw[td.1 m]at vH;cases vH
       |obj m=>
        rcases J9 m vH with cw|cw
        ·exact cw
        ·rw[(h.new (.obj m) ⟨trivial,cw⟩).2.1]at cf;cases cf
      obtain⟨cs,dg⟩:=fP.1 (nU k e8);obtain⟨iD,us,el,g1,_⟩:=h.good.box k cs dg;rcases h.good.one k with cw|cw
      ·rw[cw]at g1;cases g1
      ·rw[cw]at cf;cases cf
     ·rcases aW.one k with cw|cw
      ·rw[cw]at bz;cases bz
      ·rw[cw]at cf;cases cf
  ·have SM:∀k j,bq.tr k j bl->w.heap.size<=bl:=fun k j cw=>by
    rcases(aO.trb k j bl cw).1 with a2|a2
    ·obtain⟨m,_,hm⟩:=(ae k).2.2 j bl cw;rw[hm]at a2;cases a2
    ·exact a2
   have hold:fx (Z.cut (inObs s)) s bl->¬Z.tr k j bl:=by
    rintro(⟨bN,bz,a2⟩|⟨g,n,u,bz,a2,a3⟩) cw
    ·exact h.good.otr bl (.inl ⟨bN,nU bN bz,(bc.cut_some a2).2⟩) k j cw
    ·exact h.good.otr bl (.inr ⟨g,n,u,lG g bz,(bc.cut_someO a2).2,a3⟩) k j cw
   have jY:fx (Z.cut (inObs s)) s bl\/w.heap.size<=bl->¬Z.tr k j bl:=by
    rintro(J|J) cw
    ·exact hold J cw
    ·have:=(h.fr.trb k j bl cw).2;omega
   rcases aI with⟨bN,bz,a2⟩|⟨g,n,u,bz,a2,a3⟩
   ·rcases isB bN bl bz a2 with⟨cf,b9,gb⟩|⟨cf,b9⟩
    ·rcases lH with lH|lH
     ·exact h.good.otr bl (.inl ⟨bN,b9,gb⟩) k j lH
     ·have:=(Bv bN bl cf b9 gb).1;have:=SM k j lH;omega
    ·rcases lH with lH|lH
     ·exact jY (EB bN bl cf b9) lH
     ·exact aW.otr bl (.inl ⟨bN,cf,b9⟩) k j lH
   ·rcases F6 g _ bz a2 with⟨cf,b9,gb⟩|⟨cf,b9⟩
    ·rcases lH with lH|lH
     ·exact h.good.otr bl (.inr ⟨g,n,u,b9,gb,a3⟩) k j lH
     ·have:=(yy g n u bl cf b9 gb a3).1;have:=SM k j lH;omega
    ·rcases lH with lH|lH
     ·exact jY (Hp g n u bl cf b9 a3) lH
     ·exact aW.otr bl (.inr ⟨g,n,u,cf,b9,a3⟩) k j lH
  ·have bt:k<w.heap.size:=Nat.lt_of_lt_of_le ad h.fr.size;rw[KT k bt fun fk=>by
    rcases(p0 k fk).1 with J|J
    ·exact hm J
    ·omega]
   exact h.fr.block k ad hm
  ·obtain⟨aX,bg⟩:=h.fr.keep b o rF;obtain⟨b6,cT⟩:=aO.keep b o aX;exact⟨b6,cT.trans bg⟩
  ·rcases aO.fresh b o rF with a1|a1|a1
   ·exact h.fr.fresh b o a1
   ·exact .inr (p0 b a1).1
   ·exact .inr (.inr (gZ h.fr.size a1))
  ·rcases J with J|J<;>rcases U with U|U
   ·exact h.fr.trd k j bN dD b J U
   ·have bz:=(h.fr.trb k j b J).2;have a2:=(aO.trb bN dD b U).1;rcases a2 with a2|a2
    ·obtain⟨m,_,hm⟩:=(ae bN).2.2 dD b U;rw[hm]at a2;cases a2
    ·simp only at a2;omega
   ·have bz:=(h.fr.trb bN dD b U).2;have a2:=(aO.trb k j b J).1;rcases a2 with a2|a2
    ·obtain⟨m,_,hm⟩:=(ae k).2.2 j b J;rw[hm]at a2;cases a2
    ·simp only at a2;omega
   ·exact aO.trd k j bN dD b J U
  ·rcases ab with ab|ab
   ·exact⟨(h.fr.trb k j b ab).1,Nat.lt_of_lt_of_le (h.fr.trb k j b ab).2 aO.size⟩
   ·refine⟨.inr ?_,(aO.trb k j b ab).2⟩;rcases(aO.trb k j b ab).1 with a2|a2
    ·obtain⟨m,_,hm⟩:=(ae k).2.2 j b ab;rw[hm]at a2;cases a2
    ·exact gZ h.fr.size a2
  ·have key:Z.bx k=none/\Z.ow k=none/\¬(look k ah.b).isSome/\¬(look k ah.e).isSome:=by
    rcases ab with ab|ab
    ·obtain⟨t1,t2⟩:=h.fr.trn k j b ab;refine⟨t1,t2,fun cw=>?_,fun cw=>?_⟩
     ·cases k with
      |loc m=>rw[td.1 m]at cw;cases cw
      |obj m=>
       rcases J9 m cw with bW|bW
       ·obtain⟨cs,dg⟩:=fP.1 (nU _ bW);obtain⟨iD,us,el,g1,_⟩:=h.good.box _ cs dg;rw[t1]at g1;cases g1
       ·exact(h.new (.obj m) ⟨trivial,bW⟩).2.2 j b ab
     ·cases k with
      |loc m=>rw[td.2 m]at cw;cases cw
      |obj m=>
       rcases cF m cw with bW|bW
       ·obtain⟨cs,dg⟩:=fP.1 (lG _ bW);obtain⟨iD,us,g1,_⟩:=h.good.own _ cs dg;rw[t2]at g1;cases g1
       ·exact(h.new (.obj m) ⟨trivial,bW⟩).2.2 j b ab
    ·obtain⟨m,hm,rfl⟩:=(ae k).2.2 j b ab;obtain⟨t1,t2,_⟩:=af4 m hm;exact⟨t1,t2,by simp[td.1 m],by simp[td.2 m]⟩
   obtain⟨t1,t2,t3,t4⟩:=key;have t5:¬(look k s.b).isSome:=fun cw=>by obtain⟨cs,dg⟩:=fP.1 (nU _ cw);obtain⟨iD,us,el,g1,_⟩:=h.good.box _ cs dg;rw[t1]at g1;cases g1
   have t6:¬(look k s.e).isSome:=fun cw=>by obtain⟨cs,dg⟩:=fP.1 (lG _ cw);obtain⟨iD,us,g1,_⟩:=h.good.own _ cs dg;rw[t2]at g1;cases g1
   exact⟨by simp[bc.join,t3,t5,t1],by simp[bc.join,t4,t6,t2]⟩
  ·
   simp only at ad;obtain⟨ad,ae7⟩:=c8 k ad;have SR:(∀j b,¬Z.tr k j b)->∀j b,¬(Z.join bq s ah).tr k j b:=fun J j b ab=>by
    rcases ab with ab|ab
    ·exact J j b ab
    ·obtain⟨m,hm,e⟩:=(ae k).2.2 j b ab;exact ae7 m hm e
   cases k with
   |loc m=>obtain⟨iw,gj,jl⟩:=h.new (.loc m) (Jr (eC _) (fun _ h=>List.mem_append_left _ h) ad);exact⟨by simp[bc.join,uC.1 m,td.1 m,iw],by simp[bc.join,uC.2 m,td.2 m,gj],SR jl⟩
   |obj m=>
    simp only[fresh,h9,not_or,true_and]at ad;obtain⟨iw,gj,jl⟩:=h.new (.obj m) ⟨trivial,ad.1⟩;have aZ:¬(look (.obj m) ah.b).isSome:=fun cw=>ad.2 (tz (.inl cw));have bm:¬(look (.obj m) ah.e).isSome:=fun cw=>ad.2 (tz (.inr cw));have bP:¬(look (.obj m) s.b).isSome:=fun cw=>by obtain⟨cs,dg⟩:=fP.1 (nU _ cw);obtain⟨iD,us,el,g1,_⟩:=h.good.box _ cs dg;rw[iw]at g1;cases g1
    have cP:¬(look (.obj m) s.e).isSome:=fun cw=>by obtain⟨cs,dg⟩:=fP.1 (lG _ cw);obtain⟨v',us,g1,_⟩:=h.good.own _ cs dg;rw[gj]at g1;cases g1
    exact⟨by simp[bc.join,aZ,bP,iw],by simp[bc.join,bm,cP,gj],SR jl⟩
 exact p4.put aG (yv hQ aK)
inductive ed where
 |s (i:ei)
 |call (d:Option Nat) (f:dp) (xs:List dp)
 |next (d:Nat) (x:dp)
structure c5 where
 g:Option (Nat×Bool)
 i:ed
def ei.dst:ei->Option Nat
 | .v d _| .box d _ _| .alloc d _ _| .bsl d _ _ _| .app d _ _ _ _| .bslm d _ _ _ _| .appm d _ _ _ _ _| .mkmap d _| .range d _ _| .mks d _ _ _ _ _=>some d
 | .store _ _ _| .mput _ _ _ _| .storeE _ _ _=>none
def ed.dst:ed->Option Nat
 | .s i=>i.dst
 | .call d _ _=>d
 | .next d _=>some d
def cA(P:cG)(n:Nat)(args:List ai)(st:bo)(d:Option Nat)(K:bo->Prop):Prop:=
 (∃s Q,gV (inObs s) s.b st.b/\nz (inObs s) s.e st.e/\iX s/\aP (inObs s) args/\bJ P n args s Q/\
  ∀r ah,Q r ah->((∀m,(look (.obj m) ah.b).isSome->(look (.obj m) s.b).isSome\/ .obj m∉st.o)/\(∀m,(look (.obj m) ah.e).isSome->(look (.obj m) s.e).isSome\/ .obj m∉st.o))/\K (after st s ah d r))\/
 (∃s Q,gV (inObs s) s.b st.b/\nz (inObs s) s.e st.e/\iX s/\aP (inObs s) args/\ .loc st.n∉st.o/\HW P n st.n args s Q/\
  ∀r ah,Q r ah->((∀m,(look (.obj m) ah.b).isSome->(look (.obj m) s.b).isSome\/ .obj m∉st.o)/\(∀m,(look (.obj m) ah.e).isSome->(look (.obj m) s.e).isSome\/ .obj m∉st.o))/\K {after st s ah d r with n:=st.n+1})
def Ly(st:bo)(d:Nat)(fl mk:aL)(since:Nat)(seen:List Nat)(last clock:Nat)(borns:List Nat)(kvs:List ai)(K:bo->Prop):Prop:=
 (since=clock/\last=clock)/\((∀b∈borns,b∈seen)->K {st with t:=put d (.tuple [.bool false]) st.t})/\
 (∀b k v,mO b borns kvs=some (.tuple [k,v])->b∉seen->K {st with t:=put d (.tuple [.bool true,k,v]) st.t,b:=cy fl [.hdi since (seen++[b]) last,.gmap mk] st.b})
def sS(st:bo)(d:Nat)(v:ai)(K:bo->Prop):Prop:=
 match v with
 | .ptr fl 0=>match look fl st.b with
  |some [.hdi since seen last,.gmap mk]=>match look mk st.b with
   |some (.hdm clock borns::kvs)=>Ly st d fl mk since seen last clock borns kvs K
   |_=>eN
  |_=>eN
 |_=>eN
def ue(P:cG)(st:bo)(K:bo->Prop):ed->Prop
 | .next d x=>sS st d (cm st.t x) K
 | .s i=>match me st i with
  |some (c,st')=>c/\K st'
  |none=>eN
 | .call d f xs=>match cm st.t f with
  | .func n dk=>cA P n (dr (xs.map (cm st.t)++dk)) st d K
  |_=>eN
def h0(P:cG):List c5->bo->(bo->Prop)->Prop
 |[],st,K=>K st
 |⟨none,i⟩::r,st,K=>ue P st (fun st'=>h0 P r st' K) i
 |⟨some (s,want),i⟩::r,st,K=>match get s st.t with
  | .bool b=>(b=want->ue P {st with t:=put s (.bool want) st.t} (fun st'=>h0 P r st' K) i)/\(b= !want->h0 P r {st with t:=eM i.dst (.tuple []) (put s (.bool !want) st.t)} K)
  | .tuple []=>h0 P r {st with t:=eM i.dst (.tuple []) st.t} K
  |_=>eN
def uY(N:Nat)(bB:List (Nat×dA))(i:ed)(o:Oper):Bool:=
 match i with
 | .s i=>DI N bB i o
 | .next d x=>match o.op with
  | .next it false=>o.dst==some d&&decide (d<N)&&eg x it
  |_=>false
 | .call d f xs=>match o.op with
  | .call ⟨.value rz,args,_⟩=>o.dst==d&&jt N d&&eg f rz&&yh xs args.toList
  |_=>false
def BS(N:Nat)(bB:List (Nat×dA))(ops:List Oper)(g:c5)(o:Oper):Bool:=
 (match g.g,o.guard with
  |none,none=>true
  |some (s,b),some (j,b0)=>b==b0&&((ops[j]?).bind (·.dst))==some s&&decide (s<N)&&o.dst==g.i.dst&&jt N g.i.dst
  |_,_=>false)&&uY N bB g.i o
def kx(N:Nat)(bB:List (Nat×dA))(ops:List Oper):List c5->List Oper->Bool
 |[],[]=>true
 |g::gs,o::os=>BS N bB ops g o&&kx N bB ops gs os
 |_,_=>false
theorem WD{w:World}{Z:bc}:∀{cz bC:List ai} {ba us:List Value},cR w Z cz ba->cR w Z bC us->cR w Z (cz++bC) (ba++us)
 |[],bC,ba,us,h,ck=>by simp only[cR]at h;subst h;simpa using ck
 |p::cz,bC,ba,us,h,ck=>by simp only[cR]at h;obtain⟨u,ch,rfl,J,U⟩:=h;simp only[bV,cR];exact⟨u,_,rfl,J,WD U ck⟩
theorem w5.mono{P:cG}{f:FuncId}{ba:Array Value}{w:World}{R NR:Ending->World->Prop}(h:w5 P f ba w R)(bS:∀e w',R e w'->NR e w'):w5 P f ba w NR:=by
 rcases h with⟨J,U⟩|⟨v,w',J,U⟩
 ·exact .inl ⟨J,U.mono bS⟩
 ·exact .inr ⟨v,w',J,bS _ _ U⟩
theorem Qx{P:cG}{C:fa}{st:bo}{a:Act}{w:World}{Z:bc}(aK:cS C st a w Z){o:Oper}{rz:Operand}{args:Array Operand}{ea:Array gG}(nj:o.op= .call ⟨.value rz,args,ea⟩){d:Option Nat}(aG:o.dst=d)(xC:jt C.N d=true)
  {n:Nat} {dk:List ai} (aO:bd w Z (.func n dk) (a.eval rz)) {cz:List ai} (uo:cR w Z cz (args.toList.map a.eval)) {K:bo->Prop}
  (aq:∃(s:cM) (qv:ai->cM->Prop) (κ:Option Nat) (n':Nat) (o':cM->List aL),gV (inObs s) s.b st.b/\nz (inObs s) s.e st.e/\iX s/\aP (inObs s) (dr (cz++dk))/\(∀(w:World) (Z:bc) (ba:Array Value),Good (fx Z s) w Z s.b s.e->pe Z s->cR w Z (dr (cz++dk)) ba.toList->
   w5 P n ba w fun e w'=> ∃v r ah bq,e= .returned v/\qv r ah/\bd w' bq r v/\Good (fun bl=>fx Z s bl\/w.heap.size<=bl) w' bq ah.b ah.e/\E5 κ bq ah/\iX ah/\qt ⟨w,Z,fx Z s,0,cX s⟩ w' bq)/\
   (∀m,κ=some m->fresh st.n st.o (.loc m))/\(∀k r ah,qv r ah->fresh n' (o' ah) k->fresh st.n (st.o++cX ah) k/\∀m,κ=some m->k≠ .loc m)/\
   ∀r ah,qv r ah->((∀m,(look (.obj m) ah.b).isSome->(look (.obj m) s.b).isSome\/ .obj m∉st.o)/\(∀m,(look (.obj m) ah.e).isSome->(look (.obj m) s.e).isSome\/ .obj m∉st.o))/\K {after st s ah d r with n:=n',o:=o' ah})
  {ri:Act->World->Prop} {Q:Exit->Act->World->Prop} (c2:∀st' bp w' bq,K st'->cS C st' bp w' bq->ri bp w'):o.wp P a w ri Q:=by
 obtain⟨s,qv,κ,n',o',bT,cv,dj,ks,lV,QK,QD,o8⟩:=aq;simp only[bd]at aO;obtain⟨us,av,hu⟩:=aO;have mG:cR w (Z.cut (inObs s)) (dr (cz++dk)) ((args.map a.eval)++us).toList:=by refine yu (oi.cut _ w Z) _ _ ks (Hn _ _ ?_);simpa using WD uo hu
 have rO:Good (fx (Z.cut (inObs s)) s) w (Z.cut (inObs s)) s.b s.e:=aK.good.cut bT cv (fun bl _ h=>h);have hex:pe (Z.cut (inObs s)) s:=by
  intro k;refine⟨?_,?_,?_⟩;rotate_left 2
  ·rintro j b ⟨af,ab⟩;obtain⟨t1,t2⟩:=aK.fr.trn k j b ab;rcases af with af|af<;>obtain⟨x,ae⟩:=fP.1 af
   ·obtain⟨bl,ch,el,ao,_⟩:=aK.good.box k x (bT k x ae).1;rw[t1]at ao;cases ao
   ·obtain⟨v',ch,ao,_⟩:=aK.good.own k x (cv k x ae).1;rw[t2]at ao;cases ao
  ·intro au;by_cases af:inObs s k
   ·rw[bc.cut_bx af];rcases af with af|af
    ·rw[au]at af;cases af
    ·obtain⟨x,ae⟩:=fP.1 af;obtain⟨v',ch,ao,_⟩:=aK.good.own k x (cv k x ae).1;rcases aK.good.one k with J|J
     ·exact J
     ·rw[J]at ao;cases ao
   ·exact(bc.cut_no af).1
  ·intro au;by_cases af:inObs s k
   ·rw[bc.cut_ow af];rcases af with af|af
    ·obtain⟨x,ae⟩:=fP.1 af;obtain⟨bl,ch,el,ao,_⟩:=aK.good.box k x (bT k x ae).1;rcases aK.good.one k with J|J
     ·rw[J]at ao;cases ao
     ·exact J
    ·rw[au]at af;cases af
   ·exact(bc.cut_no af).2.1
 rcases lV w (Z.cut (inObs s)) ((args.map a.eval)++us) rO hex mG with⟨⟨fn,g1,g2,g3⟩,lV⟩|⟨v,w',lV,bL⟩
 ·obtain⟨code,aeE⟩:=fP.1 g2;have iV:(execOp a.eval o).run P w= .ok (.enter n ((args.map a.eval)++us)) w:=by obtain⟨dst,op,ty,pos,NZ,vz⟩:=o;simp only at nj;subst nj;simp only[execOp,resolve,av,Deferred.ofValue,fH,gq,fO,invoke,callFunc,run_program,g1,g3,aeE];simp
  unfold Oper.wp;rw[iV];simp only[Oper.upon];refine lV.mono fun e w' bL=>?_;obtain⟨v,r,ah,bq,rfl,bI,aZ,bm,bP,cP,cZ⟩:=bL;obtain⟨⟨iw,gj⟩,ad⟩:=o8 r ah bI;rw[aG];exact c2 _ _ _ _ ad (aK.callK bT cv dj bm bP (fun m hm=>aK.new _ (QK m hm)) (n':=n') (o':=o' ah) (fun k ad=>QD k r ah bI ad) cP cZ iw gj d xC aZ)
 ·have iV:(execOp a.eval o).run P w= .ok (.value v) w':=by obtain⟨dst,op,ty,pos,NZ,vz⟩:=o;simp only at nj;subst nj;simp only[execOp,resolve,av,Deferred.ofValue,fH,gq,fO,invoke];simpa using lV
  obtain⟨v2,r,ah,bq,CH,bI,aZ,bm,bP,cP,cZ⟩:=bL;cases CH;obtain⟨⟨iw,gj⟩,ad⟩:=o8 r ah bI;refine mi iV ?_;rw[aG];exact c2 _ _ _ _ ad (aK.callK bT cv dj bm bP (fun m hm=>aK.new _ (QK m hm)) (n':=n') (o':=o' ah) (fun k ad=>QD k r ah bI ad) cP cZ iw gj d xC aZ)
theorem Qw{P:cG}{C:fa}{st:bo}{a:Act}{w:World}{Z:bc}(aK:cS C st a w Z){o:Oper}{rz:Operand}{args:Array Operand}{ea:Array gG}(nj:o.op= .call ⟨.value rz,args,ea⟩){d:Option Nat}(aG:o.dst=d)(xC:jt C.N d=true)
  {n:Nat} {dk:List ai} (aO:bd w Z (.func n dk) (a.eval rz)) {cz:List ai} (uo:cR w Z cz (args.toList.map a.eval)) {K:bo->Prop} (aq:cA P n (dr (cz++dk)) st d K)
  {ri:Act->World->Prop} {Q:Exit->Act->World->Prop} (c2:∀st' bp w' bq,K st'->cS C st' bp w' bq->ri bp w'):o.wp P a w ri Q:=by
 refine Qx aK nj aG xC aO uo (K:=K) ?_ c2;rcases aq with⟨s,qv,bT,cv,dj,ks,lV,o8⟩|⟨s,qv,bT,cv,dj,ks,uc,lV,o8⟩
 ·refine⟨s,qv,none,st.n,fun ah=>st.o++cX ah,bT,cv,dj,ks,fun w Z ba J U al=>(lV w Z ba J U al).mono fun e w' bL=>?_,fun m hm=>(by cases hm),fun k _ ah _ ad=>⟨ad,fun m hm=>by cases hm⟩,o8⟩;obtain⟨v,r,ah,bq,g1,g2,g3,g4,g5,g6⟩:=bL;exact⟨v,r,ah,bq,g1,g2,g3,g4,g5.k,g6⟩
 ·refine⟨s,qv,some st.n,st.n+1,fun ah=>st.o++cX ah,bT,cv,dj,ks,lV,fun m hm=>(by cases hm;exact⟨eC _,uc⟩),fun k _ ah _ ad=>⟨Jr (Nat.le_succ _) (fun _ h=>h) ad,fun m hm=>?_⟩,o8⟩;cases hm;rintro rfl;have:=ad.1;simp only at this;omega
theorem cS.drawn{C:fa}{st:bo}{a:Act}{w:World}{Z:bc}(aK:cS C st a w Z)(n:Nat):cS C st a {w with drawn:=n} Z:=by
 have kT:lx w Z {w with drawn:=n} Z:=⟨fun _ _ h=>⟨h,rfl⟩,fun _ _ _ h=>h,fun _ n u _ h=>⟨n,u,h,.inl ⟨rfl,rfl⟩⟩,fun _ _ _=>rfl,fun _ _ _ _ h=>h⟩;refine aK.over kT rfl ⟨aK.good.alt,fun k cs ad=>?_,aK.good.inj,fun g o aW=>?_,aK.good.oinj,aK.good.obx,aK.good.one,aK.good.otr⟩ ⟨aK.fr.os,aK.fr.tape,aK.fr.output,aK.fr.size,aK.fr.block,aK.fr.keep,aK.fr.fresh,aK.fr.obj,aK.fr.obn,aK.fr.row,aK.fr.obr,aK.fr.trd,aK.fr.trb,aK.fr.trn,aK.fr.sh⟩ aK.new
 ·obtain⟨bl,us,el,J,U,al,a1,bW⟩:=aK.good.box k cs ad;exact⟨bl,us,el,J,U,al,a1,qj kT bW⟩
 ·obtain⟨v,us,J,U,al,a1⟩:=aK.good.own g o aW;exact⟨v,us,J,U,al,si kT (fun _ _ _ h=>h) a1⟩
theorem acX{α:Type}{l:List α}{p:α->Bool}(h:∀x∈l,p x=false):l.filter p=[]:=by rw[List.filter_eq_nil_iff];intro x ae;simp[h x ae]
theorem acW{α:Type}{l:List α}{p:α->Bool}(h:∀x∈l,p x=true):l.filter p=l:=List.filter_eq_self.2 h
def GA(r m since clock:Nat)(seen:Array Nat)(Qy:Array (Option MapEntry)):Sem Value:=do
 match Qy[<-choose (.mapNext Qy.size)]? with
 |some (some e)=>
  setObj r (.mapIter (some m) since (seen.push e.born) clock)
  pure (.tuple #[.bool true,e.key,e.val])
 |some none=>pure (.tuple #[.bool false])
 |none=>stuck "Next: no such candidate"
theorem WQ{P:cG}{w:World}(r m since clock:Nat)(seen:Array Nat)(l:List (Option MapEntry))(au:l≠[]):∃n x,x∈l/\(GA r m since clock seen l.toArray).run P w=
  (match x with|some e=>(do setObj r (.mapIter (some m) since (seen.push e.born) clock);pure (.tuple #[.bool true,e.key,e.val]):Sem Value)|none=>pure (.tuple #[.bool false])).run P {w with drawn:=n}:=by
 have fB:0<l.length:=List.length_pos_iff.2 au;unfold GA;have key:∀i,i<l.length->∀w',((do match(l.toArray[i]?:Option (Option MapEntry))with
   |some (some e)=>setObj r (.mapIter (some m) since (seen.push e.born) clock);pure (.tuple #[.bool true,e.key,e.val])
   |some none=>pure (.tuple #[.bool false])
   |none=>stuck "Next: no such candidate" :Sem Value)).run P w'=((match l[i]! with|some e=>(do setObj r (.mapIter (some m) since (seen.push e.born) clock);pure (.tuple #[.bool true,e.key,e.val]):Sem Value)|none=>pure (.tuple #[.bool false]))).run P w':=by
  intro i hi w';have J:l.toArray[i]? =some l[i]!:=by simp[hi]
  rw[J];cases l[i]!<;>rfl
 by_cases aO:(Question.mapNext l.length).forced=true
 ·refine⟨w.drawn,l[0]!,by simp[fB],?_⟩;rw[<-key 0 fB];have aq:(choose (.mapNext l.length):Sem Nat).run P w= .ok 0 w:=by simp[aO]
  simp only[List.size_toArray,fH,aq,fO]
 ·refine⟨w.drawn+1,l[(w.tape w.drawn (.mapNext l.length))%l.length]!,by simp[Nat.mod_lt _ fB],?_⟩;rw[<-key _ (Nat.mod_lt _ fB)];have aq:(choose (.mapNext l.length):Sem Nat).run P w= .ok ((w.tape w.drawn (.mapNext l.length))%l.length) {w with drawn:=w.drawn+1}:=by simp[aO,Question.cut]
  simp only[List.size_toArray,fH,aq,fO]
theorem akX{P:cG}{w:World}{bl mb:Nat}{seen:List Nat}{es:List MapEntry}{clock:Nat}{ty:gG}(J:w.heap[bl]? =some (.mapIter (some mb) clock seen.toArray clock))(U:w.heap[mb]? =some (.map es.toArray clock))(bt:∀e∈es,e.born<clock):
  ∃n,((∀e∈es,e.born∈seen)/\(Instr.next (.pointer (some ⟨bl,0,none⟩)) false ty).run P w= .ok (.tuple #[.bool false]) {w with drawn:=n})\/
   ∃e∈es,e.born∉seen/\(Instr.next (.pointer (some ⟨bl,0,none⟩)) false ty).run P w= .ok (.tuple #[.bool true,e.key,e.val]) {w with drawn:=n,heap:=w.heap.setIfInBounds bl (.mapIter (some mb) clock (seen++[e.born]).toArray clock)}:=by
 have fY:(!seen.toArray.isEmpty&& !es.toArray.isEmpty&&es.toArray.all (fun e=>decide (e.born≥clock)))=false:=by
  cases es with
  |nil=>simp
  |cons e r=>have:=bt e Ψ;simp;intro _ h;omega
 generalize fe:(es.filter fun e=> !seen.contains e.born)=left;have afa:(es.toArray.filter fun e=> !seen.toArray.contains e.born)=left.toArray:=by rw[<-fe];simp
 have jI:∀e∈left,e∈es/\e.born∉seen:=fun e he=>by rw[<-fe]at he;have:=iA.1 he;exact⟨this.1,by simpa using this.2⟩
 have hold:(left.toArray.filter fun e=>decide (e.born<clock))=left.toArray:=by rw[List.filter_toArray,acW];intro e he;have:=bt e (jI e he).1;simp[this]
 have jY:(left.toArray.filter fun e=>decide (e.born≥clock))= #[]:=by rw[List.filter_toArray,acX];intro e he;have:=bt e (jI e he).1;simp;omega
 have iV:(Instr.next (.pointer (some ⟨bl,0,none⟩)) false ty).run P w=(GA bl mb clock clock seen.toArray ((if left.toArray.isEmpty then #[none]else #[])++(left.toArray++ #[]).map some)).run P w:=by unfold Instr.next GA;simp only[fH,u6 J,u6 U,fO,fY,afa,hold,jY,gF,if_false];rfl
 rw[iV];by_cases zD:left=[]
 ·subst zD;obtain⟨n,x,g1,g2⟩:=WQ (P:=P) (w:=w) bl mb clock clock seen.toArray [none] Ψ;refine⟨n,.inl ⟨fun e he=>?_,?_⟩⟩
  ·have:=List.filter_eq_nil_iff.1 fe e he;simpa using this
  ·simp only[kg]at g1;subst g1;have aq:((if(([]:List MapEntry).toArray).isEmpty then #[none]else #[])++(([]:List MapEntry).toArray++ #[]).map some)=[none].toArray:=by simp
   rw[aq,g2];rfl
 ·have aq:((if left.toArray.isEmpty then #[none]else #[])++(left.toArray++ #[]).map some)=(left.map some).toArray:=by simp[zD]
  obtain⟨n,x,g1,g2⟩:=WQ (P:=P) (w:=w) bl mb clock clock seen.toArray (left.map some) (by simpa using zD);simp only[ia]at g1;obtain⟨e,he,rfl⟩:=g1;refine⟨n,.inr ⟨e,(jI e he).1,(jI e he).2,?_⟩⟩;rw[aq,g2];simp only[fH];rw[DH (w:={w with drawn:=n}) (o:= .mapIter (some mb) clock seen.toArray clock) J];simp
theorem I3:∀{borns:List Nat} {us:List Value} {e:MapEntry},e∈fy borns us->e.born∈borns
 |[],us,e,h=>by simp[fy]at h
 |b::eP,[],e,h=>by simp[fy]at h
 |b::eP,[_],e,h=>by simp[fy]at h
 |b::eP,k::v::us,e,h=>by
  simp only[fy,fI]at h;rcases h with rfl|h
  ·simp
  ·exact og _ (I3 h)
theorem QW:∀{borns:List Nat} {kvs:List ai} {us:List Value},kvs.length=2*borns.length->us.length=kvs.length->∀{b:Nat},b∈borns->∃e∈fy borns us,e.born=b
 |[],_,_,_,_,b,ab=>by simp at ab
 |b0::eP,kvs,[],J,U,b,ab=>by rw[J]at U;simp at U
 |b0::eP,kvs,[_],J,U,b,ab=>by rw[J]at U;simp at U;omega
 |b0::eP,kvs,k::v::us,J,U,b,ab=>by
  rcases fI.1 ab with rfl|ab
  ·exact⟨⟨k,v,b⟩,by simp[fy],rfl⟩
  ·obtain⟨e,g1,g2⟩:=QW (kvs:=kvs.drop 2) (us:=us) (borns:=eP) (by simp at J⊢;omega) (by simp at J U⊢;omega) ab;exact⟨e,by simp[fy,g1],g2⟩
theorem Up{w:World}{Z:bc}:∀{borns:List Nat} {kvs:List ai} {us:List Value},kvs.length=2*borns.length->borns.Pairwise (· < ·)->cR w Z kvs us->∀{e:MapEntry},e∈fy borns us->∃k v,mO e.born borns kvs=some (.tuple [k,v])/\bd w Z k e.key/\bd w Z v e.val
 |[],_,_,_,_,_,e,h=>by simp[fy]at h
 |b::eP,[],us,J,_,_,e,_=>by simp at J
 |b::eP,[_],us,J,_,_,e,_=>by simp at J;omega
 |b::eP,k::v::kvs,us,J,U,al,e,h=>by
  simp only[cR]at al;obtain⟨ja,Ni,rfl,eR,jD,sr,rfl,fM,pG⟩:=al;simp only[fy,fI]at h;rw[mS]at U;rcases h with rfl|h
  ·exact⟨k,v,by simp[mO],eR,fM⟩
  ·obtain⟨bN,v',g1,g2,g3⟩:=Up (by simp at J;omega) U.2 pG h;have cF:b≠e.born:=Nat.ne_of_lt (U.1 _ (I3 h));exact⟨bN,v',by simp[mO,cF,g1],g2,g3⟩
theorem ahL{P:cG}{C:fa}{st:bo}{a:Act}{w:World}{Z:bc}(aK:cS C st a w Z){o:Oper}{it:Operand}(nj:o.op= .next it false){d:Nat}(aG:o.dst=some d)(xC:jt C.N (some d)=true){v:ai}(av:bd w Z v (a.eval it)){K:bo->Prop}(he:sS st d v K)
  {ri:Act->World->Prop} {Q:Exit->Act->World->Prop} (c2:∀st' bp w' bq,K st'->cS C st' bp w' bq->ri bp w'):o.wp P a w ri Q:=by
 unfold sS at he;split at he
 ·rename_i fl;split at he
  ·rename_i since seen last mk vF;split at he
   ·rename_i clock borns kvs xL;obtain⟨⟨rfl,rfl⟩,vD,oE⟩:=he;simp only[bd]at av;obtain⟨bl,cf,b9⟩:=av;obtain⟨iD,us,el,aZ,bm,bP,cP,cZ⟩:=aK.good.box fl _ vF;rw[cf]at aZ;cases aZ;obtain⟨mb,ms,aqh,m1,m2,m3,m4,m5⟩:=aK.good.box mk _ xL;simp only[jn,cR]at cZ;obtain⟨u,ch,hu,⟨aqg,eR,rfl⟩,rfl⟩:=cZ;rw[m1]at eR;cases eR;simp only[jP,hu]at cP;simp only[jP]at m4;simp only[jn]at m5;obtain⟨n,l1⟩:=akX (P:=P) (ty:=o.type) cP m4 (fun e he=>m5.2.lt _ (I3 he));have mD:∀v' w',(Instr.next (.pointer (some ⟨bl,0,none⟩)) false o.type).run P w= .ok v' w'->(execOp a.eval o).run P w= .ok (.value v') w':=by intro v' w' iV;obtain⟨dst,op,ty,pos,NZ,vz⟩:=o;simp only at nj iV;subst nj;simp only[execOp,b9];exact D7 iV
    rcases l1 with⟨J,U⟩|⟨e,J,U,al⟩
    ·refine mi (mD _ _ U) ?_;rw[aG];refine c2 _ _ _ _ (vD fun b ab=>?_) ((aK.drawn n).put xC (p:= .tuple [.bool false]) (by simp[bd,cR]));obtain⟨e,f1,f2⟩:=QW m5.2.len (Hl m5.1) ab;rw[<-f2];exact J e f1
    ·obtain⟨k,v,f1,f2,f3⟩:=Up m5.2.len m5.2.inc m5.1 J;refine mi (mD _ _ al) ?_;rw[aG];have vR:=((aK.drawn n).setBox (w':={w with drawn:=n,heap:=w.heap.setIfInBounds bl (.mapIter (some mb) last (seen++[e.born]).toArray last)}) vF cf (cs':=[.hdi last (seen++[e.born]) last,.gmap mk]) (us:=us) (el:=el) rfl rfl rfl
      (fun j ag=>Array.getElem?_setIfInBounds_ne (k5 ag)) Ψ (by simp[jP,hu,(Array.getElem?_eq_some_iff.1 cP).1]) (by simp only[jn,cR];exact⟨_,_,hu,by simp only[bd];exact⟨mb,m1,rfl⟩,rfl⟩))
     refine c2 _ _ _ _ (oE e.born k v f1 U) (vR.1.put xC (p:= .tuple [.bool true,k,v]) ?_);simp only[bd];refine⟨_,rfl,?_⟩;simp only[cR];have kT:lx w Z {w with drawn:=n} Z:=⟨fun _ _ h=>⟨h,rfl⟩,fun _ _ _ h=>h,fun _ n u _ h=>⟨n,u,h,.inl ⟨rfl,rfl⟩⟩,fun _ _ _=>rfl,fun _ _ _ _ h=>h⟩;exact⟨_,_,rfl,by simp[bd],_,_,rfl,yv vR.2 (yv kT f2),_,_,rfl,yv vR.2 (yv kT f3),rfl⟩
   ·exact he.elim
  ·exact he.elim
 ·exact he.elim
theorem Q0{P:cG}{bB:List (Nat×dA)}(aI:fN P bB=true){C:fa}{st:bo}{a:Act}{w:World}{Z:bc}(aK:cS C st a w Z){i:ed}{o:Oper}(aw:uY C.N bB i o=true){K:bo->Prop}(he:ue P st K i)
  {ri:Act->World->Prop} {Q:Exit->Act->World->Prop} (c2:∀st' bp w' bq,K st'->cS C st' bp w' bq->ri bp w'):o.wp P a w ri Q:=by
 cases i with
 |s i=>
  simp only[ue]at he;split at he
  ·rename_i c st' af;exact ak1 aI aK (by simpa only[uY]using aw) af he.1 fun bp w' bq h=>c2 _ _ _ _ he.2 h
  ·exact he.elim
 |next d x=>
  simp only[ue]at he;simp only[uY]at aw;split at aw
  ·rename_i it nj;simp only[ct,dM,eF]at aw;obtain⟨⟨J,U⟩,al⟩:=aw;exact ahL aK nj J (by simpa[jt]using U) (eh aK al) he c2
  ·cases aw
 |call d f xs=>
  simp only[ue]at he;simp only[uY]at aw;split at aw
  ·rename_i rz args ea nj;simp only[ct,dM]at aw;obtain⟨⟨⟨J,U⟩,al⟩,a1⟩:=aw;split at he
   ·rename_i n dk aO;have:=eh aK al;rw[aO]at this;exact Qw aK nj J U this (DD aK a1) he c2
   ·exact he.elim
  ·cases aw
theorem Mt{C:fa}{st:bo}{a:Act}{w:World}{Z:bc}(h:cS C st a w Z){s:Nat}{b:Bool}(af:get s st.t= .bool b):cS C {st with t:=put s (.bool b) st.t} a w Z:=by
 refine⟨h.good,h.fr,h.defers,h.size,fun i=>?_,h.new⟩;have:=h.slot i;simp only[pg];split
 ·rename_i e;subst e;rw[<-af];exact this
 ·exact this
theorem XZ{C:fa}{st:bo}{a:Act}{w:World}{Z:bc}(h:cS C st a w Z){ops:Array Oper}{j s:Nat}(ag:(ops.toList[j]?).bind (·.dst)=some s)(af:s<C.N):
  (∀b,get s st.t= .bool b->yielded ops a.tmps j=some b)/\(get s st.t= .tuple []->yielded ops a.tmps j=none):=by
 have bt:s<a.tmps.size:=by rw[h.size];exact af
 have rV:=h.slot s;have hJ:a.tmps.getD s undef=a.tmps[s]:=by simp[Array.getD,bt]
 rw[hJ]at rV;have aM:yielded ops a.tmps j=match a.tmps[s]with| .bool b=>some b|_=>none:=by unfold yielded;rw[tN]at ag;rw[ag];simp only[hU,Array.getElem?_eq_getElem bt];cases a.tmps[s]<;>rfl
 constructor
 ·intro b ab;rw[ab]at rV;simp only[bd]at rV;rw[aM,rV]
 ·intro ab;rw[ab]at rV;simp only[bd,cR]at rV;obtain⟨us,ao,aF⟩:=rV;rw[aM,ao]
theorem Q4{P:cG}{bB:List (Nat×dA)}(aI:fN P bB=true){C:fa}{ops:Array Oper}{K:bo->Prop}{Q:Exit->Act->World->Prop}(h2:∀st' bp w' bq,K st'->cS C st' bp w' bq->Q .normal bp w'):
  ∀(gs:List c5) (os:List Oper) (k:Nat),(∀j,os[j]? =ops[k+j]?)->kx C.N bB ops.toList gs os=true->∀(st:bo) (a:Act) (w:World) (Z:bc),h0 P gs st K->cS C st a w Z->wpOps P ops Q (List.range' k gs.length) a w
 |[],[],k,_,_,st,a,w,Z,he,aK=>by simp only[List.length_nil,List.range'_zero,wpOps];exact h2 _ _ _ _ he aK
 |[],_::_,_,_,ad,_,_,_,_,_,_=>by simp[kx]at ad
 |_::_,[],_,_,ad,_,_,_,_,_,_=>by simp[kx]at ad
 |g::gs,o::os,k,zG,ad,st,a,w,Z,he,aK=>by
  simp only[kx,ct]at ad;have bA:ops[k]? =some o:=by simpa using(zG 0).symm
  have CA:∀j,os[j]? =ops[k+1+j]?:=fun j=>by have:=zG (j+1);simpa[Nat.add_assoc,Nat.add_comm 1 j]using this
  simp only[oe,List.range'_succ,wpOps,bA];have bO:∀st' bp w' bq,h0 P gs st' K->cS C st' bp w' bq->wpOps P ops Q (List.range' (k+1) gs.length) bp w':=fun st' bp w' bq J U=>Q4 aI h2 gs os (k+1) CA ad.2 st' bp w' bq J U;obtain⟨nc,RR⟩:=g;have aW:=ad.1;simp only[BS,ct]at aW;obtain⟨qN,rN⟩:=aW;cases nc with
  |none=>
   cases er:o.guard with
   |some x=>simp[er]at qN
   |none=>
    have hw:oU o (yielded ops a.tmps)=true:=by simp[oU,er]
    rw[if_pos hw];simp only[h0]at he;exact .inl (Q0 aI aK rN he bO)
  |some yG=>
   obtain⟨s,want⟩:=yG;cases er:o.guard with
   |none=>simp[er]at qN
   |some x=>
    obtain⟨j,b0⟩:=x;simp only[er,ct,dM,eF]at qN;obtain⟨⟨⟨⟨rfl,U⟩,al⟩,a1⟩,bW⟩:=qN;obtain⟨kK,oT⟩:=XZ aK U al;simp only[h0]at he;split at he
    ·rename_i b ab;have aM:=kK b ab;by_cases e:b=want
     ·subst e;have hw:oU o (yielded ops a.tmps)=true:=by simp[oU,er,aM]
      rw[if_pos hw];exact .inl (Q0 aI (Mt aK ab) rN (he.1 rfl) bO)
     ·have hw:¬(oU o (yielded ops a.tmps)=true):=by simp[oU,er,aM,e]
      rw[if_neg hw];have fX:b= !want:=by cases b<;>cases want<;>simp at e⊢
      have mF:cS C {st with t:=put s (.bool !want) st.t} a w Z:=Mt aK (by rw[ab,fX]);rw[a1];exact bO _ _ _ _ (he.2 fX) (mF.put bW (by simp[bd,cR,undef]))
    ·rename_i ab;have aM:=oT ab;have hw:¬(oU o (yielded ops a.tmps)=true):=by simp[oU,er,aM]
     rw[if_neg hw,a1];exact bO _ _ _ _ he (aK.put bW (by simp[bd,cR,undef]))
    ·exact he.elim
structure df where
 t:Nat->ai
 b:aL->Option (List ai)
 e:aL->Option fQ
 F:aL->Prop
structure kN where
 d:Option Nat
 p:ai
 bw:List (aL×List ai)
 ew:List (aL×fQ)
 rm:Option aL
def iF{α:Type}(l:List (aL×α))(f:aL->Option α):aL->Option α:=fun k=>match look k l with|some x=>some x|none=>f k
def df.do(A:df)(x:kN):df:={t:=fun i=>if x.d=some i then x.p else A.t i,b:=iF x.bw A.b,e:=iF x.ew A.e,F:=fun k=>A.F k/\x.rm≠some k}
structure kN.apart (x y:kN):Prop where
 d:∀i,x.d=some i->y.d≠some i
 b:∀k,(look k x.bw).isSome->look k y.bw=none
 e:∀k,(look k x.ew).isSome->look k y.ew=none
theorem df.do_comm(A:df){x y:kN}(h:x.apart y):(A.do x).do y=(A.do y).do x:=by
 simp only[df.do,df.mk.injEq];refine⟨?_,?_,?_,?_⟩
 ·funext i;by_cases J:x.d=some i
  ·have:=h.d i J;simp[J,this]
  ·simp[J]
 ·funext k;simp only[iF];cases ae:look k x.bw with
  |none=>cases look k y.bw<;>rfl
  |some u=>rw[h.b k (by simp[ae])]
 ·funext k;simp only[iF];cases ae:look k x.ew with
  |none=>cases look k y.ew<;>rfl
  |some u=>rw[h.e k (by simp[ae])]
 ·funext k;exact propext ⟨fun h=>⟨⟨h.1.1,h.2⟩,h.1.2⟩,fun h=>⟨⟨h.1.1,h.2⟩,h.1.2⟩⟩
def dw(t:Nat->ai):dp->ai
 | .t i=>t i
 | .c p=>p
def r6(b:aL->Option (List ai))(e:aL->Option fQ)(agg:Bool)(sz:Nat):ai->Option (Prop×ai)
 | .rptr dH k n i f=>yx agg sz dH n i f (e k)
 | .ptr k off=>
  match b k with
  |some cs=>if agg then some (hS cs=true/\off+sz<=cs.length,.agg ((cs.drop off).take sz))else(cs[off]?).map fun p=>(hS cs=true,p)
  |none=>none
 | .eptr p=>if agg then some (isAgg sz p,p)else some (eH p=true/\cells p=[p],p)
 |_=>none
def xg(t:Nat->ai):List ai->List (Nat×Nat×dp)->Option (Prop×List ai)
 |cs,[]=>some (True,cs)
 |cs,(off,sz,x)::r=>
  match xg t (n3 cs off (cells (dw t x))) r with
  |some (c,cs')=>some ((eH (dw t x)=true/\(cells (dw t x)).length=sz/\off+sz<=cs.length)/\c,cs')
  |none=>none
def pL(t:Nat->ai)(b:aL->Option (List ai))(e:aL->Option fQ):fU->Option (Prop×ai)
 | .mov x=>some (True,dw t x)
 | .pick c x y=>GN (dw t c) (dw t x) (dw t y)
 | .load agg sz x=>r6 b e agg sz (dw t x)
 | .faddr off agg sz x=>qJ off agg sz (dw t x)
 | .fld off agg sz x=>ui off agg sz (dw t x)
 | .iaddr sz x i=>zQ sz (dw t x) (dw t i)
 | .sidx x i=>Hv (dw t x) (dw t i)
 | .ssl x lo hi=>HA (dw t x) (lo.map (dw t)) (hi.map (dw t))
 | .lsl sz x lo hi=>Gq sz (dw t x) (lo.map (dw t)) (hi.map (dw t))
 | .bin op wr x y=>be op wr (dw t x) (dw t y)
 | .notB x=>GC (dw t x)
 | .neg x=>Gz (dw t x)
 | .conv k x=>EW k (dw t x)
 | .ext i x=>zc i (dw t x)
 | .len x=>z1 (dw t x)
 | .slen x=>DS (dw t x)
 | .build zero parts=>(xg t zero parts).map fun(c,cs)=>(c,.agg cs)
 | .nck x=>Ai (dw t x)
 | .min2 x y=>Gy (dw t x) (dw t y)
 | .mkf n xs=>some (True,.func n (xs.map (dw t)))
 | .mget cc zero ok x k=>nY b cc zero ok (dw t x) (dw t k)
 | .ment x=>pB b (dw t x)
 | .mlen x=>Ah b (dw t x)
 | .beq neg dL x y=>mv neg dL (dw t x) (dw t y)
 | .max2 x y=>Gu (dw t x) (dw t y)
 | .mkif n x=>some (True,.iface n (dw t x))
 | .loadB agg sz x=>r6 b (fun _=>none) agg sz (dw t x)
 | .mgetB cc zero ok x k=>nY b cc zero ok (dw t x) (dw t k)
 | .loadZ agg sz x=>BR agg sz (dw t x)
structure lu (st:bo) (A:df):Prop where
 t:∀i,get i st.t=A.t i
 b:∀k,look k st.b=A.b k
 e:∀k,look k st.e=A.e k
theorem iR{st:bo}{A:df}(h:lu st A)(x:dp):cm st.t x=dw A.t x:=by
 cases x
 ·exact h.t _
 ·rfl
theorem ug{st:bo}{A:df}(h:lu st A):cm st.t=dw A.t:=funext (iR h)
theorem ag0{st:bo}{A:df}(h:lu st A)(agg:Bool)(sz:Nat)(p:ai):mN st.b st.e agg sz p=r6 A.b A.e agg sz p:=by
 cases p<;>simp only[mN,r6]
 ·rw[h.b];try rfl
 ·rw[h.e]
theorem ag1{st:bo}{A:df}(h:lu st A)(agg:Bool)(sz:Nat)(p:ai):mN st.b [] agg sz p=r6 A.b (fun _=>none) agg sz p:=by
 cases p<;>simp only[mN,r6]
 ·rw[h.b];try rfl
 ·rfl
theorem Ov{st:bo}{A:df}(h:lu st A):∀(parts:List (Nat×Nat×dp)) (cs:List ai),ub st.t cs parts=xg A.t cs parts
 |[],cs=>rfl
 |(off,sz,x)::r,cs=>by simp only[ub,xg,iR h,Ov h r];try rfl
theorem Xk{st:bo}{A:df}(h:lu st A)(i:fU):hj st i=pL A.t A.b A.e i:=by have ab:(fun k=>look k st.b)=A.b:=funext h.b;cases i<;>simp only[hj,pL,ug h,ag0 h,ag1 h,Ov h,ab]
def hf:dp->List Nat
 | .t i=>[i]
 | .c _=>[]
def LS:Option dp->List Nat
 |some x=>hf x
 |none=>[]
def fU.looks:fU->List Nat
 | .mov x| .load _ _ x| .loadB _ _ x| .loadZ _ _ x| .faddr _ _ _ x| .fld _ _ _ x| .notB x| .neg x| .conv _ x| .ext _ x| .len x| .slen x| .nck x| .ment x| .mlen x| .mkif _ x=>hf x
 | .pick c x y=>hf c++hf x++hf y
 | .iaddr _ x i| .sidx x i=>hf x++hf i
 | .ssl x lo hi| .lsl _ x lo hi=>hf x++LS lo++LS hi
 | .bin _ _ x y| .min2 x y| .max2 x y| .beq _ _ x y=>hf x++hf y
 | .build _ cz=>cz.flatMap fun p=>hf p.2.2
 | .mkf _ xs=>xs.flatMap hf
 | .mget _ _ _ x k| .mgetB _ _ _ x k=>hf x++hf k
def ei.looks:ei->List Nat
 | .v _ i=>i.looks
 | .box _ _ x=>hf x
 | .alloc _ _ _=>[]
 | .store _ x y=>hf x++hf y
 | .storeE _ x y=>hf x++hf y
 | .bsl _ _ _ xs=>xs.flatMap hf
 | .app _ _ _ x y=>hf x++hf y
 | .bslm _ _ _ _ xs=>xs.flatMap hf
 | .mks _ _ _ _ _ x=>hf x
 | .appm _ _ _ _ x y=>hf x++hf y
 | .mkmap _ _=>[]
 | .mput _ x k y=>hf x++hf k++hf y
 | .range _ _ x=>hf x
def ed.looks:ed->List Nat
 | .s i=>i.looks
 | .call _ f xs=>hf f++xs.flatMap hf
 | .next _ x=>hf x
def c5.looks(g:c5):List Nat:=(match g.g with|some (s,_)=>[s]|none=>[])++g.i.looks
def qz(l:List Nat)(t dK:Nat->ai):Prop:= ∀i∈l,t i=dK i
theorem gm{t dK:Nat->ai}{x:dp}(h:qz (hf x) t dK):dw t x=dw dK x:=by
 cases x
 ·exact h _ (by simp[hf])
 ·rfl
theorem kr{l a6:List Nat}{t dK:Nat->ai}(h:qz (l++a6) t dK):qz l t dK/\qz a6 t dK:=⟨fun i hi=>h i (by simp[hi]),fun i hi=>h i (by simp[hi])⟩
theorem E4{t dK:Nat->ai}{x:Option dp}(h:qz (LS x) t dK):x.map (dw t)=x.map (dw dK):=by
 cases x
 ·rfl
 ·simp[gm h]
theorem Ou{t dK:Nat->ai}:∀{parts:List (Nat×Nat×dp)} {cs:List ai},qz (parts.flatMap fun p=>hf p.2.2) t dK->xg t cs parts=xg dK cs parts
 |[],cs,_=>rfl
 |(off,sz,x)::r,cs,h=>by simp only[List.flatMap_cons]at h;obtain⟨J,U⟩:=kr h;simp only[xg,gm J,Ou U]
theorem Gt{t dK:Nat->ai}:∀{xs:List dp},qz (xs.flatMap hf) t dK->xs.map (dw t)=xs.map (dw dK)
 |[],_=>rfl
 |x::xs,h=>by simp only[List.flatMap_cons]at h;obtain⟨J,U⟩:=kr h;simp[gm J,Gt U]
def fU.isLoad:fU->Bool
 | .load _ _ _=>true
 | .loadB _ _ _=>true
 | .mgetB _ _ _ _ _=>true
 | .mget _ _ _ _ _=>true
 | .ment _=>true
 | .mlen _=>true
 |_=>false
theorem al8{t dK:Nat->ai}{b b0:aL->Option (List ai)}{e fL:aL->Option fQ}{i:fU}(h:qz i.looks t dK)(ab:i.isLoad=false):pL t b e i=pL dK b0 fL i:=by
 cases i<;>simp only[fU.looks]at h<;>simp only[pL];case load agg sz x=>simp[fU.isLoad]at ab
 case loadB agg sz x=>simp[fU.isLoad]at ab
 case pick c x y=>obtain⟨J,al⟩:=kr h;obtain⟨J,U⟩:=kr J;rw[gm J,gm U,gm al]
 case iaddr=>obtain⟨J,U⟩:=kr h;rw[gm J,gm U]
 case sidx=>obtain⟨J,U⟩:=kr h;rw[gm J,gm U]
 case ssl=>obtain⟨J,al⟩:=kr h;obtain⟨J,U⟩:=kr J;rw[gm J,E4 U,E4 al]
 case lsl=>obtain⟨J,al⟩:=kr h;obtain⟨J,U⟩:=kr J;rw[gm J,E4 U,E4 al]
 case bin=>obtain⟨J,U⟩:=kr h;rw[gm J,gm U]
 case min2=>obtain⟨J,U⟩:=kr h;rw[gm J,gm U]
 case build=>rw[Ou h]
 case mkf=>rw[Gt h]
 case mget=>simp[fU.isLoad]at ab
 case mgetB=>simp[fU.isLoad]at ab
 case ment=>simp[fU.isLoad]at ab
 case mlen=>simp[fU.isLoad]at ab
 case max2=>obtain⟨J,U⟩:=kr h;rw[gm J,gm U]
 case beq=>obtain⟨J,U⟩:=kr h;rw[gm J,gm U]
 all_goals rw[gm h]
end
end Go.Pv
