/- Regions that draw their order, I: abstract states as functions, effects, and what an instruction does to them. -/
import Derived.WalkKit
import Derived.Orders
import Derived.KernelRfl
import Derived.IntWalk
import Derived.Laws.StructEq
import Derived.ChangeKeysEq
import Derived.MapKept
import Derived.ArgAppend
import Derived.Laws.OwnMore
set_option linter.all false
set_option maxHeartbeats 4000000
set_option maxRecDepth 4000
namespace Go
theorem Ω{p:Prop}(h:p:=by omega):p:=h
theorem Ψ{p:Prop}(h:p:=by simp):p:=h
end Go
open Array renaming getElem?_toList->uC
open BitVec renaming ofInt->qN
open Bool renaming and_eq_true->cC,eq_iff_iff->oG,false_eq_true->hl
open ByteArray renaming ext->arf,size->avG
open Go renaming Program->cG,TypeId->fZ
open Go.ByteArray renaming toList_eq->arh
open Go.IntWalk renaming i64_in->pz
open Go.Op renaming bytesLess->hF
open Go.Region renaming wanted->pA
open Go.Result renaming andThen_ok->fX
open Go.Sem renaming run_bind->fT,run_pure->gJ
open Go.Value renaming cells->pB,ownBlock->oI
open Go.Value.pointer renaming injEq->avN
open Go.World.grownBy renaming refl->ark
open List renaming all_eq_true->ga,cons_append->bZ,getElem?_eq_getElem->cc,getElem?_eq_none->qO,getElem?_eq_some_iff->eP,getElem?_map->qP,length_append->pC,length_cons->pD,length_drop->tc,length_map->oK,map_cons->gS,map_nil->nh,mem_append->kn,mem_cons->fA,mem_cons_of_mem->oL,mem_filter->nZ,mem_map->hB,pairwise_cons->ni,replicate->rP,take->ko,take_length->jJ,take_of_length_le->hQ
open List.cons renaming injEq->oJ
open Nat renaming add_mul->qh,le_refl->e7,le_trans->kB
open Ne renaming symm->ld
open Option renaming bind_some->lf,isSome_iff_exists->fU,isSome_none->mc,map_eq_some_iff->ha,map_some->nl
open Option.some renaming injEq->dQ
open Prod.mk renaming injEq->jB
open _root_ renaming False->e1,Option->ba,UInt8->dM,beq_iff_eq->dV,congrArg->e2,decide_eq_true_eq->fc
namespace Go.Pv
section
open Go Go.RowKit
inductive aI where
 |loc (s:Nat)
 |obj (n:Nat)
 deriving DecidableEq,Inhabited
inductive Cn where
 |no
 |nil
 |own (k:aI)
 |tr (k:aI) (j:Nat)
 |lo (k:aI)
 deriving DecidableEq,Inhabited
inductive ai where
 |junk
 |int (k:IntKind) (n:Int)
 |bool (b:Bool)
 |str (s:List dM)
 |slice (sz:Nat) (tag:Cn) (xs:List ai)
 |agg (cs:List ai)
 |ptr (key:aI) (off:Nat)
 |eptr (x:ai)
 |iface (t:Nat) (x:ai)
 |nilp
 |tuple (bf:List ai)
 |func (f:Nat) (dg:List ai)
 |gmap (key:aI)
 |row (sz:Nat) (key:aI) (n:Nat)
 |rptr (sz:Nat) (key:aI) (n i f:Nat)
 |hdm (clock:Nat) (borns:List Nat)
 |hdi (since:Nat) (seen:List Nat) (last:Nat)
 |cst (v:Value)
 deriving Inhabited
structure bg where
 A:Nat->Nat->Prop
 bx:aI->ba Nat
 ow:aI->ba (Nat×Value)
 tr:aI->Nat->Nat->Prop
def lim:Nat:=68719476736
def l1(w:World)(A:Nat->Nat->Prop)(b:Nat):Nat->List Value->Prop
 |_,[]=>True
 |off,u::us=>(A b off/\w.cell? ⟨b,off,none⟩=some u)/\l1 w A b (off+1) us
def shape(w:World)(b:Nat):ba (Nat×fZ×(Nat×Nat)):=
 match w.heap[b]? with
 |some (.cells cur el fz)=>some (cur.size,el,fz)
 |_=>none
theorem xx{w w':World}{b:Nat}(h:w'.heap[b]? =w.heap[b]?):shape w' b=shape w b:=by unfold shape;rw[h]
mutual
def gm(t:Bool)(w:World)(A:Nat->Nat->Prop)(F:Nat->Prop):ai->Value->Prop
 | .int k n,v=>v= .int k n
 | .bool b,v=>v= .bool b
 | .str s,v=>v= .string ⟨s.toArray⟩/\s.length<=lim
 | .slice sz _ xs,v=> ∃a cap,v= .slice a xs.length cap/\xs.length<=cap/\(cap<=maxLen/\xs.length<=lim)/\
   (xs=[]\/ ∃b off us G,a=some ⟨b,off,none⟩/\F b/\(∀c,G c->F c/\(t=true->c≠b))/\l1 w A b off us/\(t=true->off=0/\0<us.length/\∃el,shape w b=some (cap*sz,el,(0,0)))/\u5 t w A G sz xs us)
 | .agg cs,v=> ∃us:Array Value,v= .agg us/\u6 t w A F cs us.toList
 |_,_=>e1
def u6(t:Bool)(w:World)(A:Nat->Nat->Prop)(F:Nat->Prop):List ai->List Value->Prop
 |[],us=>us=[]
 |c::cs,us=> ∃u ct ir iE,us=u::ct/\((∀b,ir b->F b)/\(∀b,iE b->F b)/\(t=true->∀b,ir b->¬iE b))/\(gm t w A ir c u/\u.oneCell'=true)/\u6 t w A iE cs ct
def u5(t:Bool)(w:World)(A:Nat->Nat->Prop)(F:Nat->Prop)(sz:Nat):List ai->List Value->Prop
 |[],us=>us=[]
 |x::xs,us=> ∃u ct ir iE,us=u.cells.toList++ct/\((∀b,ir b->F b)/\(∀b,iE b->F b)/\(t=true->∀b,ir b->¬iE b))/\(gm t w A ir x u/\u.cells.size=sz/\(∀c∈u.cells.toList,c.oneCell'=true))/\u5 t w A iE sz xs ct
end
mutual
def bd(w:World)(ν:bg):ai->Value->Prop
 | .junk,_=>True
 | .int k n,v=>v= .int k n
 | .bool b,v=>v= .bool b
 | .str s,v=>v= .string ⟨s.toArray⟩/\s.length<=lim
 | .slice sz tag xs,v=>
   (∃a cap,v= .slice a xs.length cap/\xs.length<=cap/\(cap<=maxLen/\xs.length<=lim)/\(xs=[]\/ ∃b off us,a=some ⟨b,off,none⟩/\l1 w ν.A b off us/\dK w ν sz xs us))/\
   (tag= .nil->v= .slice none 0 0)/\
   (∀g,tag= .own g->∃n u,ν.ow g=some (n,u)/\xs.length<=n/\(xs.length=n->v=u))/\
   (∀k j,tag= .tr k j->gm true w ν.A (ν.tr k j) (.slice sz tag xs) v)/\(∀k,tag= .lo k->gm false w ν.A (ν.tr k 0) (.slice sz tag xs) v)
 | .agg cs,v=> ∃us:Array Value,v= .agg us/\dc w ν cs us.toList
 | .ptr key off,v=> ∃b,ν.bx key=some b/\v= .pointer (some ⟨b,off,none⟩)
 | .eptr x,v=> ∃b off u,v= .pointer (some ⟨b,off,none⟩)/\bd w ν x u/\l1 w ν.A b off u.cells.toList
 | .iface t x,v=> ∃u,v= .iface t u/\bd w ν x u
 | .nilp,v=>v= .pointer none
 | .tuple bf,v=> ∃us:Array Value,v= .tuple us/\cW w ν bf us.toList
 | .func f dg,v=> ∃us:Array Value,v= .func (.func f) #[] us/\cW w ν dg us.toList
 | .gmap key,v=> ∃b,ν.bx key=some b/\v= .map (some b)
 | .row _ key n,v=>(∃b cap,v= .slice (some ⟨b,0,none⟩) n cap)/\n<=lim/\∃n' u,ν.ow key=some (n',u)/\n<=n'/\(n=n'->v=u)
 | .rptr sz key n i f,v=>(∃b o,v= .pointer (some ⟨b,o,none⟩))/\i<n/\∃n' u,ν.ow key=some (n',u)/\n<=n'/\(n=n'->∃b,u.ownBlock=some b/\v= .pointer (some ⟨b,i*sz+f,none⟩))
 | .hdm _ _,_=>e1
 | .hdi _ _ _,_=>e1
 | .cst c,v=>v=c
def dc(w:World)(ν:bg):List ai->List Value->Prop
 |[],us=>us=[]
 |c::cs,us=> ∃u ct,us=u::ct/\(bd w ν c u/\u.oneCell'=true)/\dc w ν cs ct
def cW(w:World)(ν:bg):List ai->List Value->Prop
 |[],us=>us=[]
 |c::cs,us=> ∃u ct,us=u::ct/\bd w ν c u/\cW w ν cs ct
def dK(w:World)(ν:bg)(sz:Nat):List ai->List Value->Prop
 |[],us=>us=[]
 |x::xs,us=> ∃u ct,us=u.cells.toList++ct/\(bd w ν x u/\u.cells.size=sz/\(∀c∈u.cells.toList,c.oneCell'=true))/\dK w ν sz xs ct
end
theorem Hi{w w':World}{A gu:Nat->Nat->Prop}{b:Nat}(bk:∀b o,A b o->gu b o/\w'.cell? ⟨b,o,none⟩=w.cell? ⟨b,o,none⟩):
  ∀(us:List Value) (off:Nat),l1 w A b off us->l1 w' gu b off us
 |[],_,_=>trivial
 |_::us,off,h=>⟨⟨(bk _ _ h.1.1).1,(bk _ _ h.1.1).2.trans h.1.2⟩,Hi bk us (off+1) h.2⟩
mutual
theorem Ge{t:Bool}{w w':World}{A gu:Nat->Nat->Prop}(bk:∀b o,A b o->gu b o/\w'.cell? ⟨b,o,none⟩=w.cell? ⟨b,o,none⟩)(ag:∀b o,A b o->shape w' b=shape w b):∀(p:ai) (F pG:Nat->Prop) (v:Value),(∀b,F b->pG b)->gm t w A F p v->gm t w' gu pG p v
 | .int k n,_,_,_,_,h=>by simp only[gm]at h⊢;exact h
 | .bool b,_,_,_,_,h=>by simp only[gm]at h⊢;exact h
 | .str s,_,_,_,_,h=>by simp only[gm]at h⊢;exact h
 | .slice sz tag xs,F,pG,v,hb,h=>by
  simp only[gm]at h⊢;obtain⟨a,cap,J,U,au,a6⟩:=h;refine⟨a,cap,J,U,au,?_⟩;rcases a6 with a6|⟨b,off,us,G,al,aE,bn,dh,hq,h0⟩
  ·exact .inl a6
  ·refine .inr ⟨b,off,us,G,al,hb _ aE,fun c aw=>⟨hb _ (bn c aw).1,(bn c aw).2⟩,Hi bk _ _ dh,fun aN=>?_,TE bk ag xs G G _ (fun _ h=>h) h0⟩;obtain⟨f1,f2,el,f3⟩:=hq aN;refine⟨f1,f2,el,?_⟩;cases us with
   |nil=>simp at f2
   |cons u us=>rw[ag b off dh.1.1];exact f3
 | .agg cs,F,pG,v,hb,h=>by simp only[gm]at h⊢;obtain⟨us,J,U⟩:=h;exact⟨us,J,TF bk ag cs F pG _ hb U⟩
 | .junk,_,_,_,_,h=>by simp[gm]at h
 | .ptr _ _,_,_,_,_,h=>by simp[gm]at h
 | .eptr _,_,_,_,_,h=>by simp[gm]at h
 | .iface _ _,_,_,_,_,h=>by simp[gm]at h
 | .nilp,_,_,_,_,h=>by simp[gm]at h
 | .tuple _,_,_,_,_,h=>by simp[gm]at h
 | .func _ _,_,_,_,_,h=>by simp[gm]at h
 | .gmap _,_,_,_,_,h=>by simp[gm]at h
 | .row _ _ _,_,_,_,_,h=>by simp[gm]at h
 | .rptr _ _ _ _ _,_,_,_,_,h=>by simp[gm]at h
 | .hdm _ _,_,_,_,_,h=>by simp[gm]at h
 | .hdi _ _ _,_,_,_,_,h=>by simp[gm]at h
 | .cst _,_,_,_,_,h=>by simp[gm]at h
theorem TF{t:Bool}{w w':World}{A gu:Nat->Nat->Prop}(bk:∀b o,A b o->gu b o/\w'.cell? ⟨b,o,none⟩=w.cell? ⟨b,o,none⟩)(ag:∀b o,A b o->shape w' b=shape w b):∀(cs:List ai) (F pG:Nat->Prop) (us:List Value),(∀b,F b->pG b)->u6 t w A F cs us->u6 t w' gu pG cs us
 |[],_,_,_,_,h=>by simp only[u6]at h⊢;exact h
 |c::cs,F,pG,us,hb,h=>by simp only[u6]at h⊢;obtain⟨u,ct,ir,iE,J,⟨U,au,a6⟩,⟨b3,c7⟩,et⟩:=h;exact⟨u,ct,ir,iE,J,⟨fun b ab=>hb _ (U b ab),fun b ab=>hb _ (au b ab),a6⟩,⟨Ge bk ag c ir ir u (fun _ h=>h) b3,c7⟩,TF bk ag cs iE iE ct (fun _ h=>h) et⟩
theorem TE{t:Bool}{w w':World}{A gu:Nat->Nat->Prop}(bk:∀b o,A b o->gu b o/\w'.cell? ⟨b,o,none⟩=w.cell? ⟨b,o,none⟩)(ag:∀b o,A b o->shape w' b=shape w b){sz:Nat}:∀(cs:List ai) (F pG:Nat->Prop) (us:List Value),(∀b,F b->pG b)->u5 t w A F sz cs us->u5 t w' gu pG sz cs us
 |[],_,_,_,_,h=>by simp only[u5]at h⊢;exact h
 |c::cs,F,pG,us,hb,h=>by simp only[u5]at h⊢;obtain⟨u,ct,ir,iE,J,⟨U,au,a6⟩,⟨b3,c7⟩,et⟩:=h;exact⟨u,ct,ir,iE,J,⟨fun b ab=>hb _ (U b ab),fun b ab=>hb _ (au b ab),a6⟩,⟨Ge bk ag c ir ir u (fun _ h=>h) b3,c7⟩,TE bk ag cs iE iE ct (fun _ h=>h) et⟩
end
mutual
def aD(S:aI->Prop):ai->Prop
 | .slice _ tag xs=>(match tag with| .own k=>S k| .tr k _=>S k| .lo k=>S k|_=>True)/\aH S xs
 | .agg cs=>aH S cs
 | .ptr k _=>S k
 | .eptr x=>aD S x
 | .iface _ x=>aD S x
 | .tuple bf=>aH S bf
 | .func _ dg=>aH S dg
 | .gmap k=>S k
 | .row _ k _=>S k
 | .rptr _ k _ _ _=>S k
 |_=>True
def aH(S:aI->Prop):List ai->Prop
 |[]=>True
 |x::xs=>aD S x/\aH S xs
end
mutual
theorem w6{S T:aI->Prop}(h:∀k,S k->T k):∀p:ai,aD S p->aD T p
 | .junk,_=>by simp[aD]
 | .int _ _,_=>by simp[aD]
 | .bool _,_=>by simp[aD]
 | .str _,_=>by simp[aD]
 | .slice sz tag xs,bB=>by simp only[aD]at bB⊢;exact⟨by cases tag<;>first|trivial|exact h _ bB.1,kd h xs bB.2⟩
 | .agg cs,bB=>by simp only[aD]at bB⊢;exact kd h cs bB
 | .ptr k _,bB=>by simp only[aD]at bB⊢;exact h _ bB
 | .eptr x,bB=>by simp only[aD]at bB⊢;exact w6 h x bB
 | .iface _ x,bB=>by simp only[aD]at bB⊢;exact w6 h x bB
 | .nilp,_=>by simp[aD]
 | .tuple bf,bB=>by simp only[aD]at bB⊢;exact kd h bf bB
 | .func _ dg,bB=>by simp only[aD]at bB⊢;exact kd h dg bB
 | .gmap k,bB=>by simp only[aD]at bB⊢;exact h _ bB
 | .row _ k _,bB=>by simp only[aD]at bB⊢;exact h _ bB
 | .rptr _ k _ _ _,bB=>by simp only[aD]at bB⊢;exact h _ bB
 | .hdm _ _,_=>by simp[aD]
 | .hdi _ _ _,_=>by simp[aD]
 | .cst _,_=>by simp[aD]
theorem kd{S T:aI->Prop}(h:∀k,S k->T k):∀b0:List ai,aH S b0->aH T b0
 |[],_=>by simp[aH]
 |x::xs,bB=>by simp only[aH]at bB⊢;exact⟨w6 h x bB.1,kd h xs bB.2⟩
end
mutual
theorem Hf:∀p:ai,aD (fun _=>True) p
 | .junk=>by simp[aD]
 | .int _ _=>by simp[aD]
 | .bool _=>by simp[aD]
 | .str _=>by simp[aD]
 | .slice sz tag xs=>by simp only[aD];exact⟨by cases tag<;>trivial,vr xs⟩
 | .agg cs=>by simp only[aD];exact vr cs
 | .ptr k _=>by simp[aD]
 | .eptr x=>by simp only[aD];exact Hf x
 | .iface _ x=>by simp only[aD];exact Hf x
 | .nilp=>by simp[aD]
 | .tuple bf=>by simp only[aD];exact vr bf
 | .func _ dg=>by simp only[aD];exact vr dg
 | .gmap k=>by simp[aD]
 | .row _ k _=>by simp[aD]
 | .rptr _ k _ _ _=>by simp[aD]
 | .hdm _ _=>by simp[aD]
 | .hdi _ _ _=>by simp[aD]
 | .cst _=>by simp[aD]
theorem vr:∀b0:List ai,aH (fun _=>True) b0
 |[]=>by simp[aH]
 |x::xs=>by simp only[aH];exact⟨Hf x,vr xs⟩
end
def fL:List Nat->List Value->List MapEntry
 |b::e0,k::v::r=>⟨k,v,b⟩::fL e0 r
 |_,_=>[]
def j1(cs:List ai)(us:Array Value)(el:fZ):Obj:=
 match cs with
 | .hdm clock borns::_=>.map (fL borns us.toList).toArray clock
 | .hdi since seen last::_=>.mapIter (match us.toList with|[.map m]=>m|_=>none) since seen.toArray last
 |_=>.cells us el
structure ajR (clock:Nat) (borns:List Nat) (r:List ai):Prop where
 len:r.length=2*borns.length
 inc:borns.Pairwise (· < ·)
 lt:∀b∈borns,b<clock
def jx(w:World)(ν:bg)(cs:List ai)(us:List Value):Prop:=
 match cs with
 | .hdm clock borns::r=>cW w ν r us/\ajR clock borns r
 | .hdi _ _ _::r=>cW w ν r us
 |cs=>dc w ν cs us
def gG:List ai->Bool
 | .hdm _ _::_=>false
 | .hdi _ _ _::_=>false
 |_=>true
theorem BT{w:World}{ν:bg}{cs:List ai}{us:List Value}(h:dc w ν cs us):gG cs=true:=by
 unfold gG;split
 ·simp only[dc,bd]at h;obtain⟨_,_,_,⟨h,_⟩,_⟩:=h;exact h.elim
 ·simp only[dc,bd]at h;obtain⟨_,_,_,⟨h,_⟩,_⟩:=h;exact h.elim
 ·rfl
theorem vF{cs:List ai}(h:gG cs=true)(us:Array Value)(el:fZ):j1 cs us el= .cells us el:=by
 unfold gG at h;unfold j1;split at h<;>first|cases h|skip
 rfl
theorem vG{w:World}{ν:bg}{cs:List ai}(h:gG cs=true)(us:List Value):jx w ν cs us=dc w ν cs us:=by
 unfold gG at h;unfold jx;split at h<;>first|cases h|skip
 rfl
structure pI (S:aI->Prop) (w:World) (ν:bg) (w':World) (bt:bg):Prop where
 A:∀b o,ν.A b o->bt.A b o/\w'.cell? ⟨b,o,none⟩=w.cell? ⟨b,o,none⟩
 bx:∀k b,S k->ν.bx k=some b->bt.bx k=some b
 ow:∀g n u,S g->ν.ow g=some (n,u)->∃n' eO,bt.ow g=some (n',eO)/\(n'=n/\eO=u\/n<n')
 sh:∀b o,ν.A b o->shape w' b=shape w b
 tr:∀k j b,S k->ν.tr k j b->bt.tr k j b
abbrev lK:=pI (fun _=>True)
mutual
theorem vN{S:aI->Prop}{w w':World}{ν bt:bg}(ay:pI S w ν w' bt):∀(p:ai) (v:Value),aD S p->bd w ν p v->bd w' bt p v
 | .junk,_,_,_=>by simp[bd]
 | .int k n,_,_,h=>by simp only[bd]at h⊢;exact h
 | .bool b,_,_,h=>by simp only[bd]at h⊢;exact h
 | .str s,_,_,h=>by simp only[bd]at h⊢;exact h
 | .slice sz tag xs,v,ad,h=>by
  simp only[bd,aD]at h ad⊢;obtain⟨⟨a,cap,J,U,au,a6⟩,b3,c7,od,tA⟩:=h;refine⟨⟨a,cap,J,U,au,?_⟩,b3,fun g a7=>?_,fun k j og=>?_,fun k og=>?_⟩
  ·rcases a6 with a6|⟨b,off,us,a6,c7,et⟩
   ·exact .inl a6
   ·exact .inr ⟨b,off,us,a6,Hi ay.A _ _ c7,Ig ay sz xs us ad.2 et⟩
  ·obtain⟨n,u,al,aE,bn⟩:=c7 g a7;subst a7;obtain⟨n',eO,f1,f2⟩:=ay.ow g n u ad.1 al;refine⟨n',eO,f1,?_⟩;rcases f2 with⟨rfl,rfl⟩|f2
   ·exact⟨aE,bn⟩
   ·exact⟨Ω,fun e=>Ω⟩
  ·have:=od k j og;subst og;exact Ge ay.A ay.sh _ _ _ _ (fun b=>ay.tr k j b ad.1) this
  ·have:=tA k og;subst og;exact Ge ay.A ay.sh _ _ _ _ (fun b=>ay.tr k 0 b ad.1) this
 | .agg cs,v,ad,h=>by simp only[bd,aD]at h ad⊢;obtain⟨us,J,U⟩:=h;exact⟨us,J,Ij ay cs _ ad U⟩
 | .ptr key off,v,ad,h=>by simp only[bd,aD]at h ad⊢;obtain⟨b,J,U⟩:=h;exact⟨b,ay.bx _ _ ad J,U⟩
 | .iface t x,v,ad,h=>by simp only[bd,aD]at h ad⊢;obtain⟨u,J,U⟩:=h;exact⟨u,J,vN ay x u ad U⟩
 | .eptr x,v,ad,h=>by simp only[bd,aD]at h ad⊢;obtain⟨b,off,u,J,U,au⟩:=h;exact⟨b,off,u,J,vN ay x u ad U,Hi ay.A _ _ au⟩
 | .nilp,_,_,h=>by simp only[bd]at h⊢;exact h
 | .tuple bf,v,ad,h=>by simp only[bd,aD]at h ad⊢;obtain⟨us,J,U⟩:=h;exact⟨us,J,zp ay bf _ ad U⟩
 | .func f dg,v,ad,h=>by simp only[bd,aD]at h ad⊢;obtain⟨us,J,U⟩:=h;exact⟨us,J,zp ay dg _ ad U⟩
 | .gmap key,v,ad,h=>by simp only[bd,aD]at h ad⊢;obtain⟨b,J,U⟩:=h;exact⟨b,ay.bx _ _ ad J,U⟩
 | .row sz key n,v,ad,h=>by
  simp only[bd,aD]at h ad⊢;obtain⟨J,U,n',u,au,a6,b3⟩:=h;obtain⟨gw,jI,f1,f2⟩:=ay.ow key n' u ad au;refine⟨J,U,gw,jI,f1,?_⟩;rcases f2 with⟨rfl,rfl⟩|f2
  ·exact⟨a6,b3⟩
  ·exact⟨Ω,fun e=>Ω⟩
 | .rptr sz key n i f,v,ad,h=>by
  simp only[bd,aD]at h ad⊢;obtain⟨J,U,n',u,au,a6,b3⟩:=h;obtain⟨gw,jI,f1,f2⟩:=ay.ow key n' u ad au;refine⟨J,U,gw,jI,f1,?_⟩;rcases f2 with⟨rfl,rfl⟩|f2
  ·exact⟨a6,b3⟩
  ·exact⟨Ω,fun e=>Ω⟩
 | .hdm _ _,_,_,h=>by simp only[bd]at h
 | .hdi _ _ _,_,_,h=>by simp only[bd]at h
 | .cst c,_,_,h=>by simp only[bd]at h⊢;exact h
theorem Ij{S:aI->Prop}{w w':World}{ν bt:bg}(ay:pI S w ν w' bt):∀(cs:List ai) (us:List Value),aH S cs->dc w ν cs us->dc w' bt cs us
 |[],_,_,h=>by simp only[dc]at h⊢;exact h
 |c::cs,us,ad,h=>by simp only[dc,aH]at h ad⊢;obtain⟨u,ct,J,U,au⟩:=h;exact⟨u,ct,J,⟨vN ay c u ad.1 U.1,U.2⟩,Ij ay cs ct ad.2 au⟩
theorem zp{S:aI->Prop}{w w':World}{ν bt:bg}(ay:pI S w ν w' bt):∀(cs:List ai) (us:List Value),aH S cs->cW w ν cs us->cW w' bt cs us
 |[],_,_,h=>by simp only[cW]at h⊢;exact h
 |c::cs,us,ad,h=>by simp only[cW,aH]at h ad⊢;obtain⟨u,ct,J,U,au⟩:=h;exact⟨u,ct,J,vN ay c u ad.1 U,zp ay cs ct ad.2 au⟩
theorem Ig{S:aI->Prop}{w w':World}{ν bt:bg}(ay:pI S w ν w' bt)(sz:Nat):∀(xs:List ai) (us:List Value),aH S xs->dK w ν sz xs us->dK w' bt sz xs us
 |[],_,_,h=>by simp only[dK]at h⊢;exact h
 |x::xs,us,ad,h=>by simp only[dK,aH]at h ad⊢;obtain⟨u,ct,J,⟨U,au,a6⟩,b3⟩:=h;exact⟨u,ct,J,⟨vN ay x u ad.1 U,au,a6⟩,Ig ay sz xs ct ad.2 b3⟩
end
theorem YA{S:aI->Prop}{w w':World}{ν bt:bg}(ay:pI S w ν w' bt){cs:List ai}{us:List Value}(ad:aH S cs)(h:jx w ν cs us):jx w' bt cs us:=by
 unfold jx at h⊢;split
 ·simp only[aH]at ad;exact⟨zp ay _ _ ad.2 h.1,h.2⟩
 ·simp only[aH]at ad;exact zp ay _ _ ad.2 h
 ·rename_i J U;split at h
  ·exact absurd rfl (J _ _ _)
  ·exact absurd rfl (U _ _ _ _)
  ·exact Ij ay _ _ ad h
section
variable {w w':World} {ν bt:bg} (ay:lK w ν w' bt)
include ay
theorem zq{p:ai}{v:Value}(h:bd w ν p v):bd w' bt p v:=vN ay p v (Hf p) h
theorem YF{p:List ai}{v:List Value}(h:dc w ν p v):dc w' bt p v:=Ij ay p v (vr p) h
theorem Im{p:List ai}{v:List Value}(h:cW w ν p v):cW w' bt p v:=zp ay p v (vr p) h
theorem qG{p:List ai}{v:List Value}(h:jx w ν p v):jx w' bt p v:=YA ay (vr p) h
theorem BQ{sz:Nat}{p:List ai}{v:List Value}(h:dK w ν sz p v):dK w' bt sz p v:=Ig ay sz p v (vr p) h
end
end
section
open Go Go.RowKit
def get(k:Nat):List (Nat×ai)->ai
 |[]=>.junk
 |(i,p)::r=>if i=k then p else get k r
def put(k:Nat)(p:ai):List (Nat×ai)->List (Nat×ai)
 |[]=>[(k,p)]
 |(i,q)::r=>if i=k then(i,p)::r else(i,q)::put k p r
def look{α:Type}(k:aI):List (aI×α)->ba α
 |[]=>none
 |(i,p)::r=>if i=k then some p else look k r
def cA{α:Type}(k:aI)(p:α):List (aI×α)->List (aI×α)
 |[]=>[(k,p)]
 |(i,q)::r=>if i=k then(i,p)::r else(i,q)::cA k p r
theorem pV(k j:Nat)(p:ai):∀l,get j (put k p l)=if k=j then p else get j l
 |[]=>by simp[get,put]
 |(i,q)::r=>by
  by_cases h:i=k
  ·subst h;by_cases U:i=j<;>simp[get,put,U]
  ·by_cases U:i=j
   ·subst U;simp[get,put,h,ld h]
   ·simp[get,put,h,U,pV k j p r]
theorem je{α:Type}(k j:aI)(p:α):∀l,look j (cA k p l)=if k=j then some p else look j l
 |[]=>by simp[look,cA]
 |(i,q)::r=>by
  by_cases h:i=k
  ·subst h;by_cases U:i=j<;>simp[look,cA,U]
  ·by_cases U:i=j
   ·subst U;simp[look,cA,h,ld h]
   ·simp[look,cA,h,U,je k j p r]
structure fY where
 n:Nat
 el:Nat
 sz:Nat
 xs:ba (List ai)
def Oc(w:World)(ν:bg)(o:fY)(v:Value)(us:List Value):Prop:=∀xs,o.xs=some xs->xs.length=o.n/\dK w ν o.sz xs us/\∀bl,v.ownBlock=some bl->∀j,¬ν.A bl j
theorem sR{w w':World}{ν bt:bg}(ay:lK w ν w' bt){o:fY}{v:Value}{us:List Value}(bk:∀bl,v.ownBlock=some bl->∀j,bt.A bl j->ν.A bl j)(h:Oc w ν o v us):Oc w' bt o v us:=fun xs af=>⟨(h xs af).1,BQ ay (h xs af).2.1,fun bl ab j ae=>(h xs af).2.2 bl ab j (bk bl ab j ae)⟩
def dW(S:aI->Prop)(o:fY):Prop:= ∀xs,o.xs=some xs->aH S xs
structure br where
 t:List (Nat×ai)
 b:List (aI×List ai)
 e:List (aI×fY)
 n:Nat
 o:List aI
def fresh(n:Nat)(o:List aI)(k:aI):Prop:=(match k with| .loc m=>n<=m| .obj _=>True)/\k∉o
theorem KK{n n':Nat}{o o':List aI}(ax:n<=n')(ay:∀k∈o,k∈o'){k:aI}(h:fresh n' o' k):fresh n o k:=by unfold fresh at h⊢;exact⟨by cases k<;>simp at h⊢;omega,fun ad=>h.2 (ay k ad)⟩
def ON(ν:bg)(b:List (aI×List ai))(e:List (aI×fY))(bl:Nat):Prop:=(∃k,(look k b).isSome/\ν.bx k=some bl)\/(∃g n v,(look g e).isSome/\ν.ow g=some (n,v)/\v.ownBlock=some bl)
structure Good (pr:Nat->Prop) (w:World) (ν:bg) (b:List (aI×List ai)) (e:List (aI×fY)):Prop where
 alt:∀bl o,ν.A bl o->bl<w.heap.size
 box:∀k cs,look k b=some cs->∃bl us el,ν.bx k=some bl/\pr bl/\(∀o,¬ν.A bl o)/\w.heap[bl]? =some (j1 cs us el)/\jx w ν cs us.toList
 inj:∀k bT bl,(look k b).isSome->(look bT b).isSome->ν.bx k=some bl->ν.bx bT=some bl->k=bT
 own:∀g o,look g e=some o->∃v us,ν.ow g=some (o.n,v)/\w.ownsRow 0 o.el o.sz v o.n us/\(∀bl,v.ownBlock=some bl->pr bl/\(∀j,ν.A bl j->j<o.n*o.sz))/\Oc w ν o v us
 oinj:∀g fu n n' v v' bl,(look g e).isSome->(look fu e).isSome->ν.ow g=some (n,v)->ν.ow fu=some (n',v')->v.ownBlock=some bl->v'.ownBlock=some bl->g=fu
 obx:∀g k n v bl,(look g e).isSome->(look k b).isSome->ν.ow g=some (n,v)->v.ownBlock=some bl->ν.bx k=some bl->e1
 one:∀k,ν.bx k=none\/ν.ow k=none
 otr:∀bl,ON ν b e bl->∀k j,¬ν.tr k j bl
structure ft where
 w0:World
 ν0:bg
 mt:Nat->Prop
 N:Nat
 ob:List aI
def ft.pr(C:ft)(bl:Nat):Prop:=C.mt bl\/C.w0.heap.size<=bl
def aov:aI:= .obj 990001
def gj:aI:= .obj 990002
structure qR (C:ft) (w:World) (ν:bg):Prop where
 os:w.os=C.w0.os
 tape:w.tape=C.w0.tape
 output:w.output=C.w0.output
 size:C.w0.heap.size<=w.heap.size
 block:∀k,k<C.w0.heap.size->¬C.mt k->w.heap[k]? =C.w0.heap[k]?
 keep:∀b o,C.ν0.A b o->ν.A b o/\w.cell? ⟨b,o,none⟩=C.w0.cell? ⟨b,o,none⟩
 fresh:∀b o,ν.A b o->C.ν0.A b o\/C.pr b
 obj:∀n b,C.ν0.bx (.obj n)=some b->ν.bx (.obj n)=some b
 obn:∀n b,C.ν0.bx (.obj n)=some b-> .obj n∈C.ob
 row:∀m n u,C.ν0.ow (.obj m)=some (n,u)->∃n' eO,ν.ow (.obj m)=some (n',eO)/\(n'=n/\eO=u\/n<n')
 obr:∀m n u,C.ν0.ow (.obj m)=some (n,u)-> .obj m∈C.ob
 trd:∀k j bT dP b,ν.tr k j b->ν.tr bT dP b->k=bT/\j=dP
 trb:∀k j b,ν.tr k j b->(k=aov\/C.w0.heap.size<=b)/\b<w.heap.size
 trn:∀k j b,ν.tr k j b->ν.bx k=none/\ν.ow k=none
 sh:∀b o,C.ν0.A b o->shape w b=shape C.w0 b
theorem ED{ν bt:bg}{g:aI}{n:Nat}{u:Value}(h:∃n' eO,ν.ow g=some (n',eO)/\(n'=n/\eO=u\/n<n'))(ay:∀n u,ν.ow g=some (n,u)->∃n' eO,bt.ow g=some (n',eO)/\(n'=n/\eO=u\/n<n')):
  ∃n' eO,bt.ow g=some (n',eO)/\(n'=n/\eO=u\/n<n'):=by
 obtain⟨il,ji,al,aE⟩:=h;obtain⟨gw,jI,f1,f2⟩:=ay il ji al;refine⟨gw,jI,f1,?_⟩;rcases aE with⟨rfl,rfl⟩|aE
 ·exact f2
 ·rcases f2 with⟨rfl,rfl⟩|f2
  ·exact .inr aE
  ·exact .inr Ω
structure cY (C:ft) (st:br) (a:Act) (w:World) (ν:bg):Prop where
 good:Good C.pr w ν st.b st.e
 fr:qR C w ν
 defers:a.defers=[]
 size:a.tmps.size=C.N
 slot:∀i,bd w ν (get i st.t) (a.tmps.getD i undef)
 new:∀k,fresh st.n st.o k->ν.bx k=none/\ν.ow k=none/\∀j b,¬ν.tr k j b
def eZ(d:ba Nat)(p:ai)(t:List (Nat×ai)):List (Nat×ai):=
 match d with
 |some d=>put d p t
 |none=>t
def jD(N:Nat)(d:ba Nat):Bool:=match d with|some d=>decide (d<N)|none=>true
theorem cY.put{C:ft}{st:br}{a:Act}{w:World}{ν:bg}(h:cY C st a w ν){d:ba Nat}(aR:jD C.N d=true){p:ai}{v:Value}(bB:bd w ν p v):
  cY C {st with t:=eZ d p st.t} (a.put d v) w ν:=by
 cases d with
 |none=>exact h
 |some d=>
  have bD:d<a.tmps.size:=by rw[h.size];simpa[jD]using aR
  refine⟨h.good,h.fr,h.defers,by simpa[Act.put]using h.size,fun i=>?_,h.new⟩;simp only[eZ,pV];by_cases e:d=i
  ·subst e;simpa[Act.put,Array.getD_eq_getD_getElem?,bD]using bB
  ·have:=h.slot i;simpa[e,Act.put,Array.getD_eq_getD_getElem?,Array.getElem?_setIfInBounds_ne e]using this
theorem cY.over{C:ft}{st st':br}{a:Act}{w w':World}{ν bt:bg}(h:cY C st a w ν)(ay:lK w ν w' bt)(aN:st'.t=st.t)(a7:Good C.pr w' bt st'.b st'.e)(aJ:qR C w' bt)
  (ax:∀k,fresh st'.n st'.o k->bt.bx k=none/\bt.ow k=none/\∀j b,¬bt.tr k j b):cY C st' a w' bt:=
 ⟨a7,aJ,h.defers,h.size,fun i=>by rw[aN];exact zq ay (h.slot i),ax⟩
inductive dz where
 |t (i:Nat)
 |c (p:ai)
 deriving Inhabited
def cv(t:List (Nat×ai)):dz->ai
 | .t i=>get i t
 | .c p=>p
def Fw:ai->Value->Bool
 | .int k n,.int bT n'=>decide (k=bT/\n=n')
 | .bool b,.bool cb=>b==cb
 | .str s,.string l=>decide (l.data.toList=s/\s.length<=lim)
 | .slice _ .nil [],.slice none 0 0=>true
 | .nilp,.pointer none=>true
 | .tuple [],.tuple ⟨[]⟩=>true
 | .func f [],.func (.func g) ⟨[]⟩ ⟨[]⟩=>f==g
 | .junk,_=>true
 |_,_=>false
theorem Qg(w:World)(ν:bg){p:ai}{v:Value}(h:Fw p v=true):bd w ν p v:=by
 unfold Fw at h;split at h
 ·simp at h;obtain⟨rfl,rfl⟩:=h;simp[bd]
 ·simp at h;subst h;simp[bd]
 ·rename_i s l;simp at h;obtain⟨J,U⟩:=h;refine⟨?_,U⟩;subst J;simp
 ·simp only[bd];refine⟨⟨none,0,rfl,Ψ,Ψ,Ψ⟩,Ψ,(fun _ h=>by cases h),(fun _ _ h=>by cases h),(fun _ h=>by cases h)⟩
 ·simp[bd]
 ·simp[bd,cW]
 ·simp at h;subst h;simp[bd,cW]
 ·simp[bd]
 ·cases h
def zW:List ai->List Value->Bool
 |[],[]=>true
 |p::b0,v::bf=>Fw p v&&v.oneCell'&&zW b0 bf
 |_,_=>false
def zV:ai->Value->Bool
 | .agg cs,.agg us=>zW cs us.toList
 |p,v=>Fw p v
theorem Qh(w:World)(ν:bg):∀(b0:List ai) (bf:List Value),zW b0 bf=true->dc w ν b0 bf
 |[],[],_=>by simp[dc]
 |[],_::_,h=>by simp[zW]at h
 |_::_,[],h=>by simp[zW]at h
 |p::b0,v::bf,h=>by simp only[zW,cC]at h;simp only[dc];exact⟨v,bf,rfl,⟨Qg w ν h.1.1,h.1.2⟩,Qh w ν b0 bf h.2⟩
theorem JD(w:World)(ν:bg){p:ai}{v:Value}(h:zV p v=true):bd w ν p v:=by
 unfold zV at h;split at h
 ·simp only[bd];exact⟨_,rfl,Qh w ν _ _ h⟩
 ·exact Qg w ν h
def eu:dz->Operand->Bool
 | .t i,.tmp j=>i==j
 | .c p,.const v=>zV p v
 | .c (.func f []),.func g=>f==g
 |_,_=>false
theorem ev{C:ft}{st:br}{a:Act}{w:World}{ν:bg}(h:cY C st a w ν){x:dz}{o:Operand}(af:eu x o=true):bd w ν (cv st.t x) (a.eval o):=by
 unfold eu at af;split at af
 ·simp at af;subst af;simpa[cv,Act.eval]using h.slot _
 ·simpa[cv,Act.eval]using JD w ν af
 ·simp at af;subst af;simp[cv,Act.eval,bd,cW]
 ·cases af
inductive Cm where
 |int (k:IntKind)
 |bool
 |str
 |slice (e:Nat)
 |struct (ea:List (Nat×Nat))
 |map (k e:Nat)
 |other
 deriving DecidableEq
structure dH where
 size:Nat
 bytes:Nat
 kind:Cm
 zero:ai
def Cm.isAgg:Cm->Bool
 | .struct _=>true
 |_=>false
def Cd:List ai->List Value->Bool
 |[],[]=>true
 |p::b0,v::bf=>zV p v&&v.oneCell'&&Cd b0 bf
 |_,_=>false
def zI:ai->Value->Bool
 | .agg cs,.agg us=>Cd cs us.toList
 | .agg _,_=>false
 |p,v=>zV p v&&v.oneCell'
def kr:Cm->TypeDesc->Bool
 | .int k,.int bT=>decide (k=bT)
 | .bool,.bool=>true
 | .str,.string=>true
 | .slice e,.slice ff=>e==ff
 | .struct ea,.struct gs=>decide (gs.toList.map (fun f=>(f.offset,f.type))=ea)
 | .map k e,.map bT ff=>k==bT&&e==ff
 | .other,d=>match d with| .struct _| .array _ _| .int _| .bool| .string| .slice _=>false|_=>true
 |_,_=>false
def Tw(P:cG)(gs:Array Field):Bool:=gs.toList.all fun f=>match P.underlying f.type with|some (.int _)=>true|some .string=>true|_=>false
def SE(P:cG)(t:Nat)(gs:Array Field):Bool:=gs.toList.all (fun f=>f.name != "_")&& !P.stoodInHeld t&& !P.eqGuardType P.depth t
def J4(P:cG)(t:Nat):TypeDesc->Bool
 | .struct gs=> !Tw P gs||SE P t gs
 |_=>true
def OU(P:cG)(t:Nat)(f:dH):Bool:=
 match P.info? t,P.underlying t with
 |some i,some d=>J4 P t d&&i.size==f.size&&i.bytes==f.bytes&&kr f.kind d&&(match i.zero with|some z=>zI f.zero z&&z.cells.size==f.size|none=>false)
 |_,_=>false
def fS(P:cG)(bG:List (Nat×dH)):Bool:=bG.all fun x=>OU P x.1 x.2
def eo(bG:List (Nat×dH))(t:Nat):ba dH:=(bG.find? fun x=>x.1==t).map (·.2)
theorem apo{P:cG}{bG:List (Nat×dH)}(h:fS P bG=true){t:Nat}{f:dH}(aJ:eo bG t=some f):OU P t f=true:=by
 unfold eo at aJ;cases af:bG.find? fun x=>x.1==t with
 |none=>simp[af]at aJ
 |some x=>simp[af]at aJ;have J:=List.find?_some af;simp at J;have U:=List.mem_of_find?_eq_some af;have au:=ga.1 h x U;rw[<-aJ,<-J];exact au
structure aaT (P:cG) (t:Nat) (f:dH):Prop where
 cmp:∀d,P.underlying t=some d->J4 P t d=true
 ex:∃i d z,P.info? t=some i/\P.underlying t=some d/\i.size=f.size/\i.bytes=f.bytes/\kr f.kind d=true/\i.zero=some z/\zI f.zero z=true/\z.cells.size=f.size
theorem vY{P:cG}{bG:List (Nat×dH)}(h:fS P bG=true){t:Nat}{f:dH}(aJ:eo bG t=some f):aaT P t f:=by
 have h:=apo h aJ;unfold OU at h;split at h
 ·rename_i i d J U;simp only[cC,dV]at h;obtain⟨⟨⟨⟨bs,au⟩,a6⟩,b3⟩,c7⟩:=h;split at c7
  ·rename_i z bp;simp only[cC,dV]at c7;exact⟨fun cj k1=>by rw[U]at k1;cases k1;exact bs,i,d,z,J,U,au,a6,b3,bp,c7.1,c7.2⟩
  ·cases c7
 ·cases h
theorem pK(b o j:Nat):(⟨b,o,none⟩:Addr).add j=⟨b,o+j,none⟩:=by
 unfold Addr.add;split
 ·rename_i h;subst h;rfl
 ·rfl
theorem Pl(w:World)(ν:bg):∀(b0:List ai) (bf:List Value),Cd b0 bf=true->dc w ν b0 bf
 |[],[],_=>by simp[dc]
 |[],_::_,h=>by simp[Cd]at h
 |_::_,[],h=>by simp[Cd]at h
 |p::b0,v::bf,h=>by simp only[Cd,cC]at h;simp only[dc];exact⟨v,bf,rfl,⟨JD w ν h.1.1,h.1.2⟩,Pl w ν b0 bf h.2⟩
def cells:ai->List ai
 | .agg cs=>cs
 |p=>[p]
def eF:ai->Bool
 | .junk| .tuple _=>false
 | .cst (.slice _ _ _)| .cst (.string _)=>true
 | .cst _=>false
 |_=>true
theorem N9{w:World}{ν:bg}{p:ai}{v:Value}(h:bd w ν p v)(ag:eF p=true)(bu:∀cs,p≠ .agg cs):v.oneCell'=true/\v.cells= #[v]:=by
 cases p<;>simp only[bd,eF]at h ag;case junk=>cases ag
 case tuple=>cases ag
 case cst c=>subst h;cases v<;>first|exact⟨rfl,rfl⟩|cases ag
 case agg cs=>exact absurd rfl (bu cs)
 case int=>subst h;exact⟨rfl,rfl⟩
 case bool=>subst h;exact⟨rfl,rfl⟩
 case str=>rw[h.1];exact⟨rfl,rfl⟩
 case slice=>obtain⟨⟨a,cap,J,_⟩,_⟩:=h;subst J;exact⟨rfl,rfl⟩
 case ptr=>obtain⟨b,_,J⟩:=h;subst J;exact⟨rfl,rfl⟩
 case eptr=>obtain⟨b,o,u,J,_⟩:=h;subst J;exact⟨rfl,rfl⟩
 case iface=>obtain⟨u,J,_⟩:=h;subst J;exact⟨rfl,rfl⟩
 case nilp=>subst h;exact⟨rfl,rfl⟩
 case func=>obtain⟨us,J,_⟩:=h;subst J;exact⟨rfl,rfl⟩
 case gmap=>obtain⟨b,_,J⟩:=h;subst J;exact⟨rfl,rfl⟩
 case row=>obtain⟨⟨a,cap,J⟩,_⟩:=h;subst J;exact⟨rfl,rfl⟩
 case rptr=>obtain⟨⟨a,o,J⟩,_⟩:=h;subst J;exact⟨rfl,rfl⟩
theorem vM{w:World}{ν:bg}{p:ai}{v:Value}(h:bd w ν p v)(ag:eF p=true):dc w ν (cells p) v.cells.toList:=by
 by_cases bu:∃cs,p= .agg cs
 ·obtain⟨cs,rfl⟩:=bu;simp only[bd]at h;obtain⟨us,rfl,U⟩:=h;simpa[cells,pB]using U
 ·have nz:∀cs,p≠ .agg cs:=fun cs e=>bu ⟨cs,e⟩;obtain⟨J,U⟩:=N9 h ag nz;have aw:cells p=[p]:=by cases p<;>first|rfl|exact absurd rfl (nz _)
  rw[aw,U];simp only[dc];exact⟨v,[],rfl,⟨h,J⟩,rfl⟩
theorem BS{w:World}{ν:bg}:∀{b0:List ai} {bf:List Value},dc w ν b0 bf->∀c∈bf,c.oneCell'=true
 |[],bf,h=>by simp only[dc]at h;subst h;simp
 |p::b0,bf,h=>by
  simp only[dc]at h;obtain⟨u,ct,rfl,J,U⟩:=h;intro c aw;rcases fA.1 aw with rfl|aw
  ·exact J.2
  ·exact BS U c aw
theorem qb{w:World}{ν:bg}:∀{b0:List ai} {bf:List Value},dc w ν b0 bf->bf.length=b0.length
 |[],bf,h=>by simp only[dc]at h;subst h;rfl
 |p::b0,bf,h=>by simp only[dc]at h;obtain⟨u,ct,rfl,_,U⟩:=h;simp[qb U]
theorem BR{w:World}{ν:bg}:∀(n:Nat) {b0:List ai} {bf:List Value},dc w ν b0 bf->dc w ν (b0.drop n) (bf.drop n)
 |0,_,_,h=>by simpa using h
 |n+1,[],bf,h=>by simp only[dc]at h;subst h;simp[dc]
 |n+1,p::b0,bf,h=>by simp only[dc]at h;obtain⟨u,ct,rfl,_,U⟩:=h;simpa using BR n U
theorem Ez{w:World}{ν:bg}:∀(n:Nat) {b0:List ai} {bf:List Value},dc w ν b0 bf->dc w ν (b0.take n) (bf.take n)
 |0,_,_,_=>by simp[dc]
 |n+1,[],bf,h=>by simp only[dc]at h;subst h;simp[dc]
 |n+1,p::b0,bf,h=>by simp only[dc]at h;obtain⟨u,ct,rfl,J,U⟩:=h;simp only[List.take_succ_cons,dc];exact⟨u,_,rfl,J,Ez n U⟩
theorem zo{w:World}{ν:bg}:∀{b0 bM:List ai} {bf us:List Value},dc w ν b0 bf->dc w ν bM us->dc w ν (b0++bM) (bf++us)
 |[],bM,bf,us,h,cf=>by simp only[dc]at h;subst h;simpa using cf
 |p::b0,bM,bf,us,h,cf=>by simp only[dc]at h;obtain⟨u,ct,rfl,J,U⟩:=h;simp only[bZ,dc];exact⟨u,_,rfl,J,zo U cf⟩
theorem Ey{w:World}{ν:bg}:∀(n:Nat) {b0:List ai} {bf:List Value} {p:ai},dc w ν b0 bf->b0[n]? =some p->∃v,bf[n]? =some v/\bd w ν p v/\v.oneCell'=true
 |n,[],_,p,_,bB=>by simp at bB
 |0,q::b0,bf,p,h,bB=>by simp only[dc]at h;obtain⟨u,ct,rfl,J,_⟩:=h;simp at bB;subst bB;exact⟨u,rfl,J.1,J.2⟩
 |n+1,q::b0,bf,p,h,bB=>by simp only[dc]at h;obtain⟨u,ct,rfl,_,U⟩:=h;simpa using Ey n U (by simpa using bB)
theorem Ik{w:World}{ν:bg}:∀(n:Nat) {b0:List ai} {bf:List Value} {p:ai},cW w ν b0 bf->b0[n]? =some p->∃v,bf[n]? =some v/\bd w ν p v
 |n,[],_,p,_,bB=>by simp at bB
 |0,q::b0,bf,p,h,bB=>by simp only[cW]at h;obtain⟨u,ct,rfl,J,_⟩:=h;simp at bB;subst bB;exact⟨u,rfl,J⟩
 |n+1,q::b0,bf,p,h,bB=>by simp only[cW]at h;obtain⟨u,ct,rfl,_,U⟩:=h;simpa using Ik n U (by simpa using bB)
theorem vv{w:World}{A:Nat->Nat->Prop}{b:Nat}:∀{us:List Value} {off j:Nat} {u:Value},l1 w A b off us->us[j]? =some u->A b (off+j)/\w.cell? ⟨b,off+j,none⟩=some u
 |[],_,_,_,_,h=>by simp at h
 |x::us,off,0,u,ar,h=>by simp at h;subst h;exact ar.1
 |x::us,off,j+1,u,ar,h=>by have:=vv (j:=j) ar.2 (by simpa using h);rwa[show off+1+j=off+(j+1)from by omega]at this
theorem Hh{w:World}{A:Nat->Nat->Prop}{b:Nat}:∀(n:Nat) {us:List Value} {off:Nat},l1 w A b off us->l1 w A b (off+n) (us.drop n)
 |0,_,_,h=>by simpa using h
 |n+1,[],_,_=>by simp[l1]
 |n+1,x::us,off,h=>by have:=Hh n h.2;rw[show off+(n+1)=off+1+n from by omega];simpa using this
theorem Hj{w:World}{A:Nat->Nat->Prop}{b:Nat}:∀(n:Nat) {us:List Value} {off:Nat},l1 w A b off us->l1 w A b off (us.take n)
 |0,_,_,_=>by simp[l1]
 |n+1,[],_,_=>by simp[l1]
 |n+1,x::us,off,h=>by simp only[List.take_succ_cons];exact⟨h.1,Hj n h.2⟩
theorem aop{P:cG}{w:World}{A:Nat->Nat->Prop}{b off:Nat}{us:List Value}(h:l1 w A b off us):(loadCells ⟨b,off,none⟩ us.length).run P w= .ok us.toArray w:=run_loadCells_list w _ us fun j v ae=>by rw[pK];exact(vv h ae).2
theorem aoo{P:cG}{w:World}{b off n:Nat}{us:Array Value}{el:fZ}{fr:Nat×Nat}(h:w.heap[b]? =some (.cells us el fr))(ax:off+n<=us.size):
  (loadCells ⟨b,off,none⟩ n).run P w= .ok ((us.toList.drop off).take n).toArray w:=by
 have ar:((us.toList.drop off).take n).length=n:=by simp;omega
 have:=run_loadCells_list (P:=P) w ⟨b,off,none⟩ ((us.toList.drop off).take n) fun j v ae=>by
  rw[pK];have ahL:j<n:=by have:=(eP.1 ae).1;omega
  simp only[World.cell?,h,mc,hl,if_false];rw[List.getElem?_take]at ae;simpa[ahL]using ae
 rw[ar]at this;exact this
theorem SR{α:Type}(l r:List α)(n sz:Nat)(h:l.length=sz):(l++r).drop ((n+1)*sz)=r.drop (n*sz):=by
 have e:(n+1)*sz=l.length+n*sz:=by rw[h,Nat.succ_mul,Nat.add_comm]
 rw[e,<-List.drop_drop];simp
theorem Zn{α:Type}(l r:List α)(n sz:Nat)(h:l.length=sz):(l++r).take ((n+1)*sz)=l++r.take (n*sz):=by
 have e:(n+1)*sz=l.length+n*sz:=by rw[h,Nat.succ_mul,Nat.add_comm]
 rw[e,List.take_length_add_append]
theorem If{w:World}{ν:bg}{sz:Nat}:∀(i:Nat) {xs:List ai} {us:List Value} {p:ai},dK w ν sz xs us->xs[i]? =some p->
  ∃u,bd w ν p u/\u.cells.size=sz/\u.cells.toList=(us.drop (i*sz)).take sz
 |i,[],_,p,_,bB=>by simp at bB
 |0,x::xs,us,p,h,bB=>by
  simp only[dK]at h;obtain⟨u,ct,rfl,⟨J,U,au⟩,_⟩:=h;simp at bB;subst bB;refine⟨u,J,U,?_⟩;have:u.cells.toList.length=sz:=by simpa using U
  simp[<-this]
 |i+1,x::xs,us,p,h,bB=>by
  simp only[dK]at h;obtain⟨u,ct,rfl,⟨_,U,_⟩,b3⟩:=h;obtain⟨v,g1,g2,g3⟩:=If i b3 (by simpa using bB);refine⟨v,g1,g2,?_⟩;have:u.cells.toList.length=sz:=by simpa using U
  rw[g3,SR _ _ _ _ this]
theorem ui{w:World}{ν:bg}{sz:Nat}:∀{xs:List ai} {us:List Value},dK w ν sz xs us->us.length=xs.length*sz
 |[],us,h=>by simp only[dK]at h;subst h;simp
 |x::xs,us,h=>by
  simp only[dK]at h;obtain⟨u,ct,rfl,⟨_,U,_⟩,b3⟩:=h;have:u.cells.toList.length=sz:=by simpa using U
  rw[pC,this,ui b3,pD,Nat.succ_mul];omega
theorem zn{w:World}{ν:bg}{sz:Nat}:∀{xs:List ai} {us:List Value},dK w ν sz xs us->∀c∈us,c.oneCell'=true
 |[],us,h=>by simp only[dK]at h;subst h;simp
 |x::xs,us,h=>by
  simp only[dK]at h;obtain⟨u,ct,rfl,⟨_,_,au⟩,b3⟩:=h;intro c aw;rcases kn.1 aw with aw|aw
  ·exact au c aw
  ·exact zn b3 c aw
theorem Ex{w:World}{ν:bg}{sz:Nat}:∀{b0 bM:List ai} {bf us:List Value},dK w ν sz b0 bf->dK w ν sz bM us->dK w ν sz (b0++bM) (bf++us)
 |[],bM,bf,us,h,cf=>by simp only[dK]at h;subst h;simpa using cf
 |p::b0,bM,bf,us,h,cf=>by simp only[dK]at h;obtain⟨u,ct,rfl,J,U⟩:=h;simp only[bZ,dK];exact⟨u,ct++us,Ψ,J,Ex U cf⟩
theorem YB{w:World}{ν:bg}{sz:Nat}:∀(n:Nat) {xs:List ai} {us:List Value},dK w ν sz xs us->dK w ν sz (xs.drop n) (us.drop (n*sz))
 |0,_,_,h=>by simpa using h
 |n+1,[],us,h=>by simp only[dK]at h;subst h;simp[dK]
 |n+1,x::xs,us,h=>by
  simp only[dK]at h;obtain⟨u,ct,rfl,⟨_,U,_⟩,b3⟩:=h;have:u.cells.toList.length=sz:=by simpa using U
  rw[SR _ _ _ _ this];simpa using YB n b3
theorem YE{w:World}{ν:bg}{sz:Nat}:∀(n:Nat) {xs:List ai} {us:List Value},dK w ν sz xs us->dK w ν sz (xs.take n) (us.take (n*sz))
 |0,_,_,_=>by simp[dK]
 |n+1,[],us,h=>by simp only[dK]at h;subst h;simp[dK]
 |n+1,x::xs,us,h=>by
  simp only[dK]at h;obtain⟨u,ct,rfl,⟨J,U,au⟩,b3⟩:=h;have:u.cells.toList.length=sz:=by simpa using U
  simp only[List.take_succ_cons,dK];refine⟨u,ct.take (n*sz),?_,⟨J,U,au⟩,YE n b3⟩;rw[Zn _ _ _ _ this]
def isAgg(sz:Nat)(p:ai):Prop:= ∃cs,p= .agg cs/\cs.length=sz
def zs(agg:Bool)(sz dT n i f:Nat):ba fY->ba (Prop×ai)
 |some ⟨n',_,jz,some xs⟩=>if n'=n/\jz=dT then
   (match xs[i]? with
    |some p=>if agg then some (eF p=true/\f+sz<=(cells p).length,.agg (((cells p).drop f).take sz))else((cells p)[f]?).map fun q=>(eF p=true,q)
    |none=>none)else none
 |_=>none
def mW(b:List (aI×List ai))(e:List (aI×fY))(agg:Bool)(sz:Nat):ai->ba (Prop×ai)
 | .rptr dT k n i f=>zs agg sz dT n i f (look k e)
 | .ptr k off=>
  match look k b with
  |some cs=>if agg then some (gG cs=true/\off+sz<=cs.length,.agg ((cs.drop off).take sz))else(cs[off]?).map fun p=>(gG cs=true,p)
  |none=>none
 | .eptr p=>if agg then some (isAgg sz p,p)else some (eF p=true/\cells p=[p],p)
 |_=>none
def CT(agg:Bool)(sz:Nat):ai->ba (Prop×ai)
 | .eptr p=>if agg then some (isAgg sz p,p)else some (eF p=true/\cells p=[p],p)
 |_=>none
theorem afX{b:List (aI×List ai)}{e:List (aI×fY)}{agg:Bool}{sz:Nat}{p:ai}{r:Prop×ai}(h:CT agg sz p=some r):mW b e agg sz p=some r:=by
 cases p<;>simp only[CT]at h<;>first|cases h;done|skip
 simpa only[mW]using h
theorem ajJ{b:List (aI×List ai)}{e:List (aI×fY)}{agg:Bool}{sz:Nat}{p:ai}{r:Prop×ai}(h:mW b [] agg sz p=some r):mW b e agg sz p=some r:=by cases p<;>simp only[mW]at h⊢ <;>first|exact h|(simp[look,zs]at h)
def q5(off:Nat)(agg:Bool)(sz:Nat):ai->ba (Prop×ai)
 | .ptr k o=>some (True,.ptr k (o+off))
 | .rptr dT k n i f=>some (True,.rptr dT k n i (f+off))
 | .eptr (.agg cs)=>if agg then some (off+sz<=cs.length,.eptr (.agg ((cs.drop off).take sz)))else(cs[off]?).map fun p=>(eF p=true/\cells p=[p],.eptr p)
 |_=>none
def u3(off:Nat)(agg:Bool)(sz:Nat):ai->ba (Prop×ai)
 | .agg cs=>if agg then some (off+sz<=cs.length,.agg ((cs.drop off).take sz))else(cs[off]?).map fun p=>(True,p)
 |_=>none
def A4(sz:Nat):ai->ai->ba (Prop×ai)
 | .slice dT _ xs,.int _ i=>if dT=sz then some (0<=i/\i<xs.length,.eptr (xs.getD i.toNat .junk))else none
 | .row dT k n,.int _ i=>if dT=sz then some (0<=i/\i<n,.rptr dT k n i.toNat 0)else none
 |_,_=>none
def Ix:ai->ai->ba (Prop×ai)
 | .str s,.int _ i=>some (0<=i/\i<s.length,.int .u8 (s.getD i.toNat 0).toNat)
 |_,_=>none
def rr(FZ:Int):ba ai->ba Int
 |none=>some FZ
 |some (.int _ i)=>some i
 |_=>none
def IC(x:ai)(lo hi:ba ai):ba (Prop×ai):=
 match x with
 | .str s=>match rr 0 lo,rr s.length hi with
  |some l,some h=>some (0<=l/\l<=h/\h<=s.length,.str ((s.take h.toNat).drop l.toNat))
  |_,_=>none
 |_=>none
def Hp(sz:Nat)(x:ai)(lo hi:ba ai):ba (Prop×ai):=
 match x with
 | .slice dT _ xs=>if dT=sz then match rr 0 lo,rr xs.length hi with
  |some l,some h=>some (0<=l/\l<=h/\h<=xs.length,.slice sz .no ((xs.take h.toNat).drop l.toNat))
  |_,_=>none else none
 |_=>none
def tQ(n:Int):Prop:= -9223372036854775808<=n/\n<=9223372036854775807
def GY(op:BinOp)(wr:Bool)(k:IntKind)(a b:Int):ba (Prop×ai):=
 match op with
 | .add=>if wr then some (True,.int k (k.wrap (a+b)))else some (k= .i64/\tQ (a+b),.int .i64 (a+b))
 | .sub=>if wr then some (True,.int k (k.wrap (a-b)))else some (k= .i64/\tQ (a-b),.int .i64 (a-b))
 | .mul=>if wr then some (True,.int k (k.wrap (a*b)))else some (k= .i64/\tQ (a*b),.int .i64 (a*b))
 | .quo=>some (b≠0,.int k (k.wrap (a.tdiv b)))
 | .rem=>some (b≠0,.int k (a.tmod b))
 | .eql=>some (True,.bool (a==b))
 | .neq=>some (True,.bool (a !=b))
 | .lss=>some (True,.bool (decide (a<b)))
 | .leq=>some (True,.bool (decide (a<=b)))
 | .gtr=>some (True,.bool (decide (b<a)))
 | .geq=>some (True,.bool (decide (b<=a)))
 | .and=>some (True,.int k (k.wrap (qN k.bits a&&& qN k.bits b).toNat))
 | .or=>some (True,.int k (k.wrap (qN k.bits a|||qN k.bits b).toNat))
 | .xor=>some (True,.int k (k.wrap (qN k.bits a ^^^ qN k.bits b).toNat))
 |_=>none
def ID(op:BinOp)(a b:List dM):ba (Prop×ai):=
 match op with
 | .add=>some (a.length+b.length<=lim,.str (a++b))
 | .eql=>some (True,.bool (a==b))
 | .neq=>some (True,.bool (!(a==b)))
 | .lss=>some (True,.bool (hF a b))
 | .leq=>some (True,.bool (hF a b||a==b))
 | .gtr=>some (True,.bool (!(hF a b||a==b)))
 | .geq=>some (True,.bool (!hF a b))
 |_=>none
def Cu(op:BinOp)(wr:Bool):ai->ai->ba (Prop×ai)
 | .int k a,.int bT b=>match op with
  | .shl=>some (0<=b,.int k (k.wrap (a*2 ^ (min b.toNat k.bits))))
  | .shr=>some (0<=b,.int k (a.fdiv (2 ^ (min b.toNat k.bits))))
  |_=>if k=bT then GY op wr k a b else none
 | .str a,.str b=>ID op a b
 |_,_=>none
def oA(cs:List ai)(off:Nat)(b0:List ai):List ai:=cs.take off++b0++cs.drop (off+b0.length)
def uS(t:List (Nat×ai)):List ai->List (Nat×Nat×dz)->ba (Prop×List ai)
 |cs,[]=>some (True,cs)
 |cs,(off,sz,x)::r=>
  let p:=cv t x
  match uS t (oA cs off (cells p)) r with
  |some (c,cs')=>some ((eF p=true/\(cells p).length=sz/\off+sz<=cs.length)/\c,cs')
  |none=>none
def HQ(c x y:ai):ba (Prop×ai):=
 match c with
 | .bool b=>match x,y with
  | .bool u,.bool v=>some (True,.bool (cond b u v))
  |p,q=>match b with
   |true=>some (True,p)
   |false=>some (True,q)
 |_=>none
def HD:ai->ba (Prop×ai)
 | .bool b=>some (True,.bool (!b))
 |_=>none
def Hy:ai->ba (Prop×ai)
 | .int k n=>some (True,.int k (k.wrap (0-n)))
 |_=>none
def Ag(i:Nat):ai->ba (Prop×ai)
 | .tuple bf=>(bf[i]?).map fun p=>(True,p)
 |_=>none
def Bg:ai->ba (Prop×ai)
 | .slice _ _ xs=>some (True,.int .i64 xs.length)
 | .row _ _ n=>some (True,.int .i64 n)
 | .cst (.slice _ n _)=>some (True,.int .i64 n)
 |_=>none
def EK:ai->ba (Prop×ai)
 | .str s=>some (True,.int .i64 s.length)
 | .cst (.string s)=>some (True,.int .i64 s.size)
 |_=>none
def FW(k:IntKind):ai->ba (Prop×ai)
 | .int _ n=>some (True,.int k (k.wrap n))
 |_=>none
def Br:ai->ba (Prop×ai)
 | .ptr k o=>some (True,.ptr k o)
 | .eptr p=>some (True,.eptr p)
 | .func f cs=>some (True,.func f cs)
 |_=>none
def Hx:ai->ai->ba (Prop×ai)
 | .int k a,.int bT b=>if k=bT then some (True,.int k (if b<a then b else a))else none
 |_,_=>none
def kq:List Bool->List ai->List ai->ba Bool
 |[],[],[]=>some true
 |false::r,.int k a::as,.int bT b::e0=>if k=bT then(kq r as e0).map fun q=>(a==b)&&q else none
 |true::r,.str a::as,.str b::e0=>(kq r as e0).map fun q=>(a==b)&&q
 |_,_,_=>none
inductive jL where
 |i
 |s
 |a (ea:List Bool)
 deriving DecidableEq
def tV:jL->ai->ai->ba Bool
 | .i,.int k a,.int bT b=>if k=bT then some (a==b)else none
 | .s,.str a,.str b=>some (a==b)
 | .a ea,.agg as,.agg e0=>kq ea as e0
 |_,_,_=>none
def w4:jL->ai->Bool
 | .a ea,.agg as=>(kq ea as as).isSome
 | .a _,_=>false
 |_,_=>true
@[simp]theorem VO(k:ai):w4 .i k=true:=by cases k<;>rfl
def xd(ck:jL)(k:ai):List ai->ba (ba ai)
 |bT::v::r=>match tV ck k bT with
  |some true=>some (some v)
  |some false=>xd ck k r
  |none=>none
 |_=>some none
def nM(b:aI->ba (List ai))(ck:jL)(zero:ai)(ok:Bool)(x k:ai):ba (Prop×ai):=
 match x with
 | .gmap key=>match b key with
  |some (.hdm _ _::kvs)=>if w4 ck k=false then none else match xd ck k kvs with
   |some (some v)=>some (True,if ok then .tuple [v,.bool true]else v)
   |some none=>some (True,if ok then .tuple [zero,.bool false]else zero)
   |none=>none
  |_=>none
 |_=>none
def Bq(b:aI->ba (List ai))(x:ai):ba (Prop×ai):=
 match x with
 | .gmap key=>match b key with
  |some (.hdm _ borns::_)=>some (True,.int .i64 borns.length)
  |_=>none
 |_=>none
def iH(neg:Bool):ba (List Bool)->ai->ai->ba (Prop×ai)
 |none,.bool a,.bool b=>some (True,.bool (if neg then a !=b else a==b))
 |some ea,.agg as,.agg e0=>(kq ea as e0).map fun q=>(True,.bool (if neg then !q else q))
 |_,_,_=>none
def Ht:ai->ai->ba (Prop×ai)
 | .int k a,.int bT b=>if k=bT then some (True,.int k (if a<b then b else a))else none
 |_,_=>none
def vB(ck:jL)(k v:ai):List ai->ba (ba (List ai))
 |bT::v'::r=>match tV ck k bT with
  |some true=>some (some (k::v::r))
  |some false=>match vB ck k v r with
   |some (some eT)=>some (some (bT::v'::eT))
   |some none=>some none
   |none=>none
  |none=>none
 |_=>some none
def mX(n:Nat):List Nat->List ai->ba ai
 |b::e0,k::v::r=>if b=n then some (.tuple [k,v])else mX n e0 r
 |_,_=>none
def ov(b:aI->ba (List ai))(x:ai):ba (Prop×ai):=
 match x with
 | .ptr eR 0=>match b eR with
  |some [.hdi _ seen last,.gmap mk]=>match b mk with
   |some (.hdm clock borns::kvs)=>match seen.getLast? with
    |some n=>(mX n borns kvs).map fun p=>(clock=last,p)
    |none=>none
   |_=>none
  |_=>none
 |_=>none
theorem WC{f g:aI->ba (List ai)}(h:∀k,f k≠none->g k=f k){ck:jL}{zero:ai}{ok:Bool}{x k:ai}{r:Prop×ai}(he:nM f ck zero ok x k=some r):nM g ck zero ok x k=some r:=by
 unfold nM at he⊢;split at he
 ·rename_i key;cases aJ:f key with
  |none=>simp[aJ]at he
  |some cs=>rw[h key (by rw[aJ];simp),aJ];rw[aJ]at he;exact he
 ·cases he
theorem akj{f g:aI->ba (List ai)}(h:∀k,f k≠none->g k=f k){x:ai}{r:Prop×ai}(he:Bq f x=some r):Bq g x=some r:=by
 unfold Bq at he⊢;split at he
 ·rename_i key;cases aJ:f key with
  |none=>simp[aJ]at he
  |some cs=>rw[h key (by rw[aJ];simp),aJ];rw[aJ]at he;exact he
 ·cases he
theorem ajY{f g:aI->ba (List ai)}(h:∀k,f k≠none->g k=f k){x:ai}{r:Prop×ai}(he:ov f x=some r):ov g x=some r:=by
 unfold ov at he⊢;split at he
 ·rename_i eR;cases aJ:f eR with
  |none=>simp[aJ]at he
  |some cs=>
   simp only[h eR (by rw[aJ];simp),aJ]at he⊢;split at he
   ·rename_i since seen last mk dw;cases vd:f mk with
    |none=>simp[vd]at he
    |some eV=>simp only[h mk (by rw[vd];simp),vd]at he⊢;exact he
   ·cases he
 ·cases he
inductive gd where
 |mov (x:dz)
 |pick (c x y:dz)
 |load (agg:Bool) (sz:Nat) (x:dz)
 |faddr (off:Nat) (agg:Bool) (sz:Nat) (x:dz)
 |fld (off:Nat) (agg:Bool) (sz:Nat) (x:dz)
 |iaddr (sz:Nat) (x i:dz)
 |sidx (x i:dz)
 |ssl (x:dz) (lo hi:ba dz)
 |lsl (sz:Nat) (x:dz) (lo hi:ba dz)
 |bin (op:BinOp) (wr:Bool) (x y:dz)
 |notB (x:dz)
 |neg (x:dz)
 |conv (k:IntKind) (x:dz)
 |ext (i:Nat) (x:dz)
 |len (x:dz)
 |slen (x:dz)
 |build (zero:List ai) (parts:List (Nat×Nat×dz))
 |nck (x:dz)
 |min2 (x y:dz)
 |mkf (n:Nat) (xs:List dz)
 |mget (ck:jL) (zero:ai) (ok:Bool) (x k:dz)
 |ment (x:dz)
 |mlen (x:dz)
 |beq (neg:Bool) (ea:ba (List Bool)) (x y:dz)
 |max2 (x y:dz)
 |mkif (t:Nat) (x:dz)
 |loadB (agg:Bool) (sz:Nat) (x:dz)
 |mgetB (ck:jL) (zero:ai) (ok:Bool) (x k:dz)
 |loadZ (agg:Bool) (sz:Nat) (x:dz)
def hy(st:br):gd->ba (Prop×ai)
 | .mov x=>some (True,cv st.t x)
 | .pick c x y=>HQ (cv st.t c) (cv st.t x) (cv st.t y)
 | .load agg sz x=>mW st.b st.e agg sz (cv st.t x)
 | .faddr off agg sz x=>q5 off agg sz (cv st.t x)
 | .fld off agg sz x=>u3 off agg sz (cv st.t x)
 | .iaddr sz x i=>A4 sz (cv st.t x) (cv st.t i)
 | .sidx x i=>Ix (cv st.t x) (cv st.t i)
 | .ssl x lo hi=>IC (cv st.t x) (lo.map (cv st.t)) (hi.map (cv st.t))
 | .lsl sz x lo hi=>Hp sz (cv st.t x) (lo.map (cv st.t)) (hi.map (cv st.t))
 | .bin op wr x y=>Cu op wr (cv st.t x) (cv st.t y)
 | .notB x=>HD (cv st.t x)
 | .neg x=>Hy (cv st.t x)
 | .conv k x=>FW k (cv st.t x)
 | .ext i x=>Ag i (cv st.t x)
 | .len x=>Bg (cv st.t x)
 | .slen x=>EK (cv st.t x)
 | .build zero parts=>(uS st.t zero parts).map fun(c,cs)=>(c,.agg cs)
 | .nck x=>Br (cv st.t x)
 | .min2 x y=>Hx (cv st.t x) (cv st.t y)
 | .mkf n xs=>some (True,.func n (xs.map (cv st.t)))
 | .mget ck zero ok x k=>nM (fun k=>look k st.b) ck zero ok (cv st.t x) (cv st.t k)
 | .ment x=>ov (fun k=>look k st.b) (cv st.t x)
 | .mlen x=>Bq (fun k=>look k st.b) (cv st.t x)
 | .beq neg ea x y=>iH neg ea (cv st.t x) (cv st.t y)
 | .max2 x y=>Ht (cv st.t x) (cv st.t y)
 | .mkif t x=>some (True,.iface t (cv st.t x))
 | .loadB agg sz x=>mW st.b [] agg sz (cv st.t x)
 | .mgetB ck zero ok x k=>nM (fun k=>look k st.b) ck zero ok (cv st.t x) (cv st.t k)
 | .loadZ agg sz x=>CT agg sz (cv st.t x)
def BC(bG:List (Nat×dH))(ea:List (Nat×Nat)):List (Nat×Nat×dz)->List (Nat×Operand)->Bool
 |[],[]=>true
 |(off,sz,x)::r,(i,o)::s=>(match ea[i]? with|some (xh,t)=>off==xh&&((eo bG t).map (·.size))==some sz|none=>false)&&eu x o&&BC bG ea r s
 |_,_=>false
def I2:ai->ai->Bool
 | .int k n,.int bT n'=>decide (k=bT/\n=n')
 | .bool b,.bool cb=>b==cb
 | .str [],.str []=>true
 | .slice a .nil [],.slice b .nil []=>a==b
 | .nilp,.nilp=>true
 | .junk,.junk=>true
 |_,_=>false
def zH:List ai->List ai->Bool
 |[],[]=>true
 |c::cs,d::eV=>I2 c d&&zH cs eV
 |_,_=>false
def Ce:ai->ai->Bool
 | .agg cs,.agg eV=>zH cs eV
 | .agg _,_=>false
 |p,q=>I2 p q
def ze:List dz->List Operand->Bool
 |[],[]=>true
 |x::xs,o::os=>eu x o&&ze xs os
 |_,_=>false
def Ao(bG:List (Nat×dH)):Nat->List Bool->List (Nat×Nat)->Bool
 |_,[],[]=>true
 |n,b::r,(off,t)::ea=>off==n&&(match eo bG t with|some ⟨_,_,.int _,_⟩=> !b|some ⟨_,_,.str,_⟩=>b|_=>false)&&Ao bG (n+1) r ea
 |_,_,_=>false
def Gc(bG:List (Nat×dH))(ea:List Bool)(t:Nat):Bool:=match eo bG t with
 |some ⟨_,_,.struct gs,_⟩=>Ao bG 0 ea gs
 |_=>false
def yT(bG:List (Nat×dH))(ck:jL)(t:Nat):Bool:=match ck with
 | .i=>(match eo bG t with|some ⟨_,_,.int _,_⟩=>true|_=>false)
 | .s=>(match eo bG t with|some ⟨_,_,.str,_⟩=>true|_=>false)
 | .a ea=>Gc bG ea t
def Po:List ai->ai->Bool
 |cs,.agg eV=>zH cs eV
 |_,_=>false
def xk:ba dz->ba Operand->Bool
 |none,none=>true
 |some x,some o=>eu x o
 |_,_=>false
def EW(bG:List (Nat×dH)):gd->Op->Bool
 | .mov x,.move o=>eu x o
 | .mov x,.assign o=>eu x o
 | .pick c x y,.pick cw Cc aaq=>eu c cw&&eu x Cc&&eu y aaq
 | .load agg sz x,.load t o=>(match eo bG t with|some f=>f.size==sz&&f.kind.isAgg==agg|none=>false)&&eu x o
 | .faddr off agg sz x,.fieldAddr s o i=>
  (match eo bG s with
   |some ⟨_,_,.struct ea,_⟩=>(match ea[i]? with|some (xh,t)=>off==xh&&(match eo bG t with|some f=>f.size==sz&&f.kind.isAgg==agg&&sz !=0|none=>false)|none=>false)
   |_=>false)&&eu x o
 | .fld off agg sz x,.field s o i=>
  (match eo bG s with
   |some ⟨_,_,.struct ea,_⟩=>(match ea[i]? with|some (xh,t)=>off==xh&&(match eo bG t with|some f=>f.size==sz&&f.kind.isAgg==agg|none=>false)|none=>false)
   |_=>false)&&eu x o
 | .iaddr sz x i,.indexAddr t o j=>(match eo bG t with|some ⟨_,_,.slice e,_⟩=>(match eo bG e with|some f=>f.size==sz|none=>false)|_=>false)&&eu x o&&eu i j
 | .sidx x i,.index t o j=>(match eo bG t with|some ⟨_,_,.str,_⟩=>true|_=>false)&&eu x o&&eu i j
 | .ssl x lo hi,.slice t o l h none=>(match eo bG t with|some ⟨_,_,.str,_⟩=>true|_=>false)&&eu x o&&xk lo l&&xk hi h
 | .lsl sz x lo hi,.slice t o l h none=>(match eo bG t with|some ⟨_,_,.slice e,_⟩=>(match eo bG e with|some f=>f.size==sz|none=>false)|_=>false)&&eu x o&&xk lo l&&xk hi h
 | .bin op _ x y,.binOp Xl _ o o' _=>decide (op=Xl)&&eu x o&&eu y o'
 | .notB x,.unOp op _ o=>decide (op= .not)&&eu x o
 | .neg x,.unOp op _ o=>decide (op= .neg)&&eu x o
 | .conv k x,.convert s d o=>(match eo bG s,eo bG d with|some ⟨_,_,.int _,_⟩,some ⟨_,_,.int bT,_⟩=>decide (k=bT)|_,_=>false)&&eu x o
 | .ext i x,.extract o j=>i==j&&eu x o
 | .len x,.call ⟨.builtin .len,⟨[o]⟩,⟨[t]⟩⟩=>(match eo bG t with|some ⟨_,_,.slice _,_⟩=>true|_=>false)&&eu x o
 | .slen x,.call ⟨.builtin .len,⟨[o]⟩,⟨[t]⟩⟩=>(match eo bG t with|some ⟨_,_,.str,_⟩=>true|_=>false)&&eu x o
 | .build zero parts,.build t b0=>(match eo bG t with|some ⟨_,_,.struct ea,z⟩=>Po zero z&&(ea.all fun x=>(eo bG x.2).isSome)&&BC bG ea parts b0.toList|_=>false)
 | .nck x,.nilCheck o=>eu x o
 | .min2 x y,.call ⟨.builtin .min,⟨[o,o']⟩,⟨[_,_]⟩⟩=>eu x o&&eu y o'
 | .mkf n xs,.makeFunc (.func m) ⟨[]⟩ os=>n==m&&ze xs os.toList
 | .mget ck zero ok x k,.lookup t o o' HE=>ok==HE&&(match eo bG t with|some ⟨_,_,.map mV pS,_⟩=>yT bG ck mV&&(match eo bG pS with|some f=>Ce zero f.zero|none=>false)|_=>false)&&eu x o&&eu k o'
 | .ment x,.entry o=>eu x o
 | .mlen x,.call ⟨.builtin .len,⟨[o]⟩,⟨[t]⟩⟩=>(match eo bG t with|some ⟨_,_,.map _ _,_⟩=>true|_=>false)&&eu x o
 | .beq neg ea x y,.binOp op t o o' _=>decide (op=if neg then .neq else .eql)&&(match ea with|none=>(match eo bG t with|some ⟨_,_,.bool,_⟩=>true|_=>false)|some ea=>Gc bG ea t)&&eu x o&&eu y o'
 | .max2 x y,.call ⟨.builtin .max,⟨[o,o']⟩,⟨[_,_]⟩⟩=>eu x o&&eu y o'
 | .mkif t x,.makeInterface dZ o=>t==dZ&&(match eo bG t with|some ⟨_,_,.slice _,_⟩=>true|_=>false)&&eu x o
 | .loadB agg sz x,.load t o=>(match eo bG t with|some f=>f.size==sz&&f.kind.isAgg==agg|none=>false)&&eu x o
 | .loadZ agg sz x,.load t o=>(match eo bG t with|some f=>f.size==sz&&f.kind.isAgg==agg|none=>false)&&eu x o
 | .mgetB ck zero ok x k,.lookup t o o' HE=>ok==HE&&(match eo bG t with|some ⟨_,_,.map mV pS,_⟩=>yT bG ck mV&&(match eo bG pS with|some f=>Ce zero f.zero|none=>false)|_=>false)&&eu x o&&eu k o'
 |_,_=>false
end
section
open Go Go.RowKit
theorem Kk(P:cG)(w:World)(op:BinOp)(t:fZ)(x y:Operand)(k bT:IntKind)(m n:Int):(eqGuard op t x y (.int k m) (.int bT n)).run P w= .ok () w:=by cases op<;>rfl
theorem acF(P:cG)(w:World)(op:BinOp)(t:fZ)(x y:Operand)(m n:ByteArray):(eqGuard op t x y (.string m) (.string n)).run P w= .ok () w:=by cases op<;>rfl
theorem apr(l:List dM):(⟨l.toArray⟩:ByteArray).toList=l:=by simp
theorem aba(a b:List dM):(⟨a.toArray⟩:ByteArray)++(⟨b.toArray⟩:ByteArray)=⟨(a++b).toArray⟩:=by apply arf;simp
theorem adB(a:List dM)(l h:Nat):(⟨a.toArray⟩:ByteArray).extract l h=⟨((a.take h).drop l).toArray⟩:=by apply arf;simp[List.drop_take]
theorem EJ(a:List dM):(⟨a.toArray⟩:ByteArray).size=a.length:=by simp[avG]
section
variable {P:cG} {w:World} {r:Sem Value}
theorem r8{k:IntKind}{x:Int}(h:r.run P w= .ok (.int k x) w):∃v,r.run P w= .ok v w/\∀ν,bd w ν (.int k x) v:=⟨_,h,fun ν=>by simp[bd]⟩
theorem TY{x:Bool}(h:r.run P w= .ok (.bool x) w):∃v,r.run P w= .ok v w/\∀ν,bd w ν (.bool x) v:=⟨_,h,fun ν=>by simp[bd]⟩
end
theorem aiU(P:cG)(w:World){op:BinOp}{wr:Bool}{k:IntKind}{a b:Int}{c:Prop}{p:ai}(he:GY op wr k a b=some (c,p))(aw:c)(t:fZ):
  ∃v,(binOp op t (.int k a) (.int k b)).run P w= .ok v w/\∀ν,bd w ν p v:=by
 cases op<;>simp only[GY]at he;case add=>
  cases wr<;>simp only[if_true,hl,if_false]at he<;>cases he
  ·obtain⟨rfl,h⟩:=aw;exact r8 (by simp[binOp,Op.intArith,pz _ h])
  ·exact r8 (by simp[binOp,Op.intArith])
 case sub=>
  cases wr<;>simp only[if_true,hl,if_false]at he<;>cases he
  ·obtain⟨rfl,h⟩:=aw;exact r8 (by simp[binOp,Op.intArith,pz _ h])
  ·exact r8 (by simp[binOp,Op.intArith])
 case mul=>
  cases wr<;>simp only[if_true,hl,if_false]at he<;>cases he
  ·obtain⟨rfl,h⟩:=aw;exact r8 (by simp[binOp,Op.intArith,pz _ h])
  ·exact r8 (by simp[binOp,Op.intArith])
 case quo=>cases he;exact r8 (by simp[binOp,Op.intDiv,aw])
 case rem=>cases he;exact r8 (by simp[binOp,Op.intDiv,aw])
 case and=>cases he;exact r8 (by simp only[binOp,Op.intBits,ne_eq,not_true_eq_false,if_false,gJ])
 case or=>cases he;exact r8 (by simp only[binOp,Op.intBits,ne_eq,not_true_eq_false,if_false,gJ])
 case xor=>cases he;exact r8 (by simp only[binOp,Op.intBits,ne_eq,not_true_eq_false,if_false,gJ])
 all_goals cases he
 all_goals exact TY (by simp only[binOp,Op.intCmp,ne_eq,not_true_eq_false,if_false,gJ,gt_iff_lt,ge_iff_le])
theorem ao3(P:cG)(w:World){op:BinOp}{a b:List dM}{c:Prop}{p:ai}(he:ID op a b=some (c,p))(aw:c)(t:fZ):
  ∃v,(binOp op t (.string ⟨a.toArray⟩) (.string ⟨b.toArray⟩)).run P w= .ok v w/\∀ν,bd w ν p v:=by
 cases op<;>simp only[ID]at he;case add=>
  cases he;refine⟨.string ⟨(a++b).toArray⟩,?_,fun ν=>by simp only[bd];exact⟨trivial,by simpa using aw⟩⟩;have J:¬(((⟨a.toArray⟩:ByteArray).size+(⟨b.toArray⟩:ByteArray).size:Nat):Int)>IntKind.i64.max:=by
   have:IntKind.i64.max=9223372036854775807:=by decide
   rw[this,EJ,EJ];simp only[lim]at aw;omega
  simp only[binOp,Op.stringOp,J,if_false,gJ,aba]
 all_goals cases he
 all_goals exact TY (by simp only[binOp,Op.stringOp,apr,gJ])
theorem abq(P:cG)(w:World)(ν:bg){op:BinOp}{wr:Bool}{x y:ai}{c:Prop}{p:ai}(he:Cu op wr x y=some (c,p))(aw:c)(t:fZ){u v:Value}(hu:bd w ν x u)(aB:bd w ν y v)(o o':Operand):
  ∃r,(do eqGuard op t o o' u v;binOp op t u v).run P w= .ok r w/\bd w ν p r:=by
 unfold Cu at he;split at he
 ·rename_i k a bT b;simp only[bd]at hu aB;subst hu;subst aB;split at he
  ·cases he;refine⟨_,?_,by simp[bd];rfl⟩;simp[binOp,Op.shift,Kk,Int.not_lt.2 aw]
  ·cases he;refine⟨_,?_,by simp[bd];rfl⟩;simp[binOp,Op.shift,Kk,Int.not_lt.2 aw]
  ·split at he
   ·rename_i ad;subst ad;obtain⟨r,J,U⟩:=aiU P w he aw t;exact⟨r,by simp[Kk,J],U ν⟩
   ·cases he
 ·simp only[bd]at hu aB;rw[hu.1,aB.1];obtain⟨r,J,U⟩:=ao3 P w he aw t;exact⟨r,by simp[acF,J],U ν⟩
 ·cases he
theorem KH{w:World}{ν:bg}:∀(v:List Value) (i off:Nat) (cs:Array Value),off+i+v.length<=cs.size->
  ((v.zipIdx i).foldl (fun cs (x:Value×Nat)=>cs.setIfInBounds (off+x.2) x.1) cs).toList=cs.toList.take (off+i)++v++cs.toList.drop (off+i+v.length)
 |[],i,off,cs,_=>by simp
 |u::v,i,off,cs,h=>by
  simp only[List.zipIdx_cons,List.foldl_cons];rw[KH (w:=w) (ν:=ν) v (i+1) off _ (by simp at h⊢;omega)];have bD:off+i<cs.toList.length:=by simp at h⊢;omega
  simp only[Array.toList_setIfInBounds];have al:(cs.toList.set (off+i) u).take (off+(i+1))=cs.toList.take (off+i)++[u]:=by rw[show off+(i+1)=(off+i)+1 from by omega,List.take_succ_eq_append_getElem (by simpa using bD)];simp[List.take_set_of_le (e7 _)]
  have aE:(cs.toList.set (off+i) u).drop (off+(i+1)+v.length)=cs.toList.drop (off+i+(u::v).length):=by rw[List.drop_set_of_lt Ω];congr 1;simp;omega
  rw[al,aE];simp
theorem YR{w:World}{ν:bg}{C:ft}{st:br}{a:Act}(aM:cY C st a w ν){bG:List (Nat×dH)}{ea:List (Nat×Nat)}{rv:List (Nat×Nat)}
  (bB:∀(i off t sz:Nat),ea[i]? =some (off,t)->(eo bG t).map (·.size)=some sz->rv[i]? =some (off,sz)):
  ∀(parts:List (Nat×Nat×dz)) (b0:List (Nat×Operand)) (cs:List ai) (us:Array Value) (c:Prop) (cs':List ai),BC bG ea parts b0=true->dc w ν cs us.toList->uS st.t cs parts=some (c,cs')->c->
  ∃ct:Array Value,Instr.fill (rv.toArray[·]?) us (b0.map fun(x:Nat×Operand)=>(x.1,a.eval x.2))=some ct/\dc w ν cs' ct.toList
 |[],[],cs,us,c,cs',_,h,he,aw=>by simp only[uS]at he;cases he;exact⟨us,by simp[Instr.fill],h⟩
 |[],_::_,_,_,_,_,dY,_,_,_=>by simp[BC]at dY
 |_::_,[],_,_,_,_,dY,_,_,_=>by simp[BC]at dY
 |(off,sz,x)::parts,(i,o)::b0,cs,us,c,cs',dY,h,he,aw=>by
  simp only[BC,cC]at dY;obtain⟨⟨J,U⟩,au⟩:=dY;split at J
  ·rename_i xh t C9;simp only[cC,dV]at J;obtain⟨rfl,J⟩:=J;have tL:=bB i off t sz C9 J;simp only[uS]at he;split at he
   ·rename_i cw ar7 ab;cases he;obtain⟨⟨ag,ar,hle⟩,hJ⟩:=aw;have af:=ev aM U;have lR:=vM af ag;have hlen:=qb lR;have p3:=qb h;have k5:(a.eval o).cells.size=sz:=by have:(a.eval o).cells.toList.length=(cells (cv st.t x)).length:=hlen;rw[ar]at this;simpa using this
    have rj:us.size=cs.length:=by simpa using p3
    have yJ:=KH (w:=w) (ν:=ν) (a.eval o).cells.toList 0 off us (by simp[k5,rj];omega);have mM:dc w ν (oA cs off (cells (cv st.t x))) ((((a.eval o).cells.toList.zipIdx 0).foldl (fun cs (x:Value×Nat)=>cs.setIfInBounds (off+x.2) x.1) us).toList):=by rw[yJ];unfold oA;refine zo (zo (Ez off h) lR) ?_;rw[Nat.add_zero,hlen];exact BR _ h
    obtain⟨ct,g1,g2⟩:=YR aM bB parts b0 _ _ cw cs' au mM ab hJ;refine⟨ct,?_,g2⟩;simp only[gS,Instr.fill,List.getElem?_toArray,tL];rw[if_neg (by simp[k5,rj];omega)];rw[<-g1];simp only[List.getElem?_toArray];congr 1;rw[<-Array.foldl_toList];simp
   ·cases he
  ·cases J
end
section
open Go Go.RowKit
theorem vX{P:cG}{bG:List (Nat×dH)}(aN:fS P bG=true){t:Nat}{f:dH}(aJ:eo bG t=some f)(w:World):
  (Go.isAgg t).run P w= .ok f.kind.isAgg w/\(sizeOf t).run P w= .ok f.size w:=by
 obtain⟨i,d,z,J,U,au,a6,b3,c7,et,od⟩:=(vY aN aJ).ex;refine⟨?_,by simp[sizeOf,typeInfo,J,au]⟩;simp only[Go.isAgg,fT,run_underlying U,fX];cases ad:f.kind<;>rw[ad]at b3<;>cases d<;>simp[kr]at b3<;>simp[Cm.isAgg]
theorem jh{P:cG}{bG:List (Nat×dH)}(aN:fS P bG=true){t:Nat}{f:dH}(aJ:eo bG t=some f):∃d,P.underlying t=some d/\kr f.kind d=true:=by obtain⟨i,d,z,J,U,au,a6,b3,c7,et,od⟩:=(vY aN aJ).ex;exact⟨d,U,b3⟩
theorem ts{e:Nat}{d:TypeDesc}(h:kr (.slice e) d=true):d= .slice e:=by cases d<;>simp[kr]at h;subst h;rfl
theorem Ad{d:TypeDesc}(h:kr .str d=true):d= .string:=by cases d<;>simp[kr]at h;rfl
theorem FY{k:IntKind}{d:TypeDesc}(h:kr (.int k) d=true):d= .int k:=by cases d<;>simp[kr]at h;subst h;rfl
theorem J7{ea:List (Nat×Nat)}{d:TypeDesc}(h:kr (.struct ea) d=true):∃gs:Array Field,d= .struct gs/\gs.toList.map (fun f=>(f.offset,f.type))=ea:=by cases d<;>simp[kr]at h;rename_i gs;exact⟨gs,rfl,by simpa using h⟩
theorem Ii{w:World}{ν:bg}{cs:List ai}{us:List Value}(h:dc w ν cs us)(off sz:Nat):dc w ν ((cs.drop off).take sz) ((us.drop off).take sz):=Ez sz (BR off h)
theorem Xr{w:World}{base el sz n:Nat}{v:Value}{us:List Value}(h:w.ownsRow base el sz v n us){b:Nat}(ab:v.ownBlock=some b):∃cap,v= .slice (some ⟨b,0,none⟩) n cap:=by
 rcases h.2 with⟨rfl,_⟩|⟨g,cap,cur,rfl,_⟩
 ·simp[oI]at ab
 ·simp[oI]at ab;subst ab;exact⟨cap,rfl⟩
theorem Good.rowElem{pr:Nat->Prop}{w:World}{ν:bg}{b:List (aI×List ai)}{e:List (aI×fY)}(a7:Good pr w ν b e){k:aI}{n el sz:Nat}{xs:List ai}(ad:look k e=some ⟨n,el,sz,some xs⟩){i f:Nat}{u:Value}(af:bd w ν (.rptr sz k n i f) u){p:ai}(bB:xs[i]? =some p):
  ∃(v:Value) (us:List Value) (gh:Nat),bd w ν p v/\v.cells.size=sz/\∃b o,u= .pointer (some ⟨b,o,none⟩)/\∀j c,v.cells.toList[f+j]? =some c->w.cell? ⟨b,o+j,none⟩=some c:=by
 simp only[bd]at af;obtain⟨_,hi,n',eO,J,U,au⟩:=af;obtain⟨v,us,bc,bE,b1,c5⟩:=a7.own k _ ad;rw[J]at bc;simp only[dQ,jB]at bc;obtain⟨rfl,rfl⟩:=bc;obtain⟨bl,ab,rfl⟩:=au rfl;obtain⟨cap,rfl⟩:=Xr bE ab;obtain⟨ar,mM,_⟩:=c5 xs rfl;simp only at ar mM;obtain⟨v,dy,fb,k7⟩:=If i mM bB;refine⟨v,us,el,dy,fb,bl,_,rfl,fun j c ae=>?_⟩;have bD:f+j<sz:=by have:=(eP.1 ae).1;simp[fb]at this;exact this
 have hmul:i*sz+sz<=n'*sz:=by have:=Nat.mul_le_mul_right sz (show i+1<=n' from hi);rwa[Nat.succ_mul]at this
 have aw:=bE.cellAt (i*sz+f+j) (by show _<n'*sz;omega);rw[aw];rw[k7,List.getElem?_take,if_pos bD,List.getElem?_drop]at ae;rw[<-ae];congr 1;omega
theorem Ho{P:cG}{bG:List (Nat×dH)}(aN:fS P bG=true){pr:Nat->Prop}{w:World}{ν:bg}{b:List (aI×List ai)}{e:List (aI×fY)}(a7:Good pr w ν b e){t:Nat}{f:dH}(aJ:eo bG t=some f)
  {x:ai} {u:Value} (af:bd w ν x u) {c:Prop} {p:ai} (he:mW b e f.kind.isAgg f.size x=some (c,p)) (aw:c):∃v,(Instr.loadAt t u).run P w= .ok v w/\bd w ν p v:=by
 obtain⟨bu,ag⟩:=vX aN aJ w;generalize Gn:f.kind.isAgg=gf at*;generalize en:f.size=sz at*;unfold mW at he;split at he
 ·rename_i dT k n i tw;unfold zs at he;split at he
  ·rename_i n' el jz xs ad;split at he
   ·rename_i ax;obtain⟨rfl,rfl⟩:=ax;split at he
    ·rename_i HO aie;obtain⟨Pc,us,gh,g1,g2,q8⟩:=Good.rowElem a7 ad af aie;have lv:eF HO=true:=by
      cases gf
      ·simp only[hl,if_false,ha]at he;obtain⟨q,_,he⟩:=he;cases he;exact aw
      ·simp only[if_true]at he;cases he;exact aw.1
     have dw:=vM g1 lv;cases gf
     ·simp only[hl,if_false,ha]at he;obtain⟨q,bm,he⟩:=he;cases he;obtain⟨v,f1,f2,f3⟩:=Ey tw dw bm;refine⟨v,?_,f2⟩;obtain⟨b,o,rfl,q8⟩:=q8;have:=q8 0 v (by simpa using f1);simp only[Nat.add_zero]at this;simp[Instr.loadAt,Instr.sureAddr,loadVar,bu,this]
     ·simp only[if_true]at he;cases he;obtain⟨b,o,rfl,q8⟩:=q8;refine⟨.agg ((Pc.cells.toList.drop tw).take sz).toArray,?_,by simp only[bd];exact⟨_,rfl,by simpa using Ii dw tw sz⟩⟩;have ar:=qb dw;have hlen:((Pc.cells.toList.drop tw).take sz).length=sz:=by simp only[List.length_take,tc];omega
      have jc:=run_loadCells_list (P:=P) w ⟨b,o,none⟩ ((Pc.cells.toList.drop tw).take sz) (fun j v ae=>by
       rw[pK];refine q8 j v ?_;rw[List.getElem?_take]at ae;split at ae
       ·simpa[List.getElem?_drop]using ae
       ·cases ae)
      rw[hlen]at jc;simp only[Instr.loadAt,Instr.sureAddr,loadVar,fT,gJ,fX,bu,if_true,ag,jc]
    ·cases he
   ·cases he
  ·cases he
 ·rename_i k off;simp only[bd]at af;obtain⟨bl,J,rfl⟩:=af;split at he
  ·rename_i cs ad;obtain⟨iI,us,el,g1,g2,g3,g4,g5⟩:=a7.box k cs ad;rw[J]at g1;cases g1;have tL:gG cs=true:=by
    cases gf
    ·simp only[hl,if_false,ha]at he;obtain⟨q,bm,he⟩:=he;cases he;exact aw
    ·simp only[if_true]at he;cases he;exact aw.1
   rw[vF tL]at g4;rw[vG tL]at g5;have ar:=qb g5;cases gf
   ·simp only[hl,if_false,ha]at he;obtain⟨q,bm,he⟩:=he;cases he;obtain⟨v,f1,f2,f3⟩:=Ey off g5 bm;refine⟨v,?_,f2⟩;have q8:w.cell? ⟨bl,off,none⟩=some v:=by simpa[World.cell?,g4]using f1
    simp[Instr.loadAt,Instr.sureAddr,loadVar,bu,q8]
   ·simp only[if_true]at he;cases he;replace aw:=aw.2;refine⟨_,?_,by simp only[bd];exact⟨_,rfl,by simpa using Ii g5 off sz⟩⟩;simp only[Instr.loadAt,Instr.sureAddr,loadVar,fT,gJ,fX,bu,if_true,ag];rw[aoo g4 (by simp at ar;omega)];rfl
  ·cases he
 ·rename_i q;simp only[bd]at af;obtain⟨bl,off,eO,rfl,U,au⟩:=af;cases gf
  ·simp only[hl,if_false]at he;cases he;obtain⟨Uf,AE⟩:=aw;obtain⟨g1,g2⟩:=N9 U Uf (fun cs e=>by subst e;have:=e2 List.length AE;simp only[cells,pD,List.length_nil]at this;cases cs with
    |nil=>simp[cells]at AE
    |cons y ys=>simp only[cells,oJ]at AE;obtain⟨al,aE⟩:=AE;subst aE;have:=e2 SizeOf.sizeOf al;simp at this;omega)
   refine⟨eO,?_,U⟩;rw[g2]at au;have q8:=au.1.2;simp[Instr.loadAt,Instr.sureAddr,loadVar,bu,q8]
  ·simp only[if_true]at he;cases he;obtain⟨cs,rfl,hlen⟩:=aw;simp only[bd]at U;obtain⟨us,rfl,a6⟩:=U;refine⟨.agg us,?_,by simp only[bd];exact⟨us,rfl,a6⟩⟩;simp only[pB]at au;have ar:=qb a6;have:=aop (P:=P) au;rw[show us.toList.length=sz from by omega]at this;simp[Instr.loadAt,Instr.sureAddr,loadVar,bu,ag,this]
 ·cases he
theorem afI{P:cG}{bG:List (Nat×dH)}(aN:fS P bG=true){w:World}{ν:bg}{s i:Nat}{f:dH}{ea:List (Nat×Nat)}(aJ:eo bG s=some f)(ad:f.kind= .struct ea){off t:Nat}{g:dH}(hi:ea[i]? =some (off,t))(a7:eo bG t=some g)(bs:g.size≠0)
  {x:ai} {u:Value} (af:bd w ν x u) {c:Prop} {p:ai} (he:q5 off g.kind.isAgg g.size x=some (c,p)) (aw:c):∃v,(Instr.fieldAt s u i).run P w= .ok v w/\bd w ν p v:=by
 obtain⟨d,aR,e8⟩:=jh aN aJ;rw[ad]at e8;obtain⟨gs,rfl,kI⟩:=J7 e8;have vg:∃fd:Field,gs[i]? =some fd/\fd.offset=off/\fd.type=t:=by rw[<-kI]at hi;simp only[qP,ha]at hi;obtain⟨fd,J,U⟩:=hi;simp only[jB]at U;exact⟨fd,by simpa using J,U.1,U.2⟩
 obtain⟨fd,Gv,ay,o7⟩:=vg;obtain⟨bu,ag⟩:=vX aN a7 w;have jc:∀b o,(Instr.fieldAt s (.pointer (some ⟨b,o,none⟩)) i).run P w= .ok (.pointer (some ⟨b,o+off,none⟩)) w:=by intro b o;simp[Instr.fieldAt,run_underlying aR,Gv,Instr.sureAddr,fieldPlace,o7,ag,bs,pK,ay]
 unfold q5 at he;split at he
 ·cases he;simp only[bd]at af;obtain⟨b,J,rfl⟩:=af;exact⟨_,jc _ _,by simp only[bd];exact⟨b,J,rfl⟩⟩
 ·cases he;simp only[bd]at af;obtain⟨⟨b,o,rfl⟩,hi,n',eO,J,U,au⟩:=af;refine⟨_,jc _ _,?_⟩;simp only[bd];refine⟨⟨b,_,rfl⟩,hi,n',eO,J,U,fun e=>?_⟩;obtain⟨cb,al,aE⟩:=au e;simp only[avN,dQ,Addr.mk.injEq,and_true]at aE;obtain⟨rfl,rfl⟩:=aE;exact⟨b,al,by rw[Nat.add_assoc]⟩
 ·rename_i cs;simp only[bd]at af;obtain⟨b,o,eO,rfl,⟨us,rfl,U⟩,au⟩:=af;refine⟨_,jc _ _,?_⟩;simp only[pB]at au;split at he
  ·cases he;simp only[bd];exact⟨b,o+off,.agg ((us.toList.drop off).take g.size).toArray,rfl,⟨_,rfl,by simpa using Ii U off g.size⟩,by simpa[pB]using Hj g.size (Hh off au)⟩
  ·simp only[ha]at he;obtain⟨q,bm,he⟩:=he;cases he;obtain⟨v,f1,f2,f3⟩:=Ey off U bm;simp only[bd];have ahW:=vv au f1;have aiB:v.cells= #[v]:=by cases v<;>first|rfl|cases f3
   exact⟨b,o+off,v,rfl,f2,by rw[aiB];exact⟨ahW,trivial⟩⟩
 ·cases he
theorem afP{P:cG}{bG:List (Nat×dH)}(aN:fS P bG=true){w:World}{ν:bg}{s i:Nat}{f:dH}{ea:List (Nat×Nat)}(aJ:eo bG s=some f)(ad:f.kind= .struct ea){off t:Nat}{g:dH}(hi:ea[i]? =some (off,t))(a7:eo bG t=some g)
  {x:ai} {u:Value} (af:bd w ν x u) {c:Prop} {p:ai} (he:u3 off g.kind.isAgg g.size x=some (c,p)) (aw:c):∃v,(Instr.field s u i).run P w= .ok v w/\bd w ν p v:=by
 obtain⟨d,aR,e8⟩:=jh aN aJ;rw[ad]at e8;obtain⟨gs,rfl,kI⟩:=J7 e8;have vg:∃fd:Field,gs[i]? =some fd/\fd.offset=off/\fd.type=t:=by rw[<-kI]at hi;simp only[qP,ha]at hi;obtain⟨fd,J,U⟩:=hi;simp only[jB]at U;exact⟨fd,by simpa using J,U.1,U.2⟩
 obtain⟨fd,Gv,ay,o7⟩:=vg;obtain⟨bu,ag⟩:=vX aN a7 w;unfold u3 at he;split at he
 ·rename_i cs;simp only[bd]at af;obtain⟨us,rfl,U⟩:=af;generalize Gn:g.kind.isAgg=gf at*;cases gf
  ·simp only[hl,if_false,ha]at he;obtain⟨q,bm,he⟩:=he;cases he;obtain⟨v,f1,f2,f3⟩:=Ey off U bm;have adC:us[off]? =some v:=by simpa using f1
   exact⟨v,by simp[Instr.field,run_underlying aR,Gv,asAgg,part,o7,bu,ay,adC],f2⟩
  ·simp only[if_true]at he;cases he;refine⟨.agg (us.extract off (off+g.size)),by simp[Instr.field,run_underlying aR,Gv,asAgg,part,o7,bu,ay,ag],?_⟩;simp only[bd];refine⟨_,rfl,?_⟩;have:=Ii U off g.size;simpa[List.take_drop]using this
 ·cases he
theorem aiO{P:cG}{bG:List (Nat×dH)}(aN:fS P bG=true){w:World}{ν:bg}{t e:Nat}{f g:dH}(aJ:eo bG t=some f)(ad:f.kind= .slice e)(a7:eo bG e=some g)
  {x y:ai} {u v:Value} (af:bd w ν x u) (aO:bd w ν y v) {c:Prop} {p:ai} (he:A4 g.size x y=some (c,p)) (aw:c):∃r,(Instr.indexAt t u v).run P w= .ok r w/\bd w ν p r:=by
 obtain⟨d,aR,e8⟩:=jh aN aJ;rw[ad]at e8;obtain rfl:=ts e8;obtain⟨bu,ag⟩:=vX aN a7 w;unfold A4 at he;split at he
 ·rename_i dT tag xs k i;split at he
  ·rename_i en;cases he;simp only[bd]at af aO;subst aO;subst en;obtain⟨⟨a,cap,rfl,J,U,au⟩,_⟩:=af;obtain⟨De,k2⟩:=aw;have jE:i.toNat<xs.length:=Ω
   rcases au with rfl|⟨b,off,us,rfl,a6,b3⟩
   ·simp at jE
   ·have af:xs[i.toNat]? =some xs[i.toNat]:=cc jE;obtain⟨w',dy,fb,k7⟩:=If i.toNat b3 af;refine⟨.pointer (some ⟨b,off+i.toNat*g.size,none⟩),?_,?_⟩
    ·simp only[Instr.indexAt,asIntOf,fT,gJ,fX,run_underlying aR,De,k2,and_self,if_true,ag,pK]
    ·simp only[bd];refine⟨b,off+i.toNat*g.size,w',rfl,by simpa[List.getD,af]using dy,?_⟩;rw[k7];exact Hj g.size (Hh _ a6)
  ·cases he
 ·rename_i dT k n ot i;split at he
  ·rename_i en;cases he;simp only[bd]at af aO;subst aO;subst en;obtain⟨⟨b,cap,rfl⟩,U,n',eO,au,a6,b3⟩:=af;obtain⟨De,k2⟩:=aw;refine⟨.pointer (some ⟨b,0+i.toNat*g.size,none⟩),?_,?_⟩
   ·simp only[Instr.indexAt,asIntOf,fT,gJ,fX,run_underlying aR,De,k2,and_self,if_true,ag,pK]
   ·simp only[bd];refine⟨⟨b,_,rfl⟩,Ω,n',eO,au,a6,fun e=>⟨b,?_,Ψ⟩⟩;rw[<-b3 e];rfl
  ·cases he
 ·cases he
theorem HI{C:ft}{st:br}{a:Act}{w:World}{ν:bg}(h:cY C st a w ν){x:ba dz}{o:ba Operand}(af:xk x o=true){FZ n:Int}(he:rr FZ (x.map (cv st.t))=some n):
  (o.map a.eval=none/\n=FZ)\/ ∃k,o.map a.eval=some (.int k n):=by
 cases x with
 |none=>cases o with
  |none=>simp[rr]at he;exact .inl ⟨rfl,he.symm⟩
  |some o=>simp[xk]at af
 |some x=>cases o with
  |none=>simp[xk]at af
  |some o=>
   simp only[xk]at af
   have:=ev h af
   simp only[nl]at he⊢
   cases vc:cv st.t x<;>simp[vc,rr]at he
   rw[vc]at this
   simp only[bd]at this
   subst he
   exact .inr ⟨_,by rw[this]⟩
theorem aas{c d:ai}(h:I2 c d=true):c=d:=by unfold I2 at h;split at h<;>simp_all
theorem Pk:∀{cs eV:List ai},zH cs eV=true->cs=eV
 |[],[],_=>rfl
 |[],_::_,h=>by simp[zH]at h
 |_::_,[],h=>by simp[zH]at h
 |c::cs,d::eV,h=>by simp only[zH,cC]at h;rw[aas h.1,Pk h.2]
theorem arc{cs:List ai}{z:ai}(h:Po cs z=true):z= .agg cs:=by
 cases z<;>simp only[Po]at h;case agg eV=>rw[Pk h]
 all_goals cases h
theorem agT(s:List dM)(n:Nat)(h:n<s.length):(⟨s.toArray⟩:ByteArray)[n]? =some (s.getD n 0):=by
 have en:n<(⟨s.toArray⟩:ByteArray).size:=by rw[EJ];exact h
 have e:(⟨s.toArray⟩:ByteArray)[n]? =some ((⟨s.toArray⟩:ByteArray)[n]'en):=getElem?_pos (⟨s.toArray⟩:ByteArray) n en;rw[e];congr 1;simp[List.getD,h];rfl
theorem Iz(P:cG)(w:World)(k:IntKind)(i:Int)(y:Nat)(c:BoundsCode)(bs:0<=i)(J:i<=y):(Instr.sliceBound (.int k i) y c).run P w= .ok i.toNat w:=by simp[Instr.sliceBound,asIntOf,bs,J]
theorem P9(P:cG)(w:World)(aja:Bool)(len cap:Nat)(lo hi:ba Value)(l h:Int)(Di:(lo=none/\l=0)\/ ∃k,lo=some (.int k l))(Dd:(hi=none/\h=len)\/ ∃k,hi=some (.int k h))
  (bs:0<=l) (J:l<=h) (U:h<=len) (aw:len<=cap):(Instr.sliceBounds aja len cap lo hi none).run P w= .ok (l.toNat,h.toNat,cap) w:=by
 rcases Di with⟨rfl,rfl⟩|⟨k,rfl⟩<;>rcases Dd with⟨rfl,rfl⟩|⟨bT,rfl⟩
 ·simp[Instr.sliceBounds]
 ·simp[Instr.sliceBounds,Iz P w bT h cap _ Ω Ω]
 ·simp[Instr.sliceBounds,Iz P w k l len _ Ω Ω]
 ·simp[Instr.sliceBounds,Iz P w bT h cap _ Ω Ω,Iz P w k l h.toNat _ Ω Ω]
theorem Xx{P:cG}{bG:List (Nat×dH)}(aN:fS P bG=true):∀(gs:List Field),(gs.all fun f=>(eo bG f.type).isSome)=true->
  ∃rv:List (Nat×Nat),gs.mapM (fun f=>(P.info? f.type).map fun i=>(f.offset,i.size))=some rv/\
   ∀(i off t sz:Nat),(gs.map (fun f=>(f.offset,f.type)))[i]? =some (off,t)->(eo bG t).map (·.size)=some sz->rv[i]? =some (off,sz)
 |[],_=>⟨[],Ψ,Ψ⟩
 |f::gs,h=>by
  simp only[List.all_cons,cC]at h;obtain⟨rv,J,U⟩:=Xx aN gs h.2;obtain⟨g,a7⟩:=fU.1 h.1;obtain⟨i,d,z,al,aE,bn,dh,hq,h0,rY,rZ⟩:=(vY aN a7).ex;refine⟨(f.offset,g.size)::rv,by simp[List.mapM_cons,al,bn,J],fun j off t sz ae en=>?_⟩;cases j with
  |zero=>simp only[gS,List.getElem?_cons_zero,dQ,jB]at ae⊢;obtain⟨rfl,rfl⟩:=ae;rw[a7]at en;simpa using en
  |succ j=>simp only[gS,List.getElem?_cons_succ]at ae⊢;exact U j off t sz ae en
theorem lF{P:cG}{w:World}{x:Sem Value}{v:Value}(h:x.run P w= .ok v w):(do pure (Next.value (<-x)):Sem Next).run P w= .ok (.value v) w:=by simp[h]
theorem Pn{p q:ai}(h:Ce p q=true):p=q:=by
 unfold Ce at h;split at h
 ·rw[Pk h]
 ·cases h
 ·exact aas h
theorem Pm(w:World)(ν:bg){p:ai}{v:Value}(h:zI p v=true):bd w ν p v/\dc w ν (cells p) v.cells.toList:=by
 by_cases bu:∃cs,p= .agg cs
 ·obtain⟨cs,rfl⟩:=bu;cases v<;>simp only[zI]at h;case agg us=>have:=Pl w ν _ _ h;exact⟨by simp only[bd];exact⟨us,rfl,this⟩,by simpa[cells,pB]using this⟩
  all_goals cases h
 ·have cf:zV p v=true/\v.oneCell'=true:=by cases p<;>simp only[zI,cC]at h<;>first|exact h|exact absurd ⟨_,rfl⟩ bu
  have aM:=JD w ν cf.1;refine⟨aM,?_⟩;have aw:cells p=[p]:=by cases p<;>first|rfl|exact absurd ⟨_,rfl⟩ bu
  have aB:v.cells= #[v]:=by have:=cf.2;cases v<;>first|rfl|simp[Value.oneCell']at this
  rw[aw,aB];simp only[dc];exact⟨v,[],rfl,⟨aM,cf.2⟩,rfl⟩
theorem OO{P:cG}{bG:List (Nat×dH)}(aN:fS P bG=true){t:Nat}{f:dH}(aJ:eo bG t=some f)(w:World):∃z,(zeroValue t).run P w= .ok z w/\zI f.zero z=true/\z.cells.size=f.size:=by obtain⟨i,d,z,J,U,au,a6,b3,c7,et,od⟩:=(vY aN aJ).ex;exact⟨z,by simp[zeroValue,typeInfo,J,c7],et,od⟩
theorem EA{C:ft}{st:br}{a:Act}{w:World}{ν:bg}(h:cY C st a w ν):∀{xs:List dz} {os:List Operand},ze xs os=true->cW w ν (xs.map (cv st.t)) (os.map a.eval)
 |[],[],_=>by simp[cW]
 |[],_::_,ad=>by simp[ze]at ad
 |_::_,[],ad=>by simp[ze]at ad
 |x::xs,o::os,ad=>by simp only[ze,cC]at ad;simp only[gS,cW];exact⟨_,_,rfl,ev h ad.1,EA h ad.2⟩
theorem acG{P:cG}{w:World}{t:fZ}(aR:P.underlying t=some .bool)(d:Nat)(a b:Bool):(Op.equalIn (d+1) t (.bool a) (.bool b)).run P w= .ok (a==b) w:=by rw[Op.equalIn];simp only[fT,run_underlying aR,fX,gJ]
theorem acH{P:cG}{w:World}{t:fZ}(aR:P.underlying t=some .bool)(a b:Bool):(Op.equal t (.bool a) (.bool b)).run P w= .ok (a==b) w:=acG aR _ a b
theorem SY:∀{borns:List Nat} {kvs:List ai} {us:List Value},kvs.length=2*borns.length->us.length=kvs.length->(fL borns us).length=borns.length
 |[],_,us,_,_=>by simp[fL]
 |cb::e0,kvs,[],J,U=>by rw[J]at U;simp at U
 |cb::e0,kvs,[_],J,U=>by rw[J]at U;simp at U;omega
 |cb::e0,kvs,k::v::us,J,U=>by simp only[fL,pD];rw[SY (kvs:=kvs.drop 2) (us:=us) (borns:=e0) (by simp at J⊢;omega) (by simp at J U⊢;omega)]
theorem YK{w:World}{ν:bg}:∀{b0:List ai} {bf:List Value},cW w ν b0 bf->bf.length=b0.length
 |[],bf,h=>by simp only[cW]at h;subst h;rfl
 |p::b0,bf,h=>by simp only[cW]at h;obtain⟨u,ct,rfl,_,U⟩:=h;simp[YK U]
theorem vR{P:cG}{w:World}{r:Nat}{o:Obj}(ab:w.heap[r]? =some o)(ax:∀c e f,o≠ .cells c e f:=by simp):(getObj r).run P w= .ok o w:=by simp only[getObj,Sem.run,ab]
def qQ(P:cG):Nat->List Bool->List Field->Prop
 |_,[],[]=>True
 |n,b::r,f::gs=>(f.offset=n/\f.name≠ "_" /\(if b=true then P.underlying f.type=some .string else∃k,P.underlying f.type=some (.int k)))/\qQ P (n+1) r gs
 |_,_,_=>e1
theorem En{P:cG}{t:fZ}{b:Bool}(h:if b=true then P.underlying t=some .string else∃k,P.underlying t=some (.int k)):P.plainKey t=true:=by
 cases b
 ·obtain⟨k,h⟩:=(by simpa using h:∃k,P.underlying t=some (.int k));simp[Program.plainKey,h]
 ·have h:P.underlying t=some .string:=by simpa using h
  simp[Program.plainKey,h]
theorem abH{P:cG}{w:World}{ν:bg}(d:Nat){X Y:Array Value}(ea:List Bool):∀(gs:List Field) (n:Nat) (as e0:List ai) (us bf:List Value) (q:Bool),qQ P n ea gs->X.toList.drop n=us->Y.toList.drop n=bf->dc w ν as us->dc w ν e0 bf->kq ea as e0=some q->
  (Op.eqFields (d+1) X Y gs).run P w= .ok q w/\(q=true->us=bf)/\∀m,(us.zip us).all (fun(x,y)=>Instr.sameBits m x y)=true:=by
 induction ea with
 |nil=>intro gs n as e0 us bf q a7 C1 C2 J U h;cases as<;>cases e0<;>simp only[kq,dQ,reduceCtorEq]at h;cases gs<;>simp only[qQ]at a7;simp only[dc]at J U;rw[J,U,<-h];exact⟨by simp[Op.eqFields],fun _=>rfl,fun m=>rfl⟩
 |cons yc r bR=>
  intro gs n as e0 us bf q a7 C1 C2 J U h;cases gs with
  |nil=>simp only[qQ]at a7
  |cons f gs=>
  simp only[qQ]at a7;obtain⟨⟨GI,Dm,o7⟩,a7⟩:=a7;cases as with
  |nil=>cases yc<;>cases e0<;>simp[kq]at h
  |cons El as=>
  cases e0 with
  |nil=>cases yc<;>cases El<;>simp[kq]at h
  |cons HP e0=>
  cases yc with
  |false=>
   have aw:∃k a b gH,El= .int k a/\HP= .int k b/\kq r as e0=some gH/\q=((a==b)&&gH):=by
    cases El<;>first|(simp[kq]at h;done)|skip
    cases HP<;>first|(simp[kq]at h;done)|skip
    simp only[kq]at h;split at h
    ·rename_i ad;subst ad;simp only[ha]at h;obtain⟨gH,au,a6⟩:=h;exact⟨_,_,_,gH,rfl,rfl,au,a6.symm⟩
    ·cases h
   obtain⟨k,a,b,gH,rfl,rfl,au,rfl⟩:=aw;simp only[dc,bd]at J U;obtain⟨u,ct,rfl,⟨rfl,_⟩,J⟩:=J;obtain⟨v,vs',rfl,⟨rfl,_⟩,U⟩:=U;have Ek:X[n]? =some (.int k a):=by rw[<-uC,<-List.head?_drop,C1];rfl
   have Nr:Y[n]? =some (.int k b):=by rw[<-uC,<-List.head?_drop,C2];rfl
   obtain⟨i1,i2,i3⟩:=bR gs (n+1) as e0 ct vs' gH a7 (by rw[<-List.tail_drop,C1];rfl) (by rw[<-List.tail_drop,C2];rfl) J U au;obtain⟨ot,LP⟩:=(by simpa using o7:∃k,P.underlying f.type=some (.int k));refine⟨?_,?_,fun m=>?_⟩
   ·simp only[Op.eqFields,Dm,ne_eq,not_false_eq_true,if_true,fT,GI,run_part_plain w (En o7) Ek,run_part_plain w (En o7) Nr,fX,run_equalIn_int w d f.type k ot a b LP];cases nA:(a==b)
    ·simp
    ·simpa using i1
   ·intro bm;simp only[cC,dV]at bm;rw[bm.1,i2 bm.2]
   ·have:=i3 m;simp only[List.zip_cons_cons,List.all_cons,this,Bool.and_true];cases m<;>simp[Instr.sameBits]
  |true=>
   have aw:∃a b gH,El= .str a/\HP= .str b/\kq r as e0=some gH/\q=((a==b)&&gH):=by
    cases El<;>first|(simp[kq]at h;done)|skip
    cases HP<;>first|(simp[kq]at h;done)|skip
    simp only[kq,ha]at h;obtain⟨gH,au,a6⟩:=h;exact⟨_,_,gH,rfl,rfl,au,a6.symm⟩
   obtain⟨a,b,gH,rfl,rfl,au,rfl⟩:=aw;simp only[dc,bd]at J U;obtain⟨u,ct,rfl,⟨⟨rfl,_⟩,_⟩,J⟩:=J;obtain⟨v,vs',rfl,⟨⟨rfl,_⟩,_⟩,U⟩:=U;have Ek:X[n]? =some (.string ⟨a.toArray⟩):=by rw[<-uC,<-List.head?_drop,C1];rfl
   have Nr:Y[n]? =some (.string ⟨b.toArray⟩):=by rw[<-uC,<-List.head?_drop,C2];rfl
   obtain⟨i1,i2,i3⟩:=bR gs (n+1) as e0 ct vs' gH a7 (by rw[<-List.tail_drop,C1];rfl) (by rw[<-List.tail_drop,C2];rfl) J U au;have LP:P.underlying f.type=some .string:=by simpa using o7
   refine⟨?_,?_,fun m=>?_⟩
   ·simp only[Op.eqFields,Dm,ne_eq,not_false_eq_true,if_true,fT,GI,run_part_plain w (En o7) Ek,run_part_plain w (En o7) Nr,fX,run_equalIn_string w d f.type _ _ LP];have e:((⟨a.toArray⟩:ByteArray).toList==(⟨b.toArray⟩:ByteArray).toList)=(a==b):=by rw[arh,arh]
    rw[e];cases nA:(a==b)
    ·simp
    ·simpa using i1
   ·intro bm;simp only[cC,dV]at bm;rw[bm.1,i2 bm.2]
   ·have:=i3 m;simp only[List.zip_cons_cons,List.all_cons,this,Bool.and_true];cases m<;>simp only[Instr.sameBits]<;>exact(MapKept.bytes_beq _ _).2 rfl
theorem Tv{P:cG}{bG:List (Nat×dH)}(aN:fS P bG=true):∀(ea:List Bool) (gs:List Field) (n:Nat),Ao bG n ea (gs.map fun f=>(f.offset,f.type))=true->(gs.all (fun f=>match P.underlying f.type with|some (.int _)=>true|some .string=>true|_=>false)=true)/\((∀f∈gs,f.name≠ "_")->qQ P n ea gs)
 |[],[],_,_=>⟨rfl,fun _=>trivial⟩
 |[],_::_,_,h=>by simp[Ao]at h
 |_::_,[],_,h=>by simp[Ao]at h
 |b::r,f::gs,n,h=>by
  simp only[gS,Ao,cC,dV]at h;obtain⟨⟨J,U⟩,au⟩:=h;obtain⟨i1,i2⟩:=Tv aN r gs (n+1) au;split at U
  ·rename_i aJ;obtain⟨d,hu,aR⟩:=jh aN aJ;obtain rfl:=FY aR;refine⟨by simp only[List.all_cons,hu,i1,Bool.and_self],fun ax=>⟨⟨J,ax f Ψ,?_⟩,i2 fun g a7=>ax g (by simp[a7])⟩⟩;have:b=false:=by simpa using U
   subst this;simpa using⟨_,hu⟩
  ·rename_i aJ;obtain⟨d,hu,aR⟩:=jh aN aJ;obtain rfl:=Ad aR;refine⟨by simp only[List.all_cons,hu,i1,Bool.and_self],fun ax=>⟨⟨J,ax f Ψ,?_⟩,i2 fun g a7=>ax g (by simp[a7])⟩⟩;subst U;simpa using hu
  ·cases U
theorem Tx{P:cG}{bG:List (Nat×dH)}(aN:fS P bG=true){ea:List Bool}{t:Nat}(h:Gc bG ea t=true):∃gs,P.underlying t=some (.struct gs)/\qQ P 0 ea gs.toList/\P.stoodInHeld t=false/\P.eqGuardType P.depth t=false:=by
 unfold Gc at h;split at h
 ·rename_i aJ;obtain⟨d,hu,aR⟩:=jh aN aJ;have aw:=(vY aN aJ).cmp d hu;cases d<;>simp[kr]at aR;rename_i gs;subst aR;obtain⟨i1,i2⟩:=Tv aN ea gs.toList 0 h;have tF:Tw P gs=true:=i1;simp only[J4,tF,Bool.not_true,Bool.false_or,SE,cC,Bool.not_eq_true',ga,bne_iff_ne,ne_eq]at aw;exact⟨gs,hu,i2 aw.1.1,aw.1.2,aw.2⟩
 ·cases h
theorem S2{P:cG}{w:World}{ν:bg}{t:fZ}{gs:Array Field}{ea:List Bool}(hu:P.underlying t=some (.struct gs))(a7:qQ P 0 ea gs.toList)(cR:P.stoodInHeld t=false){as e0:List ai}{X Y:Array Value}(J:dc w ν as X.toList)(U:dc w ν e0 Y.toList){q:Bool}(h:kq ea as e0=some q):
  (Op.equalIn 10000 t (.agg X) (.agg Y)).run P w= .ok q w/\(q=true->X=Y)/\∀m,(X.toList.zip X.toList).all (fun(x,y)=>Instr.sameBits m x y)=true:=by
 have aJ:P.fieldsOf t=gs:=by simp[Program.fieldsOf,hu]
 obtain⟨i1,i2,i3⟩:=abH 9998 ea gs.toList 0 as e0 _ _ q a7 rfl rfl J U h;refine⟨?_,fun e=>?_,?_⟩
 ·rw[run_equalIn_struct w 9999 t X Y (by rw[aJ];exact hu) cR,aJ];exact i1
 ·have:=i2 e;simpa using this
 ·simpa using i3
inductive uG (P:cG):jL->fZ->Prop
 |i {t:fZ} {k:IntKind}:P.underlying t=some (.int k)->uG P .i t
 |s {t:fZ}:P.underlying t=some .string->uG P .s t
 |a {t:fZ} {ea:List Bool} {gs:Array Field}:P.underlying t=some (.struct gs)->qQ P 0 ea gs.toList->P.stoodInHeld t=false->uG P (.a ea) t
theorem Me{P:cG}{bG:List (Nat×dH)}(aN:fS P bG=true){ck:jL}{t:Nat}(h:yT bG ck t=true):uG P ck t:=by
 cases ck with
 |i=>
  simp only[yT]at h;split at h
  ·rename_i aJ;obtain⟨d,hu,aR⟩:=jh aN aJ;obtain rfl:=FY aR;exact .i hu
  ·cases h
 |s=>
  simp only[yT]at h;split at h
  ·rename_i aJ;obtain⟨d,hu,aR⟩:=jh aN aJ;obtain rfl:=Ad aR;exact .s hu
  ·cases h
 |a ea=>obtain⟨gs,J,U,au,_⟩:=Tx aN h;exact .a J U au
def ti(P:cG)(w:World)(ck:jL)(t:fZ)(hj u:Value)(b:Bool):Prop:=match ck with
 | .a _=>(Op.equal t hj u).run P w= .ok b w
 |_=> ∀d,P.underlying t=some d->Instr.sameNow d hj u=some b
def ic(P:cG)(w:World)(ck:jL)(t:fZ)(hj:Value)(es:List MapEntry)(i:Nat)(r:ba (Nat×Value)):Prop:=match ck with
 | .a _=>(Instr.findAsking t hj es i).run P w= .ok r w
 |_=> ∀d,P.underlying t=some d->Instr.findNow d hj es i=some r
theorem ic.nil(P:cG)(w:World)(ck:jL)(t:fZ)(hj:Value)(i:Nat):ic P w ck t hj [] i none:=by cases ck<;>simp[ic,Instr.findAsking,Instr.findNow]
theorem ic.hit{P:cG}{w:World}{ck:jL}{t:fZ}{hj:Value}{e:MapEntry}{es:List MapEntry}{i:Nat}(h:ti P w ck t hj e.key true):ic P w ck t hj (e::es) i (some (i,e.val)):=by
 cases ck with
 |a ea=>simp only[ti]at h;simp[ic,Instr.findAsking,h]
 |i=>simp only[ti]at h;simp only[ic];intro d aR;simp[Instr.findNow,h d aR]
 |s=>simp only[ti]at h;simp only[ic];intro d aR;simp[Instr.findNow,h d aR]
theorem ic.miss{P:cG}{w:World}{ck:jL}{t:fZ}{hj:Value}{e:MapEntry}{es:List MapEntry}{i:Nat}{r:ba (Nat×Value)}(h:ti P w ck t hj e.key false)(aM:ic P w ck t hj es (i+1) r):ic P w ck t hj (e::es) i r:=by
 cases ck with
 |a ea=>simp only[ti]at h;simp only[ic]at aM;simp[ic,Instr.findAsking,h,aM]
 |i=>simp only[ti]at h;simp only[ic]at aM⊢;intro d aR;simp[Instr.findNow,h d aR,aM d aR]
 |s=>simp only[ti]at h;simp only[ic]at aM⊢;intro d aR;simp[Instr.findNow,h d aR,aM d aR]
theorem ic.run{P:cG}{w:World}{ck:jL}{t:fZ}(aR:uG P ck t){hj:Value}{es:List MapEntry}{r:ba (Nat×Value)}(h:ic P w ck t hj es 0 r):(Instr.findKey t hj es).run P w= .ok r w:=by
 cases aR with
 |i hu=>simp only[ic]at h;simp[Instr.findKey,run_underlying hu,h _ hu]
 |s hu=>simp only[ic]at h;simp[Instr.findKey,run_underlying hu,h _ hu]
 |a hu a7 cR=>
  simp only[ic]at h;cases es with
  |nil=>simp[Instr.findAsking]at h;simp[Instr.findKey,run_underlying hu,Instr.findNow,h]
  |cons e es=>
   rename_i gs;have:Instr.sameNow (.struct gs) hj e.key=none:=by cases hj<;>rfl
   simp only[Instr.findKey,fT,run_underlying hu,fX,Instr.findNow,this];exact h
theorem VN{P:cG}{w:World}{ν:bg}{ck:jL}{t:fZ}(aR:uG P ck t){k bT:ai}{hj u:Value}(ad:bd w ν k hj)(J:bd w ν bT u){bb:Bool}(ab:tV ck k bT=some bb):
  ti P w ck t hj u bb/\(bb=true->u=hj/\Instr.sameBits 10000 u hj=true):=by
 unfold tV at ab;split at ab
 ·split at ab
  ·rename_i lQ;subst lQ;simp only[bd]at ad J;subst ad;subst J;cases aR with
   |i hu=>refine⟨fun d aR=>by rw[hu]at aR;cases aR;simpa[Instr.sameNow]using ab,fun e=>?_⟩;subst e;simp only[dQ,dV]at ab;subst ab;exact⟨rfl,by simp[Instr.sameBits]⟩
  ·cases ab
 ·rename_i a b;simp only[bd]at ad J;obtain⟨rfl,_⟩:=ad;obtain⟨rfl,_⟩:=J;cases aR with
  |s hu=>
   refine⟨fun d aR=>?_,fun e=>?_⟩
   ·rw[hu]at aR;cases aR;simp only[Instr.sameNow];rw[<-ab];congr 1;rw[oG,MapKept.bytes_beq];simp
   ·subst e;simp only[dQ,dV]at ab;subst ab;exact⟨rfl,by simp only[Instr.sameBits];exact(MapKept.bytes_beq _ _).2 rfl⟩
 ·simp only[bd]at ad J;obtain⟨X,rfl,ad⟩:=ad;obtain⟨Y,rfl,J⟩:=J;cases aR with
  |a hu a7 cR=>obtain⟨i1,i2,i3⟩:=S2 hu a7 cR ad J ab;refine⟨by simpa[ti,Op.equal,Op.maxDepth]using i1,fun e=>?_⟩;have:=i2 e;subst this;exact⟨rfl,by simp[Instr.sameBits,i3]⟩
 ·cases ab
theorem MH{P:cG}{w:World}{ν:bg}{ck:jL}{t:fZ}(aR:uG P ck t){k:ai}{hj:Value}(ad:bd w ν k hj):∀(borns:List Nat) (kvs:List ai) (us:List Value) (i:Nat) (r:ba ai),cW w ν kvs us->kvs.length=2*borns.length->xd ck k kvs=some r->
  match r with
  |none=>ic P w ck t hj (fL borns us) i none
  |some v=> ∃j u,ic P w ck t hj (fL borns us) i (some (j,u))/\bd w ν v u
 |[],[],us,i,r,h,_,hm=>by simp only[xd]at hm;cases hm;simp only[cW]at h;subst h;simpa[fL]using ic.nil P w ck t hj i
 |[],_::_,_,_,_,_,ar,_=>by simp at ar
 |b::e0,[],_,_,_,_,ar,_=>by simp at ar
 |b::e0,[_],_,_,_,_,ar,_=>by simp at ar;omega
 |b::e0,bT::v::kvs,us,i,r,h,ar,hm=>by
  simp only[cW]at h;obtain⟨ji,OX,rfl,J,jI,sZ,rfl,U,au⟩:=h;simp only[xd]at hm;simp only[fL];cases bm:tV ck k bT with
  |none=>simp[bm]at hm
  |some bb=>
   obtain⟨s1,_⟩:=VN aR ad J bm;simp only[bm]at hm;cases bb with
   |true=>simp only[dQ]at hm;subst hm;exact⟨i,jI,ic.hit (e:=⟨ji,jI,b⟩) s1,U⟩
   |false=>
    simp only at hm;have bR:=MH aR ad e0 kvs sZ (i+1) r au (by simp at ar;omega) hm;cases r with
    |none=>exact ic.miss (e:=⟨ji,jI,b⟩) s1 bR
    |some v'=>obtain⟨j,u,g1,g2⟩:=bR;exact⟨j,u,ic.miss (e:=⟨ji,jI,b⟩) s1 g1,g2⟩
theorem J3{P:cG}{w:World}{t:Nat}{d:TypeDesc}(hu:P.underlying t=some d)(aR:(∃k,d= .int k)\/d= .string)(e:Bool)(n:Nat)(v:Value):(Instr.checkKey e (n+1) t v).run P w= .ok () w:=by unfold Instr.checkKey;rcases aR with⟨k,rfl⟩|rfl<;>simp[run_underlying hu]
theorem afO{P:cG}{w:World}{ν:bg}{X:Array Value}(ea:List Bool):∀(gs:List Field) (n:Nat) (as:List ai),qQ P n ea gs->dc w ν as (X.toList.drop n)->(kq ea as as).isSome=true->
  ∀f∈gs,(∃v,(part f.type X f.offset).run P w= .ok v w)/\∃d,P.underlying f.type=some d/\((∃k,d= .int k)\/d= .string):=by
 induction ea with
 |nil=>intro gs n as a7 _ _ f aJ;cases gs<;>simp only[qQ]at a7;cases aJ
 |cons yc r bR=>
  intro gs n as a7 aM aw f aJ;cases gs with
  |nil=>cases aJ
  |cons g gs=>
  simp only[qQ]at a7;obtain⟨⟨GI,Dm,o7⟩,a7⟩:=a7;cases as with
  |nil=>cases yc<;>simp[kq]at aw
  |cons p as=>
  have hJ:(kq r as as).isSome=true:=by cases yc<;>cases p<;>simp[kq]at aw⊢ <;>exact aw
  simp only[dc]at aM;obtain⟨u,ct,e,_,dS⟩:=aM;have aE:X.toList.drop (n+1)=ct:=by rw[<-List.tail_drop,e];rfl
  have Ek:X[n]? =some u:=by rw[<-uC,<-List.head?_drop,e];rfl
  rcases fA.1 aJ with rfl|aJ
  ·refine⟨⟨u,by rw[GI];exact run_part_plain w (En o7) Ek⟩,?_⟩;cases yc
   ·obtain⟨k,h⟩:=(by simpa using o7:∃k,P.underlying f.type=some (.int k));exact⟨_,h,.inl ⟨k,rfl⟩⟩
   ·exact⟨_,by simpa using o7,.inr rfl⟩
  ·exact bR gs (n+1) as a7 (by rw[aE];exact dS) hJ f aJ
theorem TD{P:cG}{w:World}{α:Type}(body:α->PUnit->Sem (ForInStep PUnit)):∀(l:List α),(∀f∈l,(body f ⟨⟩).run P w= .ok (.yield ⟨⟩) w)->(forIn l PUnit.unit body).run P w= .ok PUnit.unit w
 |[],_=>by simp
 |f::l,h=>by simp only[List.forIn_cons,fT,h f Ψ,fX];exact TD body l fun g a7=>h g (by simp[a7])
theorem Oe{P:cG}{w:World}{ν:bg}{ck:jL}{t:Nat}(aR:uG P ck t)(e:Bool){k:ai}{v:Value}(ad:bd w ν k v)(hi:w4 ck k=true):(Instr.checkKey e 10000 t v).run P w= .ok () w:=by
 cases aR with
 |i hu=>exact J3 hu (.inl ⟨_,rfl⟩) e 9999 v
 |s hu=>exact J3 hu (.inr rfl) e 9999 v
 |a hu a7 cR=>
  rename_i ea gs;cases k<;>simp only[w4,hl]at hi;rename_i as;simp only[bd]at ad;obtain⟨X,rfl,ad⟩:=ad;unfold Instr.checkKey;simp only[fT,run_underlying hu,fX];rw[<-Array.forIn_toList];rw[TD]
  ·simp
  ·intro f aJ;obtain⟨⟨v,J⟩,d,U,au⟩:=afO ea gs.toList 0 as a7 (by simpa using ad) hi f aJ;have a6:=J3 (w:=w) U au e 9998 v;by_cases ax:f.name= "_"
   ·simp[ax]
   ·simp[ax,J,a6]
theorem Ww{w:World}{ν:bg}{n:Nat}:∀(borns:List Nat) (kvs:List ai) (us:List Value) (p:ai),cW w ν kvs us->mX n borns kvs=some p->∃e,(fL borns us).find? (·.born==n)=some e/\bd w ν p (.tuple #[e.key,e.val])
 |[],_,_,_,_,hm=>by simp[mX]at hm
 |_::_,[],_,_,_,hm=>by simp[mX]at hm
 |_::_,[_],_,_,_,hm=>by simp[mX]at hm
 |b::e0,k::v::kvs,us,p,h,hm=>by
  simp only[cW]at h;obtain⟨ji,OX,rfl,J,jI,sZ,rfl,U,au⟩:=h;simp only[mX]at hm;simp only[fL];by_cases e:b=n
  ·rw[if_pos e]at hm;cases hm;refine⟨⟨ji,jI,b⟩,by simp[List.find?,e],?_⟩;simp only[bd];exact⟨#[ji,jI],rfl,by simp only[cW];exact⟨_,_,rfl,J,_,_,rfl,U,rfl⟩⟩
  ·rw[if_neg e]at hm;obtain⟨x,g1,g2⟩:=Ww e0 kvs sZ p au hm;have ahj:(b==n)=false:=by simpa using e
   exact⟨x,by simp[List.find?,ahj,g1],g2⟩
theorem ZD{P:cG}{bG:List (Nat×dH)}(aN:fS P bG=true){C:ft}{st:br}{a:Act}{w:World}{ν:bg}(aM:cY C st a w ν){i:gd}(ahi:∀ck z ok x k,i≠ .mgetB ck z ok x k){o:Oper}(ay:EW bG i o.op=true)
  {c:Prop} {p:ai} (he:hy st i=some (c,p)) (aw:c):∃v,(execOp a.eval o).run P w= .ok (.value v) w/\bd w ν p v:=by
 obtain⟨dst,op,type,pos,after,guard⟩:=o;simp only at ay;unfold EW at ay;split at ay
 ·rename_i x o;simp only[hy]at he;cases he;exact⟨_,rfl,ev aM ay⟩
 ·rename_i x o;simp only[hy]at he;cases he;exact⟨_,rfl,ev aM ay⟩
 ·rename_i cw x y arG Cc aaq;simp only[cC]at ay;have J:=ev aM ay.1.1;have U:=ev aM ay.1.2;have au:=ev aM ay.2;simp only[hy,HQ]at he;split at he
  ·rename_i b ab;rw[ab]at J;simp only[bd]at J;split at he
   ·rename_i u v hu aB;cases he;rw[hu]at U;rw[aB]at au;simp only[bd]at U au;refine⟨.bool (cond b u v),?_,by simp[bd]⟩;simp only[execOp,J,U,au,asBool,fT,gJ,fX];cases b<;>rfl
   ·split at he
    ·cases he;exact⟨_,by simp only[execOp,J,asBool,fT,gJ,fX,if_true],U⟩
    ·cases he;exact⟨_,by simp only[execOp,J,asBool,fT,gJ,fX,hl,if_false],au⟩
  ·cases he
 ·rename_i agg sz x t o;simp only[cC]at ay;obtain⟨J,U⟩:=ay;split at J
  ·rename_i f aJ;simp only[cC,dV]at J;obtain⟨rfl,rfl⟩:=J;obtain⟨v,g1,g2⟩:=Ho aN aM.good aJ (ev aM U) (by simpa only[hy]using he) aw;exact⟨v,lF g1,g2⟩
  ·cases J
 ·rename_i off agg sz x s o i;simp only[cC]at ay;obtain⟨J,U⟩:=ay;split at J
  ·rename_i f aJ;split at J
   ·rename_i xh t C9;simp only[cC,dV]at J;obtain⟨rfl,J⟩:=J;split at J
    ·rename_i g a7;simp only[cC,dV,bne_iff_ne,ne_eq]at J;obtain⟨⟨rfl,rfl⟩,bs⟩:=J;obtain⟨v,g1,g2⟩:=afI aN aJ rfl C9 a7 bs (ev aM U) (by simpa only[hy]using he) aw;exact⟨v,lF g1,g2⟩
    ·cases J
   ·cases J
  ·cases J
 ·rename_i off agg sz x s o i;simp only[cC]at ay;obtain⟨J,U⟩:=ay;split at J
  ·rename_i f aJ;split at J
   ·rename_i xh t C9;simp only[cC,dV]at J;obtain⟨rfl,J⟩:=J;split at J
    ·rename_i g a7;simp only[cC,dV]at J;obtain⟨rfl,rfl⟩:=J;obtain⟨v,g1,g2⟩:=afP aN aJ rfl C9 a7 (ev aM U) (by simpa only[hy]using he) aw;exact⟨v,lF g1,g2⟩
    ·cases J
   ·cases J
  ·cases J
 ·rename_i sz x i t o j;simp only[cC]at ay;obtain⟨⟨J,U⟩,au⟩:=ay;split at J
  ·rename_i e aJ;split at J
   ·rename_i g a7;simp only[dV]at J;subst J;obtain⟨v,g1,g2⟩:=aiO aN aJ rfl a7 (ev aM U) (ev aM au) (by simpa only[hy]using he) aw;exact⟨v,lF g1,g2⟩
   ·cases J
  ·cases J
 ·rename_i x i t o j;simp only[cC]at ay;obtain⟨⟨J,U⟩,au⟩:=ay;split at J
  ·rename_i aJ;obtain⟨d,aR,e8⟩:=jh aN aJ;obtain rfl:=Ad e8;have al:=ev aM U;have aE:=ev aM au;simp only[hy,Ix]at he;split at he
   ·rename_i s k n ag ax;cases he;rw[ag]at al;rw[ax]at aE;simp only[bd]at al aE;obtain⟨va,Uf⟩:=aw;have bD:n.toNat<s.length:=Ω
    have ahH:(⟨s.toArray⟩:ByteArray)[n.toNat]? =some (s.getD n.toNat 0):=by exact agT s n.toNat bD
    refine⟨_,lF (v:= .int .u8 (s.getD n.toNat 0).toNat) ?_,by simp[bd]⟩;simp only[Instr.index,aE,asIntOf,al.1,fT,gJ,fX,run_underlying aR,va,if_true,ahH]
   ·cases he
  ·cases J
 ·rename_i x lo hi t o l h;simp only[cC]at ay;obtain⟨⟨⟨J,U⟩,au⟩,a6⟩:=ay;split at J
  ·rename_i aJ;obtain⟨d,aR,e8⟩:=jh aN aJ;obtain rfl:=Ad e8;have al:=ev aM U;simp only[hy,IC]at he;split at he
   ·rename_i s ag;rw[ag]at al;simp only[bd]at al;split at he
    ·rename_i qB cz ar Lo;cases he;obtain⟨bK,cq,da⟩:=aw;have aU:=HI aM au ar;have bo:=HI aM a6 Lo;refine⟨_,lF (v:= .string ⟨((s.take cz.toNat).drop qB.toNat).toArray⟩) ?_,?_⟩
     ·have ab:=P9 P w false s.length s.length (l.map a.eval) (h.map a.eval) qB cz
       aU bo bK cq da (e7 _)
      simp only[Instr.sliceAt,Instr.slice,al.1,fT,gJ,fX,run_underlying aR,Option.map_none,mc,hl,if_false,EJ,ab,adB]
     ·simp only[bd];refine⟨trivial,?_⟩;have:=al.2;simp only[tc,List.length_take];omega
    ·cases he
   ·cases he
  ·cases J
 ·rename_i sz x lo hi t o l h;simp only[cC]at ay;obtain⟨⟨⟨J,U⟩,au⟩,a6⟩:=ay;split at J
  ·rename_i e aJ;split at J
   ·rename_i g a7;simp only[dV]at J;subst J;obtain⟨d,aR,e8⟩:=jh aN aJ;obtain rfl:=ts e8;obtain⟨_,en⟩:=vX aN a7 w;have al:=ev aM U;simp only[hy,Hp]at he;split at he
    ·rename_i dT tag xs ag;split at he
     ·rename_i fp;subst fp;rw[ag]at al;simp only[bd]at al;obtain⟨⟨tj,cap,aB,ch,ca,fB⟩,_⟩:=al;split at he
      ·rename_i qB cz ar Lo;cases he;obtain⟨bK,cq,da⟩:=aw;have aU:=HI aM au ar;have bo:=HI aM a6 Lo;have ab:=P9 P w true xs.length cap (l.map a.eval) (h.map a.eval) qB cz
        aU bo bK cq da ch
       refine⟨_,lF (v:= .slice (if cap=qB.toNat then tj else tj.map (·.add (qB.toNat*g.size))) (cz.toNat-qB.toNat) (cap-qB.toNat)) ?_,?_⟩
       ·simp only[Instr.sliceAt,Instr.slice,aB,fT,gJ,fX,run_underlying aR,Option.map_none,ab,en]
       ·simp only[bd];have hlen:((xs.take cz.toNat).drop qB.toNat).length=cz.toNat-qB.toNat:=by simp;omega
        refine⟨⟨_,_,by rw[hlen],by rw[hlen];omega,⟨Ω,by rw[hlen];omega⟩,?_⟩,(fun h=>by cases h),(fun g h=>by cases h),(fun _ _ h=>by cases h),(fun _ h=>by cases h)⟩;rcases fB with rfl|⟨b,off,us,rfl,g1,g2⟩
        ·left;simp
        ·by_cases AF:cap=qB.toNat
         ·left;apply List.eq_nil_of_length_eq_zero;rw[hlen];omega
         ·right;rw[if_neg AF];refine⟨b,off+qB.toNat*g.size,(us.take (cz.toNat*g.size)).drop (qB.toNat*g.size),by simp[pK],Hh _ (Hj _ g1),YB _ (YE _ g2)⟩
      ·cases he
     ·cases he
    ·cases he
   ·cases J
  ·cases J
 ·rename_i op wr x y Xl ty o o' apv;simp only[cC,fc]at ay;obtain⟨⟨rfl,J⟩,U⟩:=ay;obtain⟨r,g1,g2⟩:=abq P w ν (by simpa only[hy]using he) aw ty (ev aM J) (ev aM U) o o';exact⟨r,lF g1,g2⟩
 ·rename_i x op ty o;simp only[cC,fc]at ay;obtain⟨rfl,J⟩:=ay;have al:=ev aM J;simp only[hy]at he;unfold HD at he;split at he
  ·rename_i b ab;cases he;rw[ab]at al;simp only[bd]at al;exact⟨_,lF (v:= .bool (!b)) (by simp[Op.unary,al]),by simp[bd]⟩
  ·cases he
 ·rename_i x op ty o;simp only[cC,fc]at ay;obtain⟨rfl,J⟩:=ay;have al:=ev aM J;simp only[hy]at he;unfold Hy at he;split at he
  ·rename_i k n ab;cases he;rw[ab]at al;simp only[bd]at al;exact⟨_,lF (v:= .int k (k.wrap (0-n))) (by simp[Op.unary,al,Op.intArith]),by simp[bd]⟩
  ·cases he
 ·rename_i k x s d o;simp only[cC]at ay;obtain⟨J,U⟩:=ay;split at J
  ·rename_i aU bo C7 vd;simp only[fc]at J;subst J;obtain⟨d1,fC,ahr⟩:=jh aN C7;obtain rfl:=FY ahr;obtain⟨d2,eW,ahs⟩:=jh aN vd;obtain rfl:=FY ahs;have al:=ev aM U;simp only[hy]at he;unfold FW at he;split at he
   ·rename_i bT n ab;cases he;rw[ab]at al;simp only[bd]at al;exact⟨_,lF (v:= .int k (k.wrap n)) (by simp[convert,al,run_underlying fC,run_underlying eW,Conv.intToInt]),by simp[bd]⟩
   ·cases he
  ·cases J
 ·rename_i i x o j;simp only[cC,dV]at ay;obtain⟨rfl,J⟩:=ay;have al:=ev aM J;simp only[hy]at he;unfold Ag at he;split at he
  ·rename_i bf ab;simp only[ha]at he;obtain⟨q,bm,he⟩:=he;cases he;rw[ab]at al;simp only[bd]at al;obtain⟨us,hu,U⟩:=al;obtain⟨v,g1,g2⟩:=Ik i U bm;have ll:us[i]? =some v:=by simpa using g1
   exact⟨v,lF (by simp[Instr.extract,hu,ll]),g2⟩
  ·cases he
 ·rename_i x o t;simp only[cC]at ay;obtain⟨J,U⟩:=ay;have al:=ev aM U;simp only[hy]at he;unfold Bg at he;split at he
  ·rename_i sz tag xs ab;cases he;rw[ab]at al;simp only[bd]at al;obtain⟨⟨tj,cap,aB,_⟩,_⟩:=al;refine⟨.int .i64 xs.length,?_,by simp[bd]⟩;split at J
   ·rename_i aJ;obtain⟨d,aR,e8⟩:=jh aN aJ;obtain rfl:=ts e8;simp[execOp,resolve,invoke,builtin,Builtin.len_,run_underlying aR,aB,goInt]
   ·cases J
  ·rename_i sz k n ab;cases he;rw[ab]at al;simp only[bd]at al;obtain⟨⟨tj,cap,aB⟩,_⟩:=al;refine⟨.int .i64 n,?_,by simp[bd]⟩;split at J
   ·rename_i aJ;obtain⟨d,aR,e8⟩:=jh aN aJ;obtain rfl:=ts e8;simp[execOp,resolve,invoke,builtin,Builtin.len_,run_underlying aR,aB,goInt]
   ·cases J
  ·rename_i tj n cap ab;cases he;rw[ab]at al;simp only[bd]at al;refine⟨.int .i64 n,?_,by simp[bd]⟩;split at J
   ·rename_i aJ;obtain⟨d,aR,e8⟩:=jh aN aJ;obtain rfl:=ts e8;simp[execOp,resolve,invoke,builtin,Builtin.len_,run_underlying aR,al,goInt]
   ·cases J
  ·cases he
 ·rename_i x o t;simp only[cC]at ay;obtain⟨J,U⟩:=ay;have al:=ev aM U;simp only[hy]at he;unfold EK at he;split at he
  ·rename_i s ab;cases he;rw[ab]at al;simp only[bd]at al;refine⟨.int .i64 s.length,?_,by simp[bd]⟩;split at J
   ·rename_i aJ;obtain⟨d,aR,e8⟩:=jh aN aJ;obtain rfl:=Ad e8;simp[execOp,resolve,invoke,builtin,Builtin.len_,run_underlying aR,al.1,goInt,EJ]
   ·cases J
  ·rename_i s ab;cases he;rw[ab]at al;simp only[bd]at al;refine⟨.int .i64 s.size,?_,by simp[bd]⟩;split at J
   ·rename_i aJ;obtain⟨d,aR,e8⟩:=jh aN aJ;obtain rfl:=Ad e8;simp[execOp,resolve,invoke,builtin,Builtin.len_,run_underlying aR,al,goInt]
   ·cases J
  ·cases he
 ·rename_i zero parts t b0;split at ay
  ·rename_i ea z aJ;simp only[cC]at ay;obtain⟨⟨J,U⟩,au⟩:=ay;have bp:=arc J;obtain⟨i,d,arb,al,aE,bn,dh,hq,h0,rY,rZ⟩:=(vY aN aJ).ex;obtain⟨gs,rfl,kI⟩:=J7 hq;simp only at bp rY rZ;subst bp;have jR:(gs.toList.all fun f=>(eo bG f.type).isSome)=true:=by rw[<-kI]at U;simpa[List.all_map,Function.comp_def]using U
   obtain⟨rv,cV,dC⟩:=Xx aN gs.toList jR;rw[kI]at dC;cases arb<;>simp only[zI]at rY;case agg us=>
    simp only[hy]at he;cases ab:uS st.t zero parts with
    |none=>simp[ab]at he
    |some x=>obtain⟨cw,cs'⟩:=x;simp only[ab,nl]at he;cases he;obtain⟨ct,g1,g2⟩:=YR aM dC parts b0.toList zero us c cs' au (Pl w ν _ _ rY) ab aw;refine⟨.agg ct,lF (run_build w t _ ct ?_),by simp only[bd];exact⟨ct,rfl,g2⟩⟩;simp only[Program.built,al,aE,h0,cV,pB];simpa using g1
   all_goals cases rY
  ·cases ay
 ·rename_i x o;have al:=ev aM ay;simp only[hy]at he;unfold Br at he;split at he
  ·rename_i k off ab;cases he;rw[ab]at al;have aE:=al;simp only[bd]at al;obtain⟨b,_,aB⟩:=al;exact⟨a.eval o,by simp[execOp,aB],aE⟩
  ·rename_i q ab;cases he;rw[ab]at al;have aE:=al;simp only[bd]at al;obtain⟨b,off,u,aB,_⟩:=al;exact⟨a.eval o,by simp[execOp,aB],aE⟩
  ·rename_i f cs ab;cases he;rw[ab]at al;have aE:=al;simp only[bd]at al;obtain⟨us,aB,_⟩:=al;exact⟨a.eval o,by simp[execOp,aB],aE⟩
  ·cases he
 ·rename_i x y o o' t dZ;simp only[cC]at ay;have al:=ev aM ay.1;have aE:=ev aM ay.2;simp only[hy]at he;unfold Hx at he;split at he
  ·rename_i k m bT n hm ax;split at he
   ·rename_i ad;subst ad;cases he;rw[hm]at al;rw[ax]at aE;simp only[bd]at al aE;exact⟨.int k (if n<m then n else m),by simp[execOp,resolve,invoke,builtin,Builtin.min_,Builtin.min2,al,aE],by simp[bd]⟩
   ·cases he
  ·cases he
 ·rename_i n xs m os;simp only[cC,dV]at ay;obtain⟨rfl,ay⟩:=ay;simp only[hy]at he;cases he;have u9:=EA aM ay;refine⟨.func (.func n) #[] (os.map a.eval),by simp[execOp,Instr.makeFunc],?_⟩;simp only[bd];exact⟨os.map a.eval,rfl,by simpa using u9⟩
 ·rename_i ck zero ok x k t o o' HE;simp only[cC,dV]at ay;obtain⟨⟨⟨rfl,J⟩,U⟩,au⟩:=ay;have al:=ev aM U;have aE:=ev aM au;split at J
  ·rename_i sz lh mV pS z aJ;simp only[cC]at J;obtain⟨Dg,Lg⟩:=J;split at Lg
   ·rename_i asp ahv;have bp:=Pn Lg;obtain⟨cQ,hu,e8⟩:=jh aN aJ;have tE:cQ= .map mV pS:=by cases cQ<;>simp[kr]at e8;obtain⟨rfl,rfl⟩:=e8;rfl
    subst tE;obtain⟨b5,la,z2,_⟩:=OO aN ahv w;rw[<-bp]at z2;have aa:=(Pm w ν z2).1;have mi:=Me aN Dg;simp only[hy]at he;unfold nM at he;split at he
    ·rename_i key af;rw[af]at al;simp only[bd]at al;obtain⟨bl,ch,ca⟩:=al;split at he
     ·rename_i clock borns kvs ik;obtain⟨iI,us,el,g1,g2,g3,g4,g5⟩:=aM.good.box key _ ik;rw[ch]at g1;cases g1;simp only[j1]at g4;simp only[jx]at g5;have hr:(getObj bl).run P w= .ok (.map (fL borns us.toList).toArray clock) w:=vR g4;split at he
      ·cases he
      rename_i wH;have wD:=Oe (P:=P) (w:=w) mi ((fL borns us.toList).toArray.isEmpty) aE (by simpa using wH);split at he
      ·rename_i v hm;cases he;obtain⟨j,u,f1,f2⟩:=MH mi aE borns kvs us.toList 0 _ g5.1 g5.2.len hm;refine⟨if ok then .tuple #[u,.bool true]else u,?_,?_⟩
       ·simp only[execOp];refine lF ?_;simp only[Instr.lookup,fT,run_underlying hu,fX,ca,hr,gJ,wD,f1.run mi]
       ·cases ok
        ·simpa using f2
        ·simp only[if_true,bd];exact⟨_,rfl,by simp only[cW];exact⟨_,_,rfl,f2,_,_,rfl,by simp[bd],rfl⟩⟩
      ·rename_i hm;cases he;have f1:=MH mi aE borns kvs us.toList 0 _ g5.1 g5.2.len hm;simp only at f1;refine⟨if ok then .tuple #[b5,.bool false]else b5,?_,?_⟩
       ·simp only[execOp];refine lF ?_;simp only[Instr.lookup,fT,run_underlying hu,fX,ca,hr,gJ,wD,f1.run mi,la]
       ·cases ok
        ·simpa using aa
        ·simp only[if_true,bd];exact⟨_,rfl,by simp only[cW];exact⟨_,_,rfl,aa,_,_,rfl,by simp[bd],rfl⟩⟩
      ·cases he
     ·cases he
    ·cases he
   ·cases Lg
  ·cases J
 ·rename_i x o;have al:=ev aM ay;simp only[hy]at he;unfold ov at he;split at he
  ·rename_i eR af;rw[af]at al;simp only[bd]at al;obtain⟨bl,ch,ca⟩:=al;split at he
   ·rename_i since seen last mk ik;obtain⟨iI,us,el,g1,g2,g3,g4,g5⟩:=aM.good.box eR _ ik;rw[ch]at g1;cases g1;simp only[j1]at g4;simp only[jx,cW,bd]at g5;obtain⟨u,ct,rj,⟨mb,m1,rfl⟩,rfl⟩:=g5;rw[rj]at g4;simp only at g4;split at he
    ·rename_i clock borns kvs ahX;obtain⟨arE,sZ,ar9,aU,bo,cd,e9,di⟩:=aM.good.box mk _ ahX;rw[m1]at aU;cases aU;simp only[j1]at e9;simp only[jx]at di;split at he
     ·rename_i n ax;simp only[ha]at he;obtain⟨q,bm,he⟩:=he;cases he;obtain⟨e,f1,f2⟩:=Ww borns kvs sZ.toList p di.1 bm;refine⟨.tuple #[e.key,e.val],?_,f2⟩;simp only[execOp];refine lF ?_;have ahD:(getObj bl).run P w= .ok (.mapIter (some mb) since seen.toArray last) w:=vR g4;have ahE:(getObj mb).run P w= .ok (.map (fL borns sZ.toList).toArray clock) w:=vR e9;have La:seen.toArray.back? =some n:=by simpa using ax
      have AG:(clock !=last)=false:=by simp[aw]
      have ahw:(fL borns sZ.toList).toArray.find? (·.born==n)=some e:=by simpa using f1
      simp only[Instr.entry,ca,fT,ahD,fX,La,ahE,AG,hl,if_false,ahw,gJ]
     ·cases he
    ·cases he
   ·cases he
  ·cases he
 ·rename_i x o t;simp only[cC]at ay;obtain⟨J,U⟩:=ay;have al:=ev aM U;simp only[hy]at he;unfold Bq at he;split at he
  ·rename_i key ab;rw[ab]at al;simp only[bd]at al;obtain⟨bl,ch,ca⟩:=al;split at he
   ·rename_i clock borns kvs ik;cases he;obtain⟨iI,us,el,g1,g2,g3,g4,g5⟩:=aM.good.box key _ ik;rw[ch]at g1;cases g1;simp only[j1]at g4;simp only[jx]at g5;have hr:(getObj bl).run P w= .ok (.map (fL borns us.toList).toArray clock) w:=vR g4;have hlen:(fL borns us.toList).length=borns.length:=SY g5.2.len (YK g5.1);refine⟨.int .i64 borns.length,?_,by simp[bd]⟩;split at J
    ·rename_i aJ;obtain⟨d,aR,e8⟩:=jh aN aJ;obtain⟨mV,pS,rfl⟩:∃mV pS,d= .map mV pS:=by cases d<;>simp[kr]at e8;exact⟨_,_,rfl⟩
     simp[execOp,resolve,invoke,builtin,Builtin.len_,run_underlying aR,ca,goInt,hr,hlen]
    ·cases J
   ·cases he
  ·cases he
 ·rename_i neg ea x y op t o o' apv;simp only[cC,fc]at ay;obtain⟨⟨⟨rfl,bs⟩,J⟩,U⟩:=ay;have al:=ev aM J;have aE:=ev aM U;simp only[hy]at he;unfold iH at he;split at he
  ·rename_i bq cb bu ab;simp only at bs;cases he;rw[bu]at al;rw[ab]at aE;simp only[bd]at al aE;split at bs
   ·rename_i aJ;obtain⟨d,aR,e8⟩:=jh aN aJ;obtain rfl:d= .bool:=by cases d<;>simp[kr]at e8;rfl
    refine⟨.bool (if neg then bq !=cb else bq==cb),lF ?_,by simp[bd]⟩;cases neg<;>simp[al,aE,eqGuard,binOp,acH aR,bne]
   ·cases bs
  ·rename_i asw as e0 bu ab;simp only at bs;simp only[ha]at he;obtain⟨q,bm,he⟩:=he;cases he;rw[bu]at al;rw[ab]at aE;simp only[bd]at al aE;obtain⟨X,acw,am2⟩:=al;obtain⟨Y,acx,am3⟩:=aE;obtain⟨gs,hu,a7,cR,iZ⟩:=Tx aN bs;obtain⟨i1,_,_⟩:=S2 hu a7 cR am2 am3 bm;refine⟨.bool (if neg then !q else q),lF ?_,by simp[bd]⟩;rw[acw,acx];cases neg
   ·simp only[hl,if_false,fT,run_eqGuard_agg w _ t o o' X Y iZ,fX,run_eql_struct,i1]
   ·simp only[if_true,fT,run_eqGuard_agg w _ t o o' X Y iZ,fX,run_neq_struct,i1]
  ·cases he
 ·rename_i x y o o' t dZ;simp only[cC]at ay;have al:=ev aM ay.1;have aE:=ev aM ay.2;simp only[hy]at he;unfold Ht at he;split at he
  ·rename_i k m bT n hm ax;split at he
   ·rename_i ad;subst ad;cases he;rw[hm]at al;rw[ax]at aE;simp only[bd]at al aE;exact⟨.int k (if m<n then n else m),by simp[execOp,resolve,invoke,builtin,Builtin.max_,Builtin.max2,al,aE],by simp[bd]⟩
   ·cases he
  ·cases he
 ·rename_i t x dZ o;simp only[cC,dV]at ay;obtain⟨⟨rfl,J⟩,U⟩:=ay;have al:=ev aM U;simp only[hy]at he;cases he;split at J
  ·rename_i aJ;obtain⟨d,aR,e8⟩:=jh aN aJ;obtain rfl:=ts e8;refine⟨.iface t (a.eval o),lF (by simp[Instr.makeInterface,run_underlying aR]),?_⟩;simp only[bd];exact⟨_,rfl,al⟩
  ·cases J
 ·rename_i agg sz x t o;simp only[cC]at ay;obtain⟨J,U⟩:=ay;split at J
  ·rename_i f aJ;simp only[cC,dV]at J;obtain⟨rfl,rfl⟩:=J;obtain⟨v,g1,g2⟩:=Ho aN aM.good aJ (ev aM U) (ajJ (by simpa only[hy]using he)) aw;exact⟨v,lF g1,g2⟩
  ·cases J
 ·rename_i agg sz x t o;simp only[cC]at ay;obtain⟨J,U⟩:=ay;split at J
  ·rename_i f aJ;simp only[cC,dV]at J;obtain⟨rfl,rfl⟩:=J;obtain⟨v,g1,g2⟩:=Ho aN aM.good aJ (ev aM U) (afX (by simpa only[hy]using he)) aw;exact⟨v,lF g1,g2⟩
  ·cases J
 ·exact absurd rfl (ahi _ _ _ _ _)
 ·cases ay
theorem apC{P:cG}{bG:List (Nat×dH)}(aN:fS P bG=true){C:ft}{st:br}{a:Act}{w:World}{ν:bg}(aM:cY C st a w ν){i:gd}{o:Oper}(ay:EW bG i o.op=true)
  {c:Prop} {p:ai} (he:hy st i=some (c,p)) (aw:c):∃v,(execOp a.eval o).run P w= .ok (.value v) w/\bd w ν p v:=by
 by_cases ab:∃ck z ok x k,i= .mgetB ck z ok x k
 ·obtain⟨ck,z,ok,x,k,rfl⟩:=ab;refine ZD aN aM (i:= .mget ck z ok x k) (fun _ _ _ _ _ e=>by cases e) ?_ he aw;obtain⟨dst,op,type,pos,after,guard⟩:=o;cases op<;>first|exact ay|simp[EW]at ay
 ·exact ZD aN aM (fun ck z ok x k e=>ab ⟨ck,z,ok,x,k,e⟩) ay he aw
theorem Sw{w:World}{o:Obj}{b i:Nat}(h:b<w.heap.size):(w.alloc o).cell? ⟨b,i,none⟩=w.cell? ⟨b,i,none⟩:=World.cell?_of_block (Below.heap_alloc w o b h)
def bg.withBox(ν:bg)(k:aI)(bl:Nat):bg:={ν with bx:=fun j=>if j=k then some bl else ν.bx j}
def bg.withOwn(ν:bg)(k:aI)(n:Nat)(v:Value):bg:={ν with ow:=fun j=>if j=k then some (n,v)else ν.ow j}
theorem cY.lookNone{C:ft}{st:br}{a:Act}{w:World}{ν:bg}(h:cY C st a w ν){k:aI}(ad:fresh st.n st.o k):look k st.b=none/\look k st.e=none:=by
 obtain⟨J,U,_⟩:=h.new k ad;constructor
 ·cases ab:look k st.b with
  |none=>rfl
  |some cs=>obtain⟨bl,us,el,g1,_⟩:=h.good.box _ _ ab;rw[J]at g1;cases g1
 ·cases ab:look k st.e with
  |none=>rfl
  |some o=>obtain⟨v,us,g1,_⟩:=h.good.own _ _ ab;rw[U]at g1;cases g1
theorem Good.ownLt{pr:Nat->Prop}{w:World}{ν:bg}{b:List (aI×List ai)}{e:List (aI×fY)}(h:Good pr w ν b e){g:aI}{o:fY}(a7:look g e=some o){n:Nat}{v:Value}(aB:ν.ow g=some (n,v)){bl:Nat}(ab:v.ownBlock=some bl):bl<w.heap.size:=by obtain⟨v',us,g1,g2,_⟩:=h.own g o a7;rw[aB]at g1;cases g1;exact(g2.lt bl ab).2
theorem Good.boxLt{pr:Nat->Prop}{w:World}{ν:bg}{b:List (aI×List ai)}{e:List (aI×fY)}(h:Good pr w ν b e){k:aI}{cs:List ai}(ad:look k b=some cs){bl:Nat}(ab:ν.bx k=some bl):bl<w.heap.size:=by obtain⟨iI,us,el,g1,_,_,g4,_⟩:=h.box k cs ad;rw[ab]at g1;cases g1;exact(Array.getElem?_eq_some_iff.1 g4).1
theorem cY.newBox{C:ft}{st:br}{a:Act}{w:World}{ν:bg}(h:cY C st a w ν){fv:aI}(Df:ν.bx fv=none/\ν.ow fv=none/\∀j b,¬ν.tr fv j b){n':Nat}{o':List aI}(cI:∀j,fresh n' o' j->fresh st.n st.o j/\j≠fv){cs:List ai}{us:Array Value}(el:fZ)(aw:jx w ν cs us.toList):
  cY C {st with b:=cA fv cs st.b,n:=n',o:=o'} a (w.alloc (j1 cs us el)) (ν.withBox fv w.heap.size)/\
  bd (w.alloc (j1 cs us el)) (ν.withBox fv w.heap.size) (.ptr fv 0) (.pointer (some ⟨w.heap.size,0,none⟩)):=by
 obtain⟨pZ,rh,wN⟩:=Df;have ay:lK w ν (w.alloc (j1 cs us el)) (ν.withBox fv w.heap.size):=by
  refine⟨fun b o bk=>⟨bk,Sw (h.good.alt b o bk)⟩,fun k b _ ad=>?_,fun g n u _ a7=>⟨n,u,a7,.inl ⟨rfl,rfl⟩⟩,fun b o bk=>xx (Below.heap_alloc w _ b (h.good.alt b o bk)),fun _ _ _ _ h=>h⟩;have:k≠fv:=fun e=>by subst e;rw[pZ]at ad;cases ad
  simp[bg.withBox,this,ad]
 have en:(w.alloc (j1 cs us el)).heap.size=w.heap.size+1:=by simp
 have hI:∀k,(look k (cA fv cs st.b)).isSome->k=fv\/(k≠fv/\(look k st.b).isSome/\(ν.withBox fv w.heap.size).bx k=ν.bx k):=by
  intro k ad;by_cases e:k=fv
  ·exact .inl e
  ·rw[je,if_neg (ld e)]at ad;exact .inr ⟨e,ad,by simp[bg.withBox,e]⟩
 refine⟨h.over ay rfl ⟨fun bl o bk=>by rw[en];have:=h.good.alt bl o bk;omega,fun k eV ad=>?_,fun k bT bl ad og al aE=>?_,fun g o a7=>?_,h.good.oinj,fun g k n v bl a7 ad aB ab af=>?_,fun k=>?_,fun bl ab k j aN=>?_⟩
  ⟨h.fr.os,h.fr.tape,h.fr.output,by rw[en];have:=h.fr.size;omega,fun k ad hm=>?_,fun b o bk=>?_,h.fr.fresh,fun n b ab=>?_,h.fr.obn,h.fr.row,h.fr.obr,h.fr.trd,fun k j b ab=>⟨(h.fr.trb k j b ab).1,by rw[en];have:=(h.fr.trb k j b ab).2;omega⟩,fun k j b ab=>?_,fun b o bk=>(ay.sh b o (h.fr.keep b o bk).1).trans (h.fr.sh b o bk)⟩ (fun m hm=>?_),?_⟩
 ·simp only at ad;rw[je]at ad;by_cases e:fv=k
  ·rw[if_pos e]at ad;cases ad;subst e;refine⟨w.heap.size,us,el,by simp[bg.withBox],.inr h.fr.size,fun o bk=>?_,heap_alloc_new w _,qG ay aw⟩;have:=h.good.alt _ o bk;omega
  ·rw[if_neg e]at ad;obtain⟨bl,ct,gh,g1,g2,g3,g4,g5⟩:=h.good.box k eV ad;exact⟨bl,ct,gh,ay.bx _ _ trivial g1,g2,g3,by rw[Below.heap_alloc w _ bl (Array.getElem?_eq_some_iff.1 g4).1];exact g4,qG ay g5⟩
 ·rcases hI k ad with rfl|⟨il,gw,jv⟩<;>rcases hI bT og with rfl|⟨m1,m2,m3⟩
  ·rfl
  ·exfalso;simp only[bg.withBox,if_true,dQ]at al;subst al;rw[m3]at aE;obtain⟨eV,iY⟩:=fU.1 m2;have:=h.good.boxLt iY aE;omega
  ·exfalso;simp only[bg.withBox,if_true,dQ]at aE;subst aE;rw[jv]at al;obtain⟨eV,iY⟩:=fU.1 gw;have:=h.good.boxLt iY al;omega
  ·rw[jv]at al;rw[m3]at aE;exact h.good.inj k bT bl gw m2 al aE
 ·obtain⟨v,xs,g1,g2,g3,g4⟩:=h.good.own g o a7;exact⟨v,xs,g1,g2.alloc _,g3,sR ay (fun _ _ _ h=>h) g4⟩
 ·rcases hI k ad with rfl|⟨il,gw,jv⟩
  ·simp only[bg.withBox,if_true,dQ]at af;subst af;obtain⟨o,h2⟩:=fU.1 a7;have:=h.good.ownLt h2 aB ab;omega
  ·rw[jv]at af;exact h.good.obx g k n v bl a7 gw aB ab af
 ·by_cases e:k=fv
  ·subst e;exact .inr rh
  ·rcases h.good.one k with J|J
   ·exact .inl (by simp[bg.withBox,e,J])
   ·exact .inr J
 ·rcases ab with⟨bT,bC,a2⟩|ab
  ·rcases hI bT bC with rfl|⟨il,gw,jv⟩
   ·simp[bg.withBox]at a2;subst a2;exact absurd (h.fr.trb k j _ aN).2 (Nat.lt_irrefl _)
   ·exact h.good.otr bl (.inl ⟨bT,gw,by rw[<-jv];exact a2⟩) k j aN
  ·exact h.good.otr bl (.inr ab) k j aN
 ·rw[Below.heap_alloc w _ k (by have:=h.fr.size;omega)];exact h.fr.block k ad hm
 ·obtain⟨aU,bo⟩:=h.fr.keep b o bk;exact⟨aU,(Sw (h.good.alt b o aU)).trans bo⟩
 ·exact ay.bx _ _ trivial (h.fr.obj n b ab)
 ·have cM:k≠fv:=fun e=>by subst e;exact wN j b ab
  obtain⟨t1,t2⟩:=h.fr.trn k j b ab;exact⟨by simp[bg.withBox,cM,t1],t2⟩
 ·obtain⟨f1,f2⟩:=cI m hm;obtain⟨aU,bo⟩:=h.new m f1;refine⟨?_,bo⟩;simp[bg.withBox,f2,aU]
 ·simp[bd,bg.withBox]
theorem cY.setBox{C:ft}{st:br}{a:Act}{w w':World}{ν:bg}(h:cY C st a w ν){k:aI}{cs cs':List ai}(ad:look k st.b=some cs){bl:Nat}(ab:ν.bx k=some bl){us:Array Value}{el:fZ}
  (AT:w'.os=w.os) (LO:w'.tape=w.tape) (LA:w'.output=w.output) (nG:∀j,j≠bl->w'.heap[j]? =w.heap[j]?) (en:w'.heap.size=w.heap.size) (kK:w'.heap[bl]? =some (j1 cs' us el)) (aw:jx w ν cs' us.toList):
  cY C {st with b:=cA k cs' st.b} a w' ν/\lK w ν w' ν:=by
 obtain⟨iI,fH,ar8,g1,g2,g3,g4,g5⟩:=h.good.box k cs ad;rw[ab]at g1;cases g1;have ay:lK w ν w' ν:=by
  refine⟨fun b o bk=>⟨bk,World.cell?_of_block (nG b fun e=>?_)⟩,fun _ _ _ h=>h,fun g n u _ a7=>⟨n,u,a7,.inl ⟨rfl,rfl⟩⟩,fun b o bk=>xx (nG b fun e=>?_),fun _ _ _ _ h=>h⟩<;>
  (subst e;exact g3 o bk)
 have Gy:∀j,(look j (cA k cs' st.b)).isSome->(look j st.b).isSome:=by
  intro j ae;rw[je]at ae;by_cases e:k=j
  ·subst e;simp[ad]
  ·rwa[if_neg e]at ae
 refine⟨h.over ay rfl ⟨fun b o bk=>by rw[en];exact h.good.alt b o bk,fun j eV ae=>?_,fun j dP b ae iK=>h.good.inj j dP b (Gy j ae) (Gy dP iK),fun g o a7=>?_,h.good.oinj,fun g j n v b a7 ae=>h.good.obx g j n v b a7 (Gy j ae),h.good.one,fun bl ab=>h.good.otr bl (ab.imp (fun⟨k,J,U⟩=>⟨k,Gy k J,U⟩) id)⟩
  ⟨AT.trans h.fr.os,LO.trans h.fr.tape,LA.trans h.fr.output,by rw[en];exact h.fr.size,fun j ae hm=>?_,fun b o bk=>?_,h.fr.fresh,h.fr.obj,h.fr.obn,h.fr.row,h.fr.obr,h.fr.trd,fun k j b ab=>⟨(h.fr.trb k j b ab).1,by rw[en];exact(h.fr.trb k j b ab).2⟩,h.fr.trn,fun b o bk=>(ay.sh b o (h.fr.keep b o bk).1).trans (h.fr.sh b o bk)⟩ h.new,ay⟩
 ·simp only at ae;rw[je]at ae;by_cases e:k=j
  ·rw[if_pos e]at ae;cases ae;subst e;exact⟨bl,us,el,ab,g2,g3,kK,qG ay aw⟩
  ·rw[if_neg e]at ae;obtain⟨b,ct,gh,al,aE,bn,dh,hq⟩:=h.good.box j eV ae;refine⟨b,ct,gh,al,aE,bn,?_,qG ay hq⟩;rw[nG b fun ff=>e (h.good.inj k j bl (by simp[ad]) (by simp[ae]) ab (by rw[<-ff];exact al))];exact dh
 ·obtain⟨v,xs,al,aE,bn,dh⟩:=h.good.own g o a7;refine⟨v,xs,al,⟨aE.1,?_⟩,bn,sR ay (fun _ _ _ h=>h) dh⟩;rcases aE.2 with aE|⟨bb,cap,cur,f1,f2,f3,f4⟩
  ·exact .inl aE
  ·refine .inr ⟨bb,cap,cur,f1,f2,?_,f4⟩;rw[nG bb fun ff=>h.good.obx g k o.n v bl (by simp[a7]) (by simp[ad]) al (by rw[f1,<-ff];rfl) ab];exact f3
 ·rw[nG j fun e=>by subst e;exact g2.elim hm (fun g2=>Ω)];exact h.fr.block j ae hm
 ·obtain⟨aU,bo⟩:=h.fr.keep b o bk;exact⟨aU,(ay.A b o aU).2.trans bo⟩
theorem cY.storeBox{C:ft}{st:br}{a:Act}{w:World}{ν:bg}(h:cY C st a w ν){k:aI}{cs cs':List ai}(ad:look k st.b=some cs){bl:Nat}(ab:ν.bx k=some bl)(bB:gG cs=true){us:Array Value}(aw:dc w ν cs' us.toList):
  cY C {st with b:=cA k cs' st.b} a (w.setRow bl us) ν:=by
 obtain⟨iI,fH,el,g1,g2,g3,g4,g5⟩:=h.good.box k cs ad;rw[ab]at g1;cases g1;rw[vF bB]at g4;have UQ:=BT aw;exact(h.setBox (w':=w.setRow bl us) ad ab (us:=us) (el:=el) rfl rfl rfl (fun j ae=>setRow_other w bl j us ae) (setRow_size w bl us) (by rw[vF UQ];exact setRow_heap w bl fH us el _ g4) (by rw[vG UQ];exact aw)).1
def bg.withRowOf(ν:bg)(k:aI)(v:Value)(n cells:Nat):bg:={A:=fun b o=>ν.A b o\/(v.ownBlock=some b/\o<cells),bx:=ν.bx,ow:=fun j=>if j=k then some (n,v)else ν.ow j,tr:=ν.tr}
theorem Ml{w:World}{A:Nat->Nat->Prop}{b:Nat}:∀(us:List Value) (off:Nat),(∀j u,us[j]? =some u->A b (off+j)/\w.cell? ⟨b,off+j,none⟩=some u)->l1 w A b off us
 |[],_,_=>trivial
 |u::us,off,h=>⟨h 0 u rfl,Ml us (off+1) fun j x ae=>by have:=h (j+1) x (by simpa using ae);rwa[show off+(j+1)=off+1+j from by omega]at this⟩
theorem FT{w w':World}(a7:w.grownBy w' none){b i:Nat}(h:b<w.heap.size):w'.cell? ⟨b,i,none⟩=w.cell? ⟨b,i,none⟩:=World.cell?_of_block (a7.block b h Ψ)
theorem cY.newRowM{C:ft}{st:br}{a:Act}{w w':World}{ν:bg}(h:cY C st a w ν){k:aI}{xs:List ai}(ad:(ν.bx k=none/\ν.ow k=none/\∀j b,¬ν.tr k j b)\/ ∃o,look k st.e=some o/\o.n<xs.length){el sz:Nat}{v:Value}{us:List Value}
  (a7:w.grownBy w' none) (lT:w'.ownsRow w.heap.size el sz v xs.length us) (aw:dK w ν sz xs us) (eB:xs.length<=lim) {n':Nat} {o':List aI} (cI:∀j,fresh n' o' j->fresh st.n st.o j/\j≠k):
  cY C {st with e:=cA k ⟨xs.length,el,sz,some xs⟩ st.e,n:=n',o:=o'} a w' (ν.withOwn k xs.length v)/\
  ((∃b cap,v= .slice (some ⟨b,0,none⟩) xs.length cap)->bd w' (ν.withOwn k xs.length v) (.row sz k xs.length) v):=by
 have q7:∀bl,v.ownBlock=some bl->w.heap.size<=bl/\bl<w'.heap.size:=fun bl ab=>lT.lt bl ab;have ay:lK w ν w' (ν.withOwn k xs.length v):=by
  refine⟨fun b o bk=>⟨bk,FT a7 (h.good.alt b o bk)⟩,fun j b _ ae=>ae,fun g n u _ iZ=>?_,fun b o bk=>xx (a7.block b (h.good.alt b o bk) Ψ),fun _ _ _ _ h=>h⟩;by_cases e:g=k
  ·subst e;rcases ad with ad|⟨o,ay,bD⟩
   ·rw[ad.2.1]at iZ;cases iZ
   ·obtain⟨v0,fH,al,_⟩:=h.good.own g o ay;rw[al]at iZ;cases iZ;exact⟨xs.length,v,by simp[bg.withOwn],.inr bD⟩
  ·exact⟨n,u,by simp[bg.withOwn,e,iZ],.inl ⟨rfl,rfl⟩⟩
 have k3:∀g,(look g (cA k ⟨xs.length,el,sz,some xs⟩ st.e)).isSome->g=k\/(g≠k/\(look g st.e).isSome/\(ν.withOwn k xs.length v).ow g=ν.ow g):=by
  intro g kI;by_cases e:g=k
  ·exact .inl e
  ·rw[je,if_neg (ld e)]at kI;exact .inr ⟨e,kI,by simp[bg.withOwn,e]⟩
 have UM:∀bl,v.ownBlock=some bl->∀j,¬ν.A bl j:=fun bl ab j bk=>by have J:=h.good.alt bl j bk;have:=(q7 bl ab).1;omega
 have aia:∀j b,¬ν.tr k j b:=fun j b ab=>by
  rcases ad with ad|⟨o,h2,_⟩
  ·exact ad.2.2 j b ab
  ·obtain⟨v0,fH,al,_⟩:=h.good.own k o h2;rw[(h.fr.trn k j b ab).2]at al;cases al
 refine⟨h.over ay rfl ⟨fun bl o bk=>?_,fun j eV ae=>?_,h.good.inj,fun g o ej=>?_,fun g fu n n' u eO bl J U au a6 b3 c7=>?_,fun g j n u bl J U au a6 b3=>?_,fun j=>?_,fun bl ab bT j aN=>?_⟩
  ⟨a7.os.trans h.fr.os,a7.tape.trans h.fr.tape,a7.output.trans h.fr.output,kB h.fr.size a7.size,fun j ae hm=>?_,fun b o bk=>?_,h.fr.fresh,h.fr.obj,h.fr.obn,fun m n u hm=>ED (h.fr.row m n u hm) (fun n u=>ay.ow _ n u trivial),h.fr.obr,h.fr.trd,fun k j b ab=>⟨(h.fr.trb k j b ab).1,Nat.lt_of_lt_of_le (h.fr.trb k j b ab).2 a7.size⟩,fun bT j b ab=>?_,fun b o bk=>(ay.sh b o (h.fr.keep b o bk).1).trans (h.fr.sh b o bk)⟩ (fun m hm=>?_),?_⟩
 ·have:=h.good.alt bl o bk;have:=a7.size;omega
 ·obtain⟨bl,ct,gh,g1,g2,g3,g4,g5⟩:=h.good.box j eV ae;have bD:=(Array.getElem?_eq_some_iff.1 g4).1;exact⟨bl,ct,gh,g1,g2,g3,by rw[a7.block bl bD Ψ];exact g4,qG ay g5⟩
 ·simp only at ej;rw[je]at ej;by_cases e:k=g
  ·rw[if_pos e]at ej;cases ej;subst e;refine⟨v,us,by simp[bg.withOwn],⟨lT.1,?_⟩,fun bl ab=>⟨.inr (kB h.fr.size (q7 bl ab).1),fun j bk=>absurd bk (UM bl ab j)⟩,fun ys aO=>?_⟩
   ·rcases lT.2 with al|⟨bb,cap,cur,f1,f2,f3⟩
    ·exact .inl al
    ·exact .inr ⟨bb,cap,cur,f1,Ω,f3⟩
   ·simp only[dQ]at aO;subst aO;exact⟨rfl,BQ ay aw,UM⟩
  ·rw[if_neg e]at ej;obtain⟨v0,fH,al,aE,bn,dh⟩:=h.good.own g o ej;exact⟨v0,fH,by simp[bg.withOwn,ld e,al],aE.kept a7 (by cases v0.ownBlock<;>simp),bn,sR ay (fun _ _ _ h=>h) dh⟩
 ·rcases k3 g J with rfl|⟨il,gw,jv⟩<;>rcases k3 fu U with rfl|⟨m1,m2,m3⟩
  ·rfl
  ·exfalso;simp only[bg.withOwn,if_true,dQ,jB]at au;rw[m3]at a6;obtain⟨o,h2⟩:=fU.1 m2;have ar:=h.good.ownLt h2 a6 c7;have:=(q7 bl (by rw[au.2];exact b3)).1;omega
  ·exfalso;simp only[bg.withOwn,if_true,dQ,jB]at a6;rw[jv]at au;obtain⟨o,h2⟩:=fU.1 gw;have ar:=h.good.ownLt h2 au b3;have:=(q7 bl (by rw[a6.2];exact c7)).1;omega
  ·rw[jv]at au;rw[m3]at a6;exact h.good.oinj g fu n n' u eO bl gw m2 au a6 b3 c7
 ·rcases k3 g J with rfl|⟨il,gw,jv⟩
  ·simp only[bg.withOwn,if_true,dQ,jB]at au;obtain⟨eV,iY⟩:=fU.1 U;have ar:=h.good.boxLt iY b3;have:=(q7 bl (by rw[au.2];exact a6)).1;omega
  ·rw[jv]at au;exact h.good.obx g j n u bl gw U au a6 b3
 ·by_cases e:j=k
  ·subst e;rcases ad with ad|⟨o,h2,_⟩
   ·exact .inl ad.1
   ·obtain⟨v0,fH,al,_⟩:=h.good.own j o h2;rcases h.good.one j with J|J
    ·exact .inl J
    ·rw[J]at al;cases al
  ·rcases h.good.one j with J|J
   ·exact .inl J
   ·exact .inr (by simp[bg.withOwn,e,J])
 ·rcases ab with ab|⟨g,n,u,bC,a2,a3⟩
  ·exact h.good.otr bl (.inl ab) bT j aN
  ·rcases k3 g bC with rfl|⟨il,gw,jv⟩
   ·simp only[bg.withOwn,if_true,dQ,jB]at a2;have J:=(q7 bl (by rw[a2.2];exact a3)).1;have U:=(h.fr.trb bT j _ aN).2;omega
   ·exact h.good.otr bl (.inr ⟨g,n,u,gw,by rw[<-jv];exact a2,a3⟩) bT j aN
 ·rw[a7.block j (by have:=h.fr.size;omega) Ψ];exact h.fr.block j ae hm
 ·obtain⟨aU,bo⟩:=h.fr.keep b o bk;exact⟨aU,(ay.A b o aU).2.trans bo⟩
 ·have cM:bT≠k:=fun e=>by subst e;exact aia j b ab
  obtain⟨t1,t2⟩:=h.fr.trn bT j b ab;exact⟨t1,by simp[bg.withOwn,cM,t2]⟩
 ·obtain⟨f1,f2⟩:=cI m hm;obtain⟨aU,bo,cd⟩:=h.new m f1;refine⟨aU,?_,cd⟩;simp[bg.withOwn,f2,bo]
 ·intro Lk;simp only[bd];exact⟨Lk,eB,xs.length,v,by simp[bg.withOwn],e7 _,fun _=>rfl⟩
theorem cY.publish{C:ft}{st:br}{a:Act}{w:World}{ν:bg}(h:cY C st a w ν){k:aI}{o:fY}{xs:List ai}(ad:look k st.e=some o)(af:o.xs=some xs){v:Value}(aB:ν.ow k=some (o.n,v))(eB:xs.length<=lim):
  cY C {st with e:=cA k ⟨o.n,o.el,o.sz,none⟩ st.e} a w (ν.withRowOf k v o.n (o.n*o.sz))/\
  bd w (ν.withRowOf k v o.n (o.n*o.sz)) (.slice o.sz (.own k) xs) v:=by
 obtain⟨v0,us,bc,bE,b1,c5⟩:=h.good.own k o ad;rw[aB]at bc;cases bc;obtain⟨df,oy,vH⟩:=c5 xs af;have o6:∀g,(ν.withRowOf k v o.n (o.n*o.sz)).ow g=ν.ow g:=fun g=>by
  simp only[bg.withRowOf];split
  ·rename_i e;subst e;exact aB.symm
  ·rfl
 have ay:lK w ν w (ν.withRowOf k v o.n (o.n*o.sz)):=⟨fun b o bk=>⟨.inl bk,rfl⟩,fun j b _ ae=>ae,fun g n u _ iZ=>⟨n,u,by rw[o6];exact iZ,.inl ⟨rfl,rfl⟩⟩,fun _ _ _=>rfl,fun _ _ _ _ h=>h⟩
 have k3:∀g,(look g (cA k ⟨o.n,o.el,o.sz,none⟩ st.e)).isSome->(look g st.e).isSome:=by
  intro g kI;by_cases e:k=g
  ·subst e;simp[ad]
  ·rwa[je,if_neg e]at kI
 refine⟨h.over ay rfl ⟨fun bl i bk=>?_,fun j eV ae=>?_,h.good.inj,fun g o' ej=>?_,fun g fu n n' u eO bl J U au a6=>h.good.oinj g fu n n' u eO bl (k3 g J) (k3 fu U) (by rwa[o6]at au) (by rwa[o6]at a6),fun g j n u bl J U au=>h.good.obx g j n u bl (k3 g J) U (by rwa[o6]at au),fun j=>?_,fun bl ab=>h.good.otr bl (ab.imp id (fun⟨g,n,v,bC,a2,a3⟩=>⟨g,n,v,k3 g bC,by rwa[o6]at a2,a3⟩))⟩
  ⟨h.fr.os,h.fr.tape,h.fr.output,h.fr.size,h.fr.block,fun b i bk=>⟨.inl (h.fr.keep b i bk).1,(h.fr.keep b i bk).2⟩,fun b i bk=>?_,h.fr.obj,h.fr.obn,fun m n u hm=>ED (h.fr.row m n u hm) (fun n u=>ay.ow _ n u trivial),h.fr.obr,h.fr.trd,h.fr.trb,fun bT j b ab=>⟨(h.fr.trn bT j b ab).1,by rw[o6];exact(h.fr.trn bT j b ab).2⟩,h.fr.sh⟩ (fun m hm=>?_),?_⟩
 ·rcases bk with bk|⟨bk,_⟩
  ·exact h.good.alt bl i bk
  ·exact(bE.lt bl bk).2
 ·obtain⟨bl,ct,gh,g1,g2,g3,g4,g5⟩:=h.good.box j eV ae;refine⟨bl,ct,gh,g1,g2,fun i bk=>?_,g4,qG ay g5⟩;rcases bk with bk|⟨bk,_⟩
  ·exact g3 i bk
  ·exact h.good.obx k j o.n v bl (by simp[ad]) (by simp[ae]) aB bk g1
 ·simp only at ej;rw[je]at ej;by_cases e:k=g
  ·rw[if_pos e]at ej;cases ej;subst e;refine⟨v,us,by rw[o6];exact aB,bE,fun bl ab=>⟨(b1 bl ab).1,fun j bk=>?_⟩,fun ys aO=>by cases aO⟩;rcases bk with bk|⟨_,bk⟩
   ·exact(b1 bl ab).2 j bk
   ·exact bk
  ·rw[if_neg e]at ej;obtain⟨v0,fH,al,aE,bn,dh⟩:=h.good.own g o' ej;have wA:∀bl,v0.ownBlock=some bl->∀j,(ν.withRowOf k v o.n (o.n*o.sz)).A bl j->ν.A bl j:=fun bl ab j bk=>by
    rcases bk with bk|⟨bk,_⟩
    ·exact bk
    ·exact absurd (h.good.oinj k g o.n o'.n v v0 bl (by simp[ad]) (by simp[ej]) aB al bk ab) e
   exact⟨v0,fH,by rw[o6];exact al,aE,fun bl ab=>⟨(bn bl ab).1,fun j bk=>(bn bl ab).2 j (wA bl ab j bk)⟩,sR ay wA dh⟩
 ·rcases h.good.one j with J|J
  ·exact .inl J
  ·exact .inr (by rw[o6];exact J)
 ·rcases bk with bk|⟨bk,_⟩
  ·exact h.fr.fresh b i bk
  ·exact .inr (b1 b bk).1
 ·obtain⟨aU,bo,cd⟩:=h.new m hm;exact⟨aU,by rw[o6];exact bo,cd⟩
 ·simp only[bd];refine⟨?_,fun e=>(by cases e),fun g e=>?_,fun _ _ e=>(by cases e),fun _ e=>(by cases e)⟩
  ·rcases bE.2 with⟨al,aE⟩|⟨bb,cap,cur,f1,f2,f3,f4,f5,f6,f7⟩
   ·refine⟨none,0,by rw[al,df,aE],Ω,⟨by simp[maxLen],eB⟩,.inl (List.eq_nil_of_length_eq_zero Ω)⟩
   ·refine⟨some ⟨bb,0,none⟩,cap,by rw[f1,df],Ω,⟨f5,eB⟩,.inr ⟨bb,0,us,rfl,Ml us 0 fun j u ae=>?_,BQ ay oy⟩⟩;have o8:v.ownBlock=some bb:=by rw[f1];rfl
    have AO:j<us.length:=(eP.1 ae).1;refine⟨.inr ⟨o8,by rw[bE.1]at AO;omega⟩,?_⟩;have:=bE.cells o8 j u ae;rwa[pK]at this
  ·cases e;exact⟨o.n,v,by rw[o6];exact aB,Ω,fun _=>rfl⟩
theorem ZB{α:Type}(k:aI)(p q:α):∀l,cA k q (cA k p l)=cA k q l
 |[]=>by simp[cA]
 |(i,r)::l=>by
  by_cases e:i=k
  ·simp[cA,e]
  ·simp[cA,e,ZB k p q l]
theorem cY.newRow{C:ft}{st:br}{a:Act}{w w':World}{ν:bg}(h:cY C st a w ν){k:aI}{xs:List ai}(ad:(ν.bx k=none/\ν.ow k=none/\∀j b,¬ν.tr k j b)\/ ∃o,look k st.e=some o/\o.n<xs.length){el sz:Nat}{v:Value}{us:List Value}
  (a7:w.grownBy w' none) (lT:w'.ownsRow w.heap.size el sz v xs.length us) (aw:dK w ν sz xs us) (eB:xs.length<=lim) {n':Nat} {o':List aI} (cI:∀j,fresh n' o' j->fresh st.n st.o j/\j≠k):
  cY C {st with e:=cA k ⟨xs.length,el,sz,none⟩ st.e,n:=n',o:=o'} a w' ((ν.withOwn k xs.length v).withRowOf k v xs.length (xs.length*sz))/\
  bd w' ((ν.withOwn k xs.length v).withRowOf k v xs.length (xs.length*sz)) (.slice sz (.own k) xs) v:=by
 have J:=(h.newRowM ad a7 lT aw eB cI).1;have U:=J.publish (k:=k) (o:=⟨xs.length,el,sz,some xs⟩) (xs:=xs) (v:=v) (by simp[je]) rfl (by simp[bg.withOwn]) eB;simpa only[ZB]using U
theorem cY.setRowM{C:ft}{st:br}{a:Act}{w w':World}{ν:bg}(h:cY C st a w ν){k:aI}{o:fY}{xs xs':List ai}(ad:look k st.e=some o)(af:o.xs=some xs){bl:Nat}{v v':Value}(aB:ν.ow k=some (o.n,v))(o8:v.ownBlock=some bl)(GR:v'.ownBlock=some bl)
  (ax:(xs'.length=o.n/\v'=v)\/o.n<xs'.length) {us:List Value} (AT:w'.os=w.os) (LO:w'.tape=w.tape) (LA:w'.output=w.output) (nG:∀j,j≠bl->w'.heap[j]? =w.heap[j]?) (en:w'.heap.size=w.heap.size)
  (lT:w'.ownsRow 0 o.el o.sz v' xs'.length us) (aw:dK w ν o.sz xs' us):
  cY C {st with e:=cA k ⟨xs'.length,o.el,o.sz,some xs'⟩ st.e} a w' (ν.withOwn k xs'.length v')/\lK w ν w' (ν.withOwn k xs'.length v')/\(xs'.length<=lim->bd w' (ν.withOwn k xs'.length v') (.row o.sz k xs'.length) v'):=by
 obtain⟨v0,fH,bc,bE,b1,c5⟩:=h.good.own k o ad;rw[aB]at bc;cases bc;obtain⟨df,oy,vH⟩:=c5 xs af;have ay:lK w ν w' (ν.withOwn k xs'.length v'):=by
  refine⟨fun b i bk=>⟨bk,World.cell?_of_block (nG b fun e=>by subst e;exact vH b o8 i bk)⟩,fun j b _ ae=>ae,fun g n u _ iZ=>?_,fun b i bk=>xx (nG b fun e=>by subst e;exact vH b o8 i bk),fun _ _ _ _ h=>h⟩;by_cases e:g=k
  ·subst e;rw[aB]at iZ;cases iZ;refine⟨xs'.length,v',by simp[bg.withOwn],?_⟩;rcases ax with⟨J,U⟩|J
   ·exact .inl ⟨J,U⟩
   ·exact .inr J
  ·exact⟨n,u,by simp[bg.withOwn,e,iZ],.inl ⟨rfl,rfl⟩⟩
 have k3:∀g n u,(look g (cA k ⟨xs'.length,o.el,o.sz,some xs'⟩ st.e)).isSome->(ν.withOwn k xs'.length v').ow g=some (n,u)->∀b,u.ownBlock=some b->(look g st.e).isSome/\∃n u,ν.ow g=some (n,u)/\u.ownBlock=some b:=by
  intro g n u kI iZ b ab;by_cases e:g=k
  ·subst e;simp only[bg.withOwn,if_true,dQ,jB]at iZ;rw[<-iZ.2,GR]at ab;cases ab;exact⟨by simp[ad],o.n,v,aB,o8⟩
  ·rw[je,if_neg (ld e)]at kI;simp only[bg.withOwn,e,if_false]at iZ;exact⟨kI,n,u,iZ,ab⟩
 refine⟨h.over ay rfl ⟨fun b i bk=>by rw[en];exact h.good.alt b i bk,fun j eV ae=>?_,h.good.inj,fun g o' ej=>?_,fun g fu n n' u eO b J U au a6 b3 c7=>?_,fun g j n u b J U au a6 b3=>?_,fun j=>?_,fun b ab=>h.good.otr b (ab.imp id (fun⟨g,n,v,bC,a2,a3⟩=>by obtain⟨ch,il,ji,ca,fB⟩:=k3 g n v bC a2 b a3;exact⟨g,il,ji,ch,ca,fB⟩))⟩
  ⟨AT.trans h.fr.os,LO.trans h.fr.tape,LA.trans h.fr.output,by rw[en];exact h.fr.size,fun j ae hm=>?_,fun b i bk=>?_,h.fr.fresh,h.fr.obj,h.fr.obn,fun m n u hm=>ED (h.fr.row m n u hm) (fun n u=>ay.ow _ n u trivial),h.fr.obr,h.fr.trd,fun k j b ab=>⟨(h.fr.trb k j b ab).1,by rw[en];exact(h.fr.trb k j b ab).2⟩,fun bT j b ab=>?_,fun b o bk=>(ay.sh b o (h.fr.keep b o bk).1).trans (h.fr.sh b o bk)⟩ (fun m hm=>?_),ay,?_⟩
 ·obtain⟨b,ct,gh,g1,g2,g3,g4,g5⟩:=h.good.box j eV ae;have cM:b≠bl:=fun e=>h.good.obx k j o.n _ bl (by simp[ad]) (by simp[ae]) aB o8 (by rw[<-e];exact g1);exact⟨b,ct,gh,g1,g2,g3,by rw[nG b cM];exact g4,qG ay g5⟩
 ·simp only at ej;rw[je]at ej;by_cases e:k=g
  ·rw[if_pos e]at ej;cases ej;subst e;refine⟨v',us,by simp[bg.withOwn],lT,fun b ab=>?_,fun ys aO=>?_⟩
   ·rw[GR]at ab;cases ab;exact⟨(b1 bl o8).1,fun j bk=>absurd bk (vH bl o8 j)⟩
   ·simp only[dQ]at aO;subst aO;exact⟨rfl,BQ ay aw,fun b ab=>by rw[GR]at ab;cases ab;exact vH bl o8⟩
  ·rw[if_neg e]at ej;obtain⟨v0,fH,al,aE,bn,dh⟩:=h.good.own g o' ej;have cM:∀b,v0.ownBlock=some b->b≠bl:=fun b ab Ke=>e (h.good.oinj k g o.n o'.n _ v0 bl (by simp[ad]) (by simp[ej]) aB al o8 (by rw[<-Ke];exact ab));refine⟨v0,fH,by simp[bg.withOwn,ld e,al],⟨aE.1,?_⟩,bn,sR ay (fun _ _ _ h=>h) dh⟩;rcases aE.2 with aE|⟨bb,FR,mF,f1,f2,f3,f4⟩
   ·exact .inl aE
   ·exact .inr ⟨bb,FR,mF,f1,f2,by rw[nG bb (cM bb (by rw[f1];rfl))];exact f3,f4⟩
 ·obtain⟨bC,il,ji,a2,a3⟩:=k3 g n u J au b b3;obtain⟨ch,gw,jI,ca,fB⟩:=k3 fu n' eO U a6 b c7;exact h.good.oinj g fu il gw ji jI b bC ch a2 ca a3 fB
 ·obtain⟨bC,il,ji,a2,a3⟩:=k3 g n u J au b a6;exact h.good.obx g j il ji b bC U a2 a3 b3
 ·by_cases e:j=k
  ·subst e;rcases h.good.one j with J|J
   ·exact .inl J
   ·rw[J]at aB;cases aB
  ·rcases h.good.one j with J|J
   ·exact .inl J
   ·exact .inr (by simp[bg.withOwn,e,J])
 ·rw[nG j fun e=>by subst e;exact(b1 j o8).1.elim hm (fun g2=>Ω)];exact h.fr.block j ae hm
 ·obtain⟨aU,bo⟩:=h.fr.keep b i bk;exact⟨aU,(ay.A b i aU).2.trans bo⟩
 ·obtain⟨t1,t2⟩:=h.fr.trn bT j b ab;have cM:bT≠k:=fun e=>by subst e;rw[t2]at aB;cases aB
  exact⟨t1,by simp[bg.withOwn,cM,t2]⟩
 ·obtain⟨aU,bo,cd⟩:=h.new m hm;refine⟨aU,?_,cd⟩;have:m≠k:=fun e=>by subst e;rw[bo]at aB;cases aB
  simp[bg.withOwn,this,bo]
 ·intro eB;simp only[bd];obtain⟨cap,Lk⟩:=Xr lT GR;exact⟨⟨bl,cap,Lk⟩,eB,xs'.length,v',by simp[bg.withOwn],e7 _,fun _=>rfl⟩
theorem cY.inPlace{C:ft}{st:br}{a:Act}{w:World}{ν:bg}(h:cY C st a w ν){k:aI}{o:fY}(ad:look k st.e=some o){bl cap:Nat}{cur:Array Value}(aB:ν.ow k=some (o.n,.slice (some ⟨bl,0,none⟩) o.n cap))
  (yq:w.heap[bl]? =some (.cells cur o.el (0,0))) (AF:cap<=maxLen) (en:cur.size=cap*o.sz) {xs ys:List ai} {us ns:List Value} (jq:xs.length=o.n) (rj:cur.toList.take (o.n*o.sz)=us) (aw:dK w ν o.sz xs us) (AH:dK w ν o.sz ys ns)
  (fE:0<ys.length) (sr:o.n+ys.length<=cap) (eB:xs.length+ys.length<=lim):
  cY C {st with e:=cA k ⟨o.n+ys.length,o.el,o.sz,none⟩ st.e} a (w.setRow bl (us++ns++cur.toList.drop (o.n*o.sz+ns.length)).toArray)
   (ν.withRowOf k (.slice (some ⟨bl,0,none⟩) (o.n+ys.length) cap) (o.n+ys.length) ((o.n+ys.length)*o.sz))/\
  bd (w.setRow bl (us++ns++cur.toList.drop (o.n*o.sz+ns.length)).toArray) (ν.withRowOf k (.slice (some ⟨bl,0,none⟩) (o.n+ys.length) cap) (o.n+ys.length) ((o.n+ys.length)*o.sz))
   (.slice o.sz (.own k) (xs++ys)) (.slice (some ⟨bl,0,none⟩) (o.n+ys.length) cap):=by
 have jT:=ui AH;have p3:=ui aw;rw[jq]at p3;have hmul:(o.n+ys.length)*o.sz<=cap*o.sz:=Nat.mul_le_mul_right _ sr;rw[qh]at hmul;obtain⟨v0,fH,bc,bE,b1,_⟩:=h.good.own k o ad;rw[aB]at bc;cases bc;obtain⟨c5,df⟩:=b1 bl rfl;generalize A1:w.setRow bl (us++ns++cur.toList.drop (o.n*o.sz+ns.length)).toArray=w';have nG:∀j,j≠bl->w'.heap[j]? =w.heap[j]?:=fun j ae=>by rw[<-A1];exact setRow_other w bl j _ ae
 have kK:w'.heap[bl]? =some (.cells (us++ns++cur.toList.drop (o.n*o.sz+ns.length)).toArray o.el (0,0)):=by rw[<-A1];exact setRow_heap w bl cur _ o.el _ yq
 have LK:w'.heap.size=w.heap.size:=by rw[<-A1];exact setRow_size w bl _
 have q8:∀j,j<o.n*o.sz->w'.cell? ⟨bl,j,none⟩=w.cell? ⟨bl,j,none⟩:=by intro j ae;simp only[World.cell?,kK,yq,mc,hl,if_false];rw[List.getElem?_toArray,List.append_assoc,List.getElem?_append_left Ω,<-rj,List.getElem?_take,if_pos ae];simp
 have ay:lK w ν w' (ν.withRowOf k (.slice (some ⟨bl,0,none⟩) (o.n+ys.length) cap) (o.n+ys.length) ((o.n+ys.length)*o.sz)):=by
  refine⟨fun b j bk=>⟨.inl bk,?_⟩,fun j b _ ae=>ae,fun g n u _ iZ=>?_,fun b j bk=>?_,fun _ _ _ _ h=>h⟩;rotate_left 2
  ·by_cases e:b=bl
   ·subst e;simp only[shape,kK,yq,List.size_toArray,pC,tc,Array.length_toList];congr 2;omega
   ·exact xx (nG b e)
  ·by_cases e:b=bl
   ·subst e;exact q8 j (df j bk)
   ·exact World.cell?_of_block (nG b e)
  ·by_cases e:g=k
   ·subst e;rw[aB]at iZ;cases iZ;exact⟨o.n+ys.length,.slice (some ⟨bl,0,none⟩) (o.n+ys.length) cap,by simp[bg.withRowOf],.inr Ω⟩
   ·exact⟨n,u,by simp[bg.withRowOf,e,iZ],.inl ⟨rfl,rfl⟩⟩
 have k3:∀g,(look g (cA k ⟨o.n+ys.length,o.el,o.sz,none⟩ st.e)).isSome->g=k\/(g≠k/\(look g st.e).isSome/\(ν.withRowOf k (.slice (some ⟨bl,0,none⟩) (o.n+ys.length) cap) (o.n+ys.length) ((o.n+ys.length)*o.sz)).ow g=ν.ow g):=by
  intro g kI;by_cases e:g=k
  ·exact .inl e
  ·rw[je,if_neg (ld e)]at kI;exact .inr ⟨e,kI,by simp[bg.withRowOf,e]⟩
 have asH:bl<w.heap.size:=(Array.getElem?_eq_some_iff.1 yq).1;have ahl:∀j u,(us++ns)[j]? =some u->w'.cell? ⟨bl,j,none⟩=some u:=by intro j u ae;have AO:=(eP.1 ae).1;simp only[World.cell?,kK,mc,hl,if_false];rw[List.getElem?_toArray,List.getElem?_append_left AO];exact ae
 refine⟨h.over ay rfl ⟨fun b j bk=>?_,fun j eV ae=>?_,h.good.inj,fun g o' ej=>?_,fun g fu n n' u eO b J U au a6 b3 c7=>?_,fun g j n u b J U au a6 b3=>?_,fun j=>?_,fun b ab=>h.good.otr b ?_⟩
  ⟨by rw[<-A1];exact h.fr.os,by rw[<-A1];exact h.fr.tape,by rw[<-A1];exact h.fr.output,by rw[LK];exact h.fr.size,fun j ae hm=>?_,fun b j bk=>?_,fun b j bk=>?_,h.fr.obj,h.fr.obn,fun m n u hm=>ED (h.fr.row m n u hm) (fun n u=>ay.ow _ n u trivial),h.fr.obr,h.fr.trd,fun k j b ab=>⟨(h.fr.trb k j b ab).1,by rw[LK];exact(h.fr.trb k j b ab).2⟩,fun bT j b ab=>?_,fun b o bk=>(ay.sh b o (h.fr.keep b o bk).1).trans (h.fr.sh b o bk)⟩ (fun m hm=>?_),?_⟩
 ·rw[LK];rcases bk with bk|⟨bk,_⟩
  ·exact h.good.alt b j bk
  ·simp only[oI,dQ]at bk;omega
 ·obtain⟨b,ct,gh,g1,g2,g3,g4,g5⟩:=h.good.box j eV ae;have cM:b≠bl:=fun e=>h.good.obx k j o.n _ bl (by simp[ad]) (by simp[ae]) aB rfl (by rw[<-e];exact g1);refine⟨b,ct,gh,g1,g2,fun i bk=>?_,by rw[nG b cM];exact g4,qG ay g5⟩;rcases bk with bk|⟨bk,_⟩
  ·exact g3 i bk
  ·simp only[oI,dQ]at bk;exact cM bk.symm
 ·simp only at ej;rw[je]at ej;by_cases e:k=g
  ·rw[if_pos e]at ej;cases ej;subst e;refine⟨.slice (some ⟨bl,0,none⟩) (o.n+ys.length) cap,us++ns,by simp[bg.withRowOf],⟨by rw[pC,p3,jT,qh],.inr ⟨bl,cap,_,rfl,Nat.zero_le _,kK,sr,AF,?_,?_⟩⟩,fun b ab=>⟨?_,fun j bk=>?_⟩,fun ys aO=>by cases aO⟩
   ·simp only[List.size_toArray,pC,tc,Array.length_toList];omega
   ·have ar:(us++ns).length=(o.n+ys.length)*o.sz:=by rw[pC,p3,jT,qh]
    simp only[<-ar];rw[List.take_append_of_le_length (e7 _),jJ]
   ·simp only[oI,dQ]at ab;subst ab;exact c5
   ·simp only[oI,dQ]at ab;subst ab;rcases bk with bk|⟨_,bk⟩
    ·have:=df j bk;simp only;rw[qh];omega
    ·exact bk
  ·rw[if_neg e]at ej;obtain⟨v0,fH,al,aE,bn,dh⟩:=h.good.own g o' ej;have cM:∀b,v0.ownBlock=some b->b≠bl:=fun b ab Ke=>e (h.good.oinj k g o.n o'.n _ v0 bl (by simp[ad]) (by simp[ej]) aB al rfl (by rw[<-Ke];exact ab));have wA:∀b,v0.ownBlock=some b->∀j,(ν.withRowOf k (.slice (some ⟨bl,0,none⟩) (o.n+ys.length) cap) (o.n+ys.length) ((o.n+ys.length)*o.sz)).A b j->ν.A b j:=fun b ab j bk=>by
    rcases bk with bk|⟨bk,_⟩
    ·exact bk
    ·simp only[oI,dQ]at bk;exact absurd bk.symm (cM b ab)
   refine⟨v0,fH,by simp[bg.withRowOf,ld e,al],⟨aE.1,?_⟩,fun b ab=>⟨(bn b ab).1,fun j bk=>(bn b ab).2 j (wA b ab j bk)⟩,sR ay wA dh⟩;rcases aE.2 with aE|⟨bb,FR,mF,f1,f2,f3,f4⟩
   ·exact .inl aE
   ·exact .inr ⟨bb,FR,mF,f1,f2,by rw[nG bb (cM bb (by rw[f1];rfl))];exact f3,f4⟩
 ·rcases k3 g J with rfl|⟨il,gw,jv⟩<;>rcases k3 fu U with rfl|⟨m1,m2,m3⟩
  ·rfl
  ·exfalso;simp only[bg.withRowOf,if_true,dQ,jB]at au;rw[m3]at a6;rw[<-au.2]at b3;simp only[oI,dQ]at b3;subst b3;exact m1 (h.good.oinj fu g n' o.n eO _ bl m2 (by simp[ad]) a6 aB c7 rfl)
  ·exfalso;simp only[bg.withRowOf,if_true,dQ,jB]at a6;rw[jv]at au;rw[<-a6.2]at c7;simp only[oI,dQ]at c7;subst c7;exact il (h.good.oinj g fu n o.n u _ bl gw (by simp[ad]) au aB b3 rfl)
  ·rw[jv]at au;rw[m3]at a6;exact h.good.oinj g fu n n' u eO b gw m2 au a6 b3 c7
 ·rcases k3 g J with rfl|⟨il,gw,jv⟩
  ·simp only[bg.withRowOf,if_true,dQ,jB]at au;rw[<-au.2]at a6;simp only[oI,dQ]at a6;subst a6;exact h.good.obx g j o.n _ bl (by simp[ad]) U aB rfl b3
  ·rw[jv]at au;exact h.good.obx g j n u b gw U au a6 b3
 ·by_cases e:j=k
  ·subst e;rcases h.good.one j with J|J
   ·exact .inl J
   ·rw[J]at aB;cases aB
  ·rcases h.good.one j with J|J
   ·exact .inl J
   ·exact .inr (by simp[bg.withRowOf,e,J])
 ·rcases ab with ab|⟨g,n,u,bC,a2,a3⟩
  ·exact .inl ab
  ·rcases k3 g bC with rfl|⟨il,gw,jv⟩
   ·simp only[bg.withRowOf,if_true,dQ,jB]at a2;rw[<-a2.2]at a3;exact .inr ⟨g,_,_,by simp[ad],aB,a3⟩
   ·exact .inr ⟨g,n,u,gw,by rw[<-jv];exact a2,a3⟩
 ·rw[nG j fun e=>by subst e;exact c5.elim hm (fun g2=>Ω)];exact h.fr.block j ae hm
 ·obtain⟨aU,bo⟩:=h.fr.keep b j bk;exact⟨.inl aU,(ay.A b j aU).2.trans bo⟩
 ·rcases bk with bk|⟨bk,_⟩
  ·exact h.fr.fresh b j bk
  ·simp only[oI,dQ]at bk;subst bk;exact .inr c5
 ·obtain⟨t1,t2⟩:=h.fr.trn bT j b ab;have cM:bT≠k:=fun e=>by subst e;rw[t2]at aB;cases aB
  exact⟨t1,by simp[bg.withRowOf,cM,t2]⟩
 ·obtain⟨aU,bo,cd⟩:=h.new m hm;refine⟨aU,?_,cd⟩;have:m≠k:=fun e=>by subst e;rw[bo]at aB;cases aB
  simp[bg.withRowOf,this,bo]
 ·simp only[bd];refine⟨⟨some ⟨bl,0,none⟩,cap,by simp[jq],by simp;omega,⟨AF,by simpa using eB⟩,.inr ⟨bl,0,us++ns,rfl,Ml _ 0 fun j u ae=>?_,Ex (BQ ay aw) (BQ ay AH)⟩⟩,fun e=>(by cases e),fun g e=>?_,fun _ _ e=>(by cases e),fun _ e=>(by cases e)⟩
  ·have AO:=(eP.1 ae).1;rw[Nat.zero_add];refine⟨.inr ⟨rfl,?_⟩,ahl j u ae⟩;rw[pC,p3,jT]at AO;rw[qh];exact AO
  ·cases e;exact⟨o.n+ys.length,.slice (some ⟨bl,0,none⟩) (o.n+ys.length) cap,by simp[bg.withRowOf],by simp[jq],fun _=>rfl⟩
theorem Ir{P:cG}{w:World}{t ty e:fZ}{i:TypeInfo}(aN:P.underlying t=some (.slice e))(hi:P.info? e=some i)(b:ba Addr)(n cap:Nat)(ax:n<=cap)(x:ba Addr)(c:Nat):
  (Builtin.append_ #[t,t] ty #[.slice b n cap,.slice x 0 c]).run P w= .ok (.slice b n cap) w:=by
 cases b<;>cases x<;>simp[Builtin.append_,run_underlying aN,sizeOf,typeInfo,hi,Builtin.lenOf,ax,Builtin.firstCells,loadCells,loadCellsFrom,storeCells]
inductive ey where
 |v (d:Nat) (i:gd)
 |box (d:Nat) (key:ba Nat) (x:dz)
 |alloc (d:Nat) (key:ba Nat) (zero:ai)
 |store (sz:Nat) (x y:dz)
 |bsl (d:Nat) (sz el:Nat) (xs:List dz)
 |app (d:Nat) (sz el:Nat) (x y:dz)
 |bslm (d:Nat) (key:ba Nat) (sz el:Nat) (xs:List dz)
 |appm (d:Nat) (key:ba Nat) (sz el:Nat) (x y:dz)
 |mkmap (d:Nat) (key:ba Nat)
 |mput (ck:jL) (x k v:dz)
 |range (d:Nat) (key:ba Nat) (x:dz)
 |storeE (sz:Nat) (x y:dz)
 |mks (d:Nat) (key:ba Nat) (sz el:Nat) (z:ai) (x:dz)
def j0(st:br):ba Nat->aI
 |none=>.loc st.n
 |some m=>.obj m
def qA(st:br):ba Nat->Prop
 |none=>.loc st.n∉st.o
 |some m=>.obj m∉st.o
def nO(st:br):ba Nat->Nat
 |none=>st.n+1
 |some _=>st.n
def nP(st:br):ba Nat->List aI
 |none=>st.o
 |some m=>.obj m::st.o
theorem xe{st:br}{key:ba Nat}(h:qA st key):fresh st.n st.o (j0 st key):=by cases key<;>simp[j0,fresh,qA]at h⊢ <;>exact h
theorem xf{st:br}{key:ba Nat}:∀j,fresh (nO st key) (nP st key) j->fresh st.n st.o j/\j≠j0 st key:=by
 intro j ae;cases key<;>cases j<;>simp[fresh,nO,nP,j0]at ae⊢
 ·exact⟨⟨Ω,ae.2⟩,Ω⟩
 ·exact ae
 ·exact ae
 ·exact⟨ae.2,ae.1⟩
def tk(sz:Nat):List ai->Prop
 |[]=>True
 |p::b0=>(eF p=true/\(cells p).length=sz)/\tk sz b0
def ox(ck:jL)(k v:ai):List ai->ba (List ai)
 | .hdm clock borns::kvs=>if w4 ck k=false then none else match vB ck k v kvs with
  |some (some w8)=>some (.hdm clock borns::w8)
  |some none=>some (.hdm (clock+1) (borns++[clock])::(kvs++[k,v]))
  |none=>none
 |_=>none
def xt(m:aI):List ai->ba (List ai)
 | .hdm clock _::_=>some [.hdi clock [] clock,.gmap m]
 |_=>none
def tl(st:br)(sz el:Nat)(x y:ai):ba ((ba (aI×List ai))×List ai):=
 match x,y with
 | .slice dT .nil _,.slice jz _ ys=>if dT=sz/\jz=sz then some (none,ys)else none
 | .row dT k n,.slice jz _ ys=>if dT=sz/\jz=sz then
   match look k st.e with
   |some ⟨n',gh,xA,some xs⟩=>if n'=n/\gh=el/\xA=sz then some (some (k,xs),ys)else none
   |_=>none
  else none
 |_,_=>none
def mZ:ai->Nat->List ai->ai
 | .agg eV,f,cs=>.agg (oA eV f cs)
 |_,_,[q]=>q
 |_,_,_=>.junk
def rG(st:br)(sz:Nat)(p v:ai):ba (Prop×br):=
 match p with
 | .rptr dT k n i f=>match look k st.e with
  |some ⟨n',el,jz,some xs⟩=>if n'=n/\jz=dT then
    match xs[i]? with
    |some q=>some (eF q=true/\eF v=true/\(cells v).length=sz/\f+sz<=(cells q).length/\0<sz,{st with e:=cA k ⟨n',el,jz,some (xs.set i (mZ q f (cells v)))⟩ st.e})
    |none=>none
   else none
  |_=>none
 |_=>none
def mv(st:br):ey->ba (Prop×br)
 | .mks d key sz el z x=>match cv st.t x with
  | .int _ n=>some (qA st key/\0<=n/\n<=lim,
    {t:=put d (.row sz (j0 st key) n.toNat) st.t,b:=st.b,e:=cA (j0 st key) ⟨n.toNat,el,sz,some (rP n.toNat z)⟩ st.e,n:=nO st key,o:=nP st key})
  |_=>none
 | .bslm d key sz el xs=>some (qA st key/\tk sz (xs.map (cv st.t)),
   {t:=put d (.row sz (j0 st key) xs.length) st.t,b:=st.b,e:=cA (j0 st key) ⟨xs.length,el,sz,some (xs.map (cv st.t))⟩ st.e,n:=nO st key,o:=nP st key})
 | .appm d key sz el x y=>match tl st sz el (cv st.t x) (cv st.t y)with
  |some (none,ys)=>some (qA st key/\ys.length<=lim/\ys≠[],
    {t:=put d (.row sz (j0 st key) ys.length) st.t,b:=st.b,e:=cA (j0 st key) ⟨ys.length,el,sz,some ys⟩ st.e,n:=nO st key,o:=nP st key})
  |some (some (k,xs),ys)=>some (xs.length+ys.length<=lim,{st with t:=put d (.row sz k (xs.length+ys.length)) st.t,e:=cA k ⟨xs.length+ys.length,el,sz,some (xs++ys)⟩ st.e})
  |none=>none
 | .mkmap d key=>some (qA st key,{t:=put d (.gmap (j0 st key)) st.t,b:=cA (j0 st key) [.hdm 0 []] st.b,e:=st.e,n:=nO st key,o:=nP st key})
 | .mput ck x k v=>match cv st.t x with
  | .gmap m=>match look m st.b with
   |some cs=>match ox ck (cv st.t k) (cv st.t v) cs with
    |some cs'=>some (True,{st with b:=cA m cs' st.b})
    |none=>none
   |none=>none
  |_=>none
 | .range d key x=>match cv st.t x with
  | .gmap m=>match look m st.b with
   |some cs=>match xt m cs with
    |some cs'=>some (qA st key,{t:=put d (.ptr (j0 st key) 0) st.t,b:=cA (j0 st key) cs' st.b,e:=st.e,n:=nO st key,o:=nP st key})
    |none=>none
   |none=>none
  |_=>none
 | .v d i=>match hy st i with
  |some (c,p)=>some (c,{st with t:=put d p st.t})
  |none=>none
 | .storeE sz x y=>rG st sz (cv st.t x) (cv st.t y)
 | .box d key x=>some (qA st key/\eF (cv st.t x)=true,
   {t:=put d (.ptr (j0 st key) 0) st.t,b:=cA (j0 st key) (cells (cv st.t x)) st.b,e:=st.e,n:=nO st key,o:=nP st key})
 | .alloc d key z=>some (qA st key,{t:=put d (.ptr (j0 st key) 0) st.t,b:=cA (j0 st key) (cells z) st.b,e:=st.e,n:=nO st key,o:=nP st key})
 | .store sz x y=>match cv st.t x with
  | .ptr k off=>match look k st.b with
   |some cs=>some (gG cs=true/\eF (cv st.t y)=true/\(cells (cv st.t y)).length=sz/\off+sz<=cs.length,{st with b:=cA k (oA cs off (cells (cv st.t y))) st.b})
   |none=>none
  |p=>rG st sz p (cv st.t y)
 | .bsl d sz el xs=>some (qA st none/\tk sz (xs.map (cv st.t)),
   {st with t:=put d (.slice sz (.own (.loc st.n)) (xs.map (cv st.t))) st.t,e:=cA (.loc st.n) ⟨xs.length,el,sz,none⟩ st.e,n:=st.n+1})
 | .app d sz el x y=>match cv st.t x,cv st.t y with
  | .slice dT tag xs,.slice jz _ ys=>if dT=sz/\jz=sz then
    match tag with
    | .own k=>match look k st.e with
     |some o=>some (o.n=xs.length/\o.el=el/\o.sz=sz/\xs.length+ys.length<=lim,
       {st with t:=put d (.slice sz (.own k) (xs++ys)) st.t,e:=cA k ⟨xs.length+ys.length,el,sz,none⟩ st.e})
     |none=>none
    | .nil=>some (qA st none/\ys.length<=lim,{st with t:=put d (.slice sz (.own (.loc st.n)) ys) st.t,e:=cA (.loc st.n) ⟨ys.length,el,sz,none⟩ st.e,n:=st.n+1})
    |_=>none
   else none
  |_,_=>none
def eJ(κ:aI)(n':Nat)(o':List aI)(st:br):ey->ba (Prop×br)
 | .mks d _ sz el z x=>match cv st.t x with
  | .int _ n=>some (0<=n/\n<=lim,
    {t:=put d (.row sz κ n.toNat) st.t,b:=st.b,e:=cA κ ⟨n.toNat,el,sz,some (rP n.toNat z)⟩ st.e,n:=n',o:=o'})
  |_=>none
 | .bslm d _ sz el xs=>some (tk sz (xs.map (cv st.t)),
   {t:=put d (.row sz κ xs.length) st.t,b:=st.b,e:=cA κ ⟨xs.length,el,sz,some (xs.map (cv st.t))⟩ st.e,n:=n',o:=o'})
 | .appm d _ sz el x y=>match tl st sz el (cv st.t x) (cv st.t y)with
  |some (none,ys)=>some (ys.length<=lim/\ys≠[],
    {t:=put d (.row sz κ ys.length) st.t,b:=st.b,e:=cA κ ⟨ys.length,el,sz,some ys⟩ st.e,n:=n',o:=o'})
  |some (some (k,xs),ys)=>some (xs.length+ys.length<=lim,{st with t:=put d (.row sz k (xs.length+ys.length)) st.t,e:=cA k ⟨xs.length+ys.length,el,sz,some (xs++ys)⟩ st.e})
  |none=>none
 | .mkmap d _=>some (True,{t:=put d (.gmap κ) st.t,b:=cA κ [.hdm 0 []] st.b,e:=st.e,n:=n',o:=o'})
 | .mput ck x k v=>match cv st.t x with
  | .gmap m=>match look m st.b with
   |some cs=>match ox ck (cv st.t k) (cv st.t v) cs with
    |some cs'=>some (True,{st with b:=cA m cs' st.b})
    |none=>none
   |none=>none
  |_=>none
 | .range d _ x=>match cv st.t x with
  | .gmap m=>match look m st.b with
   |some cs=>match xt m cs with
    |some cs'=>some (True,{t:=put d (.ptr κ 0) st.t,b:=cA κ cs' st.b,e:=st.e,n:=n',o:=o'})
    |none=>none
   |none=>none
  |_=>none
 | .v d i=>match hy st i with
  |some (c,p)=>some (c,{st with t:=put d p st.t})
  |none=>none
 | .storeE sz x y=>rG st sz (cv st.t x) (cv st.t y)
 | .box d _ x=>some (eF (cv st.t x)=true,{t:=put d (.ptr κ 0) st.t,b:=cA κ (cells (cv st.t x)) st.b,e:=st.e,n:=n',o:=o'})
 | .alloc d _ z=>some (True,{t:=put d (.ptr κ 0) st.t,b:=cA κ (cells z) st.b,e:=st.e,n:=n',o:=o'})
 | .store sz x y=>match cv st.t x with
  | .ptr k off=>match look k st.b with
   |some cs=>some (gG cs=true/\eF (cv st.t y)=true/\(cells (cv st.t y)).length=sz/\off+sz<=cs.length,{st with b:=cA k (oA cs off (cells (cv st.t y))) st.b})
   |none=>none
  |p=>rG st sz p (cv st.t y)
 | .bsl d sz el xs=>some (tk sz (xs.map (cv st.t)),
   {st with t:=put d (.slice sz (.own κ) (xs.map (cv st.t))) st.t,e:=cA κ ⟨xs.length,el,sz,none⟩ st.e,n:=n',o:=o'})
 | .app d sz el x y=>match cv st.t x,cv st.t y with
  | .slice dT tag xs,.slice jz _ ys=>if dT=sz/\jz=sz then
    match tag with
    | .own k=>match look k st.e with
     |some o=>some (o.n=xs.length/\o.el=el/\o.sz=sz/\xs.length+ys.length<=lim,
       {st with t:=put d (.slice sz (.own k) (xs++ys)) st.t,e:=cA k ⟨xs.length+ys.length,el,sz,none⟩ st.e})
     |none=>none
    | .nil=>some (ys.length<=lim,{st with t:=put d (.slice sz (.own κ) ys) st.t,e:=cA κ ⟨ys.length,el,sz,none⟩ st.e,n:=n',o:=o'})
    |_=>none
   else none
  |_,_=>none
def xj:Nat->List dz->List (Nat×Operand)->Bool
 |_,[],[]=>true
 |i,x::xs,(j,o)::os=>i==j&&eu x o&&xj (i+1) xs os
 |_,_,_=>false
def EF(N:Nat)(bG:List (Nat×dH))(i:ey)(o:Oper):Bool:=
 match i,o.op with
 | .mkmap d _,.makeMap _ none=>o.dst==some d&&decide (d<N)
 | .mput ck x k v,.mapUpdate t gP gF qF=>o.dst==none&&(match eo bG t with|some ⟨_,_,.map mV _,_⟩=>yT bG ck mV|_=>false)&&eu x gP&&eu k gF&&eu v qF
 | .mput ck x k v,.insert t gP gF qF=>o.dst==none&&(match eo bG t with|some ⟨_,_,.map mV _,_⟩=>yT bG ck mV|_=>false)&&eu x gP&&eu k gF&&eu v qF
 | .range d _ x,.range t gP=>o.dst==some d&&decide (d<N)&&(match eo bG t with|some ⟨_,_,.map _ _,_⟩=>true|_=>false)&&eu x gP
 | .v d i,op=>o.dst==some d&&decide (d<N)&&EW bG i op
 | .box d _ x,.box _ o'=>o.dst==some d&&decide (d<N)&&eu x o'
 | .alloc d _ z,.alloc el=>o.dst==some d&&decide (d<N)&&(match eo bG el with|some f=>Ce z f.zero|none=>false)
 | .store sz x y,.store t o' jw=>o.dst==none&&(match eo bG t with|some f=>f.size==sz|none=>false)&&eu x o'&&eu y jw
 | .bsl d sz el xs,.buildSlice t len parts=>o.dst==some d&&decide (d<N)&&(match eo bG t with|some ⟨_,_,.slice gh,_⟩=>el==gh|_=>false)&&(match eo bG el with|some f=>f.size==sz&&decide (0<sz)|none=>false)
   &&len==xs.length&&decide (len*sz<=16777216)&&xj 0 xs parts.toList
 | .app d sz el x y,.call ⟨.builtin .append,⟨[o',jw]⟩,⟨[t,dZ]⟩⟩=>o.dst==some d&&decide (d<N)&&t==dZ&&(match eo bG t with|some ⟨_,_,.slice gh,_⟩=>el==gh|_=>false)
   &&(match eo bG el with|some f=>f.size==sz&&decide (0<sz)&&decide (f.bytes<=2048)|none=>false)&&eu x o'&&eu y jw
 | .bslm d _ sz el xs,.buildSlice t len parts=>o.dst==some d&&decide (d<N)&&(match eo bG t with|some ⟨_,_,.slice gh,_⟩=>el==gh|_=>false)&&(match eo bG el with|some f=>f.size==sz&&decide (0<sz)|none=>false)
   &&len==xs.length&&decide (len*sz<=16777216)&&xj 0 xs parts.toList
 | .appm d _ sz el x y,.call ⟨.builtin .append,⟨[o',jw]⟩,⟨[t,dZ]⟩⟩=>o.dst==some d&&decide (d<N)&&t==dZ&&(match eo bG t with|some ⟨_,_,.slice gh,_⟩=>el==gh|_=>false)
   &&(match eo bG el with|some f=>f.size==sz&&decide (0<sz)&&decide (f.bytes<=2048)|none=>false)&&eu x o'&&eu y jw
 | .storeE sz x y,.store t o' jw=>o.dst==none&&(match eo bG t with|some f=>f.size==sz|none=>false)&&eu x o'&&eu y jw
 | .mks d _ sz el z x,.makeSlice t o' jw=>o.dst==some d&&decide (d<N)&&(match eo bG t with|some ⟨_,_,.slice gh,_⟩=>el==gh|_=>false)
   &&(match eo bG el with|some f=>f.size==sz&&decide (0<sz)&&decide (f.bytes<=2048)&&Ce z f.zero|none=>false)&&eu x o'&&eu x jw
 |_,_=>false
theorem YS{w:World}{ν:bg}{C:ft}{st:br}{a:Act}(aM:cY C st a w ν){sz:Nat}:
  ∀(xs:List dz) (i:Nat) (os:List (Nat×Operand)) (pre:List ai) (us:Array Value) (bf:List Value),xj i xs os=true->tk sz (xs.map (cv st.t))->us.toList.take (i*sz)=bf->dK w ν sz pre bf->i=pre.length->us.size=(i+xs.length)*sz->
  ∃ct:Array Value,Instr.fill (fun i=>some (i*sz,sz)) us (os.map fun(x:Nat×Operand)=>(x.1,a.eval x.2))=some ct/\dK w ν sz (pre++xs.map (cv st.t)) ct.toList/\ct.size=us.size
 |[],i,[],pre,us,bf,_,_,aB,h,hi,ag=>by refine⟨us,by simp[Instr.fill],?_,rfl⟩;have ar:=ui h;have:us.toList.take (i*sz)=us.toList:=hQ (by simp at ag⊢;omega);rw[this]at aB;simpa[aB]using h
 |[],_,_::_,_,_,_,dY,_,_,_,_,_=>by simp[xj]at dY
 |_::_,_,[],_,_,_,dY,_,_,_,_,_=>by simp[xj]at dY
 |x::xs,i,(j,o)::os,pre,us,bf,dY,bu,aB,h,hi,ag=>by
  simp only[xj,cC,dV]at dY;obtain⟨⟨rfl,J⟩,U⟩:=dY;simp only[gS,tk]at bu;obtain⟨⟨lv,hlen⟩,bu⟩:=bu;have af:=ev aM J;have lR:=vM af lv;have AG:=qb lR;have dw:(a.eval o).cells.size=sz:=by rw[hlen]at AG;simpa using AG
  have hmul:i*sz+sz<=us.size:=by rw[ag,pD,show i+(xs.length+1)=(i+1)+xs.length from by omega,qh,Nat.succ_mul];omega
  have yJ:=KH (w:=w) (ν:=ν) (a.eval o).cells.toList 0 (i*sz) us (by simp[dw];omega);have jV:dK w ν sz (pre++[cv st.t x]) (bf++(a.eval o).cells.toList):=by refine Ex h ?_;simp only[dK];exact⟨a.eval o,[],Ψ,⟨af,dw,BS lR⟩,rfl⟩
  have jG:bf.length=i*sz:=by rw[<-aB];simp;omega
  obtain⟨ct,g1,g2,g3⟩:=YS aM xs (i+1) os (pre++[cv st.t x]) (((a.eval o).cells.toList.zipIdx 0).foldl (fun cs (x:Value×Nat)=>cs.setIfInBounds (i*sz+x.2) x.1) us) (bf++(a.eval o).cells.toList) U bu
   (by
    rw[yJ];simp only[Nat.add_zero];rw[aB];have:(bf++(a.eval o).cells.toList).length=(i+1)*sz:=by rw[pC,jG,Nat.succ_mul];simp[dw]
    rw[<-this,List.take_append_of_le_length (e7 _),jJ]) jV (by simp[hi])
   (by have bs:=e2 List.length yJ;simp only[Array.length_toList,pC,List.length_take,tc,dw]at bs;rw[bs,ag,pD,show i+(xs.length+1)=i+1+xs.length from by omega];rw[ag,pD,show i+(xs.length+1)=i+1+xs.length from by omega]at hmul;omega)
  refine⟨ct,?_,by simpa using g2,?_⟩
  ·simp only[gS,Instr.fill];rw[if_neg (by simp[dw];omega),<-g1];congr 1;rw[<-Array.foldl_toList];simp
  ·rw[g3];have bs:=e2 List.length yJ;simp only[Array.length_toList,pC,List.length_take,tc,dw]at bs;rw[bs];omega
theorem my{P:cG}{o:Oper}{a:Act}{w w':World}{v:Value}{K:Act->World->Prop}{Q:Exit->Act->World->Prop}(h:(execOp a.eval o).run P w= .ok (.value v) w')(ad:K (a.put o.dst v) w'):o.wp P a w K Q:=by unfold Oper.wp;rw[h];exact ad
theorem E5{P:cG}{o:Oper}{a:Act}{w w':World}{K:Act->World->Prop}{Q:Exit->Act->World->Prop}(h:(execOp a.eval o).run P w= .ok .skip w')(ad:K (a.put o.dst undef) w'):o.wp P a w K Q:=by unfold Oper.wp;rw[h];exact ad
theorem E0{P:cG}{w w':World}{x:Sem Value}{v:Value}(h:x.run P w= .ok v w'):(do pure (Next.value (<-x)):Sem Next).run P w= .ok (.value v) w':=by simp[h]
theorem YQ{P:cG}{bG:List (Nat×dH)}(aN:fS P bG=true){C:ft}{st:br}{a:Act}{w:World}{ν:bg}(aM:cY C st a w ν){t el:Nat}{f g:dH}(aJ:eo bG t=some f)(ad:f.kind= .slice el)(a7:eo bG el=some g)
  {xs:List dz} {os:List (Nat×Operand)} (dY:xj 0 xs os=true) (en:tk g.size (xs.map (cv st.t))) (hlen:xs.length*g.size<=16777216):
  ∃us:Array Value,(Instr.buildSlice t xs.length (os.map fun(x:Nat×Operand)=>(x.1,a.eval x.2)).toArray).run P w= .ok (.slice (some ⟨w.heap.size,0,none⟩) xs.length xs.length) (w.alloc (.cells us el))/\
   dK w ν g.size (xs.map (cv st.t)) us.toList/\us.size=xs.length*g.size:=by
 obtain⟨d,aR,e8⟩:=jh aN aJ;rw[ad]at e8;obtain rfl:=ts e8;obtain⟨_,ag⟩:=vX aN a7 w;obtain⟨z,yN,asW,asX⟩:=OO aN a7 w;have ax:¬xs.length*g.size>2 ^ 24:=Ω
 let init:Array Value:=if xs.length*g.size=0 then(Array.range (xs.length*g.size)).map ((#[]:Array Value)[· %(#[]:Array Value).size]!)else(Array.range (xs.length*g.size)).map (z.cells[· %z.cells.size]!)
 have Uv:init.size=xs.length*g.size:=by simp only[init];split<;>simp
 obtain⟨ct,g1,g2,g3⟩:=YS (a:=a) aM xs 0 os [] init [] dY en Ψ (by simp[dK]) rfl (by rw[Uv];simp);refine⟨ct,?_,by simpa using g2,by rw[g3,Uv]⟩;simp only[init]at g1;by_cases bs:xs.length*g.size=0
 ·rw[if_pos bs]at g1;rw[bs]at g1;have agX:¬(0:Nat)>2 ^ 24:=by decide
  simp only[Instr.buildSlice,fT,run_underlying aR,fX,ag,if_false,gJ,bs,if_true,agX,g1,newRow,run_newObj];rfl
 ·rw[if_neg bs]at g1;simp only[Instr.buildSlice,fT,run_underlying aR,fX,ag,ax,if_false,gJ,bs,yN,g1,newRow,run_newObj];rfl
theorem D3{P:cG}{w:World}{ν:bg}{ck:jL}{t:fZ}(aR:uG P ck t){k v:ai}{hj Pd:Value}(ad:bd w ν k hj)(aB:bd w ν v Pd):
  ∀(borns:List Nat) (kvs:List ai) (us:List Value) (i:Nat) (r:ba (List ai)),cW w ν kvs us->kvs.length=2*borns.length->vB ck k v kvs=some r->
  match r with
  |none=>ic P w ck t hj (fL borns us) i none
  |some w8=> ∃j u ct e,ic P w ck t hj (fL borns us) i (some (i+j,u))/\cW w ν w8 ct/\w8.length=kvs.length/\(fL borns us)[j]? =some e/\e.key=hj/\Instr.sameBits 10000 e.key hj=true/\fL borns ct=(fL borns us).modify j (fun e=>{e with key:=hj,val:=Pd})
 |[],[],us,i,r,h,_,hm=>by simp only[vB]at hm;cases hm;simp only[cW]at h;subst h;simpa[fL]using ic.nil P w ck t hj i
 |[],_::_,_,_,_,_,ar,_=>by simp at ar
 |b::e0,[],_,_,_,_,ar,_=>by simp at ar
 |b::e0,[_],_,_,_,_,ar,_=>by simp at ar;omega
 |b::e0,bT::v'::kvs,us,i,r,h,ar,hm=>by
  simp only[cW]at h;obtain⟨ji,OX,rfl,J,jI,sZ,rfl,U,au⟩:=h;simp only[vB]at hm;simp only[fL];cases bm:tV ck k bT with
  |none=>simp[bm]at hm
  |some bb=>
   obtain⟨s1,s2⟩:=VN aR ad J bm;simp only[bm]at hm;cases bb with
   |true=>simp only[dQ]at hm;subst hm;obtain⟨rfl,s3⟩:=s2 rfl;refine⟨0,jI,ji::Pd::sZ,⟨ji,jI,b⟩,ic.hit (e:=⟨ji,jI,b⟩) s1,?_,Ψ,Ψ,rfl,s3,by simp[fL]⟩;simp only[cW];exact⟨_,_,rfl,ad,_,_,rfl,aB,au⟩
   |false=>
    simp only at hm;have bR:=fun eT dS=>D3 aR ad aB e0 kvs sZ (i+1) eT au (by simp at ar;omega) dS;split at hm
    ·rename_i eT dS;cases hm;obtain⟨j,u,ct,e,g1,g2,g3,g4,g5,g6,g7⟩:=bR _ dS;refine⟨j+1,u,ji::jI::ct,e,ic.miss (e:=⟨ji,jI,b⟩) s1 (by rw[show i+(j+1)=i+1+j from by omega];exact g1),?_,by simp[g3],by simpa using g4,g5,g6,by simp[fL,g7]⟩;simp only[cW];exact⟨_,_,rfl,J,_,_,rfl,U,g2⟩
    ·rename_i dS;cases hm;exact ic.miss (e:=⟨ji,jI,b⟩) s1 (bR _ dS)
    ·cases hm
theorem Kh:∀(borns:List Nat) (us:List Value) (b:Nat) (k v:Value),us.length=2*borns.length->fL (borns++[b]) (us++[k,v])=fL borns us++[⟨k,v,b⟩]
 |[],us,b,k,v,h=>by have:us=[]:=List.eq_nil_of_length_eq_zero (by simpa using h);subst this;simp[fL]
 |cb::e0,[],b,k,v,h=>by simp at h
 |cb::e0,[_],b,k,v,h=>by simp at h;omega
 |cb::e0,bT::v'::us,b,k,v,h=>by simp only[bZ,fL,Kh e0 us b k v (by simp at h;omega)]
theorem N8{w:World}{ν:bg}:∀{b0 bM:List ai} {bf us:List Value},cW w ν b0 bf->cW w ν bM us->cW w ν (b0++bM) (bf++us)
 |[],bM,bf,us,h,cf=>by simp only[cW]at h;subst h;simpa using cf
 |p::b0,bM,bf,us,h,cf=>by simp only[cW]at h;obtain⟨u,ct,rfl,J,U⟩:=h;simp only[bZ,cW];exact⟨u,_,rfl,J,N8 U cf⟩
theorem Il{w:World}{ν:bg}:∀{b0:List ai} {bf:List Value},cW w ν b0 bf->bf.length=b0.length
 |[],bf,h=>by simp only[cW]at h;subst h;rfl
 |p::b0,bf,h=>by simp only[cW]at h;obtain⟨u,ct,rfl,_,U⟩:=h;simp[Il U]
theorem EE{P:cG}{w:World}{r:Nat}{o o':Obj}(ab:w.heap[r]? =some o)(ax:∀c e f,o≠ .cells c e f:=by simp):(setObj r o').run P w= .ok () {w with heap:=w.heap.setIfInBounds r o'}:=by simp only[setObj,Sem.run,ab]
def ey.makes(st:br):ey->Bool
 | .box _ _ _| .alloc _ _ _| .bsl _ _ _ _| .bslm _ _ _ _ _| .mkmap _ _| .range _ _ _| .mks _ _ _ _ _ _=>true
 | .appm _ _ _ _ x _=>match cv st.t x with
  | .slice _ .nil _=>true
  |_=>false
 | .app _ _ _ x _=>match cv st.t x with
  | .slice _ .nil _=>true
  |_=>false
 |_=>false
theorem cY.forgetRow{C:ft}{st:br}{a:Act}{w:World}{ν:bg}(aM:cY C st a w ν){k:aI}{ow:fY}(ad:look k st.e=some ow):cY C {st with e:=cA k ⟨ow.n,ow.el,ow.sz,none⟩ st.e} a w ν:=by
 have ik:∀g,(look g (cA k ⟨ow.n,ow.el,ow.sz,none⟩ st.e)).isSome->(look g st.e).isSome:=fun g a7=>by
  rw[je]at a7;split at a7
  ·rename_i e;subst e;simp[ad]
  ·exact a7
 refine⟨⟨aM.good.alt,aM.good.box,aM.good.inj,fun g o a7=>?_,fun g fu n n' v v' bl bC a2=>aM.good.oinj g fu n n' v v' bl (ik g bC) (ik fu a2),fun g j n v bl bC=>aM.good.obx g j n v bl (ik g bC),aM.good.one,fun bl ab=>aM.good.otr bl (ab.imp id (fun⟨g,n,v,bC,a2⟩=>⟨g,n,v,ik g bC,a2⟩))⟩,aM.fr,aM.defers,aM.size,aM.slot,aM.new⟩;simp only at a7;rw[je]at a7;split at a7
 ·rename_i e;subst e;cases a7;obtain⟨v,us,bc,bE,b1,_⟩:=aM.good.own k ow ad;exact⟨v,us,bc,bE,b1,fun xs af=>by cases af⟩
 ·exact aM.good.own g o a7
theorem Xs{w:World}{base el sz n:Nat}{v:Value}{us:List Value}(h:w.ownsRow base el sz v n us)(ax:0<n):∃b cap,v= .slice (some ⟨b,0,none⟩) n cap:=by
 rcases h.2 with⟨al,aE⟩|⟨bb,cap,cur,f1,_⟩
 ·omega
 ·exact⟨_,_,f1⟩
theorem Ih{w:World}{ν:bg}{sz:Nat}:∀{xs:List ai} {us:List Value} {i:Nat} {q gH:ai} {eO:Value},dK w ν sz xs us->xs[i]? =some q->bd w ν gH eO->eO.cells.size=sz->(∀c∈eO.cells.toList,c.oneCell'=true)->dK w ν sz (xs.set i gH) (us.take (i*sz)++eO.cells.toList++us.drop (i*sz+sz))
 |[],_,_,_,_,_,_,bm,_,_,_=>by simp at bm
 |x::xs,us,0,q,gH,eO,h,bm,aM,ag,ay=>by
  simp only[dK]at h;obtain⟨u,ct,rfl,⟨J,U,au⟩,b3⟩:=h;have ar:u.cells.toList.length=sz:=by simpa using U
  simp only[List.set_cons_zero,dK];refine⟨eO,ct,?_,⟨aM,ag,ay⟩,b3⟩;simp[<-ar]
 |x::xs,us,i+1,q,gH,eO,h,bm,aM,ag,ay=>by
  simp only[dK]at h;obtain⟨u,ct,rfl,⟨J,U,au⟩,b3⟩:=h;have ar:u.cells.toList.length=sz:=by simpa using U
  have bR:=Ih b3 (by simpa using bm) aM ag ay;simp only[List.set_cons_succ,dK];refine⟨u,_,?_,⟨J,U,au⟩,bR⟩;have e:(i+1)*sz+sz=u.cells.toList.length+(i*sz+sz):=by rw[ar,Nat.succ_mul];omega
  rw[Zn _ _ _ _ ar,e,<-List.drop_drop];simp
theorem aom{w:World}{ν:bg}{q:ai}{v:Value}(bm:bd w ν q v)(ag:eF q=true){cs:List ai}{us:List Value}(aw:dc w ν cs us){f:Nat}(aJ:f+us.length<=v.cells.size)(cM:us≠[]):
  ∃v',bd w ν (mZ q f cs) v'/\v'.cells.toList=v.cells.toList.take f++us++v.cells.toList.drop (f+us.length)/\v'.cells.size=v.cells.size/\∀c∈v'.cells.toList,c.oneCell'=true:=by
 have hlen:=qb aw;have jR:=vM bm ag;by_cases bu:∃eV,q= .agg eV
 ·obtain⟨eV,rfl⟩:=bu;simp only[bd]at bm;obtain⟨bf,rfl,k5⟩:=bm;simp only[pB]at aJ⊢;have kK:dc w ν (oA eV f cs) (bf.toList.take f++us++bf.toList.drop (f+us.length)):=by unfold oA;rw[hlen];exact zo (zo (Ez f k5) aw) (BR _ k5)
  refine⟨.agg (bf.toList.take f++us++bf.toList.drop (f+us.length)).toArray,by simp only[mZ,bd];exact⟨_,rfl,by simpa using kK⟩,by simp[pB],?_,fun c hJ=>?_⟩
  ·simp[pB];omega
  ·exact BS kK c (by simpa[pB]using hJ)
 ·have nz:∀cs,q≠ .agg cs:=fun cs e=>bu ⟨cs,e⟩;obtain⟨J,U⟩:=N9 bm ag nz;rw[U]at aJ⊢;match us,cM,aw with
  |u::ct,_,aw=>
   simp at aJ;obtain⟨rfl,rfl⟩:f=0/\ct=[]:=⟨Ω,List.length_eq_zero_iff.1 Ω⟩;match cs,aw,hlen with
   |[c],aw,_=>
    simp only[dc]at aw;obtain⟨xH,fH,al,⟨Ld,Uj⟩,_⟩:=aw;cases al;have hu:u.cells= #[u]:=by cases u<;>first|rfl|cases Uj
    have AW:mZ q 0 [c]=c:=by cases q<;>first|rfl|exact absurd rfl (nz _)
    rw[AW];refine⟨u,Ld,by simp[hu],by simp[hu],fun c hJ=>?_⟩;rw[hu]at hJ;simp at hJ;subst hJ;exact Uj
theorem aoY{α:Type}(A us:List α)(a f sz N:Nat)(J:f+us.length<=sz)(U:a+sz<=N)(au:N<=A.length):
  ((A.take (a+f)++us++A.drop (a+f+us.length)).toArray.toList).take N=(A.take N).take a++((((A.take N).drop a).take sz).take f++us++(((A.take N).drop a).take sz).drop (f+us.length))++(A.take N).drop (a+sz):=by
 have al:(A.take N).take a++(((A.take N).drop a).take sz).take f=A.take (a+f):=by rw[List.take_take (i:=f),Nat.min_eq_left (show f<=sz by omega),<-List.take_add,List.take_take,Nat.min_eq_left Ω]
 have aE:(((A.take N).drop a).take sz).drop (f+us.length)++(A.take N).drop (a+sz)=(A.take N).drop (a+f+us.length):=by
  have ar:f+us.length<=(((A.take N).drop a).take sz).length:=by simp;omega
  have fo:(A.take N).drop (a+sz)=((A.take N).drop a).drop sz:=by rw[List.drop_drop]
  rw[fo,<-List.drop_append_of_le_length ar,List.take_append_drop,List.drop_drop];congr 1;omega
 have bn:(A.take N).drop (a+f+us.length)=(A.drop (a+f+us.length)).take (N-(a+f+us.length)):=by rw[List.drop_take]
 have ar:(A.take (a+f)++us).length=a+f+us.length:=by simp;omega
 simp only[List.append_assoc]at*;rw[aE,bn,<-List.append_assoc (ko a _),al];have o0:N=(A.take (a+f)++us).length+(N-(a+f+us.length)):=by rw[ar];omega
 rw[<-List.append_assoc,<-List.append_assoc];conv=>lhs;rw[o0,List.take_length_add_append]
theorem cY.storeRow{P:cG}{C:ft}{st:br}{a:Act}{w:World}{ν:bg}(h:cY C st a w ν){k:aI}{n el sz:Nat}{xs:List ai}(ad:look k st.e=some ⟨n,el,sz,some xs⟩){i f:Nat}{u:Value}(af:bd w ν (.rptr sz k n i f) u){q:ai}(bm:xs[i]? =some q)(ag:eF q=true)
  {cs:List ai} {us:List Value} (aw:dc w ν cs us) (aJ:f+us.length<=(cells q).length) (cM:us≠[]):
  ∃bl off mF,u= .pointer (some ⟨bl,off,none⟩)/\(storeCells ⟨bl,off,none⟩ us).run P w= .ok () (w.setRow bl mF)/\∃bt,cY C {st with e:=cA k ⟨n,el,sz,some (xs.set i (mZ q f cs))⟩ st.e} a (w.setRow bl mF) bt:=by
 simp only[bd]at af;obtain⟨_,hi,n',eO,J,U,au⟩:=af;obtain⟨v,fH,bc,bE,b1,c5⟩:=h.good.own k _ ad;rw[J]at bc;simp only[dQ,jB]at bc;obtain⟨rfl,rfl⟩:=bc;obtain⟨bl,ab,rfl⟩:=au rfl;obtain⟨df,oy,vH⟩:=c5 xs rfl;simp only at df oy;obtain⟨v,dy,fb,k7⟩:=If i oy bm;have AG:=qb (vM dy ag);have aij:(cells q).length=sz:=by rw[<-AG];simpa using fb
 have lq:f+us.length<=sz:=by rw[<-aij];exact aJ
 have hmul:i*sz+sz<=n'*sz:=by have:=Nat.mul_le_mul_right sz (show i+1<=n' from hi);rwa[Nat.succ_mul]at this
 rcases bE.2 with⟨al,aE⟩|⟨g,cap,cur,rfl,wC,Ln,Lv,ahn,dw,U6⟩
 ·rw[al]at ab;simp[oI]at ab
 simp only[oI,dQ]at ab;subst ab;simp only at U6 dw Lv Ln;have AF:n'*sz<=cur.size:=by rw[dw];exact Nat.mul_le_mul_right sz Lv
 have cR:=run_storeCells_at P g (i*sz+f) el us 0 cur w Ln Ω (BS aw);simp only[Nat.add_zero]at cR;refine⟨g,i*sz+f,_,rfl,cR,?_⟩;generalize yq:(cur.toList.take (i*sz+f)++us++cur.toList.drop (i*sz+f+us.length)).toArray=mF;obtain⟨v',cV,dC,jg,vE⟩:=aom dy ag aw (f:=f) (by rw[fb];exact lq) cM;have mM:=Ih oy bm cV (by rw[jg,fb]) vE;have hlen:fH.length=n'*sz:=bE.1;have ah6:mF.toList.take (n'*sz)=fH.take (i*sz)++v'.cells.toList++fH.drop (i*sz+sz):=by rw[<-yq,dC,k7,<-U6];exact aoY cur.toList us (i*sz) f sz (n'*sz) lq hmul (by simpa using AF)
 have ahp:mF.size=cap*sz:=by rw[<-yq,<-dw];simp;omega
 have ahV:(xs.set i (mZ q f cs)).length=n':=by simp[df]
 obtain⟨amQ,_,_⟩:=h.setRowM (w':=w.setRow g mF) ad rfl J (bl:=g) rfl (v':= .slice (some ⟨g,0,none⟩) n' cap) rfl (xs':=xs.set i (mZ q f cs)) (us:=fH.take (i*sz)++v'.cells.toList++fH.drop (i*sz+sz)) (.inl ⟨by simp[df],rfl⟩) rfl rfl rfl (fun j ae=>setRow_other w g j mF ae) (setRow_size w g mF)
  ⟨by rw[ui mM],.inr ⟨g,cap,mF,by simp[df],Nat.zero_le _,setRow_heap w g cur mF el _ Ln,by simpa[df]using Lv,ahn,ahp,by simpa[df]using ah6⟩⟩ mM
 exact⟨_,by simpa[df]using amQ⟩
theorem ajQ(z:Array Value)(n:Nat)(h:0<z.size):(madeCells z ((n+1)*z.size)).toList=z.toList++(madeCells z (n*z.size)).toList:=by
 apply List.ext_getElem?;intro j;rw[List.getElem?_append];have he:(n+1)*z.size=n*z.size+z.size:=by rw[qh,Nat.one_mul]
 simp only[madeCells,uC,Array.length_toList,Array.getElem?_map];by_cases ae:j<z.size
 ·rw[if_pos ae,Array.getElem?_range,if_pos Ω];simp[Nat.mod_eq_of_lt ae,ae]
 ·rw[if_neg ae,Array.getElem?_range,Array.getElem?_range];by_cases ad:j<n*z.size+z.size
  ·rw[if_pos Ω,if_pos Ω];simp only[nl];rw[<-Nat.mod_eq_sub_mod Ω]
  ·rw[if_neg Ω,if_neg Ω]
theorem Ws{w:World}{ν:bg}{p:ai}{z:Value}(aM:bd w ν p z)(h:0<z.cells.size)(ay:∀c∈z.cells.toList,c.oneCell'=true):∀n,dK w ν z.cells.size (rP n p) (madeCells z.cells (n*z.cells.size)).toList
 |0=>by simp[dK,madeCells]
 |n+1=>by rw[ajQ _ _ h];simp only[List.replicate_succ,dK];exact⟨z,_,rfl,⟨aM,rfl,ay⟩,Ws aM h ay n⟩
theorem j2{P:cG}{bG:List (Nat×dH)}(aN:fS P bG=true){C:ft}{st st':br}{a:Act}{w:World}{ν:bg}(aM:cY C st a w ν){i:ey}{o:Oper}(ay:EF C.N bG i o=true)
  {κ:aI} {n':Nat} {o₁:List aI} (ve:i.makes st=true->fresh st.n st.o κ) (cI:i.makes st=true->∀j,fresh n' o₁ j->fresh st.n st.o j/\j≠κ) {c:Prop} (he:eJ κ n' o₁ st i=some (c,st')) (aw:c) {K:Act->World->Prop} {Q:Exit->Act->World->Prop} (c8:∀bq w' bt,cY C st' bq w' bt->K bq w'):o.wp P a w K Q:=by
 obtain⟨dst,op,type,pos,after,guard⟩:=o;unfold EF at ay;dsimp only at ay;split at ay
 ·rename_i d key t;simp only[cC,dV,fc]at ay;obtain⟨rfl,U⟩:=ay;simp only[eJ]at he;cases he;obtain⟨g1,g2⟩:=aM.newBox (aM.new _ (ve rfl)) (cI rfl) (cs:=[.hdm 0 []]) (us:= #[]) 0 (by simp only[jx];exact⟨by simp[cW],⟨rfl,Ψ,Ψ⟩⟩);refine my (v:= .map (some w.heap.size)) (w':=w.alloc (.map #[] 0)) ?_ (c8 _ _ _ (g1.put (d:=some d) (by simpa[jD]using U) (p:= .gmap κ) ?_))
  ·simp only[execOp,Instr.makeMap,Option.map_none,fT,run_newObj,fX,gJ];rfl
  ·simp[bd,bg.withBox]
 ·rename_i ck x k v t gP gF qF;simp only[cC,dV]at ay;obtain⟨⟨⟨⟨rfl,J⟩,U⟩,au⟩,a6⟩:=ay;have rx:=ev aM U;have vP:=ev aM au;have zu:=ev aM a6;split at J
  ·rename_i sz lh mV pS z aJ;obtain⟨cQ,hu,e8⟩:=jh aN aJ;have tE:cQ= .map mV pS:=by cases cQ<;>simp[kr]at e8;obtain⟨rfl,rfl⟩:=e8;rfl
   subst tE;have mi:=Me aN J;simp only[eJ]at he;split at he
   ·rename_i m af;rw[af]at rx;simp only[bd]at rx;obtain⟨bl,ch,ca⟩:=rx;split at he
    ·rename_i cs dw;split at he
     ·rename_i cs' hm;cases he;obtain⟨iI,us,el,bc,bE,b1,c5,df⟩:=aM.good.box m cs dw;rw[ch]at bc;cases bc;unfold ox at hm;split at hm
      ·rename_i clock borns kvs;split at hm
       ·cases hm
       rename_i wH;simp only[j1]at c5;simp only[jx]at df;have hr:=vR (P:=P) c5;have wD:=Oe (P:=P) (w:=w) mi false vP (by simpa using wH);have bD:bl<w.heap.size:=(Array.getElem?_eq_some_iff.1 c5).1;have dR:∀(o':Obj) (ct:Array Value) (eV:List ai),(Instr.mapUpdate t (a.eval gP) (a.eval gF) (a.eval qF)).run P w= .ok () {w with heap:=w.heap.setIfInBounds bl o'}->j1 eV ct el=o'->jx w ν eV ct.toList->some eV=some cs'->
         (⟨none,.mapUpdate t gP gF qF,type,pos,after,guard⟩:Oper).wp P a w K Q:=by
        intro o' ct eV jc Dp mM iY;cases iY;refine E5 (w':={w with heap:=w.heap.setIfInBounds bl o'}) ?_ (c8 _ _ _ (aM.setBox (w':={w with heap:=w.heap.setIfInBounds bl o'}) dw ch (us:=ct) (el:=el) rfl rfl rfl (fun j ae=>?_) Ψ ?_ mM).1)
        ·simp only[execOp,jc,fT,fX,gJ]
        ·exact Array.getElem?_setIfInBounds_ne (ld ae)
        ·rw[Dp];simp[bD]
       split at hm
       ·rename_i w8 vj;obtain⟨j,u,ct,e,f1,f2,f3,f4,f5,f6,f7⟩:=D3 mi vP zu borns kvs us.toList 0 _ df.1 df.2.len vj;refine dR (.map (fL borns ct).toArray clock) ct.toArray (.hdm clock borns::w8) ?_ (by simp[j1]) (by simp only[jx];exact⟨by simpa using f2,⟨by rw[f3];exact df.2.len,df.2.inc,df.2.lt⟩⟩) hm;have LN:(Instr.keyThatStays (((fL borns us.toList).toArray[j]?.map (·.key)).getD (a.eval gF)) (a.eval gF)).run P w= .ok (a.eval gF) w:=by
         have:((fL borns us.toList).toArray[j]?.map (·.key)).getD (a.eval gF)=e.key:=by simp[f4]
         rw[this];simp[Instr.keyThatStays,f6]
        simp only[Nat.zero_add]at f1;simp only[Instr.mapUpdate,fT,run_underlying hu,fX,ca,hr,wD,f1.run mi,gJ,LN,EE c5];rw[f7];simp
       ·rename_i vj;have f1:=D3 mi vP zu borns kvs us.toList 0 _ df.1 df.2.len vj;simp only at f1;have p3:us.toList.length=2*borns.length:=by rw[Il df.1,df.2.len]
        refine dR (.map ((fL borns us.toList).toArray.push ⟨a.eval gF,a.eval qF,clock⟩) (clock+1)) (us.toList++[a.eval gF,a.eval qF]).toArray (.hdm (clock+1) (borns++[clock])::(kvs++[cv st.t k,cv st.t v])) ?_ (by simp only[j1,Kh borns us.toList clock _ _ p3];simp) ?_ hm
        ·simp only[Instr.mapUpdate,fT,run_underlying hu,fX,ca,hr,wD,f1.run mi,gJ,EE c5]
        ·simp only[jx];refine⟨N8 df.1 (by simp only[cW];exact⟨_,_,rfl,vP,_,_,rfl,zu,rfl⟩),⟨by simp[df.2.len];omega,?_,?_⟩⟩
         ·rw[List.pairwise_append];exact⟨df.2.inc,Ψ,fun x af y aO=>by simp at aO;subst aO;exact df.2.lt x af⟩
         ·intro b ab;rcases kn.1 ab with ab|ab
          ·have:=df.2.lt b ab;omega
          ·simp at ab;omega
       ·cases hm
      ·cases hm
     ·cases he
    ·cases he
   ·cases he
  ·cases J
 ·rename_i ck x k v t gP gF qF;simp only[cC,dV]at ay;obtain⟨⟨⟨⟨rfl,J⟩,U⟩,au⟩,a6⟩:=ay;have rx:=ev aM U;have vP:=ev aM au;have zu:=ev aM a6;split at J
  ·rename_i sz lh mV pS z aJ;obtain⟨cQ,hu,e8⟩:=jh aN aJ;have tE:cQ= .map mV pS:=by cases cQ<;>simp[kr]at e8;obtain⟨rfl,rfl⟩:=e8;rfl
   subst tE;have mi:=Me aN J;simp only[eJ]at he;split at he
   ·rename_i m af;rw[af]at rx;simp only[bd]at rx;obtain⟨bl,ch,ca⟩:=rx;split at he
    ·rename_i cs dw;split at he
     ·rename_i cs' hm;cases he;obtain⟨iI,us,el,bc,bE,b1,c5,df⟩:=aM.good.box m cs dw;rw[ch]at bc;cases bc;unfold ox at hm;split at hm
      ·rename_i clock borns kvs;split at hm
       ·cases hm
       rename_i wH;simp only[j1]at c5;simp only[jx]at df;have hr:=vR (P:=P) c5;have wD:=Oe (P:=P) (w:=w) mi false vP (by simpa using wH);have bD:bl<w.heap.size:=(Array.getElem?_eq_some_iff.1 c5).1;have dR:∀(o':Obj) (ct:Array Value) (eV:List ai),(Instr.mapUpdate t (a.eval gP) (a.eval gF) (a.eval qF)).run P w= .ok () {w with heap:=w.heap.setIfInBounds bl o'}->j1 eV ct el=o'->jx w ν eV ct.toList->some eV=some cs'->
         (⟨none,.mapUpdate t gP gF qF,type,pos,after,guard⟩:Oper).wp P a w K Q:=by
        intro o' ct eV jc Dp mM iY;cases iY;refine E5 (w':={w with heap:=w.heap.setIfInBounds bl o'}) ?_ (c8 _ _ _ (aM.setBox (w':={w with heap:=w.heap.setIfInBounds bl o'}) dw ch (us:=ct) (el:=el) rfl rfl rfl (fun j ae=>?_) Ψ ?_ mM).1)
        ·simp only[execOp,jc,fT,fX,gJ]
        ·exact Array.getElem?_setIfInBounds_ne (ld ae)
        ·rw[Dp];simp[bD]
       split at hm
       ·rename_i w8 vj;obtain⟨j,u,ct,e,f1,f2,f3,f4,f5,f6,f7⟩:=D3 mi vP zu borns kvs us.toList 0 _ df.1 df.2.len vj;refine dR (.map (fL borns ct).toArray clock) ct.toArray (.hdm clock borns::w8) ?_ (by simp[j1]) (by simp only[jx];exact⟨by simpa using f2,⟨by rw[f3];exact df.2.len,df.2.inc,df.2.lt⟩⟩) hm;have LN:(Instr.keyThatStays (((fL borns us.toList).toArray[j]?.map (·.key)).getD (a.eval gF)) (a.eval gF)).run P w= .ok (a.eval gF) w:=by
         have:((fL borns us.toList).toArray[j]?.map (·.key)).getD (a.eval gF)=e.key:=by simp[f4]
         rw[this];simp[Instr.keyThatStays,f6]
        simp only[Nat.zero_add]at f1;simp only[Instr.mapUpdate,fT,run_underlying hu,fX,ca,hr,wD,f1.run mi,gJ,LN,EE c5];rw[f7];simp
       ·rename_i vj;have f1:=D3 mi vP zu borns kvs us.toList 0 _ df.1 df.2.len vj;simp only at f1;have p3:us.toList.length=2*borns.length:=by rw[Il df.1,df.2.len]
        refine dR (.map ((fL borns us.toList).toArray.push ⟨a.eval gF,a.eval qF,clock⟩) (clock+1)) (us.toList++[a.eval gF,a.eval qF]).toArray (.hdm (clock+1) (borns++[clock])::(kvs++[cv st.t k,cv st.t v])) ?_ (by simp only[j1,Kh borns us.toList clock _ _ p3];simp) ?_ hm
        ·simp only[Instr.mapUpdate,fT,run_underlying hu,fX,ca,hr,wD,f1.run mi,gJ,EE c5]
        ·simp only[jx];refine⟨N8 df.1 (by simp only[cW];exact⟨_,_,rfl,vP,_,_,rfl,zu,rfl⟩),⟨by simp[df.2.len];omega,?_,?_⟩⟩
         ·rw[List.pairwise_append];exact⟨df.2.inc,Ψ,fun x af y aO=>by simp at aO;subst aO;exact df.2.lt x af⟩
         ·intro b ab;rcases kn.1 ab with ab|ab
          ·have:=df.2.lt b ab;omega
          ·simp at ab;omega
       ·cases hm
      ·cases hm
     ·cases he
    ·cases he
   ·cases he
  ·cases J
 ·rename_i d key x t gP;simp only[cC,dV,fc]at ay;obtain⟨⟨⟨rfl,U⟩,J⟩,au⟩:=ay;have rx:=ev aM au;split at J
  ·rename_i sz lh mV pS z aJ;obtain⟨cQ,hu,e8⟩:=jh aN aJ;have tE:cQ= .map mV pS:=by cases cQ<;>simp[kr]at e8;obtain⟨rfl,rfl⟩:=e8;rfl
   subst tE;simp only[eJ]at he;split at he
   ·rename_i m af;rw[af]at rx;have aor:=rx;simp only[bd]at rx;obtain⟨bl,ch,ca⟩:=rx;split at he
    ·rename_i cs dw;split at he
     ·rename_i cs' hm;cases he;obtain⟨iI,us,el,bc,bE,b1,c5,df⟩:=aM.good.box m cs dw;rw[ch]at bc;cases bc;unfold xt at hm;split at hm
      ·rename_i clock borns kvs;cases hm;simp only[j1]at c5;have hr:=vR (P:=P) c5;obtain⟨g1,g2⟩:=aM.newBox (aM.new _ (ve rfl)) (cI rfl) (cs:=[.hdi clock [] clock,.gmap m]) (us:= #[a.eval gP]) 0 (by simp only[jx,cW];exact⟨_,_,rfl,aor,rfl⟩);have Dp:j1 [.hdi clock [] clock,.gmap m] #[a.eval gP] 0= .mapIter (some bl) clock #[] clock:=by simp[j1,ca]
       rw[Dp]at g1 g2;refine my (v:= .pointer (some ⟨w.heap.size,0,none⟩)) (w':=w.alloc (.mapIter (some bl) clock #[] clock)) ?_ (c8 _ _ _ (g1.put (d:=some d) (by simpa[jD]using U) (p:= .ptr κ 0) g2))
       ·simp only[execOp];refine E0 ?_;simp only[Instr.range,fT,run_underlying hu,fX,ca,hr,gJ,run_newObj];rfl
      ·cases hm
     ·cases he
    ·cases he
   ·cases he
  ·cases J
 ·rename_i d avF;simp only[cC,dV,fc]at ay;obtain⟨⟨J,U⟩,au⟩:=ay;subst J;simp only[eJ]at he;split at he
  ·rename_i cw p aB;cases he;obtain⟨v,g1,g2⟩:=apC (o:=⟨some d,op,type,pos,after,guard⟩) aN aM au aB aw;refine my g1 (c8 _ _ ν ?_);exact aM.put (d:=some d) (by simpa[jD]using U) g2
  ·cases he
 ·rename_i d key x el o';simp only[cC,dV,fc]at ay;obtain⟨⟨J,U⟩,au⟩:=ay;subst J;simp only[eJ]at he;cases he;have af:=ev aM au;have lR:=vM af aw;obtain⟨g1,g2⟩:=aM.newBox (aM.new _ (ve rfl)) (cI rfl) el (by rw[vG (BT lR)];exact lR);rw[vF (BT lR)]at g1 g2;refine my (v:= .pointer (some ⟨w.heap.size,0,none⟩)) (w':=w.alloc (.cells (a.eval o').cells el)) ?_ (c8 _ _ _ (g1.put (d:=some d) (by simpa[jD]using U) (p:= .ptr κ 0) ?_))
  ·simp only[execOp,Instr.box,newVar,newRow,fT,run_newObj,fX,gJ];rfl
  ·simpa only[bd]using g2
 ·rename_i d key z el;simp only[cC,dV,fc]at ay;obtain⟨⟨J,U⟩,au⟩:=ay;subst J;simp only[eJ]at he;cases he;split at au
  ·rename_i f aJ;have bp:=Pn au;obtain⟨b5,la,z2,z3⟩:=OO aN aJ w;rw[<-bp]at z2;obtain⟨_,lR⟩:=Pm w ν z2;obtain⟨g1,g2⟩:=aM.newBox (aM.new _ (ve rfl)) (cI rfl) el (by rw[vG (BT lR)];exact lR);rw[vF (BT lR)]at g1 g2;refine my (v:= .pointer (some ⟨w.heap.size,0,none⟩)) (w':=w.alloc (.cells b5.cells el)) ?_ (c8 _ _ _ (g1.put (d:=some d) (by simpa[jD]using U) (p:= .ptr κ 0) ?_))
   ·simp only[execOp,Instr.alloc,newVar,newRow,fT,la,run_newObj,fX,gJ];rfl
   ·simpa only[bd]using g2
  ·cases au
 ·rename_i sz x y t o' jw;simp only[cC,dV]at ay;obtain⟨⟨⟨J,U⟩,au⟩,a6⟩:=ay;subst J;split at U
  ·rename_i f aJ;simp only[dV]at U;simp only[eJ]at he;split at he
   ·rename_i k off af;split at he
    ·rename_i cs dw;cases he;obtain⟨ie,bK,cq,da⟩:=aw;have rx:=ev aM au;rw[af]at rx;simp only[bd]at rx;obtain⟨bl,ch,ca⟩:=rx;have l7:=ev aM a6;have vL:=vM l7 bK;have vQ:=qb vL;obtain⟨iI,us,el,bc,bE,b1,c5,df⟩:=aM.good.box k cs dw;rw[ch]at bc;cases bc;rw[vF ie]at c5;rw[vG ie]at df;have av:=qb df;obtain⟨_,en⟩:=vX aN aJ w;have vm:(a.eval jw).cells.size=sz:=by rw[cq]at vQ;simpa using vQ
     have cR:=run_storeCells_at (P:=P) bl off el (a.eval jw).cells.toList 0 us w c5 (by simp at av⊢;omega) (BS vL);simp only[Nat.add_zero]at cR;refine E5 (w':=w.setRow bl (us.toList.take off++(a.eval jw).cells.toList++us.toList.drop (off+(a.eval jw).cells.toList.length)).toArray) ?_ (c8 _ _ _ (aM.storeBox dw ch ie ?_))
     ·simp only[execOp,Instr.storeAt,ca,Instr.sureAddr,storeVar,fT,gJ,fX,en,vm,U,ne_eq,not_true_eq_false,if_false,cR]
     ·simp only[oA];rw[vQ];exact zo (zo (Ez off df) vL) (BR _ df)
    ·cases he
   ·rename_i af;generalize LB:cv st.t x=px at he;unfold rG at he;split at he
    ·rename_i dT k n i tw;split at he
     ·rename_i n' el jz xs ad;split at he
      ·rename_i Dn;obtain⟨rfl,rfl⟩:=Dn;split at he
       ·rename_i q bm;cases he;obtain⟨ie,bK,cq,da,hT⟩:=aw;have rx:=ev aM au;rw[LB]at rx;have l7:=ev aM a6;have vL:=vM l7 bK;have vQ:=qb vL;obtain⟨_,en⟩:=vX aN aJ w;have vm:(a.eval jw).cells.size=sz:=by rw[cq]at vQ;simpa using vQ
        obtain⟨bl,off,mF,Ds,cR,bt,qu⟩:=aM.storeRow (P:=P) ad rx bm ie vL (by simpa[vm]using da) (fun e=>by have:=e2 List.length e;simp[vm]at this;omega);refine E5 (w':=w.setRow bl mF) ?_ (c8 _ _ _ qu);simp only[execOp,Instr.storeAt,Ds,Instr.sureAddr,storeVar,fT,gJ,fX,en,vm,U,ne_eq,not_true_eq_false,if_false,cR]
       ·cases he
      ·cases he
     ·cases he
    ·cases he
  ·cases U
 ·rename_i d sz el xs t len parts;simp only[cC,dV,fc]at ay;obtain⟨⟨⟨⟨⟨⟨J,U⟩,au⟩,a6⟩,b3⟩,c7⟩,et⟩:=ay;subst J;subst b3;split at au
  ·rename_i gh aJ;simp only[dV]at au;subst au;split at a6
   ·rename_i g a7;simp only[cC,dV,fc]at a6;obtain⟨rfl,fE⟩:=a6;simp only[eJ]at he;cases he;obtain⟨us,g1,g2,g3⟩:=YQ aN aM aJ rfl a7 et aw c7;have lT:(w.alloc (.cells us el)).ownsRow w.heap.size el g.size (.slice (some ⟨w.heap.size,0,none⟩) xs.length xs.length) (xs.map (cv st.t)).length us.toList:=by
     refine⟨by simp[g3],.inr ⟨w.heap.size,xs.length,us,Ψ,e7 _,heap_alloc_new w _,Ψ,?_,g3,?_⟩⟩
     ·simp only[maxLen];have:xs.length<=xs.length*g.size:=Nat.le_mul_of_pos_right _ fE;omega
     ·rw[hQ];simp[g3]
    obtain⟨dy,fb⟩:=aM.newRow (k:=κ) (xs:=xs.map (cv st.t)) (.inl (aM.new _ (ve rfl))) (World.grownBy_alloc w _ none) lT g2
     (by have:xs.length<=xs.length*g.size:=Nat.le_mul_of_pos_right _ fE;simp only[lim,oK];omega) (cI rfl)
    simp only[oK]at dy fb;refine my (v:= .slice (some ⟨w.heap.size,0,none⟩) xs.length xs.length) (w':=w.alloc (.cells us el)) ?_ (c8 _ _ _ (dy.put (d:=some d) (by simpa[jD]using U) (p:= .slice g.size (.own κ) (xs.map (cv st.t))) fb));have bB:(parts.map fun(x:Nat×Operand)=>(x.1,a.eval x.2))=(parts.toList.map fun(x:Nat×Operand)=>(x.1,a.eval x.2)).toArray:=by apply Array.ext';simp
    simp only[execOp];refine E0 ?_;rw[<-g1];congr 2
   ·cases a6
  ·cases au
 ·rename_i d sz el x y o' jw t dZ;simp only[cC,dV,fc]at ay;obtain⟨⟨⟨⟨⟨⟨J,U⟩,au⟩,a6⟩,b3⟩,c7⟩,et⟩:=ay;subst J;subst au;split at a6
  ·rename_i gh aJ;simp only[dV]at a6;subst a6;split at b3
   ·rename_i g a7;simp only[cC,dV,fc]at b3;obtain⟨⟨rfl,fE⟩,pX⟩:=b3;have rx:=ev aM c7;have l7:=ev aM et;have mJ:∀v' w',(Builtin.append_ #[t,t] type #[a.eval o',a.eval jw]).run P w= .ok v' w'->(execOp a.eval ⟨some d,.call ⟨.builtin .append,⟨[o',jw]⟩,⟨[t,t]⟩⟩,type,pos,after,guard⟩).run P w= .ok (.value v') w':=by intro v' w' jc;simp only[execOp,resolve,invoke,builtin,fT,gJ,fX,List.map_toArray,gS,nh];rw[jc];rfl
    obtain⟨fG,cj,z,al,aE,bn,dh,hq,h0,rY,rZ⟩:=(vY aN a7).ex;obtain⟨eV,iY,e8⟩:=jh aN aJ;obtain rfl:=ts e8;simp only[eJ]at he;split at he
    ·rename_i dT tag xs jz k8 ys af aO;split at he
     ·rename_i fp;obtain⟨rfl,fp⟩:=fp;subst fp;rw[af]at rx;rw[aO]at l7;simp only[bd]at rx l7;obtain⟨⟨uQ,pO,s6,cx1,⟨SH,SI⟩,cx4⟩,rxn,rxo,rxt⟩:=rx;obtain⟨⟨n4,lN,vy,cy1,⟨SJ,SK⟩,cy4⟩,_⟩:=l7;split at he
      ·rename_i k;split at he
       ·rename_i ow ad;cases he;obtain⟨bK,cq,da,hT⟩:=aw;subst cq;obtain⟨n0,xH,dy,fb,k7⟩:=rxo k rfl;obtain⟨v0,fH,bc,bE,b1,_⟩:=aM.good.own k ow ad;rw[dy]at bc;simp only[dQ,jB]at bc;obtain⟨rfl,rfl⟩:=bc;have mN:a.eval o'=xH:=k7 bK.symm;by_cases js:ys=[]
        ·subst js;rw[vy,s6]at mJ;have jc:=Ir (P:=P) (w:=w) (ty:=type) iY al uQ xs.length pO cx1 n4 lN;refine my (mJ _ _ (by simpa using jc)) (c8 _ _ ν ?_);have cR:{st with t:=put d (.slice ow.sz (.own k) (xs++[])) st.t,e:=cA k ⟨xs.length+([]:List ai).length,ow.el,ow.sz,none⟩ st.e}=({st with e:=cA k ⟨ow.n,ow.el,ow.sz,none⟩ st.e,t:=put d (.slice ow.sz (.own k) xs) st.t}:br):=by simp[bK]
         rw[<-da,cR];have mL:=aM.forgetRow ad;refine mL.put (d:=some d) (by simpa[jD]using U) (p:= .slice ow.sz (.own k) xs) ?_;simp only[bd];rw[<-da]at cx4;exact⟨⟨uQ,pO,rfl,cx1,⟨SH,SI⟩,cx4⟩,fun e=>(by cases e),(fun g e=>by cases e;exact⟨_,_,dy,fb,fun e=>by rw[<-s6];exact k7 e⟩),fun _ _ e=>(by cases e),fun _ e=>(by cases e)⟩
        ·have hyp:0<ys.length:=by cases ys<;>simp at js⊢
         rcases cy4 with cy4|⟨lh,nQ,hx,rfl,y2,mG⟩
         ·exact absurd cy4 js
         ·have jT:=ui mG;have sn:∀j u,hx[j]? =some u->w.cell? ((⟨lh,nQ,none⟩:Addr).add j)=some u:=fun j u ae=>by rw[pK];exact(vv y2 ae).2
          have sg:(xs.length+ys.length)*fG.bytes<=140737488355328:=by
           have lP:fG.bytes<=2048:=by rw[dh];exact pX
           have pW:(xs.length+ys.length)*fG.bytes<=(xs.length+ys.length)*2048:=Nat.mul_le_mul_left _ lP;simp only[lim]at hT;omega
          have kJ:xs.length+ys.length<=maxLen:=by simp only[lim]at hT;simp only[maxLen];omega
          rw[vy]at mJ;have wT:fH.length=ow.n*ow.sz:=bE.1;have wW:z.cells.size=fG.size:=by rw[rZ,bn]
          have Dc:(∀cur,e1->cur=(0:Nat))->(∃v' w',(Builtin.append_ #[t,t] type #[a.eval o',.slice (some ⟨lh,nQ,none⟩) ys.length lN]).run P w= .ok v' w'/\w'.ownsRow w.heap.size ow.el fG.size v' (xs.length+ys.length) (fH++hx)/\w.grownBy w' none/\dK w ν fG.size xs fH)->
            (⟨some d,.call ⟨.builtin .append,⟨[o',jw]⟩,⟨[t,t]⟩⟩,type,pos,after,guard⟩:Oper).wp P a w K Q:=by
           intro _ cz;obtain⟨v',w',f1,f2,f3,f4⟩:=cz;have Gt:dK w ν fG.size (xs++ys) (fH++hx):=Ex f4 (by rw[bn];exact mG);obtain⟨cV,dC⟩:=aM.newRow (k:=k) (xs:=xs++ys) (.inr ⟨ow,ad,by rw[bK];simp;omega⟩) f3 (by simpa using f2) Gt (by simpa using hT) (n':=st.n) (o':=st.o)
            (fun j ae=>⟨ae,fun e=>by subst e;have:=(aM.new _ ae).2.1;rw[dy]at this;cases this⟩)
           refine my (mJ _ _ f1) (c8 _ _ ((ν.withOwn k (xs++ys).length v').withRowOf k v' (xs++ys).length ((xs++ys).length*fG.size)) ?_);have:=cV.put (d:=some d) (by simpa[jD]using U) dC;simpa[bn,eZ]using this
          rcases bE.2 with⟨nR,zh⟩|⟨bl,cap,cur,nR,zh,BF,Nu,Nv,Nw,HR⟩
          ·
           have A2:xs=[]:=List.eq_nil_of_length_eq_zero Ω;have LQ:fH=[]:=List.eq_nil_of_length_eq_zero (by rw[wT,zh];simp);subst A2;subst LQ;refine Dc (fun _ h=>h.elim) ?_;obtain⟨v',w',f1,f2,f3,_⟩:=run_append_own (P:=P) w w.heap.size t type ow.el fG z fG.size fG.bytes iY al h0 rfl rfl wW (by rw[bn];exact fE) (.slice none 0 0) 0 [] (World.ownsRow_nil w _ _ _)
            ⟨lh,nQ,none⟩ ys.length lN hx (by rw[jT,bn]) sn (zn mG) (by simpa using kJ) (by simpa using sg) (e7 _)
           refine⟨v',w',by rw[mN,nR];exact f1,by simpa using f2,by simpa[oI]using f3,by simp[dK]⟩
          ·have ahS:l1 w ν.A bl 0 fH/\dK w ν fG.size xs fH/\True:=by
            rw[mN,nR]at s6;rcases cx4 with cx4|⟨bb,aut,OY,f1,f2,f3⟩
            ·subst cx4;have:fH=[]:=List.eq_nil_of_length_eq_zero (by rw[wT,bK];simp);subst this;exact⟨trivial,by simp[dK],trivial⟩
            ·subst f1;injection s6 with vx1 vx2 vx3;injection vx1 with vx1;injection vx1 with vx1 vx4;subst vx1;subst vx4;have heq:OY=fH:=by
              apply List.ext_getElem?;intro j;have p3:OY.length=fH.length:=by rw[ui f3,wT,bK,da]
              by_cases ae:j<OY.length
              ·have J:=(vv f2 (cc ae)).2;rw[Nat.zero_add]at J;have U:=bE.cells (g:=bl) (by rw[nR];rfl) j fH[j] (cc Ω);rw[pK,Nat.zero_add,J]at U;rw[cc ae,cc Ω];exact U
              ·rw[qO Ω,qO Ω]
             subst heq;exact⟨f2,by rw[bn];exact f3,trivial⟩
           obtain⟨yA,oh,_⟩:=ahS;by_cases sr:xs.length+ys.length<=cap
           ·have asK:cur.size=cap*ow.sz:=Nw;have hmul:(xs.length+ys.length)*ow.sz<=cap*ow.sz:=Nat.mul_le_mul_right _ sr;rw[qh]at hmul;have f1:=run_append_room (P:=P) w t type ow.el fG iY al bl xs.length cap cur BF ⟨lh,nQ,none⟩ ys.length lN hx (by rw[jT,bn]) sn (zn mG) sr (by rw[jT,bn,<-da];omega);obtain⟨cV,dC⟩:=aM.inPlace ad (bl:=bl) (cap:=cap) (cur:=cur) (by rw[dy,<-nR]) BF Nv Nw (xs:=xs) (ys:=ys) (us:=fH) (ns:=hx) bK.symm HR (by rw[da,<-bn];exact oh) (by rw[da];exact mG) hyp (by rw[bK];exact sr) hT;refine my (v:= .slice (some ⟨bl,0,none⟩) (ow.n+ys.length) cap) (w':=w.setRow bl (fH++hx++cur.toList.drop (ow.n*ow.sz+hx.length)).toArray) (mJ _ _ ?_)
             (c8 _ _ (ν.withRowOf k (.slice (some ⟨bl,0,none⟩) (ow.n+ys.length) cap) (ow.n+ys.length) ((ow.n+ys.length)*ow.sz)) ?_)
            ·rw[mN,nR,bK,f1,<-HR,bK,da,bn]
            ·have:=cV.put (d:=some d) (by simpa[jD]using U) dC;simpa[bK,da,eZ]using this
           ·refine Dc (fun _ h=>h.elim) ?_;obtain⟨v',w',f1,f2,f3⟩:=run_append_arg_grows (P:=P) w t type ow.el fG z fG.size fG.bytes iY al h0 rfl rfl wW (by rw[bn];exact fE) ⟨bl,0,none⟩ xs.length cap fH (by rw[wT,bK,da,bn])
             (fun j u ae=>by rw[pK];exact(vv yA ae).2) ⟨lh,nQ,none⟩ ys.length lN hx (by rw[jT,bn]) sn Ω kJ sg
            exact⟨v',w',by rw[mN,nR,bK];exact f1,f2,f3,oh⟩
       ·cases he
      ·cases he;have GG:=rxn rfl;have A2:xs=[]:=by rw[GG]at s6;injection s6 with _ aE;exact List.eq_nil_of_length_eq_zero aE.symm
       subst A2;have yF:(ey.app d g.size el x y).makes st=true:=by simp only[ey.makes,af]
       have wW:z.cells.size=fG.size:=by rw[rZ,bn]
       rw[vy,GG]at mJ;have dR:∀(v':Value) (w':World) (hx:List Value),(Builtin.append_ #[t,t] type #[.slice none 0 0,.slice n4 ys.length lN]).run P w= .ok v' w'->w'.ownsRow w.heap.size el g.size v' ys.length hx->w.grownBy w' none->dK w ν g.size ys hx->
         (⟨some d,.call ⟨.builtin .append,⟨[o',jw]⟩,⟨[t,t]⟩⟩,type,pos,after,guard⟩:Oper).wp P a w K Q:=by
        intro v' w' hx f1 f2 f3 f4;obtain⟨cV,dC⟩:=aM.newRow (k:=κ) (xs:=ys) (.inl (aM.new _ (ve yF))) f3 f2 f4 aw (cI yF);exact my (mJ _ _ f1) (c8 _ _ _ (cV.put (d:=some d) (by simpa[jD]using U) dC))
       by_cases js:ys=[]
       ·subst js;exact dR _ w [] (Ir iY al none 0 0 (e7 _) n4 lN) (World.ownsRow_nil w _ _ _) (ark w _) (by simp[dK])
       ·rcases cy4 with cy4|⟨lh,nQ,hx,rfl,y2,mG⟩
        ·exact absurd cy4 js
        ·have jT:=ui mG;have sn:∀j u,hx[j]? =some u->w.cell? ((⟨lh,nQ,none⟩:Addr).add j)=some u:=fun j u ae=>by rw[pK];exact(vv y2 ae).2
         have sg:ys.length*fG.bytes<=140737488355328:=by
          have J:fG.bytes<=2048:=by rw[dh];exact pX
          have U:ys.length*fG.bytes<=ys.length*2048:=Nat.mul_le_mul_left _ J;simp only[lim]at aw;omega
         have kJ:ys.length<=maxLen:=by simp only[lim]at aw;simp only[maxLen];omega
         obtain⟨v',w',f1,f2,f3,_⟩:=run_append_own (P:=P) w w.heap.size t type el fG z fG.size fG.bytes iY al h0 rfl rfl wW (by rw[bn];exact fE) (.slice none 0 0) 0 [] (World.ownsRow_nil w _ _ _)
          ⟨lh,nQ,none⟩ ys.length lN hx (by rw[jT,bn]) sn (zn mG) (by simpa using kJ) (by simpa using sg) (e7 _)
         exact dR v' w' hx f1 (by rw[<-bn];simpa using f2) (by simpa[oI]using f3) mG
      ·cases he
     ·cases he
    ·cases he
   ·cases b3
  ·cases a6
 ·rename_i d key sz el xs t len parts;simp only[cC,dV,fc]at ay;obtain⟨⟨⟨⟨⟨⟨J,U⟩,au⟩,a6⟩,b3⟩,c7⟩,et⟩:=ay;subst J;subst b3;split at au
  ·rename_i gh aJ;simp only[dV]at au;subst au;split at a6
   ·rename_i g a7;simp only[cC,dV,fc]at a6;obtain⟨rfl,fE⟩:=a6;simp only[eJ]at he;cases he;obtain⟨us,g1,g2,g3⟩:=YQ aN aM aJ rfl a7 et aw c7;have lT:(w.alloc (.cells us el)).ownsRow w.heap.size el g.size (.slice (some ⟨w.heap.size,0,none⟩) xs.length xs.length) (xs.map (cv st.t)).length us.toList:=by
     refine⟨by simp[g3],.inr ⟨w.heap.size,xs.length,us,Ψ,e7 _,heap_alloc_new w _,Ψ,?_,g3,?_⟩⟩
     ·simp only[maxLen];have:xs.length<=xs.length*g.size:=Nat.le_mul_of_pos_right _ fE;omega
     ·rw[hQ];simp[g3]
    obtain⟨dy,fb⟩:=aM.newRowM (k:=κ) (xs:=xs.map (cv st.t)) (.inl (aM.new _ (ve rfl))) (World.grownBy_alloc w _ none) lT g2
     (by have:xs.length<=xs.length*g.size:=Nat.le_mul_of_pos_right _ fE;simp only[lim,oK];omega) (cI rfl)
    simp only[oK]at dy fb;refine my (v:= .slice (some ⟨w.heap.size,0,none⟩) xs.length xs.length) (w':=w.alloc (.cells us el)) ?_ (c8 _ _ _ (dy.put (d:=some d) (by simpa[jD]using U) (p:= .row g.size κ xs.length) (fb ⟨_,_,rfl⟩)));have bB:(parts.map fun(x:Nat×Operand)=>(x.1,a.eval x.2))=(parts.toList.map fun(x:Nat×Operand)=>(x.1,a.eval x.2)).toArray:=by apply Array.ext';simp
    simp only[execOp];refine E0 ?_;rw[<-g1];congr 2
   ·cases a6
  ·cases au
 ·rename_i d key sz el x y o' jw t dZ;simp only[cC,dV,fc]at ay;obtain⟨⟨⟨⟨⟨⟨J,U⟩,au⟩,a6⟩,b3⟩,c7⟩,et⟩:=ay;subst J;subst au;split at a6
  ·rename_i gh aJ;simp only[dV]at a6;subst a6;split at b3
   ·rename_i g a7;simp only[cC,dV,fc]at b3;obtain⟨⟨rfl,fE⟩,pX⟩:=b3;have rx:=ev aM c7;have l7:=ev aM et;have mJ:∀v' w',(Builtin.append_ #[t,t] type #[a.eval o',a.eval jw]).run P w= .ok v' w'->(execOp a.eval ⟨some d,.call ⟨.builtin .append,⟨[o',jw]⟩,⟨[t,t]⟩⟩,type,pos,after,guard⟩).run P w= .ok (.value v') w':=by intro v' w' jc;simp only[execOp,resolve,invoke,builtin,fT,gJ,fX,List.map_toArray,gS,nh];rw[jc];rfl
    obtain⟨fG,cj,z,al,aE,bn,dh,hq,h0,rY,rZ⟩:=(vY aN a7).ex;obtain⟨eV,iY,e8⟩:=jh aN aJ;obtain rfl:=ts e8;have wW:z.cells.size=fG.size:=by rw[rZ,bn]
    simp only[eJ]at he;split at he
    ·
     rename_i ys aB;cases he;unfold tl at aB;split at aB
     ·rename_i dT xs jz k8 ara af aO;split at aB
      ·rename_i fp;obtain⟨rfl,fp⟩:=fp;subst fp;cases aB;rw[af]at rx;rw[aO]at l7;simp only[bd]at rx l7;obtain⟨⟨uQ,pO,s6,cx1,⟨SH,SI⟩,cx4⟩,rxn,rxo,rxt⟩:=rx;obtain⟨⟨n4,lN,vy,cy1,⟨SJ,SK⟩,cy4⟩,_⟩:=l7;have GG:=rxn trivial;have yF:(ey.appm d key g.size el x y).makes st=true:=by simp only[ey.makes,af]
       rw[vy,GG]at mJ;have dR:∀(v':Value) (w':World) (hx:List Value),(Builtin.append_ #[t,t] type #[.slice none 0 0,.slice n4 ys.length lN]).run P w= .ok v' w'->w'.ownsRow w.heap.size el g.size v' ys.length hx->w.grownBy w' none->dK w ν g.size ys hx->
         (⟨some d,.call ⟨.builtin .append,⟨[o',jw]⟩,⟨[t,t]⟩⟩,type,pos,after,guard⟩:Oper).wp P a w K Q:=by
        intro v' w' hx f1 f2 f3 f4;obtain⟨cV,dC⟩:=aM.newRowM (k:=κ) (xs:=ys) (.inl (aM.new _ (ve yF))) f3 f2 f4 aw.1 (cI yF);exact my (mJ _ _ f1) (c8 _ _ _ (cV.put (d:=some d) (by simpa[jD]using U) (dC (Xs f2 (by cases ys<;>simp at aw⊢)))))
       by_cases js:ys=[]
       ·subst js;exact dR _ w [] (Ir iY al none 0 0 (e7 _) n4 lN) (World.ownsRow_nil w _ _ _) (ark w _) (by simp[dK])
       ·rcases cy4 with cy4|⟨lh,nQ,hx,rfl,y2,mG⟩
        ·exact absurd cy4 js
        ·have jT:=ui mG;have sn:∀j u,hx[j]? =some u->w.cell? ((⟨lh,nQ,none⟩:Addr).add j)=some u:=fun j u ae=>by rw[pK];exact(vv y2 ae).2
         have sg:ys.length*fG.bytes<=140737488355328:=by
          have J:fG.bytes<=2048:=by rw[dh];exact pX
          have U:ys.length*fG.bytes<=ys.length*2048:=Nat.mul_le_mul_left _ J;simp only[lim]at aw;omega
         have kJ:ys.length<=maxLen:=by simp only[lim]at aw;simp only[maxLen];omega
         obtain⟨v',w',f1,f2,f3,_⟩:=run_append_own (P:=P) w w.heap.size t type el fG z fG.size fG.bytes iY al h0 rfl rfl wW (by rw[bn];exact fE) (.slice none 0 0) 0 [] (World.ownsRow_nil w _ _ _)
          ⟨lh,nQ,none⟩ ys.length lN hx (by rw[jT,bn]) sn (zn mG) (by simpa using kJ) (by simpa using sg) (e7 _)
         exact dR v' w' hx f1 (by rw[<-bn];simpa using f2) (by simpa[oI]using f3) mG
      ·cases aB
     ·split at aB
      ·split at aB
       ·split at aB<;>cases aB
       ·cases aB
      ·cases aB
     ·cases aB
    ·
     rename_i k xs ys aB;cases he;unfold tl at aB;split at aB
     ·split at aB<;>cases aB
     ·rename_i dT bT n jz k8 ara af aO;split at aB
      ·rename_i fp;obtain⟨rfl,fp⟩:=fp;subst fp;split at aB
       ·rename_i n' gh xA xs' ad;split at aB
        ·rename_i vb;obtain⟨rfl,rfl,rfl⟩:=vb;cases aB;rw[af]at rx;rw[aO]at l7;simp only[bd]at rx l7;obtain⟨⟨bx,pO,s6⟩,rxl,n0,xH,dy,fb,k7⟩:=rx;obtain⟨⟨n4,lN,vy,cy1,⟨SJ,SK⟩,cy4⟩,_⟩:=l7;obtain⟨v0,fH,bc,bE,b1,c5⟩:=aM.good.own k _ ad;rw[dy]at bc;simp only[dQ,jB]at bc bE;obtain⟨rfl,rfl⟩:=bc;have mN:a.eval o'=xH:=k7 rfl;obtain⟨df,oy,vH⟩:=c5 xs rfl;simp only at df oy;have wT:fH.length=xs.length*g.size:=by rw[df];exact bE.1
         have jq:xs.length=n0:=df;by_cases js:ys=[]
         ·subst js;rw[vy,s6]at mJ;have lR:n0<=pO:=by
           rcases bE.2 with⟨nR,zh⟩|⟨bl,cap,cur,nR,zh,BF,Nu,_⟩
           ·rw[zh];exact Nat.zero_le _
           ·rw[<-mN,s6]at nR;injection nR with _ _ e;rw[e];exact Nu
          have jc:=Ir (P:=P) (w:=w) (ty:=type) iY al (some ⟨bx,0,none⟩) n0 pO lR n4 lN;refine my (mJ _ _ (by simpa using jc)) (c8 _ _ ν ?_);have ik:∀fu,look fu (cA k ⟨n0,gh,g.size,some xs⟩ st.e)=look fu st.e:=fun fu=>by
           rw[je];split
           ·rename_i e;subst e;rw[ad]
           ·rfl
          have mL:cY C {st with e:=cA k ⟨n0,gh,g.size,some xs⟩ st.e} a w ν:=
           ⟨⟨aM.good.alt,aM.good.box,aM.good.inj,fun g o a7=>aM.good.own g o (by rw[<-ik g];exact a7),fun g fu n n' v v' bl bC a2=>aM.good.oinj g fu n n' v v' bl (by rw[<-ik g];exact bC) (by rw[<-ik fu];exact a2),
           fun g j n v bl bC=>aM.good.obx g j n v bl (by rw[<-ik g];exact bC),aM.good.one,fun bl ab=>aM.good.otr bl (ab.imp id (fun⟨g,n,v,bC,a2⟩=>⟨g,n,v,by rw[<-ik g];exact bC,a2⟩))⟩,aM.fr,aM.defers,aM.size,aM.slot,aM.new⟩
          have au:=mL.put (d:=some d) (by simpa[jD]using U) (p:= .row g.size k n0) (v:= .slice (some ⟨bx,0,none⟩) n0 pO) (by simp only[bd];exact⟨⟨_,_,rfl⟩,rxl,_,_,dy,e7 _,fun _=>by rw[<-s6];exact mN⟩)
          simpa[jq,eZ]using au
         ·have hyp:0<ys.length:=by cases ys<;>simp at js⊢
          rcases cy4 with cy4|⟨lh,nQ,hx,rfl,y2,mG⟩
          ·exact absurd cy4 js
          ·have jT:=ui mG;have sn:∀j u,hx[j]? =some u->w.cell? ((⟨lh,nQ,none⟩:Addr).add j)=some u:=fun j u ae=>by rw[pK];exact(vv y2 ae).2
           have sg:(xs.length+ys.length)*fG.bytes<=140737488355328:=by
            have lP:fG.bytes<=2048:=by rw[dh];exact pX
            have pW:(xs.length+ys.length)*fG.bytes<=(xs.length+ys.length)*2048:=Nat.mul_le_mul_left _ lP;simp only[lim]at aw;omega
           have kJ:xs.length+ys.length<=maxLen:=by simp only[lim]at aw;simp only[maxLen];omega
           have Gt:dK w ν g.size (xs++ys) (fH++hx):=Ex oy mG;rw[vy,mN]at mJ;have Dc:(∃v' w',(Builtin.append_ #[t,t] type #[xH,.slice (some ⟨lh,nQ,none⟩) ys.length lN]).run P w= .ok v' w'/\w'.ownsRow w.heap.size gh fG.size v' (xs.length+ys.length) (fH++hx)/\w.grownBy w' none)->
             (⟨some d,.call ⟨.builtin .append,⟨[o',jw]⟩,⟨[t,t]⟩⟩,type,pos,after,guard⟩:Oper).wp P a w K Q:=by
            intro cz;obtain⟨v',w',f1,f2,f3⟩:=cz;obtain⟨cV,dC⟩:=aM.newRowM (k:=k) (xs:=xs++ys) (el:=gh) (sz:=g.size) (.inr ⟨_,ad,by simp;omega⟩) f3 (by rw[<-bn];simpa using f2) Gt (by simpa using aw) (n':=st.n) (o':=st.o)
             (fun j ae=>⟨ae,fun e=>by subst e;have:=(aM.new _ ae).2.1;rw[dy]at this;cases this⟩)
            refine my (mJ _ _ f1) (c8 _ _ (ν.withOwn k (xs++ys).length v') ?_);have:=cV.put (d:=some d) (by simpa[jD]using U) (dC (by simpa using Xs f2 Ω));simpa[eZ]using this
           rcases bE.2 with⟨nR,zh⟩|⟨bl,cap,cur,nR,zh,BF,Nu,Nv,Nw,HR⟩
           ·
            have A2:xs=[]:=List.eq_nil_of_length_eq_zero Ω;have LQ:fH=[]:=List.eq_nil_of_length_eq_zero (by rw[wT,A2];simp);subst A2;subst LQ;refine Dc ?_;obtain⟨v',w',f1,f2,f3,_⟩:=run_append_own (P:=P) w w.heap.size t type gh fG z fG.size fG.bytes iY al h0 rfl rfl wW (by rw[bn];exact fE) (.slice none 0 0) 0 [] (World.ownsRow_nil w _ _ _)
             ⟨lh,nQ,none⟩ ys.length lN hx (by rw[jT,bn]) sn (zn mG) (by simpa using kJ) (by simpa using sg) (e7 _)
            exact⟨v',w',by rw[nR];exact f1,by simpa using f2,by simpa[oI]using f3⟩
           ·have o8:xH.ownBlock=some bl:=by rw[nR];rfl
            by_cases sr:xs.length+ys.length<=cap
            ·have hmul:(xs.length+ys.length)*g.size<=cap*g.size:=Nat.mul_le_mul_right _ sr;rw[qh]at hmul;have f1:=run_append_room (P:=P) w t type gh fG iY al bl xs.length cap cur BF ⟨lh,nQ,none⟩ ys.length lN hx (by rw[jT,bn]) sn (zn mG) sr (by rw[jT,bn];omega);generalize U8:(cur.toList.take (xs.length*fG.size)++hx++cur.toList.drop (xs.length*fG.size+hx.length)).toArray=uc at f1;have kK:(w.setRow bl uc).heap[bl]? =some (.cells uc gh (0,0)):=setRow_heap w bl cur uc gh _ BF;have ar:(fH++hx).length=(xs++ys).length*g.size:=by rw[pC,wT,jT,pC,qh]
             have b3:cur.toList.take (xs.length*fG.size)=fH:=by rw[jq,bn];exact HR
             have kM:uc.size=cap*g.size:=by rw[<-U8];simp only[List.size_toArray,pC,List.length_take,tc,Array.length_toList];rw[bn];omega
             have p1:uc.toList.take ((xs++ys).length*g.size)=fH++hx:=by rw[<-U8,b3];simp only[<-ar];rw[List.take_append_of_le_length (e7 _),jJ]
             obtain⟨cV,_,dC⟩:=aM.setRowM (w':=w.setRow bl uc) ad rfl dy o8 (v':= .slice (some ⟨bl,0,none⟩) (xs.length+ys.length) cap) rfl (xs':=xs++ys) (us:=fH++hx) (.inr (by simp;omega)) rfl rfl rfl (fun j ae=>setRow_other w bl j uc ae) (setRow_size w bl uc)
              ⟨ar,.inr ⟨bl,cap,uc,Ψ,Nat.zero_le _,kK,by simpa using sr,Nv,kM,p1⟩⟩ Gt
             replace dC:=dC (by simpa using aw);refine my (v:= .slice (some ⟨bl,0,none⟩) (xs.length+ys.length) cap) (w':=w.setRow bl uc) (mJ _ _ ?_) (c8 _ _ (ν.withOwn k (xs++ys).length (.slice (some ⟨bl,0,none⟩) (xs.length+ys.length) cap)) ?_)
             ·rw[nR,<-jq];exact f1
             ·have:=cV.put (d:=some d) (by simpa[jD]using U) dC;simpa[eZ]using this
            ·refine Dc ?_;obtain⟨v',w',f1,f2,f3⟩:=run_append_arg_grows (P:=P) w t type gh fG z fG.size fG.bytes iY al h0 rfl rfl wW (by rw[bn];exact fE) ⟨bl,0,none⟩ xs.length cap fH (by rw[wT,bn])
              (fun j u ae=>by have:=bE.cells o8 j u ae;exact this) ⟨lh,nQ,none⟩ ys.length lN hx (by rw[jT,bn]) sn Ω kJ sg
             exact⟨v',w',by rw[nR,<-jq];exact f1,f2,f3⟩
        ·cases aB
       ·cases aB
      ·cases aB
     ·cases aB
    ·cases he
   ·cases b3
  ·cases a6
 ·rename_i sz x y t o' jw;simp only[cC,dV]at ay;obtain⟨⟨⟨J,U⟩,au⟩,a6⟩:=ay;subst J;split at U
  ·rename_i f aJ;simp only[dV]at U;simp only[eJ]at he;generalize LB:cv st.t x=px at he;unfold rG at he;split at he
   ·rename_i dT k n i tw;split at he
    ·rename_i n' el jz xs ad;split at he
     ·rename_i Dn;obtain⟨rfl,rfl⟩:=Dn;split at he
      ·rename_i q bm;cases he;obtain⟨ie,bK,cq,da,hT⟩:=aw;have rx:=ev aM au;rw[LB]at rx;have l7:=ev aM a6;have vL:=vM l7 bK;have vQ:=qb vL;obtain⟨_,en⟩:=vX aN aJ w;have vm:(a.eval jw).cells.size=sz:=by rw[cq]at vQ;simpa using vQ
       obtain⟨bl,off,mF,Ds,cR,bt,qu⟩:=aM.storeRow (P:=P) ad rx bm ie vL (by simpa[vm]using da) (fun e=>by have:=e2 List.length e;simp[vm]at this;omega);refine E5 (w':=w.setRow bl mF) ?_ (c8 _ _ _ qu);simp only[execOp,Instr.storeAt,Ds,Instr.sureAddr,storeVar,fT,gJ,fX,en,vm,U,ne_eq,not_true_eq_false,if_false,cR]
      ·cases he
     ·cases he
    ·cases he
   ·cases he
  ·cases U
 ·rename_i d key sz el z x t o' jw;simp only[cC,dV,fc]at ay;obtain⟨⟨⟨⟨⟨J,U⟩,au⟩,a6⟩,b3⟩,c7⟩:=ay;subst J;split at au
  ·rename_i gh aJ;simp only[dV]at au;subst au;split at a6
   ·rename_i g a7;simp only[cC,dV,fc]at a6;obtain⟨⟨⟨rfl,fE⟩,pX⟩,bp⟩:=a6;obtain rfl:=Pn bp;have rx:=ev aM b3;have l7:=ev aM c7;simp only[eJ]at he;split at he
    ·rename_i eR n af;cases he;obtain⟨ah3,jT⟩:=aw;obtain⟨m,rfl⟩:=Int.eq_ofNat_of_zero_le ah3;rw[af]at rx l7;simp only[bd]at rx l7;obtain⟨fG,cj,b5,al,aE,bn,dh,hq,h0,rY,rZ⟩:=(vY aN a7).ex;obtain⟨eV,iY,e8⟩:=jh aN aJ;obtain rfl:=ts e8;have kJ:m<=lim:=by simp only[lim]at jT⊢;omega
     have sg:fG.bytes*m<=281474976710656:=by have J:fG.bytes*m<=2048*m:=Nat.mul_le_mul_right _ Ω;simp only[lim]at kJ;omega
     obtain⟨aip,ahq⟩:=Pm w ν rY;obtain⟨w',g1,g2,g3⟩:=run_make_full (P:=P) w w.heap.size t el fG b5 fG.size iY al h0 rfl eR eR m sg (by simp only[maxLen];simp only[lim]at kJ;omega) (e7 _);have lT:w'.ownsRow w.heap.size el g.size (.slice (some ⟨w.heap.size,0,none⟩) m m) (rP m g.zero).length (madeCells b5.cells (m*b5.cells.size)).toList:=by rw[bn,<-rZ]at g2;rw[List.length_replicate,<-rZ];exact g2
     obtain⟨dy,fb⟩:=aM.newRowM (k:=κ) (xs:=rP m g.zero) (.inl (aM.new _ (ve rfl))) g3 lT (by rw[<-rZ];exact Ws aip Ω (BS ahq) m) (by simpa using kJ) (cI rfl);simp only[List.length_replicate]at dy fb;simp only[Int.toNat_natCast]at c8;refine my (v:= .slice (some ⟨w.heap.size,0,none⟩) m m) (w':=w') ?_ (c8 _ _ _ (dy.put (d:=some d) (by simpa[jD]using U) (p:= .row g.size κ m) (fb ⟨_,_,rfl⟩)));simp only[execOp];refine E0 ?_;rw[rx,l7];exact g1
    ·cases he
   ·cases a6
  ·cases au
 ·cases ay
theorem aot{P:cG}{bG:List (Nat×dH)}(aN:fS P bG=true){C:ft}{st st':br}{a:Act}{w:World}{ν:bg}(aM:cY C st a w ν){i:ey}{o:Oper}(ay:EF C.N bG i o=true)
  {c:Prop} (he:mv st i=some (c,st')) (aw:c) {K:Act->World->Prop} {Q:Exit->Act->World->Prop} (c8:∀bq w' bt,cY C st' bq w' bt->K bq w'):o.wp P a w K Q:=by
 have o5:qA st none->fresh st.n st.o (.loc st.n):=fun h=>xe (key:=none) h;have fD:∀j,fresh (st.n+1) st.o j->fresh st.n st.o j/\j≠ .loc st.n:=xf (key:=none);cases i with
 |v d i=>exact j2 (κ:= .loc 0) (n':=0) (o₁:=[]) aN aM ay (fun h=>by simp[ey.makes]at h) (fun h=>by simp[ey.makes]at h) (by simpa only[mv,eJ]using he) aw c8
 |box d key x=>simp only[mv]at he;cases he;exact j2 (κ:=j0 st key) (n':=nO st key) (o₁:=nP st key) aN aM ay (fun _=>xe aw.1) (fun _=>xf) (by simp only[eJ]) aw.2 c8
 |alloc d key z=>simp only[mv]at he;cases he;exact j2 (κ:=j0 st key) (n':=nO st key) (o₁:=nP st key) aN aM ay (fun _=>xe aw) (fun _=>xf) (by simp only[eJ]) trivial c8
 |mks d key sz el z x=>
  simp only[mv]at he;split at he
  ·rename_i eR n af;cases he;exact j2 (κ:=j0 st key) (n':=nO st key) (o₁:=nP st key) aN aM ay (fun _=>xe aw.1) (fun _=>xf) (by simp only[eJ,af]) aw.2 c8
  ·cases he
 |storeE sz x y=>exact j2 (κ:= .loc 0) (n':=0) (o₁:=[]) aN aM ay (fun h=>by simp[ey.makes]at h) (fun h=>by simp[ey.makes]at h) (by simpa only[mv,eJ]using he) aw c8
 |store sz x y=>exact j2 (κ:= .loc 0) (n':=0) (o₁:=[]) aN aM ay (fun h=>by simp[ey.makes]at h) (fun h=>by simp[ey.makes]at h) (by simpa only[mv,eJ]using he) aw c8
 |bsl d sz el xs=>simp only[mv]at he;cases he;exact j2 (κ:= .loc st.n) (n':=st.n+1) (o₁:=st.o) aN aM ay (fun _=>o5 aw.1) (fun _=>fD) (by simp only[eJ]) aw.2 c8
 |bslm d key sz el xs=>simp only[mv]at he;cases he;exact j2 (κ:=j0 st key) (n':=nO st key) (o₁:=nP st key) aN aM ay (fun _=>xe aw.1) (fun _=>xf) (by simp only[eJ]) aw.2 c8
 |appm d key sz el x y=>
  simp only[mv]at he;split at he
  ·rename_i ys aB;cases he;exact j2 (κ:=j0 st key) (n':=nO st key) (o₁:=nP st key) aN aM ay (fun _=>xe aw.1) (fun _=>xf) (by simp only[eJ,aB]) aw.2 c8
  ·rename_i k xs ys aB;cases he;refine j2 (κ:= .loc 0) (n':=0) (o₁:=[]) aN aM ay (fun h=>?_) (fun h=>?_) (by simp only[eJ,aB]) aw c8;all_goals
    exfalso
    simp only[ey.makes]at h
    split at h
    ·rename_i af
     unfold tl at aB
     rw[af]at aB
     split at aB
     ·split at aB<;>cases aB
     ·rename_i J _;cases J
     ·cases aB
    ·cases h
  ·cases he
 |mkmap d key=>simp only[mv]at he;cases he;exact j2 (κ:=j0 st key) (n':=nO st key) (o₁:=nP st key) aN aM ay (fun _=>xe aw) (fun _=>xf) (by simp only[eJ]) trivial c8
 |mput ck x k v=>exact j2 (κ:= .loc 0) (n':=0) (o₁:=[]) aN aM ay (fun h=>by simp[ey.makes]at h) (fun h=>by simp[ey.makes]at h) (by simpa only[mv,eJ]using he) aw c8
 |range d key x=>
  simp only[mv]at he;split at he
  ·rename_i m af;split at he
   ·rename_i cs dw;split at he
    ·rename_i cs' hm;cases he;exact j2 (κ:=j0 st key) (n':=nO st key) (o₁:=nP st key) aN aM ay (fun _=>xe aw) (fun _=>xf) (by simp only[eJ,af,dw,hm]) trivial c8
    ·cases he
   ·cases he
  ·cases he
 |app d sz el x y=>
  simp only[mv]at he;split at he
  ·rename_i dT tag xs jz k8 ys af aO;split at he
   ·rename_i fp;split at he
    ·rename_i k;split at he
     ·rename_i ow ad;cases he;refine j2 (κ:= .loc 0) (n':=0) (o₁:=[]) aN aM ay (fun h=>by simp[ey.makes,af]at h) (fun h=>by simp[ey.makes,af]at h) ?_ aw c8;simp only[eJ,af,aO,fp,and_self,if_true,ad]
     ·cases he
    ·cases he;refine j2 (κ:= .loc st.n) (n':=st.n+1) (o₁:=st.o) aN aM ay (fun _=>o5 aw.1) (fun _=>fD) ?_ aw.2 c8;simp only[eJ,af,aO,fp,and_self,if_true]
    ·cases he
   ·cases he
  ·cases he
structure cH where
 b:List (aI×List ai)
 e:List (aI×fY)
def fK(ν:bg)(s:cH)(bl:Nat):Prop:=(∃k,(look k s.b).isSome/\ν.bx k=some bl)\/(∃g n v,(look g s.e).isSome/\ν.ow g=some (n,v)/\v.ownBlock=some bl)
def pT(ν:bg)(s:cH):Prop:= ∀k,(look k s.b=none->ν.bx k=none)/\(look k s.e=none->ν.ow k=none)/\∀j b,¬ν.tr k j b
def c1(s:cH):List aI:=s.b.map (·.1)++s.e.map (·.1)
def jf(s:cH):Prop:=(∀m,look (.loc m) s.b=none)/\(∀m,look (.loc m) s.e=none)
def xO(P:cG)(f:FuncId)(bf:Array Value)(w:World)(R:Ending->World->Prop):Prop:=((∃fn,P.funcs[f]? =some fn/\fn.body.isSome=true/\(fn.name== "runtime.NumGoroutine")=false)/\Calls P f bf w R)\/ ∃v w',(callFunc f bf).run P w= .ok (.value v) w'/\R (.returned v) w'
def bH(P:cG)(f:FuncId)(args:List ai)(s:cH)(Q:ai->cH->Prop):Prop:=
 ∀(w:World) (ν:bg) (bf:Array Value),Good (fK ν s) w ν s.b s.e->pT ν s->cW w ν args bf.toList->
  xO P f bf w fun e w'=> ∃v r ah bt,e= .returned v/\Q r ah/\bd w' bt r v/\Good (fun bl=>fK ν s bl\/w.heap.size<=bl) w' bt ah.b ah.e/\pT bt ah/\jf ah/\qR ⟨w,ν,fK ν s,0,c1 s⟩ w' bt
def F4(κ:ba Nat)(ν:bg)(s:cH):Prop:= ∀k,(look k s.b=none->ν.bx k=none)/\(look k s.e=none->ν.ow k=none)/\∀j b,ν.tr k j b->∃m,κ=some m/\k= .loc m
theorem pT.k{ν:bg}{s:cH}(h:pT ν s):F4 none ν s:=fun k=>⟨(h k).1,(h k).2.1,fun j b ab=>absurd ab ((h k).2.2 j b)⟩
def I5(P:cG)(f:FuncId)(κ:Nat)(args:List ai)(s:cH)(Q:ai->cH->Prop):Prop:=
 ∀(w:World) (ν:bg) (bf:Array Value),Good (fK ν s) w ν s.b s.e->pT ν s->cW w ν args bf.toList->
  xO P f bf w fun e w'=> ∃v r ah bt,e= .returned v/\Q r ah/\bd w' bt r v/\Good (fun bl=>fK ν s bl\/w.heap.size<=bl) w' bt ah.b ah.e/\F4 (some κ) bt ah/\jf ah/\qR ⟨w,ν,fK ν s,0,c1 s⟩ w' bt
def bF(P:cG)(f:FuncId)(args:List ai)(r:ai):Prop:=bH P f args ⟨[],[]⟩ fun eT ah=>eT=r/\ah=⟨[],[]⟩
theorem tY{α:Type}{k:aI}{x:α}:∀{l:List (aI×α)},look k l=some x->(k,x)∈l
 |[],h=>by simp[look]at h
 |(i,y)::r,h=>by
  simp only[look]at h;split at h
  ·rename_i e;subst e;cases h;simp
  ·exact oL _ (tY h)
theorem ud{s:cH}{k:aI}(h:(look k s.b).isSome\/(look k s.e).isSome):k∈c1 s:=by
 unfold c1;rcases h with h|h<;>obtain⟨x,af⟩:=fU.1 h<;>have:=tY af
 ·exact List.mem_append_left _ (hB.2 ⟨_,this,rfl⟩)
 ·exact List.mem_append_right _ (hB.2 ⟨_,this,rfl⟩)
section
open Classical
noncomputable def bg.cut(ν:bg)(S:aI->Prop):bg:={A:=ν.A,bx:=fun k=>if S k then ν.bx k else none,ow:=fun k=>if S k then ν.ow k else none,tr:=fun k j b=>S k/\ν.tr k j b}
theorem bg.cut_bx{ν:bg}{S:aI->Prop}{k:aI}(h:S k):(ν.cut S).bx k=ν.bx k:=by simp[bg.cut,h]
theorem bg.cut_ow{ν:bg}{S:aI->Prop}{k:aI}(h:S k):(ν.cut S).ow k=ν.ow k:=by simp[bg.cut,h]
theorem bg.cut_no{ν:bg}{S:aI->Prop}{k:aI}(h:¬S k):(ν.cut S).bx k=none/\(ν.cut S).ow k=none/\∀j b,¬(ν.cut S).tr k j b:=by simp[bg.cut,h]
theorem bg.cut_some{ν:bg}{S:aI->Prop}{k:aI}{b:Nat}(h:(ν.cut S).bx k=some b):S k/\ν.bx k=some b:=by
 by_cases ag:S k
 ·exact⟨ag,by rw[bg.cut_bx ag]at h;exact h⟩
 ·rw[(bg.cut_no ag).1]at h;cases h
theorem bg.cut_someO{ν:bg}{S:aI->Prop}{k:aI}{b:Nat×Value}(h:(ν.cut S).ow k=some b):S k/\ν.ow k=some b:=by
 by_cases ag:S k
 ·exact⟨ag,by rw[bg.cut_ow ag]at h;exact h⟩
 ·rw[(bg.cut_no ag).2.1]at h;cases h
theorem pI.cut(S:aI->Prop)(w:World)(ν:bg):pI S w ν w (ν.cut S):=⟨fun _ _ h=>⟨h,rfl⟩,fun k b ad h=>by rw[bg.cut_bx ad];exact h,fun g n u a7 h=>⟨n,u,by rw[bg.cut_ow a7];exact h,.inl ⟨rfl,rfl⟩⟩,fun _ _ _=>rfl,fun _ _ _ ad h=>⟨ad,h⟩⟩
end
def gY(S:aI->Prop)(cb b:List (aI×List ai)):Prop:= ∀k cs,look k cb=some cs->look k b=some cs/\S k/\aH S cs
def pj(S:aI->Prop)(ff e:List (aI×fY)):Prop:= ∀k o,look k ff=some o->look k e=some o/\S k/\dW S o
theorem Good.cut{pr Eo:Nat->Prop}{w:World}{ν:bg}{b cb:List (aI×List ai)}{e ff:List (aI×fY)}(h:Good pr w ν b e){S:aI->Prop}(ab:gY S cb b)(he:pj S ff e)
  (UT:∀bl,pr bl->(∃k,(look k cb).isSome/\(ν.cut S).bx k=some bl)\/(∃g n v,(look g ff).isSome/\(ν.cut S).ow g=some (n,v)/\v.ownBlock=some bl)->Eo bl):Good Eo w (ν.cut S) cb ff:=by
 have Gs:∀k,(look k cb).isSome->(look k b).isSome/\S k:=fun k ad=>by obtain⟨cs,dw⟩:=fU.1 ad;have:=ab k cs dw;exact⟨by simp[this.1],this.2.1⟩
 have Gu:∀k,(look k ff).isSome->(look k e).isSome/\S k:=fun k ad=>by obtain⟨cs,dw⟩:=fU.1 ad;have:=he k cs dw;exact⟨by simp[this.1],this.2.1⟩
 refine⟨h.alt,fun k cs ad=>?_,fun k bT bl J U au a6=>?_,fun g o a7=>?_,fun g fu n n' v v' bl J U au a6 b3 c7=>?_,fun g k n v bl J U au a6 b3=>?_,fun k=>?_,fun bl aN k j ae=>?_⟩
 ·obtain⟨g1,g2,g3⟩:=ab k cs ad;obtain⟨bl,us,el,f1,f2,f3,f4,f5⟩:=h.box k cs g1;have hI:(ν.cut S).bx k=some bl:=by rw[bg.cut_bx g2];exact f1
  exact⟨bl,us,el,hI,UT bl f2 (.inl ⟨k,by simp[ad],hI⟩),f3,f4,YA (pI.cut S w ν) g3 f5⟩
 ·obtain⟨bC,a2⟩:=Gs k J;obtain⟨ch,ca⟩:=Gs bT U;exact h.inj k bT bl bC ch (bg.cut_some au).2 (bg.cut_some a6).2
 ·obtain⟨g1,g2,g3⟩:=he g o a7;obtain⟨v,us,f1,f2,f3,f4⟩:=h.own g o g1;have Dq:(ν.cut S).ow g=some (o.n,v):=by rw[bg.cut_ow g2];exact f1
  exact⟨v,us,Dq,f2,fun bl e4=>⟨UT bl (f3 bl e4).1 (.inr ⟨g,o.n,v,by simp[a7],Dq,e4⟩),(f3 bl e4).2⟩,
   fun xs af=>⟨(f4 xs af).1,Ig (pI.cut S w ν) _ _ _ (g3 xs af) (f4 xs af).2.1,(f4 xs af).2.2⟩⟩
 ·obtain⟨bC,a2⟩:=Gu g J;obtain⟨ch,ca⟩:=Gu fu U;exact h.oinj g fu n n' v v' bl bC ch (bg.cut_someO au).2 (bg.cut_someO a6).2 b3 c7
 ·obtain⟨bC,a2⟩:=Gu g J;obtain⟨ch,ca⟩:=Gs k U;exact h.obx g k n v bl bC ch (bg.cut_someO au).2 a6 (bg.cut_some b3).2
 ·by_cases ag:S k
  ·rw[bg.cut_bx ag,bg.cut_ow ag];exact h.one k
  ·exact .inl (bg.cut_no ag).1
 ·refine h.otr bl ?_ k j ae.2;rcases aN with⟨bT,bC,a2⟩|⟨g,n,v,bC,a2,a3⟩
  ·exact .inl ⟨bT,(Gs bT bC).1,(bg.cut_some a2).2⟩
  ·exact .inr ⟨g,n,v,(Gu g bC).1,(bg.cut_someO a2).2,a3⟩
structure iU (ob:List aI) (st st':br):Prop where
 t:∀x∈st'.t,get x.1 st.t=x.2/\aD (fun k=> ¬fresh st'.n st'.o k) x.2
 b:gY (fun k=> ¬fresh st'.n st'.o k) st'.b st.b
 e:pj (fun k=> ¬fresh st'.n st'.o k) st'.e st.e
 o:∀m∈ob,m∈st'.o
theorem TW:∀(i:Nat) (l:List (Nat×ai)),get i l= .junk\/(i,get i l)∈l
 |_,[]=>.inl rfl
 |i,(j,p)::r=>by
  by_cases h:j=i
  ·subst h;right;simp[get]
  ·rcases TW i r with J|J
   ·left;simp[get,h,J]
   ·right;simp[get,h];right;exact J
theorem cY.weaker{C:ft}{st st':br}{a:Act}{w:World}{ν:bg}(h:cY C st a w ν)(hw:iU C.ob st st'):cY C st' a w (ν.cut fun k=> ¬fresh st'.n st'.o k):=by
 refine⟨h.good.cut hw.b hw.e (fun bl bB _=>bB),⟨h.fr.os,h.fr.tape,h.fr.output,h.fr.size,h.fr.block,h.fr.keep,h.fr.fresh,fun n b ab=>?_,h.fr.obn,fun m n u hm=>?_,h.fr.obr,fun k j bT dP b J U=>h.fr.trd k j bT dP b J.2 U.2,fun k j b ab=>h.fr.trb k j b ab.2,fun k j b ab=>?_,h.fr.sh⟩,h.defers,h.size,fun i=>?_,fun k ad=>bg.cut_no (fun ax=>ax ad)⟩
 ·rw[bg.cut_bx (fun cz=>cz.2 (hw.o _ (h.fr.obn n b ab)))];exact h.fr.obj n b ab
 ·rw[bg.cut_ow (fun cz=>cz.2 (hw.o _ (h.fr.obr m n u hm)))];exact h.fr.row m n u hm
 ·rw[bg.cut_bx ab.1,bg.cut_ow ab.1];exact h.fr.trn k j b ab.2
 ·rcases TW i st'.t with ae|hm
  ·rw[ae];simp[bd]
  ·obtain⟨J,U⟩:=hw.t _ hm;simp only at J;have:=h.slot i;rw[J]at this;exact vN (pI.cut _ w ν) _ _ U this
mutual
def dt:ai->ai
 | .slice sz _ xs=>.slice sz .no (c2 xs)
 | .agg cs=>.agg (c2 cs)
 | .tuple bf=>.tuple (c2 bf)
 | .eptr x=>.eptr (dt x)
 | .iface t x=>.iface t (dt x)
 | .func f dg=>.func f (c2 dg)
 |p=>p
def c2:List ai->List ai
 |[]=>[]
 |x::xs=>dt x::c2 xs
end
theorem vV:∀xs,(c2 xs).length=xs.length
 |[]=>rfl
 |x::xs=>by simp[c2,vV xs]
mutual
theorem KL{t:Bool}{w:World}{A:Nat->Nat->Prop}:∀(p:ai) (F:Nat->Prop) (v:Value),gm t w A F p v->gm t w A F (dt p) v
 | .int _ _,_,_,h=>by simpa only[dt]using h
 | .bool _,_,_,h=>by simpa only[dt]using h
 | .str _,_,_,h=>by simpa only[dt]using h
 | .slice sz tag xs,F,v,h=>by
  simp only[gm,dt]at h⊢;obtain⟨a,cap,J,U,au,a6⟩:=h;refine⟨a,cap,by rw[vV];exact J,by rw[vV];exact U,by rw[vV];exact au,?_⟩;rcases a6 with rfl|⟨b,off,us,G,al,aE,bn,dh,hq,h0⟩
  ·exact .inl rfl
  ·exact .inr ⟨b,off,us,G,al,aE,bn,dh,hq,TH sz xs G us h0⟩
 | .agg cs,F,v,h=>by simp only[gm,dt]at h⊢;obtain⟨us,J,U⟩:=h;exact⟨us,J,TI cs F _ U⟩
 | .junk,_,_,h=>by simp[gm]at h
 | .ptr _ _,_,_,h=>by simp[gm]at h
 | .eptr _,_,_,h=>by simp[gm]at h
 | .iface _ _,_,_,h=>by simp[gm]at h
 | .nilp,_,_,h=>by simp[gm]at h
 | .tuple _,_,_,h=>by simp[gm]at h
 | .func _ _,_,_,h=>by simp[gm]at h
 | .gmap _,_,_,h=>by simp[gm]at h
 | .row _ _ _,_,_,h=>by simp[gm]at h
 | .rptr _ _ _ _ _,_,_,h=>by simp[gm]at h
 | .hdm _ _,_,_,h=>by simp[gm]at h
 | .hdi _ _ _,_,_,h=>by simp[gm]at h
 | .cst _,_,_,h=>by simp[gm]at h
theorem TI{t:Bool}{w:World}{A:Nat->Nat->Prop}:∀(cs:List ai) (F:Nat->Prop) (us:List Value),u6 t w A F cs us->u6 t w A F (c2 cs) us
 |[],_,_,h=>by simpa only[c2]using h
 |c::cs,F,us,h=>by simp only[u6,c2]at h⊢;obtain⟨u,ct,ir,iE,J,U,⟨b3,c7⟩,et⟩:=h;exact⟨u,ct,ir,iE,J,U,⟨KL c ir u b3,c7⟩,TI cs iE ct et⟩
theorem TH{t:Bool}{w:World}{A:Nat->Nat->Prop}(sz:Nat):∀(cs:List ai) (F:Nat->Prop) (us:List Value),u5 t w A F sz cs us->u5 t w A F sz (c2 cs) us
 |[],_,_,h=>by simpa only[c2]using h
 |c::cs,F,us,h=>by simp only[u5,c2]at h⊢;obtain⟨u,ct,ir,iE,J,U,⟨b3,c7⟩,et⟩:=h;exact⟨u,ct,ir,iE,J,U,⟨KL c ir u b3,c7⟩,TH sz cs iE ct et⟩
end
theorem TG{t:Bool}{w:World}{A:Nat->Nat->Prop}{F:Nat->Prop}{sz:Nat}{tag:Cn}(k8:Cn){xs:List ai}(v:Value)(h:gm t w A F (.slice sz tag xs) v):gm t w A F (.slice sz k8 (c2 xs)) v:=by have:=KL _ F v h;simp only[dt,gm]at this⊢;exact this
mutual
theorem zr{w:World}{ν:bg}:∀(p:ai) (v:Value),bd w ν p v->bd w ν (dt p) v
 | .junk,_,h=>by simpa only[dt]using h
 | .int k n,_,h=>by simpa only[dt]using h
 | .bool b,_,h=>by simpa only[dt]using h
 | .str s,_,h=>by simpa only[dt]using h
 | .slice sz tag xs,v,h=>by
  simp only[bd,dt]at h⊢;obtain⟨⟨a,cap,J,U,au,a6⟩,b3,c7⟩:=h;refine⟨⟨a,cap,by rw[vV];exact J,by rw[vV];exact U,by rw[vV];exact au,?_⟩,fun e=>(by cases e),fun g e=>(by cases e),fun _ _ e=>(by cases e),fun _ e=>(by cases e)⟩;rcases a6 with rfl|⟨b,off,us,a6,c7,et⟩
  ·exact .inl rfl
  ·exact .inr ⟨b,off,us,a6,c7,YD sz xs us et⟩
 | .agg cs,v,h=>by simp only[bd,dt]at h⊢;obtain⟨us,J,U⟩:=h;exact⟨us,J,YH cs _ U⟩
 | .ptr key off,v,h=>by simpa only[dt]using h
 | .iface t x,v,h=>by simp only[bd,dt]at h⊢;obtain⟨u,J,U⟩:=h;exact⟨u,J,zr x u U⟩
 | .eptr x,v,h=>by simp only[bd,dt]at h⊢;obtain⟨b,off,u,J,U,au⟩:=h;exact⟨b,off,u,J,zr x u U,au⟩
 | .nilp,_,h=>by simpa only[dt]using h
 | .tuple bf,v,h=>by simp only[bd,dt]at h⊢;obtain⟨us,J,U⟩:=h;exact⟨us,J,Io bf _ U⟩
 | .func f dg,v,h=>by simp only[bd,dt]at h⊢;obtain⟨us,J,U⟩:=h;exact⟨us,J,Io dg _ U⟩
 | .gmap key,v,h=>by simpa only[dt]using h
 | .row _ _ _,v,h=>by simpa only[dt]using h
 | .rptr _ _ _ _ _,v,h=>by simpa only[dt]using h
 | .cst _,v,h=>by simpa only[dt]using h
theorem YH{w:World}{ν:bg}:∀(cs:List ai) (us:List Value),dc w ν cs us->dc w ν (c2 cs) us
 |[],_,h=>by simpa only[c2]using h
 |c::cs,us,h=>by simp only[dc,c2]at h⊢;obtain⟨u,ct,J,U,au⟩:=h;exact⟨u,ct,J,⟨zr c u U.1,U.2⟩,YH cs ct au⟩
theorem Io{w:World}{ν:bg}:∀(cs:List ai) (us:List Value),cW w ν cs us->cW w ν (c2 cs) us
 |[],_,h=>by simpa only[c2]using h
 |c::cs,us,h=>by simp only[cW,c2]at h⊢;obtain⟨u,ct,J,U,au⟩:=h;exact⟨u,ct,J,zr c u U,Io cs ct au⟩
theorem YD{w:World}{ν:bg}(sz:Nat):∀(xs:List ai) (us:List Value),dK w ν sz xs us->dK w ν sz (c2 xs) us
 |[],_,h=>by simpa only[c2]using h
 |x::xs,us,h=>by simp only[dK,c2]at h⊢;obtain⟨u,ct,J,⟨U,au,a6⟩,b3⟩:=h;exact⟨u,ct,J,⟨zr x u U,au,a6⟩,YD sz xs ct b3⟩
end
def inObs(s:cH)(k:aI):Prop:=(look k s.b).isSome=true\/(look k s.e).isSome=true
def cl{α β:Type}(s:List (aI×β)):List (aI×α)->List (aI×α)
 |[]=>[]
 |(k,x)::r=>match look k s with
  |some _=>cl s r
  |none=>(k,x)::cl s r
theorem vz{α β:Type}(s:List (aI×β))(k:aI):∀l:List (aI×α),look k (cl s l)=if(look k s).isSome then none else look k l
 |[]=>by simp[cl,look]
 |(i,x)::r=>by
  simp only[cl];by_cases e:i=k
  ·subst e;cases h:look i s with
   |some y=>simp[vz s i r,h]
   |none=>simp[look]
  ·cases h:look i s with
   |some y=>simp[vz s k r,look,e]
   |none=>simp[look,e,vz s k r]
theorem y0{α:Type}(k:aI):∀l aZ:List (aI×α),look k (l++aZ)=match look k l with|some x=>some x|none=>look k aZ
 |[],aZ=>by simp[look]
 |(i,x)::r,aZ=>by
  by_cases e:i=k
  ·simp[look,e]
  ·simp[look,e,y0 k r aZ]
def after(st:br)(s ah:cH)(d:ba Nat)(r:ai):br:={t:=eZ d r st.t,b:=cl s.b st.b++ah.b,e:=cl s.e st.e++ah.e,n:=st.n,o:=st.o++c1 ah}
section
open Classical
noncomputable def bg.join(ν bt:bg)(s ah:cH):bg:={A:=bt.A,bx:=fun k=>if(look k s.b).isSome\/(look k ah.b).isSome then bt.bx k else ν.bx k,ow:=fun k=>if(look k s.e).isSome\/(look k ah.e).isSome then bt.ow k else ν.ow k,tr:=fun k j b=>ν.tr k j b\/bt.tr k j b}
end
theorem cY.callK{C:ft}{st:br}{a:Act}{w w':World}{ν bt:bg}(h:cY C st a w ν){s ah:cH}(ab:gY (inObs s) s.b st.b)(he:pj (inObs s) s.e st.e)(vk:jf s)
  (a7:Good (fun bl=>fK (ν.cut (inObs s)) s bl\/w.heap.size<=bl) w' bt ah.b ah.e) {κ:ba Nat} (af:F4 κ bt ah) (aiN:∀m,κ=some m->ν.bx (.loc m)=none/\ν.ow (.loc m)=none/\∀j b,¬ν.tr (.loc m) j b) {n':Nat} {o':List aI} (cI:∀k,fresh n' o' k->fresh st.n (st.o++c1 ah) k/\∀m,κ=some m->k≠ .loc m) (tJ:jf ah) (aJ:qR ⟨w,ν.cut (inObs s),fK (ν.cut (inObs s)) s,0,c1 s⟩ w' bt)
  (Lu:∀m,(look (.obj m) ah.b).isSome->(look (.obj m) s.b).isSome\/ .obj m∉st.o) (cM:∀m,(look (.obj m) ah.e).isSome->(look (.obj m) s.e).isSome\/ .obj m∉st.o) (d:ba Nat) (aR:jD C.N d=true) {r:ai} {v:Value} (aM:bd w' bt r v):
  cY C {after st s ah d r with n:=n',o:=o'} (a.put d v) w' (ν.join bt s ah):=by
 have lu:∀k,(look k s.b).isSome->(look k st.b).isSome:=fun k ad=>by obtain⟨cs,dw⟩:=fU.1 ad;simp[(ab k cs dw).1]
 have lU:∀k,(look k s.e).isSome->(look k st.e).isSome:=fun k ad=>by obtain⟨cs,dw⟩:=fU.1 ad;simp[(he k cs dw).1]
 have ah7:∀k,(look k ah.b).isSome->¬(look k s.b).isSome->ν.bx k=none:=fun k ad ax=>by
  cases k with
  |loc m=>rw[tJ.1 m]at ad;cases ad
  |obj m=>exact(h.new (.obj m) ⟨trivial,(Lu m ad).resolve_left ax⟩).1
 have ah8:∀k,(look k ah.e).isSome->¬(look k s.e).isSome->ν.ow k=none:=fun k ad ax=>by
  cases k with
  |loc m=>rw[tJ.2 m]at ad;cases ad
  |obj m=>exact(h.new (.obj m) ⟨trivial,(cM m ad).resolve_left ax⟩).2.1
 have ajh:∀k,(look k s.b).isSome->(ν.join bt s ah).bx k=bt.bx k:=fun k ad=>by simp[bg.join,ad]
 have Vw:∀k,(look k ah.b).isSome->(ν.join bt s ah).bx k=bt.bx k:=fun k ad=>by simp[bg.join,ad]
 have Vx:∀k,ν.bx k≠none->¬(look k s.b).isSome->(ν.join bt s ah).bx k=ν.bx k:=fun k J U=>by have au:¬(look k ah.b).isSome:=fun au=>J (ah7 k au U);simp[bg.join,U,au]
 have aji:∀k,(look k s.e).isSome->(ν.join bt s ah).ow k=bt.ow k:=fun k ad=>by simp[bg.join,ad]
 have L7:∀k,(look k ah.e).isSome->(ν.join bt s ah).ow k=bt.ow k:=fun k ad=>by simp[bg.join,ad]
 have L8:∀k,ν.ow k≠none->¬(look k s.e).isSome->(ν.join bt s ah).ow k=ν.ow k:=fun k J U=>by have au:¬(look k ah.e).isSome:=fun au=>J (ah8 k au U);simp[bg.join,U,au]
 have aao:∀k b,bt.bx k=some b->(look k ah.b).isSome:=fun k b ad=>by
  cases ar:look k ah.b with
  |some _=>rfl
  |none=>rw[(af k).1 ar]at ad;cases ad
 have aap:∀k b,bt.ow k=some b->(look k ah.e).isSome:=fun k b ad=>by
  cases ar:look k ah.e with
  |some _=>rfl
  |none=>rw[(af k).2.1 ar]at ad;cases ad
 have ay:lK w ν w' (ν.join bt s ah):=by
  refine⟨fun b o bk=>aJ.keep b o bk,fun k b _ ad=>?_,fun g n u _ a7=>?_,fun b o bk=>aJ.sh b o bk,fun _ _ _ _ h=>.inl h⟩
  ·by_cases ag:(look k s.b).isSome
   ·rw[ajh k ag];cases k with
    |loc m=>rw[vk.1 m]at ag;cases ag
    |obj m=>exact aJ.obj m b (by rw[bg.cut_bx (.inl ag)];exact ad)
   ·rw[Vx k (by rw[ad];simp) ag];exact ad
  ·by_cases ag:(look g s.e).isSome
   ·rw[aji g ag];cases g with
    |loc m=>rw[vk.2 m]at ag;cases ag
    |obj m=>exact aJ.row m n u (by rw[bg.cut_ow (.inr ag)];exact a7)
   ·rw[L8 g (by rw[a7];simp) ag];exact⟨n,u,a7,.inl ⟨rfl,rfl⟩⟩
 have h2:lK w' bt w' (ν.join bt s ah):=⟨fun b o bk=>⟨bk,rfl⟩,fun k b _ ad=>by rw[Vw k (aao k b ad)];exact ad,fun g n u _ ad=>⟨n,u,by rw[L7 g (aap g _ ad)];exact ad,.inl ⟨rfl,rfl⟩⟩,fun _ _ _=>rfl,fun _ _ _ _ h=>.inr h⟩
 have q7:∀bl,fK (ν.cut (inObs s)) s bl->C.pr bl/\bl<w.heap.size:=by
  intro bl e4;rcases e4 with⟨k,J,U⟩|⟨g,n,u,J,U,au⟩
  ·have a6:=(bg.cut_some U).2;obtain⟨cs,dw⟩:=fU.1 (lu k J);obtain⟨iI,us,el,g1,g2,_⟩:=h.good.box k cs dw;rw[a6]at g1;cases g1;exact⟨g2,h.good.boxLt dw a6⟩
  ·have a6:=(bg.cut_someO U).2;obtain⟨o,GH⟩:=fU.1 (lU g J);obtain⟨v',us,g1,g2,g3,_⟩:=h.good.own g o GH;rw[a6]at g1;cases g1;exact⟨(g3 bl au).1,h.good.ownLt GH a6 au⟩
 have UU:∀bl,fK (ν.cut (inObs s)) s bl\/w.heap.size<=bl->C.pr bl:=fun bl e4=>by
  rcases e4 with e4|e4
  ·exact(q7 bl e4).1
  ·exact .inr (kB h.fr.size e4)
 have aiu:∀k cs bl,look k st.b=some cs->¬(look k s.b).isSome->ν.bx k=some bl->¬fK (ν.cut (inObs s)) s bl:=by
  intro k cs bl J U au a6;rcases a6 with⟨bT,bC,a2⟩|⟨g,n,u,bC,a2,a3⟩
  ·have:=h.good.inj k bT bl (by simp[J]) (lu bT bC) au (bg.cut_some a2).2;subst this;exact U bC
  ·exact h.good.obx g k n u bl (lU g bC) (by simp[J]) (bg.cut_someO a2).2 a3 au
 have aiv:∀g o n u bl,look g st.e=some o->¬(look g s.e).isSome->ν.ow g=some (n,u)->u.ownBlock=some bl->¬fK (ν.cut (inObs s)) s bl:=by
  intro g o n u bl J U au a6 b3;rcases b3 with⟨bT,bC,a2⟩|⟨fu,n',eO,bC,a2,a3⟩
  ·exact h.good.obx g bT n u bl (by simp[J]) (lu bT bC) au a6 (bg.cut_some a2).2
  ·have:=h.good.oinj g fu n n' u eO bl (by simp[J]) (lU fu bC) au (bg.cut_someO a2).2 a6 a3;subst this;exact U bC
 have Su:∀k cs,look k (cl s.b st.b++ah.b)=some cs->(¬(look k s.b).isSome/\look k st.b=some cs)\/look k ah.b=some cs:=by
  intro k cs ad;rw[y0,vz]at ad;by_cases ag:(look k s.b).isSome
  ·simp only[ag,if_true]at ad;exact .inr ad
  ·simp only[ag]at ad;cases ar:look k st.b with
   |some x=>simp[ar]at ad;subst ad;exact .inl ⟨ag,rfl⟩
   |none=>simp[ar]at ad;exact .inr ad
 have Sv:∀k cs,look k (cl s.e st.e++ah.e)=some cs->(¬(look k s.e).isSome/\look k st.e=some cs)\/look k ah.e=some cs:=by
  intro k cs ad;rw[y0,vz]at ad;by_cases ag:(look k s.e).isSome
  ·simp only[ag,if_true]at ad;exact .inr ad
  ·simp only[ag]at ad;cases ar:look k st.e with
   |some x=>simp[ar]at ad;subst ad;exact .inl ⟨ag,rfl⟩
   |none=>simp[ar]at ad;exact .inr ad
 have BY:∀bl,fK (ν.cut (inObs s)) s bl\/w.heap.size<=bl->∀iI,iI<w.heap.size->¬fK (ν.cut (inObs s)) s iI->bl≠iI:=by
  intro bl J iI U au e;subst e;rcases J with J|J
  ·exact au J
  ·omega
 have Mc:∀bl,bl<w.heap.size->¬fK (ν.cut (inObs s)) s bl->w'.heap[bl]? =w.heap[bl]?:=fun bl J U=>aJ.block bl J U;have isB:∀k bl,(look k (cl s.b st.b++ah.b)).isSome->(ν.join bt s ah).bx k=some bl->(¬(look k s.b).isSome/\(look k st.b).isSome/\ν.bx k=some bl)\/((look k ah.b).isSome/\bt.bx k=some bl):=by
  intro k bl ad hI;obtain⟨cs,dw⟩:=fU.1 ad;rcases Su k cs dw with⟨J,U⟩|J
  ·obtain⟨iI,us,el,g1,_⟩:=h.good.box k cs U;rw[Vx k (by rw[g1];simp) J]at hI;exact .inl ⟨J,by simp[U],hI⟩
  ·rw[Vw k (by simp[J])]at hI;exact .inr ⟨by simp[J],hI⟩
 have G0:∀k x,(look k (cl s.e st.e++ah.e)).isSome->(ν.join bt s ah).ow k=some x->(¬(look k s.e).isSome/\(look k st.e).isSome/\ν.ow k=some x)\/((look k ah.e).isSome/\bt.ow k=some x):=by
  intro k x ad hI;obtain⟨cs,dw⟩:=fU.1 ad;rcases Sv k cs dw with⟨J,U⟩|J
  ·obtain⟨v',us,g1,_⟩:=h.good.own k cs U;rw[L8 k (by rw[g1];simp) J]at hI;exact .inl ⟨J,by simp[U],hI⟩
  ·rw[L7 k (by simp[J])]at hI;exact .inr ⟨by simp[J],hI⟩
 have Cw:∀k bl,¬(look k s.b).isSome->(look k st.b).isSome->ν.bx k=some bl->bl<w.heap.size/\¬fK (ν.cut (inObs s)) s bl:=by intro k bl J U au;obtain⟨cs,dw⟩:=fU.1 U;exact⟨h.good.boxLt dw au,aiu k cs bl dw J au⟩
 have zt:∀k n u bl,¬(look k s.e).isSome->(look k st.e).isSome->ν.ow k=some (n,u)->u.ownBlock=some bl->bl<w.heap.size/\¬fK (ν.cut (inObs s)) s bl:=by intro k n u bl J U au a6;obtain⟨cs,dw⟩:=fU.1 U;exact⟨h.good.ownLt dw au a6,aiv k cs n u bl dw J au a6⟩
 have Fv:∀k bl,(look k ah.b).isSome->bt.bx k=some bl->fK (ν.cut (inObs s)) s bl\/w.heap.size<=bl:=by intro k bl J U;obtain⟨cs,dw⟩:=fU.1 J;obtain⟨iI,us,el,g1,g2,_⟩:=a7.box k cs dw;rw[U]at g1;cases g1;exact g2
 have Iq:∀k n u bl,(look k ah.e).isSome->bt.ow k=some (n,u)->u.ownBlock=some bl->fK (ν.cut (inObs s)) s bl\/w.heap.size<=bl:=by intro k n u bl J U au;obtain⟨cs,dw⟩:=fU.1 J;obtain⟨v',us,g1,g2,g3,_⟩:=a7.own k cs dw;rw[U]at g1;cases g1;exact(g3 bl au).1
 have bk:∀bl o,bt.A bl o->bl<w.heap.size->¬fK (ν.cut (inObs s)) s bl->ν.A bl o:=by
  intro bl o J U au;rcases aJ.fresh bl o J with a6|a6|a6
  ·exact a6
  ·exact absurd a6 au
  ·simp only at a6;omega
 have qu:cY C {t:=st.t,b:=cl s.b st.b++ah.b,e:=cl s.e st.e++ah.e,n:=n',o:=o'} a w' (ν.join bt s ah):=by
  refine h.over ay rfl ⟨a7.alt,fun k cs ad=>?_,fun k bT bl J U au a6=>?_,fun g o ej=>?_,fun g fu n n' u eO bl J U au a6 b3 c7=>?_,fun g k n u bl J U au a6 b3=>?_,fun k=>?_,fun bl aN k j lW=>?_⟩
   ⟨aJ.os.trans h.fr.os,aJ.tape.trans h.fr.tape,aJ.output.trans h.fr.output,kB h.fr.size aJ.size,fun k ad hm=>?_,fun b o sb=>?_,fun b o sb=>?_,fun n b ax=>ay.bx _ _ trivial (h.fr.obj n b ax),h.fr.obn,
    fun m n u hm=>ED (h.fr.row m n u hm) (fun n u=>ay.ow _ n u trivial),h.fr.obr,fun k j bT dP b J U=>?_,fun k j b ab=>?_,fun k j b ab=>?_,fun b o bk=>(ay.sh b o (h.fr.keep b o bk).1).trans (h.fr.sh b o bk)⟩ (fun k ad=>?_)
  ·rcases Su k cs ad with⟨J,U⟩|J
   ·obtain⟨bl,us,el,g1,g2,g3,g4,g5⟩:=h.good.box k cs U;obtain⟨ch,ca⟩:=Cw k bl J (by simp[U]) g1;exact⟨bl,us,el,ay.bx _ _ trivial g1,g2,fun o sb=>g3 o (bk bl o sb ch ca),by rw[Mc bl ch ca];exact g4,qG ay g5⟩
   ·obtain⟨bl,us,el,g1,g2,g3,g4,g5⟩:=a7.box k cs J;exact⟨bl,us,el,h2.bx _ _ trivial g1,UU bl g2,g3,g4,qG h2 g5⟩
  ·rcases isB k bl J au with⟨bC,a2,a3⟩|⟨bC,a2⟩<;>rcases isB bT bl U a6 with⟨ch,ca,fB⟩|⟨ch,ca⟩
   ·exact h.good.inj k bT bl a2 ca a3 fB
   ·obtain⟨bK,cq⟩:=Cw k bl bC a2 a3;exact absurd rfl (BY bl (Fv bT bl ch ca) bl bK cq)
   ·obtain⟨bK,cq⟩:=Cw bT bl ch ca fB;exact absurd rfl (BY bl (Fv k bl bC a2) bl bK cq)
   ·exact a7.inj k bT bl bC ch a2 ca
  ·rcases Sv g o ej with⟨J,U⟩|J
   ·obtain⟨u,us,g1,g2,g3,g4⟩:=h.good.own g o U;refine⟨u,us,by rw[L8 g (by rw[g1];simp) J];exact g1,⟨g2.1,?_⟩,fun bl e4=>?_,sR ay (fun bl e4 j sb=>?_) g4⟩
    ·rcases g2.2 with aE|⟨bb,cap,cur,f1,f2,f3,f4⟩
     ·exact .inl aE
     ·obtain⟨ch,ca⟩:=zt g _ u bb J (by simp[U]) g1 (by rw[f1];rfl);exact .inr ⟨bb,cap,cur,f1,f2,by rw[Mc bb ch ca];exact f3,f4⟩
    ·obtain⟨ch,ca⟩:=zt g _ u bl J (by simp[U]) g1 e4;exact⟨(g3 bl e4).1,fun j sb=>(g3 bl e4).2 j (bk bl j sb ch ca)⟩
    ·obtain⟨ch,ca⟩:=zt g _ u bl J (by simp[U]) g1 e4;exact bk bl j sb ch ca
   ·obtain⟨u,us,g1,g2,g3,g4⟩:=a7.own g o J;exact⟨u,us,by rw[L7 g (by simp[J])];exact g1,g2,fun bl e4=>⟨UU bl (g3 bl e4).1,(g3 bl e4).2⟩,sR h2 (fun _ _ _ h=>h) g4⟩
  ·rcases G0 g _ J au with⟨bC,a2,a3⟩|⟨bC,a2⟩<;>rcases G0 fu _ U a6 with⟨ch,ca,fB⟩|⟨ch,ca⟩
   ·exact h.good.oinj g fu n n' u eO bl a2 ca a3 fB b3 c7
   ·obtain⟨bK,cq⟩:=zt g n u bl bC a2 a3 b3;exact absurd rfl (BY bl (Iq fu n' eO bl ch ca c7) bl bK cq)
   ·obtain⟨bK,cq⟩:=zt fu n' eO bl ch ca fB c7;exact absurd rfl (BY bl (Iq g n u bl bC a2 b3) bl bK cq)
   ·exact a7.oinj g fu n n' u eO bl bC ch a2 ca b3 c7
  ·rcases G0 g _ J au with⟨bC,a2,a3⟩|⟨bC,a2⟩<;>rcases isB k bl U b3 with⟨ch,ca,fB⟩|⟨ch,ca⟩
   ·exact h.good.obx g k n u bl a2 ca a3 a6 fB
   ·obtain⟨bK,cq⟩:=zt g n u bl bC a2 a3 a6;exact absurd rfl (BY bl (Fv k bl ch ca) bl bK cq)
   ·obtain⟨bK,cq⟩:=Cw k bl ch ca fB;exact absurd rfl (BY bl (Iq g n u bl bC a2 a6) bl bK cq)
   ·exact a7.obx g k n u bl bC ch a2 a6 ca
  ·
   cases hI:(ν.join bt s ah).bx k with
   |none=>exact .inl rfl
   |some bl=>
    right;cases Dq:(ν.join bt s ah).ow k with
    |none=>rfl
    |some x=>
     exfalso;have al:(ν.bx k=some bl/\¬(look k s.b).isSome/\¬(look k ah.b).isSome)\/bt.bx k=some bl:=by
      by_cases ag:(look k s.b).isSome\/(look k ah.b).isSome
      ·right;simpa[bg.join,ag]using hI
      ·left;simp only[not_or]at ag;exact⟨by simpa[bg.join,ag.1,ag.2]using hI,ag.1,ag.2⟩
     have aE:(ν.ow k=some x/\¬(look k s.e).isSome/\¬(look k ah.e).isSome)\/bt.ow k=some x:=by
      by_cases ag:(look k s.e).isSome\/(look k ah.e).isSome
      ·right;simpa[bg.join,ag]using Dq
      ·left;simp only[not_or]at ag;exact⟨by simpa[bg.join,ag.1,ag.2]using Dq,ag.1,ag.2⟩
     rcases al with⟨bC,a2,a3⟩|bC<;>rcases aE with⟨ch,ca,fB⟩|ch
     ·rcases h.good.one k with cz|cz
      ·rw[cz]at bC;cases bC
      ·rw[cz]at ch;cases ch
     ·have vi:=aap k x ch;have fp:(look k s.e).isSome:=by
       cases k with
       |loc m=>rw[tJ.2 m]at vi;cases vi
       |obj m=>
        rcases cM m vi with cz|cz
        ·exact cz
        ·rw[(h.new (.obj m) ⟨trivial,cz⟩).1]at bC;cases bC
      obtain⟨o,GH⟩:=fU.1 (lU k fp);obtain⟨v',us,g1,_⟩:=h.good.own k o GH;rcases h.good.one k with cz|cz
      ·rw[cz]at bC;cases bC
      ·rw[cz]at g1;cases g1
     ·have qs:=aao k bl bC;have fp:(look k s.b).isSome:=by
       cases k with
       |loc m=>rw[tJ.1 m]at qs;cases qs
       |obj m=>
        rcases Lu m qs with cz|cz
        ·exact cz
        ·rw[(h.new (.obj m) ⟨trivial,cz⟩).2.1]at ch;cases ch
      obtain⟨cs,dw⟩:=fU.1 (lu k fp);obtain⟨iI,us,el,g1,_⟩:=h.good.box k cs dw;rcases h.good.one k with cz|cz
      ·rw[cz]at g1;cases g1
      ·rw[cz]at ch;cases ch
     ·rcases a7.one k with cz|cz
      ·rw[cz]at bC;cases bC
      ·rw[cz]at ch;cases ch
  ·have UJ:∀k j,bt.tr k j bl->w.heap.size<=bl:=fun k j cz=>by
    rcases(aJ.trb k j bl cz).1 with a2|a2
    ·obtain⟨m,_,hm⟩:=(af k).2.2 j bl cz;rw[hm]at a2;cases a2
    ·exact a2
   have hold:fK (ν.cut (inObs s)) s bl->¬ν.tr k j bl:=by
    rintro(⟨bT,bC,a2⟩|⟨g,n,u,bC,a2,a3⟩) cz
    ·exact h.good.otr bl (.inl ⟨bT,lu bT bC,(bg.cut_some a2).2⟩) k j cz
    ·exact h.good.otr bl (.inr ⟨g,n,u,lU g bC,(bg.cut_someO a2).2,a3⟩) k j cz
   have kK:fK (ν.cut (inObs s)) s bl\/w.heap.size<=bl->¬ν.tr k j bl:=by
    rintro(J|J) cz
    ·exact hold J cz
    ·have:=(h.fr.trb k j bl cz).2;omega
   rcases aN with⟨bT,bC,a2⟩|⟨g,n,u,bC,a2,a3⟩
   ·rcases isB bT bl bC a2 with⟨ch,ca,fB⟩|⟨ch,ca⟩
    ·rcases lW with lW|lW
     ·exact h.good.otr bl (.inl ⟨bT,ca,fB⟩) k j lW
     ·have:=(Cw bT bl ch ca fB).1;have:=UJ k j lW;omega
    ·rcases lW with lW|lW
     ·exact kK (Fv bT bl ch ca) lW
     ·exact a7.otr bl (.inl ⟨bT,ch,ca⟩) k j lW
   ·rcases G0 g _ bC a2 with⟨ch,ca,fB⟩|⟨ch,ca⟩
    ·rcases lW with lW|lW
     ·exact h.good.otr bl (.inr ⟨g,n,u,ca,fB,a3⟩) k j lW
     ·have:=(zt g n u bl ch ca fB a3).1;have:=UJ k j lW;omega
    ·rcases lW with lW|lW
     ·exact kK (Iq g n u bl ch ca a3) lW
     ·exact a7.otr bl (.inr ⟨g,n,u,ch,ca,a3⟩) k j lW
  ·have bD:k<w.heap.size:=Nat.lt_of_lt_of_le ad h.fr.size;rw[Mc k bD fun e4=>by
    rcases(q7 k e4).1 with J|J
    ·exact hm J
    ·omega]
   exact h.fr.block k ad hm
  ·obtain⟨aU,bo⟩:=h.fr.keep b o sb;obtain⟨cd,e9⟩:=aJ.keep b o aU;exact⟨cd,e9.trans bo⟩
  ·rcases aJ.fresh b o sb with a6|a6|a6
   ·exact h.fr.fresh b o a6
   ·exact .inr (q7 b a6).1
   ·exact .inr (.inr (kB h.fr.size a6))
  ·rcases J with J|J<;>rcases U with U|U
   ·exact h.fr.trd k j bT dP b J U
   ·have bC:=(h.fr.trb k j b J).2;have a2:=(aJ.trb bT dP b U).1;rcases a2 with a2|a2
    ·obtain⟨m,_,hm⟩:=(af bT).2.2 dP b U;rw[hm]at a2;cases a2
    ·simp only at a2;omega
   ·have bC:=(h.fr.trb bT dP b U).2;have a2:=(aJ.trb k j b J).1;rcases a2 with a2|a2
    ·obtain⟨m,_,hm⟩:=(af k).2.2 j b J;rw[hm]at a2;cases a2
    ·simp only at a2;omega
   ·exact aJ.trd k j bT dP b J U
  ·rcases ab with ab|ab
   ·exact⟨(h.fr.trb k j b ab).1,Nat.lt_of_lt_of_le (h.fr.trb k j b ab).2 aJ.size⟩
   ·refine⟨.inr ?_,(aJ.trb k j b ab).2⟩;rcases(aJ.trb k j b ab).1 with a2|a2
    ·obtain⟨m,_,hm⟩:=(af k).2.2 j b ab;rw[hm]at a2;cases a2
    ·exact kB h.fr.size a2
  ·have key:ν.bx k=none/\ν.ow k=none/\¬(look k ah.b).isSome/\¬(look k ah.e).isSome:=by
    rcases ab with ab|ab
    ·obtain⟨t1,t2⟩:=h.fr.trn k j b ab;refine⟨t1,t2,fun cz=>?_,fun cz=>?_⟩
     ·cases k with
      |loc m=>rw[tJ.1 m]at cz;cases cz
      |obj m=>
       rcases Lu m cz with b3|b3
       ·obtain⟨cs,dw⟩:=fU.1 (lu _ b3);obtain⟨iI,us,el,g1,_⟩:=h.good.box _ cs dw;rw[t1]at g1;cases g1
       ·exact(h.new (.obj m) ⟨trivial,b3⟩).2.2 j b ab
     ·cases k with
      |loc m=>rw[tJ.2 m]at cz;cases cz
      |obj m=>
       rcases cM m cz with b3|b3
       ·obtain⟨cs,dw⟩:=fU.1 (lU _ b3);obtain⟨iI,us,g1,_⟩:=h.good.own _ cs dw;rw[t2]at g1;cases g1
       ·exact(h.new (.obj m) ⟨trivial,b3⟩).2.2 j b ab
    ·obtain⟨m,hm,rfl⟩:=(af k).2.2 j b ab;obtain⟨t1,t2,_⟩:=aiN m hm;exact⟨t1,t2,by simp[tJ.1 m],by simp[tJ.2 m]⟩
   obtain⟨t1,t2,t3,t4⟩:=key;have t5:¬(look k s.b).isSome:=fun cz=>by obtain⟨cs,dw⟩:=fU.1 (lu _ cz);obtain⟨iI,us,el,g1,_⟩:=h.good.box _ cs dw;rw[t1]at g1;cases g1
   have t6:¬(look k s.e).isSome:=fun cz=>by obtain⟨cs,dw⟩:=fU.1 (lU _ cz);obtain⟨iI,us,g1,_⟩:=h.good.own _ cs dw;rw[t2]at g1;cases g1
   exact⟨by simp[bg.join,t3,t5,t1],by simp[bg.join,t4,t6,t2]⟩
  ·
   simp only at ad;obtain⟨ad,ahP⟩:=cI k ad;have UO:(∀j b,¬ν.tr k j b)->∀j b,¬(ν.join bt s ah).tr k j b:=fun J j b ab=>by
    rcases ab with ab|ab
    ·exact J j b ab
    ·obtain⟨m,hm,e⟩:=(af k).2.2 j b ab;exact ahP m hm e
   cases k with
   |loc m=>obtain⟨il,gw,jv⟩:=h.new (.loc m) (KK (e7 _) (fun _ h=>List.mem_append_left _ h) ad);exact⟨by simp[bg.join,vk.1 m,tJ.1 m,il],by simp[bg.join,vk.2 m,tJ.2 m,gw],UO jv⟩
   |obj m=>
    simp only[fresh,kn,not_or,true_and]at ad;obtain⟨il,gw,jv⟩:=h.new (.obj m) ⟨trivial,ad.1⟩;have bc:¬(look (.obj m) ah.b).isSome:=fun cz=>ad.2 (ud (.inl cz));have bE:¬(look (.obj m) ah.e).isSome:=fun cz=>ad.2 (ud (.inr cz));have b1:¬(look (.obj m) s.b).isSome:=fun cz=>by obtain⟨cs,dw⟩:=fU.1 (lu _ cz);obtain⟨iI,us,el,g1,_⟩:=h.good.box _ cs dw;rw[il]at g1;cases g1
    have c5:¬(look (.obj m) s.e).isSome:=fun cz=>by obtain⟨cs,dw⟩:=fU.1 (lU _ cz);obtain⟨v',us,g1,_⟩:=h.good.own _ cs dw;rw[gw]at g1;cases g1
    exact⟨by simp[bg.join,bc,b1,il],by simp[bg.join,bE,c5,gw],UO jv⟩
 exact qu.put aR (zq h2 aM)
inductive er where
 |s (i:ey)
 |call (d:ba Nat) (f:dz) (xs:List dz)
 |next (d:Nat) (x:dz)
structure dd where
 g:ba (Nat×Bool)
 i:er
def ey.dst:ey->ba Nat
 | .v d _| .box d _ _| .alloc d _ _| .bsl d _ _ _| .app d _ _ _ _| .bslm d _ _ _ _| .appm d _ _ _ _ _| .mkmap d _| .range d _ _| .mks d _ _ _ _ _=>some d
 | .store _ _ _| .mput _ _ _ _| .storeE _ _ _=>none
def er.dst:er->ba Nat
 | .s i=>i.dst
 | .call d _ _=>d
 | .next d _=>some d
def cT(P:cG)(n:Nat)(args:List ai)(st:br)(d:ba Nat)(K:br->Prop):Prop:=
 (∃s Q,gY (inObs s) s.b st.b/\pj (inObs s) s.e st.e/\jf s/\aH (inObs s) args/\bH P n args s Q/\
  ∀r ah,Q r ah->((∀m,(look (.obj m) ah.b).isSome->(look (.obj m) s.b).isSome\/ .obj m∉st.o)/\(∀m,(look (.obj m) ah.e).isSome->(look (.obj m) s.e).isSome\/ .obj m∉st.o))/\K (after st s ah d r))\/
 (∃s Q,gY (inObs s) s.b st.b/\pj (inObs s) s.e st.e/\jf s/\aH (inObs s) args/\ .loc st.n∉st.o/\I5 P n st.n args s Q/\
  ∀r ah,Q r ah->((∀m,(look (.obj m) ah.b).isSome->(look (.obj m) s.b).isSome\/ .obj m∉st.o)/\(∀m,(look (.obj m) ah.e).isSome->(look (.obj m) s.e).isSome\/ .obj m∉st.o))/\K {after st s ah d r with n:=st.n+1})
def MV(st:br)(d:Nat)(eR mk:aI)(since:Nat)(seen:List Nat)(last clock:Nat)(borns:List Nat)(kvs:List ai)(K:br->Prop):Prop:=
 (since=clock/\last=clock)/\((∀b∈borns,b∈seen)->K {st with t:=put d (.tuple [.bool false]) st.t})/\
 (∀b k v,mX b borns kvs=some (.tuple [k,v])->b∉seen->K {st with t:=put d (.tuple [.bool true,k,v]) st.t,b:=cA eR [.hdi since (seen++[b]) last,.gmap mk] st.b})
def r3(st:br)(d:Nat)(v:ai)(K:br->Prop):Prop:=
 match v with
 | .ptr eR 0=>match look eR st.b with
  |some [.hdi since seen last,.gmap mk]=>match look mk st.b with
   |some (.hdm clock borns::kvs)=>MV st d eR mk since seen last clock borns kvs K
   |_=>e1
  |_=>e1
 |_=>e1
def uX(P:cG)(st:br)(K:br->Prop):er->Prop
 | .next d x=>r3 st d (cv st.t x) K
 | .s i=>match mv st i with
  |some (c,st')=>c/\K st'
  |none=>e1
 | .call d f xs=>match cv st.t f with
  | .func n dg=>cT P n (c2 (xs.map (cv st.t)++dg)) st d K
  |_=>e1
def ig(P:cG):List dd->br->(br->Prop)->Prop
 |[],st,K=>K st
 |⟨none,i⟩::r,st,K=>uX P st (fun st'=>ig P r st' K) i
 |⟨some (s,want),i⟩::r,st,K=>match get s st.t with
  | .bool b=>(b=want->uX P {st with t:=put s (.bool want) st.t} (fun st'=>ig P r st' K) i)/\(b= !want->ig P r {st with t:=eZ i.dst (.tuple []) (put s (.bool !want) st.t)} K)
  | .tuple []=>ig P r {st with t:=eZ i.dst (.tuple []) st.t} K
  |_=>e1
def vI(N:Nat)(bG:List (Nat×dH))(i:er)(o:Oper):Bool:=
 match i with
 | .s i=>EF N bG i o
 | .next d x=>match o.op with
  | .next it false=>o.dst==some d&&decide (d<N)&&eu x it
  |_=>false
 | .call d f xs=>match o.op with
  | .call ⟨.value r5,args,_⟩=>o.dst==d&&jD N d&&eu f r5&&ze xs args.toList
  |_=>false
def CU(N:Nat)(bG:List (Nat×dH))(ops:List Oper)(g:dd)(o:Oper):Bool:=
 (match g.g,o.guard with
  |none,none=>true
  |some (s,b),some (j,cb)=>b==cb&&((ops[j]?).bind (·.dst))==some s&&decide (s<N)&&o.dst==g.i.dst&&jD N g.i.dst
  |_,_=>false)&&vI N bG g.i o
def kG(N:Nat)(bG:List (Nat×dH))(ops:List Oper):List dd->List Oper->Bool
 |[],[]=>true
 |g::gs,o::os=>CU N bG ops g o&&kG N bG ops gs os
 |_,_=>false
theorem YI{w:World}{ν:bg}:∀{b0 bM:List ai} {bf us:List Value},cW w ν b0 bf->cW w ν bM us->cW w ν (b0++bM) (bf++us)
 |[],bM,bf,us,h,cf=>by simp only[cW]at h;subst h;simpa using cf
 |p::b0,bM,bf,us,h,cf=>by simp only[cW]at h;obtain⟨u,ct,rfl,J,U⟩:=h;simp only[bZ,cW];exact⟨u,_,rfl,J,YI U cf⟩
theorem xO.mono{P:cG}{f:FuncId}{bf:Array Value}{w:World}{R PB:Ending->World->Prop}(h:xO P f bf w R)(aV:∀e w',R e w'->PB e w'):xO P f bf w PB:=by
 rcases h with⟨J,U⟩|⟨v,w',J,U⟩
 ·exact .inl ⟨J,U.mono aV⟩
 ·exact .inr ⟨v,w',J,aV _ _ U⟩
theorem Ss{P:cG}{C:ft}{st:br}{a:Act}{w:World}{ν:bg}(aM:cY C st a w ν){o:Oper}{r5:Operand}{args:Array Operand}{eG:Array fZ}(nF:o.op= .call ⟨.value r5,args,eG⟩){d:ba Nat}(aR:o.dst=d)(yu:jD C.N d=true)
  {n:Nat} {dg:List ai} (aJ:bd w ν (.func n dg) (a.eval r5)) {b0:List ai} (u9:cW w ν b0 (args.toList.map a.eval)) {K:br->Prop}
  (aw:∃(s:cH) (oO:ai->cH->Prop) (κ:ba Nat) (n':Nat) (o':cH->List aI),gY (inObs s) s.b st.b/\pj (inObs s) s.e st.e/\jf s/\aH (inObs s) (c2 (b0++dg))/\(∀(w:World) (ν:bg) (bf:Array Value),Good (fK ν s) w ν s.b s.e->pT ν s->cW w ν (c2 (b0++dg)) bf.toList->
   xO P n bf w fun e w'=> ∃v r ah bt,e= .returned v/\oO r ah/\bd w' bt r v/\Good (fun bl=>fK ν s bl\/w.heap.size<=bl) w' bt ah.b ah.e/\F4 κ bt ah/\jf ah/\qR ⟨w,ν,fK ν s,0,c1 s⟩ w' bt)/\
   (∀m,κ=some m->fresh st.n st.o (.loc m))/\(∀k r ah,oO r ah->fresh n' (o' ah) k->fresh st.n (st.o++c1 ah) k/\∀m,κ=some m->k≠ .loc m)/\
   ∀r ah,oO r ah->((∀m,(look (.obj m) ah.b).isSome->(look (.obj m) s.b).isSome\/ .obj m∉st.o)/\(∀m,(look (.obj m) ah.e).isSome->(look (.obj m) s.e).isSome\/ .obj m∉st.o))/\K {after st s ah d r with n:=n',o:=o' ah})
  {rQ:Act->World->Prop} {Q:Exit->Act->World->Prop} (c8:∀st' bq w' bt,K st'->cY C st' bq w' bt->rQ bq w'):o.wp P a w rQ Q:=by
 obtain⟨s,oO,κ,n',o',bK,cq,da,hT,kE,SL,SF,pN⟩:=aw;simp only[bd]at aJ;obtain⟨us,aB,hu⟩:=aJ;have mM:cW w (ν.cut (inObs s)) (c2 (b0++dg)) ((args.map a.eval)++us).toList:=by refine zp (pI.cut _ w ν) _ _ hT (Io _ _ ?_);simpa using YI u9 hu
 have sj:Good (fK (ν.cut (inObs s)) s) w (ν.cut (inObs s)) s.b s.e:=aM.good.cut bK cq (fun bl _ h=>h);have hex:pT (ν.cut (inObs s)) s:=by
  intro k;refine⟨?_,?_,?_⟩;rotate_left 2
  ·rintro j b ⟨ag,ab⟩;obtain⟨t1,t2⟩:=aM.fr.trn k j b ab;rcases ag with ag|ag<;>obtain⟨x,af⟩:=fU.1 ag
   ·obtain⟨bl,ct,el,al,_⟩:=aM.good.box k x (bK k x af).1;rw[t1]at al;cases al
   ·obtain⟨v',ct,al,_⟩:=aM.good.own k x (cq k x af).1;rw[t2]at al;cases al
  ·intro ar;by_cases ag:inObs s k
   ·rw[bg.cut_bx ag];rcases ag with ag|ag
    ·rw[ar]at ag;cases ag
    ·obtain⟨x,af⟩:=fU.1 ag;obtain⟨v',ct,al,_⟩:=aM.good.own k x (cq k x af).1;rcases aM.good.one k with J|J
     ·exact J
     ·rw[J]at al;cases al
   ·exact(bg.cut_no ag).1
  ·intro ar;by_cases ag:inObs s k
   ·rw[bg.cut_ow ag];rcases ag with ag|ag
    ·obtain⟨x,af⟩:=fU.1 ag;obtain⟨bl,ct,el,al,_⟩:=aM.good.box k x (bK k x af).1;rcases aM.good.one k with J|J
     ·rw[J]at al;cases al
     ·exact J
    ·rw[ar]at ag;cases ag
   ·exact(bg.cut_no ag).2.1
 rcases kE w (ν.cut (inObs s)) ((args.map a.eval)++us) sj hex mM with⟨⟨fn,g1,g2,g3⟩,kE⟩|⟨v,w',kE,bB⟩
 ·obtain⟨code,aho⟩:=fU.1 g2;have jc:(execOp a.eval o).run P w= .ok (.enter n ((args.map a.eval)++us)) w:=by obtain⟨dst,op,ty,pos,PK,wz⟩:=o;simp only at nF;subst nF;simp only[execOp,resolve,aB,Deferred.ofValue,fT,gJ,fX,invoke,callFunc,run_program,g1,g3,aho];simp
  unfold Oper.wp;rw[jc];simp only[Oper.upon];refine kE.mono fun e w' bB=>?_;obtain⟨v,r,ah,bt,rfl,bm,bc,bE,b1,c5,df⟩:=bB;obtain⟨⟨il,gw⟩,ad⟩:=pN r ah bm;rw[aR];exact c8 _ _ _ _ ad (aM.callK bK cq da bE b1 (fun m hm=>aM.new _ (SL m hm)) (n':=n') (o':=o' ah) (fun k ad=>SF k r ah bm ad) c5 df il gw d yu bc)
 ·have jc:(execOp a.eval o).run P w= .ok (.value v) w':=by obtain⟨dst,op,ty,pos,PK,wz⟩:=o;simp only at nF;subst nF;simp only[execOp,resolve,aB,Deferred.ofValue,fT,gJ,fX,invoke];simpa using kE
  obtain⟨v2,r,ah,bt,DC,bm,bc,bE,b1,c5,df⟩:=bB;cases DC;obtain⟨⟨il,gw⟩,ad⟩:=pN r ah bm;refine my jc ?_;rw[aR];exact c8 _ _ _ _ ad (aM.callK bK cq da bE b1 (fun m hm=>aM.new _ (SL m hm)) (n':=n') (o':=o' ah) (fun k ad=>SF k r ah bm ad) c5 df il gw d yu bc)
theorem Sr{P:cG}{C:ft}{st:br}{a:Act}{w:World}{ν:bg}(aM:cY C st a w ν){o:Oper}{r5:Operand}{args:Array Operand}{eG:Array fZ}(nF:o.op= .call ⟨.value r5,args,eG⟩){d:ba Nat}(aR:o.dst=d)(yu:jD C.N d=true)
  {n:Nat} {dg:List ai} (aJ:bd w ν (.func n dg) (a.eval r5)) {b0:List ai} (u9:cW w ν b0 (args.toList.map a.eval)) {K:br->Prop} (aw:cT P n (c2 (b0++dg)) st d K)
  {rQ:Act->World->Prop} {Q:Exit->Act->World->Prop} (c8:∀st' bq w' bt,K st'->cY C st' bq w' bt->rQ bq w'):o.wp P a w rQ Q:=by
 refine Ss aM nF aR yu aJ u9 (K:=K) ?_ c8;rcases aw with⟨s,oO,bK,cq,da,hT,kE,pN⟩|⟨s,oO,bK,cq,da,hT,ie,kE,pN⟩
 ·refine⟨s,oO,none,st.n,fun ah=>st.o++c1 ah,bK,cq,da,hT,fun w ν bf J U au=>(kE w ν bf J U au).mono fun e w' bB=>?_,fun m hm=>(by cases hm),fun k _ ah _ ad=>⟨ad,fun m hm=>by cases hm⟩,pN⟩;obtain⟨v,r,ah,bt,g1,g2,g3,g4,g5,g6⟩:=bB;exact⟨v,r,ah,bt,g1,g2,g3,g4,g5.k,g6⟩
 ·refine⟨s,oO,some st.n,st.n+1,fun ah=>st.o++c1 ah,bK,cq,da,hT,kE,fun m hm=>(by cases hm;exact⟨e7 _,ie⟩),fun k _ ah _ ad=>⟨KK (Nat.le_succ _) (fun _ h=>h) ad,fun m hm=>?_⟩,pN⟩;cases hm;rintro rfl;have:=ad.1;simp only at this;omega
theorem cY.drawn{C:ft}{st:br}{a:Act}{w:World}{ν:bg}(aM:cY C st a w ν)(n:Nat):cY C st a {w with drawn:=n} ν:=by
 have k4:lK w ν {w with drawn:=n} ν:=⟨fun _ _ h=>⟨h,rfl⟩,fun _ _ _ h=>h,fun _ n u _ h=>⟨n,u,h,.inl ⟨rfl,rfl⟩⟩,fun _ _ _=>rfl,fun _ _ _ _ h=>h⟩;refine aM.over k4 rfl ⟨aM.good.alt,fun k cs ad=>?_,aM.good.inj,fun g o a7=>?_,aM.good.oinj,aM.good.obx,aM.good.one,aM.good.otr⟩ ⟨aM.fr.os,aM.fr.tape,aM.fr.output,aM.fr.size,aM.fr.block,aM.fr.keep,aM.fr.fresh,aM.fr.obj,aM.fr.obn,aM.fr.row,aM.fr.obr,aM.fr.trd,aM.fr.trb,aM.fr.trn,aM.fr.sh⟩ aM.new
 ·obtain⟨bl,us,el,J,U,au,a6,b3⟩:=aM.good.box k cs ad;exact⟨bl,us,el,J,U,au,a6,qG k4 b3⟩
 ·obtain⟨v,us,J,U,au,a6⟩:=aM.good.own g o a7;exact⟨v,us,J,U,au,sR k4 (fun _ _ _ h=>h) a6⟩
theorem afL{α:Type}{l:List α}{p:α->Bool}(h:∀x∈l,p x=false):l.filter p=[]:=by rw[List.filter_eq_nil_iff];intro x af;simp[h x af]
theorem afK{α:Type}{l:List α}{p:α->Bool}(h:∀x∈l,p x=true):l.filter p=l:=List.filter_eq_self.2 h
def HA(r m since clock:Nat)(seen:Array Nat)(St:Array (ba MapEntry)):Sem Value:=do
 match St[<-choose (.mapNext St.size)]? with
 |some (some e)=>
  setObj r (.mapIter (some m) since (seen.push e.born) clock)
  pure (.tuple #[.bool true,e.key,e.val])
 |some none=>pure (.tuple #[.bool false])
 |none=>stuck "Next: no such candidate"
theorem YT{P:cG}{w:World}(r m since clock:Nat)(seen:Array Nat)(l:List (ba MapEntry))(ar:l≠[]):∃n x,x∈l/\(HA r m since clock seen l.toArray).run P w=
  (match x with|some e=>(do setObj r (.mapIter (some m) since (seen.push e.born) clock);pure (.tuple #[.bool true,e.key,e.val]):Sem Value)|none=>pure (.tuple #[.bool false])).run P {w with drawn:=n}:=by
 have fE:0<l.length:=List.length_pos_iff.2 ar;unfold HA;have key:∀i,i<l.length->∀w',((do match(l.toArray[i]?:ba (ba MapEntry))with
   |some (some e)=>setObj r (.mapIter (some m) since (seen.push e.born) clock);pure (.tuple #[.bool true,e.key,e.val])
   |some none=>pure (.tuple #[.bool false])
   |none=>stuck "Next: no such candidate" :Sem Value)).run P w'=((match l[i]! with|some e=>(do setObj r (.mapIter (some m) since (seen.push e.born) clock);pure (.tuple #[.bool true,e.key,e.val]):Sem Value)|none=>pure (.tuple #[.bool false]))).run P w':=by
  intro i hi w';have J:l.toArray[i]? =some l[i]!:=by simp[hi]
  rw[J];cases l[i]!<;>rfl
 by_cases aJ:(Question.mapNext l.length).forced=true
 ·refine⟨w.drawn,l[0]!,by simp[fE],?_⟩;rw[<-key 0 fE];have aw:(choose (.mapNext l.length):Sem Nat).run P w= .ok 0 w:=by simp[aJ]
  simp only[List.size_toArray,fT,aw,fX]
 ·refine⟨w.drawn+1,l[(w.tape w.drawn (.mapNext l.length))%l.length]!,by simp[Nat.mod_lt _ fE],?_⟩;rw[<-key _ (Nat.mod_lt _ fE)];have aw:(choose (.mapNext l.length):Sem Nat).run P w= .ok ((w.tape w.drawn (.mapNext l.length))%l.length) {w with drawn:=w.drawn+1}:=by simp[aJ,Question.cut]
  simp only[List.size_toArray,fT,aw,fX]
theorem aoq{P:cG}{w:World}{bl mb:Nat}{seen:List Nat}{es:List MapEntry}{clock:Nat}{ty:fZ}(J:w.heap[bl]? =some (.mapIter (some mb) clock seen.toArray clock))(U:w.heap[mb]? =some (.map es.toArray clock))(bD:∀e∈es,e.born<clock):
  ∃n,((∀e∈es,e.born∈seen)/\(Instr.next (.pointer (some ⟨bl,0,none⟩)) false ty).run P w= .ok (.tuple #[.bool false]) {w with drawn:=n})\/
   ∃e∈es,e.born∉seen/\(Instr.next (.pointer (some ⟨bl,0,none⟩)) false ty).run P w= .ok (.tuple #[.bool true,e.key,e.val]) {w with drawn:=n,heap:=w.heap.setIfInBounds bl (.mapIter (some mb) clock (seen++[e.born]).toArray clock)}:=by
 have eM:(!seen.toArray.isEmpty&& !es.toArray.isEmpty&&es.toArray.all (fun e=>decide (e.born≥clock)))=false:=by
  cases es with
  |nil=>simp
  |cons e r=>have:=bD e Ψ;simp;intro _ h;omega
 generalize jQ:(es.filter fun e=> !seen.contains e.born)=left;have ahU:(es.toArray.filter fun e=> !seen.toArray.contains e.born)=left.toArray:=by rw[<-jQ];simp
 have iL:∀e∈left,e∈es/\e.born∉seen:=fun e he=>by rw[<-jQ]at he;have:=nZ.1 he;exact⟨this.1,by simpa using this.2⟩
 have hold:(left.toArray.filter fun e=>decide (e.born<clock))=left.toArray:=by rw[List.filter_toArray,afK];intro e he;have:=bD e (iL e he).1;simp[this]
 have kK:(left.toArray.filter fun e=>decide (e.born≥clock))= #[]:=by rw[List.filter_toArray,afL];intro e he;have:=bD e (iL e he).1;simp;omega
 have jc:(Instr.next (.pointer (some ⟨bl,0,none⟩)) false ty).run P w=(HA bl mb clock clock seen.toArray ((if left.toArray.isEmpty then #[none]else #[])++(left.toArray++ #[]).map some)).run P w:=by unfold Instr.next HA;simp only[fT,vR J,vR U,fX,eM,ahU,hold,kK,hl,if_false];rfl
 rw[jc];by_cases AQ:left=[]
 ·subst AQ;obtain⟨n,x,g1,g2⟩:=YT (P:=P) (w:=w) bl mb clock clock seen.toArray [none] Ψ;refine⟨n,.inl ⟨fun e he=>?_,?_⟩⟩
  ·have:=List.filter_eq_nil_iff.1 jQ e he;simpa using this
  ·simp only[List.mem_singleton]at g1;subst g1;have aw:((if(([]:List MapEntry).toArray).isEmpty then #[none]else #[])++(([]:List MapEntry).toArray++ #[]).map some)=[none].toArray:=by simp
   rw[aw,g2];rfl
 ·have aw:((if left.toArray.isEmpty then #[none]else #[])++(left.toArray++ #[]).map some)=(left.map some).toArray:=by simp[AQ]
  obtain⟨n,x,g1,g2⟩:=YT (P:=P) (w:=w) bl mb clock clock seen.toArray (left.map some) (by simpa using AQ);simp only[hB]at g1;obtain⟨e,he,rfl⟩:=g1;refine⟨n,.inr ⟨e,(iL e he).1,(iL e he).2,?_⟩⟩;rw[aw,g2];simp only[fT];rw[EE (w:={w with drawn:=n}) (o:= .mapIter (some mb) clock seen.toArray clock) J];simp
theorem Ki:∀{borns:List Nat} {us:List Value} {e:MapEntry},e∈fL borns us->e.born∈borns
 |[],us,e,h=>by simp[fL]at h
 |b::e0,[],e,h=>by simp[fL]at h
 |b::e0,[_],e,h=>by simp[fL]at h
 |b::e0,k::v::us,e,h=>by
  simp only[fL,fA]at h;rcases h with rfl|h
  ·simp
  ·exact oL _ (Ki h)
theorem SZ:∀{borns:List Nat} {kvs:List ai} {us:List Value},kvs.length=2*borns.length->us.length=kvs.length->∀{b:Nat},b∈borns->∃e∈fL borns us,e.born=b
 |[],_,_,_,_,b,ab=>by simp at ab
 |cb::e0,kvs,[],J,U,b,ab=>by rw[J]at U;simp at U
 |cb::e0,kvs,[_],J,U,b,ab=>by rw[J]at U;simp at U;omega
 |cb::e0,kvs,k::v::us,J,U,b,ab=>by
  rcases fA.1 ab with rfl|ab
  ·exact⟨⟨k,v,b⟩,by simp[fL],rfl⟩
  ·obtain⟨e,g1,g2⟩:=SZ (kvs:=kvs.drop 2) (us:=us) (borns:=e0) (by simp at J⊢;omega) (by simp at J U⊢;omega) ab;exact⟨e,by simp[fL,g1],g2⟩
theorem Wv{w:World}{ν:bg}:∀{borns:List Nat} {kvs:List ai} {us:List Value},kvs.length=2*borns.length->borns.Pairwise (· < ·)->cW w ν kvs us->∀{e:MapEntry},e∈fL borns us->∃k v,mX e.born borns kvs=some (.tuple [k,v])/\bd w ν k e.key/\bd w ν v e.val
 |[],_,_,_,_,_,e,h=>by simp[fL]at h
 |b::e0,[],us,J,_,_,e,_=>by simp at J
 |b::e0,[_],us,J,_,_,e,_=>by simp at J;omega
 |b::e0,k::v::kvs,us,J,U,au,e,h=>by
  simp only[cW]at au;obtain⟨ji,OX,rfl,dy,jI,sZ,rfl,fb,k7⟩:=au;simp only[fL,fA]at h;rw[ni]at U;rcases h with rfl|h
  ·exact⟨k,v,by simp[mX],dy,fb⟩
  ·obtain⟨bT,v',g1,g2,g3⟩:=Wv (by simp at J;omega) U.2 k7 h;have cM:b≠e.born:=Nat.ne_of_lt (U.1 _ (Ki h));exact⟨bT,v',by simp[mX,cM,g1],g2,g3⟩
theorem akA{P:cG}{C:ft}{st:br}{a:Act}{w:World}{ν:bg}(aM:cY C st a w ν){o:Oper}{it:Operand}(nF:o.op= .next it false){d:Nat}(aR:o.dst=some d)(yu:jD C.N (some d)=true){v:ai}(aB:bd w ν v (a.eval it)){K:br->Prop}(he:r3 st d v K)
  {rQ:Act->World->Prop} {Q:Exit->Act->World->Prop} (c8:∀st' bq w' bt,K st'->cY C st' bq w' bt->rQ bq w'):o.wp P a w rQ Q:=by
 unfold r3 at he;split at he
 ·rename_i eR;split at he
  ·rename_i since seen last mk wF;split at he
   ·rename_i clock borns kvs yF;obtain⟨⟨rfl,rfl⟩,AK,o3⟩:=he;simp only[bd]at aB;obtain⟨bl,ch,ca⟩:=aB;obtain⟨iI,us,el,bc,bE,b1,c5,df⟩:=aM.good.box eR _ wF;rw[ch]at bc;cases bc;obtain⟨mb,ms,aue,m1,m2,m3,m4,m5⟩:=aM.good.box mk _ yF;simp only[jx,cW]at df;obtain⟨u,ct,hu,⟨aud,dy,rfl⟩,rfl⟩:=df;rw[m1]at dy;cases dy;simp only[j1,hu]at c5;simp only[j1]at m4;simp only[jx]at m5;obtain⟨n,mi⟩:=aoq (P:=P) (ty:=o.type) c5 m4 (fun e he=>m5.2.lt _ (Ki he));have mJ:∀v' w',(Instr.next (.pointer (some ⟨bl,0,none⟩)) false o.type).run P w= .ok v' w'->(execOp a.eval o).run P w= .ok (.value v') w':=by intro v' w' jc;obtain⟨dst,op,ty,pos,PK,wz⟩:=o;simp only at nF jc;subst nF;simp only[execOp,ca];exact E0 jc
    rcases mi with⟨J,U⟩|⟨e,J,U,au⟩
    ·refine my (mJ _ _ U) ?_;rw[aR];refine c8 _ _ _ _ (AK fun b ab=>?_) ((aM.drawn n).put yu (p:= .tuple [.bool false]) (by simp[bd,cW]));obtain⟨e,f1,f2⟩:=SZ m5.2.len (Il m5.1) ab;rw[<-f2];exact J e f1
    ·obtain⟨k,v,f1,f2,f3⟩:=Wv m5.2.len m5.2.inc m5.1 J;refine my (mJ _ _ au) ?_;rw[aR];have wQ:=((aM.drawn n).setBox (w':={w with drawn:=n,heap:=w.heap.setIfInBounds bl (.mapIter (some mb) last (seen++[e.born]).toArray last)}) wF ch (cs':=[.hdi last (seen++[e.born]) last,.gmap mk]) (us:=us) (el:=el) rfl rfl rfl
      (fun j ae=>Array.getElem?_setIfInBounds_ne (ld ae)) Ψ (by simp[j1,hu,(Array.getElem?_eq_some_iff.1 c5).1]) (by simp only[jx,cW];exact⟨_,_,hu,by simp only[bd];exact⟨mb,m1,rfl⟩,rfl⟩))
     refine c8 _ _ _ _ (o3 e.born k v f1 U) (wQ.1.put yu (p:= .tuple [.bool true,k,v]) ?_);simp only[bd];refine⟨_,rfl,?_⟩;simp only[cW];have k4:lK w ν {w with drawn:=n} ν:=⟨fun _ _ h=>⟨h,rfl⟩,fun _ _ _ h=>h,fun _ n u _ h=>⟨n,u,h,.inl ⟨rfl,rfl⟩⟩,fun _ _ _=>rfl,fun _ _ _ _ h=>h⟩;exact⟨_,_,rfl,by simp[bd],_,_,rfl,zq wQ.2 (zq k4 f2),_,_,rfl,zq wQ.2 (zq k4 f3),rfl⟩
   ·exact he.elim
  ·exact he.elim
 ·exact he.elim
theorem S3{P:cG}{bG:List (Nat×dH)}(aN:fS P bG=true){C:ft}{st:br}{a:Act}{w:World}{ν:bg}(aM:cY C st a w ν){i:er}{o:Oper}(ay:vI C.N bG i o=true){K:br->Prop}(he:uX P st K i)
  {rQ:Act->World->Prop} {Q:Exit->Act->World->Prop} (c8:∀st' bq w' bt,K st'->cY C st' bq w' bt->rQ bq w'):o.wp P a w rQ Q:=by
 cases i with
 |s i=>
  simp only[uX]at he;split at he
  ·rename_i c st' ag;exact aot aN aM (by simpa only[vI]using ay) ag he.1 fun bq w' bt h=>c8 _ _ _ _ he.2 h
  ·exact he.elim
 |next d x=>
  simp only[uX]at he;simp only[vI]at ay;split at ay
  ·rename_i it nF;simp only[cC,dV,fc]at ay;obtain⟨⟨J,U⟩,au⟩:=ay;exact akA aM nF J (by simpa[jD]using U) (ev aM au) he c8
  ·cases ay
 |call d f xs=>
  simp only[uX]at he;simp only[vI]at ay;split at ay
  ·rename_i r5 args eG nF;simp only[cC,dV]at ay;obtain⟨⟨⟨J,U⟩,au⟩,a6⟩:=ay;split at he
   ·rename_i n dg aJ;have:=ev aM au;rw[aJ]at this;exact Sr aM nF J U this (EA aM a6) he c8
   ·exact he.elim
  ·cases ay
theorem N2{C:ft}{st:br}{a:Act}{w:World}{ν:bg}(h:cY C st a w ν){s:Nat}{b:Bool}(ag:get s st.t= .bool b):cY C {st with t:=put s (.bool b) st.t} a w ν:=by
 refine⟨h.good,h.fr,h.defers,h.size,fun i=>?_,h.new⟩;have:=h.slot i;simp only[pV];split
 ·rename_i e;subst e;rw[<-ag];exact this
 ·exact this
theorem aar{C:ft}{st:br}{a:Act}{w:World}{ν:bg}(h:cY C st a w ν){ops:Array Oper}{j s:Nat}(ae:(ops.toList[j]?).bind (·.dst)=some s)(ag:s<C.N):
  (∀b,get s st.t= .bool b->yielded ops a.tmps j=some b)/\(get s st.t= .tuple []->yielded ops a.tmps j=none):=by
 have bD:s<a.tmps.size:=by rw[h.size];exact ag
 have ss:=h.slot s;have hr:a.tmps.getD s undef=a.tmps[s]:=by simp[Array.getD,bD]
 rw[hr]at ss;have aO:yielded ops a.tmps j=match a.tmps[s]with| .bool b=>some b|_=>none:=by unfold yielded;rw[uC]at ae;rw[ae];simp only[lf,Array.getElem?_eq_getElem bD];cases a.tmps[s]<;>rfl
 constructor
 ·intro b ab;rw[ab]at ss;simp only[bd]at ss;rw[aO,ss]
 ·intro ab;rw[ab]at ss;simp only[bd,cW]at ss;obtain⟨us,al,aE⟩:=ss;rw[aO,al]
theorem S6{P:cG}{bG:List (Nat×dH)}(aN:fS P bG=true){C:ft}{ops:Array Oper}{K:br->Prop}{Q:Exit->Act->World->Prop}(hV:∀st' bq w' bt,K st'->cY C st' bq w' bt->Q .normal bq w'):
  ∀(gs:List dd) (os:List Oper) (k:Nat),(∀j,os[j]? =ops[k+j]?)->kG C.N bG ops.toList gs os=true->∀(st:br) (a:Act) (w:World) (ν:bg),ig P gs st K->cY C st a w ν->wpOps P ops Q (List.range' k gs.length) a w
 |[],[],k,_,_,st,a,w,ν,he,aM=>by simp only[List.length_nil,List.range'_zero,wpOps];exact hV _ _ _ _ he aM
 |[],_::_,_,_,ad,_,_,_,_,_,_=>by simp[kG]at ad
 |_::_,[],_,_,ad,_,_,_,_,_,_=>by simp[kG]at ad
 |g::gs,o::os,k,AT,ad,st,a,w,ν,he,aM=>by
  simp only[kG,cC]at ad;have bs:ops[k]? =some o:=by simpa using(AT 0).symm
  have Du:∀j,os[j]? =ops[k+1+j]?:=fun j=>by have:=AT (j+1);simpa[Nat.add_assoc,Nat.add_comm 1 j]using this
  simp only[pD,List.range'_succ,wpOps,bs];have bR:∀st' bq w' bt,ig P gs st' K->cY C st' bq w' bt->wpOps P ops Q (List.range' (k+1) gs.length) bq w':=fun st' bq w' bt J U=>S6 aN hV gs os (k+1) Du ad.2 st' bq w' bt J U;obtain⟨nv,TX⟩:=g;have a7:=ad.1;simp only[CU,cC]at a7;obtain⟨ra,si⟩:=a7;cases nv with
  |none=>
   cases ej:o.guard with
   |some x=>simp[ej]at ra
   |none=>
    have hw:pA o (yielded ops a.tmps)=true:=by simp[pA,ej]
    rw[if_pos hw];simp only[ig]at he;exact .inl (S3 aN aM si he bR)
  |some zA=>
   obtain⟨s,want⟩:=zA;cases ej:o.guard with
   |none=>simp[ej]at ra
   |some x=>
    obtain⟨j,cb⟩:=x;simp only[ej,cC,dV,fc]at ra;obtain⟨⟨⟨⟨rfl,U⟩,au⟩,a6⟩,b3⟩:=ra;obtain⟨kV,pw⟩:=aar aM U au;simp only[ig]at he;split at he
    ·rename_i b ab;have aO:=kV b ab;by_cases e:b=want
     ·subst e;have hw:pA o (yielded ops a.tmps)=true:=by simp[pA,ej,aO]
      rw[if_pos hw];exact .inl (S3 aN (N2 aM ab) si (he.1 rfl) bR)
     ·have hw:¬(pA o (yielded ops a.tmps)=true):=by simp[pA,ej,aO,e]
      rw[if_neg hw];have fW:b= !want:=by cases b<;>cases want<;>simp at e⊢
      have mL:cY C {st with t:=put s (.bool !want) st.t} a w ν:=N2 aM (by rw[ab,fW]);rw[a6];exact bR _ _ _ _ (he.2 fW) (mL.put b3 (by simp[bd,cW,undef]))
    ·rename_i ab;have aO:=pw ab;have hw:¬(pA o (yielded ops a.tmps)=true):=by simp[pA,ej,aO]
     rw[if_neg hw,a6];exact bR _ _ _ _ he (aM.put b3 (by simp[bd,cW,undef]))
    ·exact he.elim
structure dm where
 t:Nat->ai
 b:aI->ba (List ai)
 e:aI->ba fY
 F:aI->Prop
structure kX where
 d:ba Nat
 p:ai
 bw:List (aI×List ai)
 ew:List (aI×fY)
 rm:ba aI
def iJ{α:Type}(l:List (aI×α))(f:aI->ba α):aI->ba α:=fun k=>match look k l with|some x=>some x|none=>f k
def dm.do(A:dm)(x:kX):dm:={t:=fun i=>if x.d=some i then x.p else A.t i,b:=iJ x.bw A.b,e:=iJ x.ew A.e,F:=fun k=>A.F k/\x.rm≠some k}
structure kX.apart (x y:kX):Prop where
 d:∀i,x.d=some i->y.d≠some i
 b:∀k,(look k x.bw).isSome->look k y.bw=none
 e:∀k,(look k x.ew).isSome->look k y.ew=none
theorem dm.do_comm(A:dm){x y:kX}(h:x.apart y):(A.do x).do y=(A.do y).do x:=by
 simp only[dm.do,dm.mk.injEq];refine⟨?_,?_,?_,?_⟩
 ·funext i;by_cases J:x.d=some i
  ·have:=h.d i J;simp[J,this]
  ·simp[J]
 ·funext k;simp only[iJ];cases af:look k x.bw with
  |none=>cases look k y.bw<;>rfl
  |some u=>rw[h.b k (by simp[af])]
 ·funext k;simp only[iJ];cases af:look k x.ew with
  |none=>cases look k y.ew<;>rfl
  |some u=>rw[h.e k (by simp[af])]
 ·funext k;exact propext ⟨fun h=>⟨⟨h.1.1,h.2⟩,h.1.2⟩,fun h=>⟨⟨h.1.1,h.2⟩,h.1.2⟩⟩
def dI(t:Nat->ai):dz->ai
 | .t i=>t i
 | .c p=>p
def sD(b:aI->ba (List ai))(e:aI->ba fY)(agg:Bool)(sz:Nat):ai->ba (Prop×ai)
 | .rptr dT k n i f=>zs agg sz dT n i f (e k)
 | .ptr k off=>
  match b k with
  |some cs=>if agg then some (gG cs=true/\off+sz<=cs.length,.agg ((cs.drop off).take sz))else(cs[off]?).map fun p=>(gG cs=true,p)
  |none=>none
 | .eptr p=>if agg then some (isAgg sz p,p)else some (eF p=true/\cells p=[p],p)
 |_=>none
def x1(t:Nat->ai):List ai->List (Nat×Nat×dz)->ba (Prop×List ai)
 |cs,[]=>some (True,cs)
 |cs,(off,sz,x)::r=>
  match x1 t (oA cs off (cells (dI t x))) r with
  |some (c,cs')=>some ((eF (dI t x)=true/\(cells (dI t x)).length=sz/\off+sz<=cs.length)/\c,cs')
  |none=>none
def qe(t:Nat->ai)(b:aI->ba (List ai))(e:aI->ba fY):gd->ba (Prop×ai)
 | .mov x=>some (True,dI t x)
 | .pick c x y=>HQ (dI t c) (dI t x) (dI t y)
 | .load agg sz x=>sD b e agg sz (dI t x)
 | .faddr off agg sz x=>q5 off agg sz (dI t x)
 | .fld off agg sz x=>u3 off agg sz (dI t x)
 | .iaddr sz x i=>A4 sz (dI t x) (dI t i)
 | .sidx x i=>Ix (dI t x) (dI t i)
 | .ssl x lo hi=>IC (dI t x) (lo.map (dI t)) (hi.map (dI t))
 | .lsl sz x lo hi=>Hp sz (dI t x) (lo.map (dI t)) (hi.map (dI t))
 | .bin op wr x y=>Cu op wr (dI t x) (dI t y)
 | .notB x=>HD (dI t x)
 | .neg x=>Hy (dI t x)
 | .conv k x=>FW k (dI t x)
 | .ext i x=>Ag i (dI t x)
 | .len x=>Bg (dI t x)
 | .slen x=>EK (dI t x)
 | .build zero parts=>(x1 t zero parts).map fun(c,cs)=>(c,.agg cs)
 | .nck x=>Br (dI t x)
 | .min2 x y=>Hx (dI t x) (dI t y)
 | .mkf n xs=>some (True,.func n (xs.map (dI t)))
 | .mget ck zero ok x k=>nM b ck zero ok (dI t x) (dI t k)
 | .ment x=>ov b (dI t x)
 | .mlen x=>Bq b (dI t x)
 | .beq neg ea x y=>iH neg ea (dI t x) (dI t y)
 | .max2 x y=>Ht (dI t x) (dI t y)
 | .mkif n x=>some (True,.iface n (dI t x))
 | .loadB agg sz x=>sD b (fun _=>none) agg sz (dI t x)
 | .mgetB ck zero ok x k=>nM b ck zero ok (dI t x) (dI t k)
 | .loadZ agg sz x=>CT agg sz (dI t x)
structure lJ (st:br) (A:dm):Prop where
 t:∀i,get i st.t=A.t i
 b:∀k,look k st.b=A.b k
 e:∀k,look k st.e=A.e k
theorem iX{st:br}{A:dm}(h:lJ st A)(x:dz):cv st.t x=dI A.t x:=by
 cases x
 ·exact h.t _
 ·rfl
theorem u0{st:br}{A:dm}(h:lJ st A):cv st.t=dI A.t:=funext (iX h)
theorem ajH{st:br}{A:dm}(h:lJ st A)(agg:Bool)(sz:Nat)(p:ai):mW st.b st.e agg sz p=sD A.b A.e agg sz p:=by
 cases p<;>simp only[mW,sD]
 ·rw[h.b];try rfl
 ·rw[h.e]
theorem ajI{st:br}{A:dm}(h:lJ st A)(agg:Bool)(sz:Nat)(p:ai):mW st.b [] agg sz p=sD A.b (fun _=>none) agg sz p:=by
 cases p<;>simp only[mW,sD]
 ·rw[h.b];try rfl
 ·rfl
theorem Qe{st:br}{A:dm}(h:lJ st A):∀(parts:List (Nat×Nat×dz)) (cs:List ai),uS st.t cs parts=x1 A.t cs parts
 |[],cs=>rfl
 |(off,sz,x)::r,cs=>by simp only[uS,x1,iX h,Qe h r];try rfl
theorem ZC{st:br}{A:dm}(h:lJ st A)(i:gd):hy st i=qe A.t A.b A.e i:=by have ab:(fun k=>look k st.b)=A.b:=funext h.b;cases i<;>simp only[hy,qe,u0 h,ajH h,ajI h,Qe h,ab]
def hv:dz->List Nat
 | .t i=>[i]
 | .c _=>[]
def Nj:ba dz->List Nat
 |some x=>hv x
 |none=>[]
def gd.looks:gd->List Nat
 | .mov x| .load _ _ x| .loadB _ _ x| .loadZ _ _ x| .faddr _ _ _ x| .fld _ _ _ x| .notB x| .neg x| .conv _ x| .ext _ x| .len x| .slen x| .nck x| .ment x| .mlen x| .mkif _ x=>hv x
 | .pick c x y=>hv c++hv x++hv y
 | .iaddr _ x i| .sidx x i=>hv x++hv i
 | .ssl x lo hi| .lsl _ x lo hi=>hv x++Nj lo++Nj hi
 | .bin _ _ x y| .min2 x y| .max2 x y| .beq _ _ x y=>hv x++hv y
 | .build _ b0=>b0.flatMap fun p=>hv p.2.2
 | .mkf _ xs=>xs.flatMap hv
 | .mget _ _ _ x k| .mgetB _ _ _ x k=>hv x++hv k
def ey.looks:ey->List Nat
 | .v _ i=>i.looks
 | .box _ _ x=>hv x
 | .alloc _ _ _=>[]
 | .store _ x y=>hv x++hv y
 | .storeE _ x y=>hv x++hv y
 | .bsl _ _ _ xs=>xs.flatMap hv
 | .app _ _ _ x y=>hv x++hv y
 | .bslm _ _ _ _ xs=>xs.flatMap hv
 | .mks _ _ _ _ _ x=>hv x
 | .appm _ _ _ _ x y=>hv x++hv y
 | .mkmap _ _=>[]
 | .mput _ x k y=>hv x++hv k++hv y
 | .range _ _ x=>hv x
def er.looks:er->List Nat
 | .s i=>i.looks
 | .call _ f xs=>hv f++xs.flatMap hv
 | .next _ x=>hv x
def dd.looks(g:dd):List Nat:=(match g.g with|some (s,_)=>[s]|none=>[])++g.i.looks
def qV(l:List Nat)(t dZ:Nat->ai):Prop:= ∀i∈l,t i=dZ i
theorem gC{t dZ:Nat->ai}{x:dz}(h:qV (hv x) t dZ):dI t x=dI dZ x:=by
 cases x
 ·exact h _ (by simp[hv])
 ·rfl
theorem kD{l aZ:List Nat}{t dZ:Nat->ai}(h:qV (l++aZ) t dZ):qV l t dZ/\qV aZ t dZ:=⟨fun i hi=>h i (by simp[hi]),fun i hi=>h i (by simp[hi])⟩
theorem F3{t dZ:Nat->ai}{x:ba dz}(h:qV (Nj x) t dZ):x.map (dI t)=x.map (dI dZ):=by
 cases x
 ·rfl
 ·simp[gC h]
theorem Qd{t dZ:Nat->ai}:∀{parts:List (Nat×Nat×dz)} {cs:List ai},qV (parts.flatMap fun p=>hv p.2.2) t dZ->x1 t cs parts=x1 dZ cs parts
 |[],cs,_=>rfl
 |(off,sz,x)::r,cs,h=>by simp only[List.flatMap_cons]at h;obtain⟨J,U⟩:=kD h;simp only[x1,gC J,Qd U]
theorem Hs{t dZ:Nat->ai}:∀{xs:List dz},qV (xs.flatMap hv) t dZ->xs.map (dI t)=xs.map (dI dZ)
 |[],_=>rfl
 |x::xs,h=>by simp only[List.flatMap_cons]at h;obtain⟨J,U⟩:=kD h;simp[gC J,Hs U]
def gd.isLoad:gd->Bool
 | .load _ _ _=>true
 | .loadB _ _ _=>true
 | .mgetB _ _ _ _ _=>true
 | .mget _ _ _ _ _=>true
 | .ment _=>true
 | .mlen _=>true
 |_=>false
theorem apB{t dZ:Nat->ai}{b cb:aI->ba (List ai)}{e ff:aI->ba fY}{i:gd}(h:qV i.looks t dZ)(ab:i.isLoad=false):qe t b e i=qe dZ cb ff i:=by
 cases i<;>simp only[gd.looks]at h<;>simp only[qe];case load agg sz x=>simp[gd.isLoad]at ab
 case loadB agg sz x=>simp[gd.isLoad]at ab
 case pick c x y=>obtain⟨J,au⟩:=kD h;obtain⟨J,U⟩:=kD J;rw[gC J,gC U,gC au]
 case iaddr=>obtain⟨J,U⟩:=kD h;rw[gC J,gC U]
 case sidx=>obtain⟨J,U⟩:=kD h;rw[gC J,gC U]
 case ssl=>obtain⟨J,au⟩:=kD h;obtain⟨J,U⟩:=kD J;rw[gC J,F3 U,F3 au]
 case lsl=>obtain⟨J,au⟩:=kD h;obtain⟨J,U⟩:=kD J;rw[gC J,F3 U,F3 au]
 case bin=>obtain⟨J,U⟩:=kD h;rw[gC J,gC U]
 case min2=>obtain⟨J,U⟩:=kD h;rw[gC J,gC U]
 case build=>rw[Qd h]
 case mkf=>rw[Hs h]
 case mget=>simp[gd.isLoad]at ab
 case mgetB=>simp[gd.isLoad]at ab
 case ment=>simp[gd.isLoad]at ab
 case mlen=>simp[gd.isLoad]at ab
 case max2=>obtain⟨J,U⟩:=kD h;rw[gC J,gC U]
 case beq=>obtain⟨J,U⟩:=kD h;rw[gC J,gC U]
 all_goals rw[gC h]
end
end Go.Pv
