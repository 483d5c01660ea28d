/- Rows of the call's own: a new one, and one that is appended to in place. -/
import Derived.WalkKit
import Derived.Orders
import Derived.KernelRfl
import Derived.IntWalk
import Derived.Laws.StructEq
import Derived.ChangeKeysEq
import Derived.MapKept
import Derived.ArgAppend
set_option linter.all false
set_option maxHeartbeats 4000000
set_option maxRecDepth 4000
namespace Go
theorem Ω{p:Prop}(h:p:=by omega):p:=h
theorem Ψ{p:Prop}(h:p:=by simp):p:=h
end Go
open BitVec renaming ofInt->ra
open Bool renaming and_eq_true->bB,false_eq_true->iR
open ByteArray renaming empty->ak8,ext->agX,push->ak9,size->UF
open Go renaming Program->bW,TypeId->gx
open Go.ByteArray renaming toList_eq->agY
open Go.IntKind renaming i64->iF
open Go.IntWalk renaming i64_in->lx
open Go.Result renaming andThen_ok->e8
open Go.Sem renaming run_bind->e2,run_pure->fC
open Go.Value renaming cells->l1,int->mE,ownBlock->ni
open Go.Value.pointer renaming injEq->alf
open List renaming all_eq_true->gC,cons_append->iT,eq_nil_of_length_eq_zero->l3,getElem?_eq_getElem->bO,getElem?_eq_some_iff->cX,getElem?_map->oG,length_append->dF,length_cons->e3,length_drop->kH,length_nil->nj,length_take->pt,map_cons->eQ,mem_append->iG,mem_cons->gH,take_succ_cons->pz
open List.cons renaming injEq->AB
open Nat renaming le_refl->da
open Option renaming isSome_iff_exists->fv,isSome_none->tE,map_eq_some_iff->hT,map_some->su
open Option.some renaming injEq->dL
open Prod.mk renaming injEq->gp
open UInt8 renaming ofNat->pA
open _root_ renaming ByteArray->kG,False->dK,Option->be,UInt8->aF,beq_iff_eq->dO,congrArg->fT,decide_eq_true_eq->ef,if_neg->bf,if_pos->bN
namespace Go.Pv
section
open Go Go.RowKit
inductive aJ where
 |loc (s:Nat)
 |obj (n:Nat)
 deriving DecidableEq,Inhabited
inductive yN where
 |no
 |nil
 |own (k:aJ)
 |tr (k:aJ) (j:Nat)
 |lo (k:aJ)
 deriving DecidableEq,Inhabited
inductive ag where
 |junk
 |int (k:IntKind) (n:Int)
 |bool (b:Bool)
 |str (s:List aF)
 |slice (sz:Nat) (tag:yN) (xs:List ag)
 |agg (cs:List ag)
 |ptr (key:aJ) (off:Nat)
 |eptr (x:ag)
 |iface (t:Nat) (x:ag)
 |nilp
 |tuple (vs:List ag)
 |func (f:Nat) (dI:List ag)
 |gmap (key:aJ)
 |row (sz:Nat) (key:aJ) (n:Nat)
 |rptr (sz:Nat) (key:aJ) (n i f:Nat)
 |hdm (clock:Nat) (borns:List Nat)
 |hdi (since:Nat) (seen:List Nat) (last:Nat)
 |cst (v:Value)
 deriving Inhabited
structure aT where
 A:Nat->Nat->Prop
 bx:aJ->be Nat
 ow:aJ->be (Nat×Value)
 tr:aJ->Nat->Nat->Prop
def bA:Nat:=68719476736
def kg(w:World)(A:Nat->Nat->Prop)(b:Nat):Nat->List Value->Prop
 |_,[]=>True
 |off,u::us=>(A b off/\w.cell? ⟨b,off,none⟩=some u)/\kg w A b (off+1) us
def shape(w:World)(b:Nat):be (Nat×gx×(Nat×Nat)):=
 match w.heap[b]? with
 |some (.cells cur el fz)=>some (cur.size,el,fz)
 |_=>none
theorem yp{w w':World}{b:Nat}(h:w'.heap[b]? =w.heap[b]?):shape w' b=shape w b:=by unfold shape;rw[h]
mutual
def dy(t:Bool)(w:World)(A:Nat->Nat->Prop)(F:Nat->Prop):ag->Value->Prop
 | .int k n,v=>v= .int k n
 | .bool b,v=>v= .bool b
 | .str s,v=>v= .string ⟨s.toArray⟩/\s.length<=bA
 | .slice sz _ xs,v=> ∃a cap,v= .slice a xs.length cap/\xs.length<=cap/\(cap<=maxLen/\xs.length<=bA)/\
   (xs=[]\/ ∃b off us G,a=some ⟨b,off,none⟩/\F b/\(∀c,G c->F c/\(t=true->c≠b))/\kg w A b off us/\(t=true->off=0/\0<us.length/\∃el,shape w b=some (cap*sz,el,(0,0)))/\n3 t w A G sz xs us)
 | .agg cs,v=> ∃us:Array Value,v= .agg us/\n4 t w A F cs us.toList
 |_,_=>dK
def n4(t:Bool)(w:World)(A:Nat->Nat->Prop)(F:Nat->Prop):List ag->List Value->Prop
 |[],us=>us=[]
 |c::cs,us=> ∃u bF jx jy,us=u::bF/\((∀b,jx b->F b)/\(∀b,jy b->F b)/\(t=true->∀b,jx b->¬jy b))/\(dy t w A jx c u/\u.oneCell'=true)/\n4 t w A jy cs bF
def n3(t:Bool)(w:World)(A:Nat->Nat->Prop)(F:Nat->Prop)(sz:Nat):List ag->List Value->Prop
 |[],us=>us=[]
 |x::xs,us=> ∃u bF jx jy,us=u.cells.toList++bF/\((∀b,jx b->F b)/\(∀b,jy b->F b)/\(t=true->∀b,jx b->¬jy b))/\(dy t w A jx x u/\u.cells.size=sz/\(∀c∈u.cells.toList,c.oneCell'=true))/\n3 t w A jy sz xs bF
end
mutual
def aR(w:World)(ν:aT):ag->Value->Prop
 | .junk,_=>True
 | .int k n,v=>v= .int k n
 | .bool b,v=>v= .bool b
 | .str s,v=>v= .string ⟨s.toArray⟩/\s.length<=bA
 | .slice sz tag xs,v=>
   (∃a cap,v= .slice a xs.length cap/\xs.length<=cap/\(cap<=maxLen/\xs.length<=bA)/\(xs=[]\/ ∃b off us,a=some ⟨b,off,none⟩/\kg w ν.A b off us/\cI w ν sz xs us))/\
   (tag= .nil->v= .slice none 0 0)/\
   (∀g,tag= .own g->∃n u,ν.ow g=some (n,u)/\xs.length<=n/\(xs.length=n->v=u))/\
   (∀k j,tag= .tr k j->dy true w ν.A (ν.tr k j) (.slice sz tag xs) v)/\(∀k,tag= .lo k->dy false w ν.A (ν.tr k 0) (.slice sz tag xs) v)
 | .agg cs,v=> ∃us:Array Value,v= .agg us/\cG w ν cs us.toList
 | .ptr key off,v=> ∃b,ν.bx key=some b/\v= .pointer (some ⟨b,off,none⟩)
 | .eptr x,v=> ∃b off u,v= .pointer (some ⟨b,off,none⟩)/\aR w ν x u/\kg w ν.A b off u.cells.toList
 | .iface t x,v=> ∃u,v= .iface t u/\aR w ν x u
 | .nilp,v=>v= .pointer none
 | .tuple vs,v=> ∃us:Array Value,v= .tuple us/\cD w ν vs us.toList
 | .func f dI,v=> ∃us:Array Value,v= .func (.func f) #[] us/\cD w ν dI us.toList
 | .gmap key,v=> ∃b,ν.bx key=some b/\v= .map (some b)
 | .row _ key n,v=>(∃b cap,v= .slice (some ⟨b,0,none⟩) n cap)/\n<=bA/\∃n' u,ν.ow key=some (n',u)/\n<=n'/\(n=n'->v=u)
 | .rptr sz key n i f,v=>(∃b o,v= .pointer (some ⟨b,o,none⟩))/\i<n/\∃n' u,ν.ow key=some (n',u)/\n<=n'/\(n=n'->∃b,u.ownBlock=some b/\v= .pointer (some ⟨b,i*sz+f,none⟩))
 | .hdm _ _,_=>dK
 | .hdi _ _ _,_=>dK
 | .cst c,v=>v=c
def cG(w:World)(ν:aT):List ag->List Value->Prop
 |[],us=>us=[]
 |c::cs,us=> ∃u bF,us=u::bF/\(aR w ν c u/\u.oneCell'=true)/\cG w ν cs bF
def cD(w:World)(ν:aT):List ag->List Value->Prop
 |[],us=>us=[]
 |c::cs,us=> ∃u bF,us=u::bF/\aR w ν c u/\cD w ν cs bF
def cI(w:World)(ν:aT)(sz:Nat):List ag->List Value->Prop
 |[],us=>us=[]
 |x::xs,us=> ∃u bF,us=u.cells.toList++bF/\(aR w ν x u/\u.cells.size=sz/\(∀c∈u.cells.toList,c.oneCell'=true))/\cI w ν sz xs bF
end
theorem vZ{w w':World}{A A':Nat->Nat->Prop}{b:Nat}(bg:∀b o,A b o->A' b o/\w'.cell? ⟨b,o,none⟩=w.cell? ⟨b,o,none⟩):
  ∀(us:List Value) (off:Nat),kg w A b off us->kg w' A' b off us
 |[],_,_=>trivial
 |_::us,off,h=>⟨⟨(bg _ _ h.1.1).1,(bg _ _ h.1.1).2.trans h.1.2⟩,vZ bg us (off+1) h.2⟩
mutual
theorem xo{t:Bool}{w w':World}{A A':Nat->Nat->Prop}(bg:∀b o,A b o->A' b o/\w'.cell? ⟨b,o,none⟩=w.cell? ⟨b,o,none⟩)(ao:∀b o,A b o->shape w' b=shape w b):∀(p:ag) (F oH:Nat->Prop) (v:Value),(∀b,F b->oH b)->dy t w A F p v->dy t w' A' oH p v
 | .int k n,_,_,_,_,h=>by simp only[dy]at h⊢;exact h
 | .bool b,_,_,_,_,h=>by simp only[dy]at h⊢;exact h
 | .str s,_,_,_,_,h=>by simp only[dy]at h⊢;exact h
 | .slice sz tag xs,F,oH,v,eW,h=>by
  simp only[dy]at h⊢;obtain⟨a,cap,I,J,av,aV⟩:=h;refine⟨a,cap,I,J,av,?_⟩;rcases aV with aV|⟨b,off,us,G,aq,aU,bR,ds,hn,gY⟩
  ·exact .inl aV
  ·refine .inr ⟨b,off,us,G,aq,eW _ aU,fun c aD=>⟨eW _ (bR c aD).1,(bR c aD).2⟩,vZ bg _ _ ds,fun aI=>?_,Eb bg ao xs G G _ (fun _ h=>h) gY⟩;obtain⟨f1,f2,el,f3⟩:=hn aI;refine⟨f1,f2,el,?_⟩;cases us with
   |nil=>simp at f2
   |cons u us=>rw[ao b off ds.1.1];exact f3
 | .agg cs,F,oH,v,eW,h=>by simp only[dy]at h⊢;obtain⟨us,I,J⟩:=h;exact⟨us,I,O9 bg ao cs F oH _ eW J⟩
 | .junk,_,_,_,_,h=>by simp[dy]at h
 | .ptr _ _,_,_,_,_,h=>by simp[dy]at h
 | .eptr _,_,_,_,_,h=>by simp[dy]at h
 | .iface _ _,_,_,_,_,h=>by simp[dy]at h
 | .nilp,_,_,_,_,h=>by simp[dy]at h
 | .tuple _,_,_,_,_,h=>by simp[dy]at h
 | .func _ _,_,_,_,_,h=>by simp[dy]at h
 | .gmap _,_,_,_,_,h=>by simp[dy]at h
 | .row _ _ _,_,_,_,_,h=>by simp[dy]at h
 | .rptr _ _ _ _ _,_,_,_,_,h=>by simp[dy]at h
 | .hdm _ _,_,_,_,_,h=>by simp[dy]at h
 | .hdi _ _ _,_,_,_,_,h=>by simp[dy]at h
 | .cst _,_,_,_,_,h=>by simp[dy]at h
theorem O9{t:Bool}{w w':World}{A A':Nat->Nat->Prop}(bg:∀b o,A b o->A' b o/\w'.cell? ⟨b,o,none⟩=w.cell? ⟨b,o,none⟩)(ao:∀b o,A b o->shape w' b=shape w b):∀(cs:List ag) (F oH:Nat->Prop) (us:List Value),(∀b,F b->oH b)->n4 t w A F cs us->n4 t w' A' oH cs us
 |[],_,_,_,_,h=>by simp only[n4]at h⊢;exact h
 |c::cs,F,oH,us,eW,h=>by simp only[n4]at h⊢;obtain⟨u,bF,jx,jy,I,⟨J,av,aV⟩,⟨bE,ch⟩,dD⟩:=h;exact⟨u,bF,jx,jy,I,⟨fun b af=>eW _ (J b af),fun b af=>eW _ (av b af),aV⟩,⟨xo bg ao c jx jx u (fun _ h=>h) bE,ch⟩,O9 bg ao cs jy jy bF (fun _ h=>h) dD⟩
theorem Eb{t:Bool}{w w':World}{A A':Nat->Nat->Prop}(bg:∀b o,A b o->A' b o/\w'.cell? ⟨b,o,none⟩=w.cell? ⟨b,o,none⟩)(ao:∀b o,A b o->shape w' b=shape w b){sz:Nat}:∀(cs:List ag) (F oH:Nat->Prop) (us:List Value),(∀b,F b->oH b)->n3 t w A F sz cs us->n3 t w' A' oH sz cs us
 |[],_,_,_,_,h=>by simp only[n3]at h⊢;exact h
 |c::cs,F,oH,us,eW,h=>by simp only[n3]at h⊢;obtain⟨u,bF,jx,jy,I,⟨J,av,aV⟩,⟨bE,ch⟩,dD⟩:=h;exact⟨u,bF,jx,jy,I,⟨fun b af=>eW _ (J b af),fun b af=>eW _ (av b af),aV⟩,⟨xo bg ao c jx jx u (fun _ h=>h) bE,ch⟩,Eb bg ao cs jy jy bF (fun _ h=>h) dD⟩
end
mutual
def ak(S:aJ->Prop):ag->Prop
 | .slice _ tag xs=>(match tag with| .own k=>S k| .tr k _=>S k| .lo k=>S k|_=>True)/\ai S xs
 | .agg cs=>ai S cs
 | .ptr k _=>S k
 | .eptr x=>ak S x
 | .iface _ x=>ak S x
 | .tuple vs=>ai S vs
 | .func _ dI=>ai S dI
 | .gmap k=>S k
 | .row _ k _=>S k
 | .rptr _ k _ _ _=>S k
 |_=>True
def ai(S:aJ->Prop):List ag->Prop
 |[]=>True
 |x::xs=>ak S x/\ai S xs
end
mutual
theorem uA{S T:aJ->Prop}(h:∀k,S k->T k):∀p:ag,ak S p->ak T p
 | .junk,_=>by simp[ak]
 | .int _ _,_=>by simp[ak]
 | .bool _,_=>by simp[ak]
 | .str _,_=>by simp[ak]
 | .slice sz tag xs,bq=>by simp only[ak]at bq⊢;exact⟨by cases tag<;>first|trivial|exact h _ bq.1,ux h xs bq.2⟩
 | .agg cs,bq=>by simp only[ak]at bq⊢;exact ux h cs bq
 | .ptr k _,bq=>by simp only[ak]at bq⊢;exact h _ bq
 | .eptr x,bq=>by simp only[ak]at bq⊢;exact uA h x bq
 | .iface _ x,bq=>by simp only[ak]at bq⊢;exact uA h x bq
 | .nilp,_=>by simp[ak]
 | .tuple vs,bq=>by simp only[ak]at bq⊢;exact ux h vs bq
 | .func _ dI,bq=>by simp only[ak]at bq⊢;exact ux h dI bq
 | .gmap k,bq=>by simp only[ak]at bq⊢;exact h _ bq
 | .row _ k _,bq=>by simp only[ak]at bq⊢;exact h _ bq
 | .rptr _ k _ _ _,bq=>by simp only[ak]at bq⊢;exact h _ bq
 | .hdm _ _,_=>by simp[ak]
 | .hdi _ _ _,_=>by simp[ak]
 | .cst _,_=>by simp[ak]
theorem ux{S T:aJ->Prop}(h:∀k,S k->T k):∀bY:List ag,ai S bY->ai T bY
 |[],_=>by simp[ai]
 |x::xs,bq=>by simp only[ai]at bq⊢;exact⟨uA h x bq.1,ux h xs bq.2⟩
end
mutual
theorem Fs:∀p:ag,ak (fun _=>True) p
 | .junk=>by simp[ak]
 | .int _ _=>by simp[ak]
 | .bool _=>by simp[ak]
 | .str _=>by simp[ak]
 | .slice sz tag xs=>by simp only[ak];exact⟨by cases tag<;>trivial,vX xs⟩
 | .agg cs=>by simp only[ak];exact vX cs
 | .ptr k _=>by simp[ak]
 | .eptr x=>by simp only[ak];exact Fs x
 | .iface _ x=>by simp only[ak];exact Fs x
 | .nilp=>by simp[ak]
 | .tuple vs=>by simp only[ak];exact vX vs
 | .func _ dI=>by simp only[ak];exact vX dI
 | .gmap k=>by simp[ak]
 | .row _ k _=>by simp[ak]
 | .rptr _ k _ _ _=>by simp[ak]
 | .hdm _ _=>by simp[ak]
 | .hdi _ _ _=>by simp[ak]
 | .cst _=>by simp[ak]
theorem vX:∀bY:List ag,ai (fun _=>True) bY
 |[]=>by simp[ai]
 |x::xs=>by simp only[ai];exact⟨Fs x,vX xs⟩
end
def fk:List Nat->List Value->List MapEntry
 |b::eE,k::v::r=>⟨k,v,b⟩::fk eE r
 |_,_=>[]
def iz(cs:List ag)(us:Array Value)(el:gx):Obj:=
 match cs with
 | .hdm clock borns::_=>.map (fk borns us.toList).toArray clock
 | .hdi since seen last::_=>.mapIter (match us.toList with|[.map m]=>m|_=>none) since seen.toArray last
 |_=>.cells us el
structure acG (clock:Nat) (borns:List Nat) (r:List ag):Prop where
 len:r.length=2*borns.length
 inc:borns.Pairwise (· < ·)
 lt:∀b∈borns,b<clock
def hQ(w:World)(ν:aT)(cs:List ag)(us:List Value):Prop:=
 match cs with
 | .hdm clock borns::r=>cD w ν r us/\acG clock borns r
 | .hdi _ _ _::r=>cD w ν r us
 |cs=>cG w ν cs us
def iB:List ag->Bool
 | .hdm _ _::_=>false
 | .hdi _ _ _::_=>false
 |_=>true
theorem yj{w:World}{ν:aT}{cs:List ag}{us:List Value}(h:cG w ν cs us):iB cs=true:=by
 unfold iB;split
 ·simp only[cG,aR]at h;obtain⟨_,_,_,⟨h,_⟩,_⟩:=h;exact h.elim
 ·simp only[cG,aR]at h;obtain⟨_,_,_,⟨h,_⟩,_⟩:=h;exact h.elim
 ·rfl
theorem p5{cs:List ag}(h:iB cs=true)(us:Array Value)(el:gx):iz cs us el= .cells us el:=by
 unfold iB at h;unfold iz;split at h<;>first|cases h|skip
 rfl
theorem pc{w:World}{ν:aT}{cs:List ag}(h:iB cs=true)(us:List Value):hQ w ν cs us=cG w ν cs us:=by
 unfold iB at h;unfold hQ;split at h<;>first|cases h|skip
 rfl
structure nS (S:aJ->Prop) (w:World) (ν:aT) (w':World) (ν':aT):Prop where
 A:∀b o,ν.A b o->ν'.A b o/\w'.cell? ⟨b,o,none⟩=w.cell? ⟨b,o,none⟩
 bx:∀k b,S k->ν.bx k=some b->ν'.bx k=some b
 ow:∀g n u,S g->ν.ow g=some (n,u)->∃n' e7,ν'.ow g=some (n',e7)/\(n'=n/\e7=u\/n<n')
 sh:∀b o,ν.A b o->shape w' b=shape w b
 tr:∀k j b,S k->ν.tr k j b->ν'.tr k j b
abbrev lA:=nS (fun _=>True)
mutual
theorem sd{S:aJ->Prop}{w w':World}{ν ν':aT}(aj:nS S w ν w' ν'):∀(p:ag) (v:Value),ak S p->aR w ν p v->aR w' ν' p v
 | .junk,_,_,_=>by simp[aR]
 | .int k n,_,_,h=>by simp only[aR]at h⊢;exact h
 | .bool b,_,_,h=>by simp only[aR]at h⊢;exact h
 | .str s,_,_,h=>by simp only[aR]at h⊢;exact h
 | .slice sz tag xs,v,aa,h=>by
  simp only[aR,ak]at h aa⊢;obtain⟨⟨a,cap,I,J,av,aV⟩,bE,ch,fa,eb⟩:=h;refine⟨⟨a,cap,I,J,av,?_⟩,bE,fun g aO=>?_,fun k j gz=>?_,fun k gz=>?_⟩
  ·rcases aV with aV|⟨b,off,us,aV,ch,dD⟩
   ·exact .inl aV
   ·exact .inr ⟨b,off,us,aV,vZ aj.A _ _ ch,Gf aj sz xs us aa.2 dD⟩
  ·obtain⟨n,u,aq,aU,bR⟩:=ch g aO;subst aO;obtain⟨n',e7,f1,f2⟩:=aj.ow g n u aa.1 aq;refine⟨n',e7,f1,?_⟩;rcases f2 with⟨rfl,rfl⟩|f2
   ·exact⟨aU,bR⟩
   ·exact⟨Ω,fun e=>Ω⟩
  ·have:=fa k j gz;subst gz;exact xo aj.A aj.sh _ _ _ _ (fun b=>aj.tr k j b aa.1) this
  ·have:=eb k gz;subst gz;exact xo aj.A aj.sh _ _ _ _ (fun b=>aj.tr k 0 b aa.1) this
 | .agg cs,v,aa,h=>by simp only[aR,ak]at h aa⊢;obtain⟨us,I,J⟩:=h;exact⟨us,I,Gh aj cs _ aa J⟩
 | .ptr key off,v,aa,h=>by simp only[aR,ak]at h aa⊢;obtain⟨b,I,J⟩:=h;exact⟨b,aj.bx _ _ aa I,J⟩
 | .iface t x,v,aa,h=>by simp only[aR,ak]at h aa⊢;obtain⟨u,I,J⟩:=h;exact⟨u,I,sd aj x u aa J⟩
 | .eptr x,v,aa,h=>by simp only[aR,ak]at h aa⊢;obtain⟨b,off,u,I,J,av⟩:=h;exact⟨b,off,u,I,sd aj x u aa J,vZ aj.A _ _ av⟩
 | .nilp,_,_,h=>by simp only[aR]at h⊢;exact h
 | .tuple vs,v,aa,h=>by simp only[aR,ak]at h aa⊢;obtain⟨us,I,J⟩:=h;exact⟨us,I,Ai aj vs _ aa J⟩
 | .func f dI,v,aa,h=>by simp only[aR,ak]at h aa⊢;obtain⟨us,I,J⟩:=h;exact⟨us,I,Ai aj dI _ aa J⟩
 | .gmap key,v,aa,h=>by simp only[aR,ak]at h aa⊢;obtain⟨b,I,J⟩:=h;exact⟨b,aj.bx _ _ aa I,J⟩
 | .row sz key n,v,aa,h=>by
  simp only[aR,ak]at h aa⊢;obtain⟨I,J,n',u,av,aV,bE⟩:=h;obtain⟨fH,h7,f1,f2⟩:=aj.ow key n' u aa av;refine⟨I,J,fH,h7,f1,?_⟩;rcases f2 with⟨rfl,rfl⟩|f2
  ·exact⟨aV,bE⟩
  ·exact⟨Ω,fun e=>Ω⟩
 | .rptr sz key n i f,v,aa,h=>by
  simp only[aR,ak]at h aa⊢;obtain⟨I,J,n',u,av,aV,bE⟩:=h;obtain⟨fH,h7,f1,f2⟩:=aj.ow key n' u aa av;refine⟨I,J,fH,h7,f1,?_⟩;rcases f2 with⟨rfl,rfl⟩|f2
  ·exact⟨aV,bE⟩
  ·exact⟨Ω,fun e=>Ω⟩
 | .hdm _ _,_,_,h=>by simp only[aR]at h
 | .hdi _ _ _,_,_,h=>by simp only[aR]at h
 | .cst c,_,_,h=>by simp only[aR]at h⊢;exact h
theorem Gh{S:aJ->Prop}{w w':World}{ν ν':aT}(aj:nS S w ν w' ν'):∀(cs:List ag) (us:List Value),ai S cs->cG w ν cs us->cG w' ν' cs us
 |[],_,_,h=>by simp only[cG]at h⊢;exact h
 |c::cs,us,aa,h=>by simp only[cG,ai]at h aa⊢;obtain⟨u,bF,I,J,av⟩:=h;exact⟨u,bF,I,⟨sd aj c u aa.1 J.1,J.2⟩,Gh aj cs bF aa.2 av⟩
theorem Ai{S:aJ->Prop}{w w':World}{ν ν':aT}(aj:nS S w ν w' ν'):∀(cs:List ag) (us:List Value),ai S cs->cD w ν cs us->cD w' ν' cs us
 |[],_,_,h=>by simp only[cD]at h⊢;exact h
 |c::cs,us,aa,h=>by simp only[cD,ai]at h aa⊢;obtain⟨u,bF,I,J,av⟩:=h;exact⟨u,bF,I,sd aj c u aa.1 J,Ai aj cs bF aa.2 av⟩
theorem Gf{S:aJ->Prop}{w w':World}{ν ν':aT}(aj:nS S w ν w' ν')(sz:Nat):∀(xs:List ag) (us:List Value),ai S xs->cI w ν sz xs us->cI w' ν' sz xs us
 |[],_,_,h=>by simp only[cI]at h⊢;exact h
 |x::xs,us,aa,h=>by simp only[cI,ai]at h aa⊢;obtain⟨u,bF,I,⟨J,av,aV⟩,bE⟩:=h;exact⟨u,bF,I,⟨sd aj x u aa.1 J,av,aV⟩,Gf aj sz xs bF aa.2 bE⟩
end
theorem Tg{S:aJ->Prop}{w w':World}{ν ν':aT}(aj:nS S w ν w' ν'){cs:List ag}{us:List Value}(aa:ai S cs)(h:hQ w ν cs us):hQ w' ν' cs us:=by
 unfold hQ at h⊢;split
 ·simp only[ai]at aa;exact⟨Ai aj _ _ aa.2 h.1,h.2⟩
 ·simp only[ai]at aa;exact Ai aj _ _ aa.2 h
 ·rename_i I J;split at h
  ·exact absurd rfl (I _ _ _)
  ·exact absurd rfl (J _ _ _ _)
  ·exact Gh aj _ _ aa h
section
variable {w w':World} {ν ν':aT} (aj:lA w ν w' ν')
include aj
theorem uV{p:ag}{v:Value}(h:aR w ν p v):aR w' ν' p v:=sd aj p v (Fs p) h
theorem Tn{p:List ag}{v:List Value}(h:cG w ν p v):cG w' ν' p v:=Gh aj p v (vX p) h
theorem pe{p:List ag}{v:List Value}(h:hQ w ν p v):hQ w' ν' p v:=Tg aj (vX p) h
theorem Ae{sz:Nat}{p:List ag}{v:List Value}(h:cI w ν sz p v):cI w' ν' sz p v:=Gf aj sz p v (vX p) h
end
end
section
open Go Go.RowKit
def get(k:Nat):List (Nat×ag)->ag
 |[]=>.junk
 |(i,p)::r=>if i=k then p else get k r
def put(k:Nat)(p:ag):List (Nat×ag)->List (Nat×ag)
 |[]=>[(k,p)]
 |(i,q)::r=>if i=k then(i,p)::r else(i,q)::put k p r
def look{α:Type}(k:aJ):List (aJ×α)->be α
 |[]=>none
 |(i,p)::r=>if i=k then some p else look k r
def cR{α:Type}(k:aJ)(p:α):List (aJ×α)->List (aJ×α)
 |[]=>[(k,p)]
 |(i,q)::r=>if i=k then(i,p)::r else(i,q)::cR k p r
theorem pM(k j:Nat)(p:ag):∀l,get j (put k p l)=if k=j then p else get j l
 |[]=>by simp[get,put]
 |(i,q)::r=>by
  by_cases h:i=k
  ·subst h;by_cases J:i=j<;>simp[get,put,J]
  ·by_cases J:i=j
   ·subst J;simp[get,put,h,Ne.symm h]
   ·simp[get,put,h,J,pM k j p r]
theorem jr{α:Type}(k j:aJ)(p:α):∀l,look j (cR k p l)=if k=j then some p else look j l
 |[]=>by simp[look,cR]
 |(i,q)::r=>by
  by_cases h:i=k
  ·subst h;by_cases J:i=j<;>simp[look,cR,J]
  ·by_cases J:i=j
   ·subst J;simp[look,cR,h,Ne.symm h]
   ·simp[look,cR,h,J,jr k j p r]
structure dw where
 n:Nat
 el:Nat
 sz:Nat
 xs:be (List ag)
def K0(w:World)(ν:aT)(o:dw)(v:Value)(us:List Value):Prop:=∀xs,o.xs=some xs->xs.length=o.n/\cI w ν o.sz xs us/\∀bl,v.ownBlock=some bl->∀j,¬ν.A bl j
theorem qY{w w':World}{ν ν':aT}(aj:lA w ν w' ν'){o:dw}{v:Value}{us:List Value}(bg:∀bl,v.ownBlock=some bl->∀j,ν'.A bl j->ν.A bl j)(h:K0 w ν o v us):K0 w' ν' o v us:=fun xs ad=>⟨(h xs ad).1,Ae aj (h xs ad).2.1,fun bl af j al=>(h xs ad).2.2 bl af j (bg bl af j al)⟩
def b6(S:aJ->Prop)(o:dw):Prop:= ∀xs,o.xs=some xs->ai S xs
structure bb where
 t:List (Nat×ag)
 b:List (aJ×List ag)
 e:List (aJ×dw)
 n:Nat
 o:List aJ
def fresh(n:Nat)(o:List aJ)(k:aJ):Prop:=(match k with| .loc m=>n<=m| .obj _=>True)/\k∉o
theorem xm{n n':Nat}{o o':List aJ}(aK:n<=n')(aj:∀k∈o,k∈o'){k:aJ}(h:fresh n' o' k):fresh n o k:=by unfold fresh at h⊢;exact⟨by cases k<;>simp at h⊢;omega,fun aa=>h.2 (aj k aa)⟩
def Lm(ν:aT)(b:List (aJ×List ag))(e:List (aJ×dw))(bl:Nat):Prop:=(∃k,(look k b).isSome/\ν.bx k=some bl)\/(∃g n v,(look g e).isSome/\ν.ow g=some (n,v)/\v.ownBlock=some bl)
def C6:Nat:=106
def GJ(k:aJ):={el:gx//k= .obj 861->el=C6}
structure Good (pr:Nat->Prop) (w:World) (ν:aT) (b:List (aJ×List ag)) (e:List (aJ×dw)):Prop where
 alt:∀bl o,ν.A bl o->bl<w.heap.size
 box:∀k cs,look k b=some cs->∃(bl:Nat) (us:Array Value) (el:GJ k),ν.bx k=some bl/\pr bl/\(∀o,¬ν.A bl o)/\w.heap[bl]? =some (iz cs us el.1)/\hQ w ν cs us.toList
 inj:∀k bz bl,(look k b).isSome->(look bz b).isSome->ν.bx k=some bl->ν.bx bz=some bl->k=bz
 own:∀g o,look g e=some o->∃v us,ν.ow g=some (o.n,v)/\w.ownsRow 0 o.el o.sz v o.n us/\(∀bl,v.ownBlock=some bl->pr bl/\(∀j,ν.A bl j->j<o.n*o.sz))/\K0 w ν o v us
 oinj:∀g eK n n' v v' bl,(look g e).isSome->(look eK e).isSome->ν.ow g=some (n,v)->ν.ow eK=some (n',v')->v.ownBlock=some bl->v'.ownBlock=some bl->g=eK
 obx:∀g k n v bl,(look g e).isSome->(look k b).isSome->ν.ow g=some (n,v)->v.ownBlock=some bl->ν.bx k=some bl->dK
 one:∀k,ν.bx k=none\/ν.ow k=none
 otr:∀bl,Lm ν b e bl->∀k j,¬ν.tr k j bl
def zh:List (Nat×Nat×Nat×(Value->Prop)):=((List.range 20).map fun i=>(0,i,20,fun v=>v=mE .u64 ((10 ^ i:Nat):Int)))++[]
def nQ(w:World)(ν:aT):Prop:= ∀x∈zh,ν.A x.1 x.2.1/\(∃v,w.cell? ⟨x.1,x.2.1,none⟩=some v/\x.2.2.2 v)/\∃el,shape w x.1=some (x.2.2.1,el)
structure eH where
 w0:World
 ν0:aT
 mt:Nat->Prop
 N:Nat
 ob:List aJ
 gl:nQ w0 ν0
 ex:List (ag×Value)
def eH.pr(C:eH)(bl:Nat):Prop:=C.mt bl\/C.w0.heap.size<=bl
def tt:aJ:= .obj 990001
structure sC (C:eH) (w:World) (ν:aT):Prop where
 os:w.os=C.w0.os
 tape:w.tape=C.w0.tape
 output:w.output=C.w0.output
 size:C.w0.heap.size<=w.heap.size
 block:∀k,k<C.w0.heap.size->¬C.mt k->w.heap[k]? =C.w0.heap[k]?
 keep:∀b o,C.ν0.A b o->ν.A b o/\w.cell? ⟨b,o,none⟩=C.w0.cell? ⟨b,o,none⟩
 fresh:∀b o,ν.A b o->C.ν0.A b o\/C.pr b
 obj:∀n b,C.ν0.bx (.obj n)=some b->ν.bx (.obj n)=some b
 obn:∀n b,C.ν0.bx (.obj n)=some b-> .obj n∈C.ob
 row:∀m n u,C.ν0.ow (.obj m)=some (n,u)->∃n' e7,ν.ow (.obj m)=some (n',e7)/\(n'=n/\e7=u\/n<n')
 obr:∀m n u,C.ν0.ow (.obj m)=some (n,u)-> .obj m∈C.ob
 trd:∀k j bz e4 b,ν.tr k j b->ν.tr bz e4 b->k=bz/\j=e4
 trb:∀k j b,ν.tr k j b->(k=tt\/C.w0.heap.size<=b)/\b<w.heap.size
 trn:∀k j b,ν.tr k j b->ν.bx k=none/\ν.ow k=none
 sh:∀b o,C.ν0.A b o->shape w b=shape C.w0 b
 nrow:∀j n u b,ν.ow (.loc j)=some (n,u)->u.ownBlock=some b->C.w0.heap.size<=b
theorem sC.gl{C:eH}{w:World}{ν:aT}(h:sC C w ν):nQ w ν:=fun x ad=>⟨(h.keep _ _ (C.gl x ad).1).1,(C.gl x ad).2.1.imp fun _ aS=>⟨(h.keep _ _ (C.gl x ad).1).2.trans aS.1,aS.2⟩,(C.gl x ad).2.2.imp fun _ aS=>(h.sh _ _ (C.gl x ad).1).trans aS⟩
theorem CY{ν ν':aT}{g:aJ}{n:Nat}{u:Value}(h:∃n' e7,ν.ow g=some (n',e7)/\(n'=n/\e7=u\/n<n'))(aj:∀n u,ν.ow g=some (n,u)->∃n' e7,ν'.ow g=some (n',e7)/\(n'=n/\e7=u\/n<n')):
  ∃n' e7,ν'.ow g=some (n',e7)/\(n'=n/\e7=u\/n<n'):=by
 obtain⟨gV,iq,aq,aU⟩:=h;obtain⟨fH,h7,f1,f2⟩:=aj gV iq aq;refine⟨fH,h7,f1,?_⟩;rcases aU with⟨rfl,rfl⟩|aU
 ·exact f2
 ·rcases f2 with⟨rfl,rfl⟩|f2
  ·exact .inr aU
  ·exact .inr Ω
structure ct (C:eH) (st:bb) (a:Act) (w:World) (ν:aT):Prop where
 good:Good C.pr w ν st.b st.e
 fr:sC C w ν
 defers:a.defers=[]
 size:a.tmps.size=C.N
 slot:∀i,aR w ν (get i st.t) (a.tmps.getD i undef)
 new:∀k,fresh st.n st.o k->ν.bx k=none/\ν.ow k=none/\∀j b,¬ν.tr k j b
 ext:∀x∈C.ex,aR w ν x.1 x.2/\ak (fun k=>k∈C.ob) x.1
 obk:∀m∈C.ob,¬fresh st.n st.o m
def e6(d:be Nat)(p:ag)(t:List (Nat×ag)):List (Nat×ag):=
 match d with
 |some d=>put d p t
 |none=>t
def hE(N:Nat)(d:be Nat):Bool:=match d with|some d=>decide (d<N)|none=>true
theorem ct.put{C:eH}{st:bb}{a:Act}{w:World}{ν:aT}(h:ct C st a w ν){d:be Nat}(a7:hE C.N d=true){p:ag}{v:Value}(bq:aR w ν p v):
  ct C {st with t:=e6 d p st.t} (a.put d v) w ν:=by
 cases d with
 |none=>exact h
 |some d=>
  have b7:d<a.tmps.size:=by rw[h.size];simpa[hE]using a7
  refine⟨h.good,h.fr,h.defers,by simpa[Act.put]using h.size,fun i=>?_,h.new,h.ext,h.obk⟩;simp only[e6,pM];by_cases e:d=i
  ·subst e;simpa[Act.put,Array.getD_eq_getD_getElem?,b7]using bq
  ·have:=h.slot i;simpa[e,Act.put,Array.getD_eq_getD_getElem?,Array.getElem?_setIfInBounds_ne e]using this
theorem ct.over{C:eH}{st st':bb}{a:Act}{w w':World}{ν ν':aT}(h:ct C st a w ν)(aj:lA w ν w' ν')(aI:st'.t=st.t)(aO:Good C.pr w' ν' st'.b st'.e)(aM:sC C w' ν')
  (aK:∀k,fresh st'.n st'.o k->ν'.bx k=none/\ν'.ow k=none/\∀j b,¬ν'.tr k j b) (ec:∀m,fresh st'.n st'.o m->fresh st.n st.o m:=by exact fun _ h=>h):ct C st' a w' ν':=
 ⟨aO,aM,h.defers,h.size,fun i=>by rw[aI];exact uV aj (h.slot i),aK,fun x ad=>⟨uV aj (h.ext x ad).1,(h.ext x ad).2⟩,fun m hm aM=>h.obk m hm (ec m aM)⟩
inductive cS where
 |t (i:Nat)
 |c (p:ag)
 deriving Inhabited
def bL(t:List (Nat×ag)):cS->ag
 | .t i=>get i t
 | .c p=>p
def DA:ag->Value->Bool
 | .int k n,.int bz n'=>decide (k=bz/\n=n')
 | .bool b,.bool fy=>b==fy
 | .str s,.string l=>decide (l.data.toList=s/\s.length<=bA)
 | .slice _ .nil [],.slice none 0 0=>true
 | .nilp,.pointer none=>true
 | .tuple [],.tuple ⟨[]⟩=>true
 | .func f [],.func (.func g) ⟨[]⟩ ⟨[]⟩=>f==g
 | .junk,_=>true
 |_,_=>false
theorem Mz(w:World)(ν:aT){p:ag}{v:Value}(h:DA p v=true):aR w ν p v:=by
 unfold DA at h;split at h
 ·simp at h;obtain⟨rfl,rfl⟩:=h;simp[aR]
 ·simp at h;subst h;simp[aR]
 ·rename_i s l;simp at h;obtain⟨I,J⟩:=h;refine⟨?_,J⟩;subst I;simp
 ·simp only[aR];refine⟨⟨none,0,rfl,Ψ,Ψ,Ψ⟩,Ψ,(fun _ h=>by cases h),(fun _ _ h=>by cases h),(fun _ h=>by cases h)⟩
 ·simp[aR]
 ·simp[aR,cD]
 ·simp at h;subst h;simp[aR,cD]
 ·simp[aR]
 ·cases h
def yS:List ag->List Value->Bool
 |[],[]=>true
 |p::bY,v::vs=>DA p v&&v.oneCell'&&yS bY vs
 |_,_=>false
def yR:ag->Value->Bool
 | .agg cs,.agg us=>yS cs us.toList
 |p,v=>DA p v
theorem MA(w:World)(ν:aT):∀(bY:List ag) (vs:List Value),yS bY vs=true->cG w ν bY vs
 |[],[],_=>by simp[cG]
 |[],_::_,h=>by simp[yS]at h
 |_::_,[],h=>by simp[yS]at h
 |p::bY,v::vs,h=>by simp only[yS,bB]at h;simp only[cG];exact⟨v,vs,rfl,⟨Mz w ν h.1.1,h.1.2⟩,MA w ν bY vs h.2⟩
theorem G2(w:World)(ν:aT){p:ag}{v:Value}(h:yR p v=true):aR w ν p v:=by
 unfold yR at h;split at h
 ·simp only[aR];exact⟨_,rfl,MA w ν _ _ h⟩
 ·exact Mz w ν h
def dS:cS->Operand->Bool
 | .t i,.tmp j=>i==j
 | .c p,.const v=>yR p v
 | .c (.func f []),.func g=>f==g
 |_,_=>false
theorem dT{C:eH}{st:bb}{a:Act}{w:World}{ν:aT}(h:ct C st a w ν){x:cS}{o:Operand}(ad:dS x o=true):aR w ν (bL st.t x) (a.eval o):=by
 unfold dS at ad;split at ad
 ·simp at ad;subst ad;simpa[bL,Act.eval]using h.slot _
 ·simpa[bL,Act.eval]using G2 w ν ad
 ·simp at ad;subst ad;simp[bL,Act.eval,aR,cD]
 ·cases ad
inductive AR where
 |int (k:IntKind)
 |bool
 |str
 |slice (e:Nat)
 |struct (dC:List (Nat×Nat))
 |map (k e:Nat)
 |other
 |iface
 deriving DecidableEq
structure du where
 size:Nat
 bytes:Nat
 kind:AR
 zero:ag
def AR.isAgg:AR->Bool
 | .struct _=>true
 |_=>false
def Az:List ag->List Value->Bool
 |[],[]=>true
 |p::bY,v::vs=>yR p v&&v.oneCell'&&Az bY vs
 |_,_=>false
def yC:ag->Value->Bool
 | .agg cs,.agg us=>Az cs us.toList
 | .agg _,_=>false
 |p,v=>yR p v&&v.oneCell'
def la:AR->TypeDesc->Bool
 | .int k,.int bz=>decide (k=bz)
 | .bool,.bool=>true
 | .str,.string=>true
 | .slice e,.slice iX=>e==iX
 | .struct dC,.struct gs=>decide (gs.toList.map (fun f=>(f.offset,f.type))=dC)
 | .map k e,.map bz iX=>k==bz&&e==iX
 | .iface,.interface _=>true
 | .other,d=>match d with| .struct _| .array _ _| .int _| .bool| .string| .slice _=>false|_=>true
 |_,_=>false
def O1(P:bW)(gs:Array Field):Bool:=gs.toList.all fun f=>match P.underlying f.type with|some (.int _)=>true|some .string=>true|_=>false
def N0(P:bW)(t:Nat)(gs:Array Field):Bool:=gs.toList.all (fun f=>f.name != "_")&& !P.stoodInHeld t&& !P.eqGuardType P.depth t
def Hz(P:bW)(t:Nat):TypeDesc->Bool
 | .struct gs=> !O1 P gs||N0 P t gs
 |_=>true
def Lu(P:bW)(t:Nat)(f:du):Bool:=
 match P.info? t,P.underlying t with
 |some i,some d=>Hz P t d&&i.size==f.size&&i.bytes==f.bytes&&la f.kind d&&(match i.zero with|some z=>yC f.zero z&&z.cells.size==f.size|none=>false)
 |_,_=>false
def fS(P:bW)(bs:List (Nat×du)):Bool:=bs.all fun x=>Lu P x.1 x.2
def dE(bs:List (Nat×du))(t:Nat):be du:=(bs.find? fun x=>x.1==t).map (·.2)
theorem afZ{P:bW}{bs:List (Nat×du)}(h:fS P bs=true){t:Nat}{f:du}(aM:dE bs t=some f):Lu P t f=true:=by
 unfold dE at aM;cases ad:bs.find? fun x=>x.1==t with
 |none=>simp[ad]at aM
 |some x=>simp[ad]at aM;have I:=List.find?_some ad;simp at I;have J:=List.mem_of_find?_eq_some ad;have av:=gC.1 h x J;rw[<-aM,<-I];exact av
structure U0 (P:bW) (t:Nat) (f:du):Prop where
 cmp:∀d,P.underlying t=some d->Hz P t d=true
 ex:∃i d z,P.info? t=some i/\P.underlying t=some d/\i.size=f.size/\i.bytes=f.bytes/\la f.kind d=true/\i.zero=some z/\yC f.zero z=true/\z.cells.size=f.size
theorem tx{P:bW}{bs:List (Nat×du)}(h:fS P bs=true){t:Nat}{f:du}(aM:dE bs t=some f):U0 P t f:=by
 have h:=afZ h aM;unfold Lu at h;split at h
 ·rename_i i d I J;simp only[bB,dO]at h;obtain⟨⟨⟨⟨bD,av⟩,aV⟩,bE⟩,ch⟩:=h;split at ch
  ·rename_i z cn;simp only[bB,dO]at ch;exact⟨fun jR zq=>by rw[J]at zq;cases zq;exact bD,i,d,z,I,J,av,aV,bE,cn,ch.1,ch.2⟩
  ·cases ch
 ·cases h
theorem nU(b o j:Nat):(⟨b,o,none⟩:Addr).add j=⟨b,o+j,none⟩:=by
 unfold Addr.add;split
 ·rename_i h;subst h;rfl
 ·rfl
theorem LR(w:World)(ν:aT):∀(bY:List ag) (vs:List Value),Az bY vs=true->cG w ν bY vs
 |[],[],_=>by simp[cG]
 |[],_::_,h=>by simp[Az]at h
 |_::_,[],h=>by simp[Az]at h
 |p::bY,v::vs,h=>by simp only[Az,bB]at h;simp only[cG];exact⟨v,vs,rfl,⟨G2 w ν h.1.1,h.1.2⟩,LR w ν bY vs h.2⟩
def cells:ag->List ag
 | .agg cs=>cs
 |p=>[p]
def ez:ag->Bool
 | .junk| .tuple _=>false
 | .cst (.slice _ _ _)| .cst (.string _)=>true
 | .cst _=>false
 |_=>true
theorem KY{w:World}{ν:aT}{p:ag}{v:Value}(h:aR w ν p v)(ao:ez p=true)(b4:∀cs,p≠ .agg cs):v.oneCell'=true/\v.cells= #[v]:=by
 cases p<;>simp only[aR,ez]at h ao;case junk=>cases ao
 case tuple=>cases ao
 case cst c=>subst h;cases v<;>first|exact⟨rfl,rfl⟩|cases ao
 case agg cs=>exact absurd rfl (b4 cs)
 case int=>subst h;exact⟨rfl,rfl⟩
 case bool=>subst h;exact⟨rfl,rfl⟩
 case str=>rw[h.1];exact⟨rfl,rfl⟩
 case slice=>obtain⟨⟨a,cap,I,_⟩,_⟩:=h;subst I;exact⟨rfl,rfl⟩
 case ptr=>obtain⟨b,_,I⟩:=h;subst I;exact⟨rfl,rfl⟩
 case eptr=>obtain⟨b,o,u,I,_⟩:=h;subst I;exact⟨rfl,rfl⟩
 case iface=>obtain⟨u,I,_⟩:=h;subst I;exact⟨rfl,rfl⟩
 case nilp=>subst h;exact⟨rfl,rfl⟩
 case func=>obtain⟨us,I,_⟩:=h;subst I;exact⟨rfl,rfl⟩
 case gmap=>obtain⟨b,_,I⟩:=h;subst I;exact⟨rfl,rfl⟩
 case row=>obtain⟨⟨a,cap,I⟩,_⟩:=h;subst I;exact⟨rfl,rfl⟩
 case rptr=>obtain⟨⟨a,o,I⟩,_⟩:=h;subst I;exact⟨rfl,rfl⟩
theorem uU{w:World}{ν:aT}{p:ag}{v:Value}(h:aR w ν p v)(ao:ez p=true):cG w ν (cells p) v.cells.toList:=by
 by_cases b4:∃cs,p= .agg cs
 ·obtain⟨cs,rfl⟩:=b4;simp only[aR]at h;obtain⟨us,rfl,J⟩:=h;simpa[cells,l1]using J
 ·have zl:∀cs,p≠ .agg cs:=fun cs e=>b4 ⟨cs,e⟩;obtain⟨I,J⟩:=KY h ao zl;have aD:cells p=[p]:=by cases p<;>first|rfl|exact absurd rfl (zl _)
  rw[aD,J];simp only[cG];exact⟨v,[],rfl,⟨h,I⟩,rfl⟩
theorem Ag{w:World}{ν:aT}:∀{bY:List ag} {vs:List Value},cG w ν bY vs->∀c∈vs,c.oneCell'=true
 |[],vs,h=>by simp only[cG]at h;subst h;simp
 |p::bY,vs,h=>by
  simp only[cG]at h;obtain⟨u,bF,rfl,I,J⟩:=h;intro c aD;rcases gH.1 aD with rfl|aD
  ·exact I.2
  ·exact Ag J c aD
theorem pf{w:World}{ν:aT}:∀{bY:List ag} {vs:List Value},cG w ν bY vs->vs.length=bY.length
 |[],vs,h=>by simp only[cG]at h;subst h;rfl
 |p::bY,vs,h=>by simp only[cG]at h;obtain⟨u,bF,rfl,_,J⟩:=h;simp[pf J]
theorem Af{w:World}{ν:aT}:∀(n:Nat) {bY:List ag} {vs:List Value},cG w ν bY vs->cG w ν (bY.drop n) (vs.drop n)
 |0,_,_,h=>by simpa using h
 |n+1,[],vs,h=>by simp only[cG]at h;subst h;simp[cG]
 |n+1,p::bY,vs,h=>by simp only[cG]at h;obtain⟨u,bF,rfl,_,J⟩:=h;simpa using Af n J
theorem CU{w:World}{ν:aT}:∀(n:Nat) {bY:List ag} {vs:List Value},cG w ν bY vs->cG w ν (bY.take n) (vs.take n)
 |0,_,_,_=>by simp[cG]
 |n+1,[],vs,h=>by simp only[cG]at h;subst h;simp[cG]
 |n+1,p::bY,vs,h=>by simp only[cG]at h;obtain⟨u,bF,rfl,I,J⟩:=h;simp only[pz,cG];exact⟨u,_,rfl,I,CU n J⟩
theorem yi{w:World}{ν:aT}:∀{bY bM:List ag} {vs us:List Value},cG w ν bY vs->cG w ν bM us->cG w ν (bY++bM) (vs++us)
 |[],bM,vs,us,h,cr=>by simp only[cG]at h;subst h;simpa using cr
 |p::bY,bM,vs,us,h,cr=>by simp only[cG]at h;obtain⟨u,bF,rfl,I,J⟩:=h;simp only[iT,cG];exact⟨u,_,rfl,I,yi J cr⟩
theorem CT{w:World}{ν:aT}:∀(n:Nat) {bY:List ag} {vs:List Value} {p:ag},cG w ν bY vs->bY[n]? =some p->∃v,vs[n]? =some v/\aR w ν p v/\v.oneCell'=true
 |n,[],_,p,_,bq=>by simp at bq
 |0,q::bY,vs,p,h,bq=>by simp only[cG]at h;obtain⟨u,bF,rfl,I,_⟩:=h;simp at bq;subst bq;exact⟨u,rfl,I.1,I.2⟩
 |n+1,q::bY,vs,p,h,bq=>by simp only[cG]at h;obtain⟨u,bF,rfl,_,J⟩:=h;simpa using CT n J (by simpa using bq)
theorem Gi{w:World}{ν:aT}:∀(n:Nat) {bY:List ag} {vs:List Value} {p:ag},cD w ν bY vs->bY[n]? =some p->∃v,vs[n]? =some v/\aR w ν p v
 |n,[],_,p,_,bq=>by simp at bq
 |0,q::bY,vs,p,h,bq=>by simp only[cD]at h;obtain⟨u,bF,rfl,I,_⟩:=h;simp at bq;subst bq;exact⟨u,rfl,I⟩
 |n+1,q::bY,vs,p,h,bq=>by simp only[cD]at h;obtain⟨u,bF,rfl,_,J⟩:=h;simpa using Gi n J (by simpa using bq)
theorem uB{w:World}{A:Nat->Nat->Prop}{b:Nat}:∀{us:List Value} {off j:Nat} {u:Value},kg w A b off us->us[j]? =some u->A b (off+j)/\w.cell? ⟨b,off+j,none⟩=some u
 |[],_,_,_,_,h=>by simp at h
 |x::us,off,0,u,aE,h=>by simp at h;subst h;exact aE.1
 |x::us,off,j+1,u,aE,h=>by have:=uB (j:=j) aE.2 (by simpa using h);rwa[show off+1+j=off+(j+1)from by omega]at this
theorem Fv{w:World}{A:Nat->Nat->Prop}{b:Nat}:∀(n:Nat) {us:List Value} {off:Nat},kg w A b off us->kg w A b (off+n) (us.drop n)
 |0,_,_,h=>by simpa using h
 |n+1,[],_,_=>by simp[kg]
 |n+1,x::us,off,h=>by have:=Fv n h.2;rw[show off+(n+1)=off+1+n from by omega];simpa using this
theorem Fw{w:World}{A:Nat->Nat->Prop}{b:Nat}:∀(n:Nat) {us:List Value} {off:Nat},kg w A b off us->kg w A b off (us.take n)
 |0,_,_,_=>by simp[kg]
 |n+1,[],_,_=>by simp[kg]
 |n+1,x::us,off,h=>by simp only[pz];exact⟨h.1,Fw n h.2⟩
theorem Tz{P:bW}{w:World}{A:Nat->Nat->Prop}{b off:Nat}{us:List Value}(h:kg w A b off us):(loadCells ⟨b,off,none⟩ us.length).run P w= .ok us.toArray w:=run_loadCells_list w _ us fun j v al=>by rw[nU];exact(uB h al).2
theorem afk{P:bW}{w:World}{b off n:Nat}{us:Array Value}{el:gx}{fr:Nat×Nat}(h:w.heap[b]? =some (.cells us el fr))(aK:off+n<=us.size):
  (loadCells ⟨b,off,none⟩ n).run P w= .ok ((us.toList.drop off).take n).toArray w:=by
 have aE:((us.toList.drop off).take n).length=n:=by simp;omega
 have:=run_loadCells_list (P:=P) w ⟨b,off,none⟩ ((us.toList.drop off).take n) fun j v al=>by
  rw[nU];have EL:j<n:=by have:=(cX.1 al).1;omega
  simp only[World.cell?,h,tE,iR,if_false];rw[List.getElem?_take]at al;simpa[EL]using al
 rw[aE]at this;exact this
theorem Oj{α:Type}(l r:List α)(n sz:Nat)(h:l.length=sz):(l++r).drop ((n+1)*sz)=r.drop (n*sz):=by
 have e:(n+1)*sz=l.length+n*sz:=by rw[h,Nat.succ_mul,Nat.add_comm]
 rw[e,<-List.drop_drop];simp
theorem TT{α:Type}(l r:List α)(n sz:Nat)(h:l.length=sz):(l++r).take ((n+1)*sz)=l++r.take (n*sz):=by
 have e:(n+1)*sz=l.length+n*sz:=by rw[h,Nat.succ_mul,Nat.add_comm]
 rw[e,List.take_length_add_append]
theorem Ge{w:World}{ν:aT}{sz:Nat}:∀(i:Nat) {xs:List ag} {us:List Value} {p:ag},cI w ν sz xs us->xs[i]? =some p->
  ∃u,aR w ν p u/\u.cells.size=sz/\u.cells.toList=(us.drop (i*sz)).take sz
 |i,[],_,p,_,bq=>by simp at bq
 |0,x::xs,us,p,h,bq=>by
  simp only[cI]at h;obtain⟨u,bF,rfl,⟨I,J,av⟩,_⟩:=h;simp at bq;subst bq;refine⟨u,I,J,?_⟩;have:u.cells.toList.length=sz:=by simpa using J
  simp[<-this]
 |i+1,x::xs,us,p,h,bq=>by
  simp only[cI]at h;obtain⟨u,bF,rfl,⟨_,J,_⟩,bE⟩:=h;obtain⟨v,g1,g2,g3⟩:=Ge i bE (by simpa using bq);refine⟨v,g1,g2,?_⟩;have:u.cells.toList.length=sz:=by simpa using J
  rw[g3,Oj _ _ _ _ this]
theorem qW{w:World}{ν:aT}{sz:Nat}:∀{xs:List ag} {us:List Value},cI w ν sz xs us->us.length=xs.length*sz
 |[],us,h=>by simp only[cI]at h;subst h;simp
 |x::xs,us,h=>by
  simp only[cI]at h;obtain⟨u,bF,rfl,⟨_,J,_⟩,bE⟩:=h;have:u.cells.toList.length=sz:=by simpa using J
  rw[dF,this,qW bE,e3,Nat.succ_mul];omega
theorem yh{w:World}{ν:aT}{sz:Nat}:∀{xs:List ag} {us:List Value},cI w ν sz xs us->∀c∈us,c.oneCell'=true
 |[],us,h=>by simp only[cI]at h;subst h;simp
 |x::xs,us,h=>by
  simp only[cI]at h;obtain⟨u,bF,rfl,⟨_,_,av⟩,bE⟩:=h;intro c aD;rcases iG.1 aD with aD|aD
  ·exact av c aD
  ·exact yh bE c aD
theorem Ad{w:World}{ν:aT}{sz:Nat}:∀{bY bM:List ag} {vs us:List Value},cI w ν sz bY vs->cI w ν sz bM us->cI w ν sz (bY++bM) (vs++us)
 |[],bM,vs,us,h,cr=>by simp only[cI]at h;subst h;simpa using cr
 |p::bY,bM,vs,us,h,cr=>by simp only[cI]at h;obtain⟨u,bF,rfl,I,J⟩:=h;simp only[iT,cI];exact⟨u,bF++us,Ψ,I,Ad J cr⟩
theorem Ti{w:World}{ν:aT}{sz:Nat}:∀(n:Nat) {xs:List ag} {us:List Value},cI w ν sz xs us->cI w ν sz (xs.drop n) (us.drop (n*sz))
 |0,_,_,h=>by simpa using h
 |n+1,[],us,h=>by simp only[cI]at h;subst h;simp[cI]
 |n+1,x::xs,us,h=>by
  simp only[cI]at h;obtain⟨u,bF,rfl,⟨_,J,_⟩,bE⟩:=h;have:u.cells.toList.length=sz:=by simpa using J
  rw[Oj _ _ _ _ this];simpa using Ti n bE
theorem Tm{w:World}{ν:aT}{sz:Nat}:∀(n:Nat) {xs:List ag} {us:List Value},cI w ν sz xs us->cI w ν sz (xs.take n) (us.take (n*sz))
 |0,_,_,_=>by simp[cI]
 |n+1,[],us,h=>by simp only[cI]at h;subst h;simp[cI]
 |n+1,x::xs,us,h=>by
  simp only[cI]at h;obtain⟨u,bF,rfl,⟨I,J,av⟩,bE⟩:=h;have:u.cells.toList.length=sz:=by simpa using J
  simp only[pz,cI];refine⟨u,bF.take (n*sz),?_,⟨I,J,av⟩,Tm n bE⟩;rw[TT _ _ _ _ this]
def isAgg(sz:Nat)(p:ag):Prop:= ∃cs,p= .agg cs/\cs.length=sz
def yl(agg:Bool)(sz dj n i f:Nat):be dw->be (Prop×ag)
 |some ⟨n',_,hR,some xs⟩=>if n'=n/\hR=dj then
   (match xs[i]? with
    |some p=>if agg then some (ez p=true/\f+sz<=(cells p).length,.agg (((cells p).drop f).take sz))else((cells p)[f]?).map fun q=>(ez p=true,q)
    |none=>none)else none
 |_=>none
def mw(b:List (aJ×List ag))(e:List (aJ×dw))(agg:Bool)(sz:Nat):ag->be (Prop×ag)
 | .rptr dj k n i f=>yl agg sz dj n i f (look k e)
 | .ptr k off=>
  match look k b with
  |some cs=>if agg then some (iB cs=true/\off+sz<=cs.length,.agg ((cs.drop off).take sz))else(cs[off]?).map fun p=>(iB cs=true,p)
  |none=>none
 | .eptr p=>if agg then some (isAgg sz p,p)else some (ez p=true/\cells p=[p],p)
 |_=>none
def Bj(agg:Bool)(sz:Nat):ag->be (Prop×ag)
 | .eptr p=>if agg then some (isAgg sz p,p)else some (ez p=true/\cells p=[p],p)
 |_=>none
theorem YN{b:List (aJ×List ag)}{e:List (aJ×dw)}{agg:Bool}{sz:Nat}{p:ag}{r:Prop×ag}(h:Bj agg sz p=some r):mw b e agg sz p=some r:=by
 cases p<;>simp only[Bj]at h<;>first|cases h;done|skip
 simpa only[mw]using h
theorem acB{b:List (aJ×List ag)}{e:List (aJ×dw)}{agg:Bool}{sz:Nat}{p:ag}{r:Prop×ag}(h:mw b [] agg sz p=some r):mw b e agg sz p=some r:=by cases p<;>simp only[mw]at h⊢ <;>first|exact h|(simp[look,yl]at h)
def n2(off:Nat)(agg:Bool)(sz:Nat):ag->be (Prop×ag)
 | .ptr k o=>some (True,.ptr k (o+off))
 | .rptr dj k n i f=>some (True,.rptr dj k n i (f+off))
 | .eptr (.agg cs)=>if agg then some (off+sz<=cs.length,.eptr (.agg ((cs.drop off).take sz)))else(cs[off]?).map fun p=>(ez p=true/\cells p=[p],.eptr p)
 |_=>none
def rD(off:Nat)(agg:Bool)(sz:Nat):ag->be (Prop×ag)
 | .agg cs=>if agg then some (off+sz<=cs.length,.agg ((cs.drop off).take sz))else(cs[off]?).map fun p=>(True,p)
 |_=>none
def zz(sz:Nat):ag->ag->be (Prop×ag)
 | .slice dj _ xs,.int _ i=>if dj=sz then some (0<=i/\i<xs.length,.eptr (xs.getD i.toNat .junk))else none
 | .row dj k n,.int _ i=>if dj=sz then some (0<=i/\i<n,.rptr dj k n i.toNat 0)else none
 |_,_=>none
def Gt:ag->ag->be (Prop×ag)
 | .str s,.int _ i=>some (0<=i/\i<s.length,.int .u8 (s.getD i.toNat 0).toNat)
 |_,_=>none
def qT(DQ:Int):be ag->be Int
 |none=>some DQ
 |some (.int _ i)=>some i
 |_=>none
def Gx(x:ag)(lo aw:be ag):be (Prop×ag):=
 match x with
 | .str s=>match qT 0 lo,qT s.length aw with
  |some l,some h=>some (0<=l/\l<=h/\h<=s.length,.str ((s.take h.toNat).drop l.toNat))
  |_,_=>none
 |_=>none
def Fz(sz:Nat)(x:ag)(lo aw:be ag):be (Prop×ag):=
 match x with
 | .slice dj _ xs=>if dj=sz then match qT 0 lo,qT xs.length aw with
  |some l,some h=>some (0<=l/\l<=h/\h<=xs.length,.slice sz .no ((xs.take h.toNat).drop l.toNat))
  |_,_=>none else none
 |_=>none
def aZ(n:Int):Prop:= -9223372036854775808<=n/\n<=9223372036854775807
def az(op:BinOp)(wr:Bool)(k:IntKind)(a b:Int):be (Prop×ag):=
 match op with
 | .add=>if wr then some (True,.int k (k.wrap (a+b)))else some (k= .i64/\aZ (a+b),.int .i64 (a+b))
 | .sub=>if wr then some (True,.int k (k.wrap (a-b)))else some (k= .i64/\aZ (a-b),.int .i64 (a-b))
 | .mul=>if wr then some (True,.int k (k.wrap (a*b)))else some (k= .i64/\aZ (a*b),.int .i64 (a*b))
 | .quo=>some (b≠0,.int k (k.wrap (a.tdiv b)))
 | .rem=>some (b≠0,.int k (a.tmod b))
 | .eql=>some (True,.bool (a==b))
 | .neq=>some (True,.bool (a !=b))
 | .lss=>some (True,.bool (decide (a<b)))
 | .leq=>some (True,.bool (decide (a<=b)))
 | .gtr=>some (True,.bool (decide (b<a)))
 | .geq=>some (True,.bool (decide (b<=a)))
 | .and=>some (True,.int k (k.wrap (ra k.bits a&&& ra k.bits b).toNat))
 | .or=>some (True,.int k (k.wrap (ra k.bits a|||ra k.bits b).toNat))
 | .xor=>some (True,.int k (k.wrap (ra k.bits a ^^^ ra k.bits b).toNat))
 |_=>none
def Gz(op:BinOp)(a b:List aF):be (Prop×ag):=
 match op with
 | .add=>some (a.length+b.length<=bA,.str (a++b))
 | .eql=>some (True,.bool (a==b))
 | .neq=>some (True,.bool (!(a==b)))
 | .lss=>some (True,.bool (Op.bytesLess a b))
 | .leq=>some (True,.bool (Op.bytesLess a b||a==b))
 | .gtr=>some (True,.bool (!(Op.bytesLess a b||a==b)))
 | .geq=>some (True,.bool (!Op.bytesLess a b))
 |_=>none
def au(op:BinOp)(wr:Bool):ag->ag->be (Prop×ag)
 | .int k a,.int bz b=>match op with
  | .shl=>some (0<=b,.int k (k.wrap (a*2 ^ (min b.toNat k.bits))))
  | .shr=>some (0<=b,.int k (a.fdiv (2 ^ (min b.toNat k.bits))))
  |_=>if k=bz then az op wr k a b else none
 | .str a,.str b=>Gz op a b
 |_,_=>none
def oz(cs:List ag)(off:Nat)(bY:List ag):List ag:=cs.take off++bY++cs.drop (off+bY.length)
def tM(t:List (Nat×ag)):List ag->List (Nat×Nat×cS)->be (Prop×List ag)
 |cs,[]=>some (True,cs)
 |cs,(off,sz,x)::r=>
  let p:=bL t x
  match tM t (oz cs off (cells p)) r with
  |some (c,cs')=>some ((ez p=true/\(cells p).length=sz/\off+sz<=cs.length)/\c,cs')
  |none=>none
def F0(c x y:ag):be (Prop×ag):=
 match c with
 | .bool b=>match x,y with
  | .bool u,.bool v=>some (True,.bool (cond b u v))
  |p,q=>match b with
   |true=>some (True,p)
   |false=>some (True,q)
 |_=>none
def FP:ag->be (Prop×ag)
 | .bool b=>some (True,.bool (!b))
 |_=>none
def FJ:ag->be (Prop×ag)
 | .int k n=>some (True,.int k (k.wrap (0-n)))
 |_=>none
def D4(i:Nat):ag->be (Prop×ag)
 | .tuple vs=>(vs[i]?).map fun p=>(True,p)
 |_=>none
def zE:ag->be (Prop×ag)
 | .slice _ _ xs=>some (True,.int .i64 xs.length)
 | .row _ _ n=>some (True,.int .i64 n)
 | .cst (.slice _ n _)=>some (True,.int .i64 n)
 |_=>none
def C2:ag->be (Prop×ag)
 | .str s=>some (True,.int .i64 s.length)
 | .cst (.string s)=>some (True,.int .i64 s.size)
 |_=>none
def DN(k:IntKind):ag->be (Prop×ag)
 | .int _ n=>some (True,.int k (k.wrap n))
 |_=>none
def oQ:List ag->be (List aF)
 |[]=>some []
 | .int .u8 n::r=>(oQ r).map (pA n.toNat:: ·)
 |_=>none
def Dv:ag->be (Prop×ag)
 | .slice _ _ xs=>(oQ xs).map fun s=>(True,.str s)
 |_=>none
def Fj(neg:Bool):ag->be (Prop×ag)
 | .iface _ _=>some (True,.bool neg)
 | .cst .nilIface=>some (True,.bool (!neg))
 |_=>none
def zK:ag->be (Prop×ag)
 | .ptr k o=>some (True,.ptr k o)
 | .eptr p=>some (True,.eptr p)
 | .func f cs=>some (True,.func f cs)
 |_=>none
def FD:ag->ag->be (Prop×ag)
 | .int k a,.int bz b=>if k=bz then some (True,.int k (if b<a then b else a))else none
 |_,_=>none
def kt:List Bool->List ag->List ag->be Bool
 |[],[],[]=>some true
 |false::r,.int k a::as,.int bz b::eE=>if k=bz then(kt r as eE).map fun q=>(a==b)&&q else none
 |true::r,.str a::as,.str b::eE=>(kt r as eE).map fun q=>(a==b)&&q
 |_,_,_=>none
inductive jN where
 |i
 |s
 |a (dC:List Bool)
 deriving DecidableEq
def vW:jN->ag->ag->be Bool
 | .i,.int k a,.int bz b=>if k=bz then some (a==b)else none
 | .s,.str a,.str b=>some (a==b)
 | .a dC,.agg as,.agg eE=>kt dC as eE
 |_,_,_=>none
def zD:jN->ag->Bool
 | .a dC,.agg as=>(kt dC as as).isSome
 | .a _,_=>false
 |_,_=>true
@[simp]theorem Rb(k:ag):zD .i k=true:=by cases k<;>rfl
def v8(b0:jN)(k:ag):List ag->be (be ag)
 |bz::v::r=>match vW b0 k bz with
  |some true=>some (some v)
  |some false=>v8 b0 k r
  |none=>none
 |_=>some none
def qQ(b:aJ->be (List ag))(b0:jN)(zero:ag)(ok:Bool)(x k:ag):be (Prop×ag):=
 match x with
 | .gmap key=>match b key with
  |some (.hdm _ _::kvs)=>if zD b0 k=false then none else match v8 b0 k kvs with
   |some (some v)=>some (True,if ok then .tuple [v,.bool true]else v)
   |some none=>some (True,if ok then .tuple [zero,.bool false]else zero)
   |none=>none
  |_=>none
 |_=>none
def zI(b:aJ->be (List ag))(x:ag):be (Prop×ag):=
 match x with
 | .gmap key=>match b key with
  |some (.hdm _ borns::_)=>some (True,.int .i64 borns.length)
  |_=>none
 |_=>none
def Dw(neg:Bool):be (List Bool)->ag->ag->be (Prop×ag)
 |none,.bool a,.bool b=>some (True,.bool (if neg then a !=b else a==b))
 |some dC,.agg as,.agg eE=>(kt dC as eE).map fun q=>(True,.bool (if neg then !q else q))
 |_,_,_=>none
def FB:ag->ag->be (Prop×ag)
 | .int k a,.int bz b=>if k=bz then some (True,.int k (if a<b then b else a))else none
 |_,_=>none
def x3(b0:jN)(k v:ag):List ag->be (be (List ag))
 |bz::v'::r=>match vW b0 k bz with
  |some true=>some (some (k::v::r))
  |some false=>match x3 b0 k v r with
   |some (some dt)=>some (some (bz::v'::dt))
   |some none=>some none
   |none=>none
  |none=>none
 |_=>some none
def om(n:Nat):List Nat->List ag->be ag
 |b::eE,k::v::r=>if b=n then some (.tuple [k,v])else om n eE r
 |_,_=>none
def tf(b:aJ->be (List ag))(x:ag):be (Prop×ag):=
 match x with
 | .ptr gT 0=>match b gT with
  |some [.hdi _ seen last,.gmap mk]=>match b mk with
   |some (.hdm clock borns::kvs)=>match seen.getLast? with
    |some n=>(om n borns kvs).map fun p=>(clock=last,p)
    |none=>none
   |_=>none
  |_=>none
 |_=>none
theorem RB{f g:aJ->be (List ag)}(h:∀k,f k≠none->g k=f k){b0:jN}{zero:ag}{ok:Bool}{x k:ag}{r:Prop×ag}(he:qQ f b0 zero ok x k=some r):qQ g b0 zero ok x k=some r:=by
 unfold qQ at he⊢;split at he
 ·rename_i key;cases aM:f key with
  |none=>simp[aM]at he
  |some cs=>rw[h key (by rw[aM];simp),aM];rw[aM]at he;exact he
 ·cases he
theorem acP{f g:aJ->be (List ag)}(h:∀k,f k≠none->g k=f k){x:ag}{r:Prop×ag}(he:zI f x=some r):zI g x=some r:=by
 unfold zI at he⊢;split at he
 ·rename_i key;cases aM:f key with
  |none=>simp[aM]at he
  |some cs=>rw[h key (by rw[aM];simp),aM];rw[aM]at he;exact he
 ·cases he
theorem acK{f g:aJ->be (List ag)}(h:∀k,f k≠none->g k=f k){x:ag}{r:Prop×ag}(he:tf f x=some r):tf g x=some r:=by
 unfold tf at he⊢;split at he
 ·rename_i gT;cases aM:f gT with
  |none=>simp[aM]at he
  |some cs=>
   simp only[h gT (by rw[aM];simp),aM]at he⊢;split at he
   ·rename_i since seen last mk cT;cases mm:f mk with
    |none=>simp[mm]at he
    |some dP=>simp only[h mk (by rw[mm];simp),mm]at he⊢;exact he
   ·cases he
 ·cases he
inductive fD where
 |mov (x:cS)
 |pick (c x y:cS)
 |load (agg:Bool) (sz:Nat) (x:cS)
 |faddr (off:Nat) (agg:Bool) (sz:Nat) (x:cS)
 |fld (off:Nat) (agg:Bool) (sz:Nat) (x:cS)
 |iaddr (sz:Nat) (x i:cS)
 |sidx (x i:cS)
 |ssl (x:cS) (lo aw:be cS)
 |lsl (sz:Nat) (x:cS) (lo aw:be cS)
 |bin (op:BinOp) (wr:Bool) (x y:cS)
 |notB (x:cS)
 |neg (x:cS)
 |conv (k:IntKind) (x:cS)
 |ext (i:Nat) (x:cS)
 |len (x:cS)
 |slen (x:cS)
 |build (zero:List ag) (parts:List (Nat×Nat×cS))
 |nck (x:cS)
 |min2 (x y:cS)
 |mkf (n:Nat) (xs:List cS)
 |mget (b0:jN) (zero:ag) (ok:Bool) (x k:cS)
 |ment (x:cS)
 |mlen (x:cS)
 |beq (neg:Bool) (dC:be (List Bool)) (x y:cS)
 |max2 (x y:cS)
 |mkif (t:Nat) (x:cS)
 |loadB (agg:Bool) (sz:Nat) (x:cS)
 |mgetB (b0:jN) (zero:ag) (ok:Bool) (x k:cS)
 |loadZ (agg:Bool) (sz:Nat) (x:cS)
 |b2s (x:cS)
 |isn (neg:Bool) (x:cS)
def gB(st:bb):fD->be (Prop×ag)
 | .mov x=>some (True,bL st.t x)
 | .pick c x y=>F0 (bL st.t c) (bL st.t x) (bL st.t y)
 | .load agg sz x=>mw st.b st.e agg sz (bL st.t x)
 | .faddr off agg sz x=>n2 off agg sz (bL st.t x)
 | .fld off agg sz x=>rD off agg sz (bL st.t x)
 | .iaddr sz x i=>zz sz (bL st.t x) (bL st.t i)
 | .sidx x i=>Gt (bL st.t x) (bL st.t i)
 | .ssl x lo aw=>Gx (bL st.t x) (lo.map (bL st.t)) (aw.map (bL st.t))
 | .lsl sz x lo aw=>Fz sz (bL st.t x) (lo.map (bL st.t)) (aw.map (bL st.t))
 | .bin op wr x y=>au op wr (bL st.t x) (bL st.t y)
 | .notB x=>FP (bL st.t x)
 | .neg x=>FJ (bL st.t x)
 | .conv k x=>DN k (bL st.t x)
 | .ext i x=>D4 i (bL st.t x)
 | .len x=>zE (bL st.t x)
 | .slen x=>C2 (bL st.t x)
 | .build zero parts=>(tM st.t zero parts).map fun(c,cs)=>(c,.agg cs)
 | .nck x=>zK (bL st.t x)
 | .min2 x y=>FD (bL st.t x) (bL st.t y)
 | .mkf n xs=>some (True,.func n (xs.map (bL st.t)))
 | .mget b0 zero ok x k=>qQ (fun k=>look k st.b) b0 zero ok (bL st.t x) (bL st.t k)
 | .ment x=>tf (fun k=>look k st.b) (bL st.t x)
 | .mlen x=>zI (fun k=>look k st.b) (bL st.t x)
 | .beq neg dC x y=>Dw neg dC (bL st.t x) (bL st.t y)
 | .max2 x y=>FB (bL st.t x) (bL st.t y)
 | .mkif t x=>some (True,.iface t (bL st.t x))
 | .loadB agg sz x=>mw st.b [] agg sz (bL st.t x)
 | .mgetB b0 zero ok x k=>qQ (fun k=>look k st.b) b0 zero ok (bL st.t x) (bL st.t k)
 | .loadZ agg sz x=>Bj agg sz (bL st.t x)
 | .b2s x=>Dv (bL st.t x)
 | .isn neg x=>Fj neg (bL st.t x)
def zX(bs:List (Nat×du))(dC:List (Nat×Nat)):List (Nat×Nat×cS)->List (Nat×Operand)->Bool
 |[],[]=>true
 |(off,sz,x)::r,(i,o)::s=>(match dC[i]? with|some (wj,t)=>off==wj&&((dE bs t).map (·.size))==some sz|none=>false)&&dS x o&&zX bs dC r s
 |_,_=>false
def Dh:ag->ag->Bool
 | .int k n,.int bz n'=>decide (k=bz/\n=n')
 | .bool b,.bool fy=>b==fy
 | .str [],.str []=>true
 | .slice a .nil [],.slice b .nil []=>a==b
 | .nilp,.nilp=>true
 | .junk,.junk=>true
 |_,_=>false
def Ay:List ag->List ag->Bool
 |[],[]=>true
 |c::cs,d::dP=>Dh c d&&Ay cs dP
 |_,_=>false
def AA:ag->ag->Bool
 | .agg cs,.agg dP=>Ay cs dP
 | .agg _,_=>false
 |p,q=>Dh p q
def wo:List cS->List Operand->Bool
 |[],[]=>true
 |x::xs,o::os=>dS x o&&wo xs os
 |_,_=>false
def zf(bs:List (Nat×du)):Nat->List Bool->List (Nat×Nat)->Bool
 |_,[],[]=>true
 |n,b::r,(off,t)::dC=>off==n&&(match dE bs t with|some ⟨_,_,.int _,_⟩=> !b|some ⟨_,_,.str,_⟩=>b|_=>false)&&zf bs (n+1) r dC
 |_,_,_=>false
def D9(bs:List (Nat×du))(dC:List Bool)(t:Nat):Bool:=match dE bs t with
 |some ⟨_,_,.struct gs,_⟩=>zf bs 0 dC gs
 |_=>false
def xW(bs:List (Nat×du))(b0:jN)(t:Nat):Bool:=match b0 with
 | .i=>(match dE bs t with|some ⟨_,_,.int _,_⟩=>true|_=>false)
 | .s=>(match dE bs t with|some ⟨_,_,.str,_⟩=>true|_=>false)
 | .a dC=>D9 bs dC t
def LP:ag->ag->Bool
 | .slice a .no [],.slice b .nil []=>a==b
 |c,d=>Dh c d
def yB:List ag->List ag->Bool
 |[],[]=>true
 |c::cs,d::dP=>LP c d&&yB cs dP
 |_,_=>false
def LV:List ag->ag->Bool
 |cs,.agg dP=>yB cs dP
 |_,_=>false
def wq:be cS->be Operand->Bool
 |none,none=>true
 |some x,some o=>dS x o
 |_,_=>false
def C7(bs:List (Nat×du)):fD->Op->Bool
 | .mov x,.move o=>dS x o
 | .mov x,.assign o=>dS x o
 | .pick c x y,.pick h9 GG q9=>dS c h9&&dS x GG&&dS y q9
 | .load agg sz x,.load t o=>(match dE bs t with|some f=>f.size==sz&&f.kind.isAgg==agg|none=>false)&&dS x o
 | .faddr off agg sz x,.fieldAddr s o i=>
  (match dE bs s with
   |some ⟨_,_,.struct dC,_⟩=>(match dC[i]? with|some (wj,t)=>off==wj&&(match dE bs t with|some f=>f.size==sz&&f.kind.isAgg==agg&&sz !=0|none=>false)|none=>false)
   |_=>false)&&dS x o
 | .fld off agg sz x,.field s o i=>
  (match dE bs s with
   |some ⟨_,_,.struct dC,_⟩=>(match dC[i]? with|some (wj,t)=>off==wj&&(match dE bs t with|some f=>f.size==sz&&f.kind.isAgg==agg|none=>false)|none=>false)
   |_=>false)&&dS x o
 | .iaddr sz x i,.indexAddr t o j=>(match dE bs t with|some ⟨_,_,.slice e,_⟩=>(match dE bs e with|some f=>f.size==sz|none=>false)|_=>false)&&dS x o&&dS i j
 | .sidx x i,.index t o j=>(match dE bs t with|some ⟨_,_,.str,_⟩=>true|_=>false)&&dS x o&&dS i j
 | .ssl x lo aw,.slice t o l h none=>(match dE bs t with|some ⟨_,_,.str,_⟩=>true|_=>false)&&dS x o&&wq lo l&&wq aw h
 | .lsl sz x lo aw,.slice t o l h none=>(match dE bs t with|some ⟨_,_,.slice e,_⟩=>(match dE bs e with|some f=>f.size==sz|none=>false)|_=>false)&&dS x o&&wq lo l&&wq aw h
 | .bin op _ x y,.binOp Sq _ o o' _=>decide (op=Sq)&&dS x o&&dS y o'
 | .notB x,.unOp op _ o=>decide (op= .not)&&dS x o
 | .neg x,.unOp op _ o=>decide (op= .neg)&&dS x o
 | .conv k x,.convert s d o=>(match dE bs s,dE bs d with|some ⟨_,_,.int _,_⟩,some ⟨_,_,.int bz,_⟩=>decide (k=bz)|_,_=>false)&&dS x o
 | .ext i x,.extract o j=>i==j&&dS x o
 | .len x,.call ⟨.builtin .len,⟨[o]⟩,⟨[t]⟩⟩=>(match dE bs t with|some ⟨_,_,.slice _,_⟩=>true|_=>false)&&dS x o
 | .slen x,.call ⟨.builtin .len,⟨[o]⟩,⟨[t]⟩⟩=>(match dE bs t with|some ⟨_,_,.str,_⟩=>true|_=>false)&&dS x o
 | .build zero parts,.build t bY=>(match dE bs t with|some ⟨_,_,.struct dC,z⟩=>LV zero z&&(dC.all fun x=>(dE bs x.2).isSome)&&zX bs dC parts bY.toList|_=>false)
 | .nck x,.nilCheck o=>dS x o
 | .min2 x y,.call ⟨.builtin .min,⟨[o,o']⟩,⟨[_,_]⟩⟩=>dS x o&&dS y o'
 | .mkf n xs,.makeFunc (.func m) ⟨[]⟩ os=>n==m&&wo xs os.toList
 | .mget b0 zero ok x k,.lookup t o o' FR=>ok==FR&&(match dE bs t with|some ⟨_,_,.map mv oS,_⟩=>xW bs b0 mv&&(match dE bs oS with|some f=>AA zero f.zero|none=>false)|_=>false)&&dS x o&&dS k o'
 | .ment x,.entry o=>dS x o
 | .mlen x,.call ⟨.builtin .len,⟨[o]⟩,⟨[t]⟩⟩=>(match dE bs t with|some ⟨_,_,.map _ _,_⟩=>true|_=>false)&&dS x o
 | .beq neg dC x y,.binOp op t o o' _=>decide (op=if neg then .neq else .eql)&&(match dC with|none=>(match dE bs t with|some ⟨_,_,.bool,_⟩=>true|_=>false)|some dC=>D9 bs dC t)&&dS x o&&dS y o'
 | .max2 x y,.call ⟨.builtin .max,⟨[o,o']⟩,⟨[_,_]⟩⟩=>dS x o&&dS y o'
 | .mkif t x,.makeInterface eB o=>t==eB&&(match dE bs t with|some ⟨_,_,.slice _,_⟩=>true|_=>false)&&dS x o
 | .loadB agg sz x,.load t o=>(match dE bs t with|some f=>f.size==sz&&f.kind.isAgg==agg|none=>false)&&dS x o
 | .b2s x,.convert s d o=>(match dE bs s,dE bs d with|some ⟨_,_,.slice e,_⟩,some ⟨_,_,.str,_⟩=>(match dE bs e with|some ⟨_,_,.int .u8,_⟩=>true|_=>false)|_,_=>false)&&dS x o
 | .isn neg x,.binOp op t o (.const .nilIface) _=>decide (op=if neg then .neq else .eql)&&(match dE bs t with|some ⟨_,_,.iface,_⟩=>true|_=>false)&&dS x o
 | .loadZ agg sz x,.load t o=>(match dE bs t with|some f=>f.size==sz&&f.kind.isAgg==agg|none=>false)&&dS x o
 | .mgetB b0 zero ok x k,.lookup t o o' FR=>ok==FR&&(match dE bs t with|some ⟨_,_,.map mv oS,_⟩=>xW bs b0 mv&&(match dE bs oS with|some f=>AA zero f.zero|none=>false)|_=>false)&&dS x o&&dS k o'
 |_,_=>false
end
section
open Go Go.RowKit
theorem HP(P:bW)(w:World)(op:BinOp)(t:gx)(x y:Operand)(k bz:IntKind)(m n:Int):(eqGuard op t x y (.int k m) (.int bz n)).run P w= .ok () w:=by cases op<;>rfl
theorem Ww(P:bW)(w:World)(op:BinOp)(t:gx)(x y:Operand)(m n:kG):(eqGuard op t x y (.string m) (.string n)).run P w= .ok () w:=by cases op<;>rfl
theorem af1(l:List aF):(⟨l.toArray⟩:kG).toList=l:=by simp
theorem U3(a b:List aF):(⟨a.toArray⟩:kG)++(⟨b.toArray⟩:kG)=⟨(a++b).toArray⟩:=by apply agX;simp
theorem Xt(a:List aF)(l h:Nat):(⟨a.toArray⟩:kG).extract l h=⟨((a.take h).drop l).toArray⟩:=by apply agX;simp[List.drop_take]
theorem C1(a:List aF):(⟨a.toArray⟩:kG).size=a.length:=by simp[UF]
section
variable {P:bW} {w:World} {r:Sem Value}
theorem rF{k:IntKind}{x:Int}(h:r.run P w= .ok (.int k x) w):∃v,r.run P w= .ok v w/\∀ν,aR w ν (.int k x) v:=⟨_,h,fun ν=>by simp[aR]⟩
theorem Pm{x:Bool}(h:r.run P w= .ok (.bool x) w):∃v,r.run P w= .ok v w/\∀ν,aR w ν (.bool x) v:=⟨_,h,fun ν=>by simp[aR]⟩
end
theorem abL(P:bW)(w:World){op:BinOp}{wr:Bool}{k:IntKind}{a b:Int}{c:Prop}{p:ag}(he:az op wr k a b=some (c,p))(aD:c)(t:gx):
  ∃v,(binOp op t (.int k a) (.int k b)).run P w= .ok v w/\∀ν,aR w ν p v:=by
 cases op<;>simp only[az]at he;case add=>
  cases wr<;>simp only[if_true,iR,if_false]at he<;>cases he
  ·obtain⟨rfl,h⟩:=aD;exact rF (by simp[binOp,Op.intArith,lx _ h])
  ·exact rF (by simp[binOp,Op.intArith])
 case sub=>
  cases wr<;>simp only[if_true,iR,if_false]at he<;>cases he
  ·obtain⟨rfl,h⟩:=aD;exact rF (by simp[binOp,Op.intArith,lx _ h])
  ·exact rF (by simp[binOp,Op.intArith])
 case mul=>
  cases wr<;>simp only[if_true,iR,if_false]at he<;>cases he
  ·obtain⟨rfl,h⟩:=aD;exact rF (by simp[binOp,Op.intArith,lx _ h])
  ·exact rF (by simp[binOp,Op.intArith])
 case quo=>cases he;exact rF (by simp[binOp,Op.intDiv,aD])
 case rem=>cases he;exact rF (by simp[binOp,Op.intDiv,aD])
 case and=>cases he;exact rF (by simp only[binOp,Op.intBits,ne_eq,not_true_eq_false,if_false,fC])
 case or=>cases he;exact rF (by simp only[binOp,Op.intBits,ne_eq,not_true_eq_false,if_false,fC])
 case xor=>cases he;exact rF (by simp only[binOp,Op.intBits,ne_eq,not_true_eq_false,if_false,fC])
 all_goals cases he
 all_goals exact Pm (by simp only[binOp,Op.intCmp,ne_eq,not_true_eq_false,if_false,fC,gt_iff_lt,ge_iff_le])
theorem afK(P:bW)(w:World){op:BinOp}{a b:List aF}{c:Prop}{p:ag}(he:Gz op a b=some (c,p))(aD:c)(t:gx):
  ∃v,(binOp op t (.string ⟨a.toArray⟩) (.string ⟨b.toArray⟩)).run P w= .ok v w/\∀ν,aR w ν p v:=by
 cases op<;>simp only[Gz]at he;case add=>
  cases he;refine⟨.string ⟨(a++b).toArray⟩,?_,fun ν=>by simp only[aR];exact⟨trivial,by simpa using aD⟩⟩;have I:¬(((⟨a.toArray⟩:kG).size+(⟨b.toArray⟩:kG).size:Nat):Int)>iF.max:=by
   have:iF.max=9223372036854775807:=by decide
   rw[this,C1,C1];simp only[bA]at aD;omega
  simp only[binOp,Op.stringOp,I,if_false,fC,U3]
 all_goals cases he
 all_goals exact Pm (by simp only[binOp,Op.stringOp,af1,fC])
theorem Vf(P:bW)(w:World)(ν:aT){op:BinOp}{wr:Bool}{x y:ag}{c:Prop}{p:ag}(he:au op wr x y=some (c,p))(aD:c)(t:gx){u v:Value}(hu:aR w ν x u)(aS:aR w ν y v)(o o':Operand):
  ∃r,(do eqGuard op t o o' u v;binOp op t u v).run P w= .ok r w/\aR w ν p r:=by
 unfold au at he;split at he
 ·rename_i k a bz b;simp only[aR]at hu aS;subst hu;subst aS;split at he
  ·cases he;refine⟨_,?_,by simp[aR];rfl⟩;simp[binOp,Op.shift,HP,Int.not_lt.2 aD]
  ·cases he;refine⟨_,?_,by simp[aR];rfl⟩;simp[binOp,Op.shift,HP,Int.not_lt.2 aD]
  ·split at he
   ·rename_i aa;subst aa;obtain⟨r,I,J⟩:=abL P w he aD t;exact⟨r,by simp[HP,I],J ν⟩
   ·cases he
 ·simp only[aR]at hu aS;rw[hu.1,aS.1];obtain⟨r,I,J⟩:=afK P w he aD t;exact⟨r,by simp[Ww,I],J ν⟩
 ·cases he
theorem H3{w:World}{ν:aT}:∀(v:List Value) (i off:Nat) (cs:Array Value),off+i+v.length<=cs.size->
  ((v.zipIdx i).foldl (fun cs (x:Value×Nat)=>cs.setIfInBounds (off+x.2) x.1) cs).toList=cs.toList.take (off+i)++v++cs.toList.drop (off+i+v.length)
 |[],i,off,cs,_=>by simp
 |u::v,i,off,cs,h=>by
  simp only[List.zipIdx_cons,List.foldl_cons];rw[H3 (w:=w) (ν:=ν) v (i+1) off _ (by simp at h⊢;omega)];have b7:off+i<cs.toList.length:=by simp at h⊢;omega
  simp only[Array.toList_setIfInBounds];have aq:(cs.toList.set (off+i) u).take (off+(i+1))=cs.toList.take (off+i)++[u]:=by rw[show off+(i+1)=(off+i)+1 from by omega,List.take_succ_eq_append_getElem (by simpa using b7)];simp[List.take_set_of_le (da _)]
  have aU:(cs.toList.set (off+i) u).drop (off+(i+1)+v.length)=cs.toList.drop (off+i+(u::v).length):=by rw[List.drop_set_of_lt Ω];congr 1;simp;omega
  rw[aq,aU];simp
theorem Tx{w:World}{ν:aT}{C:eH}{st:bb}{a:Act}(hr:ct C st a w ν){bs:List (Nat×du)}{dC:List (Nat×Nat)}{places:List (Nat×Nat)}
  (bq:∀(i off t sz:Nat),dC[i]? =some (off,t)->(dE bs t).map (·.size)=some sz->places[i]? =some (off,sz)):
  ∀(parts:List (Nat×Nat×cS)) (bY:List (Nat×Operand)) (cs:List ag) (us:Array Value) (c:Prop) (cs':List ag),zX bs dC parts bY=true->cG w ν cs us.toList->tM st.t cs parts=some (c,cs')->c->
  ∃bF:Array Value,Instr.fill (places.toArray[·]?) us (bY.map fun(x:Nat×Operand)=>(x.1,a.eval x.2))=some bF/\cG w ν cs' bF.toList
 |[],[],cs,us,c,cs',_,h,he,aD=>by simp only[tM]at he;cases he;exact⟨us,by simp[Instr.fill],h⟩
 |[],_::_,_,_,_,_,ec,_,_,_=>by simp[zX]at ec
 |_::_,[],_,_,_,_,ec,_,_,_=>by simp[zX]at ec
 |(off,sz,x)::parts,(i,o)::bY,cs,us,c,cs',ec,h,he,aD=>by
  simp only[zX,bB]at ec;obtain⟨⟨I,J⟩,av⟩:=ec;split at I
  ·rename_i wj t BB;simp only[bB,dO]at I;obtain⟨rfl,I⟩:=I;have gS:=bq i off t sz BB I;simp only[tM]at he;split at he
   ·rename_i h9 ah7 af;cases he;obtain⟨⟨ao,aE,hle⟩,mP⟩:=aD;have ad:=dT hr J;have lK:=uU ad ao;have hlen:=pf lK;have qM:=pf h;have gh:(a.eval o).cells.size=sz:=by have:(a.eval o).cells.toList.length=(cells (bL st.t x)).length:=hlen;rw[aE]at this;simpa using this
    have jV:us.size=cs.length:=by simpa using qM
    have s5:=H3 (w:=w) (ν:=ν) (a.eval o).cells.toList 0 off us (by simp[gh,jV];omega);have lk:cG w ν (oz cs off (cells (bL st.t x))) ((((a.eval o).cells.toList.zipIdx 0).foldl (fun cs (x:Value×Nat)=>cs.setIfInBounds (off+x.2) x.1) us).toList):=by rw[s5];unfold oz;refine yi (yi (CU off h) lK) ?_;rw[Nat.add_zero,hlen];exact Af _ h
    obtain⟨bF,g1,g2⟩:=Tx hr bq parts bY _ _ h9 cs' av lk af mP;refine⟨bF,?_,g2⟩;simp only[eQ,Instr.fill,List.getElem?_toArray,gS];rw[bf (by simp[gh,jV];omega)];rw[<-g1];simp only[List.getElem?_toArray];congr 1;rw[<-Array.foldl_toList];simp
   ·cases he
  ·cases I
end
section
open Go Go.RowKit
theorem u4{P:bW}{bs:List (Nat×du)}(aI:fS P bs=true){t:Nat}{f:du}(aM:dE bs t=some f)(w:World):
  (Go.isAgg t).run P w= .ok f.kind.isAgg w/\(sizeOf t).run P w= .ok f.size w:=by
 obtain⟨i,d,z,I,J,av,aV,bE,ch,dD,fa⟩:=(tx aI aM).ex;refine⟨?_,by simp[sizeOf,typeInfo,I,av]⟩;simp only[Go.isAgg,e2,run_underlying J,e8];cases aa:f.kind<;>rw[aa]at bE<;>cases d<;>simp[la]at bE<;>simp[AR.isAgg]
theorem hg{P:bW}{bs:List (Nat×du)}(aI:fS P bs=true){t:Nat}{f:du}(aM:dE bs t=some f):∃d,P.underlying t=some d/\la f.kind d=true:=by obtain⟨i,d,z,I,J,av,aV,bE,ch,dD,fa⟩:=(tx aI aM).ex;exact⟨d,J,bE⟩
theorem qB{e:Nat}{d:TypeDesc}(h:la (.slice e) d=true):d= .slice e:=by cases d<;>simp[la]at h;subst h;rfl
theorem vu{d:TypeDesc}(h:la .str d=true):d= .string:=by cases d<;>simp[la]at h;rfl
theorem A6{k:IntKind}{d:TypeDesc}(h:la (.int k) d=true):d= .int k:=by cases d<;>simp[la]at h;subst h;rfl
theorem HE{dC:List (Nat×Nat)}{d:TypeDesc}(h:la (.struct dC) d=true):∃gs:Array Field,d= .struct gs/\gs.toList.map (fun f=>(f.offset,f.type))=dC:=by cases d<;>simp[la]at h;rename_i gs;exact⟨gs,rfl,by simpa using h⟩
theorem Gg{w:World}{ν:aT}{cs:List ag}{us:List Value}(h:cG w ν cs us)(off sz:Nat):cG w ν ((cs.drop off).take sz) ((us.drop off).take sz):=CU sz (Af off h)
theorem Sr{w:World}{base el sz n:Nat}{v:Value}{us:List Value}(h:w.ownsRow base el sz v n us){b:Nat}(af:v.ownBlock=some b):∃cap,v= .slice (some ⟨b,0,none⟩) n cap:=by
 rcases h.2 with⟨rfl,_⟩|⟨g,cap,cur,rfl,_⟩
 ·simp[ni]at af
 ·simp[ni]at af;subst af;exact⟨cap,rfl⟩
theorem Good.rowElem{pr:Nat->Prop}{w:World}{ν:aT}{b:List (aJ×List ag)}{e:List (aJ×dw)}(aO:Good pr w ν b e){k:aJ}{n el sz:Nat}{xs:List ag}(aa:look k e=some ⟨n,el,sz,some xs⟩){i f:Nat}{u:Value}(ad:aR w ν (.rptr sz k n i f) u){p:ag}(bq:xs[i]? =some p):
  ∃(v:Value) (us:List Value) (eJ:Nat),aR w ν p v/\v.cells.size=sz/\∃b o,u= .pointer (some ⟨b,o,none⟩)/\∀j c,v.cells.toList[f+j]? =some c->w.cell? ⟨b,o+j,none⟩=some c:=by
 simp only[aR]at ad;obtain⟨_,aw,n',e7,I,J,av⟩:=ad;obtain⟨v,us,b9,cx,dp,c6⟩:=aO.own k _ aa;rw[I]at b9;simp only[dL,gp]at b9;obtain⟨rfl,rfl⟩:=b9;obtain⟨bl,af,rfl⟩:=av rfl;obtain⟨cap,rfl⟩:=Sr cx af;obtain⟨aE,lk,_⟩:=c6 xs rfl;simp only at aE lk;obtain⟨v,fp,fI,nb⟩:=Ge i lk bq;refine⟨v,us,el,fp,fI,bl,_,rfl,fun j c al=>?_⟩;have b7:f+j<sz:=by have:=(cX.1 al).1;simp[fI]at this;exact this
 have hmul:i*sz+sz<=n'*sz:=by have:=Nat.mul_le_mul_right sz (show i+1<=n' from aw);rwa[Nat.succ_mul]at this
 have aD:=cx.cellAt (i*sz+f+j) (by show _<n'*sz;omega);rw[aD];rw[nb,List.getElem?_take,bN b7,List.getElem?_drop]at al;rw[<-al];congr 1;omega
theorem Fy{P:bW}{bs:List (Nat×du)}(aI:fS P bs=true){pr:Nat->Prop}{w:World}{ν:aT}{b:List (aJ×List ag)}{e:List (aJ×dw)}(aO:Good pr w ν b e){t:Nat}{f:du}(aM:dE bs t=some f)
  {x:ag} {u:Value} (ad:aR w ν x u) {c:Prop} {p:ag} (he:mw b e f.kind.isAgg f.size x=some (c,p)) (aD:c):∃v,(Instr.loadAt t u).run P w= .ok v w/\aR w ν p v:=by
 obtain⟨b4,ao⟩:=u4 aI aM w;generalize zn:f.kind.isAgg=eD at*;generalize ev:f.size=sz at*;unfold mw at he;split at he
 ·rename_i dj k n i xk;unfold yl at he;split at he
  ·rename_i n' el hR xs aa;split at he
   ·rename_i aK;obtain⟨rfl,rfl⟩:=aK;split at he
    ·rename_i CD Qd;obtain⟨LJ,us,eJ,g1,g2,mh⟩:=Good.rowElem aO aa ad Qd;have Je:ez CD=true:=by
      cases eD
      ·simp only[iR,if_false,hT]at he;obtain⟨q,_,he⟩:=he;cases he;exact aD
      ·simp only[if_true]at he;cases he;exact aD.1
     have cT:=uU g1 Je;cases eD
     ·simp only[iR,if_false,hT]at he;obtain⟨q,bG,he⟩:=he;cases he;obtain⟨v,f1,f2,f3⟩:=CT xk cT bG;refine⟨v,?_,f2⟩;obtain⟨b,o,rfl,mh⟩:=mh;have:=mh 0 v (by simpa using f1);simp only[Nat.add_zero]at this;simp[Instr.loadAt,Instr.sureAddr,loadVar,b4,this]
     ·simp only[if_true]at he;cases he;obtain⟨b,o,rfl,mh⟩:=mh;refine⟨.agg ((LJ.cells.toList.drop xk).take sz).toArray,?_,by simp only[aR];exact⟨_,rfl,by simpa using Gg cT xk sz⟩⟩;have aE:=pf cT;have hlen:((LJ.cells.toList.drop xk).take sz).length=sz:=by simp only[pt,kH];omega
      have hc:=run_loadCells_list (P:=P) w ⟨b,o,none⟩ ((LJ.cells.toList.drop xk).take sz) (fun j v al=>by
       rw[nU];refine mh j v ?_;rw[List.getElem?_take]at al;split at al
       ·simpa[List.getElem?_drop]using al
       ·cases al)
      rw[hlen]at hc;simp only[Instr.loadAt,Instr.sureAddr,loadVar,e2,fC,e8,b4,if_true,ao,hc]
    ·cases he
   ·cases he
  ·cases he
 ·rename_i k off;simp only[aR]at ad;obtain⟨bl,I,rfl⟩:=ad;split at he
  ·rename_i cs aa;obtain⟨h8,us,el,g1,g2,g3,g4,g5⟩:=aO.box k cs aa;rw[I]at g1;cases g1;have gS:iB cs=true:=by
    cases eD
    ·simp only[iR,if_false,hT]at he;obtain⟨q,bG,he⟩:=he;cases he;exact aD
    ·simp only[if_true]at he;cases he;exact aD.1
   rw[p5 gS]at g4;rw[pc gS]at g5;have aE:=pf g5;cases eD
   ·simp only[iR,if_false,hT]at he;obtain⟨q,bG,he⟩:=he;cases he;obtain⟨v,f1,f2,f3⟩:=CT off g5 bG;refine⟨v,?_,f2⟩;have mh:w.cell? ⟨bl,off,none⟩=some v:=by simpa[World.cell?,g4]using f1
    simp[Instr.loadAt,Instr.sureAddr,loadVar,b4,mh]
   ·simp only[if_true]at he;cases he;replace aD:=aD.2;refine⟨_,?_,by simp only[aR];exact⟨_,rfl,by simpa using Gg g5 off sz⟩⟩;simp only[Instr.loadAt,Instr.sureAddr,loadVar,e2,fC,e8,b4,if_true,ao];rw[afk g4 (by simp at aE;omega)];rfl
  ·cases he
 ·rename_i q;simp only[aR]at ad;obtain⟨bl,off,e7,rfl,J,av⟩:=ad;cases eD
  ·simp only[iR,if_false]at he;cases he;obtain⟨hI,fV⟩:=aD;obtain⟨g1,g2⟩:=KY J hI (fun cs e=>by subst e;have:=fT List.length fV;simp only[cells,e3,nj]at this;cases cs with
    |nil=>simp[cells]at fV
    |cons y ys=>simp only[cells,AB]at fV;obtain⟨aq,aU⟩:=fV;subst aU;have:=fT SizeOf.sizeOf aq;simp at this;omega)
   refine⟨e7,?_,J⟩;rw[g2]at av;have mh:=av.1.2;simp[Instr.loadAt,Instr.sureAddr,loadVar,b4,mh]
  ·simp only[if_true]at he;cases he;obtain⟨cs,rfl,hlen⟩:=aD;simp only[aR]at J;obtain⟨us,rfl,aV⟩:=J;refine⟨.agg us,?_,by simp only[aR];exact⟨us,rfl,aV⟩⟩;simp only[l1]at av;have aE:=pf aV;have:=Tz (P:=P) av;rw[show us.toList.length=sz from by omega]at this;simp[Instr.loadAt,Instr.sureAddr,loadVar,b4,ao,this]
 ·cases he
theorem Yt{P:bW}{bs:List (Nat×du)}(aI:fS P bs=true){w:World}{ν:aT}{s i:Nat}{f:du}{dC:List (Nat×Nat)}(aM:dE bs s=some f)(aa:f.kind= .struct dC){off t:Nat}{g:du}(aw:dC[i]? =some (off,t))(aO:dE bs t=some g)(bD:g.size≠0)
  {x:ag} {u:Value} (ad:aR w ν x u) {c:Prop} {p:ag} (he:n2 off g.kind.isAgg g.size x=some (c,p)) (aD:c):∃v,(Instr.fieldAt s u i).run P w= .ok v w/\aR w ν p v:=by
 obtain⟨d,a7,eY⟩:=hg aI aM;rw[aa]at eY;obtain⟨gs,rfl,gu⟩:=HE eY;have ui:∃fd:Field,gs[i]? =some fd/\fd.offset=off/\fd.type=t:=by rw[<-gu]at aw;simp only[oG,hT]at aw;obtain⟨fd,I,J⟩:=aw;simp only[gp]at J;exact⟨fd,by simpa using I,J.1,J.2⟩
 obtain⟨fd,EF,aj,kQ⟩:=ui;obtain⟨b4,ao⟩:=u4 aI aO w;have hc:∀b o,(Instr.fieldAt s (.pointer (some ⟨b,o,none⟩)) i).run P w= .ok (.pointer (some ⟨b,o+off,none⟩)) w:=by intro b o;simp[Instr.fieldAt,run_underlying a7,EF,Instr.sureAddr,fieldPlace,kQ,ao,bD,nU,aj]
 unfold n2 at he;split at he
 ·cases he;simp only[aR]at ad;obtain⟨b,I,rfl⟩:=ad;exact⟨_,hc _ _,by simp only[aR];exact⟨b,I,rfl⟩⟩
 ·cases he;simp only[aR]at ad;obtain⟨⟨b,o,rfl⟩,aw,n',e7,I,J,av⟩:=ad;refine⟨_,hc _ _,?_⟩;simp only[aR];refine⟨⟨b,_,rfl⟩,aw,n',e7,I,J,fun e=>?_⟩;obtain⟨fy,aq,aU⟩:=av e;simp only[alf,dL,Addr.mk.injEq,and_true]at aU;obtain⟨rfl,rfl⟩:=aU;exact⟨b,aq,by rw[Nat.add_assoc]⟩
 ·rename_i cs;simp only[aR]at ad;obtain⟨b,o,e7,rfl,⟨us,rfl,J⟩,av⟩:=ad;refine⟨_,hc _ _,?_⟩;simp only[l1]at av;split at he
  ·cases he;simp only[aR];exact⟨b,o+off,.agg ((us.toList.drop off).take g.size).toArray,rfl,⟨_,rfl,by simpa using Gg J off g.size⟩,by simpa[l1]using Fw g.size (Fv off av)⟩
  ·simp only[hT]at he;obtain⟨q,bG,he⟩:=he;cases he;obtain⟨v,f1,f2,f3⟩:=CT off J bG;simp only[aR];have aaV:=uB av f1;have abt:v.cells= #[v]:=by cases v<;>first|rfl|cases f3
   exact⟨b,o+off,v,rfl,f2,by rw[abt];exact⟨aaV,trivial⟩⟩
 ·cases he
theorem YJ{P:bW}{bs:List (Nat×du)}(aI:fS P bs=true){w:World}{ν:aT}{s i:Nat}{f:du}{dC:List (Nat×Nat)}(aM:dE bs s=some f)(aa:f.kind= .struct dC){off t:Nat}{g:du}(aw:dC[i]? =some (off,t))(aO:dE bs t=some g)
  {x:ag} {u:Value} (ad:aR w ν x u) {c:Prop} {p:ag} (he:rD off g.kind.isAgg g.size x=some (c,p)) (aD:c):∃v,(Instr.field s u i).run P w= .ok v w/\aR w ν p v:=by
 obtain⟨d,a7,eY⟩:=hg aI aM;rw[aa]at eY;obtain⟨gs,rfl,gu⟩:=HE eY;have ui:∃fd:Field,gs[i]? =some fd/\fd.offset=off/\fd.type=t:=by rw[<-gu]at aw;simp only[oG,hT]at aw;obtain⟨fd,I,J⟩:=aw;simp only[gp]at J;exact⟨fd,by simpa using I,J.1,J.2⟩
 obtain⟨fd,EF,aj,kQ⟩:=ui;obtain⟨b4,ao⟩:=u4 aI aO w;unfold rD at he;split at he
 ·rename_i cs;simp only[aR]at ad;obtain⟨us,rfl,J⟩:=ad;generalize zn:g.kind.isAgg=eD at*;cases eD
  ·simp only[iR,if_false,hT]at he;obtain⟨q,bG,he⟩:=he;cases he;obtain⟨v,f1,f2,f3⟩:=CT off J bG;have Xu:us[off]? =some v:=by simpa using f1
   exact⟨v,by simp[Instr.field,run_underlying a7,EF,asAgg,part,kQ,b4,aj,Xu],f2⟩
  ·simp only[if_true]at he;cases he;refine⟨.agg (us.extract off (off+g.size)),by simp[Instr.field,run_underlying a7,EF,asAgg,part,kQ,b4,aj,ao],?_⟩;simp only[aR];refine⟨_,rfl,?_⟩;have:=Gg J off g.size;simpa[List.take_drop]using this
 ·cases he
theorem abF{P:bW}{bs:List (Nat×du)}(aI:fS P bs=true){w:World}{ν:aT}{t e:Nat}{f g:du}(aM:dE bs t=some f)(aa:f.kind= .slice e)(aO:dE bs e=some g)
  {x y:ag} {u v:Value} (ad:aR w ν x u) (bC:aR w ν y v) {c:Prop} {p:ag} (he:zz g.size x y=some (c,p)) (aD:c):∃r,(Instr.indexAt t u v).run P w= .ok r w/\aR w ν p r:=by
 obtain⟨d,a7,eY⟩:=hg aI aM;rw[aa]at eY;obtain rfl:=qB eY;obtain⟨b4,ao⟩:=u4 aI aO w;unfold zz at he;split at he
 ·rename_i dj tag xs k i;split at he
  ·rename_i ev;cases he;simp only[aR]at ad bC;subst bC;subst ev;obtain⟨⟨a,cap,rfl,I,J,av⟩,_⟩:=ad;obtain⟨n8,sV⟩:=aD;have lO:i.toNat<xs.length:=Ω
   rcases av with rfl|⟨b,off,us,rfl,aV,bE⟩
   ·simp at lO
   ·have ad:xs[i.toNat]? =some xs[i.toNat]:=bO lO;obtain⟨w',fp,fI,nb⟩:=Ge i.toNat bE ad;refine⟨.pointer (some ⟨b,off+i.toNat*g.size,none⟩),?_,?_⟩
    ·simp only[Instr.indexAt,asIntOf,e2,fC,e8,run_underlying a7,n8,sV,and_self,if_true,ao,nU]
    ·simp only[aR];refine⟨b,off+i.toNat*g.size,w',rfl,by simpa[List.getD,ad]using fp,?_⟩;rw[nb];exact Fw g.size (Fv _ aV)
  ·cases he
 ·rename_i dj k n Rm i;split at he
  ·rename_i ev;cases he;simp only[aR]at ad bC;subst bC;subst ev;obtain⟨⟨b,cap,rfl⟩,J,n',e7,av,aV,bE⟩:=ad;obtain⟨n8,sV⟩:=aD;refine⟨.pointer (some ⟨b,0+i.toNat*g.size,none⟩),?_,?_⟩
   ·simp only[Instr.indexAt,asIntOf,e2,fC,e8,run_underlying a7,n8,sV,and_self,if_true,ao,nU]
   ·simp only[aR];refine⟨⟨b,_,rfl⟩,Ω,n',e7,av,aV,fun e=>⟨b,?_,Ψ⟩⟩;rw[<-bE e];rfl
  ·cases he
 ·cases he
theorem FW{C:eH}{st:bb}{a:Act}{w:World}{ν:aT}(h:ct C st a w ν){x:be cS}{o:be Operand}(ad:wq x o=true){DQ n:Int}(he:qT DQ (x.map (bL st.t))=some n):
  (o.map a.eval=none/\n=DQ)\/ ∃k,o.map a.eval=some (.int k n):=by
 cases x with
 |none=>cases o with
  |none=>simp[qT]at he;exact .inl ⟨rfl,he.symm⟩
  |some o=>simp[wq]at ad
 |some x=>cases o with
  |none=>simp[wq]at ad
  |some o=>
   simp only[wq]at ad
   have:=dT h ad
   simp only[su]at he⊢
   cases xB:bL st.t x<;>simp[xB,qT]at he
   rw[xB]at this
   simp only[aR]at this
   subst he
   exact .inr ⟨_,by rw[this]⟩
theorem Mt:∀{xs:List ag} {s:List aF},oQ xs=some s->s.length=xs.length
 |[],s,h=>by simp only[oQ]at h;cases h;rfl
 |x::xs,s,h=>by
  cases x<;>try(simp[oQ]at h;done)
  rename_i k n;cases k<;>simp only[oQ,hT,reduceCtorEq]at h;obtain⟨aC,I,rfl⟩:=h;simp[Mt I]
def yQ(n:Int):aF:=pA n.toNat
theorem Mu{w:World}{ν:aT}{sz:Nat}:∀{xs:List ag} {s:List aF} {us:List Value},oQ xs=some s->cI w ν sz xs us->∃ns:List Int,us=ns.map (mE .u8)/\s=ns.map yQ/\us.length=xs.length
 |[],s,us,h,hr=>by simp only[oQ]at h;cases h;simp only[cI]at hr;subst hr;exact⟨[],rfl,rfl,rfl⟩
 |x::xs,s,us,h,hr=>by
  cases x<;>try(simp[oQ]at h;done)
  rename_i k n;cases k<;>simp only[oQ,hT,reduceCtorEq]at h;obtain⟨aC,I,rfl⟩:=h;simp only[cI,aR]at hr;obtain⟨u,bF,rfl,⟨rfl,_⟩,hr⟩:=hr;obtain⟨ns,rfl,rfl,aE⟩:=Mu I hr;exact⟨n::ns,by simp[l1],rfl,by simp[l1]at aE⊢;exact aE⟩
theorem SE{P:bW}{w:World}{f:Value->kG->Sem (ForInStep kG)}(aM:∀n s,f (.int .u8 n) s=pure (.yield (s.push (yQ n)))):∀(ns:List Int) (s:kG),(forIn (ns.map (mE .u8)) s f).run P w= .ok ⟨(s.data.toList++ns.map yQ).toArray⟩ w
 |[],s=>by simp
 |n::ns,s=>by simp only[eQ,List.forIn_cons,e2,aM,fC,e8];rw[SE aM ns];simp[ak9]
theorem Vb{P:bW}{w:World}{A:Nat->Nat->Prop}{a:be Addr}{len cap:Nat}{ns:List Int}(aE:ns.length=len)(h:len=0\/ ∃b off,a=some ⟨b,off,none⟩/\kg w A b off (ns.map (mE .u8))):
  (Conv.bytesToString (.slice a len cap)).run P w= .ok (.string ⟨(ns.map yQ).toArray⟩) w:=by
 have aaX:∀lB,a=some lB->(loadCells lB len).run P w= .ok (ns.map (mE .u8)).toArray w:=fun lB e=>by
  rcases h with h|⟨b,off,aq,J⟩
  ·subst h;have:ns=[]:=by cases ns<;>simp_all
   subst this;exact run_loadCells_list w lB [] fun j v al=>by simp at al
  ·rw[aq]at e;cases e;have:=Tz (P:=P) J;simpa[aE]using this
 unfold Conv.bytesToString;cases a with
 |none=>
  have:ns=[]:=by
   rcases h with h|⟨b,off,aq,J⟩
   ·subst h;cases ns<;>simp_all
   ·cases aq
  subst this;simp;rfl
 |some lB=>simp only[e2,aaX lB rfl,e8,Array.forIn_toList,List.forIn_toArray];rw[SE (fun n s=>rfl) ns ak8];simp
theorem LQ{c d:ag}(h:Dh c d=true):c=d:=by unfold Dh at h;split at h<;>simp_all
theorem UE:∀{cs dP:List ag},Ay cs dP=true->cs=dP
 |[],[],_=>rfl
 |[],_::_,h=>by simp[Ay]at h
 |_::_,[],h=>by simp[Ay]at h
 |c::cs,d::dP,h=>by simp only[Ay,bB]at h;rw[LQ h.1,UE h.2]
theorem agV{w:World}{ν:aT}{c d:ag}{v:Value}(h:LP c d=true)(a7:aR w ν d v):aR w ν c v:=by
 unfold LP at h;split at h
 ·simp only[dO]at h;subst h;simp only[aR]at a7⊢;exact⟨a7.1,fun e=>(by cases e),fun _ e=>(by cases e),fun _ _ e=>(by cases e),fun _ e=>(by cases e)⟩
 ·rw[LQ h];exact a7
theorem UD{w:World}{ν:aT}:∀{cs dP:List ag} {us:List Value},yB cs dP=true->cG w ν dP us->cG w ν cs us
 |[],[],_,_,h=>h
 |[],_::_,_,h,_=>by simp[yB]at h
 |_::_,[],_,h,_=>by simp[yB]at h
 |c::cs,d::dP,us,h,hr=>by simp only[yB,bB]at h;simp only[cG]at hr⊢;obtain⟨u,bF,aq,⟨aU,bR⟩,ds⟩:=hr;exact⟨u,bF,aq,⟨agV h.1 aU,bR⟩,UD h.2 ds⟩
theorem agW{cs:List ag}{z:ag}(h:LV cs z=true):∃dP,z= .agg dP/\yB cs dP=true:=by
 cases z<;>simp only[LV]at h;case agg dP=>exact⟨dP,rfl,h⟩
 all_goals cases h
theorem Zk(s:List aF)(n:Nat)(h:n<s.length):(⟨s.toArray⟩:kG)[n]? =some (s.getD n 0):=by
 have ev:n<(⟨s.toArray⟩:kG).size:=by rw[C1];exact h
 have e:(⟨s.toArray⟩:kG)[n]? =some ((⟨s.toArray⟩:kG)[n]'ev):=getElem?_pos (⟨s.toArray⟩:kG) n ev;rw[e];congr 1;simp[List.getD,h];rfl
theorem Gw(P:bW)(w:World)(k:IntKind)(i:Int)(y:Nat)(c:BoundsCode)(bD:0<=i)(I:i<=y):(Instr.sliceBound (.int k i) y c).run P w= .ok i.toNat w:=by simp[Instr.sliceBound,asIntOf,bD,I]
theorem Mm(P:bW)(w:World)(ab2:Bool)(len cap:Nat)(lo aw:be Value)(l h:Int)(aaW:(lo=none/\l=0)\/ ∃k,lo=some (.int k l))(aaw:(aw=none/\h=len)\/ ∃k,aw=some (.int k h))
  (bD:0<=l) (I:l<=h) (J:h<=len) (aD:len<=cap):(Instr.sliceBounds ab2 len cap lo aw none).run P w= .ok (l.toNat,h.toNat,cap) w:=by
 rcases aaW with⟨rfl,rfl⟩|⟨k,rfl⟩<;>rcases aaw with⟨rfl,rfl⟩|⟨bz,rfl⟩
 ·simp[Instr.sliceBounds]
 ·simp[Instr.sliceBounds,Gw P w bz h cap _ Ω Ω]
 ·simp[Instr.sliceBounds,Gw P w k l len _ Ω Ω]
 ·simp[Instr.sliceBounds,Gw P w bz h cap _ Ω Ω,Gw P w k l h.toNat _ Ω Ω]
theorem Sz{P:bW}{bs:List (Nat×du)}(aI:fS P bs=true):∀(gs:List Field),(gs.all fun f=>(dE bs f.type).isSome)=true->
  ∃places:List (Nat×Nat),gs.mapM (fun f=>(P.info? f.type).map fun i=>(f.offset,i.size))=some places/\
   ∀(i off t sz:Nat),(gs.map (fun f=>(f.offset,f.type)))[i]? =some (off,t)->(dE bs t).map (·.size)=some sz->places[i]? =some (off,sz)
 |[],_=>⟨[],Ψ,Ψ⟩
 |f::gs,h=>by
  simp only[List.all_cons,bB]at h;obtain⟨places,I,J⟩:=Sz aI gs h.2;obtain⟨g,aO⟩:=fv.1 h.1;obtain⟨i,d,z,aq,aU,bR,ds,hn,gY,mc,n1⟩:=(tx aI aO).ex;refine⟨(f.offset,g.size)::places,by simp[List.mapM_cons,aq,bR,I],fun j off t sz al ev=>?_⟩;cases j with
  |zero=>simp only[eQ,List.getElem?_cons_zero,dL,gp]at al⊢;obtain⟨rfl,rfl⟩:=al;rw[aO]at ev;simpa using ev
  |succ j=>simp only[eQ,List.getElem?_cons_succ]at al⊢;exact J j off t sz al ev
theorem j0{P:bW}{w:World}{x:Sem Value}{v:Value}(h:x.run P w= .ok v w):(do pure (Next.value (<-x)):Sem Next).run P w= .ok (.value v) w:=by simp[h]
theorem LU{p q:ag}(h:AA p q=true):p=q:=by
 unfold AA at h;split at h
 ·rw[UE h]
 ·cases h
 ·exact LQ h
theorem LS(w:World)(ν:aT){p:ag}{v:Value}(h:yC p v=true):aR w ν p v/\cG w ν (cells p) v.cells.toList:=by
 by_cases b4:∃cs,p= .agg cs
 ·obtain⟨cs,rfl⟩:=b4;cases v<;>simp only[yC]at h;case agg us=>have:=LR w ν _ _ h;exact⟨by simp only[aR];exact⟨us,rfl,this⟩,by simpa[cells,l1]using this⟩
  all_goals cases h
 ·have cr:yR p v=true/\v.oneCell'=true:=by cases p<;>simp only[yC,bB]at h<;>first|exact h|exact absurd ⟨_,rfl⟩ b4
  have hr:=G2 w ν cr.1;refine⟨hr,?_⟩;have aD:cells p=[p]:=by cases p<;>first|rfl|exact absurd ⟨_,rfl⟩ b4
  have aS:v.cells= #[v]:=by have:=cr.2;cases v<;>first|rfl|simp[Value.oneCell']at this
  rw[aD,aS];simp only[cG];exact⟨v,[],rfl,⟨hr,cr.2⟩,rfl⟩
theorem Lo{P:bW}{bs:List (Nat×du)}(aI:fS P bs=true){t:Nat}{f:du}(aM:dE bs t=some f)(w:World):∃z,(zeroValue t).run P w= .ok z w/\yC f.zero z=true/\z.cells.size=f.size:=by obtain⟨i,d,z,I,J,av,aV,bE,ch,dD,fa⟩:=(tx aI aM).ex;exact⟨z,by simp[zeroValue,typeInfo,I,ch],dD,fa⟩
theorem Ah{C:eH}{st:bb}{a:Act}{w:World}{ν:aT}(h:ct C st a w ν):∀{xs:List cS} {os:List Operand},wo xs os=true->cD w ν (xs.map (bL st.t)) (os.map a.eval)
 |[],[],_=>by simp[cD]
 |[],_::_,aa=>by simp[wo]at aa
 |_::_,[],aa=>by simp[wo]at aa
 |x::xs,o::os,aa=>by simp only[wo,bB]at aa;simp only[eQ,cD];exact⟨_,_,rfl,dT h aa.1,Ah h aa.2⟩
theorem Wx{P:bW}{w:World}{t:gx}(a7:P.underlying t=some .bool)(d:Nat)(a b:Bool):(Op.equalIn (d+1) t (.bool a) (.bool b)).run P w= .ok (a==b) w:=by rw[Op.equalIn];simp only[e2,run_underlying a7,e8,fC]
theorem Wy{P:bW}{w:World}{t:gx}{ms:Array (String×gx)}(a7:P.underlying t=some (.interface ms))(d:Nat):(∀u x,(Op.equalIn (d+1) t (.iface u x) .nilIface).run P w= .ok false w)/\(Op.equalIn (d+1) t .nilIface .nilIface).run P w= .ok true w:=by
 constructor
 ·intro u x;simp[Op.equalIn,run_underlying a7]
 ·simp[Op.equalIn,run_underlying a7]
theorem D1{P:bW}{w:World}{t:gx}{ms:Array (String×gx)}(a7:P.underlying t=some (.interface ms)):(∀u x,(Op.equal t (.iface u x) .nilIface).run P w= .ok false w)/\(Op.equal t .nilIface .nilIface).run P w= .ok true w:=Wy a7 9999
theorem Wz{P:bW}{w:World}{t:gx}(a7:P.underlying t=some .bool)(a b:Bool):(Op.equal t (.bool a) (.bool b)).run P w= .ok (a==b) w:=Wx a7 _ a b
theorem On:∀{borns:List Nat} {kvs:List ag} {us:List Value},kvs.length=2*borns.length->us.length=kvs.length->(fk borns us).length=borns.length
 |[],_,us,_,_=>by simp[fk]
 |fy::eE,kvs,[],I,J=>by rw[I]at J;simp at J
 |fy::eE,kvs,[_],I,J=>by rw[I]at J;simp at J;omega
 |fy::eE,kvs,k::v::us,I,J=>by simp only[fk,e3];rw[On (kvs:=kvs.drop 2) (us:=us) (borns:=eE) (by simp at I⊢;omega) (by simp at I J⊢;omega)]
theorem Tr{w:World}{ν:aT}:∀{bY:List ag} {vs:List Value},cD w ν bY vs->vs.length=bY.length
 |[],vs,h=>by simp only[cD]at h;subst h;rfl
 |p::bY,vs,h=>by simp only[cD]at h;obtain⟨u,bF,rfl,_,J⟩:=h;simp[Tr J]
theorem uY{P:bW}{w:World}{r:Nat}{o:Obj}(af:w.heap[r]? =some o)(aK:∀c e f,o≠ .cells c e f:=by simp):(getObj r).run P w= .ok o w:=by simp only[getObj,Sem.run,af]
def ql(P:bW):Nat->List Bool->List Field->Prop
 |_,[],[]=>True
 |n,b::r,f::gs=>(f.offset=n/\f.name≠ "_" /\(if b=true then P.underlying f.type=some .string else∃k,P.underlying f.type=some (.int k)))/\ql P (n+1) r gs
 |_,_,_=>dK
theorem CK{P:bW}{t:gx}{b:Bool}(h:if b=true then P.underlying t=some .string else∃k,P.underlying t=some (.int k)):P.plainKey t=true:=by
 cases b
 ·obtain⟨k,h⟩:=(by simpa using h:∃k,P.underlying t=some (.int k));simp[Program.plainKey,h]
 ·have h:P.underlying t=some .string:=by simpa using h
  simp[Program.plainKey,h]
theorem VC{P:bW}{w:World}{ν:aT}(d:Nat){X Y:Array Value}(dC:List Bool):∀(gs:List Field) (n:Nat) (as eE:List ag) (us vs:List Value) (q:Bool),ql P n dC gs->X.toList.drop n=us->Y.toList.drop n=vs->cG w ν as us->cG w ν eE vs->kt dC as eE=some q->
  (Op.eqFields (d+1) X Y gs).run P w= .ok q w/\(q=true->us=vs)/\∀m,(us.zip us).all (fun(x,y)=>Instr.sameBits m x y)=true:=by
 induction dC with
 |nil=>intro gs n as eE us vs q aO mM Bt I J h;cases as<;>cases eE<;>simp only[kt,dL,reduceCtorEq]at h;cases gs<;>simp only[ql]at aO;simp only[cG]at I J;rw[I,J,<-h];exact⟨by simp[Op.eqFields],fun _=>rfl,fun m=>rfl⟩
 |cons xj r a8=>
  intro gs n as eE us vs q aO mM Bt I J h;cases gs with
  |nil=>simp only[ql]at aO
  |cons f gs=>
  simp only[ql]at aO;obtain⟨⟨E2,hM,kQ⟩,aO⟩:=aO;cases as with
  |nil=>cases xj<;>cases eE<;>simp[kt]at h
  |cons CH as=>
  cases eE with
  |nil=>cases xj<;>cases CH<;>simp[kt]at h
  |cons FZ eE=>
  cases xj with
  |false=>
   have aD:∃k a b iC,CH= .int k a/\FZ= .int k b/\kt r as eE=some iC/\q=((a==b)&&iC):=by
    cases CH<;>first|(simp[kt]at h;done)|skip
    cases FZ<;>first|(simp[kt]at h;done)|skip
    simp only[kt]at h;split at h
    ·rename_i aa;subst aa;simp only[hT]at h;obtain⟨iC,av,aV⟩:=h;exact⟨_,_,_,iC,rfl,rfl,av,aV.symm⟩
    ·cases h
   obtain⟨k,a,b,iC,rfl,rfl,av,rfl⟩:=aD;simp only[cG,aR]at I J;obtain⟨u,bF,rfl,⟨rfl,_⟩,I⟩:=I;obtain⟨v,vs',rfl,⟨rfl,_⟩,J⟩:=J;have CG:X[n]? =some (.int k a):=by rw[<-Array.getElem?_toList,<-List.head?_drop,mM];rfl
   have Kp:Y[n]? =some (.int k b):=by rw[<-Array.getElem?_toList,<-List.head?_drop,Bt];rfl
   obtain⟨i1,i2,i3⟩:=a8 gs (n+1) as eE bF vs' iC aO (by rw[<-List.tail_drop,mM];rfl) (by rw[<-List.tail_drop,Bt];rfl) I J av;obtain⟨Rm,Jj⟩:=(by simpa using kQ:∃k,P.underlying f.type=some (.int k));refine⟨?_,?_,fun m=>?_⟩
   ·simp only[Op.eqFields,hM,ne_eq,not_false_eq_true,if_true,e2,E2,run_part_plain w (CK kQ) CG,run_part_plain w (CK kQ) Kp,e8,run_equalIn_int w d f.type k Rm a b Jj];cases xw:(a==b)
    ·simp
    ·simpa using i1
   ·intro bG;simp only[bB,dO]at bG;rw[bG.1,i2 bG.2]
   ·have:=i3 m;simp only[List.zip_cons_cons,List.all_cons,this,Bool.and_true];cases m<;>simp[Instr.sameBits]
  |true=>
   have aD:∃a b iC,CH= .str a/\FZ= .str b/\kt r as eE=some iC/\q=((a==b)&&iC):=by
    cases CH<;>first|(simp[kt]at h;done)|skip
    cases FZ<;>first|(simp[kt]at h;done)|skip
    simp only[kt,hT]at h;obtain⟨iC,av,aV⟩:=h;exact⟨_,_,iC,rfl,rfl,av,aV.symm⟩
   obtain⟨a,b,iC,rfl,rfl,av,rfl⟩:=aD;simp only[cG,aR]at I J;obtain⟨u,bF,rfl,⟨⟨rfl,_⟩,_⟩,I⟩:=I;obtain⟨v,vs',rfl,⟨⟨rfl,_⟩,_⟩,J⟩:=J;have CG:X[n]? =some (.string ⟨a.toArray⟩):=by rw[<-Array.getElem?_toList,<-List.head?_drop,mM];rfl
   have Kp:Y[n]? =some (.string ⟨b.toArray⟩):=by rw[<-Array.getElem?_toList,<-List.head?_drop,Bt];rfl
   obtain⟨i1,i2,i3⟩:=a8 gs (n+1) as eE bF vs' iC aO (by rw[<-List.tail_drop,mM];rfl) (by rw[<-List.tail_drop,Bt];rfl) I J av;have Jj:P.underlying f.type=some .string:=by simpa using kQ
   refine⟨?_,?_,fun m=>?_⟩
   ·simp only[Op.eqFields,hM,ne_eq,not_false_eq_true,if_true,e2,E2,run_part_plain w (CK kQ) CG,run_part_plain w (CK kQ) Kp,e8,run_equalIn_string w d f.type _ _ Jj];have e:((⟨a.toArray⟩:kG).toList==(⟨b.toArray⟩:kG).toList)=(a==b):=by rw[agY,agY]
    rw[e];cases xw:(a==b)
    ·simp
    ·simpa using i1
   ·intro bG;simp only[bB,dO]at bG;rw[bG.1,i2 bG.2]
   ·have:=i3 m;simp only[List.zip_cons_cons,List.all_cons,this,Bool.and_true];cases m<;>simp only[Instr.sameBits]<;>exact(MapKept.bytes_beq _ _).2 rfl
theorem O0{P:bW}{bs:List (Nat×du)}(aI:fS P bs=true):∀(dC:List Bool) (gs:List Field) (n:Nat),zf bs n dC (gs.map fun f=>(f.offset,f.type))=true->(gs.all (fun f=>match P.underlying f.type with|some (.int _)=>true|some .string=>true|_=>false)=true)/\((∀f∈gs,f.name≠ "_")->ql P n dC gs)
 |[],[],_,_=>⟨rfl,fun _=>trivial⟩
 |[],_::_,_,h=>by simp[zf]at h
 |_::_,[],_,h=>by simp[zf]at h
 |b::r,f::gs,n,h=>by
  simp only[eQ,zf,bB,dO]at h;obtain⟨⟨I,J⟩,av⟩:=h;obtain⟨i1,i2⟩:=O0 aI r gs (n+1) av;split at J
  ·rename_i aM;obtain⟨d,hu,a7⟩:=hg aI aM;obtain rfl:=A6 a7;refine⟨by simp only[List.all_cons,hu,i1,Bool.and_self],fun aK=>⟨⟨I,aK f Ψ,?_⟩,i2 fun g aO=>aK g (by simp[aO])⟩⟩;have:b=false:=by simpa using J
   subst this;simpa using⟨_,hu⟩
  ·rename_i aM;obtain⟨d,hu,a7⟩:=hg aI aM;obtain rfl:=vu a7;refine⟨by simp only[List.all_cons,hu,i1,Bool.and_self],fun aK=>⟨⟨I,aK f Ψ,?_⟩,i2 fun g aO=>aK g (by simp[aO])⟩⟩;subst J;simpa using hu
  ·cases J
theorem O2{P:bW}{bs:List (Nat×du)}(aI:fS P bs=true){dC:List Bool}{t:Nat}(h:D9 bs dC t=true):∃gs,P.underlying t=some (.struct gs)/\ql P 0 dC gs.toList/\P.stoodInHeld t=false/\P.eqGuardType P.depth t=false:=by
 unfold D9 at h;split at h
 ·rename_i aM;obtain⟨d,hu,a7⟩:=hg aI aM;have aD:=(tx aI aM).cmp d hu;cases d<;>simp[la]at a7;rename_i gs;subst a7;obtain⟨i1,i2⟩:=O0 aI dC gs.toList 0 h;have oY:O1 P gs=true:=i1;simp only[Hz,oY,Bool.not_true,Bool.false_or,N0,bB,Bool.not_eq_true',gC,bne_iff_ne,ne_eq]at aD;exact⟨gs,hu,i2 aD.1.1,aD.1.2,aD.2⟩
 ·cases h
theorem Oq{P:bW}{w:World}{ν:aT}{t:gx}{gs:Array Field}{dC:List Bool}(hu:P.underlying t=some (.struct gs))(aO:ql P 0 dC gs.toList)(eZ:P.stoodInHeld t=false){as eE:List ag}{X Y:Array Value}(I:cG w ν as X.toList)(J:cG w ν eE Y.toList){q:Bool}(h:kt dC as eE=some q):
  (Op.equalIn 10000 t (.agg X) (.agg Y)).run P w= .ok q w/\(q=true->X=Y)/\∀m,(X.toList.zip X.toList).all (fun(x,y)=>Instr.sameBits m x y)=true:=by
 have aM:P.fieldsOf t=gs:=by simp[Program.fieldsOf,hu]
 obtain⟨i1,i2,i3⟩:=VC 9998 dC gs.toList 0 as eE _ _ q aO rfl rfl I J h;refine⟨?_,fun e=>?_,?_⟩
 ·rw[run_equalIn_struct w 9999 t X Y (by rw[aM];exact hu) eZ,aM];exact i1
 ·have:=i2 e;simpa using this
 ·simpa using i3
inductive tG (P:bW):jN->gx->Prop
 |i {t:gx} {k:IntKind}:P.underlying t=some (.int k)->tG P .i t
 |s {t:gx}:P.underlying t=some .string->tG P .s t
 |a {t:gx} {dC:List Bool} {gs:Array Field}:P.underlying t=some (.struct gs)->ql P 0 dC gs.toList->P.stoodInHeld t=false->tG P (.a dC) t
theorem JF{P:bW}{bs:List (Nat×du)}(aI:fS P bs=true){b0:jN}{t:Nat}(h:xW bs b0 t=true):tG P b0 t:=by
 cases b0 with
 |i=>
  simp only[xW]at h;split at h
  ·rename_i aM;obtain⟨d,hu,a7⟩:=hg aI aM;obtain rfl:=A6 a7;exact .i hu
  ·cases h
 |s=>
  simp only[xW]at h;split at h
  ·rename_i aM;obtain⟨d,hu,a7⟩:=hg aI aM;obtain rfl:=vu a7;exact .s hu
  ·cases h
 |a dC=>obtain⟨gs,I,J,av,_⟩:=O2 aI h;exact .a I J av
def sD(P:bW)(w:World)(b0:jN)(t:gx)(fo u:Value)(b:Bool):Prop:=match b0 with
 | .a _=>(Op.equal t fo u).run P w= .ok b w
 |_=> ∀d,P.underlying t=some d->Instr.sameNow d fo u=some b
def hU(P:bW)(w:World)(b0:jN)(t:gx)(fo:Value)(es:List MapEntry)(i:Nat)(r:be (Nat×Value)):Prop:=match b0 with
 | .a _=>(Instr.findAsking t fo es i).run P w= .ok r w
 |_=> ∀d,P.underlying t=some d->Instr.findNow d fo es i=some r
theorem hU.nil(P:bW)(w:World)(b0:jN)(t:gx)(fo:Value)(i:Nat):hU P w b0 t fo [] i none:=by cases b0<;>simp[hU,Instr.findAsking,Instr.findNow]
theorem hU.hit{P:bW}{w:World}{b0:jN}{t:gx}{fo:Value}{e:MapEntry}{es:List MapEntry}{i:Nat}(h:sD P w b0 t fo e.key true):hU P w b0 t fo (e::es) i (some (i,e.val)):=by
 cases b0 with
 |a dC=>simp only[sD]at h;simp[hU,Instr.findAsking,h]
 |i=>simp only[sD]at h;simp only[hU];intro d a7;simp[Instr.findNow,h d a7]
 |s=>simp only[sD]at h;simp only[hU];intro d a7;simp[Instr.findNow,h d a7]
theorem hU.miss{P:bW}{w:World}{b0:jN}{t:gx}{fo:Value}{e:MapEntry}{es:List MapEntry}{i:Nat}{r:be (Nat×Value)}(h:sD P w b0 t fo e.key false)(hr:hU P w b0 t fo es (i+1) r):hU P w b0 t fo (e::es) i r:=by
 cases b0 with
 |a dC=>simp only[sD]at h;simp only[hU]at hr;simp[hU,Instr.findAsking,h,hr]
 |i=>simp only[sD]at h;simp only[hU]at hr⊢;intro d a7;simp[Instr.findNow,h d a7,hr d a7]
 |s=>simp only[sD]at h;simp only[hU]at hr⊢;intro d a7;simp[Instr.findNow,h d a7,hr d a7]
theorem hU.run{P:bW}{w:World}{b0:jN}{t:gx}(a7:tG P b0 t){fo:Value}{es:List MapEntry}{r:be (Nat×Value)}(h:hU P w b0 t fo es 0 r):(Instr.findKey t fo es).run P w= .ok r w:=by
 cases a7 with
 |i hu=>simp only[hU]at h;simp[Instr.findKey,run_underlying hu,h _ hu]
 |s hu=>simp only[hU]at h;simp[Instr.findKey,run_underlying hu,h _ hu]
 |a hu aO eZ=>
  simp only[hU]at h;cases es with
  |nil=>simp[Instr.findAsking]at h;simp[Instr.findKey,run_underlying hu,Instr.findNow,h]
  |cons e es=>
   rename_i gs;have:Instr.sameNow (.struct gs) fo e.key=none:=by cases fo<;>rfl
   simp only[Instr.findKey,e2,run_underlying hu,e8,Instr.findNow,this];exact h
theorem Ra{P:bW}{w:World}{ν:aT}{b0:jN}{t:gx}(a7:tG P b0 t){k bz:ag}{fo u:Value}(aa:aR w ν k fo)(I:aR w ν bz u){hD:Bool}(af:vW b0 k bz=some hD):
  sD P w b0 t fo u hD/\(hD=true->u=fo/\Instr.sameBits 10000 u fo=true):=by
 unfold vW at af;split at af
 ·split at af
  ·rename_i iK;subst iK;simp only[aR]at aa I;subst aa;subst I;cases a7 with
   |i hu=>refine⟨fun d a7=>by rw[hu]at a7;cases a7;simpa[Instr.sameNow]using af,fun e=>?_⟩;subst e;simp only[dL,dO]at af;subst af;exact⟨rfl,by simp[Instr.sameBits]⟩
  ·cases af
 ·rename_i a b;simp only[aR]at aa I;obtain⟨rfl,_⟩:=aa;obtain⟨rfl,_⟩:=I;cases a7 with
  |s hu=>
   refine⟨fun d a7=>?_,fun e=>?_⟩
   ·rw[hu]at a7;cases a7;simp only[Instr.sameNow];rw[<-af];congr 1;rw[Bool.eq_iff_iff,MapKept.bytes_beq];simp
   ·subst e;simp only[dL,dO]at af;subst af;exact⟨rfl,by simp only[Instr.sameBits];exact(MapKept.bytes_beq _ _).2 rfl⟩
 ·simp only[aR]at aa I;obtain⟨X,rfl,aa⟩:=aa;obtain⟨Y,rfl,I⟩:=I;cases a7 with
  |a hu aO eZ=>obtain⟨i1,i2,i3⟩:=Oq hu aO eZ aa I af;refine⟨by simpa[sD,Op.equal,Op.maxDepth]using i1,fun e=>?_⟩;have:=i2 e;subst this;exact⟨rfl,by simp[Instr.sameBits,i3]⟩
 ·cases af
theorem JX{P:bW}{w:World}{ν:aT}{b0:jN}{t:gx}(a7:tG P b0 t){k:ag}{fo:Value}(aa:aR w ν k fo):∀(borns:List Nat) (kvs:List ag) (us:List Value) (i:Nat) (r:be ag),cD w ν kvs us->kvs.length=2*borns.length->v8 b0 k kvs=some r->
  match r with
  |none=>hU P w b0 t fo (fk borns us) i none
  |some v=> ∃j u,hU P w b0 t fo (fk borns us) i (some (j,u))/\aR w ν v u
 |[],[],us,i,r,h,_,hm=>by simp only[v8]at hm;cases hm;simp only[cD]at h;subst h;simpa[fk]using hU.nil P w b0 t fo i
 |[],_::_,_,_,_,_,aE,_=>by simp at aE
 |b::eE,[],_,_,_,_,aE,_=>by simp at aE
 |b::eE,[_],_,_,_,_,aE,_=>by simp at aE;omega
 |b::eE,bz::v::kvs,us,i,r,h,aE,hm=>by
  simp only[cD]at h;obtain⟨iq,Au,rfl,I,h7,pn,rfl,J,av⟩:=h;simp only[v8]at hm;simp only[fk];cases bG:vW b0 k bz with
  |none=>simp[bG]at hm
  |some hD=>
   obtain⟨s1,_⟩:=Ra a7 aa I bG;simp only[bG]at hm;cases hD with
   |true=>simp only[dL]at hm;subst hm;exact⟨i,h7,hU.hit (e:=⟨iq,h7,b⟩) s1,J⟩
   |false=>
    simp only at hm;have a8:=JX a7 aa eE kvs pn (i+1) r av (by simp at aE;omega) hm;cases r with
    |none=>exact hU.miss (e:=⟨iq,h7,b⟩) s1 a8
    |some v'=>obtain⟨j,u,g1,g2⟩:=a8;exact⟨j,u,hU.miss (e:=⟨iq,h7,b⟩) s1 g1,g2⟩
theorem Ht{P:bW}{w:World}{t:Nat}{d:TypeDesc}(hu:P.underlying t=some d)(a7:(∃k,d= .int k)\/d= .string)(e:Bool)(n:Nat)(v:Value):(Instr.checkKey e (n+1) t v).run P w= .ok () w:=by unfold Instr.checkKey;rcases a7 with⟨k,rfl⟩|rfl<;>simp[run_underlying hu]
theorem YI{P:bW}{w:World}{ν:aT}{X:Array Value}(dC:List Bool):∀(gs:List Field) (n:Nat) (as:List ag),ql P n dC gs->cG w ν as (X.toList.drop n)->(kt dC as as).isSome=true->
  ∀f∈gs,(∃v,(part f.type X f.offset).run P w= .ok v w)/\∃d,P.underlying f.type=some d/\((∃k,d= .int k)\/d= .string):=by
 induction dC with
 |nil=>intro gs n as aO _ _ f aM;cases gs<;>simp only[ql]at aO;cases aM
 |cons xj r a8=>
  intro gs n as aO hr aD f aM;cases gs with
  |nil=>cases aM
  |cons g gs=>
  simp only[ql]at aO;obtain⟨⟨E2,hM,kQ⟩,aO⟩:=aO;cases as with
  |nil=>cases xj<;>simp[kt]at aD
  |cons p as=>
  have mP:(kt r as as).isSome=true:=by cases xj<;>cases p<;>simp[kt]at aD⊢ <;>exact aD
  simp only[cG]at hr;obtain⟨u,bF,e,_,dv⟩:=hr;have aU:X.toList.drop (n+1)=bF:=by rw[<-List.tail_drop,e];rfl
  have CG:X[n]? =some u:=by rw[<-Array.getElem?_toList,<-List.head?_drop,e];rfl
  rcases gH.1 aM with rfl|aM
  ·refine⟨⟨u,by rw[E2];exact run_part_plain w (CK kQ) CG⟩,?_⟩;cases xj
   ·obtain⟨k,h⟩:=(by simpa using kQ:∃k,P.underlying f.type=some (.int k));exact⟨_,h,.inl ⟨k,rfl⟩⟩
   ·exact⟨_,by simpa using kQ,.inr rfl⟩
  ·exact a8 gs (n+1) as aO (by rw[aU];exact dv) mP f aM
theorem O6{P:bW}{w:World}{α:Type}(body:α->PUnit->Sem (ForInStep PUnit)):∀(l:List α),(∀f∈l,(body f ⟨⟩).run P w= .ok (.yield ⟨⟩) w)->(forIn l PUnit.unit body).run P w= .ok PUnit.unit w
 |[],_=>by simp
 |f::l,h=>by simp only[List.forIn_cons,e2,h f Ψ,e8];exact O6 body l fun g aO=>h g (by simp[aO])
theorem K1{P:bW}{w:World}{ν:aT}{b0:jN}{t:Nat}(a7:tG P b0 t)(e:Bool){k:ag}{v:Value}(aa:aR w ν k v)(aw:zD b0 k=true):(Instr.checkKey e 10000 t v).run P w= .ok () w:=by
 cases a7 with
 |i hu=>exact Ht hu (.inl ⟨_,rfl⟩) e 9999 v
 |s hu=>exact Ht hu (.inr rfl) e 9999 v
 |a hu aO eZ=>
  rename_i dC gs;cases k<;>simp only[zD,iR]at aw;rename_i as;simp only[aR]at aa;obtain⟨X,rfl,aa⟩:=aa;unfold Instr.checkKey;simp only[e2,run_underlying hu,e8];rw[<-Array.forIn_toList];rw[O6]
  ·simp
  ·intro f aM;obtain⟨⟨v,I⟩,d,J,av⟩:=YI dC gs.toList 0 as aO (by simpa using aa) aw f aM;have aV:=Ht (w:=w) J av e 9998 v;by_cases aK:f.name= "_"
   ·simp[aK]
   ·simp[aK,I,aV]
theorem Rz{w:World}{ν:aT}{n:Nat}:∀(borns:List Nat) (kvs:List ag) (us:List Value) (p:ag),cD w ν kvs us->om n borns kvs=some p->∃e,(fk borns us).find? (·.born==n)=some e/\aR w ν p (.tuple #[e.key,e.val])
 |[],_,_,_,_,hm=>by simp[om]at hm
 |_::_,[],_,_,_,hm=>by simp[om]at hm
 |_::_,[_],_,_,_,hm=>by simp[om]at hm
 |b::eE,k::v::kvs,us,p,h,hm=>by
  simp only[cD]at h;obtain⟨iq,Au,rfl,I,h7,pn,rfl,J,av⟩:=h;simp only[om]at hm;simp only[fk];by_cases e:b=n
  ·rw[bN e]at hm;cases hm;refine⟨⟨iq,h7,b⟩,by simp[List.find?,e],?_⟩;simp only[aR];exact⟨#[iq,h7],rfl,by simp only[cD];exact⟨_,_,rfl,I,_,_,rfl,J,rfl⟩⟩
  ·rw[bf e]at hm;obtain⟨x,g1,g2⟩:=Rz eE kvs pn p av hm;have Im:(b==n)=false:=by simpa using e
   exact⟨x,by simp[List.find?,Im,g1],g2⟩
theorem T8{P:bW}{bs:List (Nat×du)}(aI:fS P bs=true){C:eH}{st:bb}{a:Act}{w:World}{ν:aT}(hr:ct C st a w ν){i:fD}(ZR:∀b0 z ok x k,i≠ .mgetB b0 z ok x k){o:Oper}(aj:C7 bs i o.op=true)
  {c:Prop} {p:ag} (he:gB st i=some (c,p)) (aD:c):∃v,(execOp a.eval o).run P w= .ok (.value v) w/\aR w ν p v:=by
 obtain⟨dst,op,type,pos,after,guard⟩:=o;simp only at aj;unfold C7 at aj;split at aj
 ·rename_i x o;simp only[gB]at he;cases he;exact⟨_,rfl,dT hr aj⟩
 ·rename_i x o;simp only[gB]at he;cases he;exact⟨_,rfl,dT hr aj⟩
 ·rename_i h9 x y ahJ GG q9;simp only[bB]at aj;have I:=dT hr aj.1.1;have J:=dT hr aj.1.2;have av:=dT hr aj.2;simp only[gB,F0]at he;split at he
  ·rename_i b af;rw[af]at I;simp only[aR]at I;split at he
   ·rename_i u v hu aS;cases he;rw[hu]at J;rw[aS]at av;simp only[aR]at J av;refine⟨.bool (cond b u v),?_,by simp[aR]⟩;simp only[execOp,I,J,av,asBool,e2,fC,e8];cases b<;>rfl
   ·split at he
    ·cases he;exact⟨_,by simp only[execOp,I,asBool,e2,fC,e8,if_true],J⟩
    ·cases he;exact⟨_,by simp only[execOp,I,asBool,e2,fC,e8,iR,if_false],av⟩
  ·cases he
 ·rename_i agg sz x t o;simp only[bB]at aj;obtain⟨I,J⟩:=aj;split at I
  ·rename_i f aM;simp only[bB,dO]at I;obtain⟨rfl,rfl⟩:=I;obtain⟨v,g1,g2⟩:=Fy aI hr.good aM (dT hr J) (by simpa only[gB]using he) aD;exact⟨v,j0 g1,g2⟩
  ·cases I
 ·rename_i off agg sz x s o i;simp only[bB]at aj;obtain⟨I,J⟩:=aj;split at I
  ·rename_i f aM;split at I
   ·rename_i wj t BB;simp only[bB,dO]at I;obtain⟨rfl,I⟩:=I;split at I
    ·rename_i g aO;simp only[bB,dO,bne_iff_ne,ne_eq]at I;obtain⟨⟨rfl,rfl⟩,bD⟩:=I;obtain⟨v,g1,g2⟩:=Yt aI aM rfl BB aO bD (dT hr J) (by simpa only[gB]using he) aD;exact⟨v,j0 g1,g2⟩
    ·cases I
   ·cases I
  ·cases I
 ·rename_i off agg sz x s o i;simp only[bB]at aj;obtain⟨I,J⟩:=aj;split at I
  ·rename_i f aM;split at I
   ·rename_i wj t BB;simp only[bB,dO]at I;obtain⟨rfl,I⟩:=I;split at I
    ·rename_i g aO;simp only[bB,dO]at I;obtain⟨rfl,rfl⟩:=I;obtain⟨v,g1,g2⟩:=YJ aI aM rfl BB aO (dT hr J) (by simpa only[gB]using he) aD;exact⟨v,j0 g1,g2⟩
    ·cases I
   ·cases I
  ·cases I
 ·rename_i sz x i t o j;simp only[bB]at aj;obtain⟨⟨I,J⟩,av⟩:=aj;split at I
  ·rename_i e aM;split at I
   ·rename_i g aO;simp only[dO]at I;subst I;obtain⟨v,g1,g2⟩:=abF aI aM rfl aO (dT hr J) (dT hr av) (by simpa only[gB]using he) aD;exact⟨v,j0 g1,g2⟩
   ·cases I
  ·cases I
 ·rename_i x i t o j;simp only[bB]at aj;obtain⟨⟨I,J⟩,av⟩:=aj;split at I
  ·rename_i aM;obtain⟨d,a7,eY⟩:=hg aI aM;obtain rfl:=vu eY;have aq:=dT hr J;have aU:=dT hr av;simp only[gB,Gt]at he;split at he
   ·rename_i s k n ao aK;cases he;rw[ao]at aq;rw[aK]at aU;simp only[aR]at aq aU;obtain⟨xy,hI⟩:=aD;have b7:n.toNat<s.length:=Ω
    have aay:(⟨s.toArray⟩:kG)[n.toNat]? =some (s.getD n.toNat 0):=by exact Zk s n.toNat b7
    refine⟨_,j0 (v:= .int .u8 (s.getD n.toNat 0).toNat) ?_,by simp[aR]⟩;simp only[Instr.index,aU,asIntOf,aq.1,e2,fC,e8,run_underlying a7,xy,if_true,aay]
   ·cases he
  ·cases I
 ·rename_i x lo aw t o l h;simp only[bB]at aj;obtain⟨⟨⟨I,J⟩,av⟩,aV⟩:=aj;split at I
  ·rename_i aM;obtain⟨d,a7,eY⟩:=hg aI aM;obtain rfl:=vu eY;have aq:=dT hr J;simp only[gB,Gx]at he;split at he
   ·rename_i s ao;rw[ao]at aq;simp only[aR]at aq;split at he
    ·rename_i p0 bK aE IK;cases he;obtain⟨cJ,c2,c3⟩:=aD;have dh:=FW hr av aE;have ed:=FW hr aV IK;refine⟨_,j0 (v:= .string ⟨((s.take bK.toNat).drop p0.toNat).toArray⟩) ?_,?_⟩
     ·have af:=Mm P w false s.length s.length (l.map a.eval) (h.map a.eval) p0 bK
       dh ed cJ c2 c3 (da _)
      simp only[Instr.sliceAt,Instr.slice,aq.1,e2,fC,e8,run_underlying a7,Option.map_none,tE,iR,if_false,C1,af,Xt]
     ·simp only[aR];refine⟨trivial,?_⟩;have:=aq.2;simp only[kH,pt];omega
    ·cases he
   ·cases he
  ·cases I
 ·rename_i sz x lo aw t o l h;simp only[bB]at aj;obtain⟨⟨⟨I,J⟩,av⟩,aV⟩:=aj;split at I
  ·rename_i e aM;split at I
   ·rename_i g aO;simp only[dO]at I;subst I;obtain⟨d,a7,eY⟩:=hg aI aM;obtain rfl:=qB eY;obtain⟨_,ev⟩:=u4 aI aO w;have aq:=dT hr J;simp only[gB,Fz]at he;split at he
    ·rename_i dj tag xs ao;split at he
     ·rename_i eL;subst eL;rw[ao]at aq;simp only[aR]at aq;obtain⟨⟨lB,cap,aS,bQ,b3,eV⟩,_⟩:=aq;split at he
      ·rename_i p0 bK aE IK;cases he;obtain⟨cJ,c2,c3⟩:=aD;have dh:=FW hr av aE;have ed:=FW hr aV IK;have af:=Mm P w true xs.length cap (l.map a.eval) (h.map a.eval) p0 bK
        dh ed cJ c2 c3 bQ
       refine⟨_,j0 (v:= .slice (if cap=p0.toNat then lB else lB.map (·.add (p0.toNat*g.size))) (bK.toNat-p0.toNat) (cap-p0.toNat)) ?_,?_⟩
       ·simp only[Instr.sliceAt,Instr.slice,aS,e2,fC,e8,run_underlying a7,Option.map_none,af,ev]
       ·simp only[aR];have hlen:((xs.take bK.toNat).drop p0.toNat).length=bK.toNat-p0.toNat:=by simp;omega
        refine⟨⟨_,_,by rw[hlen],by rw[hlen];omega,⟨Ω,by rw[hlen];omega⟩,?_⟩,(fun h=>by cases h),(fun g h=>by cases h),(fun _ _ h=>by cases h),(fun _ h=>by cases h)⟩;rcases eV with rfl|⟨b,off,us,rfl,g1,g2⟩
        ·left;simp
        ·by_cases rN:cap=p0.toNat
         ·left;apply l3;rw[hlen];omega
         ·right;rw[bf rN];refine⟨b,off+p0.toNat*g.size,(us.take (bK.toNat*g.size)).drop (p0.toNat*g.size),by simp[nU],Fv _ (Fw _ g1),Ti _ (Tm _ g2)⟩
      ·cases he
     ·cases he
    ·cases he
   ·cases I
  ·cases I
 ·rename_i op wr x y Sq ty o o' T3;simp only[bB,ef]at aj;obtain⟨⟨rfl,I⟩,J⟩:=aj;obtain⟨r,g1,g2⟩:=Vf P w ν (by simpa only[gB]using he) aD ty (dT hr I) (dT hr J) o o';exact⟨r,j0 g1,g2⟩
 ·rename_i x op ty o;simp only[bB,ef]at aj;obtain⟨rfl,I⟩:=aj;have aq:=dT hr I;simp only[gB]at he;unfold FP at he;split at he
  ·rename_i b af;cases he;rw[af]at aq;simp only[aR]at aq;exact⟨_,j0 (v:= .bool (!b)) (by simp[Op.unary,aq]),by simp[aR]⟩
  ·cases he
 ·rename_i x op ty o;simp only[bB,ef]at aj;obtain⟨rfl,I⟩:=aj;have aq:=dT hr I;simp only[gB]at he;unfold FJ at he;split at he
  ·rename_i k n af;cases he;rw[af]at aq;simp only[aR]at aq;exact⟨_,j0 (v:= .int k (k.wrap (0-n))) (by simp[Op.unary,aq,Op.intArith]),by simp[aR]⟩
  ·cases he
 ·rename_i k x s d o;simp only[bB]at aj;obtain⟨I,J⟩:=aj;split at I
  ·rename_i dh ed IE mm;simp only[ef]at I;subst I;obtain⟨d1,lL,Iy⟩:=hg aI IE;obtain rfl:=A6 Iy;obtain⟨d2,ky,Iz⟩:=hg aI mm;obtain rfl:=A6 Iz;have aq:=dT hr J;simp only[gB]at he;unfold DN at he;split at he
   ·rename_i bz n af;cases he;rw[af]at aq;simp only[aR]at aq;exact⟨_,j0 (v:= .int k (k.wrap n)) (by simp[convert,aq,run_underlying lL,run_underlying ky,Conv.intToInt]),by simp[aR]⟩
   ·cases he
  ·cases I
 ·rename_i i x o j;simp only[bB,dO]at aj;obtain⟨rfl,I⟩:=aj;have aq:=dT hr I;simp only[gB]at he;unfold D4 at he;split at he
  ·rename_i vs af;simp only[hT]at he;obtain⟨q,bG,he⟩:=he;cases he;rw[af]at aq;simp only[aR]at aq;obtain⟨us,hu,J⟩:=aq;obtain⟨v,g1,g2⟩:=Gi i J bG;have YP:us[i]? =some v:=by simpa using g1
   exact⟨v,j0 (by simp[Instr.extract,hu,YP]),g2⟩
  ·cases he
 ·rename_i x o t;simp only[bB]at aj;obtain⟨I,J⟩:=aj;have aq:=dT hr J;simp only[gB]at he;unfold zE at he;split at he
  ·rename_i sz tag xs af;cases he;rw[af]at aq;simp only[aR]at aq;obtain⟨⟨lB,cap,aS,_⟩,_⟩:=aq;refine⟨.int .i64 xs.length,?_,by simp[aR]⟩;split at I
   ·rename_i aM;obtain⟨d,a7,eY⟩:=hg aI aM;obtain rfl:=qB eY;simp[execOp,resolve,invoke,builtin,Builtin.len_,run_underlying a7,aS,goInt]
   ·cases I
  ·rename_i sz k n af;cases he;rw[af]at aq;simp only[aR]at aq;obtain⟨⟨lB,cap,aS⟩,_⟩:=aq;refine⟨.int .i64 n,?_,by simp[aR]⟩;split at I
   ·rename_i aM;obtain⟨d,a7,eY⟩:=hg aI aM;obtain rfl:=qB eY;simp[execOp,resolve,invoke,builtin,Builtin.len_,run_underlying a7,aS,goInt]
   ·cases I
  ·rename_i lB n cap af;cases he;rw[af]at aq;simp only[aR]at aq;refine⟨.int .i64 n,?_,by simp[aR]⟩;split at I
   ·rename_i aM;obtain⟨d,a7,eY⟩:=hg aI aM;obtain rfl:=qB eY;simp[execOp,resolve,invoke,builtin,Builtin.len_,run_underlying a7,aq,goInt]
   ·cases I
  ·cases he
 ·rename_i x o t;simp only[bB]at aj;obtain⟨I,J⟩:=aj;have aq:=dT hr J;simp only[gB]at he;unfold C2 at he;split at he
  ·rename_i s af;cases he;rw[af]at aq;simp only[aR]at aq;refine⟨.int .i64 s.length,?_,by simp[aR]⟩;split at I
   ·rename_i aM;obtain⟨d,a7,eY⟩:=hg aI aM;obtain rfl:=vu eY;simp[execOp,resolve,invoke,builtin,Builtin.len_,run_underlying a7,aq.1,goInt,C1]
   ·cases I
  ·rename_i s af;cases he;rw[af]at aq;simp only[aR]at aq;refine⟨.int .i64 s.size,?_,by simp[aR]⟩;split at I
   ·rename_i aM;obtain⟨d,a7,eY⟩:=hg aI aM;obtain rfl:=vu eY;simp[execOp,resolve,invoke,builtin,Builtin.len_,run_underlying a7,aq,goInt]
   ·cases I
  ·cases he
 ·rename_i zero parts t bY;split at aj
  ·rename_i dC z aM;simp only[bB]at aj;obtain⟨⟨I,J⟩,av⟩:=aj;obtain⟨cd,cn,abE⟩:=agW I;obtain⟨i,d,agU,aq,aU,bR,ds,hn,gY,mc,n1⟩:=(tx aI aM).ex;obtain⟨gs,rfl,gu⟩:=HE hn;simp only at cn mc n1;subst cn;have j4:(gs.toList.all fun f=>(dE bs f.type).isSome)=true:=by rw[<-gu]at J;simpa[List.all_map,Function.comp_def]using J
   obtain⟨places,iA,hv⟩:=Sz aI gs.toList j4;rw[gu]at hv;cases agU<;>simp only[yC]at mc;case agg us=>
    simp only[gB]at he;cases af:tM st.t zero parts with
    |none=>simp[af]at he
    |some x=>obtain⟨h9,cs'⟩:=x;simp only[af,su]at he;cases he;obtain⟨bF,g1,g2⟩:=Tx hr hv parts bY.toList zero us c cs' av (UD abE (LR w ν _ _ mc)) af aD;refine⟨.agg bF,j0 (run_build w t _ bF ?_),by simp only[aR];exact⟨bF,rfl,g2⟩⟩;simp only[Program.built,aq,aU,gY,iA,l1];simpa using g1
   all_goals cases mc
  ·cases aj
 ·rename_i x o;have aq:=dT hr aj;simp only[gB]at he;unfold zK at he;split at he
  ·rename_i k off af;cases he;rw[af]at aq;have aU:=aq;simp only[aR]at aq;obtain⟨b,_,aS⟩:=aq;exact⟨a.eval o,by simp[execOp,aS],aU⟩
  ·rename_i q af;cases he;rw[af]at aq;have aU:=aq;simp only[aR]at aq;obtain⟨b,off,u,aS,_⟩:=aq;exact⟨a.eval o,by simp[execOp,aS],aU⟩
  ·rename_i f cs af;cases he;rw[af]at aq;have aU:=aq;simp only[aR]at aq;obtain⟨us,aS,_⟩:=aq;exact⟨a.eval o,by simp[execOp,aS],aU⟩
  ·cases he
 ·rename_i x y o o' t eB;simp only[bB]at aj;have aq:=dT hr aj.1;have aU:=dT hr aj.2;simp only[gB]at he;unfold FD at he;split at he
  ·rename_i k m bz n hm aK;split at he
   ·rename_i aa;subst aa;cases he;rw[hm]at aq;rw[aK]at aU;simp only[aR]at aq aU;exact⟨.int k (if n<m then n else m),by simp[execOp,resolve,invoke,builtin,Builtin.min_,Builtin.min2,aq,aU],by simp[aR]⟩
   ·cases he
  ·cases he
 ·rename_i n xs m os;simp only[bB,dO]at aj;obtain⟨rfl,aj⟩:=aj;simp only[gB]at he;cases he;have n5:=Ah hr aj;refine⟨.func (.func n) #[] (os.map a.eval),by simp[execOp,Instr.makeFunc],?_⟩;simp only[aR];exact⟨os.map a.eval,rfl,by simpa using n5⟩
 ·rename_i b0 zero ok x k t o o' FR;simp only[bB,dO]at aj;obtain⟨⟨⟨rfl,I⟩,J⟩,av⟩:=aj;have aq:=dT hr J;have aU:=dT hr av;split at I
  ·rename_i sz kJ mv oS z aM;simp only[bB]at I;obtain⟨aaK,ID⟩:=I;split at ID
   ·rename_i aiq EG;have cn:=LU ID;obtain⟨fE,hu,eY⟩:=hg aI aM;have fF:fE= .map mv oS:=by cases fE<;>simp[la]at eY;obtain⟨rfl,rfl⟩:=eY;rfl
    subst fF;obtain⟨bm,Dg,z2,_⟩:=Lo aI EG w;rw[<-cn]at z2;have ae:=(LS w ν z2).1;have lJ:=JF aI aaK;simp only[gB]at he;unfold qQ at he;split at he
    ·rename_i key ad;rw[ad]at aq;simp only[aR]at aq;obtain⟨bl,bQ,b3⟩:=aq;split at he
     ·rename_i clock borns kvs ih;obtain⟨h8,us,el,g1,g2,g3,g4,g5⟩:=hr.good.box key _ ih;rw[bQ]at g1;cases g1;simp only[iz]at g4;simp only[hQ]at g5;have lN:(getObj bl).run P w= .ok (.map (fk borns us.toList).toArray clock) w:=uY g4;split at he
      ·cases he
      rename_i nv;have oV:=K1 (P:=P) (w:=w) lJ ((fk borns us.toList).toArray.isEmpty) aU (by simpa using nv);split at he
      ·rename_i v hm;cases he;obtain⟨j,u,f1,f2⟩:=JX lJ aU borns kvs us.toList 0 _ g5.1 g5.2.len hm;refine⟨if ok then .tuple #[u,.bool true]else u,?_,?_⟩
       ·simp only[execOp];refine j0 ?_;simp only[Instr.lookup,e2,run_underlying hu,e8,b3,lN,fC,oV,f1.run lJ]
       ·cases ok
        ·simpa using f2
        ·simp only[if_true,aR];exact⟨_,rfl,by simp only[cD];exact⟨_,_,rfl,f2,_,_,rfl,by simp[aR],rfl⟩⟩
      ·rename_i hm;cases he;have f1:=JX lJ aU borns kvs us.toList 0 _ g5.1 g5.2.len hm;simp only at f1;refine⟨if ok then .tuple #[bm,.bool false]else bm,?_,?_⟩
       ·simp only[execOp];refine j0 ?_;simp only[Instr.lookup,e2,run_underlying hu,e8,b3,lN,fC,oV,f1.run lJ,Dg]
       ·cases ok
        ·simpa using ae
        ·simp only[if_true,aR];exact⟨_,rfl,by simp only[cD];exact⟨_,_,rfl,ae,_,_,rfl,by simp[aR],rfl⟩⟩
      ·cases he
     ·cases he
    ·cases he
   ·cases ID
  ·cases I
 ·rename_i x o;have aq:=dT hr aj;simp only[gB]at he;unfold tf at he;split at he
  ·rename_i gT ad;rw[ad]at aq;simp only[aR]at aq;obtain⟨bl,bQ,b3⟩:=aq;split at he
   ·rename_i since seen last mk ih;obtain⟨h8,us,el,g1,g2,g3,g4,g5⟩:=hr.good.box gT _ ih;rw[bQ]at g1;cases g1;simp only[iz]at g4;simp only[hQ,cD,aR]at g5;obtain⟨u,bF,jV,⟨p1,m1,rfl⟩,rfl⟩:=g5;rw[jV]at g4;simp only at g4;split at he
    ·rename_i clock borns kvs IX;obtain⟨ahH,pn,aia,dh,ed,hO,kS,qP⟩:=hr.good.box mk _ IX;rw[m1]at dh;cases dh;simp only[iz]at kS;simp only[hQ]at qP;split at he
     ·rename_i n aK;simp only[hT]at he;obtain⟨q,bG,he⟩:=he;cases he;obtain⟨e,f1,f2⟩:=Rz borns kvs pn.toList p qP.1 bG;refine⟨.tuple #[e.key,e.val],?_,f2⟩;simp only[execOp];refine j0 ?_;have aat:(getObj bl).run P w= .ok (.mapIter (some p1) since seen.toArray last) w:=uY g4;have aau:(getObj p1).run P w= .ok (.map (fk borns pn.toList).toArray clock) w:=uY kS;have Il:seen.toArray.back? =some n:=by simpa using aK
      have mi:(clock !=last)=false:=by simp[aD]
      have aan:(fk borns pn.toList).toArray.find? (·.born==n)=some e:=by simpa using f1
      simp only[Instr.entry,b3,e2,aat,e8,Il,aau,mi,iR,if_false,aan,fC]
     ·cases he
    ·cases he
   ·cases he
  ·cases he
 ·rename_i x o t;simp only[bB]at aj;obtain⟨I,J⟩:=aj;have aq:=dT hr J;simp only[gB]at he;unfold zI at he;split at he
  ·rename_i key af;rw[af]at aq;simp only[aR]at aq;obtain⟨bl,bQ,b3⟩:=aq;split at he
   ·rename_i clock borns kvs ih;cases he;obtain⟨h8,us,el,g1,g2,g3,g4,g5⟩:=hr.good.box key _ ih;rw[bQ]at g1;cases g1;simp only[iz]at g4;simp only[hQ]at g5;have lN:(getObj bl).run P w= .ok (.map (fk borns us.toList).toArray clock) w:=uY g4;have hlen:(fk borns us.toList).length=borns.length:=On g5.2.len (Tr g5.1);refine⟨.int .i64 borns.length,?_,by simp[aR]⟩;split at I
    ·rename_i aM;obtain⟨d,a7,eY⟩:=hg aI aM;obtain⟨mv,oS,rfl⟩:∃mv oS,d= .map mv oS:=by cases d<;>simp[la]at eY;exact⟨_,_,rfl⟩
     simp[execOp,resolve,invoke,builtin,Builtin.len_,run_underlying a7,b3,goInt,lN,hlen]
    ·cases I
   ·cases he
  ·cases he
 ·rename_i neg dC x y op t o o' T3;simp only[bB,ef]at aj;obtain⟨⟨⟨rfl,bD⟩,I⟩,J⟩:=aj;have aq:=dT hr I;have aU:=dT hr J;simp only[gB]at he;unfold Dw at he;split at he
  ·rename_i cV fy b4 af;simp only at bD;cases he;rw[b4]at aq;rw[af]at aU;simp only[aR]at aq aU;split at bD
   ·rename_i aM;obtain⟨d,a7,eY⟩:=hg aI aM;obtain rfl:d= .bool:=by cases d<;>simp[la]at eY;rfl
    refine⟨.bool (if neg then cV !=fy else cV==fy),j0 ?_,by simp[aR]⟩;cases neg<;>simp[aq,aU,eqGuard,binOp,Wz a7,bne]
   ·cases bD
  ·rename_i aiz as eE b4 af;simp only at bD;simp only[hT]at he;obtain⟨q,bG,he⟩:=he;cases he;rw[b4]at aq;rw[af]at aU;simp only[aR]at aq aU;obtain⟨X,Wq,aey⟩:=aq;obtain⟨Y,Wr,aez⟩:=aU;obtain⟨gs,hu,aO,eZ,iv⟩:=O2 aI bD;obtain⟨i1,_,_⟩:=Oq hu aO eZ aey aez bG;refine⟨.bool (if neg then !q else q),j0 ?_,by simp[aR]⟩;rw[Wq,Wr];cases neg
   ·simp only[iR,if_false,e2,run_eqGuard_agg w _ t o o' X Y iv,e8,run_eql_struct,i1]
   ·simp only[if_true,e2,run_eqGuard_agg w _ t o o' X Y iv,e8,run_neq_struct,i1]
  ·cases he
 ·rename_i x y o o' t eB;simp only[bB]at aj;have aq:=dT hr aj.1;have aU:=dT hr aj.2;simp only[gB]at he;unfold FB at he;split at he
  ·rename_i k m bz n hm aK;split at he
   ·rename_i aa;subst aa;cases he;rw[hm]at aq;rw[aK]at aU;simp only[aR]at aq aU;exact⟨.int k (if m<n then n else m),by simp[execOp,resolve,invoke,builtin,Builtin.max_,Builtin.max2,aq,aU],by simp[aR]⟩
   ·cases he
  ·cases he
 ·rename_i t x eB o;simp only[bB,dO]at aj;obtain⟨⟨rfl,I⟩,J⟩:=aj;have aq:=dT hr J;simp only[gB]at he;cases he;split at I
  ·rename_i aM;obtain⟨d,a7,eY⟩:=hg aI aM;obtain rfl:=qB eY;refine⟨.iface t (a.eval o),j0 (by simp[Instr.makeInterface,run_underlying a7]),?_⟩;simp only[aR];exact⟨_,rfl,aq⟩
  ·cases I
 ·rename_i agg sz x t o;simp only[bB]at aj;obtain⟨I,J⟩:=aj;split at I
  ·rename_i f aM;simp only[bB,dO]at I;obtain⟨rfl,rfl⟩:=I;obtain⟨v,g1,g2⟩:=Fy aI hr.good aM (dT hr J) (acB (by simpa only[gB]using he)) aD;exact⟨v,j0 g1,g2⟩
  ·cases I
 ·rename_i x s d o;simp only[bB]at aj;obtain⟨I,J⟩:=aj;split at I
  ·rename_i e _ _ IE mm;split at I
   ·rename_i aal;obtain⟨d1,lL,Iy⟩:=hg aI IE;obtain rfl:=qB Iy;obtain⟨d2,ky,Iz⟩:=hg aI mm;obtain rfl:=vu Iz;obtain⟨d3,Z5,aab⟩:=hg aI aal;obtain rfl:=A6 aab;have aq:=dT hr J;simp only[gB]at he;unfold Dv at he;split at he
    ·rename_i sz tag xs af;simp only[hT]at he;obtain⟨eE,uc,he⟩:=he;cases he;rw[af]at aq;simp only[aR]at aq;obtain⟨⟨lB,cap,b9,cx,dp,c6⟩,_⟩:=aq;have aE:=Mt uc;have ad:∃ns:List Int,ns.length=xs.length/\eE=ns.map yQ/\(xs.length=0\/ ∃b off,lB=some ⟨b,off,none⟩/\kg w ν.A b off (ns.map (mE .u8))):=by
      rcases c6 with rfl|⟨b,off,us,iA,hv,uL⟩
      ·simp only[oQ,dL]at uc;exact⟨[],rfl,by rw[<-uc];rfl,.inl rfl⟩
      ·obtain⟨ns,fp,fI,nb⟩:=Mu uc uL;subst fp;exact⟨ns,by simpa using nb,fI,.inr ⟨b,off,iA,hv⟩⟩
     obtain⟨ns,gV,rfl,h4⟩:=ad;refine⟨_,j0 (v:= .string ⟨(ns.map yQ).toArray⟩) ?_,by simp only[aR];exact⟨trivial,by rw[aE];exact dp.2⟩⟩;rw[b9];simp only[convert,e2,run_underlying lL,run_underlying ky,e8];simp only[run_underlying Z5,e2,e8,Vb gV h4]
    ·cases he
   ·cases I
  ·cases I
 ·rename_i neg x op t o T3;simp only[bB,ef]at aj;obtain⟨⟨rfl,bD⟩,I⟩:=aj;have aq:=dT hr I;split at bD
  ·rename_i aM;obtain⟨d,a7,eY⟩:=hg aI aM;obtain⟨ms,rfl⟩:∃ms,d= .interface ms:=by cases d<;>simp[la]at eY;exact⟨_,rfl⟩
   simp only[gB]at he;unfold Fj at he;split at he
   ·rename_i ak0 q bG;cases he;rw[bG]at aq;simp only[aR]at aq;obtain⟨u,aq,_⟩:=aq;refine⟨.bool neg,j0 ?_,by simp[aR]⟩;rw[show a.eval (.const .nilIface)= .nilIface from rfl,aq];cases neg<;>simp[eqGuard,binOp,(D1 (w:=w) a7).1,(D1 (w:=w) a7).2]
   ·rename_i bG;cases he;rw[bG]at aq;simp only[aR]at aq;refine⟨.bool (!neg),j0 ?_,by simp[aR]⟩;rw[show a.eval (.const .nilIface)= .nilIface from rfl,aq];cases neg<;>simp[eqGuard,binOp,(D1 (w:=w) a7).1,(D1 (w:=w) a7).2]
   ·cases he
  ·cases bD
 ·rename_i agg sz x t o;simp only[bB]at aj;obtain⟨I,J⟩:=aj;split at I
  ·rename_i f aM;simp only[bB,dO]at I;obtain⟨rfl,rfl⟩:=I;obtain⟨v,g1,g2⟩:=Fy aI hr.good aM (dT hr J) (YN (by simpa only[gB]using he)) aD;exact⟨v,j0 g1,g2⟩
  ·cases I
 ·exact absurd rfl (ZR _ _ _ _ _)
 ·cases aj
theorem af5{P:bW}{bs:List (Nat×du)}(aI:fS P bs=true){C:eH}{st:bb}{a:Act}{w:World}{ν:aT}(hr:ct C st a w ν){i:fD}{o:Oper}(aj:C7 bs i o.op=true)
  {c:Prop} {p:ag} (he:gB st i=some (c,p)) (aD:c):∃v,(execOp a.eval o).run P w= .ok (.value v) w/\aR w ν p v:=by
 by_cases af:∃b0 z ok x k,i= .mgetB b0 z ok x k
 ·obtain⟨b0,z,ok,x,k,rfl⟩:=af;refine T8 aI hr (i:= .mget b0 z ok x k) (fun _ _ _ _ _ e=>by cases e) ?_ he aD;obtain⟨dst,op,type,pos,after,guard⟩:=o;cases op<;>first|exact aj|simp[C7]at aj
 ·exact T8 aI hr (fun b0 z ok x k e=>af ⟨b0,z,ok,x,k,e⟩) aj he aD
theorem NL{w:World}{o:Obj}{b i:Nat}(h:b<w.heap.size):(w.alloc o).cell? ⟨b,i,none⟩=w.cell? ⟨b,i,none⟩:=World.cell?_of_block (Below.heap_alloc w o b h)
def aT.withBox(ν:aT)(k:aJ)(bl:Nat):aT:={ν with bx:=fun j=>if j=k then some bl else ν.bx j}
def aT.withOwn(ν:aT)(k:aJ)(n:Nat)(v:Value):aT:={ν with ow:=fun j=>if j=k then some (n,v)else ν.ow j}
theorem ct.lookNone{C:eH}{st:bb}{a:Act}{w:World}{ν:aT}(h:ct C st a w ν){k:aJ}(aa:fresh st.n st.o k):look k st.b=none/\look k st.e=none:=by
 obtain⟨I,J,_⟩:=h.new k aa;constructor
 ·cases af:look k st.b with
  |none=>rfl
  |some cs=>obtain⟨bl,us,el,g1,_⟩:=h.good.box _ _ af;rw[I]at g1;cases g1
 ·cases af:look k st.e with
  |none=>rfl
  |some o=>obtain⟨v,us,g1,_⟩:=h.good.own _ _ af;rw[J]at g1;cases g1
theorem Good.ownLt{pr:Nat->Prop}{w:World}{ν:aT}{b:List (aJ×List ag)}{e:List (aJ×dw)}(h:Good pr w ν b e){g:aJ}{o:dw}(aO:look g e=some o){n:Nat}{v:Value}(aS:ν.ow g=some (n,v)){bl:Nat}(af:v.ownBlock=some bl):bl<w.heap.size:=by obtain⟨v',us,g1,g2,_⟩:=h.own g o aO;rw[aS]at g1;cases g1;exact(g2.lt bl af).2
theorem Good.boxLt{pr:Nat->Prop}{w:World}{ν:aT}{b:List (aJ×List ag)}{e:List (aJ×dw)}(h:Good pr w ν b e){k:aJ}{cs:List ag}(aa:look k b=some cs){bl:Nat}(af:ν.bx k=some bl):bl<w.heap.size:=by obtain⟨h8,us,el,g1,_,_,g4,_⟩:=h.box k cs aa;rw[af]at g1;cases g1;exact(Array.getElem?_eq_some_iff.1 g4).1
theorem ct.newBox{C:eH}{st:bb}{a:Act}{w:World}{ν:aT}(h:ct C st a w ν){gN:aJ}(aaG:ν.bx gN=none/\ν.ow gN=none/\∀j b,¬ν.tr gN j b){n':Nat}{o':List aJ}(ij:∀j,fresh n' o' j->fresh st.n st.o j/\j≠gN){cs:List ag}{us:Array Value}(el:GJ gN)(aD:hQ w ν cs us.toList):
  ct C {st with b:=cR gN cs st.b,n:=n',o:=o'} a (w.alloc (iz cs us el.1)) (ν.withBox gN w.heap.size)/\
  aR (w.alloc (iz cs us el.1)) (ν.withBox gN w.heap.size) (.ptr gN 0) (.pointer (some ⟨w.heap.size,0,none⟩)):=by
 obtain⟨oc,rR,I0⟩:=aaG;have aj:lA w ν (w.alloc (iz cs us el.1)) (ν.withBox gN w.heap.size):=by
  refine⟨fun b o bg=>⟨bg,NL (h.good.alt b o bg)⟩,fun k b _ aa=>?_,fun g n u _ aO=>⟨n,u,aO,.inl ⟨rfl,rfl⟩⟩,fun b o bg=>yp (Below.heap_alloc w _ b (h.good.alt b o bg)),fun _ _ _ _ h=>h⟩;have:k≠gN:=fun e=>by subst e;rw[oc]at aa;cases aa
  simp[aT.withBox,this,aa]
 have ev:(w.alloc (iz cs us el.1)).heap.size=w.heap.size+1:=by simp
 have jE:∀k,(look k (cR gN cs st.b)).isSome->k=gN\/(k≠gN/\(look k st.b).isSome/\(ν.withBox gN w.heap.size).bx k=ν.bx k):=by
  intro k aa;by_cases e:k=gN
  ·exact .inl e
  ·rw[jr,bf (Ne.symm e)]at aa;exact .inr ⟨e,aa,by simp[aT.withBox,e]⟩
 refine⟨h.over aj rfl ⟨fun bl o bg=>by rw[ev];have:=h.good.alt bl o bg;omega,fun k dP aa=>?_,fun k bz bl aa gz aq aU=>?_,fun g o aO=>?_,h.good.oinj,fun g k n v bl aO aa aS af ad=>?_,fun k=>?_,fun bl af k j aI=>?_⟩
  ⟨h.fr.os,h.fr.tape,h.fr.output,by rw[ev];have:=h.fr.size;omega,fun k aa hm=>?_,fun b o bg=>?_,h.fr.fresh,fun n b af=>?_,h.fr.obn,h.fr.row,h.fr.obr,h.fr.trd,fun k j b af=>⟨(h.fr.trb k j b af).1,by rw[ev];have:=(h.fr.trb k j b af).2;omega⟩,fun k j b af=>?_,fun b o bg=>(aj.sh b o (h.fr.keep b o bg).1).trans (h.fr.sh b o bg),h.fr.nrow⟩ (fun m hm=>?_) (fun m hm=>(ij m hm).1),?_⟩
 ·simp only at aa;rw[jr]at aa;by_cases e:gN=k
  ·rw[bN e]at aa;cases aa;subst e;refine⟨w.heap.size,us,el,by simp[aT.withBox],.inr h.fr.size,fun o bg=>?_,heap_alloc_new w _,pe aj aD⟩;have:=h.good.alt _ o bg;omega
  ·rw[bf e]at aa;obtain⟨bl,bF,eJ,g1,g2,g3,g4,g5⟩:=h.good.box k dP aa;exact⟨bl,bF,eJ,aj.bx _ _ trivial g1,g2,g3,by rw[Below.heap_alloc w _ bl (Array.getElem?_eq_some_iff.1 g4).1];exact g4,pe aj g5⟩
 ·rcases jE k aa with rfl|⟨gV,fH,h4⟩<;>rcases jE bz gz with rfl|⟨m1,m2,m3⟩
  ·rfl
  ·exfalso;simp only[aT.withBox,if_true,dL]at aq;subst aq;rw[m3]at aU;obtain⟨dP,hJ⟩:=fv.1 m2;have:=h.good.boxLt hJ aU;omega
  ·exfalso;simp only[aT.withBox,if_true,dL]at aU;subst aU;rw[h4]at aq;obtain⟨dP,hJ⟩:=fv.1 fH;have:=h.good.boxLt hJ aq;omega
  ·rw[h4]at aq;rw[m3]at aU;exact h.good.inj k bz bl fH m2 aq aU
 ·obtain⟨v,xs,g1,g2,g3,g4⟩:=h.good.own g o aO;exact⟨v,xs,g1,g2.alloc _,g3,qY aj (fun _ _ _ h=>h) g4⟩
 ·rcases jE k aa with rfl|⟨gV,fH,h4⟩
  ·simp only[aT.withBox,if_true,dL]at ad;subst ad;obtain⟨o,hN⟩:=fv.1 aO;have:=h.good.ownLt hN aS af;omega
  ·rw[h4]at ad;exact h.good.obx g k n v bl aO fH aS af ad
 ·by_cases e:k=gN
  ·subst e;exact .inr rR
  ·rcases h.good.one k with I|I
   ·exact .inl (by simp[aT.withBox,e,I])
   ·exact .inr I
 ·rcases af with⟨bz,bV,a2⟩|af
  ·rcases jE bz bV with rfl|⟨gV,fH,h4⟩
   ·simp[aT.withBox]at a2;subst a2;exact absurd (h.fr.trb k j _ aI).2 (Nat.lt_irrefl _)
   ·exact h.good.otr bl (.inl ⟨bz,fH,by rw[<-h4];exact a2⟩) k j aI
  ·exact h.good.otr bl (.inr af) k j aI
 ·rw[Below.heap_alloc w _ k (by have:=h.fr.size;omega)];exact h.fr.block k aa hm
 ·obtain⟨dh,ed⟩:=h.fr.keep b o bg;exact⟨dh,(NL (h.good.alt b o dh)).trans ed⟩
 ·exact aj.bx _ _ trivial (h.fr.obj n b af)
 ·have cE:k≠gN:=fun e=>by subst e;exact I0 j b af
  obtain⟨t1,t2⟩:=h.fr.trn k j b af;exact⟨by simp[aT.withBox,cE,t1],t2⟩
 ·obtain⟨f1,f2⟩:=ij m hm;obtain⟨dh,ed⟩:=h.new m f1;refine⟨?_,ed⟩;simp[aT.withBox,f2,dh]
 ·simp[aR,aT.withBox]
theorem ct.setBox{C:eH}{st:bb}{a:Act}{w w':World}{ν:aT}(h:ct C st a w ν){k:aJ}{cs cs':List ag}(aa:look k st.b=some cs){bl:Nat}(af:ν.bx k=some bl){us:Array Value}{el:GJ k}
  (vT:w'.os=w.os) (B2:w'.tape=w.tape) (BP:w'.output=w.output) (ka:∀j,j≠bl->w'.heap[j]? =w.heap[j]?) (ev:w'.heap.size=w.heap.size) (lh:w'.heap[bl]? =some (iz cs' us el.1)) (aD:hQ w ν cs' us.toList):
  ct C {st with b:=cR k cs' st.b} a w' ν/\lA w ν w' ν:=by
 obtain⟨h8,eN,ah9,g1,g2,g3,g4,g5⟩:=h.good.box k cs aa;rw[af]at g1;cases g1;have aj:lA w ν w' ν:=by
  refine⟨fun b o bg=>⟨bg,World.cell?_of_block (ka b fun e=>?_)⟩,fun _ _ _ h=>h,fun g n u _ aO=>⟨n,u,aO,.inl ⟨rfl,rfl⟩⟩,fun b o bg=>yp (ka b fun e=>?_),fun _ _ _ _ h=>h⟩<;>
  (subst e;exact g3 o bg)
 have oZ:∀j,(look j (cR k cs' st.b)).isSome->(look j st.b).isSome:=by
  intro j al;rw[jr]at al;by_cases e:k=j
  ·subst e;simp[aa]
  ·rwa[bf e]at al
 refine⟨h.over aj rfl ⟨fun b o bg=>by rw[ev];exact h.good.alt b o bg,fun j dP al=>?_,fun j e4 b al kO=>h.good.inj j e4 b (oZ j al) (oZ e4 kO),fun g o aO=>?_,h.good.oinj,fun g j n v b aO al=>h.good.obx g j n v b aO (oZ j al),h.good.one,fun bl af=>h.good.otr bl (af.imp (fun⟨k,I,J⟩=>⟨k,oZ k I,J⟩) id)⟩
  ⟨vT.trans h.fr.os,B2.trans h.fr.tape,BP.trans h.fr.output,by rw[ev];exact h.fr.size,fun j al hm=>?_,fun b o bg=>?_,h.fr.fresh,h.fr.obj,h.fr.obn,h.fr.row,h.fr.obr,h.fr.trd,fun k j b af=>⟨(h.fr.trb k j b af).1,by rw[ev];exact(h.fr.trb k j b af).2⟩,h.fr.trn,fun b o bg=>(aj.sh b o (h.fr.keep b o bg).1).trans (h.fr.sh b o bg),h.fr.nrow⟩ h.new,aj⟩
 ·simp only at al;rw[jr]at al;by_cases e:k=j
  ·rw[bN e]at al;cases al;subst e;exact⟨bl,us,el,af,g2,g3,lh,pe aj aD⟩
  ·rw[bf e]at al;obtain⟨b,bF,eJ,aq,aU,bR,ds,hn⟩:=h.good.box j dP al;refine⟨b,bF,eJ,aq,aU,bR,?_,pe aj hn⟩;rw[ka b fun iX=>e (h.good.inj k j bl (by simp[aa]) (by simp[al]) af (by rw[<-iX];exact aq))];exact ds
 ·obtain⟨v,xs,aq,aU,bR,ds⟩:=h.good.own g o aO;refine⟨v,xs,aq,⟨aU.1,?_⟩,bR,qY aj (fun _ _ _ h=>h) ds⟩;rcases aU.2 with aU|⟨hD,cap,cur,f1,f2,f3,f4⟩
  ·exact .inl aU
  ·refine .inr ⟨hD,cap,cur,f1,f2,?_,f4⟩;rw[ka hD fun iX=>h.good.obx g k o.n v bl (by simp[aO]) (by simp[aa]) aq (by rw[f1,<-iX];rfl) af];exact f3
 ·rw[ka j fun e=>by subst e;exact g2.elim hm (fun g2=>Ω)];exact h.fr.block j al hm
 ·obtain⟨dh,ed⟩:=h.fr.keep b o bg;exact⟨dh,(aj.A b o dh).2.trans ed⟩
theorem ct.storeBox{C:eH}{st:bb}{a:Act}{w:World}{ν:aT}(h:ct C st a w ν){k:aJ}{cs cs':List ag}(aa:look k st.b=some cs){bl:Nat}(af:ν.bx k=some bl)(bq:iB cs=true){us:Array Value}(aD:cG w ν cs' us.toList):
  ct C {st with b:=cR k cs' st.b} a (w.setRow bl us) ν:=by
 obtain⟨h8,eN,el,g1,g2,g3,g4,g5⟩:=h.good.box k cs aa;rw[af]at g1;cases g1;rw[p5 bq]at g4;have Qc:=yj aD;exact(h.setBox (w':=w.setRow bl us) aa af (us:=us) (el:=el) rfl rfl rfl (fun j al=>setRow_other w bl j us al) (setRow_size w bl us) (by rw[p5 Qc];exact setRow_heap w bl eN us el.1 _ g4) (by rw[pc Qc];exact aD)).1
def aT.withRowOf(ν:aT)(k:aJ)(v:Value)(n cells:Nat):aT:={A:=fun b o=>ν.A b o\/(v.ownBlock=some b/\o<cells),bx:=ν.bx,ow:=fun j=>if j=k then some (n,v)else ν.ow j,tr:=ν.tr}
theorem xY{w:World}{A:Nat->Nat->Prop}{b:Nat}:∀(us:List Value) (off:Nat),(∀j u,us[j]? =some u->A b (off+j)/\w.cell? ⟨b,off+j,none⟩=some u)->kg w A b off us
 |[],_,_=>trivial
 |u::us,off,h=>⟨h 0 u rfl,xY us (off+1) fun j x al=>by have:=h (j+1) x (by simpa using al);rwa[show off+(j+1)=off+1+j from by omega]at this⟩
theorem NM{w w':World}(aO:w.grownBy w' none){b i:Nat}(h:b<w.heap.size):w'.cell? ⟨b,i,none⟩=w.cell? ⟨b,i,none⟩:=World.cell?_of_block (aO.block b h Ψ)
theorem ct.newRowM{C:eH}{st:bb}{a:Act}{w w':World}{ν:aT}(h:ct C st a w ν){k:aJ}{xs:List ag}(aa:(ν.bx k=none/\ν.ow k=none/\∀j b,¬ν.tr k j b)\/ ∃o,look k st.e=some o/\o.n<xs.length){el sz:Nat}{v:Value}{us:List Value}
  (aO:w.grownBy w' none) (kc:w'.ownsRow w.heap.size el sz v xs.length us) (aD:cI w ν sz xs us) (fW:xs.length<=bA) {n':Nat} {o':List aJ} (ij:∀j,fresh n' o' j->fresh st.n st.o j/\j≠k):
  ct C {st with e:=cR k ⟨xs.length,el,sz,some xs⟩ st.e,n:=n',o:=o'} a w' (ν.withOwn k xs.length v)/\
  ((∃b cap,v= .slice (some ⟨b,0,none⟩) xs.length cap)->aR w' (ν.withOwn k xs.length v) (.row sz k xs.length) v):=by
 have n7:∀bl,v.ownBlock=some bl->w.heap.size<=bl/\bl<w'.heap.size:=fun bl af=>kc.lt bl af;have aj:lA w ν w' (ν.withOwn k xs.length v):=by
  refine⟨fun b o bg=>⟨bg,NM aO (h.good.alt b o bg)⟩,fun j b _ al=>al,fun g n u _ iv=>?_,fun b o bg=>yp (aO.block b (h.good.alt b o bg) Ψ),fun _ _ _ _ h=>h⟩;by_cases e:g=k
  ·subst e;rcases aa with aa|⟨o,aj,b7⟩
   ·rw[aa.2.1]at iv;cases iv
   ·obtain⟨v0,eN,aq,_⟩:=h.good.own g o aj;rw[aq]at iv;cases iv;exact⟨xs.length,v,by simp[aT.withOwn],.inr b7⟩
  ·exact⟨n,u,by simp[aT.withOwn,e,iv],.inl ⟨rfl,rfl⟩⟩
 have kA:∀g,(look g (cR k ⟨xs.length,el,sz,some xs⟩ st.e)).isSome->g=k\/(g≠k/\(look g st.e).isSome/\(ν.withOwn k xs.length v).ow g=ν.ow g):=by
  intro g gu;by_cases e:g=k
  ·exact .inl e
  ·rw[jr,bf (Ne.symm e)]at gu;exact .inr ⟨e,gu,by simp[aT.withOwn,e]⟩
 have E0:∀bl,v.ownBlock=some bl->∀j,¬ν.A bl j:=fun bl af j bg=>by have I:=h.good.alt bl j bg;have:=(n7 bl af).1;omega
 have aa9:∀j b,¬ν.tr k j b:=fun j b af=>by
  rcases aa with aa|⟨o,hN,_⟩
  ·exact aa.2.2 j b af
  ·obtain⟨v0,eN,aq,_⟩:=h.good.own k o hN;rw[(h.fr.trn k j b af).2]at aq;cases aq
 refine⟨h.over aj rfl ⟨fun bl o bg=>?_,fun j dP al=>?_,h.good.inj,fun g o eU=>?_,fun g eK n n' u e7 bl I J av aV bE ch=>?_,fun g j n u bl I J av aV bE=>?_,fun j=>?_,fun bl af bz j aI=>?_⟩
  ⟨aO.os.trans h.fr.os,aO.tape.trans h.fr.tape,aO.output.trans h.fr.output,Nat.le_trans h.fr.size aO.size,fun j al hm=>?_,fun b o bg=>?_,h.fr.fresh,h.fr.obj,h.fr.obn,fun m n u hm=>CY (h.fr.row m n u hm) (fun n u=>aj.ow _ n u trivial),h.fr.obr,h.fr.trd,fun k j b af=>⟨(h.fr.trb k j b af).1,Nat.lt_of_lt_of_le (h.fr.trb k j b af).2 aO.size⟩,fun bz j b af=>?_,fun b o bg=>(aj.sh b o (h.fr.keep b o bg).1).trans (h.fr.sh b o bg),fun j n u b aq aU=>?_⟩ (fun m hm=>?_) (fun m hm=>(ij m hm).1),?_⟩
 ·have:=h.good.alt bl o bg;have:=aO.size;omega
 ·obtain⟨bl,bF,eJ,g1,g2,g3,g4,g5⟩:=h.good.box j dP al;have b7:=(Array.getElem?_eq_some_iff.1 g4).1;exact⟨bl,bF,eJ,g1,g2,g3,by rw[aO.block bl b7 Ψ];exact g4,pe aj g5⟩
 ·simp only at eU;rw[jr]at eU;by_cases e:k=g
  ·rw[bN e]at eU;cases eU;subst e;refine⟨v,us,by simp[aT.withOwn],⟨kc.1,?_⟩,fun bl af=>⟨.inr (Nat.le_trans h.fr.size (n7 bl af).1),fun j bg=>absurd bg (E0 bl af j)⟩,fun ys bC=>?_⟩
   ·rcases kc.2 with aq|⟨hD,cap,cur,f1,f2,f3⟩
    ·exact .inl aq
    ·exact .inr ⟨hD,cap,cur,f1,Ω,f3⟩
   ·simp only[dL]at bC;subst bC;exact⟨rfl,Ae aj aD,E0⟩
  ·rw[bf e]at eU;obtain⟨v0,eN,aq,aU,bR,ds⟩:=h.good.own g o eU;exact⟨v0,eN,by simp[aT.withOwn,Ne.symm e,aq],aU.kept aO (by cases v0.ownBlock<;>simp),bR,qY aj (fun _ _ _ h=>h) ds⟩
 ·rcases kA g I with rfl|⟨gV,fH,h4⟩<;>rcases kA eK J with rfl|⟨m1,m2,m3⟩
  ·rfl
  ·exfalso;simp only[aT.withOwn,if_true,dL,gp]at av;rw[m3]at aV;obtain⟨o,hN⟩:=fv.1 m2;have aE:=h.good.ownLt hN aV ch;have:=(n7 bl (by rw[av.2];exact bE)).1;omega
  ·exfalso;simp only[aT.withOwn,if_true,dL,gp]at aV;rw[h4]at av;obtain⟨o,hN⟩:=fv.1 fH;have aE:=h.good.ownLt hN av bE;have:=(n7 bl (by rw[aV.2];exact ch)).1;omega
  ·rw[h4]at av;rw[m3]at aV;exact h.good.oinj g eK n n' u e7 bl fH m2 av aV bE ch
 ·rcases kA g I with rfl|⟨gV,fH,h4⟩
  ·simp only[aT.withOwn,if_true,dL,gp]at av;obtain⟨dP,hJ⟩:=fv.1 J;have aE:=h.good.boxLt hJ bE;have:=(n7 bl (by rw[av.2];exact aV)).1;omega
  ·rw[h4]at av;exact h.good.obx g j n u bl fH J av aV bE
 ·by_cases e:j=k
  ·subst e;rcases aa with aa|⟨o,hN,_⟩
   ·exact .inl aa.1
   ·obtain⟨v0,eN,aq,_⟩:=h.good.own j o hN;rcases h.good.one j with I|I
    ·exact .inl I
    ·rw[I]at aq;cases aq
  ·rcases h.good.one j with I|I
   ·exact .inl I
   ·exact .inr (by simp[aT.withOwn,e,I])
 ·rcases af with af|⟨g,n,u,bV,a2,a3⟩
  ·exact h.good.otr bl (.inl af) bz j aI
  ·rcases kA g bV with rfl|⟨gV,fH,h4⟩
   ·simp only[aT.withOwn,if_true,dL,gp]at a2;have I:=(n7 bl (by rw[a2.2];exact a3)).1;have J:=(h.fr.trb bz j _ aI).2;omega
   ·exact h.good.otr bl (.inr ⟨g,n,u,fH,by rw[<-h4];exact a2,a3⟩) bz j aI
 ·rw[aO.block j (by have:=h.fr.size;omega) Ψ];exact h.fr.block j al hm
 ·obtain⟨dh,ed⟩:=h.fr.keep b o bg;exact⟨dh,(aj.A b o dh).2.trans ed⟩
 ·have cE:bz≠k:=fun e=>by subst e;exact aa9 j b af
  obtain⟨t1,t2⟩:=h.fr.trn bz j b af;exact⟨t1,by simp[aT.withOwn,cE,t2]⟩
 ·by_cases e:aJ.loc j=k
  ·subst e;simp only[aT.withOwn,if_true,dL,gp]at aq;exact Nat.le_trans h.fr.size (n7 b (by rw[aq.2];exact aU)).1
  ·simp only[aT.withOwn,bf e]at aq;exact h.fr.nrow j n u b aq aU
 ·obtain⟨f1,f2⟩:=ij m hm;obtain⟨dh,ed,hO⟩:=h.new m f1;refine⟨dh,?_,hO⟩;simp[aT.withOwn,f2,ed]
 ·intro IG;simp only[aR];exact⟨IG,fW,xs.length,v,by simp[aT.withOwn],da _,fun _=>rfl⟩
theorem ct.publish{C:eH}{st:bb}{a:Act}{w:World}{ν:aT}(h:ct C st a w ν){k:aJ}{o:dw}{xs:List ag}(aa:look k st.e=some o)(ad:o.xs=some xs){v:Value}(aS:ν.ow k=some (o.n,v))(fW:xs.length<=bA):
  ct C {st with e:=cR k ⟨o.n,o.el,o.sz,none⟩ st.e} a w (ν.withRowOf k v o.n (o.n*o.sz))/\
  aR w (ν.withRowOf k v o.n (o.n*o.sz)) (.slice o.sz (.own k) xs) v:=by
 obtain⟨v0,us,b9,cx,dp,c6⟩:=h.good.own k o aa;rw[aS]at b9;cases b9;obtain⟨cH,iD,p6⟩:=c6 xs ad;have lj:∀g,(ν.withRowOf k v o.n (o.n*o.sz)).ow g=ν.ow g:=fun g=>by
  simp only[aT.withRowOf];split
  ·rename_i e;subst e;exact aS.symm
  ·rfl
 have aj:lA w ν w (ν.withRowOf k v o.n (o.n*o.sz)):=⟨fun b o bg=>⟨.inl bg,rfl⟩,fun j b _ al=>al,fun g n u _ iv=>⟨n,u,by rw[lj];exact iv,.inl ⟨rfl,rfl⟩⟩,fun _ _ _=>rfl,fun _ _ _ _ h=>h⟩
 have kA:∀g,(look g (cR k ⟨o.n,o.el,o.sz,none⟩ st.e)).isSome->(look g st.e).isSome:=by
  intro g gu;by_cases e:k=g
  ·subst e;simp[aa]
  ·rwa[jr,bf e]at gu
 refine⟨h.over aj rfl ⟨fun bl i bg=>?_,fun j dP al=>?_,h.good.inj,fun g o' eU=>?_,fun g eK n n' u e7 bl I J av aV=>h.good.oinj g eK n n' u e7 bl (kA g I) (kA eK J) (by rwa[lj]at av) (by rwa[lj]at aV),fun g j n u bl I J av=>h.good.obx g j n u bl (kA g I) J (by rwa[lj]at av),fun j=>?_,fun bl af=>h.good.otr bl (af.imp id (fun⟨g,n,v,bV,a2,a3⟩=>⟨g,n,v,kA g bV,by rwa[lj]at a2,a3⟩))⟩
  ⟨h.fr.os,h.fr.tape,h.fr.output,h.fr.size,h.fr.block,fun b i bg=>⟨.inl (h.fr.keep b i bg).1,(h.fr.keep b i bg).2⟩,fun b i bg=>?_,h.fr.obj,h.fr.obn,fun m n u hm=>CY (h.fr.row m n u hm) (fun n u=>aj.ow _ n u trivial),h.fr.obr,h.fr.trd,h.fr.trb,fun bz j b af=>⟨(h.fr.trn bz j b af).1,by rw[lj];exact(h.fr.trn bz j b af).2⟩,h.fr.sh,fun j n u b aq aU=>h.fr.nrow j n u b (by rw[<-lj];exact aq) aU⟩ (fun m hm=>?_),?_⟩
 ·rcases bg with bg|⟨bg,_⟩
  ·exact h.good.alt bl i bg
  ·exact(cx.lt bl bg).2
 ·obtain⟨bl,bF,eJ,g1,g2,g3,g4,g5⟩:=h.good.box j dP al;refine⟨bl,bF,eJ,g1,g2,fun i bg=>?_,g4,pe aj g5⟩;rcases bg with bg|⟨bg,_⟩
  ·exact g3 i bg
  ·exact h.good.obx k j o.n v bl (by simp[aa]) (by simp[al]) aS bg g1
 ·simp only at eU;rw[jr]at eU;by_cases e:k=g
  ·rw[bN e]at eU;cases eU;subst e;refine⟨v,us,by rw[lj];exact aS,cx,fun bl af=>⟨(dp bl af).1,fun j bg=>?_⟩,fun ys bC=>by cases bC⟩;rcases bg with bg|⟨_,bg⟩
   ·exact(dp bl af).2 j bg
   ·exact bg
  ·rw[bf e]at eU;obtain⟨v0,eN,aq,aU,bR,ds⟩:=h.good.own g o' eU;have vD:∀bl,v0.ownBlock=some bl->∀j,(ν.withRowOf k v o.n (o.n*o.sz)).A bl j->ν.A bl j:=fun bl af j bg=>by
    rcases bg with bg|⟨bg,_⟩
    ·exact bg
    ·exact absurd (h.good.oinj k g o.n o'.n v v0 bl (by simp[aa]) (by simp[eU]) aS aq bg af) e
   exact⟨v0,eN,by rw[lj];exact aq,aU,fun bl af=>⟨(bR bl af).1,fun j bg=>(bR bl af).2 j (vD bl af j bg)⟩,qY aj vD ds⟩
 ·rcases h.good.one j with I|I
  ·exact .inl I
  ·exact .inr (by rw[lj];exact I)
 ·rcases bg with bg|⟨bg,_⟩
  ·exact h.fr.fresh b i bg
  ·exact .inr (dp b bg).1
 ·obtain⟨dh,ed,hO⟩:=h.new m hm;exact⟨dh,by rw[lj];exact ed,hO⟩
 ·simp only[aR];refine⟨?_,fun e=>(by cases e),fun g e=>?_,fun _ _ e=>(by cases e),fun _ e=>(by cases e)⟩
  ·rcases cx.2 with⟨aq,aU⟩|⟨hD,cap,cur,f1,f2,f3,f4,f5,f6,f7⟩
   ·refine⟨none,0,by rw[aq,cH,aU],Ω,⟨by simp[maxLen],fW⟩,.inl (l3 Ω)⟩
   ·refine⟨some ⟨hD,0,none⟩,cap,by rw[f1,cH],Ω,⟨f5,fW⟩,.inr ⟨hD,0,us,rfl,xY us 0 fun j u al=>?_,Ae aj iD⟩⟩;have jf:v.ownBlock=some hD:=by rw[f1];rfl
    have eS:j<us.length:=(cX.1 al).1;refine⟨.inr ⟨jf,by rw[cx.1]at eS;omega⟩,?_⟩;have:=cx.cells jf j u al;rwa[nU]at this
  ·cases e;exact⟨o.n,v,by rw[lj];exact aS,Ω,fun _=>rfl⟩
theorem T6{α:Type}(k:aJ)(p q:α):∀l,cR k q (cR k p l)=cR k q l
 |[]=>by simp[cR]
 |(i,r)::l=>by
  by_cases e:i=k
  ·simp[cR,e]
  ·simp[cR,e,T6 k p q l]
theorem ct.newRow{C:eH}{st:bb}{a:Act}{w w':World}{ν:aT}(h:ct C st a w ν){k:aJ}{xs:List ag}(aa:(ν.bx k=none/\ν.ow k=none/\∀j b,¬ν.tr k j b)\/ ∃o,look k st.e=some o/\o.n<xs.length){el sz:Nat}{v:Value}{us:List Value}
  (aO:w.grownBy w' none) (kc:w'.ownsRow w.heap.size el sz v xs.length us) (aD:cI w ν sz xs us) (fW:xs.length<=bA) {n':Nat} {o':List aJ} (ij:∀j,fresh n' o' j->fresh st.n st.o j/\j≠k):
  ct C {st with e:=cR k ⟨xs.length,el,sz,none⟩ st.e,n:=n',o:=o'} a w' ((ν.withOwn k xs.length v).withRowOf k v xs.length (xs.length*sz))/\
  aR w' ((ν.withOwn k xs.length v).withRowOf k v xs.length (xs.length*sz)) (.slice sz (.own k) xs) v:=by
 have I:=(h.newRowM aa aO kc aD fW ij).1;have J:=I.publish (k:=k) (o:=⟨xs.length,el,sz,some xs⟩) (xs:=xs) (v:=v) (by simp[jr]) rfl (by simp[aT.withOwn]) fW;simpa only[T6]using J
theorem ct.setRowM{C:eH}{st:bb}{a:Act}{w w':World}{ν:aT}(h:ct C st a w ν){k:aJ}{o:dw}{xs xs':List ag}(aa:look k st.e=some o)(ad:o.xs=some xs){bl:Nat}{v v':Value}(aS:ν.ow k=some (o.n,v))(jf:v.ownBlock=some bl)(B6:v'.ownBlock=some bl)
  (aK:(xs'.length=o.n/\v'=v)\/o.n<xs'.length) {us:List Value} (vT:w'.os=w.os) (B2:w'.tape=w.tape) (BP:w'.output=w.output) (ka:∀j,j≠bl->w'.heap[j]? =w.heap[j]?) (ev:w'.heap.size=w.heap.size)
  (kc:w'.ownsRow 0 o.el o.sz v' xs'.length us) (aD:cI w ν o.sz xs' us):
  ct C {st with e:=cR k ⟨xs'.length,o.el,o.sz,some xs'⟩ st.e} a w' (ν.withOwn k xs'.length v')/\lA w ν w' (ν.withOwn k xs'.length v')/\(xs'.length<=bA->aR w' (ν.withOwn k xs'.length v') (.row o.sz k xs'.length) v'):=by
 obtain⟨v0,eN,b9,cx,dp,c6⟩:=h.good.own k o aa;rw[aS]at b9;cases b9;obtain⟨cH,iD,p6⟩:=c6 xs ad;have aj:lA w ν w' (ν.withOwn k xs'.length v'):=by
  refine⟨fun b i bg=>⟨bg,World.cell?_of_block (ka b fun e=>by subst e;exact p6 b jf i bg)⟩,fun j b _ al=>al,fun g n u _ iv=>?_,fun b i bg=>yp (ka b fun e=>by subst e;exact p6 b jf i bg),fun _ _ _ _ h=>h⟩;by_cases e:g=k
  ·subst e;rw[aS]at iv;cases iv;refine⟨xs'.length,v',by simp[aT.withOwn],?_⟩;rcases aK with⟨I,J⟩|I
   ·exact .inl ⟨I,J⟩
   ·exact .inr I
  ·exact⟨n,u,by simp[aT.withOwn,e,iv],.inl ⟨rfl,rfl⟩⟩
 have kA:∀g n u,(look g (cR k ⟨xs'.length,o.el,o.sz,some xs'⟩ st.e)).isSome->(ν.withOwn k xs'.length v').ow g=some (n,u)->∀b,u.ownBlock=some b->(look g st.e).isSome/\∃n u,ν.ow g=some (n,u)/\u.ownBlock=some b:=by
  intro g n u gu iv b af;by_cases e:g=k
  ·subst e;simp only[aT.withOwn,if_true,dL,gp]at iv;rw[<-iv.2,B6]at af;cases af;exact⟨by simp[aa],o.n,v,aS,jf⟩
  ·rw[jr,bf (Ne.symm e)]at gu;simp only[aT.withOwn,e,if_false]at iv;exact⟨gu,n,u,iv,af⟩
 refine⟨h.over aj rfl ⟨fun b i bg=>by rw[ev];exact h.good.alt b i bg,fun j dP al=>?_,h.good.inj,fun g o' eU=>?_,fun g eK n n' u e7 b I J av aV bE ch=>?_,fun g j n u b I J av aV bE=>?_,fun j=>?_,fun b af=>h.good.otr b (af.imp id (fun⟨g,n,v,bV,a2,a3⟩=>by obtain⟨bQ,gV,iq,b3,eV⟩:=kA g n v bV a2 b a3;exact⟨g,gV,iq,bQ,b3,eV⟩))⟩
  ⟨vT.trans h.fr.os,B2.trans h.fr.tape,BP.trans h.fr.output,by rw[ev];exact h.fr.size,fun j al hm=>?_,fun b i bg=>?_,h.fr.fresh,h.fr.obj,h.fr.obn,fun m n u hm=>CY (h.fr.row m n u hm) (fun n u=>aj.ow _ n u trivial),h.fr.obr,h.fr.trd,fun k j b af=>⟨(h.fr.trb k j b af).1,by rw[ev];exact(h.fr.trb k j b af).2⟩,fun bz j b af=>?_,fun b o bg=>(aj.sh b o (h.fr.keep b o bg).1).trans (h.fr.sh b o bg),fun j n u b aq aU=>(by
   by_cases e:aJ.loc j=k
   ·subst e;simp only[aT.withOwn,if_true,dL,gp]at aq;rw[<-aq.2,B6]at aU;cases aU;exact h.fr.nrow j o.n v bl aS jf
   ·simp only[aT.withOwn,bf e]at aq;exact h.fr.nrow j n u b aq aU)⟩ (fun m hm=>?_),aj,?_⟩
 ·obtain⟨b,bF,eJ,g1,g2,g3,g4,g5⟩:=h.good.box j dP al;have cE:b≠bl:=fun e=>h.good.obx k j o.n _ bl (by simp[aa]) (by simp[al]) aS jf (by rw[<-e];exact g1);exact⟨b,bF,eJ,g1,g2,g3,by rw[ka b cE];exact g4,pe aj g5⟩
 ·simp only at eU;rw[jr]at eU;by_cases e:k=g
  ·rw[bN e]at eU;cases eU;subst e;refine⟨v',us,by simp[aT.withOwn],kc,fun b af=>?_,fun ys bC=>?_⟩
   ·rw[B6]at af;cases af;exact⟨(dp bl jf).1,fun j bg=>absurd bg (p6 bl jf j)⟩
   ·simp only[dL]at bC;subst bC;exact⟨rfl,Ae aj aD,fun b af=>by rw[B6]at af;cases af;exact p6 bl jf⟩
  ·rw[bf e]at eU;obtain⟨v0,eN,aq,aU,bR,ds⟩:=h.good.own g o' eU;have cE:∀b,v0.ownBlock=some b->b≠bl:=fun b af HI=>e (h.good.oinj k g o.n o'.n _ v0 bl (by simp[aa]) (by simp[eU]) aS aq jf (by rw[<-HI];exact af));refine⟨v0,eN,by simp[aT.withOwn,Ne.symm e,aq],⟨aU.1,?_⟩,bR,qY aj (fun _ _ _ h=>h) ds⟩;rcases aU.2 with aU|⟨hD,w8,l9,f1,f2,f3,f4⟩
   ·exact .inl aU
   ·exact .inr ⟨hD,w8,l9,f1,f2,by rw[ka hD (cE hD (by rw[f1];rfl))];exact f3,f4⟩
 ·obtain⟨bV,gV,iq,a2,a3⟩:=kA g n u I av b bE;obtain⟨bQ,fH,h7,b3,eV⟩:=kA eK n' e7 J aV b ch;exact h.good.oinj g eK gV fH iq h7 b bV bQ a2 b3 a3 eV
 ·obtain⟨bV,gV,iq,a2,a3⟩:=kA g n u I av b aV;exact h.good.obx g j gV iq b bV J a2 a3 bE
 ·by_cases e:j=k
  ·subst e;rcases h.good.one j with I|I
   ·exact .inl I
   ·rw[I]at aS;cases aS
  ·rcases h.good.one j with I|I
   ·exact .inl I
   ·exact .inr (by simp[aT.withOwn,e,I])
 ·rw[ka j fun e=>by subst e;exact(dp j jf).1.elim hm (fun g2=>Ω)];exact h.fr.block j al hm
 ·obtain⟨dh,ed⟩:=h.fr.keep b i bg;exact⟨dh,(aj.A b i dh).2.trans ed⟩
 ·obtain⟨t1,t2⟩:=h.fr.trn bz j b af;have cE:bz≠k:=fun e=>by subst e;rw[t2]at aS;cases aS
  exact⟨t1,by simp[aT.withOwn,cE,t2]⟩
 ·obtain⟨dh,ed,hO⟩:=h.new m hm;refine⟨dh,?_,hO⟩;have:m≠k:=fun e=>by subst e;rw[ed]at aS;cases aS
  simp[aT.withOwn,this,ed]
 ·intro fW;simp only[aR];obtain⟨cap,IG⟩:=Sr kc B6;exact⟨⟨bl,cap,IG⟩,fW,xs'.length,v',by simp[aT.withOwn],da _,fun _=>rfl⟩
end
end Go.Pv
