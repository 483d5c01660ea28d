/- Regions in the order of their text; code; functions. -/
import Derived.WalkKit
import Derived.Orders
import Derived.KernelRfl
import Derived.IntWalk
import Derived.Laws.StructEq
import Derived.ChangeKeysEq
import Derived.MapKept
import Derived.ArgAppend
import Derived.Deep.AppendSrc
import Derived.Laws.OwnMore
set_option linter.all false
set_option maxHeartbeats 4000000
set_option maxRecDepth 4000
namespace Go
theorem Ω{p:Prop}(h:p:=by omega):p:=h
theorem Ψ{p:Prop}(h:p:=by simp):p:=h
end Go
open Array renaming getElem?_toList->lZ
open BitVec renaming ofInt->lb
open Bool renaming and_eq_true->bt,false_eq_true->hO
open ByteArray renaming empty->S6,ext->P5,push->S7,size->Ap
open Go renaming Program->bj,TypeId->eb
open Go.Builtin renaming append_->l0
open Go.ByteArray renaming toList_eq->P6
open Go.IntKind renaming i64->kr
open Go.Region renaming wanted->jC
open Go.Result renaming andThen_ok->dr
open Go.Sem renaming run_bind->dk,run_pure->dP
open Go.Value renaming cells->h3,int->kt,ownBlock->iK
open Go.Value.pointer renaming injEq->Te
open Go.World.grownBy renaming refl->P7
open List renaming all_eq_true->ld,append_assoc->jb,cons_append->cN,eq_nil_of_length_eq_zero->mJ,getElem?_append_left->lg,getElem?_eq_getElem->eo,getElem?_eq_some_iff->fG,length_append->e0,length_cons->ir,map_cons->eU,mem_append->ht,mem_append_left->lh,mem_cons->ft,mem_map->ku,nil_append->dx,size_toArray->lj
open List.cons renaming injEq->tG
open Nat renaming le_refl->dY,mul_le_mul_right->l1
open Option renaming isSome_iff_exists->dK,map_eq_some_iff->hv,map_some->l2
open Option.some renaming injEq->cR
open Prod.mk renaming injEq->fQ
open _root_ renaming ByteArray->gT,False->cU,Option->aW,UInt8->aX,beq_iff_eq->cI,congrArg->cB,decide_eq_true_eq->eu,if_neg->bT,if_pos->cX
namespace Go.Pv
section
open Go Go.RowKit
inductive av where
 |loc (s:Nat)
 |obj (n:Nat)
 deriving DecidableEq,Inhabited
inductive qb where
 |no
 |nil
 |own (k:av)
 |tr (k:av) (j:Nat)
 |lo (k:av)
 deriving DecidableEq,Inhabited
inductive ae where
 |junk
 |int (k:IntKind) (n:Int)
 |bool (b:Bool)
 |str (s:List aX)
 |slice (sz:Nat) (tag:qb) (xs:List ae)
 |agg (cs:List ae)
 |ptr (key:av) (off:Nat)
 |eptr (x:ae)
 |iface (t:Nat) (x:ae)
 |nilp
 |tuple (aV:List ae)
 |func (f:Nat) (bX:List ae)
 |gmap (key:av)
 |row (sz:Nat) (key:av) (n:Nat)
 |rptr (sz:Nat) (key:av) (n i f:Nat)
 |hdm (clock:Nat) (borns:List Nat)
 |hdi (since:Nat) (seen:List Nat) (last:Nat)
 |cst (v:Value)
 deriving Inhabited
structure aA where
 A:Nat->Nat->Prop
 bx:av->aW Nat
 ow:av->aW (Nat×Value)
 tr:av->Nat->Nat->Prop
def bF:Nat:=68719476736
def gP(w:World)(A:Nat->Nat->Prop)(b:Nat):Nat->List Value->Prop
 |_,[]=>True
 |off,u::us=>(A b off/\w.cell? ⟨b,off,none⟩=some u)/\gP w A b (off+1) us
def shape(w:World)(b:Nat):aW (Nat×eb×(Nat×Nat)):=
 match w.heap[b]? with
 |some (.cells cur el fz)=>some (cur.size,el,fz)
 |_=>none
theorem pR{w w':World}{b:Nat}(h:w'.heap[b]? =w.heap[b]?):shape w' b=shape w b:=by unfold shape;rw[h]
mutual
def cu(t:Bool)(w:World)(A:Nat->Nat->Prop)(F:Nat->Prop):ae->Value->Prop
 | .int k n,v=>v= .int k n
 | .bool b,v=>v= .bool b
 | .str s,v=>v= .string ⟨s.toArray⟩/\s.length<=bF
 | .slice sz _ xs,v=> ∃a cap,v= .slice a xs.length cap/\xs.length<=cap/\(cap<=maxLen/\xs.length<=bF)/\
   (xs=[]\/ ∃b off us G,a=some ⟨b,off,none⟩/\F b/\(∀c,G c->F c/\(t=true->c≠b))/\gP w A b off us/\(t=true->off=0/\0<us.length/\∃el,shape w b=some (cap*sz,el,(0,0)))/\jk t w A G sz xs us)
 | .agg cs,v=> ∃us:Array Value,v= .agg us/\jl t w A F cs us.toList
 |_,_=>cU
def jl(t:Bool)(w:World)(A:Nat->Nat->Prop)(F:Nat->Prop):List ae->List Value->Prop
 |[],us=>us=[]
 |c::cs,us=> ∃u a1 gh gi,us=u::a1/\((∀b,gh b->F b)/\(∀b,gi b->F b)/\(t=true->∀b,gh b->¬gi b))/\(cu t w A gh c u/\u.oneCell'=true)/\jl t w A gi cs a1
def jk(t:Bool)(w:World)(A:Nat->Nat->Prop)(F:Nat->Prop)(sz:Nat):List ae->List Value->Prop
 |[],us=>us=[]
 |x::xs,us=> ∃u a1 gh gi,us=u.cells.toList++a1/\((∀b,gh b->F b)/\(∀b,gi b->F b)/\(t=true->∀b,gh b->¬gi b))/\(cu t w A gh x u/\u.cells.size=sz/\(∀c∈u.cells.toList,c.oneCell'=true))/\jk t w A gi sz xs a1
end
mutual
def aw(w:World)(ν:aA):ae->Value->Prop
 | .junk,_=>True
 | .int k n,v=>v= .int k n
 | .bool b,v=>v= .bool b
 | .str s,v=>v= .string ⟨s.toArray⟩/\s.length<=bF
 | .slice sz tag xs,v=>
   (∃a cap,v= .slice a xs.length cap/\xs.length<=cap/\(cap<=maxLen/\xs.length<=bF)/\(xs=[]\/ ∃b off us,a=some ⟨b,off,none⟩/\gP w ν.A b off us/\bN w ν sz xs us))/\
   (tag= .nil->v= .slice none 0 0)/\
   (∀g,tag= .own g->∃n u,ν.ow g=some (n,u)/\xs.length<=n/\(xs.length=n->v=u))/\
   (∀k j,tag= .tr k j->cu true w ν.A (ν.tr k j) (.slice sz tag xs) v)/\(∀k,tag= .lo k->cu false w ν.A (ν.tr k 0) (.slice sz tag xs) v)
 | .agg cs,v=> ∃us:Array Value,v= .agg us/\bL w ν cs us.toList
 | .ptr key off,v=> ∃b,ν.bx key=some b/\v= .pointer (some ⟨b,off,none⟩)
 | .eptr x,v=> ∃b off u,v= .pointer (some ⟨b,off,none⟩)/\aw w ν x u/\gP w ν.A b off u.cells.toList
 | .iface t x,v=> ∃u,v= .iface t u/\aw w ν x u
 | .nilp,v=>v= .pointer none
 | .tuple aV,v=> ∃us:Array Value,v= .tuple us/\bG w ν aV us.toList
 | .func f bX,v=> ∃us:Array Value,v= .func (.func f) #[] us/\bG w ν bX us.toList
 | .gmap key,v=> ∃b,ν.bx key=some b/\v= .map (some b)
 | .row _ key n,v=>(∃b cap,v= .slice (some ⟨b,0,none⟩) n cap)/\n<=bF/\∃n' u,ν.ow key=some (n',u)/\n<=n'/\(n=n'->v=u)
 | .rptr sz key n i f,v=>(∃b o,v= .pointer (some ⟨b,o,none⟩))/\i<n/\∃n' u,ν.ow key=some (n',u)/\n<=n'/\(n=n'->∃b,u.ownBlock=some b/\v= .pointer (some ⟨b,i*sz+f,none⟩))
 | .hdm _ _,_=>cU
 | .hdi _ _ _,_=>cU
 | .cst c,v=>v=c
def bL(w:World)(ν:aA):List ae->List Value->Prop
 |[],us=>us=[]
 |c::cs,us=> ∃u a1,us=u::a1/\(aw w ν c u/\u.oneCell'=true)/\bL w ν cs a1
def bG(w:World)(ν:aA):List ae->List Value->Prop
 |[],us=>us=[]
 |c::cs,us=> ∃u a1,us=u::a1/\aw w ν c u/\bG w ν cs a1
def bN(w:World)(ν:aA)(sz:Nat):List ae->List Value->Prop
 |[],us=>us=[]
 |x::xs,us=> ∃u a1,us=u.cells.toList++a1/\(aw w ν x u/\u.cells.size=sz/\(∀c∈u.cells.toList,c.oneCell'=true))/\bN w ν sz xs a1
end
theorem ov{w w':World}{A A':Nat->Nat->Prop}{b:Nat}(aQ:∀b o,A b o->A' b o/\w'.cell? ⟨b,o,none⟩=w.cell? ⟨b,o,none⟩):
  ∀(us:List Value) (off:Nat),gP w A b off us->gP w' A' b off us
 |[],_,_=>trivial
 |_::us,off,h=>⟨⟨(aQ _ _ h.1.1).1,(aQ _ _ h.1.1).2.trans h.1.2⟩,ov aQ us (off+1) h.2⟩
mutual
theorem o1{t:Bool}{w w':World}{A A':Nat->Nat->Prop}(aQ:∀b o,A b o->A' b o/\w'.cell? ⟨b,o,none⟩=w.cell? ⟨b,o,none⟩)(af:∀b o,A b o->shape w' b=shape w b):∀(p:ae) (F jE:Nat->Prop) (v:Value),(∀b,F b->jE b)->cu t w A F p v->cu t w' A' jE p v
 | .int k n,_,_,_,_,h=>by simp only[cu]at h⊢;exact h
 | .bool b,_,_,_,_,h=>by simp only[cu]at h⊢;exact h
 | .str s,_,_,_,_,h=>by simp only[cu]at h⊢;exact h
 | .slice sz tag xs,F,jE,v,eM,h=>by
  simp only[cu]at h⊢;obtain⟨a,cap,I,J,aj,aO⟩:=h;refine⟨a,cap,I,J,aj,?_⟩;rcases aO with aO|⟨b,off,us,G,ai,aK,bu,cP,fX,gv⟩
  ·exact .inl aO
  ·refine .inr ⟨b,off,us,G,ai,eM _ aK,fun c al=>⟨eM _ (bu c al).1,(bu c al).2⟩,ov aQ _ _ cP,fun az=>?_,uk aQ af xs G G _ (fun _ h=>h) gv⟩;obtain⟨f1,f2,el,f3⟩:=fX az;refine⟨f1,f2,el,?_⟩;cases us with
   |nil=>simp at f2
   |cons u us=>rw[af b off cP.1.1];exact f3
 | .agg cs,F,jE,v,eM,h=>by simp only[cu]at h⊢;obtain⟨us,I,J⟩:=h;exact⟨us,I,CF aQ af cs F jE _ eM J⟩
 | .junk,_,_,_,_,h=>by simp[cu]at h
 | .ptr _ _,_,_,_,_,h=>by simp[cu]at h
 | .eptr _,_,_,_,_,h=>by simp[cu]at h
 | .iface _ _,_,_,_,_,h=>by simp[cu]at h
 | .nilp,_,_,_,_,h=>by simp[cu]at h
 | .tuple _,_,_,_,_,h=>by simp[cu]at h
 | .func _ _,_,_,_,_,h=>by simp[cu]at h
 | .gmap _,_,_,_,_,h=>by simp[cu]at h
 | .row _ _ _,_,_,_,_,h=>by simp[cu]at h
 | .rptr _ _ _ _ _,_,_,_,_,h=>by simp[cu]at h
 | .hdm _ _,_,_,_,_,h=>by simp[cu]at h
 | .hdi _ _ _,_,_,_,_,h=>by simp[cu]at h
 | .cst _,_,_,_,_,h=>by simp[cu]at h
theorem CF{t:Bool}{w w':World}{A A':Nat->Nat->Prop}(aQ:∀b o,A b o->A' b o/\w'.cell? ⟨b,o,none⟩=w.cell? ⟨b,o,none⟩)(af:∀b o,A b o->shape w' b=shape w b):∀(cs:List ae) (F jE:Nat->Prop) (us:List Value),(∀b,F b->jE b)->jl t w A F cs us->jl t w' A' jE cs us
 |[],_,_,_,_,h=>by simp only[jl]at h⊢;exact h
 |c::cs,F,jE,us,eM,h=>by simp only[jl]at h⊢;obtain⟨u,a1,gh,gi,I,⟨J,aj,aO⟩,⟨bs,da⟩,eW⟩:=h;exact⟨u,a1,gh,gi,I,⟨fun b aa=>eM _ (J b aa),fun b aa=>eM _ (aj b aa),aO⟩,⟨o1 aQ af c gh gh u (fun _ h=>h) bs,da⟩,CF aQ af cs gi gi a1 (fun _ h=>h) eW⟩
theorem uk{t:Bool}{w w':World}{A A':Nat->Nat->Prop}(aQ:∀b o,A b o->A' b o/\w'.cell? ⟨b,o,none⟩=w.cell? ⟨b,o,none⟩)(af:∀b o,A b o->shape w' b=shape w b){sz:Nat}:∀(cs:List ae) (F jE:Nat->Prop) (us:List Value),(∀b,F b->jE b)->jk t w A F sz cs us->jk t w' A' jE sz cs us
 |[],_,_,_,_,h=>by simp only[jk]at h⊢;exact h
 |c::cs,F,jE,us,eM,h=>by simp only[jk]at h⊢;obtain⟨u,a1,gh,gi,I,⟨J,aj,aO⟩,⟨bs,da⟩,eW⟩:=h;exact⟨u,a1,gh,gi,I,⟨fun b aa=>eM _ (J b aa),fun b aa=>eM _ (aj b aa),aO⟩,⟨o1 aQ af c gh gh u (fun _ h=>h) bs,da⟩,uk aQ af cs gi gi a1 (fun _ h=>h) eW⟩
end
mutual
def aB(S:av->Prop):ae->Prop
 | .slice _ tag xs=>(match tag with| .own k=>S k| .tr k _=>S k| .lo k=>S k|_=>True)/\aD S xs
 | .agg cs=>aD S cs
 | .ptr k _=>S k
 | .eptr x=>aB S x
 | .iface _ x=>aB S x
 | .tuple aV=>aD S aV
 | .func _ bX=>aD S bX
 | .gmap k=>S k
 | .row _ k _=>S k
 | .rptr _ k _ _ _=>S k
 |_=>True
def aD(S:av->Prop):List ae->Prop
 |[]=>True
 |x::xs=>aB S x/\aD S xs
end
mutual
theorem ot{S T:av->Prop}(h:∀k,S k->T k):∀p:ae,aB S p->aB T p
 | .junk,_=>by simp[aB]
 | .int _ _,_=>by simp[aB]
 | .bool _,_=>by simp[aB]
 | .str _,_=>by simp[aB]
 | .slice sz tag xs,be=>by simp only[aB]at be⊢;exact⟨by cases tag<;>first|trivial|exact h _ be.1,mx h xs be.2⟩
 | .agg cs,be=>by simp only[aB]at be⊢;exact mx h cs be
 | .ptr k _,be=>by simp only[aB]at be⊢;exact h _ be
 | .eptr x,be=>by simp only[aB]at be⊢;exact ot h x be
 | .iface _ x,be=>by simp only[aB]at be⊢;exact ot h x be
 | .nilp,_=>by simp[aB]
 | .tuple aV,be=>by simp only[aB]at be⊢;exact mx h aV be
 | .func _ bX,be=>by simp only[aB]at be⊢;exact mx h bX be
 | .gmap k,be=>by simp only[aB]at be⊢;exact h _ be
 | .row _ k _,be=>by simp only[aB]at be⊢;exact h _ be
 | .rptr _ k _ _ _,be=>by simp only[aB]at be⊢;exact h _ be
 | .hdm _ _,_=>by simp[aB]
 | .hdi _ _ _,_=>by simp[aB]
 | .cst _,_=>by simp[aB]
theorem mx{S T:av->Prop}(h:∀k,S k->T k):∀a8:List ae,aD S a8->aD T a8
 |[],_=>by simp[aD]
 |x::xs,be=>by simp only[aD]at be⊢;exact⟨ot h x be.1,mx h xs be.2⟩
end
mutual
theorem vc:∀p:ae,aB (fun _=>True) p
 | .junk=>by simp[aB]
 | .int _ _=>by simp[aB]
 | .bool _=>by simp[aB]
 | .str _=>by simp[aB]
 | .slice sz tag xs=>by simp only[aB];exact⟨by cases tag<;>trivial,oq xs⟩
 | .agg cs=>by simp only[aB];exact oq cs
 | .ptr k _=>by simp[aB]
 | .eptr x=>by simp only[aB];exact vc x
 | .iface _ x=>by simp only[aB];exact vc x
 | .nilp=>by simp[aB]
 | .tuple aV=>by simp only[aB];exact oq aV
 | .func _ bX=>by simp only[aB];exact oq bX
 | .gmap k=>by simp[aB]
 | .row _ k _=>by simp[aB]
 | .rptr _ k _ _ _=>by simp[aB]
 | .hdm _ _=>by simp[aB]
 | .hdi _ _ _=>by simp[aB]
 | .cst _=>by simp[aB]
theorem oq:∀a8:List ae,aD (fun _=>True) a8
 |[]=>by simp[aD]
 |x::xs=>by simp only[aD];exact⟨vc x,oq xs⟩
end
def dF:List Nat->List Value->List MapEntry
 |b::cJ,k::v::r=>⟨k,v,b⟩::dF cJ r
 |_,_=>[]
def fq(cs:List ae)(us:Array Value)(el:eb):Obj:=
 match cs with
 | .hdm clock borns::_=>.map (dF borns us.toList).toArray clock
 | .hdi since seen last::_=>.mapIter (match us.toList with|[.map m]=>m|_=>none) since seen.toArray last
 |_=>.cells us el
structure Ni (clock:Nat) (borns:List Nat) (r:List ae):Prop where
 len:r.length=2*borns.length
 inc:borns.Pairwise (· < ·)
 lt:∀b∈borns,b<clock
def eZ(w:World)(ν:aA)(cs:List ae)(us:List Value):Prop:=
 match cs with
 | .hdm clock borns::r=>bG w ν r us/\Ni clock borns r
 | .hdi _ _ _::r=>bG w ν r us
 |cs=>bL w ν cs us
def fB:List ae->Bool
 | .hdm _ _::_=>false
 | .hdi _ _ _::_=>false
 |_=>true
theorem pL{w:World}{ν:aA}{cs:List ae}{us:List Value}(h:bL w ν cs us):fB cs=true:=by
 unfold fB;split
 ·simp only[bL,aw]at h;obtain⟨_,_,_,⟨h,_⟩,_⟩:=h;exact h.elim
 ·simp only[bL,aw]at h;obtain⟨_,_,_,⟨h,_⟩,_⟩:=h;exact h.elim
 ·rfl
theorem kn{cs:List ae}(h:fB cs=true)(us:Array Value)(el:eb):fq cs us el= .cells us el:=by
 unfold fB at h;unfold fq;split at h<;>first|cases h|skip
 rfl
theorem jT{w:World}{ν:aA}{cs:List ae}(h:fB cs=true)(us:List Value):eZ w ν cs us=bL w ν cs us:=by
 unfold fB at h;unfold eZ;split at h<;>first|cases h|skip
 rfl
structure je (S:av->Prop) (w:World) (ν:aA) (w':World) (ν':aA):Prop where
 A:∀b o,ν.A b o->ν'.A b o/\w'.cell? ⟨b,o,none⟩=w.cell? ⟨b,o,none⟩
 bx:∀k b,S k->ν.bx k=some b->ν'.bx k=some b
 ow:∀g n u,S g->ν.ow g=some (n,u)->∃n' dq,ν'.ow g=some (n',dq)/\(n'=n/\dq=u\/n<n')
 sh:∀b o,ν.A b o->shape w' b=shape w b
 tr:∀k j b,S k->ν.tr k j b->ν'.tr k j b
abbrev hP:=je (fun _=>True)
mutual
theorem lT{S:av->Prop}{w w':World}{ν ν':aA}(ab:je S w ν w' ν'):∀(p:ae) (v:Value),aB S p->aw w ν p v->aw w' ν' p v
 | .junk,_,_,_=>by simp[aw]
 | .int k n,_,_,h=>by simp only[aw]at h⊢;exact h
 | .bool b,_,_,h=>by simp only[aw]at h⊢;exact h
 | .str s,_,_,h=>by simp only[aw]at h⊢;exact h
 | .slice sz tag xs,v,U,h=>by
  simp only[aw,aB]at h U⊢;obtain⟨⟨a,cap,I,J,aj,aO⟩,bs,da,jm,h9⟩:=h;refine⟨⟨a,cap,I,J,aj,?_⟩,bs,fun g aG=>?_,fun k j e5=>?_,fun k e5=>?_⟩
  ·rcases aO with aO|⟨b,off,us,aO,da,eW⟩
   ·exact .inl aO
   ·exact .inr ⟨b,off,us,aO,ov ab.A _ _ da,vP ab sz xs us U.2 eW⟩
  ·obtain⟨n,u,ai,aK,bu⟩:=da g aG;subst aG;obtain⟨n',dq,f1,f2⟩:=ab.ow g n u U.1 ai;refine⟨n',dq,f1,?_⟩;rcases f2 with⟨rfl,rfl⟩|f2
   ·exact⟨aK,bu⟩
   ·exact⟨Ω,fun e=>Ω⟩
  ·have:=jm k j e5;subst e5;exact o1 ab.A ab.sh _ _ _ _ (fun b=>ab.tr k j b U.1) this
  ·have:=h9 k e5;subst e5;exact o1 ab.A ab.sh _ _ _ _ (fun b=>ab.tr k 0 b U.1) this
 | .agg cs,v,U,h=>by simp only[aw,aB]at h U⊢;obtain⟨us,I,J⟩:=h;exact⟨us,I,vR ab cs _ U J⟩
 | .ptr key off,v,U,h=>by simp only[aw,aB]at h U⊢;obtain⟨b,I,J⟩:=h;exact⟨b,ab.bx _ _ U I,J⟩
 | .iface t x,v,U,h=>by simp only[aw,aB]at h U⊢;obtain⟨u,I,J⟩:=h;exact⟨u,I,lT ab x u U J⟩
 | .eptr x,v,U,h=>by simp only[aw,aB]at h U⊢;obtain⟨b,off,u,I,J,aj⟩:=h;exact⟨b,off,u,I,lT ab x u U J,ov ab.A _ _ aj⟩
 | .nilp,_,_,h=>by simp only[aw]at h⊢;exact h
 | .tuple aV,v,U,h=>by simp only[aw,aB]at h U⊢;obtain⟨us,I,J⟩:=h;exact⟨us,I,ri ab aV _ U J⟩
 | .func f bX,v,U,h=>by simp only[aw,aB]at h U⊢;obtain⟨us,I,J⟩:=h;exact⟨us,I,ri ab bX _ U J⟩
 | .gmap key,v,U,h=>by simp only[aw,aB]at h U⊢;obtain⟨b,I,J⟩:=h;exact⟨b,ab.bx _ _ U I,J⟩
 | .row sz key n,v,U,h=>by
  simp only[aw,aB]at h U⊢;obtain⟨I,J,n',u,aj,aO,bs⟩:=h;obtain⟨dU,fN,f1,f2⟩:=ab.ow key n' u U aj;refine⟨I,J,dU,fN,f1,?_⟩;rcases f2 with⟨rfl,rfl⟩|f2
  ·exact⟨aO,bs⟩
  ·exact⟨Ω,fun e=>Ω⟩
 | .rptr sz key n i f,v,U,h=>by
  simp only[aw,aB]at h U⊢;obtain⟨I,J,n',u,aj,aO,bs⟩:=h;obtain⟨dU,fN,f1,f2⟩:=ab.ow key n' u U aj;refine⟨I,J,dU,fN,f1,?_⟩;rcases f2 with⟨rfl,rfl⟩|f2
  ·exact⟨aO,bs⟩
  ·exact⟨Ω,fun e=>Ω⟩
 | .hdm _ _,_,_,h=>by simp only[aw]at h
 | .hdi _ _ _,_,_,h=>by simp only[aw]at h
 | .cst c,_,_,h=>by simp only[aw]at h⊢;exact h
theorem vR{S:av->Prop}{w w':World}{ν ν':aA}(ab:je S w ν w' ν'):∀(cs:List ae) (us:List Value),aD S cs->bL w ν cs us->bL w' ν' cs us
 |[],_,_,h=>by simp only[bL]at h⊢;exact h
 |c::cs,us,U,h=>by simp only[bL,aD]at h U⊢;obtain⟨u,a1,I,J,aj⟩:=h;exact⟨u,a1,I,⟨lT ab c u U.1 J.1,J.2⟩,vR ab cs a1 U.2 aj⟩
theorem ri{S:av->Prop}{w w':World}{ν ν':aA}(ab:je S w ν w' ν'):∀(cs:List ae) (us:List Value),aD S cs->bG w ν cs us->bG w' ν' cs us
 |[],_,_,h=>by simp only[bG]at h⊢;exact h
 |c::cs,us,U,h=>by simp only[bG,aD]at h U⊢;obtain⟨u,a1,I,J,aj⟩:=h;exact⟨u,a1,I,lT ab c u U.1 J,ri ab cs a1 U.2 aj⟩
theorem vP{S:av->Prop}{w w':World}{ν ν':aA}(ab:je S w ν w' ν')(sz:Nat):∀(xs:List ae) (us:List Value),aD S xs->bN w ν sz xs us->bN w' ν' sz xs us
 |[],_,_,h=>by simp only[bN]at h⊢;exact h
 |x::xs,us,U,h=>by simp only[bN,aD]at h U⊢;obtain⟨u,a1,I,⟨J,aj,aO⟩,bs⟩:=h;exact⟨u,a1,I,⟨lT ab x u U.1 J,aj,aO⟩,vP ab sz xs a1 U.2 bs⟩
end
theorem FD{S:av->Prop}{w w':World}{ν ν':aA}(ab:je S w ν w' ν'){cs:List ae}{us:List Value}(U:aD S cs)(h:eZ w ν cs us):eZ w' ν' cs us:=by
 unfold eZ at h⊢;split
 ·simp only[aD]at U;exact⟨ri ab _ _ U.2 h.1,h.2⟩
 ·simp only[aD]at U;exact ri ab _ _ U.2 h
 ·rename_i I J;split at h
  ·exact absurd rfl (I _ _ _)
  ·exact absurd rfl (J _ _ _ _)
  ·exact vR ab _ _ U h
section
variable {w w':World} {ν ν':aA} (ab:hP w ν w' ν')
include ab
theorem nE{p:ae}{v:Value}(h:aw w ν p v):aw w' ν' p v:=lT ab p v (vc p) h
theorem FK{p:List ae}{v:List Value}(h:bL w ν p v):bL w' ν' p v:=vR ab p v (oq p) h
theorem jU{p:List ae}{v:List Value}(h:eZ w ν p v):eZ w' ν' p v:=FD ab (oq p) h
theorem rb{sz:Nat}{p:List ae}{v:List Value}(h:bN w ν sz p v):bN w' ν' sz p v:=vP ab sz p v (oq p) h
end
end
section
open Go Go.RowKit
def get(k:Nat):List (Nat×ae)->ae
 |[]=>.junk
 |(i,p)::r=>if i=k then p else get k r
def put(k:Nat)(p:ae):List (Nat×ae)->List (Nat×ae)
 |[]=>[(k,p)]
 |(i,q)::r=>if i=k then(i,p)::r else(i,q)::put k p r
def look{α:Type}(k:av):List (av×α)->aW α
 |[]=>none
 |(i,p)::r=>if i=k then some p else look k r
def bV{α:Type}(k:av)(p:α):List (av×α)->List (av×α)
 |[]=>[(k,p)]
 |(i,q)::r=>if i=k then(i,p)::r else(i,q)::bV k p r
theorem j3(k j:Nat)(p:ae):∀l,get j (put k p l)=if k=j then p else get j l
 |[]=>by simp[get,put]
 |(i,q)::r=>by
  by_cases h:i=k
  ·subst h;by_cases J:i=j<;>simp[get,put,J]
  ·by_cases J:i=j
   ·subst J;simp[get,put,h,Ne.symm h]
   ·simp[get,put,h,J,j3 k j p r]
theorem gb{α:Type}(k j:av)(p:α):∀l,look j (bV k p l)=if k=j then some p else look j l
 |[]=>by simp[look,bV]
 |(i,q)::r=>by
  by_cases h:i=k
  ·subst h;by_cases J:i=j<;>simp[look,bV,J]
  ·by_cases J:i=j
   ·subst J;simp[look,bV,h,Ne.symm h]
   ·simp[look,bV,h,J,gb k j p r]
structure cC where
 n:Nat
 el:Nat
 sz:Nat
 xs:aW (List ae)
def zB(w:World)(ν:aA)(o:cC)(v:Value)(us:List Value):Prop:=∀xs,o.xs=some xs->xs.length=o.n/\bN w ν o.sz xs us/\∀bl,v.ownBlock=some bl->∀j,¬ν.A bl j
theorem k0{w w':World}{ν ν':aA}(ab:hP w ν w' ν'){o:cC}{v:Value}{us:List Value}(aQ:∀bl,v.ownBlock=some bl->∀j,ν'.A bl j->ν.A bl j)(h:zB w ν o v us):zB w' ν' o v us:=fun xs ad=>⟨(h xs ad).1,rb ab (h xs ad).2.1,fun bl aa j aC=>(h xs ad).2.2 bl aa j (aQ bl aa j aC)⟩
def eQ(S:av->Prop)(o:cC):Prop:= ∀xs,o.xs=some xs->aD S xs
structure aS where
 t:List (Nat×ae)
 b:List (av×List ae)
 e:List (av×cC)
 n:Nat
 o:List av
def fresh(n:Nat)(o:List av)(k:av):Prop:=(match k with| .loc m=>n<=m| .obj _=>True)/\k∉o
theorem o0{n n':Nat}{o o':List av}(aU:n<=n')(ab:∀k∈o,k∈o'){k:av}(h:fresh n' o' k):fresh n o k:=by unfold fresh at h⊢;exact⟨by cases k<;>simp at h⊢;omega,fun U=>h.2 (ab k U)⟩
def zR(ν:aA)(b:List (av×List ae))(e:List (av×cC))(bl:Nat):Prop:=(∃k,(look k b).isSome/\ν.bx k=some bl)\/(∃g n v,(look g e).isSome/\ν.ow g=some (n,v)/\v.ownBlock=some bl)
def tA:Nat:=106
def wu(k:av):={el:eb//k= .obj 861->el=tA}
structure Good (pr:Nat->Prop) (w:World) (ν:aA) (b:List (av×List ae)) (e:List (av×cC)):Prop where
 alt:∀bl o,ν.A bl o->bl<w.heap.size
 box:∀k cs,look k b=some cs->∃(bl:Nat) (us:Array Value) (el:wu k),ν.bx k=some bl/\pr bl/\(∀o,¬ν.A bl o)/\w.heap[bl]? =some (fq cs us el.1)/\eZ w ν cs us.toList
 inj:∀k aT bl,(look k b).isSome->(look aT b).isSome->ν.bx k=some bl->ν.bx aT=some bl->k=aT
 own:∀g o,look g e=some o->∃v us,ν.ow g=some (o.n,v)/\w.ownsRow 0 o.el o.sz v o.n us/\(∀bl,v.ownBlock=some bl->pr bl/\(∀j,ν.A bl j->j<o.n*o.sz))/\zB w ν o v us
 oinj:∀g dh n n' v v' bl,(look g e).isSome->(look dh e).isSome->ν.ow g=some (n,v)->ν.ow dh=some (n',v')->v.ownBlock=some bl->v'.ownBlock=some bl->g=dh
 obx:∀g k n v bl,(look g e).isSome->(look k b).isSome->ν.ow g=some (n,v)->v.ownBlock=some bl->ν.bx k=some bl->cU
 one:∀k,ν.bx k=none\/ν.ow k=none
 otr:∀bl,zR ν b e bl->∀k j,¬ν.tr k j bl
def n4:List (Nat×Nat×Nat×(Value->Prop)):=(List.range 20).map (fun i=>(0,i,20,fun v=>v=kt .u64 ((10 ^ i:Nat):Int)))++[(1,0,1,fun v=> ∃t p,v= .iface t p),(2,0,1,fun v=> ∃t p,v= .iface t p)]
def jc(w:World)(ν:aA):Prop:= ∀x∈n4,ν.A x.1 x.2.1/\(∃v,w.cell? ⟨x.1,x.2.1,none⟩=some v/\x.2.2.2 v)/\∃el,shape w x.1=some (x.2.2.1,el)
structure c7 where
 w0:World
 ν0:aA
 mt:Nat->Prop
 N:Nat
 ob:List av
 gl:jc w0 ν0
 ex:List (ae×Value)
def c7.pr(C:c7)(bl:Nat):Prop:=C.mt bl\/C.w0.heap.size<=bl
def mG:av:= .obj 990001
structure kx (C:c7) (w:World) (ν:aA):Prop where
 os:w.os=C.w0.os
 tape:w.tape=C.w0.tape
 output:w.output=C.w0.output
 size:C.w0.heap.size<=w.heap.size
 block:∀k,k<C.w0.heap.size->¬C.mt k->w.heap[k]? =C.w0.heap[k]?
 keep:∀b o,C.ν0.A b o->ν.A b o/\w.cell? ⟨b,o,none⟩=C.w0.cell? ⟨b,o,none⟩
 fresh:∀b o,ν.A b o->C.ν0.A b o\/C.pr b
 obj:∀n b,C.ν0.bx (.obj n)=some b->ν.bx (.obj n)=some b
 obn:∀n b,C.ν0.bx (.obj n)=some b-> .obj n∈C.ob
 row:∀m n u,C.ν0.ow (.obj m)=some (n,u)->∃n' dq,ν.ow (.obj m)=some (n',dq)/\(n'=n/\dq=u\/n<n')
 obr:∀m n u,C.ν0.ow (.obj m)=some (n,u)-> .obj m∈C.ob
 trd:∀k j aT dn b,ν.tr k j b->ν.tr aT dn b->k=aT/\j=dn
 trb:∀k j b,ν.tr k j b->(k=mG\/C.w0.heap.size<=b)/\b<w.heap.size
 trn:∀k j b,ν.tr k j b->ν.bx k=none/\ν.ow k=none
 sh:∀b o,C.ν0.A b o->shape w b=shape C.w0 b
 nrow:∀j n u b,ν.ow (.loc j)=some (n,u)->u.ownBlock=some b->C.w0.heap.size<=b
theorem kx.gl{C:c7}{w:World}{ν:aA}(h:kx C w ν):jc w ν:=fun x ad=>⟨(h.keep _ _ (C.gl x ad).1).1,(C.gl x ad).2.1.imp fun _ aH=>⟨(h.keep _ _ (C.gl x ad).1).2.trans aH.1,aH.2⟩,(C.gl x ad).2.2.imp fun _ aH=>(h.sh _ _ (C.gl x ad).1).trans aH⟩
theorem ts{ν ν':aA}{g:av}{n:Nat}{u:Value}(h:∃n' dq,ν.ow g=some (n',dq)/\(n'=n/\dq=u\/n<n'))(ab:∀n u,ν.ow g=some (n,u)->∃n' dq,ν'.ow g=some (n',dq)/\(n'=n/\dq=u\/n<n')):
  ∃n' dq,ν'.ow g=some (n',dq)/\(n'=n/\dq=u\/n<n'):=by
 obtain⟨eN,fU,ai,aK⟩:=h;obtain⟨dU,fN,f1,f2⟩:=ab eN fU ai;refine⟨dU,fN,f1,?_⟩;rcases aK with⟨rfl,rfl⟩|aK
 ·exact f2
 ·rcases f2 with⟨rfl,rfl⟩|f2
  ·exact .inr aK
  ·exact .inr Ω
structure bH (C:c7) (st:aS) (a:Act) (w:World) (ν:aA):Prop where
 good:Good C.pr w ν st.b st.e
 fr:kx C w ν
 defers:a.defers=[]
 size:a.tmps.size=C.N
 slot:∀i,aw w ν (get i st.t) (a.tmps.getD i undef)
 new:∀k,fresh st.n st.o k->ν.bx k=none/\ν.ow k=none/\∀j b,¬ν.tr k j b
 ext:∀x∈C.ex,aw w ν x.1 x.2/\aB (fun k=>k∈C.ob) x.1
 obk:∀m∈C.ob,¬fresh st.n st.o m
def dB(d:aW Nat)(p:ae)(t:List (Nat×ae)):List (Nat×ae):=
 match d with
 |some d=>put d p t
 |none=>t
def e2(N:Nat)(d:aW Nat):Bool:=match d with|some d=>decide (d<N)|none=>true
theorem bH.put{C:c7}{st:aS}{a:Act}{w:World}{ν:aA}(h:bH C st a w ν){d:aW Nat}(aY:e2 C.N d=true){p:ae}{v:Value}(be:aw w ν p v):
  bH C {st with t:=dB d p st.t} (a.put d v) w ν:=by
 cases d with
 |none=>exact h
 |some d=>
  have bS:d<a.tmps.size:=by rw[h.size];simpa[e2]using aY
  refine⟨h.good,h.fr,h.defers,by simpa[Act.put]using h.size,fun i=>?_,h.new,h.ext,h.obk⟩;simp only[dB,j3];by_cases e:d=i
  ·subst e;simpa[Act.put,Array.getD_eq_getD_getElem?,bS]using be
  ·have:=h.slot i;simpa[e,Act.put,Array.getD_eq_getD_getElem?,Array.getElem?_setIfInBounds_ne e]using this
theorem bH.over{C:c7}{st st':aS}{a:Act}{w w':World}{ν ν':aA}(h:bH C st a w ν)(ab:hP w ν w' ν')(az:st'.t=st.t)(aG:Good C.pr w' ν' st'.b st'.e)(aF:kx C w' ν')
  (aU:∀k,fresh st'.n st'.o k->ν'.bx k=none/\ν'.ow k=none/\∀j b,¬ν'.tr k j b) (ez:∀m,fresh st'.n st'.o m->fresh st.n st.o m:=by exact fun _ h=>h):bH C st' a w' ν':=
 ⟨aG,aF,h.defers,h.size,fun i=>by rw[az];exact nE ab (h.slot i),aU,fun x ad=>⟨nE ab (h.ext x ad).1,(h.ext x ad).2⟩,fun m hm aF=>h.obk m hm (ez m aF)⟩
inductive bW where
 |t (i:Nat)
 |c (p:ae)
 deriving Inhabited
def bf(t:List (Nat×ae)):bW->ae
 | .t i=>get i t
 | .c p=>p
def tN:ae->Value->Bool
 | .int k n,.int aT n'=>decide (k=aT/\n=n')
 | .bool b,.bool dL=>b==dL
 | .str s,.string l=>decide (l.data.toList=s/\s.length<=bF)
 | .slice _ .nil [],.slice none 0 0=>true
 | .nilp,.pointer none=>true
 | .tuple [],.tuple ⟨[]⟩=>true
 | .func f [],.func (.func g) ⟨[]⟩ ⟨[]⟩=>f==g
 | .junk,_=>true
 |_,_=>false
theorem A2(w:World)(ν:aA){p:ae}{v:Value}(h:tN p v=true):aw w ν p v:=by
 unfold tN at h;split at h
 ·simp at h;obtain⟨rfl,rfl⟩:=h;simp[aw]
 ·simp at h;subst h;simp[aw]
 ·rename_i s l;simp at h;obtain⟨I,J⟩:=h;refine⟨?_,J⟩;subst I;simp
 ·simp only[aw];refine⟨⟨none,0,rfl,Ψ,Ψ,Ψ⟩,Ψ,(fun _ h=>by cases h),(fun _ _ h=>by cases h),(fun _ h=>by cases h)⟩
 ·simp[aw]
 ·simp[aw,bG]
 ·simp at h;subst h;simp[aw,bG]
 ·simp[aw]
 ·cases h
def qh:List ae->List Value->Bool
 |[],[]=>true
 |p::a8,v::aV=>tN p v&&v.oneCell'&&qh a8 aV
 |_,_=>false
def qg:ae->Value->Bool
 | .agg cs,.agg us=>qh cs us.toList
 |p,v=>tN p v
theorem A3(w:World)(ν:aA):∀(a8:List ae) (aV:List Value),qh a8 aV=true->bL w ν a8 aV
 |[],[],_=>by simp[bL]
 |[],_::_,h=>by simp[qh]at h
 |_::_,[],h=>by simp[qh]at h
 |p::a8,v::aV,h=>by simp only[qh,bt]at h;simp only[bL];exact⟨v,aV,rfl,⟨A2 w ν h.1.1,h.1.2⟩,A3 w ν a8 aV h.2⟩
theorem wM(w:World)(ν:aA){p:ae}{v:Value}(h:qg p v=true):aw w ν p v:=by
 unfold qg at h;split at h
 ·simp only[aw];exact⟨_,rfl,A3 w ν _ _ h⟩
 ·exact A2 w ν h
def cE:bW->Operand->Bool
 | .t i,.tmp j=>i==j
 | .c p,.const v=>qg p v
 | .c (.func f []),.func g=>f==g
 |_,_=>false
theorem cF{C:c7}{st:aS}{a:Act}{w:World}{ν:aA}(h:bH C st a w ν){x:bW}{o:Operand}(ad:cE x o=true):aw w ν (bf st.t x) (a.eval o):=by
 unfold cE at ad;split at ad
 ·simp at ad;subst ad;simpa[bf,Act.eval]using h.slot _
 ·simpa[bf,Act.eval]using wM w ν ad
 ·simp at ad;subst ad;simp[bf,Act.eval,aw,bG]
 ·cases ad
inductive rO where
 |int (k:IntKind)
 |bool
 |str
 |slice (e:Nat)
 |struct (cq:List (Nat×Nat))
 |map (k e:Nat)
 |other
 |iface
 deriving DecidableEq
structure cw where
 size:Nat
 bytes:Nat
 kind:rO
 zero:ae
def rO.isAgg:rO->Bool
 | .struct _=>true
 |_=>false
def rF:List ae->List Value->Bool
 |[],[]=>true
 |p::a8,v::aV=>qg p v&&v.oneCell'&&rF a8 aV
 |_,_=>false
def p1:ae->Value->Bool
 | .agg cs,.agg us=>rF cs us.toList
 | .agg _,_=>false
 |p,v=>qg p v&&v.oneCell'
def hC:rO->TypeDesc->Bool
 | .int k,.int aT=>decide (k=aT)
 | .bool,.bool=>true
 | .str,.string=>true
 | .slice e,.slice fS=>e==fS
 | .struct cq,.struct gs=>decide (gs.toList.map (fun f=>(f.offset,f.type))=cq)
 | .map k e,.map aT fS=>k==aT&&e==fS
 | .iface,.interface _=>true
 | .other,d=>match d with| .struct _| .array _ _| .int _| .bool| .string| .slice _=>false|_=>true
 |_,_=>false
def Cv(P:bj)(gs:Array Field):Bool:=gs.toList.all fun f=>match P.underlying f.type with|some (.int _)=>true|some .string=>true|_=>false
def BX(P:bj)(t:Nat)(gs:Array Field):Bool:=gs.toList.all (fun f=>f.name != "_")&& !P.stoodInHeld t&& !P.eqGuardType P.depth t
def wW(P:bj)(t:Nat):TypeDesc->Bool
 | .struct gs=> !Cv P gs||BX P t gs
 |_=>true
def zX(P:bj)(t:Nat)(f:cw):Bool:=
 match P.info? t,P.underlying t with
 |some i,some d=>wW P t d&&i.size==f.size&&i.bytes==f.bytes&&hC f.kind d&&(match i.zero with|some z=>p1 f.zero z&&z.cells.size==f.size|none=>false)
 |_,_=>false
def eD(P:bj)(aR:List (Nat×cw)):Bool:=aR.all fun x=>zX P x.1 x.2
def tf(aR:List (Nat×cw))(t:Nat):aW cw:=(aR.find? fun x=>x.1==t).map (·.2)
theorem Pt{P:bj}{aR:List (Nat×cw)}(h:eD P aR=true){t:Nat}{f:cw}(aF:tf aR t=some f):zX P t f=true:=by
 unfold tf at aF;cases ad:aR.find? fun x=>x.1==t with
 |none=>simp[ad]at aF
 |some x=>simp[ad]at aF;have I:=List.find?_some ad;simp at I;have J:=List.mem_of_find?_eq_some ad;have aj:=ld.1 h x J;rw[<-aF,<-I];exact aj
structure G7 (P:bj) (t:Nat) (f:cw):Prop where
 cmp:∀d,P.underlying t=some d->wW P t d=true
 ex:∃i d z,P.info? t=some i/\P.underlying t=some d/\i.size=f.size/\i.bytes=f.bytes/\hC f.kind d=true/\i.zero=some z/\p1 f.zero z=true/\z.cells.size=f.size
theorem mI{P:bj}{aR:List (Nat×cw)}(h:eD P aR=true){t:Nat}{f:cw}(aF:tf aR t=some f):G7 P t f:=by
 have h:=Pt h aF;unfold zX at h;split at h
 ·rename_i i d I J;simp only[bt,cI]at h;obtain⟨⟨⟨⟨ck,aj⟩,aO⟩,bs⟩,da⟩:=h;split at da
  ·rename_i z ed;simp only[bt,cI]at da;exact⟨fun dR Dc=>by rw[J]at Dc;cases Dc;exact ck,i,d,z,I,J,aj,aO,bs,ed,da.1,da.2⟩
  ·cases da
 ·cases h
theorem jg(b o j:Nat):(⟨b,o,none⟩:Addr).add j=⟨b,o+j,none⟩:=by
 unfold Addr.add;split
 ·rename_i h;subst h;rfl
 ·rfl
theorem Ak(w:World)(ν:aA):∀(a8:List ae) (aV:List Value),rF a8 aV=true->bL w ν a8 aV
 |[],[],_=>by simp[bL]
 |[],_::_,h=>by simp[rF]at h
 |_::_,[],h=>by simp[rF]at h
 |p::a8,v::aV,h=>by simp only[rF,bt]at h;simp only[bL];exact⟨v,aV,rfl,⟨wM w ν h.1.1,h.1.2⟩,Ak w ν a8 aV h.2⟩
def cells:ae->List ae
 | .agg cs=>cs
 |p=>[p]
def dC:ae->Bool
 | .junk| .tuple _=>false
 | .cst (.slice _ _ _)| .cst (.string _)=>true
 | .cst _=>false
 |_=>true
theorem zz{w:World}{ν:aA}{p:ae}{v:Value}(h:aw w ν p v)(af:dC p=true)(bE:∀cs,p≠ .agg cs):v.oneCell'=true/\v.cells= #[v]:=by
 cases p<;>simp only[aw,dC]at h af;case junk=>cases af
 case tuple=>cases af
 case cst c=>subst h;cases v<;>first|exact⟨rfl,rfl⟩|cases af
 case agg cs=>exact absurd rfl (bE cs)
 case int=>subst h;exact⟨rfl,rfl⟩
 case bool=>subst h;exact⟨rfl,rfl⟩
 case str=>rw[h.1];exact⟨rfl,rfl⟩
 case slice=>obtain⟨⟨a,cap,I,_⟩,_⟩:=h;subst I;exact⟨rfl,rfl⟩
 case ptr=>obtain⟨b,_,I⟩:=h;subst I;exact⟨rfl,rfl⟩
 case eptr=>obtain⟨b,o,u,I,_⟩:=h;subst I;exact⟨rfl,rfl⟩
 case iface=>obtain⟨u,I,_⟩:=h;subst I;exact⟨rfl,rfl⟩
 case nilp=>subst h;exact⟨rfl,rfl⟩
 case func=>obtain⟨us,I,_⟩:=h;subst I;exact⟨rfl,rfl⟩
 case gmap=>obtain⟨b,_,I⟩:=h;subst I;exact⟨rfl,rfl⟩
 case row=>obtain⟨⟨a,cap,I⟩,_⟩:=h;subst I;exact⟨rfl,rfl⟩
 case rptr=>obtain⟨⟨a,o,I⟩,_⟩:=h;subst I;exact⟨rfl,rfl⟩
theorem nD{w:World}{ν:aA}{p:ae}{v:Value}(h:aw w ν p v)(af:dC p=true):bL w ν (cells p) v.cells.toList:=by
 by_cases bE:∃cs,p= .agg cs
 ·obtain⟨cs,rfl⟩:=bE;simp only[aw]at h;obtain⟨us,rfl,J⟩:=h;simpa[cells,h3]using J
 ·have nd:∀cs,p≠ .agg cs:=fun cs e=>bE ⟨cs,e⟩;obtain⟨I,J⟩:=zz h af nd;have al:cells p=[p]:=by cases p<;>first|rfl|exact absurd rfl (nd _)
  rw[al,J];simp only[bL];exact⟨v,[],rfl,⟨h,I⟩,rfl⟩
theorem rf{w:World}{ν:aA}:∀{a8:List ae} {aV:List Value},bL w ν a8 aV->∀c∈aV,c.oneCell'=true
 |[],aV,h=>by simp only[bL]at h;subst h;simp
 |p::a8,aV,h=>by
  simp only[bL]at h;obtain⟨u,a1,rfl,I,J⟩:=h;intro c al;rcases ft.1 al with rfl|al
  ·exact I.2
  ·exact rf J c al
theorem jV{w:World}{ν:aA}:∀{a8:List ae} {aV:List Value},bL w ν a8 aV->aV.length=a8.length
 |[],aV,h=>by simp only[bL]at h;subst h;rfl
 |p::a8,aV,h=>by simp only[bL]at h;obtain⟨u,a1,rfl,_,J⟩:=h;simp[jV J]
theorem re{w:World}{ν:aA}:∀(n:Nat) {a8:List ae} {aV:List Value},bL w ν a8 aV->bL w ν (a8.drop n) (aV.drop n)
 |0,_,_,h=>by simpa using h
 |n+1,[],aV,h=>by simp only[bL]at h;subst h;simp[bL]
 |n+1,p::a8,aV,h=>by simp only[bL]at h;obtain⟨u,a1,rfl,_,J⟩:=h;simpa using re n J
theorem tl{w:World}{ν:aA}:∀(n:Nat) {a8:List ae} {aV:List Value},bL w ν a8 aV->bL w ν (a8.take n) (aV.take n)
 |0,_,_,_=>by simp[bL]
 |n+1,[],aV,h=>by simp only[bL]at h;subst h;simp[bL]
 |n+1,p::a8,aV,h=>by simp only[bL]at h;obtain⟨u,a1,rfl,I,J⟩:=h;simp only[List.take_succ_cons,bL];exact⟨u,_,rfl,I,tl n J⟩
theorem pK{w:World}{ν:aA}:∀{a8 bZ:List ae} {aV us:List Value},bL w ν a8 aV->bL w ν bZ us->bL w ν (a8++bZ) (aV++us)
 |[],bZ,aV,us,h,b3=>by simp only[bL]at h;subst h;simpa using b3
 |p::a8,bZ,aV,us,h,b3=>by simp only[bL]at h;obtain⟨u,a1,rfl,I,J⟩:=h;simp only[cN,bL];exact⟨u,_,rfl,I,pK J b3⟩
theorem tj{w:World}{ν:aA}:∀(n:Nat) {a8:List ae} {aV:List Value} {p:ae},bL w ν a8 aV->a8[n]? =some p->∃v,aV[n]? =some v/\aw w ν p v/\v.oneCell'=true
 |n,[],_,p,_,be=>by simp at be
 |0,q::a8,aV,p,h,be=>by simp only[bL]at h;obtain⟨u,a1,rfl,I,_⟩:=h;simp at be;subst be;exact⟨u,rfl,I.1,I.2⟩
 |n+1,q::a8,aV,p,h,be=>by simp only[bL]at h;obtain⟨u,a1,rfl,_,J⟩:=h;simpa using tj n J (by simpa using be)
theorem vS{w:World}{ν:aA}:∀(n:Nat) {a8:List ae} {aV:List Value} {p:ae},bG w ν a8 aV->a8[n]? =some p->∃v,aV[n]? =some v/\aw w ν p v
 |n,[],_,p,_,be=>by simp at be
 |0,q::a8,aV,p,h,be=>by simp only[bG]at h;obtain⟨u,a1,rfl,I,_⟩:=h;simp at be;subst be;exact⟨u,rfl,I⟩
 |n+1,q::a8,aV,p,h,be=>by simp only[bG]at h;obtain⟨u,a1,rfl,_,J⟩:=h;simpa using vS n J (by simpa using be)
theorem nr{w:World}{A:Nat->Nat->Prop}{b:Nat}:∀{us:List Value} {off j:Nat} {u:Value},gP w A b off us->us[j]? =some u->A b (off+j)/\w.cell? ⟨b,off+j,none⟩=some u
 |[],_,_,_,_,h=>by simp at h
 |x::us,off,0,u,ar,h=>by simp at h;subst h;exact ar.1
 |x::us,off,j+1,u,ar,h=>by have:=nr (j:=j) ar.2 (by simpa using h);rwa[show off+1+j=off+(j+1)from by omega]at this
theorem vf{w:World}{A:Nat->Nat->Prop}{b:Nat}:∀(n:Nat) {us:List Value} {off:Nat},gP w A b off us->gP w A b (off+n) (us.drop n)
 |0,_,_,h=>by simpa using h
 |n+1,[],_,_=>by simp[gP]
 |n+1,x::us,off,h=>by have:=vf n h.2;rw[show off+(n+1)=off+1+n from by omega];simpa using this
theorem vg{w:World}{A:Nat->Nat->Prop}{b:Nat}:∀(n:Nat) {us:List Value} {off:Nat},gP w A b off us->gP w A b off (us.take n)
 |0,_,_,_=>by simp[gP]
 |n+1,[],_,_=>by simp[gP]
 |n+1,x::us,off,h=>by simp only[List.take_succ_cons];exact⟨h.1,vg n h.2⟩
theorem FW{P:bj}{w:World}{A:Nat->Nat->Prop}{b off:Nat}{us:List Value}(h:gP w A b off us):(loadCells ⟨b,off,none⟩ us.length).run P w= .ok us.toArray w:=run_loadCells_list w _ us fun j v aC=>by rw[jg];exact(nr h aC).2
theorem O9{P:bj}{w:World}{b off n:Nat}{us:Array Value}{el:eb}{fr:Nat×Nat}(h:w.heap[b]? =some (.cells us el fr))(aU:off+n<=us.size):
  (loadCells ⟨b,off,none⟩ n).run P w= .ok ((us.toList.drop off).take n).toArray w:=by
 have ar:((us.toList.drop off).take n).length=n:=by simp;omega
 have:=run_loadCells_list (P:=P) w ⟨b,off,none⟩ ((us.toList.drop off).take n) fun j v aC=>by
  rw[jg];have LF:j<n:=by have:=(fG.1 aC).1;omega
  simp only[World.cell?,h,Option.isSome_none,hO,if_false];rw[List.getElem?_take]at aC;simpa[LF]using aC
 rw[ar]at this;exact this
theorem B7{α:Type}(l r:List α)(n sz:Nat)(h:l.length=sz):(l++r).drop ((n+1)*sz)=r.drop (n*sz):=by
 have e:(n+1)*sz=l.length+n*sz:=by rw[h,Nat.succ_mul,Nat.add_comm]
 rw[e,<-List.drop_drop];simp
theorem F8{α:Type}(l r:List α)(n sz:Nat)(h:l.length=sz):(l++r).take ((n+1)*sz)=l++r.take (n*sz):=by
 have e:(n+1)*sz=l.length+n*sz:=by rw[h,Nat.succ_mul,Nat.add_comm]
 rw[e,List.take_length_add_append]
theorem vO{w:World}{ν:aA}{sz:Nat}:∀(i:Nat) {xs:List ae} {us:List Value} {p:ae},bN w ν sz xs us->xs[i]? =some p->
  ∃u,aw w ν p u/\u.cells.size=sz/\u.cells.toList=(us.drop (i*sz)).take sz
 |i,[],_,p,_,be=>by simp at be
 |0,x::xs,us,p,h,be=>by
  simp only[bN]at h;obtain⟨u,a1,rfl,⟨I,J,aj⟩,_⟩:=h;simp at be;subst be;refine⟨u,I,J,?_⟩;have:u.cells.toList.length=sz:=by simpa using J
  simp[<-this]
 |i+1,x::xs,us,p,h,be=>by
  simp only[bN]at h;obtain⟨u,a1,rfl,⟨_,J,_⟩,bs⟩:=h;obtain⟨v,g1,g2,g3⟩:=vO i bs (by simpa using be);refine⟨v,g1,g2,?_⟩;have:u.cells.toList.length=sz:=by simpa using J
  rw[g3,B7 _ _ _ _ this]
theorem kZ{w:World}{ν:aA}{sz:Nat}:∀{xs:List ae} {us:List Value},bN w ν sz xs us->us.length=xs.length*sz
 |[],us,h=>by simp only[bN]at h;subst h;simp
 |x::xs,us,h=>by
  simp only[bN]at h;obtain⟨u,a1,rfl,⟨_,J,_⟩,bs⟩:=h;have:u.cells.toList.length=sz:=by simpa using J
  rw[e0,this,kZ bs,ir,Nat.succ_mul];omega
theorem pJ{w:World}{ν:aA}{sz:Nat}:∀{xs:List ae} {us:List Value},bN w ν sz xs us->∀c∈us,c.oneCell'=true
 |[],us,h=>by simp only[bN]at h;subst h;simp
 |x::xs,us,h=>by
  simp only[bN]at h;obtain⟨u,a1,rfl,⟨_,_,aj⟩,bs⟩:=h;intro c al;rcases ht.1 al with al|al
  ·exact aj c al
  ·exact pJ bs c al
theorem ra{w:World}{ν:aA}{sz:Nat}:∀{a8 bZ:List ae} {aV us:List Value},bN w ν sz a8 aV->bN w ν sz bZ us->bN w ν sz (a8++bZ) (aV++us)
 |[],bZ,aV,us,h,b3=>by simp only[bN]at h;subst h;simpa using b3
 |p::a8,bZ,aV,us,h,b3=>by simp only[bN]at h;obtain⟨u,a1,rfl,I,J⟩:=h;simp only[cN,bN];exact⟨u,a1++us,Ψ,I,ra J b3⟩
theorem FG{w:World}{ν:aA}{sz:Nat}:∀(n:Nat) {xs:List ae} {us:List Value},bN w ν sz xs us->bN w ν sz (xs.drop n) (us.drop (n*sz))
 |0,_,_,h=>by simpa using h
 |n+1,[],us,h=>by simp only[bN]at h;subst h;simp[bN]
 |n+1,x::xs,us,h=>by
  simp only[bN]at h;obtain⟨u,a1,rfl,⟨_,J,_⟩,bs⟩:=h;have:u.cells.toList.length=sz:=by simpa using J
  rw[B7 _ _ _ _ this];simpa using FG n bs
theorem FJ{w:World}{ν:aA}{sz:Nat}:∀(n:Nat) {xs:List ae} {us:List Value},bN w ν sz xs us->bN w ν sz (xs.take n) (us.take (n*sz))
 |0,_,_,_=>by simp[bN]
 |n+1,[],us,h=>by simp only[bN]at h;subst h;simp[bN]
 |n+1,x::xs,us,h=>by
  simp only[bN]at h;obtain⟨u,a1,rfl,⟨I,J,aj⟩,bs⟩:=h;have:u.cells.toList.length=sz:=by simpa using J
  simp only[List.take_succ_cons,bN];refine⟨u,a1.take (n*sz),?_,⟨I,J,aj⟩,FJ n bs⟩;rw[F8 _ _ _ _ this]
def isAgg(sz:Nat)(p:ae):Prop:= ∃cs,p= .agg cs/\cs.length=sz
def pN(agg:Bool)(sz cj n i f:Nat):aW cC->aW (Prop×ae)
 |some ⟨n',_,fL,some xs⟩=>if n'=n/\fL=cj then
   (match xs[i]? with
    |some p=>if agg then some (dC p=true/\f+sz<=(cells p).length,.agg (((cells p).drop f).take sz))else((cells p)[f]?).map fun q=>(dC p=true,q)
    |none=>none)else none
 |_=>none
def ih(b:List (av×List ae))(e:List (av×cC))(agg:Bool)(sz:Nat):ae->aW (Prop×ae)
 | .rptr cj k n i f=>pN agg sz cj n i f (look k e)
 | .ptr k off=>
  match look k b with
  |some cs=>if agg then some (fB cs=true/\off+sz<=cs.length,.agg ((cs.drop off).take sz))else(cs[off]?).map fun p=>(fB cs=true,p)
  |none=>none
 | .eptr p=>if agg then some (isAgg sz p,p)else some (dC p=true/\cells p=[p],p)
 |_=>none
def r9(agg:Bool)(sz:Nat):ae->aW (Prop×ae)
 | .eptr p=>if agg then some (isAgg sz p,p)else some (dC p=true/\cells p=[p],p)
 |_=>none
theorem Kq{b:List (av×List ae)}{e:List (av×cC)}{agg:Bool}{sz:Nat}{p:ae}{r:Prop×ae}(h:r9 agg sz p=some r):ih b e agg sz p=some r:=by
 cases p<;>simp only[r9]at h<;>first|cases h;done|skip
 simpa only[ih]using h
theorem M8{b:List (av×List ae)}{e:List (av×cC)}{agg:Bool}{sz:Nat}{p:ae}{r:Prop×ae}(h:ih b [] agg sz p=some r):ih b e agg sz p=some r:=by cases p<;>simp only[ih]at h⊢ <;>first|exact h|(simp[look,pN]at h)
def mX(off:Nat)(agg:Bool)(sz:Nat):ae->aW (Prop×ae)
 | .ptr k o=>some (True,.ptr k (o+off))
 | .rptr cj k n i f=>some (True,.rptr cj k n i (f+off))
 | .eptr (.agg cs)=>if agg then some (off+sz<=cs.length,.eptr (.agg ((cs.drop off).take sz)))else(cs[off]?).map fun p=>(dC p=true/\cells p=[p],.eptr p)
 |_=>none
def oY(off:Nat)(agg:Bool)(sz:Nat):ae->aW (Prop×ae)
 | .agg cs=>if agg then some (off+sz<=cs.length,.agg ((cs.drop off).take sz))else(cs[off]?).map fun p=>(True,p)
 |_=>none
def qM(sz:Nat):ae->ae->aW (Prop×ae)
 | .slice cj _ xs,.int _ i=>if cj=sz then some (0<=i/\i<xs.length,.eptr (xs.getD i.toNat .junk))else none
 | .row cj k n,.int _ i=>if cj=sz then some (0<=i/\i<n,.rptr cj k n i.toNat 0)else none
 |_,_=>none
def vZ:ae->ae->aW (Prop×ae)
 | .str s,.int _ i=>some (0<=i/\i<s.length,.int .u8 (s.getD i.toNat 0).toNat)
 |_,_=>none
def kX(tW:Int):aW ae->aW Int
 |none=>some tW
 |some (.int _ i)=>some i
 |_=>none
def wa(x:ae)(lo aM:aW ae):aW (Prop×ae):=
 match x with
 | .str s=>match kX 0 lo,kX s.length aM with
  |some l,some h=>some (0<=l/\l<=h/\h<=s.length,.str ((s.take h.toNat).drop l.toNat))
  |_,_=>none
 |_=>none
def vj(sz:Nat)(x:ae)(lo aM:aW ae):aW (Prop×ae):=
 match x with
 | .slice cj _ xs=>if cj=sz then match kX 0 lo,kX xs.length aM with
  |some l,some h=>some (0<=l/\l<=h/\h<=xs.length,.slice sz .no ((xs.take h.toNat).drop l.toNat))
  |_,_=>none else none
 |_=>none
def c1(n:Int):Prop:= -9223372036854775808<=n/\n<=9223372036854775807
def aP(op:BinOp)(wr:Bool)(k:IntKind)(a b:Int):aW (Prop×ae):=
 match op with
 | .add=>if wr then some (True,.int k (k.wrap (a+b)))else some (k= .i64/\c1 (a+b),.int .i64 (a+b))
 | .sub=>if wr then some (True,.int k (k.wrap (a-b)))else some (k= .i64/\c1 (a-b),.int .i64 (a-b))
 | .mul=>if wr then some (True,.int k (k.wrap (a*b)))else some (k= .i64/\c1 (a*b),.int .i64 (a*b))
 | .quo=>some (b≠0,.int k (k.wrap (a.tdiv b)))
 | .rem=>some (b≠0,.int k (a.tmod b))
 | .eql=>some (True,.bool (a==b))
 | .neq=>some (True,.bool (a !=b))
 | .lss=>some (True,.bool (decide (a<b)))
 | .leq=>some (True,.bool (decide (a<=b)))
 | .gtr=>some (True,.bool (decide (b<a)))
 | .geq=>some (True,.bool (decide (b<=a)))
 | .and=>some (True,.int k (k.wrap (lb k.bits a&&& lb k.bits b).toNat))
 | .or=>some (True,.int k (k.wrap (lb k.bits a|||lb k.bits b).toNat))
 | .xor=>some (True,.int k (k.wrap (lb k.bits a ^^^ lb k.bits b).toNat))
 |_=>none
def wc(op:BinOp)(a b:List aX):aW (Prop×ae):=
 match op with
 | .add=>some (a.length+b.length<=bF,.str (a++b))
 | .eql=>some (True,.bool (a==b))
 | .neq=>some (True,.bool (!(a==b)))
 | .lss=>some (True,.bool (Op.bytesLess a b))
 | .leq=>some (True,.bool (Op.bytesLess a b||a==b))
 | .gtr=>some (True,.bool (!(Op.bytesLess a b||a==b)))
 | .geq=>some (True,.bool (!Op.bytesLess a b))
 |_=>none
def aJ(op:BinOp)(wr:Bool):ae->ae->aW (Prop×ae)
 | .int k a,.int aT b=>match op with
  | .shl=>some (0<=b,.int k (k.wrap (a*2 ^ (min b.toNat k.bits))))
  | .shr=>some (0<=b,.int k (a.fdiv (2 ^ (min b.toNat k.bits))))
  |_=>if k=aT then aP op wr k a b else none
 | .str a,.str b=>wc op a b
 |_,_=>none
def jA(cs:List ae)(off:Nat)(a8:List ae):List ae:=cs.take off++a8++cs.drop (off+a8.length)
def mQ(t:List (Nat×ae)):List ae->List (Nat×Nat×bW)->aW (Prop×List ae)
 |cs,[]=>some (True,cs)
 |cs,(off,sz,x)::r=>
  let p:=bf t x
  match mQ t (jA cs off (cells p)) r with
  |some (c,cs')=>some ((dC p=true/\(cells p).length=sz/\off+sz<=cs.length)/\c,cs')
  |none=>none
def vE(c x y:ae):aW (Prop×ae):=
 match c with
 | .bool b=>match x,y with
  | .bool u,.bool v=>some (True,.bool (cond b u v))
  |p,q=>match b with
   |true=>some (True,p)
   |false=>some (True,q)
 |_=>none
def vs:ae->aW (Prop×ae)
 | .bool b=>some (True,.bool (!b))
 |_=>none
def vo:ae->aW (Prop×ae)
 | .int k n=>some (True,.int k (k.wrap (0-n)))
 |_=>none
def uf(i:Nat):ae->aW (Prop×ae)
 | .tuple aV=>(aV[i]?).map fun p=>(True,p)
 |_=>none
def qQ:ae->aW (Prop×ae)
 | .slice _ _ xs=>some (True,.int .i64 xs.length)
 | .row _ _ n=>some (True,.int .i64 n)
 | .cst (.slice _ n _)=>some (True,.int .i64 n)
 |_=>none
def tv:ae->aW (Prop×ae)
 | .str s=>some (True,.int .i64 s.length)
 | .cst (.string s)=>some (True,.int .i64 s.size)
 |_=>none
def tU(k:IntKind):ae->aW (Prop×ae)
 | .int _ n=>some (True,.int k (k.wrap n))
 |_=>none
def jH:List ae->aW (List aX)
 |[]=>some []
 | .int .u8 n::r=>(jH r).map (UInt8.ofNat n.toNat:: ·)
 |_=>none
def tJ:ae->aW (Prop×ae)
 | .slice _ _ xs=>(jH xs).map fun s=>(True,.str s)
 |_=>none
def va(neg:Bool):ae->aW (Prop×ae)
 | .iface _ _=>some (True,.bool neg)
 | .cst .nilIface=>some (True,.bool (!neg))
 |_=>none
def qY:ae->aW (Prop×ae)
 | .ptr k o=>some (True,.ptr k o)
 | .eptr p=>some (True,.eptr p)
 | .func f cs=>some (True,.func f cs)
 |_=>none
def vm:ae->ae->aW (Prop×ae)
 | .int k a,.int aT b=>if k=aT then some (True,.int k (if b<a then b else a))else none
 |_,_=>none
def gX:List Bool->List ae->List ae->aW Bool
 |[],[],[]=>some true
 |false::r,.int k a::as,.int aT b::cJ=>if k=aT then(gX r as cJ).map fun q=>(a==b)&&q else none
 |true::r,.str a::as,.str b::cJ=>(gX r as cJ).map fun q=>(a==b)&&q
 |_,_,_=>none
inductive gG where
 |i
 |s
 |a (cq:List Bool)
 deriving DecidableEq
def qO:gG->ae->ae->aW Bool
 | .i,.int k a,.int aT b=>if k=aT then some (a==b)else none
 | .s,.str a,.str b=>some (a==b)
 | .a cq,.agg as,.agg cJ=>gX cq as cJ
 |_,_,_=>none
def vb:gG->ae->Bool
 | .a cq,.agg as=>(gX cq as as).isSome
 | .a _,_=>false
 |_,_=>true
def sX(bo:gG)(k:ae):List ae->aW (aW ae)
 |aT::v::r=>match qO bo k aT with
  |some true=>some (some v)
  |some false=>sX bo k r
  |none=>none
 |_=>some none
def oy(b:av->aW (List ae))(bo:gG)(zero:ae)(ok:Bool)(x k:ae):aW (Prop×ae):=
 match x with
 | .gmap key=>match b key with
  |some (.hdm _ _::kvs)=>if vb bo k=false then none else match sX bo k kvs with
   |some (some v)=>some (True,if ok then .tuple [v,.bool true]else v)
   |some none=>some (True,if ok then .tuple [zero,.bool false]else zero)
   |none=>none
  |_=>none
 |_=>none
def qV(b:av->aW (List ae))(x:ae):aW (Prop×ae):=
 match x with
 | .gmap key=>match b key with
  |some (.hdm _ borns::_)=>some (True,.int .i64 borns.length)
  |_=>none
 |_=>none
def tL(neg:Bool):aW (List Bool)->ae->ae->aW (Prop×ae)
 |none,.bool a,.bool b=>some (True,.bool (if neg then a !=b else a==b))
 |some cq,.agg as,.agg cJ=>(gX cq as cJ).map fun q=>(True,.bool (if neg then !q else q))
 |_,_,_=>none
def vl:ae->ae->aW (Prop×ae)
 | .int k a,.int aT b=>if k=aT then some (True,.int k (if a<b then b else a))else none
 |_,_=>none
def sY(bo:gG)(k v:ae):List ae->aW (aW (List ae))
 |aT::v'::r=>match qO bo k aT with
  |some true=>some (some (k::v::r))
  |some false=>match sY bo k v r with
   |some (some dW)=>some (some (aT::v'::dW))
   |some none=>some none
   |none=>none
  |none=>none
 |_=>some none
def lM(n:Nat):List Nat->List ae->aW ae
 |b::cJ,k::v::r=>if b=n then some (.tuple [k,v])else lM n cJ r
 |_,_=>none
def qU(b:av->aW (List ae))(x:ae):aW (Prop×ae):=
 match x with
 | .ptr hn 0=>match b hn with
  |some [.hdi _ seen last,.gmap mk]=>match b mk with
   |some (.hdm clock borns::kvs)=>match seen.getLast? with
    |some n=>(lM n borns kvs).map fun p=>(clock=last,p)
    |none=>none
   |_=>none
  |_=>none
 |_=>none
theorem Eo{f g:av->aW (List ae)}(h:∀k,f k≠none->g k=f k){bo:gG}{zero:ae}{ok:Bool}{x k:ae}{r:Prop×ae}(he:oy f bo zero ok x k=some r):oy g bo zero ok x k=some r:=by
 unfold oy at he⊢;split at he
 ·rename_i key;cases aF:f key with
  |none=>simp[aF]at he
  |some cs=>rw[h key (by rw[aF];simp),aF];rw[aF]at he;exact he
 ·cases he
theorem Nn{f g:av->aW (List ae)}(h:∀k,f k≠none->g k=f k){x:ae}{r:Prop×ae}(he:qV f x=some r):qV g x=some r:=by
 unfold qV at he⊢;split at he
 ·rename_i key;cases aF:f key with
  |none=>simp[aF]at he
  |some cs=>rw[h key (by rw[aF];simp),aF];rw[aF]at he;exact he
 ·cases he
theorem Nk{f g:av->aW (List ae)}(h:∀k,f k≠none->g k=f k){x:ae}{r:Prop×ae}(he:qU f x=some r):qU g x=some r:=by
 unfold qU at he⊢;split at he
 ·rename_i hn;cases aF:f hn with
  |none=>simp[aF]at he
  |some cs=>
   simp only[h hn (by rw[aF];simp),aF]at he⊢;split at he
   ·rename_i since seen last mk b0;cases mq:f mk with
    |none=>simp[mq]at he
    |some cx=>simp only[h mk (by rw[mq];simp),mq]at he⊢;exact he
   ·cases he
 ·cases he
inductive dQ where
 |mov (x:bW)
 |pick (c x y:bW)
 |load (agg:Bool) (sz:Nat) (x:bW)
 |faddr (off:Nat) (agg:Bool) (sz:Nat) (x:bW)
 |fld (off:Nat) (agg:Bool) (sz:Nat) (x:bW)
 |iaddr (sz:Nat) (x i:bW)
 |sidx (x i:bW)
 |ssl (x:bW) (lo aM:aW bW)
 |lsl (sz:Nat) (x:bW) (lo aM:aW bW)
 |bin (op:BinOp) (wr:Bool) (x y:bW)
 |notB (x:bW)
 |neg (x:bW)
 |conv (k:IntKind) (x:bW)
 |ext (i:Nat) (x:bW)
 |len (x:bW)
 |slen (x:bW)
 |build (zero:List ae) (parts:List (Nat×Nat×bW))
 |nck (x:bW)
 |min2 (x y:bW)
 |mkf (n:Nat) (xs:List bW)
 |mget (bo:gG) (zero:ae) (ok:Bool) (x k:bW)
 |ment (x:bW)
 |mlen (x:bW)
 |beq (neg:Bool) (cq:aW (List Bool)) (x y:bW)
 |max2 (x y:bW)
 |mkif (t:Nat) (x:bW)
 |loadB (agg:Bool) (sz:Nat) (x:bW)
 |mgetB (bo:gG) (zero:ae) (ok:Bool) (x k:bW)
 |loadZ (agg:Bool) (sz:Nat) (x:bW)
 |b2s (x:bW)
 |isn (neg:Bool) (x:bW)
def eB(st:aS):dQ->aW (Prop×ae)
 | .mov x=>some (True,bf st.t x)
 | .pick c x y=>vE (bf st.t c) (bf st.t x) (bf st.t y)
 | .load agg sz x=>ih st.b st.e agg sz (bf st.t x)
 | .faddr off agg sz x=>mX off agg sz (bf st.t x)
 | .fld off agg sz x=>oY off agg sz (bf st.t x)
 | .iaddr sz x i=>qM sz (bf st.t x) (bf st.t i)
 | .sidx x i=>vZ (bf st.t x) (bf st.t i)
 | .ssl x lo aM=>wa (bf st.t x) (lo.map (bf st.t)) (aM.map (bf st.t))
 | .lsl sz x lo aM=>vj sz (bf st.t x) (lo.map (bf st.t)) (aM.map (bf st.t))
 | .bin op wr x y=>aJ op wr (bf st.t x) (bf st.t y)
 | .notB x=>vs (bf st.t x)
 | .neg x=>vo (bf st.t x)
 | .conv k x=>tU k (bf st.t x)
 | .ext i x=>uf i (bf st.t x)
 | .len x=>qQ (bf st.t x)
 | .slen x=>tv (bf st.t x)
 | .build zero parts=>(mQ st.t zero parts).map fun(c,cs)=>(c,.agg cs)
 | .nck x=>qY (bf st.t x)
 | .min2 x y=>vm (bf st.t x) (bf st.t y)
 | .mkf n xs=>some (True,.func n (xs.map (bf st.t)))
 | .mget bo zero ok x k=>oy (fun k=>look k st.b) bo zero ok (bf st.t x) (bf st.t k)
 | .ment x=>qU (fun k=>look k st.b) (bf st.t x)
 | .mlen x=>qV (fun k=>look k st.b) (bf st.t x)
 | .beq neg cq x y=>tL neg cq (bf st.t x) (bf st.t y)
 | .max2 x y=>vl (bf st.t x) (bf st.t y)
 | .mkif t x=>some (True,.iface t (bf st.t x))
 | .loadB agg sz x=>ih st.b [] agg sz (bf st.t x)
 | .mgetB bo zero ok x k=>oy (fun k=>look k st.b) bo zero ok (bf st.t x) (bf st.t k)
 | .loadZ agg sz x=>r9 agg sz (bf st.t x)
 | .b2s x=>tJ (bf st.t x)
 | .isn neg x=>va neg (bf st.t x)
def q5(aR:List (Nat×cw))(cq:List (Nat×Nat)):List (Nat×Nat×bW)->List (Nat×Operand)->Bool
 |[],[]=>true
 |(off,sz,x)::r,(i,o)::s=>(match cq[i]? with|some (oC,t)=>off==oC&&((tf aR t).map (·.size))==some sz|none=>false)&&cE x o&&q5 aR cq r s
 |_,_=>false
def wq:ae->ae->Bool
 | .int k n,.int aT n'=>decide (k=aT/\n=n')
 | .bool b,.bool dL=>b==dL
 | .str [],.str []=>true
 | .slice a .nil [],.slice b .nil []=>a==b
 | .nilp,.nilp=>true
 | .junk,.junk=>true
 |_,_=>false
def p0:List ae->List ae->Bool
 |[],[]=>true
 |c::cs,d::cx=>wq c d&&p0 cs cx
 |_,_=>false
def rG:ae->ae->Bool
 | .agg cs,.agg cx=>p0 cs cx
 | .agg _,_=>false
 |p,q=>wq p q
def oF:List bW->List Operand->Bool
 |[],[]=>true
 |x::xs,o::os=>cE x o&&oF xs os
 |_,_=>false
def qo(aR:List (Nat×cw)):Nat->List Bool->List (Nat×Nat)->Bool
 |_,[],[]=>true
 |n,b::r,(off,t)::cq=>off==n&&(match tf aR t with|some ⟨_,_,.int _,_⟩=> !b|some ⟨_,_,.str,_⟩=>b|_=>false)&&qo aR (n+1) r cq
 |_,_,_=>false
def ui(aR:List (Nat×cw))(cq:List Bool)(t:Nat):Bool:=match tf aR t with
 |some ⟨_,_,.struct gs,_⟩=>qo aR 0 cq gs
 |_=>false
def pv(aR:List (Nat×cw))(bo:gG)(t:Nat):Bool:=match bo with
 | .i=>(match tf aR t with|some ⟨_,_,.int _,_⟩=>true|_=>false)
 | .s=>(match tf aR t with|some ⟨_,_,.str,_⟩=>true|_=>false)
 | .a cq=>ui aR cq t
def Ao:List ae->ae->Bool
 |cs,.agg cx=>p0 cs cx
 |_,_=>false
def oG:aW bW->aW Operand->Bool
 |none,none=>true
 |some x,some o=>cE x o
 |_,_=>false
def tC(aR:List (Nat×cw)):dQ->Op->Bool
 | .mov x,.move o=>cE x o
 | .mov x,.assign o=>cE x o
 | .pick c x y,.pick fe GI GM=>cE c fe&&cE x GI&&cE y GM
 | .load agg sz x,.load t o=>(match tf aR t with|some f=>f.size==sz&&f.kind.isAgg==agg|none=>false)&&cE x o
 | .faddr off agg sz x,.fieldAddr s o i=>
  (match tf aR s with
   |some ⟨_,_,.struct cq,_⟩=>(match cq[i]? with|some (oC,t)=>off==oC&&(match tf aR t with|some f=>f.size==sz&&f.kind.isAgg==agg&&sz !=0|none=>false)|none=>false)
   |_=>false)&&cE x o
 | .fld off agg sz x,.field s o i=>
  (match tf aR s with
   |some ⟨_,_,.struct cq,_⟩=>(match cq[i]? with|some (oC,t)=>off==oC&&(match tf aR t with|some f=>f.size==sz&&f.kind.isAgg==agg|none=>false)|none=>false)
   |_=>false)&&cE x o
 | .iaddr sz x i,.indexAddr t o j=>(match tf aR t with|some ⟨_,_,.slice e,_⟩=>(match tf aR e with|some f=>f.size==sz|none=>false)|_=>false)&&cE x o&&cE i j
 | .sidx x i,.index t o j=>(match tf aR t with|some ⟨_,_,.str,_⟩=>true|_=>false)&&cE x o&&cE i j
 | .ssl x lo aM,.slice t o l h none=>(match tf aR t with|some ⟨_,_,.str,_⟩=>true|_=>false)&&cE x o&&oG lo l&&oG aM h
 | .lsl sz x lo aM,.slice t o l h none=>(match tf aR t with|some ⟨_,_,.slice e,_⟩=>(match tf aR e with|some f=>f.size==sz|none=>false)|_=>false)&&cE x o&&oG lo l&&oG aM h
 | .bin op _ x y,.binOp EM _ o o' _=>decide (op=EM)&&cE x o&&cE y o'
 | .notB x,.unOp op _ o=>decide (op= .not)&&cE x o
 | .neg x,.unOp op _ o=>decide (op= .neg)&&cE x o
 | .conv k x,.convert s d o=>(match tf aR s,tf aR d with|some ⟨_,_,.int _,_⟩,some ⟨_,_,.int aT,_⟩=>decide (k=aT)|_,_=>false)&&cE x o
 | .ext i x,.extract o j=>i==j&&cE x o
 | .len x,.call ⟨.builtin .len,⟨[o]⟩,⟨[t]⟩⟩=>(match tf aR t with|some ⟨_,_,.slice _,_⟩=>true|_=>false)&&cE x o
 | .slen x,.call ⟨.builtin .len,⟨[o]⟩,⟨[t]⟩⟩=>(match tf aR t with|some ⟨_,_,.str,_⟩=>true|_=>false)&&cE x o
 | .build zero parts,.build t a8=>(match tf aR t with|some ⟨_,_,.struct cq,z⟩=>Ao zero z&&(cq.all fun x=>(tf aR x.2).isSome)&&q5 aR cq parts a8.toList|_=>false)
 | .nck x,.nilCheck o=>cE x o
 | .min2 x y,.call ⟨.builtin .min,⟨[o,o']⟩,⟨[_,_]⟩⟩=>cE x o&&cE y o'
 | .mkf n xs,.makeFunc (.func m) ⟨[]⟩ os=>n==m&&oF xs os.toList
 | .mget bo zero ok x k,.lookup t o o' vt=>ok==vt&&(match tf aR t with|some ⟨_,_,.map e6 jK,_⟩=>pv aR bo e6&&(match tf aR jK with|some f=>rG zero f.zero|none=>false)|_=>false)&&cE x o&&cE k o'
 | .ment x,.entry o=>cE x o
 | .mlen x,.call ⟨.builtin .len,⟨[o]⟩,⟨[t]⟩⟩=>(match tf aR t with|some ⟨_,_,.map _ _,_⟩=>true|_=>false)&&cE x o
 | .beq neg cq x y,.binOp op t o o' _=>decide (op=if neg then .neq else .eql)&&(match cq with|none=>(match tf aR t with|some ⟨_,_,.bool,_⟩=>true|_=>false)|some cq=>ui aR cq t)&&cE x o&&cE y o'
 | .max2 x y,.call ⟨.builtin .max,⟨[o,o']⟩,⟨[_,_]⟩⟩=>cE x o&&cE y o'
 | .mkif t x,.makeInterface df o=>t==df&&(match tf aR t with|some ⟨_,_,.slice _,_⟩=>true|_=>false)&&cE x o
 | .loadB agg sz x,.load t o=>(match tf aR t with|some f=>f.size==sz&&f.kind.isAgg==agg|none=>false)&&cE x o
 | .b2s x,.convert s d o=>(match tf aR s,tf aR d with|some ⟨_,_,.slice e,_⟩,some ⟨_,_,.str,_⟩=>(match tf aR e with|some ⟨_,_,.int .u8,_⟩=>true|_=>false)|_,_=>false)&&cE x o
 | .isn neg x,.binOp op t o (.const .nilIface) _=>decide (op=if neg then .neq else .eql)&&(match tf aR t with|some ⟨_,_,.iface,_⟩=>true|_=>false)&&cE x o
 | .loadZ agg sz x,.load t o=>(match tf aR t with|some f=>f.size==sz&&f.kind.isAgg==agg|none=>false)&&cE x o
 | .mgetB bo zero ok x k,.lookup t o o' vt=>ok==vt&&(match tf aR t with|some ⟨_,_,.map e6 jK,_⟩=>pv aR bo e6&&(match tf aR jK with|some f=>rG zero f.zero|none=>false)|_=>false)&&cE x o&&cE k o'
 |_,_=>false
end
section
open Go Go.RowKit
theorem xe(P:bj)(w:World)(op:BinOp)(t:eb)(x y:Operand)(k aT:IntKind)(m n:Int):(eqGuard op t x y (.int k m) (.int aT n)).run P w= .ok () w:=by cases op<;>rfl
theorem Iu(P:bj)(w:World)(op:BinOp)(t:eb)(x y:Operand)(m n:gT):(eqGuard op t x y (.string m) (.string n)).run P w= .ok () w:=by cases op<;>rfl
theorem Pw(l:List aX):(⟨l.toArray⟩:gT).toList=l:=by simp
theorem He(a b:List aX):(⟨a.toArray⟩:gT)++(⟨b.toArray⟩:gT)=⟨(a++b).toArray⟩:=by apply P5;simp
theorem Jr(a:List aX)(l h:Nat):(⟨a.toArray⟩:gT).extract l h=⟨((a.take h).drop l).toArray⟩:=by apply P5;simp[List.drop_take]
theorem tu(a:List aX):(⟨a.toArray⟩:gT).size=a.length:=by simp[Ap]
section
variable {P:bj} {w:World} {r:Sem Value}
theorem lu{k:IntKind}{x:Int}(h:r.run P w= .ok (.int k x) w):∃v,r.run P w= .ok v w/\∀ν,aw w ν (.int k x) v:=⟨_,h,fun ν=>by simp[aw]⟩
theorem CT{x:Bool}(h:r.run P w= .ok (.bool x) w):∃v,r.run P w= .ok v w/\∀ν,aw w ν (.bool x) v:=⟨_,h,fun ν=>by simp[aw]⟩
end
theorem MD(P:bj)(w:World){op:BinOp}{wr:Bool}{k:IntKind}{a b:Int}{c:Prop}{p:ae}(he:aP op wr k a b=some (c,p))(al:c)(t:eb):
  ∃v,(binOp op t (.int k a) (.int k b)).run P w= .ok v w/\∀ν,aw w ν p v:=by
 cases op<;>simp only[aP]at he;case add=>
  cases wr<;>simp only[if_true,hO,if_false]at he<;>cases he
  ·obtain⟨rfl,h⟩:=al;exact lu (by simp[binOp,Op.intArith,IntWalk.i64_in _ h])
  ·exact lu (by simp[binOp,Op.intArith])
 case sub=>
  cases wr<;>simp only[if_true,hO,if_false]at he<;>cases he
  ·obtain⟨rfl,h⟩:=al;exact lu (by simp[binOp,Op.intArith,IntWalk.i64_in _ h])
  ·exact lu (by simp[binOp,Op.intArith])
 case mul=>
  cases wr<;>simp only[if_true,hO,if_false]at he<;>cases he
  ·obtain⟨rfl,h⟩:=al;exact lu (by simp[binOp,Op.intArith,IntWalk.i64_in _ h])
  ·exact lu (by simp[binOp,Op.intArith])
 case quo=>cases he;exact lu (by simp[binOp,Op.intDiv,al])
 case rem=>cases he;exact lu (by simp[binOp,Op.intDiv,al])
 case and=>cases he;exact lu (by simp only[binOp,Op.intBits,ne_eq,not_true_eq_false,if_false,dP])
 case or=>cases he;exact lu (by simp only[binOp,Op.intBits,ne_eq,not_true_eq_false,if_false,dP])
 case xor=>cases he;exact lu (by simp only[binOp,Op.intBits,ne_eq,not_true_eq_false,if_false,dP])
 all_goals cases he
 all_goals exact CT (by simp only[binOp,Op.intCmp,ne_eq,not_true_eq_false,if_false,dP,gt_iff_lt,ge_iff_le])
theorem Pl(P:bj)(w:World){op:BinOp}{a b:List aX}{c:Prop}{p:ae}(he:wc op a b=some (c,p))(al:c)(t:eb):
  ∃v,(binOp op t (.string ⟨a.toArray⟩) (.string ⟨b.toArray⟩)).run P w= .ok v w/\∀ν,aw w ν p v:=by
 cases op<;>simp only[wc]at he;case add=>
  cases he;refine⟨.string ⟨(a++b).toArray⟩,?_,fun ν=>by simp only[aw];exact⟨trivial,by simpa using al⟩⟩;have I:¬(((⟨a.toArray⟩:gT).size+(⟨b.toArray⟩:gT).size:Nat):Int)>kr.max:=by
   have:kr.max=9223372036854775807:=by decide
   rw[this,tu,tu];simp only[bF]at al;omega
  simp only[binOp,Op.stringOp,I,if_false,dP,He]
 all_goals cases he
 all_goals exact CT (by simp only[binOp,Op.stringOp,Pw,dP])
theorem Hw(P:bj)(w:World)(ν:aA){op:BinOp}{wr:Bool}{x y:ae}{c:Prop}{p:ae}(he:aJ op wr x y=some (c,p))(al:c)(t:eb){u v:Value}(hu:aw w ν x u)(aH:aw w ν y v)(o o':Operand):
  ∃r,(do eqGuard op t o o' u v;binOp op t u v).run P w= .ok r w/\aw w ν p r:=by
 unfold aJ at he;split at he
 ·rename_i k a aT b;simp only[aw]at hu aH;subst hu;subst aH;split at he
  ·cases he;refine⟨_,?_,by simp[aw];rfl⟩;simp[binOp,Op.shift,xe,Int.not_lt.2 al]
  ·cases he;refine⟨_,?_,by simp[aw];rfl⟩;simp[binOp,Op.shift,xe,Int.not_lt.2 al]
  ·split at he
   ·rename_i U;subst U;obtain⟨r,I,J⟩:=MD P w he al t;exact⟨r,by simp[xe,I],J ν⟩
   ·cases he
 ·simp only[aw]at hu aH;rw[hu.1,aH.1];obtain⟨r,I,J⟩:=Pl P w he al t;exact⟨r,by simp[Iu,I],J ν⟩
 ·cases he
theorem xo{w:World}{ν:aA}:∀(v:List Value) (i off:Nat) (cs:Array Value),off+i+v.length<=cs.size->
  ((v.zipIdx i).foldl (fun cs (x:Value×Nat)=>cs.setIfInBounds (off+x.2) x.1) cs).toList=cs.toList.take (off+i)++v++cs.toList.drop (off+i+v.length)
 |[],i,off,cs,_=>by simp
 |u::v,i,off,cs,h=>by
  simp only[List.zipIdx_cons,List.foldl_cons];rw[xo (w:=w) (ν:=ν) v (i+1) off _ (by simp at h⊢;omega)];have bS:off+i<cs.toList.length:=by simp at h⊢;omega
  simp only[Array.toList_setIfInBounds];have ai:(cs.toList.set (off+i) u).take (off+(i+1))=cs.toList.take (off+i)++[u]:=by rw[show off+(i+1)=(off+i)+1 from by omega,List.take_succ_eq_append_getElem (by simpa using bS)];simp[List.take_set_of_le (dY _)]
  have aK:(cs.toList.set (off+i) u).drop (off+(i+1)+v.length)=cs.toList.drop (off+i+(u::v).length):=by rw[List.drop_set_of_lt Ω];congr 1;simp;omega
  rw[ai,aK];simp
theorem FU{w:World}{ν:aA}{C:c7}{st:aS}{a:Act}(hr:bH C st a w ν){aR:List (Nat×cw)}{cq:List (Nat×Nat)}{places:List (Nat×Nat)}
  (be:∀(i off t sz:Nat),cq[i]? =some (off,t)->(tf aR t).map (·.size)=some sz->places[i]? =some (off,sz)):
  ∀(parts:List (Nat×Nat×bW)) (a8:List (Nat×Operand)) (cs:List ae) (us:Array Value) (c:Prop) (cs':List ae),q5 aR cq parts a8=true->bL w ν cs us.toList->mQ st.t cs parts=some (c,cs')->c->
  ∃a1:Array Value,Instr.fill (places.toArray[·]?) us (a8.map fun(x:Nat×Operand)=>(x.1,a.eval x.2))=some a1/\bL w ν cs' a1.toList
 |[],[],cs,us,c,cs',_,h,he,al=>by simp only[mQ]at he;cases he;exact⟨us,by simp[Instr.fill],h⟩
 |[],_::_,_,_,_,_,ez,_,_,_=>by simp[q5]at ez
 |_::_,[],_,_,_,_,ez,_,_,_=>by simp[q5]at ez
 |(off,sz,x)::parts,(i,o)::a8,cs,us,c,cs',ez,h,he,al=>by
  simp only[q5,bt]at ez;obtain⟨⟨I,J⟩,aj⟩:=ez;split at I
  ·rename_i oC t sq;simp only[bt,cI]at I;obtain⟨rfl,I⟩:=I;have gm:=be i off t sz sq I;simp only[mQ]at he;split at he
   ·rename_i fe QW aa;cases he;obtain⟨⟨af,ar,hle⟩,jM⟩:=al;have ad:=cF hr J;have jn:=nD ad af;have hlen:=jV jn;have lG:=jV h;have hk:(a.eval o).cells.size=sz:=by have:(a.eval o).cells.toList.length=(cells (bf st.t x)).length:=hlen;rw[ar]at this;simpa using this
    have mv:us.size=cs.length:=by simpa using lG
    have kO:=xo (w:=w) (ν:=ν) (a.eval o).cells.toList 0 off us (by simp[hk,mv];omega);have hJ:bL w ν (jA cs off (cells (bf st.t x))) ((((a.eval o).cells.toList.zipIdx 0).foldl (fun cs (x:Value×Nat)=>cs.setIfInBounds (off+x.2) x.1) us).toList):=by rw[kO];unfold jA;refine pK (pK (tl off h) jn) ?_;rw[Nat.add_zero,hlen];exact re _ h
    obtain⟨a1,g1,g2⟩:=FU hr be parts a8 _ _ fe cs' aj hJ aa jM;refine⟨a1,?_,g2⟩;simp only[eU,Instr.fill,List.getElem?_toArray,gm];rw[bT (by simp[hk,mv];omega)];rw[<-g1];simp only[List.getElem?_toArray];congr 1;rw[<-Array.foldl_toList];simp
   ·cases he
  ·cases I
end
section
open Go Go.RowKit
theorem nK{P:bj}{aR:List (Nat×cw)}(az:eD P aR=true){t:Nat}{f:cw}(aF:tf aR t=some f)(w:World):
  (Go.isAgg t).run P w= .ok f.kind.isAgg w/\(sizeOf t).run P w= .ok f.size w:=by
 obtain⟨i,d,z,I,J,aj,aO,bs,da,eW,jm⟩:=(mI az aF).ex;refine⟨?_,by simp[sizeOf,typeInfo,I,aj]⟩;simp only[Go.isAgg,dk,run_underlying J,dr];cases U:f.kind<;>rw[U]at bs<;>cases d<;>simp[hC]at bs<;>simp[rO.isAgg]
theorem eS{P:bj}{aR:List (Nat×cw)}(az:eD P aR=true){t:Nat}{f:cw}(aF:tf aR t=some f):∃d,P.underlying t=some d/\hC f.kind d=true:=by obtain⟨i,d,z,I,J,aj,aO,bs,da,eW,jm⟩:=(mI az aF).ex;exact⟨d,J,bs⟩
theorem kE{e:Nat}{d:TypeDesc}(h:hC (.slice e) d=true):d= .slice e:=by cases d<;>simp[hC]at h;subst h;rfl
theorem nX{d:TypeDesc}(h:hC .str d=true):d= .string:=by cases d<;>simp[hC]at h;rfl
theorem r0{k:IntKind}{d:TypeDesc}(h:hC (.int k) d=true):d= .int k:=by cases d<;>simp[hC]at h;subst h;rfl
theorem wY{cq:List (Nat×Nat)}{d:TypeDesc}(h:hC (.struct cq) d=true):∃gs:Array Field,d= .struct gs/\gs.toList.map (fun f=>(f.offset,f.type))=cq:=by cases d<;>simp[hC]at h;rename_i gs;exact⟨gs,rfl,by simpa using h⟩
theorem vQ{w:World}{ν:aA}{cs:List ae}{us:List Value}(h:bL w ν cs us)(off sz:Nat):bL w ν ((cs.drop off).take sz) ((us.drop off).take sz):=tl sz (re off h)
theorem EN{w:World}{base el sz n:Nat}{v:Value}{us:List Value}(h:w.ownsRow base el sz v n us){b:Nat}(aa:v.ownBlock=some b):∃cap,v= .slice (some ⟨b,0,none⟩) n cap:=by
 rcases h.2 with⟨rfl,_⟩|⟨g,cap,cur,rfl,_⟩
 ·simp[iK]at aa
 ·simp[iK]at aa;subst aa;exact⟨cap,rfl⟩
theorem Good.rowElem{pr:Nat->Prop}{w:World}{ν:aA}{b:List (av×List ae)}{e:List (av×cC)}(aG:Good pr w ν b e){k:av}{n el sz:Nat}{xs:List ae}(U:look k e=some ⟨n,el,sz,some xs⟩){i f:Nat}{u:Value}(ad:aw w ν (.rptr sz k n i f) u){p:ae}(be:xs[i]? =some p):
  ∃(v:Value) (us:List Value) (dc:Nat),aw w ν p v/\v.cells.size=sz/\∃b o,u= .pointer (some ⟨b,o,none⟩)/\∀j c,v.cells.toList[f+j]? =some c->w.cell? ⟨b,o+j,none⟩=some c:=by
 simp only[aw]at ad;obtain⟨_,aM,n',dq,I,J,aj⟩:=ad;obtain⟨v,us,bY,cz,dV,cY⟩:=aG.own k _ U;rw[I]at bY;simp only[cR,fQ]at bY;obtain⟨rfl,rfl⟩:=bY;obtain⟨bl,aa,rfl⟩:=aj rfl;obtain⟨cap,rfl⟩:=EN cz aa;obtain⟨ar,hJ,_⟩:=cY xs rfl;simp only at ar hJ;obtain⟨v,dX,fD,iW⟩:=vO i hJ be;refine⟨v,us,el,dX,fD,bl,_,rfl,fun j c aC=>?_⟩;have bS:f+j<sz:=by have:=(fG.1 aC).1;simp[fD]at this;exact this
 have hmul:i*sz+sz<=n'*sz:=by have:=l1 sz (show i+1<=n' from aM);rwa[Nat.succ_mul]at this
 have al:=cz.cellAt (i*sz+f+j) (by show _<n'*sz;omega);rw[al];rw[iW,List.getElem?_take,cX bS,List.getElem?_drop]at aC;rw[<-aC];congr 1;omega
theorem vi{P:bj}{aR:List (Nat×cw)}(az:eD P aR=true){pr:Nat->Prop}{w:World}{ν:aA}{b:List (av×List ae)}{e:List (av×cC)}(aG:Good pr w ν b e){t:Nat}{f:cw}(aF:tf aR t=some f)
  {x:ae} {u:Value} (ad:aw w ν x u) {c:Prop} {p:ae} (he:ih b e f.kind.isAgg f.size x=some (c,p)) (al:c):∃v,(Instr.loadAt t u).run P w= .ok v w/\aw w ν p v:=by
 obtain⟨bE,af⟩:=nK az aF w;generalize uB:f.kind.isAgg=fi at*;generalize dt:f.size=sz at*;unfold ih at he;split at he
 ·rename_i cj k n i mj;unfold pN at he;split at he
  ·rename_i n' el fL xs U;split at he
   ·rename_i aU;obtain⟨rfl,rfl⟩:=aU;split at he
    ·rename_i EO L6;obtain⟨Aa,us,dc,g1,g2,hD⟩:=Good.rowElem aG U ad L6;have yj:dC EO=true:=by
      cases fi
      ·simp only[hO,if_false,hv]at he;obtain⟨q,_,he⟩:=he;cases he;exact al
      ·simp only[if_true]at he;cases he;exact al.1
     have b0:=nD g1 yj;cases fi
     ·simp only[hO,if_false,hv]at he;obtain⟨q,bD,he⟩:=he;cases he;obtain⟨v,f1,f2,f3⟩:=tj mj b0 bD;refine⟨v,?_,f2⟩;obtain⟨b,o,rfl,hD⟩:=hD;have:=hD 0 v (by simpa using f1);simp only[Nat.add_zero]at this;simp[Instr.loadAt,Instr.sureAddr,loadVar,bE,this]
     ·simp only[if_true]at he;cases he;obtain⟨b,o,rfl,hD⟩:=hD;refine⟨.agg ((Aa.cells.toList.drop mj).take sz).toArray,?_,by simp only[aw];exact⟨_,rfl,by simpa using vQ b0 mj sz⟩⟩;have ar:=jV b0;have hlen:((Aa.cells.toList.drop mj).take sz).length=sz:=by simp only[List.length_take,List.length_drop];omega
      have eP:=run_loadCells_list (P:=P) w ⟨b,o,none⟩ ((Aa.cells.toList.drop mj).take sz) (fun j v aC=>by
       rw[jg];refine hD j v ?_;rw[List.getElem?_take]at aC;split at aC
       ·simpa[List.getElem?_drop]using aC
       ·cases aC)
      rw[hlen]at eP;simp only[Instr.loadAt,Instr.sureAddr,loadVar,dk,dP,dr,bE,if_true,af,eP]
    ·cases he
   ·cases he
  ·cases he
 ·rename_i k off;simp only[aw]at ad;obtain⟨bl,I,rfl⟩:=ad;split at he
  ·rename_i cs U;obtain⟨fb,us,el,g1,g2,g3,g4,g5⟩:=aG.box k cs U;rw[I]at g1;cases g1;have gm:fB cs=true:=by
    cases fi
    ·simp only[hO,if_false,hv]at he;obtain⟨q,bD,he⟩:=he;cases he;exact al
    ·simp only[if_true]at he;cases he;exact al.1
   rw[kn gm]at g4;rw[jT gm]at g5;have ar:=jV g5;cases fi
   ·simp only[hO,if_false,hv]at he;obtain⟨q,bD,he⟩:=he;cases he;obtain⟨v,f1,f2,f3⟩:=tj off g5 bD;refine⟨v,?_,f2⟩;have hD:w.cell? ⟨bl,off,none⟩=some v:=by simpa[World.cell?,g4]using f1
    simp[Instr.loadAt,Instr.sureAddr,loadVar,bE,hD]
   ·simp only[if_true]at he;cases he;replace al:=al.2;refine⟨_,?_,by simp only[aw];exact⟨_,rfl,by simpa using vQ g5 off sz⟩⟩;simp only[Instr.loadAt,Instr.sureAddr,loadVar,dk,dP,dr,bE,if_true,af];rw[O9 g4 (by simp at ar;omega)];rfl
  ·cases he
 ·rename_i q;simp only[aw]at ad;obtain⟨bl,off,dq,rfl,J,aj⟩:=ad;cases fi
  ·simp only[hO,if_false]at he;cases he;obtain⟨kJ,j7⟩:=al;obtain⟨g1,g2⟩:=zz J kJ (fun cs e=>by subst e;have:=cB List.length j7;simp only[cells,ir,List.length_nil]at this;cases cs with
    |nil=>simp[cells]at j7
    |cons y ys=>simp only[cells,tG]at j7;obtain⟨ai,aK⟩:=j7;subst aK;have:=cB SizeOf.sizeOf ai;simp at this;omega)
   refine⟨dq,?_,J⟩;rw[g2]at aj;have hD:=aj.1.2;simp[Instr.loadAt,Instr.sureAddr,loadVar,bE,hD]
  ·simp only[if_true]at he;cases he;obtain⟨cs,rfl,hlen⟩:=al;simp only[aw]at J;obtain⟨us,rfl,aO⟩:=J;refine⟨.agg us,?_,by simp only[aw];exact⟨us,rfl,aO⟩⟩;simp only[h3]at aj;have ar:=jV aO;have:=FW (P:=P) aj;rw[show us.toList.length=sz from by omega]at this;simp[Instr.loadAt,Instr.sureAddr,loadVar,bE,af,this]
 ·cases he
theorem Kg{P:bj}{aR:List (Nat×cw)}(az:eD P aR=true){w:World}{ν:aA}{s i:Nat}{f:cw}{cq:List (Nat×Nat)}(aF:tf aR s=some f)(U:f.kind= .struct cq){off t:Nat}{g:cw}(aM:cq[i]? =some (off,t))(aG:tf aR t=some g)(ck:g.size≠0)
  {x:ae} {u:Value} (ad:aw w ν x u) {c:Prop} {p:ae} (he:mX off g.kind.isAgg g.size x=some (c,p)) (al:c):∃v,(Instr.fieldAt s u i).run P w= .ok v w/\aw w ν p v:=by
 obtain⟨d,aY,dj⟩:=eS az aF;rw[U]at dj;obtain⟨gs,rfl,gJ⟩:=wY dj;have nk:∃fd:Field,gs[i]? =some fd/\fd.offset=off/\fd.type=t:=by rw[<-gJ]at aM;simp only[List.getElem?_map,hv]at aM;obtain⟨fd,I,J⟩:=aM;simp only[fQ]at J;exact⟨fd,by simpa using I,J.1,J.2⟩
 obtain⟨fd,uG,ab,hj⟩:=nk;obtain⟨bE,af⟩:=nK az aG w;have eP:∀b o,(Instr.fieldAt s (.pointer (some ⟨b,o,none⟩)) i).run P w= .ok (.pointer (some ⟨b,o+off,none⟩)) w:=by intro b o;simp[Instr.fieldAt,run_underlying aY,uG,Instr.sureAddr,fieldPlace,hj,af,ck,jg,ab]
 unfold mX at he;split at he
 ·cases he;simp only[aw]at ad;obtain⟨b,I,rfl⟩:=ad;exact⟨_,eP _ _,by simp only[aw];exact⟨b,I,rfl⟩⟩
 ·cases he;simp only[aw]at ad;obtain⟨⟨b,o,rfl⟩,aM,n',dq,I,J,aj⟩:=ad;refine⟨_,eP _ _,?_⟩;simp only[aw];refine⟨⟨b,_,rfl⟩,aM,n',dq,I,J,fun e=>?_⟩;obtain⟨dL,ai,aK⟩:=aj e;simp only[Te,cR,Addr.mk.injEq,and_true]at aK;obtain⟨rfl,rfl⟩:=aK;exact⟨b,ai,by rw[Nat.add_assoc]⟩
 ·rename_i cs;simp only[aw]at ad;obtain⟨b,o,dq,rfl,⟨us,rfl,J⟩,aj⟩:=ad;refine⟨_,eP _ _,?_⟩;simp only[h3]at aj;split at he
  ·cases he;simp only[aw];exact⟨b,o+off,.agg ((us.toList.drop off).take g.size).toArray,rfl,⟨_,rfl,by simpa using vQ J off g.size⟩,by simpa[h3]using vg g.size (vf off aj)⟩
  ·simp only[hv]at he;obtain⟨q,bD,he⟩:=he;cases he;obtain⟨v,f1,f2,f3⟩:=tj off J bD;simp only[aw];have LO:=nr aj f1;have Mt:v.cells= #[v]:=by cases v<;>first|rfl|cases f3
   exact⟨b,o+off,v,rfl,f2,by rw[Mt];exact⟨LO,trivial⟩⟩
 ·cases he
theorem Km{P:bj}{aR:List (Nat×cw)}(az:eD P aR=true){w:World}{ν:aA}{s i:Nat}{f:cw}{cq:List (Nat×Nat)}(aF:tf aR s=some f)(U:f.kind= .struct cq){off t:Nat}{g:cw}(aM:cq[i]? =some (off,t))(aG:tf aR t=some g)
  {x:ae} {u:Value} (ad:aw w ν x u) {c:Prop} {p:ae} (he:oY off g.kind.isAgg g.size x=some (c,p)) (al:c):∃v,(Instr.field s u i).run P w= .ok v w/\aw w ν p v:=by
 obtain⟨d,aY,dj⟩:=eS az aF;rw[U]at dj;obtain⟨gs,rfl,gJ⟩:=wY dj;have nk:∃fd:Field,gs[i]? =some fd/\fd.offset=off/\fd.type=t:=by rw[<-gJ]at aM;simp only[List.getElem?_map,hv]at aM;obtain⟨fd,I,J⟩:=aM;simp only[fQ]at J;exact⟨fd,by simpa using I,J.1,J.2⟩
 obtain⟨fd,uG,ab,hj⟩:=nk;obtain⟨bE,af⟩:=nK az aG w;unfold oY at he;split at he
 ·rename_i cs;simp only[aw]at ad;obtain⟨us,rfl,J⟩:=ad;generalize uB:g.kind.isAgg=fi at*;cases fi
  ·simp only[hO,if_false,hv]at he;obtain⟨q,bD,he⟩:=he;cases he;obtain⟨v,f1,f2,f3⟩:=tj off J bD;have Js:us[off]? =some v:=by simpa using f1
   exact⟨v,by simp[Instr.field,run_underlying aY,uG,asAgg,part,hj,bE,ab,Js],f2⟩
  ·simp only[if_true]at he;cases he;refine⟨.agg (us.extract off (off+g.size)),by simp[Instr.field,run_underlying aY,uG,asAgg,part,hj,bE,ab,af],?_⟩;simp only[aw];refine⟨_,rfl,?_⟩;have:=vQ J off g.size;simpa[List.take_drop]using this
 ·cases he
theorem MA{P:bj}{aR:List (Nat×cw)}(az:eD P aR=true){w:World}{ν:aA}{t e:Nat}{f g:cw}(aF:tf aR t=some f)(U:f.kind= .slice e)(aG:tf aR e=some g)
  {x y:ae} {u v:Value} (ad:aw w ν x u) (b6:aw w ν y v) {c:Prop} {p:ae} (he:qM g.size x y=some (c,p)) (al:c):∃r,(Instr.indexAt t u v).run P w= .ok r w/\aw w ν p r:=by
 obtain⟨d,aY,dj⟩:=eS az aF;rw[U]at dj;obtain rfl:=kE dj;obtain⟨bE,af⟩:=nK az aG w;unfold qM at he;split at he
 ·rename_i cj tag xs k i;split at he
  ·rename_i dt;cases he;simp only[aw]at ad b6;subst b6;subst dt;obtain⟨⟨a,cap,rfl,I,J,aj⟩,_⟩:=ad;obtain⟨x2,uI⟩:=al;have mr:i.toNat<xs.length:=Ω
   rcases aj with rfl|⟨b,off,us,rfl,aO,bs⟩
   ·simp at mr
   ·have ad:xs[i.toNat]? =some xs[i.toNat]:=eo mr;obtain⟨w',dX,fD,iW⟩:=vO i.toNat bs ad;refine⟨.pointer (some ⟨b,off+i.toNat*g.size,none⟩),?_,?_⟩
    ·simp only[Instr.indexAt,asIntOf,dk,dP,dr,run_underlying aY,x2,uI,and_self,if_true,af,jg]
    ·simp only[aw];refine⟨b,off+i.toNat*g.size,w',rfl,by simpa[List.getD,ad]using dX,?_⟩;rw[iW];exact vg g.size (vf _ aO)
  ·cases he
 ·rename_i cj k n Eb i;split at he
  ·rename_i dt;cases he;simp only[aw]at ad b6;subst b6;subst dt;obtain⟨⟨b,cap,rfl⟩,J,n',dq,aj,aO,bs⟩:=ad;obtain⟨x2,uI⟩:=al;refine⟨.pointer (some ⟨b,0+i.toNat*g.size,none⟩),?_,?_⟩
   ·simp only[Instr.indexAt,asIntOf,dk,dP,dr,run_underlying aY,x2,uI,and_self,if_true,af,jg]
   ·simp only[aw];refine⟨⟨b,_,rfl⟩,Ω,n',dq,aj,aO,fun e=>⟨b,?_,Ψ⟩⟩;rw[<-bs e];rfl
  ·cases he
 ·cases he
theorem vy{C:c7}{st:aS}{a:Act}{w:World}{ν:aA}(h:bH C st a w ν){x:aW bW}{o:aW Operand}(ad:oG x o=true){tW n:Int}(he:kX tW (x.map (bf st.t))=some n):
  (o.map a.eval=none/\n=tW)\/ ∃k,o.map a.eval=some (.int k n):=by
 cases x with
 |none=>cases o with
  |none=>simp[kX]at he;exact .inl ⟨rfl,he.symm⟩
  |some o=>simp[oG]at ad
 |some x=>cases o with
  |none=>simp[oG]at ad
  |some o=>
   simp only[oG]at ad
   have:=cF h ad
   simp only[l2]at he⊢
   cases o7:bf st.t x<;>simp[o7,kX]at he
   rw[o7]at this
   simp only[aw]at this
   subst he
   exact .inr ⟨_,by rw[this]⟩
theorem AZ:∀{xs:List ae} {s:List aX},jH xs=some s->s.length=xs.length
 |[],s,h=>by simp only[jH]at h;cases h;rfl
 |x::xs,s,h=>by
  cases x<;>try(simp[jH]at h;done)
  rename_i k n;cases k<;>simp only[jH,hv,reduceCtorEq]at h;obtain⟨ah,I,rfl⟩:=h;simp[AZ I]
def qe(n:Int):aX:=UInt8.ofNat n.toNat
theorem A0{w:World}{ν:aA}{sz:Nat}:∀{xs:List ae} {s:List aX} {us:List Value},jH xs=some s->bN w ν sz xs us->∃ns:List Int,us=ns.map (kt .u8)/\s=ns.map qe/\us.length=xs.length
 |[],s,us,h,hr=>by simp only[jH]at h;cases h;simp only[bN]at hr;subst hr;exact⟨[],rfl,rfl,rfl⟩
 |x::xs,s,us,h,hr=>by
  cases x<;>try(simp[jH]at h;done)
  rename_i k n;cases k<;>simp only[jH,hv,reduceCtorEq]at h;obtain⟨ah,I,rfl⟩:=h;simp only[bN,aw]at hr;obtain⟨u,a1,rfl,⟨rfl,_⟩,hr⟩:=hr;obtain⟨ns,rfl,rfl,ar⟩:=A0 I hr;exact⟨n::ns,by simp[h3],rfl,by simp[h3]at ar⊢;exact ar⟩
theorem EY{P:bj}{w:World}{f:Value->gT->Sem (ForInStep gT)}(aF:∀n s,f (.int .u8 n) s=pure (.yield (s.push (qe n)))):∀(ns:List Int) (s:gT),(forIn (ns.map (kt .u8)) s f).run P w= .ok ⟨(s.data.toList++ns.map qe).toArray⟩ w
 |[],s=>by simp
 |n::ns,s=>by simp only[eU,List.forIn_cons,dk,aF,dP,dr];rw[EY aF ns];simp[S7]
theorem Hs{P:bj}{w:World}{A:Nat->Nat->Prop}{a:aW Addr}{len cap:Nat}{ns:List Int}(ar:ns.length=len)(h:len=0\/ ∃b off,a=some ⟨b,off,none⟩/\gP w A b off (ns.map (kt .u8))):
  (Conv.bytesToString (.slice a len cap)).run P w= .ok (.string ⟨(ns.map qe).toArray⟩) w:=by
 have LR:∀hR,a=some hR->(loadCells hR len).run P w= .ok (ns.map (kt .u8)).toArray w:=fun hR e=>by
  rcases h with h|⟨b,off,ai,J⟩
  ·subst h;have:ns=[]:=by cases ns<;>simp_all
   subst this;exact run_loadCells_list w hR [] fun j v aC=>by simp at aC
  ·rw[ai]at e;cases e;have:=FW (P:=P) J;simpa[ar]using this
 unfold Conv.bytesToString;cases a with
 |none=>
  have:ns=[]:=by
   rcases h with h|⟨b,off,ai,J⟩
   ·subst h;cases ns<;>simp_all
   ·cases ai
  subst this;simp;rfl
 |some hR=>simp only[dk,LR hR rfl,dr,Array.forIn_toList,List.forIn_toArray];rw[EY (fun n s=>rfl) ns S6];simp
theorem GO{c d:ae}(h:wq c d=true):c=d:=by unfold wq at h;split at h<;>simp_all
theorem Aj:∀{cs cx:List ae},p0 cs cx=true->cs=cx
 |[],[],_=>rfl
 |[],_::_,h=>by simp[p0]at h
 |_::_,[],h=>by simp[p0]at h
 |c::cs,d::cx,h=>by simp only[p0,bt]at h;rw[GO h.1,Aj h.2]
theorem P3{cs:List ae}{z:ae}(h:Ao cs z=true):z= .agg cs:=by
 cases z<;>simp only[Ao]at h;case agg cx=>rw[Aj h]
 all_goals cases h
theorem KQ(s:List aX)(n:Nat)(h:n<s.length):(⟨s.toArray⟩:gT)[n]? =some (s.getD n 0):=by
 have dt:n<(⟨s.toArray⟩:gT).size:=by rw[tu];exact h
 have e:(⟨s.toArray⟩:gT)[n]? =some ((⟨s.toArray⟩:gT)[n]'dt):=getElem?_pos (⟨s.toArray⟩:gT) n dt;rw[e];congr 1;simp[List.getD,h];rfl
theorem v8(P:bj)(w:World)(k:IntKind)(i:Int)(y:Nat)(c:BoundsCode)(ck:0<=i)(I:i<=y):(Instr.sliceBound (.int k i) y c).run P w= .ok i.toNat w:=by simp[Instr.sliceBound,asIntOf,ck,I]
theorem AQ(P:bj)(w:World)(MP:Bool)(len cap:Nat)(lo aM:aW Value)(l h:Int)(LQ:(lo=none/\l=0)\/ ∃k,lo=some (.int k l))(LB:(aM=none/\h=len)\/ ∃k,aM=some (.int k h))
  (ck:0<=l) (I:l<=h) (J:h<=len) (al:len<=cap):(Instr.sliceBounds MP len cap lo aM none).run P w= .ok (l.toNat,h.toNat,cap) w:=by
 rcases LQ with⟨rfl,rfl⟩|⟨k,rfl⟩<;>rcases LB with⟨rfl,rfl⟩|⟨aT,rfl⟩
 ·simp[Instr.sliceBounds]
 ·simp[Instr.sliceBounds,v8 P w aT h cap _ Ω Ω]
 ·simp[Instr.sliceBounds,v8 P w k l len _ Ω Ω]
 ·simp[Instr.sliceBounds,v8 P w aT h cap _ Ω Ω,v8 P w k l h.toNat _ Ω Ω]
theorem EV{P:bj}{aR:List (Nat×cw)}(az:eD P aR=true):∀(gs:List Field),(gs.all fun f=>(tf aR f.type).isSome)=true->
  ∃places:List (Nat×Nat),gs.mapM (fun f=>(P.info? f.type).map fun i=>(f.offset,i.size))=some places/\
   ∀(i off t sz:Nat),(gs.map (fun f=>(f.offset,f.type)))[i]? =some (off,t)->(tf aR t).map (·.size)=some sz->places[i]? =some (off,sz)
 |[],_=>⟨[],Ψ,Ψ⟩
 |f::gs,h=>by
  simp only[List.all_cons,bt]at h;obtain⟨places,I,J⟩:=EV az gs h.2;obtain⟨g,aG⟩:=dK.1 h.1;obtain⟨i,d,z,ai,aK,bu,cP,fX,gv,mf,j0⟩:=(mI az aG).ex;refine⟨(f.offset,g.size)::places,by simp[List.mapM_cons,ai,bu,I],fun j off t sz aC dt=>?_⟩;cases j with
  |zero=>simp only[eU,List.getElem?_cons_zero,cR,fQ]at aC⊢;obtain⟨rfl,rfl⟩:=aC;rw[aG]at dt;simpa using dt
  |succ j=>simp only[eU,List.getElem?_cons_succ]at aC⊢;exact J j off t sz aC dt
theorem gD{P:bj}{w:World}{x:Sem Value}{v:Value}(h:x.run P w= .ok v w):(do pure (Next.value (<-x)):Sem Next).run P w= .ok (.value v) w:=by simp[h]
theorem Am{p q:ae}(h:rG p q=true):p=q:=by
 unfold rG at h;split at h
 ·rw[Aj h]
 ·cases h
 ·exact GO h
theorem Al(w:World)(ν:aA){p:ae}{v:Value}(h:p1 p v=true):aw w ν p v/\bL w ν (cells p) v.cells.toList:=by
 by_cases bE:∃cs,p= .agg cs
 ·obtain⟨cs,rfl⟩:=bE;cases v<;>simp only[p1]at h;case agg us=>have:=Ak w ν _ _ h;exact⟨by simp only[aw];exact⟨us,rfl,this⟩,by simpa[cells,h3]using this⟩
  all_goals cases h
 ·have b3:qg p v=true/\v.oneCell'=true:=by cases p<;>simp only[p1,bt]at h<;>first|exact h|exact absurd ⟨_,rfl⟩ bE
  have hr:=wM w ν b3.1;refine⟨hr,?_⟩;have al:cells p=[p]:=by cases p<;>first|rfl|exact absurd ⟨_,rfl⟩ bE
  have aH:v.cells= #[v]:=by have:=b3.2;cases v<;>first|rfl|simp[Value.oneCell']at this
  rw[al,aH];simp only[bL];exact⟨v,[],rfl,⟨hr,b3.2⟩,rfl⟩
theorem zT{P:bj}{aR:List (Nat×cw)}(az:eD P aR=true){t:Nat}{f:cw}(aF:tf aR t=some f)(w:World):∃z,(zeroValue t).run P w= .ok z w/\p1 f.zero z=true/\z.cells.size=f.size:=by obtain⟨i,d,z,I,J,aj,aO,bs,da,eW,jm⟩:=(mI az aF).ex;exact⟨z,by simp[zeroValue,typeInfo,I,da],eW,jm⟩
theorem rh{C:c7}{st:aS}{a:Act}{w:World}{ν:aA}(h:bH C st a w ν):∀{xs:List bW} {os:List Operand},oF xs os=true->bG w ν (xs.map (bf st.t)) (os.map a.eval)
 |[],[],_=>by simp[bG]
 |[],_::_,U=>by simp[oF]at U
 |_::_,[],U=>by simp[oF]at U
 |x::xs,o::os,U=>by simp only[oF,bt]at U;simp only[eU,bG];exact⟨_,_,rfl,cF h U.1,rh h U.2⟩
theorem Iv{P:bj}{w:World}{t:eb}(aY:P.underlying t=some .bool)(d:Nat)(a b:Bool):(Op.equalIn (d+1) t (.bool a) (.bool b)).run P w= .ok (a==b) w:=by rw[Op.equalIn];simp only[dk,run_underlying aY,dr,dP]
theorem Iw{P:bj}{w:World}{t:eb}{ms:Array (String×eb)}(aY:P.underlying t=some (.interface ms))(d:Nat):(∀u x,(Op.equalIn (d+1) t (.iface u x) .nilIface).run P w= .ok false w)/\(Op.equalIn (d+1) t .nilIface .nilIface).run P w= .ok true w:=by
 constructor
 ·intro u x;simp[Op.equalIn,run_underlying aY]
 ·simp[Op.equalIn,run_underlying aY]
theorem ub{P:bj}{w:World}{t:eb}{ms:Array (String×eb)}(aY:P.underlying t=some (.interface ms)):(∀u x,(Op.equal t (.iface u x) .nilIface).run P w= .ok false w)/\(Op.equal t .nilIface .nilIface).run P w= .ok true w:=Iw aY 9999
theorem Ix{P:bj}{w:World}{t:eb}(aY:P.underlying t=some .bool)(a b:Bool):(Op.equal t (.bool a) (.bool b)).run P w= .ok (a==b) w:=Iv aY _ a b
theorem Ca:∀{borns:List Nat} {kvs:List ae} {us:List Value},kvs.length=2*borns.length->us.length=kvs.length->(dF borns us).length=borns.length
 |[],_,us,_,_=>by simp[dF]
 |dL::cJ,kvs,[],I,J=>by rw[I]at J;simp at J
 |dL::cJ,kvs,[_],I,J=>by rw[I]at J;simp at J;omega
 |dL::cJ,kvs,k::v::us,I,J=>by simp only[dF,ir];rw[Ca (kvs:=kvs.drop 2) (us:=us) (borns:=cJ) (by simp at I⊢;omega) (by simp at I J⊢;omega)]
theorem FO{w:World}{ν:aA}:∀{a8:List ae} {aV:List Value},bG w ν a8 aV->aV.length=a8.length
 |[],aV,h=>by simp only[bG]at h;subst h;rfl
 |p::a8,aV,h=>by simp only[bG]at h;obtain⟨u,a1,rfl,_,J⟩:=h;simp[FO J]
theorem nI{P:bj}{w:World}{r:Nat}{o:Obj}(aa:w.heap[r]? =some o)(aU:∀c e f,o≠ .cells c e f:=by simp):(getObj r).run P w= .ok o w:=by simp only[getObj,Sem.run,aa]
def kv(P:bj):Nat->List Bool->List Field->Prop
 |_,[],[]=>True
 |n,b::r,f::gs=>(f.offset=n/\f.name≠ "_" /\(if b=true then P.underlying f.type=some .string else∃k,P.underlying f.type=some (.int k)))/\kv P (n+1) r gs
 |_,_,_=>cU
theorem s8{P:bj}{t:eb}{b:Bool}(h:if b=true then P.underlying t=some .string else∃k,P.underlying t=some (.int k)):P.plainKey t=true:=by
 cases b
 ·obtain⟨k,h⟩:=(by simpa using h:∃k,P.underlying t=some (.int k));simp[Program.plainKey,h]
 ·have h:P.underlying t=some .string:=by simpa using h
  simp[Program.plainKey,h]
theorem HI{P:bj}{w:World}{ν:aA}(d:Nat){X Y:Array Value}(cq:List Bool):∀(gs:List Field) (n:Nat) (as cJ:List ae) (us aV:List Value) (q:Bool),kv P n cq gs->X.toList.drop n=us->Y.toList.drop n=aV->bL w ν as us->bL w ν cJ aV->gX cq as cJ=some q->
  (Op.eqFields (d+1) X Y gs).run P w= .ok q w/\(q=true->us=aV)/\∀m,(us.zip us).all (fun(x,y)=>Instr.sameBits m x y)=true:=by
 induction cq with
 |nil=>intro gs n as cJ us aV q aG o3 sk I J h;cases as<;>cases cJ<;>simp only[gX,cR,reduceCtorEq]at h;cases gs<;>simp only[kv]at aG;simp only[bL]at I J;rw[I,J,<-h];exact⟨by simp[Op.eqFields],fun _=>rfl,fun m=>rfl⟩
 |cons oX r bz=>
  intro gs n as cJ us aV q aG o3 sk I J h;cases gs with
  |nil=>simp only[kv]at aG
  |cons f gs=>
  simp only[kv]at aG;obtain⟨⟨uV,ph,hj⟩,aG⟩:=aG;cases as with
  |nil=>cases oX<;>cases cJ<;>simp[gX]at h
  |cons s6 as=>
  cases cJ with
  |nil=>cases oX<;>cases s6<;>simp[gX]at h
  |cons vD cJ=>
  cases oX with
  |false=>
   have al:∃k a b hZ,s6= .int k a/\vD= .int k b/\gX r as cJ=some hZ/\q=((a==b)&&hZ):=by
    cases s6<;>first|(simp[gX]at h;done)|skip
    cases vD<;>first|(simp[gX]at h;done)|skip
    simp only[gX]at h;split at h
    ·rename_i U;subst U;simp only[hv]at h;obtain⟨hZ,aj,aO⟩:=h;exact⟨_,_,_,hZ,rfl,rfl,aj,aO.symm⟩
    ·cases h
   obtain⟨k,a,b,hZ,rfl,rfl,aj,rfl⟩:=al;simp only[bL,aw]at I J;obtain⟨u,a1,rfl,⟨rfl,_⟩,I⟩:=I;obtain⟨v,vs',rfl,⟨rfl,_⟩,J⟩:=J;have s5:X[n]? =some (.int k a):=by rw[<-lZ,<-List.head?_drop,o3];rfl
   have zd:Y[n]? =some (.int k b):=by rw[<-lZ,<-List.head?_drop,sk];rfl
   obtain⟨i1,i2,i3⟩:=bz gs (n+1) as cJ a1 vs' hZ aG (by rw[<-List.tail_drop,o3];rfl) (by rw[<-List.tail_drop,sk];rfl) I J aj;obtain⟨Eb,yo⟩:=(by simpa using hj:∃k,P.underlying f.type=some (.int k));refine⟨?_,?_,fun m=>?_⟩
   ·simp only[Op.eqFields,ph,ne_eq,not_false_eq_true,if_true,dk,uV,run_part_plain w (s8 hj) s5,run_part_plain w (s8 hj) zd,dr,run_equalIn_int w d f.type k Eb a b yo];cases uz:(a==b)
    ·simp
    ·simpa using i1
   ·intro bD;simp only[bt,cI]at bD;rw[bD.1,i2 bD.2]
   ·have:=i3 m;simp only[List.zip_cons_cons,List.all_cons,this,Bool.and_true];cases m<;>simp[Instr.sameBits]
  |true=>
   have al:∃a b hZ,s6= .str a/\vD= .str b/\gX r as cJ=some hZ/\q=((a==b)&&hZ):=by
    cases s6<;>first|(simp[gX]at h;done)|skip
    cases vD<;>first|(simp[gX]at h;done)|skip
    simp only[gX,hv]at h;obtain⟨hZ,aj,aO⟩:=h;exact⟨_,_,hZ,rfl,rfl,aj,aO.symm⟩
   obtain⟨a,b,hZ,rfl,rfl,aj,rfl⟩:=al;simp only[bL,aw]at I J;obtain⟨u,a1,rfl,⟨⟨rfl,_⟩,_⟩,I⟩:=I;obtain⟨v,vs',rfl,⟨⟨rfl,_⟩,_⟩,J⟩:=J;have s5:X[n]? =some (.string ⟨a.toArray⟩):=by rw[<-lZ,<-List.head?_drop,o3];rfl
   have zd:Y[n]? =some (.string ⟨b.toArray⟩):=by rw[<-lZ,<-List.head?_drop,sk];rfl
   obtain⟨i1,i2,i3⟩:=bz gs (n+1) as cJ a1 vs' hZ aG (by rw[<-List.tail_drop,o3];rfl) (by rw[<-List.tail_drop,sk];rfl) I J aj;have yo:P.underlying f.type=some .string:=by simpa using hj
   refine⟨?_,?_,fun m=>?_⟩
   ·simp only[Op.eqFields,ph,ne_eq,not_false_eq_true,if_true,dk,uV,run_part_plain w (s8 hj) s5,run_part_plain w (s8 hj) zd,dr,run_equalIn_string w d f.type _ _ yo];have e:((⟨a.toArray⟩:gT).toList==(⟨b.toArray⟩:gT).toList)=(a==b):=by rw[P6,P6]
    rw[e];cases uz:(a==b)
    ·simp
    ·simpa using i1
   ·intro bD;simp only[bt,cI]at bD;rw[bD.1,i2 bD.2]
   ·have:=i3 m;simp only[List.zip_cons_cons,List.all_cons,this,Bool.and_true];cases m<;>simp only[Instr.sameBits]<;>exact(MapKept.bytes_beq _ _).2 rfl
theorem Ct{P:bj}{aR:List (Nat×cw)}(az:eD P aR=true):∀(cq:List Bool) (gs:List Field) (n:Nat),qo aR n cq (gs.map fun f=>(f.offset,f.type))=true->(gs.all (fun f=>match P.underlying f.type with|some (.int _)=>true|some .string=>true|_=>false)=true)/\((∀f∈gs,f.name≠ "_")->kv P n cq gs)
 |[],[],_,_=>⟨rfl,fun _=>trivial⟩
 |[],_::_,_,h=>by simp[qo]at h
 |_::_,[],_,h=>by simp[qo]at h
 |b::r,f::gs,n,h=>by
  simp only[eU,qo,bt,cI]at h;obtain⟨⟨I,J⟩,aj⟩:=h;obtain⟨i1,i2⟩:=Ct az r gs (n+1) aj;split at J
  ·rename_i aF;obtain⟨d,hu,aY⟩:=eS az aF;obtain rfl:=r0 aY;refine⟨by simp only[List.all_cons,hu,i1,Bool.and_self],fun aU=>⟨⟨I,aU f Ψ,?_⟩,i2 fun g aG=>aU g (by simp[aG])⟩⟩;have:b=false:=by simpa using J
   subst this;simpa using⟨_,hu⟩
  ·rename_i aF;obtain⟨d,hu,aY⟩:=eS az aF;obtain rfl:=nX aY;refine⟨by simp only[List.all_cons,hu,i1,Bool.and_self],fun aU=>⟨⟨I,aU f Ψ,?_⟩,i2 fun g aG=>aU g (by simp[aG])⟩⟩;subst J;simpa using hu
  ·cases J
theorem Cw{P:bj}{aR:List (Nat×cw)}(az:eD P aR=true){cq:List Bool}{t:Nat}(h:ui aR cq t=true):∃gs,P.underlying t=some (.struct gs)/\kv P 0 cq gs.toList/\P.stoodInHeld t=false/\P.eqGuardType P.depth t=false:=by
 unfold ui at h;split at h
 ·rename_i aF;obtain⟨d,hu,aY⟩:=eS az aF;have al:=(mI az aF).cmp d hu;cases d<;>simp[hC]at aY;rename_i gs;subst aY;obtain⟨i1,i2⟩:=Ct az cq gs.toList 0 h;have Lr:Cv P gs=true:=i1;simp only[wW,Lr,Bool.not_true,Bool.false_or,BX,bt,Bool.not_eq_true',ld,bne_iff_ne,ne_eq]at al;exact⟨gs,hu,i2 al.1.1,al.1.2,al.2⟩
 ·cases h
theorem Cc{P:bj}{w:World}{ν:aA}{t:eb}{gs:Array Field}{cq:List Bool}(hu:P.underlying t=some (.struct gs))(aG:kv P 0 cq gs.toList)(dT:P.stoodInHeld t=false){as cJ:List ae}{X Y:Array Value}(I:bL w ν as X.toList)(J:bL w ν cJ Y.toList){q:Bool}(h:gX cq as cJ=some q):
  (Op.equalIn 10000 t (.agg X) (.agg Y)).run P w= .ok q w/\(q=true->X=Y)/\∀m,(X.toList.zip X.toList).all (fun(x,y)=>Instr.sameBits m x y)=true:=by
 have aF:P.fieldsOf t=gs:=by simp[Program.fieldsOf,hu]
 obtain⟨i1,i2,i3⟩:=HI 9998 cq gs.toList 0 as cJ _ _ q aG rfl rfl I J h;refine⟨?_,fun e=>?_,?_⟩
 ·rw[run_equalIn_struct w 9999 t X Y (by rw[aF];exact hu) dT,aF];exact i1
 ·have:=i2 e;simpa using this
 ·simpa using i3
inductive mM (P:bj):gG->eb->Prop
 |i {t:eb} {k:IntKind}:P.underlying t=some (.int k)->mM P .i t
 |s {t:eb}:P.underlying t=some .string->mM P .s t
 |a {t:eb} {cq:List Bool} {gs:Array Field}:P.underlying t=some (.struct gs)->kv P 0 cq gs.toList->P.stoodInHeld t=false->mM P (.a cq) t
theorem yG{P:bj}{aR:List (Nat×cw)}(az:eD P aR=true){bo:gG}{t:Nat}(h:pv aR bo t=true):mM P bo t:=by
 cases bo with
 |i=>
  simp only[pv]at h;split at h
  ·rename_i aF;obtain⟨d,hu,aY⟩:=eS az aF;obtain rfl:=r0 aY;exact .i hu
  ·cases h
 |s=>
  simp only[pv]at h;split at h
  ·rename_i aF;obtain⟨d,hu,aY⟩:=eS az aF;obtain rfl:=nX aY;exact .s hu
  ·cases h
 |a cq=>obtain⟨gs,I,J,aj,_⟩:=Cw az h;exact .a I J aj
def l5(P:bj)(w:World)(bo:gG)(t:eb)(dv u:Value)(b:Bool):Prop:=match bo with
 | .a _=>(Op.equal t dv u).run P w= .ok b w
 |_=> ∀d,P.underlying t=some d->Instr.sameNow d dv u=some b
def e7(P:bj)(w:World)(bo:gG)(t:eb)(dv:Value)(es:List MapEntry)(i:Nat)(r:aW (Nat×Value)):Prop:=match bo with
 | .a _=>(Instr.findAsking t dv es i).run P w= .ok r w
 |_=> ∀d,P.underlying t=some d->Instr.findNow d dv es i=some r
theorem e7.nil(P:bj)(w:World)(bo:gG)(t:eb)(dv:Value)(i:Nat):e7 P w bo t dv [] i none:=by cases bo<;>simp[e7,Instr.findAsking,Instr.findNow]
theorem e7.hit{P:bj}{w:World}{bo:gG}{t:eb}{dv:Value}{e:MapEntry}{es:List MapEntry}{i:Nat}(h:l5 P w bo t dv e.key true):e7 P w bo t dv (e::es) i (some (i,e.val)):=by
 cases bo with
 |a cq=>simp only[l5]at h;simp[e7,Instr.findAsking,h]
 |i=>simp only[l5]at h;simp only[e7];intro d aY;simp[Instr.findNow,h d aY]
 |s=>simp only[l5]at h;simp only[e7];intro d aY;simp[Instr.findNow,h d aY]
theorem e7.miss{P:bj}{w:World}{bo:gG}{t:eb}{dv:Value}{e:MapEntry}{es:List MapEntry}{i:Nat}{r:aW (Nat×Value)}(h:l5 P w bo t dv e.key false)(hr:e7 P w bo t dv es (i+1) r):e7 P w bo t dv (e::es) i r:=by
 cases bo with
 |a cq=>simp only[l5]at h;simp only[e7]at hr;simp[e7,Instr.findAsking,h,hr]
 |i=>simp only[l5]at h;simp only[e7]at hr⊢;intro d aY;simp[Instr.findNow,h d aY,hr d aY]
 |s=>simp only[l5]at h;simp only[e7]at hr⊢;intro d aY;simp[Instr.findNow,h d aY,hr d aY]
theorem e7.run{P:bj}{w:World}{bo:gG}{t:eb}(aY:mM P bo t){dv:Value}{es:List MapEntry}{r:aW (Nat×Value)}(h:e7 P w bo t dv es 0 r):(Instr.findKey t dv es).run P w= .ok r w:=by
 cases aY with
 |i hu=>simp only[e7]at h;simp[Instr.findKey,run_underlying hu,h _ hu]
 |s hu=>simp only[e7]at h;simp[Instr.findKey,run_underlying hu,h _ hu]
 |a hu aG dT=>
  simp only[e7]at h;cases es with
  |nil=>simp[Instr.findAsking]at h;simp[Instr.findKey,run_underlying hu,Instr.findNow,h]
  |cons e es=>
   rename_i gs;have:Instr.sameNow (.struct gs) dv e.key=none:=by cases dv<;>rfl
   simp only[Instr.findKey,dk,run_underlying hu,dr,Instr.findNow,this];exact h
theorem D5{P:bj}{w:World}{ν:aA}{bo:gG}{t:eb}(aY:mM P bo t){k aT:ae}{dv u:Value}(U:aw w ν k dv)(I:aw w ν aT u){e1:Bool}(aa:qO bo k aT=some e1):
  l5 P w bo t dv u e1/\(e1=true->u=dv/\Instr.sameBits 10000 u dv=true):=by
 unfold qO at aa;split at aa
 ·split at aa
  ·rename_i hE;subst hE;simp only[aw]at U I;subst U;subst I;cases aY with
   |i hu=>refine⟨fun d aY=>by rw[hu]at aY;cases aY;simpa[Instr.sameNow]using aa,fun e=>?_⟩;subst e;simp only[cR,cI]at aa;subst aa;exact⟨rfl,by simp[Instr.sameBits]⟩
  ·cases aa
 ·rename_i a b;simp only[aw]at U I;obtain⟨rfl,_⟩:=U;obtain⟨rfl,_⟩:=I;cases aY with
  |s hu=>
   refine⟨fun d aY=>?_,fun e=>?_⟩
   ·rw[hu]at aY;cases aY;simp only[Instr.sameNow];rw[<-aa];congr 1;rw[Bool.eq_iff_iff,MapKept.bytes_beq];simp
   ·subst e;simp only[cR,cI]at aa;subst aa;exact⟨rfl,by simp only[Instr.sameBits];exact(MapKept.bytes_beq _ _).2 rfl⟩
 ·simp only[aw]at U I;obtain⟨X,rfl,U⟩:=U;obtain⟨Y,rfl,I⟩:=I;cases aY with
  |a hu aG dT=>obtain⟨i1,i2,i3⟩:=Cc hu aG dT U I aa;refine⟨by simpa[l5,Op.equal,Op.maxDepth]using i1,fun e=>?_⟩;have:=i2 e;subst this;exact⟨rfl,by simp[Instr.sameBits,i3]⟩
 ·cases aa
theorem yV{P:bj}{w:World}{ν:aA}{bo:gG}{t:eb}(aY:mM P bo t){k:ae}{dv:Value}(U:aw w ν k dv):∀(borns:List Nat) (kvs:List ae) (us:List Value) (i:Nat) (r:aW ae),bG w ν kvs us->kvs.length=2*borns.length->sX bo k kvs=some r->
  match r with
  |none=>e7 P w bo t dv (dF borns us) i none
  |some v=> ∃j u,e7 P w bo t dv (dF borns us) i (some (j,u))/\aw w ν v u
 |[],[],us,i,r,h,_,hm=>by simp only[sX]at hm;cases hm;simp only[bG]at h;subst h;simpa[dF]using e7.nil P w bo t dv i
 |[],_::_,_,_,_,_,ar,_=>by simp at ar
 |b::cJ,[],_,_,_,_,ar,_=>by simp at ar
 |b::cJ,[_],_,_,_,_,ar,_=>by simp at ar;omega
 |b::cJ,aT::v::kvs,us,i,r,h,ar,hm=>by
  simp only[bG]at h;obtain⟨fU,rz,rfl,I,fN,jY,rfl,J,aj⟩:=h;simp only[sX]at hm;simp only[dF];cases bD:qO bo k aT with
  |none=>simp[bD]at hm
  |some e1=>
   obtain⟨s1,_⟩:=D5 aY U I bD;simp only[bD]at hm;cases e1 with
   |true=>simp only[cR]at hm;subst hm;exact⟨i,fN,e7.hit (e:=⟨fU,fN,b⟩) s1,J⟩
   |false=>
    simp only at hm;have bz:=yV aY U cJ kvs jY (i+1) r aj (by simp at ar;omega) hm;cases r with
    |none=>exact e7.miss (e:=⟨fU,fN,b⟩) s1 bz
    |some v'=>obtain⟨j,u,g1,g2⟩:=bz;exact⟨j,u,e7.miss (e:=⟨fU,fN,b⟩) s1 g1,g2⟩
theorem wV{P:bj}{w:World}{t:Nat}{d:TypeDesc}(hu:P.underlying t=some d)(aY:(∃k,d= .int k)\/d= .string)(e:Bool)(n:Nat)(v:Value):(Instr.checkKey e (n+1) t v).run P w= .ok () w:=by unfold Instr.checkKey;rcases aY with⟨k,rfl⟩|rfl<;>simp[run_underlying hu]
theorem Kl{P:bj}{w:World}{ν:aA}{X:Array Value}(cq:List Bool):∀(gs:List Field) (n:Nat) (as:List ae),kv P n cq gs->bL w ν as (X.toList.drop n)->(gX cq as as).isSome=true->
  ∀f∈gs,(∃v,(part f.type X f.offset).run P w= .ok v w)/\∃d,P.underlying f.type=some d/\((∃k,d= .int k)\/d= .string):=by
 induction cq with
 |nil=>intro gs n as aG _ _ f aF;cases gs<;>simp only[kv]at aG;cases aF
 |cons oX r bz=>
  intro gs n as aG hr al f aF;cases gs with
  |nil=>cases aF
  |cons g gs=>
  simp only[kv]at aG;obtain⟨⟨uV,ph,hj⟩,aG⟩:=aG;cases as with
  |nil=>cases oX<;>simp[gX]at al
  |cons p as=>
  have jM:(gX r as as).isSome=true:=by cases oX<;>cases p<;>simp[gX]at al⊢ <;>exact al
  simp only[bL]at hr;obtain⟨u,a1,e,_,cn⟩:=hr;have aK:X.toList.drop (n+1)=a1:=by rw[<-List.tail_drop,e];rfl
  have s5:X[n]? =some u:=by rw[<-lZ,<-List.head?_drop,e];rfl
  rcases ft.1 aF with rfl|aF
  ·refine⟨⟨u,by rw[uV];exact run_part_plain w (s8 hj) s5⟩,?_⟩;cases oX
   ·obtain⟨k,h⟩:=(by simpa using hj:∃k,P.underlying f.type=some (.int k));exact⟨_,h,.inl ⟨k,rfl⟩⟩
   ·exact⟨_,by simpa using hj,.inr rfl⟩
  ·exact bz gs (n+1) as aG (by rw[aK];exact cn) jM f aF
theorem CC{P:bj}{w:World}{α:Type}(body:α->PUnit->Sem (ForInStep PUnit)):∀(l:List α),(∀f∈l,(body f ⟨⟩).run P w= .ok (.yield ⟨⟩) w)->(forIn l PUnit.unit body).run P w= .ok PUnit.unit w
 |[],_=>by simp
 |f::l,h=>by simp only[List.forIn_cons,dk,h f Ψ,dr];exact CC body l fun g aG=>h g (by simp[aG])
theorem zC{P:bj}{w:World}{ν:aA}{bo:gG}{t:Nat}(aY:mM P bo t)(e:Bool){k:ae}{v:Value}(U:aw w ν k v)(aM:vb bo k=true):(Instr.checkKey e 10000 t v).run P w= .ok () w:=by
 cases aY with
 |i hu=>exact wV hu (.inl ⟨_,rfl⟩) e 9999 v
 |s hu=>exact wV hu (.inr rfl) e 9999 v
 |a hu aG dT=>
  rename_i cq gs;cases k<;>simp only[vb,hO]at aM;rename_i as;simp only[aw]at U;obtain⟨X,rfl,U⟩:=U;unfold Instr.checkKey;simp only[dk,run_underlying hu,dr];rw[<-Array.forIn_toList];rw[CC]
  ·simp
  ·intro f aF;obtain⟨⟨v,I⟩,d,J,aj⟩:=Kl cq gs.toList 0 as aG (by simpa using U) aM f aF;have aO:=wV (w:=w) J aj e 9998 v;by_cases aU:f.name= "_"
   ·simp[aU]
   ·simp[aU,I,aO]
theorem En{w:World}{ν:aA}{n:Nat}:∀(borns:List Nat) (kvs:List ae) (us:List Value) (p:ae),bG w ν kvs us->lM n borns kvs=some p->∃e,(dF borns us).find? (·.born==n)=some e/\aw w ν p (.tuple #[e.key,e.val])
 |[],_,_,_,_,hm=>by simp[lM]at hm
 |_::_,[],_,_,_,hm=>by simp[lM]at hm
 |_::_,[_],_,_,_,hm=>by simp[lM]at hm
 |b::cJ,k::v::kvs,us,p,h,hm=>by
  simp only[bG]at h;obtain⟨fU,rz,rfl,I,fN,jY,rfl,J,aj⟩:=h;simp only[lM]at hm;simp only[dF];by_cases e:b=n
  ·rw[cX e]at hm;cases hm;refine⟨⟨fU,fN,b⟩,by simp[List.find?,e],?_⟩;simp only[aw];exact⟨#[fU,fN],rfl,by simp only[bG];exact⟨_,_,rfl,I,_,_,rfl,J,rfl⟩⟩
  ·rw[bT e]at hm;obtain⟨x,g1,g2⟩:=En cJ kvs jY p aj hm;have sn:(b==n)=false:=by simpa using e
   exact⟨x,by simp[List.find?,sn,g1],g2⟩
theorem Gj{P:bj}{aR:List (Nat×cw)}(az:eD P aR=true){C:c7}{st:aS}{a:Act}{w:World}{ν:aA}(hr:bH C st a w ν){i:dQ}(K6:∀bo z ok x k,i≠ .mgetB bo z ok x k){o:Oper}(ab:tC aR i o.op=true)
  {c:Prop} {p:ae} (he:eB st i=some (c,p)) (al:c):∃v,(execOp a.eval o).run P w= .ok (.value v) w/\aw w ν p v:=by
 obtain⟨dst,op,type,pos,after,guard⟩:=o;simp only at ab;unfold tC at ab;split at ab
 ·rename_i x o;simp only[eB]at he;cases he;exact⟨_,rfl,cF hr ab⟩
 ·rename_i x o;simp only[eB]at he;cases he;exact⟨_,rfl,cF hr ab⟩
 ·rename_i fe x y QF GI GM;simp only[bt]at ab;have I:=cF hr ab.1.1;have J:=cF hr ab.1.2;have aj:=cF hr ab.2;simp only[eB,vE]at he;split at he
  ·rename_i b aa;rw[aa]at I;simp only[aw]at I;split at he
   ·rename_i u v hu aH;cases he;rw[hu]at J;rw[aH]at aj;simp only[aw]at J aj;refine⟨.bool (cond b u v),?_,by simp[aw]⟩;simp only[execOp,I,J,aj,asBool,dk,dP,dr];cases b<;>rfl
   ·split at he
    ·cases he;exact⟨_,by simp only[execOp,I,asBool,dk,dP,dr,if_true],J⟩
    ·cases he;exact⟨_,by simp only[execOp,I,asBool,dk,dP,dr,hO,if_false],aj⟩
  ·cases he
 ·rename_i agg sz x t o;simp only[bt]at ab;obtain⟨I,J⟩:=ab;split at I
  ·rename_i f aF;simp only[bt,cI]at I;obtain⟨rfl,rfl⟩:=I;obtain⟨v,g1,g2⟩:=vi az hr.good aF (cF hr J) (by simpa only[eB]using he) al;exact⟨v,gD g1,g2⟩
  ·cases I
 ·rename_i off agg sz x s o i;simp only[bt]at ab;obtain⟨I,J⟩:=ab;split at I
  ·rename_i f aF;split at I
   ·rename_i oC t sq;simp only[bt,cI]at I;obtain⟨rfl,I⟩:=I;split at I
    ·rename_i g aG;simp only[bt,cI,bne_iff_ne,ne_eq]at I;obtain⟨⟨rfl,rfl⟩,ck⟩:=I;obtain⟨v,g1,g2⟩:=Kg az aF rfl sq aG ck (cF hr J) (by simpa only[eB]using he) al;exact⟨v,gD g1,g2⟩
    ·cases I
   ·cases I
  ·cases I
 ·rename_i off agg sz x s o i;simp only[bt]at ab;obtain⟨I,J⟩:=ab;split at I
  ·rename_i f aF;split at I
   ·rename_i oC t sq;simp only[bt,cI]at I;obtain⟨rfl,I⟩:=I;split at I
    ·rename_i g aG;simp only[bt,cI]at I;obtain⟨rfl,rfl⟩:=I;obtain⟨v,g1,g2⟩:=Km az aF rfl sq aG (cF hr J) (by simpa only[eB]using he) al;exact⟨v,gD g1,g2⟩
    ·cases I
   ·cases I
  ·cases I
 ·rename_i sz x i t o j;simp only[bt]at ab;obtain⟨⟨I,J⟩,aj⟩:=ab;split at I
  ·rename_i e aF;split at I
   ·rename_i g aG;simp only[cI]at I;subst I;obtain⟨v,g1,g2⟩:=MA az aF rfl aG (cF hr J) (cF hr aj) (by simpa only[eB]using he) al;exact⟨v,gD g1,g2⟩
   ·cases I
  ·cases I
 ·rename_i x i t o j;simp only[bt]at ab;obtain⟨⟨I,J⟩,aj⟩:=ab;split at I
  ·rename_i aF;obtain⟨d,aY,dj⟩:=eS az aF;obtain rfl:=nX dj;have ai:=cF hr J;have aK:=cF hr aj;simp only[eB,vZ]at he;split at he
   ·rename_i s k n af aU;cases he;rw[af]at ai;rw[aU]at aK;simp only[aw]at ai aK;obtain⟨La,kJ⟩:=al;have bS:n.toNat<s.length:=Ω
    have LC:(⟨s.toArray⟩:gT)[n.toNat]? =some (s.getD n.toNat 0):=by exact KQ s n.toNat bS
    refine⟨_,gD (v:= .int .u8 (s.getD n.toNat 0).toNat) ?_,by simp[aw]⟩;simp only[Instr.index,aK,asIntOf,ai.1,dk,dP,dr,run_underlying aY,La,if_true,LC]
   ·cases he
  ·cases I
 ·rename_i x lo aM t o l h;simp only[bt]at ab;obtain⟨⟨⟨I,J⟩,aj⟩,aO⟩:=ab;split at I
  ·rename_i aF;obtain⟨d,aY,dj⟩:=eS az aF;obtain rfl:=nX dj;have ai:=cF hr J;simp only[eB,wa]at he;split at he
   ·rename_i s af;rw[af]at ai;simp only[aw]at ai;split at he
    ·rename_i kk bP ar x1;cases he;obtain⟨cO,c2,c3⟩:=al;have cl:=vy hr aj ar;have cy:=vy hr aO x1;refine⟨_,gD (v:= .string ⟨((s.take bP.toNat).drop kk.toNat).toArray⟩) ?_,?_⟩
     ·have aa:=AQ P w false s.length s.length (l.map a.eval) (h.map a.eval) kk bP
       cl cy cO c2 c3 (dY _)
      simp only[Instr.sliceAt,Instr.slice,ai.1,dk,dP,dr,run_underlying aY,Option.map_none,Option.isSome_none,hO,if_false,tu,aa,Jr]
     ·simp only[aw];refine⟨trivial,?_⟩;have:=ai.2;simp only[List.length_drop,List.length_take];omega
    ·cases he
   ·cases he
  ·cases I
 ·rename_i sz x lo aM t o l h;simp only[bt]at ab;obtain⟨⟨⟨I,J⟩,aj⟩,aO⟩:=ab;split at I
  ·rename_i e aF;split at I
   ·rename_i g aG;simp only[cI]at I;subst I;obtain⟨d,aY,dj⟩:=eS az aF;obtain rfl:=kE dj;obtain⟨_,dt⟩:=nK az aG w;have ai:=cF hr J;simp only[eB,vj]at he;split at he
    ·rename_i cj tag xs af;split at he
     ·rename_i ds;subst ds;rw[af]at ai;simp only[aw]at ai;obtain⟨⟨hR,cap,aH,bJ,bQ,ey⟩,_⟩:=ai;split at he
      ·rename_i kk bP ar x1;cases he;obtain⟨cO,c2,c3⟩:=al;have cl:=vy hr aj ar;have cy:=vy hr aO x1;have aa:=AQ P w true xs.length cap (l.map a.eval) (h.map a.eval) kk bP
        cl cy cO c2 c3 bJ
       refine⟨_,gD (v:= .slice (if cap=kk.toNat then hR else hR.map (·.add (kk.toNat*g.size))) (bP.toNat-kk.toNat) (cap-kk.toNat)) ?_,?_⟩
       ·simp only[Instr.sliceAt,Instr.slice,aH,dk,dP,dr,run_underlying aY,Option.map_none,aa,dt]
       ·simp only[aw];have hlen:((xs.take bP.toNat).drop kk.toNat).length=bP.toNat-kk.toNat:=by simp;omega
        refine⟨⟨_,_,by rw[hlen],by rw[hlen];omega,⟨Ω,by rw[hlen];omega⟩,?_⟩,(fun h=>by cases h),(fun g h=>by cases h),(fun _ _ h=>by cases h),(fun _ h=>by cases h)⟩;rcases ey with rfl|⟨b,off,us,rfl,g1,g2⟩
        ·left;simp
        ·by_cases lz:cap=kk.toNat
         ·left;apply mJ;rw[hlen];omega
         ·right;rw[bT lz];refine⟨b,off+kk.toNat*g.size,(us.take (bP.toNat*g.size)).drop (kk.toNat*g.size),by simp[jg],vf _ (vg _ g1),FG _ (FJ _ g2)⟩
      ·cases he
     ·cases he
    ·cases he
   ·cases I
  ·cases I
 ·rename_i op wr x y EM ty o o' Gf;simp only[bt,eu]at ab;obtain⟨⟨rfl,I⟩,J⟩:=ab;obtain⟨r,g1,g2⟩:=Hw P w ν (by simpa only[eB]using he) al ty (cF hr I) (cF hr J) o o';exact⟨r,gD g1,g2⟩
 ·rename_i x op ty o;simp only[bt,eu]at ab;obtain⟨rfl,I⟩:=ab;have ai:=cF hr I;simp only[eB]at he;unfold vs at he;split at he
  ·rename_i b aa;cases he;rw[aa]at ai;simp only[aw]at ai;exact⟨_,gD (v:= .bool (!b)) (by simp[Op.unary,ai]),by simp[aw]⟩
  ·cases he
 ·rename_i x op ty o;simp only[bt,eu]at ab;obtain⟨rfl,I⟩:=ab;have ai:=cF hr I;simp only[eB]at he;unfold vo at he;split at he
  ·rename_i k n aa;cases he;rw[aa]at ai;simp only[aw]at ai;exact⟨_,gD (v:= .int k (k.wrap (0-n))) (by simp[Op.unary,ai,Op.intArith]),by simp[aw]⟩
  ·cases he
 ·rename_i k x s d o;simp only[bt]at ab;obtain⟨I,J⟩:=ab;split at I
  ·rename_i cl cy xT mq;simp only[eu]at I;subst I;obtain⟨d1,mo,xM⟩:=eS az xT;obtain rfl:=r0 xM;obtain⟨d2,qy,xN⟩:=eS az mq;obtain rfl:=r0 xN;have ai:=cF hr J;simp only[eB]at he;unfold tU at he;split at he
   ·rename_i aT n aa;cases he;rw[aa]at ai;simp only[aw]at ai;exact⟨_,gD (v:= .int k (k.wrap n)) (by simp[convert,ai,run_underlying mo,run_underlying qy,Conv.intToInt]),by simp[aw]⟩
   ·cases he
  ·cases I
 ·rename_i i x o j;simp only[bt,cI]at ab;obtain⟨rfl,I⟩:=ab;have ai:=cF hr I;simp only[eB]at he;unfold uf at he;split at he
  ·rename_i aV aa;simp only[hv]at he;obtain⟨q,bD,he⟩:=he;cases he;rw[aa]at ai;simp only[aw]at ai;obtain⟨us,hu,J⟩:=ai;obtain⟨v,g1,g2⟩:=vS i J bD;have Ku:us[i]? =some v:=by simpa using g1
   exact⟨v,gD (by simp[Instr.extract,hu,Ku]),g2⟩
  ·cases he
 ·rename_i x o t;simp only[bt]at ab;obtain⟨I,J⟩:=ab;have ai:=cF hr J;simp only[eB]at he;unfold qQ at he;split at he
  ·rename_i sz tag xs aa;cases he;rw[aa]at ai;simp only[aw]at ai;obtain⟨⟨hR,cap,aH,_⟩,_⟩:=ai;refine⟨.int .i64 xs.length,?_,by simp[aw]⟩;split at I
   ·rename_i aF;obtain⟨d,aY,dj⟩:=eS az aF;obtain rfl:=kE dj;simp[execOp,resolve,invoke,builtin,Builtin.len_,run_underlying aY,aH,goInt]
   ·cases I
  ·rename_i sz k n aa;cases he;rw[aa]at ai;simp only[aw]at ai;obtain⟨⟨hR,cap,aH⟩,_⟩:=ai;refine⟨.int .i64 n,?_,by simp[aw]⟩;split at I
   ·rename_i aF;obtain⟨d,aY,dj⟩:=eS az aF;obtain rfl:=kE dj;simp[execOp,resolve,invoke,builtin,Builtin.len_,run_underlying aY,aH,goInt]
   ·cases I
  ·rename_i hR n cap aa;cases he;rw[aa]at ai;simp only[aw]at ai;refine⟨.int .i64 n,?_,by simp[aw]⟩;split at I
   ·rename_i aF;obtain⟨d,aY,dj⟩:=eS az aF;obtain rfl:=kE dj;simp[execOp,resolve,invoke,builtin,Builtin.len_,run_underlying aY,ai,goInt]
   ·cases I
  ·cases he
 ·rename_i x o t;simp only[bt]at ab;obtain⟨I,J⟩:=ab;have ai:=cF hr J;simp only[eB]at he;unfold tv at he;split at he
  ·rename_i s aa;cases he;rw[aa]at ai;simp only[aw]at ai;refine⟨.int .i64 s.length,?_,by simp[aw]⟩;split at I
   ·rename_i aF;obtain⟨d,aY,dj⟩:=eS az aF;obtain rfl:=nX dj;simp[execOp,resolve,invoke,builtin,Builtin.len_,run_underlying aY,ai.1,goInt,tu]
   ·cases I
  ·rename_i s aa;cases he;rw[aa]at ai;simp only[aw]at ai;refine⟨.int .i64 s.size,?_,by simp[aw]⟩;split at I
   ·rename_i aF;obtain⟨d,aY,dj⟩:=eS az aF;obtain rfl:=nX dj;simp[execOp,resolve,invoke,builtin,Builtin.len_,run_underlying aY,ai,goInt]
   ·cases I
  ·cases he
 ·rename_i zero parts t a8;split at ab
  ·rename_i cq z aF;simp only[bt]at ab;obtain⟨⟨I,J⟩,aj⟩:=ab;have ed:=P3 I;obtain⟨i,d,P0,ai,aK,bu,cP,fX,gv,mf,j0⟩:=(mI az aF).ex;obtain⟨gs,rfl,gJ⟩:=wY fX;simp only at ed mf j0;subst ed;have j6:(gs.toList.all fun f=>(tf aR f.type).isSome)=true:=by rw[<-gJ]at J;simpa[List.all_map,Function.comp_def]using J
   obtain⟨places,gf,fA⟩:=EV az gs.toList j6;rw[gJ]at fA;cases P0<;>simp only[p1]at mf;case agg us=>
    simp only[eB]at he;cases aa:mQ st.t zero parts with
    |none=>simp[aa]at he
    |some x=>obtain⟨fe,cs'⟩:=x;simp only[aa,l2]at he;cases he;obtain⟨a1,g1,g2⟩:=FU hr fA parts a8.toList zero us c cs' aj (Ak w ν _ _ mf) aa al;refine⟨.agg a1,gD (run_build w t _ a1 ?_),by simp only[aw];exact⟨a1,rfl,g2⟩⟩;simp only[Program.built,ai,aK,gv,gf,h3];simpa using g1
   all_goals cases mf
  ·cases ab
 ·rename_i x o;have ai:=cF hr ab;simp only[eB]at he;unfold qY at he;split at he
  ·rename_i k off aa;cases he;rw[aa]at ai;have aK:=ai;simp only[aw]at ai;obtain⟨b,_,aH⟩:=ai;exact⟨a.eval o,by simp[execOp,aH],aK⟩
  ·rename_i q aa;cases he;rw[aa]at ai;have aK:=ai;simp only[aw]at ai;obtain⟨b,off,u,aH,_⟩:=ai;exact⟨a.eval o,by simp[execOp,aH],aK⟩
  ·rename_i f cs aa;cases he;rw[aa]at ai;have aK:=ai;simp only[aw]at ai;obtain⟨us,aH,_⟩:=ai;exact⟨a.eval o,by simp[execOp,aH],aK⟩
  ·cases he
 ·rename_i x y o o' t df;simp only[bt]at ab;have ai:=cF hr ab.1;have aK:=cF hr ab.2;simp only[eB]at he;unfold vm at he;split at he
  ·rename_i k m aT n hm aU;split at he
   ·rename_i U;subst U;cases he;rw[hm]at ai;rw[aU]at aK;simp only[aw]at ai aK;exact⟨.int k (if n<m then n else m),by simp[execOp,resolve,invoke,builtin,Builtin.min_,Builtin.min2,ai,aK],by simp[aw]⟩
   ·cases he
  ·cases he
 ·rename_i n xs m os;simp only[bt,cI]at ab;obtain⟨rfl,ab⟩:=ab;simp only[eB]at he;cases he;have ia:=rh hr ab;refine⟨.func (.func n) #[] (os.map a.eval),by simp[execOp,Instr.makeFunc],?_⟩;simp only[aw];exact⟨os.map a.eval,rfl,by simpa using ia⟩
 ·rename_i bo zero ok x k t o o' vt;simp only[bt,cI]at ab;obtain⟨⟨⟨rfl,I⟩,J⟩,aj⟩:=ab;have ai:=cF hr J;have aK:=cF hr aj;split at I
  ·rename_i sz hh e6 jK z aF;simp only[bt]at I;obtain⟨LI,xS⟩:=I;split at xS
   ·rename_i Q7 uH;have ed:=Am xS;obtain⟨ec,hu,dj⟩:=eS az aF;have kK:ec= .map e6 jK:=by cases ec<;>simp[hC]at dj;obtain⟨rfl,rfl⟩:=dj;rfl
    subst kK;obtain⟨bC,pZ,z2,_⟩:=zT az uH w;rw[<-ed]at z2;have ao:=(Al w ν z2).1;have hV:=yG az LI;simp only[eB]at he;unfold oy at he;split at he
    ·rename_i key ad;rw[ad]at ai;simp only[aw]at ai;obtain⟨bl,bJ,bQ⟩:=ai;split at he
     ·rename_i clock borns kvs fl;obtain⟨fb,us,el,g1,g2,g3,g4,g5⟩:=hr.good.box key _ fl;rw[bJ]at g1;cases g1;simp only[fq]at g4;simp only[eZ]at g5;have hF:(getObj bl).run P w= .ok (.map (dF borns us.toList).toArray clock) w:=nI g4;split at he
      ·cases he
      rename_i oa;have n8:=zC (P:=P) (w:=w) hV ((dF borns us.toList).toArray.isEmpty) aK (by simpa using oa);split at he
      ·rename_i v hm;cases he;obtain⟨j,u,f1,f2⟩:=yV hV aK borns kvs us.toList 0 _ g5.1 g5.2.len hm;refine⟨if ok then .tuple #[u,.bool true]else u,?_,?_⟩
       ·simp only[execOp];refine gD ?_;simp only[Instr.lookup,dk,run_underlying hu,dr,bQ,hF,dP,n8,f1.run hV]
       ·cases ok
        ·simpa using f2
        ·simp only[if_true,aw];exact⟨_,rfl,by simp only[bG];exact⟨_,_,rfl,f2,_,_,rfl,by simp[aw],rfl⟩⟩
      ·rename_i hm;cases he;have f1:=yV hV aK borns kvs us.toList 0 _ g5.1 g5.2.len hm;simp only at f1;refine⟨if ok then .tuple #[bC,.bool false]else bC,?_,?_⟩
       ·simp only[execOp];refine gD ?_;simp only[Instr.lookup,dk,run_underlying hu,dr,bQ,hF,dP,n8,f1.run hV,pZ]
       ·cases ok
        ·simpa using ao
        ·simp only[if_true,aw];exact⟨_,rfl,by simp only[bG];exact⟨_,_,rfl,ao,_,_,rfl,by simp[aw],rfl⟩⟩
      ·cases he
     ·cases he
    ·cases he
   ·cases xS
  ·cases I
 ·rename_i x o;have ai:=cF hr ab;simp only[eB]at he;unfold qU at he;split at he
  ·rename_i hn ad;rw[ad]at ai;simp only[aw]at ai;obtain⟨bl,bJ,bQ⟩:=ai;split at he
   ·rename_i since seen last mk fl;obtain⟨fb,us,el,g1,g2,g3,g4,g5⟩:=hr.good.box hn _ fl;rw[bJ]at g1;cases g1;simp only[fq]at g4;simp only[eZ,bG,aw]at g5;obtain⟨u,a1,mv,⟨kl,m1,rfl⟩,rfl⟩:=g5;rw[mv]at g4;simp only at g4;split at he
    ·rename_i clock borns kvs LP;obtain⟨QD,jY,QZ,cl,cy,gy,np,kR⟩:=hr.good.box mk _ LP;rw[m1]at cl;cases cl;simp only[fq]at np;simp only[eZ]at kR;split at he
     ·rename_i n aU;simp only[hv]at he;obtain⟨q,bD,he⟩:=he;cases he;obtain⟨e,f1,f2⟩:=En borns kvs jY.toList p kR.1 bD;refine⟨.tuple #[e.key,e.val],?_,f2⟩;simp only[execOp];refine gD ?_;have Ly:(getObj bl).run P w= .ok (.mapIter (some kl) since seen.toArray last) w:=nI g4;have Lz:(getObj kl).run P w= .ok (.map (dF borns jY.toList).toArray clock) w:=nI np;have xH:seen.toArray.back? =some n:=by simpa using aU
      have qw:(clock !=last)=false:=by simp[al]
      have Lq:(dF borns jY.toList).toArray.find? (·.born==n)=some e:=by simpa using f1
      simp only[Instr.entry,bQ,dk,Ly,dr,xH,Lz,qw,hO,if_false,Lq,dP]
     ·cases he
    ·cases he
   ·cases he
  ·cases he
 ·rename_i x o t;simp only[bt]at ab;obtain⟨I,J⟩:=ab;have ai:=cF hr J;simp only[eB]at he;unfold qV at he;split at he
  ·rename_i key aa;rw[aa]at ai;simp only[aw]at ai;obtain⟨bl,bJ,bQ⟩:=ai;split at he
   ·rename_i clock borns kvs fl;cases he;obtain⟨fb,us,el,g1,g2,g3,g4,g5⟩:=hr.good.box key _ fl;rw[bJ]at g1;cases g1;simp only[fq]at g4;simp only[eZ]at g5;have hF:(getObj bl).run P w= .ok (.map (dF borns us.toList).toArray clock) w:=nI g4;have hlen:(dF borns us.toList).length=borns.length:=Ca g5.2.len (FO g5.1);refine⟨.int .i64 borns.length,?_,by simp[aw]⟩;split at I
    ·rename_i aF;obtain⟨d,aY,dj⟩:=eS az aF;obtain⟨e6,jK,rfl⟩:∃e6 jK,d= .map e6 jK:=by cases d<;>simp[hC]at dj;exact⟨_,_,rfl⟩
     simp[execOp,resolve,invoke,builtin,Builtin.len_,run_underlying aY,bQ,goInt,hF,hlen]
    ·cases I
   ·cases he
  ·cases he
 ·rename_i neg cq x y op t o o' Gf;simp only[bt,eu]at ab;obtain⟨⟨⟨rfl,ck⟩,I⟩,J⟩:=ab;have ai:=cF hr I;have aK:=cF hr J;simp only[eB]at he;unfold tL at he;split at he
  ·rename_i ca dL bE aa;simp only at ck;cases he;rw[bE]at ai;rw[aa]at aK;simp only[aw]at ai aK;split at ck
   ·rename_i aF;obtain⟨d,aY,dj⟩:=eS az aF;obtain rfl:d= .bool:=by cases d<;>simp[hC]at dj;rfl
    refine⟨.bool (if neg then ca !=dL else ca==dL),gD ?_,by simp[aw]⟩;cases neg<;>simp[ai,aK,eqGuard,binOp,Ix aY,bne]
   ·cases ck
  ·rename_i Rc as cJ bE aa;simp only at ck;simp only[hv]at he;obtain⟨q,bD,he⟩:=he;cases he;rw[bE]at ai;rw[aa]at aK;simp only[aw]at ai aK;obtain⟨X,Ir,OQ⟩:=ai;obtain⟨Y,Is,OR⟩:=aK;obtain⟨gs,hu,aG,dT,fw⟩:=Cw az ck;obtain⟨i1,_,_⟩:=Cc hu aG dT OQ OR bD;refine⟨.bool (if neg then !q else q),gD ?_,by simp[aw]⟩;rw[Ir,Is];cases neg
   ·simp only[hO,if_false,dk,run_eqGuard_agg w _ t o o' X Y fw,dr,run_eql_struct,i1]
   ·simp only[if_true,dk,run_eqGuard_agg w _ t o o' X Y fw,dr,run_neq_struct,i1]
  ·cases he
 ·rename_i x y o o' t df;simp only[bt]at ab;have ai:=cF hr ab.1;have aK:=cF hr ab.2;simp only[eB]at he;unfold vl at he;split at he
  ·rename_i k m aT n hm aU;split at he
   ·rename_i U;subst U;cases he;rw[hm]at ai;rw[aU]at aK;simp only[aw]at ai aK;exact⟨.int k (if m<n then n else m),by simp[execOp,resolve,invoke,builtin,Builtin.max_,Builtin.max2,ai,aK],by simp[aw]⟩
   ·cases he
  ·cases he
 ·rename_i t x df o;simp only[bt,cI]at ab;obtain⟨⟨rfl,I⟩,J⟩:=ab;have ai:=cF hr J;simp only[eB]at he;cases he;split at I
  ·rename_i aF;obtain⟨d,aY,dj⟩:=eS az aF;obtain rfl:=kE dj;refine⟨.iface t (a.eval o),gD (by simp[Instr.makeInterface,run_underlying aY]),?_⟩;simp only[aw];exact⟨_,rfl,ai⟩
  ·cases I
 ·rename_i agg sz x t o;simp only[bt]at ab;obtain⟨I,J⟩:=ab;split at I
  ·rename_i f aF;simp only[bt,cI]at I;obtain⟨rfl,rfl⟩:=I;obtain⟨v,g1,g2⟩:=vi az hr.good aF (cF hr J) (M8 (by simpa only[eB]using he)) al;exact⟨v,gD g1,g2⟩
  ·cases I
 ·rename_i x s d o;simp only[bt]at ab;obtain⟨I,J⟩:=ab;split at I
  ·rename_i e _ _ xT mq;split at I
   ·rename_i Lp;obtain⟨d1,mo,xM⟩:=eS az xT;obtain rfl:=kE xM;obtain⟨d2,qy,xN⟩:=eS az mq;obtain rfl:=nX xN;obtain⟨d3,Li,Lk⟩:=eS az Lp;obtain rfl:=r0 Lk;have ai:=cF hr J;simp only[eB]at he;unfold tJ at he;split at he
    ·rename_i sz tag xs aa;simp only[hv]at he;obtain⟨cJ,iP,he⟩:=he;cases he;rw[aa]at ai;simp only[aw]at ai;obtain⟨⟨hR,cap,bY,cz,dV,cY⟩,_⟩:=ai;have ar:=AZ iP;have ad:∃ns:List Int,ns.length=xs.length/\cJ=ns.map qe/\(xs.length=0\/ ∃b off,hR=some ⟨b,off,none⟩/\gP w ν.A b off (ns.map (kt .u8))):=by
      rcases cY with rfl|⟨b,off,us,gf,fA,s4⟩
      ·simp only[jH,cR]at iP;exact⟨[],rfl,by rw[<-iP];rfl,.inl rfl⟩
      ·obtain⟨ns,dX,fD,iW⟩:=A0 iP s4;subst dX;exact⟨ns,by simpa using iW,fD,.inr ⟨b,off,gf,fA⟩⟩
     obtain⟨ns,eN,rfl,fJ⟩:=ad;refine⟨_,gD (v:= .string ⟨(ns.map qe).toArray⟩) ?_,by simp only[aw];exact⟨trivial,by rw[ar];exact dV.2⟩⟩;rw[bY];simp only[convert,dk,run_underlying mo,run_underlying qy,dr];simp only[run_underlying Li,dk,dr,Hs eN fJ]
    ·cases he
   ·cases I
  ·cases I
 ·rename_i neg x op t o Gf;simp only[bt,eu]at ab;obtain⟨⟨rfl,ck⟩,I⟩:=ab;have ai:=cF hr I;split at ck
  ·rename_i aF;obtain⟨d,aY,dj⟩:=eS az aF;obtain⟨ms,rfl⟩:∃ms,d= .interface ms:=by cases d<;>simp[hC]at dj;exact⟨_,rfl⟩
   simp only[eB]at he;unfold va at he;split at he
   ·rename_i SV q bD;cases he;rw[bD]at ai;simp only[aw]at ai;obtain⟨u,ai,_⟩:=ai;refine⟨.bool neg,gD ?_,by simp[aw]⟩;rw[show a.eval (.const .nilIface)= .nilIface from rfl,ai];cases neg<;>simp[eqGuard,binOp,(ub (w:=w) aY).1,(ub (w:=w) aY).2]
   ·rename_i bD;cases he;rw[bD]at ai;simp only[aw]at ai;refine⟨.bool (!neg),gD ?_,by simp[aw]⟩;rw[show a.eval (.const .nilIface)= .nilIface from rfl,ai];cases neg<;>simp[eqGuard,binOp,(ub (w:=w) aY).1,(ub (w:=w) aY).2]
   ·cases he
  ·cases ck
 ·rename_i agg sz x t o;simp only[bt]at ab;obtain⟨I,J⟩:=ab;split at I
  ·rename_i f aF;simp only[bt,cI]at I;obtain⟨rfl,rfl⟩:=I;obtain⟨v,g1,g2⟩:=vi az hr.good aF (cF hr J) (Kq (by simpa only[eB]using he)) al;exact⟨v,gD g1,g2⟩
  ·cases I
 ·exact absurd rfl (K6 _ _ _ _ _)
 ·cases ab
theorem PB{P:bj}{aR:List (Nat×cw)}(az:eD P aR=true){C:c7}{st:aS}{a:Act}{w:World}{ν:aA}(hr:bH C st a w ν){i:dQ}{o:Oper}(ab:tC aR i o.op=true)
  {c:Prop} {p:ae} (he:eB st i=some (c,p)) (al:c):∃v,(execOp a.eval o).run P w= .ok (.value v) w/\aw w ν p v:=by
 by_cases aa:∃bo z ok x k,i= .mgetB bo z ok x k
 ·obtain⟨bo,z,ok,x,k,rfl⟩:=aa;refine Gj az hr (i:= .mget bo z ok x k) (fun _ _ _ _ _ e=>by cases e) ?_ he al;obtain⟨dst,op,type,pos,after,guard⟩:=o;cases op<;>first|exact ab|simp[tC]at ab
 ·exact Gj az hr (fun bo z ok x k e=>aa ⟨bo,z,ok,x,k,e⟩) ab he al
theorem BV{w:World}{o:Obj}{b i:Nat}(h:b<w.heap.size):(w.alloc o).cell? ⟨b,i,none⟩=w.cell? ⟨b,i,none⟩:=World.cell?_of_block (Below.heap_alloc w o b h)
def aA.withBox(ν:aA)(k:av)(bl:Nat):aA:={ν with bx:=fun j=>if j=k then some bl else ν.bx j}
def aA.withOwn(ν:aA)(k:av)(n:Nat)(v:Value):aA:={ν with ow:=fun j=>if j=k then some (n,v)else ν.ow j}
theorem bH.lookNone{C:c7}{st:aS}{a:Act}{w:World}{ν:aA}(h:bH C st a w ν){k:av}(U:fresh st.n st.o k):look k st.b=none/\look k st.e=none:=by
 obtain⟨I,J,_⟩:=h.new k U;constructor
 ·cases aa:look k st.b with
  |none=>rfl
  |some cs=>obtain⟨bl,us,el,g1,_⟩:=h.good.box _ _ aa;rw[I]at g1;cases g1
 ·cases aa:look k st.e with
  |none=>rfl
  |some o=>obtain⟨v,us,g1,_⟩:=h.good.own _ _ aa;rw[J]at g1;cases g1
theorem Good.ownLt{pr:Nat->Prop}{w:World}{ν:aA}{b:List (av×List ae)}{e:List (av×cC)}(h:Good pr w ν b e){g:av}{o:cC}(aG:look g e=some o){n:Nat}{v:Value}(aH:ν.ow g=some (n,v)){bl:Nat}(aa:v.ownBlock=some bl):bl<w.heap.size:=by obtain⟨v',us,g1,g2,_⟩:=h.own g o aG;rw[aH]at g1;cases g1;exact(g2.lt bl aa).2
theorem Good.boxLt{pr:Nat->Prop}{w:World}{ν:aA}{b:List (av×List ae)}{e:List (av×cC)}(h:Good pr w ν b e){k:av}{cs:List ae}(U:look k b=some cs){bl:Nat}(aa:ν.bx k=some bl):bl<w.heap.size:=by obtain⟨fb,us,el,g1,_,_,g4,_⟩:=h.box k cs U;rw[aa]at g1;cases g1;exact(Array.getElem?_eq_some_iff.1 g4).1
theorem bH.newBox{C:c7}{st:aS}{a:Act}{w:World}{ν:aA}(h:bH C st a w ν){hX:av}(LH:ν.bx hX=none/\ν.ow hX=none/\∀j b,¬ν.tr hX j b){n':Nat}{o':List av}(gL:∀j,fresh n' o' j->fresh st.n st.o j/\j≠hX){cs:List ae}{us:Array Value}(el:wu hX)(al:eZ w ν cs us.toList):
  bH C {st with b:=bV hX cs st.b,n:=n',o:=o'} a (w.alloc (fq cs us el.1)) (ν.withBox hX w.heap.size)/\
  aw (w.alloc (fq cs us el.1)) (ν.withBox hX w.heap.size) (.ptr hX 0) (.pointer (some ⟨w.heap.size,0,none⟩)):=by
 obtain⟨LW,LX,LY⟩:=LH;have ab:hP w ν (w.alloc (fq cs us el.1)) (ν.withBox hX w.heap.size):=by
  refine⟨fun b o aQ=>⟨aQ,BV (h.good.alt b o aQ)⟩,fun k b _ U=>?_,fun g n u _ aG=>⟨n,u,aG,.inl ⟨rfl,rfl⟩⟩,fun b o aQ=>pR (Below.heap_alloc w _ b (h.good.alt b o aQ)),fun _ _ _ _ h=>h⟩;have:k≠hX:=fun e=>by subst e;rw[LW]at U;cases U
  simp[aA.withBox,this,U]
 have dt:(w.alloc (fq cs us el.1)).heap.size=w.heap.size+1:=by simp
 have gk:∀k,(look k (bV hX cs st.b)).isSome->k=hX\/(k≠hX/\(look k st.b).isSome/\(ν.withBox hX w.heap.size).bx k=ν.bx k):=by
  intro k U;by_cases e:k=hX
  ·exact .inl e
  ·rw[gb,bT (Ne.symm e)]at U;exact .inr ⟨e,U,by simp[aA.withBox,e]⟩
 refine⟨h.over ab rfl ⟨fun bl o aQ=>by rw[dt];have:=h.good.alt bl o aQ;omega,fun k cx U=>?_,fun k aT bl U e5 ai aK=>?_,fun g o aG=>?_,h.good.oinj,fun g k n v bl aG U aH aa ad=>?_,fun k=>?_,fun bl aa k j az=>?_⟩
  ⟨h.fr.os,h.fr.tape,h.fr.output,by rw[dt];have:=h.fr.size;omega,fun k U hm=>?_,fun b o aQ=>?_,h.fr.fresh,fun n b aa=>?_,h.fr.obn,h.fr.row,h.fr.obr,h.fr.trd,fun k j b aa=>⟨(h.fr.trb k j b aa).1,by rw[dt];have:=(h.fr.trb k j b aa).2;omega⟩,fun k j b aa=>?_,fun b o aQ=>(ab.sh b o (h.fr.keep b o aQ).1).trans (h.fr.sh b o aQ),h.fr.nrow⟩ (fun m hm=>?_) (fun m hm=>(gL m hm).1),?_⟩
 ·simp only at U;rw[gb]at U;by_cases e:hX=k
  ·rw[cX e]at U;cases U;subst e;refine⟨w.heap.size,us,el,by simp[aA.withBox],.inr h.fr.size,fun o aQ=>?_,heap_alloc_new w _,jU ab al⟩;have:=h.good.alt _ o aQ;omega
  ·rw[bT e]at U;obtain⟨bl,a1,dc,g1,g2,g3,g4,g5⟩:=h.good.box k cx U;exact⟨bl,a1,dc,ab.bx _ _ trivial g1,g2,g3,by rw[Below.heap_alloc w _ bl (Array.getElem?_eq_some_iff.1 g4).1];exact g4,jU ab g5⟩
 ·rcases gk k U with rfl|⟨eN,dU,fJ⟩<;>rcases gk aT e5 with rfl|⟨m1,m2,m3⟩
  ·rfl
  ·exfalso;simp only[aA.withBox,if_true,cR]at ai;subst ai;rw[m3]at aK;obtain⟨cx,e4⟩:=dK.1 m2;have:=h.good.boxLt e4 aK;omega
  ·exfalso;simp only[aA.withBox,if_true,cR]at aK;subst aK;rw[fJ]at ai;obtain⟨cx,e4⟩:=dK.1 dU;have:=h.good.boxLt e4 ai;omega
  ·rw[fJ]at ai;rw[m3]at aK;exact h.good.inj k aT bl dU m2 ai aK
 ·obtain⟨v,xs,g1,g2,g3,g4⟩:=h.good.own g o aG;exact⟨v,xs,g1,g2.alloc _,g3,k0 ab (fun _ _ _ h=>h) g4⟩
 ·rcases gk k U with rfl|⟨eN,dU,fJ⟩
  ·simp only[aA.withBox,if_true,cR]at ad;subst ad;obtain⟨o,eX⟩:=dK.1 aG;have:=h.good.ownLt eX aH aa;omega
  ·rw[fJ]at ad;exact h.good.obx g k n v bl aG dU aH aa ad
 ·by_cases e:k=hX
  ·subst e;exact .inr LX
  ·rcases h.good.one k with I|I
   ·exact .inl (by simp[aA.withBox,e,I])
   ·exact .inr I
 ·rcases aa with⟨aT,bk,a2⟩|aa
  ·rcases gk aT bk with rfl|⟨eN,dU,fJ⟩
   ·simp[aA.withBox]at a2;subst a2;exact absurd (h.fr.trb k j _ az).2 (Nat.lt_irrefl _)
   ·exact h.good.otr bl (.inl ⟨aT,dU,by rw[<-fJ];exact a2⟩) k j az
  ·exact h.good.otr bl (.inr aa) k j az
 ·rw[Below.heap_alloc w _ k (by have:=h.fr.size;omega)];exact h.fr.block k U hm
 ·obtain⟨cl,cy⟩:=h.fr.keep b o aQ;exact⟨cl,(BV (h.good.alt b o cl)).trans cy⟩
 ·exact ab.bx _ _ trivial (h.fr.obj n b aa)
 ·have cD:k≠hX:=fun e=>by subst e;exact LY j b aa
  obtain⟨t1,t2⟩:=h.fr.trn k j b aa;exact⟨by simp[aA.withBox,cD,t1],t2⟩
 ·obtain⟨f1,f2⟩:=gL m hm;obtain⟨cl,cy⟩:=h.new m f1;refine⟨?_,cy⟩;simp[aA.withBox,f2,cl]
 ·simp[aw,aA.withBox]
theorem bH.setBox{C:c7}{st:aS}{a:Act}{w w':World}{ν:aA}(h:bH C st a w ν){k:av}{cs cs':List ae}(U:look k st.b=some cs){bl:Nat}(aa:ν.bx k=some bl){us:Array Value}{el:wu k}
  (og:w'.os=w.os) (sJ:w'.tape=w.tape) (lD:w'.output=w.output) (gM:∀j,j≠bl->w'.heap[j]? =w.heap[j]?) (dt:w'.heap.size=w.heap.size) (hG:w'.heap[bl]? =some (fq cs' us el.1)) (al:eZ w ν cs' us.toList):
  bH C {st with b:=bV k cs' st.b} a w' ν/\hP w ν w' ν:=by
 obtain⟨fb,db,QY,g1,g2,g3,g4,g5⟩:=h.good.box k cs U;rw[aa]at g1;cases g1;have ab:hP w ν w' ν:=by
  refine⟨fun b o aQ=>⟨aQ,World.cell?_of_block (gM b fun e=>?_)⟩,fun _ _ _ h=>h,fun g n u _ aG=>⟨n,u,aG,.inl ⟨rfl,rfl⟩⟩,fun b o aQ=>pR (gM b fun e=>?_),fun _ _ _ _ h=>h⟩<;>
  (subst e;exact g3 o aQ)
 have n9:∀j,(look j (bV k cs' st.b)).isSome->(look j st.b).isSome:=by
  intro j aC;rw[gb]at aC;by_cases e:k=j
  ·subst e;simp[U]
  ·rwa[bT e]at aC
 refine⟨h.over ab rfl ⟨fun b o aQ=>by rw[dt];exact h.good.alt b o aQ,fun j cx aC=>?_,fun j dn b aC iQ=>h.good.inj j dn b (n9 j aC) (n9 dn iQ),fun g o aG=>?_,h.good.oinj,fun g j n v b aG aC=>h.good.obx g j n v b aG (n9 j aC),h.good.one,fun bl aa=>h.good.otr bl (aa.imp (fun⟨k,I,J⟩=>⟨k,n9 k I,J⟩) id)⟩
  ⟨og.trans h.fr.os,sJ.trans h.fr.tape,lD.trans h.fr.output,by rw[dt];exact h.fr.size,fun j aC hm=>?_,fun b o aQ=>?_,h.fr.fresh,h.fr.obj,h.fr.obn,h.fr.row,h.fr.obr,h.fr.trd,fun k j b aa=>⟨(h.fr.trb k j b aa).1,by rw[dt];exact(h.fr.trb k j b aa).2⟩,h.fr.trn,fun b o aQ=>(ab.sh b o (h.fr.keep b o aQ).1).trans (h.fr.sh b o aQ),h.fr.nrow⟩ h.new,ab⟩
 ·simp only at aC;rw[gb]at aC;by_cases e:k=j
  ·rw[cX e]at aC;cases aC;subst e;exact⟨bl,us,el,aa,g2,g3,hG,jU ab al⟩
  ·rw[bT e]at aC;obtain⟨b,a1,dc,ai,aK,bu,cP,fX⟩:=h.good.box j cx aC;refine⟨b,a1,dc,ai,aK,bu,?_,jU ab fX⟩;rw[gM b fun fS=>e (h.good.inj k j bl (by simp[U]) (by simp[aC]) aa (by rw[<-fS];exact ai))];exact cP
 ·obtain⟨v,xs,ai,aK,bu,cP⟩:=h.good.own g o aG;refine⟨v,xs,ai,⟨aK.1,?_⟩,bu,k0 ab (fun _ _ _ h=>h) cP⟩;rcases aK.2 with aK|⟨e1,cap,cur,f1,f2,f3,f4⟩
  ·exact .inl aK
  ·refine .inr ⟨e1,cap,cur,f1,f2,?_,f4⟩;rw[gM e1 fun fS=>h.good.obx g k o.n v bl (by simp[aG]) (by simp[U]) ai (by rw[f1,<-fS];rfl) aa];exact f3
 ·rw[gM j fun e=>by subst e;exact g2.elim hm (fun g2=>Ω)];exact h.fr.block j aC hm
 ·obtain⟨cl,cy⟩:=h.fr.keep b o aQ;exact⟨cl,(ab.A b o cl).2.trans cy⟩
theorem bH.storeBox{C:c7}{st:aS}{a:Act}{w:World}{ν:aA}(h:bH C st a w ν){k:av}{cs cs':List ae}(U:look k st.b=some cs){bl:Nat}(aa:ν.bx k=some bl)(be:fB cs=true){us:Array Value}(al:bL w ν cs' us.toList):
  bH C {st with b:=bV k cs' st.b} a (w.setRow bl us) ν:=by
 obtain⟨fb,db,el,g1,g2,g3,g4,g5⟩:=h.good.box k cs U;rw[aa]at g1;cases g1;rw[kn be]at g4;have qG:=pL al;exact(h.setBox (w':=w.setRow bl us) U aa (us:=us) (el:=el) rfl rfl rfl (fun j aC=>setRow_other w bl j us aC) (setRow_size w bl us) (by rw[kn qG];exact setRow_heap w bl db us el.1 _ g4) (by rw[jT qG];exact al)).1
def aA.withRowOf(ν:aA)(k:av)(v:Value)(n cells:Nat):aA:={A:=fun b o=>ν.A b o\/(v.ownBlock=some b/\o<cells),bx:=ν.bx,ow:=fun j=>if j=k then some (n,v)else ν.ow j,tr:=ν.tr}
theorem pw{w:World}{A:Nat->Nat->Prop}{b:Nat}:∀(us:List Value) (off:Nat),(∀j u,us[j]? =some u->A b (off+j)/\w.cell? ⟨b,off+j,none⟩=some u)->gP w A b off us
 |[],_,_=>trivial
 |u::us,off,h=>⟨h 0 u rfl,pw us (off+1) fun j x aC=>by have:=h (j+1) x (by simpa using aC);rwa[show off+(j+1)=off+1+j from by omega]at this⟩
theorem BW{w w':World}(aG:w.grownBy w' none){b i:Nat}(h:b<w.heap.size):w'.cell? ⟨b,i,none⟩=w.cell? ⟨b,i,none⟩:=World.cell?_of_block (aG.block b h Ψ)
theorem bH.newRowM{C:c7}{st:aS}{a:Act}{w w':World}{ν:aA}(h:bH C st a w ν){k:av}{xs:List ae}(U:(ν.bx k=none/\ν.ow k=none/\∀j b,¬ν.tr k j b)\/ ∃o,look k st.e=some o/\o.n<xs.length){el sz:Nat}{v:Value}{us:List Value}
  (aG:w.grownBy w' none) (gN:w'.ownsRow w.heap.size el sz v xs.length us) (al:bN w ν sz xs us) (jq:xs.length<=bF) {n':Nat} {o':List av} (gL:∀j,fresh n' o' j->fresh st.n st.o j/\j≠k):
  bH C {st with e:=bV k ⟨xs.length,el,sz,some xs⟩ st.e,n:=n',o:=o'} a w' (ν.withOwn k xs.length v)/\
  ((∃b cap,v= .slice (some ⟨b,0,none⟩) xs.length cap)->aw w' (ν.withOwn k xs.length v) (.row sz k xs.length) v):=by
 have hU:∀bl,v.ownBlock=some bl->w.heap.size<=bl/\bl<w'.heap.size:=fun bl aa=>gN.lt bl aa;have ab:hP w ν w' (ν.withOwn k xs.length v):=by
  refine⟨fun b o aQ=>⟨aQ,BW aG (h.good.alt b o aQ)⟩,fun j b _ aC=>aC,fun g n u _ fw=>?_,fun b o aQ=>pR (aG.block b (h.good.alt b o aQ) Ψ),fun _ _ _ _ h=>h⟩;by_cases e:g=k
  ·subst e;rcases U with U|⟨o,ab,bS⟩
   ·rw[U.2.1]at fw;cases fw
   ·obtain⟨v0,db,ai,_⟩:=h.good.own g o ab;rw[ai]at fw;cases fw;exact⟨xs.length,v,by simp[aA.withOwn],.inr bS⟩
  ·exact⟨n,u,by simp[aA.withOwn,e,fw],.inl ⟨rfl,rfl⟩⟩
 have gK:∀g,(look g (bV k ⟨xs.length,el,sz,some xs⟩ st.e)).isSome->g=k\/(g≠k/\(look g st.e).isSome/\(ν.withOwn k xs.length v).ow g=ν.ow g):=by
  intro g gJ;by_cases e:g=k
  ·exact .inl e
  ·rw[gb,bT (Ne.symm e)]at gJ;exact .inr ⟨e,gJ,by simp[aA.withOwn,e]⟩
 have uT:∀bl,v.ownBlock=some bl->∀j,¬ν.A bl j:=fun bl aa j aQ=>by have I:=h.good.alt bl j aQ;have:=(hU bl aa).1;omega
 have L3:∀j b,¬ν.tr k j b:=fun j b aa=>by
  rcases U with U|⟨o,eX,_⟩
  ·exact U.2.2 j b aa
  ·obtain⟨v0,db,ai,_⟩:=h.good.own k o eX;rw[(h.fr.trn k j b aa).2]at ai;cases ai
 refine⟨h.over ab rfl ⟨fun bl o aQ=>?_,fun j cx aC=>?_,h.good.inj,fun g o di=>?_,fun g dh n n' u dq bl I J aj aO bs da=>?_,fun g j n u bl I J aj aO bs=>?_,fun j=>?_,fun bl aa aT j az=>?_⟩
  ⟨aG.os.trans h.fr.os,aG.tape.trans h.fr.tape,aG.output.trans h.fr.output,Nat.le_trans h.fr.size aG.size,fun j aC hm=>?_,fun b o aQ=>?_,h.fr.fresh,h.fr.obj,h.fr.obn,fun m n u hm=>ts (h.fr.row m n u hm) (fun n u=>ab.ow _ n u trivial),h.fr.obr,h.fr.trd,fun k j b aa=>⟨(h.fr.trb k j b aa).1,Nat.lt_of_lt_of_le (h.fr.trb k j b aa).2 aG.size⟩,fun aT j b aa=>?_,fun b o aQ=>(ab.sh b o (h.fr.keep b o aQ).1).trans (h.fr.sh b o aQ),fun j n u b ai aK=>?_⟩ (fun m hm=>?_) (fun m hm=>(gL m hm).1),?_⟩
 ·have:=h.good.alt bl o aQ;have:=aG.size;omega
 ·obtain⟨bl,a1,dc,g1,g2,g3,g4,g5⟩:=h.good.box j cx aC;have bS:=(Array.getElem?_eq_some_iff.1 g4).1;exact⟨bl,a1,dc,g1,g2,g3,by rw[aG.block bl bS Ψ];exact g4,jU ab g5⟩
 ·simp only at di;rw[gb]at di;by_cases e:k=g
  ·rw[cX e]at di;cases di;subst e;refine⟨v,us,by simp[aA.withOwn],⟨gN.1,?_⟩,fun bl aa=>⟨.inr (Nat.le_trans h.fr.size (hU bl aa).1),fun j aQ=>absurd aQ (uT bl aa j)⟩,fun ys b6=>?_⟩
   ·rcases gN.2 with ai|⟨e1,cap,cur,f1,f2,f3⟩
    ·exact .inl ai
    ·exact .inr ⟨e1,cap,cur,f1,Ω,f3⟩
   ·simp only[cR]at b6;subst b6;exact⟨rfl,rb ab al,uT⟩
  ·rw[bT e]at di;obtain⟨v0,db,ai,aK,bu,cP⟩:=h.good.own g o di;exact⟨v0,db,by simp[aA.withOwn,Ne.symm e,ai],aK.kept aG (by cases v0.ownBlock<;>simp),bu,k0 ab (fun _ _ _ h=>h) cP⟩
 ·rcases gK g I with rfl|⟨eN,dU,fJ⟩<;>rcases gK dh J with rfl|⟨m1,m2,m3⟩
  ·rfl
  ·exfalso;simp only[aA.withOwn,if_true,cR,fQ]at aj;rw[m3]at aO;obtain⟨o,eX⟩:=dK.1 m2;have ar:=h.good.ownLt eX aO da;have:=(hU bl (by rw[aj.2];exact bs)).1;omega
  ·exfalso;simp only[aA.withOwn,if_true,cR,fQ]at aO;rw[fJ]at aj;obtain⟨o,eX⟩:=dK.1 dU;have ar:=h.good.ownLt eX aj bs;have:=(hU bl (by rw[aO.2];exact da)).1;omega
  ·rw[fJ]at aj;rw[m3]at aO;exact h.good.oinj g dh n n' u dq bl dU m2 aj aO bs da
 ·rcases gK g I with rfl|⟨eN,dU,fJ⟩
  ·simp only[aA.withOwn,if_true,cR,fQ]at aj;obtain⟨cx,e4⟩:=dK.1 J;have ar:=h.good.boxLt e4 bs;have:=(hU bl (by rw[aj.2];exact aO)).1;omega
  ·rw[fJ]at aj;exact h.good.obx g j n u bl dU J aj aO bs
 ·by_cases e:j=k
  ·subst e;rcases U with U|⟨o,eX,_⟩
   ·exact .inl U.1
   ·obtain⟨v0,db,ai,_⟩:=h.good.own j o eX;rcases h.good.one j with I|I
    ·exact .inl I
    ·rw[I]at ai;cases ai
  ·rcases h.good.one j with I|I
   ·exact .inl I
   ·exact .inr (by simp[aA.withOwn,e,I])
 ·rcases aa with aa|⟨g,n,u,bk,a2,a3⟩
  ·exact h.good.otr bl (.inl aa) aT j az
  ·rcases gK g bk with rfl|⟨eN,dU,fJ⟩
   ·simp only[aA.withOwn,if_true,cR,fQ]at a2;have I:=(hU bl (by rw[a2.2];exact a3)).1;have J:=(h.fr.trb aT j _ az).2;omega
   ·exact h.good.otr bl (.inr ⟨g,n,u,dU,by rw[<-fJ];exact a2,a3⟩) aT j az
 ·rw[aG.block j (by have:=h.fr.size;omega) Ψ];exact h.fr.block j aC hm
 ·obtain⟨cl,cy⟩:=h.fr.keep b o aQ;exact⟨cl,(ab.A b o cl).2.trans cy⟩
 ·have cD:aT≠k:=fun e=>by subst e;exact L3 j b aa
  obtain⟨t1,t2⟩:=h.fr.trn aT j b aa;exact⟨t1,by simp[aA.withOwn,cD,t2]⟩
 ·by_cases e:av.loc j=k
  ·subst e;simp only[aA.withOwn,if_true,cR,fQ]at ai;exact Nat.le_trans h.fr.size (hU b (by rw[ai.2];exact aK)).1
  ·simp only[aA.withOwn,bT e]at ai;exact h.fr.nrow j n u b ai aK
 ·obtain⟨f1,f2⟩:=gL m hm;obtain⟨cl,cy,gy⟩:=h.new m f1;refine⟨cl,?_,gy⟩;simp[aA.withOwn,f2,cy]
 ·intro xX;simp only[aw];exact⟨xX,jq,xs.length,v,by simp[aA.withOwn],dY _,fun _=>rfl⟩
theorem bH.publish{C:c7}{st:aS}{a:Act}{w:World}{ν:aA}(h:bH C st a w ν){k:av}{o:cC}{xs:List ae}(U:look k st.e=some o)(ad:o.xs=some xs){v:Value}(aH:ν.ow k=some (o.n,v))(jq:xs.length<=bF):
  bH C {st with e:=bV k ⟨o.n,o.el,o.sz,none⟩ st.e} a w (ν.withRowOf k v o.n (o.n*o.sz))/\
  aw w (ν.withRowOf k v o.n (o.n*o.sz)) (.slice o.sz (.own k) xs) v:=by
 obtain⟨v0,us,bY,cz,dV,cY⟩:=h.good.own k o U;rw[aH]at bY;cases bY;obtain⟨cc,hM,lQ⟩:=cY xs ad;have ic:∀g,(ν.withRowOf k v o.n (o.n*o.sz)).ow g=ν.ow g:=fun g=>by
  simp only[aA.withRowOf];split
  ·rename_i e;subst e;exact aH.symm
  ·rfl
 have ab:hP w ν w (ν.withRowOf k v o.n (o.n*o.sz)):=⟨fun b o aQ=>⟨.inl aQ,rfl⟩,fun j b _ aC=>aC,fun g n u _ fw=>⟨n,u,by rw[ic];exact fw,.inl ⟨rfl,rfl⟩⟩,fun _ _ _=>rfl,fun _ _ _ _ h=>h⟩
 have gK:∀g,(look g (bV k ⟨o.n,o.el,o.sz,none⟩ st.e)).isSome->(look g st.e).isSome:=by
  intro g gJ;by_cases e:k=g
  ·subst e;simp[U]
  ·rwa[gb,bT e]at gJ
 refine⟨h.over ab rfl ⟨fun bl i aQ=>?_,fun j cx aC=>?_,h.good.inj,fun g o' di=>?_,fun g dh n n' u dq bl I J aj aO=>h.good.oinj g dh n n' u dq bl (gK g I) (gK dh J) (by rwa[ic]at aj) (by rwa[ic]at aO),fun g j n u bl I J aj=>h.good.obx g j n u bl (gK g I) J (by rwa[ic]at aj),fun j=>?_,fun bl aa=>h.good.otr bl (aa.imp id (fun⟨g,n,v,bk,a2,a3⟩=>⟨g,n,v,gK g bk,by rwa[ic]at a2,a3⟩))⟩
  ⟨h.fr.os,h.fr.tape,h.fr.output,h.fr.size,h.fr.block,fun b i aQ=>⟨.inl (h.fr.keep b i aQ).1,(h.fr.keep b i aQ).2⟩,fun b i aQ=>?_,h.fr.obj,h.fr.obn,fun m n u hm=>ts (h.fr.row m n u hm) (fun n u=>ab.ow _ n u trivial),h.fr.obr,h.fr.trd,h.fr.trb,fun aT j b aa=>⟨(h.fr.trn aT j b aa).1,by rw[ic];exact(h.fr.trn aT j b aa).2⟩,h.fr.sh,fun j n u b ai aK=>h.fr.nrow j n u b (by rw[<-ic];exact ai) aK⟩ (fun m hm=>?_),?_⟩
 ·rcases aQ with aQ|⟨aQ,_⟩
  ·exact h.good.alt bl i aQ
  ·exact(cz.lt bl aQ).2
 ·obtain⟨bl,a1,dc,g1,g2,g3,g4,g5⟩:=h.good.box j cx aC;refine⟨bl,a1,dc,g1,g2,fun i aQ=>?_,g4,jU ab g5⟩;rcases aQ with aQ|⟨aQ,_⟩
  ·exact g3 i aQ
  ·exact h.good.obx k j o.n v bl (by simp[U]) (by simp[aC]) aH aQ g1
 ·simp only at di;rw[gb]at di;by_cases e:k=g
  ·rw[cX e]at di;cases di;subst e;refine⟨v,us,by rw[ic];exact aH,cz,fun bl aa=>⟨(dV bl aa).1,fun j aQ=>?_⟩,fun ys b6=>by cases b6⟩;rcases aQ with aQ|⟨_,aQ⟩
   ·exact(dV bl aa).2 j aQ
   ·exact aQ
  ·rw[bT e]at di;obtain⟨v0,db,ai,aK,bu,cP⟩:=h.good.own g o' di;have n5:∀bl,v0.ownBlock=some bl->∀j,(ν.withRowOf k v o.n (o.n*o.sz)).A bl j->ν.A bl j:=fun bl aa j aQ=>by
    rcases aQ with aQ|⟨aQ,_⟩
    ·exact aQ
    ·exact absurd (h.good.oinj k g o.n o'.n v v0 bl (by simp[U]) (by simp[di]) aH ai aQ aa) e
   exact⟨v0,db,by rw[ic];exact ai,aK,fun bl aa=>⟨(bu bl aa).1,fun j aQ=>(bu bl aa).2 j (n5 bl aa j aQ)⟩,k0 ab n5 cP⟩
 ·rcases h.good.one j with I|I
  ·exact .inl I
  ·exact .inr (by rw[ic];exact I)
 ·rcases aQ with aQ|⟨aQ,_⟩
  ·exact h.fr.fresh b i aQ
  ·exact .inr (dV b aQ).1
 ·obtain⟨cl,cy,gy⟩:=h.new m hm;exact⟨cl,by rw[ic];exact cy,gy⟩
 ·simp only[aw];refine⟨?_,fun e=>(by cases e),fun g e=>?_,fun _ _ e=>(by cases e),fun _ e=>(by cases e)⟩
  ·rcases cz.2 with⟨ai,aK⟩|⟨e1,cap,cur,f1,f2,f3,f4,f5,f6,f7⟩
   ·refine⟨none,0,by rw[ai,cc,aK],Ω,⟨by simp[maxLen],jq⟩,.inl (mJ Ω)⟩
   ·refine⟨some ⟨e1,0,none⟩,cap,by rw[f1,cc],Ω,⟨f5,jq⟩,.inr ⟨e1,0,us,rfl,pw us 0 fun j u aC=>?_,rb ab hM⟩⟩;have fZ:v.ownBlock=some e1:=by rw[f1];rfl
    have nl:j<us.length:=(fG.1 aC).1;refine⟨.inr ⟨fZ,by rw[cz.1]at nl;omega⟩,?_⟩;have:=cz.cells fZ j u aC;rwa[jg]at this
  ·cases e;exact⟨o.n,v,by rw[ic];exact aH,Ω,fun _=>rfl⟩
theorem Gh{α:Type}(k:av)(p q:α):∀l,bV k q (bV k p l)=bV k q l
 |[]=>by simp[bV]
 |(i,r)::l=>by
  by_cases e:i=k
  ·simp[bV,e]
  ·simp[bV,e,Gh k p q l]
theorem bH.newRow{C:c7}{st:aS}{a:Act}{w w':World}{ν:aA}(h:bH C st a w ν){k:av}{xs:List ae}(U:(ν.bx k=none/\ν.ow k=none/\∀j b,¬ν.tr k j b)\/ ∃o,look k st.e=some o/\o.n<xs.length){el sz:Nat}{v:Value}{us:List Value}
  (aG:w.grownBy w' none) (gN:w'.ownsRow w.heap.size el sz v xs.length us) (al:bN w ν sz xs us) (jq:xs.length<=bF) {n':Nat} {o':List av} (gL:∀j,fresh n' o' j->fresh st.n st.o j/\j≠k):
  bH C {st with e:=bV k ⟨xs.length,el,sz,none⟩ st.e,n:=n',o:=o'} a w' ((ν.withOwn k xs.length v).withRowOf k v xs.length (xs.length*sz))/\
  aw w' ((ν.withOwn k xs.length v).withRowOf k v xs.length (xs.length*sz)) (.slice sz (.own k) xs) v:=by
 have I:=(h.newRowM U aG gN al jq gL).1;have J:=I.publish (k:=k) (o:=⟨xs.length,el,sz,some xs⟩) (xs:=xs) (v:=v) (by simp[gb]) rfl (by simp[aA.withOwn]) jq;simpa only[Gh]using J
theorem bH.setRowM{C:c7}{st:aS}{a:Act}{w w':World}{ν:aA}(h:bH C st a w ν){k:av}{o:cC}{xs xs':List ae}(U:look k st.e=some o)(ad:o.xs=some xs){bl:Nat}{v v':Value}(aH:ν.ow k=some (o.n,v))(fZ:v.ownBlock=some bl)(sM:v'.ownBlock=some bl)
  (aU:(xs'.length=o.n/\v'=v)\/o.n<xs'.length) {us:List Value} (og:w'.os=w.os) (sJ:w'.tape=w.tape) (lD:w'.output=w.output) (gM:∀j,j≠bl->w'.heap[j]? =w.heap[j]?) (dt:w'.heap.size=w.heap.size)
  (gN:w'.ownsRow 0 o.el o.sz v' xs'.length us) (al:bN w ν o.sz xs' us):
  bH C {st with e:=bV k ⟨xs'.length,o.el,o.sz,some xs'⟩ st.e} a w' (ν.withOwn k xs'.length v')/\hP w ν w' (ν.withOwn k xs'.length v')/\(xs'.length<=bF->aw w' (ν.withOwn k xs'.length v') (.row o.sz k xs'.length) v'):=by
 obtain⟨v0,db,bY,cz,dV,cY⟩:=h.good.own k o U;rw[aH]at bY;cases bY;obtain⟨cc,hM,lQ⟩:=cY xs ad;have ab:hP w ν w' (ν.withOwn k xs'.length v'):=by
  refine⟨fun b i aQ=>⟨aQ,World.cell?_of_block (gM b fun e=>by subst e;exact lQ b fZ i aQ)⟩,fun j b _ aC=>aC,fun g n u _ fw=>?_,fun b i aQ=>pR (gM b fun e=>by subst e;exact lQ b fZ i aQ),fun _ _ _ _ h=>h⟩;by_cases e:g=k
  ·subst e;rw[aH]at fw;cases fw;refine⟨xs'.length,v',by simp[aA.withOwn],?_⟩;rcases aU with⟨I,J⟩|I
   ·exact .inl ⟨I,J⟩
   ·exact .inr I
  ·exact⟨n,u,by simp[aA.withOwn,e,fw],.inl ⟨rfl,rfl⟩⟩
 have gK:∀g n u,(look g (bV k ⟨xs'.length,o.el,o.sz,some xs'⟩ st.e)).isSome->(ν.withOwn k xs'.length v').ow g=some (n,u)->∀b,u.ownBlock=some b->(look g st.e).isSome/\∃n u,ν.ow g=some (n,u)/\u.ownBlock=some b:=by
  intro g n u gJ fw b aa;by_cases e:g=k
  ·subst e;simp only[aA.withOwn,if_true,cR,fQ]at fw;rw[<-fw.2,sM]at aa;cases aa;exact⟨by simp[U],o.n,v,aH,fZ⟩
  ·rw[gb,bT (Ne.symm e)]at gJ;simp only[aA.withOwn,e,if_false]at fw;exact⟨gJ,n,u,fw,aa⟩
 refine⟨h.over ab rfl ⟨fun b i aQ=>by rw[dt];exact h.good.alt b i aQ,fun j cx aC=>?_,h.good.inj,fun g o' di=>?_,fun g dh n n' u dq b I J aj aO bs da=>?_,fun g j n u b I J aj aO bs=>?_,fun j=>?_,fun b aa=>h.good.otr b (aa.imp id (fun⟨g,n,v,bk,a2,a3⟩=>by obtain⟨bJ,eN,fU,bQ,ey⟩:=gK g n v bk a2 b a3;exact⟨g,eN,fU,bJ,bQ,ey⟩))⟩
  ⟨og.trans h.fr.os,sJ.trans h.fr.tape,lD.trans h.fr.output,by rw[dt];exact h.fr.size,fun j aC hm=>?_,fun b i aQ=>?_,h.fr.fresh,h.fr.obj,h.fr.obn,fun m n u hm=>ts (h.fr.row m n u hm) (fun n u=>ab.ow _ n u trivial),h.fr.obr,h.fr.trd,fun k j b aa=>⟨(h.fr.trb k j b aa).1,by rw[dt];exact(h.fr.trb k j b aa).2⟩,fun aT j b aa=>?_,fun b o aQ=>(ab.sh b o (h.fr.keep b o aQ).1).trans (h.fr.sh b o aQ),fun j n u b ai aK=>(by
   by_cases e:av.loc j=k
   ·subst e;simp only[aA.withOwn,if_true,cR,fQ]at ai;rw[<-ai.2,sM]at aK;cases aK;exact h.fr.nrow j o.n v bl aH fZ
   ·simp only[aA.withOwn,bT e]at ai;exact h.fr.nrow j n u b ai aK)⟩ (fun m hm=>?_),ab,?_⟩
 ·obtain⟨b,a1,dc,g1,g2,g3,g4,g5⟩:=h.good.box j cx aC;have cD:b≠bl:=fun e=>h.good.obx k j o.n _ bl (by simp[U]) (by simp[aC]) aH fZ (by rw[<-e];exact g1);exact⟨b,a1,dc,g1,g2,g3,by rw[gM b cD];exact g4,jU ab g5⟩
 ·simp only at di;rw[gb]at di;by_cases e:k=g
  ·rw[cX e]at di;cases di;subst e;refine⟨v',us,by simp[aA.withOwn],gN,fun b aa=>?_,fun ys b6=>?_⟩
   ·rw[sM]at aa;cases aa;exact⟨(dV bl fZ).1,fun j aQ=>absurd aQ (lQ bl fZ j)⟩
   ·simp only[cR]at b6;subst b6;exact⟨rfl,rb ab al,fun b aa=>by rw[sM]at aa;cases aa;exact lQ bl fZ⟩
  ·rw[bT e]at di;obtain⟨v0,db,ai,aK,bu,cP⟩:=h.good.own g o' di;have cD:∀b,v0.ownBlock=some b->b≠bl:=fun b aa w7=>e (h.good.oinj k g o.n o'.n _ v0 bl (by simp[U]) (by simp[di]) aH ai fZ (by rw[<-w7];exact aa));refine⟨v0,db,by simp[aA.withOwn,Ne.symm e,ai],⟨aK.1,?_⟩,bu,k0 ab (fun _ _ _ h=>h) cP⟩;rcases aK.2 with aK|⟨e1,nU,h5,f1,f2,f3,f4⟩
   ·exact .inl aK
   ·exact .inr ⟨e1,nU,h5,f1,f2,by rw[gM e1 (cD e1 (by rw[f1];rfl))];exact f3,f4⟩
 ·obtain⟨bk,eN,fU,a2,a3⟩:=gK g n u I aj b bs;obtain⟨bJ,dU,fN,bQ,ey⟩:=gK dh n' dq J aO b da;exact h.good.oinj g dh eN dU fU fN b bk bJ a2 bQ a3 ey
 ·obtain⟨bk,eN,fU,a2,a3⟩:=gK g n u I aj b aO;exact h.good.obx g j eN fU b bk J a2 a3 bs
 ·by_cases e:j=k
  ·subst e;rcases h.good.one j with I|I
   ·exact .inl I
   ·rw[I]at aH;cases aH
  ·rcases h.good.one j with I|I
   ·exact .inl I
   ·exact .inr (by simp[aA.withOwn,e,I])
 ·rw[gM j fun e=>by subst e;exact(dV j fZ).1.elim hm (fun g2=>Ω)];exact h.fr.block j aC hm
 ·obtain⟨cl,cy⟩:=h.fr.keep b i aQ;exact⟨cl,(ab.A b i cl).2.trans cy⟩
 ·obtain⟨t1,t2⟩:=h.fr.trn aT j b aa;have cD:aT≠k:=fun e=>by subst e;rw[t2]at aH;cases aH
  exact⟨t1,by simp[aA.withOwn,cD,t2]⟩
 ·obtain⟨cl,cy,gy⟩:=h.new m hm;refine⟨cl,?_,gy⟩;have:m≠k:=fun e=>by subst e;rw[cy]at aH;cases aH
  simp[aA.withOwn,this,cy]
 ·intro jq;simp only[aw];obtain⟨cap,xX⟩:=EN gN sM;exact⟨⟨bl,cap,xX⟩,jq,xs'.length,v',by simp[aA.withOwn],dY _,fun _=>rfl⟩
theorem bH.inPlace{C:c7}{st:aS}{a:Act}{w:World}{ν:aA}(h:bH C st a w ν){k:av}{o:cC}(U:look k st.e=some o){bl cap:Nat}{cur:Array Value}(aH:ν.ow k=some (o.n,.slice (some ⟨bl,0,none⟩) o.n cap))
  (o6:w.heap[bl]? =some (.cells cur o.el (0,0))) (lz:cap<=maxLen) (dt:cur.size=cap*o.sz) {xs ys:List ae} {us ns:List Value} (kg:xs.length=o.n) (mv:cur.toList.take (o.n*o.sz)=us) (al:bN w ν o.sz xs us) (xI:bN w ν o.sz ys ns)
  (gO:0<ys.length) (iT:o.n+ys.length<=cap) (jq:xs.length+ys.length<=bF):
  bH C {st with e:=bV k ⟨o.n+ys.length,o.el,o.sz,none⟩ st.e} a (w.setRow bl (us++ns++cur.toList.drop (o.n*o.sz+ns.length)).toArray)
   (ν.withRowOf k (.slice (some ⟨bl,0,none⟩) (o.n+ys.length) cap) (o.n+ys.length) ((o.n+ys.length)*o.sz))/\
  aw (w.setRow bl (us++ns++cur.toList.drop (o.n*o.sz+ns.length)).toArray) (ν.withRowOf k (.slice (some ⟨bl,0,none⟩) (o.n+ys.length) cap) (o.n+ys.length) ((o.n+ys.length)*o.sz))
   (.slice o.sz (.own k) (xs++ys)) (.slice (some ⟨bl,0,none⟩) (o.n+ys.length) cap):=by
 have hH:=kZ xI;have lG:=kZ al;rw[kg]at lG;have hmul:(o.n+ys.length)*o.sz<=cap*o.sz:=l1 _ iT;rw[Nat.add_mul]at hmul;obtain⟨v0,db,bY,cz,dV,_⟩:=h.good.own k o U;rw[aH]at bY;cases bY;obtain⟨cY,cc⟩:=dV bl rfl;generalize om:w.setRow bl (us++ns++cur.toList.drop (o.n*o.sz+ns.length)).toArray=w';have gM:∀j,j≠bl->w'.heap[j]? =w.heap[j]?:=fun j aC=>by rw[<-om];exact setRow_other w bl j _ aC
 have hG:w'.heap[bl]? =some (.cells (us++ns++cur.toList.drop (o.n*o.sz+ns.length)).toArray o.el (0,0)):=by rw[<-om];exact setRow_heap w bl cur _ o.el _ o6
 have yh:w'.heap.size=w.heap.size:=by rw[<-om];exact setRow_size w bl _
 have hD:∀j,j<o.n*o.sz->w'.cell? ⟨bl,j,none⟩=w.cell? ⟨bl,j,none⟩:=by intro j aC;simp only[World.cell?,hG,o6,Option.isSome_none,hO,if_false];rw[List.getElem?_toArray,jb,lg Ω,<-mv,List.getElem?_take,cX aC];simp
 have ab:hP w ν w' (ν.withRowOf k (.slice (some ⟨bl,0,none⟩) (o.n+ys.length) cap) (o.n+ys.length) ((o.n+ys.length)*o.sz)):=by
  refine⟨fun b j aQ=>⟨.inl aQ,?_⟩,fun j b _ aC=>aC,fun g n u _ fw=>?_,fun b j aQ=>?_,fun _ _ _ _ h=>h⟩;rotate_left 2
  ·by_cases e:b=bl
   ·subst e;simp only[shape,hG,o6,lj,e0,List.length_drop,Array.length_toList];congr 2;omega
   ·exact pR (gM b e)
  ·by_cases e:b=bl
   ·subst e;exact hD j (cc j aQ)
   ·exact World.cell?_of_block (gM b e)
  ·by_cases e:g=k
   ·subst e;rw[aH]at fw;cases fw;exact⟨o.n+ys.length,.slice (some ⟨bl,0,none⟩) (o.n+ys.length) cap,by simp[aA.withRowOf],.inr Ω⟩
   ·exact⟨n,u,by simp[aA.withRowOf,e,fw],.inl ⟨rfl,rfl⟩⟩
 have gK:∀g,(look g (bV k ⟨o.n+ys.length,o.el,o.sz,none⟩ st.e)).isSome->g=k\/(g≠k/\(look g st.e).isSome/\(ν.withRowOf k (.slice (some ⟨bl,0,none⟩) (o.n+ys.length) cap) (o.n+ys.length) ((o.n+ys.length)*o.sz)).ow g=ν.ow g):=by
  intro g gJ;by_cases e:g=k
  ·exact .inl e
  ·rw[gb,bT (Ne.symm e)]at gJ;exact .inr ⟨e,gJ,by simp[aA.withRowOf,e]⟩
 have C8:bl<w.heap.size:=(Array.getElem?_eq_some_iff.1 o6).1;have sp:∀j u,(us++ns)[j]? =some u->w'.cell? ⟨bl,j,none⟩=some u:=by intro j u aC;have nl:=(fG.1 aC).1;simp only[World.cell?,hG,Option.isSome_none,hO,if_false];rw[List.getElem?_toArray,lg nl];exact aC
 refine⟨h.over ab rfl ⟨fun b j aQ=>?_,fun j cx aC=>?_,h.good.inj,fun g o' di=>?_,fun g dh n n' u dq b I J aj aO bs da=>?_,fun g j n u b I J aj aO bs=>?_,fun j=>?_,fun b aa=>h.good.otr b ?_⟩
  ⟨by rw[<-om];exact h.fr.os,by rw[<-om];exact h.fr.tape,by rw[<-om];exact h.fr.output,by rw[yh];exact h.fr.size,fun j aC hm=>?_,fun b j aQ=>?_,fun b j aQ=>?_,h.fr.obj,h.fr.obn,fun m n u hm=>ts (h.fr.row m n u hm) (fun n u=>ab.ow _ n u trivial),h.fr.obr,h.fr.trd,fun k j b aa=>⟨(h.fr.trb k j b aa).1,by rw[yh];exact(h.fr.trb k j b aa).2⟩,fun aT j b aa=>?_,fun b o aQ=>(ab.sh b o (h.fr.keep b o aQ).1).trans (h.fr.sh b o aQ),fun j n u b ai aK=>(by
   by_cases e:av.loc j=k
   ·subst e;simp only[aA.withRowOf,if_true,cR,fQ]at ai;rw[<-ai.2]at aK;have bu:b=bl:=by simpa[iK]using aK.symm
    subst bu;exact h.fr.nrow j _ _ b aH rfl
   ·simp only[aA.withRowOf,bT e]at ai;exact h.fr.nrow j n u b ai aK)⟩ (fun m hm=>?_),?_⟩
 ·rw[yh];rcases aQ with aQ|⟨aQ,_⟩
  ·exact h.good.alt b j aQ
  ·simp only[iK,cR]at aQ;omega
 ·obtain⟨b,a1,dc,g1,g2,g3,g4,g5⟩:=h.good.box j cx aC;have cD:b≠bl:=fun e=>h.good.obx k j o.n _ bl (by simp[U]) (by simp[aC]) aH rfl (by rw[<-e];exact g1);refine⟨b,a1,dc,g1,g2,fun i aQ=>?_,by rw[gM b cD];exact g4,jU ab g5⟩;rcases aQ with aQ|⟨aQ,_⟩
  ·exact g3 i aQ
  ·simp only[iK,cR]at aQ;exact cD aQ.symm
 ·simp only at di;rw[gb]at di;by_cases e:k=g
  ·rw[cX e]at di;cases di;subst e;refine⟨.slice (some ⟨bl,0,none⟩) (o.n+ys.length) cap,us++ns,by simp[aA.withRowOf],⟨by rw[e0,lG,hH,Nat.add_mul],.inr ⟨bl,cap,_,rfl,Nat.zero_le _,hG,iT,lz,?_,?_⟩⟩,fun b aa=>⟨?_,fun j aQ=>?_⟩,fun ys b6=>by cases b6⟩
   ·simp only[lj,e0,List.length_drop,Array.length_toList];omega
   ·have ar:(us++ns).length=(o.n+ys.length)*o.sz:=by rw[e0,lG,hH,Nat.add_mul]
    simp only[<-ar];rw[List.take_append_of_le_length (dY _),List.take_length]
   ·simp only[iK,cR]at aa;subst aa;exact cY
   ·simp only[iK,cR]at aa;subst aa;rcases aQ with aQ|⟨_,aQ⟩
    ·have:=cc j aQ;simp only;rw[Nat.add_mul];omega
    ·exact aQ
  ·rw[bT e]at di;obtain⟨v0,db,ai,aK,bu,cP⟩:=h.good.own g o' di;have cD:∀b,v0.ownBlock=some b->b≠bl:=fun b aa w7=>e (h.good.oinj k g o.n o'.n _ v0 bl (by simp[U]) (by simp[di]) aH ai rfl (by rw[<-w7];exact aa));have n5:∀b,v0.ownBlock=some b->∀j,(ν.withRowOf k (.slice (some ⟨bl,0,none⟩) (o.n+ys.length) cap) (o.n+ys.length) ((o.n+ys.length)*o.sz)).A b j->ν.A b j:=fun b aa j aQ=>by
    rcases aQ with aQ|⟨aQ,_⟩
    ·exact aQ
    ·simp only[iK,cR]at aQ;exact absurd aQ.symm (cD b aa)
   refine⟨v0,db,by simp[aA.withRowOf,Ne.symm e,ai],⟨aK.1,?_⟩,fun b aa=>⟨(bu b aa).1,fun j aQ=>(bu b aa).2 j (n5 b aa j aQ)⟩,k0 ab n5 cP⟩;rcases aK.2 with aK|⟨e1,nU,h5,f1,f2,f3,f4⟩
   ·exact .inl aK
   ·exact .inr ⟨e1,nU,h5,f1,f2,by rw[gM e1 (cD e1 (by rw[f1];rfl))];exact f3,f4⟩
 ·rcases gK g I with rfl|⟨eN,dU,fJ⟩<;>rcases gK dh J with rfl|⟨m1,m2,m3⟩
  ·rfl
  ·exfalso;simp only[aA.withRowOf,if_true,cR,fQ]at aj;rw[m3]at aO;rw[<-aj.2]at bs;simp only[iK,cR]at bs;subst bs;exact m1 (h.good.oinj dh g n' o.n dq _ bl m2 (by simp[U]) aO aH da rfl)
  ·exfalso;simp only[aA.withRowOf,if_true,cR,fQ]at aO;rw[fJ]at aj;rw[<-aO.2]at da;simp only[iK,cR]at da;subst da;exact eN (h.good.oinj g dh n o.n u _ bl dU (by simp[U]) aj aH bs rfl)
  ·rw[fJ]at aj;rw[m3]at aO;exact h.good.oinj g dh n n' u dq b dU m2 aj aO bs da
 ·rcases gK g I with rfl|⟨eN,dU,fJ⟩
  ·simp only[aA.withRowOf,if_true,cR,fQ]at aj;rw[<-aj.2]at aO;simp only[iK,cR]at aO;subst aO;exact h.good.obx g j o.n _ bl (by simp[U]) J aH rfl bs
  ·rw[fJ]at aj;exact h.good.obx g j n u b dU J aj aO bs
 ·by_cases e:j=k
  ·subst e;rcases h.good.one j with I|I
   ·exact .inl I
   ·rw[I]at aH;cases aH
  ·rcases h.good.one j with I|I
   ·exact .inl I
   ·exact .inr (by simp[aA.withRowOf,e,I])
 ·rcases aa with aa|⟨g,n,u,bk,a2,a3⟩
  ·exact .inl aa
  ·rcases gK g bk with rfl|⟨eN,dU,fJ⟩
   ·simp only[aA.withRowOf,if_true,cR,fQ]at a2;rw[<-a2.2]at a3;exact .inr ⟨g,_,_,by simp[U],aH,a3⟩
   ·exact .inr ⟨g,n,u,dU,by rw[<-fJ];exact a2,a3⟩
 ·rw[gM j fun e=>by subst e;exact cY.elim hm (fun g2=>Ω)];exact h.fr.block j aC hm
 ·obtain⟨cl,cy⟩:=h.fr.keep b j aQ;exact⟨.inl cl,(ab.A b j cl).2.trans cy⟩
 ·rcases aQ with aQ|⟨aQ,_⟩
  ·exact h.fr.fresh b j aQ
  ·simp only[iK,cR]at aQ;subst aQ;exact .inr cY
 ·obtain⟨t1,t2⟩:=h.fr.trn aT j b aa;have cD:aT≠k:=fun e=>by subst e;rw[t2]at aH;cases aH
  exact⟨t1,by simp[aA.withRowOf,cD,t2]⟩
 ·obtain⟨cl,cy,gy⟩:=h.new m hm;refine⟨cl,?_,gy⟩;have:m≠k:=fun e=>by subst e;rw[cy]at aH;cases aH
  simp[aA.withRowOf,this,cy]
 ·simp only[aw];refine⟨⟨some ⟨bl,0,none⟩,cap,by simp[kg],by simp;omega,⟨lz,by simpa using jq⟩,.inr ⟨bl,0,us++ns,rfl,pw _ 0 fun j u aC=>?_,ra (rb ab al) (rb ab xI)⟩⟩,fun e=>(by cases e),fun g e=>?_,fun _ _ e=>(by cases e),fun _ e=>(by cases e)⟩
  ·have nl:=(fG.1 aC).1;rw[Nat.zero_add];refine⟨.inr ⟨rfl,?_⟩,sp j u aC⟩;rw[e0,lG,hH]at nl;rw[Nat.add_mul];exact nl
  ·cases e;exact⟨o.n+ys.length,.slice (some ⟨bl,0,none⟩) (o.n+ys.length) cap,by simp[aA.withRowOf],by simp[kg],fun _=>rfl⟩
theorem vX{P:bj}{w:World}{t ty e:eb}{i:TypeInfo}(az:P.underlying t=some (.slice e))(aM:P.info? e=some i)(b:aW Addr)(n cap:Nat)(aU:n<=cap)(x:aW Addr)(c:Nat):
  (l0 #[t,t] ty #[.slice b n cap,.slice x 0 c]).run P w= .ok (.slice b n cap) w:=by
 cases b<;>cases x<;>simp[l0,run_underlying az,sizeOf,typeInfo,aM,Builtin.lenOf,aU,Builtin.firstCells,loadCells,loadCellsFrom,storeCells]
inductive cH where
 |v (d:Nat) (i:dQ)
 |box (d:Nat) (key:aW Nat) (x:bW)
 |alloc (d:Nat) (key:aW Nat) (zero:ae)
 |store (sz:Nat) (x y:bW)
 |bsl (d:Nat) (sz el:Nat) (xs:List bW)
 |app (d:Nat) (sz el:Nat) (x y:bW)
 |bslm (d:Nat) (key:aW Nat) (sz el:Nat) (xs:List bW)
 |appm (d:Nat) (key:aW Nat) (sz el:Nat) (x y:bW)
 |mkmap (d:Nat) (key:aW Nat)
 |mput (bo:gG) (x k v:bW)
 |range (d:Nat) (key:aW Nat) (x:bW)
 |storeE (sz:Nat) (x y:bW)
 |mks (d:Nat) (key:aW Nat) (sz el:Nat) (z:ae) (x:bW)
 |apps (d el:Nat) (x y:bW)
def fy(st:aS):aW Nat->av
 |none=>.loc st.n
 |some m=>.obj m
def kj(st:aS):aW Nat->Prop
 |none=>.loc st.n∉st.o
 |some m=>.obj m∉st.o
def iB(st:aS):aW Nat->Nat
 |none=>st.n+1
 |some _=>st.n
def iC(st:aS):aW Nat->List av
 |none=>st.o
 |some m=>.obj m::st.o
theorem oA{st:aS}{key:aW Nat}(h:kj st key):fresh st.n st.o (fy st key):=by cases key<;>simp[fy,fresh,kj]at h⊢ <;>exact h
theorem oB{st:aS}{key:aW Nat}:∀j,fresh (iB st key) (iC st key) j->fresh st.n st.o j/\j≠fy st key:=by
 intro j aC;cases key<;>cases j<;>simp[fresh,iB,iC,fy]at aC⊢
 ·exact⟨⟨Ω,aC.2⟩,Ω⟩
 ·exact aC
 ·exact aC
 ·exact⟨aC.2,aC.1⟩
def l6(sz:Nat):List ae->Prop
 |[]=>True
 |p::a8=>(dC p=true/\(cells p).length=sz)/\l6 sz a8
def qW(bo:gG)(k v:ae):List ae->aW (List ae)
 | .hdm clock borns::kvs=>if vb bo k=false then none else match sY bo k v kvs with
  |some (some ou)=>some (.hdm clock borns::ou)
  |some none=>some (.hdm (clock+1) (borns++[clock])::(kvs++[k,v]))
  |none=>none
 |_=>none
def vN(m:av):List ae->aW (List ae)
 | .hdm clock _::_=>some [.hdi clock [] clock,.gmap m]
 |_=>none
def l7(st:aS)(sz el:Nat)(x y:ae):aW ((aW (av×List ae))×List ae):=
 match x,y with
 | .slice cj .nil _,.slice fL _ ys=>if cj=sz/\fL=sz then some (none,ys)else none
 | .row cj k n,.slice fL _ ys=>if cj=sz/\fL=sz then
   match look k st.e with
   |some ⟨n',dc,oK,some xs⟩=>if n'=n/\dc=el/\oK=sz then some (some (k,xs),ys)else none
   |_=>none
  else none
 |_,_=>none
def k1:ae->Nat->List ae->ae
 | .agg cx,f,cs=>.agg (jA cx f cs)
 |_,_,[q]=>q
 |_,_,_=>.junk
def k3(st:aS)(sz:Nat)(p v:ae):aW (Prop×aS):=
 match p with
 | .rptr cj k n i f=>match look k st.e with
  |some ⟨n',el,fL,some xs⟩=>if n'=n/\fL=cj then
    match xs[i]? with
    |some q=>some (dC q=true/\dC v=true/\(cells v).length=sz/\f+sz<=(cells q).length/\0<sz,{st with e:=bV k ⟨n',el,fL,some (xs.set i (k1 q f (cells v)))⟩ st.e})
    |none=>none
   else none
  |_=>none
 |_=>none
def dZ(s:List aX):List ae:=s.map fun c=>.int .u8 c.toNat
def rS(st:aS)(d el:Nat)(x y:ae):aW (Prop×aS):=
 match x,y with
 | .row sz k n,.str s=>match look k st.e with
  |some ⟨n',dc,cj,some xs⟩=>if n'=n/\dc=el/\cj=1/\sz=1 then some (xs.length+s.length<=bF,
    {st with t:=put d (.row 1 k (xs.length+s.length)) st.t,e:=bV k ⟨xs.length+s.length,el,1,some (xs++dZ s)⟩ st.e})else none
  |_=>none
 | .slice sz .nil _,.str s=>if sz=1 then some ((.obj 862∉st.o)/\s≠[]/\s.length<=bF,
   {t:=put d (.row 1 (.obj 862) s.length) st.t,b:=st.b,e:=bV (.obj 862) ⟨s.length,el,1,some (dZ s)⟩ st.e,n:=st.n,o:= .obj 862::st.o})else none
 |_,_=>none
def hN(st:aS):cH->aW (Prop×aS)
 | .mks d key sz el z x=>match bf st.t x with
  | .int _ n=>some (kj st key/\0<=n/\n<=bF,
    {t:=put d (.row sz (fy st key) n.toNat) st.t,b:=st.b,e:=bV (fy st key) ⟨n.toNat,el,sz,some (List.replicate n.toNat z)⟩ st.e,n:=iB st key,o:=iC st key})
  |_=>none
 | .bslm d key sz el xs=>some (kj st key/\l6 sz (xs.map (bf st.t)),
   {t:=put d (.row sz (fy st key) xs.length) st.t,b:=st.b,e:=bV (fy st key) ⟨xs.length,el,sz,some (xs.map (bf st.t))⟩ st.e,n:=iB st key,o:=iC st key})
 | .appm d key sz el x y=>match l7 st sz el (bf st.t x) (bf st.t y)with
  |some (none,ys)=>some (kj st key/\ys.length<=bF/\ys≠[],
    {t:=put d (.row sz (fy st key) ys.length) st.t,b:=st.b,e:=bV (fy st key) ⟨ys.length,el,sz,some ys⟩ st.e,n:=iB st key,o:=iC st key})
  |some (some (k,xs),ys)=>some (xs.length+ys.length<=bF,{st with t:=put d (.row sz k (xs.length+ys.length)) st.t,e:=bV k ⟨xs.length+ys.length,el,sz,some (xs++ys)⟩ st.e})
  |none=>none
 | .mkmap d key=>some (kj st key,{t:=put d (.gmap (fy st key)) st.t,b:=bV (fy st key) [.hdm 0 []] st.b,e:=st.e,n:=iB st key,o:=iC st key})
 | .mput bo x k v=>match bf st.t x with
  | .gmap m=>match look m st.b with
   |some cs=>match qW bo (bf st.t k) (bf st.t v) cs with
    |some cs'=>some (True,{st with b:=bV m cs' st.b})
    |none=>none
   |none=>none
  |_=>none
 | .range d key x=>match bf st.t x with
  | .gmap m=>match look m st.b with
   |some cs=>match vN m cs with
    |some cs'=>some (kj st key,{t:=put d (.ptr (fy st key) 0) st.t,b:=bV (fy st key) cs' st.b,e:=st.e,n:=iB st key,o:=iC st key})
    |none=>none
   |none=>none
  |_=>none
 | .v d i=>match eB st i with
  |some (c,p)=>some (c,{st with t:=put d p st.t})
  |none=>none
 | .storeE sz x y=>k3 st sz (bf st.t x) (bf st.t y)
 | .apps d el x y=>rS st d el (bf st.t x) (bf st.t y)
 | .box d key x=>some (kj st key/\dC (bf st.t x)=true,
   {t:=put d (.ptr (fy st key) 0) st.t,b:=bV (fy st key) (cells (bf st.t x)) st.b,e:=st.e,n:=iB st key,o:=iC st key})
 | .alloc d key z=>some (kj st key,{t:=put d (.ptr (fy st key) 0) st.t,b:=bV (fy st key) (cells z) st.b,e:=st.e,n:=iB st key,o:=iC st key})
 | .store sz x y=>match bf st.t x with
  | .ptr k off=>match look k st.b with
   |some cs=>some (fB cs=true/\dC (bf st.t y)=true/\(cells (bf st.t y)).length=sz/\off+sz<=cs.length,{st with b:=bV k (jA cs off (cells (bf st.t y))) st.b})
   |none=>none
  |p=>k3 st sz p (bf st.t y)
 | .bsl d sz el xs=>some (kj st none/\l6 sz (xs.map (bf st.t)),
   {st with t:=put d (.slice sz (.own (.loc st.n)) (xs.map (bf st.t))) st.t,e:=bV (.loc st.n) ⟨xs.length,el,sz,none⟩ st.e,n:=st.n+1})
 | .app d sz el x y=>match bf st.t x,bf st.t y with
  | .slice cj tag xs,.slice fL _ ys=>if cj=sz/\fL=sz then
    match tag with
    | .own k=>match look k st.e with
     |some o=>some (o.n=xs.length/\o.el=el/\o.sz=sz/\xs.length+ys.length<=bF,
       {st with t:=put d (.slice sz (.own k) (xs++ys)) st.t,e:=bV k ⟨xs.length+ys.length,el,sz,none⟩ st.e})
     |none=>none
    | .nil=>some (kj st none/\ys.length<=bF,{st with t:=put d (.slice sz (.own (.loc st.n)) ys) st.t,e:=bV (.loc st.n) ⟨ys.length,el,sz,none⟩ st.e,n:=st.n+1})
    |_=>none
   else none
  |_,_=>none
def cW(κ:av)(n':Nat)(o':List av)(st:aS):cH->aW (Prop×aS)
 | .mks d _ sz el z x=>match bf st.t x with
  | .int _ n=>some (0<=n/\n<=bF,
    {t:=put d (.row sz κ n.toNat) st.t,b:=st.b,e:=bV κ ⟨n.toNat,el,sz,some (List.replicate n.toNat z)⟩ st.e,n:=n',o:=o'})
  |_=>none
 | .bslm d _ sz el xs=>some (l6 sz (xs.map (bf st.t)),
   {t:=put d (.row sz κ xs.length) st.t,b:=st.b,e:=bV κ ⟨xs.length,el,sz,some (xs.map (bf st.t))⟩ st.e,n:=n',o:=o'})
 | .appm d _ sz el x y=>match l7 st sz el (bf st.t x) (bf st.t y)with
  |some (none,ys)=>some (ys.length<=bF/\ys≠[],
    {t:=put d (.row sz κ ys.length) st.t,b:=st.b,e:=bV κ ⟨ys.length,el,sz,some ys⟩ st.e,n:=n',o:=o'})
  |some (some (k,xs),ys)=>some (xs.length+ys.length<=bF,{st with t:=put d (.row sz k (xs.length+ys.length)) st.t,e:=bV k ⟨xs.length+ys.length,el,sz,some (xs++ys)⟩ st.e})
  |none=>none
 | .mkmap d _=>some (True,{t:=put d (.gmap κ) st.t,b:=bV κ [.hdm 0 []] st.b,e:=st.e,n:=n',o:=o'})
 | .mput bo x k v=>match bf st.t x with
  | .gmap m=>match look m st.b with
   |some cs=>match qW bo (bf st.t k) (bf st.t v) cs with
    |some cs'=>some (True,{st with b:=bV m cs' st.b})
    |none=>none
   |none=>none
  |_=>none
 | .range d _ x=>match bf st.t x with
  | .gmap m=>match look m st.b with
   |some cs=>match vN m cs with
    |some cs'=>some (True,{t:=put d (.ptr κ 0) st.t,b:=bV κ cs' st.b,e:=st.e,n:=n',o:=o'})
    |none=>none
   |none=>none
  |_=>none
 | .v d i=>match eB st i with
  |some (c,p)=>some (c,{st with t:=put d p st.t})
  |none=>none
 | .storeE sz x y=>k3 st sz (bf st.t x) (bf st.t y)
 | .apps d el x y=>rS st d el (bf st.t x) (bf st.t y)
 | .box d _ x=>some (dC (bf st.t x)=true,{t:=put d (.ptr κ 0) st.t,b:=bV κ (cells (bf st.t x)) st.b,e:=st.e,n:=n',o:=o'})
 | .alloc d _ z=>some (True,{t:=put d (.ptr κ 0) st.t,b:=bV κ (cells z) st.b,e:=st.e,n:=n',o:=o'})
 | .store sz x y=>match bf st.t x with
  | .ptr k off=>match look k st.b with
   |some cs=>some (fB cs=true/\dC (bf st.t y)=true/\(cells (bf st.t y)).length=sz/\off+sz<=cs.length,{st with b:=bV k (jA cs off (cells (bf st.t y))) st.b})
   |none=>none
  |p=>k3 st sz p (bf st.t y)
 | .bsl d sz el xs=>some (l6 sz (xs.map (bf st.t)),
   {st with t:=put d (.slice sz (.own κ) (xs.map (bf st.t))) st.t,e:=bV κ ⟨xs.length,el,sz,none⟩ st.e,n:=n',o:=o'})
 | .app d sz el x y=>match bf st.t x,bf st.t y with
  | .slice cj tag xs,.slice fL _ ys=>if cj=sz/\fL=sz then
    match tag with
    | .own k=>match look k st.e with
     |some o=>some (o.n=xs.length/\o.el=el/\o.sz=sz/\xs.length+ys.length<=bF,
       {st with t:=put d (.slice sz (.own k) (xs++ys)) st.t,e:=bV k ⟨xs.length+ys.length,el,sz,none⟩ st.e})
     |none=>none
    | .nil=>some (ys.length<=bF,{st with t:=put d (.slice sz (.own κ) ys) st.t,e:=bV κ ⟨ys.length,el,sz,none⟩ st.e,n:=n',o:=o'})
    |_=>none
   else none
  |_,_=>none
def oE:Nat->List bW->List (Nat×Operand)->Bool
 |_,[],[]=>true
 |i,x::xs,(j,o)::os=>i==j&&cE x o&&oE (i+1) xs os
 |_,_,_=>false
def cH.bok(κ:av):cH->Prop
 | .mkmap _ _| .range _ _ _=>κ≠ .obj 861
 | .alloc _ key _| .box _ key _=>κ= .obj 861->key=some 861
 |_=>True
theorem vp{st:aS}{key:aW Nat}(h:fy st key= .obj 861):key=some 861:=by cases key<;>simp[fy]at h⊢;exact h
def k2(N:Nat)(aR:List (Nat×cw))(i:cH)(o:Oper):Bool:=
 match i,o.op with
 | .mkmap d key,.makeMap _ none=>o.dst==some d&&decide (d<N)&&key !=some 861
 | .mput bo x k v,.mapUpdate t hY gQ jw=>o.dst==none&&(match tf aR t with|some ⟨_,_,.map e6 _,_⟩=>pv aR bo e6|_=>false)&&cE x hY&&cE k gQ&&cE v jw
 | .mput bo x k v,.insert t hY gQ jw=>o.dst==none&&(match tf aR t with|some ⟨_,_,.map e6 _,_⟩=>pv aR bo e6|_=>false)&&cE x hY&&cE k gQ&&cE v jw
 | .range d key x,.range t hY=>o.dst==some d&&decide (d<N)&&(match tf aR t with|some ⟨_,_,.map _ _,_⟩=>true|_=>false)&&cE x hY&&key !=some 861
 | .v d i,op=>o.dst==some d&&decide (d<N)&&tC aR i op
 | .box d key x,.box el o'=>o.dst==some d&&decide (d<N)&&cE x o'&&(key !=some 861||el==tA)
 | .alloc d key z,.alloc el=>o.dst==some d&&decide (d<N)&&(match tf aR el with|some f=>rG z f.zero|none=>false)&&(key !=some 861||el==tA)
 | .store sz x y,.store t o' eR=>o.dst==none&&(match tf aR t with|some f=>f.size==sz|none=>false)&&cE x o'&&cE y eR
 | .bsl d sz el xs,.buildSlice t len parts=>o.dst==some d&&decide (d<N)&&(match tf aR t with|some ⟨_,_,.slice dc,_⟩=>el==dc|_=>false)&&(match tf aR el with|some f=>f.size==sz&&decide (0<sz)|none=>false)
   &&len==xs.length&&decide (len*sz<=16777216)&&oE 0 xs parts.toList
 | .app d sz el x y,.call ⟨.builtin .append,⟨[o',eR]⟩,⟨[t,df]⟩⟩=>o.dst==some d&&decide (d<N)&&t==df&&(match tf aR t with|some ⟨_,_,.slice dc,_⟩=>el==dc|_=>false)
   &&(match tf aR el with|some f=>f.size==sz&&decide (0<sz)&&decide (f.bytes<=2048)|none=>false)&&cE x o'&&cE y eR
 | .bslm d _ sz el xs,.buildSlice t len parts=>o.dst==some d&&decide (d<N)&&(match tf aR t with|some ⟨_,_,.slice dc,_⟩=>el==dc|_=>false)&&(match tf aR el with|some f=>f.size==sz&&decide (0<sz)|none=>false)
   &&len==xs.length&&decide (len*sz<=16777216)&&oE 0 xs parts.toList
 | .appm d _ sz el x y,.call ⟨.builtin .append,⟨[o',eR]⟩,⟨[t,df]⟩⟩=>o.dst==some d&&decide (d<N)&&t==df&&(match tf aR t with|some ⟨_,_,.slice dc,_⟩=>el==dc|_=>false)
   &&(match tf aR el with|some f=>f.size==sz&&decide (0<sz)&&decide (f.bytes<=2048)|none=>false)&&cE x o'&&cE y eR
 | .storeE sz x y,.store t o' eR=>o.dst==none&&(match tf aR t with|some f=>f.size==sz|none=>false)&&cE x o'&&cE y eR
 | .apps d el x y,.call ⟨.builtin .append,⟨[o',eR]⟩,⟨[t,df]⟩⟩=>o.dst==some d&&decide (d<N)&&(match tf aR t with|some ⟨_,_,.slice dc,_⟩=>el==dc|_=>false)&&(match tf aR df with|some ⟨_,_,.str,_⟩=>true|_=>false)
   &&(match tf aR el with|some f=>f.size==1&&decide (f.bytes<=2048)|none=>false)&&cE x o'&&cE y eR
 | .mks d _ sz el z x,.makeSlice t o' eR=>o.dst==some d&&decide (d<N)&&(match tf aR t with|some ⟨_,_,.slice dc,_⟩=>el==dc|_=>false)
   &&(match tf aR el with|some f=>f.size==sz&&decide (0<sz)&&decide (f.bytes<=2048)&&rG z f.zero|none=>false)&&cE x o'&&cE x eR
 |_,_=>false
theorem FV{w:World}{ν:aA}{C:c7}{st:aS}{a:Act}(hr:bH C st a w ν){sz:Nat}:
  ∀(xs:List bW) (i:Nat) (os:List (Nat×Operand)) (pre:List ae) (us:Array Value) (aV:List Value),oE i xs os=true->l6 sz (xs.map (bf st.t))->us.toList.take (i*sz)=aV->bN w ν sz pre aV->i=pre.length->us.size=(i+xs.length)*sz->
  ∃a1:Array Value,Instr.fill (fun i=>some (i*sz,sz)) us (os.map fun(x:Nat×Operand)=>(x.1,a.eval x.2))=some a1/\bN w ν sz (pre++xs.map (bf st.t)) a1.toList/\a1.size=us.size
 |[],i,[],pre,us,aV,_,_,aH,h,aM,af=>by refine⟨us,by simp[Instr.fill],?_,rfl⟩;have ar:=kZ h;have:us.toList.take (i*sz)=us.toList:=List.take_of_length_le (by simp at af⊢;omega);rw[this]at aH;simpa[aH]using h
 |[],_,_::_,_,_,_,ez,_,_,_,_,_=>by simp[oE]at ez
 |_::_,_,[],_,_,_,ez,_,_,_,_,_=>by simp[oE]at ez
 |x::xs,i,(j,o)::os,pre,us,aV,ez,bE,aH,h,aM,af=>by
  simp only[oE,bt,cI]at ez;obtain⟨⟨rfl,I⟩,J⟩:=ez;simp only[eU,l6]at bE;obtain⟨⟨yj,hlen⟩,bE⟩:=bE;have ad:=cF hr I;have jn:=nD ad yj;have qw:=jV jn;have b0:(a.eval o).cells.size=sz:=by rw[hlen]at qw;simpa using qw
  have hmul:i*sz+sz<=us.size:=by rw[af,ir,show i+(xs.length+1)=(i+1)+xs.length from by omega,Nat.add_mul,Nat.succ_mul];omega
  have kO:=xo (w:=w) (ν:=ν) (a.eval o).cells.toList 0 (i*sz) us (by simp[b0];omega);have kP:bN w ν sz (pre++[bf st.t x]) (aV++(a.eval o).cells.toList):=by refine ra h ?_;simp only[bN];exact⟨a.eval o,[],Ψ,⟨ad,b0,rf jn⟩,rfl⟩
  have sN:aV.length=i*sz:=by rw[<-aH];simp;omega
  obtain⟨a1,g1,g2,g3⟩:=FV hr xs (i+1) os (pre++[bf st.t x]) (((a.eval o).cells.toList.zipIdx 0).foldl (fun cs (x:Value×Nat)=>cs.setIfInBounds (i*sz+x.2) x.1) us) (aV++(a.eval o).cells.toList) J bE
   (by
    rw[kO];simp only[Nat.add_zero];rw[aH];have:(aV++(a.eval o).cells.toList).length=(i+1)*sz:=by rw[e0,sN,Nat.succ_mul];simp[b0]
    rw[<-this,List.take_append_of_le_length (dY _),List.take_length]) kP (by simp[aM])
   (by have ck:=cB List.length kO;simp only[Array.length_toList,e0,List.length_take,List.length_drop,b0]at ck;rw[ck,af,ir,show i+(xs.length+1)=i+1+xs.length from by omega];rw[af,ir,show i+(xs.length+1)=i+1+xs.length from by omega]at hmul;omega)
  refine⟨a1,?_,by simpa using g2,?_⟩
  ·simp only[eU,Instr.fill];rw[bT (by simp[b0];omega),<-g1];congr 1;rw[<-Array.foldl_toList];simp
  ·rw[g3];have ck:=cB List.length kO;simp only[Array.length_toList,e0,List.length_take,List.length_drop,b0]at ck;rw[ck];omega
theorem O8{P:bj}(w:World)(t jX ty e:eb)(i:TypeInfo)(az:P.underlying t=some (.slice e))(hu:P.underlying jX=some .string)(aM:P.info? e=some i)(uu:i.size=1)
  (g pQ zE:Nat) (cur:Array Value) (aG:w.heap[g]? =some (.cells cur e (0,0))) (s:gT) (iT:pQ+s.size<=zE) (xU:pQ+s.size<=cur.size):
  (l0 #[t,jX] ty #[.slice (some ⟨g,0,none⟩) pQ zE,.string s]).run P w=
   .ok (.slice (some ⟨g,0,none⟩) (pQ+s.size) zE) (w.setRow g (cur.toList.take pQ++byteCells s++cur.toList.drop (pQ+s.size)).toArray):=by
 have sI:=Src.ofString (P:=P) w hu s;have dT:=run_storeCells_at P g pQ e (byteCells s) 0 cur w aG (by simpa[byteCells_length]using xU) sI.one;simp only[Nat.add_zero,byteCells_length]at dT;simp[l0,run_underlying az,run_underlying hu,sizeOf,typeInfo,aM,uu,sI.len,iT,sI.cells,Addr.add_lit,dT]
theorem FR{P:bj}(w:World)(t jX ty e:eb)(i:TypeInfo)(z:Value)(az:P.underlying t=some (.slice e))(hu:P.underlying jX=some .string)(aM:P.info? e=some i)(ed:i.zero=some z)(uu:i.size=1)(ki:z.cells.size=1)
  (v:Value) (n:Nat) (xs:List Value) (gN:w.ownsRow 0 e 1 v n xs) (s:gT) (cap:Nat) (base:aW Addr) (aH:v= .slice base n cap) (lz:cap<n+s.size) (CZ:n+s.size<=maxLen) (iw:(n+s.size)*i.bytes<=140737488355328):
  ∃v' w',(l0 #[t,jX] ty #[v,.string s]).run P w= .ok v' w'/\w'.ownsRow w.heap.size e 1 v' (n+s.size) (xs++byteCells s)/\w.grownBy w' none:=by
 subst aH;have sI:=Src.ofString (P:=P) w hu s;have kg:xs.length=n:=by simpa using gN.1
 have hold:(Builtin.firstCells i.size n (.slice base n cap)).run P w.drew= .ok xs.toArray w.drew:=by
  rw[uu];rcases gN.2 with⟨ai,rfl⟩|⟨g,nU,cur,ai,Rj,aG,sC,qx,b0,ym⟩
  ·injection ai with ai aK bu;subst ai;have:xs=[]:=mJ kg;subst this;exact run_firstCells_none w.drew 1 0 0 cap
  ·have tY:=ai;injection ai with ai aK bu;subst ai;refine run_firstCells_some w.drew 1 n _ n cap xs Ω fun j u aC=>?_;have:=gN.cells (g:=g) rfl j u aC;simpa using this
 have hr:=run_append_grow_src (P:=P) w t jX ty e i z az aM ed base n cap xs hold (.string s) s.size (byteCells s) (by rw[uu];exact sI) lz (by simp only[maxLen]at CZ;omega) (growslice_fits Ω iw);have nj:=grownCap_ge w (n+s.size) cap e;have qx:grownCap w (n+s.size) cap e<=maxLen:=grownCap_le_maxLen w (n+s.size) cap e CZ;refine⟨_,_,hr,⟨by simp[byteCells_length,kg],.inr ⟨w.heap.size,_,_,rfl,dY _,heap_alloc_new w.drew _,nj,qx,?_,?_⟩⟩,⟨rfl,rfl,rfl,Ψ,fun k U _=>heap_alloc_old w.drew _ U⟩⟩
 ·simp only[Array.size_append,lj,size_zeroCells,ki,e0,byteCells_length,kg];omega
 ·simp only[Array.toList_append,List.toList_toArray];rw[List.take_left' (by simp[byteCells_length,kg])]
theorem zs(w:World)(ν:aA):∀s:List aX,bN w ν 1 (dZ s) (s.map fun c=>kt .u8 c.toNat)
 |[]=>by simp[dZ,bN]
 |c::s=>by have:=zs w ν s;simp only[dZ,eU,bN]at this⊢;exact⟨.int .u8 c.toNat,_,rfl,⟨by simp[aw],rfl,by intro x ad;simp[h3]at ad;subst ad;rfl⟩,this⟩
theorem gS{P:bj}{o:Oper}{a:Act}{w w':World}{v:Value}{K:Act->World->Prop}{Q:Exit->Act->World->Prop}(h:(execOp a.eval o).run P w= .ok (.value v) w')(U:K (a.put o.dst v) w'):o.wp P a w K Q:=by unfold Oper.wp;rw[h];exact U
theorem tE{P:bj}{o:Oper}{a:Act}{w w':World}{K:Act->World->Prop}{Q:Exit->Act->World->Prop}(h:(execOp a.eval o).run P w= .ok .skip w')(U:K (a.put o.dst undef) w'):o.wp P a w K Q:=by unfold Oper.wp;rw[h];exact U
theorem tD{P:bj}{w w':World}{x:Sem Value}{v:Value}(h:x.run P w= .ok v w'):(do pure (Next.value (<-x)):Sem Next).run P w= .ok (.value v) w':=by simp[h]
theorem FT{P:bj}{aR:List (Nat×cw)}(az:eD P aR=true){C:c7}{st:aS}{a:Act}{w:World}{ν:aA}(hr:bH C st a w ν){t el:Nat}{f g:cw}(aF:tf aR t=some f)(U:f.kind= .slice el)(aG:tf aR el=some g)
  {xs:List bW} {os:List (Nat×Operand)} (ez:oE 0 xs os=true) (dt:l6 g.size (xs.map (bf st.t))) (hlen:xs.length*g.size<=16777216):
  ∃us:Array Value,(Instr.buildSlice t xs.length (os.map fun(x:Nat×Operand)=>(x.1,a.eval x.2)).toArray).run P w= .ok (.slice (some ⟨w.heap.size,0,none⟩) xs.length xs.length) (w.alloc (.cells us el))/\
   bN w ν g.size (xs.map (bf st.t)) us.toList/\us.size=xs.length*g.size:=by
 obtain⟨d,aY,dj⟩:=eS az aF;rw[U]at dj;obtain rfl:=kE dj;obtain⟨_,af⟩:=nK az aG w;obtain⟨z,u3,DO,RB⟩:=zT az aG w;have aU:¬xs.length*g.size>2 ^ 24:=Ω
 let init:Array Value:=if xs.length*g.size=0 then(Array.range (xs.length*g.size)).map ((#[]:Array Value)[· %(#[]:Array Value).size]!)else(Array.range (xs.length*g.size)).map (z.cells[· %z.cells.size]!)
 have Dj:init.size=xs.length*g.size:=by simp only[init];split<;>simp
 obtain⟨a1,g1,g2,g3⟩:=FV (a:=a) hr xs 0 os [] init [] ez dt Ψ (by simp[bN]) rfl (by rw[Dj];simp);refine⟨a1,?_,by simpa using g2,by rw[g3,Dj]⟩;simp only[init]at g1;by_cases ck:xs.length*g.size=0
 ·rw[cX ck]at g1;rw[ck]at g1;have sd:¬(0:Nat)>2 ^ 24:=by decide
  simp only[Instr.buildSlice,dk,run_underlying aY,dr,af,if_false,dP,ck,if_true,sd,g1,newRow,run_newObj];rfl
 ·rw[bT ck]at g1;simp only[Instr.buildSlice,dk,run_underlying aY,dr,af,aU,if_false,dP,ck,u3,g1,newRow,run_newObj];rfl
theorem sZ{P:bj}{w:World}{ν:aA}{bo:gG}{t:eb}(aY:mM P bo t){k v:ae}{dv Ab:Value}(U:aw w ν k dv)(aH:aw w ν v Ab):
  ∀(borns:List Nat) (kvs:List ae) (us:List Value) (i:Nat) (r:aW (List ae)),bG w ν kvs us->kvs.length=2*borns.length->sY bo k v kvs=some r->
  match r with
  |none=>e7 P w bo t dv (dF borns us) i none
  |some ou=> ∃j u a1 e,e7 P w bo t dv (dF borns us) i (some (i+j,u))/\bG w ν ou a1/\ou.length=kvs.length/\(dF borns us)[j]? =some e/\e.key=dv/\Instr.sameBits 10000 e.key dv=true/\dF borns a1=(dF borns us).modify j (fun e=>{e with key:=dv,val:=Ab})
 |[],[],us,i,r,h,_,hm=>by simp only[sY]at hm;cases hm;simp only[bG]at h;subst h;simpa[dF]using e7.nil P w bo t dv i
 |[],_::_,_,_,_,_,ar,_=>by simp at ar
 |b::cJ,[],_,_,_,_,ar,_=>by simp at ar
 |b::cJ,[_],_,_,_,_,ar,_=>by simp at ar;omega
 |b::cJ,aT::v'::kvs,us,i,r,h,ar,hm=>by
  simp only[bG]at h;obtain⟨fU,rz,rfl,I,fN,jY,rfl,J,aj⟩:=h;simp only[sY]at hm;simp only[dF];cases bD:qO bo k aT with
  |none=>simp[bD]at hm
  |some e1=>
   obtain⟨s1,s2⟩:=D5 aY U I bD;simp only[bD]at hm;cases e1 with
   |true=>simp only[cR]at hm;subst hm;obtain⟨rfl,zD⟩:=s2 rfl;refine⟨0,fN,fU::Ab::jY,⟨fU,fN,b⟩,e7.hit (e:=⟨fU,fN,b⟩) s1,?_,Ψ,Ψ,rfl,zD,by simp[dF]⟩;simp only[bG];exact⟨_,_,rfl,U,_,_,rfl,aH,aj⟩
   |false=>
    simp only at hm;have bz:=fun dW cn=>sZ aY U aH cJ kvs jY (i+1) dW aj (by simp at ar;omega) cn;split at hm
    ·rename_i dW cn;cases hm;obtain⟨j,u,a1,e,g1,g2,g3,g4,g5,g6,g7⟩:=bz _ cn;refine⟨j+1,u,fU::fN::a1,e,e7.miss (e:=⟨fU,fN,b⟩) s1 (by rw[show i+(j+1)=i+1+j from by omega];exact g1),?_,by simp[g3],by simpa using g4,g5,g6,by simp[dF,g7]⟩;simp only[bG];exact⟨_,_,rfl,I,_,_,rfl,J,g2⟩
    ·rename_i cn;cases hm;exact e7.miss (e:=⟨fU,fN,b⟩) s1 (bz _ cn)
    ·cases hm
theorem xa:∀(borns:List Nat) (us:List Value) (b:Nat) (k v:Value),us.length=2*borns.length->dF (borns++[b]) (us++[k,v])=dF borns us++[⟨k,v,b⟩]
 |[],us,b,k,v,h=>by have:us=[]:=mJ (by simpa using h);subst this;simp[dF]
 |dL::cJ,[],b,k,v,h=>by simp at h
 |dL::cJ,[_],b,k,v,h=>by simp at h;omega
 |dL::cJ,aT::v'::us,b,k,v,h=>by simp only[cN,dF,xa cJ us b k v (by simp at h;omega)]
theorem zy{w:World}{ν:aA}:∀{a8 bZ:List ae} {aV us:List Value},bG w ν a8 aV->bG w ν bZ us->bG w ν (a8++bZ) (aV++us)
 |[],bZ,aV,us,h,b3=>by simp only[bG]at h;subst h;simpa using b3
 |p::a8,bZ,aV,us,h,b3=>by simp only[bG]at h;obtain⟨u,a1,rfl,I,J⟩:=h;simp only[cN,bG];exact⟨u,_,rfl,I,zy J b3⟩
theorem vT{w:World}{ν:aA}:∀{a8:List ae} {aV:List Value},bG w ν a8 aV->aV.length=a8.length
 |[],aV,h=>by simp only[bG]at h;subst h;rfl
 |p::a8,aV,h=>by simp only[bG]at h;obtain⟨u,a1,rfl,_,J⟩:=h;simp[vT J]
theorem tt{P:bj}{w:World}{r:Nat}{o o':Obj}(aa:w.heap[r]? =some o)(aU:∀c e f,o≠ .cells c e f:=by simp):(setObj r o').run P w= .ok () {w with heap:=w.heap.setIfInBounds r o'}:=by simp only[setObj,Sem.run,aa]
def cH.makes(st:aS):cH->Bool
 | .box _ _ _| .alloc _ _ _| .bsl _ _ _ _| .bslm _ _ _ _ _| .mkmap _ _| .range _ _ _| .mks _ _ _ _ _ _=>true
 | .appm _ _ _ _ x _=>match bf st.t x with
  | .slice _ .nil _=>true
  |_=>false
 | .app _ _ _ x _=>match bf st.t x with
  | .slice _ .nil _=>true
  |_=>false
 |_=>false
theorem bH.forgetRow{C:c7}{st:aS}{a:Act}{w:World}{ν:aA}(hr:bH C st a w ν){k:av}{ow:cC}(U:look k st.e=some ow):bH C {st with e:=bV k ⟨ow.n,ow.el,ow.sz,none⟩ st.e} a w ν:=by
 have fl:∀g,(look g (bV k ⟨ow.n,ow.el,ow.sz,none⟩ st.e)).isSome->(look g st.e).isSome:=fun g aG=>by
  rw[gb]at aG;split at aG
  ·rename_i e;subst e;simp[U]
  ·exact aG
 refine⟨⟨hr.good.alt,hr.good.box,hr.good.inj,fun g o aG=>?_,fun g dh n n' v v' bl bk a2=>hr.good.oinj g dh n n' v v' bl (fl g bk) (fl dh a2),fun g j n v bl bk=>hr.good.obx g j n v bl (fl g bk),hr.good.one,fun bl aa=>hr.good.otr bl (aa.imp id (fun⟨g,n,v,bk,a2⟩=>⟨g,n,v,fl g bk,a2⟩))⟩,hr.fr,hr.defers,hr.size,hr.slot,hr.new,hr.ext,hr.obk⟩;simp only at aG;rw[gb]at aG;split at aG
 ·rename_i e;subst e;cases aG;obtain⟨v,us,bY,cz,dV,_⟩:=hr.good.own k ow U;exact⟨v,us,bY,cz,dV,fun xs ad=>by cases ad⟩
 ·exact hr.good.own g o aG
theorem vB{w:World}{base el sz n:Nat}{v:Value}{us:List Value}(h:w.ownsRow base el sz v n us)(aU:0<n):∃b cap,v= .slice (some ⟨b,0,none⟩) n cap:=by
 rcases h.2 with⟨ai,aK⟩|⟨e1,cap,cur,f1,_⟩
 ·omega
 ·exact⟨_,_,f1⟩
theorem FH{w:World}{ν:aA}{sz:Nat}:∀{xs:List ae} {us:List Value} {i:Nat} {q hZ:ae} {dq:Value},bN w ν sz xs us->xs[i]? =some q->aw w ν hZ dq->dq.cells.size=sz->(∀c∈dq.cells.toList,c.oneCell'=true)->bN w ν sz (xs.set i hZ) (us.take (i*sz)++dq.cells.toList++us.drop (i*sz+sz))
 |[],_,_,_,_,_,_,bD,_,_,_=>by simp at bD
 |x::xs,us,0,q,hZ,dq,h,bD,hr,af,ab=>by
  simp only[bN]at h;obtain⟨u,a1,rfl,⟨I,J,aj⟩,bs⟩:=h;have ar:u.cells.toList.length=sz:=by simpa using J
  simp only[List.set_cons_zero,bN];refine⟨dq,a1,?_,⟨hr,af,ab⟩,bs⟩;simp[<-ar]
 |x::xs,us,i+1,q,hZ,dq,h,bD,hr,af,ab=>by
  simp only[bN]at h;obtain⟨u,a1,rfl,⟨I,J,aj⟩,bs⟩:=h;have ar:u.cells.toList.length=sz:=by simpa using J
  have bz:=FH bs (by simpa using bD) hr af ab;simp only[List.set_cons_succ,bN];refine⟨u,_,?_,⟨I,J,aj⟩,bz⟩;have e:(i+1)*sz+sz=u.cells.toList.length+(i*sz+sz):=by rw[ar,Nat.succ_mul];omega
  rw[F8 _ _ _ _ ar,e,<-List.drop_drop];simp
theorem O7{w:World}{ν:aA}{q:ae}{v:Value}(bD:aw w ν q v)(af:dC q=true){cs:List ae}{us:List Value}(al:bL w ν cs us){f:Nat}(aF:f+us.length<=v.cells.size)(cD:us≠[]):
  ∃v',aw w ν (k1 q f cs) v'/\v'.cells.toList=v.cells.toList.take f++us++v.cells.toList.drop (f+us.length)/\v'.cells.size=v.cells.size/\∀c∈v'.cells.toList,c.oneCell'=true:=by
 have hlen:=jV al;have j6:=nD bD af;by_cases bE:∃cx,q= .agg cx
 ·obtain⟨cx,rfl⟩:=bE;simp only[aw]at bD;obtain⟨aV,rfl,hk⟩:=bD;simp only[h3]at aF⊢;have hG:bL w ν (jA cx f cs) (aV.toList.take f++us++aV.toList.drop (f+us.length)):=by unfold jA;rw[hlen];exact pK (pK (tl f hk) al) (re _ hk)
  refine⟨.agg (aV.toList.take f++us++aV.toList.drop (f+us.length)).toArray,by simp only[k1,aw];exact⟨_,rfl,by simpa using hG⟩,by simp[h3],?_,fun c jM=>?_⟩
  ·simp[h3];omega
  ·exact rf hG c (by simpa[h3]using jM)
 ·have nd:∀cs,q≠ .agg cs:=fun cs e=>bE ⟨cs,e⟩;obtain⟨I,J⟩:=zz bD af nd;rw[J]at aF⊢;match us,cD,al with
  |u::a1,_,al=>
   simp at aF;obtain⟨rfl,rfl⟩:f=0/\a1=[]:=⟨Ω,List.length_eq_zero_iff.1 Ω⟩;match cs,al,hlen with
   |[c],al,_=>
    simp only[bL]at al;obtain⟨lX,db,ai,⟨Lg,Da⟩,_⟩:=al;cases ai;have hu:u.cells= #[u]:=by cases u<;>first|rfl|cases Da
    have qJ:k1 q 0 [c]=c:=by cases q<;>first|rfl|exact absurd rfl (nd _)
    rw[qJ];refine⟨u,Lg,by simp[hu],by simp[hu],fun c jM=>?_⟩;rw[hu]at jM;simp at jM;subst jM;exact Da
theorem Pk{α:Type}(A us:List α)(a f sz N:Nat)(I:f+us.length<=sz)(J:a+sz<=N)(aj:N<=A.length):
  ((A.take (a+f)++us++A.drop (a+f+us.length)).toArray.toList).take N=(A.take N).take a++((((A.take N).drop a).take sz).take f++us++(((A.take N).drop a).take sz).drop (f+us.length))++(A.take N).drop (a+sz):=by
 have ai:(A.take N).take a++(((A.take N).drop a).take sz).take f=A.take (a+f):=by rw[List.take_take (i:=f),Nat.min_eq_left (show f<=sz by omega),<-List.take_add,List.take_take,Nat.min_eq_left Ω]
 have aK:(((A.take N).drop a).take sz).drop (f+us.length)++(A.take N).drop (a+sz)=(A.take N).drop (a+f+us.length):=by
  have ar:f+us.length<=(((A.take N).drop a).take sz).length:=by simp;omega
  have me:(A.take N).drop (a+sz)=((A.take N).drop a).drop sz:=by rw[List.drop_drop]
  rw[me,<-List.drop_append_of_le_length ar,List.take_append_drop,List.drop_drop];congr 1;omega
 have bu:(A.take N).drop (a+f+us.length)=(A.drop (a+f+us.length)).take (N-(a+f+us.length)):=by rw[List.drop_take]
 have ar:(A.take (a+f)++us).length=a+f+us.length:=by simp;omega
 simp only[jb]at*;rw[aK,bu,<-jb (List.take a _),ai];have j5:N=(A.take (a+f)++us).length+(N-(a+f+us.length)):=by rw[ar];omega
 rw[<-jb,<-jb];conv=>lhs;rw[j5,List.take_length_add_append]
theorem bH.storeRow{P:bj}{C:c7}{st:aS}{a:Act}{w:World}{ν:aA}(h:bH C st a w ν){k:av}{n el sz:Nat}{xs:List ae}(U:look k st.e=some ⟨n,el,sz,some xs⟩){i f:Nat}{u:Value}(ad:aw w ν (.rptr sz k n i f) u){q:ae}(bD:xs[i]? =some q)(af:dC q=true)
  {cs:List ae} {us:List Value} (al:bL w ν cs us) (aF:f+us.length<=(cells q).length) (cD:us≠[]):
  ∃bl off h5,u= .pointer (some ⟨bl,off,none⟩)/\(storeCells ⟨bl,off,none⟩ us).run P w= .ok () (w.setRow bl h5)/\∃ν',bH C {st with e:=bV k ⟨n,el,sz,some (xs.set i (k1 q f cs))⟩ st.e} a (w.setRow bl h5) ν':=by
 simp only[aw]at ad;obtain⟨_,aM,n',dq,I,J,aj⟩:=ad;obtain⟨v,db,bY,cz,dV,cY⟩:=h.good.own k _ U;rw[I]at bY;simp only[cR,fQ]at bY;obtain⟨rfl,rfl⟩:=bY;obtain⟨bl,aa,rfl⟩:=aj rfl;obtain⟨cc,hM,lQ⟩:=cY xs rfl;simp only at cc hM;obtain⟨v,dX,fD,iW⟩:=vO i hM bD;have qw:=jV (nD dX af);have Md:(cells q).length=sz:=by rw[<-qw];simpa using fD
 have qz:f+us.length<=sz:=by rw[<-Md];exact aF
 have hmul:i*sz+sz<=n'*sz:=by have:=l1 sz (show i+1<=n' from aM);rwa[Nat.succ_mul]at this
 rcases cz.2 with⟨ai,aK⟩|⟨g,cap,cur,rfl,C5,x0,sC,qx,b0,ym⟩
 ·rw[ai]at aa;simp[iK]at aa
 simp only[iK,cR]at aa;subst aa;simp only at ym b0 sC x0;have lz:n'*sz<=cur.size:=by rw[b0];exact l1 sz sC
 have dT:=run_storeCells_at P g (i*sz+f) el us 0 cur w x0 Ω (rf al);simp only[Nat.add_zero]at dT;refine⟨g,i*sz+f,_,rfl,dT,?_⟩;generalize o6:(cur.toList.take (i*sz+f)++us++cur.toList.drop (i*sz+f+us.length)).toArray=h5;obtain⟨v',gf,fA,s4,OD⟩:=O7 dX af al (f:=f) (by rw[fD];exact qz) cD;have hJ:=FH hM bD gf (by rw[s4,fD]) OD;have hlen:db.length=n'*sz:=cz.1;have LZ:h5.toList.take (n'*sz)=db.take (i*sz)++v'.cells.toList++db.drop (i*sz+sz):=by rw[<-o6,fA,iW,<-ym];exact Pk cur.toList us (i*sz) f sz (n'*sz) qz hmul (by simpa using lz)
 have Lf:h5.size=cap*sz:=by rw[<-o6,<-b0];simp;omega
 have Rv:(xs.set i (k1 q f cs)).length=n':=by simp[cc]
 obtain⟨OE,_,_⟩:=h.setRowM (w':=w.setRow g h5) U rfl I (bl:=g) rfl (v':= .slice (some ⟨g,0,none⟩) n' cap) rfl (xs':=xs.set i (k1 q f cs)) (us:=db.take (i*sz)++v'.cells.toList++db.drop (i*sz+sz)) (.inl ⟨by simp[cc],rfl⟩) rfl rfl rfl (fun j aC=>setRow_other w g j h5 aC) (setRow_size w g h5)
  ⟨by rw[kZ hJ],.inr ⟨g,cap,h5,by simp[cc],Nat.zero_le _,setRow_heap w g cur h5 el _ x0,by simpa[cc]using sC,qx,Lf,by simpa[cc]using LZ⟩⟩ hJ
 exact⟨_,by simpa[cc]using OE⟩
theorem Ng(z:Array Value)(n:Nat)(h:0<z.size):(madeCells z ((n+1)*z.size)).toList=z.toList++(madeCells z (n*z.size)).toList:=by
 apply List.ext_getElem?;intro j;rw[List.getElem?_append];have he:(n+1)*z.size=n*z.size+z.size:=by rw[Nat.add_mul,Nat.one_mul]
 simp only[madeCells,lZ,Array.length_toList,Array.getElem?_map];by_cases aC:j<z.size
 ·rw[cX aC,Array.getElem?_range,cX Ω];simp[Nat.mod_eq_of_lt aC,aC]
 ·rw[bT aC,Array.getElem?_range,Array.getElem?_range];by_cases U:j<n*z.size+z.size
  ·rw[cX Ω,cX Ω];simp only[l2];rw[<-Nat.mod_eq_sub_mod Ω]
  ·rw[bT Ω,bT Ω]
theorem Ek{w:World}{ν:aA}{p:ae}{z:Value}(hr:aw w ν p z)(h:0<z.cells.size)(ab:∀c∈z.cells.toList,c.oneCell'=true):∀n,bN w ν z.cells.size (List.replicate n p) (madeCells z.cells (n*z.cells.size)).toList
 |0=>by simp[bN,madeCells]
 |n+1=>by rw[Ng _ _ h];simp only[List.replicate_succ,bN];exact⟨z,_,rfl,⟨hr,rfl,ab⟩,Ek hr h ab n⟩
theorem AG{P:bj}{aR:List (Nat×cw)}(az:eD P aR=true){C:c7}{st st':aS}{a:Act}{w:World}{ν:aA}(hr:bH C st a w ν){d el:Nat}{x y:bW}{o:Oper}(ab:k2 C.N aR (.apps d el x y) o=true)
  {c:Prop} (he:rS st d el (bf st.t x) (bf st.t y)=some (c,st')) (al:c) {K:Act->World->Prop} {Q:Exit->Act->World->Prop} (ch:∀ca w' ν',bH C st' ca w' ν'->K ca w'):o.wp P a w K Q:=by
 obtain⟨dst,op,type,pos,after,guard⟩:=o;generalize aM:cH.apps d el x y=i at ab;unfold k2 at ab;dsimp only at ab;split at ab<;>first|(cases aM;done)|(cases ab;done)|skip
 rename_i o' eR t df;cases aM;simp only[bt,cI,eu]at ab;obtain⟨⟨⟨⟨⟨⟨I,J⟩,aO⟩,af⟩,bs⟩,da⟩,eW⟩:=ab;subst I;split at aO
 ·rename_i dc aF;simp only[cI]at aO;subst aO;split at af
  ·rename_i qz;split at bs
   ·rename_i g aG;simp only[bt,cI,eu]at bs;obtain⟨jN,nf⟩:=bs;have rx:=cF hr da;have fT:=cF hr eW;have gw:∀v' w',(l0 #[t,df] type #[a.eval o',a.eval eR]).run P w= .ok v' w'->(execOp a.eval ⟨some d,.call ⟨.builtin .append,⟨[o',eR]⟩,⟨[t,df]⟩⟩,type,pos,after,guard⟩).run P w= .ok (.value v') w':=by intro v' w' eP;simp only[execOp,resolve,invoke,builtin,dk,dP,dr,List.map_toArray,eU,List.map_nil];rw[eP];rfl
    obtain⟨cV,dR,z,ai,aK,bu,cP,fX,gv,mf,j0⟩:=(mI az aG).ex;obtain⟨cx,e4,dj⟩:=eS az aF;obtain rfl:=kE dj;obtain⟨QX,xO,Lm⟩:=eS az qz;obtain rfl:=nX Lm;have ki:z.cells.size=1:=by rw[j0,jN]
    have n9:cV.size=1:=by rw[bu,jN]
    unfold rS at he;split at he
    ·rename_i sz k n s ad b6;split at he
     ·rename_i n' dc cj xs U;split at he
      ·rename_i j8;obtain⟨rfl,rfl,rfl,rfl⟩:=j8;cases he;rw[ad]at rx;rw[b6]at fT;simp only[aw]at rx fT;obtain⟨⟨bx,l9,kq⟩,rxl,n0,lX,dX,fD,iW⟩:=rx;obtain⟨k8,qL⟩:=fT;obtain⟨v0,db,bY,cz,dV,cY⟩:=hr.good.own k _ U;rw[dX]at bY;simp only[cR,fQ]at bY cz;obtain⟨rfl,rfl⟩:=bY;have ie:a.eval o'=lX:=iW rfl;obtain⟨cc,hM,lQ⟩:=cY xs rfl;simp only at cc hM;have ds:(⟨s.toArray⟩:gT).size=s.length:=by simp[Ap]
       have sp:byteCells ⟨s.toArray⟩=s.map fun c=>kt .u8 c.toNat:=by simp[byteCells]
       have mw:db.length=xs.length:=by rw[cc];simpa using cz.1
       have lA:bN w ν 1 (xs++dZ s) (db++byteCells ⟨s.toArray⟩):=by rw[sp];exact ra hM (zs w ν s)
       have dd:(dZ s).length=s.length:=by simp[dZ]
       have iw:(xs.length+s.length)*cV.bytes<=140737488355328:=by
        have iO:cV.bytes<=2048:=by rw[cP];exact nf
        have mm:(xs.length+s.length)*cV.bytes<=(xs.length+s.length)*2048:=Nat.mul_le_mul_left _ iO;simp only[bF]at al;omega
       have iy:xs.length+s.length<=maxLen:=by simp only[bF]at al;simp only[maxLen];omega
       rw[k8,ie]at gw;have pa:∀(base:aW Addr) (cap:Nat),lX= .slice base xs.length cap->n0<=cap->cap<xs.length+s.length->(⟨some d,.call ⟨.builtin .append,⟨[o',eR]⟩,⟨[t,df]⟩⟩,type,pos,after,guard⟩:Oper).wp P a w K Q:=by
        intro base cap hu sC lz;obtain⟨v',w',f1,f2,f3⟩:=FR (P:=P) w t df type dc cV z e4 xO ai gv n9 ki lX xs.length db (by rw[cc];exact cz) ⟨s.toArray⟩ cap base hu (by rw[ds];exact lz) (by rw[ds];exact iy) (by rw[ds];exact iw);rw[ds]at f2;obtain⟨gf,fA⟩:=hr.newRowM (k:=k) (xs:=xs++dZ s) (el:=dc) (sz:=1) (.inr ⟨_,U,by simp[dd];omega⟩) f3 (by rw[e0,dd];exact f2) lA (by rw[e0,dd];exact al) (n':=st.n) (o':=st.o)
         (fun j aC=>⟨aC,fun e=>by subst e;have:=(hr.new _ aC).2.1;rw[dX]at this;cases this⟩)
        refine gS (gw _ _ f1) (ch _ _ (ν.withOwn k (xs++dZ s).length v') ?_);have:=gf.put (d:=some d) (by simpa[e2]using J) (fA (by rw[e0,dd];exact vB f2 Ω));simpa[dB,dd]using this
       rcases cz.2 with⟨gn,nA⟩|⟨bl,cap,cur,gn,nA,nB,tc,td,vF,q7⟩
       ·rw[<-ie,kq]at gn;cases gn
       ·have fZ:lX.ownBlock=some bl:=by rw[gn];rfl
        by_cases iT:xs.length+s.length<=cap
        ·have f1:=O8 (P:=P) w t df type dc cV e4 xO ai n9 bl xs.length cap cur nB ⟨s.toArray⟩ (by rw[ds];exact iT) (by rw[ds];omega);rw[ds]at f1;generalize sO:(cur.toList.take xs.length++byteCells ⟨s.toArray⟩++cur.toList.drop (xs.length+s.length)).toArray=ho at f1;have hG:(w.setRow bl ho).heap[bl]? =some (.cells ho dc (0,0)):=setRow_heap w bl cur ho dc _ nB;have od:(byteCells ⟨s.toArray⟩).length=s.length:=by rw[byteCells_length,ds]
         have ar:(db++byteCells ⟨s.toArray⟩).length=(xs++dZ s).length*1:=by rw[e0,mw,od,e0,dd,Nat.mul_one]
         have bs:cur.toList.take xs.length=db:=by rw[cc];simpa using q7
         have kN:ho.size=cap*1:=by rw[<-sO];simp only[lj,e0,List.length_take,List.length_drop,Array.length_toList,od];omega
         have qK:ho.toList.take ((xs++dZ s).length*1)=db++byteCells ⟨s.toArray⟩:=by rw[<-sO,bs,<-ar];exact List.take_left
         obtain⟨gf,_,fA⟩:=hr.setRowM (w':=w.setRow bl ho) U rfl dX fZ (v':= .slice (some ⟨bl,0,none⟩) (xs.length+s.length) cap) rfl (xs':=xs++dZ s) (us:=db++byteCells ⟨s.toArray⟩)
          (by
           by_cases ck:s=[]
           ·subst ck;exact .inl ⟨by simp[dZ,cc],by rw[gn];simp[cc]⟩
           ·exact .inr (by have:=List.length_pos_iff.2 ck;simp[dd];omega)) rfl rfl rfl (fun j aC=>setRow_other w bl j ho aC) (setRow_size w bl ho)
          ⟨ar,.inr ⟨bl,cap,ho,by simp[dd],Nat.zero_le _,hG,by simpa[dd]using iT,td,kN,qK⟩⟩ lA
         replace fA:=fA (by simpa[dd]using al);refine gS (v:= .slice (some ⟨bl,0,none⟩) (xs.length+s.length) cap) (w':=w.setRow bl ho) (gw _ _ ?_) (ch _ _ (ν.withOwn k (xs++dZ s).length (.slice (some ⟨bl,0,none⟩) (xs.length+s.length) cap)) ?_)
         ·rw[gn,<-cc];exact f1
         ·have:=gf.put (d:=some d) (by simpa[e2]using J) fA;simpa[dB,dd]using this
        ·exact pa _ cap (by rw[gn,<-cc]) tc Ω
      ·cases he
     ·cases he
    ·rename_i sz xs s ad b6;split at he
     ·rename_i dt;obtain rfl:=dt;cases he;obtain⟨kJ,j7,ly⟩:=al;rw[ad]at rx;rw[b6]at fT;simp only[aw]at rx fT;have ie:=rx.2.1 trivial;obtain⟨k8,qL⟩:=fT;have ds:(⟨s.toArray⟩:gT).size=s.length:=by simp[Ap]
      have sp:byteCells ⟨s.toArray⟩=s.map fun c=>kt .u8 c.toNat:=by simp[byteCells]
      have lA:bN w ν 1 (dZ s) (byteCells ⟨s.toArray⟩):=by rw[sp];exact zs w ν s
      have dd:(dZ s).length=s.length:=by simp[dZ]
      have gO:0<s.length:=List.length_pos_iff.2 j7;have iw:(0+s.length)*cV.bytes<=140737488355328:=by
       have iO:cV.bytes<=2048:=by rw[cP];exact nf
       have mm:(0+s.length)*cV.bytes<=(0+s.length)*2048:=Nat.mul_le_mul_left _ iO;simp only[bF]at ly;omega
      have iy:0+s.length<=maxLen:=by simp only[bF]at ly;simp only[maxLen];omega
      rw[k8,ie]at gw;obtain⟨v',w',f1,f2,f3⟩:=FR (P:=P) w t df type el cV z e4 xO ai gv n9 ki (.slice none 0 0) 0 [] ⟨rfl,.inl ⟨rfl,rfl⟩⟩ ⟨s.toArray⟩ 0 none rfl (by rw[ds];omega) (by rw[ds];exact iy) (by rw[ds];exact iw);rw[ds,Nat.zero_add,dx]at f2;have ka:fresh st.n st.o (.obj 862):=⟨trivial,kJ⟩;obtain⟨gf,fA⟩:=hr.newRowM (k:= .obj 862) (xs:=dZ s) (el:=el) (sz:=1) (.inl (hr.new _ ka)) f3 (by rw[dd];exact f2) lA (by rw[dd];exact ly) (n':=st.n) (o':= .obj 862::st.o)
       (fun j aC=>⟨⟨aC.1,fun h=>aC.2 (List.mem_cons_of_mem _ h)⟩,fun e=>by subst e;exact aC.2 Ψ⟩)
      refine gS (gw _ _ f1) (ch _ _ (ν.withOwn (.obj 862) (dZ s).length v') ?_);have:=gf.put (d:=some d) (by simpa[e2]using J) (fA (by rw[dd];exact vB f2 gO));simpa[dB,dd]using this
     ·cases he
    ·cases he
   ·cases bs
  ·cases af
 ·cases aO
theorem gg{P:bj}{aR:List (Nat×cw)}(az:eD P aR=true){C:c7}{st st':aS}{a:Act}{w:World}{ν:aA}(hr:bH C st a w ν){i:cH}{o:Oper}(ab:k2 C.N aR i o=true)
  {κ:av} {n':Nat} {o₁:List av} (ni:i.makes st=true->fresh st.n st.o κ) (gL:i.makes st=true->∀j,fresh n' o₁ j->fresh st.n st.o j/\j≠κ) {c:Prop} (he:cW κ n' o₁ st i=some (c,st')) (al:c) {K:Act->World->Prop} {Q:Exit->Act->World->Prop} (ch:∀ca w' ν',bH C st' ca w' ν'->K ca w') (hB:i.bok κ:=by first|trivial|(intro h;cases h)):o.wp P a w K Q:=by
 obtain⟨dst,op,type,pos,after,guard⟩:=o;unfold k2 at ab;dsimp only at ab;split at ab
 ·rename_i d key t;simp only[bt,cI,eu]at ab;obtain⟨⟨rfl,J⟩,_⟩:=ab;simp only[cW]at he;cases he;obtain⟨g1,g2⟩:=hr.newBox (hr.new _ (ni rfl)) (gL rfl) (cs:=[.hdm 0 []]) (us:= #[]) ⟨0,fun e=>absurd e hB⟩ (by simp only[eZ];exact⟨by simp[bG],⟨rfl,Ψ,Ψ⟩⟩);refine gS (v:= .map (some w.heap.size)) (w':=w.alloc (.map #[] 0)) ?_ (ch _ _ _ (g1.put (d:=some d) (by simpa[e2]using J) (p:= .gmap κ) ?_))
  ·simp only[execOp,Instr.makeMap,Option.map_none,dk,run_newObj,dr,dP];rfl
  ·simp[aw,aA.withBox]
 ·rename_i bo x k v t hY gQ jw;simp only[bt,cI]at ab;obtain⟨⟨⟨⟨rfl,I⟩,J⟩,aj⟩,aO⟩:=ab;have rx:=cF hr J;have nF:=cF hr aj;have pP:=cF hr aO;split at I
  ·rename_i sz hh e6 jK z aF;obtain⟨ec,hu,dj⟩:=eS az aF;have kK:ec= .map e6 jK:=by cases ec<;>simp[hC]at dj;obtain⟨rfl,rfl⟩:=dj;rfl
   subst kK;have hV:=yG az I;simp only[cW]at he;split at he
   ·rename_i m ad;rw[ad]at rx;simp only[aw]at rx;obtain⟨bl,bJ,bQ⟩:=rx;split at he
    ·rename_i cs b0;split at he
     ·rename_i cs' hm;cases he;obtain⟨fb,us,el,bY,cz,dV,cY,cc⟩:=hr.good.box m cs b0;rw[bJ]at bY;cases bY;unfold qW at hm;split at hm
      ·rename_i clock borns kvs;split at hm
       ·cases hm
       rename_i oa;simp only[fq]at cY;simp only[eZ]at cc;have hF:=nI (P:=P) cY;have n8:=zC (P:=P) (w:=w) hV false nF (by simpa using oa);have bS:bl<w.heap.size:=(Array.getElem?_eq_some_iff.1 cY).1;have jo:∀(o':Obj) (a1:Array Value) (cx:List ae),(Instr.mapUpdate t (a.eval hY) (a.eval gQ) (a.eval jw)).run P w= .ok () {w with heap:=w.heap.setIfInBounds bl o'}->fq cx a1 el.1=o'->eZ w ν cx a1.toList->some cx=some cs'->
         (⟨none,.mapUpdate t hY gQ jw,type,pos,after,guard⟩:Oper).wp P a w K Q:=by
        intro o' a1 cx eP sE hJ e4;cases e4;refine tE (w':={w with heap:=w.heap.setIfInBounds bl o'}) ?_ (ch _ _ _ (hr.setBox (w':={w with heap:=w.heap.setIfInBounds bl o'}) b0 bJ (us:=a1) (el:=el) rfl rfl rfl (fun j aC=>?_) Ψ ?_ hJ).1)
        ·simp only[execOp,eP,dk,dr,dP]
        ·exact Array.getElem?_setIfInBounds_ne (Ne.symm aC)
        ·rw[sE];simp[bS]
       split at hm
       ·rename_i ou pf;obtain⟨j,u,a1,e,f1,f2,f3,f4,f5,f6,f7⟩:=sZ hV nF pP borns kvs us.toList 0 _ cc.1 cc.2.len pf;refine jo (.map (dF borns a1).toArray clock) a1.toArray (.hdm clock borns::ou) ?_ (by simp[fq]) (by simp only[eZ];exact⟨by simpa using f2,⟨by rw[f3];exact cc.2.len,cc.2.inc,cc.2.lt⟩⟩) hm;have yl:(Instr.keyThatStays (((dF borns us.toList).toArray[j]?.map (·.key)).getD (a.eval gQ)) (a.eval gQ)).run P w= .ok (a.eval gQ) w:=by
         have:((dF borns us.toList).toArray[j]?.map (·.key)).getD (a.eval gQ)=e.key:=by simp[f4]
         rw[this];simp[Instr.keyThatStays,f6]
        simp only[Nat.zero_add]at f1;simp only[Instr.mapUpdate,dk,run_underlying hu,dr,bQ,hF,n8,f1.run hV,dP,yl,tt cY];rw[f7];simp
       ·rename_i pf;have f1:=sZ hV nF pP borns kvs us.toList 0 _ cc.1 cc.2.len pf;simp only at f1;have lG:us.toList.length=2*borns.length:=by rw[vT cc.1,cc.2.len]
        refine jo (.map ((dF borns us.toList).toArray.push ⟨a.eval gQ,a.eval jw,clock⟩) (clock+1)) (us.toList++[a.eval gQ,a.eval jw]).toArray (.hdm (clock+1) (borns++[clock])::(kvs++[bf st.t k,bf st.t v])) ?_ (by simp only[fq,xa borns us.toList clock _ _ lG];simp) ?_ hm
        ·simp only[Instr.mapUpdate,dk,run_underlying hu,dr,bQ,hF,n8,f1.run hV,dP,tt cY]
        ·simp only[eZ];refine⟨zy cc.1 (by simp only[bG];exact⟨_,_,rfl,nF,_,_,rfl,pP,rfl⟩),⟨by simp[cc.2.len];omega,?_,?_⟩⟩
         ·rw[List.pairwise_append];exact⟨cc.2.inc,Ψ,fun x ad y b6=>by simp at b6;subst b6;exact cc.2.lt x ad⟩
         ·intro b aa;rcases ht.1 aa with aa|aa
          ·have:=cc.2.lt b aa;omega
          ·simp at aa;omega
       ·cases hm
      ·cases hm
     ·cases he
    ·cases he
   ·cases he
  ·cases I
 ·rename_i bo x k v t hY gQ jw;simp only[bt,cI]at ab;obtain⟨⟨⟨⟨rfl,I⟩,J⟩,aj⟩,aO⟩:=ab;have rx:=cF hr J;have nF:=cF hr aj;have pP:=cF hr aO;split at I
  ·rename_i sz hh e6 jK z aF;obtain⟨ec,hu,dj⟩:=eS az aF;have kK:ec= .map e6 jK:=by cases ec<;>simp[hC]at dj;obtain⟨rfl,rfl⟩:=dj;rfl
   subst kK;have hV:=yG az I;simp only[cW]at he;split at he
   ·rename_i m ad;rw[ad]at rx;simp only[aw]at rx;obtain⟨bl,bJ,bQ⟩:=rx;split at he
    ·rename_i cs b0;split at he
     ·rename_i cs' hm;cases he;obtain⟨fb,us,el,bY,cz,dV,cY,cc⟩:=hr.good.box m cs b0;rw[bJ]at bY;cases bY;unfold qW at hm;split at hm
      ·rename_i clock borns kvs;split at hm
       ·cases hm
       rename_i oa;simp only[fq]at cY;simp only[eZ]at cc;have hF:=nI (P:=P) cY;have n8:=zC (P:=P) (w:=w) hV false nF (by simpa using oa);have bS:bl<w.heap.size:=(Array.getElem?_eq_some_iff.1 cY).1;have jo:∀(o':Obj) (a1:Array Value) (cx:List ae),(Instr.mapUpdate t (a.eval hY) (a.eval gQ) (a.eval jw)).run P w= .ok () {w with heap:=w.heap.setIfInBounds bl o'}->fq cx a1 el.1=o'->eZ w ν cx a1.toList->some cx=some cs'->
         (⟨none,.mapUpdate t hY gQ jw,type,pos,after,guard⟩:Oper).wp P a w K Q:=by
        intro o' a1 cx eP sE hJ e4;cases e4;refine tE (w':={w with heap:=w.heap.setIfInBounds bl o'}) ?_ (ch _ _ _ (hr.setBox (w':={w with heap:=w.heap.setIfInBounds bl o'}) b0 bJ (us:=a1) (el:=el) rfl rfl rfl (fun j aC=>?_) Ψ ?_ hJ).1)
        ·simp only[execOp,eP,dk,dr,dP]
        ·exact Array.getElem?_setIfInBounds_ne (Ne.symm aC)
        ·rw[sE];simp[bS]
       split at hm
       ·rename_i ou pf;obtain⟨j,u,a1,e,f1,f2,f3,f4,f5,f6,f7⟩:=sZ hV nF pP borns kvs us.toList 0 _ cc.1 cc.2.len pf;refine jo (.map (dF borns a1).toArray clock) a1.toArray (.hdm clock borns::ou) ?_ (by simp[fq]) (by simp only[eZ];exact⟨by simpa using f2,⟨by rw[f3];exact cc.2.len,cc.2.inc,cc.2.lt⟩⟩) hm;have yl:(Instr.keyThatStays (((dF borns us.toList).toArray[j]?.map (·.key)).getD (a.eval gQ)) (a.eval gQ)).run P w= .ok (a.eval gQ) w:=by
         have:((dF borns us.toList).toArray[j]?.map (·.key)).getD (a.eval gQ)=e.key:=by simp[f4]
         rw[this];simp[Instr.keyThatStays,f6]
        simp only[Nat.zero_add]at f1;simp only[Instr.mapUpdate,dk,run_underlying hu,dr,bQ,hF,n8,f1.run hV,dP,yl,tt cY];rw[f7];simp
       ·rename_i pf;have f1:=sZ hV nF pP borns kvs us.toList 0 _ cc.1 cc.2.len pf;simp only at f1;have lG:us.toList.length=2*borns.length:=by rw[vT cc.1,cc.2.len]
        refine jo (.map ((dF borns us.toList).toArray.push ⟨a.eval gQ,a.eval jw,clock⟩) (clock+1)) (us.toList++[a.eval gQ,a.eval jw]).toArray (.hdm (clock+1) (borns++[clock])::(kvs++[bf st.t k,bf st.t v])) ?_ (by simp only[fq,xa borns us.toList clock _ _ lG];simp) ?_ hm
        ·simp only[Instr.mapUpdate,dk,run_underlying hu,dr,bQ,hF,n8,f1.run hV,dP,tt cY]
        ·simp only[eZ];refine⟨zy cc.1 (by simp only[bG];exact⟨_,_,rfl,nF,_,_,rfl,pP,rfl⟩),⟨by simp[cc.2.len];omega,?_,?_⟩⟩
         ·rw[List.pairwise_append];exact⟨cc.2.inc,Ψ,fun x ad y b6=>by simp at b6;subst b6;exact cc.2.lt x ad⟩
         ·intro b aa;rcases ht.1 aa with aa|aa
          ·have:=cc.2.lt b aa;omega
          ·simp at aa;omega
       ·cases hm
      ·cases hm
     ·cases he
    ·cases he
   ·cases he
  ·cases I
 ·rename_i d key x t hY;simp only[bt,cI,eu]at ab;obtain⟨⟨⟨⟨rfl,J⟩,I⟩,aj⟩,_⟩:=ab;have rx:=cF hr aj;split at I
  ·rename_i sz hh e6 jK z aF;obtain⟨ec,hu,dj⟩:=eS az aF;have kK:ec= .map e6 jK:=by cases ec<;>simp[hC]at dj;obtain⟨rfl,rfl⟩:=dj;rfl
   subst kK;simp only[cW]at he;split at he
   ·rename_i m ad;rw[ad]at rx;have Pb:=rx;simp only[aw]at rx;obtain⟨bl,bJ,bQ⟩:=rx;split at he
    ·rename_i cs b0;split at he
     ·rename_i cs' hm;cases he;obtain⟨fb,us,el,bY,cz,dV,cY,cc⟩:=hr.good.box m cs b0;rw[bJ]at bY;cases bY;unfold vN at hm;split at hm
      ·rename_i clock borns kvs;cases hm;simp only[fq]at cY;have hF:=nI (P:=P) cY;obtain⟨g1,g2⟩:=hr.newBox (hr.new _ (ni rfl)) (gL rfl) (cs:=[.hdi clock [] clock,.gmap m]) (us:= #[a.eval hY]) ⟨0,fun e=>absurd e hB⟩ (by simp only[eZ,bG];exact⟨_,_,rfl,Pb,rfl⟩);have sE:fq [.hdi clock [] clock,.gmap m] #[a.eval hY] 0= .mapIter (some bl) clock #[] clock:=by simp[fq,bQ]
       rw[sE]at g1 g2;refine gS (v:= .pointer (some ⟨w.heap.size,0,none⟩)) (w':=w.alloc (.mapIter (some bl) clock #[] clock)) ?_ (ch _ _ _ (g1.put (d:=some d) (by simpa[e2]using J) (p:= .ptr κ 0) g2))
       ·simp only[execOp];refine tD ?_;simp only[Instr.range,dk,run_underlying hu,dr,bQ,hF,dP,run_newObj];rfl
      ·cases hm
     ·cases he
    ·cases he
   ·cases he
  ·cases I
 ·rename_i d S5;simp only[bt,cI,eu]at ab;obtain⟨⟨I,J⟩,aj⟩:=ab;subst I;simp only[cW]at he;split at he
  ·rename_i fe p aH;cases he;obtain⟨v,g1,g2⟩:=PB (o:=⟨some d,op,type,pos,after,guard⟩) az hr aj aH al;refine gS g1 (ch _ _ ν ?_);exact hr.put (d:=some d) (by simpa[e2]using J) g2
  ·cases he
 ·rename_i d key x el o';simp only[bt,cI,eu]at ab;obtain⟨⟨⟨I,J⟩,aj⟩,hj⟩:=ab;subst I;simp only[cW]at he;cases he;have ad:=cF hr aj;have jn:=nD ad al;obtain⟨g1,g2⟩:=hr.newBox (hr.new _ (ni rfl)) (gL rfl) ⟨el,fun e=>by have:=hB e;subst this;simpa using hj⟩ (by rw[jT (pL jn)];exact jn);rw[kn (pL jn)]at g1 g2;refine gS (v:= .pointer (some ⟨w.heap.size,0,none⟩)) (w':=w.alloc (.cells (a.eval o').cells el)) ?_ (ch _ _ _ (g1.put (d:=some d) (by simpa[e2]using J) (p:= .ptr κ 0) ?_))
  ·simp only[execOp,Instr.box,newVar,newRow,dk,run_newObj,dr,dP];rfl
  ·simpa only[aw]using g2
 ·rename_i d key z el;simp only[bt,cI,eu]at ab;obtain⟨⟨⟨I,J⟩,aj⟩,hj⟩:=ab;subst I;simp only[cW]at he;cases he;split at aj
  ·rename_i f aF;have ed:=Am aj;obtain⟨bC,pZ,z2,z3⟩:=zT az aF w;rw[<-ed]at z2;obtain⟨_,jn⟩:=Al w ν z2;obtain⟨g1,g2⟩:=hr.newBox (hr.new _ (ni rfl)) (gL rfl) ⟨el,fun e=>by have:=hB e;subst this;simpa using hj⟩ (by rw[jT (pL jn)];exact jn);rw[kn (pL jn)]at g1 g2;refine gS (v:= .pointer (some ⟨w.heap.size,0,none⟩)) (w':=w.alloc (.cells bC.cells el)) ?_ (ch _ _ _ (g1.put (d:=some d) (by simpa[e2]using J) (p:= .ptr κ 0) ?_))
   ·simp only[execOp,Instr.alloc,newVar,newRow,dk,pZ,run_newObj,dr,dP];rfl
   ·simpa only[aw]using g2
  ·cases aj
 ·rename_i sz x y t o' eR;simp only[bt,cI]at ab;obtain⟨⟨⟨I,J⟩,aj⟩,aO⟩:=ab;subst I;split at J
  ·rename_i f aF;simp only[cI]at J;simp only[cW]at he;split at he
   ·rename_i k off ad;split at he
    ·rename_i cs b0;cases he;obtain⟨c0,cO,c2,c3⟩:=al;have rx:=cF hr aj;rw[ad]at rx;simp only[aw]at rx;obtain⟨bl,bJ,bQ⟩:=rx;have fT:=cF hr aO;have nC:=nD fT cO;have nG:=jV nC;obtain⟨fb,us,el,bY,cz,dV,cY,cc⟩:=hr.good.box k cs b0;rw[bJ]at bY;cases bY;rw[kn c0]at cY;rw[jT c0]at cc;have bm:=jV cc;obtain⟨_,dt⟩:=nK az aF w;have nn:(a.eval eR).cells.size=sz:=by rw[c2]at nG;simpa using nG
     have dT:=run_storeCells_at (P:=P) bl off el.1 (a.eval eR).cells.toList 0 us w cY (by simp at bm⊢;omega) (rf nC);simp only[Nat.add_zero]at dT;refine tE (w':=w.setRow bl (us.toList.take off++(a.eval eR).cells.toList++us.toList.drop (off+(a.eval eR).cells.toList.length)).toArray) ?_ (ch _ _ _ (hr.storeBox b0 bJ c0 ?_))
     ·simp only[execOp,Instr.storeAt,bQ,Instr.sureAddr,storeVar,dk,dP,dr,dt,nn,J,ne_eq,not_true_eq_false,if_false,dT]
     ·simp only[jA];rw[nG];exact pK (pK (tl off cc) nC) (re _ cc)
    ·cases he
   ·rename_i ad;generalize yc:bf st.t x=px at he;unfold k3 at he;split at he
    ·rename_i cj k n i mj;split at he
     ·rename_i n' el fL xs U;split at he
      ·rename_i x9;obtain⟨rfl,rfl⟩:=x9;split at he
       ·rename_i q bD;cases he;obtain⟨c0,cO,c2,c3,c4⟩:=al;have rx:=cF hr aj;rw[yc]at rx;have fT:=cF hr aO;have nC:=nD fT cO;have nG:=jV nC;obtain⟨_,dt⟩:=nK az aF w;have nn:(a.eval eR).cells.size=sz:=by rw[c2]at nG;simpa using nG
        obtain⟨bl,off,h5,sG,dT,ν',kf⟩:=hr.storeRow (P:=P) U rx bD c0 nC (by simpa[nn]using c3) (fun e=>by have:=cB List.length e;simp[nn]at this;omega);refine tE (w':=w.setRow bl h5) ?_ (ch _ _ _ kf);simp only[execOp,Instr.storeAt,sG,Instr.sureAddr,storeVar,dk,dP,dr,dt,nn,J,ne_eq,not_true_eq_false,if_false,dT]
       ·cases he
      ·cases he
     ·cases he
    ·cases he
  ·cases J
 ·rename_i d sz el xs t len parts;simp only[bt,cI,eu]at ab;obtain⟨⟨⟨⟨⟨⟨I,J⟩,aj⟩,aO⟩,bs⟩,da⟩,eW⟩:=ab;subst I;subst bs;split at aj
  ·rename_i dc aF;simp only[cI]at aj;subst aj;split at aO
   ·rename_i g aG;simp only[bt,cI,eu]at aO;obtain⟨rfl,gO⟩:=aO;simp only[cW]at he;cases he;obtain⟨us,g1,g2,g3⟩:=FT az hr aF rfl aG eW al da;have gN:(w.alloc (.cells us el)).ownsRow w.heap.size el g.size (.slice (some ⟨w.heap.size,0,none⟩) xs.length xs.length) (xs.map (bf st.t)).length us.toList:=by
     refine⟨by simp[g3],.inr ⟨w.heap.size,xs.length,us,Ψ,dY _,heap_alloc_new w _,Ψ,?_,g3,?_⟩⟩
     ·simp only[maxLen];have:xs.length<=xs.length*g.size:=Nat.le_mul_of_pos_right _ gO;omega
     ·rw[List.take_of_length_le];simp[g3]
    obtain⟨dX,fD⟩:=hr.newRow (k:=κ) (xs:=xs.map (bf st.t)) (.inl (hr.new _ (ni rfl))) (World.grownBy_alloc w _ none) gN g2
     (by have:xs.length<=xs.length*g.size:=Nat.le_mul_of_pos_right _ gO;simp only[bF,List.length_map];omega) (gL rfl)
    simp only[List.length_map]at dX fD;refine gS (v:= .slice (some ⟨w.heap.size,0,none⟩) xs.length xs.length) (w':=w.alloc (.cells us el)) ?_ (ch _ _ _ (dX.put (d:=some d) (by simpa[e2]using J) (p:= .slice g.size (.own κ) (xs.map (bf st.t))) fD));have be:(parts.map fun(x:Nat×Operand)=>(x.1,a.eval x.2))=(parts.toList.map fun(x:Nat×Operand)=>(x.1,a.eval x.2)).toArray:=by apply Array.ext';simp
    simp only[execOp];refine tD ?_;rw[<-g1];congr 2
   ·cases aO
  ·cases aj
 ·rename_i d sz el x y o' eR t df;simp only[bt,cI,eu]at ab;obtain⟨⟨⟨⟨⟨⟨I,J⟩,aj⟩,aO⟩,bs⟩,da⟩,eW⟩:=ab;subst I;subst aj;split at aO
  ·rename_i dc aF;simp only[cI]at aO;subst aO;split at bs
   ·rename_i g aG;simp only[bt,cI,eu]at bs;obtain⟨⟨rfl,gO⟩,nf⟩:=bs;have rx:=cF hr da;have fT:=cF hr eW;have gw:∀v' w',(l0 #[t,t] type #[a.eval o',a.eval eR]).run P w= .ok v' w'->(execOp a.eval ⟨some d,.call ⟨.builtin .append,⟨[o',eR]⟩,⟨[t,t]⟩⟩,type,pos,after,guard⟩).run P w= .ok (.value v') w':=by intro v' w' eP;simp only[execOp,resolve,invoke,builtin,dk,dP,dr,List.map_toArray,eU,List.map_nil];rw[eP];rfl
    obtain⟨cV,dR,z,ai,aK,bu,cP,fX,gv,mf,j0⟩:=(mI az aG).ex;obtain⟨cx,e4,dj⟩:=eS az aF;obtain rfl:=kE dj;simp only[cW]at he;split at he
    ·rename_i cj tag xs fL hd ys ad b6;split at he
     ·rename_i ds;obtain⟨rfl,ds⟩:=ds;subst ds;rw[ad]at rx;rw[b6]at fT;simp only[aw]at rx fT;obtain⟨⟨ax,l9,kq,cx1,⟨BZ,B0⟩,cx4⟩,rxn,rxo,rxt⟩:=rx;obtain⟨⟨ay,hz,k8,cy1,⟨B1,B2⟩,cy4⟩,_⟩:=fT;split at he
      ·rename_i k;split at he
       ·rename_i ow U;cases he;obtain⟨cO,c2,c3,c4⟩:=al;subst c2;obtain⟨n0,lX,dX,fD,iW⟩:=rxo k rfl;obtain⟨v0,db,bY,cz,dV,_⟩:=hr.good.own k ow U;rw[dX]at bY;simp only[cR,fQ]at bY;obtain⟨rfl,rfl⟩:=bY;have ie:a.eval o'=lX:=iW cO.symm;by_cases kh:ys=[]
        ·subst kh;rw[k8,kq]at gw;have eP:=vX (P:=P) (w:=w) (ty:=type) e4 ai ax xs.length l9 cx1 ay hz;refine gS (gw _ _ (by simpa using eP)) (ch _ _ ν ?_);have dT:{st with t:=put d (.slice ow.sz (.own k) (xs++[])) st.t,e:=bV k ⟨xs.length+([]:List ae).length,ow.el,ow.sz,none⟩ st.e}=({st with e:=bV k ⟨ow.n,ow.el,ow.sz,none⟩ st.e,t:=put d (.slice ow.sz (.own k) xs) st.t}:aS):=by simp[cO]
         rw[<-c3,dT];have kd:=hr.forgetRow U;refine kd.put (d:=some d) (by simpa[e2]using J) (p:= .slice ow.sz (.own k) xs) ?_;simp only[aw];rw[<-c3]at cx4;exact⟨⟨ax,l9,rfl,cx1,⟨BZ,B0⟩,cx4⟩,fun e=>(by cases e),(fun g e=>by cases e;exact⟨_,_,dX,fD,fun e=>by rw[<-kq];exact iW e⟩),fun _ _ e=>(by cases e),fun _ e=>(by cases e)⟩
        ·have hyp:0<ys.length:=by cases ys<;>simp at kh⊢
         rcases cy4 with cy4|⟨hh,iE,eI,rfl,pA,h6⟩
         ·exact absurd cy4 kh
         ·have hH:=kZ h6;have lB:∀j u,eI[j]? =some u->w.cell? ((⟨hh,iE,none⟩:Addr).add j)=some u:=fun j u aC=>by rw[jg];exact(nr pA aC).2
          have iw:(xs.length+ys.length)*cV.bytes<=140737488355328:=by
           have iO:cV.bytes<=2048:=by rw[cP];exact nf
           have mm:(xs.length+ys.length)*cV.bytes<=(xs.length+ys.length)*2048:=Nat.mul_le_mul_left _ iO;simp only[bF]at c4;omega
          have iy:xs.length+ys.length<=maxLen:=by simp only[bF]at c4;simp only[maxLen];omega
          rw[k8]at gw;have mw:db.length=ow.n*ow.sz:=cz.1;have ki:z.cells.size=cV.size:=by rw[j0,bu]
          have pa:(∀cur,cU->cur=(0:Nat))->(∃v' w',(l0 #[t,t] type #[a.eval o',.slice (some ⟨hh,iE,none⟩) ys.length hz]).run P w= .ok v' w'/\w'.ownsRow w.heap.size ow.el cV.size v' (xs.length+ys.length) (db++eI)/\w.grownBy w' none/\bN w ν cV.size xs db)->
            (⟨some d,.call ⟨.builtin .append,⟨[o',eR]⟩,⟨[t,t]⟩⟩,type,pos,after,guard⟩:Oper).wp P a w K Q:=by
           intro _ bP;obtain⟨v',w',f1,f2,f3,f4⟩:=bP;have lA:bN w ν cV.size (xs++ys) (db++eI):=ra f4 (by rw[bu];exact h6);obtain⟨gf,fA⟩:=hr.newRow (k:=k) (xs:=xs++ys) (.inr ⟨ow,U,by rw[cO];simp;omega⟩) f3 (by simpa using f2) lA (by simpa using c4) (n':=st.n) (o':=st.o)
            (fun j aC=>⟨aC,fun e=>by subst e;have:=(hr.new _ aC).2.1;rw[dX]at this;cases this⟩)
           refine gS (gw _ _ f1) (ch _ _ ((ν.withOwn k (xs++ys).length v').withRowOf k v' (xs++ys).length ((xs++ys).length*cV.size)) ?_);have:=gf.put (d:=some d) (by simpa[e2]using J) fA;simpa[bu,dB]using this
          rcases cz.2 with⟨gn,nA⟩|⟨bl,cap,cur,gn,nA,nB,tc,td,vF,q7⟩
          ·
           have kQ:xs=[]:=mJ Ω;have yp:db=[]:=mJ (by rw[mw,nA];simp);subst kQ;subst yp;refine pa (fun _ h=>h.elim) ?_;obtain⟨v',w',f1,f2,f3,_⟩:=run_append_own (P:=P) w w.heap.size t type ow.el cV z cV.size cV.bytes e4 ai gv rfl rfl ki (by rw[bu];exact gO) (.slice none 0 0) 0 [] (World.ownsRow_nil w _ _ _)
            ⟨hh,iE,none⟩ ys.length hz eI (by rw[hH,bu]) lB (pJ h6) (by simpa using iy) (by simpa using iw) (dY _)
           refine⟨v',w',by rw[ie,gn];exact f1,by simpa using f2,by simpa[iK]using f3,by simp[bN]⟩
          ·have LK:gP w ν.A bl 0 db/\bN w ν cV.size xs db/\True:=by
            rw[ie,gn]at kq;rcases cx4 with cx4|⟨e1,Sg,zY,f1,f2,f3⟩
            ·subst cx4;have:db=[]:=mJ (by rw[mw,cO];simp);subst this;exact⟨trivial,by simp[bN],trivial⟩
            ·subst f1;injection kq with vx1 vx2 vx3;injection vx1 with vx1;injection vx1 with vx1 vx4;subst vx1;subst vx4;have heq:zY=db:=by
              apply List.ext_getElem?;intro j;have lG:zY.length=db.length:=by rw[kZ f3,mw,cO,c3]
              by_cases aC:j<zY.length
              ·have I:=(nr f2 (eo aC)).2;rw[Nat.zero_add]at I;have J:=cz.cells (g:=bl) (by rw[gn];rfl) j db[j] (eo Ω);rw[jg,Nat.zero_add,I]at J;rw[eo aC,eo Ω];exact J
              ·rw[List.getElem?_eq_none Ω,List.getElem?_eq_none Ω]
             subst heq;exact⟨f2,by rw[bu];exact f3,trivial⟩
           obtain⟨Dn,ix,_⟩:=LK;by_cases iT:xs.length+ys.length<=cap
           ·have Rm:cur.size=cap*ow.sz:=vF;have hmul:(xs.length+ys.length)*ow.sz<=cap*ow.sz:=l1 _ iT;rw[Nat.add_mul]at hmul;have f1:=run_append_room (P:=P) w t type ow.el cV e4 ai bl xs.length cap cur nB ⟨hh,iE,none⟩ ys.length hz eI (by rw[hH,bu]) lB (pJ h6) iT (by rw[hH,bu,<-c3];omega);obtain⟨gf,fA⟩:=hr.inPlace U (bl:=bl) (cap:=cap) (cur:=cur) (by rw[dX,<-gn]) nB td vF (xs:=xs) (ys:=ys) (us:=db) (ns:=eI) cO.symm q7 (by rw[c3,<-bu];exact ix) (by rw[c3];exact h6) hyp (by rw[cO];exact iT) c4;refine gS (v:= .slice (some ⟨bl,0,none⟩) (ow.n+ys.length) cap) (w':=w.setRow bl (db++eI++cur.toList.drop (ow.n*ow.sz+eI.length)).toArray) (gw _ _ ?_)
             (ch _ _ (ν.withRowOf k (.slice (some ⟨bl,0,none⟩) (ow.n+ys.length) cap) (ow.n+ys.length) ((ow.n+ys.length)*ow.sz)) ?_)
            ·rw[ie,gn,cO,f1,<-q7,cO,c3,bu]
            ·have:=gf.put (d:=some d) (by simpa[e2]using J) fA;simpa[cO,c3,dB]using this
           ·refine pa (fun _ h=>h.elim) ?_;obtain⟨v',w',f1,f2,f3⟩:=run_append_arg_grows (P:=P) w t type ow.el cV z cV.size cV.bytes e4 ai gv rfl rfl ki (by rw[bu];exact gO) ⟨bl,0,none⟩ xs.length cap db (by rw[mw,cO,c3,bu])
             (fun j u aC=>by rw[jg];exact(nr Dn aC).2) ⟨hh,iE,none⟩ ys.length hz eI (by rw[hH,bu]) lB Ω iy iw
            exact⟨v',w',by rw[ie,gn,cO];exact f1,f2,f3,ix⟩
       ·cases he
      ·cases he;have uS:=rxn rfl;have kQ:xs=[]:=by rw[uS]at kq;injection kq with _ aK;exact mJ aK.symm
       subst kQ;have pe:(cH.app d g.size el x y).makes st=true:=by simp only[cH.makes,ad]
       have ki:z.cells.size=cV.size:=by rw[j0,bu]
       rw[k8,uS]at gw;have jo:∀(v':Value) (w':World) (eI:List Value),(l0 #[t,t] type #[.slice none 0 0,.slice ay ys.length hz]).run P w= .ok v' w'->w'.ownsRow w.heap.size el g.size v' ys.length eI->w.grownBy w' none->bN w ν g.size ys eI->
         (⟨some d,.call ⟨.builtin .append,⟨[o',eR]⟩,⟨[t,t]⟩⟩,type,pos,after,guard⟩:Oper).wp P a w K Q:=by
        intro v' w' eI f1 f2 f3 f4;obtain⟨gf,fA⟩:=hr.newRow (k:=κ) (xs:=ys) (.inl (hr.new _ (ni pe))) f3 f2 f4 al (gL pe);exact gS (gw _ _ f1) (ch _ _ _ (gf.put (d:=some d) (by simpa[e2]using J) fA))
       by_cases kh:ys=[]
       ·subst kh;exact jo _ w [] (vX e4 ai none 0 0 (dY _) ay hz) (World.ownsRow_nil w _ _ _) (P7 w _) (by simp[bN])
       ·rcases cy4 with cy4|⟨hh,iE,eI,rfl,pA,h6⟩
        ·exact absurd cy4 kh
        ·have hH:=kZ h6;have lB:∀j u,eI[j]? =some u->w.cell? ((⟨hh,iE,none⟩:Addr).add j)=some u:=fun j u aC=>by rw[jg];exact(nr pA aC).2
         have iw:ys.length*cV.bytes<=140737488355328:=by
          have I:cV.bytes<=2048:=by rw[cP];exact nf
          have J:ys.length*cV.bytes<=ys.length*2048:=Nat.mul_le_mul_left _ I;simp only[bF]at al;omega
         have iy:ys.length<=maxLen:=by simp only[bF]at al;simp only[maxLen];omega
         obtain⟨v',w',f1,f2,f3,_⟩:=run_append_own (P:=P) w w.heap.size t type el cV z cV.size cV.bytes e4 ai gv rfl rfl ki (by rw[bu];exact gO) (.slice none 0 0) 0 [] (World.ownsRow_nil w _ _ _)
          ⟨hh,iE,none⟩ ys.length hz eI (by rw[hH,bu]) lB (pJ h6) (by simpa using iy) (by simpa using iw) (dY _)
         exact jo v' w' eI f1 (by rw[<-bu];simpa using f2) (by simpa[iK]using f3) h6
      ·cases he
     ·cases he
    ·cases he
   ·cases bs
  ·cases aO
 ·rename_i d key sz el xs t len parts;simp only[bt,cI,eu]at ab;obtain⟨⟨⟨⟨⟨⟨I,J⟩,aj⟩,aO⟩,bs⟩,da⟩,eW⟩:=ab;subst I;subst bs;split at aj
  ·rename_i dc aF;simp only[cI]at aj;subst aj;split at aO
   ·rename_i g aG;simp only[bt,cI,eu]at aO;obtain⟨rfl,gO⟩:=aO;simp only[cW]at he;cases he;obtain⟨us,g1,g2,g3⟩:=FT az hr aF rfl aG eW al da;have gN:(w.alloc (.cells us el)).ownsRow w.heap.size el g.size (.slice (some ⟨w.heap.size,0,none⟩) xs.length xs.length) (xs.map (bf st.t)).length us.toList:=by
     refine⟨by simp[g3],.inr ⟨w.heap.size,xs.length,us,Ψ,dY _,heap_alloc_new w _,Ψ,?_,g3,?_⟩⟩
     ·simp only[maxLen];have:xs.length<=xs.length*g.size:=Nat.le_mul_of_pos_right _ gO;omega
     ·rw[List.take_of_length_le];simp[g3]
    obtain⟨dX,fD⟩:=hr.newRowM (k:=κ) (xs:=xs.map (bf st.t)) (.inl (hr.new _ (ni rfl))) (World.grownBy_alloc w _ none) gN g2
     (by have:xs.length<=xs.length*g.size:=Nat.le_mul_of_pos_right _ gO;simp only[bF,List.length_map];omega) (gL rfl)
    simp only[List.length_map]at dX fD;refine gS (v:= .slice (some ⟨w.heap.size,0,none⟩) xs.length xs.length) (w':=w.alloc (.cells us el)) ?_ (ch _ _ _ (dX.put (d:=some d) (by simpa[e2]using J) (p:= .row g.size κ xs.length) (fD ⟨_,_,rfl⟩)));have be:(parts.map fun(x:Nat×Operand)=>(x.1,a.eval x.2))=(parts.toList.map fun(x:Nat×Operand)=>(x.1,a.eval x.2)).toArray:=by apply Array.ext';simp
    simp only[execOp];refine tD ?_;rw[<-g1];congr 2
   ·cases aO
  ·cases aj
 ·rename_i d key sz el x y o' eR t df;simp only[bt,cI,eu]at ab;obtain⟨⟨⟨⟨⟨⟨I,J⟩,aj⟩,aO⟩,bs⟩,da⟩,eW⟩:=ab;subst I;subst aj;split at aO
  ·rename_i dc aF;simp only[cI]at aO;subst aO;split at bs
   ·rename_i g aG;simp only[bt,cI,eu]at bs;obtain⟨⟨rfl,gO⟩,nf⟩:=bs;have rx:=cF hr da;have fT:=cF hr eW;have gw:∀v' w',(l0 #[t,t] type #[a.eval o',a.eval eR]).run P w= .ok v' w'->(execOp a.eval ⟨some d,.call ⟨.builtin .append,⟨[o',eR]⟩,⟨[t,t]⟩⟩,type,pos,after,guard⟩).run P w= .ok (.value v') w':=by intro v' w' eP;simp only[execOp,resolve,invoke,builtin,dk,dP,dr,List.map_toArray,eU,List.map_nil];rw[eP];rfl
    obtain⟨cV,dR,z,ai,aK,bu,cP,fX,gv,mf,j0⟩:=(mI az aG).ex;obtain⟨cx,e4,dj⟩:=eS az aF;obtain rfl:=kE dj;have ki:z.cells.size=cV.size:=by rw[j0,bu]
    simp only[cW]at he;split at he
    ·
     rename_i ys aH;cases he;unfold l7 at aH;split at aH
     ·rename_i cj xs fL hd PZ ad b6;split at aH
      ·rename_i ds;obtain⟨rfl,ds⟩:=ds;subst ds;cases aH;rw[ad]at rx;rw[b6]at fT;simp only[aw]at rx fT;obtain⟨⟨ax,l9,kq,cx1,⟨BZ,B0⟩,cx4⟩,rxn,rxo,rxt⟩:=rx;obtain⟨⟨ay,hz,k8,cy1,⟨B1,B2⟩,cy4⟩,_⟩:=fT;have uS:=rxn trivial;have pe:(cH.appm d key g.size el x y).makes st=true:=by simp only[cH.makes,ad]
       rw[k8,uS]at gw;have jo:∀(v':Value) (w':World) (eI:List Value),(l0 #[t,t] type #[.slice none 0 0,.slice ay ys.length hz]).run P w= .ok v' w'->w'.ownsRow w.heap.size el g.size v' ys.length eI->w.grownBy w' none->bN w ν g.size ys eI->
         (⟨some d,.call ⟨.builtin .append,⟨[o',eR]⟩,⟨[t,t]⟩⟩,type,pos,after,guard⟩:Oper).wp P a w K Q:=by
        intro v' w' eI f1 f2 f3 f4;obtain⟨gf,fA⟩:=hr.newRowM (k:=κ) (xs:=ys) (.inl (hr.new _ (ni pe))) f3 f2 f4 al.1 (gL pe);exact gS (gw _ _ f1) (ch _ _ _ (gf.put (d:=some d) (by simpa[e2]using J) (fA (vB f2 (by cases ys<;>simp at al⊢)))))
       by_cases kh:ys=[]
       ·subst kh;exact jo _ w [] (vX e4 ai none 0 0 (dY _) ay hz) (World.ownsRow_nil w _ _ _) (P7 w _) (by simp[bN])
       ·rcases cy4 with cy4|⟨hh,iE,eI,rfl,pA,h6⟩
        ·exact absurd cy4 kh
        ·have hH:=kZ h6;have lB:∀j u,eI[j]? =some u->w.cell? ((⟨hh,iE,none⟩:Addr).add j)=some u:=fun j u aC=>by rw[jg];exact(nr pA aC).2
         have iw:ys.length*cV.bytes<=140737488355328:=by
          have I:cV.bytes<=2048:=by rw[cP];exact nf
          have J:ys.length*cV.bytes<=ys.length*2048:=Nat.mul_le_mul_left _ I;simp only[bF]at al;omega
         have iy:ys.length<=maxLen:=by simp only[bF]at al;simp only[maxLen];omega
         obtain⟨v',w',f1,f2,f3,_⟩:=run_append_own (P:=P) w w.heap.size t type el cV z cV.size cV.bytes e4 ai gv rfl rfl ki (by rw[bu];exact gO) (.slice none 0 0) 0 [] (World.ownsRow_nil w _ _ _)
          ⟨hh,iE,none⟩ ys.length hz eI (by rw[hH,bu]) lB (pJ h6) (by simpa using iy) (by simpa using iw) (dY _)
         exact jo v' w' eI f1 (by rw[<-bu];simpa using f2) (by simpa[iK]using f3) h6
      ·cases aH
     ·split at aH
      ·split at aH
       ·split at aH<;>cases aH
       ·cases aH
      ·cases aH
     ·cases aH
    ·
     rename_i k xs ys aH;cases he;unfold l7 at aH;split at aH
     ·split at aH<;>cases aH
     ·rename_i cj aT n fL hd PZ ad b6;split at aH
      ·rename_i ds;obtain⟨rfl,ds⟩:=ds;subst ds;split at aH
       ·rename_i n' dc oK xs' U;split at aH
        ·rename_i j8;obtain⟨rfl,rfl,rfl⟩:=j8;cases aH;rw[ad]at rx;rw[b6]at fT;simp only[aw]at rx fT;obtain⟨⟨bx,l9,kq⟩,rxl,n0,lX,dX,fD,iW⟩:=rx;obtain⟨⟨ay,hz,k8,cy1,⟨B1,B2⟩,cy4⟩,_⟩:=fT;obtain⟨v0,db,bY,cz,dV,cY⟩:=hr.good.own k _ U;rw[dX]at bY;simp only[cR,fQ]at bY cz;obtain⟨rfl,rfl⟩:=bY;have ie:a.eval o'=lX:=iW rfl;obtain⟨cc,hM,lQ⟩:=cY xs rfl;simp only at cc hM;have mw:db.length=xs.length*g.size:=by rw[cc];exact cz.1
         have kg:xs.length=n0:=cc;by_cases kh:ys=[]
         ·subst kh;rw[k8,kq]at gw;have jn:n0<=l9:=by
           rcases cz.2 with⟨gn,nA⟩|⟨bl,cap,cur,gn,nA,nB,tc,_⟩
           ·rw[nA];exact Nat.zero_le _
           ·rw[<-ie,kq]at gn;injection gn with _ _ e;rw[e];exact tc
          have eP:=vX (P:=P) (w:=w) (ty:=type) e4 ai (some ⟨bx,0,none⟩) n0 l9 jn ay hz;refine gS (gw _ _ (by simpa using eP)) (ch _ _ ν ?_);have fl:∀dh,look dh (bV k ⟨n0,dc,g.size,some xs⟩ st.e)=look dh st.e:=fun dh=>by
           rw[gb];split
           ·rename_i e;subst e;rw[U]
           ·rfl
          have kd:bH C {st with e:=bV k ⟨n0,dc,g.size,some xs⟩ st.e} a w ν:=
           ⟨⟨hr.good.alt,hr.good.box,hr.good.inj,fun g o aG=>hr.good.own g o (by rw[<-fl g];exact aG),fun g dh n n' v v' bl bk a2=>hr.good.oinj g dh n n' v v' bl (by rw[<-fl g];exact bk) (by rw[<-fl dh];exact a2),
           fun g j n v bl bk=>hr.good.obx g j n v bl (by rw[<-fl g];exact bk),hr.good.one,fun bl aa=>hr.good.otr bl (aa.imp id (fun⟨g,n,v,bk,a2⟩=>⟨g,n,v,by rw[<-fl g];exact bk,a2⟩))⟩,hr.fr,hr.defers,hr.size,hr.slot,hr.new,hr.ext,hr.obk⟩
          have aj:=kd.put (d:=some d) (by simpa[e2]using J) (p:= .row g.size k n0) (v:= .slice (some ⟨bx,0,none⟩) n0 l9) (by simp only[aw];exact⟨⟨_,_,rfl⟩,rxl,_,_,dX,dY _,fun _=>by rw[<-kq];exact ie⟩)
          simpa[kg,dB]using aj
         ·have hyp:0<ys.length:=by cases ys<;>simp at kh⊢
          rcases cy4 with cy4|⟨hh,iE,eI,rfl,pA,h6⟩
          ·exact absurd cy4 kh
          ·have hH:=kZ h6;have lB:∀j u,eI[j]? =some u->w.cell? ((⟨hh,iE,none⟩:Addr).add j)=some u:=fun j u aC=>by rw[jg];exact(nr pA aC).2
           have iw:(xs.length+ys.length)*cV.bytes<=140737488355328:=by
            have iO:cV.bytes<=2048:=by rw[cP];exact nf
            have mm:(xs.length+ys.length)*cV.bytes<=(xs.length+ys.length)*2048:=Nat.mul_le_mul_left _ iO;simp only[bF]at al;omega
           have iy:xs.length+ys.length<=maxLen:=by simp only[bF]at al;simp only[maxLen];omega
           have lA:bN w ν g.size (xs++ys) (db++eI):=ra hM h6;rw[k8,ie]at gw;have pa:(∃v' w',(l0 #[t,t] type #[lX,.slice (some ⟨hh,iE,none⟩) ys.length hz]).run P w= .ok v' w'/\w'.ownsRow w.heap.size dc cV.size v' (xs.length+ys.length) (db++eI)/\w.grownBy w' none)->
             (⟨some d,.call ⟨.builtin .append,⟨[o',eR]⟩,⟨[t,t]⟩⟩,type,pos,after,guard⟩:Oper).wp P a w K Q:=by
            intro bP;obtain⟨v',w',f1,f2,f3⟩:=bP;obtain⟨gf,fA⟩:=hr.newRowM (k:=k) (xs:=xs++ys) (el:=dc) (sz:=g.size) (.inr ⟨_,U,by simp;omega⟩) f3 (by rw[<-bu];simpa using f2) lA (by simpa using al) (n':=st.n) (o':=st.o)
             (fun j aC=>⟨aC,fun e=>by subst e;have:=(hr.new _ aC).2.1;rw[dX]at this;cases this⟩)
            refine gS (gw _ _ f1) (ch _ _ (ν.withOwn k (xs++ys).length v') ?_);have:=gf.put (d:=some d) (by simpa[e2]using J) (fA (by simpa using vB f2 Ω));simpa[dB]using this
           rcases cz.2 with⟨gn,nA⟩|⟨bl,cap,cur,gn,nA,nB,tc,td,vF,q7⟩
           ·
            have kQ:xs=[]:=mJ Ω;have yp:db=[]:=mJ (by rw[mw,kQ];simp);subst kQ;subst yp;refine pa ?_;obtain⟨v',w',f1,f2,f3,_⟩:=run_append_own (P:=P) w w.heap.size t type dc cV z cV.size cV.bytes e4 ai gv rfl rfl ki (by rw[bu];exact gO) (.slice none 0 0) 0 [] (World.ownsRow_nil w _ _ _)
             ⟨hh,iE,none⟩ ys.length hz eI (by rw[hH,bu]) lB (pJ h6) (by simpa using iy) (by simpa using iw) (dY _)
            exact⟨v',w',by rw[gn];exact f1,by simpa using f2,by simpa[iK]using f3⟩
           ·have fZ:lX.ownBlock=some bl:=by rw[gn];rfl
            by_cases iT:xs.length+ys.length<=cap
            ·have hmul:(xs.length+ys.length)*g.size<=cap*g.size:=l1 _ iT;rw[Nat.add_mul]at hmul;have f1:=run_append_room (P:=P) w t type dc cV e4 ai bl xs.length cap cur nB ⟨hh,iE,none⟩ ys.length hz eI (by rw[hH,bu]) lB (pJ h6) iT (by rw[hH,bu];omega);generalize sO:(cur.toList.take (xs.length*cV.size)++eI++cur.toList.drop (xs.length*cV.size+eI.length)).toArray=ho at f1;have hG:(w.setRow bl ho).heap[bl]? =some (.cells ho dc (0,0)):=setRow_heap w bl cur ho dc _ nB;have ar:(db++eI).length=(xs++ys).length*g.size:=by rw[e0,mw,hH,e0,Nat.add_mul]
             have bs:cur.toList.take (xs.length*cV.size)=db:=by rw[kg,bu];exact q7
             have kN:ho.size=cap*g.size:=by rw[<-sO];simp only[lj,e0,List.length_take,List.length_drop,Array.length_toList];rw[bu];omega
             have qK:ho.toList.take ((xs++ys).length*g.size)=db++eI:=by rw[<-sO,bs];simp only[<-ar];rw[List.take_append_of_le_length (dY _),List.take_length]
             obtain⟨gf,_,fA⟩:=hr.setRowM (w':=w.setRow bl ho) U rfl dX fZ (v':= .slice (some ⟨bl,0,none⟩) (xs.length+ys.length) cap) rfl (xs':=xs++ys) (us:=db++eI) (.inr (by simp;omega)) rfl rfl rfl (fun j aC=>setRow_other w bl j ho aC) (setRow_size w bl ho)
              ⟨ar,.inr ⟨bl,cap,ho,Ψ,Nat.zero_le _,hG,by simpa using iT,td,kN,qK⟩⟩ lA
             replace fA:=fA (by simpa using al);refine gS (v:= .slice (some ⟨bl,0,none⟩) (xs.length+ys.length) cap) (w':=w.setRow bl ho) (gw _ _ ?_) (ch _ _ (ν.withOwn k (xs++ys).length (.slice (some ⟨bl,0,none⟩) (xs.length+ys.length) cap)) ?_)
             ·rw[gn,<-kg];exact f1
             ·have:=gf.put (d:=some d) (by simpa[e2]using J) fA;simpa[dB]using this
            ·refine pa ?_;obtain⟨v',w',f1,f2,f3⟩:=run_append_arg_grows (P:=P) w t type dc cV z cV.size cV.bytes e4 ai gv rfl rfl ki (by rw[bu];exact gO) ⟨bl,0,none⟩ xs.length cap db (by rw[mw,bu])
              (fun j u aC=>by have:=cz.cells fZ j u aC;exact this) ⟨hh,iE,none⟩ ys.length hz eI (by rw[hH,bu]) lB Ω iy iw
             exact⟨v',w',by rw[gn,<-kg];exact f1,f2,f3⟩
        ·cases aH
       ·cases aH
      ·cases aH
     ·cases aH
    ·cases he
   ·cases bs
  ·cases aO
 ·rename_i sz x y t o' eR;simp only[bt,cI]at ab;obtain⟨⟨⟨I,J⟩,aj⟩,aO⟩:=ab;subst I;split at J
  ·rename_i f aF;simp only[cI]at J;simp only[cW]at he;generalize yc:bf st.t x=px at he;unfold k3 at he;split at he
   ·rename_i cj k n i mj;split at he
    ·rename_i n' el fL xs U;split at he
     ·rename_i x9;obtain⟨rfl,rfl⟩:=x9;split at he
      ·rename_i q bD;cases he;obtain⟨c0,cO,c2,c3,c4⟩:=al;have rx:=cF hr aj;rw[yc]at rx;have fT:=cF hr aO;have nC:=nD fT cO;have nG:=jV nC;obtain⟨_,dt⟩:=nK az aF w;have nn:(a.eval eR).cells.size=sz:=by rw[c2]at nG;simpa using nG
       obtain⟨bl,off,h5,sG,dT,ν',kf⟩:=hr.storeRow (P:=P) U rx bD c0 nC (by simpa[nn]using c3) (fun e=>by have:=cB List.length e;simp[nn]at this;omega);refine tE (w':=w.setRow bl h5) ?_ (ch _ _ _ kf);simp only[execOp,Instr.storeAt,sG,Instr.sureAddr,storeVar,dk,dP,dr,dt,nn,J,ne_eq,not_true_eq_false,if_false,dT]
      ·cases he
     ·cases he
    ·cases he
   ·cases he
  ·cases J
 ·rename_i d el x y o' eR t df;exact AG az hr (d:=d) (el:=el) (x:=x) (y:=y) (by simpa only[k2]using ab) (by simpa only[cW]using he) al ch
 ·rename_i d key sz el z x t o' eR;simp only[bt,cI,eu]at ab;obtain⟨⟨⟨⟨⟨I,J⟩,aj⟩,aO⟩,bs⟩,da⟩:=ab;subst I;split at aj
  ·rename_i dc aF;simp only[cI]at aj;subst aj;split at aO
   ·rename_i g aG;simp only[bt,cI,eu]at aO;obtain⟨⟨⟨rfl,gO⟩,nf⟩,ed⟩:=aO;obtain rfl:=Am ed;have rx:=cF hr bs;have fT:=cF hr da;simp only[cW]at he;split at he
    ·rename_i hn n ad;cases he;obtain⟨Ds,hH⟩:=al;obtain⟨m,rfl⟩:=Int.eq_ofNat_of_zero_le Ds;rw[ad]at rx fT;simp only[aw]at rx fT;obtain⟨cV,dR,bC,ai,aK,bu,cP,fX,gv,mf,j0⟩:=(mI az aG).ex;obtain⟨cx,e4,dj⟩:=eS az aF;obtain rfl:=kE dj;have iy:m<=bF:=by simp only[bF]at hH⊢;omega
     have iw:cV.bytes*m<=281474976710656:=by have I:cV.bytes*m<=2048*m:=l1 _ Ω;simp only[bF]at iy;omega
     obtain⟨Mh,Db⟩:=Al w ν mf;obtain⟨w',g1,g2,g3⟩:=run_make_full (P:=P) w w.heap.size t el cV bC cV.size e4 ai gv rfl hn hn m iw (by simp only[maxLen];simp only[bF]at iy;omega) (dY _);have gN:w'.ownsRow w.heap.size el g.size (.slice (some ⟨w.heap.size,0,none⟩) m m) (List.replicate m g.zero).length (madeCells bC.cells (m*bC.cells.size)).toList:=by rw[bu,<-j0]at g2;rw[List.length_replicate,<-j0];exact g2
     obtain⟨dX,fD⟩:=hr.newRowM (k:=κ) (xs:=List.replicate m g.zero) (.inl (hr.new _ (ni rfl))) g3 gN (by rw[<-j0];exact Ek Mh Ω (rf Db) m) (by simpa using iy) (gL rfl);simp only[List.length_replicate]at dX fD;simp only[Int.toNat_natCast]at ch;refine gS (v:= .slice (some ⟨w.heap.size,0,none⟩) m m) (w':=w') ?_ (ch _ _ _ (dX.put (d:=some d) (by simpa[e2]using J) (p:= .row g.size κ m) (fD ⟨_,_,rfl⟩)));simp only[execOp];refine tD ?_;rw[rx,fT];exact g1
    ·cases he
   ·cases aO
  ·cases aj
 ·cases ab
theorem AP{N:Nat}{aR:List (Nat×cw)}{d:Nat}{key:aW Nat}{o:Oper}(h:k2 N aR (.mkmap d key) o=true):key≠some 861:=by
 rintro rfl;obtain⟨dst,op,type,pos,after,guard⟩:=o;generalize aM:cH.mkmap d (some 861)=i at h;unfold k2 at h;dsimp only at h;split at h<;>first|(cases aM;done)|(cases h;done)|skip
 cases aM;simp at h
theorem Hx{N:Nat}{aR:List (Nat×cw)}{st:aS}{d:Nat}{key:aW Nat}{x:bW}{o:Oper}(h:k2 N aR (.range d key x) o=true):fy st key≠ .obj 861:=by
 intro e;obtain rfl:=vp e;obtain⟨dst,op,type,pos,after,guard⟩:=o;generalize aM:cH.range d (some 861) x=i at h;unfold k2 at h;dsimp only at h;split at h<;>first|(cases aM;done)|(cases h;done)|skip
 cases aM;simp at h
theorem Pc{P:bj}{aR:List (Nat×cw)}(az:eD P aR=true){C:c7}{st st':aS}{a:Act}{w:World}{ν:aA}(hr:bH C st a w ν){i:cH}{o:Oper}(ab:k2 C.N aR i o=true)
  {c:Prop} (he:hN st i=some (c,st')) (al:c) {K:Act->World->Prop} {Q:Exit->Act->World->Prop} (ch:∀ca w' ν',bH C st' ca w' ν'->K ca w'):o.wp P a w K Q:=by
 have iz:kj st none->fresh st.n st.o (.loc st.n):=fun h=>oA (key:=none) h;have oe:∀j,fresh (st.n+1) st.o j->fresh st.n st.o j/\j≠ .loc st.n:=oB (key:=none);cases i with
 |v d i=>exact gg (κ:= .loc 0) (n':=0) (o₁:=[]) az hr ab (fun h=>by simp[cH.makes]at h) (fun h=>by simp[cH.makes]at h) (by simpa only[hN,cW]using he) al ch
 |box d key x=>simp only[hN]at he;cases he;exact gg (κ:=fy st key) (n':=iB st key) (o₁:=iC st key) az hr ab (fun _=>oA al.1) (fun _=>oB) (by simp only[cW]) al.2 ch (hB:=vp)
 |alloc d key z=>simp only[hN]at he;cases he;exact gg (κ:=fy st key) (n':=iB st key) (o₁:=iC st key) az hr ab (fun _=>oA al) (fun _=>oB) (by simp only[cW]) trivial ch (hB:=vp)
 |mks d key sz el z x=>
  simp only[hN]at he;split at he
  ·rename_i hn n ad;cases he;exact gg (κ:=fy st key) (n':=iB st key) (o₁:=iC st key) az hr ab (fun _=>oA al.1) (fun _=>oB) (by simp only[cW,ad]) al.2 ch
  ·cases he
 |apps d el x y=>exact AG az hr ab (by simpa only[hN]using he) al ch
 |storeE sz x y=>exact gg (κ:= .loc 0) (n':=0) (o₁:=[]) az hr ab (fun h=>by simp[cH.makes]at h) (fun h=>by simp[cH.makes]at h) (by simpa only[hN,cW]using he) al ch
 |store sz x y=>exact gg (κ:= .loc 0) (n':=0) (o₁:=[]) az hr ab (fun h=>by simp[cH.makes]at h) (fun h=>by simp[cH.makes]at h) (by simpa only[hN,cW]using he) al ch
 |bsl d sz el xs=>simp only[hN]at he;cases he;exact gg (κ:= .loc st.n) (n':=st.n+1) (o₁:=st.o) az hr ab (fun _=>iz al.1) (fun _=>oe) (by simp only[cW]) al.2 ch
 |bslm d key sz el xs=>simp only[hN]at he;cases he;exact gg (κ:=fy st key) (n':=iB st key) (o₁:=iC st key) az hr ab (fun _=>oA al.1) (fun _=>oB) (by simp only[cW]) al.2 ch
 |appm d key sz el x y=>
  simp only[hN]at he;split at he
  ·rename_i ys aH;cases he;exact gg (κ:=fy st key) (n':=iB st key) (o₁:=iC st key) az hr ab (fun _=>oA al.1) (fun _=>oB) (by simp only[cW,aH]) al.2 ch
  ·rename_i k xs ys aH;cases he;refine gg (κ:= .loc 0) (n':=0) (o₁:=[]) az hr ab (fun h=>?_) (fun h=>?_) (by simp only[cW,aH]) al ch;all_goals
    exfalso
    simp only[cH.makes]at h
    split at h
    ·rename_i ad
     unfold l7 at aH
     rw[ad]at aH
     split at aH
     ·split at aH<;>cases aH
     ·rename_i I _;cases I
     ·cases aH
    ·cases h
  ·cases he
 |mkmap d key=>simp only[hN]at he;cases he;exact gg (κ:=fy st key) (n':=iB st key) (o₁:=iC st key) az hr ab (fun _=>oA al) (fun _=>oB) (by simp only[cW]) trivial ch (hB:=fun e=>AP ab (vp e))
 |mput bo x k v=>exact gg (κ:= .loc 0) (n':=0) (o₁:=[]) az hr ab (fun h=>by simp[cH.makes]at h) (fun h=>by simp[cH.makes]at h) (by simpa only[hN,cW]using he) al ch
 |range d key x=>
  simp only[hN]at he;split at he
  ·rename_i m ad;split at he
   ·rename_i cs b0;split at he
    ·rename_i cs' hm;cases he;exact gg (κ:=fy st key) (n':=iB st key) (o₁:=iC st key) az hr ab (fun _=>oA al) (fun _=>oB) (by simp only[cW,ad,b0,hm]) trivial ch (hB:=Hx ab)
    ·cases he
   ·cases he
  ·cases he
 |app d sz el x y=>
  simp only[hN]at he;split at he
  ·rename_i cj tag xs fL hd ys ad b6;split at he
   ·rename_i ds;split at he
    ·rename_i k;split at he
     ·rename_i ow U;cases he;refine gg (κ:= .loc 0) (n':=0) (o₁:=[]) az hr ab (fun h=>by simp[cH.makes,ad]at h) (fun h=>by simp[cH.makes,ad]at h) ?_ al ch;simp only[cW,ad,b6,ds,and_self,if_true,U]
     ·cases he
    ·cases he;refine gg (κ:= .loc st.n) (n':=st.n+1) (o₁:=st.o) az hr ab (fun _=>iz al.1) (fun _=>oe) ?_ al.2 ch;simp only[cW,ad,b6,ds,and_self,if_true]
    ·cases he
   ·cases he
  ·cases he
structure cr where
 b:List (av×List ae)
 e:List (av×cC)
def eg(ν:aA)(s:cr)(bl:Nat):Prop:=(∃k,(look k s.b).isSome/\ν.bx k=some bl)\/(∃g n v,(look g s.e).isSome/\ν.ow g=some (n,v)/\v.ownBlock=some bl)
def kI(ν:aA)(s:cr):Prop:= ∀k,(look k s.b=none->ν.bx k=none)/\(look k s.e=none->ν.ow k=none)/\∀j b,¬ν.tr k j b
def dG(s:cr):List av:=s.b.map (·.1)++s.e.map (·.1)
def fK(s:cr):Prop:=(∀m,look (.loc m) s.b=none)/\(∀m,look (.loc m) s.e=none)
def nO(P:bj)(f:FuncId)(aV:Array Value)(w:World)(R:Ending->World->Prop):Prop:=((∃fn,P.funcs[f]? =some fn/\fn.body.isSome=true/\(fn.name== "runtime.NumGoroutine")=false)/\Calls P f aV w R)\/ ∃v w',(callFunc f aV).run P w= .ok (.value v) w'/\R (.returned v) w'
def br(P:bj)(f:FuncId)(args:List ae)(s:cr)(Q:ae->cr->Prop):Prop:=
 ∀(w:World) (ν:aA) (aV:Array Value) (gl:jc w ν),Good (eg ν s) w ν s.b s.e->kI ν s->bG w ν args aV.toList->
  nO P f aV w fun e w'=> ∃v r ah ν',e= .returned v/\Q r ah/\aw w' ν' r v/\Good (fun bl=>eg ν s bl\/w.heap.size<=bl) w' ν' ah.b ah.e/\kI ν' ah/\fK ah/\kx ⟨w,ν,eg ν s,0,dG s,gl,[]⟩ w' ν'
def ue(κ:aW Nat)(ν:aA)(s:cr):Prop:= ∀k,(look k s.b=none->ν.bx k=none)/\(look k s.e=none->ν.ow k=none)/\∀j b,ν.tr k j b->∃m,κ=some m/\k= .loc m
theorem kI.k{ν:aA}{s:cr}(h:kI ν s):ue none ν s:=fun k=>⟨(h k).1,(h k).2.1,fun j b aa=>absurd aa ((h k).2.2 j b)⟩
def wv(P:bj)(f:FuncId)(κ:Nat)(args:List ae)(s:cr)(Q:ae->cr->Prop):Prop:=
 ∀(w:World) (ν:aA) (aV:Array Value) (gl:jc w ν),Good (eg ν s) w ν s.b s.e->kI ν s->bG w ν args aV.toList->
  nO P f aV w fun e w'=> ∃v r ah ν',e= .returned v/\Q r ah/\aw w' ν' r v/\Good (fun bl=>eg ν s bl\/w.heap.size<=bl) w' ν' ah.b ah.e/\ue (some κ) ν' ah/\fK ah/\kx ⟨w,ν,eg ν s,0,dG s,gl,[]⟩ w' ν'
def c8(P:bj)(f:FuncId)(args:List ae)(r:ae):Prop:=br P f args ⟨[],[]⟩ fun dW ah=>dW=r/\ah=⟨[],[]⟩
theorem nu{α:Type}{k:av}{x:α}:∀{l:List (av×α)},look k l=some x->(k,x)∈l
 |[],h=>by simp[look]at h
 |(i,y)::r,h=>by
  simp only[look]at h;split at h
  ·rename_i e;subst e;cases h;simp
  ·exact List.mem_cons_of_mem _ (nu h)
theorem pG{s:cr}{k:av}(h:(look k s.b).isSome\/(look k s.e).isSome):k∈dG s:=by
 unfold dG;rcases h with h|h<;>obtain⟨x,ad⟩:=dK.1 h<;>have:=nu ad
 ·exact lh _ (ku.2 ⟨_,this,rfl⟩)
 ·exact List.mem_append_right _ (ku.2 ⟨_,this,rfl⟩)
section
open Classical
noncomputable def aA.cut(ν:aA)(S:av->Prop):aA:={A:=ν.A,bx:=fun k=>if S k then ν.bx k else none,ow:=fun k=>if S k then ν.ow k else none,tr:=fun k j b=>S k/\ν.tr k j b}
theorem aA.cut_bx{ν:aA}{S:av->Prop}{k:av}(h:S k):(ν.cut S).bx k=ν.bx k:=by simp[aA.cut,h]
theorem aA.cut_ow{ν:aA}{S:av->Prop}{k:av}(h:S k):(ν.cut S).ow k=ν.ow k:=by simp[aA.cut,h]
theorem aA.cut_no{ν:aA}{S:av->Prop}{k:av}(h:¬S k):(ν.cut S).bx k=none/\(ν.cut S).ow k=none/\∀j b,¬(ν.cut S).tr k j b:=by simp[aA.cut,h]
theorem aA.cut_some{ν:aA}{S:av->Prop}{k:av}{b:Nat}(h:(ν.cut S).bx k=some b):S k/\ν.bx k=some b:=by
 by_cases af:S k
 ·exact⟨af,by rw[aA.cut_bx af]at h;exact h⟩
 ·rw[(aA.cut_no af).1]at h;cases h
theorem aA.cut_someO{ν:aA}{S:av->Prop}{k:av}{b:Nat×Value}(h:(ν.cut S).ow k=some b):S k/\ν.ow k=some b:=by
 by_cases af:S k
 ·exact⟨af,by rw[aA.cut_ow af]at h;exact h⟩
 ·rw[(aA.cut_no af).2.1]at h;cases h
theorem jc.cut{w:World}{ν:aA}(h:jc w ν)(S:av->Prop):jc w (ν.cut S):=h
theorem je.cut(S:av->Prop)(w:World)(ν:aA):je S w ν w (ν.cut S):=⟨fun _ _ h=>⟨h,rfl⟩,fun k b U h=>by rw[aA.cut_bx U];exact h,fun g n u aG h=>⟨n,u,by rw[aA.cut_ow aG];exact h,.inl ⟨rfl,rfl⟩⟩,fun _ _ _=>rfl,fun _ _ _ U h=>⟨U,h⟩⟩
end
def iG(S:av->Prop)(dL b:List (av×List ae)):Prop:= ∀k cs,look k dL=some cs->look k b=some cs/\S k/\aD S cs
def iH(S:av->Prop)(fS e:List (av×cC)):Prop:= ∀k o,look k fS=some o->look k e=some o/\S k/\eQ S o
theorem Good.cut{pr EW:Nat->Prop}{w:World}{ν:aA}{b dL:List (av×List ae)}{e fS:List (av×cC)}(h:Good pr w ν b e){S:av->Prop}(aa:iG S dL b)(he:iH S fS e)
  (DD:∀bl,pr bl->(∃k,(look k dL).isSome/\(ν.cut S).bx k=some bl)\/(∃g n v,(look g fS).isSome/\(ν.cut S).ow g=some (n,v)/\v.ownBlock=some bl)->EW bl):Good EW w (ν.cut S) dL fS:=by
 have iP:∀k,(look k dL).isSome->(look k b).isSome/\S k:=fun k U=>by obtain⟨cs,b0⟩:=dK.1 U;have:=aa k cs b0;exact⟨by simp[this.1],this.2.1⟩
 have uF:∀k,(look k fS).isSome->(look k e).isSome/\S k:=fun k U=>by obtain⟨cs,b0⟩:=dK.1 U;have:=he k cs b0;exact⟨by simp[this.1],this.2.1⟩
 refine⟨h.alt,fun k cs U=>?_,fun k aT bl I J aj aO=>?_,fun g o aG=>?_,fun g dh n n' v v' bl I J aj aO bs da=>?_,fun g k n v bl I J aj aO bs=>?_,fun k=>?_,fun bl az k j aC=>?_⟩
 ·obtain⟨g1,g2,g3⟩:=aa k cs U;obtain⟨bl,us,el,f1,f2,f3,f4,f5⟩:=h.box k cs g1;have gk:(ν.cut S).bx k=some bl:=by rw[aA.cut_bx g2];exact f1
  exact⟨bl,us,el,gk,DD bl f2 (.inl ⟨k,by simp[U],gk⟩),f3,f4,FD (je.cut S w ν) g3 f5⟩
 ·obtain⟨bk,a2⟩:=iP k I;obtain⟨bJ,bQ⟩:=iP aT J;exact h.inj k aT bl bk bJ (aA.cut_some aj).2 (aA.cut_some aO).2
 ·obtain⟨g1,g2,g3⟩:=he g o aG;obtain⟨v,us,f1,f2,f3,f4⟩:=h.own g o g1;have iS:(ν.cut S).ow g=some (o.n,v):=by rw[aA.cut_ow g2];exact f1
  exact⟨v,us,iS,f2,fun bl dd=>⟨DD bl (f3 bl dd).1 (.inr ⟨g,o.n,v,by simp[aG],iS,dd⟩),(f3 bl dd).2⟩,
   fun xs ad=>⟨(f4 xs ad).1,vP (je.cut S w ν) _ _ _ (g3 xs ad) (f4 xs ad).2.1,(f4 xs ad).2.2⟩⟩
 ·obtain⟨bk,a2⟩:=uF g I;obtain⟨bJ,bQ⟩:=uF dh J;exact h.oinj g dh n n' v v' bl bk bJ (aA.cut_someO aj).2 (aA.cut_someO aO).2 bs da
 ·obtain⟨bk,a2⟩:=uF g I;obtain⟨bJ,bQ⟩:=iP k J;exact h.obx g k n v bl bk bJ (aA.cut_someO aj).2 aO (aA.cut_some bs).2
 ·by_cases af:S k
  ·rw[aA.cut_bx af,aA.cut_ow af];exact h.one k
  ·exact .inl (aA.cut_no af).1
 ·refine h.otr bl ?_ k j aC.2;rcases az with⟨aT,bk,a2⟩|⟨g,n,v,bk,a2,a3⟩
  ·exact .inl ⟨aT,(iP aT bk).1,(aA.cut_some a2).2⟩
  ·exact .inr ⟨g,n,v,(uF g bk).1,(aA.cut_someO a2).2,a3⟩
structure hQ (ob:List av) (st st':aS):Prop where
 t:∀x∈st'.t,get x.1 st.t=x.2/\aB (fun k=> ¬fresh st'.n st'.o k) x.2
 b:iG (fun k=> ¬fresh st'.n st'.o k) st'.b st.b
 e:iH (fun k=> ¬fresh st'.n st'.o k) st'.e st.e
 o:∀m∈ob,m∈st'.o
theorem CR:∀(i:Nat) (l:List (Nat×ae)),get i l= .junk\/(i,get i l)∈l
 |_,[]=>.inl rfl
 |i,(j,p)::r=>by
  by_cases h:j=i
  ·subst h;right;simp[get]
  ·rcases CR i r with I|I
   ·left;simp[get,h,I]
   ·right;simp[get,h];right;exact I
theorem bH.weaker{C:c7}{st st':aS}{a:Act}{w:World}{ν:aA}(h:bH C st a w ν)(hw:hQ C.ob st st'):bH C st' a w (ν.cut fun k=> ¬fresh st'.n st'.o k):=by
 refine⟨h.good.cut hw.b hw.e (fun bl be _=>be),⟨h.fr.os,h.fr.tape,h.fr.output,h.fr.size,h.fr.block,h.fr.keep,h.fr.fresh,fun n b aa=>?_,h.fr.obn,fun m n u hm=>?_,h.fr.obr,fun k j aT dn b I J=>h.fr.trd k j aT dn b I.2 J.2,fun k j b aa=>h.fr.trb k j b aa.2,fun k j b aa=>?_,h.fr.sh,fun j n u b ai aK=>h.fr.nrow j n u b (aA.cut_someO ai).2 aK⟩,h.defers,h.size,fun i=>?_,fun k U=>aA.cut_no (fun aU=>aU U),fun x ad=>⟨lT (je.cut _ w ν) _ _ (ot (fun k U aF=>aF.2 (hw.o k U)) _ (h.ext x ad).2) (h.ext x ad).1,(h.ext x ad).2⟩,fun m hm aF=>aF.2 (hw.o m hm)⟩
 ·rw[aA.cut_bx (fun bP=>bP.2 (hw.o _ (h.fr.obn n b aa)))];exact h.fr.obj n b aa
 ·rw[aA.cut_ow (fun bP=>bP.2 (hw.o _ (h.fr.obr m n u hm)))];exact h.fr.row m n u hm
 ·rw[aA.cut_bx aa.1,aA.cut_ow aa.1];exact h.fr.trn k j b aa.2
 ·rcases CR i st'.t with aC|hm
  ·rw[aC];simp[aw]
  ·obtain⟨I,J⟩:=hw.t _ hm;simp only at I;have:=h.slot i;rw[I]at this;exact lT (je.cut _ w ν) _ _ J this
mutual
def b7:ae->ae
 | .slice sz _ xs=>.slice sz .no (bR xs)
 | .agg cs=>.agg (bR cs)
 | .tuple aV=>.tuple (bR aV)
 | .eptr x=>.eptr (b7 x)
 | .iface t x=>.iface t (b7 x)
 | .func f bX=>.func f (bR bX)
 |p=>p
def bR:List ae->List ae
 |[]=>[]
 |x::xs=>b7 x::bR xs
end
theorem il:∀xs,(bR xs).length=xs.length
 |[]=>rfl
 |x::xs=>by simp[bR,il xs]
mutual
theorem um{t:Bool}{w:World}{A:Nat->Nat->Prop}:∀(p:ae) (F:Nat->Prop) (v:Value),cu t w A F p v->cu t w A F (b7 p) v
 | .int _ _,_,_,h=>by simpa only[b7]using h
 | .bool _,_,_,h=>by simpa only[b7]using h
 | .str _,_,_,h=>by simpa only[b7]using h
 | .slice sz tag xs,F,v,h=>by
  simp only[cu,b7]at h⊢;obtain⟨a,cap,I,J,aj,aO⟩:=h;refine⟨a,cap,by rw[il];exact I,by rw[il];exact J,by rw[il];exact aj,?_⟩;rcases aO with rfl|⟨b,off,us,G,ai,aK,bu,cP,fX,gv⟩
  ·exact .inl rfl
  ·exact .inr ⟨b,off,us,G,ai,aK,bu,cP,fX,CH sz xs G us gv⟩
 | .agg cs,F,v,h=>by simp only[cu,b7]at h⊢;obtain⟨us,I,J⟩:=h;exact⟨us,I,CI cs F _ J⟩
 | .junk,_,_,h=>by simp[cu]at h
 | .ptr _ _,_,_,h=>by simp[cu]at h
 | .eptr _,_,_,h=>by simp[cu]at h
 | .iface _ _,_,_,h=>by simp[cu]at h
 | .nilp,_,_,h=>by simp[cu]at h
 | .tuple _,_,_,h=>by simp[cu]at h
 | .func _ _,_,_,h=>by simp[cu]at h
 | .gmap _,_,_,h=>by simp[cu]at h
 | .row _ _ _,_,_,h=>by simp[cu]at h
 | .rptr _ _ _ _ _,_,_,h=>by simp[cu]at h
 | .hdm _ _,_,_,h=>by simp[cu]at h
 | .hdi _ _ _,_,_,h=>by simp[cu]at h
 | .cst _,_,_,h=>by simp[cu]at h
theorem CI{t:Bool}{w:World}{A:Nat->Nat->Prop}:∀(cs:List ae) (F:Nat->Prop) (us:List Value),jl t w A F cs us->jl t w A F (bR cs) us
 |[],_,_,h=>by simpa only[bR]using h
 |c::cs,F,us,h=>by simp only[jl,bR]at h⊢;obtain⟨u,a1,gh,gi,I,J,⟨bs,da⟩,eW⟩:=h;exact⟨u,a1,gh,gi,I,J,⟨um c gh u bs,da⟩,CI cs gi a1 eW⟩
theorem CH{t:Bool}{w:World}{A:Nat->Nat->Prop}(sz:Nat):∀(cs:List ae) (F:Nat->Prop) (us:List Value),jk t w A F sz cs us->jk t w A F sz (bR cs) us
 |[],_,_,h=>by simpa only[bR]using h
 |c::cs,F,us,h=>by simp only[jk,bR]at h⊢;obtain⟨u,a1,gh,gi,I,J,⟨bs,da⟩,eW⟩:=h;exact⟨u,a1,gh,gi,I,J,⟨um c gh u bs,da⟩,CH sz cs gi a1 eW⟩
end
theorem xt{t:Bool}{w:World}{A:Nat->Nat->Prop}{F:Nat->Prop}{sz:Nat}{tag:qb}(hd:qb){xs:List ae}(v:Value)(h:cu t w A F (.slice sz tag xs) v):cu t w A F (.slice sz hd (bR xs)) v:=by have:=um _ F v h;simp only[b7,cu]at this⊢;exact this
mutual
theorem pM{w:World}{ν:aA}:∀(p:ae) (v:Value),aw w ν p v->aw w ν (b7 p) v
 | .junk,_,h=>by simpa only[b7]using h
 | .int k n,_,h=>by simpa only[b7]using h
 | .bool b,_,h=>by simpa only[b7]using h
 | .str s,_,h=>by simpa only[b7]using h
 | .slice sz tag xs,v,h=>by
  simp only[aw,b7]at h⊢;obtain⟨⟨a,cap,I,J,aj,aO⟩,bs,da⟩:=h;refine⟨⟨a,cap,by rw[il];exact I,by rw[il];exact J,by rw[il];exact aj,?_⟩,fun e=>(by cases e),fun g e=>(by cases e),fun _ _ e=>(by cases e),fun _ e=>(by cases e)⟩;rcases aO with rfl|⟨b,off,us,aO,da,eW⟩
  ·exact .inl rfl
  ·exact .inr ⟨b,off,us,aO,da,FI sz xs us eW⟩
 | .agg cs,v,h=>by simp only[aw,b7]at h⊢;obtain⟨us,I,J⟩:=h;exact⟨us,I,FM cs _ J⟩
 | .ptr key off,v,h=>by simpa only[b7]using h
 | .iface t x,v,h=>by simp only[aw,b7]at h⊢;obtain⟨u,I,J⟩:=h;exact⟨u,I,pM x u J⟩
 | .eptr x,v,h=>by simp only[aw,b7]at h⊢;obtain⟨b,off,u,I,J,aj⟩:=h;exact⟨b,off,u,I,pM x u J,aj⟩
 | .nilp,_,h=>by simpa only[b7]using h
 | .tuple aV,v,h=>by simp only[aw,b7]at h⊢;obtain⟨us,I,J⟩:=h;exact⟨us,I,vU aV _ J⟩
 | .func f bX,v,h=>by simp only[aw,b7]at h⊢;obtain⟨us,I,J⟩:=h;exact⟨us,I,vU bX _ J⟩
 | .gmap key,v,h=>by simpa only[b7]using h
 | .row _ _ _,v,h=>by simpa only[b7]using h
 | .rptr _ _ _ _ _,v,h=>by simpa only[b7]using h
 | .cst _,v,h=>by simpa only[b7]using h
theorem FM{w:World}{ν:aA}:∀(cs:List ae) (us:List Value),bL w ν cs us->bL w ν (bR cs) us
 |[],_,h=>by simpa only[bR]using h
 |c::cs,us,h=>by simp only[bL,bR]at h⊢;obtain⟨u,a1,I,J,aj⟩:=h;exact⟨u,a1,I,⟨pM c u J.1,J.2⟩,FM cs a1 aj⟩
theorem vU{w:World}{ν:aA}:∀(cs:List ae) (us:List Value),bG w ν cs us->bG w ν (bR cs) us
 |[],_,h=>by simpa only[bR]using h
 |c::cs,us,h=>by simp only[bG,bR]at h⊢;obtain⟨u,a1,I,J,aj⟩:=h;exact⟨u,a1,I,pM c u J,vU cs a1 aj⟩
theorem FI{w:World}{ν:aA}(sz:Nat):∀(xs:List ae) (us:List Value),bN w ν sz xs us->bN w ν sz (bR xs) us
 |[],_,h=>by simpa only[bR]using h
 |x::xs,us,h=>by simp only[bN,bR]at h⊢;obtain⟨u,a1,I,⟨J,aj,aO⟩,bs⟩:=h;exact⟨u,a1,I,⟨pM x u J,aj,aO⟩,FI sz xs a1 bs⟩
end
def au(s:cr)(k:av):Prop:=(look k s.b).isSome=true\/(look k s.e).isSome=true
def ba{α β:Type}(s:List (av×β)):List (av×α)->List (av×α)
 |[]=>[]
 |(k,x)::r=>match look k s with
  |some _=>ba s r
  |none=>(k,x)::ba s r
theorem mz{α β:Type}(s:List (av×β))(k:av):∀l:List (av×α),look k (ba s l)=if(look k s).isSome then none else look k l
 |[]=>by simp[ba,look]
 |(i,x)::r=>by
  simp only[ba];by_cases e:i=k
  ·subst e;cases h:look i s with
   |some y=>simp[mz s i r,h]
   |none=>simp[look]
  ·cases h:look i s with
   |some y=>simp[mz s k r,look,e]
   |none=>simp[look,e,mz s k r]
theorem pz{α:Type}(k:av):∀l eA:List (av×α),look k (l++eA)=match look k l with|some x=>some x|none=>look k eA
 |[],eA=>by simp[look]
 |(i,x)::r,eA=>by
  by_cases e:i=k
  ·simp[look,e]
  ·simp[look,e,pz k r eA]
def after(st:aS)(s ah:cr)(d:aW Nat)(r:ae):aS:={t:=dB d r st.t,b:=ba s.b st.b++ah.b,e:=ba s.e st.e++ah.e,n:=st.n,o:=st.o++dG ah}
section
open Classical
noncomputable def aA.join(ν ν':aA)(s ah:cr):aA:={A:=ν'.A,bx:=fun k=>if(look k s.b).isSome\/(look k ah.b).isSome then ν'.bx k else ν.bx k,ow:=fun k=>if(look k s.e).isSome\/(look k ah.e).isSome then ν'.ow k else ν.ow k,tr:=fun k j b=>ν.tr k j b\/ν'.tr k j b}
end
theorem bH.callK{C:c7}{st:aS}{a:Act}{w w':World}{ν ν':aA}(h:bH C st a w ν){s ah:cr}(aa:iG (au s) s.b st.b)(he:iH (au s) s.e st.e)(kL:fK s)
  (aG:Good (fun bl=>eg (ν.cut (au s)) s bl\/w.heap.size<=bl) w' ν' ah.b ah.e) {κ:aW Nat} (ad:ue κ ν' ah) (u4:∀m,κ=some m->ν.bx (.loc m)=none/\ν.ow (.loc m)=none/\∀j b,¬ν.tr (.loc m) j b) {n':Nat} {o':List av} (gL:∀k,fresh n' o' k->fresh st.n (st.o++dG ah) k/\∀m,κ=some m->k≠ .loc m) (lC:fK ah) (aF:kx ⟨w,ν.cut (au s),eg (ν.cut (au s)) s,0,dG s,h.fr.gl.cut _,[]⟩ w' ν')
  (x8:∀m,(look (.obj m) ah.b).isSome->(look (.obj m) s.b).isSome\/ .obj m∉st.o) (cD:∀m,(look (.obj m) ah.e).isSome->(look (.obj m) s.e).isSome\/ .obj m∉st.o) (d:aW Nat) (aY:e2 C.N d=true) {r:ae} {v:Value} (hr:aw w' ν' r v):
  bH C {after st s ah d r with n:=n',o:=o'} (a.put d v) w' (ν.join ν' s ah):=by
 have oh:∀k,(look k s.b).isSome->(look k st.b).isSome:=fun k U=>by obtain⟨cs,b0⟩:=dK.1 U;simp[(aa k cs b0).1]
 have oi:∀k,(look k s.e).isSome->(look k st.e).isSome:=fun k U=>by obtain⟨cs,b0⟩:=dK.1 U;simp[(he k cs b0).1]
 have L0:∀k,(look k ah.b).isSome->¬(look k s.b).isSome->ν.bx k=none:=fun k U aU=>by
  cases k with
  |loc m=>rw[lC.1 m]at U;cases U
  |obj m=>exact(h.new (.obj m) ⟨trivial,(x8 m U).resolve_left aU⟩).1
 have L1:∀k,(look k ah.e).isSome->¬(look k s.e).isSome->ν.ow k=none:=fun k U aU=>by
  cases k with
  |loc m=>rw[lC.2 m]at U;cases U
  |obj m=>exact(h.new (.obj m) ⟨trivial,(cD m U).resolve_left aU⟩).2.1
 have MR:∀k,(look k s.b).isSome->(ν.join ν' s ah).bx k=ν'.bx k:=fun k U=>by simp[aA.join,U]
 have DU:∀k,(look k ah.b).isSome->(ν.join ν' s ah).bx k=ν'.bx k:=fun k U=>by simp[aA.join,U]
 have DV:∀k,ν.bx k≠none->¬(look k s.b).isSome->(ν.join ν' s ah).bx k=ν.bx k:=fun k I J=>by have aj:¬(look k ah.b).isSome:=fun aj=>I (L0 k aj J);simp[aA.join,J,aj]
 have MS:∀k,(look k s.e).isSome->(ν.join ν' s ah).ow k=ν'.ow k:=fun k U=>by simp[aA.join,U]
 have yz:∀k,(look k ah.e).isSome->(ν.join ν' s ah).ow k=ν'.ow k:=fun k U=>by simp[aA.join,U]
 have yA:∀k,ν.ow k≠none->¬(look k s.e).isSome->(ν.join ν' s ah).ow k=ν.ow k:=fun k I J=>by have aj:¬(look k ah.e).isSome:=fun aj=>I (L1 k aj J);simp[aA.join,J,aj]
 have GJ:∀k b,ν'.bx k=some b->(look k ah.b).isSome:=fun k b U=>by
  cases ar:look k ah.b with
  |some _=>rfl
  |none=>rw[(ad k).1 ar]at U;cases U
 have GK:∀k b,ν'.ow k=some b->(look k ah.e).isSome:=fun k b U=>by
  cases ar:look k ah.e with
  |some _=>rfl
  |none=>rw[(ad k).2.1 ar]at U;cases U
 have ab:hP w ν w' (ν.join ν' s ah):=by
  refine⟨fun b o aQ=>aF.keep b o aQ,fun k b _ U=>?_,fun g n u _ aG=>?_,fun b o aQ=>aF.sh b o aQ,fun _ _ _ _ h=>.inl h⟩
  ·by_cases af:(look k s.b).isSome
   ·rw[MR k af];cases k with
    |loc m=>rw[kL.1 m]at af;cases af
    |obj m=>exact aF.obj m b (by rw[aA.cut_bx (.inl af)];exact U)
   ·rw[DV k (by rw[U];simp) af];exact U
  ·by_cases af:(look g s.e).isSome
   ·rw[MS g af];cases g with
    |loc m=>rw[kL.2 m]at af;cases af
    |obj m=>exact aF.row m n u (by rw[aA.cut_ow (.inr af)];exact aG)
   ·rw[yA g (by rw[aG];simp) af];exact⟨n,u,aG,.inl ⟨rfl,rfl⟩⟩
 have eX:hP w' ν' w' (ν.join ν' s ah):=⟨fun b o aQ=>⟨aQ,rfl⟩,fun k b _ U=>by rw[DU k (GJ k b U)];exact U,fun g n u _ U=>⟨n,u,by rw[yz g (GK g _ U)];exact U,.inl ⟨rfl,rfl⟩⟩,fun _ _ _=>rfl,fun _ _ _ _ h=>.inr h⟩
 have hU:∀bl,eg (ν.cut (au s)) s bl->C.pr bl/\bl<w.heap.size:=by
  intro bl dd;rcases dd with⟨k,I,J⟩|⟨g,n,u,I,J,aj⟩
  ·have aO:=(aA.cut_some J).2;obtain⟨cs,b0⟩:=dK.1 (oh k I);obtain⟨fb,us,el,g1,g2,_⟩:=h.good.box k cs b0;rw[aO]at g1;cases g1;exact⟨g2,h.good.boxLt b0 aO⟩
  ·have aO:=(aA.cut_someO J).2;obtain⟨o,uU⟩:=dK.1 (oi g I);obtain⟨v',us,g1,g2,g3,_⟩:=h.good.own g o uU;rw[aO]at g1;cases g1;exact⟨(g3 bl aj).1,h.good.ownLt uU aO aj⟩
 have DE:∀bl,eg (ν.cut (au s)) s bl\/w.heap.size<=bl->C.pr bl:=fun bl dd=>by
  rcases dd with dd|dd
  ·exact(hU bl dd).1
  ·exact .inr (Nat.le_trans h.fr.size dd)
 have Mm:∀k cs bl,look k st.b=some cs->¬(look k s.b).isSome->ν.bx k=some bl->¬eg (ν.cut (au s)) s bl:=by
  intro k cs bl I J aj aO;rcases aO with⟨aT,bk,a2⟩|⟨g,n,u,bk,a2,a3⟩
  ·have:=h.good.inj k aT bl (by simp[I]) (oh aT bk) aj (aA.cut_some a2).2;subst this;exact J bk
  ·exact h.good.obx g k n u bl (oi g bk) (by simp[I]) (aA.cut_someO a2).2 a3 aj
 have Mn:∀g o n u bl,look g st.e=some o->¬(look g s.e).isSome->ν.ow g=some (n,u)->u.ownBlock=some bl->¬eg (ν.cut (au s)) s bl:=by
  intro g o n u bl I J aj aO bs;rcases bs with⟨aT,bk,a2⟩|⟨dh,n',dq,bk,a2,a3⟩
  ·exact h.good.obx g aT n u bl (by simp[I]) (oh aT bk) aj aO (aA.cut_some a2).2
  ·have:=h.good.oinj g dh n n' u dq bl (by simp[I]) (oi dh bk) aj (aA.cut_someO a2).2 aO a3;subst this;exact J bk
 have BT:∀k cs,look k (ba s.b st.b++ah.b)=some cs->(¬(look k s.b).isSome/\look k st.b=some cs)\/look k ah.b=some cs:=by
  intro k cs U;rw[pz,mz]at U;by_cases af:(look k s.b).isSome
  ·simp only[af,if_true]at U;exact .inr U
  ·simp only[af]at U;cases ar:look k st.b with
   |some x=>simp[ar]at U;subst U;exact .inl ⟨af,rfl⟩
   |none=>simp[ar]at U;exact .inr U
 have BU:∀k cs,look k (ba s.e st.e++ah.e)=some cs->(¬(look k s.e).isSome/\look k st.e=some cs)\/look k ah.e=some cs:=by
  intro k cs U;rw[pz,mz]at U;by_cases af:(look k s.e).isSome
  ·simp only[af,if_true]at U;exact .inr U
  ·simp only[af]at U;cases ar:look k st.e with
   |some x=>simp[ar]at U;subst U;exact .inl ⟨af,rfl⟩
   |none=>simp[ar]at U;exact .inr U
 have nJ:∀bl,eg (ν.cut (au s)) s bl\/w.heap.size<=bl->∀fb,fb<w.heap.size->¬eg (ν.cut (au s)) s fb->bl≠fb:=by
  intro bl I fb J aj e;subst e;rcases I with I|I
  ·exact aj I
  ·omega
 have yF:∀bl,bl<w.heap.size->¬eg (ν.cut (au s)) s bl->w'.heap[bl]? =w.heap[bl]?:=fun bl I J=>aF.block bl I J;have isB:∀k bl,(look k (ba s.b st.b++ah.b)).isSome->(ν.join ν' s ah).bx k=some bl->(¬(look k s.b).isSome/\(look k st.b).isSome/\ν.bx k=some bl)\/((look k ah.b).isSome/\ν'.bx k=some bl):=by
  intro k bl U gk;obtain⟨cs,b0⟩:=dK.1 U;rcases BT k cs b0 with⟨I,J⟩|I
  ·obtain⟨fb,us,el,g1,_⟩:=h.good.box k cs J;rw[DV k (by rw[g1];simp) I]at gk;exact .inl ⟨I,by simp[J],gk⟩
  ·rw[DU k (by simp[I])]at gk;exact .inr ⟨by simp[I],gk⟩
 have u9:∀k x,(look k (ba s.e st.e++ah.e)).isSome->(ν.join ν' s ah).ow k=some x->(¬(look k s.e).isSome/\(look k st.e).isSome/\ν.ow k=some x)\/((look k ah.e).isSome/\ν'.ow k=some x):=by
  intro k x U gk;obtain⟨cs,b0⟩:=dK.1 U;rcases BU k cs b0 with⟨I,J⟩|I
  ·obtain⟨v',us,g1,_⟩:=h.good.own k cs J;rw[yA k (by rw[g1];simp) I]at gk;exact .inl ⟨I,by simp[J],gk⟩
  ·rw[yz k (by simp[I])]at gk;exact .inr ⟨by simp[I],gk⟩
 have rT:∀k bl,¬(look k s.b).isSome->(look k st.b).isSome->ν.bx k=some bl->bl<w.heap.size/\¬eg (ν.cut (au s)) s bl:=by intro k bl I J aj;obtain⟨cs,b0⟩:=dK.1 J;exact⟨h.good.boxLt b0 aj,Mm k cs bl b0 I aj⟩
 have pO:∀k n u bl,¬(look k s.e).isSome->(look k st.e).isSome->ν.ow k=some (n,u)->u.ownBlock=some bl->bl<w.heap.size/\¬eg (ν.cut (au s)) s bl:=by intro k n u bl I J aj aO;obtain⟨cs,b0⟩:=dK.1 J;exact⟨h.good.ownLt b0 aj aO,Mn k cs n u bl b0 I aj aO⟩
 have tM:∀k bl,(look k ah.b).isSome->ν'.bx k=some bl->eg (ν.cut (au s)) s bl\/w.heap.size<=bl:=by intro k bl I J;obtain⟨cs,b0⟩:=dK.1 I;obtain⟨fb,us,el,g1,g2,_⟩:=aG.box k cs b0;rw[J]at g1;cases g1;exact g2
 have vW:∀k n u bl,(look k ah.e).isSome->ν'.ow k=some (n,u)->u.ownBlock=some bl->eg (ν.cut (au s)) s bl\/w.heap.size<=bl:=by intro k n u bl I J aj;obtain⟨cs,b0⟩:=dK.1 I;obtain⟨v',us,g1,g2,g3,_⟩:=aG.own k cs b0;rw[J]at g1;cases g1;exact(g3 bl aj).1
 have aQ:∀bl o,ν'.A bl o->bl<w.heap.size->¬eg (ν.cut (au s)) s bl->ν.A bl o:=by
  intro bl o I J aj;rcases aF.fresh bl o I with aO|aO|aO
  ·exact aO
  ·exact absurd aO aj
  ·simp only at aO;omega
 have kf:bH C {t:=st.t,b:=ba s.b st.b++ah.b,e:=ba s.e st.e++ah.e,n:=n',o:=o'} a w' (ν.join ν' s ah):=by
  refine h.over ab rfl ⟨aG.alt,fun k cs U=>?_,fun k aT bl I J aj aO=>?_,fun g o di=>?_,fun g dh n n' u dq bl I J aj aO bs da=>?_,fun g k n u bl I J aj aO bs=>?_,fun k=>?_,fun bl az k j ei=>?_⟩
   ⟨aF.os.trans h.fr.os,aF.tape.trans h.fr.tape,aF.output.trans h.fr.output,Nat.le_trans h.fr.size aF.size,fun k U hm=>?_,fun b o lv=>?_,fun b o lv=>?_,fun n b aU=>ab.bx _ _ trivial (h.fr.obj n b aU),h.fr.obn,
    fun m n u hm=>ts (h.fr.row m n u hm) (fun n u=>ab.ow _ n u trivial),h.fr.obr,fun k j aT dn b I J=>?_,fun k j b aa=>?_,fun k j b aa=>?_,fun b o aQ=>(ab.sh b o (h.fr.keep b o aQ).1).trans (h.fr.sh b o aQ),fun j n u b ai aK=>h.fr.nrow j n u b (by simpa[aA.join,kL.2 j,lC.2 j]using ai) aK⟩ (fun k U=>?_) (fun m hm=>o0 (dY _) (fun _ h=>lh _ h) (gL m hm).1)
  ·rcases BT k cs U with⟨I,J⟩|I
   ·obtain⟨bl,us,el,g1,g2,g3,g4,g5⟩:=h.good.box k cs J;obtain⟨bJ,bQ⟩:=rT k bl I (by simp[J]) g1;exact⟨bl,us,el,ab.bx _ _ trivial g1,g2,fun o lv=>g3 o (aQ bl o lv bJ bQ),by rw[yF bl bJ bQ];exact g4,jU ab g5⟩
   ·obtain⟨bl,us,el,g1,g2,g3,g4,g5⟩:=aG.box k cs I;exact⟨bl,us,el,eX.bx _ _ trivial g1,DE bl g2,g3,g4,jU eX g5⟩
  ·rcases isB k bl I aj with⟨bk,a2,a3⟩|⟨bk,a2⟩<;>rcases isB aT bl J aO with⟨bJ,bQ,ey⟩|⟨bJ,bQ⟩
   ·exact h.good.inj k aT bl a2 bQ a3 ey
   ·obtain⟨cO,c2⟩:=rT k bl bk a2 a3;exact absurd rfl (nJ bl (tM aT bl bJ bQ) bl cO c2)
   ·obtain⟨cO,c2⟩:=rT aT bl bJ bQ ey;exact absurd rfl (nJ bl (tM k bl bk a2) bl cO c2)
   ·exact aG.inj k aT bl bk bJ a2 bQ
  ·rcases BU g o di with⟨I,J⟩|I
   ·obtain⟨u,us,g1,g2,g3,g4⟩:=h.good.own g o J;refine⟨u,us,by rw[yA g (by rw[g1];simp) I];exact g1,⟨g2.1,?_⟩,fun bl dd=>?_,k0 ab (fun bl dd j lv=>?_) g4⟩
    ·rcases g2.2 with aK|⟨e1,cap,cur,f1,f2,f3,f4⟩
     ·exact .inl aK
     ·obtain⟨bJ,bQ⟩:=pO g _ u e1 I (by simp[J]) g1 (by rw[f1];rfl);exact .inr ⟨e1,cap,cur,f1,f2,by rw[yF e1 bJ bQ];exact f3,f4⟩
    ·obtain⟨bJ,bQ⟩:=pO g _ u bl I (by simp[J]) g1 dd;exact⟨(g3 bl dd).1,fun j lv=>(g3 bl dd).2 j (aQ bl j lv bJ bQ)⟩
    ·obtain⟨bJ,bQ⟩:=pO g _ u bl I (by simp[J]) g1 dd;exact aQ bl j lv bJ bQ
   ·obtain⟨u,us,g1,g2,g3,g4⟩:=aG.own g o I;exact⟨u,us,by rw[yz g (by simp[I])];exact g1,g2,fun bl dd=>⟨DE bl (g3 bl dd).1,(g3 bl dd).2⟩,k0 eX (fun _ _ _ h=>h) g4⟩
  ·rcases u9 g _ I aj with⟨bk,a2,a3⟩|⟨bk,a2⟩<;>rcases u9 dh _ J aO with⟨bJ,bQ,ey⟩|⟨bJ,bQ⟩
   ·exact h.good.oinj g dh n n' u dq bl a2 bQ a3 ey bs da
   ·obtain⟨cO,c2⟩:=pO g n u bl bk a2 a3 bs;exact absurd rfl (nJ bl (vW dh n' dq bl bJ bQ da) bl cO c2)
   ·obtain⟨cO,c2⟩:=pO dh n' dq bl bJ bQ ey da;exact absurd rfl (nJ bl (vW g n u bl bk a2 bs) bl cO c2)
   ·exact aG.oinj g dh n n' u dq bl bk bJ a2 bQ bs da
  ·rcases u9 g _ I aj with⟨bk,a2,a3⟩|⟨bk,a2⟩<;>rcases isB k bl J bs with⟨bJ,bQ,ey⟩|⟨bJ,bQ⟩
   ·exact h.good.obx g k n u bl a2 bQ a3 aO ey
   ·obtain⟨cO,c2⟩:=pO g n u bl bk a2 a3 aO;exact absurd rfl (nJ bl (tM k bl bJ bQ) bl cO c2)
   ·obtain⟨cO,c2⟩:=rT k bl bJ bQ ey;exact absurd rfl (nJ bl (vW g n u bl bk a2 aO) bl cO c2)
   ·exact aG.obx g k n u bl bk bJ a2 aO bQ
  ·
   cases gk:(ν.join ν' s ah).bx k with
   |none=>exact .inl rfl
   |some bl=>
    right;cases iS:(ν.join ν' s ah).ow k with
    |none=>rfl
    |some x=>
     exfalso;have ai:(ν.bx k=some bl/\¬(look k s.b).isSome/\¬(look k ah.b).isSome)\/ν'.bx k=some bl:=by
      by_cases af:(look k s.b).isSome\/(look k ah.b).isSome
      ·right;simpa[aA.join,af]using gk
      ·left;simp only[not_or]at af;exact⟨by simpa[aA.join,af.1,af.2]using gk,af.1,af.2⟩
     have aK:(ν.ow k=some x/\¬(look k s.e).isSome/\¬(look k ah.e).isSome)\/ν'.ow k=some x:=by
      by_cases af:(look k s.e).isSome\/(look k ah.e).isSome
      ·right;simpa[aA.join,af]using iS
      ·left;simp only[not_or]at af;exact⟨by simpa[aA.join,af.1,af.2]using iS,af.1,af.2⟩
     rcases ai with⟨bk,a2,a3⟩|bk<;>rcases aK with⟨bJ,bQ,ey⟩|bJ
     ·rcases h.good.one k with bP|bP
      ·rw[bP]at bk;cases bk
      ·rw[bP]at bJ;cases bJ
     ·have pc:=GK k x bJ;have ds:(look k s.e).isSome:=by
       cases k with
       |loc m=>rw[lC.2 m]at pc;cases pc
       |obj m=>
        rcases cD m pc with bP|bP
        ·exact bP
        ·rw[(h.new (.obj m) ⟨trivial,bP⟩).1]at bk;cases bk
      obtain⟨o,uU⟩:=dK.1 (oi k ds);obtain⟨v',us,g1,_⟩:=h.good.own k o uU;rcases h.good.one k with bP|bP
      ·rw[bP]at bk;cases bk
      ·rw[bP]at g1;cases g1
     ·have sx:=GJ k bl bk;have ds:(look k s.b).isSome:=by
       cases k with
       |loc m=>rw[lC.1 m]at sx;cases sx
       |obj m=>
        rcases x8 m sx with bP|bP
        ·exact bP
        ·rw[(h.new (.obj m) ⟨trivial,bP⟩).2.1]at bJ;cases bJ
      obtain⟨cs,b0⟩:=dK.1 (oh k ds);obtain⟨fb,us,el,g1,_⟩:=h.good.box k cs b0;rcases h.good.one k with bP|bP
      ·rw[bP]at g1;cases g1
      ·rw[bP]at bJ;cases bJ
     ·rcases aG.one k with bP|bP
      ·rw[bP]at bk;cases bk
      ·rw[bP]at bJ;cases bJ
  ·have Du:∀k j,ν'.tr k j bl->w.heap.size<=bl:=fun k j bP=>by
    rcases(aF.trb k j bl bP).1 with a2|a2
    ·obtain⟨m,_,hm⟩:=(ad k).2.2 j bl bP;rw[hm]at a2;cases a2
    ·exact a2
   have hold:eg (ν.cut (au s)) s bl->¬ν.tr k j bl:=by
    rintro(⟨aT,bk,a2⟩|⟨g,n,u,bk,a2,a3⟩) bP
    ·exact h.good.otr bl (.inl ⟨aT,oh aT bk,(aA.cut_some a2).2⟩) k j bP
    ·exact h.good.otr bl (.inr ⟨g,n,u,oi g bk,(aA.cut_someO a2).2,a3⟩) k j bP
   have hG:eg (ν.cut (au s)) s bl\/w.heap.size<=bl->¬ν.tr k j bl:=by
    rintro(I|I) bP
    ·exact hold I bP
    ·have:=(h.fr.trb k j bl bP).2;omega
   rcases az with⟨aT,bk,a2⟩|⟨g,n,u,bk,a2,a3⟩
   ·rcases isB aT bl bk a2 with⟨bJ,bQ,ey⟩|⟨bJ,bQ⟩
    ·rcases ei with ei|ei
     ·exact h.good.otr bl (.inl ⟨aT,bQ,ey⟩) k j ei
     ·have:=(rT aT bl bJ bQ ey).1;have:=Du k j ei;omega
    ·rcases ei with ei|ei
     ·exact hG (tM aT bl bJ bQ) ei
     ·exact aG.otr bl (.inl ⟨aT,bJ,bQ⟩) k j ei
   ·rcases u9 g _ bk a2 with⟨bJ,bQ,ey⟩|⟨bJ,bQ⟩
    ·rcases ei with ei|ei
     ·exact h.good.otr bl (.inr ⟨g,n,u,bQ,ey,a3⟩) k j ei
     ·have:=(pO g n u bl bJ bQ ey a3).1;have:=Du k j ei;omega
    ·rcases ei with ei|ei
     ·exact hG (vW g n u bl bJ bQ a3) ei
     ·exact aG.otr bl (.inr ⟨g,n,u,bJ,bQ,a3⟩) k j ei
  ·have bS:k<w.heap.size:=Nat.lt_of_lt_of_le U h.fr.size;rw[yF k bS fun dd=>by
    rcases(hU k dd).1 with I|I
    ·exact hm I
    ·omega]
   exact h.fr.block k U hm
  ·obtain⟨cl,cy⟩:=h.fr.keep b o lv;obtain⟨gy,np⟩:=aF.keep b o cl;exact⟨gy,np.trans cy⟩
  ·rcases aF.fresh b o lv with aO|aO|aO
   ·exact h.fr.fresh b o aO
   ·exact .inr (hU b aO).1
   ·exact .inr (.inr (Nat.le_trans h.fr.size aO))
  ·rcases I with I|I<;>rcases J with J|J
   ·exact h.fr.trd k j aT dn b I J
   ·have bk:=(h.fr.trb k j b I).2;have a2:=(aF.trb aT dn b J).1;rcases a2 with a2|a2
    ·obtain⟨m,_,hm⟩:=(ad aT).2.2 dn b J;rw[hm]at a2;cases a2
    ·simp only at a2;omega
   ·have bk:=(h.fr.trb aT dn b J).2;have a2:=(aF.trb k j b I).1;rcases a2 with a2|a2
    ·obtain⟨m,_,hm⟩:=(ad k).2.2 j b I;rw[hm]at a2;cases a2
    ·simp only at a2;omega
   ·exact aF.trd k j aT dn b I J
  ·rcases aa with aa|aa
   ·exact⟨(h.fr.trb k j b aa).1,Nat.lt_of_lt_of_le (h.fr.trb k j b aa).2 aF.size⟩
   ·refine⟨.inr ?_,(aF.trb k j b aa).2⟩;rcases(aF.trb k j b aa).1 with a2|a2
    ·obtain⟨m,_,hm⟩:=(ad k).2.2 j b aa;rw[hm]at a2;cases a2
    ·exact Nat.le_trans h.fr.size a2
  ·have key:ν.bx k=none/\ν.ow k=none/\¬(look k ah.b).isSome/\¬(look k ah.e).isSome:=by
    rcases aa with aa|aa
    ·obtain⟨t1,t2⟩:=h.fr.trn k j b aa;refine⟨t1,t2,fun bP=>?_,fun bP=>?_⟩
     ·cases k with
      |loc m=>rw[lC.1 m]at bP;cases bP
      |obj m=>
       rcases x8 m bP with bs|bs
       ·obtain⟨cs,b0⟩:=dK.1 (oh _ bs);obtain⟨fb,us,el,g1,_⟩:=h.good.box _ cs b0;rw[t1]at g1;cases g1
       ·exact(h.new (.obj m) ⟨trivial,bs⟩).2.2 j b aa
     ·cases k with
      |loc m=>rw[lC.2 m]at bP;cases bP
      |obj m=>
       rcases cD m bP with bs|bs
       ·obtain⟨cs,b0⟩:=dK.1 (oi _ bs);obtain⟨fb,us,g1,_⟩:=h.good.own _ cs b0;rw[t2]at g1;cases g1
       ·exact(h.new (.obj m) ⟨trivial,bs⟩).2.2 j b aa
    ·obtain⟨m,hm,rfl⟩:=(ad k).2.2 j b aa;obtain⟨t1,t2,_⟩:=u4 m hm;exact⟨t1,t2,by simp[lC.1 m],by simp[lC.2 m]⟩
   obtain⟨t1,t2,t3,t4⟩:=key;have t5:¬(look k s.b).isSome:=fun bP=>by obtain⟨cs,b0⟩:=dK.1 (oh _ bP);obtain⟨fb,us,el,g1,_⟩:=h.good.box _ cs b0;rw[t1]at g1;cases g1
   have t6:¬(look k s.e).isSome:=fun bP=>by obtain⟨cs,b0⟩:=dK.1 (oi _ bP);obtain⟨fb,us,g1,_⟩:=h.good.own _ cs b0;rw[t2]at g1;cases g1
   exact⟨by simp[aA.join,t3,t5,t1],by simp[aA.join,t4,t6,t2]⟩
  ·
   simp only at U;obtain⟨U,LJ⟩:=gL k U;have Dy:(∀j b,¬ν.tr k j b)->∀j b,¬(ν.join ν' s ah).tr k j b:=fun I j b aa=>by
    rcases aa with aa|aa
    ·exact I j b aa
    ·obtain⟨m,hm,e⟩:=(ad k).2.2 j b aa;exact LJ m hm e
   cases k with
   |loc m=>obtain⟨eN,dU,fJ⟩:=h.new (.loc m) (o0 (dY _) (fun _ h=>lh _ h) U);exact⟨by simp[aA.join,kL.1 m,lC.1 m,eN],by simp[aA.join,kL.2 m,lC.2 m,dU],Dy fJ⟩
   |obj m=>
    simp only[fresh,ht,not_or,true_and]at U;obtain⟨eN,dU,fJ⟩:=h.new (.obj m) ⟨trivial,U.1⟩;have bY:¬(look (.obj m) ah.b).isSome:=fun bP=>U.2 (pG (.inl bP));have cz:¬(look (.obj m) ah.e).isSome:=fun bP=>U.2 (pG (.inr bP));have dV:¬(look (.obj m) s.b).isSome:=fun bP=>by obtain⟨cs,b0⟩:=dK.1 (oh _ bP);obtain⟨fb,us,el,g1,_⟩:=h.good.box _ cs b0;rw[eN]at g1;cases g1
    have cY:¬(look (.obj m) s.e).isSome:=fun bP=>by obtain⟨cs,b0⟩:=dK.1 (oi _ bP);obtain⟨v',us,g1,_⟩:=h.good.own _ cs b0;rw[dU]at g1;cases g1
    exact⟨by simp[aA.join,bY,dV,eN],by simp[aA.join,cz,cY,dU],Dy fJ⟩
 exact kf.put aY (nE eX hr)
inductive cS where
 |s (i:cH)
 |call (d:aW Nat) (f:bW) (xs:List bW)
 |next (d:Nat) (x:bW)
 |opn (d:aW Nat) (f:bW) (xs:List bW)
structure bO where
 g:aW (Nat×Bool)
 i:cS
def cH.dst:cH->aW Nat
 | .v d _| .box d _ _| .alloc d _ _| .bsl d _ _ _| .app d _ _ _ _| .bslm d _ _ _ _| .appm d _ _ _ _ _| .mkmap d _| .range d _ _| .mks d _ _ _ _ _| .apps d _ _ _=>some d
 | .store _ _ _| .mput _ _ _ _| .storeE _ _ _=>none
def cS.dst:cS->aW Nat
 | .s i=>i.dst
 | .call d _ _=>d
 | .next d _=>some d
 | .opn d _ _=>d
def bh(P:bj)(n:Nat)(args:List ae)(st:aS)(d:aW Nat)(K:aS->Prop):Prop:=
 (∃s Q,iG (au s) s.b st.b/\iH (au s) s.e st.e/\fK s/\aD (au s) args/\br P n args s Q/\
  ∀r ah,Q r ah->((∀m,(look (.obj m) ah.b).isSome->(look (.obj m) s.b).isSome\/ .obj m∉st.o)/\(∀m,(look (.obj m) ah.e).isSome->(look (.obj m) s.e).isSome\/ .obj m∉st.o))/\K (after st s ah d r))\/
 (∃s Q,iG (au s) s.b st.b/\iH (au s) s.e st.e/\fK s/\aD (au s) args/\ .loc st.n∉st.o/\wv P n st.n args s Q/\
  ∀r ah,Q r ah->((∀m,(look (.obj m) ah.b).isSome->(look (.obj m) s.b).isSome\/ .obj m∉st.o)/\(∀m,(look (.obj m) ah.e).isSome->(look (.obj m) s.e).isSome\/ .obj m∉st.o))/\K {after st s ah d r with n:=st.n+1})
def NA(st:aS)(d:Nat)(hn mk:av)(since:Nat)(seen:List Nat)(last clock:Nat)(borns:List Nat)(kvs:List ae)(K:aS->Prop):Prop:=
 (since=clock/\last=clock)/\((∀b∈borns,b∈seen)->K {st with t:=put d (.tuple [.bool false]) st.t})/\
 (∀b k v,lM b borns kvs=some (.tuple [k,v])->b∉seen->K {st with t:=put d (.tuple [.bool true,k,v]) st.t,b:=bV hn [.hdi since (seen++[b]) last,.gmap mk] st.b})
def uc(st:aS)(d:Nat)(v:ae)(K:aS->Prop):Prop:=
 match v with
 | .ptr hn 0=>match look hn st.b with
  |some [.hdi since seen last,.gmap mk]=>match look mk st.b with
   |some (.hdm clock borns::kvs)=>NA st d hn mk since seen last clock borns kvs K
   |_=>cU
  |_=>cU
 |_=>cU
def rK(P:bj)(ob:List av)(n:Nat)(args:List ae)(st:aS)(d:aW Nat)(K:aS->Prop):Prop:=
 ∀(C:c7) (a:Act) (w:World) (ν:aA) (aV:Array Value),C.ob=ob->bH C st a w ν->bG w ν args aV.toList->e2 C.N d=true->
  nO P n aV w fun e w'=> ∃v st' ν',e= .returned v/\K st'/\bH C st' (a.put d v) w' ν'
def ls(P:bj)(ob:List av)(st:aS)(K:aS->Prop):cS->Prop
 | .next d x=>uc st d (bf st.t x) K
 | .s i=>match hN st i with
  |some (c,st')=>c/\K st'
  |none=>cU
 | .call d f xs=>match bf st.t f with
  | .func n bX=>bh P n (bR (xs.map (bf st.t)++bX)) st d K
  |_=>cU
 | .opn d f xs=>match bf st.t f with
  | .func n bX=>rK P ob n (xs.map (bf st.t)++bX) st d K
  |_=>cU
def eV(P:bj)(ob:List av):List bO->aS->(aS->Prop)->Prop
 |[],st,K=>K st
 |⟨none,i⟩::r,st,K=>ls P ob st (fun st'=>eV P ob r st' K) i
 |⟨some (s,want),i⟩::r,st,K=>match get s st.t with
  | .bool b=>(b=want->ls P ob {st with t:=put s (.bool want) st.t} (fun st'=>eV P ob r st' K) i)/\(b= !want->eV P ob r {st with t:=dB i.dst (.tuple []) (put s (.bool !want) st.t)} K)
  | .tuple []=>eV P ob r {st with t:=dB i.dst (.tuple []) st.t} K
  |_=>cU
def mE(N:Nat)(aR:List (Nat×cw))(i:cS)(o:Oper):Bool:=
 match i with
 | .s i=>k2 N aR i o
 | .next d x=>match o.op with
  | .next it false=>o.dst==some d&&decide (d<N)&&cE x it
  |_=>false
 | .call d f xs=>match o.op with
  | .call ⟨.value iv,args,_⟩=>o.dst==d&&e2 N d&&cE f iv&&oF xs args.toList
  |_=>false
 | .opn d f xs=>match o.op with
  | .call ⟨.value iv,args,_⟩=>o.dst==d&&e2 N d&&cE f iv&&oF xs args.toList
  |_=>false
def sb(N:Nat)(aR:List (Nat×cw))(ops:List Oper)(g:bO)(o:Oper):Bool:=
 (match g.g,o.guard with
  |none,none=>true
  |some (s,b),some (j,dL)=>b==dL&&((ops[j]?).bind (·.dst))==some s&&decide (s<N)&&o.dst==g.i.dst&&e2 N g.i.dst
  |_,_=>false)&&mE N aR g.i o
def gI(N:Nat)(aR:List (Nat×cw))(ops:List Oper):List bO->List Oper->Bool
 |[],[]=>true
 |g::gs,o::os=>sb N aR ops g o&&gI N aR ops gs os
 |_,_=>false
theorem zx{w:World}{ν:aA}:∀{a8 bZ:List ae} {aV us:List Value},bG w ν a8 aV->bG w ν bZ us->bG w ν (a8++bZ) (aV++us)
 |[],bZ,aV,us,h,b3=>by simp only[bG]at h;subst h;simpa using b3
 |p::a8,bZ,aV,us,h,b3=>by simp only[bG]at h;obtain⟨u,a1,rfl,I,J⟩:=h;simp only[cN,bG];exact⟨u,_,rfl,I,zx J b3⟩
theorem nO.mono{P:bj}{f:FuncId}{aV:Array Value}{w:World}{R wy:Ending->World->Prop}(h:nO P f aV w R)(hT:∀e w',R e w'->wy e w'):nO P f aV w wy:=by
 rcases h with⟨I,J⟩|⟨v,w',I,J⟩
 ·exact .inl ⟨I,J.mono hT⟩
 ·exact .inr ⟨v,w',I,hT _ _ J⟩
theorem BQ{P:bj}{C:c7}{st:aS}{a:Act}{w:World}{ν:aA}(hr:bH C st a w ν){o:Oper}{iv:Operand}{args:Array Operand}{nM:Array eb}(gx:o.op= .call ⟨.value iv,args,nM⟩){d:aW Nat}(aY:o.dst=d)(nh:e2 C.N d=true)
  {n:Nat} {bX:List ae} (aF:aw w ν (.func n bX) (a.eval iv)) {a8:List ae} (ia:bG w ν a8 (args.toList.map a.eval)) {K:aS->Prop}
  (al:∃(s:cr) (ky:ae->cr->Prop) (κ:aW Nat) (n':Nat) (o':cr->List av),iG (au s) s.b st.b/\iH (au s) s.e st.e/\fK s/\aD (au s) (bR (a8++bX))/\(∀(w:World) (ν:aA) (aV:Array Value) (gl:jc w ν),Good (eg ν s) w ν s.b s.e->kI ν s->bG w ν (bR (a8++bX)) aV.toList->
   nO P n aV w fun e w'=> ∃v r ah ν',e= .returned v/\ky r ah/\aw w' ν' r v/\Good (fun bl=>eg ν s bl\/w.heap.size<=bl) w' ν' ah.b ah.e/\ue κ ν' ah/\fK ah/\kx ⟨w,ν,eg ν s,0,dG s,gl,[]⟩ w' ν')/\
   (∀m,κ=some m->fresh st.n st.o (.loc m))/\(∀k r ah,ky r ah->fresh n' (o' ah) k->fresh st.n (st.o++dG ah) k/\∀m,κ=some m->k≠ .loc m)/\
   ∀r ah,ky r ah->((∀m,(look (.obj m) ah.b).isSome->(look (.obj m) s.b).isSome\/ .obj m∉st.o)/\(∀m,(look (.obj m) ah.e).isSome->(look (.obj m) s.e).isSome\/ .obj m∉st.o))/\K {after st s ah d r with n:=n',o:=o' ah})
  {jF:Act->World->Prop} {Q:Exit->Act->World->Prop} (ch:∀st' ca w' ν',K st'->bH C st' ca w' ν'->jF ca w'):o.wp P a w jF Q:=by
 obtain⟨s,ky,κ,n',o',cO,c2,c3,c4,c5,B3,BY,jj⟩:=al;simp only[aw]at aF;obtain⟨us,aH,hu⟩:=aF;have hJ:bG w (ν.cut (au s)) (bR (a8++bX)) ((args.map a.eval)++us).toList:=by refine ri (je.cut _ w ν) _ _ c4 (vU _ _ ?_);simpa using zx ia hu
 have LA:Good (eg (ν.cut (au s)) s) w (ν.cut (au s)) s.b s.e:=hr.good.cut cO c2 (fun bl _ h=>h);have hex:kI (ν.cut (au s)) s:=by
  intro k;refine⟨?_,?_,?_⟩;rotate_left 2
  ·rintro j b ⟨af,aa⟩;obtain⟨t1,t2⟩:=hr.fr.trn k j b aa;rcases af with af|af<;>obtain⟨x,ad⟩:=dK.1 af
   ·obtain⟨bl,a1,el,ai,_⟩:=hr.good.box k x (cO k x ad).1;rw[t1]at ai;cases ai
   ·obtain⟨v',a1,ai,_⟩:=hr.good.own k x (c2 k x ad).1;rw[t2]at ai;cases ai
  ·intro ar;by_cases af:au s k
   ·rw[aA.cut_bx af];rcases af with af|af
    ·rw[ar]at af;cases af
    ·obtain⟨x,ad⟩:=dK.1 af;obtain⟨v',a1,ai,_⟩:=hr.good.own k x (c2 k x ad).1;rcases hr.good.one k with I|I
     ·exact I
     ·rw[I]at ai;cases ai
   ·exact(aA.cut_no af).1
  ·intro ar;by_cases af:au s k
   ·rw[aA.cut_ow af];rcases af with af|af
    ·obtain⟨x,ad⟩:=dK.1 af;obtain⟨bl,a1,el,ai,_⟩:=hr.good.box k x (cO k x ad).1;rcases hr.good.one k with I|I
     ·rw[I]at ai;cases ai
     ·exact I
    ·rw[ar]at af;cases af
   ·exact(aA.cut_no af).2.1
 rcases c5 w (ν.cut (au s)) ((args.map a.eval)++us) (hr.fr.gl.cut _) LA hex hJ with⟨⟨fn,g1,g2,g3⟩,c5⟩|⟨v,w',c5,be⟩
 ·obtain⟨code,xK⟩:=dK.1 g2;have eP:(execOp a.eval o).run P w= .ok (.enter n ((args.map a.eval)++us)) w:=by obtain⟨dst,op,ty,pos,jh,uo⟩:=o;simp only at gx;subst gx;simp only[execOp,resolve,aH,Deferred.ofValue,dk,dP,dr,invoke,callFunc,run_program,g1,g3,xK];simp
  unfold Oper.wp;rw[eP];simp only[Oper.upon];refine c5.mono fun e w' be=>?_;obtain⟨v,r,ah,ν',rfl,bD,bY,cz,dV,cY,cc⟩:=be;obtain⟨⟨eN,dU⟩,U⟩:=jj r ah bD;rw[aY];exact ch _ _ _ _ U (hr.callK cO c2 c3 cz dV (fun m hm=>hr.new _ (B3 m hm)) (n':=n') (o':=o' ah) (fun k U=>BY k r ah bD U) cY cc eN dU d nh bY)
 ·have eP:(execOp a.eval o).run P w= .ok (.value v) w':=by obtain⟨dst,op,ty,pos,jh,uo⟩:=o;simp only at gx;subst gx;simp only[execOp,resolve,aH,Deferred.ofValue,dk,dP,dr,invoke];simpa using c5
  obtain⟨v2,r,ah,ν',yr,bD,bY,cz,dV,cY,cc⟩:=be;cases yr;obtain⟨⟨eN,dU⟩,U⟩:=jj r ah bD;refine gS eP ?_;rw[aY];exact ch _ _ _ _ U (hr.callK cO c2 c3 cz dV (fun m hm=>hr.new _ (B3 m hm)) (n':=n') (o':=o' ah) (fun k U=>BY k r ah bD U) cY cc eN dU d nh bY)
theorem OB{P:bj}{C:c7}{st:aS}{a:Act}{w:World}{ν:aA}(hr:bH C st a w ν){o:Oper}{iv:Operand}{args:Array Operand}{nM:Array eb}(gx:o.op= .call ⟨.value iv,args,nM⟩){d:aW Nat}(aY:o.dst=d)(nh:e2 C.N d=true)
  {n:Nat} {bX:List ae} (aF:aw w ν (.func n bX) (a.eval iv)) {a8:List ae} (ia:bG w ν a8 (args.toList.map a.eval)) {K:aS->Prop} (al:rK P C.ob n (a8++bX) st d K)
  {jF:Act->World->Prop} {Q:Exit->Act->World->Prop} (ch:∀st' ca w' ν',K st'->bH C st' ca w' ν'->jF ca w'):o.wp P a w jF Q:=by
 simp only[aw]at aF;obtain⟨us,aH,hu⟩:=aF;have hJ:bG w ν (a8++bX) ((args.map a.eval)++us).toList:=by simpa using zx ia hu
 rcases al C a w ν _ rfl hr hJ nh with⟨⟨fn,g1,g2,g3⟩,c5⟩|⟨v,w',c5,be⟩
 ·obtain⟨code,xK⟩:=dK.1 g2;have eP:(execOp a.eval o).run P w= .ok (.enter n ((args.map a.eval)++us)) w:=by obtain⟨dst,op,ty,pos,jh,uo⟩:=o;simp only at gx;subst gx;simp only[execOp,resolve,aH,Deferred.ofValue,dk,dP,dr,invoke,callFunc,run_program,g1,g3,xK];simp
  unfold Oper.wp;rw[eP];simp only[Oper.upon];refine c5.mono fun e w' be=>?_;obtain⟨v,st',ν',rfl,U,cn⟩:=be;rw[aY];exact ch _ _ _ _ U cn
 ·have eP:(execOp a.eval o).run P w= .ok (.value v) w':=by obtain⟨dst,op,ty,pos,jh,uo⟩:=o;simp only at gx;subst gx;simp only[execOp,resolve,aH,Deferred.ofValue,dk,dP,dr,invoke];simpa using c5
  obtain⟨v2,st',ν',yr,U,cn⟩:=be;cases yr;refine gS eP ?_;rw[aY];exact ch _ _ _ _ U cn
theorem BP{P:bj}{C:c7}{st:aS}{a:Act}{w:World}{ν:aA}(hr:bH C st a w ν){o:Oper}{iv:Operand}{args:Array Operand}{nM:Array eb}(gx:o.op= .call ⟨.value iv,args,nM⟩){d:aW Nat}(aY:o.dst=d)(nh:e2 C.N d=true)
  {n:Nat} {bX:List ae} (aF:aw w ν (.func n bX) (a.eval iv)) {a8:List ae} (ia:bG w ν a8 (args.toList.map a.eval)) {K:aS->Prop} (al:bh P n (bR (a8++bX)) st d K)
  {jF:Act->World->Prop} {Q:Exit->Act->World->Prop} (ch:∀st' ca w' ν',K st'->bH C st' ca w' ν'->jF ca w'):o.wp P a w jF Q:=by
 refine BQ hr gx aY nh aF ia (K:=K) ?_ ch;rcases al with⟨s,ky,cO,c2,c3,c4,c5,jj⟩|⟨s,ky,cO,c2,c3,c4,c0,c5,jj⟩
 ·refine⟨s,ky,none,st.n,fun ah=>st.o++dG ah,cO,c2,c3,c4,fun w ν aV gl I J aj=>(c5 w ν aV gl I J aj).mono fun e w' be=>?_,fun m hm=>(by cases hm),fun k _ ah _ U=>⟨U,fun m hm=>by cases hm⟩,jj⟩;obtain⟨v,r,ah,ν',g1,g2,g3,g4,g5,g6⟩:=be;exact⟨v,r,ah,ν',g1,g2,g3,g4,g5.k,g6⟩
 ·refine⟨s,ky,some st.n,st.n+1,fun ah=>st.o++dG ah,cO,c2,c3,c4,c5,fun m hm=>(by cases hm;exact⟨dY _,c0⟩),fun k _ ah _ U=>⟨o0 (Nat.le_succ _) (fun _ h=>h) U,fun m hm=>?_⟩,jj⟩;cases hm;rintro rfl;have:=U.1;simp only at this;omega
theorem bH.drawn{C:c7}{st:aS}{a:Act}{w:World}{ν:aA}(hr:bH C st a w ν)(n:Nat):bH C st a {w with drawn:=n} ν:=by
 have kM:hP w ν {w with drawn:=n} ν:=⟨fun _ _ h=>⟨h,rfl⟩,fun _ _ _ h=>h,fun _ n u _ h=>⟨n,u,h,.inl ⟨rfl,rfl⟩⟩,fun _ _ _=>rfl,fun _ _ _ _ h=>h⟩;refine hr.over kM rfl ⟨hr.good.alt,fun k cs U=>?_,hr.good.inj,fun g o aG=>?_,hr.good.oinj,hr.good.obx,hr.good.one,hr.good.otr⟩ ⟨hr.fr.os,hr.fr.tape,hr.fr.output,hr.fr.size,hr.fr.block,hr.fr.keep,hr.fr.fresh,hr.fr.obj,hr.fr.obn,hr.fr.row,hr.fr.obr,hr.fr.trd,hr.fr.trb,hr.fr.trn,hr.fr.sh,hr.fr.nrow⟩ hr.new
 ·obtain⟨bl,us,el,I,J,aj,aO,bs⟩:=hr.good.box k cs U;exact⟨bl,us,el,I,J,aj,aO,jU kM bs⟩
 ·obtain⟨v,us,I,J,aj,aO⟩:=hr.good.own g o aG;exact⟨v,us,I,J,aj,k0 kM (fun _ _ _ h=>h) aO⟩
theorem Kk{α:Type}{l:List α}{p:α->Bool}(h:∀x∈l,p x=false):l.filter p=[]:=by rw[List.filter_eq_nil_iff];intro x ad;simp[h x ad]
theorem Kj{α:Type}{l:List α}{p:α->Bool}(h:∀x∈l,p x=true):l.filter p=l:=List.filter_eq_self.2 h
def vq(r m since clock:Nat)(seen:Array Nat)(BR:Array (aW MapEntry)):Sem Value:=do
 match BR[<-choose (.mapNext BR.size)]? with
 |some (some e)=>
  setObj r (.mapIter (some m) since (seen.push e.born) clock)
  pure (.tuple #[.bool true,e.key,e.val])
 |some none=>pure (.tuple #[.bool false])
 |none=>stuck "Next: no such candidate"
theorem FX{P:bj}{w:World}(r m since clock:Nat)(seen:Array Nat)(l:List (aW MapEntry))(ar:l≠[]):∃n x,x∈l/\(vq r m since clock seen l.toArray).run P w=
  (match x with|some e=>(do setObj r (.mapIter (some m) since (seen.push e.born) clock);pure (.tuple #[.bool true,e.key,e.val]):Sem Value)|none=>pure (.tuple #[.bool false])).run P {w with drawn:=n}:=by
 have gO:0<l.length:=List.length_pos_iff.2 ar;unfold vq;have key:∀i,i<l.length->∀w',((do match(l.toArray[i]?:aW (aW MapEntry))with
   |some (some e)=>setObj r (.mapIter (some m) since (seen.push e.born) clock);pure (.tuple #[.bool true,e.key,e.val])
   |some none=>pure (.tuple #[.bool false])
   |none=>stuck "Next: no such candidate" :Sem Value)).run P w'=((match l[i]! with|some e=>(do setObj r (.mapIter (some m) since (seen.push e.born) clock);pure (.tuple #[.bool true,e.key,e.val]):Sem Value)|none=>pure (.tuple #[.bool false]))).run P w':=by
  intro i aM w';have I:l.toArray[i]? =some l[i]!:=by simp[aM]
  rw[I];cases l[i]!<;>rfl
 by_cases aF:(Question.mapNext l.length).forced=true
 ·refine⟨w.drawn,l[0]!,by simp[gO],?_⟩;rw[<-key 0 gO];have al:(choose (.mapNext l.length):Sem Nat).run P w= .ok 0 w:=by simp[aF]
  simp only[lj,dk,al,dr]
 ·refine⟨w.drawn+1,l[(w.tape w.drawn (.mapNext l.length))%l.length]!,by simp[Nat.mod_lt _ gO],?_⟩;rw[<-key _ (Nat.mod_lt _ gO)];have al:(choose (.mapNext l.length):Sem Nat).run P w= .ok ((w.tape w.drawn (.mapNext l.length))%l.length) {w with drawn:=w.drawn+1}:=by simp[aF,Question.cut]
  simp only[lj,dk,al,dr]
theorem Pa{P:bj}{w:World}{bl kl:Nat}{seen:List Nat}{es:List MapEntry}{clock:Nat}{ty:eb}(I:w.heap[bl]? =some (.mapIter (some kl) clock seen.toArray clock))(J:w.heap[kl]? =some (.map es.toArray clock))(bS:∀e∈es,e.born<clock):
  ∃n,((∀e∈es,e.born∈seen)/\(Instr.next (.pointer (some ⟨bl,0,none⟩)) false ty).run P w= .ok (.tuple #[.bool false]) {w with drawn:=n})\/
   ∃e∈es,e.born∉seen/\(Instr.next (.pointer (some ⟨bl,0,none⟩)) false ty).run P w= .ok (.tuple #[.bool true,e.key,e.val]) {w with drawn:=n,heap:=w.heap.setIfInBounds bl (.mapIter (some kl) clock (seen++[e.born]).toArray clock)}:=by
 have lx:(!seen.toArray.isEmpty&& !es.toArray.isEmpty&&es.toArray.all (fun e=>decide (e.born≥clock)))=false:=by
  cases es with
  |nil=>simp
  |cons e r=>have:=bS e Ψ;simp;intro _ h;omega
 generalize xF:(es.filter fun e=> !seen.contains e.born)=left;have LL:(es.toArray.filter fun e=> !seen.toArray.contains e.born)=left.toArray:=by rw[<-xF];simp
 have hi:∀e∈left,e∈es/\e.born∉seen:=fun e he=>by rw[<-xF]at he;have:=List.mem_filter.1 he;exact⟨this.1,by simpa using this.2⟩
 have hold:(left.toArray.filter fun e=>decide (e.born<clock))=left.toArray:=by rw[List.filter_toArray,Kj];intro e he;have:=bS e (hi e he).1;simp[this]
 have hG:(left.toArray.filter fun e=>decide (e.born≥clock))= #[]:=by rw[List.filter_toArray,Kk];intro e he;have:=bS e (hi e he).1;simp;omega
 have eP:(Instr.next (.pointer (some ⟨bl,0,none⟩)) false ty).run P w=(vq bl kl clock clock seen.toArray ((if left.toArray.isEmpty then #[none]else #[])++(left.toArray++ #[]).map some)).run P w:=by unfold Instr.next vq;simp only[dk,nI I,nI J,dr,lx,LL,hold,hG,hO,if_false];rfl
 rw[eP];by_cases uO:left=[]
 ·subst uO;obtain⟨n,x,g1,g2⟩:=FX (P:=P) (w:=w) bl kl clock clock seen.toArray [none] Ψ;refine⟨n,.inl ⟨fun e he=>?_,?_⟩⟩
  ·have:=List.filter_eq_nil_iff.1 xF e he;simpa using this
  ·simp only[List.mem_singleton]at g1;subst g1;have al:((if(([]:List MapEntry).toArray).isEmpty then #[none]else #[])++(([]:List MapEntry).toArray++ #[]).map some)=[none].toArray:=by simp
   rw[al,g2];rfl
 ·have al:((if left.toArray.isEmpty then #[none]else #[])++(left.toArray++ #[]).map some)=(left.map some).toArray:=by simp[uO]
  obtain⟨n,x,g1,g2⟩:=FX (P:=P) (w:=w) bl kl clock clock seen.toArray (left.map some) (by simpa using uO);simp only[ku]at g1;obtain⟨e,he,rfl⟩:=g1;refine⟨n,.inr ⟨e,(hi e he).1,(hi e he).2,?_⟩⟩;rw[al,g2];simp only[dk];rw[tt (w:={w with drawn:=n}) (o:= .mapIter (some kl) clock seen.toArray clock) I];simp
theorem xb:∀{borns:List Nat} {us:List Value} {e:MapEntry},e∈dF borns us->e.born∈borns
 |[],us,e,h=>by simp[dF]at h
 |b::cJ,[],e,h=>by simp[dF]at h
 |b::cJ,[_],e,h=>by simp[dF]at h
 |b::cJ,k::v::us,e,h=>by
  simp only[dF,ft]at h;rcases h with rfl|h
  ·simp
  ·exact List.mem_cons_of_mem _ (xb h)
theorem Cb:∀{borns:List Nat} {kvs:List ae} {us:List Value},kvs.length=2*borns.length->us.length=kvs.length->∀{b:Nat},b∈borns->∃e∈dF borns us,e.born=b
 |[],_,_,_,_,b,aa=>by simp at aa
 |dL::cJ,kvs,[],I,J,b,aa=>by rw[I]at J;simp at J
 |dL::cJ,kvs,[_],I,J,b,aa=>by rw[I]at J;simp at J;omega
 |dL::cJ,kvs,k::v::us,I,J,b,aa=>by
  rcases ft.1 aa with rfl|aa
  ·exact⟨⟨k,v,b⟩,by simp[dF],rfl⟩
  ·obtain⟨e,g1,g2⟩:=Cb (kvs:=kvs.drop 2) (us:=us) (borns:=cJ) (by simp at I⊢;omega) (by simp at I J⊢;omega) aa;exact⟨e,by simp[dF,g1],g2⟩
theorem Em{w:World}{ν:aA}:∀{borns:List Nat} {kvs:List ae} {us:List Value},kvs.length=2*borns.length->borns.Pairwise (· < ·)->bG w ν kvs us->∀{e:MapEntry},e∈dF borns us->∃k v,lM e.born borns kvs=some (.tuple [k,v])/\aw w ν k e.key/\aw w ν v e.val
 |[],_,_,_,_,_,e,h=>by simp[dF]at h
 |b::cJ,[],us,I,_,_,e,_=>by simp at I
 |b::cJ,[_],us,I,_,_,e,_=>by simp at I;omega
 |b::cJ,k::v::kvs,us,I,J,aj,e,h=>by
  simp only[bG]at aj;obtain⟨fU,rz,rfl,dX,fN,jY,rfl,fD,iW⟩:=aj;simp only[dF,ft]at h;rw[List.pairwise_cons]at J;rcases h with rfl|h
  ·exact⟨k,v,by simp[lM],dX,fD⟩
  ·obtain⟨aT,v',g1,g2,g3⟩:=Em (by simp at I;omega) J.2 iW h;have cD:b≠e.born:=Nat.ne_of_lt (J.1 _ (xb h));exact⟨aT,v',by simp[lM,cD,g1],g2,g3⟩
theorem NB{P:bj}{C:c7}{st:aS}{a:Act}{w:World}{ν:aA}(hr:bH C st a w ν){o:Oper}{it:Operand}(gx:o.op= .next it false){d:Nat}(aY:o.dst=some d)(nh:e2 C.N (some d)=true){v:ae}(aH:aw w ν v (a.eval it)){K:aS->Prop}(he:uc st d v K)
  {jF:Act->World->Prop} {Q:Exit->Act->World->Prop} (ch:∀st' ca w' ν',K st'->bH C st' ca w' ν'->jF ca w'):o.wp P a w jF Q:=by
 unfold uc at he;split at he
 ·rename_i hn;split at he
  ·rename_i since seen last mk ib;split at he
   ·rename_i clock borns kvs pe;obtain⟨⟨rfl,rfl⟩,xP,xQ⟩:=he;simp only[aw]at aH;obtain⟨bl,bJ,bQ⟩:=aH;obtain⟨fb,us,el,bY,cz,dV,cY,cc⟩:=hr.good.box hn _ ib;rw[bJ]at bY;cases bY;obtain⟨kl,ms,R8,m1,m2,m3,m4,m5⟩:=hr.good.box mk _ pe;simp only[eZ,bG]at cc;obtain⟨u,a1,hu,⟨R7,dX,rfl⟩,rfl⟩:=cc;rw[m1]at dX;cases dX;simp only[fq,hu]at cY;simp only[fq]at m4;simp only[eZ]at m5;obtain⟨n,hV⟩:=Pa (P:=P) (ty:=o.type) cY m4 (fun e he=>m5.2.lt _ (xb he));have gw:∀v' w',(Instr.next (.pointer (some ⟨bl,0,none⟩)) false o.type).run P w= .ok v' w'->(execOp a.eval o).run P w= .ok (.value v') w':=by intro v' w' eP;obtain⟨dst,op,ty,pos,jh,uo⟩:=o;simp only at gx eP;subst gx;simp only[execOp,bQ];exact tD eP
    rcases hV with⟨I,J⟩|⟨e,I,J,aj⟩
    ·refine gS (gw _ _ J) ?_;rw[aY];refine ch _ _ _ _ (xP fun b aa=>?_) ((hr.drawn n).put nh (p:= .tuple [.bool false]) (by simp[aw,bG]));obtain⟨e,f1,f2⟩:=Cb m5.2.len (vT m5.1) aa;rw[<-f2];exact I e f1
    ·obtain⟨k,v,f1,f2,f3⟩:=Em m5.2.len m5.2.inc m5.1 I;refine gS (gw _ _ aj) ?_;rw[aY];have oj:=((hr.drawn n).setBox (w':={w with drawn:=n,heap:=w.heap.setIfInBounds bl (.mapIter (some kl) last (seen++[e.born]).toArray last)}) ib bJ (cs':=[.hdi last (seen++[e.born]) last,.gmap mk]) (us:=us) (el:=el) rfl rfl rfl
      (fun j aC=>Array.getElem?_setIfInBounds_ne (Ne.symm aC)) Ψ (by simp[fq,hu,(Array.getElem?_eq_some_iff.1 cY).1]) (by simp only[eZ,bG];exact⟨_,_,hu,by simp only[aw];exact⟨kl,m1,rfl⟩,rfl⟩))
     refine ch _ _ _ _ (xQ e.born k v f1 J) (oj.1.put nh (p:= .tuple [.bool true,k,v]) ?_);simp only[aw];refine⟨_,rfl,?_⟩;simp only[bG];have kM:hP w ν {w with drawn:=n} ν:=⟨fun _ _ h=>⟨h,rfl⟩,fun _ _ _ h=>h,fun _ n u _ h=>⟨n,u,h,.inl ⟨rfl,rfl⟩⟩,fun _ _ _=>rfl,fun _ _ _ _ h=>h⟩;exact⟨_,_,rfl,by simp[aw],_,_,rfl,nE oj.2 (nE kM f2),_,_,rfl,nE oj.2 (nE kM f3),rfl⟩
   ·exact he.elim
  ·exact he.elim
 ·exact he.elim
theorem Cd{P:bj}{aR:List (Nat×cw)}(az:eD P aR=true){C:c7}{st:aS}{a:Act}{w:World}{ν:aA}(hr:bH C st a w ν){i:cS}{o:Oper}(ab:mE C.N aR i o=true){K:aS->Prop}(he:ls P C.ob st K i)
  {jF:Act->World->Prop} {Q:Exit->Act->World->Prop} (ch:∀st' ca w' ν',K st'->bH C st' ca w' ν'->jF ca w'):o.wp P a w jF Q:=by
 cases i with
 |s i=>
  simp only[ls]at he;split at he
  ·rename_i c st' af;exact Pc az hr (by simpa only[mE]using ab) af he.1 fun ca w' ν' h=>ch _ _ _ _ he.2 h
  ·exact he.elim
 |next d x=>
  simp only[ls]at he;simp only[mE]at ab;split at ab
  ·rename_i it gx;simp only[bt,cI,eu]at ab;obtain⟨⟨I,J⟩,aj⟩:=ab;exact NB hr gx I (by simpa[e2]using J) (cF hr aj) he ch
  ·cases ab
 |call d f xs=>
  simp only[ls]at he;simp only[mE]at ab;split at ab
  ·rename_i iv args nM gx;simp only[bt,cI]at ab;obtain⟨⟨⟨I,J⟩,aj⟩,aO⟩:=ab;split at he
   ·rename_i n bX aF;have:=cF hr aj;rw[aF]at this;exact BP hr gx I J this (rh hr aO) he ch
   ·exact he.elim
  ·cases ab
 |opn d f xs=>
  simp only[ls]at he;simp only[mE]at ab;split at ab
  ·rename_i iv args nM gx;simp only[bt,cI]at ab;obtain⟨⟨⟨I,J⟩,aj⟩,aO⟩:=ab;split at he
   ·rename_i n bX aF;have:=cF hr aj;rw[aF]at this;exact OB hr gx I J this (rh hr aO) he ch
   ·exact he.elim
  ·cases ab
theorem zo{C:c7}{st:aS}{a:Act}{w:World}{ν:aA}(h:bH C st a w ν){s:Nat}{b:Bool}(af:get s st.t= .bool b):bH C {st with t:=put s (.bool b) st.t} a w ν:=by
 refine⟨h.good,h.fr,h.defers,h.size,fun i=>?_,h.new,h.ext,h.obk⟩;have:=h.slot i;simp only[j3];split
 ·rename_i e;subst e;rw[<-af];exact this
 ·exact this
theorem GN{C:c7}{st:aS}{a:Act}{w:World}{ν:aA}(h:bH C st a w ν){ops:Array Oper}{j s:Nat}(aC:(ops.toList[j]?).bind (·.dst)=some s)(af:s<C.N):
  (∀b,get s st.t= .bool b->yielded ops a.tmps j=some b)/\(get s st.t= .tuple []->yielded ops a.tmps j=none):=by
 have bS:s<a.tmps.size:=by rw[h.size];exact af
 have hW:=h.slot s;have hF:a.tmps.getD s undef=a.tmps[s]:=by simp[Array.getD,bS]
 rw[hF]at hW;have b6:yielded ops a.tmps j=match a.tmps[s]with| .bool b=>some b|_=>none:=by unfold yielded;rw[lZ]at aC;rw[aC];simp only[Option.bind_some,Array.getElem?_eq_getElem bS];cases a.tmps[s]<;>rfl
 constructor
 ·intro b aa;rw[aa]at hW;simp only[aw]at hW;rw[b6,hW]
 ·intro aa;rw[aa]at hW;simp only[aw,bG]at hW;obtain⟨us,ai,aK⟩:=hW;rw[b6,ai]
theorem Cg{P:bj}{aR:List (Nat×cw)}(az:eD P aR=true){C:c7}{ops:Array Oper}{K:aS->Prop}{Q:Exit->Act->World->Prop}(n7:∀st' ca w' ν',K st'->bH C st' ca w' ν'->Q .normal ca w'):
  ∀(gs:List bO) (os:List Oper) (k:Nat),(∀j,os[j]? =ops[k+j]?)->gI C.N aR ops.toList gs os=true->∀(st:aS) (a:Act) (w:World) (ν:aA),eV P C.ob gs st K->bH C st a w ν->wpOps P ops Q (List.range' k gs.length) a w
 |[],[],k,_,_,st,a,w,ν,he,hr=>by simp only[List.length_nil,List.range'_zero,wpOps];exact n7 _ _ _ _ he hr
 |[],_::_,_,_,U,_,_,_,_,_,_=>by simp[gI]at U
 |_::_,[],_,_,U,_,_,_,_,_,_=>by simp[gI]at U
 |g::gs,o::os,k,og,U,st,a,w,ν,he,hr=>by
  simp only[gI,bt]at U;have ck:ops[k]? =some o:=by simpa using(og 0).symm
  have uZ:∀j,os[j]? =ops[k+1+j]?:=fun j=>by have:=og (j+1);simpa[Nat.add_assoc,Nat.add_comm 1 j]using this
  simp only[ir,List.range'_succ,wpOps,ck];have bz:∀st' ca w' ν',eV P C.ob gs st' K->bH C st' ca w' ν'->wpOps P ops Q (List.range' (k+1) gs.length) ca w':=fun st' ca w' ν' I J=>Cg az n7 gs os (k+1) uZ U.2 st' ca w' ν' I J;obtain⟨xy,CS⟩:=g;have aG:=U.1;simp only[sb,bt]at aG;obtain⟨jN,qA⟩:=aG;cases xy with
  |none=>
   cases di:o.guard with
   |some x=>simp[di]at jN
   |none=>
    have hw:jC o (yielded ops a.tmps)=true:=by simp[jC,di]
    rw[cX hw];simp only[eV]at he;exact .inl (Cd az hr qA he bz)
  |some pT=>
   obtain⟨s,want⟩:=pT;cases di:o.guard with
   |none=>simp[di]at jN
   |some x=>
    obtain⟨j,dL⟩:=x;simp only[di,bt,cI,eu]at jN;obtain⟨⟨⟨⟨rfl,J⟩,aj⟩,aO⟩,bs⟩:=jN;obtain⟨rE,pX⟩:=GN hr J aj;simp only[eV]at he;split at he
    ·rename_i b aa;have b6:=rE b aa;by_cases e:b=want
     ·subst e;have hw:jC o (yielded ops a.tmps)=true:=by simp[jC,di,b6]
      rw[cX hw];exact .inl (Cd az (zo hr aa) qA (he.1 rfl) bz)
     ·have hw:¬(jC o (yielded ops a.tmps)=true):=by simp[jC,di,b6,e]
      rw[bT hw];have ep:b= !want:=by cases b<;>cases want<;>simp at e⊢
      have kd:bH C {st with t:=put s (.bool !want) st.t} a w ν:=zo hr (by rw[aa,ep]);rw[aO];exact bz _ _ _ _ (he.2 ep) (kd.put bs (by simp[aw,bG,undef]))
    ·rename_i aa;have b6:=pX aa;have hw:¬(jC o (yielded ops a.tmps)=true):=by simp[jC,di,b6]
     rw[bT hw,aO];exact bz _ _ _ _ he (hr.put bs (by simp[aw,bG,undef]))
    ·exact he.elim
end
end Go.Pv
