/- Rows of the call's own: a new one, and one that is appended to in place. -/
import Derived.WalkKit
import Derived.Orders
import Derived.KernelRfl
import Derived.IntWalk
import Derived.Laws.StructEq
import Derived.ChangeKeysEq
import Derived.MapKept
import Derived.ArgAppend
set_option linter.all false
set_option maxHeartbeats 4000000
set_option maxRecDepth 4000
namespace Go
theorem Ω{p:Prop}(h:p:=by omega):p:=h
theorem Ψ{p:Prop}(h:p:=by simp):p:=h
end Go
open BitVec renaming ofInt->rD
open Bool renaming and_eq_true->bF,false_eq_true->kE
open ByteArray renaming empty->amJ,ext->aiM,push->amK,size->MH
open Go renaming Operand->ix,Program->b3,TypeId->fT,program->iT
open Go.ByteArray renaming toList_eq->aiN
open Go.IntKind renaming i64->iw
open Go.IntWalk renaming i64_in->lS
open Go.Result renaming andThen_ok->e8
open Go.Sem renaming run_bind->e4,run_pure->fO
open Go.Value renaming cells->mf,int->mP,ownBlock->nC
open Go.Value.pointer renaming injEq->amQ
open List renaming all_eq_true->hq,cons_append->ds,eq_nil_of_length_eq_zero->n5,getElem?_drop->lT,getElem?_eq_getElem->cS,getElem?_eq_some_iff->eV,getElem?_map->pQ,length_append->fU,length_cons->ga,length_drop->hG,length_nil->mh,length_take->n7,map_cons->ek,mem_append->fM,mem_cons->gb,take_succ_cons->rI
open List.cons renaming injEq->w9
open Nat renaming le_refl->c7
open Option renaming isSome_iff_exists->fG,isSome_none->um,map_eq_some_iff->hc,map_some->oa
open Option.some renaming injEq->dH
open Prod.mk renaming injEq->gz
open UInt8 renaming ofNat->pS
open _root_ renaming ByteArray->kF,False->dD,Option->a1,UInt8->ah,beq_iff_eq->dK,congrArg->dZ,decide_eq_true_eq->ea,if_neg->bo,if_pos->bP
namespace Go.Pv
section
open Go Go.RowKit
inductive aO where
 |loc (s:Nat)
 |obj (n:Nat)
 deriving DecidableEq,Inhabited
inductive y0 where
 |no
 |nil
 |own (k:aO)
 |tr (k:aO) (j:Nat)
 |lo (k:aO)
 deriving DecidableEq,Inhabited
inductive al where
 |junk
 |int (k:IntKind) (n:Int)
 |bool (b:Bool)
 |str (s:List ah)
 |slice (sz:Nat) (tag:y0) (xs:List al)
 |agg (cs:List al)
 |ptr (key:aO) (off:Nat)
 |eptr (x:al)
 |iface (t:Nat) (x:al)
 |nilp
 |tuple (vs:List al)
 |func (f:Nat) (dy:List al)
 |gmap (key:aO)
 |row (sz:Nat) (key:aO) (n:Nat)
 |rptr (sz:Nat) (key:aO) (n i f:Nat)
 |hdm (clock:Nat) (borns:List Nat)
 |hdi (since:Nat) (seen:List Nat) (last:Nat)
 |cst (v:Value)
 deriving Inhabited
structure aW where
 A:Nat->Nat->Prop
 bx:aO->a1 Nat
 ow:aO->a1 (Nat×Value)
 tr:aO->Nat->Nat->Prop
def bs:Nat:=68719476736
def kx(w:World)(A:Nat->Nat->Prop)(b:Nat):Nat->List Value->Prop
 |_,[]=>True
 |off,u::us=>(A b off/\w.cell? ⟨b,off,none⟩=some u)/\kx w A b (off+1) us
def shape(w:World)(b:Nat):a1 (Nat×fT×(Nat×Nat)):=
 match w.heap[b]? with
 |some (.cells cur el fz)=>some (cur.size,el,fz)
 |_=>none
theorem yJ{w w':World}{b:Nat}(h:w'.heap[b]? =w.heap[b]?):shape w' b=shape w b:=by unfold shape;rw[h]
mutual
def dE(t:Bool)(w:World)(A:Nat->Nat->Prop)(F:Nat->Prop):al->Value->Prop
 | .int k n,v=>v= .int k n
 | .bool b,v=>v= .bool b
 | .str s,v=>v= .string ⟨s.toArray⟩/\s.length<=bs
 | .slice sz _ xs,v=> ∃a cap,v= .slice a xs.length cap/\xs.length<=cap/\(cap<=maxLen/\xs.length<=bs)/\
   (xs=[]\/ ∃b off us G,a=some ⟨b,off,none⟩/\F b/\(∀c,G c->F c/\(t=true->c≠b))/\kx w A b off us/\(t=true->off=0/\0<us.length/\∃el,shape w b=some (cap*sz,el,(0,0)))/\ox t w A G sz xs us)
 | .agg cs,v=> ∃us:Array Value,v= .agg us/\oy t w A F cs us.toList
 |_,_=>dD
def oy(t:Bool)(w:World)(A:Nat->Nat->Prop)(F:Nat->Prop):List al->List Value->Prop
 |[],us=>us=[]
 |c::cs,us=> ∃u bI jK jL,us=u::bI/\((∀b,jK b->F b)/\(∀b,jL b->F b)/\(t=true->∀b,jK b->¬jL b))/\(dE t w A jK c u/\u.oneCell'=true)/\oy t w A jL cs bI
def ox(t:Bool)(w:World)(A:Nat->Nat->Prop)(F:Nat->Prop)(sz:Nat):List al->List Value->Prop
 |[],us=>us=[]
 |x::xs,us=> ∃u bI jK jL,us=u.cells.toList++bI/\((∀b,jK b->F b)/\(∀b,jL b->F b)/\(t=true->∀b,jK b->¬jL b))/\(dE t w A jK x u/\u.cells.size=sz/\(∀c∈u.cells.toList,c.oneCell'=true))/\ox t w A jL sz xs bI
end
def vD(f:Nat):Nat:=f-1000000
def tw(f:Nat)(us:Array Value):Value:=if f<1000000 then .func (.func f) #[] us else .func (.func (vD f)) us #[]
theorem aau{f:Nat}(h:f<1000000)(us:Array Value):tw f us= .func (.func f) #[] us:=bP h
theorem aat{f:Nat}(h:¬f<1000000)(us:Array Value):tw f us= .func (.func (vD f)) us #[]:=bo h
theorem aas(m:Nat)(us:Array Value):tw (m+1000000) us= .func (.func m) us #[]:=by unfold tw vD;rw[bo Ω,Nat.add_sub_cancel]
mutual
def aT(w:World)(ν:aW):al->Value->Prop
 | .junk,_=>True
 | .int k n,v=>v= .int k n
 | .bool b,v=>v= .bool b
 | .str s,v=>v= .string ⟨s.toArray⟩/\s.length<=bs
 | .slice sz tag xs,v=>
   (∃a cap,v= .slice a xs.length cap/\xs.length<=cap/\(cap<=maxLen/\xs.length<=bs)/\(xs=[]\/ ∃b off us,a=some ⟨b,off,none⟩/\kx w ν.A b off us/\cR w ν sz xs us))/\
   (tag= .nil->v= .slice none 0 0)/\
   (∀g,tag= .own g->∃n u,ν.ow g=some (n,u)/\xs.length<=n/\(xs.length=n->v=u))/\
   (∀k j,tag= .tr k j->dE true w ν.A (ν.tr k j) (.slice sz tag xs) v)/\(∀k,tag= .lo k->dE false w ν.A (ν.tr k 0) (.slice sz tag xs) v)
 | .agg cs,v=> ∃us:Array Value,v= .agg us/\cK w ν cs us.toList
 | .ptr key off,v=> ∃b,ν.bx key=some b/\v= .pointer (some ⟨b,off,none⟩)
 | .eptr x,v=> ∃b off u,v= .pointer (some ⟨b,off,none⟩)/\aT w ν x u/\kx w ν.A b off u.cells.toList
 | .iface t x,v=> ∃u,v= .iface t u/\aT w ν x u
 | .nilp,v=>v= .pointer none
 | .tuple vs,v=> ∃us:Array Value,v= .tuple us/\cw w ν vs us.toList
 | .func f dy,v=> ∃us:Array Value,v=tw f us/\cw w ν dy us.toList
 | .gmap key,v=> ∃b,ν.bx key=some b/\v= .map (some b)
 | .row _ key n,v=>(∃b cap,v= .slice (some ⟨b,0,none⟩) n cap)/\n<=bs/\∃n' u,ν.ow key=some (n',u)/\n<=n'/\(n=n'->v=u)
 | .rptr sz key n i f,v=>(∃b o,v= .pointer (some ⟨b,o,none⟩))/\i<n/\∃n' u,ν.ow key=some (n',u)/\n<=n'/\(n=n'->∃b,u.ownBlock=some b/\v= .pointer (some ⟨b,i*sz+f,none⟩))
 | .hdm _ _,_=>dD
 | .hdi _ _ _,_=>dD
 | .cst c,v=>v=c
def cK(w:World)(ν:aW):List al->List Value->Prop
 |[],us=>us=[]
 |c::cs,us=> ∃u bI,us=u::bI/\(aT w ν c u/\u.oneCell'=true)/\cK w ν cs bI
def cw(w:World)(ν:aW):List al->List Value->Prop
 |[],us=>us=[]
 |c::cs,us=> ∃u bI,us=u::bI/\aT w ν c u/\cw w ν cs bI
def cR(w:World)(ν:aW)(sz:Nat):List al->List Value->Prop
 |[],us=>us=[]
 |x::xs,us=> ∃u bI,us=u.cells.toList++bI/\(aT w ν x u/\u.cells.size=sz/\(∀c∈u.cells.toList,c.oneCell'=true))/\cR w ν sz xs bI
end
theorem wC{w w':World}{A A':Nat->Nat->Prop}{b:Nat}(bq:∀b o,A b o->A' b o/\w'.cell? ⟨b,o,none⟩=w.cell? ⟨b,o,none⟩):
  ∀(us:List Value) (off:Nat),kx w A b off us->kx w' A' b off us
 |[],_,_=>trivial
 |_::us,off,h=>⟨⟨(bq _ _ h.1.1).1,(bq _ _ h.1.1).2.trans h.1.2⟩,wC bq us (off+1) h.2⟩
mutual
theorem xJ{t:Bool}{w w':World}{A A':Nat->Nat->Prop}(bq:∀b o,A b o->A' b o/\w'.cell? ⟨b,o,none⟩=w.cell? ⟨b,o,none⟩)(au:∀b o,A b o->shape w' b=shape w b):∀(p:al) (F o4:Nat->Prop) (v:Value),(∀b,F b->o4 b)->dE t w A F p v->dE t w' A' o4 p v
 | .int k n,_,_,_,_,h=>by simp only[dE]at h⊢;exact h
 | .bool b,_,_,_,_,h=>by simp only[dE]at h⊢;exact h
 | .str s,_,_,_,_,h=>by simp only[dE]at h⊢;exact h
 | .slice sz tag xs,F,o4,v,fw,h=>by
  simp only[dE]at h⊢;obtain⟨a,cap,I,J,aA,aS⟩:=h;refine⟨a,cap,I,J,aA,?_⟩;rcases aS with aS|⟨b,off,us,G,aB,aU,b1,dN,hJ,hx⟩
  ·exact .inl aS
  ·refine .inr ⟨b,off,us,G,aB,fw _ aU,fun c aH=>⟨fw _ (b1 c aH).1,(b1 c aH).2⟩,wC bq _ _ dN,fun aI=>?_,EE bq au xs G G _ (fun _ h=>h) hx⟩;obtain⟨f1,f2,el,f3⟩:=hJ aI;refine⟨f1,f2,el,?_⟩;cases us with
   |nil=>simp at f2
   |cons u us=>rw[au b off dN.1.1];exact f3
 | .agg cs,F,o4,v,fw,h=>by simp only[dE]at h⊢;obtain⟨us,I,J⟩:=h;exact⟨us,I,P4 bq au cs F o4 _ fw J⟩
 | .junk,_,_,_,_,h=>by simp[dE]at h
 | .ptr _ _,_,_,_,_,h=>by simp[dE]at h
 | .eptr _,_,_,_,_,h=>by simp[dE]at h
 | .iface _ _,_,_,_,_,h=>by simp[dE]at h
 | .nilp,_,_,_,_,h=>by simp[dE]at h
 | .tuple _,_,_,_,_,h=>by simp[dE]at h
 | .func _ _,_,_,_,_,h=>by simp[dE]at h
 | .gmap _,_,_,_,_,h=>by simp[dE]at h
 | .row _ _ _,_,_,_,_,h=>by simp[dE]at h
 | .rptr _ _ _ _ _,_,_,_,_,h=>by simp[dE]at h
 | .hdm _ _,_,_,_,_,h=>by simp[dE]at h
 | .hdi _ _ _,_,_,_,_,h=>by simp[dE]at h
 | .cst _,_,_,_,_,h=>by simp[dE]at h
theorem P4{t:Bool}{w w':World}{A A':Nat->Nat->Prop}(bq:∀b o,A b o->A' b o/\w'.cell? ⟨b,o,none⟩=w.cell? ⟨b,o,none⟩)(au:∀b o,A b o->shape w' b=shape w b):∀(cs:List al) (F o4:Nat->Prop) (us:List Value),(∀b,F b->o4 b)->oy t w A F cs us->oy t w' A' o4 cs us
 |[],_,_,_,_,h=>by simp only[oy]at h⊢;exact h
 |c::cs,F,o4,us,fw,h=>by simp only[oy]at h⊢;obtain⟨u,bI,jK,jL,I,⟨J,aA,aS⟩,⟨bG,cq⟩,dW⟩:=h;exact⟨u,bI,jK,jL,I,⟨fun b ao=>fw _ (J b ao),fun b ao=>fw _ (aA b ao),aS⟩,⟨xJ bq au c jK jK u (fun _ h=>h) bG,cq⟩,P4 bq au cs jL jL bI (fun _ h=>h) dW⟩
theorem EE{t:Bool}{w w':World}{A A':Nat->Nat->Prop}(bq:∀b o,A b o->A' b o/\w'.cell? ⟨b,o,none⟩=w.cell? ⟨b,o,none⟩)(au:∀b o,A b o->shape w' b=shape w b){sz:Nat}:∀(cs:List al) (F o4:Nat->Prop) (us:List Value),(∀b,F b->o4 b)->ox t w A F sz cs us->ox t w' A' o4 sz cs us
 |[],_,_,_,_,h=>by simp only[ox]at h⊢;exact h
 |c::cs,F,o4,us,fw,h=>by simp only[ox]at h⊢;obtain⟨u,bI,jK,jL,I,⟨J,aA,aS⟩,⟨bG,cq⟩,dW⟩:=h;exact⟨u,bI,jK,jL,I,⟨fun b ao=>fw _ (J b ao),fun b ao=>fw _ (aA b ao),aS⟩,⟨xJ bq au c jK jK u (fun _ h=>h) bG,cq⟩,EE bq au cs jL jL bI (fun _ h=>h) dW⟩
end
mutual
def ak(S:aO->Prop):al->Prop
 | .slice _ tag xs=>(match tag with| .own k=>S k| .tr k _=>S k| .lo k=>S k|_=>True)/\aj S xs
 | .agg cs=>aj S cs
 | .ptr k _=>S k
 | .eptr x=>ak S x
 | .iface _ x=>ak S x
 | .tuple vs=>aj S vs
 | .func _ dy=>aj S dy
 | .gmap k=>S k
 | .row _ k _=>S k
 | .rptr _ k _ _ _=>S k
 |_=>True
def aj(S:aO->Prop):List al->Prop
 |[]=>True
 |x::xs=>ak S x/\aj S xs
end
mutual
theorem u7{S T:aO->Prop}(h:∀k,S k->T k):∀p:al,ak S p->ak T p
 | .junk,_=>by simp[ak]
 | .int _ _,_=>by simp[ak]
 | .bool _,_=>by simp[ak]
 | .str _,_=>by simp[ak]
 | .slice sz tag xs,bn=>by simp only[ak]at bn⊢;exact⟨by cases tag<;>first|trivial|exact h _ bn.1,u4 h xs bn.2⟩
 | .agg cs,bn=>by simp only[ak]at bn⊢;exact u4 h cs bn
 | .ptr k _,bn=>by simp only[ak]at bn⊢;exact h _ bn
 | .eptr x,bn=>by simp only[ak]at bn⊢;exact u7 h x bn
 | .iface _ x,bn=>by simp only[ak]at bn⊢;exact u7 h x bn
 | .nilp,_=>by simp[ak]
 | .tuple vs,bn=>by simp only[ak]at bn⊢;exact u4 h vs bn
 | .func _ dy,bn=>by simp only[ak]at bn⊢;exact u4 h dy bn
 | .gmap k,bn=>by simp only[ak]at bn⊢;exact h _ bn
 | .row _ k _,bn=>by simp only[ak]at bn⊢;exact h _ bn
 | .rptr _ k _ _ _,bn=>by simp only[ak]at bn⊢;exact h _ bn
 | .hdm _ _,_=>by simp[ak]
 | .hdi _ _ _,_=>by simp[ak]
 | .cst _,_=>by simp[ak]
theorem u4{S T:aO->Prop}(h:∀k,S k->T k):∀b2:List al,aj S b2->aj T b2
 |[],_=>by simp[aj]
 |x::xs,bn=>by simp only[aj]at bn⊢;exact⟨u7 h x bn.1,u4 h xs bn.2⟩
end
mutual
theorem FI:∀p:al,ak (fun _=>True) p
 | .junk=>by simp[ak]
 | .int _ _=>by simp[ak]
 | .bool _=>by simp[ak]
 | .str _=>by simp[ak]
 | .slice sz tag xs=>by simp only[ak];exact⟨by cases tag<;>trivial,wz xs⟩
 | .agg cs=>by simp only[ak];exact wz cs
 | .ptr k _=>by simp[ak]
 | .eptr x=>by simp only[ak];exact FI x
 | .iface _ x=>by simp only[ak];exact FI x
 | .nilp=>by simp[ak]
 | .tuple vs=>by simp only[ak];exact wz vs
 | .func _ dy=>by simp only[ak];exact wz dy
 | .gmap k=>by simp[ak]
 | .row _ k _=>by simp[ak]
 | .rptr _ k _ _ _=>by simp[ak]
 | .hdm _ _=>by simp[ak]
 | .hdi _ _ _=>by simp[ak]
 | .cst _=>by simp[ak]
theorem wz:∀b2:List al,aj (fun _=>True) b2
 |[]=>by simp[aj]
 |x::xs=>by simp only[aj];exact⟨FI x,wz xs⟩
end
def ft:List Nat->List Value->List MapEntry
 |b::ev,k::v::r=>⟨k,v,b⟩::ft ev r
 |_,_=>[]
def iP(cs:List al)(us:Array Value)(el:fT):Obj:=
 match cs with
 | .hdm clock borns::_=>.map (ft borns us.toList).toArray clock
 | .hdi since seen last::_=>.mapIter (match us.toList with|[.map m]=>m|_=>none) since seen.toArray last
 |_=>.cells us el
structure aeq (clock:Nat) (borns:List Nat) (r:List al):Prop where
 len:r.length=2*borns.length
 inc:borns.Pairwise (· < ·)
 lt:∀b∈borns,b<clock
def h9(w:World)(ν:aW)(cs:List al)(us:List Value):Prop:=
 match cs with
 | .hdm clock borns::r=>cw w ν r us/\aeq clock borns r
 | .hdi _ _ _::r=>cw w ν r us
 |cs=>cK w ν cs us
def iH:List al->Bool
 | .hdm _ _::_=>false
 | .hdi _ _ _::_=>false
 |_=>true
theorem yA{w:World}{ν:aW}{cs:List al}{us:List Value}(h:cK w ν cs us):iH cs=true:=by
 unfold iH;split
 ·simp only[cK,aT]at h;obtain⟨_,_,_,⟨h,_⟩,_⟩:=h;exact h.elim
 ·simp only[cK,aT]at h;obtain⟨_,_,_,⟨h,_⟩,_⟩:=h;exact h.elim
 ·rfl
theorem qn{cs:List al}(h:iH cs=true)(us:Array Value)(el:fT):iP cs us el= .cells us el:=by
 unfold iH at h;unfold iP;split at h<;>first|cases h|skip
 rfl
theorem pw{w:World}{ν:aW}{cs:List al}(h:iH cs=true)(us:List Value):h9 w ν cs us=cK w ν cs us:=by
 unfold iH at h;unfold h9;split at h<;>first|cases h|skip
 rfl
structure oe (S:aO->Prop) (w:World) (ν:aW) (w':World) (ν':aW):Prop where
 A:∀b o,ν.A b o->ν'.A b o/\w'.cell? ⟨b,o,none⟩=w.cell? ⟨b,o,none⟩
 bx:∀k b,S k->ν.bx k=some b->ν'.bx k=some b
 ow:∀g n u,S g->ν.ow g=some (n,u)->∃n' fe,ν'.ow g=some (n',fe)/\(n'=n/\fe=u\/n<n')
 sh:∀b o,ν.A b o->shape w' b=shape w b
 tr:∀k j b,S k->ν.tr k j b->ν'.tr k j b
abbrev lW:=oe (fun _=>True)
mutual
theorem sF{S:aO->Prop}{w w':World}{ν ν':aW}(az:oe S w ν w' ν'):∀(p:al) (v:Value),ak S p->aT w ν p v->aT w' ν' p v
 | .junk,_,_,_=>by simp[aT]
 | .int k n,_,_,h=>by simp only[aT]at h⊢;exact h
 | .bool b,_,_,h=>by simp only[aT]at h⊢;exact h
 | .str s,_,_,h=>by simp only[aT]at h⊢;exact h
 | .slice sz tag xs,v,aa,h=>by
  simp only[aT,ak]at h aa⊢;obtain⟨⟨a,cap,I,J,aA,aS⟩,bG,cq,fZ,ee⟩:=h;refine⟨⟨a,cap,I,J,aA,?_⟩,bG,fun g aR=>?_,fun k j gV=>?_,fun k gV=>?_⟩
  ·rcases aS with aS|⟨b,off,us,aS,cq,dW⟩
   ·exact .inl aS
   ·exact .inr ⟨b,off,us,aS,wC az.A _ _ cq,GF az sz xs us aa.2 dW⟩
  ·obtain⟨n,u,aB,aU,b1⟩:=cq g aR;subst aR;obtain⟨n',fe,f1,f2⟩:=az.ow g n u aa.1 aB;refine⟨n',fe,f1,?_⟩;rcases f2 with⟨rfl,rfl⟩|f2
   ·exact⟨aU,b1⟩
   ·exact⟨Ω,fun e=>Ω⟩
  ·have:=fZ k j gV;subst gV;exact xJ az.A az.sh _ _ _ _ (fun b=>az.tr k j b aa.1) this
  ·have:=ee k gV;subst gV;exact xJ az.A az.sh _ _ _ _ (fun b=>az.tr k 0 b aa.1) this
 | .agg cs,v,aa,h=>by simp only[aT,ak]at h aa⊢;obtain⟨us,I,J⟩:=h;exact⟨us,I,GH az cs _ aa J⟩
 | .ptr key off,v,aa,h=>by simp only[aT,ak]at h aa⊢;obtain⟨b,I,J⟩:=h;exact⟨b,az.bx _ _ aa I,J⟩
 | .iface t x,v,aa,h=>by simp only[aT,ak]at h aa⊢;obtain⟨u,I,J⟩:=h;exact⟨u,I,sF az x u aa J⟩
 | .eptr x,v,aa,h=>by simp only[aT,ak]at h aa⊢;obtain⟨b,off,u,I,J,aA⟩:=h;exact⟨b,off,u,I,sF az x u aa J,wC az.A _ _ aA⟩
 | .nilp,_,_,h=>by simp only[aT]at h⊢;exact h
 | .tuple vs,v,aa,h=>by simp only[aT,ak]at h aa⊢;obtain⟨us,I,J⟩:=h;exact⟨us,I,AF az vs _ aa J⟩
 | .func f dy,v,aa,h=>by simp only[aT,ak]at h aa⊢;obtain⟨us,I,J⟩:=h;exact⟨us,I,AF az dy _ aa J⟩
 | .gmap key,v,aa,h=>by simp only[aT,ak]at h aa⊢;obtain⟨b,I,J⟩:=h;exact⟨b,az.bx _ _ aa I,J⟩
 | .row sz key n,v,aa,h=>by
  simp only[aT,ak]at h aa⊢;obtain⟨I,J,n',u,aA,aS,bG⟩:=h;obtain⟨fS,hF,f1,f2⟩:=az.ow key n' u aa aA;refine⟨I,J,fS,hF,f1,?_⟩;rcases f2 with⟨rfl,rfl⟩|f2
  ·exact⟨aS,bG⟩
  ·exact⟨Ω,fun e=>Ω⟩
 | .rptr sz key n i f,v,aa,h=>by
  simp only[aT,ak]at h aa⊢;obtain⟨I,J,n',u,aA,aS,bG⟩:=h;obtain⟨fS,hF,f1,f2⟩:=az.ow key n' u aa aA;refine⟨I,J,fS,hF,f1,?_⟩;rcases f2 with⟨rfl,rfl⟩|f2
  ·exact⟨aS,bG⟩
  ·exact⟨Ω,fun e=>Ω⟩
 | .hdm _ _,_,_,h=>by simp only[aT]at h
 | .hdi _ _ _,_,_,h=>by simp only[aT]at h
 | .cst c,_,_,h=>by simp only[aT]at h⊢;exact h
theorem GH{S:aO->Prop}{w w':World}{ν ν':aW}(az:oe S w ν w' ν'):∀(cs:List al) (us:List Value),aj S cs->cK w ν cs us->cK w' ν' cs us
 |[],_,_,h=>by simp only[cK]at h⊢;exact h
 |c::cs,us,aa,h=>by simp only[cK,aj]at h aa⊢;obtain⟨u,bI,I,J,aA⟩:=h;exact⟨u,bI,I,⟨sF az c u aa.1 J.1,J.2⟩,GH az cs bI aa.2 aA⟩
theorem AF{S:aO->Prop}{w w':World}{ν ν':aW}(az:oe S w ν w' ν'):∀(cs:List al) (us:List Value),aj S cs->cw w ν cs us->cw w' ν' cs us
 |[],_,_,h=>by simp only[cw]at h⊢;exact h
 |c::cs,us,aa,h=>by simp only[cw,aj]at h aa⊢;obtain⟨u,bI,I,J,aA⟩:=h;exact⟨u,bI,I,sF az c u aa.1 J,AF az cs bI aa.2 aA⟩
theorem GF{S:aO->Prop}{w w':World}{ν ν':aW}(az:oe S w ν w' ν')(sz:Nat):∀(xs:List al) (us:List Value),aj S xs->cR w ν sz xs us->cR w' ν' sz xs us
 |[],_,_,h=>by simp only[cR]at h⊢;exact h
 |x::xs,us,aa,h=>by simp only[cR,aj]at h aa⊢;obtain⟨u,bI,I,⟨J,aA,aS⟩,bG⟩:=h;exact⟨u,bI,I,⟨sF az x u aa.1 J,aA,aS⟩,GF az sz xs bI aa.2 bG⟩
end
theorem UB{S:aO->Prop}{w w':World}{ν ν':aW}(az:oe S w ν w' ν'){cs:List al}{us:List Value}(aa:aj S cs)(h:h9 w ν cs us):h9 w' ν' cs us:=by
 unfold h9 at h⊢;split
 ·simp only[aj]at aa;exact⟨AF az _ _ aa.2 h.1,h.2⟩
 ·simp only[aj]at aa;exact AF az _ _ aa.2 h
 ·rename_i I J;split at h
  ·exact absurd rfl (I _ _ _)
  ·exact absurd rfl (J _ _ _ _)
  ·exact GH az _ _ aa h
section
variable {w w':World} {ν ν':aW} (az:lW w ν w' ν')
include az
theorem vt{p:al}{v:Value}(h:aT w ν p v):aT w' ν' p v:=sF az p v (FI p) h
theorem UI{p:List al}{v:List Value}(h:cK w ν p v):cK w' ν' p v:=GH az p v (wz p) h
theorem pz{p:List al}{v:List Value}(h:h9 w ν p v):h9 w' ν' p v:=UB az (wz p) h
theorem AB{sz:Nat}{p:List al}{v:List Value}(h:cR w ν sz p v):cR w' ν' sz p v:=GF az sz p v (wz p) h
end
end
section
open Go Go.RowKit
def get(k:Nat):List (Nat×al)->al
 |[]=>.junk
 |(i,p)::r=>if i=k then p else get k r
def put(k:Nat)(p:al):List (Nat×al)->List (Nat×al)
 |[]=>[(k,p)]
 |(i,q)::r=>if i=k then(i,p)::r else(i,q)::put k p r
def look{α:Type}(k:aO):List (aO×α)->a1 α
 |[]=>none
 |(i,p)::r=>if i=k then some p else look k r
def dd{α:Type}(k:aO)(p:α):List (aO×α)->List (aO×α)
 |[]=>[(k,p)]
 |(i,q)::r=>if i=k then(i,p)::r else(i,q)::dd k p r
theorem get_put(k j:Nat)(p:al):∀l,get j (put k p l)=if k=j then p else get j l
 |[]=>by simp[get,put]
 |(i,q)::r=>by
  by_cases h:i=k
  ·subst h;by_cases J:i=j<;>simp[get,put,J]
  ·by_cases J:i=j
   ·subst J;simp[get,put,h,Ne.symm h]
   ·simp[get,put,h,J,get_put k j p r]
theorem jG{α:Type}(k j:aO)(p:α):∀l,look j (dd k p l)=if k=j then some p else look j l
 |[]=>by simp[look,dd]
 |(i,q)::r=>by
  by_cases h:i=k
  ·subst h;by_cases J:i=j<;>simp[look,dd,J]
  ·by_cases J:i=j
   ·subst J;simp[look,dd,h,Ne.symm h]
   ·simp[look,dd,h,J,jG k j p r]
structure dU where
 n:Nat
 el:Nat
 sz:Nat
 xs:a1 (List al)
def Lw(w:World)(ν:aW)(o:dU)(v:Value)(us:List Value):Prop:=∀xs,o.xs=some xs->xs.length=o.n/\cR w ν o.sz xs us/\∀bl,v.ownBlock=some bl->∀j,¬ν.A bl j
theorem rj{w w':World}{ν ν':aW}(az:lW w ν w' ν'){o:dU}{v:Value}{us:List Value}(bq:∀bl,v.ownBlock=some bl->∀j,ν'.A bl j->ν.A bl j)(h:Lw w ν o v us):Lw w' ν' o v us:=fun xs ad=>⟨(h xs ad).1,AB az (h xs ad).2.1,fun bl ao j aD=>(h xs ad).2.2 bl ao j (bq bl ao j aD)⟩
def cc(S:aO->Prop)(o:dU):Prop:= ∀xs,o.xs=some xs->aj S xs
structure a6 where
 t:List (Nat×al)
 b:List (aO×List al)
 e:List (aO×dU)
 n:Nat
 o:List aO
def fresh(n:Nat)(o:List aO)(k:aO):Prop:=(match k with| .loc m=>n<=m| .obj _=>True)/\k∉o
theorem xI{n n':Nat}{o o':List aO}(aJ:n<=n')(az:∀k∈o,k∈o'){k:aO}(h:fresh n' o' k):fresh n o k:=by unfold fresh at h⊢;exact⟨by cases k<;>simp at h⊢;omega,fun aa=>h.2 (az k aa)⟩
def LU(ν:aW)(b:List (aO×List al))(e:List (aO×dU))(bl:Nat):Prop:=(∃k,(look k b).isSome/\ν.bx k=some bl)\/(∃g n v,(look g e).isSome/\ν.ow g=some (n,v)/\v.ownBlock=some bl)
def DF:Nat:=106
def Hg(k:aO):={el:fT//k= .obj 861->el=DF}
structure Good (pr:Nat->Prop) (w:World) (ν:aW) (b:List (aO×List al)) (e:List (aO×dU)):Prop where
 alt:∀bl o,ν.A bl o->bl<w.heap.size
 box:∀k cs,look k b=some cs->∃(bl:Nat) (us:Array Value) (el:Hg k),ν.bx k=some bl/\pr bl/\(∀o,¬ν.A bl o)/\w.heap[bl]? =some (iP cs us el.1)/\h9 w ν cs us.toList
 inj:∀k bz bl,(look k b).isSome->(look bz b).isSome->ν.bx k=some bl->ν.bx bz=some bl->k=bz
 own:∀g o,look g e=some o->∃v us,ν.ow g=some (o.n,v)/\w.ownsRow 0 o.el o.sz v o.n us/\(∀bl,v.ownBlock=some bl->pr bl/\(∀j,ν.A bl j->j<o.n*o.sz))/\Lw w ν o v us
 oinj:∀g eP n n' v v' bl,(look g e).isSome->(look eP e).isSome->ν.ow g=some (n,v)->ν.ow eP=some (n',v')->v.ownBlock=some bl->v'.ownBlock=some bl->g=eP
 obx:∀g k n v bl,(look g e).isSome->(look k b).isSome->ν.ow g=some (n,v)->v.ownBlock=some bl->ν.bx k=some bl->dD
 one:∀k,ν.bx k=none\/ν.ow k=none
 otr:∀bl,LU ν b e bl->∀k j,¬ν.tr k j bl
def wa:List (Nat×Nat×Nat×(Value->Prop)):=((List.range 20).map fun i=>(0,i,20,fun v=>v=mP .u64 ((10 ^ i:Nat):Int)))++[(1,0,1,fun v=> ∃t p,v=Value.iface t p),(2,0,1,fun v=> ∃t p,v=Value.iface t p)]
def oc(w:World)(ν:aW):Prop:= ∀x∈wa,ν.A x.1 x.2.1/\(∃v,w.cell? ⟨x.1,x.2.1,none⟩=some v/\x.2.2.2 v)/\∃el,shape w x.1=some (x.2.2.1,el)
structure eI where
 w0:World
 ν0:aW
 mt:Nat->Prop
 N:Nat
 ob:List aO
 gl:oc w0 ν0
 ex:List (al×Value)
def eI.pr(C:eI)(bl:Nat):Prop:=C.mt bl\/C.w0.heap.size<=bl
def tZ:aO:= .obj 990001
structure qG (C:eI) (w:World) (ν:aW):Prop where
 os:w.os=C.w0.os
 tape:w.tape=C.w0.tape
 output:w.output=C.w0.output
 size:C.w0.heap.size<=w.heap.size
 block:∀k,k<C.w0.heap.size->¬C.mt k->w.heap[k]? =C.w0.heap[k]?
 keep:∀b o,C.ν0.A b o->ν.A b o/\w.cell? ⟨b,o,none⟩=C.w0.cell? ⟨b,o,none⟩
 fresh:∀b o,ν.A b o->C.ν0.A b o\/C.pr b
 obj:∀n b,C.ν0.bx (.obj n)=some b->ν.bx (.obj n)=some b
 obn:∀n b,C.ν0.bx (.obj n)=some b-> .obj n∈C.ob
 row:∀m n u,C.ν0.ow (.obj m)=some (n,u)->∃n' fe,ν.ow (.obj m)=some (n',fe)/\(n'=n/\fe=u\/n<n')
 obr:∀m n u,C.ν0.ow (.obj m)=some (n,u)-> .obj m∈C.ob
 trd:∀k j bz fb b,ν.tr k j b->ν.tr bz fb b->k=bz/\j=fb
 trb:∀k j b,ν.tr k j b->(k=tZ\/C.w0.heap.size<=b)/\b<w.heap.size
 trn:∀k j b,ν.tr k j b->ν.bx k=none/\ν.ow k=none
 sh:∀b o,C.ν0.A b o->shape w b=shape C.w0 b
 nrow:∀j n u b,ν.ow (.loc j)=some (n,u)->u.ownBlock=some b->C.w0.heap.size<=b
theorem qG.gl{C:eI}{w:World}{ν:aW}(h:qG C w ν):oc w ν:=fun x ad=>⟨(h.keep _ _ (C.gl x ad).1).1,(C.gl x ad).2.1.imp fun _ aK=>⟨(h.keep _ _ (C.gl x ad).1).2.trans aK.1,aK.2⟩,(C.gl x ad).2.2.imp fun _ aK=>(h.sh _ _ (C.gl x ad).1).trans aK⟩
theorem Dt{ν ν':aW}{g:aO}{n:Nat}{u:Value}(h:∃n' fe,ν.ow g=some (n',fe)/\(n'=n/\fe=u\/n<n'))(az:∀n u,ν.ow g=some (n,u)->∃n' fe,ν'.ow g=some (n',fe)/\(n'=n/\fe=u\/n<n')):
  ∃n' fe,ν'.ow g=some (n',fe)/\(n'=n/\fe=u\/n<n'):=by
 obtain⟨hn,ik,aB,aU⟩:=h;obtain⟨fS,hF,f1,f2⟩:=az hn ik aB;refine⟨fS,hF,f1,?_⟩;rcases aU with⟨rfl,rfl⟩|aU
 ·exact f2
 ·rcases f2 with⟨rfl,rfl⟩|f2
  ·exact .inr aU
  ·exact .inr Ω
structure cv (C:eI) (st:a6) (a:Act) (w:World) (ν:aW):Prop where
 good:Good C.pr w ν st.b st.e
 fr:qG C w ν
 defers:a.defers=[]
 size:a.tmps.size=C.N
 slot:∀i,aT w ν (get i st.t) (a.tmps.getD i undef)
 new:∀k,fresh st.n st.o k->ν.bx k=none/\ν.ow k=none/\∀j b,¬ν.tr k j b
 ext:∀x∈C.ex,aT w ν x.1 x.2/\ak (fun k=>k∈C.ob) x.1
 obk:∀m∈C.ob,¬fresh st.n st.o m
def fk(d:a1 Nat)(p:al)(t:List (Nat×al)):List (Nat×al):=
 match d with
 |some d=>put d p t
 |none=>t
def hv(N:Nat)(d:a1 Nat):Bool:=match d with|some d=>decide (d<N)|none=>true
theorem cv.put{C:eI}{st:a6}{a:Act}{w:World}{ν:aW}(h:cv C st a w ν){d:a1 Nat}(aP:hv C.N d=true){p:al}{v:Value}(bn:aT w ν p v):
  cv C {st with t:=fk d p st.t} (a.put d v) w ν:=by
 cases d with
 |none=>exact h
 |some d=>
  have bY:d<a.tmps.size:=by rw[h.size];simpa[hv]using aP
  refine⟨h.good,h.fr,h.defers,by simpa[Act.put]using h.size,fun i=>?_,h.new,h.ext,h.obk⟩;simp only[fk,get_put];by_cases e:d=i
  ·subst e;simpa[Act.put,Array.getD_eq_getD_getElem?,bY]using bn
  ·have:=h.slot i;simpa[e,Act.put,Array.getD_eq_getD_getElem?,Array.getElem?_setIfInBounds_ne e]using this
theorem cv.over{C:eI}{st st':a6}{a:Act}{w w':World}{ν ν':aW}(h:cv C st a w ν)(az:lW w ν w' ν')(aI:st'.t=st.t)(aR:Good C.pr w' ν' st'.b st'.e)(aY:qG C w' ν')
  (aJ:∀k,fresh st'.n st'.o k->ν'.bx k=none/\ν'.ow k=none/\∀j b,¬ν'.tr k j b) (dS:∀m,fresh st'.n st'.o m->fresh st.n st.o m:=by exact fun _ h=>h):cv C st' a w' ν':=
 ⟨aR,aY,h.defers,h.size,fun i=>by rw[aI];exact vt az (h.slot i),aJ,fun x ad=>⟨vt az (h.ext x ad).1,(h.ext x ad).2⟩,fun m hm aY=>h.obk m hm (dS m aY)⟩
inductive cY where
 |t (i:Nat)
 |c (p:al)
 deriving Inhabited
def bQ(t:List (Nat×al)):cY->al
 | .t i=>get i t
 | .c p=>p
def D3:al->Value->Bool
 | .int k n,.int bz n'=>decide (k=bz/\n=n')
 | .bool b,.bool fN=>b==fN
 | .str s,.string l=>decide (l.data.toList=s/\s.length<=bs)
 | .slice _ .nil [],.slice none 0 0=>true
 | .nilp,.pointer none=>true
 | .tuple [],.tuple ⟨[]⟩=>true
 | .func f [],.func (.func g) ⟨[]⟩ ⟨[]⟩=>decide (f=g/\f<1000000)
 | .junk,_=>true
 |_,_=>false
theorem Nv(w:World)(ν:aW){p:al}{v:Value}(h:D3 p v=true):aT w ν p v:=by
 unfold D3 at h;split at h
 ·simp at h;obtain⟨rfl,rfl⟩:=h;simp[aT]
 ·simp at h;subst h;simp[aT]
 ·rename_i s l;simp at h;obtain⟨I,J⟩:=h;refine⟨?_,J⟩;subst I;simp
 ·simp only[aT];refine⟨⟨none,0,rfl,Ψ,Ψ,Ψ⟩,Ψ,(fun _ h=>by cases h),(fun _ _ h=>by cases h),(fun _ h=>by cases h)⟩
 ·simp[aT]
 ·simp[aT,cw]
 ·simp at h;obtain⟨rfl,h⟩:=h;simp[aT,cw,tw,h]
 ·simp[aT]
 ·cases h
def y5:List al->List Value->Bool
 |[],[]=>true
 |p::b2,v::vs=>D3 p v&&v.oneCell'&&y5 b2 vs
 |_,_=>false
def y4:al->Value->Bool
 | .agg cs,.agg us=>y5 cs us.toList
 |p,v=>D3 p v
theorem Nw(w:World)(ν:aW):∀(b2:List al) (vs:List Value),y5 b2 vs=true->cK w ν b2 vs
 |[],[],_=>by simp[cK]
 |[],_::_,h=>by simp[y5]at h
 |_::_,[],h=>by simp[y5]at h
 |p::b2,v::vs,h=>by simp only[y5,bF]at h;simp only[cK];exact⟨v,vs,rfl,⟨Nv w ν h.1.1,h.1.2⟩,Nw w ν b2 vs h.2⟩
theorem HD(w:World)(ν:aW){p:al}{v:Value}(h:y4 p v=true):aT w ν p v:=by
 unfold y4 at h;split at h
 ·simp only[aT];exact⟨_,rfl,Nw w ν _ _ h⟩
 ·exact Nv w ν h
def dX:cY->ix->Bool
 | .t i,.tmp j=>i==j
 | .c p,.const v=>y4 p v
 | .c (.func f []),.func g=>decide (f=g/\f<1000000)
 |_,_=>false
theorem dY{C:eI}{st:a6}{a:Act}{w:World}{ν:aW}(h:cv C st a w ν){x:cY}{o:ix}(ad:dX x o=true):aT w ν (bQ st.t x) (a.eval o):=by
 unfold dX at ad;split at ad
 ·simp at ad;subst ad;simpa[bQ,Act.eval]using h.slot _
 ·simpa[bQ,Act.eval]using HD w ν ad
 ·simp at ad;obtain⟨rfl,ad⟩:=ad;simp[bQ,Act.eval,aT,cw,tw,ad]
 ·cases ad
inductive Bf where
 |int (k:IntKind)
 |bool
 |str
 |slice (e:Nat)
 |struct (dG:List (Nat×Nat))
 |map (k e:Nat)
 |other
 |iface
 deriving DecidableEq
structure dt where
 size:Nat
 bytes:Nat
 kind:Bf
 zero:al
def Bf.isAgg:Bf->Bool
 | .struct _=>true
 |_=>false
def AU:List al->List Value->Bool
 |[],[]=>true
 |p::b2,v::vs=>y4 p v&&v.oneCell'&&AU b2 vs
 |_,_=>false
def yT:al->Value->Bool
 | .agg cs,.agg us=>AU cs us.toList
 | .agg _,_=>false
 |p,v=>y4 p v&&v.oneCell'
def lv:Bf->TypeDesc->Bool
 | .int k,.int bz=>decide (k=bz)
 | .bool,.bool=>true
 | .str,.string=>true
 | .slice e,.slice jk=>e==jk
 | .struct dG,.struct gs=>decide (gs.toList.map (fun f=>(f.offset,f.type))=dG)
 | .map k e,.map bz jk=>k==bz&&e==jk
 | .iface,.interface _=>true
 | .other,d=>match d with| .struct _| .array _ _| .int _| .bool| .string| .slice _=>false|_=>true
 |_,_=>false
def PV(P:b3)(gs:Array Field):Bool:=gs.toList.all fun f=>match P.underlying f.type with|some (.int _)=>true|some .string=>true|_=>false
def OV(P:b3)(t:Nat)(gs:Array Field):Bool:=gs.toList.all (fun f=>f.name != "_")&& !P.stoodInHeld t&& !P.eqGuardType P.depth t
def H7(P:b3)(t:Nat):TypeDesc->Bool
 | .struct gs=> !PV P gs||OV P t gs
 |_=>true
def L9(P:b3)(t:Nat)(f:dt):Bool:=
 match P.info? t,P.underlying t with
 |some i,some d=>H7 P t d&&i.size==f.size&&i.bytes==f.bytes&&lv f.kind d&&(match i.zero with|some z=>yT f.zero z&&z.cells.size==f.size|none=>false)
 |_,_=>false
def e7(P:b3)(bu:List (Nat×dt)):Bool:=(bu.all fun x=>L9 P x.1 x.2)&&decide (P.funcs.size<=1000000)
theorem e7.sz{P:b3}{bu:List (Nat×dt)}(h:e7 P bu=true):P.funcs.size<=1000000:=by unfold e7 at h;rw[bF,ea]at h;exact h.2
def dJ(bu:List (Nat×dt))(t:Nat):a1 dt:=(bu.find? fun x=>x.1==t).map (·.2)
theorem ahI{P:b3}{bu:List (Nat×dt)}(h:e7 P bu=true){t:Nat}{f:dt}(aY:dJ bu t=some f):L9 P t f=true:=by
 unfold dJ at aY;cases ad:bu.find? fun x=>x.1==t with
 |none=>simp[ad]at aY
 |some x=>simp[ad]at aY;have I:=List.find?_some ad;simp at I;have J:=List.mem_of_find?_eq_some ad;have aA:=hq.1 (by unfold e7 at h;rw[bF]at h;exact h.1) x J;rw[<-aY,<-I];exact aA
structure Wz (P:b3) (t:Nat) (f:dt):Prop where
 cmp:∀d,P.underlying t=some d->H7 P t d=true
 ex:∃i d z,P.info? t=some i/\P.underlying t=some d/\i.size=f.size/\i.bytes=f.bytes/\lv f.kind d=true/\i.zero=some z/\yT f.zero z=true/\z.cells.size=f.size
theorem uf{P:b3}{bu:List (Nat×dt)}(h:e7 P bu=true){t:Nat}{f:dt}(aY:dJ bu t=some f):Wz P t f:=by
 have h:=ahI h aY;unfold L9 at h;split at h
 ·rename_i i d I J;simp only[bF,dK]at h;obtain⟨⟨⟨⟨bK,aA⟩,aS⟩,bG⟩,cq⟩:=h;split at cq
  ·rename_i z cp;simp only[bF,dK]at cq;exact⟨fun j7 zG=>by rw[J]at zG;cases zG;exact bK,i,d,z,I,J,aA,aS,bG,cp,cq.1,cq.2⟩
  ·cases cq
 ·cases h
theorem oh(b o j:Nat):(⟨b,o,none⟩:Addr).add j=⟨b,o+j,none⟩:=by
 unfold Addr.add;split
 ·rename_i h;subst h;rfl
 ·rfl
theorem MD(w:World)(ν:aW):∀(b2:List al) (vs:List Value),AU b2 vs=true->cK w ν b2 vs
 |[],[],_=>by simp[cK]
 |[],_::_,h=>by simp[AU]at h
 |_::_,[],h=>by simp[AU]at h
 |p::b2,v::vs,h=>by simp only[AU,bF]at h;simp only[cK];exact⟨v,vs,rfl,⟨HD w ν h.1.1,h.1.2⟩,MD w ν b2 vs h.2⟩
def cells:al->List al
 | .agg cs=>cs
 |p=>[p]
def eG:al->Bool
 | .junk| .tuple _=>false
 | .cst (.slice _ _ _)| .cst (.string _)=>true
 | .cst _=>false
 |_=>true
theorem Lt{w:World}{ν:aW}{p:al}{v:Value}(h:aT w ν p v)(au:eG p=true)(bM:∀cs,p≠ .agg cs):v.oneCell'=true/\v.cells= #[v]:=by
 cases p<;>simp only[aT,eG]at h au;case junk=>cases au
 case tuple=>cases au
 case cst c=>subst h;cases v<;>first|exact⟨rfl,rfl⟩|cases au
 case agg cs=>exact absurd rfl (bM cs)
 case int=>subst h;exact⟨rfl,rfl⟩
 case bool=>subst h;exact⟨rfl,rfl⟩
 case str=>rw[h.1];exact⟨rfl,rfl⟩
 case slice=>obtain⟨⟨a,cap,I,_⟩,_⟩:=h;subst I;exact⟨rfl,rfl⟩
 case ptr=>obtain⟨b,_,I⟩:=h;subst I;exact⟨rfl,rfl⟩
 case eptr=>obtain⟨b,o,u,I,_⟩:=h;subst I;exact⟨rfl,rfl⟩
 case iface=>obtain⟨u,I,_⟩:=h;subst I;exact⟨rfl,rfl⟩
 case nilp=>subst h;exact⟨rfl,rfl⟩
 case func=>obtain⟨us,I,_⟩:=h;subst I;unfold tw;split<;>exact⟨rfl,rfl⟩
 case gmap=>obtain⟨b,_,I⟩:=h;subst I;exact⟨rfl,rfl⟩
 case row=>obtain⟨⟨a,cap,I⟩,_⟩:=h;subst I;exact⟨rfl,rfl⟩
 case rptr=>obtain⟨⟨a,o,I⟩,_⟩:=h;subst I;exact⟨rfl,rfl⟩
theorem vr{w:World}{ν:aW}{p:al}{v:Value}(h:aT w ν p v)(au:eG p=true):cK w ν (cells p) v.cells.toList:=by
 by_cases bM:∃cs,p= .agg cs
 ·obtain⟨cs,rfl⟩:=bM;simp only[aT]at h;obtain⟨us,rfl,J⟩:=h;simpa[cells,mf]using J
 ·have zB:∀cs,p≠ .agg cs:=fun cs e=>bM ⟨cs,e⟩;obtain⟨I,J⟩:=Lt h au zB;have aH:cells p=[p]:=by cases p<;>first|rfl|exact absurd rfl (zB _)
  rw[aH,J];simp only[cK];exact⟨v,[],rfl,⟨h,I⟩,rfl⟩
theorem AE{w:World}{ν:aW}:∀{b2:List al} {vs:List Value},cK w ν b2 vs->∀c∈vs,c.oneCell'=true
 |[],vs,h=>by simp only[cK]at h;subst h;simp
 |p::b2,vs,h=>by
  simp only[cK]at h;obtain⟨u,bI,rfl,I,J⟩:=h;intro c aH;rcases gb.1 aH with rfl|aH
  ·exact I.2
  ·exact AE J c aH
theorem pA{w:World}{ν:aW}:∀{b2:List al} {vs:List Value},cK w ν b2 vs->vs.length=b2.length
 |[],vs,h=>by simp only[cK]at h;subst h;rfl
 |p::b2,vs,h=>by simp only[cK]at h;obtain⟨u,bI,rfl,_,J⟩:=h;simp[pA J]
theorem AD{w:World}{ν:aW}:∀(n:Nat) {b2:List al} {vs:List Value},cK w ν b2 vs->cK w ν (b2.drop n) (vs.drop n)
 |0,_,_,h=>by simpa using h
 |n+1,[],vs,h=>by simp only[cK]at h;subst h;simp[cK]
 |n+1,p::b2,vs,h=>by simp only[cK]at h;obtain⟨u,bI,rfl,_,J⟩:=h;simpa using AD n J
theorem Dp{w:World}{ν:aW}:∀(n:Nat) {b2:List al} {vs:List Value},cK w ν b2 vs->cK w ν (b2.take n) (vs.take n)
 |0,_,_,_=>by simp[cK]
 |n+1,[],vs,h=>by simp only[cK]at h;subst h;simp[cK]
 |n+1,p::b2,vs,h=>by simp only[cK]at h;obtain⟨u,bI,rfl,I,J⟩:=h;simp only[rI,cK];exact⟨u,_,rfl,I,Dp n J⟩
theorem yz{w:World}{ν:aW}:∀{b2 bD:List al} {vs us:List Value},cK w ν b2 vs->cK w ν bD us->cK w ν (b2++bD) (vs++us)
 |[],bD,vs,us,h,cx=>by simp only[cK]at h;subst h;simpa using cx
 |p::b2,bD,vs,us,h,cx=>by simp only[cK]at h;obtain⟨u,bI,rfl,I,J⟩:=h;simp only[ds,cK];exact⟨u,_,rfl,I,yz J cx⟩
theorem Dn{w:World}{ν:aW}:∀(n:Nat) {b2:List al} {vs:List Value} {p:al},cK w ν b2 vs->b2[n]? =some p->∃v,vs[n]? =some v/\aT w ν p v/\v.oneCell'=true
 |n,[],_,p,_,bn=>by simp at bn
 |0,q::b2,vs,p,h,bn=>by simp only[cK]at h;obtain⟨u,bI,rfl,I,_⟩:=h;simp at bn;subst bn;exact⟨u,rfl,I.1,I.2⟩
 |n+1,q::b2,vs,p,h,bn=>by simp only[cK]at h;obtain⟨u,bI,rfl,_,J⟩:=h;simpa using Dn n J (by simpa using bn)
theorem GI{w:World}{ν:aW}:∀(n:Nat) {b2:List al} {vs:List Value} {p:al},cw w ν b2 vs->b2[n]? =some p->∃v,vs[n]? =some v/\aT w ν p v
 |n,[],_,p,_,bn=>by simp at bn
 |0,q::b2,vs,p,h,bn=>by simp only[cw]at h;obtain⟨u,bI,rfl,I,_⟩:=h;simp at bn;subst bn;exact⟨u,rfl,I⟩
 |n+1,q::b2,vs,p,h,bn=>by simp only[cw]at h;obtain⟨u,bI,rfl,_,J⟩:=h;simpa using GI n J (by simpa using bn)
theorem va{w:World}{A:Nat->Nat->Prop}{b:Nat}:∀{us:List Value} {off j:Nat} {u:Value},kx w A b off us->us[j]? =some u->A b (off+j)/\w.cell? ⟨b,off+j,none⟩=some u
 |[],_,_,_,_,h=>by simp at h
 |x::us,off,0,u,aG,h=>by simp at h;subst h;exact aG.1
 |x::us,off,j+1,u,aG,h=>by have:=va (j:=j) aG.2 (by simpa using h);rwa[show off+1+j=off+(j+1)from by omega]at this
theorem FN{w:World}{A:Nat->Nat->Prop}{b:Nat}:∀(n:Nat) {us:List Value} {off:Nat},kx w A b off us->kx w A b (off+n) (us.drop n)
 |0,_,_,h=>by simpa using h
 |n+1,[],_,_=>by simp[kx]
 |n+1,x::us,off,h=>by have:=FN n h.2;rw[show off+(n+1)=off+1+n from by omega];simpa using this
theorem FO{w:World}{A:Nat->Nat->Prop}{b:Nat}:∀(n:Nat) {us:List Value} {off:Nat},kx w A b off us->kx w A b off (us.take n)
 |0,_,_,_=>by simp[kx]
 |n+1,[],_,_=>by simp[kx]
 |n+1,x::us,off,h=>by simp only[rI];exact⟨h.1,FO n h.2⟩
theorem UW{P:b3}{w:World}{A:Nat->Nat->Prop}{b off:Nat}{us:List Value}(h:kx w A b off us):(loadCells ⟨b,off,none⟩ us.length).run P w= .ok us.toArray w:=run_loadCells_list w _ us fun j v aD=>by rw[oh];exact(va h aD).2
theorem ag7{P:b3}{w:World}{b off n:Nat}{us:Array Value}{el:fT}{fr:Nat×Nat}(h:w.heap[b]? =some (.cells us el fr))(aJ:off+n<=us.size):
  (loadCells ⟨b,off,none⟩ n).run P w= .ok ((us.toList.drop off).take n).toArray w:=by
 have aG:((us.toList.drop off).take n).length=n:=by simp;omega
 have:=run_loadCells_list (P:=P) w ⟨b,off,none⟩ ((us.toList.drop off).take n) fun j v aD=>by
  rw[oh];have acv:j<n:=by have:=(eV.1 aD).1;omega
  simp only[World.cell?,h,um,kE,if_false];rw[List.getElem?_take]at aD;simpa[acv]using aD
 rw[aG]at this;exact this
theorem Ph{α:Type}(l r:List α)(n sz:Nat)(h:l.length=sz):(l++r).drop ((n+1)*sz)=r.drop (n*sz):=by
 have e:(n+1)*sz=l.length+n*sz:=by rw[h,Nat.succ_mul,Nat.add_comm]
 rw[e,<-List.drop_drop];simp
theorem Ve{α:Type}(l r:List α)(n sz:Nat)(h:l.length=sz):(l++r).take ((n+1)*sz)=l++r.take (n*sz):=by
 have e:(n+1)*sz=l.length+n*sz:=by rw[h,Nat.succ_mul,Nat.add_comm]
 rw[e,List.take_length_add_append]
theorem GD{w:World}{ν:aW}{sz:Nat}:∀(i:Nat) {xs:List al} {us:List Value} {p:al},cR w ν sz xs us->xs[i]? =some p->
  ∃u,aT w ν p u/\u.cells.size=sz/\u.cells.toList=(us.drop (i*sz)).take sz
 |i,[],_,p,_,bn=>by simp at bn
 |0,x::xs,us,p,h,bn=>by
  simp only[cR]at h;obtain⟨u,bI,rfl,⟨I,J,aA⟩,_⟩:=h;simp at bn;subst bn;refine⟨u,I,J,?_⟩;have:u.cells.toList.length=sz:=by simpa using J
  simp[<-this]
 |i+1,x::xs,us,p,h,bn=>by
  simp only[cR]at h;obtain⟨u,bI,rfl,⟨_,J,_⟩,bG⟩:=h;obtain⟨v,g1,g2,g3⟩:=GD i bG (by simpa using bn);refine⟨v,g1,g2,?_⟩;have:u.cells.toList.length=sz:=by simpa using J
  rw[g3,Ph _ _ _ _ this]
theorem ri{w:World}{ν:aW}{sz:Nat}:∀{xs:List al} {us:List Value},cR w ν sz xs us->us.length=xs.length*sz
 |[],us,h=>by simp only[cR]at h;subst h;simp
 |x::xs,us,h=>by
  simp only[cR]at h;obtain⟨u,bI,rfl,⟨_,J,_⟩,bG⟩:=h;have:u.cells.toList.length=sz:=by simpa using J
  rw[fU,this,ri bG,ga,Nat.succ_mul];omega
theorem yy{w:World}{ν:aW}{sz:Nat}:∀{xs:List al} {us:List Value},cR w ν sz xs us->∀c∈us,c.oneCell'=true
 |[],us,h=>by simp only[cR]at h;subst h;simp
 |x::xs,us,h=>by
  simp only[cR]at h;obtain⟨u,bI,rfl,⟨_,_,aA⟩,bG⟩:=h;intro c aH;rcases fM.1 aH with aH|aH
  ·exact aA c aH
  ·exact yy bG c aH
theorem AA{w:World}{ν:aW}{sz:Nat}:∀{b2 bD:List al} {vs us:List Value},cR w ν sz b2 vs->cR w ν sz bD us->cR w ν sz (b2++bD) (vs++us)
 |[],bD,vs,us,h,cx=>by simp only[cR]at h;subst h;simpa using cx
 |p::b2,bD,vs,us,h,cx=>by simp only[cR]at h;obtain⟨u,bI,rfl,I,J⟩:=h;simp only[ds,cR];exact⟨u,bI++us,Ψ,I,AA J cx⟩
theorem UD{w:World}{ν:aW}{sz:Nat}:∀(n:Nat) {xs:List al} {us:List Value},cR w ν sz xs us->cR w ν sz (xs.drop n) (us.drop (n*sz))
 |0,_,_,h=>by simpa using h
 |n+1,[],us,h=>by simp only[cR]at h;subst h;simp[cR]
 |n+1,x::xs,us,h=>by
  simp only[cR]at h;obtain⟨u,bI,rfl,⟨_,J,_⟩,bG⟩:=h;have:u.cells.toList.length=sz:=by simpa using J
  rw[Ph _ _ _ _ this];simpa using UD n bG
theorem UH{w:World}{ν:aW}{sz:Nat}:∀(n:Nat) {xs:List al} {us:List Value},cR w ν sz xs us->cR w ν sz (xs.take n) (us.take (n*sz))
 |0,_,_,_=>by simp[cR]
 |n+1,[],us,h=>by simp only[cR]at h;subst h;simp[cR]
 |n+1,x::xs,us,h=>by
  simp only[cR]at h;obtain⟨u,bI,rfl,⟨I,J,aA⟩,bG⟩:=h;have:u.cells.toList.length=sz:=by simpa using J
  simp only[rI,cR];refine⟨u,bI.take (n*sz),?_,⟨I,J,aA⟩,UH n bG⟩;rw[Ve _ _ _ _ this]
def isAgg(sz:Nat)(p:al):Prop:= ∃cs,p= .agg cs/\cs.length=sz
def yE(agg:Bool)(sz dn n i f:Nat):a1 dU->a1 (Prop×al)
 |some ⟨n',_,ia,some xs⟩=>if n'=n/\ia=dn then
   (match xs[i]? with
    |some p=>if agg then some (eG p=true/\f+sz<=(cells p).length,.agg (((cells p).drop f).take sz))else((cells p)[f]?).map fun q=>(eG p=true,q)
    |none=>none)else none
 |_=>none
def mH(b:List (aO×List al))(e:List (aO×dU))(agg:Bool)(sz:Nat):al->a1 (Prop×al)
 | .rptr dn k n i f=>yE agg sz dn n i f (look k e)
 | .ptr k off=>
  match look k b with
  |some cs=>if agg then some (iH cs=true/\off+sz<=cs.length,.agg ((cs.drop off).take sz))else(cs[off]?).map fun p=>(iH cs=true,p)
  |none=>none
 | .eptr p=>if agg then some (isAgg sz p,p)else some (eG p=true/\cells p=[p],p)
 |_=>none
def BO(agg:Bool)(sz:Nat):al->a1 (Prop×al)
 | .eptr p=>if agg then some (isAgg sz p,p)else some (eG p=true/\cells p=[p],p)
 |_=>none
theorem aay{b:List (aO×List al)}{e:List (aO×dU)}{agg:Bool}{sz:Nat}{p:al}{r:Prop×al}(h:BO agg sz p=some r):mH b e agg sz p=some r:=by
 cases p<;>simp only[BO]at h<;>first|cases h;done|skip
 simpa only[mH]using h
theorem aei{b:List (aO×List al)}{e:List (aO×dU)}{agg:Bool}{sz:Nat}{p:al}{r:Prop×al}(h:mH b [] agg sz p=some r):mH b e agg sz p=some r:=by cases p<;>simp only[mH]at h⊢ <;>first|exact h|(simp[look,yE]at h)
def ov(off:Nat)(agg:Bool)(sz:Nat):al->a1 (Prop×al)
 | .ptr k o=>some (True,.ptr k (o+off))
 | .rptr dn k n i f=>some (True,.rptr dn k n i (f+off))
 | .eptr (.agg cs)=>if agg then some (off+sz<=cs.length,.eptr (.agg ((cs.drop off).take sz)))else(cs[off]?).map fun p=>(eG p=true/\cells p=[p],.eptr p)
 |_=>none
def rX(off:Nat)(agg:Bool)(sz:Nat):al->a1 (Prop×al)
 | .agg cs=>if agg then some (off+sz<=cs.length,.agg ((cs.drop off).take sz))else(cs[off]?).map fun p=>(True,p)
 |_=>none
def zU(sz:Nat):al->al->a1 (Prop×al)
 | .slice dn _ xs,.int _ i=>if dn=sz then some (0<=i/\i<xs.length,.eptr (xs.getD i.toNat .junk))else none
 | .row dn k n,.int _ i=>if dn=sz then some (0<=i/\i<n,.rptr dn k n i.toNat 0)else none
 |_,_=>none
def GQ:al->al->a1 (Prop×al)
 | .str s,.int _ i=>some (0<=i/\i<s.length,.int .u8 (s.getD i.toNat 0).toNat)
 |_,_=>none
def rf(Ei:Int):a1 al->a1 Int
 |none=>some Ei
 |some (.int _ i)=>some i
 |_=>none
def GV(x:al)(lo aE:a1 al):a1 (Prop×al):=
 match x with
 | .str s=>match rf 0 lo,rf s.length aE with
  |some l,some h=>some (0<=l/\l<=h/\h<=s.length,.str ((s.take h.toNat).drop l.toNat))
  |_,_=>none
 |_=>none
def FU(sz:Nat)(x:al)(lo aE:a1 al):a1 (Prop×al):=
 match x with
 | .slice dn _ xs=>if dn=sz then match rf 0 lo,rf xs.length aE with
  |some l,some h=>some (0<=l/\l<=h/\h<=xs.length,.slice sz .no ((xs.take h.toNat).drop l.toNat))
  |_,_=>none else none
 |_=>none
def aZ(n:Int):Prop:= -9223372036854775808<=n/\n<=9223372036854775807
def aC(op:BinOp)(wr:Bool)(k:IntKind)(a b:Int):a1 (Prop×al):=
 match op with
 | .add=>if wr then some (True,.int k (k.wrap (a+b)))else some (k= .i64/\aZ (a+b),.int .i64 (a+b))
 | .sub=>if wr then some (True,.int k (k.wrap (a-b)))else some (k= .i64/\aZ (a-b),.int .i64 (a-b))
 | .mul=>if wr then some (True,.int k (k.wrap (a*b)))else some (k= .i64/\aZ (a*b),.int .i64 (a*b))
 | .quo=>some (b≠0,.int k (k.wrap (a.tdiv b)))
 | .rem=>some (b≠0,.int k (a.tmod b))
 | .eql=>some (True,.bool (a==b))
 | .neq=>some (True,.bool (a !=b))
 | .lss=>some (True,.bool (decide (a<b)))
 | .leq=>some (True,.bool (decide (a<=b)))
 | .gtr=>some (True,.bool (decide (b<a)))
 | .geq=>some (True,.bool (decide (b<=a)))
 | .and=>some (True,.int k (k.wrap (rD k.bits a&&& rD k.bits b).toNat))
 | .or=>some (True,.int k (k.wrap (rD k.bits a|||rD k.bits b).toNat))
 | .xor=>some (True,.int k (k.wrap (rD k.bits a ^^^ rD k.bits b).toNat))
 |_=>none
def GX(op:BinOp)(a b:List ah):a1 (Prop×al):=
 match op with
 | .add=>some (a.length+b.length<=bs,.str (a++b))
 | .eql=>some (True,.bool (a==b))
 | .neq=>some (True,.bool (!(a==b)))
 | .lss=>some (True,.bool (Op.bytesLess a b))
 | .leq=>some (True,.bool (Op.bytesLess a b||a==b))
 | .gtr=>some (True,.bool (!(Op.bytesLess a b||a==b)))
 | .geq=>some (True,.bool (!Op.bytesLess a b))
 |_=>none
def aw(op:BinOp)(wr:Bool):al->al->a1 (Prop×al)
 | .int k a,.int bz b=>match op with
  | .shl=>some (0<=b,.int k (k.wrap (a*2 ^ (min b.toNat k.bits))))
  | .shr=>some (0<=b,.int k (a.fdiv (2 ^ (min b.toNat k.bits))))
  |_=>if k=bz then aC op wr k a b else none
 | .str a,.str b=>GX op a b
 |_,_=>none
def oV(cs:List al)(off:Nat)(b2:List al):List al:=cs.take off++b2++cs.drop (off+b2.length)
def uz(t:List (Nat×al)):List al->List (Nat×Nat×cY)->a1 (Prop×List al)
 |cs,[]=>some (True,cs)
 |cs,(off,sz,x)::r=>
  let p:=bQ t x
  match uz t (oV cs off (cells p)) r with
  |some (c,cs')=>some ((eG p=true/\(cells p).length=sz/\off+sz<=cs.length)/\c,cs')
  |none=>none
def Gj(c x y:al):a1 (Prop×al):=
 match c with
 | .bool b=>match x,y with
  | .bool u,.bool v=>some (True,.bool (cond b u v))
  |p,q=>match b with
   |true=>some (True,p)
   |false=>some (True,q)
 |_=>none
def F7:al->a1 (Prop×al)
 | .bool b=>some (True,.bool (!b))
 |_=>none
def F3:al->a1 (Prop×al)
 | .int k n=>some (True,.int k (k.wrap (0-n)))
 |_=>none
def Ev(i:Nat):al->a1 (Prop×al)
 | .tuple vs=>(vs[i]?).map fun p=>(True,p)
 |_=>none
def z6:al->a1 (Prop×al)
 | .slice _ _ xs=>some (True,.int .i64 xs.length)
 | .row _ _ n=>some (True,.int .i64 n)
 | .cst (.slice _ n _)=>some (True,.int .i64 n)
 |_=>none
def Dy:al->a1 (Prop×al)
 | .str s=>some (True,.int .i64 s.length)
 | .cst (.string s)=>some (True,.int .i64 s.size)
 |_=>none
def Ee(k:IntKind):al->a1 (Prop×al)
 | .int _ n=>some (True,.int k (k.wrap n))
 |_=>none
def pa:List al->a1 (List ah)
 |[]=>some []
 | .int .u8 n::r=>(pa r).map (pS n.toNat:: ·)
 |_=>none
def DZ:al->a1 (Prop×al)
 | .slice _ _ xs=>(pa xs).map fun s=>(True,.str s)
 |_=>none
def FC(neg:Bool):al->a1 (Prop×al)
 | .iface _ _=>some (True,.bool neg)
 | .cst .nilIface=>some (True,.bool (!neg))
 |_=>none
def Ac:al->a1 (Prop×al)
 | .ptr k o=>some (True,.ptr k o)
 | .eptr p=>some (True,.eptr p)
 | .func f cs=>some (True,.func f cs)
 |_=>none
def FY:al->al->a1 (Prop×al)
 | .int k a,.int bz b=>if k=bz then some (True,.int k (if b<a then b else a))else none
 |_,_=>none
def kK:List Bool->List al->List al->a1 Bool
 |[],[],[]=>some true
 |false::r,.int k a::asQ,.int bz b::ev=>if k=bz then(kK r asQ ev).map fun q=>(a==b)&&q else none
 |true::r,.str a::asQ,.str b::ev=>(kK r asQ ev).map fun q=>(a==b)&&q
 |_,_,_=>none
inductive j5 where
 |i
 |s
 |a (dG:List Bool)
 deriving DecidableEq
def u3:j5->al->al->a1 Bool
 | .i,.int k a,.int bz b=>if k=bz then some (a==b)else none
 | .s,.str a,.str b=>some (a==b)
 | .a dG,.agg asQ,.agg ev=>kK dG asQ ev
 |_,_,_=>none
def yi:j5->al->Bool
 | .a dG,.agg asQ=>(kK dG asQ asQ).isSome
 | .a _,_=>false
 |_,_=>true
@[simp]theorem Sb(k:al):yi .i k=true:=by cases k<;>rfl
@[simp]theorem Sc(k:al):yi .s k=true:=by cases k<;>rfl
def tQ(b7:j5)(k:al):List al->a1 (a1 al)
 |bz::v::r=>match u3 b7 k bz with
  |some true=>some (some v)
  |some false=>tQ b7 k r
  |none=>none
 |_=>some none
def oN(b:aO->a1 (List al))(b7:j5)(zero:al)(ok:Bool)(x k:al):a1 (Prop×al):=
 match x with
 | .gmap key=>match b key with
  |some (.hdm _ _::kvs)=>if yi b7 k=false then none else match tQ b7 k kvs with
   |some (some v)=>some (True,if ok then .tuple [v,.bool true]else v)
   |some none=>some (True,if ok then .tuple [zero,.bool false]else zero)
   |none=>none
  |_=>none
 |_=>none
def ve(b:aO->a1 (List al))(x:al):a1 (Prop×al):=
 match x with
 | .gmap key=>match b key with
  |some (.hdm _ borns::_)=>some (True,.int .i64 borns.length)
  |_=>none
 |_=>none
def D1(neg:Bool):a1 (List Bool)->al->al->a1 (Prop×al)
 |none,.bool a,.bool b=>some (True,.bool (if neg then a !=b else a==b))
 |some dG,.agg asQ,.agg ev=>(kK dG asQ ev).map fun q=>(True,.bool (if neg then !q else q))
 |_,_,_=>none
def FW:al->al->a1 (Prop×al)
 | .int k a,.int bz b=>if k=bz then some (True,.int k (if a<b then b else a))else none
 |_,_=>none
def vf(b7:j5)(k v:al):List al->a1 (a1 (List al))
 |bz::v'::r=>match u3 b7 k bz with
  |some true=>some (some (k::v::r))
  |some false=>match vf b7 k v r with
   |some (some dh)=>some (some (bz::v'::dh))
   |some none=>some none
   |none=>none
  |none=>none
 |_=>some none
def oM(n:Nat):List Nat->List al->a1 al
 |b::ev,k::v::r=>if b=n then some (.tuple [k,v])else oM n ev r
 |_,_=>none
def tP(b:aO->a1 (List al))(x:al):a1 (Prop×al):=
 match x with
 | .ptr hl 0=>match b hl with
  |some [.hdi _ seen last,.gmap mk]=>match b mk with
   |some (.hdm clock borns::kvs)=>match seen.getLast? with
    |some n=>(oM n borns kvs).map fun p=>(clock=last,p)
    |none=>none
   |_=>none
  |_=>none
 |_=>none
theorem SC{f g:aO->a1 (List al)}(h:∀k,f k≠none->g k=f k){b7:j5}{zero:al}{ok:Bool}{x k:al}{r:Prop×al}(he:oN f b7 zero ok x k=some r):oN g b7 zero ok x k=some r:=by
 unfold oN at he⊢;split at he
 ·rename_i key;cases aY:f key with
  |none=>simp[aY]at he
  |some cs=>rw[h key (by rw[aY];simp),aY];rw[aY]at he;exact he
 ·cases he
theorem aex{f g:aO->a1 (List al)}(h:∀k,f k≠none->g k=f k){x:al}{r:Prop×al}(he:ve f x=some r):ve g x=some r:=by
 unfold ve at he⊢;split at he
 ·rename_i key;cases aY:f key with
  |none=>simp[aY]at he
  |some cs=>rw[h key (by rw[aY];simp),aY];rw[aY]at he;exact he
 ·cases he
theorem aet{f g:aO->a1 (List al)}(h:∀k,f k≠none->g k=f k){x:al}{r:Prop×al}(he:tP f x=some r):tP g x=some r:=by
 unfold tP at he⊢;split at he
 ·rename_i hl;cases aY:f hl with
  |none=>simp[aY]at he
  |some cs=>
   simp only[h hl (by rw[aY];simp),aY]at he⊢;split at he
   ·rename_i since seen last mk da;cases q1:f mk with
    |none=>simp[q1]at he
    |some dV=>simp only[h mk (by rw[q1];simp),q1]at he⊢;exact he
   ·cases he
 ·cases he
inductive fP where
 |mov (x:cY)
 |pick (c x y:cY)
 |load (agg:Bool) (sz:Nat) (x:cY)
 |faddr (off:Nat) (agg:Bool) (sz:Nat) (x:cY)
 |fld (off:Nat) (agg:Bool) (sz:Nat) (x:cY)
 |iaddr (sz:Nat) (x i:cY)
 |sidx (x i:cY)
 |ssl (x:cY) (lo aE:a1 cY)
 |lsl (sz:Nat) (x:cY) (lo aE:a1 cY)
 |bin (op:BinOp) (wr:Bool) (x y:cY)
 |notB (x:cY)
 |neg (x:cY)
 |conv (k:IntKind) (x:cY)
 |ext (i:Nat) (x:cY)
 |len (x:cY)
 |slen (x:cY)
 |build (zero:List al) (parts:List (Nat×Nat×cY))
 |nck (x:cY)
 |min2 (x y:cY)
 |mkf (n:Nat) (xs:List cY)
 |mget (b7:j5) (zero:al) (ok:Bool) (x k:cY)
 |ment (x:cY)
 |mlen (x:cY)
 |beq (neg:Bool) (dG:a1 (List Bool)) (x y:cY)
 |max2 (x y:cY)
 |mkif (t:Nat) (x:cY)
 |loadB (agg:Bool) (sz:Nat) (x:cY)
 |mgetB (b7:j5) (zero:al) (ok:Bool) (x k:cY)
 |loadZ (agg:Bool) (sz:Nat) (x:cY)
 |b2s (x:cY)
 |isn (neg:Bool) (x:cY)
def gH(st:a6):fP->a1 (Prop×al)
 | .mov x=>some (True,bQ st.t x)
 | .pick c x y=>Gj (bQ st.t c) (bQ st.t x) (bQ st.t y)
 | .load agg sz x=>mH st.b st.e agg sz (bQ st.t x)
 | .faddr off agg sz x=>ov off agg sz (bQ st.t x)
 | .fld off agg sz x=>rX off agg sz (bQ st.t x)
 | .iaddr sz x i=>zU sz (bQ st.t x) (bQ st.t i)
 | .sidx x i=>GQ (bQ st.t x) (bQ st.t i)
 | .ssl x lo aE=>GV (bQ st.t x) (lo.map (bQ st.t)) (aE.map (bQ st.t))
 | .lsl sz x lo aE=>FU sz (bQ st.t x) (lo.map (bQ st.t)) (aE.map (bQ st.t))
 | .bin op wr x y=>aw op wr (bQ st.t x) (bQ st.t y)
 | .notB x=>F7 (bQ st.t x)
 | .neg x=>F3 (bQ st.t x)
 | .conv k x=>Ee k (bQ st.t x)
 | .ext i x=>Ev i (bQ st.t x)
 | .len x=>z6 (bQ st.t x)
 | .slen x=>Dy (bQ st.t x)
 | .build zero parts=>(uz st.t zero parts).map fun(c,cs)=>(c,.agg cs)
 | .nck x=>Ac (bQ st.t x)
 | .min2 x y=>FY (bQ st.t x) (bQ st.t y)
 | .mkf n xs=>some (True,.func n (xs.map (bQ st.t)))
 | .mget b7 zero ok x k=>oN (fun k=>look k st.b) b7 zero ok (bQ st.t x) (bQ st.t k)
 | .ment x=>tP (fun k=>look k st.b) (bQ st.t x)
 | .mlen x=>ve (fun k=>look k st.b) (bQ st.t x)
 | .beq neg dG x y=>D1 neg dG (bQ st.t x) (bQ st.t y)
 | .max2 x y=>FW (bQ st.t x) (bQ st.t y)
 | .mkif t x=>some (True,.iface t (bQ st.t x))
 | .loadB agg sz x=>mH st.b [] agg sz (bQ st.t x)
 | .mgetB b7 zero ok x k=>oN (fun k=>look k st.b) b7 zero ok (bQ st.t x) (bQ st.t k)
 | .loadZ agg sz x=>BO agg sz (bQ st.t x)
 | .b2s x=>DZ (bQ st.t x)
 | .isn neg x=>FC neg (bQ st.t x)
def Ar(bu:List (Nat×dt))(dG:List (Nat×Nat)):List (Nat×Nat×cY)->List (Nat×ix)->Bool
 |[],[]=>true
 |(off,sz,x)::r,(i,o)::s=>(match dG[i]? with|some (wL,t)=>off==wL&&((dJ bu t).map (·.size))==some sz|none=>false)&&dX x o&&Ar bu dG r s
 |_,_=>false
def DS:al->al->Bool
 | .int k n,.int bz n'=>decide (k=bz/\n=n')
 | .bool b,.bool fN=>b==fN
 | .str [],.str []=>true
 | .slice a .nil [],.slice b .nil []=>a==b
 | .nilp,.nilp=>true
 | .junk,.junk=>true
 |_,_=>false
def AT:List al->List al->Bool
 |[],[]=>true
 |c::cs,d::dV=>DS c d&&AT cs dV
 |_,_=>false
def AV:al->al->Bool
 | .agg cs,.agg dV=>AT cs dV
 | .agg _,_=>false
 |p,q=>DS p q
def vj:List cY->List ix->Bool
 |[],[]=>true
 |x::xs,o::os=>dX x o&&vj xs os
 |_,_=>false
def zt(bu:List (Nat×dt)):Nat->List Bool->List (Nat×Nat)->Bool
 |_,[],[]=>true
 |n,b::r,(off,t)::dG=>off==n&&(match dJ bu t with|some ⟨_,_,.int _,_⟩=> !b|some ⟨_,_,.str,_⟩=>b|_=>false)&&zt bu (n+1) r dG
 |_,_,_=>false
def EC(bu:List (Nat×dt))(dG:List Bool)(t:Nat):Bool:=match dJ bu t with
 |some ⟨_,_,.struct gs,_⟩=>zt bu 0 dG gs
 |_=>false
def yj(bu:List (Nat×dt))(b7:j5)(t:Nat):Bool:=match b7 with
 | .i=>(match dJ bu t with|some ⟨_,_,.int _,_⟩=>true|_=>false)
 | .s=>(match dJ bu t with|some ⟨_,_,.str,_⟩=>true|_=>false)
 | .a dG=>EC bu dG t
def MB:al->al->Bool
 | .slice a .no [],.slice b .nil []=>a==b
 |c,d=>DS c d
def yS:List al->List al->Bool
 |[],[]=>true
 |c::cs,d::dV=>MB c d&&yS cs dV
 |_,_=>false
def MG:List al->al->Bool
 |cs,.agg dV=>yS cs dV
 |_,_=>false
def wO:a1 cY->a1 ix->Bool
 |none,none=>true
 |some x,some o=>dX x o
 |_,_=>false
def DJ(bu:List (Nat×dt)):fP->Op->Bool
 | .mov x,.move o=>dX x o
 | .mov x,.assign o=>dX x o
 | .pick c x y,.pick iA Hd Wa=>dX c iA&&dX x Hd&&dX y Wa
 | .load agg sz x,.load t o=>(match dJ bu t with|some f=>f.size==sz&&f.kind.isAgg==agg|none=>false)&&dX x o
 | .faddr off agg sz x,.fieldAddr s o i=>
  (match dJ bu s with
   |some ⟨_,_,.struct dG,_⟩=>(match dG[i]? with|some (wL,t)=>off==wL&&(match dJ bu t with|some f=>f.size==sz&&f.kind.isAgg==agg&&sz !=0|none=>false)|none=>false)
   |_=>false)&&dX x o
 | .fld off agg sz x,.field s o i=>
  (match dJ bu s with
   |some ⟨_,_,.struct dG,_⟩=>(match dG[i]? with|some (wL,t)=>off==wL&&(match dJ bu t with|some f=>f.size==sz&&f.kind.isAgg==agg|none=>false)|none=>false)
   |_=>false)&&dX x o
 | .iaddr sz x i,.indexAddr t o j=>(match dJ bu t with|some ⟨_,_,.slice e,_⟩=>(match dJ bu e with|some f=>f.size==sz|none=>false)|_=>false)&&dX x o&&dX i j
 | .sidx x i,.index t o j=>(match dJ bu t with|some ⟨_,_,.str,_⟩=>true|_=>false)&&dX x o&&dX i j
 | .ssl x lo aE,.slice t o l h none=>(match dJ bu t with|some ⟨_,_,.str,_⟩=>true|_=>false)&&dX x o&&wO lo l&&wO aE h
 | .lsl sz x lo aE,.slice t o l h none=>(match dJ bu t with|some ⟨_,_,.slice e,_⟩=>(match dJ bu e with|some f=>f.size==sz|none=>false)|_=>false)&&dX x o&&wO lo l&&wO aE h
 | .bin op _ x y,.binOp Ts _ o o' _=>decide (op=Ts)&&dX x o&&dX y o'
 | .notB x,.unOp op _ o=>decide (op= .not)&&dX x o
 | .neg x,.unOp op _ o=>decide (op= .neg)&&dX x o
 | .conv k x,.convert s d o=>(match dJ bu s,dJ bu d with|some ⟨_,_,.int _,_⟩,some ⟨_,_,.int bz,_⟩=>decide (k=bz)|_,_=>false)&&dX x o
 | .ext i x,.extract o j=>i==j&&dX x o
 | .len x,.call ⟨.builtin .len,⟨[o]⟩,⟨[t]⟩⟩=>(match dJ bu t with|some ⟨_,_,.slice _,_⟩=>true|_=>false)&&dX x o
 | .slen x,.call ⟨.builtin .len,⟨[o]⟩,⟨[t]⟩⟩=>(match dJ bu t with|some ⟨_,_,.str,_⟩=>true|_=>false)&&dX x o
 | .build zero parts,.build t b2=>(match dJ bu t with|some ⟨_,_,.struct dG,z⟩=>MG zero z&&(dG.all fun x=>(dJ bu x.2).isSome)&&Ar bu dG parts b2.toList|_=>false)
 | .nck x,.nilCheck o=>dX x o
 | .min2 x y,.call ⟨.builtin .min,⟨[o,o']⟩,⟨[_,_]⟩⟩=>dX x o&&dX y o'
 | .mkf n xs,.makeFunc (.func m) ⟨[]⟩ os=>decide (n=m/\n<1000000)&&vj xs os.toList
 | .mkf n xs,.makeFunc (.func m) ev ⟨[]⟩=>decide (n=m+1000000)&&vj xs ev.toList
 | .mget b7 zero ok x k,.lookup t o o' F8=>ok==F8&&(match dJ bu t with|some ⟨_,_,.map ec pc,_⟩=>yj bu b7 ec&&(match dJ bu pc with|some f=>AV zero f.zero|none=>false)|_=>false)&&dX x o&&dX k o'
 | .ment x,.entry o=>dX x o
 | .mlen x,.call ⟨.builtin .len,⟨[o]⟩,⟨[t]⟩⟩=>(match dJ bu t with|some ⟨_,_,.map _ _,_⟩=>true|_=>false)&&dX x o
 | .beq neg dG x y,.binOp op t o o' _=>decide (op=if neg then .neq else .eql)&&(match dG with|none=>(match dJ bu t with|some ⟨_,_,.bool,_⟩=>true|_=>false)|some dG=>EC bu dG t)&&dX x o&&dX y o'
 | .max2 x y,.call ⟨.builtin .max,⟨[o,o']⟩,⟨[_,_]⟩⟩=>dX x o&&dX y o'
 | .mkif t x,.makeInterface eH o=>t==eH&&(match dJ bu t with|some ⟨_,_,.slice _,_⟩=>true|_=>false)&&dX x o
 | .loadB agg sz x,.load t o=>(match dJ bu t with|some f=>f.size==sz&&f.kind.isAgg==agg|none=>false)&&dX x o
 | .b2s x,.convert s d o=>(match dJ bu s,dJ bu d with|some ⟨_,_,.slice e,_⟩,some ⟨_,_,.str,_⟩=>(match dJ bu e with|some ⟨_,_,.int .u8,_⟩=>true|_=>false)|_,_=>false)&&dX x o
 | .isn neg x,.binOp op t o (.const .nilIface) _=>decide (op=if neg then .neq else .eql)&&(match dJ bu t with|some ⟨_,_,.iface,_⟩=>true|_=>false)&&dX x o
 | .loadZ agg sz x,.load t o=>(match dJ bu t with|some f=>f.size==sz&&f.kind.isAgg==agg|none=>false)&&dX x o
 | .mgetB b7 zero ok x k,.lookup t o o' F8=>ok==F8&&(match dJ bu t with|some ⟨_,_,.map ec pc,_⟩=>yj bu b7 ec&&(match dJ bu pc with|some f=>AV zero f.zero|none=>false)|_=>false)&&dX x o&&dX k o'
 |_,_=>false
end
section
open Go Go.RowKit
theorem Iq(P:b3)(w:World)(op:BinOp)(t:fT)(x y:ix)(k bz:IntKind)(m n:Int):(eqGuard op t x y (.int k m) (.int bz n)).run P w= .ok () w:=by cases op<;>rfl
theorem Yh(P:b3)(w:World)(op:BinOp)(t:fT)(x y:ix)(m n:kF):(eqGuard op t x y (.string m) (.string n)).run P w= .ok () w:=by cases op<;>rfl
theorem ahM(l:List ah):(⟨l.toArray⟩:kF).toList=l:=by simp
theorem WD(a b:List ah):(⟨a.toArray⟩:kF)++(⟨b.toArray⟩:kF)=⟨(a++b).toArray⟩:=by apply aiM;simp
theorem Ze(a:List ah)(l h:Nat):(⟨a.toArray⟩:kF).extract l h=⟨((a.take h).drop l).toArray⟩:=by apply aiM;simp[List.drop_take]
theorem Dx(a:List ah):(⟨a.toArray⟩:kF).size=a.length:=by simp[MH]
section
variable {P:b3} {w:World} {r:Sem Value}
theorem rZ{k:IntKind}{x:Int}(h:r.run P w= .ok (.int k x) w):∃v,r.run P w= .ok v w/\∀ν,aT w ν (.int k x) v:=⟨_,h,fun ν=>by simp[aT]⟩
theorem Qm{x:Bool}(h:r.run P w= .ok (.bool x) w):∃v,r.run P w= .ok v w/\∀ν,aT w ν (.bool x) v:=⟨_,h,fun ν=>by simp[aT]⟩
end
theorem adD(P:b3)(w:World){op:BinOp}{wr:Bool}{k:IntKind}{a b:Int}{c:Prop}{p:al}(he:aC op wr k a b=some (c,p))(aH:c)(t:fT):
  ∃v,(binOp op t (.int k a) (.int k b)).run P w= .ok v w/\∀ν,aT w ν p v:=by
 cases op<;>simp only[aC]at he;case add=>
  cases wr<;>simp only[if_true,kE,if_false]at he<;>cases he
  ·obtain⟨rfl,h⟩:=aH;exact rZ (by simp[binOp,Op.intArith,lS _ h])
  ·exact rZ (by simp[binOp,Op.intArith])
 case sub=>
  cases wr<;>simp only[if_true,kE,if_false]at he<;>cases he
  ·obtain⟨rfl,h⟩:=aH;exact rZ (by simp[binOp,Op.intArith,lS _ h])
  ·exact rZ (by simp[binOp,Op.intArith])
 case mul=>
  cases wr<;>simp only[if_true,kE,if_false]at he<;>cases he
  ·obtain⟨rfl,h⟩:=aH;exact rZ (by simp[binOp,Op.intArith,lS _ h])
  ·exact rZ (by simp[binOp,Op.intArith])
 case quo=>cases he;exact rZ (by simp[binOp,Op.intDiv,aH])
 case rem=>cases he;exact rZ (by simp[binOp,Op.intDiv,aH])
 case and=>cases he;exact rZ (by simp only[binOp,Op.intBits,ne_eq,not_true_eq_false,if_false,fO])
 case or=>cases he;exact rZ (by simp only[binOp,Op.intBits,ne_eq,not_true_eq_false,if_false,fO])
 case xor=>cases he;exact rZ (by simp only[binOp,Op.intBits,ne_eq,not_true_eq_false,if_false,fO])
 all_goals cases he
 all_goals exact Qm (by simp only[binOp,Op.intCmp,ne_eq,not_true_eq_false,if_false,fO,gt_iff_lt,ge_iff_le])
theorem ahy(P:b3)(w:World){op:BinOp}{a b:List ah}{c:Prop}{p:al}(he:GX op a b=some (c,p))(aH:c)(t:fT):
  ∃v,(binOp op t (.string ⟨a.toArray⟩) (.string ⟨b.toArray⟩)).run P w= .ok v w/\∀ν,aT w ν p v:=by
 cases op<;>simp only[GX]at he;case add=>
  cases he;refine⟨.string ⟨(a++b).toArray⟩,?_,fun ν=>by simp only[aT];exact⟨trivial,by simpa using aH⟩⟩;have I:¬(((⟨a.toArray⟩:kF).size+(⟨b.toArray⟩:kF).size:Nat):Int)>iw.max:=by
   have:iw.max=9223372036854775807:=by decide
   rw[this,Dx,Dx];simp only[bs]at aH;omega
  simp only[binOp,Op.stringOp,I,if_false,fO,WD]
 all_goals cases he
 all_goals exact Qm (by simp only[binOp,Op.stringOp,ahM,fO])
theorem WQ(P:b3)(w:World)(ν:aW){op:BinOp}{wr:Bool}{x y:al}{c:Prop}{p:al}(he:aw op wr x y=some (c,p))(aH:c)(t:fT){u v:Value}(hu:aT w ν x u)(aK:aT w ν y v)(o o':ix):
  ∃r,(do eqGuard op t o o' u v;binOp op t u v).run P w= .ok r w/\aT w ν p r:=by
 unfold aw at he;split at he
 ·rename_i k a bz b;simp only[aT]at hu aK;subst hu;subst aK;split at he
  ·cases he;refine⟨_,?_,by simp[aT];rfl⟩;simp[binOp,Op.shift,Iq,Int.not_lt.2 aH]
  ·cases he;refine⟨_,?_,by simp[aT];rfl⟩;simp[binOp,Op.shift,Iq,Int.not_lt.2 aH]
  ·split at he
   ·rename_i aa;subst aa;obtain⟨r,I,J⟩:=adD P w he aH t;exact⟨r,by simp[Iq,I],J ν⟩
   ·cases he
 ·simp only[aT]at hu aK;rw[hu.1,aK.1];obtain⟨r,I,J⟩:=ahy P w he aH t;exact⟨r,by simp[Yh,I],J ν⟩
 ·cases he
theorem IB{w:World}{ν:aW}:∀(v:List Value) (i off:Nat) (cs:Array Value),off+i+v.length<=cs.size->
  ((v.zipIdx i).foldl (fun cs (x:Value×Nat)=>cs.setIfInBounds (off+x.2) x.1) cs).toList=cs.toList.take (off+i)++v++cs.toList.drop (off+i+v.length)
 |[],i,off,cs,_=>by simp
 |u::v,i,off,cs,h=>by
  simp only[List.zipIdx_cons,List.foldl_cons];rw[IB (w:=w) (ν:=ν) v (i+1) off _ (by simp at h⊢;omega)];have bY:off+i<cs.toList.length:=by simp at h⊢;omega
  simp only[Array.toList_setIfInBounds];have aB:(cs.toList.set (off+i) u).take (off+(i+1))=cs.toList.take (off+i)++[u]:=by rw[show off+(i+1)=(off+i)+1 from by omega,List.take_succ_eq_append_getElem (by simpa using bY)];simp[List.take_set_of_le (c7 _)]
  have aU:(cs.toList.set (off+i) u).drop (off+(i+1)+v.length)=cs.toList.drop (off+i+(u::v).length):=by rw[List.drop_set_of_lt Ω];congr 1;simp;omega
  rw[aB,aU];simp
theorem UT{w:World}{ν:aW}{C:eI}{st:a6}{a:Act}(hr:cv C st a w ν){bu:List (Nat×dt)}{dG:List (Nat×Nat)}{places:List (Nat×Nat)}
  (bn:∀(i off t sz:Nat),dG[i]? =some (off,t)->(dJ bu t).map (·.size)=some sz->places[i]? =some (off,sz)):
  ∀(parts:List (Nat×Nat×cY)) (b2:List (Nat×ix)) (cs:List al) (us:Array Value) (c:Prop) (cs':List al),Ar bu dG parts b2=true->cK w ν cs us.toList->uz st.t cs parts=some (c,cs')->c->
  ∃bI:Array Value,Instr.fill (places.toArray[·]?) us (b2.map fun(x:Nat×ix)=>(x.1,a.eval x.2))=some bI/\cK w ν cs' bI.toList
 |[],[],cs,us,c,cs',_,h,he,aH=>by simp only[uz]at he;cases he;exact⟨us,by simp[Instr.fill],h⟩
 |[],_::_,_,_,_,_,dS,_,_,_=>by simp[Ar]at dS
 |_::_,[],_,_,_,_,dS,_,_,_=>by simp[Ar]at dS
 |(off,sz,x)::parts,(i,o)::b2,cs,us,c,cs',dS,h,he,aH=>by
  simp only[Ar,bF]at dS;obtain⟨⟨I,J⟩,aA⟩:=dS;split at I
  ·rename_i wL t B6;simp only[bF,dK]at I;obtain⟨rfl,I⟩:=I;have fx:=bn i off t sz B6 I;simp only[uz]at he;split at he
   ·rename_i iA ajW ao;cases he;obtain⟨⟨au,aG,hle⟩,nd⟩:=aH;have ad:=dY hr J;have l2:=vr ad au;have hlen:=pA l2;have q5:=pA h;have gh:(a.eval o).cells.size=sz:=by have:(a.eval o).cells.toList.length=(cells (bQ st.t x)).length:=hlen;rw[aG]at this;simpa using this
    have ki:us.size=cs.length:=by simpa using q5
    have lD:=IB (w:=w) (ν:=ν) (a.eval o).cells.toList 0 off us (by simp[gh,ki];omega);have kh:cK w ν (oV cs off (cells (bQ st.t x))) ((((a.eval o).cells.toList.zipIdx 0).foldl (fun cs (x:Value×Nat)=>cs.setIfInBounds (off+x.2) x.1) us).toList):=by rw[lD];unfold oV;refine yz (yz (Dp off h) l2) ?_;rw[Nat.add_zero,hlen];exact AD _ h
    obtain⟨bI,g1,g2⟩:=UT hr bn parts b2 _ _ iA cs' aA kh ao nd;refine⟨bI,?_,g2⟩;simp only[ek,Instr.fill,List.getElem?_toArray,fx];rw[bo (by simp[gh,ki];omega)];rw[<-g1];simp only[List.getElem?_toArray];congr 1;rw[<-Array.foldl_toList];simp
   ·cases he
  ·cases I
end
section
open Go Go.RowKit
theorem vA{P:b3}{bu:List (Nat×dt)}(aI:e7 P bu=true){t:Nat}{f:dt}(aY:dJ bu t=some f)(w:World):
  (Go.isAgg t).run P w= .ok f.kind.isAgg w/\(sizeOf t).run P w= .ok f.size w:=by
 obtain⟨i,d,z,I,J,aA,aS,bG,cq,dW,fZ⟩:=(uf aI aY).ex;refine⟨?_,by simp[sizeOf,typeInfo,I,aA]⟩;simp only[Go.isAgg,e4,run_underlying J,e8];cases aa:f.kind<;>rw[aa]at bG<;>cases d<;>simp[lv]at bG<;>simp[Bf.isAgg]
theorem hD{P:b3}{bu:List (Nat×dt)}(aI:e7 P bu=true){t:Nat}{f:dt}(aY:dJ bu t=some f):∃d,P.underlying t=some d/\lv f.kind d=true:=by obtain⟨i,d,z,I,J,aA,aS,bG,cq,dW,fZ⟩:=(uf aI aY).ex;exact⟨d,J,bG⟩
theorem qT{e:Nat}{d:TypeDesc}(h:lv (.slice e) d=true):d= .slice e:=by cases d<;>simp[lv]at h;subst h;rfl
theorem vT{d:TypeDesc}(h:lv .str d=true):d= .string:=by cases d<;>simp[lv]at h;rfl
theorem Bx{k:IntKind}{d:TypeDesc}(h:lv (.int k) d=true):d= .int k:=by cases d<;>simp[lv]at h;subst h;rfl
theorem Ic{dG:List (Nat×Nat)}{d:TypeDesc}(h:lv (.struct dG) d=true):∃gs:Array Field,d= .struct gs/\gs.toList.map (fun f=>(f.offset,f.type))=dG:=by cases d<;>simp[lv]at h;rename_i gs;exact⟨gs,rfl,by simpa using h⟩
theorem GG{w:World}{ν:aW}{cs:List al}{us:List Value}(h:cK w ν cs us)(off sz:Nat):cK w ν ((cs.drop off).take sz) ((us.drop off).take sz):=Dp sz (AD off h)
theorem Tt{w:World}{base el sz n:Nat}{v:Value}{us:List Value}(h:w.ownsRow base el sz v n us){b:Nat}(ao:v.ownBlock=some b):∃cap,v= .slice (some ⟨b,0,none⟩) n cap:=by
 rcases h.2 with⟨rfl,_⟩|⟨g,cap,cur,rfl,_⟩
 ·simp[nC]at ao
 ·simp[nC]at ao;subst ao;exact⟨cap,rfl⟩
theorem Good.rowElem{pr:Nat->Prop}{w:World}{ν:aW}{b:List (aO×List al)}{e:List (aO×dU)}(aR:Good pr w ν b e){k:aO}{n el sz:Nat}{xs:List al}(aa:look k e=some ⟨n,el,sz,some xs⟩){i f:Nat}{u:Value}(ad:aT w ν (.rptr sz k n i f) u){p:al}(bn:xs[i]? =some p):
  ∃(v:Value) (us:List Value) (eO:Nat),aT w ν p v/\v.cells.size=sz/\∃b o,u= .pointer (some ⟨b,o,none⟩)/\∀j c,v.cells.toList[f+j]? =some c->w.cell? ⟨b,o+j,none⟩=some c:=by
 simp only[aT]at ad;obtain⟨_,aE,n',fe,I,J,aA⟩:=ad;obtain⟨v,us,cz,db,eo,dC⟩:=aR.own k _ aa;rw[I]at cz;simp only[dH,gz]at cz;obtain⟨rfl,rfl⟩:=cz;obtain⟨bl,ao,rfl⟩:=aA rfl;obtain⟨cap,rfl⟩:=Tt db ao;obtain⟨aG,kh,_⟩:=dC xs rfl;simp only at aG kh;obtain⟨v,eU,e3,n1⟩:=GD i kh bn;refine⟨v,us,el,eU,e3,bl,_,rfl,fun j c aD=>?_⟩;have bY:f+j<sz:=by have:=(eV.1 aD).1;simp[e3]at this;exact this
 have hmul:i*sz+sz<=n'*sz:=by have:=Nat.mul_le_mul_right sz (show i+1<=n' from aE);rwa[Nat.succ_mul]at this
 have aH:=db.cellAt (i*sz+f+j) (by show _<n'*sz;omega);rw[aH];rw[n1,List.getElem?_take,bP bY,lT]at aD;rw[<-aD];congr 1;omega
theorem FT{P:b3}{bu:List (Nat×dt)}(aI:e7 P bu=true){pr:Nat->Prop}{w:World}{ν:aW}{b:List (aO×List al)}{e:List (aO×dU)}(aR:Good pr w ν b e){t:Nat}{f:dt}(aY:dJ bu t=some f)
  {x:al} {u:Value} (ad:aT w ν x u) {c:Prop} {p:al} (he:mH b e f.kind.isAgg f.size x=some (c,p)) (aH:c):∃v,(Instr.loadAt t u).run P w= .ok v w/\aT w ν p v:=by
 obtain⟨bM,au⟩:=vA aI aY w;generalize EU:f.kind.isAgg=eJ at*;generalize ef:f.size=sz at*;unfold mH at he;split at he
 ·rename_i dn k n i xG;unfold yE at he;split at he
  ·rename_i n' el ia xs aa;split at he
   ·rename_i aJ;obtain⟨rfl,rfl⟩:=aJ;split at he
    ·rename_i Tu ac1;obtain⟨Mt,us,eO,g1,g2,mB⟩:=Good.rowElem aR aa ad ac1;have JH:eG Tu=true:=by
      cases eJ
      ·simp only[kE,if_false,hc]at he;obtain⟨q,_,he⟩:=he;cases he;exact aH
      ·simp only[if_true]at he;cases he;exact aH.1
     have da:=vr g1 JH;cases eJ
     ·simp only[kE,if_false,hc]at he;obtain⟨q,bA,he⟩:=he;cases he;obtain⟨v,f1,f2,f3⟩:=Dn xG da bA;refine⟨v,?_,f2⟩;obtain⟨b,o,rfl,mB⟩:=mB;have:=mB 0 v (by simpa using f1);simp only[Nat.add_zero]at this;simp[Instr.loadAt,Instr.sureAddr,loadVar,bM,this]
     ·simp only[if_true]at he;cases he;obtain⟨b,o,rfl,mB⟩:=mB;refine⟨.agg ((Mt.cells.toList.drop xG).take sz).toArray,?_,by simp only[aT];exact⟨_,rfl,by simpa using GG da xG sz⟩⟩;have aG:=pA da;have hlen:((Mt.cells.toList.drop xG).take sz).length=sz:=by simp only[n7,hG];omega
      have hA:=run_loadCells_list (P:=P) w ⟨b,o,none⟩ ((Mt.cells.toList.drop xG).take sz) (fun j v aD=>by
       rw[oh];refine mB j v ?_;rw[List.getElem?_take]at aD;split at aD
       ·simpa[lT]using aD
       ·cases aD)
      rw[hlen]at hA;simp only[Instr.loadAt,Instr.sureAddr,loadVar,e4,fO,e8,bM,if_true,au,hA]
    ·cases he
   ·cases he
  ·cases he
 ·rename_i k off;simp only[aT]at ad;obtain⟨bl,I,rfl⟩:=ad;split at he
  ·rename_i cs aa;obtain⟨iy,us,el,g1,g2,g3,g4,g5⟩:=aR.box k cs aa;rw[I]at g1;cases g1;have fx:iH cs=true:=by
    cases eJ
    ·simp only[kE,if_false,hc]at he;obtain⟨q,bA,he⟩:=he;cases he;exact aH
    ·simp only[if_true]at he;cases he;exact aH.1
   rw[qn fx]at g4;rw[pw fx]at g5;have aG:=pA g5;cases eJ
   ·simp only[kE,if_false,hc]at he;obtain⟨q,bA,he⟩:=he;cases he;obtain⟨v,f1,f2,f3⟩:=Dn off g5 bA;refine⟨v,?_,f2⟩;have mB:w.cell? ⟨bl,off,none⟩=some v:=by simpa[World.cell?,g4]using f1
    simp[Instr.loadAt,Instr.sureAddr,loadVar,bM,mB]
   ·simp only[if_true]at he;cases he;replace aH:=aH.2;refine⟨_,?_,by simp only[aT];exact⟨_,rfl,by simpa using GG g5 off sz⟩⟩;simp only[Instr.loadAt,Instr.sureAddr,loadVar,e4,fO,e8,bM,if_true,au];rw[ag7 g4 (by simp at aG;omega)];rfl
  ·cases he
 ·rename_i q;simp only[aT]at ad;obtain⟨bl,off,fe,rfl,J,aA⟩:=ad;cases eJ
  ·simp only[kE,if_false]at he;cases he;obtain⟨jo,hj⟩:=aH;obtain⟨g1,g2⟩:=Lt J jo (fun cs e=>by subst e;have:=dZ List.length hj;simp only[cells,ga,mh]at this;cases cs with
    |nil=>simp[cells]at hj
    |cons y ys=>simp only[cells,w9]at hj;obtain⟨aB,aU⟩:=hj;subst aU;have:=dZ SizeOf.sizeOf aB;simp at this;omega)
   refine⟨fe,?_,J⟩;rw[g2]at aA;have mB:=aA.1.2;simp[Instr.loadAt,Instr.sureAddr,loadVar,bM,mB]
  ·simp only[if_true]at he;cases he;obtain⟨cs,rfl,hlen⟩:=aH;simp only[aT]at J;obtain⟨us,rfl,aS⟩:=J;refine⟨.agg us,?_,by simp only[aT];exact⟨us,rfl,aS⟩⟩;simp only[mf]at aA;have aG:=pA aS;have:=UW (P:=P) aA;rw[show us.toList.length=sz from by omega]at this;simp[Instr.loadAt,Instr.sureAddr,loadVar,bM,au,this]
 ·cases he
theorem aaj{P:b3}{bu:List (Nat×dt)}(aI:e7 P bu=true){w:World}{ν:aW}{s i:Nat}{f:dt}{dG:List (Nat×Nat)}(aY:dJ bu s=some f)(aa:f.kind= .struct dG){off t:Nat}{g:dt}(aE:dG[i]? =some (off,t))(aR:dJ bu t=some g)(bK:g.size≠0)
  {x:al} {u:Value} (ad:aT w ν x u) {c:Prop} {p:al} (he:ov off g.kind.isAgg g.size x=some (c,p)) (aH:c):∃v,(Instr.fieldAt s u i).run P w= .ok v w/\aT w ν p v:=by
 obtain⟨d,aP,e5⟩:=hD aI aY;rw[aa]at e5;obtain⟨gs,rfl,kr⟩:=Ic e5;have uT:∃fd:Field,gs[i]? =some fd/\fd.offset=off/\fd.type=t:=by rw[<-kr]at aE;simp only[pQ,hc]at aE;obtain⟨fd,I,J⟩:=aE;simp only[gz]at J;exact⟨fd,by simpa using I,J.1,J.2⟩
 obtain⟨fd,E0,az,k8⟩:=uT;obtain⟨bM,au⟩:=vA aI aR w;have hA:∀b o,(Instr.fieldAt s (.pointer (some ⟨b,o,none⟩)) i).run P w= .ok (.pointer (some ⟨b,o+off,none⟩)) w:=by intro b o;simp[Instr.fieldAt,run_underlying aP,E0,Instr.sureAddr,fieldPlace,k8,au,bK,oh,az]
 unfold ov at he;split at he
 ·cases he;simp only[aT]at ad;obtain⟨b,I,rfl⟩:=ad;exact⟨_,hA _ _,by simp only[aT];exact⟨b,I,rfl⟩⟩
 ·cases he;simp only[aT]at ad;obtain⟨⟨b,o,rfl⟩,aE,n',fe,I,J,aA⟩:=ad;refine⟨_,hA _ _,?_⟩;simp only[aT];refine⟨⟨b,_,rfl⟩,aE,n',fe,I,J,fun e=>?_⟩;obtain⟨fN,aB,aU⟩:=aA e;simp only[amQ,dH,Addr.mk.injEq,and_true]at aU;obtain⟨rfl,rfl⟩:=aU;exact⟨b,aB,by rw[Nat.add_assoc]⟩
 ·rename_i cs;simp only[aT]at ad;obtain⟨b,o,fe,rfl,⟨us,rfl,J⟩,aA⟩:=ad;refine⟨_,hA _ _,?_⟩;simp only[mf]at aA;split at he
  ·cases he;simp only[aT];exact⟨b,o+off,.agg ((us.toList.drop off).take g.size).toArray,rfl,⟨_,rfl,by simpa using GG J off g.size⟩,by simpa[mf]using FO g.size (FN off aA)⟩
  ·simp only[hc]at he;obtain⟨q,bA,he⟩:=he;cases he;obtain⟨v,f1,f2,f3⟩:=Dn off J bA;simp only[aT];have acK:=va aA f1;have adm:v.cells= #[v]:=by cases v<;>first|rfl|cases f3
   exact⟨b,o+off,v,rfl,f2,by rw[adm];exact⟨acK,trivial⟩⟩
 ·cases he
theorem aar{P:b3}{bu:List (Nat×dt)}(aI:e7 P bu=true){w:World}{ν:aW}{s i:Nat}{f:dt}{dG:List (Nat×Nat)}(aY:dJ bu s=some f)(aa:f.kind= .struct dG){off t:Nat}{g:dt}(aE:dG[i]? =some (off,t))(aR:dJ bu t=some g)
  {x:al} {u:Value} (ad:aT w ν x u) {c:Prop} {p:al} (he:rX off g.kind.isAgg g.size x=some (c,p)) (aH:c):∃v,(Instr.field s u i).run P w= .ok v w/\aT w ν p v:=by
 obtain⟨d,aP,e5⟩:=hD aI aY;rw[aa]at e5;obtain⟨gs,rfl,kr⟩:=Ic e5;have uT:∃fd:Field,gs[i]? =some fd/\fd.offset=off/\fd.type=t:=by rw[<-kr]at aE;simp only[pQ,hc]at aE;obtain⟨fd,I,J⟩:=aE;simp only[gz]at J;exact⟨fd,by simpa using I,J.1,J.2⟩
 obtain⟨fd,E0,az,k8⟩:=uT;obtain⟨bM,au⟩:=vA aI aR w;unfold rX at he;split at he
 ·rename_i cs;simp only[aT]at ad;obtain⟨us,rfl,J⟩:=ad;generalize EU:g.kind.isAgg=eJ at*;cases eJ
  ·simp only[kE,if_false,hc]at he;obtain⟨q,bA,he⟩:=he;cases he;obtain⟨v,f1,f2,f3⟩:=Dn off J bA;have Zf:us[off]? =some v:=by simpa using f1
   exact⟨v,by simp[Instr.field,run_underlying aP,E0,asAgg,part,k8,bM,az,Zf],f2⟩
  ·simp only[if_true]at he;cases he;refine⟨.agg (us.extract off (off+g.size)),by simp[Instr.field,run_underlying aP,E0,asAgg,part,k8,bM,az,au],?_⟩;simp only[aT];refine⟨_,rfl,?_⟩;have:=GG J off g.size;simpa[List.take_drop]using this
 ·cases he
theorem ady{P:b3}{bu:List (Nat×dt)}(aI:e7 P bu=true){w:World}{ν:aW}{t e:Nat}{f g:dt}(aY:dJ bu t=some f)(aa:f.kind= .slice e)(aR:dJ bu e=some g)
  {x y:al} {u v:Value} (ad:aT w ν x u) (bB:aT w ν y v) {c:Prop} {p:al} (he:zU g.size x y=some (c,p)) (aH:c):∃r,(Instr.indexAt t u v).run P w= .ok r w/\aT w ν p r:=by
 obtain⟨d,aP,e5⟩:=hD aI aY;rw[aa]at e5;obtain rfl:=qT e5;obtain⟨bM,au⟩:=vA aI aR w;unfold zU at he;split at he
 ·rename_i dn tag xs k i;split at he
  ·rename_i ef;cases he;simp only[aT]at ad bB;subst bB;subst ef;obtain⟨⟨a,cap,rfl,I,J,aA⟩,_⟩:=ad;obtain⟨Jh,nf⟩:=aH;have oF:i.toNat<xs.length:=Ω
   rcases aA with rfl|⟨b,off,us,rfl,aS,bG⟩
   ·simp at oF
   ·have ad:xs[i.toNat]? =some xs[i.toNat]:=cS oF;obtain⟨w',eU,e3,n1⟩:=GD i.toNat bG ad;refine⟨.pointer (some ⟨b,off+i.toNat*g.size,none⟩),?_,?_⟩
    ·simp only[Instr.indexAt,asIntOf,e4,fO,e8,run_underlying aP,Jh,nf,and_self,if_true,au,oh]
    ·simp only[aT];refine⟨b,off+i.toNat*g.size,w',rfl,by simpa[List.getD,ad]using eU,?_⟩;rw[n1];exact FO g.size (FN _ aS)
  ·cases he
 ·rename_i dn k n Sj i;split at he
  ·rename_i ef;cases he;simp only[aT]at ad bB;subst bB;subst ef;obtain⟨⟨b,cap,rfl⟩,J,n',fe,aA,aS,bG⟩:=ad;obtain⟨Jh,nf⟩:=aH;refine⟨.pointer (some ⟨b,0+i.toNat*g.size,none⟩),?_,?_⟩
   ·simp only[Instr.indexAt,asIntOf,e4,fO,e8,run_underlying aP,Jh,nf,and_self,if_true,au,oh]
   ·simp only[aT];refine⟨⟨b,_,rfl⟩,Ω,n',fe,aA,aS,fun e=>⟨b,?_,Ψ⟩⟩;rw[<-bG e];rfl
  ·cases he
 ·cases he
theorem Gg{C:eI}{st:a6}{a:Act}{w:World}{ν:aW}(h:cv C st a w ν){x:a1 cY}{o:a1 ix}(ad:wO x o=true){Ei n:Int}(he:rf Ei (x.map (bQ st.t))=some n):
  (o.map a.eval=none/\n=Ei)\/ ∃k,o.map a.eval=some (.int k n):=by
 cases x with
 |none=>cases o with
  |none=>simp[rf]at he;exact .inl ⟨rfl,he.symm⟩
  |some o=>simp[wO]at ad
 |some x=>cases o with
  |none=>simp[wO]at ad
  |some o=>
   simp only[wO]at ad
   have:=dY h ad
   simp only[oa]at he⊢
   cases xT:bQ st.t x<;>simp[xT,rf]at he
   rw[xT]at this
   simp only[aT]at this
   subst he
   exact .inr ⟨_,by rw[this]⟩
theorem Ns:∀{xs:List al} {s:List ah},pa xs=some s->s.length=xs.length
 |[],s,h=>by simp only[pa]at h;cases h;rfl
 |x::xs,s,h=>by
  cases x<;>try(simp[pa]at h;done)
  rename_i k n;cases k<;>simp only[pa,hc,reduceCtorEq]at h;obtain⟨aq,I,rfl⟩:=h;simp[Ns I]
def y3(n:Int):ah:=pS n.toNat
theorem Nt{w:World}{ν:aW}{sz:Nat}:∀{xs:List al} {s:List ah} {us:List Value},pa xs=some s->cR w ν sz xs us->∃ns:List Int,us=ns.map (mP .u8)/\s=ns.map y3/\us.length=xs.length
 |[],s,us,h,hr=>by simp only[pa]at h;cases h;simp only[cR]at hr;subst hr;exact⟨[],rfl,rfl,rfl⟩
 |x::xs,s,us,h,hr=>by
  cases x<;>try(simp[pa]at h;done)
  rename_i k n;cases k<;>simp only[pa,hc,reduceCtorEq]at h;obtain⟨aq,I,rfl⟩:=h;simp only[cR,aT]at hr;obtain⟨u,bI,rfl,⟨rfl,_⟩,hr⟩:=hr;obtain⟨ns,rfl,rfl,aG⟩:=Nt I hr;exact⟨n::ns,by simp[mf],rfl,by simp[mf]at aG⊢;exact aG⟩
theorem TG{P:b3}{w:World}{f:Value->kF->Sem (ForInStep kF)}(aY:∀n s,f (.int .u8 n) s=pure (.yield (s.push (y3 n)))):∀(ns:List Int) (s:kF),(forIn (ns.map (mP .u8)) s f).run P w= .ok ⟨(s.data.toList++ns.map y3).toArray⟩ w
 |[],s=>by simp
 |n::ns,s=>by simp only[ek,List.forIn_cons,e4,aY,fO,e8];rw[TG aY ns];simp[amK]
theorem WN{P:b3}{w:World}{A:Nat->Nat->Prop}{a:a1 Addr}{len cap:Nat}{ns:List Int}(aG:ns.length=len)(h:len=0\/ ∃b off,a=some ⟨b,off,none⟩/\kx w A b off (ns.map (mP .u8))):
  (Conv.bytesToString (.slice a len cap)).run P w= .ok (.string ⟨(ns.map y3).toArray⟩) w:=by
 have acM:∀lX,a=some lX->(loadCells lX len).run P w= .ok (ns.map (mP .u8)).toArray w:=fun lX e=>by
  rcases h with h|⟨b,off,aB,J⟩
  ·subst h;have:ns=[]:=by cases ns<;>simp_all
   subst this;exact run_loadCells_list w lX [] fun j v aD=>by simp at aD
  ·rw[aB]at e;cases e;have:=UW (P:=P) J;simpa[aG]using this
 unfold Conv.bytesToString;cases a with
 |none=>
  have:ns=[]:=by
   rcases h with h|⟨b,off,aB,J⟩
   ·subst h;cases ns<;>simp_all
   ·cases aB
  subst this;simp;rfl
 |some lX=>simp only[e4,acM lX rfl,e8,Array.forIn_toList,List.forIn_toArray];rw[TG (fun n s=>rfl) ns amJ];simp
theorem MC{c d:al}(h:DS c d=true):c=d:=by unfold DS at h;split at h<;>simp_all
theorem Wd:∀{cs dV:List al},AT cs dV=true->cs=dV
 |[],[],_=>rfl
 |[],_::_,h=>by simp[AT]at h
 |_::_,[],h=>by simp[AT]at h
 |c::cs,d::dV,h=>by simp only[AT,bF]at h;rw[MC h.1,Wd h.2]
theorem aiI{w:World}{ν:aW}{c d:al}{v:Value}(h:MB c d=true)(aP:aT w ν d v):aT w ν c v:=by
 unfold MB at h;split at h
 ·simp only[dK]at h;subst h;simp only[aT]at aP⊢;exact⟨aP.1,fun e=>(by cases e),fun _ e=>(by cases e),fun _ _ e=>(by cases e),fun _ e=>(by cases e)⟩
 ·rw[MC h];exact aP
theorem Wc{w:World}{ν:aW}:∀{cs dV:List al} {us:List Value},yS cs dV=true->cK w ν dV us->cK w ν cs us
 |[],[],_,_,h=>h
 |[],_::_,_,h,_=>by simp[yS]at h
 |_::_,[],_,h,_=>by simp[yS]at h
 |c::cs,d::dV,us,h,hr=>by simp only[yS,bF]at h;simp only[cK]at hr⊢;obtain⟨u,bI,aB,⟨aU,b1⟩,dN⟩:=hr;exact⟨u,bI,aB,⟨aiI h.1 aU,b1⟩,Wc h.2 dN⟩
theorem aiL{cs:List al}{z:al}(h:MG cs z=true):∃dV,z= .agg dV/\yS cs dV=true:=by
 cases z<;>simp only[MG]at h;case agg dV=>exact⟨dV,rfl,h⟩
 all_goals cases h
theorem aa3(s:List ah)(n:Nat)(h:n<s.length):(⟨s.toArray⟩:kF)[n]? =some (s.getD n 0):=by
 have ef:n<(⟨s.toArray⟩:kF).size:=by rw[Dx];exact h
 have e:(⟨s.toArray⟩:kF)[n]? =some ((⟨s.toArray⟩:kF)[n]'ef):=getElem?_pos (⟨s.toArray⟩:kF) n ef;rw[e];congr 1;simp[List.getD,h];rfl
theorem GU(P:b3)(w:World)(k:IntKind)(i:Int)(y:Nat)(c:BoundsCode)(bK:0<=i)(I:i<=y):(Instr.sliceBound (.int k i) y c).run P w= .ok i.toNat w:=by simp[Instr.sliceBound,asIntOf,bK,I]
theorem Nj(P:b3)(w:World)(adN:Bool)(len cap:Nat)(lo aE:a1 Value)(l h:Int)(Jn:(lo=none/\l=0)\/ ∃k,lo=some (.int k l))(acq:(aE=none/\h=len)\/ ∃k,aE=some (.int k h))
  (bK:0<=l) (I:l<=h) (J:h<=len) (aH:len<=cap):(Instr.sliceBounds adN len cap lo aE none).run P w= .ok (l.toNat,h.toNat,cap) w:=by
 rcases Jn with⟨rfl,rfl⟩|⟨k,rfl⟩<;>rcases acq with⟨rfl,rfl⟩|⟨bz,rfl⟩
 ·simp[Instr.sliceBounds]
 ·simp[Instr.sliceBounds,GU P w bz h cap _ Ω Ω]
 ·simp[Instr.sliceBounds,GU P w k l len _ Ω Ω]
 ·simp[Instr.sliceBounds,GU P w bz h cap _ Ω Ω,GU P w k l h.toNat _ Ω Ω]
theorem TA{P:b3}{bu:List (Nat×dt)}(aI:e7 P bu=true):∀(gs:List Field),(gs.all fun f=>(dJ bu f.type).isSome)=true->
  ∃places:List (Nat×Nat),gs.mapM (fun f=>(P.info? f.type).map fun i=>(f.offset,i.size))=some places/\
   ∀(i off t sz:Nat),(gs.map (fun f=>(f.offset,f.type)))[i]? =some (off,t)->(dJ bu t).map (·.size)=some sz->places[i]? =some (off,sz)
 |[],_=>⟨[],Ψ,Ψ⟩
 |f::gs,h=>by
  simp only[List.all_cons,bF]at h;obtain⟨places,I,J⟩:=TA aI gs h.2;obtain⟨g,aR⟩:=fG.1 h.1;obtain⟨i,d,z,aB,aU,b1,dN,hJ,hx,mw,ou⟩:=(uf aI aR).ex;refine⟨(f.offset,g.size)::places,by simp[List.mapM_cons,aB,b1,I],fun j off t sz aD ef=>?_⟩;cases j with
  |zero=>simp only[ek,List.getElem?_cons_zero,dH,gz]at aD⊢;obtain⟨rfl,rfl⟩:=aD;rw[aR]at ef;simpa using ef
  |succ j=>simp only[ek,List.getElem?_cons_succ]at aD⊢;exact J j off t sz aD ef
theorem kl{P:b3}{w:World}{x:Sem Value}{v:Value}(h:x.run P w= .ok v w):(do pure (Next.value (<-x)):Sem Next).run P w= .ok (.value v) w:=by simp[h]
theorem MF{p q:al}(h:AV p q=true):p=q:=by
 unfold AV at h;split at h
 ·rw[Wd h]
 ·cases h
 ·exact MC h
theorem ME(w:World)(ν:aW){p:al}{v:Value}(h:yT p v=true):aT w ν p v/\cK w ν (cells p) v.cells.toList:=by
 by_cases bM:∃cs,p= .agg cs
 ·obtain⟨cs,rfl⟩:=bM;cases v<;>simp only[yT]at h;case agg us=>have:=MD w ν _ _ h;exact⟨by simp only[aT];exact⟨us,rfl,this⟩,by simpa[cells,mf]using this⟩
  all_goals cases h
 ·have cx:y4 p v=true/\v.oneCell'=true:=by cases p<;>simp only[yT,bF]at h<;>first|exact h|exact absurd ⟨_,rfl⟩ bM
  have hr:=HD w ν cx.1;refine⟨hr,?_⟩;have aH:cells p=[p]:=by cases p<;>first|rfl|exact absurd ⟨_,rfl⟩ bM
  have aK:v.cells= #[v]:=by have:=cx.2;cases v<;>first|rfl|simp[Value.oneCell']at this
  rw[aH,aK];simp only[cK];exact⟨v,[],rfl,⟨hr,cx.2⟩,rfl⟩
theorem LX{P:b3}{bu:List (Nat×dt)}(aI:e7 P bu=true){t:Nat}{f:dt}(aY:dJ bu t=some f)(w:World):∃z,(zeroValue t).run P w= .ok z w/\yT f.zero z=true/\z.cells.size=f.size:=by obtain⟨i,d,z,I,J,aA,aS,bG,cq,dW,fZ⟩:=(uf aI aY).ex;exact⟨z,by simp[zeroValue,typeInfo,I,cq],dW,fZ⟩
theorem yB{C:eI}{st:a6}{a:Act}{w:World}{ν:aW}(h:cv C st a w ν):∀{xs:List cY} {os:List ix},vj xs os=true->cw w ν (xs.map (bQ st.t)) (os.map a.eval)
 |[],[],_=>by simp[cw]
 |[],_::_,aa=>by simp[vj]at aa
 |_::_,[],aa=>by simp[vj]at aa
 |x::xs,o::os,aa=>by simp only[vj,bF]at aa;simp only[ek,cw];exact⟨_,_,rfl,dY h aa.1,yB h aa.2⟩
theorem Yi{P:b3}{w:World}{t:fT}(aP:P.underlying t=some .bool)(d:Nat)(a b:Bool):(Op.equalIn (d+1) t (.bool a) (.bool b)).run P w= .ok (a==b) w:=by rw[Op.equalIn];simp only[e4,run_underlying aP,e8,fO]
theorem Yj{P:b3}{w:World}{t:fT}{ms:Array (String×fT)}(aP:P.underlying t=some (.interface ms))(d:Nat):(∀u x,(Op.equalIn (d+1) t (.iface u x) .nilIface).run P w= .ok false w)/\(Op.equalIn (d+1) t .nilIface .nilIface).run P w= .ok true w:=by
 constructor
 ·intro u x;simp[Op.equalIn,run_underlying aP]
 ·simp[Op.equalIn,run_underlying aP]
theorem Es{P:b3}{w:World}{t:fT}{ms:Array (String×fT)}(aP:P.underlying t=some (.interface ms)):(∀u x,(Op.equal t (.iface u x) .nilIface).run P w= .ok false w)/\(Op.equal t .nilIface .nilIface).run P w= .ok true w:=Yj aP 9999
theorem Yk{P:b3}{w:World}{t:fT}(aP:P.underlying t=some .bool)(a b:Bool):(Op.equal t (.bool a) (.bool b)).run P w= .ok (a==b) w:=Yi aP _ a b
theorem Pk:∀{borns:List Nat} {kvs:List al} {us:List Value},kvs.length=2*borns.length->us.length=kvs.length->(ft borns us).length=borns.length
 |[],_,us,_,_=>by simp[ft]
 |fN::ev,kvs,[],I,J=>by rw[I]at J;simp at J
 |fN::ev,kvs,[_],I,J=>by rw[I]at J;simp at J;omega
 |fN::ev,kvs,k::v::us,I,J=>by simp only[ft,ga];rw[Pk (kvs:=kvs.drop 2) (us:=us) (borns:=ev) (by simp at I⊢;omega) (by simp at I J⊢;omega)]
theorem UN{w:World}{ν:aW}:∀{b2:List al} {vs:List Value},cw w ν b2 vs->vs.length=b2.length
 |[],vs,h=>by simp only[cw]at h;subst h;rfl
 |p::b2,vs,h=>by simp only[cw]at h;obtain⟨u,bI,rfl,_,J⟩:=h;simp[UN J]
theorem vw{P:b3}{w:World}{r:Nat}{o:Obj}(ao:w.heap[r]? =some o)(aJ:∀c e f,o≠ .cells c e f:=by simp):(getObj r).run P w= .ok o w:=by simp only[getObj,Sem.run,ao]
def qF(P:b3):Nat->List Bool->List Field->Prop
 |_,[],[]=>True
 |n,b::r,f::gs=>(f.offset=n/\f.name≠ "_" /\(if b=true then P.underlying f.type=some .string else∃k,P.underlying f.type=some (.int k)))/\qF P (n+1) r gs
 |_,_,_=>dD
theorem Da{P:b3}{t:fT}{b:Bool}(h:if b=true then P.underlying t=some .string else∃k,P.underlying t=some (.int k)):P.plainKey t=true:=by
 cases b
 ·obtain⟨k,h⟩:=(by simpa using h:∃k,P.underlying t=some (.int k));simp[Program.plainKey,h]
 ·have h:P.underlying t=some .string:=by simpa using h
  simp[Program.plainKey,h]
theorem Xb{P:b3}{w:World}{ν:aW}(d:Nat){X Y:Array Value}(dG:List Bool):∀(gs:List Field) (n:Nat) (asQ ev:List al) (us vs:List Value) (q:Bool),qF P n dG gs->X.toList.drop n=us->Y.toList.drop n=vs->cK w ν asQ us->cK w ν ev vs->kK dG asQ ev=some q->
  (Op.eqFields (d+1) X Y gs).run P w= .ok q w/\(q=true->us=vs)/\∀m,(us.zip us).all (fun(x,y)=>Instr.sameBits m x y)=true:=by
 induction dG with
 |nil=>intro gs n asQ ev us vs q aR nb BY I J h;cases asQ<;>cases ev<;>simp only[kK,dH,reduceCtorEq]at h;cases gs<;>simp only[qF]at aR;simp only[cK]at I J;rw[I,J,<-h];exact⟨by simp[Op.eqFields],fun _=>rfl,fun m=>rfl⟩
 |cons xF r bp=>
  intro gs n asQ ev us vs q aR nb BY I J h;cases gs with
  |nil=>simp only[qF]at aR
  |cons f gs=>
  simp only[qF]at aR;obtain⟨⟨Fm,iD,k8⟩,aR⟩:=aR;cases asQ with
  |nil=>cases xF<;>cases ev<;>simp[kK]at h
  |cons C8 asQ=>
  cases ev with
  |nil=>cases xF<;>cases C8<;>simp[kK]at h
  |cons Gi ev=>
  cases xF with
  |false=>
   have aH:∃k a b iQ,C8= .int k a/\Gi= .int k b/\kK r asQ ev=some iQ/\q=((a==b)&&iQ):=by
    cases C8<;>first|(simp[kK]at h;done)|skip
    cases Gi<;>first|(simp[kK]at h;done)|skip
    simp only[kK]at h;split at h
    ·rename_i aa;subst aa;simp only[hc]at h;obtain⟨iQ,aA,aS⟩:=h;exact⟨_,_,_,iQ,rfl,rfl,aA,aS.symm⟩
    ·cases h
   obtain⟨k,a,b,iQ,rfl,rfl,aA,rfl⟩:=aH;simp only[cK,aT]at I J;obtain⟨u,bI,rfl,⟨rfl,_⟩,I⟩:=I;obtain⟨v,vs',rfl,⟨rfl,_⟩,J⟩:=J;have C7:X[n]? =some (.int k a):=by rw[<-Array.getElem?_toList,<-List.head?_drop,nb];rfl
   have KQ:Y[n]? =some (.int k b):=by rw[<-Array.getElem?_toList,<-List.head?_drop,BY];rfl
   obtain⟨i1,i2,i3⟩:=bp gs (n+1) asQ ev bI vs' iQ aR (by rw[<-List.tail_drop,nb];rfl) (by rw[<-List.tail_drop,BY];rfl) I J aA;obtain⟨Sj,JN⟩:=(by simpa using k8:∃k,P.underlying f.type=some (.int k));refine⟨?_,?_,fun m=>?_⟩
   ·simp only[Op.eqFields,iD,ne_eq,not_false_eq_true,if_true,e4,Fm,run_part_plain w (Da k8) C7,run_part_plain w (Da k8) KQ,e8,run_equalIn_int w d f.type k Sj a b JN];cases tC:(a==b)
    ·simp
    ·simpa using i1
   ·intro bA;simp only[bF,dK]at bA;rw[bA.1,i2 bA.2]
   ·have:=i3 m;simp only[List.zip_cons_cons,List.all_cons,this,Bool.and_true];cases m<;>simp[Instr.sameBits]
  |true=>
   have aH:∃a b iQ,C8= .str a/\Gi= .str b/\kK r asQ ev=some iQ/\q=((a==b)&&iQ):=by
    cases C8<;>first|(simp[kK]at h;done)|skip
    cases Gi<;>first|(simp[kK]at h;done)|skip
    simp only[kK,hc]at h;obtain⟨iQ,aA,aS⟩:=h;exact⟨_,_,iQ,rfl,rfl,aA,aS.symm⟩
   obtain⟨a,b,iQ,rfl,rfl,aA,rfl⟩:=aH;simp only[cK,aT]at I J;obtain⟨u,bI,rfl,⟨⟨rfl,_⟩,_⟩,I⟩:=I;obtain⟨v,vs',rfl,⟨⟨rfl,_⟩,_⟩,J⟩:=J;have C7:X[n]? =some (.string ⟨a.toArray⟩):=by rw[<-Array.getElem?_toList,<-List.head?_drop,nb];rfl
   have KQ:Y[n]? =some (.string ⟨b.toArray⟩):=by rw[<-Array.getElem?_toList,<-List.head?_drop,BY];rfl
   obtain⟨i1,i2,i3⟩:=bp gs (n+1) asQ ev bI vs' iQ aR (by rw[<-List.tail_drop,nb];rfl) (by rw[<-List.tail_drop,BY];rfl) I J aA;have JN:P.underlying f.type=some .string:=by simpa using k8
   refine⟨?_,?_,fun m=>?_⟩
   ·simp only[Op.eqFields,iD,ne_eq,not_false_eq_true,if_true,e4,Fm,run_part_plain w (Da k8) C7,run_part_plain w (Da k8) KQ,e8,run_equalIn_string w d f.type _ _ JN];have e:((⟨a.toArray⟩:kF).toList==(⟨b.toArray⟩:kF).toList)=(a==b):=by rw[aiN,aiN]
    rw[e];cases tC:(a==b)
    ·simp
    ·simpa using i1
   ·intro bA;simp only[bF,dK]at bA;rw[bA.1,i2 bA.2]
   ·have:=i3 m;simp only[List.zip_cons_cons,List.all_cons,this,Bool.and_true];cases m<;>simp only[Instr.sameBits]<;>exact(MapKept.bytes_beq _ _).2 rfl
theorem PT{P:b3}{bu:List (Nat×dt)}(aI:e7 P bu=true):∀(dG:List Bool) (gs:List Field) (n:Nat),zt bu n dG (gs.map fun f=>(f.offset,f.type))=true->(gs.all (fun f=>match P.underlying f.type with|some (.int _)=>true|some .string=>true|_=>false)=true)/\((∀f∈gs,f.name≠ "_")->qF P n dG gs)
 |[],[],_,_=>⟨rfl,fun _=>trivial⟩
 |[],_::_,_,h=>by simp[zt]at h
 |_::_,[],_,h=>by simp[zt]at h
 |b::r,f::gs,n,h=>by
  simp only[ek,zt,bF,dK]at h;obtain⟨⟨I,J⟩,aA⟩:=h;obtain⟨i1,i2⟩:=PT aI r gs (n+1) aA;split at J
  ·rename_i aY;obtain⟨d,hu,aP⟩:=hD aI aY;obtain rfl:=Bx aP;refine⟨by simp only[List.all_cons,hu,i1,Bool.and_self],fun aJ=>⟨⟨I,aJ f Ψ,?_⟩,i2 fun g aR=>aJ g (by simp[aR])⟩⟩;have:b=false:=by simpa using J
   subst this;simpa using⟨_,hu⟩
  ·rename_i aY;obtain⟨d,hu,aP⟩:=hD aI aY;obtain rfl:=vT aP;refine⟨by simp only[List.all_cons,hu,i1,Bool.and_self],fun aJ=>⟨⟨I,aJ f Ψ,?_⟩,i2 fun g aR=>aJ g (by simp[aR])⟩⟩;subst J;simpa using hu
  ·cases J
theorem PW{P:b3}{bu:List (Nat×dt)}(aI:e7 P bu=true){dG:List Bool}{t:Nat}(h:EC bu dG t=true):∃gs,P.underlying t=some (.struct gs)/\qF P 0 dG gs.toList/\P.stoodInHeld t=false/\P.eqGuardType P.depth t=false:=by
 unfold EC at h;split at h
 ·rename_i aY;obtain⟨d,hu,aP⟩:=hD aI aY;have aH:=(uf aI aY).cmp d hu;cases d<;>simp[lv]at aP;rename_i gs;subst aP;obtain⟨i1,i2⟩:=PT aI dG gs.toList 0 h;have nM:PV P gs=true:=i1;simp only[H7,nM,Bool.not_true,Bool.false_or,OV,bF,Bool.not_eq_true',hq,bne_iff_ne,ne_eq]at aH;exact⟨gs,hu,i2 aH.1.1,aH.1.2,aH.2⟩
 ·cases h
theorem Pm{P:b3}{w:World}{ν:aW}{t:fT}{gs:Array Field}{dG:List Bool}(hu:P.underlying t=some (.struct gs))(aR:qF P 0 dG gs.toList)(eA:P.stoodInHeld t=false){asQ ev:List al}{X Y:Array Value}(I:cK w ν asQ X.toList)(J:cK w ν ev Y.toList){q:Bool}(h:kK dG asQ ev=some q):
  (Op.equalIn 10000 t (.agg X) (.agg Y)).run P w= .ok q w/\(q=true->X=Y)/\∀m,(X.toList.zip X.toList).all (fun(x,y)=>Instr.sameBits m x y)=true:=by
 have aY:P.fieldsOf t=gs:=by simp[Program.fieldsOf,hu]
 obtain⟨i1,i2,i3⟩:=Xb 9998 dG gs.toList 0 asQ ev _ _ q aR rfl rfl I J h;refine⟨?_,fun e=>?_,?_⟩
 ·rw[run_equalIn_struct w 9999 t X Y (by rw[aY];exact hu) eA,aY];exact i1
 ·have:=i2 e;simpa using this
 ·simpa using i3
inductive uq (P:b3):j5->fT->Prop
 |i {t:fT} {k:IntKind}:P.underlying t=some (.int k)->uq P .i t
 |s {t:fT}:P.underlying t=some .string->uq P .s t
 |a {t:fT} {dG:List Bool} {gs:Array Field}:P.underlying t=some (.struct gs)->qF P 0 dG gs.toList->P.stoodInHeld t=false->uq P (.a dG) t
theorem J6{P:b3}{bu:List (Nat×dt)}(aI:e7 P bu=true){b7:j5}{t:Nat}(h:yj bu b7 t=true):uq P b7 t:=by
 cases b7 with
 |i=>
  simp only[yj]at h;split at h
  ·rename_i aY;obtain⟨d,hu,aP⟩:=hD aI aY;obtain rfl:=Bx aP;exact .i hu
  ·cases h
 |s=>
  simp only[yj]at h;split at h
  ·rename_i aY;obtain⟨d,hu,aP⟩:=hD aI aY;obtain rfl:=vT aP;exact .s hu
  ·cases h
 |a dG=>obtain⟨gs,I,J,aA,_⟩:=PW aI h;exact .a I J aA
def tb(P:b3)(w:World)(b7:j5)(t:fT)(fj u:Value)(b:Bool):Prop:=match b7 with
 | .a _=>(Op.equal t fj u).run P w= .ok b w
 |_=> ∀d,P.underlying t=some d->Instr.sameNow d fj u=some b
def ib(P:b3)(w:World)(b7:j5)(t:fT)(fj:Value)(es:List MapEntry)(i:Nat)(r:a1 (Nat×Value)):Prop:=match b7 with
 | .a _=>(Instr.findAsking t fj es i).run P w= .ok r w
 |_=> ∀d,P.underlying t=some d->Instr.findNow d fj es i=some r
theorem ib.nil(P:b3)(w:World)(b7:j5)(t:fT)(fj:Value)(i:Nat):ib P w b7 t fj [] i none:=by cases b7<;>simp[ib,Instr.findAsking,Instr.findNow]
theorem ib.hit{P:b3}{w:World}{b7:j5}{t:fT}{fj:Value}{e:MapEntry}{es:List MapEntry}{i:Nat}(h:tb P w b7 t fj e.key true):ib P w b7 t fj (e::es) i (some (i,e.val)):=by
 cases b7 with
 |a dG=>simp only[tb]at h;simp[ib,Instr.findAsking,h]
 |i=>simp only[tb]at h;simp only[ib];intro d aP;simp[Instr.findNow,h d aP]
 |s=>simp only[tb]at h;simp only[ib];intro d aP;simp[Instr.findNow,h d aP]
theorem ib.miss{P:b3}{w:World}{b7:j5}{t:fT}{fj:Value}{e:MapEntry}{es:List MapEntry}{i:Nat}{r:a1 (Nat×Value)}(h:tb P w b7 t fj e.key false)(hr:ib P w b7 t fj es (i+1) r):ib P w b7 t fj (e::es) i r:=by
 cases b7 with
 |a dG=>simp only[tb]at h;simp only[ib]at hr;simp[ib,Instr.findAsking,h,hr]
 |i=>simp only[tb]at h;simp only[ib]at hr⊢;intro d aP;simp[Instr.findNow,h d aP,hr d aP]
 |s=>simp only[tb]at h;simp only[ib]at hr⊢;intro d aP;simp[Instr.findNow,h d aP,hr d aP]
theorem ib.run{P:b3}{w:World}{b7:j5}{t:fT}(aP:uq P b7 t){fj:Value}{es:List MapEntry}{r:a1 (Nat×Value)}(h:ib P w b7 t fj es 0 r):(Instr.findKey t fj es).run P w= .ok r w:=by
 cases aP with
 |i hu=>simp only[ib]at h;simp[Instr.findKey,run_underlying hu,h _ hu]
 |s hu=>simp only[ib]at h;simp[Instr.findKey,run_underlying hu,h _ hu]
 |a hu aR eA=>
  simp only[ib]at h;cases es with
  |nil=>simp[Instr.findAsking]at h;simp[Instr.findKey,run_underlying hu,Instr.findNow,h]
  |cons e es=>
   rename_i gs;have:Instr.sameNow (.struct gs) fj e.key=none:=by cases fj<;>rfl
   simp only[Instr.findKey,e4,run_underlying hu,e8,Instr.findNow,this];exact h
theorem Sa{P:b3}{w:World}{ν:aW}{b7:j5}{t:fT}(aP:uq P b7 t){k bz:al}{fj u:Value}(aa:aT w ν k fj)(I:aT w ν bz u){hT:Bool}(ao:u3 b7 k bz=some hT):
  tb P w b7 t fj u hT/\(hT=true->u=fj/\Instr.sameBits 10000 u fj=true):=by
 unfold u3 at ao;split at ao
 ·split at ao
  ·rename_i iY;subst iY;simp only[aT]at aa I;subst aa;subst I;cases aP with
   |i hu=>refine⟨fun d aP=>by rw[hu]at aP;cases aP;simpa[Instr.sameNow]using ao,fun e=>?_⟩;subst e;simp only[dH,dK]at ao;subst ao;exact⟨rfl,by simp[Instr.sameBits]⟩
  ·cases ao
 ·rename_i a b;simp only[aT]at aa I;obtain⟨rfl,_⟩:=aa;obtain⟨rfl,_⟩:=I;cases aP with
  |s hu=>
   refine⟨fun d aP=>?_,fun e=>?_⟩
   ·rw[hu]at aP;cases aP;simp only[Instr.sameNow];rw[<-ao];congr 1;rw[Bool.eq_iff_iff,MapKept.bytes_beq];simp
   ·subst e;simp only[dH,dK]at ao;subst ao;exact⟨rfl,by simp only[Instr.sameBits];exact(MapKept.bytes_beq _ _).2 rfl⟩
 ·simp only[aT]at aa I;obtain⟨X,rfl,aa⟩:=aa;obtain⟨Y,rfl,I⟩:=I;cases aP with
  |a hu aR eA=>obtain⟨i1,i2,i3⟩:=Pm hu aR eA aa I ao;refine⟨by simpa[tb,Op.equal,Op.maxDepth]using i1,fun e=>?_⟩;have:=i2 e;subst this;exact⟨rfl,by simp[Instr.sameBits,i3]⟩
 ·cases ao
theorem Km{P:b3}{w:World}{ν:aW}{b7:j5}{t:fT}(aP:uq P b7 t){k:al}{fj:Value}(aa:aT w ν k fj):∀(borns:List Nat) (kvs:List al) (us:List Value) (i:Nat) (r:a1 al),cw w ν kvs us->kvs.length=2*borns.length->tQ b7 k kvs=some r->
  match r with
  |none=>ib P w b7 t fj (ft borns us) i none
  |some v=> ∃j u,ib P w b7 t fj (ft borns us) i (some (j,u))/\aT w ν v u
 |[],[],us,i,r,h,_,hm=>by simp only[tQ]at hm;cases hm;simp only[cw]at h;subst h;simpa[ft]using ib.nil P w b7 t fj i
 |[],_::_,_,_,_,_,aG,_=>by simp at aG
 |b::ev,[],_,_,_,_,aG,_=>by simp at aG
 |b::ev,[_],_,_,_,_,aG,_=>by simp at aG;omega
 |b::ev,bz::v::kvs,us,i,r,h,aG,hm=>by
  simp only[cw]at h;obtain⟨ik,AQ,rfl,I,hF,pH,rfl,J,aA⟩:=h;simp only[tQ]at hm;simp only[ft];cases bA:u3 b7 k bz with
  |none=>simp[bA]at hm
  |some hT=>
   obtain⟨s1,_⟩:=Sa aP aa I bA;simp only[bA]at hm;cases hT with
   |true=>simp only[dH]at hm;subst hm;exact⟨i,hF,ib.hit (e:=⟨ik,hF,b⟩) s1,J⟩
   |false=>
    simp only at hm;have bp:=Km aP aa ev kvs pH (i+1) r aA (by simp at aG;omega) hm;cases r with
    |none=>exact ib.miss (e:=⟨ik,hF,b⟩) s1 bp
    |some v'=>obtain⟨j,u,g1,g2⟩:=bp;exact⟨j,u,ib.miss (e:=⟨ik,hF,b⟩) s1 g1,g2⟩
theorem H2{P:b3}{w:World}{t:Nat}{d:TypeDesc}(hu:P.underlying t=some d)(aP:(∃k,d= .int k)\/d= .string)(e:Bool)(n:Nat)(v:Value):(Instr.checkKey e (n+1) t v).run P w= .ok () w:=by unfold Instr.checkKey;rcases aP with⟨k,rfl⟩|rfl<;>simp[run_underlying hu]
theorem aaq{P:b3}{w:World}{ν:aW}{X:Array Value}(dG:List Bool):∀(gs:List Field) (n:Nat) (asQ:List al),qF P n dG gs->cK w ν asQ (X.toList.drop n)->(kK dG asQ asQ).isSome=true->
  ∀f∈gs,(∃v,(part f.type X f.offset).run P w= .ok v w)/\∃d,P.underlying f.type=some d/\((∃k,d= .int k)\/d= .string):=by
 induction dG with
 |nil=>intro gs n asQ aR _ _ f aY;cases gs<;>simp only[qF]at aR;cases aY
 |cons xF r bp=>
  intro gs n asQ aR hr aH f aY;cases gs with
  |nil=>cases aY
  |cons g gs=>
  simp only[qF]at aR;obtain⟨⟨Fm,iD,k8⟩,aR⟩:=aR;cases asQ with
  |nil=>cases xF<;>simp[kK]at aH
  |cons p asQ=>
  have nd:(kK r asQ asQ).isSome=true:=by cases xF<;>cases p<;>simp[kK]at aH⊢ <;>exact aH
  simp only[cK]at hr;obtain⟨u,bI,e,_,dA⟩:=hr;have aU:X.toList.drop (n+1)=bI:=by rw[<-List.tail_drop,e];rfl
  have C7:X[n]? =some u:=by rw[<-Array.getElem?_toList,<-List.head?_drop,e];rfl
  rcases gb.1 aY with rfl|aY
  ·refine⟨⟨u,by rw[Fm];exact run_part_plain w (Da k8) C7⟩,?_⟩;cases xF
   ·obtain⟨k,h⟩:=(by simpa using k8:∃k,P.underlying f.type=some (.int k));exact⟨_,h,.inl ⟨k,rfl⟩⟩
   ·exact⟨_,by simpa using k8,.inr rfl⟩
  ·exact bp gs (n+1) asQ aR (by rw[aU];exact dA) nd f aY
theorem P1{P:b3}{w:World}{α:Type}(body:α->PUnit->Sem (ForInStep PUnit)):∀(l:List α),(∀f∈l,(body f ⟨⟩).run P w= .ok (.yield ⟨⟩) w)->(forIn l PUnit.unit body).run P w= .ok PUnit.unit w
 |[],_=>by simp
 |f::l,h=>by simp only[List.forIn_cons,e4,h f Ψ,e8];exact P1 body l fun g aR=>h g (by simp[aR])
theorem Lx{P:b3}{w:World}{ν:aW}{b7:j5}{t:Nat}(aP:uq P b7 t)(e:Bool){k:al}{v:Value}(aa:aT w ν k v)(aE:yi b7 k=true):(Instr.checkKey e 10000 t v).run P w= .ok () w:=by
 cases aP with
 |i hu=>exact H2 hu (.inl ⟨_,rfl⟩) e 9999 v
 |s hu=>exact H2 hu (.inr rfl) e 9999 v
 |a hu aR eA=>
  rename_i dG gs;cases k<;>simp only[yi,kE]at aE;rename_i asQ;simp only[aT]at aa;obtain⟨X,rfl,aa⟩:=aa;unfold Instr.checkKey;simp only[e4,run_underlying hu,e8];rw[<-Array.forIn_toList];rw[P1]
  ·simp
  ·intro f aY;obtain⟨⟨v,I⟩,d,J,aA⟩:=aaq dG gs.toList 0 asQ aR (by simpa using aa) aE f aY;have aS:=H2 (w:=w) J aA e 9998 v;by_cases aJ:f.name= "_"
   ·simp[aJ]
   ·simp[aJ,I,aS]
theorem Sz{w:World}{ν:aW}{n:Nat}:∀(borns:List Nat) (kvs:List al) (us:List Value) (p:al),cw w ν kvs us->oM n borns kvs=some p->∃e,(ft borns us).find? (·.born==n)=some e/\aT w ν p (.tuple #[e.key,e.val])
 |[],_,_,_,_,hm=>by simp[oM]at hm
 |_::_,[],_,_,_,hm=>by simp[oM]at hm
 |_::_,[_],_,_,_,hm=>by simp[oM]at hm
 |b::ev,k::v::kvs,us,p,h,hm=>by
  simp only[cw]at h;obtain⟨ik,AQ,rfl,I,hF,pH,rfl,J,aA⟩:=h;simp only[oM]at hm;simp only[ft];by_cases e:b=n
  ·rw[bP e]at hm;cases hm;refine⟨⟨ik,hF,b⟩,by simp[List.find?,e],?_⟩;simp only[aT];exact⟨#[ik,hF],rfl,by simp only[cw];exact⟨_,_,rfl,I,_,_,rfl,J,rfl⟩⟩
  ·rw[bo e]at hm;obtain⟨x,g1,g2⟩:=Sz ev kvs pH p aA hm;have abH:(b==n)=false:=by simpa using e
   exact⟨x,by simp[List.find?,abH,g1],g2⟩
theorem VA{P:b3}{bu:List (Nat×dt)}(aI:e7 P bu=true){C:eI}{st:a6}{a:Act}{w:World}{ν:aW}(hr:cv C st a w ν){i:fP}(abG:∀b7 z ok x k,i≠ .mgetB b7 z ok x k){o:Oper}(az:DJ bu i o.op=true)
  {c:Prop} {p:al} (he:gH st i=some (c,p)) (aH:c):∃v,(execOp a.eval o).run P w= .ok (.value v) w/\aT w ν p v:=by
 obtain⟨dst,op,type,pos,after,guard⟩:=o;simp only at az;unfold DJ at az;split at az
 ·rename_i x o;simp only[gH]at he;cases he;exact⟨_,rfl,dY hr az⟩
 ·rename_i x o;simp only[gH]at he;cases he;exact⟨_,rfl,dY hr az⟩
 ·rename_i iA x y ajz Hd Wa;simp only[bF]at az;have I:=dY hr az.1.1;have J:=dY hr az.1.2;have aA:=dY hr az.2;simp only[gH,Gj]at he;split at he
  ·rename_i b ao;rw[ao]at I;simp only[aT]at I;split at he
   ·rename_i u v hu aK;cases he;rw[hu]at J;rw[aK]at aA;simp only[aT]at J aA;refine⟨.bool (cond b u v),?_,by simp[aT]⟩;simp only[execOp,I,J,aA,asBool,e4,fO,e8];cases b<;>rfl
   ·split at he
    ·cases he;exact⟨_,by simp only[execOp,I,asBool,e4,fO,e8,if_true],J⟩
    ·cases he;exact⟨_,by simp only[execOp,I,asBool,e4,fO,e8,kE,if_false],aA⟩
  ·cases he
 ·rename_i agg sz x t o;simp only[bF]at az;obtain⟨I,J⟩:=az;split at I
  ·rename_i f aY;simp only[bF,dK]at I;obtain⟨rfl,rfl⟩:=I;obtain⟨v,g1,g2⟩:=FT aI hr.good aY (dY hr J) (by simpa only[gH]using he) aH;exact⟨v,kl g1,g2⟩
  ·cases I
 ·rename_i off agg sz x s o i;simp only[bF]at az;obtain⟨I,J⟩:=az;split at I
  ·rename_i f aY;split at I
   ·rename_i wL t B6;simp only[bF,dK]at I;obtain⟨rfl,I⟩:=I;split at I
    ·rename_i g aR;simp only[bF,dK,bne_iff_ne,ne_eq]at I;obtain⟨⟨rfl,rfl⟩,bK⟩:=I;obtain⟨v,g1,g2⟩:=aaj aI aY rfl B6 aR bK (dY hr J) (by simpa only[gH]using he) aH;exact⟨v,kl g1,g2⟩
    ·cases I
   ·cases I
  ·cases I
 ·rename_i off agg sz x s o i;simp only[bF]at az;obtain⟨I,J⟩:=az;split at I
  ·rename_i f aY;split at I
   ·rename_i wL t B6;simp only[bF,dK]at I;obtain⟨rfl,I⟩:=I;split at I
    ·rename_i g aR;simp only[bF,dK]at I;obtain⟨rfl,rfl⟩:=I;obtain⟨v,g1,g2⟩:=aar aI aY rfl B6 aR (dY hr J) (by simpa only[gH]using he) aH;exact⟨v,kl g1,g2⟩
    ·cases I
   ·cases I
  ·cases I
 ·rename_i sz x i t o j;simp only[bF]at az;obtain⟨⟨I,J⟩,aA⟩:=az;split at I
  ·rename_i e aY;split at I
   ·rename_i g aR;simp only[dK]at I;subst I;obtain⟨v,g1,g2⟩:=ady aI aY rfl aR (dY hr J) (dY hr aA) (by simpa only[gH]using he) aH;exact⟨v,kl g1,g2⟩
   ·cases I
  ·cases I
 ·rename_i x i t o j;simp only[bF]at az;obtain⟨⟨I,J⟩,aA⟩:=az;split at I
  ·rename_i aY;obtain⟨d,aP,e5⟩:=hD aI aY;obtain rfl:=vT e5;have aB:=dY hr J;have aU:=dY hr aA;simp only[gH,GQ]at he;split at he
   ·rename_i s k n au aJ;cases he;rw[au]at aB;rw[aJ]at aU;simp only[aT]at aB aU;obtain⟨B0,jo⟩:=aH;have bY:n.toNat<s.length:=Ω
    have QZ:(⟨s.toArray⟩:kF)[n.toNat]? =some (s.getD n.toNat 0):=by exact aa3 s n.toNat bY
    refine⟨_,kl (v:= .int .u8 (s.getD n.toNat 0).toNat) ?_,by simp[aT]⟩;simp only[Instr.index,aU,asIntOf,aB.1,e4,fO,e8,run_underlying aP,B0,if_true,QZ]
   ·cases he
  ·cases I
 ·rename_i x lo aE t o l h;simp only[bF]at az;obtain⟨⟨⟨I,J⟩,aA⟩,aS⟩:=az;split at I
  ·rename_i aY;obtain⟨d,aP,e5⟩:=hD aI aY;obtain rfl:=vT e5;have aB:=dY hr J;simp only[gH,GV]at he;split at he
   ·rename_i s au;rw[au]at aB;simp only[aT]at aB;split at he
    ·rename_i qi bX aG Jg;cases he;obtain⟨c8,c2,c3⟩:=aH;have cE:=Gg hr aA aG;have dj:=Gg hr aS Jg;refine⟨_,kl (v:= .string ⟨((s.take bX.toNat).drop qi.toNat).toArray⟩) ?_,?_⟩
     ·have ao:=Nj P w false s.length s.length (l.map a.eval) (h.map a.eval) qi bX
       cE dj c8 c2 c3 (c7 _)
      simp only[Instr.sliceAt,Instr.slice,aB.1,e4,fO,e8,run_underlying aP,Option.map_none,um,kE,if_false,Dx,ao,Ze]
     ·simp only[aT];refine⟨trivial,?_⟩;have:=aB.2;simp only[hG,n7];omega
    ·cases he
   ·cases he
  ·cases I
 ·rename_i sz x lo aE t o l h;simp only[bF]at az;obtain⟨⟨⟨I,J⟩,aA⟩,aS⟩:=az;split at I
  ·rename_i e aY;split at I
   ·rename_i g aR;simp only[dK]at I;subst I;obtain⟨d,aP,e5⟩:=hD aI aY;obtain rfl:=qT e5;obtain⟨_,ef⟩:=vA aI aR w;have aB:=dY hr J;simp only[gH,FU]at he;split at he
    ·rename_i dn tag xs au;split at he
     ·rename_i eQ;subst eQ;rw[au]at aB;simp only[aT]at aB;obtain⟨⟨lX,cap,aK,ck,cr,fo⟩,_⟩:=aB;split at he
      ·rename_i qi bX aG Jg;cases he;obtain⟨c8,c2,c3⟩:=aH;have cE:=Gg hr aA aG;have dj:=Gg hr aS Jg;have ao:=Nj P w true xs.length cap (l.map a.eval) (h.map a.eval) qi bX
        cE dj c8 c2 c3 ck
       refine⟨_,kl (v:= .slice (if cap=qi.toNat then lX else lX.map (·.add (qi.toNat*g.size))) (bX.toNat-qi.toNat) (cap-qi.toNat)) ?_,?_⟩
       ·simp only[Instr.sliceAt,Instr.slice,aK,e4,fO,e8,run_underlying aP,Option.map_none,ao,ef]
       ·simp only[aT];have hlen:((xs.take bX.toNat).drop qi.toNat).length=bX.toNat-qi.toNat:=by simp;omega
        refine⟨⟨_,_,by rw[hlen],by rw[hlen];omega,⟨Ω,by rw[hlen];omega⟩,?_⟩,(fun h=>by cases h),(fun g h=>by cases h),(fun _ _ h=>by cases h),(fun _ h=>by cases h)⟩;rcases fo with rfl|⟨b,off,us,rfl,g1,g2⟩
        ·left;simp
        ·by_cases r7:cap=qi.toNat
         ·left;apply n5;rw[hlen];omega
         ·right;rw[bo r7];refine⟨b,off+qi.toNat*g.size,(us.take (bX.toNat*g.size)).drop (qi.toNat*g.size),by simp[oh],FN _ (FO _ g1),UD _ (UH _ g2)⟩
      ·cases he
     ·cases he
    ·cases he
   ·cases I
  ·cases I
 ·rename_i op wr x y Ts ty o o' Vs;simp only[bF,ea]at az;obtain⟨⟨rfl,I⟩,J⟩:=az;obtain⟨r,g1,g2⟩:=WQ P w ν (by simpa only[gH]using he) aH ty (dY hr I) (dY hr J) o o';exact⟨r,kl g1,g2⟩
 ·rename_i x op ty o;simp only[bF,ea]at az;obtain⟨rfl,I⟩:=az;have aB:=dY hr I;simp only[gH]at he;unfold F7 at he;split at he
  ·rename_i b ao;cases he;rw[ao]at aB;simp only[aT]at aB;exact⟨_,kl (v:= .bool (!b)) (by simp[Op.unary,aB]),by simp[aT]⟩
  ·cases he
 ·rename_i x op ty o;simp only[bF,ea]at az;obtain⟨rfl,I⟩:=az;have aB:=dY hr I;simp only[gH]at he;unfold F3 at he;split at he
  ·rename_i k n ao;cases he;rw[ao]at aB;simp only[aT]at aB;exact⟨_,kl (v:= .int k (k.wrap (0-n))) (by simp[Op.unary,aB,Op.intArith]),by simp[aT]⟩
  ·cases he
 ·rename_i k x s d o;simp only[bF]at az;obtain⟨I,J⟩:=az;split at I
  ·rename_i cE dj Ja q1;simp only[ea]at I;subst I;obtain⟨d1,jS,I4⟩:=hD aI Ja;obtain rfl:=Bx I4;obtain⟨d2,ie,I5⟩:=hD aI q1;obtain rfl:=Bx I5;have aB:=dY hr J;simp only[gH]at he;unfold Ee at he;split at he
   ·rename_i bz n ao;cases he;rw[ao]at aB;simp only[aT]at aB;exact⟨_,kl (v:= .int k (k.wrap n)) (by simp[convert,aB,run_underlying jS,run_underlying ie,Conv.intToInt]),by simp[aT]⟩
   ·cases he
  ·cases I
 ·rename_i i x o j;simp only[bF,dK]at az;obtain⟨rfl,I⟩:=az;have aB:=dY hr I;simp only[gH]at he;unfold Ev at he;split at he
  ·rename_i vs ao;simp only[hc]at he;obtain⟨q,bA,he⟩:=he;cases he;rw[ao]at aB;simp only[aT]at aB;obtain⟨us,hu,J⟩:=aB;obtain⟨v,g1,g2⟩:=GI i J bA;have aaA:us[i]? =some v:=by simpa using g1
   exact⟨v,kl (by simp[Instr.extract,hu,aaA]),g2⟩
  ·cases he
 ·rename_i x o t;simp only[bF]at az;obtain⟨I,J⟩:=az;have aB:=dY hr J;simp only[gH]at he;unfold z6 at he;split at he
  ·rename_i sz tag xs ao;cases he;rw[ao]at aB;simp only[aT]at aB;obtain⟨⟨lX,cap,aK,_⟩,_⟩:=aB;refine⟨.int .i64 xs.length,?_,by simp[aT]⟩;split at I
   ·rename_i aY;obtain⟨d,aP,e5⟩:=hD aI aY;obtain rfl:=qT e5;simp[execOp,resolve,invoke,builtin,Builtin.len_,run_underlying aP,aK,goInt]
   ·cases I
  ·rename_i sz k n ao;cases he;rw[ao]at aB;simp only[aT]at aB;obtain⟨⟨lX,cap,aK⟩,_⟩:=aB;refine⟨.int .i64 n,?_,by simp[aT]⟩;split at I
   ·rename_i aY;obtain⟨d,aP,e5⟩:=hD aI aY;obtain rfl:=qT e5;simp[execOp,resolve,invoke,builtin,Builtin.len_,run_underlying aP,aK,goInt]
   ·cases I
  ·rename_i lX n cap ao;cases he;rw[ao]at aB;simp only[aT]at aB;refine⟨.int .i64 n,?_,by simp[aT]⟩;split at I
   ·rename_i aY;obtain⟨d,aP,e5⟩:=hD aI aY;obtain rfl:=qT e5;simp[execOp,resolve,invoke,builtin,Builtin.len_,run_underlying aP,aB,goInt]
   ·cases I
  ·cases he
 ·rename_i x o t;simp only[bF]at az;obtain⟨I,J⟩:=az;have aB:=dY hr J;simp only[gH]at he;unfold Dy at he;split at he
  ·rename_i s ao;cases he;rw[ao]at aB;simp only[aT]at aB;refine⟨.int .i64 s.length,?_,by simp[aT]⟩;split at I
   ·rename_i aY;obtain⟨d,aP,e5⟩:=hD aI aY;obtain rfl:=vT e5;simp[execOp,resolve,invoke,builtin,Builtin.len_,run_underlying aP,aB.1,goInt,Dx]
   ·cases I
  ·rename_i s ao;cases he;rw[ao]at aB;simp only[aT]at aB;refine⟨.int .i64 s.size,?_,by simp[aT]⟩;split at I
   ·rename_i aY;obtain⟨d,aP,e5⟩:=hD aI aY;obtain rfl:=vT e5;simp[execOp,resolve,invoke,builtin,Builtin.len_,run_underlying aP,aB,goInt]
   ·cases I
  ·cases he
 ·rename_i zero parts t b2;split at az
  ·rename_i dG z aY;simp only[bF]at az;obtain⟨⟨I,J⟩,aA⟩:=az;obtain⟨cd,cp,adx⟩:=aiL I;obtain⟨i,d,aiH,aB,aU,b1,dN,hJ,hx,mw,ou⟩:=(uf aI aY).ex;obtain⟨gs,rfl,kr⟩:=Ic hJ;simp only at cp mw ou;subst cp;have j9:(gs.toList.all fun f=>(dJ bu f.type).isSome)=true:=by rw[<-kr]at J;simpa[List.all_map,Function.comp_def]using J
   obtain⟨places,jW,gv⟩:=TA aI gs.toList j9;rw[kr]at gv;cases aiH<;>simp only[yT]at mw;case agg us=>
    simp only[gH]at he;cases ao:uz st.t zero parts with
    |none=>simp[ao]at he
    |some x=>obtain⟨iA,cs'⟩:=x;simp only[ao,oa]at he;cases he;obtain⟨bI,g1,g2⟩:=UT hr gv parts b2.toList zero us c cs' aA (Wc adx (MD w ν _ _ mw)) ao aH;refine⟨.agg bI,kl (run_build w t _ bI ?_),by simp only[aT];exact⟨bI,rfl,g2⟩⟩;simp only[Program.built,aB,aU,hx,jW,mf];simpa using g1
   all_goals cases mw
  ·cases az
 ·rename_i x o;have aB:=dY hr az;simp only[gH]at he;unfold Ac at he;split at he
  ·rename_i k off ao;cases he;rw[ao]at aB;have aU:=aB;simp only[aT]at aB;obtain⟨b,_,aK⟩:=aB;exact⟨a.eval o,by simp[execOp,aK],aU⟩
  ·rename_i q ao;cases he;rw[ao]at aB;have aU:=aB;simp only[aT]at aB;obtain⟨b,off,u,aK,_⟩:=aB;exact⟨a.eval o,by simp[execOp,aK],aU⟩
  ·rename_i f cs ao;cases he;rw[ao]at aB;have aU:=aB;simp only[aT]at aB;obtain⟨us,aK,_⟩:=aB;have tK:a.eval o= .func (.func f) #[] us\/a.eval o= .func (.func (vD f)) us #[]:=by rw[aK];unfold tw;split;exact .inl rfl;exact .inr rfl
   exact⟨a.eval o,by rcases tK with tK|tK<;>simp[execOp,tK],aU⟩
  ·cases he
 ·rename_i x y o o' t eH;simp only[bF]at az;have aB:=dY hr az.1;have aU:=dY hr az.2;simp only[gH]at he;unfold FY at he;split at he
  ·rename_i k m bz n hm aJ;split at he
   ·rename_i aa;subst aa;cases he;rw[hm]at aB;rw[aJ]at aU;simp only[aT]at aB aU;exact⟨.int k (if n<m then n else m),by simp[execOp,resolve,invoke,builtin,Builtin.min_,Builtin.min2,aB,aU],by simp[aT]⟩
   ·cases he
  ·cases he
 ·rename_i n xs m os;simp only[bF,ea]at az;obtain⟨⟨rfl,aJ⟩,az⟩:=az;simp only[gH]at he;cases he;have jD:=yB hr az;refine⟨.func (.func n) #[] (os.map a.eval),by simp[execOp,Instr.makeFunc],?_⟩;simp only[aT];exact⟨os.map a.eval,by simp[tw,aJ],by simpa using jD⟩
 ·rename_i n xs m ev _;simp only[bF,ea]at az;obtain⟨rfl,az⟩:=az;simp only[gH]at he;cases he;have jD:=yB hr az;refine⟨.func (.func m) (ev.map a.eval) #[],by simp[execOp,Instr.makeFunc],?_⟩;simp only[aT];exact⟨ev.map a.eval,(aas m _).symm,by simpa using jD⟩
 ·rename_i b7 zero ok x k t o o' F8;simp only[bF,dK]at az;obtain⟨⟨⟨rfl,I⟩,J⟩,aA⟩:=az;have aB:=dY hr J;have aU:=dY hr aA;split at I
  ·rename_i sz kY ec pc z aY;simp only[bF]at I;obtain⟨acA,I9⟩:=I;split at I9
   ·rename_i akf E1;have cp:=MF I9;obtain⟨gd,hu,e5⟩:=hD aI aY;have fI:gd= .map ec pc:=by cases gd<;>simp[lv]at e5;obtain⟨rfl,rfl⟩:=e5;rfl
    subst fI;obtain⟨a8,DR,z2,_⟩:=LX aI E1 w;rw[<-cp]at z2;have af:=(ME w ν z2).1;have l1:=J6 aI acA;simp only[gH]at he;unfold oN at he;split at he
    ·rename_i key ad;rw[ad]at aB;simp only[aT]at aB;obtain⟨bl,ck,cr⟩:=aB;split at he
     ·rename_i clock borns kvs iC;obtain⟨iy,us,el,g1,g2,g3,g4,g5⟩:=hr.good.box key _ iC;rw[ck]at g1;cases g1;simp only[iP]at g4;simp only[h9]at g5;have kq:(getObj bl).run P w= .ok (.map (ft borns us.toList).toArray clock) w:=vw g4;split at he
      ·cases he
      rename_i kO;have pf:=Lx (P:=P) (w:=w) l1 ((ft borns us.toList).toArray.isEmpty) aU (by simpa using kO);split at he
      ·rename_i v hm;cases he;obtain⟨j,u,f1,f2⟩:=Km l1 aU borns kvs us.toList 0 _ g5.1 g5.2.len hm;refine⟨if ok then .tuple #[u,.bool true]else u,?_,?_⟩
       ·simp only[execOp];refine kl ?_;simp only[Instr.lookup,e4,run_underlying hu,e8,cr,kq,fO,pf,f1.run l1]
       ·cases ok
        ·simpa using f2
        ·simp only[if_true,aT];exact⟨_,rfl,by simp only[cw];exact⟨_,_,rfl,f2,_,_,rfl,by simp[aT],rfl⟩⟩
      ·rename_i hm;cases he;have f1:=Km l1 aU borns kvs us.toList 0 _ g5.1 g5.2.len hm;simp only at f1;refine⟨if ok then .tuple #[a8,.bool false]else a8,?_,?_⟩
       ·simp only[execOp];refine kl ?_;simp only[Instr.lookup,e4,run_underlying hu,e8,cr,kq,fO,pf,f1.run l1,DR]
       ·cases ok
        ·simpa using af
        ·simp only[if_true,aT];exact⟨_,rfl,by simp only[cw];exact⟨_,_,rfl,af,_,_,rfl,by simp[aT],rfl⟩⟩
      ·cases he
     ·cases he
    ·cases he
   ·cases I9
  ·cases I
 ·rename_i x o;have aB:=dY hr az;simp only[gH]at he;unfold tP at he;split at he
  ·rename_i hl ad;rw[ad]at aB;simp only[aT]at aB;obtain⟨bl,ck,cr⟩:=aB;split at he
   ·rename_i since seen last mk iC;obtain⟨iy,us,el,g1,g2,g3,g4,g5⟩:=hr.good.box hl _ iC;rw[ck]at g1;cases g1;simp only[iP]at g4;simp only[h9,cw,aT]at g5;obtain⟨u,bI,ki,⟨qj,m1,rfl⟩,rfl⟩:=g5;rw[ki]at g4;simp only at g4;split at he
    ·rename_i clock borns kvs acL;obtain⟨ajx,pH,ajZ,cE,dj,gD,jV,q8⟩:=hr.good.box mk _ acL;rw[m1]at cE;cases cE;simp only[iP]at jV;simp only[h9]at q8;split at he
     ·rename_i n aJ;simp only[hc]at he;obtain⟨q,bA,he⟩:=he;cases he;obtain⟨e,f1,f2⟩:=Sz borns kvs pH.toList p q8.1 bA;refine⟨.tuple #[e.key,e.val],?_,f2⟩;simp only[execOp];refine kl ?_;have acn:(getObj bl).run P w= .ok (.mapIter (some qj) since seen.toArray last) w:=vw g4;have aco:(getObj qj).run P w= .ok (.map (ft borns pH.toList).toArray clock) w:=vw jV;have IT:seen.toArray.back? =some n:=by simpa using aJ
      have tD:(clock !=last)=false:=by simp[aH]
      have ace:(ft borns pH.toList).toArray.find? (·.born==n)=some e:=by simpa using f1
      simp only[Instr.entry,cr,e4,acn,e8,IT,aco,tD,kE,if_false,ace,fO]
     ·cases he
    ·cases he
   ·cases he
  ·cases he
 ·rename_i x o t;simp only[bF]at az;obtain⟨I,J⟩:=az;have aB:=dY hr J;simp only[gH]at he;unfold ve at he;split at he
  ·rename_i key ao;rw[ao]at aB;simp only[aT]at aB;obtain⟨bl,ck,cr⟩:=aB;split at he
   ·rename_i clock borns kvs iC;cases he;obtain⟨iy,us,el,g1,g2,g3,g4,g5⟩:=hr.good.box key _ iC;rw[ck]at g1;cases g1;simp only[iP]at g4;simp only[h9]at g5;have kq:(getObj bl).run P w= .ok (.map (ft borns us.toList).toArray clock) w:=vw g4;have hlen:(ft borns us.toList).length=borns.length:=Pk g5.2.len (UN g5.1);refine⟨.int .i64 borns.length,?_,by simp[aT]⟩;split at I
    ·rename_i aY;obtain⟨d,aP,e5⟩:=hD aI aY;obtain⟨ec,pc,rfl⟩:∃ec pc,d= .map ec pc:=by cases d<;>simp[lv]at e5;exact⟨_,_,rfl⟩
     simp[execOp,resolve,invoke,builtin,Builtin.len_,run_underlying aP,cr,goInt,kq,hlen]
    ·cases I
   ·cases he
  ·cases he
 ·rename_i neg dG x y op t o o' Vs;simp only[bF,ea]at az;obtain⟨⟨⟨rfl,bK⟩,I⟩,J⟩:=az;have aB:=dY hr I;have aU:=dY hr J;simp only[gH]at he;unfold D1 at he;split at he
  ·rename_i c1 fN bM ao;simp only at bK;cases he;rw[bM]at aB;rw[ao]at aU;simp only[aT]at aB aU;split at bK
   ·rename_i aY;obtain⟨d,aP,e5⟩:=hD aI aY;obtain rfl:d= .bool:=by cases d<;>simp[lv]at e5;rfl
    refine⟨.bool (if neg then c1 !=fN else c1==fN),kl ?_,by simp[aT]⟩;cases neg<;>simp[aB,aU,eqGuard,binOp,Yk aP,bne]
   ·cases bK
  ·rename_i ako asQ ev bM ao;simp only at bK;simp only[hc]at he;obtain⟨q,bA,he⟩:=he;cases he;rw[bM]at aB;rw[ao]at aU;simp only[aT]at aB aU;obtain⟨X,Yc,agj⟩:=aB;obtain⟨Y,Yd,agk⟩:=aU;obtain⟨gs,hu,aR,eA,iL⟩:=PW aI bK;obtain⟨i1,_,_⟩:=Pm hu aR eA agj agk bA;refine⟨.bool (if neg then !q else q),kl ?_,by simp[aT]⟩;rw[Yc,Yd];cases neg
   ·simp only[kE,if_false,e4,run_eqGuard_agg w _ t o o' X Y iL,e8,run_eql_struct,i1]
   ·simp only[if_true,e4,run_eqGuard_agg w _ t o o' X Y iL,e8,run_neq_struct,i1]
  ·cases he
 ·rename_i x y o o' t eH;simp only[bF]at az;have aB:=dY hr az.1;have aU:=dY hr az.2;simp only[gH]at he;unfold FW at he;split at he
  ·rename_i k m bz n hm aJ;split at he
   ·rename_i aa;subst aa;cases he;rw[hm]at aB;rw[aJ]at aU;simp only[aT]at aB aU;exact⟨.int k (if m<n then n else m),by simp[execOp,resolve,invoke,builtin,Builtin.max_,Builtin.max2,aB,aU],by simp[aT]⟩
   ·cases he
  ·cases he
 ·rename_i t x eH o;simp only[bF,dK]at az;obtain⟨⟨rfl,I⟩,J⟩:=az;have aB:=dY hr J;simp only[gH]at he;cases he;split at I
  ·rename_i aY;obtain⟨d,aP,e5⟩:=hD aI aY;obtain rfl:=qT e5;refine⟨.iface t (a.eval o),kl (by simp[Instr.makeInterface,run_underlying aP]),?_⟩;simp only[aT];exact⟨_,rfl,aB⟩
  ·cases I
 ·rename_i agg sz x t o;simp only[bF]at az;obtain⟨I,J⟩:=az;split at I
  ·rename_i f aY;simp only[bF,dK]at I;obtain⟨rfl,rfl⟩:=I;obtain⟨v,g1,g2⟩:=FT aI hr.good aY (dY hr J) (aei (by simpa only[gH]using he)) aH;exact⟨v,kl g1,g2⟩
  ·cases I
 ·rename_i x s d o;simp only[bF]at az;obtain⟨I,J⟩:=az;split at I
  ·rename_i e _ _ Ja q1;split at I
   ·rename_i acd;obtain⟨d1,jS,I4⟩:=hD aI Ja;obtain rfl:=qT I4;obtain⟨d2,ie,I5⟩:=hD aI q1;obtain rfl:=vT I5;obtain⟨d3,abV,ab4⟩:=hD aI acd;obtain rfl:=Bx ab4;have aB:=dY hr J;simp only[gH]at he;unfold DZ at he;split at he
    ·rename_i sz tag xs ao;simp only[hc]at he;obtain⟨ev,uO,he⟩:=he;cases he;rw[ao]at aB;simp only[aT]at aB;obtain⟨⟨lX,cap,cz,db,eo,dC⟩,_⟩:=aB;have aG:=Ns uO;have ad:∃ns:List Int,ns.length=xs.length/\ev=ns.map y3/\(xs.length=0\/ ∃b off,lX=some ⟨b,off,none⟩/\kx w ν.A b off (ns.map (mP .u8))):=by
      rcases dC with rfl|⟨b,off,us,jW,gv,C6⟩
      ·simp only[pa,dH]at uO;exact⟨[],rfl,by rw[<-uO];rfl,.inl rfl⟩
      ·obtain⟨ns,eU,e3,n1⟩:=Nt uO C6;subst eU;exact⟨ns,by simpa using n1,e3,.inr ⟨b,off,jW,gv⟩⟩
     obtain⟨ns,hn,rfl,jb⟩:=ad;refine⟨_,kl (v:= .string ⟨(ns.map y3).toArray⟩) ?_,by simp only[aT];exact⟨trivial,by rw[aG];exact eo.2⟩⟩;rw[cz];simp only[convert,e4,run_underlying jS,run_underlying ie,e8];simp only[run_underlying abV,e4,e8,WN hn jb]
    ·cases he
   ·cases I
  ·cases I
 ·rename_i neg x op t o Vs;simp only[bF,ea]at az;obtain⟨⟨rfl,bK⟩,I⟩:=az;have aB:=dY hr I;split at bK
  ·rename_i aY;obtain⟨d,aP,e5⟩:=hD aI aY;obtain⟨ms,rfl⟩:∃ms,d= .interface ms:=by cases d<;>simp[lv]at e5;exact⟨_,rfl⟩
   simp only[gH]at he;unfold FC at he;split at he
   ·rename_i mN q bA;cases he;rw[bA]at aB;simp only[aT]at aB;obtain⟨u,aB,_⟩:=aB;refine⟨.bool neg,kl ?_,by simp[aT]⟩;rw[show a.eval (.const .nilIface)= .nilIface from rfl,aB];cases neg<;>simp[eqGuard,binOp,(Es (w:=w) aP).1,(Es (w:=w) aP).2]
   ·rename_i bA;cases he;rw[bA]at aB;simp only[aT]at aB;refine⟨.bool (!neg),kl ?_,by simp[aT]⟩;rw[show a.eval (.const .nilIface)= .nilIface from rfl,aB];cases neg<;>simp[eqGuard,binOp,(Es (w:=w) aP).1,(Es (w:=w) aP).2]
   ·cases he
  ·cases bK
 ·rename_i agg sz x t o;simp only[bF]at az;obtain⟨I,J⟩:=az;split at I
  ·rename_i f aY;simp only[bF,dK]at I;obtain⟨rfl,rfl⟩:=I;obtain⟨v,g1,g2⟩:=FT aI hr.good aY (dY hr J) (aay (by simpa only[gH]using he)) aH;exact⟨v,kl g1,g2⟩
  ·cases I
 ·exact absurd rfl (abG _ _ _ _ _)
 ·cases az
theorem ahV{P:b3}{bu:List (Nat×dt)}(aI:e7 P bu=true){C:eI}{st:a6}{a:Act}{w:World}{ν:aW}(hr:cv C st a w ν){i:fP}{o:Oper}(az:DJ bu i o.op=true)
  {c:Prop} {p:al} (he:gH st i=some (c,p)) (aH:c):∃v,(execOp a.eval o).run P w= .ok (.value v) w/\aT w ν p v:=by
 by_cases ao:∃b7 z ok x k,i= .mgetB b7 z ok x k
 ·obtain⟨b7,z,ok,x,k,rfl⟩:=ao;refine VA aI hr (i:= .mget b7 z ok x k) (fun _ _ _ _ _ e=>by cases e) ?_ he aH;obtain⟨dst,op,type,pos,after,guard⟩:=o;cases op<;>first|exact az|simp[DJ]at az
 ·exact VA aI hr (fun b7 z ok x k e=>ao ⟨b7,z,ok,x,k,e⟩) az he aH
theorem OL{w:World}{o:Obj}{b i:Nat}(h:b<w.heap.size):(w.alloc o).cell? ⟨b,i,none⟩=w.cell? ⟨b,i,none⟩:=World.cell?_of_block (Below.heap_alloc w o b h)
def aW.withBox(ν:aW)(k:aO)(bl:Nat):aW:={ν with bx:=fun j=>if j=k then some bl else ν.bx j}
def aW.withOwn(ν:aW)(k:aO)(n:Nat)(v:Value):aW:={ν with ow:=fun j=>if j=k then some (n,v)else ν.ow j}
theorem cv.lookNone{C:eI}{st:a6}{a:Act}{w:World}{ν:aW}(h:cv C st a w ν){k:aO}(aa:fresh st.n st.o k):look k st.b=none/\look k st.e=none:=by
 obtain⟨I,J,_⟩:=h.new k aa;constructor
 ·cases ao:look k st.b with
  |none=>rfl
  |some cs=>obtain⟨bl,us,el,g1,_⟩:=h.good.box _ _ ao;rw[I]at g1;cases g1
 ·cases ao:look k st.e with
  |none=>rfl
  |some o=>obtain⟨v,us,g1,_⟩:=h.good.own _ _ ao;rw[J]at g1;cases g1
theorem Good.ownLt{pr:Nat->Prop}{w:World}{ν:aW}{b:List (aO×List al)}{e:List (aO×dU)}(h:Good pr w ν b e){g:aO}{o:dU}(aR:look g e=some o){n:Nat}{v:Value}(aK:ν.ow g=some (n,v)){bl:Nat}(ao:v.ownBlock=some bl):bl<w.heap.size:=by obtain⟨v',us,g1,g2,_⟩:=h.own g o aR;rw[aK]at g1;cases g1;exact(g2.lt bl ao).2
theorem Good.boxLt{pr:Nat->Prop}{w:World}{ν:aW}{b:List (aO×List al)}{e:List (aO×dU)}(h:Good pr w ν b e){k:aO}{cs:List al}(aa:look k b=some cs){bl:Nat}(ao:ν.bx k=some bl):bl<w.heap.size:=by obtain⟨iy,us,el,g1,_,_,g4,_⟩:=h.box k cs aa;rw[ao]at g1;cases g1;exact(Array.getElem?_eq_some_iff.1 g4).1
theorem cv.newBox{C:eI}{st:a6}{a:Act}{w:World}{ν:aW}(h:cv C st a w ν){fc:aO}(acx:ν.bx fc=none/\ν.ow fc=none/\∀j b,¬ν.tr fc j b){n':Nat}{o':List aO}(hM:∀j,fresh n' o' j->fresh st.n st.o j/\j≠fc){cs:List al}{us:Array Value}(el:Hg fc)(aH:h9 w ν cs us.toList):
  cv C {st with b:=dd fc cs st.b,n:=n',o:=o'} a (w.alloc (iP cs us el.1)) (ν.withBox fc w.heap.size)/\
  aT (w.alloc (iP cs us el.1)) (ν.withBox fc w.heap.size) (.ptr fc 0) (.pointer (some ⟨w.heap.size,0,none⟩)):=by
 obtain⟨mF,uV,acQ⟩:=acx;have az:lW w ν (w.alloc (iP cs us el.1)) (ν.withBox fc w.heap.size):=by
  refine⟨fun b o bq=>⟨bq,OL (h.good.alt b o bq)⟩,fun k b _ aa=>?_,fun g n u _ aR=>⟨n,u,aR,.inl ⟨rfl,rfl⟩⟩,fun b o bq=>yJ (Below.heap_alloc w _ b (h.good.alt b o bq)),fun _ _ _ _ h=>h⟩;have:k≠fc:=fun e=>by subst e;rw[mF]at aa;cases aa
  simp[aW.withBox,this,aa]
 have ef:(w.alloc (iP cs us el.1)).heap.size=w.heap.size+1:=by simp
 have jR:∀k,(look k (dd fc cs st.b)).isSome->k=fc\/(k≠fc/\(look k st.b).isSome/\(ν.withBox fc w.heap.size).bx k=ν.bx k):=by
  intro k aa;by_cases e:k=fc
  ·exact .inl e
  ·rw[jG,bo (Ne.symm e)]at aa;exact .inr ⟨e,aa,by simp[aW.withBox,e]⟩
 refine⟨h.over az rfl ⟨fun bl o bq=>by rw[ef];have:=h.good.alt bl o bq;omega,fun k dV aa=>?_,fun k bz bl aa gV aB aU=>?_,fun g o aR=>?_,h.good.oinj,fun g k n v bl aR aa aK ao ad=>?_,fun k=>?_,fun bl ao k j aI=>?_⟩
  ⟨h.fr.os,h.fr.tape,h.fr.output,by rw[ef];have:=h.fr.size;omega,fun k aa hm=>?_,fun b o bq=>?_,h.fr.fresh,fun n b ao=>?_,h.fr.obn,h.fr.row,h.fr.obr,h.fr.trd,fun k j b ao=>⟨(h.fr.trb k j b ao).1,by rw[ef];have:=(h.fr.trb k j b ao).2;omega⟩,fun k j b ao=>?_,fun b o bq=>(az.sh b o (h.fr.keep b o bq).1).trans (h.fr.sh b o bq),h.fr.nrow⟩ (fun m hm=>?_) (fun m hm=>(hM m hm).1),?_⟩
 ·simp only at aa;rw[jG]at aa;by_cases e:fc=k
  ·rw[bP e]at aa;cases aa;subst e;refine⟨w.heap.size,us,el,by simp[aW.withBox],.inr h.fr.size,fun o bq=>?_,heap_alloc_new w _,pz az aH⟩;have:=h.good.alt _ o bq;omega
  ·rw[bo e]at aa;obtain⟨bl,bI,eO,g1,g2,g3,g4,g5⟩:=h.good.box k dV aa;exact⟨bl,bI,eO,az.bx _ _ trivial g1,g2,g3,by rw[Below.heap_alloc w _ bl (Array.getElem?_eq_some_iff.1 g4).1];exact g4,pz az g5⟩
 ·rcases jR k aa with rfl|⟨hn,fS,jb⟩<;>rcases jR bz gV with rfl|⟨m1,m2,m3⟩
  ·rfl
  ·exfalso;simp only[aW.withBox,if_true,dH]at aB;subst aB;rw[m3]at aU;obtain⟨dV,h1⟩:=fG.1 m2;have:=h.good.boxLt h1 aU;omega
  ·exfalso;simp only[aW.withBox,if_true,dH]at aU;subst aU;rw[jb]at aB;obtain⟨dV,h1⟩:=fG.1 fS;have:=h.good.boxLt h1 aB;omega
  ·rw[jb]at aB;rw[m3]at aU;exact h.good.inj k bz bl fS m2 aB aU
 ·obtain⟨v,xs,g1,g2,g3,g4⟩:=h.good.own g o aR;exact⟨v,xs,g1,g2.alloc _,g3,rj az (fun _ _ _ h=>h) g4⟩
 ·rcases jR k aa with rfl|⟨hn,fS,jb⟩
  ·simp only[aW.withBox,if_true,dH]at ad;subst ad;obtain⟨o,h5⟩:=fG.1 aR;have:=h.good.ownLt h5 aK ao;omega
  ·rw[jb]at ad;exact h.good.obx g k n v bl aR fS aK ao ad
 ·by_cases e:k=fc
  ·subst e;exact .inr uV
  ·rcases h.good.one k with I|I
   ·exact .inl (by simp[aW.withBox,e,I])
   ·exact .inr I
 ·rcases ao with⟨bz,b4,a2⟩|ao
  ·rcases jR bz b4 with rfl|⟨hn,fS,jb⟩
   ·simp[aW.withBox]at a2;subst a2;exact absurd (h.fr.trb k j _ aI).2 (Nat.lt_irrefl _)
   ·exact h.good.otr bl (.inl ⟨bz,fS,by rw[<-jb];exact a2⟩) k j aI
  ·exact h.good.otr bl (.inr ao) k j aI
 ·rw[Below.heap_alloc w _ k (by have:=h.fr.size;omega)];exact h.fr.block k aa hm
 ·obtain⟨cE,dj⟩:=h.fr.keep b o bq;exact⟨cE,(OL (h.good.alt b o cE)).trans dj⟩
 ·exact az.bx _ _ trivial (h.fr.obj n b ao)
 ·have cD:k≠fc:=fun e=>by subst e;exact acQ j b ao
  obtain⟨t1,t2⟩:=h.fr.trn k j b ao;exact⟨by simp[aW.withBox,cD,t1],t2⟩
 ·obtain⟨f1,f2⟩:=hM m hm;obtain⟨cE,dj⟩:=h.new m f1;refine⟨?_,dj⟩;simp[aW.withBox,f2,cE]
 ·simp[aT,aW.withBox]
theorem cv.setBox{C:eI}{st:a6}{a:Act}{w w':World}{ν:aW}(h:cv C st a w ν){k:aO}{cs cs':List al}(aa:look k st.b=some cs){bl:Nat}(ao:ν.bx k=some bl){us:Array Value}{el:Hg k}
  (wo:w'.os=w.os) (Cu:w'.tape=w.tape) (Cm:w'.output=w.output) (ks:∀j,j≠bl->w'.heap[j]? =w.heap[j]?) (ef:w'.heap.size=w.heap.size) (lC:w'.heap[bl]? =some (iP cs' us el.1)) (aH:h9 w ν cs' us.toList):
  cv C {st with b:=dd k cs' st.b} a w' ν/\lW w ν w' ν:=by
 obtain⟨iy,eT,ajY,g1,g2,g3,g4,g5⟩:=h.good.box k cs aa;rw[ao]at g1;cases g1;have az:lW w ν w' ν:=by
  refine⟨fun b o bq=>⟨bq,World.cell?_of_block (ks b fun e=>?_)⟩,fun _ _ _ h=>h,fun g n u _ aR=>⟨n,u,aR,.inl ⟨rfl,rfl⟩⟩,fun b o bq=>yJ (ks b fun e=>?_),fun _ _ _ _ h=>h⟩<;>
  (subst e;exact g3 o bq)
 have wg:∀j,(look j (dd k cs' st.b)).isSome->(look j st.b).isSome:=by
  intro j aD;rw[jG]at aD;by_cases e:k=j
  ·subst e;simp[aa]
  ·rwa[bo e]at aD
 refine⟨h.over az rfl ⟨fun b o bq=>by rw[ef];exact h.good.alt b o bq,fun j dV aD=>?_,fun j fb b aD lA=>h.good.inj j fb b (wg j aD) (wg fb lA),fun g o aR=>?_,h.good.oinj,fun g j n v b aR aD=>h.good.obx g j n v b aR (wg j aD),h.good.one,fun bl ao=>h.good.otr bl (ao.imp (fun⟨k,I,J⟩=>⟨k,wg k I,J⟩) id)⟩
  ⟨wo.trans h.fr.os,Cu.trans h.fr.tape,Cm.trans h.fr.output,by rw[ef];exact h.fr.size,fun j aD hm=>?_,fun b o bq=>?_,h.fr.fresh,h.fr.obj,h.fr.obn,h.fr.row,h.fr.obr,h.fr.trd,fun k j b ao=>⟨(h.fr.trb k j b ao).1,by rw[ef];exact(h.fr.trb k j b ao).2⟩,h.fr.trn,fun b o bq=>(az.sh b o (h.fr.keep b o bq).1).trans (h.fr.sh b o bq),h.fr.nrow⟩ h.new,az⟩
 ·simp only at aD;rw[jG]at aD;by_cases e:k=j
  ·rw[bP e]at aD;cases aD;subst e;exact⟨bl,us,el,ao,g2,g3,lC,pz az aH⟩
  ·rw[bo e]at aD;obtain⟨b,bI,eO,aB,aU,b1,dN,hJ⟩:=h.good.box j dV aD;refine⟨b,bI,eO,aB,aU,b1,?_,pz az hJ⟩;rw[ks b fun jk=>e (h.good.inj k j bl (by simp[aa]) (by simp[aD]) ao (by rw[<-jk];exact aB))];exact dN
 ·obtain⟨v,xs,aB,aU,b1,dN⟩:=h.good.own g o aR;refine⟨v,xs,aB,⟨aU.1,?_⟩,b1,rj az (fun _ _ _ h=>h) dN⟩;rcases aU.2 with aU|⟨hT,cap,cur,f1,f2,f3,f4⟩
  ·exact .inl aU
  ·refine .inr ⟨hT,cap,cur,f1,f2,?_,f4⟩;rw[ks hT fun jk=>h.good.obx g k o.n v bl (by simp[aR]) (by simp[aa]) aB (by rw[f1,<-jk];rfl) ao];exact f3
 ·rw[ks j fun e=>by subst e;exact g2.elim hm (fun g2=>Ω)];exact h.fr.block j aD hm
 ·obtain⟨cE,dj⟩:=h.fr.keep b o bq;exact⟨cE,(az.A b o cE).2.trans dj⟩
theorem cv.storeBox{C:eI}{st:a6}{a:Act}{w:World}{ν:aW}(h:cv C st a w ν){k:aO}{cs cs':List al}(aa:look k st.b=some cs){bl:Nat}(ao:ν.bx k=some bl)(bn:iH cs=true){us:Array Value}(aH:cK w ν cs' us.toList):
  cv C {st with b:=dd k cs' st.b} a (w.setRow bl us) ν:=by
 obtain⟨iy,eT,el,g1,g2,g3,g4,g5⟩:=h.good.box k cs aa;rw[ao]at g1;cases g1;rw[qn bn]at g4;have zN:=yA aH;exact(h.setBox (w':=w.setRow bl us) aa ao (us:=us) (el:=el) rfl rfl rfl (fun j aD=>setRow_other w bl j us aD) (setRow_size w bl us) (by rw[qn zN];exact setRow_heap w bl eT us el.1 _ g4) (by rw[pw zN];exact aH)).1
def aW.withRowOf(ν:aW)(k:aO)(v:Value)(n cells:Nat):aW:={A:=fun b o=>ν.A b o\/(v.ownBlock=some b/\o<cells),bx:=ν.bx,ow:=fun j=>if j=k then some (n,v)else ν.ow j,tr:=ν.tr}
theorem yk{w:World}{A:Nat->Nat->Prop}{b:Nat}:∀(us:List Value) (off:Nat),(∀j u,us[j]? =some u->A b (off+j)/\w.cell? ⟨b,off+j,none⟩=some u)->kx w A b off us
 |[],_,_=>trivial
 |u::us,off,h=>⟨h 0 u rfl,yk us (off+1) fun j x aD=>by have:=h (j+1) x (by simpa using aD);rwa[show off+(j+1)=off+1+j from by omega]at this⟩
theorem OM{w w':World}(aR:w.grownBy w' none){b i:Nat}(h:b<w.heap.size):w'.cell? ⟨b,i,none⟩=w.cell? ⟨b,i,none⟩:=World.cell?_of_block (aR.block b h Ψ)
theorem cv.newRowM{C:eI}{st:a6}{a:Act}{w w':World}{ν:aW}(h:cv C st a w ν){k:aO}{xs:List al}(aa:(ν.bx k=none/\ν.ow k=none/\∀j b,¬ν.tr k j b)\/ ∃o,look k st.e=some o/\o.n<xs.length){el sz:Nat}{v:Value}{us:List Value}
  (aR:w.grownBy w' none) (kt:w'.ownsRow w.heap.size el sz v xs.length us) (aH:cR w ν sz xs us) (gg:xs.length<=bs) {n':Nat} {o':List aO} (hM:∀j,fresh n' o' j->fresh st.n st.o j/\j≠k):
  cv C {st with e:=dd k ⟨xs.length,el,sz,some xs⟩ st.e,n:=n',o:=o'} a w' (ν.withOwn k xs.length v)/\
  ((∃b cap,v= .slice (some ⟨b,0,none⟩) xs.length cap)->aT w' (ν.withOwn k xs.length v) (.row sz k xs.length) v):=by
 have oD:∀bl,v.ownBlock=some bl->w.heap.size<=bl/\bl<w'.heap.size:=fun bl ao=>kt.lt bl ao;have az:lW w ν w' (ν.withOwn k xs.length v):=by
  refine⟨fun b o bq=>⟨bq,OM aR (h.good.alt b o bq)⟩,fun j b _ aD=>aD,fun g n u _ iL=>?_,fun b o bq=>yJ (aR.block b (h.good.alt b o bq) Ψ),fun _ _ _ _ h=>h⟩;by_cases e:g=k
  ·subst e;rcases aa with aa|⟨o,az,bY⟩
   ·rw[aa.2.1]at iL;cases iL
   ·obtain⟨v0,eT,aB,_⟩:=h.good.own g o az;rw[aB]at iL;cases iL;exact⟨xs.length,v,by simp[aW.withOwn],.inr bY⟩
  ·exact⟨n,u,by simp[aW.withOwn,e,iL],.inl ⟨rfl,rfl⟩⟩
 have kP:∀g,(look g (dd k ⟨xs.length,el,sz,some xs⟩ st.e)).isSome->g=k\/(g≠k/\(look g st.e).isSome/\(ν.withOwn k xs.length v).ow g=ν.ow g):=by
  intro g kr;by_cases e:g=k
  ·exact .inl e
  ·rw[jG,bo (Ne.symm e)]at kr;exact .inr ⟨e,kr,by simp[aW.withOwn,e]⟩
 have Fk:∀bl,v.ownBlock=some bl->∀j,¬ν.A bl j:=fun bl ao j bq=>by have I:=h.good.alt bl j bq;have:=(oD bl ao).1;omega
 have acY:∀j b,¬ν.tr k j b:=fun j b ao=>by
  rcases aa with aa|⟨o,h5,_⟩
  ·exact aa.2.2 j b ao
  ·obtain⟨v0,eT,aB,_⟩:=h.good.own k o h5;rw[(h.fr.trn k j b ao).2]at aB;cases aB
 refine⟨h.over az rfl ⟨fun bl o bq=>?_,fun j dV aD=>?_,h.good.inj,fun g o eL=>?_,fun g eP n n' u fe bl I J aA aS bG cq=>?_,fun g j n u bl I J aA aS bG=>?_,fun j=>?_,fun bl ao bz j aI=>?_⟩
  ⟨aR.os.trans h.fr.os,aR.tape.trans h.fr.tape,aR.output.trans h.fr.output,Nat.le_trans h.fr.size aR.size,fun j aD hm=>?_,fun b o bq=>?_,h.fr.fresh,h.fr.obj,h.fr.obn,fun m n u hm=>Dt (h.fr.row m n u hm) (fun n u=>az.ow _ n u trivial),h.fr.obr,h.fr.trd,fun k j b ao=>⟨(h.fr.trb k j b ao).1,Nat.lt_of_lt_of_le (h.fr.trb k j b ao).2 aR.size⟩,fun bz j b ao=>?_,fun b o bq=>(az.sh b o (h.fr.keep b o bq).1).trans (h.fr.sh b o bq),fun j n u b aB aU=>?_⟩ (fun m hm=>?_) (fun m hm=>(hM m hm).1),?_⟩
 ·have:=h.good.alt bl o bq;have:=aR.size;omega
 ·obtain⟨bl,bI,eO,g1,g2,g3,g4,g5⟩:=h.good.box j dV aD;have bY:=(Array.getElem?_eq_some_iff.1 g4).1;exact⟨bl,bI,eO,g1,g2,g3,by rw[aR.block bl bY Ψ];exact g4,pz az g5⟩
 ·simp only at eL;rw[jG]at eL;by_cases e:k=g
  ·rw[bP e]at eL;cases eL;subst e;refine⟨v,us,by simp[aW.withOwn],⟨kt.1,?_⟩,fun bl ao=>⟨.inr (Nat.le_trans h.fr.size (oD bl ao).1),fun j bq=>absurd bq (Fk bl ao j)⟩,fun ys bB=>?_⟩
   ·rcases kt.2 with aB|⟨hT,cap,cur,f1,f2,f3⟩
    ·exact .inl aB
    ·exact .inr ⟨hT,cap,cur,f1,Ω,f3⟩
   ·simp only[dH]at bB;subst bB;exact⟨rfl,AB az aH,Fk⟩
  ·rw[bo e]at eL;obtain⟨v0,eT,aB,aU,b1,dN⟩:=h.good.own g o eL;exact⟨v0,eT,by simp[aW.withOwn,Ne.symm e,aB],aU.kept aR (by cases v0.ownBlock<;>simp),b1,rj az (fun _ _ _ h=>h) dN⟩
 ·rcases kP g I with rfl|⟨hn,fS,jb⟩<;>rcases kP eP J with rfl|⟨m1,m2,m3⟩
  ·rfl
  ·exfalso;simp only[aW.withOwn,if_true,dH,gz]at aA;rw[m3]at aS;obtain⟨o,h5⟩:=fG.1 m2;have aG:=h.good.ownLt h5 aS cq;have:=(oD bl (by rw[aA.2];exact bG)).1;omega
  ·exfalso;simp only[aW.withOwn,if_true,dH,gz]at aS;rw[jb]at aA;obtain⟨o,h5⟩:=fG.1 fS;have aG:=h.good.ownLt h5 aA bG;have:=(oD bl (by rw[aS.2];exact cq)).1;omega
  ·rw[jb]at aA;rw[m3]at aS;exact h.good.oinj g eP n n' u fe bl fS m2 aA aS bG cq
 ·rcases kP g I with rfl|⟨hn,fS,jb⟩
  ·simp only[aW.withOwn,if_true,dH,gz]at aA;obtain⟨dV,h1⟩:=fG.1 J;have aG:=h.good.boxLt h1 bG;have:=(oD bl (by rw[aA.2];exact aS)).1;omega
  ·rw[jb]at aA;exact h.good.obx g j n u bl fS J aA aS bG
 ·by_cases e:j=k
  ·subst e;rcases aa with aa|⟨o,h5,_⟩
   ·exact .inl aa.1
   ·obtain⟨v0,eT,aB,_⟩:=h.good.own j o h5;rcases h.good.one j with I|I
    ·exact .inl I
    ·rw[I]at aB;cases aB
  ·rcases h.good.one j with I|I
   ·exact .inl I
   ·exact .inr (by simp[aW.withOwn,e,I])
 ·rcases ao with ao|⟨g,n,u,b4,a2,a3⟩
  ·exact h.good.otr bl (.inl ao) bz j aI
  ·rcases kP g b4 with rfl|⟨hn,fS,jb⟩
   ·simp only[aW.withOwn,if_true,dH,gz]at a2;have I:=(oD bl (by rw[a2.2];exact a3)).1;have J:=(h.fr.trb bz j _ aI).2;omega
   ·exact h.good.otr bl (.inr ⟨g,n,u,fS,by rw[<-jb];exact a2,a3⟩) bz j aI
 ·rw[aR.block j (by have:=h.fr.size;omega) Ψ];exact h.fr.block j aD hm
 ·obtain⟨cE,dj⟩:=h.fr.keep b o bq;exact⟨cE,(az.A b o cE).2.trans dj⟩
 ·have cD:bz≠k:=fun e=>by subst e;exact acY j b ao
  obtain⟨t1,t2⟩:=h.fr.trn bz j b ao;exact⟨t1,by simp[aW.withOwn,cD,t2]⟩
 ·by_cases e:aO.loc j=k
  ·subst e;simp only[aW.withOwn,if_true,dH,gz]at aB;exact Nat.le_trans h.fr.size (oD b (by rw[aB.2];exact aU)).1
  ·simp only[aW.withOwn,bo e]at aB;exact h.fr.nrow j n u b aB aU
 ·obtain⟨f1,f2⟩:=hM m hm;obtain⟨cE,dj,gD⟩:=h.new m f1;refine⟨cE,?_,gD⟩;simp[aW.withOwn,f2,dj]
 ·intro Jb;simp only[aT];exact⟨Jb,gg,xs.length,v,by simp[aW.withOwn],c7 _,fun _=>rfl⟩
theorem cv.publish{C:eI}{st:a6}{a:Act}{w:World}{ν:aW}(h:cv C st a w ν){k:aO}{o:dU}{xs:List al}(aa:look k st.e=some o)(ad:o.xs=some xs){v:Value}(aK:ν.ow k=some (o.n,v))(gg:xs.length<=bs):
  cv C {st with e:=dd k ⟨o.n,o.el,o.sz,none⟩ st.e} a w (ν.withRowOf k v o.n (o.n*o.sz))/\
  aT w (ν.withRowOf k v o.n (o.n*o.sz)) (.slice o.sz (.own k) xs) v:=by
 obtain⟨v0,us,cz,db,eo,dC⟩:=h.good.own k o aa;rw[aK]at cz;cases cz;obtain⟨dc,lL,sB⟩:=dC xs ad;have k5:∀g,(ν.withRowOf k v o.n (o.n*o.sz)).ow g=ν.ow g:=fun g=>by
  simp only[aW.withRowOf];split
  ·rename_i e;subst e;exact aK.symm
  ·rfl
 have az:lW w ν w (ν.withRowOf k v o.n (o.n*o.sz)):=⟨fun b o bq=>⟨.inl bq,rfl⟩,fun j b _ aD=>aD,fun g n u _ iL=>⟨n,u,by rw[k5];exact iL,.inl ⟨rfl,rfl⟩⟩,fun _ _ _=>rfl,fun _ _ _ _ h=>h⟩
 have kP:∀g,(look g (dd k ⟨o.n,o.el,o.sz,none⟩ st.e)).isSome->(look g st.e).isSome:=by
  intro g kr;by_cases e:k=g
  ·subst e;simp[aa]
  ·rwa[jG,bo e]at kr
 refine⟨h.over az rfl ⟨fun bl i bq=>?_,fun j dV aD=>?_,h.good.inj,fun g o' eL=>?_,fun g eP n n' u fe bl I J aA aS=>h.good.oinj g eP n n' u fe bl (kP g I) (kP eP J) (by rwa[k5]at aA) (by rwa[k5]at aS),fun g j n u bl I J aA=>h.good.obx g j n u bl (kP g I) J (by rwa[k5]at aA),fun j=>?_,fun bl ao=>h.good.otr bl (ao.imp id (fun⟨g,n,v,b4,a2,a3⟩=>⟨g,n,v,kP g b4,by rwa[k5]at a2,a3⟩))⟩
  ⟨h.fr.os,h.fr.tape,h.fr.output,h.fr.size,h.fr.block,fun b i bq=>⟨.inl (h.fr.keep b i bq).1,(h.fr.keep b i bq).2⟩,fun b i bq=>?_,h.fr.obj,h.fr.obn,fun m n u hm=>Dt (h.fr.row m n u hm) (fun n u=>az.ow _ n u trivial),h.fr.obr,h.fr.trd,h.fr.trb,fun bz j b ao=>⟨(h.fr.trn bz j b ao).1,by rw[k5];exact(h.fr.trn bz j b ao).2⟩,h.fr.sh,fun j n u b aB aU=>h.fr.nrow j n u b (by rw[<-k5];exact aB) aU⟩ (fun m hm=>?_),?_⟩
 ·rcases bq with bq|⟨bq,_⟩
  ·exact h.good.alt bl i bq
  ·exact(db.lt bl bq).2
 ·obtain⟨bl,bI,eO,g1,g2,g3,g4,g5⟩:=h.good.box j dV aD;refine⟨bl,bI,eO,g1,g2,fun i bq=>?_,g4,pz az g5⟩;rcases bq with bq|⟨bq,_⟩
  ·exact g3 i bq
  ·exact h.good.obx k j o.n v bl (by simp[aa]) (by simp[aD]) aK bq g1
 ·simp only at eL;rw[jG]at eL;by_cases e:k=g
  ·rw[bP e]at eL;cases eL;subst e;refine⟨v,us,by rw[k5];exact aK,db,fun bl ao=>⟨(eo bl ao).1,fun j bq=>?_⟩,fun ys bB=>by cases bB⟩;rcases bq with bq|⟨_,bq⟩
   ·exact(eo bl ao).2 j bq
   ·exact bq
  ·rw[bo e]at eL;obtain⟨v0,eT,aB,aU,b1,dN⟩:=h.good.own g o' eL;have wb:∀bl,v0.ownBlock=some bl->∀j,(ν.withRowOf k v o.n (o.n*o.sz)).A bl j->ν.A bl j:=fun bl ao j bq=>by
    rcases bq with bq|⟨bq,_⟩
    ·exact bq
    ·exact absurd (h.good.oinj k g o.n o'.n v v0 bl (by simp[aa]) (by simp[eL]) aK aB bq ao) e
   exact⟨v0,eT,by rw[k5];exact aB,aU,fun bl ao=>⟨(b1 bl ao).1,fun j bq=>(b1 bl ao).2 j (wb bl ao j bq)⟩,rj az wb dN⟩
 ·rcases h.good.one j with I|I
  ·exact .inl I
  ·exact .inr (by rw[k5];exact I)
 ·rcases bq with bq|⟨bq,_⟩
  ·exact h.fr.fresh b i bq
  ·exact .inr (eo b bq).1
 ·obtain⟨cE,dj,gD⟩:=h.new m hm;exact⟨cE,by rw[k5];exact dj,gD⟩
 ·simp only[aT];refine⟨?_,fun e=>(by cases e),fun g e=>?_,fun _ _ e=>(by cases e),fun _ e=>(by cases e)⟩
  ·rcases db.2 with⟨aB,aU⟩|⟨hT,cap,cur,f1,f2,f3,f4,f5,f6,f7⟩
   ·refine⟨none,0,by rw[aB,dc,aU],Ω,⟨by simp[maxLen],gg⟩,.inl (n5 Ω)⟩
   ·refine⟨some ⟨hT,0,none⟩,cap,by rw[f1,dc],Ω,⟨f5,gg⟩,.inr ⟨hT,0,us,rfl,yk us 0 fun j u aD=>?_,AB az lL⟩⟩;have h6:v.ownBlock=some hT:=by rw[f1];rfl
    have fJ:j<us.length:=(eV.1 aD).1;refine⟨.inr ⟨h6,by rw[db.1]at fJ;omega⟩,?_⟩;have:=db.cells h6 j u aD;rwa[oh]at this
  ·cases e;exact⟨o.n,v,by rw[k5];exact aK,Ω,fun _=>rfl⟩
theorem Vy{α:Type}(k:aO)(p q:α):∀l,dd k q (dd k p l)=dd k q l
 |[]=>by simp[dd]
 |(i,r)::l=>by
  by_cases e:i=k
  ·simp[dd,e]
  ·simp[dd,e,Vy k p q l]
theorem cv.newRow{C:eI}{st:a6}{a:Act}{w w':World}{ν:aW}(h:cv C st a w ν){k:aO}{xs:List al}(aa:(ν.bx k=none/\ν.ow k=none/\∀j b,¬ν.tr k j b)\/ ∃o,look k st.e=some o/\o.n<xs.length){el sz:Nat}{v:Value}{us:List Value}
  (aR:w.grownBy w' none) (kt:w'.ownsRow w.heap.size el sz v xs.length us) (aH:cR w ν sz xs us) (gg:xs.length<=bs) {n':Nat} {o':List aO} (hM:∀j,fresh n' o' j->fresh st.n st.o j/\j≠k):
  cv C {st with e:=dd k ⟨xs.length,el,sz,none⟩ st.e,n:=n',o:=o'} a w' ((ν.withOwn k xs.length v).withRowOf k v xs.length (xs.length*sz))/\
  aT w' ((ν.withOwn k xs.length v).withRowOf k v xs.length (xs.length*sz)) (.slice sz (.own k) xs) v:=by
 have I:=(h.newRowM aa aR kt aH gg hM).1;have J:=I.publish (k:=k) (o:=⟨xs.length,el,sz,some xs⟩) (xs:=xs) (v:=v) (by simp[jG]) rfl (by simp[aW.withOwn]) gg;simpa only[Vy]using J
theorem cv.setRowM{C:eI}{st:a6}{a:Act}{w w':World}{ν:aW}(h:cv C st a w ν){k:aO}{o:dU}{xs xs':List al}(aa:look k st.e=some o)(ad:o.xs=some xs){bl:Nat}{v v':Value}(aK:ν.ow k=some (o.n,v))(h6:v.ownBlock=some bl)(Cy:v'.ownBlock=some bl)
  (aJ:(xs'.length=o.n/\v'=v)\/o.n<xs'.length) {us:List Value} (wo:w'.os=w.os) (Cu:w'.tape=w.tape) (Cm:w'.output=w.output) (ks:∀j,j≠bl->w'.heap[j]? =w.heap[j]?) (ef:w'.heap.size=w.heap.size)
  (kt:w'.ownsRow 0 o.el o.sz v' xs'.length us) (aH:cR w ν o.sz xs' us):
  cv C {st with e:=dd k ⟨xs'.length,o.el,o.sz,some xs'⟩ st.e} a w' (ν.withOwn k xs'.length v')/\lW w ν w' (ν.withOwn k xs'.length v')/\(xs'.length<=bs->aT w' (ν.withOwn k xs'.length v') (.row o.sz k xs'.length) v'):=by
 obtain⟨v0,eT,cz,db,eo,dC⟩:=h.good.own k o aa;rw[aK]at cz;cases cz;obtain⟨dc,lL,sB⟩:=dC xs ad;have az:lW w ν w' (ν.withOwn k xs'.length v'):=by
  refine⟨fun b i bq=>⟨bq,World.cell?_of_block (ks b fun e=>by subst e;exact sB b h6 i bq)⟩,fun j b _ aD=>aD,fun g n u _ iL=>?_,fun b i bq=>yJ (ks b fun e=>by subst e;exact sB b h6 i bq),fun _ _ _ _ h=>h⟩;by_cases e:g=k
  ·subst e;rw[aK]at iL;cases iL;refine⟨xs'.length,v',by simp[aW.withOwn],?_⟩;rcases aJ with⟨I,J⟩|I
   ·exact .inl ⟨I,J⟩
   ·exact .inr I
  ·exact⟨n,u,by simp[aW.withOwn,e,iL],.inl ⟨rfl,rfl⟩⟩
 have kP:∀g n u,(look g (dd k ⟨xs'.length,o.el,o.sz,some xs'⟩ st.e)).isSome->(ν.withOwn k xs'.length v').ow g=some (n,u)->∀b,u.ownBlock=some b->(look g st.e).isSome/\∃n u,ν.ow g=some (n,u)/\u.ownBlock=some b:=by
  intro g n u kr iL b ao;by_cases e:g=k
  ·subst e;simp only[aW.withOwn,if_true,dH,gz]at iL;rw[<-iL.2,Cy]at ao;cases ao;exact⟨by simp[aa],o.n,v,aK,h6⟩
  ·rw[jG,bo (Ne.symm e)]at kr;simp only[aW.withOwn,e,if_false]at iL;exact⟨kr,n,u,iL,ao⟩
 refine⟨h.over az rfl ⟨fun b i bq=>by rw[ef];exact h.good.alt b i bq,fun j dV aD=>?_,h.good.inj,fun g o' eL=>?_,fun g eP n n' u fe b I J aA aS bG cq=>?_,fun g j n u b I J aA aS bG=>?_,fun j=>?_,fun b ao=>h.good.otr b (ao.imp id (fun⟨g,n,v,b4,a2,a3⟩=>by obtain⟨ck,hn,ik,cr,fo⟩:=kP g n v b4 a2 b a3;exact⟨g,hn,ik,ck,cr,fo⟩))⟩
  ⟨wo.trans h.fr.os,Cu.trans h.fr.tape,Cm.trans h.fr.output,by rw[ef];exact h.fr.size,fun j aD hm=>?_,fun b i bq=>?_,h.fr.fresh,h.fr.obj,h.fr.obn,fun m n u hm=>Dt (h.fr.row m n u hm) (fun n u=>az.ow _ n u trivial),h.fr.obr,h.fr.trd,fun k j b ao=>⟨(h.fr.trb k j b ao).1,by rw[ef];exact(h.fr.trb k j b ao).2⟩,fun bz j b ao=>?_,fun b o bq=>(az.sh b o (h.fr.keep b o bq).1).trans (h.fr.sh b o bq),fun j n u b aB aU=>(by
   by_cases e:aO.loc j=k
   ·subst e;simp only[aW.withOwn,if_true,dH,gz]at aB;rw[<-aB.2,Cy]at aU;cases aU;exact h.fr.nrow j o.n v bl aK h6
   ·simp only[aW.withOwn,bo e]at aB;exact h.fr.nrow j n u b aB aU)⟩ (fun m hm=>?_),az,?_⟩
 ·obtain⟨b,bI,eO,g1,g2,g3,g4,g5⟩:=h.good.box j dV aD;have cD:b≠bl:=fun e=>h.good.obx k j o.n _ bl (by simp[aa]) (by simp[aD]) aK h6 (by rw[<-e];exact g1);exact⟨b,bI,eO,g1,g2,g3,by rw[ks b cD];exact g4,pz az g5⟩
 ·simp only at eL;rw[jG]at eL;by_cases e:k=g
  ·rw[bP e]at eL;cases eL;subst e;refine⟨v',us,by simp[aW.withOwn],kt,fun b ao=>?_,fun ys bB=>?_⟩
   ·rw[Cy]at ao;cases ao;exact⟨(eo bl h6).1,fun j bq=>absurd bq (sB bl h6 j)⟩
   ·simp only[dH]at bB;subst bB;exact⟨rfl,AB az aH,fun b ao=>by rw[Cy]at ao;cases ao;exact sB bl h6⟩
  ·rw[bo e]at eL;obtain⟨v0,eT,aB,aU,b1,dN⟩:=h.good.own g o' eL;have cD:∀b,v0.ownBlock=some b->b≠bl:=fun b ao Ii=>e (h.good.oinj k g o.n o'.n _ v0 bl (by simp[aa]) (by simp[eL]) aK aB h6 (by rw[<-Ii];exact ao));refine⟨v0,eT,by simp[aW.withOwn,Ne.symm e,aB],⟨aU.1,?_⟩,b1,rj az (fun _ _ _ h=>h) dN⟩;rcases aU.2 with aU|⟨hT,xv,mq,f1,f2,f3,f4⟩
   ·exact .inl aU
   ·exact .inr ⟨hT,xv,mq,f1,f2,by rw[ks hT (cD hT (by rw[f1];rfl))];exact f3,f4⟩
 ·obtain⟨b4,hn,ik,a2,a3⟩:=kP g n u I aA b bG;obtain⟨ck,fS,hF,cr,fo⟩:=kP eP n' fe J aS b cq;exact h.good.oinj g eP hn fS ik hF b b4 ck a2 cr a3 fo
 ·obtain⟨b4,hn,ik,a2,a3⟩:=kP g n u I aA b aS;exact h.good.obx g j hn ik b b4 J a2 a3 bG
 ·by_cases e:j=k
  ·subst e;rcases h.good.one j with I|I
   ·exact .inl I
   ·rw[I]at aK;cases aK
  ·rcases h.good.one j with I|I
   ·exact .inl I
   ·exact .inr (by simp[aW.withOwn,e,I])
 ·rw[ks j fun e=>by subst e;exact(eo j h6).1.elim hm (fun g2=>Ω)];exact h.fr.block j aD hm
 ·obtain⟨cE,dj⟩:=h.fr.keep b i bq;exact⟨cE,(az.A b i cE).2.trans dj⟩
 ·obtain⟨t1,t2⟩:=h.fr.trn bz j b ao;have cD:bz≠k:=fun e=>by subst e;rw[t2]at aK;cases aK
  exact⟨t1,by simp[aW.withOwn,cD,t2]⟩
 ·obtain⟨cE,dj,gD⟩:=h.new m hm;refine⟨cE,?_,gD⟩;have:m≠k:=fun e=>by subst e;rw[dj]at aK;cases aK
  simp[aW.withOwn,this,dj]
 ·intro gg;simp only[aT];obtain⟨cap,Jb⟩:=Tt kt Cy;exact⟨⟨bl,cap,Jb⟩,gg,xs'.length,v',by simp[aW.withOwn],c7 _,fun _=>rfl⟩
end
end Go.Pv
