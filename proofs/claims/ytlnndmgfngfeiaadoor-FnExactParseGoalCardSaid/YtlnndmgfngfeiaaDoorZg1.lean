/- Rows of the call's own: a new one, and one that is appended to in place. -/
import Derived.WalkKit
import Derived.Orders
import Derived.KernelRfl
import Derived.IntWalk
import Derived.Laws.StructEq
import Derived.ChangeKeysEq
import Derived.MapKept
import Derived.ArgAppend
set_option linter.all false
set_option maxHeartbeats 4000000
set_option maxRecDepth 4000
namespace Go
theorem Ω{p:Prop}(h:p:=by omega):p:=h
theorem Ψ{p:Prop}(h:p:=by simp):p:=h
end Go
open Array renaming getD_eq_getD_getElem?->l8
open Bool renaming and_eq_true->bD,false_eq_true->ib,not_eq_true'->oF
open ByteArray renaming empty->YM,ext->U0,push->YN,size->FE
open Go renaming Operand->gY,Program->bm,TypeId->eO
open Go.ByteArray renaming toList_eq->U1
open Go.IntKind renaming i64->jS
open Go.IntWalk renaming i64_in->k9
open Go.Result renaming andThen_ok->ea
open Go.Sem renaming run_bind->dW,run_pure->eN
open Go.Value renaming cells->mO,ownBlock->la
open Go.Value.pointer renaming injEq->YS
open List renaming all_eq_true->kd,cons_append->eP,eq_nil_of_length_eq_zero->pK,getElem?_eq_getElem->eo,getElem?_eq_some_iff->gp,length_append->jT,length_cons->mc,length_drop->lb,map_cons->ig,mem_append->hp,mem_cons->gZ
open List.cons renaming injEq->U3
open Nat renaming le_refl->cx
open Option renaming isSome_iff_exists->eb,isSome_none->qo,map_eq_some_iff->me,map_some->mP
open Option.some renaming injEq->dp
open Prod.mk renaming injEq->hQ
open UInt8 renaming ofNat->lF
open _root_ renaming ByteArray->ic,False->cv,Option->aR,UInt8->az,beq_iff_eq->da,congrArg->eV,decide_eq_true_eq->fQ,if_neg->bh
namespace Go.Pv
section
open Go Go.RowKit
inductive aq where
 |loc (s:Nat)
 |obj (n:Nat)
 deriving DecidableEq,Inhabited
inductive iR where
 |no
 |nil
 |own (k:aq)
 |tr (k:aq) (j:Nat)
 |lo (k:aq)
 deriving DecidableEq,Inhabited
inductive ab where
 |junk
 |int (k:IntKind) (n:Int)
 |bool (b:Bool)
 |str (s:List az)
 |slice (sz:Nat) (tag:iR) (xs:List ab)
 |agg (cs:List ab)
 |ptr (key:aq) (off:Nat)
 |eptr (x:ab)
 |iface (t:Nat) (x:ab)
 |nilp
 |tuple (vs:List ab)
 |func (f:Nat) (cP:List ab)
 |gmap (key:aq)
 |row (sz:Nat) (key:aq) (n:Nat)
 |rptr (sz:Nat) (key:aq) (n i f:Nat)
 |hdm (clock:Nat) (borns:List Nat)
 |hdi (since:Nat) (seen:List Nat) (last:Nat)
 |cst (v:Value)
 deriving Inhabited
structure aC where
 A:Nat->Nat->Prop
 bx:aq->aR Nat
 ow:aq->aR (Nat×Value)
 tr:aq->Nat->Nat->Prop
def b0:Nat:=68719476736
def h7(w:World)(A:Nat->Nat->Prop)(b:Nat):Nat->List Value->Prop
 |_,[]=>True
 |off,u::us=>(A b off/\w.cell? ⟨b,off,none⟩=some u)/\h7 w A b (off+1) us
def shape(w:World)(b:Nat):aR (Nat×eO×(Nat×Nat)):=
 match w.heap[b]? with
 |some (.cells cur el fz)=>some (cur.size,el,fz)
 |_=>none
theorem wg{w w':World}{b:Nat}(h:w'.heap[b]? =w.heap[b]?):shape w' b=shape w b:=by unfold shape;rw[h]
mutual
def bS(t:Bool)(w:World)(A:Nat->Nat->Prop)(F:Nat->Prop):ab->Value->Prop
 | .int k n,v=>v= .int k n
 | .bool b,v=>v= .bool b
 | .str s,v=>v= .string ⟨s.toArray⟩/\s.length<=b0
 | .slice sz _ xs,v=> ∃a cap,v= .slice a xs.length cap/\xs.length<=cap/\(cap<=maxLen/\xs.length<=b0)/\
   (xs=[]\/ ∃b off us G,a=some ⟨b,off,none⟩/\F b/\(∀c,G c->F c/\(t=true->c≠b))/\h7 w A b off us/\(t=true->off=0/\0<us.length/\∃el,shape w b=some (cap*sz,el,(0,0)))/\hs t w A G sz xs us)
 | .agg cs,v=> ∃us:Array Value,v= .agg us/\h1 t w A F cs us.toList
 |_,_=>cv
def h1(t:Bool)(w:World)(A:Nat->Nat->Prop)(F:Nat->Prop):List ab->List Value->Prop
 |[],us=>us=[]
 |c::cs,us=> ∃u a1 e1 e2,us=u::a1/\((∀b,e1 b->F b)/\(∀b,e2 b->F b)/\(t=true->∀b,e1 b->¬e2 b))/\(bS t w A e1 c u/\u.oneCell'=true)/\h1 t w A e2 cs a1
def hs(t:Bool)(w:World)(A:Nat->Nat->Prop)(F:Nat->Prop)(sz:Nat):List ab->List Value->Prop
 |[],us=>us=[]
 |x::xs,us=> ∃u a1 e1 e2,us=u.cells.toList++a1/\((∀b,e1 b->F b)/\(∀b,e2 b->F b)/\(t=true->∀b,e1 b->¬e2 b))/\(bS t w A e1 x u/\u.cells.size=sz/\(∀c∈u.cells.toList,c.oneCell'=true))/\hs t w A e2 sz xs a1
end
def ru(f:Nat):Nat:=f-1000000
def pW(f:Nat)(us:Array Value):Value:=if f<1000000 then .func (.func f) #[] us else .func (.func (ru f)) us #[]
theorem Pl{f:Nat}(h:f<1000000)(us:Array Value):pW f us= .func (.func f) #[] us:=if_pos h
theorem Pk{f:Nat}(h:¬f<1000000)(us:Array Value):pW f us= .func (.func (ru f)) us #[]:=bh h
theorem Pj(m:Nat)(us:Array Value):pW (m+1000000) us= .func (.func m) us #[]:=by unfold pW ru;rw[bh Ω,Nat.add_sub_cancel]
mutual
def aw(w:World)(ν:aC):ab->Value->Prop
 | .junk,_=>True
 | .int k n,v=>v= .int k n
 | .bool b,v=>v= .bool b
 | .str s,v=>v= .string ⟨s.toArray⟩/\s.length<=b0
 | .slice sz tag xs,v=>
   (∃a cap,v= .slice a xs.length cap/\xs.length<=cap/\(cap<=maxLen/\xs.length<=b0)/\(xs=[]\/ ∃b off us,a=some ⟨b,off,none⟩/\h7 w ν.A b off us/\cd w ν sz xs us))/\
   (tag= .nil->v= .slice none 0 0)/\
   (∀g,tag= .own g->∃n u,ν.ow g=some (n,u)/\xs.length<=n/\(xs.length=n->v=u))/\
   (∀k j,tag= .tr k j->bS true w ν.A (ν.tr k j) (.slice sz tag xs) v)/\(∀k,tag= .lo k->bS false w ν.A (ν.tr k 0) (.slice sz tag xs) v)
 | .agg cs,v=> ∃us:Array Value,v= .agg us/\bV w ν cs us.toList
 | .ptr key off,v=> ∃b,ν.bx key=some b/\v= .pointer (some ⟨b,off,none⟩)
 | .eptr x,v=> ∃b off u,v= .pointer (some ⟨b,off,none⟩)/\aw w ν x u/\h7 w ν.A b off u.cells.toList
 | .iface t x,v=> ∃u,v= .iface t u/\aw w ν x u
 | .nilp,v=>v= .pointer none
 | .tuple vs,v=> ∃us:Array Value,v= .tuple us/\bT w ν vs us.toList
 | .func f cP,v=> ∃us:Array Value,v=pW f us/\bT w ν cP us.toList
 | .gmap key,v=> ∃b,ν.bx key=some b/\v= .map (some b)
 | .row _ key n,v=>(∃b cap,v= .slice (some ⟨b,0,none⟩) n cap)/\n<=b0/\∃n' u,ν.ow key=some (n',u)/\n<=n'/\(n=n'->v=u)
 | .rptr sz key n i f,v=>(∃b o,v= .pointer (some ⟨b,o,none⟩))/\i<n/\∃n' u,ν.ow key=some (n',u)/\n<=n'/\(n=n'->∃b,u.ownBlock=some b/\v= .pointer (some ⟨b,i*sz+f,none⟩))
 | .hdm _ _,_=>cv
 | .hdi _ _ _,_=>cv
 | .cst c,v=>v=c
def bV(w:World)(ν:aC):List ab->List Value->Prop
 |[],us=>us=[]
 |c::cs,us=> ∃u a1,us=u::a1/\(aw w ν c u/\u.oneCell'=true)/\bV w ν cs a1
def bT(w:World)(ν:aC):List ab->List Value->Prop
 |[],us=>us=[]
 |c::cs,us=> ∃u a1,us=u::a1/\aw w ν c u/\bT w ν cs a1
def cd(w:World)(ν:aC)(sz:Nat):List ab->List Value->Prop
 |[],us=>us=[]
 |x::xs,us=> ∃u a1,us=u.cells.toList++a1/\(aw w ν x u/\u.cells.size=sz/\(∀c∈u.cells.toList,c.oneCell'=true))/\cd w ν sz xs a1
end
theorem sC{w w':World}{A A':Nat->Nat->Prop}{b:Nat}(aN:∀b o,A b o->A' b o/\w'.cell? ⟨b,o,none⟩=w.cell? ⟨b,o,none⟩):
  ∀(us:List Value) (off:Nat),h7 w A b off us->h7 w' A' b off us
 |[],_,_=>trivial
 |_::us,off,h=>⟨⟨(aN _ _ h.1.1).1,(aN _ _ h.1.1).2.trans h.1.2⟩,sC aN us (off+1) h.2⟩
mutual
theorem pY{t:Bool}{w w':World}{A A':Nat->Nat->Prop}(aN:∀b o,A b o->A' b o/\w'.cell? ⟨b,o,none⟩=w.cell? ⟨b,o,none⟩)(ao:∀b o,A b o->shape w' b=shape w b):∀(p:ab) (F mg:Nat->Prop) (v:Value),(∀b,F b->mg b)->bS t w A F p v->bS t w' A' mg p v
 | .int k n,_,_,_,_,h=>by simp only[bS]at h⊢;exact h
 | .bool b,_,_,_,_,h=>by simp only[bS]at h⊢;exact h
 | .str s,_,_,_,_,h=>by simp only[bS]at h⊢;exact h
 | .slice sz tag xs,F,mg,v,ev,h=>by
  simp only[bS]at h⊢;obtain⟨a,cap,I,aa,ak,aJ⟩:=h;refine⟨a,cap,I,aa,ak,?_⟩;rcases aJ with aJ|⟨b,off,us,G,ai,aE,bb,b9,ft,dz⟩
  ·exact .inl aJ
  ·refine .inr ⟨b,off,us,G,ai,ev _ aE,fun c aA=>⟨ev _ (bb c aA).1,(bb c aA).2⟩,sC aN _ _ b9,fun au=>?_,zk aN ao xs G G _ (fun _ h=>h) dz⟩;obtain⟨f1,f2,el,f3⟩:=ft au;refine⟨f1,f2,el,?_⟩;cases us with
   |nil=>simp at f2
   |cons u us=>rw[ao b off b9.1.1];exact f3
 | .agg cs,F,mg,v,ev,h=>by simp only[bS]at h⊢;obtain⟨us,I,aa⟩:=h;exact⟨us,I,HD aN ao cs F mg _ ev aa⟩
 | .junk,_,_,_,_,h=>by simp[bS]at h
 | .ptr _ _,_,_,_,_,h=>by simp[bS]at h
 | .eptr _,_,_,_,_,h=>by simp[bS]at h
 | .iface _ _,_,_,_,_,h=>by simp[bS]at h
 | .nilp,_,_,_,_,h=>by simp[bS]at h
 | .tuple _,_,_,_,_,h=>by simp[bS]at h
 | .func _ _,_,_,_,_,h=>by simp[bS]at h
 | .gmap _,_,_,_,_,h=>by simp[bS]at h
 | .row _ _ _,_,_,_,_,h=>by simp[bS]at h
 | .rptr _ _ _ _ _,_,_,_,_,h=>by simp[bS]at h
 | .hdm _ _,_,_,_,_,h=>by simp[bS]at h
 | .hdi _ _ _,_,_,_,_,h=>by simp[bS]at h
 | .cst _,_,_,_,_,h=>by simp[bS]at h
theorem HD{t:Bool}{w w':World}{A A':Nat->Nat->Prop}(aN:∀b o,A b o->A' b o/\w'.cell? ⟨b,o,none⟩=w.cell? ⟨b,o,none⟩)(ao:∀b o,A b o->shape w' b=shape w b):∀(cs:List ab) (F mg:Nat->Prop) (us:List Value),(∀b,F b->mg b)->h1 t w A F cs us->h1 t w' A' mg cs us
 |[],_,_,_,_,h=>by simp only[h1]at h⊢;exact h
 |c::cs,F,mg,us,ev,h=>by simp only[h1]at h⊢;obtain⟨u,a1,e1,e2,I,⟨aa,ak,aJ⟩,⟨ba,cq⟩,dR⟩:=h;exact⟨u,a1,e1,e2,I,⟨fun b af=>ev _ (aa b af),fun b af=>ev _ (ak b af),aJ⟩,⟨pY aN ao c e1 e1 u (fun _ h=>h) ba,cq⟩,HD aN ao cs e2 e2 a1 (fun _ h=>h) dR⟩
theorem zk{t:Bool}{w w':World}{A A':Nat->Nat->Prop}(aN:∀b o,A b o->A' b o/\w'.cell? ⟨b,o,none⟩=w.cell? ⟨b,o,none⟩)(ao:∀b o,A b o->shape w' b=shape w b){sz:Nat}:∀(cs:List ab) (F mg:Nat->Prop) (us:List Value),(∀b,F b->mg b)->hs t w A F sz cs us->hs t w' A' mg sz cs us
 |[],_,_,_,_,h=>by simp only[hs]at h⊢;exact h
 |c::cs,F,mg,us,ev,h=>by simp only[hs]at h⊢;obtain⟨u,a1,e1,e2,I,⟨aa,ak,aJ⟩,⟨ba,cq⟩,dR⟩:=h;exact⟨u,a1,e1,e2,I,⟨fun b af=>ev _ (aa b af),fun b af=>ev _ (ak b af),aJ⟩,⟨pY aN ao c e1 e1 u (fun _ h=>h) ba,cq⟩,zk aN ao cs e2 e2 a1 (fun _ h=>h) dR⟩
end
mutual
def kin(S:aq->Prop):ab->Prop
 | .slice _ tag xs=>(match tag with| .own k=>S k| .tr k _=>S k| .lo k=>S k|_=>True)/\kinL S xs
 | .agg cs=>kinL S cs
 | .ptr k _=>S k
 | .eptr x=>kin S x
 | .iface _ x=>kin S x
 | .tuple vs=>kinL S vs
 | .func _ cP=>kinL S cP
 | .gmap k=>S k
 | .row _ k _=>S k
 | .rptr _ k _ _ _=>S k
 |_=>True
def kinL(S:aq->Prop):List ab->Prop
 |[]=>True
 |x::xs=>kin S x/\kinL S xs
end
mutual
theorem mC{S T:aq->Prop}(h:∀k,S k->T k):∀p:ab,kin S p->kin T p
 | .junk,_=>by simp[kin]
 | .int _ _,_=>by simp[kin]
 | .bool _,_=>by simp[kin]
 | .str _,_=>by simp[kin]
 | .slice sz tag xs,aV=>by simp only[kin]at aV⊢;exact⟨by cases tag<;>first|trivial|exact h _ aV.1,lv h xs aV.2⟩
 | .agg cs,aV=>by simp only[kin]at aV⊢;exact lv h cs aV
 | .ptr k _,aV=>by simp only[kin]at aV⊢;exact h _ aV
 | .eptr x,aV=>by simp only[kin]at aV⊢;exact mC h x aV
 | .iface _ x,aV=>by simp only[kin]at aV⊢;exact mC h x aV
 | .nilp,_=>by simp[kin]
 | .tuple vs,aV=>by simp only[kin]at aV⊢;exact lv h vs aV
 | .func _ cP,aV=>by simp only[kin]at aV⊢;exact lv h cP aV
 | .gmap k,aV=>by simp only[kin]at aV⊢;exact h _ aV
 | .row _ k _,aV=>by simp only[kin]at aV⊢;exact h _ aV
 | .rptr _ k _ _ _,aV=>by simp only[kin]at aV⊢;exact h _ aV
 | .hdm _ _,_=>by simp[kin]
 | .hdi _ _ _,_=>by simp[kin]
 | .cst _,_=>by simp[kin]
theorem lv{S T:aq->Prop}(h:∀k,S k->T k):∀aX:List ab,kinL S aX->kinL T aX
 |[],_=>by simp[kinL]
 |x::xs,aV=>by simp only[kinL]at aV⊢;exact⟨mC h x aV.1,lv h xs aV.2⟩
end
mutual
theorem z8:∀p:ab,kin (fun _=>True) p
 | .junk=>by simp[kin]
 | .int _ _=>by simp[kin]
 | .bool _=>by simp[kin]
 | .str _=>by simp[kin]
 | .slice sz tag xs=>by simp only[kin];exact⟨by cases tag<;>trivial,sA xs⟩
 | .agg cs=>by simp only[kin];exact sA cs
 | .ptr k _=>by simp[kin]
 | .eptr x=>by simp only[kin];exact z8 x
 | .iface _ x=>by simp only[kin];exact z8 x
 | .nilp=>by simp[kin]
 | .tuple vs=>by simp only[kin];exact sA vs
 | .func _ cP=>by simp only[kin];exact sA cP
 | .gmap k=>by simp[kin]
 | .row _ k _=>by simp[kin]
 | .rptr _ k _ _ _=>by simp[kin]
 | .hdm _ _=>by simp[kin]
 | .hdi _ _ _=>by simp[kin]
 | .cst _=>by simp[kin]
theorem sA:∀aX:List ab,kinL (fun _=>True) aX
 |[]=>by simp[kinL]
 |x::xs=>by simp only[kinL];exact⟨z8 x,sA xs⟩
end
def eG:List Nat->List Value->List MapEntry
 |b::dq,k::v::r=>⟨k,v,b⟩::eG dq r
 |_,_=>[]
def hl(cs:List ab)(us:Array Value)(el:eO):Obj:=
 match cs with
 | .hdm clock borns::_=>.map (eG borns us.toList).toArray clock
 | .hdi since seen last::_=>.mapIter (match us.toList with|[.map m]=>m|_=>none) since seen.toArray last
 |_=>.cells us el
structure RZ (clock:Nat) (borns:List Nat) (r:List ab):Prop where
 len:r.length=2*borns.length
 inc:borns.Pairwise (· < ·)
 lt:∀b∈borns,b<clock
def gI(w:World)(ν:aC)(cs:List ab)(us:List Value):Prop:=
 match cs with
 | .hdm clock borns::r=>bT w ν r us/\RZ clock borns r
 | .hdi _ _ _::r=>bT w ν r us
 |cs=>bV w ν cs us
def fp:List ab->Bool
 | .hdm _ _::_=>false
 | .hdi _ _ _::_=>false
 |_=>true
theorem qc{w:World}{ν:aC}{cs:List ab}{us:List Value}(h:bV w ν cs us):fp cs=true:=by
 unfold fp;split
 ·simp only[bV,aw]at h;obtain⟨_,_,_,⟨h,_⟩,_⟩:=h;exact h.elim
 ·simp only[bV,aw]at h;obtain⟨_,_,_,⟨h,_⟩,_⟩:=h;exact h.elim
 ·rfl
theorem lA{cs:List ab}(h:fp cs=true)(us:Array Value)(el:eO):hl cs us el= .cells us el:=by
 unfold fp at h;unfold hl;split at h<;>first|cases h|skip
 rfl
theorem k7{w:World}{ν:aC}{cs:List ab}(h:fp cs=true)(us:List Value):gI w ν cs us=bV w ν cs us:=by
 unfold fp at h;unfold gI;split at h<;>first|cases h|skip
 rfl
structure kI (S:aq->Prop) (w:World) (ν:aC) (w':World) (ν':aC):Prop where
 A:∀b o,ν.A b o->ν'.A b o/\w'.cell? ⟨b,o,none⟩=w.cell? ⟨b,o,none⟩
 bx:∀k b,S k->ν.bx k=some b->ν'.bx k=some b
 ow:∀g n u,S g->ν.ow g=some (n,u)->∃n' dn,ν'.ow g=some (n',dn)/\(n'=n/\dn=u\/n<n')
 sh:∀b o,ν.A b o->shape w' b=shape w b
 tr:∀k j b,S k->ν.tr k j b->ν'.tr k j b
abbrev kh:=kI (fun _=>True)
mutual
theorem oo{S:aq->Prop}{w w':World}{ν ν':aC}(ag:kI S w ν w' ν'):∀(p:ab) (v:Value),kin S p->aw w ν p v->aw w' ν' p v
 | .junk,_,_,_=>by simp[aw]
 | .int k n,_,_,h=>by simp only[aw]at h⊢;exact h
 | .bool b,_,_,h=>by simp only[aw]at h⊢;exact h
 | .str s,_,_,h=>by simp only[aw]at h⊢;exact h
 | .slice sz tag xs,v,J,h=>by
  simp only[aw,kin]at h J⊢;obtain⟨⟨a,cap,I,aa,ak,aJ⟩,ba,cq,hK,gC⟩:=h;refine⟨⟨a,cap,I,aa,ak,?_⟩,ba,fun g aL=>?_,fun k j fS=>?_,fun k fS=>?_⟩
  ·rcases aJ with aJ|⟨b,off,us,aJ,cq,dR⟩
   ·exact .inl aJ
   ·exact .inr ⟨b,off,us,aJ,sC ag.A _ _ cq,AY ag sz xs us J.2 dR⟩
  ·obtain⟨n,u,ai,aE,bb⟩:=cq g aL;subst aL;obtain⟨n',dn,f1,f2⟩:=ag.ow g n u J.1 ai;refine⟨n',dn,f1,?_⟩;rcases f2 with⟨rfl,rfl⟩|f2
   ·exact⟨aE,bb⟩
   ·exact⟨Ω,fun e=>Ω⟩
  ·have:=hK k j fS;subst fS;exact pY ag.A ag.sh _ _ _ _ (fun b=>ag.tr k j b J.1) this
  ·have:=gC k fS;subst fS;exact pY ag.A ag.sh _ _ _ _ (fun b=>ag.tr k 0 b J.1) this
 | .agg cs,v,J,h=>by simp only[aw,kin]at h J⊢;obtain⟨us,I,aa⟩:=h;exact⟨us,I,A0 ag cs _ J aa⟩
 | .ptr key off,v,J,h=>by simp only[aw,kin]at h J⊢;obtain⟨b,I,aa⟩:=h;exact⟨b,ag.bx _ _ J I,aa⟩
 | .iface t x,v,J,h=>by simp only[aw,kin]at h J⊢;obtain⟨u,I,aa⟩:=h;exact⟨u,I,oo ag x u J aa⟩
 | .eptr x,v,J,h=>by simp only[aw,kin]at h J⊢;obtain⟨b,off,u,I,aa,ak⟩:=h;exact⟨b,off,u,I,oo ag x u J aa,sC ag.A _ _ ak⟩
 | .nilp,_,_,h=>by simp only[aw]at h⊢;exact h
 | .tuple vs,v,J,h=>by simp only[aw,kin]at h J⊢;obtain⟨us,I,aa⟩:=h;exact⟨us,I,wa ag vs _ J aa⟩
 | .func f cP,v,J,h=>by simp only[aw,kin]at h J⊢;obtain⟨us,I,aa⟩:=h;exact⟨us,I,wa ag cP _ J aa⟩
 | .gmap key,v,J,h=>by simp only[aw,kin]at h J⊢;obtain⟨b,I,aa⟩:=h;exact⟨b,ag.bx _ _ J I,aa⟩
 | .row sz key n,v,J,h=>by
  simp only[aw,kin]at h J⊢;obtain⟨I,aa,n',u,ak,aJ,ba⟩:=h;obtain⟨eA,hP,f1,f2⟩:=ag.ow key n' u J ak;refine⟨I,aa,eA,hP,f1,?_⟩;rcases f2 with⟨rfl,rfl⟩|f2
  ·exact⟨aJ,ba⟩
  ·exact⟨Ω,fun e=>Ω⟩
 | .rptr sz key n i f,v,J,h=>by
  simp only[aw,kin]at h J⊢;obtain⟨I,aa,n',u,ak,aJ,ba⟩:=h;obtain⟨eA,hP,f1,f2⟩:=ag.ow key n' u J ak;refine⟨I,aa,eA,hP,f1,?_⟩;rcases f2 with⟨rfl,rfl⟩|f2
  ·exact⟨aJ,ba⟩
  ·exact⟨Ω,fun e=>Ω⟩
 | .hdm _ _,_,_,h=>by simp only[aw]at h
 | .hdi _ _ _,_,_,h=>by simp only[aw]at h
 | .cst c,_,_,h=>by simp only[aw]at h⊢;exact h
theorem A0{S:aq->Prop}{w w':World}{ν ν':aC}(ag:kI S w ν w' ν'):∀(cs:List ab) (us:List Value),kinL S cs->bV w ν cs us->bV w' ν' cs us
 |[],_,_,h=>by simp only[bV]at h⊢;exact h
 |c::cs,us,J,h=>by simp only[bV,kinL]at h J⊢;obtain⟨u,a1,I,aa,ak⟩:=h;exact⟨u,a1,I,⟨oo ag c u J.1 aa.1,aa.2⟩,A0 ag cs a1 J.2 ak⟩
theorem wa{S:aq->Prop}{w w':World}{ν ν':aC}(ag:kI S w ν w' ν'):∀(cs:List ab) (us:List Value),kinL S cs->bT w ν cs us->bT w' ν' cs us
 |[],_,_,h=>by simp only[bT]at h⊢;exact h
 |c::cs,us,J,h=>by simp only[bT,kinL]at h J⊢;obtain⟨u,a1,I,aa,ak⟩:=h;exact⟨u,a1,I,oo ag c u J.1 aa,wa ag cs a1 J.2 ak⟩
theorem AY{S:aq->Prop}{w w':World}{ν ν':aC}(ag:kI S w ν w' ν')(sz:Nat):∀(xs:List ab) (us:List Value),kinL S xs->cd w ν sz xs us->cd w' ν' sz xs us
 |[],_,_,h=>by simp only[cd]at h⊢;exact h
 |x::xs,us,J,h=>by simp only[cd,kinL]at h J⊢;obtain⟨u,a1,I,⟨aa,ak,aJ⟩,ba⟩:=h;exact⟨u,a1,I,⟨oo ag x u J.1 aa,ak,aJ⟩,AY ag sz xs a1 J.2 ba⟩
end
theorem Ev{S:aq->Prop}{w w':World}{ν ν':aC}(ag:kI S w ν w' ν'){cs:List ab}{us:List Value}(J:kinL S cs)(h:gI w ν cs us):gI w' ν' cs us:=by
 unfold gI at h⊢;split
 ·simp only[kinL]at J;exact⟨wa ag _ _ J.2 h.1,h.2⟩
 ·simp only[kinL]at J;exact wa ag _ _ J.2 h
 ·rename_i I aa;split at h
  ·exact absurd rfl (I _ _ _)
  ·exact absurd rfl (aa _ _ _ _)
  ·exact A0 ag _ _ J h
section
variable {w w':World} {ν ν':aC} (ag:kh w ν w' ν')
include ag
theorem rb{p:ab}{v:Value}(h:aw w ν p v):aw w' ν' p v:=oo ag p v (z8 p) h
theorem KN{p:List ab}{v:List Value}(h:bV w ν p v):bV w' ν' p v:=A0 ag p v (sA p) h
theorem ny{p:List ab}{v:List Value}(h:gI w ν p v):gI w' ν' p v:=Ev ag (sA p) h
theorem vY{sz:Nat}{p:List ab}{v:List Value}(h:cd w ν sz p v):cd w' ν' sz p v:=AY ag sz p v (sA p) h
end
end
section
open Go Go.RowKit
def get(k:Nat):List (Nat×ab)->ab
 |[]=>.junk
 |(i,p)::r=>if i=k then p else get k r
def put(k:Nat)(p:ab):List (Nat×ab)->List (Nat×ab)
 |[]=>[(k,p)]
 |(i,q)::r=>if i=k then(i,p)::r else(i,q)::put k p r
def look{α:Type}(k:aq):List (aq×α)->aR α
 |[]=>none
 |(i,p)::r=>if i=k then some p else look k r
def cu{α:Type}(k:aq)(p:α):List (aq×α)->List (aq×α)
 |[]=>[(k,p)]
 |(i,q)::r=>if i=k then(i,p)::r else(i,q)::cu k p r
theorem nc(k j:Nat)(p:ab):∀l,get j (put k p l)=if k=j then p else get j l
 |[]=>by simp[get,put]
 |(i,q)::r=>by
  by_cases h:i=k
  ·subst h;by_cases aa:i=j<;>simp[get,put,aa]
  ·by_cases aa:i=j
   ·subst aa;simp[get,put,h,Ne.symm h]
   ·simp[get,put,h,aa,nc k j p r]
theorem hD{α:Type}(k j:aq)(p:α):∀l,look j (cu k p l)=if k=j then some p else look j l
 |[]=>by simp[look,cu]
 |(i,q)::r=>by
  by_cases h:i=k
  ·subst h;by_cases aa:i=j<;>simp[look,cu,aa]
  ·by_cases aa:i=j
   ·subst aa;simp[look,cu,h,Ne.symm h]
   ·simp[look,cu,h,aa,hD k j p r]
structure cp where
 n:Nat
 el:Nat
 sz:Nat
 xs:aR (List ab)
def EG(w:World)(ν:aC)(o:cp)(v:Value)(us:List Value):Prop:=∀xs,o.xs=some xs->xs.length=o.n/\cd w ν o.sz xs us/\∀bl,v.ownBlock=some bl->∀j,¬ν.A bl j
theorem pA{w w':World}{ν ν':aC}(ag:kh w ν w' ν'){o:cp}{v:Value}{us:List Value}(aN:∀bl,v.ownBlock=some bl->∀j,ν'.A bl j->ν.A bl j)(h:EG w ν o v us):EG w' ν' o v us:=fun xs ad=>⟨(h xs ad).1,vY ag (h xs ad).2.1,fun bl af j av=>(h xs ad).2.2 bl af j (aN bl af j av)⟩
def eD(S:aq->Prop)(o:cp):Prop:= ∀xs,o.xs=some xs->kinL S xs
structure aM where
 t:List (Nat×ab)
 b:List (aq×List ab)
 e:List (aq×cp)
 n:Nat
 o:List aq
def fresh(n:Nat)(o:List aq)(k:aq):Prop:=(match k with| .loc m=>n<=m| .obj _=>True)/\k∉o
theorem n3{n n':Nat}{o o':List aq}(aU:n<=n')(ag:∀k∈o,k∈o'){k:aq}(h:fresh n' o' k):fresh n o k:=by unfold fresh at h⊢;exact⟨by cases k<;>simp at h⊢;omega,fun J=>h.2 (ag k J)⟩
def sT(ν:aC)(b:List (aq×List ab))(e:List (aq×cp))(bl:Nat):Prop:=(∃k,(look k b).isSome/\ν.bx k=some bl)\/(∃g n v,(look g e).isSome/\ν.ow g=some (n,v)/\v.ownBlock=some bl)
def E8:Nat:=0
def Bs(k:aq):={el:eO//k= .obj 861->el=E8}
structure Good (pr:Nat->Prop) (w:World) (ν:aC) (b:List (aq×List ab)) (e:List (aq×cp)):Prop where
 alt:∀bl o,ν.A bl o->bl<w.heap.size
 box:∀k cs,look k b=some cs->∃(bl:Nat) (us:Array Value) (el:Bs k),ν.bx k=some bl/\pr bl/\(∀o,¬ν.A bl o)/\w.heap[bl]? =some (hl cs us el.1)/\gI w ν cs us.toList
 inj:∀k aW bl,(look k b).isSome->(look aW b).isSome->ν.bx k=some bl->ν.bx aW=some bl->k=aW
 own:∀g o,look g e=some o->∃v us,ν.ow g=some (o.n,v)/\w.ownsRow 0 o.el o.sz v o.n us/\(∀bl,v.ownBlock=some bl->pr bl/\(∀j,ν.A bl j->j<o.n*o.sz))/\EG w ν o v us
 oinj:∀g dF n n' v v' bl,(look g e).isSome->(look dF e).isSome->ν.ow g=some (n,v)->ν.ow dF=some (n',v')->v.ownBlock=some bl->v'.ownBlock=some bl->g=dF
 obx:∀g k n v bl,(look g e).isSome->(look k b).isSome->ν.ow g=some (n,v)->v.ownBlock=some bl->ν.bx k=some bl->cv
 one:∀k,ν.bx k=none\/ν.ow k=none
 otr:∀bl,sT ν b e bl->∀k j,¬ν.tr k j bl
def r1:List (Nat×Nat×Nat×(Value->Prop)):=((List.range 20).map fun i=>(2,i,20,fun v=>v=Value.int .u64 ((10 ^ i:Nat):Int)))++[(0,0,1,fun v=> ∃t p,v=Value.iface t p),(1,0,1,fun v=> ∃t p,v=Value.iface t p)]
def lG(w:World)(ν:aC):Prop:= ∀x∈r1,ν.A x.1 x.2.1/\(∃v,w.cell? ⟨x.1,x.2.1,none⟩=some v/\x.2.2.2 v)/\∃el,shape w x.1=some (x.2.2.1,el)
structure db where
 w0:World
 ν0:aC
 mt:Nat->Prop
 N:Nat
 ob:List aq
 gl:lG w0 ν0
 ex:List (ab×Value)
def db.pr(C:db)(bl:Nat):Prop:=C.mt bl\/C.w0.heap.size<=bl
def dj:aq:= .obj 990001
structure mh (C:db) (w:World) (ν:aC):Prop where
 os:w.os=C.w0.os
 tape:w.tape=C.w0.tape
 output:w.output=C.w0.output
 size:C.w0.heap.size<=w.heap.size
 block:∀k,k<C.w0.heap.size->¬C.mt k->w.heap[k]? =C.w0.heap[k]?
 keep:∀b o,C.ν0.A b o->ν.A b o/\w.cell? ⟨b,o,none⟩=C.w0.cell? ⟨b,o,none⟩
 fresh:∀b o,ν.A b o->C.ν0.A b o\/C.pr b
 obj:∀n b,C.ν0.bx (.obj n)=some b->ν.bx (.obj n)=some b
 obn:∀n b,C.ν0.bx (.obj n)=some b-> .obj n∈C.ob
 row:∀m n u,C.ν0.ow (.obj m)=some (n,u)->∃n' dn,ν.ow (.obj m)=some (n',dn)/\(n'=n/\dn=u\/n<n')
 obr:∀m n u,C.ν0.ow (.obj m)=some (n,u)-> .obj m∈C.ob
 trd:∀k j aW dc b,ν.tr k j b->ν.tr aW dc b->k=aW/\j=dc
 trb:∀k j b,ν.tr k j b->(k=dj\/C.w0.heap.size<=b)/\b<w.heap.size
 trn:∀k j b,ν.tr k j b->ν.bx k=none/\ν.ow k=none
 sh:∀b o,C.ν0.A b o->shape w b=shape C.w0 b
 nrow:∀j n u b,ν.ow (.loc j)=some (n,u)->u.ownBlock=some b->C.w0.heap.size<=b
theorem mh.gl{C:db}{w:World}{ν:aC}(h:mh C w ν):lG w ν:=fun x ad=>⟨(h.keep _ _ (C.gl x ad).1).1,(C.gl x ad).2.1.imp fun _ aY=>⟨(h.keep _ _ (C.gl x ad).1).2.trans aY.1,aY.2⟩,(C.gl x ad).2.2.imp fun _ aY=>(h.sh _ _ (C.gl x ad).1).trans aY⟩
theorem ym{ν ν':aC}{g:aq}{n:Nat}{u:Value}(h:∃n' dn,ν.ow g=some (n',dn)/\(n'=n/\dn=u\/n<n'))(ag:∀n u,ν.ow g=some (n,u)->∃n' dn,ν'.ow g=some (n',dn)/\(n'=n/\dn=u\/n<n')):
  ∃n' dn,ν'.ow g=some (n',dn)/\(n'=n/\dn=u\/n<n'):=by
 obtain⟨e9,hY,ai,aE⟩:=h;obtain⟨eA,hP,f1,f2⟩:=ag e9 hY ai;refine⟨eA,hP,f1,?_⟩;rcases aE with⟨rfl,rfl⟩|aE
 ·exact f2
 ·rcases f2 with⟨rfl,rfl⟩|f2
  ·exact .inr aE
  ·exact .inr Ω
structure bK (C:db) (st:aM) (a:Act) (w:World) (ν:aC):Prop where
 good:Good C.pr w ν st.b st.e
 fr:mh C w ν
 defers:a.defers=[]
 size:a.tmps.size=C.N
 slot:∀i,aw w ν (get i st.t) (a.tmps.getD i undef)
 new:∀k,fresh st.n st.o k->ν.bx k=none/\ν.ow k=none/\∀j b,¬ν.tr k j b
 ext:∀x∈C.ex,aw w ν x.1 x.2/\kin (fun k=>k∈C.ob) x.1
 obk:∀m∈C.ob,¬fresh st.n st.o m
def eB(d:aR Nat)(p:ab)(t:List (Nat×ab)):List (Nat×ab):=
 match d with
 |some d=>put d p t
 |none=>t
def fZ(N:Nat)(d:aR Nat):Bool:=match d with|some d=>decide (d<N)|none=>true
theorem bK.put{C:db}{st:aM}{a:Act}{w:World}{ν:aC}(h:bK C st a w ν){d:aR Nat}(aG:fZ C.N d=true){p:ab}{v:Value}(aV:aw w ν p v):
  bK C {st with t:=eB d p st.t} (a.put d v) w ν:=by
 cases d with
 |none=>exact h
 |some d=>
  have b4:d<a.tmps.size:=by rw[h.size];simpa[fZ]using aG
  refine⟨h.good,h.fr,h.defers,by simpa[Act.put]using h.size,fun i=>?_,h.new,h.ext,h.obk⟩;simp only[eB,nc];by_cases e:d=i
  ·subst e;simpa[Act.put,l8,b4]using aV
  ·have:=h.slot i;simpa[e,Act.put,l8,Array.getElem?_setIfInBounds_ne e]using this
theorem bK.over{C:db}{st st':aM}{a:Act}{w w':World}{ν ν':aC}(h:bK C st a w ν)(ag:kh w ν w' ν')(au:st'.t=st.t)(aL:Good C.pr w' ν' st'.b st'.e)(aH:mh C w' ν')
  (aU:∀k,fresh st'.n st'.o k->ν'.bx k=none/\ν'.ow k=none/\∀j b,¬ν'.tr k j b) (dI:∀m,fresh st'.n st'.o m->fresh st.n st.o m:=by exact fun _ h=>h):bK C st' a w' ν':=
 ⟨aL,aH,h.defers,h.size,fun i=>by rw[au];exact rb ag (h.slot i),aU,fun x ad=>⟨rb ag (h.ext x ad).1,(h.ext x ad).2⟩,fun m hm aH=>h.obk m hm (dI m aH)⟩
inductive cl where
 |t (i:Nat)
 |c (p:ab)
 deriving Inhabited
def bg(t:List (Nat×ab)):cl->ab
 | .t i=>get i t
 | .c p=>p
def yR:ab->Value->Bool
 | .int k n,.int aW n'=>decide (k=aW/\n=n')
 | .bool b,.bool fa=>b==fa
 | .str s,.string l=>decide (l.data.toList=s/\s.length<=b0)
 | .slice _ .nil [],.slice none 0 0=>true
 | .nilp,.pointer none=>true
 | .tuple [],.tuple ⟨[]⟩=>true
 | .func f [],.func (.func g) ⟨[]⟩ ⟨[]⟩=>decide (f=g/\f<1000000)
 | .junk,_=>true
 |_,_=>false
theorem F9(w:World)(ν:aC){p:ab}{v:Value}(h:yR p v=true):aw w ν p v:=by
 unfold yR at h;split at h
 ·simp at h;obtain⟨rfl,rfl⟩:=h;simp[aw]
 ·simp at h;subst h;simp[aw]
 ·rename_i s l;simp at h;obtain⟨I,aa⟩:=h;refine⟨?_,aa⟩;subst I;simp
 ·simp only[aw];refine⟨⟨none,0,rfl,Ψ,Ψ,Ψ⟩,Ψ,(fun _ h=>by cases h),(fun _ _ h=>by cases h),(fun _ h=>by cases h)⟩
 ·simp[aw]
 ·simp[aw,bT]
 ·simp at h;obtain⟨rfl,h⟩:=h;simp[aw,bT,pW,h]
 ·simp[aw]
 ·cases h
def uH:List ab->List Value->Bool
 |[],[]=>true
 |p::aX,v::vs=>yR p v&&v.oneCell'&&uH aX vs
 |_,_=>false
def uG:ab->Value->Bool
 | .agg cs,.agg us=>uH cs us.toList
 |p,v=>yR p v
theorem Ga(w:World)(ν:aC):∀(aX:List ab) (vs:List Value),uH aX vs=true->bV w ν aX vs
 |[],[],_=>by simp[bV]
 |[],_::_,h=>by simp[uH]at h
 |_::_,[],h=>by simp[uH]at h
 |p::aX,v::vs,h=>by simp only[uH,bD]at h;simp only[bV];exact⟨v,vs,rfl,⟨F9 w ν h.1.1,h.1.2⟩,Ga w ν aX vs h.2⟩
theorem BF(w:World)(ν:aC){p:ab}{v:Value}(h:uG p v=true):aw w ν p v:=by
 unfold uG at h;split at h
 ·simp only[aw];exact⟨_,rfl,Ga w ν _ _ h⟩
 ·exact F9 w ν h
def cZ:cl->gY->Bool
 | .t i,.tmp j=>i==j
 | .c p,.const v=>uG p v
 | .c (.func f []),.func g=>decide (f=g/\f<1000000)
 |_,_=>false
theorem c1{C:db}{st:aM}{a:Act}{w:World}{ν:aC}(h:bK C st a w ν){x:cl}{o:gY}(ad:cZ x o=true):aw w ν (bg st.t x) (a.eval o):=by
 unfold cZ at ad;split at ad
 ·simp at ad;subst ad;simpa[bg,Act.eval]using h.slot _
 ·simpa[bg,Act.eval]using BF w ν ad
 ·simp at ad;obtain⟨rfl,ad⟩:=ad;simp[bg,Act.eval,aw,bT,pW,ad]
 ·cases ad
inductive wL where
 |int (k:IntKind)
 |bool
 |str
 |slice (e:Nat)
 |struct (cR:List (Nat×Nat))
 |map (k e:Nat)
 |other
 |iface
 deriving DecidableEq
structure cm where
 size:Nat
 bytes:Nat
 kind:wL
 zero:ab
def wL.isAgg:wL->Bool
 | .struct _=>true
 |_=>false
def wD:List ab->List Value->Bool
 |[],[]=>true
 |p::aX,v::vs=>uG p v&&v.oneCell'&&wD aX vs
 |_,_=>false
def ux:ab->Value->Bool
 | .agg cs,.agg us=>wD cs us.toList
 | .agg _,_=>false
 |p,v=>uG p v&&v.oneCell'
def jH:wL->TypeDesc->Bool
 | .int k,.int aW=>decide (k=aW)
 | .bool,.bool=>true
 | .str,.string=>true
 | .slice e,.slice fC=>e==fC
 | .struct cR,.struct gs=>decide (gs.toList.map (fun f=>(f.offset,f.type))=cR)
 | .map k e,.map aW fC=>k==aW&&e==fC
 | .iface,.interface _=>true
 | .other,d=>match d with| .struct _| .array _ _| .int _| .bool| .string| .slice _=>false|_=>true
 |_,_=>false
def Hu(P:bm)(gs:Array Field):Bool:=gs.toList.all fun f=>match P.underlying f.type with|some (.int _)=>true|some .string=>true|_=>false
def GP(P:bm)(t:Nat)(gs:Array Field):Bool:=gs.toList.all (fun f=>f.name != "_")&& !P.stoodInHeld t&& !P.eqGuardType P.depth t
def BR(P:bm)(t:Nat):TypeDesc->Bool
 | .struct gs=> !Hu P gs||GP P t gs
 |_=>true
def E9(P:bm)(t:Nat)(f:cm):Bool:=
 match P.info? t,P.underlying t with
 |some i,some d=>BR P t d&&i.size==f.size&&i.bytes==f.bytes&&jH f.kind d&&(match i.zero with|some z=>ux f.zero z&&z.cells.size==f.size|none=>false)
 |_,_=>false
def dE(P:bm)(aQ:List (Nat×cm)):Bool:=(aQ.all fun x=>E9 P x.1 x.2)&&decide (P.funcs.size<=1000000)
theorem dE.sz{P:bm}{aQ:List (Nat×cm)}(h:dE P aQ=true):P.funcs.size<=1000000:=by unfold dE at h;rw[bD,fQ]at h;exact h.2
def cV(aQ:List (Nat×cm))(t:Nat):aR cm:=(aQ.find? fun x=>x.1==t).map (·.2)
theorem Ua{P:bm}{aQ:List (Nat×cm)}(h:dE P aQ=true){t:Nat}{f:cm}(aH:cV aQ t=some f):E9 P t f=true:=by
 unfold cV at aH;cases ad:aQ.find? fun x=>x.1==t with
 |none=>simp[ad]at aH
 |some x=>simp[ad]at aH;have I:=List.find?_some ad;simp at I;have aa:=List.mem_of_find?_eq_some ad;have ak:=kd.1 (by unfold dE at h;rw[bD]at h;exact h.1) x aa;rw[<-aH,<-I];exact ak
structure Md (P:bm) (t:Nat) (f:cm):Prop where
 cmp:∀d,P.underlying t=some d->BR P t d=true
 ex:∃i d z,P.info? t=some i/\P.underlying t=some d/\i.size=f.size/\i.bytes=f.bytes/\jH f.kind d=true/\i.zero=some z/\ux f.zero z=true/\z.cells.size=f.size
theorem ql{P:bm}{aQ:List (Nat×cm)}(h:dE P aQ=true){t:Nat}{f:cm}(aH:cV aQ t=some f):Md P t f:=by
 have h:=Ua h aH;unfold E9 at h;split at h
 ·rename_i i d I aa;simp only[bD,da]at h;obtain⟨⟨⟨⟨bR,ak⟩,aJ⟩,ba⟩,cq⟩:=h;split at cq
  ·rename_i z eZ;simp only[bD,da]at cq;exact⟨fun ik CE=>by rw[aa]at CE;cases CE;exact bR,i,d,z,I,aa,ak,aJ,ba,eZ,cq.1,cq.2⟩
  ·cases cq
 ·cases h
theorem lK(b o j:Nat):(⟨b,o,none⟩:Addr).add j=⟨b,o+j,none⟩:=by
 unfold Addr.add;split
 ·rename_i h;subst h;rfl
 ·rfl
theorem Fz(w:World)(ν:aC):∀(aX:List ab) (vs:List Value),wD aX vs=true->bV w ν aX vs
 |[],[],_=>by simp[bV]
 |[],_::_,h=>by simp[wD]at h
 |_::_,[],h=>by simp[wD]at h
 |p::aX,v::vs,h=>by simp only[wD,bD]at h;simp only[bV];exact⟨v,vs,rfl,⟨BF w ν h.1.1,h.1.2⟩,Fz w ν aX vs h.2⟩
def cells:ab->List ab
 | .agg cs=>cs
 |p=>[p]
def dK:ab->Bool
 | .junk| .tuple _=>false
 | .cst (.slice _ _ _)| .cst (.string _)=>true
 | .cst _=>false
 |_=>true
theorem ED{w:World}{ν:aC}{p:ab}{v:Value}(h:aw w ν p v)(ao:dK p=true)(b1:∀cs,p≠ .agg cs):v.oneCell'=true/\v.cells= #[v]:=by
 cases p<;>simp only[aw,dK]at h ao;case junk=>cases ao
 case tuple=>cases ao
 case cst c=>subst h;cases v<;>first|exact⟨rfl,rfl⟩|cases ao
 case agg cs=>exact absurd rfl (b1 cs)
 case int=>subst h;exact⟨rfl,rfl⟩
 case bool=>subst h;exact⟨rfl,rfl⟩
 case str=>rw[h.1];exact⟨rfl,rfl⟩
 case slice=>obtain⟨⟨a,cap,I,_⟩,_⟩:=h;subst I;exact⟨rfl,rfl⟩
 case ptr=>obtain⟨b,_,I⟩:=h;subst I;exact⟨rfl,rfl⟩
 case eptr=>obtain⟨b,o,u,I,_⟩:=h;subst I;exact⟨rfl,rfl⟩
 case iface=>obtain⟨u,I,_⟩:=h;subst I;exact⟨rfl,rfl⟩
 case nilp=>subst h;exact⟨rfl,rfl⟩
 case func=>obtain⟨us,I,_⟩:=h;subst I;unfold pW;split<;>exact⟨rfl,rfl⟩
 case gmap=>obtain⟨b,_,I⟩:=h;subst I;exact⟨rfl,rfl⟩
 case row=>obtain⟨⟨a,cap,I⟩,_⟩:=h;subst I;exact⟨rfl,rfl⟩
 case rptr=>obtain⟨⟨a,o,I⟩,_⟩:=h;subst I;exact⟨rfl,rfl⟩
theorem ra{w:World}{ν:aC}{p:ab}{v:Value}(h:aw w ν p v)(ao:dK p=true):bV w ν (cells p) v.cells.toList:=by
 by_cases b1:∃cs,p= .agg cs
 ·obtain⟨cs,rfl⟩:=b1;simp only[aw]at h;obtain⟨us,rfl,aa⟩:=h;simpa[cells,mO]using aa
 ·have u9:∀cs,p≠ .agg cs:=fun cs e=>b1 ⟨cs,e⟩;obtain⟨I,aa⟩:=ED h ao u9;have aA:cells p=[p]:=by cases p<;>first|rfl|exact absurd rfl (u9 _)
  rw[aA,aa];simp only[bV];exact⟨v,[],rfl,⟨h,I⟩,rfl⟩
theorem v7{w:World}{ν:aC}:∀{aX:List ab} {vs:List Value},bV w ν aX vs->∀c∈vs,c.oneCell'=true
 |[],vs,h=>by simp only[bV]at h;subst h;simp
 |p::aX,vs,h=>by
  simp only[bV]at h;obtain⟨u,a1,rfl,I,aa⟩:=h;intro c aA;rcases gZ.1 aA with rfl|aA
  ·exact I.2
  ·exact v7 aa c aA
theorem mI{w:World}{ν:aC}:∀{aX:List ab} {vs:List Value},bV w ν aX vs->vs.length=aX.length
 |[],vs,h=>by simp only[bV]at h;subst h;rfl
 |p::aX,vs,h=>by simp only[bV]at h;obtain⟨u,a1,rfl,_,aa⟩:=h;simp[mI aa]
theorem vZ{w:World}{ν:aC}:∀(n:Nat) {aX:List ab} {vs:List Value},bV w ν aX vs->bV w ν (aX.drop n) (vs.drop n)
 |0,_,_,h=>by simpa using h
 |n+1,[],vs,h=>by simp only[bV]at h;subst h;simp[bV]
 |n+1,p::aX,vs,h=>by simp only[bV]at h;obtain⟨u,a1,rfl,_,aa⟩:=h;simpa using vZ n aa
theorem yh{w:World}{ν:aC}:∀(n:Nat) {aX:List ab} {vs:List Value},bV w ν aX vs->bV w ν (aX.take n) (vs.take n)
 |0,_,_,_=>by simp[bV]
 |n+1,[],vs,h=>by simp only[bV]at h;subst h;simp[bV]
 |n+1,p::aX,vs,h=>by simp only[bV]at h;obtain⟨u,a1,rfl,I,aa⟩:=h;simp only[List.take_succ_cons,bV];exact⟨u,_,rfl,I,yh n aa⟩
theorem ug{w:World}{ν:aC}:∀{aX bY:List ab} {vs us:List Value},bV w ν aX vs->bV w ν bY us->bV w ν (aX++bY) (vs++us)
 |[],bY,vs,us,h,cD=>by simp only[bV]at h;subst h;simpa using cD
 |p::aX,bY,vs,us,h,cD=>by simp only[bV]at h;obtain⟨u,a1,rfl,I,aa⟩:=h;simp only[eP,bV];exact⟨u,_,rfl,I,ug aa cD⟩
theorem yg{w:World}{ν:aC}:∀(n:Nat) {aX:List ab} {vs:List Value} {p:ab},bV w ν aX vs->aX[n]? =some p->∃v,vs[n]? =some v/\aw w ν p v/\v.oneCell'=true
 |n,[],_,p,_,aV=>by simp at aV
 |0,q::aX,vs,p,h,aV=>by simp only[bV]at h;obtain⟨u,a1,rfl,I,_⟩:=h;simp at aV;subst aV;exact⟨u,rfl,I.1,I.2⟩
 |n+1,q::aX,vs,p,h,aV=>by simp only[bV]at h;obtain⟨u,a1,rfl,_,aa⟩:=h;simpa using yg n aa (by simpa using aV)
theorem v8{w:World}{ν:aC}:∀(n:Nat) {aX:List ab} {vs:List Value} {p:ab},bT w ν aX vs->aX[n]? =some p->∃v,vs[n]? =some v/\aw w ν p v
 |n,[],_,p,_,aV=>by simp at aV
 |0,q::aX,vs,p,h,aV=>by simp only[bT]at h;obtain⟨u,a1,rfl,I,_⟩:=h;simp at aV;subst aV;exact⟨u,rfl,I⟩
 |n+1,q::aX,vs,p,h,aV=>by simp only[bT]at h;obtain⟨u,a1,rfl,_,aa⟩:=h;simpa using v8 n aa (by simpa using aV)
theorem p5{w:World}{A:Nat->Nat->Prop}{b:Nat}:∀{us:List Value} {off j:Nat} {u:Value},h7 w A b off us->us[j]? =some u->A b (off+j)/\w.cell? ⟨b,off+j,none⟩=some u
 |[],_,_,_,_,h=>by simp at h
 |x::us,off,0,u,aB,h=>by simp at h;subst h;exact aB.1
 |x::us,off,j+1,u,aB,h=>by have:=p5 (j:=j) aB.2 (by simpa using h);rwa[show off+1+j=off+(j+1)from by omega]at this
theorem Ab{w:World}{A:Nat->Nat->Prop}{b:Nat}:∀(n:Nat) {us:List Value} {off:Nat},h7 w A b off us->h7 w A b (off+n) (us.drop n)
 |0,_,_,h=>by simpa using h
 |n+1,[],_,_=>by simp[h7]
 |n+1,x::us,off,h=>by have:=Ab n h.2;rw[show off+(n+1)=off+1+n from by omega];simpa using this
theorem Ac{w:World}{A:Nat->Nat->Prop}{b:Nat}:∀(n:Nat) {us:List Value} {off:Nat},h7 w A b off us->h7 w A b off (us.take n)
 |0,_,_,_=>by simp[h7]
 |n+1,[],_,_=>by simp[h7]
 |n+1,x::us,off,h=>by simp only[List.take_succ_cons];exact⟨h.1,Ac n h.2⟩
theorem K0{P:bm}{w:World}{A:Nat->Nat->Prop}{b off:Nat}{us:List Value}(h:h7 w A b off us):(loadCells ⟨b,off,none⟩ us.length).run P w= .ok us.toArray w:=run_loadCells_list w _ us fun j v av=>by rw[lK];exact(p5 h av).2
theorem TG{P:bm}{w:World}{b off n:Nat}{us:Array Value}{el:eO}{fr:Nat×Nat}(h:w.heap[b]? =some (.cells us el fr))(aU:off+n<=us.size):
  (loadCells ⟨b,off,none⟩ n).run P w= .ok ((us.toList.drop off).take n).toArray w:=by
 have aB:((us.toList.drop off).take n).length=n:=by simp;omega
 have:=run_loadCells_list (P:=P) w ⟨b,off,none⟩ ((us.toList.drop off).take n) fun j v av=>by
  rw[lK];have Qu:j<n:=by have:=(gp.1 av).1;omega
  simp only[World.cell?,h,qo,ib,if_false];rw[List.getElem?_take]at av;simpa[Qu]using av
 rw[aB]at this;exact this
theorem G7{α:Type}(l r:List α)(n sz:Nat)(h:l.length=sz):(l++r).drop ((n+1)*sz)=r.drop (n*sz):=by
 have e:(n+1)*sz=l.length+n*sz:=by rw[h,Nat.succ_mul,Nat.add_comm]
 rw[e,<-List.drop_drop];simp
theorem Ll{α:Type}(l r:List α)(n sz:Nat)(h:l.length=sz):(l++r).take ((n+1)*sz)=l++r.take (n*sz):=by
 have e:(n+1)*sz=l.length+n*sz:=by rw[h,Nat.succ_mul,Nat.add_comm]
 rw[e,List.take_length_add_append]
theorem AX{w:World}{ν:aC}{sz:Nat}:∀(i:Nat) {xs:List ab} {us:List Value} {p:ab},cd w ν sz xs us->xs[i]? =some p->
  ∃u,aw w ν p u/\u.cells.size=sz/\u.cells.toList=(us.drop (i*sz)).take sz
 |i,[],_,p,_,aV=>by simp at aV
 |0,x::xs,us,p,h,aV=>by
  simp only[cd]at h;obtain⟨u,a1,rfl,⟨I,aa,ak⟩,_⟩:=h;simp at aV;subst aV;refine⟨u,I,aa,?_⟩;have:u.cells.toList.length=sz:=by simpa using aa
  simp[<-this]
 |i+1,x::xs,us,p,h,aV=>by
  simp only[cd]at h;obtain⟨u,a1,rfl,⟨_,aa,_⟩,ba⟩:=h;obtain⟨v,g1,g2,g3⟩:=AX i ba (by simpa using aV);refine⟨v,g1,g2,?_⟩;have:u.cells.toList.length=sz:=by simpa using aa
  rw[g3,G7 _ _ _ _ this]
theorem nz{w:World}{ν:aC}{sz:Nat}:∀{xs:List ab} {us:List Value},cd w ν sz xs us->us.length=xs.length*sz
 |[],us,h=>by simp only[cd]at h;subst h;simp
 |x::xs,us,h=>by
  simp only[cd]at h;obtain⟨u,a1,rfl,⟨_,aa,_⟩,ba⟩:=h;have:u.cells.toList.length=sz:=by simpa using aa
  rw[jT,this,nz ba,mc,Nat.succ_mul];omega
theorem uf{w:World}{ν:aC}{sz:Nat}:∀{xs:List ab} {us:List Value},cd w ν sz xs us->∀c∈us,c.oneCell'=true
 |[],us,h=>by simp only[cd]at h;subst h;simp
 |x::xs,us,h=>by
  simp only[cd]at h;obtain⟨u,a1,rfl,⟨_,_,ak⟩,ba⟩:=h;intro c aA;rcases hp.1 aA with aA|aA
  ·exact ak c aA
  ·exact uf ba c aA
theorem vX{w:World}{ν:aC}{sz:Nat}:∀{aX bY:List ab} {vs us:List Value},cd w ν sz aX vs->cd w ν sz bY us->cd w ν sz (aX++bY) (vs++us)
 |[],bY,vs,us,h,cD=>by simp only[cd]at h;subst h;simpa using cD
 |p::aX,bY,vs,us,h,cD=>by simp only[cd]at h;obtain⟨u,a1,rfl,I,aa⟩:=h;simp only[eP,cd];exact⟨u,a1++us,Ψ,I,vX aa cD⟩
theorem KJ{w:World}{ν:aC}{sz:Nat}:∀(n:Nat) {xs:List ab} {us:List Value},cd w ν sz xs us->cd w ν sz (xs.drop n) (us.drop (n*sz))
 |0,_,_,h=>by simpa using h
 |n+1,[],us,h=>by simp only[cd]at h;subst h;simp[cd]
 |n+1,x::xs,us,h=>by
  simp only[cd]at h;obtain⟨u,a1,rfl,⟨_,aa,_⟩,ba⟩:=h;have:u.cells.toList.length=sz:=by simpa using aa
  rw[G7 _ _ _ _ this];simpa using KJ n ba
theorem KM{w:World}{ν:aC}{sz:Nat}:∀(n:Nat) {xs:List ab} {us:List Value},cd w ν sz xs us->cd w ν sz (xs.take n) (us.take (n*sz))
 |0,_,_,_=>by simp[cd]
 |n+1,[],us,h=>by simp only[cd]at h;subst h;simp[cd]
 |n+1,x::xs,us,h=>by
  simp only[cd]at h;obtain⟨u,a1,rfl,⟨I,aa,ak⟩,ba⟩:=h;have:u.cells.toList.length=sz:=by simpa using aa
  simp only[List.take_succ_cons,cd];refine⟨u,a1.take (n*sz),?_,⟨I,aa,ak⟩,KM n ba⟩;rw[Ll _ _ _ _ this]
def isAgg(sz:Nat)(p:ab):Prop:= ∃cs,p= .agg cs/\cs.length=sz
def ui(agg:Bool)(sz cB n i f:Nat):aR cp->aR (Prop×ab)
 |some ⟨n',_,gJ,some xs⟩=>if n'=n/\gJ=cB then
   (match xs[i]? with
    |some p=>if agg then some (dK p=true/\f+sz<=(cells p).length,.agg (((cells p).drop f).take sz))else((cells p)[f]?).map fun q=>(dK p=true,q)
    |none=>none)else none
 |_=>none
def kz(b:List (aq×List ab))(e:List (aq×cp))(agg:Bool)(sz:Nat):ab->aR (Prop×ab)
 | .rptr cB k n i f=>ui agg sz cB n i f (look k e)
 | .ptr k off=>
  match look k b with
  |some cs=>if agg then some (fp cs=true/\off+sz<=cs.length,.agg ((cs.drop off).take sz))else(cs[off]?).map fun p=>(fp cs=true,p)
  |none=>none
 | .eptr p=>if agg then some (isAgg sz p,p)else some (dK p=true/\cells p=[p],p)
 |_=>none
def w5(agg:Bool)(sz:Nat):ab->aR (Prop×ab)
 | .eptr p=>if agg then some (isAgg sz p,p)else some (dK p=true/\cells p=[p],p)
 |_=>none
theorem Pn{b:List (aq×List ab)}{e:List (aq×cp)}{agg:Bool}{sz:Nat}{p:ab}{r:Prop×ab}(h:w5 agg sz p=some r):kz b e agg sz p=some r:=by
 cases p<;>simp only[w5]at h<;>first|cases h;done|skip
 simpa only[kz]using h
theorem RS{b:List (aq×List ab)}{e:List (aq×cp)}{agg:Bool}{sz:Nat}{p:ab}{r:Prop×ab}(h:kz b [] agg sz p=some r):kz b e agg sz p=some r:=by cases p<;>simp only[kz]at h⊢ <;>first|exact h|(simp[look,ui]at h)
def mn(off:Nat)(agg:Bool)(sz:Nat):ab->aR (Prop×ab)
 | .ptr k o=>some (True,.ptr k (o+off))
 | .rptr cB k n i f=>some (True,.rptr cB k n i (f+off))
 | .eptr (.agg cs)=>if agg then some (off+sz<=cs.length,.eptr (.agg ((cs.drop off).take sz)))else(cs[off]?).map fun p=>(dK p=true/\cells p=[p],.eptr p)
 |_=>none
def pV(off:Nat)(agg:Bool)(sz:Nat):ab->aR (Prop×ab)
 | .agg cs=>if agg then some (off+sz<=cs.length,.agg ((cs.drop off).take sz))else(cs[off]?).map fun p=>(True,p)
 |_=>none
def vp(sz:Nat):ab->ab->aR (Prop×ab)
 | .slice cB _ xs,.int _ i=>if cB=sz then some (0<=i/\i<xs.length,.eptr (xs.getD i.toNat .junk))else none
 | .row cB k n,.int _ i=>if cB=sz then some (0<=i/\i<n,.rptr cB k n i.toNat 0)else none
 |_,_=>none
def Be:ab->ab->aR (Prop×ab)
 | .str s,.int _ i=>some (0<=i/\i<s.length,.int .u8 (s.getD i.toNat 0).toNat)
 |_,_=>none
def oj(yZ:Int):aR ab->aR Int
 |none=>some yZ
 |some (.int _ i)=>some i
 |_=>none
def Bg(x:ab)(lo aD:aR ab):aR (Prop×ab):=
 match x with
 | .str s=>match oj 0 lo,oj s.length aD with
  |some l,some h=>some (0<=l/\l<=h/\h<=s.length,.str ((s.take h.toNat).drop l.toNat))
  |_,_=>none
 |_=>none
def Ah(sz:Nat)(x:ab)(lo aD:aR ab):aR (Prop×ab):=
 match x with
 | .slice cB _ xs=>if cB=sz then match oj 0 lo,oj xs.length aD with
  |some l,some h=>some (0<=l/\l<=h/\h<=xs.length,.slice sz .no ((xs.take h.toNat).drop l.toNat))
  |_,_=>none else none
 |_=>none
def bk(n:Int):Prop:= -9223372036854775808<=n/\n<=9223372036854775807
def vq(op:BinOp)(wr:Bool)(k:IntKind)(a b:Int):aR (Prop×ab):=
 match op with
 | .add=>if wr then some (True,.int k (k.wrap (a+b)))else some (k= .i64/\bk (a+b),.int .i64 (a+b))
 | .sub=>if wr then some (True,.int k (k.wrap (a-b)))else some (k= .i64/\bk (a-b),.int .i64 (a-b))
 | .mul=>if wr then some (True,.int k (k.wrap (a*b)))else some (k= .i64/\bk (a*b),.int .i64 (a*b))
 | .quo=>some (b≠0,.int k (k.wrap (a.tdiv b)))
 | .rem=>some (b≠0,.int k (a.tmod b))
 | .eql=>some (True,.bool (a==b))
 | .neq=>some (True,.bool (a !=b))
 | .lss=>some (True,.bool (decide (a<b)))
 | .leq=>some (True,.bool (decide (a<=b)))
 | .gtr=>some (True,.bool (decide (b<a)))
 | .geq=>some (True,.bool (decide (b<=a)))
 | .and=>some (True,.int k (k.wrap (BitVec.ofInt k.bits a&&& BitVec.ofInt k.bits b).toNat))
 | .or=>some (True,.int k (k.wrap (BitVec.ofInt k.bits a|||BitVec.ofInt k.bits b).toNat))
 | .xor=>some (True,.int k (k.wrap (BitVec.ofInt k.bits a ^^^ BitVec.ofInt k.bits b).toNat))
 |_=>none
def Bh(op:BinOp)(a b:List az):aR (Prop×ab):=
 match op with
 | .add=>some (a.length+b.length<=b0,.str (a++b))
 | .eql=>some (True,.bool (a==b))
 | .neq=>some (True,.bool (!(a==b)))
 | .lss=>some (True,.bool (Op.bytesLess a b))
 | .leq=>some (True,.bool (Op.bytesLess a b||a==b))
 | .gtr=>some (True,.bool (!(Op.bytesLess a b||a==b)))
 | .geq=>some (True,.bool (!Op.bytesLess a b))
 |_=>none
def jD(op:BinOp)(wr:Bool):ab->ab->aR (Prop×ab)
 | .int k a,.int aW b=>match op with
  | .shl=>some (0<=b,.int k (k.wrap (a*2 ^ (min b.toNat k.bits))))
  | .shr=>some (0<=b,.int k (a.fdiv (2 ^ (min b.toNat k.bits))))
  |_=>if k=aW then vq op wr k a b else none
 | .str a,.str b=>Bh op a b
 |_,_=>none
def l6(cs:List ab)(off:Nat)(aX:List ab):List ab:=cs.take off++aX++cs.drop (off+aX.length)
def qx(t:List (Nat×ab)):List ab->List (Nat×Nat×cl)->aR (Prop×List ab)
 |cs,[]=>some (True,cs)
 |cs,(off,sz,x)::r=>
  let p:=bg t x
  match qx t (l6 cs off (cells p)) r with
  |some (c,cs')=>some ((dK p=true/\(cells p).length=sz/\off+sz<=cs.length)/\c,cs')
  |none=>none
def AI(c x y:ab):aR (Prop×ab):=
 match c with
 | .bool b=>match x,y with
  | .bool u,.bool v=>some (True,.bool (cond b u v))
  |p,q=>match b with
   |true=>some (True,p)
   |false=>some (True,q)
 |_=>none
def Aw:ab->aR (Prop×ab)
 | .bool b=>some (True,.bool (!b))
 |_=>none
def Ar:ab->aR (Prop×ab)
 | .int k n=>some (True,.int k (k.wrap (0-n)))
 |_=>none
def zd(i:Nat):ab->aR (Prop×ab)
 | .tuple vs=>(vs[i]?).map fun p=>(True,p)
 |_=>none
def vy:ab->aR (Prop×ab)
 | .slice _ _ xs=>some (True,.int .i64 xs.length)
 | .row _ _ n=>some (True,.int .i64 n)
 | .cst (.slice _ n _)=>some (True,.int .i64 n)
 |_=>none
def yu:ab->aR (Prop×ab)
 | .str s=>some (True,.int .i64 s.length)
 | .cst (.string s)=>some (True,.int .i64 s.size)
 |_=>none
def yY(k:IntKind):ab->aR (Prop×ab)
 | .int _ n=>some (True,.int k (k.wrap n))
 |_=>none
def nU:List ab->aR (List az)
 |[]=>some []
 | .int .u8 n::r=>(nU r).map (lF n.toNat:: ·)
 |_=>none
def yM:ab->aR (Prop×ab)
 | .slice _ _ xs=>(nU xs).map fun s=>(True,.str s)
 |_=>none
def zY(neg:Bool):ab->aR (Prop×ab)
 | .iface _ _=>some (True,.bool neg)
 | .cst .nilIface=>some (True,.bool (!neg))
 |_=>none
def vG:ab->aR (Prop×ab)
 | .ptr k o=>some (True,.ptr k o)
 | .eptr p=>some (True,.eptr p)
 | .func f cs=>some (True,.func f cs)
 |_=>none
def Al:ab->ab->aR (Prop×ab)
 | .int k a,.int aW b=>if k=aW then some (True,.int k (if b<a then b else a))else none
 |_,_=>none
def iS:List Bool->List ab->List ab->aR Bool
 |[],[],[]=>some true
 |false::r,.int k a::as,.int aW b::dq=>if k=aW then(iS r as dq).map fun q=>(a==b)&&q else none
 |true::r,.str a::as,.str b::dq=>(iS r as dq).map fun q=>(a==b)&&q
 |_,_,_=>none
inductive ih where
 |i
 |s
 |a (cR:List Bool)
 deriving DecidableEq
def qW:ih->ab->ab->aR Bool
 | .i,.int k a,.int aW b=>if k=aW then some (a==b)else none
 | .s,.str a,.str b=>some (a==b)
 | .a cR,.agg as,.agg dq=>iS cR as dq
 |_,_,_=>none
def tU:ih->ab->Bool
 | .a cR,.agg as=>(iS cR as as).isSome
 | .a _,_=>false
 |_,_=>true
@[simp]theorem Jq(k:ab):tU .i k=true:=by cases k<;>rfl
@[simp]theorem Jr(k:ab):tU .s k=true:=by cases k<;>rfl
def p8(bH:ih)(k:ab):List ab->aR (aR ab)
 |aW::v::r=>match qW bH k aW with
  |some true=>some (some v)
  |some false=>p8 bH k r
  |none=>none
 |_=>some none
def nr(b:aq->aR (List ab))(bH:ih)(zero:ab)(ok:Bool)(x k:ab):aR (Prop×ab):=
 match x with
 | .gmap key=>match b key with
  |some (.hdm _ _::kvs)=>if tU bH k=false then none else match p8 bH k kvs with
   |some (some v)=>some (True,if ok then .tuple [v,.bool true]else v)
   |some none=>some (True,if ok then .tuple [zero,.bool false]else zero)
   |none=>none
  |_=>none
 |_=>none
def vE(b:aq->aR (List ab))(x:ab):aR (Prop×ab):=
 match x with
 | .gmap key=>match b key with
  |some (.hdm _ borns::_)=>some (True,.int .i64 borns.length)
  |_=>none
 |_=>none
def yP(neg:Bool):aR (List Bool)->ab->ab->aR (Prop×ab)
 |none,.bool a,.bool b=>some (True,.bool (if neg then a !=b else a==b))
 |some cR,.agg as,.agg dq=>(iS cR as dq).map fun q=>(True,.bool (if neg then !q else q))
 |_,_,_=>none
def Aj:ab->ab->aR (Prop×ab)
 | .int k a,.int aW b=>if k=aW then some (True,.int k (if a<b then b else a))else none
 |_,_=>none
def q1(bH:ih)(k v:ab):List ab->aR (aR (List ab))
 |aW::v'::r=>match qW bH k aW with
  |some true=>some (some (k::v::r))
  |some false=>match q1 bH k v r with
   |some (some cr)=>some (some (aW::v'::cr))
   |some none=>some none
   |none=>none
  |none=>none
 |_=>some none
def pk(n:Nat):List Nat->List ab->aR ab
 |b::dq,k::v::r=>if b=n then some (.tuple [k,v])else pk n dq r
 |_,_=>none
def vC(b:aq->aR (List ab))(x:ab):aR (Prop×ab):=
 match x with
 | .ptr jq 0=>match b jq with
  |some [.hdi _ seen last,.gmap mk]=>match b mk with
   |some (.hdm clock borns::kvs)=>match seen.getLast? with
    |some n=>(pk n borns kvs).map fun p=>(clock=last,p)
    |none=>none
   |_=>none
  |_=>none
 |_=>none
theorem JN{f g:aq->aR (List ab)}(h:∀k,f k≠none->g k=f k){bH:ih}{zero:ab}{ok:Bool}{x k:ab}{r:Prop×ab}(he:nr f bH zero ok x k=some r):nr g bH zero ok x k=some r:=by
 unfold nr at he⊢;split at he
 ·rename_i key;cases aH:f key with
  |none=>simp[aH]at he
  |some cs=>rw[h key (by rw[aH];simp),aH];rw[aH]at he;exact he
 ·cases he
theorem R4{f g:aq->aR (List ab)}(h:∀k,f k≠none->g k=f k){x:ab}{r:Prop×ab}(he:vE f x=some r):vE g x=some r:=by
 unfold vE at he⊢;split at he
 ·rename_i key;cases aH:f key with
  |none=>simp[aH]at he
  |some cs=>rw[h key (by rw[aH];simp),aH];rw[aH]at he;exact he
 ·cases he
theorem R0{f g:aq->aR (List ab)}(h:∀k,f k≠none->g k=f k){x:ab}{r:Prop×ab}(he:vC f x=some r):vC g x=some r:=by
 unfold vC at he⊢;split at he
 ·rename_i jq;cases aH:f jq with
  |none=>simp[aH]at he
  |some cs=>
   simp only[h jq (by rw[aH];simp),aH]at he⊢;split at he
   ·rename_i since seen last mk cj;cases kr:f mk with
    |none=>simp[kr]at he
    |some cn=>simp only[h mk (by rw[kr];simp),kr]at he⊢;exact he
   ·cases he
 ·cases he
inductive eW where
 |mov (x:cl)
 |pick (c x y:cl)
 |load (agg:Bool) (sz:Nat) (x:cl)
 |faddr (off:Nat) (agg:Bool) (sz:Nat) (x:cl)
 |fld (off:Nat) (agg:Bool) (sz:Nat) (x:cl)
 |iaddr (sz:Nat) (x i:cl)
 |sidx (x i:cl)
 |ssl (x:cl) (lo aD:aR cl)
 |lsl (sz:Nat) (x:cl) (lo aD:aR cl)
 |bin (op:BinOp) (wr:Bool) (x y:cl)
 |notB (x:cl)
 |neg (x:cl)
 |conv (k:IntKind) (x:cl)
 |ext (i:Nat) (x:cl)
 |len (x:cl)
 |slen (x:cl)
 |build (zero:List ab) (parts:List (Nat×Nat×cl))
 |nck (x:cl)
 |min2 (x y:cl)
 |mkf (n:Nat) (xs:List cl)
 |mget (bH:ih) (zero:ab) (ok:Bool) (x k:cl)
 |ment (x:cl)
 |mlen (x:cl)
 |beq (neg:Bool) (cR:aR (List Bool)) (x y:cl)
 |max2 (x y:cl)
 |mkif (t:Nat) (x:cl)
 |loadB (agg:Bool) (sz:Nat) (x:cl)
 |mgetB (bH:ih) (zero:ab) (ok:Bool) (x k:cl)
 |loadZ (agg:Bool) (sz:Nat) (x:cl)
 |b2s (x:cl)
 |isn (neg:Bool) (x:cl)
def fs(st:aM):eW->aR (Prop×ab)
 | .mov x=>some (True,bg st.t x)
 | .pick c x y=>AI (bg st.t c) (bg st.t x) (bg st.t y)
 | .load agg sz x=>kz st.b st.e agg sz (bg st.t x)
 | .faddr off agg sz x=>mn off agg sz (bg st.t x)
 | .fld off agg sz x=>pV off agg sz (bg st.t x)
 | .iaddr sz x i=>vp sz (bg st.t x) (bg st.t i)
 | .sidx x i=>Be (bg st.t x) (bg st.t i)
 | .ssl x lo aD=>Bg (bg st.t x) (lo.map (bg st.t)) (aD.map (bg st.t))
 | .lsl sz x lo aD=>Ah sz (bg st.t x) (lo.map (bg st.t)) (aD.map (bg st.t))
 | .bin op wr x y=>jD op wr (bg st.t x) (bg st.t y)
 | .notB x=>Aw (bg st.t x)
 | .neg x=>Ar (bg st.t x)
 | .conv k x=>yY k (bg st.t x)
 | .ext i x=>zd i (bg st.t x)
 | .len x=>vy (bg st.t x)
 | .slen x=>yu (bg st.t x)
 | .build zero parts=>(qx st.t zero parts).map fun(c,cs)=>(c,.agg cs)
 | .nck x=>vG (bg st.t x)
 | .min2 x y=>Al (bg st.t x) (bg st.t y)
 | .mkf n xs=>some (True,.func n (xs.map (bg st.t)))
 | .mget bH zero ok x k=>nr (fun k=>look k st.b) bH zero ok (bg st.t x) (bg st.t k)
 | .ment x=>vC (fun k=>look k st.b) (bg st.t x)
 | .mlen x=>vE (fun k=>look k st.b) (bg st.t x)
 | .beq neg cR x y=>yP neg cR (bg st.t x) (bg st.t y)
 | .max2 x y=>Aj (bg st.t x) (bg st.t y)
 | .mkif t x=>some (True,.iface t (bg st.t x))
 | .loadB agg sz x=>kz st.b [] agg sz (bg st.t x)
 | .mgetB bH zero ok x k=>nr (fun k=>look k st.b) bH zero ok (bg st.t x) (bg st.t k)
 | .loadZ agg sz x=>w5 agg sz (bg st.t x)
 | .b2s x=>yM (bg st.t x)
 | .isn neg x=>zY neg (bg st.t x)
def vN(aQ:List (Nat×cm))(cR:List (Nat×Nat)):List (Nat×Nat×cl)->List (Nat×gY)->Bool
 |[],[]=>true
 |(off,sz,x)::r,(i,o)::s=>(match cR[i]? with|some (sH,t)=>off==sH&&((cV aQ t).map (·.size))==some sz|none=>false)&&cZ x o&&vN aQ cR r s
 |_,_=>false
def yH:ab->ab->Bool
 | .int k n,.int aW n'=>decide (k=aW/\n=n')
 | .bool b,.bool fa=>b==fa
 | .str [],.str []=>true
 | .slice a .nil [],.slice b .nil []=>a==b
 | .nilp,.nilp=>true
 | .junk,.junk=>true
 |_,_=>false
def wC:List ab->List ab->Bool
 |[],[]=>true
 |c::cs,d::cn=>yH c d&&wC cs cn
 |_,_=>false
def wE:ab->ab->Bool
 | .agg cs,.agg cn=>wC cs cn
 | .agg _,_=>false
 |p,q=>yH p q
def q3:List cl->List gY->Bool
 |[],[]=>true
 |x::xs,o::os=>cZ x o&&q3 xs os
 |_,_=>false
def uZ(aQ:List (Nat×cm)):Nat->List Bool->List (Nat×Nat)->Bool
 |_,[],[]=>true
 |n,b::r,(off,t)::cR=>off==n&&(match cV aQ t with|some ⟨_,_,.int _,_⟩=> !b|some ⟨_,_,.str,_⟩=>b|_=>false)&&uZ aQ (n+1) r cR
 |_,_,_=>false
def zg(aQ:List (Nat×cm))(cR:List Bool)(t:Nat):Bool:=match cV aQ t with
 |some ⟨_,_,.struct gs,_⟩=>uZ aQ 0 cR gs
 |_=>false
def tV(aQ:List (Nat×cm))(bH:ih)(t:Nat):Bool:=match bH with
 | .i=>(match cV aQ t with|some ⟨_,_,.int _,_⟩=>true|_=>false)
 | .s=>(match cV aQ t with|some ⟨_,_,.str,_⟩=>true|_=>false)
 | .a cR=>zg aQ cR t
def Fx:ab->ab->Bool
 | .slice a .no [],.slice b .nil []=>a==b
 |c,d=>yH c d
def uw:List ab->List ab->Bool
 |[],[]=>true
 |c::cs,d::cn=>Fx c d&&uw cs cn
 |_,_=>false
def FC:List ab->ab->Bool
 |cs,.agg cn=>uw cs cn
 |_,_=>false
def sK:aR cl->aR gY->Bool
 |none,none=>true
 |some x,some o=>cZ x o
 |_,_=>false
def yE(aQ:List (Nat×cm)):eW->Op->Bool
 | .mov x,.move o=>cZ x o
 | .mov x,.assign o=>cZ x o
 | .pick c x y,.pick fX wB y'=>cZ c fX&&cZ x wB&&cZ y y'
 | .load agg sz x,.load t o=>(match cV aQ t with|some f=>f.size==sz&&f.kind.isAgg==agg|none=>false)&&cZ x o
 | .faddr off agg sz x,.fieldAddr s o i=>
  (match cV aQ s with
   |some ⟨_,_,.struct cR,_⟩=>(match cR[i]? with|some (sH,t)=>off==sH&&(match cV aQ t with|some f=>f.size==sz&&f.kind.isAgg==agg&&sz !=0|none=>false)|none=>false)
   |_=>false)&&cZ x o
 | .fld off agg sz x,.field s o i=>
  (match cV aQ s with
   |some ⟨_,_,.struct cR,_⟩=>(match cR[i]? with|some (sH,t)=>off==sH&&(match cV aQ t with|some f=>f.size==sz&&f.kind.isAgg==agg|none=>false)|none=>false)
   |_=>false)&&cZ x o
 | .iaddr sz x i,.indexAddr t o j=>(match cV aQ t with|some ⟨_,_,.slice e,_⟩=>(match cV aQ e with|some f=>f.size==sz|none=>false)|_=>false)&&cZ x o&&cZ i j
 | .sidx x i,.index t o j=>(match cV aQ t with|some ⟨_,_,.str,_⟩=>true|_=>false)&&cZ x o&&cZ i j
 | .ssl x lo aD,.slice t o l h none=>(match cV aQ t with|some ⟨_,_,.str,_⟩=>true|_=>false)&&cZ x o&&sK lo l&&sK aD h
 | .lsl sz x lo aD,.slice t o l h none=>(match cV aQ t with|some ⟨_,_,.slice e,_⟩=>(match cV aQ e with|some f=>f.size==sz|none=>false)|_=>false)&&cZ x o&&sK lo l&&sK aD h
 | .bin op _ x y,.binOp Kd _ o o' _=>decide (op=Kd)&&cZ x o&&cZ y o'
 | .notB x,.unOp op _ o=>decide (op= .not)&&cZ x o
 | .neg x,.unOp op _ o=>decide (op= .neg)&&cZ x o
 | .conv k x,.convert s d o=>(match cV aQ s,cV aQ d with|some ⟨_,_,.int _,_⟩,some ⟨_,_,.int aW,_⟩=>decide (k=aW)|_,_=>false)&&cZ x o
 | .ext i x,.extract o j=>i==j&&cZ x o
 | .len x,.call ⟨.builtin .len,⟨[o]⟩,⟨[t]⟩⟩=>(match cV aQ t with|some ⟨_,_,.slice _,_⟩=>true|_=>false)&&cZ x o
 | .slen x,.call ⟨.builtin .len,⟨[o]⟩,⟨[t]⟩⟩=>(match cV aQ t with|some ⟨_,_,.str,_⟩=>true|_=>false)&&cZ x o
 | .build zero parts,.build t aX=>(match cV aQ t with|some ⟨_,_,.struct cR,z⟩=>FC zero z&&(cR.all fun x=>(cV aQ x.2).isSome)&&vN aQ cR parts aX.toList|_=>false)
 | .nck x,.nilCheck o=>cZ x o
 | .min2 x y,.call ⟨.builtin .min,⟨[o,o']⟩,⟨[_,_]⟩⟩=>cZ x o&&cZ y o'
 | .mkf n xs,.makeFunc (.func m) ⟨[]⟩ os=>decide (n=m/\n<1000000)&&q3 xs os.toList
 | .mkf n xs,.makeFunc (.func m) dq ⟨[]⟩=>decide (n=m+1000000)&&q3 xs dq.toList
 | .mget bH zero ok x k,.lookup t o o' Ax=>ok==Ax&&(match cV aQ t with|some ⟨_,_,.map ez mm,_⟩=>tV aQ bH ez&&(match cV aQ mm with|some f=>wE zero f.zero|none=>false)|_=>false)&&cZ x o&&cZ k o'
 | .ment x,.entry o=>cZ x o
 | .mlen x,.call ⟨.builtin .len,⟨[o]⟩,⟨[t]⟩⟩=>(match cV aQ t with|some ⟨_,_,.map _ _,_⟩=>true|_=>false)&&cZ x o
 | .beq neg cR x y,.binOp op t o o' _=>decide (op=if neg then .neq else .eql)&&(match cR with|none=>(match cV aQ t with|some ⟨_,_,.bool,_⟩=>true|_=>false)|some cR=>zg aQ cR t)&&cZ x o&&cZ y o'
 | .max2 x y,.call ⟨.builtin .max,⟨[o,o']⟩,⟨[_,_]⟩⟩=>cZ x o&&cZ y o'
 | .mkif t x,.makeInterface t' o=>t==t'&&(match cV aQ t with|some ⟨_,_,.slice _,_⟩=>true|_=>false)&&cZ x o
 | .loadB agg sz x,.load t o=>(match cV aQ t with|some f=>f.size==sz&&f.kind.isAgg==agg|none=>false)&&cZ x o
 | .b2s x,.convert s d o=>(match cV aQ s,cV aQ d with|some ⟨_,_,.slice e,_⟩,some ⟨_,_,.str,_⟩=>(match cV aQ e with|some ⟨_,_,.int .u8,_⟩=>true|_=>false)|_,_=>false)&&cZ x o
 | .isn neg x,.binOp op t o (.const .nilIface) _=>decide (op=if neg then .neq else .eql)&&(match cV aQ t with|some ⟨_,_,.iface,_⟩=>true|_=>false)&&cZ x o
 | .loadZ agg sz x,.load t o=>(match cV aQ t with|some f=>f.size==sz&&f.kind.isAgg==agg|none=>false)&&cZ x o
 | .mgetB bH zero ok x k,.lookup t o o' Ax=>ok==Ax&&(match cV aQ t with|some ⟨_,_,.map ez mm,_⟩=>tV aQ bH ez&&(match cV aQ mm with|some f=>wE zero f.zero|none=>false)|_=>false)&&cZ x o&&cZ k o'
 |_,_=>false
end
section
open Go Go.RowKit
theorem B8(P:bm)(w:World)(op:BinOp)(t:eO)(x y:gY)(k aW:IntKind)(m n:Int):(eqGuard op t x y (.int k m) (.int aW n)).run P w= .ok () w:=by cases op<;>rfl
theorem Ny(P:bm)(w:World)(op:BinOp)(t:eO)(x y:gY)(m n:ic):(eqGuard op t x y (.string m) (.string n)).run P w= .ok () w:=by cases op<;>rfl
theorem Uc(l:List az):(⟨l.toArray⟩:ic).toList=l:=by simp
theorem Mj(a b:List az):(⟨a.toArray⟩:ic)++(⟨b.toArray⟩:ic)=⟨(a++b).toArray⟩:=by apply U0;simp
theorem OE(a:List az)(l h:Nat):(⟨a.toArray⟩:ic).extract l h=⟨((a.take h).drop l).toArray⟩:=by apply U0;simp[List.drop_take]
theorem yt(a:List az):(⟨a.toArray⟩:ic).size=a.length:=by simp[FE]
section
variable {P:bm} {w:World} {r:Sem Value}
theorem oT{k:IntKind}{x:Int}(h:r.run P w= .ok (.int k x) w):∃v,r.run P w= .ok v w/\∀ν,aw w ν (.int k x) v:=⟨_,h,fun ν=>by simp[aw]⟩
theorem HV{x:Bool}(h:r.run P w= .ok (.bool x) w):∃v,r.run P w= .ok v w/\∀ν,aw w ν (.bool x) v:=⟨_,h,fun ν=>by simp[aw]⟩
end
theorem Rr(P:bm)(w:World){op:BinOp}{wr:Bool}{k:IntKind}{a b:Int}{c:Prop}{p:ab}(he:vq op wr k a b=some (c,p))(aA:c)(t:eO):
  ∃v,(binOp op t (.int k a) (.int k b)).run P w= .ok v w/\∀ν,aw w ν p v:=by
 cases op<;>simp only[vq]at he;case add=>
  cases wr<;>simp only[if_true,ib,if_false]at he<;>cases he
  ·obtain⟨rfl,h⟩:=aA;exact oT (by simp[binOp,Op.intArith,k9 _ h])
  ·exact oT (by simp[binOp,Op.intArith])
 case sub=>
  cases wr<;>simp only[if_true,ib,if_false]at he<;>cases he
  ·obtain⟨rfl,h⟩:=aA;exact oT (by simp[binOp,Op.intArith,k9 _ h])
  ·exact oT (by simp[binOp,Op.intArith])
 case mul=>
  cases wr<;>simp only[if_true,ib,if_false]at he<;>cases he
  ·obtain⟨rfl,h⟩:=aA;exact oT (by simp[binOp,Op.intArith,k9 _ h])
  ·exact oT (by simp[binOp,Op.intArith])
 case quo=>cases he;exact oT (by simp[binOp,Op.intDiv,aA])
 case rem=>cases he;exact oT (by simp[binOp,Op.intDiv,aA])
 case and=>cases he;exact oT (by simp only[binOp,Op.intBits,ne_eq,not_true_eq_false,if_false,eN])
 case or=>cases he;exact oT (by simp only[binOp,Op.intBits,ne_eq,not_true_eq_false,if_false,eN])
 case xor=>cases he;exact oT (by simp only[binOp,Op.intBits,ne_eq,not_true_eq_false,if_false,eN])
 all_goals cases he
 all_goals exact HV (by simp only[binOp,Op.intCmp,ne_eq,not_true_eq_false,if_false,eN,gt_iff_lt,ge_iff_le])
theorem TZ(P:bm)(w:World){op:BinOp}{a b:List az}{c:Prop}{p:ab}(he:Bh op a b=some (c,p))(aA:c)(t:eO):
  ∃v,(binOp op t (.string ⟨a.toArray⟩) (.string ⟨b.toArray⟩)).run P w= .ok v w/\∀ν,aw w ν p v:=by
 cases op<;>simp only[Bh]at he;case add=>
  cases he;refine⟨.string ⟨(a++b).toArray⟩,?_,fun ν=>by simp only[aw];exact⟨trivial,by simpa using aA⟩⟩;have I:¬(((⟨a.toArray⟩:ic).size+(⟨b.toArray⟩:ic).size:Nat):Int)>jS.max:=by
   have:jS.max=9223372036854775807:=by decide
   rw[this,yt,yt];simp only[b0]at aA;omega
  simp only[binOp,Op.stringOp,I,if_false,eN,Mj]
 all_goals cases he
 all_goals exact HV (by simp only[binOp,Op.stringOp,Uc,eN])
theorem Ms(P:bm)(w:World)(ν:aC){op:BinOp}{wr:Bool}{x y:ab}{c:Prop}{p:ab}(he:jD op wr x y=some (c,p))(aA:c)(t:eO){u v:Value}(hu:aw w ν x u)(aY:aw w ν y v)(o o':gY):
  ∃r,(do eqGuard op t o o' u v;binOp op t u v).run P w= .ok r w/\aw w ν p r:=by
 unfold jD at he;split at he
 ·rename_i k a aW b;simp only[aw]at hu aY;subst hu;subst aY;split at he
  ·cases he;refine⟨_,?_,by simp[aw];rfl⟩;simp[binOp,Op.shift,B8,Int.not_lt.2 aA]
  ·cases he;refine⟨_,?_,by simp[aw];rfl⟩;simp[binOp,Op.shift,B8,Int.not_lt.2 aA]
  ·split at he
   ·rename_i J;subst J;obtain⟨r,I,aa⟩:=Rr P w he aA t;exact⟨r,by simp[B8,I],aa ν⟩
   ·cases he
 ·simp only[aw]at hu aY;rw[hu.1,aY.1];obtain⟨r,I,aa⟩:=TZ P w he aA t;exact⟨r,by simp[Ny,I],aa ν⟩
 ·cases he
theorem Cl{w:World}{ν:aC}:∀(v:List Value) (i off:Nat) (cs:Array Value),off+i+v.length<=cs.size->
  ((v.zipIdx i).foldl (fun cs (x:Value×Nat)=>cs.setIfInBounds (off+x.2) x.1) cs).toList=cs.toList.take (off+i)++v++cs.toList.drop (off+i+v.length)
 |[],i,off,cs,_=>by simp
 |u::v,i,off,cs,h=>by
  simp only[List.zipIdx_cons,List.foldl_cons];rw[Cl (w:=w) (ν:=ν) v (i+1) off _ (by simp at h⊢;omega)];have b4:off+i<cs.toList.length:=by simp at h⊢;omega
  simp only[Array.toList_setIfInBounds];have ai:(cs.toList.set (off+i) u).take (off+(i+1))=cs.toList.take (off+i)++[u]:=by rw[show off+(i+1)=(off+i)+1 from by omega,List.take_succ_eq_append_getElem (by simpa using b4)];simp[List.take_set_of_le (cx _)]
  have aE:(cs.toList.set (off+i) u).drop (off+(i+1)+v.length)=cs.toList.drop (off+i+(u::v).length):=by rw[List.drop_set_of_lt Ω];congr 1;simp;omega
  rw[ai,aE];simp
theorem KY{w:World}{ν:aC}{C:db}{st:aM}{a:Act}(hr:bK C st a w ν){aQ:List (Nat×cm)}{cR:List (Nat×Nat)}{places:List (Nat×Nat)}
  (aV:∀(i off t sz:Nat),cR[i]? =some (off,t)->(cV aQ t).map (·.size)=some sz->places[i]? =some (off,sz)):
  ∀(parts:List (Nat×Nat×cl)) (aX:List (Nat×gY)) (cs:List ab) (us:Array Value) (c:Prop) (cs':List ab),vN aQ cR parts aX=true->bV w ν cs us.toList->qx st.t cs parts=some (c,cs')->c->
  ∃a1:Array Value,Instr.fill (places.toArray[·]?) us (aX.map fun(x:Nat×gY)=>(x.1,a.eval x.2))=some a1/\bV w ν cs' a1.toList
 |[],[],cs,us,c,cs',_,h,he,aA=>by simp only[qx]at he;cases he;exact⟨us,by simp[Instr.fill],h⟩
 |[],_::_,_,_,_,_,dI,_,_,_=>by simp[vN]at dI
 |_::_,[],_,_,_,_,dI,_,_,_=>by simp[vN]at dI
 |(off,sz,x)::parts,(i,o)::aX,cs,us,c,cs',dI,h,he,aA=>by
  simp only[vN,bD]at dI;obtain⟨⟨I,aa⟩,ak⟩:=dI;split at I
  ·rename_i sH t xl;simp only[bD,da]at I;obtain⟨rfl,I⟩:=I;have gE:=aV i off t sz xl I;simp only[qx]at he;split at he
   ·rename_i fX Wb af;cases he;obtain⟨⟨ao,aB,hle⟩,lS⟩:=aA;have ad:=c1 hr aa;have lV:=ra ad ao;have hlen:=mI lV;have pf:=mI h;have fv:(a.eval o).cells.size=sz:=by have:(a.eval o).cells.toList.length=(cells (bg st.t x)).length:=hlen;rw[aB]at this;simpa using this
    have oa:us.size=cs.length:=by simpa using pf
    have kZ:=Cl (w:=w) (ν:=ν) (a.eval o).cells.toList 0 off us (by simp[fv,oa];omega);have hV:bV w ν (l6 cs off (cells (bg st.t x))) ((((a.eval o).cells.toList.zipIdx 0).foldl (fun cs (x:Value×Nat)=>cs.setIfInBounds (off+x.2) x.1) us).toList):=by rw[kZ];unfold l6;refine ug (ug (yh off h) lV) ?_;rw[Nat.add_zero,hlen];exact vZ _ h
    obtain⟨a1,g1,g2⟩:=KY hr aV parts aX _ _ fX cs' ak hV af lS;refine⟨a1,?_,g2⟩;simp only[ig,Instr.fill,List.getElem?_toArray,gE];rw[bh (by simp[fv,oa];omega)];rw[<-g1];simp only[List.getElem?_toArray];congr 1;rw[<-Array.foldl_toList];simp
   ·cases he
  ·cases I
end
section
open Go Go.RowKit
theorem rn{P:bm}{aQ:List (Nat×cm)}(au:dE P aQ=true){t:Nat}{f:cm}(aH:cV aQ t=some f)(w:World):
  (Go.isAgg t).run P w= .ok f.kind.isAgg w/\(sizeOf t).run P w= .ok f.size w:=by
 obtain⟨i,d,z,I,aa,ak,aJ,ba,cq,dR,hK⟩:=(ql au aH).ex;refine⟨?_,by simp[sizeOf,typeInfo,I,ak]⟩;simp only[Go.isAgg,dW,run_underlying aa,ea];cases J:f.kind<;>rw[J]at ba<;>cases d<;>simp[jH]at ba<;>simp[wL.isAgg]
theorem gn{P:bm}{aQ:List (Nat×cm)}(au:dE P aQ=true){t:Nat}{f:cm}(aH:cV aQ t=some f):∃d,P.underlying t=some d/\jH f.kind d=true:=by obtain⟨i,d,z,I,aa,ak,aJ,ba,cq,dR,hK⟩:=(ql au aH).ex;exact⟨d,aa,ba⟩
theorem nY{e:Nat}{d:TypeDesc}(h:jH (.slice e) d=true):d= .slice e:=by cases d<;>simp[jH]at h;subst h;rfl
theorem rQ{d:TypeDesc}(h:jH .str d=true):d= .string:=by cases d<;>simp[jH]at h;rfl
theorem wX{k:IntKind}{d:TypeDesc}(h:jH (.int k) d=true):d= .int k:=by cases d<;>simp[jH]at h;subst h;rfl
theorem BV{cR:List (Nat×Nat)}{d:TypeDesc}(h:jH (.struct cR) d=true):∃gs:Array Field,d= .struct gs/\gs.toList.map (fun f=>(f.offset,f.type))=cR:=by cases d<;>simp[jH]at h;rename_i gs;exact⟨gs,rfl,by simpa using h⟩
theorem AZ{w:World}{ν:aC}{cs:List ab}{us:List Value}(h:bV w ν cs us)(off sz:Nat):bV w ν ((cs.drop off).take sz) ((us.drop off).take sz):=yh sz (vZ off h)
theorem Ke{w:World}{base el sz n:Nat}{v:Value}{us:List Value}(h:w.ownsRow base el sz v n us){b:Nat}(af:v.ownBlock=some b):∃cap,v= .slice (some ⟨b,0,none⟩) n cap:=by
 rcases h.2 with⟨rfl,_⟩|⟨g,cap,cur,rfl,_⟩
 ·simp[la]at af
 ·simp[la]at af;subst af;exact⟨cap,rfl⟩
theorem Good.rowElem{pr:Nat->Prop}{w:World}{ν:aC}{b:List (aq×List ab)}{e:List (aq×cp)}(aL:Good pr w ν b e){k:aq}{n el sz:Nat}{xs:List ab}(J:look k e=some ⟨n,el,sz,some xs⟩){i f:Nat}{u:Value}(ad:aw w ν (.rptr sz k n i f) u){p:ab}(aV:xs[i]? =some p):
  ∃(v:Value) (us:List Value) (dL:Nat),aw w ν p v/\v.cells.size=sz/\∃b o,u= .pointer (some ⟨b,o,none⟩)/\∀j c,v.cells.toList[f+j]? =some c->w.cell? ⟨b,o+j,none⟩=some c:=by
 simp only[aw]at ad;obtain⟨_,aD,n',dn,I,aa,ak⟩:=ad;obtain⟨v,us,bL,ck,dd,du⟩:=aL.own k _ J;rw[I]at bL;simp only[dp,hQ]at bL;obtain⟨rfl,rfl⟩:=bL;obtain⟨bl,af,rfl⟩:=ak rfl;obtain⟨cap,rfl⟩:=Ke ck af;obtain⟨aB,hV,_⟩:=du xs rfl;simp only at aB hV;obtain⟨v,eF,fy,kD⟩:=AX i hV aV;refine⟨v,us,el,eF,fy,bl,_,rfl,fun j c av=>?_⟩;have b4:f+j<sz:=by have:=(gp.1 av).1;simp[fy]at this;exact this
 have hmul:i*sz+sz<=n'*sz:=by have:=Nat.mul_le_mul_right sz (show i+1<=n' from aD);rwa[Nat.succ_mul]at this
 have aA:=ck.cellAt (i*sz+f+j) (by show _<n'*sz;omega);rw[aA];rw[kD,List.getElem?_take,if_pos b4,List.getElem?_drop]at av;rw[<-av];congr 1;omega
theorem Af{P:bm}{aQ:List (Nat×cm)}(au:dE P aQ=true){pr:Nat->Prop}{w:World}{ν:aC}{b:List (aq×List ab)}{e:List (aq×cp)}(aL:Good pr w ν b e){t:Nat}{f:cm}(aH:cV aQ t=some f)
  {x:ab} {u:Value} (ad:aw w ν x u) {c:Prop} {p:ab} (he:kz b e f.kind.isAgg f.size x=some (c,p)) (aA:c):∃v,(Instr.loadAt t u).run P w= .ok v w/\aw w ν p v:=by
 obtain⟨b1,ao⟩:=rn au aH w;generalize zt:f.kind.isAgg=ep at*;generalize cE:f.size=sz at*;unfold kz at he;split at he
 ·rename_i cB k n i tx;unfold ui at he;split at he
  ·rename_i n' el gJ xs J;split at he
   ·rename_i aU;obtain⟨rfl,rfl⟩:=aU;split at he
    ·rename_i gw QX;obtain⟨Fm,us,dL,g1,g2,lU⟩:=Good.rowElem aL J ad QX;have Da:dK gw=true:=by
      cases ep
      ·simp only[ib,if_false,me]at he;obtain⟨q,_,he⟩:=he;cases he;exact aA
      ·simp only[if_true]at he;cases he;exact aA.1
     have cj:=ra g1 Da;cases ep
     ·simp only[ib,if_false,me]at he;obtain⟨q,bj,he⟩:=he;cases he;obtain⟨v,f1,f2,f3⟩:=yg tx cj bj;refine⟨v,?_,f2⟩;obtain⟨b,o,rfl,lU⟩:=lU;have:=lU 0 v (by simpa using f1);simp only[Nat.add_zero]at this;simp[Instr.loadAt,Instr.sureAddr,loadVar,b1,this]
     ·simp only[if_true]at he;cases he;obtain⟨b,o,rfl,lU⟩:=lU;refine⟨.agg ((Fm.cells.toList.drop tx).take sz).toArray,?_,by simp only[aw];exact⟨_,rfl,by simpa using AZ cj tx sz⟩⟩;have aB:=mI cj;have hlen:((Fm.cells.toList.drop tx).take sz).length=sz:=by simp only[List.length_take,lb];omega
      have fu:=run_loadCells_list (P:=P) w ⟨b,o,none⟩ ((Fm.cells.toList.drop tx).take sz) (fun j v av=>by
       rw[lK];refine lU j v ?_;rw[List.getElem?_take]at av;split at av
       ·simpa[List.getElem?_drop]using av
       ·cases av)
      rw[hlen]at fu;simp only[Instr.loadAt,Instr.sureAddr,loadVar,dW,eN,ea,b1,if_true,ao,fu]
    ·cases he
   ·cases he
  ·cases he
 ·rename_i k off;simp only[aw]at ad;obtain⟨bl,I,rfl⟩:=ad;split at he
  ·rename_i cs J;obtain⟨fB,us,el,g1,g2,g3,g4,g5⟩:=aL.box k cs J;rw[I]at g1;cases g1;have gE:fp cs=true:=by
    cases ep
    ·simp only[ib,if_false,me]at he;obtain⟨q,bj,he⟩:=he;cases he;exact aA
    ·simp only[if_true]at he;cases he;exact aA.1
   rw[lA gE]at g4;rw[k7 gE]at g5;have aB:=mI g5;cases ep
   ·simp only[ib,if_false,me]at he;obtain⟨q,bj,he⟩:=he;cases he;obtain⟨v,f1,f2,f3⟩:=yg off g5 bj;refine⟨v,?_,f2⟩;have lU:w.cell? ⟨bl,off,none⟩=some v:=by simpa[World.cell?,g4]using f1
    simp[Instr.loadAt,Instr.sureAddr,loadVar,b1,lU]
   ·simp only[if_true]at he;cases he;replace aA:=aA.2;refine⟨_,?_,by simp only[aw];exact⟨_,rfl,by simpa using AZ g5 off sz⟩⟩;simp only[Instr.loadAt,Instr.sureAddr,loadVar,dW,eN,ea,b1,if_true,ao];rw[TG g4 (by simp at aB;omega)];rfl
  ·cases he
 ·rename_i q;simp only[aw]at ad;obtain⟨bl,off,dn,rfl,aa,ak⟩:=ad;cases ep
  ·simp only[ib,if_false]at he;cases he;obtain⟨lT,mu⟩:=aA;obtain⟨g1,g2⟩:=ED aa lT (fun cs e=>by subst e;have:=eV List.length mu;simp only[cells,mc,List.length_nil]at this;cases cs with
    |nil=>simp[cells]at mu
    |cons y ys=>simp only[cells,U3]at mu;obtain⟨ai,aE⟩:=mu;subst aE;have:=eV SizeOf.sizeOf ai;simp at this;omega)
   refine⟨dn,?_,aa⟩;rw[g2]at ak;have lU:=ak.1.2;simp[Instr.loadAt,Instr.sureAddr,loadVar,b1,lU]
  ·simp only[if_true]at he;cases he;obtain⟨cs,rfl,hlen⟩:=aA;simp only[aw]at aa;obtain⟨us,rfl,aJ⟩:=aa;refine⟨.agg us,?_,by simp only[aw];exact⟨us,rfl,aJ⟩⟩;simp only[mO]at ak;have aB:=mI aJ;have:=K0 (P:=P) ak;rw[show us.toList.length=sz from by omega]at this;simp[Instr.loadAt,Instr.sureAddr,loadVar,b1,ao,this]
 ·cases he
theorem O8{P:bm}{aQ:List (Nat×cm)}(au:dE P aQ=true){w:World}{ν:aC}{s i:Nat}{f:cm}{cR:List (Nat×Nat)}(aH:cV aQ s=some f)(J:f.kind= .struct cR){off t:Nat}{g:cm}(aD:cR[i]? =some (off,t))(aL:cV aQ t=some g)(bR:g.size≠0)
  {x:ab} {u:Value} (ad:aw w ν x u) {c:Prop} {p:ab} (he:mn off g.kind.isAgg g.size x=some (c,p)) (aA:c):∃v,(Instr.fieldAt s u i).run P w= .ok v w/\aw w ν p v:=by
 obtain⟨d,aG,ei⟩:=gn au aH;rw[J]at ei;obtain⟨gs,rfl,gb⟩:=BV ei;have lX:∃fd:Field,gs[i]? =some fd/\fd.offset=off/\fd.type=t:=by rw[<-gb]at aD;simp only[List.getElem?_map,me]at aD;obtain⟨fd,I,aa⟩:=aD;simp only[hQ]at aa;exact⟨fd,by simpa using I,aa.1,aa.2⟩
 obtain⟨fd,zz,ag,j4⟩:=lX;obtain⟨b1,ao⟩:=rn au aL w;have fu:∀b o,(Instr.fieldAt s (.pointer (some ⟨b,o,none⟩)) i).run P w= .ok (.pointer (some ⟨b,o+off,none⟩)) w:=by intro b o;simp[Instr.fieldAt,run_underlying aG,zz,Instr.sureAddr,fieldPlace,j4,ao,bR,lK,ag]
 unfold mn at he;split at he
 ·cases he;simp only[aw]at ad;obtain⟨b,I,rfl⟩:=ad;exact⟨_,fu _ _,by simp only[aw];exact⟨b,I,rfl⟩⟩
 ·cases he;simp only[aw]at ad;obtain⟨⟨b,o,rfl⟩,aD,n',dn,I,aa,ak⟩:=ad;refine⟨_,fu _ _,?_⟩;simp only[aw];refine⟨⟨b,_,rfl⟩,aD,n',dn,I,aa,fun e=>?_⟩;obtain⟨fa,ai,aE⟩:=ak e;simp only[YS,dp,Addr.mk.injEq,and_true]at aE;obtain⟨rfl,rfl⟩:=aE;exact⟨b,ai,by rw[Nat.add_assoc]⟩
 ·rename_i cs;simp only[aw]at ad;obtain⟨b,o,dn,rfl,⟨us,rfl,aa⟩,ak⟩:=ad;refine⟨_,fu _ _,?_⟩;simp only[mO]at ak;split at he
  ·cases he;simp only[aw];exact⟨b,o+off,.agg ((us.toList.drop off).take g.size).toArray,rfl,⟨_,rfl,by simpa using AZ aa off g.size⟩,by simpa[mO]using Ac g.size (Ab off ak)⟩
  ·simp only[me]at he;obtain⟨q,bj,he⟩:=he;cases he;obtain⟨v,f1,f2,f3⟩:=yg off aa bj;simp only[aw];have QG:=p5 ak f1;have Rf:v.cells= #[v]:=by cases v<;>first|rfl|cases f3
   exact⟨b,o+off,v,rfl,f2,by rw[Rf];exact⟨QG,trivial⟩⟩
 ·cases he
theorem Ph{P:bm}{aQ:List (Nat×cm)}(au:dE P aQ=true){w:World}{ν:aC}{s i:Nat}{f:cm}{cR:List (Nat×Nat)}(aH:cV aQ s=some f)(J:f.kind= .struct cR){off t:Nat}{g:cm}(aD:cR[i]? =some (off,t))(aL:cV aQ t=some g)
  {x:ab} {u:Value} (ad:aw w ν x u) {c:Prop} {p:ab} (he:pV off g.kind.isAgg g.size x=some (c,p)) (aA:c):∃v,(Instr.field s u i).run P w= .ok v w/\aw w ν p v:=by
 obtain⟨d,aG,ei⟩:=gn au aH;rw[J]at ei;obtain⟨gs,rfl,gb⟩:=BV ei;have lX:∃fd:Field,gs[i]? =some fd/\fd.offset=off/\fd.type=t:=by rw[<-gb]at aD;simp only[List.getElem?_map,me]at aD;obtain⟨fd,I,aa⟩:=aD;simp only[hQ]at aa;exact⟨fd,by simpa using I,aa.1,aa.2⟩
 obtain⟨fd,zz,ag,j4⟩:=lX;obtain⟨b1,ao⟩:=rn au aL w;unfold pV at he;split at he
 ·rename_i cs;simp only[aw]at ad;obtain⟨us,rfl,aa⟩:=ad;generalize zt:g.kind.isAgg=ep at*;cases ep
  ·simp only[ib,if_false,me]at he;obtain⟨q,bj,he⟩:=he;cases he;obtain⟨v,f1,f2,f3⟩:=yg off aa bj;have OF:us[off]? =some v:=by simpa using f1
   exact⟨v,by simp[Instr.field,run_underlying aG,zz,asAgg,part,j4,b1,ag,OF],f2⟩
  ·simp only[if_true]at he;cases he;refine⟨.agg (us.extract off (off+g.size)),by simp[Instr.field,run_underlying aG,zz,asAgg,part,j4,b1,ag,ao],?_⟩;simp only[aw];refine⟨_,rfl,?_⟩;have:=AZ aa off g.size;simpa[List.take_drop]using this
 ·cases he
theorem Rp{P:bm}{aQ:List (Nat×cm)}(au:dE P aQ=true){w:World}{ν:aC}{t e:Nat}{f g:cm}(aH:cV aQ t=some f)(J:f.kind= .slice e)(aL:cV aQ e=some g)
  {x y:ab} {u v:Value} (ad:aw w ν x u) (bs:aw w ν y v) {c:Prop} {p:ab} (he:vp g.size x y=some (c,p)) (aA:c):∃r,(Instr.indexAt t u v).run P w= .ok r w/\aw w ν p r:=by
 obtain⟨d,aG,ei⟩:=gn au aH;rw[J]at ei;obtain rfl:=nY ei;obtain⟨b1,ao⟩:=rn au aL w;unfold vp at he;split at he
 ·rename_i cB tag xs k i;split at he
  ·rename_i cE;cases he;simp only[aw]at ad bs;subst bs;subst cE;obtain⟨⟨a,cap,rfl,I,aa,ak⟩,_⟩:=ad;obtain⟨ve,lp⟩:=aA;have jK:i.toNat<xs.length:=Ω
   rcases ak with rfl|⟨b,off,us,rfl,aJ,ba⟩
   ·simp at jK
   ·have ad:xs[i.toNat]? =some xs[i.toNat]:=eo jK;obtain⟨w',eF,fy,kD⟩:=AX i.toNat ba ad;refine⟨.pointer (some ⟨b,off+i.toNat*g.size,none⟩),?_,?_⟩
    ·simp only[Instr.indexAt,asIntOf,dW,eN,ea,run_underlying aG,ve,lp,and_self,if_true,ao,lK]
    ·simp only[aw];refine⟨b,off+i.toNat*g.size,w',rfl,by simpa[List.getD,ad]using eF,?_⟩;rw[kD];exact Ac g.size (Ab _ aJ)
  ·cases he
 ·rename_i cB k n Jv i;split at he
  ·rename_i cE;cases he;simp only[aw]at ad bs;subst bs;subst cE;obtain⟨⟨b,cap,rfl⟩,aa,n',dn,ak,aJ,ba⟩:=ad;obtain⟨ve,lp⟩:=aA;refine⟨.pointer (some ⟨b,0+i.toNat*g.size,none⟩),?_,?_⟩
   ·simp only[Instr.indexAt,asIntOf,dW,eN,ea,run_underlying aG,ve,lp,and_self,if_true,ao,lK]
   ·simp only[aw];refine⟨⟨b,_,rfl⟩,Ω,n',dn,ak,aJ,fun e=>⟨b,?_,Ψ⟩⟩;rw[<-ba e];rfl
  ·cases he
 ·cases he
theorem AD{C:db}{st:aM}{a:Act}{w:World}{ν:aC}(h:bK C st a w ν){x:aR cl}{o:aR gY}(ad:sK x o=true){yZ n:Int}(he:oj yZ (x.map (bg st.t))=some n):
  (o.map a.eval=none/\n=yZ)\/ ∃k,o.map a.eval=some (.int k n):=by
 cases x with
 |none=>cases o with
  |none=>simp[oj]at he;exact .inl ⟨rfl,he.symm⟩
  |some o=>simp[sK]at ad
 |some x=>cases o with
  |none=>simp[sK]at ad
  |some o=>
   simp only[sK]at ad
   have:=c1 h ad
   simp only[mP]at he⊢
   cases qK:bg st.t x<;>simp[qK,oj]at he
   rw[qK]at this
   simp only[aw]at this
   subst he
   exact .inr ⟨_,by rw[this]⟩
theorem F7:∀{xs:List ab} {s:List az},nU xs=some s->s.length=xs.length
 |[],s,h=>by simp only[nU]at h;cases h;rfl
 |x::xs,s,h=>by
  cases x<;>try(simp[nU]at h;done)
  rename_i k n;cases k<;>simp only[nU,me,reduceCtorEq]at h;obtain⟨aj,I,rfl⟩:=h;simp[F7 I]
def uF(n:Int):az:=lF n.toNat
theorem F8{w:World}{ν:aC}{sz:Nat}:∀{xs:List ab} {s:List az} {us:List Value},nU xs=some s->cd w ν sz xs us->∃ns:List Int,us=ns.map (Value.int .u8)/\s=ns.map uF/\us.length=xs.length
 |[],s,us,h,hr=>by simp only[nU]at h;cases h;simp only[cd]at hr;subst hr;exact⟨[],rfl,rfl,rfl⟩
 |x::xs,s,us,h,hr=>by
  cases x<;>try(simp[nU]at h;done)
  rename_i k n;cases k<;>simp only[nU,me,reduceCtorEq]at h;obtain⟨aj,I,rfl⟩:=h;simp only[cd,aw]at hr;obtain⟨u,a1,rfl,⟨rfl,_⟩,hr⟩:=hr;obtain⟨ns,rfl,rfl,aB⟩:=F8 I hr;exact⟨n::ns,by simp[mO],rfl,by simp[mO]at aB⊢;exact aB⟩
theorem Km{P:bm}{w:World}{f:Value->ic->Sem (ForInStep ic)}(aH:∀n s,f (.int .u8 n) s=pure (.yield (s.push (uF n)))):∀(ns:List Int) (s:ic),(forIn (ns.map (Value.int .u8)) s f).run P w= .ok ⟨(s.data.toList++ns.map uF).toArray⟩ w
 |[],s=>by simp
 |n::ns,s=>by simp only[ig,List.forIn_cons,dW,aH,eN,ea];rw[Km aH ns];simp[YN]
theorem Mq{P:bm}{w:World}{A:Nat->Nat->Prop}{a:aR Addr}{len cap:Nat}{ns:List Int}(aB:ns.length=len)(h:len=0\/ ∃b off,a=some ⟨b,off,none⟩/\h7 w A b off (ns.map (Value.int .u8))):
  (Conv.bytesToString (.slice a len cap)).run P w= .ok (.string ⟨(ns.map uF).toArray⟩) w:=by
 have QJ:∀jV,a=some jV->(loadCells jV len).run P w= .ok (ns.map (Value.int .u8)).toArray w:=fun jV e=>by
  rcases h with h|⟨b,off,ai,aa⟩
  ·subst h;have:ns=[]:=by cases ns<;>simp_all
   subst this;exact run_loadCells_list w jV [] fun j v av=>by simp at av
  ·rw[ai]at e;cases e;have:=K0 (P:=P) aa;simpa[aB]using this
 unfold Conv.bytesToString;cases a with
 |none=>
  have:ns=[]:=by
   rcases h with h|⟨b,off,ai,aa⟩
   ·subst h;cases ns<;>simp_all
   ·cases ai
  subst this;simp;rfl
 |some jV=>simp only[dW,QJ jV rfl,ea,Array.forIn_toList,List.forIn_toArray];rw[Km (fun n s=>rfl) ns YM];simp
theorem Fy{c d:ab}(h:yH c d=true):c=d:=by unfold yH at h;split at h<;>simp_all
theorem L0:∀{cs cn:List ab},wC cs cn=true->cs=cn
 |[],[],_=>rfl
 |[],_::_,h=>by simp[wC]at h
 |_::_,[],h=>by simp[wC]at h
 |c::cs,d::cn,h=>by simp only[wC,bD]at h;rw[Fy h.1,L0 h.2]
theorem UY{w:World}{ν:aC}{c d:ab}{v:Value}(h:Fx c d=true)(aG:aw w ν d v):aw w ν c v:=by
 unfold Fx at h;split at h
 ·simp only[da]at h;subst h;simp only[aw]at aG⊢;exact⟨aG.1,fun e=>(by cases e),fun _ e=>(by cases e),fun _ _ e=>(by cases e),fun _ e=>(by cases e)⟩
 ·rw[Fy h];exact aG
theorem LZ{w:World}{ν:aC}:∀{cs cn:List ab} {us:List Value},uw cs cn=true->bV w ν cn us->bV w ν cs us
 |[],[],_,_,h=>h
 |[],_::_,_,h,_=>by simp[uw]at h
 |_::_,[],_,h,_=>by simp[uw]at h
 |c::cs,d::cn,us,h,hr=>by simp only[uw,bD]at h;simp only[bV]at hr⊢;obtain⟨u,a1,ai,⟨aE,bb⟩,b9⟩:=hr;exact⟨u,a1,ai,⟨UY h.1 aE,bb⟩,LZ h.2 b9⟩
theorem UZ{cs:List ab}{z:ab}(h:FC cs z=true):∃cn,z= .agg cn/\uw cs cn=true:=by
 cases z<;>simp only[FC]at h;case agg cn=>exact⟨cn,rfl,h⟩
 all_goals cases h
theorem Pw(s:List az)(n:Nat)(h:n<s.length):(⟨s.toArray⟩:ic)[n]? =some (s.getD n 0):=by
 have cE:n<(⟨s.toArray⟩:ic).size:=by rw[yt];exact h
 have e:(⟨s.toArray⟩:ic)[n]? =some ((⟨s.toArray⟩:ic)[n]'cE):=getElem?_pos (⟨s.toArray⟩:ic) n cE;rw[e];congr 1;simp[List.getD,h];rfl
theorem Bf(P:bm)(w:World)(k:IntKind)(i:Int)(y:Nat)(c:BoundsCode)(bR:0<=i)(I:i<=y):(Instr.sliceBound (.int k i) y c).run P w= .ok i.toNat w:=by simp[Instr.sliceBound,asIntOf,bR,I]
theorem F4(P:bm)(w:World)(Rw:Bool)(len cap:Nat)(lo aD:aR Value)(l h:Int)(QI:(lo=none/\l=0)\/ ∃k,lo=some (.int k l))(Qp:(aD=none/\h=len)\/ ∃k,aD=some (.int k h))
  (bR:0<=l) (I:l<=h) (aa:h<=len) (aA:len<=cap):(Instr.sliceBounds Rw len cap lo aD none).run P w= .ok (l.toNat,h.toNat,cap) w:=by
 rcases QI with⟨rfl,rfl⟩|⟨k,rfl⟩<;>rcases Qp with⟨rfl,rfl⟩|⟨aW,rfl⟩
 ·simp[Instr.sliceBounds]
 ·simp[Instr.sliceBounds,Bf P w aW h cap _ Ω Ω]
 ·simp[Instr.sliceBounds,Bf P w k l len _ Ω Ω]
 ·simp[Instr.sliceBounds,Bf P w aW h cap _ Ω Ω,Bf P w k l h.toNat _ Ω Ω]
theorem Ki{P:bm}{aQ:List (Nat×cm)}(au:dE P aQ=true):∀(gs:List Field),(gs.all fun f=>(cV aQ f.type).isSome)=true->
  ∃places:List (Nat×Nat),gs.mapM (fun f=>(P.info? f.type).map fun i=>(f.offset,i.size))=some places/\
   ∀(i off t sz:Nat),(gs.map (fun f=>(f.offset,f.type)))[i]? =some (off,t)->(cV aQ t).map (·.size)=some sz->places[i]? =some (off,sz)
 |[],_=>⟨[],Ψ,Ψ⟩
 |f::gs,h=>by
  simp only[List.all_cons,bD]at h;obtain⟨places,I,aa⟩:=Ki au gs h.2;obtain⟨g,aL⟩:=eb.1 h.1;obtain⟨i,d,z,ai,aE,bb,b9,ft,dz,n2,lO⟩:=(ql au aL).ex;refine⟨(f.offset,g.size)::places,by simp[List.mapM_cons,ai,bb,I],fun j off t sz av cE=>?_⟩;cases j with
  |zero=>simp only[ig,List.getElem?_cons_zero,dp,hQ]at av⊢;obtain⟨rfl,rfl⟩:=av;rw[aL]at cE;simpa using cE
  |succ j=>simp only[ig,List.getElem?_cons_succ]at av⊢;exact aa j off t sz av cE
theorem iv{P:bm}{w:World}{x:Sem Value}{v:Value}(h:x.run P w= .ok v w):(do pure (Next.value (<-x)):Sem Next).run P w= .ok (.value v) w:=by simp[h]
theorem FB{p q:ab}(h:wE p q=true):p=q:=by
 unfold wE at h;split at h
 ·rw[L0 h]
 ·cases h
 ·exact Fy h
theorem FA(w:World)(ν:aC){p:ab}{v:Value}(h:ux p v=true):aw w ν p v/\bV w ν (cells p) v.cells.toList:=by
 by_cases b1:∃cs,p= .agg cs
 ·obtain⟨cs,rfl⟩:=b1;cases v<;>simp only[ux]at h;case agg us=>have:=Fz w ν _ _ h;exact⟨by simp only[aw];exact⟨us,rfl,this⟩,by simpa[cells,mO]using this⟩
  all_goals cases h
 ·have cD:uG p v=true/\v.oneCell'=true:=by cases p<;>simp only[ux,bD]at h<;>first|exact h|exact absurd ⟨_,rfl⟩ b1
  have hr:=BF w ν cD.1;refine⟨hr,?_⟩;have aA:cells p=[p]:=by cases p<;>first|rfl|exact absurd ⟨_,rfl⟩ b1
  have aY:v.cells= #[v]:=by have:=cD.2;cases v<;>first|rfl|simp[Value.oneCell']at this
  rw[aA,aY];simp only[bV];exact⟨v,[],rfl,⟨hr,cD.2⟩,rfl⟩
theorem E4{P:bm}{aQ:List (Nat×cm)}(au:dE P aQ=true){t:Nat}{f:cm}(aH:cV aQ t=some f)(w:World):∃z,(zeroValue t).run P w= .ok z w/\ux f.zero z=true/\z.cells.size=f.size:=by obtain⟨i,d,z,I,aa,ak,aJ,ba,cq,dR,hK⟩:=(ql au aH).ex;exact⟨z,by simp[zeroValue,typeInfo,I,cq],dR,hK⟩
theorem uh{C:db}{st:aM}{a:Act}{w:World}{ν:aC}(h:bK C st a w ν):∀{xs:List cl} {os:List gY},q3 xs os=true->bT w ν (xs.map (bg st.t)) (os.map a.eval)
 |[],[],_=>by simp[bT]
 |[],_::_,J=>by simp[q3]at J
 |_::_,[],J=>by simp[q3]at J
 |x::xs,o::os,J=>by simp only[q3,bD]at J;simp only[ig,bT];exact⟨_,_,rfl,c1 h J.1,uh h J.2⟩
theorem Nz{P:bm}{w:World}{t:eO}(aG:P.underlying t=some .bool)(d:Nat)(a b:Bool):(Op.equalIn (d+1) t (.bool a) (.bool b)).run P w= .ok (a==b) w:=by rw[Op.equalIn];simp only[dW,run_underlying aG,ea,eN]
theorem NA{P:bm}{w:World}{t:eO}{ms:Array (String×eO)}(aG:P.underlying t=some (.interface ms))(d:Nat):(∀u x,(Op.equalIn (d+1) t (.iface u x) .nilIface).run P w= .ok false w)/\(Op.equalIn (d+1) t .nilIface .nilIface).run P w= .ok true w:=by
 constructor
 ·intro u x;simp[Op.equalIn,run_underlying aG]
 ·simp[Op.equalIn,run_underlying aG]
theorem y9{P:bm}{w:World}{t:eO}{ms:Array (String×eO)}(aG:P.underlying t=some (.interface ms)):(∀u x,(Op.equal t (.iface u x) .nilIface).run P w= .ok false w)/\(Op.equal t .nilIface .nilIface).run P w= .ok true w:=NA aG 9999
theorem NB{P:bm}{w:World}{t:eO}(aG:P.underlying t=some .bool)(a b:Bool):(Op.equal t (.bool a) (.bool b)).run P w= .ok (a==b) w:=Nz aG _ a b
theorem Hd:∀{borns:List Nat} {kvs:List ab} {us:List Value},kvs.length=2*borns.length->us.length=kvs.length->(eG borns us).length=borns.length
 |[],_,us,_,_=>by simp[eG]
 |fa::dq,kvs,[],I,aa=>by rw[I]at aa;simp at aa
 |fa::dq,kvs,[_],I,aa=>by rw[I]at aa;simp at aa;omega
 |fa::dq,kvs,k::v::us,I,aa=>by simp only[eG,mc];rw[Hd (kvs:=kvs.drop 2) (us:=us) (borns:=dq) (by simp at I⊢;omega) (by simp at I aa⊢;omega)]
theorem KR{w:World}{ν:aC}:∀{aX:List ab} {vs:List Value},bT w ν aX vs->vs.length=aX.length
 |[],vs,h=>by simp only[bT]at h;subst h;rfl
 |p::aX,vs,h=>by simp only[bT]at h;obtain⟨u,a1,rfl,_,aa⟩:=h;simp[KR aa]
theorem ri{P:bm}{w:World}{r:Nat}{o:Obj}(af:w.heap[r]? =some o)(aU:∀c e f,o≠ .cells c e f:=by simp):(getObj r).run P w= .ok o w:=by simp only[getObj,Sem.run,af]
def nL(P:bm):Nat->List Bool->List Field->Prop
 |_,[],[]=>True
 |n,b::r,f::gs=>(f.offset=n/\f.name≠ "_" /\(if b=true then P.underlying f.type=some .string else∃k,P.underlying f.type=some (.int k)))/\nL P (n+1) r gs
 |_,_,_=>cv
theorem x8{P:bm}{t:eO}{b:Bool}(h:if b=true then P.underlying t=some .string else∃k,P.underlying t=some (.int k)):P.plainKey t=true:=by
 cases b
 ·obtain⟨k,h⟩:=(by simpa using h:∃k,P.underlying t=some (.int k));simp[Program.plainKey,h]
 ·have h:P.underlying t=some .string:=by simpa using h
  simp[Program.plainKey,h]
theorem MF{P:bm}{w:World}{ν:aC}(d:Nat){X Y:Array Value}(cR:List Bool):∀(gs:List Field) (n:Nat) (as dq:List ab) (us vs:List Value) (q:Bool),nL P n cR gs->X.toList.drop n=us->Y.toList.drop n=vs->bV w ν as us->bV w ν dq vs->iS cR as dq=some q->
  (Op.eqFields (d+1) X Y gs).run P w= .ok q w/\(q=true->us=vs)/\∀m,(us.zip us).all (fun(x,y)=>Instr.sameBits m x y)=true:=by
 induction cR with
 |nil=>intro gs n as dq us vs q aL lQ tC I aa h;cases as<;>cases dq<;>simp only[iS,dp,reduceCtorEq]at h;cases gs<;>simp only[nL]at aL;simp only[bV]at I aa;rw[I,aa,<-h];exact⟨by simp[Op.eqFields],fun _=>rfl,fun m=>rfl⟩
 |cons tv r a8=>
  intro gs n as dq us vs q aL lQ tC I aa h;cases gs with
  |nil=>simp only[nL]at aL
  |cons f gs=>
  simp only[nL]at aL;obtain⟨⟨zL,fL,j4⟩,aL⟩:=aL;cases as with
  |nil=>cases tv<;>cases dq<;>simp[iS]at h
  |cons x7 as=>
  cases dq with
  |nil=>cases tv<;>cases x7<;>simp[iS]at h
  |cons AH dq=>
  cases tv with
  |false=>
   have aA:∃k a b jb,x7= .int k a/\AH= .int k b/\iS r as dq=some jb/\q=((a==b)&&jb):=by
    cases x7<;>first|(simp[iS]at h;done)|skip
    cases AH<;>first|(simp[iS]at h;done)|skip
    simp only[iS]at h;split at h
    ·rename_i J;subst J;simp only[me]at h;obtain⟨jb,ak,aJ⟩:=h;exact⟨_,_,_,jb,rfl,rfl,ak,aJ.symm⟩
    ·cases h
   obtain⟨k,a,b,jb,rfl,rfl,ak,rfl⟩:=aA;simp only[bV,aw]at I aa;obtain⟨u,a1,rfl,⟨rfl,_⟩,I⟩:=I;obtain⟨v,vs',rfl,⟨rfl,_⟩,aa⟩:=aa;have x6:X[n]? =some (.int k a):=by rw[<-Array.getElem?_toList,<-List.head?_drop,lQ];rfl
   have Eh:Y[n]? =some (.int k b):=by rw[<-Array.getElem?_toList,<-List.head?_drop,tC];rfl
   obtain⟨i1,i2,i3⟩:=a8 gs (n+1) as dq a1 vs' jb aL (by rw[<-List.tail_drop,lQ];rfl) (by rw[<-List.tail_drop,tC];rfl) I aa ak;obtain⟨Jv,Dh⟩:=(by simpa using j4:∃k,P.underlying f.type=some (.int k));refine⟨?_,?_,fun m=>?_⟩
   ·simp only[Op.eqFields,fL,ne_eq,not_false_eq_true,if_true,dW,zL,run_part_plain w (x8 j4) x6,run_part_plain w (x8 j4) Eh,ea,run_equalIn_int w d f.type k Jv a b Dh];cases va:(a==b)
    ·simp
    ·simpa using i1
   ·intro bj;simp only[bD,da]at bj;rw[bj.1,i2 bj.2]
   ·have:=i3 m;simp only[List.zip_cons_cons,List.all_cons,this,Bool.and_true];cases m<;>simp[Instr.sameBits]
  |true=>
   have aA:∃a b jb,x7= .str a/\AH= .str b/\iS r as dq=some jb/\q=((a==b)&&jb):=by
    cases x7<;>first|(simp[iS]at h;done)|skip
    cases AH<;>first|(simp[iS]at h;done)|skip
    simp only[iS,me]at h;obtain⟨jb,ak,aJ⟩:=h;exact⟨_,_,jb,rfl,rfl,ak,aJ.symm⟩
   obtain⟨a,b,jb,rfl,rfl,ak,rfl⟩:=aA;simp only[bV,aw]at I aa;obtain⟨u,a1,rfl,⟨⟨rfl,_⟩,_⟩,I⟩:=I;obtain⟨v,vs',rfl,⟨⟨rfl,_⟩,_⟩,aa⟩:=aa;have x6:X[n]? =some (.string ⟨a.toArray⟩):=by rw[<-Array.getElem?_toList,<-List.head?_drop,lQ];rfl
   have Eh:Y[n]? =some (.string ⟨b.toArray⟩):=by rw[<-Array.getElem?_toList,<-List.head?_drop,tC];rfl
   obtain⟨i1,i2,i3⟩:=a8 gs (n+1) as dq a1 vs' jb aL (by rw[<-List.tail_drop,lQ];rfl) (by rw[<-List.tail_drop,tC];rfl) I aa ak;have Dh:P.underlying f.type=some .string:=by simpa using j4
   refine⟨?_,?_,fun m=>?_⟩
   ·simp only[Op.eqFields,fL,ne_eq,not_false_eq_true,if_true,dW,zL,run_part_plain w (x8 j4) x6,run_part_plain w (x8 j4) Eh,ea,run_equalIn_string w d f.type _ _ Dh];have e:((⟨a.toArray⟩:ic).toList==(⟨b.toArray⟩:ic).toList)=(a==b):=by rw[U1,U1]
    rw[e];cases va:(a==b)
    ·simp
    ·simpa using i1
   ·intro bj;simp only[bD,da]at bj;rw[bj.1,i2 bj.2]
   ·have:=i3 m;simp only[List.zip_cons_cons,List.all_cons,this,Bool.and_true];cases m<;>simp only[Instr.sameBits]<;>exact(MapKept.bytes_beq _ _).2 rfl
theorem Ht{P:bm}{aQ:List (Nat×cm)}(au:dE P aQ=true):∀(cR:List Bool) (gs:List Field) (n:Nat),uZ aQ n cR (gs.map fun f=>(f.offset,f.type))=true->(gs.all (fun f=>match P.underlying f.type with|some (.int _)=>true|some .string=>true|_=>false)=true)/\((∀f∈gs,f.name≠ "_")->nL P n cR gs)
 |[],[],_,_=>⟨rfl,fun _=>trivial⟩
 |[],_::_,_,h=>by simp[uZ]at h
 |_::_,[],_,h=>by simp[uZ]at h
 |b::r,f::gs,n,h=>by
  simp only[ig,uZ,bD,da]at h;obtain⟨⟨I,aa⟩,ak⟩:=h;obtain⟨i1,i2⟩:=Ht au r gs (n+1) ak;split at aa
  ·rename_i aH;obtain⟨d,hu,aG⟩:=gn au aH;obtain rfl:=wX aG;refine⟨by simp only[List.all_cons,hu,i1,Bool.and_self],fun aU=>⟨⟨I,aU f Ψ,?_⟩,i2 fun g aL=>aU g (by simp[aL])⟩⟩;have:b=false:=by simpa using aa
   subst this;simpa using⟨_,hu⟩
  ·rename_i aH;obtain⟨d,hu,aG⟩:=gn au aH;obtain rfl:=rQ aG;refine⟨by simp only[List.all_cons,hu,i1,Bool.and_self],fun aU=>⟨⟨I,aU f Ψ,?_⟩,i2 fun g aL=>aU g (by simp[aL])⟩⟩;subst aa;simpa using hu
  ·cases aa
theorem Hv{P:bm}{aQ:List (Nat×cm)}(au:dE P aQ=true){cR:List Bool}{t:Nat}(h:zg aQ cR t=true):∃gs,P.underlying t=some (.struct gs)/\nL P 0 cR gs.toList/\P.stoodInHeld t=false/\P.eqGuardType P.depth t=false:=by
 unfold zg at h;split at h
 ·rename_i aH;obtain⟨d,hu,aG⟩:=gn au aH;have aA:=(ql au aH).cmp d hu;cases d<;>simp[jH]at aG;rename_i gs;subst aG;obtain⟨i1,i2⟩:=Ht au cR gs.toList 0 h;have Qi:Hu P gs=true:=i1;simp only[BR,Qi,Bool.not_true,Bool.false_or,GP,bD,oF,kd,bne_iff_ne,ne_eq]at aA;exact⟨gs,hu,i2 aA.1.1,aA.1.2,aA.2⟩
 ·cases h
theorem Hf{P:bm}{w:World}{ν:aC}{t:eO}{gs:Array Field}{cR:List Bool}(hu:P.underlying t=some (.struct gs))(aL:nL P 0 cR gs.toList)(fE:P.stoodInHeld t=false){as dq:List ab}{X Y:Array Value}(I:bV w ν as X.toList)(aa:bV w ν dq Y.toList){q:Bool}(h:iS cR as dq=some q):
  (Op.equalIn 10000 t (.agg X) (.agg Y)).run P w= .ok q w/\(q=true->X=Y)/\∀m,(X.toList.zip X.toList).all (fun(x,y)=>Instr.sameBits m x y)=true:=by
 have aH:P.fieldsOf t=gs:=by simp[Program.fieldsOf,hu]
 obtain⟨i1,i2,i3⟩:=MF 9998 cR gs.toList 0 as dq _ _ q aL rfl rfl I aa h;refine⟨?_,fun e=>?_,?_⟩
 ·rw[run_equalIn_struct w 9999 t X Y (by rw[aH];exact hu) fE,aH];exact i1
 ·have:=i2 e;simpa using this
 ·simpa using i3
inductive qp (P:bm):ih->eO->Prop
 |i {t:eO} {k:IntKind}:P.underlying t=some (.int k)->qp P .i t
 |s {t:eO}:P.underlying t=some .string->qp P .s t
 |a {t:eO} {cR:List Bool} {gs:Array Field}:P.underlying t=some (.struct gs)->nL P 0 cR gs.toList->P.stoodInHeld t=false->qp P (.a cR) t
theorem DE{P:bm}{aQ:List (Nat×cm)}(au:dE P aQ=true){bH:ih}{t:Nat}(h:tV aQ bH t=true):qp P bH t:=by
 cases bH with
 |i=>
  simp only[tV]at h;split at h
  ·rename_i aH;obtain⟨d,hu,aG⟩:=gn au aH;obtain rfl:=wX aG;exact .i hu
  ·cases h
 |s=>
  simp only[tV]at h;split at h
  ·rename_i aH;obtain⟨d,hu,aG⟩:=gn au aH;obtain rfl:=rQ aG;exact .s hu
  ·cases h
 |a cR=>obtain⟨gs,I,aa,ak,_⟩:=Hv au h;exact .a I aa ak
def pO(P:bm)(w:World)(bH:ih)(t:eO)(fN u:Value)(b:Bool):Prop:=match bH with
 | .a _=>(Op.equal t fN u).run P w= .ok b w
 |_=> ∀d,P.underlying t=some d->Instr.sameNow d fN u=some b
def gM(P:bm)(w:World)(bH:ih)(t:eO)(fN:Value)(es:List MapEntry)(i:Nat)(r:aR (Nat×Value)):Prop:=match bH with
 | .a _=>(Instr.findAsking t fN es i).run P w= .ok r w
 |_=> ∀d,P.underlying t=some d->Instr.findNow d fN es i=some r
theorem gM.nil(P:bm)(w:World)(bH:ih)(t:eO)(fN:Value)(i:Nat):gM P w bH t fN [] i none:=by cases bH<;>simp[gM,Instr.findAsking,Instr.findNow]
theorem gM.hit{P:bm}{w:World}{bH:ih}{t:eO}{fN:Value}{e:MapEntry}{es:List MapEntry}{i:Nat}(h:pO P w bH t fN e.key true):gM P w bH t fN (e::es) i (some (i,e.val)):=by
 cases bH with
 |a cR=>simp only[pO]at h;simp[gM,Instr.findAsking,h]
 |i=>simp only[pO]at h;simp only[gM];intro d aG;simp[Instr.findNow,h d aG]
 |s=>simp only[pO]at h;simp only[gM];intro d aG;simp[Instr.findNow,h d aG]
theorem gM.miss{P:bm}{w:World}{bH:ih}{t:eO}{fN:Value}{e:MapEntry}{es:List MapEntry}{i:Nat}{r:aR (Nat×Value)}(h:pO P w bH t fN e.key false)(hr:gM P w bH t fN es (i+1) r):gM P w bH t fN (e::es) i r:=by
 cases bH with
 |a cR=>simp only[pO]at h;simp only[gM]at hr;simp[gM,Instr.findAsking,h,hr]
 |i=>simp only[pO]at h;simp only[gM]at hr⊢;intro d aG;simp[Instr.findNow,h d aG,hr d aG]
 |s=>simp only[pO]at h;simp only[gM]at hr⊢;intro d aG;simp[Instr.findNow,h d aG,hr d aG]
theorem gM.run{P:bm}{w:World}{bH:ih}{t:eO}(aG:qp P bH t){fN:Value}{es:List MapEntry}{r:aR (Nat×Value)}(h:gM P w bH t fN es 0 r):(Instr.findKey t fN es).run P w= .ok r w:=by
 cases aG with
 |i hu=>simp only[gM]at h;simp[Instr.findKey,run_underlying hu,h _ hu]
 |s hu=>simp only[gM]at h;simp[Instr.findKey,run_underlying hu,h _ hu]
 |a hu aL fE=>
  simp only[gM]at h;cases es with
  |nil=>simp[Instr.findAsking]at h;simp[Instr.findKey,run_underlying hu,Instr.findNow,h]
  |cons e es=>
   rename_i gs;have:Instr.sameNow (.struct gs) fN e.key=none:=by cases fN<;>rfl
   simp only[Instr.findKey,dW,run_underlying hu,ea,Instr.findNow,this];exact h
theorem Jp{P:bm}{w:World}{ν:aC}{bH:ih}{t:eO}(aG:qp P bH t){k aW:ab}{fN u:Value}(J:aw w ν k fN)(I:aw w ν aW u){ha:Bool}(af:qW bH k aW=some ha):
  pO P w bH t fN u ha/\(ha=true->u=fN/\Instr.sameBits 10000 u fN=true):=by
 unfold qW at af;split at af
 ·split at af
  ·rename_i hx;subst hx;simp only[aw]at J I;subst J;subst I;cases aG with
   |i hu=>refine⟨fun d aG=>by rw[hu]at aG;cases aG;simpa[Instr.sameNow]using af,fun e=>?_⟩;subst e;simp only[dp,da]at af;subst af;exact⟨rfl,by simp[Instr.sameBits]⟩
  ·cases af
 ·rename_i a b;simp only[aw]at J I;obtain⟨rfl,_⟩:=J;obtain⟨rfl,_⟩:=I;cases aG with
  |s hu=>
   refine⟨fun d aG=>?_,fun e=>?_⟩
   ·rw[hu]at aG;cases aG;simp only[Instr.sameNow];rw[<-af];congr 1;rw[Bool.eq_iff_iff,MapKept.bytes_beq];simp
   ·subst e;simp only[dp,da]at af;subst af;exact⟨rfl,by simp only[Instr.sameBits];exact(MapKept.bytes_beq _ _).2 rfl⟩
 ·simp only[aw]at J I;obtain⟨X,rfl,J⟩:=J;obtain⟨Y,rfl,I⟩:=I;cases aG with
  |a hu aL fE=>obtain⟨i1,i2,i3⟩:=Hf hu aL fE J I af;refine⟨by simpa[pO,Op.equal,Op.maxDepth]using i1,fun e=>?_⟩;have:=i2 e;subst this;exact⟨rfl,by simp[Instr.sameBits,i3]⟩
 ·cases af
theorem DX{P:bm}{w:World}{ν:aC}{bH:ih}{t:eO}(aG:qp P bH t){k:ab}{fN:Value}(J:aw w ν k fN):∀(borns:List Nat) (kvs:List ab) (us:List Value) (i:Nat) (r:aR ab),bT w ν kvs us->kvs.length=2*borns.length->p8 bH k kvs=some r->
  match r with
  |none=>gM P w bH t fN (eG borns us) i none
  |some v=> ∃j u,gM P w bH t fN (eG borns us) i (some (j,u))/\aw w ν v u
 |[],[],us,i,r,h,_,hm=>by simp only[p8]at hm;cases hm;simp only[bT]at h;subst h;simpa[eG]using gM.nil P w bH t fN i
 |[],_::_,_,_,_,_,aB,_=>by simp at aB
 |b::dq,[],_,_,_,_,aB,_=>by simp at aB
 |b::dq,[_],_,_,_,_,aB,_=>by simp at aB;omega
 |b::dq,aW::v::kvs,us,i,r,h,aB,hm=>by
  simp only[bT]at h;obtain⟨hY,Fg,rfl,I,hP,oB,rfl,aa,ak⟩:=h;simp only[p8]at hm;simp only[eG];cases bj:qW bH k aW with
  |none=>simp[bj]at hm
  |some ha=>
   obtain⟨s1,_⟩:=Jp aG J I bj;simp only[bj]at hm;cases ha with
   |true=>simp only[dp]at hm;subst hm;exact⟨i,hP,gM.hit (e:=⟨hY,hP,b⟩) s1,aa⟩
   |false=>
    simp only at hm;have a8:=DX aG J dq kvs oB (i+1) r ak (by simp at aB;omega) hm;cases r with
    |none=>exact gM.miss (e:=⟨hY,hP,b⟩) s1 a8
    |some v'=>obtain⟨j,u,g1,g2⟩:=a8;exact⟨j,u,gM.miss (e:=⟨hY,hP,b⟩) s1 g1,g2⟩
theorem BP{P:bm}{w:World}{t:Nat}{d:TypeDesc}(hu:P.underlying t=some d)(aG:(∃k,d= .int k)\/d= .string)(e:Bool)(n:Nat)(v:Value):(Instr.checkKey e (n+1) t v).run P w= .ok () w:=by unfold Instr.checkKey;rcases aG with⟨k,rfl⟩|rfl<;>simp[run_underlying hu]
theorem Pg{P:bm}{w:World}{ν:aC}{X:Array Value}(cR:List Bool):∀(gs:List Field) (n:Nat) (as:List ab),nL P n cR gs->bV w ν as (X.toList.drop n)->(iS cR as as).isSome=true->
  ∀f∈gs,(∃v,(part f.type X f.offset).run P w= .ok v w)/\∃d,P.underlying f.type=some d/\((∃k,d= .int k)\/d= .string):=by
 induction cR with
 |nil=>intro gs n as aL _ _ f aH;cases gs<;>simp only[nL]at aL;cases aH
 |cons tv r a8=>
  intro gs n as aL hr aA f aH;cases gs with
  |nil=>cases aH
  |cons g gs=>
  simp only[nL]at aL;obtain⟨⟨zL,fL,j4⟩,aL⟩:=aL;cases as with
  |nil=>cases tv<;>simp[iS]at aA
  |cons p as=>
  have lS:(iS r as as).isSome=true:=by cases tv<;>cases p<;>simp[iS]at aA⊢ <;>exact aA
  simp only[bV]at hr;obtain⟨u,a1,e,_,bJ⟩:=hr;have aE:X.toList.drop (n+1)=a1:=by rw[<-List.tail_drop,e];rfl
  have x6:X[n]? =some u:=by rw[<-Array.getElem?_toList,<-List.head?_drop,e];rfl
  rcases gZ.1 aH with rfl|aH
  ·refine⟨⟨u,by rw[zL];exact run_part_plain w (x8 j4) x6⟩,?_⟩;cases tv
   ·obtain⟨k,h⟩:=(by simpa using j4:∃k,P.underlying f.type=some (.int k));exact⟨_,h,.inl ⟨k,rfl⟩⟩
   ·exact⟨_,by simpa using j4,.inr rfl⟩
  ·exact a8 gs (n+1) as aL (by rw[aE];exact bJ) lS f aH
theorem Hz{P:bm}{w:World}{α:Type}(body:α->PUnit->Sem (ForInStep PUnit)):∀(l:List α),(∀f∈l,(body f ⟨⟩).run P w= .ok (.yield ⟨⟩) w)->(forIn l PUnit.unit body).run P w= .ok PUnit.unit w
 |[],_=>by simp
 |f::l,h=>by simp only[List.forIn_cons,dW,h f Ψ,ea];exact Hz body l fun g aL=>h g (by simp[aL])
theorem EH{P:bm}{w:World}{ν:aC}{bH:ih}{t:Nat}(aG:qp P bH t)(e:Bool){k:ab}{v:Value}(J:aw w ν k v)(aD:tU bH k=true):(Instr.checkKey e 10000 t v).run P w= .ok () w:=by
 cases aG with
 |i hu=>exact BP hu (.inl ⟨_,rfl⟩) e 9999 v
 |s hu=>exact BP hu (.inr rfl) e 9999 v
 |a hu aL fE=>
  rename_i cR gs;cases k<;>simp only[tU,ib]at aD;rename_i as;simp only[aw]at J;obtain⟨X,rfl,J⟩:=J;unfold Instr.checkKey;simp only[dW,run_underlying hu,ea];rw[<-Array.forIn_toList];rw[Hz]
  ·simp
  ·intro f aH;obtain⟨⟨v,I⟩,d,aa,ak⟩:=Pg cR gs.toList 0 as aL (by simpa using J) aD f aH;have aJ:=BP (w:=w) aa ak e 9998 v;by_cases aU:f.name= "_"
   ·simp[aU]
   ·simp[aU,I,aJ]
theorem JJ{w:World}{ν:aC}{n:Nat}:∀(borns:List Nat) (kvs:List ab) (us:List Value) (p:ab),bT w ν kvs us->pk n borns kvs=some p->∃e,(eG borns us).find? (·.born==n)=some e/\aw w ν p (.tuple #[e.key,e.val])
 |[],_,_,_,_,hm=>by simp[pk]at hm
 |_::_,[],_,_,_,hm=>by simp[pk]at hm
 |_::_,[_],_,_,_,hm=>by simp[pk]at hm
 |b::dq,k::v::kvs,us,p,h,hm=>by
  simp only[bT]at h;obtain⟨hY,Fg,rfl,I,hP,oB,rfl,aa,ak⟩:=h;simp only[pk]at hm;simp only[eG];by_cases e:b=n
  ·rw[if_pos e]at hm;cases hm;refine⟨⟨hY,hP,b⟩,by simp[List.find?,e],?_⟩;simp only[aw];exact⟨#[hY,hP],rfl,by simp only[bT];exact⟨_,_,rfl,I,_,_,rfl,aa,rfl⟩⟩
  ·rw[bh e]at hm;obtain⟨x,g1,g2⟩:=JJ dq kvs oB p ak hm;have PX:(b==n)=false:=by simpa using e
   exact⟨x,by simp[List.find?,PX,g1],g2⟩
theorem LG{P:bm}{aQ:List (Nat×cm)}(au:dE P aQ=true){C:db}{st:aM}{a:Act}{w:World}{ν:aC}(hr:bK C st a w ν){i:eW}(PW:∀bH z ok x k,i≠ .mgetB bH z ok x k){o:Oper}(ag:yE aQ i o.op=true)
  {c:Prop} {p:ab} (he:fs st i=some (c,p)) (aA:c):∃v,(execOp a.eval o).run P w= .ok (.value v) w/\aw w ν p v:=by
 obtain⟨dst,op,type,pos,after,guard⟩:=o;simp only at ag;unfold yE at ag;split at ag
 ·rename_i x o;simp only[fs]at he;cases he;exact⟨_,rfl,c1 hr ag⟩
 ·rename_i x o;simp only[fs]at he;cases he;exact⟨_,rfl,c1 hr ag⟩
 ·rename_i fX x y VL wB y';simp only[bD]at ag;have I:=c1 hr ag.1.1;have aa:=c1 hr ag.1.2;have ak:=c1 hr ag.2;simp only[fs,AI]at he;split at he
  ·rename_i b af;rw[af]at I;simp only[aw]at I;split at he
   ·rename_i u v hu aY;cases he;rw[hu]at aa;rw[aY]at ak;simp only[aw]at aa ak;refine⟨.bool (cond b u v),?_,by simp[aw]⟩;simp only[execOp,I,aa,ak,asBool,dW,eN,ea];cases b<;>rfl
   ·split at he
    ·cases he;exact⟨_,by simp only[execOp,I,asBool,dW,eN,ea,if_true],aa⟩
    ·cases he;exact⟨_,by simp only[execOp,I,asBool,dW,eN,ea,ib,if_false],ak⟩
  ·cases he
 ·rename_i agg sz x t o;simp only[bD]at ag;obtain⟨I,aa⟩:=ag;split at I
  ·rename_i f aH;simp only[bD,da]at I;obtain⟨rfl,rfl⟩:=I;obtain⟨v,g1,g2⟩:=Af au hr.good aH (c1 hr aa) (by simpa only[fs]using he) aA;exact⟨v,iv g1,g2⟩
  ·cases I
 ·rename_i off agg sz x s o i;simp only[bD]at ag;obtain⟨I,aa⟩:=ag;split at I
  ·rename_i f aH;split at I
   ·rename_i sH t xl;simp only[bD,da]at I;obtain⟨rfl,I⟩:=I;split at I
    ·rename_i g aL;simp only[bD,da,bne_iff_ne,ne_eq]at I;obtain⟨⟨rfl,rfl⟩,bR⟩:=I;obtain⟨v,g1,g2⟩:=O8 au aH rfl xl aL bR (c1 hr aa) (by simpa only[fs]using he) aA;exact⟨v,iv g1,g2⟩
    ·cases I
   ·cases I
  ·cases I
 ·rename_i off agg sz x s o i;simp only[bD]at ag;obtain⟨I,aa⟩:=ag;split at I
  ·rename_i f aH;split at I
   ·rename_i sH t xl;simp only[bD,da]at I;obtain⟨rfl,I⟩:=I;split at I
    ·rename_i g aL;simp only[bD,da]at I;obtain⟨rfl,rfl⟩:=I;obtain⟨v,g1,g2⟩:=Ph au aH rfl xl aL (c1 hr aa) (by simpa only[fs]using he) aA;exact⟨v,iv g1,g2⟩
    ·cases I
   ·cases I
  ·cases I
 ·rename_i sz x i t o j;simp only[bD]at ag;obtain⟨⟨I,aa⟩,ak⟩:=ag;split at I
  ·rename_i e aH;split at I
   ·rename_i g aL;simp only[da]at I;subst I;obtain⟨v,g1,g2⟩:=Rp au aH rfl aL (c1 hr aa) (c1 hr ak) (by simpa only[fs]using he) aA;exact⟨v,iv g1,g2⟩
   ·cases I
  ·cases I
 ·rename_i x i t o j;simp only[bD]at ag;obtain⟨⟨I,aa⟩,ak⟩:=ag;split at I
  ·rename_i aH;obtain⟨d,aG,ei⟩:=gn au aH;obtain rfl:=rQ ei;have ai:=c1 hr aa;have aE:=c1 hr ak;simp only[fs,Be]at he;split at he
   ·rename_i s k n ao aU;cases he;rw[ao]at ai;rw[aU]at aE;simp only[aw]at ai aE;obtain⟨qG,lT⟩:=aA;have b4:n.toNat<s.length:=Ω
    have Qq:(⟨s.toArray⟩:ic)[n.toNat]? =some (s.getD n.toNat 0):=by exact Pw s n.toNat b4
    refine⟨_,iv (v:= .int .u8 (s.getD n.toNat 0).toNat) ?_,by simp[aw]⟩;simp only[Instr.index,aE,asIntOf,ai.1,dW,eN,ea,run_underlying aG,qG,if_true,Qq]
   ·cases he
  ·cases I
 ·rename_i x lo aD t o l h;simp only[bD]at ag;obtain⟨⟨⟨I,aa⟩,ak⟩,aJ⟩:=ag;split at I
  ·rename_i aH;obtain⟨d,aG,ei⟩:=gn au aH;obtain rfl:=rQ ei;have ai:=c1 hr aa;simp only[fs,Bg]at he;split at he
   ·rename_i s ao;rw[ao]at ai;simp only[aw]at ai;split at he
    ·rename_i np bn aB CP;cases he;obtain⟨cJ,c2,c3⟩:=aA;have ct:=AD hr ak aB;have cN:=AD hr aJ CP;refine⟨_,iv (v:= .string ⟨((s.take bn.toNat).drop np.toNat).toArray⟩) ?_,?_⟩
     ·have af:=F4 P w false s.length s.length (l.map a.eval) (h.map a.eval) np bn
       ct cN cJ c2 c3 (cx _)
      simp only[Instr.sliceAt,Instr.slice,ai.1,dW,eN,ea,run_underlying aG,Option.map_none,qo,ib,if_false,yt,af,OE]
     ·simp only[aw];refine⟨trivial,?_⟩;have:=ai.2;simp only[lb,List.length_take];omega
    ·cases he
   ·cases he
  ·cases I
 ·rename_i sz x lo aD t o l h;simp only[bD]at ag;obtain⟨⟨⟨I,aa⟩,ak⟩,aJ⟩:=ag;split at I
  ·rename_i e aH;split at I
   ·rename_i g aL;simp only[da]at I;subst I;obtain⟨d,aG,ei⟩:=gn au aH;obtain rfl:=nY ei;obtain⟨_,cE⟩:=rn au aL w;have ai:=c1 hr aa;simp only[fs,Ah]at he;split at he
    ·rename_i cB tag xs ao;split at he
     ·rename_i dT;subst dT;rw[ao]at ai;simp only[aw]at ai;obtain⟨⟨jV,cap,aY,bO,bU,fj⟩,_⟩:=ai;split at he
      ·rename_i np bn aB CP;cases he;obtain⟨cJ,c2,c3⟩:=aA;have ct:=AD hr ak aB;have cN:=AD hr aJ CP;have af:=F4 P w true xs.length cap (l.map a.eval) (h.map a.eval) np bn
        ct cN cJ c2 c3 bO
       refine⟨_,iv (v:= .slice (if cap=np.toNat then jV else jV.map (·.add (np.toNat*g.size))) (bn.toNat-np.toNat) (cap-np.toNat)) ?_,?_⟩
       ·simp only[Instr.sliceAt,Instr.slice,aY,dW,eN,ea,run_underlying aG,Option.map_none,af,cE]
       ·simp only[aw];have hlen:((xs.take bn.toNat).drop np.toNat).length=bn.toNat-np.toNat:=by simp;omega
        refine⟨⟨_,_,by rw[hlen],by rw[hlen];omega,⟨Ω,by rw[hlen];omega⟩,?_⟩,(fun h=>by cases h),(fun g h=>by cases h),(fun _ _ h=>by cases h),(fun _ h=>by cases h)⟩;rcases fj with rfl|⟨b,off,us,rfl,g1,g2⟩
        ·left;simp
        ·by_cases p1:cap=np.toNat
         ·left;apply pK;rw[hlen];omega
         ·right;rw[bh p1];refine⟨b,off+np.toNat*g.size,(us.take (bn.toNat*g.size)).drop (np.toNat*g.size),by simp[lK],Ab _ (Ac _ g1),KJ _ (KM _ g2)⟩
      ·cases he
     ·cases he
    ·cases he
   ·cases I
  ·cases I
 ·rename_i op wr x y Kd ty o o' Ly;simp only[bD,fQ]at ag;obtain⟨⟨rfl,I⟩,aa⟩:=ag;obtain⟨r,g1,g2⟩:=Ms P w ν (by simpa only[fs]using he) aA ty (c1 hr I) (c1 hr aa) o o';exact⟨r,iv g1,g2⟩
 ·rename_i x op ty o;simp only[bD,fQ]at ag;obtain⟨rfl,I⟩:=ag;have ai:=c1 hr I;simp only[fs]at he;unfold Aw at he;split at he
  ·rename_i b af;cases he;rw[af]at ai;simp only[aw]at ai;exact⟨_,iv (v:= .bool (!b)) (by simp[Op.unary,ai]),by simp[aw]⟩
  ·cases he
 ·rename_i x op ty o;simp only[bD,fQ]at ag;obtain⟨rfl,I⟩:=ag;have ai:=c1 hr I;simp only[fs]at he;unfold Ar at he;split at he
  ·rename_i k n af;cases he;rw[af]at ai;simp only[aw]at ai;exact⟨_,iv (v:= .int k (k.wrap (0-n))) (by simp[Op.unary,ai,Op.intArith]),by simp[aw]⟩
  ·cases he
 ·rename_i k x s d o;simp only[bD]at ag;obtain⟨I,aa⟩:=ag;split at I
  ·rename_i ct cN o2 kr;simp only[fQ]at I;subst I;obtain⟨d1,sb,CG⟩:=gn au o2;obtain rfl:=wX CG;obtain⟨d2,vc,CH⟩:=gn au kr;obtain rfl:=wX CH;have ai:=c1 hr aa;simp only[fs]at he;unfold yY at he;split at he
   ·rename_i aW n af;cases he;rw[af]at ai;simp only[aw]at ai;exact⟨_,iv (v:= .int k (k.wrap n)) (by simp[convert,ai,run_underlying sb,run_underlying vc,Conv.intToInt]),by simp[aw]⟩
   ·cases he
  ·cases I
 ·rename_i i x o j;simp only[bD,da]at ag;obtain⟨rfl,I⟩:=ag;have ai:=c1 hr I;simp only[fs]at he;unfold zd at he;split at he
  ·rename_i vs af;simp only[me]at he;obtain⟨q,bj,he⟩:=he;cases he;rw[af]at ai;simp only[aw]at ai;obtain⟨us,hu,aa⟩:=ai;obtain⟨v,g1,g2⟩:=v8 i aa bj;have Pp:us[i]? =some v:=by simpa using g1
   exact⟨v,iv (by simp[Instr.extract,hu,Pp]),g2⟩
  ·cases he
 ·rename_i x o t;simp only[bD]at ag;obtain⟨I,aa⟩:=ag;have ai:=c1 hr aa;simp only[fs]at he;unfold vy at he;split at he
  ·rename_i sz tag xs af;cases he;rw[af]at ai;simp only[aw]at ai;obtain⟨⟨jV,cap,aY,_⟩,_⟩:=ai;refine⟨.int .i64 xs.length,?_,by simp[aw]⟩;split at I
   ·rename_i aH;obtain⟨d,aG,ei⟩:=gn au aH;obtain rfl:=nY ei;simp[execOp,resolve,invoke,builtin,Builtin.len_,run_underlying aG,aY,goInt]
   ·cases I
  ·rename_i sz k n af;cases he;rw[af]at ai;simp only[aw]at ai;obtain⟨⟨jV,cap,aY⟩,_⟩:=ai;refine⟨.int .i64 n,?_,by simp[aw]⟩;split at I
   ·rename_i aH;obtain⟨d,aG,ei⟩:=gn au aH;obtain rfl:=nY ei;simp[execOp,resolve,invoke,builtin,Builtin.len_,run_underlying aG,aY,goInt]
   ·cases I
  ·rename_i jV n cap af;cases he;rw[af]at ai;simp only[aw]at ai;refine⟨.int .i64 n,?_,by simp[aw]⟩;split at I
   ·rename_i aH;obtain⟨d,aG,ei⟩:=gn au aH;obtain rfl:=nY ei;simp[execOp,resolve,invoke,builtin,Builtin.len_,run_underlying aG,ai,goInt]
   ·cases I
  ·cases he
 ·rename_i x o t;simp only[bD]at ag;obtain⟨I,aa⟩:=ag;have ai:=c1 hr aa;simp only[fs]at he;unfold yu at he;split at he
  ·rename_i s af;cases he;rw[af]at ai;simp only[aw]at ai;refine⟨.int .i64 s.length,?_,by simp[aw]⟩;split at I
   ·rename_i aH;obtain⟨d,aG,ei⟩:=gn au aH;obtain rfl:=rQ ei;simp[execOp,resolve,invoke,builtin,Builtin.len_,run_underlying aG,ai.1,goInt,yt]
   ·cases I
  ·rename_i s af;cases he;rw[af]at ai;simp only[aw]at ai;refine⟨.int .i64 s.size,?_,by simp[aw]⟩;split at I
   ·rename_i aH;obtain⟨d,aG,ei⟩:=gn au aH;obtain rfl:=rQ ei;simp[execOp,resolve,invoke,builtin,Builtin.len_,run_underlying aG,ai,goInt]
   ·cases I
  ·cases he
 ·rename_i zero parts t aX;split at ag
  ·rename_i cR z aH;simp only[bD]at ag;obtain⟨⟨I,aa⟩,ak⟩:=ag;obtain⟨fk,eZ,Ro⟩:=UZ I;obtain⟨i,d,UX,ai,aE,bb,b9,ft,dz,n2,lO⟩:=(ql au aH).ex;obtain⟨gs,rfl,gb⟩:=BV ft;simp only at eZ n2 lO;subst eZ;have mr:(gs.toList.all fun f=>(cV aQ f.type).isSome)=true:=by rw[<-gb]at aa;simpa[List.all_map,Function.comp_def]using aa
   obtain⟨places,gP,gH⟩:=Ki au gs.toList mr;rw[gb]at gH;cases UX<;>simp only[ux]at n2;case agg us=>
    simp only[fs]at he;cases af:qx st.t zero parts with
    |none=>simp[af]at he
    |some x=>obtain⟨fX,cs'⟩:=x;simp only[af,mP]at he;cases he;obtain⟨a1,g1,g2⟩:=KY hr gH parts aX.toList zero us c cs' ak (LZ Ro (Fz w ν _ _ n2)) af aA;refine⟨.agg a1,iv (run_build w t _ a1 ?_),by simp only[aw];exact⟨a1,rfl,g2⟩⟩;simp only[Program.built,ai,aE,dz,gP,mO];simpa using g1
   all_goals cases n2
  ·cases ag
 ·rename_i x o;have ai:=c1 hr ag;simp only[fs]at he;unfold vG at he;split at he
  ·rename_i k off af;cases he;rw[af]at ai;have aE:=ai;simp only[aw]at ai;obtain⟨b,_,aY⟩:=ai;exact⟨a.eval o,by simp[execOp,aY],aE⟩
  ·rename_i q af;cases he;rw[af]at ai;have aE:=ai;simp only[aw]at ai;obtain⟨b,off,u,aY,_⟩:=ai;exact⟨a.eval o,by simp[execOp,aY],aE⟩
  ·rename_i f cs af;cases he;rw[af]at ai;have aE:=ai;simp only[aw]at ai;obtain⟨us,aY,_⟩:=ai;have zT:a.eval o= .func (.func f) #[] us\/a.eval o= .func (.func (ru f)) us #[]:=by rw[aY];unfold pW;split;exact .inl rfl;exact .inr rfl
   exact⟨a.eval o,by rcases zT with zT|zT<;>simp[execOp,zT],aE⟩
  ·cases he
 ·rename_i x y o o' t t';simp only[bD]at ag;have ai:=c1 hr ag.1;have aE:=c1 hr ag.2;simp only[fs]at he;unfold Al at he;split at he
  ·rename_i k m aW n hm aU;split at he
   ·rename_i J;subst J;cases he;rw[hm]at ai;rw[aU]at aE;simp only[aw]at ai aE;exact⟨.int k (if n<m then n else m),by simp[execOp,resolve,invoke,builtin,Builtin.min_,Builtin.min2,ai,aE],by simp[aw]⟩
   ·cases he
  ·cases he
 ·rename_i n xs m os;simp only[bD,fQ]at ag;obtain⟨⟨rfl,aU⟩,ag⟩:=ag;simp only[fs]at he;cases he;have ht:=uh hr ag;refine⟨.func (.func n) #[] (os.map a.eval),by simp[execOp,Instr.makeFunc],?_⟩;simp only[aw];exact⟨os.map a.eval,by simp[pW,aU],by simpa using ht⟩
 ·rename_i n xs m dq _;simp only[bD,fQ]at ag;obtain⟨rfl,ag⟩:=ag;simp only[fs]at he;cases he;have ht:=uh hr ag;refine⟨.func (.func m) (dq.map a.eval) #[],by simp[execOp,Instr.makeFunc],?_⟩;simp only[aw];exact⟨dq.map a.eval,(Pj m _).symm,by simpa using ht⟩
 ·rename_i bH zero ok x k t o o' Ax;simp only[bD,da]at ag;obtain⟨⟨⟨rfl,I⟩,aa⟩,ak⟩:=ag;have ai:=c1 hr aa;have aE:=c1 hr ak;split at I
  ·rename_i sz jg ez mm z aH;simp only[bD]at I;obtain⟨Qy,CK⟩:=I;split at CK
   ·rename_i Wu tF;have eZ:=FB CK;obtain⟨e7,hu,ei⟩:=gn au aH;have fD:e7= .map ez mm:=by cases e7<;>simp[jH]at ei;obtain⟨rfl,rfl⟩:=ei;rfl
    subst fD;obtain⟨a7,Fw,z2,_⟩:=E4 au tF w;rw[<-eZ]at z2;have al:=(FA w ν z2).1;have j0:=DE au Qy;simp only[fs]at he;unfold nr at he;split at he
    ·rename_i key ad;rw[ad]at ai;simp only[aw]at ai;obtain⟨bl,bO,bU⟩:=ai;split at he
     ·rename_i clock borns kvs fT;obtain⟨fB,us,el,g1,g2,g3,g4,g5⟩:=hr.good.box key _ fT;rw[bO]at g1;cases g1;simp only[hl]at g4;simp only[gI]at g5;have kU:(getObj bl).run P w= .ok (.map (eG borns us.toList).toArray clock) w:=ri g4;split at he
      ·cases he
      rename_i fK;have r8:=EH (P:=P) (w:=w) j0 ((eG borns us.toList).toArray.isEmpty) aE (by simpa using fK);split at he
      ·rename_i v hm;cases he;obtain⟨j,u,f1,f2⟩:=DX j0 aE borns kvs us.toList 0 _ g5.1 g5.2.len hm;refine⟨if ok then .tuple #[u,.bool true]else u,?_,?_⟩
       ·simp only[execOp];refine iv ?_;simp only[Instr.lookup,dW,run_underlying hu,ea,bU,kU,eN,r8,f1.run j0]
       ·cases ok
        ·simpa using f2
        ·simp only[if_true,aw];exact⟨_,rfl,by simp only[bT];exact⟨_,_,rfl,f2,_,_,rfl,by simp[aw],rfl⟩⟩
      ·rename_i hm;cases he;have f1:=DX j0 aE borns kvs us.toList 0 _ g5.1 g5.2.len hm;simp only at f1;refine⟨if ok then .tuple #[a7,.bool false]else a7,?_,?_⟩
       ·simp only[execOp];refine iv ?_;simp only[Instr.lookup,dW,run_underlying hu,ea,bU,kU,eN,r8,f1.run j0,Fw]
       ·cases ok
        ·simpa using al
        ·simp only[if_true,aw];exact⟨_,rfl,by simp only[bT];exact⟨_,_,rfl,al,_,_,rfl,by simp[aw],rfl⟩⟩
      ·cases he
     ·cases he
    ·cases he
   ·cases CK
  ·cases I
 ·rename_i x o;have ai:=c1 hr ag;simp only[fs]at he;unfold vC at he;split at he
  ·rename_i jq ad;rw[ad]at ai;simp only[aw]at ai;obtain⟨bl,bO,bU⟩:=ai;split at he
   ·rename_i since seen last mk fT;obtain⟨fB,us,el,g1,g2,g3,g4,g5⟩:=hr.good.box jq _ fT;rw[bO]at g1;cases g1;simp only[hl]at g4;simp only[gI,bT,aw]at g5;obtain⟨u,a1,oa,⟨nq,m1,rfl⟩,rfl⟩:=g5;rw[oa]at g4;simp only at g4;split at he
    ·rename_i clock borns kvs QH;obtain⟨Mt,oB,Nt,ct,cN,gF,jt,oe⟩:=hr.good.box mk _ QH;rw[m1]at ct;cases ct;simp only[hl]at jt;simp only[gI]at oe;split at he
     ·rename_i n aU;simp only[me]at he;obtain⟨q,bj,he⟩:=he;cases he;obtain⟨e,f1,f2⟩:=JJ borns kvs oB.toList p oe.1 bj;refine⟨.tuple #[e.key,e.val],?_,f2⟩;simp only[execOp];refine iv ?_;have Ql:(getObj bl).run P w= .ok (.mapIter (some nq) since seen.toArray last) w:=ri g4;have Qm:(getObj nq).run P w= .ok (.map (eG borns oB.toList).toArray clock) w:=ri jt;have p0:seen.toArray.back? =some n:=by simpa using aU
      have r9:(clock !=last)=false:=by simp[aA]
      have Qg:(eG borns oB.toList).toArray.find? (·.born==n)=some e:=by simpa using f1
      simp only[Instr.entry,bU,dW,Ql,ea,p0,Qm,r9,ib,if_false,Qg,eN]
     ·cases he
    ·cases he
   ·cases he
  ·cases he
 ·rename_i x o t;simp only[bD]at ag;obtain⟨I,aa⟩:=ag;have ai:=c1 hr aa;simp only[fs]at he;unfold vE at he;split at he
  ·rename_i key af;rw[af]at ai;simp only[aw]at ai;obtain⟨bl,bO,bU⟩:=ai;split at he
   ·rename_i clock borns kvs fT;cases he;obtain⟨fB,us,el,g1,g2,g3,g4,g5⟩:=hr.good.box key _ fT;rw[bO]at g1;cases g1;simp only[hl]at g4;simp only[gI]at g5;have kU:(getObj bl).run P w= .ok (.map (eG borns us.toList).toArray clock) w:=ri g4;have hlen:(eG borns us.toList).length=borns.length:=Hd g5.2.len (KR g5.1);refine⟨.int .i64 borns.length,?_,by simp[aw]⟩;split at I
    ·rename_i aH;obtain⟨d,aG,ei⟩:=gn au aH;obtain⟨ez,mm,rfl⟩:∃ez mm,d= .map ez mm:=by cases d<;>simp[jH]at ei;exact⟨_,_,rfl⟩
     simp[execOp,resolve,invoke,builtin,Builtin.len_,run_underlying aG,bU,goInt,kU,hlen]
    ·cases I
   ·cases he
  ·cases he
 ·rename_i neg cR x y op t o o' Ly;simp only[bD,fQ]at ag;obtain⟨⟨⟨rfl,bR⟩,I⟩,aa⟩:=ag;have ai:=c1 hr I;have aE:=c1 hr aa;simp only[fs]at he;unfold yP at he;split at he
  ·rename_i bG fa b1 af;simp only at bR;cases he;rw[b1]at ai;rw[af]at aE;simp only[aw]at ai aE;split at bR
   ·rename_i aH;obtain⟨d,aG,ei⟩:=gn au aH;obtain rfl:d= .bool:=by cases d<;>simp[jH]at ei;rfl
    refine⟨.bool (if neg then bG !=fa else bG==fa),iv ?_,by simp[aw]⟩;cases neg<;>simp[ai,aE,eqGuard,binOp,NB aG,bne]
   ·cases bR
  ·rename_i WC as dq b1 af;simp only at bR;simp only[me]at he;obtain⟨q,bj,he⟩:=he;cases he;rw[b1]at ai;rw[af]at aE;simp only[aw]at ai aE;obtain⟨X,No,S4⟩:=ai;obtain⟨Y,Np,S5⟩:=aE;obtain⟨gs,hu,aL,fE,hj⟩:=Hv au bR;obtain⟨i1,_,_⟩:=Hf hu aL fE S4 S5 bj;refine⟨.bool (if neg then !q else q),iv ?_,by simp[aw]⟩;rw[No,Np];cases neg
   ·simp only[ib,if_false,dW,run_eqGuard_agg w _ t o o' X Y hj,ea,run_eql_struct,i1]
   ·simp only[if_true,dW,run_eqGuard_agg w _ t o o' X Y hj,ea,run_neq_struct,i1]
  ·cases he
 ·rename_i x y o o' t t';simp only[bD]at ag;have ai:=c1 hr ag.1;have aE:=c1 hr ag.2;simp only[fs]at he;unfold Aj at he;split at he
  ·rename_i k m aW n hm aU;split at he
   ·rename_i J;subst J;cases he;rw[hm]at ai;rw[aU]at aE;simp only[aw]at ai aE;exact⟨.int k (if m<n then n else m),by simp[execOp,resolve,invoke,builtin,Builtin.max_,Builtin.max2,ai,aE],by simp[aw]⟩
   ·cases he
  ·cases he
 ·rename_i t x t' o;simp only[bD,da]at ag;obtain⟨⟨rfl,I⟩,aa⟩:=ag;have ai:=c1 hr aa;simp only[fs]at he;cases he;split at I
  ·rename_i aH;obtain⟨d,aG,ei⟩:=gn au aH;obtain rfl:=nY ei;refine⟨.iface t (a.eval o),iv (by simp[Instr.makeInterface,run_underlying aG]),?_⟩;simp only[aw];exact⟨_,rfl,ai⟩
  ·cases I
 ·rename_i agg sz x t o;simp only[bD]at ag;obtain⟨I,aa⟩:=ag;split at I
  ·rename_i f aH;simp only[bD,da]at I;obtain⟨rfl,rfl⟩:=I;obtain⟨v,g1,g2⟩:=Af au hr.good aH (c1 hr aa) (RS (by simpa only[fs]using he)) aA;exact⟨v,iv g1,g2⟩
  ·cases I
 ·rename_i x s d o;simp only[bD]at ag;obtain⟨I,aa⟩:=ag;split at I
  ·rename_i e _ _ o2 kr;split at I
   ·rename_i Qf;obtain⟨d1,sb,CG⟩:=gn au o2;obtain rfl:=nY CG;obtain⟨d2,vc,CH⟩:=gn au kr;obtain rfl:=rQ CH;obtain⟨d3,P6,Qb⟩:=gn au Qf;obtain rfl:=wX Qb;have ai:=c1 hr aa;simp only[fs]at he;unfold yM at he;split at he
    ·rename_i sz tag xs af;simp only[me]at he;obtain⟨dq,qE,he⟩:=he;cases he;rw[af]at ai;simp only[aw]at ai;obtain⟨⟨jV,cap,bL,ck,dd,du⟩,_⟩:=ai;have aB:=F7 qE;have ad:∃ns:List Int,ns.length=xs.length/\dq=ns.map uF/\(xs.length=0\/ ∃b off,jV=some ⟨b,off,none⟩/\h7 w ν.A b off (ns.map (Value.int .u8))):=by
      rcases du with rfl|⟨b,off,us,gP,gH,om⟩
      ·simp only[nU,dp]at qE;exact⟨[],rfl,by rw[<-qE];rfl,.inl rfl⟩
      ·obtain⟨ns,eF,fy,kD⟩:=F8 qE om;subst eF;exact⟨ns,by simpa using kD,fy,.inr ⟨b,off,gP,gH⟩⟩
     obtain⟨ns,e9,rfl,hE⟩:=ad;refine⟨_,iv (v:= .string ⟨(ns.map uF).toArray⟩) ?_,by simp only[aw];exact⟨trivial,by rw[aB];exact dd.2⟩⟩;rw[bL];simp only[convert,dW,run_underlying sb,run_underlying vc,ea];simp only[run_underlying P6,dW,ea,Mq e9 hE]
    ·cases he
   ·cases I
  ·cases I
 ·rename_i neg x op t o Ly;simp only[bD,fQ]at ag;obtain⟨⟨rfl,bR⟩,I⟩:=ag;have ai:=c1 hr I;split at bR
  ·rename_i aH;obtain⟨d,aG,ei⟩:=gn au aH;obtain⟨ms,rfl⟩:∃ms,d= .interface ms:=by cases d<;>simp[jH]at ei;exact⟨_,rfl⟩
   simp only[fs]at he;unfold zY at he;split at he
   ·rename_i YH q bj;cases he;rw[bj]at ai;simp only[aw]at ai;obtain⟨u,ai,_⟩:=ai;refine⟨.bool neg,iv ?_,by simp[aw]⟩;rw[show a.eval (.const .nilIface)= .nilIface from rfl,ai];cases neg<;>simp[eqGuard,binOp,(y9 (w:=w) aG).1,(y9 (w:=w) aG).2]
   ·rename_i bj;cases he;rw[bj]at ai;simp only[aw]at ai;refine⟨.bool (!neg),iv ?_,by simp[aw]⟩;rw[show a.eval (.const .nilIface)= .nilIface from rfl,ai];cases neg<;>simp[eqGuard,binOp,(y9 (w:=w) aG).1,(y9 (w:=w) aG).2]
   ·cases he
  ·cases bR
 ·rename_i agg sz x t o;simp only[bD]at ag;obtain⟨I,aa⟩:=ag;split at I
  ·rename_i f aH;simp only[bD,da]at I;obtain⟨rfl,rfl⟩:=I;obtain⟨v,g1,g2⟩:=Af au hr.good aH (c1 hr aa) (Pn (by simpa only[fs]using he)) aA;exact⟨v,iv g1,g2⟩
  ·cases I
 ·exact absurd rfl (PW _ _ _ _ _)
 ·cases ag
theorem Uj{P:bm}{aQ:List (Nat×cm)}(au:dE P aQ=true){C:db}{st:aM}{a:Act}{w:World}{ν:aC}(hr:bK C st a w ν){i:eW}{o:Oper}(ag:yE aQ i o.op=true)
  {c:Prop} {p:ab} (he:fs st i=some (c,p)) (aA:c):∃v,(execOp a.eval o).run P w= .ok (.value v) w/\aw w ν p v:=by
 by_cases af:∃bH z ok x k,i= .mgetB bH z ok x k
 ·obtain⟨bH,z,ok,x,k,rfl⟩:=af;refine LG au hr (i:= .mget bH z ok x k) (fun _ _ _ _ _ e=>by cases e) ?_ he aA;obtain⟨dst,op,type,pos,after,guard⟩:=o;cases op<;>first|exact ag|simp[yE]at ag
 ·exact LG au hr (fun bH z ok x k e=>af ⟨bH,z,ok,x,k,e⟩) ag he aA
theorem GM{w:World}{o:Obj}{b i:Nat}(h:b<w.heap.size):(w.alloc o).cell? ⟨b,i,none⟩=w.cell? ⟨b,i,none⟩:=World.cell?_of_block (Below.heap_alloc w o b h)
def aC.withBox(ν:aC)(k:aq)(bl:Nat):aC:={ν with bx:=fun j=>if j=k then some bl else ν.bx j}
def aC.withOwn(ν:aC)(k:aq)(n:Nat)(v:Value):aC:={ν with ow:=fun j=>if j=k then some (n,v)else ν.ow j}
theorem bK.lookNone{C:db}{st:aM}{a:Act}{w:World}{ν:aC}(h:bK C st a w ν){k:aq}(J:fresh st.n st.o k):look k st.b=none/\look k st.e=none:=by
 obtain⟨I,aa,_⟩:=h.new k J;constructor
 ·cases af:look k st.b with
  |none=>rfl
  |some cs=>obtain⟨bl,us,el,g1,_⟩:=h.good.box _ _ af;rw[I]at g1;cases g1
 ·cases af:look k st.e with
  |none=>rfl
  |some o=>obtain⟨v,us,g1,_⟩:=h.good.own _ _ af;rw[aa]at g1;cases g1
theorem Good.ownLt{pr:Nat->Prop}{w:World}{ν:aC}{b:List (aq×List ab)}{e:List (aq×cp)}(h:Good pr w ν b e){g:aq}{o:cp}(aL:look g e=some o){n:Nat}{v:Value}(aY:ν.ow g=some (n,v)){bl:Nat}(af:v.ownBlock=some bl):bl<w.heap.size:=by obtain⟨v',us,g1,g2,_⟩:=h.own g o aL;rw[aY]at g1;cases g1;exact(g2.lt bl af).2
theorem Good.boxLt{pr:Nat->Prop}{w:World}{ν:aC}{b:List (aq×List ab)}{e:List (aq×cp)}(h:Good pr w ν b e){k:aq}{cs:List ab}(J:look k b=some cs){bl:Nat}(af:ν.bx k=some bl):bl<w.heap.size:=by obtain⟨fB,us,el,g1,_,_,g4,_⟩:=h.box k cs J;rw[af]at g1;cases g1;exact(Array.getElem?_eq_some_iff.1 g4).1
theorem bK.newBox{C:db}{st:aM}{a:Act}{w:World}{ν:aC}(h:bK C st a w ν){er:aq}(Qv:ν.bx er=none/\ν.ow er=none/\∀j b,¬ν.tr er j b){n':Nat}{o':List aq}(gd:∀j,fresh n' o' j->fresh st.n st.o j/\j≠er){cs:List ab}{us:Array Value}(el:Bs er)(aA:gI w ν cs us.toList):
  bK C {st with b:=cu er cs st.b,n:=n',o:=o'} a (w.alloc (hl cs us el.1)) (ν.withBox er w.heap.size)/\
  aw (w.alloc (hl cs us el.1)) (ν.withBox er w.heap.size) (.ptr er 0) (.pointer (some ⟨w.heap.size,0,none⟩)):=by
 obtain⟨xv,n8,QP⟩:=Qv;have ag:kh w ν (w.alloc (hl cs us el.1)) (ν.withBox er w.heap.size):=by
  refine⟨fun b o aN=>⟨aN,GM (h.good.alt b o aN)⟩,fun k b _ J=>?_,fun g n u _ aL=>⟨n,u,aL,.inl ⟨rfl,rfl⟩⟩,fun b o aN=>wg (Below.heap_alloc w _ b (h.good.alt b o aN)),fun _ _ _ _ h=>h⟩;have:k≠er:=fun e=>by subst e;rw[xv]at J;cases J
  simp[aC.withBox,this,J]
 have cE:(w.alloc (hl cs us el.1)).heap.size=w.heap.size+1:=by simp
 have hv:∀k,(look k (cu er cs st.b)).isSome->k=er\/(k≠er/\(look k st.b).isSome/\(ν.withBox er w.heap.size).bx k=ν.bx k):=by
  intro k J;by_cases e:k=er
  ·exact .inl e
  ·rw[hD,bh (Ne.symm e)]at J;exact .inr ⟨e,J,by simp[aC.withBox,e]⟩
 refine⟨h.over ag rfl ⟨fun bl o aN=>by rw[cE];have:=h.good.alt bl o aN;omega,fun k cn J=>?_,fun k aW bl J fS ai aE=>?_,fun g o aL=>?_,h.good.oinj,fun g k n v bl aL J aY af ad=>?_,fun k=>?_,fun bl af k j au=>?_⟩
  ⟨h.fr.os,h.fr.tape,h.fr.output,by rw[cE];have:=h.fr.size;omega,fun k J hm=>?_,fun b o aN=>?_,h.fr.fresh,fun n b af=>?_,h.fr.obn,h.fr.row,h.fr.obr,h.fr.trd,fun k j b af=>⟨(h.fr.trb k j b af).1,by rw[cE];have:=(h.fr.trb k j b af).2;omega⟩,fun k j b af=>?_,fun b o aN=>(ag.sh b o (h.fr.keep b o aN).1).trans (h.fr.sh b o aN),h.fr.nrow⟩ (fun m hm=>?_) (fun m hm=>(gd m hm).1),?_⟩
 ·simp only at J;rw[hD]at J;by_cases e:er=k
  ·rw[if_pos e]at J;cases J;subst e;refine⟨w.heap.size,us,el,by simp[aC.withBox],.inr h.fr.size,fun o aN=>?_,heap_alloc_new w _,ny ag aA⟩;have:=h.good.alt _ o aN;omega
  ·rw[bh e]at J;obtain⟨bl,a1,dL,g1,g2,g3,g4,g5⟩:=h.good.box k cn J;exact⟨bl,a1,dL,ag.bx _ _ trivial g1,g2,g3,by rw[Below.heap_alloc w _ bl (Array.getElem?_eq_some_iff.1 g4).1];exact g4,ny ag g5⟩
 ·rcases hv k J with rfl|⟨e9,eA,hE⟩<;>rcases hv aW fS with rfl|⟨m1,m2,m3⟩
  ·rfl
  ·exfalso;simp only[aC.withBox,if_true,dp]at ai;subst ai;rw[m3]at aE;obtain⟨cn,fJ⟩:=eb.1 m2;have:=h.good.boxLt fJ aE;omega
  ·exfalso;simp only[aC.withBox,if_true,dp]at aE;subst aE;rw[hE]at ai;obtain⟨cn,fJ⟩:=eb.1 eA;have:=h.good.boxLt fJ ai;omega
  ·rw[hE]at ai;rw[m3]at aE;exact h.good.inj k aW bl eA m2 ai aE
 ·obtain⟨v,xs,g1,g2,g3,g4⟩:=h.good.own g o aL;exact⟨v,xs,g1,g2.alloc _,g3,pA ag (fun _ _ _ h=>h) g4⟩
 ·rcases hv k J with rfl|⟨e9,eA,hE⟩
  ·simp only[aC.withBox,if_true,dp]at ad;subst ad;obtain⟨o,fM⟩:=eb.1 aL;have:=h.good.ownLt fM aY af;omega
  ·rw[hE]at ad;exact h.good.obx g k n v bl aL eA aY af ad
 ·by_cases e:k=er
  ·subst e;exact .inr n8
  ·rcases h.good.one k with I|I
   ·exact .inl (by simp[aC.withBox,e,I])
   ·exact .inr I
 ·rcases af with⟨aW,bt,a2⟩|af
  ·rcases hv aW bt with rfl|⟨e9,eA,hE⟩
   ·simp[aC.withBox]at a2;subst a2;exact absurd (h.fr.trb k j _ au).2 (Nat.lt_irrefl _)
   ·exact h.good.otr bl (.inl ⟨aW,eA,by rw[<-hE];exact a2⟩) k j au
  ·exact h.good.otr bl (.inr af) k j au
 ·rw[Below.heap_alloc w _ k (by have:=h.fr.size;omega)];exact h.fr.block k J hm
 ·obtain⟨ct,cN⟩:=h.fr.keep b o aN;exact⟨ct,(GM (h.good.alt b o ct)).trans cN⟩
 ·exact ag.bx _ _ trivial (h.fr.obj n b af)
 ·have b5:k≠er:=fun e=>by subst e;exact QP j b af
  obtain⟨t1,t2⟩:=h.fr.trn k j b af;exact⟨by simp[aC.withBox,b5,t1],t2⟩
 ·obtain⟨f1,f2⟩:=gd m hm;obtain⟨ct,cN⟩:=h.new m f1;refine⟨?_,cN⟩;simp[aC.withBox,f2,ct]
 ·simp[aw,aC.withBox]
theorem bK.setBox{C:db}{st:aM}{a:Act}{w w':World}{ν:aC}(h:bK C st a w ν){k:aq}{cs cs':List ab}(J:look k st.b=some cs){bl:Nat}(af:ν.bx k=some bl){us:Array Value}{el:Bs k}
  (vg:w'.os=w.os) (Df:w'.tape=w.tape) (C0:w'.output=w.output) (kW:∀j,j≠bl->w'.heap[j]? =w.heap[j]?) (cE:w'.heap.size=w.heap.size) (iD:w'.heap[bl]? =some (hl cs' us el.1)) (aA:gI w ν cs' us.toList):
  bK C {st with b:=cu k cs' st.b} a w' ν/\kh w ν w' ν:=by
 obtain⟨fB,dP,Wg,g1,g2,g3,g4,g5⟩:=h.good.box k cs J;rw[af]at g1;cases g1;have ag:kh w ν w' ν:=by
  refine⟨fun b o aN=>⟨aN,World.cell?_of_block (kW b fun e=>?_)⟩,fun _ _ _ h=>h,fun g n u _ aL=>⟨n,u,aL,.inl ⟨rfl,rfl⟩⟩,fun b o aN=>wg (kW b fun e=>?_),fun _ _ _ _ h=>h⟩<;>
  (subst e;exact g3 o aN)
 have se:∀j,(look j (cu k cs' st.b)).isSome->(look j st.b).isSome:=by
  intro j av;rw[hD]at av;by_cases e:k=j
  ·subst e;simp[J]
  ·rwa[bh e]at av
 refine⟨h.over ag rfl ⟨fun b o aN=>by rw[cE];exact h.good.alt b o aN,fun j cn av=>?_,fun j dc b av jL=>h.good.inj j dc b (se j av) (se dc jL),fun g o aL=>?_,h.good.oinj,fun g j n v b aL av=>h.good.obx g j n v b aL (se j av),h.good.one,fun bl af=>h.good.otr bl (af.imp (fun⟨k,I,aa⟩=>⟨k,se k I,aa⟩) id)⟩
  ⟨vg.trans h.fr.os,Df.trans h.fr.tape,C0.trans h.fr.output,by rw[cE];exact h.fr.size,fun j av hm=>?_,fun b o aN=>?_,h.fr.fresh,h.fr.obj,h.fr.obn,h.fr.row,h.fr.obr,h.fr.trd,fun k j b af=>⟨(h.fr.trb k j b af).1,by rw[cE];exact(h.fr.trb k j b af).2⟩,h.fr.trn,fun b o aN=>(ag.sh b o (h.fr.keep b o aN).1).trans (h.fr.sh b o aN),h.fr.nrow⟩ h.new,ag⟩
 ·simp only at av;rw[hD]at av;by_cases e:k=j
  ·rw[if_pos e]at av;cases av;subst e;exact⟨bl,us,el,af,g2,g3,iD,ny ag aA⟩
  ·rw[bh e]at av;obtain⟨b,a1,dL,ai,aE,bb,b9,ft⟩:=h.good.box j cn av;refine⟨b,a1,dL,ai,aE,bb,?_,ny ag ft⟩;rw[kW b fun fC=>e (h.good.inj k j bl (by simp[J]) (by simp[av]) af (by rw[<-fC];exact ai))];exact b9
 ·obtain⟨v,xs,ai,aE,bb,b9⟩:=h.good.own g o aL;refine⟨v,xs,ai,⟨aE.1,?_⟩,bb,pA ag (fun _ _ _ h=>h) b9⟩;rcases aE.2 with aE|⟨ha,cap,cur,f1,f2,f3,f4⟩
  ·exact .inl aE
  ·refine .inr ⟨ha,cap,cur,f1,f2,?_,f4⟩;rw[kW ha fun fC=>h.good.obx g k o.n v bl (by simp[aL]) (by simp[J]) ai (by rw[f1,<-fC];rfl) af];exact f3
 ·rw[kW j fun e=>by subst e;exact g2.elim hm (fun g2=>Ω)];exact h.fr.block j av hm
 ·obtain⟨ct,cN⟩:=h.fr.keep b o aN;exact⟨ct,(ag.A b o ct).2.trans cN⟩
theorem bK.storeBox{C:db}{st:aM}{a:Act}{w:World}{ν:aC}(h:bK C st a w ν){k:aq}{cs cs':List ab}(J:look k st.b=some cs){bl:Nat}(af:ν.bx k=some bl)(aV:fp cs=true){us:Array Value}(aA:bV w ν cs' us.toList):
  bK C {st with b:=cu k cs' st.b} a (w.setRow bl us) ν:=by
 obtain⟨fB,dP,el,g1,g2,g3,g4,g5⟩:=h.good.box k cs J;rw[af]at g1;cases g1;rw[lA aV]at g4;have vh:=qc aA;exact(h.setBox (w':=w.setRow bl us) J af (us:=us) (el:=el) rfl rfl rfl (fun j av=>setRow_other w bl j us av) (setRow_size w bl us) (by rw[lA vh];exact setRow_heap w bl dP us el.1 _ g4) (by rw[k7 vh];exact aA)).1
def aC.withRowOf(ν:aC)(k:aq)(v:Value)(n cells:Nat):aC:={A:=fun b o=>ν.A b o\/(v.ownBlock=some b/\o<cells),bx:=ν.bx,ow:=fun j=>if j=k then some (n,v)else ν.ow j,tr:=ν.tr}
theorem vx{w:World}{A:Nat->Nat->Prop}{b:Nat}:∀(us:List Value) (off:Nat),(∀j u,us[j]? =some u->A b (off+j)/\w.cell? ⟨b,off+j,none⟩=some u)->h7 w A b off us
 |[],_,_=>trivial
 |u::us,off,h=>⟨h 0 u rfl,vx us (off+1) fun j x av=>by have:=h (j+1) x (by simpa using av);rwa[show off+(j+1)=off+1+j from by omega]at this⟩
theorem GN{w w':World}(aL:w.grownBy w' none){b i:Nat}(h:b<w.heap.size):w'.cell? ⟨b,i,none⟩=w.cell? ⟨b,i,none⟩:=World.cell?_of_block (aL.block b h Ψ)
theorem bK.newRowM{C:db}{st:aM}{a:Act}{w w':World}{ν:aC}(h:bK C st a w ν){k:aq}{xs:List ab}(J:(ν.bx k=none/\ν.ow k=none/\∀j b,¬ν.tr k j b)\/ ∃o,look k st.e=some o/\o.n<xs.length){el sz:Nat}{v:Value}{us:List Value}
  (aL:w.grownBy w' none) (ku:w'.ownsRow w.heap.size el sz v xs.length us) (aA:cd w ν sz xs us) (hf:xs.length<=b0) {n':Nat} {o':List aq} (gd:∀j,fresh n' o' j->fresh st.n st.o j/\j≠k):
  bK C {st with e:=cu k ⟨xs.length,el,sz,some xs⟩ st.e,n:=n',o:=o'} a w' (ν.withOwn k xs.length v)/\
  ((∃b cap,v= .slice (some ⟨b,0,none⟩) xs.length cap)->aw w' (ν.withOwn k xs.length v) (.row sz k xs.length) v):=by
 have ll:∀bl,v.ownBlock=some bl->w.heap.size<=bl/\bl<w'.heap.size:=fun bl af=>ku.lt bl af;have ag:kh w ν w' (ν.withOwn k xs.length v):=by
  refine⟨fun b o aN=>⟨aN,GN aL (h.good.alt b o aN)⟩,fun j b _ av=>av,fun g n u _ hj=>?_,fun b o aN=>wg (aL.block b (h.good.alt b o aN) Ψ),fun _ _ _ _ h=>h⟩;by_cases e:g=k
  ·subst e;rcases J with J|⟨o,ag,b4⟩
   ·rw[J.2.1]at hj;cases hj
   ·obtain⟨v0,dP,ai,_⟩:=h.good.own g o ag;rw[ai]at hj;cases hj;exact⟨xs.length,v,by simp[aC.withOwn],.inr b4⟩
  ·exact⟨n,u,by simp[aC.withOwn,e,hj],.inl ⟨rfl,rfl⟩⟩
 have j2:∀g,(look g (cu k ⟨xs.length,el,sz,some xs⟩ st.e)).isSome->g=k\/(g≠k/\(look g st.e).isSome/\(ν.withOwn k xs.length v).ow g=ν.ow g):=by
  intro g gb;by_cases e:g=k
  ·exact .inl e
  ·rw[hD,bh (Ne.symm e)]at gb;exact .inr ⟨e,gb,by simp[aC.withOwn,e]⟩
 have ID:∀bl,v.ownBlock=some bl->∀j,¬ν.A bl j:=fun bl af j aN=>by have I:=h.good.alt bl j aN;have:=(ll bl af).1;omega
 have QV:∀j b,¬ν.tr k j b:=fun j b af=>by
  rcases J with J|⟨o,fM,_⟩
  ·exact J.2.2 j b af
  ·obtain⟨v0,dP,ai,_⟩:=h.good.own k o fM;rw[(h.fr.trn k j b af).2]at ai;cases ai
 refine⟨h.over ag rfl ⟨fun bl o aN=>?_,fun j cn av=>?_,h.good.inj,fun g o dS=>?_,fun g dF n n' u dn bl I aa ak aJ ba cq=>?_,fun g j n u bl I aa ak aJ ba=>?_,fun j=>?_,fun bl af aW j au=>?_⟩
  ⟨aL.os.trans h.fr.os,aL.tape.trans h.fr.tape,aL.output.trans h.fr.output,Nat.le_trans h.fr.size aL.size,fun j av hm=>?_,fun b o aN=>?_,h.fr.fresh,h.fr.obj,h.fr.obn,fun m n u hm=>ym (h.fr.row m n u hm) (fun n u=>ag.ow _ n u trivial),h.fr.obr,h.fr.trd,fun k j b af=>⟨(h.fr.trb k j b af).1,Nat.lt_of_lt_of_le (h.fr.trb k j b af).2 aL.size⟩,fun aW j b af=>?_,fun b o aN=>(ag.sh b o (h.fr.keep b o aN).1).trans (h.fr.sh b o aN),fun j n u b ai aE=>?_⟩ (fun m hm=>?_) (fun m hm=>(gd m hm).1),?_⟩
 ·have:=h.good.alt bl o aN;have:=aL.size;omega
 ·obtain⟨bl,a1,dL,g1,g2,g3,g4,g5⟩:=h.good.box j cn av;have b4:=(Array.getElem?_eq_some_iff.1 g4).1;exact⟨bl,a1,dL,g1,g2,g3,by rw[aL.block bl b4 Ψ];exact g4,ny ag g5⟩
 ·simp only at dS;rw[hD]at dS;by_cases e:k=g
  ·rw[if_pos e]at dS;cases dS;subst e;refine⟨v,us,by simp[aC.withOwn],⟨ku.1,?_⟩,fun bl af=>⟨.inr (Nat.le_trans h.fr.size (ll bl af).1),fun j aN=>absurd aN (ID bl af j)⟩,fun ys bs=>?_⟩
   ·rcases ku.2 with ai|⟨ha,cap,cur,f1,f2,f3⟩
    ·exact .inl ai
    ·exact .inr ⟨ha,cap,cur,f1,Ω,f3⟩
   ·simp only[dp]at bs;subst bs;exact⟨rfl,vY ag aA,ID⟩
  ·rw[bh e]at dS;obtain⟨v0,dP,ai,aE,bb,b9⟩:=h.good.own g o dS;exact⟨v0,dP,by simp[aC.withOwn,Ne.symm e,ai],aE.kept aL (by cases v0.ownBlock<;>simp),bb,pA ag (fun _ _ _ h=>h) b9⟩
 ·rcases j2 g I with rfl|⟨e9,eA,hE⟩<;>rcases j2 dF aa with rfl|⟨m1,m2,m3⟩
  ·rfl
  ·exfalso;simp only[aC.withOwn,if_true,dp,hQ]at ak;rw[m3]at aJ;obtain⟨o,fM⟩:=eb.1 m2;have aB:=h.good.ownLt fM aJ cq;have:=(ll bl (by rw[ak.2];exact ba)).1;omega
  ·exfalso;simp only[aC.withOwn,if_true,dp,hQ]at aJ;rw[hE]at ak;obtain⟨o,fM⟩:=eb.1 eA;have aB:=h.good.ownLt fM ak ba;have:=(ll bl (by rw[aJ.2];exact cq)).1;omega
  ·rw[hE]at ak;rw[m3]at aJ;exact h.good.oinj g dF n n' u dn bl eA m2 ak aJ ba cq
 ·rcases j2 g I with rfl|⟨e9,eA,hE⟩
  ·simp only[aC.withOwn,if_true,dp,hQ]at ak;obtain⟨cn,fJ⟩:=eb.1 aa;have aB:=h.good.boxLt fJ ba;have:=(ll bl (by rw[ak.2];exact aJ)).1;omega
  ·rw[hE]at ak;exact h.good.obx g j n u bl eA aa ak aJ ba
 ·by_cases e:j=k
  ·subst e;rcases J with J|⟨o,fM,_⟩
   ·exact .inl J.1
   ·obtain⟨v0,dP,ai,_⟩:=h.good.own j o fM;rcases h.good.one j with I|I
    ·exact .inl I
    ·rw[I]at ai;cases ai
  ·rcases h.good.one j with I|I
   ·exact .inl I
   ·exact .inr (by simp[aC.withOwn,e,I])
 ·rcases af with af|⟨g,n,u,bt,a2,a3⟩
  ·exact h.good.otr bl (.inl af) aW j au
  ·rcases j2 g bt with rfl|⟨e9,eA,hE⟩
   ·simp only[aC.withOwn,if_true,dp,hQ]at a2;have I:=(ll bl (by rw[a2.2];exact a3)).1;have aa:=(h.fr.trb aW j _ au).2;omega
   ·exact h.good.otr bl (.inr ⟨g,n,u,eA,by rw[<-hE];exact a2,a3⟩) aW j au
 ·rw[aL.block j (by have:=h.fr.size;omega) Ψ];exact h.fr.block j av hm
 ·obtain⟨ct,cN⟩:=h.fr.keep b o aN;exact⟨ct,(ag.A b o ct).2.trans cN⟩
 ·have b5:aW≠k:=fun e=>by subst e;exact QV j b af
  obtain⟨t1,t2⟩:=h.fr.trn aW j b af;exact⟨t1,by simp[aC.withOwn,b5,t2]⟩
 ·by_cases e:aq.loc j=k
  ·subst e;simp only[aC.withOwn,if_true,dp,hQ]at ai;exact Nat.le_trans h.fr.size (ll b (by rw[ai.2];exact aE)).1
  ·simp only[aC.withOwn,bh e]at ai;exact h.fr.nrow j n u b ai aE
 ·obtain⟨f1,f2⟩:=gd m hm;obtain⟨ct,cN,gF⟩:=h.new m f1;refine⟨ct,?_,gF⟩;simp[aC.withOwn,f2,cN]
 ·intro CM;simp only[aw];exact⟨CM,hf,xs.length,v,by simp[aC.withOwn],cx _,fun _=>rfl⟩
theorem bK.publish{C:db}{st:aM}{a:Act}{w:World}{ν:aC}(h:bK C st a w ν){k:aq}{o:cp}{xs:List ab}(J:look k st.e=some o)(ad:o.xs=some xs){v:Value}(aY:ν.ow k=some (o.n,v))(hf:xs.length<=b0):
  bK C {st with e:=cu k ⟨o.n,o.el,o.sz,none⟩ st.e} a w (ν.withRowOf k v o.n (o.n*o.sz))/\
  aw w (ν.withRowOf k v o.n (o.n*o.sz)) (.slice o.sz (.own k) xs) v:=by
 obtain⟨v0,us,bL,ck,dd,du⟩:=h.good.own k o J;rw[aY]at bL;cases bL;obtain⟨cy,lB,q7⟩:=du xs ad;have hN:∀g,(ν.withRowOf k v o.n (o.n*o.sz)).ow g=ν.ow g:=fun g=>by
  simp only[aC.withRowOf];split
  ·rename_i e;subst e;exact aY.symm
  ·rfl
 have ag:kh w ν w (ν.withRowOf k v o.n (o.n*o.sz)):=⟨fun b o aN=>⟨.inl aN,rfl⟩,fun j b _ av=>av,fun g n u _ hj=>⟨n,u,by rw[hN];exact hj,.inl ⟨rfl,rfl⟩⟩,fun _ _ _=>rfl,fun _ _ _ _ h=>h⟩
 have j2:∀g,(look g (cu k ⟨o.n,o.el,o.sz,none⟩ st.e)).isSome->(look g st.e).isSome:=by
  intro g gb;by_cases e:k=g
  ·subst e;simp[J]
  ·rwa[hD,bh e]at gb
 refine⟨h.over ag rfl ⟨fun bl i aN=>?_,fun j cn av=>?_,h.good.inj,fun g o' dS=>?_,fun g dF n n' u dn bl I aa ak aJ=>h.good.oinj g dF n n' u dn bl (j2 g I) (j2 dF aa) (by rwa[hN]at ak) (by rwa[hN]at aJ),fun g j n u bl I aa ak=>h.good.obx g j n u bl (j2 g I) aa (by rwa[hN]at ak),fun j=>?_,fun bl af=>h.good.otr bl (af.imp id (fun⟨g,n,v,bt,a2,a3⟩=>⟨g,n,v,j2 g bt,by rwa[hN]at a2,a3⟩))⟩
  ⟨h.fr.os,h.fr.tape,h.fr.output,h.fr.size,h.fr.block,fun b i aN=>⟨.inl (h.fr.keep b i aN).1,(h.fr.keep b i aN).2⟩,fun b i aN=>?_,h.fr.obj,h.fr.obn,fun m n u hm=>ym (h.fr.row m n u hm) (fun n u=>ag.ow _ n u trivial),h.fr.obr,h.fr.trd,h.fr.trb,fun aW j b af=>⟨(h.fr.trn aW j b af).1,by rw[hN];exact(h.fr.trn aW j b af).2⟩,h.fr.sh,fun j n u b ai aE=>h.fr.nrow j n u b (by rw[<-hN];exact ai) aE⟩ (fun m hm=>?_),?_⟩
 ·rcases aN with aN|⟨aN,_⟩
  ·exact h.good.alt bl i aN
  ·exact(ck.lt bl aN).2
 ·obtain⟨bl,a1,dL,g1,g2,g3,g4,g5⟩:=h.good.box j cn av;refine⟨bl,a1,dL,g1,g2,fun i aN=>?_,g4,ny ag g5⟩;rcases aN with aN|⟨aN,_⟩
  ·exact g3 i aN
  ·exact h.good.obx k j o.n v bl (by simp[J]) (by simp[av]) aY aN g1
 ·simp only at dS;rw[hD]at dS;by_cases e:k=g
  ·rw[if_pos e]at dS;cases dS;subst e;refine⟨v,us,by rw[hN];exact aY,ck,fun bl af=>⟨(dd bl af).1,fun j aN=>?_⟩,fun ys bs=>by cases bs⟩;rcases aN with aN|⟨_,aN⟩
   ·exact(dd bl af).2 j aN
   ·exact aN
  ·rw[bh e]at dS;obtain⟨v0,dP,ai,aE,bb,b9⟩:=h.good.own g o' dS;have r4:∀bl,v0.ownBlock=some bl->∀j,(ν.withRowOf k v o.n (o.n*o.sz)).A bl j->ν.A bl j:=fun bl af j aN=>by
    rcases aN with aN|⟨aN,_⟩
    ·exact aN
    ·exact absurd (h.good.oinj k g o.n o'.n v v0 bl (by simp[J]) (by simp[dS]) aY ai aN af) e
   exact⟨v0,dP,by rw[hN];exact ai,aE,fun bl af=>⟨(bb bl af).1,fun j aN=>(bb bl af).2 j (r4 bl af j aN)⟩,pA ag r4 b9⟩
 ·rcases h.good.one j with I|I
  ·exact .inl I
  ·exact .inr (by rw[hN];exact I)
 ·rcases aN with aN|⟨aN,_⟩
  ·exact h.fr.fresh b i aN
  ·exact .inr (dd b aN).1
 ·obtain⟨ct,cN,gF⟩:=h.new m hm;exact⟨ct,by rw[hN];exact cN,gF⟩
 ·simp only[aw];refine⟨?_,fun e=>(by cases e),fun g e=>?_,fun _ _ e=>(by cases e),fun _ e=>(by cases e)⟩
  ·rcases ck.2 with⟨ai,aE⟩|⟨ha,cap,cur,f1,f2,f3,f4,f5,f6,f7⟩
   ·refine⟨none,0,by rw[ai,cy,aE],Ω,⟨by simp[maxLen],hf⟩,.inl (pK Ω)⟩
   ·refine⟨some ⟨ha,0,none⟩,cap,by rw[f1,cy],Ω,⟨f5,hf⟩,.inr ⟨ha,0,us,rfl,vx us 0 fun j u av=>?_,vY ag lB⟩⟩;have hW:v.ownBlock=some ha:=by rw[f1];rfl
    have eR:j<us.length:=(gp.1 av).1;refine⟨.inr ⟨hW,by rw[ck.1]at eR;omega⟩,?_⟩;have:=ck.cells hW j u av;rwa[lK]at this
  ·cases e;exact⟨o.n,v,by rw[hN];exact aY,Ω,fun _=>rfl⟩
theorem LD{α:Type}(k:aq)(p q:α):∀l,cu k q (cu k p l)=cu k q l
 |[]=>by simp[cu]
 |(i,r)::l=>by
  by_cases e:i=k
  ·simp[cu,e]
  ·simp[cu,e,LD k p q l]
theorem bK.newRow{C:db}{st:aM}{a:Act}{w w':World}{ν:aC}(h:bK C st a w ν){k:aq}{xs:List ab}(J:(ν.bx k=none/\ν.ow k=none/\∀j b,¬ν.tr k j b)\/ ∃o,look k st.e=some o/\o.n<xs.length){el sz:Nat}{v:Value}{us:List Value}
  (aL:w.grownBy w' none) (ku:w'.ownsRow w.heap.size el sz v xs.length us) (aA:cd w ν sz xs us) (hf:xs.length<=b0) {n':Nat} {o':List aq} (gd:∀j,fresh n' o' j->fresh st.n st.o j/\j≠k):
  bK C {st with e:=cu k ⟨xs.length,el,sz,none⟩ st.e,n:=n',o:=o'} a w' ((ν.withOwn k xs.length v).withRowOf k v xs.length (xs.length*sz))/\
  aw w' ((ν.withOwn k xs.length v).withRowOf k v xs.length (xs.length*sz)) (.slice sz (.own k) xs) v:=by
 have I:=(h.newRowM J aL ku aA hf gd).1;have aa:=I.publish (k:=k) (o:=⟨xs.length,el,sz,some xs⟩) (xs:=xs) (v:=v) (by simp[hD]) rfl (by simp[aC.withOwn]) hf;simpa only[LD]using aa
theorem bK.setRowM{C:db}{st:aM}{a:Act}{w w':World}{ν:aC}(h:bK C st a w ν){k:aq}{o:cp}{xs xs':List ab}(J:look k st.e=some o)(ad:o.xs=some xs){bl:Nat}{v v':Value}(aY:ν.ow k=some (o.n,v))(hW:v.ownBlock=some bl)(xK:v'.ownBlock=some bl)
  (aU:(xs'.length=o.n/\v'=v)\/o.n<xs'.length) {us:List Value} (vg:w'.os=w.os) (Df:w'.tape=w.tape) (C0:w'.output=w.output) (kW:∀j,j≠bl->w'.heap[j]? =w.heap[j]?) (cE:w'.heap.size=w.heap.size)
  (ku:w'.ownsRow 0 o.el o.sz v' xs'.length us) (aA:cd w ν o.sz xs' us):
  bK C {st with e:=cu k ⟨xs'.length,o.el,o.sz,some xs'⟩ st.e} a w' (ν.withOwn k xs'.length v')/\kh w ν w' (ν.withOwn k xs'.length v')/\(xs'.length<=b0->aw w' (ν.withOwn k xs'.length v') (.row o.sz k xs'.length) v'):=by
 obtain⟨v0,dP,bL,ck,dd,du⟩:=h.good.own k o J;rw[aY]at bL;cases bL;obtain⟨cy,lB,q7⟩:=du xs ad;have ag:kh w ν w' (ν.withOwn k xs'.length v'):=by
  refine⟨fun b i aN=>⟨aN,World.cell?_of_block (kW b fun e=>by subst e;exact q7 b hW i aN)⟩,fun j b _ av=>av,fun g n u _ hj=>?_,fun b i aN=>wg (kW b fun e=>by subst e;exact q7 b hW i aN),fun _ _ _ _ h=>h⟩;by_cases e:g=k
  ·subst e;rw[aY]at hj;cases hj;refine⟨xs'.length,v',by simp[aC.withOwn],?_⟩;rcases aU with⟨I,aa⟩|I
   ·exact .inl ⟨I,aa⟩
   ·exact .inr I
  ·exact⟨n,u,by simp[aC.withOwn,e,hj],.inl ⟨rfl,rfl⟩⟩
 have j2:∀g n u,(look g (cu k ⟨xs'.length,o.el,o.sz,some xs'⟩ st.e)).isSome->(ν.withOwn k xs'.length v').ow g=some (n,u)->∀b,u.ownBlock=some b->(look g st.e).isSome/\∃n u,ν.ow g=some (n,u)/\u.ownBlock=some b:=by
  intro g n u gb hj b af;by_cases e:g=k
  ·subst e;simp only[aC.withOwn,if_true,dp,hQ]at hj;rw[<-hj.2,xK]at af;cases af;exact⟨by simp[J],o.n,v,aY,hW⟩
  ·rw[hD,bh (Ne.symm e)]at gb;simp only[aC.withOwn,e,if_false]at hj;exact⟨gb,n,u,hj,af⟩
 refine⟨h.over ag rfl ⟨fun b i aN=>by rw[cE];exact h.good.alt b i aN,fun j cn av=>?_,h.good.inj,fun g o' dS=>?_,fun g dF n n' u dn b I aa ak aJ ba cq=>?_,fun g j n u b I aa ak aJ ba=>?_,fun j=>?_,fun b af=>h.good.otr b (af.imp id (fun⟨g,n,v,bt,a2,a3⟩=>by obtain⟨bO,e9,hY,bU,fj⟩:=j2 g n v bt a2 b a3;exact⟨g,e9,hY,bO,bU,fj⟩))⟩
  ⟨vg.trans h.fr.os,Df.trans h.fr.tape,C0.trans h.fr.output,by rw[cE];exact h.fr.size,fun j av hm=>?_,fun b i aN=>?_,h.fr.fresh,h.fr.obj,h.fr.obn,fun m n u hm=>ym (h.fr.row m n u hm) (fun n u=>ag.ow _ n u trivial),h.fr.obr,h.fr.trd,fun k j b af=>⟨(h.fr.trb k j b af).1,by rw[cE];exact(h.fr.trb k j b af).2⟩,fun aW j b af=>?_,fun b o aN=>(ag.sh b o (h.fr.keep b o aN).1).trans (h.fr.sh b o aN),fun j n u b ai aE=>(by
   by_cases e:aq.loc j=k
   ·subst e;simp only[aC.withOwn,if_true,dp,hQ]at ai;rw[<-ai.2,xK]at aE;cases aE;exact h.fr.nrow j o.n v bl aY hW
   ·simp only[aC.withOwn,bh e]at ai;exact h.fr.nrow j n u b ai aE)⟩ (fun m hm=>?_),ag,?_⟩
 ·obtain⟨b,a1,dL,g1,g2,g3,g4,g5⟩:=h.good.box j cn av;have b5:b≠bl:=fun e=>h.good.obx k j o.n _ bl (by simp[J]) (by simp[av]) aY hW (by rw[<-e];exact g1);exact⟨b,a1,dL,g1,g2,g3,by rw[kW b b5];exact g4,ny ag g5⟩
 ·simp only at dS;rw[hD]at dS;by_cases e:k=g
  ·rw[if_pos e]at dS;cases dS;subst e;refine⟨v',us,by simp[aC.withOwn],ku,fun b af=>?_,fun ys bs=>?_⟩
   ·rw[xK]at af;cases af;exact⟨(dd bl hW).1,fun j aN=>absurd aN (q7 bl hW j)⟩
   ·simp only[dp]at bs;subst bs;exact⟨rfl,vY ag aA,fun b af=>by rw[xK]at af;cases af;exact q7 bl hW⟩
  ·rw[bh e]at dS;obtain⟨v0,dP,ai,aE,bb,b9⟩:=h.good.own g o' dS;have b5:∀b,v0.ownBlock=some b->b≠bl:=fun b af B3=>e (h.good.oinj k g o.n o'.n _ v0 bl (by simp[J]) (by simp[dS]) aY ai hW (by rw[<-B3];exact af));refine⟨v0,dP,by simp[aC.withOwn,Ne.symm e,ai],⟨aE.1,?_⟩,bb,pA ag (fun _ _ _ h=>h) b9⟩;rcases aE.2 with aE|⟨ha,wT,kl,f1,f2,f3,f4⟩
   ·exact .inl aE
   ·exact .inr ⟨ha,wT,kl,f1,f2,by rw[kW ha (b5 ha (by rw[f1];rfl))];exact f3,f4⟩
 ·obtain⟨bt,e9,hY,a2,a3⟩:=j2 g n u I ak b ba;obtain⟨bO,eA,hP,bU,fj⟩:=j2 dF n' dn aa aJ b cq;exact h.good.oinj g dF e9 eA hY hP b bt bO a2 bU a3 fj
 ·obtain⟨bt,e9,hY,a2,a3⟩:=j2 g n u I ak b aJ;exact h.good.obx g j e9 hY b bt aa a2 a3 ba
 ·by_cases e:j=k
  ·subst e;rcases h.good.one j with I|I
   ·exact .inl I
   ·rw[I]at aY;cases aY
  ·rcases h.good.one j with I|I
   ·exact .inl I
   ·exact .inr (by simp[aC.withOwn,e,I])
 ·rw[kW j fun e=>by subst e;exact(dd j hW).1.elim hm (fun g2=>Ω)];exact h.fr.block j av hm
 ·obtain⟨ct,cN⟩:=h.fr.keep b i aN;exact⟨ct,(ag.A b i ct).2.trans cN⟩
 ·obtain⟨t1,t2⟩:=h.fr.trn aW j b af;have b5:aW≠k:=fun e=>by subst e;rw[t2]at aY;cases aY
  exact⟨t1,by simp[aC.withOwn,b5,t2]⟩
 ·obtain⟨ct,cN,gF⟩:=h.new m hm;refine⟨ct,?_,gF⟩;have:m≠k:=fun e=>by subst e;rw[cN]at aY;cases aY
  simp[aC.withOwn,this,cN]
 ·intro hf;simp only[aw];obtain⟨cap,CM⟩:=Ke ku xK;exact⟨⟨bl,cap,CM⟩,hf,xs'.length,v',by simp[aC.withOwn],cx _,fun _=>rfl⟩
end
end Go.Pv
