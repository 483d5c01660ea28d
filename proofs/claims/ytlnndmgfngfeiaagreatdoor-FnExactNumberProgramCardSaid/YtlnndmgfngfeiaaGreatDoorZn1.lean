/- Rows of the call's own: a new one, and one that is appended to in place. -/
import Derived.WalkKit
import Derived.Orders
import Derived.KernelRfl
import Derived.IntWalk
import Derived.Laws.StructEq
import Derived.ChangeKeysEq
import Derived.MapKept
import Derived.ArgAppend
set_option linter.all false
set_option maxHeartbeats 4000000
set_option maxRecDepth 4000
namespace Go
theorem Ω{p:Prop}(h:p:=by omega):p:=h
theorem Ψ{p:Prop}(h:p:=by simp):p:=h
end Go
open Array renaming getD_eq_getD_getElem?->pO
open Bool renaming and_eq_true->bJ,false_eq_true->kG,not_eq_true'->sG
open ByteArray renaming empty->aqc,ext->alx,push->aqd,size->OA
open Go renaming Operand->iX,Program->bS,TypeId->fX
open Go.ByteArray renaming toList_eq->aly
open Go.IntKind renaming i64->lL
open Go.IntWalk renaming i64_in->ou
open Go.Result renaming andThen_ok->fw
open Go.Sem renaming run_bind->fu,run_pure->gq
open Go.Value renaming cells->nO,int->oV,ownBlock->ov
open Go.Value.pointer renaming injEq->aqj
open List renaming all_eq_true->ji,cons_append->dF,eq_nil_of_length_eq_zero->sI,getElem?_drop->mb,getElem?_eq_getElem->cL,getElem?_eq_some_iff->fo,length_append->gx,length_cons->gg,length_drop->hX,length_nil->mJ,length_take->pS,map_cons->fF,mem_append->hl,mem_cons->gy,take_succ_cons->sK
open List.cons renaming injEq->sH
open Nat renaming le_refl->cc
open Option renaming isSome_iff_exists->fv,isSome_none->uu,map_eq_some_iff->iN,map_none->vC,map_some->lM
open Option.some renaming injEq->ei
open Prod.mk renaming injEq->gY
open UInt8 renaming ofNat->oW
open _root_ renaming ByteArray->k1,False->dr,Option->aW,UInt8->aj,beq_iff_eq->eA,congrArg->er,decide_eq_true_eq->fs,if_neg->br
namespace Go.Pv
section
open Go Go.RowKit
inductive aC where
 |loc (s:Nat)
 |obj (n:Nat)
 deriving DecidableEq,Inhabited
inductive iY where
 |no
 |nil
 |own (k:aC)
 |tr (k:aC) (j:Nat)
 |lo (k:aC)
 deriving DecidableEq,Inhabited
inductive ae where
 |junk
 |int (k:IntKind) (n:Int)
 |bool (b:Bool)
 |str (s:List aj)
 |slice (sz:Nat) (tag:iY) (xs:List ae)
 |agg (cs:List ae)
 |ptr (key:aC) (off:Nat)
 |eptr (x:ae)
 |iface (t:Nat) (x:ae)
 |nilp
 |tuple (vs:List ae)
 |func (f:Nat) (dP:List ae)
 |gmap (key:aC)
 |row (sz:Nat) (key:aC) (n:Nat)
 |rptr (sz:Nat) (key:aC) (n i f:Nat)
 |hdm (clock:Nat) (borns:List Nat)
 |hdi (since:Nat) (seen:List Nat) (last:Nat)
 |cst (v:Value)
 deriving Inhabited
structure aQ where
 A:Nat->Nat->Prop
 bx:aC->aW Nat
 ow:aC->aW (Nat×Value)
 tr:aC->Nat->Nat->Prop
def aR:Nat:=68719476736
def kg(w:World)(A:Nat->Nat->Prop)(b:Nat):Nat->List Value->Prop
 |_,[]=>True
 |off,u::us=>(A b off/\w.cell? ⟨b,off,none⟩=some u)/\kg w A b (off+1) us
def shape(w:World)(b:Nat):aW (Nat×fX×(Nat×Nat)):=
 match w.heap[b]? with
 |some (.cells cur el fz)=>some (cur.size,el,fz)
 |_=>none
theorem zY{w w':World}{b:Nat}(h:w'.heap[b]? =w.heap[b]?):shape w' b=shape w b:=by unfold shape;rw[h]
mutual
def cB(t:Bool)(w:World)(A:Nat->Nat->Prop)(F:Nat->Prop):ae->Value->Prop
 | .int k n,v=>v= .int k n
 | .bool b,v=>v= .bool b
 | .str s,v=>v= .string ⟨s.toArray⟩/\s.length<=aR
 | .slice sz _ xs,v=> ∃a cap,v= .slice a xs.length cap/\xs.length<=cap/\(cap<=maxLen/\xs.length<=aR)/\
   (xs=[]\/ ∃b off us G,a=some ⟨b,off,none⟩/\F b/\(∀c,G c->F c/\(t=true->c≠b))/\kg w A b off us/\(t=true->off=0/\0<us.length/\∃el,shape w b=some (cap*sz,el,(0,0)))/\jD t w A G sz xs us)
 | .agg cs,v=> ∃us:Array Value,v= .agg us/\kr t w A F cs us.toList
 |_,_=>dr
def kr(t:Bool)(w:World)(A:Nat->Nat->Prop)(F:Nat->Prop):List ae->List Value->Prop
 |[],us=>us=[]
 |c::cs,us=> ∃u bE gJ gK,us=u::bE/\((∀b,gJ b->F b)/\(∀b,gK b->F b)/\(t=true->∀b,gJ b->¬gK b))/\(cB t w A gJ c u/\u.oneCell'=true)/\kr t w A gK cs bE
def jD(t:Bool)(w:World)(A:Nat->Nat->Prop)(F:Nat->Prop)(sz:Nat):List ae->List Value->Prop
 |[],us=>us=[]
 |x::xs,us=> ∃u bE gJ gK,us=u.cells.toList++bE/\((∀b,gJ b->F b)/\(∀b,gK b->F b)/\(t=true->∀b,gJ b->¬gK b))/\(cB t w A gJ x u/\u.cells.size=sz/\(∀c∈u.cells.toList,c.oneCell'=true))/\jD t w A gK sz xs bE
end
def w7(f:Nat):Nat:=f-1000000
def uS(f:Nat)(us:Array Value):Value:=if f<1000000 then .func (.func f) #[] us else .func (.func (w7 f)) us #[]
theorem acz{f:Nat}(h:f<1000000)(us:Array Value):uS f us= .func (.func f) #[] us:=if_pos h
theorem acy{f:Nat}(h:¬f<1000000)(us:Array Value):uS f us= .func (.func (w7 f)) us #[]:=br h
theorem acx(m:Nat)(us:Array Value):uS (m+1000000) us= .func (.func m) us #[]:=by unfold uS w7;rw[br Ω,Nat.add_sub_cancel]
mutual
def aJ(w:World)(ν:aQ):ae->Value->Prop
 | .junk,_=>True
 | .int k n,v=>v= .int k n
 | .bool b,v=>v= .bool b
 | .str s,v=>v= .string ⟨s.toArray⟩/\s.length<=aR
 | .slice sz tag xs,v=>
   (∃a cap,v= .slice a xs.length cap/\xs.length<=cap/\(cap<=maxLen/\xs.length<=aR)/\(xs=[]\/ ∃b off us,a=some ⟨b,off,none⟩/\kg w ν.A b off us/\cV w ν sz xs us))/\
   (tag= .nil->v= .slice none 0 0)/\
   (∀g,tag= .own g->∃n u,ν.ow g=some (n,u)/\xs.length<=n/\(xs.length=n->v=u))/\
   (∀k j,tag= .tr k j->cB true w ν.A (ν.tr k j) (.slice sz tag xs) v)/\(∀k,tag= .lo k->cB false w ν.A (ν.tr k 0) (.slice sz tag xs) v)
 | .agg cs,v=> ∃us:Array Value,v= .agg us/\ck w ν cs us.toList
 | .ptr key off,v=> ∃b,ν.bx key=some b/\v= .pointer (some ⟨b,off,none⟩)
 | .eptr x,v=> ∃b off u,v= .pointer (some ⟨b,off,none⟩)/\aJ w ν x u/\kg w ν.A b off u.cells.toList
 | .iface t x,v=> ∃u,v= .iface t u/\aJ w ν x u
 | .nilp,v=>v= .pointer none
 | .tuple vs,v=> ∃us:Array Value,v= .tuple us/\cz w ν vs us.toList
 | .func f dP,v=> ∃us:Array Value,v=uS f us/\cz w ν dP us.toList
 | .gmap key,v=> ∃b,ν.bx key=some b/\v= .map (some b)
 | .row _ key n,v=>(∃b cap,v= .slice (some ⟨b,0,none⟩) n cap)/\n<=aR/\∃n' u,ν.ow key=some (n',u)/\n<=n'/\(n=n'->v=u)
 | .rptr sz key n i f,v=>(∃b o,v= .pointer (some ⟨b,o,none⟩))/\i<n/\∃n' u,ν.ow key=some (n',u)/\n<=n'/\(n=n'->∃b,u.ownBlock=some b/\v= .pointer (some ⟨b,i*sz+f,none⟩))
 | .hdm _ _,_=>dr
 | .hdi _ _ _,_=>dr
 | .cst c,v=>v=c
def ck(w:World)(ν:aQ):List ae->List Value->Prop
 |[],us=>us=[]
 |c::cs,us=> ∃u bE,us=u::bE/\(aJ w ν c u/\u.oneCell'=true)/\ck w ν cs bE
def cz(w:World)(ν:aQ):List ae->List Value->Prop
 |[],us=>us=[]
 |c::cs,us=> ∃u bE,us=u::bE/\aJ w ν c u/\cz w ν cs bE
def cV(w:World)(ν:aQ)(sz:Nat):List ae->List Value->Prop
 |[],us=>us=[]
 |x::xs,us=> ∃u bE,us=u.cells.toList++bE/\(aJ w ν x u/\u.cells.size=sz/\(∀c∈u.cells.toList,c.oneCell'=true))/\cV w ν sz xs bE
end
theorem x6{w w':World}{A A':Nat->Nat->Prop}{b:Nat}(bf:∀b o,A b o->A' b o/\w'.cell? ⟨b,o,none⟩=w.cell? ⟨b,o,none⟩):
  ∀(us:List Value) (off:Nat),kg w A b off us->kg w' A' b off us
 |[],_,_=>trivial
 |_::us,off,h=>⟨⟨(bf _ _ h.1.1).1,(bf _ _ h.1.1).2.trans h.1.2⟩,x6 bf us (off+1) h.2⟩
mutual
theorem uU{t:Bool}{w w':World}{A A':Nat->Nat->Prop}(bf:∀b o,A b o->A' b o/\w'.cell? ⟨b,o,none⟩=w.cell? ⟨b,o,none⟩)(az:∀b o,A b o->shape w' b=shape w b):∀(p:ae) (F pV:Nat->Prop) (v:Value),(∀b,F b->pV b)->cB t w A F p v->cB t w' A' pV p v
 | .int k n,_,_,_,_,h=>by simp only[cB]at h⊢;exact h
 | .bool b,_,_,_,_,h=>by simp only[cB]at h⊢;exact h
 | .str s,_,_,_,_,h=>by simp only[cB]at h⊢;exact h
 | .slice sz tag xs,F,pV,v,fO,h=>by
  simp only[cB]at h⊢;obtain⟨a,cap,I,J,au,aP⟩:=h;refine⟨a,cap,I,J,au,?_⟩;rcases aP with aP|⟨b,off,us,G,ao,aL,bB,b9,ee,dC⟩
  ·exact .inl aP
  ·refine .inr ⟨b,off,us,G,ao,fO _ aL,fun c aH=>⟨fO _ (bB c aH).1,(bB c aH).2⟩,x6 bf _ _ b9,fun aE=>?_,F9 bf az xs G G _ (fun _ h=>h) dC⟩;obtain⟨f1,f2,el,f3⟩:=ee aE;refine⟨f1,f2,el,?_⟩;cases us with
   |nil=>simp at f2
   |cons u us=>rw[az b off b9.1.1];exact f3
 | .agg cs,F,pV,v,fO,h=>by simp only[cB]at h⊢;obtain⟨us,I,J⟩:=h;exact⟨us,I,RL bf az cs F pV _ fO J⟩
 | .junk,_,_,_,_,h=>by simp[cB]at h
 | .ptr _ _,_,_,_,_,h=>by simp[cB]at h
 | .eptr _,_,_,_,_,h=>by simp[cB]at h
 | .iface _ _,_,_,_,_,h=>by simp[cB]at h
 | .nilp,_,_,_,_,h=>by simp[cB]at h
 | .tuple _,_,_,_,_,h=>by simp[cB]at h
 | .func _ _,_,_,_,_,h=>by simp[cB]at h
 | .gmap _,_,_,_,_,h=>by simp[cB]at h
 | .row _ _ _,_,_,_,_,h=>by simp[cB]at h
 | .rptr _ _ _ _ _,_,_,_,_,h=>by simp[cB]at h
 | .hdm _ _,_,_,_,_,h=>by simp[cB]at h
 | .hdi _ _ _,_,_,_,_,h=>by simp[cB]at h
 | .cst _,_,_,_,_,h=>by simp[cB]at h
theorem RL{t:Bool}{w w':World}{A A':Nat->Nat->Prop}(bf:∀b o,A b o->A' b o/\w'.cell? ⟨b,o,none⟩=w.cell? ⟨b,o,none⟩)(az:∀b o,A b o->shape w' b=shape w b):∀(cs:List ae) (F pV:Nat->Prop) (us:List Value),(∀b,F b->pV b)->kr t w A F cs us->kr t w' A' pV cs us
 |[],_,_,_,_,h=>by simp only[kr]at h⊢;exact h
 |c::cs,F,pV,us,fO,h=>by simp only[kr]at h⊢;obtain⟨u,bE,gJ,gK,I,⟨J,au,aP⟩,⟨bA,cy⟩,eu⟩:=h;exact⟨u,bE,gJ,gK,I,⟨fun b ah=>fO _ (J b ah),fun b ah=>fO _ (au b ah),aP⟩,⟨uU bf az c gJ gJ u (fun _ h=>h) bA,cy⟩,RL bf az cs gK gK bE (fun _ h=>h) eu⟩
theorem F9{t:Bool}{w w':World}{A A':Nat->Nat->Prop}(bf:∀b o,A b o->A' b o/\w'.cell? ⟨b,o,none⟩=w.cell? ⟨b,o,none⟩)(az:∀b o,A b o->shape w' b=shape w b){sz:Nat}:∀(cs:List ae) (F pV:Nat->Prop) (us:List Value),(∀b,F b->pV b)->jD t w A F sz cs us->jD t w' A' pV sz cs us
 |[],_,_,_,_,h=>by simp only[jD]at h⊢;exact h
 |c::cs,F,pV,us,fO,h=>by simp only[jD]at h⊢;obtain⟨u,bE,gJ,gK,I,⟨J,au,aP⟩,⟨bA,cy⟩,eu⟩:=h;exact⟨u,bE,gJ,gK,I,⟨fun b ah=>fO _ (J b ah),fun b ah=>fO _ (au b ah),aP⟩,⟨uU bf az c gJ gJ u (fun _ h=>h) bA,cy⟩,F9 bf az cs gK gK bE (fun _ h=>h) eu⟩
end
mutual
def kin(S:aC->Prop):ae->Prop
 | .slice _ tag xs=>(match tag with| .own k=>S k| .tr k _=>S k| .lo k=>S k|_=>True)/\kinL S xs
 | .agg cs=>kinL S cs
 | .ptr k _=>S k
 | .eptr x=>kin S x
 | .iface _ x=>kin S x
 | .tuple vs=>kinL S vs
 | .func _ dP=>kinL S dP
 | .gmap k=>S k
 | .row _ k _=>S k
 | .rptr _ k _ _ _=>S k
 |_=>True
def kinL(S:aC->Prop):List ae->Prop
 |[]=>True
 |x::xs=>kin S x/\kinL S xs
end
mutual
theorem oQ{S T:aC->Prop}(h:∀k,S k->T k):∀p:ae,kin S p->kin T p
 | .junk,_=>by simp[kin]
 | .int _ _,_=>by simp[kin]
 | .bool _,_=>by simp[kin]
 | .str _,_=>by simp[kin]
 | .slice sz tag xs,aV=>by simp only[kin]at aV⊢;exact⟨by cases tag<;>first|trivial|exact h _ aV.1,oP h xs aV.2⟩
 | .agg cs,aV=>by simp only[kin]at aV⊢;exact oP h cs aV
 | .ptr k _,aV=>by simp only[kin]at aV⊢;exact h _ aV
 | .eptr x,aV=>by simp only[kin]at aV⊢;exact oQ h x aV
 | .iface _ x,aV=>by simp only[kin]at aV⊢;exact oQ h x aV
 | .nilp,_=>by simp[kin]
 | .tuple vs,aV=>by simp only[kin]at aV⊢;exact oP h vs aV
 | .func _ dP,aV=>by simp only[kin]at aV⊢;exact oP h dP aV
 | .gmap k,aV=>by simp only[kin]at aV⊢;exact h _ aV
 | .row _ k _,aV=>by simp only[kin]at aV⊢;exact h _ aV
 | .rptr _ k _ _ _,aV=>by simp only[kin]at aV⊢;exact h _ aV
 | .hdm _ _,_=>by simp[kin]
 | .hdi _ _ _,_=>by simp[kin]
 | .cst _,_=>by simp[kin]
theorem oP{S T:aC->Prop}(h:∀k,S k->T k):∀bj:List ae,kinL S bj->kinL T bj
 |[],_=>by simp[kinL]
 |x::xs,aV=>by simp only[kinL]at aV⊢;exact⟨oQ h x aV.1,oP h xs aV.2⟩
end
mutual
theorem G6:∀p:ae,kin (fun _=>True) p
 | .junk=>by simp[kin]
 | .int _ _=>by simp[kin]
 | .bool _=>by simp[kin]
 | .str _=>by simp[kin]
 | .slice sz tag xs=>by simp only[kin];exact⟨by cases tag<;>trivial,x4 xs⟩
 | .agg cs=>by simp only[kin];exact x4 cs
 | .ptr k _=>by simp[kin]
 | .eptr x=>by simp only[kin];exact G6 x
 | .iface _ x=>by simp only[kin];exact G6 x
 | .nilp=>by simp[kin]
 | .tuple vs=>by simp only[kin];exact x4 vs
 | .func _ dP=>by simp only[kin];exact x4 dP
 | .gmap k=>by simp[kin]
 | .row _ k _=>by simp[kin]
 | .rptr _ k _ _ _=>by simp[kin]
 | .hdm _ _=>by simp[kin]
 | .hdi _ _ _=>by simp[kin]
 | .cst _=>by simp[kin]
theorem x4:∀bj:List ae,kinL (fun _=>True) bj
 |[]=>by simp[kinL]
 |x::xs=>by simp only[kinL];exact⟨G6 x,x4 xs⟩
end
def fZ:List Nat->List Value->List MapEntry
 |b::e4,k::v::r=>⟨k,v,b⟩::fZ e4 r
 |_,_=>[]
def jr(cs:List ae)(us:Array Value)(el:fX):Obj:=
 match cs with
 | .hdm clock borns::_=>.map (fZ borns us.toList).toArray clock
 | .hdi since seen last::_=>.mapIter (match us.toList with|[.map m]=>m|_=>none) since seen.toArray last
 |_=>.cells us el
structure agl (clock:Nat) (borns:List Nat) (r:List ae):Prop where
 len:r.length=2*borns.length
 inc:borns.Pairwise (· < ·)
 lt:∀b∈borns,b<clock
def iw(w:World)(ν:aQ)(cs:List ae)(us:List Value):Prop:=
 match cs with
 | .hdm clock borns::r=>cz w ν r us/\agl clock borns r
 | .hdi _ _ _::r=>cz w ν r us
 |cs=>ck w ν cs us
def gO:List ae->Bool
 | .hdm _ _::_=>false
 | .hdi _ _ _::_=>false
 |_=>true
theorem vk{w:World}{ν:aQ}{cs:List ae}{us:List Value}(h:ck w ν cs us):gO cs=true:=by
 unfold gO;split
 ·simp only[ck,aJ]at h;obtain⟨_,_,_,⟨h,_⟩,_⟩:=h;exact h.elim
 ·simp only[ck,aJ]at h;obtain⟨_,_,_,⟨h,_⟩,_⟩:=h;exact h.elim
 ·rfl
theorem mB{cs:List ae}(h:gO cs=true)(us:Array Value)(el:fX):jr cs us el= .cells us el:=by
 unfold gO at h;unfold jr;split at h<;>first|cases h|skip
 rfl
theorem l4{w:World}{ν:aQ}{cs:List ae}(h:gO cs=true)(us:List Value):iw w ν cs us=ck w ν cs us:=by
 unfold gO at h;unfold iw;split at h<;>first|cases h|skip
 rfl
structure nR (S:aC->Prop) (w:World) (ν:aQ) (w':World) (ν':aQ):Prop where
 A:∀b o,ν.A b o->ν'.A b o/\w'.cell? ⟨b,o,none⟩=w.cell? ⟨b,o,none⟩
 bx:∀k b,S k->ν.bx k=some b->ν'.bx k=some b
 ow:∀g n u,S g->ν.ow g=some (n,u)->∃n' eJ,ν'.ow g=some (n',eJ)/\(n'=n/\eJ=u\/n<n')
 sh:∀b o,ν.A b o->shape w' b=shape w b
 tr:∀k j b,S k->ν.tr k j b->ν'.tr k j b
abbrev mK:=nR (fun _=>True)
mutual
theorem sb{S:aC->Prop}{w w':World}{ν ν':aQ}(aq:nR S w ν w' ν'):∀(p:ae) (v:Value),kin S p->aJ w ν p v->aJ w' ν' p v
 | .junk,_,_,_=>by simp[aJ]
 | .int k n,_,_,h=>by simp only[aJ]at h⊢;exact h
 | .bool b,_,_,h=>by simp only[aJ]at h⊢;exact h
 | .str s,_,_,h=>by simp only[aJ]at h⊢;exact h
 | .slice sz tag xs,v,ab,h=>by
  simp only[aJ,kin]at h ab⊢;obtain⟨⟨a,cap,I,J,au,aP⟩,bA,cy,gQ,ec⟩:=h;refine⟨⟨a,cap,I,J,au,?_⟩,bA,fun g aS=>?_,fun k j gS=>?_,fun k gS=>?_⟩
  ·rcases aP with aP|⟨b,off,us,aP,cy,eu⟩
   ·exact .inl aP
   ·exact .inr ⟨b,off,us,aP,x6 aq.A _ _ cy,HT aq sz xs us ab.2 eu⟩
  ·obtain⟨n,u,ao,aL,bB⟩:=cy g aS;subst aS;obtain⟨n',eJ,f1,f2⟩:=aq.ow g n u ab.1 ao;refine⟨n',eJ,f1,?_⟩;rcases f2 with⟨rfl,rfl⟩|f2
   ·exact⟨aL,bB⟩
   ·exact⟨Ω,fun e=>Ω⟩
  ·have:=gQ k j gS;subst gS;exact uU aq.A aq.sh _ _ _ _ (fun b=>aq.tr k j b ab.1) this
  ·have:=ec k gS;subst gS;exact uU aq.A aq.sh _ _ _ _ (fun b=>aq.tr k 0 b ab.1) this
 | .agg cs,v,ab,h=>by simp only[aJ,kin]at h ab⊢;obtain⟨us,I,J⟩:=h;exact⟨us,I,HV aq cs _ ab J⟩
 | .ptr key off,v,ab,h=>by simp only[aJ,kin]at h ab⊢;obtain⟨b,I,J⟩:=h;exact⟨b,aq.bx _ _ ab I,J⟩
 | .iface t x,v,ab,h=>by simp only[aJ,kin]at h ab⊢;obtain⟨u,I,J⟩:=h;exact⟨u,I,sb aq x u ab J⟩
 | .eptr x,v,ab,h=>by simp only[aJ,kin]at h ab⊢;obtain⟨b,off,u,I,J,au⟩:=h;exact⟨b,off,u,I,sb aq x u ab J,x6 aq.A _ _ au⟩
 | .nilp,_,_,h=>by simp only[aJ]at h⊢;exact h
 | .tuple vs,v,ab,h=>by simp only[aJ,kin]at h ab⊢;obtain⟨us,I,J⟩:=h;exact⟨us,I,B1 aq vs _ ab J⟩
 | .func f dP,v,ab,h=>by simp only[aJ,kin]at h ab⊢;obtain⟨us,I,J⟩:=h;exact⟨us,I,B1 aq dP _ ab J⟩
 | .gmap key,v,ab,h=>by simp only[aJ,kin]at h ab⊢;obtain⟨b,I,J⟩:=h;exact⟨b,aq.bx _ _ ab I,J⟩
 | .row sz key n,v,ab,h=>by
  simp only[aJ,kin]at h ab⊢;obtain⟨I,J,n',u,au,aP,bA⟩:=h;obtain⟨gd,h9,f1,f2⟩:=aq.ow key n' u ab au;refine⟨I,J,gd,h9,f1,?_⟩;rcases f2 with⟨rfl,rfl⟩|f2
  ·exact⟨aP,bA⟩
  ·exact⟨Ω,fun e=>Ω⟩
 | .rptr sz key n i f,v,ab,h=>by
  simp only[aJ,kin]at h ab⊢;obtain⟨I,J,n',u,au,aP,bA⟩:=h;obtain⟨gd,h9,f1,f2⟩:=aq.ow key n' u ab au;refine⟨I,J,gd,h9,f1,?_⟩;rcases f2 with⟨rfl,rfl⟩|f2
  ·exact⟨aP,bA⟩
  ·exact⟨Ω,fun e=>Ω⟩
 | .hdm _ _,_,_,h=>by simp only[aJ]at h
 | .hdi _ _ _,_,_,h=>by simp only[aJ]at h
 | .cst c,_,_,h=>by simp only[aJ]at h⊢;exact h
theorem HV{S:aC->Prop}{w w':World}{ν ν':aQ}(aq:nR S w ν w' ν'):∀(cs:List ae) (us:List Value),kinL S cs->ck w ν cs us->ck w' ν' cs us
 |[],_,_,h=>by simp only[ck]at h⊢;exact h
 |c::cs,us,ab,h=>by simp only[ck,kinL]at h ab⊢;obtain⟨u,bE,I,J,au⟩:=h;exact⟨u,bE,I,⟨sb aq c u ab.1 J.1,J.2⟩,HV aq cs bE ab.2 au⟩
theorem B1{S:aC->Prop}{w w':World}{ν ν':aQ}(aq:nR S w ν w' ν'):∀(cs:List ae) (us:List Value),kinL S cs->cz w ν cs us->cz w' ν' cs us
 |[],_,_,h=>by simp only[cz]at h⊢;exact h
 |c::cs,us,ab,h=>by simp only[cz,kinL]at h ab⊢;obtain⟨u,bE,I,J,au⟩:=h;exact⟨u,bE,I,sb aq c u ab.1 J,B1 aq cs bE ab.2 au⟩
theorem HT{S:aC->Prop}{w w':World}{ν ν':aQ}(aq:nR S w ν w' ν')(sz:Nat):∀(xs:List ae) (us:List Value),kinL S xs->cV w ν sz xs us->cV w' ν' sz xs us
 |[],_,_,h=>by simp only[cV]at h⊢;exact h
 |x::xs,us,ab,h=>by simp only[cV,kinL]at h ab⊢;obtain⟨u,bE,I,⟨J,au,aP⟩,bA⟩:=h;exact⟨u,bE,I,⟨sb aq x u ab.1 J,au,aP⟩,HT aq sz xs bE ab.2 bA⟩
end
theorem M8{S:aC->Prop}{w w':World}{ν ν':aQ}(aq:nR S w ν w' ν'){cs:List ae}{us:List Value}(ab:kinL S cs)(h:iw w ν cs us):iw w' ν' cs us:=by
 unfold iw at h⊢;split
 ·simp only[kinL]at ab;exact⟨B1 aq _ _ ab.2 h.1,h.2⟩
 ·simp only[kinL]at ab;exact B1 aq _ _ ab.2 h
 ·rename_i I J;split at h
  ·exact absurd rfl (I _ _ _)
  ·exact absurd rfl (J _ _ _ _)
  ·exact HV aq _ _ ab h
section
variable {w w':World} {ν ν':aQ} (aq:mK w ν w' ν')
include aq
theorem wX{p:ae}{v:Value}(h:aJ w ν p v):aJ w' ν' p v:=sb aq p v (G6 p) h
theorem Wz{p:List ae}{v:List Value}(h:ck w ν p v):ck w' ν' p v:=HV aq p v (x4 p) h
theorem qn{p:List ae}{v:List Value}(h:iw w ν p v):iw w' ν' p v:=M8 aq (x4 p) h
theorem BX{sz:Nat}{p:List ae}{v:List Value}(h:cV w ν sz p v):cV w' ν' sz p v:=HT aq sz p v (x4 p) h
end
end
section
open Go Go.RowKit
def get(k:Nat):List (Nat×ae)->ae
 |[]=>.junk
 |(i,p)::r=>if i=k then p else get k r
def put(k:Nat)(p:ae):List (Nat×ae)->List (Nat×ae)
 |[]=>[(k,p)]
 |(i,q)::r=>if i=k then(i,p)::r else(i,q)::put k p r
def look{α:Type}(k:aC):List (aC×α)->aW α
 |[]=>none
 |(i,p)::r=>if i=k then some p else look k r
def dj{α:Type}(k:aC)(p:α):List (aC×α)->List (aC×α)
 |[]=>[(k,p)]
 |(i,q)::r=>if i=k then(i,p)::r else(i,q)::dj k p r
theorem get_put(k j:Nat)(p:ae):∀l,get j (put k p l)=if k=j then p else get j l
 |[]=>by simp[get,put]
 |(i,q)::r=>by
  by_cases h:i=k
  ·subst h;by_cases J:i=j<;>simp[get,put,J]
  ·by_cases J:i=j
   ·subst J;simp[get,put,h,Ne.symm h]
   ·simp[get,put,h,J,get_put k j p r]
theorem jK{α:Type}(k j:aC)(p:α):∀l,look j (dj k p l)=if k=j then some p else look j l
 |[]=>by simp[look,dj]
 |(i,q)::r=>by
  by_cases h:i=k
  ·subst h;by_cases J:i=j<;>simp[look,dj,J]
  ·by_cases J:i=j
   ·subst J;simp[look,dj,h,Ne.symm h]
   ·simp[look,dj,h,J,jK k j p r]
structure dn where
 n:Nat
 el:Nat
 sz:Nat
 xs:aW (List ae)
def Nn(w:World)(ν:aQ)(o:dn)(v:Value)(us:List Value):Prop:=∀xs,o.xs=some xs->xs.length=o.n/\cV w ν o.sz xs us/\∀bl,v.ownBlock=some bl->∀j,¬ν.A bl j
theorem sc{w w':World}{ν ν':aQ}(aq:mK w ν w' ν'){o:dn}{v:Value}{us:List Value}(bf:∀bl,v.ownBlock=some bl->∀j,ν'.A bl j->ν.A bl j)(h:Nn w ν o v us):Nn w' ν' o v us:=fun xs af=>⟨(h xs af).1,BX aq (h xs af).2.1,fun bl ah j ai=>(h xs af).2.2 bl ah j (bf bl ah j ai)⟩
def cw(S:aC->Prop)(o:dn):Prop:= ∀xs,o.xs=some xs->kinL S xs
structure aU where
 t:List (Nat×ae)
 b:List (aC×List ae)
 e:List (aC×dn)
 n:Nat
 o:List aC
def fresh(n:Nat)(o:List aC)(k:aC):Prop:=(match k with| .loc m=>n<=m| .obj _=>True)/\k∉o
theorem rR{n n':Nat}{o o':List aC}(aM:n<=n')(aq:∀k∈o,k∈o'){k:aC}(h:fresh n' o' k):fresh n o k:=by unfold fresh at h⊢;exact⟨by cases k<;>simp at h⊢;omega,fun ab=>h.2 (aq k ab)⟩
def yv(ν:aQ)(b:List (aC×List ae))(e:List (aC×dn))(bl:Nat):Prop:=(∃k,(look k b).isSome/\ν.bx k=some bl)\/(∃g n v,(look g e).isSome/\ν.ow g=some (n,v)/\v.ownBlock=some bl)
def E3:Nat:=106
def IA(k:aC):={el:fX//k= .obj 861->el=E3}
structure Good (pr:Nat->Prop) (w:World) (ν:aQ) (b:List (aC×List ae)) (e:List (aC×dn)):Prop where
 alt:∀bl o,ν.A bl o->bl<w.heap.size
 box:∀k cs,look k b=some cs->∃(bl:Nat) (us:Array Value) (el:IA k),ν.bx k=some bl/\pr bl/\(∀o,¬ν.A bl o)/\w.heap[bl]? =some (jr cs us el.1)/\iw w ν cs us.toList
 inj:∀k bn bl,(look k b).isSome->(look bn b).isSome->ν.bx k=some bl->ν.bx bn=some bl->k=bn
 own:∀g o,look g e=some o->∃v us,ν.ow g=some (o.n,v)/\w.ownsRow 0 o.el o.sz v o.n us/\(∀bl,v.ownBlock=some bl->pr bl/\(∀j,ν.A bl j->j<o.n*o.sz))/\Nn w ν o v us
 oinj:∀g et n n' v v' bl,(look g e).isSome->(look et e).isSome->ν.ow g=some (n,v)->ν.ow et=some (n',v')->v.ownBlock=some bl->v'.ownBlock=some bl->g=et
 obx:∀g k n v bl,(look g e).isSome->(look k b).isSome->ν.ow g=some (n,v)->v.ownBlock=some bl->ν.bx k=some bl->dr
 one:∀k,ν.bx k=none\/ν.ow k=none
 otr:∀bl,yv ν b e bl->∀k j,¬ν.tr k j bl
def xF:List (Nat×Nat×Nat×(Value->Prop)):=((List.range 20).map fun i=>(0,i,20,fun v=>v=oV .u64 ((10 ^ i:Nat):Int)))++[(1,0,1,fun v=> ∃t p,v=Value.iface t p),(2,0,1,fun v=> ∃t p,v=Value.iface t p)]
def oZ(w:World)(ν:aQ):Prop:= ∀x∈xF,ν.A x.1 x.2.1/\(∃v,w.cell? ⟨x.1,x.2.1,none⟩=some v/\x.2.2.2 v)/\∃el,shape w x.1=some (x.2.2.1,el)
structure eK where
 w0:World
 ν0:aQ
 mt:Nat->Prop
 N:Nat
 ob:List aC
 gl:oZ w0 ν0
 ex:List (ae×Value)
def eK.pr(C:eK)(bl:Nat):Prop:=C.mt bl\/C.w0.heap.size<=bl
def cY:aC:= .obj 990001
structure ox (C:eK) (w:World) (ν:aQ):Prop where
 os:w.os=C.w0.os
 tape:w.tape=C.w0.tape
 output:w.output=C.w0.output
 size:C.w0.heap.size<=w.heap.size
 block:∀k,k<C.w0.heap.size->¬C.mt k->w.heap[k]? =C.w0.heap[k]?
 keep:∀b o,C.ν0.A b o->ν.A b o/\w.cell? ⟨b,o,none⟩=C.w0.cell? ⟨b,o,none⟩
 fresh:∀b o,ν.A b o->C.ν0.A b o\/C.pr b
 obj:∀n b,C.ν0.bx (.obj n)=some b->ν.bx (.obj n)=some b
 obn:∀n b,C.ν0.bx (.obj n)=some b-> .obj n∈C.ob
 row:∀m n u,C.ν0.ow (.obj m)=some (n,u)->∃n' eJ,ν.ow (.obj m)=some (n',eJ)/\(n'=n/\eJ=u\/n<n')
 obr:∀m n u,C.ν0.ow (.obj m)=some (n,u)-> .obj m∈C.ob
 trd:∀k j bn eQ b,ν.tr k j b->ν.tr bn eQ b->k=bn/\j=eQ
 trb:∀k j b,ν.tr k j b->(k=cY\/C.w0.heap.size<=b)/\b<w.heap.size
 trn:∀k j b,ν.tr k j b->ν.bx k=none/\ν.ow k=none
 sh:∀b o,C.ν0.A b o->shape w b=shape C.w0 b
 nrow:∀j n u b,ν.ow (.loc j)=some (n,u)->u.ownBlock=some b->C.w0.heap.size<=b
theorem ox.gl{C:eK}{w:World}{ν:aQ}(h:ox C w ν):oZ w ν:=fun x af=>⟨(h.keep _ _ (C.gl x af).1).1,(C.gl x af).2.1.imp fun _ aN=>⟨(h.keep _ _ (C.gl x af).1).2.trans aN.1,aN.2⟩,(C.gl x af).2.2.imp fun _ aN=>(h.sh _ _ (C.gl x af).1).trans aN⟩
theorem EN{ν ν':aQ}{g:aC}{n:Nat}{u:Value}(h:∃n' eJ,ν.ow g=some (n',eJ)/\(n'=n/\eJ=u\/n<n'))(aq:∀n u,ν.ow g=some (n,u)->∃n' eJ,ν'.ow g=some (n',eJ)/\(n'=n/\eJ=u\/n<n')):
  ∃n' eJ,ν'.ow g=some (n',eJ)/\(n'=n/\eJ=u\/n<n'):=by
 obtain⟨hi,iK,ao,aL⟩:=h;obtain⟨gd,h9,f1,f2⟩:=aq hi iK ao;refine⟨gd,h9,f1,?_⟩;rcases aL with⟨rfl,rfl⟩|aL
 ·exact f2
 ·rcases f2 with⟨rfl,rfl⟩|f2
  ·exact .inr aL
  ·exact .inr Ω
structure cm (C:eK) (st:aU) (a:Act) (w:World) (ν:aQ):Prop where
 good:Good C.pr w ν st.b st.e
 fr:ox C w ν
 defers:a.defers=[]
 size:a.tmps.size=C.N
 slot:∀i,aJ w ν (get i st.t) (a.tmps.getD i undef)
 new:∀k,fresh st.n st.o k->ν.bx k=none/\ν.ow k=none/\∀j b,¬ν.tr k j b
 ext:∀x∈C.ex,aJ w ν x.1 x.2/\kin (fun k=>k∈C.ob) x.1
 obk:∀m∈C.ob,¬fresh st.n st.o m
def fE(d:aW Nat)(p:ae)(t:List (Nat×ae)):List (Nat×ae):=
 match d with
 |some d=>put d p t
 |none=>t
def hZ(N:Nat)(d:aW Nat):Bool:=match d with|some d=>decide (d<N)|none=>true
theorem cm.put{C:eK}{st:aU}{a:Act}{w:World}{ν:aQ}(h:cm C st a w ν){d:aW Nat}(aI:hZ C.N d=true){p:ae}{v:Value}(aV:aJ w ν p v):
  cm C {st with t:=fE d p st.t} (a.put d v) w ν:=by
 cases d with
 |none=>exact h
 |some d=>
  have b5:d<a.tmps.size:=by rw[h.size];simpa[hZ]using aI
  refine⟨h.good,h.fr,h.defers,by simpa[Act.put]using h.size,fun i=>?_,h.new,h.ext,h.obk⟩;simp only[fE,get_put];by_cases e:d=i
  ·subst e;simpa[Act.put,pO,b5]using aV
  ·have:=h.slot i;simpa[e,Act.put,pO,Array.getElem?_setIfInBounds_ne e]using this
theorem cm.over{C:eK}{st st':aU}{a:Act}{w w':World}{ν ν':aQ}(h:cm C st a w ν)(aq:mK w ν w' ν')(aE:st'.t=st.t)(aS:Good C.pr w' ν' st'.b st'.e)(aK:ox C w' ν')
  (aM:∀k,fresh st'.n st'.o k->ν'.bx k=none/\ν'.ow k=none/\∀j b,¬ν'.tr k j b) (dM:∀m,fresh st'.n st'.o m->fresh st.n st.o m:=by exact fun _ h=>h):cm C st' a w' ν':=
 ⟨aS,aK,h.defers,h.size,fun i=>by rw[aE];exact wX aq (h.slot i),aM,fun x af=>⟨wX aq (h.ext x af).1,(h.ext x af).2⟩,fun m hm aK=>h.obk m hm (dM m aK)⟩
inductive dm where
 |t (i:Nat)
 |c (p:ae)
 deriving Inhabited
def bP(t:List (Nat×ae)):dm->ae
 | .t i=>get i t
 | .c p=>p
def Ft:ae->Value->Bool
 | .int k n,.int bn n'=>decide (k=bn/\n=n')
 | .bool b,.bool gV=>b==gV
 | .str s,.string l=>decide (l.data.toList=s/\s.length<=aR)
 | .slice _ .nil [],.slice none 0 0=>true
 | .nilp,.pointer none=>true
 | .tuple [],.tuple ⟨[]⟩=>true
 | .func f [],.func (.func g) ⟨[]⟩ ⟨[]⟩=>decide (f=g/\f<1000000)
 | .junk,_=>true
 |_,_=>false
theorem Pg(w:World)(ν:aQ){p:ae}{v:Value}(h:Ft p v=true):aJ w ν p v:=by
 unfold Ft at h;split at h
 ·simp at h;obtain⟨rfl,rfl⟩:=h;simp[aJ]
 ·simp at h;subst h;simp[aJ]
 ·rename_i s l;simp at h;obtain⟨I,J⟩:=h;refine⟨?_,J⟩;subst I;simp
 ·simp only[aJ];refine⟨⟨none,0,rfl,Ψ,Ψ,Ψ⟩,Ψ,(fun _ h=>by cases h),(fun _ _ h=>by cases h),(fun _ h=>by cases h)⟩
 ·simp[aJ]
 ·simp[aJ,cz]
 ·simp at h;obtain⟨rfl,h⟩:=h;simp[aJ,cz,uS,h]
 ·simp[aJ]
 ·cases h
def Au:List ae->List Value->Bool
 |[],[]=>true
 |p::bj,v::vs=>Ft p v&&v.oneCell'&&Au bj vs
 |_,_=>false
def As:ae->Value->Bool
 | .agg cs,.agg us=>Au cs us.toList
 |p,v=>Ft p v
theorem Ph(w:World)(ν:aQ):∀(bj:List ae) (vs:List Value),Au bj vs=true->ck w ν bj vs
 |[],[],_=>by simp[ck]
 |[],_::_,h=>by simp[Au]at h
 |_::_,[],h=>by simp[Au]at h
 |p::bj,v::vs,h=>by simp only[Au,bJ]at h;simp only[ck];exact⟨v,vs,rfl,⟨Pg w ν h.1.1,h.1.2⟩,Ph w ν bj vs h.2⟩
theorem IU(w:World)(ν:aQ){p:ae}{v:Value}(h:As p v=true):aJ w ν p v:=by
 unfold As at h;split at h
 ·simp only[aJ];exact⟨_,rfl,Ph w ν _ _ h⟩
 ·exact Pg w ν h
def eC:dm->iX->Bool
 | .t i,.tmp j=>i==j
 | .c p,.const v=>As p v
 | .c (.func f []),.func g=>decide (f=g/\f<1000000)
 |_,_=>false
theorem eD{C:eK}{st:aU}{a:Act}{w:World}{ν:aQ}(h:cm C st a w ν){x:dm}{o:iX}(af:eC x o=true):aJ w ν (bP st.t x) (a.eval o):=by
 unfold eC at af;split at af
 ·simp at af;subst af;simpa[bP,Act.eval]using h.slot _
 ·simpa[bP,Act.eval]using IU w ν af
 ·simp at af;obtain⟨rfl,af⟩:=af;simp[bP,Act.eval,aJ,cz,uS,af]
 ·cases af
inductive CC where
 |int (k:IntKind)
 |bool
 |str
 |slice (e:Nat)
 |struct (ef:List (Nat×Nat))
 |map (k e:Nat)
 |other
 |iface
 deriving DecidableEq
structure dh where
 size:Nat
 bytes:Nat
 kind:CC
 zero:ae
def CC.isAgg:CC->Bool
 | .struct _=>true
 |_=>false
def Cn:List ae->List Value->Bool
 |[],[]=>true
 |p::bj,v::vs=>As p v&&v.oneCell'&&Cn bj vs
 |_,_=>false
def Ag:ae->Value->Bool
 | .agg cs,.agg us=>Cn cs us.toList
 | .agg _,_=>false
 |p,v=>As p v&&v.oneCell'
def mi:CC->TypeDesc->Bool
 | .int k,.int bn=>decide (k=bn)
 | .bool,.bool=>true
 | .str,.string=>true
 | .slice e,.slice hg=>e==hg
 | .struct ef,.struct gs=>decide (gs.toList.map (fun f=>(f.offset,f.type))=ef)
 | .map k e,.map bn hg=>k==bn&&e==hg
 | .iface,.interface _=>true
 | .other,d=>match d with| .struct _| .array _ _| .int _| .bool| .string| .slice _=>false|_=>true
 |_,_=>false
def RC(P:bS)(gs:Array Field):Bool:=gs.toList.all fun f=>match P.underlying f.type with|some (.int _)=>true|some .string=>true|_=>false
def Qu(P:bS)(t:Nat)(gs:Array Field):Bool:=gs.toList.all (fun f=>f.name != "_")&& !P.stoodInHeld t&& !P.eqGuardType P.depth t
def Jy(P:bS)(t:Nat):TypeDesc->Bool
 | .struct gs=> !RC P gs||Qu P t gs
 |_=>true
def N0(P:bS)(t:Nat)(f:dh):Bool:=
 match P.info? t,P.underlying t with
 |some i,some d=>Jy P t d&&i.size==f.size&&i.bytes==f.bytes&&mi f.kind d&&(match i.zero with|some z=>Ag f.zero z&&z.cells.size==f.size|none=>false)
 |_,_=>false
def eW(P:bS)(bk:List (Nat×dh)):Bool:=(bk.all fun x=>N0 P x.1 x.2)&&decide (P.funcs.size<=1000000)
theorem eW.sz{P:bS}{bk:List (Nat×dh)}(h:eW P bk=true):P.funcs.size<=1000000:=by unfold eW at h;rw[bJ,fs]at h;exact h.2
def eh(bk:List (Nat×dh))(t:Nat):aW dh:=(bk.find? fun x=>x.1==t).map (·.2)
theorem akd{P:bS}{bk:List (Nat×dh)}(h:eW P bk=true){t:Nat}{f:dh}(aK:eh bk t=some f):N0 P t f=true:=by
 unfold eh at aK;cases af:bk.find? fun x=>x.1==t with
 |none=>simp[af]at aK
 |some x=>simp[af]at aK;have I:=List.find?_some af;simp at I;have J:=List.mem_of_find?_eq_some af;have au:=ji.1 (by unfold eW at h;rw[bJ]at h;exact h.1) x J;rw[<-aK,<-I];exact au
structure YK (P:bS) (t:Nat) (f:dh):Prop where
 cmp:∀d,P.underlying t=some d->Jy P t d=true
 ex:∃i d z,P.info? t=some i/\P.underlying t=some d/\i.size=f.size/\i.bytes=f.bytes/\mi f.kind d=true/\i.zero=some z/\Ag f.zero z=true/\z.cells.size=f.size
theorem vu{P:bS}{bk:List (Nat×dh)}(h:eW P bk=true){t:Nat}{f:dh}(aK:eh bk t=some f):YK P t f:=by
 have h:=akd h aK;unfold N0 at h;split at h
 ·rename_i i d I J;simp only[bJ,eA]at h;obtain⟨⟨⟨⟨bz,au⟩,aP⟩,bA⟩,cy⟩:=h;split at cy
  ·rename_i z cK;simp only[bJ,eA]at cy;exact⟨fun kL p6=>by rw[J]at p6;cases p6;exact bz,i,d,z,I,J,au,aP,bA,cK,cy.1,cy.2⟩
  ·cases cy
 ·cases h
theorem o6(b o j:Nat):(⟨b,o,none⟩:Addr).add j=⟨b,o+j,none⟩:=by
 unfold Addr.add;split
 ·rename_i h;subst h;rfl
 ·rfl
theorem Ow(w:World)(ν:aQ):∀(bj:List ae) (vs:List Value),Cn bj vs=true->ck w ν bj vs
 |[],[],_=>by simp[ck]
 |[],_::_,h=>by simp[Cn]at h
 |_::_,[],h=>by simp[Cn]at h
 |p::bj,v::vs,h=>by simp only[Cn,bJ]at h;simp only[ck];exact⟨v,vs,rfl,⟨IU w ν h.1.1,h.1.2⟩,Ow w ν bj vs h.2⟩
def cells:ae->List ae
 | .agg cs=>cs
 |p=>[p]
def eV:ae->Bool
 | .junk| .tuple _=>false
 | .cst (.slice _ _ _)| .cst (.string _)=>true
 | .cst _=>false
 |_=>true
theorem Ng{w:World}{ν:aQ}{p:ae}{v:Value}(h:aJ w ν p v)(az:eV p=true)(bL:∀cs,p≠ .agg cs):v.oneCell'=true/\v.cells= #[v]:=by
 cases p<;>simp only[aJ,eV]at h az;case junk=>cases az
 case tuple=>cases az
 case cst c=>subst h;cases v<;>first|exact⟨rfl,rfl⟩|cases az
 case agg cs=>exact absurd rfl (bL cs)
 case int=>subst h;exact⟨rfl,rfl⟩
 case bool=>subst h;exact⟨rfl,rfl⟩
 case str=>rw[h.1];exact⟨rfl,rfl⟩
 case slice=>obtain⟨⟨a,cap,I,_⟩,_⟩:=h;subst I;exact⟨rfl,rfl⟩
 case ptr=>obtain⟨b,_,I⟩:=h;subst I;exact⟨rfl,rfl⟩
 case eptr=>obtain⟨b,o,u,I,_⟩:=h;subst I;exact⟨rfl,rfl⟩
 case iface=>obtain⟨u,I,_⟩:=h;subst I;exact⟨rfl,rfl⟩
 case nilp=>subst h;exact⟨rfl,rfl⟩
 case func=>obtain⟨us,I,_⟩:=h;subst I;unfold uS;split<;>exact⟨rfl,rfl⟩
 case gmap=>obtain⟨b,_,I⟩:=h;subst I;exact⟨rfl,rfl⟩
 case row=>obtain⟨⟨a,cap,I⟩,_⟩:=h;subst I;exact⟨rfl,rfl⟩
 case rptr=>obtain⟨⟨a,o,I⟩,_⟩:=h;subst I;exact⟨rfl,rfl⟩
theorem wW{w:World}{ν:aQ}{p:ae}{v:Value}(h:aJ w ν p v)(az:eV p=true):ck w ν (cells p) v.cells.toList:=by
 by_cases bL:∃cs,p= .agg cs
 ·obtain⟨cs,rfl⟩:=bL;simp only[aJ]at h;obtain⟨us,rfl,J⟩:=h;simpa[cells,nO]using J
 ·have A4:∀cs,p≠ .agg cs:=fun cs e=>bL ⟨cs,e⟩;obtain⟨I,J⟩:=Ng h az A4;have aH:cells p=[p]:=by cases p<;>first|rfl|exact absurd rfl (A4 _)
  rw[aH,J];simp only[ck];exact⟨v,[],rfl,⟨h,I⟩,rfl⟩
theorem BZ{w:World}{ν:aQ}:∀{bj:List ae} {vs:List Value},ck w ν bj vs->∀c∈vs,c.oneCell'=true
 |[],vs,h=>by simp only[ck]at h;subst h;simp
 |p::bj,vs,h=>by
  simp only[ck]at h;obtain⟨u,bE,rfl,I,J⟩:=h;intro c aH;rcases gy.1 aH with rfl|aH
  ·exact I.2
  ·exact BZ J c aH
theorem qo{w:World}{ν:aQ}:∀{bj:List ae} {vs:List Value},ck w ν bj vs->vs.length=bj.length
 |[],vs,h=>by simp only[ck]at h;subst h;rfl
 |p::bj,vs,h=>by simp only[ck]at h;obtain⟨u,bE,rfl,_,J⟩:=h;simp[qo J]
theorem BY{w:World}{ν:aQ}:∀(n:Nat) {bj:List ae} {vs:List Value},ck w ν bj vs->ck w ν (bj.drop n) (vs.drop n)
 |0,_,_,h=>by simpa using h
 |n+1,[],vs,h=>by simp only[ck]at h;subst h;simp[ck]
 |n+1,p::bj,vs,h=>by simp only[ck]at h;obtain⟨u,bE,rfl,_,J⟩:=h;simpa using BY n J
theorem EJ{w:World}{ν:aQ}:∀(n:Nat) {bj:List ae} {vs:List Value},ck w ν bj vs->ck w ν (bj.take n) (vs.take n)
 |0,_,_,_=>by simp[ck]
 |n+1,[],vs,h=>by simp only[ck]at h;subst h;simp[ck]
 |n+1,p::bj,vs,h=>by simp only[ck]at h;obtain⟨u,bE,rfl,I,J⟩:=h;simp only[sK,ck];exact⟨u,_,rfl,I,EJ n J⟩
theorem zR{w:World}{ν:aQ}:∀{bj bF:List ae} {vs us:List Value},ck w ν bj vs->ck w ν bF us->ck w ν (bj++bF) (vs++us)
 |[],bF,vs,us,h,cu=>by simp only[ck]at h;subst h;simpa using cu
 |p::bj,bF,vs,us,h,cu=>by simp only[ck]at h;obtain⟨u,bE,rfl,I,J⟩:=h;simp only[dF,ck];exact⟨u,_,rfl,I,zR J cu⟩
theorem EI{w:World}{ν:aQ}:∀(n:Nat) {bj:List ae} {vs:List Value} {p:ae},ck w ν bj vs->bj[n]? =some p->∃v,vs[n]? =some v/\aJ w ν p v/\v.oneCell'=true
 |n,[],_,p,_,aV=>by simp at aV
 |0,q::bj,vs,p,h,aV=>by simp only[ck]at h;obtain⟨u,bE,rfl,I,_⟩:=h;simp at aV;subst aV;exact⟨u,rfl,I.1,I.2⟩
 |n+1,q::bj,vs,p,h,aV=>by simp only[ck]at h;obtain⟨u,bE,rfl,_,J⟩:=h;simpa using EI n J (by simpa using aV)
theorem B0{w:World}{ν:aQ}:∀(n:Nat) {bj:List ae} {vs:List Value} {p:ae},cz w ν bj vs->bj[n]? =some p->∃v,vs[n]? =some v/\aJ w ν p v
 |n,[],_,p,_,aV=>by simp at aV
 |0,q::bj,vs,p,h,aV=>by simp only[cz]at h;obtain⟨u,bE,rfl,I,_⟩:=h;simp at aV;subst aV;exact⟨u,rfl,I⟩
 |n+1,q::bj,vs,p,h,aV=>by simp only[cz]at h;obtain⟨u,bE,rfl,_,J⟩:=h;simpa using B0 n J (by simpa using aV)
theorem u9{w:World}{A:Nat->Nat->Prop}{b:Nat}:∀{us:List Value} {off j:Nat} {u:Value},kg w A b off us->us[j]? =some u->A b (off+j)/\w.cell? ⟨b,off+j,none⟩=some u
 |[],_,_,_,_,h=>by simp at h
 |x::us,off,0,u,aD,h=>by simp at h;subst h;exact aD.1
 |x::us,off,j+1,u,aD,h=>by have:=u9 (j:=j) aD.2 (by simpa using h);rwa[show off+1+j=off+(j+1)from by omega]at this
theorem G8{w:World}{A:Nat->Nat->Prop}{b:Nat}:∀(n:Nat) {us:List Value} {off:Nat},kg w A b off us->kg w A b (off+n) (us.drop n)
 |0,_,_,h=>by simpa using h
 |n+1,[],_,_=>by simp[kg]
 |n+1,x::us,off,h=>by have:=G8 n h.2;rw[show off+(n+1)=off+1+n from by omega];simpa using this
theorem G9{w:World}{A:Nat->Nat->Prop}{b:Nat}:∀(n:Nat) {us:List Value} {off:Nat},kg w A b off us->kg w A b off (us.take n)
 |0,_,_,_=>by simp[kg]
 |n+1,[],_,_=>by simp[kg]
 |n+1,x::us,off,h=>by simp only[sK];exact⟨h.1,G9 n h.2⟩
theorem WT{P:bS}{w:World}{A:Nat->Nat->Prop}{b off:Nat}{us:List Value}(h:kg w A b off us):(loadCells ⟨b,off,none⟩ us.length).run P w= .ok us.toArray w:=run_loadCells_list w _ us fun j v ai=>by rw[o6];exact(u9 h ai).2
theorem ajo{P:bS}{w:World}{b off n:Nat}{us:Array Value}{el:fX}{fr:Nat×Nat}(h:w.heap[b]? =some (.cells us el fr))(aM:off+n<=us.size):
  (loadCells ⟨b,off,none⟩ n).run P w= .ok ((us.toList.drop off).take n).toArray w:=by
 have aD:((us.toList.drop off).take n).length=n:=by simp;omega
 have:=run_loadCells_list (P:=P) w ⟨b,off,none⟩ ((us.toList.drop off).take n) fun j v ai=>by
  rw[o6];have aeq:j<n:=by have:=(fo.1 ai).1;omega
  simp only[World.cell?,h,uu,kG,if_false];rw[List.getElem?_take]at ai;simpa[aeq]using ai
 rw[aD]at this;exact this
theorem QP{α:Type}(l r:List α)(n sz:Nat)(h:l.length=sz):(l++r).drop ((n+1)*sz)=r.drop (n*sz):=by
 have e:(n+1)*sz=l.length+n*sz:=by rw[h,Nat.succ_mul,Nat.add_comm]
 rw[e,<-List.drop_drop];simp
theorem Xs{α:Type}(l r:List α)(n sz:Nat)(h:l.length=sz):(l++r).take ((n+1)*sz)=l++r.take (n*sz):=by
 have e:(n+1)*sz=l.length+n*sz:=by rw[h,Nat.succ_mul,Nat.add_comm]
 rw[e,List.take_length_add_append]
theorem HS{w:World}{ν:aQ}{sz:Nat}:∀(i:Nat) {xs:List ae} {us:List Value} {p:ae},cV w ν sz xs us->xs[i]? =some p->
  ∃u,aJ w ν p u/\u.cells.size=sz/\u.cells.toList=(us.drop (i*sz)).take sz
 |i,[],_,p,_,aV=>by simp at aV
 |0,x::xs,us,p,h,aV=>by
  simp only[cV]at h;obtain⟨u,bE,rfl,⟨I,J,au⟩,_⟩:=h;simp at aV;subst aV;refine⟨u,I,J,?_⟩;have:u.cells.toList.length=sz:=by simpa using J
  simp[<-this]
 |i+1,x::xs,us,p,h,aV=>by
  simp only[cV]at h;obtain⟨u,bE,rfl,⟨_,J,_⟩,bA⟩:=h;obtain⟨v,g1,g2,g3⟩:=HS i bA (by simpa using aV);refine⟨v,g1,g2,?_⟩;have:u.cells.toList.length=sz:=by simpa using J
  rw[g3,QP _ _ _ _ this]
theorem rf{w:World}{ν:aQ}{sz:Nat}:∀{xs:List ae} {us:List Value},cV w ν sz xs us->us.length=xs.length*sz
 |[],us,h=>by simp only[cV]at h;subst h;simp
 |x::xs,us,h=>by
  simp only[cV]at h;obtain⟨u,bE,rfl,⟨_,J,_⟩,bA⟩:=h;have:u.cells.toList.length=sz:=by simpa using J
  rw[gx,this,rf bA,gg,Nat.succ_mul];omega
theorem zQ{w:World}{ν:aQ}{sz:Nat}:∀{xs:List ae} {us:List Value},cV w ν sz xs us->∀c∈us,c.oneCell'=true
 |[],us,h=>by simp only[cV]at h;subst h;simp
 |x::xs,us,h=>by
  simp only[cV]at h;obtain⟨u,bE,rfl,⟨_,_,au⟩,bA⟩:=h;intro c aH;rcases hl.1 aH with aH|aH
  ·exact au c aH
  ·exact zQ bA c aH
theorem BW{w:World}{ν:aQ}{sz:Nat}:∀{bj bF:List ae} {vs us:List Value},cV w ν sz bj vs->cV w ν sz bF us->cV w ν sz (bj++bF) (vs++us)
 |[],bF,vs,us,h,cu=>by simp only[cV]at h;subst h;simpa using cu
 |p::bj,bF,vs,us,h,cu=>by simp only[cV]at h;obtain⟨u,bE,rfl,I,J⟩:=h;simp only[dF,cV];exact⟨u,bE++us,Ψ,I,BW J cu⟩
theorem Wu{w:World}{ν:aQ}{sz:Nat}:∀(n:Nat) {xs:List ae} {us:List Value},cV w ν sz xs us->cV w ν sz (xs.drop n) (us.drop (n*sz))
 |0,_,_,h=>by simpa using h
 |n+1,[],us,h=>by simp only[cV]at h;subst h;simp[cV]
 |n+1,x::xs,us,h=>by
  simp only[cV]at h;obtain⟨u,bE,rfl,⟨_,J,_⟩,bA⟩:=h;have:u.cells.toList.length=sz:=by simpa using J
  rw[QP _ _ _ _ this];simpa using Wu n bA
theorem Wy{w:World}{ν:aQ}{sz:Nat}:∀(n:Nat) {xs:List ae} {us:List Value},cV w ν sz xs us->cV w ν sz (xs.take n) (us.take (n*sz))
 |0,_,_,_=>by simp[cV]
 |n+1,[],us,h=>by simp only[cV]at h;subst h;simp[cV]
 |n+1,x::xs,us,h=>by
  simp only[cV]at h;obtain⟨u,bE,rfl,⟨I,J,au⟩,bA⟩:=h;have:u.cells.toList.length=sz:=by simpa using J
  simp only[sK,cV];refine⟨u,bE.take (n*sz),?_,⟨I,J,au⟩,Wy n bA⟩;rw[Xs _ _ _ _ this]
def isAgg(sz:Nat)(p:ae):Prop:= ∃cs,p= .agg cs/\cs.length=sz
def zT(agg:Bool)(sz dL n i f:Nat):aW dn->aW (Prop×ae)
 |some ⟨n',_,iz,some xs⟩=>if n'=n/\iz=dL then
   (match xs[i]? with
    |some p=>if agg then some (eV p=true/\f+sz<=(cells p).length,.agg (((cells p).drop f).take sz))else((cells p)[f]?).map fun q=>(eV p=true,q)
    |none=>none)else none
 |_=>none
def nG(b:List (aC×List ae))(e:List (aC×dn))(agg:Bool)(sz:Nat):ae->aW (Prop×ae)
 | .rptr dL k n i f=>zT agg sz dL n i f (look k e)
 | .ptr k off=>
  match look k b with
  |some cs=>if agg then some (gO cs=true/\off+sz<=cs.length,.agg ((cs.drop off).take sz))else(cs[off]?).map fun p=>(gO cs=true,p)
  |none=>none
 | .eptr p=>if agg then some (isAgg sz p,p)else some (eV p=true/\cells p=[p],p)
 |_=>none
def C5(agg:Bool)(sz:Nat):ae->aW (Prop×ae)
 | .eptr p=>if agg then some (isAgg sz p,p)else some (eV p=true/\cells p=[p],p)
 |_=>none
theorem acD{b:List (aC×List ae)}{e:List (aC×dn)}{agg:Bool}{sz:Nat}{p:ae}{r:Prop×ae}(h:C5 agg sz p=some r):nG b e agg sz p=some r:=by
 cases p<;>simp only[C5]at h<;>first|cases h;done|skip
 simpa only[nG]using h
theorem agc{b:List (aC×List ae)}{e:List (aC×dn)}{agg:Bool}{sz:Nat}{p:ae}{r:Prop×ae}(h:nG b [] agg sz p=some r):nG b e agg sz p=some r:=by cases p<;>simp only[nG]at h⊢ <;>first|exact h|(simp[look,zT]at h)
def pf(off:Nat)(agg:Bool)(sz:Nat):ae->aW (Prop×ae)
 | .ptr k o=>some (True,.ptr k (o+off))
 | .rptr dL k n i f=>some (True,.rptr dL k n i (f+off))
 | .eptr (.agg cs)=>if agg then some (off+sz<=cs.length,.eptr (.agg ((cs.drop off).take sz)))else(cs[off]?).map fun p=>(eV p=true/\cells p=[p],.eptr p)
 |_=>none
def s3(off:Nat)(agg:Bool)(sz:Nat):ae->aW (Prop×ae)
 | .agg cs=>if agg then some (off+sz<=cs.length,.agg ((cs.drop off).take sz))else(cs[off]?).map fun p=>(True,p)
 |_=>none
def Bj(sz:Nat):ae->ae->aW (Prop×ae)
 | .slice dL _ xs,.int _ i=>if dL=sz then some (0<=i/\i<xs.length,.eptr (xs.getD i.toNat .junk))else none
 | .row dL k n,.int _ i=>if dL=sz then some (0<=i/\i<n,.rptr dL k n i.toNat 0)else none
 |_,_=>none
def Ic:ae->ae->aW (Prop×ae)
 | .str s,.int _ i=>some (0<=i/\i<s.length,.int .u8 (s.getD i.toNat 0).toNat)
 |_,_=>none
def r7(FI:Int):aW ae->aW Int
 |none=>some FI
 |some (.int _ i)=>some i
 |_=>none
def Ig(x:ae)(lo aw:aW ae):aW (Prop×ae):=
 match x with
 | .str s=>match r7 0 lo,r7 s.length aw with
  |some l,some h=>some (0<=l/\l<=h/\h<=s.length,.str ((s.take h.toNat).drop l.toNat))
  |_,_=>none
 |_=>none
def He(sz:Nat)(x:ae)(lo aw:aW ae):aW (Prop×ae):=
 match x with
 | .slice dL _ xs=>if dL=sz then match r7 0 lo,r7 xs.length aw with
  |some l,some h=>some (0<=l/\l<=h/\h<=xs.length,.slice sz .no ((xs.take h.toNat).drop l.toNat))
  |_,_=>none else none
 |_=>none
def aY(n:Int):Prop:= -9223372036854775808<=n/\n<=9223372036854775807
def Bm(op:BinOp)(wr:Bool)(k:IntKind)(a b:Int):aW (Prop×ae):=
 match op with
 | .add=>if wr then some (True,.int k (k.wrap (a+b)))else some (k= .i64/\aY (a+b),.int .i64 (a+b))
 | .sub=>if wr then some (True,.int k (k.wrap (a-b)))else some (k= .i64/\aY (a-b),.int .i64 (a-b))
 | .mul=>if wr then some (True,.int k (k.wrap (a*b)))else some (k= .i64/\aY (a*b),.int .i64 (a*b))
 | .quo=>some (b≠0,.int k (k.wrap (a.tdiv b)))
 | .rem=>some (b≠0,.int k (a.tmod b))
 | .eql=>some (True,.bool (a==b))
 | .neq=>some (True,.bool (a !=b))
 | .lss=>some (True,.bool (decide (a<b)))
 | .leq=>some (True,.bool (decide (a<=b)))
 | .gtr=>some (True,.bool (decide (b<a)))
 | .geq=>some (True,.bool (decide (b<=a)))
 | .and=>some (True,.int k (k.wrap (BitVec.ofInt k.bits a&&& BitVec.ofInt k.bits b).toNat))
 | .or=>some (True,.int k (k.wrap (BitVec.ofInt k.bits a|||BitVec.ofInt k.bits b).toNat))
 | .xor=>some (True,.int k (k.wrap (BitVec.ofInt k.bits a ^^^ BitVec.ofInt k.bits b).toNat))
 |_=>none
def Ih(op:BinOp)(a b:List aj):aW (Prop×ae):=
 match op with
 | .add=>some (a.length+b.length<=aR,.str (a++b))
 | .eql=>some (True,.bool (a==b))
 | .neq=>some (True,.bool (!(a==b)))
 | .lss=>some (True,.bool (Op.bytesLess a b))
 | .leq=>some (True,.bool (Op.bytesLess a b||a==b))
 | .gtr=>some (True,.bool (!(Op.bytesLess a b||a==b)))
 | .geq=>some (True,.bool (!Op.bytesLess a b))
 |_=>none
def mg(op:BinOp)(wr:Bool):ae->ae->aW (Prop×ae)
 | .int k a,.int bn b=>match op with
  | .shl=>some (0<=b,.int k (k.wrap (a*2 ^ (min b.toNat k.bits))))
  | .shr=>some (0<=b,.int k (a.fdiv (2 ^ (min b.toNat k.bits))))
  |_=>if k=bn then Bm op wr k a b else none
 | .str a,.str b=>Ih op a b
 |_,_=>none
def nL(cs:List ae)(off:Nat)(bj:List ae):List ae:=cs.take off++bj++cs.drop (off+bj.length)
def vL(t:List (Nat×ae)):List ae->List (Nat×Nat×dm)->aW (Prop×List ae)
 |cs,[]=>some (True,cs)
 |cs,(off,sz,x)::r=>
  let p:=bP t x
  match vL t (nL cs off (cells p)) r with
  |some (c,cs')=>some ((eV p=true/\(cells p).length=sz/\off+sz<=cs.length)/\c,cs')
  |none=>none
def HE(c x y:ae):aW (Prop×ae):=
 match c with
 | .bool b=>match x,y with
  | .bool u,.bool v=>some (True,.bool (cond b u v))
  |p,q=>match b with
   |true=>some (True,p)
   |false=>some (True,q)
 |_=>none
def Hr:ae->aW (Prop×ae)
 | .bool b=>some (True,.bool (!b))
 |_=>none
def Hm:ae->aW (Prop×ae)
 | .int k n=>some (True,.int k (k.wrap (0-n)))
 |_=>none
def FX(i:Nat):ae->aW (Prop×ae)
 | .tuple vs=>(vs[i]?).map fun p=>(True,p)
 |_=>none
def Bv:ae->aW (Prop×ae)
 | .slice _ _ xs=>some (True,.int .i64 xs.length)
 | .row _ _ n=>some (True,.int .i64 n)
 | .cst (.slice _ n _)=>some (True,.int .i64 n)
 |_=>none
def EV:ae->aW (Prop×ae)
 | .str s=>some (True,.int .i64 s.length)
 | .cst (.string s)=>some (True,.int .i64 s.size)
 |_=>none
def FF(k:IntKind):ae->aW (Prop×ae)
 | .int _ n=>some (True,.int k (k.wrap n))
 |_=>none
def pZ:List ae->aW (List aj)
 |[]=>some []
 | .int .u8 n::r=>(pZ r).map (oW n.toNat:: ·)
 |_=>none
def Fo:ae->aW (Prop×ae)
 | .slice _ _ xs=>(pZ xs).map fun s=>(True,.str s)
 |_=>none
def GY(neg:Bool):ae->aW (Prop×ae)
 | .iface _ _=>some (True,.bool neg)
 | .cst .nilIface=>some (True,.bool (!neg))
 |_=>none
def BD:ae->aW (Prop×ae)
 | .ptr k o=>some (True,.ptr k o)
 | .eptr p=>some (True,.eptr p)
 | .func f cs=>some (True,.func f cs)
 |_=>none
def Hi:ae->ae->aW (Prop×ae)
 | .int k a,.int bn b=>if k=bn then some (True,.int k (if b<a then b else a))else none
 |_,_=>none
def lx:List Bool->List ae->List ae->aW Bool
 |[],[],[]=>some true
 |false::r,.int k a::as,.int bn b::e4=>if k=bn then(lx r as e4).map fun q=>(a==b)&&q else none
 |true::r,.str a::as,.str b::e4=>(lx r as e4).map fun q=>(a==b)&&q
 |_,_,_=>none
inductive kJ where
 |i
 |s
 |a (ef:List Bool)
 deriving DecidableEq
def wF:kJ->ae->ae->aW Bool
 | .i,.int k a,.int bn b=>if k=bn then some (a==b)else none
 | .s,.str a,.str b=>some (a==b)
 | .a ef,.agg as,.agg e4=>lx ef as e4
 |_,_,_=>none
def zD:kJ->ae->Bool
 | .a ef,.agg as=>(lx ef as as).isSome
 | .a _,_=>false
 |_,_=>true
@[simp]theorem Ue(k:ae):zD .i k=true:=by cases k<;>rfl
@[simp]theorem Uf(k:ae):zD .s k=true:=by cases k<;>rfl
def vd(cg:kJ)(k:ae):List ae->aW (aW ae)
 |bn::v::r=>match wF cg k bn with
  |some true=>some (some v)
  |some false=>vd cg k r
  |none=>none
 |_=>some none
def pD(b:aC->aW (List ae))(cg:kJ)(zero:ae)(ok:Bool)(x k:ae):aW (Prop×ae):=
 match x with
 | .gmap key=>match b key with
  |some (.hdm _ _::kvs)=>if zD cg k=false then none else match vd cg k kvs with
   |some (some v)=>some (True,if ok then .tuple [v,.bool true]else v)
   |some none=>some (True,if ok then .tuple [zero,.bool false]else zero)
   |none=>none
  |_=>none
 |_=>none
def wK(b:aC->aW (List ae))(x:ae):aW (Prop×ae):=
 match x with
 | .gmap key=>match b key with
  |some (.hdm _ borns::_)=>some (True,.int .i64 borns.length)
  |_=>none
 |_=>none
def Fq(neg:Bool):aW (List Bool)->ae->ae->aW (Prop×ae)
 |none,.bool a,.bool b=>some (True,.bool (if neg then a !=b else a==b))
 |some ef,.agg as,.agg e4=>(lx ef as e4).map fun q=>(True,.bool (if neg then !q else q))
 |_,_,_=>none
def Hg:ae->ae->aW (Prop×ae)
 | .int k a,.int bn b=>if k=bn then some (True,.int k (if a<b then b else a))else none
 |_,_=>none
def wL(cg:kJ)(k v:ae):List ae->aW (aW (List ae))
 |bn::v'::r=>match wF cg k bn with
  |some true=>some (some (k::v::r))
  |some false=>match wL cg k v r with
   |some (some cZ)=>some (some (bn::v'::cZ))
   |some none=>some none
   |none=>none
  |none=>none
 |_=>some none
def pC(n:Nat):List Nat->List ae->aW ae
 |b::e4,k::v::r=>if b=n then some (.tuple [k,v])else pC n e4 r
 |_,_=>none
def vc(b:aC->aW (List ae))(x:ae):aW (Prop×ae):=
 match x with
 | .ptr hU 0=>match b hU with
  |some [.hdi _ seen last,.gmap mk]=>match b mk with
   |some (.hdm clock borns::kvs)=>match seen.getLast? with
    |some n=>(pC n borns kvs).map fun p=>(clock=last,p)
    |none=>none
   |_=>none
  |_=>none
 |_=>none
theorem UK{f g:aC->aW (List ae)}(h:∀k,f k≠none->g k=f k){cg:kJ}{zero:ae}{ok:Bool}{x k:ae}{r:Prop×ae}(he:pD f cg zero ok x k=some r):pD g cg zero ok x k=some r:=by
 unfold pD at he⊢;split at he
 ·rename_i key;cases aK:f key with
  |none=>simp[aK]at he
  |some cs=>rw[h key (by rw[aK];simp),aK];rw[aK]at he;exact he
 ·cases he
theorem agt{f g:aC->aW (List ae)}(h:∀k,f k≠none->g k=f k){x:ae}{r:Prop×ae}(he:wK f x=some r):wK g x=some r:=by
 unfold wK at he⊢;split at he
 ·rename_i key;cases aK:f key with
  |none=>simp[aK]at he
  |some cs=>rw[h key (by rw[aK];simp),aK];rw[aK]at he;exact he
 ·cases he
theorem agn{f g:aC->aW (List ae)}(h:∀k,f k≠none->g k=f k){x:ae}{r:Prop×ae}(he:vc f x=some r):vc g x=some r:=by
 unfold vc at he⊢;split at he
 ·rename_i hU;cases aK:f hU with
  |none=>simp[aK]at he
  |some cs=>
   simp only[h hU (by rw[aK];simp),aK]at he⊢;split at he
   ·rename_i since seen last mk dc;cases jH:f mk with
    |none=>simp[jH]at he
    |some ds=>simp only[h mk (by rw[jH];simp),jH]at he⊢;exact he
   ·cases he
 ·cases he
inductive gC where
 |mov (x:dm)
 |pick (c x y:dm)
 |load (agg:Bool) (sz:Nat) (x:dm)
 |faddr (off:Nat) (agg:Bool) (sz:Nat) (x:dm)
 |fld (off:Nat) (agg:Bool) (sz:Nat) (x:dm)
 |iaddr (sz:Nat) (x i:dm)
 |sidx (x i:dm)
 |ssl (x:dm) (lo aw:aW dm)
 |lsl (sz:Nat) (x:dm) (lo aw:aW dm)
 |bin (op:BinOp) (wr:Bool) (x y:dm)
 |notB (x:dm)
 |neg (x:dm)
 |conv (k:IntKind) (x:dm)
 |ext (i:Nat) (x:dm)
 |len (x:dm)
 |slen (x:dm)
 |build (zero:List ae) (parts:List (Nat×Nat×dm))
 |nck (x:dm)
 |min2 (x y:dm)
 |mkf (n:Nat) (xs:List dm)
 |mget (cg:kJ) (zero:ae) (ok:Bool) (x k:dm)
 |ment (x:dm)
 |mlen (x:dm)
 |beq (neg:Bool) (ef:aW (List Bool)) (x y:dm)
 |max2 (x y:dm)
 |mkif (t:Nat) (x:dm)
 |loadB (agg:Bool) (sz:Nat) (x:dm)
 |mgetB (cg:kJ) (zero:ae) (ok:Bool) (x k:dm)
 |loadZ (agg:Bool) (sz:Nat) (x:dm)
 |b2s (x:dm)
 |isn (neg:Bool) (x:dm)
def hk(st:aU):gC->aW (Prop×ae)
 | .mov x=>some (True,bP st.t x)
 | .pick c x y=>HE (bP st.t c) (bP st.t x) (bP st.t y)
 | .load agg sz x=>nG st.b st.e agg sz (bP st.t x)
 | .faddr off agg sz x=>pf off agg sz (bP st.t x)
 | .fld off agg sz x=>s3 off agg sz (bP st.t x)
 | .iaddr sz x i=>Bj sz (bP st.t x) (bP st.t i)
 | .sidx x i=>Ic (bP st.t x) (bP st.t i)
 | .ssl x lo aw=>Ig (bP st.t x) (lo.map (bP st.t)) (aw.map (bP st.t))
 | .lsl sz x lo aw=>He sz (bP st.t x) (lo.map (bP st.t)) (aw.map (bP st.t))
 | .bin op wr x y=>mg op wr (bP st.t x) (bP st.t y)
 | .notB x=>Hr (bP st.t x)
 | .neg x=>Hm (bP st.t x)
 | .conv k x=>FF k (bP st.t x)
 | .ext i x=>FX i (bP st.t x)
 | .len x=>Bv (bP st.t x)
 | .slen x=>EV (bP st.t x)
 | .build zero parts=>(vL st.t zero parts).map fun(c,cs)=>(c,.agg cs)
 | .nck x=>BD (bP st.t x)
 | .min2 x y=>Hi (bP st.t x) (bP st.t y)
 | .mkf n xs=>some (True,.func n (xs.map (bP st.t)))
 | .mget cg zero ok x k=>pD (fun k=>look k st.b) cg zero ok (bP st.t x) (bP st.t k)
 | .ment x=>vc (fun k=>look k st.b) (bP st.t x)
 | .mlen x=>wK (fun k=>look k st.b) (bP st.t x)
 | .beq neg ef x y=>Fq neg ef (bP st.t x) (bP st.t y)
 | .max2 x y=>Hg (bP st.t x) (bP st.t y)
 | .mkif t x=>some (True,.iface t (bP st.t x))
 | .loadB agg sz x=>nG st.b [] agg sz (bP st.t x)
 | .mgetB cg zero ok x k=>pD (fun k=>look k st.b) cg zero ok (bP st.t x) (bP st.t k)
 | .loadZ agg sz x=>C5 agg sz (bP st.t x)
 | .b2s x=>Fo (bP st.t x)
 | .isn neg x=>GY neg (bP st.t x)
def BM(bk:List (Nat×dh))(ef:List (Nat×Nat)):List (Nat×Nat×dm)->List (Nat×iX)->Bool
 |[],[]=>true
 |(off,sz,x)::r,(i,o)::s=>(match ef[i]? with|some (yd,t)=>off==yd&&((eh bk t).map (·.size))==some sz|none=>false)&&eC x o&&BM bk ef r s
 |_,_=>false
def Fg:ae->ae->Bool
 | .int k n,.int bn n'=>decide (k=bn/\n=n')
 | .bool b,.bool gV=>b==gV
 | .str [],.str []=>true
 | .slice a .nil [],.slice b .nil []=>a==b
 | .nilp,.nilp=>true
 | .junk,.junk=>true
 |_,_=>false
def Cm:List ae->List ae->Bool
 |[],[]=>true
 |c::cs,d::ds=>Fg c d&&Cm cs ds
 |_,_=>false
def Co:ae->ae->Bool
 | .agg cs,.agg ds=>Cm cs ds
 | .agg _,_=>false
 |p,q=>Fg p q
def wP:List dm->List iX->Bool
 |[],[]=>true
 |x::xs,o::os=>eC x o&&wP xs os
 |_,_=>false
def AW(bk:List (Nat×dh)):Nat->List Bool->List (Nat×Nat)->Bool
 |_,[],[]=>true
 |n,b::r,(off,t)::ef=>off==n&&(match eh bk t with|some ⟨_,_,.int _,_⟩=> !b|some ⟨_,_,.str,_⟩=>b|_=>false)&&AW bk (n+1) r ef
 |_,_,_=>false
def F5(bk:List (Nat×dh))(ef:List Bool)(t:Nat):Bool:=match eh bk t with
 |some ⟨_,_,.struct gs,_⟩=>AW bk 0 ef gs
 |_=>false
def zE(bk:List (Nat×dh))(cg:kJ)(t:Nat):Bool:=match cg with
 | .i=>(match eh bk t with|some ⟨_,_,.int _,_⟩=>true|_=>false)
 | .s=>(match eh bk t with|some ⟨_,_,.str,_⟩=>true|_=>false)
 | .a ef=>F5 bk ef t
def Ou:ae->ae->Bool
 | .slice a .no [],.slice b .nil []=>a==b
 |c,d=>Fg c d
def Af:List ae->List ae->Bool
 |[],[]=>true
 |c::cs,d::ds=>Ou c d&&Af cs ds
 |_,_=>false
def Oz:List ae->ae->Bool
 |cs,.agg ds=>Af cs ds
 |_,_=>false
def yi:aW dm->aW iX->Bool
 |none,none=>true
 |some x,some o=>eC x o
 |_,_=>false
def E6(bk:List (Nat×dh)):gC->Op->Bool
 | .mov x,.move o=>eC x o
 | .mov x,.assign o=>eC x o
 | .pick c x y,.pick hY qz y'=>eC c hY&&eC x qz&&eC y y'
 | .load agg sz x,.load t o=>(match eh bk t with|some f=>f.size==sz&&f.kind.isAgg==agg|none=>false)&&eC x o
 | .faddr off agg sz x,.fieldAddr s o i=>
  (match eh bk s with
   |some ⟨_,_,.struct ef,_⟩=>(match ef[i]? with|some (yd,t)=>off==yd&&(match eh bk t with|some f=>f.size==sz&&f.kind.isAgg==agg&&sz !=0|none=>false)|none=>false)
   |_=>false)&&eC x o
 | .fld off agg sz x,.field s o i=>
  (match eh bk s with
   |some ⟨_,_,.struct ef,_⟩=>(match ef[i]? with|some (yd,t)=>off==yd&&(match eh bk t with|some f=>f.size==sz&&f.kind.isAgg==agg|none=>false)|none=>false)
   |_=>false)&&eC x o
 | .iaddr sz x i,.indexAddr t o j=>(match eh bk t with|some ⟨_,_,.slice e,_⟩=>(match eh bk e with|some f=>f.size==sz|none=>false)|_=>false)&&eC x o&&eC i j
 | .sidx x i,.index t o j=>(match eh bk t with|some ⟨_,_,.str,_⟩=>true|_=>false)&&eC x o&&eC i j
 | .ssl x lo aw,.slice t o l h none=>(match eh bk t with|some ⟨_,_,.str,_⟩=>true|_=>false)&&eC x o&&yi lo l&&yi aw h
 | .lsl sz x lo aw,.slice t o l h none=>(match eh bk t with|some ⟨_,_,.slice e,_⟩=>(match eh bk e with|some f=>f.size==sz|none=>false)|_=>false)&&eC x o&&yi lo l&&yi aw h
 | .bin op _ x y,.binOp Vx _ o o' _=>decide (op=Vx)&&eC x o&&eC y o'
 | .notB x,.unOp op _ o=>decide (op= .not)&&eC x o
 | .neg x,.unOp op _ o=>decide (op= .neg)&&eC x o
 | .conv k x,.convert s d o=>(match eh bk s,eh bk d with|some ⟨_,_,.int _,_⟩,some ⟨_,_,.int bn,_⟩=>decide (k=bn)|_,_=>false)&&eC x o
 | .ext i x,.extract o j=>i==j&&eC x o
 | .len x,.call ⟨.builtin .len,⟨[o]⟩,⟨[t]⟩⟩=>(match eh bk t with|some ⟨_,_,.slice _,_⟩=>true|_=>false)&&eC x o
 | .slen x,.call ⟨.builtin .len,⟨[o]⟩,⟨[t]⟩⟩=>(match eh bk t with|some ⟨_,_,.str,_⟩=>true|_=>false)&&eC x o
 | .build zero parts,.build t bj=>(match eh bk t with|some ⟨_,_,.struct ef,z⟩=>Oz zero z&&(ef.all fun x=>(eh bk x.2).isSome)&&BM bk ef parts bj.toList|_=>false)
 | .nck x,.nilCheck o=>eC x o
 | .min2 x y,.call ⟨.builtin .min,⟨[o,o']⟩,⟨[_,_]⟩⟩=>eC x o&&eC y o'
 | .mkf n xs,.makeFunc (.func m) ⟨[]⟩ os=>decide (n=m/\n<1000000)&&wP xs os.toList
 | .mkf n xs,.makeFunc (.func m) e4 ⟨[]⟩=>decide (n=m+1000000)&&wP xs e4.toList
 | .mget cg zero ok x k,.lookup t o o' Hs=>ok==Hs&&(match eh bk t with|some ⟨_,_,.map dS p0,_⟩=>zE bk cg dS&&(match eh bk p0 with|some f=>Co zero f.zero|none=>false)|_=>false)&&eC x o&&eC k o'
 | .ment x,.entry o=>eC x o
 | .mlen x,.call ⟨.builtin .len,⟨[o]⟩,⟨[t]⟩⟩=>(match eh bk t with|some ⟨_,_,.map _ _,_⟩=>true|_=>false)&&eC x o
 | .beq neg ef x y,.binOp op t o o' _=>decide (op=if neg then .neq else .eql)&&(match ef with|none=>(match eh bk t with|some ⟨_,_,.bool,_⟩=>true|_=>false)|some ef=>F5 bk ef t)&&eC x o&&eC y o'
 | .max2 x y,.call ⟨.builtin .max,⟨[o,o']⟩,⟨[_,_]⟩⟩=>eC x o&&eC y o'
 | .mkif t x,.makeInterface t' o=>t==t'&&(match eh bk t with|some ⟨_,_,.slice _,_⟩=>true|_=>false)&&eC x o
 | .loadB agg sz x,.load t o=>(match eh bk t with|some f=>f.size==sz&&f.kind.isAgg==agg|none=>false)&&eC x o
 | .b2s x,.convert s d o=>(match eh bk s,eh bk d with|some ⟨_,_,.slice e,_⟩,some ⟨_,_,.str,_⟩=>(match eh bk e with|some ⟨_,_,.int .u8,_⟩=>true|_=>false)|_,_=>false)&&eC x o
 | .isn neg x,.binOp op t o (.const .nilIface) _=>decide (op=if neg then .neq else .eql)&&(match eh bk t with|some ⟨_,_,.iface,_⟩=>true|_=>false)&&eC x o
 | .loadZ agg sz x,.load t o=>(match eh bk t with|some f=>f.size==sz&&f.kind.isAgg==agg|none=>false)&&eC x o
 | .mgetB cg zero ok x k,.lookup t o o' Hs=>ok==Hs&&(match eh bk t with|some ⟨_,_,.map dS p0,_⟩=>zE bk cg dS&&(match eh bk p0 with|some f=>Co zero f.zero|none=>false)|_=>false)&&eC x o&&eC k o'
 |_,_=>false
end
section
open Go Go.RowKit
theorem JV(P:bS)(w:World)(op:BinOp)(t:fX)(x y:iX)(k bn:IntKind)(m n:Int):(eqGuard op t x y (.int k m) (.int bn n)).run P w= .ok () w:=by cases op<;>rfl
theorem aal(P:bS)(w:World)(op:BinOp)(t:fX)(x y:iX)(m n:k1):(eqGuard op t x y (.string m) (.string n)).run P w= .ok () w:=by cases op<;>rfl
theorem akg(l:List aj):(⟨l.toArray⟩:k1).toList=l:=by simp
theorem YR(a b:List aj):(⟨a.toArray⟩:k1)++(⟨b.toArray⟩:k1)=⟨(a++b).toArray⟩:=by apply alx;simp
theorem abm(a:List aj)(l h:Nat):(⟨a.toArray⟩:k1).extract l h=⟨((a.take h).drop l).toArray⟩:=by apply alx;simp[List.drop_take]
theorem EU(a:List aj):(⟨a.toArray⟩:k1).size=a.length:=by simp[OA]
section
variable {P:bS} {w:World} {r:Sem Value}
theorem s4{k:IntKind}{x:Int}(h:r.run P w= .ok (.int k x) w):∃v,r.run P w= .ok v w/\∀ν,aJ w ν (.int k x) v:=⟨_,h,fun ν=>by simp[aJ]⟩
theorem R6{x:Bool}(h:r.run P w= .ok (.bool x) w):∃v,r.run P w= .ok v w/\∀ν,aJ w ν (.bool x) v:=⟨_,h,fun ν=>by simp[aJ]⟩
end
theorem afv(P:bS)(w:World){op:BinOp}{wr:Bool}{k:IntKind}{a b:Int}{c:Prop}{p:ae}(he:Bm op wr k a b=some (c,p))(aH:c)(t:fX):
  ∃v,(binOp op t (.int k a) (.int k b)).run P w= .ok v w/\∀ν,aJ w ν p v:=by
 cases op<;>simp only[Bm]at he;case add=>
  cases wr<;>simp only[if_true,kG,if_false]at he<;>cases he
  ·obtain⟨rfl,h⟩:=aH;exact s4 (by simp[binOp,Op.intArith,ou _ h])
  ·exact s4 (by simp[binOp,Op.intArith])
 case sub=>
  cases wr<;>simp only[if_true,kG,if_false]at he<;>cases he
  ·obtain⟨rfl,h⟩:=aH;exact s4 (by simp[binOp,Op.intArith,ou _ h])
  ·exact s4 (by simp[binOp,Op.intArith])
 case mul=>
  cases wr<;>simp only[if_true,kG,if_false]at he<;>cases he
  ·obtain⟨rfl,h⟩:=aH;exact s4 (by simp[binOp,Op.intArith,ou _ h])
  ·exact s4 (by simp[binOp,Op.intArith])
 case quo=>cases he;exact s4 (by simp[binOp,Op.intDiv,aH])
 case rem=>cases he;exact s4 (by simp[binOp,Op.intDiv,aH])
 case and=>cases he;exact s4 (by simp only[binOp,Op.intBits,ne_eq,not_true_eq_false,if_false,gq])
 case or=>cases he;exact s4 (by simp only[binOp,Op.intBits,ne_eq,not_true_eq_false,if_false,gq])
 case xor=>cases he;exact s4 (by simp only[binOp,Op.intBits,ne_eq,not_true_eq_false,if_false,gq])
 all_goals cases he
 all_goals exact R6 (by simp only[binOp,Op.intCmp,ne_eq,not_true_eq_false,if_false,gq,gt_iff_lt,ge_iff_le])
theorem ajN(P:bS)(w:World){op:BinOp}{a b:List aj}{c:Prop}{p:ae}(he:Ih op a b=some (c,p))(aH:c)(t:fX):
  ∃v,(binOp op t (.string ⟨a.toArray⟩) (.string ⟨b.toArray⟩)).run P w= .ok v w/\∀ν,aJ w ν p v:=by
 cases op<;>simp only[Ih]at he;case add=>
  cases he;refine⟨.string ⟨(a++b).toArray⟩,?_,fun ν=>by simp only[aJ];exact⟨trivial,by simpa using aH⟩⟩;have I:¬(((⟨a.toArray⟩:k1).size+(⟨b.toArray⟩:k1).size:Nat):Int)>lL.max:=by
   have:lL.max=9223372036854775807:=by decide
   rw[this,EU,EU];simp only[aR]at aH;omega
  simp only[binOp,Op.stringOp,I,if_false,gq,YR]
 all_goals cases he
 all_goals exact R6 (by simp only[binOp,Op.stringOp,akg,gq])
theorem Y2(P:bS)(w:World)(ν:aQ){op:BinOp}{wr:Bool}{x y:ae}{c:Prop}{p:ae}(he:mg op wr x y=some (c,p))(aH:c)(t:fX){u v:Value}(hu:aJ w ν x u)(aN:aJ w ν y v)(o o':iX):
  ∃r,(do eqGuard op t o o' u v;binOp op t u v).run P w= .ok r w/\aJ w ν p r:=by
 unfold mg at he;split at he
 ·rename_i k a bn b;simp only[aJ]at hu aN;subst hu;subst aN;split at he
  ·cases he;refine⟨_,?_,by simp[aJ];rfl⟩;simp[binOp,Op.shift,JV,Int.not_lt.2 aH]
  ·cases he;refine⟨_,?_,by simp[aJ];rfl⟩;simp[binOp,Op.shift,JV,Int.not_lt.2 aH]
  ·split at he
   ·rename_i ab;subst ab;obtain⟨r,I,J⟩:=afv P w he aH t;exact⟨r,by simp[JV,I],J ν⟩
   ·cases he
 ·simp only[aJ]at hu aN;rw[hu.1,aN.1];obtain⟨r,I,J⟩:=ajN P w he aH t;exact⟨r,by simp[aal,I],J ν⟩
 ·cases he
theorem J7{w:World}{ν:aQ}:∀(v:List Value) (i off:Nat) (cs:Array Value),off+i+v.length<=cs.size->
  ((v.zipIdx i).foldl (fun cs (x:Value×Nat)=>cs.setIfInBounds (off+x.2) x.1) cs).toList=cs.toList.take (off+i)++v++cs.toList.drop (off+i+v.length)
 |[],i,off,cs,_=>by simp
 |u::v,i,off,cs,h=>by
  simp only[List.zipIdx_cons,List.foldl_cons];rw[J7 (w:=w) (ν:=ν) v (i+1) off _ (by simp at h⊢;omega)];have b5:off+i<cs.toList.length:=by simp at h⊢;omega
  simp only[Array.toList_setIfInBounds];have ao:(cs.toList.set (off+i) u).take (off+(i+1))=cs.toList.take (off+i)++[u]:=by rw[show off+(i+1)=(off+i)+1 from by omega,List.take_succ_eq_append_getElem (by simpa using b5)];simp[List.take_set_of_le (cc _)]
  have aL:(cs.toList.set (off+i) u).drop (off+(i+1)+v.length)=cs.toList.drop (off+i+(u::v).length):=by rw[List.drop_set_of_lt Ω];congr 1;simp;omega
  rw[ao,aL];simp
theorem WR{w:World}{ν:aQ}{C:eK}{st:aU}{a:Act}(hr:cm C st a w ν){bk:List (Nat×dh)}{ef:List (Nat×Nat)}{places:List (Nat×Nat)}
  (aV:∀(i off t sz:Nat),ef[i]? =some (off,t)->(eh bk t).map (·.size)=some sz->places[i]? =some (off,sz)):
  ∀(parts:List (Nat×Nat×dm)) (bj:List (Nat×iX)) (cs:List ae) (us:Array Value) (c:Prop) (cs':List ae),BM bk ef parts bj=true->ck w ν cs us.toList->vL st.t cs parts=some (c,cs')->c->
  ∃bE:Array Value,Instr.fill (places.toArray[·]?) us (bj.map fun(x:Nat×iX)=>(x.1,a.eval x.2))=some bE/\ck w ν cs' bE.toList
 |[],[],cs,us,c,cs',_,h,he,aH=>by simp only[vL]at he;cases he;exact⟨us,by simp[Instr.fill],h⟩
 |[],_::_,_,_,_,_,dM,_,_,_=>by simp[BM]at dM
 |_::_,[],_,_,_,_,dM,_,_,_=>by simp[BM]at dM
 |(off,sz,x)::parts,(i,o)::bj,cs,us,c,cs',dM,h,he,aH=>by
  simp only[BM,bJ]at dM;obtain⟨⟨I,J⟩,au⟩:=dM;split at I
  ·rename_i yd t Dq;simp only[bJ,eA]at I;obtain⟨rfl,I⟩:=I;have eM:=aV i off t sz Dq I;simp only[vL]at he;split at he
   ·rename_i hY amP ah;cases he;obtain⟨⟨az,aD,hle⟩,lR⟩:=aH;have af:=eD hr J;have ny:=wW af az;have hlen:=qo ny;have rW:=qo h;have gF:(a.eval o).cells.size=sz:=by have:(a.eval o).cells.toList.length=(cells (bP st.t x)).length:=hlen;rw[aD]at this;simpa using this
    have kR:us.size=cs.length:=by simpa using rW
    have mu:=J7 (w:=w) (ν:=ν) (a.eval o).cells.toList 0 off us (by simp[gF,kR];omega);have kd:ck w ν (nL cs off (cells (bP st.t x))) ((((a.eval o).cells.toList.zipIdx 0).foldl (fun cs (x:Value×Nat)=>cs.setIfInBounds (off+x.2) x.1) us).toList):=by rw[mu];unfold nL;refine zR (zR (EJ off h) ny) ?_;rw[Nat.add_zero,hlen];exact BY _ h
    obtain⟨bE,g1,g2⟩:=WR hr aV parts bj _ _ hY cs' au kd ah lR;refine⟨bE,?_,g2⟩;simp only[fF,Instr.fill,List.getElem?_toArray,eM];rw[br (by simp[gF,kR];omega)];rw[<-g1];simp only[List.getElem?_toArray];congr 1;rw[<-Array.foldl_toList];simp
   ·cases he
  ·cases I
end
section
open Go Go.RowKit
theorem w4{P:bS}{bk:List (Nat×dh)}(aE:eW P bk=true){t:Nat}{f:dh}(aK:eh bk t=some f)(w:World):
  (Go.isAgg t).run P w= .ok f.kind.isAgg w/\(sizeOf t).run P w= .ok f.size w:=by
 obtain⟨i,d,z,I,J,au,aP,bA,cy,eu,gQ⟩:=(vu aE aK).ex;refine⟨?_,by simp[sizeOf,typeInfo,I,au]⟩;simp only[Go.isAgg,fu,run_underlying J,fw];cases ab:f.kind<;>rw[ab]at bA<;>cases d<;>simp[mi]at bA<;>simp[CC.isAgg]
theorem h7{P:bS}{bk:List (Nat×dh)}(aE:eW P bk=true){t:Nat}{f:dh}(aK:eh bk t=some f):∃d,P.underlying t=some d/\mi f.kind d=true:=by obtain⟨i,d,z,I,J,au,aP,bA,cy,eu,gQ⟩:=(vu aE aK).ex;exact⟨d,J,bA⟩
theorem rP{e:Nat}{d:TypeDesc}(h:mi (.slice e) d=true):d= .slice e:=by cases d<;>simp[mi]at h;subst h;rfl
theorem xr{d:TypeDesc}(h:mi .str d=true):d= .string:=by cases d<;>simp[mi]at h;rfl
theorem CT{k:IntKind}{d:TypeDesc}(h:mi (.int k) d=true):d= .int k:=by cases d<;>simp[mi]at h;subst h;rfl
theorem JF{ef:List (Nat×Nat)}{d:TypeDesc}(h:mi (.struct ef) d=true):∃gs:Array Field,d= .struct gs/\gs.toList.map (fun f=>(f.offset,f.type))=ef:=by cases d<;>simp[mi]at h;rename_i gs;exact⟨gs,rfl,by simpa using h⟩
theorem HU{w:World}{ν:aQ}{cs:List ae}{us:List Value}(h:ck w ν cs us)(off sz:Nat):ck w ν ((cs.drop off).take sz) ((us.drop off).take sz):=EJ sz (BY off h)
theorem Vy{w:World}{base el sz n:Nat}{v:Value}{us:List Value}(h:w.ownsRow base el sz v n us){b:Nat}(ah:v.ownBlock=some b):∃cap,v= .slice (some ⟨b,0,none⟩) n cap:=by
 rcases h.2 with⟨rfl,_⟩|⟨g,cap,cur,rfl,_⟩
 ·simp[ov]at ah
 ·simp[ov]at ah;subst ah;exact⟨cap,rfl⟩
theorem Good.rowElem{pr:Nat->Prop}{w:World}{ν:aQ}{b:List (aC×List ae)}{e:List (aC×dn)}(aS:Good pr w ν b e){k:aC}{n el sz:Nat}{xs:List ae}(ab:look k e=some ⟨n,el,sz,some xs⟩){i f:Nat}{u:Value}(af:aJ w ν (.rptr sz k n i f) u){p:ae}(aV:xs[i]? =some p):
  ∃(v:Value) (us:List Value) (fj:Nat),aJ w ν p v/\v.cells.size=sz/\∃b o,u= .pointer (some ⟨b,o,none⟩)/\∀j c,v.cells.toList[f+j]? =some c->w.cell? ⟨b,o+j,none⟩=some c:=by
 simp only[aJ]at af;obtain⟨_,aw,n',eJ,I,J,au⟩:=af;obtain⟨v,us,b0,cS,dT,dY⟩:=aS.own k _ ab;rw[I]at b0;simp only[ei,gY]at b0;obtain⟨rfl,rfl⟩:=b0;obtain⟨bl,ah,rfl⟩:=au rfl;obtain⟨cap,rfl⟩:=Vy cS ah;obtain⟨aD,kd,_⟩:=dY xs rfl;simp only at aD kd;obtain⟨v,eZ,ey,jg⟩:=HS i kd aV;refine⟨v,us,el,eZ,ey,bl,_,rfl,fun j c ai=>?_⟩;have b5:f+j<sz:=by have:=(fo.1 ai).1;simp[ey]at this;exact this
 have hmul:i*sz+sz<=n'*sz:=by have:=Nat.mul_le_mul_right sz (show i+1<=n' from aw);rwa[Nat.succ_mul]at this
 have aH:=cS.cellAt (i*sz+f+j) (by show _<n'*sz;omega);rw[aH];rw[jg,List.getElem?_take,if_pos b5,mb]at ai;rw[<-ai];congr 1;omega
theorem Hc{P:bS}{bk:List (Nat×dh)}(aE:eW P bk=true){pr:Nat->Prop}{w:World}{ν:aQ}{b:List (aC×List ae)}{e:List (aC×dn)}(aS:Good pr w ν b e){t:Nat}{f:dh}(aK:eh bk t=some f)
  {x:ae} {u:Value} (af:aJ w ν x u) {c:Prop} {p:ae} (he:nG b e f.kind.isAgg f.size x=some (c,p)) (aH:c):∃v,(Instr.loadAt t u).run P w= .ok v w/\aJ w ν p v:=by
 obtain⟨bL,az⟩:=w4 aE aK w;generalize Gk:f.kind.isAgg=fi at*;generalize dz:f.size=sz at*;unfold nG at he;split at he
 ·rename_i dL k n i zc;unfold zT at he;split at he
  ·rename_i n' el iz xs ab;split at he
   ·rename_i aM;obtain⟨rfl,rfl⟩:=aM;split at he
    ·rename_i iv aeV;obtain⟨Oj,us,fj,g1,g2,po⟩:=Good.rowElem aS ab af aeV;have K5:eV iv=true:=by
      cases fi
      ·simp only[kG,if_false,iN]at he;obtain⟨q,_,he⟩:=he;cases he;exact aH
      ·simp only[if_true]at he;cases he;exact aH.1
     have dc:=wW g1 K5;cases fi
     ·simp only[kG,if_false,iN]at he;obtain⟨q,bp,he⟩:=he;cases he;obtain⟨v,f1,f2,f3⟩:=EI zc dc bp;refine⟨v,?_,f2⟩;obtain⟨b,o,rfl,po⟩:=po;have:=po 0 v (by simpa using f1);simp only[Nat.add_zero]at this;simp[Instr.loadAt,Instr.sureAddr,loadVar,bL,this]
     ·simp only[if_true]at he;cases he;obtain⟨b,o,rfl,po⟩:=po;refine⟨.agg ((Oj.cells.toList.drop zc).take sz).toArray,?_,by simp only[aJ];exact⟨_,rfl,by simpa using HU dc zc sz⟩⟩;have aD:=qo dc;have hlen:((Oj.cells.toList.drop zc).take sz).length=sz:=by simp only[pS,hX];omega
      have hq:=run_loadCells_list (P:=P) w ⟨b,o,none⟩ ((Oj.cells.toList.drop zc).take sz) (fun j v ai=>by
       rw[o6];refine po j v ?_;rw[List.getElem?_take]at ai;split at ai
       ·simpa[mb]using ai
       ·cases ai)
      rw[hlen]at hq;simp only[Instr.loadAt,Instr.sureAddr,loadVar,fu,gq,fw,bL,if_true,az,hq]
    ·cases he
   ·cases he
  ·cases he
 ·rename_i k off;simp only[aJ]at af;obtain⟨bl,I,rfl⟩:=af;split at he
  ·rename_i cs ab;obtain⟨hx,us,el,g1,g2,g3,g4,g5⟩:=aS.box k cs ab;rw[I]at g1;cases g1;have eM:gO cs=true:=by
    cases fi
    ·simp only[kG,if_false,iN]at he;obtain⟨q,bp,he⟩:=he;cases he;exact aH
    ·simp only[if_true]at he;cases he;exact aH.1
   rw[mB eM]at g4;rw[l4 eM]at g5;have aD:=qo g5;cases fi
   ·simp only[kG,if_false,iN]at he;obtain⟨q,bp,he⟩:=he;cases he;obtain⟨v,f1,f2,f3⟩:=EI off g5 bp;refine⟨v,?_,f2⟩;have po:w.cell? ⟨bl,off,none⟩=some v:=by simpa[World.cell?,g4]using f1
    simp[Instr.loadAt,Instr.sureAddr,loadVar,bL,po]
   ·simp only[if_true]at he;cases he;replace aH:=aH.2;refine⟨_,?_,by simp only[aJ];exact⟨_,rfl,by simpa using HU g5 off sz⟩⟩;simp only[Instr.loadAt,Instr.sureAddr,loadVar,fu,gq,fw,bL,if_true,az];rw[ajo g4 (by simp at aD;omega)];rfl
  ·cases he
 ·rename_i q;simp only[aJ]at af;obtain⟨bl,off,eJ,rfl,J,au⟩:=af;cases fi
  ·simp only[kG,if_false]at he;cases he;obtain⟨jd,kt⟩:=aH;obtain⟨g1,g2⟩:=Ng J jd (fun cs e=>by subst e;have:=er List.length kt;simp only[cells,gg,mJ]at this;cases cs with
    |nil=>simp[cells]at kt
    |cons y ys=>simp only[cells,sH]at kt;obtain⟨ao,aL⟩:=kt;subst aL;have:=er SizeOf.sizeOf ao;simp at this;omega)
   refine⟨eJ,?_,J⟩;rw[g2]at au;have po:=au.1.2;simp[Instr.loadAt,Instr.sureAddr,loadVar,bL,po]
  ·simp only[if_true]at he;cases he;obtain⟨cs,rfl,hlen⟩:=aH;simp only[aJ]at J;obtain⟨us,rfl,aP⟩:=J;refine⟨.agg us,?_,by simp only[aJ];exact⟨us,rfl,aP⟩⟩;simp only[nO]at au;have aD:=qo aP;have:=WT (P:=P) au;rw[show us.toList.length=sz from by omega]at this;simp[Instr.loadAt,Instr.sureAddr,loadVar,bL,az,this]
 ·cases he
theorem acn{P:bS}{bk:List (Nat×dh)}(aE:eW P bk=true){w:World}{ν:aQ}{s i:Nat}{f:dh}{ef:List (Nat×Nat)}(aK:eh bk s=some f)(ab:f.kind= .struct ef){off t:Nat}{g:dh}(aw:ef[i]? =some (off,t))(aS:eh bk t=some g)(bz:g.size≠0)
  {x:ae} {u:Value} (af:aJ w ν x u) {c:Prop} {p:ae} (he:pf off g.kind.isAgg g.size x=some (c,p)) (aH:c):∃v,(Instr.fieldAt s u i).run P w= .ok v w/\aJ w ν p v:=by
 obtain⟨d,aI,fC⟩:=h7 aE aK;rw[ab]at fC;obtain⟨gs,rfl,hb⟩:=JF fC;have pq:∃fd:Field,gs[i]? =some fd/\fd.offset=off/\fd.type=t:=by rw[<-hb]at aw;simp only[List.getElem?_map,iN]at aw;obtain⟨fd,I,J⟩:=aw;simp only[gY]at J;exact⟨fd,by simpa using I,J.1,J.2⟩
 obtain⟨fd,Gr,aq,lX⟩:=pq;obtain⟨bL,az⟩:=w4 aE aS w;have hq:∀b o,(Instr.fieldAt s (.pointer (some ⟨b,o,none⟩)) i).run P w= .ok (.pointer (some ⟨b,o+off,none⟩)) w:=by intro b o;simp[Instr.fieldAt,run_underlying aI,Gr,Instr.sureAddr,fieldPlace,lX,az,bz,o6,aq]
 unfold pf at he;split at he
 ·cases he;simp only[aJ]at af;obtain⟨b,I,rfl⟩:=af;exact⟨_,hq _ _,by simp only[aJ];exact⟨b,I,rfl⟩⟩
 ·cases he;simp only[aJ]at af;obtain⟨⟨b,o,rfl⟩,aw,n',eJ,I,J,au⟩:=af;refine⟨_,hq _ _,?_⟩;simp only[aJ];refine⟨⟨b,_,rfl⟩,aw,n',eJ,I,J,fun e=>?_⟩;obtain⟨gV,ao,aL⟩:=au e;simp only[aqj,ei,Addr.mk.injEq,and_true]at aL;obtain⟨rfl,rfl⟩:=aL;exact⟨b,ao,by rw[Nat.add_assoc]⟩
 ·rename_i cs;simp only[aJ]at af;obtain⟨b,o,eJ,rfl,⟨us,rfl,J⟩,au⟩:=af;refine⟨_,hq _ _,?_⟩;simp only[nO]at au;split at he
  ·cases he;simp only[aJ];exact⟨b,o+off,.agg ((us.toList.drop off).take g.size).toArray,rfl,⟨_,rfl,by simpa using HU J off g.size⟩,by simpa[nO]using G9 g.size (G8 off au)⟩
  ·simp only[iN]at he;obtain⟨q,bp,he⟩:=he;cases he;obtain⟨v,f1,f2,f3⟩:=EI off J bp;simp only[aJ];have aeE:=u9 au f1;have afe:v.cells= #[v]:=by cases v<;>first|rfl|cases f3
   exact⟨b,o+off,v,rfl,f2,by rw[afe];exact⟨aeE,trivial⟩⟩
 ·cases he
theorem acw{P:bS}{bk:List (Nat×dh)}(aE:eW P bk=true){w:World}{ν:aQ}{s i:Nat}{f:dh}{ef:List (Nat×Nat)}(aK:eh bk s=some f)(ab:f.kind= .struct ef){off t:Nat}{g:dh}(aw:ef[i]? =some (off,t))(aS:eh bk t=some g)
  {x:ae} {u:Value} (af:aJ w ν x u) {c:Prop} {p:ae} (he:s3 off g.kind.isAgg g.size x=some (c,p)) (aH:c):∃v,(Instr.field s u i).run P w= .ok v w/\aJ w ν p v:=by
 obtain⟨d,aI,fC⟩:=h7 aE aK;rw[ab]at fC;obtain⟨gs,rfl,hb⟩:=JF fC;have pq:∃fd:Field,gs[i]? =some fd/\fd.offset=off/\fd.type=t:=by rw[<-hb]at aw;simp only[List.getElem?_map,iN]at aw;obtain⟨fd,I,J⟩:=aw;simp only[gY]at J;exact⟨fd,by simpa using I,J.1,J.2⟩
 obtain⟨fd,Gr,aq,lX⟩:=pq;obtain⟨bL,az⟩:=w4 aE aS w;unfold s3 at he;split at he
 ·rename_i cs;simp only[aJ]at af;obtain⟨us,rfl,J⟩:=af;generalize Gk:g.kind.isAgg=fi at*;cases fi
  ·simp only[kG,if_false,iN]at he;obtain⟨q,bp,he⟩:=he;cases he;obtain⟨v,f1,f2,f3⟩:=EI off J bp;have abn:us[off]? =some v:=by simpa using f1
   exact⟨v,by simp[Instr.field,run_underlying aI,Gr,asAgg,part,lX,bL,aq,abn],f2⟩
  ·simp only[if_true]at he;cases he;refine⟨.agg (us.extract off (off+g.size)),by simp[Instr.field,run_underlying aI,Gr,asAgg,part,lX,bL,aq,az],?_⟩;simp only[aJ];refine⟨_,rfl,?_⟩;have:=HU J off g.size;simpa[List.take_drop]using this
 ·cases he
theorem afr{P:bS}{bk:List (Nat×dh)}(aE:eW P bk=true){w:World}{ν:aQ}{t e:Nat}{f g:dh}(aK:eh bk t=some f)(ab:f.kind= .slice e)(aS:eh bk e=some g)
  {x y:ae} {u v:Value} (af:aJ w ν x u) (bG:aJ w ν y v) {c:Prop} {p:ae} (he:Bj g.size x y=some (c,p)) (aH:c):∃r,(Instr.indexAt t u v).run P w= .ok r w/\aJ w ν p r:=by
 obtain⟨d,aI,fC⟩:=h7 aE aK;rw[ab]at fC;obtain rfl:=rP fC;obtain⟨bL,az⟩:=w4 aE aS w;unfold Bj at he;split at he
 ·rename_i dL tag xs k i;split at he
  ·rename_i dz;cases he;simp only[aJ]at af bG;subst bG;subst dz;obtain⟨⟨a,cap,rfl,I,J,au⟩,_⟩:=af;obtain⟨Bc,n1⟩:=aH;have mq:i.toNat<xs.length:=Ω
   rcases au with rfl|⟨b,off,us,rfl,aP,bA⟩
   ·simp at mq
   ·have af:xs[i.toNat]? =some xs[i.toNat]:=cL mq;obtain⟨w',eZ,ey,jg⟩:=HS i.toNat bA af;refine⟨.pointer (some ⟨b,off+i.toNat*g.size,none⟩),?_,?_⟩
    ·simp only[Instr.indexAt,asIntOf,fu,gq,fw,run_underlying aI,Bc,n1,and_self,if_true,az,o6]
    ·simp only[aJ];refine⟨b,off+i.toNat*g.size,w',rfl,by simpa[List.getD,af]using eZ,?_⟩;rw[jg];exact G9 g.size (G8 _ aP)
  ·cases he
 ·rename_i dL k n Un i;split at he
  ·rename_i dz;cases he;simp only[aJ]at af bG;subst bG;subst dz;obtain⟨⟨b,cap,rfl⟩,J,n',eJ,au,aP,bA⟩:=af;obtain⟨Bc,n1⟩:=aH;refine⟨.pointer (some ⟨b,0+i.toNat*g.size,none⟩),?_,?_⟩
   ·simp only[Instr.indexAt,asIntOf,fu,gq,fw,run_underlying aI,Bc,n1,and_self,if_true,az,o6]
   ·simp only[aJ];refine⟨⟨b,_,rfl⟩,Ω,n',eJ,au,aP,fun e=>⟨b,?_,Ψ⟩⟩;rw[<-bA e];rfl
  ·cases he
 ·cases he
theorem HB{C:eK}{st:aU}{a:Act}{w:World}{ν:aQ}(h:cm C st a w ν){x:aW dm}{o:aW iX}(af:yi x o=true){FI n:Int}(he:r7 FI (x.map (bP st.t))=some n):
  (o.map a.eval=none/\n=FI)\/ ∃k,o.map a.eval=some (.int k n):=by
 cases x with
 |none=>cases o with
  |none=>simp[r7]at he;exact .inl ⟨rfl,he.symm⟩
  |some o=>simp[yi]at af
 |some x=>cases o with
  |none=>simp[yi]at af
  |some o=>
   simp only[yi]at af
   have:=eD h af
   simp only[lM]at he⊢
   cases we:bP st.t x<;>simp[we,r7]at he
   rw[we]at this
   simp only[aJ]at this
   subst he
   exact .inr ⟨_,by rw[this]⟩
theorem Pe:∀{xs:List ae} {s:List aj},pZ xs=some s->s.length=xs.length
 |[],s,h=>by simp only[pZ]at h;cases h;rfl
 |x::xs,s,h=>by
  cases x<;>try(simp[pZ]at h;done)
  rename_i k n;cases k<;>simp only[pZ,iN,reduceCtorEq]at h;obtain⟨al,I,rfl⟩:=h;simp[Pe I]
def Aq(n:Int):aj:=oW n.toNat
theorem Pf{w:World}{ν:aQ}{sz:Nat}:∀{xs:List ae} {s:List aj} {us:List Value},pZ xs=some s->cV w ν sz xs us->∃ns:List Int,us=ns.map (oV .u8)/\s=ns.map Aq/\us.length=xs.length
 |[],s,us,h,hr=>by simp only[pZ]at h;cases h;simp only[cV]at hr;subst hr;exact⟨[],rfl,rfl,rfl⟩
 |x::xs,s,us,h,hr=>by
  cases x<;>try(simp[pZ]at h;done)
  rename_i k n;cases k<;>simp only[pZ,iN,reduceCtorEq]at h;obtain⟨al,I,rfl⟩:=h;simp only[cV,aJ]at hr;obtain⟨u,bE,rfl,⟨rfl,_⟩,hr⟩:=hr;obtain⟨ns,rfl,rfl,aD⟩:=Pf I hr;exact⟨n::ns,by simp[nO],rfl,by simp[nO]at aD⊢;exact aD⟩
theorem VH{P:bS}{w:World}{f:Value->k1->Sem (ForInStep k1)}(aK:∀n s,f (.int .u8 n) s=pure (.yield (s.push (Aq n)))):∀(ns:List Int) (s:k1),(forIn (ns.map (oV .u8)) s f).run P w= .ok ⟨(s.data.toList++ns.map Aq).toArray⟩ w
 |[],s=>by simp
 |n::ns,s=>by simp only[fF,List.forIn_cons,fu,aK,gq,fw];rw[VH aK ns];simp[aqd]
theorem YZ{P:bS}{w:World}{A:Nat->Nat->Prop}{a:aW Addr}{len cap:Nat}{ns:List Int}(aD:ns.length=len)(h:len=0\/ ∃b off,a=some ⟨b,off,none⟩/\kg w A b off (ns.map (oV .u8))):
  (Conv.bytesToString (.slice a len cap)).run P w= .ok (.string ⟨(ns.map Aq).toArray⟩) w:=by
 have aeH:∀mL,a=some mL->(loadCells mL len).run P w= .ok (ns.map (oV .u8)).toArray w:=fun mL e=>by
  rcases h with h|⟨b,off,ao,J⟩
  ·subst h;have:ns=[]:=by cases ns<;>simp_all
   subst this;exact run_loadCells_list w mL [] fun j v ai=>by simp at ai
  ·rw[ao]at e;cases e;have:=WT (P:=P) J;simpa[aD]using this
 unfold Conv.bytesToString;cases a with
 |none=>
  have:ns=[]:=by
   rcases h with h|⟨b,off,ao,J⟩
   ·subst h;cases ns<;>simp_all
   ·cases ao
  subst this;simp;rfl
 |some mL=>simp only[fu,aeH mL rfl,fw,Array.forIn_toList,List.forIn_toArray];rw[VH (fun n s=>rfl) ns aqc];simp
theorem Ov{c d:ae}(h:Fg c d=true):c=d:=by unfold Fg at h;split at h<;>simp_all
theorem Yo:∀{cs ds:List ae},Cm cs ds=true->cs=ds
 |[],[],_=>rfl
 |[],_::_,h=>by simp[Cm]at h
 |_::_,[],h=>by simp[Cm]at h
 |c::cs,d::ds,h=>by simp only[Cm,bJ]at h;rw[Ov h.1,Yo h.2]
theorem als{w:World}{ν:aQ}{c d:ae}{v:Value}(h:Ou c d=true)(aI:aJ w ν d v):aJ w ν c v:=by
 unfold Ou at h;split at h
 ·simp only[eA]at h;subst h;simp only[aJ]at aI⊢;exact⟨aI.1,fun e=>(by cases e),fun _ e=>(by cases e),fun _ _ e=>(by cases e),fun _ e=>(by cases e)⟩
 ·rw[Ov h];exact aI
theorem Yn{w:World}{ν:aQ}:∀{cs ds:List ae} {us:List Value},Af cs ds=true->ck w ν ds us->ck w ν cs us
 |[],[],_,_,h=>h
 |[],_::_,_,h,_=>by simp[Af]at h
 |_::_,[],_,h,_=>by simp[Af]at h
 |c::cs,d::ds,us,h,hr=>by simp only[Af,bJ]at h;simp only[ck]at hr⊢;obtain⟨u,bE,ao,⟨aL,bB⟩,b9⟩:=hr;exact⟨u,bE,ao,⟨als h.1 aL,bB⟩,Yn h.2 b9⟩
theorem alw{cs:List ae}{z:ae}(h:Oz cs z=true):∃ds,z= .agg ds/\Af cs ds=true:=by
 cases z<;>simp only[Oz]at h;case agg ds=>exact⟨ds,rfl,h⟩
 all_goals cases h
theorem ac6(s:List aj)(n:Nat)(h:n<s.length):(⟨s.toArray⟩:k1)[n]? =some (s.getD n 0):=by
 have dz:n<(⟨s.toArray⟩:k1).size:=by rw[EU];exact h
 have e:(⟨s.toArray⟩:k1)[n]? =some ((⟨s.toArray⟩:k1)[n]'dz):=getElem?_pos (⟨s.toArray⟩:k1) n dz;rw[e];congr 1;simp[List.getD,h];rfl
theorem Ie(P:bS)(w:World)(k:IntKind)(i:Int)(y:Nat)(c:BoundsCode)(bz:0<=i)(I:i<=y):(Instr.sliceBound (.int k i) y c).run P w= .ok i.toNat w:=by simp[Instr.sliceBound,asIntOf,bz,I]
theorem Pa(P:bS)(w:World)(afD:Bool)(len cap:Nat)(lo aw:aW Value)(l h:Int)(aeG:(lo=none/\l=0)\/ ∃k,lo=some (.int k l))(aem:(aw=none/\h=len)\/ ∃k,aw=some (.int k h))
  (bz:0<=l) (I:l<=h) (J:h<=len) (aH:len<=cap):(Instr.sliceBounds afD len cap lo aw none).run P w= .ok (l.toNat,h.toNat,cap) w:=by
 rcases aeG with⟨rfl,rfl⟩|⟨k,rfl⟩<;>rcases aem with⟨rfl,rfl⟩|⟨bn,rfl⟩
 ·simp[Instr.sliceBounds]
 ·simp[Instr.sliceBounds,Ie P w bn h cap _ Ω Ω]
 ·simp[Instr.sliceBounds,Ie P w k l len _ Ω Ω]
 ·simp[Instr.sliceBounds,Ie P w bn h cap _ Ω Ω,Ie P w k l h.toNat _ Ω Ω]
theorem VC{P:bS}{bk:List (Nat×dh)}(aE:eW P bk=true):∀(gs:List Field),(gs.all fun f=>(eh bk f.type).isSome)=true->
  ∃places:List (Nat×Nat),gs.mapM (fun f=>(P.info? f.type).map fun i=>(f.offset,i.size))=some places/\
   ∀(i off t sz:Nat),(gs.map (fun f=>(f.offset,f.type)))[i]? =some (off,t)->(eh bk t).map (·.size)=some sz->places[i]? =some (off,sz)
 |[],_=>⟨[],Ψ,Ψ⟩
 |f::gs,h=>by
  simp only[List.all_cons,bJ]at h;obtain⟨places,I,J⟩:=VC aE gs h.2;obtain⟨g,aS⟩:=fv.1 h.1;obtain⟨i,d,z,ao,aL,bB,b9,ee,dC,nu,pd⟩:=(vu aE aS).ex;refine⟨(f.offset,g.size)::places,by simp[List.mapM_cons,ao,bB,I],fun j off t sz ai dz=>?_⟩;cases j with
  |zero=>simp only[fF,List.getElem?_cons_zero,ei,gY]at ai⊢;obtain⟨rfl,rfl⟩:=ai;rw[aS]at dz;simpa using dz
  |succ j=>simp only[fF,List.getElem?_cons_succ]at ai⊢;exact J j off t sz ai dz
theorem kY{P:bS}{w:World}{x:Sem Value}{v:Value}(h:x.run P w= .ok v w):(do pure (Next.value (<-x)):Sem Next).run P w= .ok (.value v) w:=by simp[h]
theorem Oy{p q:ae}(h:Co p q=true):p=q:=by
 unfold Co at h;split at h
 ·rw[Yo h]
 ·cases h
 ·exact Ov h
theorem Ox(w:World)(ν:aQ){p:ae}{v:Value}(h:Ag p v=true):aJ w ν p v/\ck w ν (cells p) v.cells.toList:=by
 by_cases bL:∃cs,p= .agg cs
 ·obtain⟨cs,rfl⟩:=bL;cases v<;>simp only[Ag]at h;case agg us=>have:=Ow w ν _ _ h;exact⟨by simp only[aJ];exact⟨us,rfl,this⟩,by simpa[cells,nO]using this⟩
  all_goals cases h
 ·have cu:As p v=true/\v.oneCell'=true:=by cases p<;>simp only[Ag,bJ]at h<;>first|exact h|exact absurd ⟨_,rfl⟩ bL
  have hr:=IU w ν cu.1;refine⟨hr,?_⟩;have aH:cells p=[p]:=by cases p<;>first|rfl|exact absurd ⟨_,rfl⟩ bL
  have aN:v.cells= #[v]:=by have:=cu.2;cases v<;>first|rfl|simp[Value.oneCell']at this
  rw[aH,aN];simp only[ck];exact⟨v,[],rfl,⟨hr,cu.2⟩,rfl⟩
theorem NU{P:bS}{bk:List (Nat×dh)}(aE:eW P bk=true){t:Nat}{f:dh}(aK:eh bk t=some f)(w:World):∃z,(zeroValue t).run P w= .ok z w/\Ag f.zero z=true/\z.cells.size=f.size:=by obtain⟨i,d,z,I,J,au,aP,bA,cy,eu,gQ⟩:=(vu aE aK).ex;exact⟨z,by simp[zeroValue,typeInfo,I,cy],eu,gQ⟩
theorem zS{C:eK}{st:aU}{a:Act}{w:World}{ν:aQ}(h:cm C st a w ν):∀{xs:List dm} {os:List iX},wP xs os=true->cz w ν (xs.map (bP st.t)) (os.map a.eval)
 |[],[],_=>by simp[cz]
 |[],_::_,ab=>by simp[wP]at ab
 |_::_,[],ab=>by simp[wP]at ab
 |x::xs,o::os,ab=>by simp only[wP,bJ]at ab;simp only[fF,cz];exact⟨_,_,rfl,eD h ab.1,zS h ab.2⟩
theorem aam{P:bS}{w:World}{t:fX}(aI:P.underlying t=some .bool)(d:Nat)(a b:Bool):(Op.equalIn (d+1) t (.bool a) (.bool b)).run P w= .ok (a==b) w:=by rw[Op.equalIn];simp only[fu,run_underlying aI,fw,gq]
theorem aan{P:bS}{w:World}{t:fX}{ms:Array (String×fX)}(aI:P.underlying t=some (.interface ms))(d:Nat):(∀u x,(Op.equalIn (d+1) t (.iface u x) .nilIface).run P w= .ok false w)/\(Op.equalIn (d+1) t .nilIface .nilIface).run P w= .ok true w:=by
 constructor
 ·intro u x;simp[Op.equalIn,run_underlying aI]
 ·simp[Op.equalIn,run_underlying aI]
theorem FT{P:bS}{w:World}{t:fX}{ms:Array (String×fX)}(aI:P.underlying t=some (.interface ms)):(∀u x,(Op.equal t (.iface u x) .nilIface).run P w= .ok false w)/\(Op.equal t .nilIface .nilIface).run P w= .ok true w:=aan aI 9999
theorem aao{P:bS}{w:World}{t:fX}(aI:P.underlying t=some .bool)(a b:Bool):(Op.equal t (.bool a) (.bool b)).run P w= .ok (a==b) w:=aam aI _ a b
theorem QW:∀{borns:List Nat} {kvs:List ae} {us:List Value},kvs.length=2*borns.length->us.length=kvs.length->(fZ borns us).length=borns.length
 |[],_,us,_,_=>by simp[fZ]
 |gV::e4,kvs,[],I,J=>by rw[I]at J;simp at J
 |gV::e4,kvs,[_],I,J=>by rw[I]at J;simp at J;omega
 |gV::e4,kvs,k::v::us,I,J=>by simp only[fZ,gg];rw[QW (kvs:=kvs.drop 2) (us:=us) (borns:=e4) (by simp at I⊢;omega) (by simp at I J⊢;omega)]
theorem WD{w:World}{ν:aQ}:∀{bj:List ae} {vs:List Value},cz w ν bj vs->vs.length=bj.length
 |[],vs,h=>by simp only[cz]at h;subst h;rfl
 |p::bj,vs,h=>by simp only[cz]at h;obtain⟨u,bE,rfl,_,J⟩:=h;simp[WD J]
theorem w1{P:bS}{w:World}{r:Nat}{o:Obj}(ah:w.heap[r]? =some o)(aM:∀c e f,o≠ .cells c e f:=by simp):(getObj r).run P w= .ok o w:=by simp only[getObj,Sem.run,ah]
def rA(P:bS):Nat->List Bool->List Field->Prop
 |_,[],[]=>True
 |n,b::r,f::gs=>(f.offset=n/\f.name≠ "_" /\(if b=true then P.underlying f.type=some .string else∃k,P.underlying f.type=some (.int k)))/\rA P (n+1) r gs
 |_,_,_=>dr
theorem Ev{P:bS}{t:fX}{b:Bool}(h:if b=true then P.underlying t=some .string else∃k,P.underlying t=some (.int k)):P.plainKey t=true:=by
 cases b
 ·obtain⟨k,h⟩:=(by simpa using h:∃k,P.underlying t=some (.int k));simp[Program.plainKey,h]
 ·have h:P.underlying t=some .string:=by simpa using h
  simp[Program.plainKey,h]
theorem Ze{P:bS}{w:World}{ν:aQ}(d:Nat){X Y:Array Value}(ef:List Bool):∀(gs:List Field) (n:Nat) (as e4:List ae) (us vs:List Value) (q:Bool),rA P n ef gs->X.toList.drop n=us->Y.toList.drop n=vs->ck w ν as us->ck w ν e4 vs->lx ef as e4=some q->
  (Op.eqFields (d+1) X Y gs).run P w= .ok q w/\(q=true->us=vs)/\∀m,(us.zip us).all (fun(x,y)=>Instr.sameBits m x y)=true:=by
 induction ef with
 |nil=>intro gs n as e4 us vs q aS mQ xL I J h;cases as<;>cases e4<;>simp only[lx,ei,reduceCtorEq]at h;cases gs<;>simp only[rA]at aS;simp only[ck]at I J;rw[I,J,<-h];exact⟨by simp[Op.eqFields],fun _=>rfl,fun m=>rfl⟩
 |cons za r aX=>
  intro gs n as e4 us vs q aS mQ xL I J h;cases gs with
  |nil=>simp only[rA]at aS
  |cons f gs=>
  simp only[rA]at aS;obtain⟨⟨GM,fV,lX⟩,aS⟩:=aS;cases as with
  |nil=>cases za<;>cases e4<;>simp[lx]at h
  |cons Et as=>
  cases e4 with
  |nil=>cases za<;>cases Et<;>simp[lx]at h
  |cons HD e4=>
  cases za with
  |false=>
   have aH:∃k a b q',Et= .int k a/\HD= .int k b/\lx r as e4=some q'/\q=((a==b)&&q'):=by
    cases Et<;>first|(simp[lx]at h;done)|skip
    cases HD<;>first|(simp[lx]at h;done)|skip
    simp only[lx]at h;split at h
    ·rename_i ab;subst ab;simp only[iN]at h;obtain⟨q',au,aP⟩:=h;exact⟨_,_,_,q',rfl,rfl,au,aP.symm⟩
    ·cases h
   obtain⟨k,a,b,q',rfl,rfl,au,rfl⟩:=aH;simp only[ck,aJ]at I J;obtain⟨u,bE,rfl,⟨rfl,_⟩,I⟩:=I;obtain⟨v,vs',rfl,⟨rfl,_⟩,J⟩:=J;have Es:X[n]? =some (.int k a):=by rw[<-Array.getElem?_toList,<-List.head?_drop,mQ];rfl
   have MF:Y[n]? =some (.int k b):=by rw[<-Array.getElem?_toList,<-List.head?_drop,xL];rfl
   obtain⟨i1,i2,i3⟩:=aX gs (n+1) as e4 bE vs' q' aS (by rw[<-List.tail_drop,mQ];rfl) (by rw[<-List.tail_drop,xL];rfl) I J au;obtain⟨Un,La⟩:=(by simpa using lX:∃k,P.underlying f.type=some (.int k));refine⟨?_,?_,fun m=>?_⟩
   ·simp only[Op.eqFields,fV,ne_eq,not_false_eq_true,if_true,fu,GM,run_part_plain w (Ev lX) Es,run_part_plain w (Ev lX) MF,fw,run_equalIn_int w d f.type k Un a b La];cases pn:(a==b)
    ·simp
    ·simpa using i1
   ·intro bp;simp only[bJ,eA]at bp;rw[bp.1,i2 bp.2]
   ·have:=i3 m;simp only[List.zip_cons_cons,List.all_cons,this,Bool.and_true];cases m<;>simp[Instr.sameBits]
  |true=>
   have aH:∃a b q',Et= .str a/\HD= .str b/\lx r as e4=some q'/\q=((a==b)&&q'):=by
    cases Et<;>first|(simp[lx]at h;done)|skip
    cases HD<;>first|(simp[lx]at h;done)|skip
    simp only[lx,iN]at h;obtain⟨q',au,aP⟩:=h;exact⟨_,_,q',rfl,rfl,au,aP.symm⟩
   obtain⟨a,b,q',rfl,rfl,au,rfl⟩:=aH;simp only[ck,aJ]at I J;obtain⟨u,bE,rfl,⟨⟨rfl,_⟩,_⟩,I⟩:=I;obtain⟨v,vs',rfl,⟨⟨rfl,_⟩,_⟩,J⟩:=J;have Es:X[n]? =some (.string ⟨a.toArray⟩):=by rw[<-Array.getElem?_toList,<-List.head?_drop,mQ];rfl
   have MF:Y[n]? =some (.string ⟨b.toArray⟩):=by rw[<-Array.getElem?_toList,<-List.head?_drop,xL];rfl
   obtain⟨i1,i2,i3⟩:=aX gs (n+1) as e4 bE vs' q' aS (by rw[<-List.tail_drop,mQ];rfl) (by rw[<-List.tail_drop,xL];rfl) I J au;have La:P.underlying f.type=some .string:=by simpa using lX
   refine⟨?_,?_,fun m=>?_⟩
   ·simp only[Op.eqFields,fV,ne_eq,not_false_eq_true,if_true,fu,GM,run_part_plain w (Ev lX) Es,run_part_plain w (Ev lX) MF,fw,run_equalIn_string w d f.type _ _ La];have e:((⟨a.toArray⟩:k1).toList==(⟨b.toArray⟩:k1).toList)=(a==b):=by rw[aly,aly]
    rw[e];cases pn:(a==b)
    ·simp
    ·simpa using i1
   ·intro bp;simp only[bJ,eA]at bp;rw[bp.1,i2 bp.2]
   ·have:=i3 m;simp only[List.zip_cons_cons,List.all_cons,this,Bool.and_true];cases m<;>simp only[Instr.sameBits]<;>exact(MapKept.bytes_beq _ _).2 rfl
theorem RB{P:bS}{bk:List (Nat×dh)}(aE:eW P bk=true):∀(ef:List Bool) (gs:List Field) (n:Nat),AW bk n ef (gs.map fun f=>(f.offset,f.type))=true->(gs.all (fun f=>match P.underlying f.type with|some (.int _)=>true|some .string=>true|_=>false)=true)/\((∀f∈gs,f.name≠ "_")->rA P n ef gs)
 |[],[],_,_=>⟨rfl,fun _=>trivial⟩
 |[],_::_,_,h=>by simp[AW]at h
 |_::_,[],_,h=>by simp[AW]at h
 |b::r,f::gs,n,h=>by
  simp only[fF,AW,bJ,eA]at h;obtain⟨⟨I,J⟩,au⟩:=h;obtain⟨i1,i2⟩:=RB aE r gs (n+1) au;split at J
  ·rename_i aK;obtain⟨d,hu,aI⟩:=h7 aE aK;obtain rfl:=CT aI;refine⟨by simp only[List.all_cons,hu,i1,Bool.and_self],fun aM=>⟨⟨I,aM f Ψ,?_⟩,i2 fun g aS=>aM g (by simp[aS])⟩⟩;have:b=false:=by simpa using J
   subst this;simpa using⟨_,hu⟩
  ·rename_i aK;obtain⟨d,hu,aI⟩:=h7 aE aK;obtain rfl:=xr aI;refine⟨by simp only[List.all_cons,hu,i1,Bool.and_self],fun aM=>⟨⟨I,aM f Ψ,?_⟩,i2 fun g aS=>aM g (by simp[aS])⟩⟩;subst J;simpa using hu
  ·cases J
theorem RD{P:bS}{bk:List (Nat×dh)}(aE:eW P bk=true){ef:List Bool}{t:Nat}(h:F5 bk ef t=true):∃gs,P.underlying t=some (.struct gs)/\rA P 0 ef gs.toList/\P.stoodInHeld t=false/\P.eqGuardType P.depth t=false:=by
 unfold F5 at h;split at h
 ·rename_i aK;obtain⟨d,hu,aI⟩:=h7 aE aK;have aH:=(vu aE aK).cmp d hu;cases d<;>simp[mi]at aI;rename_i gs;subst aI;obtain⟨i1,i2⟩:=RB aE ef gs.toList 0 h;have k7:RC P gs=true:=i1;simp only[Jy,k7,Bool.not_true,Bool.false_or,Qu,bJ,sG,ji,bne_iff_ne,ne_eq]at aH;exact⟨gs,hu,i2 aH.1.1,aH.1.2,aH.2⟩
 ·cases h
theorem QY{P:bS}{w:World}{ν:aQ}{t:fX}{gs:Array Field}{ef:List Bool}(hu:P.underlying t=some (.struct gs))(aS:rA P 0 ef gs.toList)(e7:P.stoodInHeld t=false){as e4:List ae}{X Y:Array Value}(I:ck w ν as X.toList)(J:ck w ν e4 Y.toList){q:Bool}(h:lx ef as e4=some q):
  (Op.equalIn 10000 t (.agg X) (.agg Y)).run P w= .ok q w/\(q=true->X=Y)/\∀m,(X.toList.zip X.toList).all (fun(x,y)=>Instr.sameBits m x y)=true:=by
 have aK:P.fieldsOf t=gs:=by simp[Program.fieldsOf,hu]
 obtain⟨i1,i2,i3⟩:=Ze 9998 ef gs.toList 0 as e4 _ _ q aS rfl rfl I J h;refine⟨?_,fun e=>?_,?_⟩
 ·rw[run_equalIn_struct w 9999 t X Y (by rw[aK];exact hu) e7,aK];exact i1
 ·have:=i2 e;simpa using this
 ·simpa using i3
inductive vD (P:bS):kJ->fX->Prop
 |i {t:fX} {k:IntKind}:P.underlying t=some (.int k)->vD P .i t
 |s {t:fX}:P.underlying t=some .string->vD P .s t
 |a {t:fX} {ef:List Bool} {gs:Array Field}:P.underlying t=some (.struct gs)->rA P 0 ef gs.toList->P.stoodInHeld t=false->vD P (.a ef) t
theorem LH{P:bS}{bk:List (Nat×dh)}(aE:eW P bk=true){cg:kJ}{t:Nat}(h:zE bk cg t=true):vD P cg t:=by
 cases cg with
 |i=>
  simp only[zE]at h;split at h
  ·rename_i aK;obtain⟨d,hu,aI⟩:=h7 aE aK;obtain rfl:=CT aI;exact .i hu
  ·cases h
 |s=>
  simp only[zE]at h;split at h
  ·rename_i aK;obtain⟨d,hu,aI⟩:=h7 aE aK;obtain rfl:=xr aI;exact .s hu
  ·cases h
 |a ef=>obtain⟨gs,I,J,au,_⟩:=RD aE h;exact .a I J au
def uC(P:bS)(w:World)(cg:kJ)(t:fX)(fP u:Value)(b:Bool):Prop:=match cg with
 | .a _=>(Op.equal t fP u).run P w= .ok b w
 |_=> ∀d,P.underlying t=some d->Instr.sameNow d fP u=some b
def iC(P:bS)(w:World)(cg:kJ)(t:fX)(fP:Value)(es:List MapEntry)(i:Nat)(r:aW (Nat×Value)):Prop:=match cg with
 | .a _=>(Instr.findAsking t fP es i).run P w= .ok r w
 |_=> ∀d,P.underlying t=some d->Instr.findNow d fP es i=some r
theorem iC.nil(P:bS)(w:World)(cg:kJ)(t:fX)(fP:Value)(i:Nat):iC P w cg t fP [] i none:=by cases cg<;>simp[iC,Instr.findAsking,Instr.findNow]
theorem iC.hit{P:bS}{w:World}{cg:kJ}{t:fX}{fP:Value}{e:MapEntry}{es:List MapEntry}{i:Nat}(h:uC P w cg t fP e.key true):iC P w cg t fP (e::es) i (some (i,e.val)):=by
 cases cg with
 |a ef=>simp only[uC]at h;simp[iC,Instr.findAsking,h]
 |i=>simp only[uC]at h;simp only[iC];intro d aI;simp[Instr.findNow,h d aI]
 |s=>simp only[uC]at h;simp only[iC];intro d aI;simp[Instr.findNow,h d aI]
theorem iC.miss{P:bS}{w:World}{cg:kJ}{t:fX}{fP:Value}{e:MapEntry}{es:List MapEntry}{i:Nat}{r:aW (Nat×Value)}(h:uC P w cg t fP e.key false)(hr:iC P w cg t fP es (i+1) r):iC P w cg t fP (e::es) i r:=by
 cases cg with
 |a ef=>simp only[uC]at h;simp only[iC]at hr;simp[iC,Instr.findAsking,h,hr]
 |i=>simp only[uC]at h;simp only[iC]at hr⊢;intro d aI;simp[Instr.findNow,h d aI,hr d aI]
 |s=>simp only[uC]at h;simp only[iC]at hr⊢;intro d aI;simp[Instr.findNow,h d aI,hr d aI]
theorem iC.run{P:bS}{w:World}{cg:kJ}{t:fX}(aI:vD P cg t){fP:Value}{es:List MapEntry}{r:aW (Nat×Value)}(h:iC P w cg t fP es 0 r):(Instr.findKey t fP es).run P w= .ok r w:=by
 cases aI with
 |i hu=>simp only[iC]at h;simp[Instr.findKey,run_underlying hu,h _ hu]
 |s hu=>simp only[iC]at h;simp[Instr.findKey,run_underlying hu,h _ hu]
 |a hu aS e7=>
  simp only[iC]at h;cases es with
  |nil=>simp[Instr.findAsking]at h;simp[Instr.findKey,run_underlying hu,Instr.findNow,h]
  |cons e es=>
   rename_i gs;have:Instr.sameNow (.struct gs) fP e.key=none:=by cases fP<;>rfl
   simp only[Instr.findKey,fu,run_underlying hu,fw,Instr.findNow,this];exact h
theorem Ud{P:bS}{w:World}{ν:aQ}{cg:kJ}{t:fX}(aI:vD P cg t){k bn:ae}{fP u:Value}(ab:aJ w ν k fP)(I:aJ w ν bn u){iq:Bool}(ah:wF cg k bn=some iq):
  uC P w cg t fP u iq/\(iq=true->u=fP/\Instr.sameBits 10000 u fP=true):=by
 unfold wF at ah;split at ah
 ·split at ah
  ·rename_i jF;subst jF;simp only[aJ]at ab I;subst ab;subst I;cases aI with
   |i hu=>refine⟨fun d aI=>by rw[hu]at aI;cases aI;simpa[Instr.sameNow]using ah,fun e=>?_⟩;subst e;simp only[ei,eA]at ah;subst ah;exact⟨rfl,by simp[Instr.sameBits]⟩
  ·cases ah
 ·rename_i a b;simp only[aJ]at ab I;obtain⟨rfl,_⟩:=ab;obtain⟨rfl,_⟩:=I;cases aI with
  |s hu=>
   refine⟨fun d aI=>?_,fun e=>?_⟩
   ·rw[hu]at aI;cases aI;simp only[Instr.sameNow];rw[<-ah];congr 1;rw[Bool.eq_iff_iff,MapKept.bytes_beq];simp
   ·subst e;simp only[ei,eA]at ah;subst ah;exact⟨rfl,by simp only[Instr.sameBits];exact(MapKept.bytes_beq _ _).2 rfl⟩
 ·simp only[aJ]at ab I;obtain⟨X,rfl,ab⟩:=ab;obtain⟨Y,rfl,I⟩:=I;cases aI with
  |a hu aS e7=>obtain⟨i1,i2,i3⟩:=QY hu aS e7 ab I ah;refine⟨by simpa[uC,Op.equal,Op.maxDepth]using i1,fun e=>?_⟩;have:=i2 e;subst this;exact⟨rfl,by simp[Instr.sameBits,i3]⟩
 ·cases ah
theorem L6{P:bS}{w:World}{ν:aQ}{cg:kJ}{t:fX}(aI:vD P cg t){k:ae}{fP:Value}(ab:aJ w ν k fP):∀(borns:List Nat) (kvs:List ae) (us:List Value) (i:Nat) (r:aW ae),cz w ν kvs us->kvs.length=2*borns.length->vd cg k kvs=some r->
  match r with
  |none=>iC P w cg t fP (fZ borns us) i none
  |some v=> ∃j u,iC P w cg t fP (fZ borns us) i (some (j,u))/\aJ w ν v u
 |[],[],us,i,r,h,_,hm=>by simp only[vd]at hm;cases hm;simp only[cz]at h;subst h;simpa[fZ]using iC.nil P w cg t fP i
 |[],_::_,_,_,_,_,aD,_=>by simp at aD
 |b::e4,[],_,_,_,_,aD,_=>by simp at aD
 |b::e4,[_],_,_,_,_,aD,_=>by simp at aD;omega
 |b::e4,bn::v::kvs,us,i,r,h,aD,hm=>by
  simp only[cz]at h;obtain⟨iK,Ch,rfl,I,h9,pN,rfl,J,au⟩:=h;simp only[vd]at hm;simp only[fZ];cases bp:wF cg k bn with
  |none=>simp[bp]at hm
  |some iq=>
   obtain⟨s1,_⟩:=Ud aI ab I bp;simp only[bp]at hm;cases iq with
   |true=>simp only[ei]at hm;subst hm;exact⟨i,h9,iC.hit (e:=⟨iK,h9,b⟩) s1,J⟩
   |false=>
    simp only at hm;have aX:=L6 aI ab e4 kvs pN (i+1) r au (by simp at aD;omega) hm;cases r with
    |none=>exact iC.miss (e:=⟨iK,h9,b⟩) s1 aX
    |some v'=>obtain⟨j,u,g1,g2⟩:=aX;exact⟨j,u,iC.miss (e:=⟨iK,h9,b⟩) s1 g1,g2⟩
theorem Jp{P:bS}{w:World}{t:Nat}{d:TypeDesc}(hu:P.underlying t=some d)(aI:(∃k,d= .int k)\/d= .string)(e:Bool)(n:Nat)(v:Value):(Instr.checkKey e (n+1) t v).run P w= .ok () w:=by unfold Instr.checkKey;rcases aI with⟨k,rfl⟩|rfl<;>simp[run_underlying hu]
theorem acv{P:bS}{w:World}{ν:aQ}{X:Array Value}(ef:List Bool):∀(gs:List Field) (n:Nat) (as:List ae),rA P n ef gs->ck w ν as (X.toList.drop n)->(lx ef as as).isSome=true->
  ∀f∈gs,(∃v,(part f.type X f.offset).run P w= .ok v w)/\∃d,P.underlying f.type=some d/\((∃k,d= .int k)\/d= .string):=by
 induction ef with
 |nil=>intro gs n as aS _ _ f aK;cases gs<;>simp only[rA]at aS;cases aK
 |cons za r aX=>
  intro gs n as aS hr aH f aK;cases gs with
  |nil=>cases aK
  |cons g gs=>
  simp only[rA]at aS;obtain⟨⟨GM,fV,lX⟩,aS⟩:=aS;cases as with
  |nil=>cases za<;>simp[lx]at aH
  |cons p as=>
  have lR:(lx r as as).isSome=true:=by cases za<;>cases p<;>simp[lx]at aH⊢ <;>exact aH
  simp only[ck]at hr;obtain⟨u,bE,e,_,cp⟩:=hr;have aL:X.toList.drop (n+1)=bE:=by rw[<-List.tail_drop,e];rfl
  have Es:X[n]? =some u:=by rw[<-Array.getElem?_toList,<-List.head?_drop,e];rfl
  rcases gy.1 aK with rfl|aK
  ·refine⟨⟨u,by rw[GM];exact run_part_plain w (Ev lX) Es⟩,?_⟩;cases za
   ·obtain⟨k,h⟩:=(by simpa using lX:∃k,P.underlying f.type=some (.int k));exact⟨_,h,.inl ⟨k,rfl⟩⟩
   ·exact⟨_,by simpa using lX,.inr rfl⟩
  ·exact aX gs (n+1) as aS (by rw[aL];exact cp) lR f aK
theorem RH{P:bS}{w:World}{α:Type}(body:α->PUnit->Sem (ForInStep PUnit)):∀(l:List α),(∀f∈l,(body f ⟨⟩).run P w= .ok (.yield ⟨⟩) w)->(forIn l PUnit.unit body).run P w= .ok PUnit.unit w
 |[],_=>by simp
 |f::l,h=>by simp only[List.forIn_cons,fu,h f Ψ,fw];exact RH body l fun g aS=>h g (by simp[aS])
theorem Np{P:bS}{w:World}{ν:aQ}{cg:kJ}{t:Nat}(aI:vD P cg t)(e:Bool){k:ae}{v:Value}(ab:aJ w ν k v)(aw:zD cg k=true):(Instr.checkKey e 10000 t v).run P w= .ok () w:=by
 cases aI with
 |i hu=>exact Jp hu (.inl ⟨_,rfl⟩) e 9999 v
 |s hu=>exact Jp hu (.inr rfl) e 9999 v
 |a hu aS e7=>
  rename_i ef gs;cases k<;>simp only[zD,kG]at aw;rename_i as;simp only[aJ]at ab;obtain⟨X,rfl,ab⟩:=ab;unfold Instr.checkKey;simp only[fu,run_underlying hu,fw];rw[<-Array.forIn_toList];rw[RH]
  ·simp
  ·intro f aK;obtain⟨⟨v,I⟩,d,J,au⟩:=acv ef gs.toList 0 as aS (by simpa using ab) aw f aK;have aP:=Jp (w:=w) J au e 9998 v;by_cases aM:f.name= "_"
   ·simp[aM]
   ·simp[aM,I,aP]
theorem UG{w:World}{ν:aQ}{n:Nat}:∀(borns:List Nat) (kvs:List ae) (us:List Value) (p:ae),cz w ν kvs us->pC n borns kvs=some p->∃e,(fZ borns us).find? (·.born==n)=some e/\aJ w ν p (.tuple #[e.key,e.val])
 |[],_,_,_,_,hm=>by simp[pC]at hm
 |_::_,[],_,_,_,hm=>by simp[pC]at hm
 |_::_,[_],_,_,_,hm=>by simp[pC]at hm
 |b::e4,k::v::kvs,us,p,h,hm=>by
  simp only[cz]at h;obtain⟨iK,Ch,rfl,I,h9,pN,rfl,J,au⟩:=h;simp only[pC]at hm;simp only[fZ];by_cases e:b=n
  ·rw[if_pos e]at hm;cases hm;refine⟨⟨iK,h9,b⟩,by simp[List.find?,e],?_⟩;simp only[aJ];exact⟨#[iK,h9],rfl,by simp only[cz];exact⟨_,_,rfl,I,_,_,rfl,J,rfl⟩⟩
  ·rw[br e]at hm;obtain⟨x,g1,g2⟩:=UG e4 kvs pN p au hm;have adH:(b==n)=false:=by simpa using e
   exact⟨x,by simp[List.find?,adH,g1],g2⟩
theorem XS{P:bS}{bk:List (Nat×dh)}(aE:eW P bk=true){C:eK}{st:aU}{a:Act}{w:World}{ν:aQ}(hr:cm C st a w ν){i:gC}(adG:∀cg z ok x k,i≠ .mgetB cg z ok x k){o:Oper}(aq:E6 bk i o.op=true)
  {c:Prop} {p:ae} (he:hk st i=some (c,p)) (aH:c):∃v,(execOp a.eval o).run P w= .ok (.value v) w/\aJ w ν p v:=by
 obtain⟨dst,op,type,pos,after,guard⟩:=o;simp only at aq;unfold E6 at aq;split at aq
 ·rename_i x o;simp only[hk]at he;cases he;exact⟨_,rfl,eD hr aq⟩
 ·rename_i x o;simp only[hk]at he;cases he;exact⟨_,rfl,eD hr aq⟩
 ·rename_i hY x y aml qz y';simp only[bJ]at aq;have I:=eD hr aq.1.1;have J:=eD hr aq.1.2;have au:=eD hr aq.2;simp only[hk,HE]at he;split at he
  ·rename_i b ah;rw[ah]at I;simp only[aJ]at I;split at he
   ·rename_i u v hu aN;cases he;rw[hu]at J;rw[aN]at au;simp only[aJ]at J au;refine⟨.bool (cond b u v),?_,by simp[aJ]⟩;simp only[execOp,I,J,au,asBool,fu,gq,fw];cases b<;>rfl
   ·split at he
    ·cases he;exact⟨_,by simp only[execOp,I,asBool,fu,gq,fw,if_true],J⟩
    ·cases he;exact⟨_,by simp only[execOp,I,asBool,fu,gq,fw,kG,if_false],au⟩
  ·cases he
 ·rename_i agg sz x t o;simp only[bJ]at aq;obtain⟨I,J⟩:=aq;split at I
  ·rename_i f aK;simp only[bJ,eA]at I;obtain⟨rfl,rfl⟩:=I;obtain⟨v,g1,g2⟩:=Hc aE hr.good aK (eD hr J) (by simpa only[hk]using he) aH;exact⟨v,kY g1,g2⟩
  ·cases I
 ·rename_i off agg sz x s o i;simp only[bJ]at aq;obtain⟨I,J⟩:=aq;split at I
  ·rename_i f aK;split at I
   ·rename_i yd t Dq;simp only[bJ,eA]at I;obtain⟨rfl,I⟩:=I;split at I
    ·rename_i g aS;simp only[bJ,eA,bne_iff_ne,ne_eq]at I;obtain⟨⟨rfl,rfl⟩,bz⟩:=I;obtain⟨v,g1,g2⟩:=acn aE aK rfl Dq aS bz (eD hr J) (by simpa only[hk]using he) aH;exact⟨v,kY g1,g2⟩
    ·cases I
   ·cases I
  ·cases I
 ·rename_i off agg sz x s o i;simp only[bJ]at aq;obtain⟨I,J⟩:=aq;split at I
  ·rename_i f aK;split at I
   ·rename_i yd t Dq;simp only[bJ,eA]at I;obtain⟨rfl,I⟩:=I;split at I
    ·rename_i g aS;simp only[bJ,eA]at I;obtain⟨rfl,rfl⟩:=I;obtain⟨v,g1,g2⟩:=acw aE aK rfl Dq aS (eD hr J) (by simpa only[hk]using he) aH;exact⟨v,kY g1,g2⟩
    ·cases I
   ·cases I
  ·cases I
 ·rename_i sz x i t o j;simp only[bJ]at aq;obtain⟨⟨I,J⟩,au⟩:=aq;split at I
  ·rename_i e aK;split at I
   ·rename_i g aS;simp only[eA]at I;subst I;obtain⟨v,g1,g2⟩:=afr aE aK rfl aS (eD hr J) (eD hr au) (by simpa only[hk]using he) aH;exact⟨v,kY g1,g2⟩
   ·cases I
  ·cases I
 ·rename_i x i t o j;simp only[bJ]at aq;obtain⟨⟨I,J⟩,au⟩:=aq;split at I
  ·rename_i aK;obtain⟨d,aI,fC⟩:=h7 aE aK;obtain rfl:=xr fC;have ao:=eD hr J;have aL:=eD hr au;simp only[hk,Ic]at he;split at he
   ·rename_i s k n az aM;cases he;rw[az]at ao;rw[aM]at aL;simp only[aJ]at ao aL;obtain⟨wa,jd⟩:=aH;have b5:n.toNat<s.length:=Ω
    have SN:(⟨s.toArray⟩:k1)[n.toNat]? =some (s.getD n.toNat 0):=by exact ac6 s n.toNat b5
    refine⟨_,kY (v:= .int .u8 (s.getD n.toNat 0).toNat) ?_,by simp[aJ]⟩;simp only[Instr.index,aL,asIntOf,ao.1,fu,gq,fw,run_underlying aI,wa,if_true,SN]
   ·cases he
  ·cases I
 ·rename_i x lo aw t o l h;simp only[bJ]at aq;obtain⟨⟨⟨I,J⟩,au⟩,aP⟩:=aq;split at I
  ·rename_i aK;obtain⟨d,aI,fC⟩:=h7 aE aK;obtain rfl:=xr fC;have ao:=eD hr J;simp only[hk,Ig]at he;split at he
   ·rename_i s az;rw[az]at ao;simp only[aJ]at ao;split at he
    ·rename_i q5 bR aD KC;cases he;obtain⟨cF,c2,c3⟩:=aH;have cD:=HB hr au aD;have dI:=HB hr aP KC;refine⟨_,kY (v:= .string ⟨((s.take bR.toNat).drop q5.toNat).toArray⟩) ?_,?_⟩
     ·have ah:=Pa P w false s.length s.length (l.map a.eval) (h.map a.eval) q5 bR
       cD dI cF c2 c3 (cc _)
      simp only[Instr.sliceAt,Instr.slice,ao.1,fu,gq,fw,run_underlying aI,vC,uu,kG,if_false,EU,ah,abm]
     ·simp only[aJ];refine⟨trivial,?_⟩;have:=ao.2;simp only[hX,pS];omega
    ·cases he
   ·cases he
  ·cases I
 ·rename_i sz x lo aw t o l h;simp only[bJ]at aq;obtain⟨⟨⟨I,J⟩,au⟩,aP⟩:=aq;split at I
  ·rename_i e aK;split at I
   ·rename_i g aS;simp only[eA]at I;subst I;obtain⟨d,aI,fC⟩:=h7 aE aK;obtain rfl:=rP fC;obtain⟨_,dz⟩:=w4 aE aS w;have ao:=eD hr J;simp only[hk,He]at he;split at he
    ·rename_i dL tag xs az;split at he
     ·rename_i ff;subst ff;rw[az]at ao;simp only[aJ]at ao;obtain⟨⟨mL,cap,aN,cq,cE,gD⟩,_⟩:=ao;split at he
      ·rename_i q5 bR aD KC;cases he;obtain⟨cF,c2,c3⟩:=aH;have cD:=HB hr au aD;have dI:=HB hr aP KC;have ah:=Pa P w true xs.length cap (l.map a.eval) (h.map a.eval) q5 bR
        cD dI cF c2 c3 cq
       refine⟨_,kY (v:= .slice (if cap=q5.toNat then mL else mL.map (·.add (q5.toNat*g.size))) (bR.toNat-q5.toNat) (cap-q5.toNat)) ?_,?_⟩
       ·simp only[Instr.sliceAt,Instr.slice,aN,fu,gq,fw,run_underlying aI,vC,ah,dz]
       ·simp only[aJ];have hlen:((xs.take bR.toNat).drop q5.toNat).length=bR.toNat-q5.toNat:=by simp;omega
        refine⟨⟨_,_,by rw[hlen],by rw[hlen];omega,⟨Ω,by rw[hlen];omega⟩,?_⟩,(fun h=>by cases h),(fun g h=>by cases h),(fun _ _ h=>by cases h),(fun _ h=>by cases h)⟩;rcases gD with rfl|⟨b,off,us,rfl,g1,g2⟩
        ·left;simp
        ·by_cases tg:cap=q5.toNat
         ·left;apply sI;rw[hlen];omega
         ·right;rw[br tg];refine⟨b,off+q5.toNat*g.size,(us.take (bR.toNat*g.size)).drop (q5.toNat*g.size),by simp[o6],G8 _ (G9 _ g1),Wu _ (Wy _ g2)⟩
      ·cases he
     ·cases he
    ·cases he
   ·cases I
  ·cases I
 ·rename_i op wr x y Vx ty o o' XJ;simp only[bJ,fs]at aq;obtain⟨⟨rfl,I⟩,J⟩:=aq;obtain⟨r,g1,g2⟩:=Y2 P w ν (by simpa only[hk]using he) aH ty (eD hr I) (eD hr J) o o';exact⟨r,kY g1,g2⟩
 ·rename_i x op ty o;simp only[bJ,fs]at aq;obtain⟨rfl,I⟩:=aq;have ao:=eD hr I;simp only[hk]at he;unfold Hr at he;split at he
  ·rename_i b ah;cases he;rw[ah]at ao;simp only[aJ]at ao;exact⟨_,kY (v:= .bool (!b)) (by simp[Op.unary,ao]),by simp[aJ]⟩
  ·cases he
 ·rename_i x op ty o;simp only[bJ,fs]at aq;obtain⟨rfl,I⟩:=aq;have ao:=eD hr I;simp only[hk]at he;unfold Hm at he;split at he
  ·rename_i k n ah;cases he;rw[ah]at ao;simp only[aJ]at ao;exact⟨_,kY (v:= .int k (k.wrap (0-n))) (by simp[Op.unary,ao,Op.intArith]),by simp[aJ]⟩
  ·cases he
 ·rename_i k x s d o;simp only[bJ]at aq;obtain⟨I,J⟩:=aq;split at I
  ·rename_i cD dI mS jH;simp only[fs]at I;subst I;obtain⟨d1,ku,Ku⟩:=h7 aE mS;obtain rfl:=CT Ku;obtain⟨d2,iH,Kv⟩:=h7 aE jH;obtain rfl:=CT Kv;have ao:=eD hr J;simp only[hk]at he;unfold FF at he;split at he
   ·rename_i bn n ah;cases he;rw[ah]at ao;simp only[aJ]at ao;exact⟨_,kY (v:= .int k (k.wrap n)) (by simp[convert,ao,run_underlying ku,run_underlying iH,Conv.intToInt]),by simp[aJ]⟩
   ·cases he
  ·cases I
 ·rename_i i x o j;simp only[bJ,eA]at aq;obtain⟨rfl,I⟩:=aq;have ao:=eD hr I;simp only[hk]at he;unfold FX at he;split at he
  ·rename_i vs ah;simp only[iN]at he;obtain⟨q,bp,he⟩:=he;cases he;rw[ah]at ao;simp only[aJ]at ao;obtain⟨us,hu,J⟩:=ao;obtain⟨v,g1,g2⟩:=B0 i J bp;have acF:us[i]? =some v:=by simpa using g1
   exact⟨v,kY (by simp[Instr.extract,hu,acF]),g2⟩
  ·cases he
 ·rename_i x o t;simp only[bJ]at aq;obtain⟨I,J⟩:=aq;have ao:=eD hr J;simp only[hk]at he;unfold Bv at he;split at he
  ·rename_i sz tag xs ah;cases he;rw[ah]at ao;simp only[aJ]at ao;obtain⟨⟨mL,cap,aN,_⟩,_⟩:=ao;refine⟨.int .i64 xs.length,?_,by simp[aJ]⟩;split at I
   ·rename_i aK;obtain⟨d,aI,fC⟩:=h7 aE aK;obtain rfl:=rP fC;simp[execOp,resolve,invoke,builtin,Builtin.len_,run_underlying aI,aN,goInt]
   ·cases I
  ·rename_i sz k n ah;cases he;rw[ah]at ao;simp only[aJ]at ao;obtain⟨⟨mL,cap,aN⟩,_⟩:=ao;refine⟨.int .i64 n,?_,by simp[aJ]⟩;split at I
   ·rename_i aK;obtain⟨d,aI,fC⟩:=h7 aE aK;obtain rfl:=rP fC;simp[execOp,resolve,invoke,builtin,Builtin.len_,run_underlying aI,aN,goInt]
   ·cases I
  ·rename_i mL n cap ah;cases he;rw[ah]at ao;simp only[aJ]at ao;refine⟨.int .i64 n,?_,by simp[aJ]⟩;split at I
   ·rename_i aK;obtain⟨d,aI,fC⟩:=h7 aE aK;obtain rfl:=rP fC;simp[execOp,resolve,invoke,builtin,Builtin.len_,run_underlying aI,ao,goInt]
   ·cases I
  ·cases he
 ·rename_i x o t;simp only[bJ]at aq;obtain⟨I,J⟩:=aq;have ao:=eD hr J;simp only[hk]at he;unfold EV at he;split at he
  ·rename_i s ah;cases he;rw[ah]at ao;simp only[aJ]at ao;refine⟨.int .i64 s.length,?_,by simp[aJ]⟩;split at I
   ·rename_i aK;obtain⟨d,aI,fC⟩:=h7 aE aK;obtain rfl:=xr fC;simp[execOp,resolve,invoke,builtin,Builtin.len_,run_underlying aI,ao.1,goInt,EU]
   ·cases I
  ·rename_i s ah;cases he;rw[ah]at ao;simp only[aJ]at ao;refine⟨.int .i64 s.size,?_,by simp[aJ]⟩;split at I
   ·rename_i aK;obtain⟨d,aI,fC⟩:=h7 aE aK;obtain rfl:=xr fC;simp[execOp,resolve,invoke,builtin,Builtin.len_,run_underlying aI,ao,goInt]
   ·cases I
  ·cases he
 ·rename_i zero parts t bj;split at aq
  ·rename_i ef z aK;simp only[bJ]at aq;obtain⟨⟨I,J⟩,au⟩:=aq;obtain⟨c7,cK,afq⟩:=alw I;obtain⟨i,d,alr,ao,aL,bB,b9,ee,dC,nu,pd⟩:=(vu aE aK).ex;obtain⟨gs,rfl,hb⟩:=JF ee;simp only at cK nu pd;subst cK;have mm:(gs.toList.all fun f=>(eh bk f.type).isSome)=true:=by rw[<-hb]at J;simpa[List.all_map,Function.comp_def]using J
   obtain⟨places,ij,gA⟩:=VC aE gs.toList mm;rw[hb]at gA;cases alr<;>simp only[Ag]at nu;case agg us=>
    simp only[hk]at he;cases ah:vL st.t zero parts with
    |none=>simp[ah]at he
    |some x=>obtain⟨hY,cs'⟩:=x;simp only[ah,lM]at he;cases he;obtain⟨bE,g1,g2⟩:=WR hr gA parts bj.toList zero us c cs' au (Yn afq (Ow w ν _ _ nu)) ah aH;refine⟨.agg bE,kY (run_build w t _ bE ?_),by simp only[aJ];exact⟨bE,rfl,g2⟩⟩;simp only[Program.built,ao,aL,dC,ij,nO];simpa using g1
   all_goals cases nu
  ·cases aq
 ·rename_i x o;have ao:=eD hr aq;simp only[hk]at he;unfold BD at he;split at he
  ·rename_i k off ah;cases he;rw[ah]at ao;have aL:=ao;simp only[aJ]at ao;obtain⟨b,_,aN⟩:=ao;exact⟨a.eval o,by simp[execOp,aN],aL⟩
  ·rename_i q ah;cases he;rw[ah]at ao;have aL:=ao;simp only[aJ]at ao;obtain⟨b,off,u,aN,_⟩:=ao;exact⟨a.eval o,by simp[execOp,aN],aL⟩
  ·rename_i f cs ah;cases he;rw[ah]at ao;have aL:=ao;simp only[aJ]at ao;obtain⟨us,aN,_⟩:=ao;have u4:a.eval o= .func (.func f) #[] us\/a.eval o= .func (.func (w7 f)) us #[]:=by rw[aN];unfold uS;split;exact .inl rfl;exact .inr rfl
   exact⟨a.eval o,by rcases u4 with u4|u4<;>simp[execOp,u4],aL⟩
  ·cases he
 ·rename_i x y o o' t t';simp only[bJ]at aq;have ao:=eD hr aq.1;have aL:=eD hr aq.2;simp only[hk]at he;unfold Hi at he;split at he
  ·rename_i k m bn n hm aM;split at he
   ·rename_i ab;subst ab;cases he;rw[hm]at ao;rw[aM]at aL;simp only[aJ]at ao aL;exact⟨.int k (if n<m then n else m),by simp[execOp,resolve,invoke,builtin,Builtin.min_,Builtin.min2,ao,aL],by simp[aJ]⟩
   ·cases he
  ·cases he
 ·rename_i n xs m os;simp only[bJ,fs]at aq;obtain⟨⟨rfl,aM⟩,aq⟩:=aq;simp only[hk]at he;cases he;have iQ:=zS hr aq;refine⟨.func (.func n) #[] (os.map a.eval),by simp[execOp,Instr.makeFunc],?_⟩;simp only[aJ];exact⟨os.map a.eval,by simp[uS,aM],by simpa using iQ⟩
 ·rename_i n xs m e4 _;simp only[bJ,fs]at aq;obtain⟨rfl,aq⟩:=aq;simp only[hk]at he;cases he;have iQ:=zS hr aq;refine⟨.func (.func m) (e4.map a.eval) #[],by simp[execOp,Instr.makeFunc],?_⟩;simp only[aJ];exact⟨e4.map a.eval,(acx m _).symm,by simpa using iQ⟩
 ·rename_i cg zero ok x k t o o' Hs;simp only[bJ,eA]at aq;obtain⟨⟨⟨rfl,I⟩,J⟩,au⟩:=aq;have ao:=eD hr J;have aL:=eD hr au;split at I
  ·rename_i sz lO dS p0 z aK;simp only[bJ]at I;obtain⟨aev,Ky⟩:=I;split at Ky
   ·rename_i am7 zl;have cK:=Oy Ky;obtain⟨gP,hu,fC⟩:=h7 aE aK;have gv:gP= .map dS p0:=by cases gP<;>simp[mi]at fC;obtain⟨rfl,rfl⟩:=fC;rfl
    subst gv;obtain⟨bh,Ff,z2,_⟩:=NU aE zl w;rw[<-cK]at z2;have ag:=(Ox w ν z2).1;have mR:=LH aE aev;simp only[hk]at he;unfold pD at he;split at he
    ·rename_i key af;rw[af]at ao;simp only[aJ]at ao;obtain⟨bl,cq,cE⟩:=ao;split at he
     ·rename_i clock borns kvs hS;obtain⟨hx,us,el,g1,g2,g3,g4,g5⟩:=hr.good.box key _ hS;rw[cq]at g1;cases g1;simp only[jr]at g4;simp only[iw]at g5;have mo:(getObj bl).run P w= .ok (.map (fZ borns us.toList).toArray clock) w:=w1 g4;split at he
      ·cases he
      rename_i eT;have xM:=Np (P:=P) (w:=w) mR ((fZ borns us.toList).toArray.isEmpty) aL (by simpa using eT);split at he
      ·rename_i v hm;cases he;obtain⟨j,u,f1,f2⟩:=L6 mR aL borns kvs us.toList 0 _ g5.1 g5.2.len hm;refine⟨if ok then .tuple #[u,.bool true]else u,?_,?_⟩
       ·simp only[execOp];refine kY ?_;simp only[Instr.lookup,fu,run_underlying hu,fw,cE,mo,gq,xM,f1.run mR]
       ·cases ok
        ·simpa using f2
        ·simp only[if_true,aJ];exact⟨_,rfl,by simp only[cz];exact⟨_,_,rfl,f2,_,_,rfl,by simp[aJ],rfl⟩⟩
      ·rename_i hm;cases he;have f1:=L6 mR aL borns kvs us.toList 0 _ g5.1 g5.2.len hm;simp only at f1;refine⟨if ok then .tuple #[bh,.bool false]else bh,?_,?_⟩
       ·simp only[execOp];refine kY ?_;simp only[Instr.lookup,fu,run_underlying hu,fw,cE,mo,gq,xM,f1.run mR,Ff]
       ·cases ok
        ·simpa using ag
        ·simp only[if_true,aJ];exact⟨_,rfl,by simp only[cz];exact⟨_,_,rfl,ag,_,_,rfl,by simp[aJ],rfl⟩⟩
      ·cases he
     ·cases he
    ·cases he
   ·cases Ky
  ·cases I
 ·rename_i x o;have ao:=eD hr aq;simp only[hk]at he;unfold vc at he;split at he
  ·rename_i hU af;rw[af]at ao;simp only[aJ]at ao;obtain⟨bl,cq,cE⟩:=ao;split at he
   ·rename_i since seen last mk hS;obtain⟨hx,us,el,g1,g2,g3,g4,g5⟩:=hr.good.box hU _ hS;rw[cq]at g1;cases g1;simp only[jr]at g4;simp only[iw,cz,aJ]at g5;obtain⟨u,bE,kR,⟨q6,m1,rfl⟩,rfl⟩:=g5;rw[kR]at g4;simp only at g4;split at he
    ·rename_i clock borns kvs aeF;obtain⟨Y3,pN,aah,cD,dI,hA,kz,r1⟩:=hr.good.box mk _ aeF;rw[m1]at cD;cases cD;simp only[jr]at kz;simp only[iw]at r1;split at he
     ·rename_i n aM;simp only[iN]at he;obtain⟨q,bp,he⟩:=he;cases he;obtain⟨e,f1,f2⟩:=UG borns kvs pN.toList p r1.1 bp;refine⟨.tuple #[e.key,e.val],?_,f2⟩;simp only[execOp];refine kY ?_;have aeh:(getObj bl).run P w= .ok (.mapIter (some q6) since seen.toArray last) w:=w1 g4;have aei:(getObj q6).run P w= .ok (.map (fZ borns pN.toList).toArray clock) w:=w1 kz;have uW:seen.toArray.back? =some n:=by simpa using aM
      have xN:(clock !=last)=false:=by simp[aH]
      have ad9:(fZ borns pN.toList).toArray.find? (·.born==n)=some e:=by simpa using f1
      simp only[Instr.entry,cE,fu,aeh,fw,uW,aei,xN,kG,if_false,ad9,gq]
     ·cases he
    ·cases he
   ·cases he
  ·cases he
 ·rename_i x o t;simp only[bJ]at aq;obtain⟨I,J⟩:=aq;have ao:=eD hr J;simp only[hk]at he;unfold wK at he;split at he
  ·rename_i key ah;rw[ah]at ao;simp only[aJ]at ao;obtain⟨bl,cq,cE⟩:=ao;split at he
   ·rename_i clock borns kvs hS;cases he;obtain⟨hx,us,el,g1,g2,g3,g4,g5⟩:=hr.good.box key _ hS;rw[cq]at g1;cases g1;simp only[jr]at g4;simp only[iw]at g5;have mo:(getObj bl).run P w= .ok (.map (fZ borns us.toList).toArray clock) w:=w1 g4;have hlen:(fZ borns us.toList).length=borns.length:=QW g5.2.len (WD g5.1);refine⟨.int .i64 borns.length,?_,by simp[aJ]⟩;split at I
    ·rename_i aK;obtain⟨d,aI,fC⟩:=h7 aE aK;obtain⟨dS,p0,rfl⟩:∃dS p0,d= .map dS p0:=by cases d<;>simp[mi]at fC;exact⟨_,_,rfl⟩
     simp[execOp,resolve,invoke,builtin,Builtin.len_,run_underlying aI,cE,goInt,mo,hlen]
    ·cases I
   ·cases he
  ·cases he
 ·rename_i neg ef x y op t o o' XJ;simp only[bJ,fs]at aq;obtain⟨⟨⟨rfl,bz⟩,I⟩,J⟩:=aq;have ao:=eD hr I;have aL:=eD hr J;simp only[hk]at he;unfold Fq at he;split at he
  ·rename_i ch gV bL ah;simp only at bz;cases he;rw[bL]at ao;rw[ah]at aL;simp only[aJ]at ao aL;split at bz
   ·rename_i aK;obtain⟨d,aI,fC⟩:=h7 aE aK;obtain rfl:d= .bool:=by cases d<;>simp[mi]at fC;rfl
    refine⟨.bool (if neg then ch !=gV else ch==gV),kY ?_,by simp[aJ]⟩;cases neg<;>simp[ao,aL,eqGuard,binOp,aao aI,bne]
   ·cases bz
  ·rename_i anh as e4 bL ah;simp only at bz;simp only[iN]at he;obtain⟨q,bp,he⟩:=he;cases he;rw[bL]at ao;rw[ah]at aL;simp only[aJ]at ao aL;obtain⟨X,aac,aii⟩:=ao;obtain⟨Y,aad,aij⟩:=aL;obtain⟨gs,hu,aS,e7,jl⟩:=RD aE bz;obtain⟨i1,_,_⟩:=QY hu aS e7 aii aij bp;refine⟨.bool (if neg then !q else q),kY ?_,by simp[aJ]⟩;rw[aac,aad];cases neg
   ·simp only[kG,if_false,fu,run_eqGuard_agg w _ t o o' X Y jl,fw,run_eql_struct,i1]
   ·simp only[if_true,fu,run_eqGuard_agg w _ t o o' X Y jl,fw,run_neq_struct,i1]
  ·cases he
 ·rename_i x y o o' t t';simp only[bJ]at aq;have ao:=eD hr aq.1;have aL:=eD hr aq.2;simp only[hk]at he;unfold Hg at he;split at he
  ·rename_i k m bn n hm aM;split at he
   ·rename_i ab;subst ab;cases he;rw[hm]at ao;rw[aM]at aL;simp only[aJ]at ao aL;exact⟨.int k (if m<n then n else m),by simp[execOp,resolve,invoke,builtin,Builtin.max_,Builtin.max2,ao,aL],by simp[aJ]⟩
   ·cases he
  ·cases he
 ·rename_i t x t' o;simp only[bJ,eA]at aq;obtain⟨⟨rfl,I⟩,J⟩:=aq;have ao:=eD hr J;simp only[hk]at he;cases he;split at I
  ·rename_i aK;obtain⟨d,aI,fC⟩:=h7 aE aK;obtain rfl:=rP fC;refine⟨.iface t (a.eval o),kY (by simp[Instr.makeInterface,run_underlying aI]),?_⟩;simp only[aJ];exact⟨_,rfl,ao⟩
  ·cases I
 ·rename_i agg sz x t o;simp only[bJ]at aq;obtain⟨I,J⟩:=aq;split at I
  ·rename_i f aK;simp only[bJ,eA]at I;obtain⟨rfl,rfl⟩:=I;obtain⟨v,g1,g2⟩:=Hc aE hr.good aK (eD hr J) (agc (by simpa only[hk]using he)) aH;exact⟨v,kY g1,g2⟩
  ·cases I
 ·rename_i x s d o;simp only[bJ]at aq;obtain⟨I,J⟩:=aq;split at I
  ·rename_i e _ _ mS jH;split at I
   ·rename_i ad8;obtain⟨d1,ku,Ku⟩:=h7 aE mS;obtain rfl:=rP Ku;obtain⟨d2,iH,Kv⟩:=h7 aE jH;obtain rfl:=xr Kv;obtain⟨d3,adS,ad0⟩:=h7 aE ad8;obtain rfl:=CT ad0;have ao:=eD hr J;simp only[hk]at he;unfold Fo at he;split at he
    ·rename_i sz tag xs ah;simp only[iN]at he;obtain⟨e4,v7,he⟩:=he;cases he;rw[ah]at ao;simp only[aJ]at ao;obtain⟨⟨mL,cap,b0,cS,dT,dY⟩,_⟩:=ao;have aD:=Pe v7;have af:∃ns:List Int,ns.length=xs.length/\e4=ns.map Aq/\(xs.length=0\/ ∃b off,mL=some ⟨b,off,none⟩/\kg w ν.A b off (ns.map (oV .u8))):=by
      rcases dY with rfl|⟨b,off,us,ij,gA,ql⟩
      ·simp only[pZ,ei]at v7;exact⟨[],rfl,by rw[<-v7];rfl,.inl rfl⟩
      ·obtain⟨ns,eZ,ey,jg⟩:=Pf v7 ql;subst eZ;exact⟨ns,by simpa using jg,ey,.inr ⟨b,off,ij,gA⟩⟩
     obtain⟨ns,hi,rfl,jL⟩:=af;refine⟨_,kY (v:= .string ⟨(ns.map Aq).toArray⟩) ?_,by simp only[aJ];exact⟨trivial,by rw[aD];exact dT.2⟩⟩;rw[b0];simp only[convert,fu,run_underlying ku,run_underlying iH,fw];simp only[run_underlying adS,fu,fw,YZ hi jL]
    ·cases he
   ·cases I
  ·cases I
 ·rename_i neg x op t o XJ;simp only[bJ,fs]at aq;obtain⟨⟨rfl,bz⟩,I⟩:=aq;have ao:=eD hr I;split at bz
  ·rename_i aK;obtain⟨d,aI,fC⟩:=h7 aE aK;obtain⟨ms,rfl⟩:∃ms,d= .interface ms:=by cases d<;>simp[mi]at fC;exact⟨_,rfl⟩
   simp only[hk]at he;unfold GY at he;split at he
   ·rename_i nN q bp;cases he;rw[bp]at ao;simp only[aJ]at ao;obtain⟨u,ao,_⟩:=ao;refine⟨.bool neg,kY ?_,by simp[aJ]⟩;rw[show a.eval (.const .nilIface)= .nilIface from rfl,ao];cases neg<;>simp[eqGuard,binOp,(FT (w:=w) aI).1,(FT (w:=w) aI).2]
   ·rename_i bp;cases he;rw[bp]at ao;simp only[aJ]at ao;refine⟨.bool (!neg),kY ?_,by simp[aJ]⟩;rw[show a.eval (.const .nilIface)= .nilIface from rfl,ao];cases neg<;>simp[eqGuard,binOp,(FT (w:=w) aI).1,(FT (w:=w) aI).2]
   ·cases he
  ·cases bz
 ·rename_i agg sz x t o;simp only[bJ]at aq;obtain⟨I,J⟩:=aq;split at I
  ·rename_i f aK;simp only[bJ,eA]at I;obtain⟨rfl,rfl⟩:=I;obtain⟨v,g1,g2⟩:=Hc aE hr.good aK (eD hr J) (acD (by simpa only[hk]using he)) aH;exact⟨v,kY g1,g2⟩
  ·cases I
 ·exact absurd rfl (adG _ _ _ _ _)
 ·cases aq
theorem akr{P:bS}{bk:List (Nat×dh)}(aE:eW P bk=true){C:eK}{st:aU}{a:Act}{w:World}{ν:aQ}(hr:cm C st a w ν){i:gC}{o:Oper}(aq:E6 bk i o.op=true)
  {c:Prop} {p:ae} (he:hk st i=some (c,p)) (aH:c):∃v,(execOp a.eval o).run P w= .ok (.value v) w/\aJ w ν p v:=by
 by_cases ah:∃cg z ok x k,i= .mgetB cg z ok x k
 ·obtain⟨cg,z,ok,x,k,rfl⟩:=ah;refine XS aE hr (i:= .mget cg z ok x k) (fun _ _ _ _ _ e=>by cases e) ?_ he aH;obtain⟨dst,op,type,pos,after,guard⟩:=o;cases op<;>first|exact aq|simp[E6]at aq
 ·exact XS aE hr (fun cg z ok x k e=>ah ⟨cg,z,ok,x,k,e⟩) aq he aH
theorem Qm{w:World}{o:Obj}{b i:Nat}(h:b<w.heap.size):(w.alloc o).cell? ⟨b,i,none⟩=w.cell? ⟨b,i,none⟩:=World.cell?_of_block (Below.heap_alloc w o b h)
def aQ.withBox(ν:aQ)(k:aC)(bl:Nat):aQ:={ν with bx:=fun j=>if j=k then some bl else ν.bx j}
def aQ.withOwn(ν:aQ)(k:aC)(n:Nat)(v:Value):aQ:={ν with ow:=fun j=>if j=k then some (n,v)else ν.ow j}
theorem cm.lookNone{C:eK}{st:aU}{a:Act}{w:World}{ν:aQ}(h:cm C st a w ν){k:aC}(ab:fresh st.n st.o k):look k st.b=none/\look k st.e=none:=by
 obtain⟨I,J,_⟩:=h.new k ab;constructor
 ·cases ah:look k st.b with
  |none=>rfl
  |some cs=>obtain⟨bl,us,el,g1,_⟩:=h.good.box _ _ ah;rw[I]at g1;cases g1
 ·cases ah:look k st.e with
  |none=>rfl
  |some o=>obtain⟨v,us,g1,_⟩:=h.good.own _ _ ah;rw[J]at g1;cases g1
theorem Good.ownLt{pr:Nat->Prop}{w:World}{ν:aQ}{b:List (aC×List ae)}{e:List (aC×dn)}(h:Good pr w ν b e){g:aC}{o:dn}(aS:look g e=some o){n:Nat}{v:Value}(aN:ν.ow g=some (n,v)){bl:Nat}(ah:v.ownBlock=some bl):bl<w.heap.size:=by obtain⟨v',us,g1,g2,_⟩:=h.own g o aS;rw[aN]at g1;cases g1;exact(g2.lt bl ah).2
theorem Good.boxLt{pr:Nat->Prop}{w:World}{ν:aQ}{b:List (aC×List ae)}{e:List (aC×dn)}(h:Good pr w ν b e){k:aC}{cs:List ae}(ab:look k b=some cs){bl:Nat}(ah:ν.bx k=some bl):bl<w.heap.size:=by obtain⟨hx,us,el,g1,_,_,g4,_⟩:=h.box k cs ab;rw[ah]at g1;cases g1;exact(Array.getElem?_eq_some_iff.1 g4).1
theorem cm.newBox{C:eK}{st:aU}{a:Act}{w:World}{ν:aQ}(h:cm C st a w ν){eN:aC}(aes:ν.bx eN=none/\ν.ow eN=none/\∀j b,¬ν.tr eN j b){n':Nat}{o':List aC}(hJ:∀j,fresh n' o' j->fresh st.n st.o j/\j≠eN){cs:List ae}{us:Array Value}(el:IA eN)(aH:iw w ν cs us.toList):
  cm C {st with b:=dj eN cs st.b,n:=n',o:=o'} a (w.alloc (jr cs us el.1)) (ν.withBox eN w.heap.size)/\
  aJ (w.alloc (jr cs us el.1)) (ν.withBox eN w.heap.size) (.ptr eN 0) (.pointer (some ⟨w.heap.size,0,none⟩)):=by
 obtain⟨mT,qa,aeM⟩:=aes;have aq:mK w ν (w.alloc (jr cs us el.1)) (ν.withBox eN w.heap.size):=by
  refine⟨fun b o bf=>⟨bf,Qm (h.good.alt b o bf)⟩,fun k b _ ab=>?_,fun g n u _ aS=>⟨n,u,aS,.inl ⟨rfl,rfl⟩⟩,fun b o bf=>zY (Below.heap_alloc w _ b (h.good.alt b o bf)),fun _ _ _ _ h=>h⟩;have:k≠eN:=fun e=>by subst e;rw[mT]at ab;cases ab
  simp[aQ.withBox,this,ab]
 have dz:(w.alloc (jr cs us el.1)).heap.size=w.heap.size+1:=by simp
 have jE:∀k,(look k (dj eN cs st.b)).isSome->k=eN\/(k≠eN/\(look k st.b).isSome/\(ν.withBox eN w.heap.size).bx k=ν.bx k):=by
  intro k ab;by_cases e:k=eN
  ·exact .inl e
  ·rw[jK,br (Ne.symm e)]at ab;exact .inr ⟨e,ab,by simp[aQ.withBox,e]⟩
 refine⟨h.over aq rfl ⟨fun bl o bf=>by rw[dz];have:=h.good.alt bl o bf;omega,fun k ds ab=>?_,fun k bn bl ab gS ao aL=>?_,fun g o aS=>?_,h.good.oinj,fun g k n v bl aS ab aN ah af=>?_,fun k=>?_,fun bl ah k j aE=>?_⟩
  ⟨h.fr.os,h.fr.tape,h.fr.output,by rw[dz];have:=h.fr.size;omega,fun k ab hm=>?_,fun b o bf=>?_,h.fr.fresh,fun n b ah=>?_,h.fr.obn,h.fr.row,h.fr.obr,h.fr.trd,fun k j b ah=>⟨(h.fr.trb k j b ah).1,by rw[dz];have:=(h.fr.trb k j b ah).2;omega⟩,fun k j b ah=>?_,fun b o bf=>(aq.sh b o (h.fr.keep b o bf).1).trans (h.fr.sh b o bf),h.fr.nrow⟩ (fun m hm=>?_) (fun m hm=>(hJ m hm).1),?_⟩
 ·simp only at ab;rw[jK]at ab;by_cases e:eN=k
  ·rw[if_pos e]at ab;cases ab;subst e;refine⟨w.heap.size,us,el,by simp[aQ.withBox],.inr h.fr.size,fun o bf=>?_,heap_alloc_new w _,qn aq aH⟩;have:=h.good.alt _ o bf;omega
  ·rw[br e]at ab;obtain⟨bl,bE,fj,g1,g2,g3,g4,g5⟩:=h.good.box k ds ab;exact⟨bl,bE,fj,aq.bx _ _ trivial g1,g2,g3,by rw[Below.heap_alloc w _ bl (Array.getElem?_eq_some_iff.1 g4).1];exact g4,qn aq g5⟩
 ·rcases jE k ab with rfl|⟨hi,gd,jL⟩<;>rcases jE bn gS with rfl|⟨m1,m2,m3⟩
  ·rfl
  ·exfalso;simp only[aQ.withBox,if_true,ei]at ao;subst ao;rw[m3]at aL;obtain⟨ds,hG⟩:=fv.1 m2;have:=h.good.boxLt hG aL;omega
  ·exfalso;simp only[aQ.withBox,if_true,ei]at aL;subst aL;rw[jL]at ao;obtain⟨ds,hG⟩:=fv.1 gd;have:=h.good.boxLt hG ao;omega
  ·rw[jL]at ao;rw[m3]at aL;exact h.good.inj k bn bl gd m2 ao aL
 ·obtain⟨v,xs,g1,g2,g3,g4⟩:=h.good.own g o aS;exact⟨v,xs,g1,g2.alloc _,g3,sc aq (fun _ _ _ h=>h) g4⟩
 ·rcases jE k ab with rfl|⟨hi,gd,jL⟩
  ·simp only[aQ.withBox,if_true,ei]at af;subst af;obtain⟨o,hK⟩:=fv.1 aS;have:=h.good.ownLt hK aN ah;omega
  ·rw[jL]at af;exact h.good.obx g k n v bl aS gd aN ah af
 ·by_cases e:k=eN
  ·subst e;exact .inr qa
  ·rcases h.good.one k with I|I
   ·exact .inl (by simp[aQ.withBox,e,I])
   ·exact .inr I
 ·rcases ah with⟨bn,bH,a2⟩|ah
  ·rcases jE bn bH with rfl|⟨hi,gd,jL⟩
   ·simp[aQ.withBox]at a2;subst a2;exact absurd (h.fr.trb k j _ aE).2 (Nat.lt_irrefl _)
   ·exact h.good.otr bl (.inl ⟨bn,gd,by rw[<-jL];exact a2⟩) k j aE
  ·exact h.good.otr bl (.inr ah) k j aE
 ·rw[Below.heap_alloc w _ k (by have:=h.fr.size;omega)];exact h.fr.block k ab hm
 ·obtain⟨cD,dI⟩:=h.fr.keep b o bf;exact⟨cD,(Qm (h.good.alt b o cD)).trans dI⟩
 ·exact aq.bx _ _ trivial (h.fr.obj n b ah)
 ·have b7:k≠eN:=fun e=>by subst e;exact aeM j b ah
  obtain⟨t1,t2⟩:=h.fr.trn k j b ah;exact⟨by simp[aQ.withBox,b7,t1],t2⟩
 ·obtain⟨f1,f2⟩:=hJ m hm;obtain⟨cD,dI⟩:=h.new m f1;refine⟨?_,dI⟩;simp[aQ.withBox,f2,cD]
 ·simp[aJ,aQ.withBox]
theorem cm.setBox{C:eK}{st:aU}{a:Act}{w w':World}{ν:aQ}(h:cm C st a w ν){k:aC}{cs cs':List ae}(ab:look k st.b=some cs){bl:Nat}(ah:ν.bx k=some bl){us:Array Value}{el:IA k}
  (xX:w'.os=w.os) (DR:w'.tape=w.tape) (DG:w'.output=w.output) (lb:∀j,j≠bl->w'.heap[j]? =w.heap[j]?) (dz:w'.heap.size=w.heap.size) (k9:w'.heap[bl]? =some (jr cs' us el.1)) (aH:iw w ν cs' us.toList):
  cm C {st with b:=dj k cs' st.b} a w' ν/\mK w ν w' ν:=by
 obtain⟨hx,fq,amR,g1,g2,g3,g4,g5⟩:=h.good.box k cs ab;rw[ah]at g1;cases g1;have aq:mK w ν w' ν:=by
  refine⟨fun b o bf=>⟨bf,World.cell?_of_block (lb b fun e=>?_)⟩,fun _ _ _ h=>h,fun g n u _ aS=>⟨n,u,aS,.inl ⟨rfl,rfl⟩⟩,fun b o bf=>zY (lb b fun e=>?_),fun _ _ _ _ h=>h⟩<;>
  (subst e;exact g3 o bf)
 have xR:∀j,(look j (dj k cs' st.b)).isSome->(look j st.b).isSome:=by
  intro j ai;rw[jK]at ai;by_cases e:k=j
  ·subst e;simp[ab]
  ·rwa[br e]at ai
 refine⟨h.over aq rfl ⟨fun b o bf=>by rw[dz];exact h.good.alt b o bf,fun j ds ai=>?_,fun j eQ b ai mr=>h.good.inj j eQ b (xR j ai) (xR eQ mr),fun g o aS=>?_,h.good.oinj,fun g j n v b aS ai=>h.good.obx g j n v b aS (xR j ai),h.good.one,fun bl ah=>h.good.otr bl (ah.imp (fun⟨k,I,J⟩=>⟨k,xR k I,J⟩) id)⟩
  ⟨xX.trans h.fr.os,DR.trans h.fr.tape,DG.trans h.fr.output,by rw[dz];exact h.fr.size,fun j ai hm=>?_,fun b o bf=>?_,h.fr.fresh,h.fr.obj,h.fr.obn,h.fr.row,h.fr.obr,h.fr.trd,fun k j b ah=>⟨(h.fr.trb k j b ah).1,by rw[dz];exact(h.fr.trb k j b ah).2⟩,h.fr.trn,fun b o bf=>(aq.sh b o (h.fr.keep b o bf).1).trans (h.fr.sh b o bf),h.fr.nrow⟩ h.new,aq⟩
 ·simp only at ai;rw[jK]at ai;by_cases e:k=j
  ·rw[if_pos e]at ai;cases ai;subst e;exact⟨bl,us,el,ah,g2,g3,k9,qn aq aH⟩
  ·rw[br e]at ai;obtain⟨b,bE,fj,ao,aL,bB,b9,ee⟩:=h.good.box j ds ai;refine⟨b,bE,fj,ao,aL,bB,?_,qn aq ee⟩;rw[lb b fun hg=>e (h.good.inj k j bl (by simp[ab]) (by simp[ai]) ah (by rw[<-hg];exact ao))];exact b9
 ·obtain⟨v,xs,ao,aL,bB,b9⟩:=h.good.own g o aS;refine⟨v,xs,ao,⟨aL.1,?_⟩,bB,sc aq (fun _ _ _ h=>h) b9⟩;rcases aL.2 with aL|⟨iq,cap,cur,f1,f2,f3,f4⟩
  ·exact .inl aL
  ·refine .inr ⟨iq,cap,cur,f1,f2,?_,f4⟩;rw[lb iq fun hg=>h.good.obx g k o.n v bl (by simp[aS]) (by simp[ab]) ao (by rw[f1,<-hg];rfl) ah];exact f3
 ·rw[lb j fun e=>by subst e;exact g2.elim hm (fun g2=>Ω)];exact h.fr.block j ai hm
 ·obtain⟨cD,dI⟩:=h.fr.keep b o bf;exact⟨cD,(aq.A b o cD).2.trans dI⟩
theorem cm.storeBox{C:eK}{st:aU}{a:Act}{w:World}{ν:aQ}(h:cm C st a w ν){k:aC}{cs cs':List ae}(ab:look k st.b=some cs){bl:Nat}(ah:ν.bx k=some bl)(aV:gO cs=true){us:Array Value}(aH:ck w ν cs' us.toList):
  cm C {st with b:=dj k cs' st.b} a (w.setRow bl us) ν:=by
 obtain⟨hx,fq,el,g1,g2,g3,g4,g5⟩:=h.good.box k cs ab;rw[ah]at g1;cases g1;rw[mB aV]at g4;have u0:=vk aH;exact(h.setBox (w':=w.setRow bl us) ab ah (us:=us) (el:=el) rfl rfl rfl (fun j ai=>setRow_other w bl j us ai) (setRow_size w bl us) (by rw[mB u0];exact setRow_heap w bl fq us el.1 _ g4) (by rw[l4 u0];exact aH)).1
def aQ.withRowOf(ν:aQ)(k:aC)(v:Value)(n cells:Nat):aQ:={A:=fun b o=>ν.A b o\/(v.ownBlock=some b/\o<cells),bx:=ν.bx,ow:=fun j=>if j=k then some (n,v)else ν.ow j,tr:=ν.tr}
theorem Bu{w:World}{A:Nat->Nat->Prop}{b:Nat}:∀(us:List Value) (off:Nat),(∀j u,us[j]? =some u->A b (off+j)/\w.cell? ⟨b,off+j,none⟩=some u)->kg w A b off us
 |[],_,_=>trivial
 |u::us,off,h=>⟨h 0 u rfl,Bu us (off+1) fun j x ai=>by have:=h (j+1) x (by simpa using ai);rwa[show off+(j+1)=off+1+j from by omega]at this⟩
theorem Qn{w w':World}(aS:w.grownBy w' none){b i:Nat}(h:b<w.heap.size):w'.cell? ⟨b,i,none⟩=w.cell? ⟨b,i,none⟩:=World.cell?_of_block (aS.block b h Ψ)
theorem cm.newRowM{C:eK}{st:aU}{a:Act}{w w':World}{ν:aQ}(h:cm C st a w ν){k:aC}{xs:List ae}(ab:(ν.bx k=none/\ν.ow k=none/\∀j b,¬ν.tr k j b)\/ ∃o,look k st.e=some o/\o.n<xs.length){el sz:Nat}{v:Value}{us:List Value}
  (aS:w.grownBy w' none) (ld:w'.ownsRow w.heap.size el sz v xs.length us) (aH:cV w ν sz xs us) (e5:xs.length<=aR) {n':Nat} {o':List aC} (hJ:∀j,fresh n' o' j->fresh st.n st.o j/\j≠k):
  cm C {st with e:=dj k ⟨xs.length,el,sz,some xs⟩ st.e,n:=n',o:=o'} a w' (ν.withOwn k xs.length v)/\
  ((∃b cap,v= .slice (some ⟨b,0,none⟩) xs.length cap)->aJ w' (ν.withOwn k xs.length v) (.row sz k xs.length) v):=by
 have oE:∀bl,v.ownBlock=some bl->w.heap.size<=bl/\bl<w'.heap.size:=fun bl ah=>ld.lt bl ah;have aq:mK w ν w' (ν.withOwn k xs.length v):=by
  refine⟨fun b o bf=>⟨bf,Qn aS (h.good.alt b o bf)⟩,fun j b _ ai=>ai,fun g n u _ jl=>?_,fun b o bf=>zY (aS.block b (h.good.alt b o bf) Ψ),fun _ _ _ _ h=>h⟩;by_cases e:g=k
  ·subst e;rcases ab with ab|⟨o,aq,b5⟩
   ·rw[ab.2.1]at jl;cases jl
   ·obtain⟨v0,fq,ao,_⟩:=h.good.own g o aq;rw[ao]at jl;cases jl;exact⟨xs.length,v,by simp[aQ.withOwn],.inr b5⟩
  ·exact⟨n,u,by simp[aQ.withOwn,e,jl],.inl ⟨rfl,rfl⟩⟩
 have lC:∀g,(look g (dj k ⟨xs.length,el,sz,some xs⟩ st.e)).isSome->g=k\/(g≠k/\(look g st.e).isSome/\(ν.withOwn k xs.length v).ow g=ν.ow g):=by
  intro g hb;by_cases e:g=k
  ·exact .inl e
  ·rw[jK,br (Ne.symm e)]at hb;exact .inr ⟨e,hb,by simp[aQ.withOwn,e]⟩
 have GK:∀bl,v.ownBlock=some bl->∀j,¬ν.A bl j:=fun bl ah j bf=>by have I:=h.good.alt bl j bf;have:=(oE bl ah).1;omega
 have aeS:∀j b,¬ν.tr k j b:=fun j b ah=>by
  rcases ab with ab|⟨o,hK,_⟩
  ·exact ab.2.2 j b ah
  ·obtain⟨v0,fq,ao,_⟩:=h.good.own k o hK;rw[(h.fr.trn k j b ah).2]at ao;cases ao
 refine⟨h.over aq rfl ⟨fun bl o bf=>?_,fun j ds ai=>?_,h.good.inj,fun g o fb=>?_,fun g et n n' u eJ bl I J au aP bA cy=>?_,fun g j n u bl I J au aP bA=>?_,fun j=>?_,fun bl ah bn j aE=>?_⟩
  ⟨aS.os.trans h.fr.os,aS.tape.trans h.fr.tape,aS.output.trans h.fr.output,Nat.le_trans h.fr.size aS.size,fun j ai hm=>?_,fun b o bf=>?_,h.fr.fresh,h.fr.obj,h.fr.obn,fun m n u hm=>EN (h.fr.row m n u hm) (fun n u=>aq.ow _ n u trivial),h.fr.obr,h.fr.trd,fun k j b ah=>⟨(h.fr.trb k j b ah).1,Nat.lt_of_lt_of_le (h.fr.trb k j b ah).2 aS.size⟩,fun bn j b ah=>?_,fun b o bf=>(aq.sh b o (h.fr.keep b o bf).1).trans (h.fr.sh b o bf),fun j n u b ao aL=>?_⟩ (fun m hm=>?_) (fun m hm=>(hJ m hm).1),?_⟩
 ·have:=h.good.alt bl o bf;have:=aS.size;omega
 ·obtain⟨bl,bE,fj,g1,g2,g3,g4,g5⟩:=h.good.box j ds ai;have b5:=(Array.getElem?_eq_some_iff.1 g4).1;exact⟨bl,bE,fj,g1,g2,g3,by rw[aS.block bl b5 Ψ];exact g4,qn aq g5⟩
 ·simp only at fb;rw[jK]at fb;by_cases e:k=g
  ·rw[if_pos e]at fb;cases fb;subst e;refine⟨v,us,by simp[aQ.withOwn],⟨ld.1,?_⟩,fun bl ah=>⟨.inr (Nat.le_trans h.fr.size (oE bl ah).1),fun j bf=>absurd bf (GK bl ah j)⟩,fun ys bG=>?_⟩
   ·rcases ld.2 with ao|⟨iq,cap,cur,f1,f2,f3⟩
    ·exact .inl ao
    ·exact .inr ⟨iq,cap,cur,f1,Ω,f3⟩
   ·simp only[ei]at bG;subst bG;exact⟨rfl,BX aq aH,GK⟩
  ·rw[br e]at fb;obtain⟨v0,fq,ao,aL,bB,b9⟩:=h.good.own g o fb;exact⟨v0,fq,by simp[aQ.withOwn,Ne.symm e,ao],aL.kept aS (by cases v0.ownBlock<;>simp),bB,sc aq (fun _ _ _ h=>h) b9⟩
 ·rcases lC g I with rfl|⟨hi,gd,jL⟩<;>rcases lC et J with rfl|⟨m1,m2,m3⟩
  ·rfl
  ·exfalso;simp only[aQ.withOwn,if_true,ei,gY]at au;rw[m3]at aP;obtain⟨o,hK⟩:=fv.1 m2;have aD:=h.good.ownLt hK aP cy;have:=(oE bl (by rw[au.2];exact bA)).1;omega
  ·exfalso;simp only[aQ.withOwn,if_true,ei,gY]at aP;rw[jL]at au;obtain⟨o,hK⟩:=fv.1 gd;have aD:=h.good.ownLt hK au bA;have:=(oE bl (by rw[aP.2];exact cy)).1;omega
  ·rw[jL]at au;rw[m3]at aP;exact h.good.oinj g et n n' u eJ bl gd m2 au aP bA cy
 ·rcases lC g I with rfl|⟨hi,gd,jL⟩
  ·simp only[aQ.withOwn,if_true,ei,gY]at au;obtain⟨ds,hG⟩:=fv.1 J;have aD:=h.good.boxLt hG bA;have:=(oE bl (by rw[au.2];exact aP)).1;omega
  ·rw[jL]at au;exact h.good.obx g j n u bl gd J au aP bA
 ·by_cases e:j=k
  ·subst e;rcases ab with ab|⟨o,hK,_⟩
   ·exact .inl ab.1
   ·obtain⟨v0,fq,ao,_⟩:=h.good.own j o hK;rcases h.good.one j with I|I
    ·exact .inl I
    ·rw[I]at ao;cases ao
  ·rcases h.good.one j with I|I
   ·exact .inl I
   ·exact .inr (by simp[aQ.withOwn,e,I])
 ·rcases ah with ah|⟨g,n,u,bH,a2,a3⟩
  ·exact h.good.otr bl (.inl ah) bn j aE
  ·rcases lC g bH with rfl|⟨hi,gd,jL⟩
   ·simp only[aQ.withOwn,if_true,ei,gY]at a2;have I:=(oE bl (by rw[a2.2];exact a3)).1;have J:=(h.fr.trb bn j _ aE).2;omega
   ·exact h.good.otr bl (.inr ⟨g,n,u,gd,by rw[<-jL];exact a2,a3⟩) bn j aE
 ·rw[aS.block j (by have:=h.fr.size;omega) Ψ];exact h.fr.block j ai hm
 ·obtain⟨cD,dI⟩:=h.fr.keep b o bf;exact⟨cD,(aq.A b o cD).2.trans dI⟩
 ·have b7:bn≠k:=fun e=>by subst e;exact aeS j b ah
  obtain⟨t1,t2⟩:=h.fr.trn bn j b ah;exact⟨t1,by simp[aQ.withOwn,b7,t2]⟩
 ·by_cases e:aC.loc j=k
  ·subst e;simp only[aQ.withOwn,if_true,ei,gY]at ao;exact Nat.le_trans h.fr.size (oE b (by rw[ao.2];exact aL)).1
  ·simp only[aQ.withOwn,br e]at ao;exact h.fr.nrow j n u b ao aL
 ·obtain⟨f1,f2⟩:=hJ m hm;obtain⟨cD,dI,hA⟩:=h.new m f1;refine⟨cD,?_,hA⟩;simp[aQ.withOwn,f2,dI]
 ·intro Kz;simp only[aJ];exact⟨Kz,e5,xs.length,v,by simp[aQ.withOwn],cc _,fun _=>rfl⟩
theorem cm.publish{C:eK}{st:aU}{a:Act}{w:World}{ν:aQ}(h:cm C st a w ν){k:aC}{o:dn}{xs:List ae}(ab:look k st.e=some o)(af:o.xs=some xs){v:Value}(aN:ν.ow k=some (o.n,v))(e5:xs.length<=aR):
  cm C {st with e:=dj k ⟨o.n,o.el,o.sz,none⟩ st.e} a w (ν.withRowOf k v o.n (o.n*o.sz))/\
  aJ w (ν.withRowOf k v o.n (o.n*o.sz)) (.slice o.sz (.own k) xs) v:=by
 obtain⟨v0,us,b0,cS,dT,dY⟩:=h.good.own k o ab;rw[aN]at b0;cases b0;obtain⟨di,mC,tY⟩:=dY xs af;have jn:∀g,(ν.withRowOf k v o.n (o.n*o.sz)).ow g=ν.ow g:=fun g=>by
  simp only[aQ.withRowOf];split
  ·rename_i e;subst e;exact aN.symm
  ·rfl
 have aq:mK w ν w (ν.withRowOf k v o.n (o.n*o.sz)):=⟨fun b o bf=>⟨.inl bf,rfl⟩,fun j b _ ai=>ai,fun g n u _ jl=>⟨n,u,by rw[jn];exact jl,.inl ⟨rfl,rfl⟩⟩,fun _ _ _=>rfl,fun _ _ _ _ h=>h⟩
 have lC:∀g,(look g (dj k ⟨o.n,o.el,o.sz,none⟩ st.e)).isSome->(look g st.e).isSome:=by
  intro g hb;by_cases e:k=g
  ·subst e;simp[ab]
  ·rwa[jK,br e]at hb
 refine⟨h.over aq rfl ⟨fun bl i bf=>?_,fun j ds ai=>?_,h.good.inj,fun g o' fb=>?_,fun g et n n' u eJ bl I J au aP=>h.good.oinj g et n n' u eJ bl (lC g I) (lC et J) (by rwa[jn]at au) (by rwa[jn]at aP),fun g j n u bl I J au=>h.good.obx g j n u bl (lC g I) J (by rwa[jn]at au),fun j=>?_,fun bl ah=>h.good.otr bl (ah.imp id (fun⟨g,n,v,bH,a2,a3⟩=>⟨g,n,v,lC g bH,by rwa[jn]at a2,a3⟩))⟩
  ⟨h.fr.os,h.fr.tape,h.fr.output,h.fr.size,h.fr.block,fun b i bf=>⟨.inl (h.fr.keep b i bf).1,(h.fr.keep b i bf).2⟩,fun b i bf=>?_,h.fr.obj,h.fr.obn,fun m n u hm=>EN (h.fr.row m n u hm) (fun n u=>aq.ow _ n u trivial),h.fr.obr,h.fr.trd,h.fr.trb,fun bn j b ah=>⟨(h.fr.trn bn j b ah).1,by rw[jn];exact(h.fr.trn bn j b ah).2⟩,h.fr.sh,fun j n u b ao aL=>h.fr.nrow j n u b (by rw[<-jn];exact ao) aL⟩ (fun m hm=>?_),?_⟩
 ·rcases bf with bf|⟨bf,_⟩
  ·exact h.good.alt bl i bf
  ·exact(cS.lt bl bf).2
 ·obtain⟨bl,bE,fj,g1,g2,g3,g4,g5⟩:=h.good.box j ds ai;refine⟨bl,bE,fj,g1,g2,fun i bf=>?_,g4,qn aq g5⟩;rcases bf with bf|⟨bf,_⟩
  ·exact g3 i bf
  ·exact h.good.obx k j o.n v bl (by simp[ab]) (by simp[ai]) aN bf g1
 ·simp only at fb;rw[jK]at fb;by_cases e:k=g
  ·rw[if_pos e]at fb;cases fb;subst e;refine⟨v,us,by rw[jn];exact aN,cS,fun bl ah=>⟨(dT bl ah).1,fun j bf=>?_⟩,fun ys bG=>by cases bG⟩;rcases bf with bf|⟨_,bf⟩
   ·exact(dT bl ah).2 j bf
   ·exact bf
  ·rw[br e]at fb;obtain⟨v0,fq,ao,aL,bB,b9⟩:=h.good.own g o' fb;have xJ:∀bl,v0.ownBlock=some bl->∀j,(ν.withRowOf k v o.n (o.n*o.sz)).A bl j->ν.A bl j:=fun bl ah j bf=>by
    rcases bf with bf|⟨bf,_⟩
    ·exact bf
    ·exact absurd (h.good.oinj k g o.n o'.n v v0 bl (by simp[ab]) (by simp[fb]) aN ao bf ah) e
   exact⟨v0,fq,by rw[jn];exact ao,aL,fun bl ah=>⟨(bB bl ah).1,fun j bf=>(bB bl ah).2 j (xJ bl ah j bf)⟩,sc aq xJ b9⟩
 ·rcases h.good.one j with I|I
  ·exact .inl I
  ·exact .inr (by rw[jn];exact I)
 ·rcases bf with bf|⟨bf,_⟩
  ·exact h.fr.fresh b i bf
  ·exact .inr (dT b bf).1
 ·obtain⟨cD,dI,hA⟩:=h.new m hm;exact⟨cD,by rw[jn];exact dI,hA⟩
 ·simp only[aJ];refine⟨?_,fun e=>(by cases e),fun g e=>?_,fun _ _ e=>(by cases e),fun _ e=>(by cases e)⟩
  ·rcases cS.2 with⟨ao,aL⟩|⟨iq,cap,cur,f1,f2,f3,f4,f5,f6,f7⟩
   ·refine⟨none,0,by rw[ao,di,aL],Ω,⟨by simp[maxLen],e5⟩,.inl (sI Ω)⟩
   ·refine⟨some ⟨iq,0,none⟩,cap,by rw[f1,di],Ω,⟨f5,e5⟩,.inr ⟨iq,0,us,rfl,Bu us 0 fun j u ai=>?_,BX aq mC⟩⟩;have hT:v.ownBlock=some iq:=by rw[f1];rfl
    have fU:j<us.length:=(fo.1 ai).1;refine⟨.inr ⟨hT,by rw[cS.1]at fU;omega⟩,?_⟩;have:=cS.cells hT j u ai;rwa[o6]at this
  ·cases e;exact⟨o.n,v,by rw[jn];exact aN,Ω,fun _=>rfl⟩
theorem XQ{α:Type}(k:aC)(p q:α):∀l,dj k q (dj k p l)=dj k q l
 |[]=>by simp[dj]
 |(i,r)::l=>by
  by_cases e:i=k
  ·simp[dj,e]
  ·simp[dj,e,XQ k p q l]
theorem cm.newRow{C:eK}{st:aU}{a:Act}{w w':World}{ν:aQ}(h:cm C st a w ν){k:aC}{xs:List ae}(ab:(ν.bx k=none/\ν.ow k=none/\∀j b,¬ν.tr k j b)\/ ∃o,look k st.e=some o/\o.n<xs.length){el sz:Nat}{v:Value}{us:List Value}
  (aS:w.grownBy w' none) (ld:w'.ownsRow w.heap.size el sz v xs.length us) (aH:cV w ν sz xs us) (e5:xs.length<=aR) {n':Nat} {o':List aC} (hJ:∀j,fresh n' o' j->fresh st.n st.o j/\j≠k):
  cm C {st with e:=dj k ⟨xs.length,el,sz,none⟩ st.e,n:=n',o:=o'} a w' ((ν.withOwn k xs.length v).withRowOf k v xs.length (xs.length*sz))/\
  aJ w' ((ν.withOwn k xs.length v).withRowOf k v xs.length (xs.length*sz)) (.slice sz (.own k) xs) v:=by
 have I:=(h.newRowM ab aS ld aH e5 hJ).1;have J:=I.publish (k:=k) (o:=⟨xs.length,el,sz,some xs⟩) (xs:=xs) (v:=v) (by simp[jK]) rfl (by simp[aQ.withOwn]) e5;simpa only[XQ]using J
theorem cm.setRowM{C:eK}{st:aU}{a:Act}{w w':World}{ν:aQ}(h:cm C st a w ν){k:aC}{o:dn}{xs xs':List ae}(ab:look k st.e=some o)(af:o.xs=some xs){bl:Nat}{v v':Value}(aN:ν.ow k=some (o.n,v))(hT:v.ownBlock=some bl)(DV:v'.ownBlock=some bl)
  (aM:(xs'.length=o.n/\v'=v)\/o.n<xs'.length) {us:List Value} (xX:w'.os=w.os) (DR:w'.tape=w.tape) (DG:w'.output=w.output) (lb:∀j,j≠bl->w'.heap[j]? =w.heap[j]?) (dz:w'.heap.size=w.heap.size)
  (ld:w'.ownsRow 0 o.el o.sz v' xs'.length us) (aH:cV w ν o.sz xs' us):
  cm C {st with e:=dj k ⟨xs'.length,o.el,o.sz,some xs'⟩ st.e} a w' (ν.withOwn k xs'.length v')/\mK w ν w' (ν.withOwn k xs'.length v')/\(xs'.length<=aR->aJ w' (ν.withOwn k xs'.length v') (.row o.sz k xs'.length) v'):=by
 obtain⟨v0,fq,b0,cS,dT,dY⟩:=h.good.own k o ab;rw[aN]at b0;cases b0;obtain⟨di,mC,tY⟩:=dY xs af;have aq:mK w ν w' (ν.withOwn k xs'.length v'):=by
  refine⟨fun b i bf=>⟨bf,World.cell?_of_block (lb b fun e=>by subst e;exact tY b hT i bf)⟩,fun j b _ ai=>ai,fun g n u _ jl=>?_,fun b i bf=>zY (lb b fun e=>by subst e;exact tY b hT i bf),fun _ _ _ _ h=>h⟩;by_cases e:g=k
  ·subst e;rw[aN]at jl;cases jl;refine⟨xs'.length,v',by simp[aQ.withOwn],?_⟩;rcases aM with⟨I,J⟩|I
   ·exact .inl ⟨I,J⟩
   ·exact .inr I
  ·exact⟨n,u,by simp[aQ.withOwn,e,jl],.inl ⟨rfl,rfl⟩⟩
 have lC:∀g n u,(look g (dj k ⟨xs'.length,o.el,o.sz,some xs'⟩ st.e)).isSome->(ν.withOwn k xs'.length v').ow g=some (n,u)->∀b,u.ownBlock=some b->(look g st.e).isSome/\∃n u,ν.ow g=some (n,u)/\u.ownBlock=some b:=by
  intro g n u hb jl b ah;by_cases e:g=k
  ·subst e;simp only[aQ.withOwn,if_true,ei,gY]at jl;rw[<-jl.2,DV]at ah;cases ah;exact⟨by simp[ab],o.n,v,aN,hT⟩
  ·rw[jK,br (Ne.symm e)]at hb;simp only[aQ.withOwn,e,if_false]at jl;exact⟨hb,n,u,jl,ah⟩
 refine⟨h.over aq rfl ⟨fun b i bf=>by rw[dz];exact h.good.alt b i bf,fun j ds ai=>?_,h.good.inj,fun g o' fb=>?_,fun g et n n' u eJ b I J au aP bA cy=>?_,fun g j n u b I J au aP bA=>?_,fun j=>?_,fun b ah=>h.good.otr b (ah.imp id (fun⟨g,n,v,bH,a2,a3⟩=>by obtain⟨cq,hi,iK,cE,gD⟩:=lC g n v bH a2 b a3;exact⟨g,hi,iK,cq,cE,gD⟩))⟩
  ⟨xX.trans h.fr.os,DR.trans h.fr.tape,DG.trans h.fr.output,by rw[dz];exact h.fr.size,fun j ai hm=>?_,fun b i bf=>?_,h.fr.fresh,h.fr.obj,h.fr.obn,fun m n u hm=>EN (h.fr.row m n u hm) (fun n u=>aq.ow _ n u trivial),h.fr.obr,h.fr.trd,fun k j b ah=>⟨(h.fr.trb k j b ah).1,by rw[dz];exact(h.fr.trb k j b ah).2⟩,fun bn j b ah=>?_,fun b o bf=>(aq.sh b o (h.fr.keep b o bf).1).trans (h.fr.sh b o bf),fun j n u b ao aL=>(by
   by_cases e:aC.loc j=k
   ·subst e;simp only[aQ.withOwn,if_true,ei,gY]at ao;rw[<-ao.2,DV]at aL;cases aL;exact h.fr.nrow j o.n v bl aN hT
   ·simp only[aQ.withOwn,br e]at ao;exact h.fr.nrow j n u b ao aL)⟩ (fun m hm=>?_),aq,?_⟩
 ·obtain⟨b,bE,fj,g1,g2,g3,g4,g5⟩:=h.good.box j ds ai;have b7:b≠bl:=fun e=>h.good.obx k j o.n _ bl (by simp[ab]) (by simp[ai]) aN hT (by rw[<-e];exact g1);exact⟨b,bE,fj,g1,g2,g3,by rw[lb b b7];exact g4,qn aq g5⟩
 ·simp only at fb;rw[jK]at fb;by_cases e:k=g
  ·rw[if_pos e]at fb;cases fb;subst e;refine⟨v',us,by simp[aQ.withOwn],ld,fun b ah=>?_,fun ys bG=>?_⟩
   ·rw[DV]at ah;cases ah;exact⟨(dT bl hT).1,fun j bf=>absurd bf (tY bl hT j)⟩
   ·simp only[ei]at bG;subst bG;exact⟨rfl,BX aq aH,fun b ah=>by rw[DV]at ah;cases ah;exact tY bl hT⟩
  ·rw[br e]at fb;obtain⟨v0,fq,ao,aL,bB,b9⟩:=h.good.own g o' fb;have b7:∀b,v0.ownBlock=some b->b≠bl:=fun b ah JN=>e (h.good.oinj k g o.n o'.n _ v0 bl (by simp[ab]) (by simp[fb]) aN ao hT (by rw[<-JN];exact ah));refine⟨v0,fq,by simp[aQ.withOwn,Ne.symm e,ao],⟨aL.1,?_⟩,bB,sc aq (fun _ _ _ h=>h) b9⟩;rcases aL.2 with aL|⟨iq,AD,nq,f1,f2,f3,f4⟩
   ·exact .inl aL
   ·exact .inr ⟨iq,AD,nq,f1,f2,by rw[lb iq (b7 iq (by rw[f1];rfl))];exact f3,f4⟩
 ·obtain⟨bH,hi,iK,a2,a3⟩:=lC g n u I au b bA;obtain⟨cq,gd,h9,cE,gD⟩:=lC et n' eJ J aP b cy;exact h.good.oinj g et hi gd iK h9 b bH cq a2 cE a3 gD
 ·obtain⟨bH,hi,iK,a2,a3⟩:=lC g n u I au b aP;exact h.good.obx g j hi iK b bH J a2 a3 bA
 ·by_cases e:j=k
  ·subst e;rcases h.good.one j with I|I
   ·exact .inl I
   ·rw[I]at aN;cases aN
  ·rcases h.good.one j with I|I
   ·exact .inl I
   ·exact .inr (by simp[aQ.withOwn,e,I])
 ·rw[lb j fun e=>by subst e;exact(dT j hT).1.elim hm (fun g2=>Ω)];exact h.fr.block j ai hm
 ·obtain⟨cD,dI⟩:=h.fr.keep b i bf;exact⟨cD,(aq.A b i cD).2.trans dI⟩
 ·obtain⟨t1,t2⟩:=h.fr.trn bn j b ah;have b7:bn≠k:=fun e=>by subst e;rw[t2]at aN;cases aN
  exact⟨t1,by simp[aQ.withOwn,b7,t2]⟩
 ·obtain⟨cD,dI,hA⟩:=h.new m hm;refine⟨cD,?_,hA⟩;have:m≠k:=fun e=>by subst e;rw[dI]at aN;cases aN
  simp[aQ.withOwn,this,dI]
 ·intro e5;simp only[aJ];obtain⟨cap,Kz⟩:=Vy ld DV;exact⟨⟨bl,cap,Kz⟩,e5,xs'.length,v',by simp[aQ.withOwn],cc _,fun _=>rfl⟩
end
end Go.Pv
