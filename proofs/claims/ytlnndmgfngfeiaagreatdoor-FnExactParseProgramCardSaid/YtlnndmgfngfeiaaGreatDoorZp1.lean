/- Rows of the call's own: a new one, and one that is appended to in place. -/
import Derived.WalkKit
import Derived.Orders
import Derived.KernelRfl
import Derived.IntWalk
import Derived.Laws.StructEq
import Derived.ChangeKeysEq
import Derived.MapKept
import Derived.ArgAppend
set_option linter.all false
set_option maxHeartbeats 4000000
set_option maxRecDepth 4000
namespace Go
theorem Ω{p:Prop}(h:p:=by omega):p:=h
theorem Ψ{p:Prop}(h:p:=by simp):p:=h
end Go
open Array renaming getD_eq_getD_getElem?->oC
open Bool renaming and_eq_true->bM,false_eq_true->kk,not_eq_true'->q0
open ByteArray renaming empty->aiW,ext->aeP,push->aiX,size->KT
open Go renaming Operand->h7,Program->bK,TypeId->fI
open Go.ByteArray renaming toList_eq->aeQ
open Go.IntKind renaming i64->kD
open Go.IntWalk renaming i64_in->ng
open Go.Result renaming andThen_ok->e4
open Go.Sem renaming run_bind->e2,run_pure->fH
open Go.Value renaming cells->oF,int->nK,ownBlock->nh
open Go.Value.pointer renaming injEq->ai2
open List renaming all_eq_true->jy,cons_append->dm,eq_nil_of_length_eq_zero->q1,getElem?_drop->k2,getElem?_eq_getElem->cF,getElem?_eq_some_iff->e3,length_append->j2,length_cons->lx,length_drop->hg,length_take->pe,map_cons->gY,mem_append->hv,mem_cons->gp,take_succ_cons->sB
open List.cons renaming injEq->Ai
open Nat renaming le_refl->cq
open Option renaming isSome_iff_exists->e5,isSome_none->sD,map_eq_some_iff->ij,map_none->tG,map_some->kF
open Option.some renaming injEq->dZ
open Prod.mk renaming injEq->gA
open UInt8 renaming ofNat->nL
open _root_ renaming ByteArray->jL,False->cZ,Option->aT,UInt8->al,beq_iff_eq->ej,congrArg->er,decide_eq_true_eq->fK,if_neg->bq
namespace Go.Pv
section
open Go Go.RowKit
inductive aC where
 |loc (s:Nat)
 |obj (n:Nat)
 deriving DecidableEq,Inhabited
inductive h9 where
 |no
 |nil
 |own (k:aC)
 |tr (k:aC) (j:Nat)
 |lo (k:aC)
 deriving DecidableEq,Inhabited
inductive ae where
 |junk
 |int (k:IntKind) (n:Int)
 |bool (b:Bool)
 |str (s:List al)
 |slice (sz:Nat) (tag:h9) (xs:List ae)
 |agg (cs:List ae)
 |ptr (key:aC) (off:Nat)
 |eptr (x:ae)
 |iface (t:Nat) (x:ae)
 |nilp
 |tuple (vs:List ae)
 |func (f:Nat) (ds:List ae)
 |gmap (key:aC)
 |row (sz:Nat) (key:aC) (n:Nat)
 |rptr (sz:Nat) (key:aC) (n i f:Nat)
 |hdm (clock:Nat) (borns:List Nat)
 |hdi (since:Nat) (seen:List Nat) (last:Nat)
 |cst (v:Value)
 deriving Inhabited
structure aP where
 A:Nat->Nat->Prop
 bx:aC->aT Nat
 ow:aC->aT (Nat×Value)
 tr:aC->Nat->Nat->Prop
def bN:Nat:=68719476736
def jI(w:World)(A:Nat->Nat->Prop)(b:Nat):Nat->List Value->Prop
 |_,[]=>True
 |off,u::us=>(A b off/\w.cell? ⟨b,off,none⟩=some u)/\jI w A b (off+1) us
def shape(w:World)(b:Nat):aT (Nat×fI×(Nat×Nat)):=
 match w.heap[b]? with
 |some (.cells cur el fz)=>some (cur.size,el,fz)
 |_=>none
theorem zX{w w':World}{b:Nat}(h:w'.heap[b]? =w.heap[b]?):shape w' b=shape w b:=by unfold shape;rw[h]
mutual
def ca(t:Bool)(w:World)(A:Nat->Nat->Prop)(F:Nat->Prop):ae->Value->Prop
 | .int k n,v=>v= .int k n
 | .bool b,v=>v= .bool b
 | .str s,v=>v= .string ⟨s.toArray⟩/\s.length<=bN
 | .slice sz _ xs,v=> ∃a cap,v= .slice a xs.length cap/\xs.length<=cap/\(cap<=maxLen/\xs.length<=bN)/\
   (xs=[]\/ ∃b off us G,a=some ⟨b,off,none⟩/\F b/\(∀c,G c->F c/\(t=true->c≠b))/\jI w A b off us/\(t=true->off=0/\0<us.length/\∃el,shape w b=some (cap*sz,el,(0,0)))/\iG t w A G sz xs us)
 | .agg cs,v=> ∃us:Array Value,v= .agg us/\jA t w A F cs us.toList
 |_,_=>cZ
def jA(t:Bool)(w:World)(A:Nat->Nat->Prop)(F:Nat->Prop):List ae->List Value->Prop
 |[],us=>us=[]
 |c::cs,us=> ∃u br fR fS,us=u::br/\((∀b,fR b->F b)/\(∀b,fS b->F b)/\(t=true->∀b,fR b->¬fS b))/\(ca t w A fR c u/\u.oneCell'=true)/\jA t w A fS cs br
def iG(t:Bool)(w:World)(A:Nat->Nat->Prop)(F:Nat->Prop)(sz:Nat):List ae->List Value->Prop
 |[],us=>us=[]
 |x::xs,us=> ∃u br fR fS,us=u.cells.toList++br/\((∀b,fR b->F b)/\(∀b,fS b->F b)/\(t=true->∀b,fR b->¬fS b))/\(ca t w A fR x u/\u.cells.size=sz/\(∀c∈u.cells.toList,c.oneCell'=true))/\iG t w A fS sz xs br
end
def u3(f:Nat):Nat:=f-1000000
def sR(f:Nat)(us:Array Value):Value:=if f<1000000 then .func (.func f) #[] us else .func (.func (u3 f)) us #[]
theorem WY{f:Nat}(h:f<1000000)(us:Array Value):sR f us= .func (.func f) #[] us:=if_pos h
theorem WX{f:Nat}(h:¬f<1000000)(us:Array Value):sR f us= .func (.func (u3 f)) us #[]:=bq h
theorem WW(m:Nat)(us:Array Value):sR (m+1000000) us= .func (.func m) us #[]:=by unfold sR u3;rw[bq Ω,Nat.add_sub_cancel]
mutual
def aH(w:World)(ν:aP):ae->Value->Prop
 | .junk,_=>True
 | .int k n,v=>v= .int k n
 | .bool b,v=>v= .bool b
 | .str s,v=>v= .string ⟨s.toArray⟩/\s.length<=bN
 | .slice sz tag xs,v=>
   (∃a cap,v= .slice a xs.length cap/\xs.length<=cap/\(cap<=maxLen/\xs.length<=bN)/\(xs=[]\/ ∃b off us,a=some ⟨b,off,none⟩/\jI w ν.A b off us/\cC w ν sz xs us))/\
   (tag= .nil->v= .slice none 0 0)/\
   (∀g,tag= .own g->∃n u,ν.ow g=some (n,u)/\xs.length<=n/\(xs.length=n->v=u))/\
   (∀k j,tag= .tr k j->ca true w ν.A (ν.tr k j) (.slice sz tag xs) v)/\(∀k,tag= .lo k->ca false w ν.A (ν.tr k 0) (.slice sz tag xs) v)
 | .agg cs,v=> ∃us:Array Value,v= .agg us/\cl w ν cs us.toList
 | .ptr key off,v=> ∃b,ν.bx key=some b/\v= .pointer (some ⟨b,off,none⟩)
 | .eptr x,v=> ∃b off u,v= .pointer (some ⟨b,off,none⟩)/\aH w ν x u/\jI w ν.A b off u.cells.toList
 | .iface t x,v=> ∃u,v= .iface t u/\aH w ν x u
 | .nilp,v=>v= .pointer none
 | .tuple vs,v=> ∃us:Array Value,v= .tuple us/\cc w ν vs us.toList
 | .func f ds,v=> ∃us:Array Value,v=sR f us/\cc w ν ds us.toList
 | .gmap key,v=> ∃b,ν.bx key=some b/\v= .map (some b)
 | .row _ key n,v=>(∃b cap,v= .slice (some ⟨b,0,none⟩) n cap)/\n<=bN/\∃n' u,ν.ow key=some (n',u)/\n<=n'/\(n=n'->v=u)
 | .rptr sz key n i f,v=>(∃b o,v= .pointer (some ⟨b,o,none⟩))/\i<n/\∃n' u,ν.ow key=some (n',u)/\n<=n'/\(n=n'->∃b,u.ownBlock=some b/\v= .pointer (some ⟨b,i*sz+f,none⟩))
 | .hdm _ _,_=>cZ
 | .hdi _ _ _,_=>cZ
 | .cst c,v=>v=c
def cl(w:World)(ν:aP):List ae->List Value->Prop
 |[],us=>us=[]
 |c::cs,us=> ∃u br,us=u::br/\(aH w ν c u/\u.oneCell'=true)/\cl w ν cs br
def cc(w:World)(ν:aP):List ae->List Value->Prop
 |[],us=>us=[]
 |c::cs,us=> ∃u br,us=u::br/\aH w ν c u/\cc w ν cs br
def cC(w:World)(ν:aP)(sz:Nat):List ae->List Value->Prop
 |[],us=>us=[]
 |x::xs,us=> ∃u br,us=u.cells.toList++br/\(aH w ν x u/\u.cells.size=sz/\(∀c∈u.cells.toList,c.oneCell'=true))/\cC w ν sz xs br
end
theorem v7{w w':World}{A A':Nat->Nat->Prop}{b:Nat}(aW:∀b o,A b o->A' b o/\w'.cell? ⟨b,o,none⟩=w.cell? ⟨b,o,none⟩):
  ∀(us:List Value) (off:Nat),jI w A b off us->jI w' A' b off us
 |[],_,_=>trivial
 |_::us,off,h=>⟨⟨(aW _ _ h.1.1).1,(aW _ _ h.1.1).2.trans h.1.2⟩,v7 aW us (off+1) h.2⟩
mutual
theorem sT{t:Bool}{w w':World}{A A':Nat->Nat->Prop}(aW:∀b o,A b o->A' b o/\w'.cell? ⟨b,o,none⟩=w.cell? ⟨b,o,none⟩)(aq:∀b o,A b o->shape w' b=shape w b):∀(p:ae) (F oI:Nat->Prop) (v:Value),(∀b,F b->oI b)->ca t w A F p v->ca t w' A' oI p v
 | .int k n,_,_,_,_,h=>by simp only[ca]at h⊢;exact h
 | .bool b,_,_,_,_,h=>by simp only[ca]at h⊢;exact h
 | .str s,_,_,_,_,h=>by simp only[ca]at h⊢;exact h
 | .slice sz tag xs,F,oI,v,fj,h=>by
  simp only[ca]at h⊢;obtain⟨a,cap,I,J,ao,aO⟩:=h;refine⟨a,cap,I,J,ao,?_⟩;rcases aO with aO|⟨b,off,us,G,aj,aJ,bs,ch,fa,dd⟩
  ·exact .inl aO
  ·refine .inr ⟨b,off,us,G,aj,fj _ aJ,fun c aE=>⟨fj _ (bs c aE).1,(bs c aE).2⟩,v7 aW _ _ ch,fun aD=>?_,DC aW aq xs G G _ (fun _ h=>h) dd⟩;obtain⟨f1,f2,el,f3⟩:=fa aD;refine⟨f1,f2,el,?_⟩;cases us with
   |nil=>simp at f2
   |cons u us=>rw[aq b off ch.1.1];exact f3
 | .agg cs,F,oI,v,fj,h=>by simp only[ca]at h⊢;obtain⟨us,I,J⟩:=h;exact⟨us,I,Nw aW aq cs F oI _ fj J⟩
 | .junk,_,_,_,_,h=>by simp[ca]at h
 | .ptr _ _,_,_,_,_,h=>by simp[ca]at h
 | .eptr _,_,_,_,_,h=>by simp[ca]at h
 | .iface _ _,_,_,_,_,h=>by simp[ca]at h
 | .nilp,_,_,_,_,h=>by simp[ca]at h
 | .tuple _,_,_,_,_,h=>by simp[ca]at h
 | .func _ _,_,_,_,_,h=>by simp[ca]at h
 | .gmap _,_,_,_,_,h=>by simp[ca]at h
 | .row _ _ _,_,_,_,_,h=>by simp[ca]at h
 | .rptr _ _ _ _ _,_,_,_,_,h=>by simp[ca]at h
 | .hdm _ _,_,_,_,_,h=>by simp[ca]at h
 | .hdi _ _ _,_,_,_,_,h=>by simp[ca]at h
 | .cst _,_,_,_,_,h=>by simp[ca]at h
theorem Nw{t:Bool}{w w':World}{A A':Nat->Nat->Prop}(aW:∀b o,A b o->A' b o/\w'.cell? ⟨b,o,none⟩=w.cell? ⟨b,o,none⟩)(aq:∀b o,A b o->shape w' b=shape w b):∀(cs:List ae) (F oI:Nat->Prop) (us:List Value),(∀b,F b->oI b)->jA t w A F cs us->jA t w' A' oI cs us
 |[],_,_,_,_,h=>by simp only[jA]at h⊢;exact h
 |c::cs,F,oI,us,fj,h=>by simp only[jA]at h⊢;obtain⟨u,br,fR,fS,I,⟨J,ao,aO⟩,⟨bp,cj⟩,eu⟩:=h;exact⟨u,br,fR,fS,I,⟨fun b ah=>fj _ (J b ah),fun b ah=>fj _ (ao b ah),aO⟩,⟨sT aW aq c fR fR u (fun _ h=>h) bp,cj⟩,Nw aW aq cs fS fS br (fun _ h=>h) eu⟩
theorem DC{t:Bool}{w w':World}{A A':Nat->Nat->Prop}(aW:∀b o,A b o->A' b o/\w'.cell? ⟨b,o,none⟩=w.cell? ⟨b,o,none⟩)(aq:∀b o,A b o->shape w' b=shape w b){sz:Nat}:∀(cs:List ae) (F oI:Nat->Prop) (us:List Value),(∀b,F b->oI b)->iG t w A F sz cs us->iG t w' A' oI sz cs us
 |[],_,_,_,_,h=>by simp only[iG]at h⊢;exact h
 |c::cs,F,oI,us,fj,h=>by simp only[iG]at h⊢;obtain⟨u,br,fR,fS,I,⟨J,ao,aO⟩,⟨bp,cj⟩,eu⟩:=h;exact⟨u,br,fR,fS,I,⟨fun b ah=>fj _ (J b ah),fun b ah=>fj _ (ao b ah),aO⟩,⟨sT aW aq c fR fR u (fun _ h=>h) bp,cj⟩,DC aW aq cs fS fS br (fun _ h=>h) eu⟩
end
mutual
def kin(S:aC->Prop):ae->Prop
 | .slice _ tag xs=>(match tag with| .own k=>S k| .tr k _=>S k| .lo k=>S k|_=>True)/\kinL S xs
 | .agg cs=>kinL S cs
 | .ptr k _=>S k
 | .eptr x=>kin S x
 | .iface _ x=>kin S x
 | .tuple vs=>kinL S vs
 | .func _ ds=>kinL S ds
 | .gmap k=>S k
 | .row _ k _=>S k
 | .rptr _ k _ _ _=>S k
 |_=>True
def kinL(S:aC->Prop):List ae->Prop
 |[]=>True
 |x::xs=>kin S x/\kinL S xs
end
mutual
theorem nB{S T:aC->Prop}(h:∀k,S k->T k):∀p:ae,kin S p->kin T p
 | .junk,_=>by simp[kin]
 | .int _ _,_=>by simp[kin]
 | .bool _,_=>by simp[kin]
 | .str _,_=>by simp[kin]
 | .slice sz tag xs,aU=>by simp only[kin]at aU⊢;exact⟨by cases tag<;>first|trivial|exact h _ aU.1,nA h xs aU.2⟩
 | .agg cs,aU=>by simp only[kin]at aU⊢;exact nA h cs aU
 | .ptr k _,aU=>by simp only[kin]at aU⊢;exact h _ aU
 | .eptr x,aU=>by simp only[kin]at aU⊢;exact nB h x aU
 | .iface _ x,aU=>by simp only[kin]at aU⊢;exact nB h x aU
 | .nilp,_=>by simp[kin]
 | .tuple vs,aU=>by simp only[kin]at aU⊢;exact nA h vs aU
 | .func _ ds,aU=>by simp only[kin]at aU⊢;exact nA h ds aU
 | .gmap k,aU=>by simp only[kin]at aU⊢;exact h _ aU
 | .row _ k _,aU=>by simp only[kin]at aU⊢;exact h _ aU
 | .rptr _ k _ _ _,aU=>by simp only[kin]at aU⊢;exact h _ aU
 | .hdm _ _,_=>by simp[kin]
 | .hdi _ _ _,_=>by simp[kin]
 | .cst _,_=>by simp[kin]
theorem nA{S T:aC->Prop}(h:∀k,S k->T k):∀a6:List ae,kinL S a6->kinL T a6
 |[],_=>by simp[kinL]
 |x::xs,aU=>by simp only[kinL]at aU⊢;exact⟨nB h x aU.1,nA h xs aU.2⟩
end
mutual
theorem Es:∀p:ae,kin (fun _=>True) p
 | .junk=>by simp[kin]
 | .int _ _=>by simp[kin]
 | .bool _=>by simp[kin]
 | .str _=>by simp[kin]
 | .slice sz tag xs=>by simp only[kin];exact⟨by cases tag<;>trivial,vX xs⟩
 | .agg cs=>by simp only[kin];exact vX cs
 | .ptr k _=>by simp[kin]
 | .eptr x=>by simp only[kin];exact Es x
 | .iface _ x=>by simp only[kin];exact Es x
 | .nilp=>by simp[kin]
 | .tuple vs=>by simp only[kin];exact vX vs
 | .func _ ds=>by simp only[kin];exact vX ds
 | .gmap k=>by simp[kin]
 | .row _ k _=>by simp[kin]
 | .rptr _ k _ _ _=>by simp[kin]
 | .hdm _ _=>by simp[kin]
 | .hdi _ _ _=>by simp[kin]
 | .cst _=>by simp[kin]
theorem vX:∀a6:List ae,kinL (fun _=>True) a6
 |[]=>by simp[kinL]
 |x::xs=>by simp only[kinL];exact⟨Es x,vX xs⟩
end
def fw:List Nat->List Value->List MapEntry
 |b::eF,k::v::r=>⟨k,v,b⟩::fw eF r
 |_,_=>[]
def ix(cs:List ae)(us:Array Value)(el:fI):Obj:=
 match cs with
 | .hdm clock borns::_=>.map (fw borns us.toList).toArray clock
 | .hdi since seen last::_=>.mapIter (match us.toList with|[.map m]=>m|_=>none) since seen.toArray last
 |_=>.cells us el
structure aaw (clock:Nat) (borns:List Nat) (r:List ae):Prop where
 len:r.length=2*borns.length
 inc:borns.Pairwise (· < ·)
 lt:∀b∈borns,b<clock
def hM(w:World)(ν:aP)(cs:List ae)(us:List Value):Prop:=
 match cs with
 | .hdm clock borns::r=>cc w ν r us/\aaw clock borns r
 | .hdi _ _ _::r=>cc w ν r us
 |cs=>cl w ν cs us
def gn:List ae->Bool
 | .hdm _ _::_=>false
 | .hdi _ _ _::_=>false
 |_=>true
theorem tq{w:World}{ν:aP}{cs:List ae}{us:List Value}(h:cl w ν cs us):gn cs=true:=by
 unfold gn;split
 ·simp only[cl,aH]at h;obtain⟨_,_,_,⟨h,_⟩,_⟩:=h;exact h.elim
 ·simp only[cl,aH]at h;obtain⟨_,_,_,⟨h,_⟩,_⟩:=h;exact h.elim
 ·rfl
theorem nD{cs:List ae}(h:gn cs=true)(us:Array Value)(el:fI):ix cs us el= .cells us el:=by
 unfold gn at h;unfold ix;split at h<;>first|cases h|skip
 rfl
theorem na{w:World}{ν:aP}{cs:List ae}(h:gn cs=true)(us:List Value):hM w ν cs us=cl w ν cs us:=by
 unfold gn at h;unfold hM;split at h<;>first|cases h|skip
 rfl
structure mB (S:aC->Prop) (w:World) (ν:aP) (w':World) (ν':aP):Prop where
 A:∀b o,ν.A b o->ν'.A b o/\w'.cell? ⟨b,o,none⟩=w.cell? ⟨b,o,none⟩
 bx:∀k b,S k->ν.bx k=some b->ν'.bx k=some b
 ow:∀g n u,S g->ν.ow g=some (n,u)->∃n' eA,ν'.ow g=some (n',eA)/\(n'=n/\eA=u\/n<n')
 sh:∀b o,ν.A b o->shape w' b=shape w b
 tr:∀k j b,S k->ν.tr k j b->ν'.tr k j b
abbrev l1:=mB (fun _=>True)
mutual
theorem qM{S:aC->Prop}{w w':World}{ν ν':aP}(ak:mB S w ν w' ν'):∀(p:ae) (v:Value),kin S p->aH w ν p v->aH w' ν' p v
 | .junk,_,_,_=>by simp[aH]
 | .int k n,_,_,h=>by simp only[aH]at h⊢;exact h
 | .bool b,_,_,h=>by simp only[aH]at h⊢;exact h
 | .str s,_,_,h=>by simp only[aH]at h⊢;exact h
 | .slice sz tag xs,v,aa,h=>by
  simp only[aH,kin]at h aa⊢;obtain⟨⟨a,cap,I,J,ao,aO⟩,bp,cj,gB,e6⟩:=h;refine⟨⟨a,cap,I,J,ao,?_⟩,bp,fun g aR=>?_,fun k j gw=>?_,fun k gw=>?_⟩
  ·rcases aO with aO|⟨b,off,us,aO,cj,eu⟩
   ·exact .inl aO
   ·exact .inr ⟨b,off,us,aO,v7 ak.A _ _ cj,Fh ak sz xs us aa.2 eu⟩
  ·obtain⟨n,u,aj,aJ,bs⟩:=cj g aR;subst aR;obtain⟨n',eA,f1,f2⟩:=ak.ow g n u aa.1 aj;refine⟨n',eA,f1,?_⟩;rcases f2 with⟨rfl,rfl⟩|f2
   ·exact⟨aJ,bs⟩
   ·exact⟨Ω,fun e=>Ω⟩
  ·have:=gB k j gw;subst gw;exact sT ak.A ak.sh _ _ _ _ (fun b=>ak.tr k j b aa.1) this
  ·have:=e6 k gw;subst gw;exact sT ak.A ak.sh _ _ _ _ (fun b=>ak.tr k 0 b aa.1) this
 | .agg cs,v,aa,h=>by simp only[aH,kin]at h aa⊢;obtain⟨us,I,J⟩:=h;exact⟨us,I,Fj ak cs _ aa J⟩
 | .ptr key off,v,aa,h=>by simp only[aH,kin]at h aa⊢;obtain⟨b,I,J⟩:=h;exact⟨b,ak.bx _ _ aa I,J⟩
 | .iface t x,v,aa,h=>by simp only[aH,kin]at h aa⊢;obtain⟨u,I,J⟩:=h;exact⟨u,I,qM ak x u aa J⟩
 | .eptr x,v,aa,h=>by simp only[aH,kin]at h aa⊢;obtain⟨b,off,u,I,J,ao⟩:=h;exact⟨b,off,u,I,qM ak x u aa J,v7 ak.A _ _ ao⟩
 | .nilp,_,_,h=>by simp only[aH]at h⊢;exact h
 | .tuple vs,v,aa,h=>by simp only[aH,kin]at h aa⊢;obtain⟨us,I,J⟩:=h;exact⟨us,I,zS ak vs _ aa J⟩
 | .func f ds,v,aa,h=>by simp only[aH,kin]at h aa⊢;obtain⟨us,I,J⟩:=h;exact⟨us,I,zS ak ds _ aa J⟩
 | .gmap key,v,aa,h=>by simp only[aH,kin]at h aa⊢;obtain⟨b,I,J⟩:=h;exact⟨b,ak.bx _ _ aa I,J⟩
 | .row sz key n,v,aa,h=>by
  simp only[aH,kin]at h aa⊢;obtain⟨I,J,n',u,ao,aO,bp⟩:=h;obtain⟨fx,hX,f1,f2⟩:=ak.ow key n' u aa ao;refine⟨I,J,fx,hX,f1,?_⟩;rcases f2 with⟨rfl,rfl⟩|f2
  ·exact⟨aO,bp⟩
  ·exact⟨Ω,fun e=>Ω⟩
 | .rptr sz key n i f,v,aa,h=>by
  simp only[aH,kin]at h aa⊢;obtain⟨I,J,n',u,ao,aO,bp⟩:=h;obtain⟨fx,hX,f1,f2⟩:=ak.ow key n' u aa ao;refine⟨I,J,fx,hX,f1,?_⟩;rcases f2 with⟨rfl,rfl⟩|f2
  ·exact⟨aO,bp⟩
  ·exact⟨Ω,fun e=>Ω⟩
 | .hdm _ _,_,_,h=>by simp only[aH]at h
 | .hdi _ _ _,_,_,h=>by simp only[aH]at h
 | .cst c,_,_,h=>by simp only[aH]at h⊢;exact h
theorem Fj{S:aC->Prop}{w w':World}{ν ν':aP}(ak:mB S w ν w' ν'):∀(cs:List ae) (us:List Value),kinL S cs->cl w ν cs us->cl w' ν' cs us
 |[],_,_,h=>by simp only[cl]at h⊢;exact h
 |c::cs,us,aa,h=>by simp only[cl,kinL]at h aa⊢;obtain⟨u,br,I,J,ao⟩:=h;exact⟨u,br,I,⟨qM ak c u aa.1 J.1,J.2⟩,Fj ak cs br aa.2 ao⟩
theorem zS{S:aC->Prop}{w w':World}{ν ν':aP}(ak:mB S w ν w' ν'):∀(cs:List ae) (us:List Value),kinL S cs->cc w ν cs us->cc w' ν' cs us
 |[],_,_,h=>by simp only[cc]at h⊢;exact h
 |c::cs,us,aa,h=>by simp only[cc,kinL]at h aa⊢;obtain⟨u,br,I,J,ao⟩:=h;exact⟨u,br,I,qM ak c u aa.1 J,zS ak cs br aa.2 ao⟩
theorem Fh{S:aC->Prop}{w w':World}{ν ν':aP}(ak:mB S w ν w' ν')(sz:Nat):∀(xs:List ae) (us:List Value),kinL S xs->cC w ν sz xs us->cC w' ν' sz xs us
 |[],_,_,h=>by simp only[cC]at h⊢;exact h
 |x::xs,us,aa,h=>by simp only[cC,kinL]at h aa⊢;obtain⟨u,br,I,⟨J,ao,aO⟩,bp⟩:=h;exact⟨u,br,I,⟨qM ak x u aa.1 J,ao,aO⟩,Fh ak sz xs br aa.2 bp⟩
end
theorem JK{S:aC->Prop}{w w':World}{ν ν':aP}(ak:mB S w ν w' ν'){cs:List ae}{us:List Value}(aa:kinL S cs)(h:hM w ν cs us):hM w' ν' cs us:=by
 unfold hM at h⊢;split
 ·simp only[kinL]at aa;exact⟨zS ak _ _ aa.2 h.1,h.2⟩
 ·simp only[kinL]at aa;exact zS ak _ _ aa.2 h
 ·rename_i I J;split at h
  ·exact absurd rfl (I _ _ _)
  ·exact absurd rfl (J _ _ _ _)
  ·exact Fj ak _ _ aa h
section
variable {w w':World} {ν ν':aP} (ak:l1 w ν w' ν')
include ak
theorem uU{p:ae}{v:Value}(h:aH w ν p v):aH w' ν' p v:=qM ak p v (Es p) h
theorem RF{p:List ae}{v:List Value}(h:cl w ν p v):cl w' ν' p v:=Fj ak p v (vX p) h
theorem pZ{p:List ae}{v:List Value}(h:hM w ν p v):hM w' ν' p v:=JK ak (vX p) h
theorem zO{sz:Nat}{p:List ae}{v:List Value}(h:cC w ν sz p v):cC w' ν' sz p v:=Fh ak sz p v (vX p) h
end
end
section
open Go Go.RowKit
def get(k:Nat):List (Nat×ae)->ae
 |[]=>.junk
 |(i,p)::r=>if i=k then p else get k r
def put(k:Nat)(p:ae):List (Nat×ae)->List (Nat×ae)
 |[]=>[(k,p)]
 |(i,q)::r=>if i=k then(i,p)::r else(i,q)::put k p r
def look{α:Type}(k:aC):List (aC×α)->aT α
 |[]=>none
 |(i,p)::r=>if i=k then some p else look k r
def cT{α:Type}(k:aC)(p:α):List (aC×α)->List (aC×α)
 |[]=>[(k,p)]
 |(i,q)::r=>if i=k then(i,p)::r else(i,q)::cT k p r
theorem get_put(k j:Nat)(p:ae):∀l,get j (put k p l)=if k=j then p else get j l
 |[]=>by simp[get,put]
 |(i,q)::r=>by
  by_cases h:i=k
  ·subst h;by_cases J:i=j<;>simp[get,put,J]
  ·by_cases J:i=j
   ·subst J;simp[get,put,h,Ne.symm h]
   ·simp[get,put,h,J,get_put k j p r]
theorem iQ{α:Type}(k j:aC)(p:α):∀l,look j (cT k p l)=if k=j then some p else look j l
 |[]=>by simp[look,cT]
 |(i,q)::r=>by
  by_cases h:i=k
  ·subst h;by_cases J:i=j<;>simp[look,cT,J]
  ·by_cases J:i=j
   ·subst J;simp[look,cT,h,Ne.symm h]
   ·simp[look,cT,h,J,iQ k j p r]
structure cV where
 n:Nat
 el:Nat
 sz:Nat
 xs:aT (List ae)
def JU(w:World)(ν:aP)(o:cV)(v:Value)(us:List Value):Prop:=∀xs,o.xs=some xs->xs.length=o.n/\cC w ν o.sz xs us/\∀bl,v.ownBlock=some bl->∀j,¬ν.A bl j
theorem se{w w':World}{ν ν':aP}(ak:l1 w ν w' ν'){o:cV}{v:Value}{us:List Value}(aW:∀bl,v.ownBlock=some bl->∀j,ν'.A bl j->ν.A bl j)(h:JU w ν o v us):JU w' ν' o v us:=fun xs af=>⟨(h xs af).1,zO ak (h xs af).2.1,fun bl ah j aw=>(h xs af).2.2 bl ah j (aW bl ah j aw)⟩
def cB(S:aC->Prop)(o:cV):Prop:= ∀xs,o.xs=some xs->kinL S xs
structure aS where
 t:List (Nat×ae)
 b:List (aC×List ae)
 e:List (aC×cV)
 n:Nat
 o:List aC
def fresh(n:Nat)(o:List aC)(k:aC):Prop:=(match k with| .loc m=>n<=m| .obj _=>True)/\k∉o
theorem qu{n n':Nat}{o o':List aC}(aK:n<=n')(ak:∀k∈o,k∈o'){k:aC}(h:fresh n' o' k):fresh n o k:=by unfold fresh at h⊢;exact⟨by cases k<;>simp at h⊢;omega,fun aa=>h.2 (ak k aa)⟩
def wD(ν:aP)(b:List (aC×List ae))(e:List (aC×cV))(bl:Nat):Prop:=(∃k,(look k b).isSome/\ν.bx k=some bl)\/(∃g n v,(look g e).isSome/\ν.ow g=some (n,v)/\v.ownBlock=some bl)
def Ko:Nat:=106
def FO(k:aC):={el:fI//k= .obj 861->el=Ko}
structure Good (pr:Nat->Prop) (w:World) (ν:aP) (b:List (aC×List ae)) (e:List (aC×cV)):Prop where
 alt:∀bl o,ν.A bl o->bl<w.heap.size
 box:∀k cs,look k b=some cs->∃(bl:Nat) (us:Array Value) (el:FO k),ν.bx k=some bl/\pr bl/\(∀o,¬ν.A bl o)/\w.heap[bl]? =some (ix cs us el.1)/\hM w ν cs us.toList
 inj:∀k bb bl,(look k b).isSome->(look bb b).isSome->ν.bx k=some bl->ν.bx bb=some bl->k=bb
 own:∀g o,look g e=some o->∃v us,ν.ow g=some (o.n,v)/\w.ownsRow 0 o.el o.sz v o.n us/\(∀bl,v.ownBlock=some bl->pr bl/\(∀j,ν.A bl j->j<o.n*o.sz))/\JU w ν o v us
 oinj:∀g eM n n' v v' bl,(look g e).isSome->(look eM e).isSome->ν.ow g=some (n,v)->ν.ow eM=some (n',v')->v.ownBlock=some bl->v'.ownBlock=some bl->g=eM
 obx:∀g k n v bl,(look g e).isSome->(look k b).isSome->ν.ow g=some (n,v)->v.ownBlock=some bl->ν.bx k=some bl->cZ
 one:∀k,ν.bx k=none\/ν.ow k=none
 otr:∀bl,wD ν b e bl->∀k j,¬ν.tr k j bl
def vz:List (Nat×Nat×Nat×(Value->Prop)):=((List.range 20).map fun i=>(0,i,20,fun v=>v=nK .u64 ((10 ^ i:Nat):Int)))++[(1,0,1,fun v=> ∃t p,v=Value.iface t p),(2,0,1,fun v=> ∃t p,v=Value.iface t p)]
def nO(w:World)(ν:aP):Prop:= ∀x∈vz,ν.A x.1 x.2.1/\(∃v,w.cell? ⟨x.1,x.2.1,none⟩=some v/\x.2.2.2 v)/\∃el,shape w x.1=some (x.2.2.1,el)
structure ek where
 w0:World
 ν0:aP
 mt:Nat->Prop
 N:Nat
 ob:List aC
 gl:nO w0 ν0
 ex:List (ae×Value)
def ek.pr(C:ek)(bl:Nat):Prop:=C.mt bl\/C.w0.heap.size<=bl
def dv:aC:= .obj 990001
structure ni (C:ek) (w:World) (ν:aP):Prop where
 os:w.os=C.w0.os
 tape:w.tape=C.w0.tape
 output:w.output=C.w0.output
 size:C.w0.heap.size<=w.heap.size
 block:∀k,k<C.w0.heap.size->¬C.mt k->w.heap[k]? =C.w0.heap[k]?
 keep:∀b o,C.ν0.A b o->ν.A b o/\w.cell? ⟨b,o,none⟩=C.w0.cell? ⟨b,o,none⟩
 fresh:∀b o,ν.A b o->C.ν0.A b o\/C.pr b
 obj:∀n b,C.ν0.bx (.obj n)=some b->ν.bx (.obj n)=some b
 obn:∀n b,C.ν0.bx (.obj n)=some b-> .obj n∈C.ob
 row:∀m n u,C.ν0.ow (.obj m)=some (n,u)->∃n' eA,ν.ow (.obj m)=some (n',eA)/\(n'=n/\eA=u\/n<n')
 obr:∀m n u,C.ν0.ow (.obj m)=some (n,u)-> .obj m∈C.ob
 trd:∀k j bb eo b,ν.tr k j b->ν.tr bb eo b->k=bb/\j=eo
 trb:∀k j b,ν.tr k j b->(k=dv\/C.w0.heap.size<=b)/\b<w.heap.size
 trn:∀k j b,ν.tr k j b->ν.bx k=none/\ν.ow k=none
 sh:∀b o,C.ν0.A b o->shape w b=shape C.w0 b
 nrow:∀j n u b,ν.ow (.loc j)=some (n,u)->u.ownBlock=some b->C.w0.heap.size<=b
theorem ni.gl{C:ek}{w:World}{ν:aP}(h:ni C w ν):nO w ν:=fun x af=>⟨(h.keep _ _ (C.gl x af).1).1,(C.gl x af).2.1.imp fun _ aM=>⟨(h.keep _ _ (C.gl x af).1).2.trans aM.1,aM.2⟩,(C.gl x af).2.2.imp fun _ aM=>(h.sh _ _ (C.gl x af).1).trans aM⟩
theorem Cq{ν ν':aP}{g:aC}{n:Nat}{u:Value}(h:∃n' eA,ν.ow g=some (n',eA)/\(n'=n/\eA=u\/n<n'))(ak:∀n u,ν.ow g=some (n,u)->∃n' eA,ν'.ow g=some (n',eA)/\(n'=n/\eA=u\/n<n')):
  ∃n' eA,ν'.ow g=some (n',eA)/\(n'=n/\eA=u\/n<n'):=by
 obtain⟨gy,iC,aj,aJ⟩:=h;obtain⟨fx,hX,f1,f2⟩:=ak gy iC aj;refine⟨fx,hX,f1,?_⟩;rcases aJ with⟨rfl,rfl⟩|aJ
 ·exact f2
 ·rcases f2 with⟨rfl,rfl⟩|f2
  ·exact .inr aJ
  ·exact .inr Ω
structure bX (C:ek) (st:aS) (a:Act) (w:World) (ν:aP):Prop where
 good:Good C.pr w ν st.b st.e
 fr:ni C w ν
 defers:a.defers=[]
 size:a.tmps.size=C.N
 slot:∀i,aH w ν (get i st.t) (a.tmps.getD i undef)
 new:∀k,fresh st.n st.o k->ν.bx k=none/\ν.ow k=none/\∀j b,¬ν.tr k j b
 ext:∀x∈C.ex,aH w ν x.1 x.2/\kin (fun k=>k∈C.ob) x.1
 obk:∀m∈C.ob,¬fresh st.n st.o m
def fk(d:aT Nat)(p:ae)(t:List (Nat×ae)):List (Nat×ae):=
 match d with
 |some d=>put d p t
 |none=>t
def hi(N:Nat)(d:aT Nat):Bool:=match d with|some d=>decide (d<N)|none=>true
theorem bX.put{C:ek}{st:aS}{a:Act}{w:World}{ν:aP}(h:bX C st a w ν){d:aT Nat}(aF:hi C.N d=true){p:ae}{v:Value}(aU:aH w ν p v):
  bX C {st with t:=fk d p st.t} (a.put d v) w ν:=by
 cases d with
 |none=>exact h
 |some d=>
  have bS:d<a.tmps.size:=by rw[h.size];simpa[hi]using aF
  refine⟨h.good,h.fr,h.defers,by simpa[Act.put]using h.size,fun i=>?_,h.new,h.ext,h.obk⟩;simp only[fk,get_put];by_cases e:d=i
  ·subst e;simpa[Act.put,oC,bS]using aU
  ·have:=h.slot i;simpa[e,Act.put,oC,Array.getElem?_setIfInBounds_ne e]using this
theorem bX.over{C:ek}{st st':aS}{a:Act}{w w':World}{ν ν':aP}(h:bX C st a w ν)(ak:l1 w ν w' ν')(aD:st'.t=st.t)(aR:Good C.pr w' ν' st'.b st'.e)(aL:ni C w' ν')
  (aK:∀k,fresh st'.n st'.o k->ν'.bx k=none/\ν'.ow k=none/\∀j b,¬ν'.tr k j b) (dS:∀m,fresh st'.n st'.o m->fresh st.n st.o m:=by exact fun _ h=>h):bX C st' a w' ν':=
 ⟨aR,aL,h.defers,h.size,fun i=>by rw[aD];exact uU ak (h.slot i),aK,fun x af=>⟨uU ak (h.ext x af).1,(h.ext x af).2⟩,fun m hm aL=>h.obk m hm (dS m aL)⟩
inductive cM where
 |t (i:Nat)
 |c (p:ae)
 deriving Inhabited
def bG(t:List (Nat×ae)):cM->ae
 | .t i=>get i t
 | .c p=>p
def CZ:ae->Value->Bool
 | .int k n,.int bb n'=>decide (k=bb/\n=n')
 | .bool b,.bool fY=>b==fY
 | .str s,.string l=>decide (l.data.toList=s/\s.length<=bN)
 | .slice _ .nil [],.slice none 0 0=>true
 | .nilp,.pointer none=>true
 | .tuple [],.tuple ⟨[]⟩=>true
 | .func f [],.func (.func g) ⟨[]⟩ ⟨[]⟩=>decide (f=g/\f<1000000)
 | .junk,_=>true
 |_,_=>false
theorem Lt(w:World)(ν:aP){p:ae}{v:Value}(h:CZ p v=true):aH w ν p v:=by
 unfold CZ at h;split at h
 ·simp at h;obtain⟨rfl,rfl⟩:=h;simp[aH]
 ·simp at h;subst h;simp[aH]
 ·rename_i s l;simp at h;obtain⟨I,J⟩:=h;refine⟨?_,J⟩;subst I;simp
 ·simp only[aH];refine⟨⟨none,0,rfl,Ψ,Ψ,Ψ⟩,Ψ,(fun _ h=>by cases h),(fun _ _ h=>by cases h),(fun _ h=>by cases h)⟩
 ·simp[aH]
 ·simp[aH,cc]
 ·simp at h;obtain⟨rfl,h⟩:=h;simp[aH,cc,sR,h]
 ·simp[aH]
 ·cases h
def yv:List ae->List Value->Bool
 |[],[]=>true
 |p::a6,v::vs=>CZ p v&&v.oneCell'&&yv a6 vs
 |_,_=>false
def yu:ae->Value->Bool
 | .agg cs,.agg us=>yv cs us.toList
 |p,v=>CZ p v
theorem Lu(w:World)(ν:aP):∀(a6:List ae) (vs:List Value),yv a6 vs=true->cl w ν a6 vs
 |[],[],_=>by simp[cl]
 |[],_::_,h=>by simp[yv]at h
 |_::_,[],h=>by simp[yv]at h
 |p::a6,v::vs,h=>by simp only[yv,bM]at h;simp only[cl];exact⟨v,vs,rfl,⟨Lt w ν h.1.1,h.1.2⟩,Lu w ν a6 vs h.2⟩
theorem F5(w:World)(ν:aP){p:ae}{v:Value}(h:yu p v=true):aH w ν p v:=by
 unfold yu at h;split at h
 ·simp only[aH];exact⟨_,rfl,Lu w ν _ _ h⟩
 ·exact Lt w ν h
def ed:cM->h7->Bool
 | .t i,.tmp j=>i==j
 | .c p,.const v=>yu p v
 | .c (.func f []),.func g=>decide (f=g/\f<1000000)
 |_,_=>false
theorem ee{C:ek}{st:aS}{a:Act}{w:World}{ν:aP}(h:bX C st a w ν){x:cM}{o:h7}(af:ed x o=true):aH w ν (bG st.t x) (a.eval o):=by
 unfold ed at af;split at af
 ·simp at af;subst af;simpa[bG,Act.eval]using h.slot _
 ·simpa[bG,Act.eval]using F5 w ν af
 ·simp at af;obtain⟨rfl,af⟩:=af;simp[bG,Act.eval,aH,cc,sR,af]
 ·cases af
inductive Aw where
 |int (k:IntKind)
 |bool
 |str
 |slice (e:Nat)
 |struct (dK:List (Nat×Nat))
 |map (k e:Nat)
 |other
 |iface
 deriving DecidableEq
structure cJ where
 size:Nat
 bytes:Nat
 kind:Aw
 zero:ae
def Aw.isAgg:Aw->Bool
 | .struct _=>true
 |_=>false
def Ag:List ae->List Value->Bool
 |[],[]=>true
 |p::a6,v::vs=>yu p v&&v.oneCell'&&Ag a6 vs
 |_,_=>false
def yk:ae->Value->Bool
 | .agg cs,.agg us=>Ag cs us.toList
 | .agg _,_=>false
 |p,v=>yu p v&&v.oneCell'
def k8:Aw->TypeDesc->Bool
 | .int k,.int bb=>decide (k=bb)
 | .bool,.bool=>true
 | .str,.string=>true
 | .slice e,.slice gr=>e==gr
 | .struct dK,.struct gs=>decide (gs.toList.map (fun f=>(f.offset,f.type))=dK)
 | .map k e,.map bb gr=>k==bb&&e==gr
 | .iface,.interface _=>true
 | .other,d=>match d with| .struct _| .array _ _| .int _| .bool| .string| .slice _=>false|_=>true
 |_,_=>false
def Nl(P:bK)(gs:Array Field):Bool:=gs.toList.all fun f=>match P.underlying f.type with|some (.int _)=>true|some .string=>true|_=>false
def Mr(P:bK)(t:Nat)(gs:Array Field):Bool:=gs.toList.all (fun f=>f.name != "_")&& !P.stoodInHeld t&& !P.eqGuardType P.depth t
def Gy(P:bK)(t:Nat):TypeDesc->Bool
 | .struct gs=> !Nl P gs||Mr P t gs
 |_=>true
def Kp(P:bK)(t:Nat)(f:cJ):Bool:=
 match P.info? t,P.underlying t with
 |some i,some d=>Gy P t d&&i.size==f.size&&i.bytes==f.bytes&&k8 f.kind d&&(match i.zero with|some z=>yk f.zero z&&z.cells.size==f.size|none=>false)
 |_,_=>false
def ez(P:bK)(aZ:List (Nat×cJ)):Bool:=(aZ.all fun x=>Kp P x.1 x.2)&&decide (P.funcs.size<=1000000)
theorem ez.sz{P:bK}{aZ:List (Nat×cJ)}(h:ez P aZ=true):P.funcs.size<=1000000:=by unfold ez at h;rw[bM,fK]at h;exact h.2
def dO(aZ:List (Nat×cJ))(t:Nat):aT cJ:=(aZ.find? fun x=>x.1==t).map (·.2)
theorem adD{P:bK}{aZ:List (Nat×cJ)}(h:ez P aZ=true){t:Nat}{f:cJ}(aL:dO aZ t=some f):Kp P t f=true:=by
 unfold dO at aL;cases af:aZ.find? fun x=>x.1==t with
 |none=>simp[af]at aL
 |some x=>simp[af]at aL;have I:=List.find?_some af;simp at I;have J:=List.mem_of_find?_eq_some af;have ao:=jy.1 (by unfold ez at h;rw[bM]at h;exact h.1) x J;rw[<-aL,<-I];exact ao
structure Tu (P:bK) (t:Nat) (f:cJ):Prop where
 cmp:∀d,P.underlying t=some d->Gy P t d=true
 ex:∃i d z,P.info? t=some i/\P.underlying t=some d/\i.size=f.size/\i.bytes=f.bytes/\k8 f.kind d=true/\i.zero=some z/\yk f.zero z=true/\z.cells.size=f.size
theorem tC{P:bK}{aZ:List (Nat×cJ)}(h:ez P aZ=true){t:Nat}{f:cJ}(aL:dO aZ t=some f):Tu P t f:=by
 have h:=adD h aL;unfold Kp at h;split at h
 ·rename_i i d I J;simp only[bM,ej]at h;obtain⟨⟨⟨⟨bL,ao⟩,aO⟩,bp⟩,cj⟩:=h;split at cj
  ·rename_i z de;simp only[bM,ej]at cj;exact⟨fun jQ oQ=>by rw[J]at oQ;cases oQ;exact bL,i,d,z,I,J,ao,aO,bp,de,cj.1,cj.2⟩
  ·cases cj
 ·cases h
theorem nU(b o j:Nat):(⟨b,o,none⟩:Addr).add j=⟨b,o+j,none⟩:=by
 unfold Addr.add;split
 ·rename_i h;subst h;rfl
 ·rfl
theorem KP(w:World)(ν:aP):∀(a6:List ae) (vs:List Value),Ag a6 vs=true->cl w ν a6 vs
 |[],[],_=>by simp[cl]
 |[],_::_,h=>by simp[Ag]at h
 |_::_,[],h=>by simp[Ag]at h
 |p::a6,v::vs,h=>by simp only[Ag,bM]at h;simp only[cl];exact⟨v,vs,rfl,⟨F5 w ν h.1.1,h.1.2⟩,KP w ν a6 vs h.2⟩
def cells:ae->List ae
 | .agg cs=>cs
 |p=>[p]
def eD:ae->Bool
 | .junk| .tuple _=>false
 | .cst (.slice _ _ _)| .cst (.string _)=>true
 | .cst _=>false
 |_=>true
theorem JR{w:World}{ν:aP}{p:ae}{v:Value}(h:aH w ν p v)(aq:eD p=true)(bF:∀cs,p≠ .agg cs):v.oneCell'=true/\v.cells= #[v]:=by
 cases p<;>simp only[aH,eD]at h aq;case junk=>cases aq
 case tuple=>cases aq
 case cst c=>subst h;cases v<;>first|exact⟨rfl,rfl⟩|cases aq
 case agg cs=>exact absurd rfl (bF cs)
 case int=>subst h;exact⟨rfl,rfl⟩
 case bool=>subst h;exact⟨rfl,rfl⟩
 case str=>rw[h.1];exact⟨rfl,rfl⟩
 case slice=>obtain⟨⟨a,cap,I,_⟩,_⟩:=h;subst I;exact⟨rfl,rfl⟩
 case ptr=>obtain⟨b,_,I⟩:=h;subst I;exact⟨rfl,rfl⟩
 case eptr=>obtain⟨b,o,u,I,_⟩:=h;subst I;exact⟨rfl,rfl⟩
 case iface=>obtain⟨u,I,_⟩:=h;subst I;exact⟨rfl,rfl⟩
 case nilp=>subst h;exact⟨rfl,rfl⟩
 case func=>obtain⟨us,I,_⟩:=h;subst I;unfold sR;split<;>exact⟨rfl,rfl⟩
 case gmap=>obtain⟨b,_,I⟩:=h;subst I;exact⟨rfl,rfl⟩
 case row=>obtain⟨⟨a,cap,I⟩,_⟩:=h;subst I;exact⟨rfl,rfl⟩
 case rptr=>obtain⟨⟨a,o,I⟩,_⟩:=h;subst I;exact⟨rfl,rfl⟩
theorem uT{w:World}{ν:aP}{p:ae}{v:Value}(h:aH w ν p v)(aq:eD p=true):cl w ν (cells p) v.cells.toList:=by
 by_cases bF:∃cs,p= .agg cs
 ·obtain⟨cs,rfl⟩:=bF;simp only[aH]at h;obtain⟨us,rfl,J⟩:=h;simpa[cells,oF]using J
 ·have y1:∀cs,p≠ .agg cs:=fun cs e=>bF ⟨cs,e⟩;obtain⟨I,J⟩:=JR h aq y1;have aE:cells p=[p]:=by cases p<;>first|rfl|exact absurd rfl (y1 _)
  rw[aE,J];simp only[cl];exact⟨v,[],rfl,⟨h,I⟩,rfl⟩
theorem zQ{w:World}{ν:aP}:∀{a6:List ae} {vs:List Value},cl w ν a6 vs->∀c∈vs,c.oneCell'=true
 |[],vs,h=>by simp only[cl]at h;subst h;simp
 |p::a6,vs,h=>by
  simp only[cl]at h;obtain⟨u,br,rfl,I,J⟩:=h;intro c aE;rcases gp.1 aE with rfl|aE
  ·exact I.2
  ·exact zQ J c aE
theorem o7{w:World}{ν:aP}:∀{a6:List ae} {vs:List Value},cl w ν a6 vs->vs.length=a6.length
 |[],vs,h=>by simp only[cl]at h;subst h;rfl
 |p::a6,vs,h=>by simp only[cl]at h;obtain⟨u,br,rfl,_,J⟩:=h;simp[o7 J]
theorem zP{w:World}{ν:aP}:∀(n:Nat) {a6:List ae} {vs:List Value},cl w ν a6 vs->cl w ν (a6.drop n) (vs.drop n)
 |0,_,_,h=>by simpa using h
 |n+1,[],vs,h=>by simp only[cl]at h;subst h;simp[cl]
 |n+1,p::a6,vs,h=>by simp only[cl]at h;obtain⟨u,br,rfl,_,J⟩:=h;simpa using zP n J
theorem Cm{w:World}{ν:aP}:∀(n:Nat) {a6:List ae} {vs:List Value},cl w ν a6 vs->cl w ν (a6.take n) (vs.take n)
 |0,_,_,_=>by simp[cl]
 |n+1,[],vs,h=>by simp only[cl]at h;subst h;simp[cl]
 |n+1,p::a6,vs,h=>by simp only[cl]at h;obtain⟨u,br,rfl,I,J⟩:=h;simp only[sB,cl];exact⟨u,_,rfl,I,Cm n J⟩
theorem xY{w:World}{ν:aP}:∀{a6 bE:List ae} {vs us:List Value},cl w ν a6 vs->cl w ν bE us->cl w ν (a6++bE) (vs++us)
 |[],bE,vs,us,h,cu=>by simp only[cl]at h;subst h;simpa using cu
 |p::a6,bE,vs,us,h,cu=>by simp only[cl]at h;obtain⟨u,br,rfl,I,J⟩:=h;simp only[dm,cl];exact⟨u,_,rfl,I,xY J cu⟩
theorem Cl{w:World}{ν:aP}:∀(n:Nat) {a6:List ae} {vs:List Value} {p:ae},cl w ν a6 vs->a6[n]? =some p->∃v,vs[n]? =some v/\aH w ν p v/\v.oneCell'=true
 |n,[],_,p,_,aU=>by simp at aU
 |0,q::a6,vs,p,h,aU=>by simp only[cl]at h;obtain⟨u,br,rfl,I,_⟩:=h;simp at aU;subst aU;exact⟨u,rfl,I.1,I.2⟩
 |n+1,q::a6,vs,p,h,aU=>by simp only[cl]at h;obtain⟨u,br,rfl,_,J⟩:=h;simpa using Cl n J (by simpa using aU)
theorem zR{w:World}{ν:aP}:∀(n:Nat) {a6:List ae} {vs:List Value} {p:ae},cc w ν a6 vs->a6[n]? =some p->∃v,vs[n]? =some v/\aH w ν p v
 |n,[],_,p,_,aU=>by simp at aU
 |0,q::a6,vs,p,h,aU=>by simp only[cc]at h;obtain⟨u,br,rfl,I,_⟩:=h;simp at aU;subst aU;exact⟨u,rfl,I⟩
 |n+1,q::a6,vs,p,h,aU=>by simp only[cc]at h;obtain⟨u,br,rfl,_,J⟩:=h;simpa using zR n J (by simpa using aU)
theorem tb{w:World}{A:Nat->Nat->Prop}{b:Nat}:∀{us:List Value} {off j:Nat} {u:Value},jI w A b off us->us[j]? =some u->A b (off+j)/\w.cell? ⟨b,off+j,none⟩=some u
 |[],_,_,_,_,h=>by simp at h
 |x::us,off,0,u,aG,h=>by simp at h;subst h;exact aG.1
 |x::us,off,j+1,u,aG,h=>by have:=tb (j:=j) aG.2 (by simpa using h);rwa[show off+1+j=off+(j+1)from by omega]at this
theorem Eu{w:World}{A:Nat->Nat->Prop}{b:Nat}:∀(n:Nat) {us:List Value} {off:Nat},jI w A b off us->jI w A b (off+n) (us.drop n)
 |0,_,_,h=>by simpa using h
 |n+1,[],_,_=>by simp[jI]
 |n+1,x::us,off,h=>by have:=Eu n h.2;rw[show off+(n+1)=off+1+n from by omega];simpa using this
theorem Ev{w:World}{A:Nat->Nat->Prop}{b:Nat}:∀(n:Nat) {us:List Value} {off:Nat},jI w A b off us->jI w A b off (us.take n)
 |0,_,_,_=>by simp[jI]
 |n+1,[],_,_=>by simp[jI]
 |n+1,x::us,off,h=>by simp only[sB];exact⟨h.1,Ev n h.2⟩
theorem RY{P:bK}{w:World}{A:Nat->Nat->Prop}{b off:Nat}{us:List Value}(h:jI w A b off us):(loadCells ⟨b,off,none⟩ us.length).run P w= .ok us.toArray w:=run_loadCells_list w _ us fun j v aw=>by rw[nU];exact(tb h aw).2
theorem ac0{P:bK}{w:World}{b off n:Nat}{us:Array Value}{el:fI}{fr:Nat×Nat}(h:w.heap[b]? =some (.cells us el fr))(aK:off+n<=us.size):
  (loadCells ⟨b,off,none⟩ n).run P w= .ok ((us.toList.drop off).take n).toArray w:=by
 have aG:((us.toList.drop off).take n).length=n:=by simp;omega
 have:=run_loadCells_list (P:=P) w ⟨b,off,none⟩ ((us.toList.drop off).take n) fun j v aw=>by
  rw[nU];have YI:j<n:=by have:=(e3.1 aw).1;omega
  simp only[World.cell?,h,sD,kk,if_false];rw[List.getElem?_take]at aw;simpa[YI]using aw
 rw[aG]at this;exact this
theorem MN{α:Type}(l r:List α)(n sz:Nat)(h:l.length=sz):(l++r).drop ((n+1)*sz)=r.drop (n*sz):=by
 have e:(n+1)*sz=l.length+n*sz:=by rw[h,Nat.succ_mul,Nat.add_comm]
 rw[e,<-List.drop_drop];simp
theorem Sk{α:Type}(l r:List α)(n sz:Nat)(h:l.length=sz):(l++r).take ((n+1)*sz)=l++r.take (n*sz):=by
 have e:(n+1)*sz=l.length+n*sz:=by rw[h,Nat.succ_mul,Nat.add_comm]
 rw[e,List.take_length_add_append]
theorem Fg{w:World}{ν:aP}{sz:Nat}:∀(i:Nat) {xs:List ae} {us:List Value} {p:ae},cC w ν sz xs us->xs[i]? =some p->
  ∃u,aH w ν p u/\u.cells.size=sz/\u.cells.toList=(us.drop (i*sz)).take sz
 |i,[],_,p,_,aU=>by simp at aU
 |0,x::xs,us,p,h,aU=>by
  simp only[cC]at h;obtain⟨u,br,rfl,⟨I,J,ao⟩,_⟩:=h;simp at aU;subst aU;refine⟨u,I,J,?_⟩;have:u.cells.toList.length=sz:=by simpa using J
  simp[<-this]
 |i+1,x::xs,us,p,h,aU=>by
  simp only[cC]at h;obtain⟨u,br,rfl,⟨_,J,_⟩,bp⟩:=h;obtain⟨v,g1,g2,g3⟩:=Fg i bp (by simpa using aU);refine⟨v,g1,g2,?_⟩;have:u.cells.toList.length=sz:=by simpa using J
  rw[g3,MN _ _ _ _ this]
theorem p0{w:World}{ν:aP}{sz:Nat}:∀{xs:List ae} {us:List Value},cC w ν sz xs us->us.length=xs.length*sz
 |[],us,h=>by simp only[cC]at h;subst h;simp
 |x::xs,us,h=>by
  simp only[cC]at h;obtain⟨u,br,rfl,⟨_,J,_⟩,bp⟩:=h;have:u.cells.toList.length=sz:=by simpa using J
  rw[j2,this,p0 bp,lx,Nat.succ_mul];omega
theorem xX{w:World}{ν:aP}{sz:Nat}:∀{xs:List ae} {us:List Value},cC w ν sz xs us->∀c∈us,c.oneCell'=true
 |[],us,h=>by simp only[cC]at h;subst h;simp
 |x::xs,us,h=>by
  simp only[cC]at h;obtain⟨u,br,rfl,⟨_,_,ao⟩,bp⟩:=h;intro c aE;rcases hv.1 aE with aE|aE
  ·exact ao c aE
  ·exact xX bp c aE
theorem zN{w:World}{ν:aP}{sz:Nat}:∀{a6 bE:List ae} {vs us:List Value},cC w ν sz a6 vs->cC w ν sz bE us->cC w ν sz (a6++bE) (vs++us)
 |[],bE,vs,us,h,cu=>by simp only[cC]at h;subst h;simpa using cu
 |p::a6,bE,vs,us,h,cu=>by simp only[cC]at h;obtain⟨u,br,rfl,I,J⟩:=h;simp only[dm,cC];exact⟨u,br++us,Ψ,I,zN J cu⟩
theorem RA{w:World}{ν:aP}{sz:Nat}:∀(n:Nat) {xs:List ae} {us:List Value},cC w ν sz xs us->cC w ν sz (xs.drop n) (us.drop (n*sz))
 |0,_,_,h=>by simpa using h
 |n+1,[],us,h=>by simp only[cC]at h;subst h;simp[cC]
 |n+1,x::xs,us,h=>by
  simp only[cC]at h;obtain⟨u,br,rfl,⟨_,J,_⟩,bp⟩:=h;have:u.cells.toList.length=sz:=by simpa using J
  rw[MN _ _ _ _ this];simpa using RA n bp
theorem RE{w:World}{ν:aP}{sz:Nat}:∀(n:Nat) {xs:List ae} {us:List Value},cC w ν sz xs us->cC w ν sz (xs.take n) (us.take (n*sz))
 |0,_,_,_=>by simp[cC]
 |n+1,[],us,h=>by simp only[cC]at h;subst h;simp[cC]
 |n+1,x::xs,us,h=>by
  simp only[cC]at h;obtain⟨u,br,rfl,⟨I,J,ao⟩,bp⟩:=h;have:u.cells.toList.length=sz:=by simpa using J
  simp only[sB,cC];refine⟨u,br.take (n*sz),?_,⟨I,J,ao⟩,RE n bp⟩;rw[Sk _ _ _ _ this]
def isAgg(sz:Nat)(p:ae):Prop:= ∃cs,p= .agg cs/\cs.length=sz
def x0(agg:Bool)(sz dn n i f:Nat):aT cV->aT (Prop×ae)
 |some ⟨n',_,hO,some xs⟩=>if n'=n/\hO=dn then
   (match xs[i]? with
    |some p=>if agg then some (eD p=true/\f+sz<=(cells p).length,.agg (((cells p).drop f).take sz))else((cells p)[f]?).map fun q=>(eD p=true,q)
    |none=>none)else none
 |_=>none
def mn(b:List (aC×List ae))(e:List (aC×cV))(agg:Bool)(sz:Nat):ae->aT (Prop×ae)
 | .rptr dn k n i f=>x0 agg sz dn n i f (look k e)
 | .ptr k off=>
  match look k b with
  |some cs=>if agg then some (gn cs=true/\off+sz<=cs.length,.agg ((cs.drop off).take sz))else(cs[off]?).map fun p=>(gn cs=true,p)
  |none=>none
 | .eptr p=>if agg then some (isAgg sz p,p)else some (eD p=true/\cells p=[p],p)
 |_=>none
def AX(agg:Bool)(sz:Nat):ae->aT (Prop×ae)
 | .eptr p=>if agg then some (isAgg sz p,p)else some (eD p=true/\cells p=[p],p)
 |_=>none
theorem W1{b:List (aC×List ae)}{e:List (aC×cV)}{agg:Bool}{sz:Nat}{p:ae}{r:Prop×ae}(h:AX agg sz p=some r):mn b e agg sz p=some r:=by
 cases p<;>simp only[AX]at h<;>first|cases h;done|skip
 simpa only[mn]using h
theorem aao{b:List (aC×List ae)}{e:List (aC×cV)}{agg:Bool}{sz:Nat}{p:ae}{r:Prop×ae}(h:mn b [] agg sz p=some r):mn b e agg sz p=some r:=by cases p<;>simp only[mn]at h⊢ <;>first|exact h|(simp[look,x0]at h)
def n7(off:Nat)(agg:Bool)(sz:Nat):ae->aT (Prop×ae)
 | .ptr k o=>some (True,.ptr k (o+off))
 | .rptr dn k n i f=>some (True,.rptr dn k n i (f+off))
 | .eptr (.agg cs)=>if agg then some (off+sz<=cs.length,.eptr (.agg ((cs.drop off).take sz)))else(cs[off]?).map fun p=>(eD p=true/\cells p=[p],.eptr p)
 |_=>none
def rn(off:Nat)(agg:Bool)(sz:Nat):ae->aT (Prop×ae)
 | .agg cs=>if agg then some (off+sz<=cs.length,.agg ((cs.drop off).take sz))else(cs[off]?).map fun p=>(True,p)
 |_=>none
def zc(sz:Nat):ae->ae->aT (Prop×ae)
 | .slice dn _ xs,.int _ i=>if dn=sz then some (0<=i/\i<xs.length,.eptr (xs.getD i.toNat .junk))else none
 | .row dn k n,.int _ i=>if dn=sz then some (0<=i/\i<n,.rptr dn k n i.toNat 0)else none
 |_,_=>none
def FA:ae->ae->aT (Prop×ae)
 | .str s,.int _ i=>some (0<=i/\i<s.length,.int .u8 (s.getD i.toNat 0).toNat)
 |_,_=>none
def qJ(Dd:Int):aT ae->aT Int
 |none=>some Dd
 |some (.int _ i)=>some i
 |_=>none
def FC(x:ae)(lo az:aT ae):aT (Prop×ae):=
 match x with
 | .str s=>match qJ 0 lo,qJ s.length az with
  |some l,some h=>some (0<=l/\l<=h/\h<=s.length,.str ((s.take h.toNat).drop l.toNat))
  |_,_=>none
 |_=>none
def EB(sz:Nat)(x:ae)(lo az:aT ae):aT (Prop×ae):=
 match x with
 | .slice dn _ xs=>if dn=sz then match qJ 0 lo,qJ xs.length az with
  |some l,some h=>some (0<=l/\l<=h/\h<=xs.length,.slice sz .no ((xs.take h.toNat).drop l.toNat))
  |_,_=>none else none
 |_=>none
def aY(n:Int):Prop:= -9223372036854775808<=n/\n<=9223372036854775807
def zf(op:BinOp)(wr:Bool)(k:IntKind)(a b:Int):aT (Prop×ae):=
 match op with
 | .add=>if wr then some (True,.int k (k.wrap (a+b)))else some (k= .i64/\aY (a+b),.int .i64 (a+b))
 | .sub=>if wr then some (True,.int k (k.wrap (a-b)))else some (k= .i64/\aY (a-b),.int .i64 (a-b))
 | .mul=>if wr then some (True,.int k (k.wrap (a*b)))else some (k= .i64/\aY (a*b),.int .i64 (a*b))
 | .quo=>some (b≠0,.int k (k.wrap (a.tdiv b)))
 | .rem=>some (b≠0,.int k (a.tmod b))
 | .eql=>some (True,.bool (a==b))
 | .neq=>some (True,.bool (a !=b))
 | .lss=>some (True,.bool (decide (a<b)))
 | .leq=>some (True,.bool (decide (a<=b)))
 | .gtr=>some (True,.bool (decide (b<a)))
 | .geq=>some (True,.bool (decide (b<=a)))
 | .and=>some (True,.int k (k.wrap (BitVec.ofInt k.bits a&&& BitVec.ofInt k.bits b).toNat))
 | .or=>some (True,.int k (k.wrap (BitVec.ofInt k.bits a|||BitVec.ofInt k.bits b).toNat))
 | .xor=>some (True,.int k (k.wrap (BitVec.ofInt k.bits a ^^^ BitVec.ofInt k.bits b).toNat))
 |_=>none
def FD(op:BinOp)(a b:List al):aT (Prop×ae):=
 match op with
 | .add=>some (a.length+b.length<=bN,.str (a++b))
 | .eql=>some (True,.bool (a==b))
 | .neq=>some (True,.bool (!(a==b)))
 | .lss=>some (True,.bool (Op.bytesLess a b))
 | .leq=>some (True,.bool (Op.bytesLess a b||a==b))
 | .gtr=>some (True,.bool (!(Op.bytesLess a b||a==b)))
 | .geq=>some (True,.bool (!Op.bytesLess a b))
 |_=>none
def k5(op:BinOp)(wr:Bool):ae->ae->aT (Prop×ae)
 | .int k a,.int bb b=>match op with
  | .shl=>some (0<=b,.int k (k.wrap (a*2 ^ (min b.toNat k.bits))))
  | .shr=>some (0<=b,.int k (a.fdiv (2 ^ (min b.toNat k.bits))))
  |_=>if k=bb then zf op wr k a b else none
 | .str a,.str b=>FD op a b
 |_,_=>none
def oB(cs:List ae)(off:Nat)(a6:List ae):List ae:=cs.take off++a6++cs.drop (off+a6.length)
def tQ(t:List (Nat×ae)):List ae->List (Nat×Nat×cM)->aT (Prop×List ae)
 |cs,[]=>some (True,cs)
 |cs,(off,sz,x)::r=>
  let p:=bG t x
  match tQ t (oB cs off (cells p)) r with
  |some (c,cs')=>some ((eD p=true/\(cells p).length=sz/\off+sz<=cs.length)/\c,cs')
  |none=>none
def E0(c x y:ae):aT (Prop×ae):=
 match c with
 | .bool b=>match x,y with
  | .bool u,.bool v=>some (True,.bool (cond b u v))
  |p,q=>match b with
   |true=>some (True,p)
   |false=>some (True,q)
 |_=>none
def EO:ae->aT (Prop×ae)
 | .bool b=>some (True,.bool (!b))
 |_=>none
def EJ:ae->aT (Prop×ae)
 | .int k n=>some (True,.int k (k.wrap (0-n)))
 |_=>none
def Ds(i:Nat):ae->aT (Prop×ae)
 | .tuple vs=>(vs[i]?).map fun p=>(True,p)
 |_=>none
def zo:ae->aT (Prop×ae)
 | .slice _ _ xs=>some (True,.int .i64 xs.length)
 | .row _ _ n=>some (True,.int .i64 n)
 | .cst (.slice _ n _)=>some (True,.int .i64 n)
 |_=>none
def Cw:ae->aT (Prop×ae)
 | .str s=>some (True,.int .i64 s.length)
 | .cst (.string s)=>some (True,.int .i64 s.size)
 |_=>none
def Da(k:IntKind):ae->aT (Prop×ae)
 | .int _ n=>some (True,.int k (k.wrap n))
 |_=>none
def qo:List ae->aT (List al)
 |[]=>some []
 | .int .u8 n::r=>(qo r).map (nL n.toNat:: ·)
 |_=>none
def CU:ae->aT (Prop×ae)
 | .slice _ _ xs=>(qo xs).map fun s=>(True,.str s)
 |_=>none
def Ek(neg:Bool):ae->aT (Prop×ae)
 | .iface _ _=>some (True,.bool neg)
 | .cst .nilIface=>some (True,.bool (!neg))
 |_=>none
def zu:ae->aT (Prop×ae)
 | .ptr k o=>some (True,.ptr k o)
 | .eptr p=>some (True,.eptr p)
 | .func f cs=>some (True,.func f cs)
 |_=>none
def EE:ae->ae->aT (Prop×ae)
 | .int k a,.int bb b=>if k=bb then some (True,.int k (if b<a then b else a))else none
 |_,_=>none
def kp:List Bool->List ae->List ae->aT Bool
 |[],[],[]=>some true
 |false::r,.int k a::as,.int bb b::eF=>if k=bb then(kp r as eF).map fun q=>(a==b)&&q else none
 |true::r,.str a::as,.str b::eF=>(kp r as eF).map fun q=>(a==b)&&q
 |_,_,_=>none
inductive jO where
 |i
 |s
 |a (dK:List Bool)
 deriving DecidableEq
def uE:jO->ae->ae->aT Bool
 | .i,.int k a,.int bb b=>if k=bb then some (a==b)else none
 | .s,.str a,.str b=>some (a==b)
 | .a dK,.agg as,.agg eF=>kp dK as eF
 |_,_,_=>none
def xK:jO->ae->Bool
 | .a dK,.agg as=>(kp dK as as).isSome
 | .a _,_=>false
 |_,_=>true
@[simp]theorem PO(k:ae):xK .i k=true:=by cases k<;>rfl
@[simp]theorem PQ(k:ae):xK .s k=true:=by cases k<;>rfl
def tf(bT:jO)(k:ae):List ae->aT (aT ae)
 |bb::v::r=>match uE bT k bb with
  |some true=>some (some v)
  |some false=>tf bT k r
  |none=>none
 |_=>some none
def o2(b:aC->aT (List ae))(bT:jO)(zero:ae)(ok:Bool)(x k:ae):aT (Prop×ae):=
 match x with
 | .gmap key=>match b key with
  |some (.hdm _ _::kvs)=>if xK bT k=false then none else match tf bT k kvs with
   |some (some v)=>some (True,if ok then .tuple [v,.bool true]else v)
   |some none=>some (True,if ok then .tuple [zero,.bool false]else zero)
   |none=>none
  |_=>none
 |_=>none
def uJ(b:aC->aT (List ae))(x:ae):aT (Prop×ae):=
 match x with
 | .gmap key=>match b key with
  |some (.hdm _ borns::_)=>some (True,.int .i64 borns.length)
  |_=>none
 |_=>none
def CX(neg:Bool):aT (List Bool)->ae->ae->aT (Prop×ae)
 |none,.bool a,.bool b=>some (True,.bool (if neg then a !=b else a==b))
 |some dK,.agg as,.agg eF=>(kp dK as eF).map fun q=>(True,.bool (if neg then !q else q))
 |_,_,_=>none
def ED:ae->ae->aT (Prop×ae)
 | .int k a,.int bb b=>if k=bb then some (True,.int k (if a<b then b else a))else none
 |_,_=>none
def uK(bT:jO)(k v:ae):List ae->aT (aT (List ae))
 |bb::v'::r=>match uE bT k bb with
  |some true=>some (some (k::v::r))
  |some false=>match uK bT k v r with
   |some (some cE)=>some (some (bb::v'::cE))
   |some none=>some none
   |none=>none
  |none=>none
 |_=>some none
def oo(n:Nat):List Nat->List ae->aT ae
 |b::eF,k::v::r=>if b=n then some (.tuple [k,v])else oo n eF r
 |_,_=>none
def te(b:aC->aT (List ae))(x:ae):aT (Prop×ae):=
 match x with
 | .ptr hc 0=>match b hc with
  |some [.hdi _ seen last,.gmap mk]=>match b mk with
   |some (.hdm clock borns::kvs)=>match seen.getLast? with
    |some n=>(oo n borns kvs).map fun p=>(clock=last,p)
    |none=>none
   |_=>none
  |_=>none
 |_=>none
theorem Qg{f g:aC->aT (List ae)}(h:∀k,f k≠none->g k=f k){bT:jO}{zero:ae}{ok:Bool}{x k:ae}{r:Prop×ae}(he:o2 f bT zero ok x k=some r):o2 g bT zero ok x k=some r:=by
 unfold o2 at he⊢;split at he
 ·rename_i key;cases aL:f key with
  |none=>simp[aL]at he
  |some cs=>rw[h key (by rw[aL];simp),aL];rw[aL]at he;exact he
 ·cases he
theorem aaE{f g:aC->aT (List ae)}(h:∀k,f k≠none->g k=f k){x:ae}{r:Prop×ae}(he:uJ f x=some r):uJ g x=some r:=by
 unfold uJ at he⊢;split at he
 ·rename_i key;cases aL:f key with
  |none=>simp[aL]at he
  |some cs=>rw[h key (by rw[aL];simp),aL];rw[aL]at he;exact he
 ·cases he
theorem aay{f g:aC->aT (List ae)}(h:∀k,f k≠none->g k=f k){x:ae}{r:Prop×ae}(he:te f x=some r):te g x=some r:=by
 unfold te at he⊢;split at he
 ·rename_i hc;cases aL:f hc with
  |none=>simp[aL]at he
  |some cs=>
   simp only[h hc (by rw[aL];simp),aL]at he⊢;split at he
   ·rename_i since seen last mk cO;cases iL:f mk with
    |none=>simp[iL]at he
    |some c1=>simp only[h mk (by rw[iL];simp),iL]at he⊢;exact he
   ·cases he
 ·cases he
inductive fO where
 |mov (x:cM)
 |pick (c x y:cM)
 |load (agg:Bool) (sz:Nat) (x:cM)
 |faddr (off:Nat) (agg:Bool) (sz:Nat) (x:cM)
 |fld (off:Nat) (agg:Bool) (sz:Nat) (x:cM)
 |iaddr (sz:Nat) (x i:cM)
 |sidx (x i:cM)
 |ssl (x:cM) (lo az:aT cM)
 |lsl (sz:Nat) (x:cM) (lo az:aT cM)
 |bin (op:BinOp) (wr:Bool) (x y:cM)
 |notB (x:cM)
 |neg (x:cM)
 |conv (k:IntKind) (x:cM)
 |ext (i:Nat) (x:cM)
 |len (x:cM)
 |slen (x:cM)
 |build (zero:List ae) (parts:List (Nat×Nat×cM))
 |nck (x:cM)
 |min2 (x y:cM)
 |mkf (n:Nat) (xs:List cM)
 |mget (bT:jO) (zero:ae) (ok:Bool) (x k:cM)
 |ment (x:cM)
 |mlen (x:cM)
 |beq (neg:Bool) (dK:aT (List Bool)) (x y:cM)
 |max2 (x y:cM)
 |mkif (t:Nat) (x:cM)
 |loadB (agg:Bool) (sz:Nat) (x:cM)
 |mgetB (bT:jO) (zero:ae) (ok:Bool) (x k:cM)
 |loadZ (agg:Bool) (sz:Nat) (x:cM)
 |b2s (x:cM)
 |isn (neg:Bool) (x:cM)
def gz(st:aS):fO->aT (Prop×ae)
 | .mov x=>some (True,bG st.t x)
 | .pick c x y=>E0 (bG st.t c) (bG st.t x) (bG st.t y)
 | .load agg sz x=>mn st.b st.e agg sz (bG st.t x)
 | .faddr off agg sz x=>n7 off agg sz (bG st.t x)
 | .fld off agg sz x=>rn off agg sz (bG st.t x)
 | .iaddr sz x i=>zc sz (bG st.t x) (bG st.t i)
 | .sidx x i=>FA (bG st.t x) (bG st.t i)
 | .ssl x lo az=>FC (bG st.t x) (lo.map (bG st.t)) (az.map (bG st.t))
 | .lsl sz x lo az=>EB sz (bG st.t x) (lo.map (bG st.t)) (az.map (bG st.t))
 | .bin op wr x y=>k5 op wr (bG st.t x) (bG st.t y)
 | .notB x=>EO (bG st.t x)
 | .neg x=>EJ (bG st.t x)
 | .conv k x=>Da k (bG st.t x)
 | .ext i x=>Ds i (bG st.t x)
 | .len x=>zo (bG st.t x)
 | .slen x=>Cw (bG st.t x)
 | .build zero parts=>(tQ st.t zero parts).map fun(c,cs)=>(c,.agg cs)
 | .nck x=>zu (bG st.t x)
 | .min2 x y=>EE (bG st.t x) (bG st.t y)
 | .mkf n xs=>some (True,.func n (xs.map (bG st.t)))
 | .mget bT zero ok x k=>o2 (fun k=>look k st.b) bT zero ok (bG st.t x) (bG st.t k)
 | .ment x=>te (fun k=>look k st.b) (bG st.t x)
 | .mlen x=>uJ (fun k=>look k st.b) (bG st.t x)
 | .beq neg dK x y=>CX neg dK (bG st.t x) (bG st.t y)
 | .max2 x y=>ED (bG st.t x) (bG st.t y)
 | .mkif t x=>some (True,.iface t (bG st.t x))
 | .loadB agg sz x=>mn st.b [] agg sz (bG st.t x)
 | .mgetB bT zero ok x k=>o2 (fun k=>look k st.b) bT zero ok (bG st.t x) (bG st.t k)
 | .loadZ agg sz x=>AX agg sz (bG st.t x)
 | .b2s x=>CU (bG st.t x)
 | .isn neg x=>Ek neg (bG st.t x)
def zD(aZ:List (Nat×cJ))(dK:List (Nat×Nat)):List (Nat×Nat×cM)->List (Nat×h7)->Bool
 |[],[]=>true
 |(off,sz,x)::r,(i,o)::s=>(match dK[i]? with|some (wg,t)=>off==wg&&((dO aZ t).map (·.size))==some sz|none=>false)&&ed x o&&zD aZ dK r s
 |_,_=>false
def CP:ae->ae->Bool
 | .int k n,.int bb n'=>decide (k=bb/\n=n')
 | .bool b,.bool fY=>b==fY
 | .str [],.str []=>true
 | .slice a .nil [],.slice b .nil []=>a==b
 | .nilp,.nilp=>true
 | .junk,.junk=>true
 |_,_=>false
def Af:List ae->List ae->Bool
 |[],[]=>true
 |c::cs,d::c1=>CP c d&&Af cs c1
 |_,_=>false
def Ah:ae->ae->Bool
 | .agg cs,.agg c1=>Af cs c1
 | .agg _,_=>false
 |p,q=>CP p q
def uN:List cM->List h7->Bool
 |[],[]=>true
 |x::xs,o::os=>ed x o&&uN xs os
 |_,_=>false
def yT(aZ:List (Nat×cJ)):Nat->List Bool->List (Nat×Nat)->Bool
 |_,[],[]=>true
 |n,b::r,(off,t)::dK=>off==n&&(match dO aZ t with|some ⟨_,_,.int _,_⟩=> !b|some ⟨_,_,.str,_⟩=>b|_=>false)&&yT aZ (n+1) r dK
 |_,_,_=>false
def Dy(aZ:List (Nat×cJ))(dK:List Bool)(t:Nat):Bool:=match dO aZ t with
 |some ⟨_,_,.struct gs,_⟩=>yT aZ 0 dK gs
 |_=>false
def xL(aZ:List (Nat×cJ))(bT:jO)(t:Nat):Bool:=match bT with
 | .i=>(match dO aZ t with|some ⟨_,_,.int _,_⟩=>true|_=>false)
 | .s=>(match dO aZ t with|some ⟨_,_,.str,_⟩=>true|_=>false)
 | .a dK=>Dy aZ dK t
def KN:ae->ae->Bool
 | .slice a .no [],.slice b .nil []=>a==b
 |c,d=>CP c d
def yj:List ae->List ae->Bool
 |[],[]=>true
 |c::cs,d::c1=>KN c d&&yj cs c1
 |_,_=>false
def KS:List ae->ae->Bool
 |cs,.agg c1=>yj cs c1
 |_,_=>false
def wk:aT cM->aT h7->Bool
 |none,none=>true
 |some x,some o=>ed x o
 |_,_=>false
def CJ(aZ:List (Nat×cJ)):fO->Op->Bool
 | .mov x,.move o=>ed x o
 | .mov x,.assign o=>ed x o
 | .pick c x y,.pick hh wP y'=>ed c hh&&ed x wP&&ed y y'
 | .load agg sz x,.load t o=>(match dO aZ t with|some f=>f.size==sz&&f.kind.isAgg==agg|none=>false)&&ed x o
 | .faddr off agg sz x,.fieldAddr s o i=>
  (match dO aZ s with
   |some ⟨_,_,.struct dK,_⟩=>(match dK[i]? with|some (wg,t)=>off==wg&&(match dO aZ t with|some f=>f.size==sz&&f.kind.isAgg==agg&&sz !=0|none=>false)|none=>false)
   |_=>false)&&ed x o
 | .fld off agg sz x,.field s o i=>
  (match dO aZ s with
   |some ⟨_,_,.struct dK,_⟩=>(match dK[i]? with|some (wg,t)=>off==wg&&(match dO aZ t with|some f=>f.size==sz&&f.kind.isAgg==agg|none=>false)|none=>false)
   |_=>false)&&ed x o
 | .iaddr sz x i,.indexAddr t o j=>(match dO aZ t with|some ⟨_,_,.slice e,_⟩=>(match dO aZ e with|some f=>f.size==sz|none=>false)|_=>false)&&ed x o&&ed i j
 | .sidx x i,.index t o j=>(match dO aZ t with|some ⟨_,_,.str,_⟩=>true|_=>false)&&ed x o&&ed i j
 | .ssl x lo az,.slice t o l h none=>(match dO aZ t with|some ⟨_,_,.str,_⟩=>true|_=>false)&&ed x o&&wk lo l&&wk az h
 | .lsl sz x lo az,.slice t o l h none=>(match dO aZ t with|some ⟨_,_,.slice e,_⟩=>(match dO aZ e with|some f=>f.size==sz|none=>false)|_=>false)&&ed x o&&wk lo l&&wk az h
 | .bin op _ x y,.binOp QR _ o o' _=>decide (op=QR)&&ed x o&&ed y o'
 | .notB x,.unOp op _ o=>decide (op= .not)&&ed x o
 | .neg x,.unOp op _ o=>decide (op= .neg)&&ed x o
 | .conv k x,.convert s d o=>(match dO aZ s,dO aZ d with|some ⟨_,_,.int _,_⟩,some ⟨_,_,.int bb,_⟩=>decide (k=bb)|_,_=>false)&&ed x o
 | .ext i x,.extract o j=>i==j&&ed x o
 | .len x,.call ⟨.builtin .len,⟨[o]⟩,⟨[t]⟩⟩=>(match dO aZ t with|some ⟨_,_,.slice _,_⟩=>true|_=>false)&&ed x o
 | .slen x,.call ⟨.builtin .len,⟨[o]⟩,⟨[t]⟩⟩=>(match dO aZ t with|some ⟨_,_,.str,_⟩=>true|_=>false)&&ed x o
 | .build zero parts,.build t a6=>(match dO aZ t with|some ⟨_,_,.struct dK,z⟩=>KS zero z&&(dK.all fun x=>(dO aZ x.2).isSome)&&zD aZ dK parts a6.toList|_=>false)
 | .nck x,.nilCheck o=>ed x o
 | .min2 x y,.call ⟨.builtin .min,⟨[o,o']⟩,⟨[_,_]⟩⟩=>ed x o&&ed y o'
 | .mkf n xs,.makeFunc (.func m) ⟨[]⟩ os=>decide (n=m/\n<1000000)&&uN xs os.toList
 | .mkf n xs,.makeFunc (.func m) eF ⟨[]⟩=>decide (n=m+1000000)&&uN xs eF.toList
 | .mget bT zero ok x k,.lookup t o o' EP=>ok==EP&&(match dO aZ t with|some ⟨_,_,.map dH oM,_⟩=>xL aZ bT dH&&(match dO aZ oM with|some f=>Ah zero f.zero|none=>false)|_=>false)&&ed x o&&ed k o'
 | .ment x,.entry o=>ed x o
 | .mlen x,.call ⟨.builtin .len,⟨[o]⟩,⟨[t]⟩⟩=>(match dO aZ t with|some ⟨_,_,.map _ _,_⟩=>true|_=>false)&&ed x o
 | .beq neg dK x y,.binOp op t o o' _=>decide (op=if neg then .neq else .eql)&&(match dK with|none=>(match dO aZ t with|some ⟨_,_,.bool,_⟩=>true|_=>false)|some dK=>Dy aZ dK t)&&ed x o&&ed y o'
 | .max2 x y,.call ⟨.builtin .max,⟨[o,o']⟩,⟨[_,_]⟩⟩=>ed x o&&ed y o'
 | .mkif t x,.makeInterface t' o=>t==t'&&(match dO aZ t with|some ⟨_,_,.slice _,_⟩=>true|_=>false)&&ed x o
 | .loadB agg sz x,.load t o=>(match dO aZ t with|some f=>f.size==sz&&f.kind.isAgg==agg|none=>false)&&ed x o
 | .b2s x,.convert s d o=>(match dO aZ s,dO aZ d with|some ⟨_,_,.slice e,_⟩,some ⟨_,_,.str,_⟩=>(match dO aZ e with|some ⟨_,_,.int .u8,_⟩=>true|_=>false)|_,_=>false)&&ed x o
 | .isn neg x,.binOp op t o (.const .nilIface) _=>decide (op=if neg then .neq else .eql)&&(match dO aZ t with|some ⟨_,_,.iface,_⟩=>true|_=>false)&&ed x o
 | .loadZ agg sz x,.load t o=>(match dO aZ t with|some f=>f.size==sz&&f.kind.isAgg==agg|none=>false)&&ed x o
 | .mgetB bT zero ok x k,.lookup t o o' EP=>ok==EP&&(match dO aZ t with|some ⟨_,_,.map dH oM,_⟩=>xL aZ bT dH&&(match dO aZ oM with|some f=>Ah zero f.zero|none=>false)|_=>false)&&ed x o&&ed k o'
 |_,_=>false
end
section
open Go Go.RowKit
theorem GX(P:bK)(w:World)(op:BinOp)(t:fI)(x y:h7)(k bb:IntKind)(m n:Int):(eqGuard op t x y (.int k m) (.int bb n)).run P w= .ok () w:=by cases op<;>rfl
theorem UZ(P:bK)(w:World)(op:BinOp)(t:fI)(x y:h7)(m n:jL):(eqGuard op t x y (.string m) (.string n)).run P w= .ok () w:=by cases op<;>rfl
theorem adF(l:List al):(⟨l.toArray⟩:jL).toList=l:=by simp
theorem TA(a b:List al):(⟨a.toArray⟩:jL)++(⟨b.toArray⟩:jL)=⟨(a++b).toArray⟩:=by apply aeP;simp
theorem V2(a:List al)(l h:Nat):(⟨a.toArray⟩:jL).extract l h=⟨((a.take h).drop l).toArray⟩:=by apply aeP;simp[List.drop_take]
theorem Cv(a:List al):(⟨a.toArray⟩:jL).size=a.length:=by simp[KT]
section
variable {P:bK} {w:World} {r:Sem Value}
theorem rp{k:IntKind}{x:Int}(h:r.run P w= .ok (.int k x) w):∃v,r.run P w= .ok v w/\∀ν,aH w ν (.int k x) v:=⟨_,h,fun ν=>by simp[aH]⟩
theorem NR{x:Bool}(h:r.run P w= .ok (.bool x) w):∃v,r.run P w= .ok v w/\∀ν,aH w ν (.bool x) v:=⟨_,h,fun ν=>by simp[aH]⟩
end
theorem ZM(P:bK)(w:World){op:BinOp}{wr:Bool}{k:IntKind}{a b:Int}{c:Prop}{p:ae}(he:zf op wr k a b=some (c,p))(aE:c)(t:fI):
  ∃v,(binOp op t (.int k a) (.int k b)).run P w= .ok v w/\∀ν,aH w ν p v:=by
 cases op<;>simp only[zf]at he;case add=>
  cases wr<;>simp only[if_true,kk,if_false]at he<;>cases he
  ·obtain⟨rfl,h⟩:=aE;exact rp (by simp[binOp,Op.intArith,ng _ h])
  ·exact rp (by simp[binOp,Op.intArith])
 case sub=>
  cases wr<;>simp only[if_true,kk,if_false]at he<;>cases he
  ·obtain⟨rfl,h⟩:=aE;exact rp (by simp[binOp,Op.intArith,ng _ h])
  ·exact rp (by simp[binOp,Op.intArith])
 case mul=>
  cases wr<;>simp only[if_true,kk,if_false]at he<;>cases he
  ·obtain⟨rfl,h⟩:=aE;exact rp (by simp[binOp,Op.intArith,ng _ h])
  ·exact rp (by simp[binOp,Op.intArith])
 case quo=>cases he;exact rp (by simp[binOp,Op.intDiv,aE])
 case rem=>cases he;exact rp (by simp[binOp,Op.intDiv,aE])
 case and=>cases he;exact rp (by simp only[binOp,Op.intBits,ne_eq,not_true_eq_false,if_false,fH])
 case or=>cases he;exact rp (by simp only[binOp,Op.intBits,ne_eq,not_true_eq_false,if_false,fH])
 case xor=>cases he;exact rp (by simp only[binOp,Op.intBits,ne_eq,not_true_eq_false,if_false,fH])
 all_goals cases he
 all_goals exact NR (by simp only[binOp,Op.intCmp,ne_eq,not_true_eq_false,if_false,fH,gt_iff_lt,ge_iff_le])
theorem adq(P:bK)(w:World){op:BinOp}{a b:List al}{c:Prop}{p:ae}(he:FD op a b=some (c,p))(aE:c)(t:fI):
  ∃v,(binOp op t (.string ⟨a.toArray⟩) (.string ⟨b.toArray⟩)).run P w= .ok v w/\∀ν,aH w ν p v:=by
 cases op<;>simp only[FD]at he;case add=>
  cases he;refine⟨.string ⟨(a++b).toArray⟩,?_,fun ν=>by simp only[aH];exact⟨trivial,by simpa using aE⟩⟩;have I:¬(((⟨a.toArray⟩:jL).size+(⟨b.toArray⟩:jL).size:Nat):Int)>kD.max:=by
   have:kD.max=9223372036854775807:=by decide
   rw[this,Cv,Cv];simp only[bN]at aE;omega
  simp only[binOp,Op.stringOp,I,if_false,fH,TA]
 all_goals cases he
 all_goals exact NR (by simp only[binOp,Op.stringOp,adF,fH])
theorem TL(P:bK)(w:World)(ν:aP){op:BinOp}{wr:Bool}{x y:ae}{c:Prop}{p:ae}(he:k5 op wr x y=some (c,p))(aE:c)(t:fI){u v:Value}(hu:aH w ν x u)(aM:aH w ν y v)(o o':h7):
  ∃r,(do eqGuard op t o o' u v;binOp op t u v).run P w= .ok r w/\aH w ν p r:=by
 unfold k5 at he;split at he
 ·rename_i k a bb b;simp only[aH]at hu aM;subst hu;subst aM;split at he
  ·cases he;refine⟨_,?_,by simp[aH];rfl⟩;simp[binOp,Op.shift,GX,Int.not_lt.2 aE]
  ·cases he;refine⟨_,?_,by simp[aH];rfl⟩;simp[binOp,Op.shift,GX,Int.not_lt.2 aE]
  ·split at he
   ·rename_i aa;subst aa;obtain⟨r,I,J⟩:=ZM P w he aE t;exact⟨r,by simp[GX,I],J ν⟩
   ·cases he
 ·simp only[aH]at hu aM;rw[hu.1,aM.1];obtain⟨r,I,J⟩:=adq P w he aE t;exact⟨r,by simp[UZ,I],J ν⟩
 ·cases he
theorem G7{w:World}{ν:aP}:∀(v:List Value) (i off:Nat) (cs:Array Value),off+i+v.length<=cs.size->
  ((v.zipIdx i).foldl (fun cs (x:Value×Nat)=>cs.setIfInBounds (off+x.2) x.1) cs).toList=cs.toList.take (off+i)++v++cs.toList.drop (off+i+v.length)
 |[],i,off,cs,_=>by simp
 |u::v,i,off,cs,h=>by
  simp only[List.zipIdx_cons,List.foldl_cons];rw[G7 (w:=w) (ν:=ν) v (i+1) off _ (by simp at h⊢;omega)];have bS:off+i<cs.toList.length:=by simp at h⊢;omega
  simp only[Array.toList_setIfInBounds];have aj:(cs.toList.set (off+i) u).take (off+(i+1))=cs.toList.take (off+i)++[u]:=by rw[show off+(i+1)=(off+i)+1 from by omega,List.take_succ_eq_append_getElem (by simpa using bS)];simp[List.take_set_of_le (cq _)]
  have aJ:(cs.toList.set (off+i) u).drop (off+(i+1)+v.length)=cs.toList.drop (off+i+(u::v).length):=by rw[List.drop_set_of_lt Ω];congr 1;simp;omega
  rw[aj,aJ];simp
theorem RW{w:World}{ν:aP}{C:ek}{st:aS}{a:Act}(hr:bX C st a w ν){aZ:List (Nat×cJ)}{dK:List (Nat×Nat)}{places:List (Nat×Nat)}
  (aU:∀(i off t sz:Nat),dK[i]? =some (off,t)->(dO aZ t).map (·.size)=some sz->places[i]? =some (off,sz)):
  ∀(parts:List (Nat×Nat×cM)) (a6:List (Nat×h7)) (cs:List ae) (us:Array Value) (c:Prop) (cs':List ae),zD aZ dK parts a6=true->cl w ν cs us.toList->tQ st.t cs parts=some (c,cs')->c->
  ∃br:Array Value,Instr.fill (places.toArray[·]?) us (a6.map fun(x:Nat×h7)=>(x.1,a.eval x.2))=some br/\cl w ν cs' br.toList
 |[],[],cs,us,c,cs',_,h,he,aE=>by simp only[tQ]at he;cases he;exact⟨us,by simp[Instr.fill],h⟩
 |[],_::_,_,_,_,_,dS,_,_,_=>by simp[zD]at dS
 |_::_,[],_,_,_,_,dS,_,_,_=>by simp[zD]at dS
 |(off,sz,x)::parts,(i,o)::a6,cs,us,c,cs',dS,h,he,aE=>by
  simp only[zD,bM]at dS;obtain⟨⟨I,J⟩,ao⟩:=dS;split at I
  ·rename_i wg t Be;simp only[bM,ej]at I;obtain⟨rfl,I⟩:=I;have fm:=aU i off t sz Be I;simp only[tQ]at he;split at he
   ·rename_i hh af6 ah;cases he;obtain⟨⟨aq,aG,hle⟩,kK⟩:=aE;have af:=ee hr J;have me:=uT af aq;have hlen:=o7 me;have qA:=o7 h;have gj:(a.eval o).cells.size=sz:=by have:(a.eval o).cells.toList.length=(cells (bG st.t x)).length:=hlen;rw[aG]at this;simpa using this
    have lh:us.size=cs.length:=by simpa using qA
    have lg:=G7 (w:=w) (ν:=ν) (a.eval o).cells.toList 0 off us (by simp[gj,lh];omega);have jt:cl w ν (oB cs off (cells (bG st.t x))) ((((a.eval o).cells.toList.zipIdx 0).foldl (fun cs (x:Value×Nat)=>cs.setIfInBounds (off+x.2) x.1) us).toList):=by rw[lg];unfold oB;refine xY (xY (Cm off h) me) ?_;rw[Nat.add_zero,hlen];exact zP _ h
    obtain⟨br,g1,g2⟩:=RW hr aU parts a6 _ _ hh cs' ao jt ah kK;refine⟨br,?_,g2⟩;simp only[gY,Instr.fill,List.getElem?_toArray,fm];rw[bq (by simp[gj,lh];omega)];rw[<-g1];simp only[List.getElem?_toArray];congr 1;rw[<-Array.foldl_toList];simp
   ·cases he
  ·cases I
end
section
open Go Go.RowKit
theorem uZ{P:bK}{aZ:List (Nat×cJ)}(aD:ez P aZ=true){t:Nat}{f:cJ}(aL:dO aZ t=some f)(w:World):
  (Go.isAgg t).run P w= .ok f.kind.isAgg w/\(sizeOf t).run P w= .ok f.size w:=by
 obtain⟨i,d,z,I,J,ao,aO,bp,cj,eu,gB⟩:=(tC aD aL).ex;refine⟨?_,by simp[sizeOf,typeInfo,I,ao]⟩;simp only[Go.isAgg,e2,run_underlying J,e4];cases aa:f.kind<;>rw[aa]at bp<;>cases d<;>simp[k8]at bp<;>simp[Aw.isAgg]
theorem hq{P:bK}{aZ:List (Nat×cJ)}(aD:ez P aZ=true){t:Nat}{f:cJ}(aL:dO aZ t=some f):∃d,P.underlying t=some d/\k8 f.kind d=true:=by obtain⟨i,d,z,I,J,ao,aO,bp,cj,eu,gB⟩:=(tC aD aL).ex;exact⟨d,J,bp⟩
theorem qs{e:Nat}{d:TypeDesc}(h:k8 (.slice e) d=true):d= .slice e:=by cases d<;>simp[k8]at h;subst h;rfl
theorem vm{d:TypeDesc}(h:k8 .str d=true):d= .string:=by cases d<;>simp[k8]at h;rfl
theorem AM{k:IntKind}{d:TypeDesc}(h:k8 (.int k) d=true):d= .int k:=by cases d<;>simp[k8]at h;subst h;rfl
theorem GG{dK:List (Nat×Nat)}{d:TypeDesc}(h:k8 (.struct dK) d=true):∃gs:Array Field,d= .struct gs/\gs.toList.map (fun f=>(f.offset,f.type))=dK:=by cases d<;>simp[k8]at h;rename_i gs;exact⟨gs,rfl,by simpa using h⟩
theorem Fi{w:World}{ν:aP}{cs:List ae}{us:List Value}(h:cl w ν cs us)(off sz:Nat):cl w ν ((cs.drop off).take sz) ((us.drop off).take sz):=Cm sz (zP off h)
theorem QS{w:World}{base el sz n:Nat}{v:Value}{us:List Value}(h:w.ownsRow base el sz v n us){b:Nat}(ah:v.ownBlock=some b):∃cap,v= .slice (some ⟨b,0,none⟩) n cap:=by
 rcases h.2 with⟨rfl,_⟩|⟨g,cap,cur,rfl,_⟩
 ·simp[nh]at ah
 ·simp[nh]at ah;subst ah;exact⟨cap,rfl⟩
theorem Good.rowElem{pr:Nat->Prop}{w:World}{ν:aP}{b:List (aC×List ae)}{e:List (aC×cV)}(aR:Good pr w ν b e){k:aC}{n el sz:Nat}{xs:List ae}(aa:look k e=some ⟨n,el,sz,some xs⟩){i f:Nat}{u:Value}(af:aH w ν (.rptr sz k n i f) u){p:ae}(aU:xs[i]? =some p):
  ∃(v:Value) (us:List Value) (eS:Nat),aH w ν p v/\v.cells.size=sz/\∃b o,u= .pointer (some ⟨b,o,none⟩)/\∀j c,v.cells.toList[f+j]? =some c->w.cell? ⟨b,o+j,none⟩=some c:=by
 simp only[aH]at af;obtain⟨_,az,n',eA,I,J,ao⟩:=af;obtain⟨v,us,bR,cA,dE,dM⟩:=aR.own k _ aa;rw[I]at bR;simp only[dZ,gA]at bR;obtain⟨rfl,rfl⟩:=bR;obtain⟨bl,ah,rfl⟩:=ao rfl;obtain⟨cap,rfl⟩:=QS cA ah;obtain⟨aG,jt,_⟩:=dM xs rfl;simp only at aG jt;obtain⟨v,ff,eW,mw⟩:=Fg i jt aU;refine⟨v,us,el,ff,eW,bl,_,rfl,fun j c aw=>?_⟩;have bS:f+j<sz:=by have:=(e3.1 aw).1;simp[eW]at this;exact this
 have hmul:i*sz+sz<=n'*sz:=by have:=Nat.mul_le_mul_right sz (show i+1<=n' from az);rwa[Nat.succ_mul]at this
 have aE:=cA.cellAt (i*sz+f+j) (by show _<n'*sz;omega);rw[aE];rw[mw,List.getElem?_take,if_pos bS,k2]at aw;rw[<-aw];congr 1;omega
theorem Ez{P:bK}{aZ:List (Nat×cJ)}(aD:ez P aZ=true){pr:Nat->Prop}{w:World}{ν:aP}{b:List (aC×List ae)}{e:List (aC×cV)}(aR:Good pr w ν b e){t:Nat}{f:cJ}(aL:dO aZ t=some f)
  {x:ae} {u:Value} (af:aH w ν x u) {c:Prop} {p:ae} (he:mn b e f.kind.isAgg f.size x=some (c,p)) (aE:c):∃v,(Instr.loadAt t u).run P w= .ok v w/\aH w ν p v:=by
 obtain⟨bF,aq⟩:=uZ aD aL w;generalize DN:f.kind.isAgg=eR at*;generalize dq:f.size=sz at*;unfold mn at he;split at he
 ·rename_i dn k n i xg;unfold x0 at he;split at he
  ·rename_i n' el hO xs aa;split at he
   ·rename_i aK;obtain⟨rfl,rfl⟩:=aK;split at he
    ·rename_i hL Zc;obtain⟨KF,us,eS,g1,g2,oa⟩:=Good.rowElem aR aa af Zc;have HX:eD hL=true:=by
      cases eR
      ·simp only[kk,if_false,ij]at he;obtain⟨q,_,he⟩:=he;cases he;exact aE
      ·simp only[if_true]at he;cases he;exact aE.1
     have cO:=uT g1 HX;cases eR
     ·simp only[kk,if_false,ij]at he;obtain⟨q,bn,he⟩:=he;cases he;obtain⟨v,f1,f2,f3⟩:=Cl xg cO bn;refine⟨v,?_,f2⟩;obtain⟨b,o,rfl,oa⟩:=oa;have:=oa 0 v (by simpa using f1);simp only[Nat.add_zero]at this;simp[Instr.loadAt,Instr.sureAddr,loadVar,bF,this]
     ·simp only[if_true]at he;cases he;obtain⟨b,o,rfl,oa⟩:=oa;refine⟨.agg ((KF.cells.toList.drop xg).take sz).toArray,?_,by simp only[aH];exact⟨_,rfl,by simpa using Fi cO xg sz⟩⟩;have aG:=o7 cO;have hlen:((KF.cells.toList.drop xg).take sz).length=sz:=by simp only[pe,hg];omega
      have gD:=run_loadCells_list (P:=P) w ⟨b,o,none⟩ ((KF.cells.toList.drop xg).take sz) (fun j v aw=>by
       rw[nU];refine oa j v ?_;rw[List.getElem?_take]at aw;split at aw
       ·simpa[k2]using aw
       ·cases aw)
      rw[hlen]at gD;simp only[Instr.loadAt,Instr.sureAddr,loadVar,e2,fH,e4,bF,if_true,aq,gD]
    ·cases he
   ·cases he
  ·cases he
 ·rename_i k off;simp only[aH]at af;obtain⟨bl,I,rfl⟩:=af;split at he
  ·rename_i cs aa;obtain⟨gH,us,el,g1,g2,g3,g4,g5⟩:=aR.box k cs aa;rw[I]at g1;cases g1;have fm:gn cs=true:=by
    cases eR
    ·simp only[kk,if_false,ij]at he;obtain⟨q,bn,he⟩:=he;cases he;exact aE
    ·simp only[if_true]at he;cases he;exact aE.1
   rw[nD fm]at g4;rw[na fm]at g5;have aG:=o7 g5;cases eR
   ·simp only[kk,if_false,ij]at he;obtain⟨q,bn,he⟩:=he;cases he;obtain⟨v,f1,f2,f3⟩:=Cl off g5 bn;refine⟨v,?_,f2⟩;have oa:w.cell? ⟨bl,off,none⟩=some v:=by simpa[World.cell?,g4]using f1
    simp[Instr.loadAt,Instr.sureAddr,loadVar,bF,oa]
   ·simp only[if_true]at he;cases he;replace aE:=aE.2;refine⟨_,?_,by simp only[aH];exact⟨_,rfl,by simpa using Fi g5 off sz⟩⟩;simp only[Instr.loadAt,Instr.sureAddr,loadVar,e2,fH,e4,bF,if_true,aq];rw[ac0 g4 (by simp at aG;omega)];rfl
  ·cases he
 ·rename_i q;simp only[aH]at af;obtain⟨bl,off,eA,rfl,J,ao⟩:=af;cases eR
  ·simp only[kk,if_false]at he;cases he;obtain⟨jS,kL⟩:=aE;obtain⟨g1,g2⟩:=JR J jS (fun cs e=>by subst e;have:=er List.length kL;simp only[cells,lx,List.length_nil]at this;cases cs with
    |nil=>simp[cells]at kL
    |cons y ys=>simp only[cells,Ai]at kL;obtain⟨aj,aJ⟩:=kL;subst aJ;have:=er SizeOf.sizeOf aj;simp at this;omega)
   refine⟨eA,?_,J⟩;rw[g2]at ao;have oa:=ao.1.2;simp[Instr.loadAt,Instr.sureAddr,loadVar,bF,oa]
  ·simp only[if_true]at he;cases he;obtain⟨cs,rfl,hlen⟩:=aE;simp only[aH]at J;obtain⟨us,rfl,aO⟩:=J;refine⟨.agg us,?_,by simp only[aH];exact⟨us,rfl,aO⟩⟩;simp only[oF]at ao;have aG:=o7 aO;have:=RY (P:=P) ao;rw[show us.toList.length=sz from by omega]at this;simp[Instr.loadAt,Instr.sureAddr,loadVar,bF,aq,this]
 ·cases he
theorem WM{P:bK}{aZ:List (Nat×cJ)}(aD:ez P aZ=true){w:World}{ν:aP}{s i:Nat}{f:cJ}{dK:List (Nat×Nat)}(aL:dO aZ s=some f)(aa:f.kind= .struct dK){off t:Nat}{g:cJ}(az:dK[i]? =some (off,t))(aR:dO aZ t=some g)(bL:g.size≠0)
  {x:ae} {u:Value} (af:aH w ν x u) {c:Prop} {p:ae} (he:n7 off g.kind.isAgg g.size x=some (c,p)) (aE:c):∃v,(Instr.fieldAt s u i).run P w= .ok v w/\aH w ν p v:=by
 obtain⟨d,aF,e8⟩:=hq aD aL;rw[aa]at e8;obtain⟨gs,rfl,gg⟩:=GG e8;have oc:∃fd:Field,gs[i]? =some fd/\fd.offset=off/\fd.type=t:=by rw[<-gg]at az;simp only[List.getElem?_map,ij]at az;obtain⟨fd,I,J⟩:=az;simp only[gA]at J;exact⟨fd,by simpa using I,J.1,J.2⟩
 obtain⟨fd,DT,ak,lL⟩:=oc;obtain⟨bF,aq⟩:=uZ aD aR w;have gD:∀b o,(Instr.fieldAt s (.pointer (some ⟨b,o,none⟩)) i).run P w= .ok (.pointer (some ⟨b,o+off,none⟩)) w:=by intro b o;simp[Instr.fieldAt,run_underlying aF,DT,Instr.sureAddr,fieldPlace,lL,aq,bL,nU,ak]
 unfold n7 at he;split at he
 ·cases he;simp only[aH]at af;obtain⟨b,I,rfl⟩:=af;exact⟨_,gD _ _,by simp only[aH];exact⟨b,I,rfl⟩⟩
 ·cases he;simp only[aH]at af;obtain⟨⟨b,o,rfl⟩,az,n',eA,I,J,ao⟩:=af;refine⟨_,gD _ _,?_⟩;simp only[aH];refine⟨⟨b,_,rfl⟩,az,n',eA,I,J,fun e=>?_⟩;obtain⟨fY,aj,aJ⟩:=ao e;simp only[ai2,dZ,Addr.mk.injEq,and_true]at aJ;obtain⟨rfl,rfl⟩:=aJ;exact⟨b,aj,by rw[Nat.add_assoc]⟩
 ·rename_i cs;simp only[aH]at af;obtain⟨b,o,eA,rfl,⟨us,rfl,J⟩,ao⟩:=af;refine⟨_,gD _ _,?_⟩;simp only[oF]at ao;split at he
  ·cases he;simp only[aH];exact⟨b,o+off,.agg ((us.toList.drop off).take g.size).toArray,rfl,⟨_,rfl,by simpa using Fi J off g.size⟩,by simpa[oF]using Ev g.size (Eu off ao)⟩
  ·simp only[ij]at he;obtain⟨q,bn,he⟩:=he;cases he;obtain⟨v,f1,f2,f3⟩:=Cl off J bn;simp only[aH];have YV:=tb ao f1;have Zu:v.cells= #[v]:=by cases v<;>first|rfl|cases f3
   exact⟨b,o+off,v,rfl,f2,by rw[Zu];exact⟨YV,trivial⟩⟩
 ·cases he
theorem WV{P:bK}{aZ:List (Nat×cJ)}(aD:ez P aZ=true){w:World}{ν:aP}{s i:Nat}{f:cJ}{dK:List (Nat×Nat)}(aL:dO aZ s=some f)(aa:f.kind= .struct dK){off t:Nat}{g:cJ}(az:dK[i]? =some (off,t))(aR:dO aZ t=some g)
  {x:ae} {u:Value} (af:aH w ν x u) {c:Prop} {p:ae} (he:rn off g.kind.isAgg g.size x=some (c,p)) (aE:c):∃v,(Instr.field s u i).run P w= .ok v w/\aH w ν p v:=by
 obtain⟨d,aF,e8⟩:=hq aD aL;rw[aa]at e8;obtain⟨gs,rfl,gg⟩:=GG e8;have oc:∃fd:Field,gs[i]? =some fd/\fd.offset=off/\fd.type=t:=by rw[<-gg]at az;simp only[List.getElem?_map,ij]at az;obtain⟨fd,I,J⟩:=az;simp only[gA]at J;exact⟨fd,by simpa using I,J.1,J.2⟩
 obtain⟨fd,DT,ak,lL⟩:=oc;obtain⟨bF,aq⟩:=uZ aD aR w;unfold rn at he;split at he
 ·rename_i cs;simp only[aH]at af;obtain⟨us,rfl,J⟩:=af;generalize DN:g.kind.isAgg=eR at*;cases eR
  ·simp only[kk,if_false,ij]at he;obtain⟨q,bn,he⟩:=he;cases he;obtain⟨v,f1,f2,f3⟩:=Cl off J bn;have V3:us[off]? =some v:=by simpa using f1
   exact⟨v,by simp[Instr.field,run_underlying aF,DT,asAgg,part,lL,bF,ak,V3],f2⟩
  ·simp only[if_true]at he;cases he;refine⟨.agg (us.extract off (off+g.size)),by simp[Instr.field,run_underlying aF,DT,asAgg,part,lL,bF,ak,aq],?_⟩;simp only[aH];refine⟨_,rfl,?_⟩;have:=Fi J off g.size;simpa[List.take_drop]using this
 ·cases he
theorem ZG{P:bK}{aZ:List (Nat×cJ)}(aD:ez P aZ=true){w:World}{ν:aP}{t e:Nat}{f g:cJ}(aL:dO aZ t=some f)(aa:f.kind= .slice e)(aR:dO aZ e=some g)
  {x y:ae} {u v:Value} (af:aH w ν x u) (bA:aH w ν y v) {c:Prop} {p:ae} (he:zc g.size x y=some (c,p)) (aE:c):∃r,(Instr.indexAt t u v).run P w= .ok r w/\aH w ν p r:=by
 obtain⟨d,aF,e8⟩:=hq aD aL;rw[aa]at e8;obtain rfl:=qs e8;obtain⟨bF,aq⟩:=uZ aD aR w;unfold zc at he;split at he
 ·rename_i dn tag xs k i;split at he
  ·rename_i dq;cases he;simp only[aH]at af bA;subst bA;subst dq;obtain⟨⟨a,cap,rfl,I,J,ao⟩,_⟩:=af;obtain⟨y4,mL⟩:=aE;have lb:i.toNat<xs.length:=Ω
   rcases ao with rfl|⟨b,off,us,rfl,aO,bp⟩
   ·simp at lb
   ·have af:xs[i.toNat]? =some xs[i.toNat]:=cF lb;obtain⟨w',ff,eW,mw⟩:=Fg i.toNat bp af;refine⟨.pointer (some ⟨b,off+i.toNat*g.size,none⟩),?_,?_⟩
    ·simp only[Instr.indexAt,asIntOf,e2,fH,e4,run_underlying aF,y4,mL,and_self,if_true,aq,nU]
    ·simp only[aH];refine⟨b,off+i.toNat*g.size,w',rfl,by simpa[List.getD,af]using ff,?_⟩;rw[mw];exact Ev g.size (Eu _ aO)
  ·cases he
 ·rename_i dn k n PV i;split at he
  ·rename_i dq;cases he;simp only[aH]at af bA;subst bA;subst dq;obtain⟨⟨b,cap,rfl⟩,J,n',eA,ao,aO,bp⟩:=af;obtain⟨y4,mL⟩:=aE;refine⟨.pointer (some ⟨b,0+i.toNat*g.size,none⟩),?_,?_⟩
   ·simp only[Instr.indexAt,asIntOf,e2,fH,e4,run_underlying aF,y4,mL,and_self,if_true,aq,nU]
   ·simp only[aH];refine⟨⟨b,_,rfl⟩,Ω,n',eA,ao,aO,fun e=>⟨b,?_,Ψ⟩⟩;rw[<-bp e];rfl
  ·cases he
 ·cases he
theorem EX{C:ek}{st:aS}{a:Act}{w:World}{ν:aP}(h:bX C st a w ν){x:aT cM}{o:aT h7}(af:wk x o=true){Dd n:Int}(he:qJ Dd (x.map (bG st.t))=some n):
  (o.map a.eval=none/\n=Dd)\/ ∃k,o.map a.eval=some (.int k n):=by
 cases x with
 |none=>cases o with
  |none=>simp[qJ]at he;exact .inl ⟨rfl,he.symm⟩
  |some o=>simp[wk]at af
 |some x=>cases o with
  |none=>simp[wk]at af
  |some o=>
   simp only[wk]at af
   have:=ee h af
   simp only[kF]at he⊢
   cases ui:bG st.t x<;>simp[ui,qJ]at he
   rw[ui]at this
   simp only[aH]at this
   subst he
   exact .inr ⟨_,by rw[this]⟩
theorem Lr:∀{xs:List ae} {s:List al},qo xs=some s->s.length=xs.length
 |[],s,h=>by simp only[qo]at h;cases h;rfl
 |x::xs,s,h=>by
  cases x<;>try(simp[qo]at h;done)
  rename_i k n;cases k<;>simp only[qo,ij,reduceCtorEq]at h;obtain⟨ai,I,rfl⟩:=h;simp[Lr I]
def yr(n:Int):al:=nL n.toNat
theorem Ls{w:World}{ν:aP}{sz:Nat}:∀{xs:List ae} {s:List al} {us:List Value},qo xs=some s->cC w ν sz xs us->∃ns:List Int,us=ns.map (nK .u8)/\s=ns.map yr/\us.length=xs.length
 |[],s,us,h,hr=>by simp only[qo]at h;cases h;simp only[cC]at hr;subst hr;exact⟨[],rfl,rfl,rfl⟩
 |x::xs,s,us,h,hr=>by
  cases x<;>try(simp[qo]at h;done)
  rename_i k n;cases k<;>simp only[qo,ij,reduceCtorEq]at h;obtain⟨ai,I,rfl⟩:=h;simp only[cC,aH]at hr;obtain⟨u,br,rfl,⟨rfl,_⟩,hr⟩:=hr;obtain⟨ns,rfl,rfl,aG⟩:=Ls I hr;exact⟨n::ns,by simp[oF],rfl,by simp[oF]at aG⊢;exact aG⟩
theorem Q0{P:bK}{w:World}{f:Value->jL->Sem (ForInStep jL)}(aL:∀n s,f (.int .u8 n) s=pure (.yield (s.push (yr n)))):∀(ns:List Int) (s:jL),(forIn (ns.map (nK .u8)) s f).run P w= .ok ⟨(s.data.toList++ns.map yr).toArray⟩ w
 |[],s=>by simp
 |n::ns,s=>by simp only[gY,List.forIn_cons,e2,aL,fH,e4];rw[Q0 aL ns];simp[aiX]
theorem TJ{P:bK}{w:World}{A:Nat->Nat->Prop}{a:aT Addr}{len cap:Nat}{ns:List Int}(aG:ns.length=len)(h:len=0\/ ∃b off,a=some ⟨b,off,none⟩/\jI w A b off (ns.map (nK .u8))):
  (Conv.bytesToString (.slice a len cap)).run P w= .ok (.string ⟨(ns.map yr).toArray⟩) w:=by
 have YY:∀lA,a=some lA->(loadCells lA len).run P w= .ok (ns.map (nK .u8)).toArray w:=fun lA e=>by
  rcases h with h|⟨b,off,aj,J⟩
  ·subst h;have:ns=[]:=by cases ns<;>simp_all
   subst this;exact run_loadCells_list w lA [] fun j v aw=>by simp at aw
  ·rw[aj]at e;cases e;have:=RY (P:=P) J;simpa[aG]using this
 unfold Conv.bytesToString;cases a with
 |none=>
  have:ns=[]:=by
   rcases h with h|⟨b,off,aj,J⟩
   ·subst h;cases ns<;>simp_all
   ·cases aj
  subst this;simp;rfl
 |some lA=>simp only[e2,YY lA rfl,e4,Array.forIn_toList,List.forIn_toArray];rw[Q0 (fun n s=>rfl) ns aiW];simp
theorem KO{c d:ae}(h:CP c d=true):c=d:=by unfold CP at h;split at h<;>simp_all
theorem Tb:∀{cs c1:List ae},Af cs c1=true->cs=c1
 |[],[],_=>rfl
 |[],_::_,h=>by simp[Af]at h
 |_::_,[],h=>by simp[Af]at h
 |c::cs,d::c1,h=>by simp only[Af,bM]at h;rw[KO h.1,Tb h.2]
theorem aeL{w:World}{ν:aP}{c d:ae}{v:Value}(h:KN c d=true)(aF:aH w ν d v):aH w ν c v:=by
 unfold KN at h;split at h
 ·simp only[ej]at h;subst h;simp only[aH]at aF⊢;exact⟨aF.1,fun e=>(by cases e),fun _ e=>(by cases e),fun _ _ e=>(by cases e),fun _ e=>(by cases e)⟩
 ·rw[KO h];exact aF
theorem Ta{w:World}{ν:aP}:∀{cs c1:List ae} {us:List Value},yj cs c1=true->cl w ν c1 us->cl w ν cs us
 |[],[],_,_,h=>h
 |[],_::_,_,h,_=>by simp[yj]at h
 |_::_,[],_,h,_=>by simp[yj]at h
 |c::cs,d::c1,us,h,hr=>by simp only[yj,bM]at h;simp only[cl]at hr⊢;obtain⟨u,br,aj,⟨aJ,bs⟩,ch⟩:=hr;exact⟨u,br,aj,⟨aeL h.1 aJ,bs⟩,Ta h.2 ch⟩
theorem aeO{cs:List ae}{z:ae}(h:KS cs z=true):∃c1,z= .agg c1/\yj cs c1=true:=by
 cases z<;>simp only[KS]at h;case agg c1=>exact⟨c1,rfl,h⟩
 all_goals cases h
theorem Xq(s:List al)(n:Nat)(h:n<s.length):(⟨s.toArray⟩:jL)[n]? =some (s.getD n 0):=by
 have dq:n<(⟨s.toArray⟩:jL).size:=by rw[Cv];exact h
 have e:(⟨s.toArray⟩:jL)[n]? =some ((⟨s.toArray⟩:jL)[n]'dq):=getElem?_pos (⟨s.toArray⟩:jL) n dq;rw[e];congr 1;simp[List.getD,h];rfl
theorem FB(P:bK)(w:World)(k:IntKind)(i:Int)(y:Nat)(c:BoundsCode)(bL:0<=i)(I:i<=y):(Instr.sliceBound (.int k i) y c).run P w= .ok i.toNat w:=by simp[Instr.sliceBound,asIntOf,bL,I]
theorem Lo(P:bK)(w:World)(ZU:Bool)(len cap:Nat)(lo az:aT Value)(l h:Int)(YX:(lo=none/\l=0)\/ ∃k,lo=some (.int k l))(YD:(az=none/\h=len)\/ ∃k,az=some (.int k h))
  (bL:0<=l) (I:l<=h) (J:h<=len) (aE:len<=cap):(Instr.sliceBounds ZU len cap lo az none).run P w= .ok (l.toNat,h.toNat,cap) w:=by
 rcases YX with⟨rfl,rfl⟩|⟨k,rfl⟩<;>rcases YD with⟨rfl,rfl⟩|⟨bb,rfl⟩
 ·simp[Instr.sliceBounds]
 ·simp[Instr.sliceBounds,FB P w bb h cap _ Ω Ω]
 ·simp[Instr.sliceBounds,FB P w k l len _ Ω Ω]
 ·simp[Instr.sliceBounds,FB P w bb h cap _ Ω Ω,FB P w k l h.toNat _ Ω Ω]
theorem QW{P:bK}{aZ:List (Nat×cJ)}(aD:ez P aZ=true):∀(gs:List Field),(gs.all fun f=>(dO aZ f.type).isSome)=true->
  ∃places:List (Nat×Nat),gs.mapM (fun f=>(P.info? f.type).map fun i=>(f.offset,i.size))=some places/\
   ∀(i off t sz:Nat),(gs.map (fun f=>(f.offset,f.type)))[i]? =some (off,t)->(dO aZ t).map (·.size)=some sz->places[i]? =some (off,sz)
 |[],_=>⟨[],Ψ,Ψ⟩
 |f::gs,h=>by
  simp only[List.all_cons,bM]at h;obtain⟨places,I,J⟩:=QW aD gs h.2;obtain⟨g,aR⟩:=e5.1 h.1;obtain⟨i,d,z,aj,aJ,bs,ch,fa,dd,l9,n4⟩:=(tC aD aR).ex;refine⟨(f.offset,g.size)::places,by simp[List.mapM_cons,aj,bs,I],fun j off t sz aw dq=>?_⟩;cases j with
  |zero=>simp only[gY,List.getElem?_cons_zero,dZ,gA]at aw⊢;obtain⟨rfl,rfl⟩:=aw;rw[aR]at dq;simpa using dq
  |succ j=>simp only[gY,List.getElem?_cons_succ]at aw⊢;exact J j off t sz aw dq
theorem j1{P:bK}{w:World}{x:Sem Value}{v:Value}(h:x.run P w= .ok v w):(do pure (Next.value (<-x)):Sem Next).run P w= .ok (.value v) w:=by simp[h]
theorem KR{p q:ae}(h:Ah p q=true):p=q:=by
 unfold Ah at h;split at h
 ·rw[Tb h]
 ·cases h
 ·exact KO h
theorem KQ(w:World)(ν:aP){p:ae}{v:Value}(h:yk p v=true):aH w ν p v/\cl w ν (cells p) v.cells.toList:=by
 by_cases bF:∃cs,p= .agg cs
 ·obtain⟨cs,rfl⟩:=bF;cases v<;>simp only[yk]at h;case agg us=>have:=KP w ν _ _ h;exact⟨by simp only[aH];exact⟨us,rfl,this⟩,by simpa[cells,oF]using this⟩
  all_goals cases h
 ·have cu:yu p v=true/\v.oneCell'=true:=by cases p<;>simp only[yk,bM]at h<;>first|exact h|exact absurd ⟨_,rfl⟩ bF
  have hr:=F5 w ν cu.1;refine⟨hr,?_⟩;have aE:cells p=[p]:=by cases p<;>first|rfl|exact absurd ⟨_,rfl⟩ bF
  have aM:v.cells= #[v]:=by have:=cu.2;cases v<;>first|rfl|simp[Value.oneCell']at this
  rw[aE,aM];simp only[cl];exact⟨v,[],rfl,⟨hr,cu.2⟩,rfl⟩
theorem Ki{P:bK}{aZ:List (Nat×cJ)}(aD:ez P aZ=true){t:Nat}{f:cJ}(aL:dO aZ t=some f)(w:World):∃z,(zeroValue t).run P w= .ok z w/\yk f.zero z=true/\z.cells.size=f.size:=by obtain⟨i,d,z,I,J,ao,aO,bp,cj,eu,gB⟩:=(tC aD aL).ex;exact⟨z,by simp[zeroValue,typeInfo,I,cj],eu,gB⟩
theorem xZ{C:ek}{st:aS}{a:Act}{w:World}{ν:aP}(h:bX C st a w ν):∀{xs:List cM} {os:List h7},uN xs os=true->cc w ν (xs.map (bG st.t)) (os.map a.eval)
 |[],[],_=>by simp[cc]
 |[],_::_,aa=>by simp[uN]at aa
 |_::_,[],aa=>by simp[uN]at aa
 |x::xs,o::os,aa=>by simp only[uN,bM]at aa;simp only[gY,cc];exact⟨_,_,rfl,ee h aa.1,xZ h aa.2⟩
theorem U0{P:bK}{w:World}{t:fI}(aF:P.underlying t=some .bool)(d:Nat)(a b:Bool):(Op.equalIn (d+1) t (.bool a) (.bool b)).run P w= .ok (a==b) w:=by rw[Op.equalIn];simp only[e2,run_underlying aF,e4,fH]
theorem U1{P:bK}{w:World}{t:fI}{ms:Array (String×fI)}(aF:P.underlying t=some (.interface ms))(d:Nat):(∀u x,(Op.equalIn (d+1) t (.iface u x) .nilIface).run P w= .ok false w)/\(Op.equalIn (d+1) t .nilIface .nilIface).run P w= .ok true w:=by
 constructor
 ·intro u x;simp[Op.equalIn,run_underlying aF]
 ·simp[Op.equalIn,run_underlying aF]
theorem Dn{P:bK}{w:World}{t:fI}{ms:Array (String×fI)}(aF:P.underlying t=some (.interface ms)):(∀u x,(Op.equal t (.iface u x) .nilIface).run P w= .ok false w)/\(Op.equal t .nilIface .nilIface).run P w= .ok true w:=U1 aF 9999
theorem U2{P:bK}{w:World}{t:fI}(aF:P.underlying t=some .bool)(a b:Bool):(Op.equal t (.bool a) (.bool b)).run P w= .ok (a==b) w:=U0 aF _ a b
theorem MS:∀{borns:List Nat} {kvs:List ae} {us:List Value},kvs.length=2*borns.length->us.length=kvs.length->(fw borns us).length=borns.length
 |[],_,us,_,_=>by simp[fw]
 |fY::eF,kvs,[],I,J=>by rw[I]at J;simp at J
 |fY::eF,kvs,[_],I,J=>by rw[I]at J;simp at J;omega
 |fY::eF,kvs,k::v::us,I,J=>by simp only[fw,lx];rw[MS (kvs:=kvs.drop 2) (us:=us) (borns:=eF) (by simp at I⊢;omega) (by simp at I J⊢;omega)]
theorem RJ{w:World}{ν:aP}:∀{a6:List ae} {vs:List Value},cc w ν a6 vs->vs.length=a6.length
 |[],vs,h=>by simp only[cc]at h;subst h;rfl
 |p::a6,vs,h=>by simp only[cc]at h;obtain⟨u,br,rfl,_,J⟩:=h;simp[RJ J]
theorem uX{P:bK}{w:World}{r:Nat}{o:Obj}(ah:w.heap[r]? =some o)(aK:∀c e f,o≠ .cells c e f:=by simp):(getObj r).run P w= .ok o w:=by simp only[getObj,Sem.run,ah]
def qd(P:bK):Nat->List Bool->List Field->Prop
 |_,[],[]=>True
 |n,b::r,f::gs=>(f.offset=n/\f.name≠ "_" /\(if b=true then P.underlying f.type=some .string else∃k,P.underlying f.type=some (.int k)))/\qd P (n+1) r gs
 |_,_,_=>cZ
theorem B9{P:bK}{t:fI}{b:Bool}(h:if b=true then P.underlying t=some .string else∃k,P.underlying t=some (.int k)):P.plainKey t=true:=by
 cases b
 ·obtain⟨k,h⟩:=(by simpa using h:∃k,P.underlying t=some (.int k));simp[Program.plainKey,h]
 ·have h:P.underlying t=some .string:=by simpa using h
  simp[Program.plainKey,h]
theorem TX{P:bK}{w:World}{ν:aP}(d:Nat){X Y:Array Value}(dK:List Bool):∀(gs:List Field) (n:Nat) (as eF:List ae) (us vs:List Value) (q:Bool),qd P n dK gs->X.toList.drop n=us->Y.toList.drop n=vs->cl w ν as us->cl w ν eF vs->kp dK as eF=some q->
  (Op.eqFields (d+1) X Y gs).run P w= .ok q w/\(q=true->us=vs)/\∀m,(us.zip us).all (fun(x,y)=>Instr.sameBits m x y)=true:=by
 induction dK with
 |nil=>intro gs n as eF us vs q aR lF vE I J h;cases as<;>cases eF<;>simp only[kp,dZ,reduceCtorEq]at h;cases gs<;>simp only[qd]at aR;simp only[cl]at I J;rw[I,J,<-h];exact⟨by simp[Op.eqFields],fun _=>rfl,fun m=>rfl⟩
 |cons xe r bo=>
  intro gs n as eF us vs q aR lF vE I J h;cases gs with
  |nil=>simp only[qd]at aR
  |cons f gs=>
  simp only[qd]at aR;obtain⟨⟨D8,ft,lL⟩,aR⟩:=aR;cases as with
  |nil=>cases xe<;>cases eF<;>simp[kp]at h
  |cons B7 as=>
  cases eF with
  |nil=>cases xe<;>cases B7<;>simp[kp]at h
  |cons EZ eF=>
  cases xe with
  |false=>
   have aE:∃k a b q',B7= .int k a/\EZ= .int k b/\kp r as eF=some q'/\q=((a==b)&&q'):=by
    cases B7<;>first|(simp[kp]at h;done)|skip
    cases EZ<;>first|(simp[kp]at h;done)|skip
    simp only[kp]at h;split at h
    ·rename_i aa;subst aa;simp only[ij]at h;obtain⟨q',ao,aO⟩:=h;exact⟨_,_,_,q',rfl,rfl,ao,aO.symm⟩
    ·cases h
   obtain⟨k,a,b,q',rfl,rfl,ao,rfl⟩:=aE;simp only[cl,aH]at I J;obtain⟨u,br,rfl,⟨rfl,_⟩,I⟩:=I;obtain⟨v,vs',rfl,⟨rfl,_⟩,J⟩:=J;have B6:X[n]? =some (.int k a):=by rw[<-Array.getElem?_toList,<-List.head?_drop,lF];rfl
   have Jq:Y[n]? =some (.int k b):=by rw[<-Array.getElem?_toList,<-List.head?_drop,vE];rfl
   obtain⟨i1,i2,i3⟩:=bo gs (n+1) as eF br vs' q' aR (by rw[<-List.tail_drop,lF];rfl) (by rw[<-List.tail_drop,vE];rfl) I J ao;obtain⟨PV,H3⟩:=(by simpa using lL:∃k,P.underlying f.type=some (.int k));refine⟨?_,?_,fun m=>?_⟩
   ·simp only[Op.eqFields,ft,ne_eq,not_false_eq_true,if_true,e2,D8,run_part_plain w (B9 lL) B6,run_part_plain w (B9 lL) Jq,e4,run_equalIn_int w d f.type k PV a b H3];cases n9:(a==b)
    ·simp
    ·simpa using i1
   ·intro bn;simp only[bM,ej]at bn;rw[bn.1,i2 bn.2]
   ·have:=i3 m;simp only[List.zip_cons_cons,List.all_cons,this,Bool.and_true];cases m<;>simp[Instr.sameBits]
  |true=>
   have aE:∃a b q',B7= .str a/\EZ= .str b/\kp r as eF=some q'/\q=((a==b)&&q'):=by
    cases B7<;>first|(simp[kp]at h;done)|skip
    cases EZ<;>first|(simp[kp]at h;done)|skip
    simp only[kp,ij]at h;obtain⟨q',ao,aO⟩:=h;exact⟨_,_,q',rfl,rfl,ao,aO.symm⟩
   obtain⟨a,b,q',rfl,rfl,ao,rfl⟩:=aE;simp only[cl,aH]at I J;obtain⟨u,br,rfl,⟨⟨rfl,_⟩,_⟩,I⟩:=I;obtain⟨v,vs',rfl,⟨⟨rfl,_⟩,_⟩,J⟩:=J;have B6:X[n]? =some (.string ⟨a.toArray⟩):=by rw[<-Array.getElem?_toList,<-List.head?_drop,lF];rfl
   have Jq:Y[n]? =some (.string ⟨b.toArray⟩):=by rw[<-Array.getElem?_toList,<-List.head?_drop,vE];rfl
   obtain⟨i1,i2,i3⟩:=bo gs (n+1) as eF br vs' q' aR (by rw[<-List.tail_drop,lF];rfl) (by rw[<-List.tail_drop,vE];rfl) I J ao;have H3:P.underlying f.type=some .string:=by simpa using lL
   refine⟨?_,?_,fun m=>?_⟩
   ·simp only[Op.eqFields,ft,ne_eq,not_false_eq_true,if_true,e2,D8,run_part_plain w (B9 lL) B6,run_part_plain w (B9 lL) Jq,e4,run_equalIn_string w d f.type _ _ H3];have e:((⟨a.toArray⟩:jL).toList==(⟨b.toArray⟩:jL).toList)=(a==b):=by rw[aeQ,aeQ]
    rw[e];cases n9:(a==b)
    ·simp
    ·simpa using i1
   ·intro bn;simp only[bM,ej]at bn;rw[bn.1,i2 bn.2]
   ·have:=i3 m;simp only[List.zip_cons_cons,List.all_cons,this,Bool.and_true];cases m<;>simp only[Instr.sameBits]<;>exact(MapKept.bytes_beq _ _).2 rfl
theorem Nk{P:bK}{aZ:List (Nat×cJ)}(aD:ez P aZ=true):∀(dK:List Bool) (gs:List Field) (n:Nat),yT aZ n dK (gs.map fun f=>(f.offset,f.type))=true->(gs.all (fun f=>match P.underlying f.type with|some (.int _)=>true|some .string=>true|_=>false)=true)/\((∀f∈gs,f.name≠ "_")->qd P n dK gs)
 |[],[],_,_=>⟨rfl,fun _=>trivial⟩
 |[],_::_,_,h=>by simp[yT]at h
 |_::_,[],_,h=>by simp[yT]at h
 |b::r,f::gs,n,h=>by
  simp only[gY,yT,bM,ej]at h;obtain⟨⟨I,J⟩,ao⟩:=h;obtain⟨i1,i2⟩:=Nk aD r gs (n+1) ao;split at J
  ·rename_i aL;obtain⟨d,hu,aF⟩:=hq aD aL;obtain rfl:=AM aF;refine⟨by simp only[List.all_cons,hu,i1,Bool.and_self],fun aK=>⟨⟨I,aK f Ψ,?_⟩,i2 fun g aR=>aK g (by simp[aR])⟩⟩;have:b=false:=by simpa using J
   subst this;simpa using⟨_,hu⟩
  ·rename_i aL;obtain⟨d,hu,aF⟩:=hq aD aL;obtain rfl:=vm aF;refine⟨by simp only[List.all_cons,hu,i1,Bool.and_self],fun aK=>⟨⟨I,aK f Ψ,?_⟩,i2 fun g aR=>aK g (by simp[aR])⟩⟩;subst J;simpa using hu
  ·cases J
theorem Nn{P:bK}{aZ:List (Nat×cJ)}(aD:ez P aZ=true){dK:List Bool}{t:Nat}(h:Dy aZ dK t=true):∃gs,P.underlying t=some (.struct gs)/\qd P 0 dK gs.toList/\P.stoodInHeld t=false/\P.eqGuardType P.depth t=false:=by
 unfold Dy at h;split at h
 ·rename_i aL;obtain⟨d,hu,aF⟩:=hq aD aL;have aE:=(tC aD aL).cmp d hu;cases d<;>simp[k8]at aF;rename_i gs;subst aF;obtain⟨i1,i2⟩:=Nk aD dK gs.toList 0 h;have Bf:Nl P gs=true:=i1;simp only[Gy,Bf,Bool.not_true,Bool.false_or,Mr,bM,q0,jy,bne_iff_ne,ne_eq]at aE;exact⟨gs,hu,i2 aE.1.1,aE.1.2,aE.2⟩
 ·cases h
theorem MU{P:bK}{w:World}{ν:aP}{t:fI}{gs:Array Field}{dK:List Bool}(hu:P.underlying t=some (.struct gs))(aR:qd P 0 dK gs.toList)(eI:P.stoodInHeld t=false){as eF:List ae}{X Y:Array Value}(I:cl w ν as X.toList)(J:cl w ν eF Y.toList){q:Bool}(h:kp dK as eF=some q):
  (Op.equalIn 10000 t (.agg X) (.agg Y)).run P w= .ok q w/\(q=true->X=Y)/\∀m,(X.toList.zip X.toList).all (fun(x,y)=>Instr.sameBits m x y)=true:=by
 have aL:P.fieldsOf t=gs:=by simp[Program.fieldsOf,hu]
 obtain⟨i1,i2,i3⟩:=TX 9998 dK gs.toList 0 as eF _ _ q aR rfl rfl I J h;refine⟨?_,fun e=>?_,?_⟩
 ·rw[run_equalIn_struct w 9999 t X Y (by rw[aL];exact hu) eI,aL];exact i1
 ·have:=i2 e;simpa using this
 ·simpa using i3
inductive tI (P:bK):jO->fI->Prop
 |i {t:fI} {k:IntKind}:P.underlying t=some (.int k)->tI P .i t
 |s {t:fI}:P.underlying t=some .string->tI P .s t
 |a {t:fI} {dK:List Bool} {gs:Array Field}:P.underlying t=some (.struct gs)->qd P 0 dK gs.toList->P.stoodInHeld t=false->tI P (.a dK) t
theorem Iw{P:bK}{aZ:List (Nat×cJ)}(aD:ez P aZ=true){bT:jO}{t:Nat}(h:xL aZ bT t=true):tI P bT t:=by
 cases bT with
 |i=>
  simp only[xL]at h;split at h
  ·rename_i aL;obtain⟨d,hu,aF⟩:=hq aD aL;obtain rfl:=AM aF;exact .i hu
  ·cases h
 |s=>
  simp only[xL]at h;split at h
  ·rename_i aL;obtain⟨d,hu,aF⟩:=hq aD aL;obtain rfl:=vm aF;exact .s hu
  ·cases h
 |a dK=>obtain⟨gs,I,J,ao,_⟩:=Nn aD h;exact .a I J ao
def sJ(P:bK)(w:World)(bT:jO)(t:fI)(gU u:Value)(b:Bool):Prop:=match bT with
 | .a _=>(Op.equal t gU u).run P w= .ok b w
 |_=> ∀d,P.underlying t=some d->Instr.sameNow d gU u=some b
def hR(P:bK)(w:World)(bT:jO)(t:fI)(gU:Value)(es:List MapEntry)(i:Nat)(r:aT (Nat×Value)):Prop:=match bT with
 | .a _=>(Instr.findAsking t gU es i).run P w= .ok r w
 |_=> ∀d,P.underlying t=some d->Instr.findNow d gU es i=some r
theorem hR.nil(P:bK)(w:World)(bT:jO)(t:fI)(gU:Value)(i:Nat):hR P w bT t gU [] i none:=by cases bT<;>simp[hR,Instr.findAsking,Instr.findNow]
theorem hR.hit{P:bK}{w:World}{bT:jO}{t:fI}{gU:Value}{e:MapEntry}{es:List MapEntry}{i:Nat}(h:sJ P w bT t gU e.key true):hR P w bT t gU (e::es) i (some (i,e.val)):=by
 cases bT with
 |a dK=>simp only[sJ]at h;simp[hR,Instr.findAsking,h]
 |i=>simp only[sJ]at h;simp only[hR];intro d aF;simp[Instr.findNow,h d aF]
 |s=>simp only[sJ]at h;simp only[hR];intro d aF;simp[Instr.findNow,h d aF]
theorem hR.miss{P:bK}{w:World}{bT:jO}{t:fI}{gU:Value}{e:MapEntry}{es:List MapEntry}{i:Nat}{r:aT (Nat×Value)}(h:sJ P w bT t gU e.key false)(hr:hR P w bT t gU es (i+1) r):hR P w bT t gU (e::es) i r:=by
 cases bT with
 |a dK=>simp only[sJ]at h;simp only[hR]at hr;simp[hR,Instr.findAsking,h,hr]
 |i=>simp only[sJ]at h;simp only[hR]at hr⊢;intro d aF;simp[Instr.findNow,h d aF,hr d aF]
 |s=>simp only[sJ]at h;simp only[hR]at hr⊢;intro d aF;simp[Instr.findNow,h d aF,hr d aF]
theorem hR.run{P:bK}{w:World}{bT:jO}{t:fI}(aF:tI P bT t){gU:Value}{es:List MapEntry}{r:aT (Nat×Value)}(h:hR P w bT t gU es 0 r):(Instr.findKey t gU es).run P w= .ok r w:=by
 cases aF with
 |i hu=>simp only[hR]at h;simp[Instr.findKey,run_underlying hu,h _ hu]
 |s hu=>simp only[hR]at h;simp[Instr.findKey,run_underlying hu,h _ hu]
 |a hu aR eI=>
  simp only[hR]at h;cases es with
  |nil=>simp[Instr.findAsking]at h;simp[Instr.findKey,run_underlying hu,Instr.findNow,h]
  |cons e es=>
   rename_i gs;have:Instr.sameNow (.struct gs) gU e.key=none:=by cases gU<;>rfl
   simp only[Instr.findKey,e2,run_underlying hu,e4,Instr.findNow,this];exact h
theorem PN{P:bK}{w:World}{ν:aP}{bT:jO}{t:fI}(aF:tI P bT t){k bb:ae}{gU u:Value}(aa:aH w ν k gU)(I:aH w ν bb u){ia:Bool}(ah:uE bT k bb=some ia):
  sJ P w bT t gU u ia/\(ia=true->u=gU/\Instr.sameBits 10000 u gU=true):=by
 unfold uE at ah;split at ah
 ·split at ah
  ·rename_i iJ;subst iJ;simp only[aH]at aa I;subst aa;subst I;cases aF with
   |i hu=>refine⟨fun d aF=>by rw[hu]at aF;cases aF;simpa[Instr.sameNow]using ah,fun e=>?_⟩;subst e;simp only[dZ,ej]at ah;subst ah;exact⟨rfl,by simp[Instr.sameBits]⟩
  ·cases ah
 ·rename_i a b;simp only[aH]at aa I;obtain⟨rfl,_⟩:=aa;obtain⟨rfl,_⟩:=I;cases aF with
  |s hu=>
   refine⟨fun d aF=>?_,fun e=>?_⟩
   ·rw[hu]at aF;cases aF;simp only[Instr.sameNow];rw[<-ah];congr 1;rw[Bool.eq_iff_iff,MapKept.bytes_beq];simp
   ·subst e;simp only[dZ,ej]at ah;subst ah;exact⟨rfl,by simp only[Instr.sameBits];exact(MapKept.bytes_beq _ _).2 rfl⟩
 ·simp only[aH]at aa I;obtain⟨X,rfl,aa⟩:=aa;obtain⟨Y,rfl,I⟩:=I;cases aF with
  |a hu aR eI=>obtain⟨i1,i2,i3⟩:=MU hu aR eI aa I ah;refine⟨by simpa[sJ,Op.equal,Op.maxDepth]using i1,fun e=>?_⟩;have:=i2 e;subst this;exact⟨rfl,by simp[Instr.sameBits,i3]⟩
 ·cases ah
theorem IW{P:bK}{w:World}{ν:aP}{bT:jO}{t:fI}(aF:tI P bT t){k:ae}{gU:Value}(aa:aH w ν k gU):∀(borns:List Nat) (kvs:List ae) (us:List Value) (i:Nat) (r:aT ae),cc w ν kvs us->kvs.length=2*borns.length->tf bT k kvs=some r->
  match r with
  |none=>hR P w bT t gU (fw borns us) i none
  |some v=> ∃j u,hR P w bT t gU (fw borns us) i (some (j,u))/\aH w ν v u
 |[],[],us,i,r,h,_,hm=>by simp only[tf]at hm;cases hm;simp only[cc]at h;subst h;simpa[fw]using hR.nil P w bT t gU i
 |[],_::_,_,_,_,_,aG,_=>by simp at aG
 |b::eF,[],_,_,_,_,aG,_=>by simp at aG
 |b::eF,[_],_,_,_,_,aG,_=>by simp at aG;omega
 |b::eF,bb::v::kvs,us,i,r,h,aG,hm=>by
  simp only[cc]at h;obtain⟨iC,Ku,rfl,I,hX,qV,rfl,J,ao⟩:=h;simp only[tf]at hm;simp only[fw];cases bn:uE bT k bb with
  |none=>simp[bn]at hm
  |some ia=>
   obtain⟨s1,_⟩:=PN aF aa I bn;simp only[bn]at hm;cases ia with
   |true=>simp only[dZ]at hm;subst hm;exact⟨i,hX,hR.hit (e:=⟨iC,hX,b⟩) s1,J⟩
   |false=>
    simp only at hm;have bo:=IW aF aa eF kvs qV (i+1) r ao (by simp at aG;omega) hm;cases r with
    |none=>exact hR.miss (e:=⟨iC,hX,b⟩) s1 bo
    |some v'=>obtain⟨j,u,g1,g2⟩:=bo;exact⟨j,u,hR.miss (e:=⟨iC,hX,b⟩) s1 g1,g2⟩
theorem Gt{P:bK}{w:World}{t:Nat}{d:TypeDesc}(hu:P.underlying t=some d)(aF:(∃k,d= .int k)\/d= .string)(e:Bool)(n:Nat)(v:Value):(Instr.checkKey e (n+1) t v).run P w= .ok () w:=by unfold Instr.checkKey;rcases aF with⟨k,rfl⟩|rfl<;>simp[run_underlying hu]
theorem WU{P:bK}{w:World}{ν:aP}{X:Array Value}(dK:List Bool):∀(gs:List Field) (n:Nat) (as:List ae),qd P n dK gs->cl w ν as (X.toList.drop n)->(kp dK as as).isSome=true->
  ∀f∈gs,(∃v,(part f.type X f.offset).run P w= .ok v w)/\∃d,P.underlying f.type=some d/\((∃k,d= .int k)\/d= .string):=by
 induction dK with
 |nil=>intro gs n as aR _ _ f aL;cases gs<;>simp only[qd]at aR;cases aL
 |cons xe r bo=>
  intro gs n as aR hr aE f aL;cases gs with
  |nil=>cases aL
  |cons g gs=>
  simp only[qd]at aR;obtain⟨⟨D8,ft,lL⟩,aR⟩:=aR;cases as with
  |nil=>cases xe<;>simp[kp]at aE
  |cons p as=>
  have kK:(kp r as as).isSome=true:=by cases xe<;>cases p<;>simp[kp]at aE⊢ <;>exact aE
  simp only[cl]at hr;obtain⟨u,br,e,_,bW⟩:=hr;have aJ:X.toList.drop (n+1)=br:=by rw[<-List.tail_drop,e];rfl
  have B6:X[n]? =some u:=by rw[<-Array.getElem?_toList,<-List.head?_drop,e];rfl
  rcases gp.1 aL with rfl|aL
  ·refine⟨⟨u,by rw[D8];exact run_part_plain w (B9 lL) B6⟩,?_⟩;cases xe
   ·obtain⟨k,h⟩:=(by simpa using lL:∃k,P.underlying f.type=some (.int k));exact⟨_,h,.inl ⟨k,rfl⟩⟩
   ·exact⟨_,by simpa using lL,.inr rfl⟩
  ·exact bo gs (n+1) as aR (by rw[aJ];exact bW) kK f aL
theorem Ns{P:bK}{w:World}{α:Type}(body:α->PUnit->Sem (ForInStep PUnit)):∀(l:List α),(∀f∈l,(body f ⟨⟩).run P w= .ok (.yield ⟨⟩) w)->(forIn l PUnit.unit body).run P w= .ok PUnit.unit w
 |[],_=>by simp
 |f::l,h=>by simp only[List.forIn_cons,e2,h f Ψ,e4];exact Ns body l fun g aR=>h g (by simp[aR])
theorem JV{P:bK}{w:World}{ν:aP}{bT:jO}{t:Nat}(aF:tI P bT t)(e:Bool){k:ae}{v:Value}(aa:aH w ν k v)(az:xK bT k=true):(Instr.checkKey e 10000 t v).run P w= .ok () w:=by
 cases aF with
 |i hu=>exact Gt hu (.inl ⟨_,rfl⟩) e 9999 v
 |s hu=>exact Gt hu (.inr rfl) e 9999 v
 |a hu aR eI=>
  rename_i dK gs;cases k<;>simp only[xK,kk]at az;rename_i as;simp only[aH]at aa;obtain⟨X,rfl,aa⟩:=aa;unfold Instr.checkKey;simp only[e2,run_underlying hu,e4];rw[<-Array.forIn_toList];rw[Ns]
  ·simp
  ·intro f aL;obtain⟨⟨v,I⟩,d,J,ao⟩:=WU dK gs.toList 0 as aR (by simpa using aa) az f aL;have aO:=Gt (w:=w) J ao e 9998 v;by_cases aK:f.name= "_"
   ·simp[aK]
   ·simp[aK,I,aO]
theorem Qc{w:World}{ν:aP}{n:Nat}:∀(borns:List Nat) (kvs:List ae) (us:List Value) (p:ae),cc w ν kvs us->oo n borns kvs=some p->∃e,(fw borns us).find? (·.born==n)=some e/\aH w ν p (.tuple #[e.key,e.val])
 |[],_,_,_,_,hm=>by simp[oo]at hm
 |_::_,[],_,_,_,hm=>by simp[oo]at hm
 |_::_,[_],_,_,_,hm=>by simp[oo]at hm
 |b::eF,k::v::kvs,us,p,h,hm=>by
  simp only[cc]at h;obtain⟨iC,Ku,rfl,I,hX,qV,rfl,J,ao⟩:=h;simp only[oo]at hm;simp only[fw];by_cases e:b=n
  ·rw[if_pos e]at hm;cases hm;refine⟨⟨iC,hX,b⟩,by simp[List.find?,e],?_⟩;simp only[aH];exact⟨#[iC,hX],rfl,by simp only[cc];exact⟨_,_,rfl,I,_,_,rfl,J,rfl⟩⟩
  ·rw[bq e]at hm;obtain⟨x,g1,g2⟩:=Qc eF kvs qV p ao hm;have XZ:(b==n)=false:=by simpa using e
   exact⟨x,by simp[List.find?,XZ,g1],g2⟩
theorem SH{P:bK}{aZ:List (Nat×cJ)}(aD:ez P aZ=true){C:ek}{st:aS}{a:Act}{w:World}{ν:aP}(hr:bX C st a w ν){i:fO}(XY:∀bT z ok x k,i≠ .mgetB bT z ok x k){o:Oper}(ak:CJ aZ i o.op=true)
  {c:Prop} {p:ae} (he:gz st i=some (c,p)) (aE:c):∃v,(execOp a.eval o).run P w= .ok (.value v) w/\aH w ν p v:=by
 obtain⟨dst,op,type,pos,after,guard⟩:=o;simp only at ak;unfold CJ at ak;split at ak
 ·rename_i x o;simp only[gz]at he;cases he;exact⟨_,rfl,ee hr ak⟩
 ·rename_i x o;simp only[gz]at he;cases he;exact⟨_,rfl,ee hr ak⟩
 ·rename_i hh x y afE wP y';simp only[bM]at ak;have I:=ee hr ak.1.1;have J:=ee hr ak.1.2;have ao:=ee hr ak.2;simp only[gz,E0]at he;split at he
  ·rename_i b ah;rw[ah]at I;simp only[aH]at I;split at he
   ·rename_i u v hu aM;cases he;rw[hu]at J;rw[aM]at ao;simp only[aH]at J ao;refine⟨.bool (cond b u v),?_,by simp[aH]⟩;simp only[execOp,I,J,ao,asBool,e2,fH,e4];cases b<;>rfl
   ·split at he
    ·cases he;exact⟨_,by simp only[execOp,I,asBool,e2,fH,e4,if_true],J⟩
    ·cases he;exact⟨_,by simp only[execOp,I,asBool,e2,fH,e4,kk,if_false],ao⟩
  ·cases he
 ·rename_i agg sz x t o;simp only[bM]at ak;obtain⟨I,J⟩:=ak;split at I
  ·rename_i f aL;simp only[bM,ej]at I;obtain⟨rfl,rfl⟩:=I;obtain⟨v,g1,g2⟩:=Ez aD hr.good aL (ee hr J) (by simpa only[gz]using he) aE;exact⟨v,j1 g1,g2⟩
  ·cases I
 ·rename_i off agg sz x s o i;simp only[bM]at ak;obtain⟨I,J⟩:=ak;split at I
  ·rename_i f aL;split at I
   ·rename_i wg t Be;simp only[bM,ej]at I;obtain⟨rfl,I⟩:=I;split at I
    ·rename_i g aR;simp only[bM,ej,bne_iff_ne,ne_eq]at I;obtain⟨⟨rfl,rfl⟩,bL⟩:=I;obtain⟨v,g1,g2⟩:=WM aD aL rfl Be aR bL (ee hr J) (by simpa only[gz]using he) aE;exact⟨v,j1 g1,g2⟩
    ·cases I
   ·cases I
  ·cases I
 ·rename_i off agg sz x s o i;simp only[bM]at ak;obtain⟨I,J⟩:=ak;split at I
  ·rename_i f aL;split at I
   ·rename_i wg t Be;simp only[bM,ej]at I;obtain⟨rfl,I⟩:=I;split at I
    ·rename_i g aR;simp only[bM,ej]at I;obtain⟨rfl,rfl⟩:=I;obtain⟨v,g1,g2⟩:=WV aD aL rfl Be aR (ee hr J) (by simpa only[gz]using he) aE;exact⟨v,j1 g1,g2⟩
    ·cases I
   ·cases I
  ·cases I
 ·rename_i sz x i t o j;simp only[bM]at ak;obtain⟨⟨I,J⟩,ao⟩:=ak;split at I
  ·rename_i e aL;split at I
   ·rename_i g aR;simp only[ej]at I;subst I;obtain⟨v,g1,g2⟩:=ZG aD aL rfl aR (ee hr J) (ee hr ao) (by simpa only[gz]using he) aE;exact⟨v,j1 g1,g2⟩
   ·cases I
  ·cases I
 ·rename_i x i t o j;simp only[bM]at ak;obtain⟨⟨I,J⟩,ao⟩:=ak;split at I
  ·rename_i aL;obtain⟨d,aF,e8⟩:=hq aD aL;obtain rfl:=vm e8;have aj:=ee hr J;have aJ:=ee hr ao;simp only[gz,FA]at he;split at he
   ·rename_i s k n aq aK;cases he;rw[aq]at aj;rw[aK]at aJ;simp only[aH]at aj aJ;obtain⟨uf,jS⟩:=aE;have bS:n.toNat<s.length:=Ω
    have Ou:(⟨s.toArray⟩:jL)[n.toNat]? =some (s.getD n.toNat 0):=by exact Xq s n.toNat bS
    refine⟨_,j1 (v:= .int .u8 (s.getD n.toNat 0).toNat) ?_,by simp[aH]⟩;simp only[Instr.index,aJ,asIntOf,aj.1,e2,fH,e4,run_underlying aF,uf,if_true,Ou]
   ·cases he
  ·cases I
 ·rename_i x lo az t o l h;simp only[bM]at ak;obtain⟨⟨⟨I,J⟩,ao⟩,aO⟩:=ak;split at I
  ·rename_i aL;obtain⟨d,aF,e8⟩:=hq aD aL;obtain rfl:=vm e8;have aj:=ee hr J;simp only[gz,FC]at he;split at he
   ·rename_i s aq;rw[aq]at aj;simp only[aH]at aj;split at he
    ·rename_i pQ bI aG Hw;cases he;obtain⟨cN,c2,c3⟩:=aE;have cI:=EX hr ao aG;have dr:=EX hr aO Hw;refine⟨_,j1 (v:= .string ⟨((s.take bI.toNat).drop pQ.toNat).toArray⟩) ?_,?_⟩
     ·have ah:=Lo P w false s.length s.length (l.map a.eval) (h.map a.eval) pQ bI
       cI dr cN c2 c3 (cq _)
      simp only[Instr.sliceAt,Instr.slice,aj.1,e2,fH,e4,run_underlying aF,tG,sD,kk,if_false,Cv,ah,V2]
     ·simp only[aH];refine⟨trivial,?_⟩;have:=aj.2;simp only[hg,pe];omega
    ·cases he
   ·cases he
  ·cases I
 ·rename_i sz x lo az t o l h;simp only[bM]at ak;obtain⟨⟨⟨I,J⟩,ao⟩,aO⟩:=ak;split at I
  ·rename_i e aL;split at I
   ·rename_i g aR;simp only[ej]at I;subst I;obtain⟨d,aF,e8⟩:=hq aD aL;obtain rfl:=qs e8;obtain⟨_,dq⟩:=uZ aD aR w;have aj:=ee hr J;simp only[gz,EB]at he;split at he
    ·rename_i dn tag xs aq;split at he
     ·rename_i e0;subst e0;rw[aq]at aj;simp only[aH]at aj;obtain⟨⟨lA,cap,aM,cb,cn,gd⟩,_⟩:=aj;split at he
      ·rename_i pQ bI aG Hw;cases he;obtain⟨cN,c2,c3⟩:=aE;have cI:=EX hr ao aG;have dr:=EX hr aO Hw;have ah:=Lo P w true xs.length cap (l.map a.eval) (h.map a.eval) pQ bI
        cI dr cN c2 c3 cb
       refine⟨_,j1 (v:= .slice (if cap=pQ.toNat then lA else lA.map (·.add (pQ.toNat*g.size))) (bI.toNat-pQ.toNat) (cap-pQ.toNat)) ?_,?_⟩
       ·simp only[Instr.sliceAt,Instr.slice,aM,e2,fH,e4,run_underlying aF,tG,ah,dq]
       ·simp only[aH];have hlen:((xs.take bI.toNat).drop pQ.toNat).length=bI.toNat-pQ.toNat:=by simp;omega
        refine⟨⟨_,_,by rw[hlen],by rw[hlen];omega,⟨Ω,by rw[hlen];omega⟩,?_⟩,(fun h=>by cases h),(fun g h=>by cases h),(fun _ _ h=>by cases h),(fun _ h=>by cases h)⟩;rcases gd with rfl|⟨b,off,us,rfl,g1,g2⟩
        ·left;simp
        ·by_cases sX:cap=pQ.toNat
         ·left;apply q1;rw[hlen];omega
         ·right;rw[bq sX];refine⟨b,off+pQ.toNat*g.size,(us.take (bI.toNat*g.size)).drop (pQ.toNat*g.size),by simp[nU],Eu _ (Ev _ g1),RA _ (RE _ g2)⟩
      ·cases he
     ·cases he
    ·cases he
   ·cases I
  ·cases I
 ·rename_i op wr x y QR ty o o' Sy;simp only[bM,fK]at ak;obtain⟨⟨rfl,I⟩,J⟩:=ak;obtain⟨r,g1,g2⟩:=TL P w ν (by simpa only[gz]using he) aE ty (ee hr I) (ee hr J) o o';exact⟨r,j1 g1,g2⟩
 ·rename_i x op ty o;simp only[bM,fK]at ak;obtain⟨rfl,I⟩:=ak;have aj:=ee hr I;simp only[gz]at he;unfold EO at he;split at he
  ·rename_i b ah;cases he;rw[ah]at aj;simp only[aH]at aj;exact⟨_,j1 (v:= .bool (!b)) (by simp[Op.unary,aj]),by simp[aH]⟩
  ·cases he
 ·rename_i x op ty o;simp only[bM,fK]at ak;obtain⟨rfl,I⟩:=ak;have aj:=ee hr I;simp only[gz]at he;unfold EJ at he;split at he
  ·rename_i k n ah;cases he;rw[ah]at aj;simp only[aH]at aj;exact⟨_,j1 (v:= .int k (k.wrap (0-n))) (by simp[Op.unary,aj,Op.intArith]),by simp[aH]⟩
  ·cases he
 ·rename_i k x s d o;simp only[bM]at ak;obtain⟨I,J⟩:=ak;split at I
  ·rename_i cI dr lH iL;simp only[fK]at I;subst I;obtain⟨d1,j6,Ho⟩:=hq aD lH;obtain rfl:=AM Ho;obtain⟨d2,hU,Hp⟩:=hq aD iL;obtain rfl:=AM Hp;have aj:=ee hr J;simp only[gz]at he;unfold Da at he;split at he
   ·rename_i bb n ah;cases he;rw[ah]at aj;simp only[aH]at aj;exact⟨_,j1 (v:= .int k (k.wrap n)) (by simp[convert,aj,run_underlying j6,run_underlying hU,Conv.intToInt]),by simp[aH]⟩
   ·cases he
  ·cases I
 ·rename_i i x o j;simp only[bM,ej]at ak;obtain⟨rfl,I⟩:=ak;have aj:=ee hr I;simp only[gz]at he;unfold Ds at he;split at he
  ·rename_i vs ah;simp only[ij]at he;obtain⟨q,bn,he⟩:=he;cases he;rw[ah]at aj;simp only[aH]at aj;obtain⟨us,hu,J⟩:=aj;obtain⟨v,g1,g2⟩:=zR i J bn;have W3:us[i]? =some v:=by simpa using g1
   exact⟨v,j1 (by simp[Instr.extract,hu,W3]),g2⟩
  ·cases he
 ·rename_i x o t;simp only[bM]at ak;obtain⟨I,J⟩:=ak;have aj:=ee hr J;simp only[gz]at he;unfold zo at he;split at he
  ·rename_i sz tag xs ah;cases he;rw[ah]at aj;simp only[aH]at aj;obtain⟨⟨lA,cap,aM,_⟩,_⟩:=aj;refine⟨.int .i64 xs.length,?_,by simp[aH]⟩;split at I
   ·rename_i aL;obtain⟨d,aF,e8⟩:=hq aD aL;obtain rfl:=qs e8;simp[execOp,resolve,invoke,builtin,Builtin.len_,run_underlying aF,aM,goInt]
   ·cases I
  ·rename_i sz k n ah;cases he;rw[ah]at aj;simp only[aH]at aj;obtain⟨⟨lA,cap,aM⟩,_⟩:=aj;refine⟨.int .i64 n,?_,by simp[aH]⟩;split at I
   ·rename_i aL;obtain⟨d,aF,e8⟩:=hq aD aL;obtain rfl:=qs e8;simp[execOp,resolve,invoke,builtin,Builtin.len_,run_underlying aF,aM,goInt]
   ·cases I
  ·rename_i lA n cap ah;cases he;rw[ah]at aj;simp only[aH]at aj;refine⟨.int .i64 n,?_,by simp[aH]⟩;split at I
   ·rename_i aL;obtain⟨d,aF,e8⟩:=hq aD aL;obtain rfl:=qs e8;simp[execOp,resolve,invoke,builtin,Builtin.len_,run_underlying aF,aj,goInt]
   ·cases I
  ·cases he
 ·rename_i x o t;simp only[bM]at ak;obtain⟨I,J⟩:=ak;have aj:=ee hr J;simp only[gz]at he;unfold Cw at he;split at he
  ·rename_i s ah;cases he;rw[ah]at aj;simp only[aH]at aj;refine⟨.int .i64 s.length,?_,by simp[aH]⟩;split at I
   ·rename_i aL;obtain⟨d,aF,e8⟩:=hq aD aL;obtain rfl:=vm e8;simp[execOp,resolve,invoke,builtin,Builtin.len_,run_underlying aF,aj.1,goInt,Cv]
   ·cases I
  ·rename_i s ah;cases he;rw[ah]at aj;simp only[aH]at aj;refine⟨.int .i64 s.size,?_,by simp[aH]⟩;split at I
   ·rename_i aL;obtain⟨d,aF,e8⟩:=hq aD aL;obtain rfl:=vm e8;simp[execOp,resolve,invoke,builtin,Builtin.len_,run_underlying aF,aj,goInt]
   ·cases I
  ·cases he
 ·rename_i zero parts t a6;split at ak
  ·rename_i dK z aL;simp only[bM]at ak;obtain⟨⟨I,J⟩,ao⟩:=ak;obtain⟨dY,de,ZF⟩:=aeO I;obtain⟨i,d,aeK,aj,aJ,bs,ch,fa,dd,l9,n4⟩:=(tC aD aL).ex;obtain⟨gs,rfl,gg⟩:=GG fa;simp only at de l9 n4;subst de;have k9:(gs.toList.all fun f=>(dO aZ f.type).isSome)=true:=by rw[<-gg]at J;simpa[List.all_map,Function.comp_def]using J
   obtain⟨places,hD,fN⟩:=QW aD gs.toList k9;rw[gg]at fN;cases aeK<;>simp only[yk]at l9;case agg us=>
    simp only[gz]at he;cases ah:tQ st.t zero parts with
    |none=>simp[ah]at he
    |some x=>obtain⟨hh,cs'⟩:=x;simp only[ah,kF]at he;cases he;obtain⟨br,g1,g2⟩:=RW hr fN parts a6.toList zero us c cs' ao (Ta ZF (KP w ν _ _ l9)) ah aE;refine⟨.agg br,j1 (run_build w t _ br ?_),by simp only[aH];exact⟨br,rfl,g2⟩⟩;simp only[Program.built,aj,aJ,dd,hD,oF];simpa using g1
   all_goals cases l9
  ·cases ak
 ·rename_i x o;have aj:=ee hr ak;simp only[gz]at he;unfold zu at he;split at he
  ·rename_i k off ah;cases he;rw[ah]at aj;have aJ:=aj;simp only[aH]at aj;obtain⟨b,_,aM⟩:=aj;exact⟨a.eval o,by simp[execOp,aM],aJ⟩
  ·rename_i q ah;cases he;rw[ah]at aj;have aJ:=aj;simp only[aH]at aj;obtain⟨b,off,u,aM,_⟩:=aj;exact⟨a.eval o,by simp[execOp,aM],aJ⟩
  ·rename_i f cs ah;cases he;rw[ah]at aj;have aJ:=aj;simp only[aH]at aj;obtain⟨us,aM,_⟩:=aj;have s7:a.eval o= .func (.func f) #[] us\/a.eval o= .func (.func (u3 f)) us #[]:=by rw[aM];unfold sR;split;exact .inl rfl;exact .inr rfl
   exact⟨a.eval o,by rcases s7 with s7|s7<;>simp[execOp,s7],aJ⟩
  ·cases he
 ·rename_i x y o o' t t';simp only[bM]at ak;have aj:=ee hr ak.1;have aJ:=ee hr ak.2;simp only[gz]at he;unfold EE at he;split at he
  ·rename_i k m bb n hm aK;split at he
   ·rename_i aa;subst aa;cases he;rw[hm]at aj;rw[aK]at aJ;simp only[aH]at aj aJ;exact⟨.int k (if n<m then n else m),by simp[execOp,resolve,invoke,builtin,Builtin.min_,Builtin.min2,aj,aJ],by simp[aH]⟩
   ·cases he
  ·cases he
 ·rename_i n xs m os;simp only[bM,fK]at ak;obtain⟨⟨rfl,aK⟩,ak⟩:=ak;simp only[gz]at he;cases he;have iH:=xZ hr ak;refine⟨.func (.func n) #[] (os.map a.eval),by simp[execOp,Instr.makeFunc],?_⟩;simp only[aH];exact⟨os.map a.eval,by simp[sR,aK],by simpa using iH⟩
 ·rename_i n xs m eF _;simp only[bM,fK]at ak;obtain⟨rfl,ak⟩:=ak;simp only[gz]at he;cases he;have iH:=xZ hr ak;refine⟨.func (.func m) (eF.map a.eval) #[],by simp[execOp,Instr.makeFunc],?_⟩;simp only[aH];exact⟨eF.map a.eval,(WW m _).symm,by simpa using iH⟩
 ·rename_i bT zero ok x k t o o' EP;simp only[bM,ej]at ak;obtain⟨⟨⟨rfl,I⟩,J⟩,ao⟩:=ak;have aj:=ee hr J;have aJ:=ee hr ao;split at I
  ·rename_i sz kG dH oM z aL;simp only[bM]at I;obtain⟨YM,Hs⟩:=I;split at Hs
   ·rename_i agp xr;have de:=KR Hs;obtain⟨fV,hu,e8⟩:=hq aD aL;have fL:fV= .map dH oM:=by cases fV<;>simp[k8]at e8;obtain⟨rfl,rfl⟩:=e8;rfl
    subst fL;obtain⟨bk,KM,z2,_⟩:=Ki aD xr w;rw[<-de]at z2;have ag:=(KQ w ν z2).1;have lG:=Iw aD YM;simp only[gz]at he;unfold o2 at he;split at he
    ·rename_i key af;rw[af]at aj;simp only[aH]at aj;obtain⟨bl,cb,cn⟩:=aj;split at he
     ·rename_i clock borns kvs ha;obtain⟨gH,us,el,g1,g2,g3,g4,g5⟩:=hr.good.box key _ ha;rw[cb]at g1;cases g1;simp only[ix]at g4;simp only[hM]at g5;have mK:(getObj bl).run P w= .ok (.map (fw borns us.toList).toArray clock) w:=uX g4;split at he
      ·cases he
      rename_i fe;have vF:=JV (P:=P) (w:=w) lG ((fw borns us.toList).toArray.isEmpty) aJ (by simpa using fe);split at he
      ·rename_i v hm;cases he;obtain⟨j,u,f1,f2⟩:=IW lG aJ borns kvs us.toList 0 _ g5.1 g5.2.len hm;refine⟨if ok then .tuple #[u,.bool true]else u,?_,?_⟩
       ·simp only[execOp];refine j1 ?_;simp only[Instr.lookup,e2,run_underlying hu,e4,cn,mK,fH,vF,f1.run lG]
       ·cases ok
        ·simpa using f2
        ·simp only[if_true,aH];exact⟨_,rfl,by simp only[cc];exact⟨_,_,rfl,f2,_,_,rfl,by simp[aH],rfl⟩⟩
      ·rename_i hm;cases he;have f1:=IW lG aJ borns kvs us.toList 0 _ g5.1 g5.2.len hm;simp only at f1;refine⟨if ok then .tuple #[bk,.bool false]else bk,?_,?_⟩
       ·simp only[execOp];refine j1 ?_;simp only[Instr.lookup,e2,run_underlying hu,e4,cn,mK,fH,vF,f1.run lG,KM]
       ·cases ok
        ·simpa using ag
        ·simp only[if_true,aH];exact⟨_,rfl,by simp only[cc];exact⟨_,_,rfl,ag,_,_,rfl,by simp[aH],rfl⟩⟩
      ·cases he
     ·cases he
    ·cases he
   ·cases Hs
  ·cases I
 ·rename_i x o;have aj:=ee hr ak;simp only[gz]at he;unfold te at he;split at he
  ·rename_i hc af;rw[af]at aj;simp only[aH]at aj;obtain⟨bl,cb,cn⟩:=aj;split at he
   ·rename_i since seen last mk ha;obtain⟨gH,us,el,g1,g2,g3,g4,g5⟩:=hr.good.box hc _ ha;rw[cb]at g1;cases g1;simp only[ix]at g4;simp only[hM,cc,aH]at g5;obtain⟨u,br,lh,⟨pR,m1,rfl⟩,rfl⟩:=g5;rw[lh]at g4;simp only at g4;split at he
    ·rename_i clock borns kvs YW;obtain⟨TM,qV,UT,cI,dr,gM,jF,qD⟩:=hr.good.box mk _ YW;rw[m1]at cI;cases cI;simp only[ix]at jF;simp only[hM]at qD;split at he
     ·rename_i n aK;simp only[ij]at he;obtain⟨q,bn,he⟩:=he;cases he;obtain⟨e,f1,f2⟩:=Qc borns kvs qV.toList p qD.1 bn;refine⟨.tuple #[e.key,e.val],?_,f2⟩;simp only[execOp];refine j1 ?_;have Yy:(getObj bl).run P w= .ok (.mapIter (some pR) since seen.toArray last) w:=uX g4;have Yz:(getObj pR).run P w= .ok (.map (fw borns qV.toList).toArray clock) w:=uX jF;have sW:seen.toArray.back? =some n:=by simpa using aK
      have vG:(clock !=last)=false:=by simp[aE]
      have Yr:(fw borns qV.toList).toArray.find? (·.born==n)=some e:=by simpa using f1
      simp only[Instr.entry,cn,e2,Yy,e4,sW,Yz,vG,kk,if_false,Yr,fH]
     ·cases he
    ·cases he
   ·cases he
  ·cases he
 ·rename_i x o t;simp only[bM]at ak;obtain⟨I,J⟩:=ak;have aj:=ee hr J;simp only[gz]at he;unfold uJ at he;split at he
  ·rename_i key ah;rw[ah]at aj;simp only[aH]at aj;obtain⟨bl,cb,cn⟩:=aj;split at he
   ·rename_i clock borns kvs ha;cases he;obtain⟨gH,us,el,g1,g2,g3,g4,g5⟩:=hr.good.box key _ ha;rw[cb]at g1;cases g1;simp only[ix]at g4;simp only[hM]at g5;have mK:(getObj bl).run P w= .ok (.map (fw borns us.toList).toArray clock) w:=uX g4;have hlen:(fw borns us.toList).length=borns.length:=MS g5.2.len (RJ g5.1);refine⟨.int .i64 borns.length,?_,by simp[aH]⟩;split at I
    ·rename_i aL;obtain⟨d,aF,e8⟩:=hq aD aL;obtain⟨dH,oM,rfl⟩:∃dH oM,d= .map dH oM:=by cases d<;>simp[k8]at e8;exact⟨_,_,rfl⟩
     simp[execOp,resolve,invoke,builtin,Builtin.len_,run_underlying aF,cn,goInt,mK,hlen]
    ·cases I
   ·cases he
  ·cases he
 ·rename_i neg dK x y op t o o' Sy;simp only[bM,fK]at ak;obtain⟨⟨⟨rfl,bL⟩,I⟩,J⟩:=ak;have aj:=ee hr I;have aJ:=ee hr J;simp only[gz]at he;unfold CX at he;split at he
  ·rename_i bU fY bF ah;simp only at bL;cases he;rw[bF]at aj;rw[ah]at aJ;simp only[aH]at aj aJ;split at bL
   ·rename_i aL;obtain⟨d,aF,e8⟩:=hq aD aL;obtain rfl:d= .bool:=by cases d<;>simp[k8]at e8;rfl
    refine⟨.bool (if neg then bU !=fY else bU==fY),j1 ?_,by simp[aH]⟩;cases neg<;>simp[aj,aJ,eqGuard,binOp,U2 aF,bne]
   ·cases bL
  ·rename_i agy as eF bF ah;simp only at bL;simp only[ij]at he;obtain⟨q,bn,he⟩:=he;cases he;rw[bF]at aj;rw[ah]at aJ;simp only[aH]at aj aJ;obtain⟨X,UO,ab3⟩:=aj;obtain⟨Y,UP,ab4⟩:=aJ;obtain⟨gs,hu,aR,eI,im⟩:=Nn aD bL;obtain⟨i1,_,_⟩:=MU hu aR eI ab3 ab4 bn;refine⟨.bool (if neg then !q else q),j1 ?_,by simp[aH]⟩;rw[UO,UP];cases neg
   ·simp only[kk,if_false,e2,run_eqGuard_agg w _ t o o' X Y im,e4,run_eql_struct,i1]
   ·simp only[if_true,e2,run_eqGuard_agg w _ t o o' X Y im,e4,run_neq_struct,i1]
  ·cases he
 ·rename_i x y o o' t t';simp only[bM]at ak;have aj:=ee hr ak.1;have aJ:=ee hr ak.2;simp only[gz]at he;unfold ED at he;split at he
  ·rename_i k m bb n hm aK;split at he
   ·rename_i aa;subst aa;cases he;rw[hm]at aj;rw[aK]at aJ;simp only[aH]at aj aJ;exact⟨.int k (if m<n then n else m),by simp[execOp,resolve,invoke,builtin,Builtin.max_,Builtin.max2,aj,aJ],by simp[aH]⟩
   ·cases he
  ·cases he
 ·rename_i t x t' o;simp only[bM,ej]at ak;obtain⟨⟨rfl,I⟩,J⟩:=ak;have aj:=ee hr J;simp only[gz]at he;cases he;split at I
  ·rename_i aL;obtain⟨d,aF,e8⟩:=hq aD aL;obtain rfl:=qs e8;refine⟨.iface t (a.eval o),j1 (by simp[Instr.makeInterface,run_underlying aF]),?_⟩;simp only[aH];exact⟨_,rfl,aj⟩
  ·cases I
 ·rename_i agg sz x t o;simp only[bM]at ak;obtain⟨I,J⟩:=ak;split at I
  ·rename_i f aL;simp only[bM,ej]at I;obtain⟨rfl,rfl⟩:=I;obtain⟨v,g1,g2⟩:=Ez aD hr.good aL (ee hr J) (aao (by simpa only[gz]using he)) aE;exact⟨v,j1 g1,g2⟩
  ·cases I
 ·rename_i x s d o;simp only[bM]at ak;obtain⟨I,J⟩:=ak;split at I
  ·rename_i e _ _ lH iL;split at I
   ·rename_i Yq;obtain⟨d1,j6,Ho⟩:=hq aD lH;obtain rfl:=qs Ho;obtain⟨d2,hU,Hp⟩:=hq aD iL;obtain rfl:=vm Hp;obtain⟨d3,Yb,Yi⟩:=hq aD Yq;obtain rfl:=AM Yi;have aj:=ee hr J;simp only[gz]at he;unfold CU at he;split at he
    ·rename_i sz tag xs ah;simp only[ij]at he;obtain⟨eF,ud,he⟩:=he;cases he;rw[ah]at aj;simp only[aH]at aj;obtain⟨⟨lA,cap,bR,cA,dE,dM⟩,_⟩:=aj;have aG:=Lr ud;have af:∃ns:List Int,ns.length=xs.length/\eF=ns.map yr/\(xs.length=0\/ ∃b off,lA=some ⟨b,off,none⟩/\jI w ν.A b off (ns.map (nK .u8))):=by
      rcases dM with rfl|⟨b,off,us,hD,fN,o5⟩
      ·simp only[qo,dZ]at ud;exact⟨[],rfl,by rw[<-ud];rfl,.inl rfl⟩
      ·obtain⟨ns,ff,eW,mw⟩:=Ls ud o5;subst ff;exact⟨ns,by simpa using mw,eW,.inr ⟨b,off,hD,fN⟩⟩
     obtain⟨ns,gy,rfl,iR⟩:=af;refine⟨_,j1 (v:= .string ⟨(ns.map yr).toArray⟩) ?_,by simp only[aH];exact⟨trivial,by rw[aG];exact dE.2⟩⟩;rw[bR];simp only[convert,e2,run_underlying j6,run_underlying hU,e4];simp only[run_underlying Yb,e2,e4,TJ gy iR]
    ·cases he
   ·cases I
  ·cases I
 ·rename_i neg x op t o Sy;simp only[bM,fK]at ak;obtain⟨⟨rfl,bL⟩,I⟩:=ak;have aj:=ee hr I;split at bL
  ·rename_i aL;obtain⟨d,aF,e8⟩:=hq aD aL;obtain⟨ms,rfl⟩:∃ms,d= .interface ms:=by cases d<;>simp[k8]at e8;exact⟨_,rfl⟩
   simp only[gz]at he;unfold Ek at he;split at he
   ·rename_i my q bn;cases he;rw[bn]at aj;simp only[aH]at aj;obtain⟨u,aj,_⟩:=aj;refine⟨.bool neg,j1 ?_,by simp[aH]⟩;rw[show a.eval (.const .nilIface)= .nilIface from rfl,aj];cases neg<;>simp[eqGuard,binOp,(Dn (w:=w) aF).1,(Dn (w:=w) aF).2]
   ·rename_i bn;cases he;rw[bn]at aj;simp only[aH]at aj;refine⟨.bool (!neg),j1 ?_,by simp[aH]⟩;rw[show a.eval (.const .nilIface)= .nilIface from rfl,aj];cases neg<;>simp[eqGuard,binOp,(Dn (w:=w) aF).1,(Dn (w:=w) aF).2]
   ·cases he
  ·cases bL
 ·rename_i agg sz x t o;simp only[bM]at ak;obtain⟨I,J⟩:=ak;split at I
  ·rename_i f aL;simp only[bM,ej]at I;obtain⟨rfl,rfl⟩:=I;obtain⟨v,g1,g2⟩:=Ez aD hr.good aL (ee hr J) (W1 (by simpa only[gz]using he)) aE;exact⟨v,j1 g1,g2⟩
  ·cases I
 ·exact absurd rfl (XY _ _ _ _ _)
 ·cases ak
theorem adS{P:bK}{aZ:List (Nat×cJ)}(aD:ez P aZ=true){C:ek}{st:aS}{a:Act}{w:World}{ν:aP}(hr:bX C st a w ν){i:fO}{o:Oper}(ak:CJ aZ i o.op=true)
  {c:Prop} {p:ae} (he:gz st i=some (c,p)) (aE:c):∃v,(execOp a.eval o).run P w= .ok (.value v) w/\aH w ν p v:=by
 by_cases ah:∃bT z ok x k,i= .mgetB bT z ok x k
 ·obtain⟨bT,z,ok,x,k,rfl⟩:=ah;refine SH aD hr (i:= .mget bT z ok x k) (fun _ _ _ _ _ e=>by cases e) ?_ he aE;obtain⟨dst,op,type,pos,after,guard⟩:=o;cases op<;>first|exact ak|simp[CJ]at ak
 ·exact SH aD hr (fun bT z ok x k e=>ah ⟨bT,z,ok,x,k,e⟩) ak he aE
theorem Ml{w:World}{o:Obj}{b i:Nat}(h:b<w.heap.size):(w.alloc o).cell? ⟨b,i,none⟩=w.cell? ⟨b,i,none⟩:=World.cell?_of_block (Below.heap_alloc w o b h)
def aP.withBox(ν:aP)(k:aC)(bl:Nat):aP:={ν with bx:=fun j=>if j=k then some bl else ν.bx j}
def aP.withOwn(ν:aP)(k:aC)(n:Nat)(v:Value):aP:={ν with ow:=fun j=>if j=k then some (n,v)else ν.ow j}
theorem bX.lookNone{C:ek}{st:aS}{a:Act}{w:World}{ν:aP}(h:bX C st a w ν){k:aC}(aa:fresh st.n st.o k):look k st.b=none/\look k st.e=none:=by
 obtain⟨I,J,_⟩:=h.new k aa;constructor
 ·cases ah:look k st.b with
  |none=>rfl
  |some cs=>obtain⟨bl,us,el,g1,_⟩:=h.good.box _ _ ah;rw[I]at g1;cases g1
 ·cases ah:look k st.e with
  |none=>rfl
  |some o=>obtain⟨v,us,g1,_⟩:=h.good.own _ _ ah;rw[J]at g1;cases g1
theorem Good.ownLt{pr:Nat->Prop}{w:World}{ν:aP}{b:List (aC×List ae)}{e:List (aC×cV)}(h:Good pr w ν b e){g:aC}{o:cV}(aR:look g e=some o){n:Nat}{v:Value}(aM:ν.ow g=some (n,v)){bl:Nat}(ah:v.ownBlock=some bl):bl<w.heap.size:=by obtain⟨v',us,g1,g2,_⟩:=h.own g o aR;rw[aM]at g1;cases g1;exact(g2.lt bl ah).2
theorem Good.boxLt{pr:Nat->Prop}{w:World}{ν:aP}{b:List (aC×List ae)}{e:List (aC×cV)}(h:Good pr w ν b e){k:aC}{cs:List ae}(aa:look k b=some cs){bl:Nat}(ah:ν.bx k=some bl):bl<w.heap.size:=by obtain⟨gH,us,el,g1,_,_,g4,_⟩:=h.box k cs aa;rw[ah]at g1;cases g1;exact(Array.getElem?_eq_some_iff.1 g4).1
theorem bX.newBox{C:ek}{st:aS}{a:Act}{w:World}{ν:aP}(h:bX C st a w ν){eU:aC}(YJ:ν.bx eU=none/\ν.ow eU=none/\∀j b,¬ν.tr eU j b){n':Nat}{o':List aC}(gQ:∀j,fresh n' o' j->fresh st.n st.o j/\j≠eU){cs:List ae}{us:Array Value}(el:FO eU)(aE:hM w ν cs us.toList):
  bX C {st with b:=cT eU cs st.b,n:=n',o:=o'} a (w.alloc (ix cs us el.1)) (ν.withBox eU w.heap.size)/\
  aH (w.alloc (ix cs us el.1)) (ν.withBox eU w.heap.size) (.ptr eU 0) (.pointer (some ⟨w.heap.size,0,none⟩)):=by
 obtain⟨lI,oU,Y3⟩:=YJ;have ak:l1 w ν (w.alloc (ix cs us el.1)) (ν.withBox eU w.heap.size):=by
  refine⟨fun b o aW=>⟨aW,Ml (h.good.alt b o aW)⟩,fun k b _ aa=>?_,fun g n u _ aR=>⟨n,u,aR,.inl ⟨rfl,rfl⟩⟩,fun b o aW=>zX (Below.heap_alloc w _ b (h.good.alt b o aW)),fun _ _ _ _ h=>h⟩;have:k≠eU:=fun e=>by subst e;rw[lI]at aa;cases aa
  simp[aP.withBox,this,aa]
 have dq:(w.alloc (ix cs us el.1)).heap.size=w.heap.size+1:=by simp
 have iI:∀k,(look k (cT eU cs st.b)).isSome->k=eU\/(k≠eU/\(look k st.b).isSome/\(ν.withBox eU w.heap.size).bx k=ν.bx k):=by
  intro k aa;by_cases e:k=eU
  ·exact .inl e
  ·rw[iQ,bq (Ne.symm e)]at aa;exact .inr ⟨e,aa,by simp[aP.withBox,e]⟩
 refine⟨h.over ak rfl ⟨fun bl o aW=>by rw[dq];have:=h.good.alt bl o aW;omega,fun k c1 aa=>?_,fun k bb bl aa gw aj aJ=>?_,fun g o aR=>?_,h.good.oinj,fun g k n v bl aR aa aM ah af=>?_,fun k=>?_,fun bl ah k j aD=>?_⟩
  ⟨h.fr.os,h.fr.tape,h.fr.output,by rw[dq];have:=h.fr.size;omega,fun k aa hm=>?_,fun b o aW=>?_,h.fr.fresh,fun n b ah=>?_,h.fr.obn,h.fr.row,h.fr.obr,h.fr.trd,fun k j b ah=>⟨(h.fr.trb k j b ah).1,by rw[dq];have:=(h.fr.trb k j b ah).2;omega⟩,fun k j b ah=>?_,fun b o aW=>(ak.sh b o (h.fr.keep b o aW).1).trans (h.fr.sh b o aW),h.fr.nrow⟩ (fun m hm=>?_) (fun m hm=>(gQ m hm).1),?_⟩
 ·simp only at aa;rw[iQ]at aa;by_cases e:eU=k
  ·rw[if_pos e]at aa;cases aa;subst e;refine⟨w.heap.size,us,el,by simp[aP.withBox],.inr h.fr.size,fun o aW=>?_,heap_alloc_new w _,pZ ak aE⟩;have:=h.good.alt _ o aW;omega
  ·rw[bq e]at aa;obtain⟨bl,br,eS,g1,g2,g3,g4,g5⟩:=h.good.box k c1 aa;exact⟨bl,br,eS,ak.bx _ _ trivial g1,g2,g3,by rw[Below.heap_alloc w _ bl (Array.getElem?_eq_some_iff.1 g4).1];exact g4,pZ ak g5⟩
 ·rcases iI k aa with rfl|⟨gy,fx,iR⟩<;>rcases iI bb gw with rfl|⟨m1,m2,m3⟩
  ·rfl
  ·exfalso;simp only[aP.withBox,if_true,dZ]at aj;subst aj;rw[m3]at aJ;obtain⟨c1,gP⟩:=e5.1 m2;have:=h.good.boxLt gP aJ;omega
  ·exfalso;simp only[aP.withBox,if_true,dZ]at aJ;subst aJ;rw[iR]at aj;obtain⟨c1,gP⟩:=e5.1 fx;have:=h.good.boxLt gP aj;omega
  ·rw[iR]at aj;rw[m3]at aJ;exact h.good.inj k bb bl fx m2 aj aJ
 ·obtain⟨v,xs,g1,g2,g3,g4⟩:=h.good.own g o aR;exact⟨v,xs,g1,g2.alloc _,g3,se ak (fun _ _ _ h=>h) g4⟩
 ·rcases iI k aa with rfl|⟨gy,fx,iR⟩
  ·simp only[aP.withBox,if_true,dZ]at af;subst af;obtain⟨o,gR⟩:=e5.1 aR;have:=h.good.ownLt gR aM ah;omega
  ·rw[iR]at af;exact h.good.obx g k n v bl aR fx aM ah af
 ·by_cases e:k=eU
  ·subst e;exact .inr oU
  ·rcases h.good.one k with I|I
   ·exact .inl (by simp[aP.withBox,e,I])
   ·exact .inr I
 ·rcases ah with⟨bb,bB,a2⟩|ah
  ·rcases iI bb bB with rfl|⟨gy,fx,iR⟩
   ·simp[aP.withBox]at a2;subst a2;exact absurd (h.fr.trb k j _ aD).2 (Nat.lt_irrefl _)
   ·exact h.good.otr bl (.inl ⟨bb,fx,by rw[<-iR];exact a2⟩) k j aD
  ·exact h.good.otr bl (.inr ah) k j aD
 ·rw[Below.heap_alloc w _ k (by have:=h.fr.size;omega)];exact h.fr.block k aa hm
 ·obtain⟨cI,dr⟩:=h.fr.keep b o aW;exact⟨cI,(Ml (h.good.alt b o cI)).trans dr⟩
 ·exact ak.bx _ _ trivial (h.fr.obj n b ah)
 ·have b4:k≠eU:=fun e=>by subst e;exact Y3 j b ah
  obtain⟨t1,t2⟩:=h.fr.trn k j b ah;exact⟨by simp[aP.withBox,b4,t1],t2⟩
 ·obtain⟨f1,f2⟩:=gQ m hm;obtain⟨cI,dr⟩:=h.new m f1;refine⟨?_,dr⟩;simp[aP.withBox,f2,cI]
 ·simp[aH,aP.withBox]
theorem bX.setBox{C:ek}{st:aS}{a:Act}{w w':World}{ν:aP}(h:bX C st a w ν){k:aC}{cs cs':List ae}(aa:look k st.b=some cs){bl:Nat}(ah:ν.bx k=some bl){us:Array Value}{el:FO k}
  (y9:w'.os=w.os) (H2:w'.tape=w.tape) (HL:w'.output=w.output) (mQ:∀j,j≠bl->w'.heap[j]? =w.heap[j]?) (dq:w'.heap.size=w.heap.size) (j8:w'.heap[bl]? =some (ix cs' us el.1)) (aE:hM w ν cs' us.toList):
  bX C {st with b:=cT k cs' st.b} a w' ν/\l1 w ν w' ν:=by
 obtain⟨gH,eY,af8,g1,g2,g3,g4,g5⟩:=h.good.box k cs aa;rw[ah]at g1;cases g1;have ak:l1 w ν w' ν:=by
  refine⟨fun b o aW=>⟨aW,World.cell?_of_block (mQ b fun e=>?_)⟩,fun _ _ _ h=>h,fun g n u _ aR=>⟨n,u,aR,.inl ⟨rfl,rfl⟩⟩,fun b o aW=>zX (mQ b fun e=>?_),fun _ _ _ _ h=>h⟩<;>
  (subst e;exact g3 o aW)
 have vK:∀j,(look j (cT k cs' st.b)).isSome->(look j st.b).isSome:=by
  intro j aw;rw[iQ]at aw;by_cases e:k=j
  ·subst e;simp[aa]
  ·rwa[bq e]at aw
 refine⟨h.over ak rfl ⟨fun b o aW=>by rw[dq];exact h.good.alt b o aW,fun j c1 aw=>?_,fun j eo b aw ld=>h.good.inj j eo b (vK j aw) (vK eo ld),fun g o aR=>?_,h.good.oinj,fun g j n v b aR aw=>h.good.obx g j n v b aR (vK j aw),h.good.one,fun bl ah=>h.good.otr bl (ah.imp (fun⟨k,I,J⟩=>⟨k,vK k I,J⟩) id)⟩
  ⟨y9.trans h.fr.os,H2.trans h.fr.tape,HL.trans h.fr.output,by rw[dq];exact h.fr.size,fun j aw hm=>?_,fun b o aW=>?_,h.fr.fresh,h.fr.obj,h.fr.obn,h.fr.row,h.fr.obr,h.fr.trd,fun k j b ah=>⟨(h.fr.trb k j b ah).1,by rw[dq];exact(h.fr.trb k j b ah).2⟩,h.fr.trn,fun b o aW=>(ak.sh b o (h.fr.keep b o aW).1).trans (h.fr.sh b o aW),h.fr.nrow⟩ h.new,ak⟩
 ·simp only at aw;rw[iQ]at aw;by_cases e:k=j
  ·rw[if_pos e]at aw;cases aw;subst e;exact⟨bl,us,el,ah,g2,g3,j8,pZ ak aE⟩
  ·rw[bq e]at aw;obtain⟨b,br,eS,aj,aJ,bs,ch,fa⟩:=h.good.box j c1 aw;refine⟨b,br,eS,aj,aJ,bs,?_,pZ ak fa⟩;rw[mQ b fun gr=>e (h.good.inj k j bl (by simp[aa]) (by simp[aw]) ah (by rw[<-gr];exact aj))];exact ch
 ·obtain⟨v,xs,aj,aJ,bs,ch⟩:=h.good.own g o aR;refine⟨v,xs,aj,⟨aJ.1,?_⟩,bs,se ak (fun _ _ _ h=>h) ch⟩;rcases aJ.2 with aJ|⟨ia,cap,cur,f1,f2,f3,f4⟩
  ·exact .inl aJ
  ·refine .inr ⟨ia,cap,cur,f1,f2,?_,f4⟩;rw[mQ ia fun gr=>h.good.obx g k o.n v bl (by simp[aR]) (by simp[aa]) aj (by rw[f1,<-gr];rfl) ah];exact f3
 ·rw[mQ j fun e=>by subst e;exact g2.elim hm (fun g2=>Ω)];exact h.fr.block j aw hm
 ·obtain⟨cI,dr⟩:=h.fr.keep b o aW;exact⟨cI,(ak.A b o cI).2.trans dr⟩
theorem bX.storeBox{C:ek}{st:aS}{a:Act}{w:World}{ν:aP}(h:bX C st a w ν){k:aC}{cs cs':List ae}(aa:look k st.b=some cs){bl:Nat}(ah:ν.bx k=some bl)(aU:gn cs=true){us:Array Value}(aE:cl w ν cs' us.toList):
  bX C {st with b:=cT k cs' st.b} a (w.setRow bl us) ν:=by
 obtain⟨gH,eY,el,g1,g2,g3,g4,g5⟩:=h.good.box k cs aa;rw[ah]at g1;cases g1;rw[nD aU]at g4;have s3:=tq aE;exact(h.setBox (w':=w.setRow bl us) aa ah (us:=us) (el:=el) rfl rfl rfl (fun j aw=>setRow_other w bl j us aw) (setRow_size w bl us) (by rw[nD s3];exact setRow_heap w bl eY us el.1 _ g4) (by rw[na s3];exact aE)).1
def aP.withRowOf(ν:aP)(k:aC)(v:Value)(n cells:Nat):aP:={A:=fun b o=>ν.A b o\/(v.ownBlock=some b/\o<cells),bx:=ν.bx,ow:=fun j=>if j=k then some (n,v)else ν.ow j,tr:=ν.tr}
theorem zn{w:World}{A:Nat->Nat->Prop}{b:Nat}:∀(us:List Value) (off:Nat),(∀j u,us[j]? =some u->A b (off+j)/\w.cell? ⟨b,off+j,none⟩=some u)->jI w A b off us
 |[],_,_=>trivial
 |u::us,off,h=>⟨h 0 u rfl,zn us (off+1) fun j x aw=>by have:=h (j+1) x (by simpa using aw);rwa[show off+(j+1)=off+1+j from by omega]at this⟩
theorem Mm{w w':World}(aR:w.grownBy w' none){b i:Nat}(h:b<w.heap.size):w'.cell? ⟨b,i,none⟩=w.cell? ⟨b,i,none⟩:=World.cell?_of_block (aR.block b h Ψ)
theorem bX.newRowM{C:ek}{st:aS}{a:Act}{w w':World}{ν:aP}(h:bX C st a w ν){k:aC}{xs:List ae}(aa:(ν.bx k=none/\ν.ow k=none/\∀j b,¬ν.tr k j b)\/ ∃o,look k st.e=some o/\o.n<xs.length){el sz:Nat}{v:Value}{us:List Value}
  (aR:w.grownBy w' none) (kR:w'.ownsRow w.heap.size el sz v xs.length us) (aE:cC w ν sz xs us) (gJ:xs.length<=bN) {n':Nat} {o':List aC} (gQ:∀j,fresh n' o' j->fresh st.n st.o j/\j≠k):
  bX C {st with e:=cT k ⟨xs.length,el,sz,some xs⟩ st.e,n:=n',o:=o'} a w' (ν.withOwn k xs.length v)/\
  ((∃b cap,v= .slice (some ⟨b,0,none⟩) xs.length cap)->aH w' (ν.withOwn k xs.length v) (.row sz k xs.length) v):=by
 have np:∀bl,v.ownBlock=some bl->w.heap.size<=bl/\bl<w'.heap.size:=fun bl ah=>kR.lt bl ah;have ak:l1 w ν w' (ν.withOwn k xs.length v):=by
  refine⟨fun b o aW=>⟨aW,Mm aR (h.good.alt b o aW)⟩,fun j b _ aw=>aw,fun g n u _ im=>?_,fun b o aW=>zX (aR.block b (h.good.alt b o aW) Ψ),fun _ _ _ _ h=>h⟩;by_cases e:g=k
  ·subst e;rcases aa with aa|⟨o,ak,bS⟩
   ·rw[aa.2.1]at im;cases im
   ·obtain⟨v0,eY,aj,_⟩:=h.good.own g o ak;rw[aj]at im;cases im;exact⟨xs.length,v,by simp[aP.withOwn],.inr bS⟩
  ·exact⟨n,u,by simp[aP.withOwn,e,im],.inl ⟨rfl,rfl⟩⟩
 have kv:∀g,(look g (cT k ⟨xs.length,el,sz,some xs⟩ st.e)).isSome->g=k\/(g≠k/\(look g st.e).isSome/\(ν.withOwn k xs.length v).ow g=ν.ow g):=by
  intro g gg;by_cases e:g=k
  ·exact .inl e
  ·rw[iQ,bq (Ne.symm e)]at gg;exact .inr ⟨e,gg,by simp[aP.withOwn,e]⟩
 have OF:∀bl,v.ownBlock=some bl->∀j,¬ν.A bl j:=fun bl ah j aW=>by have I:=h.good.alt bl j aW;have:=(np bl ah).1;omega
 have Y9:∀j b,¬ν.tr k j b:=fun j b ah=>by
  rcases aa with aa|⟨o,gR,_⟩
  ·exact aa.2.2 j b ah
  ·obtain⟨v0,eY,aj,_⟩:=h.good.own k o gR;rw[(h.fr.trn k j b ah).2]at aj;cases aj
 refine⟨h.over ak rfl ⟨fun bl o aW=>?_,fun j c1 aw=>?_,h.good.inj,fun g o eO=>?_,fun g eM n n' u eA bl I J ao aO bp cj=>?_,fun g j n u bl I J ao aO bp=>?_,fun j=>?_,fun bl ah bb j aD=>?_⟩
  ⟨aR.os.trans h.fr.os,aR.tape.trans h.fr.tape,aR.output.trans h.fr.output,Nat.le_trans h.fr.size aR.size,fun j aw hm=>?_,fun b o aW=>?_,h.fr.fresh,h.fr.obj,h.fr.obn,fun m n u hm=>Cq (h.fr.row m n u hm) (fun n u=>ak.ow _ n u trivial),h.fr.obr,h.fr.trd,fun k j b ah=>⟨(h.fr.trb k j b ah).1,Nat.lt_of_lt_of_le (h.fr.trb k j b ah).2 aR.size⟩,fun bb j b ah=>?_,fun b o aW=>(ak.sh b o (h.fr.keep b o aW).1).trans (h.fr.sh b o aW),fun j n u b aj aJ=>?_⟩ (fun m hm=>?_) (fun m hm=>(gQ m hm).1),?_⟩
 ·have:=h.good.alt bl o aW;have:=aR.size;omega
 ·obtain⟨bl,br,eS,g1,g2,g3,g4,g5⟩:=h.good.box j c1 aw;have bS:=(Array.getElem?_eq_some_iff.1 g4).1;exact⟨bl,br,eS,g1,g2,g3,by rw[aR.block bl bS Ψ];exact g4,pZ ak g5⟩
 ·simp only at eO;rw[iQ]at eO;by_cases e:k=g
  ·rw[if_pos e]at eO;cases eO;subst e;refine⟨v,us,by simp[aP.withOwn],⟨kR.1,?_⟩,fun bl ah=>⟨.inr (Nat.le_trans h.fr.size (np bl ah).1),fun j aW=>absurd aW (OF bl ah j)⟩,fun ys bA=>?_⟩
   ·rcases kR.2 with aj|⟨ia,cap,cur,f1,f2,f3⟩
    ·exact .inl aj
    ·exact .inr ⟨ia,cap,cur,f1,Ω,f3⟩
   ·simp only[dZ]at bA;subst bA;exact⟨rfl,zO ak aE,OF⟩
  ·rw[bq e]at eO;obtain⟨v0,eY,aj,aJ,bs,ch⟩:=h.good.own g o eO;exact⟨v0,eY,by simp[aP.withOwn,Ne.symm e,aj],aJ.kept aR (by cases v0.ownBlock<;>simp),bs,se ak (fun _ _ _ h=>h) ch⟩
 ·rcases kv g I with rfl|⟨gy,fx,iR⟩<;>rcases kv eM J with rfl|⟨m1,m2,m3⟩
  ·rfl
  ·exfalso;simp only[aP.withOwn,if_true,dZ,gA]at ao;rw[m3]at aO;obtain⟨o,gR⟩:=e5.1 m2;have aG:=h.good.ownLt gR aO cj;have:=(np bl (by rw[ao.2];exact bp)).1;omega
  ·exfalso;simp only[aP.withOwn,if_true,dZ,gA]at aO;rw[iR]at ao;obtain⟨o,gR⟩:=e5.1 fx;have aG:=h.good.ownLt gR ao bp;have:=(np bl (by rw[aO.2];exact cj)).1;omega
  ·rw[iR]at ao;rw[m3]at aO;exact h.good.oinj g eM n n' u eA bl fx m2 ao aO bp cj
 ·rcases kv g I with rfl|⟨gy,fx,iR⟩
  ·simp only[aP.withOwn,if_true,dZ,gA]at ao;obtain⟨c1,gP⟩:=e5.1 J;have aG:=h.good.boxLt gP bp;have:=(np bl (by rw[ao.2];exact aO)).1;omega
  ·rw[iR]at ao;exact h.good.obx g j n u bl fx J ao aO bp
 ·by_cases e:j=k
  ·subst e;rcases aa with aa|⟨o,gR,_⟩
   ·exact .inl aa.1
   ·obtain⟨v0,eY,aj,_⟩:=h.good.own j o gR;rcases h.good.one j with I|I
    ·exact .inl I
    ·rw[I]at aj;cases aj
  ·rcases h.good.one j with I|I
   ·exact .inl I
   ·exact .inr (by simp[aP.withOwn,e,I])
 ·rcases ah with ah|⟨g,n,u,bB,a2,a3⟩
  ·exact h.good.otr bl (.inl ah) bb j aD
  ·rcases kv g bB with rfl|⟨gy,fx,iR⟩
   ·simp only[aP.withOwn,if_true,dZ,gA]at a2;have I:=(np bl (by rw[a2.2];exact a3)).1;have J:=(h.fr.trb bb j _ aD).2;omega
   ·exact h.good.otr bl (.inr ⟨g,n,u,fx,by rw[<-iR];exact a2,a3⟩) bb j aD
 ·rw[aR.block j (by have:=h.fr.size;omega) Ψ];exact h.fr.block j aw hm
 ·obtain⟨cI,dr⟩:=h.fr.keep b o aW;exact⟨cI,(ak.A b o cI).2.trans dr⟩
 ·have b4:bb≠k:=fun e=>by subst e;exact Y9 j b ah
  obtain⟨t1,t2⟩:=h.fr.trn bb j b ah;exact⟨t1,by simp[aP.withOwn,b4,t2]⟩
 ·by_cases e:aC.loc j=k
  ·subst e;simp only[aP.withOwn,if_true,dZ,gA]at aj;exact Nat.le_trans h.fr.size (np b (by rw[aj.2];exact aJ)).1
  ·simp only[aP.withOwn,bq e]at aj;exact h.fr.nrow j n u b aj aJ
 ·obtain⟨f1,f2⟩:=gQ m hm;obtain⟨cI,dr,gM⟩:=h.new m f1;refine⟨cI,?_,gM⟩;simp[aP.withOwn,f2,dr]
 ·intro Ht;simp only[aH];exact⟨Ht,gJ,xs.length,v,by simp[aP.withOwn],cq _,fun _=>rfl⟩
theorem bX.publish{C:ek}{st:aS}{a:Act}{w:World}{ν:aP}(h:bX C st a w ν){k:aC}{o:cV}{xs:List ae}(aa:look k st.e=some o)(af:o.xs=some xs){v:Value}(aM:ν.ow k=some (o.n,v))(gJ:xs.length<=bN):
  bX C {st with e:=cT k ⟨o.n,o.el,o.sz,none⟩ st.e} a w (ν.withRowOf k v o.n (o.n*o.sz))/\
  aH w (ν.withRowOf k v o.n (o.n*o.sz)) (.slice o.sz (.own k) xs) v:=by
 obtain⟨v0,us,bR,cA,dE,dM⟩:=h.good.own k o aa;rw[aM]at bR;cases bR;obtain⟨cP,mv,tj⟩:=dM xs af;have iO:∀g,(ν.withRowOf k v o.n (o.n*o.sz)).ow g=ν.ow g:=fun g=>by
  simp only[aP.withRowOf];split
  ·rename_i e;subst e;exact aM.symm
  ·rfl
 have ak:l1 w ν w (ν.withRowOf k v o.n (o.n*o.sz)):=⟨fun b o aW=>⟨.inl aW,rfl⟩,fun j b _ aw=>aw,fun g n u _ im=>⟨n,u,by rw[iO];exact im,.inl ⟨rfl,rfl⟩⟩,fun _ _ _=>rfl,fun _ _ _ _ h=>h⟩
 have kv:∀g,(look g (cT k ⟨o.n,o.el,o.sz,none⟩ st.e)).isSome->(look g st.e).isSome:=by
  intro g gg;by_cases e:k=g
  ·subst e;simp[aa]
  ·rwa[iQ,bq e]at gg
 refine⟨h.over ak rfl ⟨fun bl i aW=>?_,fun j c1 aw=>?_,h.good.inj,fun g o' eO=>?_,fun g eM n n' u eA bl I J ao aO=>h.good.oinj g eM n n' u eA bl (kv g I) (kv eM J) (by rwa[iO]at ao) (by rwa[iO]at aO),fun g j n u bl I J ao=>h.good.obx g j n u bl (kv g I) J (by rwa[iO]at ao),fun j=>?_,fun bl ah=>h.good.otr bl (ah.imp id (fun⟨g,n,v,bB,a2,a3⟩=>⟨g,n,v,kv g bB,by rwa[iO]at a2,a3⟩))⟩
  ⟨h.fr.os,h.fr.tape,h.fr.output,h.fr.size,h.fr.block,fun b i aW=>⟨.inl (h.fr.keep b i aW).1,(h.fr.keep b i aW).2⟩,fun b i aW=>?_,h.fr.obj,h.fr.obn,fun m n u hm=>Cq (h.fr.row m n u hm) (fun n u=>ak.ow _ n u trivial),h.fr.obr,h.fr.trd,h.fr.trb,fun bb j b ah=>⟨(h.fr.trn bb j b ah).1,by rw[iO];exact(h.fr.trn bb j b ah).2⟩,h.fr.sh,fun j n u b aj aJ=>h.fr.nrow j n u b (by rw[<-iO];exact aj) aJ⟩ (fun m hm=>?_),?_⟩
 ·rcases aW with aW|⟨aW,_⟩
  ·exact h.good.alt bl i aW
  ·exact(cA.lt bl aW).2
 ·obtain⟨bl,br,eS,g1,g2,g3,g4,g5⟩:=h.good.box j c1 aw;refine⟨bl,br,eS,g1,g2,fun i aW=>?_,g4,pZ ak g5⟩;rcases aW with aW|⟨aW,_⟩
  ·exact g3 i aW
  ·exact h.good.obx k j o.n v bl (by simp[aa]) (by simp[aw]) aM aW g1
 ·simp only at eO;rw[iQ]at eO;by_cases e:k=g
  ·rw[if_pos e]at eO;cases eO;subst e;refine⟨v,us,by rw[iO];exact aM,cA,fun bl ah=>⟨(dE bl ah).1,fun j aW=>?_⟩,fun ys bA=>by cases bA⟩;rcases aW with aW|⟨_,aW⟩
   ·exact(dE bl ah).2 j aW
   ·exact aW
  ·rw[bq e]at eO;obtain⟨v0,eY,aj,aJ,bs,ch⟩:=h.good.own g o' eO;have vC:∀bl,v0.ownBlock=some bl->∀j,(ν.withRowOf k v o.n (o.n*o.sz)).A bl j->ν.A bl j:=fun bl ah j aW=>by
    rcases aW with aW|⟨aW,_⟩
    ·exact aW
    ·exact absurd (h.good.oinj k g o.n o'.n v v0 bl (by simp[aa]) (by simp[eO]) aM aj aW ah) e
   exact⟨v0,eY,by rw[iO];exact aj,aJ,fun bl ah=>⟨(bs bl ah).1,fun j aW=>(bs bl ah).2 j (vC bl ah j aW)⟩,se ak vC ch⟩
 ·rcases h.good.one j with I|I
  ·exact .inl I
  ·exact .inr (by rw[iO];exact I)
 ·rcases aW with aW|⟨aW,_⟩
  ·exact h.fr.fresh b i aW
  ·exact .inr (dE b aW).1
 ·obtain⟨cI,dr,gM⟩:=h.new m hm;exact⟨cI,by rw[iO];exact dr,gM⟩
 ·simp only[aH];refine⟨?_,fun e=>(by cases e),fun g e=>?_,fun _ _ e=>(by cases e),fun _ e=>(by cases e)⟩
  ·rcases cA.2 with⟨aj,aJ⟩|⟨ia,cap,cur,f1,f2,f3,f4,f5,f6,f7⟩
   ·refine⟨none,0,by rw[aj,cP,aJ],Ω,⟨by simp[maxLen],gJ⟩,.inl (q1 Ω)⟩
   ·refine⟨some ⟨ia,0,none⟩,cap,by rw[f1,cP],Ω,⟨f5,gJ⟩,.inr ⟨ia,0,us,rfl,zn us 0 fun j u aw=>?_,zO ak mv⟩⟩;have hb:v.ownBlock=some ia:=by rw[f1];rfl
    have fs:j<us.length:=(e3.1 aw).1;refine⟨.inr ⟨hb,by rw[cA.1]at fs;omega⟩,?_⟩;have:=cA.cells hb j u aw;rwa[nU]at this
  ·cases e;exact⟨o.n,v,by rw[iO];exact aM,Ω,fun _=>rfl⟩
theorem SF{α:Type}(k:aC)(p q:α):∀l,cT k q (cT k p l)=cT k q l
 |[]=>by simp[cT]
 |(i,r)::l=>by
  by_cases e:i=k
  ·simp[cT,e]
  ·simp[cT,e,SF k p q l]
theorem bX.newRow{C:ek}{st:aS}{a:Act}{w w':World}{ν:aP}(h:bX C st a w ν){k:aC}{xs:List ae}(aa:(ν.bx k=none/\ν.ow k=none/\∀j b,¬ν.tr k j b)\/ ∃o,look k st.e=some o/\o.n<xs.length){el sz:Nat}{v:Value}{us:List Value}
  (aR:w.grownBy w' none) (kR:w'.ownsRow w.heap.size el sz v xs.length us) (aE:cC w ν sz xs us) (gJ:xs.length<=bN) {n':Nat} {o':List aC} (gQ:∀j,fresh n' o' j->fresh st.n st.o j/\j≠k):
  bX C {st with e:=cT k ⟨xs.length,el,sz,none⟩ st.e,n:=n',o:=o'} a w' ((ν.withOwn k xs.length v).withRowOf k v xs.length (xs.length*sz))/\
  aH w' ((ν.withOwn k xs.length v).withRowOf k v xs.length (xs.length*sz)) (.slice sz (.own k) xs) v:=by
 have I:=(h.newRowM aa aR kR aE gJ gQ).1;have J:=I.publish (k:=k) (o:=⟨xs.length,el,sz,some xs⟩) (xs:=xs) (v:=v) (by simp[iQ]) rfl (by simp[aP.withOwn]) gJ;simpa only[SF]using J
theorem bX.setRowM{C:ek}{st:aS}{a:Act}{w w':World}{ν:aP}(h:bX C st a w ν){k:aC}{o:cV}{xs xs':List ae}(aa:look k st.e=some o)(af:o.xs=some xs){bl:Nat}{v v':Value}(aM:ν.ow k=some (o.n,v))(hb:v.ownBlock=some bl)(BG:v'.ownBlock=some bl)
  (aK:(xs'.length=o.n/\v'=v)\/o.n<xs'.length) {us:List Value} (y9:w'.os=w.os) (H2:w'.tape=w.tape) (HL:w'.output=w.output) (mQ:∀j,j≠bl->w'.heap[j]? =w.heap[j]?) (dq:w'.heap.size=w.heap.size)
  (kR:w'.ownsRow 0 o.el o.sz v' xs'.length us) (aE:cC w ν o.sz xs' us):
  bX C {st with e:=cT k ⟨xs'.length,o.el,o.sz,some xs'⟩ st.e} a w' (ν.withOwn k xs'.length v')/\l1 w ν w' (ν.withOwn k xs'.length v')/\(xs'.length<=bN->aH w' (ν.withOwn k xs'.length v') (.row o.sz k xs'.length) v'):=by
 obtain⟨v0,eY,bR,cA,dE,dM⟩:=h.good.own k o aa;rw[aM]at bR;cases bR;obtain⟨cP,mv,tj⟩:=dM xs af;have ak:l1 w ν w' (ν.withOwn k xs'.length v'):=by
  refine⟨fun b i aW=>⟨aW,World.cell?_of_block (mQ b fun e=>by subst e;exact tj b hb i aW)⟩,fun j b _ aw=>aw,fun g n u _ im=>?_,fun b i aW=>zX (mQ b fun e=>by subst e;exact tj b hb i aW),fun _ _ _ _ h=>h⟩;by_cases e:g=k
  ·subst e;rw[aM]at im;cases im;refine⟨xs'.length,v',by simp[aP.withOwn],?_⟩;rcases aK with⟨I,J⟩|I
   ·exact .inl ⟨I,J⟩
   ·exact .inr I
  ·exact⟨n,u,by simp[aP.withOwn,e,im],.inl ⟨rfl,rfl⟩⟩
 have kv:∀g n u,(look g (cT k ⟨xs'.length,o.el,o.sz,some xs'⟩ st.e)).isSome->(ν.withOwn k xs'.length v').ow g=some (n,u)->∀b,u.ownBlock=some b->(look g st.e).isSome/\∃n u,ν.ow g=some (n,u)/\u.ownBlock=some b:=by
  intro g n u gg im b ah;by_cases e:g=k
  ·subst e;simp only[aP.withOwn,if_true,dZ,gA]at im;rw[<-im.2,BG]at ah;cases ah;exact⟨by simp[aa],o.n,v,aM,hb⟩
  ·rw[iQ,bq (Ne.symm e)]at gg;simp only[aP.withOwn,e,if_false]at im;exact⟨gg,n,u,im,ah⟩
 refine⟨h.over ak rfl ⟨fun b i aW=>by rw[dq];exact h.good.alt b i aW,fun j c1 aw=>?_,h.good.inj,fun g o' eO=>?_,fun g eM n n' u eA b I J ao aO bp cj=>?_,fun g j n u b I J ao aO bp=>?_,fun j=>?_,fun b ah=>h.good.otr b (ah.imp id (fun⟨g,n,v,bB,a2,a3⟩=>by obtain⟨cb,gy,iC,cn,gd⟩:=kv g n v bB a2 b a3;exact⟨g,gy,iC,cb,cn,gd⟩))⟩
  ⟨y9.trans h.fr.os,H2.trans h.fr.tape,HL.trans h.fr.output,by rw[dq];exact h.fr.size,fun j aw hm=>?_,fun b i aW=>?_,h.fr.fresh,h.fr.obj,h.fr.obn,fun m n u hm=>Cq (h.fr.row m n u hm) (fun n u=>ak.ow _ n u trivial),h.fr.obr,h.fr.trd,fun k j b ah=>⟨(h.fr.trb k j b ah).1,by rw[dq];exact(h.fr.trb k j b ah).2⟩,fun bb j b ah=>?_,fun b o aW=>(ak.sh b o (h.fr.keep b o aW).1).trans (h.fr.sh b o aW),fun j n u b aj aJ=>(by
   by_cases e:aC.loc j=k
   ·subst e;simp only[aP.withOwn,if_true,dZ,gA]at aj;rw[<-aj.2,BG]at aJ;cases aJ;exact h.fr.nrow j o.n v bl aM hb
   ·simp only[aP.withOwn,bq e]at aj;exact h.fr.nrow j n u b aj aJ)⟩ (fun m hm=>?_),ak,?_⟩
 ·obtain⟨b,br,eS,g1,g2,g3,g4,g5⟩:=h.good.box j c1 aw;have b4:b≠bl:=fun e=>h.good.obx k j o.n _ bl (by simp[aa]) (by simp[aw]) aM hb (by rw[<-e];exact g1);exact⟨b,br,eS,g1,g2,g3,by rw[mQ b b4];exact g4,pZ ak g5⟩
 ·simp only at eO;rw[iQ]at eO;by_cases e:k=g
  ·rw[if_pos e]at eO;cases eO;subst e;refine⟨v',us,by simp[aP.withOwn],kR,fun b ah=>?_,fun ys bA=>?_⟩
   ·rw[BG]at ah;cases ah;exact⟨(dE bl hb).1,fun j aW=>absurd aW (tj bl hb j)⟩
   ·simp only[dZ]at bA;subst bA;exact⟨rfl,zO ak aE,fun b ah=>by rw[BG]at ah;cases ah;exact tj bl hb⟩
  ·rw[bq e]at eO;obtain⟨v0,eY,aj,aJ,bs,ch⟩:=h.good.own g o' eO;have b4:∀b,v0.ownBlock=some b->b≠bl:=fun b ah GO=>e (h.good.oinj k g o.n o'.n _ v0 bl (by simp[aa]) (by simp[eO]) aM aj hb (by rw[<-GO];exact ah));refine⟨v0,eY,by simp[aP.withOwn,Ne.symm e,aj],⟨aJ.1,?_⟩,bs,se ak (fun _ _ _ h=>h) ch⟩;rcases aJ.2 with aJ|⟨ia,AH,l6,f1,f2,f3,f4⟩
   ·exact .inl aJ
   ·exact .inr ⟨ia,AH,l6,f1,f2,by rw[mQ ia (b4 ia (by rw[f1];rfl))];exact f3,f4⟩
 ·obtain⟨bB,gy,iC,a2,a3⟩:=kv g n u I ao b bp;obtain⟨cb,fx,hX,cn,gd⟩:=kv eM n' eA J aO b cj;exact h.good.oinj g eM gy fx iC hX b bB cb a2 cn a3 gd
 ·obtain⟨bB,gy,iC,a2,a3⟩:=kv g n u I ao b aO;exact h.good.obx g j gy iC b bB J a2 a3 bp
 ·by_cases e:j=k
  ·subst e;rcases h.good.one j with I|I
   ·exact .inl I
   ·rw[I]at aM;cases aM
  ·rcases h.good.one j with I|I
   ·exact .inl I
   ·exact .inr (by simp[aP.withOwn,e,I])
 ·rw[mQ j fun e=>by subst e;exact(dE j hb).1.elim hm (fun g2=>Ω)];exact h.fr.block j aw hm
 ·obtain⟨cI,dr⟩:=h.fr.keep b i aW;exact⟨cI,(ak.A b i cI).2.trans dr⟩
 ·obtain⟨t1,t2⟩:=h.fr.trn bb j b ah;have b4:bb≠k:=fun e=>by subst e;rw[t2]at aM;cases aM
  exact⟨t1,by simp[aP.withOwn,b4,t2]⟩
 ·obtain⟨cI,dr,gM⟩:=h.new m hm;refine⟨cI,?_,gM⟩;have:m≠k:=fun e=>by subst e;rw[dr]at aM;cases aM
  simp[aP.withOwn,this,dr]
 ·intro gJ;simp only[aH];obtain⟨cap,Ht⟩:=QS kR BG;exact⟨⟨bl,cap,Ht⟩,gJ,xs'.length,v',by simp[aP.withOwn],cq _,fun _=>rfl⟩
end
end Go.Pv
