/- Regions that draw their order, I: abstract states as functions, effects, and what an instruction does to them. -/
import Derived.WalkKit
import Derived.Orders
import Derived.KernelRfl
import Derived.IntWalk
import Derived.Laws.StructEq
import Derived.ChangeKeysEq
import Derived.MapKept
import Derived.ArgAppend
import Derived.Laws.OwnMore
set_option linter.all false
set_option maxHeartbeats 4000000
set_option maxRecDepth 4000
namespace Go
def bi{p:Prop}(h:p:=by kernel_rfl):p:=h
def bv{p:Prop}(h:p:=by simp only[aQ,aD,aE,b6,ca];exact aX):p:=h
def ci{p:Prop}(h:p:=by first|exact cx _|exact cx ‹_› _):p:=h
def co{p:Prop}(h:p:=by simp[aQ,aD,aE]):p:=h
def dl{p:Prop}(h:p:=by simp[az]):p:=h
def d6{p:Prop}(h:p:=by simp;omega):p:=h
def d7{p:Prop}(h:p:=by simp[aM,ae,aQ,aD,aE]):p:=h
def d8{p:Prop}(h:p:=by first|exact jg _|exact jg ‹_› _):p:=h
def d9{p:Prop}(h:p:=by simp only[gX,aD,aE,b6,ca];exact aX):p:=h
def Ω{p:Prop}(h:p:=by omega):p:=h
def Ψ{p:Prop}(h:p:=by simp):p:=h
end Go
open Array renaming getElem?_toList->vn
open BitVec renaming ofInt->rQ
open Bool renaming and_eq_true->cR,eq_iff_iff->q2,false_eq_true->hT,not_eq_true'->sN
open ByteArray renaming empty->adi,ext->atB,push->ayg,size->ayh
open Go renaming Program->cI,TypeId->gQ
open Go.ByteArray renaming toList_eq->atC
open Go.IntKind renaming i64->vo
open Go.IntWalk renaming i64_in->pt
open Go.Op renaming bytesLess->iw
open Go.Region renaming wanted->qd
open Go.Result renaming andThen_ok->gC
open Go.Sem renaming run_bind->gy,run_pure->hG
open Go.Value renaming cells->pw,ownBlock->pz
open Go.Value.pointer renaming injEq->ayo
open Go.World.grownBy renaming refl->atF
open List renaming all_eq_true->j7,cons_append->b6,getElem?_append_left->rS,getElem?_eq_getElem->cl,getElem?_eq_none->q3,getElem?_eq_some_iff->fH,length_append->qe,length_cons->mw,length_drop->uf,map_cons->ha,mem_append->kg,mem_cons->gJ,mem_cons_of_mem->qf,mem_filter->oW,mem_map->hb,pairwise_cons->oh,take->mX,take_length->jC,take_of_length_le->ix
open List.cons renaming injEq->rR
open Nat renaming add_mul->q5,le_refl->dP,le_trans->kE,mul_le_mul_right->rU
open Option renaming bind_some->lI,isSome_iff_exists->fx,isSome_none->kh,map_eq_some_iff->hs,map_some->pB
open Option.some renaming injEq->dU
open Prod.mk renaming injEq->js
open _root_ renaming False->er,Option->be,UInt8->cJ,and_true->jf,beq_iff_eq->ey,congrArg->fy,decide_eq_true_eq->gz
namespace Go.Pv
section
open Go Go.RowKit
inductive aB where
 |loc (s:Nat)
 |obj (n:Nat)
 deriving DecidableEq,Inhabited
inductive jH where
 |no
 |nil
 |own (k:aB)
 |tr (k:aB) (j:Nat)
 |lo (k:aB)
 deriving DecidableEq,Inhabited
inductive af where
 |junk
 |int (k:IntKind) (n:Int)
 |bool (b:Bool)
 |str (s:List cJ)
 |slice (sz:Nat) (tag:jH) (xs:List af)
 |agg (cs:List af)
 |ptr (key:aB) (off:Nat)
 |eptr (x:af)
 |iface (t:Nat) (x:af)
 |nilp
 |tuple (bm:List af)
 |func (f:Nat) (dH:List af)
 |gmap (key:aB)
 |row (sz:Nat) (key:aB) (n:Nat)
 |rptr (sz:Nat) (key:aB) (n i f:Nat)
 |hdm (clock:Nat) (borns:List Nat)
 |hdi (since:Nat) (seen:List Nat) (last:Nat)
 |cst (v:Value)
 deriving Inhabited
structure bd where
 A:Nat->Nat->Prop
 bx:aB->be Nat
 ow:aB->be (Nat×Value)
 tr:aB->Nat->Nat->Prop
def lim:Nat:=68719476736
def kY(w:World)(A:Nat->Nat->Prop)(b:Nat):Nat->List Value->Prop
 |_,[]=>True
 |off,u::us=>(A b off/\w.cell? ⟨b,off,none⟩=some u)/\kY w A b (off+1) us
def shape(w:World)(b:Nat):be (Nat×gQ×(Nat×Nat)):=
 match w.heap[b]? with
 |some (.cells cur el fz)=>some (cur.size,el,fz)
 |_=>none
def ym{w w':World}{b:Nat}(h:w'.heap[b]? =w.heap[b]?):shape w' b=shape w b:=by unfold shape;rw[h]
mutual
def cZ(t:Bool)(w:World)(A:Nat->Nat->Prop)(F:Nat->Prop):af->Value->Prop
 | .int k n,v=>v= .int k n
 | .bool b,v=>v= .bool b
 | .str s,v=>v= .string ⟨s.toArray⟩/\s.length<=lim
 | .slice sz _ xs,v=> ∃a cap,v= .slice a xs.length cap/\xs.length<=cap/\(cap<=maxLen/\xs.length<=lim)/\
   (xs=[]\/ ∃b off us G,a=some ⟨b,off,none⟩/\F b/\(∀c,G c->F c/\(t=true->c≠b))/\kY w A b off us/\(t=true->off=0/\0<us.length/\∃el,shape w b=some (cap*sz,el,(0,0)))/\jZ t w A G sz xs us)
 | .agg cs,v=> ∃us:Array Value,v= .agg us/\kF t w A F cs us.toList
 |_,_=>er
def kF(t:Bool)(w:World)(A:Nat->Nat->Prop)(F:Nat->Prop):List af->List Value->Prop
 |[],us=>us=[]
 |c::cs,us=> ∃u e d a,us=u::e/\((∀b,d b->F b)/\(∀b,a b->F b)/\(t=true->∀b,d b->¬a b))/\(cZ t w A d c u/\u.oneCell'=true)/\kF t w A a cs e
def jZ(t:Bool)(w:World)(A:Nat->Nat->Prop)(F:Nat->Prop)(sz:Nat):List af->List Value->Prop
 |[],us=>us=[]
 |x::xs,us=> ∃u e d a,us=u.cells.toList++e/\((∀b,d b->F b)/\(∀b,a b->F b)/\(t=true->∀b,d b->¬a b))/\(cZ t w A d x u/\u.cells.size=sz/\(∀c∈u.cells.toList,c.oneCell'=true))/\jZ t w A a sz xs e
end
mutual
def aU(w:World)(ν:bd):af->Value->Prop
 | .junk,_=>True
 | .int k n,v=>v= .int k n
 | .bool b,v=>v= .bool b
 | .str s,v=>v= .string ⟨s.toArray⟩/\s.length<=lim
 | .slice sz tag xs,v=>
   (∃a cap,v= .slice a xs.length cap/\xs.length<=cap/\(cap<=maxLen/\xs.length<=lim)/\(xs=[]\/ ∃b off us,a=some ⟨b,off,none⟩/\kY w ν.A b off us/\dw w ν sz xs us))/\
   (tag= .nil->v= .slice none 0 0)/\
   (∀g,tag= .own g->∃n u,ν.ow g=some (n,u)/\xs.length<=n/\(xs.length=n->v=u))/\
   (∀k j,tag= .tr k j->cZ true w ν.A (ν.tr k j) (.slice sz tag xs) v)/\(∀k,tag= .lo k->cZ false w ν.A (ν.tr k 0) (.slice sz tag xs) v)
 | .agg cs,v=> ∃us:Array Value,v= .agg us/\cW w ν cs us.toList
 | .ptr key off,v=> ∃b,ν.bx key=some b/\v= .pointer (some ⟨b,off,none⟩)
 | .eptr x,v=> ∃b off u,v= .pointer (some ⟨b,off,none⟩)/\aU w ν x u/\kY w ν.A b off u.cells.toList
 | .iface t x,v=> ∃u,v= .iface t u/\aU w ν x u
 | .nilp,v=>v= .pointer none
 | .tuple bm,v=> ∃us:Array Value,v= .tuple us/\c7 w ν bm us.toList
 | .func f dH,v=> ∃us:Array Value,v= .func (.func f) #[] us/\c7 w ν dH us.toList
 | .gmap key,v=> ∃b,ν.bx key=some b/\v= .map (some b)
 | .row _ key n,v=>(∃b cap,v= .slice (some ⟨b,0,none⟩) n cap)/\n<=lim/\∃n' u,ν.ow key=some (n',u)/\n<=n'/\(n=n'->v=u)
 | .rptr sz key n i f,v=>(∃b o,v= .pointer (some ⟨b,o,none⟩))/\i<n/\∃n' u,ν.ow key=some (n',u)/\n<=n'/\(n=n'->∃b,u.ownBlock=some b/\v= .pointer (some ⟨b,i*sz+f,none⟩))
 | .hdm _ _,_=>er
 | .hdi _ _ _,_=>er
 | .cst c,v=>v=c
def cW(w:World)(ν:bd):List af->List Value->Prop
 |[],us=>us=[]
 |c::cs,us=> ∃u a,us=u::a/\(aU w ν c u/\u.oneCell'=true)/\cW w ν cs a
def c7(w:World)(ν:bd):List af->List Value->Prop
 |[],us=>us=[]
 |c::cs,us=> ∃u a,us=u::a/\aU w ν c u/\c7 w ν cs a
def dw(w:World)(ν:bd)(sz:Nat):List af->List Value->Prop
 |[],us=>us=[]
 |x::xs,us=> ∃u a,us=u.cells.toList++a/\(aU w ν x u/\u.cells.size=sz/\(∀c∈u.cells.toList,c.oneCell'=true))/\dw w ν sz xs a
end
def B1{w w':World}{A c:Nat->Nat->Prop}{b:Nat}(a:∀b o,A b o->c b o/\w'.cell? ⟨b,o,none⟩=w.cell? ⟨b,o,none⟩):
  ∀(us:List Value) (off:Nat),kY w A b off us->kY w' c b off us
 |[],_,_=>trivial
 |_::us,off,h=>⟨⟨(a _ _ h.1.1).1,(a _ _ h.1.1).2.trans h.1.2⟩,B1 a us (off+1) h.2⟩
mutual
def vR{t:Bool}{w w':World}{A j:Nat->Nat->Prop}(f:∀b o,A b o->j b o/\w'.cell? ⟨b,o,none⟩=w.cell? ⟨b,o,none⟩)(g:∀b o,A b o->shape w' b=shape w b):∀(p:af) (F d:Nat->Prop) (v:Value),(∀b,F b->d b)->cZ t w A F p v->cZ t w' j d p v
 | .int k n,_,_,_,_,h=>by simp only[cZ]at h⊢;exact h
 | .bool b,_,_,_,_,h=>by simp only[cZ]at h⊢;exact h
 | .str s,_,_,_,_,h=>by simp only[cZ]at h⊢;exact h
 | .slice sz tag xs,F,d,v,e,h=>by
  simp only[cZ]at h⊢;obtain⟨a,cap,J,U,x,i⟩:=h;refine⟨a,cap,J,U,x,?_⟩;rcases i with i|⟨b,off,us,G,y,B,l,m,r,q⟩
  ·exact .inl i
  ·refine .inr ⟨b,off,us,G,y,e _ B,fun c aw=>⟨e _ (l c aw).1,(l c aw).2⟩,B1 f _ _ m,fun z=>?_,Hv f g xs G G _ (fun _ h=>h) q⟩;obtain⟨f1,f2,el,f3⟩:=r z;refine⟨f1,f2,el,?_⟩;cases us with
   |nil=>simp at f2
   |cons u us=>rw[g b off m.1.1];exact f3
 | .agg cs,F,d,v,e,h=>by simp only[cZ]at h⊢;obtain⟨us,J,U⟩:=h;exact⟨us,J,Vx f g cs F d _ e U⟩
 | .junk,_,_,_,_,h=>by simp[cZ]at h
 | .ptr _ _,_,_,_,_,h=>by simp[cZ]at h
 | .eptr _,_,_,_,_,h=>by simp[cZ]at h
 | .iface _ _,_,_,_,_,h=>by simp[cZ]at h
 | .nilp,_,_,_,_,h=>by simp[cZ]at h
 | .tuple _,_,_,_,_,h=>by simp[cZ]at h
 | .func _ _,_,_,_,_,h=>by simp[cZ]at h
 | .gmap _,_,_,_,_,h=>by simp[cZ]at h
 | .row _ _ _,_,_,_,_,h=>by simp[cZ]at h
 | .rptr _ _ _ _ _,_,_,_,_,h=>by simp[cZ]at h
 | .hdm _ _,_,_,_,_,h=>by simp[cZ]at h
 | .hdi _ _ _,_,_,_,_,h=>by simp[cZ]at h
 | .cst _,_,_,_,_,h=>by simp[cZ]at h
def Vx{t:Bool}{w w':World}{A i:Nat->Nat->Prop}(j:∀b o,A b o->i b o/\w'.cell? ⟨b,o,none⟩=w.cell? ⟨b,o,none⟩)(l:∀b o,A b o->shape w' b=shape w b):∀(cs:List af) (F a:Nat->Prop) (us:List Value),(∀b,F b->a b)->kF t w A F cs us->kF t w' i a cs us
 |[],_,_,_,_,h=>by simp only[kF]at h⊢;exact h
 |c::cs,F,a,us,g,h=>by simp only[kF]at h⊢;obtain⟨u,k,e,d,J,⟨U,q,r⟩,⟨p,n⟩,m⟩:=h;exact⟨u,k,e,d,J,⟨fun b f=>g _ (U b f),fun b f=>g _ (q b f),r⟩,⟨vR j l c e e u (fun _ h=>h) p,n⟩,Vx j l cs d d k (fun _ h=>h) m⟩
def Hv{t:Bool}{w w':World}{A i:Nat->Nat->Prop}(j:∀b o,A b o->i b o/\w'.cell? ⟨b,o,none⟩=w.cell? ⟨b,o,none⟩)(l:∀b o,A b o->shape w' b=shape w b){sz:Nat}:∀(cs:List af) (F a:Nat->Prop) (us:List Value),(∀b,F b->a b)->jZ t w A F sz cs us->jZ t w' i a sz cs us
 |[],_,_,_,_,h=>by simp only[jZ]at h⊢;exact h
 |c::cs,F,a,us,g,h=>by simp only[jZ]at h⊢;obtain⟨u,k,e,d,J,⟨U,q,r⟩,⟨p,n⟩,m⟩:=h;exact⟨u,k,e,d,J,⟨fun b f=>g _ (U b f),fun b f=>g _ (q b f),r⟩,⟨vR j l c e e u (fun _ h=>h) p,n⟩,Hv j l cs d d k (fun _ h=>h) m⟩
end
mutual
def az(S:aB->Prop):af->Prop
 | .slice _ tag xs=>(match tag with| .own k=>S k| .tr k _=>S k| .lo k=>S k|_=>True)/\aH S xs
 | .agg cs=>aH S cs
 | .ptr k _=>S k
 | .eptr x=>az S x
 | .iface _ x=>az S x
 | .tuple bm=>aH S bm
 | .func _ dH=>aH S dH
 | .gmap k=>S k
 | .row _ k _=>S k
 | .rptr _ k _ _ _=>S k
 |_=>True
def aH(S:aB->Prop):List af->Prop
 |[]=>True
 |x::xs=>az S x/\aH S xs
end
mutual
def tD{S T:aB->Prop}(h:∀k,S k->T k):∀p:af,az S p->az T p
 | .junk,_=>by simp[az]
 | .int _ _,_=>by simp[az]
 | .bool _,_=>by simp[az]
 | .str _,_=>by simp[az]
 | .slice sz tag xs,a=>by simp only[az]at a⊢;exact⟨by cases tag<;>first|trivial|exact h _ a.1,jl h xs a.2⟩
 | .agg cs,a=>by simp only[az]at a⊢;exact jl h cs a
 | .ptr k _,a=>by simp only[az]at a⊢;exact h _ a
 | .eptr x,a=>by simp only[az]at a⊢;exact tD h x a
 | .iface _ x,a=>by simp only[az]at a⊢;exact tD h x a
 | .nilp,_=>by simp[az]
 | .tuple bm,a=>by simp only[az]at a⊢;exact jl h bm a
 | .func _ dH,a=>by simp only[az]at a⊢;exact jl h dH a
 | .gmap k,a=>by simp only[az]at a⊢;exact h _ a
 | .row _ k _,a=>by simp only[az]at a⊢;exact h _ a
 | .rptr _ k _ _ _,a=>by simp only[az]at a⊢;exact h _ a
 | .hdm _ _,_=>by simp[az]
 | .hdi _ _ _,_=>by simp[az]
 | .cst _,_=>by simp[az]
def jl{S T:aB->Prop}(h:∀k,S k->T k):∀b:List af,aH S b->aH T b
 |[],_=>by simp[aH]
 |x::xs,a=>by simp only[aH]at a⊢;exact⟨tD h x a.1,jl h xs a.2⟩
end
mutual
def Iy:∀p:af,az (fun _=>True) p
 | .junk=>by simp[az]
 | .int _ _=>by simp[az]
 | .bool _=>by simp[az]
 | .str _=>by simp[az]
 | .slice sz tag xs=>by simp only[az];exact⟨by cases tag<;>trivial,wq xs⟩
 | .agg cs=>by simp only[az];exact wq cs
 | .ptr k _=>by simp[az]
 | .eptr x=>by simp only[az];exact Iy x
 | .iface _ x=>by simp only[az];exact Iy x
 | .nilp=>by simp[az]
 | .tuple bm=>by simp only[az];exact wq bm
 | .func _ dH=>by simp only[az];exact wq dH
 | .gmap k=>by simp[az]
 | .row _ k _=>by simp[az]
 | .rptr _ k _ _ _=>by simp[az]
 | .hdm _ _=>by simp[az]
 | .hdi _ _ _=>by simp[az]
 | .cst _=>by simp[az]
def wq:∀a:List af,aH (fun _=>True) a
 |[]=>by simp[aH]
 |x::xs=>by simp only[aH];exact⟨Iy x,wq xs⟩
end
def gS:List Nat->List Value->List MapEntry
 |b::a,k::v::r=>⟨k,v,b⟩::gS a r
 |_,_=>[]
def l1(cs:List af)(us:Array Value)(el:gQ):Obj:=
 match cs with
 | .hdm clock borns::_=>.map (gS borns us.toList).toArray clock
 | .hdi since seen last::_=>.mapIter (match us.toList with|[.map m]=>m|_=>none) since seen.toArray last
 |_=>.cells us el
structure amw (clock:Nat) (borns:List Nat) (r:List af):Prop where
 len:r.length=2*borns.length
 inc:borns.Pairwise (· < ·)
 lt:∀b∈borns,b<clock
def k3(w:World)(ν:bd)(cs:List af)(us:List Value):Prop:=
 match cs with
 | .hdm clock borns::r=>c7 w ν r us/\amw clock borns r
 | .hdi _ _ _::r=>c7 w ν r us
 |cs=>cW w ν cs us
def gY:List af->Bool
 | .hdm _ _::_=>false
 | .hdi _ _ _::_=>false
 |_=>true
def wK{w:World}{ν:bd}{cs:List af}{us:List Value}(h:cW w ν cs us):gY cs=true:=by
 unfold gY;split
 ·simp only[cW,aU]at h;obtain⟨_,_,_,⟨h,_⟩,_⟩:=h;exact h.elim
 ·simp only[cW,aU]at h;obtain⟨_,_,_,⟨h,_⟩,_⟩:=h;exact h.elim
 ·rfl
def pg{cs:List af}(h:gY cs=true)(us:Array Value)(el:gQ):l1 cs us el= .cells us el:=by
 unfold gY at h;unfold l1;split at h<;>first|cases h|skip
 rfl
def pj{w:World}{ν:bd}{cs:List af}(h:gY cs=true)(us:List Value):k3 w ν cs us=cW w ν cs us:=by
 unfold gY at h;unfold k3;split at h<;>first|cases h|skip
 rfl
structure oi (S:aB->Prop) (w:World) (ν:bd) (w':World) (bo:bd):Prop where
 A:∀b o,ν.A b o->bo.A b o/\w'.cell? ⟨b,o,none⟩=w.cell? ⟨b,o,none⟩
 bx:∀k b,S k->ν.bx k=some b->bo.bx k=some b
 ow:∀g n u,S g->ν.ow g=some (n,u)->∃n' eM,bo.ow g=some (n',eM)/\(n'=n/\eM=u\/n<n')
 sh:∀b o,ν.A b o->shape w' b=shape w b
 tr:∀k j b,S k->ν.tr k j b->bo.tr k j b
abbrev mz:=oi (fun _=>True)
mutual
def vd{S:aB->Prop}{w w':World}{ν bo:bd}(ar:oi S w ν w' bo):∀(p:af) (v:Value),az S p->aU w ν p v->aU w' bo p v
 | .junk,_,_,_=>by simp[aU]
 | .int k n,_,_,h=>by simp only[aU]at h⊢;exact h
 | .bool b,_,_,h=>by simp only[aU]at h⊢;exact h
 | .str s,_,_,h=>by simp only[aU]at h⊢;exact h
 | .slice sz tag xs,v,ab,h=>by
  simp only[aU,az]at h ab⊢;obtain⟨⟨a,cap,J,U,l,d⟩,o,y,A,z⟩:=h;refine⟨⟨a,cap,J,U,l,?_⟩,o,fun g a7=>?_,fun k j m=>?_,fun k m=>?_⟩
  ·rcases d with d|⟨b,off,us,d,y,B⟩
   ·exact .inl d
   ·exact .inr ⟨b,off,us,d,B1 ar.A _ _ y,JG ar sz xs us ab.2 B⟩
  ·obtain⟨n,u,G,H,F⟩:=y g a7;subst a7;obtain⟨n',E,f1,f2⟩:=ar.ow g n u ab.1 G;refine⟨n',E,f1,?_⟩;rcases f2 with⟨rfl,rfl⟩|f2
   ·exact⟨H,F⟩
   ·exact⟨Ω,fun e=>Ω⟩
  ·have:=A k j m;subst m;exact vR ar.A ar.sh _ _ _ _ (fun b=>ar.tr k j b ab.1) this
  ·have:=z k m;subst m;exact vR ar.A ar.sh _ _ _ _ (fun b=>ar.tr k 0 b ab.1) this
 | .agg cs,v,ab,h=>by simp only[aU,az]at h ab⊢;obtain⟨us,J,U⟩:=h;exact⟨us,J,JJ ar cs _ ab U⟩
 | .ptr key off,v,ab,h=>by simp only[aU,az]at h ab⊢;obtain⟨b,J,U⟩:=h;exact⟨b,ar.bx _ _ ab J,U⟩
 | .iface t x,v,ab,h=>by simp only[aU,az]at h ab⊢;obtain⟨u,J,U⟩:=h;exact⟨u,J,vd ar x u ab U⟩
 | .eptr x,v,ab,h=>by simp only[aU,az]at h ab⊢;obtain⟨b,off,u,J,U,l⟩:=h;exact⟨b,off,u,J,vd ar x u ab U,B1 ar.A _ _ l⟩
 | .nilp,_,_,h=>by simp only[aU]at h⊢;exact h
 | .tuple bm,v,ab,h=>by simp only[aU,az]at h ab⊢;obtain⟨us,J,U⟩:=h;exact⟨us,J,Ad ar bm _ ab U⟩
 | .func f dH,v,ab,h=>by simp only[aU,az]at h ab⊢;obtain⟨us,J,U⟩:=h;exact⟨us,J,Ad ar dH _ ab U⟩
 | .gmap key,v,ab,h=>by simp only[aU,az]at h ab⊢;obtain⟨b,J,U⟩:=h;exact⟨b,ar.bx _ _ ab J,U⟩
 | .row sz key n,v,ab,h=>by
  simp only[aU,az]at h ab⊢;obtain⟨J,U,n',u,l,d,o⟩:=h;obtain⟨r,q,f1,f2⟩:=ar.ow key n' u ab l;refine⟨J,U,r,q,f1,?_⟩;rcases f2 with⟨rfl,rfl⟩|f2
  ·exact⟨d,o⟩
  ·exact⟨Ω,fun e=>Ω⟩
 | .rptr sz key n i f,v,ab,h=>by
  simp only[aU,az]at h ab⊢;obtain⟨J,U,n',u,l,d,o⟩:=h;obtain⟨r,q,f1,f2⟩:=ar.ow key n' u ab l;refine⟨J,U,r,q,f1,?_⟩;rcases f2 with⟨rfl,rfl⟩|f2
  ·exact⟨d,o⟩
  ·exact⟨Ω,fun e=>Ω⟩
 | .hdm _ _,_,_,h=>by simp only[aU]at h
 | .hdi _ _ _,_,_,h=>by simp only[aU]at h
 | .cst c,_,_,h=>by simp only[aU]at h⊢;exact h
def JJ{S:aB->Prop}{w w':World}{ν bo:bd}(ar:oi S w ν w' bo):∀(cs:List af) (us:List Value),aH S cs->cW w ν cs us->cW w' bo cs us
 |[],_,_,h=>by simp only[cW]at h⊢;exact h
 |c::cs,us,ab,h=>by simp only[cW,aH]at h ab⊢;obtain⟨u,a,J,U,b⟩:=h;exact⟨u,a,J,⟨vd ar c u ab.1 U.1,U.2⟩,JJ ar cs a ab.2 b⟩
def Ad{S:aB->Prop}{w w':World}{ν bo:bd}(ar:oi S w ν w' bo):∀(cs:List af) (us:List Value),aH S cs->c7 w ν cs us->c7 w' bo cs us
 |[],_,_,h=>by simp only[c7]at h⊢;exact h
 |c::cs,us,ab,h=>by simp only[c7,aH]at h ab⊢;obtain⟨u,a,J,U,b⟩:=h;exact⟨u,a,J,vd ar c u ab.1 U,Ad ar cs a ab.2 b⟩
def JG{S:aB->Prop}{w w':World}{ν bo:bd}(ar:oi S w ν w' bo)(sz:Nat):∀(xs:List af) (us:List Value),aH S xs->dw w ν sz xs us->dw w' bo sz xs us
 |[],_,_,h=>by simp only[dw]at h⊢;exact h
 |x::xs,us,ab,h=>by simp only[dw,aH]at h ab⊢;obtain⟨u,a,J,⟨U,c,d⟩,b⟩:=h;exact⟨u,a,J,⟨vd ar x u ab.1 U,c,d⟩,JG ar sz xs a ab.2 b⟩
end
def PY{S:aB->Prop}{w w':World}{ν bo:bd}(ar:oi S w ν w' bo){cs:List af}{us:List Value}(ab:aH S cs)(h:k3 w ν cs us):k3 w' bo cs us:=by
 unfold k3 at h⊢;split
 ·simp only[aH]at ab;exact⟨Ad ar _ _ ab.2 h.1,h.2⟩
 ·simp only[aH]at ab;exact Ad ar _ _ ab.2 h
 ·rename_i J U;split at h
  ·exact absurd rfl (J _ _ _)
  ·exact absurd rfl (U _ _ _ _)
  ·exact JJ ar _ _ ab h
section
variable {w w':World} {ν bo:bd} (ar:mz w ν w' bo)
include ar
theorem Ae{p:af}{v:Value}(h:aU w ν p v):aU w' bo p v:=vd ar p v (Iy p) h
theorem abd{p:List af}{v:List Value}(h:cW w ν p v):cW w' bo p v:=JJ ar p v (wq p) h
theorem JK{p:List af}{v:List Value}(h:c7 w ν p v):c7 w' bo p v:=Ad ar p v (wq p) h
theorem rK{p:List af}{v:List Value}(h:k3 w ν p v):k3 w' bo p v:=PY ar (wq p) h
theorem CJ{sz:Nat}{p:List af}{v:List Value}(h:dw w ν sz p v):dw w' bo sz p v:=JG ar sz p v (wq p) h
end
end
section
open Go Go.RowKit
def get(k:Nat):List (Nat×af)->af
 |[]=>.junk
 |(i,p)::r=>if i=k then p else get k r
def put(k:Nat)(p:af):List (Nat×af)->List (Nat×af)
 |[]=>[(k,p)]
 |(i,q)::r=>if i=k then(i,p)::r else(i,q)::put k p r
def ae{α:Type}(k:aB):List (aB×α)->be α
 |[]=>none
 |(i,p)::r=>if i=k then some p else ae k r
def cK{α:Type}(k:aB)(p:α):List (aB×α)->List (aB×α)
 |[]=>[(k,p)]
 |(i,q)::r=>if i=k then(i,p)::r else(i,q)::cK k p r
def qw(k j:Nat)(p:af):∀l,get j (put k p l)=if k=j then p else get j l
 |[]=>by simp[get,put]
 |(i,q)::r=>by
  by_cases h:i=k
  ·subst h;by_cases U:i=j<;>simp[get,put,U]
  ·by_cases U:i=j
   ·subst U;simp[get,put,h,Ne.symm h]
   ·simp[get,put,h,U,qw k j p r]
def jm{α:Type}(k j:aB)(p:α):∀l,ae j (cK k p l)=if k=j then some p else ae j l
 |[]=>by simp[ae,cK]
 |(i,q)::r=>by
  by_cases h:i=k
  ·subst h;by_cases U:i=j<;>simp[ae,cK,U]
  ·by_cases U:i=j
   ·subst U;simp[ae,cK,h,Ne.symm h]
   ·simp[ae,cK,h,U,jm k j p r]
structure dW where
 n:Nat
 el:Nat
 sz:Nat
 xs:be (List af)
def P4(w:World)(ν:bd)(o:dW)(v:Value)(us:List Value):Prop:=∀xs,o.xs=some xs->xs.length=o.n/\dw w ν o.sz xs us/\∀bl,v.ownBlock=some bl->∀j,¬ν.A bl j
def tU{w w':World}{ν bo:bd}(ar:mz w ν w' bo){o:dW}{v:Value}{us:List Value}(c:∀bl,v.ownBlock=some bl->∀j,bo.A bl j->ν.A bl j)(h:P4 w ν o v us):P4 w' bo o v us:=fun xs a=>⟨(h xs a).1,CJ ar (h xs a).2.1,fun bl b j d=>(h xs a).2.2 bl b j (c bl b j d)⟩
def dV(S:aB->Prop)(o:dW):Prop:= ∀xs,o.xs=some xs->aH S xs
structure bp where
 t:List (Nat×af)
 b:List (aB×List af)
 e:List (aB×dW)
 n:Nat
 o:List aB
def fresh(n:Nat)(o:List aB)(k:aB):Prop:=(match k with| .loc m=>n<=m| .obj _=>True)/\k∉o
def Mm{n n':Nat}{o o':List aB}(a:n<=n')(ar:∀k∈o,k∈o'){k:aB}(h:fresh n' o' k):fresh n o k:=by unfold fresh at h⊢;exact⟨by cases k<;>simp at h⊢;omega,fun ab=>h.2 (ar k ab)⟩
def CY(ν:bd)(b:List (aB×List af))(e:List (aB×dW))(bl:Nat):Prop:=(∃k,(ae k b).isSome/\ν.bx k=some bl)\/(∃g n v,(ae g e).isSome/\ν.ow g=some (n,v)/\v.ownBlock=some bl)
structure Good (pr:Nat->Prop) (w:World) (ν:bd) (b:List (aB×List af)) (e:List (aB×dW)):Prop where
 alt:∀bl o,ν.A bl o->bl<w.heap.size
 box:∀k cs,ae k b=some cs->∃bl us el,ν.bx k=some bl/\pr bl/\(∀o,¬ν.A bl o)/\w.heap[bl]? =some (l1 cs us el)/\k3 w ν cs us.toList
 inj:∀k bs bl,(ae k b).isSome->(ae bs b).isSome->ν.bx k=some bl->ν.bx bs=some bl->k=bs
 own:∀g o,ae g e=some o->∃v us,ν.ow g=some (o.n,v)/\w.ownsRow 0 o.el o.sz v o.n us/\(∀bl,v.ownBlock=some bl->pr bl/\(∀j,ν.A bl j->j<o.n*o.sz))/\P4 w ν o v us
 oinj:∀g fD n n' v v' bl,(ae g e).isSome->(ae fD e).isSome->ν.ow g=some (n,v)->ν.ow fD=some (n',v')->v.ownBlock=some bl->v'.ownBlock=some bl->g=fD
 obx:∀g k n v bl,(ae g e).isSome->(ae k b).isSome->ν.ow g=some (n,v)->v.ownBlock=some bl->ν.bx k=some bl->er
 one:∀k,ν.bx k=none\/ν.ow k=none
 otr:∀bl,CY ν b e bl->∀k j,¬ν.tr k j bl
structure fq where
 w0:World
 ν0:bd
 mt:Nat->Prop
 N:Nat
 ob:List aB
def fq.pr(C:fq)(bl:Nat):Prop:=C.mt bl\/C.w0.heap.size<=bl
def eg:aB:= .obj 990001
def qS:aB:= .obj 990002
structure pC (C:fq) (w:World) (ν:bd):Prop where
 os:w.os=C.w0.os
 tape:w.tape=C.w0.tape
 output:w.output=C.w0.output
 size:C.w0.heap.size<=w.heap.size
 block:∀k,k<C.w0.heap.size->¬C.mt k->w.heap[k]? =C.w0.heap[k]?
 keep:∀b o,C.ν0.A b o->ν.A b o/\w.cell? ⟨b,o,none⟩=C.w0.cell? ⟨b,o,none⟩
 fresh:∀b o,ν.A b o->C.ν0.A b o\/C.pr b
 obj:∀n b,C.ν0.bx (.obj n)=some b->ν.bx (.obj n)=some b
 obn:∀n b,C.ν0.bx (.obj n)=some b-> .obj n∈C.ob
 row:∀m n u,C.ν0.ow (.obj m)=some (n,u)->∃n' eM,ν.ow (.obj m)=some (n',eM)/\(n'=n/\eM=u\/n<n')
 obr:∀m n u,C.ν0.ow (.obj m)=some (n,u)-> .obj m∈C.ob
 trd:∀k j bs dh b,ν.tr k j b->ν.tr bs dh b->k=bs/\j=dh
 trb:∀k j b,ν.tr k j b->(k=eg\/C.w0.heap.size<=b)/\b<w.heap.size
 trn:∀k j b,ν.tr k j b->ν.bx k=none/\ν.ow k=none
 sh:∀b o,C.ν0.A b o->shape w b=shape C.w0 b
def FH{ν bo:bd}{g:aB}{n:Nat}{u:Value}(h:∃n' a,ν.ow g=some (n',a)/\(n'=n/\a=u\/n<n'))(ar:∀n u,ν.ow g=some (n,u)->∃n' a,bo.ow g=some (n',a)/\(n'=n/\a=u\/n<n')):
  ∃n' a,bo.ow g=some (n',a)/\(n'=n/\a=u\/n<n'):=by
 obtain⟨e,d,i,b⟩:=h;obtain⟨f,c,f1,f2⟩:=ar e d i;refine⟨f,c,f1,?_⟩;rcases b with⟨rfl,rfl⟩|b
 ·exact f2
 ·rcases f2 with⟨rfl,rfl⟩|f2
  ·exact .inr b
  ·exact .inr Ω
structure c9 (C:fq) (st:bp) (a:Act) (w:World) (ν:bd):Prop where
 good:Good C.pr w ν st.b st.e
 fr:pC C w ν
 defers:a.defers=[]
 size:a.tmps.size=C.N
 slot:∀i,aU w ν (get i st.t) (a.tmps.getD i undef)
 new:∀k,fresh st.n st.o k->ν.bx k=none/\ν.ow k=none/\∀j b,¬ν.tr k j b
def e6(d:be Nat)(p:af)(t:List (Nat×af)):List (Nat×af):=
 match d with
 |some d=>put d p t
 |none=>t
def j9(N:Nat)(d:be Nat):Bool:=match d with|some d=>decide (d<N)|none=>true
def c9.put{C:fq}{st:bp}{a:Act}{w:World}{ν:bd}(h:c9 C st a w ν){d:be Nat}(f:j9 C.N d=true){p:af}{v:Value}(c:aU w ν p v):
  c9 C {st with t:=e6 d p st.t} (a.put d v) w ν:=by
 cases d with
 |none=>exact h
 |some d=>
  have b:d<a.tmps.size:=by rw[h.size];simpa[j9]using f
  refine⟨h.good,h.fr,h.defers,by simpa[Act.put]using h.size,fun i=>?_,h.new⟩;simp only[e6,qw];by_cases e:d=i
  ·subst e;simpa[Act.put,Array.getD_eq_getD_getElem?,b]using c
  ·have:=h.slot i;simpa[e,Act.put,Array.getD_eq_getD_getElem?,Array.getElem?_setIfInBounds_ne e]using this
def c9.over{C:fq}{st st':bp}{a:Act}{w w':World}{ν bo:bd}(h:c9 C st a w ν)(ar:mz w ν w' bo)(c:st'.t=st.t)(a7:Good C.pr w' bo st'.b st'.e)(d:pC C w' bo)
  (e:∀k,fresh st'.n st'.o k->bo.bx k=none/\bo.ow k=none/\∀j b,¬bo.tr k j b):c9 C st' a w' bo:=
 ⟨a7,d,h.defers,h.size,fun i=>by rw[c];exact Ae ar (h.slot i),e⟩
inductive dQ where
 |t (i:Nat)
 |c (p:af)
 deriving Inhabited
def cF(t:List (Nat×af)):dQ->af
 | .t i=>get i t
 | .c p=>p
def GJ:af->Value->Bool
 | .int k n,.int bs n'=>decide (k=bs/\n=n')
 | .bool b,.bool b2=>b==b2
 | .str s,.string l=>decide (l.data.toList=s/\s.length<=lim)
 | .slice _ .nil [],.slice none 0 0=>true
 | .nilp,.pointer none=>true
 | .tuple [],.tuple ⟨[]⟩=>true
 | .func f [],.func (.func g) ⟨[]⟩ ⟨[]⟩=>f==g
 | .junk,_=>true
 |_,_=>false
def RZ(w:World)(ν:bd){p:af}{v:Value}(h:GJ p v=true):aU w ν p v:=by
 unfold GJ at h;split at h
 ·simp at h;obtain⟨rfl,rfl⟩:=h;simp[aU]
 ·simp at h;subst h;simp[aU]
 ·rename_i s l;simp at h;obtain⟨J,U⟩:=h;refine⟨?_,U⟩;subst J;simp
 ·simp only[aU];refine⟨⟨none,0,rfl,Ψ,Ψ,Ψ⟩,Ψ,(fun _ h=>by cases h),(fun _ _ h=>by cases h),(fun _ h=>by cases h)⟩
 ·simp[aU]
 ·simp[aU,c7]
 ·simp at h;subst h;simp[aU,c7]
 ·simp[aU]
 ·cases h
def AN:List af->List Value->Bool
 |[],[]=>true
 |p::a,v::bm=>GJ p v&&v.oneCell'&&AN a bm
 |_,_=>false
def AM:af->Value->Bool
 | .agg cs,.agg us=>AN cs us.toList
 |p,v=>GJ p v
def R0(w:World)(ν:bd):∀(a:List af) (bm:List Value),AN a bm=true->cW w ν a bm
 |[],[],_=>by simp[cW]
 |[],_::_,h=>by simp[AN]at h
 |_::_,[],h=>by simp[AN]at h
 |p::a,v::bm,h=>by simp only[AN,cR]at h;simp only[cW];exact⟨v,bm,rfl,⟨RZ w ν h.1.1,h.1.2⟩,R0 w ν a bm h.2⟩
def K3(w:World)(ν:bd){p:af}{v:Value}(h:AM p v=true):aU w ν p v:=by
 unfold AM at h;split at h
 ·simp only[aU];exact⟨_,rfl,R0 w ν _ _ h⟩
 ·exact RZ w ν h
def eT:dQ->Operand->Bool
 | .t i,.tmp j=>i==j
 | .c p,.const v=>AM p v
 | .c (.func f []),.func g=>f==g
 |_,_=>false
def e4{C:fq}{st:bp}{a:Act}{w:World}{ν:bd}(h:c9 C st a w ν){x:dQ}{o:Operand}(b:eT x o=true):aU w ν (cF st.t x) (a.eval o):=by
 unfold eT at b;split at b
 ·simp at b;subst b;simpa[cF,Act.eval]using h.slot _
 ·simpa[cF,Act.eval]using K3 w ν b
 ·simp at b;subst b;simp[cF,Act.eval,aU,c7]
 ·cases b
inductive Dh where
 |int (k:IntKind)
 |bool
 |str
 |slice (e:Nat)
 |struct (ek:List (Nat×Nat))
 |map (k e:Nat)
 |other
 deriving DecidableEq
structure ev where
 size:Nat
 bytes:Nat
 kind:Dh
 zero:af
def Dh.isAgg:Dh->Bool
 | .struct _=>true
 |_=>false
def C9:List af->List Value->Bool
 |[],[]=>true
 |p::a,v::bm=>AM p v&&v.oneCell'&&C9 a bm
 |_,_=>false
def Ay:af->Value->Bool
 | .agg cs,.agg us=>C9 cs us.toList
 | .agg _,_=>false
 |p,v=>AM p v&&v.oneCell'
def k8:Dh->TypeDesc->Bool
 | .int k,.int bs=>decide (k=bs)
 | .bool,.bool=>true
 | .str,.string=>true
 | .slice e,.slice a=>e==a
 | .struct b,.struct gs=>decide (gs.toList.map (fun f=>(f.offset,f.type))=b)
 | .map k e,.map bs a=>k==bs&&e==a
 | .other,d=>match d with| .struct _| .array _ _| .int _| .bool| .string| .slice _=>false|_=>true
 |_,_=>false
def Vk(P:cI)(gs:Array Field):Bool:=gs.toList.all fun f=>match P.underlying f.type with|some (.int _)=>true|some .string=>true|_=>false
def Ub(P:cI)(t:Nat)(gs:Array Field):Bool:=gs.toList.all (fun f=>f.name != "_")&& !P.stoodInHeld t&& !P.eqGuardType P.depth t
def LB(P:cI)(t:Nat):TypeDesc->Bool
 | .struct gs=> !Vk P gs||Ub P t gs
 |_=>true
def QQ(P:cI)(t:Nat)(f:ev):Bool:=
 match P.info? t,P.underlying t with
 |some i,some d=>LB P t d&&i.size==f.size&&i.bytes==f.bytes&&k8 f.kind d&&(match i.zero with|some z=>Ay f.zero z&&z.cells.size==f.size|none=>false)
 |_,_=>false
def h1(P:cI)(aT:List (Nat×ev)):Bool:=aT.all fun x=>QQ P x.1 x.2
def eG(aT:List (Nat×ev))(t:Nat):be ev:=(aT.find? fun x=>x.1==t).map (·.2)
def arN{P:cI}{aT:List (Nat×ev)}(h:h1 P aT=true){t:Nat}{f:ev}(b:eG aT t=some f):QQ P t f=true:=by
 unfold eG at b;cases a:aT.find? fun x=>x.1==t with
 |none=>simp[a]at b
 |some x=>simp[a]at b;have J:=List.find?_some a;simp at J;have U:=List.mem_of_find?_eq_some a;have c:=j7.1 h x U;rw[<-b,<-J];exact c
structure adF (P:cI) (t:Nat) (f:ev):Prop where
 cmp:∀d,P.underlying t=some d->LB P t d=true
 ex:∃i d z,P.info? t=some i/\P.underlying t=some d/\i.size=f.size/\i.bytes=f.bytes/\k8 f.kind d=true/\i.zero=some z/\Ay f.zero z=true/\z.cells.size=f.size
def wT{P:cI}{aT:List (Nat×ev)}(h:h1 P aT=true){t:Nat}{f:ev}(l:eG aT t=some f):adF P t f:=by
 have h:=arN h l;unfold QQ at h;split at h
 ·rename_i i d J U;simp only[cR,ey]at h;obtain⟨⟨⟨⟨g,j⟩,k⟩,c⟩,a⟩:=h;split at a
  ·rename_i z e;simp only[cR,ey]at a;exact⟨fun m b=>by rw[U]at b;cases b;exact g,i,d,z,J,U,j,k,c,e,a.1,a.2⟩
  ·cases a
 ·cases h
def pI(b o j:Nat):(⟨b,o,none⟩:Addr).add j=⟨b,o+j,none⟩:=by
 unfold Addr.add;split
 ·rename_i h;subst h;rfl
 ·rfl
def Ra(w:World)(ν:bd):∀(a:List af) (bm:List Value),C9 a bm=true->cW w ν a bm
 |[],[],_=>by simp[cW]
 |[],_::_,h=>by simp[C9]at h
 |_::_,[],h=>by simp[C9]at h
 |p::a,v::bm,h=>by simp only[C9,cR]at h;simp only[cW];exact⟨v,bm,rfl,⟨K3 w ν h.1.1,h.1.2⟩,Ra w ν a bm h.2⟩
def cells:af->List af
 | .agg cs=>cs
 |p=>[p]
def eU:af->Bool
 | .junk| .tuple _=>false
 | .cst (.slice _ _ _)| .cst (.string _)=>true
 | .cst _=>false
 |_=>true
def P3{w:World}{ν:bd}{p:af}{v:Value}(h:aU w ν p v)(d:eU p=true)(e:∀cs,p≠ .agg cs):v.oneCell'=true/\v.cells= #[v]:=by
 cases p<;>simp only[aU,eU]at h d;case junk=>cases d
 case tuple=>cases d
 case cst c=>subst h;cases v<;>first|exact⟨rfl,rfl⟩|cases d
 case agg cs=>exact absurd rfl (e cs)
 case int=>subst h;exact⟨rfl,rfl⟩
 case bool=>subst h;exact⟨rfl,rfl⟩
 case str=>rw[h.1];exact⟨rfl,rfl⟩
 case slice=>obtain⟨⟨a,cap,J,_⟩,_⟩:=h;subst J;exact⟨rfl,rfl⟩
 case ptr=>obtain⟨b,_,J⟩:=h;subst J;exact⟨rfl,rfl⟩
 case eptr=>obtain⟨b,o,u,J,_⟩:=h;subst J;exact⟨rfl,rfl⟩
 case iface=>obtain⟨u,J,_⟩:=h;subst J;exact⟨rfl,rfl⟩
 case nilp=>subst h;exact⟨rfl,rfl⟩
 case func=>obtain⟨us,J,_⟩:=h;subst J;exact⟨rfl,rfl⟩
 case gmap=>obtain⟨b,_,J⟩:=h;subst J;exact⟨rfl,rfl⟩
 case row=>obtain⟨⟨a,cap,J⟩,_⟩:=h;subst J;exact⟨rfl,rfl⟩
 case rptr=>obtain⟨⟨a,o,J⟩,_⟩:=h;subst J;exact⟨rfl,rfl⟩
def wL{w:World}{ν:bd}{p:af}{v:Value}(h:aU w ν p v)(c:eU p=true):cW w ν (cells p) v.cells.toList:=by
 by_cases b:∃cs,p= .agg cs
 ·obtain⟨cs,rfl⟩:=b;simp only[aU]at h;obtain⟨us,rfl,U⟩:=h;simpa[cells,pw]using U
 ·have a:∀cs,p≠ .agg cs:=fun cs e=>b ⟨cs,e⟩;obtain⟨J,U⟩:=P3 h c a;have aw:cells p=[p]:=by cases p<;>first|rfl|exact absurd rfl (a _)
  rw[aw,U];simp only[cW];exact⟨v,[],rfl,⟨h,J⟩,rfl⟩
def CL{w:World}{ν:bd}:∀{a:List af} {bm:List Value},cW w ν a bm->∀c∈bm,c.oneCell'=true
 |[],bm,h=>by simp only[cW]at h;subst h;simp
 |p::a,bm,h=>by
  simp only[cW]at h;obtain⟨u,b,rfl,J,U⟩:=h;intro c aw;rcases gJ.1 aw with rfl|aw
  ·exact J.2
  ·exact CL U c aw
def qR{w:World}{ν:bd}:∀{a:List af} {bm:List Value},cW w ν a bm->bm.length=a.length
 |[],bm,h=>by simp only[cW]at h;subst h;rfl
 |p::a,bm,h=>by simp only[cW]at h;obtain⟨u,b,rfl,_,U⟩:=h;simp[qR U]
def CK{w:World}{ν:bd}:∀(n:Nat) {a:List af} {bm:List Value},cW w ν a bm->cW w ν (a.drop n) (bm.drop n)
 |0,_,_,h=>by simpa using h
 |n+1,[],bm,h=>by simp only[cW]at h;subst h;simp[cW]
 |n+1,p::a,bm,h=>by simp only[cW]at h;obtain⟨u,b,rfl,_,U⟩:=h;simpa using CK n U
def FD{w:World}{ν:bd}:∀(n:Nat) {a:List af} {bm:List Value},cW w ν a bm->cW w ν (a.take n) (bm.take n)
 |0,_,_,_=>by simp[cW]
 |n+1,[],bm,h=>by simp only[cW]at h;subst h;simp[cW]
 |n+1,p::a,bm,h=>by simp only[cW]at h;obtain⟨u,b,rfl,J,U⟩:=h;simp only[List.take_succ_cons,cW];exact⟨u,_,rfl,J,FD n U⟩
def Ab{w:World}{ν:bd}:∀{b bV:List af} {bm us:List Value},cW w ν b bm->cW w ν bV us->cW w ν (b++bV) (bm++us)
 |[],bV,bm,us,h,a=>by simp only[cW]at h;subst h;simpa using a
 |p::b,bV,bm,us,h,a=>by simp only[cW]at h;obtain⟨u,c,rfl,J,U⟩:=h;simp only[b6,cW];exact⟨u,_,rfl,J,Ab U a⟩
def FC{w:World}{ν:bd}:∀(n:Nat) {b:List af} {bm:List Value} {p:af},cW w ν b bm->b[n]? =some p->∃v,bm[n]? =some v/\aU w ν p v/\v.oneCell'=true
 |n,[],_,p,_,a=>by simp at a
 |0,q::b,bm,p,h,a=>by simp only[cW]at h;obtain⟨u,c,rfl,J,_⟩:=h;simp at a;subst a;exact⟨u,rfl,J.1,J.2⟩
 |n+1,q::b,bm,p,h,a=>by simp only[cW]at h;obtain⟨u,c,rfl,_,U⟩:=h;simpa using FC n U (by simpa using a)
def FF{w:World}{ν:bd}:∀(n:Nat) {b:List af} {bm:List Value} {p:af},c7 w ν b bm->b[n]? =some p->∃v,bm[n]? =some v/\aU w ν p v
 |n,[],_,p,_,a=>by simp at a
 |0,q::b,bm,p,h,a=>by simp only[c7]at h;obtain⟨u,c,rfl,J,_⟩:=h;simp at a;subst a;exact⟨u,rfl,J⟩
 |n+1,q::b,bm,p,h,a=>by simp only[c7]at h;obtain⟨u,c,rfl,_,U⟩:=h;simpa using FF n U (by simpa using a)
def uY{w:World}{A:Nat->Nat->Prop}{b:Nat}:∀{us:List Value} {off j:Nat} {u:Value},kY w A b off us->us[j]? =some u->A b (off+j)/\w.cell? ⟨b,off+j,none⟩=some u
 |[],_,_,_,_,h=>by simp at h
 |x::us,off,0,u,a,h=>by simp at h;subst h;exact a.1
 |x::us,off,j+1,u,a,h=>by have:=uY (j:=j) a.2 (by simpa using h);rwa[show off+1+j=off+(j+1)from by omega]at this
def IA{w:World}{A:Nat->Nat->Prop}{b:Nat}:∀(n:Nat) {us:List Value} {off:Nat},kY w A b off us->kY w A b (off+n) (us.drop n)
 |0,_,_,h=>by simpa using h
 |n+1,[],_,_=>by simp[kY]
 |n+1,x::us,off,h=>by have:=IA n h.2;rw[show off+(n+1)=off+1+n from by omega];simpa using this
def IC{w:World}{A:Nat->Nat->Prop}{b:Nat}:∀(n:Nat) {us:List Value} {off:Nat},kY w A b off us->kY w A b off (us.take n)
 |0,_,_,_=>by simp[kY]
 |n+1,[],_,_=>by simp[kY]
 |n+1,x::us,off,h=>by simp only[List.take_succ_cons];exact⟨h.1,IC n h.2⟩
def abv{P:cI}{w:World}{A:Nat->Nat->Prop}{b off:Nat}{us:List Value}(h:kY w A b off us):(loadCells ⟨b,off,none⟩ us.length).run P w= .ok us.toArray w:=run_loadCells_list w _ us fun j v a=>by rw[pI];exact(uY h a).2
def aqO{P:cI}{w:World}{b off n:Nat}{us:Array Value}{el:gQ}{fr:Nat×Nat}(h:w.heap[b]? =some (.cells us el fr))(e:off+n<=us.size):
  (loadCells ⟨b,off,none⟩ n).run P w= .ok ((us.toList.drop off).take n).toArray w:=by
 have d:((us.toList.drop off).take n).length=n:=by simp;omega
 have:=run_loadCells_list (P:=P) w ⟨b,off,none⟩ ((us.toList.drop off).take n) fun j v c=>by
  rw[pI];have a:j<n:=by have:=(fH.1 c).1;omega
  simp only[World.cell?,h,kh,hT,if_false];rw[List.getElem?_take]at c;simpa[a]using c
 rw[d]at this;exact this
def Uq{α:Type}(l r:List α)(n sz:Nat)(h:l.length=sz):(l++r).drop ((n+1)*sz)=r.drop (n*sz):=by
 have e:(n+1)*sz=l.length+n*sz:=by rw[h,Nat.succ_mul,Nat.add_comm]
 rw[e,<-List.drop_drop];simp
def ab5{α:Type}(l r:List α)(n sz:Nat)(h:l.length=sz):(l++r).take ((n+1)*sz)=l++r.take (n*sz):=by
 have e:(n+1)*sz=l.length+n*sz:=by rw[h,Nat.succ_mul,Nat.add_comm]
 rw[e,List.take_length_add_append]
def JF{w:World}{ν:bd}{sz:Nat}:∀(i:Nat) {xs:List af} {us:List Value} {p:af},dw w ν sz xs us->xs[i]? =some p->
  ∃u,aU w ν p u/\u.cells.size=sz/\u.cells.toList=(us.drop (i*sz)).take sz
 |i,[],_,p,_,a=>by simp at a
 |0,x::xs,us,p,h,a=>by
  simp only[dw]at h;obtain⟨u,c,rfl,⟨J,U,d⟩,_⟩:=h;simp at a;subst a;refine⟨u,J,U,?_⟩;have:u.cells.toList.length=sz:=by simpa using U
  simp[<-this]
 |i+1,x::xs,us,p,h,a=>by
  simp only[dw]at h;obtain⟨u,c,rfl,⟨_,U,_⟩,b⟩:=h;obtain⟨v,g1,g2,g3⟩:=JF i b (by simpa using a);refine⟨v,g1,g2,?_⟩;have:u.cells.toList.length=sz:=by simpa using U
  rw[g3,Uq _ _ _ _ this]
def rL{w:World}{ν:bd}{sz:Nat}:∀{xs:List af} {us:List Value},dw w ν sz xs us->us.length=xs.length*sz
 |[],us,h=>by simp only[dw]at h;subst h;simp
 |x::xs,us,h=>by
  simp only[dw]at h;obtain⟨u,b,rfl,⟨_,U,_⟩,a⟩:=h;have:u.cells.toList.length=sz:=by simpa using U
  rw[qe,this,rL a,mw,Nat.succ_mul];omega
def Aa{w:World}{ν:bd}{sz:Nat}:∀{xs:List af} {us:List Value},dw w ν sz xs us->∀c∈us,c.oneCell'=true
 |[],us,h=>by simp only[dw]at h;subst h;simp
 |x::xs,us,h=>by
  simp only[dw]at h;obtain⟨u,d,rfl,⟨_,_,b⟩,a⟩:=h;intro c aw;rcases kg.1 aw with aw|aw
  ·exact b c aw
  ·exact Aa a c aw
def FB{w:World}{ν:bd}{sz:Nat}:∀{b bV:List af} {bm us:List Value},dw w ν sz b bm->dw w ν sz bV us->dw w ν sz (b++bV) (bm++us)
 |[],bV,bm,us,h,a=>by simp only[dw]at h;subst h;simpa using a
 |p::b,bV,bm,us,h,a=>by simp only[dw]at h;obtain⟨u,c,rfl,J,U⟩:=h;simp only[b6,dw];exact⟨u,c++us,Ψ,J,FB U a⟩
def aa9{w:World}{ν:bd}{sz:Nat}:∀(n:Nat) {xs:List af} {us:List Value},dw w ν sz xs us->dw w ν sz (xs.drop n) (us.drop (n*sz))
 |0,_,_,h=>by simpa using h
 |n+1,[],us,h=>by simp only[dw]at h;subst h;simp[dw]
 |n+1,x::xs,us,h=>by
  simp only[dw]at h;obtain⟨u,b,rfl,⟨_,U,_⟩,a⟩:=h;have:u.cells.toList.length=sz:=by simpa using U
  rw[Uq _ _ _ _ this];simpa using aa9 n a
def abc{w:World}{ν:bd}{sz:Nat}:∀(n:Nat) {xs:List af} {us:List Value},dw w ν sz xs us->dw w ν sz (xs.take n) (us.take (n*sz))
 |0,_,_,_=>by simp[dw]
 |n+1,[],us,h=>by simp only[dw]at h;subst h;simp[dw]
 |n+1,x::xs,us,h=>by
  simp only[dw]at h;obtain⟨u,b,rfl,⟨J,U,c⟩,a⟩:=h;have:u.cells.toList.length=sz:=by simpa using U
  simp only[List.take_succ_cons,dw];refine⟨u,b.take (n*sz),?_,⟨J,U,c⟩,abc n a⟩;rw[ab5 _ _ _ _ this]
def qJ(sz:Nat)(p:af):Prop:= ∃cs,p= .agg cs/\cs.length=sz
def Af(agg:Bool)(sz b n i f:Nat):be dW->be (Prop×af)
 |some ⟨n',_,a,some xs⟩=>if n'=n/\a=b then
   (match xs[i]? with
    |some p=>if agg then some (eU p=true/\f+sz<=(cells p).length,.agg (((cells p).drop f).take sz))else((cells p)[f]?).map fun q=>(eU p=true,q)
    |none=>none)else none
 |_=>none
def n3(b:List (aB×List af))(e:List (aB×dW))(agg:Bool)(sz:Nat):af->be (Prop×af)
 | .rptr a k n i f=>Af agg sz a n i f (ae k e)
 | .ptr k off=>
  match ae k b with
  |some cs=>if agg then some (gY cs=true/\off+sz<=cs.length,.agg ((cs.drop off).take sz))else(cs[off]?).map fun p=>(gY cs=true,p)
  |none=>none
 | .eptr p=>if agg then some (qJ sz p,p)else some (eU p=true/\cells p=[p],p)
 |_=>none
def DW(agg:Bool)(sz:Nat):af->be (Prop×af)
 | .eptr p=>if agg then some (qJ sz p,p)else some (eU p=true/\cells p=[p],p)
 |_=>none
def aiz{b:List (aB×List af)}{e:List (aB×dW)}{agg:Bool}{sz:Nat}{p:af}{r:Prop×af}(h:DW agg sz p=some r):n3 b e agg sz p=some r:=by
 cases p<;>simp only[DW]at h<;>first|cases h;done|skip
 simpa only[n3]using h
def amo{b:List (aB×List af)}{e:List (aB×dW)}{agg:Bool}{sz:Nat}{p:af}{r:Prop×af}(h:n3 b [] agg sz p=some r):n3 b e agg sz p=some r:=by cases p<;>simp only[n3]at h⊢ <;>first|exact h|(simp[ae,Af]at h)
def sX(off:Nat)(agg:Bool)(sz:Nat):af->be (Prop×af)
 | .ptr k o=>some (True,.ptr k (o+off))
 | .rptr a k n i f=>some (True,.rptr a k n i (f+off))
 | .eptr (.agg cs)=>if agg then some (off+sz<=cs.length,.eptr (.agg ((cs.drop off).take sz)))else(cs[off]?).map fun p=>(eU p=true/\cells p=[p],.eptr p)
 |_=>none
def vP(off:Nat)(agg:Bool)(sz:Nat):af->be (Prop×af)
 | .agg cs=>if agg then some (off+sz<=cs.length,.agg ((cs.drop off).take sz))else(cs[off]?).map fun p=>(True,p)
 |_=>none
def BP(sz:Nat):af->af->be (Prop×af)
 | .slice a _ xs,.int _ i=>if a=sz then some (0<=i/\i<xs.length,.eptr (xs.getD i.toNat .junk))else none
 | .row a k n,.int _ i=>if a=sz then some (0<=i/\i<n,.rptr a k n i.toNat 0)else none
 |_,_=>none
def J0:af->af->be (Prop×af)
 | .str s,.int _ i=>some (0<=i/\i<s.length,.int .u8 (s.getD i.toNat 0).toNat)
 |_,_=>none
def sx(a:Int):be af->be Int
 |none=>some a
 |some (.int _ i)=>some i
 |_=>none
def J5(x:af)(lo hi:be af):be (Prop×af):=
 match x with
 | .str s=>match sx 0 lo,sx s.length hi with
  |some l,some h=>some (0<=l/\l<=h/\h<=s.length,.str ((s.take h.toNat).drop l.toNat))
  |_,_=>none
 |_=>none
def IK(sz:Nat)(x:af)(lo hi:be af):be (Prop×af):=
 match x with
 | .slice a _ xs=>if a=sz then match sx 0 lo,sx xs.length hi with
  |some l,some h=>some (0<=l/\l<=h/\h<=xs.length,.slice sz .no ((xs.take h.toNat).drop l.toNat))
  |_,_=>none else none
 |_=>none
def tz(n:Int):Prop:= -9223372036854775808<=n/\n<=9223372036854775807
def Ii(op:BinOp)(wr:Bool)(k:IntKind)(a b:Int):be (Prop×af):=
 match op with
 | .add=>if wr then some (True,.int k (k.wrap (a+b)))else some (k= .i64/\tz (a+b),.int .i64 (a+b))
 | .sub=>if wr then some (True,.int k (k.wrap (a-b)))else some (k= .i64/\tz (a-b),.int .i64 (a-b))
 | .mul=>if wr then some (True,.int k (k.wrap (a*b)))else some (k= .i64/\tz (a*b),.int .i64 (a*b))
 | .quo=>some (b≠0,.int k (k.wrap (a.tdiv b)))
 | .rem=>some (b≠0,.int k (a.tmod b))
 | .eql=>some (True,.bool (a==b))
 | .neq=>some (True,.bool (a !=b))
 | .lss=>some (True,.bool (decide (a<b)))
 | .leq=>some (True,.bool (decide (a<=b)))
 | .gtr=>some (True,.bool (decide (b<a)))
 | .geq=>some (True,.bool (decide (b<=a)))
 | .and=>some (True,.int k (k.wrap (rQ k.bits a&&& rQ k.bits b).toNat))
 | .or=>some (True,.int k (k.wrap (rQ k.bits a|||rQ k.bits b).toNat))
 | .xor=>some (True,.int k (k.wrap (rQ k.bits a ^^^ rQ k.bits b).toNat))
 |_=>none
def J6(op:BinOp)(a b:List cJ):be (Prop×af):=
 match op with
 | .add=>some (a.length+b.length<=lim,.str (a++b))
 | .eql=>some (True,.bool (a==b))
 | .neq=>some (True,.bool (!(a==b)))
 | .lss=>some (True,.bool (iw a b))
 | .leq=>some (True,.bool (iw a b||a==b))
 | .gtr=>some (True,.bool (!(iw a b||a==b)))
 | .geq=>some (True,.bool (!iw a b))
 |_=>none
def Dp(op:BinOp)(wr:Bool):af->af->be (Prop×af)
 | .int k a,.int bs b=>match op with
  | .shl=>some (0<=b,.int k (k.wrap (a*2 ^ (min b.toNat k.bits))))
  | .shr=>some (0<=b,.int k (a.fdiv (2 ^ (min b.toNat k.bits))))
  |_=>if k=bs then Ii op wr k a b else none
 | .str a,.str b=>J6 op a b
 |_,_=>none
def nB(cs:List af)(off:Nat)(a:List af):List af:=cs.take off++a++cs.drop (off+a.length)
def vH(t:List (Nat×af)):List af->List (Nat×Nat×dQ)->be (Prop×List af)
 |cs,[]=>some (True,cs)
 |cs,(off,sz,x)::r=>
  let p:=cF t x
  match vH t (nB cs off (cells p)) r with
  |some (c,cs')=>some ((eU p=true/\(cells p).length=sz/\off+sz<=cs.length)/\c,cs')
  |none=>none
def Jg(c x y:af):be (Prop×af):=
 match c with
 | .bool b=>match x,y with
  | .bool u,.bool v=>some (True,.bool (cond b u v))
  |p,q=>match b with
   |true=>some (True,p)
   |false=>some (True,q)
 |_=>none
def I3:af->be (Prop×af)
 | .bool b=>some (True,.bool (!b))
 |_=>none
def IZ:af->be (Prop×af)
 | .int k n=>some (True,.int k (k.wrap (0-n)))
 |_=>none
def A7(i:Nat):af->be (Prop×af)
 | .tuple bm=>(bm[i]?).map fun p=>(True,p)
 |_=>none
def B2:af->be (Prop×af)
 | .slice _ _ xs=>some (True,.int .i64 xs.length)
 | .row _ _ n=>some (True,.int .i64 n)
 | .cst (.slice _ n _)=>some (True,.int .i64 n)
 |_=>none
def FR:af->be (Prop×af)
 | .str s=>some (True,.int .i64 s.length)
 | .cst (.string s)=>some (True,.int .i64 s.size)
 |_=>none
def G5(k:IntKind):af->be (Prop×af)
 | .int _ n=>some (True,.int k (k.wrap n))
 |_=>none
def r5:List af->be (List cJ)
 |[]=>some []
 | .int .u8 n::r=>(r5 r).map (UInt8.ofNat n.toNat:: ·)
 |_=>none
def GD:af->be (Prop×af)
 | .slice _ _ xs=>(r5 xs).map fun s=>(True,.str s)
 |_=>none
def Ch:af->be (Prop×af)
 | .ptr k o=>some (True,.ptr k o)
 | .eptr p=>some (True,.eptr p)
 | .func f cs=>some (True,.func f cs)
 |_=>none
def IW:af->af->be (Prop×af)
 | .int k a,.int bs b=>if k=bs then some (True,.int k (if b<a then b else a))else none
 |_,_=>none
def kR:List Bool->List af->List af->be Bool
 |[],[],[]=>some true
 |false::r,.int k a::as,.int bs b::c=>if k=bs then(kR r as c).map fun q=>(a==b)&&q else none
 |true::r,.str a::as,.str b::c=>(kR r as c).map fun q=>(a==b)&&q
 |_,_,_=>none
inductive kl where
 |i
 |s
 |a (ek:List Bool)
 deriving DecidableEq
def uU:kl->af->af->be Bool
 | .i,.int k a,.int bs b=>if k=bs then some (a==b)else none
 | .s,.str a,.str b=>some (a==b)
 | .a c,.agg as,.agg d=>kR c as d
 |_,_,_=>none
def xU:kl->af->Bool
 | .a a,.agg as=>(kR a as as).isSome
 | .a _,_=>false
 |_,_=>true
@[simp]def XI(k:af):xU .i k=true:=by cases k<;>rfl
def xZ(a:kl)(k:af):List af->be (be af)
 |bs::v::r=>match uU a k bs with
  |some true=>some (some v)
  |some false=>xZ a k r
  |none=>none
 |_=>some none
def pe(b:aB->be (List af))(a:kl)(zero:af)(ok:Bool)(x k:af):be (Prop×af):=
 match x with
 | .gmap key=>match b key with
  |some (.hdm _ _::kvs)=>if xU a k=false then none else match xZ a k kvs with
   |some (some v)=>some (True,if ok then .tuple [v,.bool true]else v)
   |some none=>some (True,if ok then .tuple [zero,.bool false]else zero)
   |none=>none
  |_=>none
 |_=>none
def Cg(b:aB->be (List af))(x:af):be (Prop×af):=
 match x with
 | .gmap key=>match b key with
  |some (.hdm _ borns::_)=>some (True,.int .i64 borns.length)
  |_=>none
 |_=>none
def ju(neg:Bool):be (List Bool)->af->af->be (Prop×af)
 |none,.bool a,.bool b=>some (True,.bool (if neg then a !=b else a==b))
 |some c,.agg as,.agg d=>(kR c as d).map fun q=>(True,.bool (if neg then !q else q))
 |_,_,_=>none
def IP:af->af->be (Prop×af)
 | .int k a,.int bs b=>if k=bs then some (True,.int k (if a<b then b else a))else none
 |_,_=>none
def wB(a:kl)(k v:af):List af->be (be (List af))
 |bs::v'::r=>match uU a k bs with
  |some true=>some (some (k::v::r))
  |some false=>match wB a k v r with
   |some (some b)=>some (some (bs::v'::b))
   |some none=>some none
   |none=>none
  |none=>none
 |_=>some none
def n5(n:Nat):List Nat->List af->be af
 |b::a,k::v::r=>if b=n then some (.tuple [k,v])else n5 n a r
 |_,_=>none
def qM(b:aB->be (List af))(x:af):be (Prop×af):=
 match x with
 | .ptr gl 0=>match b gl with
  |some [.hdi _ seen last,.gmap mk]=>match b mk with
   |some (.hdm clock borns::kvs)=>match seen.getLast? with
    |some n=>(n5 n borns kvs).map fun p=>(clock=last,p)
    |none=>none
   |_=>none
  |_=>none
 |_=>none
def YC{f g:aB->be (List af)}(h:∀k,f k≠none->g k=f k){b:kl}{zero:af}{ok:Bool}{x k:af}{r:Prop×af}(he:pe f b zero ok x k=some r):pe g b zero ok x k=some r:=by
 unfold pe at he⊢;split at he
 ·rename_i key;cases a:f key with
  |none=>simp[a]at he
  |some cs=>rw[h key (by rw[a];simp),a];rw[a]at he;exact he
 ·cases he
def am2{f g:aB->be (List af)}(h:∀k,f k≠none->g k=f k){x:af}{r:Prop×af}(he:Cg f x=some r):Cg g x=some r:=by
 unfold Cg at he⊢;split at he
 ·rename_i key;cases a:f key with
  |none=>simp[a]at he
  |some cs=>rw[h key (by rw[a];simp),a];rw[a]at he;exact he
 ·cases he
def amD{f g:aB->be (List af)}(h:∀k,f k≠none->g k=f k){x:af}{r:Prop×af}(he:qM f x=some r):qM g x=some r:=by
 unfold qM at he⊢;split at he
 ·rename_i gl;cases b:f gl with
  |none=>simp[b]at he
  |some cs=>
   simp only[h gl (by rw[b];simp),b]at he⊢;split at he
   ·rename_i since seen last mk d;cases a:f mk with
    |none=>simp[a]at he
    |some c=>simp only[h mk (by rw[a];simp),a]at he⊢;exact he
   ·cases he
 ·cases he
inductive gR where
 |mov (x:dQ)
 |pick (c x y:dQ)
 |load (agg:Bool) (sz:Nat) (x:dQ)
 |faddr (off:Nat) (agg:Bool) (sz:Nat) (x:dQ)
 |fld (off:Nat) (agg:Bool) (sz:Nat) (x:dQ)
 |iaddr (sz:Nat) (x i:dQ)
 |sidx (x i:dQ)
 |ssl (x:dQ) (lo hi:be dQ)
 |lsl (sz:Nat) (x:dQ) (lo hi:be dQ)
 |bin (op:BinOp) (wr:Bool) (x y:dQ)
 |notB (x:dQ)
 |neg (x:dQ)
 |conv (k:IntKind) (x:dQ)
 |ext (i:Nat) (x:dQ)
 |len (x:dQ)
 |slen (x:dQ)
 |build (zero:List af) (parts:List (Nat×Nat×dQ))
 |nck (x:dQ)
 |min2 (x y:dQ)
 |mkf (n:Nat) (xs:List dQ)
 |mget (cA:kl) (zero:af) (ok:Bool) (x k:dQ)
 |ment (x:dQ)
 |mlen (x:dQ)
 |beq (neg:Bool) (ek:be (List Bool)) (x y:dQ)
 |max2 (x y:dQ)
 |mkif (t:Nat) (x:dQ)
 |loadB (agg:Bool) (sz:Nat) (x:dQ)
 |mgetB (cA:kl) (zero:af) (ok:Bool) (x k:dQ)
 |loadZ (agg:Bool) (sz:Nat) (x:dQ)
 |b2s (x:dQ)
def h2(st:bp):gR->be (Prop×af)
 | .mov x=>some (True,cF st.t x)
 | .pick c x y=>Jg (cF st.t c) (cF st.t x) (cF st.t y)
 | .load agg sz x=>n3 st.b st.e agg sz (cF st.t x)
 | .faddr off agg sz x=>sX off agg sz (cF st.t x)
 | .fld off agg sz x=>vP off agg sz (cF st.t x)
 | .iaddr sz x i=>BP sz (cF st.t x) (cF st.t i)
 | .sidx x i=>J0 (cF st.t x) (cF st.t i)
 | .ssl x lo hi=>J5 (cF st.t x) (lo.map (cF st.t)) (hi.map (cF st.t))
 | .lsl sz x lo hi=>IK sz (cF st.t x) (lo.map (cF st.t)) (hi.map (cF st.t))
 | .bin op wr x y=>Dp op wr (cF st.t x) (cF st.t y)
 | .notB x=>I3 (cF st.t x)
 | .neg x=>IZ (cF st.t x)
 | .conv k x=>G5 k (cF st.t x)
 | .ext i x=>A7 i (cF st.t x)
 | .len x=>B2 (cF st.t x)
 | .slen x=>FR (cF st.t x)
 | .build zero parts=>(vH st.t zero parts).map fun(c,cs)=>(c,.agg cs)
 | .nck x=>Ch (cF st.t x)
 | .min2 x y=>IW (cF st.t x) (cF st.t y)
 | .mkf n xs=>some (True,.func n (xs.map (cF st.t)))
 | .mget a zero ok x k=>pe (fun k=>ae k st.b) a zero ok (cF st.t x) (cF st.t k)
 | .ment x=>qM (fun k=>ae k st.b) (cF st.t x)
 | .mlen x=>Cg (fun k=>ae k st.b) (cF st.t x)
 | .beq neg b x y=>ju neg b (cF st.t x) (cF st.t y)
 | .max2 x y=>IP (cF st.t x) (cF st.t y)
 | .mkif t x=>some (True,.iface t (cF st.t x))
 | .loadB agg sz x=>n3 st.b [] agg sz (cF st.t x)
 | .mgetB a zero ok x k=>pe (fun k=>ae k st.b) a zero ok (cF st.t x) (cF st.t k)
 | .loadZ agg sz x=>DW agg sz (cF st.t x)
 | .b2s x=>GD (cF st.t x)
def Ct(aT:List (Nat×ev))(a:List (Nat×Nat)):List (Nat×Nat×dQ)->List (Nat×Operand)->Bool
 |[],[]=>true
 |(off,sz,x)::r,(i,o)::s=>(match a[i]? with|some (b,t)=>off==b&&((eG aT t).map (·.size))==some sz|none=>false)&&eT x o&&Ct aT a r s
 |_,_=>false
def Kv:af->af->Bool
 | .int k n,.int bs n'=>decide (k=bs/\n=n')
 | .bool b,.bool b2=>b==b2
 | .str [],.str []=>true
 | .slice a .nil [],.slice b .nil []=>a==b
 | .nilp,.nilp=>true
 | .junk,.junk=>true
 |_,_=>false
def Ax:List af->List af->Bool
 |[],[]=>true
 |c::cs,d::a=>Kv c d&&Ax cs a
 |_,_=>false
def Da:af->af->Bool
 | .agg cs,.agg a=>Ax cs a
 | .agg _,_=>false
 |p,q=>Kv p q
def zW:List dQ->List Operand->Bool
 |[],[]=>true
 |x::xs,o::os=>eT x o&&zW xs os
 |_,_=>false
def Bf(aT:List (Nat×ev)):Nat->List Bool->List (Nat×Nat)->Bool
 |_,[],[]=>true
 |n,b::r,(off,t)::a=>off==n&&(match eG aT t with|some ⟨_,_,.int _,_⟩=> !b|some ⟨_,_,.str,_⟩=>b|_=>false)&&Bf aT (n+1) r a
 |_,_,_=>false
def Hr(aT:List (Nat×ev))(a:List Bool)(t:Nat):Bool:=match eG aT t with
 |some ⟨_,_,.struct gs,_⟩=>Bf aT 0 a gs
 |_=>false
def zH(aT:List (Nat×ev))(b:kl)(t:Nat):Bool:=match b with
 | .i=>(match eG aT t with|some ⟨_,_,.int _,_⟩=>true|_=>false)
 | .s=>(match eG aT t with|some ⟨_,_,.str,_⟩=>true|_=>false)
 | .a a=>Hr aT a t
def Re:List af->af->Bool
 |cs,.agg a=>Ax cs a
 |_,_=>false
def x8:be dQ->be Operand->Bool
 |none,none=>true
 |some x,some o=>eT x o
 |_,_=>false
def F9(aT:List (Nat×ev)):gR->Op->Bool
 | .mov x,.move o=>eT x o
 | .mov x,.assign o=>eT x o
 | .pick c x y,.pick u x' y'=>eT c u&&eT x x'&&eT y y'
 | .load agg sz x,.load t o=>(match eG aT t with|some f=>f.size==sz&&f.kind.isAgg==agg|none=>false)&&eT x o
 | .faddr off agg sz x,.fieldAddr s o i=>
  (match eG aT s with
   |some ⟨_,_,.struct a,_⟩=>(match a[i]? with|some (b,t)=>off==b&&(match eG aT t with|some f=>f.size==sz&&f.kind.isAgg==agg&&sz !=0|none=>false)|none=>false)
   |_=>false)&&eT x o
 | .fld off agg sz x,.field s o i=>
  (match eG aT s with
   |some ⟨_,_,.struct a,_⟩=>(match a[i]? with|some (b,t)=>off==b&&(match eG aT t with|some f=>f.size==sz&&f.kind.isAgg==agg|none=>false)|none=>false)
   |_=>false)&&eT x o
 | .iaddr sz x i,.indexAddr t o j=>(match eG aT t with|some ⟨_,_,.slice e,_⟩=>(match eG aT e with|some f=>f.size==sz|none=>false)|_=>false)&&eT x o&&eT i j
 | .sidx x i,.index t o j=>(match eG aT t with|some ⟨_,_,.str,_⟩=>true|_=>false)&&eT x o&&eT i j
 | .ssl x lo hi,.slice t o l h none=>(match eG aT t with|some ⟨_,_,.str,_⟩=>true|_=>false)&&eT x o&&x8 lo l&&x8 hi h
 | .lsl sz x lo hi,.slice t o l h none=>(match eG aT t with|some ⟨_,_,.slice e,_⟩=>(match eG aT e with|some f=>f.size==sz|none=>false)|_=>false)&&eT x o&&x8 lo l&&x8 hi h
 | .bin op _ x y,.binOp w _ o o' _=>decide (op=w)&&eT x o&&eT y o'
 | .notB x,.unOp op _ o=>decide (op= .not)&&eT x o
 | .neg x,.unOp op _ o=>decide (op= .neg)&&eT x o
 | .conv k x,.convert s d o=>(match eG aT s,eG aT d with|some ⟨_,_,.int _,_⟩,some ⟨_,_,.int bs,_⟩=>decide (k=bs)|_,_=>false)&&eT x o
 | .ext i x,.extract o j=>i==j&&eT x o
 | .len x,.call ⟨.builtin .len,⟨[o]⟩,⟨[t]⟩⟩=>(match eG aT t with|some ⟨_,_,.slice _,_⟩=>true|_=>false)&&eT x o
 | .slen x,.call ⟨.builtin .len,⟨[o]⟩,⟨[t]⟩⟩=>(match eG aT t with|some ⟨_,_,.str,_⟩=>true|_=>false)&&eT x o
 | .build zero parts,.build t v=>(match eG aT t with|some ⟨_,_,.struct a,z⟩=>Re zero z&&(a.all fun x=>(eG aT x.2).isSome)&&Ct aT a parts v.toList|_=>false)
 | .nck x,.nilCheck o=>eT x o
 | .min2 x y,.call ⟨.builtin .min,⟨[o,o']⟩,⟨[_,_]⟩⟩=>eT x o&&eT y o'
 | .mkf n xs,.makeFunc (.func m) ⟨[]⟩ os=>n==m&&zW xs os.toList
 | .mget q zero ok x k,.lookup t o o' r=>ok==r&&(match eG aT t with|some ⟨_,_,.map p g,_⟩=>zH aT q p&&(match eG aT g with|some f=>Da zero f.zero|none=>false)|_=>false)&&eT x o&&eT k o'
 | .ment x,.entry o=>eT x o
 | .mlen x,.call ⟨.builtin .len,⟨[o]⟩,⟨[t]⟩⟩=>(match eG aT t with|some ⟨_,_,.map _ _,_⟩=>true|_=>false)&&eT x o
 | .beq neg a x y,.binOp op t o o' _=>decide (op=if neg then .neq else .eql)&&(match a with|none=>(match eG aT t with|some ⟨_,_,.bool,_⟩=>true|_=>false)|some a=>Hr aT a t)&&eT x o&&eT y o'
 | .max2 x y,.call ⟨.builtin .max,⟨[o,o']⟩,⟨[_,_]⟩⟩=>eT x o&&eT y o'
 | .mkif t x,.makeInterface t' o=>t==t'&&(match eG aT t with|some ⟨_,_,.slice _,_⟩=>true|_=>false)&&eT x o
 | .loadB agg sz x,.load t o=>(match eG aT t with|some f=>f.size==sz&&f.kind.isAgg==agg|none=>false)&&eT x o
 | .b2s x,.convert s d o=>(match eG aT s,eG aT d with|some ⟨_,_,.slice e,_⟩,some ⟨_,_,.str,_⟩=>(match eG aT e with|some ⟨_,_,.int .u8,_⟩=>true|_=>false)|_,_=>false)&&eT x o
 | .loadZ agg sz x,.load t o=>(match eG aT t with|some f=>f.size==sz&&f.kind.isAgg==agg|none=>false)&&eT x o
 | .mgetB q zero ok x k,.lookup t o o' r=>ok==r&&(match eG aT t with|some ⟨_,_,.map p g,_⟩=>zH aT q p&&(match eG aT g with|some f=>Da zero f.zero|none=>false)|_=>false)&&eT x o&&eT k o'
 |_,_=>false
end
section
open Go Go.RowKit
def LX(P:cI)(w:World)(op:BinOp)(t:gQ)(x y:Operand)(k bs:IntKind)(m n:Int):(eqGuard op t x y (.int k m) (.int bs n)).run P w= .ok () w:=by cases op<;>rfl
def afu(P:cI)(w:World)(op:BinOp)(t:gQ)(x y:Operand)(m n:ByteArray):(eqGuard op t x y (.string m) (.string n)).run P w= .ok () w:=by cases op<;>rfl
def arS(l:List cJ):(⟨l.toArray⟩:ByteArray).toList=l:=Ψ
def adU(a b:List cJ):(⟨a.toArray⟩:ByteArray)++(⟨b.toArray⟩:ByteArray)=⟨(a++b).toArray⟩:=by apply atB;simp
def agq(a:List cJ)(l h:Nat):(⟨a.toArray⟩:ByteArray).extract l h=⟨((a.take h).drop l).toArray⟩:=by apply atB;simp[List.drop_take]
def FQ(a:List cJ):(⟨a.toArray⟩:ByteArray).size=a.length:=by simp[ayh]
section
variable {P:cI} {w:World} {r:Sem Value}
def sZ{k:IntKind}{x:Int}(h:r.run P w= .ok (.int k x) w):∃v,r.run P w= .ok v w/\∀ν,aU w ν (.int k x) v:=⟨_,h,fun ν=>by simp[aU]⟩
def VX{x:Bool}(h:r.run P w= .ok (.bool x) w):∃v,r.run P w= .ok v w/\∀ν,aU w ν (.bool x) v:=⟨_,h,fun ν=>by simp[aU]⟩
end
def alz(P:cI)(w:World){op:BinOp}{wr:Bool}{k:IntKind}{a b:Int}{c:Prop}{p:af}(he:Ii op wr k a b=some (c,p))(aw:c)(t:gQ):
  ∃v,(binOp op t (.int k a) (.int k b)).run P w= .ok v w/\∀ν,aU w ν p v:=by
 cases op<;>simp only[Ii]at he;case add=>
  cases wr<;>simp only[if_true,hT,if_false]at he<;>cases he
  ·obtain⟨rfl,h⟩:=aw;exact sZ (by simp[binOp,Op.intArith,pt _ h])
  ·exact sZ (by simp[binOp,Op.intArith])
 case sub=>
  cases wr<;>simp only[if_true,hT,if_false]at he<;>cases he
  ·obtain⟨rfl,h⟩:=aw;exact sZ (by simp[binOp,Op.intArith,pt _ h])
  ·exact sZ (by simp[binOp,Op.intArith])
 case mul=>
  cases wr<;>simp only[if_true,hT,if_false]at he<;>cases he
  ·obtain⟨rfl,h⟩:=aw;exact sZ (by simp[binOp,Op.intArith,pt _ h])
  ·exact sZ (by simp[binOp,Op.intArith])
 case quo=>cases he;exact sZ (by simp[binOp,Op.intDiv,aw])
 case rem=>cases he;exact sZ (by simp[binOp,Op.intDiv,aw])
 case and=>cases he;exact sZ (by simp only[binOp,Op.intBits,ne_eq,not_true_eq_false,if_false,hG])
 case or=>cases he;exact sZ (by simp only[binOp,Op.intBits,ne_eq,not_true_eq_false,if_false,hG])
 case xor=>cases he;exact sZ (by simp only[binOp,Op.intBits,ne_eq,not_true_eq_false,if_false,hG])
 all_goals cases he
 all_goals exact VX (by simp only[binOp,Op.intCmp,ne_eq,not_true_eq_false,if_false,hG,gt_iff_lt,ge_iff_le])
def arx(P:cI)(w:World){op:BinOp}{a b:List cJ}{c:Prop}{p:af}(he:J6 op a b=some (c,p))(aw:c)(t:gQ):
  ∃v,(binOp op t (.string ⟨a.toArray⟩) (.string ⟨b.toArray⟩)).run P w= .ok v w/\∀ν,aU w ν p v:=by
 cases op<;>simp only[J6]at he;case add=>
  cases he;refine⟨.string ⟨(a++b).toArray⟩,?_,fun ν=>by simp only[aU];exact⟨trivial,by simpa using aw⟩⟩;have J:¬(((⟨a.toArray⟩:ByteArray).size+(⟨b.toArray⟩:ByteArray).size:Nat):Int)>vo.max:=by
   have:vo.max=9223372036854775807:=by decide
   rw[this,FQ,FQ];simp only[lim]at aw;omega
  simp only[binOp,Op.stringOp,J,if_false,hG,adU]
 all_goals cases he
 all_goals exact VX (by simp only[binOp,Op.stringOp,arS,hG])
def ad9(P:cI)(w:World)(ν:bd){op:BinOp}{wr:Bool}{x y:af}{c:Prop}{p:af}(he:Dp op wr x y=some (c,p))(aw:c)(t:gQ){u v:Value}(hu:aU w ν x u)(d:aU w ν y v)(o o':Operand):
  ∃r,(do eqGuard op t o o' u v;binOp op t u v).run P w= .ok r w/\aU w ν p r:=by
 unfold Dp at he;split at he
 ·rename_i k a bs b;simp only[aU]at hu d;subst hu;subst d;split at he
  ·cases he;refine⟨_,?_,by simp[aU];rfl⟩;simp[binOp,Op.shift,LX,Int.not_lt.2 aw]
  ·cases he;refine⟨_,?_,by simp[aU];rfl⟩;simp[binOp,Op.shift,LX,Int.not_lt.2 aw]
  ·split at he
   ·rename_i ab;subst ab;obtain⟨r,J,U⟩:=alz P w he aw t;exact⟨r,by simp[LX,J],U ν⟩
   ·cases he
 ·simp only[aU]at hu d;rw[hu.1,d.1];obtain⟨r,J,U⟩:=arx P w he aw t;exact⟨r,by simp[afu,J],U ν⟩
 ·cases he
def Mh{w:World}{ν:bd}:∀(v:List Value) (i off:Nat) (cs:Array Value),off+i+v.length<=cs.size->
  ((v.zipIdx i).foldl (fun cs (x:Value×Nat)=>cs.setIfInBounds (off+x.2) x.1) cs).toList=cs.toList.take (off+i)++v++cs.toList.drop (off+i+v.length)
 |[],i,off,cs,_=>by simp
 |u::v,i,off,cs,h=>by
  simp only[List.zipIdx_cons,List.foldl_cons];rw[Mh (w:=w) (ν:=ν) v (i+1) off _ (by simp at h⊢;omega)];have a:off+i<cs.toList.length:=by simp at h⊢;omega
  simp only[Array.toList_setIfInBounds];have b:(cs.toList.set (off+i) u).take (off+(i+1))=cs.toList.take (off+i)++[u]:=by rw[show off+(i+1)=(off+i)+1 from by omega,List.take_succ_eq_append_getElem (by simpa using a)];simp[List.take_set_of_le (dP _)]
  have c:(cs.toList.set (off+i) u).drop (off+(i+1)+v.length)=cs.toList.drop (off+i+(u::v).length):=by rw[List.drop_set_of_lt Ω];congr 1;simp;omega
  rw[b,c];simp
def abt{w:World}{ν:bd}{C:fq}{st:bp}{a:Act}(n:c9 C st a w ν){aT:List (Nat×ev)}{l:List (Nat×Nat)}{f:List (Nat×Nat)}
  (m:∀(i off t sz:Nat),l[i]? =some (off,t)->(eG aT t).map (·.size)=some sz->f[i]? =some (off,sz)):
  ∀(parts:List (Nat×Nat×dQ)) (d:List (Nat×Operand)) (cs:List af) (us:Array Value) (c:Prop) (cs':List af),Ct aT l parts d=true->cW w ν cs us.toList->vH st.t cs parts=some (c,cs')->c->
  ∃e:Array Value,Instr.fill (f.toArray[·]?) us (d.map fun(x:Nat×Operand)=>(x.1,a.eval x.2))=some e/\cW w ν cs' e.toList
 |[],[],cs,us,c,cs',_,h,he,aw=>by simp only[vH]at he;cases he;exact⟨us,by simp[Instr.fill],h⟩
 |[],_::_,_,_,_,_,b,_,_,_=>by simp[Ct]at b
 |_::_,[],_,_,_,_,b,_,_,_=>by simp[Ct]at b
 |(off,sz,x)::parts,(i,o)::d,cs,us,c,cs',b,h,he,aw=>by
  simp only[Ct,cR]at b;obtain⟨⟨J,U⟩,A⟩:=b;split at J
  ·rename_i H t G;simp only[cR,ey]at J;obtain⟨rfl,J⟩:=J;have r:=m i off t sz G J;simp only[vH]at he;split at he
   ·rename_i v z E;cases he;obtain⟨⟨B,y,hle⟩,u⟩:=aw;have F:=e4 n U;have j:=wL F B;have hlen:=qR j;have q:=qR h;have k:(a.eval o).cells.size=sz:=by have:(a.eval o).cells.toList.length=(cells (cF st.t x)).length:=hlen;rw[y]at this;simpa using this
    have g:us.size=cs.length:=by simpa using q
    have p:=Mh (w:=w) (ν:=ν) (a.eval o).cells.toList 0 off us (by simp[k,g];omega);have s:cW w ν (nB cs off (cells (cF st.t x))) ((((a.eval o).cells.toList.zipIdx 0).foldl (fun cs (x:Value×Nat)=>cs.setIfInBounds (off+x.2) x.1) us).toList):=by rw[p];unfold nB;refine Ab (Ab (FD off h) j) ?_;rw[Nat.add_zero,hlen];exact CK _ h
    obtain⟨e,g1,g2⟩:=abt n m parts d _ _ v cs' A s E u;refine⟨e,?_,g2⟩;simp only[ha,Instr.fill,List.getElem?_toArray,r];rw[if_neg (by simp[k,g];omega)];rw[<-g1];simp only[List.getElem?_toArray];congr 1;rw[<-Array.foldl_toList];simp
   ·cases he
  ·cases J
end
section
open Go Go.RowKit
def wS{P:cI}{aT:List (Nat×ev)}(c:h1 P aT=true){t:Nat}{f:ev}(e:eG aT t=some f)(w:World):
  (Go.isAgg t).run P w= .ok f.kind.isAgg w/\(sizeOf t).run P w= .ok f.size w:=by
 obtain⟨i,d,z,J,U,b,k,a,j,h,g⟩:=(wT c e).ex;refine⟨?_,by simp[sizeOf,typeInfo,J,b]⟩;simp only[Go.isAgg,gy,run_underlying U,gC];cases ab:f.kind<;>rw[ab]at a<;>cases d<;>simp[k8]at a<;>simp[Dh.isAgg]
def jo{P:cI}{aT:List (Nat×ev)}(b:h1 P aT=true){t:Nat}{f:ev}(c:eG aT t=some f):∃d,P.underlying t=some d/\k8 f.kind d=true:=by obtain⟨i,d,z,J,U,j,k,a,h,g,e⟩:=(wT b c).ex;exact⟨d,U,a⟩
def sS{e:Nat}{d:TypeDesc}(h:k8 (.slice e) d=true):d= .slice e:=by cases d<;>simp[k8]at h;subst h;rfl
def yW{d:TypeDesc}(h:k8 .str d=true):d= .string:=by cases d<;>simp[k8]at h;rfl
def DC{k:IntKind}{d:TypeDesc}(h:k8 (.int k) d=true):d= .int k:=by cases d<;>simp[k8]at h;subst h;rfl
def LG{a:List (Nat×Nat)}{d:TypeDesc}(h:k8 (.struct a) d=true):∃gs:Array Field,d= .struct gs/\gs.toList.map (fun f=>(f.offset,f.type))=a:=by cases d<;>simp[k8]at h;rename_i gs;exact⟨gs,rfl,by simpa using h⟩
def JI{w:World}{ν:bd}{cs:List af}{us:List Value}(h:cW w ν cs us)(off sz:Nat):cW w ν ((cs.drop off).take sz) ((us.drop off).take sz):=FD sz (CK off h)
def ZL{w:World}{base el sz n:Nat}{v:Value}{us:List Value}(h:w.ownsRow base el sz v n us){b:Nat}(a:v.ownBlock=some b):∃cap,v= .slice (some ⟨b,0,none⟩) n cap:=by
 rcases h.2 with⟨rfl,_⟩|⟨g,cap,cur,rfl,_⟩
 ·simp[pz]at a
 ·simp[pz]at a;subst a;exact⟨cap,rfl⟩
def Good.rowElem{pr:Nat->Prop}{w:World}{ν:bd}{b:List (aB×List af)}{e:List (aB×dW)}(a7:Good pr w ν b e){k:aB}{n el sz:Nat}{xs:List af}(ab:ae k e=some ⟨n,el,sz,some xs⟩){i f:Nat}{u:Value}(m:aU w ν (.rptr sz k n i f) u){p:af}(x:xs[i]? =some p):
  ∃(v:Value) (us:List Value) (B:Nat),aU w ν p v/\v.cells.size=sz/\∃b o,u= .pointer (some ⟨b,o,none⟩)/\∀j c,v.cells.toList[f+j]? =some c->w.cell? ⟨b,o+j,none⟩=some c:=by
 simp only[aU]at m;obtain⟨_,hi,n',E,J,U,z⟩:=m;obtain⟨v,us,a,l,F,r⟩:=a7.own k _ ab;rw[J]at a;simp only[dU,js]at a;obtain⟨rfl,rfl⟩:=a;obtain⟨bl,A,rfl⟩:=z rfl;obtain⟨cap,rfl⟩:=ZL l A;obtain⟨y,g,_⟩:=r xs rfl;simp only at y g;obtain⟨v,s,h,q⟩:=JF i g x;refine⟨v,us,el,s,h,bl,_,rfl,fun j c d=>?_⟩;have t:f+j<sz:=by have:=(fH.1 d).1;simp[h]at this;exact this
 have hmul:i*sz+sz<=n'*sz:=by have:=rU sz (show i+1<=n' from hi);rwa[Nat.succ_mul]at this
 have aw:=l.cellAt (i*sz+f+j) (by show _<n'*sz;omega);rw[aw];rw[q,List.getElem?_take,if_pos t,List.getElem?_drop]at d;rw[<-d];congr 1;omega
def IH{P:cI}{aT:List (Nat×ev)}(S:h1 P aT=true){pr:Nat->Prop}{w:World}{ν:bd}{b:List (aB×List af)}{e:List (aB×dW)}(a7:Good pr w ν b e){t:Nat}{f:ev}(V:eG aT t=some f)
  {x:af} {u:Value} (l:aU w ν x u) {c:Prop} {p:af} (he:n3 b e f.kind.isAgg f.size x=some (c,p)) (aw:c):∃v,(Instr.loadAt t u).run P w= .ok v w/\aU w ν p v:=by
 obtain⟨d,F⟩:=wS S V w;generalize HH:f.kind.isAgg=h at*;generalize en:f.size=sz at*;unfold n3 at he;split at he
 ·rename_i ee k n i g;unfold Af at he;split at he
  ·rename_i n' el Y xs ab;split at he
   ·rename_i X;obtain⟨rfl,rfl⟩:=X;split at he
    ·rename_i N E;obtain⟨G,us,gK,g1,g2,a⟩:=Good.rowElem a7 ab l E;have O:eU N=true:=by
      cases h
      ·simp only[hT,if_false,hs]at he;obtain⟨q,_,he⟩:=he;cases he;exact aw
      ·simp only[if_true]at he;cases he;exact aw.1
     have A:=wL g1 O;cases h
     ·simp only[hT,if_false,hs]at he;obtain⟨q,r,he⟩:=he;cases he;obtain⟨v,f1,f2,f3⟩:=FC g A r;refine⟨v,?_,f2⟩;obtain⟨b,o,rfl,a⟩:=a;have:=a 0 v (by simpa using f1);simp only[Nat.add_zero]at this;simp[Instr.loadAt,Instr.sureAddr,loadVar,d,this]
     ·simp only[if_true]at he;cases he;obtain⟨b,o,rfl,a⟩:=a;refine⟨.agg ((G.cells.toList.drop g).take sz).toArray,?_,by simp only[aU];exact⟨_,rfl,by simpa using JI A g sz⟩⟩;have B:=qR A;have hlen:((G.cells.toList.drop g).take sz).length=sz:=by simp only[List.length_take,uf];omega
      have K:=run_loadCells_list (P:=P) w ⟨b,o,none⟩ ((G.cells.toList.drop g).take sz) (fun j v z=>by
       rw[pI];refine a j v ?_;rw[List.getElem?_take]at z;split at z
       ·simpa[List.getElem?_drop]using z
       ·cases z)
      rw[hlen]at K;simp only[Instr.loadAt,Instr.sureAddr,loadVar,gy,hG,gC,d,if_true,F,K]
    ·cases he
   ·cases he
  ·cases he
 ·rename_i k off;simp only[aU]at l;obtain⟨bl,J,rfl⟩:=l;split at he
  ·rename_i cs ab;obtain⟨Z,us,el,g1,g2,g3,g4,g5⟩:=a7.box k cs ab;rw[J]at g1;cases g1;have H:gY cs=true:=by
    cases h
    ·simp only[hT,if_false,hs]at he;obtain⟨q,r,he⟩:=he;cases he;exact aw
    ·simp only[if_true]at he;cases he;exact aw.1
   rw[pg H]at g4;rw[pj H]at g5;have B:=qR g5;cases h
   ·simp only[hT,if_false,hs]at he;obtain⟨q,r,he⟩:=he;cases he;obtain⟨v,f1,f2,f3⟩:=FC off g5 r;refine⟨v,?_,f2⟩;have a:w.cell? ⟨bl,off,none⟩=some v:=by simpa[World.cell?,g4]using f1
    simp[Instr.loadAt,Instr.sureAddr,loadVar,d,a]
   ·simp only[if_true]at he;cases he;replace aw:=aw.2;refine⟨_,?_,by simp only[aU];exact⟨_,rfl,by simpa using JI g5 off sz⟩⟩;simp only[Instr.loadAt,Instr.sureAddr,loadVar,gy,hG,gC,d,if_true,F];rw[aqO g4 (by simp at B;omega)];rfl
  ·cases he
 ·rename_i q;simp only[aU]at l;obtain⟨bl,off,Q,rfl,U,s⟩:=l;cases h
  ·simp only[hT,if_false]at he;cases he;obtain⟨M,m⟩:=aw;obtain⟨g1,g2⟩:=P3 U M (fun cs e=>by subst e;have:=fy List.length m;simp only[cells,mw,List.length_nil]at this;cases cs with
    |nil=>simp[cells]at m
    |cons y ys=>simp only[cells,rR]at m;obtain⟨R,W⟩:=m;subst W;have:=fy SizeOf.sizeOf R;simp at this;omega)
   refine⟨Q,?_,U⟩;rw[g2]at s;have a:=s.1.2;simp[Instr.loadAt,Instr.sureAddr,loadVar,d,a]
  ·simp only[if_true]at he;cases he;obtain⟨cs,rfl,hlen⟩:=aw;simp only[aU]at U;obtain⟨us,rfl,L⟩:=U;refine⟨.agg us,?_,by simp only[aU];exact⟨us,rfl,L⟩⟩;simp only[pw]at s;have B:=qR L;have:=abv (P:=P) s;rw[show us.toList.length=sz from by omega]at this;simp[Instr.loadAt,Instr.sureAddr,loadVar,d,F,this]
 ·cases he
def aim{P:cI}{aT:List (Nat×ev)}(y:h1 P aT=true){w:World}{ν:bd}{s i:Nat}{f:ev}{n:List (Nat×Nat)}(M:eG aT s=some f)(ab:f.kind= .struct n){off t:Nat}{g:ev}(hi:n[i]? =some (off,t))(a7:eG aT t=some g)(G:g.size≠0)
  {x:af} {u:Value} (a:aU w ν x u) {c:Prop} {p:af} (he:sX off g.kind.isAgg g.size x=some (c,p)) (aw:c):∃v,(Instr.fieldAt s u i).run P w= .ok v w/\aU w ν p v:=by
 obtain⟨d,L,m⟩:=jo y M;rw[ab]at m;obtain⟨gs,rfl,E⟩:=LG m;have A:∃fd:Field,gs[i]? =some fd/\fd.offset=off/\fd.type=t:=by rw[<-E]at hi;simp only[List.getElem?_map,hs]at hi;obtain⟨fd,J,U⟩:=hi;simp only[js]at U;exact⟨fd,by simpa using J,U.1,U.2⟩
 obtain⟨fd,N,ar,B⟩:=A;obtain⟨O,K⟩:=wS y a7 w;have j:∀b o,(Instr.fieldAt s (.pointer (some ⟨b,o,none⟩)) i).run P w= .ok (.pointer (some ⟨b,o+off,none⟩)) w:=by intro b o;simp[Instr.fieldAt,run_underlying L,N,Instr.sureAddr,fieldPlace,B,K,G,pI,ar]
 unfold sX at he;split at he
 ·cases he;simp only[aU]at a;obtain⟨b,J,rfl⟩:=a;exact⟨_,j _ _,by simp only[aU];exact⟨b,J,rfl⟩⟩
 ·cases he;simp only[aU]at a;obtain⟨⟨b,o,rfl⟩,hi,n',r,J,U,h⟩:=a;refine⟨_,j _ _,?_⟩;simp only[aU];refine⟨⟨b,_,rfl⟩,hi,n',r,J,U,fun e=>?_⟩;obtain⟨b2,H,z⟩:=h e;simp only[ayo,dU,Addr.mk.injEq,jf]at z;obtain⟨rfl,rfl⟩:=z;exact⟨b,H,by rw[Nat.add_assoc]⟩
 ·rename_i cs;simp only[aU]at a;obtain⟨b,o,r,rfl,⟨us,rfl,U⟩,h⟩:=a;refine⟨_,j _ _,?_⟩;simp only[pw]at h;split at he
  ·cases he;simp only[aU];exact⟨b,o+off,.agg ((us.toList.drop off).take g.size).toArray,rfl,⟨_,rfl,by simpa using JI U off g.size⟩,by simpa[pw]using IC g.size (IA off h)⟩
  ·simp only[hs]at he;obtain⟨q,F,he⟩:=he;cases he;obtain⟨v,f1,f2,f3⟩:=FC off U F;simp only[aU];have l:=uY h f1;have k:v.cells= #[v]:=by cases v<;>first|rfl|cases f3
   exact⟨b,o+off,v,rfl,f2,by rw[k];exact⟨l,trivial⟩⟩
 ·cases he
def aiu{P:cI}{aT:List (Nat×ev)}(m:h1 P aT=true){w:World}{ν:bd}{s i:Nat}{f:ev}{h:List (Nat×Nat)}(B:eG aT s=some f)(ab:f.kind= .struct h){off t:Nat}{g:ev}(hi:h[i]? =some (off,t))(a7:eG aT t=some g)
  {x:af} {u:Value} (k:aU w ν x u) {c:Prop} {p:af} (he:vP off g.kind.isAgg g.size x=some (c,p)) (aw:c):∃v,(Instr.field s u i).run P w= .ok v w/\aU w ν p v:=by
 obtain⟨d,l,e⟩:=jo m B;rw[ab]at e;obtain⟨gs,rfl,r⟩:=LG e;have o:∃fd:Field,gs[i]? =some fd/\fd.offset=off/\fd.type=t:=by rw[<-r]at hi;simp only[List.getElem?_map,hs]at hi;obtain⟨fd,J,U⟩:=hi;simp only[js]at U;exact⟨fd,by simpa using J,U.1,U.2⟩
 obtain⟨fd,n,ar,b⟩:=o;obtain⟨j,A⟩:=wS m a7 w;unfold vP at he;split at he
 ·rename_i cs;simp only[aU]at k;obtain⟨us,rfl,U⟩:=k;generalize E:g.kind.isAgg=y at*;cases y
  ·simp only[hT,if_false,hs]at he;obtain⟨q,z,he⟩:=he;cases he;obtain⟨v,f1,f2,f3⟩:=FC off U z;have a:us[off]? =some v:=by simpa using f1
   exact⟨v,by simp[Instr.field,run_underlying l,n,asAgg,part,b,j,ar,a],f2⟩
  ·simp only[if_true]at he;cases he;refine⟨.agg (us.extract off (off+g.size)),by simp[Instr.field,run_underlying l,n,asAgg,part,b,j,ar,A],?_⟩;simp only[aU];refine⟨_,rfl,?_⟩;have:=JI U off g.size;simpa[List.take_drop]using this
 ·cases he
def alu{P:cI}{aT:List (Nat×ev)}(G:h1 P aT=true){w:World}{ν:bd}{t e:Nat}{f g:ev}(N:eG aT t=some f)(ab:f.kind= .slice e)(a7:eG aT e=some g)
  {x y:af} {u v:Value} (h:aU w ν x u) (j:aU w ν y v) {c:Prop} {p:af} (he:BP g.size x y=some (c,p)) (aw:c):∃r,(Instr.indexAt t u v).run P w= .ok r w/\aU w ν p r:=by
 obtain⟨d,F,B⟩:=jo G N;rw[ab]at B;obtain rfl:=sS B;obtain⟨Q,E⟩:=wS G a7 w;unfold BP at he;split at he
 ·rename_i K tag xs k i;split at he
  ·rename_i m;cases he;simp only[aU]at h j;subst j;subst m;obtain⟨⟨a,cap,rfl,J,U,q⟩,_⟩:=h;obtain⟨z,l⟩:=aw;have A:i.toNat<xs.length:=Ω
   rcases q with rfl|⟨b,off,us,rfl,s,o⟩
   ·simp at A
   ·have h:xs[i.toNat]? =some xs[i.toNat]:=cl A;obtain⟨w',M,O,H⟩:=JF i.toNat o h;refine⟨.pointer (some ⟨b,off+i.toNat*g.size,none⟩),?_,?_⟩
    ·simp only[Instr.indexAt,asIntOf,gy,hG,gC,run_underlying F,z,l,and_self,if_true,E,pI]
    ·simp only[aU];refine⟨b,off+i.toNat*g.size,w',rfl,by simpa[List.getD,h]using M,?_⟩;rw[H];exact IC g.size (IA _ s)
  ·cases he
 ·rename_i K k n kk i;split at he
  ·rename_i m;cases he;simp only[aU]at h j;subst j;subst m;obtain⟨⟨b,cap,rfl⟩,U,n',L,q,s,o⟩:=h;obtain⟨z,l⟩:=aw;refine⟨.pointer (some ⟨b,0+i.toNat*g.size,none⟩),?_,?_⟩
   ·simp only[Instr.indexAt,asIntOf,gy,hG,gC,run_underlying F,z,l,and_self,if_true,E,pI]
   ·simp only[aU];refine⟨⟨b,_,rfl⟩,Ω,n',L,q,s,fun e=>⟨b,?_,Ψ⟩⟩;rw[<-o e];rfl
  ·cases he
 ·cases he
def Jb{C:fq}{st:bp}{a:Act}{w:World}{ν:bd}(h:c9 C st a w ν){x:be dQ}{o:be Operand}(b:x8 x o=true){d n:Int}(he:sx d (x.map (cF st.t))=some n):
  (o.map a.eval=none/\n=d)\/ ∃k,o.map a.eval=some (.int k n):=by
 cases x with
 |none=>cases o with
  |none=>simp[sx]at he;exact .inl ⟨rfl,he.symm⟩
  |some o=>simp[x8]at b
 |some x=>cases o with
  |none=>simp[x8]at b
  |some o=>
   simp only[x8]at b
   have:=e4 h b
   simp only[pB]at he⊢
   cases c:cF st.t x<;>simp[c,sx]at he
   rw[c]at this
   simp only[aU]at this
   subst he
   exact .inr ⟨_,by rw[this]⟩
def RW:∀{xs:List af} {s:List cJ},r5 xs=some s->s.length=xs.length
 |[],s,h=>by simp only[r5]at h;cases h;rfl
 |x::xs,s,h=>by
  cases x<;>try(simp[r5]at h;done)
  rename_i k n;cases k<;>simp only[r5,hs,reduceCtorEq]at h;obtain⟨a,J,rfl⟩:=h;simp[RW J]
def AK(n:Int):cJ:=UInt8.ofNat n.toNat
def RX{w:World}{ν:bd}{sz:Nat}:∀{xs:List af} {s:List cJ} {us:List Value},r5 xs=some s->dw w ν sz xs us->∃ns:List Int,us=ns.map (Value.int .u8)/\s=ns.map AK/\us.length=xs.length
 |[],s,us,h,a=>by simp only[r5]at h;cases h;simp only[dw]at a;subst a;exact⟨[],rfl,rfl,rfl⟩
 |x::xs,s,us,h,a=>by
  cases x<;>try(simp[r5]at h;done)
  rename_i k n;cases k<;>simp only[r5,hs,reduceCtorEq]at h;obtain⟨d,J,rfl⟩:=h;simp only[dw,aU]at a;obtain⟨u,c,rfl,⟨rfl,_⟩,a⟩:=a;obtain⟨ns,rfl,rfl,b⟩:=RX J a;exact⟨n::ns,by simp[pw],rfl,by simp[pw]at b⊢;exact b⟩
def ZU{P:cI}{w:World}{f:Value->ByteArray->Sem (ForInStep ByteArray)}(a:∀n s,f (.int .u8 n) s=pure (.yield (s.push (AK n)))):∀(ns:List Int) (s:ByteArray),(forIn (ns.map (Value.int .u8)) s f).run P w= .ok ⟨(s.data.toList++ns.map AK).toArray⟩ w
 |[],s=>by simp
 |n::ns,s=>by simp only[ha,List.forIn_cons,gy,a,hG,gC];rw[ZU a ns];simp[ayg]
def ad5{P:cI}{w:World}{A:Nat->Nat->Prop}{a:be Addr}{len cap:Nat}{ns:List Int}(g:ns.length=len)(h:len=0\/ ∃b off,a=some ⟨b,off,none⟩/\kY w A b off (ns.map (Value.int .u8))):
  (Conv.bytesToString (.slice a len cap)).run P w= .ok (.string ⟨(ns.map AK).toArray⟩) w:=by
 have f:∀c,a=some c->(loadCells c len).run P w= .ok (ns.map (Value.int .u8)).toArray w:=fun c e=>by
  rcases h with h|⟨b,off,d,U⟩
  ·subst h;have:ns=[]:=by cases ns<;>simp_all
   subst this;exact run_loadCells_list w c [] fun j v i=>by simp at i
  ·rw[d]at e;cases e;have:=abv (P:=P) U;simpa[g]using this
 unfold Conv.bytesToString;cases a with
 |none=>
  have:ns=[]:=by
   rcases h with h|⟨b,off,d,U⟩
   ·subst h;cases ns<;>simp_all
   ·cases d
  subst this;simp;rfl
 |some c=>simp only[gy,f c rfl,gC,Array.forIn_toList,List.forIn_toArray];rw[ZU (fun n s=>rfl) ns adi];simp
def adf{c d:af}(h:Kv c d=true):c=d:=by unfold Kv at h;split at h<;>simp_all
def Q9:∀{cs a:List af},Ax cs a=true->cs=a
 |[],[],_=>rfl
 |[],_::_,h=>by simp[Ax]at h
 |_::_,[],h=>by simp[Ax]at h
 |c::cs,d::a,h=>by simp only[Ax,cR]at h;rw[adf h.1,Q9 h.2]
def atz{cs:List af}{z:af}(h:Re cs z=true):z= .agg cs:=by
 cases z<;>simp only[Re]at h;case agg a=>rw[Q9 h]
 all_goals cases h
def ajA(s:List cJ)(n:Nat)(h:n<s.length):(⟨s.toArray⟩:ByteArray)[n]? =some (s.getD n 0):=by
 have a:n<(⟨s.toArray⟩:ByteArray).size:=by rw[FQ];exact h
 have e:(⟨s.toArray⟩:ByteArray)[n]? =some ((⟨s.toArray⟩:ByteArray)[n]'a):=getElem?_pos (⟨s.toArray⟩:ByteArray) n a;rw[e];congr 1;simp[List.getD,h];rfl
def J2(P:cI)(w:World)(k:IntKind)(i:Int)(y:Nat)(c:BoundsCode)(a:0<=i)(J:i<=y):(Instr.sliceBound (.int k i) y c).run P w= .ok i.toNat w:=by simp[Instr.sliceBound,asIntOf,a,J]
def RQ(P:cI)(w:World)(a:Bool)(len cap:Nat)(lo hi:be Value)(l h:Int)(b:(lo=none/\l=0)\/ ∃k,lo=some (.int k l))(c:(hi=none/\h=len)\/ ∃k,hi=some (.int k h))
  (d:0<=l) (J:l<=h) (U:h<=len) (aw:len<=cap):(Instr.sliceBounds a len cap lo hi none).run P w= .ok (l.toNat,h.toNat,cap) w:=by
 rcases b with⟨rfl,rfl⟩|⟨k,rfl⟩<;>rcases c with⟨rfl,rfl⟩|⟨bs,rfl⟩
 ·simp[Instr.sliceBounds]
 ·simp[Instr.sliceBounds,J2 P w bs h cap _ Ω Ω]
 ·simp[Instr.sliceBounds,J2 P w k l len _ Ω Ω]
 ·simp[Instr.sliceBounds,J2 P w bs h cap _ Ω Ω,J2 P w k l h.toNat _ Ω Ω]
def ZR{P:cI}{aT:List (Nat×ev)}(e:h1 P aT=true):∀(gs:List Field),(gs.all fun f=>(eG aT f.type).isSome)=true->
  ∃a:List (Nat×Nat),gs.mapM (fun f=>(P.info? f.type).map fun i=>(f.offset,i.size))=some a/\
   ∀(i off t sz:Nat),(gs.map (fun f=>(f.offset,f.type)))[i]? =some (off,t)->(eG aT t).map (·.size)=some sz->a[i]? =some (off,sz)
 |[],_=>⟨[],Ψ,Ψ⟩
 |f::gs,h=>by
  simp only[List.all_cons,cR]at h;obtain⟨a,J,U⟩:=ZR e gs h.2;obtain⟨g,a7⟩:=fx.1 h.1;obtain⟨i,d,z,l,r,k,q,p,o,n,m⟩:=(wT e a7).ex;refine⟨(f.offset,g.size)::a,by simp[List.mapM_cons,l,k,J],fun j off t sz b c=>?_⟩;cases j with
  |zero=>simp only[ha,List.getElem?_cons_zero,dU,js]at b⊢;obtain⟨rfl,rfl⟩:=b;rw[a7]at c;simpa using c
  |succ j=>simp only[ha,List.getElem?_cons_succ]at b⊢;exact U j off t sz b c
def l5{P:cI}{w:World}{x:Sem Value}{v:Value}(h:x.run P w= .ok v w):(do pure (Next.value (<-x)):Sem Next).run P w= .ok (.value v) w:=by simp[h]
def Rc{p q:af}(h:Da p q=true):p=q:=by
 unfold Da at h;split at h
 ·rw[Q9 h]
 ·cases h
 ·exact adf h
def Rb(w:World)(ν:bd){p:af}{v:Value}(h:Ay p v=true):aU w ν p v/\cW w ν (cells p) v.cells.toList:=by
 by_cases b:∃cs,p= .agg cs
 ·obtain⟨cs,rfl⟩:=b;cases v<;>simp only[Ay]at h;case agg us=>have:=Ra w ν _ _ h;exact⟨by simp only[aU];exact⟨us,rfl,this⟩,by simpa[cells,pw]using this⟩
  all_goals cases h
 ·have a:AM p v=true/\v.oneCell'=true:=by cases p<;>simp only[Ay,cR]at h<;>first|exact h|exact absurd ⟨_,rfl⟩ b
  have c:=K3 w ν a.1;refine⟨c,?_⟩;have aw:cells p=[p]:=by cases p<;>first|rfl|exact absurd ⟨_,rfl⟩ b
  have d:v.cells= #[v]:=by have:=a.2;cases v<;>first|rfl|simp[Value.oneCell']at this
  rw[aw,d];simp only[cW];exact⟨v,[],rfl,⟨c,a.2⟩,rfl⟩
def QK{P:cI}{aT:List (Nat×ev)}(e:h1 P aT=true){t:Nat}{f:ev}(g:eG aT t=some f)(w:World):∃z,(zeroValue t).run P w= .ok z w/\Ay f.zero z=true/\z.cells.size=f.size:=by obtain⟨i,d,z,J,U,j,k,h,c,b,a⟩:=(wT e g).ex;exact⟨z,by simp[zeroValue,typeInfo,J,c],b,a⟩
def FE{C:fq}{st:bp}{a:Act}{w:World}{ν:bd}(h:c9 C st a w ν):∀{xs:List dQ} {os:List Operand},zW xs os=true->c7 w ν (xs.map (cF st.t)) (os.map a.eval)
 |[],[],_=>by simp[c7]
 |[],_::_,ab=>by simp[zW]at ab
 |_::_,[],ab=>by simp[zW]at ab
 |x::xs,o::os,ab=>by simp only[zW,cR]at ab;simp only[ha,c7];exact⟨_,_,rfl,e4 h ab.1,FE h ab.2⟩
def afv{P:cI}{w:World}{t:gQ}(c:P.underlying t=some .bool)(d:Nat)(a b:Bool):(Op.equalIn (d+1) t (.bool a) (.bool b)).run P w= .ok (a==b) w:=by rw[Op.equalIn];simp only[gy,run_underlying c,gC,hG]
def afw{P:cI}{w:World}{t:gQ}(c:P.underlying t=some .bool)(a b:Bool):(Op.equal t (.bool a) (.bool b)).run P w= .ok (a==b) w:=afv c _ a b
def UB:∀{borns:List Nat} {kvs:List af} {us:List Value},kvs.length=2*borns.length->us.length=kvs.length->(gS borns us).length=borns.length
 |[],_,us,_,_=>by simp[gS]
 |b2::a,kvs,[],J,U=>by rw[J]at U;simp at U
 |b2::a,kvs,[_],J,U=>by rw[J]at U;simp at U;omega
 |b2::a,kvs,k::v::us,J,U=>by simp only[gS,mw];rw[UB (kvs:=kvs.drop 2) (us:=us) (borns:=a) (by simp at J⊢;omega) (by simp at J U⊢;omega)]
def abi{w:World}{ν:bd}:∀{a:List af} {bm:List Value},c7 w ν a bm->bm.length=a.length
 |[],bm,h=>by simp only[c7]at h;subst h;rfl
 |p::a,bm,h=>by simp only[c7]at h;obtain⟨u,b,rfl,_,U⟩:=h;simp[abi U]
def yj{P:cI}{w:World}{r:Nat}{o:Obj}(a:w.heap[r]? =some o)(b:∀c e f,o≠ .cells c e f:=by simp):(getObj r).run P w= .ok o w:=by simp only[getObj,Sem.run,a]
def rW(P:cI):Nat->List Bool->List Field->Prop
 |_,[],[]=>True
 |n,b::r,f::gs=>(f.offset=n/\f.name≠ "_" /\(if b=true then P.underlying f.type=some .string else∃k,P.underlying f.type=some (.int k)))/\rW P (n+1) r gs
 |_,_,_=>er
def Ft{P:cI}{t:gQ}{b:Bool}(h:if b=true then P.underlying t=some .string else∃k,P.underlying t=some (.int k)):P.plainKey t=true:=by
 cases b
 ·obtain⟨k,h⟩:=(by simpa using h:∃k,P.underlying t=some (.int k));simp[Program.plainKey,h]
 ·have h:P.underlying t=some .string:=by simpa using h
  simp[Program.plainKey,h]
def aeo{P:cI}{w:World}{ν:bd}(d:Nat){X Y:Array Value}(A:List Bool):∀(gs:List Field) (n:Nat) (as g:List af) (us bm:List Value) (q:Bool),rW P n A gs->X.toList.drop n=us->Y.toList.drop n=bm->cW w ν as us->cW w ν g bm->kR A as g=some q->
  (Op.eqFields (d+1) X Y gs).run P w= .ok q w/\(q=true->us=bm)/\∀m,(us.zip us).all (fun(x,y)=>Instr.sameBits m x y)=true:=by
 induction A with
 |nil=>intro gs n as g us bm q a7 p o J U h;cases as<;>cases g<;>simp only[kR,dU,reduceCtorEq]at h;cases gs<;>simp only[rW]at a7;simp only[cW]at J U;rw[J,U,<-h];exact⟨by simp[Op.eqFields],fun _=>rfl,fun m=>rfl⟩
 |cons z r L=>
  intro gs n as g us bm q a7 p o J U h;cases gs with
  |nil=>simp only[rW]at a7
  |cons f gs=>
  simp only[rW]at a7;obtain⟨⟨M,K,l⟩,a7⟩:=a7;cases as with
  |nil=>cases z<;>cases g<;>simp[kR]at h
  |cons s as=>
  cases g with
  |nil=>cases z<;>cases s<;>simp[kR]at h
  |cons t g=>
  cases z with
  |false=>
   have aw:∃k a b c,s= .int k a/\t= .int k b/\kR r as g=some c/\q=((a==b)&&c):=by
    cases s<;>first|(simp[kR]at h;done)|skip
    cases t<;>first|(simp[kR]at h;done)|skip
    simp only[kR]at h;split at h
    ·rename_i ab;subst ab;simp only[hs]at h;obtain⟨c,j,E⟩:=h;exact⟨_,_,_,c,rfl,rfl,j,E.symm⟩
    ·cases h
   obtain⟨k,a,b,c,rfl,rfl,j,rfl⟩:=aw;simp only[cW,aU]at J U;obtain⟨u,B,rfl,⟨rfl,_⟩,J⟩:=J;obtain⟨v,vs',rfl,⟨rfl,_⟩,U⟩:=U;have H:X[n]? =some (.int k a):=by rw[<-vn,<-List.head?_drop,p];rfl
   have F:Y[n]? =some (.int k b):=by rw[<-vn,<-List.head?_drop,o];rfl
   obtain⟨i1,i2,i3⟩:=L gs (n+1) as g B vs' c a7 (by rw[<-List.tail_drop,p];rfl) (by rw[<-List.tail_drop,o];rfl) J U j;obtain⟨kk,G⟩:=(by simpa using l:∃k,P.underlying f.type=some (.int k));refine⟨?_,?_,fun m=>?_⟩
   ·simp only[Op.eqFields,K,ne_eq,not_false_eq_true,if_true,gy,M,run_part_plain w (Ft l) H,run_part_plain w (Ft l) F,gC,run_equalIn_int w d f.type k kk a b G];cases N:(a==b)
    ·simp
    ·simpa using i1
   ·intro i;simp only[cR,ey]at i;rw[i.1,i2 i.2]
   ·have:=i3 m;simp only[List.zip_cons_cons,List.all_cons,this,Bool.and_true];cases m<;>simp[Instr.sameBits]
  |true=>
   have aw:∃a b c,s= .str a/\t= .str b/\kR r as g=some c/\q=((a==b)&&c):=by
    cases s<;>first|(simp[kR]at h;done)|skip
    cases t<;>first|(simp[kR]at h;done)|skip
    simp only[kR,hs]at h;obtain⟨c,j,E⟩:=h;exact⟨_,_,c,rfl,rfl,j,E.symm⟩
   obtain⟨a,b,c,rfl,rfl,j,rfl⟩:=aw;simp only[cW,aU]at J U;obtain⟨u,B,rfl,⟨⟨rfl,_⟩,_⟩,J⟩:=J;obtain⟨v,vs',rfl,⟨⟨rfl,_⟩,_⟩,U⟩:=U;have H:X[n]? =some (.string ⟨a.toArray⟩):=by rw[<-vn,<-List.head?_drop,p];rfl
   have F:Y[n]? =some (.string ⟨b.toArray⟩):=by rw[<-vn,<-List.head?_drop,o];rfl
   obtain⟨i1,i2,i3⟩:=L gs (n+1) as g B vs' c a7 (by rw[<-List.tail_drop,p];rfl) (by rw[<-List.tail_drop,o];rfl) J U j;have G:P.underlying f.type=some .string:=by simpa using l
   refine⟨?_,?_,fun m=>?_⟩
   ·simp only[Op.eqFields,K,ne_eq,not_false_eq_true,if_true,gy,M,run_part_plain w (Ft l) H,run_part_plain w (Ft l) F,gC,run_equalIn_string w d f.type _ _ G];have e:((⟨a.toArray⟩:ByteArray).toList==(⟨b.toArray⟩:ByteArray).toList)=(a==b):=by rw[atC,atC]
    rw[e];cases N:(a==b)
    ·simp
    ·simpa using i1
   ·intro i;simp only[cR,ey]at i;rw[i.1,i2 i.2]
   ·have:=i3 m;simp only[List.zip_cons_cons,List.all_cons,this,Bool.and_true];cases m<;>simp only[Instr.sameBits]<;>exact(MapKept.bytes_beq _ _).2 rfl
def Vj{P:cI}{aT:List (Nat×ev)}(aJ:h1 P aT=true):∀(ek:List Bool) (gs:List Field) (n:Nat),Bf aT n ek (gs.map fun f=>(f.offset,f.type))=true->(gs.all (fun f=>match P.underlying f.type with|some (.int _)=>true|some .string=>true|_=>false)=true)/\((∀f∈gs,f.name≠ "_")->rW P n ek gs)
 |[],[],_,_=>⟨rfl,fun _=>trivial⟩
 |[],_::_,_,h=>by simp[Bf]at h
 |_::_,[],_,h=>by simp[Bf]at h
 |b::r,f::gs,n,h=>by
  simp only[ha,Bf,cR,ey]at h;obtain⟨⟨J,U⟩,aq⟩:=h;obtain⟨i1,i2⟩:=Vj aJ r gs (n+1) aq;split at U
  ·rename_i aG;obtain⟨d,hu,aL⟩:=jo aJ aG;obtain rfl:=DC aL;refine⟨by simp only[List.all_cons,hu,i1,Bool.and_self],fun aA=>⟨⟨J,aA f Ψ,?_⟩,i2 fun g a7=>aA g (by simp[a7])⟩⟩;have:b=false:=by simpa using U
   subst this;simpa using⟨_,hu⟩
  ·rename_i aG;obtain⟨d,hu,aL⟩:=jo aJ aG;obtain rfl:=yW aL;refine⟨by simp only[List.all_cons,hu,i1,Bool.and_self],fun aA=>⟨⟨J,aA f Ψ,?_⟩,i2 fun g a7=>aA g (by simp[a7])⟩⟩;subst U;simpa using hu
  ·cases U
def Vl{P:cI}{aT:List (Nat×ev)}(b:h1 P aT=true){a:List Bool}{t:Nat}(h:Hr aT a t=true):∃gs,P.underlying t=some (.struct gs)/\rW P 0 a gs.toList/\P.stoodInHeld t=false/\P.eqGuardType P.depth t=false:=by
 unfold Hr at h;split at h
 ·rename_i e;obtain⟨d,hu,c⟩:=jo b e;have aw:=(wT b e).cmp d hu;cases d<;>simp[k8]at c;rename_i gs;subst c;obtain⟨i1,i2⟩:=Vj b a gs.toList 0 h;have f:Vk P gs=true:=i1;simp only[LB,f,Bool.not_true,Bool.false_or,Ub,cR,sN,j7,bne_iff_ne,ne_eq]at aw;exact⟨gs,hu,i2 aw.1.1,aw.1.2,aw.2⟩
 ·cases h
def UF{P:cI}{w:World}{ν:bd}{t:gQ}{gs:Array Field}{a:List Bool}(hu:P.underlying t=some (.struct gs))(a7:rW P 0 a gs.toList)(dy:P.stoodInHeld t=false){as b:List af}{X Y:Array Value}(J:cW w ν as X.toList)(U:cW w ν b Y.toList){q:Bool}(h:kR a as b=some q):
  (Op.equalIn 10000 t (.agg X) (.agg Y)).run P w= .ok q w/\(q=true->X=Y)/\∀m,(X.toList.zip X.toList).all (fun(x,y)=>Instr.sameBits m x y)=true:=by
 have c:P.fieldsOf t=gs:=by simp[Program.fieldsOf,hu]
 obtain⟨i1,i2,i3⟩:=aeo 9998 a gs.toList 0 as b _ _ q a7 rfl rfl J U h;refine⟨?_,fun e=>?_,?_⟩
 ·rw[run_equalIn_struct w 9999 t X Y (by rw[c];exact hu) dy,c];exact i1
 ·have:=i2 e;simpa using this
 ·simpa using i3
inductive vu (P:cI):kl->gQ->Prop
 |i {t:gQ} {k:IntKind}:P.underlying t=some (.int k)->vu P .i t
 |s {t:gQ}:P.underlying t=some .string->vu P .s t
 |a {t:gQ} {ek:List Bool} {gs:Array Field}:P.underlying t=some (.struct gs)->rW P 0 ek gs.toList->P.stoodInHeld t=false->vu P (.a ek) t
def XJ{P:cI}{aT:List (Nat×ev)}(e:h1 P aT=true){b:kl}{t:Nat}(h:zH aT b t=true):vu P b t:=by
 cases b with
 |i=>
  simp only[zH]at h;split at h
  ·rename_i f;obtain⟨d,hu,c⟩:=jo e f;obtain rfl:=DC c;exact .i hu
  ·cases h
 |s=>
  simp only[zH]at h;split at h
  ·rename_i f;obtain⟨d,hu,c⟩:=jo e f;obtain rfl:=yW c;exact .s hu
  ·cases h
 |a j=>obtain⟨gs,J,U,g,_⟩:=Vl e h;exact .a J U g
def uk(P:cI)(w:World)(c:kl)(t:gQ)(a u:Value)(b:Bool):Prop:=match c with
 | .a _=>(Op.equal t a u).run P w= .ok b w
 |_=> ∀d,P.underlying t=some d->Instr.sameNow d a u=some b
def ja(P:cI)(w:World)(b:kl)(t:gQ)(a:Value)(es:List MapEntry)(i:Nat)(r:be (Nat×Value)):Prop:=match b with
 | .a _=>(Instr.findAsking t a es i).run P w= .ok r w
 |_=> ∀d,P.underlying t=some d->Instr.findNow d a es i=some r
def ja.nil(P:cI)(w:World)(a:kl)(t:gQ)(b:Value)(i:Nat):ja P w a t b [] i none:=by cases a<;>simp[ja,Instr.findAsking,Instr.findNow]
def ja.hit{P:cI}{w:World}{b:kl}{t:gQ}{f:Value}{e:MapEntry}{es:List MapEntry}{i:Nat}(h:uk P w b t f e.key true):ja P w b t f (e::es) i (some (i,e.val)):=by
 cases b with
 |a g=>simp only[uk]at h;simp[ja,Instr.findAsking,h]
 |i=>simp only[uk]at h;simp only[ja];intro d c;simp[Instr.findNow,h d c]
 |s=>simp only[uk]at h;simp only[ja];intro d c;simp[Instr.findNow,h d c]
def ja.miss{P:cI}{w:World}{f:kl}{t:gQ}{g:Value}{e:MapEntry}{es:List MapEntry}{i:Nat}{r:be (Nat×Value)}(h:uk P w f t g e.key false)(b:ja P w f t g es (i+1) r):ja P w f t g (e::es) i r:=by
 cases f with
 |a j=>simp only[uk]at h;simp only[ja]at b;simp[ja,Instr.findAsking,h,b]
 |i=>simp only[uk]at h;simp only[ja]at b⊢;intro d c;simp[Instr.findNow,h d c,b d c]
 |s=>simp only[uk]at h;simp only[ja]at b⊢;intro d c;simp[Instr.findNow,h d c,b d c]
def ja.run{P:cI}{w:World}{c:kl}{t:gQ}(d:vu P c t){b:Value}{es:List MapEntry}{r:be (Nat×Value)}(h:ja P w c t b es 0 r):(Instr.findKey t b es).run P w= .ok r w:=by
 cases d with
 |i hu=>simp only[ja]at h;simp[Instr.findKey,run_underlying hu,h _ hu]
 |s hu=>simp only[ja]at h;simp[Instr.findKey,run_underlying hu,h _ hu]
 |a hu a7 dy=>
  simp only[ja]at h;cases es with
  |nil=>simp[Instr.findAsking]at h;simp[Instr.findKey,run_underlying hu,Instr.findNow,h]
  |cons e es=>
   rename_i gs;have:Instr.sameNow (.struct gs) b e.key=none:=by cases b<;>rfl
   simp only[Instr.findKey,gy,run_underlying hu,gC,Instr.findNow,this];exact h
def XH{P:cI}{w:World}{ν:bd}{h:kl}{t:gQ}(f:vu P h t){k bs:af}{g u:Value}(ab:aU w ν k g)(J:aU w ν bs u){bb:Bool}(c:uU h k bs=some bb):
  uk P w h t g u bb/\(bb=true->u=g/\Instr.sameBits 10000 u g=true):=by
 unfold uU at c;split at c
 ·split at c
  ·rename_i j;subst j;simp only[aU]at ab J;subst ab;subst J;cases f with
   |i hu=>refine⟨fun d f=>by rw[hu]at f;cases f;simpa[Instr.sameNow]using c,fun e=>?_⟩;subst e;simp only[dU,ey]at c;subst c;exact⟨rfl,by simp[Instr.sameBits]⟩
  ·cases c
 ·rename_i a b;simp only[aU]at ab J;obtain⟨rfl,_⟩:=ab;obtain⟨rfl,_⟩:=J;cases f with
  |s hu=>
   refine⟨fun d f=>?_,fun e=>?_⟩
   ·rw[hu]at f;cases f;simp only[Instr.sameNow];rw[<-c];congr 1;rw[q2,MapKept.bytes_beq];simp
   ·subst e;simp only[dU,ey]at c;subst c;exact⟨rfl,by simp only[Instr.sameBits];exact(MapKept.bytes_beq _ _).2 rfl⟩
 ·simp only[aU]at ab J;obtain⟨X,rfl,ab⟩:=ab;obtain⟨Y,rfl,J⟩:=J;cases f with
  |a hu a7 dy=>obtain⟨i1,i2,i3⟩:=UF hu a7 dy ab J c;refine⟨by simpa[uk,Op.equal,Op.maxDepth]using i1,fun e=>?_⟩;have:=i2 e;subst this;exact⟨rfl,by simp[Instr.sameBits,i3]⟩
 ·cases c
def OB{P:cI}{w:World}{ν:bd}{c:kl}{t:gQ}(o:vu P c t){k:af}{f:Value}(ab:aU w ν k f):∀(borns:List Nat) (kvs:List af) (us:List Value) (i:Nat) (r:be af),c7 w ν kvs us->kvs.length=2*borns.length->xZ c k kvs=some r->
  match r with
  |none=>ja P w c t f (gS borns us) i none
  |some v=> ∃j u,ja P w c t f (gS borns us) i (some (j,u))/\aU w ν v u
 |[],[],us,i,r,h,_,hm=>by simp only[xZ]at hm;cases hm;simp only[c7]at h;subst h;simpa[gS]using ja.nil P w c t f i
 |[],_::_,_,_,_,_,a,_=>by simp at a
 |b::l,[],_,_,_,_,a,_=>by simp at a
 |b::l,[_],_,_,_,_,a,_=>by simp at a;omega
 |b::l,bs::v::kvs,us,i,r,h,a,hm=>by
  simp only[c7]at h;obtain⟨g,s,rfl,J,d,p,rfl,U,q⟩:=h;simp only[xZ]at hm;simp only[gS];cases m:uU c k bs with
  |none=>simp[m]at hm
  |some bb=>
   obtain⟨s1,_⟩:=XH o ab J m;simp only[m]at hm;cases bb with
   |true=>simp only[dU]at hm;subst hm;exact⟨i,d,ja.hit (e:=⟨g,d,b⟩) s1,U⟩
   |false=>
    simp only at hm;have n:=OB o ab l kvs p (i+1) r q (by simp at a;omega) hm;cases r with
    |none=>exact ja.miss (e:=⟨g,d,b⟩) s1 n
    |some v'=>obtain⟨j,u,g1,g2⟩:=n;exact⟨j,u,ja.miss (e:=⟨g,d,b⟩) s1 g1,g2⟩
def Lz{P:cI}{w:World}{t:Nat}{d:TypeDesc}(hu:P.underlying t=some d)(a:(∃k,d= .int k)\/d= .string)(e:Bool)(n:Nat)(v:Value):(Instr.checkKey e (n+1) t v).run P w= .ok () w:=by unfold Instr.checkKey;rcases a with⟨k,rfl⟩|rfl<;>simp[run_underlying hu]
def ait{P:cI}{w:World}{ν:bd}{X:Array Value}(i:List Bool):∀(gs:List Field) (n:Nat) (as:List af),rW P n i gs->cW w ν as (X.toList.drop n)->(kR i as as).isSome=true->
  ∀f∈gs,(∃v,(part f.type X f.offset).run P w= .ok v w)/\∃d,P.underlying f.type=some d/\((∃k,d= .int k)\/d= .string):=by
 induction i with
 |nil=>intro gs n as a7 _ _ f a;cases gs<;>simp only[rW]at a7;cases a
 |cons b r q=>
  intro gs n as a7 j aw f a;cases gs with
  |nil=>cases a
  |cons g gs=>
  simp only[rW]at a7;obtain⟨⟨t,y,c⟩,a7⟩:=a7;cases as with
  |nil=>cases b<;>simp[kR]at aw
  |cons p as=>
  have l:(kR r as as).isSome=true:=by cases b<;>cases p<;>simp[kR]at aw⊢ <;>exact aw
  simp only[cW]at j;obtain⟨u,o,e,_,m⟩:=j;have s:X.toList.drop (n+1)=o:=by rw[<-List.tail_drop,e];rfl
  have x:X[n]? =some u:=by rw[<-vn,<-List.head?_drop,e];rfl
  rcases gJ.1 a with rfl|a
  ·refine⟨⟨u,by rw[t];exact run_part_plain w (Ft c) x⟩,?_⟩;cases b
   ·obtain⟨k,h⟩:=(by simpa using c:∃k,P.underlying f.type=some (.int k));exact⟨_,h,.inl ⟨k,rfl⟩⟩
   ·exact⟨_,by simpa using c,.inr rfl⟩
  ·exact q gs (n+1) as a7 (by rw[s];exact m) l f a
def Vt{P:cI}{w:World}{α:Type}(body:α->PUnit->Sem (ForInStep PUnit)):∀(l:List α),(∀f∈l,(body f ⟨⟩).run P w= .ok (.yield ⟨⟩) w)->(forIn l PUnit.unit body).run P w= .ok PUnit.unit w
 |[],_=>by simp
 |f::l,h=>by simp only[List.forIn_cons,gy,h f Ψ,gC];exact Vt body l fun g a7=>h g (by simp[a7])
def abr{P:cI}{w:World}{ν:bd}{cA:kl}{t:Nat}(aL:vu P cA t)(e:Bool){k:af}{v:Value}(ab:aU w ν k v)(hi:xU cA k=true):(Instr.checkKey e 10000 t v).run P w= .ok () w:=by
 cases aL with
 |i hu=>exact Lz hu (.inl ⟨_,rfl⟩) e 9999 v
 |s hu=>exact Lz hu (.inr rfl) e 9999 v
 |a hu a7 dy=>
  rename_i ek gs;cases k<;>simp only[xU,hT]at hi;rename_i as;simp only[aU]at ab;obtain⟨X,rfl,ab⟩:=ab;unfold Instr.checkKey;simp only[gy,run_underlying hu,gC];rw[<-Array.forIn_toList];rw[Vt]
  ·simp
  ·intro f aG;obtain⟨⟨v,J⟩,d,U,aq⟩:=ait ek gs.toList 0 as a7 (by simpa using ab) hi f aG;have aZ:=Lz (w:=w) U aq e 9998 v;by_cases aA:f.name= "_"
   ·simp[aA]
   ·simp[aA,J,aZ]
def Yu{w:World}{ν:bd}{n:Nat}:∀(borns:List Nat) (kvs:List af) (us:List Value) (p:af),c7 w ν kvs us->n5 n borns kvs=some p->∃e,(gS borns us).find? (·.born==n)=some e/\aU w ν p (.tuple #[e.key,e.val])
 |[],_,_,_,_,hm=>by simp[n5]at hm
 |_::_,[],_,_,_,hm=>by simp[n5]at hm
 |_::_,[_],_,_,_,hm=>by simp[n5]at hm
 |b::g,k::v::kvs,us,p,h,hm=>by
  simp only[c7]at h;obtain⟨d,j,rfl,J,c,f,rfl,U,i⟩:=h;simp only[n5]at hm;simp only[gS];by_cases e:b=n
  ·rw[if_pos e]at hm;cases hm;refine⟨⟨d,c,b⟩,by simp[List.find?,e],?_⟩;simp only[aU];exact⟨#[d,c],rfl,by simp only[c7];exact⟨_,_,rfl,J,_,_,rfl,U,rfl⟩⟩
  ·rw[if_neg e]at hm;obtain⟨x,g1,g2⟩:=Yu g kvs f p i hm;have a:(b==n)=false:=by simpa using e
   exact⟨x,by simp[List.find?,a,g1],g2⟩
def acn{P:cI}{aT:List (Nat×ev)}(H:h1 P aT=true){C:fq}{st:bp}{a:Act}{w:World}{ν:bd}(B:c9 C st a w ν){i:gR}(ajV:∀cA z ok x k,i≠ .mgetB cA z ok x k){o:Oper}(ar:F9 aT i o.op=true)
  {c:Prop} {p:af} (he:h2 st i=some (c,p)) (aw:c):∃v,(execOp a.eval o).run P w= .ok (.value v) w/\aU w ν p v:=by
 obtain⟨dst,op,type,pos,after,guard⟩:=o;simp only at ar;unfold F9 at ar;split at ar
 ·rename_i x o;simp only[h2]at he;cases he;exact⟨_,rfl,e4 B ar⟩
 ·rename_i x o;simp only[h2]at he;cases he;exact⟨_,rfl,e4 B ar⟩
 ·rename_i cD x y at3 x' y';simp only[cR]at ar;have J:=e4 B ar.1.1;have U:=e4 B ar.1.2;have M:=e4 B ar.2;simp only[h2,Jg]at he;split at he
  ·rename_i b E;rw[E]at J;simp only[aU]at J;split at he
   ·rename_i u v hu O;cases he;rw[hu]at U;rw[O]at M;simp only[aU]at U M;refine⟨.bool (cond b u v),?_,by simp[aU]⟩;simp only[execOp,J,U,M,asBool,gy,hG,gC];cases b<;>rfl
   ·split at he
    ·cases he;exact⟨_,by simp only[execOp,J,asBool,gy,hG,gC,if_true],U⟩
    ·cases he;exact⟨_,by simp only[execOp,J,asBool,gy,hG,gC,hT,if_false],M⟩
  ·cases he
 ·rename_i agg sz x t o;simp only[cR]at ar;obtain⟨J,U⟩:=ar;split at J
  ·rename_i f F;simp only[cR,ey]at J;obtain⟨rfl,rfl⟩:=J;obtain⟨v,g1,g2⟩:=IH H B.good F (e4 B U) (by simpa only[h2]using he) aw;exact⟨v,l5 g1,g2⟩
  ·cases J
 ·rename_i off agg sz x s o i;simp only[cR]at ar;obtain⟨J,U⟩:=ar;split at J
  ·rename_i f F;split at J
   ·rename_i x5 t Ef;simp only[cR,ey]at J;obtain⟨rfl,J⟩:=J;split at J
    ·rename_i g a7;simp only[cR,ey,bne_iff_ne,ne_eq]at J;obtain⟨⟨rfl,rfl⟩,V⟩:=J;obtain⟨v,g1,g2⟩:=aim H F rfl Ef a7 V (e4 B U) (by simpa only[h2]using he) aw;exact⟨v,l5 g1,g2⟩
    ·cases J
   ·cases J
  ·cases J
 ·rename_i off agg sz x s o i;simp only[cR]at ar;obtain⟨J,U⟩:=ar;split at J
  ·rename_i f F;split at J
   ·rename_i x5 t Ef;simp only[cR,ey]at J;obtain⟨rfl,J⟩:=J;split at J
    ·rename_i g a7;simp only[cR,ey]at J;obtain⟨rfl,rfl⟩:=J;obtain⟨v,g1,g2⟩:=aiu H F rfl Ef a7 (e4 B U) (by simpa only[h2]using he) aw;exact⟨v,l5 g1,g2⟩
    ·cases J
   ·cases J
  ·cases J
 ·rename_i sz x i t o j;simp only[cR]at ar;obtain⟨⟨J,U⟩,M⟩:=ar;split at J
  ·rename_i e F;split at J
   ·rename_i g a7;simp only[ey]at J;subst J;obtain⟨v,g1,g2⟩:=alu H F rfl a7 (e4 B U) (e4 B M) (by simpa only[h2]using he) aw;exact⟨v,l5 g1,g2⟩
   ·cases J
  ·cases J
 ·rename_i x i t o j;simp only[cR]at ar;obtain⟨⟨J,U⟩,M⟩:=ar;split at J
  ·rename_i F;obtain⟨d,L,K⟩:=jo H F;obtain rfl:=yW K;have A:=e4 B U;have G:=e4 B M;simp only[h2,J0]at he;split at he
   ·rename_i s k n ai Z;cases he;rw[ai]at A;rw[Z]at G;simp only[aU]at A G;obtain⟨vU,xp⟩:=aw;have bP:n.toNat<s.length:=Ω
    have akk:(⟨s.toArray⟩:ByteArray)[n.toNat]? =some (s.getD n.toNat 0):=by exact ajA s n.toNat bP
    refine⟨_,l5 (v:= .int .u8 (s.getD n.toNat 0).toNat) ?_,by simp[aU]⟩;simp only[Instr.index,G,asIntOf,A.1,gy,hG,gC,run_underlying L,vU,if_true,akk]
   ·cases he
  ·cases J
 ·rename_i x lo hi t o l h;simp only[cR]at ar;obtain⟨⟨⟨J,U⟩,M⟩,aZ⟩:=ar;split at J
  ·rename_i F;obtain⟨d,L,K⟩:=jo H F;obtain rfl:=yW K;have A:=e4 B U;simp only[h2,J5]at he;split at he
   ·rename_i s ai;rw[ai]at A;simp only[aU]at A;split at he
    ·rename_i N Q av M1;cases he;obtain⟨bR,cp,dj⟩:=aw;have a8:=Jb B M av;have bE:=Jb B aZ M1;refine⟨_,l5 (v:= .string ⟨((s.take Q.toNat).drop N.toNat).toArray⟩) ?_,?_⟩
     ·have E:=RQ P w false s.length s.length (l.map a.eval) (h.map a.eval) N Q
       a8 bE bR cp dj (dP _)
      simp only[Instr.sliceAt,Instr.slice,A.1,gy,hG,gC,run_underlying L,Option.map_none,kh,hT,if_false,FQ,E,agq]
     ·simp only[aU];refine⟨trivial,?_⟩;have:=A.2;simp only[uf,List.length_take];omega
    ·cases he
   ·cases he
  ·cases J
 ·rename_i sz x lo hi t o l h;simp only[cR]at ar;obtain⟨⟨⟨J,U⟩,M⟩,aZ⟩:=ar;split at J
  ·rename_i e F;split at J
   ·rename_i g a7;simp only[ey]at J;subst J;obtain⟨d,L,K⟩:=jo H F;obtain rfl:=sS K;obtain⟨_,en⟩:=wS H a7 w;have A:=e4 B U;simp only[h2,IK]at he;split at he
    ·rename_i ee tag xs ai;split at he
     ·rename_i gd;subst gd;rw[ai]at A;simp only[aU]at A;obtain⟨⟨R,cap,O,S,W,fK⟩,_⟩:=A;split at he
      ·rename_i N Q av M1;cases he;obtain⟨bR,cp,dj⟩:=aw;have a8:=Jb B M av;have bE:=Jb B aZ M1;have E:=RQ P w true xs.length cap (l.map a.eval) (h.map a.eval) N Q
        a8 bE bR cp dj S
       refine⟨_,l5 (v:= .slice (if cap=N.toNat then R else R.map (·.add (N.toNat*g.size))) (Q.toNat-N.toNat) (cap-N.toNat)) ?_,?_⟩
       ·simp only[Instr.sliceAt,Instr.slice,O,gy,hG,gC,run_underlying L,Option.map_none,E,en]
       ·simp only[aU];have hlen:((xs.take Q.toNat).drop N.toNat).length=Q.toNat-N.toNat:=by simp;omega
        refine⟨⟨_,_,by rw[hlen],by rw[hlen];omega,⟨Ω,by rw[hlen];omega⟩,?_⟩,(fun h=>by cases h),(fun g h=>by cases h),(fun _ _ h=>by cases h),(fun _ h=>by cases h)⟩;rcases fK with rfl|⟨b,off,us,rfl,g1,g2⟩
        ·left;simp
        ·by_cases Bo:cap=N.toNat
         ·left;apply List.eq_nil_of_length_eq_zero;rw[hlen];omega
         ·right;rw[if_neg Bo];refine⟨b,off+N.toNat*g.size,(us.take (Q.toNat*g.size)).drop (N.toNat*g.size),by simp[pI],IA _ (IC _ g1),aa9 _ (abc _ g2)⟩
      ·cases he
     ·cases he
    ·cases he
   ·cases J
  ·cases J
 ·rename_i op wr x y ZG ty o o' arV;simp only[cR,gz]at ar;obtain⟨⟨rfl,J⟩,U⟩:=ar;obtain⟨r,g1,g2⟩:=ad9 P w ν (by simpa only[h2]using he) aw ty (e4 B J) (e4 B U) o o';exact⟨r,l5 g1,g2⟩
 ·rename_i x op ty o;simp only[cR,gz]at ar;obtain⟨rfl,J⟩:=ar;have A:=e4 B J;simp only[h2]at he;unfold I3 at he;split at he
  ·rename_i b E;cases he;rw[E]at A;simp only[aU]at A;exact⟨_,l5 (v:= .bool (!b)) (by simp[Op.unary,A]),by simp[aU]⟩
  ·cases he
 ·rename_i x op ty o;simp only[cR,gz]at ar;obtain⟨rfl,J⟩:=ar;have A:=e4 B J;simp only[h2]at he;unfold IZ at he;split at he
  ·rename_i k n E;cases he;rw[E]at A;simp only[aU]at A;exact⟨_,l5 (v:= .int k (k.wrap (0-n))) (by simp[Op.unary,A,Op.intArith]),by simp[aU]⟩
  ·cases he
 ·rename_i k x s d o;simp only[cR]at ar;obtain⟨J,U⟩:=ar;split at J
  ·rename_i a8 bE zi td;simp only[gz]at J;subst J;obtain⟨d1,gi,MO⟩:=jo H zi;obtain rfl:=DC MO;obtain⟨d2,fj,MP⟩:=jo H td;obtain rfl:=DC MP;have A:=e4 B U;simp only[h2]at he;unfold G5 at he;split at he
   ·rename_i bs n E;cases he;rw[E]at A;simp only[aU]at A;exact⟨_,l5 (v:= .int k (k.wrap n)) (by simp[convert,A,run_underlying gi,run_underlying fj,Conv.intToInt]),by simp[aU]⟩
   ·cases he
  ·cases J
 ·rename_i i x o j;simp only[cR,ey]at ar;obtain⟨rfl,J⟩:=ar;have A:=e4 B J;simp only[h2]at he;unfold A7 at he;split at he
  ·rename_i bm E;simp only[hs]at he;obtain⟨q,bM,he⟩:=he;cases he;rw[E]at A;simp only[aU]at A;obtain⟨us,hu,U⟩:=A;obtain⟨v,g1,g2⟩:=FF i U bM;have mf:us[i]? =some v:=by simpa using g1
   exact⟨v,l5 (by simp[Instr.extract,hu,mf]),g2⟩
  ·cases he
 ·rename_i x o t;simp only[cR]at ar;obtain⟨J,U⟩:=ar;have A:=e4 B U;simp only[h2]at he;unfold B2 at he;split at he
  ·rename_i sz tag xs E;cases he;rw[E]at A;simp only[aU]at A;obtain⟨⟨R,cap,O,_⟩,_⟩:=A;refine⟨.int .i64 xs.length,?_,by simp[aU]⟩;split at J
   ·rename_i F;obtain⟨d,L,K⟩:=jo H F;obtain rfl:=sS K;simp[execOp,resolve,invoke,builtin,Builtin.len_,run_underlying L,O,goInt]
   ·cases J
  ·rename_i sz k n E;cases he;rw[E]at A;simp only[aU]at A;obtain⟨⟨R,cap,O⟩,_⟩:=A;refine⟨.int .i64 n,?_,by simp[aU]⟩;split at J
   ·rename_i F;obtain⟨d,L,K⟩:=jo H F;obtain rfl:=sS K;simp[execOp,resolve,invoke,builtin,Builtin.len_,run_underlying L,O,goInt]
   ·cases J
  ·rename_i R n cap E;cases he;rw[E]at A;simp only[aU]at A;refine⟨.int .i64 n,?_,by simp[aU]⟩;split at J
   ·rename_i F;obtain⟨d,L,K⟩:=jo H F;obtain rfl:=sS K;simp[execOp,resolve,invoke,builtin,Builtin.len_,run_underlying L,A,goInt]
   ·cases J
  ·cases he
 ·rename_i x o t;simp only[cR]at ar;obtain⟨J,U⟩:=ar;have A:=e4 B U;simp only[h2]at he;unfold FR at he;split at he
  ·rename_i s E;cases he;rw[E]at A;simp only[aU]at A;refine⟨.int .i64 s.length,?_,by simp[aU]⟩;split at J
   ·rename_i F;obtain⟨d,L,K⟩:=jo H F;obtain rfl:=yW K;simp[execOp,resolve,invoke,builtin,Builtin.len_,run_underlying L,A.1,goInt,FQ]
   ·cases J
  ·rename_i s E;cases he;rw[E]at A;simp only[aU]at A;refine⟨.int .i64 s.size,?_,by simp[aU]⟩;split at J
   ·rename_i F;obtain⟨d,L,K⟩:=jo H F;obtain rfl:=yW K;simp[execOp,resolve,invoke,builtin,Builtin.len_,run_underlying L,A,goInt]
   ·cases J
  ·cases he
 ·rename_i zero parts t bU;split at ar
  ·rename_i ek z F;simp only[cR]at ar;obtain⟨⟨J,U⟩,M⟩:=ar;have bC:=atz J;obtain⟨i,d,aty,A,G,bh,b3,dN,dm,sT,sU⟩:=(wT H F).ex;obtain⟨gs,rfl,lh⟩:=LG dN;simp only at bC sT sU;subst bC;have mF:(gs.toList.all fun f=>(eG aT f.type).isSome)=true:=by rw[<-lh]at U;simpa[List.all_map,Function.comp_def]using U
   obtain⟨tQ,c2,dD⟩:=ZR H gs.toList mF;rw[lh]at dD;cases aty<;>simp only[Ay]at sT;case agg us=>
    simp only[h2]at he;cases E:vH st.t zero parts with
    |none=>simp[E]at he
    |some x=>obtain⟨cD,cs'⟩:=x;simp only[E,pB]at he;cases he;obtain⟨b1,g1,g2⟩:=abt B dD parts bU.toList zero us c cs' M (Ra w ν _ _ sT) E aw;refine⟨.agg b1,l5 (run_build w t _ b1 ?_),by simp only[aU];exact⟨b1,rfl,g2⟩⟩;simp only[Program.built,A,G,dm,c2,pw];simpa using g1
   all_goals cases sT
  ·cases ar
 ·rename_i x o;have A:=e4 B ar;simp only[h2]at he;unfold Ch at he;split at he
  ·rename_i k off E;cases he;rw[E]at A;have G:=A;simp only[aU]at A;obtain⟨b,_,O⟩:=A;exact⟨a.eval o,by simp[execOp,O],G⟩
  ·rename_i q E;cases he;rw[E]at A;have G:=A;simp only[aU]at A;obtain⟨b,off,u,O,_⟩:=A;exact⟨a.eval o,by simp[execOp,O],G⟩
  ·rename_i f cs E;cases he;rw[E]at A;have G:=A;simp only[aU]at A;obtain⟨us,O,_⟩:=A;exact⟨a.eval o,by simp[execOp,O],G⟩
  ·cases he
 ·rename_i x y o o' t t';simp only[cR]at ar;have A:=e4 B ar.1;have G:=e4 B ar.2;simp only[h2]at he;unfold IW at he;split at he
  ·rename_i k m bs n hm Z;split at he
   ·rename_i ab;subst ab;cases he;rw[hm]at A;rw[Z]at G;simp only[aU]at A G;exact⟨.int k (if n<m then n else m),by simp[execOp,resolve,invoke,builtin,Builtin.min_,Builtin.min2,A,G],by simp[aU]⟩
   ·cases he
  ·cases he
 ·rename_i n xs m os;simp only[cR,ey]at ar;obtain⟨rfl,ar⟩:=ar;simp only[h2]at he;cases he;have vS:=FE B ar;refine⟨.func (.func n) #[] (os.map a.eval),by simp[execOp,Instr.makeFunc],?_⟩;simp only[aU];exact⟨os.map a.eval,rfl,by simpa using vS⟩
 ·rename_i cA zero ok x k t o o' I4;simp only[cR,ey]at ar;obtain⟨⟨⟨rfl,J⟩,U⟩,M⟩:=ar;have A:=e4 B U;have G:=e4 B M;split at J
  ·rename_i sz mA pc sb z F;simp only[cR]at J;obtain⟨aks,MT⟩:=J;split at MT
   ·rename_i auW HP;have bC:=Rc MT;obtain⟨cU,hu,K⟩:=jo H F;have xq:cU= .map pc sb:=by cases cU<;>simp[k8]at K;obtain⟨rfl,rfl⟩:=K;rfl
    subst xq;obtain⟨cb,l6,z2,_⟩:=QK H HP w;rw[<-bC]at z2;have aa:=(Rb w ν z2).1;have rj:=XJ H aks;simp only[h2]at he;unfold pe at he;split at he
    ·rename_i key ad;rw[ad]at A;simp only[aU]at A;obtain⟨bl,S,W⟩:=A;split at he
     ·rename_i clock borns kvs hZ;obtain⟨h6,us,el,g1,g2,g3,g4,g5⟩:=B.good.box key _ hZ;rw[S]at g1;cases g1;simp only[l1]at g4;simp only[k3]at g5;have iN:(getObj bl).run P w= .ok (.map (gS borns us.toList).toArray clock) w:=yj g4;split at he
      ·cases he
      rename_i fN;have Ec:=abr (P:=P) (w:=w) rj ((gS borns us.toList).toArray.isEmpty) G (by simpa using fN);split at he
      ·rename_i v hm;cases he;obtain⟨j,u,f1,f2⟩:=OB rj G borns kvs us.toList 0 _ g5.1 g5.2.len hm;refine⟨if ok then .tuple #[u,.bool true]else u,?_,?_⟩
       ·simp only[execOp];refine l5 ?_;simp only[Instr.lookup,gy,run_underlying hu,gC,W,iN,hG,Ec,f1.run rj]
       ·cases ok
        ·simpa using f2
        ·simp only[if_true,aU];exact⟨_,rfl,by simp only[c7];exact⟨_,_,rfl,f2,_,_,rfl,by simp[aU],rfl⟩⟩
      ·rename_i hm;cases he;have f1:=OB rj G borns kvs us.toList 0 _ g5.1 g5.2.len hm;simp only at f1;refine⟨if ok then .tuple #[cb,.bool false]else cb,?_,?_⟩
       ·simp only[execOp];refine l5 ?_;simp only[Instr.lookup,gy,run_underlying hu,gC,W,iN,hG,Ec,f1.run rj,l6]
       ·cases ok
        ·simpa using aa
        ·simp only[if_true,aU];exact⟨_,rfl,by simp only[c7];exact⟨_,_,rfl,aa,_,_,rfl,by simp[aU],rfl⟩⟩
      ·cases he
     ·cases he
    ·cases he
   ·cases MT
  ·cases J
 ·rename_i x o;have A:=e4 B ar;simp only[h2]at he;unfold qM at he;split at he
  ·rename_i gl ad;rw[ad]at A;simp only[aU]at A;obtain⟨bl,S,W⟩:=A;split at he
   ·rename_i since seen last mk hZ;obtain⟨h6,us,el,g1,g2,g3,g4,g5⟩:=B.good.box gl _ hZ;rw[S]at g1;cases g1;simp only[l1]at g4;simp only[k3,c7,aU]at g5;obtain⟨u,b1,sn,⟨mb,m1,rfl⟩,rfl⟩:=g5;rw[sn]at g4;simp only at g4;split at he
    ·rename_i clock borns kvs akC;obtain⟨aee,sI,afm,a8,bE,cq,eD,dr⟩:=B.good.box mk _ akC;rw[m1]at a8;cases a8;simp only[l1]at eD;simp only[k3]at dr;split at he
     ·rename_i n Z;simp only[hs]at he;obtain⟨q,bM,he⟩:=he;cases he;obtain⟨e,f1,f2⟩:=Yu borns kvs sI.toList p dr.1 bM;refine⟨.tuple #[e.key,e.val],?_,f2⟩;simp only[execOp];refine l5 ?_;have akg:(getObj bl).run P w= .ok (.mapIter (some mb) since seen.toArray last) w:=yj g4;have akh:(getObj mb).run P w= .ok (.map (gS borns sI.toList).toArray clock) w:=yj eD;have MI:seen.toArray.back? =some n:=by simpa using Z
      have Bp:(clock !=last)=false:=by simp[aw]
      have aj9:(gS borns sI.toList).toArray.find? (·.born==n)=some e:=by simpa using f1
      simp only[Instr.entry,W,gy,akg,gC,MI,akh,Bp,hT,if_false,aj9,hG]
     ·cases he
    ·cases he
   ·cases he
  ·cases he
 ·rename_i x o t;simp only[cR]at ar;obtain⟨J,U⟩:=ar;have A:=e4 B U;simp only[h2]at he;unfold Cg at he;split at he
  ·rename_i key E;rw[E]at A;simp only[aU]at A;obtain⟨bl,S,W⟩:=A;split at he
   ·rename_i clock borns kvs hZ;cases he;obtain⟨h6,us,el,g1,g2,g3,g4,g5⟩:=B.good.box key _ hZ;rw[S]at g1;cases g1;simp only[l1]at g4;simp only[k3]at g5;have iN:(getObj bl).run P w= .ok (.map (gS borns us.toList).toArray clock) w:=yj g4;have hlen:(gS borns us.toList).length=borns.length:=UB g5.2.len (abi g5.1);refine⟨.int .i64 borns.length,?_,by simp[aU]⟩;split at J
    ·rename_i F;obtain⟨d,L,K⟩:=jo H F;obtain⟨pc,sb,rfl⟩:∃pc sb,d= .map pc sb:=by cases d<;>simp[k8]at K;exact⟨_,_,rfl⟩
     simp[execOp,resolve,invoke,builtin,Builtin.len_,run_underlying L,W,goInt,iN,hlen]
    ·cases J
   ·cases he
  ·cases he
 ·rename_i neg ek x y op t o o' arV;simp only[cR,gz]at ar;obtain⟨⟨⟨rfl,V⟩,J⟩,U⟩:=ar;have A:=e4 B J;have G:=e4 B U;simp only[h2]at he;unfold ju at he;split at he
  ·rename_i br b2 bO E;simp only at V;cases he;rw[bO]at A;rw[E]at G;simp only[aU]at A G;split at V
   ·rename_i F;obtain⟨d,L,K⟩:=jo H F;obtain rfl:d= .bool:=by cases d<;>simp[k8]at K;rfl
    refine⟨.bool (if neg then br !=b2 else br==b2),l5 ?_,by simp[aU]⟩;cases neg<;>simp[A,G,eqGuard,binOp,afw L,bne]
   ·cases V
  ·rename_i au3 as dC bO E;simp only at V;simp only[hs]at he;obtain⟨q,bM,he⟩:=he;cases he;rw[bO]at A;rw[E]at G;simp only[aU]at A G;obtain⟨X,aff,apK⟩:=A;obtain⟨Y,afg,apL⟩:=G;obtain⟨gs,hu,a7,dy,jM⟩:=Vl H V;obtain⟨i1,_,_⟩:=UF hu a7 dy apK apL bM;refine⟨.bool (if neg then !q else q),l5 ?_,by simp[aU]⟩;rw[aff,afg];cases neg
   ·simp only[hT,if_false,gy,run_eqGuard_agg w _ t o o' X Y jM,gC,run_eql_struct,i1]
   ·simp only[if_true,gy,run_eqGuard_agg w _ t o o' X Y jM,gC,run_neq_struct,i1]
  ·cases he
 ·rename_i x y o o' t t';simp only[cR]at ar;have A:=e4 B ar.1;have G:=e4 B ar.2;simp only[h2]at he;unfold IP at he;split at he
  ·rename_i k m bs n hm Z;split at he
   ·rename_i ab;subst ab;cases he;rw[hm]at A;rw[Z]at G;simp only[aU]at A G;exact⟨.int k (if m<n then n else m),by simp[execOp,resolve,invoke,builtin,Builtin.max_,Builtin.max2,A,G],by simp[aU]⟩
   ·cases he
  ·cases he
 ·rename_i t x t' o;simp only[cR,ey]at ar;obtain⟨⟨rfl,J⟩,U⟩:=ar;have A:=e4 B U;simp only[h2]at he;cases he;split at J
  ·rename_i F;obtain⟨d,L,K⟩:=jo H F;obtain rfl:=sS K;refine⟨.iface t (a.eval o),l5 (by simp[Instr.makeInterface,run_underlying L]),?_⟩;simp only[aU];exact⟨_,rfl,A⟩
  ·cases J
 ·rename_i agg sz x t o;simp only[cR]at ar;obtain⟨J,U⟩:=ar;split at J
  ·rename_i f F;simp only[cR,ey]at J;obtain⟨rfl,rfl⟩:=J;obtain⟨v,g1,g2⟩:=IH H B.good F (e4 B U) (amo (by simpa only[h2]using he)) aw;exact⟨v,l5 g1,g2⟩
  ·cases J
 ·rename_i x s d o;simp only[cR]at ar;obtain⟨J,U⟩:=ar;split at J
  ·rename_i e _ _ zi td;split at J
   ·rename_i aj8;obtain⟨d1,gi,MO⟩:=jo H zi;obtain rfl:=sS MO;obtain⟨d2,fj,MP⟩:=jo H td;obtain rfl:=yW MP;obtain⟨d3,hd,aj4⟩:=jo H aj8;obtain rfl:=DC aj4;have A:=e4 B U;simp only[h2]at he;unfold GD at he;split at he
    ·rename_i sz tag xs E;simp only[hs]at he;obtain⟨dC,pR,he⟩:=he;cases he;rw[E]at A;simp only[aU]at A;obtain⟨⟨R,cap,ba,bB,bX,dq⟩,_⟩:=A;have av:=RW pR;have ad:∃ns:List Int,ns.length=xs.length/\dC=ns.map AK/\(xs.length=0\/ ∃b off,R=some ⟨b,off,none⟩/\kY w ν.A b off (ns.map (Value.int .u8))):=by
      rcases dq with rfl|⟨b,off,us,c2,dD,hJ⟩
      ·simp only[r5,dU]at pR;exact⟨[],rfl,by rw[<-pR];rfl,.inl rfl⟩
      ·obtain⟨ns,dL,eE,kA⟩:=RX pR hJ;subst dL;exact⟨ns,by simpa using kA,eE,.inr ⟨b,off,c2,dD⟩⟩
     obtain⟨ns,gr,rfl,hQ⟩:=ad;refine⟨_,l5 (v:= .string ⟨(ns.map AK).toArray⟩) ?_,by simp only[aU];exact⟨trivial,by rw[av];exact bX.2⟩⟩;rw[ba];simp only[convert,gy,run_underlying gi,run_underlying fj,gC];simp only[run_underlying hd,gy,gC,ad5 gr hQ]
    ·cases he
   ·cases J
  ·cases J
 ·rename_i agg sz x t o;simp only[cR]at ar;obtain⟨J,U⟩:=ar;split at J
  ·rename_i f F;simp only[cR,ey]at J;obtain⟨rfl,rfl⟩:=J;obtain⟨v,g1,g2⟩:=IH H B.good F (e4 B U) (aiz (by simpa only[h2]using he)) aw;exact⟨v,l5 g1,g2⟩
  ·cases J
 ·exact absurd rfl (ajV _ _ _ _ _)
 ·cases ar
def ar1{P:cI}{aT:List (Nat×ev)}(f:h1 P aT=true){C:fq}{st:bp}{a:Act}{w:World}{ν:bd}(g:c9 C st a w ν){i:gR}{o:Oper}(ar:F9 aT i o.op=true)
  {c:Prop} {p:af} (he:h2 st i=some (c,p)) (aw:c):∃v,(execOp a.eval o).run P w= .ok (.value v) w/\aU w ν p v:=by
 by_cases d:∃b z ok x k,i= .mgetB b z ok x k
 ·obtain⟨b,z,ok,x,k,rfl⟩:=d;refine acn f g (i:= .mget b z ok x k) (fun _ _ _ _ _ e=>by cases e) ?_ he aw;obtain⟨dst,op,type,pos,after,guard⟩:=o;cases op<;>first|exact ar|simp[F9]at ar
 ·exact acn f g (fun b z ok x k e=>d ⟨b,z,ok,x,k,e⟩) ar he aw
def T4{w:World}{o:Obj}{b i:Nat}(h:b<w.heap.size):(w.alloc o).cell? ⟨b,i,none⟩=w.cell? ⟨b,i,none⟩:=World.cell?_of_block (Below.heap_alloc w o b h)
def bd.withBox(ν:bd)(k:aB)(bl:Nat):bd:={ν with bx:=fun j=>if j=k then some bl else ν.bx j}
def bd.withOwn(ν:bd)(k:aB)(n:Nat)(v:Value):bd:={ν with ow:=fun j=>if j=k then some (n,v)else ν.ow j}
def c9.lookNone{C:fq}{st:bp}{a:Act}{w:World}{ν:bd}(h:c9 C st a w ν){k:aB}(ab:fresh st.n st.o k):ae k st.b=none/\ae k st.e=none:=by
 obtain⟨J,U,_⟩:=h.new k ab;constructor
 ·cases b:ae k st.b with
  |none=>rfl
  |some cs=>obtain⟨bl,us,el,g1,_⟩:=h.good.box _ _ b;rw[J]at g1;cases g1
 ·cases b:ae k st.e with
  |none=>rfl
  |some o=>obtain⟨v,us,g1,_⟩:=h.good.own _ _ b;rw[U]at g1;cases g1
def Good.ownLt{pr:Nat->Prop}{w:World}{ν:bd}{b:List (aB×List af)}{e:List (aB×dW)}(h:Good pr w ν b e){g:aB}{o:dW}(a7:ae g e=some o){n:Nat}{v:Value}(c:ν.ow g=some (n,v)){bl:Nat}(a:v.ownBlock=some bl):bl<w.heap.size:=by obtain⟨v',us,g1,g2,_⟩:=h.own g o a7;rw[c]at g1;cases g1;exact(g2.lt bl a).2
def Good.boxLt{pr:Nat->Prop}{w:World}{ν:bd}{b:List (aB×List af)}{e:List (aB×dW)}(h:Good pr w ν b e){k:aB}{cs:List af}(ab:ae k b=some cs){bl:Nat}(a:ν.bx k=some bl):bl<w.heap.size:=by obtain⟨c,us,el,g1,_,_,g4,_⟩:=h.box k cs ab;rw[a]at g1;cases g1;exact(Array.getElem?_eq_some_iff.1 g4).1
def c9.newBox{C:fq}{st:bp}{a:Act}{w:World}{ν:bd}(h:c9 C st a w ν){c:aB}(H:ν.bx c=none/\ν.ow c=none/\∀j b,¬ν.tr c j b){n':Nat}{o':List aB}(O:∀j,fresh n' o' j->fresh st.n st.o j/\j≠c){cs:List af}{us:Array Value}(el:gQ)(aw:k3 w ν cs us.toList):
  c9 C {st with b:=cK c cs st.b,n:=n',o:=o'} a (w.alloc (l1 cs us el)) (ν.withBox c w.heap.size)/\
  aU (w.alloc (l1 cs us el)) (ν.withBox c w.heap.size) (.ptr c 0) (.pointer (some ⟨w.heap.size,0,none⟩)):=by
 obtain⟨K,S,B⟩:=H;have ar:mz w ν (w.alloc (l1 cs us el)) (ν.withBox c w.heap.size):=by
  refine⟨fun b o f=>⟨f,T4 (h.good.alt b o f)⟩,fun k b _ ab=>?_,fun g n u _ a7=>⟨n,u,a7,.inl ⟨rfl,rfl⟩⟩,fun b o f=>ym (Below.heap_alloc w _ b (h.good.alt b o f)),fun _ _ _ _ h=>h⟩;have:k≠c:=fun e=>by subst e;rw[K]at ab;cases ab
  simp[bd.withBox,this,ab]
 have y:(w.alloc (l1 cs us el)).heap.size=w.heap.size+1:=Ψ
 have r:∀k,(ae k (cK c cs st.b)).isSome->k=c\/(k≠c/\(ae k st.b).isSome/\(ν.withBox c w.heap.size).bx k=ν.bx k):=by
  intro k ab;by_cases e:k=c
  ·exact .inl e
  ·rw[jm,if_neg (Ne.symm e)]at ab;exact .inr ⟨e,ab,by simp[bd.withBox,e]⟩
 refine⟨h.over ar rfl ⟨fun bl o f=>by rw[y];have:=h.good.alt bl o f;omega,fun k z ab=>?_,fun k bs bl ab L p q=>?_,fun g o a7=>?_,h.good.oinj,fun g k n v bl a7 ab G d s=>?_,fun k=>?_,fun bl d k j E=>?_⟩
  ⟨h.fr.os,h.fr.tape,h.fr.output,by rw[y];have:=h.fr.size;omega,fun k ab hm=>?_,fun b o f=>?_,h.fr.fresh,fun n b d=>?_,h.fr.obn,h.fr.row,h.fr.obr,h.fr.trd,fun k j b d=>⟨(h.fr.trb k j b d).1,by rw[y];have:=(h.fr.trb k j b d).2;omega⟩,fun k j b d=>?_,fun b o f=>(ar.sh b o (h.fr.keep b o f).1).trans (h.fr.sh b o f)⟩ (fun m hm=>?_),?_⟩
 ·simp only at ab;rw[jm]at ab;by_cases e:c=k
  ·rw[if_pos e]at ab;cases ab;subst e;refine⟨w.heap.size,us,el,by simp[bd.withBox],.inr h.fr.size,fun o f=>?_,heap_alloc_new w _,rK ar aw⟩;have:=h.good.alt _ o f;omega
  ·rw[if_neg e]at ab;obtain⟨bl,R,N,g1,g2,g3,g4,g5⟩:=h.good.box k z ab;exact⟨bl,R,N,ar.bx _ _ trivial g1,g2,g3,by rw[Below.heap_alloc w _ bl (Array.getElem?_eq_some_iff.1 g4).1];exact g4,rK ar g5⟩
 ·rcases r k ab with rfl|⟨F,l,i⟩<;>rcases r bs L with rfl|⟨m1,m2,m3⟩
  ·rfl
  ·exfalso;simp only[bd.withBox,if_true,dU]at p;subst p;rw[m3]at q;obtain⟨z,x⟩:=fx.1 m2;have:=h.good.boxLt x q;omega
  ·exfalso;simp only[bd.withBox,if_true,dU]at q;subst q;rw[i]at p;obtain⟨z,x⟩:=fx.1 l;have:=h.good.boxLt x p;omega
  ·rw[i]at p;rw[m3]at q;exact h.good.inj k bs bl l m2 p q
 ·obtain⟨v,xs,g1,g2,g3,g4⟩:=h.good.own g o a7;exact⟨v,xs,g1,g2.alloc _,g3,tU ar (fun _ _ _ h=>h) g4⟩
 ·rcases r k ab with rfl|⟨F,l,i⟩
  ·simp only[bd.withBox,if_true,dU]at s;subst s;obtain⟨o,M⟩:=fx.1 a7;have:=h.good.ownLt M G d;omega
  ·rw[i]at s;exact h.good.obx g k n v bl a7 l G d s
 ·by_cases e:k=c
  ·subst e;exact .inr S
  ·rcases h.good.one k with J|J
   ·exact .inl (by simp[bd.withBox,e,J])
   ·exact .inr J
 ·rcases d with⟨bs,Q,a2⟩|d
  ·rcases r bs Q with rfl|⟨F,l,i⟩
   ·simp[bd.withBox]at a2;subst a2;exact absurd (h.fr.trb k j _ E).2 (Nat.lt_irrefl _)
   ·exact h.good.otr bl (.inl ⟨bs,l,by rw[<-i];exact a2⟩) k j E
  ·exact h.good.otr bl (.inr d) k j E
 ·rw[Below.heap_alloc w _ k (by have:=h.fr.size;omega)];exact h.fr.block k ab hm
 ·obtain⟨t,A⟩:=h.fr.keep b o f;exact⟨t,(T4 (h.good.alt b o t)).trans A⟩
 ·exact ar.bx _ _ trivial (h.fr.obj n b d)
 ·have P:k≠c:=fun e=>by subst e;exact B j b d
  obtain⟨t1,t2⟩:=h.fr.trn k j b d;exact⟨by simp[bd.withBox,P,t1],t2⟩
 ·obtain⟨f1,f2⟩:=O m hm;obtain⟨t,A⟩:=h.new m f1;refine⟨?_,A⟩;simp[bd.withBox,f2,t]
 ·simp[aU,bd.withBox]
def c9.setBox{C:fq}{st:bp}{a:Act}{w w':World}{ν:bd}(h:c9 C st a w ν){k:aB}{cs cs':List af}(ab:ae k st.b=some cs){bl:Nat}(f:ν.bx k=some bl){us:Array Value}{el:gQ}
  (M:w'.os=w.os) (K:w'.tape=w.tape) (L:w'.output=w.output) (l:∀j,j≠bl->w'.heap[j]? =w.heap[j]?) (q:w'.heap.size=w.heap.size) (z:w'.heap[bl]? =some (l1 cs' us el)) (aw:k3 w ν cs' us.toList):
  c9 C {st with b:=cK k cs' st.b} a w' ν/\mz w ν w' ν:=by
 obtain⟨N,O,H,g1,g2,g3,g4,g5⟩:=h.good.box k cs ab;rw[f]at g1;cases g1;have ar:mz w ν w' ν:=by
  refine⟨fun b o d=>⟨d,World.cell?_of_block (l b fun e=>?_)⟩,fun _ _ _ h=>h,fun g n u _ a7=>⟨n,u,a7,.inl ⟨rfl,rfl⟩⟩,fun b o d=>ym (l b fun e=>?_),fun _ _ _ _ h=>h⟩<;>
  (subst e;exact g3 o d)
 have p:∀j,(ae j (cK k cs' st.b)).isSome->(ae j st.b).isSome:=by
  intro j c;rw[jm]at c;by_cases e:k=j
  ·subst e;simp[ab]
  ·rwa[if_neg e]at c
 refine⟨h.over ar rfl ⟨fun b o d=>by rw[q];exact h.good.alt b o d,fun j B c=>?_,fun j dh b c y=>h.good.inj j dh b (p j c) (p dh y),fun g o a7=>?_,h.good.oinj,fun g j n v b a7 c=>h.good.obx g j n v b a7 (p j c),h.good.one,fun bl f=>h.good.otr bl (f.imp (fun⟨k,J,U⟩=>⟨k,p k J,U⟩) id)⟩
  ⟨M.trans h.fr.os,K.trans h.fr.tape,L.trans h.fr.output,by rw[q];exact h.fr.size,fun j c hm=>?_,fun b o d=>?_,h.fr.fresh,h.fr.obj,h.fr.obn,h.fr.row,h.fr.obr,h.fr.trd,fun k j b f=>⟨(h.fr.trb k j b f).1,by rw[q];exact(h.fr.trb k j b f).2⟩,h.fr.trn,fun b o d=>(ar.sh b o (h.fr.keep b o d).1).trans (h.fr.sh b o d)⟩ h.new,ar⟩
 ·simp only at c;rw[jm]at c;by_cases e:k=j
  ·rw[if_pos e]at c;cases c;subst e;exact⟨bl,us,el,f,g2,g3,z,rK ar aw⟩
  ·rw[if_neg e]at c;obtain⟨b,G,A,m,i,s,t,E⟩:=h.good.box j B c;refine⟨b,G,A,m,i,s,?_,rK ar E⟩;rw[l b fun r=>e (h.good.inj k j bl (by simp[ab]) (by simp[c]) f (by rw[<-r];exact m))];exact t
 ·obtain⟨v,xs,m,i,s,t⟩:=h.good.own g o a7;refine⟨v,xs,m,⟨i.1,?_⟩,s,tU ar (fun _ _ _ h=>h) t⟩;rcases i.2 with i|⟨bb,cap,cur,f1,f2,f3,f4⟩
  ·exact .inl i
  ·refine .inr ⟨bb,cap,cur,f1,f2,?_,f4⟩;rw[l bb fun r=>h.good.obx g k o.n v bl (by simp[a7]) (by simp[ab]) m (by rw[f1,<-r];rfl) f];exact f3
 ·rw[l j fun e=>by subst e;exact g2.elim hm (fun g2=>Ω)];exact h.fr.block j c hm
 ·obtain⟨x,F⟩:=h.fr.keep b o d;exact⟨x,(ar.A b o x).2.trans F⟩
def c9.storeBox{C:fq}{st:bp}{a:Act}{w:World}{ν:bd}(h:c9 C st a w ν){k:aB}{cs cs':List af}(ab:ae k st.b=some cs){bl:Nat}(c:ν.bx k=some bl)(f:gY cs=true){us:Array Value}(aw:cW w ν cs' us.toList):
  c9 C {st with b:=cK k cs' st.b} a (w.setRow bl us) ν:=by
 obtain⟨i,e,el,g1,g2,g3,g4,g5⟩:=h.good.box k cs ab;rw[c]at g1;cases g1;rw[pg f]at g4;have d:=wK aw;exact(h.setBox (w':=w.setRow bl us) ab c (us:=us) (el:=el) rfl rfl rfl (fun j g=>setRow_other w bl j us g) (setRow_size w bl us) (by rw[pg d];exact setRow_heap w bl e us el _ g4) (by rw[pj d];exact aw)).1
def bd.withRowOf(ν:bd)(k:aB)(v:Value)(n cells:Nat):bd:={A:=fun b o=>ν.A b o\/(v.ownBlock=some b/\o<cells),bx:=ν.bx,ow:=fun j=>if j=k then some (n,v)else ν.ow j,tr:=ν.tr}
def IB{w:World}{A:Nat->Nat->Prop}{b:Nat}:∀(us:List Value) (off:Nat),(∀j u,us[j]? =some u->A b (off+j)/\w.cell? ⟨b,off+j,none⟩=some u)->kY w A b off us
 |[],_,_=>trivial
 |u::us,off,h=>⟨h 0 u rfl,IB us (off+1) fun j x a=>by have:=h (j+1) x (by simpa using a);rwa[show off+(j+1)=off+1+j from by omega]at this⟩
def G2{w w':World}(a7:w.grownBy w' none){b i:Nat}(h:b<w.heap.size):w'.cell? ⟨b,i,none⟩=w.cell? ⟨b,i,none⟩:=World.cell?_of_block (a7.block b h Ψ)
def c9.newRowM{C:fq}{st:bp}{a:Act}{w w':World}{ν:bd}(h:c9 C st a w ν){k:aB}{xs:List af}(ab:(ν.bx k=none/\ν.ow k=none/\∀j b,¬ν.tr k j b)\/ ∃o,ae k st.e=some o/\o.n<xs.length){el sz:Nat}{v:Value}{us:List Value}
  (a7:w.grownBy w' none) (F:w'.ownsRow w.heap.size el sz v xs.length us) (aw:dw w ν sz xs us) (Y:xs.length<=lim) {n':Nat} {o':List aB} (dB:∀j,fresh n' o' j->fresh st.n st.o j/\j≠k):
  c9 C {st with e:=cK k ⟨xs.length,el,sz,some xs⟩ st.e,n:=n',o:=o'} a w' (ν.withOwn k xs.length v)/\
  ((∃b cap,v= .slice (some ⟨b,0,none⟩) xs.length cap)->aU w' (ν.withOwn k xs.length v) (.row sz k xs.length) v):=by
 have q:∀bl,v.ownBlock=some bl->w.heap.size<=bl/\bl<w'.heap.size:=fun bl c=>F.lt bl c;have ar:mz w ν w' (ν.withOwn k xs.length v):=by
  refine⟨fun b o d=>⟨d,G2 a7 (h.good.alt b o d)⟩,fun j b _ z=>z,fun g n u _ y=>?_,fun b o d=>ym (a7.block b (h.good.alt b o d) Ψ),fun _ _ _ _ h=>h⟩;by_cases e:g=k
  ·subst e;rcases ab with ab|⟨o,ar,H⟩
   ·rw[ab.2.1]at y;cases y
   ·obtain⟨v0,B,i,_⟩:=h.good.own g o ar;rw[i]at y;cases y;exact⟨xs.length,v,by simp[bd.withOwn],.inr H⟩
  ·exact⟨n,u,by simp[bd.withOwn,e,y],.inl ⟨rfl,rfl⟩⟩
 have A:∀g,(ae g (cK k ⟨xs.length,el,sz,some xs⟩ st.e)).isSome->g=k\/(g≠k/\(ae g st.e).isSome/\(ν.withOwn k xs.length v).ow g=ν.ow g):=by
  intro g N;by_cases e:g=k
  ·exact .inl e
  ·rw[jm,if_neg (Ne.symm e)]at N;exact .inr ⟨e,N,by simp[bd.withOwn,e]⟩
 have V:∀bl,v.ownBlock=some bl->∀j,¬ν.A bl j:=fun bl c j d=>by have J:=h.good.alt bl j d;have:=(q bl c).1;omega
 have L:∀j b,¬ν.tr k j b:=fun j b c=>by
  rcases ab with ab|⟨o,p,_⟩
  ·exact ab.2.2 j b c
  ·obtain⟨v0,B,i,_⟩:=h.good.own k o p;rw[(h.fr.trn k j b c).2]at i;cases i
 refine⟨h.over ar rfl ⟨fun bl o d=>?_,fun j Q z=>?_,h.good.inj,fun g o s=>?_,fun g P n n' u Z bl J U f l x G=>?_,fun g j n u bl J U f l x=>?_,fun j=>?_,fun bl c bs j M=>?_⟩
  ⟨a7.os.trans h.fr.os,a7.tape.trans h.fr.tape,a7.output.trans h.fr.output,kE h.fr.size a7.size,fun j z hm=>?_,fun b o d=>?_,h.fr.fresh,h.fr.obj,h.fr.obn,fun m n u hm=>FH (h.fr.row m n u hm) (fun n u=>ar.ow _ n u trivial),h.fr.obr,h.fr.trd,fun k j b c=>⟨(h.fr.trb k j b c).1,Nat.lt_of_lt_of_le (h.fr.trb k j b c).2 a7.size⟩,fun bs j b c=>?_,fun b o d=>(ar.sh b o (h.fr.keep b o d).1).trans (h.fr.sh b o d)⟩ (fun m hm=>?_),?_⟩
 ·have:=h.good.alt bl o d;have:=a7.size;omega
 ·obtain⟨bl,b1,X,g1,g2,g3,g4,g5⟩:=h.good.box j Q z;have H:=(Array.getElem?_eq_some_iff.1 g4).1;exact⟨bl,b1,X,g1,g2,g3,by rw[a7.block bl H Ψ];exact g4,rK ar g5⟩
 ·simp only at s;rw[jm]at s;by_cases e:k=g
  ·rw[if_pos e]at s;cases s;subst e;refine⟨v,us,by simp[bd.withOwn],⟨F.1,?_⟩,fun bl c=>⟨.inr (kE h.fr.size (q bl c).1),fun j d=>absurd d (V bl c j)⟩,fun ys S=>?_⟩
   ·rcases F.2 with i|⟨bb,cap,cur,f1,f2,f3⟩
    ·exact .inl i
    ·exact .inr ⟨bb,cap,cur,f1,Ω,f3⟩
   ·simp only[dU]at S;subst S;exact⟨rfl,CJ ar aw,V⟩
  ·rw[if_neg e]at s;obtain⟨v0,B,i,aC,bh,b3⟩:=h.good.own g o s;exact⟨v0,B,by simp[bd.withOwn,Ne.symm e,i],aC.kept a7 (by cases v0.ownBlock<;>simp),bh,tU ar (fun _ _ _ h=>h) b3⟩
 ·rcases A g J with rfl|⟨O,t,r⟩<;>rcases A P U with rfl|⟨m1,m2,m3⟩
  ·rfl
  ·exfalso;simp only[bd.withOwn,if_true,dU,js]at f;rw[m3]at l;obtain⟨o,p⟩:=fx.1 m2;have R:=h.good.ownLt p l G;have:=(q bl (by rw[f.2];exact x)).1;omega
  ·exfalso;simp only[bd.withOwn,if_true,dU,js]at l;rw[r]at f;obtain⟨o,p⟩:=fx.1 t;have R:=h.good.ownLt p f x;have:=(q bl (by rw[l.2];exact G)).1;omega
  ·rw[r]at f;rw[m3]at l;exact h.good.oinj g P n n' u Z bl t m2 f l x G
 ·rcases A g J with rfl|⟨O,t,r⟩
  ·simp only[bd.withOwn,if_true,dU,js]at f;obtain⟨Q,W⟩:=fx.1 U;have R:=h.good.boxLt W x;have:=(q bl (by rw[f.2];exact l)).1;omega
  ·rw[r]at f;exact h.good.obx g j n u bl t U f l x
 ·by_cases e:j=k
  ·subst e;rcases ab with ab|⟨o,p,_⟩
   ·exact .inl ab.1
   ·obtain⟨v0,B,i,_⟩:=h.good.own j o p;rcases h.good.one j with J|J
    ·exact .inl J
    ·rw[J]at i;cases i
  ·rcases h.good.one j with J|J
   ·exact .inl J
   ·exact .inr (by simp[bd.withOwn,e,J])
 ·rcases c with c|⟨g,n,u,bq,a2,a3⟩
  ·exact h.good.otr bl (.inl c) bs j M
  ·rcases A g bq with rfl|⟨O,t,r⟩
   ·simp only[bd.withOwn,if_true,dU,js]at a2;have J:=(q bl (by rw[a2.2];exact a3)).1;have U:=(h.fr.trb bs j _ M).2;omega
   ·exact h.good.otr bl (.inr ⟨g,n,u,t,by rw[<-r];exact a2,a3⟩) bs j M
 ·rw[a7.block j (by have:=h.fr.size;omega) Ψ];exact h.fr.block j z hm
 ·obtain⟨E,K⟩:=h.fr.keep b o d;exact⟨E,(ar.A b o E).2.trans K⟩
 ·have cv:bs≠k:=fun e=>by subst e;exact L j b c
  obtain⟨t1,t2⟩:=h.fr.trn bs j b c;exact⟨t1,by simp[bd.withOwn,cv,t2]⟩
 ·obtain⟨f1,f2⟩:=dB m hm;obtain⟨E,K,cq⟩:=h.new m f1;refine⟨E,?_,cq⟩;simp[bd.withOwn,f2,K]
 ·intro MX;simp only[aU];exact⟨MX,Y,xs.length,v,by simp[bd.withOwn],dP _,fun _=>rfl⟩
def c9.publish{C:fq}{st:bp}{a:Act}{w:World}{ν:bd}(h:c9 C st a w ν){k:aB}{o:dW}{xs:List af}(ab:ae k st.e=some o)(ad:o.xs=some xs){v:Value}(q:ν.ow k=some (o.n,v))(E:xs.length<=lim):
  c9 C {st with e:=cK k ⟨o.n,o.el,o.sz,none⟩ st.e} a w (ν.withRowOf k v o.n (o.n*o.sz))/\
  aU w (ν.withRowOf k v o.n (o.n*o.sz)) (.slice o.sz (.own k) xs) v:=by
 obtain⟨v0,us,K,r,x,S⟩:=h.good.own k o ab;rw[q]at K;cases K;obtain⟨G,L,vc⟩:=S xs ad;have f:∀g,(ν.withRowOf k v o.n (o.n*o.sz)).ow g=ν.ow g:=fun g=>by
  simp only[bd.withRowOf];split
  ·rename_i e;subst e;exact q.symm
  ·rfl
 have ar:mz w ν w (ν.withRowOf k v o.n (o.n*o.sz)):=⟨fun b o c=>⟨.inl c,rfl⟩,fun j b _ p=>p,fun g n u _ N=>⟨n,u,by rw[f];exact N,.inl ⟨rfl,rfl⟩⟩,fun _ _ _=>rfl,fun _ _ _ _ h=>h⟩
 have s:∀g,(ae g (cK k ⟨o.n,o.el,o.sz,none⟩ st.e)).isSome->(ae g st.e).isSome:=by
  intro g M;by_cases e:k=g
  ·subst e;simp[ab]
  ·rwa[jm,if_neg e]at M
 refine⟨h.over ar rfl ⟨fun bl i c=>?_,fun j Q p=>?_,h.good.inj,fun g o' l=>?_,fun g F n n' u R bl J U y aZ=>h.good.oinj g F n n' u R bl (s g J) (s F U) (by rwa[f]at y) (by rwa[f]at aZ),fun g j n u bl J U y=>h.good.obx g j n u bl (s g J) U (by rwa[f]at y),fun j=>?_,fun bl d=>h.good.otr bl (d.imp id (fun⟨g,n,v,W,a2,a3⟩=>⟨g,n,v,s g W,by rwa[f]at a2,a3⟩))⟩
  ⟨h.fr.os,h.fr.tape,h.fr.output,h.fr.size,h.fr.block,fun b i c=>⟨.inl (h.fr.keep b i c).1,(h.fr.keep b i c).2⟩,fun b i c=>?_,h.fr.obj,h.fr.obn,fun m n u hm=>FH (h.fr.row m n u hm) (fun n u=>ar.ow _ n u trivial),h.fr.obr,h.fr.trd,h.fr.trb,fun bs j b d=>⟨(h.fr.trn bs j b d).1,by rw[f];exact(h.fr.trn bs j b d).2⟩,h.fr.sh⟩ (fun m hm=>?_),?_⟩
 ·rcases c with c|⟨c,_⟩
  ·exact h.good.alt bl i c
  ·exact(r.lt bl c).2
 ·obtain⟨bl,Z,P,g1,g2,g3,g4,g5⟩:=h.good.box j Q p;refine⟨bl,Z,P,g1,g2,fun i c=>?_,g4,rK ar g5⟩;rcases c with c|⟨c,_⟩
  ·exact g3 i c
  ·exact h.good.obx k j o.n v bl (by simp[ab]) (by simp[p]) q c g1
 ·simp only at l;rw[jm]at l;by_cases e:k=g
  ·rw[if_pos e]at l;cases l;subst e;refine⟨v,us,by rw[f];exact q,r,fun bl d=>⟨(x bl d).1,fun j c=>?_⟩,fun ys aK=>by cases aK⟩;rcases c with c|⟨_,c⟩
   ·exact(x bl d).2 j c
   ·exact c
  ·rw[if_neg e]at l;obtain⟨v0,O,t,z,H,Y⟩:=h.good.own g o' l;have A:∀bl,v0.ownBlock=some bl->∀j,(ν.withRowOf k v o.n (o.n*o.sz)).A bl j->ν.A bl j:=fun bl d j c=>by
    rcases c with c|⟨c,_⟩
    ·exact c
    ·exact absurd (h.good.oinj k g o.n o'.n v v0 bl (by simp[ab]) (by simp[l]) q t c d) e
   exact⟨v0,O,by rw[f];exact t,z,fun bl d=>⟨(H bl d).1,fun j c=>(H bl d).2 j (A bl d j c)⟩,tU ar A Y⟩
 ·rcases h.good.one j with J|J
  ·exact .inl J
  ·exact .inr (by rw[f];exact J)
 ·rcases c with c|⟨c,_⟩
  ·exact h.fr.fresh b i c
  ·exact .inr (x b c).1
 ·obtain⟨a8,X,V⟩:=h.new m hm;exact⟨a8,by rw[f];exact X,V⟩
 ·simp only[aU];refine⟨?_,fun e=>(by cases e),fun g e=>?_,fun _ _ e=>(by cases e),fun _ e=>(by cases e)⟩
  ·rcases r.2 with⟨t,z⟩|⟨bb,cap,cur,f1,f2,f3,f4,f5,f6,f7⟩
   ·refine⟨none,0,by rw[t,G,z],Ω,⟨by simp[maxLen],E⟩,.inl (List.eq_nil_of_length_eq_zero Ω)⟩
   ·refine⟨some ⟨bb,0,none⟩,cap,by rw[f1,G],Ω,⟨f5,E⟩,.inr ⟨bb,0,us,rfl,IB us 0 fun j u p=>?_,CJ ar L⟩⟩;have B:v.ownBlock=some bb:=by rw[f1];rfl
    have Bz:j<us.length:=(fH.1 p).1;refine⟨.inr ⟨B,by rw[r.1]at Bz;omega⟩,?_⟩;have:=r.cells B j u p;rwa[pI]at this
  ·cases e;exact⟨o.n,v,by rw[f];exact q,Ω,fun _=>rfl⟩
def ack{α:Type}(k:aB)(p q:α):∀l,cK k q (cK k p l)=cK k q l
 |[]=>by simp[cK]
 |(i,r)::l=>by
  by_cases e:i=k
  ·simp[cK,e]
  ·simp[cK,e,ack k p q l]
def c9.newRow{C:fq}{st:bp}{a:Act}{w w':World}{ν:bd}(h:c9 C st a w ν){k:aB}{xs:List af}(ab:(ν.bx k=none/\ν.ow k=none/\∀j b,¬ν.tr k j b)\/ ∃o,ae k st.e=some o/\o.n<xs.length){el sz:Nat}{v:Value}{us:List Value}
  (a7:w.grownBy w' none) (d:w'.ownsRow w.heap.size el sz v xs.length us) (aw:dw w ν sz xs us) (c:xs.length<=lim) {n':Nat} {o':List aB} (f:∀j,fresh n' o' j->fresh st.n st.o j/\j≠k):
  c9 C {st with e:=cK k ⟨xs.length,el,sz,none⟩ st.e,n:=n',o:=o'} a w' ((ν.withOwn k xs.length v).withRowOf k v xs.length (xs.length*sz))/\
  aU w' ((ν.withOwn k xs.length v).withRowOf k v xs.length (xs.length*sz)) (.slice sz (.own k) xs) v:=by
 have J:=(h.newRowM ab a7 d aw c f).1;have U:=J.publish (k:=k) (o:=⟨xs.length,el,sz,some xs⟩) (xs:=xs) (v:=v) (by simp[jm]) rfl (by simp[bd.withOwn]) c;simpa only[ack]using U
def c9.setRowM{C:fq}{st:bp}{a:Act}{w w':World}{ν:bd}(h:c9 C st a w ν){k:aB}{o:dW}{xs xs':List af}(ab:ae k st.e=some o)(ad:o.xs=some xs){bl:Nat}{v v':Value}(f:ν.ow k=some (o.n,v))(l:v.ownBlock=some bl)(H:v'.ownBlock=some bl)
  (aA:(xs'.length=o.n/\v'=v)\/o.n<xs'.length) {us:List Value} (BE:w'.os=w.os) (Nt:w'.tape=w.tape) (Nf:w'.output=w.output) (s:∀j,j≠bl->w'.heap[j]? =w.heap[j]?) (L:w'.heap.size=w.heap.size)
  (R:w'.ownsRow 0 o.el o.sz v' xs'.length us) (aw:dw w ν o.sz xs' us):
  c9 C {st with e:=cK k ⟨xs'.length,o.el,o.sz,some xs'⟩ st.e} a w' (ν.withOwn k xs'.length v')/\mz w ν w' (ν.withOwn k xs'.length v')/\(xs'.length<=lim->aU w' (ν.withOwn k xs'.length v') (.row o.sz k xs'.length) v'):=by
 obtain⟨v0,V,X,bB,Y,dq⟩:=h.good.own k o ab;rw[f]at X;cases X;obtain⟨dK,mS,A⟩:=dq xs ad;have ar:mz w ν w' (ν.withOwn k xs'.length v'):=by
  refine⟨fun b i d=>⟨d,World.cell?_of_block (s b fun e=>by subst e;exact A b l i d)⟩,fun j b _ r=>r,fun g n u _ p=>?_,fun b i d=>ym (s b fun e=>by subst e;exact A b l i d),fun _ _ _ _ h=>h⟩;by_cases e:g=k
  ·subst e;rw[f]at p;cases p;refine⟨xs'.length,v',by simp[bd.withOwn],?_⟩;rcases aA with⟨J,U⟩|J
   ·exact .inl ⟨J,U⟩
   ·exact .inr J
  ·exact⟨n,u,by simp[bd.withOwn,e,p],.inl ⟨rfl,rfl⟩⟩
 have B:∀g n u,(ae g (cK k ⟨xs'.length,o.el,o.sz,some xs'⟩ st.e)).isSome->(ν.withOwn k xs'.length v').ow g=some (n,u)->∀b,u.ownBlock=some b->(ae g st.e).isSome/\∃n u,ν.ow g=some (n,u)/\u.ownBlock=some b:=by
  intro g n u S p b c;by_cases e:g=k
  ·subst e;simp only[bd.withOwn,if_true,dU,js]at p;rw[<-p.2,H]at c;cases c;exact⟨by simp[ab],o.n,v,f,l⟩
  ·rw[jm,if_neg (Ne.symm e)]at S;simp only[bd.withOwn,e,if_false]at p;exact⟨S,n,u,p,c⟩
 refine⟨h.over ar rfl ⟨fun b i d=>by rw[L];exact h.good.alt b i d,fun j ej r=>?_,h.good.inj,fun g o' q=>?_,fun g W n n' u eM b J U P Q N di=>?_,fun g j n u b J U P Q N=>?_,fun j=>?_,fun b c=>h.good.otr b (c.imp id (fun⟨g,n,v,z,a2,a3⟩=>by obtain⟨M,x,t,O,K⟩:=B g n v z a2 b a3;exact⟨g,x,t,M,O,K⟩))⟩
  ⟨BE.trans h.fr.os,Nt.trans h.fr.tape,Nf.trans h.fr.output,by rw[L];exact h.fr.size,fun j r hm=>?_,fun b i d=>?_,h.fr.fresh,h.fr.obj,h.fr.obn,fun m n u hm=>FH (h.fr.row m n u hm) (fun n u=>ar.ow _ n u trivial),h.fr.obr,h.fr.trd,fun k j b c=>⟨(h.fr.trb k j b c).1,by rw[L];exact(h.fr.trb k j b c).2⟩,fun bs j b c=>?_,fun b o d=>(ar.sh b o (h.fr.keep b o d).1).trans (h.fr.sh b o d)⟩ (fun m hm=>?_),ar,?_⟩
 ·obtain⟨b,b1,gK,g1,g2,g3,g4,g5⟩:=h.good.box j ej r;have y:b≠bl:=fun e=>h.good.obx k j o.n _ bl (by simp[ab]) (by simp[r]) f l (by rw[<-e];exact g1);exact⟨b,b1,gK,g1,g2,g3,by rw[s b y];exact g4,rK ar g5⟩
 ·simp only at q;rw[jm]at q;by_cases e:k=g
  ·rw[if_pos e]at q;cases q;subst e;refine⟨v',us,by simp[bd.withOwn],R,fun b c=>?_,fun ys aK=>?_⟩
   ·rw[H]at c;cases c;exact⟨(Y bl l).1,fun j d=>absurd d (A bl l j)⟩
   ·simp only[dU]at aK;subst aK;exact⟨rfl,CJ ar aw,fun b c=>by rw[H]at c;cases c;exact A bl l⟩
  ·rw[if_neg e]at q;obtain⟨v0,V,Z,F,bh,b3⟩:=h.good.own g o' q;have y:∀b,v0.ownBlock=some b->b≠bl:=fun b c LQ=>e (h.good.oinj k g o.n o'.n _ v0 bl (by simp[ab]) (by simp[q]) f Z l (by rw[<-LQ];exact c));refine⟨v0,V,by simp[bd.withOwn,Ne.symm e,Z],⟨F.1,?_⟩,bh,tU ar (fun _ _ _ h=>h) b3⟩;rcases F.2 with F|⟨bb,DA,nM,f1,f2,f3,f4⟩
   ·exact .inl F
   ·exact .inr ⟨bb,DA,nM,f1,f2,by rw[s bb (y bb (by rw[f1];rfl))];exact f3,f4⟩
 ·obtain⟨z,x,t,a2,a3⟩:=B g n u J P b N;obtain⟨M,fl,jq,O,K⟩:=B W n' eM U Q b di;exact h.good.oinj g W x fl t jq b z M a2 O a3 K
 ·obtain⟨z,x,t,a2,a3⟩:=B g n u J P b Q;exact h.good.obx g j x t b z U a2 a3 N
 ·by_cases e:j=k
  ·subst e;rcases h.good.one j with J|J
   ·exact .inl J
   ·rw[J]at f;cases f
  ·rcases h.good.one j with J|J
   ·exact .inl J
   ·exact .inr (by simp[bd.withOwn,e,J])
 ·rw[s j fun e=>by subst e;exact(Y j l).1.elim hm (fun g2=>Ω)];exact h.fr.block j r hm
 ·obtain⟨G,E⟩:=h.fr.keep b i d;exact⟨G,(ar.A b i G).2.trans E⟩
 ·obtain⟨t1,t2⟩:=h.fr.trn bs j b c;have y:bs≠k:=fun e=>by subst e;rw[t2]at f;cases f
  exact⟨t1,by simp[bd.withOwn,y,t2]⟩
 ·obtain⟨G,E,cq⟩:=h.new m hm;refine⟨G,?_,cq⟩;have:m≠k:=fun e=>by subst e;rw[E]at f;cases f
  simp[bd.withOwn,this,E]
 ·intro fh;simp only[aU];obtain⟨cap,MX⟩:=ZL R H;exact⟨⟨bl,cap,MX⟩,fh,xs'.length,v',by simp[bd.withOwn],dP _,fun _=>rfl⟩
def c9.inPlace{C:fq}{st:bp}{a:Act}{w:World}{ν:bd}(h:c9 C st a w ν){k:aB}{o:dW}(ab:ae k st.e=some o){bl cap:Nat}{cur:Array Value}(l:ν.ow k=some (o.n,.slice (some ⟨bl,0,none⟩) o.n cap))
  (E:w.heap[bl]? =some (.cells cur o.el (0,0))) (Bo:cap<=maxLen) (en:cur.size=cap*o.sz) {xs ys:List af} {us ns:List Value} (P:xs.length=o.n) (sn:cur.toList.take (o.n*o.sz)=us) (aw:dw w ν o.sz xs us) (Bq:dw w ν o.sz ys ns)
  (gk:0<ys.length) (Y:o.n+ys.length<=cap) (fh:xs.length+ys.length<=lim):
  c9 C {st with e:=cK k ⟨o.n+ys.length,o.el,o.sz,none⟩ st.e} a (w.setRow bl (us++ns++cur.toList.drop (o.n*o.sz+ns.length)).toArray)
   (ν.withRowOf k (.slice (some ⟨bl,0,none⟩) (o.n+ys.length) cap) (o.n+ys.length) ((o.n+ys.length)*o.sz))/\
  aU (w.setRow bl (us++ns++cur.toList.drop (o.n*o.sz+ns.length)).toArray) (ν.withRowOf k (.slice (some ⟨bl,0,none⟩) (o.n+ys.length) cap) (o.n+ys.length) ((o.n+ys.length)*o.sz))
   (.slice o.sz (.own k) (xs++ys)) (.slice (some ⟨bl,0,none⟩) (o.n+ys.length) cap):=by
 have O:=rL Bq;have B:=rL aw;rw[P]at B;have hmul:(o.n+ys.length)*o.sz<=cap*o.sz:=rU _ Y;rw[q5]at hmul;obtain⟨v0,gm,ba,bB,bX,_⟩:=h.good.own k o ab;rw[l]at ba;cases ba;obtain⟨S,dK⟩:=bX bl rfl;generalize y:w.setRow bl (us++ns++cur.toList.drop (o.n*o.sz+ns.length)).toArray=w';have z:∀j,j≠bl->w'.heap[j]? =w.heap[j]?:=fun j f=>by rw[<-y];exact setRow_other w bl j _ f
 have G:w'.heap[bl]? =some (.cells (us++ns++cur.toList.drop (o.n*o.sz+ns.length)).toArray o.el (0,0)):=by rw[<-y];exact setRow_heap w bl cur _ o.el _ E
 have W:w'.heap.size=w.heap.size:=by rw[<-y];exact setRow_size w bl _
 have pS:∀j,j<o.n*o.sz->w'.cell? ⟨bl,j,none⟩=w.cell? ⟨bl,j,none⟩:=by intro j f;simp only[World.cell?,G,E,kh,hT,if_false];rw[List.getElem?_toArray,List.append_assoc,rS Ω,<-sn,List.getElem?_take,if_pos f];simp
 have ar:mz w ν w' (ν.withRowOf k (.slice (some ⟨bl,0,none⟩) (o.n+ys.length) cap) (o.n+ys.length) ((o.n+ys.length)*o.sz)):=by
  refine⟨fun b j c=>⟨.inl c,?_⟩,fun j b _ f=>f,fun g n u _ Q=>?_,fun b j c=>?_,fun _ _ _ _ h=>h⟩;rotate_left 2
  ·by_cases e:b=bl
   ·subst e;simp only[shape,G,E,List.size_toArray,qe,uf,Array.length_toList];congr 2;omega
   ·exact ym (z b e)
  ·by_cases e:b=bl
   ·subst e;exact pS j (dK j c)
   ·exact World.cell?_of_block (z b e)
  ·by_cases e:g=k
   ·subst e;rw[l]at Q;cases Q;exact⟨o.n+ys.length,.slice (some ⟨bl,0,none⟩) (o.n+ys.length) cap,by simp[bd.withRowOf],.inr Ω⟩
   ·exact⟨n,u,by simp[bd.withRowOf,e,Q],.inl ⟨rfl,rfl⟩⟩
 have F:∀g,(ae g (cK k ⟨o.n+ys.length,o.el,o.sz,none⟩ st.e)).isSome->g=k\/(g≠k/\(ae g st.e).isSome/\(ν.withRowOf k (.slice (some ⟨bl,0,none⟩) (o.n+ys.length) cap) (o.n+ys.length) ((o.n+ys.length)*o.sz)).ow g=ν.ow g):=by
  intro g Z;by_cases e:g=k
  ·exact .inl e
  ·rw[jm,if_neg (Ne.symm e)]at Z;exact .inr ⟨e,Z,by simp[bd.withRowOf,e]⟩
 have au8:bl<w.heap.size:=(Array.getElem?_eq_some_iff.1 E).1;have V:∀j u,(us++ns)[j]? =some u->w'.cell? ⟨bl,j,none⟩=some u:=by intro j u f;have N:=(fH.1 f).1;simp only[World.cell?,G,kh,hT,if_false];rw[List.getElem?_toArray,rS N];exact f
 refine⟨h.over ar rfl ⟨fun b j c=>?_,fun j ej f=>?_,h.good.inj,fun g o' s=>?_,fun g H n n' u eM b J U p q r A=>?_,fun g j n u b J U p q r=>?_,fun j=>?_,fun b d=>h.good.otr b ?_⟩
  ⟨by rw[<-y];exact h.fr.os,by rw[<-y];exact h.fr.tape,by rw[<-y];exact h.fr.output,by rw[W];exact h.fr.size,fun j f hm=>?_,fun b j c=>?_,fun b j c=>?_,h.fr.obj,h.fr.obn,fun m n u hm=>FH (h.fr.row m n u hm) (fun n u=>ar.ow _ n u trivial),h.fr.obr,h.fr.trd,fun k j b d=>⟨(h.fr.trb k j b d).1,by rw[W];exact(h.fr.trb k j b d).2⟩,fun bs j b d=>?_,fun b o c=>(ar.sh b o (h.fr.keep b o c).1).trans (h.fr.sh b o c)⟩ (fun m hm=>?_),?_⟩
 ·rw[W];rcases c with c|⟨c,_⟩
  ·exact h.good.alt b j c
  ·simp only[pz,dU]at c;omega
 ·obtain⟨b,b1,gK,g1,g2,g3,g4,g5⟩:=h.good.box j ej f;have t:b≠bl:=fun e=>h.good.obx k j o.n _ bl (by simp[ab]) (by simp[f]) l rfl (by rw[<-e];exact g1);refine⟨b,b1,gK,g1,g2,fun i c=>?_,by rw[z b t];exact g4,rK ar g5⟩;rcases c with c|⟨c,_⟩
  ·exact g3 i c
  ·simp only[pz,dU]at c;exact t c.symm
 ·simp only at s;rw[jm]at s;by_cases e:k=g
  ·rw[if_pos e]at s;cases s;subst e;refine⟨.slice (some ⟨bl,0,none⟩) (o.n+ys.length) cap,us++ns,by simp[bd.withRowOf],⟨by rw[qe,B,O,q5],.inr ⟨bl,cap,_,rfl,Nat.zero_le _,G,Y,Bo,?_,?_⟩⟩,fun b d=>⟨?_,fun j c=>?_⟩,fun ys aK=>by cases aK⟩
   ·simp only[List.size_toArray,qe,uf,Array.length_toList];omega
   ·have av:(us++ns).length=(o.n+ys.length)*o.sz:=by rw[qe,B,O,q5]
    simp only[<-av];rw[List.take_append_of_le_length (dP _),jC]
   ·simp only[pz,dU]at d;subst d;exact S
   ·simp only[pz,dU]at d;subst d;rcases c with c|⟨_,c⟩
    ·have:=dK j c;simp only;rw[q5];omega
    ·exact c
  ·rw[if_neg e]at s;obtain⟨v0,gm,al,L,bh,b3⟩:=h.good.own g o' s;have t:∀b,v0.ownBlock=some b->b≠bl:=fun b d LQ=>e (h.good.oinj k g o.n o'.n _ v0 bl (by simp[ab]) (by simp[s]) l al rfl (by rw[<-LQ];exact d));have X:∀b,v0.ownBlock=some b->∀j,(ν.withRowOf k (.slice (some ⟨bl,0,none⟩) (o.n+ys.length) cap) (o.n+ys.length) ((o.n+ys.length)*o.sz)).A b j->ν.A b j:=fun b d j c=>by
    rcases c with c|⟨c,_⟩
    ·exact c
    ·simp only[pz,dU]at c;exact absurd c.symm (t b d)
   refine⟨v0,gm,by simp[bd.withRowOf,Ne.symm e,al],⟨L.1,?_⟩,fun b d=>⟨(bh b d).1,fun j c=>(bh b d).2 j (X b d j c)⟩,tU ar X b3⟩;rcases L.2 with L|⟨bb,DA,nM,f1,f2,f3,f4⟩
   ·exact .inl L
   ·exact .inr ⟨bb,DA,nM,f1,f2,by rw[z bb (t bb (by rw[f1];rfl))];exact f3,f4⟩
 ·rcases F g J with rfl|⟨R,x,v⟩<;>rcases F H U with rfl|⟨m1,m2,m3⟩
  ·rfl
  ·exfalso;simp only[bd.withRowOf,if_true,dU,js]at p;rw[m3]at q;rw[<-p.2]at r;simp only[pz,dU]at r;subst r;exact m1 (h.good.oinj H g n' o.n eM _ bl m2 (by simp[ab]) q l A rfl)
  ·exfalso;simp only[bd.withRowOf,if_true,dU,js]at q;rw[v]at p;rw[<-q.2]at A;simp only[pz,dU]at A;subst A;exact R (h.good.oinj g H n o.n u _ bl x (by simp[ab]) p l r rfl)
  ·rw[v]at p;rw[m3]at q;exact h.good.oinj g H n n' u eM b x m2 p q r A
 ·rcases F g J with rfl|⟨R,x,v⟩
  ·simp only[bd.withRowOf,if_true,dU,js]at p;rw[<-p.2]at q;simp only[pz,dU]at q;subst q;exact h.good.obx g j o.n _ bl (by simp[ab]) U l rfl r
  ·rw[v]at p;exact h.good.obx g j n u b x U p q r
 ·by_cases e:j=k
  ·subst e;rcases h.good.one j with J|J
   ·exact .inl J
   ·rw[J]at l;cases l
  ·rcases h.good.one j with J|J
   ·exact .inl J
   ·exact .inr (by simp[bd.withRowOf,e,J])
 ·rcases d with d|⟨g,n,u,bq,a2,a3⟩
  ·exact .inl d
  ·rcases F g bq with rfl|⟨R,x,v⟩
   ·simp only[bd.withRowOf,if_true,dU,js]at a2;rw[<-a2.2]at a3;exact .inr ⟨g,_,_,by simp[ab],l,a3⟩
   ·exact .inr ⟨g,n,u,x,by rw[<-v];exact a2,a3⟩
 ·rw[z j fun e=>by subst e;exact S.elim hm (fun g2=>Ω)];exact h.fr.block j f hm
 ·obtain⟨M,K⟩:=h.fr.keep b j c;exact⟨.inl M,(ar.A b j M).2.trans K⟩
 ·rcases c with c|⟨c,_⟩
  ·exact h.fr.fresh b j c
  ·simp only[pz,dU]at c;subst c;exact .inr S
 ·obtain⟨t1,t2⟩:=h.fr.trn bs j b d;have t:bs≠k:=fun e=>by subst e;rw[t2]at l;cases l
  exact⟨t1,by simp[bd.withRowOf,t,t2]⟩
 ·obtain⟨M,K,cq⟩:=h.new m hm;refine⟨M,?_,cq⟩;have:m≠k:=fun e=>by subst e;rw[K]at l;cases l
  simp[bd.withRowOf,this,K]
 ·simp only[aU];refine⟨⟨some ⟨bl,0,none⟩,cap,by simp[P],by simp;omega,⟨Bo,by simpa using fh⟩,.inr ⟨bl,0,us++ns,rfl,IB _ 0 fun j u f=>?_,FB (CJ ar aw) (CJ ar Bq)⟩⟩,fun e=>(by cases e),fun g e=>?_,fun _ _ e=>(by cases e),fun _ e=>(by cases e)⟩
  ·have N:=(fH.1 f).1;rw[Nat.zero_add];refine⟨.inr ⟨rfl,?_⟩,V j u f⟩;rw[qe,B,O]at N;rw[q5];exact N
  ·cases e;exact⟨o.n+ys.length,.slice (some ⟨bl,0,none⟩) (o.n+ys.length) cap,by simp[bd.withRowOf],by simp[P],fun _=>rfl⟩
def JS{P:cI}{w:World}{t ty e:gQ}{i:TypeInfo}(a:P.underlying t=some (.slice e))(hi:P.info? e=some i)(b:be Addr)(n cap:Nat)(d:n<=cap)(x:be Addr)(c:Nat):
  (Builtin.append_ #[t,t] ty #[.slice b n cap,.slice x 0 c]).run P w= .ok (.slice b n cap) w:=by
 cases b<;>cases x<;>simp[Builtin.append_,run_underlying a,sizeOf,typeInfo,hi,Builtin.lenOf,d,Builtin.firstCells,loadCells,loadCellsFrom,storeCells]
inductive eY where
 |v (d:Nat) (i:gR)
 |box (d:Nat) (key:be Nat) (x:dQ)
 |alloc (d:Nat) (key:be Nat) (zero:af)
 |store (sz:Nat) (x y:dQ)
 |bsl (d:Nat) (sz el:Nat) (xs:List dQ)
 |app (d:Nat) (sz el:Nat) (x y:dQ)
 |bslm (d:Nat) (key:be Nat) (sz el:Nat) (xs:List dQ)
 |appm (d:Nat) (key:be Nat) (sz el:Nat) (x y:dQ)
 |mkmap (d:Nat) (key:be Nat)
 |mput (cA:kl) (x k v:dQ)
 |range (d:Nat) (key:be Nat) (x:dQ)
 |storeE (sz:Nat) (x y:dQ)
 |mks (d:Nat) (key:be Nat) (sz el:Nat) (z:af) (x:dQ)
def ky(st:bp):be Nat->aB
 |none=>.loc st.n
 |some m=>.obj m
def rB(st:bp):be Nat->Prop
 |none=>.loc st.n∉st.o
 |some m=>.obj m∉st.o
def oM(st:bp):be Nat->Nat
 |none=>st.n+1
 |some _=>st.n
def oN(st:bp):be Nat->List aB
 |none=>st.o
 |some m=>.obj m::st.o
def x2{st:bp}{key:be Nat}(h:rB st key):fresh st.n st.o (ky st key):=by cases key<;>simp[ky,fresh,rB]at h⊢ <;>exact h
def x3{st:bp}{key:be Nat}:∀j,fresh (oM st key) (oN st key) j->fresh st.n st.o j/\j≠ky st key:=by
 intro j a;cases key<;>cases j<;>simp[fresh,oM,oN,ky]at a⊢
 ·exact⟨⟨Ω,a.2⟩,Ω⟩
 ·exact a
 ·exact a
 ·exact⟨a.2,a.1⟩
def uq(sz:Nat):List af->Prop
 |[]=>True
 |p::a=>(eU p=true/\(cells p).length=sz)/\uq sz a
def qO(a:kl)(k v:af):List af->be (List af)
 | .hdm clock borns::kvs=>if xU a k=false then none else match wB a k v kvs with
  |some (some b)=>some (.hdm clock borns::b)
  |some none=>some (.hdm (clock+1) (borns++[clock])::(kvs++[k,v]))
  |none=>none
 |_=>none
def z8(m:aB):List af->be (List af)
 | .hdm clock _::_=>some [.hdi clock [] clock,.gmap m]
 |_=>none
def ur(st:bp)(sz el:Nat)(x y:af):be ((be (aB×List af))×List af):=
 match x,y with
 | .slice b .nil _,.slice a _ ys=>if b=sz/\a=sz then some (none,ys)else none
 | .row b k n,.slice a _ ys=>if b=sz/\a=sz then
   match ae k st.e with
   |some ⟨n',d,c,some xs⟩=>if n'=n/\d=el/\c=sz then some (some (k,xs),ys)else none
   |_=>none
  else none
 |_,_=>none
def od:af->Nat->List af->af
 | .agg a,f,cs=>.agg (nB a f cs)
 |_,_,[q]=>q
 |_,_,_=>.junk
def sE(st:bp)(sz:Nat)(p v:af):be (Prop×bp):=
 match p with
 | .rptr b k n i f=>match ae k st.e with
  |some ⟨n',el,a,some xs⟩=>if n'=n/\a=b then
    match xs[i]? with
    |some q=>some (eU q=true/\eU v=true/\(cells v).length=sz/\f+sz<=(cells q).length/\0<sz,{st with e:=cK k ⟨n',el,a,some (xs.set i (od q f (cells v)))⟩ st.e})
    |none=>none
   else none
  |_=>none
 |_=>none
def nA(st:bp):eY->be (Prop×bp)
 | .mks d key sz el z x=>match cF st.t x with
  | .int _ n=>some (rB st key/\0<=n/\n<=lim,
    {t:=put d (.row sz (ky st key) n.toNat) st.t,b:=st.b,e:=cK (ky st key) ⟨n.toNat,el,sz,some (List.replicate n.toNat z)⟩ st.e,n:=oM st key,o:=oN st key})
  |_=>none
 | .bslm d key sz el xs=>some (rB st key/\uq sz (xs.map (cF st.t)),
   {t:=put d (.row sz (ky st key) xs.length) st.t,b:=st.b,e:=cK (ky st key) ⟨xs.length,el,sz,some (xs.map (cF st.t))⟩ st.e,n:=oM st key,o:=oN st key})
 | .appm d key sz el x y=>match ur st sz el (cF st.t x) (cF st.t y)with
  |some (none,ys)=>some (rB st key/\ys.length<=lim/\ys≠[],
    {t:=put d (.row sz (ky st key) ys.length) st.t,b:=st.b,e:=cK (ky st key) ⟨ys.length,el,sz,some ys⟩ st.e,n:=oM st key,o:=oN st key})
  |some (some (k,xs),ys)=>some (xs.length+ys.length<=lim,{st with t:=put d (.row sz k (xs.length+ys.length)) st.t,e:=cK k ⟨xs.length+ys.length,el,sz,some (xs++ys)⟩ st.e})
  |none=>none
 | .mkmap d key=>some (rB st key,{t:=put d (.gmap (ky st key)) st.t,b:=cK (ky st key) [.hdm 0 []] st.b,e:=st.e,n:=oM st key,o:=oN st key})
 | .mput g x k v=>match cF st.t x with
  | .gmap m=>match ae m st.b with
   |some cs=>match qO g (cF st.t k) (cF st.t v) cs with
    |some cs'=>some (True,{st with b:=cK m cs' st.b})
    |none=>none
   |none=>none
  |_=>none
 | .range d key x=>match cF st.t x with
  | .gmap m=>match ae m st.b with
   |some cs=>match z8 m cs with
    |some cs'=>some (rB st key,{t:=put d (.ptr (ky st key) 0) st.t,b:=cK (ky st key) cs' st.b,e:=st.e,n:=oM st key,o:=oN st key})
    |none=>none
   |none=>none
  |_=>none
 | .v d i=>match h2 st i with
  |some (c,p)=>some (c,{st with t:=put d p st.t})
  |none=>none
 | .storeE sz x y=>sE st sz (cF st.t x) (cF st.t y)
 | .box d key x=>some (rB st key/\eU (cF st.t x)=true,
   {t:=put d (.ptr (ky st key) 0) st.t,b:=cK (ky st key) (cells (cF st.t x)) st.b,e:=st.e,n:=oM st key,o:=oN st key})
 | .alloc d key z=>some (rB st key,{t:=put d (.ptr (ky st key) 0) st.t,b:=cK (ky st key) (cells z) st.b,e:=st.e,n:=oM st key,o:=oN st key})
 | .store sz x y=>match cF st.t x with
  | .ptr k off=>match ae k st.b with
   |some cs=>some (gY cs=true/\eU (cF st.t y)=true/\(cells (cF st.t y)).length=sz/\off+sz<=cs.length,{st with b:=cK k (nB cs off (cells (cF st.t y))) st.b})
   |none=>none
  |p=>sE st sz p (cF st.t y)
 | .bsl d sz el xs=>some (rB st none/\uq sz (xs.map (cF st.t)),
   {st with t:=put d (.slice sz (.own (.loc st.n)) (xs.map (cF st.t))) st.t,e:=cK (.loc st.n) ⟨xs.length,el,sz,none⟩ st.e,n:=st.n+1})
 | .app d sz el x y=>match cF st.t x,cF st.t y with
  | .slice f tag xs,.slice a _ ys=>if f=sz/\a=sz then
    match tag with
    | .own k=>match ae k st.e with
     |some o=>some (o.n=xs.length/\o.el=el/\o.sz=sz/\xs.length+ys.length<=lim,
       {st with t:=put d (.slice sz (.own k) (xs++ys)) st.t,e:=cK k ⟨xs.length+ys.length,el,sz,none⟩ st.e})
     |none=>none
    | .nil=>some (rB st none/\ys.length<=lim,{st with t:=put d (.slice sz (.own (.loc st.n)) ys) st.t,e:=cK (.loc st.n) ⟨ys.length,el,sz,none⟩ st.e,n:=st.n+1})
    |_=>none
   else none
  |_,_=>none
def fo(κ:aB)(n':Nat)(o':List aB)(st:bp):eY->be (Prop×bp)
 | .mks d _ sz el z x=>match cF st.t x with
  | .int _ n=>some (0<=n/\n<=lim,
    {t:=put d (.row sz κ n.toNat) st.t,b:=st.b,e:=cK κ ⟨n.toNat,el,sz,some (List.replicate n.toNat z)⟩ st.e,n:=n',o:=o'})
  |_=>none
 | .bslm d _ sz el xs=>some (uq sz (xs.map (cF st.t)),
   {t:=put d (.row sz κ xs.length) st.t,b:=st.b,e:=cK κ ⟨xs.length,el,sz,some (xs.map (cF st.t))⟩ st.e,n:=n',o:=o'})
 | .appm d _ sz el x y=>match ur st sz el (cF st.t x) (cF st.t y)with
  |some (none,ys)=>some (ys.length<=lim/\ys≠[],
    {t:=put d (.row sz κ ys.length) st.t,b:=st.b,e:=cK κ ⟨ys.length,el,sz,some ys⟩ st.e,n:=n',o:=o'})
  |some (some (k,xs),ys)=>some (xs.length+ys.length<=lim,{st with t:=put d (.row sz k (xs.length+ys.length)) st.t,e:=cK k ⟨xs.length+ys.length,el,sz,some (xs++ys)⟩ st.e})
  |none=>none
 | .mkmap d _=>some (True,{t:=put d (.gmap κ) st.t,b:=cK κ [.hdm 0 []] st.b,e:=st.e,n:=n',o:=o'})
 | .mput g x k v=>match cF st.t x with
  | .gmap m=>match ae m st.b with
   |some cs=>match qO g (cF st.t k) (cF st.t v) cs with
    |some cs'=>some (True,{st with b:=cK m cs' st.b})
    |none=>none
   |none=>none
  |_=>none
 | .range d _ x=>match cF st.t x with
  | .gmap m=>match ae m st.b with
   |some cs=>match z8 m cs with
    |some cs'=>some (True,{t:=put d (.ptr κ 0) st.t,b:=cK κ cs' st.b,e:=st.e,n:=n',o:=o'})
    |none=>none
   |none=>none
  |_=>none
 | .v d i=>match h2 st i with
  |some (c,p)=>some (c,{st with t:=put d p st.t})
  |none=>none
 | .storeE sz x y=>sE st sz (cF st.t x) (cF st.t y)
 | .box d _ x=>some (eU (cF st.t x)=true,{t:=put d (.ptr κ 0) st.t,b:=cK κ (cells (cF st.t x)) st.b,e:=st.e,n:=n',o:=o'})
 | .alloc d _ z=>some (True,{t:=put d (.ptr κ 0) st.t,b:=cK κ (cells z) st.b,e:=st.e,n:=n',o:=o'})
 | .store sz x y=>match cF st.t x with
  | .ptr k off=>match ae k st.b with
   |some cs=>some (gY cs=true/\eU (cF st.t y)=true/\(cells (cF st.t y)).length=sz/\off+sz<=cs.length,{st with b:=cK k (nB cs off (cells (cF st.t y))) st.b})
   |none=>none
  |p=>sE st sz p (cF st.t y)
 | .bsl d sz el xs=>some (uq sz (xs.map (cF st.t)),
   {st with t:=put d (.slice sz (.own κ) (xs.map (cF st.t))) st.t,e:=cK κ ⟨xs.length,el,sz,none⟩ st.e,n:=n',o:=o'})
 | .app d sz el x y=>match cF st.t x,cF st.t y with
  | .slice f tag xs,.slice a _ ys=>if f=sz/\a=sz then
    match tag with
    | .own k=>match ae k st.e with
     |some o=>some (o.n=xs.length/\o.el=el/\o.sz=sz/\xs.length+ys.length<=lim,
       {st with t:=put d (.slice sz (.own k) (xs++ys)) st.t,e:=cK k ⟨xs.length+ys.length,el,sz,none⟩ st.e})
     |none=>none
    | .nil=>some (ys.length<=lim,{st with t:=put d (.slice sz (.own κ) ys) st.t,e:=cK κ ⟨ys.length,el,sz,none⟩ st.e,n:=n',o:=o'})
    |_=>none
   else none
  |_,_=>none
def x7:Nat->List dQ->List (Nat×Operand)->Bool
 |_,[],[]=>true
 |i,x::xs,(j,o)::os=>i==j&&eT x o&&x7 (i+1) xs os
 |_,_,_=>false
def FL(N:Nat)(aT:List (Nat×ev))(i:eY)(o:Oper):Bool:=
 match i,o.op with
 | .mkmap d _,.makeMap _ none=>o.dst==some d&&decide (d<N)
 | .mput j x k v,.mapUpdate t c h e=>o.dst==none&&(match eG aT t with|some ⟨_,_,.map g _,_⟩=>zH aT j g|_=>false)&&eT x c&&eT k h&&eT v e
 | .mput j x k v,.insert t c h e=>o.dst==none&&(match eG aT t with|some ⟨_,_,.map g _,_⟩=>zH aT j g|_=>false)&&eT x c&&eT k h&&eT v e
 | .range d _ x,.range t c=>o.dst==some d&&decide (d<N)&&(match eG aT t with|some ⟨_,_,.map _ _,_⟩=>true|_=>false)&&eT x c
 | .v d i,op=>o.dst==some d&&decide (d<N)&&F9 aT i op
 | .box d _ x,.box _ o'=>o.dst==some d&&decide (d<N)&&eT x o'
 | .alloc d _ z,.alloc el=>o.dst==some d&&decide (d<N)&&(match eG aT el with|some f=>Da z f.zero|none=>false)
 | .store sz x y,.store t o' a=>o.dst==none&&(match eG aT t with|some f=>f.size==sz|none=>false)&&eT x o'&&eT y a
 | .bsl d sz el xs,.buildSlice t len parts=>o.dst==some d&&decide (d<N)&&(match eG aT t with|some ⟨_,_,.slice b,_⟩=>el==b|_=>false)&&(match eG aT el with|some f=>f.size==sz&&decide (0<sz)|none=>false)
   &&len==xs.length&&decide (len*sz<=16777216)&&x7 0 xs parts.toList
 | .app d sz el x y,.call ⟨.builtin .append,⟨[o',a]⟩,⟨[t,t']⟩⟩=>o.dst==some d&&decide (d<N)&&t==t'&&(match eG aT t with|some ⟨_,_,.slice b,_⟩=>el==b|_=>false)
   &&(match eG aT el with|some f=>f.size==sz&&decide (0<sz)&&decide (f.bytes<=2048)|none=>false)&&eT x o'&&eT y a
 | .bslm d _ sz el xs,.buildSlice t len parts=>o.dst==some d&&decide (d<N)&&(match eG aT t with|some ⟨_,_,.slice b,_⟩=>el==b|_=>false)&&(match eG aT el with|some f=>f.size==sz&&decide (0<sz)|none=>false)
   &&len==xs.length&&decide (len*sz<=16777216)&&x7 0 xs parts.toList
 | .appm d _ sz el x y,.call ⟨.builtin .append,⟨[o',a]⟩,⟨[t,t']⟩⟩=>o.dst==some d&&decide (d<N)&&t==t'&&(match eG aT t with|some ⟨_,_,.slice b,_⟩=>el==b|_=>false)
   &&(match eG aT el with|some f=>f.size==sz&&decide (0<sz)&&decide (f.bytes<=2048)|none=>false)&&eT x o'&&eT y a
 | .storeE sz x y,.store t o' a=>o.dst==none&&(match eG aT t with|some f=>f.size==sz|none=>false)&&eT x o'&&eT y a
 | .mks d _ sz el z x,.makeSlice t o' a=>o.dst==some d&&decide (d<N)&&(match eG aT t with|some ⟨_,_,.slice b,_⟩=>el==b|_=>false)
   &&(match eG aT el with|some f=>f.size==sz&&decide (0<sz)&&decide (f.bytes<=2048)&&Da z f.zero|none=>false)&&eT x o'&&eT x a
 |_,_=>false
def abu{w:World}{ν:bd}{C:fq}{st:bp}{a:Act}(p:c9 C st a w ν){sz:Nat}:
  ∀(xs:List dQ) (i:Nat) (os:List (Nat×Operand)) (pre:List af) (us:Array Value) (bm:List Value),x7 i xs os=true->uq sz (xs.map (cF st.t))->us.toList.take (i*sz)=bm->dw w ν sz pre bm->i=pre.length->us.size=(i+xs.length)*sz->
  ∃e:Array Value,Instr.fill (fun i=>some (i*sz,sz)) us (os.map fun(x:Nat×Operand)=>(x.1,a.eval x.2))=some e/\dw w ν sz (pre++xs.map (cF st.t)) e.toList/\e.size=us.size
 |[],i,[],pre,us,bm,_,_,g,h,hi,f=>by refine⟨us,by simp[Instr.fill],?_,rfl⟩;have u:=rL h;have:us.toList.take (i*sz)=us.toList:=ix (by simp at f⊢;omega);rw[this]at g;simpa[g]using h
 |[],_,_::_,_,_,_,b,_,_,_,_,_=>by simp[x7]at b
 |_::_,_,[],_,_,_,b,_,_,_,_,_=>by simp[x7]at b
 |x::xs,i,(j,o)::os,pre,us,bm,b,k,g,h,hi,f=>by
  simp only[x7,cR,ey]at b;obtain⟨⟨rfl,J⟩,U⟩:=b;simp only[ha,uq]at k;obtain⟨⟨s,hlen⟩,k⟩:=k;have n:=e4 p J;have m:=wL n s;have q:=qR m;have c:(a.eval o).cells.size=sz:=by rw[hlen]at q;simpa using q
  have hmul:i*sz+sz<=us.size:=by rw[f,mw,show i+(xs.length+1)=(i+1)+xs.length from by omega,q5,Nat.succ_mul];omega
  have l:=Mh (w:=w) (ν:=ν) (a.eval o).cells.toList 0 (i*sz) us (by simp[c];omega);have t:dw w ν sz (pre++[cF st.t x]) (bm++(a.eval o).cells.toList):=by refine FB h ?_;simp only[dw];exact⟨a.eval o,[],Ψ,⟨n,c,CL m⟩,rfl⟩
  have r:bm.length=i*sz:=by rw[<-g];simp;omega
  obtain⟨e,g1,g2,g3⟩:=abu p xs (i+1) os (pre++[cF st.t x]) (((a.eval o).cells.toList.zipIdx 0).foldl (fun cs (x:Value×Nat)=>cs.setIfInBounds (i*sz+x.2) x.1) us) (bm++(a.eval o).cells.toList) U k
   (by
    rw[l];simp only[Nat.add_zero];rw[g];have:(bm++(a.eval o).cells.toList).length=(i+1)*sz:=by rw[qe,r,Nat.succ_mul];simp[c]
    rw[<-this,List.take_append_of_le_length (dP _),jC]) t (by simp[hi])
   (by have d:=fy List.length l;simp only[Array.length_toList,qe,List.length_take,uf,c]at d;rw[d,f,mw,show i+(xs.length+1)=i+1+xs.length from by omega];rw[f,mw,show i+(xs.length+1)=i+1+xs.length from by omega]at hmul;omega)
  refine⟨e,?_,by simpa using g2,?_⟩
  ·simp only[ha,Instr.fill];rw[if_neg (by simp[c];omega),<-g1];congr 1;rw[<-Array.foldl_toList];simp
  ·rw[g3];have d:=fy List.length l;simp only[Array.length_toList,qe,List.length_take,uf,c]at d;rw[d];omega
def nG{P:cI}{o:Oper}{a:Act}{w w':World}{v:Value}{K:Act->World->Prop}{Q:Exit->Act->World->Prop}(h:(execOp a.eval o).run P w= .ok (.value v) w')(ab:K (a.put o.dst v) w'):o.wp P a w K Q:=by unfold Oper.wp;rw[h];exact ab
def Kr{P:cI}{o:Oper}{a:Act}{w w':World}{K:Act->World->Prop}{Q:Exit->Act->World->Prop}(h:(execOp a.eval o).run P w= .ok .skip w')(ab:K (a.put o.dst undef) w'):o.wp P a w K Q:=by unfold Oper.wp;rw[h];exact ab
def Ga{P:cI}{w w':World}{x:Sem Value}{v:Value}(h:x.run P w= .ok v w'):(do pure (Next.value (<-x)):Sem Next).run P w= .ok (.value v) w':=by simp[h]
def abq{P:cI}{aT:List (Nat×ev)}(e:h1 P aT=true){C:fq}{st:bp}{a:Act}{w:World}{ν:bd}(r:c9 C st a w ν){t el:Nat}{f g:ev}(s:eG aT t=some f)(ab:f.kind= .slice el)(a7:eG aT el=some g)
  {xs:List dQ} {os:List (Nat×Operand)} (n:x7 0 xs os=true) (m:uq g.size (xs.map (cF st.t))) (hlen:xs.length*g.size<=16777216):
  ∃us:Array Value,(Instr.buildSlice t xs.length (os.map fun(x:Nat×Operand)=>(x.1,a.eval x.2)).toArray).run P w= .ok (.slice (some ⟨w.heap.size,0,none⟩) xs.length xs.length) (w.alloc (.cells us el))/\
   dw w ν g.size (xs.map (cF st.t)) us.toList/\us.size=xs.length*g.size:=by
 obtain⟨d,j,h⟩:=jo e s;rw[ab]at h;obtain rfl:=sS h;obtain⟨_,i⟩:=wS e a7 w;obtain⟨z,l,q,p⟩:=QK e a7 w;have u:¬xs.length*g.size>2 ^ 24:=Ω
 let init:Array Value:=if xs.length*g.size=0 then(Array.range (xs.length*g.size)).map ((#[]:Array Value)[· %(#[]:Array Value).size]!)else(Array.range (xs.length*g.size)).map (z.cells[· %z.cells.size]!)
 have k:init.size=xs.length*g.size:=by simp only[init];split<;>simp
 obtain⟨o,g1,g2,g3⟩:=abu (a:=a) r xs 0 os [] init [] n m Ψ (by simp[dw]) rfl (by rw[k];simp);refine⟨o,?_,by simpa using g2,by rw[g3,k]⟩;simp only[init]at g1;by_cases b:xs.length*g.size=0
 ·rw[if_pos b]at g1;rw[b]at g1;have c:¬(0:Nat)>2 ^ 24:=by decide
  simp only[Instr.buildSlice,gy,run_underlying j,gC,i,if_false,hG,b,if_true,c,g1,newRow,run_newObj];rfl
 ·rw[if_neg b]at g1;simp only[Instr.buildSlice,gy,run_underlying j,gC,i,u,if_false,hG,b,l,g1,newRow,run_newObj];rfl
def OI{P:cI}{w:World}{ν:bd}{g:kl}{t:gQ}(A:vu P g t){k v:af}{a p:Value}(ab:aU w ν k a)(z:aU w ν v p):
  ∀(borns:List Nat) (kvs:List af) (us:List Value) (i:Nat) (r:be (List af)),c7 w ν kvs us->kvs.length=2*borns.length->wB g k v kvs=some r->
  match r with
  |none=>ja P w g t a (gS borns us) i none
  |some B=> ∃j u m e,ja P w g t a (gS borns us) i (some (i+j,u))/\c7 w ν B m/\B.length=kvs.length/\(gS borns us)[j]? =some e/\e.key=a/\Instr.sameBits 10000 e.key a=true/\gS borns m=(gS borns us).modify j (fun e=>{e with key:=a,val:=p})
 |[],[],us,i,r,h,_,hm=>by simp only[wB]at hm;cases hm;simp only[c7]at h;subst h;simpa[gS]using ja.nil P w g t a i
 |[],_::_,_,_,_,_,c,_=>by simp at c
 |b::n,[],_,_,_,_,c,_=>by simp at c
 |b::n,[_],_,_,_,_,c,_=>by simp at c;omega
 |b::n,bs::v'::kvs,us,i,r,h,c,hm=>by
  simp only[c7]at h;obtain⟨f,E,rfl,J,d,q,rfl,U,y⟩:=h;simp only[wB]at hm;simp only[gS];cases o:uU g k bs with
  |none=>simp[o]at hm
  |some bb=>
   obtain⟨s1,s2⟩:=XH A ab J o;simp only[o]at hm;cases bb with
   |true=>simp only[dU]at hm;subst hm;obtain⟨rfl,s3⟩:=s2 rfl;refine⟨0,d,f::p::q,⟨f,d,b⟩,ja.hit (e:=⟨f,d,b⟩) s1,?_,Ψ,Ψ,rfl,s3,by simp[gS]⟩;simp only[c7];exact⟨_,_,rfl,ab,_,_,rfl,z,y⟩
   |false=>
    simp only at hm;have x:=fun s l=>OI A ab z n kvs q (i+1) s y (by simp at c;omega) l;split at hm
    ·rename_i s l;cases hm;obtain⟨j,u,m,e,g1,g2,g3,g4,g5,g6,g7⟩:=x _ l;refine⟨j+1,u,f::d::m,e,ja.miss (e:=⟨f,d,b⟩) s1 (by rw[show i+(j+1)=i+1+j from by omega];exact g1),?_,by simp[g3],by simpa using g4,g5,g6,by simp[gS,g7]⟩;simp only[c7];exact⟨_,_,rfl,J,_,_,rfl,U,g2⟩
    ·rename_i l;cases hm;exact ja.miss (e:=⟨f,d,b⟩) s1 (x _ l)
    ·cases hm
def UA:∀(borns:List Nat) (us:List Value) (b:Nat) (k v:Value),us.length=2*borns.length->gS (borns++[b]) (us++[k,v])=gS borns us++[⟨k,v,b⟩]
 |[],us,b,k,v,h=>by have:us=[]:=List.eq_nil_of_length_eq_zero (by simpa using h);subst this;simp[gS]
 |b2::a,[],b,k,v,h=>by simp at h
 |b2::a,[_],b,k,v,h=>by simp at h;omega
 |b2::a,bs::v'::us,b,k,v,h=>by simp only[b6,gS,UA a us b k v (by simp at h;omega)]
def abh{w:World}{ν:bd}:∀{b bV:List af} {bm us:List Value},c7 w ν b bm->c7 w ν bV us->c7 w ν (b++bV) (bm++us)
 |[],bV,bm,us,h,a=>by simp only[c7]at h;subst h;simpa using a
 |p::b,bV,bm,us,h,a=>by simp only[c7]at h;obtain⟨u,c,rfl,J,U⟩:=h;simp only[b6,c7];exact⟨u,_,rfl,J,abh U a⟩
def P2{w:World}{ν:bd}:∀{a:List af} {bm:List Value},c7 w ν a bm->bm.length=a.length
 |[],bm,h=>by simp only[c7]at h;subst h;rfl
 |p::a,bm,h=>by simp only[c7]at h;obtain⟨u,b,rfl,_,U⟩:=h;simp[P2 U]
def P7{P:cI}{w:World}{r:Nat}{o o':Obj}(a:w.heap[r]? =some o)(b:∀c e f,o≠ .cells c e f:=by simp):(setObj r o').run P w= .ok () {w with heap:=w.heap.setIfInBounds r o'}:=by simp only[setObj,Sem.run,a]
def eY.makes(st:bp):eY->Bool
 | .box _ _ _| .alloc _ _ _| .bsl _ _ _ _| .bslm _ _ _ _ _| .mkmap _ _| .range _ _ _| .mks _ _ _ _ _ _=>true
 | .appm _ _ _ _ x _=>match cF st.t x with
  | .slice _ .nil _=>true
  |_=>false
 | .app _ _ _ x _=>match cF st.t x with
  | .slice _ .nil _=>true
  |_=>false
 |_=>false
def c9.forgetRow{C:fq}{st:bp}{a:Act}{w:World}{ν:bd}(b:c9 C st a w ν){k:aB}{ow:dW}(ab:ae k st.e=some ow):c9 C {st with e:=cK k ⟨ow.n,ow.el,ow.sz,none⟩ st.e} a w ν:=by
 have d:∀g,(ae g (cK k ⟨ow.n,ow.el,ow.sz,none⟩ st.e)).isSome->(ae g st.e).isSome:=fun g a7=>by
  rw[jm]at a7;split at a7
  ·rename_i e;subst e;simp[ab]
  ·exact a7
 refine⟨⟨b.good.alt,b.good.box,b.good.inj,fun g o a7=>?_,fun g f n n' v v' bl c a2=>b.good.oinj g f n n' v v' bl (d g c) (d f a2),fun g j n v bl c=>b.good.obx g j n v bl (d g c),b.good.one,fun bl m=>b.good.otr bl (m.imp id (fun⟨g,n,v,c,a2⟩=>⟨g,n,v,d g c,a2⟩))⟩,b.fr,b.defers,b.size,b.slot,b.new⟩;simp only at a7;rw[jm]at a7;split at a7
 ·rename_i e;subst e;cases a7;obtain⟨v,us,h,l,i,_⟩:=b.good.own k ow ab;exact⟨v,us,h,l,i,fun xs p=>by cases p⟩
 ·exact b.good.own g o a7
def ZM{w:World}{base el sz n:Nat}{v:Value}{us:List Value}(h:w.ownsRow base el sz v n us)(d:0<n):∃b cap,v= .slice (some ⟨b,0,none⟩) n cap:=by
 rcases h.2 with⟨a,c⟩|⟨bb,cap,cur,f1,_⟩
 ·omega
 ·exact⟨_,_,f1⟩
def JH{w:World}{ν:bd}{sz:Nat}:∀{xs:List af} {us:List Value} {i:Nat} {q b:af} {a:Value},dw w ν sz xs us->xs[i]? =some q->aU w ν b a->a.cells.size=sz->(∀c∈a.cells.toList,c.oneCell'=true)->dw w ν sz (xs.set i b) (us.take (i*sz)++a.cells.toList++us.drop (i*sz+sz))
 |[],_,_,_,_,_,_,d,_,_,_=>by simp at d
 |x::xs,us,0,q,b,a,h,d,k,j,ar=>by
  simp only[dw]at h;obtain⟨u,l,rfl,⟨J,U,m⟩,g⟩:=h;have f:u.cells.toList.length=sz:=by simpa using U
  simp only[List.set_cons_zero,dw];refine⟨a,l,?_,⟨k,j,ar⟩,g⟩;simp[<-f]
 |x::xs,us,i+1,q,b,a,h,d,k,j,ar=>by
  simp only[dw]at h;obtain⟨u,l,rfl,⟨J,U,m⟩,g⟩:=h;have f:u.cells.toList.length=sz:=by simpa using U
  have n:=JH g (by simpa using d) k j ar;simp only[List.set_cons_succ,dw];refine⟨u,_,?_,⟨J,U,m⟩,n⟩;have e:(i+1)*sz+sz=u.cells.toList.length+(i*sz+sz):=by rw[f,Nat.succ_mul];omega
  rw[ab5 _ _ _ _ f,e,<-List.drop_drop];simp
def aqM{w:World}{ν:bd}{q:af}{v:Value}(b:aU w ν q v)(l:eU q=true){cs:List af}{us:List Value}(aw:cW w ν cs us){f:Nat}(g:f+us.length<=v.cells.size)(n:us≠[]):
  ∃v',aU w ν (od q f cs) v'/\v'.cells.toList=v.cells.toList.take f++us++v.cells.toList.drop (f+us.length)/\v'.cells.size=v.cells.size/\∀c∈v'.cells.toList,c.oneCell'=true:=by
 have hlen:=qR aw;have x:=wL b l;by_cases k:∃d,q= .agg d
 ·obtain⟨d,rfl⟩:=k;simp only[aU]at b;obtain⟨bm,rfl,i⟩:=b;simp only[pw]at g⊢;have j:cW w ν (nB d f cs) (bm.toList.take f++us++bm.toList.drop (f+us.length)):=by unfold nB;rw[hlen];exact Ab (Ab (FD f i) aw) (CK _ i)
  refine⟨.agg (bm.toList.take f++us++bm.toList.drop (f+us.length)).toArray,by simp only[od,aU];exact⟨_,rfl,by simpa using j⟩,by simp[pw],?_,fun c a=>?_⟩
  ·simp[pw];omega
  ·exact CL j c (by simpa[pw]using a)
 ·have h:∀cs,q≠ .agg cs:=fun cs e=>k ⟨cs,e⟩;obtain⟨J,U⟩:=P3 b l h;rw[U]at g⊢;match us,n,aw with
  |u::o,_,aw=>
   simp at g;obtain⟨rfl,rfl⟩:f=0/\o=[]:=⟨Ω,List.length_eq_zero_iff.1 Ω⟩;match cs,aw,hlen with
   |[c],aw,_=>
    simp only[cW]at aw;obtain⟨t,y,p,⟨r,m⟩,_⟩:=aw;cases p;have hu:u.cells= #[u]:=by cases u<;>first|rfl|cases m
    have s:od q 0 [c]=c:=by cases q<;>first|rfl|exact absurd rfl (h _)
    rw[s];refine⟨u,r,by simp[hu],by simp[hu],fun c a=>?_⟩;rw[hu]at a;simp at a;subst a;exact m
def arq{α:Type}(A us:List α)(a f sz N:Nat)(J:f+us.length<=sz)(U:a+sz<=N)(j:N<=A.length):
  ((A.take (a+f)++us++A.drop (a+f+us.length)).toArray.toList).take N=(A.take N).take a++((((A.take N).drop a).take sz).take f++us++(((A.take N).drop a).take sz).drop (f+us.length))++(A.take N).drop (a+sz):=by
 have g:(A.take N).take a++(((A.take N).drop a).take sz).take f=A.take (a+f):=by rw[List.take_take (i:=f),Nat.min_eq_left (show f<=sz by omega),<-List.take_add,List.take_take,Nat.min_eq_left Ω]
 have h:(((A.take N).drop a).take sz).drop (f+us.length)++(A.take N).drop (a+sz)=(A.take N).drop (a+f+us.length):=by
  have b:f+us.length<=(((A.take N).drop a).take sz).length:=by simp;omega
  have d:(A.take N).drop (a+sz)=((A.take N).drop a).drop sz:=by rw[List.drop_drop]
  rw[d,<-List.drop_append_of_le_length b,List.take_append_drop,List.drop_drop];congr 1;omega
 have e:(A.take N).drop (a+f+us.length)=(A.drop (a+f+us.length)).take (N-(a+f+us.length)):=by rw[List.drop_take]
 have b:(A.take (a+f)++us).length=a+f+us.length:=by simp;omega
 simp only[List.append_assoc]at*;rw[h,e,<-List.append_assoc (mX a _),g];have c:N=(A.take (a+f)++us).length+(N-(a+f+us.length)):=by rw[b];omega
 rw[<-List.append_assoc,<-List.append_assoc];conv=>lhs;rw[c,List.take_length_add_append]
def c9.storeRow{P:cI}{C:fq}{st:bp}{a:Act}{w:World}{ν:bd}(h:c9 C st a w ν){k:aB}{n el sz:Nat}{xs:List af}(ab:ae k st.e=some ⟨n,el,sz,some xs⟩){i f:Nat}{u:Value}(M:aU w ν (.rptr sz k n i f) u){q:af}(H:xs[i]? =some q)(L:eU q=true)
  {cs:List af} {us:List Value} (aw:cW w ν cs us) (aG:f+us.length<=(cells q).length) (X:us≠[]):
  ∃bl off b,u= .pointer (some ⟨bl,off,none⟩)/\(storeCells ⟨bl,off,none⟩ us).run P w= .ok () (w.setRow bl b)/\∃bo,c9 C {st with e:=cK k ⟨n,el,sz,some (xs.set i (od q f cs))⟩ st.e} a (w.setRow bl b) bo:=by
 simp only[aU]at M;obtain⟨_,hi,n',eM,J,U,aq⟩:=M;obtain⟨v,d,r,K,bX,V⟩:=h.good.own k _ ab;rw[J]at r;simp only[dU,js]at r;obtain⟨rfl,rfl⟩:=r;obtain⟨bl,l,rfl⟩:=aq rfl;obtain⟨c,m,vc⟩:=V xs rfl;simp only at c m;obtain⟨v,G,o,R⟩:=JF i m H;have Bp:=qR (wL G L);have t:(cells q).length=sz:=by rw[<-Bp];simpa using o
 have N:f+us.length<=sz:=by rw[<-t];exact aG
 have hmul:i*sz+sz<=n'*sz:=by have:=rU sz (show i+1<=n' from hi);rwa[Nat.succ_mul]at this
 rcases K.2 with⟨al,aC⟩|⟨g,cap,cur,rfl,vT,B,A,z,p,O⟩
 ·rw[al]at l;simp[pz]at l
 simp only[pz,dU]at l;subst l;simp only at O p A B;have Bo:n'*sz<=cur.size:=by rw[p];exact rU sz A
 have dy:=run_storeCells_at P g (i*sz+f) el us 0 cur w B Ω (CL aw);simp only[Nat.add_zero]at dy;refine⟨g,i*sz+f,_,rfl,dy,?_⟩;generalize E:(cur.toList.take (i*sz+f)++us++cur.toList.drop (i*sz+f+us.length)).toArray=b;obtain⟨v',Y,W,S,Q⟩:=aqM G L aw (f:=f) (by rw[o];exact N) X;have F:=JH m H Y (by rw[S,o]) Q;have hlen:d.length=n'*sz:=K.1;have x:b.toList.take (n'*sz)=d.take (i*sz)++v'.cells.toList++d.drop (i*sz+sz):=by rw[<-E,W,R,<-O];exact arq cur.toList us (i*sz) f sz (n'*sz) N hmul (by simpa using Bo)
 have y:b.size=cap*sz:=by rw[<-E,<-p];simp;omega
 have Z:(xs.set i (od q f cs)).length=n':=by simp[c]
 obtain⟨s,_,_⟩:=h.setRowM (w':=w.setRow g b) ab rfl J (bl:=g) rfl (v':= .slice (some ⟨g,0,none⟩) n' cap) rfl (xs':=xs.set i (od q f cs)) (us:=d.take (i*sz)++v'.cells.toList++d.drop (i*sz+sz)) (.inl ⟨by simp[c],rfl⟩) rfl rfl rfl (fun j ah=>setRow_other w g j b ah) (setRow_size w g b)
  ⟨by rw[rL F],.inr ⟨g,cap,b,by simp[c],Nat.zero_le _,setRow_heap w g cur b el _ B,by simpa[c]using A,z,y,by simpa[c]using x⟩⟩ F
 exact⟨_,by simpa[c]using s⟩
def amv(z:Array Value)(n:Nat)(h:0<z.size):(madeCells z ((n+1)*z.size)).toList=z.toList++(madeCells z (n*z.size)).toList:=by
 apply List.ext_getElem?;intro j;rw[List.getElem?_append];have he:(n+1)*z.size=n*z.size+z.size:=by rw[q5,Nat.one_mul]
 simp only[madeCells,vn,Array.length_toList,Array.getElem?_map];by_cases a:j<z.size
 ·rw[if_pos a,Array.getElem?_range,if_pos Ω];simp[Nat.mod_eq_of_lt a,a]
 ·rw[if_neg a,Array.getElem?_range,Array.getElem?_range];by_cases ab:j<n*z.size+z.size
  ·rw[if_pos Ω,if_pos Ω];simp only[pB];rw[<-Nat.mod_eq_sub_mod Ω]
  ·rw[if_neg Ω,if_neg Ω]
def Yr{w:World}{ν:bd}{p:af}{z:Value}(a:aU w ν p z)(h:0<z.cells.size)(ar:∀c∈z.cells.toList,c.oneCell'=true):∀n,dw w ν z.cells.size (List.replicate n p) (madeCells z.cells (n*z.cells.size)).toList
 |0=>by simp[dw,madeCells]
 |n+1=>by rw[amv _ _ h];simp only[List.replicate_succ,dw];exact⟨z,_,rfl,⟨a,rfl,ar⟩,Yr a h ar n⟩
def kB{P:cI}{aT:List (Nat×ev)}(aJ:h1 P aT=true){C:fq}{st st':bp}{a:Act}{w:World}{ν:bd}(l:c9 C st a w ν){i:eY}{o:Oper}(ar:FL C.N aT i o=true)
  {κ:aB} {n':Nat} {o₁:List aB} (vX:i.makes st=true->fresh st.n st.o κ) (dB:i.makes st=true->∀j,fresh n' o₁ j->fresh st.n st.o j/\j≠κ) {c:Prop} (he:fo κ n' o₁ st i=some (c,st')) (aw:c) {K:Act->World->Prop} {Q:Exit->Act->World->Prop} (M:∀br w' bo,c9 C st' br w' bo->K br w'):o.wp P a w K Q:=by
 obtain⟨dst,op,type,pos,after,guard⟩:=o;unfold FL at ar;dsimp only at ar;split at ar
 ·rename_i d key t;simp only[cR,ey,gz]at ar;obtain⟨rfl,U⟩:=ar;simp only[fo]at he;cases he;obtain⟨g1,g2⟩:=l.newBox (l.new _ (vX rfl)) (dB rfl) (cs:=[.hdm 0 []]) (us:= #[]) 0 (by simp only[k3];exact⟨by simp[c7],⟨rfl,Ψ,Ψ⟩⟩);refine nG (v:= .map (some w.heap.size)) (w':=w.alloc (.map #[] 0)) ?_ (M _ _ _ (g1.put (d:=some d) (by simpa[j9]using U) (p:= .gmap κ) ?_))
  ·simp only[execOp,Instr.makeMap,Option.map_none,gy,run_newObj,gC,hG];rfl
  ·simp[aU,bd.withBox]
 iterate 2
  focus
   rename_i cA x k v t hh iQ va
   simp only[cR,ey]at ar
   obtain⟨⟨⟨⟨rfl,J⟩,U⟩,A⟩,E⟩:=ar
   have rx:=e4 l U
   have JP:=e4 l A
   have sA:=e4 l E
   split at J
   ·rename_i sz S pc sb z R
    obtain⟨cU,hu,gj⟩:=jo aJ R
    have xq:cU= .map pc sb:=by cases cU<;>simp[k8]at gj;obtain⟨rfl,rfl⟩:=gj;rfl
    subst xq
    have rj:=XJ aJ J
    simp only[fo]at he
    split at he
    ·rename_i m O
     rw[O]at rx
     simp only[aU]at rx
     obtain⟨bl,cm,b8⟩:=rx
     split at he
     ·rename_i cs dz
      split at he
      ·rename_i cs' hm
       cases he
       obtain⟨h6,us,el,ba,bB,bX,dq,G⟩:=l.good.box m cs dz
       rw[cm]at ba;cases ba
       unfold qO at hm
       split at hm
       ·rename_i clock borns kvs
        split at hm
        ·cases hm
        rename_i fN
        simp only[l1]at dq
        simp only[k3]at G
        have iN:=yj (P:=P) dq
        have Ec:=abr (P:=P) (w:=w) rj false JP (by simpa using fN)
        have bP:bl<w.heap.size:=(Array.getElem?_eq_some_iff.1 dq).1
        have ef:∀(o':Obj) (b1:Array Value) (ej:List af),(Instr.mapUpdate t (a.eval hh) (a.eval iQ) (a.eval va)).run P w= .ok () {w with heap:=w.heap.setIfInBounds bl o'}->l1 ej b1 el=o'->k3 w ν ej b1.toList->some ej=some cs'->
          (⟨none,.mapUpdate t hh iQ va,type,pos,after,guard⟩:Oper).wp P a w K Q:=by
         intro o' b1 ej jO Nc nV jL;cases jL;refine Kr (w':={w with heap:=w.heap.setIfInBounds bl o'}) ?_ (M _ _ _ (l.setBox (w':={w with heap:=w.heap.setIfInBounds bl o'}) dz cm (us:=b1) (el:=el) rfl rfl rfl (fun j L=>?_) Ψ ?_ nV).1)
         ·simp only[execOp,jO,gy,gC,hG]
         ·exact Array.getElem?_setIfInBounds_ne (Ne.symm L)
         ·rw[Nc];simp[bP]
        split at hm
        ·rename_i B0 Eo
         obtain⟨j,u,b1,e,f1,f2,f3,f4,f5,f6,f7⟩:=OI rj JP sA borns kvs us.toList 0 _ G.1 G.2.len Eo
         refine ef (.map (gS borns b1).toArray clock) b1.toArray (.hdm clock borns::B0) ?_ (by simp[l1]) (by simp only[k3];exact⟨by simpa using f2,⟨by rw[f3];exact G.2.len,G.2.inc,G.2.lt⟩⟩) hm
         have ak8:(Instr.keyThatStays (((gS borns us.toList).toArray[j]?.map (·.key)).getD (a.eval iQ)) (a.eval iQ)).run P w= .ok (a.eval iQ) w:=by
          have:((gS borns us.toList).toArray[j]?.map (·.key)).getD (a.eval iQ)=e.key:=by simp[f4]
          rw[this];simp[Instr.keyThatStays,f6]
         simp only[Nat.zero_add]at f1
         simp only[Instr.mapUpdate,gy,run_underlying hu,gC,b8,iN,Ec,f1.run rj,hG,ak8,P7 dq]
         rw[f7]
         simp
        ·rename_i Eo
         have f1:=OI rj JP sA borns kvs us.toList 0 _ G.1 G.2.len Eo
         simp only at f1
         have wh:us.toList.length=2*borns.length:=by rw[P2 G.1,G.2.len]
         refine ef (.map ((gS borns us.toList).toArray.push ⟨a.eval iQ,a.eval va,clock⟩) (clock+1)) (us.toList++[a.eval iQ,a.eval va]).toArray (.hdm (clock+1) (borns++[clock])::(kvs++[cF st.t k,cF st.t v])) ?_ (by simp only[l1,UA borns us.toList clock _ _ wh];simp) ?_ hm
         ·simp only[Instr.mapUpdate,gy,run_underlying hu,gC,b8,iN,Ec,f1.run rj,hG,P7 dq]
         ·simp only[k3]
          refine⟨abh G.1 (by simp only[c7];exact⟨_,_,rfl,JP,_,_,rfl,sA,rfl⟩),⟨by simp[G.2.len];omega,?_,?_⟩⟩
          ·rw[List.pairwise_append]
           exact⟨G.2.inc,Ψ,fun x O y aK=>by simp at aK;subst aK;exact G.2.lt x O⟩
          ·intro b ag
           rcases kg.1 ag with ag|ag
           ·have:=G.2.lt b ag;omega
           ·simp at ag;omega
        ·cases hm
       ·cases hm
      ·cases he
     ·cases he
    ·cases he
   ·cases J
 ·rename_i d key x t hh;simp only[cR,ey,gz]at ar;obtain⟨⟨⟨rfl,U⟩,J⟩,A⟩:=ar;have rx:=e4 l A;split at J
  ·rename_i sz S pc sb z R;obtain⟨cU,hu,gj⟩:=jo aJ R;have xq:cU= .map pc sb:=by cases cU<;>simp[k8]at gj;obtain⟨rfl,rfl⟩:=gj;rfl
   subst xq;simp only[fo]at he;split at he
   ·rename_i m O;rw[O]at rx;have aqQ:=rx;simp only[aU]at rx;obtain⟨bl,cm,b8⟩:=rx;split at he
    ·rename_i cs dz;split at he
     ·rename_i cs' hm;cases he;obtain⟨h6,us,el,ba,bB,bX,dq,G⟩:=l.good.box m cs dz;rw[cm]at ba;cases ba;unfold z8 at hm;split at hm
      ·rename_i clock borns kvs;cases hm;simp only[l1]at dq;have iN:=yj (P:=P) dq;obtain⟨g1,g2⟩:=l.newBox (l.new _ (vX rfl)) (dB rfl) (cs:=[.hdi clock [] clock,.gmap m]) (us:= #[a.eval hh]) 0 (by simp only[k3,c7];exact⟨_,_,rfl,aqQ,rfl⟩);have Nc:l1 [.hdi clock [] clock,.gmap m] #[a.eval hh] 0= .mapIter (some bl) clock #[] clock:=by simp[l1,b8]
       rw[Nc]at g1 g2;refine nG (v:= .pointer (some ⟨w.heap.size,0,none⟩)) (w':=w.alloc (.mapIter (some bl) clock #[] clock)) ?_ (M _ _ _ (g1.put (d:=some d) (by simpa[j9]using U) (p:= .ptr κ 0) g2))
       ·simp only[execOp];refine Ga ?_;simp only[Instr.range,gy,run_underlying hu,gC,b8,iN,hG,run_newObj];rfl
      ·cases hm
     ·cases he
    ·cases he
   ·cases he
  ·cases J
 ·rename_i d ayf;simp only[cR,ey,gz]at ar;obtain⟨⟨J,U⟩,A⟩:=ar;subst J;simp only[fo]at he;split at he
  ·rename_i cD p F;cases he;obtain⟨v,g1,g2⟩:=ar1 (o:=⟨some d,op,type,pos,after,guard⟩) aJ l A F aw;refine nG g1 (M _ _ ν ?_);exact l.put (d:=some d) (by simpa[j9]using U) g2
  ·cases he
 ·rename_i d key x el o';simp only[cR,ey,gz]at ar;obtain⟨⟨J,U⟩,A⟩:=ar;subst J;simp only[fo]at he;cases he;have O:=e4 l A;have mI:=wL O aw;obtain⟨g1,g2⟩:=l.newBox (l.new _ (vX rfl)) (dB rfl) el (by rw[pj (wK mI)];exact mI);rw[pg (wK mI)]at g1 g2;refine nG (v:= .pointer (some ⟨w.heap.size,0,none⟩)) (w':=w.alloc (.cells (a.eval o').cells el)) ?_ (M _ _ _ (g1.put (d:=some d) (by simpa[j9]using U) (p:= .ptr κ 0) ?_))
  ·simp only[execOp,Instr.box,newVar,newRow,gy,run_newObj,gC,hG];rfl
  ·simpa only[aU]using g2
 ·rename_i d key z el;simp only[cR,ey,gz]at ar;obtain⟨⟨J,U⟩,A⟩:=ar;subst J;simp only[fo]at he;cases he;split at A
  ·rename_i f R;have bC:=Rc A;obtain⟨cb,l6,z2,z3⟩:=QK aJ R w;rw[<-bC]at z2;obtain⟨_,mI⟩:=Rb w ν z2;obtain⟨g1,g2⟩:=l.newBox (l.new _ (vX rfl)) (dB rfl) el (by rw[pj (wK mI)];exact mI);rw[pg (wK mI)]at g1 g2;refine nG (v:= .pointer (some ⟨w.heap.size,0,none⟩)) (w':=w.alloc (.cells cb.cells el)) ?_ (M _ _ _ (g1.put (d:=some d) (by simpa[j9]using U) (p:= .ptr κ 0) ?_))
   ·simp only[execOp,Instr.alloc,newVar,newRow,gy,l6,run_newObj,gC,hG];rfl
   ·simpa only[aU]using g2
  ·cases A
 ·rename_i sz x y t o' X;simp only[cR,ey]at ar;obtain⟨⟨⟨J,U⟩,A⟩,E⟩:=ar;subst J;split at U
  ·rename_i f R;simp only[ey]at U;simp only[fo]at he;split at he
   ·rename_i k off O;split at he
    ·rename_i cs dz;cases he;obtain⟨jv,Z,cp,dj⟩:=aw;have rx:=e4 l A;rw[O]at rx;simp only[aU]at rx;obtain⟨bl,cm,b8⟩:=rx;have N:=e4 l E;have wI:=wL N Z;have wM:=qR wI;obtain⟨h6,us,el,ba,bB,bX,dq,G⟩:=l.good.box k cs dz;rw[cm]at ba;cases ba;rw[pg jv]at dq;rw[pj jv]at G;have ay:=qR G;obtain⟨_,en⟩:=wS aJ R w;have wi:(a.eval X).cells.size=sz:=by rw[cp]at wM;simpa using wM
     have dy:=run_storeCells_at (P:=P) bl off el (a.eval X).cells.toList 0 us w dq (by simp at ay⊢;omega) (CL wI);simp only[Nat.add_zero]at dy;refine Kr (w':=w.setRow bl (us.toList.take off++(a.eval X).cells.toList++us.toList.drop (off+(a.eval X).cells.toList.length)).toArray) ?_ (M _ _ _ (l.storeBox dz cm jv ?_))
     ·simp only[execOp,Instr.storeAt,b8,Instr.sureAddr,storeVar,gy,hG,gC,en,wi,U,ne_eq,not_true_eq_false,if_false,dy]
     ·simp only[nB];rw[wM];exact Ab (Ab (FD off G) wI) (CK _ G)
    ·cases he
   ·rename_i O;generalize Ng:cF st.t x=px at he;unfold sE at he;split at he
    ·rename_i ee k n i uD;split at he
     ·rename_i n' el j6 xs ab;split at he
      ·rename_i Et;obtain⟨rfl,rfl⟩:=Et;split at he
       ·rename_i q bM;cases he;obtain⟨jv,Z,cp,dj,h7⟩:=aw;have rx:=e4 l A;rw[Ng]at rx;have N:=e4 l E;have wI:=wL N Z;have wM:=qR wI;obtain⟨_,en⟩:=wS aJ R w;have wi:(a.eval X).cells.size=sz:=by rw[cp]at wM;simpa using wM
        obtain⟨bl,off,nM,Ev,dy,bo,pV⟩:=l.storeRow (P:=P) ab rx bM jv wI (by simpa[wi]using dj) (fun e=>by have:=fy List.length e;simp[wi]at this;omega);refine Kr (w':=w.setRow bl nM) ?_ (M _ _ _ pV);simp only[execOp,Instr.storeAt,Ev,Instr.sureAddr,storeVar,gy,hG,gC,en,wi,U,ne_eq,not_true_eq_false,if_false,dy]
       ·cases he
      ·cases he
     ·cases he
    ·cases he
  ·cases U
 ·rename_i d sz el xs t len parts;simp only[cR,ey,gz]at ar;obtain⟨⟨⟨⟨⟨⟨J,U⟩,A⟩,E⟩,bS⟩,di⟩,eb⟩:=ar;subst J;subst bS;split at A
  ·rename_i gK R;simp only[ey]at A;subst A;split at E
   ·rename_i g a7;simp only[cR,ey,gz]at E;obtain⟨rfl,gk⟩:=E;simp only[fo]at he;cases he;obtain⟨us,g1,g2,g3⟩:=abq aJ l R rfl a7 eb aw di;have mK:(w.alloc (.cells us el)).ownsRow w.heap.size el g.size (.slice (some ⟨w.heap.size,0,none⟩) xs.length xs.length) (xs.map (cF st.t)).length us.toList:=by
     refine⟨by simp[g3],.inr ⟨w.heap.size,xs.length,us,Ψ,dP _,heap_alloc_new w _,Ψ,?_,g3,?_⟩⟩
     ·simp only[maxLen];have:xs.length<=xs.length*g.size:=Nat.le_mul_of_pos_right _ gk;omega
     ·rw[ix];simp[g3]
    obtain⟨Y,eE⟩:=l.newRow (k:=κ) (xs:=xs.map (cF st.t)) (.inl (l.new _ (vX rfl))) (World.grownBy_alloc w _ none) mK g2
     (by have:xs.length<=xs.length*g.size:=Nat.le_mul_of_pos_right _ gk;simp only[lim,List.length_map];omega) (dB rfl)
    simp only[List.length_map]at Y eE;refine nG (v:= .slice (some ⟨w.heap.size,0,none⟩) xs.length xs.length) (w':=w.alloc (.cells us el)) ?_ (M _ _ _ (Y.put (d:=some d) (by simpa[j9]using U) (p:= .slice g.size (.own κ) (xs.map (cF st.t))) eE));have bN:(parts.map fun(x:Nat×Operand)=>(x.1,a.eval x.2))=(parts.toList.map fun(x:Nat×Operand)=>(x.1,a.eval x.2)).toArray:=by apply Array.ext';simp
    simp only[execOp];refine Ga ?_;rw[<-g1];congr 2
   ·cases E
  ·cases A
 ·rename_i d sz el x y o' X t t';simp only[cR,ey,gz]at ar;obtain⟨⟨⟨⟨⟨⟨J,U⟩,A⟩,E⟩,bS⟩,di⟩,eb⟩:=ar;subst J;subst A;split at E
  ·rename_i gK R;simp only[ey]at E;subst E;split at bS
   ·rename_i g a7;simp only[cR,ey,gz]at bS;obtain⟨⟨rfl,gk⟩,hby⟩:=bS;have rx:=e4 l di;have N:=e4 l eb;have nQ:∀v' w',(Builtin.append_ #[t,t] type #[a.eval o',a.eval X]).run P w= .ok v' w'->(execOp a.eval ⟨some d,.call ⟨.builtin .append,⟨[o',X]⟩,⟨[t,t]⟩⟩,type,pos,after,guard⟩).run P w= .ok (.value v') w':=by intro v' w' jO;simp only[execOp,resolve,invoke,builtin,gy,hG,gC,List.map_toArray,ha,List.map_nil];rw[jO];rfl
    obtain⟨r,cu,z,al,aC,B,b3,dN,dm,sT,sU⟩:=(wT aJ a7).ex;obtain⟨ej,jL,gj⟩:=jo aJ R;obtain rfl:=sS gj;simp only[fo]at he;split at he
    ·rename_i ee tag xs j6 l2 ys O aK;split at he
     ·rename_i gd;obtain⟨rfl,gd⟩:=gd;subst gd;rw[O]at rx;rw[aK]at N;simp only[aU]at rx N;obtain⟨⟨vE,o3,tZ,cx1,⟨Ug,Uh⟩,cx4⟩,rxn,rxo,rxt⟩:=rx;obtain⟨⟨oZ,W,vy,cy1,⟨Ui,Uj⟩,cy4⟩,_⟩:=N;split at he
      ·rename_i k;split at he
       ·rename_i ow ab;cases he;obtain⟨Z,cp,dj,h7⟩:=aw;subst cp;obtain⟨n0,yu,Y,eE,kA⟩:=rxo k rfl;obtain⟨v0,H,ba,bB,bX,_⟩:=l.good.own k ow ab;rw[Y]at ba;simp only[dU,js]at ba;obtain⟨rfl,rfl⟩:=ba;have nt:a.eval o'=yu:=kA Z.symm;by_cases hI:ys=[]
        ·subst hI;rw[vy,tZ]at nQ;have jO:=JS (P:=P) (w:=w) (ty:=type) jL al vE xs.length o3 cx1 oZ W;refine nG (nQ _ _ (by simpa using jO)) (M _ _ ν ?_);have dy:{st with t:=put d (.slice ow.sz (.own k) (xs++[])) st.t,e:=cK k ⟨xs.length+([]:List af).length,ow.el,ow.sz,none⟩ st.e}=({st with e:=cK k ⟨ow.n,ow.el,ow.sz,none⟩ st.e,t:=put d (.slice ow.sz (.own k) xs) st.t}:bp):=by simp[Z]
         rw[<-dj,dy];have nU:=l.forgetRow ab;refine nU.put (d:=some d) (by simpa[j9]using U) (p:= .slice ow.sz (.own k) xs) ?_;simp only[aU];rw[<-dj]at cx4;exact⟨⟨vE,o3,rfl,cx1,⟨Ug,Uh⟩,cx4⟩,fun e=>(by cases e),(fun g e=>by cases e;exact⟨_,_,Y,eE,fun e=>by rw[<-tZ];exact kA e⟩),fun _ _ e=>(by cases e),fun _ e=>(by cases e)⟩
        ·have hyp:0<ys.length:=by cases ys<;>simp at hI⊢
         rcases cy4 with cy4|⟨S,oO,s,rfl,zL,V⟩
         ·exact absurd cy4 hI
         ·have kt:=rL V;have tp:∀j u,s[j]? =some u->w.cell? ((⟨S,oO,none⟩:Addr).add j)=some u:=fun j u L=>by rw[pI];exact(uY zL L).2
          have tc:(xs.length+ys.length)*r.bytes<=140737488355328:=by
           have mG:r.bytes<=2048:=by rw[b3];exact hby
           have qy:(xs.length+ys.length)*r.bytes<=(xs.length+ys.length)*2048:=Nat.mul_le_mul_left _ mG;simp only[lim]at h7;omega
          have nR:xs.length+ys.length<=maxLen:=by simp only[lim]at h7;simp only[maxLen];omega
          rw[vy]at nQ;have xL:H.length=ow.n*ow.sz:=bB.1;have xO:z.cells.size=r.size:=by rw[sU,B]
          have Ei:(∀cur,er->cur=(0:Nat))->(∃v' w',(Builtin.append_ #[t,t] type #[a.eval o',.slice (some ⟨S,oO,none⟩) ys.length W]).run P w= .ok v' w'/\w'.ownsRow w.heap.size ow.el r.size v' (xs.length+ys.length) (H++s)/\w.grownBy w' none/\dw w ν r.size xs H)->
            (⟨some d,.call ⟨.builtin .append,⟨[o',X]⟩,⟨[t,t]⟩⟩,type,pos,after,guard⟩:Oper).wp P a w K Q:=by
           intro _ cN;obtain⟨v',w',f1,f2,f3,f4⟩:=cN;have HL:dw w ν r.size (xs++ys) (H++s):=FB f4 (by rw[B];exact V);obtain⟨c2,dD⟩:=l.newRow (k:=k) (xs:=xs++ys) (.inr ⟨ow,ab,by rw[Z];simp;omega⟩) f3 (by simpa using f2) HL (by simpa using h7) (n':=st.n) (o':=st.o)
            (fun j L=>⟨L,fun e=>by subst e;have:=(l.new _ L).2.1;rw[Y]at this;cases this⟩)
           refine nG (nQ _ _ f1) (M _ _ ((ν.withOwn k (xs++ys).length v').withRowOf k v' (xs++ys).length ((xs++ys).length*r.size)) ?_);have:=c2.put (d:=some d) (by simpa[j9]using U) dD;simpa[B,e6]using this
          rcases bB.2 with⟨oP,zZ⟩|⟨bl,cap,cur,oP,zZ,Cx,Pp,Pq,Pr,Jh⟩
          ·
           have sr:xs=[]:=List.eq_nil_of_length_eq_zero Ω;have Nv:H=[]:=List.eq_nil_of_length_eq_zero (by rw[xL,zZ];simp);subst sr;subst Nv;refine Ei (fun _ h=>h.elim) ?_;obtain⟨v',w',f1,f2,f3,_⟩:=run_append_own (P:=P) w w.heap.size t type ow.el r z r.size r.bytes jL al dm rfl rfl xO (by rw[B];exact gk) (.slice none 0 0) 0 [] (World.ownsRow_nil w _ _ _)
            ⟨S,oO,none⟩ ys.length W s (by rw[kt,B]) tp (Aa V) (by simpa using nR) (by simpa using tc) (dP _)
           refine⟨v',w',by rw[nt,oP];exact f1,by simpa using f2,by simpa[pz]using f3,by simp[dw]⟩
          ·have aky:kY w ν.A bl 0 H/\dw w ν r.size xs H/\True:=by
            rw[nt,oP]at tZ;rcases cx4 with cx4|⟨bb,aw1,QT,f1,f2,f3⟩
            ·subst cx4;have:H=[]:=List.eq_nil_of_length_eq_zero (by rw[xL,Z];simp);subst this;exact⟨trivial,by simp[dw],trivial⟩
            ·subst f1;injection tZ with vx1 vx2 vx3;injection vx1 with vx1;injection vx1 with vx1 vx4;subst vx1;subst vx4;have heq:QT=H:=by
              apply List.ext_getElem?;intro j;have wh:QT.length=H.length:=by rw[rL f3,xL,Z,dj]
              by_cases L:j<QT.length
              ·have J:=(uY f2 (cl L)).2;rw[Nat.zero_add]at J;have U:=bB.cells (g:=bl) (by rw[oP];rfl) j H[j] (cl Ω);rw[pI,Nat.zero_add,J]at U;rw[cl L,cl Ω];exact U
              ·rw[q3 Ω,q3 Ω]
             subst heq;exact⟨f2,by rw[B];exact f3,trivial⟩
           obtain⟨zo,oE,_⟩:=aky;by_cases ts:xs.length+ys.length<=cap
           ·have avb:cur.size=cap*ow.sz:=Pr;have hmul:(xs.length+ys.length)*ow.sz<=cap*ow.sz:=rU _ ts;rw[q5]at hmul;have f1:=run_append_room (P:=P) w t type ow.el r jL al bl xs.length cap cur Cx ⟨S,oO,none⟩ ys.length W s (by rw[kt,B]) tp (Aa V) ts (by rw[kt,B,<-dj];omega);obtain⟨c2,dD⟩:=l.inPlace ab (bl:=bl) (cap:=cap) (cur:=cur) (by rw[Y,<-oP]) Cx Pq Pr (xs:=xs) (ys:=ys) (us:=H) (ns:=s) Z.symm Jh (by rw[dj,<-B];exact oE) (by rw[dj];exact V) hyp (by rw[Z];exact ts) h7;refine nG (v:= .slice (some ⟨bl,0,none⟩) (ow.n+ys.length) cap) (w':=w.setRow bl (H++s++cur.toList.drop (ow.n*ow.sz+s.length)).toArray) (nQ _ _ ?_)
             (M _ _ (ν.withRowOf k (.slice (some ⟨bl,0,none⟩) (ow.n+ys.length) cap) (ow.n+ys.length) ((ow.n+ys.length)*ow.sz)) ?_)
            ·rw[nt,oP,Z,f1,<-Jh,Z,dj,B]
            ·have:=c2.put (d:=some d) (by simpa[j9]using U) dD;simpa[Z,dj,e6]using this
           ·refine Ei (fun _ h=>h.elim) ?_;obtain⟨v',w',f1,f2,f3⟩:=run_append_arg_grows (P:=P) w t type ow.el r z r.size r.bytes jL al dm rfl rfl xO (by rw[B];exact gk) ⟨bl,0,none⟩ xs.length cap H (by rw[xL,Z,dj,B])
             (fun j u L=>by rw[pI];exact(uY zo L).2) ⟨S,oO,none⟩ ys.length W s (by rw[kt,B]) tp Ω nR tc
            exact⟨v',w',by rw[nt,oP,Z];exact f1,f2,f3,oE⟩
       ·cases he
      ·cases he;have HY:=rxn rfl;have sr:xs=[]:=by rw[HY]at tZ;injection tZ with _ aC;exact List.eq_nil_of_length_eq_zero aC.symm
       subst sr;have zt:(eY.app d g.size el x y).makes st=true:=by simp only[eY.makes,O]
       have xO:z.cells.size=r.size:=by rw[sU,B]
       rw[vy,HY]at nQ;have ef:∀(v':Value) (w':World) (s:List Value),(Builtin.append_ #[t,t] type #[.slice none 0 0,.slice oZ ys.length W]).run P w= .ok v' w'->w'.ownsRow w.heap.size el g.size v' ys.length s->w.grownBy w' none->dw w ν g.size ys s->
         (⟨some d,.call ⟨.builtin .append,⟨[o',X]⟩,⟨[t,t]⟩⟩,type,pos,after,guard⟩:Oper).wp P a w K Q:=by
        intro v' w' s f1 f2 f3 f4;obtain⟨c2,dD⟩:=l.newRow (k:=κ) (xs:=ys) (.inl (l.new _ (vX zt))) f3 f2 f4 aw (dB zt);exact nG (nQ _ _ f1) (M _ _ _ (c2.put (d:=some d) (by simpa[j9]using U) dD))
       by_cases hI:ys=[]
       ·subst hI;exact ef _ w [] (JS jL al none 0 0 (dP _) oZ W) (World.ownsRow_nil w _ _ _) (atF w _) (by simp[dw])
       ·rcases cy4 with cy4|⟨S,oO,s,rfl,zL,V⟩
        ·exact absurd cy4 hI
        ·have kt:=rL V;have tp:∀j u,s[j]? =some u->w.cell? ((⟨S,oO,none⟩:Addr).add j)=some u:=fun j u L=>by rw[pI];exact(uY zL L).2
         have tc:ys.length*r.bytes<=140737488355328:=by
          have J:r.bytes<=2048:=by rw[b3];exact hby
          have U:ys.length*r.bytes<=ys.length*2048:=Nat.mul_le_mul_left _ J;simp only[lim]at aw;omega
         have nR:ys.length<=maxLen:=by simp only[lim]at aw;simp only[maxLen];omega
         obtain⟨v',w',f1,f2,f3,_⟩:=run_append_own (P:=P) w w.heap.size t type el r z r.size r.bytes jL al dm rfl rfl xO (by rw[B];exact gk) (.slice none 0 0) 0 [] (World.ownsRow_nil w _ _ _)
          ⟨S,oO,none⟩ ys.length W s (by rw[kt,B]) tp (Aa V) (by simpa using nR) (by simpa using tc) (dP _)
         exact ef v' w' s f1 (by rw[<-B];simpa using f2) (by simpa[pz]using f3) V
      ·cases he
     ·cases he
    ·cases he
   ·cases bS
  ·cases E
 ·rename_i d key sz el xs t len parts;simp only[cR,ey,gz]at ar;obtain⟨⟨⟨⟨⟨⟨J,U⟩,A⟩,E⟩,bS⟩,di⟩,eb⟩:=ar;subst J;subst bS;split at A
  ·rename_i gK R;simp only[ey]at A;subst A;split at E
   ·rename_i g a7;simp only[cR,ey,gz]at E;obtain⟨rfl,gk⟩:=E;simp only[fo]at he;cases he;obtain⟨us,g1,g2,g3⟩:=abq aJ l R rfl a7 eb aw di;have mK:(w.alloc (.cells us el)).ownsRow w.heap.size el g.size (.slice (some ⟨w.heap.size,0,none⟩) xs.length xs.length) (xs.map (cF st.t)).length us.toList:=by
     refine⟨by simp[g3],.inr ⟨w.heap.size,xs.length,us,Ψ,dP _,heap_alloc_new w _,Ψ,?_,g3,?_⟩⟩
     ·simp only[maxLen];have:xs.length<=xs.length*g.size:=Nat.le_mul_of_pos_right _ gk;omega
     ·rw[ix];simp[g3]
    obtain⟨Y,eE⟩:=l.newRowM (k:=κ) (xs:=xs.map (cF st.t)) (.inl (l.new _ (vX rfl))) (World.grownBy_alloc w _ none) mK g2
     (by have:xs.length<=xs.length*g.size:=Nat.le_mul_of_pos_right _ gk;simp only[lim,List.length_map];omega) (dB rfl)
    simp only[List.length_map]at Y eE;refine nG (v:= .slice (some ⟨w.heap.size,0,none⟩) xs.length xs.length) (w':=w.alloc (.cells us el)) ?_ (M _ _ _ (Y.put (d:=some d) (by simpa[j9]using U) (p:= .row g.size κ xs.length) (eE ⟨_,_,rfl⟩)));have bN:(parts.map fun(x:Nat×Operand)=>(x.1,a.eval x.2))=(parts.toList.map fun(x:Nat×Operand)=>(x.1,a.eval x.2)).toArray:=by apply Array.ext';simp
    simp only[execOp];refine Ga ?_;rw[<-g1];congr 2
   ·cases E
  ·cases A
 ·rename_i d key sz el x y o' X t t';simp only[cR,ey,gz]at ar;obtain⟨⟨⟨⟨⟨⟨J,U⟩,A⟩,E⟩,bS⟩,di⟩,eb⟩:=ar;subst J;subst A;split at E
  ·rename_i gK R;simp only[ey]at E;subst E;split at bS
   ·rename_i g a7;simp only[cR,ey,gz]at bS;obtain⟨⟨rfl,gk⟩,hby⟩:=bS;have rx:=e4 l di;have N:=e4 l eb;have nQ:∀v' w',(Builtin.append_ #[t,t] type #[a.eval o',a.eval X]).run P w= .ok v' w'->(execOp a.eval ⟨some d,.call ⟨.builtin .append,⟨[o',X]⟩,⟨[t,t]⟩⟩,type,pos,after,guard⟩).run P w= .ok (.value v') w':=by intro v' w' jO;simp only[execOp,resolve,invoke,builtin,gy,hG,gC,List.map_toArray,ha,List.map_nil];rw[jO];rfl
    obtain⟨r,cu,z,al,aC,B,b3,dN,dm,sT,sU⟩:=(wT aJ a7).ex;obtain⟨ej,jL,gj⟩:=jo aJ R;obtain rfl:=sS gj;have xO:z.cells.size=r.size:=by rw[sU,B]
    simp only[fo]at he;split at he
    ·
     rename_i ys F;cases he;unfold ur at F;split at F
     ·rename_i ee xs j6 l2 atx O aK;split at F
      ·rename_i gd;obtain⟨rfl,gd⟩:=gd;subst gd;cases F;rw[O]at rx;rw[aK]at N;simp only[aU]at rx N;obtain⟨⟨vE,o3,tZ,cx1,⟨Ug,Uh⟩,cx4⟩,rxn,rxo,rxt⟩:=rx;obtain⟨⟨oZ,W,vy,cy1,⟨Ui,Uj⟩,cy4⟩,_⟩:=N;have HY:=rxn trivial;have zt:(eY.appm d key g.size el x y).makes st=true:=by simp only[eY.makes,O]
       rw[vy,HY]at nQ;have ef:∀(v':Value) (w':World) (s:List Value),(Builtin.append_ #[t,t] type #[.slice none 0 0,.slice oZ ys.length W]).run P w= .ok v' w'->w'.ownsRow w.heap.size el g.size v' ys.length s->w.grownBy w' none->dw w ν g.size ys s->
         (⟨some d,.call ⟨.builtin .append,⟨[o',X]⟩,⟨[t,t]⟩⟩,type,pos,after,guard⟩:Oper).wp P a w K Q:=by
        intro v' w' s f1 f2 f3 f4;obtain⟨c2,dD⟩:=l.newRowM (k:=κ) (xs:=ys) (.inl (l.new _ (vX zt))) f3 f2 f4 aw.1 (dB zt);exact nG (nQ _ _ f1) (M _ _ _ (c2.put (d:=some d) (by simpa[j9]using U) (dD (ZM f2 (by cases ys<;>simp at aw⊢)))))
       by_cases hI:ys=[]
       ·subst hI;exact ef _ w [] (JS jL al none 0 0 (dP _) oZ W) (World.ownsRow_nil w _ _ _) (atF w _) (by simp[dw])
       ·rcases cy4 with cy4|⟨S,oO,s,rfl,zL,V⟩
        ·exact absurd cy4 hI
        ·have kt:=rL V;have tp:∀j u,s[j]? =some u->w.cell? ((⟨S,oO,none⟩:Addr).add j)=some u:=fun j u L=>by rw[pI];exact(uY zL L).2
         have tc:ys.length*r.bytes<=140737488355328:=by
          have J:r.bytes<=2048:=by rw[b3];exact hby
          have U:ys.length*r.bytes<=ys.length*2048:=Nat.mul_le_mul_left _ J;simp only[lim]at aw;omega
         have nR:ys.length<=maxLen:=by simp only[lim]at aw;simp only[maxLen];omega
         obtain⟨v',w',f1,f2,f3,_⟩:=run_append_own (P:=P) w w.heap.size t type el r z r.size r.bytes jL al dm rfl rfl xO (by rw[B];exact gk) (.slice none 0 0) 0 [] (World.ownsRow_nil w _ _ _)
          ⟨S,oO,none⟩ ys.length W s (by rw[kt,B]) tp (Aa V) (by simpa using nR) (by simpa using tc) (dP _)
         exact ef v' w' s f1 (by rw[<-B];simpa using f2) (by simpa[pz]using f3) V
      ·cases F
     ·split at F
      ·split at F
       ·split at F<;>cases F
       ·cases F
      ·cases F
     ·cases F
    ·
     rename_i k xs ys F;cases he;unfold ur at F;split at F
     ·split at F<;>cases F
     ·rename_i ee bs n j6 l2 atx O aK;split at F
      ·rename_i gd;obtain⟨rfl,gd⟩:=gd;subst gd;split at F
       ·rename_i n' gK yq xs' ab;split at F
        ·rename_i rk;obtain⟨rfl,rfl,rfl⟩:=rk;cases F;rw[O]at rx;rw[aK]at N;simp only[aU]at rx N;obtain⟨⟨bx,o3,tZ⟩,rxl,n0,yu,Y,eE,kA⟩:=rx;obtain⟨⟨oZ,W,vy,cy1,⟨Ui,Uj⟩,cy4⟩,_⟩:=N;obtain⟨v0,H,ba,bB,bX,dq⟩:=l.good.own k _ ab;rw[Y]at ba;simp only[dU,js]at ba bB;obtain⟨rfl,rfl⟩:=ba;have nt:a.eval o'=yu:=kA rfl;obtain⟨G,mS,vc⟩:=dq xs rfl;simp only at G mS;have xL:H.length=xs.length*g.size:=by rw[G];exact bB.1
         have kW:xs.length=n0:=G;by_cases hI:ys=[]
         ·subst hI;rw[vy,tZ]at nQ;have mI:n0<=o3:=by
           rcases bB.2 with⟨oP,zZ⟩|⟨bl,cap,cur,oP,zZ,Cx,Pp,_⟩
           ·rw[zZ];exact Nat.zero_le _
           ·rw[<-nt,tZ]at oP;injection oP with _ _ e;rw[e];exact Pp
          have jO:=JS (P:=P) (w:=w) (ty:=type) jL al (some ⟨bx,0,none⟩) n0 o3 mI oZ W;refine nG (nQ _ _ (by simpa using jO)) (M _ _ ν ?_);have hZ:∀fD,ae fD (cK k ⟨n0,gK,g.size,some xs⟩ st.e)=ae fD st.e:=fun fD=>by
           rw[jm];split
           ·rename_i e;subst e;rw[ab]
           ·rfl
          have nU:c9 C {st with e:=cK k ⟨n0,gK,g.size,some xs⟩ st.e} a w ν:=
           ⟨⟨l.good.alt,l.good.box,l.good.inj,fun g o a7=>l.good.own g o (by rw[<-hZ g];exact a7),fun g fD n n' v v' bl bq a2=>l.good.oinj g fD n n' v v' bl (by rw[<-hZ g];exact bq) (by rw[<-hZ fD];exact a2),
           fun g j n v bl bq=>l.good.obx g j n v bl (by rw[<-hZ g];exact bq),l.good.one,fun bl ag=>l.good.otr bl (ag.imp id (fun⟨g,n,v,bq,a2⟩=>⟨g,n,v,by rw[<-hZ g];exact bq,a2⟩))⟩,l.fr,l.defers,l.size,l.slot,l.new⟩
          have A:=nU.put (d:=some d) (by simpa[j9]using U) (p:= .row g.size k n0) (v:= .slice (some ⟨bx,0,none⟩) n0 o3) (by simp only[aU];exact⟨⟨_,_,rfl⟩,rxl,_,_,Y,dP _,fun _=>by rw[<-tZ];exact nt⟩)
          simpa[kW,e6]using A
         ·have hyp:0<ys.length:=by cases ys<;>simp at hI⊢
          rcases cy4 with cy4|⟨S,oO,s,rfl,zL,V⟩
          ·exact absurd cy4 hI
          ·have kt:=rL V;have tp:∀j u,s[j]? =some u->w.cell? ((⟨S,oO,none⟩:Addr).add j)=some u:=fun j u L=>by rw[pI];exact(uY zL L).2
           have tc:(xs.length+ys.length)*r.bytes<=140737488355328:=by
            have mG:r.bytes<=2048:=by rw[b3];exact hby
            have qy:(xs.length+ys.length)*r.bytes<=(xs.length+ys.length)*2048:=Nat.mul_le_mul_left _ mG;simp only[lim]at aw;omega
           have nR:xs.length+ys.length<=maxLen:=by simp only[lim]at aw;simp only[maxLen];omega
           have HL:dw w ν g.size (xs++ys) (H++s):=FB mS V;rw[vy,nt]at nQ;have Ei:(∃v' w',(Builtin.append_ #[t,t] type #[yu,.slice (some ⟨S,oO,none⟩) ys.length W]).run P w= .ok v' w'/\w'.ownsRow w.heap.size gK r.size v' (xs.length+ys.length) (H++s)/\w.grownBy w' none)->
             (⟨some d,.call ⟨.builtin .append,⟨[o',X]⟩,⟨[t,t]⟩⟩,type,pos,after,guard⟩:Oper).wp P a w K Q:=by
            intro cN;obtain⟨v',w',f1,f2,f3⟩:=cN;obtain⟨c2,dD⟩:=l.newRowM (k:=k) (xs:=xs++ys) (el:=gK) (sz:=g.size) (.inr ⟨_,ab,by simp;omega⟩) f3 (by rw[<-B];simpa using f2) HL (by simpa using aw) (n':=st.n) (o':=st.o)
             (fun j L=>⟨L,fun e=>by subst e;have:=(l.new _ L).2.1;rw[Y]at this;cases this⟩)
            refine nG (nQ _ _ f1) (M _ _ (ν.withOwn k (xs++ys).length v') ?_);have:=c2.put (d:=some d) (by simpa[j9]using U) (dD (by simpa using ZM f2 Ω));simpa[e6]using this
           rcases bB.2 with⟨oP,zZ⟩|⟨bl,cap,cur,oP,zZ,Cx,Pp,Pq,Pr,Jh⟩
           ·
            have sr:xs=[]:=List.eq_nil_of_length_eq_zero Ω;have Nv:H=[]:=List.eq_nil_of_length_eq_zero (by rw[xL,sr];simp);subst sr;subst Nv;refine Ei ?_;obtain⟨v',w',f1,f2,f3,_⟩:=run_append_own (P:=P) w w.heap.size t type gK r z r.size r.bytes jL al dm rfl rfl xO (by rw[B];exact gk) (.slice none 0 0) 0 [] (World.ownsRow_nil w _ _ _)
             ⟨S,oO,none⟩ ys.length W s (by rw[kt,B]) tp (Aa V) (by simpa using nR) (by simpa using tc) (dP _)
            exact⟨v',w',by rw[oP];exact f1,by simpa using f2,by simpa[pz]using f3⟩
           ·have mM:yu.ownBlock=some bl:=by rw[oP];rfl
            by_cases ts:xs.length+ys.length<=cap
            ·have hmul:(xs.length+ys.length)*g.size<=cap*g.size:=rU _ ts;rw[q5]at hmul;have f1:=run_append_room (P:=P) w t type gK r jL al bl xs.length cap cur Cx ⟨S,oO,none⟩ ys.length W s (by rw[kt,B]) tp (Aa V) ts (by rw[kt,B];omega);generalize W6:(cur.toList.take (xs.length*r.size)++s++cur.toList.drop (xs.length*r.size+s.length)).toArray=u9 at f1;have j0:(w.setRow bl u9).heap[bl]? =some (.cells u9 gK (0,0)):=setRow_heap w bl cur u9 gK _ Cx;have av:(H++s).length=(xs++ys).length*g.size:=by rw[qe,xL,kt,qe,q5]
             have bS:cur.toList.take (xs.length*r.size)=H:=by rw[kW,B];exact Jh
             have lr:u9.size=cap*g.size:=by rw[<-W6];simp only[List.size_toArray,qe,List.length_take,uf,Array.length_toList];rw[B];omega
             have qC:u9.toList.take ((xs++ys).length*g.size)=H++s:=by rw[<-W6,bS];simp only[<-av];rw[List.take_append_of_le_length (dP _),jC]
             obtain⟨c2,_,dD⟩:=l.setRowM (w':=w.setRow bl u9) ab rfl Y mM (v':= .slice (some ⟨bl,0,none⟩) (xs.length+ys.length) cap) rfl (xs':=xs++ys) (us:=H++s) (.inr d6) rfl rfl rfl (fun j L=>setRow_other w bl j u9 L) (setRow_size w bl u9)
              ⟨av,.inr ⟨bl,cap,u9,Ψ,Nat.zero_le _,j0,by simpa using ts,Pq,lr,qC⟩⟩ HL
             replace dD:=dD (by simpa using aw);refine nG (v:= .slice (some ⟨bl,0,none⟩) (xs.length+ys.length) cap) (w':=w.setRow bl u9) (nQ _ _ ?_) (M _ _ (ν.withOwn k (xs++ys).length (.slice (some ⟨bl,0,none⟩) (xs.length+ys.length) cap)) ?_)
             ·rw[oP,<-kW];exact f1
             ·have:=c2.put (d:=some d) (by simpa[j9]using U) dD;simpa[e6]using this
            ·refine Ei ?_;obtain⟨v',w',f1,f2,f3⟩:=run_append_arg_grows (P:=P) w t type gK r z r.size r.bytes jL al dm rfl rfl xO (by rw[B];exact gk) ⟨bl,0,none⟩ xs.length cap H (by rw[xL,B])
              (fun j u L=>by have:=bB.cells mM j u L;exact this) ⟨S,oO,none⟩ ys.length W s (by rw[kt,B]) tp Ω nR tc
             exact⟨v',w',by rw[oP,<-kW];exact f1,f2,f3⟩
        ·cases F
       ·cases F
      ·cases F
     ·cases F
    ·cases he
   ·cases bS
  ·cases E
 ·rename_i sz x y t o' X;simp only[cR,ey]at ar;obtain⟨⟨⟨J,U⟩,A⟩,E⟩:=ar;subst J;split at U
  ·rename_i f R;simp only[ey]at U;simp only[fo]at he;generalize Ng:cF st.t x=px at he;unfold sE at he;split at he
   ·rename_i ee k n i uD;split at he
    ·rename_i n' el j6 xs ab;split at he
     ·rename_i Et;obtain⟨rfl,rfl⟩:=Et;split at he
      ·rename_i q bM;cases he;obtain⟨jv,Z,cp,dj,h7⟩:=aw;have rx:=e4 l A;rw[Ng]at rx;have N:=e4 l E;have wI:=wL N Z;have wM:=qR wI;obtain⟨_,en⟩:=wS aJ R w;have wi:(a.eval X).cells.size=sz:=by rw[cp]at wM;simpa using wM
       obtain⟨bl,off,nM,Ev,dy,bo,pV⟩:=l.storeRow (P:=P) ab rx bM jv wI (by simpa[wi]using dj) (fun e=>by have:=fy List.length e;simp[wi]at this;omega);refine Kr (w':=w.setRow bl nM) ?_ (M _ _ _ pV);simp only[execOp,Instr.storeAt,Ev,Instr.sureAddr,storeVar,gy,hG,gC,en,wi,U,ne_eq,not_true_eq_false,if_false,dy]
      ·cases he
     ·cases he
    ·cases he
   ·cases he
  ·cases U
 ·rename_i d key sz el z x t o' X;simp only[cR,ey,gz]at ar;obtain⟨⟨⟨⟨⟨J,U⟩,A⟩,E⟩,bS⟩,di⟩:=ar;subst J;split at A
  ·rename_i gK R;simp only[ey]at A;subst A;split at E
   ·rename_i g a7;simp only[cR,ey,gz]at E;obtain⟨⟨⟨rfl,gk⟩,hby⟩,bC⟩:=E;obtain rfl:=Rc bC;have rx:=e4 l bS;have N:=e4 l di;simp only[fo]at he;split at he
    ·rename_i gl n O;cases he;obtain⟨iG,kt⟩:=aw;obtain⟨m,rfl⟩:=Int.eq_ofNat_of_zero_le iG;rw[O]at rx N;simp only[aU]at rx N;obtain⟨r,cu,cb,al,aC,B,b3,dN,dm,sT,sU⟩:=(wT aJ a7).ex;obtain⟨ej,jL,gj⟩:=jo aJ R;obtain rfl:=sS gj;have nR:m<=lim:=by simp only[lim]at kt⊢;omega
     have tc:r.bytes*m<=281474976710656:=by have J:r.bytes*m<=2048*m:=rU _ Ω;simp only[lim]at nR;omega
     obtain⟨ak3,aj3⟩:=Rb w ν sT;obtain⟨w',g1,g2,g3⟩:=run_make_full (P:=P) w w.heap.size t el r cb r.size jL al dm rfl gl gl m tc (by simp only[maxLen];simp only[lim]at nR;omega) (dP _);have mK:w'.ownsRow w.heap.size el g.size (.slice (some ⟨w.heap.size,0,none⟩) m m) (List.replicate m g.zero).length (madeCells cb.cells (m*cb.cells.size)).toList:=by rw[B,<-sU]at g2;rw[List.length_replicate,<-sU];exact g2
     obtain⟨Y,eE⟩:=l.newRowM (k:=κ) (xs:=List.replicate m g.zero) (.inl (l.new _ (vX rfl))) g3 mK (by rw[<-sU];exact Yr ak3 Ω (CL aj3) m) (by simpa using nR) (dB rfl);simp only[List.length_replicate]at Y eE;simp only[Int.toNat_natCast]at M;refine nG (v:= .slice (some ⟨w.heap.size,0,none⟩) m m) (w':=w') ?_ (M _ _ _ (Y.put (d:=some d) (by simpa[j9]using U) (p:= .row g.size κ m) (eE ⟨_,_,rfl⟩)));simp only[execOp];refine Ga ?_;rw[rx,N];exact g1
    ·cases he
   ·cases E
  ·cases A
 ·cases ar
def aqS{P:cI}{aT:List (Nat×ev)}(e:h1 P aT=true){C:fq}{st st':bp}{a:Act}{w:World}{ν:bd}(f:c9 C st a w ν){i:eY}{o:Oper}(ar:FL C.N aT i o=true)
  {c:Prop} (he:nA st i=some (c,st')) (aw:c) {K:Act->World->Prop} {Q:Exit->Act->World->Prop} (b:∀br w' bo,c9 C st' br w' bo->K br w'):o.wp P a w K Q:=by
 have p:rB st none->fresh st.n st.o (.loc st.n):=fun h=>x2 (key:=none) h;have q:∀j,fresh (st.n+1) st.o j->fresh st.n st.o j/\j≠ .loc st.n:=x3 (key:=none);cases i with
 |v d i=>exact kB (κ:= .loc 0) (n':=0) (o₁:=[]) e f ar (fun h=>by simp[eY.makes]at h) (fun h=>by simp[eY.makes]at h) (by simpa only[nA,fo]using he) aw b
 |box d key x=>simp only[nA]at he;cases he;exact kB (κ:=ky st key) (n':=oM st key) (o₁:=oN st key) e f ar (fun _=>x2 aw.1) (fun _=>x3) (by simp only[fo]) aw.2 b
 |alloc d key z=>simp only[nA]at he;cases he;exact kB (κ:=ky st key) (n':=oM st key) (o₁:=oN st key) e f ar (fun _=>x2 aw) (fun _=>x3) (by simp only[fo]) trivial b
 |mks d key sz el z x=>
  simp only[nA]at he;split at he
  ·rename_i gl n g;cases he;exact kB (κ:=ky st key) (n':=oM st key) (o₁:=oN st key) e f ar (fun _=>x2 aw.1) (fun _=>x3) (by simp only[fo,g]) aw.2 b
  ·cases he
 |storeE sz x y=>exact kB (κ:= .loc 0) (n':=0) (o₁:=[]) e f ar (fun h=>by simp[eY.makes]at h) (fun h=>by simp[eY.makes]at h) (by simpa only[nA,fo]using he) aw b
 |store sz x y=>exact kB (κ:= .loc 0) (n':=0) (o₁:=[]) e f ar (fun h=>by simp[eY.makes]at h) (fun h=>by simp[eY.makes]at h) (by simpa only[nA,fo]using he) aw b
 |bsl d sz el xs=>simp only[nA]at he;cases he;exact kB (κ:= .loc st.n) (n':=st.n+1) (o₁:=st.o) e f ar (fun _=>p aw.1) (fun _=>q) (by simp only[fo]) aw.2 b
 |bslm d key sz el xs=>simp only[nA]at he;cases he;exact kB (κ:=ky st key) (n':=oM st key) (o₁:=oN st key) e f ar (fun _=>x2 aw.1) (fun _=>x3) (by simp only[fo]) aw.2 b
 |appm d key sz el x y=>
  simp only[nA]at he;split at he
  ·rename_i ys l;cases he;exact kB (κ:=ky st key) (n':=oM st key) (o₁:=oN st key) e f ar (fun _=>x2 aw.1) (fun _=>x3) (by simp only[fo,l]) aw.2 b
  ·rename_i k xs ys l;cases he;refine kB (κ:= .loc 0) (n':=0) (o₁:=[]) e f ar (fun h=>?_) (fun h=>?_) (by simp only[fo,l]) aw b;all_goals
    exfalso
    simp only[eY.makes]at h
    split at h
    ·rename_i g
     unfold ur at l
     rw[g]at l
     split at l
     ·split at l<;>cases l
     ·rename_i J _;cases J
     ·cases l
    ·cases h
  ·cases he
 |mkmap d key=>simp only[nA]at he;cases he;exact kB (κ:=ky st key) (n':=oM st key) (o₁:=oN st key) e f ar (fun _=>x2 aw) (fun _=>x3) (by simp only[fo]) trivial b
 |mput E x k v=>exact kB (κ:= .loc 0) (n':=0) (o₁:=[]) e f ar (fun h=>by simp[eY.makes]at h) (fun h=>by simp[eY.makes]at h) (by simpa only[nA,fo]using he) aw b
 |range d key x=>
  simp only[nA]at he;split at he
  ·rename_i m g;split at he
   ·rename_i cs t;split at he
    ·rename_i cs' hm;cases he;exact kB (κ:=ky st key) (n':=oM st key) (o₁:=oN st key) e f ar (fun _=>x2 aw) (fun _=>x3) (by simp only[fo,g,t,hm]) trivial b
    ·cases he
   ·cases he
  ·cases he
 |app d sz el x y=>
  simp only[nA]at he;split at he
  ·rename_i B tag xs A u ys g s;split at he
   ·rename_i r;split at he
    ·rename_i k;split at he
     ·rename_i ow ab;cases he;refine kB (κ:= .loc 0) (n':=0) (o₁:=[]) e f ar (fun h=>by simp[eY.makes,g]at h) (fun h=>by simp[eY.makes,g]at h) ?_ aw b;simp only[fo,g,s,r,and_self,if_true,ab]
     ·cases he
    ·cases he;refine kB (κ:= .loc st.n) (n':=st.n+1) (o₁:=st.o) e f ar (fun _=>p aw.1) (fun _=>q) ?_ aw.2 b;simp only[fo,g,s,r,and_self,if_true]
    ·cases he
   ·cases he
  ·cases he
structure cT where
 b:List (aB×List af)
 e:List (aB×dW)
def fB(ν:bd)(s:cT)(bl:Nat):Prop:=(∃k,(ae k s.b).isSome/\ν.bx k=some bl)\/(∃g n v,(ae g s.e).isSome/\ν.ow g=some (n,v)/\v.ownBlock=some bl)
def pM(ν:bd)(s:cT):Prop:= ∀k,(ae k s.b=none->ν.bx k=none)/\(ae k s.e=none->ν.ow k=none)/\∀j b,¬ν.tr k j b
def cL(s:cT):List aB:=s.b.map (·.1)++s.e.map (·.1)
def h0(s:cT):Prop:=(∀m,ae (.loc m) s.b=none)/\(∀m,ae (.loc m) s.e=none)
def yA(P:cI)(f:FuncId)(bm:Array Value)(w:World)(R:Ending->World->Prop):Prop:=((∃fn,P.funcs[f]? =some fn/\fn.body.isSome=true/\(fn.name== "runtime.NumGoroutine")=false)/\Calls P f bm w R)\/ ∃v w',(callFunc f bm).run P w= .ok (.value v) w'/\R (.returned v) w'
def bH(P:cI)(f:FuncId)(args:List af)(s:cT)(Q:af->cT->Prop):Prop:=
 ∀(w:World) (ν:bd) (bm:Array Value),Good (fB ν s) w ν s.b s.e->pM ν s->c7 w ν args bm.toList->
  yA P f bm w fun e w'=> ∃v r a bo,e= .returned v/\Q r a/\aU w' bo r v/\Good (fun bl=>fB ν s bl\/w.heap.size<=bl) w' bo a.b a.e/\pM bo a/\h0 a/\pC ⟨w,ν,fB ν s,0,cL s⟩ w' bo
def A6(κ:be Nat)(ν:bd)(s:cT):Prop:= ∀k,(ae k s.b=none->ν.bx k=none)/\(ae k s.e=none->ν.ow k=none)/\∀j b,ν.tr k j b->∃m,κ=some m/\k= .loc m
def pM.k{ν:bd}{s:cT}(h:pM ν s):A6 none ν s:=fun k=>⟨(h k).1,(h k).2.1,fun j b a=>absurd a ((h k).2.2 j b)⟩
def uh(P:cI)(f:FuncId)(κ:Nat)(args:List af)(s:cT)(Q:af->cT->Prop):Prop:=
 ∀(w:World) (ν:bd) (bm:Array Value),Good (fB ν s) w ν s.b s.e->pM ν s->c7 w ν args bm.toList->
  yA P f bm w fun e w'=> ∃v r a bo,e= .returned v/\Q r a/\aU w' bo r v/\Good (fun bl=>fB ν s bl\/w.heap.size<=bl) w' bo a.b a.e/\A6 (some κ) bo a/\h0 a/\pC ⟨w,ν,fB ν s,0,cL s⟩ w' bo
def bT(P:cI)(f:FuncId)(args:List af)(r:af):Prop:=bH P f args ⟨[],[]⟩ fun a b=>a=r/\b=⟨[],[]⟩
def u0{α:Type}{k:aB}{x:α}:∀{l:List (aB×α)},ae k l=some x->(k,x)∈l
 |[],h=>by simp[ae]at h
 |(i,y)::r,h=>by
  simp only[ae]at h;split at h
  ·rename_i e;subst e;cases h;simp
  ·exact qf _ (u0 h)
def rH{s:cT}{k:aB}(h:(ae k s.b).isSome\/(ae k s.e).isSome):k∈cL s:=by
 unfold cL;rcases h with h|h<;>obtain⟨x,a⟩:=fx.1 h<;>have:=u0 a
 ·exact List.mem_append_left _ (hb.2 ⟨_,this,rfl⟩)
 ·exact List.mem_append_right _ (hb.2 ⟨_,this,rfl⟩)
section
open Classical
noncomputable def bd.cut(ν:bd)(S:aB->Prop):bd:={A:=ν.A,bx:=fun k=>if S k then ν.bx k else none,ow:=fun k=>if S k then ν.ow k else none,tr:=fun k j b=>S k/\ν.tr k j b}
def bd.cut_bx{ν:bd}{S:aB->Prop}{k:aB}(h:S k):(ν.cut S).bx k=ν.bx k:=by simp[bd.cut,h]
def bd.cut_ow{ν:bd}{S:aB->Prop}{k:aB}(h:S k):(ν.cut S).ow k=ν.ow k:=by simp[bd.cut,h]
def bd.cut_no{ν:bd}{S:aB->Prop}{k:aB}(h:¬S k):(ν.cut S).bx k=none/\(ν.cut S).ow k=none/\∀j b,¬(ν.cut S).tr k j b:=by simp[bd.cut,h]
def bd.cut_some{ν:bd}{S:aB->Prop}{k:aB}{b:Nat}(h:(ν.cut S).bx k=some b):S k/\ν.bx k=some b:=by
 by_cases a:S k
 ·exact⟨a,by rw[bd.cut_bx a]at h;exact h⟩
 ·rw[(bd.cut_no a).1]at h;cases h
def bd.cut_someO{ν:bd}{S:aB->Prop}{k:aB}{b:Nat×Value}(h:(ν.cut S).ow k=some b):S k/\ν.ow k=some b:=by
 by_cases a:S k
 ·exact⟨a,by rw[bd.cut_ow a]at h;exact h⟩
 ·rw[(bd.cut_no a).2.1]at h;cases h
def oi.cut(S:aB->Prop)(w:World)(ν:bd):oi S w ν w (ν.cut S):=⟨fun _ _ h=>⟨h,rfl⟩,fun k b ab h=>by rw[bd.cut_bx ab];exact h,fun g n u a7 h=>⟨n,u,by rw[bd.cut_ow a7];exact h,.inl ⟨rfl,rfl⟩⟩,fun _ _ _=>rfl,fun _ _ _ ab h=>⟨ab,h⟩⟩
end
def hC(S:aB->Prop)(b2 b:List (aB×List af)):Prop:= ∀k cs,ae k b2=some cs->ae k b=some cs/\S k/\aH S cs
def p9(S:aB->Prop)(a e:List (aB×dW)):Prop:= ∀k o,ae k a=some o->ae k e=some o/\S k/\dV S o
def Good.cut{pr E:Nat->Prop}{w:World}{ν:bd}{b b2:List (aB×List af)}{e l:List (aB×dW)}(h:Good pr w ν b e){S:aB->Prop}(A:hC S b2 b)(he:p9 S l e)
  (B:∀bl,pr bl->(∃k,(ae k b2).isSome/\(ν.cut S).bx k=some bl)\/(∃g n v,(ae g l).isSome/\(ν.cut S).ow g=some (n,v)/\v.ownBlock=some bl)->E bl):Good E w (ν.cut S) b2 l:=by
 have i:∀k,(ae k b2).isSome->(ae k b).isSome/\S k:=fun k ab=>by obtain⟨cs,r⟩:=fx.1 ab;have:=A k cs r;exact⟨by simp[this.1],this.2.1⟩
 have p:∀k,(ae k l).isSome->(ae k e).isSome/\S k:=fun k ab=>by obtain⟨cs,r⟩:=fx.1 ab;have:=he k cs r;exact⟨by simp[this.1],this.2.1⟩
 refine⟨h.alt,fun k cs ab=>?_,fun k bs bl J U d f=>?_,fun g o a7=>?_,fun g y n n' v v' bl J U d f s F=>?_,fun g k n v bl J U d f s=>?_,fun k=>?_,fun bl H k j G=>?_⟩
 ·obtain⟨g1,g2,g3⟩:=A k cs ab;obtain⟨bl,us,el,f1,f2,f3,f4,f5⟩:=h.box k cs g1;have x:(ν.cut S).bx k=some bl:=by rw[bd.cut_bx g2];exact f1
  exact⟨bl,us,el,x,B bl f2 (.inl ⟨k,by simp[ab],x⟩),f3,f4,PY (oi.cut S w ν) g3 f5⟩
 ·obtain⟨a,a2⟩:=i k J;obtain⟨c,z⟩:=i bs U;exact h.inj k bs bl a c (bd.cut_some d).2 (bd.cut_some f).2
 ·obtain⟨g1,g2,g3⟩:=he g o a7;obtain⟨v,us,f1,f2,f3,f4⟩:=h.own g o g1;have u:(ν.cut S).ow g=some (o.n,v):=by rw[bd.cut_ow g2];exact f1
  exact⟨v,us,u,f2,fun bl q=>⟨B bl (f3 bl q).1 (.inr ⟨g,o.n,v,by simp[a7],u,q⟩),(f3 bl q).2⟩,
   fun xs m=>⟨(f4 xs m).1,JG (oi.cut S w ν) _ _ _ (g3 xs m) (f4 xs m).2.1,(f4 xs m).2.2⟩⟩
 ·obtain⟨a,a2⟩:=p g J;obtain⟨c,z⟩:=p y U;exact h.oinj g y n n' v v' bl a c (bd.cut_someO d).2 (bd.cut_someO f).2 s F
 ·obtain⟨a,a2⟩:=p g J;obtain⟨c,z⟩:=i k U;exact h.obx g k n v bl a c (bd.cut_someO d).2 f (bd.cut_some s).2
 ·by_cases t:S k
  ·rw[bd.cut_bx t,bd.cut_ow t];exact h.one k
  ·exact .inl (bd.cut_no t).1
 ·refine h.otr bl ?_ k j G.2;rcases H with⟨bs,a,a2⟩|⟨g,n,v,a,a2,a3⟩
  ·exact .inl ⟨bs,(i bs a).1,(bd.cut_some a2).2⟩
  ·exact .inr ⟨g,n,v,(p g a).1,(bd.cut_someO a2).2,a3⟩
structure gp (ob:List aB) (st st':bp):Prop where
 t:∀x∈st'.t,get x.1 st.t=x.2/\az (fun k=> ¬fresh st'.n st'.o k) x.2
 b:hC (fun k=> ¬fresh st'.n st'.o k) st'.b st.b
 e:p9 (fun k=> ¬fresh st'.n st'.o k) st'.e st.e
 o:∀m∈ob,m∈st'.o
def VV:∀(i:Nat) (l:List (Nat×af)),get i l= .junk\/(i,get i l)∈l
 |_,[]=>.inl rfl
 |i,(j,p)::r=>by
  by_cases h:j=i
  ·subst h;right;simp[get]
  ·rcases VV i r with J|J
   ·left;simp[get,h,J]
   ·right;simp[get,h];right;exact J
def c9.weaker{C:fq}{st st':bp}{a:Act}{w:World}{ν:bd}(h:c9 C st a w ν)(hw:gp C.ob st st'):c9 C st' a w (ν.cut fun k=> ¬fresh st'.n st'.o k):=by
 refine⟨h.good.cut hw.b hw.e (fun bl e _=>e),⟨h.fr.os,h.fr.tape,h.fr.output,h.fr.size,h.fr.block,h.fr.keep,h.fr.fresh,fun n b c=>?_,h.fr.obn,fun m n u hm=>?_,h.fr.obr,fun k j bs dh b J U=>h.fr.trd k j bs dh b J.2 U.2,fun k j b c=>h.fr.trb k j b c.2,fun k j b c=>?_,h.fr.sh⟩,h.defers,h.size,fun i=>?_,fun k ab=>bd.cut_no (fun g=>g ab)⟩
 ·rw[bd.cut_bx (fun d=>d.2 (hw.o _ (h.fr.obn n b c)))];exact h.fr.obj n b c
 ·rw[bd.cut_ow (fun d=>d.2 (hw.o _ (h.fr.obr m n u hm)))];exact h.fr.row m n u hm
 ·rw[bd.cut_bx c.1,bd.cut_ow c.1];exact h.fr.trn k j b c.2
 ·rcases VV i st'.t with f|hm
  ·rw[f];simp[aU]
  ·obtain⟨J,U⟩:=hw.t _ hm;simp only at J;have:=h.slot i;rw[J]at this;exact vd (oi.cut _ w ν) _ _ U this
mutual
def b7:af->af
 | .slice sz _ xs=>.slice sz .no (cf xs)
 | .agg cs=>.agg (cf cs)
 | .tuple bm=>.tuple (cf bm)
 | .eptr x=>.eptr (b7 x)
 | .iface t x=>.iface t (b7 x)
 | .func f dH=>.func f (cf dH)
 |p=>p
def cf:List af->List af
 |[]=>[]
 |x::xs=>b7 x::cf xs
end
def nD:∀xs,(cf xs).length=xs.length
 |[]=>rfl
 |x::xs=>by simp[cf,nD xs]
mutual
def Hy{t:Bool}{w:World}{A:Nat->Nat->Prop}:∀(p:af) (F:Nat->Prop) (v:Value),cZ t w A F p v->cZ t w A F (b7 p) v
 | .int _ _,_,_,h=>by simpa only[b7]using h
 | .bool _,_,_,h=>by simpa only[b7]using h
 | .str _,_,_,h=>by simpa only[b7]using h
 | .slice sz tag xs,F,v,h=>by
  simp only[cZ,b7]at h⊢;obtain⟨a,cap,J,U,g,j⟩:=h;refine⟨a,cap,by rw[nD];exact J,by rw[nD];exact U,by rw[nD];exact g,?_⟩;rcases j with rfl|⟨b,off,us,G,i,k,e,f,d,c⟩
  ·exact .inl rfl
  ·exact .inr ⟨b,off,us,G,i,k,e,f,d,VB sz xs G us c⟩
 | .agg cs,F,v,h=>by simp only[cZ,b7]at h⊢;obtain⟨us,J,U⟩:=h;exact⟨us,J,VC cs F _ U⟩
 | .junk,_,_,h=>by simp[cZ]at h
 | .ptr _ _,_,_,h=>by simp[cZ]at h
 | .eptr _,_,_,h=>by simp[cZ]at h
 | .iface _ _,_,_,h=>by simp[cZ]at h
 | .nilp,_,_,h=>by simp[cZ]at h
 | .tuple _,_,_,h=>by simp[cZ]at h
 | .func _ _,_,_,h=>by simp[cZ]at h
 | .gmap _,_,_,h=>by simp[cZ]at h
 | .row _ _ _,_,_,h=>by simp[cZ]at h
 | .rptr _ _ _ _ _,_,_,h=>by simp[cZ]at h
 | .hdm _ _,_,_,h=>by simp[cZ]at h
 | .hdi _ _ _,_,_,h=>by simp[cZ]at h
 | .cst _,_,_,h=>by simp[cZ]at h
def VC{t:Bool}{w:World}{A:Nat->Nat->Prop}:∀(cs:List af) (F:Nat->Prop) (us:List Value),kF t w A F cs us->kF t w A F (cf cs) us
 |[],_,_,h=>by simpa only[cf]using h
 |c::cs,F,us,h=>by simp only[kF,cf]at h⊢;obtain⟨u,d,b,a,J,U,⟨g,f⟩,e⟩:=h;exact⟨u,d,b,a,J,U,⟨Hy c b u g,f⟩,VC cs a d e⟩
def VB{t:Bool}{w:World}{A:Nat->Nat->Prop}(sz:Nat):∀(cs:List af) (F:Nat->Prop) (us:List Value),jZ t w A F sz cs us->jZ t w A F sz (cf cs) us
 |[],_,_,h=>by simpa only[cf]using h
 |c::cs,F,us,h=>by simp only[jZ,cf]at h⊢;obtain⟨u,d,b,a,J,U,⟨g,f⟩,e⟩:=h;exact⟨u,d,b,a,J,U,⟨Hy c b u g,f⟩,VB sz cs a d e⟩
end
def DX{t:Bool}{w:World}{A:Nat->Nat->Prop}{F:Nat->Prop}{sz:Nat}{tag:jH}(a:jH){xs:List af}(v:Value)(h:cZ t w A F (.slice sz tag xs) v):cZ t w A F (.slice sz a (cf xs)) v:=by have:=Hy _ F v h;simp only[b7,cZ]at this⊢;exact this
mutual
def yh{w:World}{ν:bd}:∀(p:af) (v:Value),aU w ν p v->aU w ν (b7 p) v
 | .junk,_,h=>by simpa only[b7]using h
 | .int k n,_,h=>by simpa only[b7]using h
 | .bool b,_,h=>by simpa only[b7]using h
 | .str s,_,h=>by simpa only[b7]using h
 | .slice sz tag xs,v,h=>by
  simp only[aU,b7]at h⊢;obtain⟨⟨a,cap,J,U,c,d⟩,l,i⟩:=h;refine⟨⟨a,cap,by rw[nD];exact J,by rw[nD];exact U,by rw[nD];exact c,?_⟩,fun e=>(by cases e),fun g e=>(by cases e),fun _ _ e=>(by cases e),fun _ e=>(by cases e)⟩;rcases d with rfl|⟨b,off,us,d,i,j⟩
  ·exact .inl rfl
  ·exact .inr ⟨b,off,us,d,i,abb sz xs us j⟩
 | .agg cs,v,h=>by simp only[aU,b7]at h⊢;obtain⟨us,J,U⟩:=h;exact⟨us,J,abf cs _ U⟩
 | .ptr key off,v,h=>by simpa only[b7]using h
 | .iface t x,v,h=>by simp only[aU,b7]at h⊢;obtain⟨u,J,U⟩:=h;exact⟨u,J,yh x u U⟩
 | .eptr x,v,h=>by simp only[aU,b7]at h⊢;obtain⟨b,off,u,J,U,c⟩:=h;exact⟨b,off,u,J,yh x u U,c⟩
 | .nilp,_,h=>by simpa only[b7]using h
 | .tuple bm,v,h=>by simp only[aU,b7]at h⊢;obtain⟨us,J,U⟩:=h;exact⟨us,J,JL bm _ U⟩
 | .func f dH,v,h=>by simp only[aU,b7]at h⊢;obtain⟨us,J,U⟩:=h;exact⟨us,J,JL dH _ U⟩
 | .gmap key,v,h=>by simpa only[b7]using h
 | .row _ _ _,v,h=>by simpa only[b7]using h
 | .rptr _ _ _ _ _,v,h=>by simpa only[b7]using h
 | .cst _,v,h=>by simpa only[b7]using h
def abf{w:World}{ν:bd}:∀(cs:List af) (us:List Value),cW w ν cs us->cW w ν (cf cs) us
 |[],_,h=>by simpa only[cf]using h
 |c::cs,us,h=>by simp only[cW,cf]at h⊢;obtain⟨u,a,J,U,b⟩:=h;exact⟨u,a,J,⟨yh c u U.1,U.2⟩,abf cs a b⟩
def JL{w:World}{ν:bd}:∀(cs:List af) (us:List Value),c7 w ν cs us->c7 w ν (cf cs) us
 |[],_,h=>by simpa only[cf]using h
 |c::cs,us,h=>by simp only[c7,cf]at h⊢;obtain⟨u,a,J,U,b⟩:=h;exact⟨u,a,J,yh c u U,JL cs a b⟩
def abb{w:World}{ν:bd}(sz:Nat):∀(xs:List af) (us:List Value),dw w ν sz xs us->dw w ν sz (cf xs) us
 |[],_,h=>by simpa only[cf]using h
 |x::xs,us,h=>by simp only[dw,cf]at h⊢;obtain⟨u,a,J,⟨U,c,d⟩,b⟩:=h;exact⟨u,a,J,⟨yh x u U,c,d⟩,abb sz xs a b⟩
end
def aM(s:cT)(k:aB):Prop:=(ae k s.b).isSome=true\/(ae k s.e).isSome=true
def cM{α β:Type}(s:List (aB×β)):List (aB×α)->List (aB×α)
 |[]=>[]
 |(k,x)::r=>match ae k s with
  |some _=>cM s r
  |none=>(k,x)::cM s r
def tF{α β:Type}(s:List (aB×β))(k:aB):∀l:List (aB×α),ae k (cM s l)=if(ae k s).isSome then none else ae k l
 |[]=>by simp[cM,ae]
 |(i,x)::r=>by
  simp only[cM];by_cases e:i=k
  ·subst e;cases h:ae i s with
   |some y=>simp[tF s i r,h]
   |none=>simp[ae]
  ·cases h:ae i s with
   |some y=>simp[tF s k r,ae,e]
   |none=>simp[ae,e,tF s k r]
def n4{α:Type}(k:aB):∀l a:List (aB×α),ae k (l++a)=match ae k l with|some x=>some x|none=>ae k a
 |[],a=>by simp[ae]
 |(i,x)::r,a=>by
  by_cases e:i=k
  ·simp[ae,e]
  ·simp[ae,e,n4 k r a]
def after(st:bp)(s a:cT)(d:be Nat)(r:af):bp:={t:=e6 d r st.t,b:=cM s.b st.b++a.b,e:=cM s.e st.e++a.e,n:=st.n,o:=st.o++cL a}
section
open Classical
noncomputable def bd.join(ν bo:bd)(s a:cT):bd:={A:=bo.A,bx:=fun k=>if(ae k s.b).isSome\/(ae k a.b).isSome then bo.bx k else ν.bx k,ow:=fun k=>if(ae k s.e).isSome\/(ae k a.e).isSome then bo.ow k else ν.ow k,tr:=fun k j b=>ν.tr k j b\/bo.tr k j b}
end
def c9.callK{C:fq}{st:bp}{a:Act}{w w':World}{ν bo:bd}(h:c9 C st a w ν){s c:cT}(B:hC (aM s) s.b st.b)(he:p9 (aM s) s.e st.e)(rq:h0 s)
  (a7:Good (fun bl=>fB (ν.cut (aM s)) s bl\/w.heap.size<=bl) w' bo c.b c.e) {κ:be Nat} (X:A6 κ bo c) (als:∀m,κ=some m->ν.bx (.loc m)=none/\ν.ow (.loc m)=none/\∀j b,¬ν.tr (.loc m) j b) {n':Nat} {o':List aB} (dB:∀k,fresh n' o' k->fresh st.n (st.o++cL c) k/\∀m,κ=some m->k≠ .loc m) (P:h0 c) (E:pC ⟨w,ν.cut (aM s),fB (ν.cut (aM s)) s,0,cL s⟩ w' bo)
  (M7:∀m,(ae (.obj m) c.b).isSome->(ae (.obj m) s.b).isSome\/ .obj m∉st.o) (cv:∀m,(ae (.obj m) c.e).isSome->(ae (.obj m) s.e).isSome\/ .obj m∉st.o) (d:be Nat) (aL:j9 C.N d=true) {r:af} {v:Value} (aI:aU w' bo r v):
  c9 C {after st s c d r with n:=n',o:=o'} (a.put d v) w' (ν.join bo s c):=by
 have S:∀k,(ae k s.b).isSome->(ae k st.b).isSome:=fun k ab=>by obtain⟨cs,q⟩:=fx.1 ab;simp[(B k cs q).1]
 have V:∀k,(ae k s.e).isSome->(ae k st.e).isSome:=fun k ab=>by obtain⟨cs,q⟩:=fx.1 ab;simp[(he k cs q).1]
 have akN:∀k,(ae k c.b).isSome->¬(ae k s.b).isSome->ν.bx k=none:=fun k ab aA=>by
  cases k with
  |loc m=>rw[P.1 m]at ab;cases ab
  |obj m=>exact(h.new (.obj m) ⟨trivial,(M7 m ab).resolve_left aA⟩).1
 have akO:∀k,(ae k c.e).isSome->¬(ae k s.e).isSome->ν.ow k=none:=fun k ab aA=>by
  cases k with
  |loc m=>rw[P.2 m]at ab;cases ab
  |obj m=>exact(h.new (.obj m) ⟨trivial,(cv m ab).resolve_left aA⟩).2.1
 have alX:∀k,(ae k s.b).isSome->(ν.join bo s c).bx k=bo.bx k:=fun k ab=>by simp[bd.join,ab]
 have Xs:∀k,(ae k c.b).isSome->(ν.join bo s c).bx k=bo.bx k:=fun k ab=>by simp[bd.join,ab]
 have Xt:∀k,ν.bx k≠none->¬(ae k s.b).isSome->(ν.join bo s c).bx k=ν.bx k:=fun k J U=>by have y:¬(ae k c.b).isSome:=fun y=>J (akN k y U);simp[bd.join,U,y]
 have alY:∀k,(ae k s.e).isSome->(ν.join bo s c).ow k=bo.ow k:=fun k ab=>by simp[bd.join,ab]
 have NS:∀k,(ae k c.e).isSome->(ν.join bo s c).ow k=bo.ow k:=fun k ab=>by simp[bd.join,ab]
 have NT:∀k,ν.ow k≠none->¬(ae k s.e).isSome->(ν.join bo s c).ow k=ν.ow k:=fun k J U=>by have y:¬(ae k c.e).isSome:=fun y=>J (akO k y U);simp[bd.join,U,y]
 have ada:∀k b,bo.bx k=some b->(ae k c.b).isSome:=fun k b ab=>by
  cases R:ae k c.b with
  |some _=>rfl
  |none=>rw[(X k).1 R]at ab;cases ab
 have adb:∀k b,bo.ow k=some b->(ae k c.e).isSome:=fun k b ab=>by
  cases R:ae k c.e with
  |some _=>rfl
  |none=>rw[(X k).2.1 R]at ab;cases ab
 have ar:mz w ν w' (ν.join bo s c):=by
  refine⟨fun b o M=>E.keep b o M,fun k b _ ab=>?_,fun g n u _ a7=>?_,fun b o M=>E.sh b o M,fun _ _ _ _ h=>.inl h⟩
  ·by_cases A:(ae k s.b).isSome
   ·rw[alX k A];cases k with
    |loc m=>rw[rq.1 m]at A;cases A
    |obj m=>exact E.obj m b (by rw[bd.cut_bx (.inl A)];exact ab)
   ·rw[Xt k (by rw[ab];simp) A];exact ab
  ·by_cases A:(ae g s.e).isSome
   ·rw[alY g A];cases g with
    |loc m=>rw[rq.2 m]at A;cases A
    |obj m=>exact E.row m n u (by rw[bd.cut_ow (.inr A)];exact a7)
   ·rw[NT g (by rw[a7];simp) A];exact⟨n,u,a7,.inl ⟨rfl,rfl⟩⟩
 have h9:mz w' bo w' (ν.join bo s c):=⟨fun b o M=>⟨M,rfl⟩,fun k b _ ab=>by rw[Xs k (ada k b ab)];exact ab,fun g n u _ ab=>⟨n,u,by rw[NS g (adb g _ ab)];exact ab,.inl ⟨rfl,rfl⟩⟩,fun _ _ _=>rfl,fun _ _ _ _ h=>.inr h⟩
 have pQ:∀bl,fB (ν.cut (aM s)) s bl->C.pr bl/\bl<w.heap.size:=by
  intro bl F;rcases F with⟨k,J,U⟩|⟨g,n,u,J,U,y⟩
  ·have z:=(bd.cut_some U).2;obtain⟨cs,q⟩:=fx.1 (S k J);obtain⟨K,us,el,g1,g2,_⟩:=h.good.box k cs q;rw[z]at g1;cases g1;exact⟨g2,h.good.boxLt q z⟩
  ·have z:=(bd.cut_someO U).2;obtain⟨o,HZ⟩:=fx.1 (V g J);obtain⟨v',us,g1,g2,g3,_⟩:=h.good.own g o HZ;rw[z]at g1;cases g1;exact⟨(g3 bl y).1,h.good.ownLt HZ z y⟩
 have WU:∀bl,fB (ν.cut (aM s)) s bl\/w.heap.size<=bl->C.pr bl:=fun bl F=>by
  rcases F with F|F
  ·exact(pQ bl F).1
  ·exact .inr (kE h.fr.size F)
 have ak9:∀k cs bl,ae k st.b=some cs->¬(ae k s.b).isSome->ν.bx k=some bl->¬fB (ν.cut (aM s)) s bl:=by
  intro k cs bl J U y z;rcases z with⟨bs,i,a2⟩|⟨g,n,u,i,a2,a3⟩
  ·have:=h.good.inj k bs bl (by simp[J]) (S bs i) y (bd.cut_some a2).2;subst this;exact U i
  ·exact h.good.obx g k n u bl (V g i) (by simp[J]) (bd.cut_someO a2).2 a3 y
 have ala:∀g o n u bl,ae g st.e=some o->¬(ae g s.e).isSome->ν.ow g=some (n,u)->u.ownBlock=some bl->¬fB (ν.cut (aM s)) s bl:=by
  intro g o n u bl J U y z G;rcases G with⟨bs,i,a2⟩|⟨W,n',Z,i,a2,a3⟩
  ·exact h.good.obx g bs n u bl (by simp[J]) (S bs i) y z (bd.cut_some a2).2
  ·have:=h.good.oinj g W n n' u Z bl (by simp[J]) (V W i) y (bd.cut_someO a2).2 z a3;subst this;exact U i
 have T2:∀k cs,ae k (cM s.b st.b++c.b)=some cs->(¬(ae k s.b).isSome/\ae k st.b=some cs)\/ae k c.b=some cs:=by
  intro k cs ab;rw[n4,tF]at ab;by_cases A:(ae k s.b).isSome
  ·simp only[A,if_true]at ab;exact .inr ab
  ·simp only[A]at ab;cases R:ae k st.b with
   |some x=>simp[R]at ab;subst ab;exact .inl ⟨A,rfl⟩
   |none=>simp[R]at ab;exact .inr ab
 have T3:∀k cs,ae k (cM s.e st.e++c.e)=some cs->(¬(ae k s.e).isSome/\ae k st.e=some cs)\/ae k c.e=some cs:=by
  intro k cs ab;rw[n4,tF]at ab;by_cases A:(ae k s.e).isSome
  ·simp only[A,if_true]at ab;exact .inr ab
  ·simp only[A]at ab;cases R:ae k st.e with
   |some x=>simp[R]at ab;subst ab;exact .inl ⟨A,rfl⟩
   |none=>simp[R]at ab;exact .inr ab
 have CS:∀bl,fB (ν.cut (aM s)) s bl\/w.heap.size<=bl->∀K,K<w.heap.size->¬fB (ν.cut (aM s)) s K->bl≠K:=by
  intro bl J K U y e;subst e;rcases J with J|J
  ·exact y J
  ·omega
 have NX:∀bl,bl<w.heap.size->¬fB (ν.cut (aM s)) s bl->w'.heap[bl]? =w.heap[bl]?:=fun bl J U=>E.block bl J U;have isB:∀k bl,(ae k (cM s.b st.b++c.b)).isSome->(ν.join bo s c).bx k=some bl->(¬(ae k s.b).isSome/\(ae k st.b).isSome/\ν.bx k=some bl)\/((ae k c.b).isSome/\bo.bx k=some bl):=by
  intro k bl ab L;obtain⟨cs,q⟩:=fx.1 ab;rcases T2 k cs q with⟨J,U⟩|J
  ·obtain⟨K,us,el,g1,_⟩:=h.good.box k cs U;rw[Xt k (by rw[g1];simp) J]at L;exact .inl ⟨J,by simp[U],L⟩
  ·rw[Xs k (by simp[J])]at L;exact .inr ⟨by simp[J],L⟩
 have Ik:∀k x,(ae k (cM s.e st.e++c.e)).isSome->(ν.join bo s c).ow k=some x->(¬(ae k s.e).isSome/\(ae k st.e).isSome/\ν.ow k=some x)\/((ae k c.e).isSome/\bo.ow k=some x):=by
  intro k x ab L;obtain⟨cs,q⟩:=fx.1 ab;rcases T3 k cs q with⟨J,U⟩|J
  ·obtain⟨v',us,g1,_⟩:=h.good.own k cs U;rw[NT k (by rw[g1];simp) J]at L;exact .inl ⟨J,by simp[U],L⟩
  ·rw[NS k (by simp[J])]at L;exact .inr ⟨by simp[J],L⟩
 have Dr:∀k bl,¬(ae k s.b).isSome->(ae k st.b).isSome->ν.bx k=some bl->bl<w.heap.size/\¬fB (ν.cut (aM s)) s bl:=by intro k bl J U y;obtain⟨cs,q⟩:=fx.1 U;exact⟨h.good.boxLt q y,ak9 k cs bl q J y⟩
 have Y:∀k n u bl,¬(ae k s.e).isSome->(ae k st.e).isSome->ν.ow k=some (n,u)->u.ownBlock=some bl->bl<w.heap.size/\¬fB (ν.cut (aM s)) s bl:=by intro k n u bl J U y z;obtain⟨cs,q⟩:=fx.1 U;exact⟨h.good.ownLt q y z,ala k cs n u bl q J y z⟩
 have GI:∀k bl,(ae k c.b).isSome->bo.bx k=some bl->fB (ν.cut (aM s)) s bl\/w.heap.size<=bl:=by intro k bl J U;obtain⟨cs,q⟩:=fx.1 J;obtain⟨K,us,el,g1,g2,_⟩:=a7.box k cs q;rw[U]at g1;cases g1;exact g2
 have JQ:∀k n u bl,(ae k c.e).isSome->bo.ow k=some (n,u)->u.ownBlock=some bl->fB (ν.cut (aM s)) s bl\/w.heap.size<=bl:=by intro k n u bl J U y;obtain⟨cs,q⟩:=fx.1 J;obtain⟨v',us,g1,g2,g3,_⟩:=a7.own k cs q;rw[U]at g1;cases g1;exact(g3 bl y).1
 have M:∀bl o,bo.A bl o->bl<w.heap.size->¬fB (ν.cut (aM s)) s bl->ν.A bl o:=by
  intro bl o J U y;rcases E.fresh bl o J with z|z|z
  ·exact z
  ·exact absurd z y
  ·simp only at z;omega
 have pV:c9 C {t:=st.t,b:=cM s.b st.b++c.b,e:=cM s.e st.e++c.e,n:=n',o:=o'} a w' (ν.join bo s c):=by
  refine h.over ar rfl ⟨a7.alt,fun k cs ab=>?_,fun k bs bl J U y z=>?_,fun g o fu=>?_,fun g W n n' u Z bl J U y z G di=>?_,fun g k n u bl J U y z G=>?_,fun k=>?_,fun bl aJ k j hO=>?_⟩
   ⟨E.os.trans h.fr.os,E.tape.trans h.fr.tape,E.output.trans h.fr.output,kE h.fr.size E.size,fun k ab hm=>?_,fun b o Q=>?_,fun b o Q=>?_,fun n b aA=>ar.bx _ _ trivial (h.fr.obj n b aA),h.fr.obn,
    fun m n u hm=>FH (h.fr.row m n u hm) (fun n u=>ar.ow _ n u trivial),h.fr.obr,fun k j bs dh b J U=>?_,fun k j b B=>?_,fun k j b B=>?_,fun b o M=>(ar.sh b o (h.fr.keep b o M).1).trans (h.fr.sh b o M)⟩ (fun k ab=>?_)
  ·rcases T2 k cs ab with⟨J,U⟩|J
   ·obtain⟨bl,us,el,g1,g2,g3,g4,g5⟩:=h.good.box k cs U;obtain⟨l,p⟩:=Dr k bl J (by simp[U]) g1;exact⟨bl,us,el,ar.bx _ _ trivial g1,g2,fun o Q=>g3 o (M bl o Q l p),by rw[NX bl l p];exact g4,rK ar g5⟩
   ·obtain⟨bl,us,el,g1,g2,g3,g4,g5⟩:=a7.box k cs J;exact⟨bl,us,el,h9.bx _ _ trivial g1,WU bl g2,g3,g4,rK h9 g5⟩
  ·rcases isB k bl J y with⟨i,a2,a3⟩|⟨i,a2⟩<;>rcases isB bs bl U z with⟨l,p,H⟩|⟨l,p⟩
   ·exact h.good.inj k bs bl a2 p a3 H
   ·obtain⟨O,N⟩:=Dr k bl i a2 a3;exact absurd rfl (CS bl (GI bs bl l p) bl O N)
   ·obtain⟨O,N⟩:=Dr bs bl l p H;exact absurd rfl (CS bl (GI k bl i a2) bl O N)
   ·exact a7.inj k bs bl i l a2 p
  ·rcases T3 g o fu with⟨J,U⟩|J
   ·obtain⟨u,us,g1,g2,g3,g4⟩:=h.good.own g o U;refine⟨u,us,by rw[NT g (by rw[g1];simp) J];exact g1,⟨g2.1,?_⟩,fun bl F=>?_,tU ar (fun bl F j Q=>?_) g4⟩
    ·rcases g2.2 with aC|⟨bb,cap,cur,f1,f2,f3,f4⟩
     ·exact .inl aC
     ·obtain⟨l,p⟩:=Y g _ u bb J (by simp[U]) g1 (by rw[f1];rfl);exact .inr ⟨bb,cap,cur,f1,f2,by rw[NX bb l p];exact f3,f4⟩
    ·obtain⟨l,p⟩:=Y g _ u bl J (by simp[U]) g1 F;exact⟨(g3 bl F).1,fun j Q=>(g3 bl F).2 j (M bl j Q l p)⟩
    ·obtain⟨l,p⟩:=Y g _ u bl J (by simp[U]) g1 F;exact M bl j Q l p
   ·obtain⟨u,us,g1,g2,g3,g4⟩:=a7.own g o J;exact⟨u,us,by rw[NS g (by simp[J])];exact g1,g2,fun bl F=>⟨WU bl (g3 bl F).1,(g3 bl F).2⟩,tU h9 (fun _ _ _ h=>h) g4⟩
  ·rcases Ik g _ J y with⟨i,a2,a3⟩|⟨i,a2⟩<;>rcases Ik W _ U z with⟨l,p,H⟩|⟨l,p⟩
   ·exact h.good.oinj g W n n' u Z bl a2 p a3 H G di
   ·obtain⟨O,N⟩:=Y g n u bl i a2 a3 G;exact absurd rfl (CS bl (JQ W n' Z bl l p di) bl O N)
   ·obtain⟨O,N⟩:=Y W n' Z bl l p H di;exact absurd rfl (CS bl (JQ g n u bl i a2 G) bl O N)
   ·exact a7.oinj g W n n' u Z bl i l a2 p G di
  ·rcases Ik g _ J y with⟨i,a2,a3⟩|⟨i,a2⟩<;>rcases isB k bl U G with⟨l,p,H⟩|⟨l,p⟩
   ·exact h.good.obx g k n u bl a2 p a3 z H
   ·obtain⟨O,N⟩:=Y g n u bl i a2 a3 z;exact absurd rfl (CS bl (GI k bl l p) bl O N)
   ·obtain⟨O,N⟩:=Dr k bl l p H;exact absurd rfl (CS bl (JQ g n u bl i a2 z) bl O N)
   ·exact a7.obx g k n u bl i l a2 z p
  ·
   cases L:(ν.join bo s c).bx k with
   |none=>exact .inl rfl
   |some bl=>
    right;cases si:(ν.join bo s c).ow k with
    |none=>rfl
    |some x=>
     exfalso;have al:(ν.bx k=some bl/\¬(ae k s.b).isSome/\¬(ae k c.b).isSome)\/bo.bx k=some bl:=by
      by_cases A:(ae k s.b).isSome\/(ae k c.b).isSome
      ·right;simpa[bd.join,A]using L
      ·left;simp only[not_or]at A;exact⟨by simpa[bd.join,A.1,A.2]using L,A.1,A.2⟩
     have aC:(ν.ow k=some x/\¬(ae k s.e).isSome/\¬(ae k c.e).isSome)\/bo.ow k=some x:=by
      by_cases A:(ae k s.e).isSome\/(ae k c.e).isSome
      ·right;simpa[bd.join,A]using si
      ·left;simp only[not_or]at A;exact⟨by simpa[bd.join,A.1,A.2]using si,A.1,A.2⟩
     rcases al with⟨i,a2,a3⟩|i<;>rcases aC with⟨l,p,H⟩|l
     ·rcases h.good.one k with f|f
      ·rw[f]at i;cases i
      ·rw[f]at l;cases l
     ·have v7:=adb k x l;have gd:(ae k s.e).isSome:=by
       cases k with
       |loc m=>rw[P.2 m]at v7;cases v7
       |obj m=>
        rcases cv m v7 with f|f
        ·exact f
        ·rw[(h.new (.obj m) ⟨trivial,f⟩).1]at i;cases i
      obtain⟨o,HZ⟩:=fx.1 (V k gd);obtain⟨v',us,g1,_⟩:=h.good.own k o HZ;rcases h.good.one k with f|f
      ·rw[f]at i;cases i
      ·rw[f]at g1;cases g1
     ·have zl:=ada k bl i;have gd:(ae k s.b).isSome:=by
       cases k with
       |loc m=>rw[P.1 m]at zl;cases zl
       |obj m=>
        rcases M7 m zl with f|f
        ·exact f
        ·rw[(h.new (.obj m) ⟨trivial,f⟩).2.1]at l;cases l
      obtain⟨cs,q⟩:=fx.1 (S k gd);obtain⟨K,us,el,g1,_⟩:=h.good.box k cs q;rcases h.good.one k with f|f
      ·rw[f]at g1;cases g1
      ·rw[f]at l;cases l
     ·rcases a7.one k with f|f
      ·rw[f]at i;cases i
      ·rw[f]at l;cases l
  ·have WI:∀k j,bo.tr k j bl->w.heap.size<=bl:=fun k j f=>by
    rcases(E.trb k j bl f).1 with a2|a2
    ·obtain⟨m,_,hm⟩:=(X k).2.2 j bl f;rw[hm]at a2;cases a2
    ·exact a2
   have hold:fB (ν.cut (aM s)) s bl->¬ν.tr k j bl:=by
    rintro(⟨bs,i,a2⟩|⟨g,n,u,i,a2,a3⟩) f
    ·exact h.good.otr bl (.inl ⟨bs,S bs i,(bd.cut_some a2).2⟩) k j f
    ·exact h.good.otr bl (.inr ⟨g,n,u,V g i,(bd.cut_someO a2).2,a3⟩) k j f
   have j0:fB (ν.cut (aM s)) s bl\/w.heap.size<=bl->¬ν.tr k j bl:=by
    rintro(J|J) f
    ·exact hold J f
    ·have:=(h.fr.trb k j bl f).2;omega
   rcases aJ with⟨bs,i,a2⟩|⟨g,n,u,i,a2,a3⟩
   ·rcases isB bs bl i a2 with⟨l,p,H⟩|⟨l,p⟩
    ·rcases hO with hO|hO
     ·exact h.good.otr bl (.inl ⟨bs,p,H⟩) k j hO
     ·have:=(Dr bs bl l p H).1;have:=WI k j hO;omega
    ·rcases hO with hO|hO
     ·exact j0 (GI bs bl l p) hO
     ·exact a7.otr bl (.inl ⟨bs,l,p⟩) k j hO
   ·rcases Ik g _ i a2 with⟨l,p,H⟩|⟨l,p⟩
    ·rcases hO with hO|hO
     ·exact h.good.otr bl (.inr ⟨g,n,u,p,H,a3⟩) k j hO
     ·have:=(Y g n u bl l p H a3).1;have:=WI k j hO;omega
    ·rcases hO with hO|hO
     ·exact j0 (JQ g n u bl l p a3) hO
     ·exact a7.otr bl (.inr ⟨g,n,u,l,p,a3⟩) k j hO
  ·have bP:k<w.heap.size:=Nat.lt_of_lt_of_le ab h.fr.size;rw[NX k bP fun F=>by
    rcases(pQ k F).1 with J|J
    ·exact hm J
    ·omega]
   exact h.fr.block k ab hm
  ·obtain⟨a8,bE⟩:=h.fr.keep b o Q;obtain⟨cq,eD⟩:=E.keep b o a8;exact⟨cq,eD.trans bE⟩
  ·rcases E.fresh b o Q with z|z|z
   ·exact h.fr.fresh b o z
   ·exact .inr (pQ b z).1
   ·exact .inr (.inr (kE h.fr.size z))
  ·rcases J with J|J<;>rcases U with U|U
   ·exact h.fr.trd k j bs dh b J U
   ·have i:=(h.fr.trb k j b J).2;have a2:=(E.trb bs dh b U).1;rcases a2 with a2|a2
    ·obtain⟨m,_,hm⟩:=(X bs).2.2 dh b U;rw[hm]at a2;cases a2
    ·simp only at a2;omega
   ·have i:=(h.fr.trb bs dh b U).2;have a2:=(E.trb k j b J).1;rcases a2 with a2|a2
    ·obtain⟨m,_,hm⟩:=(X k).2.2 j b J;rw[hm]at a2;cases a2
    ·simp only at a2;omega
   ·exact E.trd k j bs dh b J U
  ·rcases B with B|B
   ·exact⟨(h.fr.trb k j b B).1,Nat.lt_of_lt_of_le (h.fr.trb k j b B).2 E.size⟩
   ·refine⟨.inr ?_,(E.trb k j b B).2⟩;rcases(E.trb k j b B).1 with a2|a2
    ·obtain⟨m,_,hm⟩:=(X k).2.2 j b B;rw[hm]at a2;cases a2
    ·exact kE h.fr.size a2
  ·have key:ν.bx k=none/\ν.ow k=none/\¬(ae k c.b).isSome/\¬(ae k c.e).isSome:=by
    rcases B with B|B
    ·obtain⟨t1,t2⟩:=h.fr.trn k j b B;refine⟨t1,t2,fun f=>?_,fun f=>?_⟩
     ·cases k with
      |loc m=>rw[P.1 m]at f;cases f
      |obj m=>
       rcases M7 m f with G|G
       ·obtain⟨cs,q⟩:=fx.1 (S _ G);obtain⟨K,us,el,g1,_⟩:=h.good.box _ cs q;rw[t1]at g1;cases g1
       ·exact(h.new (.obj m) ⟨trivial,G⟩).2.2 j b B
     ·cases k with
      |loc m=>rw[P.2 m]at f;cases f
      |obj m=>
       rcases cv m f with G|G
       ·obtain⟨cs,q⟩:=fx.1 (V _ G);obtain⟨K,us,g1,_⟩:=h.good.own _ cs q;rw[t2]at g1;cases g1
       ·exact(h.new (.obj m) ⟨trivial,G⟩).2.2 j b B
    ·obtain⟨m,hm,rfl⟩:=(X k).2.2 j b B;obtain⟨t1,t2,_⟩:=als m hm;exact⟨t1,t2,by simp[P.1 m],by simp[P.2 m]⟩
   obtain⟨t1,t2,t3,t4⟩:=key;have t5:¬(ae k s.b).isSome:=fun f=>by obtain⟨cs,q⟩:=fx.1 (S _ f);obtain⟨K,us,el,g1,_⟩:=h.good.box _ cs q;rw[t1]at g1;cases g1
   have t6:¬(ae k s.e).isSome:=fun f=>by obtain⟨cs,q⟩:=fx.1 (V _ f);obtain⟨K,us,g1,_⟩:=h.good.own _ cs q;rw[t2]at g1;cases g1
   exact⟨by simp[bd.join,t3,t5,t1],by simp[bd.join,t4,t6,t2]⟩
  ·
   simp only at ab;obtain⟨ab,akt⟩:=dB k ab;have WN:(∀j b,¬ν.tr k j b)->∀j b,¬(ν.join bo s c).tr k j b:=fun J j b B=>by
    rcases B with B|B
    ·exact J j b B
    ·obtain⟨m,hm,e⟩:=(X k).2.2 j b B;exact akt m hm e
   cases k with
   |loc m=>obtain⟨gr,fl,hQ⟩:=h.new (.loc m) (Mm (dP _) (fun _ h=>List.mem_append_left _ h) ab);exact⟨by simp[bd.join,rq.1 m,P.1 m,gr],by simp[bd.join,rq.2 m,P.2 m,fl],WN hQ⟩
   |obj m=>
    simp only[fresh,kg,not_or,true_and]at ab;obtain⟨gr,fl,hQ⟩:=h.new (.obj m) ⟨trivial,ab.1⟩;have ba:¬(ae (.obj m) c.b).isSome:=fun f=>ab.2 (rH (.inl f));have bB:¬(ae (.obj m) c.e).isSome:=fun f=>ab.2 (rH (.inr f));have bX:¬(ae (.obj m) s.b).isSome:=fun f=>by obtain⟨cs,q⟩:=fx.1 (S _ f);obtain⟨K,us,el,g1,_⟩:=h.good.box _ cs q;rw[gr]at g1;cases g1
    have dq:¬(ae (.obj m) s.e).isSome:=fun f=>by obtain⟨cs,q⟩:=fx.1 (V _ f);obtain⟨v',us,g1,_⟩:=h.good.own _ cs q;rw[fl]at g1;cases g1
    exact⟨by simp[bd.join,ba,bX,gr],by simp[bd.join,bB,dq,fl],WN hQ⟩
 exact pV.put aL (Ae h9 aI)
inductive eV where
 |s (i:eY)
 |call (d:be Nat) (f:dQ) (xs:List dQ)
 |next (d:Nat) (x:dQ)
structure du where
 g:be (Nat×Bool)
 i:eV
def eY.dst:eY->be Nat
 | .v d _| .box d _ _| .alloc d _ _| .bsl d _ _ _| .app d _ _ _ _| .bslm d _ _ _ _| .appm d _ _ _ _ _| .mkmap d _| .range d _ _| .mks d _ _ _ _ _=>some d
 | .store _ _ _| .mput _ _ _ _| .storeE _ _ _=>none
def eV.dst:eV->be Nat
 | .s i=>i.dst
 | .call d _ _=>d
 | .next d _=>some d
def CallDo(P:cI)(n:Nat)(args:List af)(st:bp)(d:be Nat)(K:bp->Prop):Prop:=
 (∃s Q,hC (aM s) s.b st.b/\p9 (aM s) s.e st.e/\h0 s/\aH (aM s) args/\bH P n args s Q/\
  ∀r a,Q r a->((∀m,(ae (.obj m) a.b).isSome->(ae (.obj m) s.b).isSome\/ .obj m∉st.o)/\(∀m,(ae (.obj m) a.e).isSome->(ae (.obj m) s.e).isSome\/ .obj m∉st.o))/\K (after st s a d r))\/
 (∃s Q,hC (aM s) s.b st.b/\p9 (aM s) s.e st.e/\h0 s/\aH (aM s) args/\ .loc st.n∉st.o/\uh P n st.n args s Q/\
  ∀r a,Q r a->((∀m,(ae (.obj m) a.b).isSome->(ae (.obj m) s.b).isSome\/ .obj m∉st.o)/\(∀m,(ae (.obj m) a.e).isSome->(ae (.obj m) s.e).isSome\/ .obj m∉st.o))/\K {after st s a d r with n:=st.n+1})
def OL(st:bp)(d:Nat)(gl mk:aB)(since:Nat)(seen:List Nat)(last clock:Nat)(borns:List Nat)(kvs:List af)(K:bp->Prop):Prop:=
 (since=clock/\last=clock)/\((∀b∈borns,b∈seen)->K {st with t:=put d (.tuple [.bool false]) st.t})/\
 (∀b k v,n5 b borns kvs=some (.tuple [k,v])->b∉seen->K {st with t:=put d (.tuple [.bool true,k,v]) st.t,b:=cK gl [.hdi since (seen++[b]) last,.gmap mk] st.b})
def uC(st:bp)(d:Nat)(v:af)(K:bp->Prop):Prop:=
 match v with
 | .ptr gl 0=>match ae gl st.b with
  |some [.hdi since seen last,.gmap mk]=>match ae mk st.b with
   |some (.hdm clock borns::kvs)=>OL st d gl mk since seen last clock borns kvs K
   |_=>er
  |_=>er
 |_=>er
def vL(P:cI)(st:bp)(K:bp->Prop):eV->Prop
 | .next d x=>uC st d (cF st.t x) K
 | .s i=>match nA st i with
  |some (c,st')=>c/\K st'
  |none=>er
 | .call d f xs=>match cF st.t f with
  | .func n dH=>CallDo P n (cf (xs.map (cF st.t)++dH)) st d K
  |_=>er
def jb(P:cI):List du->bp->(bp->Prop)->Prop
 |[],st,K=>K st
 |⟨none,i⟩::r,st,K=>vL P st (fun st'=>jb P r st' K) i
 |⟨some (s,want),i⟩::r,st,K=>match get s st.t with
  | .bool b=>(b=want->vL P {st with t:=put s (.bool want) st.t} (fun st'=>jb P r st' K) i)/\(b= !want->jb P r {st with t:=e6 i.dst (.tuple []) (put s (.bool !want) st.t)} K)
  | .tuple []=>jb P r {st with t:=e6 i.dst (.tuple []) st.t} K
  |_=>er
def wF(N:Nat)(aT:List (Nat×ev))(i:eV)(o:Oper):Bool:=
 match i with
 | .s i=>FL N aT i o
 | .next d x=>match o.op with
  | .next it false=>o.dst==some d&&decide (d<N)&&eT x it
  |_=>false
 | .call d f xs=>match o.op with
  | .call ⟨.value a,args,_⟩=>o.dst==d&&j9 N d&&eT f a&&zW xs args.toList
  |_=>false
def DY(N:Nat)(aT:List (Nat×ev))(ops:List Oper)(g:du)(o:Oper):Bool:=
 (match g.g,o.guard with
  |none,none=>true
  |some (s,b),some (j,b2)=>b==b2&&((ops[j]?).bind (·.dst))==some s&&decide (s<N)&&o.dst==g.i.dst&&j9 N g.i.dst
  |_,_=>false)&&wF N aT g.i o
def lb(N:Nat)(aT:List (Nat×ev))(ops:List Oper):List du->List Oper->Bool
 |[],[]=>true
 |g::gs,o::os=>DY N aT ops g o&&lb N aT ops gs os
 |_,_=>false
def abg{w:World}{ν:bd}:∀{b bV:List af} {bm us:List Value},c7 w ν b bm->c7 w ν bV us->c7 w ν (b++bV) (bm++us)
 |[],bV,bm,us,h,a=>by simp only[c7]at h;subst h;simpa using a
 |p::b,bV,bm,us,h,a=>by simp only[c7]at h;obtain⟨u,c,rfl,J,U⟩:=h;simp only[b6,c7];exact⟨u,_,rfl,J,abg U a⟩
def yA.mono{P:cI}{f:FuncId}{bm:Array Value}{w:World}{R a:Ending->World->Prop}(h:yA P f bm w R)(bt:∀e w',R e w'->a e w'):yA P f bm w a:=by
 rcases h with⟨J,U⟩|⟨v,w',J,U⟩
 ·exact .inl ⟨J,U.mono bt⟩
 ·exact .inr ⟨v,w',J,bt _ _ U⟩
def T0{P:cI}{C:fq}{st:bp}{a:Act}{w:World}{ν:bd}(g:c9 C st a w ν){o:Oper}{Y:Operand}{args:Array Operand}{CZ:Array gQ}(z:o.op= .call ⟨.value Y,args,CZ⟩){d:be Nat}(aL:o.dst=d)(V:j9 C.N d=true)
  {n:Nat} {dH:List af} (aG:aU w ν (.func n dH) (a.eval Y)) {A:List af} (vS:c7 w ν A (args.toList.map a.eval)) {K:bp->Prop}
  (aw:∃(s:cT) (y:af->cT->Prop) (κ:be Nat) (n':Nat) (o':cT->List aB),hC (aM s) s.b st.b/\p9 (aM s) s.e st.e/\h0 s/\aH (aM s) (cf (A++dH))/\(∀(w:World) (ν:bd) (bm:Array Value),Good (fB ν s) w ν s.b s.e->pM ν s->c7 w ν (cf (A++dH)) bm.toList->
   yA P n bm w fun e w'=> ∃v r c bo,e= .returned v/\y r c/\aU w' bo r v/\Good (fun bl=>fB ν s bl\/w.heap.size<=bl) w' bo c.b c.e/\A6 κ bo c/\h0 c/\pC ⟨w,ν,fB ν s,0,cL s⟩ w' bo)/\
   (∀m,κ=some m->fresh st.n st.o (.loc m))/\(∀k r c,y r c->fresh n' (o' c) k->fresh st.n (st.o++cL c) k/\∀m,κ=some m->k≠ .loc m)/\
   ∀r c,y r c->((∀m,(ae (.obj m) c.b).isSome->(ae (.obj m) s.b).isSome\/ .obj m∉st.o)/\(∀m,(ae (.obj m) c.e).isSome->(ae (.obj m) s.e).isSome\/ .obj m∉st.o))/\K {after st s c d r with n:=n',o:=o' c})
  {W:Act->World->Prop} {Q:Exit->Act->World->Prop} (Z:∀st' br w' bo,K st'->c9 C st' br w' bo->W br w'):o.wp P a w W Q:=by
 obtain⟨s,y,κ,n',o',t,q,dj,h7,p,Uk,Uc,X⟩:=aw;simp only[aU]at aG;obtain⟨us,aN,hu⟩:=aG;have nV:c7 w (ν.cut (aM s)) (cf (A++dH)) ((args.map a.eval)++us).toList:=by refine Ad (oi.cut _ w ν) _ _ h7 (JL _ _ ?_);simpa using abg vS hu
 have tf:Good (fB (ν.cut (aM s)) s) w (ν.cut (aM s)) s.b s.e:=g.good.cut t q (fun bl _ h=>h);have hex:pM (ν.cut (aM s)) s:=by
  intro k;refine⟨?_,?_,?_⟩;rotate_left 2
  ·rintro j b ⟨f,ag⟩;obtain⟨t1,t2⟩:=g.fr.trn k j b ag;rcases f with f|f<;>obtain⟨x,l⟩:=fx.1 f
   ·obtain⟨bl,R,el,i,_⟩:=g.good.box k x (t k x l).1;rw[t1]at i;cases i
   ·obtain⟨v',R,i,_⟩:=g.good.own k x (q k x l).1;rw[t2]at i;cases i
  ·intro S;by_cases f:aM s k
   ·rw[bd.cut_bx f];rcases f with f|f
    ·rw[S]at f;cases f
    ·obtain⟨x,l⟩:=fx.1 f;obtain⟨v',R,i,_⟩:=g.good.own k x (q k x l).1;rcases g.good.one k with J|J
     ·exact J
     ·rw[J]at i;cases i
   ·exact(bd.cut_no f).1
  ·intro S;by_cases f:aM s k
   ·rw[bd.cut_ow f];rcases f with f|f
    ·obtain⟨x,l⟩:=fx.1 f;obtain⟨bl,R,el,i,_⟩:=g.good.box k x (t k x l).1;rcases g.good.one k with J|J
     ·rw[J]at i;cases i
     ·exact J
    ·rw[S]at f;cases f
   ·exact(bd.cut_no f).2.1
 rcases p w (ν.cut (aM s)) ((args.map a.eval)++us) tf hex nV with⟨⟨fn,g1,g2,g3⟩,p⟩|⟨v,w',p,N⟩
 ·obtain⟨code,U⟩:=fx.1 g2;have B:(execOp a.eval o).run P w= .ok (.enter n ((args.map a.eval)++us)) w:=by obtain⟨dst,op,ty,pos,Ru,xi⟩:=o;simp only at z;subst z;simp only[execOp,resolve,aN,Deferred.ofValue,gy,hG,gC,invoke,callFunc,run_program,g1,g3,U];simp
  unfold Oper.wp;rw[B];simp only[Oper.upon];refine p.mono fun e w' N=>?_;obtain⟨v,r,c,bo,rfl,u,L,O,M,G,H⟩:=N;obtain⟨⟨E,F⟩,ab⟩:=X r c u;rw[aL];exact Z _ _ _ _ ab (g.callK t q dj O M (fun m hm=>g.new _ (Uk m hm)) (n':=n') (o':=o' c) (fun k ab=>Uc k r c u ab) G H E F d V L)
 ·have B:(execOp a.eval o).run P w= .ok (.value v) w':=by obtain⟨dst,op,ty,pos,Ru,xi⟩:=o;simp only at z;subst z;simp only[execOp,resolve,aN,Deferred.ofValue,gy,hG,gC,invoke];simpa using p
  obtain⟨v2,r,c,bo,EE,u,L,O,M,G,H⟩:=N;cases EE;obtain⟨⟨E,F⟩,ab⟩:=X r c u;refine nG B ?_;rw[aL];exact Z _ _ _ _ ab (g.callK t q dj O M (fun m hm=>g.new _ (Uk m hm)) (n':=n') (o':=o' c) (fun k ab=>Uc k r c u ab) G H E F d V L)
def TZ{P:cI}{C:fq}{st:bp}{a:Act}{w:World}{ν:bd}(H:c9 C st a w ν){o:Oper}{t:Operand}{args:Array Operand}{M:Array gQ}(z:o.op= .call ⟨.value t,args,M⟩){d:be Nat}(G:o.dst=d)(x:j9 C.N d=true)
  {n:Nat} {dH:List af} (L:aU w ν (.func n dH) (a.eval t)) {u:List af} (y:c7 w ν u (args.toList.map a.eval)) {K:bp->Prop} (aw:CallDo P n (cf (u++dH)) st d K)
  {q:Act->World->Prop} {Q:Exit->Act->World->Prop} (B:∀st' br w' bo,K st'->c9 C st' br w' bo->q br w'):o.wp P a w q Q:=by
 refine T0 H z G x L y (K:=K) ?_ B;rcases aw with⟨s,c,p,l,j,i,g,f⟩|⟨s,c,p,l,j,i,A,g,f⟩
 ·refine⟨s,c,none,st.n,fun b=>st.o++cL b,p,l,j,i,fun w ν bm J U F=>(g w ν bm J U F).mono fun e w' E=>?_,fun m hm=>(by cases hm),fun k _ b _ ab=>⟨ab,fun m hm=>by cases hm⟩,f⟩;obtain⟨v,r,b,bo,g1,g2,g3,g4,g5,g6⟩:=E;exact⟨v,r,b,bo,g1,g2,g3,g4,g5.k,g6⟩
 ·refine⟨s,c,some st.n,st.n+1,fun b=>st.o++cL b,p,l,j,i,g,fun m hm=>(by cases hm;exact⟨dP _,A⟩),fun k _ b _ ab=>⟨Mm (Nat.le_succ _) (fun _ h=>h) ab,fun m hm=>?_⟩,f⟩;cases hm;rintro rfl;have:=ab.1;simp only at this;omega
def c9.drawn{C:fq}{st:bp}{a:Act}{w:World}{ν:bd}(b:c9 C st a w ν)(n:Nat):c9 C st a {w with drawn:=n} ν:=by
 have c:mz w ν {w with drawn:=n} ν:=⟨fun _ _ h=>⟨h,rfl⟩,fun _ _ _ h=>h,fun _ n u _ h=>⟨n,u,h,.inl ⟨rfl,rfl⟩⟩,fun _ _ _=>rfl,fun _ _ _ _ h=>h⟩;refine b.over c rfl ⟨b.good.alt,fun k cs ab=>?_,b.good.inj,fun g o a7=>?_,b.good.oinj,b.good.obx,b.good.one,b.good.otr⟩ ⟨b.fr.os,b.fr.tape,b.fr.output,b.fr.size,b.fr.block,b.fr.keep,b.fr.fresh,b.fr.obj,b.fr.obn,b.fr.row,b.fr.obr,b.fr.trd,b.fr.trb,b.fr.trn,b.fr.sh⟩ b.new
 ·obtain⟨bl,us,el,J,U,d,e,f⟩:=b.good.box k cs ab;exact⟨bl,us,el,J,U,d,e,rK c f⟩
 ·obtain⟨v,us,J,U,d,e⟩:=b.good.own g o a7;exact⟨v,us,J,U,d,tU c (fun _ _ _ h=>h) e⟩
def aip{α:Type}{l:List α}{p:α->Bool}(h:∀x∈l,p x=false):l.filter p=[]:=by rw[List.filter_eq_nil_iff];intro x a;simp[h x a]
def aio{α:Type}{l:List α}{p:α->Bool}(h:∀x∈l,p x=true):l.filter p=l:=List.filter_eq_self.2 h
def I1(r m since clock:Nat)(seen:Array Nat)(T1:Array (be MapEntry)):Sem Value:=do
 match T1[<-choose (.mapNext T1.size)]? with
 |some (some e)=>
  setObj r (.mapIter (some m) since (seen.push e.born) clock)
  pure (.tuple #[.bool true,e.key,e.val])
 |some none=>pure (.tuple #[.bool false])
 |none=>stuck "Next: no such candidate"
def abw{P:cI}{w:World}(r m since clock:Nat)(seen:Array Nat)(l:List (be MapEntry))(av:l≠[]):∃n x,x∈l/\(I1 r m since clock seen l.toArray).run P w=
  (match x with|some e=>(do setObj r (.mapIter (some m) since (seen.push e.born) clock);pure (.tuple #[.bool true,e.key,e.val]):Sem Value)|none=>pure (.tuple #[.bool false])).run P {w with drawn:=n}:=by
 have gk:0<l.length:=List.length_pos_iff.2 av;unfold I1;have key:∀i,i<l.length->∀w',((do match(l.toArray[i]?:be (be MapEntry))with
   |some (some e)=>setObj r (.mapIter (some m) since (seen.push e.born) clock);pure (.tuple #[.bool true,e.key,e.val])
   |some none=>pure (.tuple #[.bool false])
   |none=>stuck "Next: no such candidate" :Sem Value)).run P w'=((match l[i]! with|some e=>(do setObj r (.mapIter (some m) since (seen.push e.born) clock);pure (.tuple #[.bool true,e.key,e.val]):Sem Value)|none=>pure (.tuple #[.bool false]))).run P w':=by
  intro i hi w';have J:l.toArray[i]? =some l[i]!:=by simp[hi]
  rw[J];cases l[i]!<;>rfl
 by_cases aG:(Question.mapNext l.length).forced=true
 ·refine⟨w.drawn,l[0]!,by simp[gk],?_⟩;rw[<-key 0 gk];have aw:(choose (.mapNext l.length):Sem Nat).run P w= .ok 0 w:=by simp[aG]
  simp only[List.size_toArray,gy,aw,gC]
 ·refine⟨w.drawn+1,l[(w.tape w.drawn (.mapNext l.length))%l.length]!,by simp[Nat.mod_lt _ gk],?_⟩;rw[<-key _ (Nat.mod_lt _ gk)];have aw:(choose (.mapNext l.length):Sem Nat).run P w= .ok ((w.tape w.drawn (.mapNext l.length))%l.length) {w with drawn:=w.drawn+1}:=by simp[aG,Question.cut]
  simp only[List.size_toArray,gy,aw,gC]
def aqP{P:cI}{w:World}{bl mb:Nat}{seen:List Nat}{es:List MapEntry}{clock:Nat}{ty:gQ}(J:w.heap[bl]? =some (.mapIter (some mb) clock seen.toArray clock))(U:w.heap[mb]? =some (.map es.toArray clock))(d:∀e∈es,e.born<clock):
  ∃n,((∀e∈es,e.born∈seen)/\(Instr.next (.pointer (some ⟨bl,0,none⟩)) false ty).run P w= .ok (.tuple #[.bool false]) {w with drawn:=n})\/
   ∃e∈es,e.born∉seen/\(Instr.next (.pointer (some ⟨bl,0,none⟩)) false ty).run P w= .ok (.tuple #[.bool true,e.key,e.val]) {w with drawn:=n,heap:=w.heap.setIfInBounds bl (.mapIter (some mb) clock (seen++[e.born]).toArray clock)}:=by
 have j:(!seen.toArray.isEmpty&& !es.toArray.isEmpty&&es.toArray.all (fun e=>decide (e.born≥clock)))=false:=by
  cases es with
  |nil=>simp
  |cons e r=>have:=d e Ψ;simp;intro _ h;omega
 generalize c:(es.filter fun e=> !seen.contains e.born)=left;have f:(es.toArray.filter fun e=> !seen.toArray.contains e.born)=left.toArray:=by rw[<-c];simp
 have a:∀e∈left,e∈es/\e.born∉seen:=fun e he=>by rw[<-c]at he;have:=oW.1 he;exact⟨this.1,by simpa using this.2⟩
 have hold:(left.toArray.filter fun e=>decide (e.born<clock))=left.toArray:=by rw[List.filter_toArray,aio];intro e he;have:=d e (a e he).1;simp[this]
 have i:(left.toArray.filter fun e=>decide (e.born≥clock))= #[]:=by rw[List.filter_toArray,aip];intro e he;have:=d e (a e he).1;simp;omega
 have g:(Instr.next (.pointer (some ⟨bl,0,none⟩)) false ty).run P w=(I1 bl mb clock clock seen.toArray ((if left.toArray.isEmpty then #[none]else #[])++(left.toArray++ #[]).map some)).run P w:=by unfold Instr.next I1;simp only[gy,yj J,yj U,gC,j,f,hold,i,hT,if_false];rfl
 rw[g];by_cases b:left=[]
 ·subst b;obtain⟨n,x,g1,g2⟩:=abw (P:=P) (w:=w) bl mb clock clock seen.toArray [none] Ψ;refine⟨n,.inl ⟨fun e he=>?_,?_⟩⟩
  ·have:=List.filter_eq_nil_iff.1 c e he;simpa using this
  ·simp only[List.mem_singleton]at g1;subst g1;have aw:((if(([]:List MapEntry).toArray).isEmpty then #[none]else #[])++(([]:List MapEntry).toArray++ #[]).map some)=[none].toArray:=Ψ
   rw[aw,g2];rfl
 ·have aw:((if left.toArray.isEmpty then #[none]else #[])++(left.toArray++ #[]).map some)=(left.map some).toArray:=by simp[b]
  obtain⟨n,x,g1,g2⟩:=abw (P:=P) (w:=w) bl mb clock clock seen.toArray (left.map some) (by simpa using b);simp only[hb]at g1;obtain⟨e,he,rfl⟩:=g1;refine⟨n,.inr ⟨e,(a e he).1,(a e he).2,?_⟩⟩;rw[aw,g2];simp only[gy];rw[P7 (w:={w with drawn:=n}) (o:= .mapIter (some mb) clock seen.toArray clock) J];simp
def LV:∀{borns:List Nat} {us:List Value} {e:MapEntry},e∈gS borns us->e.born∈borns
 |[],us,e,h=>by simp[gS]at h
 |b::a,[],e,h=>by simp[gS]at h
 |b::a,[_],e,h=>by simp[gS]at h
 |b::a,k::v::us,e,h=>by
  simp only[gS,gJ]at h;rcases h with rfl|h
  ·simp
  ·exact qf _ (LV h)
def UC:∀{borns:List Nat} {kvs:List af} {us:List Value},kvs.length=2*borns.length->us.length=kvs.length->∀{b:Nat},b∈borns->∃e∈gS borns us,e.born=b
 |[],_,_,_,_,b,a=>by simp at a
 |b2::c,kvs,[],J,U,b,a=>by rw[J]at U;simp at U
 |b2::c,kvs,[_],J,U,b,a=>by rw[J]at U;simp at U;omega
 |b2::c,kvs,k::v::us,J,U,b,a=>by
  rcases gJ.1 a with rfl|a
  ·exact⟨⟨k,v,b⟩,by simp[gS],rfl⟩
  ·obtain⟨e,g1,g2⟩:=UC (kvs:=kvs.drop 2) (us:=us) (borns:=c) (by simp at J⊢;omega) (by simp at J U⊢;omega) a;exact⟨e,by simp[gS,g1],g2⟩
def Yt{w:World}{ν:bd}:∀{borns:List Nat} {kvs:List af} {us:List Value},kvs.length=2*borns.length->borns.Pairwise (· < ·)->c7 w ν kvs us->∀{e:MapEntry},e∈gS borns us->∃k v,n5 e.born borns kvs=some (.tuple [k,v])/\aU w ν k e.key/\aU w ν v e.val
 |[],_,_,_,_,_,e,h=>by simp[gS]at h
 |b::a,[],us,J,_,_,e,_=>by simp at J
 |b::a,[_],us,J,_,_,e,_=>by simp at J;omega
 |b::a,k::v::kvs,us,J,U,c,e,h=>by
  simp only[c7]at c;obtain⟨m,n,rfl,g,l,j,rfl,f,d⟩:=c;simp only[gS,gJ]at h;rw[oh]at U;rcases h with rfl|h
  ·exact⟨k,v,by simp[n5],g,f⟩
  ·obtain⟨bs,v',g1,g2,g3⟩:=Yt (by simp at J;omega) U.2 d h;have i:b≠e.born:=Nat.ne_of_lt (U.1 _ (LV h));exact⟨bs,v',by simp[n5,i,g1],g2,g3⟩
def anc{P:cI}{C:fq}{st:bp}{a:Act}{w:World}{ν:bd}(c:c9 C st a w ν){o:Oper}{it:Operand}(q:o.op= .next it false){d:Nat}(F:o.dst=some d)(i:j9 C.N (some d)=true){v:af}(E:aU w ν v (a.eval it)){K:bp->Prop}(he:uC st d v K)
  {m:Act->World->Prop} {Q:Exit->Act->World->Prop} (x:∀st' br w' bo,K st'->c9 C st' br w' bo->m br w'):o.wp P a w m Q:=by
 unfold uC at he;split at he
 ·rename_i gl;split at he
  ·rename_i since seen last mk l;split at he
   ·rename_i clock borns kvs G;obtain⟨⟨rfl,rfl⟩,W,L⟩:=he;simp only[aU]at E;obtain⟨bl,A,M⟩:=E;obtain⟨Y,us,el,B,bB,Z,g,z⟩:=c.good.box gl _ l;rw[A]at B;cases B;obtain⟨mb,ms,N,m1,m2,m3,m4,m5⟩:=c.good.box mk _ G;simp only[k3,c7]at z;obtain⟨u,b1,hu,⟨O,y,rfl⟩,rfl⟩:=z;rw[m1]at y;cases y;simp only[l1,hu]at g;simp only[l1]at m4;simp only[k3]at m5;obtain⟨n,H⟩:=aqP (P:=P) (ty:=o.type) g m4 (fun e he=>m5.2.lt _ (LV he));have r:∀v' w',(Instr.next (.pointer (some ⟨bl,0,none⟩)) false o.type).run P w= .ok v' w'->(execOp a.eval o).run P w= .ok (.value v') w':=by intro v' w' t;obtain⟨dst,op,ty,pos,Ru,X⟩:=o;simp only at q t;subst q;simp only[execOp,M];exact Ga t
    rcases H with⟨J,U⟩|⟨e,J,U,R⟩
    ·refine nG (r _ _ U) ?_;rw[F];refine x _ _ _ _ (W fun b V=>?_) ((c.drawn n).put i (p:= .tuple [.bool false]) (by simp[aU,c7]));obtain⟨e,f1,f2⟩:=UC m5.2.len (P2 m5.1) V;rw[<-f2];exact J e f1
    ·obtain⟨k,v,f1,f2,f3⟩:=Yt m5.2.len m5.2.inc m5.1 J;refine nG (r _ _ R) ?_;rw[F];have f:=((c.drawn n).setBox (w':={w with drawn:=n,heap:=w.heap.setIfInBounds bl (.mapIter (some mb) last (seen++[e.born]).toArray last)}) l A (cs':=[.hdi last (seen++[e.born]) last,.gmap mk]) (us:=us) (el:=el) rfl rfl rfl
      (fun j S=>Array.getElem?_setIfInBounds_ne (Ne.symm S)) Ψ (by simp[l1,hu,(Array.getElem?_eq_some_iff.1 g).1]) (by simp only[k3,c7];exact⟨_,_,hu,by simp only[aU];exact⟨mb,m1,rfl⟩,rfl⟩))
     refine x _ _ _ _ (L e.born k v f1 U) (f.1.put i (p:= .tuple [.bool true,k,v]) ?_);simp only[aU];refine⟨_,rfl,?_⟩;simp only[c7];have s:mz w ν {w with drawn:=n} ν:=⟨fun _ _ h=>⟨h,rfl⟩,fun _ _ _ h=>h,fun _ n u _ h=>⟨n,u,h,.inl ⟨rfl,rfl⟩⟩,fun _ _ _=>rfl,fun _ _ _ _ h=>h⟩;exact⟨_,_,rfl,by simp[aU],_,_,rfl,Ae f.2 (Ae s f2),_,_,rfl,Ae f.2 (Ae s f3),rfl⟩
   ·exact he.elim
  ·exact he.elim
 ·exact he.elim
def UG{P:cI}{aT:List (Nat×ev)}(p:h1 P aT=true){C:fq}{st:bp}{a:Act}{w:World}{ν:bd}(b:c9 C st a w ν){i:eV}{o:Oper}(ar:wF C.N aT i o=true){K:bp->Prop}(he:vL P st K i)
  {k:Act->World->Prop} {Q:Exit->Act->World->Prop} (g:∀st' br w' bo,K st'->c9 C st' br w' bo->k br w'):o.wp P a w k Q:=by
 cases i with
 |s i=>
  simp only[vL]at he;split at he
  ·rename_i c st' l;exact aqS p b (by simpa only[wF]using ar) l he.1 fun br w' bo h=>g _ _ _ _ he.2 h
  ·exact he.elim
 |next d x=>
  simp only[vL]at he;simp only[wF]at ar;split at ar
  ·rename_i it e;simp only[cR,ey,gz]at ar;obtain⟨⟨J,U⟩,j⟩:=ar;exact anc b e J (by simpa[j9]using U) (e4 b j) he g
  ·cases ar
 |call d f xs=>
  simp only[vL]at he;simp only[wF]at ar;split at ar
  ·rename_i r args t e;simp only[cR,ey]at ar;obtain⟨⟨⟨J,U⟩,j⟩,m⟩:=ar;split at he
   ·rename_i n dH q;have:=e4 b j;rw[q]at this;exact TZ b e J U this (FE b m) he g
   ·exact he.elim
  ·cases ar
def PU{C:fq}{st:bp}{a:Act}{w:World}{ν:bd}(h:c9 C st a w ν){s:Nat}{b:Bool}(c:get s st.t= .bool b):c9 C {st with t:=put s (.bool b) st.t} a w ν:=by
 refine⟨h.good,h.fr,h.defers,h.size,fun i=>?_,h.new⟩;have:=h.slot i;simp only[qw];split
 ·rename_i e;subst e;rw[<-c];exact this
 ·exact this
def ade{C:fq}{st:bp}{a:Act}{w:World}{ν:bd}(h:c9 C st a w ν){ops:Array Oper}{j s:Nat}(f:(ops.toList[j]?).bind (·.dst)=some s)(l:s<C.N):
  (∀b,get s st.t= .bool b->yielded ops a.tmps j=some b)/\(get s st.t= .tuple []->yielded ops a.tmps j=none):=by
 have e:s<a.tmps.size:=by rw[h.size];exact l
 have c:=h.slot s;have i:a.tmps.getD s undef=a.tmps[s]:=by simp[Array.getD,e]
 rw[i]at c;have g:yielded ops a.tmps j=match a.tmps[s]with| .bool b=>some b|_=>none:=by unfold yielded;rw[vn]at f;rw[f];simp only[lI,Array.getElem?_eq_getElem e];cases a.tmps[s]<;>rfl
 constructor
 ·intro b d;rw[d]at c;simp only[aU]at c;rw[g,c]
 ·intro d;rw[d]at c;simp only[aU,c7]at c;obtain⟨us,k,m⟩:=c;rw[g,k]
def UK{P:cI}{aT:List (Nat×ev)}(m:h1 P aT=true){C:fq}{ops:Array Oper}{K:bp->Prop}{Q:Exit->Act->World->Prop}(p:∀st' br w' bo,K st'->c9 C st' br w' bo->Q .normal br w'):
  ∀(gs:List du) (os:List Oper) (k:Nat),(∀j,os[j]? =ops[k+j]?)->lb C.N aT ops.toList gs os=true->∀(st:bp) (a:Act) (w:World) (ν:bd),jb P gs st K->c9 C st a w ν->wpOps P ops Q (List.range' k gs.length) a w
 |[],[],k,_,_,st,a,w,ν,he,d=>by simp only[List.length_nil,List.range'_zero,wpOps];exact p _ _ _ _ he d
 |[],_::_,_,_,ab,_,_,_,_,_,_=>by simp[lb]at ab
 |_::_,[],_,_,ab,_,_,_,_,_,_=>by simp[lb]at ab
 |g::gs,o::os,k,v,ab,st,a,w,ν,he,d=>by
  simp only[lb,cR]at ab;have E:ops[k]? =some o:=by simpa using(v 0).symm
  have G:∀j,os[j]? =ops[k+1+j]?:=fun j=>by have:=v (j+1);simpa[Nat.add_assoc,Nat.add_comm 1 j]using this
  simp only[mw,List.range'_succ,wpOps,E];have i:∀st' br w' bo,jb P gs st' K->c9 C st' br w' bo->wpOps P ops Q (List.range' (k+1) gs.length) br w':=fun st' br w' bo J U=>UK m p gs os (k+1) G ab.2 st' br w' bo J U;obtain⟨B,L⟩:=g;have a7:=ab.1;simp only[DY,cR]at a7;obtain⟨h,n⟩:=a7;cases B with
  |none=>
   cases c:o.guard with
   |some x=>simp[c]at h
   |none=>
    have hw:qd o (yielded ops a.tmps)=true:=by simp[qd,c]
    rw[if_pos hw];simp only[jb]at he;exact .inl (UG m d n he i)
  |some H=>
   obtain⟨s,want⟩:=H;cases c:o.guard with
   |none=>simp[c]at h
   |some x=>
    obtain⟨j,b2⟩:=x;simp only[c,cR,ey,gz]at h;obtain⟨⟨⟨⟨rfl,U⟩,F⟩,u⟩,r⟩:=h;obtain⟨A,y⟩:=ade d U F;simp only[jb]at he;split at he
    ·rename_i b f;have l:=A b f;by_cases e:b=want
     ·subst e;have hw:qd o (yielded ops a.tmps)=true:=by simp[qd,c,l]
      rw[if_pos hw];exact .inl (UG m (PU d f) n (he.1 rfl) i)
     ·have hw:¬(qd o (yielded ops a.tmps)=true):=by simp[qd,c,l,e]
      rw[if_neg hw];have q:b= !want:=by cases b<;>cases want<;>simp at e⊢
      have z:c9 C {st with t:=put s (.bool !want) st.t} a w ν:=PU d (by rw[f,q]);rw[u];exact i _ _ _ _ (he.2 q) (z.put r (by simp[aU,c7,undef]))
    ·rename_i f;have l:=y f;have hw:¬(qd o (yielded ops a.tmps)=true):=by simp[qd,c,l]
     rw[if_neg hw,u];exact i _ _ _ _ he (d.put r (by simp[aU,c7,undef]))
    ·exact he.elim
structure dE where
 t:Nat->af
 b:aB->be (List af)
 e:aB->be dW
 F:aB->Prop
structure lL where
 d:be Nat
 p:af
 bw:List (aB×List af)
 ew:List (aB×dW)
 rm:be aB
def jw{α:Type}(l:List (aB×α))(f:aB->be α):aB->be α:=fun k=>match ae k l with|some x=>some x|none=>f k
def dE.do(A:dE)(x:lL):dE:={t:=fun i=>if x.d=some i then x.p else A.t i,b:=jw x.bw A.b,e:=jw x.ew A.e,F:=fun k=>A.F k/\x.rm≠some k}
structure lL.apart (x y:lL):Prop where
 d:∀i,x.d=some i->y.d≠some i
 b:∀k,(ae k x.bw).isSome->ae k y.bw=none
 e:∀k,(ae k x.ew).isSome->ae k y.ew=none
def dE.do_comm(A:dE){x y:lL}(h:x.apart y):(A.do x).do y=(A.do y).do x:=by
 simp only[dE.do,dE.mk.injEq];refine⟨?_,?_,?_,?_⟩
 ·funext i;by_cases J:x.d=some i
  ·have:=h.d i J;simp[J,this]
  ·simp[J]
 ·funext k;simp only[jw];cases a:ae k x.bw with
  |none=>cases ae k y.bw<;>rfl
  |some u=>rw[h.b k (by simp[a])]
 ·funext k;simp only[jw];cases a:ae k x.ew with
  |none=>cases ae k y.ew<;>rfl
  |some u=>rw[h.e k (by simp[a])]
 ·funext k;exact propext ⟨fun h=>⟨⟨h.1.1,h.2⟩,h.1.2⟩,fun h=>⟨⟨h.1.1,h.2⟩,h.1.2⟩⟩
def dY(t:Nat->af):dQ->af
 | .t i=>t i
 | .c p=>p
def tE(b:aB->be (List af))(e:aB->be dW)(agg:Bool)(sz:Nat):af->be (Prop×af)
 | .rptr a k n i f=>Af agg sz a n i f (e k)
 | .ptr k off=>
  match b k with
  |some cs=>if agg then some (gY cs=true/\off+sz<=cs.length,.agg ((cs.drop off).take sz))else(cs[off]?).map fun p=>(gY cs=true,p)
  |none=>none
 | .eptr p=>if agg then some (qJ sz p,p)else some (eU p=true/\cells p=[p],p)
 |_=>none
def yP(t:Nat->af):List af->List (Nat×Nat×dQ)->be (Prop×List af)
 |cs,[]=>some (True,cs)
 |cs,(off,sz,x)::r=>
  match yP t (nB cs off (cells (dY t x))) r with
  |some (c,cs')=>some ((eU (dY t x)=true/\(cells (dY t x)).length=sz/\off+sz<=cs.length)/\c,cs')
  |none=>none
def qZ(t:Nat->af)(b:aB->be (List af))(e:aB->be dW):gR->be (Prop×af)
 | .mov x=>some (True,dY t x)
 | .pick c x y=>Jg (dY t c) (dY t x) (dY t y)
 | .load agg sz x=>tE b e agg sz (dY t x)
 | .faddr off agg sz x=>sX off agg sz (dY t x)
 | .fld off agg sz x=>vP off agg sz (dY t x)
 | .iaddr sz x i=>BP sz (dY t x) (dY t i)
 | .sidx x i=>J0 (dY t x) (dY t i)
 | .ssl x lo hi=>J5 (dY t x) (lo.map (dY t)) (hi.map (dY t))
 | .lsl sz x lo hi=>IK sz (dY t x) (lo.map (dY t)) (hi.map (dY t))
 | .bin op wr x y=>Dp op wr (dY t x) (dY t y)
 | .notB x=>I3 (dY t x)
 | .neg x=>IZ (dY t x)
 | .conv k x=>G5 k (dY t x)
 | .ext i x=>A7 i (dY t x)
 | .len x=>B2 (dY t x)
 | .slen x=>FR (dY t x)
 | .build zero parts=>(yP t zero parts).map fun(c,cs)=>(c,.agg cs)
 | .nck x=>Ch (dY t x)
 | .min2 x y=>IW (dY t x) (dY t y)
 | .mkf n xs=>some (True,.func n (xs.map (dY t)))
 | .mget a zero ok x k=>pe b a zero ok (dY t x) (dY t k)
 | .ment x=>qM b (dY t x)
 | .mlen x=>Cg b (dY t x)
 | .beq neg d x y=>ju neg d (dY t x) (dY t y)
 | .max2 x y=>IP (dY t x) (dY t y)
 | .mkif n x=>some (True,.iface n (dY t x))
 | .loadB agg sz x=>tE b (fun _=>none) agg sz (dY t x)
 | .mgetB a zero ok x k=>pe b a zero ok (dY t x) (dY t k)
 | .loadZ agg sz x=>DW agg sz (dY t x)
 | .b2s x=>GD (dY t x)
structure my (st:bp) (A:dE):Prop where
 t:∀i,get i st.t=A.t i
 b:∀k,ae k st.b=A.b k
 e:∀k,ae k st.e=A.e k
def jK{st:bp}{A:dE}(h:my st A)(x:dQ):cF st.t x=dY A.t x:=by
 cases x
 ·exact h.t _
 ·rfl
def vN{st:bp}{A:dE}(h:my st A):cF st.t=dY A.t:=funext (jK h)
def amm{st:bp}{A:dE}(h:my st A)(agg:Bool)(sz:Nat)(p:af):n3 st.b st.e agg sz p=tE A.b A.e agg sz p:=by
 cases p<;>simp only[n3,tE]
 ·rw[h.b];try rfl
 ·rw[h.e]
def amn{st:bp}{A:dE}(h:my st A)(agg:Bool)(sz:Nat)(p:af):n3 st.b [] agg sz p=tE A.b (fun _=>none) agg sz p:=by
 cases p<;>simp only[n3,tE]
 ·rw[h.b];try rfl
 ·rfl
def RV{st:bp}{A:dE}(h:my st A):∀(parts:List (Nat×Nat×dQ)) (cs:List af),vH st.t cs parts=yP A.t cs parts
 |[],cs=>rfl
 |(off,sz,x)::r,cs=>by simp only[vH,yP,jK h,RV h r];try rfl
def acm{st:bp}{A:dE}(h:my st A)(i:gR):h2 st i=qZ A.t A.b A.e i:=by have a:(fun k=>ae k st.b)=A.b:=funext h.b;cases i<;>simp only[h2,qZ,vN h,amm h,amn h,RV h,a]
def ij:dQ->List Nat
 | .t i=>[i]
 | .c _=>[]
def Ph:be dQ->List Nat
 |some x=>ij x
 |none=>[]
def gR.looks:gR->List Nat
 | .mov x| .load _ _ x| .loadB _ _ x| .loadZ _ _ x| .faddr _ _ _ x| .fld _ _ _ x| .notB x| .neg x| .conv _ x| .ext _ x| .len x| .slen x| .nck x| .ment x| .mlen x| .mkif _ x| .b2s x=>ij x
 | .pick c x y=>ij c++ij x++ij y
 | .iaddr _ x i| .sidx x i=>ij x++ij i
 | .ssl x lo hi| .lsl _ x lo hi=>ij x++Ph lo++Ph hi
 | .bin _ _ x y| .min2 x y| .max2 x y| .beq _ _ x y=>ij x++ij y
 | .build _ a=>a.flatMap fun p=>ij p.2.2
 | .mkf _ xs=>xs.flatMap ij
 | .mget _ _ _ x k| .mgetB _ _ _ x k=>ij x++ij k
def eY.looks:eY->List Nat
 | .v _ i=>i.looks
 | .box _ _ x=>ij x
 | .alloc _ _ _=>[]
 | .store _ x y=>ij x++ij y
 | .storeE _ x y=>ij x++ij y
 | .bsl _ _ _ xs=>xs.flatMap ij
 | .app _ _ _ x y=>ij x++ij y
 | .bslm _ _ _ _ xs=>xs.flatMap ij
 | .mks _ _ _ _ _ x=>ij x
 | .appm _ _ _ _ x y=>ij x++ij y
 | .mkmap _ _=>[]
 | .mput _ x k y=>ij x++ij k++ij y
 | .range _ _ x=>ij x
def eV.looks:eV->List Nat
 | .s i=>i.looks
 | .call _ f xs=>ij f++xs.flatMap ij
 | .next _ x=>ij x
def du.looks(g:du):List Nat:=(match g.g with|some (s,_)=>[s]|none=>[])++g.i.looks
def r3(l:List Nat)(t t':Nat->af):Prop:= ∀i∈l,t i=t' i
def hp{t t':Nat->af}{x:dQ}(h:r3 (ij x) t t'):dY t x=dY t' x:=by
 cases x
 ·exact h _ (by simp[ij])
 ·rfl
def k7{l a:List Nat}{t t':Nat->af}(h:r3 (l++a) t t'):r3 l t t'/\r3 a t t':=⟨fun i hi=>h i (by simp[hi]),fun i hi=>h i (by simp[hi])⟩
def Hj{t t':Nat->af}{x:be dQ}(h:r3 (Ph x) t t'):x.map (dY t)=x.map (dY t'):=by
 cases x
 ·rfl
 ·simp[hp h]
def RU{t t':Nat->af}:∀{parts:List (Nat×Nat×dQ)} {cs:List af},r3 (parts.flatMap fun p=>ij p.2.2) t t'->yP t cs parts=yP t' cs parts
 |[],cs,_=>rfl
 |(off,sz,x)::r,cs,h=>by simp only[List.flatMap_cons]at h;obtain⟨J,U⟩:=k7 h;simp only[yP,hp J,RU U]
def IN{t t':Nat->af}:∀{xs:List dQ},r3 (xs.flatMap ij) t t'->xs.map (dY t)=xs.map (dY t')
 |[],_=>rfl
 |x::xs,h=>by simp only[List.flatMap_cons]at h;obtain⟨J,U⟩:=k7 h;simp[hp J,IN U]
def gR.isLoad:gR->Bool
 | .load _ _ _=>true
 | .loadB _ _ _=>true
 | .mgetB _ _ _ _ _=>true
 | .mget _ _ _ _ _=>true
 | .ment _=>true
 | .mlen _=>true
 |_=>false
def ar0{t t':Nat->af}{b b2:aB->be (List af)}{e f:aB->be dW}{i:gR}(h:r3 i.looks t t')(a:i.isLoad=false):qZ t b e i=qZ t' b2 f i:=by
 cases i<;>simp only[gR.looks]at h<;>simp only[qZ];case load agg sz x=>simp[gR.isLoad]at a
 case loadB agg sz x=>simp[gR.isLoad]at a
 case pick c x y=>obtain⟨J,d⟩:=k7 h;obtain⟨J,U⟩:=k7 J;rw[hp J,hp U,hp d]
 case iaddr=>obtain⟨J,U⟩:=k7 h;rw[hp J,hp U]
 case sidx=>obtain⟨J,U⟩:=k7 h;rw[hp J,hp U]
 case ssl=>obtain⟨J,d⟩:=k7 h;obtain⟨J,U⟩:=k7 J;rw[hp J,Hj U,Hj d]
 case lsl=>obtain⟨J,d⟩:=k7 h;obtain⟨J,U⟩:=k7 J;rw[hp J,Hj U,Hj d]
 case bin=>obtain⟨J,U⟩:=k7 h;rw[hp J,hp U]
 case min2=>obtain⟨J,U⟩:=k7 h;rw[hp J,hp U]
 case build=>rw[RU h]
 case mkf=>rw[IN h]
 case mget=>simp[gR.isLoad]at a
 case mgetB=>simp[gR.isLoad]at a
 case ment=>simp[gR.isLoad]at a
 case mlen=>simp[gR.isLoad]at a
 case max2=>obtain⟨J,U⟩:=k7 h;rw[hp J,hp U]
 case beq=>obtain⟨J,U⟩:=k7 h;rw[hp J,hp U]
 all_goals rw[hp h]
end
end Go.Pv
