/- Regions that draw their order, I: abstract states as functions, effects, and what an instruction does to them. -/
import Derived.WalkKit
import Derived.Orders
import Derived.KernelRfl
import Derived.IntWalk
import Derived.Laws.StructEq
import Derived.ChangeKeysEq
import Derived.MapKept
import Derived.ArgAppend
import Derived.Laws.OwnMore
set_option linter.all false
set_option maxHeartbeats 4000000
set_option maxRecDepth 4000
namespace Go
def bi{p:Prop}(h:p:=by kernel_rfl):p:=h
def bv{p:Prop}(h:p:=by simp only[aQ,aD,aE,b7,ca];exact aX):p:=h
def ci{p:Prop}(h:p:=by first|exact cx _|exact cx ‹_› _):p:=h
def co{p:Prop}(h:p:=by simp[aQ,aD,aE]):p:=h
def dl{p:Prop}(h:p:=by simp[az]):p:=h
def d6{p:Prop}(h:p:=by simp;omega):p:=h
def d7{p:Prop}(h:p:=by simp[aM,ae,aQ,aD,aE]):p:=h
def d8{p:Prop}(h:p:=by first|exact je _|exact je ‹_› _):p:=h
def d9{p:Prop}(h:p:=by simp only[gU,aD,aE,b7,ca];exact aX):p:=h
def Ω{p:Prop}(h:p:=by omega):p:=h
def Ψ{p:Prop}(h:p:=by simp):p:=h
end Go
open Array renaming getElem?_toList->vm
open BitVec renaming ofInt->rP
open Bool renaming and_eq_true->cQ,eq_iff_iff->qZ,false_eq_true->hR,not_eq_true'->sO
open ByteArray renaming empty->atr,ext->ats,push->ax8,size->ax9
open Go renaming Program->cI,TypeId->gT
open Go.ByteArray renaming toList_eq->att
open Go.IntKind renaming i64->vn
open Go.IntWalk renaming i64_in->pt
open Go.Op renaming bytesLess->iu
open Go.Region renaming wanted->qd
open Go.Result renaming andThen_ok->gC
open Go.Sem renaming run_bind->gx,run_pure->hA
open Go.Value renaming cells->pw,ownBlock->pz
open Go.Value.pointer renaming injEq->ayg
open Go.World.grownBy renaming refl->atw
open List renaming all_eq_true->j6,cons_append->b7,getElem?_append_left->rR,getElem?_eq_getElem->cl,getElem?_eq_none->q0,getElem?_eq_some_iff->fH,length_append->qe,length_cons->mV,length_drop->ud,map_cons->gY,mem_append->kd,mem_cons->gI,mem_cons_of_mem->q1,mem_filter->oW,mem_map->gZ,pairwise_cons->og,take->mW,take_length->jA,take_of_length_le->iv
open List.cons renaming injEq->rQ
open Nat renaming add_mul->q3,le_refl->dO,le_trans->kD,mul_le_mul_right->rT
open Option renaming bind_some->lH,isSome_iff_exists->fx,isSome_none->kf,map_eq_some_iff->hq,map_some->pB
open Option.some renaming injEq->dU
open Prod.mk renaming injEq->jo
open _root_ renaming False->eu,Option->bd,UInt8->cS,and_true->jd,beq_iff_eq->ey,congrArg->fy,decide_eq_true_eq->gy
namespace Go.Pv
section
open Go Go.RowKit
inductive aB where
 |loc (s:Nat)
 |obj (n:Nat)
 deriving DecidableEq,Inhabited
inductive jF where
 |no
 |nil
 |own (k:aB)
 |tr (k:aB) (j:Nat)
 |lo (k:aB)
 deriving DecidableEq,Inhabited
inductive af where
 |junk
 |int (k:IntKind) (n:Int)
 |bool (b:Bool)
 |str (s:List cS)
 |slice (sz:Nat) (tag:jF) (xs:List af)
 |agg (cs:List af)
 |ptr (key:aB) (off:Nat)
 |eptr (x:af)
 |iface (t:Nat) (x:af)
 |nilp
 |tuple (bm:List af)
 |func (f:Nat) (dH:List af)
 |gmap (key:aB)
 |row (sz:Nat) (key:aB) (n:Nat)
 |rptr (sz:Nat) (key:aB) (n i f:Nat)
 |hdm (clock:Nat) (borns:List Nat)
 |hdi (since:Nat) (seen:List Nat) (last:Nat)
 |cst (v:Value)
 deriving Inhabited
structure bc where
 A:Nat->Nat->Prop
 bx:aB->bd Nat
 ow:aB->bd (Nat×Value)
 tr:aB->Nat->Nat->Prop
def lim:Nat:=68719476736
def kY(w:World)(A:Nat->Nat->Prop)(b:Nat):Nat->List Value->Prop
 |_,[]=>True
 |off,u::us=>(A b off/\w.cell? ⟨b,off,none⟩=some u)/\kY w A b (off+1) us
def shape(w:World)(b:Nat):bd (Nat×gT×(Nat×Nat)):=
 match w.heap[b]? with
 |some (.cells cur el fz)=>some (cur.size,el,fz)
 |_=>none
def yl{w w':World}{b:Nat}(h:w'.heap[b]? =w.heap[b]?):shape w' b=shape w b:=by unfold shape;rw[h]
mutual
def cY(t:Bool)(w:World)(A:Nat->Nat->Prop)(F:Nat->Prop):af->Value->Prop
 | .int k n,v=>v= .int k n
 | .bool b,v=>v= .bool b
 | .str s,v=>v= .string ⟨s.toArray⟩/\s.length<=lim
 | .slice sz _ xs,v=> ∃a cap,v= .slice a xs.length cap/\xs.length<=cap/\(cap<=maxLen/\xs.length<=lim)/\
   (xs=[]\/ ∃b off us G,a=some ⟨b,off,none⟩/\F b/\(∀c,G c->F c/\(t=true->c≠b))/\kY w A b off us/\(t=true->off=0/\0<us.length/\∃el,shape w b=some (cap*sz,el,(0,0)))/\jX t w A G sz xs us)
 | .agg cs,v=> ∃us:Array Value,v= .agg us/\kE t w A F cs us.toList
 |_,_=>eu
def kE(t:Bool)(w:World)(A:Nat->Nat->Prop)(F:Nat->Prop):List af->List Value->Prop
 |[],us=>us=[]
 |c::cs,us=> ∃u e d a,us=u::e/\((∀b,d b->F b)/\(∀b,a b->F b)/\(t=true->∀b,d b->¬a b))/\(cY t w A d c u/\u.oneCell'=true)/\kE t w A a cs e
def jX(t:Bool)(w:World)(A:Nat->Nat->Prop)(F:Nat->Prop)(sz:Nat):List af->List Value->Prop
 |[],us=>us=[]
 |x::xs,us=> ∃u e d a,us=u.cells.toList++e/\((∀b,d b->F b)/\(∀b,a b->F b)/\(t=true->∀b,d b->¬a b))/\(cY t w A d x u/\u.cells.size=sz/\(∀c∈u.cells.toList,c.oneCell'=true))/\jX t w A a sz xs e
end
mutual
def aU(w:World)(ν:bc):af->Value->Prop
 | .junk,_=>True
 | .int k n,v=>v= .int k n
 | .bool b,v=>v= .bool b
 | .str s,v=>v= .string ⟨s.toArray⟩/\s.length<=lim
 | .slice sz tag xs,v=>
   (∃a cap,v= .slice a xs.length cap/\xs.length<=cap/\(cap<=maxLen/\xs.length<=lim)/\(xs=[]\/ ∃b off us,a=some ⟨b,off,none⟩/\kY w ν.A b off us/\dw w ν sz xs us))/\
   (tag= .nil->v= .slice none 0 0)/\
   (∀g,tag= .own g->∃n u,ν.ow g=some (n,u)/\xs.length<=n/\(xs.length=n->v=u))/\
   (∀k j,tag= .tr k j->cY true w ν.A (ν.tr k j) (.slice sz tag xs) v)/\(∀k,tag= .lo k->cY false w ν.A (ν.tr k 0) (.slice sz tag xs) v)
 | .agg cs,v=> ∃us:Array Value,v= .agg us/\cW w ν cs us.toList
 | .ptr key off,v=> ∃b,ν.bx key=some b/\v= .pointer (some ⟨b,off,none⟩)
 | .eptr x,v=> ∃b off u,v= .pointer (some ⟨b,off,none⟩)/\aU w ν x u/\kY w ν.A b off u.cells.toList
 | .iface t x,v=> ∃u,v= .iface t u/\aU w ν x u
 | .nilp,v=>v= .pointer none
 | .tuple bm,v=> ∃us:Array Value,v= .tuple us/\c7 w ν bm us.toList
 | .func f dH,v=> ∃us:Array Value,v= .func (.func f) #[] us/\c7 w ν dH us.toList
 | .gmap key,v=> ∃b,ν.bx key=some b/\v= .map (some b)
 | .row _ key n,v=>(∃b cap,v= .slice (some ⟨b,0,none⟩) n cap)/\n<=lim/\∃n' u,ν.ow key=some (n',u)/\n<=n'/\(n=n'->v=u)
 | .rptr sz key n i f,v=>(∃b o,v= .pointer (some ⟨b,o,none⟩))/\i<n/\∃n' u,ν.ow key=some (n',u)/\n<=n'/\(n=n'->∃b,u.ownBlock=some b/\v= .pointer (some ⟨b,i*sz+f,none⟩))
 | .hdm _ _,_=>eu
 | .hdi _ _ _,_=>eu
 | .cst c,v=>v=c
def cW(w:World)(ν:bc):List af->List Value->Prop
 |[],us=>us=[]
 |c::cs,us=> ∃u a,us=u::a/\(aU w ν c u/\u.oneCell'=true)/\cW w ν cs a
def c7(w:World)(ν:bc):List af->List Value->Prop
 |[],us=>us=[]
 |c::cs,us=> ∃u a,us=u::a/\aU w ν c u/\c7 w ν cs a
def dw(w:World)(ν:bc)(sz:Nat):List af->List Value->Prop
 |[],us=>us=[]
 |x::xs,us=> ∃u a,us=u.cells.toList++a/\(aU w ν x u/\u.cells.size=sz/\(∀c∈u.cells.toList,c.oneCell'=true))/\dw w ν sz xs a
end
def BX{w w':World}{A c:Nat->Nat->Prop}{b:Nat}(a:∀b o,A b o->c b o/\w'.cell? ⟨b,o,none⟩=w.cell? ⟨b,o,none⟩):
  ∀(us:List Value) (off:Nat),kY w A b off us->kY w' c b off us
 |[],_,_=>trivial
 |_::us,off,h=>⟨⟨(a _ _ h.1.1).1,(a _ _ h.1.1).2.trans h.1.2⟩,BX a us (off+1) h.2⟩
mutual
def vQ{t:Bool}{w w':World}{A j:Nat->Nat->Prop}(f:∀b o,A b o->j b o/\w'.cell? ⟨b,o,none⟩=w.cell? ⟨b,o,none⟩)(g:∀b o,A b o->shape w' b=shape w b):∀(p:af) (F d:Nat->Prop) (v:Value),(∀b,F b->d b)->cY t w A F p v->cY t w' j d p v
 | .int k n,_,_,_,_,h=>by simp only[cY]at h⊢;exact h
 | .bool b,_,_,_,_,h=>by simp only[cY]at h⊢;exact h
 | .str s,_,_,_,_,h=>by simp only[cY]at h⊢;exact h
 | .slice sz tag xs,F,d,v,e,h=>by
  simp only[cY]at h⊢;obtain⟨a,cap,J,U,x,i⟩:=h;refine⟨a,cap,J,U,x,?_⟩;rcases i with i|⟨b,off,us,G,y,B,l,m,r,q⟩
  ·exact .inl i
  ·refine .inr ⟨b,off,us,G,y,e _ B,fun c aw=>⟨e _ (l c aw).1,(l c aw).2⟩,BX f _ _ m,fun z=>?_,Ho f g xs G G _ (fun _ h=>h) q⟩;obtain⟨f1,f2,el,f3⟩:=r z;refine⟨f1,f2,el,?_⟩;cases us with
   |nil=>simp at f2
   |cons u us=>rw[g b off m.1.1];exact f3
 | .agg cs,F,d,v,e,h=>by simp only[cY]at h⊢;obtain⟨us,J,U⟩:=h;exact⟨us,J,Vu f g cs F d _ e U⟩
 | .junk,_,_,_,_,h=>by simp[cY]at h
 | .ptr _ _,_,_,_,_,h=>by simp[cY]at h
 | .eptr _,_,_,_,_,h=>by simp[cY]at h
 | .iface _ _,_,_,_,_,h=>by simp[cY]at h
 | .nilp,_,_,_,_,h=>by simp[cY]at h
 | .tuple _,_,_,_,_,h=>by simp[cY]at h
 | .func _ _,_,_,_,_,h=>by simp[cY]at h
 | .gmap _,_,_,_,_,h=>by simp[cY]at h
 | .row _ _ _,_,_,_,_,h=>by simp[cY]at h
 | .rptr _ _ _ _ _,_,_,_,_,h=>by simp[cY]at h
 | .hdm _ _,_,_,_,_,h=>by simp[cY]at h
 | .hdi _ _ _,_,_,_,_,h=>by simp[cY]at h
 | .cst _,_,_,_,_,h=>by simp[cY]at h
def Vu{t:Bool}{w w':World}{A i:Nat->Nat->Prop}(j:∀b o,A b o->i b o/\w'.cell? ⟨b,o,none⟩=w.cell? ⟨b,o,none⟩)(l:∀b o,A b o->shape w' b=shape w b):∀(cs:List af) (F a:Nat->Prop) (us:List Value),(∀b,F b->a b)->kE t w A F cs us->kE t w' i a cs us
 |[],_,_,_,_,h=>by simp only[kE]at h⊢;exact h
 |c::cs,F,a,us,g,h=>by simp only[kE]at h⊢;obtain⟨u,k,e,d,J,⟨U,q,r⟩,⟨p,n⟩,m⟩:=h;exact⟨u,k,e,d,J,⟨fun b f=>g _ (U b f),fun b f=>g _ (q b f),r⟩,⟨vQ j l c e e u (fun _ h=>h) p,n⟩,Vu j l cs d d k (fun _ h=>h) m⟩
def Ho{t:Bool}{w w':World}{A i:Nat->Nat->Prop}(j:∀b o,A b o->i b o/\w'.cell? ⟨b,o,none⟩=w.cell? ⟨b,o,none⟩)(l:∀b o,A b o->shape w' b=shape w b){sz:Nat}:∀(cs:List af) (F a:Nat->Prop) (us:List Value),(∀b,F b->a b)->jX t w A F sz cs us->jX t w' i a sz cs us
 |[],_,_,_,_,h=>by simp only[jX]at h⊢;exact h
 |c::cs,F,a,us,g,h=>by simp only[jX]at h⊢;obtain⟨u,k,e,d,J,⟨U,q,r⟩,⟨p,n⟩,m⟩:=h;exact⟨u,k,e,d,J,⟨fun b f=>g _ (U b f),fun b f=>g _ (q b f),r⟩,⟨vQ j l c e e u (fun _ h=>h) p,n⟩,Ho j l cs d d k (fun _ h=>h) m⟩
end
mutual
def az(S:aB->Prop):af->Prop
 | .slice _ tag xs=>(match tag with| .own k=>S k| .tr k _=>S k| .lo k=>S k|_=>True)/\aH S xs
 | .agg cs=>aH S cs
 | .ptr k _=>S k
 | .eptr x=>az S x
 | .iface _ x=>az S x
 | .tuple bm=>aH S bm
 | .func _ dH=>aH S dH
 | .gmap k=>S k
 | .row _ k _=>S k
 | .rptr _ k _ _ _=>S k
 |_=>True
def aH(S:aB->Prop):List af->Prop
 |[]=>True
 |x::xs=>az S x/\aH S xs
end
mutual
def tE{S T:aB->Prop}(h:∀k,S k->T k):∀p:af,az S p->az T p
 | .junk,_=>by simp[az]
 | .int _ _,_=>by simp[az]
 | .bool _,_=>by simp[az]
 | .str _,_=>by simp[az]
 | .slice sz tag xs,a=>by simp only[az]at a⊢;exact⟨by cases tag<;>first|trivial|exact h _ a.1,jj h xs a.2⟩
 | .agg cs,a=>by simp only[az]at a⊢;exact jj h cs a
 | .ptr k _,a=>by simp only[az]at a⊢;exact h _ a
 | .eptr x,a=>by simp only[az]at a⊢;exact tE h x a
 | .iface _ x,a=>by simp only[az]at a⊢;exact tE h x a
 | .nilp,_=>by simp[az]
 | .tuple bm,a=>by simp only[az]at a⊢;exact jj h bm a
 | .func _ dH,a=>by simp only[az]at a⊢;exact jj h dH a
 | .gmap k,a=>by simp only[az]at a⊢;exact h _ a
 | .row _ k _,a=>by simp only[az]at a⊢;exact h _ a
 | .rptr _ k _ _ _,a=>by simp only[az]at a⊢;exact h _ a
 | .hdm _ _,_=>by simp[az]
 | .hdi _ _ _,_=>by simp[az]
 | .cst _,_=>by simp[az]
def jj{S T:aB->Prop}(h:∀k,S k->T k):∀b:List af,aH S b->aH T b
 |[],_=>by simp[aH]
 |x::xs,a=>by simp only[aH]at a⊢;exact⟨tE h x a.1,jj h xs a.2⟩
end
mutual
def Ir:∀p:af,az (fun _=>True) p
 | .junk=>by simp[az]
 | .int _ _=>by simp[az]
 | .bool _=>by simp[az]
 | .str _=>by simp[az]
 | .slice sz tag xs=>by simp only[az];exact⟨by cases tag<;>trivial,wm xs⟩
 | .agg cs=>by simp only[az];exact wm cs
 | .ptr k _=>by simp[az]
 | .eptr x=>by simp only[az];exact Ir x
 | .iface _ x=>by simp only[az];exact Ir x
 | .nilp=>by simp[az]
 | .tuple bm=>by simp only[az];exact wm bm
 | .func _ dH=>by simp only[az];exact wm dH
 | .gmap k=>by simp[az]
 | .row _ k _=>by simp[az]
 | .rptr _ k _ _ _=>by simp[az]
 | .hdm _ _=>by simp[az]
 | .hdi _ _ _=>by simp[az]
 | .cst _=>by simp[az]
def wm:∀a:List af,aH (fun _=>True) a
 |[]=>by simp[aH]
 |x::xs=>by simp only[aH];exact⟨Ir x,wm xs⟩
end
def gP:List Nat->List Value->List MapEntry
 |b::a,k::v::r=>⟨k,v,b⟩::gP a r
 |_,_=>[]
def l0(cs:List af)(us:Array Value)(el:gT):Obj:=
 match cs with
 | .hdm clock borns::_=>.map (gP borns us.toList).toArray clock
 | .hdi since seen last::_=>.mapIter (match us.toList with|[.map m]=>m|_=>none) since seen.toArray last
 |_=>.cells us el
structure amq (clock:Nat) (borns:List Nat) (r:List af):Prop where
 len:r.length=2*borns.length
 inc:borns.Pairwise (· < ·)
 lt:∀b∈borns,b<clock
def k3(w:World)(ν:bc)(cs:List af)(us:List Value):Prop:=
 match cs with
 | .hdm clock borns::r=>c7 w ν r us/\amq clock borns r
 | .hdi _ _ _::r=>c7 w ν r us
 |cs=>cW w ν cs us
def gV:List af->Bool
 | .hdm _ _::_=>false
 | .hdi _ _ _::_=>false
 |_=>true
def wI{w:World}{ν:bc}{cs:List af}{us:List Value}(h:cW w ν cs us):gV cs=true:=by
 unfold gV;split
 ·simp only[cW,aU]at h;obtain⟨_,_,_,⟨h,_⟩,_⟩:=h;exact h.elim
 ·simp only[cW,aU]at h;obtain⟨_,_,_,⟨h,_⟩,_⟩:=h;exact h.elim
 ·rfl
def pj{cs:List af}(h:gV cs=true)(us:Array Value)(el:gT):l0 cs us el= .cells us el:=by
 unfold gV at h;unfold l0;split at h<;>first|cases h|skip
 rfl
def pk{w:World}{ν:bc}{cs:List af}(h:gV cs=true)(us:List Value):k3 w ν cs us=cW w ν cs us:=by
 unfold gV at h;unfold k3;split at h<;>first|cases h|skip
 rfl
structure oX (S:aB->Prop) (w:World) (ν:bc) (w':World) (bn:bc):Prop where
 A:∀b o,ν.A b o->bn.A b o/\w'.cell? ⟨b,o,none⟩=w.cell? ⟨b,o,none⟩
 bx:∀k b,S k->ν.bx k=some b->bn.bx k=some b
 ow:∀g n u,S g->ν.ow g=some (n,u)->∃n' eJ,bn.ow g=some (n',eJ)/\(n'=n/\eJ=u\/n<n')
 sh:∀b o,ν.A b o->shape w' b=shape w b
 tr:∀k j b,S k->ν.tr k j b->bn.tr k j b
abbrev mx:=oX (fun _=>True)
mutual
def vb{S:aB->Prop}{w w':World}{ν bn:bc}(ar:oX S w ν w' bn):∀(p:af) (v:Value),az S p->aU w ν p v->aU w' bn p v
 | .junk,_,_,_=>by simp[aU]
 | .int k n,_,_,h=>by simp only[aU]at h⊢;exact h
 | .bool b,_,_,h=>by simp only[aU]at h⊢;exact h
 | .str s,_,_,h=>by simp only[aU]at h⊢;exact h
 | .slice sz tag xs,v,d,h=>by
  simp only[aU,az]at h d⊢;obtain⟨⟨a,cap,J,U,m,l⟩,q,z,B,A⟩:=h;refine⟨⟨a,cap,J,U,m,?_⟩,q,fun g bf=>?_,fun k j o=>?_,fun k o=>?_⟩
  ·rcases l with l|⟨b,off,us,l,z,E⟩
   ·exact .inl l
   ·exact .inr ⟨b,off,us,l,BX ar.A _ _ z,Jz ar sz xs us d.2 E⟩
  ·obtain⟨n,u,H,K,G⟩:=z g bf;subst bf;obtain⟨n',F,f1,f2⟩:=ar.ow g n u d.1 H;refine⟨n',F,f1,?_⟩;rcases f2 with⟨rfl,rfl⟩|f2
   ·exact⟨K,G⟩
   ·exact⟨Ω,fun e=>Ω⟩
  ·have:=B k j o;subst o;exact vQ ar.A ar.sh _ _ _ _ (fun b=>ar.tr k j b d.1) this
  ·have:=A k o;subst o;exact vQ ar.A ar.sh _ _ _ _ (fun b=>ar.tr k 0 b d.1) this
 | .agg cs,v,d,h=>by simp only[aU,az]at h d⊢;obtain⟨us,J,U⟩:=h;exact⟨us,J,JC ar cs _ d U⟩
 | .ptr key off,v,d,h=>by simp only[aU,az]at h d⊢;obtain⟨b,J,U⟩:=h;exact⟨b,ar.bx _ _ d J,U⟩
 | .iface t x,v,d,h=>by simp only[aU,az]at h d⊢;obtain⟨u,J,U⟩:=h;exact⟨u,J,vb ar x u d U⟩
 | .eptr x,v,d,h=>by simp only[aU,az]at h d⊢;obtain⟨b,off,u,J,U,m⟩:=h;exact⟨b,off,u,J,vb ar x u d U,BX ar.A _ _ m⟩
 | .nilp,_,_,h=>by simp only[aU]at h⊢;exact h
 | .tuple bm,v,d,h=>by simp only[aU,az]at h d⊢;obtain⟨us,J,U⟩:=h;exact⟨us,J,Ab ar bm _ d U⟩
 | .func f dH,v,d,h=>by simp only[aU,az]at h d⊢;obtain⟨us,J,U⟩:=h;exact⟨us,J,Ab ar dH _ d U⟩
 | .gmap key,v,d,h=>by simp only[aU,az]at h d⊢;obtain⟨b,J,U⟩:=h;exact⟨b,ar.bx _ _ d J,U⟩
 | .row sz key n,v,d,h=>by
  simp only[aU,az]at h d⊢;obtain⟨J,U,n',u,m,l,q⟩:=h;obtain⟨y,r,f1,f2⟩:=ar.ow key n' u d m;refine⟨J,U,y,r,f1,?_⟩;rcases f2 with⟨rfl,rfl⟩|f2
  ·exact⟨l,q⟩
  ·exact⟨Ω,fun e=>Ω⟩
 | .rptr sz key n i f,v,d,h=>by
  simp only[aU,az]at h d⊢;obtain⟨J,U,n',u,m,l,q⟩:=h;obtain⟨y,r,f1,f2⟩:=ar.ow key n' u d m;refine⟨J,U,y,r,f1,?_⟩;rcases f2 with⟨rfl,rfl⟩|f2
  ·exact⟨l,q⟩
  ·exact⟨Ω,fun e=>Ω⟩
 | .hdm _ _,_,_,h=>by simp only[aU]at h
 | .hdi _ _ _,_,_,h=>by simp only[aU]at h
 | .cst c,_,_,h=>by simp only[aU]at h⊢;exact h
def JC{S:aB->Prop}{w w':World}{ν bn:bc}(ar:oX S w ν w' bn):∀(cs:List af) (us:List Value),aH S cs->cW w ν cs us->cW w' bn cs us
 |[],_,_,h=>by simp only[cW]at h⊢;exact h
 |c::cs,us,a,h=>by simp only[cW,aH]at h a⊢;obtain⟨u,b,J,U,d⟩:=h;exact⟨u,b,J,⟨vb ar c u a.1 U.1,U.2⟩,JC ar cs b a.2 d⟩
def Ab{S:aB->Prop}{w w':World}{ν bn:bc}(ar:oX S w ν w' bn):∀(cs:List af) (us:List Value),aH S cs->c7 w ν cs us->c7 w' bn cs us
 |[],_,_,h=>by simp only[c7]at h⊢;exact h
 |c::cs,us,a,h=>by simp only[c7,aH]at h a⊢;obtain⟨u,b,J,U,d⟩:=h;exact⟨u,b,J,vb ar c u a.1 U,Ab ar cs b a.2 d⟩
def Jz{S:aB->Prop}{w w':World}{ν bn:bc}(ar:oX S w ν w' bn)(sz:Nat):∀(xs:List af) (us:List Value),aH S xs->dw w ν sz xs us->dw w' bn sz xs us
 |[],_,_,h=>by simp only[dw]at h⊢;exact h
 |x::xs,us,a,h=>by simp only[dw,aH]at h a⊢;obtain⟨u,b,J,⟨U,d,e⟩,c⟩:=h;exact⟨u,b,J,⟨vb ar x u a.1 U,d,e⟩,Jz ar sz xs b a.2 c⟩
end
def PW{S:aB->Prop}{w w':World}{ν bn:bc}(ar:oX S w ν w' bn){cs:List af}{us:List Value}(a:aH S cs)(h:k3 w ν cs us):k3 w' bn cs us:=by
 unfold k3 at h⊢;split
 ·simp only[aH]at a;exact⟨Ab ar _ _ a.2 h.1,h.2⟩
 ·simp only[aH]at a;exact Ab ar _ _ a.2 h
 ·rename_i J U;split at h
  ·exact absurd rfl (J _ _ _)
  ·exact absurd rfl (U _ _ _ _)
  ·exact JC ar _ _ a h
section
variable {w w':World} {ν bn:bc} (ar:mx w ν w' bn)
include ar
theorem Ac{p:af}{v:Value}(h:aU w ν p v):aU w' bn p v:=vb ar p v (Ir p) h
theorem abc{p:List af}{v:List Value}(h:cW w ν p v):cW w' bn p v:=JC ar p v (wm p) h
theorem JD{p:List af}{v:List Value}(h:c7 w ν p v):c7 w' bn p v:=Ab ar p v (wm p) h
theorem rI{p:List af}{v:List Value}(h:k3 w ν p v):k3 w' bn p v:=PW ar (wm p) h
theorem CD{sz:Nat}{p:List af}{v:List Value}(h:dw w ν sz p v):dw w' bn sz p v:=Jz ar sz p v (wm p) h
end
end
section
open Go Go.RowKit
def get(k:Nat):List (Nat×af)->af
 |[]=>.junk
 |(i,p)::r=>if i=k then p else get k r
def put(k:Nat)(p:af):List (Nat×af)->List (Nat×af)
 |[]=>[(k,p)]
 |(i,q)::r=>if i=k then(i,p)::r else(i,q)::put k p r
def ae{α:Type}(k:aB):List (aB×α)->bd α
 |[]=>none
 |(i,p)::r=>if i=k then some p else ae k r
def cJ{α:Type}(k:aB)(p:α):List (aB×α)->List (aB×α)
 |[]=>[(k,p)]
 |(i,q)::r=>if i=k then(i,p)::r else(i,q)::cJ k p r
def qv(k j:Nat)(p:af):∀l,get j (put k p l)=if k=j then p else get j l
 |[]=>by simp[get,put]
 |(i,q)::r=>by
  by_cases h:i=k
  ·subst h;by_cases U:i=j<;>simp[get,put,U]
  ·by_cases U:i=j
   ·subst U;simp[get,put,h,Ne.symm h]
   ·simp[get,put,h,U,qv k j p r]
def jk{α:Type}(k j:aB)(p:α):∀l,ae j (cJ k p l)=if k=j then some p else ae j l
 |[]=>by simp[ae,cJ]
 |(i,q)::r=>by
  by_cases h:i=k
  ·subst h;by_cases U:i=j<;>simp[ae,cJ,U]
  ·by_cases U:i=j
   ·subst U;simp[ae,cJ,h,Ne.symm h]
   ·simp[ae,cJ,h,U,jk k j p r]
structure dW where
 n:Nat
 el:Nat
 sz:Nat
 xs:bd (List af)
def P2(w:World)(ν:bc)(o:dW)(v:Value)(us:List Value):Prop:=∀xs,o.xs=some xs->xs.length=o.n/\dw w ν o.sz xs us/\∀bl,v.ownBlock=some bl->∀j,¬ν.A bl j
def tU{w w':World}{ν bn:bc}(ar:mx w ν w' bn){o:dW}{v:Value}{us:List Value}(c:∀bl,v.ownBlock=some bl->∀j,bn.A bl j->ν.A bl j)(h:P2 w ν o v us):P2 w' bn o v us:=fun xs a=>⟨(h xs a).1,CD ar (h xs a).2.1,fun bl b j d=>(h xs a).2.2 bl b j (c bl b j d)⟩
def dV(S:aB->Prop)(o:dW):Prop:= ∀xs,o.xs=some xs->aH S xs
structure bp where
 t:List (Nat×af)
 b:List (aB×List af)
 e:List (aB×dW)
 n:Nat
 o:List aB
def fresh(n:Nat)(o:List aB)(k:aB):Prop:=(match k with| .loc m=>n<=m| .obj _=>True)/\k∉o
def Mi{n n':Nat}{o o':List aB}(b:n<=n')(ar:∀k∈o,k∈o'){k:aB}(h:fresh n' o' k):fresh n o k:=by unfold fresh at h⊢;exact⟨by cases k<;>simp at h⊢;omega,fun a=>h.2 (ar k a)⟩
def CS(ν:bc)(b:List (aB×List af))(e:List (aB×dW))(bl:Nat):Prop:=(∃k,(ae k b).isSome/\ν.bx k=some bl)\/(∃g n v,(ae g e).isSome/\ν.ow g=some (n,v)/\v.ownBlock=some bl)
structure Good (pr:Nat->Prop) (w:World) (ν:bc) (b:List (aB×List af)) (e:List (aB×dW)):Prop where
 alt:∀bl o,ν.A bl o->bl<w.heap.size
 box:∀k cs,ae k b=some cs->∃bl us el,ν.bx k=some bl/\pr bl/\(∀o,¬ν.A bl o)/\w.heap[bl]? =some (l0 cs us el)/\k3 w ν cs us.toList
 inj:∀k bs bl,(ae k b).isSome->(ae bs b).isSome->ν.bx k=some bl->ν.bx bs=some bl->k=bs
 own:∀g o,ae g e=some o->∃v us,ν.ow g=some (o.n,v)/\w.ownsRow 0 o.el o.sz v o.n us/\(∀bl,v.ownBlock=some bl->pr bl/\(∀j,ν.A bl j->j<o.n*o.sz))/\P2 w ν o v us
 oinj:∀g fD n n' v v' bl,(ae g e).isSome->(ae fD e).isSome->ν.ow g=some (n,v)->ν.ow fD=some (n',v')->v.ownBlock=some bl->v'.ownBlock=some bl->g=fD
 obx:∀g k n v bl,(ae g e).isSome->(ae k b).isSome->ν.ow g=some (n,v)->v.ownBlock=some bl->ν.bx k=some bl->eu
 one:∀k,ν.bx k=none\/ν.ow k=none
 otr:∀bl,CS ν b e bl->∀k j,¬ν.tr k j bl
structure fm where
 w0:World
 ν0:bc
 mt:Nat->Prop
 N:Nat
 ob:List aB
def fm.pr(C:fm)(bl:Nat):Prop:=C.mt bl\/C.w0.heap.size<=bl
def ei:aB:= .obj 990001
def nB:aB:= .obj 990002
structure pC (C:fm) (w:World) (ν:bc):Prop where
 os:w.os=C.w0.os
 tape:w.tape=C.w0.tape
 output:w.output=C.w0.output
 size:C.w0.heap.size<=w.heap.size
 block:∀k,k<C.w0.heap.size->¬C.mt k->w.heap[k]? =C.w0.heap[k]?
 keep:∀b o,C.ν0.A b o->ν.A b o/\w.cell? ⟨b,o,none⟩=C.w0.cell? ⟨b,o,none⟩
 fresh:∀b o,ν.A b o->C.ν0.A b o\/C.pr b
 obj:∀n b,C.ν0.bx (.obj n)=some b->ν.bx (.obj n)=some b
 obn:∀n b,C.ν0.bx (.obj n)=some b-> .obj n∈C.ob
 row:∀m n u,C.ν0.ow (.obj m)=some (n,u)->∃n' eJ,ν.ow (.obj m)=some (n',eJ)/\(n'=n/\eJ=u\/n<n')
 obr:∀m n u,C.ν0.ow (.obj m)=some (n,u)-> .obj m∈C.ob
 trd:∀k j bs dh b,ν.tr k j b->ν.tr bs dh b->k=bs/\j=dh
 trb:∀k j b,ν.tr k j b->(k=ei\/C.w0.heap.size<=b)/\b<w.heap.size
 trn:∀k j b,ν.tr k j b->ν.bx k=none/\ν.ow k=none
 sh:∀b o,C.ν0.A b o->shape w b=shape C.w0 b
def Fz{ν bn:bc}{g:aB}{n:Nat}{u:Value}(h:∃n' a,ν.ow g=some (n',a)/\(n'=n/\a=u\/n<n'))(ar:∀n u,ν.ow g=some (n,u)->∃n' a,bn.ow g=some (n',a)/\(n'=n/\a=u\/n<n')):
  ∃n' a,bn.ow g=some (n',a)/\(n'=n/\a=u\/n<n'):=by
 obtain⟨e,c,i,b⟩:=h;obtain⟨f,d,f1,f2⟩:=ar e c i;refine⟨f,d,f1,?_⟩;rcases b with⟨rfl,rfl⟩|b
 ·exact f2
 ·rcases f2 with⟨rfl,rfl⟩|f2
  ·exact .inr b
  ·exact .inr Ω
structure c9 (C:fm) (st:bp) (a:Act) (w:World) (ν:bc):Prop where
 good:Good C.pr w ν st.b st.e
 fr:pC C w ν
 defers:a.defers=[]
 size:a.tmps.size=C.N
 slot:∀i,aU w ν (get i st.t) (a.tmps.getD i undef)
 new:∀k,fresh st.n st.o k->ν.bx k=none/\ν.ow k=none/\∀j b,¬ν.tr k j b
def e5(d:bd Nat)(p:af)(t:List (Nat×af)):List (Nat×af):=
 match d with
 |some d=>put d p t
 |none=>t
def j8(N:Nat)(d:bd Nat):Bool:=match d with|some d=>decide (d<N)|none=>true
def c9.put{C:fm}{st:bp}{a:Act}{w:World}{ν:bc}(h:c9 C st a w ν){d:bd Nat}(f:j8 C.N d=true){p:af}{v:Value}(c:aU w ν p v):
  c9 C {st with t:=e5 d p st.t} (a.put d v) w ν:=by
 cases d with
 |none=>exact h
 |some d=>
  have b:d<a.tmps.size:=by rw[h.size];simpa[j8]using f
  refine⟨h.good,h.fr,h.defers,by simpa[Act.put]using h.size,fun i=>?_,h.new⟩;simp only[e5,qv];by_cases e:d=i
  ·subst e;simpa[Act.put,Array.getD_eq_getD_getElem?,b]using c
  ·have:=h.slot i;simpa[e,Act.put,Array.getD_eq_getD_getElem?,Array.getElem?_setIfInBounds_ne e]using this
def c9.over{C:fm}{st st':bp}{a:Act}{w w':World}{ν bn:bc}(h:c9 C st a w ν)(ar:mx w ν w' bn)(c:st'.t=st.t)(bf:Good C.pr w' bn st'.b st'.e)(d:pC C w' bn)
  (e:∀k,fresh st'.n st'.o k->bn.bx k=none/\bn.ow k=none/\∀j b,¬bn.tr k j b):c9 C st' a w' bn:=
 ⟨bf,d,h.defers,h.size,fun i=>by rw[c];exact Ac ar (h.slot i),e⟩
inductive dP where
 |t (i:Nat)
 |c (p:af)
 deriving Inhabited
def cE(t:List (Nat×af)):dP->af
 | .t i=>get i t
 | .c p=>p
def Gz:af->Value->Bool
 | .int k n,.int bs n'=>decide (k=bs/\n=n')
 | .bool b,.bool b2=>b==b2
 | .str s,.string l=>decide (l.data.toList=s/\s.length<=lim)
 | .slice _ .nil [],.slice none 0 0=>true
 | .nilp,.pointer none=>true
 | .tuple [],.tuple ⟨[]⟩=>true
 | .func f [],.func (.func g) ⟨[]⟩ ⟨[]⟩=>f==g
 | .junk,_=>true
 |_,_=>false
def RW(w:World)(ν:bc){p:af}{v:Value}(h:Gz p v=true):aU w ν p v:=by
 unfold Gz at h;split at h
 ·simp at h;obtain⟨rfl,rfl⟩:=h;simp[aU]
 ·simp at h;subst h;simp[aU]
 ·rename_i s l;simp at h;obtain⟨J,U⟩:=h;refine⟨?_,U⟩;subst J;simp
 ·simp only[aU];refine⟨⟨none,0,rfl,Ψ,Ψ,Ψ⟩,Ψ,(fun _ h=>by cases h),(fun _ _ h=>by cases h),(fun _ h=>by cases h)⟩
 ·simp[aU]
 ·simp[aU,c7]
 ·simp at h;subst h;simp[aU,c7]
 ·simp[aU]
 ·cases h
def AL:List af->List Value->Bool
 |[],[]=>true
 |p::a,v::bm=>Gz p v&&v.oneCell'&&AL a bm
 |_,_=>false
def AK:af->Value->Bool
 | .agg cs,.agg us=>AL cs us.toList
 |p,v=>Gz p v
def RX(w:World)(ν:bc):∀(a:List af) (bm:List Value),AL a bm=true->cW w ν a bm
 |[],[],_=>by simp[cW]
 |[],_::_,h=>by simp[AL]at h
 |_::_,[],h=>by simp[AL]at h
 |p::a,v::bm,h=>by simp only[AL,cQ]at h;simp only[cW];exact⟨v,bm,rfl,⟨RW w ν h.1.1,h.1.2⟩,RX w ν a bm h.2⟩
def KW(w:World)(ν:bc){p:af}{v:Value}(h:AK p v=true):aU w ν p v:=by
 unfold AK at h;split at h
 ·simp only[aU];exact⟨_,rfl,RX w ν _ _ h⟩
 ·exact RW w ν h
def eS:dP->Operand->Bool
 | .t i,.tmp j=>i==j
 | .c p,.const v=>AK p v
 | .c (.func f []),.func g=>f==g
 |_,_=>false
def e3{C:fm}{st:bp}{a:Act}{w:World}{ν:bc}(h:c9 C st a w ν){x:dP}{o:Operand}(b:eS x o=true):aU w ν (cE st.t x) (a.eval o):=by
 unfold eS at b;split at b
 ·simp at b;subst b;simpa[cE,Act.eval]using h.slot _
 ·simpa[cE,Act.eval]using KW w ν b
 ·simp at b;subst b;simp[cE,Act.eval,aU,c7]
 ·cases b
inductive Db where
 |int (k:IntKind)
 |bool
 |str
 |slice (e:Nat)
 |struct (ek:List (Nat×Nat))
 |map (k e:Nat)
 |other
 deriving DecidableEq
structure ev where
 size:Nat
 bytes:Nat
 kind:Db
 zero:af
def Db.isAgg:Db->Bool
 | .struct _=>true
 |_=>false
def C3:List af->List Value->Bool
 |[],[]=>true
 |p::a,v::bm=>AK p v&&v.oneCell'&&C3 a bm
 |_,_=>false
def Aw:af->Value->Bool
 | .agg cs,.agg us=>C3 cs us.toList
 | .agg _,_=>false
 |p,v=>AK p v&&v.oneCell'
def k7:Db->TypeDesc->Bool
 | .int k,.int bs=>decide (k=bs)
 | .bool,.bool=>true
 | .str,.string=>true
 | .slice e,.slice a=>e==a
 | .struct b,.struct gs=>decide (gs.toList.map (fun f=>(f.offset,f.type))=b)
 | .map k e,.map bs a=>k==bs&&e==a
 | .other,d=>match d with| .struct _| .array _ _| .int _| .bool| .string| .slice _=>false|_=>true
 |_,_=>false
def Vh(P:cI)(gs:Array Field):Bool:=gs.toList.all fun f=>match P.underlying f.type with|some (.int _)=>true|some .string=>true|_=>false
def T8(P:cI)(t:Nat)(gs:Array Field):Bool:=gs.toList.all (fun f=>f.name != "_")&& !P.stoodInHeld t&& !P.eqGuardType P.depth t
def Lv(P:cI)(t:Nat):TypeDesc->Bool
 | .struct gs=> !Vh P gs||T8 P t gs
 |_=>true
def QN(P:cI)(t:Nat)(f:ev):Bool:=
 match P.info? t,P.underlying t with
 |some i,some d=>Lv P t d&&i.size==f.size&&i.bytes==f.bytes&&k7 f.kind d&&(match i.zero with|some z=>Aw f.zero z&&z.cells.size==f.size|none=>false)
 |_,_=>false
def hY(P:cI)(aT:List (Nat×ev)):Bool:=aT.all fun x=>QN P x.1 x.2
def eF(aT:List (Nat×ev))(t:Nat):bd ev:=(aT.find? fun x=>x.1==t).map (·.2)
def arA{P:cI}{aT:List (Nat×ev)}(h:hY P aT=true){t:Nat}{f:ev}(b:eF aT t=some f):QN P t f=true:=by
 unfold eF at b;cases a:aT.find? fun x=>x.1==t with
 |none=>simp[a]at b
 |some x=>simp[a]at b;have J:=List.find?_some a;simp at J;have U:=List.mem_of_find?_eq_some a;have c:=j6.1 h x U;rw[<-b,<-J];exact c
structure adB (P:cI) (t:Nat) (f:ev):Prop where
 cmp:∀d,P.underlying t=some d->Lv P t d=true
 ex:∃i d z,P.info? t=some i/\P.underlying t=some d/\i.size=f.size/\i.bytes=f.bytes/\k7 f.kind d=true/\i.zero=some z/\Aw f.zero z=true/\z.cells.size=f.size
def wR{P:cI}{aT:List (Nat×ev)}(h:hY P aT=true){t:Nat}{f:ev}(l:eF aT t=some f):adB P t f:=by
 have h:=arA h l;unfold QN at h;split at h
 ·rename_i i d J U;simp only[cQ,ey]at h;obtain⟨⟨⟨⟨g,j⟩,k⟩,c⟩,a⟩:=h;split at a
  ·rename_i z e;simp only[cQ,ey]at a;exact⟨fun m b=>by rw[U]at b;cases b;exact g,i,d,z,J,U,j,k,c,e,a.1,a.2⟩
  ·cases a
 ·cases h
def pJ(b o j:Nat):(⟨b,o,none⟩:Addr).add j=⟨b,o+j,none⟩:=by
 unfold Addr.add;split
 ·rename_i h;subst h;rfl
 ·rfl
def Q8(w:World)(ν:bc):∀(a:List af) (bm:List Value),C3 a bm=true->cW w ν a bm
 |[],[],_=>by simp[cW]
 |[],_::_,h=>by simp[C3]at h
 |_::_,[],h=>by simp[C3]at h
 |p::a,v::bm,h=>by simp only[C3,cQ]at h;simp only[cW];exact⟨v,bm,rfl,⟨KW w ν h.1.1,h.1.2⟩,Q8 w ν a bm h.2⟩
def cells:af->List af
 | .agg cs=>cs
 |p=>[p]
def eT:af->Bool
 | .junk| .tuple _=>false
 | .cst (.slice _ _ _)| .cst (.string _)=>true
 | .cst _=>false
 |_=>true
def P1{w:World}{ν:bc}{p:af}{v:Value}(h:aU w ν p v)(d:eT p=true)(e:∀cs,p≠ .agg cs):v.oneCell'=true/\v.cells= #[v]:=by
 cases p<;>simp only[aU,eT]at h d;case junk=>cases d
 case tuple=>cases d
 case cst c=>subst h;cases v<;>first|exact⟨rfl,rfl⟩|cases d
 case agg cs=>exact absurd rfl (e cs)
 case int=>subst h;exact⟨rfl,rfl⟩
 case bool=>subst h;exact⟨rfl,rfl⟩
 case str=>rw[h.1];exact⟨rfl,rfl⟩
 case slice=>obtain⟨⟨a,cap,J,_⟩,_⟩:=h;subst J;exact⟨rfl,rfl⟩
 case ptr=>obtain⟨b,_,J⟩:=h;subst J;exact⟨rfl,rfl⟩
 case eptr=>obtain⟨b,o,u,J,_⟩:=h;subst J;exact⟨rfl,rfl⟩
 case iface=>obtain⟨u,J,_⟩:=h;subst J;exact⟨rfl,rfl⟩
 case nilp=>subst h;exact⟨rfl,rfl⟩
 case func=>obtain⟨us,J,_⟩:=h;subst J;exact⟨rfl,rfl⟩
 case gmap=>obtain⟨b,_,J⟩:=h;subst J;exact⟨rfl,rfl⟩
 case row=>obtain⟨⟨a,cap,J⟩,_⟩:=h;subst J;exact⟨rfl,rfl⟩
 case rptr=>obtain⟨⟨a,o,J⟩,_⟩:=h;subst J;exact⟨rfl,rfl⟩
def wJ{w:World}{ν:bc}{p:af}{v:Value}(h:aU w ν p v)(c:eT p=true):cW w ν (cells p) v.cells.toList:=by
 by_cases b:∃cs,p= .agg cs
 ·obtain⟨cs,rfl⟩:=b;simp only[aU]at h;obtain⟨us,rfl,U⟩:=h;simpa[cells,pw]using U
 ·have a:∀cs,p≠ .agg cs:=fun cs e=>b ⟨cs,e⟩;obtain⟨J,U⟩:=P1 h c a;have aw:cells p=[p]:=by cases p<;>first|rfl|exact absurd rfl (a _)
  rw[aw,U];simp only[cW];exact⟨v,[],rfl,⟨h,J⟩,rfl⟩
def CF{w:World}{ν:bc}:∀{a:List af} {bm:List Value},cW w ν a bm->∀c∈bm,c.oneCell'=true
 |[],bm,h=>by simp only[cW]at h;subst h;simp
 |p::a,bm,h=>by
  simp only[cW]at h;obtain⟨u,b,rfl,J,U⟩:=h;intro c aw;rcases gI.1 aw with rfl|aw
  ·exact J.2
  ·exact CF U c aw
def qQ{w:World}{ν:bc}:∀{a:List af} {bm:List Value},cW w ν a bm->bm.length=a.length
 |[],bm,h=>by simp only[cW]at h;subst h;rfl
 |p::a,bm,h=>by simp only[cW]at h;obtain⟨u,b,rfl,_,U⟩:=h;simp[qQ U]
def CE{w:World}{ν:bc}:∀(n:Nat) {a:List af} {bm:List Value},cW w ν a bm->cW w ν (a.drop n) (bm.drop n)
 |0,_,_,h=>by simpa using h
 |n+1,[],bm,h=>by simp only[cW]at h;subst h;simp[cW]
 |n+1,p::a,bm,h=>by simp only[cW]at h;obtain⟨u,b,rfl,_,U⟩:=h;simpa using CE n U
def Fv{w:World}{ν:bc}:∀(n:Nat) {a:List af} {bm:List Value},cW w ν a bm->cW w ν (a.take n) (bm.take n)
 |0,_,_,_=>by simp[cW]
 |n+1,[],bm,h=>by simp only[cW]at h;subst h;simp[cW]
 |n+1,p::a,bm,h=>by simp only[cW]at h;obtain⟨u,b,rfl,J,U⟩:=h;simp only[List.take_succ_cons,cW];exact⟨u,_,rfl,J,Fv n U⟩
def z8{w:World}{ν:bc}:∀{b bV:List af} {bm us:List Value},cW w ν b bm->cW w ν bV us->cW w ν (b++bV) (bm++us)
 |[],bV,bm,us,h,a=>by simp only[cW]at h;subst h;simpa using a
 |p::b,bV,bm,us,h,a=>by simp only[cW]at h;obtain⟨u,c,rfl,J,U⟩:=h;simp only[b7,cW];exact⟨u,_,rfl,J,z8 U a⟩
def Fu{w:World}{ν:bc}:∀(n:Nat) {b:List af} {bm:List Value} {p:af},cW w ν b bm->b[n]? =some p->∃v,bm[n]? =some v/\aU w ν p v/\v.oneCell'=true
 |n,[],_,p,_,a=>by simp at a
 |0,q::b,bm,p,h,a=>by simp only[cW]at h;obtain⟨u,c,rfl,J,_⟩:=h;simp at a;subst a;exact⟨u,rfl,J.1,J.2⟩
 |n+1,q::b,bm,p,h,a=>by simp only[cW]at h;obtain⟨u,c,rfl,_,U⟩:=h;simpa using Fu n U (by simpa using a)
def Fx{w:World}{ν:bc}:∀(n:Nat) {b:List af} {bm:List Value} {p:af},c7 w ν b bm->b[n]? =some p->∃v,bm[n]? =some v/\aU w ν p v
 |n,[],_,p,_,a=>by simp at a
 |0,q::b,bm,p,h,a=>by simp only[c7]at h;obtain⟨u,c,rfl,J,_⟩:=h;simp at a;subst a;exact⟨u,rfl,J⟩
 |n+1,q::b,bm,p,h,a=>by simp only[c7]at h;obtain⟨u,c,rfl,_,U⟩:=h;simpa using Fx n U (by simpa using a)
def uW{w:World}{A:Nat->Nat->Prop}{b:Nat}:∀{us:List Value} {off j:Nat} {u:Value},kY w A b off us->us[j]? =some u->A b (off+j)/\w.cell? ⟨b,off+j,none⟩=some u
 |[],_,_,_,_,h=>by simp at h
 |x::us,off,0,u,a,h=>by simp at h;subst h;exact a.1
 |x::us,off,j+1,u,a,h=>by have:=uW (j:=j) a.2 (by simpa using h);rwa[show off+1+j=off+(j+1)from by omega]at this
def It{w:World}{A:Nat->Nat->Prop}{b:Nat}:∀(n:Nat) {us:List Value} {off:Nat},kY w A b off us->kY w A b (off+n) (us.drop n)
 |0,_,_,h=>by simpa using h
 |n+1,[],_,_=>by simp[kY]
 |n+1,x::us,off,h=>by have:=It n h.2;rw[show off+(n+1)=off+1+n from by omega];simpa using this
def Iv{w:World}{A:Nat->Nat->Prop}{b:Nat}:∀(n:Nat) {us:List Value} {off:Nat},kY w A b off us->kY w A b off (us.take n)
 |0,_,_,_=>by simp[kY]
 |n+1,[],_,_=>by simp[kY]
 |n+1,x::us,off,h=>by simp only[List.take_succ_cons];exact⟨h.1,Iv n h.2⟩
def abu{P:cI}{w:World}{A:Nat->Nat->Prop}{b off:Nat}{us:List Value}(h:kY w A b off us):(loadCells ⟨b,off,none⟩ us.length).run P w= .ok us.toArray w:=run_loadCells_list w _ us fun j v a=>by rw[pJ];exact(uW h a).2
def aqD{P:cI}{w:World}{b off n:Nat}{us:Array Value}{el:gT}{fr:Nat×Nat}(h:w.heap[b]? =some (.cells us el fr))(e:off+n<=us.size):
  (loadCells ⟨b,off,none⟩ n).run P w= .ok ((us.toList.drop off).take n).toArray w:=by
 have d:((us.toList.drop off).take n).length=n:=by simp;omega
 have:=run_loadCells_list (P:=P) w ⟨b,off,none⟩ ((us.toList.drop off).take n) fun j v c=>by
  rw[pJ];have a:j<n:=by have:=(fH.1 c).1;omega
  simp only[World.cell?,h,kf,hR,if_false];rw[List.getElem?_take]at c;simpa[a]using c
 rw[d]at this;exact this
def Un{α:Type}(l r:List α)(n sz:Nat)(h:l.length=sz):(l++r).drop ((n+1)*sz)=r.drop (n*sz):=by
 have e:(n+1)*sz=l.length+n*sz:=by rw[h,Nat.succ_mul,Nat.add_comm]
 rw[e,<-List.drop_drop];simp
def ab5{α:Type}(l r:List α)(n sz:Nat)(h:l.length=sz):(l++r).take ((n+1)*sz)=l++r.take (n*sz):=by
 have e:(n+1)*sz=l.length+n*sz:=by rw[h,Nat.succ_mul,Nat.add_comm]
 rw[e,List.take_length_add_append]
def Jy{w:World}{ν:bc}{sz:Nat}:∀(i:Nat) {xs:List af} {us:List Value} {p:af},dw w ν sz xs us->xs[i]? =some p->
  ∃u,aU w ν p u/\u.cells.size=sz/\u.cells.toList=(us.drop (i*sz)).take sz
 |i,[],_,p,_,a=>by simp at a
 |0,x::xs,us,p,h,a=>by
  simp only[dw]at h;obtain⟨u,c,rfl,⟨J,U,d⟩,_⟩:=h;simp at a;subst a;refine⟨u,J,U,?_⟩;have:u.cells.toList.length=sz:=by simpa using U
  simp[<-this]
 |i+1,x::xs,us,p,h,a=>by
  simp only[dw]at h;obtain⟨u,c,rfl,⟨_,U,_⟩,b⟩:=h;obtain⟨v,g1,g2,g3⟩:=Jy i b (by simpa using a);refine⟨v,g1,g2,?_⟩;have:u.cells.toList.length=sz:=by simpa using U
  rw[g3,Un _ _ _ _ this]
def rJ{w:World}{ν:bc}{sz:Nat}:∀{xs:List af} {us:List Value},dw w ν sz xs us->us.length=xs.length*sz
 |[],us,h=>by simp only[dw]at h;subst h;simp
 |x::xs,us,h=>by
  simp only[dw]at h;obtain⟨u,b,rfl,⟨_,U,_⟩,a⟩:=h;have:u.cells.toList.length=sz:=by simpa using U
  rw[qe,this,rJ a,mV,Nat.succ_mul];omega
def z7{w:World}{ν:bc}{sz:Nat}:∀{xs:List af} {us:List Value},dw w ν sz xs us->∀c∈us,c.oneCell'=true
 |[],us,h=>by simp only[dw]at h;subst h;simp
 |x::xs,us,h=>by
  simp only[dw]at h;obtain⟨u,d,rfl,⟨_,_,b⟩,a⟩:=h;intro c aw;rcases kd.1 aw with aw|aw
  ·exact b c aw
  ·exact z7 a c aw
def Ft{w:World}{ν:bc}{sz:Nat}:∀{b bV:List af} {bm us:List Value},dw w ν sz b bm->dw w ν sz bV us->dw w ν sz (b++bV) (bm++us)
 |[],bV,bm,us,h,a=>by simp only[dw]at h;subst h;simpa using a
 |p::b,bV,bm,us,h,a=>by simp only[dw]at h;obtain⟨u,c,rfl,J,U⟩:=h;simp only[b7,dw];exact⟨u,c++us,Ψ,J,Ft U a⟩
def aa8{w:World}{ν:bc}{sz:Nat}:∀(n:Nat) {xs:List af} {us:List Value},dw w ν sz xs us->dw w ν sz (xs.drop n) (us.drop (n*sz))
 |0,_,_,h=>by simpa using h
 |n+1,[],us,h=>by simp only[dw]at h;subst h;simp[dw]
 |n+1,x::xs,us,h=>by
  simp only[dw]at h;obtain⟨u,b,rfl,⟨_,U,_⟩,a⟩:=h;have:u.cells.toList.length=sz:=by simpa using U
  rw[Un _ _ _ _ this];simpa using aa8 n a
def abb{w:World}{ν:bc}{sz:Nat}:∀(n:Nat) {xs:List af} {us:List Value},dw w ν sz xs us->dw w ν sz (xs.take n) (us.take (n*sz))
 |0,_,_,_=>by simp[dw]
 |n+1,[],us,h=>by simp only[dw]at h;subst h;simp[dw]
 |n+1,x::xs,us,h=>by
  simp only[dw]at h;obtain⟨u,b,rfl,⟨J,U,c⟩,a⟩:=h;have:u.cells.toList.length=sz:=by simpa using U
  simp only[List.take_succ_cons,dw];refine⟨u,b.take (n*sz),?_,⟨J,U,c⟩,abb n a⟩;rw[ab5 _ _ _ _ this]
def qI(sz:Nat)(p:af):Prop:= ∃cs,p= .agg cs/\cs.length=sz
def Ad(agg:Bool)(sz b n i f:Nat):bd dW->bd (Prop×af)
 |some ⟨n',_,a,some xs⟩=>if n'=n/\a=b then
   (match xs[i]? with
    |some p=>if agg then some (eT p=true/\f+sz<=(cells p).length,.agg (((cells p).drop f).take sz))else((cells p)[f]?).map fun q=>(eT p=true,q)
    |none=>none)else none
 |_=>none
def n3(b:List (aB×List af))(e:List (aB×dW))(agg:Bool)(sz:Nat):af->bd (Prop×af)
 | .rptr a k n i f=>Ad agg sz a n i f (ae k e)
 | .ptr k off=>
  match ae k b with
  |some cs=>if agg then some (gV cs=true/\off+sz<=cs.length,.agg ((cs.drop off).take sz))else(cs[off]?).map fun p=>(gV cs=true,p)
  |none=>none
 | .eptr p=>if agg then some (qI sz p,p)else some (eT p=true/\cells p=[p],p)
 |_=>none
def DO(agg:Bool)(sz:Nat):af->bd (Prop×af)
 | .eptr p=>if agg then some (qI sz p,p)else some (eT p=true/\cells p=[p],p)
 |_=>none
def aiu{b:List (aB×List af)}{e:List (aB×dW)}{agg:Bool}{sz:Nat}{p:af}{r:Prop×af}(h:DO agg sz p=some r):n3 b e agg sz p=some r:=by
 cases p<;>simp only[DO]at h<;>first|cases h;done|skip
 simpa only[n3]using h
def ami{b:List (aB×List af)}{e:List (aB×dW)}{agg:Bool}{sz:Nat}{p:af}{r:Prop×af}(h:n3 b [] agg sz p=some r):n3 b e agg sz p=some r:=by cases p<;>simp only[n3]at h⊢ <;>first|exact h|(simp[ae,Ad]at h)
def sY(off:Nat)(agg:Bool)(sz:Nat):af->bd (Prop×af)
 | .ptr k o=>some (True,.ptr k (o+off))
 | .rptr a k n i f=>some (True,.rptr a k n i (f+off))
 | .eptr (.agg cs)=>if agg then some (off+sz<=cs.length,.eptr (.agg ((cs.drop off).take sz)))else(cs[off]?).map fun p=>(eT p=true/\cells p=[p],.eptr p)
 |_=>none
def vO(off:Nat)(agg:Bool)(sz:Nat):af->bd (Prop×af)
 | .agg cs=>if agg then some (off+sz<=cs.length,.agg ((cs.drop off).take sz))else(cs[off]?).map fun p=>(True,p)
 |_=>none
def BL(sz:Nat):af->af->bd (Prop×af)
 | .slice a _ xs,.int _ i=>if a=sz then some (0<=i/\i<xs.length,.eptr (xs.getD i.toNat .junk))else none
 | .row a k n,.int _ i=>if a=sz then some (0<=i/\i<n,.rptr a k n i.toNat 0)else none
 |_,_=>none
def JT:af->af->bd (Prop×af)
 | .str s,.int _ i=>some (0<=i/\i<s.length,.int .u8 (s.getD i.toNat 0).toNat)
 |_,_=>none
def sy(a:Int):bd af->bd Int
 |none=>some a
 |some (.int _ i)=>some i
 |_=>none
def JY(x:af)(lo hi:bd af):bd (Prop×af):=
 match x with
 | .str s=>match sy 0 lo,sy s.length hi with
  |some l,some h=>some (0<=l/\l<=h/\h<=s.length,.str ((s.take h.toNat).drop l.toNat))
  |_,_=>none
 |_=>none
def IC(sz:Nat)(x:af)(lo hi:bd af):bd (Prop×af):=
 match x with
 | .slice a _ xs=>if a=sz then match sy 0 lo,sy xs.length hi with
  |some l,some h=>some (0<=l/\l<=h/\h<=xs.length,.slice sz .no ((xs.take h.toNat).drop l.toNat))
  |_,_=>none else none
 |_=>none
def tB(n:Int):Prop:= -9223372036854775808<=n/\n<=9223372036854775807
def Ia(op:BinOp)(wr:Bool)(k:IntKind)(a b:Int):bd (Prop×af):=
 match op with
 | .add=>if wr then some (True,.int k (k.wrap (a+b)))else some (k= .i64/\tB (a+b),.int .i64 (a+b))
 | .sub=>if wr then some (True,.int k (k.wrap (a-b)))else some (k= .i64/\tB (a-b),.int .i64 (a-b))
 | .mul=>if wr then some (True,.int k (k.wrap (a*b)))else some (k= .i64/\tB (a*b),.int .i64 (a*b))
 | .quo=>some (b≠0,.int k (k.wrap (a.tdiv b)))
 | .rem=>some (b≠0,.int k (a.tmod b))
 | .eql=>some (True,.bool (a==b))
 | .neq=>some (True,.bool (a !=b))
 | .lss=>some (True,.bool (decide (a<b)))
 | .leq=>some (True,.bool (decide (a<=b)))
 | .gtr=>some (True,.bool (decide (b<a)))
 | .geq=>some (True,.bool (decide (b<=a)))
 | .and=>some (True,.int k (k.wrap (rP k.bits a&&& rP k.bits b).toNat))
 | .or=>some (True,.int k (k.wrap (rP k.bits a|||rP k.bits b).toNat))
 | .xor=>some (True,.int k (k.wrap (rP k.bits a ^^^ rP k.bits b).toNat))
 |_=>none
def JZ(op:BinOp)(a b:List cS):bd (Prop×af):=
 match op with
 | .add=>some (a.length+b.length<=lim,.str (a++b))
 | .eql=>some (True,.bool (a==b))
 | .neq=>some (True,.bool (!(a==b)))
 | .lss=>some (True,.bool (iu a b))
 | .leq=>some (True,.bool (iu a b||a==b))
 | .gtr=>some (True,.bool (!(iu a b||a==b)))
 | .geq=>some (True,.bool (!iu a b))
 |_=>none
def Di(op:BinOp)(wr:Bool):af->af->bd (Prop×af)
 | .int k a,.int bs b=>match op with
  | .shl=>some (0<=b,.int k (k.wrap (a*2 ^ (min b.toNat k.bits))))
  | .shr=>some (0<=b,.int k (a.fdiv (2 ^ (min b.toNat k.bits))))
  |_=>if k=bs then Ia op wr k a b else none
 | .str a,.str b=>JZ op a b
 |_,_=>none
def nD(cs:List af)(off:Nat)(a:List af):List af:=cs.take off++a++cs.drop (off+a.length)
def vG(t:List (Nat×af)):List af->List (Nat×Nat×dP)->bd (Prop×List af)
 |cs,[]=>some (True,cs)
 |cs,(off,sz,x)::r=>
  let p:=cE t x
  match vG t (nD cs off (cells p)) r with
  |some (c,cs')=>some ((eT p=true/\(cells p).length=sz/\off+sz<=cs.length)/\c,cs')
  |none=>none
def I9(c x y:af):bd (Prop×af):=
 match c with
 | .bool b=>match x,y with
  | .bool u,.bool v=>some (True,.bool (cond b u v))
  |p,q=>match b with
   |true=>some (True,p)
   |false=>some (True,q)
 |_=>none
def IW:af->bd (Prop×af)
 | .bool b=>some (True,.bool (!b))
 |_=>none
def IQ:af->bd (Prop×af)
 | .int k n=>some (True,.int k (k.wrap (0-n)))
 |_=>none
def A3(i:Nat):af->bd (Prop×af)
 | .tuple bm=>(bm[i]?).map fun p=>(True,p)
 |_=>none
def BY:af->bd (Prop×af)
 | .slice _ _ xs=>some (True,.int .i64 xs.length)
 | .row _ _ n=>some (True,.int .i64 n)
 | .cst (.slice _ n _)=>some (True,.int .i64 n)
 |_=>none
def FJ:af->bd (Prop×af)
 | .str s=>some (True,.int .i64 s.length)
 | .cst (.string s)=>some (True,.int .i64 s.size)
 |_=>none
def GY(k:IntKind):af->bd (Prop×af)
 | .int _ n=>some (True,.int k (k.wrap n))
 |_=>none
def r4:List af->bd (List cS)
 |[]=>some []
 | .int .u8 n::r=>(r4 r).map (UInt8.ofNat n.toNat:: ·)
 |_=>none
def Gu:af->bd (Prop×af)
 | .slice _ _ xs=>(r4 xs).map fun s=>(True,.str s)
 |_=>none
def Cc:af->bd (Prop×af)
 | .ptr k o=>some (True,.ptr k o)
 | .eptr p=>some (True,.eptr p)
 | .func f cs=>some (True,.func f cs)
 |_=>none
def IM:af->af->bd (Prop×af)
 | .int k a,.int bs b=>if k=bs then some (True,.int k (if b<a then b else a))else none
 |_,_=>none
def kR:List Bool->List af->List af->bd Bool
 |[],[],[]=>some true
 |false::r,.int k a::as,.int bs b::c=>if k=bs then(kR r as c).map fun q=>(a==b)&&q else none
 |true::r,.str a::as,.str b::c=>(kR r as c).map fun q=>(a==b)&&q
 |_,_,_=>none
inductive kh where
 |i
 |s
 |a (ek:List Bool)
 deriving DecidableEq
def uS:kh->af->af->bd Bool
 | .i,.int k a,.int bs b=>if k=bs then some (a==b)else none
 | .s,.str a,.str b=>some (a==b)
 | .a c,.agg as,.agg d=>kR c as d
 |_,_,_=>none
def xT:kh->af->Bool
 | .a a,.agg as=>(kR a as as).isSome
 | .a _,_=>false
 |_,_=>true
@[simp]def XF(k:af):xT .i k=true:=by cases k<;>rfl
def xY(a:kh)(k:af):List af->bd (bd af)
 |bs::v::r=>match uS a k bs with
  |some true=>some (some v)
  |some false=>xY a k r
  |none=>none
 |_=>some none
def pf(b:aB->bd (List af))(a:kh)(zero:af)(ok:Bool)(x k:af):bd (Prop×af):=
 match x with
 | .gmap key=>match b key with
  |some (.hdm _ _::kvs)=>if xT a k=false then none else match xY a k kvs with
   |some (some v)=>some (True,if ok then .tuple [v,.bool true]else v)
   |some none=>some (True,if ok then .tuple [zero,.bool false]else zero)
   |none=>none
  |_=>none
 |_=>none
def Cb(b:aB->bd (List af))(x:af):bd (Prop×af):=
 match x with
 | .gmap key=>match b key with
  |some (.hdm _ borns::_)=>some (True,.int .i64 borns.length)
  |_=>none
 |_=>none
def js(neg:Bool):bd (List Bool)->af->af->bd (Prop×af)
 |none,.bool a,.bool b=>some (True,.bool (if neg then a !=b else a==b))
 |some c,.agg as,.agg d=>(kR c as d).map fun q=>(True,.bool (if neg then !q else q))
 |_,_,_=>none
def IG:af->af->bd (Prop×af)
 | .int k a,.int bs b=>if k=bs then some (True,.int k (if a<b then b else a))else none
 |_,_=>none
def wz(a:kh)(k v:af):List af->bd (bd (List af))
 |bs::v'::r=>match uS a k bs with
  |some true=>some (some (k::v::r))
  |some false=>match wz a k v r with
   |some (some b)=>some (some (bs::v'::b))
   |some none=>some none
   |none=>none
  |none=>none
 |_=>some none
def n5(n:Nat):List Nat->List af->bd af
 |b::a,k::v::r=>if b=n then some (.tuple [k,v])else n5 n a r
 |_,_=>none
def qL(b:aB->bd (List af))(x:af):bd (Prop×af):=
 match x with
 | .ptr gk 0=>match b gk with
  |some [.hdi _ seen last,.gmap mk]=>match b mk with
   |some (.hdm clock borns::kvs)=>match seen.getLast? with
    |some n=>(n5 n borns kvs).map fun p=>(clock=last,p)
    |none=>none
   |_=>none
  |_=>none
 |_=>none
def YB{f g:aB->bd (List af)}(h:∀k,f k≠none->g k=f k){b:kh}{zero:af}{ok:Bool}{x k:af}{r:Prop×af}(he:pf f b zero ok x k=some r):pf g b zero ok x k=some r:=by
 unfold pf at he⊢;split at he
 ·rename_i key;cases a:f key with
  |none=>simp[a]at he
  |some cs=>rw[h key (by rw[a];simp),a];rw[a]at he;exact he
 ·cases he
def amW{f g:aB->bd (List af)}(h:∀k,f k≠none->g k=f k){x:af}{r:Prop×af}(he:Cb f x=some r):Cb g x=some r:=by
 unfold Cb at he⊢;split at he
 ·rename_i key;cases a:f key with
  |none=>simp[a]at he
  |some cs=>rw[h key (by rw[a];simp),a];rw[a]at he;exact he
 ·cases he
def amx{f g:aB->bd (List af)}(h:∀k,f k≠none->g k=f k){x:af}{r:Prop×af}(he:qL f x=some r):qL g x=some r:=by
 unfold qL at he⊢;split at he
 ·rename_i gk;cases b:f gk with
  |none=>simp[b]at he
  |some cs=>
   simp only[h gk (by rw[b];simp),b]at he⊢;split at he
   ·rename_i since seen last mk d;cases a:f mk with
    |none=>simp[a]at he
    |some c=>simp only[h mk (by rw[a];simp),a]at he⊢;exact he
   ·cases he
 ·cases he
inductive gO where
 |mov (x:dP)
 |pick (c x y:dP)
 |load (agg:Bool) (sz:Nat) (x:dP)
 |faddr (off:Nat) (agg:Bool) (sz:Nat) (x:dP)
 |fld (off:Nat) (agg:Bool) (sz:Nat) (x:dP)
 |iaddr (sz:Nat) (x i:dP)
 |sidx (x i:dP)
 |ssl (x:dP) (lo hi:bd dP)
 |lsl (sz:Nat) (x:dP) (lo hi:bd dP)
 |bin (op:BinOp) (wr:Bool) (x y:dP)
 |notB (x:dP)
 |neg (x:dP)
 |conv (k:IntKind) (x:dP)
 |ext (i:Nat) (x:dP)
 |len (x:dP)
 |slen (x:dP)
 |build (zero:List af) (parts:List (Nat×Nat×dP))
 |nck (x:dP)
 |min2 (x y:dP)
 |mkf (n:Nat) (xs:List dP)
 |mget (cA:kh) (zero:af) (ok:Bool) (x k:dP)
 |ment (x:dP)
 |mlen (x:dP)
 |beq (neg:Bool) (ek:bd (List Bool)) (x y:dP)
 |max2 (x y:dP)
 |mkif (t:Nat) (x:dP)
 |loadB (agg:Bool) (sz:Nat) (x:dP)
 |mgetB (cA:kh) (zero:af) (ok:Bool) (x k:dP)
 |loadZ (agg:Bool) (sz:Nat) (x:dP)
 |b2s (x:dP)
def hZ(st:bp):gO->bd (Prop×af)
 | .mov x=>some (True,cE st.t x)
 | .pick c x y=>I9 (cE st.t c) (cE st.t x) (cE st.t y)
 | .load agg sz x=>n3 st.b st.e agg sz (cE st.t x)
 | .faddr off agg sz x=>sY off agg sz (cE st.t x)
 | .fld off agg sz x=>vO off agg sz (cE st.t x)
 | .iaddr sz x i=>BL sz (cE st.t x) (cE st.t i)
 | .sidx x i=>JT (cE st.t x) (cE st.t i)
 | .ssl x lo hi=>JY (cE st.t x) (lo.map (cE st.t)) (hi.map (cE st.t))
 | .lsl sz x lo hi=>IC sz (cE st.t x) (lo.map (cE st.t)) (hi.map (cE st.t))
 | .bin op wr x y=>Di op wr (cE st.t x) (cE st.t y)
 | .notB x=>IW (cE st.t x)
 | .neg x=>IQ (cE st.t x)
 | .conv k x=>GY k (cE st.t x)
 | .ext i x=>A3 i (cE st.t x)
 | .len x=>BY (cE st.t x)
 | .slen x=>FJ (cE st.t x)
 | .build zero parts=>(vG st.t zero parts).map fun(c,cs)=>(c,.agg cs)
 | .nck x=>Cc (cE st.t x)
 | .min2 x y=>IM (cE st.t x) (cE st.t y)
 | .mkf n xs=>some (True,.func n (xs.map (cE st.t)))
 | .mget a zero ok x k=>pf (fun k=>ae k st.b) a zero ok (cE st.t x) (cE st.t k)
 | .ment x=>qL (fun k=>ae k st.b) (cE st.t x)
 | .mlen x=>Cb (fun k=>ae k st.b) (cE st.t x)
 | .beq neg b x y=>js neg b (cE st.t x) (cE st.t y)
 | .max2 x y=>IG (cE st.t x) (cE st.t y)
 | .mkif t x=>some (True,.iface t (cE st.t x))
 | .loadB agg sz x=>n3 st.b [] agg sz (cE st.t x)
 | .mgetB a zero ok x k=>pf (fun k=>ae k st.b) a zero ok (cE st.t x) (cE st.t k)
 | .loadZ agg sz x=>DO agg sz (cE st.t x)
 | .b2s x=>Gu (cE st.t x)
def Co(aT:List (Nat×ev))(a:List (Nat×Nat)):List (Nat×Nat×dP)->List (Nat×Operand)->Bool
 |[],[]=>true
 |(off,sz,x)::r,(i,o)::s=>(match a[i]? with|some (b,t)=>off==b&&((eF aT t).map (·.size))==some sz|none=>false)&&eS x o&&Co aT a r s
 |_,_=>false
def Kn:af->af->Bool
 | .int k n,.int bs n'=>decide (k=bs/\n=n')
 | .bool b,.bool b2=>b==b2
 | .str [],.str []=>true
 | .slice a .nil [],.slice b .nil []=>a==b
 | .nilp,.nilp=>true
 | .junk,.junk=>true
 |_,_=>false
def Av:List af->List af->Bool
 |[],[]=>true
 |c::cs,d::a=>Kn c d&&Av cs a
 |_,_=>false
def C4:af->af->Bool
 | .agg cs,.agg a=>Av cs a
 | .agg _,_=>false
 |p,q=>Kn p q
def zU:List dP->List Operand->Bool
 |[],[]=>true
 |x::xs,o::os=>eS x o&&zU xs os
 |_,_=>false
def Ba(aT:List (Nat×ev)):Nat->List Bool->List (Nat×Nat)->Bool
 |_,[],[]=>true
 |n,b::r,(off,t)::a=>off==n&&(match eF aT t with|some ⟨_,_,.int _,_⟩=> !b|some ⟨_,_,.str,_⟩=>b|_=>false)&&Ba aT (n+1) r a
 |_,_,_=>false
def Hk(aT:List (Nat×ev))(a:List Bool)(t:Nat):Bool:=match eF aT t with
 |some ⟨_,_,.struct gs,_⟩=>Ba aT 0 a gs
 |_=>false
def zF(aT:List (Nat×ev))(b:kh)(t:Nat):Bool:=match b with
 | .i=>(match eF aT t with|some ⟨_,_,.int _,_⟩=>true|_=>false)
 | .s=>(match eF aT t with|some ⟨_,_,.str,_⟩=>true|_=>false)
 | .a a=>Hk aT a t
def Rb:List af->af->Bool
 |cs,.agg a=>Av cs a
 |_,_=>false
def x7:bd dP->bd Operand->Bool
 |none,none=>true
 |some x,some o=>eS x o
 |_,_=>false
def F1(aT:List (Nat×ev)):gO->Op->Bool
 | .mov x,.move o=>eS x o
 | .mov x,.assign o=>eS x o
 | .pick c x y,.pick u x' y'=>eS c u&&eS x x'&&eS y y'
 | .load agg sz x,.load t o=>(match eF aT t with|some f=>f.size==sz&&f.kind.isAgg==agg|none=>false)&&eS x o
 | .faddr off agg sz x,.fieldAddr s o i=>
  (match eF aT s with
   |some ⟨_,_,.struct a,_⟩=>(match a[i]? with|some (b,t)=>off==b&&(match eF aT t with|some f=>f.size==sz&&f.kind.isAgg==agg&&sz !=0|none=>false)|none=>false)
   |_=>false)&&eS x o
 | .fld off agg sz x,.field s o i=>
  (match eF aT s with
   |some ⟨_,_,.struct a,_⟩=>(match a[i]? with|some (b,t)=>off==b&&(match eF aT t with|some f=>f.size==sz&&f.kind.isAgg==agg|none=>false)|none=>false)
   |_=>false)&&eS x o
 | .iaddr sz x i,.indexAddr t o j=>(match eF aT t with|some ⟨_,_,.slice e,_⟩=>(match eF aT e with|some f=>f.size==sz|none=>false)|_=>false)&&eS x o&&eS i j
 | .sidx x i,.index t o j=>(match eF aT t with|some ⟨_,_,.str,_⟩=>true|_=>false)&&eS x o&&eS i j
 | .ssl x lo hi,.slice t o l h none=>(match eF aT t with|some ⟨_,_,.str,_⟩=>true|_=>false)&&eS x o&&x7 lo l&&x7 hi h
 | .lsl sz x lo hi,.slice t o l h none=>(match eF aT t with|some ⟨_,_,.slice e,_⟩=>(match eF aT e with|some f=>f.size==sz|none=>false)|_=>false)&&eS x o&&x7 lo l&&x7 hi h
 | .bin op _ x y,.binOp w _ o o' _=>decide (op=w)&&eS x o&&eS y o'
 | .notB x,.unOp op _ o=>decide (op= .not)&&eS x o
 | .neg x,.unOp op _ o=>decide (op= .neg)&&eS x o
 | .conv k x,.convert s d o=>(match eF aT s,eF aT d with|some ⟨_,_,.int _,_⟩,some ⟨_,_,.int bs,_⟩=>decide (k=bs)|_,_=>false)&&eS x o
 | .ext i x,.extract o j=>i==j&&eS x o
 | .len x,.call ⟨.builtin .len,⟨[o]⟩,⟨[t]⟩⟩=>(match eF aT t with|some ⟨_,_,.slice _,_⟩=>true|_=>false)&&eS x o
 | .slen x,.call ⟨.builtin .len,⟨[o]⟩,⟨[t]⟩⟩=>(match eF aT t with|some ⟨_,_,.str,_⟩=>true|_=>false)&&eS x o
 | .build zero parts,.build t v=>(match eF aT t with|some ⟨_,_,.struct a,z⟩=>Rb zero z&&(a.all fun x=>(eF aT x.2).isSome)&&Co aT a parts v.toList|_=>false)
 | .nck x,.nilCheck o=>eS x o
 | .min2 x y,.call ⟨.builtin .min,⟨[o,o']⟩,⟨[_,_]⟩⟩=>eS x o&&eS y o'
 | .mkf n xs,.makeFunc (.func m) ⟨[]⟩ os=>n==m&&zU xs os.toList
 | .mget q zero ok x k,.lookup t o o' r=>ok==r&&(match eF aT t with|some ⟨_,_,.map p g,_⟩=>zF aT q p&&(match eF aT g with|some f=>C4 zero f.zero|none=>false)|_=>false)&&eS x o&&eS k o'
 | .ment x,.entry o=>eS x o
 | .mlen x,.call ⟨.builtin .len,⟨[o]⟩,⟨[t]⟩⟩=>(match eF aT t with|some ⟨_,_,.map _ _,_⟩=>true|_=>false)&&eS x o
 | .beq neg a x y,.binOp op t o o' _=>decide (op=if neg then .neq else .eql)&&(match a with|none=>(match eF aT t with|some ⟨_,_,.bool,_⟩=>true|_=>false)|some a=>Hk aT a t)&&eS x o&&eS y o'
 | .max2 x y,.call ⟨.builtin .max,⟨[o,o']⟩,⟨[_,_]⟩⟩=>eS x o&&eS y o'
 | .mkif t x,.makeInterface t' o=>t==t'&&(match eF aT t with|some ⟨_,_,.slice _,_⟩=>true|_=>false)&&eS x o
 | .loadB agg sz x,.load t o=>(match eF aT t with|some f=>f.size==sz&&f.kind.isAgg==agg|none=>false)&&eS x o
 | .b2s x,.convert s d o=>(match eF aT s,eF aT d with|some ⟨_,_,.slice e,_⟩,some ⟨_,_,.str,_⟩=>(match eF aT e with|some ⟨_,_,.int .u8,_⟩=>true|_=>false)|_,_=>false)&&eS x o
 | .loadZ agg sz x,.load t o=>(match eF aT t with|some f=>f.size==sz&&f.kind.isAgg==agg|none=>false)&&eS x o
 | .mgetB q zero ok x k,.lookup t o o' r=>ok==r&&(match eF aT t with|some ⟨_,_,.map p g,_⟩=>zF aT q p&&(match eF aT g with|some f=>C4 zero f.zero|none=>false)|_=>false)&&eS x o&&eS k o'
 |_,_=>false
end
section
open Go Go.RowKit
def LQ(P:cI)(w:World)(op:BinOp)(t:gT)(x y:Operand)(k bs:IntKind)(m n:Int):(eqGuard op t x y (.int k m) (.int bs n)).run P w= .ok () w:=by cases op<;>rfl
def afp(P:cI)(w:World)(op:BinOp)(t:gT)(x y:Operand)(m n:ByteArray):(eqGuard op t x y (.string m) (.string n)).run P w= .ok () w:=by cases op<;>rfl
def arF(l:List cS):(⟨l.toArray⟩:ByteArray).toList=l:=Ψ
def adQ(a b:List cS):(⟨a.toArray⟩:ByteArray)++(⟨b.toArray⟩:ByteArray)=⟨(a++b).toArray⟩:=by apply ats;simp
def agl(a:List cS)(l h:Nat):(⟨a.toArray⟩:ByteArray).extract l h=⟨((a.take h).drop l).toArray⟩:=by apply ats;simp[List.drop_take]
def FI(a:List cS):(⟨a.toArray⟩:ByteArray).size=a.length:=by simp[ax9]
section
variable {P:cI} {w:World} {r:Sem Value}
def s5{k:IntKind}{x:Int}(h:r.run P w= .ok (.int k x) w):∃v,r.run P w= .ok v w/\∀ν,aU w ν (.int k x) v:=⟨_,h,fun ν=>by simp[aU]⟩
def VU{x:Bool}(h:r.run P w= .ok (.bool x) w):∃v,r.run P w= .ok v w/\∀ν,aU w ν (.bool x) v:=⟨_,h,fun ν=>by simp[aU]⟩
end
def als(P:cI)(w:World){op:BinOp}{wr:Bool}{k:IntKind}{a b:Int}{c:Prop}{p:af}(he:Ia op wr k a b=some (c,p))(aw:c)(t:gT):
  ∃v,(binOp op t (.int k a) (.int k b)).run P w= .ok v w/\∀ν,aU w ν p v:=by
 cases op<;>simp only[Ia]at he;case add=>
  cases wr<;>simp only[if_true,hR,if_false]at he<;>cases he
  ·obtain⟨rfl,h⟩:=aw;exact s5 (by simp[binOp,Op.intArith,pt _ h])
  ·exact s5 (by simp[binOp,Op.intArith])
 case sub=>
  cases wr<;>simp only[if_true,hR,if_false]at he<;>cases he
  ·obtain⟨rfl,h⟩:=aw;exact s5 (by simp[binOp,Op.intArith,pt _ h])
  ·exact s5 (by simp[binOp,Op.intArith])
 case mul=>
  cases wr<;>simp only[if_true,hR,if_false]at he<;>cases he
  ·obtain⟨rfl,h⟩:=aw;exact s5 (by simp[binOp,Op.intArith,pt _ h])
  ·exact s5 (by simp[binOp,Op.intArith])
 case quo=>cases he;exact s5 (by simp[binOp,Op.intDiv,aw])
 case rem=>cases he;exact s5 (by simp[binOp,Op.intDiv,aw])
 case and=>cases he;exact s5 (by simp only[binOp,Op.intBits,ne_eq,not_true_eq_false,if_false,hA])
 case or=>cases he;exact s5 (by simp only[binOp,Op.intBits,ne_eq,not_true_eq_false,if_false,hA])
 case xor=>cases he;exact s5 (by simp only[binOp,Op.intBits,ne_eq,not_true_eq_false,if_false,hA])
 all_goals cases he
 all_goals exact VU (by simp only[binOp,Op.intCmp,ne_eq,not_true_eq_false,if_false,hA,gt_iff_lt,ge_iff_le])
def arj(P:cI)(w:World){op:BinOp}{a b:List cS}{c:Prop}{p:af}(he:JZ op a b=some (c,p))(aw:c)(t:gT):
  ∃v,(binOp op t (.string ⟨a.toArray⟩) (.string ⟨b.toArray⟩)).run P w= .ok v w/\∀ν,aU w ν p v:=by
 cases op<;>simp only[JZ]at he;case add=>
  cases he;refine⟨.string ⟨(a++b).toArray⟩,?_,fun ν=>by simp only[aU];exact⟨trivial,by simpa using aw⟩⟩;have J:¬(((⟨a.toArray⟩:ByteArray).size+(⟨b.toArray⟩:ByteArray).size:Nat):Int)>vn.max:=by
   have:vn.max=9223372036854775807:=by decide
   rw[this,FI,FI];simp only[lim]at aw;omega
  simp only[binOp,Op.stringOp,J,if_false,hA,adQ]
 all_goals cases he
 all_goals exact VU (by simp only[binOp,Op.stringOp,arF,hA])
def ad5(P:cI)(w:World)(ν:bc){op:BinOp}{wr:Bool}{x y:af}{c:Prop}{p:af}(he:Di op wr x y=some (c,p))(aw:c)(t:gT){u v:Value}(hu:aU w ν x u)(d:aU w ν y v)(o o':Operand):
  ∃r,(do eqGuard op t o o' u v;binOp op t u v).run P w= .ok r w/\aU w ν p r:=by
 unfold Di at he;split at he
 ·rename_i k a bs b;simp only[aU]at hu d;subst hu;subst d;split at he
  ·cases he;refine⟨_,?_,by simp[aU];rfl⟩;simp[binOp,Op.shift,LQ,Int.not_lt.2 aw]
  ·cases he;refine⟨_,?_,by simp[aU];rfl⟩;simp[binOp,Op.shift,LQ,Int.not_lt.2 aw]
  ·split at he
   ·rename_i e;subst e;obtain⟨r,J,U⟩:=als P w he aw t;exact⟨r,by simp[LQ,J],U ν⟩
   ·cases he
 ·simp only[aU]at hu d;rw[hu.1,d.1];obtain⟨r,J,U⟩:=arj P w he aw t;exact⟨r,by simp[afp,J],U ν⟩
 ·cases he
def Md{w:World}{ν:bc}:∀(v:List Value) (i off:Nat) (cs:Array Value),off+i+v.length<=cs.size->
  ((v.zipIdx i).foldl (fun cs (x:Value×Nat)=>cs.setIfInBounds (off+x.2) x.1) cs).toList=cs.toList.take (off+i)++v++cs.toList.drop (off+i+v.length)
 |[],i,off,cs,_=>by simp
 |u::v,i,off,cs,h=>by
  simp only[List.zipIdx_cons,List.foldl_cons];rw[Md (w:=w) (ν:=ν) v (i+1) off _ (by simp at h⊢;omega)];have a:off+i<cs.toList.length:=by simp at h⊢;omega
  simp only[Array.toList_setIfInBounds];have b:(cs.toList.set (off+i) u).take (off+(i+1))=cs.toList.take (off+i)++[u]:=by rw[show off+(i+1)=(off+i)+1 from by omega,List.take_succ_eq_append_getElem (by simpa using a)];simp[List.take_set_of_le (dO _)]
  have c:(cs.toList.set (off+i) u).drop (off+(i+1)+v.length)=cs.toList.drop (off+i+(u::v).length):=by rw[List.drop_set_of_lt Ω];congr 1;simp;omega
  rw[b,c];simp
def abr{w:World}{ν:bc}{C:fm}{st:bp}{a:Act}(n:c9 C st a w ν){aT:List (Nat×ev)}{l:List (Nat×Nat)}{f:List (Nat×Nat)}
  (m:∀(i off t sz:Nat),l[i]? =some (off,t)->(eF aT t).map (·.size)=some sz->f[i]? =some (off,sz)):
  ∀(parts:List (Nat×Nat×dP)) (d:List (Nat×Operand)) (cs:List af) (us:Array Value) (c:Prop) (cs':List af),Co aT l parts d=true->cW w ν cs us.toList->vG st.t cs parts=some (c,cs')->c->
  ∃e:Array Value,Instr.fill (f.toArray[·]?) us (d.map fun(x:Nat×Operand)=>(x.1,a.eval x.2))=some e/\cW w ν cs' e.toList
 |[],[],cs,us,c,cs',_,h,he,aw=>by simp only[vG]at he;cases he;exact⟨us,by simp[Instr.fill],h⟩
 |[],_::_,_,_,_,_,b,_,_,_=>by simp[Co]at b
 |_::_,[],_,_,_,_,b,_,_,_=>by simp[Co]at b
 |(off,sz,x)::parts,(i,o)::d,cs,us,c,cs',b,h,he,aw=>by
  simp only[Co,cQ]at b;obtain⟨⟨J,U⟩,A⟩:=b;split at J
  ·rename_i H t G;simp only[cQ,ey]at J;obtain⟨rfl,J⟩:=J;have r:=m i off t sz G J;simp only[vG]at he;split at he
   ·rename_i v z E;cases he;obtain⟨⟨B,y,hle⟩,u⟩:=aw;have F:=e3 n U;have j:=wJ F B;have hlen:=qQ j;have q:=qQ h;have k:(a.eval o).cells.size=sz:=by have:(a.eval o).cells.toList.length=(cells (cE st.t x)).length:=hlen;rw[y]at this;simpa using this
    have g:us.size=cs.length:=by simpa using q
    have p:=Md (w:=w) (ν:=ν) (a.eval o).cells.toList 0 off us (by simp[k,g];omega);have s:cW w ν (nD cs off (cells (cE st.t x))) ((((a.eval o).cells.toList.zipIdx 0).foldl (fun cs (x:Value×Nat)=>cs.setIfInBounds (off+x.2) x.1) us).toList):=by rw[p];unfold nD;refine z8 (z8 (Fv off h) j) ?_;rw[Nat.add_zero,hlen];exact CE _ h
    obtain⟨e,g1,g2⟩:=abr n m parts d _ _ v cs' A s E u;refine⟨e,?_,g2⟩;simp only[gY,Instr.fill,List.getElem?_toArray,r];rw[if_neg (by simp[k,g];omega)];rw[<-g1];simp only[List.getElem?_toArray];congr 1;rw[<-Array.foldl_toList];simp
   ·cases he
  ·cases J
end
section
open Go Go.RowKit
def wQ{P:cI}{aT:List (Nat×ev)}(e:hY P aT=true){t:Nat}{f:ev}(g:eF aT t=some f)(w:World):
  (Go.isAgg t).run P w= .ok f.kind.isAgg w/\(sizeOf t).run P w= .ok f.size w:=by
 obtain⟨i,d,z,J,U,b,l,a,k,j,h⟩:=(wR e g).ex;refine⟨?_,by simp[sizeOf,typeInfo,J,b]⟩;simp only[Go.isAgg,gx,run_underlying U,gC];cases c:f.kind<;>rw[c]at a<;>cases d<;>simp[k7]at a<;>simp[Db.isAgg]
def jm{P:cI}{aT:List (Nat×ev)}(b:hY P aT=true){t:Nat}{f:ev}(c:eF aT t=some f):∃d,P.underlying t=some d/\k7 f.kind d=true:=by obtain⟨i,d,z,J,U,j,k,a,h,g,e⟩:=(wR b c).ex;exact⟨d,U,a⟩
def sT{e:Nat}{d:TypeDesc}(h:k7 (.slice e) d=true):d= .slice e:=by cases d<;>simp[k7]at h;subst h;rfl
def yV{d:TypeDesc}(h:k7 .str d=true):d= .string:=by cases d<;>simp[k7]at h;rfl
def Dw{k:IntKind}{d:TypeDesc}(h:k7 (.int k) d=true):d= .int k:=by cases d<;>simp[k7]at h;subst h;rfl
def Lz{a:List (Nat×Nat)}{d:TypeDesc}(h:k7 (.struct a) d=true):∃gs:Array Field,d= .struct gs/\gs.toList.map (fun f=>(f.offset,f.type))=a:=by cases d<;>simp[k7]at h;rename_i gs;exact⟨gs,rfl,by simpa using h⟩
def JB{w:World}{ν:bc}{cs:List af}{us:List Value}(h:cW w ν cs us)(off sz:Nat):cW w ν ((cs.drop off).take sz) ((us.drop off).take sz):=Fv sz (CE off h)
def ZK{w:World}{base el sz n:Nat}{v:Value}{us:List Value}(h:w.ownsRow base el sz v n us){b:Nat}(a:v.ownBlock=some b):∃cap,v= .slice (some ⟨b,0,none⟩) n cap:=by
 rcases h.2 with⟨rfl,_⟩|⟨g,cap,cur,rfl,_⟩
 ·simp[pz]at a
 ·simp[pz]at a;subst a;exact⟨cap,rfl⟩
def Good.rowElem{pr:Nat->Prop}{w:World}{ν:bc}{b:List (aB×List af)}{e:List (aB×dW)}(bf:Good pr w ν b e){k:aB}{n el sz:Nat}{xs:List af}(B:ae k e=some ⟨n,el,sz,some xs⟩){i f:Nat}{u:Value}(m:aU w ν (.rptr sz k n i f) u){p:af}(x:xs[i]? =some p):
  ∃(v:Value) (us:List Value) (E:Nat),aU w ν p v/\v.cells.size=sz/\∃b o,u= .pointer (some ⟨b,o,none⟩)/\∀j c,v.cells.toList[f+j]? =some c->w.cell? ⟨b,o+j,none⟩=some c:=by
 simp only[aU]at m;obtain⟨_,hi,n',F,J,U,z⟩:=m;obtain⟨v,us,d,l,G,r⟩:=bf.own k _ B;rw[J]at d;simp only[dU,jo]at d;obtain⟨rfl,rfl⟩:=d;obtain⟨bl,A,rfl⟩:=z rfl;obtain⟨cap,rfl⟩:=ZK l A;obtain⟨y,g,_⟩:=r xs rfl;simp only at y g;obtain⟨v,s,h,q⟩:=Jy i g x;refine⟨v,us,el,s,h,bl,_,rfl,fun j c a=>?_⟩;have t:f+j<sz:=by have:=(fH.1 a).1;simp[h]at this;exact this
 have hmul:i*sz+sz<=n'*sz:=by have:=rT sz (show i+1<=n' from hi);rwa[Nat.succ_mul]at this
 have aw:=l.cellAt (i*sz+f+j) (by show _<n'*sz;omega);rw[aw];rw[q,List.getElem?_take,if_pos t,List.getElem?_drop]at a;rw[<-a];congr 1;omega
def IA{P:cI}{aT:List (Nat×ev)}(V:hY P aT=true){pr:Nat->Prop}{w:World}{ν:bc}{b:List (aB×List af)}{e:List (aB×dW)}(bf:Good pr w ν b e){t:Nat}{f:ev}(W:eF aT t=some f)
  {x:af} {u:Value} (l:aU w ν x u) {c:Prop} {p:af} (he:n3 b e f.kind.isAgg f.size x=some (c,p)) (aw:c):∃v,(Instr.loadAt t u).run P w= .ok v w/\aU w ν p v:=by
 obtain⟨d,F⟩:=wQ V W w;generalize HA:f.kind.isAgg=h at*;generalize en:f.size=sz at*;unfold n3 at he;split at he
 ·rename_i ed k n i g;unfold Ad at he;split at he
  ·rename_i n' el Z xs G;split at he
   ·rename_i Y;obtain⟨rfl,rfl⟩:=Y;split at he
    ·rename_i O E;obtain⟨H,us,gJ,g1,g2,a⟩:=Good.rowElem bf G l E;have Q:eT O=true:=by
      cases h
      ·simp only[hR,if_false,hq]at he;obtain⟨q,_,he⟩:=he;cases he;exact aw
      ·simp only[if_true]at he;cases he;exact aw.1
     have A:=wJ g1 Q;cases h
     ·simp only[hR,if_false,hq]at he;obtain⟨q,r,he⟩:=he;cases he;obtain⟨v,f1,f2,f3⟩:=Fu g A r;refine⟨v,?_,f2⟩;obtain⟨b,o,rfl,a⟩:=a;have:=a 0 v (by simpa using f1);simp only[Nat.add_zero]at this;simp[Instr.loadAt,Instr.sureAddr,loadVar,d,this]
     ·simp only[if_true]at he;cases he;obtain⟨b,o,rfl,a⟩:=a;refine⟨.agg ((H.cells.toList.drop g).take sz).toArray,?_,by simp only[aU];exact⟨_,rfl,by simpa using JB A g sz⟩⟩;have B:=qQ A;have hlen:((H.cells.toList.drop g).take sz).length=sz:=by simp only[List.length_take,ud];omega
      have L:=run_loadCells_list (P:=P) w ⟨b,o,none⟩ ((H.cells.toList.drop g).take sz) (fun j v z=>by
       rw[pJ];refine a j v ?_;rw[List.getElem?_take]at z;split at z
       ·simpa[List.getElem?_drop]using z
       ·cases z)
      rw[hlen]at L;simp only[Instr.loadAt,Instr.sureAddr,loadVar,gx,hA,gC,d,if_true,F,L]
    ·cases he
   ·cases he
  ·cases he
 ·rename_i k off;simp only[aU]at l;obtain⟨bl,J,rfl⟩:=l;split at he
  ·rename_i cs G;obtain⟨h5,us,el,g1,g2,g3,g4,g5⟩:=bf.box k cs G;rw[J]at g1;cases g1;have K:gV cs=true:=by
    cases h
    ·simp only[hR,if_false,hq]at he;obtain⟨q,r,he⟩:=he;cases he;exact aw
    ·simp only[if_true]at he;cases he;exact aw.1
   rw[pj K]at g4;rw[pk K]at g5;have B:=qQ g5;cases h
   ·simp only[hR,if_false,hq]at he;obtain⟨q,r,he⟩:=he;cases he;obtain⟨v,f1,f2,f3⟩:=Fu off g5 r;refine⟨v,?_,f2⟩;have a:w.cell? ⟨bl,off,none⟩=some v:=by simpa[World.cell?,g4]using f1
    simp[Instr.loadAt,Instr.sureAddr,loadVar,d,a]
   ·simp only[if_true]at he;cases he;replace aw:=aw.2;refine⟨_,?_,by simp only[aU];exact⟨_,rfl,by simpa using JB g5 off sz⟩⟩;simp only[Instr.loadAt,Instr.sureAddr,loadVar,gx,hA,gC,d,if_true,F];rw[aqD g4 (by simp at B;omega)];rfl
  ·cases he
 ·rename_i q;simp only[aU]at l;obtain⟨bl,off,R,rfl,U,s⟩:=l;cases h
  ·simp only[hR,if_false]at he;cases he;obtain⟨N,m⟩:=aw;obtain⟨g1,g2⟩:=P1 U N (fun cs e=>by subst e;have:=fy List.length m;simp only[cells,mV,List.length_nil]at this;cases cs with
    |nil=>simp[cells]at m
    |cons y ys=>simp only[cells,rQ]at m;obtain⟨S,X⟩:=m;subst X;have:=fy SizeOf.sizeOf S;simp at this;omega)
   refine⟨R,?_,U⟩;rw[g2]at s;have a:=s.1.2;simp[Instr.loadAt,Instr.sureAddr,loadVar,d,a]
  ·simp only[if_true]at he;cases he;obtain⟨cs,rfl,hlen⟩:=aw;simp only[aU]at U;obtain⟨us,rfl,M⟩:=U;refine⟨.agg us,?_,by simp only[aU];exact⟨us,rfl,M⟩⟩;simp only[pw]at s;have B:=qQ M;have:=abu (P:=P) s;rw[show us.toList.length=sz from by omega]at this;simp[Instr.loadAt,Instr.sureAddr,loadVar,d,F,this]
 ·cases he
def aih{P:cI}{aT:List (Nat×ev)}(y:hY P aT=true){w:World}{ν:bc}{s i:Nat}{f:ev}{n:List (Nat×Nat)}(N:eF aT s=some f)(L:f.kind= .struct n){off t:Nat}{g:ev}(hi:n[i]? =some (off,t))(bf:eF aT t=some g)(G:g.size≠0)
  {x:af} {u:Value} (a:aU w ν x u) {c:Prop} {p:af} (he:sY off g.kind.isAgg g.size x=some (c,p)) (aw:c):∃v,(Instr.fieldAt s u i).run P w= .ok v w/\aU w ν p v:=by
 obtain⟨d,M,m⟩:=jm y N;rw[L]at m;obtain⟨gs,rfl,E⟩:=Lz m;have A:∃fd:Field,gs[i]? =some fd/\fd.offset=off/\fd.type=t:=by rw[<-E]at hi;simp only[List.getElem?_map,hq]at hi;obtain⟨fd,J,U⟩:=hi;simp only[jo]at U;exact⟨fd,by simpa using J,U.1,U.2⟩
 obtain⟨fd,O,ar,B⟩:=A;obtain⟨Q,K⟩:=wQ y bf w;have j:∀b o,(Instr.fieldAt s (.pointer (some ⟨b,o,none⟩)) i).run P w= .ok (.pointer (some ⟨b,o+off,none⟩)) w:=by intro b o;simp[Instr.fieldAt,run_underlying M,O,Instr.sureAddr,fieldPlace,B,K,G,pJ,ar]
 unfold sY at he;split at he
 ·cases he;simp only[aU]at a;obtain⟨b,J,rfl⟩:=a;exact⟨_,j _ _,by simp only[aU];exact⟨b,J,rfl⟩⟩
 ·cases he;simp only[aU]at a;obtain⟨⟨b,o,rfl⟩,hi,n',r,J,U,h⟩:=a;refine⟨_,j _ _,?_⟩;simp only[aU];refine⟨⟨b,_,rfl⟩,hi,n',r,J,U,fun e=>?_⟩;obtain⟨b2,H,z⟩:=h e;simp only[ayg,dU,Addr.mk.injEq,jd]at z;obtain⟨rfl,rfl⟩:=z;exact⟨b,H,by rw[Nat.add_assoc]⟩
 ·rename_i cs;simp only[aU]at a;obtain⟨b,o,r,rfl,⟨us,rfl,U⟩,h⟩:=a;refine⟨_,j _ _,?_⟩;simp only[pw]at h;split at he
  ·cases he;simp only[aU];exact⟨b,o+off,.agg ((us.toList.drop off).take g.size).toArray,rfl,⟨_,rfl,by simpa using JB U off g.size⟩,by simpa[pw]using Iv g.size (It off h)⟩
  ·simp only[hq]at he;obtain⟨q,F,he⟩:=he;cases he;obtain⟨v,f1,f2,f3⟩:=Fu off U F;simp only[aU];have l:=uW h f1;have k:v.cells= #[v]:=by cases v<;>first|rfl|cases f3
   exact⟨b,o+off,v,rfl,f2,by rw[k];exact⟨l,trivial⟩⟩
 ·cases he
def aip{P:cI}{aT:List (Nat×ev)}(m:hY P aT=true){w:World}{ν:bc}{s i:Nat}{f:ev}{h:List (Nat×Nat)}(E:eF aT s=some f)(B:f.kind= .struct h){off t:Nat}{g:ev}(hi:h[i]? =some (off,t))(bf:eF aT t=some g)
  {x:af} {u:Value} (k:aU w ν x u) {c:Prop} {p:af} (he:vO off g.kind.isAgg g.size x=some (c,p)) (aw:c):∃v,(Instr.field s u i).run P w= .ok v w/\aU w ν p v:=by
 obtain⟨d,l,e⟩:=jm m E;rw[B]at e;obtain⟨gs,rfl,r⟩:=Lz e;have o:∃fd:Field,gs[i]? =some fd/\fd.offset=off/\fd.type=t:=by rw[<-r]at hi;simp only[List.getElem?_map,hq]at hi;obtain⟨fd,J,U⟩:=hi;simp only[jo]at U;exact⟨fd,by simpa using J,U.1,U.2⟩
 obtain⟨fd,n,ar,b⟩:=o;obtain⟨j,A⟩:=wQ m bf w;unfold vO at he;split at he
 ·rename_i cs;simp only[aU]at k;obtain⟨us,rfl,U⟩:=k;generalize F:g.kind.isAgg=y at*;cases y
  ·simp only[hR,if_false,hq]at he;obtain⟨q,z,he⟩:=he;cases he;obtain⟨v,f1,f2,f3⟩:=Fu off U z;have a:us[off]? =some v:=by simpa using f1
   exact⟨v,by simp[Instr.field,run_underlying l,n,asAgg,part,b,j,ar,a],f2⟩
  ·simp only[if_true]at he;cases he;refine⟨.agg (us.extract off (off+g.size)),by simp[Instr.field,run_underlying l,n,asAgg,part,b,j,ar,A],?_⟩;simp only[aU];refine⟨_,rfl,?_⟩;have:=JB U off g.size;simpa[List.take_drop]using this
 ·cases he
def aln{P:cI}{aT:List (Nat×ev)}(G:hY P aT=true){w:World}{ν:bc}{t e:Nat}{f g:ev}(O:eF aT t=some f)(N:f.kind= .slice e)(bf:eF aT e=some g)
  {x y:af} {u v:Value} (h:aU w ν x u) (j:aU w ν y v) {c:Prop} {p:af} (he:BL g.size x y=some (c,p)) (aw:c):∃r,(Instr.indexAt t u v).run P w= .ok r w/\aU w ν p r:=by
 obtain⟨d,F,B⟩:=jm G O;rw[N]at B;obtain rfl:=sT B;obtain⟨R,E⟩:=wQ G bf w;unfold BL at he;split at he
 ·rename_i K tag xs k i;split at he
  ·rename_i m;cases he;simp only[aU]at h j;subst j;subst m;obtain⟨⟨a,cap,rfl,J,U,q⟩,_⟩:=h;obtain⟨z,l⟩:=aw;have A:i.toNat<xs.length:=Ω
   rcases q with rfl|⟨b,off,us,rfl,s,o⟩
   ·simp at A
   ·have h:xs[i.toNat]? =some xs[i.toNat]:=cl A;obtain⟨w',M,Q,H⟩:=Jy i.toNat o h;refine⟨.pointer (some ⟨b,off+i.toNat*g.size,none⟩),?_,?_⟩
    ·simp only[Instr.indexAt,asIntOf,gx,hA,gC,run_underlying F,z,l,and_self,if_true,E,pJ]
    ·simp only[aU];refine⟨b,off+i.toNat*g.size,w',rfl,by simpa[List.getD,h]using M,?_⟩;rw[H];exact Iv g.size (It _ s)
  ·cases he
 ·rename_i K k n kk i;split at he
  ·rename_i m;cases he;simp only[aU]at h j;subst j;subst m;obtain⟨⟨b,cap,rfl⟩,U,n',L,q,s,o⟩:=h;obtain⟨z,l⟩:=aw;refine⟨.pointer (some ⟨b,0+i.toNat*g.size,none⟩),?_,?_⟩
   ·simp only[Instr.indexAt,asIntOf,gx,hA,gC,run_underlying F,z,l,and_self,if_true,E,pJ]
   ·simp only[aU];refine⟨⟨b,_,rfl⟩,Ω,n',L,q,s,fun e=>⟨b,?_,Ψ⟩⟩;rw[<-o e];rfl
  ·cases he
 ·cases he
def I4{C:fm}{st:bp}{a:Act}{w:World}{ν:bc}(h:c9 C st a w ν){x:bd dP}{o:bd Operand}(b:x7 x o=true){d n:Int}(he:sy d (x.map (cE st.t))=some n):
  (o.map a.eval=none/\n=d)\/ ∃k,o.map a.eval=some (.int k n):=by
 cases x with
 |none=>cases o with
  |none=>simp[sy]at he;exact .inl ⟨rfl,he.symm⟩
  |some o=>simp[x7]at b
 |some x=>cases o with
  |none=>simp[x7]at b
  |some o=>
   simp only[x7]at b
   have:=e3 h b
   simp only[pB]at he⊢
   cases c:cE st.t x<;>simp[c,sy]at he
   rw[c]at this
   simp only[aU]at this
   subst he
   exact .inr ⟨_,by rw[this]⟩
def RT:∀{xs:List af} {s:List cS},r4 xs=some s->s.length=xs.length
 |[],s,h=>by simp only[r4]at h;cases h;rfl
 |x::xs,s,h=>by
  cases x<;>try(simp[r4]at h;done)
  rename_i k n;cases k<;>simp only[r4,hq,reduceCtorEq]at h;obtain⟨a,J,rfl⟩:=h;simp[RT J]
def AI(n:Int):cS:=UInt8.ofNat n.toNat
def RU{w:World}{ν:bc}{sz:Nat}:∀{xs:List af} {s:List cS} {us:List Value},r4 xs=some s->dw w ν sz xs us->∃ns:List Int,us=ns.map (Value.int .u8)/\s=ns.map AI/\us.length=xs.length
 |[],s,us,h,a=>by simp only[r4]at h;cases h;simp only[dw]at a;subst a;exact⟨[],rfl,rfl,rfl⟩
 |x::xs,s,us,h,a=>by
  cases x<;>try(simp[r4]at h;done)
  rename_i k n;cases k<;>simp only[r4,hq,reduceCtorEq]at h;obtain⟨d,J,rfl⟩:=h;simp only[dw,aU]at a;obtain⟨u,c,rfl,⟨rfl,_⟩,a⟩:=a;obtain⟨ns,rfl,rfl,b⟩:=RU J a;exact⟨n::ns,by simp[pw],rfl,by simp[pw]at b⊢;exact b⟩
def ZT{P:cI}{w:World}{f:Value->ByteArray->Sem (ForInStep ByteArray)}(a:∀n s,f (.int .u8 n) s=pure (.yield (s.push (AI n)))):∀(ns:List Int) (s:ByteArray),(forIn (ns.map (Value.int .u8)) s f).run P w= .ok ⟨(s.data.toList++ns.map AI).toArray⟩ w
 |[],s=>by simp
 |n::ns,s=>by simp only[gY,List.forIn_cons,gx,a,hA,gC];rw[ZT a ns];simp[ax8]
def ad1{P:cI}{w:World}{A:Nat->Nat->Prop}{a:bd Addr}{len cap:Nat}{ns:List Int}(g:ns.length=len)(h:len=0\/ ∃b off,a=some ⟨b,off,none⟩/\kY w A b off (ns.map (Value.int .u8))):
  (Conv.bytesToString (.slice a len cap)).run P w= .ok (.string ⟨(ns.map AI).toArray⟩) w:=by
 have f:∀c,a=some c->(loadCells c len).run P w= .ok (ns.map (Value.int .u8)).toArray w:=fun c e=>by
  rcases h with h|⟨b,off,d,U⟩
  ·subst h;have:ns=[]:=by cases ns<;>simp_all
   subst this;exact run_loadCells_list w c [] fun j v i=>by simp at i
  ·rw[d]at e;cases e;have:=abu (P:=P) U;simpa[g]using this
 unfold Conv.bytesToString;cases a with
 |none=>
  have:ns=[]:=by
   rcases h with h|⟨b,off,d,U⟩
   ·subst h;cases ns<;>simp_all
   ·cases d
  subst this;simp;rfl
 |some c=>simp only[gx,f c rfl,gC,Array.forIn_toList,List.forIn_toArray];rw[ZT (fun n s=>rfl) ns atr];simp
def ada{c d:af}(h:Kn c d=true):c=d:=by unfold Kn at h;split at h<;>simp_all
def Q7:∀{cs a:List af},Av cs a=true->cs=a
 |[],[],_=>rfl
 |[],_::_,h=>by simp[Av]at h
 |_::_,[],h=>by simp[Av]at h
 |c::cs,d::a,h=>by simp only[Av,cQ]at h;rw[ada h.1,Q7 h.2]
def atp{cs:List af}{z:af}(h:Rb cs z=true):z= .agg cs:=by
 cases z<;>simp only[Rb]at h;case agg a=>rw[Q7 h]
 all_goals cases h
def ajv(s:List cS)(n:Nat)(h:n<s.length):(⟨s.toArray⟩:ByteArray)[n]? =some (s.getD n 0):=by
 have a:n<(⟨s.toArray⟩:ByteArray).size:=by rw[FI];exact h
 have e:(⟨s.toArray⟩:ByteArray)[n]? =some ((⟨s.toArray⟩:ByteArray)[n]'a):=getElem?_pos (⟨s.toArray⟩:ByteArray) n a;rw[e];congr 1;simp[List.getD,h];rfl
def JV(P:cI)(w:World)(k:IntKind)(i:Int)(y:Nat)(c:BoundsCode)(a:0<=i)(J:i<=y):(Instr.sliceBound (.int k i) y c).run P w= .ok i.toNat w:=by simp[Instr.sliceBound,asIntOf,a,J]
def RN(P:cI)(w:World)(a:Bool)(len cap:Nat)(lo hi:bd Value)(l h:Int)(b:(lo=none/\l=0)\/ ∃k,lo=some (.int k l))(c:(hi=none/\h=len)\/ ∃k,hi=some (.int k h))
  (d:0<=l) (J:l<=h) (U:h<=len) (aw:len<=cap):(Instr.sliceBounds a len cap lo hi none).run P w= .ok (l.toNat,h.toNat,cap) w:=by
 rcases b with⟨rfl,rfl⟩|⟨k,rfl⟩<;>rcases c with⟨rfl,rfl⟩|⟨bs,rfl⟩
 ·simp[Instr.sliceBounds]
 ·simp[Instr.sliceBounds,JV P w bs h cap _ Ω Ω]
 ·simp[Instr.sliceBounds,JV P w k l len _ Ω Ω]
 ·simp[Instr.sliceBounds,JV P w bs h cap _ Ω Ω,JV P w k l h.toNat _ Ω Ω]
def ZQ{P:cI}{aT:List (Nat×ev)}(e:hY P aT=true):∀(gs:List Field),(gs.all fun f=>(eF aT f.type).isSome)=true->
  ∃a:List (Nat×Nat),gs.mapM (fun f=>(P.info? f.type).map fun i=>(f.offset,i.size))=some a/\
   ∀(i off t sz:Nat),(gs.map (fun f=>(f.offset,f.type)))[i]? =some (off,t)->(eF aT t).map (·.size)=some sz->a[i]? =some (off,sz)
 |[],_=>⟨[],Ψ,Ψ⟩
 |f::gs,h=>by
  simp only[List.all_cons,cQ]at h;obtain⟨a,J,U⟩:=ZQ e gs h.2;obtain⟨g,bf⟩:=fx.1 h.1;obtain⟨i,d,z,l,r,k,q,p,o,n,m⟩:=(wR e bf).ex;refine⟨(f.offset,g.size)::a,by simp[List.mapM_cons,l,k,J],fun j off t sz b c=>?_⟩;cases j with
  |zero=>simp only[gY,List.getElem?_cons_zero,dU,jo]at b⊢;obtain⟨rfl,rfl⟩:=b;rw[bf]at c;simpa using c
  |succ j=>simp only[gY,List.getElem?_cons_succ]at b⊢;exact U j off t sz b c
def l4{P:cI}{w:World}{x:Sem Value}{v:Value}(h:x.run P w= .ok v w):(do pure (Next.value (<-x)):Sem Next).run P w= .ok (.value v) w:=by simp[h]
def Ra{p q:af}(h:C4 p q=true):p=q:=by
 unfold C4 at h;split at h
 ·rw[Q7 h]
 ·cases h
 ·exact ada h
def Q9(w:World)(ν:bc){p:af}{v:Value}(h:Aw p v=true):aU w ν p v/\cW w ν (cells p) v.cells.toList:=by
 by_cases b:∃cs,p= .agg cs
 ·obtain⟨cs,rfl⟩:=b;cases v<;>simp only[Aw]at h;case agg us=>have:=Q8 w ν _ _ h;exact⟨by simp only[aU];exact⟨us,rfl,this⟩,by simpa[cells,pw]using this⟩
  all_goals cases h
 ·have a:AK p v=true/\v.oneCell'=true:=by cases p<;>simp only[Aw,cQ]at h<;>first|exact h|exact absurd ⟨_,rfl⟩ b
  have c:=KW w ν a.1;refine⟨c,?_⟩;have aw:cells p=[p]:=by cases p<;>first|rfl|exact absurd ⟨_,rfl⟩ b
  have d:v.cells= #[v]:=by have:=a.2;cases v<;>first|rfl|simp[Value.oneCell']at this
  rw[aw,d];simp only[cW];exact⟨v,[],rfl,⟨c,a.2⟩,rfl⟩
def QH{P:cI}{aT:List (Nat×ev)}(e:hY P aT=true){t:Nat}{f:ev}(g:eF aT t=some f)(w:World):∃z,(zeroValue t).run P w= .ok z w/\Aw f.zero z=true/\z.cells.size=f.size:=by obtain⟨i,d,z,J,U,j,k,h,c,b,a⟩:=(wR e g).ex;exact⟨z,by simp[zeroValue,typeInfo,J,c],b,a⟩
def Fw{C:fm}{st:bp}{a:Act}{w:World}{ν:bc}(h:c9 C st a w ν):∀{xs:List dP} {os:List Operand},zU xs os=true->c7 w ν (xs.map (cE st.t)) (os.map a.eval)
 |[],[],_=>by simp[c7]
 |[],_::_,b=>by simp[zU]at b
 |_::_,[],b=>by simp[zU]at b
 |x::xs,o::os,b=>by simp only[zU,cQ]at b;simp only[gY,c7];exact⟨_,_,rfl,e3 h b.1,Fw h b.2⟩
def afq{P:cI}{w:World}{t:gT}(c:P.underlying t=some .bool)(d:Nat)(a b:Bool):(Op.equalIn (d+1) t (.bool a) (.bool b)).run P w= .ok (a==b) w:=by rw[Op.equalIn];simp only[gx,run_underlying c,gC,hA]
def afr{P:cI}{w:World}{t:gT}(c:P.underlying t=some .bool)(a b:Bool):(Op.equal t (.bool a) (.bool b)).run P w= .ok (a==b) w:=afq c _ a b
def Uy:∀{borns:List Nat} {kvs:List af} {us:List Value},kvs.length=2*borns.length->us.length=kvs.length->(gP borns us).length=borns.length
 |[],_,us,_,_=>by simp[gP]
 |b2::a,kvs,[],J,U=>by rw[J]at U;simp at U
 |b2::a,kvs,[_],J,U=>by rw[J]at U;simp at U;omega
 |b2::a,kvs,k::v::us,J,U=>by simp only[gP,mV];rw[Uy (kvs:=kvs.drop 2) (us:=us) (borns:=a) (by simp at J⊢;omega) (by simp at J U⊢;omega)]
def abh{w:World}{ν:bc}:∀{a:List af} {bm:List Value},c7 w ν a bm->bm.length=a.length
 |[],bm,h=>by simp only[c7]at h;subst h;rfl
 |p::a,bm,h=>by simp only[c7]at h;obtain⟨u,b,rfl,_,U⟩:=h;simp[abh U]
def yi{P:cI}{w:World}{r:Nat}{o:Obj}(a:w.heap[r]? =some o)(b:∀c e f,o≠ .cells c e f:=by simp):(getObj r).run P w= .ok o w:=by simp only[getObj,Sem.run,a]
def rV(P:cI):Nat->List Bool->List Field->Prop
 |_,[],[]=>True
 |n,b::r,f::gs=>(f.offset=n/\f.name≠ "_" /\(if b=true then P.underlying f.type=some .string else∃k,P.underlying f.type=some (.int k)))/\rV P (n+1) r gs
 |_,_,_=>eu
def Fi{P:cI}{t:gT}{b:Bool}(h:if b=true then P.underlying t=some .string else∃k,P.underlying t=some (.int k)):P.plainKey t=true:=by
 cases b
 ·obtain⟨k,h⟩:=(by simpa using h:∃k,P.underlying t=some (.int k));simp[Program.plainKey,h]
 ·have h:P.underlying t=some .string:=by simpa using h
  simp[Program.plainKey,h]
def aek{P:cI}{w:World}{ν:bc}(d:Nat){X Y:Array Value}(A:List Bool):∀(gs:List Field) (n:Nat) (as g:List af) (us bm:List Value) (q:Bool),rV P n A gs->X.toList.drop n=us->Y.toList.drop n=bm->cW w ν as us->cW w ν g bm->kR A as g=some q->
  (Op.eqFields (d+1) X Y gs).run P w= .ok q w/\(q=true->us=bm)/\∀m,(us.zip us).all (fun(x,y)=>Instr.sameBits m x y)=true:=by
 induction A with
 |nil=>intro gs n as g us bm q bf p o J U h;cases as<;>cases g<;>simp only[kR,dU,reduceCtorEq]at h;cases gs<;>simp only[rV]at bf;simp only[cW]at J U;rw[J,U,<-h];exact⟨by simp[Op.eqFields],fun _=>rfl,fun m=>rfl⟩
 |cons z r L=>
  intro gs n as g us bm q bf p o J U h;cases gs with
  |nil=>simp only[rV]at bf
  |cons f gs=>
  simp only[rV]at bf;obtain⟨⟨M,K,l⟩,bf⟩:=bf;cases as with
  |nil=>cases z<;>cases g<;>simp[kR]at h
  |cons s as=>
  cases g with
  |nil=>cases z<;>cases s<;>simp[kR]at h
  |cons t g=>
  cases z with
  |false=>
   have aw:∃k a b c,s= .int k a/\t= .int k b/\kR r as g=some c/\q=((a==b)&&c):=by
    cases s<;>first|(simp[kR]at h;done)|skip
    cases t<;>first|(simp[kR]at h;done)|skip
    simp only[kR]at h;split at h
    ·rename_i O;subst O;simp only[hq]at h;obtain⟨c,j,E⟩:=h;exact⟨_,_,_,c,rfl,rfl,j,E.symm⟩
    ·cases h
   obtain⟨k,a,b,c,rfl,rfl,j,rfl⟩:=aw;simp only[cW,aU]at J U;obtain⟨u,B,rfl,⟨rfl,_⟩,J⟩:=J;obtain⟨v,vs',rfl,⟨rfl,_⟩,U⟩:=U;have H:X[n]? =some (.int k a):=by rw[<-vm,<-List.head?_drop,p];rfl
   have F:Y[n]? =some (.int k b):=by rw[<-vm,<-List.head?_drop,o];rfl
   obtain⟨i1,i2,i3⟩:=L gs (n+1) as g B vs' c bf (by rw[<-List.tail_drop,p];rfl) (by rw[<-List.tail_drop,o];rfl) J U j;obtain⟨kk,G⟩:=(by simpa using l:∃k,P.underlying f.type=some (.int k));refine⟨?_,?_,fun m=>?_⟩
   ·simp only[Op.eqFields,K,ne_eq,not_false_eq_true,if_true,gx,M,run_part_plain w (Fi l) H,run_part_plain w (Fi l) F,gC,run_equalIn_int w d f.type k kk a b G];cases N:(a==b)
    ·simp
    ·simpa using i1
   ·intro i;simp only[cQ,ey]at i;rw[i.1,i2 i.2]
   ·have:=i3 m;simp only[List.zip_cons_cons,List.all_cons,this,Bool.and_true];cases m<;>simp[Instr.sameBits]
  |true=>
   have aw:∃a b c,s= .str a/\t= .str b/\kR r as g=some c/\q=((a==b)&&c):=by
    cases s<;>first|(simp[kR]at h;done)|skip
    cases t<;>first|(simp[kR]at h;done)|skip
    simp only[kR,hq]at h;obtain⟨c,j,E⟩:=h;exact⟨_,_,c,rfl,rfl,j,E.symm⟩
   obtain⟨a,b,c,rfl,rfl,j,rfl⟩:=aw;simp only[cW,aU]at J U;obtain⟨u,B,rfl,⟨⟨rfl,_⟩,_⟩,J⟩:=J;obtain⟨v,vs',rfl,⟨⟨rfl,_⟩,_⟩,U⟩:=U;have H:X[n]? =some (.string ⟨a.toArray⟩):=by rw[<-vm,<-List.head?_drop,p];rfl
   have F:Y[n]? =some (.string ⟨b.toArray⟩):=by rw[<-vm,<-List.head?_drop,o];rfl
   obtain⟨i1,i2,i3⟩:=L gs (n+1) as g B vs' c bf (by rw[<-List.tail_drop,p];rfl) (by rw[<-List.tail_drop,o];rfl) J U j;have G:P.underlying f.type=some .string:=by simpa using l
   refine⟨?_,?_,fun m=>?_⟩
   ·simp only[Op.eqFields,K,ne_eq,not_false_eq_true,if_true,gx,M,run_part_plain w (Fi l) H,run_part_plain w (Fi l) F,gC,run_equalIn_string w d f.type _ _ G];have e:((⟨a.toArray⟩:ByteArray).toList==(⟨b.toArray⟩:ByteArray).toList)=(a==b):=by rw[att,att]
    rw[e];cases N:(a==b)
    ·simp
    ·simpa using i1
   ·intro i;simp only[cQ,ey]at i;rw[i.1,i2 i.2]
   ·have:=i3 m;simp only[List.zip_cons_cons,List.all_cons,this,Bool.and_true];cases m<;>simp only[Instr.sameBits]<;>exact(MapKept.bytes_beq _ _).2 rfl
def Vg{P:cI}{aT:List (Nat×ev)}(aJ:hY P aT=true):∀(ek:List Bool) (gs:List Field) (n:Nat),Ba aT n ek (gs.map fun f=>(f.offset,f.type))=true->(gs.all (fun f=>match P.underlying f.type with|some (.int _)=>true|some .string=>true|_=>false)=true)/\((∀f∈gs,f.name≠ "_")->rV P n ek gs)
 |[],[],_,_=>⟨rfl,fun _=>trivial⟩
 |[],_::_,_,h=>by simp[Ba]at h
 |_::_,[],_,h=>by simp[Ba]at h
 |b::r,f::gs,n,h=>by
  simp only[gY,Ba,cQ,ey]at h;obtain⟨⟨J,U⟩,aq⟩:=h;obtain⟨i1,i2⟩:=Vg aJ r gs (n+1) aq;split at U
  ·rename_i aG;obtain⟨d,hu,aL⟩:=jm aJ aG;obtain rfl:=Dw aL;refine⟨by simp only[List.all_cons,hu,i1,Bool.and_self],fun aA=>⟨⟨J,aA f Ψ,?_⟩,i2 fun g bf=>aA g (by simp[bf])⟩⟩;have:b=false:=by simpa using U
   subst this;simpa using⟨_,hu⟩
  ·rename_i aG;obtain⟨d,hu,aL⟩:=jm aJ aG;obtain rfl:=yV aL;refine⟨by simp only[List.all_cons,hu,i1,Bool.and_self],fun aA=>⟨⟨J,aA f Ψ,?_⟩,i2 fun g bf=>aA g (by simp[bf])⟩⟩;subst U;simpa using hu
  ·cases U
def Vi{P:cI}{aT:List (Nat×ev)}(b:hY P aT=true){a:List Bool}{t:Nat}(h:Hk aT a t=true):∃gs,P.underlying t=some (.struct gs)/\rV P 0 a gs.toList/\P.stoodInHeld t=false/\P.eqGuardType P.depth t=false:=by
 unfold Hk at h;split at h
 ·rename_i e;obtain⟨d,hu,c⟩:=jm b e;have aw:=(wR b e).cmp d hu;cases d<;>simp[k7]at c;rename_i gs;subst c;obtain⟨i1,i2⟩:=Vg b a gs.toList 0 h;have f:Vh P gs=true:=i1;simp only[Lv,f,Bool.not_true,Bool.false_or,T8,cQ,sO,j6,bne_iff_ne,ne_eq]at aw;exact⟨gs,hu,i2 aw.1.1,aw.1.2,aw.2⟩
 ·cases h
def UC{P:cI}{w:World}{ν:bc}{t:gT}{gs:Array Field}{a:List Bool}(hu:P.underlying t=some (.struct gs))(bf:rV P 0 a gs.toList)(dy:P.stoodInHeld t=false){as b:List af}{X Y:Array Value}(J:cW w ν as X.toList)(U:cW w ν b Y.toList){q:Bool}(h:kR a as b=some q):
  (Op.equalIn 10000 t (.agg X) (.agg Y)).run P w= .ok q w/\(q=true->X=Y)/\∀m,(X.toList.zip X.toList).all (fun(x,y)=>Instr.sameBits m x y)=true:=by
 have c:P.fieldsOf t=gs:=by simp[Program.fieldsOf,hu]
 obtain⟨i1,i2,i3⟩:=aek 9998 a gs.toList 0 as b _ _ q bf rfl rfl J U h;refine⟨?_,fun e=>?_,?_⟩
 ·rw[run_equalIn_struct w 9999 t X Y (by rw[c];exact hu) dy,c];exact i1
 ·have:=i2 e;simpa using this
 ·simpa using i3
inductive vt (P:cI):kh->gT->Prop
 |i {t:gT} {k:IntKind}:P.underlying t=some (.int k)->vt P .i t
 |s {t:gT}:P.underlying t=some .string->vt P .s t
 |a {t:gT} {ek:List Bool} {gs:Array Field}:P.underlying t=some (.struct gs)->rV P 0 ek gs.toList->P.stoodInHeld t=false->vt P (.a ek) t
def XG{P:cI}{aT:List (Nat×ev)}(e:hY P aT=true){b:kh}{t:Nat}(h:zF aT b t=true):vt P b t:=by
 cases b with
 |i=>
  simp only[zF]at h;split at h
  ·rename_i f;obtain⟨d,hu,c⟩:=jm e f;obtain rfl:=Dw c;exact .i hu
  ·cases h
 |s=>
  simp only[zF]at h;split at h
  ·rename_i f;obtain⟨d,hu,c⟩:=jm e f;obtain rfl:=yV c;exact .s hu
  ·cases h
 |a j=>obtain⟨gs,J,U,g,_⟩:=Vi e h;exact .a J U g
def ui(P:cI)(w:World)(c:kh)(t:gT)(a u:Value)(b:Bool):Prop:=match c with
 | .a _=>(Op.equal t a u).run P w= .ok b w
 |_=> ∀d,P.underlying t=some d->Instr.sameNow d a u=some b
def iY(P:cI)(w:World)(b:kh)(t:gT)(a:Value)(es:List MapEntry)(i:Nat)(r:bd (Nat×Value)):Prop:=match b with
 | .a _=>(Instr.findAsking t a es i).run P w= .ok r w
 |_=> ∀d,P.underlying t=some d->Instr.findNow d a es i=some r
def iY.nil(P:cI)(w:World)(a:kh)(t:gT)(b:Value)(i:Nat):iY P w a t b [] i none:=by cases a<;>simp[iY,Instr.findAsking,Instr.findNow]
def iY.hit{P:cI}{w:World}{b:kh}{t:gT}{f:Value}{e:MapEntry}{es:List MapEntry}{i:Nat}(h:ui P w b t f e.key true):iY P w b t f (e::es) i (some (i,e.val)):=by
 cases b with
 |a g=>simp only[ui]at h;simp[iY,Instr.findAsking,h]
 |i=>simp only[ui]at h;simp only[iY];intro d c;simp[Instr.findNow,h d c]
 |s=>simp only[ui]at h;simp only[iY];intro d c;simp[Instr.findNow,h d c]
def iY.miss{P:cI}{w:World}{f:kh}{t:gT}{g:Value}{e:MapEntry}{es:List MapEntry}{i:Nat}{r:bd (Nat×Value)}(h:ui P w f t g e.key false)(b:iY P w f t g es (i+1) r):iY P w f t g (e::es) i r:=by
 cases f with
 |a j=>simp only[ui]at h;simp only[iY]at b;simp[iY,Instr.findAsking,h,b]
 |i=>simp only[ui]at h;simp only[iY]at b⊢;intro d c;simp[Instr.findNow,h d c,b d c]
 |s=>simp only[ui]at h;simp only[iY]at b⊢;intro d c;simp[Instr.findNow,h d c,b d c]
def iY.run{P:cI}{w:World}{c:kh}{t:gT}(d:vt P c t){b:Value}{es:List MapEntry}{r:bd (Nat×Value)}(h:iY P w c t b es 0 r):(Instr.findKey t b es).run P w= .ok r w:=by
 cases d with
 |i hu=>simp only[iY]at h;simp[Instr.findKey,run_underlying hu,h _ hu]
 |s hu=>simp only[iY]at h;simp[Instr.findKey,run_underlying hu,h _ hu]
 |a hu bf dy=>
  simp only[iY]at h;cases es with
  |nil=>simp[Instr.findAsking]at h;simp[Instr.findKey,run_underlying hu,Instr.findNow,h]
  |cons e es=>
   rename_i gs;have:Instr.sameNow (.struct gs) b e.key=none:=by cases b<;>rfl
   simp only[Instr.findKey,gx,run_underlying hu,gC,Instr.findNow,this];exact h
def XE{P:cI}{w:World}{ν:bc}{j:kh}{t:gT}(f:vt P j t){k bs:af}{h u:Value}(g:aU w ν k h)(J:aU w ν bs u){bb:Bool}(c:uS j k bs=some bb):
  ui P w j t h u bb/\(bb=true->u=h/\Instr.sameBits 10000 u h=true):=by
 unfold uS at c;split at c
 ·split at c
  ·rename_i l;subst l;simp only[aU]at g J;subst g;subst J;cases f with
   |i hu=>refine⟨fun d f=>by rw[hu]at f;cases f;simpa[Instr.sameNow]using c,fun e=>?_⟩;subst e;simp only[dU,ey]at c;subst c;exact⟨rfl,by simp[Instr.sameBits]⟩
  ·cases c
 ·rename_i a b;simp only[aU]at g J;obtain⟨rfl,_⟩:=g;obtain⟨rfl,_⟩:=J;cases f with
  |s hu=>
   refine⟨fun d f=>?_,fun e=>?_⟩
   ·rw[hu]at f;cases f;simp only[Instr.sameNow];rw[<-c];congr 1;rw[qZ,MapKept.bytes_beq];simp
   ·subst e;simp only[dU,ey]at c;subst c;exact⟨rfl,by simp only[Instr.sameBits];exact(MapKept.bytes_beq _ _).2 rfl⟩
 ·simp only[aU]at g J;obtain⟨X,rfl,g⟩:=g;obtain⟨Y,rfl,J⟩:=J;cases f with
  |a hu bf dy=>obtain⟨i1,i2,i3⟩:=UC hu bf dy g J c;refine⟨by simpa[ui,Op.equal,Op.maxDepth]using i1,fun e=>?_⟩;have:=i2 e;subst this;exact⟨rfl,by simp[Instr.sameBits,i3]⟩
 ·cases c
def Ow{P:cI}{w:World}{ν:bc}{c:kh}{t:gT}(p:vt P c t){k:af}{d:Value}(o:aU w ν k d):∀(borns:List Nat) (kvs:List af) (us:List Value) (i:Nat) (r:bd af),c7 w ν kvs us->kvs.length=2*borns.length->xY c k kvs=some r->
  match r with
  |none=>iY P w c t d (gP borns us) i none
  |some v=> ∃j u,iY P w c t d (gP borns us) i (some (j,u))/\aU w ν v u
 |[],[],us,i,r,h,_,hm=>by simp only[xY]at hm;cases hm;simp only[c7]at h;subst h;simpa[gP]using iY.nil P w c t d i
 |[],_::_,_,_,_,_,a,_=>by simp at a
 |b::l,[],_,_,_,_,a,_=>by simp at a
 |b::l,[_],_,_,_,_,a,_=>by simp at a;omega
 |b::l,bs::v::kvs,us,i,r,h,a,hm=>by
  simp only[c7]at h;obtain⟨g,x,rfl,J,f,q,rfl,U,s⟩:=h;simp only[xY]at hm;simp only[gP];cases m:uS c k bs with
  |none=>simp[m]at hm
  |some bb=>
   obtain⟨s1,_⟩:=XE p o J m;simp only[m]at hm;cases bb with
   |true=>simp only[dU]at hm;subst hm;exact⟨i,f,iY.hit (e:=⟨g,f,b⟩) s1,U⟩
   |false=>
    simp only at hm;have n:=Ow p o l kvs q (i+1) r s (by simp at a;omega) hm;cases r with
    |none=>exact iY.miss (e:=⟨g,f,b⟩) s1 n
    |some v'=>obtain⟨j,u,g1,g2⟩:=n;exact⟨j,u,iY.miss (e:=⟨g,f,b⟩) s1 g1,g2⟩
def Lt{P:cI}{w:World}{t:Nat}{d:TypeDesc}(hu:P.underlying t=some d)(a:(∃k,d= .int k)\/d= .string)(e:Bool)(n:Nat)(v:Value):(Instr.checkKey e (n+1) t v).run P w= .ok () w:=by unfold Instr.checkKey;rcases a with⟨k,rfl⟩|rfl<;>simp[run_underlying hu]
def aio{P:cI}{w:World}{ν:bc}{X:Array Value}(i:List Bool):∀(gs:List Field) (n:Nat) (as:List af),rV P n i gs->cW w ν as (X.toList.drop n)->(kR i as as).isSome=true->
  ∀f∈gs,(∃v,(part f.type X f.offset).run P w= .ok v w)/\∃d,P.underlying f.type=some d/\((∃k,d= .int k)\/d= .string):=by
 induction i with
 |nil=>intro gs n as bf _ _ f a;cases gs<;>simp only[rV]at bf;cases a
 |cons b r q=>
  intro gs n as bf j aw f a;cases gs with
  |nil=>cases a
  |cons g gs=>
  simp only[rV]at bf;obtain⟨⟨t,y,c⟩,bf⟩:=bf;cases as with
  |nil=>cases b<;>simp[kR]at aw
  |cons p as=>
  have l:(kR r as as).isSome=true:=by cases b<;>cases p<;>simp[kR]at aw⊢ <;>exact aw
  simp only[cW]at j;obtain⟨u,o,e,_,m⟩:=j;have s:X.toList.drop (n+1)=o:=by rw[<-List.tail_drop,e];rfl
  have x:X[n]? =some u:=by rw[<-vm,<-List.head?_drop,e];rfl
  rcases gI.1 a with rfl|a
  ·refine⟨⟨u,by rw[t];exact run_part_plain w (Fi c) x⟩,?_⟩;cases b
   ·obtain⟨k,h⟩:=(by simpa using c:∃k,P.underlying f.type=some (.int k));exact⟨_,h,.inl ⟨k,rfl⟩⟩
   ·exact⟨_,by simpa using c,.inr rfl⟩
  ·exact q gs (n+1) as bf (by rw[s];exact m) l f a
def Vq{P:cI}{w:World}{α:Type}(body:α->PUnit->Sem (ForInStep PUnit)):∀(l:List α),(∀f∈l,(body f ⟨⟩).run P w= .ok (.yield ⟨⟩) w)->(forIn l PUnit.unit body).run P w= .ok PUnit.unit w
 |[],_=>by simp
 |f::l,h=>by simp only[List.forIn_cons,gx,h f Ψ,gC];exact Vq body l fun g bf=>h g (by simp[bf])
def abq{P:cI}{w:World}{ν:bc}{cA:kh}{t:Nat}(aL:vt P cA t)(e:Bool){k:af}{v:Value}(ab:aU w ν k v)(hi:xT cA k=true):(Instr.checkKey e 10000 t v).run P w= .ok () w:=by
 cases aL with
 |i hu=>exact Lt hu (.inl ⟨_,rfl⟩) e 9999 v
 |s hu=>exact Lt hu (.inr rfl) e 9999 v
 |a hu bf dy=>
  rename_i ek gs;cases k<;>simp only[xT,hR]at hi;rename_i as;simp only[aU]at ab;obtain⟨X,rfl,ab⟩:=ab;unfold Instr.checkKey;simp only[gx,run_underlying hu,gC];rw[<-Array.forIn_toList];rw[Vq]
  ·simp
  ·intro f aG;obtain⟨⟨v,J⟩,d,U,aq⟩:=aio ek gs.toList 0 as bf (by simpa using ab) hi f aG;have aZ:=Lt (w:=w) U aq e 9998 v;by_cases aA:f.name= "_"
   ·simp[aA]
   ·simp[aA,J,aZ]
def Yt{w:World}{ν:bc}{n:Nat}:∀(borns:List Nat) (kvs:List af) (us:List Value) (p:af),c7 w ν kvs us->n5 n borns kvs=some p->∃e,(gP borns us).find? (·.born==n)=some e/\aU w ν p (.tuple #[e.key,e.val])
 |[],_,_,_,_,hm=>by simp[n5]at hm
 |_::_,[],_,_,_,hm=>by simp[n5]at hm
 |_::_,[_],_,_,_,hm=>by simp[n5]at hm
 |b::g,k::v::kvs,us,p,h,hm=>by
  simp only[c7]at h;obtain⟨c,j,rfl,J,d,f,rfl,U,i⟩:=h;simp only[n5]at hm;simp only[gP];by_cases e:b=n
  ·rw[if_pos e]at hm;cases hm;refine⟨⟨c,d,b⟩,by simp[List.find?,e],?_⟩;simp only[aU];exact⟨#[c,d],rfl,by simp only[c7];exact⟨_,_,rfl,J,_,_,rfl,U,rfl⟩⟩
  ·rw[if_neg e]at hm;obtain⟨x,g1,g2⟩:=Yt g kvs f p i hm;have a:(b==n)=false:=by simpa using e
   exact⟨x,by simp[List.find?,a,g1],g2⟩
def acn{P:cI}{aT:List (Nat×ev)}(H:hY P aT=true){C:fm}{st:bp}{a:Act}{w:World}{ν:bc}(B:c9 C st a w ν){i:gO}(ajP:∀cA z ok x k,i≠ .mgetB cA z ok x k){o:Oper}(ar:F1 aT i o.op=true)
  {c:Prop} {p:af} (he:hZ st i=some (c,p)) (aw:c):∃v,(execOp a.eval o).run P w= .ok (.value v) w/\aU w ν p v:=by
 obtain⟨dst,op,type,pos,after,guard⟩:=o;simp only at ar;unfold F1 at ar;split at ar
 ·rename_i x o;simp only[hZ]at he;cases he;exact⟨_,rfl,e3 B ar⟩
 ·rename_i x o;simp only[hZ]at he;cases he;exact⟨_,rfl,e3 B ar⟩
 ·rename_i cC x y atU x' y';simp only[cQ]at ar;have J:=e3 B ar.1.1;have U:=e3 B ar.1.2;have M:=e3 B ar.2;simp only[hZ,I9]at he;split at he
  ·rename_i b E;rw[E]at J;simp only[aU]at J;split at he
   ·rename_i u v hu O;cases he;rw[hu]at U;rw[O]at M;simp only[aU]at U M;refine⟨.bool (cond b u v),?_,by simp[aU]⟩;simp only[execOp,J,U,M,asBool,gx,hA,gC];cases b<;>rfl
   ·split at he
    ·cases he;exact⟨_,by simp only[execOp,J,asBool,gx,hA,gC,if_true],U⟩
    ·cases he;exact⟨_,by simp only[execOp,J,asBool,gx,hA,gC,hR,if_false],M⟩
  ·cases he
 ·rename_i agg sz x t o;simp only[cQ]at ar;obtain⟨J,U⟩:=ar;split at J
  ·rename_i f F;simp only[cQ,ey]at J;obtain⟨rfl,rfl⟩:=J;obtain⟨v,g1,g2⟩:=IA H B.good F (e3 B U) (by simpa only[hZ]using he) aw;exact⟨v,l4 g1,g2⟩
  ·cases J
 ·rename_i off agg sz x s o i;simp only[cQ]at ar;obtain⟨J,U⟩:=ar;split at J
  ·rename_i f F;split at J
   ·rename_i x4 t D7;simp only[cQ,ey]at J;obtain⟨rfl,J⟩:=J;split at J
    ·rename_i g bf;simp only[cQ,ey,bne_iff_ne,ne_eq]at J;obtain⟨⟨rfl,rfl⟩,V⟩:=J;obtain⟨v,g1,g2⟩:=aih H F rfl D7 bf V (e3 B U) (by simpa only[hZ]using he) aw;exact⟨v,l4 g1,g2⟩
    ·cases J
   ·cases J
  ·cases J
 ·rename_i off agg sz x s o i;simp only[cQ]at ar;obtain⟨J,U⟩:=ar;split at J
  ·rename_i f F;split at J
   ·rename_i x4 t D7;simp only[cQ,ey]at J;obtain⟨rfl,J⟩:=J;split at J
    ·rename_i g bf;simp only[cQ,ey]at J;obtain⟨rfl,rfl⟩:=J;obtain⟨v,g1,g2⟩:=aip H F rfl D7 bf (e3 B U) (by simpa only[hZ]using he) aw;exact⟨v,l4 g1,g2⟩
    ·cases J
   ·cases J
  ·cases J
 ·rename_i sz x i t o j;simp only[cQ]at ar;obtain⟨⟨J,U⟩,M⟩:=ar;split at J
  ·rename_i e F;split at J
   ·rename_i g bf;simp only[ey]at J;subst J;obtain⟨v,g1,g2⟩:=aln H F rfl bf (e3 B U) (e3 B M) (by simpa only[hZ]using he) aw;exact⟨v,l4 g1,g2⟩
   ·cases J
  ·cases J
 ·rename_i x i t o j;simp only[cQ]at ar;obtain⟨⟨J,U⟩,M⟩:=ar;split at J
  ·rename_i F;obtain⟨d,L,K⟩:=jm H F;obtain rfl:=yV K;have A:=e3 B U;have G:=e3 B M;simp only[hZ,JT]at he;split at he
   ·rename_i s k n ai Z;cases he;rw[ai]at A;rw[Z]at G;simp only[aU]at A G;obtain⟨vT,xm⟩:=aw;have bO:n.toNat<s.length:=Ω
    have ake:(⟨s.toArray⟩:ByteArray)[n.toNat]? =some (s.getD n.toNat 0):=by exact ajv s n.toNat bO
    refine⟨_,l4 (v:= .int .u8 (s.getD n.toNat 0).toNat) ?_,by simp[aU]⟩;simp only[Instr.index,G,asIntOf,A.1,gx,hA,gC,run_underlying L,vT,if_true,ake]
   ·cases he
  ·cases J
 ·rename_i x lo hi t o l h;simp only[cQ]at ar;obtain⟨⟨⟨J,U⟩,M⟩,aZ⟩:=ar;split at J
  ·rename_i F;obtain⟨d,L,K⟩:=jm H F;obtain rfl:=yV K;have A:=e3 B U;simp only[hZ,JY]at he;split at he
   ·rename_i s ai;rw[ai]at A;simp only[aU]at A;split at he
    ·rename_i N Q av MW;cases he;obtain⟨bQ,cn,dj⟩:=aw;have a7:=I4 B M av;have bK:=I4 B aZ MW;refine⟨_,l4 (v:= .string ⟨((s.take Q.toNat).drop N.toNat).toArray⟩) ?_,?_⟩
     ·have E:=RN P w false s.length s.length (l.map a.eval) (h.map a.eval) N Q
       a7 bK bQ cn dj (dO _)
      simp only[Instr.sliceAt,Instr.slice,A.1,gx,hA,gC,run_underlying L,Option.map_none,kf,hR,if_false,FI,E,agl]
     ·simp only[aU];refine⟨trivial,?_⟩;have:=A.2;simp only[ud,List.length_take];omega
    ·cases he
   ·cases he
  ·cases J
 ·rename_i sz x lo hi t o l h;simp only[cQ]at ar;obtain⟨⟨⟨J,U⟩,M⟩,aZ⟩:=ar;split at J
  ·rename_i e F;split at J
   ·rename_i g bf;simp only[ey]at J;subst J;obtain⟨d,L,K⟩:=jm H F;obtain rfl:=sT K;obtain⟨_,en⟩:=wQ H bf w;have A:=e3 B U;simp only[hZ,IC]at he;split at he
    ·rename_i ed tag xs ai;split at he
     ·rename_i ga;subst ga;rw[ai]at A;simp only[aU]at A;obtain⟨⟨R,cap,O,S,W,fJ⟩,_⟩:=A;split at he
      ·rename_i N Q av MW;cases he;obtain⟨bQ,cn,dj⟩:=aw;have a7:=I4 B M av;have bK:=I4 B aZ MW;have E:=RN P w true xs.length cap (l.map a.eval) (h.map a.eval) N Q
        a7 bK bQ cn dj S
       refine⟨_,l4 (v:= .slice (if cap=N.toNat then R else R.map (·.add (N.toNat*g.size))) (Q.toNat-N.toNat) (cap-N.toNat)) ?_,?_⟩
       ·simp only[Instr.sliceAt,Instr.slice,O,gx,hA,gC,run_underlying L,Option.map_none,E,en]
       ·simp only[aU];have hlen:((xs.take Q.toNat).drop N.toNat).length=Q.toNat-N.toNat:=by simp;omega
        refine⟨⟨_,_,by rw[hlen],by rw[hlen];omega,⟨Ω,by rw[hlen];omega⟩,?_⟩,(fun h=>by cases h),(fun g h=>by cases h),(fun _ _ h=>by cases h),(fun _ h=>by cases h)⟩;rcases fJ with rfl|⟨b,off,us,rfl,g1,g2⟩
        ·left;simp
        ·by_cases Bk:cap=N.toNat
         ·left;apply List.eq_nil_of_length_eq_zero;rw[hlen];omega
         ·right;rw[if_neg Bk];refine⟨b,off+N.toNat*g.size,(us.take (Q.toNat*g.size)).drop (N.toNat*g.size),by simp[pJ],It _ (Iv _ g1),aa8 _ (abb _ g2)⟩
      ·cases he
     ·cases he
    ·cases he
   ·cases J
  ·cases J
 ·rename_i op wr x y ZF ty o o' arI;simp only[cQ,gy]at ar;obtain⟨⟨rfl,J⟩,U⟩:=ar;obtain⟨r,g1,g2⟩:=ad5 P w ν (by simpa only[hZ]using he) aw ty (e3 B J) (e3 B U) o o';exact⟨r,l4 g1,g2⟩
 ·rename_i x op ty o;simp only[cQ,gy]at ar;obtain⟨rfl,J⟩:=ar;have A:=e3 B J;simp only[hZ]at he;unfold IW at he;split at he
  ·rename_i b E;cases he;rw[E]at A;simp only[aU]at A;exact⟨_,l4 (v:= .bool (!b)) (by simp[Op.unary,A]),by simp[aU]⟩
  ·cases he
 ·rename_i x op ty o;simp only[cQ,gy]at ar;obtain⟨rfl,J⟩:=ar;have A:=e3 B J;simp only[hZ]at he;unfold IQ at he;split at he
  ·rename_i k n E;cases he;rw[E]at A;simp only[aU]at A;exact⟨_,l4 (v:= .int k (k.wrap (0-n))) (by simp[Op.unary,A,Op.intArith]),by simp[aU]⟩
  ·cases he
 ·rename_i k x s d o;simp only[cQ]at ar;obtain⟨J,U⟩:=ar;split at J
  ·rename_i a7 bK zh te;simp only[gy]at J;subst J;obtain⟨d1,gg,MJ⟩:=jm H zh;obtain rfl:=Dw MJ;obtain⟨d2,fi,MK⟩:=jm H te;obtain rfl:=Dw MK;have A:=e3 B U;simp only[hZ]at he;unfold GY at he;split at he
   ·rename_i bs n E;cases he;rw[E]at A;simp only[aU]at A;exact⟨_,l4 (v:= .int k (k.wrap n)) (by simp[convert,A,run_underlying gg,run_underlying fi,Conv.intToInt]),by simp[aU]⟩
   ·cases he
  ·cases J
 ·rename_i i x o j;simp only[cQ,ey]at ar;obtain⟨rfl,J⟩:=ar;have A:=e3 B J;simp only[hZ]at he;unfold A3 at he;split at he
  ·rename_i bm E;simp only[hq]at he;obtain⟨q,bM,he⟩:=he;cases he;rw[E]at A;simp only[aU]at A;obtain⟨us,hu,U⟩:=A;obtain⟨v,g1,g2⟩:=Fx i U bM;have me:us[i]? =some v:=by simpa using g1
   exact⟨v,l4 (by simp[Instr.extract,hu,me]),g2⟩
  ·cases he
 ·rename_i x o t;simp only[cQ]at ar;obtain⟨J,U⟩:=ar;have A:=e3 B U;simp only[hZ]at he;unfold BY at he;split at he
  ·rename_i sz tag xs E;cases he;rw[E]at A;simp only[aU]at A;obtain⟨⟨R,cap,O,_⟩,_⟩:=A;refine⟨.int .i64 xs.length,?_,by simp[aU]⟩;split at J
   ·rename_i F;obtain⟨d,L,K⟩:=jm H F;obtain rfl:=sT K;simp[execOp,resolve,invoke,builtin,Builtin.len_,run_underlying L,O,goInt]
   ·cases J
  ·rename_i sz k n E;cases he;rw[E]at A;simp only[aU]at A;obtain⟨⟨R,cap,O⟩,_⟩:=A;refine⟨.int .i64 n,?_,by simp[aU]⟩;split at J
   ·rename_i F;obtain⟨d,L,K⟩:=jm H F;obtain rfl:=sT K;simp[execOp,resolve,invoke,builtin,Builtin.len_,run_underlying L,O,goInt]
   ·cases J
  ·rename_i R n cap E;cases he;rw[E]at A;simp only[aU]at A;refine⟨.int .i64 n,?_,by simp[aU]⟩;split at J
   ·rename_i F;obtain⟨d,L,K⟩:=jm H F;obtain rfl:=sT K;simp[execOp,resolve,invoke,builtin,Builtin.len_,run_underlying L,A,goInt]
   ·cases J
  ·cases he
 ·rename_i x o t;simp only[cQ]at ar;obtain⟨J,U⟩:=ar;have A:=e3 B U;simp only[hZ]at he;unfold FJ at he;split at he
  ·rename_i s E;cases he;rw[E]at A;simp only[aU]at A;refine⟨.int .i64 s.length,?_,by simp[aU]⟩;split at J
   ·rename_i F;obtain⟨d,L,K⟩:=jm H F;obtain rfl:=yV K;simp[execOp,resolve,invoke,builtin,Builtin.len_,run_underlying L,A.1,goInt,FI]
   ·cases J
  ·rename_i s E;cases he;rw[E]at A;simp only[aU]at A;refine⟨.int .i64 s.size,?_,by simp[aU]⟩;split at J
   ·rename_i F;obtain⟨d,L,K⟩:=jm H F;obtain rfl:=yV K;simp[execOp,resolve,invoke,builtin,Builtin.len_,run_underlying L,A,goInt]
   ·cases J
  ·cases he
 ·rename_i zero parts t bT;split at ar
  ·rename_i ek z F;simp only[cQ]at ar;obtain⟨⟨J,U⟩,M⟩:=ar;have bC:=atp J;obtain⟨i,d,ato,A,G,bh,b3,dM,dm,sU,sV⟩:=(wR H F).ex;obtain⟨gs,rfl,lg⟩:=Lz dM;simp only at bC sU sV;subst bC;have mD:(gs.toList.all fun f=>(eF aT f.type).isSome)=true:=by rw[<-lg]at U;simpa[List.all_map,Function.comp_def]using U
   obtain⟨tQ,c2,dD⟩:=ZQ H gs.toList mD;rw[lg]at dD;cases ato<;>simp only[Aw]at sU;case agg us=>
    simp only[hZ]at he;cases E:vG st.t zero parts with
    |none=>simp[E]at he
    |some x=>obtain⟨cC,cs'⟩:=x;simp only[E,pB]at he;cases he;obtain⟨b1,g1,g2⟩:=abr B dD parts bT.toList zero us c cs' M (Q8 w ν _ _ sU) E aw;refine⟨.agg b1,l4 (run_build w t _ b1 ?_),by simp only[aU];exact⟨b1,rfl,g2⟩⟩;simp only[Program.built,A,G,dm,c2,pw];simpa using g1
   all_goals cases sU
  ·cases ar
 ·rename_i x o;have A:=e3 B ar;simp only[hZ]at he;unfold Cc at he;split at he
  ·rename_i k off E;cases he;rw[E]at A;have G:=A;simp only[aU]at A;obtain⟨b,_,O⟩:=A;exact⟨a.eval o,by simp[execOp,O],G⟩
  ·rename_i q E;cases he;rw[E]at A;have G:=A;simp only[aU]at A;obtain⟨b,off,u,O,_⟩:=A;exact⟨a.eval o,by simp[execOp,O],G⟩
  ·rename_i f cs E;cases he;rw[E]at A;have G:=A;simp only[aU]at A;obtain⟨us,O,_⟩:=A;exact⟨a.eval o,by simp[execOp,O],G⟩
  ·cases he
 ·rename_i x y o o' t t';simp only[cQ]at ar;have A:=e3 B ar.1;have G:=e3 B ar.2;simp only[hZ]at he;unfold IM at he;split at he
  ·rename_i k m bs n hm Z;split at he
   ·rename_i ab;subst ab;cases he;rw[hm]at A;rw[Z]at G;simp only[aU]at A G;exact⟨.int k (if n<m then n else m),by simp[execOp,resolve,invoke,builtin,Builtin.min_,Builtin.min2,A,G],by simp[aU]⟩
   ·cases he
  ·cases he
 ·rename_i n xs m os;simp only[cQ,ey]at ar;obtain⟨rfl,ar⟩:=ar;simp only[hZ]at he;cases he;have vR:=Fw B ar;refine⟨.func (.func n) #[] (os.map a.eval),by simp[execOp,Instr.makeFunc],?_⟩;simp only[aU];exact⟨os.map a.eval,rfl,by simpa using vR⟩
 ·rename_i cA zero ok x k t o o' IX;simp only[cQ,ey]at ar;obtain⟨⟨⟨rfl,J⟩,U⟩,M⟩:=ar;have A:=e3 B U;have G:=e3 B M;split at J
  ·rename_i sz my pd sa z F;simp only[cQ]at J;obtain⟨akm,MO⟩:=J;split at MO
   ·rename_i auN HI;have bC:=Ra MO;obtain⟨cU,hu,K⟩:=jm H F;have xo:cU= .map pd sa:=by cases cU<;>simp[k7]at K;obtain⟨rfl,rfl⟩:=K;rfl
    subst xo;obtain⟨cd,l5,z2,_⟩:=QH H HI w;rw[<-bC]at z2;have aa:=(Q9 w ν z2).1;have rh:=XG H akm;simp only[hZ]at he;unfold pf at he;split at he
    ·rename_i key ad;rw[ad]at A;simp only[aU]at A;obtain⟨bl,S,W⟩:=A;split at he
     ·rename_i clock borns kvs hW;obtain⟨h5,us,el,g1,g2,g3,g4,g5⟩:=B.good.box key _ hW;rw[S]at g1;cases g1;simp only[l0]at g4;simp only[k3]at g5;have iJ:(getObj bl).run P w= .ok (.map (gP borns us.toList).toArray clock) w:=yi g4;split at he
      ·cases he
      rename_i fL;have D4:=abq (P:=P) (w:=w) rh ((gP borns us.toList).toArray.isEmpty) G (by simpa using fL);split at he
      ·rename_i v hm;cases he;obtain⟨j,u,f1,f2⟩:=Ow rh G borns kvs us.toList 0 _ g5.1 g5.2.len hm;refine⟨if ok then .tuple #[u,.bool true]else u,?_,?_⟩
       ·simp only[execOp];refine l4 ?_;simp only[Instr.lookup,gx,run_underlying hu,gC,W,iJ,hA,D4,f1.run rh]
       ·cases ok
        ·simpa using f2
        ·simp only[if_true,aU];exact⟨_,rfl,by simp only[c7];exact⟨_,_,rfl,f2,_,_,rfl,by simp[aU],rfl⟩⟩
      ·rename_i hm;cases he;have f1:=Ow rh G borns kvs us.toList 0 _ g5.1 g5.2.len hm;simp only at f1;refine⟨if ok then .tuple #[cd,.bool false]else cd,?_,?_⟩
       ·simp only[execOp];refine l4 ?_;simp only[Instr.lookup,gx,run_underlying hu,gC,W,iJ,hA,D4,f1.run rh,l5]
       ·cases ok
        ·simpa using aa
        ·simp only[if_true,aU];exact⟨_,rfl,by simp only[c7];exact⟨_,_,rfl,aa,_,_,rfl,by simp[aU],rfl⟩⟩
      ·cases he
     ·cases he
    ·cases he
   ·cases MO
  ·cases J
 ·rename_i x o;have A:=e3 B ar;simp only[hZ]at he;unfold qL at he;split at he
  ·rename_i gk ad;rw[ad]at A;simp only[aU]at A;obtain⟨bl,S,W⟩:=A;split at he
   ·rename_i since seen last mk hW;obtain⟨h5,us,el,g1,g2,g3,g4,g5⟩:=B.good.box gk _ hW;rw[S]at g1;cases g1;simp only[l0]at g4;simp only[k3,c7,aU]at g5;obtain⟨u,b1,sk,⟨mb,m1,rfl⟩,rfl⟩:=g5;rw[sk]at g4;simp only at g4;split at he
    ·rename_i clock borns kvs akw;obtain⟨aea,sJ,afh,a7,bK,cp,eD,dr⟩:=B.good.box mk _ akw;rw[m1]at a7;cases a7;simp only[l0]at eD;simp only[k3]at dr;split at he
     ·rename_i n Z;simp only[hq]at he;obtain⟨q,bM,he⟩:=he;cases he;obtain⟨e,f1,f2⟩:=Yt borns kvs sJ.toList p dr.1 bM;refine⟨.tuple #[e.key,e.val],?_,f2⟩;simp only[execOp];refine l4 ?_;have aka:(getObj bl).run P w= .ok (.mapIter (some mb) since seen.toArray last) w:=yi g4;have akb:(getObj mb).run P w= .ok (.map (gP borns sJ.toList).toArray clock) w:=yi eD;have MD:seen.toArray.back? =some n:=by simpa using Z
      have Bl:(clock !=last)=false:=by simp[aw]
      have aj3:(gP borns sJ.toList).toArray.find? (·.born==n)=some e:=by simpa using f1
      simp only[Instr.entry,W,gx,aka,gC,MD,akb,Bl,hR,if_false,aj3,hA]
     ·cases he
    ·cases he
   ·cases he
  ·cases he
 ·rename_i x o t;simp only[cQ]at ar;obtain⟨J,U⟩:=ar;have A:=e3 B U;simp only[hZ]at he;unfold Cb at he;split at he
  ·rename_i key E;rw[E]at A;simp only[aU]at A;obtain⟨bl,S,W⟩:=A;split at he
   ·rename_i clock borns kvs hW;cases he;obtain⟨h5,us,el,g1,g2,g3,g4,g5⟩:=B.good.box key _ hW;rw[S]at g1;cases g1;simp only[l0]at g4;simp only[k3]at g5;have iJ:(getObj bl).run P w= .ok (.map (gP borns us.toList).toArray clock) w:=yi g4;have hlen:(gP borns us.toList).length=borns.length:=Uy g5.2.len (abh g5.1);refine⟨.int .i64 borns.length,?_,by simp[aU]⟩;split at J
    ·rename_i F;obtain⟨d,L,K⟩:=jm H F;obtain⟨pd,sa,rfl⟩:∃pd sa,d= .map pd sa:=by cases d<;>simp[k7]at K;exact⟨_,_,rfl⟩
     simp[execOp,resolve,invoke,builtin,Builtin.len_,run_underlying L,W,goInt,iJ,hlen]
    ·cases J
   ·cases he
  ·cases he
 ·rename_i neg ek x y op t o o' arI;simp only[cQ,gy]at ar;obtain⟨⟨⟨rfl,V⟩,J⟩,U⟩:=ar;have A:=e3 B J;have G:=e3 B U;simp only[hZ]at he;unfold js at he;split at he
  ·rename_i br b2 bS E;simp only at V;cases he;rw[bS]at A;rw[E]at G;simp only[aU]at A G;split at V
   ·rename_i F;obtain⟨d,L,K⟩:=jm H F;obtain rfl:d= .bool:=by cases d<;>simp[k7]at K;rfl
    refine⟨.bool (if neg then br !=b2 else br==b2),l4 ?_,by simp[aU]⟩;cases neg<;>simp[A,G,eqGuard,binOp,afr L,bne]
   ·cases V
  ·rename_i auU as dC bS E;simp only at V;simp only[hq]at he;obtain⟨q,bM,he⟩:=he;cases he;rw[bS]at A;rw[E]at G;simp only[aU]at A G;obtain⟨X,afa,apA⟩:=A;obtain⟨Y,afb,apB⟩:=G;obtain⟨gs,hu,bf,dy,jK⟩:=Vi H V;obtain⟨i1,_,_⟩:=UC hu bf dy apA apB bM;refine⟨.bool (if neg then !q else q),l4 ?_,by simp[aU]⟩;rw[afa,afb];cases neg
   ·simp only[hR,if_false,gx,run_eqGuard_agg w _ t o o' X Y jK,gC,run_eql_struct,i1]
   ·simp only[if_true,gx,run_eqGuard_agg w _ t o o' X Y jK,gC,run_neq_struct,i1]
  ·cases he
 ·rename_i x y o o' t t';simp only[cQ]at ar;have A:=e3 B ar.1;have G:=e3 B ar.2;simp only[hZ]at he;unfold IG at he;split at he
  ·rename_i k m bs n hm Z;split at he
   ·rename_i ab;subst ab;cases he;rw[hm]at A;rw[Z]at G;simp only[aU]at A G;exact⟨.int k (if m<n then n else m),by simp[execOp,resolve,invoke,builtin,Builtin.max_,Builtin.max2,A,G],by simp[aU]⟩
   ·cases he
  ·cases he
 ·rename_i t x t' o;simp only[cQ,ey]at ar;obtain⟨⟨rfl,J⟩,U⟩:=ar;have A:=e3 B U;simp only[hZ]at he;cases he;split at J
  ·rename_i F;obtain⟨d,L,K⟩:=jm H F;obtain rfl:=sT K;refine⟨.iface t (a.eval o),l4 (by simp[Instr.makeInterface,run_underlying L]),?_⟩;simp only[aU];exact⟨_,rfl,A⟩
  ·cases J
 ·rename_i agg sz x t o;simp only[cQ]at ar;obtain⟨J,U⟩:=ar;split at J
  ·rename_i f F;simp only[cQ,ey]at J;obtain⟨rfl,rfl⟩:=J;obtain⟨v,g1,g2⟩:=IA H B.good F (e3 B U) (ami (by simpa only[hZ]using he)) aw;exact⟨v,l4 g1,g2⟩
  ·cases J
 ·rename_i x s d o;simp only[cQ]at ar;obtain⟨J,U⟩:=ar;split at J
  ·rename_i e _ _ zh te;split at J
   ·rename_i aj2;obtain⟨d1,gg,MJ⟩:=jm H zh;obtain rfl:=sT MJ;obtain⟨d2,fi,MK⟩:=jm H te;obtain rfl:=yV MK;obtain⟨d3,hb,ajY⟩:=jm H aj2;obtain rfl:=Dw ajY;have A:=e3 B U;simp only[hZ]at he;unfold Gu at he;split at he
    ·rename_i sz tag xs E;simp only[hq]at he;obtain⟨dC,pS,he⟩:=he;cases he;rw[E]at A;simp only[aU]at A;obtain⟨⟨R,cap,a8,bB,bX,dq⟩,_⟩:=A;have av:=RT pS;have ad:∃ns:List Int,ns.length=xs.length/\dC=ns.map AI/\(xs.length=0\/ ∃b off,R=some ⟨b,off,none⟩/\kY w ν.A b off (ns.map (Value.int .u8))):=by
      rcases dq with rfl|⟨b,off,us,c2,dD,hG⟩
      ·simp only[r4,dU]at pS;exact⟨[],rfl,by rw[<-pS];rfl,.inl rfl⟩
      ·obtain⟨ns,dL,eI,kx⟩:=RU pS hG;subst dL;exact⟨ns,by simpa using kx,eI,.inr ⟨b,off,c2,dD⟩⟩
     obtain⟨ns,gq,rfl,hO⟩:=ad;refine⟨_,l4 (v:= .string ⟨(ns.map AI).toArray⟩) ?_,by simp only[aU];exact⟨trivial,by rw[av];exact bX.2⟩⟩;rw[a8];simp only[convert,gx,run_underlying gg,run_underlying fi,gC];simp only[run_underlying hb,gx,gC,ad1 gq hO]
    ·cases he
   ·cases J
  ·cases J
 ·rename_i agg sz x t o;simp only[cQ]at ar;obtain⟨J,U⟩:=ar;split at J
  ·rename_i f F;simp only[cQ,ey]at J;obtain⟨rfl,rfl⟩:=J;obtain⟨v,g1,g2⟩:=IA H B.good F (e3 B U) (aiu (by simpa only[hZ]using he)) aw;exact⟨v,l4 g1,g2⟩
  ·cases J
 ·exact absurd rfl (ajP _ _ _ _ _)
 ·cases ar
def arO{P:cI}{aT:List (Nat×ev)}(f:hY P aT=true){C:fm}{st:bp}{a:Act}{w:World}{ν:bc}(g:c9 C st a w ν){i:gO}{o:Oper}(ar:F1 aT i o.op=true)
  {c:Prop} {p:af} (he:hZ st i=some (c,p)) (aw:c):∃v,(execOp a.eval o).run P w= .ok (.value v) w/\aU w ν p v:=by
 by_cases d:∃b z ok x k,i= .mgetB b z ok x k
 ·obtain⟨b,z,ok,x,k,rfl⟩:=d;refine acn f g (i:= .mget b z ok x k) (fun _ _ _ _ _ e=>by cases e) ?_ he aw;obtain⟨dst,op,type,pos,after,guard⟩:=o;cases op<;>first|exact ar|simp[F1]at ar
 ·exact acn f g (fun b z ok x k e=>d ⟨b,z,ok,x,k,e⟩) ar he aw
def T1{w:World}{o:Obj}{b i:Nat}(h:b<w.heap.size):(w.alloc o).cell? ⟨b,i,none⟩=w.cell? ⟨b,i,none⟩:=World.cell?_of_block (Below.heap_alloc w o b h)
def bc.withBox(ν:bc)(k:aB)(bl:Nat):bc:={ν with bx:=fun j=>if j=k then some bl else ν.bx j}
def bc.withOwn(ν:bc)(k:aB)(n:Nat)(v:Value):bc:={ν with ow:=fun j=>if j=k then some (n,v)else ν.ow j}
def c9.lookNone{C:fm}{st:bp}{a:Act}{w:World}{ν:bc}(h:c9 C st a w ν){k:aB}(c:fresh st.n st.o k):ae k st.b=none/\ae k st.e=none:=by
 obtain⟨J,U,_⟩:=h.new k c;constructor
 ·cases b:ae k st.b with
  |none=>rfl
  |some cs=>obtain⟨bl,us,el,g1,_⟩:=h.good.box _ _ b;rw[J]at g1;cases g1
 ·cases b:ae k st.e with
  |none=>rfl
  |some o=>obtain⟨v,us,g1,_⟩:=h.good.own _ _ b;rw[U]at g1;cases g1
def Good.ownLt{pr:Nat->Prop}{w:World}{ν:bc}{b:List (aB×List af)}{e:List (aB×dW)}(h:Good pr w ν b e){g:aB}{o:dW}(bf:ae g e=some o){n:Nat}{v:Value}(c:ν.ow g=some (n,v)){bl:Nat}(a:v.ownBlock=some bl):bl<w.heap.size:=by obtain⟨v',us,g1,g2,_⟩:=h.own g o bf;rw[c]at g1;cases g1;exact(g2.lt bl a).2
def Good.boxLt{pr:Nat->Prop}{w:World}{ν:bc}{b:List (aB×List af)}{e:List (aB×dW)}(h:Good pr w ν b e){k:aB}{cs:List af}(c:ae k b=some cs){bl:Nat}(a:ν.bx k=some bl):bl<w.heap.size:=by obtain⟨d,us,el,g1,_,_,g4,_⟩:=h.box k cs c;rw[a]at g1;cases g1;exact(Array.getElem?_eq_some_iff.1 g4).1
def c9.newBox{C:fm}{st:bp}{a:Act}{w:World}{ν:bc}(h:c9 C st a w ν){d:aB}(K:ν.bx d=none/\ν.ow d=none/\∀j b,¬ν.tr d j b){n':Nat}{o':List aB}(P:∀j,fresh n' o' j->fresh st.n st.o j/\j≠d){cs:List af}{us:Array Value}(el:gT)(aw:k3 w ν cs us.toList):
  c9 C {st with b:=cJ d cs st.b,n:=n',o:=o'} a (w.alloc (l0 cs us el)) (ν.withBox d w.heap.size)/\
  aU (w.alloc (l0 cs us el)) (ν.withBox d w.heap.size) (.ptr d 0) (.pointer (some ⟨w.heap.size,0,none⟩)):=by
 obtain⟨L,U,E⟩:=K;have ar:mx w ν (w.alloc (l0 cs us el)) (ν.withBox d w.heap.size):=by
  refine⟨fun b o i=>⟨i,T1 (h.good.alt b o i)⟩,fun k b _ c=>?_,fun g n u _ bf=>⟨n,u,bf,.inl ⟨rfl,rfl⟩⟩,fun b o i=>yl (Below.heap_alloc w _ b (h.good.alt b o i)),fun _ _ _ _ h=>h⟩;have:k≠d:=fun e=>by subst e;rw[L]at c;cases c
  simp[bc.withBox,this,c]
 have z:(w.alloc (l0 cs us el)).heap.size=w.heap.size+1:=Ψ
 have s:∀k,(ae k (cJ d cs st.b)).isSome->k=d\/(k≠d/\(ae k st.b).isSome/\(ν.withBox d w.heap.size).bx k=ν.bx k):=by
  intro k c;by_cases e:k=d
  ·exact .inl e
  ·rw[jk,if_neg (Ne.symm e)]at c;exact .inr ⟨e,c,by simp[bc.withBox,e]⟩
 refine⟨h.over ar rfl ⟨fun bl o i=>by rw[z];have:=h.good.alt bl o i;omega,fun k A c=>?_,fun k bs bl c M q r=>?_,fun g o bf=>?_,h.good.oinj,fun g k n v bl bf c H f t=>?_,fun k=>?_,fun bl f k j F=>?_⟩
  ⟨h.fr.os,h.fr.tape,h.fr.output,by rw[z];have:=h.fr.size;omega,fun k c hm=>?_,fun b o i=>?_,h.fr.fresh,fun n b f=>?_,h.fr.obn,h.fr.row,h.fr.obr,h.fr.trd,fun k j b f=>⟨(h.fr.trb k j b f).1,by rw[z];have:=(h.fr.trb k j b f).2;omega⟩,fun k j b f=>?_,fun b o i=>(ar.sh b o (h.fr.keep b o i).1).trans (h.fr.sh b o i)⟩ (fun m hm=>?_),?_⟩
 ·simp only at c;rw[jk]at c;by_cases e:d=k
  ·rw[if_pos e]at c;cases c;subst e;refine⟨w.heap.size,us,el,by simp[bc.withBox],.inr h.fr.size,fun o i=>?_,heap_alloc_new w _,rI ar aw⟩;have:=h.good.alt _ o i;omega
  ·rw[if_neg e]at c;obtain⟨bl,S,O,g1,g2,g3,g4,g5⟩:=h.good.box k A c;exact⟨bl,S,O,ar.bx _ _ trivial g1,g2,g3,by rw[Below.heap_alloc w _ bl (Array.getElem?_eq_some_iff.1 g4).1];exact g4,rI ar g5⟩
 ·rcases s k c with rfl|⟨G,p,l⟩<;>rcases s bs M with rfl|⟨m1,m2,m3⟩
  ·rfl
  ·exfalso;simp only[bc.withBox,if_true,dU]at q;subst q;rw[m3]at r;obtain⟨A,y⟩:=fx.1 m2;have:=h.good.boxLt y r;omega
  ·exfalso;simp only[bc.withBox,if_true,dU]at r;subst r;rw[l]at q;obtain⟨A,y⟩:=fx.1 p;have:=h.good.boxLt y q;omega
  ·rw[l]at q;rw[m3]at r;exact h.good.inj k bs bl p m2 q r
 ·obtain⟨v,xs,g1,g2,g3,g4⟩:=h.good.own g o bf;exact⟨v,xs,g1,g2.alloc _,g3,tU ar (fun _ _ _ h=>h) g4⟩
 ·rcases s k c with rfl|⟨G,p,l⟩
  ·simp only[bc.withBox,if_true,dU]at t;subst t;obtain⟨o,N⟩:=fx.1 bf;have:=h.good.ownLt N H f;omega
  ·rw[l]at t;exact h.good.obx g k n v bl bf p H f t
 ·by_cases e:k=d
  ·subst e;exact .inr U
  ·rcases h.good.one k with J|J
   ·exact .inl (by simp[bc.withBox,e,J])
   ·exact .inr J
 ·rcases f with⟨bs,R,a2⟩|f
  ·rcases s bs R with rfl|⟨G,p,l⟩
   ·simp[bc.withBox]at a2;subst a2;exact absurd (h.fr.trb k j _ F).2 (Nat.lt_irrefl _)
   ·exact h.good.otr bl (.inl ⟨bs,p,by rw[<-l];exact a2⟩) k j F
  ·exact h.good.otr bl (.inr f) k j F
 ·rw[Below.heap_alloc w _ k (by have:=h.fr.size;omega)];exact h.fr.block k c hm
 ·obtain⟨x,B⟩:=h.fr.keep b o i;exact⟨x,(T1 (h.good.alt b o x)).trans B⟩
 ·exact ar.bx _ _ trivial (h.fr.obj n b f)
 ·have Q:k≠d:=fun e=>by subst e;exact E j b f
  obtain⟨t1,t2⟩:=h.fr.trn k j b f;exact⟨by simp[bc.withBox,Q,t1],t2⟩
 ·obtain⟨f1,f2⟩:=P m hm;obtain⟨x,B⟩:=h.new m f1;refine⟨?_,B⟩;simp[bc.withBox,f2,x]
 ·simp[aU,bc.withBox]
def c9.setBox{C:fm}{st:bp}{a:Act}{w w':World}{ν:bc}(h:c9 C st a w ν){k:aB}{cs cs':List af}(p:ae k st.b=some cs){bl:Nat}(f:ν.bx k=some bl){us:Array Value}{el:gT}
  (N:w'.os=w.os) (L:w'.tape=w.tape) (M:w'.output=w.output) (l:∀j,j≠bl->w'.heap[j]? =w.heap[j]?) (r:w'.heap.size=w.heap.size) (A:w'.heap[bl]? =some (l0 cs' us el)) (aw:k3 w ν cs' us.toList):
  c9 C {st with b:=cJ k cs' st.b} a w' ν/\mx w ν w' ν:=by
 obtain⟨O,P,K,g1,g2,g3,g4,g5⟩:=h.good.box k cs p;rw[f]at g1;cases g1;have ar:mx w ν w' ν:=by
  refine⟨fun b o d=>⟨d,World.cell?_of_block (l b fun e=>?_)⟩,fun _ _ _ h=>h,fun g n u _ bf=>⟨n,u,bf,.inl ⟨rfl,rfl⟩⟩,fun b o d=>yl (l b fun e=>?_),fun _ _ _ _ h=>h⟩<;>
  (subst e;exact g3 o d)
 have q:∀j,(ae j (cJ k cs' st.b)).isSome->(ae j st.b).isSome:=by
  intro j c;rw[jk]at c;by_cases e:k=j
  ·subst e;simp[p]
  ·rwa[if_neg e]at c
 refine⟨h.over ar rfl ⟨fun b o d=>by rw[r];exact h.good.alt b o d,fun j E c=>?_,fun j dh b c z=>h.good.inj j dh b (q j c) (q dh z),fun g o bf=>?_,h.good.oinj,fun g j n v b bf c=>h.good.obx g j n v b bf (q j c),h.good.one,fun bl f=>h.good.otr bl (f.imp (fun⟨k,J,U⟩=>⟨k,q k J,U⟩) id)⟩
  ⟨N.trans h.fr.os,L.trans h.fr.tape,M.trans h.fr.output,by rw[r];exact h.fr.size,fun j c hm=>?_,fun b o d=>?_,h.fr.fresh,h.fr.obj,h.fr.obn,h.fr.row,h.fr.obr,h.fr.trd,fun k j b f=>⟨(h.fr.trb k j b f).1,by rw[r];exact(h.fr.trb k j b f).2⟩,h.fr.trn,fun b o d=>(ar.sh b o (h.fr.keep b o d).1).trans (h.fr.sh b o d)⟩ h.new,ar⟩
 ·simp only at c;rw[jk]at c;by_cases e:k=j
  ·rw[if_pos e]at c;cases c;subst e;exact⟨bl,us,el,f,g2,g3,A,rI ar aw⟩
  ·rw[if_neg e]at c;obtain⟨b,H,B,m,i,t,x,F⟩:=h.good.box j E c;refine⟨b,H,B,m,i,t,?_,rI ar F⟩;rw[l b fun s=>e (h.good.inj k j bl (by simp[p]) (by simp[c]) f (by rw[<-s];exact m))];exact x
 ·obtain⟨v,xs,m,i,t,x⟩:=h.good.own g o bf;refine⟨v,xs,m,⟨i.1,?_⟩,t,tU ar (fun _ _ _ h=>h) x⟩;rcases i.2 with i|⟨bb,cap,cur,f1,f2,f3,f4⟩
  ·exact .inl i
  ·refine .inr ⟨bb,cap,cur,f1,f2,?_,f4⟩;rw[l bb fun s=>h.good.obx g k o.n v bl (by simp[bf]) (by simp[p]) m (by rw[f1,<-s];rfl) f];exact f3
 ·rw[l j fun e=>by subst e;exact g2.elim hm (fun g2=>Ω)];exact h.fr.block j c hm
 ·obtain⟨y,G⟩:=h.fr.keep b o d;exact⟨y,(ar.A b o y).2.trans G⟩
def c9.storeBox{C:fm}{st:bp}{a:Act}{w:World}{ν:bc}(h:c9 C st a w ν){k:aB}{cs cs':List af}(d:ae k st.b=some cs){bl:Nat}(c:ν.bx k=some bl)(g:gV cs=true){us:Array Value}(aw:cW w ν cs' us.toList):
  c9 C {st with b:=cJ k cs' st.b} a (w.setRow bl us) ν:=by
 obtain⟨l,f,el,g1,g2,g3,g4,g5⟩:=h.good.box k cs d;rw[c]at g1;cases g1;rw[pj g]at g4;have e:=wI aw;exact(h.setBox (w':=w.setRow bl us) d c (us:=us) (el:=el) rfl rfl rfl (fun j i=>setRow_other w bl j us i) (setRow_size w bl us) (by rw[pj e];exact setRow_heap w bl f us el _ g4) (by rw[pk e];exact aw)).1
def bc.withRowOf(ν:bc)(k:aB)(v:Value)(n cells:Nat):bc:={A:=fun b o=>ν.A b o\/(v.ownBlock=some b/\o<cells),bx:=ν.bx,ow:=fun j=>if j=k then some (n,v)else ν.ow j,tr:=ν.tr}
def Iu{w:World}{A:Nat->Nat->Prop}{b:Nat}:∀(us:List Value) (off:Nat),(∀j u,us[j]? =some u->A b (off+j)/\w.cell? ⟨b,off+j,none⟩=some u)->kY w A b off us
 |[],_,_=>trivial
 |u::us,off,h=>⟨h 0 u rfl,Iu us (off+1) fun j x a=>by have:=h (j+1) x (by simpa using a);rwa[show off+(j+1)=off+1+j from by omega]at this⟩
def GV{w w':World}(bf:w.grownBy w' none){b i:Nat}(h:b<w.heap.size):w'.cell? ⟨b,i,none⟩=w.cell? ⟨b,i,none⟩:=World.cell?_of_block (bf.block b h Ψ)
def c9.newRowM{C:fm}{st:bp}{a:Act}{w w':World}{ν:bc}(h:c9 C st a w ν){k:aB}{xs:List af}(l:(ν.bx k=none/\ν.ow k=none/\∀j b,¬ν.tr k j b)\/ ∃o,ae k st.e=some o/\o.n<xs.length){el sz:Nat}{v:Value}{us:List Value}
  (bf:w.grownBy w' none) (G:w'.ownsRow w.heap.size el sz v xs.length us) (aw:dw w ν sz xs us) (Z:xs.length<=lim) {n':Nat} {o':List aB} (dB:∀j,fresh n' o' j->fresh st.n st.o j/\j≠k):
  c9 C {st with e:=cJ k ⟨xs.length,el,sz,some xs⟩ st.e,n:=n',o:=o'} a w' (ν.withOwn k xs.length v)/\
  ((∃b cap,v= .slice (some ⟨b,0,none⟩) xs.length cap)->aU w' (ν.withOwn k xs.length v) (.row sz k xs.length) v):=by
 have r:∀bl,v.ownBlock=some bl->w.heap.size<=bl/\bl<w'.heap.size:=fun bl c=>G.lt bl c;have ar:mx w ν w' (ν.withOwn k xs.length v):=by
  refine⟨fun b o d=>⟨d,GV bf (h.good.alt b o d)⟩,fun j b _ A=>A,fun g n u _ z=>?_,fun b o d=>yl (bf.block b (h.good.alt b o d) Ψ),fun _ _ _ _ h=>h⟩;by_cases e:g=k
  ·subst e;rcases l with l|⟨o,ar,K⟩
   ·rw[l.2.1]at z;cases z
   ·obtain⟨v0,E,i,_⟩:=h.good.own g o ar;rw[i]at z;cases z;exact⟨xs.length,v,by simp[bc.withOwn],.inr K⟩
  ·exact⟨n,u,by simp[bc.withOwn,e,z],.inl ⟨rfl,rfl⟩⟩
 have B:∀g,(ae g (cJ k ⟨xs.length,el,sz,some xs⟩ st.e)).isSome->g=k\/(g≠k/\(ae g st.e).isSome/\(ν.withOwn k xs.length v).ow g=ν.ow g):=by
  intro g O;by_cases e:g=k
  ·exact .inl e
  ·rw[jk,if_neg (Ne.symm e)]at O;exact .inr ⟨e,O,by simp[bc.withOwn,e]⟩
 have W:∀bl,v.ownBlock=some bl->∀j,¬ν.A bl j:=fun bl c j d=>by have J:=h.good.alt bl j d;have:=(r bl c).1;omega
 have M:∀j b,¬ν.tr k j b:=fun j b c=>by
  rcases l with l|⟨o,q,_⟩
  ·exact l.2.2 j b c
  ·obtain⟨v0,E,i,_⟩:=h.good.own k o q;rw[(h.fr.trn k j b c).2]at i;cases i
 refine⟨h.over ar rfl ⟨fun bl o d=>?_,fun j R A=>?_,h.good.inj,fun g o t=>?_,fun g Q n n' u eJ bl J U f p y H=>?_,fun g j n u bl J U f p y=>?_,fun j=>?_,fun bl c bs j N=>?_⟩
  ⟨bf.os.trans h.fr.os,bf.tape.trans h.fr.tape,bf.output.trans h.fr.output,kD h.fr.size bf.size,fun j A hm=>?_,fun b o d=>?_,h.fr.fresh,h.fr.obj,h.fr.obn,fun m n u hm=>Fz (h.fr.row m n u hm) (fun n u=>ar.ow _ n u trivial),h.fr.obr,h.fr.trd,fun k j b c=>⟨(h.fr.trb k j b c).1,Nat.lt_of_lt_of_le (h.fr.trb k j b c).2 bf.size⟩,fun bs j b c=>?_,fun b o d=>(ar.sh b o (h.fr.keep b o d).1).trans (h.fr.sh b o d)⟩ (fun m hm=>?_),?_⟩
 ·have:=h.good.alt bl o d;have:=bf.size;omega
 ·obtain⟨bl,b1,Y,g1,g2,g3,g4,g5⟩:=h.good.box j R A;have K:=(Array.getElem?_eq_some_iff.1 g4).1;exact⟨bl,b1,Y,g1,g2,g3,by rw[bf.block bl K Ψ];exact g4,rI ar g5⟩
 ·simp only at t;rw[jk]at t;by_cases e:k=g
  ·rw[if_pos e]at t;cases t;subst e;refine⟨v,us,by simp[bc.withOwn],⟨G.1,?_⟩,fun bl c=>⟨.inr (kD h.fr.size (r bl c).1),fun j d=>absurd d (W bl c j)⟩,fun ys V=>?_⟩
   ·rcases G.2 with i|⟨bb,cap,cur,f1,f2,f3⟩
    ·exact .inl i
    ·exact .inr ⟨bb,cap,cur,f1,Ω,f3⟩
   ·simp only[dU]at V;subst V;exact⟨rfl,CD ar aw,W⟩
  ·rw[if_neg e]at t;obtain⟨v0,E,i,aC,bh,b3⟩:=h.good.own g o t;exact⟨v0,E,by simp[bc.withOwn,Ne.symm e,i],aC.kept bf (by cases v0.ownBlock<;>simp),bh,tU ar (fun _ _ _ h=>h) b3⟩
 ·rcases B g J with rfl|⟨P,x,s⟩<;>rcases B Q U with rfl|⟨m1,m2,m3⟩
  ·rfl
  ·exfalso;simp only[bc.withOwn,if_true,dU,jo]at f;rw[m3]at p;obtain⟨o,q⟩:=fx.1 m2;have S:=h.good.ownLt q p H;have:=(r bl (by rw[f.2];exact y)).1;omega
  ·exfalso;simp only[bc.withOwn,if_true,dU,jo]at p;rw[s]at f;obtain⟨o,q⟩:=fx.1 x;have S:=h.good.ownLt q f y;have:=(r bl (by rw[p.2];exact H)).1;omega
  ·rw[s]at f;rw[m3]at p;exact h.good.oinj g Q n n' u eJ bl x m2 f p y H
 ·rcases B g J with rfl|⟨P,x,s⟩
  ·simp only[bc.withOwn,if_true,dU,jo]at f;obtain⟨R,X⟩:=fx.1 U;have S:=h.good.boxLt X y;have:=(r bl (by rw[f.2];exact p)).1;omega
  ·rw[s]at f;exact h.good.obx g j n u bl x U f p y
 ·by_cases e:j=k
  ·subst e;rcases l with l|⟨o,q,_⟩
   ·exact .inl l.1
   ·obtain⟨v0,E,i,_⟩:=h.good.own j o q;rcases h.good.one j with J|J
    ·exact .inl J
    ·rw[J]at i;cases i
  ·rcases h.good.one j with J|J
   ·exact .inl J
   ·exact .inr (by simp[bc.withOwn,e,J])
 ·rcases c with c|⟨g,n,u,bq,a2,a3⟩
  ·exact h.good.otr bl (.inl c) bs j N
  ·rcases B g bq with rfl|⟨P,x,s⟩
   ·simp only[bc.withOwn,if_true,dU,jo]at a2;have J:=(r bl (by rw[a2.2];exact a3)).1;have U:=(h.fr.trb bs j _ N).2;omega
   ·exact h.good.otr bl (.inr ⟨g,n,u,x,by rw[<-s];exact a2,a3⟩) bs j N
 ·rw[bf.block j (by have:=h.fr.size;omega) Ψ];exact h.fr.block j A hm
 ·obtain⟨F,L⟩:=h.fr.keep b o d;exact⟨F,(ar.A b o F).2.trans L⟩
 ·have cv:bs≠k:=fun e=>by subst e;exact M j b c
  obtain⟨t1,t2⟩:=h.fr.trn bs j b c;exact⟨t1,by simp[bc.withOwn,cv,t2]⟩
 ·obtain⟨f1,f2⟩:=dB m hm;obtain⟨F,L,cp⟩:=h.new m f1;refine⟨F,?_,cp⟩;simp[bc.withOwn,f2,L]
 ·intro MS;simp only[aU];exact⟨MS,Z,xs.length,v,by simp[bc.withOwn],dO _,fun _=>rfl⟩
def c9.publish{C:fm}{st:bp}{a:Act}{w:World}{ν:bc}(h:c9 C st a w ν){k:aB}{o:dW}{xs:List af}(x:ae k st.e=some o)(ad:o.xs=some xs){v:Value}(q:ν.ow k=some (o.n,v))(F:xs.length<=lim):
  c9 C {st with e:=cJ k ⟨o.n,o.el,o.sz,none⟩ st.e} a w (ν.withRowOf k v o.n (o.n*o.sz))/\
  aU w (ν.withRowOf k v o.n (o.n*o.sz)) (.slice o.sz (.own k) xs) v:=by
 obtain⟨v0,us,L,r,y,V⟩:=h.good.own k o x;rw[q]at L;cases L;obtain⟨H,M,va⟩:=V xs ad;have f:∀g,(ν.withRowOf k v o.n (o.n*o.sz)).ow g=ν.ow g:=fun g=>by
  simp only[bc.withRowOf];split
  ·rename_i e;subst e;exact q.symm
  ·rfl
 have ar:mx w ν w (ν.withRowOf k v o.n (o.n*o.sz)):=⟨fun b o c=>⟨.inl c,rfl⟩,fun j b _ p=>p,fun g n u _ O=>⟨n,u,by rw[f];exact O,.inl ⟨rfl,rfl⟩⟩,fun _ _ _=>rfl,fun _ _ _ _ h=>h⟩
 have s:∀g,(ae g (cJ k ⟨o.n,o.el,o.sz,none⟩ st.e)).isSome->(ae g st.e).isSome:=by
  intro g N;by_cases e:k=g
  ·subst e;simp[x]
  ·rwa[jk,if_neg e]at N
 refine⟨h.over ar rfl ⟨fun bl i c=>?_,fun j R p=>?_,h.good.inj,fun g o' l=>?_,fun g G n n' u S bl J U z aZ=>h.good.oinj g G n n' u S bl (s g J) (s G U) (by rwa[f]at z) (by rwa[f]at aZ),fun g j n u bl J U z=>h.good.obx g j n u bl (s g J) U (by rwa[f]at z),fun j=>?_,fun bl d=>h.good.otr bl (d.imp id (fun⟨g,n,v,X,a2,a3⟩=>⟨g,n,v,s g X,by rwa[f]at a2,a3⟩))⟩
  ⟨h.fr.os,h.fr.tape,h.fr.output,h.fr.size,h.fr.block,fun b i c=>⟨.inl (h.fr.keep b i c).1,(h.fr.keep b i c).2⟩,fun b i c=>?_,h.fr.obj,h.fr.obn,fun m n u hm=>Fz (h.fr.row m n u hm) (fun n u=>ar.ow _ n u trivial),h.fr.obr,h.fr.trd,h.fr.trb,fun bs j b d=>⟨(h.fr.trn bs j b d).1,by rw[f];exact(h.fr.trn bs j b d).2⟩,h.fr.sh⟩ (fun m hm=>?_),?_⟩
 ·rcases c with c|⟨c,_⟩
  ·exact h.good.alt bl i c
  ·exact(r.lt bl c).2
 ·obtain⟨bl,b1,Q,g1,g2,g3,g4,g5⟩:=h.good.box j R p;refine⟨bl,b1,Q,g1,g2,fun i c=>?_,g4,rI ar g5⟩;rcases c with c|⟨c,_⟩
  ·exact g3 i c
  ·exact h.good.obx k j o.n v bl (by simp[x]) (by simp[p]) q c g1
 ·simp only at l;rw[jk]at l;by_cases e:k=g
  ·rw[if_pos e]at l;cases l;subst e;refine⟨v,us,by rw[f];exact q,r,fun bl d=>⟨(y bl d).1,fun j c=>?_⟩,fun ys aK=>by cases aK⟩;rcases c with c|⟨_,c⟩
   ·exact(y bl d).2 j c
   ·exact c
  ·rw[if_neg e]at l;obtain⟨v0,P,t,A,K,Z⟩:=h.good.own g o' l;have B:∀bl,v0.ownBlock=some bl->∀j,(ν.withRowOf k v o.n (o.n*o.sz)).A bl j->ν.A bl j:=fun bl d j c=>by
    rcases c with c|⟨c,_⟩
    ·exact c
    ·exact absurd (h.good.oinj k g o.n o'.n v v0 bl (by simp[x]) (by simp[l]) q t c d) e
   exact⟨v0,P,by rw[f];exact t,A,fun bl d=>⟨(K bl d).1,fun j c=>(K bl d).2 j (B bl d j c)⟩,tU ar B Z⟩
 ·rcases h.good.one j with J|J
  ·exact .inl J
  ·exact .inr (by rw[f];exact J)
 ·rcases c with c|⟨c,_⟩
  ·exact h.fr.fresh b i c
  ·exact .inr (y b c).1
 ·obtain⟨a7,Y,W⟩:=h.new m hm;exact⟨a7,by rw[f];exact Y,W⟩
 ·simp only[aU];refine⟨?_,fun e=>(by cases e),fun g e=>?_,fun _ _ e=>(by cases e),fun _ e=>(by cases e)⟩
  ·rcases r.2 with⟨t,A⟩|⟨bb,cap,cur,f1,f2,f3,f4,f5,f6,f7⟩
   ·refine⟨none,0,by rw[t,H,A],Ω,⟨by simp[maxLen],F⟩,.inl (List.eq_nil_of_length_eq_zero Ω)⟩
   ·refine⟨some ⟨bb,0,none⟩,cap,by rw[f1,H],Ω,⟨f5,F⟩,.inr ⟨bb,0,us,rfl,Iu us 0 fun j u p=>?_,CD ar M⟩⟩;have E:v.ownBlock=some bb:=by rw[f1];rfl
    have Bv:j<us.length:=(fH.1 p).1;refine⟨.inr ⟨E,by rw[r.1]at Bv;omega⟩,?_⟩;have:=r.cells E j u p;rwa[pJ]at this
  ·cases e;exact⟨o.n,v,by rw[f];exact q,Ω,fun _=>rfl⟩
def ack{α:Type}(k:aB)(p q:α):∀l,cJ k q (cJ k p l)=cJ k q l
 |[]=>by simp[cJ]
 |(i,r)::l=>by
  by_cases e:i=k
  ·simp[cJ,e]
  ·simp[cJ,e,ack k p q l]
def c9.newRow{C:fm}{st:bp}{a:Act}{w w':World}{ν:bc}(h:c9 C st a w ν){k:aB}{xs:List af}(g:(ν.bx k=none/\ν.ow k=none/\∀j b,¬ν.tr k j b)\/ ∃o,ae k st.e=some o/\o.n<xs.length){el sz:Nat}{v:Value}{us:List Value}
  (bf:w.grownBy w' none) (d:w'.ownsRow w.heap.size el sz v xs.length us) (aw:dw w ν sz xs us) (c:xs.length<=lim) {n':Nat} {o':List aB} (f:∀j,fresh n' o' j->fresh st.n st.o j/\j≠k):
  c9 C {st with e:=cJ k ⟨xs.length,el,sz,none⟩ st.e,n:=n',o:=o'} a w' ((ν.withOwn k xs.length v).withRowOf k v xs.length (xs.length*sz))/\
  aU w' ((ν.withOwn k xs.length v).withRowOf k v xs.length (xs.length*sz)) (.slice sz (.own k) xs) v:=by
 have J:=(h.newRowM g bf d aw c f).1;have U:=J.publish (k:=k) (o:=⟨xs.length,el,sz,some xs⟩) (xs:=xs) (v:=v) (by simp[jk]) rfl (by simp[bc.withOwn]) c;simpa only[ack]using U
def c9.setRowM{C:fm}{st:bp}{a:Act}{w w':World}{ν:bc}(h:c9 C st a w ν){k:aB}{o:dW}{xs xs':List af}(F:ae k st.e=some o)(ad:o.xs=some xs){bl:Nat}{v v':Value}(f:ν.ow k=some (o.n,v))(l:v.ownBlock=some bl)(K:v'.ownBlock=some bl)
  (aA:(xs'.length=o.n/\v'=v)\/o.n<xs'.length) {us:List Value} (BA:w'.os=w.os) (Nn:w'.tape=w.tape) (M9:w'.output=w.output) (s:∀j,j≠bl->w'.heap[j]? =w.heap[j]?) (M:w'.heap.size=w.heap.size)
  (S:w'.ownsRow 0 o.el o.sz v' xs'.length us) (aw:dw w ν o.sz xs' us):
  c9 C {st with e:=cJ k ⟨xs'.length,o.el,o.sz,some xs'⟩ st.e} a w' (ν.withOwn k xs'.length v')/\mx w ν w' (ν.withOwn k xs'.length v')/\(xs'.length<=lim->aU w' (ν.withOwn k xs'.length v') (.row o.sz k xs'.length) v'):=by
 obtain⟨v0,W,a8,bB,Y,dq⟩:=h.good.own k o F;rw[f]at a8;cases a8;obtain⟨dK,mQ,A⟩:=dq xs ad;have ar:mx w ν w' (ν.withOwn k xs'.length v'):=by
  refine⟨fun b i d=>⟨d,World.cell?_of_block (s b fun e=>by subst e;exact A b l i d)⟩,fun j b _ r=>r,fun g n u _ p=>?_,fun b i d=>yl (s b fun e=>by subst e;exact A b l i d),fun _ _ _ _ h=>h⟩;by_cases e:g=k
  ·subst e;rw[f]at p;cases p;refine⟨xs'.length,v',by simp[bc.withOwn],?_⟩;rcases aA with⟨J,U⟩|J
   ·exact .inl ⟨J,U⟩
   ·exact .inr J
  ·exact⟨n,u,by simp[bc.withOwn,e,p],.inl ⟨rfl,rfl⟩⟩
 have B:∀g n u,(ae g (cJ k ⟨xs'.length,o.el,o.sz,some xs'⟩ st.e)).isSome->(ν.withOwn k xs'.length v').ow g=some (n,u)->∀b,u.ownBlock=some b->(ae g st.e).isSome/\∃n u,ν.ow g=some (n,u)/\u.ownBlock=some b:=by
  intro g n u V p b c;by_cases e:g=k
  ·subst e;simp only[bc.withOwn,if_true,dU,jo]at p;rw[<-p.2,K]at c;cases c;exact⟨by simp[F],o.n,v,f,l⟩
  ·rw[jk,if_neg (Ne.symm e)]at V;simp only[bc.withOwn,e,if_false]at p;exact⟨V,n,u,p,c⟩
 refine⟨h.over ar rfl ⟨fun b i d=>by rw[M];exact h.good.alt b i d,fun j ej r=>?_,h.good.inj,fun g o' q=>?_,fun g X n n' u eJ b J U Q R O di=>?_,fun g j n u b J U Q R O=>?_,fun j=>?_,fun b c=>h.good.otr b (c.imp id (fun⟨g,n,v,z,a2,a3⟩=>by obtain⟨N,x,t,P,L⟩:=B g n v z a2 b a3;exact⟨g,x,t,N,P,L⟩))⟩
  ⟨BA.trans h.fr.os,Nn.trans h.fr.tape,M9.trans h.fr.output,by rw[M];exact h.fr.size,fun j r hm=>?_,fun b i d=>?_,h.fr.fresh,h.fr.obj,h.fr.obn,fun m n u hm=>Fz (h.fr.row m n u hm) (fun n u=>ar.ow _ n u trivial),h.fr.obr,h.fr.trd,fun k j b c=>⟨(h.fr.trb k j b c).1,by rw[M];exact(h.fr.trb k j b c).2⟩,fun bs j b c=>?_,fun b o d=>(ar.sh b o (h.fr.keep b o d).1).trans (h.fr.sh b o d)⟩ (fun m hm=>?_),ar,?_⟩
 ·obtain⟨b,b1,gJ,g1,g2,g3,g4,g5⟩:=h.good.box j ej r;have y:b≠bl:=fun e=>h.good.obx k j o.n _ bl (by simp[F]) (by simp[r]) f l (by rw[<-e];exact g1);exact⟨b,b1,gJ,g1,g2,g3,by rw[s b y];exact g4,rI ar g5⟩
 ·simp only at q;rw[jk]at q;by_cases e:k=g
  ·rw[if_pos e]at q;cases q;subst e;refine⟨v',us,by simp[bc.withOwn],S,fun b c=>?_,fun ys aK=>?_⟩
   ·rw[K]at c;cases c;exact⟨(Y bl l).1,fun j d=>absurd d (A bl l j)⟩
   ·simp only[dU]at aK;subst aK;exact⟨rfl,CD ar aw,fun b c=>by rw[K]at c;cases c;exact A bl l⟩
  ·rw[if_neg e]at q;obtain⟨v0,W,Z,G,bh,b3⟩:=h.good.own g o' q;have y:∀b,v0.ownBlock=some b->b≠bl:=fun b c LK=>e (h.good.oinj k g o.n o'.n _ v0 bl (by simp[F]) (by simp[q]) f Z l (by rw[<-LK];exact c));refine⟨v0,W,by simp[bc.withOwn,Ne.symm e,Z],⟨G.1,?_⟩,bh,tU ar (fun _ _ _ h=>h) b3⟩;rcases G.2 with G|⟨bb,Du,nM,f1,f2,f3,f4⟩
   ·exact .inl G
   ·exact .inr ⟨bb,Du,nM,f1,f2,by rw[s bb (y bb (by rw[f1];rfl))];exact f3,f4⟩
 ·obtain⟨z,x,t,a2,a3⟩:=B g n u J Q b O;obtain⟨N,fj,iN,P,L⟩:=B X n' eJ U R b di;exact h.good.oinj g X x fj t iN b z N a2 P a3 L
 ·obtain⟨z,x,t,a2,a3⟩:=B g n u J Q b R;exact h.good.obx g j x t b z U a2 a3 O
 ·by_cases e:j=k
  ·subst e;rcases h.good.one j with J|J
   ·exact .inl J
   ·rw[J]at f;cases f
  ·rcases h.good.one j with J|J
   ·exact .inl J
   ·exact .inr (by simp[bc.withOwn,e,J])
 ·rw[s j fun e=>by subst e;exact(Y j l).1.elim hm (fun g2=>Ω)];exact h.fr.block j r hm
 ·obtain⟨H,E⟩:=h.fr.keep b i d;exact⟨H,(ar.A b i H).2.trans E⟩
 ·obtain⟨t1,t2⟩:=h.fr.trn bs j b c;have y:bs≠k:=fun e=>by subst e;rw[t2]at f;cases f
  exact⟨t1,by simp[bc.withOwn,y,t2]⟩
 ·obtain⟨H,E,cp⟩:=h.new m hm;refine⟨H,?_,cp⟩;have:m≠k:=fun e=>by subst e;rw[E]at f;cases f
  simp[bc.withOwn,this,E]
 ·intro fo;simp only[aU];obtain⟨cap,MS⟩:=ZK S K;exact⟨⟨bl,cap,MS⟩,fo,xs'.length,v',by simp[bc.withOwn],dO _,fun _=>rfl⟩
def c9.inPlace{C:fm}{st:bp}{a:Act}{w:World}{ν:bc}(h:c9 C st a w ν){k:aB}{o:dW}(v:ae k st.e=some o){bl cap:Nat}{cur:Array Value}(l:ν.ow k=some (o.n,.slice (some ⟨bl,0,none⟩) o.n cap))
  (F:w.heap[bl]? =some (.cells cur o.el (0,0))) (Bk:cap<=maxLen) (en:cur.size=cap*o.sz) {xs ys:List af} {us ns:List Value} (Q:xs.length=o.n) (sk:cur.toList.take (o.n*o.sz)=us) (aw:dw w ν o.sz xs us) (Bm:dw w ν o.sz ys ns)
  (gj:0<ys.length) (Z:o.n+ys.length<=cap) (fo:xs.length+ys.length<=lim):
  c9 C {st with e:=cJ k ⟨o.n+ys.length,o.el,o.sz,none⟩ st.e} a (w.setRow bl (us++ns++cur.toList.drop (o.n*o.sz+ns.length)).toArray)
   (ν.withRowOf k (.slice (some ⟨bl,0,none⟩) (o.n+ys.length) cap) (o.n+ys.length) ((o.n+ys.length)*o.sz))/\
  aU (w.setRow bl (us++ns++cur.toList.drop (o.n*o.sz+ns.length)).toArray) (ν.withRowOf k (.slice (some ⟨bl,0,none⟩) (o.n+ys.length) cap) (o.n+ys.length) ((o.n+ys.length)*o.sz))
   (.slice o.sz (.own k) (xs++ys)) (.slice (some ⟨bl,0,none⟩) (o.n+ys.length) cap):=by
 have P:=rJ Bm;have E:=rJ aw;rw[Q]at E;have hmul:(o.n+ys.length)*o.sz<=cap*o.sz:=rT _ Z;rw[q3]at hmul;obtain⟨v0,gl,a8,bB,bX,_⟩:=h.good.own k o v;rw[l]at a8;cases a8;obtain⟨V,dK⟩:=bX bl rfl;generalize z:w.setRow bl (us++ns++cur.toList.drop (o.n*o.sz+ns.length)).toArray=w';have A:∀j,j≠bl->w'.heap[j]? =w.heap[j]?:=fun j f=>by rw[<-z];exact setRow_other w bl j _ f
 have H:w'.heap[bl]? =some (.cells (us++ns++cur.toList.drop (o.n*o.sz+ns.length)).toArray o.el (0,0)):=by rw[<-z];exact setRow_heap w bl cur _ o.el _ F
 have X:w'.heap.size=w.heap.size:=by rw[<-z];exact setRow_size w bl _
 have pT:∀j,j<o.n*o.sz->w'.cell? ⟨bl,j,none⟩=w.cell? ⟨bl,j,none⟩:=by intro j f;simp only[World.cell?,H,F,kf,hR,if_false];rw[List.getElem?_toArray,List.append_assoc,rR Ω,<-sk,List.getElem?_take,if_pos f];simp
 have ar:mx w ν w' (ν.withRowOf k (.slice (some ⟨bl,0,none⟩) (o.n+ys.length) cap) (o.n+ys.length) ((o.n+ys.length)*o.sz)):=by
  refine⟨fun b j c=>⟨.inl c,?_⟩,fun j b _ f=>f,fun g n u _ R=>?_,fun b j c=>?_,fun _ _ _ _ h=>h⟩;rotate_left 2
  ·by_cases e:b=bl
   ·subst e;simp only[shape,H,F,List.size_toArray,qe,ud,Array.length_toList];congr 2;omega
   ·exact yl (A b e)
  ·by_cases e:b=bl
   ·subst e;exact pT j (dK j c)
   ·exact World.cell?_of_block (A b e)
  ·by_cases e:g=k
   ·subst e;rw[l]at R;cases R;exact⟨o.n+ys.length,.slice (some ⟨bl,0,none⟩) (o.n+ys.length) cap,by simp[bc.withRowOf],.inr Ω⟩
   ·exact⟨n,u,by simp[bc.withRowOf,e,R],.inl ⟨rfl,rfl⟩⟩
 have G:∀g,(ae g (cJ k ⟨o.n+ys.length,o.el,o.sz,none⟩ st.e)).isSome->g=k\/(g≠k/\(ae g st.e).isSome/\(ν.withRowOf k (.slice (some ⟨bl,0,none⟩) (o.n+ys.length) cap) (o.n+ys.length) ((o.n+ys.length)*o.sz)).ow g=ν.ow g):=by
  intro g lg;by_cases e:g=k
  ·exact .inl e
  ·rw[jk,if_neg (Ne.symm e)]at lg;exact .inr ⟨e,lg,by simp[bc.withRowOf,e]⟩
 have au0:bl<w.heap.size:=(Array.getElem?_eq_some_iff.1 F).1;have W:∀j u,(us++ns)[j]? =some u->w'.cell? ⟨bl,j,none⟩=some u:=by intro j u f;have O:=(fH.1 f).1;simp only[World.cell?,H,kf,hR,if_false];rw[List.getElem?_toArray,rR O];exact f
 refine⟨h.over ar rfl ⟨fun b j c=>?_,fun j ej f=>?_,h.good.inj,fun g o' s=>?_,fun g K n n' u eJ b J U p q r B=>?_,fun g j n u b J U p q r=>?_,fun j=>?_,fun b d=>h.good.otr b ?_⟩
  ⟨by rw[<-z];exact h.fr.os,by rw[<-z];exact h.fr.tape,by rw[<-z];exact h.fr.output,by rw[X];exact h.fr.size,fun j f hm=>?_,fun b j c=>?_,fun b j c=>?_,h.fr.obj,h.fr.obn,fun m n u hm=>Fz (h.fr.row m n u hm) (fun n u=>ar.ow _ n u trivial),h.fr.obr,h.fr.trd,fun k j b d=>⟨(h.fr.trb k j b d).1,by rw[X];exact(h.fr.trb k j b d).2⟩,fun bs j b d=>?_,fun b o c=>(ar.sh b o (h.fr.keep b o c).1).trans (h.fr.sh b o c)⟩ (fun m hm=>?_),?_⟩
 ·rw[X];rcases c with c|⟨c,_⟩
  ·exact h.good.alt b j c
  ·simp only[pz,dU]at c;omega
 ·obtain⟨b,b1,gJ,g1,g2,g3,g4,g5⟩:=h.good.box j ej f;have t:b≠bl:=fun e=>h.good.obx k j o.n _ bl (by simp[v]) (by simp[f]) l rfl (by rw[<-e];exact g1);refine⟨b,b1,gJ,g1,g2,fun i c=>?_,by rw[A b t];exact g4,rI ar g5⟩;rcases c with c|⟨c,_⟩
  ·exact g3 i c
  ·simp only[pz,dU]at c;exact t c.symm
 ·simp only at s;rw[jk]at s;by_cases e:k=g
  ·rw[if_pos e]at s;cases s;subst e;refine⟨.slice (some ⟨bl,0,none⟩) (o.n+ys.length) cap,us++ns,by simp[bc.withRowOf],⟨by rw[qe,E,P,q3],.inr ⟨bl,cap,_,rfl,Nat.zero_le _,H,Z,Bk,?_,?_⟩⟩,fun b d=>⟨?_,fun j c=>?_⟩,fun ys aK=>by cases aK⟩
   ·simp only[List.size_toArray,qe,ud,Array.length_toList];omega
   ·have av:(us++ns).length=(o.n+ys.length)*o.sz:=by rw[qe,E,P,q3]
    simp only[<-av];rw[List.take_append_of_le_length (dO _),jA]
   ·simp only[pz,dU]at d;subst d;exact V
   ·simp only[pz,dU]at d;subst d;rcases c with c|⟨_,c⟩
    ·have:=dK j c;simp only;rw[q3];omega
    ·exact c
  ·rw[if_neg e]at s;obtain⟨v0,gl,ao,M,bh,b3⟩:=h.good.own g o' s;have t:∀b,v0.ownBlock=some b->b≠bl:=fun b d LK=>e (h.good.oinj k g o.n o'.n _ v0 bl (by simp[v]) (by simp[s]) l ao rfl (by rw[<-LK];exact d));have Y:∀b,v0.ownBlock=some b->∀j,(ν.withRowOf k (.slice (some ⟨bl,0,none⟩) (o.n+ys.length) cap) (o.n+ys.length) ((o.n+ys.length)*o.sz)).A b j->ν.A b j:=fun b d j c=>by
    rcases c with c|⟨c,_⟩
    ·exact c
    ·simp only[pz,dU]at c;exact absurd c.symm (t b d)
   refine⟨v0,gl,by simp[bc.withRowOf,Ne.symm e,ao],⟨M.1,?_⟩,fun b d=>⟨(bh b d).1,fun j c=>(bh b d).2 j (Y b d j c)⟩,tU ar Y b3⟩;rcases M.2 with M|⟨bb,Du,nM,f1,f2,f3,f4⟩
   ·exact .inl M
   ·exact .inr ⟨bb,Du,nM,f1,f2,by rw[A bb (t bb (by rw[f1];rfl))];exact f3,f4⟩
 ·rcases G g J with rfl|⟨S,y,x⟩<;>rcases G K U with rfl|⟨m1,m2,m3⟩
  ·rfl
  ·exfalso;simp only[bc.withRowOf,if_true,dU,jo]at p;rw[m3]at q;rw[<-p.2]at r;simp only[pz,dU]at r;subst r;exact m1 (h.good.oinj K g n' o.n eJ _ bl m2 (by simp[v]) q l B rfl)
  ·exfalso;simp only[bc.withRowOf,if_true,dU,jo]at q;rw[x]at p;rw[<-q.2]at B;simp only[pz,dU]at B;subst B;exact S (h.good.oinj g K n o.n u _ bl y (by simp[v]) p l r rfl)
  ·rw[x]at p;rw[m3]at q;exact h.good.oinj g K n n' u eJ b y m2 p q r B
 ·rcases G g J with rfl|⟨S,y,x⟩
  ·simp only[bc.withRowOf,if_true,dU,jo]at p;rw[<-p.2]at q;simp only[pz,dU]at q;subst q;exact h.good.obx g j o.n _ bl (by simp[v]) U l rfl r
  ·rw[x]at p;exact h.good.obx g j n u b y U p q r
 ·by_cases e:j=k
  ·subst e;rcases h.good.one j with J|J
   ·exact .inl J
   ·rw[J]at l;cases l
  ·rcases h.good.one j with J|J
   ·exact .inl J
   ·exact .inr (by simp[bc.withRowOf,e,J])
 ·rcases d with d|⟨g,n,u,bq,a2,a3⟩
  ·exact .inl d
  ·rcases G g bq with rfl|⟨S,y,x⟩
   ·simp only[bc.withRowOf,if_true,dU,jo]at a2;rw[<-a2.2]at a3;exact .inr ⟨g,_,_,by simp[v],l,a3⟩
   ·exact .inr ⟨g,n,u,y,by rw[<-x];exact a2,a3⟩
 ·rw[A j fun e=>by subst e;exact V.elim hm (fun g2=>Ω)];exact h.fr.block j f hm
 ·obtain⟨N,L⟩:=h.fr.keep b j c;exact⟨.inl N,(ar.A b j N).2.trans L⟩
 ·rcases c with c|⟨c,_⟩
  ·exact h.fr.fresh b j c
  ·simp only[pz,dU]at c;subst c;exact .inr V
 ·obtain⟨t1,t2⟩:=h.fr.trn bs j b d;have t:bs≠k:=fun e=>by subst e;rw[t2]at l;cases l
  exact⟨t1,by simp[bc.withRowOf,t,t2]⟩
 ·obtain⟨N,L,cp⟩:=h.new m hm;refine⟨N,?_,cp⟩;have:m≠k:=fun e=>by subst e;rw[L]at l;cases l
  simp[bc.withRowOf,this,L]
 ·simp only[aU];refine⟨⟨some ⟨bl,0,none⟩,cap,by simp[Q],by simp;omega,⟨Bk,by simpa using fo⟩,.inr ⟨bl,0,us++ns,rfl,Iu _ 0 fun j u f=>?_,Ft (CD ar aw) (CD ar Bm)⟩⟩,fun e=>(by cases e),fun g e=>?_,fun _ _ e=>(by cases e),fun _ e=>(by cases e)⟩
  ·have O:=(fH.1 f).1;rw[Nat.zero_add];refine⟨.inr ⟨rfl,?_⟩,W j u f⟩;rw[qe,E,P]at O;rw[q3];exact O
  ·cases e;exact⟨o.n+ys.length,.slice (some ⟨bl,0,none⟩) (o.n+ys.length) cap,by simp[bc.withRowOf],by simp[Q],fun _=>rfl⟩
def JL{P:cI}{w:World}{t ty e:gT}{i:TypeInfo}(a:P.underlying t=some (.slice e))(hi:P.info? e=some i)(b:bd Addr)(n cap:Nat)(d:n<=cap)(x:bd Addr)(c:Nat):
  (Builtin.append_ #[t,t] ty #[.slice b n cap,.slice x 0 c]).run P w= .ok (.slice b n cap) w:=by
 cases b<;>cases x<;>simp[Builtin.append_,run_underlying a,sizeOf,typeInfo,hi,Builtin.lenOf,d,Builtin.firstCells,loadCells,loadCellsFrom,storeCells]
inductive eY where
 |v (d:Nat) (i:gO)
 |box (d:Nat) (key:bd Nat) (x:dP)
 |alloc (d:Nat) (key:bd Nat) (zero:af)
 |store (sz:Nat) (x y:dP)
 |bsl (d:Nat) (sz el:Nat) (xs:List dP)
 |app (d:Nat) (sz el:Nat) (x y:dP)
 |bslm (d:Nat) (key:bd Nat) (sz el:Nat) (xs:List dP)
 |appm (d:Nat) (key:bd Nat) (sz el:Nat) (x y:dP)
 |mkmap (d:Nat) (key:bd Nat)
 |mput (cA:kh) (x k v:dP)
 |range (d:Nat) (key:bd Nat) (x:dP)
 |storeE (sz:Nat) (x y:dP)
 |mks (d:Nat) (key:bd Nat) (sz el:Nat) (z:af) (x:dP)
def kv(st:bp):bd Nat->aB
 |none=>.loc st.n
 |some m=>.obj m
def rz(st:bp):bd Nat->Prop
 |none=>.loc st.n∉st.o
 |some m=>.obj m∉st.o
def oK(st:bp):bd Nat->Nat
 |none=>st.n+1
 |some _=>st.n
def oL(st:bp):bd Nat->List aB
 |none=>st.o
 |some m=>.obj m::st.o
def x1{st:bp}{key:bd Nat}(h:rz st key):fresh st.n st.o (kv st key):=by cases key<;>simp[kv,fresh,rz]at h⊢ <;>exact h
def x2{st:bp}{key:bd Nat}:∀j,fresh (oK st key) (oL st key) j->fresh st.n st.o j/\j≠kv st key:=by
 intro j a;cases key<;>cases j<;>simp[fresh,oK,oL,kv]at a⊢
 ·exact⟨⟨Ω,a.2⟩,Ω⟩
 ·exact a
 ·exact a
 ·exact⟨a.2,a.1⟩
def um(sz:Nat):List af->Prop
 |[]=>True
 |p::a=>(eT p=true/\(cells p).length=sz)/\um sz a
def qN(a:kh)(k v:af):List af->bd (List af)
 | .hdm clock borns::kvs=>if xT a k=false then none else match wz a k v kvs with
  |some (some b)=>some (.hdm clock borns::b)
  |some none=>some (.hdm (clock+1) (borns++[clock])::(kvs++[k,v]))
  |none=>none
 |_=>none
def z6(m:aB):List af->bd (List af)
 | .hdm clock _::_=>some [.hdi clock [] clock,.gmap m]
 |_=>none
def uo(st:bp)(sz el:Nat)(x y:af):bd ((bd (aB×List af))×List af):=
 match x,y with
 | .slice b .nil _,.slice a _ ys=>if b=sz/\a=sz then some (none,ys)else none
 | .row b k n,.slice a _ ys=>if b=sz/\a=sz then
   match ae k st.e with
   |some ⟨n',d,c,some xs⟩=>if n'=n/\d=el/\c=sz then some (some (k,xs),ys)else none
   |_=>none
  else none
 |_,_=>none
def oc:af->Nat->List af->af
 | .agg a,f,cs=>.agg (nD a f cs)
 |_,_,[q]=>q
 |_,_,_=>.junk
def sF(st:bp)(sz:Nat)(p v:af):bd (Prop×bp):=
 match p with
 | .rptr b k n i f=>match ae k st.e with
  |some ⟨n',el,a,some xs⟩=>if n'=n/\a=b then
    match xs[i]? with
    |some q=>some (eT q=true/\eT v=true/\(cells v).length=sz/\f+sz<=(cells q).length/\0<sz,{st with e:=cJ k ⟨n',el,a,some (xs.set i (oc q f (cells v)))⟩ st.e})
    |none=>none
   else none
  |_=>none
 |_=>none
def nC(st:bp):eY->bd (Prop×bp)
 | .mks d key sz el z x=>match cE st.t x with
  | .int _ n=>some (rz st key/\0<=n/\n<=lim,
    {t:=put d (.row sz (kv st key) n.toNat) st.t,b:=st.b,e:=cJ (kv st key) ⟨n.toNat,el,sz,some (List.replicate n.toNat z)⟩ st.e,n:=oK st key,o:=oL st key})
  |_=>none
 | .bslm d key sz el xs=>some (rz st key/\um sz (xs.map (cE st.t)),
   {t:=put d (.row sz (kv st key) xs.length) st.t,b:=st.b,e:=cJ (kv st key) ⟨xs.length,el,sz,some (xs.map (cE st.t))⟩ st.e,n:=oK st key,o:=oL st key})
 | .appm d key sz el x y=>match uo st sz el (cE st.t x) (cE st.t y)with
  |some (none,ys)=>some (rz st key/\ys.length<=lim/\ys≠[],
    {t:=put d (.row sz (kv st key) ys.length) st.t,b:=st.b,e:=cJ (kv st key) ⟨ys.length,el,sz,some ys⟩ st.e,n:=oK st key,o:=oL st key})
  |some (some (k,xs),ys)=>some (xs.length+ys.length<=lim,{st with t:=put d (.row sz k (xs.length+ys.length)) st.t,e:=cJ k ⟨xs.length+ys.length,el,sz,some (xs++ys)⟩ st.e})
  |none=>none
 | .mkmap d key=>some (rz st key,{t:=put d (.gmap (kv st key)) st.t,b:=cJ (kv st key) [.hdm 0 []] st.b,e:=st.e,n:=oK st key,o:=oL st key})
 | .mput g x k v=>match cE st.t x with
  | .gmap m=>match ae m st.b with
   |some cs=>match qN g (cE st.t k) (cE st.t v) cs with
    |some cs'=>some (True,{st with b:=cJ m cs' st.b})
    |none=>none
   |none=>none
  |_=>none
 | .range d key x=>match cE st.t x with
  | .gmap m=>match ae m st.b with
   |some cs=>match z6 m cs with
    |some cs'=>some (rz st key,{t:=put d (.ptr (kv st key) 0) st.t,b:=cJ (kv st key) cs' st.b,e:=st.e,n:=oK st key,o:=oL st key})
    |none=>none
   |none=>none
  |_=>none
 | .v d i=>match hZ st i with
  |some (c,p)=>some (c,{st with t:=put d p st.t})
  |none=>none
 | .storeE sz x y=>sF st sz (cE st.t x) (cE st.t y)
 | .box d key x=>some (rz st key/\eT (cE st.t x)=true,
   {t:=put d (.ptr (kv st key) 0) st.t,b:=cJ (kv st key) (cells (cE st.t x)) st.b,e:=st.e,n:=oK st key,o:=oL st key})
 | .alloc d key z=>some (rz st key,{t:=put d (.ptr (kv st key) 0) st.t,b:=cJ (kv st key) (cells z) st.b,e:=st.e,n:=oK st key,o:=oL st key})
 | .store sz x y=>match cE st.t x with
  | .ptr k off=>match ae k st.b with
   |some cs=>some (gV cs=true/\eT (cE st.t y)=true/\(cells (cE st.t y)).length=sz/\off+sz<=cs.length,{st with b:=cJ k (nD cs off (cells (cE st.t y))) st.b})
   |none=>none
  |p=>sF st sz p (cE st.t y)
 | .bsl d sz el xs=>some (rz st none/\um sz (xs.map (cE st.t)),
   {st with t:=put d (.slice sz (.own (.loc st.n)) (xs.map (cE st.t))) st.t,e:=cJ (.loc st.n) ⟨xs.length,el,sz,none⟩ st.e,n:=st.n+1})
 | .app d sz el x y=>match cE st.t x,cE st.t y with
  | .slice f tag xs,.slice a _ ys=>if f=sz/\a=sz then
    match tag with
    | .own k=>match ae k st.e with
     |some o=>some (o.n=xs.length/\o.el=el/\o.sz=sz/\xs.length+ys.length<=lim,
       {st with t:=put d (.slice sz (.own k) (xs++ys)) st.t,e:=cJ k ⟨xs.length+ys.length,el,sz,none⟩ st.e})
     |none=>none
    | .nil=>some (rz st none/\ys.length<=lim,{st with t:=put d (.slice sz (.own (.loc st.n)) ys) st.t,e:=cJ (.loc st.n) ⟨ys.length,el,sz,none⟩ st.e,n:=st.n+1})
    |_=>none
   else none
  |_,_=>none
def fk(κ:aB)(n':Nat)(o':List aB)(st:bp):eY->bd (Prop×bp)
 | .mks d _ sz el z x=>match cE st.t x with
  | .int _ n=>some (0<=n/\n<=lim,
    {t:=put d (.row sz κ n.toNat) st.t,b:=st.b,e:=cJ κ ⟨n.toNat,el,sz,some (List.replicate n.toNat z)⟩ st.e,n:=n',o:=o'})
  |_=>none
 | .bslm d _ sz el xs=>some (um sz (xs.map (cE st.t)),
   {t:=put d (.row sz κ xs.length) st.t,b:=st.b,e:=cJ κ ⟨xs.length,el,sz,some (xs.map (cE st.t))⟩ st.e,n:=n',o:=o'})
 | .appm d _ sz el x y=>match uo st sz el (cE st.t x) (cE st.t y)with
  |some (none,ys)=>some (ys.length<=lim/\ys≠[],
    {t:=put d (.row sz κ ys.length) st.t,b:=st.b,e:=cJ κ ⟨ys.length,el,sz,some ys⟩ st.e,n:=n',o:=o'})
  |some (some (k,xs),ys)=>some (xs.length+ys.length<=lim,{st with t:=put d (.row sz k (xs.length+ys.length)) st.t,e:=cJ k ⟨xs.length+ys.length,el,sz,some (xs++ys)⟩ st.e})
  |none=>none
 | .mkmap d _=>some (True,{t:=put d (.gmap κ) st.t,b:=cJ κ [.hdm 0 []] st.b,e:=st.e,n:=n',o:=o'})
 | .mput g x k v=>match cE st.t x with
  | .gmap m=>match ae m st.b with
   |some cs=>match qN g (cE st.t k) (cE st.t v) cs with
    |some cs'=>some (True,{st with b:=cJ m cs' st.b})
    |none=>none
   |none=>none
  |_=>none
 | .range d _ x=>match cE st.t x with
  | .gmap m=>match ae m st.b with
   |some cs=>match z6 m cs with
    |some cs'=>some (True,{t:=put d (.ptr κ 0) st.t,b:=cJ κ cs' st.b,e:=st.e,n:=n',o:=o'})
    |none=>none
   |none=>none
  |_=>none
 | .v d i=>match hZ st i with
  |some (c,p)=>some (c,{st with t:=put d p st.t})
  |none=>none
 | .storeE sz x y=>sF st sz (cE st.t x) (cE st.t y)
 | .box d _ x=>some (eT (cE st.t x)=true,{t:=put d (.ptr κ 0) st.t,b:=cJ κ (cells (cE st.t x)) st.b,e:=st.e,n:=n',o:=o'})
 | .alloc d _ z=>some (True,{t:=put d (.ptr κ 0) st.t,b:=cJ κ (cells z) st.b,e:=st.e,n:=n',o:=o'})
 | .store sz x y=>match cE st.t x with
  | .ptr k off=>match ae k st.b with
   |some cs=>some (gV cs=true/\eT (cE st.t y)=true/\(cells (cE st.t y)).length=sz/\off+sz<=cs.length,{st with b:=cJ k (nD cs off (cells (cE st.t y))) st.b})
   |none=>none
  |p=>sF st sz p (cE st.t y)
 | .bsl d sz el xs=>some (um sz (xs.map (cE st.t)),
   {st with t:=put d (.slice sz (.own κ) (xs.map (cE st.t))) st.t,e:=cJ κ ⟨xs.length,el,sz,none⟩ st.e,n:=n',o:=o'})
 | .app d sz el x y=>match cE st.t x,cE st.t y with
  | .slice f tag xs,.slice a _ ys=>if f=sz/\a=sz then
    match tag with
    | .own k=>match ae k st.e with
     |some o=>some (o.n=xs.length/\o.el=el/\o.sz=sz/\xs.length+ys.length<=lim,
       {st with t:=put d (.slice sz (.own k) (xs++ys)) st.t,e:=cJ k ⟨xs.length+ys.length,el,sz,none⟩ st.e})
     |none=>none
    | .nil=>some (ys.length<=lim,{st with t:=put d (.slice sz (.own κ) ys) st.t,e:=cJ κ ⟨ys.length,el,sz,none⟩ st.e,n:=n',o:=o'})
    |_=>none
   else none
  |_,_=>none
def x6:Nat->List dP->List (Nat×Operand)->Bool
 |_,[],[]=>true
 |i,x::xs,(j,o)::os=>i==j&&eS x o&&x6 (i+1) xs os
 |_,_,_=>false
def FD(N:Nat)(aT:List (Nat×ev))(i:eY)(o:Oper):Bool:=
 match i,o.op with
 | .mkmap d _,.makeMap _ none=>o.dst==some d&&decide (d<N)
 | .mput j x k v,.mapUpdate t c h e=>o.dst==none&&(match eF aT t with|some ⟨_,_,.map g _,_⟩=>zF aT j g|_=>false)&&eS x c&&eS k h&&eS v e
 | .mput j x k v,.insert t c h e=>o.dst==none&&(match eF aT t with|some ⟨_,_,.map g _,_⟩=>zF aT j g|_=>false)&&eS x c&&eS k h&&eS v e
 | .range d _ x,.range t c=>o.dst==some d&&decide (d<N)&&(match eF aT t with|some ⟨_,_,.map _ _,_⟩=>true|_=>false)&&eS x c
 | .v d i,op=>o.dst==some d&&decide (d<N)&&F1 aT i op
 | .box d _ x,.box _ o'=>o.dst==some d&&decide (d<N)&&eS x o'
 | .alloc d _ z,.alloc el=>o.dst==some d&&decide (d<N)&&(match eF aT el with|some f=>C4 z f.zero|none=>false)
 | .store sz x y,.store t o' a=>o.dst==none&&(match eF aT t with|some f=>f.size==sz|none=>false)&&eS x o'&&eS y a
 | .bsl d sz el xs,.buildSlice t len parts=>o.dst==some d&&decide (d<N)&&(match eF aT t with|some ⟨_,_,.slice b,_⟩=>el==b|_=>false)&&(match eF aT el with|some f=>f.size==sz&&decide (0<sz)|none=>false)
   &&len==xs.length&&decide (len*sz<=16777216)&&x6 0 xs parts.toList
 | .app d sz el x y,.call ⟨.builtin .append,⟨[o',a]⟩,⟨[t,t']⟩⟩=>o.dst==some d&&decide (d<N)&&t==t'&&(match eF aT t with|some ⟨_,_,.slice b,_⟩=>el==b|_=>false)
   &&(match eF aT el with|some f=>f.size==sz&&decide (0<sz)&&decide (f.bytes<=2048)|none=>false)&&eS x o'&&eS y a
 | .bslm d _ sz el xs,.buildSlice t len parts=>o.dst==some d&&decide (d<N)&&(match eF aT t with|some ⟨_,_,.slice b,_⟩=>el==b|_=>false)&&(match eF aT el with|some f=>f.size==sz&&decide (0<sz)|none=>false)
   &&len==xs.length&&decide (len*sz<=16777216)&&x6 0 xs parts.toList
 | .appm d _ sz el x y,.call ⟨.builtin .append,⟨[o',a]⟩,⟨[t,t']⟩⟩=>o.dst==some d&&decide (d<N)&&t==t'&&(match eF aT t with|some ⟨_,_,.slice b,_⟩=>el==b|_=>false)
   &&(match eF aT el with|some f=>f.size==sz&&decide (0<sz)&&decide (f.bytes<=2048)|none=>false)&&eS x o'&&eS y a
 | .storeE sz x y,.store t o' a=>o.dst==none&&(match eF aT t with|some f=>f.size==sz|none=>false)&&eS x o'&&eS y a
 | .mks d _ sz el z x,.makeSlice t o' a=>o.dst==some d&&decide (d<N)&&(match eF aT t with|some ⟨_,_,.slice b,_⟩=>el==b|_=>false)
   &&(match eF aT el with|some f=>f.size==sz&&decide (0<sz)&&decide (f.bytes<=2048)&&C4 z f.zero|none=>false)&&eS x o'&&eS x a
 |_,_=>false
def abt{w:World}{ν:bc}{C:fm}{st:bp}{a:Act}(p:c9 C st a w ν){sz:Nat}:
  ∀(xs:List dP) (i:Nat) (os:List (Nat×Operand)) (pre:List af) (us:Array Value) (bm:List Value),x6 i xs os=true->um sz (xs.map (cE st.t))->us.toList.take (i*sz)=bm->dw w ν sz pre bm->i=pre.length->us.size=(i+xs.length)*sz->
  ∃e:Array Value,Instr.fill (fun i=>some (i*sz,sz)) us (os.map fun(x:Nat×Operand)=>(x.1,a.eval x.2))=some e/\dw w ν sz (pre++xs.map (cE st.t)) e.toList/\e.size=us.size
 |[],i,[],pre,us,bm,_,_,g,h,hi,f=>by refine⟨us,by simp[Instr.fill],?_,rfl⟩;have u:=rJ h;have:us.toList.take (i*sz)=us.toList:=iv (by simp at f⊢;omega);rw[this]at g;simpa[g]using h
 |[],_,_::_,_,_,_,b,_,_,_,_,_=>by simp[x6]at b
 |_::_,_,[],_,_,_,b,_,_,_,_,_=>by simp[x6]at b
 |x::xs,i,(j,o)::os,pre,us,bm,b,k,g,h,hi,f=>by
  simp only[x6,cQ,ey]at b;obtain⟨⟨rfl,J⟩,U⟩:=b;simp only[gY,um]at k;obtain⟨⟨s,hlen⟩,k⟩:=k;have n:=e3 p J;have m:=wJ n s;have q:=qQ m;have c:(a.eval o).cells.size=sz:=by rw[hlen]at q;simpa using q
  have hmul:i*sz+sz<=us.size:=by rw[f,mV,show i+(xs.length+1)=(i+1)+xs.length from by omega,q3,Nat.succ_mul];omega
  have l:=Md (w:=w) (ν:=ν) (a.eval o).cells.toList 0 (i*sz) us (by simp[c];omega);have t:dw w ν sz (pre++[cE st.t x]) (bm++(a.eval o).cells.toList):=by refine Ft h ?_;simp only[dw];exact⟨a.eval o,[],Ψ,⟨n,c,CF m⟩,rfl⟩
  have r:bm.length=i*sz:=by rw[<-g];simp;omega
  obtain⟨e,g1,g2,g3⟩:=abt p xs (i+1) os (pre++[cE st.t x]) (((a.eval o).cells.toList.zipIdx 0).foldl (fun cs (x:Value×Nat)=>cs.setIfInBounds (i*sz+x.2) x.1) us) (bm++(a.eval o).cells.toList) U k
   (by
    rw[l];simp only[Nat.add_zero];rw[g];have:(bm++(a.eval o).cells.toList).length=(i+1)*sz:=by rw[qe,r,Nat.succ_mul];simp[c]
    rw[<-this,List.take_append_of_le_length (dO _),jA]) t (by simp[hi])
   (by have d:=fy List.length l;simp only[Array.length_toList,qe,List.length_take,ud,c]at d;rw[d,f,mV,show i+(xs.length+1)=i+1+xs.length from by omega];rw[f,mV,show i+(xs.length+1)=i+1+xs.length from by omega]at hmul;omega)
  refine⟨e,?_,by simpa using g2,?_⟩
  ·simp only[gY,Instr.fill];rw[if_neg (by simp[c];omega),<-g1];congr 1;rw[<-Array.foldl_toList];simp
  ·rw[g3];have d:=fy List.length l;simp only[Array.length_toList,qe,List.length_take,ud,c]at d;rw[d];omega
def nH{P:cI}{o:Oper}{a:Act}{w w':World}{v:Value}{K:Act->World->Prop}{Q:Exit->Act->World->Prop}(h:(execOp a.eval o).run P w= .ok (.value v) w')(b:K (a.put o.dst v) w'):o.wp P a w K Q:=by unfold Oper.wp;rw[h];exact b
def Kj{P:cI}{o:Oper}{a:Act}{w w':World}{K:Act->World->Prop}{Q:Exit->Act->World->Prop}(h:(execOp a.eval o).run P w= .ok .skip w')(b:K (a.put o.dst undef) w'):o.wp P a w K Q:=by unfold Oper.wp;rw[h];exact b
def F2{P:cI}{w w':World}{x:Sem Value}{v:Value}(h:x.run P w= .ok v w'):(do pure (Next.value (<-x)):Sem Next).run P w= .ok (.value v) w':=by simp[h]
def abp{P:cI}{aT:List (Nat×ev)}(e:hY P aT=true){C:fm}{st:bp}{a:Act}{w:World}{ν:bc}(s:c9 C st a w ν){t el:Nat}{f g:ev}(u:eF aT t=some f)(r:f.kind= .slice el)(bf:eF aT el=some g)
  {xs:List dP} {os:List (Nat×Operand)} (n:x6 0 xs os=true) (m:um g.size (xs.map (cE st.t))) (hlen:xs.length*g.size<=16777216):
  ∃us:Array Value,(Instr.buildSlice t xs.length (os.map fun(x:Nat×Operand)=>(x.1,a.eval x.2)).toArray).run P w= .ok (.slice (some ⟨w.heap.size,0,none⟩) xs.length xs.length) (w.alloc (.cells us el))/\
   dw w ν g.size (xs.map (cE st.t)) us.toList/\us.size=xs.length*g.size:=by
 obtain⟨d,j,h⟩:=jm e u;rw[r]at h;obtain rfl:=sT h;obtain⟨_,i⟩:=wQ e bf w;obtain⟨z,l,q,p⟩:=QH e bf w;have v:¬xs.length*g.size>2 ^ 24:=Ω
 let init:Array Value:=if xs.length*g.size=0 then(Array.range (xs.length*g.size)).map ((#[]:Array Value)[· %(#[]:Array Value).size]!)else(Array.range (xs.length*g.size)).map (z.cells[· %z.cells.size]!)
 have k:init.size=xs.length*g.size:=by simp only[init];split<;>simp
 obtain⟨o,g1,g2,g3⟩:=abt (a:=a) s xs 0 os [] init [] n m Ψ (by simp[dw]) rfl (by rw[k];simp);refine⟨o,?_,by simpa using g2,by rw[g3,k]⟩;simp only[init]at g1;by_cases b:xs.length*g.size=0
 ·rw[if_pos b]at g1;rw[b]at g1;have c:¬(0:Nat)>2 ^ 24:=by decide
  simp only[Instr.buildSlice,gx,run_underlying j,gC,i,if_false,hA,b,if_true,c,g1,newRow,run_newObj];rfl
 ·rw[if_neg b]at g1;simp only[Instr.buildSlice,gx,run_underlying j,gC,i,v,if_false,hA,b,l,g1,newRow,run_newObj];rfl
def OD{P:cI}{w:World}{ν:bc}{g:kh}{t:gT}(B:vt P g t){k v:af}{a q:Value}(p:aU w ν k a)(A:aU w ν v q):
  ∀(borns:List Nat) (kvs:List af) (us:List Value) (i:Nat) (r:bd (List af)),c7 w ν kvs us->kvs.length=2*borns.length->wz g k v kvs=some r->
  match r with
  |none=>iY P w g t a (gP borns us) i none
  |some E=> ∃j u m e,iY P w g t a (gP borns us) i (some (i+j,u))/\c7 w ν E m/\E.length=kvs.length/\(gP borns us)[j]? =some e/\e.key=a/\Instr.sameBits 10000 e.key a=true/\gP borns m=(gP borns us).modify j (fun e=>{e with key:=a,val:=q})
 |[],[],us,i,r,h,_,hm=>by simp only[wz]at hm;cases hm;simp only[c7]at h;subst h;simpa[gP]using iY.nil P w g t a i
 |[],_::_,_,_,_,_,c,_=>by simp at c
 |b::n,[],_,_,_,_,c,_=>by simp at c
 |b::n,[_],_,_,_,_,c,_=>by simp at c;omega
 |b::n,bs::v'::kvs,us,i,r,h,c,hm=>by
  simp only[c7]at h;obtain⟨d,F,rfl,J,f,s,rfl,U,z⟩:=h;simp only[wz]at hm;simp only[gP];cases o:uS g k bs with
  |none=>simp[o]at hm
  |some bb=>
   obtain⟨s1,s2⟩:=XE B p J o;simp only[o]at hm;cases bb with
   |true=>simp only[dU]at hm;subst hm;obtain⟨rfl,s3⟩:=s2 rfl;refine⟨0,f,d::q::s,⟨d,f,b⟩,iY.hit (e:=⟨d,f,b⟩) s1,?_,Ψ,Ψ,rfl,s3,by simp[gP]⟩;simp only[c7];exact⟨_,_,rfl,p,_,_,rfl,A,z⟩
   |false=>
    simp only at hm;have y:=fun x l=>OD B p A n kvs s (i+1) x z (by simp at c;omega) l;split at hm
    ·rename_i x l;cases hm;obtain⟨j,u,m,e,g1,g2,g3,g4,g5,g6,g7⟩:=y _ l;refine⟨j+1,u,d::f::m,e,iY.miss (e:=⟨d,f,b⟩) s1 (by rw[show i+(j+1)=i+1+j from by omega];exact g1),?_,by simp[g3],by simpa using g4,g5,g6,by simp[gP,g7]⟩;simp only[c7];exact⟨_,_,rfl,J,_,_,rfl,U,g2⟩
    ·rename_i l;cases hm;exact iY.miss (e:=⟨d,f,b⟩) s1 (y _ l)
    ·cases hm
def Ux:∀(borns:List Nat) (us:List Value) (b:Nat) (k v:Value),us.length=2*borns.length->gP (borns++[b]) (us++[k,v])=gP borns us++[⟨k,v,b⟩]
 |[],us,b,k,v,h=>by have:us=[]:=List.eq_nil_of_length_eq_zero (by simpa using h);subst this;simp[gP]
 |b2::a,[],b,k,v,h=>by simp at h
 |b2::a,[_],b,k,v,h=>by simp at h;omega
 |b2::a,bs::v'::us,b,k,v,h=>by simp only[b7,gP,Ux a us b k v (by simp at h;omega)]
def abg{w:World}{ν:bc}:∀{b bV:List af} {bm us:List Value},c7 w ν b bm->c7 w ν bV us->c7 w ν (b++bV) (bm++us)
 |[],bV,bm,us,h,a=>by simp only[c7]at h;subst h;simpa using a
 |p::b,bV,bm,us,h,a=>by simp only[c7]at h;obtain⟨u,c,rfl,J,U⟩:=h;simp only[b7,c7];exact⟨u,_,rfl,J,abg U a⟩
def P0{w:World}{ν:bc}:∀{a:List af} {bm:List Value},c7 w ν a bm->bm.length=a.length
 |[],bm,h=>by simp only[c7]at h;subst h;rfl
 |p::a,bm,h=>by simp only[c7]at h;obtain⟨u,b,rfl,_,U⟩:=h;simp[P0 U]
def P5{P:cI}{w:World}{r:Nat}{o o':Obj}(a:w.heap[r]? =some o)(b:∀c e f,o≠ .cells c e f:=by simp):(setObj r o').run P w= .ok () {w with heap:=w.heap.setIfInBounds r o'}:=by simp only[setObj,Sem.run,a]
def eY.makes(st:bp):eY->Bool
 | .box _ _ _| .alloc _ _ _| .bsl _ _ _ _| .bslm _ _ _ _ _| .mkmap _ _| .range _ _ _| .mks _ _ _ _ _ _=>true
 | .appm _ _ _ _ x _=>match cE st.t x with
  | .slice _ .nil _=>true
  |_=>false
 | .app _ _ _ x _=>match cE st.t x with
  | .slice _ .nil _=>true
  |_=>false
 |_=>false
def c9.forgetRow{C:fm}{st:bp}{a:Act}{w:World}{ν:bc}(b:c9 C st a w ν){k:aB}{ow:dW}(h:ae k st.e=some ow):c9 C {st with e:=cJ k ⟨ow.n,ow.el,ow.sz,none⟩ st.e} a w ν:=by
 have d:∀g,(ae g (cJ k ⟨ow.n,ow.el,ow.sz,none⟩ st.e)).isSome->(ae g st.e).isSome:=fun g bf=>by
  rw[jk]at bf;split at bf
  ·rename_i e;subst e;simp[h]
  ·exact bf
 refine⟨⟨b.good.alt,b.good.box,b.good.inj,fun g o bf=>?_,fun g f n n' v v' bl c a2=>b.good.oinj g f n n' v v' bl (d g c) (d f a2),fun g j n v bl c=>b.good.obx g j n v bl (d g c),b.good.one,fun bl m=>b.good.otr bl (m.imp id (fun⟨g,n,v,c,a2⟩=>⟨g,n,v,d g c,a2⟩))⟩,b.fr,b.defers,b.size,b.slot,b.new⟩;simp only at bf;rw[jk]at bf;split at bf
 ·rename_i e;subst e;cases bf;obtain⟨v,us,q,l,i,_⟩:=b.good.own k ow h;exact⟨v,us,q,l,i,fun xs p=>by cases p⟩
 ·exact b.good.own g o bf
def ZL{w:World}{base el sz n:Nat}{v:Value}{us:List Value}(h:w.ownsRow base el sz v n us)(d:0<n):∃b cap,v= .slice (some ⟨b,0,none⟩) n cap:=by
 rcases h.2 with⟨a,c⟩|⟨bb,cap,cur,f1,_⟩
 ·omega
 ·exact⟨_,_,f1⟩
def JA{w:World}{ν:bc}{sz:Nat}:∀{xs:List af} {us:List Value} {i:Nat} {q b:af} {a:Value},dw w ν sz xs us->xs[i]? =some q->aU w ν b a->a.cells.size=sz->(∀c∈a.cells.toList,c.oneCell'=true)->dw w ν sz (xs.set i b) (us.take (i*sz)++a.cells.toList++us.drop (i*sz+sz))
 |[],_,_,_,_,_,_,d,_,_,_=>by simp at d
 |x::xs,us,0,q,b,a,h,d,k,j,ar=>by
  simp only[dw]at h;obtain⟨u,l,rfl,⟨J,U,m⟩,g⟩:=h;have f:u.cells.toList.length=sz:=by simpa using U
  simp only[List.set_cons_zero,dw];refine⟨a,l,?_,⟨k,j,ar⟩,g⟩;simp[<-f]
 |x::xs,us,i+1,q,b,a,h,d,k,j,ar=>by
  simp only[dw]at h;obtain⟨u,l,rfl,⟨J,U,m⟩,g⟩:=h;have f:u.cells.toList.length=sz:=by simpa using U
  have n:=JA g (by simpa using d) k j ar;simp only[List.set_cons_succ,dw];refine⟨u,_,?_,⟨J,U,m⟩,n⟩;have e:(i+1)*sz+sz=u.cells.toList.length+(i*sz+sz):=by rw[f,Nat.succ_mul];omega
  rw[ab5 _ _ _ _ f,e,<-List.drop_drop];simp
def aqB{w:World}{ν:bc}{q:af}{v:Value}(b:aU w ν q v)(l:eT q=true){cs:List af}{us:List Value}(aw:cW w ν cs us){f:Nat}(g:f+us.length<=v.cells.size)(n:us≠[]):
  ∃v',aU w ν (oc q f cs) v'/\v'.cells.toList=v.cells.toList.take f++us++v.cells.toList.drop (f+us.length)/\v'.cells.size=v.cells.size/\∀c∈v'.cells.toList,c.oneCell'=true:=by
 have hlen:=qQ aw;have x:=wJ b l;by_cases k:∃d,q= .agg d
 ·obtain⟨d,rfl⟩:=k;simp only[aU]at b;obtain⟨bm,rfl,i⟩:=b;simp only[pw]at g⊢;have j:cW w ν (nD d f cs) (bm.toList.take f++us++bm.toList.drop (f+us.length)):=by unfold nD;rw[hlen];exact z8 (z8 (Fv f i) aw) (CE _ i)
  refine⟨.agg (bm.toList.take f++us++bm.toList.drop (f+us.length)).toArray,by simp only[oc,aU];exact⟨_,rfl,by simpa using j⟩,by simp[pw],?_,fun c a=>?_⟩
  ·simp[pw];omega
  ·exact CF j c (by simpa[pw]using a)
 ·have h:∀cs,q≠ .agg cs:=fun cs e=>k ⟨cs,e⟩;obtain⟨J,U⟩:=P1 b l h;rw[U]at g⊢;match us,n,aw with
  |u::o,_,aw=>
   simp at g;obtain⟨rfl,rfl⟩:f=0/\o=[]:=⟨Ω,List.length_eq_zero_iff.1 Ω⟩;match cs,aw,hlen with
   |[c],aw,_=>
    simp only[cW]at aw;obtain⟨t,y,p,⟨r,m⟩,_⟩:=aw;cases p;have hu:u.cells= #[u]:=by cases u<;>first|rfl|cases m
    have s:oc q 0 [c]=c:=by cases q<;>first|rfl|exact absurd rfl (h _)
    rw[s];refine⟨u,r,by simp[hu],by simp[hu],fun c a=>?_⟩;rw[hu]at a;simp at a;subst a;exact m
def arb{α:Type}(A us:List α)(a f sz N:Nat)(J:f+us.length<=sz)(U:a+sz<=N)(j:N<=A.length):
  ((A.take (a+f)++us++A.drop (a+f+us.length)).toArray.toList).take N=(A.take N).take a++((((A.take N).drop a).take sz).take f++us++(((A.take N).drop a).take sz).drop (f+us.length))++(A.take N).drop (a+sz):=by
 have g:(A.take N).take a++(((A.take N).drop a).take sz).take f=A.take (a+f):=by rw[List.take_take (i:=f),Nat.min_eq_left (show f<=sz by omega),<-List.take_add,List.take_take,Nat.min_eq_left Ω]
 have h:(((A.take N).drop a).take sz).drop (f+us.length)++(A.take N).drop (a+sz)=(A.take N).drop (a+f+us.length):=by
  have b:f+us.length<=(((A.take N).drop a).take sz).length:=by simp;omega
  have d:(A.take N).drop (a+sz)=((A.take N).drop a).drop sz:=by rw[List.drop_drop]
  rw[d,<-List.drop_append_of_le_length b,List.take_append_drop,List.drop_drop];congr 1;omega
 have e:(A.take N).drop (a+f+us.length)=(A.drop (a+f+us.length)).take (N-(a+f+us.length)):=by rw[List.drop_take]
 have b:(A.take (a+f)++us).length=a+f+us.length:=by simp;omega
 simp only[List.append_assoc]at*;rw[h,e,<-List.append_assoc (mW a _),g];have c:N=(A.take (a+f)++us).length+(N-(a+f+us.length)):=by rw[b];omega
 rw[<-List.append_assoc,<-List.append_assoc];conv=>lhs;rw[c,List.take_length_add_append]
def c9.storeRow{P:cI}{C:fm}{st:bp}{a:Act}{w:World}{ν:bc}(h:c9 C st a w ν){k:aB}{n el sz:Nat}{xs:List af}(N:ae k st.e=some ⟨n,el,sz,some xs⟩){i f:Nat}{u:Value}(M:aU w ν (.rptr sz k n i f) u){q:af}(H:xs[i]? =some q)(L:eT q=true)
  {cs:List af} {us:List Value} (aw:cW w ν cs us) (aG:f+us.length<=(cells q).length) (Y:us≠[]):
  ∃bl off b,u= .pointer (some ⟨bl,off,none⟩)/\(storeCells ⟨bl,off,none⟩ us).run P w= .ok () (w.setRow bl b)/\∃bn,c9 C {st with e:=cJ k ⟨n,el,sz,some (xs.set i (oc q f cs))⟩ st.e} a (w.setRow bl b) bn:=by
 simp only[aU]at M;obtain⟨_,hi,n',eJ,J,U,aq⟩:=M;obtain⟨v,d,z,K,bX,W⟩:=h.good.own k _ N;rw[J]at z;simp only[dU,jo]at z;obtain⟨rfl,rfl⟩:=z;obtain⟨bl,l,rfl⟩:=aq rfl;obtain⟨c,m,va⟩:=W xs rfl;simp only at c m;obtain⟨v,G,o,S⟩:=Jy i m H;have Bl:=qQ (wJ G L);have s:(cells q).length=sz:=by rw[<-Bl];simpa using o
 have O:f+us.length<=sz:=by rw[<-s];exact aG
 have hmul:i*sz+sz<=n'*sz:=by have:=rT sz (show i+1<=n' from hi);rwa[Nat.succ_mul]at this
 rcases K.2 with⟨ao,aC⟩|⟨g,cap,cur,rfl,vS,A,B,y,p,Q⟩
 ·rw[ao]at l;simp[pz]at l
 simp only[pz,dU]at l;subst l;simp only at Q p B A;have Bk:n'*sz<=cur.size:=by rw[p];exact rT sz B
 have dy:=run_storeCells_at P g (i*sz+f) el us 0 cur w A Ω (CF aw);simp only[Nat.add_zero]at dy;refine⟨g,i*sz+f,_,rfl,dy,?_⟩;generalize E:(cur.toList.take (i*sz+f)++us++cur.toList.drop (i*sz+f+us.length)).toArray=b;obtain⟨v',Z,X,V,R⟩:=aqB G L aw (f:=f) (by rw[o];exact O) Y;have F:=JA m H Z (by rw[V,o]) R;have hlen:d.length=n'*sz:=K.1;have t:b.toList.take (n'*sz)=d.take (i*sz)++v'.cells.toList++d.drop (i*sz+sz):=by rw[<-E,X,S,<-Q];exact arb cur.toList us (i*sz) f sz (n'*sz) O hmul (by simpa using Bk)
 have x:b.size=cap*sz:=by rw[<-E,<-p];simp;omega
 have au8:(xs.set i (oc q f cs)).length=n':=by simp[c]
 obtain⟨r,_,_⟩:=h.setRowM (w':=w.setRow g b) N rfl J (bl:=g) rfl (v':= .slice (some ⟨g,0,none⟩) n' cap) rfl (xs':=xs.set i (oc q f cs)) (us:=d.take (i*sz)++v'.cells.toList++d.drop (i*sz+sz)) (.inl ⟨by simp[c],rfl⟩) rfl rfl rfl (fun j ah=>setRow_other w g j b ah) (setRow_size w g b)
  ⟨by rw[rJ F],.inr ⟨g,cap,b,by simp[c],Nat.zero_le _,setRow_heap w g cur b el _ A,by simpa[c]using B,y,x,by simpa[c]using t⟩⟩ F
 exact⟨_,by simpa[c]using r⟩
def amp(z:Array Value)(n:Nat)(h:0<z.size):(madeCells z ((n+1)*z.size)).toList=z.toList++(madeCells z (n*z.size)).toList:=by
 apply List.ext_getElem?;intro j;rw[List.getElem?_append];have he:(n+1)*z.size=n*z.size+z.size:=by rw[q3,Nat.one_mul]
 simp only[madeCells,vm,Array.length_toList,Array.getElem?_map];by_cases a:j<z.size
 ·rw[if_pos a,Array.getElem?_range,if_pos Ω];simp[Nat.mod_eq_of_lt a,a]
 ·rw[if_neg a,Array.getElem?_range,Array.getElem?_range];by_cases b:j<n*z.size+z.size
  ·rw[if_pos Ω,if_pos Ω];simp only[pB];rw[<-Nat.mod_eq_sub_mod Ω]
  ·rw[if_neg Ω,if_neg Ω]
def Yq{w:World}{ν:bc}{p:af}{z:Value}(a:aU w ν p z)(h:0<z.cells.size)(ar:∀c∈z.cells.toList,c.oneCell'=true):∀n,dw w ν z.cells.size (List.replicate n p) (madeCells z.cells (n*z.cells.size)).toList
 |0=>by simp[dw,madeCells]
 |n+1=>by rw[amp _ _ h];simp only[List.replicate_succ,dw];exact⟨z,_,rfl,⟨a,rfl,ar⟩,Yq a h ar n⟩
def ky{P:cI}{aT:List (Nat×ev)}(aJ:hY P aT=true){C:fm}{st st':bp}{a:Act}{w:World}{ν:bc}(l:c9 C st a w ν){i:eY}{o:Oper}(ar:FD C.N aT i o=true)
  {κ:aB} {n':Nat} {o₁:List aB} (vW:i.makes st=true->fresh st.n st.o κ) (dB:i.makes st=true->∀j,fresh n' o₁ j->fresh st.n st.o j/\j≠κ) {c:Prop} (he:fk κ n' o₁ st i=some (c,st')) (aw:c) {K:Act->World->Prop} {Q:Exit->Act->World->Prop} (M:∀br w' bn,c9 C st' br w' bn->K br w'):o.wp P a w K Q:=by
 obtain⟨dst,op,type,pos,after,guard⟩:=o;unfold FD at ar;dsimp only at ar;split at ar
 ·rename_i d key t;simp only[cQ,ey,gy]at ar;obtain⟨rfl,U⟩:=ar;simp only[fk]at he;cases he;obtain⟨g1,g2⟩:=l.newBox (l.new _ (vW rfl)) (dB rfl) (cs:=[.hdm 0 []]) (us:= #[]) 0 (by simp only[k3];exact⟨by simp[c7],⟨rfl,Ψ,Ψ⟩⟩);refine nH (v:= .map (some w.heap.size)) (w':=w.alloc (.map #[] 0)) ?_ (M _ _ _ (g1.put (d:=some d) (by simpa[j8]using U) (p:= .gmap κ) ?_))
  ·simp only[execOp,Instr.makeMap,Option.map_none,gx,run_newObj,gC,hA];rfl
  ·simp[aU,bc.withBox]
 iterate 2
  focus
   rename_i cA x k v t hf iM u7
   simp only[cQ,ey]at ar
   obtain⟨⟨⟨⟨rfl,J⟩,U⟩,A⟩,E⟩:=ar
   have rx:=e3 l U
   have JI:=e3 l A
   have sB:=e3 l E
   split at J
   ·rename_i sz S pd sa z R
    obtain⟨cU,hu,gh⟩:=jm aJ R
    have xo:cU= .map pd sa:=by cases cU<;>simp[k7]at gh;obtain⟨rfl,rfl⟩:=gh;rfl
    subst xo
    have rh:=XG aJ J
    simp only[fk]at he
    split at he
    ·rename_i m O
     rw[O]at rx
     simp only[aU]at rx
     obtain⟨bl,cm,b8⟩:=rx
     split at he
     ·rename_i cs dz
      split at he
      ·rename_i cs' hm
       cases he
       obtain⟨h5,us,el,a8,bB,bX,dq,G⟩:=l.good.box m cs dz
       rw[cm]at a8;cases a8
       unfold qN at hm
       split at hm
       ·rename_i clock borns kvs
        split at hm
        ·cases hm
        rename_i fL
        simp only[l0]at dq
        simp only[k3]at G
        have iJ:=yi (P:=P) dq
        have D4:=abq (P:=P) (w:=w) rh false JI (by simpa using fL)
        have bO:bl<w.heap.size:=(Array.getElem?_eq_some_iff.1 dq).1
        have ee:∀(o':Obj) (b1:Array Value) (ej:List af),(Instr.mapUpdate t (a.eval hf) (a.eval iM) (a.eval u7)).run P w= .ok () {w with heap:=w.heap.setIfInBounds bl o'}->l0 ej b1 el=o'->k3 w ν ej b1.toList->some ej=some cs'->
          (⟨none,.mapUpdate t hf iM u7,type,pos,after,guard⟩:Oper).wp P a w K Q:=by
         intro o' b1 ej jM M7 nV jJ;cases jJ;refine Kj (w':={w with heap:=w.heap.setIfInBounds bl o'}) ?_ (M _ _ _ (l.setBox (w':={w with heap:=w.heap.setIfInBounds bl o'}) dz cm (us:=b1) (el:=el) rfl rfl rfl (fun j L=>?_) Ψ ?_ nV).1)
         ·simp only[execOp,jM,gx,gC,hA]
         ·exact Array.getElem?_setIfInBounds_ne (Ne.symm L)
         ·rw[M7];simp[bO]
        split at hm
        ·rename_i BW Eg
         obtain⟨j,u,b1,e,f1,f2,f3,f4,f5,f6,f7⟩:=OD rh JI sB borns kvs us.toList 0 _ G.1 G.2.len Eg
         refine ee (.map (gP borns b1).toArray clock) b1.toArray (.hdm clock borns::BW) ?_ (by simp[l0]) (by simp only[k3];exact⟨by simpa using f2,⟨by rw[f3];exact G.2.len,G.2.inc,G.2.lt⟩⟩) hm
         have ak2:(Instr.keyThatStays (((gP borns us.toList).toArray[j]?.map (·.key)).getD (a.eval iM)) (a.eval iM)).run P w= .ok (a.eval iM) w:=by
          have:((gP borns us.toList).toArray[j]?.map (·.key)).getD (a.eval iM)=e.key:=by simp[f4]
          rw[this];simp[Instr.keyThatStays,f6]
         simp only[Nat.zero_add]at f1
         simp only[Instr.mapUpdate,gx,run_underlying hu,gC,b8,iJ,D4,f1.run rh,hA,ak2,P5 dq]
         rw[f7]
         simp
        ·rename_i Eg
         have f1:=OD rh JI sB borns kvs us.toList 0 _ G.1 G.2.len Eg
         simp only at f1
         have we:us.toList.length=2*borns.length:=by rw[P0 G.1,G.2.len]
         refine ee (.map ((gP borns us.toList).toArray.push ⟨a.eval iM,a.eval u7,clock⟩) (clock+1)) (us.toList++[a.eval iM,a.eval u7]).toArray (.hdm (clock+1) (borns++[clock])::(kvs++[cE st.t k,cE st.t v])) ?_ (by simp only[l0,Ux borns us.toList clock _ _ we];simp) ?_ hm
         ·simp only[Instr.mapUpdate,gx,run_underlying hu,gC,b8,iJ,D4,f1.run rh,hA,P5 dq]
         ·simp only[k3]
          refine⟨abg G.1 (by simp only[c7];exact⟨_,_,rfl,JI,_,_,rfl,sB,rfl⟩),⟨by simp[G.2.len];omega,?_,?_⟩⟩
          ·rw[List.pairwise_append]
           exact⟨G.2.inc,Ψ,fun x O y aK=>by simp at aK;subst aK;exact G.2.lt x O⟩
          ·intro b ag
           rcases kd.1 ag with ag|ag
           ·have:=G.2.lt b ag;omega
           ·simp at ag;omega
        ·cases hm
       ·cases hm
      ·cases he
     ·cases he
    ·cases he
   ·cases J
 ·rename_i d key x t hf;simp only[cQ,ey,gy]at ar;obtain⟨⟨⟨rfl,U⟩,J⟩,A⟩:=ar;have rx:=e3 l A;split at J
  ·rename_i sz S pd sa z R;obtain⟨cU,hu,gh⟩:=jm aJ R;have xo:cU= .map pd sa:=by cases cU<;>simp[k7]at gh;obtain⟨rfl,rfl⟩:=gh;rfl
   subst xo;simp only[fk]at he;split at he
   ·rename_i m O;rw[O]at rx;have aqF:=rx;simp only[aU]at rx;obtain⟨bl,cm,b8⟩:=rx;split at he
    ·rename_i cs dz;split at he
     ·rename_i cs' hm;cases he;obtain⟨h5,us,el,a8,bB,bX,dq,G⟩:=l.good.box m cs dz;rw[cm]at a8;cases a8;unfold z6 at hm;split at hm
      ·rename_i clock borns kvs;cases hm;simp only[l0]at dq;have iJ:=yi (P:=P) dq;obtain⟨g1,g2⟩:=l.newBox (l.new _ (vW rfl)) (dB rfl) (cs:=[.hdi clock [] clock,.gmap m]) (us:= #[a.eval hf]) 0 (by simp only[k3,c7];exact⟨_,_,rfl,aqF,rfl⟩);have M7:l0 [.hdi clock [] clock,.gmap m] #[a.eval hf] 0= .mapIter (some bl) clock #[] clock:=by simp[l0,b8]
       rw[M7]at g1 g2;refine nH (v:= .pointer (some ⟨w.heap.size,0,none⟩)) (w':=w.alloc (.mapIter (some bl) clock #[] clock)) ?_ (M _ _ _ (g1.put (d:=some d) (by simpa[j8]using U) (p:= .ptr κ 0) g2))
       ·simp only[execOp];refine F2 ?_;simp only[Instr.range,gx,run_underlying hu,gC,b8,iJ,hA,run_newObj];rfl
      ·cases hm
     ·cases he
    ·cases he
   ·cases he
  ·cases J
 ·rename_i d ax7;simp only[cQ,ey,gy]at ar;obtain⟨⟨J,U⟩,A⟩:=ar;subst J;simp only[fk]at he;split at he
  ·rename_i cC p F;cases he;obtain⟨v,g1,g2⟩:=arO (o:=⟨some d,op,type,pos,after,guard⟩) aJ l A F aw;refine nH g1 (M _ _ ν ?_);exact l.put (d:=some d) (by simpa[j8]using U) g2
  ·cases he
 ·rename_i d key x el o';simp only[cQ,ey,gy]at ar;obtain⟨⟨J,U⟩,A⟩:=ar;subst J;simp only[fk]at he;cases he;have O:=e3 l A;have mG:=wJ O aw;obtain⟨g1,g2⟩:=l.newBox (l.new _ (vW rfl)) (dB rfl) el (by rw[pk (wI mG)];exact mG);rw[pj (wI mG)]at g1 g2;refine nH (v:= .pointer (some ⟨w.heap.size,0,none⟩)) (w':=w.alloc (.cells (a.eval o').cells el)) ?_ (M _ _ _ (g1.put (d:=some d) (by simpa[j8]using U) (p:= .ptr κ 0) ?_))
  ·simp only[execOp,Instr.box,newVar,newRow,gx,run_newObj,gC,hA];rfl
  ·simpa only[aU]using g2
 ·rename_i d key z el;simp only[cQ,ey,gy]at ar;obtain⟨⟨J,U⟩,A⟩:=ar;subst J;simp only[fk]at he;cases he;split at A
  ·rename_i f R;have bC:=Ra A;obtain⟨cd,l5,z2,z3⟩:=QH aJ R w;rw[<-bC]at z2;obtain⟨_,mG⟩:=Q9 w ν z2;obtain⟨g1,g2⟩:=l.newBox (l.new _ (vW rfl)) (dB rfl) el (by rw[pk (wI mG)];exact mG);rw[pj (wI mG)]at g1 g2;refine nH (v:= .pointer (some ⟨w.heap.size,0,none⟩)) (w':=w.alloc (.cells cd.cells el)) ?_ (M _ _ _ (g1.put (d:=some d) (by simpa[j8]using U) (p:= .ptr κ 0) ?_))
   ·simp only[execOp,Instr.alloc,newVar,newRow,gx,l5,run_newObj,gC,hA];rfl
   ·simpa only[aU]using g2
  ·cases A
 ·rename_i sz x y t o' X;simp only[cQ,ey]at ar;obtain⟨⟨⟨J,U⟩,A⟩,E⟩:=ar;subst J;split at U
  ·rename_i f R;simp only[ey]at U;simp only[fk]at he;split at he
   ·rename_i k off O;split at he
    ·rename_i cs dz;cases he;obtain⟨jt,Z,cn,dj⟩:=aw;have rx:=e3 l A;rw[O]at rx;simp only[aU]at rx;obtain⟨bl,cm,b8⟩:=rx;have N:=e3 l E;have wG:=wJ N Z;have wK:=qQ wG;obtain⟨h5,us,el,a8,bB,bX,dq,G⟩:=l.good.box k cs dz;rw[cm]at a8;cases a8;rw[pj jt]at dq;rw[pk jt]at G;have ay:=qQ G;obtain⟨_,en⟩:=wQ aJ R w;have wg:(a.eval X).cells.size=sz:=by rw[cn]at wK;simpa using wK
     have dy:=run_storeCells_at (P:=P) bl off el (a.eval X).cells.toList 0 us w dq (by simp at ay⊢;omega) (CF wG);simp only[Nat.add_zero]at dy;refine Kj (w':=w.setRow bl (us.toList.take off++(a.eval X).cells.toList++us.toList.drop (off+(a.eval X).cells.toList.length)).toArray) ?_ (M _ _ _ (l.storeBox dz cm jt ?_))
     ·simp only[execOp,Instr.storeAt,b8,Instr.sureAddr,storeVar,gx,hA,gC,en,wg,U,ne_eq,not_true_eq_false,if_false,dy]
     ·simp only[nD];rw[wK];exact z8 (z8 (Fv off G) wG) (CE _ G)
    ·cases he
   ·rename_i O;generalize Na:cE st.t x=px at he;unfold sF at he;split at he
    ·rename_i ed k n i uB;split at he
     ·rename_i n' el j5 xs ab;split at he
      ·rename_i Ek;obtain⟨rfl,rfl⟩:=Ek;split at he
       ·rename_i q bM;cases he;obtain⟨jt,Z,cn,dj,h6⟩:=aw;have rx:=e3 l A;rw[Na]at rx;have N:=e3 l E;have wG:=wJ N Z;have wK:=qQ wG;obtain⟨_,en⟩:=wQ aJ R w;have wg:(a.eval X).cells.size=sz:=by rw[cn]at wK;simpa using wK
        obtain⟨bl,off,nM,Em,dy,bn,pV⟩:=l.storeRow (P:=P) ab rx bM jt wG (by simpa[wg]using dj) (fun e=>by have:=fy List.length e;simp[wg]at this;omega);refine Kj (w':=w.setRow bl nM) ?_ (M _ _ _ pV);simp only[execOp,Instr.storeAt,Em,Instr.sureAddr,storeVar,gx,hA,gC,en,wg,U,ne_eq,not_true_eq_false,if_false,dy]
       ·cases he
      ·cases he
     ·cases he
    ·cases he
  ·cases U
 ·rename_i d sz el xs t len parts;simp only[cQ,ey,gy]at ar;obtain⟨⟨⟨⟨⟨⟨J,U⟩,A⟩,E⟩,bR⟩,di⟩,eb⟩:=ar;subst J;subst bR;split at A
  ·rename_i gJ R;simp only[ey]at A;subst A;split at E
   ·rename_i g bf;simp only[cQ,ey,gy]at E;obtain⟨rfl,gj⟩:=E;simp only[fk]at he;cases he;obtain⟨us,g1,g2,g3⟩:=abp aJ l R rfl bf eb aw di;have mI:(w.alloc (.cells us el)).ownsRow w.heap.size el g.size (.slice (some ⟨w.heap.size,0,none⟩) xs.length xs.length) (xs.map (cE st.t)).length us.toList:=by
     refine⟨by simp[g3],.inr ⟨w.heap.size,xs.length,us,Ψ,dO _,heap_alloc_new w _,Ψ,?_,g3,?_⟩⟩
     ·simp only[maxLen];have:xs.length<=xs.length*g.size:=Nat.le_mul_of_pos_right _ gj;omega
     ·rw[iv];simp[g3]
    obtain⟨Y,eI⟩:=l.newRow (k:=κ) (xs:=xs.map (cE st.t)) (.inl (l.new _ (vW rfl))) (World.grownBy_alloc w _ none) mI g2
     (by have:xs.length<=xs.length*g.size:=Nat.le_mul_of_pos_right _ gj;simp only[lim,List.length_map];omega) (dB rfl)
    simp only[List.length_map]at Y eI;refine nH (v:= .slice (some ⟨w.heap.size,0,none⟩) xs.length xs.length) (w':=w.alloc (.cells us el)) ?_ (M _ _ _ (Y.put (d:=some d) (by simpa[j8]using U) (p:= .slice g.size (.own κ) (xs.map (cE st.t))) eI));have bN:(parts.map fun(x:Nat×Operand)=>(x.1,a.eval x.2))=(parts.toList.map fun(x:Nat×Operand)=>(x.1,a.eval x.2)).toArray:=by apply Array.ext';simp
    simp only[execOp];refine F2 ?_;rw[<-g1];congr 2
   ·cases E
  ·cases A
 ·rename_i d sz el x y o' X t t';simp only[cQ,ey,gy]at ar;obtain⟨⟨⟨⟨⟨⟨J,U⟩,A⟩,E⟩,bR⟩,di⟩,eb⟩:=ar;subst J;subst A;split at E
  ·rename_i gJ R;simp only[ey]at E;subst E;split at bR
   ·rename_i g bf;simp only[cQ,ey,gy]at bR;obtain⟨⟨rfl,gj⟩,hby⟩:=bR;have rx:=e3 l di;have N:=e3 l eb;have nQ:∀v' w',(Builtin.append_ #[t,t] type #[a.eval o',a.eval X]).run P w= .ok v' w'->(execOp a.eval ⟨some d,.call ⟨.builtin .append,⟨[o',X]⟩,⟨[t,t]⟩⟩,type,pos,after,guard⟩).run P w= .ok (.value v') w':=by intro v' w' jM;simp only[execOp,resolve,invoke,builtin,gx,hA,gC,List.map_toArray,gY,List.map_nil];rw[jM];rfl
    obtain⟨r,cu,z,ao,aC,B,b3,dM,dm,sU,sV⟩:=(wR aJ bf).ex;obtain⟨ej,jJ,gh⟩:=jm aJ R;obtain rfl:=sT gh;simp only[fk]at he;split at he
    ·rename_i ed tag xs j5 l1 ys O aK;split at he
     ·rename_i ga;obtain⟨rfl,ga⟩:=ga;subst ga;rw[O]at rx;rw[aK]at N;simp only[aU]at rx N;obtain⟨⟨vD,o4,tX,cx1,⟨Ud,Ue⟩,cx4⟩,rxn,rxo,rxt⟩:=rx;obtain⟨⟨o0,W,vy,cy1,⟨Uf,Ug⟩,cy4⟩,_⟩:=N;split at he
      ·rename_i k;split at he
       ·rename_i ow ab;cases he;obtain⟨Z,cn,dj,h6⟩:=aw;subst cn;obtain⟨n0,yt,Y,eI,kx⟩:=rxo k rfl;obtain⟨v0,H,a8,bB,bX,_⟩:=l.good.own k ow ab;rw[Y]at a8;simp only[dU,jo]at a8;obtain⟨rfl,rfl⟩:=a8;have nu:a.eval o'=yt:=kx Z.symm;by_cases hF:ys=[]
        ·subst hF;rw[vy,tX]at nQ;have jM:=JL (P:=P) (w:=w) (ty:=type) jJ ao vD xs.length o4 cx1 o0 W;refine nH (nQ _ _ (by simpa using jM)) (M _ _ ν ?_);have dy:{st with t:=put d (.slice ow.sz (.own k) (xs++[])) st.t,e:=cJ k ⟨xs.length+([]:List af).length,ow.el,ow.sz,none⟩ st.e}=({st with e:=cJ k ⟨ow.n,ow.el,ow.sz,none⟩ st.e,t:=put d (.slice ow.sz (.own k) xs) st.t}:bp):=by simp[Z]
         rw[<-dj,dy];have nU:=l.forgetRow ab;refine nU.put (d:=some d) (by simpa[j8]using U) (p:= .slice ow.sz (.own k) xs) ?_;simp only[aU];rw[<-dj]at cx4;exact⟨⟨vD,o4,rfl,cx1,⟨Ud,Ue⟩,cx4⟩,fun e=>(by cases e),(fun g e=>by cases e;exact⟨_,_,Y,eI,fun e=>by rw[<-tX];exact kx e⟩),fun _ _ e=>(by cases e),fun _ e=>(by cases e)⟩
        ·have hyp:0<ys.length:=by cases ys<;>simp at hF⊢
         rcases cy4 with cy4|⟨S,oM,s,rfl,zJ,V⟩
         ·exact absurd cy4 hF
         ·have kq:=rJ V;have ts:∀j u,s[j]? =some u->w.cell? ((⟨S,oM,none⟩:Addr).add j)=some u:=fun j u L=>by rw[pJ];exact(uW zJ L).2
          have td:(xs.length+ys.length)*r.bytes<=140737488355328:=by
           have mE:r.bytes<=2048:=by rw[b3];exact hby
           have qx:(xs.length+ys.length)*r.bytes<=(xs.length+ys.length)*2048:=Nat.mul_le_mul_left _ mE;simp only[lim]at h6;omega
          have nR:xs.length+ys.length<=maxLen:=by simp only[lim]at h6;simp only[maxLen];omega
          rw[vy]at nQ;have xK:H.length=ow.n*ow.sz:=bB.1;have xN:z.cells.size=r.size:=by rw[sV,B]
          have Ea:(∀cur,eu->cur=(0:Nat))->(∃v' w',(Builtin.append_ #[t,t] type #[a.eval o',.slice (some ⟨S,oM,none⟩) ys.length W]).run P w= .ok v' w'/\w'.ownsRow w.heap.size ow.el r.size v' (xs.length+ys.length) (H++s)/\w.grownBy w' none/\dw w ν r.size xs H)->
            (⟨some d,.call ⟨.builtin .append,⟨[o',X]⟩,⟨[t,t]⟩⟩,type,pos,after,guard⟩:Oper).wp P a w K Q:=by
           intro _ cM;obtain⟨v',w',f1,f2,f3,f4⟩:=cM;have HE:dw w ν r.size (xs++ys) (H++s):=Ft f4 (by rw[B];exact V);obtain⟨c2,dD⟩:=l.newRow (k:=k) (xs:=xs++ys) (.inr ⟨ow,ab,by rw[Z];simp;omega⟩) f3 (by simpa using f2) HE (by simpa using h6) (n':=st.n) (o':=st.o)
            (fun j L=>⟨L,fun e=>by subst e;have:=(l.new _ L).2.1;rw[Y]at this;cases this⟩)
           refine nH (nQ _ _ f1) (M _ _ ((ν.withOwn k (xs++ys).length v').withRowOf k v' (xs++ys).length ((xs++ys).length*r.size)) ?_);have:=c2.put (d:=some d) (by simpa[j8]using U) dD;simpa[B,e5]using this
          rcases bB.2 with⟨oN,zX⟩|⟨bl,cap,cur,oN,zX,Cs,Pm,Pn,Po,Ja⟩
          ·
           have sp:xs=[]:=List.eq_nil_of_length_eq_zero Ω;have Nq:H=[]:=List.eq_nil_of_length_eq_zero (by rw[xK,zX];simp);subst sp;subst Nq;refine Ea (fun _ h=>h.elim) ?_;obtain⟨v',w',f1,f2,f3,_⟩:=run_append_own (P:=P) w w.heap.size t type ow.el r z r.size r.bytes jJ ao dm rfl rfl xN (by rw[B];exact gj) (.slice none 0 0) 0 [] (World.ownsRow_nil w _ _ _)
            ⟨S,oM,none⟩ ys.length W s (by rw[kq,B]) ts (z7 V) (by simpa using nR) (by simpa using td) (dO _)
           refine⟨v',w',by rw[nu,oN];exact f1,by simpa using f2,by simpa[pz]using f3,by simp[dw]⟩
          ·have aks:kY w ν.A bl 0 H/\dw w ν r.size xs H/\True:=by
            rw[nu,oN]at tX;rcases cx4 with cx4|⟨bb,awT,QQ,f1,f2,f3⟩
            ·subst cx4;have:H=[]:=List.eq_nil_of_length_eq_zero (by rw[xK,Z];simp);subst this;exact⟨trivial,by simp[dw],trivial⟩
            ·subst f1;injection tX with vx1 vx2 vx3;injection vx1 with vx1;injection vx1 with vx1 vx4;subst vx1;subst vx4;have heq:QQ=H:=by
              apply List.ext_getElem?;intro j;have we:QQ.length=H.length:=by rw[rJ f3,xK,Z,dj]
              by_cases L:j<QQ.length
              ·have J:=(uW f2 (cl L)).2;rw[Nat.zero_add]at J;have U:=bB.cells (g:=bl) (by rw[oN];rfl) j H[j] (cl Ω);rw[pJ,Nat.zero_add,J]at U;rw[cl L,cl Ω];exact U
              ·rw[q0 Ω,q0 Ω]
             subst heq;exact⟨f2,by rw[B];exact f3,trivial⟩
           obtain⟨zn,oC,_⟩:=aks;by_cases tu:xs.length+ys.length<=cap
           ·have au3:cur.size=cap*ow.sz:=Po;have hmul:(xs.length+ys.length)*ow.sz<=cap*ow.sz:=rT _ tu;rw[q3]at hmul;have f1:=run_append_room (P:=P) w t type ow.el r jJ ao bl xs.length cap cur Cs ⟨S,oM,none⟩ ys.length W s (by rw[kq,B]) ts (z7 V) tu (by rw[kq,B,<-dj];omega);obtain⟨c2,dD⟩:=l.inPlace ab (bl:=bl) (cap:=cap) (cur:=cur) (by rw[Y,<-oN]) Cs Pn Po (xs:=xs) (ys:=ys) (us:=H) (ns:=s) Z.symm Ja (by rw[dj,<-B];exact oC) (by rw[dj];exact V) hyp (by rw[Z];exact tu) h6;refine nH (v:= .slice (some ⟨bl,0,none⟩) (ow.n+ys.length) cap) (w':=w.setRow bl (H++s++cur.toList.drop (ow.n*ow.sz+s.length)).toArray) (nQ _ _ ?_)
             (M _ _ (ν.withRowOf k (.slice (some ⟨bl,0,none⟩) (ow.n+ys.length) cap) (ow.n+ys.length) ((ow.n+ys.length)*ow.sz)) ?_)
            ·rw[nu,oN,Z,f1,<-Ja,Z,dj,B]
            ·have:=c2.put (d:=some d) (by simpa[j8]using U) dD;simpa[Z,dj,e5]using this
           ·refine Ea (fun _ h=>h.elim) ?_;obtain⟨v',w',f1,f2,f3⟩:=run_append_arg_grows (P:=P) w t type ow.el r z r.size r.bytes jJ ao dm rfl rfl xN (by rw[B];exact gj) ⟨bl,0,none⟩ xs.length cap H (by rw[xK,Z,dj,B])
             (fun j u L=>by rw[pJ];exact(uW zn L).2) ⟨S,oM,none⟩ ys.length W s (by rw[kq,B]) ts Ω nR td
            exact⟨v',w',by rw[nu,oN,Z];exact f1,f2,f3,oC⟩
       ·cases he
      ·cases he;have HR:=rxn rfl;have sp:xs=[]:=by rw[HR]at tX;injection tX with _ aC;exact List.eq_nil_of_length_eq_zero aC.symm
       subst sp;have zr:(eY.app d g.size el x y).makes st=true:=by simp only[eY.makes,O]
       have xN:z.cells.size=r.size:=by rw[sV,B]
       rw[vy,HR]at nQ;have ee:∀(v':Value) (w':World) (s:List Value),(Builtin.append_ #[t,t] type #[.slice none 0 0,.slice o0 ys.length W]).run P w= .ok v' w'->w'.ownsRow w.heap.size el g.size v' ys.length s->w.grownBy w' none->dw w ν g.size ys s->
         (⟨some d,.call ⟨.builtin .append,⟨[o',X]⟩,⟨[t,t]⟩⟩,type,pos,after,guard⟩:Oper).wp P a w K Q:=by
        intro v' w' s f1 f2 f3 f4;obtain⟨c2,dD⟩:=l.newRow (k:=κ) (xs:=ys) (.inl (l.new _ (vW zr))) f3 f2 f4 aw (dB zr);exact nH (nQ _ _ f1) (M _ _ _ (c2.put (d:=some d) (by simpa[j8]using U) dD))
       by_cases hF:ys=[]
       ·subst hF;exact ee _ w [] (JL jJ ao none 0 0 (dO _) o0 W) (World.ownsRow_nil w _ _ _) (atw w _) (by simp[dw])
       ·rcases cy4 with cy4|⟨S,oM,s,rfl,zJ,V⟩
        ·exact absurd cy4 hF
        ·have kq:=rJ V;have ts:∀j u,s[j]? =some u->w.cell? ((⟨S,oM,none⟩:Addr).add j)=some u:=fun j u L=>by rw[pJ];exact(uW zJ L).2
         have td:ys.length*r.bytes<=140737488355328:=by
          have J:r.bytes<=2048:=by rw[b3];exact hby
          have U:ys.length*r.bytes<=ys.length*2048:=Nat.mul_le_mul_left _ J;simp only[lim]at aw;omega
         have nR:ys.length<=maxLen:=by simp only[lim]at aw;simp only[maxLen];omega
         obtain⟨v',w',f1,f2,f3,_⟩:=run_append_own (P:=P) w w.heap.size t type el r z r.size r.bytes jJ ao dm rfl rfl xN (by rw[B];exact gj) (.slice none 0 0) 0 [] (World.ownsRow_nil w _ _ _)
          ⟨S,oM,none⟩ ys.length W s (by rw[kq,B]) ts (z7 V) (by simpa using nR) (by simpa using td) (dO _)
         exact ee v' w' s f1 (by rw[<-B];simpa using f2) (by simpa[pz]using f3) V
      ·cases he
     ·cases he
    ·cases he
   ·cases bR
  ·cases E
 ·rename_i d key sz el xs t len parts;simp only[cQ,ey,gy]at ar;obtain⟨⟨⟨⟨⟨⟨J,U⟩,A⟩,E⟩,bR⟩,di⟩,eb⟩:=ar;subst J;subst bR;split at A
  ·rename_i gJ R;simp only[ey]at A;subst A;split at E
   ·rename_i g bf;simp only[cQ,ey,gy]at E;obtain⟨rfl,gj⟩:=E;simp only[fk]at he;cases he;obtain⟨us,g1,g2,g3⟩:=abp aJ l R rfl bf eb aw di;have mI:(w.alloc (.cells us el)).ownsRow w.heap.size el g.size (.slice (some ⟨w.heap.size,0,none⟩) xs.length xs.length) (xs.map (cE st.t)).length us.toList:=by
     refine⟨by simp[g3],.inr ⟨w.heap.size,xs.length,us,Ψ,dO _,heap_alloc_new w _,Ψ,?_,g3,?_⟩⟩
     ·simp only[maxLen];have:xs.length<=xs.length*g.size:=Nat.le_mul_of_pos_right _ gj;omega
     ·rw[iv];simp[g3]
    obtain⟨Y,eI⟩:=l.newRowM (k:=κ) (xs:=xs.map (cE st.t)) (.inl (l.new _ (vW rfl))) (World.grownBy_alloc w _ none) mI g2
     (by have:xs.length<=xs.length*g.size:=Nat.le_mul_of_pos_right _ gj;simp only[lim,List.length_map];omega) (dB rfl)
    simp only[List.length_map]at Y eI;refine nH (v:= .slice (some ⟨w.heap.size,0,none⟩) xs.length xs.length) (w':=w.alloc (.cells us el)) ?_ (M _ _ _ (Y.put (d:=some d) (by simpa[j8]using U) (p:= .row g.size κ xs.length) (eI ⟨_,_,rfl⟩)));have bN:(parts.map fun(x:Nat×Operand)=>(x.1,a.eval x.2))=(parts.toList.map fun(x:Nat×Operand)=>(x.1,a.eval x.2)).toArray:=by apply Array.ext';simp
    simp only[execOp];refine F2 ?_;rw[<-g1];congr 2
   ·cases E
  ·cases A
 ·rename_i d key sz el x y o' X t t';simp only[cQ,ey,gy]at ar;obtain⟨⟨⟨⟨⟨⟨J,U⟩,A⟩,E⟩,bR⟩,di⟩,eb⟩:=ar;subst J;subst A;split at E
  ·rename_i gJ R;simp only[ey]at E;subst E;split at bR
   ·rename_i g bf;simp only[cQ,ey,gy]at bR;obtain⟨⟨rfl,gj⟩,hby⟩:=bR;have rx:=e3 l di;have N:=e3 l eb;have nQ:∀v' w',(Builtin.append_ #[t,t] type #[a.eval o',a.eval X]).run P w= .ok v' w'->(execOp a.eval ⟨some d,.call ⟨.builtin .append,⟨[o',X]⟩,⟨[t,t]⟩⟩,type,pos,after,guard⟩).run P w= .ok (.value v') w':=by intro v' w' jM;simp only[execOp,resolve,invoke,builtin,gx,hA,gC,List.map_toArray,gY,List.map_nil];rw[jM];rfl
    obtain⟨r,cu,z,ao,aC,B,b3,dM,dm,sU,sV⟩:=(wR aJ bf).ex;obtain⟨ej,jJ,gh⟩:=jm aJ R;obtain rfl:=sT gh;have xN:z.cells.size=r.size:=by rw[sV,B]
    simp only[fk]at he;split at he
    ·
     rename_i ys F;cases he;unfold uo at F;split at F
     ·rename_i ed xs j5 l1 atn O aK;split at F
      ·rename_i ga;obtain⟨rfl,ga⟩:=ga;subst ga;cases F;rw[O]at rx;rw[aK]at N;simp only[aU]at rx N;obtain⟨⟨vD,o4,tX,cx1,⟨Ud,Ue⟩,cx4⟩,rxn,rxo,rxt⟩:=rx;obtain⟨⟨o0,W,vy,cy1,⟨Uf,Ug⟩,cy4⟩,_⟩:=N;have HR:=rxn trivial;have zr:(eY.appm d key g.size el x y).makes st=true:=by simp only[eY.makes,O]
       rw[vy,HR]at nQ;have ee:∀(v':Value) (w':World) (s:List Value),(Builtin.append_ #[t,t] type #[.slice none 0 0,.slice o0 ys.length W]).run P w= .ok v' w'->w'.ownsRow w.heap.size el g.size v' ys.length s->w.grownBy w' none->dw w ν g.size ys s->
         (⟨some d,.call ⟨.builtin .append,⟨[o',X]⟩,⟨[t,t]⟩⟩,type,pos,after,guard⟩:Oper).wp P a w K Q:=by
        intro v' w' s f1 f2 f3 f4;obtain⟨c2,dD⟩:=l.newRowM (k:=κ) (xs:=ys) (.inl (l.new _ (vW zr))) f3 f2 f4 aw.1 (dB zr);exact nH (nQ _ _ f1) (M _ _ _ (c2.put (d:=some d) (by simpa[j8]using U) (dD (ZL f2 (by cases ys<;>simp at aw⊢)))))
       by_cases hF:ys=[]
       ·subst hF;exact ee _ w [] (JL jJ ao none 0 0 (dO _) o0 W) (World.ownsRow_nil w _ _ _) (atw w _) (by simp[dw])
       ·rcases cy4 with cy4|⟨S,oM,s,rfl,zJ,V⟩
        ·exact absurd cy4 hF
        ·have kq:=rJ V;have ts:∀j u,s[j]? =some u->w.cell? ((⟨S,oM,none⟩:Addr).add j)=some u:=fun j u L=>by rw[pJ];exact(uW zJ L).2
         have td:ys.length*r.bytes<=140737488355328:=by
          have J:r.bytes<=2048:=by rw[b3];exact hby
          have U:ys.length*r.bytes<=ys.length*2048:=Nat.mul_le_mul_left _ J;simp only[lim]at aw;omega
         have nR:ys.length<=maxLen:=by simp only[lim]at aw;simp only[maxLen];omega
         obtain⟨v',w',f1,f2,f3,_⟩:=run_append_own (P:=P) w w.heap.size t type el r z r.size r.bytes jJ ao dm rfl rfl xN (by rw[B];exact gj) (.slice none 0 0) 0 [] (World.ownsRow_nil w _ _ _)
          ⟨S,oM,none⟩ ys.length W s (by rw[kq,B]) ts (z7 V) (by simpa using nR) (by simpa using td) (dO _)
         exact ee v' w' s f1 (by rw[<-B];simpa using f2) (by simpa[pz]using f3) V
      ·cases F
     ·split at F
      ·split at F
       ·split at F<;>cases F
       ·cases F
      ·cases F
     ·cases F
    ·
     rename_i k xs ys F;cases he;unfold uo at F;split at F
     ·split at F<;>cases F
     ·rename_i ed bs n j5 l1 atn O aK;split at F
      ·rename_i ga;obtain⟨rfl,ga⟩:=ga;subst ga;split at F
       ·rename_i n' gJ yp xs' ab;split at F
        ·rename_i ri;obtain⟨rfl,rfl,rfl⟩:=ri;cases F;rw[O]at rx;rw[aK]at N;simp only[aU]at rx N;obtain⟨⟨bx,o4,tX⟩,rxl,n0,yt,Y,eI,kx⟩:=rx;obtain⟨⟨o0,W,vy,cy1,⟨Uf,Ug⟩,cy4⟩,_⟩:=N;obtain⟨v0,H,a8,bB,bX,dq⟩:=l.good.own k _ ab;rw[Y]at a8;simp only[dU,jo]at a8 bB;obtain⟨rfl,rfl⟩:=a8;have nu:a.eval o'=yt:=kx rfl;obtain⟨G,mQ,va⟩:=dq xs rfl;simp only at G mQ;have xK:H.length=xs.length*g.size:=by rw[G];exact bB.1
         have kW:xs.length=n0:=G;by_cases hF:ys=[]
         ·subst hF;rw[vy,tX]at nQ;have mG:n0<=o4:=by
           rcases bB.2 with⟨oN,zX⟩|⟨bl,cap,cur,oN,zX,Cs,Pm,_⟩
           ·rw[zX];exact Nat.zero_le _
           ·rw[<-nu,tX]at oN;injection oN with _ _ e;rw[e];exact Pm
          have jM:=JL (P:=P) (w:=w) (ty:=type) jJ ao (some ⟨bx,0,none⟩) n0 o4 mG o0 W;refine nH (nQ _ _ (by simpa using jM)) (M _ _ ν ?_);have hW:∀fD,ae fD (cJ k ⟨n0,gJ,g.size,some xs⟩ st.e)=ae fD st.e:=fun fD=>by
           rw[jk];split
           ·rename_i e;subst e;rw[ab]
           ·rfl
          have nU:c9 C {st with e:=cJ k ⟨n0,gJ,g.size,some xs⟩ st.e} a w ν:=
           ⟨⟨l.good.alt,l.good.box,l.good.inj,fun g o bf=>l.good.own g o (by rw[<-hW g];exact bf),fun g fD n n' v v' bl bq a2=>l.good.oinj g fD n n' v v' bl (by rw[<-hW g];exact bq) (by rw[<-hW fD];exact a2),
           fun g j n v bl bq=>l.good.obx g j n v bl (by rw[<-hW g];exact bq),l.good.one,fun bl ag=>l.good.otr bl (ag.imp id (fun⟨g,n,v,bq,a2⟩=>⟨g,n,v,by rw[<-hW g];exact bq,a2⟩))⟩,l.fr,l.defers,l.size,l.slot,l.new⟩
          have A:=nU.put (d:=some d) (by simpa[j8]using U) (p:= .row g.size k n0) (v:= .slice (some ⟨bx,0,none⟩) n0 o4) (by simp only[aU];exact⟨⟨_,_,rfl⟩,rxl,_,_,Y,dO _,fun _=>by rw[<-tX];exact nu⟩)
          simpa[kW,e5]using A
         ·have hyp:0<ys.length:=by cases ys<;>simp at hF⊢
          rcases cy4 with cy4|⟨S,oM,s,rfl,zJ,V⟩
          ·exact absurd cy4 hF
          ·have kq:=rJ V;have ts:∀j u,s[j]? =some u->w.cell? ((⟨S,oM,none⟩:Addr).add j)=some u:=fun j u L=>by rw[pJ];exact(uW zJ L).2
           have td:(xs.length+ys.length)*r.bytes<=140737488355328:=by
            have mE:r.bytes<=2048:=by rw[b3];exact hby
            have qx:(xs.length+ys.length)*r.bytes<=(xs.length+ys.length)*2048:=Nat.mul_le_mul_left _ mE;simp only[lim]at aw;omega
           have nR:xs.length+ys.length<=maxLen:=by simp only[lim]at aw;simp only[maxLen];omega
           have HE:dw w ν g.size (xs++ys) (H++s):=Ft mQ V;rw[vy,nu]at nQ;have Ea:(∃v' w',(Builtin.append_ #[t,t] type #[yt,.slice (some ⟨S,oM,none⟩) ys.length W]).run P w= .ok v' w'/\w'.ownsRow w.heap.size gJ r.size v' (xs.length+ys.length) (H++s)/\w.grownBy w' none)->
             (⟨some d,.call ⟨.builtin .append,⟨[o',X]⟩,⟨[t,t]⟩⟩,type,pos,after,guard⟩:Oper).wp P a w K Q:=by
            intro cM;obtain⟨v',w',f1,f2,f3⟩:=cM;obtain⟨c2,dD⟩:=l.newRowM (k:=k) (xs:=xs++ys) (el:=gJ) (sz:=g.size) (.inr ⟨_,ab,by simp;omega⟩) f3 (by rw[<-B];simpa using f2) HE (by simpa using aw) (n':=st.n) (o':=st.o)
             (fun j L=>⟨L,fun e=>by subst e;have:=(l.new _ L).2.1;rw[Y]at this;cases this⟩)
            refine nH (nQ _ _ f1) (M _ _ (ν.withOwn k (xs++ys).length v') ?_);have:=c2.put (d:=some d) (by simpa[j8]using U) (dD (by simpa using ZL f2 Ω));simpa[e5]using this
           rcases bB.2 with⟨oN,zX⟩|⟨bl,cap,cur,oN,zX,Cs,Pm,Pn,Po,Ja⟩
           ·
            have sp:xs=[]:=List.eq_nil_of_length_eq_zero Ω;have Nq:H=[]:=List.eq_nil_of_length_eq_zero (by rw[xK,sp];simp);subst sp;subst Nq;refine Ea ?_;obtain⟨v',w',f1,f2,f3,_⟩:=run_append_own (P:=P) w w.heap.size t type gJ r z r.size r.bytes jJ ao dm rfl rfl xN (by rw[B];exact gj) (.slice none 0 0) 0 [] (World.ownsRow_nil w _ _ _)
             ⟨S,oM,none⟩ ys.length W s (by rw[kq,B]) ts (z7 V) (by simpa using nR) (by simpa using td) (dO _)
            exact⟨v',w',by rw[oN];exact f1,by simpa using f2,by simpa[pz]using f3⟩
           ·have mK:yt.ownBlock=some bl:=by rw[oN];rfl
            by_cases tu:xs.length+ys.length<=cap
            ·have hmul:(xs.length+ys.length)*g.size<=cap*g.size:=rT _ tu;rw[q3]at hmul;have f1:=run_append_room (P:=P) w t type gJ r jJ ao bl xs.length cap cur Cs ⟨S,oM,none⟩ ys.length W s (by rw[kq,B]) ts (z7 V) tu (by rw[kq,B];omega);generalize W3:(cur.toList.take (xs.length*r.size)++s++cur.toList.drop (xs.length*r.size+s.length)).toArray=u6 at f1;have jY:(w.setRow bl u6).heap[bl]? =some (.cells u6 gJ (0,0)):=setRow_heap w bl cur u6 gJ _ Cs;have av:(H++s).length=(xs++ys).length*g.size:=by rw[qe,xK,kq,qe,q3]
             have bR:cur.toList.take (xs.length*r.size)=H:=by rw[kW,B];exact Ja
             have lq:u6.size=cap*g.size:=by rw[<-W3];simp only[List.size_toArray,qe,List.length_take,ud,Array.length_toList];rw[B];omega
             have qB:u6.toList.take ((xs++ys).length*g.size)=H++s:=by rw[<-W3,bR];simp only[<-av];rw[List.take_append_of_le_length (dO _),jA]
             obtain⟨c2,_,dD⟩:=l.setRowM (w':=w.setRow bl u6) ab rfl Y mK (v':= .slice (some ⟨bl,0,none⟩) (xs.length+ys.length) cap) rfl (xs':=xs++ys) (us:=H++s) (.inr d6) rfl rfl rfl (fun j L=>setRow_other w bl j u6 L) (setRow_size w bl u6)
              ⟨av,.inr ⟨bl,cap,u6,Ψ,Nat.zero_le _,jY,by simpa using tu,Pn,lq,qB⟩⟩ HE
             replace dD:=dD (by simpa using aw);refine nH (v:= .slice (some ⟨bl,0,none⟩) (xs.length+ys.length) cap) (w':=w.setRow bl u6) (nQ _ _ ?_) (M _ _ (ν.withOwn k (xs++ys).length (.slice (some ⟨bl,0,none⟩) (xs.length+ys.length) cap)) ?_)
             ·rw[oN,<-kW];exact f1
             ·have:=c2.put (d:=some d) (by simpa[j8]using U) dD;simpa[e5]using this
            ·refine Ea ?_;obtain⟨v',w',f1,f2,f3⟩:=run_append_arg_grows (P:=P) w t type gJ r z r.size r.bytes jJ ao dm rfl rfl xN (by rw[B];exact gj) ⟨bl,0,none⟩ xs.length cap H (by rw[xK,B])
              (fun j u L=>by have:=bB.cells mK j u L;exact this) ⟨S,oM,none⟩ ys.length W s (by rw[kq,B]) ts Ω nR td
             exact⟨v',w',by rw[oN,<-kW];exact f1,f2,f3⟩
        ·cases F
       ·cases F
      ·cases F
     ·cases F
    ·cases he
   ·cases bR
  ·cases E
 ·rename_i sz x y t o' X;simp only[cQ,ey]at ar;obtain⟨⟨⟨J,U⟩,A⟩,E⟩:=ar;subst J;split at U
  ·rename_i f R;simp only[ey]at U;simp only[fk]at he;generalize Na:cE st.t x=px at he;unfold sF at he;split at he
   ·rename_i ed k n i uB;split at he
    ·rename_i n' el j5 xs ab;split at he
     ·rename_i Ek;obtain⟨rfl,rfl⟩:=Ek;split at he
      ·rename_i q bM;cases he;obtain⟨jt,Z,cn,dj,h6⟩:=aw;have rx:=e3 l A;rw[Na]at rx;have N:=e3 l E;have wG:=wJ N Z;have wK:=qQ wG;obtain⟨_,en⟩:=wQ aJ R w;have wg:(a.eval X).cells.size=sz:=by rw[cn]at wK;simpa using wK
       obtain⟨bl,off,nM,Em,dy,bn,pV⟩:=l.storeRow (P:=P) ab rx bM jt wG (by simpa[wg]using dj) (fun e=>by have:=fy List.length e;simp[wg]at this;omega);refine Kj (w':=w.setRow bl nM) ?_ (M _ _ _ pV);simp only[execOp,Instr.storeAt,Em,Instr.sureAddr,storeVar,gx,hA,gC,en,wg,U,ne_eq,not_true_eq_false,if_false,dy]
      ·cases he
     ·cases he
    ·cases he
   ·cases he
  ·cases U
 ·rename_i d key sz el z x t o' X;simp only[cQ,ey,gy]at ar;obtain⟨⟨⟨⟨⟨J,U⟩,A⟩,E⟩,bR⟩,di⟩:=ar;subst J;split at A
  ·rename_i gJ R;simp only[ey]at A;subst A;split at E
   ·rename_i g bf;simp only[cQ,ey,gy]at E;obtain⟨⟨⟨rfl,gj⟩,hby⟩,bC⟩:=E;obtain rfl:=Ra bC;have rx:=e3 l bR;have N:=e3 l di;simp only[fk]at he;split at he
    ·rename_i gk n O;cases he;obtain⟨iC,kq⟩:=aw;obtain⟨m,rfl⟩:=Int.eq_ofNat_of_zero_le iC;rw[O]at rx N;simp only[aU]at rx N;obtain⟨r,cu,cd,ao,aC,B,b3,dM,dm,sU,sV⟩:=(wR aJ bf).ex;obtain⟨ej,jJ,gh⟩:=jm aJ R;obtain rfl:=sT gh;have nR:m<=lim:=by simp only[lim]at kq⊢;omega
     have td:r.bytes*m<=281474976710656:=by have J:r.bytes*m<=2048*m:=rT _ Ω;simp only[lim]at nR;omega
     obtain⟨akX,ajX⟩:=Q9 w ν sU;obtain⟨w',g1,g2,g3⟩:=run_make_full (P:=P) w w.heap.size t el r cd r.size jJ ao dm rfl gk gk m td (by simp only[maxLen];simp only[lim]at nR;omega) (dO _);have mI:w'.ownsRow w.heap.size el g.size (.slice (some ⟨w.heap.size,0,none⟩) m m) (List.replicate m g.zero).length (madeCells cd.cells (m*cd.cells.size)).toList:=by rw[B,<-sV]at g2;rw[List.length_replicate,<-sV];exact g2
     obtain⟨Y,eI⟩:=l.newRowM (k:=κ) (xs:=List.replicate m g.zero) (.inl (l.new _ (vW rfl))) g3 mI (by rw[<-sV];exact Yq akX Ω (CF ajX) m) (by simpa using nR) (dB rfl);simp only[List.length_replicate]at Y eI;simp only[Int.toNat_natCast]at M;refine nH (v:= .slice (some ⟨w.heap.size,0,none⟩) m m) (w':=w') ?_ (M _ _ _ (Y.put (d:=some d) (by simpa[j8]using U) (p:= .row g.size κ m) (eI ⟨_,_,rfl⟩)));simp only[execOp];refine F2 ?_;rw[rx,N];exact g1
    ·cases he
   ·cases E
  ·cases A
 ·cases ar
def aqH{P:cI}{aT:List (Nat×ev)}(e:hY P aT=true){C:fm}{st st':bp}{a:Act}{w:World}{ν:bc}(f:c9 C st a w ν){i:eY}{o:Oper}(ar:FD C.N aT i o=true)
  {c:Prop} (he:nC st i=some (c,st')) (aw:c) {K:Act->World->Prop} {Q:Exit->Act->World->Prop} (b:∀br w' bn,c9 C st' br w' bn->K br w'):o.wp P a w K Q:=by
 have p:rz st none->fresh st.n st.o (.loc st.n):=fun h=>x1 (key:=none) h;have q:∀j,fresh (st.n+1) st.o j->fresh st.n st.o j/\j≠ .loc st.n:=x2 (key:=none);cases i with
 |v d i=>exact ky (κ:= .loc 0) (n':=0) (o₁:=[]) e f ar (fun h=>by simp[eY.makes]at h) (fun h=>by simp[eY.makes]at h) (by simpa only[nC,fk]using he) aw b
 |box d key x=>simp only[nC]at he;cases he;exact ky (κ:=kv st key) (n':=oK st key) (o₁:=oL st key) e f ar (fun _=>x1 aw.1) (fun _=>x2) (by simp only[fk]) aw.2 b
 |alloc d key z=>simp only[nC]at he;cases he;exact ky (κ:=kv st key) (n':=oK st key) (o₁:=oL st key) e f ar (fun _=>x1 aw) (fun _=>x2) (by simp only[fk]) trivial b
 |mks d key sz el z x=>
  simp only[nC]at he;split at he
  ·rename_i gk n g;cases he;exact ky (κ:=kv st key) (n':=oK st key) (o₁:=oL st key) e f ar (fun _=>x1 aw.1) (fun _=>x2) (by simp only[fk,g]) aw.2 b
  ·cases he
 |storeE sz x y=>exact ky (κ:= .loc 0) (n':=0) (o₁:=[]) e f ar (fun h=>by simp[eY.makes]at h) (fun h=>by simp[eY.makes]at h) (by simpa only[nC,fk]using he) aw b
 |store sz x y=>exact ky (κ:= .loc 0) (n':=0) (o₁:=[]) e f ar (fun h=>by simp[eY.makes]at h) (fun h=>by simp[eY.makes]at h) (by simpa only[nC,fk]using he) aw b
 |bsl d sz el xs=>simp only[nC]at he;cases he;exact ky (κ:= .loc st.n) (n':=st.n+1) (o₁:=st.o) e f ar (fun _=>p aw.1) (fun _=>q) (by simp only[fk]) aw.2 b
 |bslm d key sz el xs=>simp only[nC]at he;cases he;exact ky (κ:=kv st key) (n':=oK st key) (o₁:=oL st key) e f ar (fun _=>x1 aw.1) (fun _=>x2) (by simp only[fk]) aw.2 b
 |appm d key sz el x y=>
  simp only[nC]at he;split at he
  ·rename_i ys l;cases he;exact ky (κ:=kv st key) (n':=oK st key) (o₁:=oL st key) e f ar (fun _=>x1 aw.1) (fun _=>x2) (by simp only[fk,l]) aw.2 b
  ·rename_i k xs ys l;cases he;refine ky (κ:= .loc 0) (n':=0) (o₁:=[]) e f ar (fun h=>?_) (fun h=>?_) (by simp only[fk,l]) aw b;all_goals
    exfalso
    simp only[eY.makes]at h
    split at h
    ·rename_i g
     unfold uo at l
     rw[g]at l
     split at l
     ·split at l<;>cases l
     ·rename_i J _;cases J
     ·cases l
    ·cases h
  ·cases he
 |mkmap d key=>simp only[nC]at he;cases he;exact ky (κ:=kv st key) (n':=oK st key) (o₁:=oL st key) e f ar (fun _=>x1 aw) (fun _=>x2) (by simp only[fk]) trivial b
 |mput F x k v=>exact ky (κ:= .loc 0) (n':=0) (o₁:=[]) e f ar (fun h=>by simp[eY.makes]at h) (fun h=>by simp[eY.makes]at h) (by simpa only[nC,fk]using he) aw b
 |range d key x=>
  simp only[nC]at he;split at he
  ·rename_i m g;split at he
   ·rename_i cs t;split at he
    ·rename_i cs' hm;cases he;exact ky (κ:=kv st key) (n':=oK st key) (o₁:=oL st key) e f ar (fun _=>x1 aw) (fun _=>x2) (by simp only[fk,g,t,hm]) trivial b
    ·cases he
   ·cases he
  ·cases he
 |app d sz el x y=>
  simp only[nC]at he;split at he
  ·rename_i E tag xs B A ys g s;split at he
   ·rename_i r;split at he
    ·rename_i k;split at he
     ·rename_i ow u;cases he;refine ky (κ:= .loc 0) (n':=0) (o₁:=[]) e f ar (fun h=>by simp[eY.makes,g]at h) (fun h=>by simp[eY.makes,g]at h) ?_ aw b;simp only[fk,g,s,r,and_self,if_true,u]
     ·cases he
    ·cases he;refine ky (κ:= .loc st.n) (n':=st.n+1) (o₁:=st.o) e f ar (fun _=>p aw.1) (fun _=>q) ?_ aw.2 b;simp only[fk,g,s,r,and_self,if_true]
    ·cases he
   ·cases he
  ·cases he
structure cR where
 b:List (aB×List af)
 e:List (aB×dW)
def fB(ν:bc)(s:cR)(bl:Nat):Prop:=(∃k,(ae k s.b).isSome/\ν.bx k=some bl)\/(∃g n v,(ae g s.e).isSome/\ν.ow g=some (n,v)/\v.ownBlock=some bl)
def pN(ν:bc)(s:cR):Prop:= ∀k,(ae k s.b=none->ν.bx k=none)/\(ae k s.e=none->ν.ow k=none)/\∀j b,¬ν.tr k j b
def cK(s:cR):List aB:=s.b.map (·.1)++s.e.map (·.1)
def hX(s:cR):Prop:=(∀m,ae (.loc m) s.b=none)/\(∀m,ae (.loc m) s.e=none)
def yz(P:cI)(f:FuncId)(bm:Array Value)(w:World)(R:Ending->World->Prop):Prop:=((∃fn,P.funcs[f]? =some fn/\fn.body.isSome=true/\(fn.name== "runtime.NumGoroutine")=false)/\Calls P f bm w R)\/ ∃v w',(callFunc f bm).run P w= .ok (.value v) w'/\R (.returned v) w'
def bG(P:cI)(f:FuncId)(args:List af)(s:cR)(Q:af->cR->Prop):Prop:=
 ∀(w:World) (ν:bc) (bm:Array Value),Good (fB ν s) w ν s.b s.e->pN ν s->c7 w ν args bm.toList->
  yz P f bm w fun e w'=> ∃v r a bn,e= .returned v/\Q r a/\aU w' bn r v/\Good (fun bl=>fB ν s bl\/w.heap.size<=bl) w' bn a.b a.e/\pN bn a/\hX a/\pC ⟨w,ν,fB ν s,0,cK s⟩ w' bn
def A2(κ:bd Nat)(ν:bc)(s:cR):Prop:= ∀k,(ae k s.b=none->ν.bx k=none)/\(ae k s.e=none->ν.ow k=none)/\∀j b,ν.tr k j b->∃m,κ=some m/\k= .loc m
def pN.k{ν:bc}{s:cR}(h:pN ν s):A2 none ν s:=fun k=>⟨(h k).1,(h k).2.1,fun j b a=>absurd a ((h k).2.2 j b)⟩
def uf(P:cI)(f:FuncId)(κ:Nat)(args:List af)(s:cR)(Q:af->cR->Prop):Prop:=
 ∀(w:World) (ν:bc) (bm:Array Value),Good (fB ν s) w ν s.b s.e->pN ν s->c7 w ν args bm.toList->
  yz P f bm w fun e w'=> ∃v r a bn,e= .returned v/\Q r a/\aU w' bn r v/\Good (fun bl=>fB ν s bl\/w.heap.size<=bl) w' bn a.b a.e/\A2 (some κ) bn a/\hX a/\pC ⟨w,ν,fB ν s,0,cK s⟩ w' bn
def bU(P:cI)(f:FuncId)(args:List af)(r:af):Prop:=bG P f args ⟨[],[]⟩ fun a b=>a=r/\b=⟨[],[]⟩
def uY{α:Type}{k:aB}{x:α}:∀{l:List (aB×α)},ae k l=some x->(k,x)∈l
 |[],h=>by simp[ae]at h
 |(i,y)::r,h=>by
  simp only[ae]at h;split at h
  ·rename_i e;subst e;cases h;simp
  ·exact q1 _ (uY h)
def rF{s:cR}{k:aB}(h:(ae k s.b).isSome\/(ae k s.e).isSome):k∈cK s:=by
 unfold cK;rcases h with h|h<;>obtain⟨x,a⟩:=fx.1 h<;>have:=uY a
 ·exact List.mem_append_left _ (gZ.2 ⟨_,this,rfl⟩)
 ·exact List.mem_append_right _ (gZ.2 ⟨_,this,rfl⟩)
section
open Classical
noncomputable def bc.cut(ν:bc)(S:aB->Prop):bc:={A:=ν.A,bx:=fun k=>if S k then ν.bx k else none,ow:=fun k=>if S k then ν.ow k else none,tr:=fun k j b=>S k/\ν.tr k j b}
def bc.cut_bx{ν:bc}{S:aB->Prop}{k:aB}(h:S k):(ν.cut S).bx k=ν.bx k:=by simp[bc.cut,h]
def bc.cut_ow{ν:bc}{S:aB->Prop}{k:aB}(h:S k):(ν.cut S).ow k=ν.ow k:=by simp[bc.cut,h]
def bc.cut_no{ν:bc}{S:aB->Prop}{k:aB}(h:¬S k):(ν.cut S).bx k=none/\(ν.cut S).ow k=none/\∀j b,¬(ν.cut S).tr k j b:=by simp[bc.cut,h]
def bc.cut_some{ν:bc}{S:aB->Prop}{k:aB}{b:Nat}(h:(ν.cut S).bx k=some b):S k/\ν.bx k=some b:=by
 by_cases a:S k
 ·exact⟨a,by rw[bc.cut_bx a]at h;exact h⟩
 ·rw[(bc.cut_no a).1]at h;cases h
def bc.cut_someO{ν:bc}{S:aB->Prop}{k:aB}{b:Nat×Value}(h:(ν.cut S).ow k=some b):S k/\ν.ow k=some b:=by
 by_cases a:S k
 ·exact⟨a,by rw[bc.cut_ow a]at h;exact h⟩
 ·rw[(bc.cut_no a).2.1]at h;cases h
def oX.cut(S:aB->Prop)(w:World)(ν:bc):oX S w ν w (ν.cut S):=⟨fun _ _ h=>⟨h,rfl⟩,fun k b a h=>by rw[bc.cut_bx a];exact h,fun g n u bf h=>⟨n,u,by rw[bc.cut_ow bf];exact h,.inl ⟨rfl,rfl⟩⟩,fun _ _ _=>rfl,fun _ _ _ a h=>⟨a,h⟩⟩
end
def hy(S:aB->Prop)(b2 b:List (aB×List af)):Prop:= ∀k cs,ae k b2=some cs->ae k b=some cs/\S k/\aH S cs
def p9(S:aB->Prop)(a e:List (aB×dW)):Prop:= ∀k o,ae k a=some o->ae k e=some o/\S k/\dV S o
def Good.cut{pr F:Nat->Prop}{w:World}{ν:bc}{b b2:List (aB×List af)}{e m:List (aB×dW)}(h:Good pr w ν b e){S:aB->Prop}(B:hy S b2 b)(he:p9 S m e)
  (E:∀bl,pr bl->(∃k,(ae k b2).isSome/\(ν.cut S).bx k=some bl)\/(∃g n v,(ae g m).isSome/\(ν.cut S).ow g=some (n,v)/\v.ownBlock=some bl)->F bl):Good F w (ν.cut S) b2 m:=by
 have l:∀k,(ae k b2).isSome->(ae k b).isSome/\S k:=fun k c=>by obtain⟨cs,s⟩:=fx.1 c;have:=B k cs s;exact⟨by simp[this.1],this.2.1⟩
 have q:∀k,(ae k m).isSome->(ae k e).isSome/\S k:=fun k c=>by obtain⟨cs,s⟩:=fx.1 c;have:=he k cs s;exact⟨by simp[this.1],this.2.1⟩
 refine⟨h.alt,fun k cs c=>?_,fun k bs bl J U f i=>?_,fun g o bf=>?_,fun g z n n' v v' bl J U f i t G=>?_,fun g k n v bl J U f i t=>?_,fun k=>?_,fun bl K k j H=>?_⟩
 ·obtain⟨g1,g2,g3⟩:=B k cs c;obtain⟨bl,us,el,f1,f2,f3,f4,f5⟩:=h.box k cs g1;have y:(ν.cut S).bx k=some bl:=by rw[bc.cut_bx g2];exact f1
  exact⟨bl,us,el,y,E bl f2 (.inl ⟨k,by simp[c],y⟩),f3,f4,PW (oX.cut S w ν) g3 f5⟩
 ·obtain⟨a,a2⟩:=l k J;obtain⟨d,A⟩:=l bs U;exact h.inj k bs bl a d (bc.cut_some f).2 (bc.cut_some i).2
 ·obtain⟨g1,g2,g3⟩:=he g o bf;obtain⟨v,us,f1,f2,f3,f4⟩:=h.own g o g1;have x:(ν.cut S).ow g=some (o.n,v):=by rw[bc.cut_ow g2];exact f1
  exact⟨v,us,x,f2,fun bl r=>⟨E bl (f3 bl r).1 (.inr ⟨g,o.n,v,by simp[bf],x,r⟩),(f3 bl r).2⟩,
   fun xs p=>⟨(f4 xs p).1,Jz (oX.cut S w ν) _ _ _ (g3 xs p) (f4 xs p).2.1,(f4 xs p).2.2⟩⟩
 ·obtain⟨a,a2⟩:=q g J;obtain⟨d,A⟩:=q z U;exact h.oinj g z n n' v v' bl a d (bc.cut_someO f).2 (bc.cut_someO i).2 t G
 ·obtain⟨a,a2⟩:=q g J;obtain⟨d,A⟩:=l k U;exact h.obx g k n v bl a d (bc.cut_someO f).2 i (bc.cut_some t).2
 ·by_cases u:S k
  ·rw[bc.cut_bx u,bc.cut_ow u];exact h.one k
  ·exact .inl (bc.cut_no u).1
 ·refine h.otr bl ?_ k j H.2;rcases K with⟨bs,a,a2⟩|⟨g,n,v,a,a2,a3⟩
  ·exact .inl ⟨bs,(l bs a).1,(bc.cut_some a2).2⟩
  ·exact .inr ⟨g,n,v,(q g a).1,(bc.cut_someO a2).2,a3⟩
structure gn (ob:List aB) (st st':bp):Prop where
 t:∀x∈st'.t,get x.1 st.t=x.2/\az (fun k=> ¬fresh st'.n st'.o k) x.2
 b:hy (fun k=> ¬fresh st'.n st'.o k) st'.b st.b
 e:p9 (fun k=> ¬fresh st'.n st'.o k) st'.e st.e
 o:∀m∈ob,m∈st'.o
def VS:∀(i:Nat) (l:List (Nat×af)),get i l= .junk\/(i,get i l)∈l
 |_,[]=>.inl rfl
 |i,(j,p)::r=>by
  by_cases h:j=i
  ·subst h;right;simp[get]
  ·rcases VS i r with J|J
   ·left;simp[get,h,J]
   ·right;simp[get,h];right;exact J
def c9.weaker{C:fm}{st st':bp}{a:Act}{w:World}{ν:bc}(h:c9 C st a w ν)(hw:gn C.ob st st'):c9 C st' a w (ν.cut fun k=> ¬fresh st'.n st'.o k):=by
 refine⟨h.good.cut hw.b hw.e (fun bl e _=>e),⟨h.fr.os,h.fr.tape,h.fr.output,h.fr.size,h.fr.block,h.fr.keep,h.fr.fresh,fun n b c=>?_,h.fr.obn,fun m n u hm=>?_,h.fr.obr,fun k j bs dh b J U=>h.fr.trd k j bs dh b J.2 U.2,fun k j b c=>h.fr.trb k j b c.2,fun k j b c=>?_,h.fr.sh⟩,h.defers,h.size,fun i=>?_,fun k g=>bc.cut_no (fun l=>l g)⟩
 ·rw[bc.cut_bx (fun d=>d.2 (hw.o _ (h.fr.obn n b c)))];exact h.fr.obj n b c
 ·rw[bc.cut_ow (fun d=>d.2 (hw.o _ (h.fr.obr m n u hm)))];exact h.fr.row m n u hm
 ·rw[bc.cut_bx c.1,bc.cut_ow c.1];exact h.fr.trn k j b c.2
 ·rcases VS i st'.t with f|hm
  ·rw[f];simp[aU]
  ·obtain⟨J,U⟩:=hw.t _ hm;simp only at J;have:=h.slot i;rw[J]at this;exact vb (oX.cut _ w ν) _ _ U this
mutual
def b5:af->af
 | .slice sz _ xs=>.slice sz .no (cf xs)
 | .agg cs=>.agg (cf cs)
 | .tuple bm=>.tuple (cf bm)
 | .eptr x=>.eptr (b5 x)
 | .iface t x=>.iface t (b5 x)
 | .func f dH=>.func f (cf dH)
 |p=>p
def cf:List af->List af
 |[]=>[]
 |x::xs=>b5 x::cf xs
end
def nF:∀xs,(cf xs).length=xs.length
 |[]=>rfl
 |x::xs=>by simp[cf,nF xs]
mutual
def Hr{t:Bool}{w:World}{A:Nat->Nat->Prop}:∀(p:af) (F:Nat->Prop) (v:Value),cY t w A F p v->cY t w A F (b5 p) v
 | .int _ _,_,_,h=>by simpa only[b5]using h
 | .bool _,_,_,h=>by simpa only[b5]using h
 | .str _,_,_,h=>by simpa only[b5]using h
 | .slice sz tag xs,F,v,h=>by
  simp only[cY,b5]at h⊢;obtain⟨a,cap,J,U,g,j⟩:=h;refine⟨a,cap,by rw[nF];exact J,by rw[nF];exact U,by rw[nF];exact g,?_⟩;rcases j with rfl|⟨b,off,us,G,i,k,e,f,d,c⟩
  ·exact .inl rfl
  ·exact .inr ⟨b,off,us,G,i,k,e,f,d,Vy sz xs G us c⟩
 | .agg cs,F,v,h=>by simp only[cY,b5]at h⊢;obtain⟨us,J,U⟩:=h;exact⟨us,J,Vz cs F _ U⟩
 | .junk,_,_,h=>by simp[cY]at h
 | .ptr _ _,_,_,h=>by simp[cY]at h
 | .eptr _,_,_,h=>by simp[cY]at h
 | .iface _ _,_,_,h=>by simp[cY]at h
 | .nilp,_,_,h=>by simp[cY]at h
 | .tuple _,_,_,h=>by simp[cY]at h
 | .func _ _,_,_,h=>by simp[cY]at h
 | .gmap _,_,_,h=>by simp[cY]at h
 | .row _ _ _,_,_,h=>by simp[cY]at h
 | .rptr _ _ _ _ _,_,_,h=>by simp[cY]at h
 | .hdm _ _,_,_,h=>by simp[cY]at h
 | .hdi _ _ _,_,_,h=>by simp[cY]at h
 | .cst _,_,_,h=>by simp[cY]at h
def Vz{t:Bool}{w:World}{A:Nat->Nat->Prop}:∀(cs:List af) (F:Nat->Prop) (us:List Value),kE t w A F cs us->kE t w A F (cf cs) us
 |[],_,_,h=>by simpa only[cf]using h
 |c::cs,F,us,h=>by simp only[kE,cf]at h⊢;obtain⟨u,d,b,a,J,U,⟨g,f⟩,e⟩:=h;exact⟨u,d,b,a,J,U,⟨Hr c b u g,f⟩,Vz cs a d e⟩
def Vy{t:Bool}{w:World}{A:Nat->Nat->Prop}(sz:Nat):∀(cs:List af) (F:Nat->Prop) (us:List Value),jX t w A F sz cs us->jX t w A F sz (cf cs) us
 |[],_,_,h=>by simpa only[cf]using h
 |c::cs,F,us,h=>by simp only[jX,cf]at h⊢;obtain⟨u,d,b,a,J,U,⟨g,f⟩,e⟩:=h;exact⟨u,d,b,a,J,U,⟨Hr c b u g,f⟩,Vy sz cs a d e⟩
end
def DP{t:Bool}{w:World}{A:Nat->Nat->Prop}{F:Nat->Prop}{sz:Nat}{tag:jF}(a:jF){xs:List af}(v:Value)(h:cY t w A F (.slice sz tag xs) v):cY t w A F (.slice sz a (cf xs)) v:=by have:=Hr _ F v h;simp only[b5,cY]at this⊢;exact this
mutual
def yg{w:World}{ν:bc}:∀(p:af) (v:Value),aU w ν p v->aU w ν (b5 p) v
 | .junk,_,h=>by simpa only[b5]using h
 | .int k n,_,h=>by simpa only[b5]using h
 | .bool b,_,h=>by simpa only[b5]using h
 | .str s,_,h=>by simpa only[b5]using h
 | .slice sz tag xs,v,h=>by
  simp only[aU,b5]at h⊢;obtain⟨⟨a,cap,J,U,c,d⟩,l,i⟩:=h;refine⟨⟨a,cap,by rw[nF];exact J,by rw[nF];exact U,by rw[nF];exact c,?_⟩,fun e=>(by cases e),fun g e=>(by cases e),fun _ _ e=>(by cases e),fun _ e=>(by cases e)⟩;rcases d with rfl|⟨b,off,us,d,i,j⟩
  ·exact .inl rfl
  ·exact .inr ⟨b,off,us,d,i,aba sz xs us j⟩
 | .agg cs,v,h=>by simp only[aU,b5]at h⊢;obtain⟨us,J,U⟩:=h;exact⟨us,J,abe cs _ U⟩
 | .ptr key off,v,h=>by simpa only[b5]using h
 | .iface t x,v,h=>by simp only[aU,b5]at h⊢;obtain⟨u,J,U⟩:=h;exact⟨u,J,yg x u U⟩
 | .eptr x,v,h=>by simp only[aU,b5]at h⊢;obtain⟨b,off,u,J,U,c⟩:=h;exact⟨b,off,u,J,yg x u U,c⟩
 | .nilp,_,h=>by simpa only[b5]using h
 | .tuple bm,v,h=>by simp only[aU,b5]at h⊢;obtain⟨us,J,U⟩:=h;exact⟨us,J,JE bm _ U⟩
 | .func f dH,v,h=>by simp only[aU,b5]at h⊢;obtain⟨us,J,U⟩:=h;exact⟨us,J,JE dH _ U⟩
 | .gmap key,v,h=>by simpa only[b5]using h
 | .row _ _ _,v,h=>by simpa only[b5]using h
 | .rptr _ _ _ _ _,v,h=>by simpa only[b5]using h
 | .cst _,v,h=>by simpa only[b5]using h
def abe{w:World}{ν:bc}:∀(cs:List af) (us:List Value),cW w ν cs us->cW w ν (cf cs) us
 |[],_,h=>by simpa only[cf]using h
 |c::cs,us,h=>by simp only[cW,cf]at h⊢;obtain⟨u,a,J,U,b⟩:=h;exact⟨u,a,J,⟨yg c u U.1,U.2⟩,abe cs a b⟩
def JE{w:World}{ν:bc}:∀(cs:List af) (us:List Value),c7 w ν cs us->c7 w ν (cf cs) us
 |[],_,h=>by simpa only[cf]using h
 |c::cs,us,h=>by simp only[c7,cf]at h⊢;obtain⟨u,a,J,U,b⟩:=h;exact⟨u,a,J,yg c u U,JE cs a b⟩
def aba{w:World}{ν:bc}(sz:Nat):∀(xs:List af) (us:List Value),dw w ν sz xs us->dw w ν sz (cf xs) us
 |[],_,h=>by simpa only[cf]using h
 |x::xs,us,h=>by simp only[dw,cf]at h⊢;obtain⟨u,a,J,⟨U,c,d⟩,b⟩:=h;exact⟨u,a,J,⟨yg x u U,c,d⟩,aba sz xs a b⟩
end
def aM(s:cR)(k:aB):Prop:=(ae k s.b).isSome=true\/(ae k s.e).isSome=true
def cL{α β:Type}(s:List (aB×β)):List (aB×α)->List (aB×α)
 |[]=>[]
 |(k,x)::r=>match ae k s with
  |some _=>cL s r
  |none=>(k,x)::cL s r
def tG{α β:Type}(s:List (aB×β))(k:aB):∀l:List (aB×α),ae k (cL s l)=if(ae k s).isSome then none else ae k l
 |[]=>by simp[cL,ae]
 |(i,x)::r=>by
  simp only[cL];by_cases e:i=k
  ·subst e;cases h:ae i s with
   |some y=>simp[tG s i r,h]
   |none=>simp[ae]
  ·cases h:ae i s with
   |some y=>simp[tG s k r,ae,e]
   |none=>simp[ae,e,tG s k r]
def n4{α:Type}(k:aB):∀l a:List (aB×α),ae k (l++a)=match ae k l with|some x=>some x|none=>ae k a
 |[],a=>by simp[ae]
 |(i,x)::r,a=>by
  by_cases e:i=k
  ·simp[ae,e]
  ·simp[ae,e,n4 k r a]
def after(st:bp)(s a:cR)(d:bd Nat)(r:af):bp:={t:=e5 d r st.t,b:=cL s.b st.b++a.b,e:=cL s.e st.e++a.e,n:=st.n,o:=st.o++cK a}
section
open Classical
noncomputable def bc.join(ν bn:bc)(s a:cR):bc:={A:=bn.A,bx:=fun k=>if(ae k s.b).isSome\/(ae k a.b).isSome then bn.bx k else ν.bx k,ow:=fun k=>if(ae k s.e).isSome\/(ae k a.e).isSome then bn.ow k else ν.ow k,tr:=fun k j b=>ν.tr k j b\/bn.tr k j b}
end
def c9.callK{C:fm}{st:bp}{a:Act}{w w':World}{ν bn:bc}(h:c9 C st a w ν){s f:cR}(E:hy (aM s) s.b st.b)(he:p9 (aM s) s.e st.e)(rn:hX s)
  (bf:Good (fun bl=>fB (ν.cut (aM s)) s bl\/w.heap.size<=bl) w' bn f.b f.e) {κ:bd Nat} (Y:A2 κ bn f) (alm:∀m,κ=some m->ν.bx (.loc m)=none/\ν.ow (.loc m)=none/\∀j b,¬ν.tr (.loc m) j b) {n':Nat} {o':List aB} (dB:∀k,fresh n' o' k->fresh st.n (st.o++cK f) k/\∀m,κ=some m->k≠ .loc m) (Q:hX f) (F:pC ⟨w,ν.cut (aM s),fB (ν.cut (aM s)) s,0,cK s⟩ w' bn)
  (M2:∀m,(ae (.obj m) f.b).isSome->(ae (.obj m) s.b).isSome\/ .obj m∉st.o) (cv:∀m,(ae (.obj m) f.e).isSome->(ae (.obj m) s.e).isSome\/ .obj m∉st.o) (d:bd Nat) (aL:j8 C.N d=true) {r:af} {v:Value} (aI:aU w' bn r v):
  c9 C {after st s f d r with n:=n',o:=o'} (a.put d v) w' (ν.join bn s f):=by
 have V:∀k,(ae k s.b).isSome->(ae k st.b).isSome:=fun k c=>by obtain⟨cs,y⟩:=fx.1 c;simp[(E k cs y).1]
 have W:∀k,(ae k s.e).isSome->(ae k st.e).isSome:=fun k c=>by obtain⟨cs,y⟩:=fx.1 c;simp[(he k cs y).1]
 have akH:∀k,(ae k f.b).isSome->¬(ae k s.b).isSome->ν.bx k=none:=fun k c aA=>by
  cases k with
  |loc m=>rw[Q.1 m]at c;cases c
  |obj m=>exact(h.new (.obj m) ⟨trivial,(M2 m c).resolve_left aA⟩).1
 have akI:∀k,(ae k f.e).isSome->¬(ae k s.e).isSome->ν.ow k=none:=fun k c aA=>by
  cases k with
  |loc m=>rw[Q.2 m]at c;cases c
  |obj m=>exact(h.new (.obj m) ⟨trivial,(cv m c).resolve_left aA⟩).2.1
 have alR:∀k,(ae k s.b).isSome->(ν.join bn s f).bx k=bn.bx k:=fun k c=>by simp[bc.join,c]
 have Xp:∀k,(ae k f.b).isSome->(ν.join bn s f).bx k=bn.bx k:=fun k c=>by simp[bc.join,c]
 have Xq:∀k,ν.bx k≠none->¬(ae k s.b).isSome->(ν.join bn s f).bx k=ν.bx k:=fun k J U=>by have z:¬(ae k f.b).isSome:=fun z=>J (akH k z U);simp[bc.join,U,z]
 have alS:∀k,(ae k s.e).isSome->(ν.join bn s f).ow k=bn.ow k:=fun k c=>by simp[bc.join,c]
 have NN:∀k,(ae k f.e).isSome->(ν.join bn s f).ow k=bn.ow k:=fun k c=>by simp[bc.join,c]
 have NO:∀k,ν.ow k≠none->¬(ae k s.e).isSome->(ν.join bn s f).ow k=ν.ow k:=fun k J U=>by have z:¬(ae k f.e).isSome:=fun z=>J (akI k z U);simp[bc.join,U,z]
 have ac7:∀k b,bn.bx k=some b->(ae k f.b).isSome:=fun k b c=>by
  cases S:ae k f.b with
  |some _=>rfl
  |none=>rw[(Y k).1 S]at c;cases c
 have ac8:∀k b,bn.ow k=some b->(ae k f.e).isSome:=fun k b c=>by
  cases S:ae k f.e with
  |some _=>rfl
  |none=>rw[(Y k).2.1 S]at c;cases c
 have ar:mx w ν w' (ν.join bn s f):=by
  refine⟨fun b o N=>F.keep b o N,fun k b _ c=>?_,fun g n u _ bf=>?_,fun b o N=>F.sh b o N,fun _ _ _ _ h=>.inl h⟩
  ·by_cases B:(ae k s.b).isSome
   ·rw[alR k B];cases k with
    |loc m=>rw[rn.1 m]at B;cases B
    |obj m=>exact F.obj m b (by rw[bc.cut_bx (.inl B)];exact c)
   ·rw[Xq k (by rw[c];simp) B];exact c
  ·by_cases B:(ae g s.e).isSome
   ·rw[alS g B];cases g with
    |loc m=>rw[rn.2 m]at B;cases B
    |obj m=>exact F.row m n u (by rw[bc.cut_ow (.inr B)];exact bf)
   ·rw[NO g (by rw[bf];simp) B];exact⟨n,u,bf,.inl ⟨rfl,rfl⟩⟩
 have h8:mx w' bn w' (ν.join bn s f):=⟨fun b o N=>⟨N,rfl⟩,fun k b _ c=>by rw[Xp k (ac7 k b c)];exact c,fun g n u _ c=>⟨n,u,by rw[NN g (ac8 g _ c)];exact c,.inl ⟨rfl,rfl⟩⟩,fun _ _ _=>rfl,fun _ _ _ _ h=>.inr h⟩
 have pR:∀bl,fB (ν.cut (aM s)) s bl->C.pr bl/\bl<w.heap.size:=by
  intro bl G;rcases G with⟨k,J,U⟩|⟨g,n,u,J,U,z⟩
  ·have A:=(bc.cut_some U).2;obtain⟨cs,y⟩:=fx.1 (V k J);obtain⟨L,us,el,g1,g2,_⟩:=h.good.box k cs y;rw[A]at g1;cases g1;exact⟨g2,h.good.boxLt y A⟩
  ·have A:=(bc.cut_someO U).2;obtain⟨o,HS⟩:=fx.1 (W g J);obtain⟨v',us,g1,g2,g3,_⟩:=h.good.own g o HS;rw[A]at g1;cases g1;exact⟨(g3 bl z).1,h.good.ownLt HS A z⟩
 have WS:∀bl,fB (ν.cut (aM s)) s bl\/w.heap.size<=bl->C.pr bl:=fun bl G=>by
  rcases G with G|G
  ·exact(pR bl G).1
  ·exact .inr (kD h.fr.size G)
 have ak3:∀k cs bl,ae k st.b=some cs->¬(ae k s.b).isSome->ν.bx k=some bl->¬fB (ν.cut (aM s)) s bl:=by
  intro k cs bl J U z A;rcases A with⟨bs,l,a2⟩|⟨g,n,u,l,a2,a3⟩
  ·have:=h.good.inj k bs bl (by simp[J]) (V bs l) z (bc.cut_some a2).2;subst this;exact U l
  ·exact h.good.obx g k n u bl (W g l) (by simp[J]) (bc.cut_someO a2).2 a3 z
 have ak4:∀g o n u bl,ae g st.e=some o->¬(ae g s.e).isSome->ν.ow g=some (n,u)->u.ownBlock=some bl->¬fB (ν.cut (aM s)) s bl:=by
  intro g o n u bl J U z A H;rcases H with⟨bs,l,a2⟩|⟨X,n',eJ,l,a2,a3⟩
  ·exact h.good.obx g bs n u bl (by simp[J]) (V bs l) z A (bc.cut_some a2).2
  ·have:=h.good.oinj g X n n' u eJ bl (by simp[J]) (W X l) z (bc.cut_someO a2).2 A a3;subst this;exact U l
 have TZ:∀k cs,ae k (cL s.b st.b++f.b)=some cs->(¬(ae k s.b).isSome/\ae k st.b=some cs)\/ae k f.b=some cs:=by
  intro k cs c;rw[n4,tG]at c;by_cases B:(ae k s.b).isSome
  ·simp only[B,if_true]at c;exact .inr c
  ·simp only[B]at c;cases S:ae k st.b with
   |some x=>simp[S]at c;subst c;exact .inl ⟨B,rfl⟩
   |none=>simp[S]at c;exact .inr c
 have T0:∀k cs,ae k (cL s.e st.e++f.e)=some cs->(¬(ae k s.e).isSome/\ae k st.e=some cs)\/ae k f.e=some cs:=by
  intro k cs c;rw[n4,tG]at c;by_cases B:(ae k s.e).isSome
  ·simp only[B,if_true]at c;exact .inr c
  ·simp only[B]at c;cases S:ae k st.e with
   |some x=>simp[S]at c;subst c;exact .inl ⟨B,rfl⟩
   |none=>simp[S]at c;exact .inr c
 have CM:∀bl,fB (ν.cut (aM s)) s bl\/w.heap.size<=bl->∀L,L<w.heap.size->¬fB (ν.cut (aM s)) s L->bl≠L:=by
  intro bl J L U z e;subst e;rcases J with J|J
  ·exact z J
  ·omega
 have NS:∀bl,bl<w.heap.size->¬fB (ν.cut (aM s)) s bl->w'.heap[bl]? =w.heap[bl]?:=fun bl J U=>F.block bl J U;have isB:∀k bl,(ae k (cL s.b st.b++f.b)).isSome->(ν.join bn s f).bx k=some bl->(¬(ae k s.b).isSome/\(ae k st.b).isSome/\ν.bx k=some bl)\/((ae k f.b).isSome/\bn.bx k=some bl):=by
  intro k bl c M;obtain⟨cs,y⟩:=fx.1 c;rcases TZ k cs y with⟨J,U⟩|J
  ·obtain⟨L,us,el,g1,_⟩:=h.good.box k cs U;rw[Xq k (by rw[g1];simp) J]at M;exact .inl ⟨J,by simp[U],M⟩
  ·rw[Xp k (by simp[J])]at M;exact .inr ⟨by simp[J],M⟩
 have Ic:∀k x,(ae k (cL s.e st.e++f.e)).isSome->(ν.join bn s f).ow k=some x->(¬(ae k s.e).isSome/\(ae k st.e).isSome/\ν.ow k=some x)\/((ae k f.e).isSome/\bn.ow k=some x):=by
  intro k x c M;obtain⟨cs,y⟩:=fx.1 c;rcases T0 k cs y with⟨J,U⟩|J
  ·obtain⟨v',us,g1,_⟩:=h.good.own k cs U;rw[NO k (by rw[g1];simp) J]at M;exact .inl ⟨J,by simp[U],M⟩
  ·rw[NN k (by simp[J])]at M;exact .inr ⟨by simp[J],M⟩
 have Dk:∀k bl,¬(ae k s.b).isSome->(ae k st.b).isSome->ν.bx k=some bl->bl<w.heap.size/\¬fB (ν.cut (aM s)) s bl:=by intro k bl J U z;obtain⟨cs,y⟩:=fx.1 U;exact⟨h.good.boxLt y z,ak3 k cs bl y J z⟩
 have Z:∀k n u bl,¬(ae k s.e).isSome->(ae k st.e).isSome->ν.ow k=some (n,u)->u.ownBlock=some bl->bl<w.heap.size/\¬fB (ν.cut (aM s)) s bl:=by intro k n u bl J U z A;obtain⟨cs,y⟩:=fx.1 U;exact⟨h.good.ownLt y z A,ak4 k cs n u bl y J z A⟩
 have Gy:∀k bl,(ae k f.b).isSome->bn.bx k=some bl->fB (ν.cut (aM s)) s bl\/w.heap.size<=bl:=by intro k bl J U;obtain⟨cs,y⟩:=fx.1 J;obtain⟨L,us,el,g1,g2,_⟩:=bf.box k cs y;rw[U]at g1;cases g1;exact g2
 have JJ:∀k n u bl,(ae k f.e).isSome->bn.ow k=some (n,u)->u.ownBlock=some bl->fB (ν.cut (aM s)) s bl\/w.heap.size<=bl:=by intro k n u bl J U z;obtain⟨cs,y⟩:=fx.1 J;obtain⟨v',us,g1,g2,g3,_⟩:=bf.own k cs y;rw[U]at g1;cases g1;exact(g3 bl z).1
 have N:∀bl o,bn.A bl o->bl<w.heap.size->¬fB (ν.cut (aM s)) s bl->ν.A bl o:=by
  intro bl o J U z;rcases F.fresh bl o J with A|A|A
  ·exact A
  ·exact absurd A z
  ·simp only at A;omega
 have pV:c9 C {t:=st.t,b:=cL s.b st.b++f.b,e:=cL s.e st.e++f.e,n:=n',o:=o'} a w' (ν.join bn s f):=by
  refine h.over ar rfl ⟨bf.alt,fun k cs c=>?_,fun k bs bl J U z A=>?_,fun g o fu=>?_,fun g X n n' u eJ bl J U z A H di=>?_,fun g k n u bl J U z A H=>?_,fun k=>?_,fun bl aJ k j hM=>?_⟩
   ⟨F.os.trans h.fr.os,F.tape.trans h.fr.tape,F.output.trans h.fr.output,kD h.fr.size F.size,fun k c hm=>?_,fun b o R=>?_,fun b o R=>?_,fun n b aA=>ar.bx _ _ trivial (h.fr.obj n b aA),h.fr.obn,
    fun m n u hm=>Fz (h.fr.row m n u hm) (fun n u=>ar.ow _ n u trivial),h.fr.obr,fun k j bs dh b J U=>?_,fun k j b E=>?_,fun k j b E=>?_,fun b o N=>(ar.sh b o (h.fr.keep b o N).1).trans (h.fr.sh b o N)⟩ (fun k c=>?_)
  ·rcases TZ k cs c with⟨J,U⟩|J
   ·obtain⟨bl,us,el,g1,g2,g3,g4,g5⟩:=h.good.box k cs U;obtain⟨p,q⟩:=Dk k bl J (by simp[U]) g1;exact⟨bl,us,el,ar.bx _ _ trivial g1,g2,fun o R=>g3 o (N bl o R p q),by rw[NS bl p q];exact g4,rI ar g5⟩
   ·obtain⟨bl,us,el,g1,g2,g3,g4,g5⟩:=bf.box k cs J;exact⟨bl,us,el,h8.bx _ _ trivial g1,WS bl g2,g3,g4,rI h8 g5⟩
  ·rcases isB k bl J z with⟨l,a2,a3⟩|⟨l,a2⟩<;>rcases isB bs bl U A with⟨p,q,K⟩|⟨p,q⟩
   ·exact h.good.inj k bs bl a2 q a3 K
   ·obtain⟨P,O⟩:=Dk k bl l a2 a3;exact absurd rfl (CM bl (Gy bs bl p q) bl P O)
   ·obtain⟨P,O⟩:=Dk bs bl p q K;exact absurd rfl (CM bl (Gy k bl l a2) bl P O)
   ·exact bf.inj k bs bl l p a2 q
  ·rcases T0 g o fu with⟨J,U⟩|J
   ·obtain⟨u,us,g1,g2,g3,g4⟩:=h.good.own g o U;refine⟨u,us,by rw[NO g (by rw[g1];simp) J];exact g1,⟨g2.1,?_⟩,fun bl G=>?_,tU ar (fun bl G j R=>?_) g4⟩
    ·rcases g2.2 with aC|⟨bb,cap,cur,f1,f2,f3,f4⟩
     ·exact .inl aC
     ·obtain⟨p,q⟩:=Z g _ u bb J (by simp[U]) g1 (by rw[f1];rfl);exact .inr ⟨bb,cap,cur,f1,f2,by rw[NS bb p q];exact f3,f4⟩
    ·obtain⟨p,q⟩:=Z g _ u bl J (by simp[U]) g1 G;exact⟨(g3 bl G).1,fun j R=>(g3 bl G).2 j (N bl j R p q)⟩
    ·obtain⟨p,q⟩:=Z g _ u bl J (by simp[U]) g1 G;exact N bl j R p q
   ·obtain⟨u,us,g1,g2,g3,g4⟩:=bf.own g o J;exact⟨u,us,by rw[NN g (by simp[J])];exact g1,g2,fun bl G=>⟨WS bl (g3 bl G).1,(g3 bl G).2⟩,tU h8 (fun _ _ _ h=>h) g4⟩
  ·rcases Ic g _ J z with⟨l,a2,a3⟩|⟨l,a2⟩<;>rcases Ic X _ U A with⟨p,q,K⟩|⟨p,q⟩
   ·exact h.good.oinj g X n n' u eJ bl a2 q a3 K H di
   ·obtain⟨P,O⟩:=Z g n u bl l a2 a3 H;exact absurd rfl (CM bl (JJ X n' eJ bl p q di) bl P O)
   ·obtain⟨P,O⟩:=Z X n' eJ bl p q K di;exact absurd rfl (CM bl (JJ g n u bl l a2 H) bl P O)
   ·exact bf.oinj g X n n' u eJ bl l p a2 q H di
  ·rcases Ic g _ J z with⟨l,a2,a3⟩|⟨l,a2⟩<;>rcases isB k bl U H with⟨p,q,K⟩|⟨p,q⟩
   ·exact h.good.obx g k n u bl a2 q a3 A K
   ·obtain⟨P,O⟩:=Z g n u bl l a2 a3 A;exact absurd rfl (CM bl (Gy k bl p q) bl P O)
   ·obtain⟨P,O⟩:=Dk k bl p q K;exact absurd rfl (CM bl (JJ g n u bl l a2 A) bl P O)
   ·exact bf.obx g k n u bl l p a2 A q
  ·
   cases M:(ν.join bn s f).bx k with
   |none=>exact .inl rfl
   |some bl=>
    right;cases sg:(ν.join bn s f).ow k with
    |none=>rfl
    |some x=>
     exfalso;have ao:(ν.bx k=some bl/\¬(ae k s.b).isSome/\¬(ae k f.b).isSome)\/bn.bx k=some bl:=by
      by_cases B:(ae k s.b).isSome\/(ae k f.b).isSome
      ·right;simpa[bc.join,B]using M
      ·left;simp only[not_or]at B;exact⟨by simpa[bc.join,B.1,B.2]using M,B.1,B.2⟩
     have aC:(ν.ow k=some x/\¬(ae k s.e).isSome/\¬(ae k f.e).isSome)\/bn.ow k=some x:=by
      by_cases B:(ae k s.e).isSome\/(ae k f.e).isSome
      ·right;simpa[bc.join,B]using sg
      ·left;simp only[not_or]at B;exact⟨by simpa[bc.join,B.1,B.2]using sg,B.1,B.2⟩
     rcases ao with⟨l,a2,a3⟩|l<;>rcases aC with⟨p,q,K⟩|p
     ·rcases h.good.one k with i|i
      ·rw[i]at l;cases l
      ·rw[i]at p;cases p
     ·have vZ:=ac8 k x p;have ga:(ae k s.e).isSome:=by
       cases k with
       |loc m=>rw[Q.2 m]at vZ;cases vZ
       |obj m=>
        rcases cv m vZ with i|i
        ·exact i
        ·rw[(h.new (.obj m) ⟨trivial,i⟩).1]at l;cases l
      obtain⟨o,HS⟩:=fx.1 (W k ga);obtain⟨v',us,g1,_⟩:=h.good.own k o HS;rcases h.good.one k with i|i
      ·rw[i]at l;cases l
      ·rw[i]at g1;cases g1
     ·have zk:=ac7 k bl l;have ga:(ae k s.b).isSome:=by
       cases k with
       |loc m=>rw[Q.1 m]at zk;cases zk
       |obj m=>
        rcases M2 m zk with i|i
        ·exact i
        ·rw[(h.new (.obj m) ⟨trivial,i⟩).2.1]at p;cases p
      obtain⟨cs,y⟩:=fx.1 (V k ga);obtain⟨L,us,el,g1,_⟩:=h.good.box k cs y;rcases h.good.one k with i|i
      ·rw[i]at g1;cases g1
      ·rw[i]at p;cases p
     ·rcases bf.one k with i|i
      ·rw[i]at l;cases l
      ·rw[i]at p;cases p
  ·have WG:∀k j,bn.tr k j bl->w.heap.size<=bl:=fun k j i=>by
    rcases(F.trb k j bl i).1 with a2|a2
    ·obtain⟨m,_,hm⟩:=(Y k).2.2 j bl i;rw[hm]at a2;cases a2
    ·exact a2
   have hold:fB (ν.cut (aM s)) s bl->¬ν.tr k j bl:=by
    rintro(⟨bs,l,a2⟩|⟨g,n,u,l,a2,a3⟩) i
    ·exact h.good.otr bl (.inl ⟨bs,V bs l,(bc.cut_some a2).2⟩) k j i
    ·exact h.good.otr bl (.inr ⟨g,n,u,W g l,(bc.cut_someO a2).2,a3⟩) k j i
   have jY:fB (ν.cut (aM s)) s bl\/w.heap.size<=bl->¬ν.tr k j bl:=by
    rintro(J|J) i
    ·exact hold J i
    ·have:=(h.fr.trb k j bl i).2;omega
   rcases aJ with⟨bs,l,a2⟩|⟨g,n,u,l,a2,a3⟩
   ·rcases isB bs bl l a2 with⟨p,q,K⟩|⟨p,q⟩
    ·rcases hM with hM|hM
     ·exact h.good.otr bl (.inl ⟨bs,q,K⟩) k j hM
     ·have:=(Dk bs bl p q K).1;have:=WG k j hM;omega
    ·rcases hM with hM|hM
     ·exact jY (Gy bs bl p q) hM
     ·exact bf.otr bl (.inl ⟨bs,p,q⟩) k j hM
   ·rcases Ic g _ l a2 with⟨p,q,K⟩|⟨p,q⟩
    ·rcases hM with hM|hM
     ·exact h.good.otr bl (.inr ⟨g,n,u,q,K,a3⟩) k j hM
     ·have:=(Z g n u bl p q K a3).1;have:=WG k j hM;omega
    ·rcases hM with hM|hM
     ·exact jY (JJ g n u bl p q a3) hM
     ·exact bf.otr bl (.inr ⟨g,n,u,p,q,a3⟩) k j hM
  ·have bO:k<w.heap.size:=Nat.lt_of_lt_of_le c h.fr.size;rw[NS k bO fun G=>by
    rcases(pR k G).1 with J|J
    ·exact hm J
    ·omega]
   exact h.fr.block k c hm
  ·obtain⟨a7,bK⟩:=h.fr.keep b o R;obtain⟨cp,eD⟩:=F.keep b o a7;exact⟨cp,eD.trans bK⟩
  ·rcases F.fresh b o R with A|A|A
   ·exact h.fr.fresh b o A
   ·exact .inr (pR b A).1
   ·exact .inr (.inr (kD h.fr.size A))
  ·rcases J with J|J<;>rcases U with U|U
   ·exact h.fr.trd k j bs dh b J U
   ·have l:=(h.fr.trb k j b J).2;have a2:=(F.trb bs dh b U).1;rcases a2 with a2|a2
    ·obtain⟨m,_,hm⟩:=(Y bs).2.2 dh b U;rw[hm]at a2;cases a2
    ·simp only at a2;omega
   ·have l:=(h.fr.trb bs dh b U).2;have a2:=(F.trb k j b J).1;rcases a2 with a2|a2
    ·obtain⟨m,_,hm⟩:=(Y k).2.2 j b J;rw[hm]at a2;cases a2
    ·simp only at a2;omega
   ·exact F.trd k j bs dh b J U
  ·rcases E with E|E
   ·exact⟨(h.fr.trb k j b E).1,Nat.lt_of_lt_of_le (h.fr.trb k j b E).2 F.size⟩
   ·refine⟨.inr ?_,(F.trb k j b E).2⟩;rcases(F.trb k j b E).1 with a2|a2
    ·obtain⟨m,_,hm⟩:=(Y k).2.2 j b E;rw[hm]at a2;cases a2
    ·exact kD h.fr.size a2
  ·have key:ν.bx k=none/\ν.ow k=none/\¬(ae k f.b).isSome/\¬(ae k f.e).isSome:=by
    rcases E with E|E
    ·obtain⟨t1,t2⟩:=h.fr.trn k j b E;refine⟨t1,t2,fun i=>?_,fun i=>?_⟩
     ·cases k with
      |loc m=>rw[Q.1 m]at i;cases i
      |obj m=>
       rcases M2 m i with H|H
       ·obtain⟨cs,y⟩:=fx.1 (V _ H);obtain⟨L,us,el,g1,_⟩:=h.good.box _ cs y;rw[t1]at g1;cases g1
       ·exact(h.new (.obj m) ⟨trivial,H⟩).2.2 j b E
     ·cases k with
      |loc m=>rw[Q.2 m]at i;cases i
      |obj m=>
       rcases cv m i with H|H
       ·obtain⟨cs,y⟩:=fx.1 (W _ H);obtain⟨L,us,g1,_⟩:=h.good.own _ cs y;rw[t2]at g1;cases g1
       ·exact(h.new (.obj m) ⟨trivial,H⟩).2.2 j b E
    ·obtain⟨m,hm,rfl⟩:=(Y k).2.2 j b E;obtain⟨t1,t2,_⟩:=alm m hm;exact⟨t1,t2,by simp[Q.1 m],by simp[Q.2 m]⟩
   obtain⟨t1,t2,t3,t4⟩:=key;have t5:¬(ae k s.b).isSome:=fun i=>by obtain⟨cs,y⟩:=fx.1 (V _ i);obtain⟨L,us,el,g1,_⟩:=h.good.box _ cs y;rw[t1]at g1;cases g1
   have t6:¬(ae k s.e).isSome:=fun i=>by obtain⟨cs,y⟩:=fx.1 (W _ i);obtain⟨L,us,g1,_⟩:=h.good.own _ cs y;rw[t2]at g1;cases g1
   exact⟨by simp[bc.join,t3,t5,t1],by simp[bc.join,t4,t6,t2]⟩
  ·
   simp only at c;obtain⟨c,akn⟩:=dB k c;have WL:(∀j b,¬ν.tr k j b)->∀j b,¬(ν.join bn s f).tr k j b:=fun J j b E=>by
    rcases E with E|E
    ·exact J j b E
    ·obtain⟨m,hm,e⟩:=(Y k).2.2 j b E;exact akn m hm e
   cases k with
   |loc m=>obtain⟨gq,fj,hO⟩:=h.new (.loc m) (Mi (dO _) (fun _ h=>List.mem_append_left _ h) c);exact⟨by simp[bc.join,rn.1 m,Q.1 m,gq],by simp[bc.join,rn.2 m,Q.2 m,fj],WL hO⟩
   |obj m=>
    simp only[fresh,kd,not_or,true_and]at c;obtain⟨gq,fj,hO⟩:=h.new (.obj m) ⟨trivial,c.1⟩;have a8:¬(ae (.obj m) f.b).isSome:=fun i=>c.2 (rF (.inl i));have bB:¬(ae (.obj m) f.e).isSome:=fun i=>c.2 (rF (.inr i));have bX:¬(ae (.obj m) s.b).isSome:=fun i=>by obtain⟨cs,y⟩:=fx.1 (V _ i);obtain⟨L,us,el,g1,_⟩:=h.good.box _ cs y;rw[gq]at g1;cases g1
    have dq:¬(ae (.obj m) s.e).isSome:=fun i=>by obtain⟨cs,y⟩:=fx.1 (W _ i);obtain⟨v',us,g1,_⟩:=h.good.own _ cs y;rw[fj]at g1;cases g1
    exact⟨by simp[bc.join,a8,bX,gq],by simp[bc.join,bB,dq,fj],WL hO⟩
 exact pV.put aL (Ac h8 aI)
inductive eU where
 |s (i:eY)
 |call (d:bd Nat) (f:dP) (xs:List dP)
 |next (d:Nat) (x:dP)
structure du where
 g:bd (Nat×Bool)
 i:eU
def eY.dst:eY->bd Nat
 | .v d _| .box d _ _| .alloc d _ _| .bsl d _ _ _| .app d _ _ _ _| .bslm d _ _ _ _| .appm d _ _ _ _ _| .mkmap d _| .range d _ _| .mks d _ _ _ _ _=>some d
 | .store _ _ _| .mput _ _ _ _| .storeE _ _ _=>none
def eU.dst:eU->bd Nat
 | .s i=>i.dst
 | .call d _ _=>d
 | .next d _=>some d
def CallDo(P:cI)(n:Nat)(args:List af)(st:bp)(d:bd Nat)(K:bp->Prop):Prop:=
 (∃s Q,hy (aM s) s.b st.b/\p9 (aM s) s.e st.e/\hX s/\aH (aM s) args/\bG P n args s Q/\
  ∀r a,Q r a->((∀m,(ae (.obj m) a.b).isSome->(ae (.obj m) s.b).isSome\/ .obj m∉st.o)/\(∀m,(ae (.obj m) a.e).isSome->(ae (.obj m) s.e).isSome\/ .obj m∉st.o))/\K (after st s a d r))\/
 (∃s Q,hy (aM s) s.b st.b/\p9 (aM s) s.e st.e/\hX s/\aH (aM s) args/\ .loc st.n∉st.o/\uf P n st.n args s Q/\
  ∀r a,Q r a->((∀m,(ae (.obj m) a.b).isSome->(ae (.obj m) s.b).isSome\/ .obj m∉st.o)/\(∀m,(ae (.obj m) a.e).isSome->(ae (.obj m) s.e).isSome\/ .obj m∉st.o))/\K {after st s a d r with n:=st.n+1})
def OG(st:bp)(d:Nat)(gk mk:aB)(since:Nat)(seen:List Nat)(last clock:Nat)(borns:List Nat)(kvs:List af)(K:bp->Prop):Prop:=
 (since=clock/\last=clock)/\((∀b∈borns,b∈seen)->K {st with t:=put d (.tuple [.bool false]) st.t})/\
 (∀b k v,n5 b borns kvs=some (.tuple [k,v])->b∉seen->K {st with t:=put d (.tuple [.bool true,k,v]) st.t,b:=cJ gk [.hdi since (seen++[b]) last,.gmap mk] st.b})
def uA(st:bp)(d:Nat)(v:af)(K:bp->Prop):Prop:=
 match v with
 | .ptr gk 0=>match ae gk st.b with
  |some [.hdi since seen last,.gmap mk]=>match ae mk st.b with
   |some (.hdm clock borns::kvs)=>OG st d gk mk since seen last clock borns kvs K
   |_=>eu
  |_=>eu
 |_=>eu
def vK(P:cI)(st:bp)(K:bp->Prop):eU->Prop
 | .next d x=>uA st d (cE st.t x) K
 | .s i=>match nC st i with
  |some (c,st')=>c/\K st'
  |none=>eu
 | .call d f xs=>match cE st.t f with
  | .func n dH=>CallDo P n (cf (xs.map (cE st.t)++dH)) st d K
  |_=>eu
def iZ(P:cI):List du->bp->(bp->Prop)->Prop
 |[],st,K=>K st
 |⟨none,i⟩::r,st,K=>vK P st (fun st'=>iZ P r st' K) i
 |⟨some (s,want),i⟩::r,st,K=>match get s st.t with
  | .bool b=>(b=want->vK P {st with t:=put s (.bool want) st.t} (fun st'=>iZ P r st' K) i)/\(b= !want->iZ P r {st with t:=e5 i.dst (.tuple []) (put s (.bool !want) st.t)} K)
  | .tuple []=>iZ P r {st with t:=e5 i.dst (.tuple []) st.t} K
  |_=>eu
def wD(N:Nat)(aT:List (Nat×ev))(i:eU)(o:Oper):Bool:=
 match i with
 | .s i=>FD N aT i o
 | .next d x=>match o.op with
  | .next it false=>o.dst==some d&&decide (d<N)&&eS x it
  |_=>false
 | .call d f xs=>match o.op with
  | .call ⟨.value a,args,_⟩=>o.dst==d&&j8 N d&&eS f a&&zU xs args.toList
  |_=>false
def DQ(N:Nat)(aT:List (Nat×ev))(ops:List Oper)(g:du)(o:Oper):Bool:=
 (match g.g,o.guard with
  |none,none=>true
  |some (s,b),some (j,b2)=>b==b2&&((ops[j]?).bind (·.dst))==some s&&decide (s<N)&&o.dst==g.i.dst&&j8 N g.i.dst
  |_,_=>false)&&wD N aT g.i o
def la(N:Nat)(aT:List (Nat×ev))(ops:List Oper):List du->List Oper->Bool
 |[],[]=>true
 |g::gs,o::os=>DQ N aT ops g o&&la N aT ops gs os
 |_,_=>false
def abf{w:World}{ν:bc}:∀{b bV:List af} {bm us:List Value},c7 w ν b bm->c7 w ν bV us->c7 w ν (b++bV) (bm++us)
 |[],bV,bm,us,h,a=>by simp only[c7]at h;subst h;simpa using a
 |p::b,bV,bm,us,h,a=>by simp only[c7]at h;obtain⟨u,c,rfl,J,U⟩:=h;simp only[b7,c7];exact⟨u,_,rfl,J,abf U a⟩
def yz.mono{P:cI}{f:FuncId}{bm:Array Value}{w:World}{R a:Ending->World->Prop}(h:yz P f bm w R)(bt:∀e w',R e w'->a e w'):yz P f bm w a:=by
 rcases h with⟨J,U⟩|⟨v,w',J,U⟩
 ·exact .inl ⟨J,U.mono bt⟩
 ·exact .inr ⟨v,w',J,bt _ _ U⟩
def TX{P:cI}{C:fm}{st:bp}{a:Act}{w:World}{ν:bc}(g:c9 C st a w ν){o:Oper}{Z:Operand}{args:Array Operand}{CT:Array gT}(A:o.op= .call ⟨.value Z,args,CT⟩){d:bd Nat}(aL:o.dst=d)(W:j8 C.N d=true)
  {n:Nat} {dH:List af} (aG:aU w ν (.func n dH) (a.eval Z)) {B:List af} (vR:c7 w ν B (args.toList.map a.eval)) {K:bp->Prop}
  (aw:∃(s:cR) (z:af->cR->Prop) (κ:bd Nat) (n':Nat) (o':cR->List aB),hy (aM s) s.b st.b/\p9 (aM s) s.e st.e/\hX s/\aH (aM s) (cf (B++dH))/\(∀(w:World) (ν:bc) (bm:Array Value),Good (fB ν s) w ν s.b s.e->pN ν s->c7 w ν (cf (B++dH)) bm.toList->
   yz P n bm w fun e w'=> ∃v r c bn,e= .returned v/\z r c/\aU w' bn r v/\Good (fun bl=>fB ν s bl\/w.heap.size<=bl) w' bn c.b c.e/\A2 κ bn c/\hX c/\pC ⟨w,ν,fB ν s,0,cK s⟩ w' bn)/\
   (∀m,κ=some m->fresh st.n st.o (.loc m))/\(∀k r c,z r c->fresh n' (o' c) k->fresh st.n (st.o++cK c) k/\∀m,κ=some m->k≠ .loc m)/\
   ∀r c,z r c->((∀m,(ae (.obj m) c.b).isSome->(ae (.obj m) s.b).isSome\/ .obj m∉st.o)/\(∀m,(ae (.obj m) c.e).isSome->(ae (.obj m) s.e).isSome\/ .obj m∉st.o))/\K {after st s c d r with n:=n',o:=o' c})
  {X:Act->World->Prop} {Q:Exit->Act->World->Prop} (dk:∀st' br w' bn,K st'->c9 C st' br w' bn->X br w'):o.wp P a w X Q:=by
 obtain⟨s,z,κ,n',o',u,t,dj,h6,q,Uh,T9,Y⟩:=aw;simp only[aU]at aG;obtain⟨us,aN,hu⟩:=aG;have nV:c7 w (ν.cut (aM s)) (cf (B++dH)) ((args.map a.eval)++us).toList:=by refine Ab (oX.cut _ w ν) _ _ h6 (JE _ _ ?_);simpa using abf vR hu
 have ti:Good (fB (ν.cut (aM s)) s) w (ν.cut (aM s)) s.b s.e:=g.good.cut u t (fun bl _ h=>h);have hex:pN (ν.cut (aM s)) s:=by
  intro k;refine⟨?_,?_,?_⟩;rotate_left 2
  ·rintro j b ⟨f,ag⟩;obtain⟨t1,t2⟩:=g.fr.trn k j b ag;rcases f with f|f<;>obtain⟨x,p⟩:=fx.1 f
   ·obtain⟨bl,R,el,i,_⟩:=g.good.box k x (u k x p).1;rw[t1]at i;cases i
   ·obtain⟨v',R,i,_⟩:=g.good.own k x (t k x p).1;rw[t2]at i;cases i
  ·intro S;by_cases f:aM s k
   ·rw[bc.cut_bx f];rcases f with f|f
    ·rw[S]at f;cases f
    ·obtain⟨x,p⟩:=fx.1 f;obtain⟨v',R,i,_⟩:=g.good.own k x (t k x p).1;rcases g.good.one k with J|J
     ·exact J
     ·rw[J]at i;cases i
   ·exact(bc.cut_no f).1
  ·intro S;by_cases f:aM s k
   ·rw[bc.cut_ow f];rcases f with f|f
    ·obtain⟨x,p⟩:=fx.1 f;obtain⟨bl,R,el,i,_⟩:=g.good.box k x (u k x p).1;rcases g.good.one k with J|J
     ·rw[J]at i;cases i
     ·exact J
    ·rw[S]at f;cases f
   ·exact(bc.cut_no f).2.1
 rcases q w (ν.cut (aM s)) ((args.map a.eval)++us) ti hex nV with⟨⟨fn,g1,g2,g3⟩,q⟩|⟨v,w',q,N⟩
 ·obtain⟨code,U⟩:=fx.1 g2;have E:(execOp a.eval o).run P w= .ok (.enter n ((args.map a.eval)++us)) w:=by obtain⟨dst,op,ty,pos,Rr,xg⟩:=o;simp only at A;subst A;simp only[execOp,resolve,aN,Deferred.ofValue,gx,hA,gC,invoke,callFunc,run_program,g1,g3,U];simp
  unfold Oper.wp;rw[E];simp only[Oper.upon];refine q.mono fun e w' N=>?_;obtain⟨v,r,c,bn,rfl,y,V,O,M,H,L⟩:=N;obtain⟨⟨F,G⟩,l⟩:=Y r c y;rw[aL];exact dk _ _ _ _ l (g.callK u t dj O M (fun m hm=>g.new _ (Uh m hm)) (n':=n') (o':=o' c) (fun k l=>T9 k r c y l) H L F G d W V)
 ·have E:(execOp a.eval o).run P w= .ok (.value v) w':=by obtain⟨dst,op,ty,pos,Rr,xg⟩:=o;simp only at A;subst A;simp only[execOp,resolve,aN,Deferred.ofValue,gx,hA,gC,invoke];simpa using q
  obtain⟨v2,r,c,bn,Ew,y,V,O,M,H,L⟩:=N;cases Ew;obtain⟨⟨F,G⟩,l⟩:=Y r c y;refine nH E ?_;rw[aL];exact dk _ _ _ _ l (g.callK u t dj O M (fun m hm=>g.new _ (Uh m hm)) (n':=n') (o':=o' c) (fun k l=>T9 k r c y l) H L F G d W V)
def TW{P:cI}{C:fm}{st:bp}{a:Act}{w:World}{ν:bc}(L:c9 C st a w ν){o:Oper}{u:Operand}{args:Array Operand}{N:Array gT}(A:o.op= .call ⟨.value u,args,N⟩){d:bd Nat}(H:o.dst=d)(y:j8 C.N d=true)
  {n:Nat} {dH:List af} (M:aU w ν (.func n dH) (a.eval u)) {x:List af} (z:c7 w ν x (args.toList.map a.eval)) {K:bp->Prop} (aw:CallDo P n (cf (x++dH)) st d K)
  {t:Act->World->Prop} {Q:Exit->Act->World->Prop} (E:∀st' br w' bn,K st'->c9 C st' br w' bn->t br w'):o.wp P a w t Q:=by
 refine TX L A H y M z (K:=K) ?_ E;rcases aw with⟨s,f,q,p,l,j,i,g⟩|⟨s,f,q,p,l,j,B,i,g⟩
 ·refine⟨s,f,none,st.n,fun b=>st.o++cK b,q,p,l,j,fun w ν bm J U G=>(i w ν bm J U G).mono fun e w' F=>?_,fun m hm=>(by cases hm),fun k _ b _ c=>⟨c,fun m hm=>by cases hm⟩,g⟩;obtain⟨v,r,b,bn,g1,g2,g3,g4,g5,g6⟩:=F;exact⟨v,r,b,bn,g1,g2,g3,g4,g5.k,g6⟩
 ·refine⟨s,f,some st.n,st.n+1,fun b=>st.o++cK b,q,p,l,j,i,fun m hm=>(by cases hm;exact⟨dO _,B⟩),fun k _ b _ c=>⟨Mi (Nat.le_succ _) (fun _ h=>h) c,fun m hm=>?_⟩,g⟩;cases hm;rintro rfl;have:=c.1;simp only at this;omega
def c9.drawn{C:fm}{st:bp}{a:Act}{w:World}{ν:bc}(b:c9 C st a w ν)(n:Nat):c9 C st a {w with drawn:=n} ν:=by
 have c:mx w ν {w with drawn:=n} ν:=⟨fun _ _ h=>⟨h,rfl⟩,fun _ _ _ h=>h,fun _ n u _ h=>⟨n,u,h,.inl ⟨rfl,rfl⟩⟩,fun _ _ _=>rfl,fun _ _ _ _ h=>h⟩;refine b.over c rfl ⟨b.good.alt,fun k cs i=>?_,b.good.inj,fun g o bf=>?_,b.good.oinj,b.good.obx,b.good.one,b.good.otr⟩ ⟨b.fr.os,b.fr.tape,b.fr.output,b.fr.size,b.fr.block,b.fr.keep,b.fr.fresh,b.fr.obj,b.fr.obn,b.fr.row,b.fr.obr,b.fr.trd,b.fr.trb,b.fr.trn,b.fr.sh⟩ b.new
 ·obtain⟨bl,us,el,J,U,d,e,f⟩:=b.good.box k cs i;exact⟨bl,us,el,J,U,d,e,rI c f⟩
 ·obtain⟨v,us,J,U,d,e⟩:=b.good.own g o bf;exact⟨v,us,J,U,d,tU c (fun _ _ _ h=>h) e⟩
def aik{α:Type}{l:List α}{p:α->Bool}(h:∀x∈l,p x=false):l.filter p=[]:=by rw[List.filter_eq_nil_iff];intro x a;simp[h x a]
def aij{α:Type}{l:List α}{p:α->Bool}(h:∀x∈l,p x=true):l.filter p=l:=List.filter_eq_self.2 h
def IT(r m since clock:Nat)(seen:Array Nat)(TY:Array (bd MapEntry)):Sem Value:=do
 match TY[<-choose (.mapNext TY.size)]? with
 |some (some e)=>
  setObj r (.mapIter (some m) since (seen.push e.born) clock)
  pure (.tuple #[.bool true,e.key,e.val])
 |some none=>pure (.tuple #[.bool false])
 |none=>stuck "Next: no such candidate"
def abv{P:cI}{w:World}(r m since clock:Nat)(seen:Array Nat)(l:List (bd MapEntry))(av:l≠[]):∃n x,x∈l/\(IT r m since clock seen l.toArray).run P w=
  (match x with|some e=>(do setObj r (.mapIter (some m) since (seen.push e.born) clock);pure (.tuple #[.bool true,e.key,e.val]):Sem Value)|none=>pure (.tuple #[.bool false])).run P {w with drawn:=n}:=by
 have gj:0<l.length:=List.length_pos_iff.2 av;unfold IT;have key:∀i,i<l.length->∀w',((do match(l.toArray[i]?:bd (bd MapEntry))with
   |some (some e)=>setObj r (.mapIter (some m) since (seen.push e.born) clock);pure (.tuple #[.bool true,e.key,e.val])
   |some none=>pure (.tuple #[.bool false])
   |none=>stuck "Next: no such candidate" :Sem Value)).run P w'=((match l[i]! with|some e=>(do setObj r (.mapIter (some m) since (seen.push e.born) clock);pure (.tuple #[.bool true,e.key,e.val]):Sem Value)|none=>pure (.tuple #[.bool false]))).run P w':=by
  intro i hi w';have J:l.toArray[i]? =some l[i]!:=by simp[hi]
  rw[J];cases l[i]!<;>rfl
 by_cases aG:(Question.mapNext l.length).forced=true
 ·refine⟨w.drawn,l[0]!,by simp[gj],?_⟩;rw[<-key 0 gj];have aw:(choose (.mapNext l.length):Sem Nat).run P w= .ok 0 w:=by simp[aG]
  simp only[List.size_toArray,gx,aw,gC]
 ·refine⟨w.drawn+1,l[(w.tape w.drawn (.mapNext l.length))%l.length]!,by simp[Nat.mod_lt _ gj],?_⟩;rw[<-key _ (Nat.mod_lt _ gj)];have aw:(choose (.mapNext l.length):Sem Nat).run P w= .ok ((w.tape w.drawn (.mapNext l.length))%l.length) {w with drawn:=w.drawn+1}:=by simp[aG,Question.cut]
  simp only[List.size_toArray,gx,aw,gC]
def aqE{P:cI}{w:World}{bl mb:Nat}{seen:List Nat}{es:List MapEntry}{clock:Nat}{ty:gT}(J:w.heap[bl]? =some (.mapIter (some mb) clock seen.toArray clock))(U:w.heap[mb]? =some (.map es.toArray clock))(d:∀e∈es,e.born<clock):
  ∃n,((∀e∈es,e.born∈seen)/\(Instr.next (.pointer (some ⟨bl,0,none⟩)) false ty).run P w= .ok (.tuple #[.bool false]) {w with drawn:=n})\/
   ∃e∈es,e.born∉seen/\(Instr.next (.pointer (some ⟨bl,0,none⟩)) false ty).run P w= .ok (.tuple #[.bool true,e.key,e.val]) {w with drawn:=n,heap:=w.heap.setIfInBounds bl (.mapIter (some mb) clock (seen++[e.born]).toArray clock)}:=by
 have j:(!seen.toArray.isEmpty&& !es.toArray.isEmpty&&es.toArray.all (fun e=>decide (e.born≥clock)))=false:=by
  cases es with
  |nil=>simp
  |cons e r=>have:=d e Ψ;simp;intro _ h;omega
 generalize c:(es.filter fun e=> !seen.contains e.born)=left;have f:(es.toArray.filter fun e=> !seen.toArray.contains e.born)=left.toArray:=by rw[<-c];simp
 have a:∀e∈left,e∈es/\e.born∉seen:=fun e he=>by rw[<-c]at he;have:=oW.1 he;exact⟨this.1,by simpa using this.2⟩
 have hold:(left.toArray.filter fun e=>decide (e.born<clock))=left.toArray:=by rw[List.filter_toArray,aij];intro e he;have:=d e (a e he).1;simp[this]
 have g:(left.toArray.filter fun e=>decide (e.born≥clock))= #[]:=by rw[List.filter_toArray,aik];intro e he;have:=d e (a e he).1;simp;omega
 have i:(Instr.next (.pointer (some ⟨bl,0,none⟩)) false ty).run P w=(IT bl mb clock clock seen.toArray ((if left.toArray.isEmpty then #[none]else #[])++(left.toArray++ #[]).map some)).run P w:=by unfold Instr.next IT;simp only[gx,yi J,yi U,gC,j,f,hold,g,hR,if_false];rfl
 rw[i];by_cases b:left=[]
 ·subst b;obtain⟨n,x,g1,g2⟩:=abv (P:=P) (w:=w) bl mb clock clock seen.toArray [none] Ψ;refine⟨n,.inl ⟨fun e he=>?_,?_⟩⟩
  ·have:=List.filter_eq_nil_iff.1 c e he;simpa using this
  ·simp only[List.mem_singleton]at g1;subst g1;have aw:((if(([]:List MapEntry).toArray).isEmpty then #[none]else #[])++(([]:List MapEntry).toArray++ #[]).map some)=[none].toArray:=Ψ
   rw[aw,g2];rfl
 ·have aw:((if left.toArray.isEmpty then #[none]else #[])++(left.toArray++ #[]).map some)=(left.map some).toArray:=by simp[b]
  obtain⟨n,x,g1,g2⟩:=abv (P:=P) (w:=w) bl mb clock clock seen.toArray (left.map some) (by simpa using b);simp only[gZ]at g1;obtain⟨e,he,rfl⟩:=g1;refine⟨n,.inr ⟨e,(a e he).1,(a e he).2,?_⟩⟩;rw[aw,g2];simp only[gx];rw[P5 (w:={w with drawn:=n}) (o:= .mapIter (some mb) clock seen.toArray clock) J];simp
def LO:∀{borns:List Nat} {us:List Value} {e:MapEntry},e∈gP borns us->e.born∈borns
 |[],us,e,h=>by simp[gP]at h
 |b::a,[],e,h=>by simp[gP]at h
 |b::a,[_],e,h=>by simp[gP]at h
 |b::a,k::v::us,e,h=>by
  simp only[gP,gI]at h;rcases h with rfl|h
  ·simp
  ·exact q1 _ (LO h)
def Uz:∀{borns:List Nat} {kvs:List af} {us:List Value},kvs.length=2*borns.length->us.length=kvs.length->∀{b:Nat},b∈borns->∃e∈gP borns us,e.born=b
 |[],_,_,_,_,b,a=>by simp at a
 |b2::c,kvs,[],J,U,b,a=>by rw[J]at U;simp at U
 |b2::c,kvs,[_],J,U,b,a=>by rw[J]at U;simp at U;omega
 |b2::c,kvs,k::v::us,J,U,b,a=>by
  rcases gI.1 a with rfl|a
  ·exact⟨⟨k,v,b⟩,by simp[gP],rfl⟩
  ·obtain⟨e,g1,g2⟩:=Uz (kvs:=kvs.drop 2) (us:=us) (borns:=c) (by simp at J⊢;omega) (by simp at J U⊢;omega) a;exact⟨e,by simp[gP,g1],g2⟩
def Ys{w:World}{ν:bc}:∀{borns:List Nat} {kvs:List af} {us:List Value},kvs.length=2*borns.length->borns.Pairwise (· < ·)->c7 w ν kvs us->∀{e:MapEntry},e∈gP borns us->∃k v,n5 e.born borns kvs=some (.tuple [k,v])/\aU w ν k e.key/\aU w ν v e.val
 |[],_,_,_,_,_,e,h=>by simp[gP]at h
 |b::a,[],us,J,_,_,e,_=>by simp at J
 |b::a,[_],us,J,_,_,e,_=>by simp at J;omega
 |b::a,k::v::kvs,us,J,U,c,e,h=>by
  simp only[c7]at c;obtain⟨l,n,rfl,g,m,j,rfl,f,d⟩:=c;simp only[gP,gI]at h;rw[og]at U;rcases h with rfl|h
  ·exact⟨k,v,by simp[n5],g,f⟩
  ·obtain⟨bs,v',g1,g2,g3⟩:=Ys (by simp at J;omega) U.2 d h;have i:b≠e.born:=Nat.ne_of_lt (U.1 _ (LO h));exact⟨bs,v',by simp[n5,i,g1],g2,g3⟩
def am6{P:cI}{C:fm}{st:bp}{a:Act}{w:World}{ν:bc}(c:c9 C st a w ν){o:Oper}{it:Operand}(q:o.op= .next it false){d:Nat}(E:o.dst=some d)(i:j8 C.N (some d)=true){v:af}(B:aU w ν v (a.eval it)){K:bp->Prop}(he:uA st d v K)
  {m:Act->World->Prop} {Q:Exit->Act->World->Prop} (x:∀st' br w' bn,K st'->c9 C st' br w' bn->m br w'):o.wp P a w m Q:=by
 unfold uA at he;split at he
 ·rename_i gk;split at he
  ·rename_i since seen last mk l;split at he
   ·rename_i clock borns kvs G;obtain⟨⟨rfl,rfl⟩,W,L⟩:=he;simp only[aU]at B;obtain⟨bl,A,M⟩:=B;obtain⟨Y,us,el,F,bB,Z,g,z⟩:=c.good.box gk _ l;rw[A]at F;cases F;obtain⟨mb,ms,N,m1,m2,m3,m4,m5⟩:=c.good.box mk _ G;simp only[k3,c7]at z;obtain⟨u,b1,hu,⟨O,y,rfl⟩,rfl⟩:=z;rw[m1]at y;cases y;simp only[l0,hu]at g;simp only[l0]at m4;simp only[k3]at m5;obtain⟨n,H⟩:=aqE (P:=P) (ty:=o.type) g m4 (fun e he=>m5.2.lt _ (LO he));have r:∀v' w',(Instr.next (.pointer (some ⟨bl,0,none⟩)) false o.type).run P w= .ok v' w'->(execOp a.eval o).run P w= .ok (.value v') w':=by intro v' w' t;obtain⟨dst,op,ty,pos,Rr,X⟩:=o;simp only at q t;subst q;simp only[execOp,M];exact F2 t
    rcases H with⟨J,U⟩|⟨e,J,U,R⟩
    ·refine nH (r _ _ U) ?_;rw[E];refine x _ _ _ _ (W fun b V=>?_) ((c.drawn n).put i (p:= .tuple [.bool false]) (by simp[aU,c7]));obtain⟨e,f1,f2⟩:=Uz m5.2.len (P0 m5.1) V;rw[<-f2];exact J e f1
    ·obtain⟨k,v,f1,f2,f3⟩:=Ys m5.2.len m5.2.inc m5.1 J;refine nH (r _ _ R) ?_;rw[E];have f:=((c.drawn n).setBox (w':={w with drawn:=n,heap:=w.heap.setIfInBounds bl (.mapIter (some mb) last (seen++[e.born]).toArray last)}) l A (cs':=[.hdi last (seen++[e.born]) last,.gmap mk]) (us:=us) (el:=el) rfl rfl rfl
      (fun j S=>Array.getElem?_setIfInBounds_ne (Ne.symm S)) Ψ (by simp[l0,hu,(Array.getElem?_eq_some_iff.1 g).1]) (by simp only[k3,c7];exact⟨_,_,hu,by simp only[aU];exact⟨mb,m1,rfl⟩,rfl⟩))
     refine x _ _ _ _ (L e.born k v f1 U) (f.1.put i (p:= .tuple [.bool true,k,v]) ?_);simp only[aU];refine⟨_,rfl,?_⟩;simp only[c7];have s:mx w ν {w with drawn:=n} ν:=⟨fun _ _ h=>⟨h,rfl⟩,fun _ _ _ h=>h,fun _ n u _ h=>⟨n,u,h,.inl ⟨rfl,rfl⟩⟩,fun _ _ _=>rfl,fun _ _ _ _ h=>h⟩;exact⟨_,_,rfl,by simp[aU],_,_,rfl,Ac f.2 (Ac s f2),_,_,rfl,Ac f.2 (Ac s f3),rfl⟩
   ·exact he.elim
  ·exact he.elim
 ·exact he.elim
def UD{P:cI}{aT:List (Nat×ev)}(p:hY P aT=true){C:fm}{st:bp}{a:Act}{w:World}{ν:bc}(b:c9 C st a w ν){i:eU}{o:Oper}(ar:wD C.N aT i o=true){K:bp->Prop}(he:vK P st K i)
  {k:Act->World->Prop} {Q:Exit->Act->World->Prop} (g:∀st' br w' bn,K st'->c9 C st' br w' bn->k br w'):o.wp P a w k Q:=by
 cases i with
 |s i=>
  simp only[vK]at he;split at he
  ·rename_i c st' l;exact aqH p b (by simpa only[wD]using ar) l he.1 fun br w' bn h=>g _ _ _ _ he.2 h
  ·exact he.elim
 |next d x=>
  simp only[vK]at he;simp only[wD]at ar;split at ar
  ·rename_i it e;simp only[cQ,ey,gy]at ar;obtain⟨⟨J,U⟩,j⟩:=ar;exact am6 b e J (by simpa[j8]using U) (e3 b j) he g
  ·cases ar
 |call d f xs=>
  simp only[vK]at he;simp only[wD]at ar;split at ar
  ·rename_i r args t e;simp only[cQ,ey]at ar;obtain⟨⟨⟨J,U⟩,j⟩,m⟩:=ar;split at he
   ·rename_i n dH q;have:=e3 b j;rw[q]at this;exact TW b e J U this (Fw b m) he g
   ·exact he.elim
  ·cases ar
def PS{C:fm}{st:bp}{a:Act}{w:World}{ν:bc}(h:c9 C st a w ν){s:Nat}{b:Bool}(c:get s st.t= .bool b):c9 C {st with t:=put s (.bool b) st.t} a w ν:=by
 refine⟨h.good,h.fr,h.defers,h.size,fun i=>?_,h.new⟩;have:=h.slot i;simp only[qv];split
 ·rename_i e;subst e;rw[<-c];exact this
 ·exact this
def ac9{C:fm}{st:bp}{a:Act}{w:World}{ν:bc}(h:c9 C st a w ν){ops:Array Oper}{j s:Nat}(f:(ops.toList[j]?).bind (·.dst)=some s)(l:s<C.N):
  (∀b,get s st.t= .bool b->yielded ops a.tmps j=some b)/\(get s st.t= .tuple []->yielded ops a.tmps j=none):=by
 have e:s<a.tmps.size:=by rw[h.size];exact l
 have c:=h.slot s;have i:a.tmps.getD s undef=a.tmps[s]:=by simp[Array.getD,e]
 rw[i]at c;have g:yielded ops a.tmps j=match a.tmps[s]with| .bool b=>some b|_=>none:=by unfold yielded;rw[vm]at f;rw[f];simp only[lH,Array.getElem?_eq_getElem e];cases a.tmps[s]<;>rfl
 constructor
 ·intro b d;rw[d]at c;simp only[aU]at c;rw[g,c]
 ·intro d;rw[d]at c;simp only[aU,c7]at c;obtain⟨us,k,m⟩:=c;rw[g,k]
def UH{P:cI}{aT:List (Nat×ev)}(n:hY P aT=true){C:fm}{ops:Array Oper}{K:bp->Prop}{Q:Exit->Act->World->Prop}(q:∀st' br w' bn,K st'->c9 C st' br w' bn->Q .normal br w'):
  ∀(gs:List du) (os:List Oper) (k:Nat),(∀j,os[j]? =ops[k+j]?)->la C.N aT ops.toList gs os=true->∀(st:bp) (a:Act) (w:World) (ν:bc),iZ P gs st K->c9 C st a w ν->wpOps P ops Q (List.range' k gs.length) a w
 |[],[],k,_,_,st,a,w,ν,he,f=>by simp only[List.length_nil,List.range'_zero,wpOps];exact q _ _ _ _ he f
 |[],_::_,_,_,d,_,_,_,_,_,_=>by simp[la]at d
 |_::_,[],_,_,d,_,_,_,_,_,_=>by simp[la]at d
 |g::gs,o::os,k,y,d,st,a,w,ν,he,f=>by
  simp only[la,cQ]at d;have F:ops[k]? =some o:=by simpa using(y 0).symm
  have H:∀j,os[j]? =ops[k+1+j]?:=fun j=>by have:=y (j+1);simpa[Nat.add_assoc,Nat.add_comm 1 j]using this
  simp only[mV,List.range'_succ,wpOps,F];have l:∀st' br w' bn,iZ P gs st' K->c9 C st' br w' bn->wpOps P ops Q (List.range' (k+1) gs.length) br w':=fun st' br w' bn J U=>UH n q gs os (k+1) H d.2 st' br w' bn J U;obtain⟨A,M⟩:=g;have bf:=d.1;simp only[DQ,cQ]at bf;obtain⟨i,p⟩:=bf;cases A with
  |none=>
   cases c:o.guard with
   |some x=>simp[c]at i
   |none=>
    have hw:qd o (yielded ops a.tmps)=true:=by simp[qd,c]
    rw[if_pos hw];simp only[iZ]at he;exact .inl (UD n f p he l)
  |some L=>
   obtain⟨s,want⟩:=L;cases c:o.guard with
   |none=>simp[c]at i
   |some x=>
    obtain⟨j,b2⟩:=x;simp only[c,cQ,ey,gy]at i;obtain⟨⟨⟨⟨rfl,U⟩,G⟩,v⟩,u⟩:=i;obtain⟨E,z⟩:=ac9 f U G;simp only[iZ]at he;split at he
    ·rename_i b h;have m:=E b h;by_cases e:b=want
     ·subst e;have hw:qd o (yielded ops a.tmps)=true:=by simp[qd,c,m]
      rw[if_pos hw];exact .inl (UD n (PS f h) p (he.1 rfl) l)
     ·have hw:¬(qd o (yielded ops a.tmps)=true):=by simp[qd,c,m,e]
      rw[if_neg hw];have r:b= !want:=by cases b<;>cases want<;>simp at e⊢
      have B:c9 C {st with t:=put s (.bool !want) st.t} a w ν:=PS f (by rw[h,r]);rw[v];exact l _ _ _ _ (he.2 r) (B.put u (by simp[aU,c7,undef]))
    ·rename_i h;have m:=z h;have hw:¬(qd o (yielded ops a.tmps)=true):=by simp[qd,c,m]
     rw[if_neg hw,v];exact l _ _ _ _ he (f.put u (by simp[aU,c7,undef]))
    ·exact he.elim
structure dE where
 t:Nat->af
 b:aB->bd (List af)
 e:aB->bd dW
 F:aB->Prop
structure lK where
 d:bd Nat
 p:af
 bw:List (aB×List af)
 ew:List (aB×dW)
 rm:bd aB
def ju{α:Type}(l:List (aB×α))(f:aB->bd α):aB->bd α:=fun k=>match ae k l with|some x=>some x|none=>f k
def dE.do(A:dE)(x:lK):dE:={t:=fun i=>if x.d=some i then x.p else A.t i,b:=ju x.bw A.b,e:=ju x.ew A.e,F:=fun k=>A.F k/\x.rm≠some k}
structure lK.apart (x y:lK):Prop where
 d:∀i,x.d=some i->y.d≠some i
 b:∀k,(ae k x.bw).isSome->ae k y.bw=none
 e:∀k,(ae k x.ew).isSome->ae k y.ew=none
def dE.do_comm(A:dE){x y:lK}(h:x.apart y):(A.do x).do y=(A.do y).do x:=by
 simp only[dE.do,dE.mk.injEq];refine⟨?_,?_,?_,?_⟩
 ·funext i;by_cases J:x.d=some i
  ·have:=h.d i J;simp[J,this]
  ·simp[J]
 ·funext k;simp only[ju];cases a:ae k x.bw with
  |none=>cases ae k y.bw<;>rfl
  |some u=>rw[h.b k (by simp[a])]
 ·funext k;simp only[ju];cases a:ae k x.ew with
  |none=>cases ae k y.ew<;>rfl
  |some u=>rw[h.e k (by simp[a])]
 ·funext k;exact propext ⟨fun h=>⟨⟨h.1.1,h.2⟩,h.1.2⟩,fun h=>⟨⟨h.1.1,h.2⟩,h.1.2⟩⟩
def dY(t:Nat->af):dP->af
 | .t i=>t i
 | .c p=>p
def tF(b:aB->bd (List af))(e:aB->bd dW)(agg:Bool)(sz:Nat):af->bd (Prop×af)
 | .rptr a k n i f=>Ad agg sz a n i f (e k)
 | .ptr k off=>
  match b k with
  |some cs=>if agg then some (gV cs=true/\off+sz<=cs.length,.agg ((cs.drop off).take sz))else(cs[off]?).map fun p=>(gV cs=true,p)
  |none=>none
 | .eptr p=>if agg then some (qI sz p,p)else some (eT p=true/\cells p=[p],p)
 |_=>none
def yO(t:Nat->af):List af->List (Nat×Nat×dP)->bd (Prop×List af)
 |cs,[]=>some (True,cs)
 |cs,(off,sz,x)::r=>
  match yO t (nD cs off (cells (dY t x))) r with
  |some (c,cs')=>some ((eT (dY t x)=true/\(cells (dY t x)).length=sz/\off+sz<=cs.length)/\c,cs')
  |none=>none
def qY(t:Nat->af)(b:aB->bd (List af))(e:aB->bd dW):gO->bd (Prop×af)
 | .mov x=>some (True,dY t x)
 | .pick c x y=>I9 (dY t c) (dY t x) (dY t y)
 | .load agg sz x=>tF b e agg sz (dY t x)
 | .faddr off agg sz x=>sY off agg sz (dY t x)
 | .fld off agg sz x=>vO off agg sz (dY t x)
 | .iaddr sz x i=>BL sz (dY t x) (dY t i)
 | .sidx x i=>JT (dY t x) (dY t i)
 | .ssl x lo hi=>JY (dY t x) (lo.map (dY t)) (hi.map (dY t))
 | .lsl sz x lo hi=>IC sz (dY t x) (lo.map (dY t)) (hi.map (dY t))
 | .bin op wr x y=>Di op wr (dY t x) (dY t y)
 | .notB x=>IW (dY t x)
 | .neg x=>IQ (dY t x)
 | .conv k x=>GY k (dY t x)
 | .ext i x=>A3 i (dY t x)
 | .len x=>BY (dY t x)
 | .slen x=>FJ (dY t x)
 | .build zero parts=>(yO t zero parts).map fun(c,cs)=>(c,.agg cs)
 | .nck x=>Cc (dY t x)
 | .min2 x y=>IM (dY t x) (dY t y)
 | .mkf n xs=>some (True,.func n (xs.map (dY t)))
 | .mget a zero ok x k=>pf b a zero ok (dY t x) (dY t k)
 | .ment x=>qL b (dY t x)
 | .mlen x=>Cb b (dY t x)
 | .beq neg d x y=>js neg d (dY t x) (dY t y)
 | .max2 x y=>IG (dY t x) (dY t y)
 | .mkif n x=>some (True,.iface n (dY t x))
 | .loadB agg sz x=>tF b (fun _=>none) agg sz (dY t x)
 | .mgetB a zero ok x k=>pf b a zero ok (dY t x) (dY t k)
 | .loadZ agg sz x=>DO agg sz (dY t x)
 | .b2s x=>Gu (dY t x)
structure mw (st:bp) (A:dE):Prop where
 t:∀i,get i st.t=A.t i
 b:∀k,ae k st.b=A.b k
 e:∀k,ae k st.e=A.e k
def jI{st:bp}{A:dE}(h:mw st A)(x:dP):cE st.t x=dY A.t x:=by
 cases x
 ·exact h.t _
 ·rfl
def vM{st:bp}{A:dE}(h:mw st A):cE st.t=dY A.t:=funext (jI h)
def amg{st:bp}{A:dE}(h:mw st A)(agg:Bool)(sz:Nat)(p:af):n3 st.b st.e agg sz p=tF A.b A.e agg sz p:=by
 cases p<;>simp only[n3,tF]
 ·rw[h.b];try rfl
 ·rw[h.e]
def amh{st:bp}{A:dE}(h:mw st A)(agg:Bool)(sz:Nat)(p:af):n3 st.b [] agg sz p=tF A.b (fun _=>none) agg sz p:=by
 cases p<;>simp only[n3,tF]
 ·rw[h.b];try rfl
 ·rfl
def RS{st:bp}{A:dE}(h:mw st A):∀(parts:List (Nat×Nat×dP)) (cs:List af),vG st.t cs parts=yO A.t cs parts
 |[],cs=>rfl
 |(off,sz,x)::r,cs=>by simp only[vG,yO,jI h,RS h r];try rfl
def acm{st:bp}{A:dE}(h:mw st A)(i:gO):hZ st i=qY A.t A.b A.e i:=by have a:(fun k=>ae k st.b)=A.b:=funext h.b;cases i<;>simp only[hZ,qY,vM h,amg h,amh h,RS h,a]
def ig:dP->List Nat
 | .t i=>[i]
 | .c _=>[]
def Pe:bd dP->List Nat
 |some x=>ig x
 |none=>[]
def gO.looks:gO->List Nat
 | .mov x| .load _ _ x| .loadB _ _ x| .loadZ _ _ x| .faddr _ _ _ x| .fld _ _ _ x| .notB x| .neg x| .conv _ x| .ext _ x| .len x| .slen x| .nck x| .ment x| .mlen x| .mkif _ x| .b2s x=>ig x
 | .pick c x y=>ig c++ig x++ig y
 | .iaddr _ x i| .sidx x i=>ig x++ig i
 | .ssl x lo hi| .lsl _ x lo hi=>ig x++Pe lo++Pe hi
 | .bin _ _ x y| .min2 x y| .max2 x y| .beq _ _ x y=>ig x++ig y
 | .build _ a=>a.flatMap fun p=>ig p.2.2
 | .mkf _ xs=>xs.flatMap ig
 | .mget _ _ _ x k| .mgetB _ _ _ x k=>ig x++ig k
def eY.looks:eY->List Nat
 | .v _ i=>i.looks
 | .box _ _ x=>ig x
 | .alloc _ _ _=>[]
 | .store _ x y=>ig x++ig y
 | .storeE _ x y=>ig x++ig y
 | .bsl _ _ _ xs=>xs.flatMap ig
 | .app _ _ _ x y=>ig x++ig y
 | .bslm _ _ _ _ xs=>xs.flatMap ig
 | .mks _ _ _ _ _ x=>ig x
 | .appm _ _ _ _ x y=>ig x++ig y
 | .mkmap _ _=>[]
 | .mput _ x k y=>ig x++ig k++ig y
 | .range _ _ x=>ig x
def eU.looks:eU->List Nat
 | .s i=>i.looks
 | .call _ f xs=>ig f++xs.flatMap ig
 | .next _ x=>ig x
def du.looks(g:du):List Nat:=(match g.g with|some (s,_)=>[s]|none=>[])++g.i.looks
def r2(l:List Nat)(t t':Nat->af):Prop:= ∀i∈l,t i=t' i
def hl{t t':Nat->af}{x:dP}(h:r2 (ig x) t t'):dY t x=dY t' x:=by
 cases x
 ·exact h _ (by simp[ig])
 ·rfl
def k6{l a:List Nat}{t t':Nat->af}(h:r2 (l++a) t t'):r2 l t t'/\r2 a t t':=⟨fun i hi=>h i (by simp[hi]),fun i hi=>h i (by simp[hi])⟩
def Hc{t t':Nat->af}{x:bd dP}(h:r2 (Pe x) t t'):x.map (dY t)=x.map (dY t'):=by
 cases x
 ·rfl
 ·simp[hl h]
def RR{t t':Nat->af}:∀{parts:List (Nat×Nat×dP)} {cs:List af},r2 (parts.flatMap fun p=>ig p.2.2) t t'->yO t cs parts=yO t' cs parts
 |[],cs,_=>rfl
 |(off,sz,x)::r,cs,h=>by simp only[List.flatMap_cons]at h;obtain⟨J,U⟩:=k6 h;simp only[yO,hl J,RR U]
def IF{t t':Nat->af}:∀{xs:List dP},r2 (xs.flatMap ig) t t'->xs.map (dY t)=xs.map (dY t')
 |[],_=>rfl
 |x::xs,h=>by simp only[List.flatMap_cons]at h;obtain⟨J,U⟩:=k6 h;simp[hl J,IF U]
def gO.isLoad:gO->Bool
 | .load _ _ _=>true
 | .loadB _ _ _=>true
 | .mgetB _ _ _ _ _=>true
 | .mget _ _ _ _ _=>true
 | .ment _=>true
 | .mlen _=>true
 |_=>false
def arN{t t':Nat->af}{b b2:aB->bd (List af)}{e f:aB->bd dW}{i:gO}(h:r2 i.looks t t')(a:i.isLoad=false):qY t b e i=qY t' b2 f i:=by
 cases i<;>simp only[gO.looks]at h<;>simp only[qY];case load agg sz x=>simp[gO.isLoad]at a
 case loadB agg sz x=>simp[gO.isLoad]at a
 case pick c x y=>obtain⟨J,d⟩:=k6 h;obtain⟨J,U⟩:=k6 J;rw[hl J,hl U,hl d]
 case iaddr=>obtain⟨J,U⟩:=k6 h;rw[hl J,hl U]
 case sidx=>obtain⟨J,U⟩:=k6 h;rw[hl J,hl U]
 case ssl=>obtain⟨J,d⟩:=k6 h;obtain⟨J,U⟩:=k6 J;rw[hl J,Hc U,Hc d]
 case lsl=>obtain⟨J,d⟩:=k6 h;obtain⟨J,U⟩:=k6 J;rw[hl J,Hc U,Hc d]
 case bin=>obtain⟨J,U⟩:=k6 h;rw[hl J,hl U]
 case min2=>obtain⟨J,U⟩:=k6 h;rw[hl J,hl U]
 case build=>rw[RR h]
 case mkf=>rw[IF h]
 case mget=>simp[gO.isLoad]at a
 case mgetB=>simp[gO.isLoad]at a
 case ment=>simp[gO.isLoad]at a
 case mlen=>simp[gO.isLoad]at a
 case max2=>obtain⟨J,U⟩:=k6 h;rw[hl J,hl U]
 case beq=>obtain⟨J,U⟩:=k6 h;rw[hl J,hl U]
 all_goals rw[hl h]
end
end Go.Pv
