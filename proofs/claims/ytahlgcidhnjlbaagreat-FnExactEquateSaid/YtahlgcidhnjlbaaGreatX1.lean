/- Regions that draw their order, I: abstract states as functions, effects, and what an instruction does to them. -/
import Derived.WalkKit
import Derived.Orders
import Derived.KernelRfl
import Derived.IntWalk
import Derived.Laws.StructEq
import Derived.ChangeKeysEq
import Derived.MapKept
import Derived.ArgAppend
import Derived.Laws.OwnMore
set_option linter.all false
set_option maxHeartbeats 4000000
set_option maxRecDepth 4000
namespace Go
def bi{p:Prop}(h:p:=by kernel_rfl):p:=h
def bv{p:Prop}(h:p:=by simp only[aQ,aD,aE,b5,cb];exact aX):p:=h
def ci{p:Prop}(h:p:=by first|exact cx _|exact cx ‹_› _):p:=h
def co{p:Prop}(h:p:=by simp[aQ,aD,aE]):p:=h
def dl{p:Prop}(h:p:=by simp[az]):p:=h
def d6{p:Prop}(h:p:=by simp;omega):p:=h
def d7{p:Prop}(h:p:=by simp[aM,ae,aQ,aD,aE]):p:=h
def d8{p:Prop}(h:p:=by first|exact jd _|exact jd ‹_› _):p:=h
def d9{p:Prop}(h:p:=by simp only[gW,aD,aE,b5,cb];exact aX):p:=h
def Ω{p:Prop}(h:p:=by omega):p:=h
def Ψ{p:Prop}(h:p:=by simp):p:=h
end Go
open Array renaming getElem?_toList->vt
open BitVec renaming ofInt->rW
open Bool renaming and_eq_true->cP,eq_iff_iff->q3,false_eq_true->hQ,not_eq_true'->sS
open ByteArray renaming empty->ado,ext->atu,push->aya,size->ayb
open Go renaming Program->cH,TypeId->gU
open Go.ByteArray renaming toList_eq->atv
open Go.IntKind renaming i64->vu
open Go.IntWalk renaming i64_in->pw
open Go.Op renaming bytesLess->ir
open Go.Region renaming wanted->qh
open Go.Result renaming andThen_ok->gC
open Go.Sem renaming run_bind->gx,run_pure->hA
open Go.Value renaming cells->pz,ownBlock->pA
open Go.Value.pointer renaming injEq->ayi
open Go.World.grownBy renaming refl->aty
open List renaming all_eq_true->j4,cons_append->b5,getElem?_append_left->rY,getElem?_eq_getElem->cl,getElem?_eq_none->q4,getElem?_eq_some_iff->fI,length_append->qi,length_cons->mT,length_drop->uj,map_cons->gV,map_nil->rZ,mem_append->kc,mem_cons->gI,mem_cons_of_mem->q5,mem_filter->oV,mem_map->hb,pairwise_cons->oh,take->mU,take_length->jz,take_of_length_le->iu
open List.cons renaming injEq->rX
open Nat renaming add_mul->q7,le_refl->dP,le_trans->kC,mul_le_mul_right->r2
open Option renaming bind_some->k4,isSome_iff_exists->fx,isSome_none->lH,map_eq_some_iff->hr,map_some->pC
open Option.some renaming injEq->dU
open Prod.mk renaming injEq->jn
open _root_ renaming False->er,Option->bd,UInt8->cU,and_true->jc,beq_iff_eq->ey,congrArg->fy,decide_eq_true_eq->gy
namespace Go.Pv
section
open Go Go.RowKit
inductive aB where
 |loc (s:Nat)
 |obj (n:Nat)
 deriving DecidableEq,Inhabited
inductive jE where
 |no
 |nil
 |own (k:aB)
 |tr (k:aB) (j:Nat)
 |lo (k:aB)
 deriving DecidableEq,Inhabited
inductive af where
 |junk
 |int (k:IntKind) (n:Int)
 |bool (b:Bool)
 |str (s:List cU)
 |slice (sz:Nat) (tag:jE) (xs:List af)
 |agg (cs:List af)
 |ptr (key:aB) (off:Nat)
 |eptr (x:af)
 |iface (t:Nat) (x:af)
 |nilp
 |tuple (bm:List af)
 |func (f:Nat) (dI:List af)
 |gmap (key:aB)
 |row (sz:Nat) (key:aB) (n:Nat)
 |rptr (sz:Nat) (key:aB) (n i f:Nat)
 |hdm (clock:Nat) (borns:List Nat)
 |hdi (since:Nat) (seen:List Nat) (last:Nat)
 |cst (v:Value)
 deriving Inhabited
structure bc where
 A:Nat->Nat->Prop
 bx:aB->bd Nat
 ow:aB->bd (Nat×Value)
 tr:aB->Nat->Nat->Prop
def lim:Nat:=68719476736
def kX(w:World)(A:Nat->Nat->Prop)(b:Nat):Nat->List Value->Prop
 |_,[]=>True
 |off,u::us=>(A b off/\w.cell? ⟨b,off,none⟩=some u)/\kX w A b (off+1) us
def shape(w:World)(b:Nat):bd (Nat×gU×(Nat×Nat)):=
 match w.heap[b]? with
 |some (.cells cur el fz)=>some (cur.size,el,fz)
 |_=>none
def yr{w w':World}{b:Nat}(h:w'.heap[b]? =w.heap[b]?):shape w' b=shape w b:=by unfold shape;rw[h]
mutual
def c0(t:Bool)(w:World)(A:Nat->Nat->Prop)(F:Nat->Prop):af->Value->Prop
 | .int k n,v=>v= .int k n
 | .bool b,v=>v= .bool b
 | .str s,v=>v= .string ⟨s.toArray⟩/\s.length<=lim
 | .slice sz _ xs,v=> ∃a cap,v= .slice a xs.length cap/\xs.length<=cap/\(cap<=maxLen/\xs.length<=lim)/\
   (xs=[]\/ ∃b off us G,a=some ⟨b,off,none⟩/\F b/\(∀c,G c->F c/\(t=true->c≠b))/\kX w A b off us/\(t=true->off=0/\0<us.length/\∃el,shape w b=some (cap*sz,el,(0,0)))/\jW t w A G sz xs us)
 | .agg cs,v=> ∃us:Array Value,v= .agg us/\kD t w A F cs us.toList
 |_,_=>er
def kD(t:Bool)(w:World)(A:Nat->Nat->Prop)(F:Nat->Prop):List af->List Value->Prop
 |[],us=>us=[]
 |c::cs,us=> ∃u e d a,us=u::e/\((∀b,d b->F b)/\(∀b,a b->F b)/\(t=true->∀b,d b->¬a b))/\(c0 t w A d c u/\u.oneCell'=true)/\kD t w A a cs e
def jW(t:Bool)(w:World)(A:Nat->Nat->Prop)(F:Nat->Prop)(sz:Nat):List af->List Value->Prop
 |[],us=>us=[]
 |x::xs,us=> ∃u e d a,us=u.cells.toList++e/\((∀b,d b->F b)/\(∀b,a b->F b)/\(t=true->∀b,d b->¬a b))/\(c0 t w A d x u/\u.cells.size=sz/\(∀c∈u.cells.toList,c.oneCell'=true))/\jW t w A a sz xs e
end
mutual
def aV(w:World)(ν:bc):af->Value->Prop
 | .junk,_=>True
 | .int k n,v=>v= .int k n
 | .bool b,v=>v= .bool b
 | .str s,v=>v= .string ⟨s.toArray⟩/\s.length<=lim
 | .slice sz tag xs,v=>
   (∃a cap,v= .slice a xs.length cap/\xs.length<=cap/\(cap<=maxLen/\xs.length<=lim)/\(xs=[]\/ ∃b off us,a=some ⟨b,off,none⟩/\kX w ν.A b off us/\dw w ν sz xs us))/\
   (tag= .nil->v= .slice none 0 0)/\
   (∀g,tag= .own g->∃n u,ν.ow g=some (n,u)/\xs.length<=n/\(xs.length=n->v=u))/\
   (∀k j,tag= .tr k j->c0 true w ν.A (ν.tr k j) (.slice sz tag xs) v)/\(∀k,tag= .lo k->c0 false w ν.A (ν.tr k 0) (.slice sz tag xs) v)
 | .agg cs,v=> ∃us:Array Value,v= .agg us/\cY w ν cs us.toList
 | .ptr key off,v=> ∃b,ν.bx key=some b/\v= .pointer (some ⟨b,off,none⟩)
 | .eptr x,v=> ∃b off u,v= .pointer (some ⟨b,off,none⟩)/\aV w ν x u/\kX w ν.A b off u.cells.toList
 | .iface t x,v=> ∃u,v= .iface t u/\aV w ν x u
 | .nilp,v=>v= .pointer none
 | .tuple bm,v=> ∃us:Array Value,v= .tuple us/\c7 w ν bm us.toList
 | .func f dI,v=> ∃us:Array Value,v= .func (.func f) #[] us/\c7 w ν dI us.toList
 | .gmap key,v=> ∃b,ν.bx key=some b/\v= .map (some b)
 | .row _ key n,v=>(∃b cap,v= .slice (some ⟨b,0,none⟩) n cap)/\n<=lim/\∃n' u,ν.ow key=some (n',u)/\n<=n'/\(n=n'->v=u)
 | .rptr sz key n i f,v=>(∃b o,v= .pointer (some ⟨b,o,none⟩))/\i<n/\∃n' u,ν.ow key=some (n',u)/\n<=n'/\(n=n'->∃b,u.ownBlock=some b/\v= .pointer (some ⟨b,i*sz+f,none⟩))
 | .hdm _ _,_=>er
 | .hdi _ _ _,_=>er
 | .cst c,v=>v=c
def cY(w:World)(ν:bc):List af->List Value->Prop
 |[],us=>us=[]
 |c::cs,us=> ∃u a,us=u::a/\(aV w ν c u/\u.oneCell'=true)/\cY w ν cs a
def c7(w:World)(ν:bc):List af->List Value->Prop
 |[],us=>us=[]
 |c::cs,us=> ∃u a,us=u::a/\aV w ν c u/\c7 w ν cs a
def dw(w:World)(ν:bc)(sz:Nat):List af->List Value->Prop
 |[],us=>us=[]
 |x::xs,us=> ∃u a,us=u.cells.toList++a/\(aV w ν x u/\u.cells.size=sz/\(∀c∈u.cells.toList,c.oneCell'=true))/\dw w ν sz xs a
end
def B4{w w':World}{A c:Nat->Nat->Prop}{b:Nat}(a:∀b o,A b o->c b o/\w'.cell? ⟨b,o,none⟩=w.cell? ⟨b,o,none⟩):
  ∀(us:List Value) (off:Nat),kX w A b off us->kX w' c b off us
 |[],_,_=>trivial
 |_::us,off,h=>⟨⟨(a _ _ h.1.1).1,(a _ _ h.1.1).2.trans h.1.2⟩,B4 a us (off+1) h.2⟩
mutual
def vX{t:Bool}{w w':World}{A j:Nat->Nat->Prop}(f:∀b o,A b o->j b o/\w'.cell? ⟨b,o,none⟩=w.cell? ⟨b,o,none⟩)(g:∀b o,A b o->shape w' b=shape w b):∀(p:af) (F d:Nat->Prop) (v:Value),(∀b,F b->d b)->c0 t w A F p v->c0 t w' j d p v
 | .int k n,_,_,_,_,h=>by simp only[c0]at h⊢;exact h
 | .bool b,_,_,_,_,h=>by simp only[c0]at h⊢;exact h
 | .str s,_,_,_,_,h=>by simp only[c0]at h⊢;exact h
 | .slice sz tag xs,F,d,v,e,h=>by
  simp only[c0]at h⊢;obtain⟨a,cap,J,U,x,i⟩:=h;refine⟨a,cap,J,U,x,?_⟩;rcases i with i|⟨b,off,us,G,y,B,l,m,r,q⟩
  ·exact .inl i
  ·refine .inr ⟨b,off,us,G,y,e _ B,fun c ax=>⟨e _ (l c ax).1,(l c ax).2⟩,B4 f _ _ m,fun z=>?_,Ho f g xs G G _ (fun _ h=>h) q⟩;obtain⟨f1,f2,el,f3⟩:=r z;refine⟨f1,f2,el,?_⟩;cases us with
   |nil=>simp at f2
   |cons u us=>rw[g b off m.1.1];exact f3
 | .agg cs,F,d,v,e,h=>by simp only[c0]at h⊢;obtain⟨us,J,U⟩:=h;exact⟨us,J,VA f g cs F d _ e U⟩
 | .junk,_,_,_,_,h=>by simp[c0]at h
 | .ptr _ _,_,_,_,_,h=>by simp[c0]at h
 | .eptr _,_,_,_,_,h=>by simp[c0]at h
 | .iface _ _,_,_,_,_,h=>by simp[c0]at h
 | .nilp,_,_,_,_,h=>by simp[c0]at h
 | .tuple _,_,_,_,_,h=>by simp[c0]at h
 | .func _ _,_,_,_,_,h=>by simp[c0]at h
 | .gmap _,_,_,_,_,h=>by simp[c0]at h
 | .row _ _ _,_,_,_,_,h=>by simp[c0]at h
 | .rptr _ _ _ _ _,_,_,_,_,h=>by simp[c0]at h
 | .hdm _ _,_,_,_,_,h=>by simp[c0]at h
 | .hdi _ _ _,_,_,_,_,h=>by simp[c0]at h
 | .cst _,_,_,_,_,h=>by simp[c0]at h
def VA{t:Bool}{w w':World}{A i:Nat->Nat->Prop}(j:∀b o,A b o->i b o/\w'.cell? ⟨b,o,none⟩=w.cell? ⟨b,o,none⟩)(l:∀b o,A b o->shape w' b=shape w b):∀(cs:List af) (F a:Nat->Prop) (us:List Value),(∀b,F b->a b)->kD t w A F cs us->kD t w' i a cs us
 |[],_,_,_,_,h=>by simp only[kD]at h⊢;exact h
 |c::cs,F,a,us,g,h=>by simp only[kD]at h⊢;obtain⟨u,k,e,d,J,⟨U,q,r⟩,⟨p,n⟩,m⟩:=h;exact⟨u,k,e,d,J,⟨fun b f=>g _ (U b f),fun b f=>g _ (q b f),r⟩,⟨vX j l c e e u (fun _ h=>h) p,n⟩,VA j l cs d d k (fun _ h=>h) m⟩
def Ho{t:Bool}{w w':World}{A i:Nat->Nat->Prop}(j:∀b o,A b o->i b o/\w'.cell? ⟨b,o,none⟩=w.cell? ⟨b,o,none⟩)(l:∀b o,A b o->shape w' b=shape w b){sz:Nat}:∀(cs:List af) (F a:Nat->Prop) (us:List Value),(∀b,F b->a b)->jW t w A F sz cs us->jW t w' i a sz cs us
 |[],_,_,_,_,h=>by simp only[jW]at h⊢;exact h
 |c::cs,F,a,us,g,h=>by simp only[jW]at h⊢;obtain⟨u,k,e,d,J,⟨U,q,r⟩,⟨p,n⟩,m⟩:=h;exact⟨u,k,e,d,J,⟨fun b f=>g _ (U b f),fun b f=>g _ (q b f),r⟩,⟨vX j l c e e u (fun _ h=>h) p,n⟩,Ho j l cs d d k (fun _ h=>h) m⟩
end
mutual
def az(S:aB->Prop):af->Prop
 | .slice _ tag xs=>(match tag with| .own k=>S k| .tr k _=>S k| .lo k=>S k|_=>True)/\aH S xs
 | .agg cs=>aH S cs
 | .ptr k _=>S k
 | .eptr x=>az S x
 | .iface _ x=>az S x
 | .tuple bm=>aH S bm
 | .func _ dI=>aH S dI
 | .gmap k=>S k
 | .row _ k _=>S k
 | .rptr _ k _ _ _=>S k
 |_=>True
def aH(S:aB->Prop):List af->Prop
 |[]=>True
 |x::xs=>az S x/\aH S xs
end
mutual
def tJ{S T:aB->Prop}(h:∀k,S k->T k):∀p:af,az S p->az T p
 | .junk,_=>by simp[az]
 | .int _ _,_=>by simp[az]
 | .bool _,_=>by simp[az]
 | .str _,_=>by simp[az]
 | .slice sz tag xs,a=>by simp only[az]at a⊢;exact⟨by cases tag<;>first|trivial|exact h _ a.1,ji h xs a.2⟩
 | .agg cs,a=>by simp only[az]at a⊢;exact ji h cs a
 | .ptr k _,a=>by simp only[az]at a⊢;exact h _ a
 | .eptr x,a=>by simp only[az]at a⊢;exact tJ h x a
 | .iface _ x,a=>by simp only[az]at a⊢;exact tJ h x a
 | .nilp,_=>by simp[az]
 | .tuple bm,a=>by simp only[az]at a⊢;exact ji h bm a
 | .func _ dI,a=>by simp only[az]at a⊢;exact ji h dI a
 | .gmap k,a=>by simp only[az]at a⊢;exact h _ a
 | .row _ k _,a=>by simp only[az]at a⊢;exact h _ a
 | .rptr _ k _ _ _,a=>by simp only[az]at a⊢;exact h _ a
 | .hdm _ _,_=>by simp[az]
 | .hdi _ _ _,_=>by simp[az]
 | .cst _,_=>by simp[az]
def ji{S T:aB->Prop}(h:∀k,S k->T k):∀b:List af,aH S b->aH T b
 |[],_=>by simp[aH]
 |x::xs,a=>by simp only[aH]at a⊢;exact⟨tJ h x a.1,ji h xs a.2⟩
end
mutual
def Ir:∀p:af,az (fun _=>True) p
 | .junk=>by simp[az]
 | .int _ _=>by simp[az]
 | .bool _=>by simp[az]
 | .str _=>by simp[az]
 | .slice sz tag xs=>by simp only[az];exact⟨by cases tag<;>trivial,wz xs⟩
 | .agg cs=>by simp only[az];exact wz cs
 | .ptr k _=>by simp[az]
 | .eptr x=>by simp only[az];exact Ir x
 | .iface _ x=>by simp only[az];exact Ir x
 | .nilp=>by simp[az]
 | .tuple bm=>by simp only[az];exact wz bm
 | .func _ dI=>by simp only[az];exact wz dI
 | .gmap k=>by simp[az]
 | .row _ k _=>by simp[az]
 | .rptr _ k _ _ _=>by simp[az]
 | .hdm _ _=>by simp[az]
 | .hdi _ _ _=>by simp[az]
 | .cst _=>by simp[az]
def wz:∀a:List af,aH (fun _=>True) a
 |[]=>by simp[aH]
 |x::xs=>by simp only[aH];exact⟨Ir x,wz xs⟩
end
def gQ:List Nat->List Value->List MapEntry
 |b::a,k::v::r=>⟨k,v,b⟩::gQ a r
 |_,_=>[]
def lZ(cs:List af)(us:Array Value)(el:gU):Obj:=
 match cs with
 | .hdm clock borns::_=>.map (gQ borns us.toList).toArray clock
 | .hdi since seen last::_=>.mapIter (match us.toList with|[.map m]=>m|_=>none) since seen.toArray last
 |_=>.cells us el
structure amv (clock:Nat) (borns:List Nat) (r:List af):Prop where
 len:r.length=2*borns.length
 inc:borns.Pairwise (· < ·)
 lt:∀b∈borns,b<clock
def k2(w:World)(ν:bc)(cs:List af)(us:List Value):Prop:=
 match cs with
 | .hdm clock borns::r=>c7 w ν r us/\amv clock borns r
 | .hdi _ _ _::r=>c7 w ν r us
 |cs=>cY w ν cs us
def gY:List af->Bool
 | .hdm _ _::_=>false
 | .hdi _ _ _::_=>false
 |_=>true
def wP{w:World}{ν:bc}{cs:List af}{us:List Value}(h:cY w ν cs us):gY cs=true:=by
 unfold gY;split
 ·simp only[cY,aV]at h;obtain⟨_,_,_,⟨h,_⟩,_⟩:=h;exact h.elim
 ·simp only[cY,aV]at h;obtain⟨_,_,_,⟨h,_⟩,_⟩:=h;exact h.elim
 ·rfl
def pg{cs:List af}(h:gY cs=true)(us:Array Value)(el:gU):lZ cs us el= .cells us el:=by
 unfold gY at h;unfold lZ;split at h<;>first|cases h|skip
 rfl
def pj{w:World}{ν:bc}{cs:List af}(h:gY cs=true)(us:List Value):k2 w ν cs us=cY w ν cs us:=by
 unfold gY at h;unfold k2;split at h<;>first|cases h|skip
 rfl
structure oi (S:aB->Prop) (w:World) (ν:bc) (w':World) (bn:bc):Prop where
 A:∀b o,ν.A b o->bn.A b o/\w'.cell? ⟨b,o,none⟩=w.cell? ⟨b,o,none⟩
 bx:∀k b,S k->ν.bx k=some b->bn.bx k=some b
 ow:∀g n u,S g->ν.ow g=some (n,u)->∃n' eJ,bn.ow g=some (n',eJ)/\(n'=n/\eJ=u\/n<n')
 sh:∀b o,ν.A b o->shape w' b=shape w b
 tr:∀k j b,S k->ν.tr k j b->bn.tr k j b
abbrev mv:=oi (fun _=>True)
mutual
def vi{S:aB->Prop}{w w':World}{ν bn:bc}(ar:oi S w ν w' bn):∀(p:af) (v:Value),az S p->aV w ν p v->aV w' bn p v
 | .junk,_,_,_=>by simp[aV]
 | .int k n,_,_,h=>by simp only[aV]at h⊢;exact h
 | .bool b,_,_,h=>by simp only[aV]at h⊢;exact h
 | .str s,_,_,h=>by simp only[aV]at h⊢;exact h
 | .slice sz tag xs,v,ab,h=>by
  simp only[aV,az]at h ab⊢;obtain⟨⟨a,cap,J,U,l,d⟩,o,y,A,z⟩:=h;refine⟨⟨a,cap,J,U,l,?_⟩,o,fun g be=>?_,fun k j m=>?_,fun k m=>?_⟩
  ·rcases d with d|⟨b,off,us,d,y,B⟩
   ·exact .inl d
   ·exact .inr ⟨b,off,us,d,B4 ar.A _ _ y,JB ar sz xs us ab.2 B⟩
  ·obtain⟨n,u,G,H,F⟩:=y g be;subst be;obtain⟨n',E,f1,f2⟩:=ar.ow g n u ab.1 G;refine⟨n',E,f1,?_⟩;rcases f2 with⟨rfl,rfl⟩|f2
   ·exact⟨H,F⟩
   ·exact⟨Ω,fun e=>Ω⟩
  ·have:=A k j m;subst m;exact vX ar.A ar.sh _ _ _ _ (fun b=>ar.tr k j b ab.1) this
  ·have:=z k m;subst m;exact vX ar.A ar.sh _ _ _ _ (fun b=>ar.tr k 0 b ab.1) this
 | .agg cs,v,ab,h=>by simp only[aV,az]at h ab⊢;obtain⟨us,J,U⟩:=h;exact⟨us,J,JE ar cs _ ab U⟩
 | .ptr key off,v,ab,h=>by simp only[aV,az]at h ab⊢;obtain⟨b,J,U⟩:=h;exact⟨b,ar.bx _ _ ab J,U⟩
 | .iface t x,v,ab,h=>by simp only[aV,az]at h ab⊢;obtain⟨u,J,U⟩:=h;exact⟨u,J,vi ar x u ab U⟩
 | .eptr x,v,ab,h=>by simp only[aV,az]at h ab⊢;obtain⟨b,off,u,J,U,l⟩:=h;exact⟨b,off,u,J,vi ar x u ab U,B4 ar.A _ _ l⟩
 | .nilp,_,_,h=>by simp only[aV]at h⊢;exact h
 | .tuple bm,v,ab,h=>by simp only[aV,az]at h ab⊢;obtain⟨us,J,U⟩:=h;exact⟨us,J,Ai ar bm _ ab U⟩
 | .func f dI,v,ab,h=>by simp only[aV,az]at h ab⊢;obtain⟨us,J,U⟩:=h;exact⟨us,J,Ai ar dI _ ab U⟩
 | .gmap key,v,ab,h=>by simp only[aV,az]at h ab⊢;obtain⟨b,J,U⟩:=h;exact⟨b,ar.bx _ _ ab J,U⟩
 | .row sz key n,v,ab,h=>by
  simp only[aV,az]at h ab⊢;obtain⟨J,U,n',u,l,d,o⟩:=h;obtain⟨r,q,f1,f2⟩:=ar.ow key n' u ab l;refine⟨J,U,r,q,f1,?_⟩;rcases f2 with⟨rfl,rfl⟩|f2
  ·exact⟨d,o⟩
  ·exact⟨Ω,fun e=>Ω⟩
 | .rptr sz key n i f,v,ab,h=>by
  simp only[aV,az]at h ab⊢;obtain⟨J,U,n',u,l,d,o⟩:=h;obtain⟨r,q,f1,f2⟩:=ar.ow key n' u ab l;refine⟨J,U,r,q,f1,?_⟩;rcases f2 with⟨rfl,rfl⟩|f2
  ·exact⟨d,o⟩
  ·exact⟨Ω,fun e=>Ω⟩
 | .hdm _ _,_,_,h=>by simp only[aV]at h
 | .hdi _ _ _,_,_,h=>by simp only[aV]at h
 | .cst c,_,_,h=>by simp only[aV]at h⊢;exact h
def JE{S:aB->Prop}{w w':World}{ν bn:bc}(ar:oi S w ν w' bn):∀(cs:List af) (us:List Value),aH S cs->cY w ν cs us->cY w' bn cs us
 |[],_,_,h=>by simp only[cY]at h⊢;exact h
 |c::cs,us,ab,h=>by simp only[cY,aH]at h ab⊢;obtain⟨u,a,J,U,b⟩:=h;exact⟨u,a,J,⟨vi ar c u ab.1 U.1,U.2⟩,JE ar cs a ab.2 b⟩
def Ai{S:aB->Prop}{w w':World}{ν bn:bc}(ar:oi S w ν w' bn):∀(cs:List af) (us:List Value),aH S cs->c7 w ν cs us->c7 w' bn cs us
 |[],_,_,h=>by simp only[c7]at h⊢;exact h
 |c::cs,us,ab,h=>by simp only[c7,aH]at h ab⊢;obtain⟨u,a,J,U,b⟩:=h;exact⟨u,a,J,vi ar c u ab.1 U,Ai ar cs a ab.2 b⟩
def JB{S:aB->Prop}{w w':World}{ν bn:bc}(ar:oi S w ν w' bn)(sz:Nat):∀(xs:List af) (us:List Value),aH S xs->dw w ν sz xs us->dw w' bn sz xs us
 |[],_,_,h=>by simp only[dw]at h⊢;exact h
 |x::xs,us,ab,h=>by simp only[dw,aH]at h ab⊢;obtain⟨u,a,J,⟨U,c,d⟩,b⟩:=h;exact⟨u,a,J,⟨vi ar x u ab.1 U,c,d⟩,JB ar sz xs a ab.2 b⟩
end
def PW{S:aB->Prop}{w w':World}{ν bn:bc}(ar:oi S w ν w' bn){cs:List af}{us:List Value}(ab:aH S cs)(h:k2 w ν cs us):k2 w' bn cs us:=by
 unfold k2 at h⊢;split
 ·simp only[aH]at ab;exact⟨Ai ar _ _ ab.2 h.1,h.2⟩
 ·simp only[aH]at ab;exact Ai ar _ _ ab.2 h
 ·rename_i J U;split at h
  ·exact absurd rfl (J _ _ _)
  ·exact absurd rfl (U _ _ _ _)
  ·exact JE ar _ _ ab h
section
variable {w w':World} {ν bn:bc} (ar:mv w ν w' bn)
include ar
theorem Aj{p:af}{v:Value}(h:aV w ν p v):aV w' bn p v:=vi ar p v (Ir p) h
theorem abi{p:List af}{v:List Value}(h:cY w ν p v):cY w' bn p v:=JE ar p v (wz p) h
theorem JF{p:List af}{v:List Value}(h:c7 w ν p v):c7 w' bn p v:=Ai ar p v (wz p) h
theorem rM{p:List af}{v:List Value}(h:k2 w ν p v):k2 w' bn p v:=PW ar (wz p) h
theorem CI{sz:Nat}{p:List af}{v:List Value}(h:dw w ν sz p v):dw w' bn sz p v:=JB ar sz p v (wz p) h
end
end
section
open Go Go.RowKit
def get(k:Nat):List (Nat×af)->af
 |[]=>.junk
 |(i,p)::r=>if i=k then p else get k r
def put(k:Nat)(p:af):List (Nat×af)->List (Nat×af)
 |[]=>[(k,p)]
 |(i,q)::r=>if i=k then(i,p)::r else(i,q)::put k p r
def ae{α:Type}(k:aB):List (aB×α)->bd α
 |[]=>none
 |(i,p)::r=>if i=k then some p else ae k r
def cI{α:Type}(k:aB)(p:α):List (aB×α)->List (aB×α)
 |[]=>[(k,p)]
 |(i,q)::r=>if i=k then(i,p)::r else(i,q)::cI k p r
def qy(k j:Nat)(p:af):∀l,get j (put k p l)=if k=j then p else get j l
 |[]=>by simp[get,put]
 |(i,q)::r=>by
  by_cases h:i=k
  ·subst h;by_cases U:i=j<;>simp[get,put,U]
  ·by_cases U:i=j
   ·subst U;simp[get,put,h,Ne.symm h]
   ·simp[get,put,h,U,qy k j p r]
def jj{α:Type}(k j:aB)(p:α):∀l,ae j (cI k p l)=if k=j then some p else ae j l
 |[]=>by simp[ae,cI]
 |(i,q)::r=>by
  by_cases h:i=k
  ·subst h;by_cases U:i=j<;>simp[ae,cI,U]
  ·by_cases U:i=j
   ·subst U;simp[ae,cI,h,Ne.symm h]
   ·simp[ae,cI,h,U,jj k j p r]
structure dW where
 n:Nat
 el:Nat
 sz:Nat
 xs:bd (List af)
def P2(w:World)(ν:bc)(o:dW)(v:Value)(us:List Value):Prop:=∀xs,o.xs=some xs->xs.length=o.n/\dw w ν o.sz xs us/\∀bl,v.ownBlock=some bl->∀j,¬ν.A bl j
def tZ{w w':World}{ν bn:bc}(ar:mv w ν w' bn){o:dW}{v:Value}{us:List Value}(c:∀bl,v.ownBlock=some bl->∀j,bn.A bl j->ν.A bl j)(h:P2 w ν o v us):P2 w' bn o v us:=fun xs a=>⟨(h xs a).1,CI ar (h xs a).2.1,fun bl b j d=>(h xs a).2.2 bl b j (c bl b j d)⟩
def dV(S:aB->Prop)(o:dW):Prop:= ∀xs,o.xs=some xs->aH S xs
structure bp where
 t:List (Nat×af)
 b:List (aB×List af)
 e:List (aB×dW)
 n:Nat
 o:List aB
def fresh(n:Nat)(o:List aB)(k:aB):Prop:=(match k with| .loc m=>n<=m| .obj _=>True)/\k∉o
def Ml{n n':Nat}{o o':List aB}(a:n<=n')(ar:∀k∈o,k∈o'){k:aB}(h:fresh n' o' k):fresh n o k:=by unfold fresh at h⊢;exact⟨by cases k<;>simp at h⊢;omega,fun ab=>h.2 (ar k ab)⟩
def CV(ν:bc)(b:List (aB×List af))(e:List (aB×dW))(bl:Nat):Prop:=(∃k,(ae k b).isSome/\ν.bx k=some bl)\/(∃g n v,(ae g e).isSome/\ν.ow g=some (n,v)/\v.ownBlock=some bl)
structure Good (pr:Nat->Prop) (w:World) (ν:bc) (b:List (aB×List af)) (e:List (aB×dW)):Prop where
 alt:∀bl o,ν.A bl o->bl<w.heap.size
 box:∀k cs,ae k b=some cs->∃bl us el,ν.bx k=some bl/\pr bl/\(∀o,¬ν.A bl o)/\w.heap[bl]? =some (lZ cs us el)/\k2 w ν cs us.toList
 inj:∀k bt bl,(ae k b).isSome->(ae bt b).isSome->ν.bx k=some bl->ν.bx bt=some bl->k=bt
 own:∀g o,ae g e=some o->∃v us,ν.ow g=some (o.n,v)/\w.ownsRow 0 o.el o.sz v o.n us/\(∀bl,v.ownBlock=some bl->pr bl/\(∀j,ν.A bl j->j<o.n*o.sz))/\P2 w ν o v us
 oinj:∀g fE n n' v v' bl,(ae g e).isSome->(ae fE e).isSome->ν.ow g=some (n,v)->ν.ow fE=some (n',v')->v.ownBlock=some bl->v'.ownBlock=some bl->g=fE
 obx:∀g k n v bl,(ae g e).isSome->(ae k b).isSome->ν.ow g=some (n,v)->v.ownBlock=some bl->ν.bx k=some bl->er
 one:∀k,ν.bx k=none\/ν.ow k=none
 otr:∀bl,CV ν b e bl->∀k j,¬ν.tr k j bl
structure fp where
 w0:World
 ν0:bc
 mt:Nat->Prop
 N:Nat
 ob:List aB
def fp.pr(C:fp)(bl:Nat):Prop:=C.mt bl\/C.w0.heap.size<=bl
def ef:aB:= .obj 990001
def qV:aB:= .obj 990002
structure pD (C:fp) (w:World) (ν:bc):Prop where
 os:w.os=C.w0.os
 tape:w.tape=C.w0.tape
 output:w.output=C.w0.output
 size:C.w0.heap.size<=w.heap.size
 block:∀k,k<C.w0.heap.size->¬C.mt k->w.heap[k]? =C.w0.heap[k]?
 keep:∀b o,C.ν0.A b o->ν.A b o/\w.cell? ⟨b,o,none⟩=C.w0.cell? ⟨b,o,none⟩
 fresh:∀b o,ν.A b o->C.ν0.A b o\/C.pr b
 obj:∀n b,C.ν0.bx (.obj n)=some b->ν.bx (.obj n)=some b
 obn:∀n b,C.ν0.bx (.obj n)=some b-> .obj n∈C.ob
 row:∀m n u,C.ν0.ow (.obj m)=some (n,u)->∃n' eJ,ν.ow (.obj m)=some (n',eJ)/\(n'=n/\eJ=u\/n<n')
 obr:∀m n u,C.ν0.ow (.obj m)=some (n,u)-> .obj m∈C.ob
 trd:∀k j bt dg b,ν.tr k j b->ν.tr bt dg b->k=bt/\j=dg
 trb:∀k j b,ν.tr k j b->(k=ef\/C.w0.heap.size<=b)/\b<w.heap.size
 trn:∀k j b,ν.tr k j b->ν.bx k=none/\ν.ow k=none
 sh:∀b o,C.ν0.A b o->shape w b=shape C.w0 b
def FB{ν bn:bc}{g:aB}{n:Nat}{u:Value}(h:∃n' a,ν.ow g=some (n',a)/\(n'=n/\a=u\/n<n'))(ar:∀n u,ν.ow g=some (n,u)->∃n' a,bn.ow g=some (n',a)/\(n'=n/\a=u\/n<n')):
  ∃n' a,bn.ow g=some (n',a)/\(n'=n/\a=u\/n<n'):=by
 obtain⟨e,d,i,b⟩:=h;obtain⟨f,c,f1,f2⟩:=ar e d i;refine⟨f,c,f1,?_⟩;rcases b with⟨rfl,rfl⟩|b
 ·exact f2
 ·rcases f2 with⟨rfl,rfl⟩|f2
  ·exact .inr b
  ·exact .inr Ω
structure c9 (C:fp) (st:bp) (a:Act) (w:World) (ν:bc):Prop where
 good:Good C.pr w ν st.b st.e
 fr:pD C w ν
 defers:a.defers=[]
 size:a.tmps.size=C.N
 slot:∀i,aV w ν (get i st.t) (a.tmps.getD i undef)
 new:∀k,fresh st.n st.o k->ν.bx k=none/\ν.ow k=none/\∀j b,¬ν.tr k j b
def e7(d:bd Nat)(p:af)(t:List (Nat×af)):List (Nat×af):=
 match d with
 |some d=>put d p t
 |none=>t
def j6(N:Nat)(d:bd Nat):Bool:=match d with|some d=>decide (d<N)|none=>true
def c9.put{C:fp}{st:bp}{a:Act}{w:World}{ν:bc}(h:c9 C st a w ν){d:bd Nat}(f:j6 C.N d=true){p:af}{v:Value}(c:aV w ν p v):
  c9 C {st with t:=e7 d p st.t} (a.put d v) w ν:=by
 cases d with
 |none=>exact h
 |some d=>
  have b:d<a.tmps.size:=by rw[h.size];simpa[j6]using f
  refine⟨h.good,h.fr,h.defers,by simpa[Act.put]using h.size,fun i=>?_,h.new⟩;simp only[e7,qy];by_cases e:d=i
  ·subst e;simpa[Act.put,Array.getD_eq_getD_getElem?,b]using c
  ·have:=h.slot i;simpa[e,Act.put,Array.getD_eq_getD_getElem?,Array.getElem?_setIfInBounds_ne e]using this
def c9.over{C:fp}{st st':bp}{a:Act}{w w':World}{ν bn:bc}(h:c9 C st a w ν)(ar:mv w ν w' bn)(c:st'.t=st.t)(be:Good C.pr w' bn st'.b st'.e)(d:pD C w' bn)
  (e:∀k,fresh st'.n st'.o k->bn.bx k=none/\bn.ow k=none/\∀j b,¬bn.tr k j b):c9 C st' a w' bn:=
 ⟨be,d,h.defers,h.size,fun i=>by rw[c];exact Aj ar (h.slot i),e⟩
inductive dQ where
 |t (i:Nat)
 |c (p:af)
 deriving Inhabited
def cE(t:List (Nat×af)):dQ->af
 | .t i=>get i t
 | .c p=>p
def Gy:af->Value->Bool
 | .int k n,.int bt n'=>decide (k=bt/\n=n')
 | .bool b,.bool b0=>b==b0
 | .str s,.string l=>decide (l.data.toList=s/\s.length<=lim)
 | .slice _ .nil [],.slice none 0 0=>true
 | .nilp,.pointer none=>true
 | .tuple [],.tuple ⟨[]⟩=>true
 | .func f [],.func (.func g) ⟨[]⟩ ⟨[]⟩=>f==g
 | .junk,_=>true
 |_,_=>false
def RV(w:World)(ν:bc){p:af}{v:Value}(h:Gy p v=true):aV w ν p v:=by
 unfold Gy at h;split at h
 ·simp at h;obtain⟨rfl,rfl⟩:=h;simp[aV]
 ·simp at h;subst h;simp[aV]
 ·rename_i s l;simp at h;obtain⟨J,U⟩:=h;refine⟨?_,U⟩;subst J;simp
 ·simp only[aV];refine⟨⟨none,0,rfl,Ψ,Ψ,Ψ⟩,Ψ,(fun _ h=>by cases h),(fun _ _ h=>by cases h),(fun _ h=>by cases h)⟩
 ·simp[aV]
 ·simp[aV,c7]
 ·simp at h;subst h;simp[aV,c7]
 ·simp[aV]
 ·cases h
def AR:List af->List Value->Bool
 |[],[]=>true
 |p::a,v::bm=>Gy p v&&v.oneCell'&&AR a bm
 |_,_=>false
def AQ:af->Value->Bool
 | .agg cs,.agg us=>AR cs us.toList
 |p,v=>Gy p v
def RW(w:World)(ν:bc):∀(a:List af) (bm:List Value),AR a bm=true->cY w ν a bm
 |[],[],_=>by simp[cY]
 |[],_::_,h=>by simp[AR]at h
 |_::_,[],h=>by simp[AR]at h
 |p::a,v::bm,h=>by simp only[AR,cP]at h;simp only[cY];exact⟨v,bm,rfl,⟨RV w ν h.1.1,h.1.2⟩,RW w ν a bm h.2⟩
def K1(w:World)(ν:bc){p:af}{v:Value}(h:AQ p v=true):aV w ν p v:=by
 unfold AQ at h;split at h
 ·simp only[aV];exact⟨_,rfl,RW w ν _ _ h⟩
 ·exact RV w ν h
def eS:dQ->Operand->Bool
 | .t i,.tmp j=>i==j
 | .c p,.const v=>AQ p v
 | .c (.func f []),.func g=>f==g
 |_,_=>false
def e5{C:fp}{st:bp}{a:Act}{w:World}{ν:bc}(h:c9 C st a w ν){x:dQ}{o:Operand}(b:eS x o=true):aV w ν (cE st.t x) (a.eval o):=by
 unfold eS at b;split at b
 ·simp at b;subst b;simpa[cE,Act.eval]using h.slot _
 ·simpa[cE,Act.eval]using K1 w ν b
 ·simp at b;subst b;simp[cE,Act.eval,aV,c7]
 ·cases b
inductive De where
 |int (k:IntKind)
 |bool
 |str
 |slice (e:Nat)
 |struct (ek:List (Nat×Nat))
 |map (k e:Nat)
 |other
 deriving DecidableEq
structure ev where
 size:Nat
 bytes:Nat
 kind:De
 zero:af
def De.isAgg:De->Bool
 | .struct _=>true
 |_=>false
def C6:List af->List Value->Bool
 |[],[]=>true
 |p::a,v::bm=>AQ p v&&v.oneCell'&&C6 a bm
 |_,_=>false
def AD:af->Value->Bool
 | .agg cs,.agg us=>C6 cs us.toList
 | .agg _,_=>false
 |p,v=>AQ p v&&v.oneCell'
def k7:De->TypeDesc->Bool
 | .int k,.int bt=>decide (k=bt)
 | .bool,.bool=>true
 | .str,.string=>true
 | .slice e,.slice a=>e==a
 | .struct b,.struct gs=>decide (gs.toList.map (fun f=>(f.offset,f.type))=b)
 | .map k e,.map bt a=>k==bt&&e==a
 | .other,d=>match d with| .struct _| .array _ _| .int _| .bool| .string| .slice _=>false|_=>true
 |_,_=>false
def Vn(P:cH)(gs:Array Field):Bool:=gs.toList.all fun f=>match P.underlying f.type with|some (.int _)=>true|some .string=>true|_=>false
def T8(P:cH)(t:Nat)(gs:Array Field):Bool:=gs.toList.all (fun f=>f.name != "_")&& !P.stoodInHeld t&& !P.eqGuardType P.depth t
def LC(P:cH)(t:Nat):TypeDesc->Bool
 | .struct gs=> !Vn P gs||T8 P t gs
 |_=>true
def QK(P:cH)(t:Nat)(f:ev):Bool:=
 match P.info? t,P.underlying t with
 |some i,some d=>LC P t d&&i.size==f.size&&i.bytes==f.bytes&&k7 f.kind d&&(match i.zero with|some z=>AD f.zero z&&z.cells.size==f.size|none=>false)
 |_,_=>false
def hX(P:cH)(aT:List (Nat×ev)):Bool:=aT.all fun x=>QK P x.1 x.2
def eG(aT:List (Nat×ev))(t:Nat):bd ev:=(aT.find? fun x=>x.1==t).map (·.2)
def arG{P:cH}{aT:List (Nat×ev)}(h:hX P aT=true){t:Nat}{f:ev}(b:eG aT t=some f):QK P t f=true:=by
 unfold eG at b;cases a:aT.find? fun x=>x.1==t with
 |none=>simp[a]at b
 |some x=>simp[a]at b;have J:=List.find?_some a;simp at J;have U:=List.mem_of_find?_eq_some a;have c:=j4.1 h x U;rw[<-b,<-J];exact c
structure adL (P:cH) (t:Nat) (f:ev):Prop where
 cmp:∀d,P.underlying t=some d->LC P t d=true
 ex:∃i d z,P.info? t=some i/\P.underlying t=some d/\i.size=f.size/\i.bytes=f.bytes/\k7 f.kind d=true/\i.zero=some z/\AD f.zero z=true/\z.cells.size=f.size
def wY{P:cH}{aT:List (Nat×ev)}(h:hX P aT=true){t:Nat}{f:ev}(l:eG aT t=some f):adL P t f:=by
 have h:=arG h l;unfold QK at h;split at h
 ·rename_i i d J U;simp only[cP,ey]at h;obtain⟨⟨⟨⟨g,j⟩,k⟩,c⟩,a⟩:=h;split at a
  ·rename_i z e;simp only[cP,ey]at a;exact⟨fun m b=>by rw[U]at b;cases b;exact g,i,d,z,J,U,j,k,c,e,a.1,a.2⟩
  ·cases a
 ·cases h
def pL(b o j:Nat):(⟨b,o,none⟩:Addr).add j=⟨b,o+j,none⟩:=by
 unfold Addr.add;split
 ·rename_i h;subst h;rfl
 ·rfl
def Q6(w:World)(ν:bc):∀(a:List af) (bm:List Value),C6 a bm=true->cY w ν a bm
 |[],[],_=>by simp[cY]
 |[],_::_,h=>by simp[C6]at h
 |_::_,[],h=>by simp[C6]at h
 |p::a,v::bm,h=>by simp only[C6,cP]at h;simp only[cY];exact⟨v,bm,rfl,⟨K1 w ν h.1.1,h.1.2⟩,Q6 w ν a bm h.2⟩
def cells:af->List af
 | .agg cs=>cs
 |p=>[p]
def eT:af->Bool
 | .junk| .tuple _=>false
 | .cst (.slice _ _ _)| .cst (.string _)=>true
 | .cst _=>false
 |_=>true
def P1{w:World}{ν:bc}{p:af}{v:Value}(h:aV w ν p v)(d:eT p=true)(e:∀cs,p≠ .agg cs):v.oneCell'=true/\v.cells= #[v]:=by
 cases p<;>simp only[aV,eT]at h d;case junk=>cases d
 case tuple=>cases d
 case cst c=>subst h;cases v<;>first|exact⟨rfl,rfl⟩|cases d
 case agg cs=>exact absurd rfl (e cs)
 case int=>subst h;exact⟨rfl,rfl⟩
 case bool=>subst h;exact⟨rfl,rfl⟩
 case str=>rw[h.1];exact⟨rfl,rfl⟩
 case slice=>obtain⟨⟨a,cap,J,_⟩,_⟩:=h;subst J;exact⟨rfl,rfl⟩
 case ptr=>obtain⟨b,_,J⟩:=h;subst J;exact⟨rfl,rfl⟩
 case eptr=>obtain⟨b,o,u,J,_⟩:=h;subst J;exact⟨rfl,rfl⟩
 case iface=>obtain⟨u,J,_⟩:=h;subst J;exact⟨rfl,rfl⟩
 case nilp=>subst h;exact⟨rfl,rfl⟩
 case func=>obtain⟨us,J,_⟩:=h;subst J;exact⟨rfl,rfl⟩
 case gmap=>obtain⟨b,_,J⟩:=h;subst J;exact⟨rfl,rfl⟩
 case row=>obtain⟨⟨a,cap,J⟩,_⟩:=h;subst J;exact⟨rfl,rfl⟩
 case rptr=>obtain⟨⟨a,o,J⟩,_⟩:=h;subst J;exact⟨rfl,rfl⟩
def wQ{w:World}{ν:bc}{p:af}{v:Value}(h:aV w ν p v)(c:eT p=true):cY w ν (cells p) v.cells.toList:=by
 by_cases b:∃cs,p= .agg cs
 ·obtain⟨cs,rfl⟩:=b;simp only[aV]at h;obtain⟨us,rfl,U⟩:=h;simpa[cells,pz]using U
 ·have a:∀cs,p≠ .agg cs:=fun cs e=>b ⟨cs,e⟩;obtain⟨J,U⟩:=P1 h c a;have ax:cells p=[p]:=by cases p<;>first|rfl|exact absurd rfl (a _)
  rw[ax,U];simp only[cY];exact⟨v,[],rfl,⟨h,J⟩,rfl⟩
def CK{w:World}{ν:bc}:∀{a:List af} {bm:List Value},cY w ν a bm->∀c∈bm,c.oneCell'=true
 |[],bm,h=>by simp only[cY]at h;subst h;simp
 |p::a,bm,h=>by
  simp only[cY]at h;obtain⟨u,b,rfl,J,U⟩:=h;intro c ax;rcases gI.1 ax with rfl|ax
  ·exact J.2
  ·exact CK U c ax
def qU{w:World}{ν:bc}:∀{a:List af} {bm:List Value},cY w ν a bm->bm.length=a.length
 |[],bm,h=>by simp only[cY]at h;subst h;rfl
 |p::a,bm,h=>by simp only[cY]at h;obtain⟨u,b,rfl,_,U⟩:=h;simp[qU U]
def CJ{w:World}{ν:bc}:∀(n:Nat) {a:List af} {bm:List Value},cY w ν a bm->cY w ν (a.drop n) (bm.drop n)
 |0,_,_,h=>by simpa using h
 |n+1,[],bm,h=>by simp only[cY]at h;subst h;simp[cY]
 |n+1,p::a,bm,h=>by simp only[cY]at h;obtain⟨u,b,rfl,_,U⟩:=h;simpa using CJ n U
def Fw{w:World}{ν:bc}:∀(n:Nat) {a:List af} {bm:List Value},cY w ν a bm->cY w ν (a.take n) (bm.take n)
 |0,_,_,_=>by simp[cY]
 |n+1,[],bm,h=>by simp only[cY]at h;subst h;simp[cY]
 |n+1,p::a,bm,h=>by simp only[cY]at h;obtain⟨u,b,rfl,J,U⟩:=h;simp only[List.take_succ_cons,cY];exact⟨u,_,rfl,J,Fw n U⟩
def Ag{w:World}{ν:bc}:∀{b bV:List af} {bm us:List Value},cY w ν b bm->cY w ν bV us->cY w ν (b++bV) (bm++us)
 |[],bV,bm,us,h,a=>by simp only[cY]at h;subst h;simpa using a
 |p::b,bV,bm,us,h,a=>by simp only[cY]at h;obtain⟨u,c,rfl,J,U⟩:=h;simp only[b5,cY];exact⟨u,_,rfl,J,Ag U a⟩
def Fv{w:World}{ν:bc}:∀(n:Nat) {b:List af} {bm:List Value} {p:af},cY w ν b bm->b[n]? =some p->∃v,bm[n]? =some v/\aV w ν p v/\v.oneCell'=true
 |n,[],_,p,_,a=>by simp at a
 |0,q::b,bm,p,h,a=>by simp only[cY]at h;obtain⟨u,c,rfl,J,_⟩:=h;simp at a;subst a;exact⟨u,rfl,J.1,J.2⟩
 |n+1,q::b,bm,p,h,a=>by simp only[cY]at h;obtain⟨u,c,rfl,_,U⟩:=h;simpa using Fv n U (by simpa using a)
def Fy{w:World}{ν:bc}:∀(n:Nat) {b:List af} {bm:List Value} {p:af},c7 w ν b bm->b[n]? =some p->∃v,bm[n]? =some v/\aV w ν p v
 |n,[],_,p,_,a=>by simp at a
 |0,q::b,bm,p,h,a=>by simp only[c7]at h;obtain⟨u,c,rfl,J,_⟩:=h;simp at a;subst a;exact⟨u,rfl,J⟩
 |n+1,q::b,bm,p,h,a=>by simp only[c7]at h;obtain⟨u,c,rfl,_,U⟩:=h;simpa using Fy n U (by simpa using a)
def u4{w:World}{A:Nat->Nat->Prop}{b:Nat}:∀{us:List Value} {off j:Nat} {u:Value},kX w A b off us->us[j]? =some u->A b (off+j)/\w.cell? ⟨b,off+j,none⟩=some u
 |[],_,_,_,_,h=>by simp at h
 |x::us,off,0,u,a,h=>by simp at h;subst h;exact a.1
 |x::us,off,j+1,u,a,h=>by have:=u4 (j:=j) a.2 (by simpa using h);rwa[show off+1+j=off+(j+1)from by omega]at this
def It{w:World}{A:Nat->Nat->Prop}{b:Nat}:∀(n:Nat) {us:List Value} {off:Nat},kX w A b off us->kX w A b (off+n) (us.drop n)
 |0,_,_,h=>by simpa using h
 |n+1,[],_,_=>by simp[kX]
 |n+1,x::us,off,h=>by have:=It n h.2;rw[show off+(n+1)=off+1+n from by omega];simpa using this
def Iv{w:World}{A:Nat->Nat->Prop}{b:Nat}:∀(n:Nat) {us:List Value} {off:Nat},kX w A b off us->kX w A b off (us.take n)
 |0,_,_,_=>by simp[kX]
 |n+1,[],_,_=>by simp[kX]
 |n+1,x::us,off,h=>by simp only[List.take_succ_cons];exact⟨h.1,Iv n h.2⟩
def abA{P:cH}{w:World}{A:Nat->Nat->Prop}{b off:Nat}{us:List Value}(h:kX w A b off us):(loadCells ⟨b,off,none⟩ us.length).run P w= .ok us.toArray w:=run_loadCells_list w _ us fun j v a=>by rw[pL];exact(u4 h a).2
def aqK{P:cH}{w:World}{b off n:Nat}{us:Array Value}{el:gU}{fr:Nat×Nat}(h:w.heap[b]? =some (.cells us el fr))(e:off+n<=us.size):
  (loadCells ⟨b,off,none⟩ n).run P w= .ok ((us.toList.drop off).take n).toArray w:=by
 have d:((us.toList.drop off).take n).length=n:=by simp;omega
 have:=run_loadCells_list (P:=P) w ⟨b,off,none⟩ ((us.toList.drop off).take n) fun j v c=>by
  rw[pL];have a:j<n:=by have:=(fI.1 c).1;omega
  simp only[World.cell?,h,lH,hQ,if_false];rw[List.getElem?_take]at c;simpa[a]using c
 rw[d]at this;exact this
def Uo{α:Type}(l r:List α)(n sz:Nat)(h:l.length=sz):(l++r).drop ((n+1)*sz)=r.drop (n*sz):=by
 have e:(n+1)*sz=l.length+n*sz:=by rw[h,Nat.succ_mul,Nat.add_comm]
 rw[e,<-List.drop_drop];simp
def acb{α:Type}(l r:List α)(n sz:Nat)(h:l.length=sz):(l++r).take ((n+1)*sz)=l++r.take (n*sz):=by
 have e:(n+1)*sz=l.length+n*sz:=by rw[h,Nat.succ_mul,Nat.add_comm]
 rw[e,List.take_length_add_append]
def JA{w:World}{ν:bc}{sz:Nat}:∀(i:Nat) {xs:List af} {us:List Value} {p:af},dw w ν sz xs us->xs[i]? =some p->
  ∃u,aV w ν p u/\u.cells.size=sz/\u.cells.toList=(us.drop (i*sz)).take sz
 |i,[],_,p,_,a=>by simp at a
 |0,x::xs,us,p,h,a=>by
  simp only[dw]at h;obtain⟨u,c,rfl,⟨J,U,d⟩,_⟩:=h;simp at a;subst a;refine⟨u,J,U,?_⟩;have:u.cells.toList.length=sz:=by simpa using U
  simp[<-this]
 |i+1,x::xs,us,p,h,a=>by
  simp only[dw]at h;obtain⟨u,c,rfl,⟨_,U,_⟩,b⟩:=h;obtain⟨v,g1,g2,g3⟩:=JA i b (by simpa using a);refine⟨v,g1,g2,?_⟩;have:u.cells.toList.length=sz:=by simpa using U
  rw[g3,Uo _ _ _ _ this]
def rN{w:World}{ν:bc}{sz:Nat}:∀{xs:List af} {us:List Value},dw w ν sz xs us->us.length=xs.length*sz
 |[],us,h=>by simp only[dw]at h;subst h;simp
 |x::xs,us,h=>by
  simp only[dw]at h;obtain⟨u,b,rfl,⟨_,U,_⟩,a⟩:=h;have:u.cells.toList.length=sz:=by simpa using U
  rw[qi,this,rN a,mT,Nat.succ_mul];omega
def Af{w:World}{ν:bc}{sz:Nat}:∀{xs:List af} {us:List Value},dw w ν sz xs us->∀c∈us,c.oneCell'=true
 |[],us,h=>by simp only[dw]at h;subst h;simp
 |x::xs,us,h=>by
  simp only[dw]at h;obtain⟨u,d,rfl,⟨_,_,b⟩,a⟩:=h;intro c ax;rcases kc.1 ax with ax|ax
  ·exact b c ax
  ·exact Af a c ax
def Fu{w:World}{ν:bc}{sz:Nat}:∀{b bV:List af} {bm us:List Value},dw w ν sz b bm->dw w ν sz bV us->dw w ν sz (b++bV) (bm++us)
 |[],bV,bm,us,h,a=>by simp only[dw]at h;subst h;simpa using a
 |p::b,bV,bm,us,h,a=>by simp only[dw]at h;obtain⟨u,c,rfl,J,U⟩:=h;simp only[b5,dw];exact⟨u,c++us,Ψ,J,Fu U a⟩
def abe{w:World}{ν:bc}{sz:Nat}:∀(n:Nat) {xs:List af} {us:List Value},dw w ν sz xs us->dw w ν sz (xs.drop n) (us.drop (n*sz))
 |0,_,_,h=>by simpa using h
 |n+1,[],us,h=>by simp only[dw]at h;subst h;simp[dw]
 |n+1,x::xs,us,h=>by
  simp only[dw]at h;obtain⟨u,b,rfl,⟨_,U,_⟩,a⟩:=h;have:u.cells.toList.length=sz:=by simpa using U
  rw[Uo _ _ _ _ this];simpa using abe n a
def abh{w:World}{ν:bc}{sz:Nat}:∀(n:Nat) {xs:List af} {us:List Value},dw w ν sz xs us->dw w ν sz (xs.take n) (us.take (n*sz))
 |0,_,_,_=>by simp[dw]
 |n+1,[],us,h=>by simp only[dw]at h;subst h;simp[dw]
 |n+1,x::xs,us,h=>by
  simp only[dw]at h;obtain⟨u,b,rfl,⟨J,U,c⟩,a⟩:=h;have:u.cells.toList.length=sz:=by simpa using U
  simp only[List.take_succ_cons,dw];refine⟨u,b.take (n*sz),?_,⟨J,U,c⟩,abh n a⟩;rw[acb _ _ _ _ this]
def qM(sz:Nat)(p:af):Prop:= ∃cs,p= .agg cs/\cs.length=sz
def Ak(agg:Bool)(sz b n i f:Nat):bd dW->bd (Prop×af)
 |some ⟨n',_,a,some xs⟩=>if n'=n/\a=b then
   (match xs[i]? with
    |some p=>if agg then some (eT p=true/\f+sz<=(cells p).length,.agg (((cells p).drop f).take sz))else((cells p)[f]?).map fun q=>(eT p=true,q)
    |none=>none)else none
 |_=>none
def n3(b:List (aB×List af))(e:List (aB×dW))(agg:Bool)(sz:Nat):af->bd (Prop×af)
 | .rptr a k n i f=>Ak agg sz a n i f (ae k e)
 | .ptr k off=>
  match ae k b with
  |some cs=>if agg then some (gY cs=true/\off+sz<=cs.length,.agg ((cs.drop off).take sz))else(cs[off]?).map fun p=>(gY cs=true,p)
  |none=>none
 | .eptr p=>if agg then some (qM sz p,p)else some (eT p=true/\cells p=[p],p)
 |_=>none
def DP(agg:Bool)(sz:Nat):af->bd (Prop×af)
 | .eptr p=>if agg then some (qM sz p,p)else some (eT p=true/\cells p=[p],p)
 |_=>none
def aiA{b:List (aB×List af)}{e:List (aB×dW)}{agg:Bool}{sz:Nat}{p:af}{r:Prop×af}(h:DP agg sz p=some r):n3 b e agg sz p=some r:=by
 cases p<;>simp only[DP]at h<;>first|cases h;done|skip
 simpa only[n3]using h
def amn{b:List (aB×List af)}{e:List (aB×dW)}{agg:Bool}{sz:Nat}{p:af}{r:Prop×af}(h:n3 b [] agg sz p=some r):n3 b e agg sz p=some r:=by cases p<;>simp only[n3]at h⊢ <;>first|exact h|(simp[ae,Ak]at h)
def s7(off:Nat)(agg:Bool)(sz:Nat):af->bd (Prop×af)
 | .ptr k o=>some (True,.ptr k (o+off))
 | .rptr a k n i f=>some (True,.rptr a k n i (f+off))
 | .eptr (.agg cs)=>if agg then some (off+sz<=cs.length,.eptr (.agg ((cs.drop off).take sz)))else(cs[off]?).map fun p=>(eT p=true/\cells p=[p],.eptr p)
 |_=>none
def vV(off:Nat)(agg:Bool)(sz:Nat):af->bd (Prop×af)
 | .agg cs=>if agg then some (off+sz<=cs.length,.agg ((cs.drop off).take sz))else(cs[off]?).map fun p=>(True,p)
 |_=>none
def BS(sz:Nat):af->af->bd (Prop×af)
 | .slice a _ xs,.int _ i=>if a=sz then some (0<=i/\i<xs.length,.eptr (xs.getD i.toNat .junk))else none
 | .row a k n,.int _ i=>if a=sz then some (0<=i/\i<n,.rptr a k n i.toNat 0)else none
 |_,_=>none
def JW:af->af->bd (Prop×af)
 | .str s,.int _ i=>some (0<=i/\i<s.length,.int .u8 (s.getD i.toNat 0).toNat)
 |_,_=>none
def sF(a:Int):bd af->bd Int
 |none=>some a
 |some (.int _ i)=>some i
 |_=>none
def J1(x:af)(lo hi:bd af):bd (Prop×af):=
 match x with
 | .str s=>match sF 0 lo,sF s.length hi with
  |some l,some h=>some (0<=l/\l<=h/\h<=s.length,.str ((s.take h.toNat).drop l.toNat))
  |_,_=>none
 |_=>none
def IC(sz:Nat)(x:af)(lo hi:bd af):bd (Prop×af):=
 match x with
 | .slice a _ xs=>if a=sz then match sF 0 lo,sF xs.length hi with
  |some l,some h=>some (0<=l/\l<=h/\h<=xs.length,.slice sz .no ((xs.take h.toNat).drop l.toNat))
  |_,_=>none else none
 |_=>none
def tF(n:Int):Prop:= -9223372036854775808<=n/\n<=9223372036854775807
def Ia(op:BinOp)(wr:Bool)(k:IntKind)(a b:Int):bd (Prop×af):=
 match op with
 | .add=>if wr then some (True,.int k (k.wrap (a+b)))else some (k= .i64/\tF (a+b),.int .i64 (a+b))
 | .sub=>if wr then some (True,.int k (k.wrap (a-b)))else some (k= .i64/\tF (a-b),.int .i64 (a-b))
 | .mul=>if wr then some (True,.int k (k.wrap (a*b)))else some (k= .i64/\tF (a*b),.int .i64 (a*b))
 | .quo=>some (b≠0,.int k (k.wrap (a.tdiv b)))
 | .rem=>some (b≠0,.int k (a.tmod b))
 | .eql=>some (True,.bool (a==b))
 | .neq=>some (True,.bool (a !=b))
 | .lss=>some (True,.bool (decide (a<b)))
 | .leq=>some (True,.bool (decide (a<=b)))
 | .gtr=>some (True,.bool (decide (b<a)))
 | .geq=>some (True,.bool (decide (b<=a)))
 | .and=>some (True,.int k (k.wrap (rW k.bits a&&& rW k.bits b).toNat))
 | .or=>some (True,.int k (k.wrap (rW k.bits a|||rW k.bits b).toNat))
 | .xor=>some (True,.int k (k.wrap (rW k.bits a ^^^ rW k.bits b).toNat))
 |_=>none
def J2(op:BinOp)(a b:List cU):bd (Prop×af):=
 match op with
 | .add=>some (a.length+b.length<=lim,.str (a++b))
 | .eql=>some (True,.bool (a==b))
 | .neq=>some (True,.bool (!(a==b)))
 | .lss=>some (True,.bool (ir a b))
 | .leq=>some (True,.bool (ir a b||a==b))
 | .gtr=>some (True,.bool (!(ir a b||a==b)))
 | .geq=>some (True,.bool (!ir a b))
 |_=>none
def Dl(op:BinOp)(wr:Bool):af->af->bd (Prop×af)
 | .int k a,.int bt b=>match op with
  | .shl=>some (0<=b,.int k (k.wrap (a*2 ^ (min b.toNat k.bits))))
  | .shr=>some (0<=b,.int k (a.fdiv (2 ^ (min b.toNat k.bits))))
  |_=>if k=bt then Ia op wr k a b else none
 | .str a,.str b=>J2 op a b
 |_,_=>none
def nE(cs:List af)(off:Nat)(a:List af):List af:=cs.take off++a++cs.drop (off+a.length)
def vN(t:List (Nat×af)):List af->List (Nat×Nat×dQ)->bd (Prop×List af)
 |cs,[]=>some (True,cs)
 |cs,(off,sz,x)::r=>
  let p:=cE t x
  match vN t (nE cs off (cells p)) r with
  |some (c,cs')=>some ((eT p=true/\(cells p).length=sz/\off+sz<=cs.length)/\c,cs')
  |none=>none
def Ja(c x y:af):bd (Prop×af):=
 match c with
 | .bool b=>match x,y with
  | .bool u,.bool v=>some (True,.bool (cond b u v))
  |p,q=>match b with
   |true=>some (True,p)
   |false=>some (True,q)
 |_=>none
def IW:af->bd (Prop×af)
 | .bool b=>some (True,.bool (!b))
 |_=>none
def IQ:af->bd (Prop×af)
 | .int k n=>some (True,.int k (k.wrap (0-n)))
 |_=>none
def Ba(i:Nat):af->bd (Prop×af)
 | .tuple bm=>(bm[i]?).map fun p=>(True,p)
 |_=>none
def B5:af->bd (Prop×af)
 | .slice _ _ xs=>some (True,.int .i64 xs.length)
 | .row _ _ n=>some (True,.int .i64 n)
 | .cst (.slice _ n _)=>some (True,.int .i64 n)
 |_=>none
def FK:af->bd (Prop×af)
 | .str s=>some (True,.int .i64 s.length)
 | .cst (.string s)=>some (True,.int .i64 s.size)
 |_=>none
def GV(k:IntKind):af->bd (Prop×af)
 | .int _ n=>some (True,.int k (k.wrap n))
 |_=>none
def sb:List af->bd (List cU)
 |[]=>some []
 | .int .u8 n::r=>(sb r).map (UInt8.ofNat n.toNat:: ·)
 |_=>none
def Gu:af->bd (Prop×af)
 | .slice _ _ xs=>(sb xs).map fun s=>(True,.str s)
 |_=>none
def Cj:af->bd (Prop×af)
 | .ptr k o=>some (True,.ptr k o)
 | .eptr p=>some (True,.eptr p)
 | .func f cs=>some (True,.func f cs)
 |_=>none
def IM:af->af->bd (Prop×af)
 | .int k a,.int bt b=>if k=bt then some (True,.int k (if b<a then b else a))else none
 |_,_=>none
def kQ:List Bool->List af->List af->bd Bool
 |[],[],[]=>some true
 |false::r,.int k a::as,.int bt b::c=>if k=bt then(kQ r as c).map fun q=>(a==b)&&q else none
 |true::r,.str a::as,.str b::c=>(kQ r as c).map fun q=>(a==b)&&q
 |_,_,_=>none
inductive kf where
 |i
 |s
 |a (ek:List Bool)
 deriving DecidableEq
def u0:kf->af->af->bd Bool
 | .i,.int k a,.int bt b=>if k=bt then some (a==b)else none
 | .s,.str a,.str b=>some (a==b)
 | .a c,.agg as,.agg d=>kQ c as d
 |_,_,_=>none
def xZ:kf->af->Bool
 | .a a,.agg as=>(kQ a as as).isSome
 | .a _,_=>false
 |_,_=>true
@[simp]def XN(k:af):xZ .i k=true:=by cases k<;>rfl
def x4(a:kf)(k:af):List af->bd (bd af)
 |bt::v::r=>match u0 a k bt with
  |some true=>some (some v)
  |some false=>x4 a k r
  |none=>none
 |_=>some none
def pe(b:aB->bd (List af))(a:kf)(zero:af)(ok:Bool)(x k:af):bd (Prop×af):=
 match x with
 | .gmap key=>match b key with
  |some (.hdm _ _::kvs)=>if xZ a k=false then none else match x4 a k kvs with
   |some (some v)=>some (True,if ok then .tuple [v,.bool true]else v)
   |some none=>some (True,if ok then .tuple [zero,.bool false]else zero)
   |none=>none
  |_=>none
 |_=>none
def Ci(b:aB->bd (List af))(x:af):bd (Prop×af):=
 match x with
 | .gmap key=>match b key with
  |some (.hdm _ borns::_)=>some (True,.int .i64 borns.length)
  |_=>none
 |_=>none
def jr(neg:Bool):bd (List Bool)->af->af->bd (Prop×af)
 |none,.bool a,.bool b=>some (True,.bool (if neg then a !=b else a==b))
 |some c,.agg as,.agg d=>(kQ c as d).map fun q=>(True,.bool (if neg then !q else q))
 |_,_,_=>none
def IG:af->af->bd (Prop×af)
 | .int k a,.int bt b=>if k=bt then some (True,.int k (if a<b then b else a))else none
 |_,_=>none
def wG(a:kf)(k v:af):List af->bd (bd (List af))
 |bt::v'::r=>match u0 a k bt with
  |some true=>some (some (k::v::r))
  |some false=>match wG a k v r with
   |some (some b)=>some (some (bt::v'::b))
   |some none=>some none
   |none=>none
  |none=>none
 |_=>some none
def n5(n:Nat):List Nat->List af->bd af
 |b::a,k::v::r=>if b=n then some (.tuple [k,v])else n5 n a r
 |_,_=>none
def qP(b:aB->bd (List af))(x:af):bd (Prop×af):=
 match x with
 | .ptr gk 0=>match b gk with
  |some [.hdi _ seen last,.gmap mk]=>match b mk with
   |some (.hdm clock borns::kvs)=>match seen.getLast? with
    |some n=>(n5 n borns kvs).map fun p=>(clock=last,p)
    |none=>none
   |_=>none
  |_=>none
 |_=>none
def YH{f g:aB->bd (List af)}(h:∀k,f k≠none->g k=f k){b:kf}{zero:af}{ok:Bool}{x k:af}{r:Prop×af}(he:pe f b zero ok x k=some r):pe g b zero ok x k=some r:=by
 unfold pe at he⊢;split at he
 ·rename_i key;cases a:f key with
  |none=>simp[a]at he
  |some cs=>rw[h key (by rw[a];simp),a];rw[a]at he;exact he
 ·cases he
def am0{f g:aB->bd (List af)}(h:∀k,f k≠none->g k=f k){x:af}{r:Prop×af}(he:Ci f x=some r):Ci g x=some r:=by
 unfold Ci at he⊢;split at he
 ·rename_i key;cases a:f key with
  |none=>simp[a]at he
  |some cs=>rw[h key (by rw[a];simp),a];rw[a]at he;exact he
 ·cases he
def amC{f g:aB->bd (List af)}(h:∀k,f k≠none->g k=f k){x:af}{r:Prop×af}(he:qP f x=some r):qP g x=some r:=by
 unfold qP at he⊢;split at he
 ·rename_i gk;cases b:f gk with
  |none=>simp[b]at he
  |some cs=>
   simp only[h gk (by rw[b];simp),b]at he⊢;split at he
   ·rename_i since seen last mk d;cases a:f mk with
    |none=>simp[a]at he
    |some c=>simp only[h mk (by rw[a];simp),a]at he⊢;exact he
   ·cases he
 ·cases he
inductive gP where
 |mov (x:dQ)
 |pick (c x y:dQ)
 |load (agg:Bool) (sz:Nat) (x:dQ)
 |faddr (off:Nat) (agg:Bool) (sz:Nat) (x:dQ)
 |fld (off:Nat) (agg:Bool) (sz:Nat) (x:dQ)
 |iaddr (sz:Nat) (x i:dQ)
 |sidx (x i:dQ)
 |ssl (x:dQ) (lo hi:bd dQ)
 |lsl (sz:Nat) (x:dQ) (lo hi:bd dQ)
 |bin (op:BinOp) (wr:Bool) (x y:dQ)
 |notB (x:dQ)
 |neg (x:dQ)
 |conv (k:IntKind) (x:dQ)
 |ext (i:Nat) (x:dQ)
 |len (x:dQ)
 |slen (x:dQ)
 |build (zero:List af) (parts:List (Nat×Nat×dQ))
 |nck (x:dQ)
 |min2 (x y:dQ)
 |mkf (n:Nat) (xs:List dQ)
 |mget (cA:kf) (zero:af) (ok:Bool) (x k:dQ)
 |ment (x:dQ)
 |mlen (x:dQ)
 |beq (neg:Bool) (ek:bd (List Bool)) (x y:dQ)
 |max2 (x y:dQ)
 |mkif (t:Nat) (x:dQ)
 |loadB (agg:Bool) (sz:Nat) (x:dQ)
 |mgetB (cA:kf) (zero:af) (ok:Bool) (x k:dQ)
 |loadZ (agg:Bool) (sz:Nat) (x:dQ)
 |b2s (x:dQ)
def hY(st:bp):gP->bd (Prop×af)
 | .mov x=>some (True,cE st.t x)
 | .pick c x y=>Ja (cE st.t c) (cE st.t x) (cE st.t y)
 | .load agg sz x=>n3 st.b st.e agg sz (cE st.t x)
 | .faddr off agg sz x=>s7 off agg sz (cE st.t x)
 | .fld off agg sz x=>vV off agg sz (cE st.t x)
 | .iaddr sz x i=>BS sz (cE st.t x) (cE st.t i)
 | .sidx x i=>JW (cE st.t x) (cE st.t i)
 | .ssl x lo hi=>J1 (cE st.t x) (lo.map (cE st.t)) (hi.map (cE st.t))
 | .lsl sz x lo hi=>IC sz (cE st.t x) (lo.map (cE st.t)) (hi.map (cE st.t))
 | .bin op wr x y=>Dl op wr (cE st.t x) (cE st.t y)
 | .notB x=>IW (cE st.t x)
 | .neg x=>IQ (cE st.t x)
 | .conv k x=>GV k (cE st.t x)
 | .ext i x=>Ba i (cE st.t x)
 | .len x=>B5 (cE st.t x)
 | .slen x=>FK (cE st.t x)
 | .build zero parts=>(vN st.t zero parts).map fun(c,cs)=>(c,.agg cs)
 | .nck x=>Cj (cE st.t x)
 | .min2 x y=>IM (cE st.t x) (cE st.t y)
 | .mkf n xs=>some (True,.func n (xs.map (cE st.t)))
 | .mget a zero ok x k=>pe (fun k=>ae k st.b) a zero ok (cE st.t x) (cE st.t k)
 | .ment x=>qP (fun k=>ae k st.b) (cE st.t x)
 | .mlen x=>Ci (fun k=>ae k st.b) (cE st.t x)
 | .beq neg b x y=>jr neg b (cE st.t x) (cE st.t y)
 | .max2 x y=>IG (cE st.t x) (cE st.t y)
 | .mkif t x=>some (True,.iface t (cE st.t x))
 | .loadB agg sz x=>n3 st.b [] agg sz (cE st.t x)
 | .mgetB a zero ok x k=>pe (fun k=>ae k st.b) a zero ok (cE st.t x) (cE st.t k)
 | .loadZ agg sz x=>DP agg sz (cE st.t x)
 | .b2s x=>Gu (cE st.t x)
def Cu(aT:List (Nat×ev))(a:List (Nat×Nat)):List (Nat×Nat×dQ)->List (Nat×Operand)->Bool
 |[],[]=>true
 |(off,sz,x)::r,(i,o)::s=>(match a[i]? with|some (b,t)=>off==b&&((eG aT t).map (·.size))==some sz|none=>false)&&eS x o&&Cu aT a r s
 |_,_=>false
def Kt:af->af->Bool
 | .int k n,.int bt n'=>decide (k=bt/\n=n')
 | .bool b,.bool b0=>b==b0
 | .str [],.str []=>true
 | .slice a .nil [],.slice b .nil []=>a==b
 | .nilp,.nilp=>true
 | .junk,.junk=>true
 |_,_=>false
def AB:List af->List af->Bool
 |[],[]=>true
 |c::cs,d::a=>Kt c d&&AB cs a
 |_,_=>false
def C7:af->af->Bool
 | .agg cs,.agg a=>AB cs a
 | .agg _,_=>false
 |p,q=>Kt p q
def z1:List dQ->List Operand->Bool
 |[],[]=>true
 |x::xs,o::os=>eS x o&&z1 xs os
 |_,_=>false
def Bi(aT:List (Nat×ev)):Nat->List Bool->List (Nat×Nat)->Bool
 |_,[],[]=>true
 |n,b::r,(off,t)::a=>off==n&&(match eG aT t with|some ⟨_,_,.int _,_⟩=> !b|some ⟨_,_,.str,_⟩=>b|_=>false)&&Bi aT (n+1) r a
 |_,_,_=>false
def Hk(aT:List (Nat×ev))(a:List Bool)(t:Nat):Bool:=match eG aT t with
 |some ⟨_,_,.struct gs,_⟩=>Bi aT 0 a gs
 |_=>false
def zL(aT:List (Nat×ev))(b:kf)(t:Nat):Bool:=match b with
 | .i=>(match eG aT t with|some ⟨_,_,.int _,_⟩=>true|_=>false)
 | .s=>(match eG aT t with|some ⟨_,_,.str,_⟩=>true|_=>false)
 | .a a=>Hk aT a t
def Q9:List af->af->Bool
 |cs,.agg a=>AB cs a
 |_,_=>false
def yd:bd dQ->bd Operand->Bool
 |none,none=>true
 |some x,some o=>eS x o
 |_,_=>false
def F1(aT:List (Nat×ev)):gP->Op->Bool
 | .mov x,.move o=>eS x o
 | .mov x,.assign o=>eS x o
 | .pick c x y,.pick u x' y'=>eS c u&&eS x x'&&eS y y'
 | .load agg sz x,.load t o=>(match eG aT t with|some f=>f.size==sz&&f.kind.isAgg==agg|none=>false)&&eS x o
 | .faddr off agg sz x,.fieldAddr s o i=>
  (match eG aT s with
   |some ⟨_,_,.struct a,_⟩=>(match a[i]? with|some (b,t)=>off==b&&(match eG aT t with|some f=>f.size==sz&&f.kind.isAgg==agg&&sz !=0|none=>false)|none=>false)
   |_=>false)&&eS x o
 | .fld off agg sz x,.field s o i=>
  (match eG aT s with
   |some ⟨_,_,.struct a,_⟩=>(match a[i]? with|some (b,t)=>off==b&&(match eG aT t with|some f=>f.size==sz&&f.kind.isAgg==agg|none=>false)|none=>false)
   |_=>false)&&eS x o
 | .iaddr sz x i,.indexAddr t o j=>(match eG aT t with|some ⟨_,_,.slice e,_⟩=>(match eG aT e with|some f=>f.size==sz|none=>false)|_=>false)&&eS x o&&eS i j
 | .sidx x i,.index t o j=>(match eG aT t with|some ⟨_,_,.str,_⟩=>true|_=>false)&&eS x o&&eS i j
 | .ssl x lo hi,.slice t o l h none=>(match eG aT t with|some ⟨_,_,.str,_⟩=>true|_=>false)&&eS x o&&yd lo l&&yd hi h
 | .lsl sz x lo hi,.slice t o l h none=>(match eG aT t with|some ⟨_,_,.slice e,_⟩=>(match eG aT e with|some f=>f.size==sz|none=>false)|_=>false)&&eS x o&&yd lo l&&yd hi h
 | .bin op _ x y,.binOp w _ o o' _=>decide (op=w)&&eS x o&&eS y o'
 | .notB x,.unOp op _ o=>decide (op= .not)&&eS x o
 | .neg x,.unOp op _ o=>decide (op= .neg)&&eS x o
 | .conv k x,.convert s d o=>(match eG aT s,eG aT d with|some ⟨_,_,.int _,_⟩,some ⟨_,_,.int bt,_⟩=>decide (k=bt)|_,_=>false)&&eS x o
 | .ext i x,.extract o j=>i==j&&eS x o
 | .len x,.call ⟨.builtin .len,⟨[o]⟩,⟨[t]⟩⟩=>(match eG aT t with|some ⟨_,_,.slice _,_⟩=>true|_=>false)&&eS x o
 | .slen x,.call ⟨.builtin .len,⟨[o]⟩,⟨[t]⟩⟩=>(match eG aT t with|some ⟨_,_,.str,_⟩=>true|_=>false)&&eS x o
 | .build zero parts,.build t v=>(match eG aT t with|some ⟨_,_,.struct a,z⟩=>Q9 zero z&&(a.all fun x=>(eG aT x.2).isSome)&&Cu aT a parts v.toList|_=>false)
 | .nck x,.nilCheck o=>eS x o
 | .min2 x y,.call ⟨.builtin .min,⟨[o,o']⟩,⟨[_,_]⟩⟩=>eS x o&&eS y o'
 | .mkf n xs,.makeFunc (.func m) ⟨[]⟩ os=>n==m&&z1 xs os.toList
 | .mget q zero ok x k,.lookup t o o' r=>ok==r&&(match eG aT t with|some ⟨_,_,.map p g,_⟩=>zL aT q p&&(match eG aT g with|some f=>C7 zero f.zero|none=>false)|_=>false)&&eS x o&&eS k o'
 | .ment x,.entry o=>eS x o
 | .mlen x,.call ⟨.builtin .len,⟨[o]⟩,⟨[t]⟩⟩=>(match eG aT t with|some ⟨_,_,.map _ _,_⟩=>true|_=>false)&&eS x o
 | .beq neg a x y,.binOp op t o o' _=>decide (op=if neg then .neq else .eql)&&(match a with|none=>(match eG aT t with|some ⟨_,_,.bool,_⟩=>true|_=>false)|some a=>Hk aT a t)&&eS x o&&eS y o'
 | .max2 x y,.call ⟨.builtin .max,⟨[o,o']⟩,⟨[_,_]⟩⟩=>eS x o&&eS y o'
 | .mkif t x,.makeInterface t' o=>t==t'&&(match eG aT t with|some ⟨_,_,.slice _,_⟩=>true|_=>false)&&eS x o
 | .loadB agg sz x,.load t o=>(match eG aT t with|some f=>f.size==sz&&f.kind.isAgg==agg|none=>false)&&eS x o
 | .b2s x,.convert s d o=>(match eG aT s,eG aT d with|some ⟨_,_,.slice e,_⟩,some ⟨_,_,.str,_⟩=>(match eG aT e with|some ⟨_,_,.int .u8,_⟩=>true|_=>false)|_,_=>false)&&eS x o
 | .loadZ agg sz x,.load t o=>(match eG aT t with|some f=>f.size==sz&&f.kind.isAgg==agg|none=>false)&&eS x o
 | .mgetB q zero ok x k,.lookup t o o' r=>ok==r&&(match eG aT t with|some ⟨_,_,.map p g,_⟩=>zL aT q p&&(match eG aT g with|some f=>C7 zero f.zero|none=>false)|_=>false)&&eS x o&&eS k o'
 |_,_=>false
end
section
open Go Go.RowKit
def LY(P:cH)(w:World)(op:BinOp)(t:gU)(x y:Operand)(k bt:IntKind)(m n:Int):(eqGuard op t x y (.int k m) (.int bt n)).run P w= .ok () w:=by cases op<;>rfl
def afw(P:cH)(w:World)(op:BinOp)(t:gU)(x y:Operand)(m n:ByteArray):(eqGuard op t x y (.string m) (.string n)).run P w= .ok () w:=by cases op<;>rfl
def arK(l:List cU):(⟨l.toArray⟩:ByteArray).toList=l:=Ψ
def ad0(a b:List cU):(⟨a.toArray⟩:ByteArray)++(⟨b.toArray⟩:ByteArray)=⟨(a++b).toArray⟩:=by apply atu;simp
def ags(a:List cU)(l h:Nat):(⟨a.toArray⟩:ByteArray).extract l h=⟨((a.take h).drop l).toArray⟩:=by apply atu;simp[List.drop_take]
def FJ(a:List cU):(⟨a.toArray⟩:ByteArray).size=a.length:=by simp[ayb]
section
variable {P:cH} {w:World} {r:Sem Value}
def s9{k:IntKind}{x:Int}(h:r.run P w= .ok (.int k x) w):∃v,r.run P w= .ok v w/\∀ν,aV w ν (.int k x) v:=⟨_,h,fun ν=>by simp[aV]⟩
def V1{x:Bool}(h:r.run P w= .ok (.bool x) w):∃v,r.run P w= .ok v w/\∀ν,aV w ν (.bool x) v:=⟨_,h,fun ν=>by simp[aV]⟩
end
def aly(P:cH)(w:World){op:BinOp}{wr:Bool}{k:IntKind}{a b:Int}{c:Prop}{p:af}(he:Ia op wr k a b=some (c,p))(ax:c)(t:gU):
  ∃v,(binOp op t (.int k a) (.int k b)).run P w= .ok v w/\∀ν,aV w ν p v:=by
 cases op<;>simp only[Ia]at he;case add=>
  cases wr<;>simp only[if_true,hQ,if_false]at he<;>cases he
  ·obtain⟨rfl,h⟩:=ax;exact s9 (by simp[binOp,Op.intArith,pw _ h])
  ·exact s9 (by simp[binOp,Op.intArith])
 case sub=>
  cases wr<;>simp only[if_true,hQ,if_false]at he<;>cases he
  ·obtain⟨rfl,h⟩:=ax;exact s9 (by simp[binOp,Op.intArith,pw _ h])
  ·exact s9 (by simp[binOp,Op.intArith])
 case mul=>
  cases wr<;>simp only[if_true,hQ,if_false]at he<;>cases he
  ·obtain⟨rfl,h⟩:=ax;exact s9 (by simp[binOp,Op.intArith,pw _ h])
  ·exact s9 (by simp[binOp,Op.intArith])
 case quo=>cases he;exact s9 (by simp[binOp,Op.intDiv,ax])
 case rem=>cases he;exact s9 (by simp[binOp,Op.intDiv,ax])
 case and=>cases he;exact s9 (by simp only[binOp,Op.intBits,ne_eq,not_true_eq_false,if_false,hA])
 case or=>cases he;exact s9 (by simp only[binOp,Op.intBits,ne_eq,not_true_eq_false,if_false,hA])
 case xor=>cases he;exact s9 (by simp only[binOp,Op.intBits,ne_eq,not_true_eq_false,if_false,hA])
 all_goals cases he
 all_goals exact V1 (by simp only[binOp,Op.intCmp,ne_eq,not_true_eq_false,if_false,hA,gt_iff_lt,ge_iff_le])
def ars(P:cH)(w:World){op:BinOp}{a b:List cU}{c:Prop}{p:af}(he:J2 op a b=some (c,p))(ax:c)(t:gU):
  ∃v,(binOp op t (.string ⟨a.toArray⟩) (.string ⟨b.toArray⟩)).run P w= .ok v w/\∀ν,aV w ν p v:=by
 cases op<;>simp only[J2]at he;case add=>
  cases he;refine⟨.string ⟨(a++b).toArray⟩,?_,fun ν=>by simp only[aV];exact⟨trivial,by simpa using ax⟩⟩;have J:¬(((⟨a.toArray⟩:ByteArray).size+(⟨b.toArray⟩:ByteArray).size:Nat):Int)>vu.max:=by
   have:vu.max=9223372036854775807:=by decide
   rw[this,FJ,FJ];simp only[lim]at ax;omega
  simp only[binOp,Op.stringOp,J,if_false,hA,ad0]
 all_goals cases he
 all_goals exact V1 (by simp only[binOp,Op.stringOp,arK,hA])
def aef(P:cH)(w:World)(ν:bc){op:BinOp}{wr:Bool}{x y:af}{c:Prop}{p:af}(he:Dl op wr x y=some (c,p))(ax:c)(t:gU){u v:Value}(hu:aV w ν x u)(d:aV w ν y v)(o o':Operand):
  ∃r,(do eqGuard op t o o' u v;binOp op t u v).run P w= .ok r w/\aV w ν p r:=by
 unfold Dl at he;split at he
 ·rename_i k a bt b;simp only[aV]at hu d;subst hu;subst d;split at he
  ·cases he;refine⟨_,?_,by simp[aV];rfl⟩;simp[binOp,Op.shift,LY,Int.not_lt.2 ax]
  ·cases he;refine⟨_,?_,by simp[aV];rfl⟩;simp[binOp,Op.shift,LY,Int.not_lt.2 ax]
  ·split at he
   ·rename_i ab;subst ab;obtain⟨r,J,U⟩:=aly P w he ax t;exact⟨r,by simp[LY,J],U ν⟩
   ·cases he
 ·simp only[aV]at hu d;rw[hu.1,d.1];obtain⟨r,J,U⟩:=ars P w he ax t;exact⟨r,by simp[afw,J],U ν⟩
 ·cases he
def Mh{w:World}{ν:bc}:∀(v:List Value) (i off:Nat) (cs:Array Value),off+i+v.length<=cs.size->
  ((v.zipIdx i).foldl (fun cs (x:Value×Nat)=>cs.setIfInBounds (off+x.2) x.1) cs).toList=cs.toList.take (off+i)++v++cs.toList.drop (off+i+v.length)
 |[],i,off,cs,_=>by simp
 |u::v,i,off,cs,h=>by
  simp only[List.zipIdx_cons,List.foldl_cons];rw[Mh (w:=w) (ν:=ν) v (i+1) off _ (by simp at h⊢;omega)];have a:off+i<cs.toList.length:=by simp at h⊢;omega
  simp only[Array.toList_setIfInBounds];have b:(cs.toList.set (off+i) u).take (off+(i+1))=cs.toList.take (off+i)++[u]:=by rw[show off+(i+1)=(off+i)+1 from by omega,List.take_succ_eq_append_getElem (by simpa using a)];simp[List.take_set_of_le (dP _)]
  have c:(cs.toList.set (off+i) u).drop (off+(i+1)+v.length)=cs.toList.drop (off+i+(u::v).length):=by rw[List.drop_set_of_lt Ω];congr 1;simp;omega
  rw[b,c];simp
def aby{w:World}{ν:bc}{C:fp}{st:bp}{a:Act}(n:c9 C st a w ν){aT:List (Nat×ev)}{l:List (Nat×Nat)}{f:List (Nat×Nat)}
  (m:∀(i off t sz:Nat),l[i]? =some (off,t)->(eG aT t).map (·.size)=some sz->f[i]? =some (off,sz)):
  ∀(parts:List (Nat×Nat×dQ)) (d:List (Nat×Operand)) (cs:List af) (us:Array Value) (c:Prop) (cs':List af),Cu aT l parts d=true->cY w ν cs us.toList->vN st.t cs parts=some (c,cs')->c->
  ∃e:Array Value,Instr.fill (f.toArray[·]?) us (d.map fun(x:Nat×Operand)=>(x.1,a.eval x.2))=some e/\cY w ν cs' e.toList
 |[],[],cs,us,c,cs',_,h,he,ax=>by simp only[vN]at he;cases he;exact⟨us,by simp[Instr.fill],h⟩
 |[],_::_,_,_,_,_,b,_,_,_=>by simp[Cu]at b
 |_::_,[],_,_,_,_,b,_,_,_=>by simp[Cu]at b
 |(off,sz,x)::parts,(i,o)::d,cs,us,c,cs',b,h,he,ax=>by
  simp only[Cu,cP]at b;obtain⟨⟨J,U⟩,A⟩:=b;split at J
  ·rename_i H t G;simp only[cP,ey]at J;obtain⟨rfl,J⟩:=J;have r:=m i off t sz G J;simp only[vN]at he;split at he
   ·rename_i v z E;cases he;obtain⟨⟨B,y,hle⟩,u⟩:=ax;have F:=e5 n U;have j:=wQ F B;have hlen:=qU j;have q:=qU h;have k:(a.eval o).cells.size=sz:=by have:(a.eval o).cells.toList.length=(cells (cE st.t x)).length:=hlen;rw[y]at this;simpa using this
    have g:us.size=cs.length:=by simpa using q
    have p:=Mh (w:=w) (ν:=ν) (a.eval o).cells.toList 0 off us (by simp[k,g];omega);have s:cY w ν (nE cs off (cells (cE st.t x))) ((((a.eval o).cells.toList.zipIdx 0).foldl (fun cs (x:Value×Nat)=>cs.setIfInBounds (off+x.2) x.1) us).toList):=by rw[p];unfold nE;refine Ag (Ag (Fw off h) j) ?_;rw[Nat.add_zero,hlen];exact CJ _ h
    obtain⟨e,g1,g2⟩:=aby n m parts d _ _ v cs' A s E u;refine⟨e,?_,g2⟩;simp only[gV,Instr.fill,List.getElem?_toArray,r];rw[if_neg (by simp[k,g];omega)];rw[<-g1];simp only[List.getElem?_toArray];congr 1;rw[<-Array.foldl_toList];simp
   ·cases he
  ·cases J
end
section
open Go Go.RowKit
def wX{P:cH}{aT:List (Nat×ev)}(c:hX P aT=true){t:Nat}{f:ev}(e:eG aT t=some f)(w:World):
  (Go.isAgg t).run P w= .ok f.kind.isAgg w/\(sizeOf t).run P w= .ok f.size w:=by
 obtain⟨i,d,z,J,U,b,k,a,j,h,g⟩:=(wY c e).ex;refine⟨?_,by simp[sizeOf,typeInfo,J,b]⟩;simp only[Go.isAgg,gx,run_underlying U,gC];cases ab:f.kind<;>rw[ab]at a<;>cases d<;>simp[k7]at a<;>simp[De.isAgg]
def jl{P:cH}{aT:List (Nat×ev)}(b:hX P aT=true){t:Nat}{f:ev}(c:eG aT t=some f):∃d,P.underlying t=some d/\k7 f.kind d=true:=by obtain⟨i,d,z,J,U,j,k,a,h,g,e⟩:=(wY b c).ex;exact⟨d,U,a⟩
def sX{e:Nat}{d:TypeDesc}(h:k7 (.slice e) d=true):d= .slice e:=by cases d<;>simp[k7]at h;subst h;rfl
def y1{d:TypeDesc}(h:k7 .str d=true):d= .string:=by cases d<;>simp[k7]at h;rfl
def Dy{k:IntKind}{d:TypeDesc}(h:k7 (.int k) d=true):d= .int k:=by cases d<;>simp[k7]at h;subst h;rfl
def LH{a:List (Nat×Nat)}{d:TypeDesc}(h:k7 (.struct a) d=true):∃gs:Array Field,d= .struct gs/\gs.toList.map (fun f=>(f.offset,f.type))=a:=by cases d<;>simp[k7]at h;rename_i gs;exact⟨gs,rfl,by simpa using h⟩
def JD{w:World}{ν:bc}{cs:List af}{us:List Value}(h:cY w ν cs us)(off sz:Nat):cY w ν ((cs.drop off).take sz) ((us.drop off).take sz):=Fw sz (CJ off h)
def ZQ{w:World}{base el sz n:Nat}{v:Value}{us:List Value}(h:w.ownsRow base el sz v n us){b:Nat}(a:v.ownBlock=some b):∃cap,v= .slice (some ⟨b,0,none⟩) n cap:=by
 rcases h.2 with⟨rfl,_⟩|⟨g,cap,cur,rfl,_⟩
 ·simp[pA]at a
 ·simp[pA]at a;subst a;exact⟨cap,rfl⟩
def Good.rowElem{pr:Nat->Prop}{w:World}{ν:bc}{b:List (aB×List af)}{e:List (aB×dW)}(be:Good pr w ν b e){k:aB}{n el sz:Nat}{xs:List af}(ab:ae k e=some ⟨n,el,sz,some xs⟩){i f:Nat}{u:Value}(m:aV w ν (.rptr sz k n i f) u){p:af}(x:xs[i]? =some p):
  ∃(v:Value) (us:List Value) (B:Nat),aV w ν p v/\v.cells.size=sz/\∃b o,u= .pointer (some ⟨b,o,none⟩)/\∀j c,v.cells.toList[f+j]? =some c->w.cell? ⟨b,o+j,none⟩=some c:=by
 simp only[aV]at m;obtain⟨_,hi,n',E,J,U,z⟩:=m;obtain⟨v,us,d,l,F,r⟩:=be.own k _ ab;rw[J]at d;simp only[dU,jn]at d;obtain⟨rfl,rfl⟩:=d;obtain⟨bl,A,rfl⟩:=z rfl;obtain⟨cap,rfl⟩:=ZQ l A;obtain⟨y,g,_⟩:=r xs rfl;simp only at y g;obtain⟨v,s,h,q⟩:=JA i g x;refine⟨v,us,el,s,h,bl,_,rfl,fun j c a=>?_⟩;have t:f+j<sz:=by have:=(fI.1 a).1;simp[h]at this;exact this
 have hmul:i*sz+sz<=n'*sz:=by have:=r2 sz (show i+1<=n' from hi);rwa[Nat.succ_mul]at this
 have ax:=l.cellAt (i*sz+f+j) (by show _<n'*sz;omega);rw[ax];rw[q,List.getElem?_take,if_pos t,List.getElem?_drop]at a;rw[<-a];congr 1;omega
def IA{P:cH}{aT:List (Nat×ev)}(S:hX P aT=true){pr:Nat->Prop}{w:World}{ν:bc}{b:List (aB×List af)}{e:List (aB×dW)}(be:Good pr w ν b e){t:Nat}{f:ev}(V:eG aT t=some f)
  {x:af} {u:Value} (l:aV w ν x u) {c:Prop} {p:af} (he:n3 b e f.kind.isAgg f.size x=some (c,p)) (ax:c):∃v,(Instr.loadAt t u).run P w= .ok v w/\aV w ν p v:=by
 obtain⟨d,F⟩:=wX S V w;generalize HA:f.kind.isAgg=h at*;generalize en:f.size=sz at*;unfold n3 at he;split at he
 ·rename_i ed k n i g;unfold Ak at he;split at he
  ·rename_i n' el Y xs ab;split at he
   ·rename_i X;obtain⟨rfl,rfl⟩:=X;split at he
    ·rename_i N E;obtain⟨G,us,gJ,g1,g2,a⟩:=Good.rowElem be ab l E;have O:eT N=true:=by
      cases h
      ·simp only[hQ,if_false,hr]at he;obtain⟨q,_,he⟩:=he;cases he;exact ax
      ·simp only[if_true]at he;cases he;exact ax.1
     have A:=wQ g1 O;cases h
     ·simp only[hQ,if_false,hr]at he;obtain⟨q,r,he⟩:=he;cases he;obtain⟨v,f1,f2,f3⟩:=Fv g A r;refine⟨v,?_,f2⟩;obtain⟨b,o,rfl,a⟩:=a;have:=a 0 v (by simpa using f1);simp only[Nat.add_zero]at this;simp[Instr.loadAt,Instr.sureAddr,loadVar,d,this]
     ·simp only[if_true]at he;cases he;obtain⟨b,o,rfl,a⟩:=a;refine⟨.agg ((G.cells.toList.drop g).take sz).toArray,?_,by simp only[aV];exact⟨_,rfl,by simpa using JD A g sz⟩⟩;have B:=qU A;have hlen:((G.cells.toList.drop g).take sz).length=sz:=by simp only[List.length_take,uj];omega
      have K:=run_loadCells_list (P:=P) w ⟨b,o,none⟩ ((G.cells.toList.drop g).take sz) (fun j v z=>by
       rw[pL];refine a j v ?_;rw[List.getElem?_take]at z;split at z
       ·simpa[List.getElem?_drop]using z
       ·cases z)
      rw[hlen]at K;simp only[Instr.loadAt,Instr.sureAddr,loadVar,gx,hA,gC,d,if_true,F,K]
    ·cases he
   ·cases he
  ·cases he
 ·rename_i k off;simp only[aV]at l;obtain⟨bl,J,rfl⟩:=l;split at he
  ·rename_i cs ab;obtain⟨Z,us,el,g1,g2,g3,g4,g5⟩:=be.box k cs ab;rw[J]at g1;cases g1;have H:gY cs=true:=by
    cases h
    ·simp only[hQ,if_false,hr]at he;obtain⟨q,r,he⟩:=he;cases he;exact ax
    ·simp only[if_true]at he;cases he;exact ax.1
   rw[pg H]at g4;rw[pj H]at g5;have B:=qU g5;cases h
   ·simp only[hQ,if_false,hr]at he;obtain⟨q,r,he⟩:=he;cases he;obtain⟨v,f1,f2,f3⟩:=Fv off g5 r;refine⟨v,?_,f2⟩;have a:w.cell? ⟨bl,off,none⟩=some v:=by simpa[World.cell?,g4]using f1
    simp[Instr.loadAt,Instr.sureAddr,loadVar,d,a]
   ·simp only[if_true]at he;cases he;replace ax:=ax.2;refine⟨_,?_,by simp only[aV];exact⟨_,rfl,by simpa using JD g5 off sz⟩⟩;simp only[Instr.loadAt,Instr.sureAddr,loadVar,gx,hA,gC,d,if_true,F];rw[aqK g4 (by simp at B;omega)];rfl
  ·cases he
 ·rename_i q;simp only[aV]at l;obtain⟨bl,off,Q,rfl,U,s⟩:=l;cases h
  ·simp only[hQ,if_false]at he;cases he;obtain⟨M,m⟩:=ax;obtain⟨g1,g2⟩:=P1 U M (fun cs e=>by subst e;have:=fy List.length m;simp only[cells,mT,List.length_nil]at this;cases cs with
    |nil=>simp[cells]at m
    |cons y ys=>simp only[cells,rX]at m;obtain⟨R,W⟩:=m;subst W;have:=fy SizeOf.sizeOf R;simp at this;omega)
   refine⟨Q,?_,U⟩;rw[g2]at s;have a:=s.1.2;simp[Instr.loadAt,Instr.sureAddr,loadVar,d,a]
  ·simp only[if_true]at he;cases he;obtain⟨cs,rfl,hlen⟩:=ax;simp only[aV]at U;obtain⟨us,rfl,L⟩:=U;refine⟨.agg us,?_,by simp only[aV];exact⟨us,rfl,L⟩⟩;simp only[pz]at s;have B:=qU L;have:=abA (P:=P) s;rw[show us.toList.length=sz from by omega]at this;simp[Instr.loadAt,Instr.sureAddr,loadVar,d,F,this]
 ·cases he
def aip{P:cH}{aT:List (Nat×ev)}(y:hX P aT=true){w:World}{ν:bc}{s i:Nat}{f:ev}{n:List (Nat×Nat)}(M:eG aT s=some f)(ab:f.kind= .struct n){off t:Nat}{g:ev}(hi:n[i]? =some (off,t))(be:eG aT t=some g)(G:g.size≠0)
  {x:af} {u:Value} (a:aV w ν x u) {c:Prop} {p:af} (he:s7 off g.kind.isAgg g.size x=some (c,p)) (ax:c):∃v,(Instr.fieldAt s u i).run P w= .ok v w/\aV w ν p v:=by
 obtain⟨d,L,m⟩:=jl y M;rw[ab]at m;obtain⟨gs,rfl,E⟩:=LH m;have A:∃fd:Field,gs[i]? =some fd/\fd.offset=off/\fd.type=t:=by rw[<-E]at hi;simp only[List.getElem?_map,hr]at hi;obtain⟨fd,J,U⟩:=hi;simp only[jn]at U;exact⟨fd,by simpa using J,U.1,U.2⟩
 obtain⟨fd,N,ar,B⟩:=A;obtain⟨O,K⟩:=wX y be w;have j:∀b o,(Instr.fieldAt s (.pointer (some ⟨b,o,none⟩)) i).run P w= .ok (.pointer (some ⟨b,o+off,none⟩)) w:=by intro b o;simp[Instr.fieldAt,run_underlying L,N,Instr.sureAddr,fieldPlace,B,K,G,pL,ar]
 unfold s7 at he;split at he
 ·cases he;simp only[aV]at a;obtain⟨b,J,rfl⟩:=a;exact⟨_,j _ _,by simp only[aV];exact⟨b,J,rfl⟩⟩
 ·cases he;simp only[aV]at a;obtain⟨⟨b,o,rfl⟩,hi,n',r,J,U,h⟩:=a;refine⟨_,j _ _,?_⟩;simp only[aV];refine⟨⟨b,_,rfl⟩,hi,n',r,J,U,fun e=>?_⟩;obtain⟨b0,H,z⟩:=h e;simp only[ayi,dU,Addr.mk.injEq,jc]at z;obtain⟨rfl,rfl⟩:=z;exact⟨b,H,by rw[Nat.add_assoc]⟩
 ·rename_i cs;simp only[aV]at a;obtain⟨b,o,r,rfl,⟨us,rfl,U⟩,h⟩:=a;refine⟨_,j _ _,?_⟩;simp only[pz]at h;split at he
  ·cases he;simp only[aV];exact⟨b,o+off,.agg ((us.toList.drop off).take g.size).toArray,rfl,⟨_,rfl,by simpa using JD U off g.size⟩,by simpa[pz]using Iv g.size (It off h)⟩
  ·simp only[hr]at he;obtain⟨q,F,he⟩:=he;cases he;obtain⟨v,f1,f2,f3⟩:=Fv off U F;simp only[aV];have l:=u4 h f1;have k:v.cells= #[v]:=by cases v<;>first|rfl|cases f3
   exact⟨b,o+off,v,rfl,f2,by rw[k];exact⟨l,trivial⟩⟩
 ·cases he
def aiv{P:cH}{aT:List (Nat×ev)}(l:hX P aT=true){w:World}{ν:bc}{s i:Nat}{f:ev}{h:List (Nat×Nat)}(B:eG aT s=some f)(ab:f.kind= .struct h){off t:Nat}{g:ev}(hi:h[i]? =some (off,t))(be:eG aT t=some g)
  {x:af} {u:Value} (k:aV w ν x u) {c:Prop} {p:af} (he:vV off g.kind.isAgg g.size x=some (c,p)) (ax:c):∃v,(Instr.field s u i).run P w= .ok v w/\aV w ν p v:=by
 obtain⟨d,m,e⟩:=jl l B;rw[ab]at e;obtain⟨gs,rfl,r⟩:=LH e;have o:∃fd:Field,gs[i]? =some fd/\fd.offset=off/\fd.type=t:=by rw[<-r]at hi;simp only[List.getElem?_map,hr]at hi;obtain⟨fd,J,U⟩:=hi;simp only[jn]at U;exact⟨fd,by simpa using J,U.1,U.2⟩
 obtain⟨fd,n,ar,b⟩:=o;obtain⟨j,A⟩:=wX l be w;unfold vV at he;split at he
 ·rename_i cs;simp only[aV]at k;obtain⟨us,rfl,U⟩:=k;generalize E:g.kind.isAgg=y at*;cases y
  ·simp only[hQ,if_false,hr]at he;obtain⟨q,z,he⟩:=he;cases he;obtain⟨v,f1,f2,f3⟩:=Fv off U z;have a:us[off]? =some v:=by simpa using f1
   exact⟨v,by simp[Instr.field,run_underlying m,n,asAgg,part,b,j,ar,a],f2⟩
  ·simp only[if_true]at he;cases he;refine⟨.agg (us.extract off (off+g.size)),by simp[Instr.field,run_underlying m,n,asAgg,part,b,j,ar,A],?_⟩;simp only[aV];refine⟨_,rfl,?_⟩;have:=JD U off g.size;simpa[List.take_drop]using this
 ·cases he
def als{P:cH}{aT:List (Nat×ev)}(F:hX P aT=true){w:World}{ν:bc}{t e:Nat}{f g:ev}(N:eG aT t=some f)(ab:f.kind= .slice e)(be:eG aT e=some g)
  {x y:af} {u v:Value} (h:aV w ν x u) (j:aV w ν y v) {c:Prop} {p:af} (he:BS g.size x y=some (c,p)) (ax:c):∃r,(Instr.indexAt t u v).run P w= .ok r w/\aV w ν p r:=by
 obtain⟨d,G,B⟩:=jl F N;rw[ab]at B;obtain rfl:=sX B;obtain⟨Q,E⟩:=wX F be w;unfold BS at he;split at he
 ·rename_i K tag xs k i;split at he
  ·rename_i m;cases he;simp only[aV]at h j;subst j;subst m;obtain⟨⟨a,cap,rfl,J,U,q⟩,_⟩:=h;obtain⟨z,l⟩:=ax;have A:i.toNat<xs.length:=Ω
   rcases q with rfl|⟨b,off,us,rfl,s,o⟩
   ·simp at A
   ·have h:xs[i.toNat]? =some xs[i.toNat]:=cl A;obtain⟨w',M,O,H⟩:=JA i.toNat o h;refine⟨.pointer (some ⟨b,off+i.toNat*g.size,none⟩),?_,?_⟩
    ·simp only[Instr.indexAt,asIntOf,gx,hA,gC,run_underlying G,z,l,and_self,if_true,E,pL]
    ·simp only[aV];refine⟨b,off+i.toNat*g.size,w',rfl,by simpa[List.getD,h]using M,?_⟩;rw[H];exact Iv g.size (It _ s)
  ·cases he
 ·rename_i K k n kk i;split at he
  ·rename_i m;cases he;simp only[aV]at h j;subst j;subst m;obtain⟨⟨b,cap,rfl⟩,U,n',L,q,s,o⟩:=h;obtain⟨z,l⟩:=ax;refine⟨.pointer (some ⟨b,0+i.toNat*g.size,none⟩),?_,?_⟩
   ·simp only[Instr.indexAt,asIntOf,gx,hA,gC,run_underlying G,z,l,and_self,if_true,E,pL]
   ·simp only[aV];refine⟨⟨b,_,rfl⟩,Ω,n',L,q,s,fun e=>⟨b,?_,Ψ⟩⟩;rw[<-o e];rfl
  ·cases he
 ·cases he
def I5{C:fp}{st:bp}{a:Act}{w:World}{ν:bc}(h:c9 C st a w ν){x:bd dQ}{o:bd Operand}(b:yd x o=true){d n:Int}(he:sF d (x.map (cE st.t))=some n):
  (o.map a.eval=none/\n=d)\/ ∃k,o.map a.eval=some (.int k n):=by
 cases x with
 |none=>cases o with
  |none=>simp[sF]at he;exact .inl ⟨rfl,he.symm⟩
  |some o=>simp[yd]at b
 |some x=>cases o with
  |none=>simp[yd]at b
  |some o=>
   simp only[yd]at b
   have:=e5 h b
   simp only[pC]at he⊢
   cases c:cE st.t x<;>simp[c,sF]at he
   rw[c]at this
   simp only[aV]at this
   subst he
   exact .inr ⟨_,by rw[this]⟩
def RS:∀{xs:List af} {s:List cU},sb xs=some s->s.length=xs.length
 |[],s,h=>by simp only[sb]at h;cases h;rfl
 |x::xs,s,h=>by
  cases x<;>try(simp[sb]at h;done)
  rename_i k n;cases k<;>simp only[sb,hr,reduceCtorEq]at h;obtain⟨a,J,rfl⟩:=h;simp[RS J]
def AO(n:Int):cU:=UInt8.ofNat n.toNat
def RT{w:World}{ν:bc}{sz:Nat}:∀{xs:List af} {s:List cU} {us:List Value},sb xs=some s->dw w ν sz xs us->∃ns:List Int,us=ns.map (Value.int .u8)/\s=ns.map AO/\us.length=xs.length
 |[],s,us,h,a=>by simp only[sb]at h;cases h;simp only[dw]at a;subst a;exact⟨[],rfl,rfl,rfl⟩
 |x::xs,s,us,h,a=>by
  cases x<;>try(simp[sb]at h;done)
  rename_i k n;cases k<;>simp only[sb,hr,reduceCtorEq]at h;obtain⟨d,J,rfl⟩:=h;simp only[dw,aV]at a;obtain⟨u,c,rfl,⟨rfl,_⟩,a⟩:=a;obtain⟨ns,rfl,rfl,b⟩:=RT J a;exact⟨n::ns,by simp[pz],rfl,by simp[pz]at b⊢;exact b⟩
def ZZ{P:cH}{w:World}{f:Value->ByteArray->Sem (ForInStep ByteArray)}(a:∀n s,f (.int .u8 n) s=pure (.yield (s.push (AO n)))):∀(ns:List Int) (s:ByteArray),(forIn (ns.map (Value.int .u8)) s f).run P w= .ok ⟨(s.data.toList++ns.map AO).toArray⟩ w
 |[],s=>by simp
 |n::ns,s=>by simp only[gV,List.forIn_cons,gx,a,hA,gC];rw[ZZ a ns];simp[aya]
def aeb{P:cH}{w:World}{A:Nat->Nat->Prop}{a:bd Addr}{len cap:Nat}{ns:List Int}(g:ns.length=len)(h:len=0\/ ∃b off,a=some ⟨b,off,none⟩/\kX w A b off (ns.map (Value.int .u8))):
  (Conv.bytesToString (.slice a len cap)).run P w= .ok (.string ⟨(ns.map AO).toArray⟩) w:=by
 have f:∀c,a=some c->(loadCells c len).run P w= .ok (ns.map (Value.int .u8)).toArray w:=fun c e=>by
  rcases h with h|⟨b,off,d,U⟩
  ·subst h;have:ns=[]:=by cases ns<;>simp_all
   subst this;exact run_loadCells_list w c [] fun j v i=>by simp at i
  ·rw[d]at e;cases e;have:=abA (P:=P) U;simpa[g]using this
 unfold Conv.bytesToString;cases a with
 |none=>
  have:ns=[]:=by
   rcases h with h|⟨b,off,d,U⟩
   ·subst h;cases ns<;>simp_all
   ·cases d
  subst this;simp;rfl
 |some c=>simp only[gx,f c rfl,gC,Array.forIn_toList,List.forIn_toArray];rw[ZZ (fun n s=>rfl) ns ado];simp
def adl{c d:af}(h:Kt c d=true):c=d:=by unfold Kt at h;split at h<;>simp_all
def Q5:∀{cs a:List af},AB cs a=true->cs=a
 |[],[],_=>rfl
 |[],_::_,h=>by simp[AB]at h
 |_::_,[],h=>by simp[AB]at h
 |c::cs,d::a,h=>by simp only[AB,cP]at h;rw[adl h.1,Q5 h.2]
def ats{cs:List af}{z:af}(h:Q9 cs z=true):z= .agg cs:=by
 cases z<;>simp only[Q9]at h;case agg a=>rw[Q5 h]
 all_goals cases h
def ajA(s:List cU)(n:Nat)(h:n<s.length):(⟨s.toArray⟩:ByteArray)[n]? =some (s.getD n 0):=by
 have a:n<(⟨s.toArray⟩:ByteArray).size:=by rw[FJ];exact h
 have e:(⟨s.toArray⟩:ByteArray)[n]? =some ((⟨s.toArray⟩:ByteArray)[n]'a):=getElem?_pos (⟨s.toArray⟩:ByteArray) n a;rw[e];congr 1;simp[List.getD,h];rfl
def JY(P:cH)(w:World)(k:IntKind)(i:Int)(y:Nat)(c:BoundsCode)(a:0<=i)(J:i<=y):(Instr.sliceBound (.int k i) y c).run P w= .ok i.toNat w:=by simp[Instr.sliceBound,asIntOf,a,J]
def RM(P:cH)(w:World)(a:Bool)(len cap:Nat)(lo hi:bd Value)(l h:Int)(b:(lo=none/\l=0)\/ ∃k,lo=some (.int k l))(c:(hi=none/\h=len)\/ ∃k,hi=some (.int k h))
  (d:0<=l) (J:l<=h) (U:h<=len) (ax:len<=cap):(Instr.sliceBounds a len cap lo hi none).run P w= .ok (l.toNat,h.toNat,cap) w:=by
 rcases b with⟨rfl,rfl⟩|⟨k,rfl⟩<;>rcases c with⟨rfl,rfl⟩|⟨bt,rfl⟩
 ·simp[Instr.sliceBounds]
 ·simp[Instr.sliceBounds,JY P w bt h cap _ Ω Ω]
 ·simp[Instr.sliceBounds,JY P w k l len _ Ω Ω]
 ·simp[Instr.sliceBounds,JY P w bt h cap _ Ω Ω,JY P w k l h.toNat _ Ω Ω]
def ZW{P:cH}{aT:List (Nat×ev)}(e:hX P aT=true):∀(gs:List Field),(gs.all fun f=>(eG aT f.type).isSome)=true->
  ∃a:List (Nat×Nat),gs.mapM (fun f=>(P.info? f.type).map fun i=>(f.offset,i.size))=some a/\
   ∀(i off t sz:Nat),(gs.map (fun f=>(f.offset,f.type)))[i]? =some (off,t)->(eG aT t).map (·.size)=some sz->a[i]? =some (off,sz)
 |[],_=>⟨[],Ψ,Ψ⟩
 |f::gs,h=>by
  simp only[List.all_cons,cP]at h;obtain⟨a,J,U⟩:=ZW e gs h.2;obtain⟨g,be⟩:=fx.1 h.1;obtain⟨i,d,z,l,r,k,q,p,o,n,m⟩:=(wY e be).ex;refine⟨(f.offset,g.size)::a,by simp[List.mapM_cons,l,k,J],fun j off t sz b c=>?_⟩;cases j with
  |zero=>simp only[gV,List.getElem?_cons_zero,dU,jn]at b⊢;obtain⟨rfl,rfl⟩:=b;rw[be]at c;simpa using c
  |succ j=>simp only[gV,List.getElem?_cons_succ]at b⊢;exact U j off t sz b c
def l3{P:cH}{w:World}{x:Sem Value}{v:Value}(h:x.run P w= .ok v w):(do pure (Next.value (<-x)):Sem Next).run P w= .ok (.value v) w:=by simp[h]
def Q8{p q:af}(h:C7 p q=true):p=q:=by
 unfold C7 at h;split at h
 ·rw[Q5 h]
 ·cases h
 ·exact adl h
def Q7(w:World)(ν:bc){p:af}{v:Value}(h:AD p v=true):aV w ν p v/\cY w ν (cells p) v.cells.toList:=by
 by_cases b:∃cs,p= .agg cs
 ·obtain⟨cs,rfl⟩:=b;cases v<;>simp only[AD]at h;case agg us=>have:=Q6 w ν _ _ h;exact⟨by simp only[aV];exact⟨us,rfl,this⟩,by simpa[cells,pz]using this⟩
  all_goals cases h
 ·have a:AQ p v=true/\v.oneCell'=true:=by cases p<;>simp only[AD,cP]at h<;>first|exact h|exact absurd ⟨_,rfl⟩ b
  have c:=K1 w ν a.1;refine⟨c,?_⟩;have ax:cells p=[p]:=by cases p<;>first|rfl|exact absurd ⟨_,rfl⟩ b
  have d:v.cells= #[v]:=by have:=a.2;cases v<;>first|rfl|simp[Value.oneCell']at this
  rw[ax,d];simp only[cY];exact⟨v,[],rfl,⟨c,a.2⟩,rfl⟩
def QF{P:cH}{aT:List (Nat×ev)}(e:hX P aT=true){t:Nat}{f:ev}(g:eG aT t=some f)(w:World):∃z,(zeroValue t).run P w= .ok z w/\AD f.zero z=true/\z.cells.size=f.size:=by obtain⟨i,d,z,J,U,j,k,h,c,b,a⟩:=(wY e g).ex;exact⟨z,by simp[zeroValue,typeInfo,J,c],b,a⟩
def Fx{C:fp}{st:bp}{a:Act}{w:World}{ν:bc}(h:c9 C st a w ν):∀{xs:List dQ} {os:List Operand},z1 xs os=true->c7 w ν (xs.map (cE st.t)) (os.map a.eval)
 |[],[],_=>by simp[c7]
 |[],_::_,ab=>by simp[z1]at ab
 |_::_,[],ab=>by simp[z1]at ab
 |x::xs,o::os,ab=>by simp only[z1,cP]at ab;simp only[gV,c7];exact⟨_,_,rfl,e5 h ab.1,Fx h ab.2⟩
def afx{P:cH}{w:World}{t:gU}(c:P.underlying t=some .bool)(d:Nat)(a b:Bool):(Op.equalIn (d+1) t (.bool a) (.bool b)).run P w= .ok (a==b) w:=by rw[Op.equalIn];simp only[gx,run_underlying c,gC,hA]
def afy{P:cH}{w:World}{t:gU}(c:P.underlying t=some .bool)(a b:Bool):(Op.equal t (.bool a) (.bool b)).run P w= .ok (a==b) w:=afx c _ a b
def UA:∀{borns:List Nat} {kvs:List af} {us:List Value},kvs.length=2*borns.length->us.length=kvs.length->(gQ borns us).length=borns.length
 |[],_,us,_,_=>by simp[gQ]
 |b0::a,kvs,[],J,U=>by rw[J]at U;simp at U
 |b0::a,kvs,[_],J,U=>by rw[J]at U;simp at U;omega
 |b0::a,kvs,k::v::us,J,U=>by simp only[gQ,mT];rw[UA (kvs:=kvs.drop 2) (us:=us) (borns:=a) (by simp at J⊢;omega) (by simp at J U⊢;omega)]
def abn{w:World}{ν:bc}:∀{a:List af} {bm:List Value},c7 w ν a bm->bm.length=a.length
 |[],bm,h=>by simp only[c7]at h;subst h;rfl
 |p::a,bm,h=>by simp only[c7]at h;obtain⟨u,b,rfl,_,U⟩:=h;simp[abn U]
def yo{P:cH}{w:World}{r:Nat}{o:Obj}(a:w.heap[r]? =some o)(b:∀c e f,o≠ .cells c e f:=by simp):(getObj r).run P w= .ok o w:=by simp only[getObj,Sem.run,a]
def r3(P:cH):Nat->List Bool->List Field->Prop
 |_,[],[]=>True
 |n,b::r,f::gs=>(f.offset=n/\f.name≠ "_" /\(if b=true then P.underlying f.type=some .string else∃k,P.underlying f.type=some (.int k)))/\r3 P (n+1) r gs
 |_,_,_=>er
def Fk{P:cH}{t:gU}{b:Bool}(h:if b=true then P.underlying t=some .string else∃k,P.underlying t=some (.int k)):P.plainKey t=true:=by
 cases b
 ·obtain⟨k,h⟩:=(by simpa using h:∃k,P.underlying t=some (.int k));simp[Program.plainKey,h]
 ·have h:P.underlying t=some .string:=by simpa using h
  simp[Program.plainKey,h]
def aeu{P:cH}{w:World}{ν:bc}(d:Nat){X Y:Array Value}(A:List Bool):∀(gs:List Field) (n:Nat) (as g:List af) (us bm:List Value) (q:Bool),r3 P n A gs->X.toList.drop n=us->Y.toList.drop n=bm->cY w ν as us->cY w ν g bm->kQ A as g=some q->
  (Op.eqFields (d+1) X Y gs).run P w= .ok q w/\(q=true->us=bm)/\∀m,(us.zip us).all (fun(x,y)=>Instr.sameBits m x y)=true:=by
 induction A with
 |nil=>intro gs n as g us bm q be p o J U h;cases as<;>cases g<;>simp only[kQ,dU,reduceCtorEq]at h;cases gs<;>simp only[r3]at be;simp only[cY]at J U;rw[J,U,<-h];exact⟨by simp[Op.eqFields],fun _=>rfl,fun m=>rfl⟩
 |cons z r L=>
  intro gs n as g us bm q be p o J U h;cases gs with
  |nil=>simp only[r3]at be
  |cons f gs=>
  simp only[r3]at be;obtain⟨⟨M,K,l⟩,be⟩:=be;cases as with
  |nil=>cases z<;>cases g<;>simp[kQ]at h
  |cons s as=>
  cases g with
  |nil=>cases z<;>cases s<;>simp[kQ]at h
  |cons t g=>
  cases z with
  |false=>
   have ax:∃k a b c,s= .int k a/\t= .int k b/\kQ r as g=some c/\q=((a==b)&&c):=by
    cases s<;>first|(simp[kQ]at h;done)|skip
    cases t<;>first|(simp[kQ]at h;done)|skip
    simp only[kQ]at h;split at h
    ·rename_i ab;subst ab;simp only[hr]at h;obtain⟨c,j,E⟩:=h;exact⟨_,_,_,c,rfl,rfl,j,E.symm⟩
    ·cases h
   obtain⟨k,a,b,c,rfl,rfl,j,rfl⟩:=ax;simp only[cY,aV]at J U;obtain⟨u,B,rfl,⟨rfl,_⟩,J⟩:=J;obtain⟨v,vs',rfl,⟨rfl,_⟩,U⟩:=U;have H:X[n]? =some (.int k a):=by rw[<-vt,<-List.head?_drop,p];rfl
   have F:Y[n]? =some (.int k b):=by rw[<-vt,<-List.head?_drop,o];rfl
   obtain⟨i1,i2,i3⟩:=L gs (n+1) as g B vs' c be (by rw[<-List.tail_drop,p];rfl) (by rw[<-List.tail_drop,o];rfl) J U j;obtain⟨kk,G⟩:=(by simpa using l:∃k,P.underlying f.type=some (.int k));refine⟨?_,?_,fun m=>?_⟩
   ·simp only[Op.eqFields,K,ne_eq,not_false_eq_true,if_true,gx,M,run_part_plain w (Fk l) H,run_part_plain w (Fk l) F,gC,run_equalIn_int w d f.type k kk a b G];cases N:(a==b)
    ·simp
    ·simpa using i1
   ·intro i;simp only[cP,ey]at i;rw[i.1,i2 i.2]
   ·have:=i3 m;simp only[List.zip_cons_cons,List.all_cons,this,Bool.and_true];cases m<;>simp[Instr.sameBits]
  |true=>
   have ax:∃a b c,s= .str a/\t= .str b/\kQ r as g=some c/\q=((a==b)&&c):=by
    cases s<;>first|(simp[kQ]at h;done)|skip
    cases t<;>first|(simp[kQ]at h;done)|skip
    simp only[kQ,hr]at h;obtain⟨c,j,E⟩:=h;exact⟨_,_,c,rfl,rfl,j,E.symm⟩
   obtain⟨a,b,c,rfl,rfl,j,rfl⟩:=ax;simp only[cY,aV]at J U;obtain⟨u,B,rfl,⟨⟨rfl,_⟩,_⟩,J⟩:=J;obtain⟨v,vs',rfl,⟨⟨rfl,_⟩,_⟩,U⟩:=U;have H:X[n]? =some (.string ⟨a.toArray⟩):=by rw[<-vt,<-List.head?_drop,p];rfl
   have F:Y[n]? =some (.string ⟨b.toArray⟩):=by rw[<-vt,<-List.head?_drop,o];rfl
   obtain⟨i1,i2,i3⟩:=L gs (n+1) as g B vs' c be (by rw[<-List.tail_drop,p];rfl) (by rw[<-List.tail_drop,o];rfl) J U j;have G:P.underlying f.type=some .string:=by simpa using l
   refine⟨?_,?_,fun m=>?_⟩
   ·simp only[Op.eqFields,K,ne_eq,not_false_eq_true,if_true,gx,M,run_part_plain w (Fk l) H,run_part_plain w (Fk l) F,gC,run_equalIn_string w d f.type _ _ G];have e:((⟨a.toArray⟩:ByteArray).toList==(⟨b.toArray⟩:ByteArray).toList)=(a==b):=by rw[atv,atv]
    rw[e];cases N:(a==b)
    ·simp
    ·simpa using i1
   ·intro i;simp only[cP,ey]at i;rw[i.1,i2 i.2]
   ·have:=i3 m;simp only[List.zip_cons_cons,List.all_cons,this,Bool.and_true];cases m<;>simp only[Instr.sameBits]<;>exact(MapKept.bytes_beq _ _).2 rfl
def Vm{P:cH}{aT:List (Nat×ev)}(aL:hX P aT=true):∀(ek:List Bool) (gs:List Field) (n:Nat),Bi aT n ek (gs.map fun f=>(f.offset,f.type))=true->(gs.all (fun f=>match P.underlying f.type with|some (.int _)=>true|some .string=>true|_=>false)=true)/\((∀f∈gs,f.name≠ "_")->r3 P n ek gs)
 |[],[],_,_=>⟨rfl,fun _=>trivial⟩
 |[],_::_,_,h=>by simp[Bi]at h
 |_::_,[],_,h=>by simp[Bi]at h
 |b::r,f::gs,n,h=>by
  simp only[gV,Bi,cP,ey]at h;obtain⟨⟨J,U⟩,aq⟩:=h;obtain⟨i1,i2⟩:=Vm aL r gs (n+1) aq;split at U
  ·rename_i aG;obtain⟨d,hu,aK⟩:=jl aL aG;obtain rfl:=Dy aK;refine⟨by simp only[List.all_cons,hu,i1,Bool.and_self],fun aA=>⟨⟨J,aA f Ψ,?_⟩,i2 fun g be=>aA g (by simp[be])⟩⟩;have:b=false:=by simpa using U
   subst this;simpa using⟨_,hu⟩
  ·rename_i aG;obtain⟨d,hu,aK⟩:=jl aL aG;obtain rfl:=y1 aK;refine⟨by simp only[List.all_cons,hu,i1,Bool.and_self],fun aA=>⟨⟨J,aA f Ψ,?_⟩,i2 fun g be=>aA g (by simp[be])⟩⟩;subst U;simpa using hu
  ·cases U
def Vo{P:cH}{aT:List (Nat×ev)}(b:hX P aT=true){a:List Bool}{t:Nat}(h:Hk aT a t=true):∃gs,P.underlying t=some (.struct gs)/\r3 P 0 a gs.toList/\P.stoodInHeld t=false/\P.eqGuardType P.depth t=false:=by
 unfold Hk at h;split at h
 ·rename_i e;obtain⟨d,hu,c⟩:=jl b e;have ax:=(wY b e).cmp d hu;cases d<;>simp[k7]at c;rename_i gs;subst c;obtain⟨i1,i2⟩:=Vm b a gs.toList 0 h;have f:Vn P gs=true:=i1;simp only[LC,f,Bool.not_true,Bool.false_or,T8,cP,sS,j4,bne_iff_ne,ne_eq]at ax;exact⟨gs,hu,i2 ax.1.1,ax.1.2,ax.2⟩
 ·cases h
def UG{P:cH}{w:World}{ν:bc}{t:gU}{gs:Array Field}{a:List Bool}(hu:P.underlying t=some (.struct gs))(be:r3 P 0 a gs.toList)(dy:P.stoodInHeld t=false){as b:List af}{X Y:Array Value}(J:cY w ν as X.toList)(U:cY w ν b Y.toList){q:Bool}(h:kQ a as b=some q):
  (Op.equalIn 10000 t (.agg X) (.agg Y)).run P w= .ok q w/\(q=true->X=Y)/\∀m,(X.toList.zip X.toList).all (fun(x,y)=>Instr.sameBits m x y)=true:=by
 have c:P.fieldsOf t=gs:=by simp[Program.fieldsOf,hu]
 obtain⟨i1,i2,i3⟩:=aeu 9998 a gs.toList 0 as b _ _ q be rfl rfl J U h;refine⟨?_,fun e=>?_,?_⟩
 ·rw[run_equalIn_struct w 9999 t X Y (by rw[c];exact hu) dy,c];exact i1
 ·have:=i2 e;simpa using this
 ·simpa using i3
inductive vB (P:cH):kf->gU->Prop
 |i {t:gU} {k:IntKind}:P.underlying t=some (.int k)->vB P .i t
 |s {t:gU}:P.underlying t=some .string->vB P .s t
 |a {t:gU} {ek:List Bool} {gs:Array Field}:P.underlying t=some (.struct gs)->r3 P 0 ek gs.toList->P.stoodInHeld t=false->vB P (.a ek) t
def XO{P:cH}{aT:List (Nat×ev)}(c:hX P aT=true){b:kf}{t:Nat}(h:zL aT b t=true):vB P b t:=by
 cases b with
 |i=>
  simp only[zL]at h;split at h
  ·rename_i f;obtain⟨d,hu,e⟩:=jl c f;obtain rfl:=Dy e;exact .i hu
  ·cases h
 |s=>
  simp only[zL]at h;split at h
  ·rename_i f;obtain⟨d,hu,e⟩:=jl c f;obtain rfl:=y1 e;exact .s hu
  ·cases h
 |a j=>obtain⟨gs,J,U,g,_⟩:=Vo c h;exact .a J U g
def uu(P:cH)(w:World)(c:kf)(t:gU)(a u:Value)(b:Bool):Prop:=match c with
 | .a _=>(Op.equal t a u).run P w= .ok b w
 |_=> ∀d,P.underlying t=some d->Instr.sameNow d a u=some b
def iX(P:cH)(w:World)(b:kf)(t:gU)(a:Value)(es:List MapEntry)(i:Nat)(r:bd (Nat×Value)):Prop:=match b with
 | .a _=>(Instr.findAsking t a es i).run P w= .ok r w
 |_=> ∀d,P.underlying t=some d->Instr.findNow d a es i=some r
def iX.nil(P:cH)(w:World)(a:kf)(t:gU)(b:Value)(i:Nat):iX P w a t b [] i none:=by cases a<;>simp[iX,Instr.findAsking,Instr.findNow]
def iX.hit{P:cH}{w:World}{b:kf}{t:gU}{f:Value}{e:MapEntry}{es:List MapEntry}{i:Nat}(h:uu P w b t f e.key true):iX P w b t f (e::es) i (some (i,e.val)):=by
 cases b with
 |a g=>simp only[uu]at h;simp[iX,Instr.findAsking,h]
 |i=>simp only[uu]at h;simp only[iX];intro d c;simp[Instr.findNow,h d c]
 |s=>simp only[uu]at h;simp only[iX];intro d c;simp[Instr.findNow,h d c]
def iX.miss{P:cH}{w:World}{f:kf}{t:gU}{g:Value}{e:MapEntry}{es:List MapEntry}{i:Nat}{r:bd (Nat×Value)}(h:uu P w f t g e.key false)(b:iX P w f t g es (i+1) r):iX P w f t g (e::es) i r:=by
 cases f with
 |a j=>simp only[uu]at h;simp only[iX]at b;simp[iX,Instr.findAsking,h,b]
 |i=>simp only[uu]at h;simp only[iX]at b⊢;intro d c;simp[Instr.findNow,h d c,b d c]
 |s=>simp only[uu]at h;simp only[iX]at b⊢;intro d c;simp[Instr.findNow,h d c,b d c]
def iX.run{P:cH}{w:World}{c:kf}{t:gU}(d:vB P c t){b:Value}{es:List MapEntry}{r:bd (Nat×Value)}(h:iX P w c t b es 0 r):(Instr.findKey t b es).run P w= .ok r w:=by
 cases d with
 |i hu=>simp only[iX]at h;simp[Instr.findKey,run_underlying hu,h _ hu]
 |s hu=>simp only[iX]at h;simp[Instr.findKey,run_underlying hu,h _ hu]
 |a hu be dy=>
  simp only[iX]at h;cases es with
  |nil=>simp[Instr.findAsking]at h;simp[Instr.findKey,run_underlying hu,Instr.findNow,h]
  |cons e es=>
   rename_i gs;have:Instr.sameNow (.struct gs) b e.key=none:=by cases b<;>rfl
   simp only[Instr.findKey,gx,run_underlying hu,gC,Instr.findNow,this];exact h
def XM{P:cH}{w:World}{ν:bc}{h:kf}{t:gU}(f:vB P h t){k bt:af}{g u:Value}(ab:aV w ν k g)(J:aV w ν bt u){bb:Bool}(c:u0 h k bt=some bb):
  uu P w h t g u bb/\(bb=true->u=g/\Instr.sameBits 10000 u g=true):=by
 unfold u0 at c;split at c
 ·split at c
  ·rename_i j;subst j;simp only[aV]at ab J;subst ab;subst J;cases f with
   |i hu=>refine⟨fun d f=>by rw[hu]at f;cases f;simpa[Instr.sameNow]using c,fun e=>?_⟩;subst e;simp only[dU,ey]at c;subst c;exact⟨rfl,by simp[Instr.sameBits]⟩
  ·cases c
 ·rename_i a b;simp only[aV]at ab J;obtain⟨rfl,_⟩:=ab;obtain⟨rfl,_⟩:=J;cases f with
  |s hu=>
   refine⟨fun d f=>?_,fun e=>?_⟩
   ·rw[hu]at f;cases f;simp only[Instr.sameNow];rw[<-c];congr 1;rw[q3,MapKept.bytes_beq];simp
   ·subst e;simp only[dU,ey]at c;subst c;exact⟨rfl,by simp only[Instr.sameBits];exact(MapKept.bytes_beq _ _).2 rfl⟩
 ·simp only[aV]at ab J;obtain⟨X,rfl,ab⟩:=ab;obtain⟨Y,rfl,J⟩:=J;cases f with
  |a hu be dy=>obtain⟨i1,i2,i3⟩:=UG hu be dy ab J c;refine⟨by simpa[uu,Op.equal,Op.maxDepth]using i1,fun e=>?_⟩;have:=i2 e;subst this;exact⟨rfl,by simp[Instr.sameBits,i3]⟩
 ·cases c
def OA{P:cH}{w:World}{ν:bc}{c:kf}{t:gU}(o:vB P c t){k:af}{f:Value}(ab:aV w ν k f):∀(borns:List Nat) (kvs:List af) (us:List Value) (i:Nat) (r:bd af),c7 w ν kvs us->kvs.length=2*borns.length->x4 c k kvs=some r->
  match r with
  |none=>iX P w c t f (gQ borns us) i none
  |some v=> ∃j u,iX P w c t f (gQ borns us) i (some (j,u))/\aV w ν v u
 |[],[],us,i,r,h,_,hm=>by simp only[x4]at hm;cases hm;simp only[c7]at h;subst h;simpa[gQ]using iX.nil P w c t f i
 |[],_::_,_,_,_,_,a,_=>by simp at a
 |b::l,[],_,_,_,_,a,_=>by simp at a
 |b::l,[_],_,_,_,_,a,_=>by simp at a;omega
 |b::l,bt::v::kvs,us,i,r,h,a,hm=>by
  simp only[c7]at h;obtain⟨g,s,rfl,J,d,p,rfl,U,q⟩:=h;simp only[x4]at hm;simp only[gQ];cases m:u0 c k bt with
  |none=>simp[m]at hm
  |some bb=>
   obtain⟨s1,_⟩:=XM o ab J m;simp only[m]at hm;cases bb with
   |true=>simp only[dU]at hm;subst hm;exact⟨i,d,iX.hit (e:=⟨g,d,b⟩) s1,U⟩
   |false=>
    simp only at hm;have n:=OA o ab l kvs p (i+1) r q (by simp at a;omega) hm;cases r with
    |none=>exact iX.miss (e:=⟨g,d,b⟩) s1 n
    |some v'=>obtain⟨j,u,g1,g2⟩:=n;exact⟨j,u,iX.miss (e:=⟨g,d,b⟩) s1 g1,g2⟩
def LA{P:cH}{w:World}{t:Nat}{d:TypeDesc}(hu:P.underlying t=some d)(a:(∃k,d= .int k)\/d= .string)(e:Bool)(n:Nat)(v:Value):(Instr.checkKey e (n+1) t v).run P w= .ok () w:=by unfold Instr.checkKey;rcases a with⟨k,rfl⟩|rfl<;>simp[run_underlying hu]
def aiu{P:cH}{w:World}{ν:bc}{X:Array Value}(i:List Bool):∀(gs:List Field) (n:Nat) (as:List af),r3 P n i gs->cY w ν as (X.toList.drop n)->(kQ i as as).isSome=true->
  ∀f∈gs,(∃v,(part f.type X f.offset).run P w= .ok v w)/\∃d,P.underlying f.type=some d/\((∃k,d= .int k)\/d= .string):=by
 induction i with
 |nil=>intro gs n as be _ _ f a;cases gs<;>simp only[r3]at be;cases a
 |cons b r q=>
  intro gs n as be j ax f a;cases gs with
  |nil=>cases a
  |cons g gs=>
  simp only[r3]at be;obtain⟨⟨t,y,c⟩,be⟩:=be;cases as with
  |nil=>cases b<;>simp[kQ]at ax
  |cons p as=>
  have l:(kQ r as as).isSome=true:=by cases b<;>cases p<;>simp[kQ]at ax⊢ <;>exact ax
  simp only[cY]at j;obtain⟨u,o,e,_,m⟩:=j;have s:X.toList.drop (n+1)=o:=by rw[<-List.tail_drop,e];rfl
  have x:X[n]? =some u:=by rw[<-vt,<-List.head?_drop,e];rfl
  rcases gI.1 a with rfl|a
  ·refine⟨⟨u,by rw[t];exact run_part_plain w (Fk c) x⟩,?_⟩;cases b
   ·obtain⟨k,h⟩:=(by simpa using c:∃k,P.underlying f.type=some (.int k));exact⟨_,h,.inl ⟨k,rfl⟩⟩
   ·exact⟨_,by simpa using c,.inr rfl⟩
  ·exact q gs (n+1) as be (by rw[s];exact m) l f a
def Vw{P:cH}{w:World}{α:Type}(body:α->PUnit->Sem (ForInStep PUnit)):∀(l:List α),(∀f∈l,(body f ⟨⟩).run P w= .ok (.yield ⟨⟩) w)->(forIn l PUnit.unit body).run P w= .ok PUnit.unit w
 |[],_=>by simp
 |f::l,h=>by simp only[List.forIn_cons,gx,h f Ψ,gC];exact Vw body l fun g be=>h g (by simp[be])
def abx{P:cH}{w:World}{ν:bc}{cA:kf}{t:Nat}(aK:vB P cA t)(e:Bool){k:af}{v:Value}(ab:aV w ν k v)(hi:xZ cA k=true):(Instr.checkKey e 10000 t v).run P w= .ok () w:=by
 cases aK with
 |i hu=>exact LA hu (.inl ⟨_,rfl⟩) e 9999 v
 |s hu=>exact LA hu (.inr rfl) e 9999 v
 |a hu be dy=>
  rename_i ek gs;cases k<;>simp only[xZ,hQ]at hi;rename_i as;simp only[aV]at ab;obtain⟨X,rfl,ab⟩:=ab;unfold Instr.checkKey;simp only[gx,run_underlying hu,gC];rw[<-Array.forIn_toList];rw[Vw]
  ·simp
  ·intro f aG;obtain⟨⟨v,J⟩,d,U,aq⟩:=aiu ek gs.toList 0 as be (by simpa using ab) hi f aG;have aZ:=LA (w:=w) U aq e 9998 v;by_cases aA:f.name= "_"
   ·simp[aA]
   ·simp[aA,J,aZ]
def Yz{w:World}{ν:bc}{n:Nat}:∀(borns:List Nat) (kvs:List af) (us:List Value) (p:af),c7 w ν kvs us->n5 n borns kvs=some p->∃e,(gQ borns us).find? (·.born==n)=some e/\aV w ν p (.tuple #[e.key,e.val])
 |[],_,_,_,_,hm=>by simp[n5]at hm
 |_::_,[],_,_,_,hm=>by simp[n5]at hm
 |_::_,[_],_,_,_,hm=>by simp[n5]at hm
 |b::g,k::v::kvs,us,p,h,hm=>by
  simp only[c7]at h;obtain⟨d,j,rfl,J,c,f,rfl,U,i⟩:=h;simp only[n5]at hm;simp only[gQ];by_cases e:b=n
  ·rw[if_pos e]at hm;cases hm;refine⟨⟨d,c,b⟩,by simp[List.find?,e],?_⟩;simp only[aV];exact⟨#[d,c],rfl,by simp only[c7];exact⟨_,_,rfl,J,_,_,rfl,U,rfl⟩⟩
  ·rw[if_neg e]at hm;obtain⟨x,g1,g2⟩:=Yz g kvs f p i hm;have a:(b==n)=false:=by simpa using e
   exact⟨x,by simp[List.find?,a,g1],g2⟩
def acw{P:cH}{aT:List (Nat×ev)}(H:hX P aT=true){C:fp}{st:bp}{a:Act}{w:World}{ν:bc}(B:c9 C st a w ν){i:gP}(ajU:∀cA z ok x k,i≠ .mgetB cA z ok x k){o:Oper}(ar:F1 aT i o.op=true)
  {c:Prop} {p:af} (he:hY st i=some (c,p)) (ax:c):∃v,(execOp a.eval o).run P w= .ok (.value v) w/\aV w ν p v:=by
 obtain⟨dst,op,type,pos,after,guard⟩:=o;simp only at ar;unfold F1 at ar;split at ar
 ·rename_i x o;simp only[hY]at he;cases he;exact⟨_,rfl,e5 B ar⟩
 ·rename_i x o;simp only[hY]at he;cases he;exact⟨_,rfl,e5 B ar⟩
 ·rename_i cC x y atW x' y';simp only[cP]at ar;have J:=e5 B ar.1.1;have U:=e5 B ar.1.2;have M:=e5 B ar.2;simp only[hY,Ja]at he;split at he
  ·rename_i b E;rw[E]at J;simp only[aV]at J;split at he
   ·rename_i u v hu O;cases he;rw[hu]at U;rw[O]at M;simp only[aV]at U M;refine⟨.bool (cond b u v),?_,by simp[aV]⟩;simp only[execOp,J,U,M,asBool,gx,hA,gC];cases b<;>rfl
   ·split at he
    ·cases he;exact⟨_,by simp only[execOp,J,asBool,gx,hA,gC,if_true],U⟩
    ·cases he;exact⟨_,by simp only[execOp,J,asBool,gx,hA,gC,hQ,if_false],M⟩
  ·cases he
 ·rename_i agg sz x t o;simp only[cP]at ar;obtain⟨J,U⟩:=ar;split at J
  ·rename_i f F;simp only[cP,ey]at J;obtain⟨rfl,rfl⟩:=J;obtain⟨v,g1,g2⟩:=IA H B.good F (e5 B U) (by simpa only[hY]using he) ax;exact⟨v,l3 g1,g2⟩
  ·cases J
 ·rename_i off agg sz x s o i;simp only[cP]at ar;obtain⟨J,U⟩:=ar;split at J
  ·rename_i f F;split at J
   ·rename_i ya t D8;simp only[cP,ey]at J;obtain⟨rfl,J⟩:=J;split at J
    ·rename_i g be;simp only[cP,ey,bne_iff_ne,ne_eq]at J;obtain⟨⟨rfl,rfl⟩,V⟩:=J;obtain⟨v,g1,g2⟩:=aip H F rfl D8 be V (e5 B U) (by simpa only[hY]using he) ax;exact⟨v,l3 g1,g2⟩
    ·cases J
   ·cases J
  ·cases J
 ·rename_i off agg sz x s o i;simp only[cP]at ar;obtain⟨J,U⟩:=ar;split at J
  ·rename_i f F;split at J
   ·rename_i ya t D8;simp only[cP,ey]at J;obtain⟨rfl,J⟩:=J;split at J
    ·rename_i g be;simp only[cP,ey]at J;obtain⟨rfl,rfl⟩:=J;obtain⟨v,g1,g2⟩:=aiv H F rfl D8 be (e5 B U) (by simpa only[hY]using he) ax;exact⟨v,l3 g1,g2⟩
    ·cases J
   ·cases J
  ·cases J
 ·rename_i sz x i t o j;simp only[cP]at ar;obtain⟨⟨J,U⟩,M⟩:=ar;split at J
  ·rename_i e F;split at J
   ·rename_i g be;simp only[ey]at J;subst J;obtain⟨v,g1,g2⟩:=als H F rfl be (e5 B U) (e5 B M) (by simpa only[hY]using he) ax;exact⟨v,l3 g1,g2⟩
   ·cases J
  ·cases J
 ·rename_i x i t o j;simp only[cP]at ar;obtain⟨⟨J,U⟩,M⟩:=ar;split at J
  ·rename_i F;obtain⟨d,L,K⟩:=jl H F;obtain rfl:=y1 K;have A:=e5 B U;have G:=e5 B M;simp only[hY,JW]at he;split at he
   ·rename_i s k n ai Z;cases he;rw[ai]at A;rw[Z]at G;simp only[aV]at A G;obtain⟨v7,xv⟩:=ax;have bO:n.toNat<s.length:=Ω
    have akj:(⟨s.toArray⟩:ByteArray)[n.toNat]? =some (s.getD n.toNat 0):=by exact ajA s n.toNat bO
    refine⟨_,l3 (v:= .int .u8 (s.getD n.toNat 0).toNat) ?_,by simp[aV]⟩;simp only[Instr.index,G,asIntOf,A.1,gx,hA,gC,run_underlying L,v7,if_true,akj]
   ·cases he
  ·cases J
 ·rename_i x lo hi t o l h;simp only[cP]at ar;obtain⟨⟨⟨J,U⟩,M⟩,aZ⟩:=ar;split at J
  ·rename_i F;obtain⟨d,L,K⟩:=jl H F;obtain rfl:=y1 K;have A:=e5 B U;simp only[hY,J1]at he;split at he
   ·rename_i s ai;rw[ai]at A;simp only[aV]at A;split at he
    ·rename_i N Q av MZ;cases he;obtain⟨bQ,cq,di⟩:=ax;have a8:=I5 B M av;have bN:=I5 B aZ MZ;refine⟨_,l3 (v:= .string ⟨((s.take Q.toNat).drop N.toNat).toArray⟩) ?_,?_⟩
     ·have E:=RM P w false s.length s.length (l.map a.eval) (h.map a.eval) N Q
       a8 bN bQ cq di (dP _)
      simp only[Instr.sliceAt,Instr.slice,A.1,gx,hA,gC,run_underlying L,Option.map_none,lH,hQ,if_false,FJ,E,ags]
     ·simp only[aV];refine⟨trivial,?_⟩;have:=A.2;simp only[uj,List.length_take];omega
    ·cases he
   ·cases he
  ·cases J
 ·rename_i sz x lo hi t o l h;simp only[cP]at ar;obtain⟨⟨⟨J,U⟩,M⟩,aZ⟩:=ar;split at J
  ·rename_i e F;split at J
   ·rename_i g be;simp only[ey]at J;subst J;obtain⟨d,L,K⟩:=jl H F;obtain rfl:=sX K;obtain⟨_,en⟩:=wX H be w;have A:=e5 B U;simp only[hY,IC]at he;split at he
    ·rename_i ed tag xs ai;split at he
     ·rename_i ga;subst ga;rw[ai]at A;simp only[aV]at A;obtain⟨⟨R,cap,O,S,W,fK⟩,_⟩:=A;split at he
      ·rename_i N Q av MZ;cases he;obtain⟨bQ,cq,di⟩:=ax;have a8:=I5 B M av;have bN:=I5 B aZ MZ;have E:=RM P w true xs.length cap (l.map a.eval) (h.map a.eval) N Q
        a8 bN bQ cq di S
       refine⟨_,l3 (v:= .slice (if cap=N.toNat then R else R.map (·.add (N.toNat*g.size))) (Q.toNat-N.toNat) (cap-N.toNat)) ?_,?_⟩
       ·simp only[Instr.sliceAt,Instr.slice,O,gx,hA,gC,run_underlying L,Option.map_none,E,en]
       ·simp only[aV];have hlen:((xs.take Q.toNat).drop N.toNat).length=Q.toNat-N.toNat:=by simp;omega
        refine⟨⟨_,_,by rw[hlen],by rw[hlen];omega,⟨Ω,by rw[hlen];omega⟩,?_⟩,(fun h=>by cases h),(fun g h=>by cases h),(fun _ _ h=>by cases h),(fun _ h=>by cases h)⟩;rcases fK with rfl|⟨b,off,us,rfl,g1,g2⟩
        ·left;simp
        ·by_cases Br:cap=N.toNat
         ·left;apply List.eq_nil_of_length_eq_zero;rw[hlen];omega
         ·right;rw[if_neg Br];refine⟨b,off+N.toNat*g.size,(us.take (Q.toNat*g.size)).drop (N.toNat*g.size),by simp[pL],It _ (Iv _ g1),abe _ (abh _ g2)⟩
      ·cases he
     ·cases he
    ·cases he
   ·cases J
  ·cases J
 ·rename_i op wr x y ZL ty o o' arN;simp only[cP,gy]at ar;obtain⟨⟨rfl,J⟩,U⟩:=ar;obtain⟨r,g1,g2⟩:=aef P w ν (by simpa only[hY]using he) ax ty (e5 B J) (e5 B U) o o';exact⟨r,l3 g1,g2⟩
 ·rename_i x op ty o;simp only[cP,gy]at ar;obtain⟨rfl,J⟩:=ar;have A:=e5 B J;simp only[hY]at he;unfold IW at he;split at he
  ·rename_i b E;cases he;rw[E]at A;simp only[aV]at A;exact⟨_,l3 (v:= .bool (!b)) (by simp[Op.unary,A]),by simp[aV]⟩
  ·cases he
 ·rename_i x op ty o;simp only[cP,gy]at ar;obtain⟨rfl,J⟩:=ar;have A:=e5 B J;simp only[hY]at he;unfold IQ at he;split at he
  ·rename_i k n E;cases he;rw[E]at A;simp only[aV]at A;exact⟨_,l3 (v:= .int k (k.wrap (0-n))) (by simp[Op.unary,A,Op.intArith]),by simp[aV]⟩
  ·cases he
 ·rename_i k x s d o;simp only[cP]at ar;obtain⟨J,U⟩:=ar;split at J
  ·rename_i a8 bN zn tj;simp only[gy]at J;subst J;obtain⟨d1,gh,MM⟩:=jl H zn;obtain rfl:=Dy MM;obtain⟨d2,fi,MN⟩:=jl H tj;obtain rfl:=Dy MN;have A:=e5 B U;simp only[hY]at he;unfold GV at he;split at he
   ·rename_i bt n E;cases he;rw[E]at A;simp only[aV]at A;exact⟨_,l3 (v:= .int k (k.wrap n)) (by simp[convert,A,run_underlying gh,run_underlying fi,Conv.intToInt]),by simp[aV]⟩
   ·cases he
  ·cases J
 ·rename_i i x o j;simp only[cP,ey]at ar;obtain⟨rfl,J⟩:=ar;have A:=e5 B J;simp only[hY]at he;unfold Ba at he;split at he
  ·rename_i bm E;simp only[hr]at he;obtain⟨q,bK,he⟩:=he;cases he;rw[E]at A;simp only[aV]at A;obtain⟨us,hu,U⟩:=A;obtain⟨v,g1,g2⟩:=Fy i U bK;have mc:us[i]? =some v:=by simpa using g1
   exact⟨v,l3 (by simp[Instr.extract,hu,mc]),g2⟩
  ·cases he
 ·rename_i x o t;simp only[cP]at ar;obtain⟨J,U⟩:=ar;have A:=e5 B U;simp only[hY]at he;unfold B5 at he;split at he
  ·rename_i sz tag xs E;cases he;rw[E]at A;simp only[aV]at A;obtain⟨⟨R,cap,O,_⟩,_⟩:=A;refine⟨.int .i64 xs.length,?_,by simp[aV]⟩;split at J
   ·rename_i F;obtain⟨d,L,K⟩:=jl H F;obtain rfl:=sX K;simp[execOp,resolve,invoke,builtin,Builtin.len_,run_underlying L,O,goInt]
   ·cases J
  ·rename_i sz k n E;cases he;rw[E]at A;simp only[aV]at A;obtain⟨⟨R,cap,O⟩,_⟩:=A;refine⟨.int .i64 n,?_,by simp[aV]⟩;split at J
   ·rename_i F;obtain⟨d,L,K⟩:=jl H F;obtain rfl:=sX K;simp[execOp,resolve,invoke,builtin,Builtin.len_,run_underlying L,O,goInt]
   ·cases J
  ·rename_i R n cap E;cases he;rw[E]at A;simp only[aV]at A;refine⟨.int .i64 n,?_,by simp[aV]⟩;split at J
   ·rename_i F;obtain⟨d,L,K⟩:=jl H F;obtain rfl:=sX K;simp[execOp,resolve,invoke,builtin,Builtin.len_,run_underlying L,A,goInt]
   ·cases J
  ·cases he
 ·rename_i x o t;simp only[cP]at ar;obtain⟨J,U⟩:=ar;have A:=e5 B U;simp only[hY]at he;unfold FK at he;split at he
  ·rename_i s E;cases he;rw[E]at A;simp only[aV]at A;refine⟨.int .i64 s.length,?_,by simp[aV]⟩;split at J
   ·rename_i F;obtain⟨d,L,K⟩:=jl H F;obtain rfl:=y1 K;simp[execOp,resolve,invoke,builtin,Builtin.len_,run_underlying L,A.1,goInt,FJ]
   ·cases J
  ·rename_i s E;cases he;rw[E]at A;simp only[aV]at A;refine⟨.int .i64 s.size,?_,by simp[aV]⟩;split at J
   ·rename_i F;obtain⟨d,L,K⟩:=jl H F;obtain rfl:=y1 K;simp[execOp,resolve,invoke,builtin,Builtin.len_,run_underlying L,A,goInt]
   ·cases J
  ·cases he
 ·rename_i zero parts t bT;split at ar
  ·rename_i ek z F;simp only[cP]at ar;obtain⟨⟨J,U⟩,M⟩:=ar;have bC:=ats J;obtain⟨i,d,atr,A,G,bh,b4,dN,dm,sY,sZ⟩:=(wY H F).ex;obtain⟨gs,rfl,lg⟩:=LH dN;simp only at bC sY sZ;subst bC;have mC:(gs.toList.all fun f=>(eG aT f.type).isSome)=true:=by rw[<-lg]at U;simpa[List.all_map,Function.comp_def]using U
   obtain⟨tV,c2,dD⟩:=ZW H gs.toList mC;rw[lg]at dD;cases atr<;>simp only[AD]at sY;case agg us=>
    simp only[hY]at he;cases E:vN st.t zero parts with
    |none=>simp[E]at he
    |some x=>obtain⟨cC,cs'⟩:=x;simp only[E,pC]at he;cases he;obtain⟨b2,g1,g2⟩:=aby B dD parts bT.toList zero us c cs' M (Q6 w ν _ _ sY) E ax;refine⟨.agg b2,l3 (run_build w t _ b2 ?_),by simp only[aV];exact⟨b2,rfl,g2⟩⟩;simp only[Program.built,A,G,dm,c2,pz];simpa using g1
   all_goals cases sY
  ·cases ar
 ·rename_i x o;have A:=e5 B ar;simp only[hY]at he;unfold Cj at he;split at he
  ·rename_i k off E;cases he;rw[E]at A;have G:=A;simp only[aV]at A;obtain⟨b,_,O⟩:=A;exact⟨a.eval o,by simp[execOp,O],G⟩
  ·rename_i q E;cases he;rw[E]at A;have G:=A;simp only[aV]at A;obtain⟨b,off,u,O,_⟩:=A;exact⟨a.eval o,by simp[execOp,O],G⟩
  ·rename_i f cs E;cases he;rw[E]at A;have G:=A;simp only[aV]at A;obtain⟨us,O,_⟩:=A;exact⟨a.eval o,by simp[execOp,O],G⟩
  ·cases he
 ·rename_i x y o o' t t';simp only[cP]at ar;have A:=e5 B ar.1;have G:=e5 B ar.2;simp only[hY]at he;unfold IM at he;split at he
  ·rename_i k m bt n hm Z;split at he
   ·rename_i ab;subst ab;cases he;rw[hm]at A;rw[Z]at G;simp only[aV]at A G;exact⟨.int k (if n<m then n else m),by simp[execOp,resolve,invoke,builtin,Builtin.min_,Builtin.min2,A,G],by simp[aV]⟩
   ·cases he
  ·cases he
 ·rename_i n xs m os;simp only[cP,ey]at ar;obtain⟨rfl,ar⟩:=ar;simp only[hY]at he;cases he;have vY:=Fx B ar;refine⟨.func (.func n) #[] (os.map a.eval),by simp[execOp,Instr.makeFunc],?_⟩;simp only[aV];exact⟨os.map a.eval,rfl,by simpa using vY⟩
 ·rename_i cA zero ok x k t o o' IY;simp only[cP,ey]at ar;obtain⟨⟨⟨rfl,J⟩,U⟩,M⟩:=ar;have A:=e5 B U;have G:=e5 B M;split at J
  ·rename_i sz mx pc sk z F;simp only[cP]at J;obtain⟨akr,MR⟩:=J;split at MR
   ·rename_i auP HI;have bC:=Q8 MR;obtain⟨cV,hu,K⟩:=jl H F;have xw:cV= .map pc sk:=by cases cV<;>simp[k7]at K;obtain⟨rfl,rfl⟩:=K;rfl
    subst xw;obtain⟨cd,l4,z2,_⟩:=QF H HI w;rw[<-bC]at z2;have aa:=(Q7 w ν z2).1;have rk:=XO H akr;simp only[hY]at he;unfold pe at he;split at he
    ·rename_i key ad;rw[ad]at A;simp only[aV]at A;obtain⟨bl,S,W⟩:=A;split at he
     ·rename_i clock borns kvs hV;obtain⟨h3,us,el,g1,g2,g3,g4,g5⟩:=B.good.box key _ hV;rw[S]at g1;cases g1;simp only[lZ]at g4;simp only[k2]at g5;have iI:(getObj bl).run P w= .ok (.map (gQ borns us.toList).toArray clock) w:=yo g4;split at he
      ·cases he
      rename_i fM;have D5:=abx (P:=P) (w:=w) rk ((gQ borns us.toList).toArray.isEmpty) G (by simpa using fM);split at he
      ·rename_i v hm;cases he;obtain⟨j,u,f1,f2⟩:=OA rk G borns kvs us.toList 0 _ g5.1 g5.2.len hm;refine⟨if ok then .tuple #[u,.bool true]else u,?_,?_⟩
       ·simp only[execOp];refine l3 ?_;simp only[Instr.lookup,gx,run_underlying hu,gC,W,iI,hA,D5,f1.run rk]
       ·cases ok
        ·simpa using f2
        ·simp only[if_true,aV];exact⟨_,rfl,by simp only[c7];exact⟨_,_,rfl,f2,_,_,rfl,by simp[aV],rfl⟩⟩
      ·rename_i hm;cases he;have f1:=OA rk G borns kvs us.toList 0 _ g5.1 g5.2.len hm;simp only at f1;refine⟨if ok then .tuple #[cd,.bool false]else cd,?_,?_⟩
       ·simp only[execOp];refine l3 ?_;simp only[Instr.lookup,gx,run_underlying hu,gC,W,iI,hA,D5,f1.run rk,l4]
       ·cases ok
        ·simpa using aa
        ·simp only[if_true,aV];exact⟨_,rfl,by simp only[c7];exact⟨_,_,rfl,aa,_,_,rfl,by simp[aV],rfl⟩⟩
      ·cases he
     ·cases he
    ·cases he
   ·cases MR
  ·cases J
 ·rename_i x o;have A:=e5 B ar;simp only[hY]at he;unfold qP at he;split at he
  ·rename_i gk ad;rw[ad]at A;simp only[aV]at A;obtain⟨bl,S,W⟩:=A;split at he
   ·rename_i since seen last mk hV;obtain⟨h3,us,el,g1,g2,g3,g4,g5⟩:=B.good.box gk _ hV;rw[S]at g1;cases g1;simp only[lZ]at g4;simp only[k2,c7,aV]at g5;obtain⟨u,b2,sx,⟨mb,m1,rfl⟩,rfl⟩:=g5;rw[sx]at g4;simp only at g4;split at he
    ·rename_i clock borns kvs akB;obtain⟨aek,sN,afq,a8,bN,cn,eC,ds⟩:=B.good.box mk _ akB;rw[m1]at a8;cases a8;simp only[lZ]at eC;simp only[k2]at ds;split at he
     ·rename_i n Z;simp only[hr]at he;obtain⟨q,bK,he⟩:=he;cases he;obtain⟨e,f1,f2⟩:=Yz borns kvs sN.toList p ds.1 bK;refine⟨.tuple #[e.key,e.val],?_,f2⟩;simp only[execOp];refine l3 ?_;have akf:(getObj bl).run P w= .ok (.mapIter (some mb) since seen.toArray last) w:=yo g4;have akg:(getObj mb).run P w= .ok (.map (gQ borns sN.toList).toArray clock) w:=yo eC;have MG:seen.toArray.back? =some n:=by simpa using Z
      have Bs:(clock !=last)=false:=by simp[ax]
      have aj8:(gQ borns sN.toList).toArray.find? (·.born==n)=some e:=by simpa using f1
      simp only[Instr.entry,W,gx,akf,gC,MG,akg,Bs,hQ,if_false,aj8,hA]
     ·cases he
    ·cases he
   ·cases he
  ·cases he
 ·rename_i x o t;simp only[cP]at ar;obtain⟨J,U⟩:=ar;have A:=e5 B U;simp only[hY]at he;unfold Ci at he;split at he
  ·rename_i key E;rw[E]at A;simp only[aV]at A;obtain⟨bl,S,W⟩:=A;split at he
   ·rename_i clock borns kvs hV;cases he;obtain⟨h3,us,el,g1,g2,g3,g4,g5⟩:=B.good.box key _ hV;rw[S]at g1;cases g1;simp only[lZ]at g4;simp only[k2]at g5;have iI:(getObj bl).run P w= .ok (.map (gQ borns us.toList).toArray clock) w:=yo g4;have hlen:(gQ borns us.toList).length=borns.length:=UA g5.2.len (abn g5.1);refine⟨.int .i64 borns.length,?_,by simp[aV]⟩;split at J
    ·rename_i F;obtain⟨d,L,K⟩:=jl H F;obtain⟨pc,sk,rfl⟩:∃pc sk,d= .map pc sk:=by cases d<;>simp[k7]at K;exact⟨_,_,rfl⟩
     simp[execOp,resolve,invoke,builtin,Builtin.len_,run_underlying L,W,goInt,iI,hlen]
    ·cases J
   ·cases he
  ·cases he
 ·rename_i neg ek x y op t o o' arN;simp only[cP,gy]at ar;obtain⟨⟨⟨rfl,V⟩,J⟩,U⟩:=ar;have A:=e5 B J;have G:=e5 B U;simp only[hY]at he;unfold jr at he;split at he
  ·rename_i br b0 bS E;simp only at V;cases he;rw[bS]at A;rw[E]at G;simp only[aV]at A G;split at V
   ·rename_i F;obtain⟨d,L,K⟩:=jl H F;obtain rfl:d= .bool:=by cases d<;>simp[k7]at K;rfl
    refine⟨.bool (if neg then br !=b0 else br==b0),l3 ?_,by simp[aV]⟩;cases neg<;>simp[A,G,eqGuard,binOp,afy L,bne]
   ·cases V
  ·rename_i auW as dC bS E;simp only at V;simp only[hr]at he;obtain⟨q,bK,he⟩:=he;cases he;rw[bS]at A;rw[E]at G;simp only[aV]at A G;obtain⟨X,afj,apG⟩:=A;obtain⟨Y,afk,apH⟩:=G;obtain⟨gs,hu,be,dy,jI⟩:=Vo H V;obtain⟨i1,_,_⟩:=UG hu be dy apG apH bK;refine⟨.bool (if neg then !q else q),l3 ?_,by simp[aV]⟩;rw[afj,afk];cases neg
   ·simp only[hQ,if_false,gx,run_eqGuard_agg w _ t o o' X Y jI,gC,run_eql_struct,i1]
   ·simp only[if_true,gx,run_eqGuard_agg w _ t o o' X Y jI,gC,run_neq_struct,i1]
  ·cases he
 ·rename_i x y o o' t t';simp only[cP]at ar;have A:=e5 B ar.1;have G:=e5 B ar.2;simp only[hY]at he;unfold IG at he;split at he
  ·rename_i k m bt n hm Z;split at he
   ·rename_i ab;subst ab;cases he;rw[hm]at A;rw[Z]at G;simp only[aV]at A G;exact⟨.int k (if m<n then n else m),by simp[execOp,resolve,invoke,builtin,Builtin.max_,Builtin.max2,A,G],by simp[aV]⟩
   ·cases he
  ·cases he
 ·rename_i t x t' o;simp only[cP,ey]at ar;obtain⟨⟨rfl,J⟩,U⟩:=ar;have A:=e5 B U;simp only[hY]at he;cases he;split at J
  ·rename_i F;obtain⟨d,L,K⟩:=jl H F;obtain rfl:=sX K;refine⟨.iface t (a.eval o),l3 (by simp[Instr.makeInterface,run_underlying L]),?_⟩;simp only[aV];exact⟨_,rfl,A⟩
  ·cases J
 ·rename_i agg sz x t o;simp only[cP]at ar;obtain⟨J,U⟩:=ar;split at J
  ·rename_i f F;simp only[cP,ey]at J;obtain⟨rfl,rfl⟩:=J;obtain⟨v,g1,g2⟩:=IA H B.good F (e5 B U) (amn (by simpa only[hY]using he)) ax;exact⟨v,l3 g1,g2⟩
  ·cases J
 ·rename_i x s d o;simp only[cP]at ar;obtain⟨J,U⟩:=ar;split at J
  ·rename_i e _ _ zn tj;split at J
   ·rename_i aj7;obtain⟨d1,gh,MM⟩:=jl H zn;obtain rfl:=sX MM;obtain⟨d2,fi,MN⟩:=jl H tj;obtain rfl:=y1 MN;obtain⟨d3,hf,aj3⟩:=jl H aj7;obtain rfl:=Dy aj3;have A:=e5 B U;simp only[hY]at he;unfold Gu at he;split at he
    ·rename_i sz tag xs E;simp only[hr]at he;obtain⟨dC,pV,he⟩:=he;cases he;rw[E]at A;simp only[aV]at A;obtain⟨⟨R,cap,a7,bB,bX,dq⟩,_⟩:=A;have av:=RS pV;have ad:∃ns:List Int,ns.length=xs.length/\dC=ns.map AO/\(xs.length=0\/ ∃b off,R=some ⟨b,off,none⟩/\kX w ν.A b off (ns.map (Value.int .u8))):=by
      rcases dq with rfl|⟨b,off,us,c2,dD,hE⟩
      ·simp only[sb,dU]at pV;exact⟨[],rfl,by rw[<-pV];rfl,.inl rfl⟩
      ·obtain⟨ns,dL,eE,ku⟩:=RT pV hE;subst dL;exact⟨ns,by simpa using ku,eE,.inr ⟨b,off,c2,dD⟩⟩
     obtain⟨ns,gq,rfl,hN⟩:=ad;refine⟨_,l3 (v:= .string ⟨(ns.map AO).toArray⟩) ?_,by simp only[aV];exact⟨trivial,by rw[av];exact bX.2⟩⟩;rw[a7];simp only[convert,gx,run_underlying gh,run_underlying fi,gC];simp only[run_underlying hf,gx,gC,aeb gq hN]
    ·cases he
   ·cases J
  ·cases J
 ·rename_i agg sz x t o;simp only[cP]at ar;obtain⟨J,U⟩:=ar;split at J
  ·rename_i f F;simp only[cP,ey]at J;obtain⟨rfl,rfl⟩:=J;obtain⟨v,g1,g2⟩:=IA H B.good F (e5 B U) (aiA (by simpa only[hY]using he)) ax;exact⟨v,l3 g1,g2⟩
  ·cases J
 ·exact absurd rfl (ajU _ _ _ _ _)
 ·cases ar
def arT{P:cH}{aT:List (Nat×ev)}(f:hX P aT=true){C:fp}{st:bp}{a:Act}{w:World}{ν:bc}(g:c9 C st a w ν){i:gP}{o:Oper}(ar:F1 aT i o.op=true)
  {c:Prop} {p:af} (he:hY st i=some (c,p)) (ax:c):∃v,(execOp a.eval o).run P w= .ok (.value v) w/\aV w ν p v:=by
 by_cases d:∃b z ok x k,i= .mgetB b z ok x k
 ·obtain⟨b,z,ok,x,k,rfl⟩:=d;refine acw f g (i:= .mget b z ok x k) (fun _ _ _ _ _ e=>by cases e) ?_ he ax;obtain⟨dst,op,type,pos,after,guard⟩:=o;cases op<;>first|exact ar|simp[F1]at ar
 ·exact acw f g (fun b z ok x k e=>d ⟨b,z,ok,x,k,e⟩) ar he ax
def T1{w:World}{o:Obj}{b i:Nat}(h:b<w.heap.size):(w.alloc o).cell? ⟨b,i,none⟩=w.cell? ⟨b,i,none⟩:=World.cell?_of_block (Below.heap_alloc w o b h)
def bc.withBox(ν:bc)(k:aB)(bl:Nat):bc:={ν with bx:=fun j=>if j=k then some bl else ν.bx j}
def bc.withOwn(ν:bc)(k:aB)(n:Nat)(v:Value):bc:={ν with ow:=fun j=>if j=k then some (n,v)else ν.ow j}
def c9.lookNone{C:fp}{st:bp}{a:Act}{w:World}{ν:bc}(h:c9 C st a w ν){k:aB}(ab:fresh st.n st.o k):ae k st.b=none/\ae k st.e=none:=by
 obtain⟨J,U,_⟩:=h.new k ab;constructor
 ·cases b:ae k st.b with
  |none=>rfl
  |some cs=>obtain⟨bl,us,el,g1,_⟩:=h.good.box _ _ b;rw[J]at g1;cases g1
 ·cases b:ae k st.e with
  |none=>rfl
  |some o=>obtain⟨v,us,g1,_⟩:=h.good.own _ _ b;rw[U]at g1;cases g1
def Good.ownLt{pr:Nat->Prop}{w:World}{ν:bc}{b:List (aB×List af)}{e:List (aB×dW)}(h:Good pr w ν b e){g:aB}{o:dW}(be:ae g e=some o){n:Nat}{v:Value}(c:ν.ow g=some (n,v)){bl:Nat}(a:v.ownBlock=some bl):bl<w.heap.size:=by obtain⟨v',us,g1,g2,_⟩:=h.own g o be;rw[c]at g1;cases g1;exact(g2.lt bl a).2
def Good.boxLt{pr:Nat->Prop}{w:World}{ν:bc}{b:List (aB×List af)}{e:List (aB×dW)}(h:Good pr w ν b e){k:aB}{cs:List af}(ab:ae k b=some cs){bl:Nat}(a:ν.bx k=some bl):bl<w.heap.size:=by obtain⟨c,us,el,g1,_,_,g4,_⟩:=h.box k cs ab;rw[a]at g1;cases g1;exact(Array.getElem?_eq_some_iff.1 g4).1
def c9.newBox{C:fp}{st:bp}{a:Act}{w:World}{ν:bc}(h:c9 C st a w ν){c:aB}(H:ν.bx c=none/\ν.ow c=none/\∀j b,¬ν.tr c j b){n':Nat}{o':List aB}(O:∀j,fresh n' o' j->fresh st.n st.o j/\j≠c){cs:List af}{us:Array Value}(el:gU)(ax:k2 w ν cs us.toList):
  c9 C {st with b:=cI c cs st.b,n:=n',o:=o'} a (w.alloc (lZ cs us el)) (ν.withBox c w.heap.size)/\
  aV (w.alloc (lZ cs us el)) (ν.withBox c w.heap.size) (.ptr c 0) (.pointer (some ⟨w.heap.size,0,none⟩)):=by
 obtain⟨K,S,B⟩:=H;have ar:mv w ν (w.alloc (lZ cs us el)) (ν.withBox c w.heap.size):=by
  refine⟨fun b o f=>⟨f,T1 (h.good.alt b o f)⟩,fun k b _ ab=>?_,fun g n u _ be=>⟨n,u,be,.inl ⟨rfl,rfl⟩⟩,fun b o f=>yr (Below.heap_alloc w _ b (h.good.alt b o f)),fun _ _ _ _ h=>h⟩;have:k≠c:=fun e=>by subst e;rw[K]at ab;cases ab
  simp[bc.withBox,this,ab]
 have y:(w.alloc (lZ cs us el)).heap.size=w.heap.size+1:=Ψ
 have r:∀k,(ae k (cI c cs st.b)).isSome->k=c\/(k≠c/\(ae k st.b).isSome/\(ν.withBox c w.heap.size).bx k=ν.bx k):=by
  intro k ab;by_cases e:k=c
  ·exact .inl e
  ·rw[jj,if_neg (Ne.symm e)]at ab;exact .inr ⟨e,ab,by simp[bc.withBox,e]⟩
 refine⟨h.over ar rfl ⟨fun bl o f=>by rw[y];have:=h.good.alt bl o f;omega,fun k z ab=>?_,fun k bt bl ab L p q=>?_,fun g o be=>?_,h.good.oinj,fun g k n v bl be ab G d s=>?_,fun k=>?_,fun bl d k j E=>?_⟩
  ⟨h.fr.os,h.fr.tape,h.fr.output,by rw[y];have:=h.fr.size;omega,fun k ab hm=>?_,fun b o f=>?_,h.fr.fresh,fun n b d=>?_,h.fr.obn,h.fr.row,h.fr.obr,h.fr.trd,fun k j b d=>⟨(h.fr.trb k j b d).1,by rw[y];have:=(h.fr.trb k j b d).2;omega⟩,fun k j b d=>?_,fun b o f=>(ar.sh b o (h.fr.keep b o f).1).trans (h.fr.sh b o f)⟩ (fun m hm=>?_),?_⟩
 ·simp only at ab;rw[jj]at ab;by_cases e:c=k
  ·rw[if_pos e]at ab;cases ab;subst e;refine⟨w.heap.size,us,el,by simp[bc.withBox],.inr h.fr.size,fun o f=>?_,heap_alloc_new w _,rM ar ax⟩;have:=h.good.alt _ o f;omega
  ·rw[if_neg e]at ab;obtain⟨bl,R,N,g1,g2,g3,g4,g5⟩:=h.good.box k z ab;exact⟨bl,R,N,ar.bx _ _ trivial g1,g2,g3,by rw[Below.heap_alloc w _ bl (Array.getElem?_eq_some_iff.1 g4).1];exact g4,rM ar g5⟩
 ·rcases r k ab with rfl|⟨F,l,i⟩<;>rcases r bt L with rfl|⟨m1,m2,m3⟩
  ·rfl
  ·exfalso;simp only[bc.withBox,if_true,dU]at p;subst p;rw[m3]at q;obtain⟨z,x⟩:=fx.1 m2;have:=h.good.boxLt x q;omega
  ·exfalso;simp only[bc.withBox,if_true,dU]at q;subst q;rw[i]at p;obtain⟨z,x⟩:=fx.1 l;have:=h.good.boxLt x p;omega
  ·rw[i]at p;rw[m3]at q;exact h.good.inj k bt bl l m2 p q
 ·obtain⟨v,xs,g1,g2,g3,g4⟩:=h.good.own g o be;exact⟨v,xs,g1,g2.alloc _,g3,tZ ar (fun _ _ _ h=>h) g4⟩
 ·rcases r k ab with rfl|⟨F,l,i⟩
  ·simp only[bc.withBox,if_true,dU]at s;subst s;obtain⟨o,M⟩:=fx.1 be;have:=h.good.ownLt M G d;omega
  ·rw[i]at s;exact h.good.obx g k n v bl be l G d s
 ·by_cases e:k=c
  ·subst e;exact .inr S
  ·rcases h.good.one k with J|J
   ·exact .inl (by simp[bc.withBox,e,J])
   ·exact .inr J
 ·rcases d with⟨bt,Q,a2⟩|d
  ·rcases r bt Q with rfl|⟨F,l,i⟩
   ·simp[bc.withBox]at a2;subst a2;exact absurd (h.fr.trb k j _ E).2 (Nat.lt_irrefl _)
   ·exact h.good.otr bl (.inl ⟨bt,l,by rw[<-i];exact a2⟩) k j E
  ·exact h.good.otr bl (.inr d) k j E
 ·rw[Below.heap_alloc w _ k (by have:=h.fr.size;omega)];exact h.fr.block k ab hm
 ·obtain⟨t,A⟩:=h.fr.keep b o f;exact⟨t,(T1 (h.good.alt b o t)).trans A⟩
 ·exact ar.bx _ _ trivial (h.fr.obj n b d)
 ·have P:k≠c:=fun e=>by subst e;exact B j b d
  obtain⟨t1,t2⟩:=h.fr.trn k j b d;exact⟨by simp[bc.withBox,P,t1],t2⟩
 ·obtain⟨f1,f2⟩:=O m hm;obtain⟨t,A⟩:=h.new m f1;refine⟨?_,A⟩;simp[bc.withBox,f2,t]
 ·simp[aV,bc.withBox]
def c9.setBox{C:fp}{st:bp}{a:Act}{w w':World}{ν:bc}(h:c9 C st a w ν){k:aB}{cs cs':List af}(ab:ae k st.b=some cs){bl:Nat}(f:ν.bx k=some bl){us:Array Value}{el:gU}
  (M:w'.os=w.os) (K:w'.tape=w.tape) (L:w'.output=w.output) (l:∀j,j≠bl->w'.heap[j]? =w.heap[j]?) (q:w'.heap.size=w.heap.size) (z:w'.heap[bl]? =some (lZ cs' us el)) (ax:k2 w ν cs' us.toList):
  c9 C {st with b:=cI k cs' st.b} a w' ν/\mv w ν w' ν:=by
 obtain⟨N,O,H,g1,g2,g3,g4,g5⟩:=h.good.box k cs ab;rw[f]at g1;cases g1;have ar:mv w ν w' ν:=by
  refine⟨fun b o d=>⟨d,World.cell?_of_block (l b fun e=>?_)⟩,fun _ _ _ h=>h,fun g n u _ be=>⟨n,u,be,.inl ⟨rfl,rfl⟩⟩,fun b o d=>yr (l b fun e=>?_),fun _ _ _ _ h=>h⟩<;>
  (subst e;exact g3 o d)
 have p:∀j,(ae j (cI k cs' st.b)).isSome->(ae j st.b).isSome:=by
  intro j c;rw[jj]at c;by_cases e:k=j
  ·subst e;simp[ab]
  ·rwa[if_neg e]at c
 refine⟨h.over ar rfl ⟨fun b o d=>by rw[q];exact h.good.alt b o d,fun j B c=>?_,fun j dg b c y=>h.good.inj j dg b (p j c) (p dg y),fun g o be=>?_,h.good.oinj,fun g j n v b be c=>h.good.obx g j n v b be (p j c),h.good.one,fun bl f=>h.good.otr bl (f.imp (fun⟨k,J,U⟩=>⟨k,p k J,U⟩) id)⟩
  ⟨M.trans h.fr.os,K.trans h.fr.tape,L.trans h.fr.output,by rw[q];exact h.fr.size,fun j c hm=>?_,fun b o d=>?_,h.fr.fresh,h.fr.obj,h.fr.obn,h.fr.row,h.fr.obr,h.fr.trd,fun k j b f=>⟨(h.fr.trb k j b f).1,by rw[q];exact(h.fr.trb k j b f).2⟩,h.fr.trn,fun b o d=>(ar.sh b o (h.fr.keep b o d).1).trans (h.fr.sh b o d)⟩ h.new,ar⟩
 ·simp only at c;rw[jj]at c;by_cases e:k=j
  ·rw[if_pos e]at c;cases c;subst e;exact⟨bl,us,el,f,g2,g3,z,rM ar ax⟩
  ·rw[if_neg e]at c;obtain⟨b,G,A,m,i,s,t,E⟩:=h.good.box j B c;refine⟨b,G,A,m,i,s,?_,rM ar E⟩;rw[l b fun r=>e (h.good.inj k j bl (by simp[ab]) (by simp[c]) f (by rw[<-r];exact m))];exact t
 ·obtain⟨v,xs,m,i,s,t⟩:=h.good.own g o be;refine⟨v,xs,m,⟨i.1,?_⟩,s,tZ ar (fun _ _ _ h=>h) t⟩;rcases i.2 with i|⟨bb,cap,cur,f1,f2,f3,f4⟩
  ·exact .inl i
  ·refine .inr ⟨bb,cap,cur,f1,f2,?_,f4⟩;rw[l bb fun r=>h.good.obx g k o.n v bl (by simp[be]) (by simp[ab]) m (by rw[f1,<-r];rfl) f];exact f3
 ·rw[l j fun e=>by subst e;exact g2.elim hm (fun g2=>Ω)];exact h.fr.block j c hm
 ·obtain⟨x,F⟩:=h.fr.keep b o d;exact⟨x,(ar.A b o x).2.trans F⟩
def c9.storeBox{C:fp}{st:bp}{a:Act}{w:World}{ν:bc}(h:c9 C st a w ν){k:aB}{cs cs':List af}(ab:ae k st.b=some cs){bl:Nat}(c:ν.bx k=some bl)(f:gY cs=true){us:Array Value}(ax:cY w ν cs' us.toList):
  c9 C {st with b:=cI k cs' st.b} a (w.setRow bl us) ν:=by
 obtain⟨i,e,el,g1,g2,g3,g4,g5⟩:=h.good.box k cs ab;rw[c]at g1;cases g1;rw[pg f]at g4;have d:=wP ax;exact(h.setBox (w':=w.setRow bl us) ab c (us:=us) (el:=el) rfl rfl rfl (fun j g=>setRow_other w bl j us g) (setRow_size w bl us) (by rw[pg d];exact setRow_heap w bl e us el _ g4) (by rw[pj d];exact ax)).1
def bc.withRowOf(ν:bc)(k:aB)(v:Value)(n cells:Nat):bc:={A:=fun b o=>ν.A b o\/(v.ownBlock=some b/\o<cells),bx:=ν.bx,ow:=fun j=>if j=k then some (n,v)else ν.ow j,tr:=ν.tr}
def Iu{w:World}{A:Nat->Nat->Prop}{b:Nat}:∀(us:List Value) (off:Nat),(∀j u,us[j]? =some u->A b (off+j)/\w.cell? ⟨b,off+j,none⟩=some u)->kX w A b off us
 |[],_,_=>trivial
 |u::us,off,h=>⟨h 0 u rfl,Iu us (off+1) fun j x a=>by have:=h (j+1) x (by simpa using a);rwa[show off+(j+1)=off+1+j from by omega]at this⟩
def GR{w w':World}(be:w.grownBy w' none){b i:Nat}(h:b<w.heap.size):w'.cell? ⟨b,i,none⟩=w.cell? ⟨b,i,none⟩:=World.cell?_of_block (be.block b h Ψ)
def c9.newRowM{C:fp}{st:bp}{a:Act}{w w':World}{ν:bc}(h:c9 C st a w ν){k:aB}{xs:List af}(ab:(ν.bx k=none/\ν.ow k=none/\∀j b,¬ν.tr k j b)\/ ∃o,ae k st.e=some o/\o.n<xs.length){el sz:Nat}{v:Value}{us:List Value}
  (be:w.grownBy w' none) (F:w'.ownsRow w.heap.size el sz v xs.length us) (ax:dw w ν sz xs us) (Y:xs.length<=lim) {n':Nat} {o':List aB} (dB:∀j,fresh n' o' j->fresh st.n st.o j/\j≠k):
  c9 C {st with e:=cI k ⟨xs.length,el,sz,some xs⟩ st.e,n:=n',o:=o'} a w' (ν.withOwn k xs.length v)/\
  ((∃b cap,v= .slice (some ⟨b,0,none⟩) xs.length cap)->aV w' (ν.withOwn k xs.length v) (.row sz k xs.length) v):=by
 have q:∀bl,v.ownBlock=some bl->w.heap.size<=bl/\bl<w'.heap.size:=fun bl c=>F.lt bl c;have ar:mv w ν w' (ν.withOwn k xs.length v):=by
  refine⟨fun b o d=>⟨d,GR be (h.good.alt b o d)⟩,fun j b _ z=>z,fun g n u _ y=>?_,fun b o d=>yr (be.block b (h.good.alt b o d) Ψ),fun _ _ _ _ h=>h⟩;by_cases e:g=k
  ·subst e;rcases ab with ab|⟨o,ar,H⟩
   ·rw[ab.2.1]at y;cases y
   ·obtain⟨v0,B,i,_⟩:=h.good.own g o ar;rw[i]at y;cases y;exact⟨xs.length,v,by simp[bc.withOwn],.inr H⟩
  ·exact⟨n,u,by simp[bc.withOwn,e,y],.inl ⟨rfl,rfl⟩⟩
 have A:∀g,(ae g (cI k ⟨xs.length,el,sz,some xs⟩ st.e)).isSome->g=k\/(g≠k/\(ae g st.e).isSome/\(ν.withOwn k xs.length v).ow g=ν.ow g):=by
  intro g N;by_cases e:g=k
  ·exact .inl e
  ·rw[jj,if_neg (Ne.symm e)]at N;exact .inr ⟨e,N,by simp[bc.withOwn,e]⟩
 have V:∀bl,v.ownBlock=some bl->∀j,¬ν.A bl j:=fun bl c j d=>by have J:=h.good.alt bl j d;have:=(q bl c).1;omega
 have L:∀j b,¬ν.tr k j b:=fun j b c=>by
  rcases ab with ab|⟨o,p,_⟩
  ·exact ab.2.2 j b c
  ·obtain⟨v0,B,i,_⟩:=h.good.own k o p;rw[(h.fr.trn k j b c).2]at i;cases i
 refine⟨h.over ar rfl ⟨fun bl o d=>?_,fun j Q z=>?_,h.good.inj,fun g o s=>?_,fun g P n n' u Z bl J U f l x G=>?_,fun g j n u bl J U f l x=>?_,fun j=>?_,fun bl c bt j M=>?_⟩
  ⟨be.os.trans h.fr.os,be.tape.trans h.fr.tape,be.output.trans h.fr.output,kC h.fr.size be.size,fun j z hm=>?_,fun b o d=>?_,h.fr.fresh,h.fr.obj,h.fr.obn,fun m n u hm=>FB (h.fr.row m n u hm) (fun n u=>ar.ow _ n u trivial),h.fr.obr,h.fr.trd,fun k j b c=>⟨(h.fr.trb k j b c).1,Nat.lt_of_lt_of_le (h.fr.trb k j b c).2 be.size⟩,fun bt j b c=>?_,fun b o d=>(ar.sh b o (h.fr.keep b o d).1).trans (h.fr.sh b o d)⟩ (fun m hm=>?_),?_⟩
 ·have:=h.good.alt bl o d;have:=be.size;omega
 ·obtain⟨bl,b2,X,g1,g2,g3,g4,g5⟩:=h.good.box j Q z;have H:=(Array.getElem?_eq_some_iff.1 g4).1;exact⟨bl,b2,X,g1,g2,g3,by rw[be.block bl H Ψ];exact g4,rM ar g5⟩
 ·simp only at s;rw[jj]at s;by_cases e:k=g
  ·rw[if_pos e]at s;cases s;subst e;refine⟨v,us,by simp[bc.withOwn],⟨F.1,?_⟩,fun bl c=>⟨.inr (kC h.fr.size (q bl c).1),fun j d=>absurd d (V bl c j)⟩,fun ys S=>?_⟩
   ·rcases F.2 with i|⟨bb,cap,cur,f1,f2,f3⟩
    ·exact .inl i
    ·exact .inr ⟨bb,cap,cur,f1,Ω,f3⟩
   ·simp only[dU]at S;subst S;exact⟨rfl,CI ar ax,V⟩
  ·rw[if_neg e]at s;obtain⟨v0,B,i,aC,bh,b4⟩:=h.good.own g o s;exact⟨v0,B,by simp[bc.withOwn,Ne.symm e,i],aC.kept be (by cases v0.ownBlock<;>simp),bh,tZ ar (fun _ _ _ h=>h) b4⟩
 ·rcases A g J with rfl|⟨O,t,r⟩<;>rcases A P U with rfl|⟨m1,m2,m3⟩
  ·rfl
  ·exfalso;simp only[bc.withOwn,if_true,dU,jn]at f;rw[m3]at l;obtain⟨o,p⟩:=fx.1 m2;have R:=h.good.ownLt p l G;have:=(q bl (by rw[f.2];exact x)).1;omega
  ·exfalso;simp only[bc.withOwn,if_true,dU,jn]at l;rw[r]at f;obtain⟨o,p⟩:=fx.1 t;have R:=h.good.ownLt p f x;have:=(q bl (by rw[l.2];exact G)).1;omega
  ·rw[r]at f;rw[m3]at l;exact h.good.oinj g P n n' u Z bl t m2 f l x G
 ·rcases A g J with rfl|⟨O,t,r⟩
  ·simp only[bc.withOwn,if_true,dU,jn]at f;obtain⟨Q,W⟩:=fx.1 U;have R:=h.good.boxLt W x;have:=(q bl (by rw[f.2];exact l)).1;omega
  ·rw[r]at f;exact h.good.obx g j n u bl t U f l x
 ·by_cases e:j=k
  ·subst e;rcases ab with ab|⟨o,p,_⟩
   ·exact .inl ab.1
   ·obtain⟨v0,B,i,_⟩:=h.good.own j o p;rcases h.good.one j with J|J
    ·exact .inl J
    ·rw[J]at i;cases i
  ·rcases h.good.one j with J|J
   ·exact .inl J
   ·exact .inr (by simp[bc.withOwn,e,J])
 ·rcases c with c|⟨g,n,u,bq,a2,a3⟩
  ·exact h.good.otr bl (.inl c) bt j M
  ·rcases A g bq with rfl|⟨O,t,r⟩
   ·simp only[bc.withOwn,if_true,dU,jn]at a2;have J:=(q bl (by rw[a2.2];exact a3)).1;have U:=(h.fr.trb bt j _ M).2;omega
   ·exact h.good.otr bl (.inr ⟨g,n,u,t,by rw[<-r];exact a2,a3⟩) bt j M
 ·rw[be.block j (by have:=h.fr.size;omega) Ψ];exact h.fr.block j z hm
 ·obtain⟨E,K⟩:=h.fr.keep b o d;exact⟨E,(ar.A b o E).2.trans K⟩
 ·have cv:bt≠k:=fun e=>by subst e;exact L j b c
  obtain⟨t1,t2⟩:=h.fr.trn bt j b c;exact⟨t1,by simp[bc.withOwn,cv,t2]⟩
 ·obtain⟨f1,f2⟩:=dB m hm;obtain⟨E,K,cn⟩:=h.new m f1;refine⟨E,?_,cn⟩;simp[bc.withOwn,f2,K]
 ·intro MV;simp only[aV];exact⟨MV,Y,xs.length,v,by simp[bc.withOwn],dP _,fun _=>rfl⟩
def c9.publish{C:fp}{st:bp}{a:Act}{w:World}{ν:bc}(h:c9 C st a w ν){k:aB}{o:dW}{xs:List af}(ab:ae k st.e=some o)(ad:o.xs=some xs){v:Value}(q:ν.ow k=some (o.n,v))(E:xs.length<=lim):
  c9 C {st with e:=cI k ⟨o.n,o.el,o.sz,none⟩ st.e} a w (ν.withRowOf k v o.n (o.n*o.sz))/\
  aV w (ν.withRowOf k v o.n (o.n*o.sz)) (.slice o.sz (.own k) xs) v:=by
 obtain⟨v0,us,K,r,x,S⟩:=h.good.own k o ab;rw[q]at K;cases K;obtain⟨G,L,vh⟩:=S xs ad;have f:∀g,(ν.withRowOf k v o.n (o.n*o.sz)).ow g=ν.ow g:=fun g=>by
  simp only[bc.withRowOf];split
  ·rename_i e;subst e;exact q.symm
  ·rfl
 have ar:mv w ν w (ν.withRowOf k v o.n (o.n*o.sz)):=⟨fun b o c=>⟨.inl c,rfl⟩,fun j b _ p=>p,fun g n u _ N=>⟨n,u,by rw[f];exact N,.inl ⟨rfl,rfl⟩⟩,fun _ _ _=>rfl,fun _ _ _ _ h=>h⟩
 have s:∀g,(ae g (cI k ⟨o.n,o.el,o.sz,none⟩ st.e)).isSome->(ae g st.e).isSome:=by
  intro g M;by_cases e:k=g
  ·subst e;simp[ab]
  ·rwa[jj,if_neg e]at M
 refine⟨h.over ar rfl ⟨fun bl i c=>?_,fun j Q p=>?_,h.good.inj,fun g o' l=>?_,fun g F n n' u R bl J U y aZ=>h.good.oinj g F n n' u R bl (s g J) (s F U) (by rwa[f]at y) (by rwa[f]at aZ),fun g j n u bl J U y=>h.good.obx g j n u bl (s g J) U (by rwa[f]at y),fun j=>?_,fun bl d=>h.good.otr bl (d.imp id (fun⟨g,n,v,W,a2,a3⟩=>⟨g,n,v,s g W,by rwa[f]at a2,a3⟩))⟩
  ⟨h.fr.os,h.fr.tape,h.fr.output,h.fr.size,h.fr.block,fun b i c=>⟨.inl (h.fr.keep b i c).1,(h.fr.keep b i c).2⟩,fun b i c=>?_,h.fr.obj,h.fr.obn,fun m n u hm=>FB (h.fr.row m n u hm) (fun n u=>ar.ow _ n u trivial),h.fr.obr,h.fr.trd,h.fr.trb,fun bt j b d=>⟨(h.fr.trn bt j b d).1,by rw[f];exact(h.fr.trn bt j b d).2⟩,h.fr.sh⟩ (fun m hm=>?_),?_⟩
 ·rcases c with c|⟨c,_⟩
  ·exact h.good.alt bl i c
  ·exact(r.lt bl c).2
 ·obtain⟨bl,Z,P,g1,g2,g3,g4,g5⟩:=h.good.box j Q p;refine⟨bl,Z,P,g1,g2,fun i c=>?_,g4,rM ar g5⟩;rcases c with c|⟨c,_⟩
  ·exact g3 i c
  ·exact h.good.obx k j o.n v bl (by simp[ab]) (by simp[p]) q c g1
 ·simp only at l;rw[jj]at l;by_cases e:k=g
  ·rw[if_pos e]at l;cases l;subst e;refine⟨v,us,by rw[f];exact q,r,fun bl d=>⟨(x bl d).1,fun j c=>?_⟩,fun ys aI=>by cases aI⟩;rcases c with c|⟨_,c⟩
   ·exact(x bl d).2 j c
   ·exact c
  ·rw[if_neg e]at l;obtain⟨v0,O,t,z,H,Y⟩:=h.good.own g o' l;have A:∀bl,v0.ownBlock=some bl->∀j,(ν.withRowOf k v o.n (o.n*o.sz)).A bl j->ν.A bl j:=fun bl d j c=>by
    rcases c with c|⟨c,_⟩
    ·exact c
    ·exact absurd (h.good.oinj k g o.n o'.n v v0 bl (by simp[ab]) (by simp[l]) q t c d) e
   exact⟨v0,O,by rw[f];exact t,z,fun bl d=>⟨(H bl d).1,fun j c=>(H bl d).2 j (A bl d j c)⟩,tZ ar A Y⟩
 ·rcases h.good.one j with J|J
  ·exact .inl J
  ·exact .inr (by rw[f];exact J)
 ·rcases c with c|⟨c,_⟩
  ·exact h.fr.fresh b i c
  ·exact .inr (x b c).1
 ·obtain⟨a8,X,V⟩:=h.new m hm;exact⟨a8,by rw[f];exact X,V⟩
 ·simp only[aV];refine⟨?_,fun e=>(by cases e),fun g e=>?_,fun _ _ e=>(by cases e),fun _ e=>(by cases e)⟩
  ·rcases r.2 with⟨t,z⟩|⟨bb,cap,cur,f1,f2,f3,f4,f5,f6,f7⟩
   ·refine⟨none,0,by rw[t,G,z],Ω,⟨by simp[maxLen],E⟩,.inl (List.eq_nil_of_length_eq_zero Ω)⟩
   ·refine⟨some ⟨bb,0,none⟩,cap,by rw[f1,G],Ω,⟨f5,E⟩,.inr ⟨bb,0,us,rfl,Iu us 0 fun j u p=>?_,CI ar L⟩⟩;have B:v.ownBlock=some bb:=by rw[f1];rfl
    have BC:j<us.length:=(fI.1 p).1;refine⟨.inr ⟨B,by rw[r.1]at BC;omega⟩,?_⟩;have:=r.cells B j u p;rwa[pL]at this
  ·cases e;exact⟨o.n,v,by rw[f];exact q,Ω,fun _=>rfl⟩
def acu{α:Type}(k:aB)(p q:α):∀l,cI k q (cI k p l)=cI k q l
 |[]=>by simp[cI]
 |(i,r)::l=>by
  by_cases e:i=k
  ·simp[cI,e]
  ·simp[cI,e,acu k p q l]
def c9.newRow{C:fp}{st:bp}{a:Act}{w w':World}{ν:bc}(h:c9 C st a w ν){k:aB}{xs:List af}(ab:(ν.bx k=none/\ν.ow k=none/\∀j b,¬ν.tr k j b)\/ ∃o,ae k st.e=some o/\o.n<xs.length){el sz:Nat}{v:Value}{us:List Value}
  (be:w.grownBy w' none) (d:w'.ownsRow w.heap.size el sz v xs.length us) (ax:dw w ν sz xs us) (c:xs.length<=lim) {n':Nat} {o':List aB} (f:∀j,fresh n' o' j->fresh st.n st.o j/\j≠k):
  c9 C {st with e:=cI k ⟨xs.length,el,sz,none⟩ st.e,n:=n',o:=o'} a w' ((ν.withOwn k xs.length v).withRowOf k v xs.length (xs.length*sz))/\
  aV w' ((ν.withOwn k xs.length v).withRowOf k v xs.length (xs.length*sz)) (.slice sz (.own k) xs) v:=by
 have J:=(h.newRowM ab be d ax c f).1;have U:=J.publish (k:=k) (o:=⟨xs.length,el,sz,some xs⟩) (xs:=xs) (v:=v) (by simp[jj]) rfl (by simp[bc.withOwn]) c;simpa only[acu]using U
def c9.setRowM{C:fp}{st:bp}{a:Act}{w w':World}{ν:bc}(h:c9 C st a w ν){k:aB}{o:dW}{xs xs':List af}(ab:ae k st.e=some o)(ad:o.xs=some xs){bl:Nat}{v v':Value}(f:ν.ow k=some (o.n,v))(l:v.ownBlock=some bl)(H:v'.ownBlock=some bl)
  (aA:(xs'.length=o.n/\v'=v)\/o.n<xs'.length) {us:List Value} (BH:w'.os=w.os) (Ns:w'.tape=w.tape) (Nc:w'.output=w.output) (s:∀j,j≠bl->w'.heap[j]? =w.heap[j]?) (L:w'.heap.size=w.heap.size)
  (R:w'.ownsRow 0 o.el o.sz v' xs'.length us) (ax:dw w ν o.sz xs' us):
  c9 C {st with e:=cI k ⟨xs'.length,o.el,o.sz,some xs'⟩ st.e} a w' (ν.withOwn k xs'.length v')/\mv w ν w' (ν.withOwn k xs'.length v')/\(xs'.length<=lim->aV w' (ν.withOwn k xs'.length v') (.row o.sz k xs'.length) v'):=by
 obtain⟨v0,V,a7,bB,X,dq⟩:=h.good.own k o ab;rw[f]at a7;cases a7;obtain⟨dK,mP,A⟩:=dq xs ad;have ar:mv w ν w' (ν.withOwn k xs'.length v'):=by
  refine⟨fun b i d=>⟨d,World.cell?_of_block (s b fun e=>by subst e;exact A b l i d)⟩,fun j b _ r=>r,fun g n u _ p=>?_,fun b i d=>yr (s b fun e=>by subst e;exact A b l i d),fun _ _ _ _ h=>h⟩;by_cases e:g=k
  ·subst e;rw[f]at p;cases p;refine⟨xs'.length,v',by simp[bc.withOwn],?_⟩;rcases aA with⟨J,U⟩|J
   ·exact .inl ⟨J,U⟩
   ·exact .inr J
  ·exact⟨n,u,by simp[bc.withOwn,e,p],.inl ⟨rfl,rfl⟩⟩
 have B:∀g n u,(ae g (cI k ⟨xs'.length,o.el,o.sz,some xs'⟩ st.e)).isSome->(ν.withOwn k xs'.length v').ow g=some (n,u)->∀b,u.ownBlock=some b->(ae g st.e).isSome/\∃n u,ν.ow g=some (n,u)/\u.ownBlock=some b:=by
  intro g n u S p b c;by_cases e:g=k
  ·subst e;simp only[bc.withOwn,if_true,dU,jn]at p;rw[<-p.2,H]at c;cases c;exact⟨by simp[ab],o.n,v,f,l⟩
  ·rw[jj,if_neg (Ne.symm e)]at S;simp only[bc.withOwn,e,if_false]at p;exact⟨S,n,u,p,c⟩
 refine⟨h.over ar rfl ⟨fun b i d=>by rw[L];exact h.good.alt b i d,fun j ej r=>?_,h.good.inj,fun g o' q=>?_,fun g W n n' u eJ b J U P Q N dh=>?_,fun g j n u b J U P Q N=>?_,fun j=>?_,fun b c=>h.good.otr b (c.imp id (fun⟨g,n,v,z,a2,a3⟩=>by obtain⟨M,x,t,O,K⟩:=B g n v z a2 b a3;exact⟨g,x,t,M,O,K⟩))⟩
  ⟨BH.trans h.fr.os,Ns.trans h.fr.tape,Nc.trans h.fr.output,by rw[L];exact h.fr.size,fun j r hm=>?_,fun b i d=>?_,h.fr.fresh,h.fr.obj,h.fr.obn,fun m n u hm=>FB (h.fr.row m n u hm) (fun n u=>ar.ow _ n u trivial),h.fr.obr,h.fr.trd,fun k j b c=>⟨(h.fr.trb k j b c).1,by rw[L];exact(h.fr.trb k j b c).2⟩,fun bt j b c=>?_,fun b o d=>(ar.sh b o (h.fr.keep b o d).1).trans (h.fr.sh b o d)⟩ (fun m hm=>?_),ar,?_⟩
 ·obtain⟨b,b2,gJ,g1,g2,g3,g4,g5⟩:=h.good.box j ej r;have y:b≠bl:=fun e=>h.good.obx k j o.n _ bl (by simp[ab]) (by simp[r]) f l (by rw[<-e];exact g1);exact⟨b,b2,gJ,g1,g2,g3,by rw[s b y];exact g4,rM ar g5⟩
 ·simp only at q;rw[jj]at q;by_cases e:k=g
  ·rw[if_pos e]at q;cases q;subst e;refine⟨v',us,by simp[bc.withOwn],R,fun b c=>?_,fun ys Z=>?_⟩
   ·rw[H]at c;cases c;exact⟨(X bl l).1,fun j d=>absurd d (A bl l j)⟩
   ·simp only[dU]at Z;subst Z;exact⟨rfl,CI ar ax,fun b c=>by rw[H]at c;cases c;exact A bl l⟩
  ·rw[if_neg e]at q;obtain⟨v0,V,Y,F,bh,b4⟩:=h.good.own g o' q;have y:∀b,v0.ownBlock=some b->b≠bl:=fun b c LR=>e (h.good.oinj k g o.n o'.n _ v0 bl (by simp[ab]) (by simp[q]) f Y l (by rw[<-LR];exact c));refine⟨v0,V,by simp[bc.withOwn,Ne.symm e,Y],⟨F.1,?_⟩,bh,tZ ar (fun _ _ _ h=>h) b4⟩;rcases F.2 with F|⟨bb,Dw,nO,f1,f2,f3,f4⟩
   ·exact .inl F
   ·exact .inr ⟨bb,Dw,nO,f1,f2,by rw[s bb (y bb (by rw[f1];rfl))];exact f3,f4⟩
 ·obtain⟨z,x,t,a2,a3⟩:=B g n u J P b N;obtain⟨M,fk,jm,O,K⟩:=B W n' eJ U Q b dh;exact h.good.oinj g W x fk t jm b z M a2 O a3 K
 ·obtain⟨z,x,t,a2,a3⟩:=B g n u J P b Q;exact h.good.obx g j x t b z U a2 a3 N
 ·by_cases e:j=k
  ·subst e;rcases h.good.one j with J|J
   ·exact .inl J
   ·rw[J]at f;cases f
  ·rcases h.good.one j with J|J
   ·exact .inl J
   ·exact .inr (by simp[bc.withOwn,e,J])
 ·rw[s j fun e=>by subst e;exact(X j l).1.elim hm (fun g2=>Ω)];exact h.fr.block j r hm
 ·obtain⟨G,E⟩:=h.fr.keep b i d;exact⟨G,(ar.A b i G).2.trans E⟩
 ·obtain⟨t1,t2⟩:=h.fr.trn bt j b c;have y:bt≠k:=fun e=>by subst e;rw[t2]at f;cases f
  exact⟨t1,by simp[bc.withOwn,y,t2]⟩
 ·obtain⟨G,E,cn⟩:=h.new m hm;refine⟨G,?_,cn⟩;have:m≠k:=fun e=>by subst e;rw[E]at f;cases f
  simp[bc.withOwn,this,E]
 ·intro fq;simp only[aV];obtain⟨cap,MV⟩:=ZQ R H;exact⟨⟨bl,cap,MV⟩,fq,xs'.length,v',by simp[bc.withOwn],dP _,fun _=>rfl⟩
def c9.inPlace{C:fp}{st:bp}{a:Act}{w:World}{ν:bc}(h:c9 C st a w ν){k:aB}{o:dW}(ab:ae k st.e=some o){bl cap:Nat}{cur:Array Value}(l:ν.ow k=some (o.n,.slice (some ⟨bl,0,none⟩) o.n cap))
  (E:w.heap[bl]? =some (.cells cur o.el (0,0))) (Br:cap<=maxLen) (en:cur.size=cap*o.sz) {xs ys:List af} {us ns:List Value} (P:xs.length=o.n) (sx:cur.toList.take (o.n*o.sz)=us) (ax:dw w ν o.sz xs us) (Bu:dw w ν o.sz ys ns)
  (gj:0<ys.length) (Y:o.n+ys.length<=cap) (fq:xs.length+ys.length<=lim):
  c9 C {st with e:=cI k ⟨o.n+ys.length,o.el,o.sz,none⟩ st.e} a (w.setRow bl (us++ns++cur.toList.drop (o.n*o.sz+ns.length)).toArray)
   (ν.withRowOf k (.slice (some ⟨bl,0,none⟩) (o.n+ys.length) cap) (o.n+ys.length) ((o.n+ys.length)*o.sz))/\
  aV (w.setRow bl (us++ns++cur.toList.drop (o.n*o.sz+ns.length)).toArray) (ν.withRowOf k (.slice (some ⟨bl,0,none⟩) (o.n+ys.length) cap) (o.n+ys.length) ((o.n+ys.length)*o.sz))
   (.slice o.sz (.own k) (xs++ys)) (.slice (some ⟨bl,0,none⟩) (o.n+ys.length) cap):=by
 have O:=rN Bu;have B:=rN ax;rw[P]at B;have hmul:(o.n+ys.length)*o.sz<=cap*o.sz:=r2 _ Y;rw[q7]at hmul;obtain⟨v0,gl,a7,bB,bX,_⟩:=h.good.own k o ab;rw[l]at a7;cases a7;obtain⟨S,dK⟩:=bX bl rfl;generalize y:w.setRow bl (us++ns++cur.toList.drop (o.n*o.sz+ns.length)).toArray=w';have z:∀j,j≠bl->w'.heap[j]? =w.heap[j]?:=fun j f=>by rw[<-y];exact setRow_other w bl j _ f
 have G:w'.heap[bl]? =some (.cells (us++ns++cur.toList.drop (o.n*o.sz+ns.length)).toArray o.el (0,0)):=by rw[<-y];exact setRow_heap w bl cur _ o.el _ E
 have W:w'.heap.size=w.heap.size:=by rw[<-y];exact setRow_size w bl _
 have pW:∀j,j<o.n*o.sz->w'.cell? ⟨bl,j,none⟩=w.cell? ⟨bl,j,none⟩:=by intro j f;simp only[World.cell?,G,E,lH,hQ,if_false];rw[List.getElem?_toArray,List.append_assoc,rY Ω,<-sx,List.getElem?_take,if_pos f];simp
 have ar:mv w ν w' (ν.withRowOf k (.slice (some ⟨bl,0,none⟩) (o.n+ys.length) cap) (o.n+ys.length) ((o.n+ys.length)*o.sz)):=by
  refine⟨fun b j c=>⟨.inl c,?_⟩,fun j b _ f=>f,fun g n u _ Q=>?_,fun b j c=>?_,fun _ _ _ _ h=>h⟩;rotate_left 2
  ·by_cases e:b=bl
   ·subst e;simp only[shape,G,E,List.size_toArray,qi,uj,Array.length_toList];congr 2;omega
   ·exact yr (z b e)
  ·by_cases e:b=bl
   ·subst e;exact pW j (dK j c)
   ·exact World.cell?_of_block (z b e)
  ·by_cases e:g=k
   ·subst e;rw[l]at Q;cases Q;exact⟨o.n+ys.length,.slice (some ⟨bl,0,none⟩) (o.n+ys.length) cap,by simp[bc.withRowOf],.inr Ω⟩
   ·exact⟨n,u,by simp[bc.withRowOf,e,Q],.inl ⟨rfl,rfl⟩⟩
 have F:∀g,(ae g (cI k ⟨o.n+ys.length,o.el,o.sz,none⟩ st.e)).isSome->g=k\/(g≠k/\(ae g st.e).isSome/\(ν.withRowOf k (.slice (some ⟨bl,0,none⟩) (o.n+ys.length) cap) (o.n+ys.length) ((o.n+ys.length)*o.sz)).ow g=ν.ow g):=by
  intro g Z;by_cases e:g=k
  ·exact .inl e
  ·rw[jj,if_neg (Ne.symm e)]at Z;exact .inr ⟨e,Z,by simp[bc.withRowOf,e]⟩
 have au2:bl<w.heap.size:=(Array.getElem?_eq_some_iff.1 E).1;have V:∀j u,(us++ns)[j]? =some u->w'.cell? ⟨bl,j,none⟩=some u:=by intro j u f;have N:=(fI.1 f).1;simp only[World.cell?,G,lH,hQ,if_false];rw[List.getElem?_toArray,rY N];exact f
 refine⟨h.over ar rfl ⟨fun b j c=>?_,fun j ej f=>?_,h.good.inj,fun g o' s=>?_,fun g H n n' u eJ b J U p q r A=>?_,fun g j n u b J U p q r=>?_,fun j=>?_,fun b d=>h.good.otr b ?_⟩
  ⟨by rw[<-y];exact h.fr.os,by rw[<-y];exact h.fr.tape,by rw[<-y];exact h.fr.output,by rw[W];exact h.fr.size,fun j f hm=>?_,fun b j c=>?_,fun b j c=>?_,h.fr.obj,h.fr.obn,fun m n u hm=>FB (h.fr.row m n u hm) (fun n u=>ar.ow _ n u trivial),h.fr.obr,h.fr.trd,fun k j b d=>⟨(h.fr.trb k j b d).1,by rw[W];exact(h.fr.trb k j b d).2⟩,fun bt j b d=>?_,fun b o c=>(ar.sh b o (h.fr.keep b o c).1).trans (h.fr.sh b o c)⟩ (fun m hm=>?_),?_⟩
 ·rw[W];rcases c with c|⟨c,_⟩
  ·exact h.good.alt b j c
  ·simp only[pA,dU]at c;omega
 ·obtain⟨b,b2,gJ,g1,g2,g3,g4,g5⟩:=h.good.box j ej f;have t:b≠bl:=fun e=>h.good.obx k j o.n _ bl (by simp[ab]) (by simp[f]) l rfl (by rw[<-e];exact g1);refine⟨b,b2,gJ,g1,g2,fun i c=>?_,by rw[z b t];exact g4,rM ar g5⟩;rcases c with c|⟨c,_⟩
  ·exact g3 i c
  ·simp only[pA,dU]at c;exact t c.symm
 ·simp only at s;rw[jj]at s;by_cases e:k=g
  ·rw[if_pos e]at s;cases s;subst e;refine⟨.slice (some ⟨bl,0,none⟩) (o.n+ys.length) cap,us++ns,by simp[bc.withRowOf],⟨by rw[qi,B,O,q7],.inr ⟨bl,cap,_,rfl,Nat.zero_le _,G,Y,Br,?_,?_⟩⟩,fun b d=>⟨?_,fun j c=>?_⟩,fun ys aI=>by cases aI⟩
   ·simp only[List.size_toArray,qi,uj,Array.length_toList];omega
   ·have av:(us++ns).length=(o.n+ys.length)*o.sz:=by rw[qi,B,O,q7]
    simp only[<-av];rw[List.take_append_of_le_length (dP _),jz]
   ·simp only[pA,dU]at d;subst d;exact S
   ·simp only[pA,dU]at d;subst d;rcases c with c|⟨_,c⟩
    ·have:=dK j c;simp only;rw[q7];omega
    ·exact c
  ·rw[if_neg e]at s;obtain⟨v0,gl,ao,L,bh,b4⟩:=h.good.own g o' s;have t:∀b,v0.ownBlock=some b->b≠bl:=fun b d LR=>e (h.good.oinj k g o.n o'.n _ v0 bl (by simp[ab]) (by simp[s]) l ao rfl (by rw[<-LR];exact d));have X:∀b,v0.ownBlock=some b->∀j,(ν.withRowOf k (.slice (some ⟨bl,0,none⟩) (o.n+ys.length) cap) (o.n+ys.length) ((o.n+ys.length)*o.sz)).A b j->ν.A b j:=fun b d j c=>by
    rcases c with c|⟨c,_⟩
    ·exact c
    ·simp only[pA,dU]at c;exact absurd c.symm (t b d)
   refine⟨v0,gl,by simp[bc.withRowOf,Ne.symm e,ao],⟨L.1,?_⟩,fun b d=>⟨(bh b d).1,fun j c=>(bh b d).2 j (X b d j c)⟩,tZ ar X b4⟩;rcases L.2 with L|⟨bb,Dw,nO,f1,f2,f3,f4⟩
   ·exact .inl L
   ·exact .inr ⟨bb,Dw,nO,f1,f2,by rw[z bb (t bb (by rw[f1];rfl))];exact f3,f4⟩
 ·rcases F g J with rfl|⟨R,x,v⟩<;>rcases F H U with rfl|⟨m1,m2,m3⟩
  ·rfl
  ·exfalso;simp only[bc.withRowOf,if_true,dU,jn]at p;rw[m3]at q;rw[<-p.2]at r;simp only[pA,dU]at r;subst r;exact m1 (h.good.oinj H g n' o.n eJ _ bl m2 (by simp[ab]) q l A rfl)
  ·exfalso;simp only[bc.withRowOf,if_true,dU,jn]at q;rw[v]at p;rw[<-q.2]at A;simp only[pA,dU]at A;subst A;exact R (h.good.oinj g H n o.n u _ bl x (by simp[ab]) p l r rfl)
  ·rw[v]at p;rw[m3]at q;exact h.good.oinj g H n n' u eJ b x m2 p q r A
 ·rcases F g J with rfl|⟨R,x,v⟩
  ·simp only[bc.withRowOf,if_true,dU,jn]at p;rw[<-p.2]at q;simp only[pA,dU]at q;subst q;exact h.good.obx g j o.n _ bl (by simp[ab]) U l rfl r
  ·rw[v]at p;exact h.good.obx g j n u b x U p q r
 ·by_cases e:j=k
  ·subst e;rcases h.good.one j with J|J
   ·exact .inl J
   ·rw[J]at l;cases l
  ·rcases h.good.one j with J|J
   ·exact .inl J
   ·exact .inr (by simp[bc.withRowOf,e,J])
 ·rcases d with d|⟨g,n,u,bq,a2,a3⟩
  ·exact .inl d
  ·rcases F g bq with rfl|⟨R,x,v⟩
   ·simp only[bc.withRowOf,if_true,dU,jn]at a2;rw[<-a2.2]at a3;exact .inr ⟨g,_,_,by simp[ab],l,a3⟩
   ·exact .inr ⟨g,n,u,x,by rw[<-v];exact a2,a3⟩
 ·rw[z j fun e=>by subst e;exact S.elim hm (fun g2=>Ω)];exact h.fr.block j f hm
 ·obtain⟨M,K⟩:=h.fr.keep b j c;exact⟨.inl M,(ar.A b j M).2.trans K⟩
 ·rcases c with c|⟨c,_⟩
  ·exact h.fr.fresh b j c
  ·simp only[pA,dU]at c;subst c;exact .inr S
 ·obtain⟨t1,t2⟩:=h.fr.trn bt j b d;have t:bt≠k:=fun e=>by subst e;rw[t2]at l;cases l
  exact⟨t1,by simp[bc.withRowOf,t,t2]⟩
 ·obtain⟨M,K,cn⟩:=h.new m hm;refine⟨M,?_,cn⟩;have:m≠k:=fun e=>by subst e;rw[K]at l;cases l
  simp[bc.withRowOf,this,K]
 ·simp only[aV];refine⟨⟨some ⟨bl,0,none⟩,cap,by simp[P],by simp;omega,⟨Br,by simpa using fq⟩,.inr ⟨bl,0,us++ns,rfl,Iu _ 0 fun j u f=>?_,Fu (CI ar ax) (CI ar Bu)⟩⟩,fun e=>(by cases e),fun g e=>?_,fun _ _ e=>(by cases e),fun _ e=>(by cases e)⟩
  ·have N:=(fI.1 f).1;rw[Nat.zero_add];refine⟨.inr ⟨rfl,?_⟩,V j u f⟩;rw[qi,B,O]at N;rw[q7];exact N
  ·cases e;exact⟨o.n+ys.length,.slice (some ⟨bl,0,none⟩) (o.n+ys.length) cap,by simp[bc.withRowOf],by simp[P],fun _=>rfl⟩
def JN{P:cH}{w:World}{t ty e:gU}{i:TypeInfo}(a:P.underlying t=some (.slice e))(hi:P.info? e=some i)(b:bd Addr)(n cap:Nat)(d:n<=cap)(x:bd Addr)(c:Nat):
  (Builtin.append_ #[t,t] ty #[.slice b n cap,.slice x 0 c]).run P w= .ok (.slice b n cap) w:=by
 cases b<;>cases x<;>simp[Builtin.append_,run_underlying a,sizeOf,typeInfo,hi,Builtin.lenOf,d,Builtin.firstCells,loadCells,loadCellsFrom,storeCells]
inductive eY where
 |v (d:Nat) (i:gP)
 |box (d:Nat) (key:bd Nat) (x:dQ)
 |alloc (d:Nat) (key:bd Nat) (zero:af)
 |store (sz:Nat) (x y:dQ)
 |bsl (d:Nat) (sz el:Nat) (xs:List dQ)
 |app (d:Nat) (sz el:Nat) (x y:dQ)
 |bslm (d:Nat) (key:bd Nat) (sz el:Nat) (xs:List dQ)
 |appm (d:Nat) (key:bd Nat) (sz el:Nat) (x y:dQ)
 |mkmap (d:Nat) (key:bd Nat)
 |mput (cA:kf) (x k v:dQ)
 |range (d:Nat) (key:bd Nat) (x:dQ)
 |storeE (sz:Nat) (x y:dQ)
 |mks (d:Nat) (key:bd Nat) (sz el:Nat) (z:af) (x:dQ)
def kt(st:bp):bd Nat->aB
 |none=>.loc st.n
 |some m=>.obj m
def rC(st:bp):bd Nat->Prop
 |none=>.loc st.n∉st.o
 |some m=>.obj m∉st.o
def oL(st:bp):bd Nat->Nat
 |none=>st.n+1
 |some _=>st.n
def oM(st:bp):bd Nat->List aB
 |none=>st.o
 |some m=>.obj m::st.o
def x7{st:bp}{key:bd Nat}(h:rC st key):fresh st.n st.o (kt st key):=by cases key<;>simp[kt,fresh,rC]at h⊢ <;>exact h
def x8{st:bp}{key:bd Nat}:∀j,fresh (oL st key) (oM st key) j->fresh st.n st.o j/\j≠kt st key:=by
 intro j a;cases key<;>cases j<;>simp[fresh,oL,oM,kt]at a⊢
 ·exact⟨⟨Ω,a.2⟩,Ω⟩
 ·exact a
 ·exact a
 ·exact⟨a.2,a.1⟩
def ux(sz:Nat):List af->Prop
 |[]=>True
 |p::a=>(eT p=true/\(cells p).length=sz)/\ux sz a
def qR(a:kf)(k v:af):List af->bd (List af)
 | .hdm clock borns::kvs=>if xZ a k=false then none else match wG a k v kvs with
  |some (some b)=>some (.hdm clock borns::b)
  |some none=>some (.hdm (clock+1) (borns++[clock])::(kvs++[k,v]))
  |none=>none
 |_=>none
def Ae(m:aB):List af->bd (List af)
 | .hdm clock _::_=>some [.hdi clock [] clock,.gmap m]
 |_=>none
def uy(st:bp)(sz el:Nat)(x y:af):bd ((bd (aB×List af))×List af):=
 match x,y with
 | .slice b .nil _,.slice a _ ys=>if b=sz/\a=sz then some (none,ys)else none
 | .row b k n,.slice a _ ys=>if b=sz/\a=sz then
   match ae k st.e with
   |some ⟨n',d,c,some xs⟩=>if n'=n/\d=el/\c=sz then some (some (k,xs),ys)else none
   |_=>none
  else none
 |_,_=>none
def od:af->Nat->List af->af
 | .agg a,f,cs=>.agg (nE a f cs)
 |_,_,[q]=>q
 |_,_,_=>.junk
def sL(st:bp)(sz:Nat)(p v:af):bd (Prop×bp):=
 match p with
 | .rptr b k n i f=>match ae k st.e with
  |some ⟨n',el,a,some xs⟩=>if n'=n/\a=b then
    match xs[i]? with
    |some q=>some (eT q=true/\eT v=true/\(cells v).length=sz/\f+sz<=(cells q).length/\0<sz,{st with e:=cI k ⟨n',el,a,some (xs.set i (od q f (cells v)))⟩ st.e})
    |none=>none
   else none
  |_=>none
 |_=>none
def nD(st:bp):eY->bd (Prop×bp)
 | .mks d key sz el z x=>match cE st.t x with
  | .int _ n=>some (rC st key/\0<=n/\n<=lim,
    {t:=put d (.row sz (kt st key) n.toNat) st.t,b:=st.b,e:=cI (kt st key) ⟨n.toNat,el,sz,some (List.replicate n.toNat z)⟩ st.e,n:=oL st key,o:=oM st key})
  |_=>none
 | .bslm d key sz el xs=>some (rC st key/\ux sz (xs.map (cE st.t)),
   {t:=put d (.row sz (kt st key) xs.length) st.t,b:=st.b,e:=cI (kt st key) ⟨xs.length,el,sz,some (xs.map (cE st.t))⟩ st.e,n:=oL st key,o:=oM st key})
 | .appm d key sz el x y=>match uy st sz el (cE st.t x) (cE st.t y)with
  |some (none,ys)=>some (rC st key/\ys.length<=lim/\ys≠[],
    {t:=put d (.row sz (kt st key) ys.length) st.t,b:=st.b,e:=cI (kt st key) ⟨ys.length,el,sz,some ys⟩ st.e,n:=oL st key,o:=oM st key})
  |some (some (k,xs),ys)=>some (xs.length+ys.length<=lim,{st with t:=put d (.row sz k (xs.length+ys.length)) st.t,e:=cI k ⟨xs.length+ys.length,el,sz,some (xs++ys)⟩ st.e})
  |none=>none
 | .mkmap d key=>some (rC st key,{t:=put d (.gmap (kt st key)) st.t,b:=cI (kt st key) [.hdm 0 []] st.b,e:=st.e,n:=oL st key,o:=oM st key})
 | .mput g x k v=>match cE st.t x with
  | .gmap m=>match ae m st.b with
   |some cs=>match qR g (cE st.t k) (cE st.t v) cs with
    |some cs'=>some (True,{st with b:=cI m cs' st.b})
    |none=>none
   |none=>none
  |_=>none
 | .range d key x=>match cE st.t x with
  | .gmap m=>match ae m st.b with
   |some cs=>match Ae m cs with
    |some cs'=>some (rC st key,{t:=put d (.ptr (kt st key) 0) st.t,b:=cI (kt st key) cs' st.b,e:=st.e,n:=oL st key,o:=oM st key})
    |none=>none
   |none=>none
  |_=>none
 | .v d i=>match hY st i with
  |some (c,p)=>some (c,{st with t:=put d p st.t})
  |none=>none
 | .storeE sz x y=>sL st sz (cE st.t x) (cE st.t y)
 | .box d key x=>some (rC st key/\eT (cE st.t x)=true,
   {t:=put d (.ptr (kt st key) 0) st.t,b:=cI (kt st key) (cells (cE st.t x)) st.b,e:=st.e,n:=oL st key,o:=oM st key})
 | .alloc d key z=>some (rC st key,{t:=put d (.ptr (kt st key) 0) st.t,b:=cI (kt st key) (cells z) st.b,e:=st.e,n:=oL st key,o:=oM st key})
 | .store sz x y=>match cE st.t x with
  | .ptr k off=>match ae k st.b with
   |some cs=>some (gY cs=true/\eT (cE st.t y)=true/\(cells (cE st.t y)).length=sz/\off+sz<=cs.length,{st with b:=cI k (nE cs off (cells (cE st.t y))) st.b})
   |none=>none
  |p=>sL st sz p (cE st.t y)
 | .bsl d sz el xs=>some (rC st none/\ux sz (xs.map (cE st.t)),
   {st with t:=put d (.slice sz (.own (.loc st.n)) (xs.map (cE st.t))) st.t,e:=cI (.loc st.n) ⟨xs.length,el,sz,none⟩ st.e,n:=st.n+1})
 | .app d sz el x y=>match cE st.t x,cE st.t y with
  | .slice f tag xs,.slice a _ ys=>if f=sz/\a=sz then
    match tag with
    | .own k=>match ae k st.e with
     |some o=>some (o.n=xs.length/\o.el=el/\o.sz=sz/\xs.length+ys.length<=lim,
       {st with t:=put d (.slice sz (.own k) (xs++ys)) st.t,e:=cI k ⟨xs.length+ys.length,el,sz,none⟩ st.e})
     |none=>none
    | .nil=>some (rC st none/\ys.length<=lim,{st with t:=put d (.slice sz (.own (.loc st.n)) ys) st.t,e:=cI (.loc st.n) ⟨ys.length,el,sz,none⟩ st.e,n:=st.n+1})
    |_=>none
   else none
  |_,_=>none
def fl(κ:aB)(n':Nat)(o':List aB)(st:bp):eY->bd (Prop×bp)
 | .mks d _ sz el z x=>match cE st.t x with
  | .int _ n=>some (0<=n/\n<=lim,
    {t:=put d (.row sz κ n.toNat) st.t,b:=st.b,e:=cI κ ⟨n.toNat,el,sz,some (List.replicate n.toNat z)⟩ st.e,n:=n',o:=o'})
  |_=>none
 | .bslm d _ sz el xs=>some (ux sz (xs.map (cE st.t)),
   {t:=put d (.row sz κ xs.length) st.t,b:=st.b,e:=cI κ ⟨xs.length,el,sz,some (xs.map (cE st.t))⟩ st.e,n:=n',o:=o'})
 | .appm d _ sz el x y=>match uy st sz el (cE st.t x) (cE st.t y)with
  |some (none,ys)=>some (ys.length<=lim/\ys≠[],
    {t:=put d (.row sz κ ys.length) st.t,b:=st.b,e:=cI κ ⟨ys.length,el,sz,some ys⟩ st.e,n:=n',o:=o'})
  |some (some (k,xs),ys)=>some (xs.length+ys.length<=lim,{st with t:=put d (.row sz k (xs.length+ys.length)) st.t,e:=cI k ⟨xs.length+ys.length,el,sz,some (xs++ys)⟩ st.e})
  |none=>none
 | .mkmap d _=>some (True,{t:=put d (.gmap κ) st.t,b:=cI κ [.hdm 0 []] st.b,e:=st.e,n:=n',o:=o'})
 | .mput g x k v=>match cE st.t x with
  | .gmap m=>match ae m st.b with
   |some cs=>match qR g (cE st.t k) (cE st.t v) cs with
    |some cs'=>some (True,{st with b:=cI m cs' st.b})
    |none=>none
   |none=>none
  |_=>none
 | .range d _ x=>match cE st.t x with
  | .gmap m=>match ae m st.b with
   |some cs=>match Ae m cs with
    |some cs'=>some (True,{t:=put d (.ptr κ 0) st.t,b:=cI κ cs' st.b,e:=st.e,n:=n',o:=o'})
    |none=>none
   |none=>none
  |_=>none
 | .v d i=>match hY st i with
  |some (c,p)=>some (c,{st with t:=put d p st.t})
  |none=>none
 | .storeE sz x y=>sL st sz (cE st.t x) (cE st.t y)
 | .box d _ x=>some (eT (cE st.t x)=true,{t:=put d (.ptr κ 0) st.t,b:=cI κ (cells (cE st.t x)) st.b,e:=st.e,n:=n',o:=o'})
 | .alloc d _ z=>some (True,{t:=put d (.ptr κ 0) st.t,b:=cI κ (cells z) st.b,e:=st.e,n:=n',o:=o'})
 | .store sz x y=>match cE st.t x with
  | .ptr k off=>match ae k st.b with
   |some cs=>some (gY cs=true/\eT (cE st.t y)=true/\(cells (cE st.t y)).length=sz/\off+sz<=cs.length,{st with b:=cI k (nE cs off (cells (cE st.t y))) st.b})
   |none=>none
  |p=>sL st sz p (cE st.t y)
 | .bsl d sz el xs=>some (ux sz (xs.map (cE st.t)),
   {st with t:=put d (.slice sz (.own κ) (xs.map (cE st.t))) st.t,e:=cI κ ⟨xs.length,el,sz,none⟩ st.e,n:=n',o:=o'})
 | .app d sz el x y=>match cE st.t x,cE st.t y with
  | .slice f tag xs,.slice a _ ys=>if f=sz/\a=sz then
    match tag with
    | .own k=>match ae k st.e with
     |some o=>some (o.n=xs.length/\o.el=el/\o.sz=sz/\xs.length+ys.length<=lim,
       {st with t:=put d (.slice sz (.own k) (xs++ys)) st.t,e:=cI k ⟨xs.length+ys.length,el,sz,none⟩ st.e})
     |none=>none
    | .nil=>some (ys.length<=lim,{st with t:=put d (.slice sz (.own κ) ys) st.t,e:=cI κ ⟨ys.length,el,sz,none⟩ st.e,n:=n',o:=o'})
    |_=>none
   else none
  |_,_=>none
def yc:Nat->List dQ->List (Nat×Operand)->Bool
 |_,[],[]=>true
 |i,x::xs,(j,o)::os=>i==j&&eS x o&&yc (i+1) xs os
 |_,_,_=>false
def FF(N:Nat)(aT:List (Nat×ev))(i:eY)(o:Oper):Bool:=
 match i,o.op with
 | .mkmap d _,.makeMap _ none=>o.dst==some d&&decide (d<N)
 | .mput j x k v,.mapUpdate t c h e=>o.dst==none&&(match eG aT t with|some ⟨_,_,.map g _,_⟩=>zL aT j g|_=>false)&&eS x c&&eS k h&&eS v e
 | .mput j x k v,.insert t c h e=>o.dst==none&&(match eG aT t with|some ⟨_,_,.map g _,_⟩=>zL aT j g|_=>false)&&eS x c&&eS k h&&eS v e
 | .range d _ x,.range t c=>o.dst==some d&&decide (d<N)&&(match eG aT t with|some ⟨_,_,.map _ _,_⟩=>true|_=>false)&&eS x c
 | .v d i,op=>o.dst==some d&&decide (d<N)&&F1 aT i op
 | .box d _ x,.box _ o'=>o.dst==some d&&decide (d<N)&&eS x o'
 | .alloc d _ z,.alloc el=>o.dst==some d&&decide (d<N)&&(match eG aT el with|some f=>C7 z f.zero|none=>false)
 | .store sz x y,.store t o' a=>o.dst==none&&(match eG aT t with|some f=>f.size==sz|none=>false)&&eS x o'&&eS y a
 | .bsl d sz el xs,.buildSlice t len parts=>o.dst==some d&&decide (d<N)&&(match eG aT t with|some ⟨_,_,.slice b,_⟩=>el==b|_=>false)&&(match eG aT el with|some f=>f.size==sz&&decide (0<sz)|none=>false)
   &&len==xs.length&&decide (len*sz<=16777216)&&yc 0 xs parts.toList
 | .app d sz el x y,.call ⟨.builtin .append,⟨[o',a]⟩,⟨[t,t']⟩⟩=>o.dst==some d&&decide (d<N)&&t==t'&&(match eG aT t with|some ⟨_,_,.slice b,_⟩=>el==b|_=>false)
   &&(match eG aT el with|some f=>f.size==sz&&decide (0<sz)&&decide (f.bytes<=2048)|none=>false)&&eS x o'&&eS y a
 | .bslm d _ sz el xs,.buildSlice t len parts=>o.dst==some d&&decide (d<N)&&(match eG aT t with|some ⟨_,_,.slice b,_⟩=>el==b|_=>false)&&(match eG aT el with|some f=>f.size==sz&&decide (0<sz)|none=>false)
   &&len==xs.length&&decide (len*sz<=16777216)&&yc 0 xs parts.toList
 | .appm d _ sz el x y,.call ⟨.builtin .append,⟨[o',a]⟩,⟨[t,t']⟩⟩=>o.dst==some d&&decide (d<N)&&t==t'&&(match eG aT t with|some ⟨_,_,.slice b,_⟩=>el==b|_=>false)
   &&(match eG aT el with|some f=>f.size==sz&&decide (0<sz)&&decide (f.bytes<=2048)|none=>false)&&eS x o'&&eS y a
 | .storeE sz x y,.store t o' a=>o.dst==none&&(match eG aT t with|some f=>f.size==sz|none=>false)&&eS x o'&&eS y a
 | .mks d _ sz el z x,.makeSlice t o' a=>o.dst==some d&&decide (d<N)&&(match eG aT t with|some ⟨_,_,.slice b,_⟩=>el==b|_=>false)
   &&(match eG aT el with|some f=>f.size==sz&&decide (0<sz)&&decide (f.bytes<=2048)&&C7 z f.zero|none=>false)&&eS x o'&&eS x a
 |_,_=>false
def abz{w:World}{ν:bc}{C:fp}{st:bp}{a:Act}(p:c9 C st a w ν){sz:Nat}:
  ∀(xs:List dQ) (i:Nat) (os:List (Nat×Operand)) (pre:List af) (us:Array Value) (bm:List Value),yc i xs os=true->ux sz (xs.map (cE st.t))->us.toList.take (i*sz)=bm->dw w ν sz pre bm->i=pre.length->us.size=(i+xs.length)*sz->
  ∃e:Array Value,Instr.fill (fun i=>some (i*sz,sz)) us (os.map fun(x:Nat×Operand)=>(x.1,a.eval x.2))=some e/\dw w ν sz (pre++xs.map (cE st.t)) e.toList/\e.size=us.size
 |[],i,[],pre,us,bm,_,_,g,h,hi,f=>by refine⟨us,by simp[Instr.fill],?_,rfl⟩;have u:=rN h;have:us.toList.take (i*sz)=us.toList:=iu (by simp at f⊢;omega);rw[this]at g;simpa[g]using h
 |[],_,_::_,_,_,_,b,_,_,_,_,_=>by simp[yc]at b
 |_::_,_,[],_,_,_,b,_,_,_,_,_=>by simp[yc]at b
 |x::xs,i,(j,o)::os,pre,us,bm,b,k,g,h,hi,f=>by
  simp only[yc,cP,ey]at b;obtain⟨⟨rfl,J⟩,U⟩:=b;simp only[gV,ux]at k;obtain⟨⟨s,hlen⟩,k⟩:=k;have n:=e5 p J;have m:=wQ n s;have q:=qU m;have c:(a.eval o).cells.size=sz:=by rw[hlen]at q;simpa using q
  have hmul:i*sz+sz<=us.size:=by rw[f,mT,show i+(xs.length+1)=(i+1)+xs.length from by omega,q7,Nat.succ_mul];omega
  have l:=Mh (w:=w) (ν:=ν) (a.eval o).cells.toList 0 (i*sz) us (by simp[c];omega);have t:dw w ν sz (pre++[cE st.t x]) (bm++(a.eval o).cells.toList):=by refine Fu h ?_;simp only[dw];exact⟨a.eval o,[],Ψ,⟨n,c,CK m⟩,rfl⟩
  have r:bm.length=i*sz:=by rw[<-g];simp;omega
  obtain⟨e,g1,g2,g3⟩:=abz p xs (i+1) os (pre++[cE st.t x]) (((a.eval o).cells.toList.zipIdx 0).foldl (fun cs (x:Value×Nat)=>cs.setIfInBounds (i*sz+x.2) x.1) us) (bm++(a.eval o).cells.toList) U k
   (by
    rw[l];simp only[Nat.add_zero];rw[g];have:(bm++(a.eval o).cells.toList).length=(i+1)*sz:=by rw[qi,r,Nat.succ_mul];simp[c]
    rw[<-this,List.take_append_of_le_length (dP _),jz]) t (by simp[hi])
   (by have d:=fy List.length l;simp only[Array.length_toList,qi,List.length_take,uj,c]at d;rw[d,f,mT,show i+(xs.length+1)=i+1+xs.length from by omega];rw[f,mT,show i+(xs.length+1)=i+1+xs.length from by omega]at hmul;omega)
  refine⟨e,?_,by simpa using g2,?_⟩
  ·simp only[gV,Instr.fill];rw[if_neg (by simp[c];omega),<-g1];congr 1;rw[<-Array.foldl_toList];simp
  ·rw[g3];have d:=fy List.length l;simp only[Array.length_toList,qi,List.length_take,uj,c]at d;rw[d];omega
def nI{P:cH}{o:Oper}{a:Act}{w w':World}{v:Value}{K:Act->World->Prop}{Q:Exit->Act->World->Prop}(h:(execOp a.eval o).run P w= .ok (.value v) w')(ab:K (a.put o.dst v) w'):o.wp P a w K Q:=by unfold Oper.wp;rw[h];exact ab
def Kp{P:cH}{o:Oper}{a:Act}{w w':World}{K:Act->World->Prop}{Q:Exit->Act->World->Prop}(h:(execOp a.eval o).run P w= .ok .skip w')(ab:K (a.put o.dst undef) w'):o.wp P a w K Q:=by unfold Oper.wp;rw[h];exact ab
def F3{P:cH}{w w':World}{x:Sem Value}{v:Value}(h:x.run P w= .ok v w'):(do pure (Next.value (<-x)):Sem Next).run P w= .ok (.value v) w':=by simp[h]
def abw{P:cH}{aT:List (Nat×ev)}(e:hX P aT=true){C:fp}{st:bp}{a:Act}{w:World}{ν:bc}(r:c9 C st a w ν){t el:Nat}{f g:ev}(s:eG aT t=some f)(ab:f.kind= .slice el)(be:eG aT el=some g)
  {xs:List dQ} {os:List (Nat×Operand)} (n:yc 0 xs os=true) (m:ux g.size (xs.map (cE st.t))) (hlen:xs.length*g.size<=16777216):
  ∃us:Array Value,(Instr.buildSlice t xs.length (os.map fun(x:Nat×Operand)=>(x.1,a.eval x.2)).toArray).run P w= .ok (.slice (some ⟨w.heap.size,0,none⟩) xs.length xs.length) (w.alloc (.cells us el))/\
   dw w ν g.size (xs.map (cE st.t)) us.toList/\us.size=xs.length*g.size:=by
 obtain⟨d,j,h⟩:=jl e s;rw[ab]at h;obtain rfl:=sX h;obtain⟨_,i⟩:=wX e be w;obtain⟨z,l,q,p⟩:=QF e be w;have u:¬xs.length*g.size>2 ^ 24:=Ω
 let init:Array Value:=if xs.length*g.size=0 then(Array.range (xs.length*g.size)).map ((#[]:Array Value)[· %(#[]:Array Value).size]!)else(Array.range (xs.length*g.size)).map (z.cells[· %z.cells.size]!)
 have k:init.size=xs.length*g.size:=by simp only[init];split<;>simp
 obtain⟨o,g1,g2,g3⟩:=abz (a:=a) r xs 0 os [] init [] n m Ψ (by simp[dw]) rfl (by rw[k];simp);refine⟨o,?_,by simpa using g2,by rw[g3,k]⟩;simp only[init]at g1;by_cases b:xs.length*g.size=0
 ·rw[if_pos b]at g1;rw[b]at g1;have c:¬(0:Nat)>2 ^ 24:=by decide
  simp only[Instr.buildSlice,gx,run_underlying j,gC,i,if_false,hA,b,if_true,c,g1,newRow,run_newObj];rfl
 ·rw[if_neg b]at g1;simp only[Instr.buildSlice,gx,run_underlying j,gC,i,u,if_false,hA,b,l,g1,newRow,run_newObj];rfl
def OH{P:cH}{w:World}{ν:bc}{g:kf}{t:gU}(A:vB P g t){k v:af}{a p:Value}(ab:aV w ν k a)(z:aV w ν v p):
  ∀(borns:List Nat) (kvs:List af) (us:List Value) (i:Nat) (r:bd (List af)),c7 w ν kvs us->kvs.length=2*borns.length->wG g k v kvs=some r->
  match r with
  |none=>iX P w g t a (gQ borns us) i none
  |some B=> ∃j u m e,iX P w g t a (gQ borns us) i (some (i+j,u))/\c7 w ν B m/\B.length=kvs.length/\(gQ borns us)[j]? =some e/\e.key=a/\Instr.sameBits 10000 e.key a=true/\gQ borns m=(gQ borns us).modify j (fun e=>{e with key:=a,val:=p})
 |[],[],us,i,r,h,_,hm=>by simp only[wG]at hm;cases hm;simp only[c7]at h;subst h;simpa[gQ]using iX.nil P w g t a i
 |[],_::_,_,_,_,_,c,_=>by simp at c
 |b::n,[],_,_,_,_,c,_=>by simp at c
 |b::n,[_],_,_,_,_,c,_=>by simp at c;omega
 |b::n,bt::v'::kvs,us,i,r,h,c,hm=>by
  simp only[c7]at h;obtain⟨f,E,rfl,J,d,q,rfl,U,y⟩:=h;simp only[wG]at hm;simp only[gQ];cases o:u0 g k bt with
  |none=>simp[o]at hm
  |some bb=>
   obtain⟨s1,s2⟩:=XM A ab J o;simp only[o]at hm;cases bb with
   |true=>simp only[dU]at hm;subst hm;obtain⟨rfl,s3⟩:=s2 rfl;refine⟨0,d,f::p::q,⟨f,d,b⟩,iX.hit (e:=⟨f,d,b⟩) s1,?_,Ψ,Ψ,rfl,s3,by simp[gQ]⟩;simp only[c7];exact⟨_,_,rfl,ab,_,_,rfl,z,y⟩
   |false=>
    simp only at hm;have x:=fun s l=>OH A ab z n kvs q (i+1) s y (by simp at c;omega) l;split at hm
    ·rename_i s l;cases hm;obtain⟨j,u,m,e,g1,g2,g3,g4,g5,g6,g7⟩:=x _ l;refine⟨j+1,u,f::d::m,e,iX.miss (e:=⟨f,d,b⟩) s1 (by rw[show i+(j+1)=i+1+j from by omega];exact g1),?_,by simp[g3],by simpa using g4,g5,g6,by simp[gQ,g7]⟩;simp only[c7];exact⟨_,_,rfl,J,_,_,rfl,U,g2⟩
    ·rename_i l;cases hm;exact iX.miss (e:=⟨f,d,b⟩) s1 (x _ l)
    ·cases hm
def Uz:∀(borns:List Nat) (us:List Value) (b:Nat) (k v:Value),us.length=2*borns.length->gQ (borns++[b]) (us++[k,v])=gQ borns us++[⟨k,v,b⟩]
 |[],us,b,k,v,h=>by have:us=[]:=List.eq_nil_of_length_eq_zero (by simpa using h);subst this;simp[gQ]
 |b0::a,[],b,k,v,h=>by simp at h
 |b0::a,[_],b,k,v,h=>by simp at h;omega
 |b0::a,bt::v'::us,b,k,v,h=>by simp only[b5,gQ,Uz a us b k v (by simp at h;omega)]
def abm{w:World}{ν:bc}:∀{b bV:List af} {bm us:List Value},c7 w ν b bm->c7 w ν bV us->c7 w ν (b++bV) (bm++us)
 |[],bV,bm,us,h,a=>by simp only[c7]at h;subst h;simpa using a
 |p::b,bV,bm,us,h,a=>by simp only[c7]at h;obtain⟨u,c,rfl,J,U⟩:=h;simp only[b5,c7];exact⟨u,_,rfl,J,abm U a⟩
def P0{w:World}{ν:bc}:∀{a:List af} {bm:List Value},c7 w ν a bm->bm.length=a.length
 |[],bm,h=>by simp only[c7]at h;subst h;rfl
 |p::a,bm,h=>by simp only[c7]at h;obtain⟨u,b,rfl,_,U⟩:=h;simp[P0 U]
def P5{P:cH}{w:World}{r:Nat}{o o':Obj}(a:w.heap[r]? =some o)(b:∀c e f,o≠ .cells c e f:=by simp):(setObj r o').run P w= .ok () {w with heap:=w.heap.setIfInBounds r o'}:=by simp only[setObj,Sem.run,a]
def eY.makes(st:bp):eY->Bool
 | .box _ _ _| .alloc _ _ _| .bsl _ _ _ _| .bslm _ _ _ _ _| .mkmap _ _| .range _ _ _| .mks _ _ _ _ _ _=>true
 | .appm _ _ _ _ x _=>match cE st.t x with
  | .slice _ .nil _=>true
  |_=>false
 | .app _ _ _ x _=>match cE st.t x with
  | .slice _ .nil _=>true
  |_=>false
 |_=>false
def c9.forgetRow{C:fp}{st:bp}{a:Act}{w:World}{ν:bc}(b:c9 C st a w ν){k:aB}{ow:dW}(ab:ae k st.e=some ow):c9 C {st with e:=cI k ⟨ow.n,ow.el,ow.sz,none⟩ st.e} a w ν:=by
 have d:∀g,(ae g (cI k ⟨ow.n,ow.el,ow.sz,none⟩ st.e)).isSome->(ae g st.e).isSome:=fun g be=>by
  rw[jj]at be;split at be
  ·rename_i e;subst e;simp[ab]
  ·exact be
 refine⟨⟨b.good.alt,b.good.box,b.good.inj,fun g o be=>?_,fun g f n n' v v' bl c a2=>b.good.oinj g f n n' v v' bl (d g c) (d f a2),fun g j n v bl c=>b.good.obx g j n v bl (d g c),b.good.one,fun bl l=>b.good.otr bl (l.imp id (fun⟨g,n,v,c,a2⟩=>⟨g,n,v,d g c,a2⟩))⟩,b.fr,b.defers,b.size,b.slot,b.new⟩;simp only at be;rw[jj]at be;split at be
 ·rename_i e;subst e;cases be;obtain⟨v,us,p,i,h,_⟩:=b.good.own k ow ab;exact⟨v,us,p,i,h,fun xs m=>by cases m⟩
 ·exact b.good.own g o be
def ZR{w:World}{base el sz n:Nat}{v:Value}{us:List Value}(h:w.ownsRow base el sz v n us)(d:0<n):∃b cap,v= .slice (some ⟨b,0,none⟩) n cap:=by
 rcases h.2 with⟨a,c⟩|⟨bb,cap,cur,f1,_⟩
 ·omega
 ·exact⟨_,_,f1⟩
def JC{w:World}{ν:bc}{sz:Nat}:∀{xs:List af} {us:List Value} {i:Nat} {q b:af} {a:Value},dw w ν sz xs us->xs[i]? =some q->aV w ν b a->a.cells.size=sz->(∀c∈a.cells.toList,c.oneCell'=true)->dw w ν sz (xs.set i b) (us.take (i*sz)++a.cells.toList++us.drop (i*sz+sz))
 |[],_,_,_,_,_,_,d,_,_,_=>by simp at d
 |x::xs,us,0,q,b,a,h,d,k,j,ar=>by
  simp only[dw]at h;obtain⟨u,l,rfl,⟨J,U,m⟩,g⟩:=h;have f:u.cells.toList.length=sz:=by simpa using U
  simp only[List.set_cons_zero,dw];refine⟨a,l,?_,⟨k,j,ar⟩,g⟩;simp[<-f]
 |x::xs,us,i+1,q,b,a,h,d,k,j,ar=>by
  simp only[dw]at h;obtain⟨u,l,rfl,⟨J,U,m⟩,g⟩:=h;have f:u.cells.toList.length=sz:=by simpa using U
  have n:=JC g (by simpa using d) k j ar;simp only[List.set_cons_succ,dw];refine⟨u,_,?_,⟨J,U,m⟩,n⟩;have e:(i+1)*sz+sz=u.cells.toList.length+(i*sz+sz):=by rw[f,Nat.succ_mul];omega
  rw[acb _ _ _ _ f,e,<-List.drop_drop];simp
def aqI{w:World}{ν:bc}{q:af}{v:Value}(b:aV w ν q v)(l:eT q=true){cs:List af}{us:List Value}(ax:cY w ν cs us){f:Nat}(g:f+us.length<=v.cells.size)(n:us≠[]):
  ∃v',aV w ν (od q f cs) v'/\v'.cells.toList=v.cells.toList.take f++us++v.cells.toList.drop (f+us.length)/\v'.cells.size=v.cells.size/\∀c∈v'.cells.toList,c.oneCell'=true:=by
 have hlen:=qU ax;have x:=wQ b l;by_cases k:∃d,q= .agg d
 ·obtain⟨d,rfl⟩:=k;simp only[aV]at b;obtain⟨bm,rfl,i⟩:=b;simp only[pz]at g⊢;have j:cY w ν (nE d f cs) (bm.toList.take f++us++bm.toList.drop (f+us.length)):=by unfold nE;rw[hlen];exact Ag (Ag (Fw f i) ax) (CJ _ i)
  refine⟨.agg (bm.toList.take f++us++bm.toList.drop (f+us.length)).toArray,by simp only[od,aV];exact⟨_,rfl,by simpa using j⟩,by simp[pz],?_,fun c a=>?_⟩
  ·simp[pz];omega
  ·exact CK j c (by simpa[pz]using a)
 ·have h:∀cs,q≠ .agg cs:=fun cs e=>k ⟨cs,e⟩;obtain⟨J,U⟩:=P1 b l h;rw[U]at g⊢;match us,n,ax with
  |u::o,_,ax=>
   simp at g;obtain⟨rfl,rfl⟩:f=0/\o=[]:=⟨Ω,List.length_eq_zero_iff.1 Ω⟩;match cs,ax,hlen with
   |[c],ax,_=>
    simp only[cY]at ax;obtain⟨t,y,p,⟨r,m⟩,_⟩:=ax;cases p;have hu:u.cells= #[u]:=by cases u<;>first|rfl|cases m
    have s:od q 0 [c]=c:=by cases q<;>first|rfl|exact absurd rfl (h _)
    rw[s];refine⟨u,r,by simp[hu],by simp[hu],fun c a=>?_⟩;rw[hu]at a;simp at a;subst a;exact m
def ark{α:Type}(A us:List α)(a f sz N:Nat)(J:f+us.length<=sz)(U:a+sz<=N)(j:N<=A.length):
  ((A.take (a+f)++us++A.drop (a+f+us.length)).toArray.toList).take N=(A.take N).take a++((((A.take N).drop a).take sz).take f++us++(((A.take N).drop a).take sz).drop (f+us.length))++(A.take N).drop (a+sz):=by
 have g:(A.take N).take a++(((A.take N).drop a).take sz).take f=A.take (a+f):=by rw[List.take_take (i:=f),Nat.min_eq_left (show f<=sz by omega),<-List.take_add,List.take_take,Nat.min_eq_left Ω]
 have h:(((A.take N).drop a).take sz).drop (f+us.length)++(A.take N).drop (a+sz)=(A.take N).drop (a+f+us.length):=by
  have b:f+us.length<=(((A.take N).drop a).take sz).length:=by simp;omega
  have d:(A.take N).drop (a+sz)=((A.take N).drop a).drop sz:=by rw[List.drop_drop]
  rw[d,<-List.drop_append_of_le_length b,List.take_append_drop,List.drop_drop];congr 1;omega
 have e:(A.take N).drop (a+f+us.length)=(A.drop (a+f+us.length)).take (N-(a+f+us.length)):=by rw[List.drop_take]
 have b:(A.take (a+f)++us).length=a+f+us.length:=by simp;omega
 simp only[List.append_assoc]at*;rw[h,e,<-List.append_assoc (mU a _),g];have c:N=(A.take (a+f)++us).length+(N-(a+f+us.length)):=by rw[b];omega
 rw[<-List.append_assoc,<-List.append_assoc];conv=>lhs;rw[c,List.take_length_add_append]
def c9.storeRow{P:cH}{C:fp}{st:bp}{a:Act}{w:World}{ν:bc}(h:c9 C st a w ν){k:aB}{n el sz:Nat}{xs:List af}(ab:ae k st.e=some ⟨n,el,sz,some xs⟩){i f:Nat}{u:Value}(M:aV w ν (.rptr sz k n i f) u){q:af}(H:xs[i]? =some q)(L:eT q=true)
  {cs:List af} {us:List Value} (ax:cY w ν cs us) (aG:f+us.length<=(cells q).length) (X:us≠[]):
  ∃bl off b,u= .pointer (some ⟨bl,off,none⟩)/\(storeCells ⟨bl,off,none⟩ us).run P w= .ok () (w.setRow bl b)/\∃bn,c9 C {st with e:=cI k ⟨n,el,sz,some (xs.set i (od q f cs))⟩ st.e} a (w.setRow bl b) bn:=by
 simp only[aV]at M;obtain⟨_,hi,n',eJ,J,U,aq⟩:=M;obtain⟨v,d,z,K,bX,V⟩:=h.good.own k _ ab;rw[J]at z;simp only[dU,jn]at z;obtain⟨rfl,rfl⟩:=z;obtain⟨bl,l,rfl⟩:=aq rfl;obtain⟨c,m,vh⟩:=V xs rfl;simp only at c m;obtain⟨v,G,o,R⟩:=JA i m H;have Bs:=qU (wQ G L);have s:(cells q).length=sz:=by rw[<-Bs];simpa using o
 have N:f+us.length<=sz:=by rw[<-s];exact aG
 have hmul:i*sz+sz<=n'*sz:=by have:=r2 sz (show i+1<=n' from hi);rwa[Nat.succ_mul]at this
 rcases K.2 with⟨ao,aC⟩|⟨g,cap,cur,rfl,vZ,A,B,x,p,O⟩
 ·rw[ao]at l;simp[pA]at l
 simp only[pA,dU]at l;subst l;simp only at O p B A;have Br:n'*sz<=cur.size:=by rw[p];exact r2 sz B
 have dy:=run_storeCells_at P g (i*sz+f) el us 0 cur w A Ω (CK ax);simp only[Nat.add_zero]at dy;refine⟨g,i*sz+f,_,rfl,dy,?_⟩;generalize E:(cur.toList.take (i*sz+f)++us++cur.toList.drop (i*sz+f+us.length)).toArray=b;obtain⟨v',Y,W,S,Q⟩:=aqI G L ax (f:=f) (by rw[o];exact N) X;have F:=JC m H Y (by rw[S,o]) Q;have hlen:d.length=n'*sz:=K.1;have t:b.toList.take (n'*sz)=d.take (i*sz)++v'.cells.toList++d.drop (i*sz+sz):=by rw[<-E,W,R,<-O];exact ark cur.toList us (i*sz) f sz (n'*sz) N hmul (by simpa using Br)
 have y:b.size=cap*sz:=by rw[<-E,<-p];simp;omega
 have Z:(xs.set i (od q f cs)).length=n':=by simp[c]
 obtain⟨r,_,_⟩:=h.setRowM (w':=w.setRow g b) ab rfl J (bl:=g) rfl (v':= .slice (some ⟨g,0,none⟩) n' cap) rfl (xs':=xs.set i (od q f cs)) (us:=d.take (i*sz)++v'.cells.toList++d.drop (i*sz+sz)) (.inl ⟨by simp[c],rfl⟩) rfl rfl rfl (fun j ah=>setRow_other w g j b ah) (setRow_size w g b)
  ⟨by rw[rN F],.inr ⟨g,cap,b,by simp[c],Nat.zero_le _,setRow_heap w g cur b el _ A,by simpa[c]using B,x,y,by simpa[c]using t⟩⟩ F
 exact⟨_,by simpa[c]using r⟩
def amu(z:Array Value)(n:Nat)(h:0<z.size):(madeCells z ((n+1)*z.size)).toList=z.toList++(madeCells z (n*z.size)).toList:=by
 apply List.ext_getElem?;intro j;rw[List.getElem?_append];have he:(n+1)*z.size=n*z.size+z.size:=by rw[q7,Nat.one_mul]
 simp only[madeCells,vt,Array.length_toList,Array.getElem?_map];by_cases a:j<z.size
 ·rw[if_pos a,Array.getElem?_range,if_pos Ω];simp[Nat.mod_eq_of_lt a,a]
 ·rw[if_neg a,Array.getElem?_range,Array.getElem?_range];by_cases ab:j<n*z.size+z.size
  ·rw[if_pos Ω,if_pos Ω];simp only[pC];rw[<-Nat.mod_eq_sub_mod Ω]
  ·rw[if_neg Ω,if_neg Ω]
def Yw{w:World}{ν:bc}{p:af}{z:Value}(a:aV w ν p z)(h:0<z.cells.size)(ar:∀c∈z.cells.toList,c.oneCell'=true):∀n,dw w ν z.cells.size (List.replicate n p) (madeCells z.cells (n*z.cells.size)).toList
 |0=>by simp[dw,madeCells]
 |n+1=>by rw[amu _ _ h];simp only[List.replicate_succ,dw];exact⟨z,_,rfl,⟨a,rfl,ar⟩,Yw a h ar n⟩
def kv{P:cH}{aT:List (Nat×ev)}(aL:hX P aT=true){C:fp}{st st':bp}{a:Act}{w:World}{ν:bc}(l:c9 C st a w ν){i:eY}{o:Oper}(ar:FF C.N aT i o=true)
  {κ:aB} {n':Nat} {o₁:List aB} (wb:i.makes st=true->fresh st.n st.o κ) (dB:i.makes st=true->∀j,fresh n' o₁ j->fresh st.n st.o j/\j≠κ) {c:Prop} (he:fl κ n' o₁ st i=some (c,st')) (ax:c) {K:Act->World->Prop} {Q:Exit->Act->World->Prop} (M:∀br w' bn,c9 C st' br w' bn->K br w'):o.wp P a w K Q:=by
 obtain⟨dst,op,type,pos,after,guard⟩:=o;unfold FF at ar;dsimp only at ar;split at ar
 ·rename_i d key t;simp only[cP,ey,gy]at ar;obtain⟨rfl,U⟩:=ar;simp only[fl]at he;cases he;obtain⟨g1,g2⟩:=l.newBox (l.new _ (wb rfl)) (dB rfl) (cs:=[.hdm 0 []]) (us:= #[]) 0 (by simp only[k2];exact⟨by simp[c7],⟨rfl,Ψ,Ψ⟩⟩);refine nI (v:= .map (some w.heap.size)) (w':=w.alloc (.map #[] 0)) ?_ (M _ _ _ (g1.put (d:=some d) (by simpa[j6]using U) (p:= .gmap κ) ?_))
  ·simp only[execOp,Instr.makeMap,Option.map_none,gx,run_newObj,gC,hA];rfl
  ·simp[aV,bc.withBox]
 iterate 2
  focus
   rename_i cA x k v t hj iL rI
   simp only[cP,ey]at ar
   obtain⟨⟨⟨⟨rfl,J⟩,U⟩,A⟩,E⟩:=ar
   have rx:=e5 l U
   have JK:=e5 l A
   have sH:=e5 l E
   split at J
   ·rename_i sz S pc sk z R
    obtain⟨cV,hu,gi⟩:=jl aL R
    have xw:cV= .map pc sk:=by cases cV<;>simp[k7]at gi;obtain⟨rfl,rfl⟩:=gi;rfl
    subst xw
    have rk:=XO aL J
    simp only[fl]at he
    split at he
    ·rename_i m O
     rw[O]at rx
     simp only[aV]at rx
     obtain⟨bl,cm,b9⟩:=rx
     split at he
     ·rename_i cs dz
      split at he
      ·rename_i cs' hm
       cases he
       obtain⟨h3,us,el,a7,bB,bX,dq,G⟩:=l.good.box m cs dz
       rw[cm]at a7;cases a7
       unfold qR at hm
       split at hm
       ·rename_i clock borns kvs
        split at hm
        ·cases hm
        rename_i fM
        simp only[lZ]at dq
        simp only[k2]at G
        have iI:=yo (P:=P) dq
        have D5:=abx (P:=P) (w:=w) rk false JK (by simpa using fM)
        have bO:bl<w.heap.size:=(Array.getElem?_eq_some_iff.1 dq).1
        have ee:∀(o':Obj) (b2:Array Value) (ej:List af),(Instr.mapUpdate t (a.eval hj) (a.eval iL) (a.eval rI)).run P w= .ok () {w with heap:=w.heap.setIfInBounds bl o'}->lZ ej b2 el=o'->k2 w ν ej b2.toList->some ej=some cs'->
          (⟨none,.mapUpdate t hj iL rI,type,pos,after,guard⟩:Oper).wp P a w K Q:=by
         intro o' b2 ej jK Na nW jH;cases jH;refine Kp (w':={w with heap:=w.heap.setIfInBounds bl o'}) ?_ (M _ _ _ (l.setBox (w':={w with heap:=w.heap.setIfInBounds bl o'}) dz cm (us:=b2) (el:=el) rfl rfl rfl (fun j L=>?_) Ψ ?_ nW).1)
         ·simp only[execOp,jK,gx,gC,hA]
         ·exact Array.getElem?_setIfInBounds_ne (Ne.symm L)
         ·rw[Na];simp[bO]
        split at hm
        ·rename_i B3 Eh
         obtain⟨j,u,b2,e,f1,f2,f3,f4,f5,f6,f7⟩:=OH rk JK sH borns kvs us.toList 0 _ G.1 G.2.len Eh
         refine ee (.map (gQ borns b2).toArray clock) b2.toArray (.hdm clock borns::B3) ?_ (by simp[lZ]) (by simp only[k2];exact⟨by simpa using f2,⟨by rw[f3];exact G.2.len,G.2.inc,G.2.lt⟩⟩) hm
         have ak7:(Instr.keyThatStays (((gQ borns us.toList).toArray[j]?.map (·.key)).getD (a.eval iL)) (a.eval iL)).run P w= .ok (a.eval iL) w:=by
          have:((gQ borns us.toList).toArray[j]?.map (·.key)).getD (a.eval iL)=e.key:=by simp[f4]
          rw[this];simp[Instr.keyThatStays,f6]
         simp only[Nat.zero_add]at f1
         simp only[Instr.mapUpdate,gx,run_underlying hu,gC,b9,iI,D5,f1.run rk,hA,ak7,P5 dq]
         rw[f7]
         simp
        ·rename_i Eh
         have f1:=OH rk JK sH borns kvs us.toList 0 _ G.1 G.2.len Eh
         simp only at f1
         have wo:us.toList.length=2*borns.length:=by rw[P0 G.1,G.2.len]
         refine ee (.map ((gQ borns us.toList).toArray.push ⟨a.eval iL,a.eval rI,clock⟩) (clock+1)) (us.toList++[a.eval iL,a.eval rI]).toArray (.hdm (clock+1) (borns++[clock])::(kvs++[cE st.t k,cE st.t v])) ?_ (by simp only[lZ,Uz borns us.toList clock _ _ wo];simp) ?_ hm
         ·simp only[Instr.mapUpdate,gx,run_underlying hu,gC,b9,iI,D5,f1.run rk,hA,P5 dq]
         ·simp only[k2]
          refine⟨abm G.1 (by simp only[c7];exact⟨_,_,rfl,JK,_,_,rfl,sH,rfl⟩),⟨by simp[G.2.len];omega,?_,?_⟩⟩
          ·rw[List.pairwise_append]
           exact⟨G.2.inc,Ψ,fun x O y aI=>by simp at aI;subst aI;exact G.2.lt x O⟩
          ·intro b ag
           rcases kc.1 ag with ag|ag
           ·have:=G.2.lt b ag;omega
           ·simp at ag;omega
        ·cases hm
       ·cases hm
      ·cases he
     ·cases he
    ·cases he
   ·cases J
 ·rename_i d key x t hj;simp only[cP,ey,gy]at ar;obtain⟨⟨⟨rfl,U⟩,J⟩,A⟩:=ar;have rx:=e5 l A;split at J
  ·rename_i sz S pc sk z R;obtain⟨cV,hu,gi⟩:=jl aL R;have xw:cV= .map pc sk:=by cases cV<;>simp[k7]at gi;obtain⟨rfl,rfl⟩:=gi;rfl
   subst xw;simp only[fl]at he;split at he
   ·rename_i m O;rw[O]at rx;have aqM:=rx;simp only[aV]at rx;obtain⟨bl,cm,b9⟩:=rx;split at he
    ·rename_i cs dz;split at he
     ·rename_i cs' hm;cases he;obtain⟨h3,us,el,a7,bB,bX,dq,G⟩:=l.good.box m cs dz;rw[cm]at a7;cases a7;unfold Ae at hm;split at hm
      ·rename_i clock borns kvs;cases hm;simp only[lZ]at dq;have iI:=yo (P:=P) dq;obtain⟨g1,g2⟩:=l.newBox (l.new _ (wb rfl)) (dB rfl) (cs:=[.hdi clock [] clock,.gmap m]) (us:= #[a.eval hj]) 0 (by simp only[k2,c7];exact⟨_,_,rfl,aqM,rfl⟩);have Na:lZ [.hdi clock [] clock,.gmap m] #[a.eval hj] 0= .mapIter (some bl) clock #[] clock:=by simp[lZ,b9]
       rw[Na]at g1 g2;refine nI (v:= .pointer (some ⟨w.heap.size,0,none⟩)) (w':=w.alloc (.mapIter (some bl) clock #[] clock)) ?_ (M _ _ _ (g1.put (d:=some d) (by simpa[j6]using U) (p:= .ptr κ 0) g2))
       ·simp only[execOp];refine F3 ?_;simp only[Instr.range,gx,run_underlying hu,gC,b9,iI,hA,run_newObj];rfl
      ·cases hm
     ·cases he
    ·cases he
   ·cases he
  ·cases J
 ·rename_i d ax9;simp only[cP,ey,gy]at ar;obtain⟨⟨J,U⟩,A⟩:=ar;subst J;simp only[fl]at he;split at he
  ·rename_i cC p F;cases he;obtain⟨v,g1,g2⟩:=arT (o:=⟨some d,op,type,pos,after,guard⟩) aL l A F ax;refine nI g1 (M _ _ ν ?_);exact l.put (d:=some d) (by simpa[j6]using U) g2
  ·cases he
 ·rename_i d key x el o';simp only[cP,ey,gy]at ar;obtain⟨⟨J,U⟩,A⟩:=ar;subst J;simp only[fl]at he;cases he;have O:=e5 l A;have mF:=wQ O ax;obtain⟨g1,g2⟩:=l.newBox (l.new _ (wb rfl)) (dB rfl) el (by rw[pj (wP mF)];exact mF);rw[pg (wP mF)]at g1 g2;refine nI (v:= .pointer (some ⟨w.heap.size,0,none⟩)) (w':=w.alloc (.cells (a.eval o').cells el)) ?_ (M _ _ _ (g1.put (d:=some d) (by simpa[j6]using U) (p:= .ptr κ 0) ?_))
  ·simp only[execOp,Instr.box,newVar,newRow,gx,run_newObj,gC,hA];rfl
  ·simpa only[aV]using g2
 ·rename_i d key z el;simp only[cP,ey,gy]at ar;obtain⟨⟨J,U⟩,A⟩:=ar;subst J;simp only[fl]at he;cases he;split at A
  ·rename_i f R;have bC:=Q8 A;obtain⟨cd,l4,z2,z3⟩:=QF aL R w;rw[<-bC]at z2;obtain⟨_,mF⟩:=Q7 w ν z2;obtain⟨g1,g2⟩:=l.newBox (l.new _ (wb rfl)) (dB rfl) el (by rw[pj (wP mF)];exact mF);rw[pg (wP mF)]at g1 g2;refine nI (v:= .pointer (some ⟨w.heap.size,0,none⟩)) (w':=w.alloc (.cells cd.cells el)) ?_ (M _ _ _ (g1.put (d:=some d) (by simpa[j6]using U) (p:= .ptr κ 0) ?_))
   ·simp only[execOp,Instr.alloc,newVar,newRow,gx,l4,run_newObj,gC,hA];rfl
   ·simpa only[aV]using g2
  ·cases A
 ·rename_i sz x y t o' X;simp only[cP,ey]at ar;obtain⟨⟨⟨J,U⟩,A⟩,E⟩:=ar;subst J;split at U
  ·rename_i f R;simp only[ey]at U;simp only[fl]at he;split at he
   ·rename_i k off O;split at he
    ·rename_i cs dz;cases he;obtain⟨js,Z,cq,di⟩:=ax;have rx:=e5 l A;rw[O]at rx;simp only[aV]at rx;obtain⟨bl,cm,b9⟩:=rx;have N:=e5 l E;have wN:=wQ N Z;have wR:=qU wN;obtain⟨h3,us,el,a7,bB,bX,dq,G⟩:=l.good.box k cs dz;rw[cm]at a7;cases a7;rw[pg js]at dq;rw[pj js]at G;have ay:=qU G;obtain⟨_,en⟩:=wX aL R w;have wq:(a.eval X).cells.size=sz:=by rw[cq]at wR;simpa using wR
     have dy:=run_storeCells_at (P:=P) bl off el (a.eval X).cells.toList 0 us w dq (by simp at ay⊢;omega) (CK wN);simp only[Nat.add_zero]at dy;refine Kp (w':=w.setRow bl (us.toList.take off++(a.eval X).cells.toList++us.toList.drop (off+(a.eval X).cells.toList.length)).toArray) ?_ (M _ _ _ (l.storeBox dz cm js ?_))
     ·simp only[execOp,Instr.storeAt,b9,Instr.sureAddr,storeVar,gx,hA,gC,en,wq,U,ne_eq,not_true_eq_false,if_false,dy]
     ·simp only[nE];rw[wR];exact Ag (Ag (Fw off G) wN) (CJ _ G)
    ·cases he
   ·rename_i O;generalize Nd:cE st.t x=px at he;unfold sL at he;split at he
    ·rename_i ed k n i uI;split at he
     ·rename_i n' el j3 xs ab;split at he
      ·rename_i El;obtain⟨rfl,rfl⟩:=El;split at he
       ·rename_i q bK;cases he;obtain⟨js,Z,cq,di,h4⟩:=ax;have rx:=e5 l A;rw[Nd]at rx;have N:=e5 l E;have wN:=wQ N Z;have wR:=qU wN;obtain⟨_,en⟩:=wX aL R w;have wq:(a.eval X).cells.size=sz:=by rw[cq]at wR;simpa using wR
        obtain⟨bl,off,nO,En,dy,bn,pY⟩:=l.storeRow (P:=P) ab rx bK js wN (by simpa[wq]using di) (fun e=>by have:=fy List.length e;simp[wq]at this;omega);refine Kp (w':=w.setRow bl nO) ?_ (M _ _ _ pY);simp only[execOp,Instr.storeAt,En,Instr.sureAddr,storeVar,gx,hA,gC,en,wq,U,ne_eq,not_true_eq_false,if_false,dy]
       ·cases he
      ·cases he
     ·cases he
    ·cases he
  ·cases U
 ·rename_i d sz el xs t len parts;simp only[cP,ey,gy]at ar;obtain⟨⟨⟨⟨⟨⟨J,U⟩,A⟩,E⟩,bR⟩,dh⟩,eb⟩:=ar;subst J;subst bR;split at A
  ·rename_i gJ R;simp only[ey]at A;subst A;split at E
   ·rename_i g be;simp only[cP,ey,gy]at E;obtain⟨rfl,gj⟩:=E;simp only[fl]at he;cases he;obtain⟨us,g1,g2,g3⟩:=abw aL l R rfl be eb ax dh;have mH:(w.alloc (.cells us el)).ownsRow w.heap.size el g.size (.slice (some ⟨w.heap.size,0,none⟩) xs.length xs.length) (xs.map (cE st.t)).length us.toList:=by
     refine⟨by simp[g3],.inr ⟨w.heap.size,xs.length,us,Ψ,dP _,heap_alloc_new w _,Ψ,?_,g3,?_⟩⟩
     ·simp only[maxLen];have:xs.length<=xs.length*g.size:=Nat.le_mul_of_pos_right _ gj;omega
     ·rw[iu];simp[g3]
    obtain⟨Y,eE⟩:=l.newRow (k:=κ) (xs:=xs.map (cE st.t)) (.inl (l.new _ (wb rfl))) (World.grownBy_alloc w _ none) mH g2
     (by have:xs.length<=xs.length*g.size:=Nat.le_mul_of_pos_right _ gj;simp only[lim,List.length_map];omega) (dB rfl)
    simp only[List.length_map]at Y eE;refine nI (v:= .slice (some ⟨w.heap.size,0,none⟩) xs.length xs.length) (w':=w.alloc (.cells us el)) ?_ (M _ _ _ (Y.put (d:=some d) (by simpa[j6]using U) (p:= .slice g.size (.own κ) (xs.map (cE st.t))) eE));have bM:(parts.map fun(x:Nat×Operand)=>(x.1,a.eval x.2))=(parts.toList.map fun(x:Nat×Operand)=>(x.1,a.eval x.2)).toArray:=by apply Array.ext';simp
    simp only[execOp];refine F3 ?_;rw[<-g1];congr 2
   ·cases E
  ·cases A
 ·rename_i d sz el x y o' X t t';simp only[cP,ey,gy]at ar;obtain⟨⟨⟨⟨⟨⟨J,U⟩,A⟩,E⟩,bR⟩,dh⟩,eb⟩:=ar;subst J;subst A;split at E
  ·rename_i gJ R;simp only[ey]at E;subst E;split at bR
   ·rename_i g be;simp only[cP,ey,gy]at bR;obtain⟨⟨rfl,gj⟩,hby⟩:=bR;have rx:=e5 l dh;have N:=e5 l eb;have nS:∀v' w',(Builtin.append_ #[t,t] type #[a.eval o',a.eval X]).run P w= .ok v' w'->(execOp a.eval ⟨some d,.call ⟨.builtin .append,⟨[o',X]⟩,⟨[t,t]⟩⟩,type,pos,after,guard⟩).run P w= .ok (.value v') w':=by intro v' w' jK;simp only[execOp,resolve,invoke,builtin,gx,hA,gC,List.map_toArray,gV,rZ];rw[jK];rfl
    obtain⟨r,cu,z,ao,aC,B,b4,dN,dm,sY,sZ⟩:=(wY aL be).ex;obtain⟨ej,jH,gi⟩:=jl aL R;obtain rfl:=sX gi;simp only[fl]at he;split at he
    ·rename_i ed tag xs j3 l0 ys O aI;split at he
     ·rename_i ga;obtain⟨rfl,ga⟩:=ga;subst ga;rw[O]at rx;rw[aI]at N;simp only[aV]at rx N;obtain⟨⟨vK,o4,ud,cx1,⟨Ue,Uf⟩,cx4⟩,rxn,rxo,rxt⟩:=rx;obtain⟨⟨o0,W,vy,cy1,⟨Ug,Uh⟩,cy4⟩,_⟩:=N;split at he
      ·rename_i k;split at he
       ·rename_i ow ab;cases he;obtain⟨Z,cq,di,h4⟩:=ax;subst cq;obtain⟨n0,yz,Y,eE,ku⟩:=rxo k rfl;obtain⟨v0,H,a7,bB,bX,_⟩:=l.good.own k ow ab;rw[Y]at a7;simp only[dU,jn]at a7;obtain⟨rfl,rfl⟩:=a7;have nv:a.eval o'=yz:=ku Z.symm;by_cases hD:ys=[]
        ·subst hD;rw[vy,ud]at nS;have jK:=JN (P:=P) (w:=w) (ty:=type) jH ao vK xs.length o4 cx1 o0 W;refine nI (nS _ _ (by simpa using jK)) (M _ _ ν ?_);have dy:{st with t:=put d (.slice ow.sz (.own k) (xs++[])) st.t,e:=cI k ⟨xs.length+([]:List af).length,ow.el,ow.sz,none⟩ st.e}=({st with e:=cI k ⟨ow.n,ow.el,ow.sz,none⟩ st.e,t:=put d (.slice ow.sz (.own k) xs) st.t}:bp):=by simp[Z]
         rw[<-di,dy];have nV:=l.forgetRow ab;refine nV.put (d:=some d) (by simpa[j6]using U) (p:= .slice ow.sz (.own k) xs) ?_;simp only[aV];rw[<-di]at cx4;exact⟨⟨vK,o4,rfl,cx1,⟨Ue,Uf⟩,cx4⟩,fun e=>(by cases e),(fun g e=>by cases e;exact⟨_,_,Y,eE,fun e=>by rw[<-ud];exact ku e⟩),fun _ _ e=>(by cases e),fun _ e=>(by cases e)⟩
        ·have hyp:0<ys.length:=by cases ys<;>simp at hD⊢
         rcases cy4 with cy4|⟨S,oN,s,rfl,zP,V⟩
         ·exact absurd cy4 hD
         ·have ko:=rN V;have tw:∀j u,s[j]? =some u->w.cell? ((⟨S,oN,none⟩:Addr).add j)=some u:=fun j u L=>by rw[pL];exact(u4 zP L).2
          have ti:(xs.length+ys.length)*r.bytes<=140737488355328:=by
           have mD:r.bytes<=2048:=by rw[b4];exact hby
           have qA:(xs.length+ys.length)*r.bytes<=(xs.length+ys.length)*2048:=Nat.mul_le_mul_left _ mD;simp only[lim]at h4;omega
          have nT:xs.length+ys.length<=maxLen:=by simp only[lim]at h4;simp only[maxLen];omega
          rw[vy]at nS;have xQ:H.length=ow.n*ow.sz:=bB.1;have xT:z.cells.size=r.size:=by rw[sZ,B]
          have Eb:(∀cur,er->cur=(0:Nat))->(∃v' w',(Builtin.append_ #[t,t] type #[a.eval o',.slice (some ⟨S,oN,none⟩) ys.length W]).run P w= .ok v' w'/\w'.ownsRow w.heap.size ow.el r.size v' (xs.length+ys.length) (H++s)/\w.grownBy w' none/\dw w ν r.size xs H)->
            (⟨some d,.call ⟨.builtin .append,⟨[o',X]⟩,⟨[t,t]⟩⟩,type,pos,after,guard⟩:Oper).wp P a w K Q:=by
           intro _ cL;obtain⟨v',w',f1,f2,f3,f4⟩:=cL;have HE:dw w ν r.size (xs++ys) (H++s):=Fu f4 (by rw[B];exact V);obtain⟨c2,dD⟩:=l.newRow (k:=k) (xs:=xs++ys) (.inr ⟨ow,ab,by rw[Z];simp;omega⟩) f3 (by simpa using f2) HE (by simpa using h4) (n':=st.n) (o':=st.o)
            (fun j L=>⟨L,fun e=>by subst e;have:=(l.new _ L).2.1;rw[Y]at this;cases this⟩)
           refine nI (nS _ _ f1) (M _ _ ((ν.withOwn k (xs++ys).length v').withRowOf k v' (xs++ys).length ((xs++ys).length*r.size)) ?_);have:=c2.put (d:=some d) (by simpa[j6]using U) dD;simpa[B,e7]using this
          rcases bB.2 with⟨oO,Aa⟩|⟨bl,cap,cur,oO,Aa,Cx,Pn,Po,Pp,Jb⟩
          ·
           have sA:xs=[]:=List.eq_nil_of_length_eq_zero Ω;have Nu:H=[]:=List.eq_nil_of_length_eq_zero (by rw[xQ,Aa];simp);subst sA;subst Nu;refine Eb (fun _ h=>h.elim) ?_;obtain⟨v',w',f1,f2,f3,_⟩:=run_append_own (P:=P) w w.heap.size t type ow.el r z r.size r.bytes jH ao dm rfl rfl xT (by rw[B];exact gj) (.slice none 0 0) 0 [] (World.ownsRow_nil w _ _ _)
            ⟨S,oN,none⟩ ys.length W s (by rw[ko,B]) tw (Af V) (by simpa using nT) (by simpa using ti) (dP _)
           refine⟨v',w',by rw[nv,oO];exact f1,by simpa using f2,by simpa[pA]using f3,by simp[dw]⟩
          ·have akx:kX w ν.A bl 0 H/\dw w ν r.size xs H/\True:=by
            rw[nv,oO]at ud;rcases cx4 with cx4|⟨bb,awV,QN,f1,f2,f3⟩
            ·subst cx4;have:H=[]:=List.eq_nil_of_length_eq_zero (by rw[xQ,Z];simp);subst this;exact⟨trivial,by simp[dw],trivial⟩
            ·subst f1;injection ud with vx1 vx2 vx3;injection vx1 with vx1;injection vx1 with vx1 vx4;subst vx1;subst vx4;have heq:QN=H:=by
              apply List.ext_getElem?;intro j;have wo:QN.length=H.length:=by rw[rN f3,xQ,Z,di]
              by_cases L:j<QN.length
              ·have J:=(u4 f2 (cl L)).2;rw[Nat.zero_add]at J;have U:=bB.cells (g:=bl) (by rw[oO];rfl) j H[j] (cl Ω);rw[pL,Nat.zero_add,J]at U;rw[cl L,cl Ω];exact U
              ·rw[q4 Ω,q4 Ω]
             subst heq;exact⟨f2,by rw[B];exact f3,trivial⟩
           obtain⟨zt,oD,_⟩:=akx;by_cases tz:xs.length+ys.length<=cap
           ·have au5:cur.size=cap*ow.sz:=Pp;have hmul:(xs.length+ys.length)*ow.sz<=cap*ow.sz:=r2 _ tz;rw[q7]at hmul;have f1:=run_append_room (P:=P) w t type ow.el r jH ao bl xs.length cap cur Cx ⟨S,oN,none⟩ ys.length W s (by rw[ko,B]) tw (Af V) tz (by rw[ko,B,<-di];omega);obtain⟨c2,dD⟩:=l.inPlace ab (bl:=bl) (cap:=cap) (cur:=cur) (by rw[Y,<-oO]) Cx Po Pp (xs:=xs) (ys:=ys) (us:=H) (ns:=s) Z.symm Jb (by rw[di,<-B];exact oD) (by rw[di];exact V) hyp (by rw[Z];exact tz) h4;refine nI (v:= .slice (some ⟨bl,0,none⟩) (ow.n+ys.length) cap) (w':=w.setRow bl (H++s++cur.toList.drop (ow.n*ow.sz+s.length)).toArray) (nS _ _ ?_)
             (M _ _ (ν.withRowOf k (.slice (some ⟨bl,0,none⟩) (ow.n+ys.length) cap) (ow.n+ys.length) ((ow.n+ys.length)*ow.sz)) ?_)
            ·rw[nv,oO,Z,f1,<-Jb,Z,di,B]
            ·have:=c2.put (d:=some d) (by simpa[j6]using U) dD;simpa[Z,di,e7]using this
           ·refine Eb (fun _ h=>h.elim) ?_;obtain⟨v',w',f1,f2,f3⟩:=run_append_arg_grows (P:=P) w t type ow.el r z r.size r.bytes jH ao dm rfl rfl xT (by rw[B];exact gj) ⟨bl,0,none⟩ xs.length cap H (by rw[xQ,Z,di,B])
             (fun j u L=>by rw[pL];exact(u4 zt L).2) ⟨S,oN,none⟩ ys.length W s (by rw[ko,B]) tw Ω nT ti
            exact⟨v',w',by rw[nv,oO,Z];exact f1,f2,f3,oD⟩
       ·cases he
      ·cases he;have HR:=rxn rfl;have sA:xs=[]:=by rw[HR]at ud;injection ud with _ aC;exact List.eq_nil_of_length_eq_zero aC.symm
       subst sA;have zx:(eY.app d g.size el x y).makes st=true:=by simp only[eY.makes,O]
       have xT:z.cells.size=r.size:=by rw[sZ,B]
       rw[vy,HR]at nS;have ee:∀(v':Value) (w':World) (s:List Value),(Builtin.append_ #[t,t] type #[.slice none 0 0,.slice o0 ys.length W]).run P w= .ok v' w'->w'.ownsRow w.heap.size el g.size v' ys.length s->w.grownBy w' none->dw w ν g.size ys s->
         (⟨some d,.call ⟨.builtin .append,⟨[o',X]⟩,⟨[t,t]⟩⟩,type,pos,after,guard⟩:Oper).wp P a w K Q:=by
        intro v' w' s f1 f2 f3 f4;obtain⟨c2,dD⟩:=l.newRow (k:=κ) (xs:=ys) (.inl (l.new _ (wb zx))) f3 f2 f4 ax (dB zx);exact nI (nS _ _ f1) (M _ _ _ (c2.put (d:=some d) (by simpa[j6]using U) dD))
       by_cases hD:ys=[]
       ·subst hD;exact ee _ w [] (JN jH ao none 0 0 (dP _) o0 W) (World.ownsRow_nil w _ _ _) (aty w _) (by simp[dw])
       ·rcases cy4 with cy4|⟨S,oN,s,rfl,zP,V⟩
        ·exact absurd cy4 hD
        ·have ko:=rN V;have tw:∀j u,s[j]? =some u->w.cell? ((⟨S,oN,none⟩:Addr).add j)=some u:=fun j u L=>by rw[pL];exact(u4 zP L).2
         have ti:ys.length*r.bytes<=140737488355328:=by
          have J:r.bytes<=2048:=by rw[b4];exact hby
          have U:ys.length*r.bytes<=ys.length*2048:=Nat.mul_le_mul_left _ J;simp only[lim]at ax;omega
         have nT:ys.length<=maxLen:=by simp only[lim]at ax;simp only[maxLen];omega
         obtain⟨v',w',f1,f2,f3,_⟩:=run_append_own (P:=P) w w.heap.size t type el r z r.size r.bytes jH ao dm rfl rfl xT (by rw[B];exact gj) (.slice none 0 0) 0 [] (World.ownsRow_nil w _ _ _)
          ⟨S,oN,none⟩ ys.length W s (by rw[ko,B]) tw (Af V) (by simpa using nT) (by simpa using ti) (dP _)
         exact ee v' w' s f1 (by rw[<-B];simpa using f2) (by simpa[pA]using f3) V
      ·cases he
     ·cases he
    ·cases he
   ·cases bR
  ·cases E
 ·rename_i d key sz el xs t len parts;simp only[cP,ey,gy]at ar;obtain⟨⟨⟨⟨⟨⟨J,U⟩,A⟩,E⟩,bR⟩,dh⟩,eb⟩:=ar;subst J;subst bR;split at A
  ·rename_i gJ R;simp only[ey]at A;subst A;split at E
   ·rename_i g be;simp only[cP,ey,gy]at E;obtain⟨rfl,gj⟩:=E;simp only[fl]at he;cases he;obtain⟨us,g1,g2,g3⟩:=abw aL l R rfl be eb ax dh;have mH:(w.alloc (.cells us el)).ownsRow w.heap.size el g.size (.slice (some ⟨w.heap.size,0,none⟩) xs.length xs.length) (xs.map (cE st.t)).length us.toList:=by
     refine⟨by simp[g3],.inr ⟨w.heap.size,xs.length,us,Ψ,dP _,heap_alloc_new w _,Ψ,?_,g3,?_⟩⟩
     ·simp only[maxLen];have:xs.length<=xs.length*g.size:=Nat.le_mul_of_pos_right _ gj;omega
     ·rw[iu];simp[g3]
    obtain⟨Y,eE⟩:=l.newRowM (k:=κ) (xs:=xs.map (cE st.t)) (.inl (l.new _ (wb rfl))) (World.grownBy_alloc w _ none) mH g2
     (by have:xs.length<=xs.length*g.size:=Nat.le_mul_of_pos_right _ gj;simp only[lim,List.length_map];omega) (dB rfl)
    simp only[List.length_map]at Y eE;refine nI (v:= .slice (some ⟨w.heap.size,0,none⟩) xs.length xs.length) (w':=w.alloc (.cells us el)) ?_ (M _ _ _ (Y.put (d:=some d) (by simpa[j6]using U) (p:= .row g.size κ xs.length) (eE ⟨_,_,rfl⟩)));have bM:(parts.map fun(x:Nat×Operand)=>(x.1,a.eval x.2))=(parts.toList.map fun(x:Nat×Operand)=>(x.1,a.eval x.2)).toArray:=by apply Array.ext';simp
    simp only[execOp];refine F3 ?_;rw[<-g1];congr 2
   ·cases E
  ·cases A
 ·rename_i d key sz el x y o' X t t';simp only[cP,ey,gy]at ar;obtain⟨⟨⟨⟨⟨⟨J,U⟩,A⟩,E⟩,bR⟩,dh⟩,eb⟩:=ar;subst J;subst A;split at E
  ·rename_i gJ R;simp only[ey]at E;subst E;split at bR
   ·rename_i g be;simp only[cP,ey,gy]at bR;obtain⟨⟨rfl,gj⟩,hby⟩:=bR;have rx:=e5 l dh;have N:=e5 l eb;have nS:∀v' w',(Builtin.append_ #[t,t] type #[a.eval o',a.eval X]).run P w= .ok v' w'->(execOp a.eval ⟨some d,.call ⟨.builtin .append,⟨[o',X]⟩,⟨[t,t]⟩⟩,type,pos,after,guard⟩).run P w= .ok (.value v') w':=by intro v' w' jK;simp only[execOp,resolve,invoke,builtin,gx,hA,gC,List.map_toArray,gV,rZ];rw[jK];rfl
    obtain⟨r,cu,z,ao,aC,B,b4,dN,dm,sY,sZ⟩:=(wY aL be).ex;obtain⟨ej,jH,gi⟩:=jl aL R;obtain rfl:=sX gi;have xT:z.cells.size=r.size:=by rw[sZ,B]
    simp only[fl]at he;split at he
    ·
     rename_i ys F;cases he;unfold uy at F;split at F
     ·rename_i ed xs j3 l0 atq O aI;split at F
      ·rename_i ga;obtain⟨rfl,ga⟩:=ga;subst ga;cases F;rw[O]at rx;rw[aI]at N;simp only[aV]at rx N;obtain⟨⟨vK,o4,ud,cx1,⟨Ue,Uf⟩,cx4⟩,rxn,rxo,rxt⟩:=rx;obtain⟨⟨o0,W,vy,cy1,⟨Ug,Uh⟩,cy4⟩,_⟩:=N;have HR:=rxn trivial;have zx:(eY.appm d key g.size el x y).makes st=true:=by simp only[eY.makes,O]
       rw[vy,HR]at nS;have ee:∀(v':Value) (w':World) (s:List Value),(Builtin.append_ #[t,t] type #[.slice none 0 0,.slice o0 ys.length W]).run P w= .ok v' w'->w'.ownsRow w.heap.size el g.size v' ys.length s->w.grownBy w' none->dw w ν g.size ys s->
         (⟨some d,.call ⟨.builtin .append,⟨[o',X]⟩,⟨[t,t]⟩⟩,type,pos,after,guard⟩:Oper).wp P a w K Q:=by
        intro v' w' s f1 f2 f3 f4;obtain⟨c2,dD⟩:=l.newRowM (k:=κ) (xs:=ys) (.inl (l.new _ (wb zx))) f3 f2 f4 ax.1 (dB zx);exact nI (nS _ _ f1) (M _ _ _ (c2.put (d:=some d) (by simpa[j6]using U) (dD (ZR f2 (by cases ys<;>simp at ax⊢)))))
       by_cases hD:ys=[]
       ·subst hD;exact ee _ w [] (JN jH ao none 0 0 (dP _) o0 W) (World.ownsRow_nil w _ _ _) (aty w _) (by simp[dw])
       ·rcases cy4 with cy4|⟨S,oN,s,rfl,zP,V⟩
        ·exact absurd cy4 hD
        ·have ko:=rN V;have tw:∀j u,s[j]? =some u->w.cell? ((⟨S,oN,none⟩:Addr).add j)=some u:=fun j u L=>by rw[pL];exact(u4 zP L).2
         have ti:ys.length*r.bytes<=140737488355328:=by
          have J:r.bytes<=2048:=by rw[b4];exact hby
          have U:ys.length*r.bytes<=ys.length*2048:=Nat.mul_le_mul_left _ J;simp only[lim]at ax;omega
         have nT:ys.length<=maxLen:=by simp only[lim]at ax;simp only[maxLen];omega
         obtain⟨v',w',f1,f2,f3,_⟩:=run_append_own (P:=P) w w.heap.size t type el r z r.size r.bytes jH ao dm rfl rfl xT (by rw[B];exact gj) (.slice none 0 0) 0 [] (World.ownsRow_nil w _ _ _)
          ⟨S,oN,none⟩ ys.length W s (by rw[ko,B]) tw (Af V) (by simpa using nT) (by simpa using ti) (dP _)
         exact ee v' w' s f1 (by rw[<-B];simpa using f2) (by simpa[pA]using f3) V
      ·cases F
     ·split at F
      ·split at F
       ·split at F<;>cases F
       ·cases F
      ·cases F
     ·cases F
    ·
     rename_i k xs ys F;cases he;unfold uy at F;split at F
     ·split at F<;>cases F
     ·rename_i ed bt n j3 l0 atq O aI;split at F
      ·rename_i ga;obtain⟨rfl,ga⟩:=ga;subst ga;split at F
       ·rename_i n' gJ yw xs' ab;split at F
        ·rename_i rl;obtain⟨rfl,rfl,rfl⟩:=rl;cases F;rw[O]at rx;rw[aI]at N;simp only[aV]at rx N;obtain⟨⟨bx,o4,ud⟩,rxl,n0,yz,Y,eE,ku⟩:=rx;obtain⟨⟨o0,W,vy,cy1,⟨Ug,Uh⟩,cy4⟩,_⟩:=N;obtain⟨v0,H,a7,bB,bX,dq⟩:=l.good.own k _ ab;rw[Y]at a7;simp only[dU,jn]at a7 bB;obtain⟨rfl,rfl⟩:=a7;have nv:a.eval o'=yz:=ku rfl;obtain⟨G,mP,vh⟩:=dq xs rfl;simp only at G mP;have xQ:H.length=xs.length*g.size:=by rw[G];exact bB.1
         have kV:xs.length=n0:=G;by_cases hD:ys=[]
         ·subst hD;rw[vy,ud]at nS;have mF:n0<=o4:=by
           rcases bB.2 with⟨oO,Aa⟩|⟨bl,cap,cur,oO,Aa,Cx,Pn,_⟩
           ·rw[Aa];exact Nat.zero_le _
           ·rw[<-nv,ud]at oO;injection oO with _ _ e;rw[e];exact Pn
          have jK:=JN (P:=P) (w:=w) (ty:=type) jH ao (some ⟨bx,0,none⟩) n0 o4 mF o0 W;refine nI (nS _ _ (by simpa using jK)) (M _ _ ν ?_);have hV:∀fE,ae fE (cI k ⟨n0,gJ,g.size,some xs⟩ st.e)=ae fE st.e:=fun fE=>by
           rw[jj];split
           ·rename_i e;subst e;rw[ab]
           ·rfl
          have nV:c9 C {st with e:=cI k ⟨n0,gJ,g.size,some xs⟩ st.e} a w ν:=
           ⟨⟨l.good.alt,l.good.box,l.good.inj,fun g o be=>l.good.own g o (by rw[<-hV g];exact be),fun g fE n n' v v' bl bq a2=>l.good.oinj g fE n n' v v' bl (by rw[<-hV g];exact bq) (by rw[<-hV fE];exact a2),
           fun g j n v bl bq=>l.good.obx g j n v bl (by rw[<-hV g];exact bq),l.good.one,fun bl ag=>l.good.otr bl (ag.imp id (fun⟨g,n,v,bq,a2⟩=>⟨g,n,v,by rw[<-hV g];exact bq,a2⟩))⟩,l.fr,l.defers,l.size,l.slot,l.new⟩
          have A:=nV.put (d:=some d) (by simpa[j6]using U) (p:= .row g.size k n0) (v:= .slice (some ⟨bx,0,none⟩) n0 o4) (by simp only[aV];exact⟨⟨_,_,rfl⟩,rxl,_,_,Y,dP _,fun _=>by rw[<-ud];exact nv⟩)
          simpa[kV,e7]using A
         ·have hyp:0<ys.length:=by cases ys<;>simp at hD⊢
          rcases cy4 with cy4|⟨S,oN,s,rfl,zP,V⟩
          ·exact absurd cy4 hD
          ·have ko:=rN V;have tw:∀j u,s[j]? =some u->w.cell? ((⟨S,oN,none⟩:Addr).add j)=some u:=fun j u L=>by rw[pL];exact(u4 zP L).2
           have ti:(xs.length+ys.length)*r.bytes<=140737488355328:=by
            have mD:r.bytes<=2048:=by rw[b4];exact hby
            have qA:(xs.length+ys.length)*r.bytes<=(xs.length+ys.length)*2048:=Nat.mul_le_mul_left _ mD;simp only[lim]at ax;omega
           have nT:xs.length+ys.length<=maxLen:=by simp only[lim]at ax;simp only[maxLen];omega
           have HE:dw w ν g.size (xs++ys) (H++s):=Fu mP V;rw[vy,nv]at nS;have Eb:(∃v' w',(Builtin.append_ #[t,t] type #[yz,.slice (some ⟨S,oN,none⟩) ys.length W]).run P w= .ok v' w'/\w'.ownsRow w.heap.size gJ r.size v' (xs.length+ys.length) (H++s)/\w.grownBy w' none)->
             (⟨some d,.call ⟨.builtin .append,⟨[o',X]⟩,⟨[t,t]⟩⟩,type,pos,after,guard⟩:Oper).wp P a w K Q:=by
            intro cL;obtain⟨v',w',f1,f2,f3⟩:=cL;obtain⟨c2,dD⟩:=l.newRowM (k:=k) (xs:=xs++ys) (el:=gJ) (sz:=g.size) (.inr ⟨_,ab,by simp;omega⟩) f3 (by rw[<-B];simpa using f2) HE (by simpa using ax) (n':=st.n) (o':=st.o)
             (fun j L=>⟨L,fun e=>by subst e;have:=(l.new _ L).2.1;rw[Y]at this;cases this⟩)
            refine nI (nS _ _ f1) (M _ _ (ν.withOwn k (xs++ys).length v') ?_);have:=c2.put (d:=some d) (by simpa[j6]using U) (dD (by simpa using ZR f2 Ω));simpa[e7]using this
           rcases bB.2 with⟨oO,Aa⟩|⟨bl,cap,cur,oO,Aa,Cx,Pn,Po,Pp,Jb⟩
           ·
            have sA:xs=[]:=List.eq_nil_of_length_eq_zero Ω;have Nu:H=[]:=List.eq_nil_of_length_eq_zero (by rw[xQ,sA];simp);subst sA;subst Nu;refine Eb ?_;obtain⟨v',w',f1,f2,f3,_⟩:=run_append_own (P:=P) w w.heap.size t type gJ r z r.size r.bytes jH ao dm rfl rfl xT (by rw[B];exact gj) (.slice none 0 0) 0 [] (World.ownsRow_nil w _ _ _)
             ⟨S,oN,none⟩ ys.length W s (by rw[ko,B]) tw (Af V) (by simpa using nT) (by simpa using ti) (dP _)
            exact⟨v',w',by rw[oO];exact f1,by simpa using f2,by simpa[pA]using f3⟩
           ·have mJ:yz.ownBlock=some bl:=by rw[oO];rfl
            by_cases tz:xs.length+ys.length<=cap
            ·have hmul:(xs.length+ys.length)*g.size<=cap*g.size:=r2 _ tz;rw[q7]at hmul;have f1:=run_append_room (P:=P) w t type gJ r jH ao bl xs.length cap cur Cx ⟨S,oN,none⟩ ys.length W s (by rw[ko,B]) tw (Af V) tz (by rw[ko,B];omega);generalize Xa:(cur.toList.take (xs.length*r.size)++s++cur.toList.drop (xs.length*r.size+s.length)).toArray=vf at f1;have jX:(w.setRow bl vf).heap[bl]? =some (.cells vf gJ (0,0)):=setRow_heap w bl cur vf gJ _ Cx;have av:(H++s).length=(xs++ys).length*g.size:=by rw[qi,xQ,ko,qi,q7]
             have bR:cur.toList.take (xs.length*r.size)=H:=by rw[kV,B];exact Jb
             have lq:vf.size=cap*g.size:=by rw[<-Xa];simp only[List.size_toArray,qi,List.length_take,uj,Array.length_toList];rw[B];omega
             have qF:vf.toList.take ((xs++ys).length*g.size)=H++s:=by rw[<-Xa,bR];simp only[<-av];rw[List.take_append_of_le_length (dP _),jz]
             obtain⟨c2,_,dD⟩:=l.setRowM (w':=w.setRow bl vf) ab rfl Y mJ (v':= .slice (some ⟨bl,0,none⟩) (xs.length+ys.length) cap) rfl (xs':=xs++ys) (us:=H++s) (.inr d6) rfl rfl rfl (fun j L=>setRow_other w bl j vf L) (setRow_size w bl vf)
              ⟨av,.inr ⟨bl,cap,vf,Ψ,Nat.zero_le _,jX,by simpa using tz,Po,lq,qF⟩⟩ HE
             replace dD:=dD (by simpa using ax);refine nI (v:= .slice (some ⟨bl,0,none⟩) (xs.length+ys.length) cap) (w':=w.setRow bl vf) (nS _ _ ?_) (M _ _ (ν.withOwn k (xs++ys).length (.slice (some ⟨bl,0,none⟩) (xs.length+ys.length) cap)) ?_)
             ·rw[oO,<-kV];exact f1
             ·have:=c2.put (d:=some d) (by simpa[j6]using U) dD;simpa[e7]using this
            ·refine Eb ?_;obtain⟨v',w',f1,f2,f3⟩:=run_append_arg_grows (P:=P) w t type gJ r z r.size r.bytes jH ao dm rfl rfl xT (by rw[B];exact gj) ⟨bl,0,none⟩ xs.length cap H (by rw[xQ,B])
              (fun j u L=>by have:=bB.cells mJ j u L;exact this) ⟨S,oN,none⟩ ys.length W s (by rw[ko,B]) tw Ω nT ti
             exact⟨v',w',by rw[oO,<-kV];exact f1,f2,f3⟩
        ·cases F
       ·cases F
      ·cases F
     ·cases F
    ·cases he
   ·cases bR
  ·cases E
 ·rename_i sz x y t o' X;simp only[cP,ey]at ar;obtain⟨⟨⟨J,U⟩,A⟩,E⟩:=ar;subst J;split at U
  ·rename_i f R;simp only[ey]at U;simp only[fl]at he;generalize Nd:cE st.t x=px at he;unfold sL at he;split at he
   ·rename_i ed k n i uI;split at he
    ·rename_i n' el j3 xs ab;split at he
     ·rename_i El;obtain⟨rfl,rfl⟩:=El;split at he
      ·rename_i q bK;cases he;obtain⟨js,Z,cq,di,h4⟩:=ax;have rx:=e5 l A;rw[Nd]at rx;have N:=e5 l E;have wN:=wQ N Z;have wR:=qU wN;obtain⟨_,en⟩:=wX aL R w;have wq:(a.eval X).cells.size=sz:=by rw[cq]at wR;simpa using wR
       obtain⟨bl,off,nO,En,dy,bn,pY⟩:=l.storeRow (P:=P) ab rx bK js wN (by simpa[wq]using di) (fun e=>by have:=fy List.length e;simp[wq]at this;omega);refine Kp (w':=w.setRow bl nO) ?_ (M _ _ _ pY);simp only[execOp,Instr.storeAt,En,Instr.sureAddr,storeVar,gx,hA,gC,en,wq,U,ne_eq,not_true_eq_false,if_false,dy]
      ·cases he
     ·cases he
    ·cases he
   ·cases he
  ·cases U
 ·rename_i d key sz el z x t o' X;simp only[cP,ey,gy]at ar;obtain⟨⟨⟨⟨⟨J,U⟩,A⟩,E⟩,bR⟩,dh⟩:=ar;subst J;split at A
  ·rename_i gJ R;simp only[ey]at A;subst A;split at E
   ·rename_i g be;simp only[cP,ey,gy]at E;obtain⟨⟨⟨rfl,gj⟩,hby⟩,bC⟩:=E;obtain rfl:=Q8 bC;have rx:=e5 l bR;have N:=e5 l dh;simp only[fl]at he;split at he
    ·rename_i gk n O;cases he;obtain⟨iC,ko⟩:=ax;obtain⟨m,rfl⟩:=Int.eq_ofNat_of_zero_le iC;rw[O]at rx N;simp only[aV]at rx N;obtain⟨r,cu,cd,ao,aC,B,b4,dN,dm,sY,sZ⟩:=(wY aL be).ex;obtain⟨ej,jH,gi⟩:=jl aL R;obtain rfl:=sX gi;have nT:m<=lim:=by simp only[lim]at ko⊢;omega
     have ti:r.bytes*m<=281474976710656:=by have J:r.bytes*m<=2048*m:=r2 _ Ω;simp only[lim]at nT;omega
     obtain⟨ak2,aj2⟩:=Q7 w ν sY;obtain⟨w',g1,g2,g3⟩:=run_make_full (P:=P) w w.heap.size t el r cd r.size jH ao dm rfl gk gk m ti (by simp only[maxLen];simp only[lim]at nT;omega) (dP _);have mH:w'.ownsRow w.heap.size el g.size (.slice (some ⟨w.heap.size,0,none⟩) m m) (List.replicate m g.zero).length (madeCells cd.cells (m*cd.cells.size)).toList:=by rw[B,<-sZ]at g2;rw[List.length_replicate,<-sZ];exact g2
     obtain⟨Y,eE⟩:=l.newRowM (k:=κ) (xs:=List.replicate m g.zero) (.inl (l.new _ (wb rfl))) g3 mH (by rw[<-sZ];exact Yw ak2 Ω (CK aj2) m) (by simpa using nT) (dB rfl);simp only[List.length_replicate]at Y eE;simp only[Int.toNat_natCast]at M;refine nI (v:= .slice (some ⟨w.heap.size,0,none⟩) m m) (w':=w') ?_ (M _ _ _ (Y.put (d:=some d) (by simpa[j6]using U) (p:= .row g.size κ m) (eE ⟨_,_,rfl⟩)));simp only[execOp];refine F3 ?_;rw[rx,N];exact g1
    ·cases he
   ·cases E
  ·cases A
 ·cases ar
def aqO{P:cH}{aT:List (Nat×ev)}(e:hX P aT=true){C:fp}{st st':bp}{a:Act}{w:World}{ν:bc}(f:c9 C st a w ν){i:eY}{o:Oper}(ar:FF C.N aT i o=true)
  {c:Prop} (he:nD st i=some (c,st')) (ax:c) {K:Act->World->Prop} {Q:Exit->Act->World->Prop} (b:∀br w' bn,c9 C st' br w' bn->K br w'):o.wp P a w K Q:=by
 have p:rC st none->fresh st.n st.o (.loc st.n):=fun h=>x7 (key:=none) h;have q:∀j,fresh (st.n+1) st.o j->fresh st.n st.o j/\j≠ .loc st.n:=x8 (key:=none);cases i with
 |v d i=>exact kv (κ:= .loc 0) (n':=0) (o₁:=[]) e f ar (fun h=>by simp[eY.makes]at h) (fun h=>by simp[eY.makes]at h) (by simpa only[nD,fl]using he) ax b
 |box d key x=>simp only[nD]at he;cases he;exact kv (κ:=kt st key) (n':=oL st key) (o₁:=oM st key) e f ar (fun _=>x7 ax.1) (fun _=>x8) (by simp only[fl]) ax.2 b
 |alloc d key z=>simp only[nD]at he;cases he;exact kv (κ:=kt st key) (n':=oL st key) (o₁:=oM st key) e f ar (fun _=>x7 ax) (fun _=>x8) (by simp only[fl]) trivial b
 |mks d key sz el z x=>
  simp only[nD]at he;split at he
  ·rename_i gk n g;cases he;exact kv (κ:=kt st key) (n':=oL st key) (o₁:=oM st key) e f ar (fun _=>x7 ax.1) (fun _=>x8) (by simp only[fl,g]) ax.2 b
  ·cases he
 |storeE sz x y=>exact kv (κ:= .loc 0) (n':=0) (o₁:=[]) e f ar (fun h=>by simp[eY.makes]at h) (fun h=>by simp[eY.makes]at h) (by simpa only[nD,fl]using he) ax b
 |store sz x y=>exact kv (κ:= .loc 0) (n':=0) (o₁:=[]) e f ar (fun h=>by simp[eY.makes]at h) (fun h=>by simp[eY.makes]at h) (by simpa only[nD,fl]using he) ax b
 |bsl d sz el xs=>simp only[nD]at he;cases he;exact kv (κ:= .loc st.n) (n':=st.n+1) (o₁:=st.o) e f ar (fun _=>p ax.1) (fun _=>q) (by simp only[fl]) ax.2 b
 |bslm d key sz el xs=>simp only[nD]at he;cases he;exact kv (κ:=kt st key) (n':=oL st key) (o₁:=oM st key) e f ar (fun _=>x7 ax.1) (fun _=>x8) (by simp only[fl]) ax.2 b
 |appm d key sz el x y=>
  simp only[nD]at he;split at he
  ·rename_i ys l;cases he;exact kv (κ:=kt st key) (n':=oL st key) (o₁:=oM st key) e f ar (fun _=>x7 ax.1) (fun _=>x8) (by simp only[fl,l]) ax.2 b
  ·rename_i k xs ys l;cases he;refine kv (κ:= .loc 0) (n':=0) (o₁:=[]) e f ar (fun h=>?_) (fun h=>?_) (by simp only[fl,l]) ax b;all_goals
    exfalso
    simp only[eY.makes]at h
    split at h
    ·rename_i g
     unfold uy at l
     rw[g]at l
     split at l
     ·split at l<;>cases l
     ·rename_i J _;cases J
     ·cases l
    ·cases h
  ·cases he
 |mkmap d key=>simp only[nD]at he;cases he;exact kv (κ:=kt st key) (n':=oL st key) (o₁:=oM st key) e f ar (fun _=>x7 ax) (fun _=>x8) (by simp only[fl]) trivial b
 |mput E x k v=>exact kv (κ:= .loc 0) (n':=0) (o₁:=[]) e f ar (fun h=>by simp[eY.makes]at h) (fun h=>by simp[eY.makes]at h) (by simpa only[nD,fl]using he) ax b
 |range d key x=>
  simp only[nD]at he;split at he
  ·rename_i m g;split at he
   ·rename_i cs t;split at he
    ·rename_i cs' hm;cases he;exact kv (κ:=kt st key) (n':=oL st key) (o₁:=oM st key) e f ar (fun _=>x7 ax) (fun _=>x8) (by simp only[fl,g,t,hm]) trivial b
    ·cases he
   ·cases he
  ·cases he
 |app d sz el x y=>
  simp only[nD]at he;split at he
  ·rename_i B tag xs A u ys g s;split at he
   ·rename_i r;split at he
    ·rename_i k;split at he
     ·rename_i ow ab;cases he;refine kv (κ:= .loc 0) (n':=0) (o₁:=[]) e f ar (fun h=>by simp[eY.makes,g]at h) (fun h=>by simp[eY.makes,g]at h) ?_ ax b;simp only[fl,g,s,r,and_self,if_true,ab]
     ·cases he
    ·cases he;refine kv (κ:= .loc st.n) (n':=st.n+1) (o₁:=st.o) e f ar (fun _=>p ax.1) (fun _=>q) ?_ ax.2 b;simp only[fl,g,s,r,and_self,if_true]
    ·cases he
   ·cases he
  ·cases he
structure cS where
 b:List (aB×List af)
 e:List (aB×dW)
def fC(ν:bc)(s:cS)(bl:Nat):Prop:=(∃k,(ae k s.b).isSome/\ν.bx k=some bl)\/(∃g n v,(ae g s.e).isSome/\ν.ow g=some (n,v)/\v.ownBlock=some bl)
def pQ(ν:bc)(s:cS):Prop:= ∀k,(ae k s.b=none->ν.bx k=none)/\(ae k s.e=none->ν.ow k=none)/\∀j b,¬ν.tr k j b
def cJ(s:cS):List aB:=s.b.map (·.1)++s.e.map (·.1)
def hW(s:cS):Prop:=(∀m,ae (.loc m) s.b=none)/\(∀m,ae (.loc m) s.e=none)
def yF(P:cH)(f:FuncId)(bm:Array Value)(w:World)(R:Ending->World->Prop):Prop:=((∃fn,P.funcs[f]? =some fn/\fn.body.isSome=true/\(fn.name== "runtime.NumGoroutine")=false)/\Calls P f bm w R)\/ ∃v w',(callFunc f bm).run P w= .ok (.value v) w'/\R (.returned v) w'
def bG(P:cH)(f:FuncId)(args:List af)(s:cS)(Q:af->cS->Prop):Prop:=
 ∀(w:World) (ν:bc) (bm:Array Value),Good (fC ν s) w ν s.b s.e->pQ ν s->c7 w ν args bm.toList->
  yF P f bm w fun e w'=> ∃v r a bn,e= .returned v/\Q r a/\aV w' bn r v/\Good (fun bl=>fC ν s bl\/w.heap.size<=bl) w' bn a.b a.e/\pQ bn a/\hW a/\pD ⟨w,ν,fC ν s,0,cJ s⟩ w' bn
def A9(κ:bd Nat)(ν:bc)(s:cS):Prop:= ∀k,(ae k s.b=none->ν.bx k=none)/\(ae k s.e=none->ν.ow k=none)/\∀j b,ν.tr k j b->∃m,κ=some m/\k= .loc m
def pQ.k{ν:bc}{s:cS}(h:pQ ν s):A9 none ν s:=fun k=>⟨(h k).1,(h k).2.1,fun j b a=>absurd a ((h k).2.2 j b)⟩
def uo(P:cH)(f:FuncId)(κ:Nat)(args:List af)(s:cS)(Q:af->cS->Prop):Prop:=
 ∀(w:World) (ν:bc) (bm:Array Value),Good (fC ν s) w ν s.b s.e->pQ ν s->c7 w ν args bm.toList->
  yF P f bm w fun e w'=> ∃v r a bn,e= .returned v/\Q r a/\aV w' bn r v/\Good (fun bl=>fC ν s bl\/w.heap.size<=bl) w' bn a.b a.e/\A9 (some κ) bn a/\hW a/\pD ⟨w,ν,fC ν s,0,cJ s⟩ w' bn
def bU(P:cH)(f:FuncId)(args:List af)(r:af):Prop:=bG P f args ⟨[],[]⟩ fun a b=>a=r/\b=⟨[],[]⟩
def u6{α:Type}{k:aB}{x:α}:∀{l:List (aB×α)},ae k l=some x->(k,x)∈l
 |[],h=>by simp[ae]at h
 |(i,y)::r,h=>by
  simp only[ae]at h;split at h
  ·rename_i e;subst e;cases h;simp
  ·exact q5 _ (u6 h)
def rJ{s:cS}{k:aB}(h:(ae k s.b).isSome\/(ae k s.e).isSome):k∈cJ s:=by
 unfold cJ;rcases h with h|h<;>obtain⟨x,a⟩:=fx.1 h<;>have:=u6 a
 ·exact List.mem_append_left _ (hb.2 ⟨_,this,rfl⟩)
 ·exact List.mem_append_right _ (hb.2 ⟨_,this,rfl⟩)
section
open Classical
noncomputable def bc.cut(ν:bc)(S:aB->Prop):bc:={A:=ν.A,bx:=fun k=>if S k then ν.bx k else none,ow:=fun k=>if S k then ν.ow k else none,tr:=fun k j b=>S k/\ν.tr k j b}
def bc.cut_bx{ν:bc}{S:aB->Prop}{k:aB}(h:S k):(ν.cut S).bx k=ν.bx k:=by simp[bc.cut,h]
def bc.cut_ow{ν:bc}{S:aB->Prop}{k:aB}(h:S k):(ν.cut S).ow k=ν.ow k:=by simp[bc.cut,h]
def bc.cut_no{ν:bc}{S:aB->Prop}{k:aB}(h:¬S k):(ν.cut S).bx k=none/\(ν.cut S).ow k=none/\∀j b,¬(ν.cut S).tr k j b:=by simp[bc.cut,h]
def bc.cut_some{ν:bc}{S:aB->Prop}{k:aB}{b:Nat}(h:(ν.cut S).bx k=some b):S k/\ν.bx k=some b:=by
 by_cases a:S k
 ·exact⟨a,by rw[bc.cut_bx a]at h;exact h⟩
 ·rw[(bc.cut_no a).1]at h;cases h
def bc.cut_someO{ν:bc}{S:aB->Prop}{k:aB}{b:Nat×Value}(h:(ν.cut S).ow k=some b):S k/\ν.ow k=some b:=by
 by_cases a:S k
 ·exact⟨a,by rw[bc.cut_ow a]at h;exact h⟩
 ·rw[(bc.cut_no a).2.1]at h;cases h
def oi.cut(S:aB->Prop)(w:World)(ν:bc):oi S w ν w (ν.cut S):=⟨fun _ _ h=>⟨h,rfl⟩,fun k b ab h=>by rw[bc.cut_bx ab];exact h,fun g n u be h=>⟨n,u,by rw[bc.cut_ow be];exact h,.inl ⟨rfl,rfl⟩⟩,fun _ _ _=>rfl,fun _ _ _ ab h=>⟨ab,h⟩⟩
end
def hz(S:aB->Prop)(b0 b:List (aB×List af)):Prop:= ∀k cs,ae k b0=some cs->ae k b=some cs/\S k/\aH S cs
def qd(S:aB->Prop)(a e:List (aB×dW)):Prop:= ∀k o,ae k a=some o->ae k e=some o/\S k/\dV S o
def Good.cut{pr E:Nat->Prop}{w:World}{ν:bc}{b b0:List (aB×List af)}{e l:List (aB×dW)}(h:Good pr w ν b e){S:aB->Prop}(A:hz S b0 b)(he:qd S l e)
  (B:∀bl,pr bl->(∃k,(ae k b0).isSome/\(ν.cut S).bx k=some bl)\/(∃g n v,(ae g l).isSome/\(ν.cut S).ow g=some (n,v)/\v.ownBlock=some bl)->E bl):Good E w (ν.cut S) b0 l:=by
 have i:∀k,(ae k b0).isSome->(ae k b).isSome/\S k:=fun k ab=>by obtain⟨cs,r⟩:=fx.1 ab;have:=A k cs r;exact⟨by simp[this.1],this.2.1⟩
 have p:∀k,(ae k l).isSome->(ae k e).isSome/\S k:=fun k ab=>by obtain⟨cs,r⟩:=fx.1 ab;have:=he k cs r;exact⟨by simp[this.1],this.2.1⟩
 refine⟨h.alt,fun k cs ab=>?_,fun k bt bl J U d f=>?_,fun g o be=>?_,fun g y n n' v v' bl J U d f s F=>?_,fun g k n v bl J U d f s=>?_,fun k=>?_,fun bl H k j G=>?_⟩
 ·obtain⟨g1,g2,g3⟩:=A k cs ab;obtain⟨bl,us,el,f1,f2,f3,f4,f5⟩:=h.box k cs g1;have x:(ν.cut S).bx k=some bl:=by rw[bc.cut_bx g2];exact f1
  exact⟨bl,us,el,x,B bl f2 (.inl ⟨k,by simp[ab],x⟩),f3,f4,PW (oi.cut S w ν) g3 f5⟩
 ·obtain⟨a,a2⟩:=i k J;obtain⟨c,z⟩:=i bt U;exact h.inj k bt bl a c (bc.cut_some d).2 (bc.cut_some f).2
 ·obtain⟨g1,g2,g3⟩:=he g o be;obtain⟨v,us,f1,f2,f3,f4⟩:=h.own g o g1;have u:(ν.cut S).ow g=some (o.n,v):=by rw[bc.cut_ow g2];exact f1
  exact⟨v,us,u,f2,fun bl q=>⟨B bl (f3 bl q).1 (.inr ⟨g,o.n,v,by simp[be],u,q⟩),(f3 bl q).2⟩,
   fun xs m=>⟨(f4 xs m).1,JB (oi.cut S w ν) _ _ _ (g3 xs m) (f4 xs m).2.1,(f4 xs m).2.2⟩⟩
 ·obtain⟨a,a2⟩:=p g J;obtain⟨c,z⟩:=p y U;exact h.oinj g y n n' v v' bl a c (bc.cut_someO d).2 (bc.cut_someO f).2 s F
 ·obtain⟨a,a2⟩:=p g J;obtain⟨c,z⟩:=i k U;exact h.obx g k n v bl a c (bc.cut_someO d).2 f (bc.cut_some s).2
 ·by_cases t:S k
  ·rw[bc.cut_bx t,bc.cut_ow t];exact h.one k
  ·exact .inl (bc.cut_no t).1
 ·refine h.otr bl ?_ k j G.2;rcases H with⟨bt,a,a2⟩|⟨g,n,v,a,a2,a3⟩
  ·exact .inl ⟨bt,(i bt a).1,(bc.cut_some a2).2⟩
  ·exact .inr ⟨g,n,v,(p g a).1,(bc.cut_someO a2).2,a3⟩
structure gn (ob:List aB) (st st':bp):Prop where
 t:∀x∈st'.t,get x.1 st.t=x.2/\az (fun k=> ¬fresh st'.n st'.o k) x.2
 b:hz (fun k=> ¬fresh st'.n st'.o k) st'.b st.b
 e:qd (fun k=> ¬fresh st'.n st'.o k) st'.e st.e
 o:∀m∈ob,m∈st'.o
def VZ:∀(i:Nat) (l:List (Nat×af)),get i l= .junk\/(i,get i l)∈l
 |_,[]=>.inl rfl
 |i,(j,p)::r=>by
  by_cases h:j=i
  ·subst h;right;simp[get]
  ·rcases VZ i r with J|J
   ·left;simp[get,h,J]
   ·right;simp[get,h];right;exact J
def c9.weaker{C:fp}{st st':bp}{a:Act}{w:World}{ν:bc}(h:c9 C st a w ν)(hw:gn C.ob st st'):c9 C st' a w (ν.cut fun k=> ¬fresh st'.n st'.o k):=by
 refine⟨h.good.cut hw.b hw.e (fun bl e _=>e),⟨h.fr.os,h.fr.tape,h.fr.output,h.fr.size,h.fr.block,h.fr.keep,h.fr.fresh,fun n b c=>?_,h.fr.obn,fun m n u hm=>?_,h.fr.obr,fun k j bt dg b J U=>h.fr.trd k j bt dg b J.2 U.2,fun k j b c=>h.fr.trb k j b c.2,fun k j b c=>?_,h.fr.sh⟩,h.defers,h.size,fun i=>?_,fun k ab=>bc.cut_no (fun g=>g ab)⟩
 ·rw[bc.cut_bx (fun d=>d.2 (hw.o _ (h.fr.obn n b c)))];exact h.fr.obj n b c
 ·rw[bc.cut_ow (fun d=>d.2 (hw.o _ (h.fr.obr m n u hm)))];exact h.fr.row m n u hm
 ·rw[bc.cut_bx c.1,bc.cut_ow c.1];exact h.fr.trn k j b c.2
 ·rcases VZ i st'.t with f|hm
  ·rw[f];simp[aV]
  ·obtain⟨J,U⟩:=hw.t _ hm;simp only at J;have:=h.slot i;rw[J]at this;exact vi (oi.cut _ w ν) _ _ U this
mutual
def b7:af->af
 | .slice sz _ xs=>.slice sz .no (cf xs)
 | .agg cs=>.agg (cf cs)
 | .tuple bm=>.tuple (cf bm)
 | .eptr x=>.eptr (b7 x)
 | .iface t x=>.iface t (b7 x)
 | .func f dI=>.func f (cf dI)
 |p=>p
def cf:List af->List af
 |[]=>[]
 |x::xs=>b7 x::cf xs
end
def nG:∀xs,(cf xs).length=xs.length
 |[]=>rfl
 |x::xs=>by simp[cf,nG xs]
mutual
def Hr{t:Bool}{w:World}{A:Nat->Nat->Prop}:∀(p:af) (F:Nat->Prop) (v:Value),c0 t w A F p v->c0 t w A F (b7 p) v
 | .int _ _,_,_,h=>by simpa only[b7]using h
 | .bool _,_,_,h=>by simpa only[b7]using h
 | .str _,_,_,h=>by simpa only[b7]using h
 | .slice sz tag xs,F,v,h=>by
  simp only[c0,b7]at h⊢;obtain⟨a,cap,J,U,g,j⟩:=h;refine⟨a,cap,by rw[nG];exact J,by rw[nG];exact U,by rw[nG];exact g,?_⟩;rcases j with rfl|⟨b,off,us,G,i,k,e,f,d,c⟩
  ·exact .inl rfl
  ·exact .inr ⟨b,off,us,G,i,k,e,f,d,VE sz xs G us c⟩
 | .agg cs,F,v,h=>by simp only[c0,b7]at h⊢;obtain⟨us,J,U⟩:=h;exact⟨us,J,VF cs F _ U⟩
 | .junk,_,_,h=>by simp[c0]at h
 | .ptr _ _,_,_,h=>by simp[c0]at h
 | .eptr _,_,_,h=>by simp[c0]at h
 | .iface _ _,_,_,h=>by simp[c0]at h
 | .nilp,_,_,h=>by simp[c0]at h
 | .tuple _,_,_,h=>by simp[c0]at h
 | .func _ _,_,_,h=>by simp[c0]at h
 | .gmap _,_,_,h=>by simp[c0]at h
 | .row _ _ _,_,_,h=>by simp[c0]at h
 | .rptr _ _ _ _ _,_,_,h=>by simp[c0]at h
 | .hdm _ _,_,_,h=>by simp[c0]at h
 | .hdi _ _ _,_,_,h=>by simp[c0]at h
 | .cst _,_,_,h=>by simp[c0]at h
def VF{t:Bool}{w:World}{A:Nat->Nat->Prop}:∀(cs:List af) (F:Nat->Prop) (us:List Value),kD t w A F cs us->kD t w A F (cf cs) us
 |[],_,_,h=>by simpa only[cf]using h
 |c::cs,F,us,h=>by simp only[kD,cf]at h⊢;obtain⟨u,d,b,a,J,U,⟨g,f⟩,e⟩:=h;exact⟨u,d,b,a,J,U,⟨Hr c b u g,f⟩,VF cs a d e⟩
def VE{t:Bool}{w:World}{A:Nat->Nat->Prop}(sz:Nat):∀(cs:List af) (F:Nat->Prop) (us:List Value),jW t w A F sz cs us->jW t w A F sz (cf cs) us
 |[],_,_,h=>by simpa only[cf]using h
 |c::cs,F,us,h=>by simp only[jW,cf]at h⊢;obtain⟨u,d,b,a,J,U,⟨g,f⟩,e⟩:=h;exact⟨u,d,b,a,J,U,⟨Hr c b u g,f⟩,VE sz cs a d e⟩
end
def DQ{t:Bool}{w:World}{A:Nat->Nat->Prop}{F:Nat->Prop}{sz:Nat}{tag:jE}(a:jE){xs:List af}(v:Value)(h:c0 t w A F (.slice sz tag xs) v):c0 t w A F (.slice sz a (cf xs)) v:=by have:=Hr _ F v h;simp only[b7,c0]at this⊢;exact this
mutual
def ym{w:World}{ν:bc}:∀(p:af) (v:Value),aV w ν p v->aV w ν (b7 p) v
 | .junk,_,h=>by simpa only[b7]using h
 | .int k n,_,h=>by simpa only[b7]using h
 | .bool b,_,h=>by simpa only[b7]using h
 | .str s,_,h=>by simpa only[b7]using h
 | .slice sz tag xs,v,h=>by
  simp only[aV,b7]at h⊢;obtain⟨⟨a,cap,J,U,c,d⟩,l,i⟩:=h;refine⟨⟨a,cap,by rw[nG];exact J,by rw[nG];exact U,by rw[nG];exact c,?_⟩,fun e=>(by cases e),fun g e=>(by cases e),fun _ _ e=>(by cases e),fun _ e=>(by cases e)⟩;rcases d with rfl|⟨b,off,us,d,i,j⟩
  ·exact .inl rfl
  ·exact .inr ⟨b,off,us,d,i,abg sz xs us j⟩
 | .agg cs,v,h=>by simp only[aV,b7]at h⊢;obtain⟨us,J,U⟩:=h;exact⟨us,J,abk cs _ U⟩
 | .ptr key off,v,h=>by simpa only[b7]using h
 | .iface t x,v,h=>by simp only[aV,b7]at h⊢;obtain⟨u,J,U⟩:=h;exact⟨u,J,ym x u U⟩
 | .eptr x,v,h=>by simp only[aV,b7]at h⊢;obtain⟨b,off,u,J,U,c⟩:=h;exact⟨b,off,u,J,ym x u U,c⟩
 | .nilp,_,h=>by simpa only[b7]using h
 | .tuple bm,v,h=>by simp only[aV,b7]at h⊢;obtain⟨us,J,U⟩:=h;exact⟨us,J,JG bm _ U⟩
 | .func f dI,v,h=>by simp only[aV,b7]at h⊢;obtain⟨us,J,U⟩:=h;exact⟨us,J,JG dI _ U⟩
 | .gmap key,v,h=>by simpa only[b7]using h
 | .row _ _ _,v,h=>by simpa only[b7]using h
 | .rptr _ _ _ _ _,v,h=>by simpa only[b7]using h
 | .cst _,v,h=>by simpa only[b7]using h
def abk{w:World}{ν:bc}:∀(cs:List af) (us:List Value),cY w ν cs us->cY w ν (cf cs) us
 |[],_,h=>by simpa only[cf]using h
 |c::cs,us,h=>by simp only[cY,cf]at h⊢;obtain⟨u,a,J,U,b⟩:=h;exact⟨u,a,J,⟨ym c u U.1,U.2⟩,abk cs a b⟩
def JG{w:World}{ν:bc}:∀(cs:List af) (us:List Value),c7 w ν cs us->c7 w ν (cf cs) us
 |[],_,h=>by simpa only[cf]using h
 |c::cs,us,h=>by simp only[c7,cf]at h⊢;obtain⟨u,a,J,U,b⟩:=h;exact⟨u,a,J,ym c u U,JG cs a b⟩
def abg{w:World}{ν:bc}(sz:Nat):∀(xs:List af) (us:List Value),dw w ν sz xs us->dw w ν sz (cf xs) us
 |[],_,h=>by simpa only[cf]using h
 |x::xs,us,h=>by simp only[dw,cf]at h⊢;obtain⟨u,a,J,⟨U,c,d⟩,b⟩:=h;exact⟨u,a,J,⟨ym x u U,c,d⟩,abg sz xs a b⟩
end
def aM(s:cS)(k:aB):Prop:=(ae k s.b).isSome=true\/(ae k s.e).isSome=true
def cK{α β:Type}(s:List (aB×β)):List (aB×α)->List (aB×α)
 |[]=>[]
 |(k,x)::r=>match ae k s with
  |some _=>cK s r
  |none=>(k,x)::cK s r
def tL{α β:Type}(s:List (aB×β))(k:aB):∀l:List (aB×α),ae k (cK s l)=if(ae k s).isSome then none else ae k l
 |[]=>by simp[cK,ae]
 |(i,x)::r=>by
  simp only[cK];by_cases e:i=k
  ·subst e;cases h:ae i s with
   |some y=>simp[tL s i r,h]
   |none=>simp[ae]
  ·cases h:ae i s with
   |some y=>simp[tL s k r,ae,e]
   |none=>simp[ae,e,tL s k r]
def n4{α:Type}(k:aB):∀l a:List (aB×α),ae k (l++a)=match ae k l with|some x=>some x|none=>ae k a
 |[],a=>by simp[ae]
 |(i,x)::r,a=>by
  by_cases e:i=k
  ·simp[ae,e]
  ·simp[ae,e,n4 k r a]
def after(st:bp)(s a:cS)(d:bd Nat)(r:af):bp:={t:=e7 d r st.t,b:=cK s.b st.b++a.b,e:=cK s.e st.e++a.e,n:=st.n,o:=st.o++cJ a}
section
open Classical
noncomputable def bc.join(ν bn:bc)(s a:cS):bc:={A:=bn.A,bx:=fun k=>if(ae k s.b).isSome\/(ae k a.b).isSome then bn.bx k else ν.bx k,ow:=fun k=>if(ae k s.e).isSome\/(ae k a.e).isSome then bn.ow k else ν.ow k,tr:=fun k j b=>ν.tr k j b\/bn.tr k j b}
end
def c9.callK{C:fp}{st:bp}{a:Act}{w w':World}{ν bn:bc}(h:c9 C st a w ν){s c:cS}(B:hz (aM s) s.b st.b)(he:qd (aM s) s.e st.e)(rr:hW s)
  (be:Good (fun bl=>fC (ν.cut (aM s)) s bl\/w.heap.size<=bl) w' bn c.b c.e) {κ:bd Nat} (X:A9 κ bn c) (alr:∀m,κ=some m->ν.bx (.loc m)=none/\ν.ow (.loc m)=none/\∀j b,¬ν.tr (.loc m) j b) {n':Nat} {o':List aB} (dB:∀k,fresh n' o' k->fresh st.n (st.o++cJ c) k/\∀m,κ=some m->k≠ .loc m) (P:hW c) (E:pD ⟨w,ν.cut (aM s),fC (ν.cut (aM s)) s,0,cJ s⟩ w' bn)
  (M5:∀m,(ae (.obj m) c.b).isSome->(ae (.obj m) s.b).isSome\/ .obj m∉st.o) (cv:∀m,(ae (.obj m) c.e).isSome->(ae (.obj m) s.e).isSome\/ .obj m∉st.o) (d:bd Nat) (aK:j6 C.N d=true) {r:af} {v:Value} (aJ:aV w' bn r v):
  c9 C {after st s c d r with n:=n',o:=o'} (a.put d v) w' (ν.join bn s c):=by
 have S:∀k,(ae k s.b).isSome->(ae k st.b).isSome:=fun k ab=>by obtain⟨cs,q⟩:=fx.1 ab;simp[(B k cs q).1]
 have V:∀k,(ae k s.e).isSome->(ae k st.e).isSome:=fun k ab=>by obtain⟨cs,q⟩:=fx.1 ab;simp[(he k cs q).1]
 have akM:∀k,(ae k c.b).isSome->¬(ae k s.b).isSome->ν.bx k=none:=fun k ab aA=>by
  cases k with
  |loc m=>rw[P.1 m]at ab;cases ab
  |obj m=>exact(h.new (.obj m) ⟨trivial,(M5 m ab).resolve_left aA⟩).1
 have akN:∀k,(ae k c.e).isSome->¬(ae k s.e).isSome->ν.ow k=none:=fun k ab aA=>by
  cases k with
  |loc m=>rw[P.2 m]at ab;cases ab
  |obj m=>exact(h.new (.obj m) ⟨trivial,(cv m ab).resolve_left aA⟩).2.1
 have alW:∀k,(ae k s.b).isSome->(ν.join bn s c).bx k=bn.bx k:=fun k ab=>by simp[bc.join,ab]
 have Xw:∀k,(ae k c.b).isSome->(ν.join bn s c).bx k=bn.bx k:=fun k ab=>by simp[bc.join,ab]
 have Xx:∀k,ν.bx k≠none->¬(ae k s.b).isSome->(ν.join bn s c).bx k=ν.bx k:=fun k J U=>by have y:¬(ae k c.b).isSome:=fun y=>J (akM k y U);simp[bc.join,U,y]
 have alX:∀k,(ae k s.e).isSome->(ν.join bn s c).ow k=bn.ow k:=fun k ab=>by simp[bc.join,ab]
 have NS:∀k,(ae k c.e).isSome->(ν.join bn s c).ow k=bn.ow k:=fun k ab=>by simp[bc.join,ab]
 have NT:∀k,ν.ow k≠none->¬(ae k s.e).isSome->(ν.join bn s c).ow k=ν.ow k:=fun k J U=>by have y:¬(ae k c.e).isSome:=fun y=>J (akN k y U);simp[bc.join,U,y]
 have adi:∀k b,bn.bx k=some b->(ae k c.b).isSome:=fun k b ab=>by
  cases R:ae k c.b with
  |some _=>rfl
  |none=>rw[(X k).1 R]at ab;cases ab
 have adj:∀k b,bn.ow k=some b->(ae k c.e).isSome:=fun k b ab=>by
  cases R:ae k c.e with
  |some _=>rfl
  |none=>rw[(X k).2.1 R]at ab;cases ab
 have ar:mv w ν w' (ν.join bn s c):=by
  refine⟨fun b o M=>E.keep b o M,fun k b _ ab=>?_,fun g n u _ be=>?_,fun b o M=>E.sh b o M,fun _ _ _ _ h=>.inl h⟩
  ·by_cases A:(ae k s.b).isSome
   ·rw[alW k A];cases k with
    |loc m=>rw[rr.1 m]at A;cases A
    |obj m=>exact E.obj m b (by rw[bc.cut_bx (.inl A)];exact ab)
   ·rw[Xx k (by rw[ab];simp) A];exact ab
  ·by_cases A:(ae g s.e).isSome
   ·rw[alX g A];cases g with
    |loc m=>rw[rr.2 m]at A;cases A
    |obj m=>exact E.row m n u (by rw[bc.cut_ow (.inr A)];exact be)
   ·rw[NT g (by rw[be];simp) A];exact⟨n,u,be,.inl ⟨rfl,rfl⟩⟩
 have h6:mv w' bn w' (ν.join bn s c):=⟨fun b o M=>⟨M,rfl⟩,fun k b _ ab=>by rw[Xw k (adi k b ab)];exact ab,fun g n u _ ab=>⟨n,u,by rw[NS g (adj g _ ab)];exact ab,.inl ⟨rfl,rfl⟩⟩,fun _ _ _=>rfl,fun _ _ _ _ h=>.inr h⟩
 have pU:∀bl,fC (ν.cut (aM s)) s bl->C.pr bl/\bl<w.heap.size:=by
  intro bl F;rcases F with⟨k,J,U⟩|⟨g,n,u,J,U,y⟩
  ·have z:=(bc.cut_some U).2;obtain⟨cs,q⟩:=fx.1 (S k J);obtain⟨K,us,el,g1,g2,_⟩:=h.good.box k cs q;rw[z]at g1;cases g1;exact⟨g2,h.good.boxLt q z⟩
  ·have z:=(bc.cut_someO U).2;obtain⟨o,HS⟩:=fx.1 (V g J);obtain⟨v',us,g1,g2,g3,_⟩:=h.good.own g o HS;rw[z]at g1;cases g1;exact⟨(g3 bl y).1,h.good.ownLt HS z y⟩
 have WZ:∀bl,fC (ν.cut (aM s)) s bl\/w.heap.size<=bl->C.pr bl:=fun bl F=>by
  rcases F with F|F
  ·exact(pU bl F).1
  ·exact .inr (kC h.fr.size F)
 have ak8:∀k cs bl,ae k st.b=some cs->¬(ae k s.b).isSome->ν.bx k=some bl->¬fC (ν.cut (aM s)) s bl:=by
  intro k cs bl J U y z;rcases z with⟨bt,i,a2⟩|⟨g,n,u,i,a2,a3⟩
  ·have:=h.good.inj k bt bl (by simp[J]) (S bt i) y (bc.cut_some a2).2;subst this;exact U i
  ·exact h.good.obx g k n u bl (V g i) (by simp[J]) (bc.cut_someO a2).2 a3 y
 have ak9:∀g o n u bl,ae g st.e=some o->¬(ae g s.e).isSome->ν.ow g=some (n,u)->u.ownBlock=some bl->¬fC (ν.cut (aM s)) s bl:=by
  intro g o n u bl J U y z G;rcases G with⟨bt,i,a2⟩|⟨W,n',Z,i,a2,a3⟩
  ·exact h.good.obx g bt n u bl (by simp[J]) (S bt i) y z (bc.cut_some a2).2
  ·have:=h.good.oinj g W n n' u Z bl (by simp[J]) (V W i) y (bc.cut_someO a2).2 z a3;subst this;exact U i
 have TZ:∀k cs,ae k (cK s.b st.b++c.b)=some cs->(¬(ae k s.b).isSome/\ae k st.b=some cs)\/ae k c.b=some cs:=by
  intro k cs ab;rw[n4,tL]at ab;by_cases A:(ae k s.b).isSome
  ·simp only[A,if_true]at ab;exact .inr ab
  ·simp only[A]at ab;cases R:ae k st.b with
   |some x=>simp[R]at ab;subst ab;exact .inl ⟨A,rfl⟩
   |none=>simp[R]at ab;exact .inr ab
 have T0:∀k cs,ae k (cK s.e st.e++c.e)=some cs->(¬(ae k s.e).isSome/\ae k st.e=some cs)\/ae k c.e=some cs:=by
  intro k cs ab;rw[n4,tL]at ab;by_cases A:(ae k s.e).isSome
  ·simp only[A,if_true]at ab;exact .inr ab
  ·simp only[A]at ab;cases R:ae k st.e with
   |some x=>simp[R]at ab;subst ab;exact .inl ⟨A,rfl⟩
   |none=>simp[R]at ab;exact .inr ab
 have CQ:∀bl,fC (ν.cut (aM s)) s bl\/w.heap.size<=bl->∀K,K<w.heap.size->¬fC (ν.cut (aM s)) s K->bl≠K:=by
  intro bl J K U y e;subst e;rcases J with J|J
  ·exact y J
  ·omega
 have NW:∀bl,bl<w.heap.size->¬fC (ν.cut (aM s)) s bl->w'.heap[bl]? =w.heap[bl]?:=fun bl J U=>E.block bl J U;have isB:∀k bl,(ae k (cK s.b st.b++c.b)).isSome->(ν.join bn s c).bx k=some bl->(¬(ae k s.b).isSome/\(ae k st.b).isSome/\ν.bx k=some bl)\/((ae k c.b).isSome/\bn.bx k=some bl):=by
  intro k bl ab L;obtain⟨cs,q⟩:=fx.1 ab;rcases TZ k cs q with⟨J,U⟩|J
  ·obtain⟨K,us,el,g1,_⟩:=h.good.box k cs U;rw[Xx k (by rw[g1];simp) J]at L;exact .inl ⟨J,by simp[U],L⟩
  ·rw[Xw k (by simp[J])]at L;exact .inr ⟨by simp[J],L⟩
 have Ic:∀k x,(ae k (cK s.e st.e++c.e)).isSome->(ν.join bn s c).ow k=some x->(¬(ae k s.e).isSome/\(ae k st.e).isSome/\ν.ow k=some x)\/((ae k c.e).isSome/\bn.ow k=some x):=by
  intro k x ab L;obtain⟨cs,q⟩:=fx.1 ab;rcases T0 k cs q with⟨J,U⟩|J
  ·obtain⟨v',us,g1,_⟩:=h.good.own k cs U;rw[NT k (by rw[g1];simp) J]at L;exact .inl ⟨J,by simp[U],L⟩
  ·rw[NS k (by simp[J])]at L;exact .inr ⟨by simp[J],L⟩
 have Dp:∀k bl,¬(ae k s.b).isSome->(ae k st.b).isSome->ν.bx k=some bl->bl<w.heap.size/\¬fC (ν.cut (aM s)) s bl:=by intro k bl J U y;obtain⟨cs,q⟩:=fx.1 U;exact⟨h.good.boxLt q y,ak8 k cs bl q J y⟩
 have Y:∀k n u bl,¬(ae k s.e).isSome->(ae k st.e).isSome->ν.ow k=some (n,u)->u.ownBlock=some bl->bl<w.heap.size/\¬fC (ν.cut (aM s)) s bl:=by intro k n u bl J U y z;obtain⟨cs,q⟩:=fx.1 U;exact⟨h.good.ownLt q y z,ak9 k cs n u bl q J y z⟩
 have Gx:∀k bl,(ae k c.b).isSome->bn.bx k=some bl->fC (ν.cut (aM s)) s bl\/w.heap.size<=bl:=by intro k bl J U;obtain⟨cs,q⟩:=fx.1 J;obtain⟨K,us,el,g1,g2,_⟩:=be.box k cs q;rw[U]at g1;cases g1;exact g2
 have JL:∀k n u bl,(ae k c.e).isSome->bn.ow k=some (n,u)->u.ownBlock=some bl->fC (ν.cut (aM s)) s bl\/w.heap.size<=bl:=by intro k n u bl J U y;obtain⟨cs,q⟩:=fx.1 J;obtain⟨v',us,g1,g2,g3,_⟩:=be.own k cs q;rw[U]at g1;cases g1;exact(g3 bl y).1
 have M:∀bl o,bn.A bl o->bl<w.heap.size->¬fC (ν.cut (aM s)) s bl->ν.A bl o:=by
  intro bl o J U y;rcases E.fresh bl o J with z|z|z
  ·exact z
  ·exact absurd z y
  ·simp only at z;omega
 have pY:c9 C {t:=st.t,b:=cK s.b st.b++c.b,e:=cK s.e st.e++c.e,n:=n',o:=o'} a w' (ν.join bn s c):=by
  refine h.over ar rfl ⟨be.alt,fun k cs ab=>?_,fun k bt bl J U y z=>?_,fun g o fv=>?_,fun g W n n' u Z bl J U y z G dh=>?_,fun g k n u bl J U y z G=>?_,fun k=>?_,fun bl aL k j hL=>?_⟩
   ⟨E.os.trans h.fr.os,E.tape.trans h.fr.tape,E.output.trans h.fr.output,kC h.fr.size E.size,fun k ab hm=>?_,fun b o Q=>?_,fun b o Q=>?_,fun n b aA=>ar.bx _ _ trivial (h.fr.obj n b aA),h.fr.obn,
    fun m n u hm=>FB (h.fr.row m n u hm) (fun n u=>ar.ow _ n u trivial),h.fr.obr,fun k j bt dg b J U=>?_,fun k j b B=>?_,fun k j b B=>?_,fun b o M=>(ar.sh b o (h.fr.keep b o M).1).trans (h.fr.sh b o M)⟩ (fun k ab=>?_)
  ·rcases TZ k cs ab with⟨J,U⟩|J
   ·obtain⟨bl,us,el,g1,g2,g3,g4,g5⟩:=h.good.box k cs U;obtain⟨l,p⟩:=Dp k bl J (by simp[U]) g1;exact⟨bl,us,el,ar.bx _ _ trivial g1,g2,fun o Q=>g3 o (M bl o Q l p),by rw[NW bl l p];exact g4,rM ar g5⟩
   ·obtain⟨bl,us,el,g1,g2,g3,g4,g5⟩:=be.box k cs J;exact⟨bl,us,el,h6.bx _ _ trivial g1,WZ bl g2,g3,g4,rM h6 g5⟩
  ·rcases isB k bl J y with⟨i,a2,a3⟩|⟨i,a2⟩<;>rcases isB bt bl U z with⟨l,p,H⟩|⟨l,p⟩
   ·exact h.good.inj k bt bl a2 p a3 H
   ·obtain⟨O,N⟩:=Dp k bl i a2 a3;exact absurd rfl (CQ bl (Gx bt bl l p) bl O N)
   ·obtain⟨O,N⟩:=Dp bt bl l p H;exact absurd rfl (CQ bl (Gx k bl i a2) bl O N)
   ·exact be.inj k bt bl i l a2 p
  ·rcases T0 g o fv with⟨J,U⟩|J
   ·obtain⟨u,us,g1,g2,g3,g4⟩:=h.good.own g o U;refine⟨u,us,by rw[NT g (by rw[g1];simp) J];exact g1,⟨g2.1,?_⟩,fun bl F=>?_,tZ ar (fun bl F j Q=>?_) g4⟩
    ·rcases g2.2 with aC|⟨bb,cap,cur,f1,f2,f3,f4⟩
     ·exact .inl aC
     ·obtain⟨l,p⟩:=Y g _ u bb J (by simp[U]) g1 (by rw[f1];rfl);exact .inr ⟨bb,cap,cur,f1,f2,by rw[NW bb l p];exact f3,f4⟩
    ·obtain⟨l,p⟩:=Y g _ u bl J (by simp[U]) g1 F;exact⟨(g3 bl F).1,fun j Q=>(g3 bl F).2 j (M bl j Q l p)⟩
    ·obtain⟨l,p⟩:=Y g _ u bl J (by simp[U]) g1 F;exact M bl j Q l p
   ·obtain⟨u,us,g1,g2,g3,g4⟩:=be.own g o J;exact⟨u,us,by rw[NS g (by simp[J])];exact g1,g2,fun bl F=>⟨WZ bl (g3 bl F).1,(g3 bl F).2⟩,tZ h6 (fun _ _ _ h=>h) g4⟩
  ·rcases Ic g _ J y with⟨i,a2,a3⟩|⟨i,a2⟩<;>rcases Ic W _ U z with⟨l,p,H⟩|⟨l,p⟩
   ·exact h.good.oinj g W n n' u Z bl a2 p a3 H G dh
   ·obtain⟨O,N⟩:=Y g n u bl i a2 a3 G;exact absurd rfl (CQ bl (JL W n' Z bl l p dh) bl O N)
   ·obtain⟨O,N⟩:=Y W n' Z bl l p H dh;exact absurd rfl (CQ bl (JL g n u bl i a2 G) bl O N)
   ·exact be.oinj g W n n' u Z bl i l a2 p G dh
  ·rcases Ic g _ J y with⟨i,a2,a3⟩|⟨i,a2⟩<;>rcases isB k bl U G with⟨l,p,H⟩|⟨l,p⟩
   ·exact h.good.obx g k n u bl a2 p a3 z H
   ·obtain⟨O,N⟩:=Y g n u bl i a2 a3 z;exact absurd rfl (CQ bl (Gx k bl l p) bl O N)
   ·obtain⟨O,N⟩:=Dp k bl l p H;exact absurd rfl (CQ bl (JL g n u bl i a2 z) bl O N)
   ·exact be.obx g k n u bl i l a2 z p
  ·
   cases L:(ν.join bn s c).bx k with
   |none=>exact .inl rfl
   |some bl=>
    right;cases su:(ν.join bn s c).ow k with
    |none=>rfl
    |some x=>
     exfalso;have ao:(ν.bx k=some bl/\¬(ae k s.b).isSome/\¬(ae k c.b).isSome)\/bn.bx k=some bl:=by
      by_cases A:(ae k s.b).isSome\/(ae k c.b).isSome
      ·right;simpa[bc.join,A]using L
      ·left;simp only[not_or]at A;exact⟨by simpa[bc.join,A.1,A.2]using L,A.1,A.2⟩
     have aC:(ν.ow k=some x/\¬(ae k s.e).isSome/\¬(ae k c.e).isSome)\/bn.ow k=some x:=by
      by_cases A:(ae k s.e).isSome\/(ae k c.e).isSome
      ·right;simpa[bc.join,A]using su
      ·left;simp only[not_or]at A;exact⟨by simpa[bc.join,A.1,A.2]using su,A.1,A.2⟩
     rcases ao with⟨i,a2,a3⟩|i<;>rcases aC with⟨l,p,H⟩|l
     ·rcases h.good.one k with f|f
      ·rw[f]at i;cases i
      ·rw[f]at l;cases l
     ·have wg:=adj k x l;have ga:(ae k s.e).isSome:=by
       cases k with
       |loc m=>rw[P.2 m]at wg;cases wg
       |obj m=>
        rcases cv m wg with f|f
        ·exact f
        ·rw[(h.new (.obj m) ⟨trivial,f⟩).1]at i;cases i
      obtain⟨o,HS⟩:=fx.1 (V k ga);obtain⟨v',us,g1,_⟩:=h.good.own k o HS;rcases h.good.one k with f|f
      ·rw[f]at i;cases i
      ·rw[f]at g1;cases g1
     ·have zq:=adi k bl i;have ga:(ae k s.b).isSome:=by
       cases k with
       |loc m=>rw[P.1 m]at zq;cases zq
       |obj m=>
        rcases M5 m zq with f|f
        ·exact f
        ·rw[(h.new (.obj m) ⟨trivial,f⟩).2.1]at l;cases l
      obtain⟨cs,q⟩:=fx.1 (S k ga);obtain⟨K,us,el,g1,_⟩:=h.good.box k cs q;rcases h.good.one k with f|f
      ·rw[f]at g1;cases g1
      ·rw[f]at l;cases l
     ·rcases be.one k with f|f
      ·rw[f]at i;cases i
      ·rw[f]at l;cases l
  ·have WN:∀k j,bn.tr k j bl->w.heap.size<=bl:=fun k j f=>by
    rcases(E.trb k j bl f).1 with a2|a2
    ·obtain⟨m,_,hm⟩:=(X k).2.2 j bl f;rw[hm]at a2;cases a2
    ·exact a2
   have hold:fC (ν.cut (aM s)) s bl->¬ν.tr k j bl:=by
    rintro(⟨bt,i,a2⟩|⟨g,n,u,i,a2,a3⟩) f
    ·exact h.good.otr bl (.inl ⟨bt,S bt i,(bc.cut_some a2).2⟩) k j f
    ·exact h.good.otr bl (.inr ⟨g,n,u,V g i,(bc.cut_someO a2).2,a3⟩) k j f
   have jX:fC (ν.cut (aM s)) s bl\/w.heap.size<=bl->¬ν.tr k j bl:=by
    rintro(J|J) f
    ·exact hold J f
    ·have:=(h.fr.trb k j bl f).2;omega
   rcases aL with⟨bt,i,a2⟩|⟨g,n,u,i,a2,a3⟩
   ·rcases isB bt bl i a2 with⟨l,p,H⟩|⟨l,p⟩
    ·rcases hL with hL|hL
     ·exact h.good.otr bl (.inl ⟨bt,p,H⟩) k j hL
     ·have:=(Dp bt bl l p H).1;have:=WN k j hL;omega
    ·rcases hL with hL|hL
     ·exact jX (Gx bt bl l p) hL
     ·exact be.otr bl (.inl ⟨bt,l,p⟩) k j hL
   ·rcases Ic g _ i a2 with⟨l,p,H⟩|⟨l,p⟩
    ·rcases hL with hL|hL
     ·exact h.good.otr bl (.inr ⟨g,n,u,p,H,a3⟩) k j hL
     ·have:=(Y g n u bl l p H a3).1;have:=WN k j hL;omega
    ·rcases hL with hL|hL
     ·exact jX (JL g n u bl l p a3) hL
     ·exact be.otr bl (.inr ⟨g,n,u,l,p,a3⟩) k j hL
  ·have bO:k<w.heap.size:=Nat.lt_of_lt_of_le ab h.fr.size;rw[NW k bO fun F=>by
    rcases(pU k F).1 with J|J
    ·exact hm J
    ·omega]
   exact h.fr.block k ab hm
  ·obtain⟨a8,bN⟩:=h.fr.keep b o Q;obtain⟨cn,eC⟩:=E.keep b o a8;exact⟨cn,eC.trans bN⟩
  ·rcases E.fresh b o Q with z|z|z
   ·exact h.fr.fresh b o z
   ·exact .inr (pU b z).1
   ·exact .inr (.inr (kC h.fr.size z))
  ·rcases J with J|J<;>rcases U with U|U
   ·exact h.fr.trd k j bt dg b J U
   ·have i:=(h.fr.trb k j b J).2;have a2:=(E.trb bt dg b U).1;rcases a2 with a2|a2
    ·obtain⟨m,_,hm⟩:=(X bt).2.2 dg b U;rw[hm]at a2;cases a2
    ·simp only at a2;omega
   ·have i:=(h.fr.trb bt dg b U).2;have a2:=(E.trb k j b J).1;rcases a2 with a2|a2
    ·obtain⟨m,_,hm⟩:=(X k).2.2 j b J;rw[hm]at a2;cases a2
    ·simp only at a2;omega
   ·exact E.trd k j bt dg b J U
  ·rcases B with B|B
   ·exact⟨(h.fr.trb k j b B).1,Nat.lt_of_lt_of_le (h.fr.trb k j b B).2 E.size⟩
   ·refine⟨.inr ?_,(E.trb k j b B).2⟩;rcases(E.trb k j b B).1 with a2|a2
    ·obtain⟨m,_,hm⟩:=(X k).2.2 j b B;rw[hm]at a2;cases a2
    ·exact kC h.fr.size a2
  ·have key:ν.bx k=none/\ν.ow k=none/\¬(ae k c.b).isSome/\¬(ae k c.e).isSome:=by
    rcases B with B|B
    ·obtain⟨t1,t2⟩:=h.fr.trn k j b B;refine⟨t1,t2,fun f=>?_,fun f=>?_⟩
     ·cases k with
      |loc m=>rw[P.1 m]at f;cases f
      |obj m=>
       rcases M5 m f with G|G
       ·obtain⟨cs,q⟩:=fx.1 (S _ G);obtain⟨K,us,el,g1,_⟩:=h.good.box _ cs q;rw[t1]at g1;cases g1
       ·exact(h.new (.obj m) ⟨trivial,G⟩).2.2 j b B
     ·cases k with
      |loc m=>rw[P.2 m]at f;cases f
      |obj m=>
       rcases cv m f with G|G
       ·obtain⟨cs,q⟩:=fx.1 (V _ G);obtain⟨K,us,g1,_⟩:=h.good.own _ cs q;rw[t2]at g1;cases g1
       ·exact(h.new (.obj m) ⟨trivial,G⟩).2.2 j b B
    ·obtain⟨m,hm,rfl⟩:=(X k).2.2 j b B;obtain⟨t1,t2,_⟩:=alr m hm;exact⟨t1,t2,by simp[P.1 m],by simp[P.2 m]⟩
   obtain⟨t1,t2,t3,t4⟩:=key;have t5:¬(ae k s.b).isSome:=fun f=>by obtain⟨cs,q⟩:=fx.1 (S _ f);obtain⟨K,us,el,g1,_⟩:=h.good.box _ cs q;rw[t1]at g1;cases g1
   have t6:¬(ae k s.e).isSome:=fun f=>by obtain⟨cs,q⟩:=fx.1 (V _ f);obtain⟨K,us,g1,_⟩:=h.good.own _ cs q;rw[t2]at g1;cases g1
   exact⟨by simp[bc.join,t3,t5,t1],by simp[bc.join,t4,t6,t2]⟩
  ·
   simp only at ab;obtain⟨ab,aks⟩:=dB k ab;have WT:(∀j b,¬ν.tr k j b)->∀j b,¬(ν.join bn s c).tr k j b:=fun J j b B=>by
    rcases B with B|B
    ·exact J j b B
    ·obtain⟨m,hm,e⟩:=(X k).2.2 j b B;exact aks m hm e
   cases k with
   |loc m=>obtain⟨gq,fk,hN⟩:=h.new (.loc m) (Ml (dP _) (fun _ h=>List.mem_append_left _ h) ab);exact⟨by simp[bc.join,rr.1 m,P.1 m,gq],by simp[bc.join,rr.2 m,P.2 m,fk],WT hN⟩
   |obj m=>
    simp only[fresh,kc,not_or,true_and]at ab;obtain⟨gq,fk,hN⟩:=h.new (.obj m) ⟨trivial,ab.1⟩;have a7:¬(ae (.obj m) c.b).isSome:=fun f=>ab.2 (rJ (.inl f));have bB:¬(ae (.obj m) c.e).isSome:=fun f=>ab.2 (rJ (.inr f));have bX:¬(ae (.obj m) s.b).isSome:=fun f=>by obtain⟨cs,q⟩:=fx.1 (S _ f);obtain⟨K,us,el,g1,_⟩:=h.good.box _ cs q;rw[gq]at g1;cases g1
    have dq:¬(ae (.obj m) s.e).isSome:=fun f=>by obtain⟨cs,q⟩:=fx.1 (V _ f);obtain⟨v',us,g1,_⟩:=h.good.own _ cs q;rw[fk]at g1;cases g1
    exact⟨by simp[bc.join,a7,bX,gq],by simp[bc.join,bB,dq,fk],WT hN⟩
 exact pY.put aK (Aj h6 aJ)
inductive eU where
 |s (i:eY)
 |call (d:bd Nat) (f:dQ) (xs:List dQ)
 |next (d:Nat) (x:dQ)
structure du where
 g:bd (Nat×Bool)
 i:eU
def eY.dst:eY->bd Nat
 | .v d _| .box d _ _| .alloc d _ _| .bsl d _ _ _| .app d _ _ _ _| .bslm d _ _ _ _| .appm d _ _ _ _ _| .mkmap d _| .range d _ _| .mks d _ _ _ _ _=>some d
 | .store _ _ _| .mput _ _ _ _| .storeE _ _ _=>none
def eU.dst:eU->bd Nat
 | .s i=>i.dst
 | .call d _ _=>d
 | .next d _=>some d
def CallDo(P:cH)(n:Nat)(args:List af)(st:bp)(d:bd Nat)(K:bp->Prop):Prop:=
 (∃s Q,hz (aM s) s.b st.b/\qd (aM s) s.e st.e/\hW s/\aH (aM s) args/\bG P n args s Q/\
  ∀r a,Q r a->((∀m,(ae (.obj m) a.b).isSome->(ae (.obj m) s.b).isSome\/ .obj m∉st.o)/\(∀m,(ae (.obj m) a.e).isSome->(ae (.obj m) s.e).isSome\/ .obj m∉st.o))/\K (after st s a d r))\/
 (∃s Q,hz (aM s) s.b st.b/\qd (aM s) s.e st.e/\hW s/\aH (aM s) args/\ .loc st.n∉st.o/\uo P n st.n args s Q/\
  ∀r a,Q r a->((∀m,(ae (.obj m) a.b).isSome->(ae (.obj m) s.b).isSome\/ .obj m∉st.o)/\(∀m,(ae (.obj m) a.e).isSome->(ae (.obj m) s.e).isSome\/ .obj m∉st.o))/\K {after st s a d r with n:=st.n+1})
def OK(st:bp)(d:Nat)(gk mk:aB)(since:Nat)(seen:List Nat)(last clock:Nat)(borns:List Nat)(kvs:List af)(K:bp->Prop):Prop:=
 (since=clock/\last=clock)/\((∀b∈borns,b∈seen)->K {st with t:=put d (.tuple [.bool false]) st.t})/\
 (∀b k v,n5 b borns kvs=some (.tuple [k,v])->b∉seen->K {st with t:=put d (.tuple [.bool true,k,v]) st.t,b:=cI gk [.hdi since (seen++[b]) last,.gmap mk] st.b})
def uH(st:bp)(d:Nat)(v:af)(K:bp->Prop):Prop:=
 match v with
 | .ptr gk 0=>match ae gk st.b with
  |some [.hdi since seen last,.gmap mk]=>match ae mk st.b with
   |some (.hdm clock borns::kvs)=>OK st d gk mk since seen last clock borns kvs K
   |_=>er
  |_=>er
 |_=>er
def vR(P:cH)(st:bp)(K:bp->Prop):eU->Prop
 | .next d x=>uH st d (cE st.t x) K
 | .s i=>match nD st i with
  |some (c,st')=>c/\K st'
  |none=>er
 | .call d f xs=>match cE st.t f with
  | .func n dI=>CallDo P n (cf (xs.map (cE st.t)++dI)) st d K
  |_=>er
def iY(P:cH):List du->bp->(bp->Prop)->Prop
 |[],st,K=>K st
 |⟨none,i⟩::r,st,K=>vR P st (fun st'=>iY P r st' K) i
 |⟨some (s,want),i⟩::r,st,K=>match get s st.t with
  | .bool b=>(b=want->vR P {st with t:=put s (.bool want) st.t} (fun st'=>iY P r st' K) i)/\(b= !want->iY P r {st with t:=e7 i.dst (.tuple []) (put s (.bool !want) st.t)} K)
  | .tuple []=>iY P r {st with t:=e7 i.dst (.tuple []) st.t} K
  |_=>er
def wK(N:Nat)(aT:List (Nat×ev))(i:eU)(o:Oper):Bool:=
 match i with
 | .s i=>FF N aT i o
 | .next d x=>match o.op with
  | .next it false=>o.dst==some d&&decide (d<N)&&eS x it
  |_=>false
 | .call d f xs=>match o.op with
  | .call ⟨.value a,args,_⟩=>o.dst==d&&j6 N d&&eS f a&&z1 xs args.toList
  |_=>false
def DR(N:Nat)(aT:List (Nat×ev))(ops:List Oper)(g:du)(o:Oper):Bool:=
 (match g.g,o.guard with
  |none,none=>true
  |some (s,b),some (j,b0)=>b==b0&&((ops[j]?).bind (·.dst))==some s&&decide (s<N)&&o.dst==g.i.dst&&j6 N g.i.dst
  |_,_=>false)&&wK N aT g.i o
def la(N:Nat)(aT:List (Nat×ev))(ops:List Oper):List du->List Oper->Bool
 |[],[]=>true
 |g::gs,o::os=>DR N aT ops g o&&la N aT ops gs os
 |_,_=>false
def abl{w:World}{ν:bc}:∀{b bV:List af} {bm us:List Value},c7 w ν b bm->c7 w ν bV us->c7 w ν (b++bV) (bm++us)
 |[],bV,bm,us,h,a=>by simp only[c7]at h;subst h;simpa using a
 |p::b,bV,bm,us,h,a=>by simp only[c7]at h;obtain⟨u,c,rfl,J,U⟩:=h;simp only[b5,c7];exact⟨u,_,rfl,J,abl U a⟩
def yF.mono{P:cH}{f:FuncId}{bm:Array Value}{w:World}{R a:Ending->World->Prop}(h:yF P f bm w R)(bs:∀e w',R e w'->a e w'):yF P f bm w a:=by
 rcases h with⟨J,U⟩|⟨v,w',J,U⟩
 ·exact .inl ⟨J,U.mono bs⟩
 ·exact .inr ⟨v,w',J,bs _ _ U⟩
def TX{P:cH}{C:fp}{st:bp}{a:Act}{w:World}{ν:bc}(g:c9 C st a w ν){o:Oper}{Y:Operand}{args:Array Operand}{CW:Array gU}(z:o.op= .call ⟨.value Y,args,CW⟩){d:bd Nat}(aK:o.dst=d)(V:j6 C.N d=true)
  {n:Nat} {dI:List af} (aG:aV w ν (.func n dI) (a.eval Y)) {A:List af} (vY:c7 w ν A (args.toList.map a.eval)) {K:bp->Prop}
  (ax:∃(s:cS) (y:af->cS->Prop) (κ:bd Nat) (n':Nat) (o':cS->List aB),hz (aM s) s.b st.b/\qd (aM s) s.e st.e/\hW s/\aH (aM s) (cf (A++dI))/\(∀(w:World) (ν:bc) (bm:Array Value),Good (fC ν s) w ν s.b s.e->pQ ν s->c7 w ν (cf (A++dI)) bm.toList->
   yF P n bm w fun e w'=> ∃v r c bn,e= .returned v/\y r c/\aV w' bn r v/\Good (fun bl=>fC ν s bl\/w.heap.size<=bl) w' bn c.b c.e/\A9 κ bn c/\hW c/\pD ⟨w,ν,fC ν s,0,cJ s⟩ w' bn)/\
   (∀m,κ=some m->fresh st.n st.o (.loc m))/\(∀k r c,y r c->fresh n' (o' c) k->fresh st.n (st.o++cJ c) k/\∀m,κ=some m->k≠ .loc m)/\
   ∀r c,y r c->((∀m,(ae (.obj m) c.b).isSome->(ae (.obj m) s.b).isSome\/ .obj m∉st.o)/\(∀m,(ae (.obj m) c.e).isSome->(ae (.obj m) s.e).isSome\/ .obj m∉st.o))/\K {after st s c d r with n:=n',o:=o' c})
  {W:Act->World->Prop} {Q:Exit->Act->World->Prop} (Z:∀st' br w' bn,K st'->c9 C st' br w' bn->W br w'):o.wp P a w W Q:=by
 obtain⟨s,y,κ,n',o',t,q,di,h4,p,Ui,T9,X⟩:=ax;simp only[aV]at aG;obtain⟨us,aN,hu⟩:=aG;have nW:c7 w (ν.cut (aM s)) (cf (A++dI)) ((args.map a.eval)++us).toList:=by refine Ai (oi.cut _ w ν) _ _ h4 (JG _ _ ?_);simpa using abl vY hu
 have tp:Good (fC (ν.cut (aM s)) s) w (ν.cut (aM s)) s.b s.e:=g.good.cut t q (fun bl _ h=>h);have hex:pQ (ν.cut (aM s)) s:=by
  intro k;refine⟨?_,?_,?_⟩;rotate_left 2
  ·rintro j b ⟨f,ag⟩;obtain⟨t1,t2⟩:=g.fr.trn k j b ag;rcases f with f|f<;>obtain⟨x,l⟩:=fx.1 f
   ·obtain⟨bl,O,el,i,_⟩:=g.good.box k x (t k x l).1;rw[t1]at i;cases i
   ·obtain⟨v',O,i,_⟩:=g.good.own k x (q k x l).1;rw[t2]at i;cases i
  ·intro R;by_cases f:aM s k
   ·rw[bc.cut_bx f];rcases f with f|f
    ·rw[R]at f;cases f
    ·obtain⟨x,l⟩:=fx.1 f;obtain⟨v',O,i,_⟩:=g.good.own k x (q k x l).1;rcases g.good.one k with J|J
     ·exact J
     ·rw[J]at i;cases i
   ·exact(bc.cut_no f).1
  ·intro R;by_cases f:aM s k
   ·rw[bc.cut_ow f];rcases f with f|f
    ·obtain⟨x,l⟩:=fx.1 f;obtain⟨bl,O,el,i,_⟩:=g.good.box k x (t k x l).1;rcases g.good.one k with J|J
     ·rw[J]at i;cases i
     ·exact J
    ·rw[R]at f;cases f
   ·exact(bc.cut_no f).2.1
 rcases p w (ν.cut (aM s)) ((args.map a.eval)++us) tp hex nW with⟨⟨fn,g1,g2,g3⟩,p⟩|⟨v,w',p,M⟩
 ·obtain⟨code,S⟩:=fx.1 g2;have B:(execOp a.eval o).run P w= .ok (.enter n ((args.map a.eval)++us)) w:=by obtain⟨dst,op,ty,pos,Rq,xo⟩:=o;simp only at z;subst z;simp only[execOp,resolve,aN,Deferred.ofValue,gx,hA,gC,invoke,callFunc,run_program,g1,g3,S];simp
  unfold Oper.wp;rw[B];simp only[Oper.upon];refine p.mono fun e w' M=>?_;obtain⟨v,r,c,bn,rfl,u,U,N,L,G,H⟩:=M;obtain⟨⟨E,F⟩,ab⟩:=X r c u;rw[aK];exact Z _ _ _ _ ab (g.callK t q di N L (fun m hm=>g.new _ (Ui m hm)) (n':=n') (o':=o' c) (fun k ab=>T9 k r c u ab) G H E F d V U)
 ·have B:(execOp a.eval o).run P w= .ok (.value v) w':=by obtain⟨dst,op,ty,pos,Rq,xo⟩:=o;simp only at z;subst z;simp only[execOp,resolve,aN,Deferred.ofValue,gx,hA,gC,invoke];simpa using p
  obtain⟨v2,r,c,bn,Ex,u,U,N,L,G,H⟩:=M;cases Ex;obtain⟨⟨E,F⟩,ab⟩:=X r c u;refine nI B ?_;rw[aK];exact Z _ _ _ _ ab (g.callK t q di N L (fun m hm=>g.new _ (Ui m hm)) (n':=n') (o':=o' c) (fun k ab=>T9 k r c u ab) G H E F d V U)
def TW{P:cH}{C:fp}{st:bp}{a:Act}{w:World}{ν:bc}(H:c9 C st a w ν){o:Oper}{t:Operand}{args:Array Operand}{M:Array gU}(z:o.op= .call ⟨.value t,args,M⟩){d:bd Nat}(G:o.dst=d)(x:j6 C.N d=true)
  {n:Nat} {dI:List af} (L:aV w ν (.func n dI) (a.eval t)) {u:List af} (y:c7 w ν u (args.toList.map a.eval)) {K:bp->Prop} (ax:CallDo P n (cf (u++dI)) st d K)
  {q:Act->World->Prop} {Q:Exit->Act->World->Prop} (B:∀st' br w' bn,K st'->c9 C st' br w' bn->q br w'):o.wp P a w q Q:=by
 refine TX H z G x L y (K:=K) ?_ B;rcases ax with⟨s,c,p,l,j,i,g,f⟩|⟨s,c,p,l,j,i,A,g,f⟩
 ·refine⟨s,c,none,st.n,fun b=>st.o++cJ b,p,l,j,i,fun w ν bm J U F=>(g w ν bm J U F).mono fun e w' E=>?_,fun m hm=>(by cases hm),fun k _ b _ ab=>⟨ab,fun m hm=>by cases hm⟩,f⟩;obtain⟨v,r,b,bn,g1,g2,g3,g4,g5,g6⟩:=E;exact⟨v,r,b,bn,g1,g2,g3,g4,g5.k,g6⟩
 ·refine⟨s,c,some st.n,st.n+1,fun b=>st.o++cJ b,p,l,j,i,g,fun m hm=>(by cases hm;exact⟨dP _,A⟩),fun k _ b _ ab=>⟨Ml (Nat.le_succ _) (fun _ h=>h) ab,fun m hm=>?_⟩,f⟩;cases hm;rintro rfl;have:=ab.1;simp only at this;omega
def c9.drawn{C:fp}{st:bp}{a:Act}{w:World}{ν:bc}(b:c9 C st a w ν)(n:Nat):c9 C st a {w with drawn:=n} ν:=by
 have c:mv w ν {w with drawn:=n} ν:=⟨fun _ _ h=>⟨h,rfl⟩,fun _ _ _ h=>h,fun _ n u _ h=>⟨n,u,h,.inl ⟨rfl,rfl⟩⟩,fun _ _ _=>rfl,fun _ _ _ _ h=>h⟩;refine b.over c rfl ⟨b.good.alt,fun k cs ab=>?_,b.good.inj,fun g o be=>?_,b.good.oinj,b.good.obx,b.good.one,b.good.otr⟩ ⟨b.fr.os,b.fr.tape,b.fr.output,b.fr.size,b.fr.block,b.fr.keep,b.fr.fresh,b.fr.obj,b.fr.obn,b.fr.row,b.fr.obr,b.fr.trd,b.fr.trb,b.fr.trn,b.fr.sh⟩ b.new
 ·obtain⟨bl,us,el,J,U,d,e,f⟩:=b.good.box k cs ab;exact⟨bl,us,el,J,U,d,e,rM c f⟩
 ·obtain⟨v,us,J,U,d,e⟩:=b.good.own g o be;exact⟨v,us,J,U,d,tZ c (fun _ _ _ h=>h) e⟩
def ais{α:Type}{l:List α}{p:α->Bool}(h:∀x∈l,p x=false):l.filter p=[]:=by rw[List.filter_eq_nil_iff];intro x a;simp[h x a]
def air{α:Type}{l:List α}{p:α->Bool}(h:∀x∈l,p x=true):l.filter p=l:=List.filter_eq_self.2 h
def IT(r m since clock:Nat)(seen:Array Nat)(TY:Array (bd MapEntry)):Sem Value:=do
 match TY[<-choose (.mapNext TY.size)]? with
 |some (some e)=>
  setObj r (.mapIter (some m) since (seen.push e.born) clock)
  pure (.tuple #[.bool true,e.key,e.val])
 |some none=>pure (.tuple #[.bool false])
 |none=>stuck "Next: no such candidate"
def abB{P:cH}{w:World}(r m since clock:Nat)(seen:Array Nat)(l:List (bd MapEntry))(av:l≠[]):∃n x,x∈l/\(IT r m since clock seen l.toArray).run P w=
  (match x with|some e=>(do setObj r (.mapIter (some m) since (seen.push e.born) clock);pure (.tuple #[.bool true,e.key,e.val]):Sem Value)|none=>pure (.tuple #[.bool false])).run P {w with drawn:=n}:=by
 have gj:0<l.length:=List.length_pos_iff.2 av;unfold IT;have key:∀i,i<l.length->∀w',((do match(l.toArray[i]?:bd (bd MapEntry))with
   |some (some e)=>setObj r (.mapIter (some m) since (seen.push e.born) clock);pure (.tuple #[.bool true,e.key,e.val])
   |some none=>pure (.tuple #[.bool false])
   |none=>stuck "Next: no such candidate" :Sem Value)).run P w'=((match l[i]! with|some e=>(do setObj r (.mapIter (some m) since (seen.push e.born) clock);pure (.tuple #[.bool true,e.key,e.val]):Sem Value)|none=>pure (.tuple #[.bool false]))).run P w':=by
  intro i hi w';have J:l.toArray[i]? =some l[i]!:=by simp[hi]
  rw[J];cases l[i]!<;>rfl
 by_cases aG:(Question.mapNext l.length).forced=true
 ·refine⟨w.drawn,l[0]!,by simp[gj],?_⟩;rw[<-key 0 gj];have ax:(choose (.mapNext l.length):Sem Nat).run P w= .ok 0 w:=by simp[aG]
  simp only[List.size_toArray,gx,ax,gC]
 ·refine⟨w.drawn+1,l[(w.tape w.drawn (.mapNext l.length))%l.length]!,by simp[Nat.mod_lt _ gj],?_⟩;rw[<-key _ (Nat.mod_lt _ gj)];have ax:(choose (.mapNext l.length):Sem Nat).run P w= .ok ((w.tape w.drawn (.mapNext l.length))%l.length) {w with drawn:=w.drawn+1}:=by simp[aG,Question.cut]
  simp only[List.size_toArray,gx,ax,gC]
def aqL{P:cH}{w:World}{bl mb:Nat}{seen:List Nat}{es:List MapEntry}{clock:Nat}{ty:gU}(J:w.heap[bl]? =some (.mapIter (some mb) clock seen.toArray clock))(U:w.heap[mb]? =some (.map es.toArray clock))(d:∀e∈es,e.born<clock):
  ∃n,((∀e∈es,e.born∈seen)/\(Instr.next (.pointer (some ⟨bl,0,none⟩)) false ty).run P w= .ok (.tuple #[.bool false]) {w with drawn:=n})\/
   ∃e∈es,e.born∉seen/\(Instr.next (.pointer (some ⟨bl,0,none⟩)) false ty).run P w= .ok (.tuple #[.bool true,e.key,e.val]) {w with drawn:=n,heap:=w.heap.setIfInBounds bl (.mapIter (some mb) clock (seen++[e.born]).toArray clock)}:=by
 have j:(!seen.toArray.isEmpty&& !es.toArray.isEmpty&&es.toArray.all (fun e=>decide (e.born≥clock)))=false:=by
  cases es with
  |nil=>simp
  |cons e r=>have:=d e Ψ;simp;intro _ h;omega
 generalize c:(es.filter fun e=> !seen.contains e.born)=left;have f:(es.toArray.filter fun e=> !seen.toArray.contains e.born)=left.toArray:=by rw[<-c];simp
 have a:∀e∈left,e∈es/\e.born∉seen:=fun e he=>by rw[<-c]at he;have:=oV.1 he;exact⟨this.1,by simpa using this.2⟩
 have hold:(left.toArray.filter fun e=>decide (e.born<clock))=left.toArray:=by rw[List.filter_toArray,air];intro e he;have:=d e (a e he).1;simp[this]
 have g:(left.toArray.filter fun e=>decide (e.born≥clock))= #[]:=by rw[List.filter_toArray,ais];intro e he;have:=d e (a e he).1;simp;omega
 have i:(Instr.next (.pointer (some ⟨bl,0,none⟩)) false ty).run P w=(IT bl mb clock clock seen.toArray ((if left.toArray.isEmpty then #[none]else #[])++(left.toArray++ #[]).map some)).run P w:=by unfold Instr.next IT;simp only[gx,yo J,yo U,gC,j,f,hold,g,hQ,if_false];rfl
 rw[i];by_cases b:left=[]
 ·subst b;obtain⟨n,x,g1,g2⟩:=abB (P:=P) (w:=w) bl mb clock clock seen.toArray [none] Ψ;refine⟨n,.inl ⟨fun e he=>?_,?_⟩⟩
  ·have:=List.filter_eq_nil_iff.1 c e he;simpa using this
  ·simp only[List.mem_singleton]at g1;subst g1;have ax:((if(([]:List MapEntry).toArray).isEmpty then #[none]else #[])++(([]:List MapEntry).toArray++ #[]).map some)=[none].toArray:=Ψ
   rw[ax,g2];rfl
 ·have ax:((if left.toArray.isEmpty then #[none]else #[])++(left.toArray++ #[]).map some)=(left.map some).toArray:=by simp[b]
  obtain⟨n,x,g1,g2⟩:=abB (P:=P) (w:=w) bl mb clock clock seen.toArray (left.map some) (by simpa using b);simp only[hb]at g1;obtain⟨e,he,rfl⟩:=g1;refine⟨n,.inr ⟨e,(a e he).1,(a e he).2,?_⟩⟩;rw[ax,g2];simp only[gx];rw[P5 (w:={w with drawn:=n}) (o:= .mapIter (some mb) clock seen.toArray clock) J];simp
def LW:∀{borns:List Nat} {us:List Value} {e:MapEntry},e∈gQ borns us->e.born∈borns
 |[],us,e,h=>by simp[gQ]at h
 |b::a,[],e,h=>by simp[gQ]at h
 |b::a,[_],e,h=>by simp[gQ]at h
 |b::a,k::v::us,e,h=>by
  simp only[gQ,gI]at h;rcases h with rfl|h
  ·simp
  ·exact q5 _ (LW h)
def UB:∀{borns:List Nat} {kvs:List af} {us:List Value},kvs.length=2*borns.length->us.length=kvs.length->∀{b:Nat},b∈borns->∃e∈gQ borns us,e.born=b
 |[],_,_,_,_,b,a=>by simp at a
 |b0::c,kvs,[],J,U,b,a=>by rw[J]at U;simp at U
 |b0::c,kvs,[_],J,U,b,a=>by rw[J]at U;simp at U;omega
 |b0::c,kvs,k::v::us,J,U,b,a=>by
  rcases gI.1 a with rfl|a
  ·exact⟨⟨k,v,b⟩,by simp[gQ],rfl⟩
  ·obtain⟨e,g1,g2⟩:=UB (kvs:=kvs.drop 2) (us:=us) (borns:=c) (by simp at J⊢;omega) (by simp at J U⊢;omega) a;exact⟨e,by simp[gQ,g1],g2⟩
def Yy{w:World}{ν:bc}:∀{borns:List Nat} {kvs:List af} {us:List Value},kvs.length=2*borns.length->borns.Pairwise (· < ·)->c7 w ν kvs us->∀{e:MapEntry},e∈gQ borns us->∃k v,n5 e.born borns kvs=some (.tuple [k,v])/\aV w ν k e.key/\aV w ν v e.val
 |[],_,_,_,_,_,e,h=>by simp[gQ]at h
 |b::a,[],us,J,_,_,e,_=>by simp at J
 |b::a,[_],us,J,_,_,e,_=>by simp at J;omega
 |b::a,k::v::kvs,us,J,U,c,e,h=>by
  simp only[c7]at c;obtain⟨m,n,rfl,g,l,j,rfl,f,d⟩:=c;simp only[gQ,gI]at h;rw[oh]at U;rcases h with rfl|h
  ·exact⟨k,v,by simp[n5],g,f⟩
  ·obtain⟨bt,v',g1,g2,g3⟩:=Yy (by simp at J;omega) U.2 d h;have i:b≠e.born:=Nat.ne_of_lt (U.1 _ (LW h));exact⟨bt,v',by simp[n5,i,g1],g2,g3⟩
def ana{P:cH}{C:fp}{st:bp}{a:Act}{w:World}{ν:bc}(c:c9 C st a w ν){o:Oper}{it:Operand}(q:o.op= .next it false){d:Nat}(E:o.dst=some d)(i:j6 C.N (some d)=true){v:af}(B:aV w ν v (a.eval it)){K:bp->Prop}(he:uH st d v K)
  {m:Act->World->Prop} {Q:Exit->Act->World->Prop} (x:∀st' br w' bn,K st'->c9 C st' br w' bn->m br w'):o.wp P a w m Q:=by
 unfold uH at he;split at he
 ·rename_i gk;split at he
  ·rename_i since seen last mk l;split at he
   ·rename_i clock borns kvs G;obtain⟨⟨rfl,rfl⟩,W,L⟩:=he;simp only[aV]at B;obtain⟨bl,A,M⟩:=B;obtain⟨Y,us,el,F,bB,Z,g,z⟩:=c.good.box gk _ l;rw[A]at F;cases F;obtain⟨mb,ms,N,m1,m2,m3,m4,m5⟩:=c.good.box mk _ G;simp only[k2,c7]at z;obtain⟨u,b2,hu,⟨O,y,rfl⟩,rfl⟩:=z;rw[m1]at y;cases y;simp only[lZ,hu]at g;simp only[lZ]at m4;simp only[k2]at m5;obtain⟨n,H⟩:=aqL (P:=P) (ty:=o.type) g m4 (fun e he=>m5.2.lt _ (LW he));have r:∀v' w',(Instr.next (.pointer (some ⟨bl,0,none⟩)) false o.type).run P w= .ok v' w'->(execOp a.eval o).run P w= .ok (.value v') w':=by intro v' w' t;obtain⟨dst,op,ty,pos,Rq,X⟩:=o;simp only at q t;subst q;simp only[execOp,M];exact F3 t
    rcases H with⟨J,U⟩|⟨e,J,U,R⟩
    ·refine nI (r _ _ U) ?_;rw[E];refine x _ _ _ _ (W fun b V=>?_) ((c.drawn n).put i (p:= .tuple [.bool false]) (by simp[aV,c7]));obtain⟨e,f1,f2⟩:=UB m5.2.len (P0 m5.1) V;rw[<-f2];exact J e f1
    ·obtain⟨k,v,f1,f2,f3⟩:=Yy m5.2.len m5.2.inc m5.1 J;refine nI (r _ _ R) ?_;rw[E];have f:=((c.drawn n).setBox (w':={w with drawn:=n,heap:=w.heap.setIfInBounds bl (.mapIter (some mb) last (seen++[e.born]).toArray last)}) l A (cs':=[.hdi last (seen++[e.born]) last,.gmap mk]) (us:=us) (el:=el) rfl rfl rfl
      (fun j S=>Array.getElem?_setIfInBounds_ne (Ne.symm S)) Ψ (by simp[lZ,hu,(Array.getElem?_eq_some_iff.1 g).1]) (by simp only[k2,c7];exact⟨_,_,hu,by simp only[aV];exact⟨mb,m1,rfl⟩,rfl⟩))
     refine x _ _ _ _ (L e.born k v f1 U) (f.1.put i (p:= .tuple [.bool true,k,v]) ?_);simp only[aV];refine⟨_,rfl,?_⟩;simp only[c7];have s:mv w ν {w with drawn:=n} ν:=⟨fun _ _ h=>⟨h,rfl⟩,fun _ _ _ h=>h,fun _ n u _ h=>⟨n,u,h,.inl ⟨rfl,rfl⟩⟩,fun _ _ _=>rfl,fun _ _ _ _ h=>h⟩;exact⟨_,_,rfl,by simp[aV],_,_,rfl,Aj f.2 (Aj s f2),_,_,rfl,Aj f.2 (Aj s f3),rfl⟩
   ·exact he.elim
  ·exact he.elim
 ·exact he.elim
def UH{P:cH}{aT:List (Nat×ev)}(p:hX P aT=true){C:fp}{st:bp}{a:Act}{w:World}{ν:bc}(b:c9 C st a w ν){i:eU}{o:Oper}(ar:wK C.N aT i o=true){K:bp->Prop}(he:vR P st K i)
  {k:Act->World->Prop} {Q:Exit->Act->World->Prop} (g:∀st' br w' bn,K st'->c9 C st' br w' bn->k br w'):o.wp P a w k Q:=by
 cases i with
 |s i=>
  simp only[vR]at he;split at he
  ·rename_i c st' l;exact aqO p b (by simpa only[wK]using ar) l he.1 fun br w' bn h=>g _ _ _ _ he.2 h
  ·exact he.elim
 |next d x=>
  simp only[vR]at he;simp only[wK]at ar;split at ar
  ·rename_i it e;simp only[cP,ey,gy]at ar;obtain⟨⟨J,U⟩,j⟩:=ar;exact ana b e J (by simpa[j6]using U) (e5 b j) he g
  ·cases ar
 |call d f xs=>
  simp only[vR]at he;simp only[wK]at ar;split at ar
  ·rename_i r args t e;simp only[cP,ey]at ar;obtain⟨⟨⟨J,U⟩,j⟩,m⟩:=ar;split at he
   ·rename_i n dI q;have:=e5 b j;rw[q]at this;exact TW b e J U this (Fx b m) he g
   ·exact he.elim
  ·cases ar
def PS{C:fp}{st:bp}{a:Act}{w:World}{ν:bc}(h:c9 C st a w ν){s:Nat}{b:Bool}(c:get s st.t= .bool b):c9 C {st with t:=put s (.bool b) st.t} a w ν:=by
 refine⟨h.good,h.fr,h.defers,h.size,fun i=>?_,h.new⟩;have:=h.slot i;simp only[qy];split
 ·rename_i e;subst e;rw[<-c];exact this
 ·exact this
def adk{C:fp}{st:bp}{a:Act}{w:World}{ν:bc}(h:c9 C st a w ν){ops:Array Oper}{j s:Nat}(f:(ops.toList[j]?).bind (·.dst)=some s)(l:s<C.N):
  (∀b,get s st.t= .bool b->yielded ops a.tmps j=some b)/\(get s st.t= .tuple []->yielded ops a.tmps j=none):=by
 have e:s<a.tmps.size:=by rw[h.size];exact l
 have c:=h.slot s;have i:a.tmps.getD s undef=a.tmps[s]:=by simp[Array.getD,e]
 rw[i]at c;have g:yielded ops a.tmps j=match a.tmps[s]with| .bool b=>some b|_=>none:=by unfold yielded;rw[vt]at f;rw[f];simp only[k4,Array.getElem?_eq_getElem e];cases a.tmps[s]<;>rfl
 constructor
 ·intro b d;rw[d]at c;simp only[aV]at c;rw[g,c]
 ·intro d;rw[d]at c;simp only[aV,c7]at c;obtain⟨us,k,m⟩:=c;rw[g,k]
def UL{P:cH}{aT:List (Nat×ev)}(m:hX P aT=true){C:fp}{ops:Array Oper}{K:bp->Prop}{Q:Exit->Act->World->Prop}(p:∀st' br w' bn,K st'->c9 C st' br w' bn->Q .normal br w'):
  ∀(gs:List du) (os:List Oper) (k:Nat),(∀j,os[j]? =ops[k+j]?)->la C.N aT ops.toList gs os=true->∀(st:bp) (a:Act) (w:World) (ν:bc),iY P gs st K->c9 C st a w ν->wpOps P ops Q (List.range' k gs.length) a w
 |[],[],k,_,_,st,a,w,ν,he,d=>by simp only[List.length_nil,List.range'_zero,wpOps];exact p _ _ _ _ he d
 |[],_::_,_,_,ab,_,_,_,_,_,_=>by simp[la]at ab
 |_::_,[],_,_,ab,_,_,_,_,_,_=>by simp[la]at ab
 |g::gs,o::os,k,v,ab,st,a,w,ν,he,d=>by
  simp only[la,cP]at ab;have E:ops[k]? =some o:=by simpa using(v 0).symm
  have G:∀j,os[j]? =ops[k+1+j]?:=fun j=>by have:=v (j+1);simpa[Nat.add_assoc,Nat.add_comm 1 j]using this
  simp only[mT,List.range'_succ,wpOps,E];have i:∀st' br w' bn,iY P gs st' K->c9 C st' br w' bn->wpOps P ops Q (List.range' (k+1) gs.length) br w':=fun st' br w' bn J U=>UL m p gs os (k+1) G ab.2 st' br w' bn J U;obtain⟨z,L⟩:=g;have be:=ab.1;simp only[DR,cP]at be;obtain⟨h,n⟩:=be;cases z with
  |none=>
   cases c:o.guard with
   |some x=>simp[c]at h
   |none=>
    have hw:qh o (yielded ops a.tmps)=true:=by simp[qh,c]
    rw[if_pos hw];simp only[iY]at he;exact .inl (UH m d n he i)
  |some H=>
   obtain⟨s,want⟩:=H;cases c:o.guard with
   |none=>simp[c]at h
   |some x=>
    obtain⟨j,b0⟩:=x;simp only[c,cP,ey,gy]at h;obtain⟨⟨⟨⟨rfl,U⟩,F⟩,u⟩,r⟩:=h;obtain⟨B,y⟩:=adk d U F;simp only[iY]at he;split at he
    ·rename_i b f;have l:=B b f;by_cases e:b=want
     ·subst e;have hw:qh o (yielded ops a.tmps)=true:=by simp[qh,c,l]
      rw[if_pos hw];exact .inl (UH m (PS d f) n (he.1 rfl) i)
     ·have hw:¬(qh o (yielded ops a.tmps)=true):=by simp[qh,c,l,e]
      rw[if_neg hw];have q:b= !want:=by cases b<;>cases want<;>simp at e⊢
      have A:c9 C {st with t:=put s (.bool !want) st.t} a w ν:=PS d (by rw[f,q]);rw[u];exact i _ _ _ _ (he.2 q) (A.put r (by simp[aV,c7,undef]))
    ·rename_i f;have l:=y f;have hw:¬(qh o (yielded ops a.tmps)=true):=by simp[qh,c,l]
     rw[if_neg hw,u];exact i _ _ _ _ he (d.put r (by simp[aV,c7,undef]))
    ·exact he.elim
structure dE where
 t:Nat->af
 b:aB->bd (List af)
 e:aB->bd dW
 F:aB->Prop
structure lI where
 d:bd Nat
 p:af
 bw:List (aB×List af)
 ew:List (aB×dW)
 rm:bd aB
def jt{α:Type}(l:List (aB×α))(f:aB->bd α):aB->bd α:=fun k=>match ae k l with|some x=>some x|none=>f k
def dE.do(A:dE)(x:lI):dE:={t:=fun i=>if x.d=some i then x.p else A.t i,b:=jt x.bw A.b,e:=jt x.ew A.e,F:=fun k=>A.F k/\x.rm≠some k}
structure lI.apart (x y:lI):Prop where
 d:∀i,x.d=some i->y.d≠some i
 b:∀k,(ae k x.bw).isSome->ae k y.bw=none
 e:∀k,(ae k x.ew).isSome->ae k y.ew=none
def dE.do_comm(A:dE){x y:lI}(h:x.apart y):(A.do x).do y=(A.do y).do x:=by
 simp only[dE.do,dE.mk.injEq];refine⟨?_,?_,?_,?_⟩
 ·funext i;by_cases J:x.d=some i
  ·have:=h.d i J;simp[J,this]
  ·simp[J]
 ·funext k;simp only[jt];cases a:ae k x.bw with
  |none=>cases ae k y.bw<;>rfl
  |some u=>rw[h.b k (by simp[a])]
 ·funext k;simp only[jt];cases a:ae k x.ew with
  |none=>cases ae k y.ew<;>rfl
  |some u=>rw[h.e k (by simp[a])]
 ·funext k;exact propext ⟨fun h=>⟨⟨h.1.1,h.2⟩,h.1.2⟩,fun h=>⟨⟨h.1.1,h.2⟩,h.1.2⟩⟩
def dY(t:Nat->af):dQ->af
 | .t i=>t i
 | .c p=>p
def tK(b:aB->bd (List af))(e:aB->bd dW)(agg:Bool)(sz:Nat):af->bd (Prop×af)
 | .rptr a k n i f=>Ak agg sz a n i f (e k)
 | .ptr k off=>
  match b k with
  |some cs=>if agg then some (gY cs=true/\off+sz<=cs.length,.agg ((cs.drop off).take sz))else(cs[off]?).map fun p=>(gY cs=true,p)
  |none=>none
 | .eptr p=>if agg then some (qM sz p,p)else some (eT p=true/\cells p=[p],p)
 |_=>none
def yV(t:Nat->af):List af->List (Nat×Nat×dQ)->bd (Prop×List af)
 |cs,[]=>some (True,cs)
 |cs,(off,sz,x)::r=>
  match yV t (nE cs off (cells (dY t x))) r with
  |some (c,cs')=>some ((eT (dY t x)=true/\(cells (dY t x)).length=sz/\off+sz<=cs.length)/\c,cs')
  |none=>none
def q1(t:Nat->af)(b:aB->bd (List af))(e:aB->bd dW):gP->bd (Prop×af)
 | .mov x=>some (True,dY t x)
 | .pick c x y=>Ja (dY t c) (dY t x) (dY t y)
 | .load agg sz x=>tK b e agg sz (dY t x)
 | .faddr off agg sz x=>s7 off agg sz (dY t x)
 | .fld off agg sz x=>vV off agg sz (dY t x)
 | .iaddr sz x i=>BS sz (dY t x) (dY t i)
 | .sidx x i=>JW (dY t x) (dY t i)
 | .ssl x lo hi=>J1 (dY t x) (lo.map (dY t)) (hi.map (dY t))
 | .lsl sz x lo hi=>IC sz (dY t x) (lo.map (dY t)) (hi.map (dY t))
 | .bin op wr x y=>Dl op wr (dY t x) (dY t y)
 | .notB x=>IW (dY t x)
 | .neg x=>IQ (dY t x)
 | .conv k x=>GV k (dY t x)
 | .ext i x=>Ba i (dY t x)
 | .len x=>B5 (dY t x)
 | .slen x=>FK (dY t x)
 | .build zero parts=>(yV t zero parts).map fun(c,cs)=>(c,.agg cs)
 | .nck x=>Cj (dY t x)
 | .min2 x y=>IM (dY t x) (dY t y)
 | .mkf n xs=>some (True,.func n (xs.map (dY t)))
 | .mget a zero ok x k=>pe b a zero ok (dY t x) (dY t k)
 | .ment x=>qP b (dY t x)
 | .mlen x=>Ci b (dY t x)
 | .beq neg d x y=>jr neg d (dY t x) (dY t y)
 | .max2 x y=>IG (dY t x) (dY t y)
 | .mkif n x=>some (True,.iface n (dY t x))
 | .loadB agg sz x=>tK b (fun _=>none) agg sz (dY t x)
 | .mgetB a zero ok x k=>pe b a zero ok (dY t x) (dY t k)
 | .loadZ agg sz x=>DP agg sz (dY t x)
 | .b2s x=>Gu (dY t x)
structure mu (st:bp) (A:dE):Prop where
 t:∀i,get i st.t=A.t i
 b:∀k,ae k st.b=A.b k
 e:∀k,ae k st.e=A.e k
def jG{st:bp}{A:dE}(h:mu st A)(x:dQ):cE st.t x=dY A.t x:=by
 cases x
 ·exact h.t _
 ·rfl
def vT{st:bp}{A:dE}(h:mu st A):cE st.t=dY A.t:=funext (jG h)
def aml{st:bp}{A:dE}(h:mu st A)(agg:Bool)(sz:Nat)(p:af):n3 st.b st.e agg sz p=tK A.b A.e agg sz p:=by
 cases p<;>simp only[n3,tK]
 ·rw[h.b];try rfl
 ·rw[h.e]
def amm{st:bp}{A:dE}(h:mu st A)(agg:Bool)(sz:Nat)(p:af):n3 st.b [] agg sz p=tK A.b (fun _=>none) agg sz p:=by
 cases p<;>simp only[n3,tK]
 ·rw[h.b];try rfl
 ·rfl
def RR{st:bp}{A:dE}(h:mu st A):∀(parts:List (Nat×Nat×dQ)) (cs:List af),vN st.t cs parts=yV A.t cs parts
 |[],cs=>rfl
 |(off,sz,x)::r,cs=>by simp only[vN,yV,jG h,RR h r];try rfl
def acv{st:bp}{A:dE}(h:mu st A)(i:gP):hY st i=q1 A.t A.b A.e i:=by have a:(fun k=>ae k st.b)=A.b:=funext h.b;cases i<;>simp only[hY,q1,vT h,aml h,amm h,RR h,a]
def ib:dQ->List Nat
 | .t i=>[i]
 | .c _=>[]
def Pf:bd dQ->List Nat
 |some x=>ib x
 |none=>[]
def gP.looks:gP->List Nat
 | .mov x| .load _ _ x| .loadB _ _ x| .loadZ _ _ x| .faddr _ _ _ x| .fld _ _ _ x| .notB x| .neg x| .conv _ x| .ext _ x| .len x| .slen x| .nck x| .ment x| .mlen x| .mkif _ x| .b2s x=>ib x
 | .pick c x y=>ib c++ib x++ib y
 | .iaddr _ x i| .sidx x i=>ib x++ib i
 | .ssl x lo hi| .lsl _ x lo hi=>ib x++Pf lo++Pf hi
 | .bin _ _ x y| .min2 x y| .max2 x y| .beq _ _ x y=>ib x++ib y
 | .build _ a=>a.flatMap fun p=>ib p.2.2
 | .mkf _ xs=>xs.flatMap ib
 | .mget _ _ _ x k| .mgetB _ _ _ x k=>ib x++ib k
def eY.looks:eY->List Nat
 | .v _ i=>i.looks
 | .box _ _ x=>ib x
 | .alloc _ _ _=>[]
 | .store _ x y=>ib x++ib y
 | .storeE _ x y=>ib x++ib y
 | .bsl _ _ _ xs=>xs.flatMap ib
 | .app _ _ _ x y=>ib x++ib y
 | .bslm _ _ _ _ xs=>xs.flatMap ib
 | .mks _ _ _ _ _ x=>ib x
 | .appm _ _ _ _ x y=>ib x++ib y
 | .mkmap _ _=>[]
 | .mput _ x k y=>ib x++ib k++ib y
 | .range _ _ x=>ib x
def eU.looks:eU->List Nat
 | .s i=>i.looks
 | .call _ f xs=>ib f++xs.flatMap ib
 | .next _ x=>ib x
def du.looks(g:du):List Nat:=(match g.g with|some (s,_)=>[s]|none=>[])++g.i.looks
def r8(l:List Nat)(t t':Nat->af):Prop:= ∀i∈l,t i=t' i
def ho{t t':Nat->af}{x:dQ}(h:r8 (ib x) t t'):dY t x=dY t' x:=by
 cases x
 ·exact h _ (by simp[ib])
 ·rfl
def k6{l a:List Nat}{t t':Nat->af}(h:r8 (l++a) t t'):r8 l t t'/\r8 a t t':=⟨fun i hi=>h i (by simp[hi]),fun i hi=>h i (by simp[hi])⟩
def Hb{t t':Nat->af}{x:bd dQ}(h:r8 (Pf x) t t'):x.map (dY t)=x.map (dY t'):=by
 cases x
 ·rfl
 ·simp[ho h]
def RQ{t t':Nat->af}:∀{parts:List (Nat×Nat×dQ)} {cs:List af},r8 (parts.flatMap fun p=>ib p.2.2) t t'->yV t cs parts=yV t' cs parts
 |[],cs,_=>rfl
 |(off,sz,x)::r,cs,h=>by simp only[List.flatMap_cons]at h;obtain⟨J,U⟩:=k6 h;simp only[yV,ho J,RQ U]
def IF{t t':Nat->af}:∀{xs:List dQ},r8 (xs.flatMap ib) t t'->xs.map (dY t)=xs.map (dY t')
 |[],_=>rfl
 |x::xs,h=>by simp only[List.flatMap_cons]at h;obtain⟨J,U⟩:=k6 h;simp[ho J,IF U]
def gP.isLoad:gP->Bool
 | .load _ _ _=>true
 | .loadB _ _ _=>true
 | .mgetB _ _ _ _ _=>true
 | .mget _ _ _ _ _=>true
 | .ment _=>true
 | .mlen _=>true
 |_=>false
def arS{t t':Nat->af}{b b0:aB->bd (List af)}{e f:aB->bd dW}{i:gP}(h:r8 i.looks t t')(a:i.isLoad=false):q1 t b e i=q1 t' b0 f i:=by
 cases i<;>simp only[gP.looks]at h<;>simp only[q1];case load agg sz x=>simp[gP.isLoad]at a
 case loadB agg sz x=>simp[gP.isLoad]at a
 case pick c x y=>obtain⟨J,d⟩:=k6 h;obtain⟨J,U⟩:=k6 J;rw[ho J,ho U,ho d]
 case iaddr=>obtain⟨J,U⟩:=k6 h;rw[ho J,ho U]
 case sidx=>obtain⟨J,U⟩:=k6 h;rw[ho J,ho U]
 case ssl=>obtain⟨J,d⟩:=k6 h;obtain⟨J,U⟩:=k6 J;rw[ho J,Hb U,Hb d]
 case lsl=>obtain⟨J,d⟩:=k6 h;obtain⟨J,U⟩:=k6 J;rw[ho J,Hb U,Hb d]
 case bin=>obtain⟨J,U⟩:=k6 h;rw[ho J,ho U]
 case min2=>obtain⟨J,U⟩:=k6 h;rw[ho J,ho U]
 case build=>rw[RQ h]
 case mkf=>rw[IF h]
 case mget=>simp[gP.isLoad]at a
 case mgetB=>simp[gP.isLoad]at a
 case ment=>simp[gP.isLoad]at a
 case mlen=>simp[gP.isLoad]at a
 case max2=>obtain⟨J,U⟩:=k6 h;rw[ho J,ho U]
 case beq=>obtain⟨J,U⟩:=k6 h;rw[ho J,ho U]
 all_goals rw[ho h]
end
end Go.Pv
