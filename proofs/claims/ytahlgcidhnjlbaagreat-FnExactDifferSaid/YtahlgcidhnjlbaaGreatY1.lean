/- Regions that draw their order, I: abstract states as functions, effects, and what an instruction does to them. -/
import Derived.WalkKit
import Derived.Orders
import Derived.KernelRfl
import Derived.IntWalk
import Derived.Laws.StructEq
import Derived.ChangeKeysEq
import Derived.MapKept
import Derived.ArgAppend
import Derived.Laws.OwnMore
set_option linter.all false
set_option maxHeartbeats 4000000
set_option maxRecDepth 4000
namespace Go
def bi{p:Prop}(h:p:=by kernel_rfl):p:=h
def bv{p:Prop}(h:p:=by simp only[aQ,aD,aE,b6,cc];exact aX):p:=h
def ci{p:Prop}(h:p:=by first|exact cy _|exact cy ‹_› _):p:=h
def co{p:Prop}(h:p:=by simp[aQ,aD,aE]):p:=h
def dl{p:Prop}(h:p:=by simp[aA]):p:=h
def d6{p:Prop}(h:p:=by simp;omega):p:=h
def d7{p:Prop}(h:p:=by simp[aM,ae,aQ,aD,aE]):p:=h
def d8{p:Prop}(h:p:=by first|exact jc _|exact jc ‹_› _):p:=h
def d9{p:Prop}(h:p:=by simp only[gY,aD,aE,b6,cc];exact aX):p:=h
def f9{p:Prop}(h:p:=by simp[fresh,aH,aA,cd,aM,ae,fN]):p:=h
def gc{p:Prop}(h:p:=by simp[fresh,aH,aA,dW,aM,ae,fN]):p:=h
def ge{p:Prop}(h:p:=by simp only[fh,aD,aE,b6,cc];exact aX):p:=h
def go{p:Prop}(h:p:=by simp[aH,aA,aM,ae]):p:=h
def gt{p:Prop}(h:p:=by simp[ae]):p:=h
def g8{p:Prop}(h:p:=by simp[ef]):p:=h
def g9{p:Prop}(h:p:=by simp[fresh,aH,aA,cd,aM,ae,j0]):p:=h
def ii{p:Prop}(h:p:=by simp[fresh,aH,aA,dW,aM,ae,j0]):p:=h
def io{p:Prop}(h:p:=by simp only[hk,aD,aE,b6,cc];exact aX):p:=h
def ip{p:Prop}(h:p:=by simp only[aQ,aD];exact aX):p:=h
def i6{p:Prop}(h:p:=by simp only[binOp,Op.intBits,ne_eq,not_true_eq_false,if_false,hs]):p:=h
def i7{p:Prop}(h:p:=by first|exact rn _|exact rn ‹_› _):p:=h
def i8{p:Prop}(h:p:=by first|exact sc _|exact sc ‹_› _):p:=h
def jp{p:Prop}(h:p:=by simp only[jD,b6,cc];exact aX):p:=h
def kf{p:Prop}(h:p:=by simp only[jE,b6,cc];exact aX):p:=h
def kw{p:Prop}(h:p:=by simp only[hk,aD,aE,bL.grey,b6,cc];exact aX):p:=h
def li{p:Prop}(h:p:=by simp[fresh,aH,aA,cd,aM,ae,iv,sn,sk,qD,sj]):p:=h
def lm{p:Prop}(h:p:=by simp[fresh,aH,aA,dW,aM,ae,iv,sn,sk,qD,sj]):p:=h
def lw{p:Prop}(h:p:=by simp[fresh,aH,aA,cd,aM,ae,aE,aD]):p:=h
def lR{p:Prop}(h:p:=by simp[fresh,aH,aA,dW,aM,ae,aE,aD]):p:=h
def md{p:Prop}(h:p:=by simpa only[hZ]using he):p:=h
def mp{p:Prop}(h:p:=by simp[gY,aD,aE]):p:=h
def mW{p:Prop}(h:p:=by simp[aA];omega):p:=h
def m6{p:Prop}(h:p:=by simp only[fs]):p:=h
def m7{p:Prop}(h:p:=by simp[fh,aD,aE]):p:=h
def Ω{p:Prop}(h:p:=by omega):p:=h
def Ψ{p:Prop}(h:p:=by simp):p:=h
end Go
open Array renaming getD_eq_getD_getElem?->vz,getElem?_toList->vA
open BitVec renaming ofInt->r3
open Bool renaming and_eq_true->cO,eq_iff_iff->rf,false_eq_true->hU,not_eq_true'->r4
open ByteArray renaming empty->adP,ext->atZ,push->ayD,size->ayE
open Go renaming Program->cG,TypeId->gW
open Go.ByteArray renaming toList_eq->at0
open Go.IntKind renaming i64->vB
open Go.IntWalk renaming i64_in->pJ
open Go.Op renaming bytesLess->iu
open Go.Region renaming wanted->qu
open Go.Result renaming andThen_ok->gA
open Go.Sem renaming run_bind->gm,run_pure->hs
open Go.Value renaming cells->pK,ownBlock->pL
open Go.Value.pointer renaming injEq->ayL
open Go.World.grownBy renaming refl->at3
open List renaming all_eq_true->j5,cons_append->b6,getElem?_append_left->r6,getElem?_eq_getElem->ck,getElem?_eq_none->rh,getElem?_eq_some_iff->fI,length_append->qv,length_cons->mZ,length_drop->ur,map_cons->gX,map_nil->o2,mem_append->jT,mem_cons->gJ,mem_cons_of_mem->ri,mem_filter->oq,mem_map->hc,pairwise_cons->ot,take->na,take_length->jA,take_of_length_le->iv
open List.cons renaming injEq->r5
open Nat renaming add_mul->rk,le_refl->dO,le_trans->kg,mul_le_mul_right->r8
open Option renaming bind_some->l9,isSome_iff_exists->fy,isSome_none->k6,map_eq_some_iff->ht,map_some->pN
open Option.some renaming injEq->dV
open Prod.mk renaming injEq->jo
open _root_ renaming False->eb,UInt8->cV,and_true->jb,beq_iff_eq->eA,congrArg->fC,decide_eq_true_eq->gn
namespace Go.Pv
section
open Go Go.RowKit
inductive aB where
 |loc (s:Nat)
 |obj (n:Nat)
 deriving DecidableEq,Inhabited
inductive jF where
 |no
 |nil
 |own (k:aB)
 |tr (k:aB) (j:Nat)
 |lo (k:aB)
 deriving DecidableEq,Inhabited
inductive af where
 |junk
 |int (k:IntKind) (n:Int)
 |bool (b:Bool)
 |str (s:List cV)
 |slice (sz:Nat) (tag:jF) (xs:List af)
 |agg (cs:List af)
 |ptr (key:aB) (off:Nat)
 |eptr (x:af)
 |iface (t:Nat) (x:af)
 |nilp
 |tuple (bk:List af)
 |func (f:Nat) (dH:List af)
 |gmap (key:aB)
 |row (sz:Nat) (key:aB) (n:Nat)
 |rptr (sz:Nat) (key:aB) (n i f:Nat)
 |hdm (clock:Nat) (borns:List Nat)
 |hdi (since:Nat) (seen:List Nat) (last:Nat)
 |cst (v:Value)
 deriving Inhabited
structure bc where
 A:Nat->Nat->Prop
 bx:aB->Option Nat
 ow:aB->Option (Nat×Value)
 tr:aB->Nat->Nat->Prop
def lim:Nat:=68719476736
def kZ(w:World)(A:Nat->Nat->Prop)(b:Nat):Nat->List Value->Prop
 |_,[]=>True
 |off,u::us=>(A b off/\w.cell? ⟨b,off,none⟩=some u)/\kZ w A b (off+1) us
def shape(w:World)(b:Nat):Option (Nat×gW×(Nat×Nat)):=
 match w.heap[b]? with
 |some (.cells cur el fz)=>some (cur.size,el,fz)
 |_=>none
def yB{w w':World}{b:Nat}(h:w'.heap[b]? =w.heap[b]?):shape w' b=shape w b:=by unfold shape;rw[h]
mutual
def c2(t:Bool)(w:World)(A:Nat->Nat->Prop)(F:Nat->Prop):af->Value->Prop
 | .int k n,v=>v= .int k n
 | .bool b,v=>v= .bool b
 | .str s,v=>v= .string ⟨s.toArray⟩/\s.length<=lim
 | .slice sz _ xs,v=> ∃a cap,v= .slice a xs.length cap/\xs.length<=cap/\(cap<=maxLen/\xs.length<=lim)/\
   (xs=[]\/ ∃b off us G,a=some ⟨b,off,none⟩/\F b/\(∀c,G c->F c/\(t=true->c≠b))/\kZ w A b off us/\(t=true->off=0/\0<us.length/\∃el,shape w b=some (cap*sz,el,(0,0)))/\jX t w A G sz xs us)
 | .agg cs,v=> ∃us:Array Value,v= .agg us/\kF t w A F cs us.toList
 |_,_=>eb
def kF(t:Bool)(w:World)(A:Nat->Nat->Prop)(F:Nat->Prop):List af->List Value->Prop
 |[],us=>us=[]
 |c::cs,us=> ∃u e d a,us=u::e/\((∀b,d b->F b)/\(∀b,a b->F b)/\(t=true->∀b,d b->¬a b))/\(c2 t w A d c u/\u.oneCell'=true)/\kF t w A a cs e
def jX(t:Bool)(w:World)(A:Nat->Nat->Prop)(F:Nat->Prop)(sz:Nat):List af->List Value->Prop
 |[],us=>us=[]
 |x::xs,us=> ∃u e d a,us=u.cells.toList++e/\((∀b,d b->F b)/\(∀b,a b->F b)/\(t=true->∀b,d b->¬a b))/\(c2 t w A d x u/\u.cells.size=sz/\(∀c∈u.cells.toList,c.oneCell'=true))/\jX t w A a sz xs e
end
mutual
def aU(w:World)(ν:bc):af->Value->Prop
 | .junk,_=>True
 | .int k n,v=>v= .int k n
 | .bool b,v=>v= .bool b
 | .str s,v=>v= .string ⟨s.toArray⟩/\s.length<=lim
 | .slice sz tag xs,v=>
   (∃a cap,v= .slice a xs.length cap/\xs.length<=cap/\(cap<=maxLen/\xs.length<=lim)/\(xs=[]\/ ∃b off us,a=some ⟨b,off,none⟩/\kZ w ν.A b off us/\dv w ν sz xs us))/\
   (tag= .nil->v= .slice none 0 0)/\
   (∀g,tag= .own g->∃n u,ν.ow g=some (n,u)/\xs.length<=n/\(xs.length=n->v=u))/\
   (∀k j,tag= .tr k j->c2 true w ν.A (ν.tr k j) (.slice sz tag xs) v)/\(∀k,tag= .lo k->c2 false w ν.A (ν.tr k 0) (.slice sz tag xs) v)
 | .agg cs,v=> ∃us:Array Value,v= .agg us/\cW w ν cs us.toList
 | .ptr key off,v=> ∃b,ν.bx key=some b/\v= .pointer (some ⟨b,off,none⟩)
 | .eptr x,v=> ∃b off u,v= .pointer (some ⟨b,off,none⟩)/\aU w ν x u/\kZ w ν.A b off u.cells.toList
 | .iface t x,v=> ∃u,v= .iface t u/\aU w ν x u
 | .nilp,v=>v= .pointer none
 | .tuple bk,v=> ∃us:Array Value,v= .tuple us/\cZ w ν bk us.toList
 | .func f dH,v=> ∃us:Array Value,v= .func (.func f) #[] us/\cZ w ν dH us.toList
 | .gmap key,v=> ∃b,ν.bx key=some b/\v= .map (some b)
 | .row _ key n,v=>(∃b cap,v= .slice (some ⟨b,0,none⟩) n cap)/\n<=lim/\∃n' u,ν.ow key=some (n',u)/\n<=n'/\(n=n'->v=u)
 | .rptr sz key n i f,v=>(∃b o,v= .pointer (some ⟨b,o,none⟩))/\i<n/\∃n' u,ν.ow key=some (n',u)/\n<=n'/\(n=n'->∃b,u.ownBlock=some b/\v= .pointer (some ⟨b,i*sz+f,none⟩))
 | .hdm _ _,_=>eb
 | .hdi _ _ _,_=>eb
 | .cst c,v=>v=c
def cW(w:World)(ν:bc):List af->List Value->Prop
 |[],us=>us=[]
 |c::cs,us=> ∃u a,us=u::a/\(aU w ν c u/\u.oneCell'=true)/\cW w ν cs a
def cZ(w:World)(ν:bc):List af->List Value->Prop
 |[],us=>us=[]
 |c::cs,us=> ∃u a,us=u::a/\aU w ν c u/\cZ w ν cs a
def dv(w:World)(ν:bc)(sz:Nat):List af->List Value->Prop
 |[],us=>us=[]
 |x::xs,us=> ∃u a,us=u.cells.toList++a/\(aU w ν x u/\u.cells.size=sz/\(∀c∈u.cells.toList,c.oneCell'=true))/\dv w ν sz xs a
end
def Cb{w w':World}{A c:Nat->Nat->Prop}{b:Nat}(a:∀b o,A b o->c b o/\w'.cell? ⟨b,o,none⟩=w.cell? ⟨b,o,none⟩):
  ∀(us:List Value) (off:Nat),kZ w A b off us->kZ w' c b off us
 |[],_,_=>trivial
 |_::us,off,h=>⟨⟨(a _ _ h.1.1).1,(a _ _ h.1.1).2.trans h.1.2⟩,Cb a us (off+1) h.2⟩
mutual
def wc{t:Bool}{w w':World}{A j:Nat->Nat->Prop}(f:∀b o,A b o->j b o/\w'.cell? ⟨b,o,none⟩=w.cell? ⟨b,o,none⟩)(g:∀b o,A b o->shape w' b=shape w b):∀(p:af) (F d:Nat->Prop) (v:Value),(∀b,F b->d b)->c2 t w A F p v->c2 t w' j d p v
 | .int k n,_,_,_,_,h=>by simp only[c2]at h⊢;exact h
 | .bool b,_,_,_,_,h=>by simp only[c2]at h⊢;exact h
 | .str s,_,_,_,_,h=>by simp only[c2]at h⊢;exact h
 | .slice sz tag xs,F,d,v,e,h=>by
  simp only[c2]at h⊢;obtain⟨a,cap,J,U,x,i⟩:=h;refine⟨a,cap,J,U,x,?_⟩;rcases i with i|⟨b,off,us,G,y,B,l,m,r,q⟩
  ·exact .inl i
  ·refine .inr ⟨b,off,us,G,y,e _ B,fun c ay=>⟨e _ (l c ay).1,(l c ay).2⟩,Cb f _ _ m,fun z=>?_,HE f g xs G G _ (fun _ h=>h) q⟩;obtain⟨f1,f2,el,f3⟩:=r z;refine⟨f1,f2,el,?_⟩;cases us with
   |nil=>simp at f2
   |cons u us=>rw[g b off m.1.1];exact f3
 | .agg cs,F,d,v,e,h=>by simp only[c2]at h⊢;obtain⟨us,J,U⟩:=h;exact⟨us,J,V0 f g cs F d _ e U⟩
 | .junk,_,_,_,_,h=>by simp[c2]at h
 | .ptr _ _,_,_,_,_,h=>by simp[c2]at h
 | .eptr _,_,_,_,_,h=>by simp[c2]at h
 | .iface _ _,_,_,_,_,h=>by simp[c2]at h
 | .nilp,_,_,_,_,h=>by simp[c2]at h
 | .tuple _,_,_,_,_,h=>by simp[c2]at h
 | .func _ _,_,_,_,_,h=>by simp[c2]at h
 | .gmap _,_,_,_,_,h=>by simp[c2]at h
 | .row _ _ _,_,_,_,_,h=>by simp[c2]at h
 | .rptr _ _ _ _ _,_,_,_,_,h=>by simp[c2]at h
 | .hdm _ _,_,_,_,_,h=>by simp[c2]at h
 | .hdi _ _ _,_,_,_,_,h=>by simp[c2]at h
 | .cst _,_,_,_,_,h=>by simp[c2]at h
def V0{t:Bool}{w w':World}{A i:Nat->Nat->Prop}(j:∀b o,A b o->i b o/\w'.cell? ⟨b,o,none⟩=w.cell? ⟨b,o,none⟩)(l:∀b o,A b o->shape w' b=shape w b):∀(cs:List af) (F a:Nat->Prop) (us:List Value),(∀b,F b->a b)->kF t w A F cs us->kF t w' i a cs us
 |[],_,_,_,_,h=>by simp only[kF]at h⊢;exact h
 |c::cs,F,a,us,g,h=>by simp only[kF]at h⊢;obtain⟨u,k,e,d,J,⟨U,q,r⟩,⟨p,n⟩,m⟩:=h;exact⟨u,k,e,d,J,⟨fun b f=>g _ (U b f),fun b f=>g _ (q b f),r⟩,⟨wc j l c e e u (fun _ h=>h) p,n⟩,V0 j l cs d d k (fun _ h=>h) m⟩
def HE{t:Bool}{w w':World}{A i:Nat->Nat->Prop}(j:∀b o,A b o->i b o/\w'.cell? ⟨b,o,none⟩=w.cell? ⟨b,o,none⟩)(l:∀b o,A b o->shape w' b=shape w b){sz:Nat}:∀(cs:List af) (F a:Nat->Prop) (us:List Value),(∀b,F b->a b)->jX t w A F sz cs us->jX t w' i a sz cs us
 |[],_,_,_,_,h=>by simp only[jX]at h⊢;exact h
 |c::cs,F,a,us,g,h=>by simp only[jX]at h⊢;obtain⟨u,k,e,d,J,⟨U,q,r⟩,⟨p,n⟩,m⟩:=h;exact⟨u,k,e,d,J,⟨fun b f=>g _ (U b f),fun b f=>g _ (q b f),r⟩,⟨wc j l c e e u (fun _ h=>h) p,n⟩,HE j l cs d d k (fun _ h=>h) m⟩
end
mutual
def aA(S:aB->Prop):af->Prop
 | .slice _ tag xs=>(match tag with| .own k=>S k| .tr k _=>S k| .lo k=>S k|_=>True)/\aH S xs
 | .agg cs=>aH S cs
 | .ptr k _=>S k
 | .eptr x=>aA S x
 | .iface _ x=>aA S x
 | .tuple bk=>aH S bk
 | .func _ dH=>aH S dH
 | .gmap k=>S k
 | .row _ k _=>S k
 | .rptr _ k _ _ _=>S k
 |_=>True
def aH(S:aB->Prop):List af->Prop
 |[]=>True
 |x::xs=>aA S x/\aH S xs
end
mutual
def tO{S T:aB->Prop}(h:∀k,S k->T k):∀p:af,aA S p->aA T p
 | .junk,_=>by simp[aA]
 | .int _ _,_=>by simp[aA]
 | .bool _,_=>by simp[aA]
 | .str _,_=>by simp[aA]
 | .slice sz tag xs,a=>by simp only[aA]at a⊢;exact⟨by cases tag<;>first|trivial|exact h _ a.1,ji h xs a.2⟩
 | .agg cs,a=>by simp only[aA]at a⊢;exact ji h cs a
 | .ptr k _,a=>by simp only[aA]at a⊢;exact h _ a
 | .eptr x,a=>by simp only[aA]at a⊢;exact tO h x a
 | .iface _ x,a=>by simp only[aA]at a⊢;exact tO h x a
 | .nilp,_=>by simp[aA]
 | .tuple bk,a=>by simp only[aA]at a⊢;exact ji h bk a
 | .func _ dH,a=>by simp only[aA]at a⊢;exact ji h dH a
 | .gmap k,a=>by simp only[aA]at a⊢;exact h _ a
 | .row _ k _,a=>by simp only[aA]at a⊢;exact h _ a
 | .rptr _ k _ _ _,a=>by simp only[aA]at a⊢;exact h _ a
 | .hdm _ _,_=>by simp[aA]
 | .hdi _ _ _,_=>by simp[aA]
 | .cst _,_=>by simp[aA]
def ji{S T:aB->Prop}(h:∀k,S k->T k):∀b:List af,aH S b->aH T b
 |[],_=>by simp[aH]
 |x::xs,a=>by simp only[aH]at a⊢;exact⟨tO h x a.1,ji h xs a.2⟩
end
mutual
def IJ:∀p:af,aA (fun _=>True) p
 | .junk=>by simp[aA]
 | .int _ _=>by simp[aA]
 | .bool _=>by simp[aA]
 | .str _=>by simp[aA]
 | .slice sz tag xs=>by simp only[aA];exact⟨by cases tag<;>trivial,wG xs⟩
 | .agg cs=>by simp only[aA];exact wG cs
 | .ptr k _=>by simp[aA]
 | .eptr x=>by simp only[aA];exact IJ x
 | .iface _ x=>by simp only[aA];exact IJ x
 | .nilp=>by simp[aA]
 | .tuple bk=>by simp only[aA];exact wG bk
 | .func _ dH=>by simp only[aA];exact wG dH
 | .gmap k=>by simp[aA]
 | .row _ k _=>by simp[aA]
 | .rptr _ k _ _ _=>by simp[aA]
 | .hdm _ _=>by simp[aA]
 | .hdi _ _ _=>by simp[aA]
 | .cst _=>by simp[aA]
def wG:∀a:List af,aH (fun _=>True) a
 |[]=>by simp[aH]
 |x::xs=>by simp only[aH];exact⟨IJ x,wG xs⟩
end
def gQ:List Nat->List Value->List MapEntry
 |b::a,k::v::r=>⟨k,v,b⟩::gQ a r
 |_,_=>[]
def l2(cs:List af)(us:Array Value)(el:gW):Obj:=
 match cs with
 | .hdm clock borns::_=>.map (gQ borns us.toList).toArray clock
 | .hdi since seen last::_=>.mapIter (match us.toList with|[.map m]=>m|_=>none) since seen.toArray last
 |_=>.cells us el
structure amY (clock:Nat) (borns:List Nat) (r:List af):Prop where
 len:r.length=2*borns.length
 inc:borns.Pairwise (· < ·)
 lt:∀b∈borns,b<clock
def k4(w:World)(ν:bc)(cs:List af)(us:List Value):Prop:=
 match cs with
 | .hdm clock borns::r=>cZ w ν r us/\amY clock borns r
 | .hdi _ _ _::r=>cZ w ν r us
 |cs=>cW w ν cs us
def gZ:List af->Bool
 | .hdm _ _::_=>false
 | .hdi _ _ _::_=>false
 |_=>true
def wW{w:World}{ν:bc}{cs:List af}{us:List Value}(h:cW w ν cs us):gZ cs=true:=by
 unfold gZ;split
 ·simp only[cW,aU]at h;obtain⟨_,_,_,⟨h,_⟩,_⟩:=h;exact h.elim
 ·simp only[cW,aU]at h;obtain⟨_,_,_,⟨h,_⟩,_⟩:=h;exact h.elim
 ·rfl
def pz{cs:List af}(h:gZ cs=true)(us:Array Value)(el:gW):l2 cs us el= .cells us el:=by
 unfold gZ at h;unfold l2;split at h<;>first|cases h|skip
 rfl
def pA{w:World}{ν:bc}{cs:List af}(h:gZ cs=true)(us:List Value):k4 w ν cs us=cW w ν cs us:=by
 unfold gZ at h;unfold k4;split at h<;>first|cases h|skip
 rfl
structure ov (S:aB->Prop) (w:World) (ν:bc) (w':World) (bm:bc):Prop where
 A:∀b o,ν.A b o->bm.A b o/\w'.cell? ⟨b,o,none⟩=w.cell? ⟨b,o,none⟩
 bx:∀k b,S k->ν.bx k=some b->bm.bx k=some b
 ow:∀g n u,S g->ν.ow g=some (n,u)->∃n' eJ,bm.ow g=some (n',eJ)/\(n'=n/\eJ=u\/n<n')
 sh:∀b o,ν.A b o->shape w' b=shape w b
 tr:∀k j b,S k->ν.tr k j b->bm.tr k j b
abbrev mB:=ov (fun _=>True)
mutual
def kL{S:aB->Prop}{w w':World}{ν bm:bc}(aq:ov S w ν w' bm):∀(p:af) (v:Value),aA S p->aU w ν p v->aU w' bm p v
 | .junk,_,_,_=>by simp[aU]
 | .int k n,_,_,h=>by simp only[aU]at h⊢;exact h
 | .bool b,_,_,h=>by simp only[aU]at h⊢;exact h
 | .str s,_,_,h=>by simp only[aU]at h⊢;exact h
 | .slice sz tag xs,v,ad,h=>by
  simp only[aU,aA]at h ad⊢;obtain⟨⟨a,cap,J,U,l,d⟩,o,y,A,z⟩:=h;refine⟨⟨a,cap,J,U,l,?_⟩,o,fun g bd=>?_,fun k j m=>?_,fun k m=>?_⟩
  ·rcases d with d|⟨b,off,us,d,y,B⟩
   ·exact .inl d
   ·exact .inr ⟨b,off,us,d,Cb aq.A _ _ y,JT aq sz xs us ad.2 B⟩
  ·obtain⟨n,u,G,H,F⟩:=y g bd;subst bd;obtain⟨n',E,f1,f2⟩:=aq.ow g n u ad.1 G;refine⟨n',E,f1,?_⟩;rcases f2 with⟨rfl,rfl⟩|f2
   ·exact⟨H,F⟩
   ·exact⟨Ω,fun e=>Ω⟩
  ·have:=A k j m;subst m;exact wc aq.A aq.sh _ _ _ _ (fun b=>aq.tr k j b ad.1) this
  ·have:=z k m;subst m;exact wc aq.A aq.sh _ _ _ _ (fun b=>aq.tr k 0 b ad.1) this
 | .agg cs,v,ad,h=>by simp only[aU,aA]at h ad⊢;obtain⟨us,J,U⟩:=h;exact⟨us,J,JW aq cs _ ad U⟩
 | .ptr key off,v,ad,h=>by simp only[aU,aA]at h ad⊢;obtain⟨b,J,U⟩:=h;exact⟨b,aq.bx _ _ ad J,U⟩
 | .iface t x,v,ad,h=>by simp only[aU,aA]at h ad⊢;obtain⟨u,J,U⟩:=h;exact⟨u,J,kL aq x u ad U⟩
 | .eptr x,v,ad,h=>by simp only[aU,aA]at h ad⊢;obtain⟨b,off,u,J,U,l⟩:=h;exact⟨b,off,u,J,kL aq x u ad U,Cb aq.A _ _ l⟩
 | .nilp,_,_,h=>by simp only[aU]at h⊢;exact h
 | .tuple bk,v,ad,h=>by simp only[aU,aA]at h ad⊢;obtain⟨us,J,U⟩:=h;exact⟨us,J,Aq aq bk _ ad U⟩
 | .func f dH,v,ad,h=>by simp only[aU,aA]at h ad⊢;obtain⟨us,J,U⟩:=h;exact⟨us,J,Aq aq dH _ ad U⟩
 | .gmap key,v,ad,h=>by simp only[aU,aA]at h ad⊢;obtain⟨b,J,U⟩:=h;exact⟨b,aq.bx _ _ ad J,U⟩
 | .row sz key n,v,ad,h=>by
  simp only[aU,aA]at h ad⊢;obtain⟨J,U,n',u,l,d,o⟩:=h;obtain⟨r,q,f1,f2⟩:=aq.ow key n' u ad l;refine⟨J,U,r,q,f1,?_⟩;rcases f2 with⟨rfl,rfl⟩|f2
  ·exact⟨d,o⟩
  ·exact⟨Ω,fun e=>Ω⟩
 | .rptr sz key n i f,v,ad,h=>by
  simp only[aU,aA]at h ad⊢;obtain⟨J,U,n',u,l,d,o⟩:=h;obtain⟨r,q,f1,f2⟩:=aq.ow key n' u ad l;refine⟨J,U,r,q,f1,?_⟩;rcases f2 with⟨rfl,rfl⟩|f2
  ·exact⟨d,o⟩
  ·exact⟨Ω,fun e=>Ω⟩
 | .hdm _ _,_,_,h=>by simp only[aU]at h
 | .hdi _ _ _,_,_,h=>by simp only[aU]at h
 | .cst c,_,_,h=>by simp only[aU]at h⊢;exact h
def JW{S:aB->Prop}{w w':World}{ν bm:bc}(aq:ov S w ν w' bm):∀(cs:List af) (us:List Value),aH S cs->cW w ν cs us->cW w' bm cs us
 |[],_,_,h=>by simp only[cW]at h⊢;exact h
 |c::cs,us,ad,h=>by simp only[cW,aH]at h ad⊢;obtain⟨u,a,J,U,b⟩:=h;exact⟨u,a,J,⟨kL aq c u ad.1 U.1,U.2⟩,JW aq cs a ad.2 b⟩
def Aq{S:aB->Prop}{w w':World}{ν bm:bc}(aq:ov S w ν w' bm):∀(cs:List af) (us:List Value),aH S cs->cZ w ν cs us->cZ w' bm cs us
 |[],_,_,h=>by simp only[cZ]at h⊢;exact h
 |c::cs,us,ad,h=>by simp only[cZ,aH]at h ad⊢;obtain⟨u,a,J,U,b⟩:=h;exact⟨u,a,J,kL aq c u ad.1 U,Aq aq cs a ad.2 b⟩
def JT{S:aB->Prop}{w w':World}{ν bm:bc}(aq:ov S w ν w' bm)(sz:Nat):∀(xs:List af) (us:List Value),aH S xs->dv w ν sz xs us->dv w' bm sz xs us
 |[],_,_,h=>by simp only[dv]at h⊢;exact h
 |x::xs,us,ad,h=>by simp only[dv,aH]at h ad⊢;obtain⟨u,a,J,⟨U,c,d⟩,b⟩:=h;exact⟨u,a,J,⟨kL aq x u ad.1 U,c,d⟩,JT aq sz xs a ad.2 b⟩
end
def Qg{S:aB->Prop}{w w':World}{ν bm:bc}(aq:ov S w ν w' bm){cs:List af}{us:List Value}(ad:aH S cs)(h:k4 w ν cs us):k4 w' bm cs us:=by
 unfold k4 at h⊢;split
 ·simp only[aH]at ad;exact⟨Aq aq _ _ ad.2 h.1,h.2⟩
 ·simp only[aH]at ad;exact Aq aq _ _ ad.2 h
 ·rename_i J U;split at h
  ·exact absurd rfl (J _ _ _)
  ·exact absurd rfl (U _ _ _ _)
  ·exact JW aq _ _ ad h
section
variable {w w':World} {ν bm:bc} (aq:mB w ν w' bm)
include aq
theorem Ar{p:af}{v:Value}(h:aU w ν p v):aU w' bm p v:=kL aq p v (IJ p) h
theorem abM{p:List af}{v:List Value}(h:cW w ν p v):cW w' bm p v:=JW aq p v (wG p) h
theorem JY{p:List af}{v:List Value}(h:cZ w ν p v):cZ w' bm p v:=Aq aq p v (wG p) h
theorem rU{p:List af}{v:List Value}(h:k4 w ν p v):k4 w' bm p v:=Qg aq (wG p) h
theorem CR{sz:Nat}{p:List af}{v:List Value}(h:dv w ν sz p v):dv w' bm sz p v:=JT aq sz p v (wG p) h
end
end
section
open Go Go.RowKit
def get(k:Nat):List (Nat×af)->af
 |[]=>.junk
 |(i,p)::r=>if i=k then p else get k r
def put(k:Nat)(p:af):List (Nat×af)->List (Nat×af)
 |[]=>[(k,p)]
 |(i,q)::r=>if i=k then(i,p)::r else(i,q)::put k p r
def ae{α:Type}(k:aB):List (aB×α)->Option α
 |[]=>none
 |(i,p)::r=>if i=k then some p else ae k r
def cL{α:Type}(k:aB)(p:α):List (aB×α)->List (aB×α)
 |[]=>[(k,p)]
 |(i,q)::r=>if i=k then(i,p)::r else(i,q)::cL k p r
def qK(k j:Nat)(p:af):∀l,get j (put k p l)=if k=j then p else get j l
 |[]=>by simp[get,put]
 |(i,q)::r=>by
  by_cases h:i=k
  ·subst h;by_cases U:i=j<;>simp[get,put,U]
  ·by_cases U:i=j
   ·subst U;simp[get,put,h,Ne.symm h]
   ·simp[get,put,h,U,qK k j p r]
def jj{α:Type}(k j:aB)(p:α):∀l,ae j (cL k p l)=if k=j then some p else ae j l
 |[]=>by simp[ae,cL]
 |(i,q)::r=>by
  by_cases h:i=k
  ·subst h;by_cases U:i=j<;>simp[ae,cL,U]
  ·by_cases U:i=j
   ·subst U;simp[ae,cL,h,Ne.symm h]
   ·simp[ae,cL,h,U,jj k j p r]
structure dT where
 n:Nat
 el:Nat
 sz:Nat
 xs:Option (List af)
def Qm(w:World)(ν:bc)(o:dT)(v:Value)(us:List Value):Prop:=∀xs,o.xs=some xs->xs.length=o.n/\dv w ν o.sz xs us/\∀bl,v.ownBlock=some bl->∀j,¬ν.A bl j
def ue{w w':World}{ν bm:bc}(aq:mB w ν w' bm){o:dT}{v:Value}{us:List Value}(c:∀bl,v.ownBlock=some bl->∀j,bm.A bl j->ν.A bl j)(h:Qm w ν o v us):Qm w' bm o v us:=fun xs a=>⟨(h xs a).1,CR aq (h xs a).2.1,fun bl b j d=>(h xs a).2.2 bl b j (c bl b j d)⟩
def dW(S:aB->Prop)(o:dT):Prop:= ∀xs,o.xs=some xs->aH S xs
structure bo where
 t:List (Nat×af)
 b:List (aB×List af)
 e:List (aB×dT)
 n:Nat
 o:List aB
def fresh(n:Nat)(o:List aB)(k:aB):Prop:=(match k with| .loc m=>n<=m| .obj _=>True)/\k∉o
def MF{n n':Nat}{o o':List aB}(a:n<=n')(aq:∀k∈o,k∈o'){k:aB}(h:fresh n' o' k):fresh n o k:=by unfold fresh at h⊢;exact⟨by cases k<;>simp at h⊢;omega,fun ad=>h.2 (aq k ad)⟩
def C5(ν:bc)(b:List (aB×List af))(e:List (aB×dT))(bl:Nat):Prop:=(∃k,(ae k b).isSome/\ν.bx k=some bl)\/(∃g n v,(ae g e).isSome/\ν.ow g=some (n,v)/\v.ownBlock=some bl)
structure Good (pr:Nat->Prop) (w:World) (ν:bc) (b:List (aB×List af)) (e:List (aB×dT)):Prop where
 alt:∀bl o,ν.A bl o->bl<w.heap.size
 box:∀k cs,ae k b=some cs->∃bl us el,ν.bx k=some bl/\pr bl/\(∀o,¬ν.A bl o)/\w.heap[bl]? =some (l2 cs us el)/\k4 w ν cs us.toList
 inj:∀k bs bl,(ae k b).isSome->(ae bs b).isSome->ν.bx k=some bl->ν.bx bs=some bl->k=bs
 own:∀g o,ae g e=some o->∃v us,ν.ow g=some (o.n,v)/\w.ownsRow 0 o.el o.sz v o.n us/\(∀bl,v.ownBlock=some bl->pr bl/\(∀j,ν.A bl j->j<o.n*o.sz))/\Qm w ν o v us
 oinj:∀g fA n n' v v' bl,(ae g e).isSome->(ae fA e).isSome->ν.ow g=some (n,v)->ν.ow fA=some (n',v')->v.ownBlock=some bl->v'.ownBlock=some bl->g=fA
 obx:∀g k n v bl,(ae g e).isSome->(ae k b).isSome->ν.ow g=some (n,v)->v.ownBlock=some bl->ν.bx k=some bl->eb
 one:∀k,ν.bx k=none\/ν.ow k=none
 otr:∀bl,C5 ν b e bl->∀k j,¬ν.tr k j bl
structure fj where
 w0:World
 ν0:bc
 mt:Nat->Prop
 N:Nat
 ob:List aB
def fj.pr(C:fj)(bl:Nat):Prop:=C.mt bl\/C.w0.heap.size<=bl
def ef:aB:= .obj 990001
def q6:aB:= .obj 990002
structure o3 (C:fj) (w:World) (ν:bc):Prop where
 os:w.os=C.w0.os
 tape:w.tape=C.w0.tape
 output:w.output=C.w0.output
 size:C.w0.heap.size<=w.heap.size
 block:∀k,k<C.w0.heap.size->¬C.mt k->w.heap[k]? =C.w0.heap[k]?
 keep:∀b o,C.ν0.A b o->ν.A b o/\w.cell? ⟨b,o,none⟩=C.w0.cell? ⟨b,o,none⟩
 fresh:∀b o,ν.A b o->C.ν0.A b o\/C.pr b
 obj:∀n b,C.ν0.bx (.obj n)=some b->ν.bx (.obj n)=some b
 obn:∀n b,C.ν0.bx (.obj n)=some b-> .obj n∈C.ob
 row:∀m n u,C.ν0.ow (.obj m)=some (n,u)->∃n' eJ,ν.ow (.obj m)=some (n',eJ)/\(n'=n/\eJ=u\/n<n')
 obr:∀m n u,C.ν0.ow (.obj m)=some (n,u)-> .obj m∈C.ob
 trd:∀k j bs dg b,ν.tr k j b->ν.tr bs dg b->k=bs/\j=dg
 trb:∀k j b,ν.tr k j b->(k=ef\/C.w0.heap.size<=b)/\b<w.heap.size
 trn:∀k j b,ν.tr k j b->ν.bx k=none/\ν.ow k=none
 sh:∀b o,C.ν0.A b o->shape w b=shape C.w0 b
def FR{ν bm:bc}{g:aB}{n:Nat}{u:Value}(h:∃n' a,ν.ow g=some (n',a)/\(n'=n/\a=u\/n<n'))(aq:∀n u,ν.ow g=some (n,u)->∃n' a,bm.ow g=some (n',a)/\(n'=n/\a=u\/n<n')):
  ∃n' a,bm.ow g=some (n',a)/\(n'=n/\a=u\/n<n'):=by
 obtain⟨e,d,i,b⟩:=h;obtain⟨f,c,f1,f2⟩:=aq e d i;refine⟨f,c,f1,?_⟩;rcases b with⟨rfl,rfl⟩|b
 ·exact f2
 ·rcases f2 with⟨rfl,rfl⟩|f2
  ·exact .inr b
  ·exact .inr Ω
structure c9 (C:fj) (st:bo) (a:Act) (w:World) (ν:bc):Prop where
 good:Good C.pr w ν st.b st.e
 fr:o3 C w ν
 defers:a.defers=[]
 size:a.tmps.size=C.N
 slot:∀i,aU w ν (get i st.t) (a.tmps.getD i undef)
 new:∀k,fresh st.n st.o k->ν.bx k=none/\ν.ow k=none/\∀j b,¬ν.tr k j b
def e9(d:Option Nat)(p:af)(t:List (Nat×af)):List (Nat×af):=
 match d with
 |some d=>put d p t
 |none=>t
def j8(N:Nat)(d:Option Nat):Bool:=match d with|some d=>decide (d<N)|none=>true
def c9.put{C:fj}{st:bo}{a:Act}{w:World}{ν:bc}(h:c9 C st a w ν){d:Option Nat}(f:j8 C.N d=true){p:af}{v:Value}(c:aU w ν p v):
  c9 C {st with t:=e9 d p st.t} (a.put d v) w ν:=by
 cases d with
 |none=>exact h
 |some d=>
  have b:d<a.tmps.size:=by rw[h.size];simpa[j8]using f
  refine⟨h.good,h.fr,h.defers,by simpa[Act.put]using h.size,fun i=>?_,h.new⟩;simp only[e9,qK];by_cases e:d=i
  ·subst e;simpa[Act.put,vz,b]using c
  ·have:=h.slot i;simpa[e,Act.put,vz,Array.getElem?_setIfInBounds_ne e]using this
def c9.over{C:fj}{st st':bo}{a:Act}{w w':World}{ν bm:bc}(h:c9 C st a w ν)(aq:mB w ν w' bm)(d:st'.t=st.t)(bd:Good C.pr w' bm st'.b st'.e)(e:o3 C w' bm)
  (c:∀k,fresh st'.n st'.o k->bm.bx k=none/\bm.ow k=none/\∀j b,¬bm.tr k j b):c9 C st' a w' bm:=
 ⟨bd,e,h.defers,h.size,fun i=>by rw[d];exact Ar aq (h.slot i),c⟩
inductive dR where
 |t (i:Nat)
 |c (p:af)
 deriving Inhabited
def cD(t:List (Nat×af)):dR->af
 | .t i=>get i t
 | .c p=>p
def GM:af->Value->Bool
 | .int k n,.int bs n'=>decide (k=bs/\n=n')
 | .bool b,.bool b0=>b==b0
 | .str s,.string l=>decide (l.data.toList=s/\s.length<=lim)
 | .slice _ .nil [],.slice none 0 0=>true
 | .nilp,.pointer none=>true
 | .tuple [],.tuple ⟨[]⟩=>true
 | .func f [],.func (.func g) ⟨[]⟩ ⟨[]⟩=>f==g
 | .junk,_=>true
 |_,_=>false
def Sl(w:World)(ν:bc){p:af}{v:Value}(h:GM p v=true):aU w ν p v:=by
 unfold GM at h;split at h
 ·simp at h;obtain⟨rfl,rfl⟩:=h;simp[aU]
 ·simp at h;subst h;simp[aU]
 ·rename_i s l;simp at h;obtain⟨J,U⟩:=h;refine⟨?_,U⟩;subst J;simp
 ·simp only[aU];refine⟨⟨none,0,rfl,Ψ,Ψ,Ψ⟩,Ψ,(fun _ h=>by cases h),(fun _ _ h=>by cases h),(fun _ h=>by cases h)⟩
 ·simp[aU]
 ·simp[aU,cZ]
 ·simp at h;subst h;simp[aU,cZ]
 ·simp[aU]
 ·cases h
def AY:List af->List Value->Bool
 |[],[]=>true
 |p::a,v::bk=>GM p v&&v.oneCell'&&AY a bk
 |_,_=>false
def AX:af->Value->Bool
 | .agg cs,.agg us=>AY cs us.toList
 |p,v=>GM p v
def Sm(w:World)(ν:bc):∀(a:List af) (bk:List Value),AY a bk=true->cW w ν a bk
 |[],[],_=>by simp[cW]
 |[],_::_,h=>by simp[AY]at h
 |_::_,[],h=>by simp[AY]at h
 |p::a,v::bk,h=>by simp only[AY,cO]at h;simp only[cW];exact⟨v,bk,rfl,⟨Sl w ν h.1.1,h.1.2⟩,Sm w ν a bk h.2⟩
def Lk(w:World)(ν:bc){p:af}{v:Value}(h:AX p v=true):aU w ν p v:=by
 unfold AX at h;split at h
 ·simp only[aU];exact⟨_,rfl,Sm w ν _ _ h⟩
 ·exact Sl w ν h
def eR:dR->Operand->Bool
 | .t i,.tmp j=>i==j
 | .c p,.const v=>AX p v
 | .c (.func f []),.func g=>f==g
 |_,_=>false
def e7{C:fj}{st:bo}{a:Act}{w:World}{ν:bc}(h:c9 C st a w ν){x:dR}{o:Operand}(b:eR x o=true):aU w ν (cD st.t x) (a.eval o):=by
 unfold eR at b;split at b
 ·simp at b;subst b;simpa[cD,Act.eval]using h.slot _
 ·simpa[cD,Act.eval]using Lk w ν b
 ·simp at b;subst b;simp[cD,Act.eval,aU,cZ]
 ·cases b
inductive Dr where
 |int (k:IntKind)
 |bool
 |str
 |slice (e:Nat)
 |struct (en:List (Nat×Nat))
 |map (k e:Nat)
 |other
 deriving DecidableEq
structure et where
 size:Nat
 bytes:Nat
 kind:Dr
 zero:af
def Dr.isAgg:Dr->Bool
 | .struct _=>true
 |_=>false
def Di:List af->List Value->Bool
 |[],[]=>true
 |p::a,v::bk=>AX p v&&v.oneCell'&&Di a bk
 |_,_=>false
def AK:af->Value->Bool
 | .agg cs,.agg us=>Di cs us.toList
 | .agg _,_=>false
 |p,v=>AX p v&&v.oneCell'
def k9:Dr->TypeDesc->Bool
 | .int k,.int bs=>decide (k=bs)
 | .bool,.bool=>true
 | .str,.string=>true
 | .slice e,.slice a=>e==a
 | .struct b,.struct gs=>decide (gs.toList.map (fun f=>(f.offset,f.type))=b)
 | .map k e,.map bs a=>k==bs&&e==a
 | .other,d=>match d with| .struct _| .array _ _| .int _| .bool| .string| .slice _=>false|_=>true
 |_,_=>false
def VN(P:cG)(gs:Array Field):Bool:=gs.toList.all fun f=>match P.underlying f.type with|some (.int _)=>true|some .string=>true|_=>false
def Uy(P:cG)(t:Nat)(gs:Array Field):Bool:=gs.toList.all (fun f=>f.name != "_")&& !P.stoodInHeld t&& !P.eqGuardType P.depth t
def LW(P:cG)(t:Nat):TypeDesc->Bool
 | .struct gs=> !VN P gs||Uy P t gs
 |_=>true
def Q6(P:cG)(t:Nat)(f:et):Bool:=
 match P.info? t,P.underlying t with
 |some i,some d=>LW P t d&&i.size==f.size&&i.bytes==f.bytes&&k9 f.kind d&&(match i.zero with|some z=>AK f.zero z&&z.cells.size==f.size|none=>false)
 |_,_=>false
def hR(P:cG)(aS:List (Nat×et)):Bool:=aS.all fun x=>Q6 P x.1 x.2
def eG(aS:List (Nat×et))(t:Nat):Option et:=(aS.find? fun x=>x.1==t).map (·.2)
def ar9{P:cG}{aS:List (Nat×et)}(h:hR P aS=true){t:Nat}{f:et}(b:eG aS t=some f):Q6 P t f=true:=by
 unfold eG at b;cases a:aS.find? fun x=>x.1==t with
 |none=>simp[a]at b
 |some x=>simp[a]at b;have J:=List.find?_some a;simp at J;have U:=List.mem_of_find?_eq_some a;have c:=j5.1 h x U;rw[<-b,<-J];exact c
structure aec (P:cG) (t:Nat) (f:et):Prop where
 cmp:∀d,P.underlying t=some d->LW P t d=true
 ex:∃i d z,P.info? t=some i/\P.underlying t=some d/\i.size=f.size/\i.bytes=f.bytes/\k9 f.kind d=true/\i.zero=some z/\AK f.zero z=true/\z.cells.size=f.size
def w7{P:cG}{aS:List (Nat×et)}(h:hR P aS=true){t:Nat}{f:et}(l:eG aS t=some f):aec P t f:=by
 have h:=ar9 h l;unfold Q6 at h;split at h
 ·rename_i i d J U;simp only[cO,eA]at h;obtain⟨⟨⟨⟨g,j⟩,k⟩,e⟩,a⟩:=h;split at a
  ·rename_i z c;simp only[cO,eA]at a;exact⟨fun m b=>by rw[U]at b;cases b;exact g,i,d,z,J,U,j,k,e,c,a.1,a.2⟩
  ·cases a
 ·cases h
def pV(b o j:Nat):(⟨b,o,none⟩:Addr).add j=⟨b,o+j,none⟩:=by
 unfold Addr.add;split
 ·rename_i h;subst h;rfl
 ·rfl
def Rw(w:World)(ν:bc):∀(a:List af) (bk:List Value),Di a bk=true->cW w ν a bk
 |[],[],_=>by simp[cW]
 |[],_::_,h=>by simp[Di]at h
 |_::_,[],h=>by simp[Di]at h
 |p::a,v::bk,h=>by simp only[Di,cO]at h;simp only[cW];exact⟨v,bk,rfl,⟨Lk w ν h.1.1,h.1.2⟩,Rw w ν a bk h.2⟩
def cells:af->List af
 | .agg cs=>cs
 |p=>[p]
def eS:af->Bool
 | .junk| .tuple _=>false
 | .cst (.slice _ _ _)| .cst (.string _)=>true
 | .cst _=>false
 |_=>true
def Qk{w:World}{ν:bc}{p:af}{v:Value}(h:aU w ν p v)(d:eS p=true)(e:∀cs,p≠ .agg cs):v.oneCell'=true/\v.cells= #[v]:=by
 cases p<;>simp only[aU,eS]at h d;case junk=>cases d
 case tuple=>cases d
 case cst c=>subst h;cases v<;>first|exact⟨rfl,rfl⟩|cases d
 case agg cs=>exact absurd rfl (e cs)
 case int=>subst h;exact⟨rfl,rfl⟩
 case bool=>subst h;exact⟨rfl,rfl⟩
 case str=>rw[h.1];exact⟨rfl,rfl⟩
 case slice=>obtain⟨⟨a,cap,J,_⟩,_⟩:=h;subst J;exact⟨rfl,rfl⟩
 case ptr=>obtain⟨b,_,J⟩:=h;subst J;exact⟨rfl,rfl⟩
 case eptr=>obtain⟨b,o,u,J,_⟩:=h;subst J;exact⟨rfl,rfl⟩
 case iface=>obtain⟨u,J,_⟩:=h;subst J;exact⟨rfl,rfl⟩
 case nilp=>subst h;exact⟨rfl,rfl⟩
 case func=>obtain⟨us,J,_⟩:=h;subst J;exact⟨rfl,rfl⟩
 case gmap=>obtain⟨b,_,J⟩:=h;subst J;exact⟨rfl,rfl⟩
 case row=>obtain⟨⟨a,cap,J⟩,_⟩:=h;subst J;exact⟨rfl,rfl⟩
 case rptr=>obtain⟨⟨a,o,J⟩,_⟩:=h;subst J;exact⟨rfl,rfl⟩
def wY{w:World}{ν:bc}{p:af}{v:Value}(h:aU w ν p v)(c:eS p=true):cW w ν (cells p) v.cells.toList:=by
 by_cases b:∃cs,p= .agg cs
 ·obtain⟨cs,rfl⟩:=b;simp only[aU]at h;obtain⟨us,rfl,U⟩:=h;simpa[cells,pK]using U
 ·have a:∀cs,p≠ .agg cs:=fun cs e=>b ⟨cs,e⟩;obtain⟨J,U⟩:=Qk h c a;have ay:cells p=[p]:=by cases p<;>first|rfl|exact absurd rfl (a _)
  rw[ay,U];simp only[cW];exact⟨v,[],rfl,⟨h,J⟩,rfl⟩
def CT{w:World}{ν:bc}:∀{a:List af} {bk:List Value},cW w ν a bk->∀c∈bk,c.oneCell'=true
 |[],bk,h=>by simp only[cW]at h;subst h;simp
 |p::a,bk,h=>by
  simp only[cW]at h;obtain⟨u,b,rfl,J,U⟩:=h;intro c ay;rcases gJ.1 ay with rfl|ay
  ·exact J.2
  ·exact CT U c ay
def q5{w:World}{ν:bc}:∀{a:List af} {bk:List Value},cW w ν a bk->bk.length=a.length
 |[],bk,h=>by simp only[cW]at h;subst h;rfl
 |p::a,bk,h=>by simp only[cW]at h;obtain⟨u,b,rfl,_,U⟩:=h;simp[q5 U]
def CS{w:World}{ν:bc}:∀(n:Nat) {a:List af} {bk:List Value},cW w ν a bk->cW w ν (a.drop n) (bk.drop n)
 |0,_,_,h=>by simpa using h
 |n+1,[],bk,h=>by simp only[cW]at h;subst h;simp[cW]
 |n+1,p::a,bk,h=>by simp only[cW]at h;obtain⟨u,b,rfl,_,U⟩:=h;simpa using CS n U
def FN{w:World}{ν:bc}:∀(n:Nat) {a:List af} {bk:List Value},cW w ν a bk->cW w ν (a.take n) (bk.take n)
 |0,_,_,_=>by simp[cW]
 |n+1,[],bk,h=>by simp only[cW]at h;subst h;simp[cW]
 |n+1,p::a,bk,h=>by simp only[cW]at h;obtain⟨u,b,rfl,J,U⟩:=h;simp only[List.take_succ_cons,cW];exact⟨u,_,rfl,J,FN n U⟩
def Ap{w:World}{ν:bc}:∀{b bV:List af} {bk us:List Value},cW w ν b bk->cW w ν bV us->cW w ν (b++bV) (bk++us)
 |[],bV,bk,us,h,a=>by simp only[cW]at h;subst h;simpa using a
 |p::b,bV,bk,us,h,a=>by simp only[cW]at h;obtain⟨u,c,rfl,J,U⟩:=h;simp only[b6,cW];exact⟨u,_,rfl,J,Ap U a⟩
def FM{w:World}{ν:bc}:∀(n:Nat) {b:List af} {bk:List Value} {p:af},cW w ν b bk->b[n]? =some p->∃v,bk[n]? =some v/\aU w ν p v/\v.oneCell'=true
 |n,[],_,p,_,a=>by simp at a
 |0,q::b,bk,p,h,a=>by simp only[cW]at h;obtain⟨u,c,rfl,J,_⟩:=h;simp at a;subst a;exact⟨u,rfl,J.1,J.2⟩
 |n+1,q::b,bk,p,h,a=>by simp only[cW]at h;obtain⟨u,c,rfl,_,U⟩:=h;simpa using FM n U (by simpa using a)
def CU{w:World}{ν:bc}:∀(n:Nat) {b:List af} {bk:List Value} {p:af},cZ w ν b bk->b[n]? =some p->∃v,bk[n]? =some v/\aU w ν p v
 |n,[],_,p,_,a=>by simp at a
 |0,q::b,bk,p,h,a=>by simp only[cZ]at h;obtain⟨u,c,rfl,J,_⟩:=h;simp at a;subst a;exact⟨u,rfl,J⟩
 |n+1,q::b,bk,p,h,a=>by simp only[cZ]at h;obtain⟨u,c,rfl,_,U⟩:=h;simpa using CU n U (by simpa using a)
def va{w:World}{A:Nat->Nat->Prop}{b:Nat}:∀{us:List Value} {off j:Nat} {u:Value},kZ w A b off us->us[j]? =some u->A b (off+j)/\w.cell? ⟨b,off+j,none⟩=some u
 |[],_,_,_,_,h=>by simp at h
 |x::us,off,0,u,a,h=>by simp at h;subst h;exact a.1
 |x::us,off,j+1,u,a,h=>by have:=va (j:=j) a.2 (by simpa using h);rwa[show off+1+j=off+(j+1)from by omega]at this
def IL{w:World}{A:Nat->Nat->Prop}{b:Nat}:∀(n:Nat) {us:List Value} {off:Nat},kZ w A b off us->kZ w A b (off+n) (us.drop n)
 |0,_,_,h=>by simpa using h
 |n+1,[],_,_=>by simp[kZ]
 |n+1,x::us,off,h=>by have:=IL n h.2;rw[show off+(n+1)=off+1+n from by omega];simpa using this
def IN{w:World}{A:Nat->Nat->Prop}{b:Nat}:∀(n:Nat) {us:List Value} {off:Nat},kZ w A b off us->kZ w A b off (us.take n)
 |0,_,_,_=>by simp[kZ]
 |n+1,[],_,_=>by simp[kZ]
 |n+1,x::us,off,h=>by simp only[List.take_succ_cons];exact⟨h.1,IN n h.2⟩
def ab3{P:cG}{w:World}{A:Nat->Nat->Prop}{b off:Nat}{us:List Value}(h:kZ w A b off us):(loadCells ⟨b,off,none⟩ us.length).run P w= .ok us.toArray w:=run_loadCells_list w _ us fun j v a=>by rw[pV];exact(va h a).2
def arf{P:cG}{w:World}{b off n:Nat}{us:Array Value}{el:gW}{fr:Nat×Nat}(h:w.heap[b]? =some (.cells us el fr))(e:off+n<=us.size):
  (loadCells ⟨b,off,none⟩ n).run P w= .ok ((us.toList.drop off).take n).toArray w:=by
 have d:((us.toList.drop off).take n).length=n:=by simp;omega
 have:=run_loadCells_list (P:=P) w ⟨b,off,none⟩ ((us.toList.drop off).take n) fun j v c=>by
  rw[pV];have a:j<n:=by have:=(fI.1 c).1;omega
  simp only[World.cell?,h,k6,hU,if_false];rw[List.getElem?_take]at c;simpa[a]using c
 rw[d]at this;exact this
def UP{α:Type}(l r:List α)(n sz:Nat)(h:l.length=sz):(l++r).drop ((n+1)*sz)=r.drop (n*sz):=by
 have e:(n+1)*sz=l.length+n*sz:=by rw[h,Nat.succ_mul,Nat.add_comm]
 rw[e,<-List.drop_drop];simp
def acH{α:Type}(l r:List α)(n sz:Nat)(h:l.length=sz):(l++r).take ((n+1)*sz)=l++r.take (n*sz):=by
 have e:(n+1)*sz=l.length+n*sz:=by rw[h,Nat.succ_mul,Nat.add_comm]
 rw[e,List.take_length_add_append]
def JS{w:World}{ν:bc}{sz:Nat}:∀(i:Nat) {xs:List af} {us:List Value} {p:af},dv w ν sz xs us->xs[i]? =some p->
  ∃u,aU w ν p u/\u.cells.size=sz/\u.cells.toList=(us.drop (i*sz)).take sz
 |i,[],_,p,_,a=>by simp at a
 |0,x::xs,us,p,h,a=>by
  simp only[dv]at h;obtain⟨u,b,rfl,⟨J,U,d⟩,_⟩:=h;simp at a;subst a;refine⟨u,J,U,?_⟩;have:u.cells.toList.length=sz:=by simpa using U
  simp[<-this]
 |i+1,x::xs,us,p,h,a=>by
  simp only[dv]at h;obtain⟨u,b,rfl,⟨_,U,_⟩,c⟩:=h;obtain⟨v,g1,g2,g3⟩:=JS i c (by simpa using a);refine⟨v,g1,g2,?_⟩;have:u.cells.toList.length=sz:=by simpa using U
  rw[g3,UP _ _ _ _ this]
def rV{w:World}{ν:bc}{sz:Nat}:∀{xs:List af} {us:List Value},dv w ν sz xs us->us.length=xs.length*sz
 |[],us,h=>by simp only[dv]at h;subst h;simp
 |x::xs,us,h=>by
  simp only[dv]at h;obtain⟨u,b,rfl,⟨_,U,_⟩,a⟩:=h;have:u.cells.toList.length=sz:=by simpa using U
  rw[qv,this,rV a,mZ,Nat.succ_mul];omega
def Ao{w:World}{ν:bc}{sz:Nat}:∀{xs:List af} {us:List Value},dv w ν sz xs us->∀c∈us,c.oneCell'=true
 |[],us,h=>by simp only[dv]at h;subst h;simp
 |x::xs,us,h=>by
  simp only[dv]at h;obtain⟨u,d,rfl,⟨_,_,b⟩,a⟩:=h;intro c ay;rcases jT.1 ay with ay|ay
  ·exact b c ay
  ·exact Ao a c ay
def FL{w:World}{ν:bc}{sz:Nat}:∀{b bV:List af} {bk us:List Value},dv w ν sz b bk->dv w ν sz bV us->dv w ν sz (b++bV) (bk++us)
 |[],bV,bk,us,h,a=>by simp only[dv]at h;subst h;simpa using a
 |p::b,bV,bk,us,h,a=>by simp only[dv]at h;obtain⟨u,c,rfl,J,U⟩:=h;simp only[b6,dv];exact⟨u,c++us,Ψ,J,FL U a⟩
def abI{w:World}{ν:bc}{sz:Nat}:∀(n:Nat) {xs:List af} {us:List Value},dv w ν sz xs us->dv w ν sz (xs.drop n) (us.drop (n*sz))
 |0,_,_,h=>by simpa using h
 |n+1,[],us,h=>by simp only[dv]at h;subst h;simp[dv]
 |n+1,x::xs,us,h=>by
  simp only[dv]at h;obtain⟨u,b,rfl,⟨_,U,_⟩,a⟩:=h;have:u.cells.toList.length=sz:=by simpa using U
  rw[UP _ _ _ _ this];simpa using abI n a
def abL{w:World}{ν:bc}{sz:Nat}:∀(n:Nat) {xs:List af} {us:List Value},dv w ν sz xs us->dv w ν sz (xs.take n) (us.take (n*sz))
 |0,_,_,_=>by simp[dv]
 |n+1,[],us,h=>by simp only[dv]at h;subst h;simp[dv]
 |n+1,x::xs,us,h=>by
  simp only[dv]at h;obtain⟨u,a,rfl,⟨J,U,c⟩,b⟩:=h;have:u.cells.toList.length=sz:=by simpa using U
  simp only[List.take_succ_cons,dv];refine⟨u,a.take (n*sz),?_,⟨J,U,c⟩,abL n b⟩;rw[acH _ _ _ _ this]
def qW(sz:Nat)(p:af):Prop:= ∃cs,p= .agg cs/\cs.length=sz
def Au(agg:Bool)(sz b n i f:Nat):Option dT->Option (Prop×af)
 |some ⟨n',_,a,some xs⟩=>if n'=n/\a=b then
   (match xs[i]? with
    |some p=>if agg then some (eS p=true/\f+sz<=(cells p).length,.agg (((cells p).drop f).take sz))else((cells p)[f]?).map fun q=>(eS p=true,q)
    |none=>none)else none
 |_=>none
def n9(b:List (aB×List af))(e:List (aB×dT))(agg:Bool)(sz:Nat):af->Option (Prop×af)
 | .rptr a k n i f=>Au agg sz a n i f (ae k e)
 | .ptr k off=>
  match ae k b with
  |some cs=>if agg then some (gZ cs=true/\off+sz<=cs.length,.agg ((cs.drop off).take sz))else(cs[off]?).map fun p=>(gZ cs=true,p)
  |none=>none
 | .eptr p=>if agg then some (qW sz p,p)else some (eS p=true/\cells p=[p],p)
 |_=>none
def D2(agg:Bool)(sz:Nat):af->Option (Prop×af)
 | .eptr p=>if agg then some (qW sz p,p)else some (eS p=true/\cells p=[p],p)
 |_=>none
def ai0{b:List (aB×List af)}{e:List (aB×dT)}{agg:Bool}{sz:Nat}{p:af}{r:Prop×af}(h:D2 agg sz p=some r):n9 b e agg sz p=some r:=by
 cases p<;>simp only[D2]at h<;>first|cases h;done|skip
 simpa only[n9]using h
def amQ{b:List (aB×List af)}{e:List (aB×dT)}{agg:Bool}{sz:Nat}{p:af}{r:Prop×af}(h:n9 b [] agg sz p=some r):n9 b e agg sz p=some r:=by cases p<;>simp only[n9]at h⊢ <;>first|exact h|(simp[ae,Au]at h)
def tc(off:Nat)(agg:Bool)(sz:Nat):af->Option (Prop×af)
 | .ptr k o=>some (True,.ptr k (o+off))
 | .rptr a k n i f=>some (True,.rptr a k n i (f+off))
 | .eptr (.agg cs)=>if agg then some (off+sz<=cs.length,.eptr (.agg ((cs.drop off).take sz)))else(cs[off]?).map fun p=>(eS p=true/\cells p=[p],.eptr p)
 |_=>none
def wa(off:Nat)(agg:Bool)(sz:Nat):af->Option (Prop×af)
 | .agg cs=>if agg then some (off+sz<=cs.length,.agg ((cs.drop off).take sz))else(cs[off]?).map fun p=>(True,p)
 |_=>none
def BZ(sz:Nat):af->af->Option (Prop×af)
 | .slice a _ xs,.int _ i=>if a=sz then some (0<=i/\i<xs.length,.eptr (xs.getD i.toNat .junk))else none
 | .row a k n,.int _ i=>if a=sz then some (0<=i/\i<n,.rptr a k n i.toNat 0)else none
 |_,_=>none
def Ke:af->af->Option (Prop×af)
 | .str s,.int _ i=>some (0<=i/\i<s.length,.int .u8 (s.getD i.toNat 0).toNat)
 |_,_=>none
def sJ(a:Int):Option af->Option Int
 |none=>some a
 |some (.int _ i)=>some i
 |_=>none
def Kj(x:af)(lo hi:Option af):Option (Prop×af):=
 match x with
 | .str s=>match sJ 0 lo,sJ s.length hi with
  |some l,some h=>some (0<=l/\l<=h/\h<=s.length,.str ((s.take h.toNat).drop l.toNat))
  |_,_=>none
 |_=>none
def IX(sz:Nat)(x:af)(lo hi:Option af):Option (Prop×af):=
 match x with
 | .slice a _ xs=>if a=sz then match sJ 0 lo,sJ xs.length hi with
  |some l,some h=>some (0<=l/\l<=h/\h<=xs.length,.slice sz .no ((xs.take h.toNat).drop l.toNat))
  |_,_=>none else none
 |_=>none
def tK(n:Int):Prop:= -9223372036854775808<=n/\n<=9223372036854775807
def It(op:BinOp)(wr:Bool)(k:IntKind)(a b:Int):Option (Prop×af):=
 match op with
 | .add=>if wr then some (True,.int k (k.wrap (a+b)))else some (k= .i64/\tK (a+b),.int .i64 (a+b))
 | .sub=>if wr then some (True,.int k (k.wrap (a-b)))else some (k= .i64/\tK (a-b),.int .i64 (a-b))
 | .mul=>if wr then some (True,.int k (k.wrap (a*b)))else some (k= .i64/\tK (a*b),.int .i64 (a*b))
 | .quo=>some (b≠0,.int k (k.wrap (a.tdiv b)))
 | .rem=>some (b≠0,.int k (a.tmod b))
 | .eql=>some (True,.bool (a==b))
 | .neq=>some (True,.bool (a !=b))
 | .lss=>some (True,.bool (decide (a<b)))
 | .leq=>some (True,.bool (decide (a<=b)))
 | .gtr=>some (True,.bool (decide (b<a)))
 | .geq=>some (True,.bool (decide (b<=a)))
 | .and=>some (True,.int k (k.wrap (r3 k.bits a&&& r3 k.bits b).toNat))
 | .or=>some (True,.int k (k.wrap (r3 k.bits a|||r3 k.bits b).toNat))
 | .xor=>some (True,.int k (k.wrap (r3 k.bits a ^^^ r3 k.bits b).toNat))
 |_=>none
def Kk(op:BinOp)(a b:List cV):Option (Prop×af):=
 match op with
 | .add=>some (a.length+b.length<=lim,.str (a++b))
 | .eql=>some (True,.bool (a==b))
 | .neq=>some (True,.bool (!(a==b)))
 | .lss=>some (True,.bool (iu a b))
 | .leq=>some (True,.bool (iu a b||a==b))
 | .gtr=>some (True,.bool (!(iu a b||a==b)))
 | .geq=>some (True,.bool (!iu a b))
 |_=>none
def Dy(op:BinOp)(wr:Bool):af->af->Option (Prop×af)
 | .int k a,.int bs b=>match op with
  | .shl=>some (0<=b,.int k (k.wrap (a*2 ^ (min b.toNat k.bits))))
  | .shr=>some (0<=b,.int k (a.fdiv (2 ^ (min b.toNat k.bits))))
  |_=>if k=bs then It op wr k a b else none
 | .str a,.str b=>Kk op a b
 |_,_=>none
def nI(cs:List af)(off:Nat)(a:List af):List af:=cs.take off++a++cs.drop (off+a.length)
def vU(t:List (Nat×af)):List af->List (Nat×Nat×dR)->Option (Prop×List af)
 |cs,[]=>some (True,cs)
 |cs,(off,sz,x)::r=>
  let p:=cD t x
  match vU t (nI cs off (cells p)) r with
  |some (c,cs')=>some ((eS p=true/\(cells p).length=sz/\off+sz<=cs.length)/\c,cs')
  |none=>none
def Js(c x y:af):Option (Prop×af):=
 match c with
 | .bool b=>match x,y with
  | .bool u,.bool v=>some (True,.bool (cond b u v))
  |p,q=>match b with
   |true=>some (True,p)
   |false=>some (True,q)
 |_=>none
def Jd:af->Option (Prop×af)
 | .bool b=>some (True,.bool (!b))
 |_=>none
def Ja:af->Option (Prop×af)
 | .int k n=>some (True,.int k (k.wrap (0-n)))
 |_=>none
def Bi(i:Nat):af->Option (Prop×af)
 | .tuple bk=>(bk[i]?).map fun p=>(True,p)
 |_=>none
def Cc:af->Option (Prop×af)
 | .slice _ _ xs=>some (True,.int .i64 xs.length)
 | .row _ _ n=>some (True,.int .i64 n)
 | .cst (.slice _ n _)=>some (True,.int .i64 n)
 |_=>none
def F1:af->Option (Prop×af)
 | .str s=>some (True,.int .i64 s.length)
 | .cst (.string s)=>some (True,.int .i64 s.size)
 |_=>none
def G9(k:IntKind):af->Option (Prop×af)
 | .int _ n=>some (True,.int k (k.wrap n))
 |_=>none
def si:List af->Option (List cV)
 |[]=>some []
 | .int .u8 n::r=>(si r).map (UInt8.ofNat n.toNat:: ·)
 |_=>none
def GI:af->Option (Prop×af)
 | .slice _ _ xs=>(si xs).map fun s=>(True,.str s)
 |_=>none
def Cq:af->Option (Prop×af)
 | .ptr k o=>some (True,.ptr k o)
 | .eptr p=>some (True,.eptr p)
 | .func f cs=>some (True,.func f cs)
 |_=>none
def I7:af->af->Option (Prop×af)
 | .int k a,.int bs b=>if k=bs then some (True,.int k (if b<a then b else a))else none
 |_,_=>none
def kR:List Bool->List af->List af->Option Bool
 |[],[],[]=>some true
 |false::r,.int k a::as,.int bs b::c=>if k=bs then(kR r as c).map fun q=>(a==b)&&q else none
 |true::r,.str a::as,.str b::c=>(kR r as c).map fun q=>(a==b)&&q
 |_,_,_=>none
inductive kj where
 |i
 |s
 |a (en:List Bool)
 deriving DecidableEq
def u5:kj->af->af->Option Bool
 | .i,.int k a,.int bs b=>if k=bs then some (a==b)else none
 | .s,.str a,.str b=>some (a==b)
 | .a c,.agg as,.agg d=>kR c as d
 |_,_,_=>none
def x7:kj->af->Bool
 | .a a,.agg as=>(kR a as as).isSome
 | .a _,_=>false
 |_,_=>true
@[simp]def Yd(k:af):x7 .i k=true:=by cases k<;>rfl
def yc(a:kj)(k:af):List af->Option (Option af)
 |bs::v::r=>match u5 a k bs with
  |some true=>some (some v)
  |some false=>yc a k r
  |none=>none
 |_=>some none
def pt(b:aB->Option (List af))(a:kj)(zero:af)(ok:Bool)(x k:af):Option (Prop×af):=
 match x with
 | .gmap key=>match b key with
  |some (.hdm _ _::kvs)=>if x7 a k=false then none else match yc a k kvs with
   |some (some v)=>some (True,if ok then .tuple [v,.bool true]else v)
   |some none=>some (True,if ok then .tuple [zero,.bool false]else zero)
   |none=>none
  |_=>none
 |_=>none
def Cp(b:aB->Option (List af))(x:af):Option (Prop×af):=
 match x with
 | .gmap key=>match b key with
  |some (.hdm _ borns::_)=>some (True,.int .i64 borns.length)
  |_=>none
 |_=>none
def js(neg:Bool):Option (List Bool)->af->af->Option (Prop×af)
 |none,.bool a,.bool b=>some (True,.bool (if neg then a !=b else a==b))
 |some c,.agg as,.agg d=>(kR c as d).map fun q=>(True,.bool (if neg then !q else q))
 |_,_,_=>none
def I1:af->af->Option (Prop×af)
 | .int k a,.int bs b=>if k=bs then some (True,.int k (if a<b then b else a))else none
 |_,_=>none
def wN(a:kj)(k v:af):List af->Option (Option (List af))
 |bs::v'::r=>match u5 a k bs with
  |some true=>some (some (k::v::r))
  |some false=>match wN a k v r with
   |some (some b)=>some (some (bs::v'::b))
   |some none=>some none
   |none=>none
  |none=>none
 |_=>some none
def oc(n:Nat):List Nat->List af->Option af
 |b::a,k::v::r=>if b=n then some (.tuple [k,v])else oc n a r
 |_,_=>none
def qZ(b:aB->Option (List af))(x:af):Option (Prop×af):=
 match x with
 | .ptr gk 0=>match b gk with
  |some [.hdi _ seen last,.gmap mk]=>match b mk with
   |some (.hdm clock borns::kvs)=>match seen.getLast? with
    |some n=>(oc n borns kvs).map fun p=>(clock=last,p)
    |none=>none
   |_=>none
  |_=>none
 |_=>none
def Y7{f g:aB->Option (List af)}(h:∀k,f k≠none->g k=f k){b:kj}{zero:af}{ok:Bool}{x k:af}{r:Prop×af}(he:pt f b zero ok x k=some r):pt g b zero ok x k=some r:=by
 unfold pt at he⊢;split at he
 ·rename_i key;cases a:f key with
  |none=>simp[a]at he
  |some cs=>rw[h key (by rw[a];simp),a];rw[a]at he;exact he
 ·cases he
def ant{f g:aB->Option (List af)}(h:∀k,f k≠none->g k=f k){x:af}{r:Prop×af}(he:Cp f x=some r):Cp g x=some r:=by
 unfold Cp at he⊢;split at he
 ·rename_i key;cases a:f key with
  |none=>simp[a]at he
  |some cs=>rw[h key (by rw[a];simp),a];rw[a]at he;exact he
 ·cases he
def am5{f g:aB->Option (List af)}(h:∀k,f k≠none->g k=f k){x:af}{r:Prop×af}(he:qZ f x=some r):qZ g x=some r:=by
 unfold qZ at he⊢;split at he
 ·rename_i gk;cases b:f gk with
  |none=>simp[b]at he
  |some cs=>
   simp only[h gk (by rw[b];simp),b]at he⊢;split at he
   ·rename_i since seen last mk d;cases a:f mk with
    |none=>simp[a]at he
    |some c=>simp only[h mk (by rw[a];simp),a]at he⊢;exact he
   ·cases he
 ·cases he
inductive gP where
 |mov (x:dR)
 |pick (c x y:dR)
 |load (agg:Bool) (sz:Nat) (x:dR)
 |faddr (off:Nat) (agg:Bool) (sz:Nat) (x:dR)
 |fld (off:Nat) (agg:Bool) (sz:Nat) (x:dR)
 |iaddr (sz:Nat) (x i:dR)
 |sidx (x i:dR)
 |ssl (x:dR) (lo hi:Option dR)
 |lsl (sz:Nat) (x:dR) (lo hi:Option dR)
 |bin (op:BinOp) (wr:Bool) (x y:dR)
 |notB (x:dR)
 |neg (x:dR)
 |conv (k:IntKind) (x:dR)
 |ext (i:Nat) (x:dR)
 |len (x:dR)
 |slen (x:dR)
 |build (zero:List af) (parts:List (Nat×Nat×dR))
 |nck (x:dR)
 |min2 (x y:dR)
 |mkf (n:Nat) (xs:List dR)
 |mget (cz:kj) (zero:af) (ok:Bool) (x k:dR)
 |ment (x:dR)
 |mlen (x:dR)
 |beq (neg:Bool) (en:Option (List Bool)) (x y:dR)
 |max2 (x y:dR)
 |mkif (t:Nat) (x:dR)
 |loadB (agg:Bool) (sz:Nat) (x:dR)
 |mgetB (cz:kj) (zero:af) (ok:Bool) (x k:dR)
 |loadZ (agg:Bool) (sz:Nat) (x:dR)
 |b2s (x:dR)
def hZ(st:bo):gP->Option (Prop×af)
 | .mov x=>some (True,cD st.t x)
 | .pick c x y=>Js (cD st.t c) (cD st.t x) (cD st.t y)
 | .load agg sz x=>n9 st.b st.e agg sz (cD st.t x)
 | .faddr off agg sz x=>tc off agg sz (cD st.t x)
 | .fld off agg sz x=>wa off agg sz (cD st.t x)
 | .iaddr sz x i=>BZ sz (cD st.t x) (cD st.t i)
 | .sidx x i=>Ke (cD st.t x) (cD st.t i)
 | .ssl x lo hi=>Kj (cD st.t x) (lo.map (cD st.t)) (hi.map (cD st.t))
 | .lsl sz x lo hi=>IX sz (cD st.t x) (lo.map (cD st.t)) (hi.map (cD st.t))
 | .bin op wr x y=>Dy op wr (cD st.t x) (cD st.t y)
 | .notB x=>Jd (cD st.t x)
 | .neg x=>Ja (cD st.t x)
 | .conv k x=>G9 k (cD st.t x)
 | .ext i x=>Bi i (cD st.t x)
 | .len x=>Cc (cD st.t x)
 | .slen x=>F1 (cD st.t x)
 | .build zero parts=>(vU st.t zero parts).map fun(c,cs)=>(c,.agg cs)
 | .nck x=>Cq (cD st.t x)
 | .min2 x y=>I7 (cD st.t x) (cD st.t y)
 | .mkf n xs=>some (True,.func n (xs.map (cD st.t)))
 | .mget a zero ok x k=>pt (fun k=>ae k st.b) a zero ok (cD st.t x) (cD st.t k)
 | .ment x=>qZ (fun k=>ae k st.b) (cD st.t x)
 | .mlen x=>Cp (fun k=>ae k st.b) (cD st.t x)
 | .beq neg b x y=>js neg b (cD st.t x) (cD st.t y)
 | .max2 x y=>I1 (cD st.t x) (cD st.t y)
 | .mkif t x=>some (True,.iface t (cD st.t x))
 | .loadB agg sz x=>n9 st.b [] agg sz (cD st.t x)
 | .mgetB a zero ok x k=>pt (fun k=>ae k st.b) a zero ok (cD st.t x) (cD st.t k)
 | .loadZ agg sz x=>D2 agg sz (cD st.t x)
 | .b2s x=>GI (cD st.t x)
def CD(aS:List (Nat×et))(a:List (Nat×Nat)):List (Nat×Nat×dR)->List (Nat×Operand)->Bool
 |[],[]=>true
 |(off,sz,x)::r,(i,o)::s=>(match a[i]? with|some (b,t)=>off==b&&((eG aS t).map (·.size))==some sz|none=>false)&&eR x o&&CD aS a r s
 |_,_=>false
def KL:af->af->Bool
 | .int k n,.int bs n'=>decide (k=bs/\n=n')
 | .bool b,.bool b0=>b==b0
 | .str [],.str []=>true
 | .slice a .nil [],.slice b .nil []=>a==b
 | .nilp,.nilp=>true
 | .junk,.junk=>true
 |_,_=>false
def AJ:List af->List af->Bool
 |[],[]=>true
 |c::cs,d::a=>KL c d&&AJ cs a
 |_,_=>false
def Dj:af->af->Bool
 | .agg cs,.agg a=>AJ cs a
 | .agg _,_=>false
 |p,q=>KL p q
def Ae:List dR->List Operand->Bool
 |[],[]=>true
 |x::xs,o::os=>eR x o&&Ae xs os
 |_,_=>false
def Bp(aS:List (Nat×et)):Nat->List Bool->List (Nat×Nat)->Bool
 |_,[],[]=>true
 |n,b::r,(off,t)::a=>off==n&&(match eG aS t with|some ⟨_,_,.int _,_⟩=> !b|some ⟨_,_,.str,_⟩=>b|_=>false)&&Bp aS (n+1) r a
 |_,_,_=>false
def HA(aS:List (Nat×et))(a:List Bool)(t:Nat):Bool:=match eG aS t with
 |some ⟨_,_,.struct gs,_⟩=>Bp aS 0 a gs
 |_=>false
def zT(aS:List (Nat×et))(b:kj)(t:Nat):Bool:=match b with
 | .i=>(match eG aS t with|some ⟨_,_,.int _,_⟩=>true|_=>false)
 | .s=>(match eG aS t with|some ⟨_,_,.str,_⟩=>true|_=>false)
 | .a a=>HA aS a t
def Rz:List af->af->Bool
 |cs,.agg a=>AJ cs a
 |_,_=>false
def yl:Option dR->Option Operand->Bool
 |none,none=>true
 |some x,some o=>eR x o
 |_,_=>false
def Gf(aS:List (Nat×et)):gP->Op->Bool
 | .mov x,.move o=>eR x o
 | .mov x,.assign o=>eR x o
 | .pick c x y,.pick v x' y'=>eR c v&&eR x x'&&eR y y'
 | .load agg sz x,.load t o=>(match eG aS t with|some f=>f.size==sz&&f.kind.isAgg==agg|none=>false)&&eR x o
 | .faddr off agg sz x,.fieldAddr s o i=>
  (match eG aS s with
   |some ⟨_,_,.struct a,_⟩=>(match a[i]? with|some (b,t)=>off==b&&(match eG aS t with|some f=>f.size==sz&&f.kind.isAgg==agg&&sz !=0|none=>false)|none=>false)
   |_=>false)&&eR x o
 | .fld off agg sz x,.field s o i=>
  (match eG aS s with
   |some ⟨_,_,.struct a,_⟩=>(match a[i]? with|some (b,t)=>off==b&&(match eG aS t with|some f=>f.size==sz&&f.kind.isAgg==agg|none=>false)|none=>false)
   |_=>false)&&eR x o
 | .iaddr sz x i,.indexAddr t o j=>(match eG aS t with|some ⟨_,_,.slice e,_⟩=>(match eG aS e with|some f=>f.size==sz|none=>false)|_=>false)&&eR x o&&eR i j
 | .sidx x i,.index t o j=>(match eG aS t with|some ⟨_,_,.str,_⟩=>true|_=>false)&&eR x o&&eR i j
 | .ssl x lo hi,.slice t o l h none=>(match eG aS t with|some ⟨_,_,.str,_⟩=>true|_=>false)&&eR x o&&yl lo l&&yl hi h
 | .lsl sz x lo hi,.slice t o l h none=>(match eG aS t with|some ⟨_,_,.slice e,_⟩=>(match eG aS e with|some f=>f.size==sz|none=>false)|_=>false)&&eR x o&&yl lo l&&yl hi h
 | .bin op _ x y,.binOp r _ o o' _=>decide (op=r)&&eR x o&&eR y o'
 | .notB x,.unOp op _ o=>decide (op= .not)&&eR x o
 | .neg x,.unOp op _ o=>decide (op= .neg)&&eR x o
 | .conv k x,.convert s d o=>(match eG aS s,eG aS d with|some ⟨_,_,.int _,_⟩,some ⟨_,_,.int bs,_⟩=>decide (k=bs)|_,_=>false)&&eR x o
 | .ext i x,.extract o j=>i==j&&eR x o
 | .len x,.call ⟨.builtin .len,⟨[o]⟩,⟨[t]⟩⟩=>(match eG aS t with|some ⟨_,_,.slice _,_⟩=>true|_=>false)&&eR x o
 | .slen x,.call ⟨.builtin .len,⟨[o]⟩,⟨[t]⟩⟩=>(match eG aS t with|some ⟨_,_,.str,_⟩=>true|_=>false)&&eR x o
 | .build zero parts,.build t w=>(match eG aS t with|some ⟨_,_,.struct a,z⟩=>Rz zero z&&(a.all fun x=>(eG aS x.2).isSome)&&CD aS a parts w.toList|_=>false)
 | .nck x,.nilCheck o=>eR x o
 | .min2 x y,.call ⟨.builtin .min,⟨[o,o']⟩,⟨[_,_]⟩⟩=>eR x o&&eR y o'
 | .mkf n xs,.makeFunc (.func m) ⟨[]⟩ os=>n==m&&Ae xs os.toList
 | .mget q zero ok x k,.lookup t o o' u=>ok==u&&(match eG aS t with|some ⟨_,_,.map p g,_⟩=>zT aS q p&&(match eG aS g with|some f=>Dj zero f.zero|none=>false)|_=>false)&&eR x o&&eR k o'
 | .ment x,.entry o=>eR x o
 | .mlen x,.call ⟨.builtin .len,⟨[o]⟩,⟨[t]⟩⟩=>(match eG aS t with|some ⟨_,_,.map _ _,_⟩=>true|_=>false)&&eR x o
 | .beq neg a x y,.binOp op t o o' _=>decide (op=if neg then .neq else .eql)&&(match a with|none=>(match eG aS t with|some ⟨_,_,.bool,_⟩=>true|_=>false)|some a=>HA aS a t)&&eR x o&&eR y o'
 | .max2 x y,.call ⟨.builtin .max,⟨[o,o']⟩,⟨[_,_]⟩⟩=>eR x o&&eR y o'
 | .mkif t x,.makeInterface t' o=>t==t'&&(match eG aS t with|some ⟨_,_,.slice _,_⟩=>true|_=>false)&&eR x o
 | .loadB agg sz x,.load t o=>(match eG aS t with|some f=>f.size==sz&&f.kind.isAgg==agg|none=>false)&&eR x o
 | .b2s x,.convert s d o=>(match eG aS s,eG aS d with|some ⟨_,_,.slice e,_⟩,some ⟨_,_,.str,_⟩=>(match eG aS e with|some ⟨_,_,.int .u8,_⟩=>true|_=>false)|_,_=>false)&&eR x o
 | .loadZ agg sz x,.load t o=>(match eG aS t with|some f=>f.size==sz&&f.kind.isAgg==agg|none=>false)&&eR x o
 | .mgetB q zero ok x k,.lookup t o o' u=>ok==u&&(match eG aS t with|some ⟨_,_,.map p g,_⟩=>zT aS q p&&(match eG aS g with|some f=>Dj zero f.zero|none=>false)|_=>false)&&eR x o&&eR k o'
 |_,_=>false
end
section
open Go Go.RowKit
def Mh(P:cG)(w:World)(op:BinOp)(t:gW)(x y:Operand)(k bs:IntKind)(m n:Int):(eqGuard op t x y (.int k m) (.int bs n)).run P w= .ok () w:=by cases op<;>rfl
def afW(P:cG)(w:World)(op:BinOp)(t:gW)(x y:Operand)(m n:ByteArray):(eqGuard op t x y (.string m) (.string n)).run P w= .ok () w:=by cases op<;>rfl
def ase(l:List cV):(⟨l.toArray⟩:ByteArray).toList=l:=Ψ
def aer(a b:List cV):(⟨a.toArray⟩:ByteArray)++(⟨b.toArray⟩:ByteArray)=⟨(a++b).toArray⟩:=by apply atZ;simp
def agS(a:List cV)(l h:Nat):(⟨a.toArray⟩:ByteArray).extract l h=⟨((a.take h).drop l).toArray⟩:=by apply atZ;simp[List.drop_take]
def F0(a:List cV):(⟨a.toArray⟩:ByteArray).size=a.length:=by simp[ayE]
section
variable {P:cG} {w:World} {r:Sem Value}
def te{k:IntKind}{x:Int}(h:r.run P w= .ok (.int k x) w):∃v,r.run P w= .ok v w/\∀ν,aU w ν (.int k x) v:=⟨_,h,fun ν=>by simp[aU]⟩
def Wq{x:Bool}(h:r.run P w= .ok (.bool x) w):∃v,r.run P w= .ok v w/\∀ν,aU w ν (.bool x) v:=⟨_,h,fun ν=>by simp[aU]⟩
end
def al1(P:cG)(w:World){op:BinOp}{wr:Bool}{k:IntKind}{a b:Int}{c:Prop}{p:af}(he:It op wr k a b=some (c,p))(ay:c)(t:gW):
  ∃v,(binOp op t (.int k a) (.int k b)).run P w= .ok v w/\∀ν,aU w ν p v:=by
 cases op<;>simp only[It]at he;case add=>
  cases wr<;>simp only[if_true,hU,if_false]at he<;>cases he
  ·obtain⟨rfl,h⟩:=ay;exact te (by simp[binOp,Op.intArith,pJ _ h])
  ·exact te (by simp[binOp,Op.intArith])
 case sub=>
  cases wr<;>simp only[if_true,hU,if_false]at he<;>cases he
  ·obtain⟨rfl,h⟩:=ay;exact te (by simp[binOp,Op.intArith,pJ _ h])
  ·exact te (by simp[binOp,Op.intArith])
 case mul=>
  cases wr<;>simp only[if_true,hU,if_false]at he<;>cases he
  ·obtain⟨rfl,h⟩:=ay;exact te (by simp[binOp,Op.intArith,pJ _ h])
  ·exact te (by simp[binOp,Op.intArith])
 case quo=>cases he;exact te (by simp[binOp,Op.intDiv,ay])
 case rem=>cases he;exact te (by simp[binOp,Op.intDiv,ay])
 case and=>cases he;exact te i6
 case or=>cases he;exact te i6
 case xor=>cases he;exact te i6
 all_goals cases he
 all_goals exact Wq (by simp only[binOp,Op.intCmp,ne_eq,not_true_eq_false,if_false,hs,gt_iff_lt,ge_iff_le])
def arV(P:cG)(w:World){op:BinOp}{a b:List cV}{c:Prop}{p:af}(he:Kk op a b=some (c,p))(ay:c)(t:gW):
  ∃v,(binOp op t (.string ⟨a.toArray⟩) (.string ⟨b.toArray⟩)).run P w= .ok v w/\∀ν,aU w ν p v:=by
 cases op<;>simp only[Kk]at he;case add=>
  cases he;refine⟨.string ⟨(a++b).toArray⟩,?_,fun ν=>by simp only[aU];exact⟨trivial,by simpa using ay⟩⟩;have J:¬(((⟨a.toArray⟩:ByteArray).size+(⟨b.toArray⟩:ByteArray).size:Nat):Int)>vB.max:=by
   have:vB.max=9223372036854775807:=by decide
   rw[this,F0,F0];simp only[lim]at ay;omega
  simp only[binOp,Op.stringOp,J,if_false,hs,aer]
 all_goals cases he
 all_goals exact Wq (by simp only[binOp,Op.stringOp,ase,hs])
def aeG(P:cG)(w:World)(ν:bc){op:BinOp}{wr:Bool}{x y:af}{c:Prop}{p:af}(he:Dy op wr x y=some (c,p))(ay:c)(t:gW){u v:Value}(hu:aU w ν x u)(d:aU w ν y v)(o o':Operand):
  ∃r,(do eqGuard op t o o' u v;binOp op t u v).run P w= .ok r w/\aU w ν p r:=by
 unfold Dy at he;split at he
 ·rename_i k a bs b;simp only[aU]at hu d;subst hu;subst d;split at he
  ·cases he;refine⟨_,?_,by simp[aU];rfl⟩;simp[binOp,Op.shift,Mh,Int.not_lt.2 ay]
  ·cases he;refine⟨_,?_,by simp[aU];rfl⟩;simp[binOp,Op.shift,Mh,Int.not_lt.2 ay]
  ·split at he
   ·rename_i ad;subst ad;obtain⟨r,J,U⟩:=al1 P w he ay t;exact⟨r,by simp[Mh,J],U ν⟩
   ·cases he
 ·simp only[aU]at hu d;rw[hu.1,d.1];obtain⟨r,J,U⟩:=arV P w he ay t;exact⟨r,by simp[afW,J],U ν⟩
 ·cases he
def MB{w:World}{ν:bc}:∀(v:List Value) (i off:Nat) (cs:Array Value),off+i+v.length<=cs.size->
  ((v.zipIdx i).foldl (fun cs (x:Value×Nat)=>cs.setIfInBounds (off+x.2) x.1) cs).toList=cs.toList.take (off+i)++v++cs.toList.drop (off+i+v.length)
 |[],i,off,cs,_=>by simp
 |u::v,i,off,cs,h=>by
  simp only[List.zipIdx_cons,List.foldl_cons];rw[MB (w:=w) (ν:=ν) v (i+1) off _ (by simp at h⊢;omega)];have a:off+i<cs.toList.length:=by simp at h⊢;omega
  simp only[Array.toList_setIfInBounds];have b:(cs.toList.set (off+i) u).take (off+(i+1))=cs.toList.take (off+i)++[u]:=by rw[show off+(i+1)=(off+i)+1 from by omega,List.take_succ_eq_append_getElem (by simpa using a)];simp[List.take_set_of_le (dO _)]
  have c:(cs.toList.set (off+i) u).drop (off+(i+1)+v.length)=cs.toList.drop (off+i+(u::v).length):=by rw[List.drop_set_of_lt Ω];congr 1;simp;omega
  rw[b,c];simp
def ab1{w:World}{ν:bc}{C:fj}{st:bo}{a:Act}(n:c9 C st a w ν){aS:List (Nat×et)}{l:List (Nat×Nat)}{f:List (Nat×Nat)}
  (m:∀(i off t sz:Nat),l[i]? =some (off,t)->(eG aS t).map (·.size)=some sz->f[i]? =some (off,sz)):
  ∀(parts:List (Nat×Nat×dR)) (e:List (Nat×Operand)) (cs:List af) (us:Array Value) (c:Prop) (cs':List af),CD aS l parts e=true->cW w ν cs us.toList->vU st.t cs parts=some (c,cs')->c->
  ∃d:Array Value,Instr.fill (f.toArray[·]?) us (e.map fun(x:Nat×Operand)=>(x.1,a.eval x.2))=some d/\cW w ν cs' d.toList
 |[],[],cs,us,c,cs',_,h,he,ay=>by simp only[vU]at he;cases he;exact⟨us,by simp[Instr.fill],h⟩
 |[],_::_,_,_,_,_,b,_,_,_=>by simp[CD]at b
 |_::_,[],_,_,_,_,b,_,_,_=>by simp[CD]at b
 |(off,sz,x)::parts,(i,o)::e,cs,us,c,cs',b,h,he,ay=>by
  simp only[CD,cO]at b;obtain⟨⟨J,U⟩,A⟩:=b;split at J
  ·rename_i H t G;simp only[cO,eA]at J;obtain⟨rfl,J⟩:=J;have r:=m i off t sz G J;simp only[vU]at he;split at he
   ·rename_i v z E;cases he;obtain⟨⟨B,y,hle⟩,u⟩:=ay;have F:=e7 n U;have j:=wY F B;have hlen:=q5 j;have q:=q5 h;have k:(a.eval o).cells.size=sz:=by have:(a.eval o).cells.toList.length=(cells (cD st.t x)).length:=hlen;rw[y]at this;simpa using this
    have g:us.size=cs.length:=by simpa using q
    have p:=MB (w:=w) (ν:=ν) (a.eval o).cells.toList 0 off us (by simp[k,g];omega);have s:cW w ν (nI cs off (cells (cD st.t x))) ((((a.eval o).cells.toList.zipIdx 0).foldl (fun cs (x:Value×Nat)=>cs.setIfInBounds (off+x.2) x.1) us).toList):=by rw[p];unfold nI;refine Ap (Ap (FN off h) j) ?_;rw[Nat.add_zero,hlen];exact CS _ h
    obtain⟨d,g1,g2⟩:=ab1 n m parts e _ _ v cs' A s E u;refine⟨d,?_,g2⟩;simp only[gX,Instr.fill,List.getElem?_toArray,r];rw[if_neg (by simp[k,g];omega)];rw[<-g1];simp only[List.getElem?_toArray];congr 1;rw[<-Array.foldl_toList];simp
   ·cases he
  ·cases J
end
section
open Go Go.RowKit
def w6{P:cG}{aS:List (Nat×et)}(c:hR P aS=true){t:Nat}{f:et}(e:eG aS t=some f)(w:World):
  (Go.isAgg t).run P w= .ok f.kind.isAgg w/\(sizeOf t).run P w= .ok f.size w:=by
 obtain⟨i,d,z,J,U,b,k,a,j,h,g⟩:=(w7 c e).ex;refine⟨?_,by simp[sizeOf,typeInfo,J,b]⟩;simp only[Go.isAgg,gm,run_underlying U,gA];cases ad:f.kind<;>rw[ad]at a<;>cases d<;>simp[k9]at a<;>simp[Dr.isAgg]
def jm{P:cG}{aS:List (Nat×et)}(b:hR P aS=true){t:Nat}{f:et}(c:eG aS t=some f):∃d,P.underlying t=some d/\k9 f.kind d=true:=by obtain⟨i,d,z,J,U,j,k,a,h,g,e⟩:=(w7 b c).ex;exact⟨d,U,a⟩
def s7{e:Nat}{d:TypeDesc}(h:k9 (.slice e) d=true):d= .slice e:=by cases d<;>simp[k9]at h;subst h;rfl
def za{d:TypeDesc}(h:k9 .str d=true):d= .string:=by cases d<;>simp[k9]at h;rfl
def DL{k:IntKind}{d:TypeDesc}(h:k9 (.int k) d=true):d= .int k:=by cases d<;>simp[k9]at h;subst h;rfl
def L0{a:List (Nat×Nat)}{d:TypeDesc}(h:k9 (.struct a) d=true):∃gs:Array Field,d= .struct gs/\gs.toList.map (fun f=>(f.offset,f.type))=a:=by cases d<;>simp[k9]at h;rename_i gs;exact⟨gs,rfl,by simpa using h⟩
def JV{w:World}{ν:bc}{cs:List af}{us:List Value}(h:cW w ν cs us)(off sz:Nat):cW w ν ((cs.drop off).take sz) ((us.drop off).take sz):=FN sz (CS off h)
def aag{w:World}{base el sz n:Nat}{v:Value}{us:List Value}(h:w.ownsRow base el sz v n us){b:Nat}(a:v.ownBlock=some b):∃cap,v= .slice (some ⟨b,0,none⟩) n cap:=by
 rcases h.2 with⟨rfl,_⟩|⟨g,cap,cur,rfl,_⟩
 ·simp[pL]at a
 ·simp[pL]at a;subst a;exact⟨cap,rfl⟩
def Good.rowElem{pr:Nat->Prop}{w:World}{ν:bc}{b:List (aB×List af)}{e:List (aB×dT)}(bd:Good pr w ν b e){k:aB}{n el sz:Nat}{xs:List af}(ad:ae k e=some ⟨n,el,sz,some xs⟩){i f:Nat}{u:Value}(m:aU w ν (.rptr sz k n i f) u){p:af}(x:xs[i]? =some p):
  ∃(v:Value) (us:List Value) (B:Nat),aU w ν p v/\v.cells.size=sz/\∃b o,u= .pointer (some ⟨b,o,none⟩)/\∀j c,v.cells.toList[f+j]? =some c->w.cell? ⟨b,o+j,none⟩=some c:=by
 simp only[aU]at m;obtain⟨_,hi,n',E,J,U,z⟩:=m;obtain⟨v,us,d,l,F,r⟩:=bd.own k _ ad;rw[J]at d;simp only[dV,jo]at d;obtain⟨rfl,rfl⟩:=d;obtain⟨bl,A,rfl⟩:=z rfl;obtain⟨cap,rfl⟩:=aag l A;obtain⟨y,g,_⟩:=r xs rfl;simp only at y g;obtain⟨v,s,h,q⟩:=JS i g x;refine⟨v,us,el,s,h,bl,_,rfl,fun j c a=>?_⟩;have t:f+j<sz:=by have:=(fI.1 a).1;simp[h]at this;exact this
 have hmul:i*sz+sz<=n'*sz:=by have:=r8 sz (show i+1<=n' from hi);rwa[Nat.succ_mul]at this
 have ay:=l.cellAt (i*sz+f+j) (by show _<n'*sz;omega);rw[ay];rw[q,List.getElem?_take,if_pos t,List.getElem?_drop]at a;rw[<-a];congr 1;omega
def IU{P:cG}{aS:List (Nat×et)}(V:hR P aS=true){pr:Nat->Prop}{w:World}{ν:bc}{b:List (aB×List af)}{e:List (aB×dT)}(bd:Good pr w ν b e){t:Nat}{f:et}(W:eG aS t=some f)
  {x:af} {u:Value} (l:aU w ν x u) {c:Prop} {p:af} (he:n9 b e f.kind.isAgg f.size x=some (c,p)) (ay:c):∃v,(Instr.loadAt t u).run P w= .ok v w/\aU w ν p v:=by
 obtain⟨d,F⟩:=w6 V W w;generalize HP:f.kind.isAgg=h at*;generalize eo:f.size=sz at*;unfold n9 at he;split at he
 ·rename_i eg k n i g;unfold Au at he;split at he
  ·rename_i n' el Y xs ad;split at he
   ·rename_i R;obtain⟨rfl,rfl⟩:=R;split at he
    ·rename_i N E;obtain⟨G,us,gK,g1,g2,a⟩:=Good.rowElem bd ad l E;have O:eS N=true:=by
      cases h
      ·simp only[hU,if_false,ht]at he;obtain⟨q,_,he⟩:=he;cases he;exact ay
      ·simp only[if_true]at he;cases he;exact ay.1
     have A:=wY g1 O;cases h
     ·simp only[hU,if_false,ht]at he;obtain⟨q,r,he⟩:=he;cases he;obtain⟨v,f1,f2,f3⟩:=FM g A r;refine⟨v,?_,f2⟩;obtain⟨b,o,rfl,a⟩:=a;have:=a 0 v (by simpa using f1);simp only[Nat.add_zero]at this;simp[Instr.loadAt,Instr.sureAddr,loadVar,d,this]
     ·simp only[if_true]at he;cases he;obtain⟨b,o,rfl,a⟩:=a;refine⟨.agg ((G.cells.toList.drop g).take sz).toArray,?_,by simp only[aU];exact⟨_,rfl,by simpa using JV A g sz⟩⟩;have B:=q5 A;have hlen:((G.cells.toList.drop g).take sz).length=sz:=by simp only[List.length_take,ur];omega
      have K:=run_loadCells_list (P:=P) w ⟨b,o,none⟩ ((G.cells.toList.drop g).take sz) (fun j v z=>by
       rw[pV];refine a j v ?_;rw[List.getElem?_take]at z;split at z
       ·simpa[List.getElem?_drop]using z
       ·cases z)
      rw[hlen]at K;simp only[Instr.loadAt,Instr.sureAddr,loadVar,gm,hs,gA,d,if_true,F,K]
    ·cases he
   ·cases he
  ·cases he
 ·rename_i k off;simp only[aU]at l;obtain⟨bl,J,rfl⟩:=l;split at he
  ·rename_i cs ad;obtain⟨Z,us,el,g1,g2,g3,g4,g5⟩:=bd.box k cs ad;rw[J]at g1;cases g1;have H:gZ cs=true:=by
    cases h
    ·simp only[hU,if_false,ht]at he;obtain⟨q,r,he⟩:=he;cases he;exact ay
    ·simp only[if_true]at he;cases he;exact ay.1
   rw[pz H]at g4;rw[pA H]at g5;have B:=q5 g5;cases h
   ·simp only[hU,if_false,ht]at he;obtain⟨q,r,he⟩:=he;cases he;obtain⟨v,f1,f2,f3⟩:=FM off g5 r;refine⟨v,?_,f2⟩;have a:w.cell? ⟨bl,off,none⟩=some v:=by simpa[World.cell?,g4]using f1
    simp[Instr.loadAt,Instr.sureAddr,loadVar,d,a]
   ·simp only[if_true]at he;cases he;replace ay:=ay.2;refine⟨_,?_,by simp only[aU];exact⟨_,rfl,by simpa using JV g5 off sz⟩⟩;simp only[Instr.loadAt,Instr.sureAddr,loadVar,gm,hs,gA,d,if_true,F];rw[arf g4 (by simp at B;omega)];rfl
  ·cases he
 ·rename_i q;simp only[aU]at l;obtain⟨bl,off,Q,rfl,U,s⟩:=l;cases h
  ·simp only[hU,if_false]at he;cases he;obtain⟨M,m⟩:=ay;obtain⟨g1,g2⟩:=Qk U M (fun cs e=>by subst e;have:=fC List.length m;simp only[cells,mZ,List.length_nil]at this;cases cs with
    |nil=>simp[cells]at m
    |cons y ys=>simp only[cells,r5]at m;obtain⟨S,X⟩:=m;subst X;have:=fC SizeOf.sizeOf S;simp at this;omega)
   refine⟨Q,?_,U⟩;rw[g2]at s;have a:=s.1.2;simp[Instr.loadAt,Instr.sureAddr,loadVar,d,a]
  ·simp only[if_true]at he;cases he;obtain⟨cs,rfl,hlen⟩:=ay;simp only[aU]at U;obtain⟨us,rfl,L⟩:=U;refine⟨.agg us,?_,by simp only[aU];exact⟨us,rfl,L⟩⟩;simp only[pK]at s;have B:=q5 L;have:=ab3 (P:=P) s;rw[show us.toList.length=sz from by omega]at this;simp[Instr.loadAt,Instr.sureAddr,loadVar,d,F,this]
 ·cases he
def aiP{P:cG}{aS:List (Nat×et)}(y:hR P aS=true){w:World}{ν:bc}{s i:Nat}{f:et}{n:List (Nat×Nat)}(M:eG aS s=some f)(ad:f.kind= .struct n){off t:Nat}{g:et}(hi:n[i]? =some (off,t))(bd:eG aS t=some g)(G:g.size≠0)
  {x:af} {u:Value} (a:aU w ν x u) {c:Prop} {p:af} (he:tc off g.kind.isAgg g.size x=some (c,p)) (ay:c):∃v,(Instr.fieldAt s u i).run P w= .ok v w/\aU w ν p v:=by
 obtain⟨d,L,m⟩:=jm y M;rw[ad]at m;obtain⟨gs,rfl,E⟩:=L0 m;have B:∃fd:Field,gs[i]? =some fd/\fd.offset=off/\fd.type=t:=by rw[<-E]at hi;simp only[List.getElem?_map,ht]at hi;obtain⟨fd,J,U⟩:=hi;simp only[jo]at U;exact⟨fd,by simpa using J,U.1,U.2⟩
 obtain⟨fd,N,aq,A⟩:=B;obtain⟨O,K⟩:=w6 y bd w;have j:∀b o,(Instr.fieldAt s (.pointer (some ⟨b,o,none⟩)) i).run P w= .ok (.pointer (some ⟨b,o+off,none⟩)) w:=by intro b o;simp[Instr.fieldAt,run_underlying L,N,Instr.sureAddr,fieldPlace,A,K,G,pV,aq]
 unfold tc at he;split at he
 ·cases he;simp only[aU]at a;obtain⟨b,J,rfl⟩:=a;exact⟨_,j _ _,by simp only[aU];exact⟨b,J,rfl⟩⟩
 ·cases he;simp only[aU]at a;obtain⟨⟨b,o,rfl⟩,hi,n',r,J,U,h⟩:=a;refine⟨_,j _ _,?_⟩;simp only[aU];refine⟨⟨b,_,rfl⟩,hi,n',r,J,U,fun e=>?_⟩;obtain⟨b0,H,z⟩:=h e;simp only[ayL,dV,Addr.mk.injEq,jb]at z;obtain⟨rfl,rfl⟩:=z;exact⟨b,H,by rw[Nat.add_assoc]⟩
 ·rename_i cs;simp only[aU]at a;obtain⟨b,o,r,rfl,⟨us,rfl,U⟩,h⟩:=a;refine⟨_,j _ _,?_⟩;simp only[pK]at h;split at he
  ·cases he;simp only[aU];exact⟨b,o+off,.agg ((us.toList.drop off).take g.size).toArray,rfl,⟨_,rfl,by simpa using JV U off g.size⟩,by simpa[pK]using IN g.size (IL off h)⟩
  ·simp only[ht]at he;obtain⟨q,F,he⟩:=he;cases he;obtain⟨v,f1,f2,f3⟩:=FM off U F;simp only[aU];have l:=va h f1;have k:v.cells= #[v]:=by cases v<;>first|rfl|cases f3
   exact⟨b,o+off,v,rfl,f2,by rw[k];exact⟨l,trivial⟩⟩
 ·cases he
def aiV{P:cG}{aS:List (Nat×et)}(l:hR P aS=true){w:World}{ν:bc}{s i:Nat}{f:et}{h:List (Nat×Nat)}(B:eG aS s=some f)(ad:f.kind= .struct h){off t:Nat}{g:et}(hi:h[i]? =some (off,t))(bd:eG aS t=some g)
  {x:af} {u:Value} (k:aU w ν x u) {c:Prop} {p:af} (he:wa off g.kind.isAgg g.size x=some (c,p)) (ay:c):∃v,(Instr.field s u i).run P w= .ok v w/\aU w ν p v:=by
 obtain⟨d,m,e⟩:=jm l B;rw[ad]at e;obtain⟨gs,rfl,r⟩:=L0 e;have o:∃fd:Field,gs[i]? =some fd/\fd.offset=off/\fd.type=t:=by rw[<-r]at hi;simp only[List.getElem?_map,ht]at hi;obtain⟨fd,J,U⟩:=hi;simp only[jo]at U;exact⟨fd,by simpa using J,U.1,U.2⟩
 obtain⟨fd,n,aq,b⟩:=o;obtain⟨j,A⟩:=w6 l bd w;unfold wa at he;split at he
 ·rename_i cs;simp only[aU]at k;obtain⟨us,rfl,U⟩:=k;generalize E:g.kind.isAgg=y at*;cases y
  ·simp only[hU,if_false,ht]at he;obtain⟨q,z,he⟩:=he;cases he;obtain⟨v,f1,f2,f3⟩:=FM off U z;have a:us[off]? =some v:=by simpa using f1
   exact⟨v,by simp[Instr.field,run_underlying m,n,asAgg,part,b,j,aq,a],f2⟩
  ·simp only[if_true]at he;cases he;refine⟨.agg (us.extract off (off+g.size)),by simp[Instr.field,run_underlying m,n,asAgg,part,b,j,aq,A],?_⟩;simp only[aU];refine⟨_,rfl,?_⟩;have:=JV U off g.size;simpa[List.take_drop]using this
 ·cases he
def alW{P:cG}{aS:List (Nat×et)}(F:hR P aS=true){w:World}{ν:bc}{t e:Nat}{f g:et}(N:eG aS t=some f)(ad:f.kind= .slice e)(bd:eG aS e=some g)
  {x y:af} {u v:Value} (h:aU w ν x u) (j:aU w ν y v) {c:Prop} {p:af} (he:BZ g.size x y=some (c,p)) (ay:c):∃r,(Instr.indexAt t u v).run P w= .ok r w/\aU w ν p r:=by
 obtain⟨d,G,B⟩:=jm F N;rw[ad]at B;obtain rfl:=s7 B;obtain⟨Q,E⟩:=w6 F bd w;unfold BZ at he;split at he
 ·rename_i K tag xs k i;split at he
  ·rename_i m;cases he;simp only[aU]at h j;subst j;subst m;obtain⟨⟨a,cap,rfl,J,U,q⟩,_⟩:=h;obtain⟨z,l⟩:=ay;have A:i.toNat<xs.length:=Ω
   rcases q with rfl|⟨b,off,us,rfl,s,o⟩
   ·simp at A
   ·have h:xs[i.toNat]? =some xs[i.toNat]:=ck A;obtain⟨w',M,O,H⟩:=JS i.toNat o h;refine⟨.pointer (some ⟨b,off+i.toNat*g.size,none⟩),?_,?_⟩
    ·simp only[Instr.indexAt,asIntOf,gm,hs,gA,run_underlying G,z,l,and_self,if_true,E,pV]
    ·simp only[aU];refine⟨b,off+i.toNat*g.size,w',rfl,by simpa[List.getD,h]using M,?_⟩;rw[H];exact IN g.size (IL _ s)
  ·cases he
 ·rename_i K k n kk i;split at he
  ·rename_i m;cases he;simp only[aU]at h j;subst j;subst m;obtain⟨⟨b,cap,rfl⟩,U,n',L,q,s,o⟩:=h;obtain⟨z,l⟩:=ay;refine⟨.pointer (some ⟨b,0+i.toNat*g.size,none⟩),?_,?_⟩
   ·simp only[Instr.indexAt,asIntOf,gm,hs,gA,run_underlying G,z,l,and_self,if_true,E,pV]
   ·simp only[aU];refine⟨⟨b,_,rfl⟩,Ω,n',L,q,s,fun e=>⟨b,?_,Ψ⟩⟩;rw[<-o e];rfl
  ·cases he
 ·cases he
def Jn{C:fj}{st:bo}{a:Act}{w:World}{ν:bc}(h:c9 C st a w ν){x:Option dR}{o:Option Operand}(b:yl x o=true){d n:Int}(he:sJ d (x.map (cD st.t))=some n):
  (o.map a.eval=none/\n=d)\/ ∃k,o.map a.eval=some (.int k n):=by
 cases x with
 |none=>cases o with
  |none=>simp[sJ]at he;exact .inl ⟨rfl,he.symm⟩
  |some o=>simp[yl]at b
 |some x=>cases o with
  |none=>simp[yl]at b
  |some o=>
   simp only[yl]at b
   have:=e7 h b
   simp only[pN]at he⊢
   cases c:cD st.t x<;>simp[c,sJ]at he
   rw[c]at this
   simp only[aU]at this
   subst he
   exact .inr ⟨_,by rw[this]⟩
def Si:∀{xs:List af} {s:List cV},si xs=some s->s.length=xs.length
 |[],s,h=>by simp only[si]at h;cases h;rfl
 |x::xs,s,h=>by
  cases x<;>try(simp[si]at h;done)
  rename_i k n;cases k<;>simp only[si,ht,reduceCtorEq]at h;obtain⟨a,J,rfl⟩:=h;simp[Si J]
def AV(n:Int):cV:=UInt8.ofNat n.toNat
def Sj{w:World}{ν:bc}{sz:Nat}:∀{xs:List af} {s:List cV} {us:List Value},si xs=some s->dv w ν sz xs us->∃ns:List Int,us=ns.map (Value.int .u8)/\s=ns.map AV/\us.length=xs.length
 |[],s,us,h,a=>by simp only[si]at h;cases h;simp only[dv]at a;subst a;exact⟨[],rfl,rfl,rfl⟩
 |x::xs,s,us,h,a=>by
  cases x<;>try(simp[si]at h;done)
  rename_i k n;cases k<;>simp only[si,ht,reduceCtorEq]at h;obtain⟨d,J,rfl⟩:=h;simp only[dv,aU]at a;obtain⟨u,c,rfl,⟨rfl,_⟩,a⟩:=a;obtain⟨ns,rfl,rfl,b⟩:=Sj J a;exact⟨n::ns,by simp[pK],rfl,by simp[pK]at b⊢;exact b⟩
def aap{P:cG}{w:World}{f:Value->ByteArray->Sem (ForInStep ByteArray)}(a:∀n s,f (.int .u8 n) s=pure (.yield (s.push (AV n)))):∀(ns:List Int) (s:ByteArray),(forIn (ns.map (Value.int .u8)) s f).run P w= .ok ⟨(s.data.toList++ns.map AV).toArray⟩ w
 |[],s=>by simp
 |n::ns,s=>by simp only[gX,List.forIn_cons,gm,a,hs,gA];rw[aap a ns];simp[ayD]
def aeC{P:cG}{w:World}{A:Nat->Nat->Prop}{a:Option Addr}{len cap:Nat}{ns:List Int}(g:ns.length=len)(h:len=0\/ ∃b off,a=some ⟨b,off,none⟩/\kZ w A b off (ns.map (Value.int .u8))):
  (Conv.bytesToString (.slice a len cap)).run P w= .ok (.string ⟨(ns.map AV).toArray⟩) w:=by
 have f:∀c,a=some c->(loadCells c len).run P w= .ok (ns.map (Value.int .u8)).toArray w:=fun c e=>by
  rcases h with h|⟨b,off,d,U⟩
  ·subst h;have:ns=[]:=by cases ns<;>simp_all
   subst this;exact run_loadCells_list w c [] fun j v i=>by simp at i
  ·rw[d]at e;cases e;have:=ab3 (P:=P) U;simpa[g]using this
 unfold Conv.bytesToString;cases a with
 |none=>
  have:ns=[]:=by
   rcases h with h|⟨b,off,d,U⟩
   ·subst h;cases ns<;>simp_all
   ·cases d
  subst this;simp;rfl
 |some c=>simp only[gm,f c rfl,gA,Array.forIn_toList,List.forIn_toArray];rw[aap (fun n s=>rfl) ns adP];simp
def adM{c d:af}(h:KL c d=true):c=d:=by unfold KL at h;split at h<;>simp_all
def Rv:∀{cs a:List af},AJ cs a=true->cs=a
 |[],[],_=>rfl
 |[],_::_,h=>by simp[AJ]at h
 |_::_,[],h=>by simp[AJ]at h
 |c::cs,d::a,h=>by simp only[AJ,cO]at h;rw[adM h.1,Rv h.2]
def atX{cs:List af}{z:af}(h:Rz cs z=true):z= .agg cs:=by
 cases z<;>simp only[Rz]at h;case agg a=>rw[Rv h]
 all_goals cases h
def aj1(s:List cV)(n:Nat)(h:n<s.length):(⟨s.toArray⟩:ByteArray)[n]? =some (s.getD n 0):=by
 have a:n<(⟨s.toArray⟩:ByteArray).size:=by rw[F0];exact h
 have e:(⟨s.toArray⟩:ByteArray)[n]? =some ((⟨s.toArray⟩:ByteArray)[n]'a):=getElem?_pos (⟨s.toArray⟩:ByteArray) n a;rw[e];congr 1;simp[List.getD,h];rfl
def Kg(P:cG)(w:World)(k:IntKind)(i:Int)(y:Nat)(c:BoundsCode)(a:0<=i)(J:i<=y):(Instr.sliceBound (.int k i) y c).run P w= .ok i.toNat w:=by simp[Instr.sliceBound,asIntOf,a,J]
def Sc(P:cG)(w:World)(a:Bool)(len cap:Nat)(lo hi:Option Value)(l h:Int)(b:(lo=none/\l=0)\/ ∃k,lo=some (.int k l))(c:(hi=none/\h=len)\/ ∃k,hi=some (.int k h))
  (d:0<=l) (J:l<=h) (U:h<=len) (ay:len<=cap):(Instr.sliceBounds a len cap lo hi none).run P w= .ok (l.toNat,h.toNat,cap) w:=by
 rcases b with⟨rfl,rfl⟩|⟨k,rfl⟩<;>rcases c with⟨rfl,rfl⟩|⟨bs,rfl⟩
 ·simp[Instr.sliceBounds]
 ·simp[Instr.sliceBounds,Kg P w bs h cap _ Ω Ω]
 ·simp[Instr.sliceBounds,Kg P w k l len _ Ω Ω]
 ·simp[Instr.sliceBounds,Kg P w bs h cap _ Ω Ω,Kg P w k l h.toNat _ Ω Ω]
def aam{P:cG}{aS:List (Nat×et)}(e:hR P aS=true):∀(gs:List Field),(gs.all fun f=>(eG aS f.type).isSome)=true->
  ∃a:List (Nat×Nat),gs.mapM (fun f=>(P.info? f.type).map fun i=>(f.offset,i.size))=some a/\
   ∀(i off t sz:Nat),(gs.map (fun f=>(f.offset,f.type)))[i]? =some (off,t)->(eG aS t).map (·.size)=some sz->a[i]? =some (off,sz)
 |[],_=>⟨[],Ψ,Ψ⟩
 |f::gs,h=>by
  simp only[List.all_cons,cO]at h;obtain⟨a,J,U⟩:=aam e gs h.2;obtain⟨g,bd⟩:=fy.1 h.1;obtain⟨i,d,z,l,r,k,q,p,o,n,m⟩:=(w7 e bd).ex;refine⟨(f.offset,g.size)::a,by simp[List.mapM_cons,l,k,J],fun j off t sz b c=>?_⟩;cases j with
  |zero=>simp only[gX,List.getElem?_cons_zero,dV,jo]at b⊢;obtain⟨rfl,rfl⟩:=b;rw[bd]at c;simpa using c
  |succ j=>simp only[gX,List.getElem?_cons_succ]at b⊢;exact U j off t sz b c
def l6{P:cG}{w:World}{x:Sem Value}{v:Value}(h:x.run P w= .ok v w):(do pure (Next.value (<-x)):Sem Next).run P w= .ok (.value v) w:=by simp[h]
def Ry{p q:af}(h:Dj p q=true):p=q:=by
 unfold Dj at h;split at h
 ·rw[Rv h]
 ·cases h
 ·exact adM h
def Rx(w:World)(ν:bc){p:af}{v:Value}(h:AK p v=true):aU w ν p v/\cW w ν (cells p) v.cells.toList:=by
 by_cases b:∃cs,p= .agg cs
 ·obtain⟨cs,rfl⟩:=b;cases v<;>simp only[AK]at h;case agg us=>have:=Rw w ν _ _ h;exact⟨by simp only[aU];exact⟨us,rfl,this⟩,by simpa[cells,pK]using this⟩
  all_goals cases h
 ·have a:AX p v=true/\v.oneCell'=true:=by cases p<;>simp only[AK,cO]at h<;>first|exact h|exact absurd ⟨_,rfl⟩ b
  have c:=Lk w ν a.1;refine⟨c,?_⟩;have ay:cells p=[p]:=by cases p<;>first|rfl|exact absurd ⟨_,rfl⟩ b
  have d:v.cells= #[v]:=by have:=a.2;cases v<;>first|rfl|simp[Value.oneCell']at this
  rw[ay,d];simp only[cW];exact⟨v,[],rfl,⟨c,a.2⟩,rfl⟩
def Q1{P:cG}{aS:List (Nat×et)}(e:hR P aS=true){t:Nat}{f:et}(g:eG aS t=some f)(w:World):∃z,(zeroValue t).run P w= .ok z w/\AK f.zero z=true/\z.cells.size=f.size:=by obtain⟨i,d,z,J,U,j,k,h,c,b,a⟩:=(w7 e g).ex;exact⟨z,by simp[zeroValue,typeInfo,J,c],b,a⟩
def FO{C:fj}{st:bo}{a:Act}{w:World}{ν:bc}(h:c9 C st a w ν):∀{xs:List dR} {os:List Operand},Ae xs os=true->cZ w ν (xs.map (cD st.t)) (os.map a.eval)
 |[],[],_=>by simp[cZ]
 |[],_::_,ad=>by simp[Ae]at ad
 |_::_,[],ad=>by simp[Ae]at ad
 |x::xs,o::os,ad=>by simp only[Ae,cO]at ad;simp only[gX,cZ];exact⟨_,_,rfl,e7 h ad.1,FO h ad.2⟩
def afX{P:cG}{w:World}{t:gW}(c:P.underlying t=some .bool)(d:Nat)(a b:Bool):(Op.equalIn (d+1) t (.bool a) (.bool b)).run P w= .ok (a==b) w:=by rw[Op.equalIn];simp only[gm,run_underlying c,gA,hs]
def afY{P:cG}{w:World}{t:gW}(c:P.underlying t=some .bool)(a b:Bool):(Op.equal t (.bool a) (.bool b)).run P w= .ok (a==b) w:=afX c _ a b
def U2:∀{borns:List Nat} {kvs:List af} {us:List Value},kvs.length=2*borns.length->us.length=kvs.length->(gQ borns us).length=borns.length
 |[],_,us,_,_=>by simp[gQ]
 |b0::a,kvs,[],J,U=>by rw[J]at U;simp at U
 |b0::a,kvs,[_],J,U=>by rw[J]at U;simp at U;omega
 |b0::a,kvs,k::v::us,J,U=>by simp only[gQ,mZ];rw[U2 (kvs:=kvs.drop 2) (us:=us) (borns:=a) (by simp at J⊢;omega) (by simp at J U⊢;omega)]
def abR{w:World}{ν:bc}:∀{a:List af} {bk:List Value},cZ w ν a bk->bk.length=a.length
 |[],bk,h=>by simp only[cZ]at h;subst h;rfl
 |p::a,bk,h=>by simp only[cZ]at h;obtain⟨u,b,rfl,_,U⟩:=h;simp[abR U]
def yx{P:cG}{w:World}{r:Nat}{o:Obj}(a:w.heap[r]? =some o)(b:∀c e f,o≠ .cells c e f:=by simp):(getObj r).run P w= .ok o w:=by simp only[getObj,Sem.run,a]
def r9(P:cG):Nat->List Bool->List Field->Prop
 |_,[],[]=>True
 |n,b::r,f::gs=>(f.offset=n/\f.name≠ "_" /\(if b=true then P.underlying f.type=some .string else∃k,P.underlying f.type=some (.int k)))/\r9 P (n+1) r gs
 |_,_,_=>eb
def FC{P:cG}{t:gW}{b:Bool}(h:if b=true then P.underlying t=some .string else∃k,P.underlying t=some (.int k)):P.plainKey t=true:=by
 cases b
 ·obtain⟨k,h⟩:=(by simpa using h:∃k,P.underlying t=some (.int k));simp[Program.plainKey,h]
 ·have h:P.underlying t=some .string:=by simpa using h
  simp[Program.plainKey,h]
def aeV{P:cG}{w:World}{ν:bc}(d:Nat){X Y:Array Value}(A:List Bool):∀(gs:List Field) (n:Nat) (as g:List af) (us bk:List Value) (q:Bool),r9 P n A gs->X.toList.drop n=us->Y.toList.drop n=bk->cW w ν as us->cW w ν g bk->kR A as g=some q->
  (Op.eqFields (d+1) X Y gs).run P w= .ok q w/\(q=true->us=bk)/\∀m,(us.zip us).all (fun(x,y)=>Instr.sameBits m x y)=true:=by
 induction A with
 |nil=>intro gs n as g us bk q bd p o J U h;cases as<;>cases g<;>simp only[kR,dV,reduceCtorEq]at h;cases gs<;>simp only[r9]at bd;simp only[cW]at J U;rw[J,U,<-h];exact⟨by simp[Op.eqFields],fun _=>rfl,fun m=>rfl⟩
 |cons z r L=>
  intro gs n as g us bk q bd p o J U h;cases gs with
  |nil=>simp only[r9]at bd
  |cons f gs=>
  simp only[r9]at bd;obtain⟨⟨M,K,l⟩,bd⟩:=bd;cases as with
  |nil=>cases z<;>cases g<;>simp[kR]at h
  |cons s as=>
  cases g with
  |nil=>cases z<;>cases s<;>simp[kR]at h
  |cons t g=>
  cases z with
  |false=>
   have ay:∃k a b c,s= .int k a/\t= .int k b/\kR r as g=some c/\q=((a==b)&&c):=by
    cases s<;>first|(simp[kR]at h;done)|skip
    cases t<;>first|(simp[kR]at h;done)|skip
    simp only[kR]at h;split at h
    ·rename_i ad;subst ad;simp only[ht]at h;obtain⟨c,j,E⟩:=h;exact⟨_,_,_,c,rfl,rfl,j,E.symm⟩
    ·cases h
   obtain⟨k,a,b,c,rfl,rfl,j,rfl⟩:=ay;simp only[cW,aU]at J U;obtain⟨u,B,rfl,⟨rfl,_⟩,J⟩:=J;obtain⟨v,vs',rfl,⟨rfl,_⟩,U⟩:=U;have H:X[n]? =some (.int k a):=by rw[<-vA,<-List.head?_drop,p];rfl
   have F:Y[n]? =some (.int k b):=by rw[<-vA,<-List.head?_drop,o];rfl
   obtain⟨i1,i2,i3⟩:=L gs (n+1) as g B vs' c bd (by rw[<-List.tail_drop,p];rfl) (by rw[<-List.tail_drop,o];rfl) J U j;obtain⟨kk,G⟩:=(by simpa using l:∃k,P.underlying f.type=some (.int k));refine⟨?_,?_,fun m=>?_⟩
   ·simp only[Op.eqFields,K,ne_eq,not_false_eq_true,if_true,gm,M,run_part_plain w (FC l) H,run_part_plain w (FC l) F,gA,run_equalIn_int w d f.type k kk a b G];cases N:(a==b)
    ·simp
    ·simpa using i1
   ·intro i;simp only[cO,eA]at i;rw[i.1,i2 i.2]
   ·have:=i3 m;simp only[List.zip_cons_cons,List.all_cons,this,Bool.and_true];cases m<;>simp[Instr.sameBits]
  |true=>
   have ay:∃a b c,s= .str a/\t= .str b/\kR r as g=some c/\q=((a==b)&&c):=by
    cases s<;>first|(simp[kR]at h;done)|skip
    cases t<;>first|(simp[kR]at h;done)|skip
    simp only[kR,ht]at h;obtain⟨c,j,E⟩:=h;exact⟨_,_,c,rfl,rfl,j,E.symm⟩
   obtain⟨a,b,c,rfl,rfl,j,rfl⟩:=ay;simp only[cW,aU]at J U;obtain⟨u,B,rfl,⟨⟨rfl,_⟩,_⟩,J⟩:=J;obtain⟨v,vs',rfl,⟨⟨rfl,_⟩,_⟩,U⟩:=U;have H:X[n]? =some (.string ⟨a.toArray⟩):=by rw[<-vA,<-List.head?_drop,p];rfl
   have F:Y[n]? =some (.string ⟨b.toArray⟩):=by rw[<-vA,<-List.head?_drop,o];rfl
   obtain⟨i1,i2,i3⟩:=L gs (n+1) as g B vs' c bd (by rw[<-List.tail_drop,p];rfl) (by rw[<-List.tail_drop,o];rfl) J U j;have G:P.underlying f.type=some .string:=by simpa using l
   refine⟨?_,?_,fun m=>?_⟩
   ·simp only[Op.eqFields,K,ne_eq,not_false_eq_true,if_true,gm,M,run_part_plain w (FC l) H,run_part_plain w (FC l) F,gA,run_equalIn_string w d f.type _ _ G];have e:((⟨a.toArray⟩:ByteArray).toList==(⟨b.toArray⟩:ByteArray).toList)=(a==b):=by rw[at0,at0]
    rw[e];cases N:(a==b)
    ·simp
    ·simpa using i1
   ·intro i;simp only[cO,eA]at i;rw[i.1,i2 i.2]
   ·have:=i3 m;simp only[List.zip_cons_cons,List.all_cons,this,Bool.and_true];cases m<;>simp only[Instr.sameBits]<;>exact(MapKept.bytes_beq _ _).2 rfl
def VM{P:cG}{aS:List (Nat×et)}(aL:hR P aS=true):∀(en:List Bool) (gs:List Field) (n:Nat),Bp aS n en (gs.map fun f=>(f.offset,f.type))=true->(gs.all (fun f=>match P.underlying f.type with|some (.int _)=>true|some .string=>true|_=>false)=true)/\((∀f∈gs,f.name≠ "_")->r9 P n en gs)
 |[],[],_,_=>⟨rfl,fun _=>trivial⟩
 |[],_::_,_,h=>by simp[Bp]at h
 |_::_,[],_,h=>by simp[Bp]at h
 |b::r,f::gs,n,h=>by
  simp only[gX,Bp,cO,eA]at h;obtain⟨⟨J,U⟩,ar⟩:=h;obtain⟨i1,i2⟩:=VM aL r gs (n+1) ar;split at U
  ·rename_i aG;obtain⟨d,hu,aK⟩:=jm aL aG;obtain rfl:=DL aK;refine⟨by simp only[List.all_cons,hu,i1,Bool.and_self],fun aw=>⟨⟨J,aw f Ψ,?_⟩,i2 fun g bd=>aw g (by simp[bd])⟩⟩;have:b=false:=by simpa using U
   subst this;simpa using⟨_,hu⟩
  ·rename_i aG;obtain⟨d,hu,aK⟩:=jm aL aG;obtain rfl:=za aK;refine⟨by simp only[List.all_cons,hu,i1,Bool.and_self],fun aw=>⟨⟨J,aw f Ψ,?_⟩,i2 fun g bd=>aw g (by simp[bd])⟩⟩;subst U;simpa using hu
  ·cases U
def VO{P:cG}{aS:List (Nat×et)}(b:hR P aS=true){a:List Bool}{t:Nat}(h:HA aS a t=true):∃gs,P.underlying t=some (.struct gs)/\r9 P 0 a gs.toList/\P.stoodInHeld t=false/\P.eqGuardType P.depth t=false:=by
 unfold HA at h;split at h
 ·rename_i e;obtain⟨d,hu,c⟩:=jm b e;have ay:=(w7 b e).cmp d hu;cases d<;>simp[k9]at c;rename_i gs;subst c;obtain⟨i1,i2⟩:=VM b a gs.toList 0 h;have f:VN P gs=true:=i1;simp only[LW,f,Bool.not_true,Bool.false_or,Uy,cO,r4,j5,bne_iff_ne,ne_eq]at ay;exact⟨gs,hu,i2 ay.1.1,ay.1.2,ay.2⟩
 ·cases h
def U6{P:cG}{w:World}{ν:bc}{t:gW}{gs:Array Field}{a:List Bool}(hu:P.underlying t=some (.struct gs))(bd:r9 P 0 a gs.toList)(dx:P.stoodInHeld t=false){as b:List af}{X Y:Array Value}(J:cW w ν as X.toList)(U:cW w ν b Y.toList){q:Bool}(h:kR a as b=some q):
  (Op.equalIn 10000 t (.agg X) (.agg Y)).run P w= .ok q w/\(q=true->X=Y)/\∀m,(X.toList.zip X.toList).all (fun(x,y)=>Instr.sameBits m x y)=true:=by
 have c:P.fieldsOf t=gs:=by simp[Program.fieldsOf,hu]
 obtain⟨i1,i2,i3⟩:=aeV 9998 a gs.toList 0 as b _ _ q bd rfl rfl J U h;refine⟨?_,fun e=>?_,?_⟩
 ·rw[run_equalIn_struct w 9999 t X Y (by rw[c];exact hu) dx,c];exact i1
 ·have:=i2 e;simpa using this
 ·simpa using i3
inductive vH (P:cG):kj->gW->Prop
 |i {t:gW} {k:IntKind}:P.underlying t=some (.int k)->vH P .i t
 |s {t:gW}:P.underlying t=some .string->vH P .s t
 |a {t:gW} {en:List Bool} {gs:Array Field}:P.underlying t=some (.struct gs)->r9 P 0 en gs.toList->P.stoodInHeld t=false->vH P (.a en) t
def Ye{P:cG}{aS:List (Nat×et)}(c:hR P aS=true){b:kj}{t:Nat}(h:zT aS b t=true):vH P b t:=by
 cases b with
 |i=>
  simp only[zT]at h;split at h
  ·rename_i f;obtain⟨d,hu,e⟩:=jm c f;obtain rfl:=DL e;exact .i hu
  ·cases h
 |s=>
  simp only[zT]at h;split at h
  ·rename_i f;obtain⟨d,hu,e⟩:=jm c f;obtain rfl:=za e;exact .s hu
  ·cases h
 |a j=>obtain⟨gs,J,U,g,_⟩:=VO c h;exact .a J U g
def uy(P:cG)(w:World)(c:kj)(t:gW)(a u:Value)(b:Bool):Prop:=match c with
 | .a _=>(Op.equal t a u).run P w= .ok b w
 |_=> ∀d,P.underlying t=some d->Instr.sameNow d a u=some b
def iX(P:cG)(w:World)(b:kj)(t:gW)(a:Value)(es:List MapEntry)(i:Nat)(r:Option (Nat×Value)):Prop:=match b with
 | .a _=>(Instr.findAsking t a es i).run P w= .ok r w
 |_=> ∀d,P.underlying t=some d->Instr.findNow d a es i=some r
def iX.nil(P:cG)(w:World)(a:kj)(t:gW)(b:Value)(i:Nat):iX P w a t b [] i none:=by cases a<;>simp[iX,Instr.findAsking,Instr.findNow]
def iX.hit{P:cG}{w:World}{b:kj}{t:gW}{f:Value}{e:MapEntry}{es:List MapEntry}{i:Nat}(h:uy P w b t f e.key true):iX P w b t f (e::es) i (some (i,e.val)):=by
 cases b with
 |a g=>simp only[uy]at h;simp[iX,Instr.findAsking,h]
 |i=>simp only[uy]at h;simp only[iX];intro d c;simp[Instr.findNow,h d c]
 |s=>simp only[uy]at h;simp only[iX];intro d c;simp[Instr.findNow,h d c]
def iX.miss{P:cG}{w:World}{f:kj}{t:gW}{g:Value}{e:MapEntry}{es:List MapEntry}{i:Nat}{r:Option (Nat×Value)}(h:uy P w f t g e.key false)(b:iX P w f t g es (i+1) r):iX P w f t g (e::es) i r:=by
 cases f with
 |a j=>simp only[uy]at h;simp only[iX]at b;simp[iX,Instr.findAsking,h,b]
 |i=>simp only[uy]at h;simp only[iX]at b⊢;intro d c;simp[Instr.findNow,h d c,b d c]
 |s=>simp only[uy]at h;simp only[iX]at b⊢;intro d c;simp[Instr.findNow,h d c,b d c]
def iX.run{P:cG}{w:World}{c:kj}{t:gW}(d:vH P c t){b:Value}{es:List MapEntry}{r:Option (Nat×Value)}(h:iX P w c t b es 0 r):(Instr.findKey t b es).run P w= .ok r w:=by
 cases d with
 |i hu=>simp only[iX]at h;simp[Instr.findKey,run_underlying hu,h _ hu]
 |s hu=>simp only[iX]at h;simp[Instr.findKey,run_underlying hu,h _ hu]
 |a hu bd dx=>
  simp only[iX]at h;cases es with
  |nil=>simp[Instr.findAsking]at h;simp[Instr.findKey,run_underlying hu,Instr.findNow,h]
  |cons e es=>
   rename_i gs;have:Instr.sameNow (.struct gs) b e.key=none:=by cases b<;>rfl
   simp only[Instr.findKey,gm,run_underlying hu,gA,Instr.findNow,this];exact h
def Yc{P:cG}{w:World}{ν:bc}{h:kj}{t:gW}(f:vH P h t){k bs:af}{g u:Value}(ad:aU w ν k g)(J:aU w ν bs u){bb:Bool}(c:u5 h k bs=some bb):
  uy P w h t g u bb/\(bb=true->u=g/\Instr.sameBits 10000 u g=true):=by
 unfold u5 at c;split at c
 ·split at c
  ·rename_i j;subst j;simp only[aU]at ad J;subst ad;subst J;cases f with
   |i hu=>refine⟨fun d f=>by rw[hu]at f;cases f;simpa[Instr.sameNow]using c,fun e=>?_⟩;subst e;simp only[dV,eA]at c;subst c;exact⟨rfl,by simp[Instr.sameBits]⟩
  ·cases c
 ·rename_i a b;simp only[aU]at ad J;obtain⟨rfl,_⟩:=ad;obtain⟨rfl,_⟩:=J;cases f with
  |s hu=>
   refine⟨fun d f=>?_,fun e=>?_⟩
   ·rw[hu]at f;cases f;simp only[Instr.sameNow];rw[<-c];congr 1;rw[rf,MapKept.bytes_beq];simp
   ·subst e;simp only[dV,eA]at c;subst c;exact⟨rfl,by simp only[Instr.sameBits];exact(MapKept.bytes_beq _ _).2 rfl⟩
 ·simp only[aU]at ad J;obtain⟨X,rfl,ad⟩:=ad;obtain⟨Y,rfl,J⟩:=J;cases f with
  |a hu bd dx=>obtain⟨i1,i2,i3⟩:=U6 hu bd dx ad J c;refine⟨by simpa[uy,Op.equal,Op.maxDepth]using i1,fun e=>?_⟩;have:=i2 e;subst this;exact⟨rfl,by simp[Instr.sameBits,i3]⟩
 ·cases c
def OS{P:cG}{w:World}{ν:bc}{c:kj}{t:gW}(o:vH P c t){k:af}{f:Value}(ad:aU w ν k f):∀(borns:List Nat) (kvs:List af) (us:List Value) (i:Nat) (r:Option af),cZ w ν kvs us->kvs.length=2*borns.length->yc c k kvs=some r->
  match r with
  |none=>iX P w c t f (gQ borns us) i none
  |some v=> ∃j u,iX P w c t f (gQ borns us) i (some (j,u))/\aU w ν v u
 |[],[],us,i,r,h,_,hm=>by simp only[yc]at hm;cases hm;simp only[cZ]at h;subst h;simpa[gQ]using iX.nil P w c t f i
 |[],_::_,_,_,_,_,a,_=>by simp at a
 |b::l,[],_,_,_,_,a,_=>by simp at a
 |b::l,[_],_,_,_,_,a,_=>by simp at a;omega
 |b::l,bs::v::kvs,us,i,r,h,a,hm=>by
  simp only[cZ]at h;obtain⟨g,s,rfl,J,d,p,rfl,U,q⟩:=h;simp only[yc]at hm;simp only[gQ];cases m:u5 c k bs with
  |none=>simp[m]at hm
  |some bb=>
   obtain⟨s1,_⟩:=Yc o ad J m;simp only[m]at hm;cases bb with
   |true=>simp only[dV]at hm;subst hm;exact⟨i,d,iX.hit (e:=⟨g,d,b⟩) s1,U⟩
   |false=>
    simp only at hm;have n:=OS o ad l kvs p (i+1) r q (by simp at a;omega) hm;cases r with
    |none=>exact iX.miss (e:=⟨g,d,b⟩) s1 n
    |some v'=>obtain⟨j,u,g1,g2⟩:=n;exact⟨j,u,iX.miss (e:=⟨g,d,b⟩) s1 g1,g2⟩
def LU{P:cG}{w:World}{t:Nat}{d:TypeDesc}(hu:P.underlying t=some d)(a:(∃k,d= .int k)\/d= .string)(e:Bool)(n:Nat)(v:Value):(Instr.checkKey e (n+1) t v).run P w= .ok () w:=by unfold Instr.checkKey;rcases a with⟨k,rfl⟩|rfl<;>simp[run_underlying hu]
def aiU{P:cG}{w:World}{ν:bc}{X:Array Value}(i:List Bool):∀(gs:List Field) (n:Nat) (as:List af),r9 P n i gs->cW w ν as (X.toList.drop n)->(kR i as as).isSome=true->
  ∀f∈gs,(∃v,(part f.type X f.offset).run P w= .ok v w)/\∃d,P.underlying f.type=some d/\((∃k,d= .int k)\/d= .string):=by
 induction i with
 |nil=>intro gs n as bd _ _ f a;cases gs<;>simp only[r9]at bd;cases a
 |cons b r q=>
  intro gs n as bd j ay f a;cases gs with
  |nil=>cases a
  |cons g gs=>
  simp only[r9]at bd;obtain⟨⟨t,y,c⟩,bd⟩:=bd;cases as with
  |nil=>cases b<;>simp[kR]at ay
  |cons p as=>
  have l:(kR r as as).isSome=true:=by cases b<;>cases p<;>simp[kR]at ay⊢ <;>exact ay
  simp only[cW]at j;obtain⟨u,o,e,_,m⟩:=j;have s:X.toList.drop (n+1)=o:=by rw[<-List.tail_drop,e];rfl
  have x:X[n]? =some u:=by rw[<-vA,<-List.head?_drop,e];rfl
  rcases gJ.1 a with rfl|a
  ·refine⟨⟨u,by rw[t];exact run_part_plain w (FC c) x⟩,?_⟩;cases b
   ·obtain⟨k,h⟩:=(by simpa using c:∃k,P.underlying f.type=some (.int k));exact⟨_,h,.inl ⟨k,rfl⟩⟩
   ·exact⟨_,by simpa using c,.inr rfl⟩
  ·exact q gs (n+1) as bd (by rw[s];exact m) l f a
def VW{P:cG}{w:World}{α:Type}(body:α->PUnit->Sem (ForInStep PUnit)):∀(l:List α),(∀f∈l,(body f ⟨⟩).run P w= .ok (.yield ⟨⟩) w)->(forIn l PUnit.unit body).run P w= .ok PUnit.unit w
 |[],_=>by simp
 |f::l,h=>by simp only[List.forIn_cons,gm,h f Ψ,gA];exact VW body l fun g bd=>h g (by simp[bd])
def ab0{P:cG}{w:World}{ν:bc}{cz:kj}{t:Nat}(aK:vH P cz t)(e:Bool){k:af}{v:Value}(ad:aU w ν k v)(hi:x7 cz k=true):(Instr.checkKey e 10000 t v).run P w= .ok () w:=by
 cases aK with
 |i hu=>exact LU hu (.inl ⟨_,rfl⟩) e 9999 v
 |s hu=>exact LU hu (.inr rfl) e 9999 v
 |a hu bd dx=>
  rename_i en gs;cases k<;>simp only[x7,hU]at hi;rename_i as;simp only[aU]at ad;obtain⟨X,rfl,ad⟩:=ad;unfold Instr.checkKey;simp only[gm,run_underlying hu,gA];rw[<-Array.forIn_toList];rw[VW]
  ·simp
  ·intro f aG;obtain⟨⟨v,J⟩,d,U,ar⟩:=aiU en gs.toList 0 as bd (by simpa using ad) hi f aG;have aZ:=LU (w:=w) U ar e 9998 v;by_cases aw:f.name= "_"
   ·simp[aw]
   ·simp[aw,J,aZ]
def YZ{w:World}{ν:bc}{n:Nat}:∀(borns:List Nat) (kvs:List af) (us:List Value) (p:af),cZ w ν kvs us->oc n borns kvs=some p->∃e,(gQ borns us).find? (·.born==n)=some e/\aU w ν p (.tuple #[e.key,e.val])
 |[],_,_,_,_,hm=>by simp[oc]at hm
 |_::_,[],_,_,_,hm=>by simp[oc]at hm
 |_::_,[_],_,_,_,hm=>by simp[oc]at hm
 |b::g,k::v::kvs,us,p,h,hm=>by
  simp only[cZ]at h;obtain⟨d,j,rfl,J,c,f,rfl,U,i⟩:=h;simp only[oc]at hm;simp only[gQ];by_cases e:b=n
  ·rw[if_pos e]at hm;cases hm;refine⟨⟨d,c,b⟩,by simp[List.find?,e],?_⟩;simp only[aU];exact⟨#[d,c],rfl,by simp only[cZ];exact⟨_,_,rfl,J,_,_,rfl,U,rfl⟩⟩
  ·rw[if_neg e]at hm;obtain⟨x,g1,g2⟩:=YZ g kvs f p i hm;have a:(b==n)=false:=by simpa using e
   exact⟨x,by simp[List.find?,a,g1],g2⟩
def acZ{P:cG}{aS:List (Nat×et)}(H:hR P aS=true){C:fj}{st:bo}{a:Act}{w:World}{ν:bc}(B:c9 C st a w ν){i:gP}(akl:∀cz z ok x k,i≠ .mgetB cz z ok x k){o:Oper}(aq:Gf aS i o.op=true)
  {c:Prop} {p:af} (he:hZ st i=some (c,p)) (ay:c):∃v,(execOp a.eval o).run P w= .ok (.value v) w/\aU w ν p v:=by
 obtain⟨dst,op,type,pos,after,guard⟩:=o;simp only at aq;unfold Gf at aq;split at aq
 ·rename_i x o;simp only[hZ]at he;cases he;exact⟨_,rfl,e7 B aq⟩
 ·rename_i x o;simp only[hZ]at he;cases he;exact⟨_,rfl,e7 B aq⟩
 ·rename_i cB x y auq x' y';simp only[cO]at aq;have J:=e7 B aq.1.1;have U:=e7 B aq.1.2;have M:=e7 B aq.2;simp only[hZ,Js]at he;split at he
  ·rename_i b E;rw[E]at J;simp only[aU]at J;split at he
   ·rename_i u v hu O;cases he;rw[hu]at U;rw[O]at M;simp only[aU]at U M;refine⟨.bool (cond b u v),?_,by simp[aU]⟩;simp only[execOp,J,U,M,asBool,gm,hs,gA];cases b<;>rfl
   ·split at he
    ·cases he;exact⟨_,by simp only[execOp,J,asBool,gm,hs,gA,if_true],U⟩
    ·cases he;exact⟨_,by simp only[execOp,J,asBool,gm,hs,gA,hU,if_false],M⟩
  ·cases he
 ·rename_i agg sz x t o;simp only[cO]at aq;obtain⟨J,U⟩:=aq;split at J
  ·rename_i f F;simp only[cO,eA]at J;obtain⟨rfl,rfl⟩:=J;obtain⟨v,g1,g2⟩:=IU H B.good F (e7 B U) md ay;exact⟨v,l6 g1,g2⟩
  ·cases J
 ·rename_i off agg sz x s o i;simp only[cO]at aq;obtain⟨J,U⟩:=aq;split at J
  ·rename_i f F;split at J
   ·rename_i yi t El;simp only[cO,eA]at J;obtain⟨rfl,J⟩:=J;split at J
    ·rename_i g bd;simp only[cO,eA,bne_iff_ne,ne_eq]at J;obtain⟨⟨rfl,rfl⟩,W⟩:=J;obtain⟨v,g1,g2⟩:=aiP H F rfl El bd W (e7 B U) md ay;exact⟨v,l6 g1,g2⟩
    ·cases J
   ·cases J
  ·cases J
 ·rename_i off agg sz x s o i;simp only[cO]at aq;obtain⟨J,U⟩:=aq;split at J
  ·rename_i f F;split at J
   ·rename_i yi t El;simp only[cO,eA]at J;obtain⟨rfl,J⟩:=J;split at J
    ·rename_i g bd;simp only[cO,eA]at J;obtain⟨rfl,rfl⟩:=J;obtain⟨v,g1,g2⟩:=aiV H F rfl El bd (e7 B U) md ay;exact⟨v,l6 g1,g2⟩
    ·cases J
   ·cases J
  ·cases J
 ·rename_i sz x i t o j;simp only[cO]at aq;obtain⟨⟨J,U⟩,M⟩:=aq;split at J
  ·rename_i e F;split at J
   ·rename_i g bd;simp only[eA]at J;subst J;obtain⟨v,g1,g2⟩:=alW H F rfl bd (e7 B U) (e7 B M) md ay;exact⟨v,l6 g1,g2⟩
   ·cases J
  ·cases J
 ·rename_i x i t o j;simp only[cO]at aq;obtain⟨⟨J,U⟩,M⟩:=aq;split at J
  ·rename_i F;obtain⟨d,L,K⟩:=jm H F;obtain rfl:=za K;have A:=e7 B U;have G:=e7 B M;simp only[hZ,Ke]at he;split at he
   ·rename_i s k n ai Z;cases he;rw[ai]at A;rw[Z]at G;simp only[aU]at A G;obtain⟨wi,xD⟩:=ay;have bO:n.toNat<s.length:=Ω
    have akL:(⟨s.toArray⟩:ByteArray)[n.toNat]? =some (s.getD n.toNat 0):=by exact aj1 s n.toNat bO
    refine⟨_,l6 (v:= .int .u8 (s.getD n.toNat 0).toNat) ?_,by simp[aU]⟩;simp only[Instr.index,G,asIntOf,A.1,gm,hs,gA,run_underlying L,wi,if_true,akL]
   ·cases he
  ·cases J
 ·rename_i x lo hi t o l h;simp only[cO]at aq;obtain⟨⟨⟨J,U⟩,M⟩,aZ⟩:=aq;split at J
  ·rename_i F;obtain⟨d,L,K⟩:=jm H F;obtain rfl:=za K;have A:=e7 B U;simp only[hZ,Kj]at he;split at he
   ·rename_i s ai;rw[ai]at A;simp only[aU]at A;split at he
    ·rename_i N Q av Nk;cases he;obtain⟨bP,cp,di⟩:=ay;have a7:=Jn B M av;have bD:=Jn B aZ Nk;refine⟨_,l6 (v:= .string ⟨((s.take Q.toNat).drop N.toNat).toArray⟩) ?_,?_⟩
     ·have E:=Sc P w false s.length s.length (l.map a.eval) (h.map a.eval) N Q
       a7 bD bP cp di (dO _)
      simp only[Instr.sliceAt,Instr.slice,A.1,gm,hs,gA,run_underlying L,Option.map_none,k6,hU,if_false,F0,E,agS]
     ·simp only[aU];refine⟨trivial,?_⟩;have:=A.2;simp only[ur,List.length_take];omega
    ·cases he
   ·cases he
  ·cases J
 ·rename_i sz x lo hi t o l h;simp only[cO]at aq;obtain⟨⟨⟨J,U⟩,M⟩,aZ⟩:=aq;split at J
  ·rename_i e F;split at J
   ·rename_i g bd;simp only[eA]at J;subst J;obtain⟨d,L,K⟩:=jm H F;obtain rfl:=s7 K;obtain⟨_,eo⟩:=w6 H bd w;have A:=e7 B U;simp only[hZ,IX]at he;split at he
    ·rename_i eg tag xs ai;split at he
     ·rename_i gd;subst gd;rw[ai]at A;simp only[aU]at A;obtain⟨⟨R,cap,O,S,V,fK⟩,_⟩:=A;split at he
      ·rename_i N Q av Nk;cases he;obtain⟨bP,cp,di⟩:=ay;have a7:=Jn B M av;have bD:=Jn B aZ Nk;have E:=Sc P w true xs.length cap (l.map a.eval) (h.map a.eval) N Q
        a7 bD bP cp di S
       refine⟨_,l6 (v:= .slice (if cap=N.toNat then R else R.map (·.add (N.toNat*g.size))) (Q.toNat-N.toNat) (cap-N.toNat)) ?_,?_⟩
       ·simp only[Instr.sliceAt,Instr.slice,O,gm,hs,gA,run_underlying L,Option.map_none,E,eo]
       ·simp only[aU];have hlen:((xs.take Q.toNat).drop N.toNat).length=Q.toNat-N.toNat:=by simp;omega
        refine⟨⟨_,_,by rw[hlen],by rw[hlen];omega,⟨Ω,by rw[hlen];omega⟩,?_⟩,(fun h=>by cases h),(fun g h=>by cases h),(fun _ _ h=>by cases h),(fun _ h=>by cases h)⟩;rcases fK with rfl|⟨b,off,us,rfl,g1,g2⟩
        ·left;simp
        ·by_cases Bz:cap=N.toNat
         ·left;apply List.eq_nil_of_length_eq_zero;rw[hlen];omega
         ·right;rw[if_neg Bz];refine⟨b,off+N.toNat*g.size,(us.take (Q.toNat*g.size)).drop (N.toNat*g.size),by simp[pV],IL _ (IN _ g1),abI _ (abL _ g2)⟩
      ·cases he
     ·cases he
    ·cases he
   ·cases J
  ·cases J
 ·rename_i op wr x y aab ty o o' ash;simp only[cO,gn]at aq;obtain⟨⟨rfl,J⟩,U⟩:=aq;obtain⟨r,g1,g2⟩:=aeG P w ν md ay ty (e7 B J) (e7 B U) o o';exact⟨r,l6 g1,g2⟩
 ·rename_i x op ty o;simp only[cO,gn]at aq;obtain⟨rfl,J⟩:=aq;have A:=e7 B J;simp only[hZ]at he;unfold Jd at he;split at he
  ·rename_i b E;cases he;rw[E]at A;simp only[aU]at A;exact⟨_,l6 (v:= .bool (!b)) (by simp[Op.unary,A]),by simp[aU]⟩
  ·cases he
 ·rename_i x op ty o;simp only[cO,gn]at aq;obtain⟨rfl,J⟩:=aq;have A:=e7 B J;simp only[hZ]at he;unfold Ja at he;split at he
  ·rename_i k n E;cases he;rw[E]at A;simp only[aU]at A;exact⟨_,l6 (v:= .int k (k.wrap (0-n))) (by simp[Op.unary,A,Op.intArith]),by simp[aU]⟩
  ·cases he
 ·rename_i k x s d o;simp only[cO]at aq;obtain⟨J,U⟩:=aq;split at J
  ·rename_i a7 bD zw ts;simp only[gn]at J;subst J;obtain⟨d1,gh,M6⟩:=jm H zw;obtain rfl:=DL M6;obtain⟨d2,fl,M7⟩:=jm H ts;obtain rfl:=DL M7;have A:=e7 B U;simp only[hZ]at he;unfold G9 at he;split at he
   ·rename_i bs n E;cases he;rw[E]at A;simp only[aU]at A;exact⟨_,l6 (v:= .int k (k.wrap n)) (by simp[convert,A,run_underlying gh,run_underlying fl,Conv.intToInt]),by simp[aU]⟩
   ·cases he
  ·cases J
 ·rename_i i x o j;simp only[cO,eA]at aq;obtain⟨rfl,J⟩:=aq;have A:=e7 B J;simp only[hZ]at he;unfold Bi at he;split at he
  ·rename_i bk E;simp only[ht]at he;obtain⟨q,bK,he⟩:=he;cases he;rw[E]at A;simp only[aU]at A;obtain⟨us,hu,U⟩:=A;obtain⟨v,g1,g2⟩:=CU i U bK;have mh:us[i]? =some v:=by simpa using g1
   exact⟨v,l6 (by simp[Instr.extract,hu,mh]),g2⟩
  ·cases he
 ·rename_i x o t;simp only[cO]at aq;obtain⟨J,U⟩:=aq;have A:=e7 B U;simp only[hZ]at he;unfold Cc at he;split at he
  ·rename_i sz tag xs E;cases he;rw[E]at A;simp only[aU]at A;obtain⟨⟨R,cap,O,_⟩,_⟩:=A;refine⟨.int .i64 xs.length,?_,by simp[aU]⟩;split at J
   ·rename_i F;obtain⟨d,L,K⟩:=jm H F;obtain rfl:=s7 K;simp[execOp,resolve,invoke,builtin,Builtin.len_,run_underlying L,O,goInt]
   ·cases J
  ·rename_i sz k n E;cases he;rw[E]at A;simp only[aU]at A;obtain⟨⟨R,cap,O⟩,_⟩:=A;refine⟨.int .i64 n,?_,by simp[aU]⟩;split at J
   ·rename_i F;obtain⟨d,L,K⟩:=jm H F;obtain rfl:=s7 K;simp[execOp,resolve,invoke,builtin,Builtin.len_,run_underlying L,O,goInt]
   ·cases J
  ·rename_i R n cap E;cases he;rw[E]at A;simp only[aU]at A;refine⟨.int .i64 n,?_,by simp[aU]⟩;split at J
   ·rename_i F;obtain⟨d,L,K⟩:=jm H F;obtain rfl:=s7 K;simp[execOp,resolve,invoke,builtin,Builtin.len_,run_underlying L,A,goInt]
   ·cases J
  ·cases he
 ·rename_i x o t;simp only[cO]at aq;obtain⟨J,U⟩:=aq;have A:=e7 B U;simp only[hZ]at he;unfold F1 at he;split at he
  ·rename_i s E;cases he;rw[E]at A;simp only[aU]at A;refine⟨.int .i64 s.length,?_,by simp[aU]⟩;split at J
   ·rename_i F;obtain⟨d,L,K⟩:=jm H F;obtain rfl:=za K;simp[execOp,resolve,invoke,builtin,Builtin.len_,run_underlying L,A.1,goInt,F0]
   ·cases J
  ·rename_i s E;cases he;rw[E]at A;simp only[aU]at A;refine⟨.int .i64 s.size,?_,by simp[aU]⟩;split at J
   ·rename_i F;obtain⟨d,L,K⟩:=jm H F;obtain rfl:=za K;simp[execOp,resolve,invoke,builtin,Builtin.len_,run_underlying L,A,goInt]
   ·cases J
  ·cases he
 ·rename_i zero parts t bS;split at aq
  ·rename_i en z F;simp only[cO]at aq;obtain⟨⟨J,U⟩,M⟩:=aq;have bz:=atX J;obtain⟨i,d,atW,A,G,bg,b4,dP,dk,s8,s9⟩:=(w7 H F).ex;obtain⟨gs,rfl,lj⟩:=L0 dP;simp only at bz s8 s9;subst bz;have mH:(gs.toList.all fun f=>(eG aS f.type).isSome)=true:=by rw[<-lj]at U;simpa[List.all_map,Function.comp_def]using U
   obtain⟨ua,c4,dB⟩:=aam H gs.toList mH;rw[lj]at dB;cases atW<;>simp only[AK]at s8;case agg us=>
    simp only[hZ]at he;cases E:vU st.t zero parts with
    |none=>simp[E]at he
    |some x=>obtain⟨cB,cs'⟩:=x;simp only[E,pN]at he;cases he;obtain⟨bY,g1,g2⟩:=ab1 B dB parts bS.toList zero us c cs' M (Rw w ν _ _ s8) E ay;refine⟨.agg bY,l6 (run_build w t _ bY ?_),by simp only[aU];exact⟨bY,rfl,g2⟩⟩;simp only[Program.built,A,G,dk,c4,pK];simpa using g1
   all_goals cases s8
  ·cases aq
 ·rename_i x o;have A:=e7 B aq;simp only[hZ]at he;unfold Cq at he;split at he
  ·rename_i k off E;cases he;rw[E]at A;have G:=A;simp only[aU]at A;obtain⟨b,_,O⟩:=A;exact⟨a.eval o,by simp[execOp,O],G⟩
  ·rename_i q E;cases he;rw[E]at A;have G:=A;simp only[aU]at A;obtain⟨b,off,u,O,_⟩:=A;exact⟨a.eval o,by simp[execOp,O],G⟩
  ·rename_i f cs E;cases he;rw[E]at A;have G:=A;simp only[aU]at A;obtain⟨us,O,_⟩:=A;exact⟨a.eval o,by simp[execOp,O],G⟩
  ·cases he
 ·rename_i x y o o' t t';simp only[cO]at aq;have A:=e7 B aq.1;have G:=e7 B aq.2;simp only[hZ]at he;unfold I7 at he;split at he
  ·rename_i k m bs n hm Z;split at he
   ·rename_i ad;subst ad;cases he;rw[hm]at A;rw[Z]at G;simp only[aU]at A G;exact⟨.int k (if n<m then n else m),by simp[execOp,resolve,invoke,builtin,Builtin.min_,Builtin.min2,A,G],by simp[aU]⟩
   ·cases he
  ·cases he
 ·rename_i n xs m os;simp only[cO,eA]at aq;obtain⟨rfl,aq⟩:=aq;simp only[hZ]at he;cases he;have wg:=FO B aq;refine⟨.func (.func n) #[] (os.map a.eval),by simp[execOp,Instr.makeFunc],?_⟩;simp only[aU];exact⟨os.map a.eval,rfl,by simpa using wg⟩
 ·rename_i cz zero ok x k t o o' Jf;simp only[cO,eA]at aq;obtain⟨⟨⟨rfl,J⟩,U⟩,M⟩:=aq;have A:=e7 B U;have G:=e7 B M;split at J
  ·rename_i sz mC pq su z F;simp only[cO]at J;obtain⟨akU,Nb⟩:=J;split at Nb
   ·rename_i avj HX;have bz:=Ry Nb;obtain⟨cX,hu,K⟩:=jm H F;have xE:cX= .map pq su:=by cases cX<;>simp[k9]at K;obtain⟨rfl,rfl⟩:=K;rfl
    subst xE;obtain⟨cf,l7,z2,_⟩:=Q1 H HX w;rw[<-bz]at z2;have aa:=(Rx w ν z2).1;have rA:=Ye H akU;simp only[hZ]at he;unfold pt at he;split at he
    ·rename_i key ab;rw[ab]at A;simp only[aU]at A;obtain⟨bl,S,V⟩:=A;split at he
     ·rename_i clock borns kvs hy;obtain⟨h4,us,el,g1,g2,g3,g4,g5⟩:=B.good.box key _ hy;rw[S]at g1;cases g1;simp only[l2]at g4;simp only[k4]at g5;have iK:(getObj bl).run P w= .ok (.map (gQ borns us.toList).toArray clock) w:=yx g4;split at he
      ·cases he
      rename_i fM;have Ei:=ab0 (P:=P) (w:=w) rA ((gQ borns us.toList).toArray.isEmpty) G (by simpa using fM);split at he
      ·rename_i v hm;cases he;obtain⟨j,u,f1,f2⟩:=OS rA G borns kvs us.toList 0 _ g5.1 g5.2.len hm;refine⟨if ok then .tuple #[u,.bool true]else u,?_,?_⟩
       ·simp only[execOp];refine l6 ?_;simp only[Instr.lookup,gm,run_underlying hu,gA,V,iK,hs,Ei,f1.run rA]
       ·cases ok
        ·simpa using f2
        ·simp only[if_true,aU];exact⟨_,rfl,by simp only[cZ];exact⟨_,_,rfl,f2,_,_,rfl,by simp[aU],rfl⟩⟩
      ·rename_i hm;cases he;have f1:=OS rA G borns kvs us.toList 0 _ g5.1 g5.2.len hm;simp only at f1;refine⟨if ok then .tuple #[cf,.bool false]else cf,?_,?_⟩
       ·simp only[execOp];refine l6 ?_;simp only[Instr.lookup,gm,run_underlying hu,gA,V,iK,hs,Ei,f1.run rA,l7]
       ·cases ok
        ·simpa using aa
        ·simp only[if_true,aU];exact⟨_,rfl,by simp only[cZ];exact⟨_,_,rfl,aa,_,_,rfl,by simp[aU],rfl⟩⟩
      ·cases he
     ·cases he
    ·cases he
   ·cases Nb
  ·cases J
 ·rename_i x o;have A:=e7 B aq;simp only[hZ]at he;unfold qZ at he;split at he
  ·rename_i gk ab;rw[ab]at A;simp only[aU]at A;obtain⟨bl,S,V⟩:=A;split at he
   ·rename_i since seen last mk hy;obtain⟨h4,us,el,g1,g2,g3,g4,g5⟩:=B.good.box gk _ hy;rw[S]at g1;cases g1;simp only[l2]at g4;simp only[k4,cZ,aU]at g5;obtain⟨u,bY,sC,⟨mb,m1,rfl⟩,rfl⟩:=g5;rw[sC]at g4;simp only at g4;split at he
    ·rename_i clock borns kvs ak4;obtain⟨aeL,sR,afQ,a7,bD,b7,ea,dr⟩:=B.good.box mk _ ak4;rw[m1]at a7;cases a7;simp only[l2]at ea;simp only[k4]at dr;split at he
     ·rename_i n Z;simp only[ht]at he;obtain⟨q,bK,he⟩:=he;cases he;obtain⟨e,f1,f2⟩:=YZ borns kvs sR.toList p dr.1 bK;refine⟨.tuple #[e.key,e.val],?_,f2⟩;simp only[execOp];refine l6 ?_;have akG:(getObj bl).run P w= .ok (.mapIter (some mb) since seen.toArray last) w:=yx g4;have akH:(getObj mb).run P w= .ok (.map (gQ borns sR.toList).toArray clock) w:=yx ea;have M0:seen.toArray.back? =some n:=by simpa using Z
      have BA:(clock !=last)=false:=by simp[ay]
      have akz:(gQ borns sR.toList).toArray.find? (·.born==n)=some e:=by simpa using f1
      simp only[Instr.entry,V,gm,akG,gA,M0,akH,BA,hU,if_false,akz,hs]
     ·cases he
    ·cases he
   ·cases he
  ·cases he
 ·rename_i x o t;simp only[cO]at aq;obtain⟨J,U⟩:=aq;have A:=e7 B U;simp only[hZ]at he;unfold Cp at he;split at he
  ·rename_i key E;rw[E]at A;simp only[aU]at A;obtain⟨bl,S,V⟩:=A;split at he
   ·rename_i clock borns kvs hy;cases he;obtain⟨h4,us,el,g1,g2,g3,g4,g5⟩:=B.good.box key _ hy;rw[S]at g1;cases g1;simp only[l2]at g4;simp only[k4]at g5;have iK:(getObj bl).run P w= .ok (.map (gQ borns us.toList).toArray clock) w:=yx g4;have hlen:(gQ borns us.toList).length=borns.length:=U2 g5.2.len (abR g5.1);refine⟨.int .i64 borns.length,?_,by simp[aU]⟩;split at J
    ·rename_i F;obtain⟨d,L,K⟩:=jm H F;obtain⟨pq,su,rfl⟩:∃pq su,d= .map pq su:=by cases d<;>simp[k9]at K;exact⟨_,_,rfl⟩
     simp[execOp,resolve,invoke,builtin,Builtin.len_,run_underlying L,V,goInt,iK,hlen]
    ·cases J
   ·cases he
  ·cases he
 ·rename_i neg en x y op t o o' ash;simp only[cO,gn]at aq;obtain⟨⟨⟨rfl,W⟩,J⟩,U⟩:=aq;have A:=e7 B J;have G:=e7 B U;simp only[hZ]at he;unfold js at he;split at he
  ·rename_i bp b0 bR E;simp only at W;cases he;rw[bR]at A;rw[E]at G;simp only[aU]at A G;split at W
   ·rename_i F;obtain⟨d,L,K⟩:=jm H F;obtain rfl:d= .bool:=by cases d<;>simp[k9]at K;rfl
    refine⟨.bool (if neg then bp !=b0 else bp==b0),l6 ?_,by simp[aU]⟩;cases neg<;>simp[A,G,eqGuard,binOp,afY L,bne]
   ·cases W
  ·rename_i avq as dC bR E;simp only at W;simp only[ht]at he;obtain⟨q,bK,he⟩:=he;cases he;rw[bR]at A;rw[E]at G;simp only[aU]at A G;obtain⟨X,afK,aqa⟩:=A;obtain⟨Y,afL,aqb⟩:=G;obtain⟨gs,hu,bd,dx,jJ⟩:=VO H W;obtain⟨i1,_,_⟩:=U6 hu bd dx aqa aqb bK;refine⟨.bool (if neg then !q else q),l6 ?_,by simp[aU]⟩;rw[afK,afL];cases neg
   ·simp only[hU,if_false,gm,run_eqGuard_agg w _ t o o' X Y jJ,gA,run_eql_struct,i1]
   ·simp only[if_true,gm,run_eqGuard_agg w _ t o o' X Y jJ,gA,run_neq_struct,i1]
  ·cases he
 ·rename_i x y o o' t t';simp only[cO]at aq;have A:=e7 B aq.1;have G:=e7 B aq.2;simp only[hZ]at he;unfold I1 at he;split at he
  ·rename_i k m bs n hm Z;split at he
   ·rename_i ad;subst ad;cases he;rw[hm]at A;rw[Z]at G;simp only[aU]at A G;exact⟨.int k (if m<n then n else m),by simp[execOp,resolve,invoke,builtin,Builtin.max_,Builtin.max2,A,G],by simp[aU]⟩
   ·cases he
  ·cases he
 ·rename_i t x t' o;simp only[cO,eA]at aq;obtain⟨⟨rfl,J⟩,U⟩:=aq;have A:=e7 B U;simp only[hZ]at he;cases he;split at J
  ·rename_i F;obtain⟨d,L,K⟩:=jm H F;obtain rfl:=s7 K;refine⟨.iface t (a.eval o),l6 (by simp[Instr.makeInterface,run_underlying L]),?_⟩;simp only[aU];exact⟨_,rfl,A⟩
  ·cases J
 ·rename_i agg sz x t o;simp only[cO]at aq;obtain⟨J,U⟩:=aq;split at J
  ·rename_i f F;simp only[cO,eA]at J;obtain⟨rfl,rfl⟩:=J;obtain⟨v,g1,g2⟩:=IU H B.good F (e7 B U) (amQ md) ay;exact⟨v,l6 g1,g2⟩
  ·cases J
 ·rename_i x s d o;simp only[cO]at aq;obtain⟨J,U⟩:=aq;split at J
  ·rename_i e _ _ zw ts;split at J
   ·rename_i aky;obtain⟨d1,gh,M6⟩:=jm H zw;obtain rfl:=s7 M6;obtain⟨d2,fl,M7⟩:=jm H ts;obtain rfl:=za M7;obtain⟨d3,hg,aku⟩:=jm H aky;obtain rfl:=DL aku;have A:=e7 B U;simp only[hZ]at he;unfold GI at he;split at he
    ·rename_i sz tag xs E;simp only[ht]at he;obtain⟨dC,p5,he⟩:=he;cases he;rw[E]at A;simp only[aU]at A;obtain⟨⟨R,cap,a8,bB,bW,dn⟩,_⟩:=A;have av:=Si p5;have ab:∃ns:List Int,ns.length=xs.length/\dC=ns.map AV/\(xs.length=0\/ ∃b off,R=some ⟨b,off,none⟩/\kZ w ν.A b off (ns.map (Value.int .u8))):=by
      rcases dn with rfl|⟨b,off,us,c4,dB,hG⟩
      ·simp only[si,dV]at p5;exact⟨[],rfl,by rw[<-p5];rfl,.inl rfl⟩
      ·obtain⟨ns,dK,eE,ky⟩:=Sj p5 hG;subst dK;exact⟨ns,by simpa using ky,eE,.inr ⟨b,off,c4,dB⟩⟩
     obtain⟨ns,gu,rfl,hO⟩:=ab;refine⟨_,l6 (v:= .string ⟨(ns.map AV).toArray⟩) ?_,by simp only[aU];exact⟨trivial,by rw[av];exact bW.2⟩⟩;rw[a8];simp only[convert,gm,run_underlying gh,run_underlying fl,gA];simp only[run_underlying hg,gm,gA,aeC gu hO]
    ·cases he
   ·cases J
  ·cases J
 ·rename_i agg sz x t o;simp only[cO]at aq;obtain⟨J,U⟩:=aq;split at J
  ·rename_i f F;simp only[cO,eA]at J;obtain⟨rfl,rfl⟩:=J;obtain⟨v,g1,g2⟩:=IU H B.good F (e7 B U) (ai0 md) ay;exact⟨v,l6 g1,g2⟩
  ·cases J
 ·exact absurd rfl (akl _ _ _ _ _)
 ·cases aq
def aso{P:cG}{aS:List (Nat×et)}(f:hR P aS=true){C:fj}{st:bo}{a:Act}{w:World}{ν:bc}(g:c9 C st a w ν){i:gP}{o:Oper}(aq:Gf aS i o.op=true)
  {c:Prop} {p:af} (he:hZ st i=some (c,p)) (ay:c):∃v,(execOp a.eval o).run P w= .ok (.value v) w/\aU w ν p v:=by
 by_cases d:∃b z ok x k,i= .mgetB b z ok x k
 ·obtain⟨b,z,ok,x,k,rfl⟩:=d;refine acZ f g (i:= .mget b z ok x k) (fun _ _ _ _ _ e=>by cases e) ?_ he ay;obtain⟨dst,op,type,pos,after,guard⟩:=o;cases op<;>first|exact aq|simp[Gf]at aq
 ·exact acZ f g (fun b z ok x k e=>d ⟨b,z,ok,x,k,e⟩) aq he ay
def Ur{w:World}{o:Obj}{b i:Nat}(h:b<w.heap.size):(w.alloc o).cell? ⟨b,i,none⟩=w.cell? ⟨b,i,none⟩:=World.cell?_of_block (Below.heap_alloc w o b h)
def bc.withBox(ν:bc)(k:aB)(bl:Nat):bc:={ν with bx:=fun j=>if j=k then some bl else ν.bx j}
def bc.withOwn(ν:bc)(k:aB)(n:Nat)(v:Value):bc:={ν with ow:=fun j=>if j=k then some (n,v)else ν.ow j}
def c9.lookNone{C:fj}{st:bo}{a:Act}{w:World}{ν:bc}(h:c9 C st a w ν){k:aB}(ad:fresh st.n st.o k):ae k st.b=none/\ae k st.e=none:=by
 obtain⟨J,U,_⟩:=h.new k ad;constructor
 ·cases b:ae k st.b with
  |none=>rfl
  |some cs=>obtain⟨bl,us,el,g1,_⟩:=h.good.box _ _ b;rw[J]at g1;cases g1
 ·cases b:ae k st.e with
  |none=>rfl
  |some o=>obtain⟨v,us,g1,_⟩:=h.good.own _ _ b;rw[U]at g1;cases g1
def Good.ownLt{pr:Nat->Prop}{w:World}{ν:bc}{b:List (aB×List af)}{e:List (aB×dT)}(h:Good pr w ν b e){g:aB}{o:dT}(bd:ae g e=some o){n:Nat}{v:Value}(c:ν.ow g=some (n,v)){bl:Nat}(a:v.ownBlock=some bl):bl<w.heap.size:=by obtain⟨v',us,g1,g2,_⟩:=h.own g o bd;rw[c]at g1;cases g1;exact(g2.lt bl a).2
def Good.boxLt{pr:Nat->Prop}{w:World}{ν:bc}{b:List (aB×List af)}{e:List (aB×dT)}(h:Good pr w ν b e){k:aB}{cs:List af}(ad:ae k b=some cs){bl:Nat}(a:ν.bx k=some bl):bl<w.heap.size:=by obtain⟨c,us,el,g1,_,_,g4,_⟩:=h.box k cs ad;rw[a]at g1;cases g1;exact(Array.getElem?_eq_some_iff.1 g4).1
def c9.newBox{C:fj}{st:bo}{a:Act}{w:World}{ν:bc}(h:c9 C st a w ν){c:aB}(H:ν.bx c=none/\ν.ow c=none/\∀j b,¬ν.tr c j b){n':Nat}{o':List aB}(O:∀j,fresh n' o' j->fresh st.n st.o j/\j≠c){cs:List af}{us:Array Value}(el:gW)(ay:k4 w ν cs us.toList):
  c9 C {st with b:=cL c cs st.b,n:=n',o:=o'} a (w.alloc (l2 cs us el)) (ν.withBox c w.heap.size)/\
  aU (w.alloc (l2 cs us el)) (ν.withBox c w.heap.size) (.ptr c 0) (.pointer (some ⟨w.heap.size,0,none⟩)):=by
 obtain⟨K,S,B⟩:=H;have aq:mB w ν (w.alloc (l2 cs us el)) (ν.withBox c w.heap.size):=by
  refine⟨fun b o f=>⟨f,Ur (h.good.alt b o f)⟩,fun k b _ ad=>?_,fun g n u _ bd=>⟨n,u,bd,.inl ⟨rfl,rfl⟩⟩,fun b o f=>yB (Below.heap_alloc w _ b (h.good.alt b o f)),fun _ _ _ _ h=>h⟩;have:k≠c:=fun e=>by subst e;rw[K]at ad;cases ad
  simp[bc.withBox,this,ad]
 have y:(w.alloc (l2 cs us el)).heap.size=w.heap.size+1:=Ψ
 have r:∀k,(ae k (cL c cs st.b)).isSome->k=c\/(k≠c/\(ae k st.b).isSome/\(ν.withBox c w.heap.size).bx k=ν.bx k):=by
  intro k ad;by_cases e:k=c
  ·exact .inl e
  ·rw[jj,if_neg (Ne.symm e)]at ad;exact .inr ⟨e,ad,by simp[bc.withBox,e]⟩
 refine⟨h.over aq rfl ⟨fun bl o f=>by rw[y];have:=h.good.alt bl o f;omega,fun k z ad=>?_,fun k bs bl ad L p q=>?_,fun g o bd=>?_,h.good.oinj,fun g k n v bl bd ad G d s=>?_,fun k=>?_,fun bl d k j E=>?_⟩
  ⟨h.fr.os,h.fr.tape,h.fr.output,by rw[y];have:=h.fr.size;omega,fun k ad hm=>?_,fun b o f=>?_,h.fr.fresh,fun n b d=>?_,h.fr.obn,h.fr.row,h.fr.obr,h.fr.trd,fun k j b d=>⟨(h.fr.trb k j b d).1,by rw[y];have:=(h.fr.trb k j b d).2;omega⟩,fun k j b d=>?_,fun b o f=>(aq.sh b o (h.fr.keep b o f).1).trans (h.fr.sh b o f)⟩ (fun m hm=>?_),?_⟩
 ·simp only at ad;rw[jj]at ad;by_cases e:c=k
  ·rw[if_pos e]at ad;cases ad;subst e;refine⟨w.heap.size,us,el,by simp[bc.withBox],.inr h.fr.size,fun o f=>?_,heap_alloc_new w _,rU aq ay⟩;have:=h.good.alt _ o f;omega
  ·rw[if_neg e]at ad;obtain⟨bl,R,N,g1,g2,g3,g4,g5⟩:=h.good.box k z ad;exact⟨bl,R,N,aq.bx _ _ trivial g1,g2,g3,by rw[Below.heap_alloc w _ bl (Array.getElem?_eq_some_iff.1 g4).1];exact g4,rU aq g5⟩
 ·rcases r k ad with rfl|⟨F,l,i⟩<;>rcases r bs L with rfl|⟨m1,m2,m3⟩
  ·rfl
  ·exfalso;simp only[bc.withBox,if_true,dV]at p;subst p;rw[m3]at q;obtain⟨z,x⟩:=fy.1 m2;have:=h.good.boxLt x q;omega
  ·exfalso;simp only[bc.withBox,if_true,dV]at q;subst q;rw[i]at p;obtain⟨z,x⟩:=fy.1 l;have:=h.good.boxLt x p;omega
  ·rw[i]at p;rw[m3]at q;exact h.good.inj k bs bl l m2 p q
 ·obtain⟨v,xs,g1,g2,g3,g4⟩:=h.good.own g o bd;exact⟨v,xs,g1,g2.alloc _,g3,ue aq (fun _ _ _ h=>h) g4⟩
 ·rcases r k ad with rfl|⟨F,l,i⟩
  ·simp only[bc.withBox,if_true,dV]at s;subst s;obtain⟨o,M⟩:=fy.1 bd;have:=h.good.ownLt M G d;omega
  ·rw[i]at s;exact h.good.obx g k n v bl bd l G d s
 ·by_cases e:k=c
  ·subst e;exact .inr S
  ·rcases h.good.one k with J|J
   ·exact .inl (by simp[bc.withBox,e,J])
   ·exact .inr J
 ·rcases d with⟨bs,Q,a2⟩|d
  ·rcases r bs Q with rfl|⟨F,l,i⟩
   ·simp[bc.withBox]at a2;subst a2;exact absurd (h.fr.trb k j _ E).2 (Nat.lt_irrefl _)
   ·exact h.good.otr bl (.inl ⟨bs,l,by rw[<-i];exact a2⟩) k j E
  ·exact h.good.otr bl (.inr d) k j E
 ·rw[Below.heap_alloc w _ k (by have:=h.fr.size;omega)];exact h.fr.block k ad hm
 ·obtain⟨t,A⟩:=h.fr.keep b o f;exact⟨t,(Ur (h.good.alt b o t)).trans A⟩
 ·exact aq.bx _ _ trivial (h.fr.obj n b d)
 ·have P:k≠c:=fun e=>by subst e;exact B j b d
  obtain⟨t1,t2⟩:=h.fr.trn k j b d;exact⟨by simp[bc.withBox,P,t1],t2⟩
 ·obtain⟨f1,f2⟩:=O m hm;obtain⟨t,A⟩:=h.new m f1;refine⟨?_,A⟩;simp[bc.withBox,f2,t]
 ·simp[aU,bc.withBox]
def c9.setBox{C:fj}{st:bo}{a:Act}{w w':World}{ν:bc}(h:c9 C st a w ν){k:aB}{cs cs':List af}(ad:ae k st.b=some cs){bl:Nat}(f:ν.bx k=some bl){us:Array Value}{el:gW}
  (M:w'.os=w.os) (L:w'.tape=w.tape) (K:w'.output=w.output) (l:∀j,j≠bl->w'.heap[j]? =w.heap[j]?) (q:w'.heap.size=w.heap.size) (z:w'.heap[bl]? =some (l2 cs' us el)) (ay:k4 w ν cs' us.toList):
  c9 C {st with b:=cL k cs' st.b} a w' ν/\mB w ν w' ν:=by
 obtain⟨N,O,H,g1,g2,g3,g4,g5⟩:=h.good.box k cs ad;rw[f]at g1;cases g1;have aq:mB w ν w' ν:=by
  refine⟨fun b o d=>⟨d,World.cell?_of_block (l b fun e=>?_)⟩,fun _ _ _ h=>h,fun g n u _ bd=>⟨n,u,bd,.inl ⟨rfl,rfl⟩⟩,fun b o d=>yB (l b fun e=>?_),fun _ _ _ _ h=>h⟩<;>
  (subst e;exact g3 o d)
 have p:∀j,(ae j (cL k cs' st.b)).isSome->(ae j st.b).isSome:=by
  intro j c;rw[jj]at c;by_cases e:k=j
  ·subst e;simp[ad]
  ·rwa[if_neg e]at c
 refine⟨h.over aq rfl ⟨fun b o d=>by rw[q];exact h.good.alt b o d,fun j B c=>?_,fun j dg b c y=>h.good.inj j dg b (p j c) (p dg y),fun g o bd=>?_,h.good.oinj,fun g j n v b bd c=>h.good.obx g j n v b bd (p j c),h.good.one,fun bl f=>h.good.otr bl (f.imp (fun⟨k,J,U⟩=>⟨k,p k J,U⟩) id)⟩
  ⟨M.trans h.fr.os,L.trans h.fr.tape,K.trans h.fr.output,by rw[q];exact h.fr.size,fun j c hm=>?_,fun b o d=>?_,h.fr.fresh,h.fr.obj,h.fr.obn,h.fr.row,h.fr.obr,h.fr.trd,fun k j b f=>⟨(h.fr.trb k j b f).1,by rw[q];exact(h.fr.trb k j b f).2⟩,h.fr.trn,fun b o d=>(aq.sh b o (h.fr.keep b o d).1).trans (h.fr.sh b o d)⟩ h.new,aq⟩
 ·simp only at c;rw[jj]at c;by_cases e:k=j
  ·rw[if_pos e]at c;cases c;subst e;exact⟨bl,us,el,f,g2,g3,z,rU aq ay⟩
  ·rw[if_neg e]at c;obtain⟨b,F,A,m,i,s,t,E⟩:=h.good.box j B c;refine⟨b,F,A,m,i,s,?_,rU aq E⟩;rw[l b fun r=>e (h.good.inj k j bl (by simp[ad]) (by simp[c]) f (by rw[<-r];exact m))];exact t
 ·obtain⟨v,xs,m,i,s,t⟩:=h.good.own g o bd;refine⟨v,xs,m,⟨i.1,?_⟩,s,ue aq (fun _ _ _ h=>h) t⟩;rcases i.2 with i|⟨bb,cap,cur,f1,f2,f3,f4⟩
  ·exact .inl i
  ·refine .inr ⟨bb,cap,cur,f1,f2,?_,f4⟩;rw[l bb fun r=>h.good.obx g k o.n v bl (by simp[bd]) (by simp[ad]) m (by rw[f1,<-r];rfl) f];exact f3
 ·rw[l j fun e=>by subst e;exact g2.elim hm (fun g2=>Ω)];exact h.fr.block j c hm
 ·obtain⟨x,G⟩:=h.fr.keep b o d;exact⟨x,(aq.A b o x).2.trans G⟩
def c9.storeBox{C:fj}{st:bo}{a:Act}{w:World}{ν:bc}(h:c9 C st a w ν){k:aB}{cs cs':List af}(ad:ae k st.b=some cs){bl:Nat}(c:ν.bx k=some bl)(f:gZ cs=true){us:Array Value}(ay:cW w ν cs' us.toList):
  c9 C {st with b:=cL k cs' st.b} a (w.setRow bl us) ν:=by
 obtain⟨i,e,el,g1,g2,g3,g4,g5⟩:=h.good.box k cs ad;rw[c]at g1;cases g1;rw[pz f]at g4;have d:=wW ay;exact(h.setBox (w':=w.setRow bl us) ad c (us:=us) (el:=el) rfl rfl rfl (fun j g=>setRow_other w bl j us g) (setRow_size w bl us) (by rw[pz d];exact setRow_heap w bl e us el _ g4) (by rw[pA d];exact ay)).1
def bc.withRowOf(ν:bc)(k:aB)(v:Value)(n cells:Nat):bc:={A:=fun b o=>ν.A b o\/(v.ownBlock=some b/\o<cells),bx:=ν.bx,ow:=fun j=>if j=k then some (n,v)else ν.ow j,tr:=ν.tr}
def IM{w:World}{A:Nat->Nat->Prop}{b:Nat}:∀(us:List Value) (off:Nat),(∀j u,us[j]? =some u->A b (off+j)/\w.cell? ⟨b,off+j,none⟩=some u)->kZ w A b off us
 |[],_,_=>trivial
 |u::us,off,h=>⟨h 0 u rfl,IM us (off+1) fun j x a=>by have:=h (j+1) x (by simpa using a);rwa[show off+(j+1)=off+1+j from by omega]at this⟩
def G6{w w':World}(bd:w.grownBy w' none){b i:Nat}(h:b<w.heap.size):w'.cell? ⟨b,i,none⟩=w.cell? ⟨b,i,none⟩:=World.cell?_of_block (bd.block b h Ψ)
def c9.newRowM{C:fj}{st:bo}{a:Act}{w w':World}{ν:bc}(h:c9 C st a w ν){k:aB}{xs:List af}(ad:(ν.bx k=none/\ν.ow k=none/\∀j b,¬ν.tr k j b)\/ ∃o,ae k st.e=some o/\o.n<xs.length){el sz:Nat}{v:Value}{us:List Value}
  (bd:w.grownBy w' none) (F:w'.ownsRow w.heap.size el sz v xs.length us) (ay:dv w ν sz xs us) (Y:xs.length<=lim) {n':Nat} {o':List aB} (dA:∀j,fresh n' o' j->fresh st.n st.o j/\j≠k):
  c9 C {st with e:=cL k ⟨xs.length,el,sz,some xs⟩ st.e,n:=n',o:=o'} a w' (ν.withOwn k xs.length v)/\
  ((∃b cap,v= .slice (some ⟨b,0,none⟩) xs.length cap)->aU w' (ν.withOwn k xs.length v) (.row sz k xs.length) v):=by
 have q:∀bl,v.ownBlock=some bl->w.heap.size<=bl/\bl<w'.heap.size:=fun bl c=>F.lt bl c;have aq:mB w ν w' (ν.withOwn k xs.length v):=by
  refine⟨fun b o d=>⟨d,G6 bd (h.good.alt b o d)⟩,fun j b _ z=>z,fun g n u _ y=>?_,fun b o d=>yB (bd.block b (h.good.alt b o d) Ψ),fun _ _ _ _ h=>h⟩;by_cases e:g=k
  ·subst e;rcases ad with ad|⟨o,aq,H⟩
   ·rw[ad.2.1]at y;cases y
   ·obtain⟨v0,B,i,_⟩:=h.good.own g o aq;rw[i]at y;cases y;exact⟨xs.length,v,by simp[bc.withOwn],.inr H⟩
  ·exact⟨n,u,by simp[bc.withOwn,e,y],.inl ⟨rfl,rfl⟩⟩
 have A:∀g,(ae g (cL k ⟨xs.length,el,sz,some xs⟩ st.e)).isSome->g=k\/(g≠k/\(ae g st.e).isSome/\(ν.withOwn k xs.length v).ow g=ν.ow g):=by
  intro g N;by_cases e:g=k
  ·exact .inl e
  ·rw[jj,if_neg (Ne.symm e)]at N;exact .inr ⟨e,N,by simp[bc.withOwn,e]⟩
 have V:∀bl,v.ownBlock=some bl->∀j,¬ν.A bl j:=fun bl c j d=>by have J:=h.good.alt bl j d;have:=(q bl c).1;omega
 have L:∀j b,¬ν.tr k j b:=fun j b c=>by
  rcases ad with ad|⟨o,p,_⟩
  ·exact ad.2.2 j b c
  ·obtain⟨v0,B,i,_⟩:=h.good.own k o p;rw[(h.fr.trn k j b c).2]at i;cases i
 refine⟨h.over aq rfl ⟨fun bl o d=>?_,fun j Q z=>?_,h.good.inj,fun g o t=>?_,fun g P n n' u Z bl J U f l x G=>?_,fun g j n u bl J U f l x=>?_,fun j=>?_,fun bl c bs j M=>?_⟩
  ⟨bd.os.trans h.fr.os,bd.tape.trans h.fr.tape,bd.output.trans h.fr.output,kg h.fr.size bd.size,fun j z hm=>?_,fun b o d=>?_,h.fr.fresh,h.fr.obj,h.fr.obn,fun m n u hm=>FR (h.fr.row m n u hm) (fun n u=>aq.ow _ n u trivial),h.fr.obr,h.fr.trd,fun k j b c=>⟨(h.fr.trb k j b c).1,Nat.lt_of_lt_of_le (h.fr.trb k j b c).2 bd.size⟩,fun bs j b c=>?_,fun b o d=>(aq.sh b o (h.fr.keep b o d).1).trans (h.fr.sh b o d)⟩ (fun m hm=>?_),?_⟩
 ·have:=h.good.alt bl o d;have:=bd.size;omega
 ·obtain⟨bl,bY,X,g1,g2,g3,g4,g5⟩:=h.good.box j Q z;have H:=(Array.getElem?_eq_some_iff.1 g4).1;exact⟨bl,bY,X,g1,g2,g3,by rw[bd.block bl H Ψ];exact g4,rU aq g5⟩
 ·simp only at t;rw[jj]at t;by_cases e:k=g
  ·rw[if_pos e]at t;cases t;subst e;refine⟨v,us,by simp[bc.withOwn],⟨F.1,?_⟩,fun bl c=>⟨.inr (kg h.fr.size (q bl c).1),fun j d=>absurd d (V bl c j)⟩,fun ys S=>?_⟩
   ·rcases F.2 with i|⟨bb,cap,cur,f1,f2,f3⟩
    ·exact .inl i
    ·exact .inr ⟨bb,cap,cur,f1,Ω,f3⟩
   ·simp only[dV]at S;subst S;exact⟨rfl,CR aq ay,V⟩
  ·rw[if_neg e]at t;obtain⟨v0,B,i,aC,bg,b4⟩:=h.good.own g o t;exact⟨v0,B,by simp[bc.withOwn,Ne.symm e,i],aC.kept bd (by cases v0.ownBlock<;>simp),bg,ue aq (fun _ _ _ h=>h) b4⟩
 ·rcases A g J with rfl|⟨O,s,r⟩<;>rcases A P U with rfl|⟨m1,m2,m3⟩
  ·rfl
  ·exfalso;simp only[bc.withOwn,if_true,dV,jo]at f;rw[m3]at l;obtain⟨o,p⟩:=fy.1 m2;have R:=h.good.ownLt p l G;have:=(q bl (by rw[f.2];exact x)).1;omega
  ·exfalso;simp only[bc.withOwn,if_true,dV,jo]at l;rw[r]at f;obtain⟨o,p⟩:=fy.1 s;have R:=h.good.ownLt p f x;have:=(q bl (by rw[l.2];exact G)).1;omega
  ·rw[r]at f;rw[m3]at l;exact h.good.oinj g P n n' u Z bl s m2 f l x G
 ·rcases A g J with rfl|⟨O,s,r⟩
  ·simp only[bc.withOwn,if_true,dV,jo]at f;obtain⟨Q,W⟩:=fy.1 U;have R:=h.good.boxLt W x;have:=(q bl (by rw[f.2];exact l)).1;omega
  ·rw[r]at f;exact h.good.obx g j n u bl s U f l x
 ·by_cases e:j=k
  ·subst e;rcases ad with ad|⟨o,p,_⟩
   ·exact .inl ad.1
   ·obtain⟨v0,B,i,_⟩:=h.good.own j o p;rcases h.good.one j with J|J
    ·exact .inl J
    ·rw[J]at i;cases i
  ·rcases h.good.one j with J|J
   ·exact .inl J
   ·exact .inr (by simp[bc.withOwn,e,J])
 ·rcases c with c|⟨g,n,u,bq,a2,a3⟩
  ·exact h.good.otr bl (.inl c) bs j M
  ·rcases A g bq with rfl|⟨O,s,r⟩
   ·simp only[bc.withOwn,if_true,dV,jo]at a2;have J:=(q bl (by rw[a2.2];exact a3)).1;have U:=(h.fr.trb bs j _ M).2;omega
   ·exact h.good.otr bl (.inr ⟨g,n,u,s,by rw[<-r];exact a2,a3⟩) bs j M
 ·rw[bd.block j (by have:=h.fr.size;omega) Ψ];exact h.fr.block j z hm
 ·obtain⟨E,K⟩:=h.fr.keep b o d;exact⟨E,(aq.A b o E).2.trans K⟩
 ·have cw:bs≠k:=fun e=>by subst e;exact L j b c
  obtain⟨t1,t2⟩:=h.fr.trn bs j b c;exact⟨t1,by simp[bc.withOwn,cw,t2]⟩
 ·obtain⟨f1,f2⟩:=dA m hm;obtain⟨E,K,b7⟩:=h.new m f1;refine⟨E,?_,b7⟩;simp[bc.withOwn,f2,K]
 ·intro Ng;simp only[aU];exact⟨Ng,Y,xs.length,v,by simp[bc.withOwn],dO _,fun _=>rfl⟩
def c9.publish{C:fj}{st:bo}{a:Act}{w:World}{ν:bc}(h:c9 C st a w ν){k:aB}{o:dT}{xs:List af}(ad:ae k st.e=some o)(ab:o.xs=some xs){v:Value}(q:ν.ow k=some (o.n,v))(E:xs.length<=lim):
  c9 C {st with e:=cL k ⟨o.n,o.el,o.sz,none⟩ st.e} a w (ν.withRowOf k v o.n (o.n*o.sz))/\
  aU w (ν.withRowOf k v o.n (o.n*o.sz)) (.slice o.sz (.own k) xs) v:=by
 obtain⟨v0,us,K,r,x,S⟩:=h.good.own k o ad;rw[q]at K;cases K;obtain⟨G,L,vm⟩:=S xs ab;have f:∀g,(ν.withRowOf k v o.n (o.n*o.sz)).ow g=ν.ow g:=fun g=>by
  simp only[bc.withRowOf];split
  ·rename_i e;subst e;exact q.symm
  ·rfl
 have aq:mB w ν w (ν.withRowOf k v o.n (o.n*o.sz)):=⟨fun b o c=>⟨.inl c,rfl⟩,fun j b _ p=>p,fun g n u _ N=>⟨n,u,by rw[f];exact N,.inl ⟨rfl,rfl⟩⟩,fun _ _ _=>rfl,fun _ _ _ _ h=>h⟩
 have s:∀g,(ae g (cL k ⟨o.n,o.el,o.sz,none⟩ st.e)).isSome->(ae g st.e).isSome:=by
  intro g M;by_cases e:k=g
  ·subst e;simp[ad]
  ·rwa[jj,if_neg e]at M
 refine⟨h.over aq rfl ⟨fun bl i c=>?_,fun j Q p=>?_,h.good.inj,fun g o' l=>?_,fun g F n n' u R bl J U y aZ=>h.good.oinj g F n n' u R bl (s g J) (s F U) (by rwa[f]at y) (by rwa[f]at aZ),fun g j n u bl J U y=>h.good.obx g j n u bl (s g J) U (by rwa[f]at y),fun j=>?_,fun bl d=>h.good.otr bl (d.imp id (fun⟨g,n,v,V,a2,a3⟩=>⟨g,n,v,s g V,by rwa[f]at a2,a3⟩))⟩
  ⟨h.fr.os,h.fr.tape,h.fr.output,h.fr.size,h.fr.block,fun b i c=>⟨.inl (h.fr.keep b i c).1,(h.fr.keep b i c).2⟩,fun b i c=>?_,h.fr.obj,h.fr.obn,fun m n u hm=>FR (h.fr.row m n u hm) (fun n u=>aq.ow _ n u trivial),h.fr.obr,h.fr.trd,h.fr.trb,fun bs j b d=>⟨(h.fr.trn bs j b d).1,by rw[f];exact(h.fr.trn bs j b d).2⟩,h.fr.sh⟩ (fun m hm=>?_),?_⟩
 ·rcases c with c|⟨c,_⟩
  ·exact h.good.alt bl i c
  ·exact(r.lt bl c).2
 ·obtain⟨bl,W,P,g1,g2,g3,g4,g5⟩:=h.good.box j Q p;refine⟨bl,W,P,g1,g2,fun i c=>?_,g4,rU aq g5⟩;rcases c with c|⟨c,_⟩
  ·exact g3 i c
  ·exact h.good.obx k j o.n v bl (by simp[ad]) (by simp[p]) q c g1
 ·simp only at l;rw[jj]at l;by_cases e:k=g
  ·rw[if_pos e]at l;cases l;subst e;refine⟨v,us,by rw[f];exact q,r,fun bl d=>⟨(x bl d).1,fun j c=>?_⟩,fun ys aI=>by cases aI⟩;rcases c with c|⟨_,c⟩
   ·exact(x bl d).2 j c
   ·exact c
  ·rw[if_neg e]at l;obtain⟨v0,O,t,z,H,Z⟩:=h.good.own g o' l;have A:∀bl,v0.ownBlock=some bl->∀j,(ν.withRowOf k v o.n (o.n*o.sz)).A bl j->ν.A bl j:=fun bl d j c=>by
    rcases c with c|⟨c,_⟩
    ·exact c
    ·exact absurd (h.good.oinj k g o.n o'.n v v0 bl (by simp[ad]) (by simp[l]) q t c d) e
   exact⟨v0,O,by rw[f];exact t,z,fun bl d=>⟨(H bl d).1,fun j c=>(H bl d).2 j (A bl d j c)⟩,ue aq A Z⟩
 ·rcases h.good.one j with J|J
  ·exact .inl J
  ·exact .inr (by rw[f];exact J)
 ·rcases c with c|⟨c,_⟩
  ·exact h.fr.fresh b i c
  ·exact .inr (x b c).1
 ·obtain⟨a7,X,Y⟩:=h.new m hm;exact⟨a7,by rw[f];exact X,Y⟩
 ·simp only[aU];refine⟨?_,fun e=>(by cases e),fun g e=>?_,fun _ _ e=>(by cases e),fun _ e=>(by cases e)⟩
  ·rcases r.2 with⟨t,z⟩|⟨bb,cap,cur,f1,f2,f3,f4,f5,f6,f7⟩
   ·refine⟨none,0,by rw[t,G,z],Ω,⟨by simp[maxLen],E⟩,.inl (List.eq_nil_of_length_eq_zero Ω)⟩
   ·refine⟨some ⟨bb,0,none⟩,cap,by rw[f1,G],Ω,⟨f5,E⟩,.inr ⟨bb,0,us,rfl,IM us 0 fun j u p=>?_,CR aq L⟩⟩;have B:v.ownBlock=some bb:=by rw[f1];rfl
    have BJ:j<us.length:=(fI.1 p).1;refine⟨.inr ⟨B,by rw[r.1]at BJ;omega⟩,?_⟩;have:=r.cells B j u p;rwa[pV]at this
  ·cases e;exact⟨o.n,v,by rw[f];exact q,Ω,fun _=>rfl⟩
def acX{α:Type}(k:aB)(p q:α):∀l,cL k q (cL k p l)=cL k q l
 |[]=>by simp[cL]
 |(i,r)::l=>by
  by_cases e:i=k
  ·simp[cL,e]
  ·simp[cL,e,acX k p q l]
def c9.newRow{C:fj}{st:bo}{a:Act}{w w':World}{ν:bc}(h:c9 C st a w ν){k:aB}{xs:List af}(ad:(ν.bx k=none/\ν.ow k=none/\∀j b,¬ν.tr k j b)\/ ∃o,ae k st.e=some o/\o.n<xs.length){el sz:Nat}{v:Value}{us:List Value}
  (bd:w.grownBy w' none) (d:w'.ownsRow w.heap.size el sz v xs.length us) (ay:dv w ν sz xs us) (c:xs.length<=lim) {n':Nat} {o':List aB} (f:∀j,fresh n' o' j->fresh st.n st.o j/\j≠k):
  c9 C {st with e:=cL k ⟨xs.length,el,sz,none⟩ st.e,n:=n',o:=o'} a w' ((ν.withOwn k xs.length v).withRowOf k v xs.length (xs.length*sz))/\
  aU w' ((ν.withOwn k xs.length v).withRowOf k v xs.length (xs.length*sz)) (.slice sz (.own k) xs) v:=by
 have J:=(h.newRowM ad bd d ay c f).1;have U:=J.publish (k:=k) (o:=⟨xs.length,el,sz,some xs⟩) (xs:=xs) (v:=v) (by simp[jj]) rfl (by simp[bc.withOwn]) c;simpa only[acX]using U
def c9.setRowM{C:fj}{st:bo}{a:Act}{w w':World}{ν:bc}(h:c9 C st a w ν){k:aB}{o:dT}{xs xs':List af}(ad:ae k st.e=some o)(ab:o.xs=some xs){bl:Nat}{v v':Value}(f:ν.ow k=some (o.n,v))(l:v.ownBlock=some bl)(H:v'.ownBlock=some bl)
  (aw:(xs'.length=o.n/\v'=v)\/o.n<xs'.length) {us:List Value} (BO:w'.os=w.os) (NM:w'.tape=w.tape) (Nz:w'.output=w.output) (s:∀j,j≠bl->w'.heap[j]? =w.heap[j]?) (L:w'.heap.size=w.heap.size)
  (R:w'.ownsRow 0 o.el o.sz v' xs'.length us) (ay:dv w ν o.sz xs' us):
  c9 C {st with e:=cL k ⟨xs'.length,o.el,o.sz,some xs'⟩ st.e} a w' (ν.withOwn k xs'.length v')/\mB w ν w' (ν.withOwn k xs'.length v')/\(xs'.length<=lim->aU w' (ν.withOwn k xs'.length v') (.row o.sz k xs'.length) v'):=by
 obtain⟨v0,V,a8,bB,X,dn⟩:=h.good.own k o ad;rw[f]at a8;cases a8;obtain⟨dI,mV,A⟩:=dn xs ab;have aq:mB w ν w' (ν.withOwn k xs'.length v'):=by
  refine⟨fun b i d=>⟨d,World.cell?_of_block (s b fun e=>by subst e;exact A b l i d)⟩,fun j b _ r=>r,fun g n u _ p=>?_,fun b i d=>yB (s b fun e=>by subst e;exact A b l i d),fun _ _ _ _ h=>h⟩;by_cases e:g=k
  ·subst e;rw[f]at p;cases p;refine⟨xs'.length,v',by simp[bc.withOwn],?_⟩;rcases aw with⟨J,U⟩|J
   ·exact .inl ⟨J,U⟩
   ·exact .inr J
  ·exact⟨n,u,by simp[bc.withOwn,e,p],.inl ⟨rfl,rfl⟩⟩
 have B:∀g n u,(ae g (cL k ⟨xs'.length,o.el,o.sz,some xs'⟩ st.e)).isSome->(ν.withOwn k xs'.length v').ow g=some (n,u)->∀b,u.ownBlock=some b->(ae g st.e).isSome/\∃n u,ν.ow g=some (n,u)/\u.ownBlock=some b:=by
  intro g n u S p b c;by_cases e:g=k
  ·subst e;simp only[bc.withOwn,if_true,dV,jo]at p;rw[<-p.2,H]at c;cases c;exact⟨by simp[ad],o.n,v,f,l⟩
  ·rw[jj,if_neg (Ne.symm e)]at S;simp only[bc.withOwn,e,if_false]at p;exact⟨S,n,u,p,c⟩
 refine⟨h.over aq rfl ⟨fun b i d=>by rw[L];exact h.good.alt b i d,fun j ek r=>?_,h.good.inj,fun g o' q=>?_,fun g W n n' u eJ b J U P Q O dh=>?_,fun g j n u b J U P Q O=>?_,fun j=>?_,fun b c=>h.good.otr b (c.imp id (fun⟨g,n,v,z,a2,a3⟩=>by obtain⟨M,x,t,N,K⟩:=B g n v z a2 b a3;exact⟨g,x,t,M,N,K⟩))⟩
  ⟨BO.trans h.fr.os,NM.trans h.fr.tape,Nz.trans h.fr.output,by rw[L];exact h.fr.size,fun j r hm=>?_,fun b i d=>?_,h.fr.fresh,h.fr.obj,h.fr.obn,fun m n u hm=>FR (h.fr.row m n u hm) (fun n u=>aq.ow _ n u trivial),h.fr.obr,h.fr.trd,fun k j b c=>⟨(h.fr.trb k j b c).1,by rw[L];exact(h.fr.trb k j b c).2⟩,fun bs j b c=>?_,fun b o d=>(aq.sh b o (h.fr.keep b o d).1).trans (h.fr.sh b o d)⟩ (fun m hm=>?_),aq,?_⟩
 ·obtain⟨b,bY,gK,g1,g2,g3,g4,g5⟩:=h.good.box j ek r;have y:b≠bl:=fun e=>h.good.obx k j o.n _ bl (by simp[ad]) (by simp[r]) f l (by rw[<-e];exact g1);exact⟨b,bY,gK,g1,g2,g3,by rw[s b y];exact g4,rU aq g5⟩
 ·simp only at q;rw[jj]at q;by_cases e:k=g
  ·rw[if_pos e]at q;cases q;subst e;refine⟨v',us,by simp[bc.withOwn],R,fun b c=>?_,fun ys Z=>?_⟩
   ·rw[H]at c;cases c;exact⟨(X bl l).1,fun j d=>absurd d (A bl l j)⟩
   ·simp only[dV]at Z;subst Z;exact⟨rfl,CR aq ay,fun b c=>by rw[H]at c;cases c;exact A bl l⟩
  ·rw[if_neg e]at q;obtain⟨v0,V,Y,F,bg,b4⟩:=h.good.own g o' q;have y:∀b,v0.ownBlock=some b->b≠bl:=fun b c Ma=>e (h.good.oinj k g o.n o'.n _ v0 bl (by simp[ad]) (by simp[q]) f Y l (by rw[<-Ma];exact c));refine⟨v0,V,by simp[bc.withOwn,Ne.symm e,Y],⟨F.1,?_⟩,bg,ue aq (fun _ _ _ h=>h) b4⟩;rcases F.2 with F|⟨bb,DJ,nR,f1,f2,f3,f4⟩
   ·exact .inl F
   ·exact .inr ⟨bb,DJ,nR,f1,f2,by rw[s bb (y bb (by rw[f1];rfl))];exact f3,f4⟩
 ·obtain⟨z,x,t,a2,a3⟩:=B g n u J P b O;obtain⟨M,fo,jn,N,K⟩:=B W n' eJ U Q b dh;exact h.good.oinj g W x fo t jn b z M a2 N a3 K
 ·obtain⟨z,x,t,a2,a3⟩:=B g n u J P b Q;exact h.good.obx g j x t b z U a2 a3 O
 ·by_cases e:j=k
  ·subst e;rcases h.good.one j with J|J
   ·exact .inl J
   ·rw[J]at f;cases f
  ·rcases h.good.one j with J|J
   ·exact .inl J
   ·exact .inr (by simp[bc.withOwn,e,J])
 ·rw[s j fun e=>by subst e;exact(X j l).1.elim hm (fun g2=>Ω)];exact h.fr.block j r hm
 ·obtain⟨G,E⟩:=h.fr.keep b i d;exact⟨G,(aq.A b i G).2.trans E⟩
 ·obtain⟨t1,t2⟩:=h.fr.trn bs j b c;have y:bs≠k:=fun e=>by subst e;rw[t2]at f;cases f
  exact⟨t1,by simp[bc.withOwn,y,t2]⟩
 ·obtain⟨G,E,b7⟩:=h.new m hm;refine⟨G,?_,b7⟩;have:m≠k:=fun e=>by subst e;rw[E]at f;cases f
  simp[bc.withOwn,this,E]
 ·intro fv;simp only[aU];obtain⟨cap,Ng⟩:=aag R H;exact⟨⟨bl,cap,Ng⟩,fv,xs'.length,v',by simp[bc.withOwn],dO _,fun _=>rfl⟩
def c9.inPlace{C:fj}{st:bo}{a:Act}{w:World}{ν:bc}(h:c9 C st a w ν){k:aB}{o:dT}(ad:ae k st.e=some o){bl cap:Nat}{cur:Array Value}(l:ν.ow k=some (o.n,.slice (some ⟨bl,0,none⟩) o.n cap))
  (B:w.heap[bl]? =some (.cells cur o.el (0,0))) (Bz:cap<=maxLen) (eo:cur.size=cap*o.sz) {xs ys:List af} {us ns:List Value} (P:xs.length=o.n) (sC:cur.toList.take (o.n*o.sz)=us) (ay:dv w ν o.sz xs us) (BB:dv w ν o.sz ys ns)
  (gj:0<ys.length) (Y:o.n+ys.length<=cap) (fv:xs.length+ys.length<=lim):
  c9 C {st with e:=cL k ⟨o.n+ys.length,o.el,o.sz,none⟩ st.e} a (w.setRow bl (us++ns++cur.toList.drop (o.n*o.sz+ns.length)).toArray)
   (ν.withRowOf k (.slice (some ⟨bl,0,none⟩) (o.n+ys.length) cap) (o.n+ys.length) ((o.n+ys.length)*o.sz))/\
  aU (w.setRow bl (us++ns++cur.toList.drop (o.n*o.sz+ns.length)).toArray) (ν.withRowOf k (.slice (some ⟨bl,0,none⟩) (o.n+ys.length) cap) (o.n+ys.length) ((o.n+ys.length)*o.sz))
   (.slice o.sz (.own k) (xs++ys)) (.slice (some ⟨bl,0,none⟩) (o.n+ys.length) cap):=by
 have O:=rV BB;have E:=rV ay;rw[P]at E;have hmul:(o.n+ys.length)*o.sz<=cap*o.sz:=r8 _ Y;rw[rk]at hmul;obtain⟨v0,gl,a8,bB,bW,_⟩:=h.good.own k o ad;rw[l]at a8;cases a8;obtain⟨S,dI⟩:=bW bl rfl;generalize y:w.setRow bl (us++ns++cur.toList.drop (o.n*o.sz+ns.length)).toArray=w';have z:∀j,j≠bl->w'.heap[j]? =w.heap[j]?:=fun j f=>by rw[<-y];exact setRow_other w bl j _ f
 have G:w'.heap[bl]? =some (.cells (us++ns++cur.toList.drop (o.n*o.sz+ns.length)).toArray o.el (0,0)):=by rw[<-y];exact setRow_heap w bl cur _ o.el _ B
 have W:w'.heap.size=w.heap.size:=by rw[<-y];exact setRow_size w bl _
 have p6:∀j,j<o.n*o.sz->w'.cell? ⟨bl,j,none⟩=w.cell? ⟨bl,j,none⟩:=by intro j f;simp only[World.cell?,G,B,k6,hU,if_false];rw[List.getElem?_toArray,List.append_assoc,r6 Ω,<-sC,List.getElem?_take,if_pos f];simp
 have aq:mB w ν w' (ν.withRowOf k (.slice (some ⟨bl,0,none⟩) (o.n+ys.length) cap) (o.n+ys.length) ((o.n+ys.length)*o.sz)):=by
  refine⟨fun b j c=>⟨.inl c,?_⟩,fun j b _ f=>f,fun g n u _ Q=>?_,fun b j c=>?_,fun _ _ _ _ h=>h⟩;rotate_left 2
  ·by_cases e:b=bl
   ·subst e;simp only[shape,G,B,List.size_toArray,qv,ur,Array.length_toList];congr 2;omega
   ·exact yB (z b e)
  ·by_cases e:b=bl
   ·subst e;exact p6 j (dI j c)
   ·exact World.cell?_of_block (z b e)
  ·by_cases e:g=k
   ·subst e;rw[l]at Q;cases Q;exact⟨o.n+ys.length,.slice (some ⟨bl,0,none⟩) (o.n+ys.length) cap,by simp[bc.withRowOf],.inr Ω⟩
   ·exact⟨n,u,by simp[bc.withRowOf,e,Q],.inl ⟨rfl,rfl⟩⟩
 have F:∀g,(ae g (cL k ⟨o.n+ys.length,o.el,o.sz,none⟩ st.e)).isSome->g=k\/(g≠k/\(ae g st.e).isSome/\(ν.withRowOf k (.slice (some ⟨bl,0,none⟩) (o.n+ys.length) cap) (o.n+ys.length) ((o.n+ys.length)*o.sz)).ow g=ν.ow g):=by
  intro g Z;by_cases e:g=k
  ·exact .inl e
  ·rw[jj,if_neg (Ne.symm e)]at Z;exact .inr ⟨e,Z,by simp[bc.withRowOf,e]⟩
 have avw:bl<w.heap.size:=(Array.getElem?_eq_some_iff.1 B).1;have V:∀j u,(us++ns)[j]? =some u->w'.cell? ⟨bl,j,none⟩=some u:=by intro j u f;have N:=(fI.1 f).1;simp only[World.cell?,G,k6,hU,if_false];rw[List.getElem?_toArray,r6 N];exact f
 refine⟨h.over aq rfl ⟨fun b j c=>?_,fun j ek f=>?_,h.good.inj,fun g o' s=>?_,fun g H n n' u eJ b J U p q r A=>?_,fun g j n u b J U p q r=>?_,fun j=>?_,fun b d=>h.good.otr b ?_⟩
  ⟨by rw[<-y];exact h.fr.os,by rw[<-y];exact h.fr.tape,by rw[<-y];exact h.fr.output,by rw[W];exact h.fr.size,fun j f hm=>?_,fun b j c=>?_,fun b j c=>?_,h.fr.obj,h.fr.obn,fun m n u hm=>FR (h.fr.row m n u hm) (fun n u=>aq.ow _ n u trivial),h.fr.obr,h.fr.trd,fun k j b d=>⟨(h.fr.trb k j b d).1,by rw[W];exact(h.fr.trb k j b d).2⟩,fun bs j b d=>?_,fun b o c=>(aq.sh b o (h.fr.keep b o c).1).trans (h.fr.sh b o c)⟩ (fun m hm=>?_),?_⟩
 ·rw[W];rcases c with c|⟨c,_⟩
  ·exact h.good.alt b j c
  ·simp only[pL,dV]at c;omega
 ·obtain⟨b,bY,gK,g1,g2,g3,g4,g5⟩:=h.good.box j ek f;have t:b≠bl:=fun e=>h.good.obx k j o.n _ bl (by simp[ad]) (by simp[f]) l rfl (by rw[<-e];exact g1);refine⟨b,bY,gK,g1,g2,fun i c=>?_,by rw[z b t];exact g4,rU aq g5⟩;rcases c with c|⟨c,_⟩
  ·exact g3 i c
  ·simp only[pL,dV]at c;exact t c.symm
 ·simp only at s;rw[jj]at s;by_cases e:k=g
  ·rw[if_pos e]at s;cases s;subst e;refine⟨.slice (some ⟨bl,0,none⟩) (o.n+ys.length) cap,us++ns,by simp[bc.withRowOf],⟨by rw[qv,E,O,rk],.inr ⟨bl,cap,_,rfl,Nat.zero_le _,G,Y,Bz,?_,?_⟩⟩,fun b d=>⟨?_,fun j c=>?_⟩,fun ys aI=>by cases aI⟩
   ·simp only[List.size_toArray,qv,ur,Array.length_toList];omega
   ·have av:(us++ns).length=(o.n+ys.length)*o.sz:=by rw[qv,E,O,rk]
    simp only[<-av];rw[List.take_append_of_le_length (dO _),jA]
   ·simp only[pL,dV]at d;subst d;exact S
   ·simp only[pL,dV]at d;subst d;rcases c with c|⟨_,c⟩
    ·have:=dI j c;simp only;rw[rk];omega
    ·exact c
  ·rw[if_neg e]at s;obtain⟨v0,gl,ao,L,bg,b4⟩:=h.good.own g o' s;have t:∀b,v0.ownBlock=some b->b≠bl:=fun b d Ma=>e (h.good.oinj k g o.n o'.n _ v0 bl (by simp[ad]) (by simp[s]) l ao rfl (by rw[<-Ma];exact d));have X:∀b,v0.ownBlock=some b->∀j,(ν.withRowOf k (.slice (some ⟨bl,0,none⟩) (o.n+ys.length) cap) (o.n+ys.length) ((o.n+ys.length)*o.sz)).A b j->ν.A b j:=fun b d j c=>by
    rcases c with c|⟨c,_⟩
    ·exact c
    ·simp only[pL,dV]at c;exact absurd c.symm (t b d)
   refine⟨v0,gl,by simp[bc.withRowOf,Ne.symm e,ao],⟨L.1,?_⟩,fun b d=>⟨(bg b d).1,fun j c=>(bg b d).2 j (X b d j c)⟩,ue aq X b4⟩;rcases L.2 with L|⟨bb,DJ,nR,f1,f2,f3,f4⟩
   ·exact .inl L
   ·exact .inr ⟨bb,DJ,nR,f1,f2,by rw[z bb (t bb (by rw[f1];rfl))];exact f3,f4⟩
 ·rcases F g J with rfl|⟨R,x,v⟩<;>rcases F H U with rfl|⟨m1,m2,m3⟩
  ·rfl
  ·exfalso;simp only[bc.withRowOf,if_true,dV,jo]at p;rw[m3]at q;rw[<-p.2]at r;simp only[pL,dV]at r;subst r;exact m1 (h.good.oinj H g n' o.n eJ _ bl m2 (by simp[ad]) q l A rfl)
  ·exfalso;simp only[bc.withRowOf,if_true,dV,jo]at q;rw[v]at p;rw[<-q.2]at A;simp only[pL,dV]at A;subst A;exact R (h.good.oinj g H n o.n u _ bl x (by simp[ad]) p l r rfl)
  ·rw[v]at p;rw[m3]at q;exact h.good.oinj g H n n' u eJ b x m2 p q r A
 ·rcases F g J with rfl|⟨R,x,v⟩
  ·simp only[bc.withRowOf,if_true,dV,jo]at p;rw[<-p.2]at q;simp only[pL,dV]at q;subst q;exact h.good.obx g j o.n _ bl (by simp[ad]) U l rfl r
  ·rw[v]at p;exact h.good.obx g j n u b x U p q r
 ·by_cases e:j=k
  ·subst e;rcases h.good.one j with J|J
   ·exact .inl J
   ·rw[J]at l;cases l
  ·rcases h.good.one j with J|J
   ·exact .inl J
   ·exact .inr (by simp[bc.withRowOf,e,J])
 ·rcases d with d|⟨g,n,u,bq,a2,a3⟩
  ·exact .inl d
  ·rcases F g bq with rfl|⟨R,x,v⟩
   ·simp only[bc.withRowOf,if_true,dV,jo]at a2;rw[<-a2.2]at a3;exact .inr ⟨g,_,_,by simp[ad],l,a3⟩
   ·exact .inr ⟨g,n,u,x,by rw[<-v];exact a2,a3⟩
 ·rw[z j fun e=>by subst e;exact S.elim hm (fun g2=>Ω)];exact h.fr.block j f hm
 ·obtain⟨M,K⟩:=h.fr.keep b j c;exact⟨.inl M,(aq.A b j M).2.trans K⟩
 ·rcases c with c|⟨c,_⟩
  ·exact h.fr.fresh b j c
  ·simp only[pL,dV]at c;subst c;exact .inr S
 ·obtain⟨t1,t2⟩:=h.fr.trn bs j b d;have t:bs≠k:=fun e=>by subst e;rw[t2]at l;cases l
  exact⟨t1,by simp[bc.withRowOf,t,t2]⟩
 ·obtain⟨M,K,b7⟩:=h.new m hm;refine⟨M,?_,b7⟩;have:m≠k:=fun e=>by subst e;rw[K]at l;cases l
  simp[bc.withRowOf,this,K]
 ·simp only[aU];refine⟨⟨some ⟨bl,0,none⟩,cap,by simp[P],by simp;omega,⟨Bz,by simpa using fv⟩,.inr ⟨bl,0,us++ns,rfl,IM _ 0 fun j u f=>?_,FL (CR aq ay) (CR aq BB)⟩⟩,fun e=>(by cases e),fun g e=>?_,fun _ _ e=>(by cases e),fun _ e=>(by cases e)⟩
  ·have N:=(fI.1 f).1;rw[Nat.zero_add];refine⟨.inr ⟨rfl,?_⟩,V j u f⟩;rw[qv,E,O]at N;rw[rk];exact N
  ·cases e;exact⟨o.n+ys.length,.slice (some ⟨bl,0,none⟩) (o.n+ys.length) cap,by simp[bc.withRowOf],by simp[P],fun _=>rfl⟩
def J5{P:cG}{w:World}{t ty e:gW}{i:TypeInfo}(d:P.underlying t=some (.slice e))(hi:P.info? e=some i)(b:Option Addr)(n cap:Nat)(a:n<=cap)(x:Option Addr)(c:Nat):
  (Builtin.append_ #[t,t] ty #[.slice b n cap,.slice x 0 c]).run P w= .ok (.slice b n cap) w:=by
 cases b<;>cases x<;>simp[Builtin.append_,run_underlying d,sizeOf,typeInfo,hi,Builtin.lenOf,a,Builtin.firstCells,loadCells,loadCellsFrom,storeCells]
inductive e0 where
 |v (d:Nat) (i:gP)
 |box (d:Nat) (key:Option Nat) (x:dR)
 |alloc (d:Nat) (key:Option Nat) (zero:af)
 |store (sz:Nat) (x y:dR)
 |bsl (d:Nat) (sz el:Nat) (xs:List dR)
 |app (d:Nat) (sz el:Nat) (x y:dR)
 |bslm (d:Nat) (key:Option Nat) (sz el:Nat) (xs:List dR)
 |appm (d:Nat) (key:Option Nat) (sz el:Nat) (x y:dR)
 |mkmap (d:Nat) (key:Option Nat)
 |mput (cz:kj) (x k v:dR)
 |range (d:Nat) (key:Option Nat) (x:dR)
 |storeE (sz:Nat) (x y:dR)
 |mks (d:Nat) (key:Option Nat) (sz el:Nat) (z:af) (x:dR)
def kx(st:bo):Option Nat->aB
 |none=>.loc st.n
 |some m=>.obj m
def rL(st:bo):Option Nat->Prop
 |none=>.loc st.n∉st.o
 |some m=>.obj m∉st.o
def oT(st:bo):Option Nat->Nat
 |none=>st.n+1
 |some _=>st.n
def oU(st:bo):Option Nat->List aB
 |none=>st.o
 |some m=>.obj m::st.o
def yf{st:bo}{key:Option Nat}(h:rL st key):fresh st.n st.o (kx st key):=by cases key<;>simp[kx,fresh,rL]at h⊢ <;>exact h
def yg{st:bo}{key:Option Nat}:∀j,fresh (oT st key) (oU st key) j->fresh st.n st.o j/\j≠kx st key:=by
 intro j a;cases key<;>cases j<;>simp[fresh,oT,oU,kx]at a⊢
 ·exact⟨⟨Ω,a.2⟩,Ω⟩
 ·exact a
 ·exact a
 ·exact⟨a.2,a.1⟩
def uB(sz:Nat):List af->Prop
 |[]=>True
 |p::a=>(eS p=true/\(cells p).length=sz)/\uB sz a
def q1(a:kj)(k v:af):List af->Option (List af)
 | .hdm clock borns::kvs=>if x7 a k=false then none else match wN a k v kvs with
  |some (some b)=>some (.hdm clock borns::b)
  |some none=>some (.hdm (clock+1) (borns++[clock])::(kvs++[k,v]))
  |none=>none
 |_=>none
def Am(m:aB):List af->Option (List af)
 | .hdm clock _::_=>some [.hdi clock [] clock,.gmap m]
 |_=>none
def uC(st:bo)(sz el:Nat)(x y:af):Option ((Option (aB×List af))×List af):=
 match x,y with
 | .slice b .nil _,.slice a _ ys=>if b=sz/\a=sz then some (none,ys)else none
 | .row b k n,.slice a _ ys=>if b=sz/\a=sz then
   match ae k st.e with
   |some ⟨n',d,c,some xs⟩=>if n'=n/\d=el/\c=sz then some (some (k,xs),ys)else none
   |_=>none
  else none
 |_,_=>none
def oi:af->Nat->List af->af
 | .agg a,f,cs=>.agg (nI a f cs)
 |_,_,[q]=>q
 |_,_,_=>.junk
def sP(st:bo)(sz:Nat)(p v:af):Option (Prop×bo):=
 match p with
 | .rptr b k n i f=>match ae k st.e with
  |some ⟨n',el,a,some xs⟩=>if n'=n/\a=b then
    match xs[i]? with
    |some q=>some (eS q=true/\eS v=true/\(cells v).length=sz/\f+sz<=(cells q).length/\0<sz,{st with e:=cL k ⟨n',el,a,some (xs.set i (oi q f (cells v)))⟩ st.e})
    |none=>none
   else none
  |_=>none
 |_=>none
def nH(st:bo):e0->Option (Prop×bo)
 | .mks d key sz el z x=>match cD st.t x with
  | .int _ n=>some (rL st key/\0<=n/\n<=lim,
    {t:=put d (.row sz (kx st key) n.toNat) st.t,b:=st.b,e:=cL (kx st key) ⟨n.toNat,el,sz,some (List.replicate n.toNat z)⟩ st.e,n:=oT st key,o:=oU st key})
  |_=>none
 | .bslm d key sz el xs=>some (rL st key/\uB sz (xs.map (cD st.t)),
   {t:=put d (.row sz (kx st key) xs.length) st.t,b:=st.b,e:=cL (kx st key) ⟨xs.length,el,sz,some (xs.map (cD st.t))⟩ st.e,n:=oT st key,o:=oU st key})
 | .appm d key sz el x y=>match uC st sz el (cD st.t x) (cD st.t y)with
  |some (none,ys)=>some (rL st key/\ys.length<=lim/\ys≠[],
    {t:=put d (.row sz (kx st key) ys.length) st.t,b:=st.b,e:=cL (kx st key) ⟨ys.length,el,sz,some ys⟩ st.e,n:=oT st key,o:=oU st key})
  |some (some (k,xs),ys)=>some (xs.length+ys.length<=lim,{st with t:=put d (.row sz k (xs.length+ys.length)) st.t,e:=cL k ⟨xs.length+ys.length,el,sz,some (xs++ys)⟩ st.e})
  |none=>none
 | .mkmap d key=>some (rL st key,{t:=put d (.gmap (kx st key)) st.t,b:=cL (kx st key) [.hdm 0 []] st.b,e:=st.e,n:=oT st key,o:=oU st key})
 | .mput g x k v=>match cD st.t x with
  | .gmap m=>match ae m st.b with
   |some cs=>match q1 g (cD st.t k) (cD st.t v) cs with
    |some cs'=>some (True,{st with b:=cL m cs' st.b})
    |none=>none
   |none=>none
  |_=>none
 | .range d key x=>match cD st.t x with
  | .gmap m=>match ae m st.b with
   |some cs=>match Am m cs with
    |some cs'=>some (rL st key,{t:=put d (.ptr (kx st key) 0) st.t,b:=cL (kx st key) cs' st.b,e:=st.e,n:=oT st key,o:=oU st key})
    |none=>none
   |none=>none
  |_=>none
 | .v d i=>match hZ st i with
  |some (c,p)=>some (c,{st with t:=put d p st.t})
  |none=>none
 | .storeE sz x y=>sP st sz (cD st.t x) (cD st.t y)
 | .box d key x=>some (rL st key/\eS (cD st.t x)=true,
   {t:=put d (.ptr (kx st key) 0) st.t,b:=cL (kx st key) (cells (cD st.t x)) st.b,e:=st.e,n:=oT st key,o:=oU st key})
 | .alloc d key z=>some (rL st key,{t:=put d (.ptr (kx st key) 0) st.t,b:=cL (kx st key) (cells z) st.b,e:=st.e,n:=oT st key,o:=oU st key})
 | .store sz x y=>match cD st.t x with
  | .ptr k off=>match ae k st.b with
   |some cs=>some (gZ cs=true/\eS (cD st.t y)=true/\(cells (cD st.t y)).length=sz/\off+sz<=cs.length,{st with b:=cL k (nI cs off (cells (cD st.t y))) st.b})
   |none=>none
  |p=>sP st sz p (cD st.t y)
 | .bsl d sz el xs=>some (rL st none/\uB sz (xs.map (cD st.t)),
   {st with t:=put d (.slice sz (.own (.loc st.n)) (xs.map (cD st.t))) st.t,e:=cL (.loc st.n) ⟨xs.length,el,sz,none⟩ st.e,n:=st.n+1})
 | .app d sz el x y=>match cD st.t x,cD st.t y with
  | .slice f tag xs,.slice a _ ys=>if f=sz/\a=sz then
    match tag with
    | .own k=>match ae k st.e with
     |some o=>some (o.n=xs.length/\o.el=el/\o.sz=sz/\xs.length+ys.length<=lim,
       {st with t:=put d (.slice sz (.own k) (xs++ys)) st.t,e:=cL k ⟨xs.length+ys.length,el,sz,none⟩ st.e})
     |none=>none
    | .nil=>some (rL st none/\ys.length<=lim,{st with t:=put d (.slice sz (.own (.loc st.n)) ys) st.t,e:=cL (.loc st.n) ⟨ys.length,el,sz,none⟩ st.e,n:=st.n+1})
    |_=>none
   else none
  |_,_=>none
def fs(κ:aB)(n':Nat)(o':List aB)(st:bo):e0->Option (Prop×bo)
 | .mks d _ sz el z x=>match cD st.t x with
  | .int _ n=>some (0<=n/\n<=lim,
    {t:=put d (.row sz κ n.toNat) st.t,b:=st.b,e:=cL κ ⟨n.toNat,el,sz,some (List.replicate n.toNat z)⟩ st.e,n:=n',o:=o'})
  |_=>none
 | .bslm d _ sz el xs=>some (uB sz (xs.map (cD st.t)),
   {t:=put d (.row sz κ xs.length) st.t,b:=st.b,e:=cL κ ⟨xs.length,el,sz,some (xs.map (cD st.t))⟩ st.e,n:=n',o:=o'})
 | .appm d _ sz el x y=>match uC st sz el (cD st.t x) (cD st.t y)with
  |some (none,ys)=>some (ys.length<=lim/\ys≠[],
    {t:=put d (.row sz κ ys.length) st.t,b:=st.b,e:=cL κ ⟨ys.length,el,sz,some ys⟩ st.e,n:=n',o:=o'})
  |some (some (k,xs),ys)=>some (xs.length+ys.length<=lim,{st with t:=put d (.row sz k (xs.length+ys.length)) st.t,e:=cL k ⟨xs.length+ys.length,el,sz,some (xs++ys)⟩ st.e})
  |none=>none
 | .mkmap d _=>some (True,{t:=put d (.gmap κ) st.t,b:=cL κ [.hdm 0 []] st.b,e:=st.e,n:=n',o:=o'})
 | .mput g x k v=>match cD st.t x with
  | .gmap m=>match ae m st.b with
   |some cs=>match q1 g (cD st.t k) (cD st.t v) cs with
    |some cs'=>some (True,{st with b:=cL m cs' st.b})
    |none=>none
   |none=>none
  |_=>none
 | .range d _ x=>match cD st.t x with
  | .gmap m=>match ae m st.b with
   |some cs=>match Am m cs with
    |some cs'=>some (True,{t:=put d (.ptr κ 0) st.t,b:=cL κ cs' st.b,e:=st.e,n:=n',o:=o'})
    |none=>none
   |none=>none
  |_=>none
 | .v d i=>match hZ st i with
  |some (c,p)=>some (c,{st with t:=put d p st.t})
  |none=>none
 | .storeE sz x y=>sP st sz (cD st.t x) (cD st.t y)
 | .box d _ x=>some (eS (cD st.t x)=true,{t:=put d (.ptr κ 0) st.t,b:=cL κ (cells (cD st.t x)) st.b,e:=st.e,n:=n',o:=o'})
 | .alloc d _ z=>some (True,{t:=put d (.ptr κ 0) st.t,b:=cL κ (cells z) st.b,e:=st.e,n:=n',o:=o'})
 | .store sz x y=>match cD st.t x with
  | .ptr k off=>match ae k st.b with
   |some cs=>some (gZ cs=true/\eS (cD st.t y)=true/\(cells (cD st.t y)).length=sz/\off+sz<=cs.length,{st with b:=cL k (nI cs off (cells (cD st.t y))) st.b})
   |none=>none
  |p=>sP st sz p (cD st.t y)
 | .bsl d sz el xs=>some (uB sz (xs.map (cD st.t)),
   {st with t:=put d (.slice sz (.own κ) (xs.map (cD st.t))) st.t,e:=cL κ ⟨xs.length,el,sz,none⟩ st.e,n:=n',o:=o'})
 | .app d sz el x y=>match cD st.t x,cD st.t y with
  | .slice f tag xs,.slice a _ ys=>if f=sz/\a=sz then
    match tag with
    | .own k=>match ae k st.e with
     |some o=>some (o.n=xs.length/\o.el=el/\o.sz=sz/\xs.length+ys.length<=lim,
       {st with t:=put d (.slice sz (.own k) (xs++ys)) st.t,e:=cL k ⟨xs.length+ys.length,el,sz,none⟩ st.e})
     |none=>none
    | .nil=>some (ys.length<=lim,{st with t:=put d (.slice sz (.own κ) ys) st.t,e:=cL κ ⟨ys.length,el,sz,none⟩ st.e,n:=n',o:=o'})
    |_=>none
   else none
  |_,_=>none
def yk:Nat->List dR->List (Nat×Operand)->Bool
 |_,[],[]=>true
 |i,x::xs,(j,o)::os=>i==j&&eR x o&&yk (i+1) xs os
 |_,_,_=>false
def FW(N:Nat)(aS:List (Nat×et))(i:e0)(o:Oper):Bool:=
 match i,o.op with
 | .mkmap d _,.makeMap _ none=>o.dst==some d&&decide (d<N)
 | .mput j x k v,.mapUpdate t c h e=>o.dst==none&&(match eG aS t with|some ⟨_,_,.map g _,_⟩=>zT aS j g|_=>false)&&eR x c&&eR k h&&eR v e
 | .mput j x k v,.insert t c h e=>o.dst==none&&(match eG aS t with|some ⟨_,_,.map g _,_⟩=>zT aS j g|_=>false)&&eR x c&&eR k h&&eR v e
 | .range d _ x,.range t c=>o.dst==some d&&decide (d<N)&&(match eG aS t with|some ⟨_,_,.map _ _,_⟩=>true|_=>false)&&eR x c
 | .v d i,op=>o.dst==some d&&decide (d<N)&&Gf aS i op
 | .box d _ x,.box _ o'=>o.dst==some d&&decide (d<N)&&eR x o'
 | .alloc d _ z,.alloc el=>o.dst==some d&&decide (d<N)&&(match eG aS el with|some f=>Dj z f.zero|none=>false)
 | .store sz x y,.store t o' a=>o.dst==none&&(match eG aS t with|some f=>f.size==sz|none=>false)&&eR x o'&&eR y a
 | .bsl d sz el xs,.buildSlice t len parts=>o.dst==some d&&decide (d<N)&&(match eG aS t with|some ⟨_,_,.slice b,_⟩=>el==b|_=>false)&&(match eG aS el with|some f=>f.size==sz&&decide (0<sz)|none=>false)
   &&len==xs.length&&decide (len*sz<=16777216)&&yk 0 xs parts.toList
 | .app d sz el x y,.call ⟨.builtin .append,⟨[o',a]⟩,⟨[t,t']⟩⟩=>o.dst==some d&&decide (d<N)&&t==t'&&(match eG aS t with|some ⟨_,_,.slice b,_⟩=>el==b|_=>false)
   &&(match eG aS el with|some f=>f.size==sz&&decide (0<sz)&&decide (f.bytes<=2048)|none=>false)&&eR x o'&&eR y a
 | .bslm d _ sz el xs,.buildSlice t len parts=>o.dst==some d&&decide (d<N)&&(match eG aS t with|some ⟨_,_,.slice b,_⟩=>el==b|_=>false)&&(match eG aS el with|some f=>f.size==sz&&decide (0<sz)|none=>false)
   &&len==xs.length&&decide (len*sz<=16777216)&&yk 0 xs parts.toList
 | .appm d _ sz el x y,.call ⟨.builtin .append,⟨[o',a]⟩,⟨[t,t']⟩⟩=>o.dst==some d&&decide (d<N)&&t==t'&&(match eG aS t with|some ⟨_,_,.slice b,_⟩=>el==b|_=>false)
   &&(match eG aS el with|some f=>f.size==sz&&decide (0<sz)&&decide (f.bytes<=2048)|none=>false)&&eR x o'&&eR y a
 | .storeE sz x y,.store t o' a=>o.dst==none&&(match eG aS t with|some f=>f.size==sz|none=>false)&&eR x o'&&eR y a
 | .mks d _ sz el z x,.makeSlice t o' a=>o.dst==some d&&decide (d<N)&&(match eG aS t with|some ⟨_,_,.slice b,_⟩=>el==b|_=>false)
   &&(match eG aS el with|some f=>f.size==sz&&decide (0<sz)&&decide (f.bytes<=2048)&&Dj z f.zero|none=>false)&&eR x o'&&eR x a
 |_,_=>false
def ab2{w:World}{ν:bc}{C:fj}{st:bo}{a:Act}(p:c9 C st a w ν){sz:Nat}:
  ∀(xs:List dR) (i:Nat) (os:List (Nat×Operand)) (pre:List af) (us:Array Value) (bk:List Value),yk i xs os=true->uB sz (xs.map (cD st.t))->us.toList.take (i*sz)=bk->dv w ν sz pre bk->i=pre.length->us.size=(i+xs.length)*sz->
  ∃d:Array Value,Instr.fill (fun i=>some (i*sz,sz)) us (os.map fun(x:Nat×Operand)=>(x.1,a.eval x.2))=some d/\dv w ν sz (pre++xs.map (cD st.t)) d.toList/\d.size=us.size
 |[],i,[],pre,us,bk,_,_,g,h,hi,f=>by refine⟨us,by simp[Instr.fill],?_,rfl⟩;have u:=rV h;have:us.toList.take (i*sz)=us.toList:=iv (by simp at f⊢;omega);rw[this]at g;simpa[g]using h
 |[],_,_::_,_,_,_,b,_,_,_,_,_=>by simp[yk]at b
 |_::_,_,[],_,_,_,b,_,_,_,_,_=>by simp[yk]at b
 |x::xs,i,(j,o)::os,pre,us,bk,b,k,g,h,hi,f=>by
  simp only[yk,cO,eA]at b;obtain⟨⟨rfl,J⟩,U⟩:=b;simp only[gX,uB]at k;obtain⟨⟨s,hlen⟩,k⟩:=k;have n:=e7 p J;have m:=wY n s;have q:=q5 m;have c:(a.eval o).cells.size=sz:=by rw[hlen]at q;simpa using q
  have hmul:i*sz+sz<=us.size:=by rw[f,mZ,show i+(xs.length+1)=(i+1)+xs.length from by omega,rk,Nat.succ_mul];omega
  have l:=MB (w:=w) (ν:=ν) (a.eval o).cells.toList 0 (i*sz) us (by simp[c];omega);have t:dv w ν sz (pre++[cD st.t x]) (bk++(a.eval o).cells.toList):=by refine FL h ?_;simp only[dv];exact⟨a.eval o,[],Ψ,⟨n,c,CT m⟩,rfl⟩
  have r:bk.length=i*sz:=by rw[<-g];simp;omega
  obtain⟨d,g1,g2,g3⟩:=ab2 p xs (i+1) os (pre++[cD st.t x]) (((a.eval o).cells.toList.zipIdx 0).foldl (fun cs (x:Value×Nat)=>cs.setIfInBounds (i*sz+x.2) x.1) us) (bk++(a.eval o).cells.toList) U k
   (by
    rw[l];simp only[Nat.add_zero];rw[g];have:(bk++(a.eval o).cells.toList).length=(i+1)*sz:=by rw[qv,r,Nat.succ_mul];simp[c]
    rw[<-this,List.take_append_of_le_length (dO _),jA]) t (by simp[hi])
   (by have e:=fC List.length l;simp only[Array.length_toList,qv,List.length_take,ur,c]at e;rw[e,f,mZ,show i+(xs.length+1)=i+1+xs.length from by omega];rw[f,mZ,show i+(xs.length+1)=i+1+xs.length from by omega]at hmul;omega)
  refine⟨d,?_,by simpa using g2,?_⟩
  ·simp only[gX,Instr.fill];rw[if_neg (by simp[c];omega),<-g1];congr 1;rw[<-Array.foldl_toList];simp
  ·rw[g3];have e:=fC List.length l;simp only[Array.length_toList,qv,List.length_take,ur,c]at e;rw[e];omega
def nL{P:cG}{o:Oper}{a:Act}{w w':World}{v:Value}{K:Act->World->Prop}{Q:Exit->Act->World->Prop}(h:(execOp a.eval o).run P w= .ok (.value v) w')(ad:K (a.put o.dst v) w'):o.wp P a w K Q:=by unfold Oper.wp;rw[h];exact ad
def KH{P:cG}{o:Oper}{a:Act}{w w':World}{K:Act->World->Prop}{Q:Exit->Act->World->Prop}(h:(execOp a.eval o).run P w= .ok .skip w')(ad:K (a.put o.dst undef) w'):o.wp P a w K Q:=by unfold Oper.wp;rw[h];exact ad
def Gg{P:cG}{w w':World}{x:Sem Value}{v:Value}(h:x.run P w= .ok v w'):(do pure (Next.value (<-x)):Sem Next).run P w= .ok (.value v) w':=by simp[h]
def abZ{P:cG}{aS:List (Nat×et)}(e:hR P aS=true){C:fj}{st:bo}{a:Act}{w:World}{ν:bc}(s:c9 C st a w ν){t el:Nat}{f g:et}(u:eG aS t=some f)(ad:f.kind= .slice el)(bd:eG aS el=some g)
  {xs:List dR} {os:List (Nat×Operand)} (m:yk 0 xs os=true) (n:uB g.size (xs.map (cD st.t))) (hlen:xs.length*g.size<=16777216):
  ∃us:Array Value,(Instr.buildSlice t xs.length (os.map fun(x:Nat×Operand)=>(x.1,a.eval x.2)).toArray).run P w= .ok (.slice (some ⟨w.heap.size,0,none⟩) xs.length xs.length) (w.alloc (.cells us el))/\
   dv w ν g.size (xs.map (cD st.t)) us.toList/\us.size=xs.length*g.size:=by
 obtain⟨d,j,h⟩:=jm e u;rw[ad]at h;obtain rfl:=s7 h;obtain⟨_,i⟩:=w6 e bd w;obtain⟨z,l,r,q⟩:=Q1 e bd w;have p:¬xs.length*g.size>2 ^ 24:=Ω
 let init:Array Value:=if xs.length*g.size=0 then(Array.range (xs.length*g.size)).map ((#[]:Array Value)[· %(#[]:Array Value).size]!)else(Array.range (xs.length*g.size)).map (z.cells[· %z.cells.size]!)
 have k:init.size=xs.length*g.size:=by simp only[init];split<;>simp
 obtain⟨o,g1,g2,g3⟩:=ab2 (a:=a) s xs 0 os [] init [] m n Ψ (by simp[dv]) rfl (by rw[k];simp);refine⟨o,?_,by simpa using g2,by rw[g3,k]⟩;simp only[init]at g1;by_cases b:xs.length*g.size=0
 ·rw[if_pos b]at g1;rw[b]at g1;have c:¬(0:Nat)>2 ^ 24:=by decide
  simp only[Instr.buildSlice,gm,run_underlying j,gA,i,if_false,hs,b,if_true,c,g1,newRow,run_newObj];rfl
 ·rw[if_neg b]at g1;simp only[Instr.buildSlice,gm,run_underlying j,gA,i,p,if_false,hs,b,l,g1,newRow,run_newObj];rfl
def OY{P:cG}{w:World}{ν:bc}{g:kj}{t:gW}(A:vH P g t){k v:af}{a p:Value}(ad:aU w ν k a)(z:aU w ν v p):
  ∀(borns:List Nat) (kvs:List af) (us:List Value) (i:Nat) (r:Option (List af)),cZ w ν kvs us->kvs.length=2*borns.length->wN g k v kvs=some r->
  match r with
  |none=>iX P w g t a (gQ borns us) i none
  |some B=> ∃j u m e,iX P w g t a (gQ borns us) i (some (i+j,u))/\cZ w ν B m/\B.length=kvs.length/\(gQ borns us)[j]? =some e/\e.key=a/\Instr.sameBits 10000 e.key a=true/\gQ borns m=(gQ borns us).modify j (fun e=>{e with key:=a,val:=p})
 |[],[],us,i,r,h,_,hm=>by simp only[wN]at hm;cases hm;simp only[cZ]at h;subst h;simpa[gQ]using iX.nil P w g t a i
 |[],_::_,_,_,_,_,c,_=>by simp at c
 |b::n,[],_,_,_,_,c,_=>by simp at c
 |b::n,[_],_,_,_,_,c,_=>by simp at c;omega
 |b::n,bs::v'::kvs,us,i,r,h,c,hm=>by
  simp only[cZ]at h;obtain⟨f,E,rfl,J,d,q,rfl,U,y⟩:=h;simp only[wN]at hm;simp only[gQ];cases o:u5 g k bs with
  |none=>simp[o]at hm
  |some bb=>
   obtain⟨s1,s2⟩:=Yc A ad J o;simp only[o]at hm;cases bb with
   |true=>simp only[dV]at hm;subst hm;obtain⟨rfl,s3⟩:=s2 rfl;refine⟨0,d,f::p::q,⟨f,d,b⟩,iX.hit (e:=⟨f,d,b⟩) s1,?_,Ψ,Ψ,rfl,s3,by simp[gQ]⟩;simp only[cZ];exact⟨_,_,rfl,ad,_,_,rfl,z,y⟩
   |false=>
    simp only at hm;have x:=fun s l=>OY A ad z n kvs q (i+1) s y (by simp at c;omega) l;split at hm
    ·rename_i s l;cases hm;obtain⟨j,u,m,e,g1,g2,g3,g4,g5,g6,g7⟩:=x _ l;refine⟨j+1,u,f::d::m,e,iX.miss (e:=⟨f,d,b⟩) s1 (by rw[show i+(j+1)=i+1+j from by omega];exact g1),?_,by simp[g3],by simpa using g4,g5,g6,by simp[gQ,g7]⟩;simp only[cZ];exact⟨_,_,rfl,J,_,_,rfl,U,g2⟩
    ·rename_i l;cases hm;exact iX.miss (e:=⟨f,d,b⟩) s1 (x _ l)
    ·cases hm
def U1:∀(borns:List Nat) (us:List Value) (b:Nat) (k v:Value),us.length=2*borns.length->gQ (borns++[b]) (us++[k,v])=gQ borns us++[⟨k,v,b⟩]
 |[],us,b,k,v,h=>by have:us=[]:=List.eq_nil_of_length_eq_zero (by simpa using h);subst this;simp[gQ]
 |b0::a,[],b,k,v,h=>by simp at h
 |b0::a,[_],b,k,v,h=>by simp at h;omega
 |b0::a,bs::v'::us,b,k,v,h=>by simp only[b6,gQ,U1 a us b k v (by simp at h;omega)]
def abQ{w:World}{ν:bc}:∀{b bV:List af} {bk us:List Value},cZ w ν b bk->cZ w ν bV us->cZ w ν (b++bV) (bk++us)
 |[],bV,bk,us,h,a=>by simp only[cZ]at h;subst h;simpa using a
 |p::b,bV,bk,us,h,a=>by simp only[cZ]at h;obtain⟨u,c,rfl,J,U⟩:=h;simp only[b6,cZ];exact⟨u,_,rfl,J,abQ U a⟩
def Qj{w:World}{ν:bc}:∀{a:List af} {bk:List Value},cZ w ν a bk->bk.length=a.length
 |[],bk,h=>by simp only[cZ]at h;subst h;rfl
 |p::a,bk,h=>by simp only[cZ]at h;obtain⟨u,b,rfl,_,U⟩:=h;simp[Qj U]
def Qp{P:cG}{w:World}{r:Nat}{o o':Obj}(a:w.heap[r]? =some o)(b:∀c e f,o≠ .cells c e f:=by simp):(setObj r o').run P w= .ok () {w with heap:=w.heap.setIfInBounds r o'}:=by simp only[setObj,Sem.run,a]
def e0.makes(st:bo):e0->Bool
 | .box _ _ _| .alloc _ _ _| .bsl _ _ _ _| .bslm _ _ _ _ _| .mkmap _ _| .range _ _ _| .mks _ _ _ _ _ _=>true
 | .appm _ _ _ _ x _=>match cD st.t x with
  | .slice _ .nil _=>true
  |_=>false
 | .app _ _ _ x _=>match cD st.t x with
  | .slice _ .nil _=>true
  |_=>false
 |_=>false
def c9.forgetRow{C:fj}{st:bo}{a:Act}{w:World}{ν:bc}(b:c9 C st a w ν){k:aB}{ow:dT}(ad:ae k st.e=some ow):c9 C {st with e:=cL k ⟨ow.n,ow.el,ow.sz,none⟩ st.e} a w ν:=by
 have d:∀g,(ae g (cL k ⟨ow.n,ow.el,ow.sz,none⟩ st.e)).isSome->(ae g st.e).isSome:=fun g bd=>by
  rw[jj]at bd;split at bd
  ·rename_i e;subst e;simp[ad]
  ·exact bd
 refine⟨⟨b.good.alt,b.good.box,b.good.inj,fun g o bd=>?_,fun g f n n' v v' bl c a2=>b.good.oinj g f n n' v v' bl (d g c) (d f a2),fun g j n v bl c=>b.good.obx g j n v bl (d g c),b.good.one,fun bl l=>b.good.otr bl (l.imp id (fun⟨g,n,v,c,a2⟩=>⟨g,n,v,d g c,a2⟩))⟩,b.fr,b.defers,b.size,b.slot,b.new⟩;simp only at bd;rw[jj]at bd;split at bd
 ·rename_i e;subst e;cases bd;obtain⟨v,us,p,i,h,_⟩:=b.good.own k ow ad;exact⟨v,us,p,i,h,fun xs m=>by cases m⟩
 ·exact b.good.own g o bd
def aah{w:World}{base el sz n:Nat}{v:Value}{us:List Value}(h:w.ownsRow base el sz v n us)(a:0<n):∃b cap,v= .slice (some ⟨b,0,none⟩) n cap:=by
 rcases h.2 with⟨c,d⟩|⟨bb,cap,cur,f1,_⟩
 ·omega
 ·exact⟨_,_,f1⟩
def JU{w:World}{ν:bc}{sz:Nat}:∀{xs:List af} {us:List Value} {i:Nat} {q b:af} {a:Value},dv w ν sz xs us->xs[i]? =some q->aU w ν b a->a.cells.size=sz->(∀c∈a.cells.toList,c.oneCell'=true)->dv w ν sz (xs.set i b) (us.take (i*sz)++a.cells.toList++us.drop (i*sz+sz))
 |[],_,_,_,_,_,_,d,_,_,_=>by simp at d
 |x::xs,us,0,q,b,a,h,d,k,j,aq=>by
  simp only[dv]at h;obtain⟨u,l,rfl,⟨J,U,m⟩,g⟩:=h;have f:u.cells.toList.length=sz:=by simpa using U
  simp only[List.set_cons_zero,dv];refine⟨a,l,?_,⟨k,j,aq⟩,g⟩;simp[<-f]
 |x::xs,us,i+1,q,b,a,h,d,k,j,aq=>by
  simp only[dv]at h;obtain⟨u,l,rfl,⟨J,U,m⟩,g⟩:=h;have f:u.cells.toList.length=sz:=by simpa using U
  have n:=JU g (by simpa using d) k j aq;simp only[List.set_cons_succ,dv];refine⟨u,_,?_,⟨J,U,m⟩,n⟩;have e:(i+1)*sz+sz=u.cells.toList.length+(i*sz+sz):=by rw[f,Nat.succ_mul];omega
  rw[acH _ _ _ _ f,e,<-List.drop_drop];simp
def arc{w:World}{ν:bc}{q:af}{v:Value}(b:aU w ν q v)(l:eS q=true){cs:List af}{us:List Value}(ay:cW w ν cs us){f:Nat}(g:f+us.length<=v.cells.size)(n:us≠[]):
  ∃v',aU w ν (oi q f cs) v'/\v'.cells.toList=v.cells.toList.take f++us++v.cells.toList.drop (f+us.length)/\v'.cells.size=v.cells.size/\∀c∈v'.cells.toList,c.oneCell'=true:=by
 have hlen:=q5 ay;have x:=wY b l;by_cases k:∃d,q= .agg d
 ·obtain⟨d,rfl⟩:=k;simp only[aU]at b;obtain⟨bk,rfl,i⟩:=b;simp only[pK]at g⊢;have j:cW w ν (nI d f cs) (bk.toList.take f++us++bk.toList.drop (f+us.length)):=by unfold nI;rw[hlen];exact Ap (Ap (FN f i) ay) (CS _ i)
  refine⟨.agg (bk.toList.take f++us++bk.toList.drop (f+us.length)).toArray,by simp only[oi,aU];exact⟨_,rfl,by simpa using j⟩,by simp[pK],?_,fun c a=>?_⟩
  ·simp[pK];omega
  ·exact CT j c (by simpa[pK]using a)
 ·have h:∀cs,q≠ .agg cs:=fun cs e=>k ⟨cs,e⟩;obtain⟨J,U⟩:=Qk b l h;rw[U]at g⊢;match us,n,ay with
  |u::o,_,ay=>
   simp at g;obtain⟨rfl,rfl⟩:f=0/\o=[]:=⟨Ω,List.length_eq_zero_iff.1 Ω⟩;match cs,ay,hlen with
   |[c],ay,_=>
    simp only[cW]at ay;obtain⟨t,y,p,⟨r,m⟩,_⟩:=ay;cases p;have hu:u.cells= #[u]:=by cases u<;>first|rfl|cases m
    have s:oi q 0 [c]=c:=by cases q<;>first|rfl|exact absurd rfl (h _)
    rw[s];refine⟨u,r,by simp[hu],by simp[hu],fun c a=>?_⟩;rw[hu]at a;simp at a;subst a;exact m
def arP{α:Type}(A us:List α)(a f sz N:Nat)(J:f+us.length<=sz)(U:a+sz<=N)(j:N<=A.length):
  ((A.take (a+f)++us++A.drop (a+f+us.length)).toArray.toList).take N=(A.take N).take a++((((A.take N).drop a).take sz).take f++us++(((A.take N).drop a).take sz).drop (f+us.length))++(A.take N).drop (a+sz):=by
 have g:(A.take N).take a++(((A.take N).drop a).take sz).take f=A.take (a+f):=by rw[List.take_take (i:=f),Nat.min_eq_left (show f<=sz by omega),<-List.take_add,List.take_take,Nat.min_eq_left Ω]
 have h:(((A.take N).drop a).take sz).drop (f+us.length)++(A.take N).drop (a+sz)=(A.take N).drop (a+f+us.length):=by
  have b:f+us.length<=(((A.take N).drop a).take sz).length:=by simp;omega
  have d:(A.take N).drop (a+sz)=((A.take N).drop a).drop sz:=by rw[List.drop_drop]
  rw[d,<-List.drop_append_of_le_length b,List.take_append_drop,List.drop_drop];congr 1;omega
 have e:(A.take N).drop (a+f+us.length)=(A.drop (a+f+us.length)).take (N-(a+f+us.length)):=by rw[List.drop_take]
 have b:(A.take (a+f)++us).length=a+f+us.length:=by simp;omega
 simp only[List.append_assoc]at*;rw[h,e,<-List.append_assoc (na a _),g];have c:N=(A.take (a+f)++us).length+(N-(a+f+us.length)):=by rw[b];omega
 rw[<-List.append_assoc,<-List.append_assoc];conv=>lhs;rw[c,List.take_length_add_append]
def c9.storeRow{P:cG}{C:fj}{st:bo}{a:Act}{w:World}{ν:bc}(h:c9 C st a w ν){k:aB}{n el sz:Nat}{xs:List af}(ad:ae k st.e=some ⟨n,el,sz,some xs⟩){i f:Nat}{u:Value}(M:aU w ν (.rptr sz k n i f) u){q:af}(H:xs[i]? =some q)(L:eS q=true)
  {cs:List af} {us:List Value} (ay:cW w ν cs us) (aG:f+us.length<=(cells q).length) (X:us≠[]):
  ∃bl off b,u= .pointer (some ⟨bl,off,none⟩)/\(storeCells ⟨bl,off,none⟩ us).run P w= .ok () (w.setRow bl b)/\∃bm,c9 C {st with e:=cL k ⟨n,el,sz,some (xs.set i (oi q f cs))⟩ st.e} a (w.setRow bl b) bm:=by
 simp only[aU]at M;obtain⟨_,hi,n',eJ,J,U,ar⟩:=M;obtain⟨v,d,z,K,bW,V⟩:=h.good.own k _ ad;rw[J]at z;simp only[dV,jo]at z;obtain⟨rfl,rfl⟩:=z;obtain⟨bl,l,rfl⟩:=ar rfl;obtain⟨c,m,vm⟩:=V xs rfl;simp only at c m;obtain⟨v,G,o,R⟩:=JS i m H;have BA:=q5 (wY G L);have s:(cells q).length=sz:=by rw[<-BA];simpa using o
 have N:f+us.length<=sz:=by rw[<-s];exact aG
 have hmul:i*sz+sz<=n'*sz:=by have:=r8 sz (show i+1<=n' from hi);rwa[Nat.succ_mul]at this
 rcases K.2 with⟨ao,aC⟩|⟨g,cap,cur,rfl,wh,B,A,y,p,O⟩
 ·rw[ao]at l;simp[pL]at l
 simp only[pL,dV]at l;subst l;simp only at O p A B;have Bz:n'*sz<=cur.size:=by rw[p];exact r8 sz A
 have dx:=run_storeCells_at P g (i*sz+f) el us 0 cur w B Ω (CT ay);simp only[Nat.add_zero]at dx;refine⟨g,i*sz+f,_,rfl,dx,?_⟩;generalize E:(cur.toList.take (i*sz+f)++us++cur.toList.drop (i*sz+f+us.length)).toArray=b;obtain⟨v',Y,W,S,Q⟩:=arc G L ay (f:=f) (by rw[o];exact N) X;have F:=JU m H Y (by rw[S,o]) Q;have hlen:d.length=n'*sz:=K.1;have t:b.toList.take (n'*sz)=d.take (i*sz)++v'.cells.toList++d.drop (i*sz+sz):=by rw[<-E,W,R,<-O];exact arP cur.toList us (i*sz) f sz (n'*sz) N hmul (by simpa using Bz)
 have x:b.size=cap*sz:=by rw[<-E,<-p];simp;omega
 have Z:(xs.set i (oi q f cs)).length=n':=by simp[c]
 obtain⟨r,_,_⟩:=h.setRowM (w':=w.setRow g b) ad rfl J (bl:=g) rfl (v':= .slice (some ⟨g,0,none⟩) n' cap) rfl (xs':=xs.set i (oi q f cs)) (us:=d.take (i*sz)++v'.cells.toList++d.drop (i*sz+sz)) (.inl ⟨by simp[c],rfl⟩) rfl rfl rfl (fun j ah=>setRow_other w g j b ah) (setRow_size w g b)
  ⟨by rw[rV F],.inr ⟨g,cap,b,by simp[c],Nat.zero_le _,setRow_heap w g cur b el _ B,by simpa[c]using A,y,x,by simpa[c]using t⟩⟩ F
 exact⟨_,by simpa[c]using r⟩
def amX(z:Array Value)(n:Nat)(h:0<z.size):(madeCells z ((n+1)*z.size)).toList=z.toList++(madeCells z (n*z.size)).toList:=by
 apply List.ext_getElem?;intro j;rw[List.getElem?_append];have he:(n+1)*z.size=n*z.size+z.size:=by rw[rk,Nat.one_mul]
 simp only[madeCells,vA,Array.length_toList,Array.getElem?_map];by_cases a:j<z.size
 ·rw[if_pos a,Array.getElem?_range,if_pos Ω];simp[Nat.mod_eq_of_lt a,a]
 ·rw[if_neg a,Array.getElem?_range,Array.getElem?_range];by_cases ad:j<n*z.size+z.size
  ·rw[if_pos Ω,if_pos Ω];simp only[pN];rw[<-Nat.mod_eq_sub_mod Ω]
  ·rw[if_neg Ω,if_neg Ω]
def YW{w:World}{ν:bc}{p:af}{z:Value}(a:aU w ν p z)(h:0<z.cells.size)(aq:∀c∈z.cells.toList,c.oneCell'=true):∀n,dv w ν z.cells.size (List.replicate n p) (madeCells z.cells (n*z.cells.size)).toList
 |0=>by simp[dv,madeCells]
 |n+1=>by rw[amX _ _ h];simp only[List.replicate_succ,dv];exact⟨z,_,rfl,⟨a,rfl,aq⟩,YW a h aq n⟩
def kB{P:cG}{aS:List (Nat×et)}(aL:hR P aS=true){C:fj}{st st':bo}{a:Act}{w:World}{ν:bc}(l:c9 C st a w ν){i:e0}{o:Oper}(aq:FW C.N aS i o=true)
  {κ:aB} {n':Nat} {o₁:List aB} (wm:i.makes st=true->fresh st.n st.o κ) (dA:i.makes st=true->∀j,fresh n' o₁ j->fresh st.n st.o j/\j≠κ) {c:Prop} (he:fs κ n' o₁ st i=some (c,st')) (ay:c) {K:Act->World->Prop} {Q:Exit->Act->World->Prop} (M:∀bp w' bm,c9 C st' bp w' bm->K bp w'):o.wp P a w K Q:=by
 obtain⟨dst,op,type,pos,after,guard⟩:=o;unfold FW at aq;dsimp only at aq;split at aq
 ·rename_i d key t;simp only[cO,eA,gn]at aq;obtain⟨rfl,U⟩:=aq;simp only[fs]at he;cases he;obtain⟨g1,g2⟩:=l.newBox (l.new _ (wm rfl)) (dA rfl) (cs:=[.hdm 0 []]) (us:= #[]) 0 (by simp only[k4];exact⟨by simp[cZ],⟨rfl,Ψ,Ψ⟩⟩);refine nL (v:= .map (some w.heap.size)) (w':=w.alloc (.map #[] 0)) ?_ (M _ _ _ (g1.put (d:=some d) (by simpa[j8]using U) (p:= .gmap κ) ?_))
  ·simp only[execOp,Instr.makeMap,Option.map_none,gm,run_newObj,gA,hs];rfl
  ·simp[aU,bc.withBox]
 iterate 2
  focus
   rename_i cz x k v t gT ir qh
   simp only[cO,eA]at aq
   obtain⟨⟨⟨⟨rfl,J⟩,U⟩,A⟩,E⟩:=aq
   have rx:=e7 l U
   have J2:=e7 l A
   have sL:=e7 l E
   split at J
   ·rename_i sz S pq su z R
    obtain⟨cX,hu,gi⟩:=jm aL R
    have xE:cX= .map pq su:=by cases cX<;>simp[k9]at gi;obtain⟨rfl,rfl⟩:=gi;rfl
    subst xE
    have rA:=Ye aL J
    simp only[fs]at he
    split at he
    ·rename_i m O
     rw[O]at rx
     simp only[aU]at rx
     obtain⟨bl,cm,ca⟩:=rx
     split at he
     ·rename_i cs dy
      split at he
      ·rename_i cs' hm
       cases he
       obtain⟨h4,us,el,a8,bB,bW,dn,G⟩:=l.good.box m cs dy
       rw[cm]at a8;cases a8
       unfold q1 at hm
       split at hm
       ·rename_i clock borns kvs
        split at hm
        ·cases hm
        rename_i fM
        simp only[l2]at dn
        simp only[k4]at G
        have iK:=yx (P:=P) dn
        have Ei:=ab0 (P:=P) (w:=w) rA false J2 (by simpa using fM)
        have bO:bl<w.heap.size:=(Array.getElem?_eq_some_iff.1 dn).1
        have ed:∀(o':Obj) (bY:Array Value) (ek:List af),(Instr.mapUpdate t (a.eval gT) (a.eval ir) (a.eval qh)).run P w= .ok () {w with heap:=w.heap.setIfInBounds bl o'}->l2 ek bY el=o'->k4 w ν ek bY.toList->some ek=some cs'->
          (⟨none,.mapUpdate t gT ir qh,type,pos,after,guard⟩:Oper).wp P a w K Q:=by
         intro o' bY ek jg Nx mN jI;cases jI;refine KH (w':={w with heap:=w.heap.setIfInBounds bl o'}) ?_ (M _ _ _ (l.setBox (w':={w with heap:=w.heap.setIfInBounds bl o'}) dy cm (us:=bY) (el:=el) rfl rfl rfl (fun j L=>?_) Ψ ?_ mN).1)
         ·simp only[execOp,jg,gm,gA,hs]
         ·exact Array.getElem?_setIfInBounds_ne (Ne.symm L)
         ·rw[Nx];simp[bO]
        split at hm
        ·rename_i Ca Ev
         obtain⟨j,u,bY,e,f1,f2,f3,f4,f5,f6,f7⟩:=OY rA J2 sL borns kvs us.toList 0 _ G.1 G.2.len Ev
         refine ed (.map (gQ borns bY).toArray clock) bY.toArray (.hdm clock borns::Ca) ?_ (by simp[l2]) (by simp only[k4];exact⟨by simpa using f2,⟨by rw[f3];exact G.2.len,G.2.inc,G.2.lt⟩⟩) hm
         have alC:(Instr.keyThatStays (((gQ borns us.toList).toArray[j]?.map (·.key)).getD (a.eval ir)) (a.eval ir)).run P w= .ok (a.eval ir) w:=by
          have:((gQ borns us.toList).toArray[j]?.map (·.key)).getD (a.eval ir)=e.key:=by simp[f4]
          rw[this];simp[Instr.keyThatStays,f6]
         simp only[Nat.zero_add]at f1
         simp only[Instr.mapUpdate,gm,run_underlying hu,gA,ca,iK,Ei,f1.run rA,hs,alC,Qp dn]
         rw[f7]
         simp
        ·rename_i Ev
         have f1:=OY rA J2 sL borns kvs us.toList 0 _ G.1 G.2.len Ev
         simp only at f1
         have wA:us.toList.length=2*borns.length:=by rw[Qj G.1,G.2.len]
         refine ed (.map ((gQ borns us.toList).toArray.push ⟨a.eval ir,a.eval qh,clock⟩) (clock+1)) (us.toList++[a.eval ir,a.eval qh]).toArray (.hdm (clock+1) (borns++[clock])::(kvs++[cD st.t k,cD st.t v])) ?_ (by simp only[l2,U1 borns us.toList clock _ _ wA];simp) ?_ hm
         ·simp only[Instr.mapUpdate,gm,run_underlying hu,gA,ca,iK,Ei,f1.run rA,hs,Qp dn]
         ·simp only[k4]
          refine⟨abQ G.1 (by simp only[cZ];exact⟨_,_,rfl,J2,_,_,rfl,sL,rfl⟩),⟨by simp[G.2.len];omega,?_,?_⟩⟩
          ·rw[List.pairwise_append]
           exact⟨G.2.inc,Ψ,fun x O y aI=>by simp at aI;subst aI;exact G.2.lt x O⟩
          ·intro b ag
           rcases jT.1 ag with ag|ag
           ·have:=G.2.lt b ag;omega
           ·simp at ag;omega
        ·cases hm
       ·cases hm
      ·cases he
     ·cases he
    ·cases he
   ·cases J
 ·rename_i d key x t gT;simp only[cO,eA,gn]at aq;obtain⟨⟨⟨rfl,U⟩,J⟩,A⟩:=aq;have rx:=e7 l A;split at J
  ·rename_i sz S pq su z R;obtain⟨cX,hu,gi⟩:=jm aL R;have xE:cX= .map pq su:=by cases cX<;>simp[k9]at gi;obtain⟨rfl,rfl⟩:=gi;rfl
   subst xE;simp only[fs]at he;split at he
   ·rename_i m O;rw[O]at rx;have ari:=rx;simp only[aU]at rx;obtain⟨bl,cm,ca⟩:=rx;split at he
    ·rename_i cs dy;split at he
     ·rename_i cs' hm;cases he;obtain⟨h4,us,el,a8,bB,bW,dn,G⟩:=l.good.box m cs dy;rw[cm]at a8;cases a8;unfold Am at hm;split at hm
      ·rename_i clock borns kvs;cases hm;simp only[l2]at dn;have iK:=yx (P:=P) dn;obtain⟨g1,g2⟩:=l.newBox (l.new _ (wm rfl)) (dA rfl) (cs:=[.hdi clock [] clock,.gmap m]) (us:= #[a.eval gT]) 0 (by simp only[k4,cZ];exact⟨_,_,rfl,ari,rfl⟩);have Nx:l2 [.hdi clock [] clock,.gmap m] #[a.eval gT] 0= .mapIter (some bl) clock #[] clock:=by simp[l2,ca]
       rw[Nx]at g1 g2;refine nL (v:= .pointer (some ⟨w.heap.size,0,none⟩)) (w':=w.alloc (.mapIter (some bl) clock #[] clock)) ?_ (M _ _ _ (g1.put (d:=some d) (by simpa[j8]using U) (p:= .ptr κ 0) g2))
       ·simp only[execOp];refine Gg ?_;simp only[Instr.range,gm,run_underlying hu,gA,ca,iK,hs,run_newObj];rfl
      ·cases hm
     ·cases he
    ·cases he
   ·cases he
  ·cases J
 ·rename_i d ayC;simp only[cO,eA,gn]at aq;obtain⟨⟨J,U⟩,A⟩:=aq;subst J;simp only[fs]at he;split at he
  ·rename_i cB p F;cases he;obtain⟨v,g1,g2⟩:=aso (o:=⟨some d,op,type,pos,after,guard⟩) aL l A F ay;refine nL g1 (M _ _ ν ?_);exact l.put (d:=some d) (by simpa[j8]using U) g2
  ·cases he
 ·rename_i d key x el o';simp only[cO,eA,gn]at aq;obtain⟨⟨J,U⟩,A⟩:=aq;subst J;simp only[fs]at he;cases he;have O:=e7 l A;have mK:=wY O ay;obtain⟨g1,g2⟩:=l.newBox (l.new _ (wm rfl)) (dA rfl) el (by rw[pA (wW mK)];exact mK);rw[pz (wW mK)]at g1 g2;refine nL (v:= .pointer (some ⟨w.heap.size,0,none⟩)) (w':=w.alloc (.cells (a.eval o').cells el)) ?_ (M _ _ _ (g1.put (d:=some d) (by simpa[j8]using U) (p:= .ptr κ 0) ?_))
  ·simp only[execOp,Instr.box,newVar,newRow,gm,run_newObj,gA,hs];rfl
  ·simpa only[aU]using g2
 ·rename_i d key z el;simp only[cO,eA,gn]at aq;obtain⟨⟨J,U⟩,A⟩:=aq;subst J;simp only[fs]at he;cases he;split at A
  ·rename_i f R;have bz:=Ry A;obtain⟨cf,l7,z2,z3⟩:=Q1 aL R w;rw[<-bz]at z2;obtain⟨_,mK⟩:=Rx w ν z2;obtain⟨g1,g2⟩:=l.newBox (l.new _ (wm rfl)) (dA rfl) el (by rw[pA (wW mK)];exact mK);rw[pz (wW mK)]at g1 g2;refine nL (v:= .pointer (some ⟨w.heap.size,0,none⟩)) (w':=w.alloc (.cells cf.cells el)) ?_ (M _ _ _ (g1.put (d:=some d) (by simpa[j8]using U) (p:= .ptr κ 0) ?_))
   ·simp only[execOp,Instr.alloc,newVar,newRow,gm,l7,run_newObj,gA,hs];rfl
   ·simpa only[aU]using g2
  ·cases A
 ·rename_i sz x y t o' X;simp only[cO,eA]at aq;obtain⟨⟨⟨J,U⟩,A⟩,E⟩:=aq;subst J;split at U
  ·rename_i f R;simp only[eA]at U;simp only[fs]at he;split at he
   ·rename_i k off O;split at he
    ·rename_i cs dy;cases he;obtain⟨jt,Z,cp,di⟩:=ay;have rx:=e7 l A;rw[O]at rx;simp only[aU]at rx;obtain⟨bl,cm,ca⟩:=rx;have N:=e7 l E;have wU:=wY N Z;have wZ:=q5 wU;obtain⟨h4,us,el,a8,bB,bW,dn,G⟩:=l.good.box k cs dy;rw[cm]at a8;cases a8;rw[pz jt]at dn;rw[pA jt]at G;have az:=q5 G;obtain⟨_,eo⟩:=w6 aL R w;have wB:(a.eval X).cells.size=sz:=by rw[cp]at wZ;simpa using wZ
     have dx:=run_storeCells_at (P:=P) bl off el (a.eval X).cells.toList 0 us w dn (by simp at az⊢;omega) (CT wU);simp only[Nat.add_zero]at dx;refine KH (w':=w.setRow bl (us.toList.take off++(a.eval X).cells.toList++us.toList.drop (off+(a.eval X).cells.toList.length)).toArray) ?_ (M _ _ _ (l.storeBox dy cm jt ?_))
     ·simp only[execOp,Instr.storeAt,ca,Instr.sureAddr,storeVar,gm,hs,gA,eo,wB,U,ne_eq,not_true_eq_false,if_false,dx]
     ·simp only[nI];rw[wZ];exact Ap (Ap (FN off G) wU) (CS _ G)
    ·cases he
   ·rename_i O;generalize NA:cD st.t x=px at he;unfold sP at he;split at he
    ·rename_i eg k n i uM;split at he
     ·rename_i n' el j4 xs ad;split at he
      ·rename_i Ez;obtain⟨rfl,rfl⟩:=Ez;split at he
       ·rename_i q bK;cases he;obtain⟨jt,Z,cp,di,h5⟩:=ay;have rx:=e7 l A;rw[NA]at rx;have N:=e7 l E;have wU:=wY N Z;have wZ:=q5 wU;obtain⟨_,eo⟩:=w6 aL R w;have wB:(a.eval X).cells.size=sz:=by rw[cp]at wZ;simpa using wZ
        obtain⟨bl,off,nR,EB,dx,bm,oN⟩:=l.storeRow (P:=P) ad rx bK jt wU (by simpa[wB]using di) (fun e=>by have:=fC List.length e;simp[wB]at this;omega);refine KH (w':=w.setRow bl nR) ?_ (M _ _ _ oN);simp only[execOp,Instr.storeAt,EB,Instr.sureAddr,storeVar,gm,hs,gA,eo,wB,U,ne_eq,not_true_eq_false,if_false,dx]
       ·cases he
      ·cases he
     ·cases he
    ·cases he
  ·cases U
 ·rename_i d sz el xs t len parts;simp only[cO,eA,gn]at aq;obtain⟨⟨⟨⟨⟨⟨J,U⟩,A⟩,E⟩,bQ⟩,dh⟩,ec⟩:=aq;subst J;subst bQ;split at A
  ·rename_i gK R;simp only[eA]at A;subst A;split at E
   ·rename_i g bd;simp only[cO,eA,gn]at E;obtain⟨rfl,gj⟩:=E;simp only[fs]at he;cases he;obtain⟨us,g1,g2,g3⟩:=abZ aL l R rfl bd ec ay dh;have mM:(w.alloc (.cells us el)).ownsRow w.heap.size el g.size (.slice (some ⟨w.heap.size,0,none⟩) xs.length xs.length) (xs.map (cD st.t)).length us.toList:=by
     refine⟨by simp[g3],.inr ⟨w.heap.size,xs.length,us,Ψ,dO _,heap_alloc_new w _,Ψ,?_,g3,?_⟩⟩
     ·simp only[maxLen];have:xs.length<=xs.length*g.size:=Nat.le_mul_of_pos_right _ gj;omega
     ·rw[iv];simp[g3]
    obtain⟨Y,eE⟩:=l.newRow (k:=κ) (xs:=xs.map (cD st.t)) (.inl (l.new _ (wm rfl))) (World.grownBy_alloc w _ none) mM g2
     (by have:xs.length<=xs.length*g.size:=Nat.le_mul_of_pos_right _ gj;simp only[lim,List.length_map];omega) (dA rfl)
    simp only[List.length_map]at Y eE;refine nL (v:= .slice (some ⟨w.heap.size,0,none⟩) xs.length xs.length) (w':=w.alloc (.cells us el)) ?_ (M _ _ _ (Y.put (d:=some d) (by simpa[j8]using U) (p:= .slice g.size (.own κ) (xs.map (cD st.t))) eE));have bN:(parts.map fun(x:Nat×Operand)=>(x.1,a.eval x.2))=(parts.toList.map fun(x:Nat×Operand)=>(x.1,a.eval x.2)).toArray:=by apply Array.ext';simp
    simp only[execOp];refine Gg ?_;rw[<-g1];congr 2
   ·cases E
  ·cases A
 ·rename_i d sz el x y o' X t t';simp only[cO,eA,gn]at aq;obtain⟨⟨⟨⟨⟨⟨J,U⟩,A⟩,E⟩,bQ⟩,dh⟩,ec⟩:=aq;subst J;subst A;split at E
  ·rename_i gK R;simp only[eA]at E;subst E;split at bQ
   ·rename_i g bd;simp only[cO,eA,gn]at bQ;obtain⟨⟨rfl,gj⟩,hby⟩:=bQ;have rx:=e7 l dh;have N:=e7 l ec;have nW:∀v' w',(Builtin.append_ #[t,t] type #[a.eval o',a.eval X]).run P w= .ok v' w'->(execOp a.eval ⟨some d,.call ⟨.builtin .append,⟨[o',X]⟩,⟨[t,t]⟩⟩,type,pos,after,guard⟩).run P w= .ok (.value v') w':=by intro v' w' jg;simp only[execOp,resolve,invoke,builtin,gm,hs,gA,List.map_toArray,gX,o2];rw[jg];rfl
    obtain⟨r,cv,z,ao,aC,B,b4,dP,dk,s8,s9⟩:=(w7 aL bd).ex;obtain⟨ek,jI,gi⟩:=jm aL R;obtain rfl:=s7 gi;simp only[fs]at he;split at he
    ·rename_i eg tag xs j4 l3 ys O aI;split at he
     ·rename_i gd;obtain⟨rfl,gd⟩:=gd;subst gd;rw[O]at rx;rw[aI]at N;simp only[aU]at rx N;obtain⟨⟨vQ,pc,ui,cx1,⟨UE,UF⟩,cx4⟩,rxn,rxo,rxt⟩:=rx;obtain⟨⟨o8,W,vy,cy1,⟨UG,UH⟩,cy4⟩,_⟩:=N;split at he
      ·rename_i k;split at he
       ·rename_i ow ad;cases he;obtain⟨Z,cp,di,h5⟩:=ay;subst cp;obtain⟨n0,yI,Y,eE,ky⟩:=rxo k rfl;obtain⟨v0,H,a8,bB,bW,_⟩:=l.good.own k ow ad;rw[Y]at a8;simp only[dV,jo]at a8;obtain⟨rfl,rfl⟩:=a8;have nA:a.eval o'=yI:=ky Z.symm;by_cases hF:ys=[]
        ·subst hF;rw[vy,ui]at nW;have jg:=J5 (P:=P) (w:=w) (ty:=type) jI ao vQ xs.length pc cx1 o8 W;refine nL (nW _ _ (by simpa using jg)) (M _ _ ν ?_);have dx:{st with t:=put d (.slice ow.sz (.own k) (xs++[])) st.t,e:=cL k ⟨xs.length+([]:List af).length,ow.el,ow.sz,none⟩ st.e}=({st with e:=cL k ⟨ow.n,ow.el,ow.sz,none⟩ st.e,t:=put d (.slice ow.sz (.own k) xs) st.t}:bo):=by simp[Z]
         rw[<-di,dx];have nZ:=l.forgetRow ad;refine nZ.put (d:=some d) (by simpa[j8]using U) (p:= .slice ow.sz (.own k) xs) ?_;simp only[aU];rw[<-di]at cx4;exact⟨⟨vQ,pc,rfl,cx1,⟨UE,UF⟩,cx4⟩,fun e=>(by cases e),(fun g e=>by cases e;exact⟨_,_,Y,eE,fun e=>by rw[<-ui];exact ky e⟩),fun _ _ e=>(by cases e),fun _ e=>(by cases e)⟩
        ·have hyp:0<ys.length:=by cases ys<;>simp at hF⊢
         rcases cy4 with cy4|⟨S,oV,s,rfl,zX,V⟩
         ·exact absurd cy4 hF
         ·have kr:=rV V;have tC:∀j u,s[j]? =some u->w.cell? ((⟨S,oV,none⟩:Addr).add j)=some u:=fun j u L=>by rw[pV];exact(va zX L).2
          have tq:(xs.length+ys.length)*r.bytes<=140737488355328:=by
           have mI:r.bytes<=2048:=by rw[b4];exact hby
           have qM:(xs.length+ys.length)*r.bytes<=(xs.length+ys.length)*2048:=Nat.mul_le_mul_left _ mI;simp only[lim]at h5;omega
          have nX:xs.length+ys.length<=maxLen:=by simp only[lim]at h5;simp only[maxLen];omega
          rw[vy]at nW;have xY:H.length=ow.n*ow.sz:=bB.1;have x1:z.cells.size=r.size:=by rw[s9,B]
          have Eo:(∀cur,eb->cur=(0:Nat))->(∃v' w',(Builtin.append_ #[t,t] type #[a.eval o',.slice (some ⟨S,oV,none⟩) ys.length W]).run P w= .ok v' w'/\w'.ownsRow w.heap.size ow.el r.size v' (xs.length+ys.length) (H++s)/\w.grownBy w' none/\dv w ν r.size xs H)->
            (⟨some d,.call ⟨.builtin .append,⟨[o',X]⟩,⟨[t,t]⟩⟩,type,pos,after,guard⟩:Oper).wp P a w K Q:=by
           intro _ cI;obtain⟨v',w',f1,f2,f3,f4⟩:=cI;have HT:dv w ν r.size (xs++ys) (H++s):=FL f4 (by rw[B];exact V);obtain⟨c4,dB⟩:=l.newRow (k:=k) (xs:=xs++ys) (.inr ⟨ow,ad,by rw[Z];simp;omega⟩) f3 (by simpa using f2) HT (by simpa using h5) (n':=st.n) (o':=st.o)
            (fun j L=>⟨L,fun e=>by subst e;have:=(l.new _ L).2.1;rw[Y]at this;cases this⟩)
           refine nL (nW _ _ f1) (M _ _ ((ν.withOwn k (xs++ys).length v').withRowOf k v' (xs++ys).length ((xs++ys).length*r.size)) ?_);have:=c4.put (d:=some d) (by simpa[j8]using U) dB;simpa[B,e9]using this
          rcases bB.2 with⟨oW,Ai⟩|⟨bl,cap,cur,oW,Ai,CG,PH,PI,PJ,Jt⟩
          ·
           have sE:xs=[]:=List.eq_nil_of_length_eq_zero Ω;have NO:H=[]:=List.eq_nil_of_length_eq_zero (by rw[xY,Ai];simp);subst sE;subst NO;refine Eo (fun _ h=>h.elim) ?_;obtain⟨v',w',f1,f2,f3,_⟩:=run_append_own (P:=P) w w.heap.size t type ow.el r z r.size r.bytes jI ao dk rfl rfl x1 (by rw[B];exact gj) (.slice none 0 0) 0 [] (World.ownsRow_nil w _ _ _)
            ⟨S,oV,none⟩ ys.length W s (by rw[kr,B]) tC (Ao V) (by simpa using nX) (by simpa using tq) (dO _)
           refine⟨v',w',by rw[nA,oW];exact f1,by simpa using f2,by simpa[pL]using f3,by simp[dv]⟩
          ·have ak0:kZ w ν.A bl 0 H/\dv w ν r.size xs H/\True:=by
            rw[nA,oW]at ui;rcases cx4 with cx4|⟨bb,axo,Q9,f1,f2,f3⟩
            ·subst cx4;have:H=[]:=List.eq_nil_of_length_eq_zero (by rw[xY,Z];simp);subst this;exact⟨trivial,by simp[dv],trivial⟩
            ·subst f1;injection ui with vx1 vx2 vx3;injection vx1 with vx1;injection vx1 with vx1 vx4;subst vx1;subst vx4;have heq:Q9=H:=by
              apply List.ext_getElem?;intro j;have wA:Q9.length=H.length:=by rw[rV f3,xY,Z,di]
              by_cases L:j<Q9.length
              ·have J:=(va f2 (ck L)).2;rw[Nat.zero_add]at J;have U:=bB.cells (g:=bl) (by rw[oW];rfl) j H[j] (ck Ω);rw[pV,Nat.zero_add,J]at U;rw[ck L,ck Ω];exact U
              ·rw[rh Ω,rh Ω]
             subst heq;exact⟨f2,by rw[B];exact f3,trivial⟩
           obtain⟨zC,oJ,_⟩:=ak0;by_cases tE:xs.length+ys.length<=cap
           ·have avz:cur.size=cap*ow.sz:=PJ;have hmul:(xs.length+ys.length)*ow.sz<=cap*ow.sz:=r8 _ tE;rw[rk]at hmul;have f1:=run_append_room (P:=P) w t type ow.el r jI ao bl xs.length cap cur CG ⟨S,oV,none⟩ ys.length W s (by rw[kr,B]) tC (Ao V) tE (by rw[kr,B,<-di];omega);obtain⟨c4,dB⟩:=l.inPlace ad (bl:=bl) (cap:=cap) (cur:=cur) (by rw[Y,<-oW]) CG PI PJ (xs:=xs) (ys:=ys) (us:=H) (ns:=s) Z.symm Jt (by rw[di,<-B];exact oJ) (by rw[di];exact V) hyp (by rw[Z];exact tE) h5;refine nL (v:= .slice (some ⟨bl,0,none⟩) (ow.n+ys.length) cap) (w':=w.setRow bl (H++s++cur.toList.drop (ow.n*ow.sz+s.length)).toArray) (nW _ _ ?_)
             (M _ _ (ν.withRowOf k (.slice (some ⟨bl,0,none⟩) (ow.n+ys.length) cap) (ow.n+ys.length) ((ow.n+ys.length)*ow.sz)) ?_)
            ·rw[nA,oW,Z,f1,<-Jt,Z,di,B]
            ·have:=c4.put (d:=some d) (by simpa[j8]using U) dB;simpa[Z,di,e9]using this
           ·refine Eo (fun _ h=>h.elim) ?_;obtain⟨v',w',f1,f2,f3⟩:=run_append_arg_grows (P:=P) w t type ow.el r z r.size r.bytes jI ao dk rfl rfl x1 (by rw[B];exact gj) ⟨bl,0,none⟩ xs.length cap H (by rw[xY,Z,di,B])
             (fun j u L=>by rw[pV];exact(va zC L).2) ⟨S,oV,none⟩ ys.length W s (by rw[kr,B]) tC Ω nX tq
            exact⟨v',w',by rw[nA,oW,Z];exact f1,f2,f3,oJ⟩
       ·cases he
      ·cases he;have H7:=rxn rfl;have sE:xs=[]:=by rw[H7]at ui;injection ui with _ aC;exact List.eq_nil_of_length_eq_zero aC.symm
       subst sE;have zG:(e0.app d g.size el x y).makes st=true:=by simp only[e0.makes,O]
       have x1:z.cells.size=r.size:=by rw[s9,B]
       rw[vy,H7]at nW;have ed:∀(v':Value) (w':World) (s:List Value),(Builtin.append_ #[t,t] type #[.slice none 0 0,.slice o8 ys.length W]).run P w= .ok v' w'->w'.ownsRow w.heap.size el g.size v' ys.length s->w.grownBy w' none->dv w ν g.size ys s->
         (⟨some d,.call ⟨.builtin .append,⟨[o',X]⟩,⟨[t,t]⟩⟩,type,pos,after,guard⟩:Oper).wp P a w K Q:=by
        intro v' w' s f1 f2 f3 f4;obtain⟨c4,dB⟩:=l.newRow (k:=κ) (xs:=ys) (.inl (l.new _ (wm zG))) f3 f2 f4 ay (dA zG);exact nL (nW _ _ f1) (M _ _ _ (c4.put (d:=some d) (by simpa[j8]using U) dB))
       by_cases hF:ys=[]
       ·subst hF;exact ed _ w [] (J5 jI ao none 0 0 (dO _) o8 W) (World.ownsRow_nil w _ _ _) (at3 w _) (by simp[dv])
       ·rcases cy4 with cy4|⟨S,oV,s,rfl,zX,V⟩
        ·exact absurd cy4 hF
        ·have kr:=rV V;have tC:∀j u,s[j]? =some u->w.cell? ((⟨S,oV,none⟩:Addr).add j)=some u:=fun j u L=>by rw[pV];exact(va zX L).2
         have tq:ys.length*r.bytes<=140737488355328:=by
          have J:r.bytes<=2048:=by rw[b4];exact hby
          have U:ys.length*r.bytes<=ys.length*2048:=Nat.mul_le_mul_left _ J;simp only[lim]at ay;omega
         have nX:ys.length<=maxLen:=by simp only[lim]at ay;simp only[maxLen];omega
         obtain⟨v',w',f1,f2,f3,_⟩:=run_append_own (P:=P) w w.heap.size t type el r z r.size r.bytes jI ao dk rfl rfl x1 (by rw[B];exact gj) (.slice none 0 0) 0 [] (World.ownsRow_nil w _ _ _)
          ⟨S,oV,none⟩ ys.length W s (by rw[kr,B]) tC (Ao V) (by simpa using nX) (by simpa using tq) (dO _)
         exact ed v' w' s f1 (by rw[<-B];simpa using f2) (by simpa[pL]using f3) V
      ·cases he
     ·cases he
    ·cases he
   ·cases bQ
  ·cases E
 ·rename_i d key sz el xs t len parts;simp only[cO,eA,gn]at aq;obtain⟨⟨⟨⟨⟨⟨J,U⟩,A⟩,E⟩,bQ⟩,dh⟩,ec⟩:=aq;subst J;subst bQ;split at A
  ·rename_i gK R;simp only[eA]at A;subst A;split at E
   ·rename_i g bd;simp only[cO,eA,gn]at E;obtain⟨rfl,gj⟩:=E;simp only[fs]at he;cases he;obtain⟨us,g1,g2,g3⟩:=abZ aL l R rfl bd ec ay dh;have mM:(w.alloc (.cells us el)).ownsRow w.heap.size el g.size (.slice (some ⟨w.heap.size,0,none⟩) xs.length xs.length) (xs.map (cD st.t)).length us.toList:=by
     refine⟨by simp[g3],.inr ⟨w.heap.size,xs.length,us,Ψ,dO _,heap_alloc_new w _,Ψ,?_,g3,?_⟩⟩
     ·simp only[maxLen];have:xs.length<=xs.length*g.size:=Nat.le_mul_of_pos_right _ gj;omega
     ·rw[iv];simp[g3]
    obtain⟨Y,eE⟩:=l.newRowM (k:=κ) (xs:=xs.map (cD st.t)) (.inl (l.new _ (wm rfl))) (World.grownBy_alloc w _ none) mM g2
     (by have:xs.length<=xs.length*g.size:=Nat.le_mul_of_pos_right _ gj;simp only[lim,List.length_map];omega) (dA rfl)
    simp only[List.length_map]at Y eE;refine nL (v:= .slice (some ⟨w.heap.size,0,none⟩) xs.length xs.length) (w':=w.alloc (.cells us el)) ?_ (M _ _ _ (Y.put (d:=some d) (by simpa[j8]using U) (p:= .row g.size κ xs.length) (eE ⟨_,_,rfl⟩)));have bN:(parts.map fun(x:Nat×Operand)=>(x.1,a.eval x.2))=(parts.toList.map fun(x:Nat×Operand)=>(x.1,a.eval x.2)).toArray:=by apply Array.ext';simp
    simp only[execOp];refine Gg ?_;rw[<-g1];congr 2
   ·cases E
  ·cases A
 ·rename_i d key sz el x y o' X t t';simp only[cO,eA,gn]at aq;obtain⟨⟨⟨⟨⟨⟨J,U⟩,A⟩,E⟩,bQ⟩,dh⟩,ec⟩:=aq;subst J;subst A;split at E
  ·rename_i gK R;simp only[eA]at E;subst E;split at bQ
   ·rename_i g bd;simp only[cO,eA,gn]at bQ;obtain⟨⟨rfl,gj⟩,hby⟩:=bQ;have rx:=e7 l dh;have N:=e7 l ec;have nW:∀v' w',(Builtin.append_ #[t,t] type #[a.eval o',a.eval X]).run P w= .ok v' w'->(execOp a.eval ⟨some d,.call ⟨.builtin .append,⟨[o',X]⟩,⟨[t,t]⟩⟩,type,pos,after,guard⟩).run P w= .ok (.value v') w':=by intro v' w' jg;simp only[execOp,resolve,invoke,builtin,gm,hs,gA,List.map_toArray,gX,o2];rw[jg];rfl
    obtain⟨r,cv,z,ao,aC,B,b4,dP,dk,s8,s9⟩:=(w7 aL bd).ex;obtain⟨ek,jI,gi⟩:=jm aL R;obtain rfl:=s7 gi;have x1:z.cells.size=r.size:=by rw[s9,B]
    simp only[fs]at he;split at he
    ·
     rename_i ys F;cases he;unfold uC at F;split at F
     ·rename_i eg xs j4 l3 atV O aI;split at F
      ·rename_i gd;obtain⟨rfl,gd⟩:=gd;subst gd;cases F;rw[O]at rx;rw[aI]at N;simp only[aU]at rx N;obtain⟨⟨vQ,pc,ui,cx1,⟨UE,UF⟩,cx4⟩,rxn,rxo,rxt⟩:=rx;obtain⟨⟨o8,W,vy,cy1,⟨UG,UH⟩,cy4⟩,_⟩:=N;have H7:=rxn trivial;have zG:(e0.appm d key g.size el x y).makes st=true:=by simp only[e0.makes,O]
       rw[vy,H7]at nW;have ed:∀(v':Value) (w':World) (s:List Value),(Builtin.append_ #[t,t] type #[.slice none 0 0,.slice o8 ys.length W]).run P w= .ok v' w'->w'.ownsRow w.heap.size el g.size v' ys.length s->w.grownBy w' none->dv w ν g.size ys s->
         (⟨some d,.call ⟨.builtin .append,⟨[o',X]⟩,⟨[t,t]⟩⟩,type,pos,after,guard⟩:Oper).wp P a w K Q:=by
        intro v' w' s f1 f2 f3 f4;obtain⟨c4,dB⟩:=l.newRowM (k:=κ) (xs:=ys) (.inl (l.new _ (wm zG))) f3 f2 f4 ay.1 (dA zG);exact nL (nW _ _ f1) (M _ _ _ (c4.put (d:=some d) (by simpa[j8]using U) (dB (aah f2 (by cases ys<;>simp at ay⊢)))))
       by_cases hF:ys=[]
       ·subst hF;exact ed _ w [] (J5 jI ao none 0 0 (dO _) o8 W) (World.ownsRow_nil w _ _ _) (at3 w _) (by simp[dv])
       ·rcases cy4 with cy4|⟨S,oV,s,rfl,zX,V⟩
        ·exact absurd cy4 hF
        ·have kr:=rV V;have tC:∀j u,s[j]? =some u->w.cell? ((⟨S,oV,none⟩:Addr).add j)=some u:=fun j u L=>by rw[pV];exact(va zX L).2
         have tq:ys.length*r.bytes<=140737488355328:=by
          have J:r.bytes<=2048:=by rw[b4];exact hby
          have U:ys.length*r.bytes<=ys.length*2048:=Nat.mul_le_mul_left _ J;simp only[lim]at ay;omega
         have nX:ys.length<=maxLen:=by simp only[lim]at ay;simp only[maxLen];omega
         obtain⟨v',w',f1,f2,f3,_⟩:=run_append_own (P:=P) w w.heap.size t type el r z r.size r.bytes jI ao dk rfl rfl x1 (by rw[B];exact gj) (.slice none 0 0) 0 [] (World.ownsRow_nil w _ _ _)
          ⟨S,oV,none⟩ ys.length W s (by rw[kr,B]) tC (Ao V) (by simpa using nX) (by simpa using tq) (dO _)
         exact ed v' w' s f1 (by rw[<-B];simpa using f2) (by simpa[pL]using f3) V
      ·cases F
     ·split at F
      ·split at F
       ·split at F<;>cases F
       ·cases F
      ·cases F
     ·cases F
    ·
     rename_i k xs ys F;cases he;unfold uC at F;split at F
     ·split at F<;>cases F
     ·rename_i eg bs n j4 l3 atV O aI;split at F
      ·rename_i gd;obtain⟨rfl,gd⟩:=gd;subst gd;split at F
       ·rename_i n' gK yF xs' ad;split at F
        ·rename_i p8;obtain⟨rfl,rfl,rfl⟩:=p8;cases F;rw[O]at rx;rw[aI]at N;simp only[aU]at rx N;obtain⟨⟨bx,pc,ui⟩,rxl,n0,yI,Y,eE,ky⟩:=rx;obtain⟨⟨o8,W,vy,cy1,⟨UG,UH⟩,cy4⟩,_⟩:=N;obtain⟨v0,H,a8,bB,bW,dn⟩:=l.good.own k _ ad;rw[Y]at a8;simp only[dV,jo]at a8 bB;obtain⟨rfl,rfl⟩:=a8;have nA:a.eval o'=yI:=ky rfl;obtain⟨G,mV,vm⟩:=dn xs rfl;simp only at G mV;have xY:H.length=xs.length*g.size:=by rw[G];exact bB.1
         have kX:xs.length=n0:=G;by_cases hF:ys=[]
         ·subst hF;rw[vy,ui]at nW;have mK:n0<=pc:=by
           rcases bB.2 with⟨oW,Ai⟩|⟨bl,cap,cur,oW,Ai,CG,PH,_⟩
           ·rw[Ai];exact Nat.zero_le _
           ·rw[<-nA,ui]at oW;injection oW with _ _ e;rw[e];exact PH
          have jg:=J5 (P:=P) (w:=w) (ty:=type) jI ao (some ⟨bx,0,none⟩) n0 pc mK o8 W;refine nL (nW _ _ (by simpa using jg)) (M _ _ ν ?_);have hy:∀fA,ae fA (cL k ⟨n0,gK,g.size,some xs⟩ st.e)=ae fA st.e:=fun fA=>by
           rw[jj];split
           ·rename_i e;subst e;rw[ad]
           ·rfl
          have nZ:c9 C {st with e:=cL k ⟨n0,gK,g.size,some xs⟩ st.e} a w ν:=
           ⟨⟨l.good.alt,l.good.box,l.good.inj,fun g o bd=>l.good.own g o (by rw[<-hy g];exact bd),fun g fA n n' v v' bl bq a2=>l.good.oinj g fA n n' v v' bl (by rw[<-hy g];exact bq) (by rw[<-hy fA];exact a2),
           fun g j n v bl bq=>l.good.obx g j n v bl (by rw[<-hy g];exact bq),l.good.one,fun bl ag=>l.good.otr bl (ag.imp id (fun⟨g,n,v,bq,a2⟩=>⟨g,n,v,by rw[<-hy g];exact bq,a2⟩))⟩,l.fr,l.defers,l.size,l.slot,l.new⟩
          have A:=nZ.put (d:=some d) (by simpa[j8]using U) (p:= .row g.size k n0) (v:= .slice (some ⟨bx,0,none⟩) n0 pc) (by simp only[aU];exact⟨⟨_,_,rfl⟩,rxl,_,_,Y,dO _,fun _=>by rw[<-ui];exact nA⟩)
          simpa[kX,e9]using A
         ·have hyp:0<ys.length:=by cases ys<;>simp at hF⊢
          rcases cy4 with cy4|⟨S,oV,s,rfl,zX,V⟩
          ·exact absurd cy4 hF
          ·have kr:=rV V;have tC:∀j u,s[j]? =some u->w.cell? ((⟨S,oV,none⟩:Addr).add j)=some u:=fun j u L=>by rw[pV];exact(va zX L).2
           have tq:(xs.length+ys.length)*r.bytes<=140737488355328:=by
            have mI:r.bytes<=2048:=by rw[b4];exact hby
            have qM:(xs.length+ys.length)*r.bytes<=(xs.length+ys.length)*2048:=Nat.mul_le_mul_left _ mI;simp only[lim]at ay;omega
           have nX:xs.length+ys.length<=maxLen:=by simp only[lim]at ay;simp only[maxLen];omega
           have HT:dv w ν g.size (xs++ys) (H++s):=FL mV V;rw[vy,nA]at nW;have Eo:(∃v' w',(Builtin.append_ #[t,t] type #[yI,.slice (some ⟨S,oV,none⟩) ys.length W]).run P w= .ok v' w'/\w'.ownsRow w.heap.size gK r.size v' (xs.length+ys.length) (H++s)/\w.grownBy w' none)->
             (⟨some d,.call ⟨.builtin .append,⟨[o',X]⟩,⟨[t,t]⟩⟩,type,pos,after,guard⟩:Oper).wp P a w K Q:=by
            intro cI;obtain⟨v',w',f1,f2,f3⟩:=cI;obtain⟨c4,dB⟩:=l.newRowM (k:=k) (xs:=xs++ys) (el:=gK) (sz:=g.size) (.inr ⟨_,ad,by simp;omega⟩) f3 (by rw[<-B];simpa using f2) HT (by simpa using ay) (n':=st.n) (o':=st.o)
             (fun j L=>⟨L,fun e=>by subst e;have:=(l.new _ L).2.1;rw[Y]at this;cases this⟩)
            refine nL (nW _ _ f1) (M _ _ (ν.withOwn k (xs++ys).length v') ?_);have:=c4.put (d:=some d) (by simpa[j8]using U) (dB (by simpa using aah f2 Ω));simpa[e9]using this
           rcases bB.2 with⟨oW,Ai⟩|⟨bl,cap,cur,oW,Ai,CG,PH,PI,PJ,Jt⟩
           ·
            have sE:xs=[]:=List.eq_nil_of_length_eq_zero Ω;have NO:H=[]:=List.eq_nil_of_length_eq_zero (by rw[xY,sE];simp);subst sE;subst NO;refine Eo ?_;obtain⟨v',w',f1,f2,f3,_⟩:=run_append_own (P:=P) w w.heap.size t type gK r z r.size r.bytes jI ao dk rfl rfl x1 (by rw[B];exact gj) (.slice none 0 0) 0 [] (World.ownsRow_nil w _ _ _)
             ⟨S,oV,none⟩ ys.length W s (by rw[kr,B]) tC (Ao V) (by simpa using nX) (by simpa using tq) (dO _)
            exact⟨v',w',by rw[oW];exact f1,by simpa using f2,by simpa[pL]using f3⟩
           ·have mP:yI.ownBlock=some bl:=by rw[oW];rfl
            by_cases tE:xs.length+ys.length<=cap
            ·have hmul:(xs.length+ys.length)*g.size<=cap*g.size:=r8 _ tE;rw[rk]at hmul;have f1:=run_append_room (P:=P) w t type gK r jI ao bl xs.length cap cur CG ⟨S,oV,none⟩ ys.length W s (by rw[kr,B]) tC (Ao V) tE (by rw[kr,B];omega);generalize XA:(cur.toList.take (xs.length*r.size)++s++cur.toList.drop (xs.length*r.size+s.length)).toArray=vk at f1;have jY:(w.setRow bl vk).heap[bl]? =some (.cells vk gK (0,0)):=setRow_heap w bl cur vk gK _ CG;have av:(H++s).length=(xs++ys).length*g.size:=by rw[qv,xY,kr,qv,rk]
             have bQ:cur.toList.take (xs.length*r.size)=H:=by rw[kX,B];exact Jt
             have ls:vk.size=cap*g.size:=by rw[<-XA];simp only[List.size_toArray,qv,List.length_take,ur,Array.length_toList];rw[B];omega
             have qQ:vk.toList.take ((xs++ys).length*g.size)=H++s:=by rw[<-XA,bQ];simp only[<-av];rw[List.take_append_of_le_length (dO _),jA]
             obtain⟨c4,_,dB⟩:=l.setRowM (w':=w.setRow bl vk) ad rfl Y mP (v':= .slice (some ⟨bl,0,none⟩) (xs.length+ys.length) cap) rfl (xs':=xs++ys) (us:=H++s) (.inr d6) rfl rfl rfl (fun j L=>setRow_other w bl j vk L) (setRow_size w bl vk)
              ⟨av,.inr ⟨bl,cap,vk,Ψ,Nat.zero_le _,jY,by simpa using tE,PI,ls,qQ⟩⟩ HT
             replace dB:=dB (by simpa using ay);refine nL (v:= .slice (some ⟨bl,0,none⟩) (xs.length+ys.length) cap) (w':=w.setRow bl vk) (nW _ _ ?_) (M _ _ (ν.withOwn k (xs++ys).length (.slice (some ⟨bl,0,none⟩) (xs.length+ys.length) cap)) ?_)
             ·rw[oW,<-kX];exact f1
             ·have:=c4.put (d:=some d) (by simpa[j8]using U) dB;simpa[e9]using this
            ·refine Eo ?_;obtain⟨v',w',f1,f2,f3⟩:=run_append_arg_grows (P:=P) w t type gK r z r.size r.bytes jI ao dk rfl rfl x1 (by rw[B];exact gj) ⟨bl,0,none⟩ xs.length cap H (by rw[xY,B])
              (fun j u L=>by have:=bB.cells mP j u L;exact this) ⟨S,oV,none⟩ ys.length W s (by rw[kr,B]) tC Ω nX tq
             exact⟨v',w',by rw[oW,<-kX];exact f1,f2,f3⟩
        ·cases F
       ·cases F
      ·cases F
     ·cases F
    ·cases he
   ·cases bQ
  ·cases E
 ·rename_i sz x y t o' X;simp only[cO,eA]at aq;obtain⟨⟨⟨J,U⟩,A⟩,E⟩:=aq;subst J;split at U
  ·rename_i f R;simp only[eA]at U;simp only[fs]at he;generalize NA:cD st.t x=px at he;unfold sP at he;split at he
   ·rename_i eg k n i uM;split at he
    ·rename_i n' el j4 xs ad;split at he
     ·rename_i Ez;obtain⟨rfl,rfl⟩:=Ez;split at he
      ·rename_i q bK;cases he;obtain⟨jt,Z,cp,di,h5⟩:=ay;have rx:=e7 l A;rw[NA]at rx;have N:=e7 l E;have wU:=wY N Z;have wZ:=q5 wU;obtain⟨_,eo⟩:=w6 aL R w;have wB:(a.eval X).cells.size=sz:=by rw[cp]at wZ;simpa using wZ
       obtain⟨bl,off,nR,EB,dx,bm,oN⟩:=l.storeRow (P:=P) ad rx bK jt wU (by simpa[wB]using di) (fun e=>by have:=fC List.length e;simp[wB]at this;omega);refine KH (w':=w.setRow bl nR) ?_ (M _ _ _ oN);simp only[execOp,Instr.storeAt,EB,Instr.sureAddr,storeVar,gm,hs,gA,eo,wB,U,ne_eq,not_true_eq_false,if_false,dx]
      ·cases he
     ·cases he
    ·cases he
   ·cases he
  ·cases U
 ·rename_i d key sz el z x t o' X;simp only[cO,eA,gn]at aq;obtain⟨⟨⟨⟨⟨J,U⟩,A⟩,E⟩,bQ⟩,dh⟩:=aq;subst J;split at A
  ·rename_i gK R;simp only[eA]at A;subst A;split at E
   ·rename_i g bd;simp only[cO,eA,gn]at E;obtain⟨⟨⟨rfl,gj⟩,hby⟩,bz⟩:=E;obtain rfl:=Ry bz;have rx:=e7 l bQ;have N:=e7 l dh;simp only[fs]at he;split at he
    ·rename_i gk n O;cases he;obtain⟨iE,kr⟩:=ay;obtain⟨m,rfl⟩:=Int.eq_ofNat_of_zero_le iE;rw[O]at rx N;simp only[aU]at rx N;obtain⟨r,cv,cf,ao,aC,B,b4,dP,dk,s8,s9⟩:=(w7 aL bd).ex;obtain⟨ek,jI,gi⟩:=jm aL R;obtain rfl:=s7 gi;have nX:m<=lim:=by simp only[lim]at kr⊢;omega
     have tq:r.bytes*m<=281474976710656:=by have J:r.bytes*m<=2048*m:=r8 _ Ω;simp only[lim]at nX;omega
     obtain⟨alx,akt⟩:=Rx w ν s8;obtain⟨w',g1,g2,g3⟩:=run_make_full (P:=P) w w.heap.size t el r cf r.size jI ao dk rfl gk gk m tq (by simp only[maxLen];simp only[lim]at nX;omega) (dO _);have mM:w'.ownsRow w.heap.size el g.size (.slice (some ⟨w.heap.size,0,none⟩) m m) (List.replicate m g.zero).length (madeCells cf.cells (m*cf.cells.size)).toList:=by rw[B,<-s9]at g2;rw[List.length_replicate,<-s9];exact g2
     obtain⟨Y,eE⟩:=l.newRowM (k:=κ) (xs:=List.replicate m g.zero) (.inl (l.new _ (wm rfl))) g3 mM (by rw[<-s9];exact YW alx Ω (CT akt) m) (by simpa using nX) (dA rfl);simp only[List.length_replicate]at Y eE;simp only[Int.toNat_natCast]at M;refine nL (v:= .slice (some ⟨w.heap.size,0,none⟩) m m) (w':=w') ?_ (M _ _ _ (Y.put (d:=some d) (by simpa[j8]using U) (p:= .row g.size κ m) (eE ⟨_,_,rfl⟩)));simp only[execOp];refine Gg ?_;rw[rx,N];exact g1
    ·cases he
   ·cases E
  ·cases A
 ·cases aq
def ark{P:cG}{aS:List (Nat×et)}(e:hR P aS=true){C:fj}{st st':bo}{a:Act}{w:World}{ν:bc}(f:c9 C st a w ν){i:e0}{o:Oper}(aq:FW C.N aS i o=true)
  {c:Prop} (he:nH st i=some (c,st')) (ay:c) {K:Act->World->Prop} {Q:Exit->Act->World->Prop} (b:∀bp w' bm,c9 C st' bp w' bm->K bp w'):o.wp P a w K Q:=by
 have p:rL st none->fresh st.n st.o (.loc st.n):=fun h=>yf (key:=none) h;have q:∀j,fresh (st.n+1) st.o j->fresh st.n st.o j/\j≠ .loc st.n:=yg (key:=none);cases i with
 |v d i=>exact kB (κ:= .loc 0) (n':=0) (o₁:=[]) e f aq (fun h=>by simp[e0.makes]at h) (fun h=>by simp[e0.makes]at h) (by simpa only[nH,fs]using he) ay b
 |box d key x=>simp only[nH]at he;cases he;exact kB (κ:=kx st key) (n':=oT st key) (o₁:=oU st key) e f aq (fun _=>yf ay.1) (fun _=>yg) m6 ay.2 b
 |alloc d key z=>simp only[nH]at he;cases he;exact kB (κ:=kx st key) (n':=oT st key) (o₁:=oU st key) e f aq (fun _=>yf ay) (fun _=>yg) m6 trivial b
 |mks d key sz el z x=>
  simp only[nH]at he;split at he
  ·rename_i gk n g;cases he;exact kB (κ:=kx st key) (n':=oT st key) (o₁:=oU st key) e f aq (fun _=>yf ay.1) (fun _=>yg) (by simp only[fs,g]) ay.2 b
  ·cases he
 |storeE sz x y=>exact kB (κ:= .loc 0) (n':=0) (o₁:=[]) e f aq (fun h=>by simp[e0.makes]at h) (fun h=>by simp[e0.makes]at h) (by simpa only[nH,fs]using he) ay b
 |store sz x y=>exact kB (κ:= .loc 0) (n':=0) (o₁:=[]) e f aq (fun h=>by simp[e0.makes]at h) (fun h=>by simp[e0.makes]at h) (by simpa only[nH,fs]using he) ay b
 |bsl d sz el xs=>simp only[nH]at he;cases he;exact kB (κ:= .loc st.n) (n':=st.n+1) (o₁:=st.o) e f aq (fun _=>p ay.1) (fun _=>q) m6 ay.2 b
 |bslm d key sz el xs=>simp only[nH]at he;cases he;exact kB (κ:=kx st key) (n':=oT st key) (o₁:=oU st key) e f aq (fun _=>yf ay.1) (fun _=>yg) m6 ay.2 b
 |appm d key sz el x y=>
  simp only[nH]at he;split at he
  ·rename_i ys l;cases he;exact kB (κ:=kx st key) (n':=oT st key) (o₁:=oU st key) e f aq (fun _=>yf ay.1) (fun _=>yg) (by simp only[fs,l]) ay.2 b
  ·rename_i k xs ys l;cases he;refine kB (κ:= .loc 0) (n':=0) (o₁:=[]) e f aq (fun h=>?_) (fun h=>?_) (by simp only[fs,l]) ay b;all_goals
    exfalso
    simp only[e0.makes]at h
    split at h
    ·rename_i g
     unfold uC at l
     rw[g]at l
     split at l
     ·split at l<;>cases l
     ·rename_i J _;cases J
     ·cases l
    ·cases h
  ·cases he
 |mkmap d key=>simp only[nH]at he;cases he;exact kB (κ:=kx st key) (n':=oT st key) (o₁:=oU st key) e f aq (fun _=>yf ay) (fun _=>yg) m6 trivial b
 |mput E x k v=>exact kB (κ:= .loc 0) (n':=0) (o₁:=[]) e f aq (fun h=>by simp[e0.makes]at h) (fun h=>by simp[e0.makes]at h) (by simpa only[nH,fs]using he) ay b
 |range d key x=>
  simp only[nH]at he;split at he
  ·rename_i m g;split at he
   ·rename_i cs t;split at he
    ·rename_i cs' hm;cases he;exact kB (κ:=kx st key) (n':=oT st key) (o₁:=oU st key) e f aq (fun _=>yf ay) (fun _=>yg) (by simp only[fs,g,t,hm]) trivial b
    ·cases he
   ·cases he
  ·cases he
 |app d sz el x y=>
  simp only[nH]at he;split at he
  ·rename_i B tag xs A u ys g s;split at he
   ·rename_i r;split at he
    ·rename_i k;split at he
     ·rename_i ow ad;cases he;refine kB (κ:= .loc 0) (n':=0) (o₁:=[]) e f aq (fun h=>by simp[e0.makes,g]at h) (fun h=>by simp[e0.makes,g]at h) ?_ ay b;simp only[fs,g,s,r,and_self,if_true,ad]
     ·cases he
    ·cases he;refine kB (κ:= .loc st.n) (n':=st.n+1) (o₁:=st.o) e f aq (fun _=>p ay.1) (fun _=>q) ?_ ay.2 b;simp only[fs,g,s,r,and_self,if_true]
    ·cases he
   ·cases he
  ·cases he
structure cT where
 b:List (aB×List af)
 e:List (aB×dT)
def ft(ν:bc)(s:cT)(bl:Nat):Prop:=(∃k,(ae k s.b).isSome/\ν.bx k=some bl)\/(∃g n v,(ae g s.e).isSome/\ν.ow g=some (n,v)/\v.ownBlock=some bl)
def pf(ν:bc)(s:cT):Prop:= ∀k,(ae k s.b=none->ν.bx k=none)/\(ae k s.e=none->ν.ow k=none)/\∀j b,¬ν.tr k j b
def cJ(s:cT):List aB:=s.b.map (·.1)++s.e.map (·.1)
def hP(s:cT):Prop:=(∀m,ae (.loc m) s.b=none)/\(∀m,ae (.loc m) s.e=none)
def yO(P:cG)(f:FuncId)(bk:Array Value)(w:World)(R:Ending->World->Prop):Prop:=((∃fn,P.funcs[f]? =some fn/\fn.body.isSome=true/\(fn.name== "runtime.NumGoroutine")=false)/\Calls P f bk w R)\/ ∃v w',(callFunc f bk).run P w= .ok (.value v) w'/\R (.returned v) w'
def bE(P:cG)(f:FuncId)(args:List af)(s:cT)(Q:af->cT->Prop):Prop:=
 ∀(w:World) (ν:bc) (bk:Array Value),Good (ft ν s) w ν s.b s.e->pf ν s->cZ w ν args bk.toList->
  yO P f bk w fun e w'=> ∃v r a bm,e= .returned v/\Q r a/\aU w' bm r v/\Good (fun bl=>ft ν s bl\/w.heap.size<=bl) w' bm a.b a.e/\pf bm a/\hP a/\o3 ⟨w,ν,ft ν s,0,cJ s⟩ w' bm
def Bh(κ:Option Nat)(ν:bc)(s:cT):Prop:= ∀k,(ae k s.b=none->ν.bx k=none)/\(ae k s.e=none->ν.ow k=none)/\∀j b,ν.tr k j b->∃m,κ=some m/\k= .loc m
def pf.k{ν:bc}{s:cT}(h:pf ν s):Bh none ν s:=fun k=>⟨(h k).1,(h k).2.1,fun j b a=>absurd a ((h k).2.2 j b)⟩
def uv(P:cG)(f:FuncId)(κ:Nat)(args:List af)(s:cT)(Q:af->cT->Prop):Prop:=
 ∀(w:World) (ν:bc) (bk:Array Value),Good (ft ν s) w ν s.b s.e->pf ν s->cZ w ν args bk.toList->
  yO P f bk w fun e w'=> ∃v r a bm,e= .returned v/\Q r a/\aU w' bm r v/\Good (fun bl=>ft ν s bl\/w.heap.size<=bl) w' bm a.b a.e/\Bh (some κ) bm a/\hP a/\o3 ⟨w,ν,ft ν s,0,cJ s⟩ w' bm
def bT(P:cG)(f:FuncId)(args:List af)(r:af):Prop:=bE P f args ⟨[],[]⟩ fun a b=>a=r/\b=⟨[],[]⟩
def vc{α:Type}{k:aB}{x:α}:∀{l:List (aB×α)},ae k l=some x->(k,x)∈l
 |[],h=>by simp[ae]at h
 |(i,y)::r,h=>by
  simp only[ae]at h;split at h
  ·rename_i e;subst e;cases h;simp
  ·exact ri _ (vc h)
def rR{s:cT}{k:aB}(h:(ae k s.b).isSome\/(ae k s.e).isSome):k∈cJ s:=by
 unfold cJ;rcases h with h|h<;>obtain⟨x,a⟩:=fy.1 h<;>have:=vc a
 ·exact List.mem_append_left _ (hc.2 ⟨_,this,rfl⟩)
 ·exact List.mem_append_right _ (hc.2 ⟨_,this,rfl⟩)
section
open Classical
noncomputable def bc.cut(ν:bc)(S:aB->Prop):bc:={A:=ν.A,bx:=fun k=>if S k then ν.bx k else none,ow:=fun k=>if S k then ν.ow k else none,tr:=fun k j b=>S k/\ν.tr k j b}
def bc.cut_bx{ν:bc}{S:aB->Prop}{k:aB}(h:S k):(ν.cut S).bx k=ν.bx k:=by simp[bc.cut,h]
def bc.cut_ow{ν:bc}{S:aB->Prop}{k:aB}(h:S k):(ν.cut S).ow k=ν.ow k:=by simp[bc.cut,h]
def bc.cut_no{ν:bc}{S:aB->Prop}{k:aB}(h:¬S k):(ν.cut S).bx k=none/\(ν.cut S).ow k=none/\∀j b,¬(ν.cut S).tr k j b:=by simp[bc.cut,h]
def bc.cut_some{ν:bc}{S:aB->Prop}{k:aB}{b:Nat}(h:(ν.cut S).bx k=some b):S k/\ν.bx k=some b:=by
 by_cases a:S k
 ·exact⟨a,by rw[bc.cut_bx a]at h;exact h⟩
 ·rw[(bc.cut_no a).1]at h;cases h
def bc.cut_someO{ν:bc}{S:aB->Prop}{k:aB}{b:Nat×Value}(h:(ν.cut S).ow k=some b):S k/\ν.ow k=some b:=by
 by_cases a:S k
 ·exact⟨a,by rw[bc.cut_ow a]at h;exact h⟩
 ·rw[(bc.cut_no a).2.1]at h;cases h
def ov.cut(S:aB->Prop)(w:World)(ν:bc):ov S w ν w (ν.cut S):=⟨fun _ _ h=>⟨h,rfl⟩,fun k b ad h=>by rw[bc.cut_bx ad];exact h,fun g n u bd h=>⟨n,u,by rw[bc.cut_ow bd];exact h,.inl ⟨rfl,rfl⟩⟩,fun _ _ _=>rfl,fun _ _ _ ad h=>⟨ad,h⟩⟩
end
def hA(S:aB->Prop)(b0 b:List (aB×List af)):Prop:= ∀k cs,ae k b0=some cs->ae k b=some cs/\S k/\aH S cs
def qo(S:aB->Prop)(a e:List (aB×dT)):Prop:= ∀k o,ae k a=some o->ae k e=some o/\S k/\dW S o
def Good.cut{pr E:Nat->Prop}{w:World}{ν:bc}{b b0:List (aB×List af)}{e l:List (aB×dT)}(h:Good pr w ν b e){S:aB->Prop}(A:hA S b0 b)(he:qo S l e)
  (B:∀bl,pr bl->(∃k,(ae k b0).isSome/\(ν.cut S).bx k=some bl)\/(∃g n v,(ae g l).isSome/\(ν.cut S).ow g=some (n,v)/\v.ownBlock=some bl)->E bl):Good E w (ν.cut S) b0 l:=by
 have i:∀k,(ae k b0).isSome->(ae k b).isSome/\S k:=fun k ad=>by obtain⟨cs,r⟩:=fy.1 ad;have:=A k cs r;exact⟨by simp[this.1],this.2.1⟩
 have p:∀k,(ae k l).isSome->(ae k e).isSome/\S k:=fun k ad=>by obtain⟨cs,r⟩:=fy.1 ad;have:=he k cs r;exact⟨by simp[this.1],this.2.1⟩
 refine⟨h.alt,fun k cs ad=>?_,fun k bs bl J U d f=>?_,fun g o bd=>?_,fun g y n n' v v' bl J U d f s F=>?_,fun g k n v bl J U d f s=>?_,fun k=>?_,fun bl H k j G=>?_⟩
 ·obtain⟨g1,g2,g3⟩:=A k cs ad;obtain⟨bl,us,el,f1,f2,f3,f4,f5⟩:=h.box k cs g1;have x:(ν.cut S).bx k=some bl:=by rw[bc.cut_bx g2];exact f1
  exact⟨bl,us,el,x,B bl f2 (.inl ⟨k,by simp[ad],x⟩),f3,f4,Qg (ov.cut S w ν) g3 f5⟩
 ·obtain⟨a,a2⟩:=i k J;obtain⟨c,z⟩:=i bs U;exact h.inj k bs bl a c (bc.cut_some d).2 (bc.cut_some f).2
 ·obtain⟨g1,g2,g3⟩:=he g o bd;obtain⟨v,us,f1,f2,f3,f4⟩:=h.own g o g1;have u:(ν.cut S).ow g=some (o.n,v):=by rw[bc.cut_ow g2];exact f1
  exact⟨v,us,u,f2,fun bl q=>⟨B bl (f3 bl q).1 (.inr ⟨g,o.n,v,by simp[bd],u,q⟩),(f3 bl q).2⟩,
   fun xs m=>⟨(f4 xs m).1,JT (ov.cut S w ν) _ _ _ (g3 xs m) (f4 xs m).2.1,(f4 xs m).2.2⟩⟩
 ·obtain⟨a,a2⟩:=p g J;obtain⟨c,z⟩:=p y U;exact h.oinj g y n n' v v' bl a c (bc.cut_someO d).2 (bc.cut_someO f).2 s F
 ·obtain⟨a,a2⟩:=p g J;obtain⟨c,z⟩:=i k U;exact h.obx g k n v bl a c (bc.cut_someO d).2 f (bc.cut_some s).2
 ·by_cases t:S k
  ·rw[bc.cut_bx t,bc.cut_ow t];exact h.one k
  ·exact .inl (bc.cut_no t).1
 ·refine h.otr bl ?_ k j G.2;rcases H with⟨bs,a,a2⟩|⟨g,n,v,a,a2,a3⟩
  ·exact .inl ⟨bs,(i bs a).1,(bc.cut_some a2).2⟩
  ·exact .inr ⟨g,n,v,(p g a).1,(bc.cut_someO a2).2,a3⟩
structure gq (ob:List aB) (st st':bo):Prop where
 t:∀x∈st'.t,get x.1 st.t=x.2/\aA (fun k=> ¬fresh st'.n st'.o k) x.2
 b:hA (fun k=> ¬fresh st'.n st'.o k) st'.b st.b
 e:qo (fun k=> ¬fresh st'.n st'.o k) st'.e st.e
 o:∀m∈ob,m∈st'.o
def Wo:∀(i:Nat) (l:List (Nat×af)),get i l= .junk\/(i,get i l)∈l
 |_,[]=>.inl rfl
 |i,(j,p)::r=>by
  by_cases h:j=i
  ·subst h;right;simp[get]
  ·rcases Wo i r with J|J
   ·left;simp[get,h,J]
   ·right;simp[get,h];right;exact J
def c9.weaker{C:fj}{st st':bo}{a:Act}{w:World}{ν:bc}(h:c9 C st a w ν)(hw:gq C.ob st st'):c9 C st' a w (ν.cut fun k=> ¬fresh st'.n st'.o k):=by
 refine⟨h.good.cut hw.b hw.e (fun bl e _=>e),⟨h.fr.os,h.fr.tape,h.fr.output,h.fr.size,h.fr.block,h.fr.keep,h.fr.fresh,fun n b c=>?_,h.fr.obn,fun m n u hm=>?_,h.fr.obr,fun k j bs dg b J U=>h.fr.trd k j bs dg b J.2 U.2,fun k j b c=>h.fr.trb k j b c.2,fun k j b c=>?_,h.fr.sh⟩,h.defers,h.size,fun i=>?_,fun k ad=>bc.cut_no (fun f=>f ad)⟩
 ·rw[bc.cut_bx (fun d=>d.2 (hw.o _ (h.fr.obn n b c)))];exact h.fr.obj n b c
 ·rw[bc.cut_ow (fun d=>d.2 (hw.o _ (h.fr.obr m n u hm)))];exact h.fr.row m n u hm
 ·rw[bc.cut_bx c.1,bc.cut_ow c.1];exact h.fr.trn k j b c.2
 ·rcases Wo i st'.t with g|hm
  ·rw[g];simp[aU]
  ·obtain⟨J,U⟩:=hw.t _ hm;simp only at J;have:=h.slot i;rw[J]at this;exact kL (ov.cut _ w ν) _ _ U this
mutual
def b3:af->af
 | .slice sz _ xs=>.slice sz .no (b9 xs)
 | .agg cs=>.agg (b9 cs)
 | .tuple bk=>.tuple (b9 bk)
 | .eptr x=>.eptr (b3 x)
 | .iface t x=>.iface t (b3 x)
 | .func f dH=>.func f (b9 dH)
 |p=>p
def b9:List af->List af
 |[]=>[]
 |x::xs=>b3 x::b9 xs
end
def mu:∀xs,(b9 xs).length=xs.length
 |[]=>rfl
 |x::xs=>by simp[b9,mu xs]
mutual
def HH{t:Bool}{w:World}{A:Nat->Nat->Prop}:∀(p:af) (F:Nat->Prop) (v:Value),c2 t w A F p v->c2 t w A F (b3 p) v
 | .int _ _,_,_,h=>by simpa only[b3]using h
 | .bool _,_,_,h=>by simpa only[b3]using h
 | .str _,_,_,h=>by simpa only[b3]using h
 | .slice sz tag xs,F,v,h=>by
  simp only[c2,b3]at h⊢;obtain⟨a,cap,J,U,g,j⟩:=h;refine⟨a,cap,by rw[mu];exact J,by rw[mu];exact U,by rw[mu];exact g,?_⟩;rcases j with rfl|⟨b,off,us,G,i,k,e,f,d,c⟩
  ·exact .inl rfl
  ·exact .inr ⟨b,off,us,G,i,k,e,f,d,V4 sz xs G us c⟩
 | .agg cs,F,v,h=>by simp only[c2,b3]at h⊢;obtain⟨us,J,U⟩:=h;exact⟨us,J,V5 cs F _ U⟩
 | .junk,_,_,h=>by simp[c2]at h
 | .ptr _ _,_,_,h=>by simp[c2]at h
 | .eptr _,_,_,h=>by simp[c2]at h
 | .iface _ _,_,_,h=>by simp[c2]at h
 | .nilp,_,_,h=>by simp[c2]at h
 | .tuple _,_,_,h=>by simp[c2]at h
 | .func _ _,_,_,h=>by simp[c2]at h
 | .gmap _,_,_,h=>by simp[c2]at h
 | .row _ _ _,_,_,h=>by simp[c2]at h
 | .rptr _ _ _ _ _,_,_,h=>by simp[c2]at h
 | .hdm _ _,_,_,h=>by simp[c2]at h
 | .hdi _ _ _,_,_,h=>by simp[c2]at h
 | .cst _,_,_,h=>by simp[c2]at h
def V5{t:Bool}{w:World}{A:Nat->Nat->Prop}:∀(cs:List af) (F:Nat->Prop) (us:List Value),kF t w A F cs us->kF t w A F (b9 cs) us
 |[],_,_,h=>by simpa only[b9]using h
 |c::cs,F,us,h=>by simp only[kF,b9]at h⊢;obtain⟨u,d,b,a,J,U,⟨g,f⟩,e⟩:=h;exact⟨u,d,b,a,J,U,⟨HH c b u g,f⟩,V5 cs a d e⟩
def V4{t:Bool}{w:World}{A:Nat->Nat->Prop}(sz:Nat):∀(cs:List af) (F:Nat->Prop) (us:List Value),jX t w A F sz cs us->jX t w A F sz (b9 cs) us
 |[],_,_,h=>by simpa only[b9]using h
 |c::cs,F,us,h=>by simp only[jX,b9]at h⊢;obtain⟨u,d,b,a,J,U,⟨g,f⟩,e⟩:=h;exact⟨u,d,b,a,J,U,⟨HH c b u g,f⟩,V4 sz cs a d e⟩
end
def D3{t:Bool}{w:World}{A:Nat->Nat->Prop}{F:Nat->Prop}{sz:Nat}{tag:jF}(a:jF){xs:List af}(v:Value)(h:c2 t w A F (.slice sz tag xs) v):c2 t w A F (.slice sz a (b9 xs)) v:=by have:=HH _ F v h;simp only[b3,c2]at this⊢;exact this
mutual
def lC{w:World}{ν:bc}:∀(p:af) (v:Value),aU w ν p v->aU w ν (b3 p) v
 | .junk,_,h=>by simpa only[b3]using h
 | .int k n,_,h=>by simpa only[b3]using h
 | .bool b,_,h=>by simpa only[b3]using h
 | .str s,_,h=>by simpa only[b3]using h
 | .slice sz tag xs,v,h=>by
  simp only[aU,b3]at h⊢;obtain⟨⟨a,cap,J,U,c,d⟩,l,i⟩:=h;refine⟨⟨a,cap,by rw[mu];exact J,by rw[mu];exact U,by rw[mu];exact c,?_⟩,fun e=>(by cases e),fun g e=>(by cases e),fun _ _ e=>(by cases e),fun _ e=>(by cases e)⟩;rcases d with rfl|⟨b,off,us,d,i,j⟩
  ·exact .inl rfl
  ·exact .inr ⟨b,off,us,d,i,abK sz xs us j⟩
 | .agg cs,v,h=>by simp only[aU,b3]at h⊢;obtain⟨us,J,U⟩:=h;exact⟨us,J,abO cs _ U⟩
 | .ptr key off,v,h=>by simpa only[b3]using h
 | .iface t x,v,h=>by simp only[aU,b3]at h⊢;obtain⟨u,J,U⟩:=h;exact⟨u,J,lC x u U⟩
 | .eptr x,v,h=>by simp only[aU,b3]at h⊢;obtain⟨b,off,u,J,U,c⟩:=h;exact⟨b,off,u,J,lC x u U,c⟩
 | .nilp,_,h=>by simpa only[b3]using h
 | .tuple bk,v,h=>by simp only[aU,b3]at h⊢;obtain⟨us,J,U⟩:=h;exact⟨us,J,JZ bk _ U⟩
 | .func f dH,v,h=>by simp only[aU,b3]at h⊢;obtain⟨us,J,U⟩:=h;exact⟨us,J,JZ dH _ U⟩
 | .gmap key,v,h=>by simpa only[b3]using h
 | .row _ _ _,v,h=>by simpa only[b3]using h
 | .rptr _ _ _ _ _,v,h=>by simpa only[b3]using h
 | .cst _,v,h=>by simpa only[b3]using h
def abO{w:World}{ν:bc}:∀(cs:List af) (us:List Value),cW w ν cs us->cW w ν (b9 cs) us
 |[],_,h=>by simpa only[b9]using h
 |c::cs,us,h=>by simp only[cW,b9]at h⊢;obtain⟨u,a,J,U,b⟩:=h;exact⟨u,a,J,⟨lC c u U.1,U.2⟩,abO cs a b⟩
def JZ{w:World}{ν:bc}:∀(cs:List af) (us:List Value),cZ w ν cs us->cZ w ν (b9 cs) us
 |[],_,h=>by simpa only[b9]using h
 |c::cs,us,h=>by simp only[cZ,b9]at h⊢;obtain⟨u,a,J,U,b⟩:=h;exact⟨u,a,J,lC c u U,JZ cs a b⟩
def abK{w:World}{ν:bc}(sz:Nat):∀(xs:List af) (us:List Value),dv w ν sz xs us->dv w ν sz (b9 xs) us
 |[],_,h=>by simpa only[b9]using h
 |x::xs,us,h=>by simp only[dv,b9]at h⊢;obtain⟨u,a,J,⟨U,c,d⟩,b⟩:=h;exact⟨u,a,J,⟨lC x u U,c,d⟩,abK sz xs a b⟩
end
def aM(s:cT)(k:aB):Prop:=(ae k s.b).isSome=true\/(ae k s.e).isSome=true
def cH{α β:Type}(s:List (aB×β)):List (aB×α)->List (aB×α)
 |[]=>[]
 |(k,x)::r=>match ae k s with
  |some _=>cH s r
  |none=>(k,x)::cH s r
def tQ{α β:Type}(s:List (aB×β))(k:aB):∀l:List (aB×α),ae k (cH s l)=if(ae k s).isSome then none else ae k l
 |[]=>by simp[cH,ae]
 |(i,x)::r=>by
  simp only[cH];by_cases e:i=k
  ·subst e;cases h:ae i s with
   |some y=>simp[tQ s i r,h]
   |none=>simp[ae]
  ·cases h:ae i s with
   |some y=>simp[tQ s k r,ae,e]
   |none=>simp[ae,e,tQ s k r]
def oa{α:Type}(k:aB):∀l a:List (aB×α),ae k (l++a)=match ae k l with|some x=>some x|none=>ae k a
 |[],a=>by simp[ae]
 |(i,x)::r,a=>by
  by_cases e:i=k
  ·simp[ae,e]
  ·simp[ae,e,oa k r a]
def after(st:bo)(s a:cT)(d:Option Nat)(r:af):bo:={t:=e9 d r st.t,b:=cH s.b st.b++a.b,e:=cH s.e st.e++a.e,n:=st.n,o:=st.o++cJ a}
section
open Classical
noncomputable def bc.join(ν bm:bc)(s a:cT):bc:={A:=bm.A,bx:=fun k=>if(ae k s.b).isSome\/(ae k a.b).isSome then bm.bx k else ν.bx k,ow:=fun k=>if(ae k s.e).isSome\/(ae k a.e).isSome then bm.ow k else ν.ow k,tr:=fun k j b=>ν.tr k j b\/bm.tr k j b}
end
def c9.callK{C:fj}{st:bo}{a:Act}{w w':World}{ν bm:bc}(h:c9 C st a w ν){s c:cT}(B:hA (aM s) s.b st.b)(he:qo (aM s) s.e st.e)(rE:hP s)
  (bd:Good (fun bl=>ft (ν.cut (aM s)) s bl\/w.heap.size<=bl) w' bm c.b c.e) {κ:Option Nat} (X:Bh κ bm c) (alV:∀m,κ=some m->ν.bx (.loc m)=none/\ν.ow (.loc m)=none/\∀j b,¬ν.tr (.loc m) j b) {n':Nat} {o':List aB} (dA:∀k,fresh n' o' k->fresh st.n (st.o++cJ c) k/\∀m,κ=some m->k≠ .loc m) (P:hP c) (E:o3 ⟨w,ν.cut (aM s),ft (ν.cut (aM s)) s,0,cJ s⟩ w' bm)
  (Ns:∀m,(ae (.obj m) c.b).isSome->(ae (.obj m) s.b).isSome\/ .obj m∉st.o) (cw:∀m,(ae (.obj m) c.e).isSome->(ae (.obj m) s.e).isSome\/ .obj m∉st.o) (d:Option Nat) (aK:j8 C.N d=true) {r:af} {v:Value} (aJ:aU w' bm r v):
  c9 C {after st s c d r with n:=n',o:=o'} (a.put d v) w' (ν.join bm s c):=by
 have S:∀k,(ae k s.b).isSome->(ae k st.b).isSome:=fun k ad=>by obtain⟨cs,q⟩:=fy.1 ad;simp[(B k cs q).1]
 have V:∀k,(ae k s.e).isSome->(ae k st.e).isSome:=fun k ad=>by obtain⟨cs,q⟩:=fy.1 ad;simp[(he k cs q).1]
 have alf:∀k,(ae k c.b).isSome->¬(ae k s.b).isSome->ν.bx k=none:=fun k ad aw=>by
  cases k with
  |loc m=>rw[P.1 m]at ad;cases ad
  |obj m=>exact(h.new (.obj m) ⟨trivial,(Ns m ad).resolve_left aw⟩).1
 have alg:∀k,(ae k c.e).isSome->¬(ae k s.e).isSome->ν.ow k=none:=fun k ad aw=>by
  cases k with
  |loc m=>rw[P.2 m]at ad;cases ad
  |obj m=>exact(h.new (.obj m) ⟨trivial,(cw m ad).resolve_left aw⟩).2.1
 have amp:∀k,(ae k s.b).isSome->(ν.join bm s c).bx k=bm.bx k:=fun k ad=>by simp[bc.join,ad]
 have XW:∀k,(ae k c.b).isSome->(ν.join bm s c).bx k=bm.bx k:=fun k ad=>by simp[bc.join,ad]
 have XX:∀k,ν.bx k≠none->¬(ae k s.b).isSome->(ν.join bm s c).bx k=ν.bx k:=fun k J U=>by have y:¬(ae k c.b).isSome:=fun y=>J (alf k y U);simp[bc.join,U,y]
 have amq:∀k,(ae k s.e).isSome->(ν.join bm s c).ow k=bm.ow k:=fun k ad=>by simp[bc.join,ad]
 have Oa:∀k,(ae k c.e).isSome->(ν.join bm s c).ow k=bm.ow k:=fun k ad=>by simp[bc.join,ad]
 have Ob:∀k,ν.ow k≠none->¬(ae k s.e).isSome->(ν.join bm s c).ow k=ν.ow k:=fun k J U=>by have y:¬(ae k c.e).isSome:=fun y=>J (alg k y U);simp[bc.join,U,y]
 have adJ:∀k b,bm.bx k=some b->(ae k c.b).isSome:=fun k b ad=>by
  cases R:ae k c.b with
  |some _=>rfl
  |none=>rw[(X k).1 R]at ad;cases ad
 have adK:∀k b,bm.ow k=some b->(ae k c.e).isSome:=fun k b ad=>by
  cases R:ae k c.e with
  |some _=>rfl
  |none=>rw[(X k).2.1 R]at ad;cases ad
 have aq:mB w ν w' (ν.join bm s c):=by
  refine⟨fun b o M=>E.keep b o M,fun k b _ ad=>?_,fun g n u _ bd=>?_,fun b o M=>E.sh b o M,fun _ _ _ _ h=>.inl h⟩
  ·by_cases A:(ae k s.b).isSome
   ·rw[amp k A];cases k with
    |loc m=>rw[rE.1 m]at A;cases A
    |obj m=>exact E.obj m b (by rw[bc.cut_bx (.inl A)];exact ad)
   ·rw[XX k (by rw[ad];simp) A];exact ad
  ·by_cases A:(ae g s.e).isSome
   ·rw[amq g A];cases g with
    |loc m=>rw[rE.2 m]at A;cases A
    |obj m=>exact E.row m n u (by rw[bc.cut_ow (.inr A)];exact bd)
   ·rw[Ob g (by rw[bd];simp) A];exact⟨n,u,bd,.inl ⟨rfl,rfl⟩⟩
 have h6:mB w' bm w' (ν.join bm s c):=⟨fun b o M=>⟨M,rfl⟩,fun k b _ ad=>by rw[XW k (adJ k b ad)];exact ad,fun g n u _ ad=>⟨n,u,by rw[Oa g (adK g _ ad)];exact ad,.inl ⟨rfl,rfl⟩⟩,fun _ _ _=>rfl,fun _ _ _ _ h=>.inr h⟩
 have p4:∀bl,ft (ν.cut (aM s)) s bl->C.pr bl/\bl<w.heap.size:=by
  intro bl F;rcases F with⟨k,J,U⟩|⟨g,n,u,J,U,y⟩
  ·have z:=(bc.cut_some U).2;obtain⟨cs,q⟩:=fy.1 (S k J);obtain⟨K,us,el,g1,g2,_⟩:=h.good.box k cs q;rw[z]at g1;cases g1;exact⟨g2,h.good.boxLt q z⟩
  ·have z:=(bc.cut_someO U).2;obtain⟨o,H8⟩:=fy.1 (V g J);obtain⟨v',us,g1,g2,g3,_⟩:=h.good.own g o H8;rw[z]at g1;cases g1;exact⟨(g3 bl y).1,h.good.ownLt H8 z y⟩
 have Xp:∀bl,ft (ν.cut (aM s)) s bl\/w.heap.size<=bl->C.pr bl:=fun bl F=>by
  rcases F with F|F
  ·exact(p4 bl F).1
  ·exact .inr (kg h.fr.size F)
 have alD:∀k cs bl,ae k st.b=some cs->¬(ae k s.b).isSome->ν.bx k=some bl->¬ft (ν.cut (aM s)) s bl:=by
  intro k cs bl J U y z;rcases z with⟨bs,i,a2⟩|⟨g,n,u,i,a2,a3⟩
  ·have:=h.good.inj k bs bl (by simp[J]) (S bs i) y (bc.cut_some a2).2;subst this;exact U i
  ·exact h.good.obx g k n u bl (V g i) (by simp[J]) (bc.cut_someO a2).2 a3 y
 have alE:∀g o n u bl,ae g st.e=some o->¬(ae g s.e).isSome->ν.ow g=some (n,u)->u.ownBlock=some bl->¬ft (ν.cut (aM s)) s bl:=by
  intro g o n u bl J U y z G;rcases G with⟨bs,i,a2⟩|⟨W,n',Z,i,a2,a3⟩
  ·exact h.good.obx g bs n u bl (by simp[J]) (S bs i) y z (bc.cut_some a2).2
  ·have:=h.good.oinj g W n n' u Z bl (by simp[J]) (V W i) y (bc.cut_someO a2).2 z a3;subst this;exact U i
 have Up:∀k cs,ae k (cH s.b st.b++c.b)=some cs->(¬(ae k s.b).isSome/\ae k st.b=some cs)\/ae k c.b=some cs:=by
  intro k cs ad;rw[oa,tQ]at ad;by_cases A:(ae k s.b).isSome
  ·simp only[A,if_true]at ad;exact .inr ad
  ·simp only[A]at ad;cases R:ae k st.b with
   |some x=>simp[R]at ad;subst ad;exact .inl ⟨A,rfl⟩
   |none=>simp[R]at ad;exact .inr ad
 have Uq:∀k cs,ae k (cH s.e st.e++c.e)=some cs->(¬(ae k s.e).isSome/\ae k st.e=some cs)\/ae k c.e=some cs:=by
  intro k cs ad;rw[oa,tQ]at ad;by_cases A:(ae k s.e).isSome
  ·simp only[A,if_true]at ad;exact .inr ad
  ·simp only[A]at ad;cases R:ae k st.e with
   |some x=>simp[R]at ad;subst ad;exact .inl ⟨A,rfl⟩
   |none=>simp[R]at ad;exact .inr ad
 have C0:∀bl,ft (ν.cut (aM s)) s bl\/w.heap.size<=bl->∀K,K<w.heap.size->¬ft (ν.cut (aM s)) s K->bl≠K:=by
  intro bl J K U y e;subst e;rcases J with J|J
  ·exact y J
  ·omega
 have Oe:∀bl,bl<w.heap.size->¬ft (ν.cut (aM s)) s bl->w'.heap[bl]? =w.heap[bl]?:=fun bl J U=>E.block bl J U;have isB:∀k bl,(ae k (cH s.b st.b++c.b)).isSome->(ν.join bm s c).bx k=some bl->(¬(ae k s.b).isSome/\(ae k st.b).isSome/\ν.bx k=some bl)\/((ae k c.b).isSome/\bm.bx k=some bl):=by
  intro k bl ad L;obtain⟨cs,q⟩:=fy.1 ad;rcases Up k cs q with⟨J,U⟩|J
  ·obtain⟨K,us,el,g1,_⟩:=h.good.box k cs U;rw[XX k (by rw[g1];simp) J]at L;exact .inl ⟨J,by simp[U],L⟩
  ·rw[XW k (by simp[J])]at L;exact .inr ⟨by simp[J],L⟩
 have Iv:∀k x,(ae k (cH s.e st.e++c.e)).isSome->(ν.join bm s c).ow k=some x->(¬(ae k s.e).isSome/\(ae k st.e).isSome/\ν.ow k=some x)\/((ae k c.e).isSome/\bm.ow k=some x):=by
  intro k x ad L;obtain⟨cs,q⟩:=fy.1 ad;rcases Uq k cs q with⟨J,U⟩|J
  ·obtain⟨v',us,g1,_⟩:=h.good.own k cs U;rw[Ob k (by rw[g1];simp) J]at L;exact .inl ⟨J,by simp[U],L⟩
  ·rw[Oa k (by simp[J])]at L;exact .inr ⟨by simp[J],L⟩
 have DB:∀k bl,¬(ae k s.b).isSome->(ae k st.b).isSome->ν.bx k=some bl->bl<w.heap.size/\¬ft (ν.cut (aM s)) s bl:=by intro k bl J U y;obtain⟨cs,q⟩:=fy.1 U;exact⟨h.good.boxLt q y,alD k cs bl q J y⟩
 have Y:∀k n u bl,¬(ae k s.e).isSome->(ae k st.e).isSome->ν.ow k=some (n,u)->u.ownBlock=some bl->bl<w.heap.size/\¬ft (ν.cut (aM s)) s bl:=by intro k n u bl J U y z;obtain⟨cs,q⟩:=fy.1 U;exact⟨h.good.ownLt q y z,alE k cs n u bl q J y z⟩
 have GL:∀k bl,(ae k c.b).isSome->bm.bx k=some bl->ft (ν.cut (aM s)) s bl\/w.heap.size<=bl:=by intro k bl J U;obtain⟨cs,q⟩:=fy.1 J;obtain⟨K,us,el,g1,g2,_⟩:=bd.box k cs q;rw[U]at g1;cases g1;exact g2
 have J3:∀k n u bl,(ae k c.e).isSome->bm.ow k=some (n,u)->u.ownBlock=some bl->ft (ν.cut (aM s)) s bl\/w.heap.size<=bl:=by intro k n u bl J U y;obtain⟨cs,q⟩:=fy.1 J;obtain⟨v',us,g1,g2,g3,_⟩:=bd.own k cs q;rw[U]at g1;cases g1;exact(g3 bl y).1
 have M:∀bl o,bm.A bl o->bl<w.heap.size->¬ft (ν.cut (aM s)) s bl->ν.A bl o:=by
  intro bl o J U y;rcases E.fresh bl o J with z|z|z
  ·exact z
  ·exact absurd z y
  ·simp only at z;omega
 have oN:c9 C {t:=st.t,b:=cH s.b st.b++c.b,e:=cH s.e st.e++c.e,n:=n',o:=o'} a w' (ν.join bm s c):=by
  refine h.over aq rfl ⟨bd.alt,fun k cs ad=>?_,fun k bs bl J U y z=>?_,fun g o fm=>?_,fun g W n n' u Z bl J U y z G dh=>?_,fun g k n u bl J U y z G=>?_,fun k=>?_,fun bl aL k j hM=>?_⟩
   ⟨E.os.trans h.fr.os,E.tape.trans h.fr.tape,E.output.trans h.fr.output,kg h.fr.size E.size,fun k ad hm=>?_,fun b o Q=>?_,fun b o Q=>?_,fun n b aw=>aq.bx _ _ trivial (h.fr.obj n b aw),h.fr.obn,
    fun m n u hm=>FR (h.fr.row m n u hm) (fun n u=>aq.ow _ n u trivial),h.fr.obr,fun k j bs dg b J U=>?_,fun k j b B=>?_,fun k j b B=>?_,fun b o M=>(aq.sh b o (h.fr.keep b o M).1).trans (h.fr.sh b o M)⟩ (fun k ad=>?_)
  ·rcases Up k cs ad with⟨J,U⟩|J
   ·obtain⟨bl,us,el,g1,g2,g3,g4,g5⟩:=h.good.box k cs U;obtain⟨l,p⟩:=DB k bl J (by simp[U]) g1;exact⟨bl,us,el,aq.bx _ _ trivial g1,g2,fun o Q=>g3 o (M bl o Q l p),by rw[Oe bl l p];exact g4,rU aq g5⟩
   ·obtain⟨bl,us,el,g1,g2,g3,g4,g5⟩:=bd.box k cs J;exact⟨bl,us,el,h6.bx _ _ trivial g1,Xp bl g2,g3,g4,rU h6 g5⟩
  ·rcases isB k bl J y with⟨i,a2,a3⟩|⟨i,a2⟩<;>rcases isB bs bl U z with⟨l,p,H⟩|⟨l,p⟩
   ·exact h.good.inj k bs bl a2 p a3 H
   ·obtain⟨O,N⟩:=DB k bl i a2 a3;exact absurd rfl (C0 bl (GL bs bl l p) bl O N)
   ·obtain⟨O,N⟩:=DB bs bl l p H;exact absurd rfl (C0 bl (GL k bl i a2) bl O N)
   ·exact bd.inj k bs bl i l a2 p
  ·rcases Uq g o fm with⟨J,U⟩|J
   ·obtain⟨u,us,g1,g2,g3,g4⟩:=h.good.own g o U;refine⟨u,us,by rw[Ob g (by rw[g1];simp) J];exact g1,⟨g2.1,?_⟩,fun bl F=>?_,ue aq (fun bl F j Q=>?_) g4⟩
    ·rcases g2.2 with aC|⟨bb,cap,cur,f1,f2,f3,f4⟩
     ·exact .inl aC
     ·obtain⟨l,p⟩:=Y g _ u bb J (by simp[U]) g1 (by rw[f1];rfl);exact .inr ⟨bb,cap,cur,f1,f2,by rw[Oe bb l p];exact f3,f4⟩
    ·obtain⟨l,p⟩:=Y g _ u bl J (by simp[U]) g1 F;exact⟨(g3 bl F).1,fun j Q=>(g3 bl F).2 j (M bl j Q l p)⟩
    ·obtain⟨l,p⟩:=Y g _ u bl J (by simp[U]) g1 F;exact M bl j Q l p
   ·obtain⟨u,us,g1,g2,g3,g4⟩:=bd.own g o J;exact⟨u,us,by rw[Oa g (by simp[J])];exact g1,g2,fun bl F=>⟨Xp bl (g3 bl F).1,(g3 bl F).2⟩,ue h6 (fun _ _ _ h=>h) g4⟩
  ·rcases Iv g _ J y with⟨i,a2,a3⟩|⟨i,a2⟩<;>rcases Iv W _ U z with⟨l,p,H⟩|⟨l,p⟩
   ·exact h.good.oinj g W n n' u Z bl a2 p a3 H G dh
   ·obtain⟨O,N⟩:=Y g n u bl i a2 a3 G;exact absurd rfl (C0 bl (J3 W n' Z bl l p dh) bl O N)
   ·obtain⟨O,N⟩:=Y W n' Z bl l p H dh;exact absurd rfl (C0 bl (J3 g n u bl i a2 G) bl O N)
   ·exact bd.oinj g W n n' u Z bl i l a2 p G dh
  ·rcases Iv g _ J y with⟨i,a2,a3⟩|⟨i,a2⟩<;>rcases isB k bl U G with⟨l,p,H⟩|⟨l,p⟩
   ·exact h.good.obx g k n u bl a2 p a3 z H
   ·obtain⟨O,N⟩:=Y g n u bl i a2 a3 z;exact absurd rfl (C0 bl (GL k bl l p) bl O N)
   ·obtain⟨O,N⟩:=DB k bl l p H;exact absurd rfl (C0 bl (J3 g n u bl i a2 z) bl O N)
   ·exact bd.obx g k n u bl i l a2 z p
  ·
   cases L:(ν.join bm s c).bx k with
   |none=>exact .inl rfl
   |some bl=>
    right;cases sy:(ν.join bm s c).ow k with
    |none=>rfl
    |some x=>
     exfalso;have ao:(ν.bx k=some bl/\¬(ae k s.b).isSome/\¬(ae k c.b).isSome)\/bm.bx k=some bl:=by
      by_cases A:(ae k s.b).isSome\/(ae k c.b).isSome
      ·right;simpa[bc.join,A]using L
      ·left;simp only[not_or]at A;exact⟨by simpa[bc.join,A.1,A.2]using L,A.1,A.2⟩
     have aC:(ν.ow k=some x/\¬(ae k s.e).isSome/\¬(ae k c.e).isSome)\/bm.ow k=some x:=by
      by_cases A:(ae k s.e).isSome\/(ae k c.e).isSome
      ·right;simpa[bc.join,A]using sy
      ·left;simp only[not_or]at A;exact⟨by simpa[bc.join,A.1,A.2]using sy,A.1,A.2⟩
     rcases ao with⟨i,a2,a3⟩|i<;>rcases aC with⟨l,p,H⟩|l
     ·rcases h.good.one k with f|f
      ·rw[f]at i;cases i
      ·rw[f]at l;cases l
     ·have wu:=adK k x l;have gd:(ae k s.e).isSome:=by
       cases k with
       |loc m=>rw[P.2 m]at wu;cases wu
       |obj m=>
        rcases cw m wu with f|f
        ·exact f
        ·rw[(h.new (.obj m) ⟨trivial,f⟩).1]at i;cases i
      obtain⟨o,H8⟩:=fy.1 (V k gd);obtain⟨v',us,g1,_⟩:=h.good.own k o H8;rcases h.good.one k with f|f
      ·rw[f]at i;cases i
      ·rw[f]at g1;cases g1
     ·have zz:=adJ k bl i;have gd:(ae k s.b).isSome:=by
       cases k with
       |loc m=>rw[P.1 m]at zz;cases zz
       |obj m=>
        rcases Ns m zz with f|f
        ·exact f
        ·rw[(h.new (.obj m) ⟨trivial,f⟩).2.1]at l;cases l
      obtain⟨cs,q⟩:=fy.1 (S k gd);obtain⟨K,us,el,g1,_⟩:=h.good.box k cs q;rcases h.good.one k with f|f
      ·rw[f]at g1;cases g1
      ·rw[f]at l;cases l
     ·rcases bd.one k with f|f
      ·rw[f]at i;cases i
      ·rw[f]at l;cases l
  ·have Xe:∀k j,bm.tr k j bl->w.heap.size<=bl:=fun k j f=>by
    rcases(E.trb k j bl f).1 with a2|a2
    ·obtain⟨m,_,hm⟩:=(X k).2.2 j bl f;rw[hm]at a2;cases a2
    ·exact a2
   have hold:ft (ν.cut (aM s)) s bl->¬ν.tr k j bl:=by
    rintro(⟨bs,i,a2⟩|⟨g,n,u,i,a2,a3⟩) f
    ·exact h.good.otr bl (.inl ⟨bs,S bs i,(bc.cut_some a2).2⟩) k j f
    ·exact h.good.otr bl (.inr ⟨g,n,u,V g i,(bc.cut_someO a2).2,a3⟩) k j f
   have jY:ft (ν.cut (aM s)) s bl\/w.heap.size<=bl->¬ν.tr k j bl:=by
    rintro(J|J) f
    ·exact hold J f
    ·have:=(h.fr.trb k j bl f).2;omega
   rcases aL with⟨bs,i,a2⟩|⟨g,n,u,i,a2,a3⟩
   ·rcases isB bs bl i a2 with⟨l,p,H⟩|⟨l,p⟩
    ·rcases hM with hM|hM
     ·exact h.good.otr bl (.inl ⟨bs,p,H⟩) k j hM
     ·have:=(DB bs bl l p H).1;have:=Xe k j hM;omega
    ·rcases hM with hM|hM
     ·exact jY (GL bs bl l p) hM
     ·exact bd.otr bl (.inl ⟨bs,l,p⟩) k j hM
   ·rcases Iv g _ i a2 with⟨l,p,H⟩|⟨l,p⟩
    ·rcases hM with hM|hM
     ·exact h.good.otr bl (.inr ⟨g,n,u,p,H,a3⟩) k j hM
     ·have:=(Y g n u bl l p H a3).1;have:=Xe k j hM;omega
    ·rcases hM with hM|hM
     ·exact jY (J3 g n u bl l p a3) hM
     ·exact bd.otr bl (.inr ⟨g,n,u,l,p,a3⟩) k j hM
  ·have bO:k<w.heap.size:=Nat.lt_of_lt_of_le ad h.fr.size;rw[Oe k bO fun F=>by
    rcases(p4 k F).1 with J|J
    ·exact hm J
    ·omega]
   exact h.fr.block k ad hm
  ·obtain⟨a7,bD⟩:=h.fr.keep b o Q;obtain⟨b7,ea⟩:=E.keep b o a7;exact⟨b7,ea.trans bD⟩
  ·rcases E.fresh b o Q with z|z|z
   ·exact h.fr.fresh b o z
   ·exact .inr (p4 b z).1
   ·exact .inr (.inr (kg h.fr.size z))
  ·rcases J with J|J<;>rcases U with U|U
   ·exact h.fr.trd k j bs dg b J U
   ·have i:=(h.fr.trb k j b J).2;have a2:=(E.trb bs dg b U).1;rcases a2 with a2|a2
    ·obtain⟨m,_,hm⟩:=(X bs).2.2 dg b U;rw[hm]at a2;cases a2
    ·simp only at a2;omega
   ·have i:=(h.fr.trb bs dg b U).2;have a2:=(E.trb k j b J).1;rcases a2 with a2|a2
    ·obtain⟨m,_,hm⟩:=(X k).2.2 j b J;rw[hm]at a2;cases a2
    ·simp only at a2;omega
   ·exact E.trd k j bs dg b J U
  ·rcases B with B|B
   ·exact⟨(h.fr.trb k j b B).1,Nat.lt_of_lt_of_le (h.fr.trb k j b B).2 E.size⟩
   ·refine⟨.inr ?_,(E.trb k j b B).2⟩;rcases(E.trb k j b B).1 with a2|a2
    ·obtain⟨m,_,hm⟩:=(X k).2.2 j b B;rw[hm]at a2;cases a2
    ·exact kg h.fr.size a2
  ·have key:ν.bx k=none/\ν.ow k=none/\¬(ae k c.b).isSome/\¬(ae k c.e).isSome:=by
    rcases B with B|B
    ·obtain⟨t1,t2⟩:=h.fr.trn k j b B;refine⟨t1,t2,fun f=>?_,fun f=>?_⟩
     ·cases k with
      |loc m=>rw[P.1 m]at f;cases f
      |obj m=>
       rcases Ns m f with G|G
       ·obtain⟨cs,q⟩:=fy.1 (S _ G);obtain⟨K,us,el,g1,_⟩:=h.good.box _ cs q;rw[t1]at g1;cases g1
       ·exact(h.new (.obj m) ⟨trivial,G⟩).2.2 j b B
     ·cases k with
      |loc m=>rw[P.2 m]at f;cases f
      |obj m=>
       rcases cw m f with G|G
       ·obtain⟨cs,q⟩:=fy.1 (V _ G);obtain⟨K,us,g1,_⟩:=h.good.own _ cs q;rw[t2]at g1;cases g1
       ·exact(h.new (.obj m) ⟨trivial,G⟩).2.2 j b B
    ·obtain⟨m,hm,rfl⟩:=(X k).2.2 j b B;obtain⟨t1,t2,_⟩:=alV m hm;exact⟨t1,t2,by simp[P.1 m],by simp[P.2 m]⟩
   obtain⟨t1,t2,t3,t4⟩:=key;have t5:¬(ae k s.b).isSome:=fun f=>by obtain⟨cs,q⟩:=fy.1 (S _ f);obtain⟨K,us,el,g1,_⟩:=h.good.box _ cs q;rw[t1]at g1;cases g1
   have t6:¬(ae k s.e).isSome:=fun f=>by obtain⟨cs,q⟩:=fy.1 (V _ f);obtain⟨K,us,g1,_⟩:=h.good.own _ cs q;rw[t2]at g1;cases g1
   exact⟨by simp[bc.join,t3,t5,t1],by simp[bc.join,t4,t6,t2]⟩
  ·
   simp only at ad;obtain⟨ad,akV⟩:=dA k ad;have Xj:(∀j b,¬ν.tr k j b)->∀j b,¬(ν.join bm s c).tr k j b:=fun J j b B=>by
    rcases B with B|B
    ·exact J j b B
    ·obtain⟨m,hm,e⟩:=(X k).2.2 j b B;exact akV m hm e
   cases k with
   |loc m=>obtain⟨gu,fo,hO⟩:=h.new (.loc m) (MF (dO _) (fun _ h=>List.mem_append_left _ h) ad);exact⟨by simp[bc.join,rE.1 m,P.1 m,gu],by simp[bc.join,rE.2 m,P.2 m,fo],Xj hO⟩
   |obj m=>
    simp only[fresh,jT,not_or,true_and]at ad;obtain⟨gu,fo,hO⟩:=h.new (.obj m) ⟨trivial,ad.1⟩;have a8:¬(ae (.obj m) c.b).isSome:=fun f=>ad.2 (rR (.inl f));have bB:¬(ae (.obj m) c.e).isSome:=fun f=>ad.2 (rR (.inr f));have bW:¬(ae (.obj m) s.b).isSome:=fun f=>by obtain⟨cs,q⟩:=fy.1 (S _ f);obtain⟨K,us,el,g1,_⟩:=h.good.box _ cs q;rw[gu]at g1;cases g1
    have dn:¬(ae (.obj m) s.e).isSome:=fun f=>by obtain⟨cs,q⟩:=fy.1 (V _ f);obtain⟨v',us,g1,_⟩:=h.good.own _ cs q;rw[fo]at g1;cases g1
    exact⟨by simp[bc.join,a8,bW,gu],by simp[bc.join,bB,dn,fo],Xj hO⟩
 exact oN.put aK (Ar h6 aJ)
inductive eT where
 |s (i:e0)
 |call (d:Option Nat) (f:dR) (xs:List dR)
 |next (d:Nat) (x:dR)
structure dt where
 g:Option (Nat×Bool)
 i:eT
def e0.dst:e0->Option Nat
 | .v d _| .box d _ _| .alloc d _ _| .bsl d _ _ _| .app d _ _ _ _| .bslm d _ _ _ _| .appm d _ _ _ _ _| .mkmap d _| .range d _ _| .mks d _ _ _ _ _=>some d
 | .store _ _ _| .mput _ _ _ _| .storeE _ _ _=>none
def eT.dst:eT->Option Nat
 | .s i=>i.dst
 | .call d _ _=>d
 | .next d _=>some d
def CallDo(P:cG)(n:Nat)(args:List af)(st:bo)(d:Option Nat)(K:bo->Prop):Prop:=
 (∃s Q,hA (aM s) s.b st.b/\qo (aM s) s.e st.e/\hP s/\aH (aM s) args/\bE P n args s Q/\
  ∀r a,Q r a->((∀m,(ae (.obj m) a.b).isSome->(ae (.obj m) s.b).isSome\/ .obj m∉st.o)/\(∀m,(ae (.obj m) a.e).isSome->(ae (.obj m) s.e).isSome\/ .obj m∉st.o))/\K (after st s a d r))\/
 (∃s Q,hA (aM s) s.b st.b/\qo (aM s) s.e st.e/\hP s/\aH (aM s) args/\ .loc st.n∉st.o/\uv P n st.n args s Q/\
  ∀r a,Q r a->((∀m,(ae (.obj m) a.b).isSome->(ae (.obj m) s.b).isSome\/ .obj m∉st.o)/\(∀m,(ae (.obj m) a.e).isSome->(ae (.obj m) s.e).isSome\/ .obj m∉st.o))/\K {after st s a d r with n:=st.n+1})
def O1(st:bo)(d:Nat)(gk mk:aB)(since:Nat)(seen:List Nat)(last clock:Nat)(borns:List Nat)(kvs:List af)(K:bo->Prop):Prop:=
 (since=clock/\last=clock)/\((∀b∈borns,b∈seen)->K {st with t:=put d (.tuple [.bool false]) st.t})/\
 (∀b k v,oc b borns kvs=some (.tuple [k,v])->b∉seen->K {st with t:=put d (.tuple [.bool true,k,v]) st.t,b:=cL gk [.hdi since (seen++[b]) last,.gmap mk] st.b})
def uL(st:bo)(d:Nat)(v:af)(K:bo->Prop):Prop:=
 match v with
 | .ptr gk 0=>match ae gk st.b with
  |some [.hdi since seen last,.gmap mk]=>match ae mk st.b with
   |some (.hdm clock borns::kvs)=>O1 st d gk mk since seen last clock borns kvs K
   |_=>eb
  |_=>eb
 |_=>eb
def vY(P:cG)(st:bo)(K:bo->Prop):eT->Prop
 | .next d x=>uL st d (cD st.t x) K
 | .s i=>match nH st i with
  |some (c,st')=>c/\K st'
  |none=>eb
 | .call d f xs=>match cD st.t f with
  | .func n dH=>CallDo P n (b9 (xs.map (cD st.t)++dH)) st d K
  |_=>eb
def iY(P:cG):List dt->bo->(bo->Prop)->Prop
 |[],st,K=>K st
 |⟨none,i⟩::r,st,K=>vY P st (fun st'=>iY P r st' K) i
 |⟨some (s,want),i⟩::r,st,K=>match get s st.t with
  | .bool b=>(b=want->vY P {st with t:=put s (.bool want) st.t} (fun st'=>iY P r st' K) i)/\(b= !want->iY P r {st with t:=e9 i.dst (.tuple []) (put s (.bool !want) st.t)} K)
  | .tuple []=>iY P r {st with t:=e9 i.dst (.tuple []) st.t} K
  |_=>eb
def wR(N:Nat)(aS:List (Nat×et))(i:eT)(o:Oper):Bool:=
 match i with
 | .s i=>FW N aS i o
 | .next d x=>match o.op with
  | .next it false=>o.dst==some d&&decide (d<N)&&eR x it
  |_=>false
 | .call d f xs=>match o.op with
  | .call ⟨.value a,args,_⟩=>o.dst==d&&j8 N d&&eR f a&&Ae xs args.toList
  |_=>false
def D4(N:Nat)(aS:List (Nat×et))(ops:List Oper)(g:dt)(o:Oper):Bool:=
 (match g.g,o.guard with
  |none,none=>true
  |some (s,b),some (j,b0)=>b==b0&&((ops[j]?).bind (·.dst))==some s&&decide (s<N)&&o.dst==g.i.dst&&j8 N g.i.dst
  |_,_=>false)&&wR N aS g.i o
def ld(N:Nat)(aS:List (Nat×et))(ops:List Oper):List dt->List Oper->Bool
 |[],[]=>true
 |g::gs,o::os=>D4 N aS ops g o&&ld N aS ops gs os
 |_,_=>false
def abP{w:World}{ν:bc}:∀{b bV:List af} {bk us:List Value},cZ w ν b bk->cZ w ν bV us->cZ w ν (b++bV) (bk++us)
 |[],bV,bk,us,h,a=>by simp only[cZ]at h;subst h;simpa using a
 |p::b,bV,bk,us,h,a=>by simp only[cZ]at h;obtain⟨u,c,rfl,J,U⟩:=h;simp only[b6,cZ];exact⟨u,_,rfl,J,abP U a⟩
def yO.mono{P:cG}{f:FuncId}{bk:Array Value}{w:World}{R a:Ending->World->Prop}(h:yO P f bk w R)(br:∀e w',R e w'->a e w'):yO P f bk w a:=by
 rcases h with⟨J,U⟩|⟨v,w',J,U⟩
 ·exact .inl ⟨J,U.mono br⟩
 ·exact .inr ⟨v,w',J,br _ _ U⟩
def Un{P:cG}{C:fj}{st:bo}{a:Act}{w:World}{ν:bc}(g:c9 C st a w ν){o:Oper}{Y:Operand}{args:Array Operand}{C8:Array gW}(z:o.op= .call ⟨.value Y,args,C8⟩){d:Option Nat}(aK:o.dst=d)(V:j8 C.N d=true)
  {n:Nat} {dH:List af} (aG:aU w ν (.func n dH) (a.eval Y)) {A:List af} (wg:cZ w ν A (args.toList.map a.eval)) {K:bo->Prop}
  (ay:∃(s:cT) (y:af->cT->Prop) (κ:Option Nat) (n':Nat) (o':cT->List aB),hA (aM s) s.b st.b/\qo (aM s) s.e st.e/\hP s/\aH (aM s) (b9 (A++dH))/\(∀(w:World) (ν:bc) (bk:Array Value),Good (ft ν s) w ν s.b s.e->pf ν s->cZ w ν (b9 (A++dH)) bk.toList->
   yO P n bk w fun e w'=> ∃v r c bm,e= .returned v/\y r c/\aU w' bm r v/\Good (fun bl=>ft ν s bl\/w.heap.size<=bl) w' bm c.b c.e/\Bh κ bm c/\hP c/\o3 ⟨w,ν,ft ν s,0,cJ s⟩ w' bm)/\
   (∀m,κ=some m->fresh st.n st.o (.loc m))/\(∀k r c,y r c->fresh n' (o' c) k->fresh st.n (st.o++cJ c) k/\∀m,κ=some m->k≠ .loc m)/\
   ∀r c,y r c->((∀m,(ae (.obj m) c.b).isSome->(ae (.obj m) s.b).isSome\/ .obj m∉st.o)/\(∀m,(ae (.obj m) c.e).isSome->(ae (.obj m) s.e).isSome\/ .obj m∉st.o))/\K {after st s c d r with n:=n',o:=o' c})
  {W:Act->World->Prop} {Q:Exit->Act->World->Prop} (Z:∀st' bp w' bm,K st'->c9 C st' bp w' bm->W bp w'):o.wp P a w W Q:=by
 obtain⟨s,y,κ,n',o',t,q,di,h5,p,UI,Uz,X⟩:=ay;simp only[aU]at aG;obtain⟨us,aN,hu⟩:=aG;have mN:cZ w (ν.cut (aM s)) (b9 (A++dH)) ((args.map a.eval)++us).toList:=by refine Aq (ov.cut _ w ν) _ _ h5 (JZ _ _ ?_);simpa using abP wg hu
 have tv:Good (ft (ν.cut (aM s)) s) w (ν.cut (aM s)) s.b s.e:=g.good.cut t q (fun bl _ h=>h);have hex:pf (ν.cut (aM s)) s:=by
  intro k;refine⟨?_,?_,?_⟩;rotate_left 2
  ·rintro j b ⟨f,ag⟩;obtain⟨t1,t2⟩:=g.fr.trn k j b ag;rcases f with f|f<;>obtain⟨x,l⟩:=fy.1 f
   ·obtain⟨bl,L,el,i,_⟩:=g.good.box k x (t k x l).1;rw[t1]at i;cases i
   ·obtain⟨v',L,i,_⟩:=g.good.own k x (q k x l).1;rw[t2]at i;cases i
  ·intro R;by_cases f:aM s k
   ·rw[bc.cut_bx f];rcases f with f|f
    ·rw[R]at f;cases f
    ·obtain⟨x,l⟩:=fy.1 f;obtain⟨v',L,i,_⟩:=g.good.own k x (q k x l).1;rcases g.good.one k with J|J
     ·exact J
     ·rw[J]at i;cases i
   ·exact(bc.cut_no f).1
  ·intro R;by_cases f:aM s k
   ·rw[bc.cut_ow f];rcases f with f|f
    ·obtain⟨x,l⟩:=fy.1 f;obtain⟨bl,L,el,i,_⟩:=g.good.box k x (t k x l).1;rcases g.good.one k with J|J
     ·rw[J]at i;cases i
     ·exact J
    ·rw[R]at f;cases f
   ·exact(bc.cut_no f).2.1
 rcases p w (ν.cut (aM s)) ((args.map a.eval)++us) tv hex mN with⟨⟨fn,g1,g2,g3⟩,p⟩|⟨v,w',p,N⟩
 ·obtain⟨code,S⟩:=fy.1 g2;have B:(execOp a.eval o).run P w= .ok (.enter n ((args.map a.eval)++us)) w:=by obtain⟨dst,op,ty,pos,RQ,xx⟩:=o;simp only at z;subst z;simp only[execOp,resolve,aN,Deferred.ofValue,gm,hs,gA,invoke,callFunc,run_program,g1,g3,S];simp
  unfold Oper.wp;rw[B];simp only[Oper.upon];refine p.mono fun e w' N=>?_;obtain⟨v,r,c,bm,rfl,u,U,O,M,G,H⟩:=N;obtain⟨⟨E,F⟩,ad⟩:=X r c u;rw[aK];exact Z _ _ _ _ ad (g.callK t q di O M (fun m hm=>g.new _ (UI m hm)) (n':=n') (o':=o' c) (fun k ad=>Uz k r c u ad) G H E F d V U)
 ·have B:(execOp a.eval o).run P w= .ok (.value v) w':=by obtain⟨dst,op,ty,pos,RQ,xx⟩:=o;simp only at z;subst z;simp only[execOp,resolve,aN,Deferred.ofValue,gm,hs,gA,invoke];simpa using p
  obtain⟨v2,r,c,bm,EL,u,U,O,M,G,H⟩:=N;cases EL;obtain⟨⟨E,F⟩,ad⟩:=X r c u;refine nL B ?_;rw[aK];exact Z _ _ _ _ ad (g.callK t q di O M (fun m hm=>g.new _ (UI m hm)) (n':=n') (o':=o' c) (fun k ad=>Uz k r c u ad) G H E F d V U)
def Um{P:cG}{C:fj}{st:bo}{a:Act}{w:World}{ν:bc}(H:c9 C st a w ν){o:Oper}{t:Operand}{args:Array Operand}{M:Array gW}(z:o.op= .call ⟨.value t,args,M⟩){d:Option Nat}(G:o.dst=d)(x:j8 C.N d=true)
  {n:Nat} {dH:List af} (L:aU w ν (.func n dH) (a.eval t)) {u:List af} (y:cZ w ν u (args.toList.map a.eval)) {K:bo->Prop} (ay:CallDo P n (b9 (u++dH)) st d K)
  {q:Act->World->Prop} {Q:Exit->Act->World->Prop} (B:∀st' bp w' bm,K st'->c9 C st' bp w' bm->q bp w'):o.wp P a w q Q:=by
 refine Un H z G x L y (K:=K) ?_ B;rcases ay with⟨s,c,p,l,j,i,g,f⟩|⟨s,c,p,l,j,i,A,g,f⟩
 ·refine⟨s,c,none,st.n,fun b=>st.o++cJ b,p,l,j,i,fun w ν bk J U F=>(g w ν bk J U F).mono fun e w' E=>?_,fun m hm=>(by cases hm),fun k _ b _ ad=>⟨ad,fun m hm=>by cases hm⟩,f⟩;obtain⟨v,r,b,bm,g1,g2,g3,g4,g5,g6⟩:=E;exact⟨v,r,b,bm,g1,g2,g3,g4,g5.k,g6⟩
 ·refine⟨s,c,some st.n,st.n+1,fun b=>st.o++cJ b,p,l,j,i,g,fun m hm=>(by cases hm;exact⟨dO _,A⟩),fun k _ b _ ad=>⟨MF (Nat.le_succ _) (fun _ h=>h) ad,fun m hm=>?_⟩,f⟩;cases hm;rintro rfl;have:=ad.1;simp only at this;omega
def c9.drawn{C:fj}{st:bo}{a:Act}{w:World}{ν:bc}(b:c9 C st a w ν)(n:Nat):c9 C st a {w with drawn:=n} ν:=by
 have c:mB w ν {w with drawn:=n} ν:=⟨fun _ _ h=>⟨h,rfl⟩,fun _ _ _ h=>h,fun _ n u _ h=>⟨n,u,h,.inl ⟨rfl,rfl⟩⟩,fun _ _ _=>rfl,fun _ _ _ _ h=>h⟩;refine b.over c rfl ⟨b.good.alt,fun k cs ad=>?_,b.good.inj,fun g o bd=>?_,b.good.oinj,b.good.obx,b.good.one,b.good.otr⟩ ⟨b.fr.os,b.fr.tape,b.fr.output,b.fr.size,b.fr.block,b.fr.keep,b.fr.fresh,b.fr.obj,b.fr.obn,b.fr.row,b.fr.obr,b.fr.trd,b.fr.trb,b.fr.trn,b.fr.sh⟩ b.new
 ·obtain⟨bl,us,el,J,U,d,e,f⟩:=b.good.box k cs ad;exact⟨bl,us,el,J,U,d,e,rU c f⟩
 ·obtain⟨v,us,J,U,d,e⟩:=b.good.own g o bd;exact⟨v,us,J,U,d,ue c (fun _ _ _ h=>h) e⟩
def aiS{α:Type}{l:List α}{p:α->Bool}(h:∀x∈l,p x=false):l.filter p=[]:=by rw[List.filter_eq_nil_iff];intro x a;simp[h x a]
def aiR{α:Type}{l:List α}{p:α->Bool}(h:∀x∈l,p x=true):l.filter p=l:=List.filter_eq_self.2 h
def Jb(r m since clock:Nat)(seen:Array Nat)(Uo:Array (Option MapEntry)):Sem Value:=do
 match Uo[<-choose (.mapNext Uo.size)]? with
 |some (some e)=>
  setObj r (.mapIter (some m) since (seen.push e.born) clock)
  pure (.tuple #[.bool true,e.key,e.val])
 |some none=>pure (.tuple #[.bool false])
 |none=>stuck "Next: no such candidate"
def ab4{P:cG}{w:World}(r m since clock:Nat)(seen:Array Nat)(l:List (Option MapEntry))(av:l≠[]):∃n x,x∈l/\(Jb r m since clock seen l.toArray).run P w=
  (match x with|some e=>(do setObj r (.mapIter (some m) since (seen.push e.born) clock);pure (.tuple #[.bool true,e.key,e.val]):Sem Value)|none=>pure (.tuple #[.bool false])).run P {w with drawn:=n}:=by
 have gj:0<l.length:=List.length_pos_iff.2 av;unfold Jb;have key:∀i,i<l.length->∀w',((do match(l.toArray[i]?:Option (Option MapEntry))with
   |some (some e)=>setObj r (.mapIter (some m) since (seen.push e.born) clock);pure (.tuple #[.bool true,e.key,e.val])
   |some none=>pure (.tuple #[.bool false])
   |none=>stuck "Next: no such candidate" :Sem Value)).run P w'=((match l[i]! with|some e=>(do setObj r (.mapIter (some m) since (seen.push e.born) clock);pure (.tuple #[.bool true,e.key,e.val]):Sem Value)|none=>pure (.tuple #[.bool false]))).run P w':=by
  intro i hi w';have J:l.toArray[i]? =some l[i]!:=by simp[hi]
  rw[J];cases l[i]!<;>rfl
 by_cases aG:(Question.mapNext l.length).forced=true
 ·refine⟨w.drawn,l[0]!,by simp[gj],?_⟩;rw[<-key 0 gj];have ay:(choose (.mapNext l.length):Sem Nat).run P w= .ok 0 w:=by simp[aG]
  simp only[List.size_toArray,gm,ay,gA]
 ·refine⟨w.drawn+1,l[(w.tape w.drawn (.mapNext l.length))%l.length]!,by simp[Nat.mod_lt _ gj],?_⟩;rw[<-key _ (Nat.mod_lt _ gj)];have ay:(choose (.mapNext l.length):Sem Nat).run P w= .ok ((w.tape w.drawn (.mapNext l.length))%l.length) {w with drawn:=w.drawn+1}:=by simp[aG,Question.cut]
  simp only[List.size_toArray,gm,ay,gA]
def arh{P:cG}{w:World}{bl mb:Nat}{seen:List Nat}{es:List MapEntry}{clock:Nat}{ty:gW}(J:w.heap[bl]? =some (.mapIter (some mb) clock seen.toArray clock))(U:w.heap[mb]? =some (.map es.toArray clock))(d:∀e∈es,e.born<clock):
  ∃n,((∀e∈es,e.born∈seen)/\(Instr.next (.pointer (some ⟨bl,0,none⟩)) false ty).run P w= .ok (.tuple #[.bool false]) {w with drawn:=n})\/
   ∃e∈es,e.born∉seen/\(Instr.next (.pointer (some ⟨bl,0,none⟩)) false ty).run P w= .ok (.tuple #[.bool true,e.key,e.val]) {w with drawn:=n,heap:=w.heap.setIfInBounds bl (.mapIter (some mb) clock (seen++[e.born]).toArray clock)}:=by
 have j:(!seen.toArray.isEmpty&& !es.toArray.isEmpty&&es.toArray.all (fun e=>decide (e.born≥clock)))=false:=by
  cases es with
  |nil=>simp
  |cons e r=>have:=d e Ψ;simp;intro _ h;omega
 generalize c:(es.filter fun e=> !seen.contains e.born)=left;have f:(es.toArray.filter fun e=> !seen.toArray.contains e.born)=left.toArray:=by rw[<-c];simp
 have a:∀e∈left,e∈es/\e.born∉seen:=fun e he=>by rw[<-c]at he;have:=oq.1 he;exact⟨this.1,by simpa using this.2⟩
 have hold:(left.toArray.filter fun e=>decide (e.born<clock))=left.toArray:=by rw[List.filter_toArray,aiR];intro e he;have:=d e (a e he).1;simp[this]
 have i:(left.toArray.filter fun e=>decide (e.born≥clock))= #[]:=by rw[List.filter_toArray,aiS];intro e he;have:=d e (a e he).1;simp;omega
 have g:(Instr.next (.pointer (some ⟨bl,0,none⟩)) false ty).run P w=(Jb bl mb clock clock seen.toArray ((if left.toArray.isEmpty then #[none]else #[])++(left.toArray++ #[]).map some)).run P w:=by unfold Instr.next Jb;simp only[gm,yx J,yx U,gA,j,f,hold,i,hU,if_false];rfl
 rw[g];by_cases b:left=[]
 ·subst b;obtain⟨n,x,g1,g2⟩:=ab4 (P:=P) (w:=w) bl mb clock clock seen.toArray [none] Ψ;refine⟨n,.inl ⟨fun e he=>?_,?_⟩⟩
  ·have:=List.filter_eq_nil_iff.1 c e he;simpa using this
  ·simp only[List.mem_singleton]at g1;subst g1;have ay:((if(([]:List MapEntry).toArray).isEmpty then #[none]else #[])++(([]:List MapEntry).toArray++ #[]).map some)=[none].toArray:=Ψ
   rw[ay,g2];rfl
 ·have ay:((if left.toArray.isEmpty then #[none]else #[])++(left.toArray++ #[]).map some)=(left.map some).toArray:=by simp[b]
  obtain⟨n,x,g1,g2⟩:=ab4 (P:=P) (w:=w) bl mb clock clock seen.toArray (left.map some) (by simpa using b);simp only[hc]at g1;obtain⟨e,he,rfl⟩:=g1;refine⟨n,.inr ⟨e,(a e he).1,(a e he).2,?_⟩⟩;rw[ay,g2];simp only[gm];rw[Qp (w:={w with drawn:=n}) (o:= .mapIter (some mb) clock seen.toArray clock) J];simp
def Mf:∀{borns:List Nat} {us:List Value} {e:MapEntry},e∈gQ borns us->e.born∈borns
 |[],us,e,h=>by simp[gQ]at h
 |b::a,[],e,h=>by simp[gQ]at h
 |b::a,[_],e,h=>by simp[gQ]at h
 |b::a,k::v::us,e,h=>by
  simp only[gQ,gJ]at h;rcases h with rfl|h
  ·simp
  ·exact ri _ (Mf h)
def U3:∀{borns:List Nat} {kvs:List af} {us:List Value},kvs.length=2*borns.length->us.length=kvs.length->∀{b:Nat},b∈borns->∃e∈gQ borns us,e.born=b
 |[],_,_,_,_,b,a=>by simp at a
 |b0::c,kvs,[],J,U,b,a=>by rw[J]at U;simp at U
 |b0::c,kvs,[_],J,U,b,a=>by rw[J]at U;simp at U;omega
 |b0::c,kvs,k::v::us,J,U,b,a=>by
  rcases gJ.1 a with rfl|a
  ·exact⟨⟨k,v,b⟩,by simp[gQ],rfl⟩
  ·obtain⟨e,g1,g2⟩:=U3 (kvs:=kvs.drop 2) (us:=us) (borns:=c) (by simp at J⊢;omega) (by simp at J U⊢;omega) a;exact⟨e,by simp[gQ,g1],g2⟩
def YY{w:World}{ν:bc}:∀{borns:List Nat} {kvs:List af} {us:List Value},kvs.length=2*borns.length->borns.Pairwise (· < ·)->cZ w ν kvs us->∀{e:MapEntry},e∈gQ borns us->∃k v,oc e.born borns kvs=some (.tuple [k,v])/\aU w ν k e.key/\aU w ν v e.val
 |[],_,_,_,_,_,e,h=>by simp[gQ]at h
 |b::a,[],us,J,_,_,e,_=>by simp at J
 |b::a,[_],us,J,_,_,e,_=>by simp at J;omega
 |b::a,k::v::kvs,us,J,U,c,e,h=>by
  simp only[cZ]at c;obtain⟨m,n,rfl,g,l,j,rfl,f,d⟩:=c;simp only[gQ,gJ]at h;rw[ot]at U;rcases h with rfl|h
  ·exact⟨k,v,by simp[oc],g,f⟩
  ·obtain⟨bs,v',g1,g2,g3⟩:=YY (by simp at J;omega) U.2 d h;have i:b≠e.born:=Nat.ne_of_lt (U.1 _ (Mf h));exact⟨bs,v',by simp[oc,i,g1],g2,g3⟩
def anF{P:cG}{C:fj}{st:bo}{a:Act}{w:World}{ν:bc}(c:c9 C st a w ν){o:Oper}{it:Operand}(q:o.op= .next it false){d:Nat}(E:o.dst=some d)(i:j8 C.N (some d)=true){v:af}(B:aU w ν v (a.eval it)){K:bo->Prop}(he:uL st d v K)
  {m:Act->World->Prop} {Q:Exit->Act->World->Prop} (x:∀st' bp w' bm,K st'->c9 C st' bp w' bm->m bp w'):o.wp P a w m Q:=by
 unfold uL at he;split at he
 ·rename_i gk;split at he
  ·rename_i since seen last mk l;split at he
   ·rename_i clock borns kvs G;obtain⟨⟨rfl,rfl⟩,W,L⟩:=he;simp only[aU]at B;obtain⟨bl,A,M⟩:=B;obtain⟨Y,us,el,F,bB,bW,g,z⟩:=c.good.box gk _ l;rw[A]at F;cases F;obtain⟨mb,ms,N,m1,m2,m3,m4,m5⟩:=c.good.box mk _ G;simp only[k4,cZ]at z;obtain⟨u,Z,hu,⟨O,y,rfl⟩,rfl⟩:=z;rw[m1]at y;cases y;simp only[l2,hu]at g;simp only[l2]at m4;simp only[k4]at m5;obtain⟨n,H⟩:=arh (P:=P) (ty:=o.type) g m4 (fun e he=>m5.2.lt _ (Mf he));have r:∀v' w',(Instr.next (.pointer (some ⟨bl,0,none⟩)) false o.type).run P w= .ok v' w'->(execOp a.eval o).run P w= .ok (.value v') w':=by intro v' w' t;obtain⟨dst,op,ty,pos,RQ,X⟩:=o;simp only at q t;subst q;simp only[execOp,M];exact Gg t
    rcases H with⟨J,U⟩|⟨e,J,U,R⟩
    ·refine nL (r _ _ U) ?_;rw[E];refine x _ _ _ _ (W fun b V=>?_) ((c.drawn n).put i (p:= .tuple [.bool false]) (by simp[aU,cZ]));obtain⟨e,f1,f2⟩:=U3 m5.2.len (Qj m5.1) V;rw[<-f2];exact J e f1
    ·obtain⟨k,v,f1,f2,f3⟩:=YY m5.2.len m5.2.inc m5.1 J;refine nL (r _ _ R) ?_;rw[E];have f:=((c.drawn n).setBox (w':={w with drawn:=n,heap:=w.heap.setIfInBounds bl (.mapIter (some mb) last (seen++[e.born]).toArray last)}) l A (cs':=[.hdi last (seen++[e.born]) last,.gmap mk]) (us:=us) (el:=el) rfl rfl rfl
      (fun j S=>Array.getElem?_setIfInBounds_ne (Ne.symm S)) Ψ (by simp[l2,hu,(Array.getElem?_eq_some_iff.1 g).1]) (by simp only[k4,cZ];exact⟨_,_,hu,by simp only[aU];exact⟨mb,m1,rfl⟩,rfl⟩))
     refine x _ _ _ _ (L e.born k v f1 U) (f.1.put i (p:= .tuple [.bool true,k,v]) ?_);simp only[aU];refine⟨_,rfl,?_⟩;simp only[cZ];have s:mB w ν {w with drawn:=n} ν:=⟨fun _ _ h=>⟨h,rfl⟩,fun _ _ _ h=>h,fun _ n u _ h=>⟨n,u,h,.inl ⟨rfl,rfl⟩⟩,fun _ _ _=>rfl,fun _ _ _ _ h=>h⟩;exact⟨_,_,rfl,by simp[aU],_,_,rfl,Ar f.2 (Ar s f2),_,_,rfl,Ar f.2 (Ar s f3),rfl⟩
   ·exact he.elim
  ·exact he.elim
 ·exact he.elim
def U7{P:cG}{aS:List (Nat×et)}(p:hR P aS=true){C:fj}{st:bo}{a:Act}{w:World}{ν:bc}(b:c9 C st a w ν){i:eT}{o:Oper}(aq:wR C.N aS i o=true){K:bo->Prop}(he:vY P st K i)
  {k:Act->World->Prop} {Q:Exit->Act->World->Prop} (g:∀st' bp w' bm,K st'->c9 C st' bp w' bm->k bp w'):o.wp P a w k Q:=by
 cases i with
 |s i=>
  simp only[vY]at he;split at he
  ·rename_i c st' l;exact ark p b (by simpa only[wR]using aq) l he.1 fun bp w' bm h=>g _ _ _ _ he.2 h
  ·exact he.elim
 |next d x=>
  simp only[vY]at he;simp only[wR]at aq;split at aq
  ·rename_i it e;simp only[cO,eA,gn]at aq;obtain⟨⟨J,U⟩,j⟩:=aq;exact anF b e J (by simpa[j8]using U) (e7 b j) he g
  ·cases aq
 |call d f xs=>
  simp only[vY]at he;simp only[wR]at aq;split at aq
  ·rename_i r args t e;simp only[cO,eA]at aq;obtain⟨⟨⟨J,U⟩,j⟩,m⟩:=aq;split at he
   ·rename_i n dH q;have:=e7 b j;rw[q]at this;exact Um b e J U this (FO b m) he g
   ·exact he.elim
  ·cases aq
def Qb{C:fj}{st:bo}{a:Act}{w:World}{ν:bc}(h:c9 C st a w ν){s:Nat}{b:Bool}(c:get s st.t= .bool b):c9 C {st with t:=put s (.bool b) st.t} a w ν:=by
 refine⟨h.good,h.fr,h.defers,h.size,fun i=>?_,h.new⟩;have:=h.slot i;simp only[qK];split
 ·rename_i e;subst e;rw[<-c];exact this
 ·exact this
def adL{C:fj}{st:bo}{a:Act}{w:World}{ν:bc}(h:c9 C st a w ν){ops:Array Oper}{j s:Nat}(f:(ops.toList[j]?).bind (·.dst)=some s)(l:s<C.N):
  (∀b,get s st.t= .bool b->yielded ops a.tmps j=some b)/\(get s st.t= .tuple []->yielded ops a.tmps j=none):=by
 have e:s<a.tmps.size:=by rw[h.size];exact l
 have c:=h.slot s;have i:a.tmps.getD s undef=a.tmps[s]:=by simp[Array.getD,e]
 rw[i]at c;have g:yielded ops a.tmps j=match a.tmps[s]with| .bool b=>some b|_=>none:=by unfold yielded;rw[vA]at f;rw[f];simp only[l9,Array.getElem?_eq_getElem e];cases a.tmps[s]<;>rfl
 constructor
 ·intro b d;rw[d]at c;simp only[aU]at c;rw[g,c]
 ·intro d;rw[d]at c;simp only[aU,cZ]at c;obtain⟨us,k,m⟩:=c;rw[g,k]
def Vb{P:cG}{aS:List (Nat×et)}(m:hR P aS=true){C:fj}{ops:Array Oper}{K:bo->Prop}{Q:Exit->Act->World->Prop}(p:∀st' bp w' bm,K st'->c9 C st' bp w' bm->Q .normal bp w'):
  ∀(gs:List dt) (os:List Oper) (k:Nat),(∀j,os[j]? =ops[k+j]?)->ld C.N aS ops.toList gs os=true->∀(st:bo) (a:Act) (w:World) (ν:bc),iY P gs st K->c9 C st a w ν->wpOps P ops Q (List.range' k gs.length) a w
 |[],[],k,_,_,st,a,w,ν,he,d=>by simp only[List.length_nil,List.range'_zero,wpOps];exact p _ _ _ _ he d
 |[],_::_,_,_,ad,_,_,_,_,_,_=>by simp[ld]at ad
 |_::_,[],_,_,ad,_,_,_,_,_,_=>by simp[ld]at ad
 |g::gs,o::os,k,v,ad,st,a,w,ν,he,d=>by
  simp only[ld,cO]at ad;have E:ops[k]? =some o:=by simpa using(v 0).symm
  have G:∀j,os[j]? =ops[k+1+j]?:=fun j=>by have:=v (j+1);simpa[Nat.add_assoc,Nat.add_comm 1 j]using this
  simp only[mZ,List.range'_succ,wpOps,E];have i:∀st' bp w' bm,iY P gs st' K->c9 C st' bp w' bm->wpOps P ops Q (List.range' (k+1) gs.length) bp w':=fun st' bp w' bm J U=>Vb m p gs os (k+1) G ad.2 st' bp w' bm J U;obtain⟨z,L⟩:=g;have bd:=ad.1;simp only[D4,cO]at bd;obtain⟨h,n⟩:=bd;cases z with
  |none=>
   cases c:o.guard with
   |some x=>simp[c]at h
   |none=>
    have hw:qu o (yielded ops a.tmps)=true:=by simp[qu,c]
    rw[if_pos hw];simp only[iY]at he;exact .inl (U7 m d n he i)
  |some H=>
   obtain⟨s,want⟩:=H;cases c:o.guard with
   |none=>simp[c]at h
   |some x=>
    obtain⟨j,b0⟩:=x;simp only[c,cO,eA,gn]at h;obtain⟨⟨⟨⟨rfl,U⟩,F⟩,u⟩,r⟩:=h;obtain⟨B,y⟩:=adL d U F;simp only[iY]at he;split at he
    ·rename_i b f;have l:=B b f;by_cases e:b=want
     ·subst e;have hw:qu o (yielded ops a.tmps)=true:=by simp[qu,c,l]
      rw[if_pos hw];exact .inl (U7 m (Qb d f) n (he.1 rfl) i)
     ·have hw:¬(qu o (yielded ops a.tmps)=true):=by simp[qu,c,l,e]
      rw[if_neg hw];have q:b= !want:=by cases b<;>cases want<;>simp at e⊢
      have A:c9 C {st with t:=put s (.bool !want) st.t} a w ν:=Qb d (by rw[f,q]);rw[u];exact i _ _ _ _ (he.2 q) (A.put r (by simp[aU,cZ,undef]))
    ·rename_i f;have l:=y f;have hw:¬(qu o (yielded ops a.tmps)=true):=by simp[qu,c,l]
     rw[if_neg hw,u];exact i _ _ _ _ he (d.put r (by simp[aU,cZ,undef]))
    ·exact he.elim
structure dD where
 t:Nat->af
 b:aB->Option (List af)
 e:aB->Option dT
 F:aB->Prop
structure lL where
 d:Option Nat
 p:af
 bw:List (aB×List af)
 ew:List (aB×dT)
 rm:Option aB
def ju{α:Type}(l:List (aB×α))(f:aB->Option α):aB->Option α:=fun k=>match ae k l with|some x=>some x|none=>f k
def dD.do(A:dD)(x:lL):dD:={t:=fun i=>if x.d=some i then x.p else A.t i,b:=ju x.bw A.b,e:=ju x.ew A.e,F:=fun k=>A.F k/\x.rm≠some k}
structure lL.apart (x y:lL):Prop where
 d:∀i,x.d=some i->y.d≠some i
 b:∀k,(ae k x.bw).isSome->ae k y.bw=none
 e:∀k,(ae k x.ew).isSome->ae k y.ew=none
def dD.do_comm(A:dD){x y:lL}(h:x.apart y):(A.do x).do y=(A.do y).do x:=by
 simp only[dD.do,dD.mk.injEq];refine⟨?_,?_,?_,?_⟩
 ·funext i;by_cases J:x.d=some i
  ·have:=h.d i J;simp[J,this]
  ·simp[J]
 ·funext k;simp only[ju];cases a:ae k x.bw with
  |none=>cases ae k y.bw<;>rfl
  |some u=>rw[h.b k (by simp[a])]
 ·funext k;simp only[ju];cases a:ae k x.ew with
  |none=>cases ae k y.ew<;>rfl
  |some u=>rw[h.e k (by simp[a])]
 ·funext k;exact propext ⟨fun h=>⟨⟨h.1.1,h.2⟩,h.1.2⟩,fun h=>⟨⟨h.1.1,h.2⟩,h.1.2⟩⟩
def dY(t:Nat->af):dR->af
 | .t i=>t i
 | .c p=>p
def tP(b:aB->Option (List af))(e:aB->Option dT)(agg:Bool)(sz:Nat):af->Option (Prop×af)
 | .rptr a k n i f=>Au agg sz a n i f (e k)
 | .ptr k off=>
  match b k with
  |some cs=>if agg then some (gZ cs=true/\off+sz<=cs.length,.agg ((cs.drop off).take sz))else(cs[off]?).map fun p=>(gZ cs=true,p)
  |none=>none
 | .eptr p=>if agg then some (qW sz p,p)else some (eS p=true/\cells p=[p],p)
 |_=>none
def y4(t:Nat->af):List af->List (Nat×Nat×dR)->Option (Prop×List af)
 |cs,[]=>some (True,cs)
 |cs,(off,sz,x)::r=>
  match y4 t (nI cs off (cells (dY t x))) r with
  |some (c,cs')=>some ((eS (dY t x)=true/\(cells (dY t x)).length=sz/\off+sz<=cs.length)/\c,cs')
  |none=>none
def re(t:Nat->af)(b:aB->Option (List af))(e:aB->Option dT):gP->Option (Prop×af)
 | .mov x=>some (True,dY t x)
 | .pick c x y=>Js (dY t c) (dY t x) (dY t y)
 | .load agg sz x=>tP b e agg sz (dY t x)
 | .faddr off agg sz x=>tc off agg sz (dY t x)
 | .fld off agg sz x=>wa off agg sz (dY t x)
 | .iaddr sz x i=>BZ sz (dY t x) (dY t i)
 | .sidx x i=>Ke (dY t x) (dY t i)
 | .ssl x lo hi=>Kj (dY t x) (lo.map (dY t)) (hi.map (dY t))
 | .lsl sz x lo hi=>IX sz (dY t x) (lo.map (dY t)) (hi.map (dY t))
 | .bin op wr x y=>Dy op wr (dY t x) (dY t y)
 | .notB x=>Jd (dY t x)
 | .neg x=>Ja (dY t x)
 | .conv k x=>G9 k (dY t x)
 | .ext i x=>Bi i (dY t x)
 | .len x=>Cc (dY t x)
 | .slen x=>F1 (dY t x)
 | .build zero parts=>(y4 t zero parts).map fun(c,cs)=>(c,.agg cs)
 | .nck x=>Cq (dY t x)
 | .min2 x y=>I7 (dY t x) (dY t y)
 | .mkf n xs=>some (True,.func n (xs.map (dY t)))
 | .mget a zero ok x k=>pt b a zero ok (dY t x) (dY t k)
 | .ment x=>qZ b (dY t x)
 | .mlen x=>Cp b (dY t x)
 | .beq neg d x y=>js neg d (dY t x) (dY t y)
 | .max2 x y=>I1 (dY t x) (dY t y)
 | .mkif n x=>some (True,.iface n (dY t x))
 | .loadB agg sz x=>tP b (fun _=>none) agg sz (dY t x)
 | .mgetB a zero ok x k=>pt b a zero ok (dY t x) (dY t k)
 | .loadZ agg sz x=>D2 agg sz (dY t x)
 | .b2s x=>GI (dY t x)
structure mA (st:bo) (A:dD):Prop where
 t:∀i,get i st.t=A.t i
 b:∀k,ae k st.b=A.b k
 e:∀k,ae k st.e=A.e k
def jH{st:bo}{A:dD}(h:mA st A)(x:dR):cD st.t x=dY A.t x:=by
 cases x
 ·exact h.t _
 ·rfl
def v7{st:bo}{A:dD}(h:mA st A):cD st.t=dY A.t:=funext (jH h)
def amO{st:bo}{A:dD}(h:mA st A)(agg:Bool)(sz:Nat)(p:af):n9 st.b st.e agg sz p=tP A.b A.e agg sz p:=by
 cases p<;>simp only[n9,tP]
 ·rw[h.b];try rfl
 ·rw[h.e]
def amP{st:bo}{A:dD}(h:mA st A)(agg:Bool)(sz:Nat)(p:af):n9 st.b [] agg sz p=tP A.b (fun _=>none) agg sz p:=by
 cases p<;>simp only[n9,tP]
 ·rw[h.b];try rfl
 ·rfl
def Sh{st:bo}{A:dD}(h:mA st A):∀(parts:List (Nat×Nat×dR)) (cs:List af),vU st.t cs parts=y4 A.t cs parts
 |[],cs=>rfl
 |(off,sz,x)::r,cs=>by simp only[vU,y4,jH h,Sh h r];try rfl
def acY{st:bo}{A:dD}(h:mA st A)(i:gP):hZ st i=re A.t A.b A.e i:=by have a:(fun k=>ae k st.b)=A.b:=funext h.b;cases i<;>simp only[hZ,re,v7 h,amO h,amP h,Sh h,a]
def ic:dR->List Nat
 | .t i=>[i]
 | .c _=>[]
def PA:Option dR->List Nat
 |some x=>ic x
 |none=>[]
def gP.looks:gP->List Nat
 | .mov x| .load _ _ x| .loadB _ _ x| .loadZ _ _ x| .faddr _ _ _ x| .fld _ _ _ x| .notB x| .neg x| .conv _ x| .ext _ x| .len x| .slen x| .nck x| .ment x| .mlen x| .mkif _ x| .b2s x=>ic x
 | .pick c x y=>ic c++ic x++ic y
 | .iaddr _ x i| .sidx x i=>ic x++ic i
 | .ssl x lo hi| .lsl _ x lo hi=>ic x++PA lo++PA hi
 | .bin _ _ x y| .min2 x y| .max2 x y| .beq _ _ x y=>ic x++ic y
 | .build _ a=>a.flatMap fun p=>ic p.2.2
 | .mkf _ xs=>xs.flatMap ic
 | .mget _ _ _ x k| .mgetB _ _ _ x k=>ic x++ic k
def e0.looks:e0->List Nat
 | .v _ i=>i.looks
 | .box _ _ x=>ic x
 | .alloc _ _ _=>[]
 | .store _ x y=>ic x++ic y
 | .storeE _ x y=>ic x++ic y
 | .bsl _ _ _ xs=>xs.flatMap ic
 | .app _ _ _ x y=>ic x++ic y
 | .bslm _ _ _ _ xs=>xs.flatMap ic
 | .mks _ _ _ _ _ x=>ic x
 | .appm _ _ _ _ x y=>ic x++ic y
 | .mkmap _ _=>[]
 | .mput _ x k y=>ic x++ic k++ic y
 | .range _ _ x=>ic x
def eT.looks:eT->List Nat
 | .s i=>i.looks
 | .call _ f xs=>ic f++xs.flatMap ic
 | .next _ x=>ic x
def dt.looks(g:dt):List Nat:=(match g.g with|some (s,_)=>[s]|none=>[])++g.i.looks
def se(l:List Nat)(t t':Nat->af):Prop:= ∀i∈l,t i=t' i
def ho{t t':Nat->af}{x:dR}(h:se (ic x) t t'):dY t x=dY t' x:=by
 cases x
 ·exact h _ (by simp[ic])
 ·rfl
def k8{l a:List Nat}{t t':Nat->af}(h:se (l++a) t t'):se l t t'/\se a t t':=⟨fun i hi=>h i (by simp[hi]),fun i hi=>h i (by simp[hi])⟩
def Hq{t t':Nat->af}{x:Option dR}(h:se (PA x) t t'):x.map (dY t)=x.map (dY t'):=by
 cases x
 ·rfl
 ·simp[ho h]
def Sg{t t':Nat->af}:∀{parts:List (Nat×Nat×dR)} {cs:List af},se (parts.flatMap fun p=>ic p.2.2) t t'->y4 t cs parts=y4 t' cs parts
 |[],cs,_=>rfl
 |(off,sz,x)::r,cs,h=>by simp only[List.flatMap_cons]at h;obtain⟨J,U⟩:=k8 h;simp only[y4,ho J,Sg U]
def I0{t t':Nat->af}:∀{xs:List dR},se (xs.flatMap ic) t t'->xs.map (dY t)=xs.map (dY t')
 |[],_=>rfl
 |x::xs,h=>by simp only[List.flatMap_cons]at h;obtain⟨J,U⟩:=k8 h;simp[ho J,I0 U]
def gP.isLoad:gP->Bool
 | .load _ _ _=>true
 | .loadB _ _ _=>true
 | .mgetB _ _ _ _ _=>true
 | .mget _ _ _ _ _=>true
 | .ment _=>true
 | .mlen _=>true
 |_=>false
def asn{t t':Nat->af}{b b0:aB->Option (List af)}{e f:aB->Option dT}{i:gP}(h:se i.looks t t')(a:i.isLoad=false):re t b e i=re t' b0 f i:=by
 cases i<;>simp only[gP.looks]at h<;>simp only[re];case load agg sz x=>simp[gP.isLoad]at a
 case loadB agg sz x=>simp[gP.isLoad]at a
 case pick c x y=>obtain⟨J,d⟩:=k8 h;obtain⟨J,U⟩:=k8 J;rw[ho J,ho U,ho d]
 case iaddr=>obtain⟨J,U⟩:=k8 h;rw[ho J,ho U]
 case sidx=>obtain⟨J,U⟩:=k8 h;rw[ho J,ho U]
 case ssl=>obtain⟨J,d⟩:=k8 h;obtain⟨J,U⟩:=k8 J;rw[ho J,Hq U,Hq d]
 case lsl=>obtain⟨J,d⟩:=k8 h;obtain⟨J,U⟩:=k8 J;rw[ho J,Hq U,Hq d]
 case bin=>obtain⟨J,U⟩:=k8 h;rw[ho J,ho U]
 case min2=>obtain⟨J,U⟩:=k8 h;rw[ho J,ho U]
 case build=>rw[Sg h]
 case mkf=>rw[I0 h]
 case mget=>simp[gP.isLoad]at a
 case mgetB=>simp[gP.isLoad]at a
 case ment=>simp[gP.isLoad]at a
 case mlen=>simp[gP.isLoad]at a
 case max2=>obtain⟨J,U⟩:=k8 h;rw[ho J,ho U]
 case beq=>obtain⟨J,U⟩:=k8 h;rw[ho J,ho U]
 all_goals rw[ho h]
end
end Go.Pv
