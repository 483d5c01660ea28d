/- Regions that draw their order, I: abstract states as functions, effects, and what an instruction does to them. -/
import Derived.WalkKit
import Derived.Orders
import Derived.KernelRfl
import Derived.IntWalk
import Derived.Laws.StructEq
import Derived.ChangeKeysEq
import Derived.MapKept
import Derived.ArgAppend
import Derived.Laws.OwnMore
set_option linter.all false
set_option maxHeartbeats 4000000
set_option maxRecDepth 4000
namespace Go
def bi{p:Prop}(h:p:=by kernel_rfl):p:=h
def bv{p:Prop}(h:p:=by simp only[aO,aD,aE,b3,ca];exact aW):p:=h
def ci{p:Prop}(h:p:=by first|exact ct _|exact ct ‹_› _):p:=h
def co{p:Prop}(h:p:=by simp[aO,aD,aE]):p:=h
def dl{p:Prop}(h:p:=by simp[az]):p:=h
def d6{p:Prop}(h:p:=by simp;omega):p:=h
def d7{p:Prop}(h:p:=by simp[aK,ad,aO,aD,aE]):p:=h
def d8{p:Prop}(h:p:=by first|exact iY _|exact iY ‹_› _):p:=h
def d9{p:Prop}(h:p:=by simp only[gQ,aD,aE,b3,ca];exact aW):p:=h
def Ω{p:Prop}(h:p:=by omega):p:=h
def Ψ{p:Prop}(h:p:=by simp):p:=h
end Go
open Array renaming getElem?_toList->ve
open BitVec renaming ofInt->rC
open Bool renaming and_eq_true->cP,eq_iff_iff->qP,false_eq_true->hN,not_eq_true'->sv
open ByteArray renaming empty->aw2,ext->asq,push->aw3,size->aw4
open Go renaming Program->cG,TypeId->gT
open Go.ByteArray renaming toList_eq->asr
open Go.IntKind renaming i64->vf
open Go.IntWalk renaming i64_in->pf
open Go.Op renaming bytesLess->iq
open Go.Region renaming wanted->p5
open Go.Result renaming andThen_ok->gy
open Go.Sem renaming run_bind->gr,run_pure->hy
open Go.Value renaming cells->pg,ownBlock->pj
open Go.Value.pointer renaming injEq->axb
open Go.World.grownBy renaming refl->asu
open List renaming all_eq_true->j7,cons_append->b3,getElem?_append_left->rE,getElem?_eq_getElem->cl,getElem?_eq_none->qQ,getElem?_eq_some_iff->fM,length_append->p6,length_cons->mI,length_drop->tS,map_cons->hc,mem_append->j2,mem_cons->gK,mem_cons_of_mem->qR,mem_filter->oL,mem_map->hz,pairwise_cons->n3,take->mJ,take_length->jv,take_of_length_le->iE
open List.cons renaming injEq->rD
open Nat renaming add_mul->qT,le_refl->dL,le_trans->kx,mul_le_mul_right->rG
open Option renaming bind_some->lX,isSome_iff_exists->fA,isSome_none->mL,map_eq_some_iff->hl,map_some->pn
open Option.some renaming injEq->dS
open Prod.mk renaming injEq->jj
open _root_ renaming False->et,Option->bc,UInt8->cW,and_true->jk,beq_iff_eq->ey,congrArg->ff,decide_eq_true_eq->gu
namespace Go.Pv
section
open Go Go.RowKit
inductive aA where
 |loc (s:Nat)
 |obj (n:Nat)
 deriving DecidableEq,Inhabited
inductive jS where
 |no
 |nil
 |own (k:aA)
 |tr (k:aA) (j:Nat)
 |lo (k:aA)
 deriving DecidableEq,Inhabited
inductive af where
 |junk
 |int (k:IntKind) (n:Int)
 |bool (b:Bool)
 |str (s:List cW)
 |slice (sz:Nat) (tag:jS) (xs:List af)
 |agg (cs:List af)
 |ptr (key:aA) (off:Nat)
 |eptr (x:af)
 |iface (t:Nat) (x:af)
 |nilp
 |tuple (bk:List af)
 |func (f:Nat) (dE:List af)
 |gmap (key:aA)
 |row (sz:Nat) (key:aA) (n:Nat)
 |rptr (sz:Nat) (key:aA) (n i f:Nat)
 |hdm (clock:Nat) (borns:List Nat)
 |hdi (since:Nat) (seen:List Nat) (last:Nat)
 |cst (v:Value)
 deriving Inhabited
structure a8 where
 A:Nat->Nat->Prop
 bx:aA->bc Nat
 ow:aA->bc (Nat×Value)
 tr:aA->Nat->Nat->Prop
def lim:Nat:=68719476736
def kR(w:World)(A:Nat->Nat->Prop)(b:Nat):Nat->List Value->Prop
 |_,[]=>True
 |off,u::us=>(A b off/\w.cell? ⟨b,off,none⟩=some u)/\kR w A b (off+1) us
def shape(w:World)(b:Nat):bc (Nat×gT×(Nat×Nat)):=
 match w.heap[b]? with
 |some (.cells cur el fz)=>some (cur.size,el,fz)
 |_=>none
def ya{w w':World}{b:Nat}(h:w'.heap[b]? =w.heap[b]?):shape w' b=shape w b:=by unfold shape;rw[h]
mutual
def cX(t:Bool)(w:World)(A:Nat->Nat->Prop)(F:Nat->Prop):af->Value->Prop
 | .int k n,v=>v= .int k n
 | .bool b,v=>v= .bool b
 | .str s,v=>v= .string ⟨s.toArray⟩/\s.length<=lim
 | .slice sz _ xs,v=> ∃a cap,v= .slice a xs.length cap/\xs.length<=cap/\(cap<=maxLen/\xs.length<=lim)/\
   (xs=[]\/ ∃b off us G,a=some ⟨b,off,none⟩/\F b/\(∀c,G c->F c/\(t=true->c≠b))/\kR w A b off us/\(t=true->off=0/\0<us.length/\∃el,shape w b=some (cap*sz,el,(0,0)))/\jU t w A G sz xs us)
 | .agg cs,v=> ∃us:Array Value,v= .agg us/\ky t w A F cs us.toList
 |_,_=>et
def ky(t:Bool)(w:World)(A:Nat->Nat->Prop)(F:Nat->Prop):List af->List Value->Prop
 |[],us=>us=[]
 |c::cs,us=> ∃u e d a,us=u::e/\((∀b,d b->F b)/\(∀b,a b->F b)/\(t=true->∀b,d b->¬a b))/\(cX t w A d c u/\u.oneCell'=true)/\ky t w A a cs e
def jU(t:Bool)(w:World)(A:Nat->Nat->Prop)(F:Nat->Prop)(sz:Nat):List af->List Value->Prop
 |[],us=>us=[]
 |x::xs,us=> ∃u e d a,us=u.cells.toList++e/\((∀b,d b->F b)/\(∀b,a b->F b)/\(t=true->∀b,d b->¬a b))/\(cX t w A d x u/\u.cells.size=sz/\(∀c∈u.cells.toList,c.oneCell'=true))/\jU t w A a sz xs e
end
mutual
def aU(w:World)(ν:a8):af->Value->Prop
 | .junk,_=>True
 | .int k n,v=>v= .int k n
 | .bool b,v=>v= .bool b
 | .str s,v=>v= .string ⟨s.toArray⟩/\s.length<=lim
 | .slice sz tag xs,v=>
   (∃a cap,v= .slice a xs.length cap/\xs.length<=cap/\(cap<=maxLen/\xs.length<=lim)/\(xs=[]\/ ∃b off us,a=some ⟨b,off,none⟩/\kR w ν.A b off us/\dt w ν sz xs us))/\
   (tag= .nil->v= .slice none 0 0)/\
   (∀g,tag= .own g->∃n u,ν.ow g=some (n,u)/\xs.length<=n/\(xs.length=n->v=u))/\
   (∀k j,tag= .tr k j->cX true w ν.A (ν.tr k j) (.slice sz tag xs) v)/\(∀k,tag= .lo k->cX false w ν.A (ν.tr k 0) (.slice sz tag xs) v)
 | .agg cs,v=> ∃us:Array Value,v= .agg us/\cU w ν cs us.toList
 | .ptr key off,v=> ∃b,ν.bx key=some b/\v= .pointer (some ⟨b,off,none⟩)
 | .eptr x,v=> ∃b off u,v= .pointer (some ⟨b,off,none⟩)/\aU w ν x u/\kR w ν.A b off u.cells.toList
 | .iface t x,v=> ∃u,v= .iface t u/\aU w ν x u
 | .nilp,v=>v= .pointer none
 | .tuple bk,v=> ∃us:Array Value,v= .tuple us/\c1 w ν bk us.toList
 | .func f dE,v=> ∃us:Array Value,v= .func (.func f) #[] us/\c1 w ν dE us.toList
 | .gmap key,v=> ∃b,ν.bx key=some b/\v= .map (some b)
 | .row _ key n,v=>(∃b cap,v= .slice (some ⟨b,0,none⟩) n cap)/\n<=lim/\∃n' u,ν.ow key=some (n',u)/\n<=n'/\(n=n'->v=u)
 | .rptr sz key n i f,v=>(∃b o,v= .pointer (some ⟨b,o,none⟩))/\i<n/\∃n' u,ν.ow key=some (n',u)/\n<=n'/\(n=n'->∃b,u.ownBlock=some b/\v= .pointer (some ⟨b,i*sz+f,none⟩))
 | .hdm _ _,_=>et
 | .hdi _ _ _,_=>et
 | .cst c,v=>v=c
def cU(w:World)(ν:a8):List af->List Value->Prop
 |[],us=>us=[]
 |c::cs,us=> ∃u a,us=u::a/\(aU w ν c u/\u.oneCell'=true)/\cU w ν cs a
def c1(w:World)(ν:a8):List af->List Value->Prop
 |[],us=>us=[]
 |c::cs,us=> ∃u a,us=u::a/\aU w ν c u/\c1 w ν cs a
def dt(w:World)(ν:a8)(sz:Nat):List af->List Value->Prop
 |[],us=>us=[]
 |x::xs,us=> ∃u a,us=u.cells.toList++a/\(aU w ν x u/\u.cells.size=sz/\(∀c∈u.cells.toList,c.oneCell'=true))/\dt w ν sz xs a
end
def BH{w w':World}{A c:Nat->Nat->Prop}{b:Nat}(a:∀b o,A b o->c b o/\w'.cell? ⟨b,o,none⟩=w.cell? ⟨b,o,none⟩):
  ∀(us:List Value) (off:Nat),kR w A b off us->kR w' c b off us
 |[],_,_=>trivial
 |_::us,off,h=>⟨⟨(a _ _ h.1.1).1,(a _ _ h.1.1).2.trans h.1.2⟩,BH a us (off+1) h.2⟩
mutual
def vJ{t:Bool}{w w':World}{A j:Nat->Nat->Prop}(f:∀b o,A b o->j b o/\w'.cell? ⟨b,o,none⟩=w.cell? ⟨b,o,none⟩)(g:∀b o,A b o->shape w' b=shape w b):∀(p:af) (F d:Nat->Prop) (v:Value),(∀b,F b->d b)->cX t w A F p v->cX t w' j d p v
 | .int k n,_,_,_,_,h=>by simp only[cX]at h⊢;exact h
 | .bool b,_,_,_,_,h=>by simp only[cX]at h⊢;exact h
 | .str s,_,_,_,_,h=>by simp only[cX]at h⊢;exact h
 | .slice sz tag xs,F,d,v,e,h=>by
  simp only[cX]at h⊢;obtain⟨a,cap,J,U,x,i⟩:=h;refine⟨a,cap,J,U,x,?_⟩;rcases i with i|⟨b,off,us,G,y,B,l,m,r,q⟩
  ·exact .inl i
  ·refine .inr ⟨b,off,us,G,y,e _ B,fun c aw=>⟨e _ (l c aw).1,(l c aw).2⟩,BH f _ _ m,fun z=>?_,GX f g xs G G _ (fun _ h=>h) q⟩;obtain⟨f1,f2,el,f3⟩:=r z;refine⟨f1,f2,el,?_⟩;cases us with
   |nil=>simp at f2
   |cons u us=>rw[g b off m.1.1];exact f3
 | .agg cs,F,d,v,e,h=>by simp only[cX]at h⊢;obtain⟨us,J,U⟩:=h;exact⟨us,J,UJ f g cs F d _ e U⟩
 | .junk,_,_,_,_,h=>by simp[cX]at h
 | .ptr _ _,_,_,_,_,h=>by simp[cX]at h
 | .eptr _,_,_,_,_,h=>by simp[cX]at h
 | .iface _ _,_,_,_,_,h=>by simp[cX]at h
 | .nilp,_,_,_,_,h=>by simp[cX]at h
 | .tuple _,_,_,_,_,h=>by simp[cX]at h
 | .func _ _,_,_,_,_,h=>by simp[cX]at h
 | .gmap _,_,_,_,_,h=>by simp[cX]at h
 | .row _ _ _,_,_,_,_,h=>by simp[cX]at h
 | .rptr _ _ _ _ _,_,_,_,_,h=>by simp[cX]at h
 | .hdm _ _,_,_,_,_,h=>by simp[cX]at h
 | .hdi _ _ _,_,_,_,_,h=>by simp[cX]at h
 | .cst _,_,_,_,_,h=>by simp[cX]at h
def UJ{t:Bool}{w w':World}{A i:Nat->Nat->Prop}(j:∀b o,A b o->i b o/\w'.cell? ⟨b,o,none⟩=w.cell? ⟨b,o,none⟩)(l:∀b o,A b o->shape w' b=shape w b):∀(cs:List af) (F a:Nat->Prop) (us:List Value),(∀b,F b->a b)->ky t w A F cs us->ky t w' i a cs us
 |[],_,_,_,_,h=>by simp only[ky]at h⊢;exact h
 |c::cs,F,a,us,g,h=>by simp only[ky]at h⊢;obtain⟨u,k,e,d,J,⟨U,q,r⟩,⟨p,m⟩,n⟩:=h;exact⟨u,k,e,d,J,⟨fun b f=>g _ (U b f),fun b f=>g _ (q b f),r⟩,⟨vJ j l c e e u (fun _ h=>h) p,m⟩,UJ j l cs d d k (fun _ h=>h) n⟩
def GX{t:Bool}{w w':World}{A i:Nat->Nat->Prop}(j:∀b o,A b o->i b o/\w'.cell? ⟨b,o,none⟩=w.cell? ⟨b,o,none⟩)(l:∀b o,A b o->shape w' b=shape w b){sz:Nat}:∀(cs:List af) (F a:Nat->Prop) (us:List Value),(∀b,F b->a b)->jU t w A F sz cs us->jU t w' i a sz cs us
 |[],_,_,_,_,h=>by simp only[jU]at h⊢;exact h
 |c::cs,F,a,us,g,h=>by simp only[jU]at h⊢;obtain⟨u,k,e,d,J,⟨U,q,r⟩,⟨p,m⟩,n⟩:=h;exact⟨u,k,e,d,J,⟨fun b f=>g _ (U b f),fun b f=>g _ (q b f),r⟩,⟨vJ j l c e e u (fun _ h=>h) p,m⟩,GX j l cs d d k (fun _ h=>h) n⟩
end
mutual
def az(S:aA->Prop):af->Prop
 | .slice _ tag xs=>(match tag with| .own k=>S k| .tr k _=>S k| .lo k=>S k|_=>True)/\aH S xs
 | .agg cs=>aH S cs
 | .ptr k _=>S k
 | .eptr x=>az S x
 | .iface _ x=>az S x
 | .tuple bk=>aH S bk
 | .func _ dE=>aH S dE
 | .gmap k=>S k
 | .row _ k _=>S k
 | .rptr _ k _ _ _=>S k
 |_=>True
def aH(S:aA->Prop):List af->Prop
 |[]=>True
 |x::xs=>az S x/\aH S xs
end
mutual
def uN{S T:aA->Prop}(h:∀k,S k->T k):∀p:af,az S p->az T p
 | .junk,_=>by simp[az]
 | .int _ _,_=>by simp[az]
 | .bool _,_=>by simp[az]
 | .str _,_=>by simp[az]
 | .slice sz tag xs,a=>by simp only[az]at a⊢;exact⟨by cases tag<;>first|trivial|exact h _ a.1,jd h xs a.2⟩
 | .agg cs,a=>by simp only[az]at a⊢;exact jd h cs a
 | .ptr k _,a=>by simp only[az]at a⊢;exact h _ a
 | .eptr x,a=>by simp only[az]at a⊢;exact uN h x a
 | .iface _ x,a=>by simp only[az]at a⊢;exact uN h x a
 | .nilp,_=>by simp[az]
 | .tuple bk,a=>by simp only[az]at a⊢;exact jd h bk a
 | .func _ dE,a=>by simp only[az]at a⊢;exact jd h dE a
 | .gmap k,a=>by simp only[az]at a⊢;exact h _ a
 | .row _ k _,a=>by simp only[az]at a⊢;exact h _ a
 | .rptr _ k _ _ _,a=>by simp only[az]at a⊢;exact h _ a
 | .hdm _ _,_=>by simp[az]
 | .hdi _ _ _,_=>by simp[az]
 | .cst _,_=>by simp[az]
def jd{S T:aA->Prop}(h:∀k,S k->T k):∀b:List af,aH S b->aH T b
 |[],_=>by simp[aH]
 |x::xs,a=>by simp only[aH]at a⊢;exact⟨uN h x a.1,jd h xs a.2⟩
end
mutual
def HX:∀p:af,az (fun _=>True) p
 | .junk=>by simp[az]
 | .int _ _=>by simp[az]
 | .bool _=>by simp[az]
 | .str _=>by simp[az]
 | .slice sz tag xs=>by simp only[az];exact⟨by cases tag<;>trivial,wc xs⟩
 | .agg cs=>by simp only[az];exact wc cs
 | .ptr k _=>by simp[az]
 | .eptr x=>by simp only[az];exact HX x
 | .iface _ x=>by simp only[az];exact HX x
 | .nilp=>by simp[az]
 | .tuple bk=>by simp only[az];exact wc bk
 | .func _ dE=>by simp only[az];exact wc dE
 | .gmap k=>by simp[az]
 | .row _ k _=>by simp[az]
 | .rptr _ k _ _ _=>by simp[az]
 | .hdm _ _=>by simp[az]
 | .hdi _ _ _=>by simp[az]
 | .cst _=>by simp[az]
def wc:∀a:List af,aH (fun _=>True) a
 |[]=>by simp[aH]
 |x::xs=>by simp only[aH];exact⟨HX x,wc xs⟩
end
def gM:List Nat->List Value->List MapEntry
 |b::a,k::v::r=>⟨k,v,b⟩::gM a r
 |_,_=>[]
def lQ(cs:List af)(us:Array Value)(el:gT):Obj:=
 match cs with
 | .hdm clock borns::_=>.map (gM borns us.toList).toArray clock
 | .hdi since seen last::_=>.mapIter (match us.toList with|[.map m]=>m|_=>none) since seen.toArray last
 |_=>.cells us el
structure alv (clock:Nat) (borns:List Nat) (r:List af):Prop where
 len:r.length=2*borns.length
 inc:borns.Pairwise (· < ·)
 lt:∀b∈borns,b<clock
def kW(w:World)(ν:a8)(cs:List af)(us:List Value):Prop:=
 match cs with
 | .hdm clock borns::r=>c1 w ν r us/\alv clock borns r
 | .hdi _ _ _::r=>c1 w ν r us
 |cs=>cU w ν cs us
def gR:List af->Bool
 | .hdm _ _::_=>false
 | .hdi _ _ _::_=>false
 |_=>true
def wB{w:World}{ν:a8}{cs:List af}{us:List Value}(h:cU w ν cs us):gR cs=true:=by
 unfold gR;split
 ·simp only[cU,aU]at h;obtain⟨_,_,_,⟨h,_⟩,_⟩:=h;exact h.elim
 ·simp only[cU,aU]at h;obtain⟨_,_,_,⟨h,_⟩,_⟩:=h;exact h.elim
 ·rfl
def o9{cs:List af}(h:gR cs=true)(us:Array Value)(el:gT):lQ cs us el= .cells us el:=by
 unfold gR at h;unfold lQ;split at h<;>first|cases h|skip
 rfl
def pa{w:World}{ν:a8}{cs:List af}(h:gR cs=true)(us:List Value):kW w ν cs us=cU w ν cs us:=by
 unfold gR at h;unfold kW;split at h<;>first|cases h|skip
 rfl
structure oN (S:aA->Prop) (w:World) (ν:a8) (w':World) (bm:a8):Prop where
 A:∀b o,ν.A b o->bm.A b o/\w'.cell? ⟨b,o,none⟩=w.cell? ⟨b,o,none⟩
 bx:∀k b,S k->ν.bx k=some b->bm.bx k=some b
 ow:∀g n u,S g->ν.ow g=some (n,u)->∃n' eH,bm.ow g=some (n',eH)/\(n'=n/\eH=u\/n<n')
 sh:∀b o,ν.A b o->shape w' b=shape w b
 tr:∀k j b,S k->ν.tr k j b->bm.tr k j b
abbrev mf:=oN (fun _=>True)
mutual
def u2{S:aA->Prop}{w w':World}{ν bm:a8}(ar:oN S w ν w' bm):∀(p:af) (v:Value),az S p->aU w ν p v->aU w' bm p v
 | .junk,_,_,_=>by simp[aU]
 | .int k n,_,_,h=>by simp only[aU]at h⊢;exact h
 | .bool b,_,_,h=>by simp only[aU]at h⊢;exact h
 | .str s,_,_,h=>by simp only[aU]at h⊢;exact h
 | .slice sz tag xs,v,d,h=>by
  simp only[aU,az]at h d⊢;obtain⟨⟨a,cap,J,U,m,l⟩,q,z,B,A⟩:=h;refine⟨⟨a,cap,J,U,m,?_⟩,q,fun g be=>?_,fun k j o=>?_,fun k o=>?_⟩
  ·rcases l with l|⟨b,off,us,l,z,F⟩
   ·exact .inl l
   ·exact .inr ⟨b,off,us,l,BH ar.A _ _ z,I7 ar sz xs us d.2 F⟩
  ·obtain⟨n,u,H,K,G⟩:=z g be;subst be;obtain⟨n',E,f1,f2⟩:=ar.ow g n u d.1 H;refine⟨n',E,f1,?_⟩;rcases f2 with⟨rfl,rfl⟩|f2
   ·exact⟨K,G⟩
   ·exact⟨Ω,fun e=>Ω⟩
  ·have:=B k j o;subst o;exact vJ ar.A ar.sh _ _ _ _ (fun b=>ar.tr k j b d.1) this
  ·have:=A k o;subst o;exact vJ ar.A ar.sh _ _ _ _ (fun b=>ar.tr k 0 b d.1) this
 | .agg cs,v,d,h=>by simp only[aU,az]at h d⊢;obtain⟨us,J,U⟩:=h;exact⟨us,J,Ja ar cs _ d U⟩
 | .ptr key off,v,d,h=>by simp only[aU,az]at h d⊢;obtain⟨b,J,U⟩:=h;exact⟨b,ar.bx _ _ d J,U⟩
 | .iface t x,v,d,h=>by simp only[aU,az]at h d⊢;obtain⟨u,J,U⟩:=h;exact⟨u,J,u2 ar x u d U⟩
 | .eptr x,v,d,h=>by simp only[aU,az]at h d⊢;obtain⟨b,off,u,J,U,m⟩:=h;exact⟨b,off,u,J,u2 ar x u d U,BH ar.A _ _ m⟩
 | .nilp,_,_,h=>by simp only[aU]at h⊢;exact h
 | .tuple bk,v,d,h=>by simp only[aU,az]at h d⊢;obtain⟨us,J,U⟩:=h;exact⟨us,J,zS ar bk _ d U⟩
 | .func f dE,v,d,h=>by simp only[aU,az]at h d⊢;obtain⟨us,J,U⟩:=h;exact⟨us,J,zS ar dE _ d U⟩
 | .gmap key,v,d,h=>by simp only[aU,az]at h d⊢;obtain⟨b,J,U⟩:=h;exact⟨b,ar.bx _ _ d J,U⟩
 | .row sz key n,v,d,h=>by
  simp only[aU,az]at h d⊢;obtain⟨J,U,n',u,m,l,q⟩:=h;obtain⟨y,r,f1,f2⟩:=ar.ow key n' u d m;refine⟨J,U,y,r,f1,?_⟩;rcases f2 with⟨rfl,rfl⟩|f2
  ·exact⟨l,q⟩
  ·exact⟨Ω,fun e=>Ω⟩
 | .rptr sz key n i f,v,d,h=>by
  simp only[aU,az]at h d⊢;obtain⟨J,U,n',u,m,l,q⟩:=h;obtain⟨y,r,f1,f2⟩:=ar.ow key n' u d m;refine⟨J,U,y,r,f1,?_⟩;rcases f2 with⟨rfl,rfl⟩|f2
  ·exact⟨l,q⟩
  ·exact⟨Ω,fun e=>Ω⟩
 | .hdm _ _,_,_,h=>by simp only[aU]at h
 | .hdi _ _ _,_,_,h=>by simp only[aU]at h
 | .cst c,_,_,h=>by simp only[aU]at h⊢;exact h
def Ja{S:aA->Prop}{w w':World}{ν bm:a8}(ar:oN S w ν w' bm):∀(cs:List af) (us:List Value),aH S cs->cU w ν cs us->cU w' bm cs us
 |[],_,_,h=>by simp only[cU]at h⊢;exact h
 |c::cs,us,a,h=>by simp only[cU,aH]at h a⊢;obtain⟨u,b,J,U,d⟩:=h;exact⟨u,b,J,⟨u2 ar c u a.1 U.1,U.2⟩,Ja ar cs b a.2 d⟩
def zS{S:aA->Prop}{w w':World}{ν bm:a8}(ar:oN S w ν w' bm):∀(cs:List af) (us:List Value),aH S cs->c1 w ν cs us->c1 w' bm cs us
 |[],_,_,h=>by simp only[c1]at h⊢;exact h
 |c::cs,us,a,h=>by simp only[c1,aH]at h a⊢;obtain⟨u,b,J,U,d⟩:=h;exact⟨u,b,J,u2 ar c u a.1 U,zS ar cs b a.2 d⟩
def I7{S:aA->Prop}{w w':World}{ν bm:a8}(ar:oN S w ν w' bm)(sz:Nat):∀(xs:List af) (us:List Value),aH S xs->dt w ν sz xs us->dt w' bm sz xs us
 |[],_,_,h=>by simp only[dt]at h⊢;exact h
 |x::xs,us,a,h=>by simp only[dt,aH]at h a⊢;obtain⟨u,b,J,⟨U,d,e⟩,c⟩:=h;exact⟨u,b,J,⟨u2 ar x u a.1 U,d,e⟩,I7 ar sz xs b a.2 c⟩
end
def Pf{S:aA->Prop}{w w':World}{ν bm:a8}(ar:oN S w ν w' bm){cs:List af}{us:List Value}(a:aH S cs)(h:kW w ν cs us):kW w' bm cs us:=by
 unfold kW at h⊢;split
 ·simp only[aH]at a;exact⟨zS ar _ _ a.2 h.1,h.2⟩
 ·simp only[aH]at a;exact zS ar _ _ a.2 h
 ·rename_i J U;split at h
  ·exact absurd rfl (J _ _ _)
  ·exact absurd rfl (U _ _ _ _)
  ·exact Ja ar _ _ a h
section
variable {w w':World} {ν bm:a8} (ar:mf w ν w' bm)
include ar
theorem zT{p:af}{v:Value}(h:aU w ν p v):aU w' bm p v:=u2 ar p v (HX p) h
theorem aal{p:List af}{v:List Value}(h:cU w ν p v):cU w' bm p v:=Ja ar p v (wc p) h
theorem Jb{p:List af}{v:List Value}(h:c1 w ν p v):c1 w' bm p v:=zS ar p v (wc p) h
theorem rq{p:List af}{v:List Value}(h:kW w ν p v):kW w' bm p v:=Pf ar (wc p) h
theorem Ck{sz:Nat}{p:List af}{v:List Value}(h:dt w ν sz p v):dt w' bm sz p v:=I7 ar sz p v (wc p) h
end
end
section
open Go Go.RowKit
def get(k:Nat):List (Nat×af)->af
 |[]=>.junk
 |(i,p)::r=>if i=k then p else get k r
def put(k:Nat)(p:af):List (Nat×af)->List (Nat×af)
 |[]=>[(k,p)]
 |(i,q)::r=>if i=k then(i,p)::r else(i,q)::put k p r
def ad{α:Type}(k:aA):List (aA×α)->bc α
 |[]=>none
 |(i,p)::r=>if i=k then some p else ad k r
def cH{α:Type}(k:aA)(p:α):List (aA×α)->List (aA×α)
 |[]=>[(k,p)]
 |(i,q)::r=>if i=k then(i,p)::r else(i,q)::cH k p r
def ql(k j:Nat)(p:af):∀l,get j (put k p l)=if k=j then p else get j l
 |[]=>by simp[get,put]
 |(i,q)::r=>by
  by_cases h:i=k
  ·subst h;by_cases U:i=j<;>simp[get,put,U]
  ·by_cases U:i=j
   ·subst U;simp[get,put,h,Ne.symm h]
   ·simp[get,put,h,U,ql k j p r]
def je{α:Type}(k j:aA)(p:α):∀l,ad j (cH k p l)=if k=j then some p else ad j l
 |[]=>by simp[ad,cH]
 |(i,q)::r=>by
  by_cases h:i=k
  ·subst h;by_cases U:i=j<;>simp[ad,cH,U]
  ·by_cases U:i=j
   ·subst U;simp[ad,cH,h,Ne.symm h]
   ·simp[ad,cH,h,U,je k j p r]
structure dT where
 n:Nat
 el:Nat
 sz:Nat
 xs:bc (List af)
def Po(w:World)(ν:a8)(o:dT)(v:Value)(us:List Value):Prop:=∀xs,o.xs=some xs->xs.length=o.n/\dt w ν o.sz xs us/\∀bl,v.ownBlock=some bl->∀j,¬ν.A bl j
def tF{w w':World}{ν bm:a8}(ar:mf w ν w' bm){o:dT}{v:Value}{us:List Value}(c:∀bl,v.ownBlock=some bl->∀j,bm.A bl j->ν.A bl j)(h:Po w ν o v us):Po w' bm o v us:=fun xs a=>⟨(h xs a).1,Ck ar (h xs a).2.1,fun bl b j d=>(h xs a).2.2 bl b j (c bl b j d)⟩
def dU(S:aA->Prop)(o:dT):Prop:= ∀xs,o.xs=some xs->aH S xs
structure bo where
 t:List (Nat×af)
 b:List (aA×List af)
 e:List (aA×dT)
 n:Nat
 o:List aA
def fresh(n:Nat)(o:List aA)(k:aA):Prop:=(match k with| .loc m=>n<=m| .obj _=>True)/\k∉o
def LI{n n':Nat}{o o':List aA}(b:n<=n')(ar:∀k∈o,k∈o'){k:aA}(h:fresh n' o' k):fresh n o k:=by unfold fresh at h⊢;exact⟨by cases k<;>simp at h⊢;omega,fun a=>h.2 (ar k a)⟩
def Cy(ν:a8)(b:List (aA×List af))(e:List (aA×dT))(bl:Nat):Prop:=(∃k,(ad k b).isSome/\ν.bx k=some bl)\/(∃g n v,(ad g e).isSome/\ν.ow g=some (n,v)/\v.ownBlock=some bl)
structure Good (pr:Nat->Prop) (w:World) (ν:a8) (b:List (aA×List af)) (e:List (aA×dT)):Prop where
 alt:∀bl o,ν.A bl o->bl<w.heap.size
 box:∀k cs,ad k b=some cs->∃bl us el,ν.bx k=some bl/\pr bl/\(∀o,¬ν.A bl o)/\w.heap[bl]? =some (lQ cs us el)/\kW w ν cs us.toList
 inj:∀k bt bl,(ad k b).isSome->(ad bt b).isSome->ν.bx k=some bl->ν.bx bt=some bl->k=bt
 own:∀g o,ad g e=some o->∃v us,ν.ow g=some (o.n,v)/\w.ownsRow 0 o.el o.sz v o.n us/\(∀bl,v.ownBlock=some bl->pr bl/\(∀j,ν.A bl j->j<o.n*o.sz))/\Po w ν o v us
 oinj:∀g fD n n' v v' bl,(ad g e).isSome->(ad fD e).isSome->ν.ow g=some (n,v)->ν.ow fD=some (n',v')->v.ownBlock=some bl->v'.ownBlock=some bl->g=fD
 obx:∀g k n v bl,(ad g e).isSome->(ad k b).isSome->ν.ow g=some (n,v)->v.ownBlock=some bl->ν.bx k=some bl->et
 one:∀k,ν.bx k=none\/ν.ow k=none
 otr:∀bl,Cy ν b e bl->∀k j,¬ν.tr k j bl
structure fh where
 w0:World
 ν0:a8
 mt:Nat->Prop
 N:Nat
 ob:List aA
def fh.pr(C:fh)(bl:Nat):Prop:=C.mt bl\/C.w0.heap.size<=bl
def eo:aA:= .obj 990001
def qJ:aA:= .obj 990002
structure pq (C:fh) (w:World) (ν:a8):Prop where
 os:w.os=C.w0.os
 tape:w.tape=C.w0.tape
 output:w.output=C.w0.output
 size:C.w0.heap.size<=w.heap.size
 block:∀k,k<C.w0.heap.size->¬C.mt k->w.heap[k]? =C.w0.heap[k]?
 keep:∀b o,C.ν0.A b o->ν.A b o/\w.cell? ⟨b,o,none⟩=C.w0.cell? ⟨b,o,none⟩
 fresh:∀b o,ν.A b o->C.ν0.A b o\/C.pr b
 obj:∀n b,C.ν0.bx (.obj n)=some b->ν.bx (.obj n)=some b
 obn:∀n b,C.ν0.bx (.obj n)=some b-> .obj n∈C.ob
 row:∀m n u,C.ν0.ow (.obj m)=some (n,u)->∃n' eH,ν.ow (.obj m)=some (n',eH)/\(n'=n/\eH=u\/n<n')
 obr:∀m n u,C.ν0.ow (.obj m)=some (n,u)-> .obj m∈C.ob
 trd:∀k j bt dg b,ν.tr k j b->ν.tr bt dg b->k=bt/\j=dg
 trb:∀k j b,ν.tr k j b->(k=eo\/C.w0.heap.size<=b)/\b<w.heap.size
 trn:∀k j b,ν.tr k j b->ν.bx k=none/\ν.ow k=none
 sh:∀b o,C.ν0.A b o->shape w b=shape C.w0 b
def Fc{ν bm:a8}{g:aA}{n:Nat}{u:Value}(h:∃n' a,ν.ow g=some (n',a)/\(n'=n/\a=u\/n<n'))(ar:∀n u,ν.ow g=some (n,u)->∃n' a,bm.ow g=some (n',a)/\(n'=n/\a=u\/n<n')):
  ∃n' a,bm.ow g=some (n',a)/\(n'=n/\a=u\/n<n'):=by
 obtain⟨f,d,i,b⟩:=h;obtain⟨e,c,f1,f2⟩:=ar f d i;refine⟨e,c,f1,?_⟩;rcases b with⟨rfl,rfl⟩|b
 ·exact f2
 ·rcases f2 with⟨rfl,rfl⟩|f2
  ·exact .inr b
  ·exact .inr Ω
structure c5 (C:fh) (st:bo) (a:Act) (w:World) (ν:a8):Prop where
 good:Good C.pr w ν st.b st.e
 fr:pq C w ν
 defers:a.defers=[]
 size:a.tmps.size=C.N
 slot:∀i,aU w ν (get i st.t) (a.tmps.getD i undef)
 new:∀k,fresh st.n st.o k->ν.bx k=none/\ν.ow k=none/\∀j b,¬ν.tr k j b
def e3(d:bc Nat)(p:af)(t:List (Nat×af)):List (Nat×af):=
 match d with
 |some d=>put d p t
 |none=>t
def j4(N:Nat)(d:bc Nat):Bool:=match d with|some d=>decide (d<N)|none=>true
def c5.put{C:fh}{st:bo}{a:Act}{w:World}{ν:a8}(h:c5 C st a w ν){d:bc Nat}(f:j4 C.N d=true){p:af}{v:Value}(c:aU w ν p v):
  c5 C {st with t:=e3 d p st.t} (a.put d v) w ν:=by
 cases d with
 |none=>exact h
 |some d=>
  have b:d<a.tmps.size:=by rw[h.size];simpa[j4]using f
  refine⟨h.good,h.fr,h.defers,by simpa[Act.put]using h.size,fun i=>?_,h.new⟩;simp only[e3,ql];by_cases e:d=i
  ·subst e;simpa[Act.put,Array.getD_eq_getD_getElem?,b]using c
  ·have:=h.slot i;simpa[e,Act.put,Array.getD_eq_getD_getElem?,Array.getElem?_setIfInBounds_ne e]using this
def c5.over{C:fh}{st st':bo}{a:Act}{w w':World}{ν bm:a8}(h:c5 C st a w ν)(ar:mf w ν w' bm)(c:st'.t=st.t)(be:Good C.pr w' bm st'.b st'.e)(d:pq C w' bm)
  (e:∀k,fresh st'.n st'.o k->bm.bx k=none/\bm.ow k=none/\∀j b,¬bm.tr k j b):c5 C st' a w' bm:=
 ⟨be,d,h.defers,h.size,fun i=>by rw[c];exact zT ar (h.slot i),e⟩
inductive dM where
 |t (i:Nat)
 |c (p:af)
 deriving Inhabited
def cD(t:List (Nat×af)):dM->af
 | .t i=>get i t
 | .c p=>p
def Ga:af->Value->Bool
 | .int k n,.int bt n'=>decide (k=bt/\n=n')
 | .bool b,.bool b7=>b==b7
 | .str s,.string l=>decide (l.data.toList=s/\s.length<=lim)
 | .slice _ .nil [],.slice none 0 0=>true
 | .nilp,.pointer none=>true
 | .tuple [],.tuple ⟨[]⟩=>true
 | .func f [],.func (.func g) ⟨[]⟩ ⟨[]⟩=>f==g
 | .junk,_=>true
 |_,_=>false
def Rg(w:World)(ν:a8){p:af}{v:Value}(h:Ga p v=true):aU w ν p v:=by
 unfold Ga at h;split at h
 ·simp at h;obtain⟨rfl,rfl⟩:=h;simp[aU]
 ·simp at h;subst h;simp[aU]
 ·rename_i s l;simp at h;obtain⟨J,U⟩:=h;refine⟨?_,U⟩;subst J;simp
 ·simp only[aU];refine⟨⟨none,0,rfl,Ψ,Ψ,Ψ⟩,Ψ,(fun _ h=>by cases h),(fun _ _ h=>by cases h),(fun _ h=>by cases h)⟩
 ·simp[aU]
 ·simp[aU,c1]
 ·simp at h;subst h;simp[aU,c1]
 ·simp[aU]
 ·cases h
def Av:List af->List Value->Bool
 |[],[]=>true
 |p::a,v::bk=>Ga p v&&v.oneCell'&&Av a bk
 |_,_=>false
def Au:af->Value->Bool
 | .agg cs,.agg us=>Av cs us.toList
 |p,v=>Ga p v
def Rh(w:World)(ν:a8):∀(a:List af) (bk:List Value),Av a bk=true->cU w ν a bk
 |[],[],_=>by simp[cU]
 |[],_::_,h=>by simp[Av]at h
 |_::_,[],h=>by simp[Av]at h
 |p::a,v::bk,h=>by simp only[Av,cP]at h;simp only[cU];exact⟨v,bk,rfl,⟨Rg w ν h.1.1,h.1.2⟩,Rh w ν a bk h.2⟩
def Kt(w:World)(ν:a8){p:af}{v:Value}(h:Au p v=true):aU w ν p v:=by
 unfold Au at h;split at h
 ·simp only[aU];exact⟨_,rfl,Rh w ν _ _ h⟩
 ·exact Rg w ν h
def eN:dM->Operand->Bool
 | .t i,.tmp j=>i==j
 | .c p,.const v=>Au p v
 | .c (.func f []),.func g=>f==g
 |_,_=>false
def e1{C:fh}{st:bo}{a:Act}{w:World}{ν:a8}(h:c5 C st a w ν){x:dM}{o:Operand}(b:eN x o=true):aU w ν (cD st.t x) (a.eval o):=by
 unfold eN at b;split at b
 ·simp at b;subst b;simpa[cD,Act.eval]using h.slot _
 ·simpa[cD,Act.eval]using Kt w ν b
 ·simp at b;subst b;simp[cD,Act.eval,aU,c1]
 ·cases b
inductive CR where
 |int (k:IntKind)
 |bool
 |str
 |slice (e:Nat)
 |struct (ei:List (Nat×Nat))
 |map (k e:Nat)
 |other
 deriving DecidableEq
structure eu where
 size:Nat
 bytes:Nat
 kind:CR
 zero:af
def CR.isAgg:CR->Bool
 | .struct _=>true
 |_=>false
def CJ:List af->List Value->Bool
 |[],[]=>true
 |p::a,v::bk=>Au p v&&v.oneCell'&&CJ a bk
 |_,_=>false
def Ae:af->Value->Bool
 | .agg cs,.agg us=>CJ cs us.toList
 | .agg _,_=>false
 |p,v=>Au p v&&v.oneCell'
def k0:CR->TypeDesc->Bool
 | .int k,.int bt=>decide (k=bt)
 | .bool,.bool=>true
 | .str,.string=>true
 | .slice e,.slice a=>e==a
 | .struct b,.struct gs=>decide (gs.toList.map (fun f=>(f.offset,f.type))=b)
 | .map k e,.map bt a=>k==bt&&e==a
 | .other,d=>match d with| .struct _| .array _ _| .int _| .bool| .string| .slice _=>false|_=>true
 |_,_=>false
def Uw(P:cG)(gs:Array Field):Bool:=gs.toList.all fun f=>match P.underlying f.type with|some (.int _)=>true|some .string=>true|_=>false
def Tt(P:cG)(t:Nat)(gs:Array Field):Bool:=gs.toList.all (fun f=>f.name != "_")&& !P.stoodInHeld t&& !P.eqGuardType P.depth t
def K0(P:cG)(t:Nat):TypeDesc->Bool
 | .struct gs=> !Uw P gs||Tt P t gs
 |_=>true
def P3(P:cG)(t:Nat)(f:eu):Bool:=
 match P.info? t,P.underlying t with
 |some i,some d=>K0 P t d&&i.size==f.size&&i.bytes==f.bytes&&k0 f.kind d&&(match i.zero with|some z=>Ae f.zero z&&z.cells.size==f.size|none=>false)
 |_,_=>false
def hW(P:cG)(aS:List (Nat×eu)):Bool:=aS.all fun x=>P3 P x.1 x.2
def eD(aS:List (Nat×eu))(t:Nat):bc eu:=(aS.find? fun x=>x.1==t).map (·.2)
def aqE{P:cG}{aS:List (Nat×eu)}(h:hW P aS=true){t:Nat}{f:eu}(b:eD aS t=some f):P3 P t f=true:=by
 unfold eD at b;cases a:aS.find? fun x=>x.1==t with
 |none=>simp[a]at b
 |some x=>simp[a]at b;have J:=List.find?_some a;simp at J;have U:=List.mem_of_find?_eq_some a;have c:=j7.1 h x U;rw[<-b,<-J];exact c
structure acJ (P:cG) (t:Nat) (f:eu):Prop where
 cmp:∀d,P.underlying t=some d->K0 P t d=true
 ex:∃i d z,P.info? t=some i/\P.underlying t=some d/\i.size=f.size/\i.bytes=f.bytes/\k0 f.kind d=true/\i.zero=some z/\Ae f.zero z=true/\z.cells.size=f.size
def wJ{P:cG}{aS:List (Nat×eu)}(h:hW P aS=true){t:Nat}{f:eu}(l:eD aS t=some f):acJ P t f:=by
 have h:=aqE h l;unfold P3 at h;split at h
 ·rename_i i d J U;simp only[cP,ey]at h;obtain⟨⟨⟨⟨c,j⟩,k⟩,e⟩,a⟩:=h;split at a
  ·rename_i z g;simp only[cP,ey]at a;exact⟨fun m b=>by rw[U]at b;cases b;exact c,i,d,z,J,U,j,k,e,g,a.1,a.2⟩
  ·cases a
 ·cases h
def pD(b o j:Nat):(⟨b,o,none⟩:Addr).add j=⟨b,o+j,none⟩:=by
 unfold Addr.add;split
 ·rename_i h;subst h;rfl
 ·rfl
def Qq(w:World)(ν:a8):∀(a:List af) (bk:List Value),CJ a bk=true->cU w ν a bk
 |[],[],_=>by simp[cU]
 |[],_::_,h=>by simp[CJ]at h
 |_::_,[],h=>by simp[CJ]at h
 |p::a,v::bk,h=>by simp only[CJ,cP]at h;simp only[cU];exact⟨v,bk,rfl,⟨Kt w ν h.1.1,h.1.2⟩,Qq w ν a bk h.2⟩
def cells:af->List af
 | .agg cs=>cs
 |p=>[p]
def eS:af->Bool
 | .junk| .tuple _=>false
 | .cst (.slice _ _ _)| .cst (.string _)=>true
 | .cst _=>false
 |_=>true
def Pl{w:World}{ν:a8}{p:af}{v:Value}(h:aU w ν p v)(d:eS p=true)(e:∀cs,p≠ .agg cs):v.oneCell'=true/\v.cells= #[v]:=by
 cases p<;>simp only[aU,eS]at h d;case junk=>cases d
 case tuple=>cases d
 case cst c=>subst h;cases v<;>first|exact⟨rfl,rfl⟩|cases d
 case agg cs=>exact absurd rfl (e cs)
 case int=>subst h;exact⟨rfl,rfl⟩
 case bool=>subst h;exact⟨rfl,rfl⟩
 case str=>rw[h.1];exact⟨rfl,rfl⟩
 case slice=>obtain⟨⟨a,cap,J,_⟩,_⟩:=h;subst J;exact⟨rfl,rfl⟩
 case ptr=>obtain⟨b,_,J⟩:=h;subst J;exact⟨rfl,rfl⟩
 case eptr=>obtain⟨b,o,u,J,_⟩:=h;subst J;exact⟨rfl,rfl⟩
 case iface=>obtain⟨u,J,_⟩:=h;subst J;exact⟨rfl,rfl⟩
 case nilp=>subst h;exact⟨rfl,rfl⟩
 case func=>obtain⟨us,J,_⟩:=h;subst J;exact⟨rfl,rfl⟩
 case gmap=>obtain⟨b,_,J⟩:=h;subst J;exact⟨rfl,rfl⟩
 case row=>obtain⟨⟨a,cap,J⟩,_⟩:=h;subst J;exact⟨rfl,rfl⟩
 case rptr=>obtain⟨⟨a,o,J⟩,_⟩:=h;subst J;exact⟨rfl,rfl⟩
def wC{w:World}{ν:a8}{p:af}{v:Value}(h:aU w ν p v)(c:eS p=true):cU w ν (cells p) v.cells.toList:=by
 by_cases b:∃cs,p= .agg cs
 ·obtain⟨cs,rfl⟩:=b;simp only[aU]at h;obtain⟨us,rfl,U⟩:=h;simpa[cells,pg]using U
 ·have a:∀cs,p≠ .agg cs:=fun cs e=>b ⟨cs,e⟩;obtain⟨J,U⟩:=Pl h c a;have aw:cells p=[p]:=by cases p<;>first|rfl|exact absurd rfl (a _)
  rw[aw,U];simp only[cU];exact⟨v,[],rfl,⟨h,J⟩,rfl⟩
def Cm{w:World}{ν:a8}:∀{a:List af} {bk:List Value},cU w ν a bk->∀c∈bk,c.oneCell'=true
 |[],bk,h=>by simp only[cU]at h;subst h;simp
 |p::a,bk,h=>by
  simp only[cU]at h;obtain⟨u,b,rfl,J,U⟩:=h;intro c aw;rcases gK.1 aw with rfl|aw
  ·exact J.2
  ·exact Cm U c aw
def qI{w:World}{ν:a8}:∀{a:List af} {bk:List Value},cU w ν a bk->bk.length=a.length
 |[],bk,h=>by simp only[cU]at h;subst h;rfl
 |p::a,bk,h=>by simp only[cU]at h;obtain⟨u,b,rfl,_,U⟩:=h;simp[qI U]
def Cl{w:World}{ν:a8}:∀(n:Nat) {a:List af} {bk:List Value},cU w ν a bk->cU w ν (a.drop n) (bk.drop n)
 |0,_,_,h=>by simpa using h
 |n+1,[],bk,h=>by simp only[cU]at h;subst h;simp[cU]
 |n+1,p::a,bk,h=>by simp only[cU]at h;obtain⟨u,b,rfl,_,U⟩:=h;simpa using Cl n U
def E8{w:World}{ν:a8}:∀(n:Nat) {a:List af} {bk:List Value},cU w ν a bk->cU w ν (a.take n) (bk.take n)
 |0,_,_,_=>by simp[cU]
 |n+1,[],bk,h=>by simp only[cU]at h;subst h;simp[cU]
 |n+1,p::a,bk,h=>by simp only[cU]at h;obtain⟨u,b,rfl,J,U⟩:=h;simp only[List.take_succ_cons,cU];exact⟨u,_,rfl,J,E8 n U⟩
def zQ{w:World}{ν:a8}:∀{b bW:List af} {bk us:List Value},cU w ν b bk->cU w ν bW us->cU w ν (b++bW) (bk++us)
 |[],bW,bk,us,h,a=>by simp only[cU]at h;subst h;simpa using a
 |p::b,bW,bk,us,h,a=>by simp only[cU]at h;obtain⟨u,c,rfl,J,U⟩:=h;simp only[b3,cU];exact⟨u,_,rfl,J,zQ U a⟩
def E7{w:World}{ν:a8}:∀(n:Nat) {b:List af} {bk:List Value} {p:af},cU w ν b bk->b[n]? =some p->∃v,bk[n]? =some v/\aU w ν p v/\v.oneCell'=true
 |n,[],_,p,_,a=>by simp at a
 |0,q::b,bk,p,h,a=>by simp only[cU]at h;obtain⟨u,c,rfl,J,_⟩:=h;simp at a;subst a;exact⟨u,rfl,J.1,J.2⟩
 |n+1,q::b,bk,p,h,a=>by simp only[cU]at h;obtain⟨u,c,rfl,_,U⟩:=h;simpa using E7 n U (by simpa using a)
def Fa{w:World}{ν:a8}:∀(n:Nat) {b:List af} {bk:List Value} {p:af},c1 w ν b bk->b[n]? =some p->∃v,bk[n]? =some v/\aU w ν p v
 |n,[],_,p,_,a=>by simp at a
 |0,q::b,bk,p,h,a=>by simp only[c1]at h;obtain⟨u,c,rfl,J,_⟩:=h;simp at a;subst a;exact⟨u,rfl,J⟩
 |n+1,q::b,bk,p,h,a=>by simp only[c1]at h;obtain⟨u,c,rfl,_,U⟩:=h;simpa using Fa n U (by simpa using a)
def uO{w:World}{A:Nat->Nat->Prop}{b:Nat}:∀{us:List Value} {off j:Nat} {u:Value},kR w A b off us->us[j]? =some u->A b (off+j)/\w.cell? ⟨b,off+j,none⟩=some u
 |[],_,_,_,_,h=>by simp at h
 |x::us,off,0,u,a,h=>by simp at h;subst h;exact a.1
 |x::us,off,j+1,u,a,h=>by have:=uO (j:=j) a.2 (by simpa using h);rwa[show off+1+j=off+(j+1)from by omega]at this
def HZ{w:World}{A:Nat->Nat->Prop}{b:Nat}:∀(n:Nat) {us:List Value} {off:Nat},kR w A b off us->kR w A b (off+n) (us.drop n)
 |0,_,_,h=>by simpa using h
 |n+1,[],_,_=>by simp[kR]
 |n+1,x::us,off,h=>by have:=HZ n h.2;rw[show off+(n+1)=off+1+n from by omega];simpa using this
def H2{w:World}{A:Nat->Nat->Prop}{b:Nat}:∀(n:Nat) {us:List Value} {off:Nat},kR w A b off us->kR w A b off (us.take n)
 |0,_,_,_=>by simp[kR]
 |n+1,[],_,_=>by simp[kR]
 |n+1,x::us,off,h=>by simp only[List.take_succ_cons];exact⟨h.1,H2 n h.2⟩
def aaE{P:cG}{w:World}{A:Nat->Nat->Prop}{b off:Nat}{us:List Value}(h:kR w A b off us):(loadCells ⟨b,off,none⟩ us.length).run P w= .ok us.toArray w:=run_loadCells_list w _ us fun j v a=>by rw[pD];exact(uO h a).2
def apK{P:cG}{w:World}{b off n:Nat}{us:Array Value}{el:gT}{fr:Nat×Nat}(h:w.heap[b]? =some (.cells us el fr))(e:off+n<=us.size):
  (loadCells ⟨b,off,none⟩ n).run P w= .ok ((us.toList.drop off).take n).toArray w:=by
 have d:((us.toList.drop off).take n).length=n:=by simp;omega
 have:=run_loadCells_list (P:=P) w ⟨b,off,none⟩ ((us.toList.drop off).take n) fun j v c=>by
  rw[pD];have a:j<n:=by have:=(fM.1 c).1;omega
  simp only[World.cell?,h,mL,hN,if_false];rw[List.getElem?_take]at c;simpa[a]using c
 rw[d]at this;exact this
def TI{α:Type}(l r:List α)(n sz:Nat)(h:l.length=sz):(l++r).drop ((n+1)*sz)=r.drop (n*sz):=by
 have e:(n+1)*sz=l.length+n*sz:=by rw[h,Nat.succ_mul,Nat.add_comm]
 rw[e,<-List.drop_drop];simp
def abi{α:Type}(l r:List α)(n sz:Nat)(h:l.length=sz):(l++r).take ((n+1)*sz)=l++r.take (n*sz):=by
 have e:(n+1)*sz=l.length+n*sz:=by rw[h,Nat.succ_mul,Nat.add_comm]
 rw[e,List.take_length_add_append]
def I6{w:World}{ν:a8}{sz:Nat}:∀(i:Nat) {xs:List af} {us:List Value} {p:af},dt w ν sz xs us->xs[i]? =some p->
  ∃u,aU w ν p u/\u.cells.size=sz/\u.cells.toList=(us.drop (i*sz)).take sz
 |i,[],_,p,_,a=>by simp at a
 |0,x::xs,us,p,h,a=>by
  simp only[dt]at h;obtain⟨u,c,rfl,⟨J,U,d⟩,_⟩:=h;simp at a;subst a;refine⟨u,J,U,?_⟩;have:u.cells.toList.length=sz:=by simpa using U
  simp[<-this]
 |i+1,x::xs,us,p,h,a=>by
  simp only[dt]at h;obtain⟨u,c,rfl,⟨_,U,_⟩,b⟩:=h;obtain⟨v,g1,g2,g3⟩:=I6 i b (by simpa using a);refine⟨v,g1,g2,?_⟩;have:u.cells.toList.length=sz:=by simpa using U
  rw[g3,TI _ _ _ _ this]
def rr{w:World}{ν:a8}{sz:Nat}:∀{xs:List af} {us:List Value},dt w ν sz xs us->us.length=xs.length*sz
 |[],us,h=>by simp only[dt]at h;subst h;simp
 |x::xs,us,h=>by
  simp only[dt]at h;obtain⟨u,b,rfl,⟨_,U,_⟩,a⟩:=h;have:u.cells.toList.length=sz:=by simpa using U
  rw[p6,this,rr a,mI,Nat.succ_mul];omega
def zP{w:World}{ν:a8}{sz:Nat}:∀{xs:List af} {us:List Value},dt w ν sz xs us->∀c∈us,c.oneCell'=true
 |[],us,h=>by simp only[dt]at h;subst h;simp
 |x::xs,us,h=>by
  simp only[dt]at h;obtain⟨u,d,rfl,⟨_,_,b⟩,a⟩:=h;intro c aw;rcases j2.1 aw with aw|aw
  ·exact b c aw
  ·exact zP a c aw
def E6{w:World}{ν:a8}{sz:Nat}:∀{b bW:List af} {bk us:List Value},dt w ν sz b bk->dt w ν sz bW us->dt w ν sz (b++bW) (bk++us)
 |[],bW,bk,us,h,a=>by simp only[dt]at h;subst h;simpa using a
 |p::b,bW,bk,us,h,a=>by simp only[dt]at h;obtain⟨u,c,rfl,J,U⟩:=h;simp only[b3,dt];exact⟨u,c++us,Ψ,J,E6 U a⟩
def aah{w:World}{ν:a8}{sz:Nat}:∀(n:Nat) {xs:List af} {us:List Value},dt w ν sz xs us->dt w ν sz (xs.drop n) (us.drop (n*sz))
 |0,_,_,h=>by simpa using h
 |n+1,[],us,h=>by simp only[dt]at h;subst h;simp[dt]
 |n+1,x::xs,us,h=>by
  simp only[dt]at h;obtain⟨u,b,rfl,⟨_,U,_⟩,a⟩:=h;have:u.cells.toList.length=sz:=by simpa using U
  rw[TI _ _ _ _ this];simpa using aah n a
def aak{w:World}{ν:a8}{sz:Nat}:∀(n:Nat) {xs:List af} {us:List Value},dt w ν sz xs us->dt w ν sz (xs.take n) (us.take (n*sz))
 |0,_,_,_=>by simp[dt]
 |n+1,[],us,h=>by simp only[dt]at h;subst h;simp[dt]
 |n+1,x::xs,us,h=>by
  simp only[dt]at h;obtain⟨u,b,rfl,⟨J,U,c⟩,a⟩:=h;have:u.cells.toList.length=sz:=by simpa using U
  simp only[List.take_succ_cons,dt];refine⟨u,b.take (n*sz),?_,⟨J,U,c⟩,aak n a⟩;rw[abi _ _ _ _ this]
def qA(sz:Nat)(p:af):Prop:= ∃cs,p= .agg cs/\cs.length=sz
def zU(agg:Bool)(sz b n i f:Nat):bc dT->bc (Prop×af)
 |some ⟨n',_,a,some xs⟩=>if n'=n/\a=b then
   (match xs[i]? with
    |some p=>if agg then some (eS p=true/\f+sz<=(cells p).length,.agg (((cells p).drop f).take sz))else((cells p)[f]?).map fun q=>(eS p=true,q)
    |none=>none)else none
 |_=>none
def nR(b:List (aA×List af))(e:List (aA×dT))(agg:Bool)(sz:Nat):af->bc (Prop×af)
 | .rptr a k n i f=>zU agg sz a n i f (ad k e)
 | .ptr k off=>
  match ad k b with
  |some cs=>if agg then some (gR cs=true/\off+sz<=cs.length,.agg ((cs.drop off).take sz))else(cs[off]?).map fun p=>(gR cs=true,p)
  |none=>none
 | .eptr p=>if agg then some (qA sz p,p)else some (eS p=true/\cells p=[p],p)
 |_=>none
def Ds(agg:Bool)(sz:Nat):af->bc (Prop×af)
 | .eptr p=>if agg then some (qA sz p,p)else some (eS p=true/\cells p=[p],p)
 |_=>none
def ahz{b:List (aA×List af)}{e:List (aA×dT)}{agg:Bool}{sz:Nat}{p:af}{r:Prop×af}(h:Ds agg sz p=some r):nR b e agg sz p=some r:=by
 cases p<;>simp only[Ds]at h<;>first|cases h;done|skip
 simpa only[nR]using h
def alm{b:List (aA×List af)}{e:List (aA×dT)}{agg:Bool}{sz:Nat}{p:af}{r:Prop×af}(h:nR b [] agg sz p=some r):nR b e agg sz p=some r:=by cases p<;>simp only[nR]at h⊢ <;>first|exact h|(simp[ad,zU]at h)
def sG(off:Nat)(agg:Bool)(sz:Nat):af->bc (Prop×af)
 | .ptr k o=>some (True,.ptr k (o+off))
 | .rptr a k n i f=>some (True,.rptr a k n i (f+off))
 | .eptr (.agg cs)=>if agg then some (off+sz<=cs.length,.eptr (.agg ((cs.drop off).take sz)))else(cs[off]?).map fun p=>(eS p=true/\cells p=[p],.eptr p)
 |_=>none
def vH(off:Nat)(agg:Bool)(sz:Nat):af->bc (Prop×af)
 | .agg cs=>if agg then some (off+sz<=cs.length,.agg ((cs.drop off).take sz))else(cs[off]?).map fun p=>(True,p)
 |_=>none
def Bx(sz:Nat):af->af->bc (Prop×af)
 | .slice a _ xs,.int _ i=>if a=sz then some (0<=i/\i<xs.length,.eptr (xs.getD i.toNat .junk))else none
 | .row a k n,.int _ i=>if a=sz then some (0<=i/\i<n,.rptr a k n i.toNat 0)else none
 |_,_=>none
def Jr:af->af->bc (Prop×af)
 | .str s,.int _ i=>some (0<=i/\i<s.length,.int .u8 (s.getD i.toNat 0).toNat)
 |_,_=>none
def sd(a:Int):bc af->bc Int
 |none=>some a
 |some (.int _ i)=>some i
 |_=>none
def Jw(x:af)(lo hi:bc af):bc (Prop×af):=
 match x with
 | .str s=>match sd 0 lo,sd s.length hi with
  |some l,some h=>some (0<=l/\l<=h/\h<=s.length,.str ((s.take h.toNat).drop l.toNat))
  |_,_=>none
 |_=>none
def H9(sz:Nat)(x:af)(lo hi:bc af):bc (Prop×af):=
 match x with
 | .slice a _ xs=>if a=sz then match sd 0 lo,sd xs.length hi with
  |some l,some h=>some (0<=l/\l<=h/\h<=xs.length,.slice sz .no ((xs.take h.toNat).drop l.toNat))
  |_,_=>none else none
 |_=>none
def te(n:Int):Prop:= -9223372036854775808<=n/\n<=9223372036854775807
def HI(op:BinOp)(wr:Bool)(k:IntKind)(a b:Int):bc (Prop×af):=
 match op with
 | .add=>if wr then some (True,.int k (k.wrap (a+b)))else some (k= .i64/\te (a+b),.int .i64 (a+b))
 | .sub=>if wr then some (True,.int k (k.wrap (a-b)))else some (k= .i64/\te (a-b),.int .i64 (a-b))
 | .mul=>if wr then some (True,.int k (k.wrap (a*b)))else some (k= .i64/\te (a*b),.int .i64 (a*b))
 | .quo=>some (b≠0,.int k (k.wrap (a.tdiv b)))
 | .rem=>some (b≠0,.int k (a.tmod b))
 | .eql=>some (True,.bool (a==b))
 | .neq=>some (True,.bool (a !=b))
 | .lss=>some (True,.bool (decide (a<b)))
 | .leq=>some (True,.bool (decide (a<=b)))
 | .gtr=>some (True,.bool (decide (b<a)))
 | .geq=>some (True,.bool (decide (b<=a)))
 | .and=>some (True,.int k (k.wrap (rC k.bits a&&& rC k.bits b).toNat))
 | .or=>some (True,.int k (k.wrap (rC k.bits a|||rC k.bits b).toNat))
 | .xor=>some (True,.int k (k.wrap (rC k.bits a ^^^ rC k.bits b).toNat))
 |_=>none
def Jy(op:BinOp)(a b:List cW):bc (Prop×af):=
 match op with
 | .add=>some (a.length+b.length<=lim,.str (a++b))
 | .eql=>some (True,.bool (a==b))
 | .neq=>some (True,.bool (!(a==b)))
 | .lss=>some (True,.bool (iq a b))
 | .leq=>some (True,.bool (iq a b||a==b))
 | .gtr=>some (True,.bool (!(iq a b||a==b)))
 | .geq=>some (True,.bool (!iq a b))
 |_=>none
def CX(op:BinOp)(wr:Bool):af->af->bc (Prop×af)
 | .int k a,.int bt b=>match op with
  | .shl=>some (0<=b,.int k (k.wrap (a*2 ^ (min b.toNat k.bits))))
  | .shr=>some (0<=b,.int k (a.fdiv (2 ^ (min b.toNat k.bits))))
  |_=>if k=bt then HI op wr k a b else none
 | .str a,.str b=>Jy op a b
 |_,_=>none
def nq(cs:List af)(off:Nat)(a:List af):List af:=cs.take off++a++cs.drop (off+a.length)
def vA(t:List (Nat×af)):List af->List (Nat×Nat×dM)->bc (Prop×List af)
 |cs,[]=>some (True,cs)
 |cs,(off,sz,x)::r=>
  let p:=cD t x
  match vA t (nq cs off (cells p)) r with
  |some (c,cs')=>some ((eS p=true/\(cells p).length=sz/\off+sz<=cs.length)/\c,cs')
  |none=>none
def IF(c x y:af):bc (Prop×af):=
 match c with
 | .bool b=>match x,y with
  | .bool u,.bool v=>some (True,.bool (cond b u v))
  |p,q=>match b with
   |true=>some (True,p)
   |false=>some (True,q)
 |_=>none
def Ir:af->bc (Prop×af)
 | .bool b=>some (True,.bool (!b))
 |_=>none
def Im:af->bc (Prop×af)
 | .int k n=>some (True,.int k (k.wrap (0-n)))
 |_=>none
def AO(i:Nat):af->bc (Prop×af)
 | .tuple bk=>(bk[i]?).map fun p=>(True,p)
 |_=>none
def BI:af->bc (Prop×af)
 | .slice _ _ xs=>some (True,.int .i64 xs.length)
 | .row _ _ n=>some (True,.int .i64 n)
 | .cst (.slice _ n _)=>some (True,.int .i64 n)
 |_=>none
def Fm:af->bc (Prop×af)
 | .str s=>some (True,.int .i64 s.length)
 | .cst (.string s)=>some (True,.int .i64 s.size)
 |_=>none
def Gv(k:IntKind):af->bc (Prop×af)
 | .int _ n=>some (True,.int k (k.wrap n))
 |_=>none
def rQ:List af->bc (List cW)
 |[]=>some []
 | .int .u8 n::r=>(rQ r).map (UInt8.ofNat n.toNat:: ·)
 |_=>none
def F6:af->bc (Prop×af)
 | .slice _ _ xs=>(rQ xs).map fun s=>(True,.str s)
 |_=>none
def BW:af->bc (Prop×af)
 | .ptr k o=>some (True,.ptr k o)
 | .eptr p=>some (True,.eptr p)
 | .func f cs=>some (True,.func f cs)
 |_=>none
def Ij:af->af->bc (Prop×af)
 | .int k a,.int bt b=>if k=bt then some (True,.int k (if b<a then b else a))else none
 |_,_=>none
def kK:List Bool->List af->List af->bc Bool
 |[],[],[]=>some true
 |false::r,.int k a::as,.int bt b::c=>if k=bt then(kK r as c).map fun q=>(a==b)&&q else none
 |true::r,.str a::as,.str b::c=>(kK r as c).map fun q=>(a==b)&&q
 |_,_,_=>none
inductive ka where
 |i
 |s
 |a (ei:List Bool)
 deriving DecidableEq
def uJ:ka->af->af->bc Bool
 | .i,.int k a,.int bt b=>if k=bt then some (a==b)else none
 | .s,.str a,.str b=>some (a==b)
 | .a c,.agg as,.agg d=>kK c as d
 |_,_,_=>none
def xI:ka->af->Bool
 | .a a,.agg as=>(kK a as as).isSome
 | .a _,_=>false
 |_,_=>true
@[simp]def WW(k:af):xI .i k=true:=by cases k<;>rfl
def xN(a:ka)(k:af):List af->bc (bc af)
 |bt::v::r=>match uJ a k bt with
  |some true=>some (some v)
  |some false=>xN a k r
  |none=>none
 |_=>some none
def o7(b:aA->bc (List af))(a:ka)(zero:af)(ok:Bool)(x k:af):bc (Prop×af):=
 match x with
 | .gmap key=>match b key with
  |some (.hdm _ _::kvs)=>if xI a k=false then none else match xN a k kvs with
   |some (some v)=>some (True,if ok then .tuple [v,.bool true]else v)
   |some none=>some (True,if ok then .tuple [zero,.bool false]else zero)
   |none=>none
  |_=>none
 |_=>none
def BV(b:aA->bc (List af))(x:af):bc (Prop×af):=
 match x with
 | .gmap key=>match b key with
  |some (.hdm _ borns::_)=>some (True,.int .i64 borns.length)
  |_=>none
 |_=>none
def jm(neg:Bool):bc (List Bool)->af->af->bc (Prop×af)
 |none,.bool a,.bool b=>some (True,.bool (if neg then a !=b else a==b))
 |some c,.agg as,.agg d=>(kK c as d).map fun q=>(True,.bool (if neg then !q else q))
 |_,_,_=>none
def Ie:af->af->bc (Prop×af)
 | .int k a,.int bt b=>if k=bt then some (True,.int k (if a<b then b else a))else none
 |_,_=>none
def wm(a:ka)(k v:af):List af->bc (bc (List af))
 |bt::v'::r=>match uJ a k bt with
  |some true=>some (some (k::v::r))
  |some false=>match wm a k v r with
   |some (some b)=>some (some (bt::v'::b))
   |some none=>some none
   |none=>none
  |none=>none
 |_=>some none
def nT(n:Nat):List Nat->List af->bc af
 |b::a,k::v::r=>if b=n then some (.tuple [k,v])else nT n a r
 |_,_=>none
def qD(b:aA->bc (List af))(x:af):bc (Prop×af):=
 match x with
 | .ptr gi 0=>match b gi with
  |some [.hdi _ seen last,.gmap mk]=>match b mk with
   |some (.hdm clock borns::kvs)=>match seen.getLast? with
    |some n=>(nT n borns kvs).map fun p=>(clock=last,p)
    |none=>none
   |_=>none
  |_=>none
 |_=>none
def XQ{f g:aA->bc (List af)}(h:∀k,f k≠none->g k=f k){b:ka}{zero:af}{ok:Bool}{x k:af}{r:Prop×af}(he:o7 f b zero ok x k=some r):o7 g b zero ok x k=some r:=by
 unfold o7 at he⊢;split at he
 ·rename_i key;cases a:f key with
  |none=>simp[a]at he
  |some cs=>rw[h key (by rw[a];simp),a];rw[a]at he;exact he
 ·cases he
def al1{f g:aA->bc (List af)}(h:∀k,f k≠none->g k=f k){x:af}{r:Prop×af}(he:BV f x=some r):BV g x=some r:=by
 unfold BV at he⊢;split at he
 ·rename_i key;cases a:f key with
  |none=>simp[a]at he
  |some cs=>rw[h key (by rw[a];simp),a];rw[a]at he;exact he
 ·cases he
def alC{f g:aA->bc (List af)}(h:∀k,f k≠none->g k=f k){x:af}{r:Prop×af}(he:qD f x=some r):qD g x=some r:=by
 unfold qD at he⊢;split at he
 ·rename_i gi;cases b:f gi with
  |none=>simp[b]at he
  |some cs=>
   simp only[h gi (by rw[b];simp),b]at he⊢;split at he
   ·rename_i since seen last mk d;cases a:f mk with
    |none=>simp[a]at he
    |some c=>simp only[h mk (by rw[a];simp),a]at he⊢;exact he
   ·cases he
 ·cases he
inductive gL where
 |mov (x:dM)
 |pick (c x y:dM)
 |load (agg:Bool) (sz:Nat) (x:dM)
 |faddr (off:Nat) (agg:Bool) (sz:Nat) (x:dM)
 |fld (off:Nat) (agg:Bool) (sz:Nat) (x:dM)
 |iaddr (sz:Nat) (x i:dM)
 |sidx (x i:dM)
 |ssl (x:dM) (lo hi:bc dM)
 |lsl (sz:Nat) (x:dM) (lo hi:bc dM)
 |bin (op:BinOp) (wr:Bool) (x y:dM)
 |notB (x:dM)
 |neg (x:dM)
 |conv (k:IntKind) (x:dM)
 |ext (i:Nat) (x:dM)
 |len (x:dM)
 |slen (x:dM)
 |build (zero:List af) (parts:List (Nat×Nat×dM))
 |nck (x:dM)
 |min2 (x y:dM)
 |mkf (n:Nat) (xs:List dM)
 |mget (cv:ka) (zero:af) (ok:Bool) (x k:dM)
 |ment (x:dM)
 |mlen (x:dM)
 |beq (neg:Bool) (ei:bc (List Bool)) (x y:dM)
 |max2 (x y:dM)
 |mkif (t:Nat) (x:dM)
 |loadB (agg:Bool) (sz:Nat) (x:dM)
 |mgetB (cv:ka) (zero:af) (ok:Bool) (x k:dM)
 |loadZ (agg:Bool) (sz:Nat) (x:dM)
 |b2s (x:dM)
def hX(st:bo):gL->bc (Prop×af)
 | .mov x=>some (True,cD st.t x)
 | .pick c x y=>IF (cD st.t c) (cD st.t x) (cD st.t y)
 | .load agg sz x=>nR st.b st.e agg sz (cD st.t x)
 | .faddr off agg sz x=>sG off agg sz (cD st.t x)
 | .fld off agg sz x=>vH off agg sz (cD st.t x)
 | .iaddr sz x i=>Bx sz (cD st.t x) (cD st.t i)
 | .sidx x i=>Jr (cD st.t x) (cD st.t i)
 | .ssl x lo hi=>Jw (cD st.t x) (lo.map (cD st.t)) (hi.map (cD st.t))
 | .lsl sz x lo hi=>H9 sz (cD st.t x) (lo.map (cD st.t)) (hi.map (cD st.t))
 | .bin op wr x y=>CX op wr (cD st.t x) (cD st.t y)
 | .notB x=>Ir (cD st.t x)
 | .neg x=>Im (cD st.t x)
 | .conv k x=>Gv k (cD st.t x)
 | .ext i x=>AO i (cD st.t x)
 | .len x=>BI (cD st.t x)
 | .slen x=>Fm (cD st.t x)
 | .build zero parts=>(vA st.t zero parts).map fun(c,cs)=>(c,.agg cs)
 | .nck x=>BW (cD st.t x)
 | .min2 x y=>Ij (cD st.t x) (cD st.t y)
 | .mkf n xs=>some (True,.func n (xs.map (cD st.t)))
 | .mget a zero ok x k=>o7 (fun k=>ad k st.b) a zero ok (cD st.t x) (cD st.t k)
 | .ment x=>qD (fun k=>ad k st.b) (cD st.t x)
 | .mlen x=>BV (fun k=>ad k st.b) (cD st.t x)
 | .beq neg b x y=>jm neg b (cD st.t x) (cD st.t y)
 | .max2 x y=>Ie (cD st.t x) (cD st.t y)
 | .mkif t x=>some (True,.iface t (cD st.t x))
 | .loadB agg sz x=>nR st.b [] agg sz (cD st.t x)
 | .mgetB a zero ok x k=>o7 (fun k=>ad k st.b) a zero ok (cD st.t x) (cD st.t k)
 | .loadZ agg sz x=>Ds agg sz (cD st.t x)
 | .b2s x=>F6 (cD st.t x)
def B7(aS:List (Nat×eu))(a:List (Nat×Nat)):List (Nat×Nat×dM)->List (Nat×Operand)->Bool
 |[],[]=>true
 |(off,sz,x)::r,(i,o)::s=>(match a[i]? with|some (b,t)=>off==b&&((eD aS t).map (·.size))==some sz|none=>false)&&eN x o&&B7 aS a r s
 |_,_=>false
def JV:af->af->Bool
 | .int k n,.int bt n'=>decide (k=bt/\n=n')
 | .bool b,.bool b7=>b==b7
 | .str [],.str []=>true
 | .slice a .nil [],.slice b .nil []=>a==b
 | .nilp,.nilp=>true
 | .junk,.junk=>true
 |_,_=>false
def Ad:List af->List af->Bool
 |[],[]=>true
 |c::cs,d::a=>JV c d&&Ad cs a
 |_,_=>false
def CK:af->af->Bool
 | .agg cs,.agg a=>Ad cs a
 | .agg _,_=>false
 |p,q=>JV p q
def zH:List dM->List Operand->Bool
 |[],[]=>true
 |x::xs,o::os=>eN x o&&zH xs os
 |_,_=>false
def AV(aS:List (Nat×eu)):Nat->List Bool->List (Nat×Nat)->Bool
 |_,[],[]=>true
 |n,b::r,(off,t)::a=>off==n&&(match eD aS t with|some ⟨_,_,.int _,_⟩=> !b|some ⟨_,_,.str,_⟩=>b|_=>false)&&AV aS (n+1) r a
 |_,_,_=>false
def GS(aS:List (Nat×eu))(a:List Bool)(t:Nat):Bool:=match eD aS t with
 |some ⟨_,_,.struct gs,_⟩=>AV aS 0 a gs
 |_=>false
def zs(aS:List (Nat×eu))(b:ka)(t:Nat):Bool:=match b with
 | .i=>(match eD aS t with|some ⟨_,_,.int _,_⟩=>true|_=>false)
 | .s=>(match eD aS t with|some ⟨_,_,.str,_⟩=>true|_=>false)
 | .a a=>GS aS a t
def Qt:List af->af->Bool
 |cs,.agg a=>Ad cs a
 |_,_=>false
def xV:bc dM->bc Operand->Bool
 |none,none=>true
 |some x,some o=>eN x o
 |_,_=>false
def FC(aS:List (Nat×eu)):gL->Op->Bool
 | .mov x,.move o=>eN x o
 | .mov x,.assign o=>eN x o
 | .pick c x y,.pick u x' y'=>eN c u&&eN x x'&&eN y y'
 | .load agg sz x,.load t o=>(match eD aS t with|some f=>f.size==sz&&f.kind.isAgg==agg|none=>false)&&eN x o
 | .faddr off agg sz x,.fieldAddr s o i=>
  (match eD aS s with
   |some ⟨_,_,.struct a,_⟩=>(match a[i]? with|some (b,t)=>off==b&&(match eD aS t with|some f=>f.size==sz&&f.kind.isAgg==agg&&sz !=0|none=>false)|none=>false)
   |_=>false)&&eN x o
 | .fld off agg sz x,.field s o i=>
  (match eD aS s with
   |some ⟨_,_,.struct a,_⟩=>(match a[i]? with|some (b,t)=>off==b&&(match eD aS t with|some f=>f.size==sz&&f.kind.isAgg==agg|none=>false)|none=>false)
   |_=>false)&&eN x o
 | .iaddr sz x i,.indexAddr t o j=>(match eD aS t with|some ⟨_,_,.slice e,_⟩=>(match eD aS e with|some f=>f.size==sz|none=>false)|_=>false)&&eN x o&&eN i j
 | .sidx x i,.index t o j=>(match eD aS t with|some ⟨_,_,.str,_⟩=>true|_=>false)&&eN x o&&eN i j
 | .ssl x lo hi,.slice t o l h none=>(match eD aS t with|some ⟨_,_,.str,_⟩=>true|_=>false)&&eN x o&&xV lo l&&xV hi h
 | .lsl sz x lo hi,.slice t o l h none=>(match eD aS t with|some ⟨_,_,.slice e,_⟩=>(match eD aS e with|some f=>f.size==sz|none=>false)|_=>false)&&eN x o&&xV lo l&&xV hi h
 | .bin op _ x y,.binOp w _ o o' _=>decide (op=w)&&eN x o&&eN y o'
 | .notB x,.unOp op _ o=>decide (op= .not)&&eN x o
 | .neg x,.unOp op _ o=>decide (op= .neg)&&eN x o
 | .conv k x,.convert s d o=>(match eD aS s,eD aS d with|some ⟨_,_,.int _,_⟩,some ⟨_,_,.int bt,_⟩=>decide (k=bt)|_,_=>false)&&eN x o
 | .ext i x,.extract o j=>i==j&&eN x o
 | .len x,.call ⟨.builtin .len,⟨[o]⟩,⟨[t]⟩⟩=>(match eD aS t with|some ⟨_,_,.slice _,_⟩=>true|_=>false)&&eN x o
 | .slen x,.call ⟨.builtin .len,⟨[o]⟩,⟨[t]⟩⟩=>(match eD aS t with|some ⟨_,_,.str,_⟩=>true|_=>false)&&eN x o
 | .build zero parts,.build t v=>(match eD aS t with|some ⟨_,_,.struct a,z⟩=>Qt zero z&&(a.all fun x=>(eD aS x.2).isSome)&&B7 aS a parts v.toList|_=>false)
 | .nck x,.nilCheck o=>eN x o
 | .min2 x y,.call ⟨.builtin .min,⟨[o,o']⟩,⟨[_,_]⟩⟩=>eN x o&&eN y o'
 | .mkf n xs,.makeFunc (.func m) ⟨[]⟩ os=>n==m&&zH xs os.toList
 | .mget q zero ok x k,.lookup t o o' r=>ok==r&&(match eD aS t with|some ⟨_,_,.map p g,_⟩=>zs aS q p&&(match eD aS g with|some f=>CK zero f.zero|none=>false)|_=>false)&&eN x o&&eN k o'
 | .ment x,.entry o=>eN x o
 | .mlen x,.call ⟨.builtin .len,⟨[o]⟩,⟨[t]⟩⟩=>(match eD aS t with|some ⟨_,_,.map _ _,_⟩=>true|_=>false)&&eN x o
 | .beq neg a x y,.binOp op t o o' _=>decide (op=if neg then .neq else .eql)&&(match a with|none=>(match eD aS t with|some ⟨_,_,.bool,_⟩=>true|_=>false)|some a=>GS aS a t)&&eN x o&&eN y o'
 | .max2 x y,.call ⟨.builtin .max,⟨[o,o']⟩,⟨[_,_]⟩⟩=>eN x o&&eN y o'
 | .mkif t x,.makeInterface t' o=>t==t'&&(match eD aS t with|some ⟨_,_,.slice _,_⟩=>true|_=>false)&&eN x o
 | .loadB agg sz x,.load t o=>(match eD aS t with|some f=>f.size==sz&&f.kind.isAgg==agg|none=>false)&&eN x o
 | .b2s x,.convert s d o=>(match eD aS s,eD aS d with|some ⟨_,_,.slice e,_⟩,some ⟨_,_,.str,_⟩=>(match eD aS e with|some ⟨_,_,.int .u8,_⟩=>true|_=>false)|_,_=>false)&&eN x o
 | .loadZ agg sz x,.load t o=>(match eD aS t with|some f=>f.size==sz&&f.kind.isAgg==agg|none=>false)&&eN x o
 | .mgetB q zero ok x k,.lookup t o o' r=>ok==r&&(match eD aS t with|some ⟨_,_,.map p g,_⟩=>zs aS q p&&(match eD aS g with|some f=>CK zero f.zero|none=>false)|_=>false)&&eN x o&&eN k o'
 |_,_=>false
end
section
open Go Go.RowKit
def Lm(P:cG)(w:World)(op:BinOp)(t:gT)(x y:Operand)(k bt:IntKind)(m n:Int):(eqGuard op t x y (.int k m) (.int bt n)).run P w= .ok () w:=by cases op<;>rfl
def aew(P:cG)(w:World)(op:BinOp)(t:gT)(x y:Operand)(m n:ByteArray):(eqGuard op t x y (.string m) (.string n)).run P w= .ok () w:=by cases op<;>rfl
def aqI(l:List cW):(⟨l.toArray⟩:ByteArray).toList=l:=Ψ
def acY(a b:List cW):(⟨a.toArray⟩:ByteArray)++(⟨b.toArray⟩:ByteArray)=⟨(a++b).toArray⟩:=by apply asq;simp
def afr(a:List cW)(l h:Nat):(⟨a.toArray⟩:ByteArray).extract l h=⟨((a.take h).drop l).toArray⟩:=by apply asq;simp[List.drop_take]
def Fl(a:List cW):(⟨a.toArray⟩:ByteArray).size=a.length:=by simp[aw4]
section
variable {P:cG} {w:World} {r:Sem Value}
def sI{k:IntKind}{x:Int}(h:r.run P w= .ok (.int k x) w):∃v,r.run P w= .ok v w/\∀ν,aU w ν (.int k x) v:=⟨_,h,fun ν=>by simp[aU]⟩
def U8{x:Bool}(h:r.run P w= .ok (.bool x) w):∃v,r.run P w= .ok v w/\∀ν,aU w ν (.bool x) v:=⟨_,h,fun ν=>by simp[aU]⟩
end
def akw(P:cG)(w:World){op:BinOp}{wr:Bool}{k:IntKind}{a b:Int}{c:Prop}{p:af}(he:HI op wr k a b=some (c,p))(aw:c)(t:gT):
  ∃v,(binOp op t (.int k a) (.int k b)).run P w= .ok v w/\∀ν,aU w ν p v:=by
 cases op<;>simp only[HI]at he;case add=>
  cases wr<;>simp only[if_true,hN,if_false]at he<;>cases he
  ·obtain⟨rfl,h⟩:=aw;exact sI (by simp[binOp,Op.intArith,pf _ h])
  ·exact sI (by simp[binOp,Op.intArith])
 case sub=>
  cases wr<;>simp only[if_true,hN,if_false]at he<;>cases he
  ·obtain⟨rfl,h⟩:=aw;exact sI (by simp[binOp,Op.intArith,pf _ h])
  ·exact sI (by simp[binOp,Op.intArith])
 case mul=>
  cases wr<;>simp only[if_true,hN,if_false]at he<;>cases he
  ·obtain⟨rfl,h⟩:=aw;exact sI (by simp[binOp,Op.intArith,pf _ h])
  ·exact sI (by simp[binOp,Op.intArith])
 case quo=>cases he;exact sI (by simp[binOp,Op.intDiv,aw])
 case rem=>cases he;exact sI (by simp[binOp,Op.intDiv,aw])
 case and=>cases he;exact sI (by simp only[binOp,Op.intBits,ne_eq,not_true_eq_false,if_false,hy])
 case or=>cases he;exact sI (by simp only[binOp,Op.intBits,ne_eq,not_true_eq_false,if_false,hy])
 case xor=>cases he;exact sI (by simp only[binOp,Op.intBits,ne_eq,not_true_eq_false,if_false,hy])
 all_goals cases he
 all_goals exact U8 (by simp only[binOp,Op.intCmp,ne_eq,not_true_eq_false,if_false,hy,gt_iff_lt,ge_iff_le])
def aqp(P:cG)(w:World){op:BinOp}{a b:List cW}{c:Prop}{p:af}(he:Jy op a b=some (c,p))(aw:c)(t:gT):
  ∃v,(binOp op t (.string ⟨a.toArray⟩) (.string ⟨b.toArray⟩)).run P w= .ok v w/\∀ν,aU w ν p v:=by
 cases op<;>simp only[Jy]at he;case add=>
  cases he;refine⟨.string ⟨(a++b).toArray⟩,?_,fun ν=>by simp only[aU];exact⟨trivial,by simpa using aw⟩⟩;have J:¬(((⟨a.toArray⟩:ByteArray).size+(⟨b.toArray⟩:ByteArray).size:Nat):Int)>vf.max:=by
   have:vf.max=9223372036854775807:=by decide
   rw[this,Fl,Fl];simp only[lim]at aw;omega
  simp only[binOp,Op.stringOp,J,if_false,hy,acY]
 all_goals cases he
 all_goals exact U8 (by simp only[binOp,Op.stringOp,aqI,hy])
def adf(P:cG)(w:World)(ν:a8){op:BinOp}{wr:Bool}{x y:af}{c:Prop}{p:af}(he:CX op wr x y=some (c,p))(aw:c)(t:gT){u v:Value}(hu:aU w ν x u)(d:aU w ν y v)(o o':Operand):
  ∃r,(do eqGuard op t o o' u v;binOp op t u v).run P w= .ok r w/\aU w ν p r:=by
 unfold CX at he;split at he
 ·rename_i k a bt b;simp only[aU]at hu d;subst hu;subst d;split at he
  ·cases he;refine⟨_,?_,by simp[aU];rfl⟩;simp[binOp,Op.shift,Lm,Int.not_lt.2 aw]
  ·cases he;refine⟨_,?_,by simp[aU];rfl⟩;simp[binOp,Op.shift,Lm,Int.not_lt.2 aw]
  ·split at he
   ·rename_i e;subst e;obtain⟨r,J,U⟩:=akw P w he aw t;exact⟨r,by simp[Lm,J],U ν⟩
   ·cases he
 ·simp only[aU]at hu d;rw[hu.1,d.1];obtain⟨r,J,U⟩:=aqp P w he aw t;exact⟨r,by simp[aew,J],U ν⟩
 ·cases he
def LD{w:World}{ν:a8}:∀(v:List Value) (i off:Nat) (cs:Array Value),off+i+v.length<=cs.size->
  ((v.zipIdx i).foldl (fun cs (x:Value×Nat)=>cs.setIfInBounds (off+x.2) x.1) cs).toList=cs.toList.take (off+i)++v++cs.toList.drop (off+i+v.length)
 |[],i,off,cs,_=>by simp
 |u::v,i,off,cs,h=>by
  simp only[List.zipIdx_cons,List.foldl_cons];rw[LD (w:=w) (ν:=ν) v (i+1) off _ (by simp at h⊢;omega)];have a:off+i<cs.toList.length:=by simp at h⊢;omega
  simp only[Array.toList_setIfInBounds];have b:(cs.toList.set (off+i) u).take (off+(i+1))=cs.toList.take (off+i)++[u]:=by rw[show off+(i+1)=(off+i)+1 from by omega,List.take_succ_eq_append_getElem (by simpa using a)];simp[List.take_set_of_le (dL _)]
  have c:(cs.toList.set (off+i) u).drop (off+(i+1)+v.length)=cs.toList.drop (off+i+(u::v).length):=by rw[List.drop_set_of_lt Ω];congr 1;simp;omega
  rw[b,c];simp
def aaC{w:World}{ν:a8}{C:fh}{st:bo}{a:Act}(n:c5 C st a w ν){aS:List (Nat×eu)}{l:List (Nat×Nat)}{f:List (Nat×Nat)}
  (m:∀(i off t sz:Nat),l[i]? =some (off,t)->(eD aS t).map (·.size)=some sz->f[i]? =some (off,sz)):
  ∀(parts:List (Nat×Nat×dM)) (d:List (Nat×Operand)) (cs:List af) (us:Array Value) (c:Prop) (cs':List af),B7 aS l parts d=true->cU w ν cs us.toList->vA st.t cs parts=some (c,cs')->c->
  ∃e:Array Value,Instr.fill (f.toArray[·]?) us (d.map fun(x:Nat×Operand)=>(x.1,a.eval x.2))=some e/\cU w ν cs' e.toList
 |[],[],cs,us,c,cs',_,h,he,aw=>by simp only[vA]at he;cases he;exact⟨us,by simp[Instr.fill],h⟩
 |[],_::_,_,_,_,_,b,_,_,_=>by simp[B7]at b
 |_::_,[],_,_,_,_,b,_,_,_=>by simp[B7]at b
 |(off,sz,x)::parts,(i,o)::d,cs,us,c,cs',b,h,he,aw=>by
  simp only[B7,cP]at b;obtain⟨⟨J,U⟩,A⟩:=b;split at J
  ·rename_i H t G;simp only[cP,ey]at J;obtain⟨rfl,J⟩:=J;have r:=m i off t sz G J;simp only[vA]at he;split at he
   ·rename_i v z E;cases he;obtain⟨⟨B,y,hle⟩,u⟩:=aw;have F:=e1 n U;have j:=wC F B;have hlen:=qI j;have q:=qI h;have k:(a.eval o).cells.size=sz:=by have:(a.eval o).cells.toList.length=(cells (cD st.t x)).length:=hlen;rw[y]at this;simpa using this
    have g:us.size=cs.length:=by simpa using q
    have p:=LD (w:=w) (ν:=ν) (a.eval o).cells.toList 0 off us (by simp[k,g];omega);have s:cU w ν (nq cs off (cells (cD st.t x))) ((((a.eval o).cells.toList.zipIdx 0).foldl (fun cs (x:Value×Nat)=>cs.setIfInBounds (off+x.2) x.1) us).toList):=by rw[p];unfold nq;refine zQ (zQ (E8 off h) j) ?_;rw[Nat.add_zero,hlen];exact Cl _ h
    obtain⟨e,g1,g2⟩:=aaC n m parts d _ _ v cs' A s E u;refine⟨e,?_,g2⟩;simp only[hc,Instr.fill,List.getElem?_toArray,r];rw[if_neg (by simp[k,g];omega)];rw[<-g1];simp only[List.getElem?_toArray];congr 1;rw[<-Array.foldl_toList];simp
   ·cases he
  ·cases J
end
section
open Go Go.RowKit
def wI{P:cG}{aS:List (Nat×eu)}(e:hW P aS=true){t:Nat}{f:eu}(g:eD aS t=some f)(w:World):
  (Go.isAgg t).run P w= .ok f.kind.isAgg w/\(sizeOf t).run P w= .ok f.size w:=by
 obtain⟨i,d,z,J,U,b,l,a,j,k,h⟩:=(wJ e g).ex;refine⟨?_,by simp[sizeOf,typeInfo,J,b]⟩;simp only[Go.isAgg,gr,run_underlying U,gy];cases c:f.kind<;>rw[c]at a<;>cases d<;>simp[k0]at a<;>simp[CR.isAgg]
def ji{P:cG}{aS:List (Nat×eu)}(b:hW P aS=true){t:Nat}{f:eu}(c:eD aS t=some f):∃d,P.underlying t=some d/\k0 f.kind d=true:=by obtain⟨i,d,z,J,U,j,k,a,g,h,e⟩:=(wJ b c).ex;exact⟨d,U,a⟩
def sB{e:Nat}{d:TypeDesc}(h:k0 (.slice e) d=true):d= .slice e:=by cases d<;>simp[k0]at h;subst h;rfl
def yI{d:TypeDesc}(h:k0 .str d=true):d= .string:=by cases d<;>simp[k0]at h;rfl
def Da{k:IntKind}{d:TypeDesc}(h:k0 (.int k) d=true):d= .int k:=by cases d<;>simp[k0]at h;subst h;rfl
def K5{a:List (Nat×Nat)}{d:TypeDesc}(h:k0 (.struct a) d=true):∃gs:Array Field,d= .struct gs/\gs.toList.map (fun f=>(f.offset,f.type))=a:=by cases d<;>simp[k0]at h;rename_i gs;exact⟨gs,rfl,by simpa using h⟩
def I9{w:World}{ν:a8}{cs:List af}{us:List Value}(h:cU w ν cs us)(off sz:Nat):cU w ν ((cs.drop off).take sz) ((us.drop off).take sz):=E8 sz (Cl off h)
def YU{w:World}{base el sz n:Nat}{v:Value}{us:List Value}(h:w.ownsRow base el sz v n us){b:Nat}(a:v.ownBlock=some b):∃cap,v= .slice (some ⟨b,0,none⟩) n cap:=by
 rcases h.2 with⟨rfl,_⟩|⟨g,cap,cur,rfl,_⟩
 ·simp[pj]at a
 ·simp[pj]at a;subst a;exact⟨cap,rfl⟩
def Good.rowElem{pr:Nat->Prop}{w:World}{ν:a8}{b:List (aA×List af)}{e:List (aA×dT)}(be:Good pr w ν b e){k:aA}{n el sz:Nat}{xs:List af}(B:ad k e=some ⟨n,el,sz,some xs⟩){i f:Nat}{u:Value}(m:aU w ν (.rptr sz k n i f) u){p:af}(x:xs[i]? =some p):
  ∃(v:Value) (us:List Value) (E:Nat),aU w ν p v/\v.cells.size=sz/\∃b o,u= .pointer (some ⟨b,o,none⟩)/\∀j c,v.cells.toList[f+j]? =some c->w.cell? ⟨b,o+j,none⟩=some c:=by
 simp only[aU]at m;obtain⟨_,hi,n',F,J,U,z⟩:=m;obtain⟨v,us,d,l,G,r⟩:=be.own k _ B;rw[J]at d;simp only[dS,jj]at d;obtain⟨rfl,rfl⟩:=d;obtain⟨bl,A,rfl⟩:=z rfl;obtain⟨cap,rfl⟩:=YU l A;obtain⟨y,g,_⟩:=r xs rfl;simp only at y g;obtain⟨v,s,h,q⟩:=I6 i g x;refine⟨v,us,el,s,h,bl,_,rfl,fun j c a=>?_⟩;have t:f+j<sz:=by have:=(fM.1 a).1;simp[h]at this;exact this
 have hmul:i*sz+sz<=n'*sz:=by have:=rG sz (show i+1<=n' from hi);rwa[Nat.succ_mul]at this
 have aw:=l.cellAt (i*sz+f+j) (by show _<n'*sz;omega);rw[aw];rw[q,List.getElem?_take,if_pos t,List.getElem?_drop]at a;rw[<-a];congr 1;omega
def H7{P:cG}{aS:List (Nat×eu)}(V:hW P aS=true){pr:Nat->Prop}{w:World}{ν:a8}{b:List (aA×List af)}{e:List (aA×dT)}(be:Good pr w ν b e){t:Nat}{f:eu}(W:eD aS t=some f)
  {x:af} {u:Value} (l:aU w ν x u) {c:Prop} {p:af} (he:nR b e f.kind.isAgg f.size x=some (c,p)) (aw:c):∃v,(Instr.loadAt t u).run P w= .ok v w/\aU w ν p v:=by
 obtain⟨d,F⟩:=wI V W w;generalize G9:f.kind.isAgg=h at*;generalize ej:f.size=sz at*;unfold nR at he;split at he
 ·rename_i ed k n i g;unfold zU at he;split at he
  ·rename_i n' el Z xs G;split at he
   ·rename_i Y;obtain⟨rfl,rfl⟩:=Y;split at he
    ·rename_i O E;obtain⟨H,us,gF,g1,g2,a⟩:=Good.rowElem be G l E;have Q:eS O=true:=by
      cases h
      ·simp only[hN,if_false,hl]at he;obtain⟨q,_,he⟩:=he;cases he;exact aw
      ·simp only[if_true]at he;cases he;exact aw.1
     have A:=wC g1 Q;cases h
     ·simp only[hN,if_false,hl]at he;obtain⟨q,r,he⟩:=he;cases he;obtain⟨v,f1,f2,f3⟩:=E7 g A r;refine⟨v,?_,f2⟩;obtain⟨b,o,rfl,a⟩:=a;have:=a 0 v (by simpa using f1);simp only[Nat.add_zero]at this;simp[Instr.loadAt,Instr.sureAddr,loadVar,d,this]
     ·simp only[if_true]at he;cases he;obtain⟨b,o,rfl,a⟩:=a;refine⟨.agg ((H.cells.toList.drop g).take sz).toArray,?_,by simp only[aU];exact⟨_,rfl,by simpa using I9 A g sz⟩⟩;have B:=qI A;have hlen:((H.cells.toList.drop g).take sz).length=sz:=by simp only[List.length_take,tS];omega
      have L:=run_loadCells_list (P:=P) w ⟨b,o,none⟩ ((H.cells.toList.drop g).take sz) (fun j v z=>by
       rw[pD];refine a j v ?_;rw[List.getElem?_take]at z;split at z
       ·simpa[List.getElem?_drop]using z
       ·cases z)
      rw[hlen]at L;simp only[Instr.loadAt,Instr.sureAddr,loadVar,gr,hy,gy,d,if_true,F,L]
    ·cases he
   ·cases he
  ·cases he
 ·rename_i k off;simp only[aU]at l;obtain⟨bl,J,rfl⟩:=l;split at he
  ·rename_i cs G;obtain⟨h2,us,el,g1,g2,g3,g4,g5⟩:=be.box k cs G;rw[J]at g1;cases g1;have K:gR cs=true:=by
    cases h
    ·simp only[hN,if_false,hl]at he;obtain⟨q,r,he⟩:=he;cases he;exact aw
    ·simp only[if_true]at he;cases he;exact aw.1
   rw[o9 K]at g4;rw[pa K]at g5;have B:=qI g5;cases h
   ·simp only[hN,if_false,hl]at he;obtain⟨q,r,he⟩:=he;cases he;obtain⟨v,f1,f2,f3⟩:=E7 off g5 r;refine⟨v,?_,f2⟩;have a:w.cell? ⟨bl,off,none⟩=some v:=by simpa[World.cell?,g4]using f1
    simp[Instr.loadAt,Instr.sureAddr,loadVar,d,a]
   ·simp only[if_true]at he;cases he;replace aw:=aw.2;refine⟨_,?_,by simp only[aU];exact⟨_,rfl,by simpa using I9 g5 off sz⟩⟩;simp only[Instr.loadAt,Instr.sureAddr,loadVar,gr,hy,gy,d,if_true,F];rw[apK g4 (by simp at B;omega)];rfl
  ·cases he
 ·rename_i q;simp only[aU]at l;obtain⟨bl,off,R,rfl,U,s⟩:=l;cases h
  ·simp only[hN,if_false]at he;cases he;obtain⟨N,m⟩:=aw;obtain⟨g1,g2⟩:=Pl U N (fun cs e=>by subst e;have:=ff List.length m;simp only[cells,mI,List.length_nil]at this;cases cs with
    |nil=>simp[cells]at m
    |cons y ys=>simp only[cells,rD]at m;obtain⟨S,X⟩:=m;subst X;have:=ff SizeOf.sizeOf S;simp at this;omega)
   refine⟨R,?_,U⟩;rw[g2]at s;have a:=s.1.2;simp[Instr.loadAt,Instr.sureAddr,loadVar,d,a]
  ·simp only[if_true]at he;cases he;obtain⟨cs,rfl,hlen⟩:=aw;simp only[aU]at U;obtain⟨us,rfl,M⟩:=U;refine⟨.agg us,?_,by simp only[aU];exact⟨us,rfl,M⟩⟩;simp only[pg]at s;have B:=qI M;have:=aaE (P:=P) s;rw[show us.toList.length=sz from by omega]at this;simp[Instr.loadAt,Instr.sureAddr,loadVar,d,F,this]
 ·cases he
def aho{P:cG}{aS:List (Nat×eu)}(y:hW P aS=true){w:World}{ν:a8}{s i:Nat}{f:eu}{n:List (Nat×Nat)}(N:eD aS s=some f)(L:f.kind= .struct n){off t:Nat}{g:eu}(hi:n[i]? =some (off,t))(be:eD aS t=some g)(F:g.size≠0)
  {x:af} {u:Value} (a:aU w ν x u) {c:Prop} {p:af} (he:sG off g.kind.isAgg g.size x=some (c,p)) (aw:c):∃v,(Instr.fieldAt s u i).run P w= .ok v w/\aU w ν p v:=by
 obtain⟨d,M,m⟩:=ji y N;rw[L]at m;obtain⟨gs,rfl,E⟩:=K5 m;have A:∃fd:Field,gs[i]? =some fd/\fd.offset=off/\fd.type=t:=by rw[<-E]at hi;simp only[List.getElem?_map,hl]at hi;obtain⟨fd,J,U⟩:=hi;simp only[jj]at U;exact⟨fd,by simpa using J,U.1,U.2⟩
 obtain⟨fd,O,ar,B⟩:=A;obtain⟨Q,K⟩:=wI y be w;have j:∀b o,(Instr.fieldAt s (.pointer (some ⟨b,o,none⟩)) i).run P w= .ok (.pointer (some ⟨b,o+off,none⟩)) w:=by intro b o;simp[Instr.fieldAt,run_underlying M,O,Instr.sureAddr,fieldPlace,B,K,F,pD,ar]
 unfold sG at he;split at he
 ·cases he;simp only[aU]at a;obtain⟨b,J,rfl⟩:=a;exact⟨_,j _ _,by simp only[aU];exact⟨b,J,rfl⟩⟩
 ·cases he;simp only[aU]at a;obtain⟨⟨b,o,rfl⟩,hi,n',r,J,U,h⟩:=a;refine⟨_,j _ _,?_⟩;simp only[aU];refine⟨⟨b,_,rfl⟩,hi,n',r,J,U,fun e=>?_⟩;obtain⟨b7,H,z⟩:=h e;simp only[axb,dS,Addr.mk.injEq,jk]at z;obtain⟨rfl,rfl⟩:=z;exact⟨b,H,by rw[Nat.add_assoc]⟩
 ·rename_i cs;simp only[aU]at a;obtain⟨b,o,r,rfl,⟨us,rfl,U⟩,h⟩:=a;refine⟨_,j _ _,?_⟩;simp only[pg]at h;split at he
  ·cases he;simp only[aU];exact⟨b,o+off,.agg ((us.toList.drop off).take g.size).toArray,rfl,⟨_,rfl,by simpa using I9 U off g.size⟩,by simpa[pg]using H2 g.size (HZ off h)⟩
  ·simp only[hl]at he;obtain⟨q,G,he⟩:=he;cases he;obtain⟨v,f1,f2,f3⟩:=E7 off U G;simp only[aU];have l:=uO h f1;have k:v.cells= #[v]:=by cases v<;>first|rfl|cases f3
   exact⟨b,o+off,v,rfl,f2,by rw[k];exact⟨l,trivial⟩⟩
 ·cases he
def ahu{P:cG}{aS:List (Nat×eu)}(l:hW P aS=true){w:World}{ν:a8}{s i:Nat}{f:eu}{h:List (Nat×Nat)}(E:eD aS s=some f)(B:f.kind= .struct h){off t:Nat}{g:eu}(hi:h[i]? =some (off,t))(be:eD aS t=some g)
  {x:af} {u:Value} (k:aU w ν x u) {c:Prop} {p:af} (he:vH off g.kind.isAgg g.size x=some (c,p)) (aw:c):∃v,(Instr.field s u i).run P w= .ok v w/\aU w ν p v:=by
 obtain⟨d,m,e⟩:=ji l E;rw[B]at e;obtain⟨gs,rfl,r⟩:=K5 e;have o:∃fd:Field,gs[i]? =some fd/\fd.offset=off/\fd.type=t:=by rw[<-r]at hi;simp only[List.getElem?_map,hl]at hi;obtain⟨fd,J,U⟩:=hi;simp only[jj]at U;exact⟨fd,by simpa using J,U.1,U.2⟩
 obtain⟨fd,n,ar,b⟩:=o;obtain⟨j,A⟩:=wI l be w;unfold vH at he;split at he
 ·rename_i cs;simp only[aU]at k;obtain⟨us,rfl,U⟩:=k;generalize F:g.kind.isAgg=y at*;cases y
  ·simp only[hN,if_false,hl]at he;obtain⟨q,z,he⟩:=he;cases he;obtain⟨v,f1,f2,f3⟩:=E7 off U z;have a:us[off]? =some v:=by simpa using f1
   exact⟨v,by simp[Instr.field,run_underlying m,n,asAgg,part,b,j,ar,a],f2⟩
  ·simp only[if_true]at he;cases he;refine⟨.agg (us.extract off (off+g.size)),by simp[Instr.field,run_underlying m,n,asAgg,part,b,j,ar,A],?_⟩;simp only[aU];refine⟨_,rfl,?_⟩;have:=I9 U off g.size;simpa[List.take_drop]using this
 ·cases he
def akr{P:cG}{aS:List (Nat×eu)}(F:hW P aS=true){w:World}{ν:a8}{t e:Nat}{f g:eu}(O:eD aS t=some f)(N:f.kind= .slice e)(be:eD aS e=some g)
  {x y:af} {u v:Value} (h:aU w ν x u) (j:aU w ν y v) {c:Prop} {p:af} (he:Bx g.size x y=some (c,p)) (aw:c):∃r,(Instr.indexAt t u v).run P w= .ok r w/\aU w ν p r:=by
 obtain⟨d,G,B⟩:=ji F O;rw[N]at B;obtain rfl:=sB B;obtain⟨R,E⟩:=wI F be w;unfold Bx at he;split at he
 ·rename_i K tag xs k i;split at he
  ·rename_i m;cases he;simp only[aU]at h j;subst j;subst m;obtain⟨⟨a,cap,rfl,J,U,q⟩,_⟩:=h;obtain⟨z,l⟩:=aw;have A:i.toNat<xs.length:=Ω
   rcases q with rfl|⟨b,off,us,rfl,s,o⟩
   ·simp at A
   ·have h:xs[i.toNat]? =some xs[i.toNat]:=cl A;obtain⟨w',M,Q,H⟩:=I6 i.toNat o h;refine⟨.pointer (some ⟨b,off+i.toNat*g.size,none⟩),?_,?_⟩
    ·simp only[Instr.indexAt,asIntOf,gr,hy,gy,run_underlying G,z,l,and_self,if_true,E,pD]
    ·simp only[aU];refine⟨b,off+i.toNat*g.size,w',rfl,by simpa[List.getD,h]using M,?_⟩;rw[H];exact H2 g.size (HZ _ s)
  ·cases he
 ·rename_i K k n kk i;split at he
  ·rename_i m;cases he;simp only[aU]at h j;subst j;subst m;obtain⟨⟨b,cap,rfl⟩,U,n',L,q,s,o⟩:=h;obtain⟨z,l⟩:=aw;refine⟨.pointer (some ⟨b,0+i.toNat*g.size,none⟩),?_,?_⟩
   ·simp only[Instr.indexAt,asIntOf,gr,hy,gy,run_underlying G,z,l,and_self,if_true,E,pD]
   ·simp only[aU];refine⟨⟨b,_,rfl⟩,Ω,n',L,q,s,fun e=>⟨b,?_,Ψ⟩⟩;rw[<-o e];rfl
  ·cases he
 ·cases he
def IA{C:fh}{st:bo}{a:Act}{w:World}{ν:a8}(h:c5 C st a w ν){x:bc dM}{o:bc Operand}(b:xV x o=true){d n:Int}(he:sd d (x.map (cD st.t))=some n):
  (o.map a.eval=none/\n=d)\/ ∃k,o.map a.eval=some (.int k n):=by
 cases x with
 |none=>cases o with
  |none=>simp[sd]at he;exact .inl ⟨rfl,he.symm⟩
  |some o=>simp[xV]at b
 |some x=>cases o with
  |none=>simp[xV]at b
  |some o=>
   simp only[xV]at b
   have:=e1 h b
   simp only[pn]at he⊢
   cases c:cD st.t x<;>simp[c,sd]at he
   rw[c]at this
   simp only[aU]at this
   subst he
   exact .inr ⟨_,by rw[this]⟩
def Rc:∀{xs:List af} {s:List cW},rQ xs=some s->s.length=xs.length
 |[],s,h=>by simp only[rQ]at h;cases h;rfl
 |x::xs,s,h=>by
  cases x<;>try(simp[rQ]at h;done)
  rename_i k n;cases k<;>simp only[rQ,hl,reduceCtorEq]at h;obtain⟨a,J,rfl⟩:=h;simp[Rc J]
def Aq(n:Int):cW:=UInt8.ofNat n.toNat
def Re{w:World}{ν:a8}{sz:Nat}:∀{xs:List af} {s:List cW} {us:List Value},rQ xs=some s->dt w ν sz xs us->∃ns:List Int,us=ns.map (Value.int .u8)/\s=ns.map Aq/\us.length=xs.length
 |[],s,us,h,a=>by simp only[rQ]at h;cases h;simp only[dt]at a;subst a;exact⟨[],rfl,rfl,rfl⟩
 |x::xs,s,us,h,a=>by
  cases x<;>try(simp[rQ]at h;done)
  rename_i k n;cases k<;>simp only[rQ,hl,reduceCtorEq]at h;obtain⟨d,J,rfl⟩:=h;simp only[dt,aU]at a;obtain⟨u,c,rfl,⟨rfl,_⟩,a⟩:=a;obtain⟨ns,rfl,rfl,b⟩:=Re J a;exact⟨n::ns,by simp[pg],rfl,by simp[pg]at b⊢;exact b⟩
def Y3{P:cG}{w:World}{f:Value->ByteArray->Sem (ForInStep ByteArray)}(a:∀n s,f (.int .u8 n) s=pure (.yield (s.push (Aq n)))):∀(ns:List Int) (s:ByteArray),(forIn (ns.map (Value.int .u8)) s f).run P w= .ok ⟨(s.data.toList++ns.map Aq).toArray⟩ w
 |[],s=>by simp
 |n::ns,s=>by simp only[hc,List.forIn_cons,gr,a,hy,gy];rw[Y3 a ns];simp[aw3]
def ac9{P:cG}{w:World}{A:Nat->Nat->Prop}{a:bc Addr}{len cap:Nat}{ns:List Int}(g:ns.length=len)(h:len=0\/ ∃b off,a=some ⟨b,off,none⟩/\kR w A b off (ns.map (Value.int .u8))):
  (Conv.bytesToString (.slice a len cap)).run P w= .ok (.string ⟨(ns.map Aq).toArray⟩) w:=by
 have f:∀c,a=some c->(loadCells c len).run P w= .ok (ns.map (Value.int .u8)).toArray w:=fun c e=>by
  rcases h with h|⟨b,off,d,U⟩
  ·subst h;have:ns=[]:=by cases ns<;>simp_all
   subst this;exact run_loadCells_list w c [] fun j v i=>by simp at i
  ·rw[d]at e;cases e;have:=aaE (P:=P) U;simpa[g]using this
 unfold Conv.bytesToString;cases a with
 |none=>
  have:ns=[]:=by
   rcases h with h|⟨b,off,d,U⟩
   ·subst h;cases ns<;>simp_all
   ·cases d
  subst this;simp;rfl
 |some c=>simp only[gr,f c rfl,gy,Array.forIn_toList,List.forIn_toArray];rw[Y3 (fun n s=>rfl) ns aw2];simp
def acj{c d:af}(h:JV c d=true):c=d:=by unfold JV at h;split at h<;>simp_all
def Qp:∀{cs a:List af},Ad cs a=true->cs=a
 |[],[],_=>rfl
 |[],_::_,h=>by simp[Ad]at h
 |_::_,[],h=>by simp[Ad]at h
 |c::cs,d::a,h=>by simp only[Ad,cP]at h;rw[acj h.1,Qp h.2]
def aso{cs:List af}{z:af}(h:Qt cs z=true):z= .agg cs:=by
 cases z<;>simp only[Qt]at h;case agg a=>rw[Qp h]
 all_goals cases h
def aiB(s:List cW)(n:Nat)(h:n<s.length):(⟨s.toArray⟩:ByteArray)[n]? =some (s.getD n 0):=by
 have a:n<(⟨s.toArray⟩:ByteArray).size:=by rw[Fl];exact h
 have e:(⟨s.toArray⟩:ByteArray)[n]? =some ((⟨s.toArray⟩:ByteArray)[n]'a):=getElem?_pos (⟨s.toArray⟩:ByteArray) n a;rw[e];congr 1;simp[List.getD,h];rfl
def Jt(P:cG)(w:World)(k:IntKind)(i:Int)(y:Nat)(c:BoundsCode)(a:0<=i)(J:i<=y):(Instr.sliceBound (.int k i) y c).run P w= .ok i.toNat w:=by simp[Instr.sliceBound,asIntOf,a,J]
def Q6(P:cG)(w:World)(a:Bool)(len cap:Nat)(lo hi:bc Value)(l h:Int)(b:(lo=none/\l=0)\/ ∃k,lo=some (.int k l))(c:(hi=none/\h=len)\/ ∃k,hi=some (.int k h))
  (d:0<=l) (J:l<=h) (U:h<=len) (aw:len<=cap):(Instr.sliceBounds a len cap lo hi none).run P w= .ok (l.toNat,h.toNat,cap) w:=by
 rcases b with⟨rfl,rfl⟩|⟨k,rfl⟩<;>rcases c with⟨rfl,rfl⟩|⟨bt,rfl⟩
 ·simp[Instr.sliceBounds]
 ·simp[Instr.sliceBounds,Jt P w bt h cap _ Ω Ω]
 ·simp[Instr.sliceBounds,Jt P w k l len _ Ω Ω]
 ·simp[Instr.sliceBounds,Jt P w bt h cap _ Ω Ω,Jt P w k l h.toNat _ Ω Ω]
def Y0{P:cG}{aS:List (Nat×eu)}(e:hW P aS=true):∀(gs:List Field),(gs.all fun f=>(eD aS f.type).isSome)=true->
  ∃a:List (Nat×Nat),gs.mapM (fun f=>(P.info? f.type).map fun i=>(f.offset,i.size))=some a/\
   ∀(i off t sz:Nat),(gs.map (fun f=>(f.offset,f.type)))[i]? =some (off,t)->(eD aS t).map (·.size)=some sz->a[i]? =some (off,sz)
 |[],_=>⟨[],Ψ,Ψ⟩
 |f::gs,h=>by
  simp only[List.all_cons,cP]at h;obtain⟨a,J,U⟩:=Y0 e gs h.2;obtain⟨g,be⟩:=fA.1 h.1;obtain⟨i,d,z,l,r,k,q,p,o,n,m⟩:=(wJ e be).ex;refine⟨(f.offset,g.size)::a,by simp[List.mapM_cons,l,k,J],fun j off t sz b c=>?_⟩;cases j with
  |zero=>simp only[hc,List.getElem?_cons_zero,dS,jj]at b⊢;obtain⟨rfl,rfl⟩:=b;rw[be]at c;simpa using c
  |succ j=>simp only[hc,List.getElem?_cons_succ]at b⊢;exact U j off t sz b c
def lU{P:cG}{w:World}{x:Sem Value}{v:Value}(h:x.run P w= .ok v w):(do pure (Next.value (<-x)):Sem Next).run P w= .ok (.value v) w:=by simp[h]
def Qs{p q:af}(h:CK p q=true):p=q:=by
 unfold CK at h;split at h
 ·rw[Qp h]
 ·cases h
 ·exact acj h
def Qr(w:World)(ν:a8){p:af}{v:Value}(h:Ae p v=true):aU w ν p v/\cU w ν (cells p) v.cells.toList:=by
 by_cases b:∃cs,p= .agg cs
 ·obtain⟨cs,rfl⟩:=b;cases v<;>simp only[Ae]at h;case agg us=>have:=Qq w ν _ _ h;exact⟨by simp only[aU];exact⟨us,rfl,this⟩,by simpa[cells,pg]using this⟩
  all_goals cases h
 ·have a:Au p v=true/\v.oneCell'=true:=by cases p<;>simp only[Ae,cP]at h<;>first|exact h|exact absurd ⟨_,rfl⟩ b
  have c:=Kt w ν a.1;refine⟨c,?_⟩;have aw:cells p=[p]:=by cases p<;>first|rfl|exact absurd ⟨_,rfl⟩ b
  have d:v.cells= #[v]:=by have:=a.2;cases v<;>first|rfl|simp[Value.oneCell']at this
  rw[aw,d];simp only[cU];exact⟨v,[],rfl,⟨c,a.2⟩,rfl⟩
def PZ{P:cG}{aS:List (Nat×eu)}(e:hW P aS=true){t:Nat}{f:eu}(g:eD aS t=some f)(w:World):∃z,(zeroValue t).run P w= .ok z w/\Ae f.zero z=true/\z.cells.size=f.size:=by obtain⟨i,d,z,J,U,j,k,h,b,c,a⟩:=(wJ e g).ex;exact⟨z,by simp[zeroValue,typeInfo,J,b],c,a⟩
def E9{C:fh}{st:bo}{a:Act}{w:World}{ν:a8}(h:c5 C st a w ν):∀{xs:List dM} {os:List Operand},zH xs os=true->c1 w ν (xs.map (cD st.t)) (os.map a.eval)
 |[],[],_=>by simp[c1]
 |[],_::_,b=>by simp[zH]at b
 |_::_,[],b=>by simp[zH]at b
 |x::xs,o::os,b=>by simp only[zH,cP]at b;simp only[hc,c1];exact⟨_,_,rfl,e1 h b.1,E9 h b.2⟩
def aex{P:cG}{w:World}{t:gT}(c:P.underlying t=some .bool)(d:Nat)(a b:Bool):(Op.equalIn (d+1) t (.bool a) (.bool b)).run P w= .ok (a==b) w:=by rw[Op.equalIn];simp only[gr,run_underlying c,gy,hy]
def aey{P:cG}{w:World}{t:gT}(c:P.underlying t=some .bool)(a b:Bool):(Op.equal t (.bool a) (.bool b)).run P w= .ok (a==b) w:=aex c _ a b
def TR:∀{borns:List Nat} {kvs:List af} {us:List Value},kvs.length=2*borns.length->us.length=kvs.length->(gM borns us).length=borns.length
 |[],_,us,_,_=>by simp[gM]
 |b7::a,kvs,[],J,U=>by rw[J]at U;simp at U
 |b7::a,kvs,[_],J,U=>by rw[J]at U;simp at U;omega
 |b7::a,kvs,k::v::us,J,U=>by simp only[gM,mI];rw[TR (kvs:=kvs.drop 2) (us:=us) (borns:=a) (by simp at J⊢;omega) (by simp at J U⊢;omega)]
def aaq{w:World}{ν:a8}:∀{a:List af} {bk:List Value},c1 w ν a bk->bk.length=a.length
 |[],bk,h=>by simp only[c1]at h;subst h;rfl
 |p::a,bk,h=>by simp only[c1]at h;obtain⟨u,b,rfl,_,U⟩:=h;simp[aaq U]
def x7{P:cG}{w:World}{r:Nat}{o:Obj}(a:w.heap[r]? =some o)(b:∀c e f,o≠ .cells c e f:=by simp):(getObj r).run P w= .ok o w:=by simp only[getObj,Sem.run,a]
def rH(P:cG):Nat->List Bool->List Field->Prop
 |_,[],[]=>True
 |n,b::r,f::gs=>(f.offset=n/\f.name≠ "_" /\(if b=true then P.underlying f.type=some .string else∃k,P.underlying f.type=some (.int k)))/\rH P (n+1) r gs
 |_,_,_=>et
def EW{P:cG}{t:gT}{b:Bool}(h:if b=true then P.underlying t=some .string else∃k,P.underlying t=some (.int k)):P.plainKey t=true:=by
 cases b
 ·obtain⟨k,h⟩:=(by simpa using h:∃k,P.underlying t=some (.int k));simp[Program.plainKey,h]
 ·have h:P.underlying t=some .string:=by simpa using h
  simp[Program.plainKey,h]
def adu{P:cG}{w:World}{ν:a8}(d:Nat){X Y:Array Value}(A:List Bool):∀(gs:List Field) (n:Nat) (as g:List af) (us bk:List Value) (q:Bool),rH P n A gs->X.toList.drop n=us->Y.toList.drop n=bk->cU w ν as us->cU w ν g bk->kK A as g=some q->
  (Op.eqFields (d+1) X Y gs).run P w= .ok q w/\(q=true->us=bk)/\∀m,(us.zip us).all (fun(x,y)=>Instr.sameBits m x y)=true:=by
 induction A with
 |nil=>intro gs n as g us bk q be p o J U h;cases as<;>cases g<;>simp only[kK,dS,reduceCtorEq]at h;cases gs<;>simp only[rH]at be;simp only[cU]at J U;rw[J,U,<-h];exact⟨by simp[Op.eqFields],fun _=>rfl,fun m=>rfl⟩
 |cons z r L=>
  intro gs n as g us bk q be p o J U h;cases gs with
  |nil=>simp only[rH]at be
  |cons f gs=>
  simp only[rH]at be;obtain⟨⟨M,K,l⟩,be⟩:=be;cases as with
  |nil=>cases z<;>cases g<;>simp[kK]at h
  |cons s as=>
  cases g with
  |nil=>cases z<;>cases s<;>simp[kK]at h
  |cons t g=>
  cases z with
  |false=>
   have aw:∃k a b c,s= .int k a/\t= .int k b/\kK r as g=some c/\q=((a==b)&&c):=by
    cases s<;>first|(simp[kK]at h;done)|skip
    cases t<;>first|(simp[kK]at h;done)|skip
    simp only[kK]at h;split at h
    ·rename_i O;subst O;simp only[hl]at h;obtain⟨c,j,E⟩:=h;exact⟨_,_,_,c,rfl,rfl,j,E.symm⟩
    ·cases h
   obtain⟨k,a,b,c,rfl,rfl,j,rfl⟩:=aw;simp only[cU,aU]at J U;obtain⟨u,B,rfl,⟨rfl,_⟩,J⟩:=J;obtain⟨v,vs',rfl,⟨rfl,_⟩,U⟩:=U;have H:X[n]? =some (.int k a):=by rw[<-ve,<-List.head?_drop,p];rfl
   have F:Y[n]? =some (.int k b):=by rw[<-ve,<-List.head?_drop,o];rfl
   obtain⟨i1,i2,i3⟩:=L gs (n+1) as g B vs' c be (by rw[<-List.tail_drop,p];rfl) (by rw[<-List.tail_drop,o];rfl) J U j;obtain⟨kk,G⟩:=(by simpa using l:∃k,P.underlying f.type=some (.int k));refine⟨?_,?_,fun m=>?_⟩
   ·simp only[Op.eqFields,K,ne_eq,not_false_eq_true,if_true,gr,M,run_part_plain w (EW l) H,run_part_plain w (EW l) F,gy,run_equalIn_int w d f.type k kk a b G];cases N:(a==b)
    ·simp
    ·simpa using i1
   ·intro i;simp only[cP,ey]at i;rw[i.1,i2 i.2]
   ·have:=i3 m;simp only[List.zip_cons_cons,List.all_cons,this,Bool.and_true];cases m<;>simp[Instr.sameBits]
  |true=>
   have aw:∃a b c,s= .str a/\t= .str b/\kK r as g=some c/\q=((a==b)&&c):=by
    cases s<;>first|(simp[kK]at h;done)|skip
    cases t<;>first|(simp[kK]at h;done)|skip
    simp only[kK,hl]at h;obtain⟨c,j,E⟩:=h;exact⟨_,_,c,rfl,rfl,j,E.symm⟩
   obtain⟨a,b,c,rfl,rfl,j,rfl⟩:=aw;simp only[cU,aU]at J U;obtain⟨u,B,rfl,⟨⟨rfl,_⟩,_⟩,J⟩:=J;obtain⟨v,vs',rfl,⟨⟨rfl,_⟩,_⟩,U⟩:=U;have H:X[n]? =some (.string ⟨a.toArray⟩):=by rw[<-ve,<-List.head?_drop,p];rfl
   have F:Y[n]? =some (.string ⟨b.toArray⟩):=by rw[<-ve,<-List.head?_drop,o];rfl
   obtain⟨i1,i2,i3⟩:=L gs (n+1) as g B vs' c be (by rw[<-List.tail_drop,p];rfl) (by rw[<-List.tail_drop,o];rfl) J U j;have G:P.underlying f.type=some .string:=by simpa using l
   refine⟨?_,?_,fun m=>?_⟩
   ·simp only[Op.eqFields,K,ne_eq,not_false_eq_true,if_true,gr,M,run_part_plain w (EW l) H,run_part_plain w (EW l) F,gy,run_equalIn_string w d f.type _ _ G];have e:((⟨a.toArray⟩:ByteArray).toList==(⟨b.toArray⟩:ByteArray).toList)=(a==b):=by rw[asr,asr]
    rw[e];cases N:(a==b)
    ·simp
    ·simpa using i1
   ·intro i;simp only[cP,ey]at i;rw[i.1,i2 i.2]
   ·have:=i3 m;simp only[List.zip_cons_cons,List.all_cons,this,Bool.and_true];cases m<;>simp only[Instr.sameBits]<;>exact(MapKept.bytes_beq _ _).2 rfl
def Uv{P:cG}{aS:List (Nat×eu)}(aM:hW P aS=true):∀(ei:List Bool) (gs:List Field) (n:Nat),AV aS n ei (gs.map fun f=>(f.offset,f.type))=true->(gs.all (fun f=>match P.underlying f.type with|some (.int _)=>true|some .string=>true|_=>false)=true)/\((∀f∈gs,f.name≠ "_")->rH P n ei gs)
 |[],[],_,_=>⟨rfl,fun _=>trivial⟩
 |[],_::_,_,h=>by simp[AV]at h
 |_::_,[],_,h=>by simp[AV]at h
 |b::r,f::gs,n,h=>by
  simp only[hc,AV,cP,ey]at h;obtain⟨⟨J,U⟩,ao⟩:=h;obtain⟨i1,i2⟩:=Uv aM r gs (n+1) ao;split at U
  ·rename_i aG;obtain⟨d,hu,aJ⟩:=ji aM aG;obtain rfl:=Da aJ;refine⟨by simp only[List.all_cons,hu,i1,Bool.and_self],fun aB=>⟨⟨J,aB f Ψ,?_⟩,i2 fun g be=>aB g (by simp[be])⟩⟩;have:b=false:=by simpa using U
   subst this;simpa using⟨_,hu⟩
  ·rename_i aG;obtain⟨d,hu,aJ⟩:=ji aM aG;obtain rfl:=yI aJ;refine⟨by simp only[List.all_cons,hu,i1,Bool.and_self],fun aB=>⟨⟨J,aB f Ψ,?_⟩,i2 fun g be=>aB g (by simp[be])⟩⟩;subst U;simpa using hu
  ·cases U
def Ux{P:cG}{aS:List (Nat×eu)}(b:hW P aS=true){a:List Bool}{t:Nat}(h:GS aS a t=true):∃gs,P.underlying t=some (.struct gs)/\rH P 0 a gs.toList/\P.stoodInHeld t=false/\P.eqGuardType P.depth t=false:=by
 unfold GS at h;split at h
 ·rename_i e;obtain⟨d,hu,c⟩:=ji b e;have aw:=(wJ b e).cmp d hu;cases d<;>simp[k0]at c;rename_i gs;subst c;obtain⟨i1,i2⟩:=Uv b a gs.toList 0 h;have f:Uw P gs=true:=i1;simp only[K0,f,Bool.not_true,Bool.false_or,Tt,cP,sv,j7,bne_iff_ne,ne_eq]at aw;exact⟨gs,hu,i2 aw.1.1,aw.1.2,aw.2⟩
 ·cases h
def TV{P:cG}{w:World}{ν:a8}{t:gT}{gs:Array Field}{a:List Bool}(hu:P.underlying t=some (.struct gs))(be:rH P 0 a gs.toList)(du:P.stoodInHeld t=false){as b:List af}{X Y:Array Value}(J:cU w ν as X.toList)(U:cU w ν b Y.toList){q:Bool}(h:kK a as b=some q):
  (Op.equalIn 10000 t (.agg X) (.agg Y)).run P w= .ok q w/\(q=true->X=Y)/\∀m,(X.toList.zip X.toList).all (fun(x,y)=>Instr.sameBits m x y)=true:=by
 have c:P.fieldsOf t=gs:=by simp[Program.fieldsOf,hu]
 obtain⟨i1,i2,i3⟩:=adu 9998 a gs.toList 0 as b _ _ q be rfl rfl J U h;refine⟨?_,fun e=>?_,?_⟩
 ·rw[run_equalIn_struct w 9999 t X Y (by rw[c];exact hu) du,c];exact i1
 ·have:=i2 e;simpa using this
 ·simpa using i3
inductive vm (P:cG):ka->gT->Prop
 |i {t:gT} {k:IntKind}:P.underlying t=some (.int k)->vm P .i t
 |s {t:gT}:P.underlying t=some .string->vm P .s t
 |a {t:gT} {ei:List Bool} {gs:Array Field}:P.underlying t=some (.struct gs)->rH P 0 ei gs.toList->P.stoodInHeld t=false->vm P (.a ei) t
def WX{P:cG}{aS:List (Nat×eu)}(c:hW P aS=true){b:ka}{t:Nat}(h:zs aS b t=true):vm P b t:=by
 cases b with
 |i=>
  simp only[zs]at h;split at h
  ·rename_i f;obtain⟨d,hu,e⟩:=ji c f;obtain rfl:=Da e;exact .i hu
  ·cases h
 |s=>
  simp only[zs]at h;split at h
  ·rename_i f;obtain⟨d,hu,e⟩:=ji c f;obtain rfl:=yI e;exact .s hu
  ·cases h
 |a j=>obtain⟨gs,J,U,g,_⟩:=Ux c h;exact .a J U g
def tX(P:cG)(w:World)(c:ka)(t:gT)(a u:Value)(b:Bool):Prop:=match c with
 | .a _=>(Op.equal t a u).run P w= .ok b w
 |_=> ∀d,P.underlying t=some d->Instr.sameNow d a u=some b
def iS(P:cG)(w:World)(b:ka)(t:gT)(a:Value)(es:List MapEntry)(i:Nat)(r:bc (Nat×Value)):Prop:=match b with
 | .a _=>(Instr.findAsking t a es i).run P w= .ok r w
 |_=> ∀d,P.underlying t=some d->Instr.findNow d a es i=some r
def iS.nil(P:cG)(w:World)(a:ka)(t:gT)(b:Value)(i:Nat):iS P w a t b [] i none:=by cases a<;>simp[iS,Instr.findAsking,Instr.findNow]
def iS.hit{P:cG}{w:World}{b:ka}{t:gT}{f:Value}{e:MapEntry}{es:List MapEntry}{i:Nat}(h:tX P w b t f e.key true):iS P w b t f (e::es) i (some (i,e.val)):=by
 cases b with
 |a g=>simp only[tX]at h;simp[iS,Instr.findAsking,h]
 |i=>simp only[tX]at h;simp only[iS];intro d c;simp[Instr.findNow,h d c]
 |s=>simp only[tX]at h;simp only[iS];intro d c;simp[Instr.findNow,h d c]
def iS.miss{P:cG}{w:World}{f:ka}{t:gT}{g:Value}{e:MapEntry}{es:List MapEntry}{i:Nat}{r:bc (Nat×Value)}(h:tX P w f t g e.key false)(b:iS P w f t g es (i+1) r):iS P w f t g (e::es) i r:=by
 cases f with
 |a j=>simp only[tX]at h;simp only[iS]at b;simp[iS,Instr.findAsking,h,b]
 |i=>simp only[tX]at h;simp only[iS]at b⊢;intro d c;simp[Instr.findNow,h d c,b d c]
 |s=>simp only[tX]at h;simp only[iS]at b⊢;intro d c;simp[Instr.findNow,h d c,b d c]
def iS.run{P:cG}{w:World}{c:ka}{t:gT}(d:vm P c t){b:Value}{es:List MapEntry}{r:bc (Nat×Value)}(h:iS P w c t b es 0 r):(Instr.findKey t b es).run P w= .ok r w:=by
 cases d with
 |i hu=>simp only[iS]at h;simp[Instr.findKey,run_underlying hu,h _ hu]
 |s hu=>simp only[iS]at h;simp[Instr.findKey,run_underlying hu,h _ hu]
 |a hu be du=>
  simp only[iS]at h;cases es with
  |nil=>simp[Instr.findAsking]at h;simp[Instr.findKey,run_underlying hu,Instr.findNow,h]
  |cons e es=>
   rename_i gs;have:Instr.sameNow (.struct gs) b e.key=none:=by cases b<;>rfl
   simp only[Instr.findKey,gr,run_underlying hu,gy,Instr.findNow,this];exact h
def WV{P:cG}{w:World}{ν:a8}{j:ka}{t:gT}(f:vm P j t){k bt:af}{h u:Value}(g:aU w ν k h)(J:aU w ν bt u){bb:Bool}(c:uJ j k bt=some bb):
  tX P w j t h u bb/\(bb=true->u=h/\Instr.sameBits 10000 u h=true):=by
 unfold uJ at c;split at c
 ·split at c
  ·rename_i l;subst l;simp only[aU]at g J;subst g;subst J;cases f with
   |i hu=>refine⟨fun d f=>by rw[hu]at f;cases f;simpa[Instr.sameNow]using c,fun e=>?_⟩;subst e;simp only[dS,ey]at c;subst c;exact⟨rfl,by simp[Instr.sameBits]⟩
  ·cases c
 ·rename_i a b;simp only[aU]at g J;obtain⟨rfl,_⟩:=g;obtain⟨rfl,_⟩:=J;cases f with
  |s hu=>
   refine⟨fun d f=>?_,fun e=>?_⟩
   ·rw[hu]at f;cases f;simp only[Instr.sameNow];rw[<-c];congr 1;rw[qP,MapKept.bytes_beq];simp
   ·subst e;simp only[dS,ey]at c;subst c;exact⟨rfl,by simp only[Instr.sameBits];exact(MapKept.bytes_beq _ _).2 rfl⟩
 ·simp only[aU]at g J;obtain⟨X,rfl,g⟩:=g;obtain⟨Y,rfl,J⟩:=J;cases f with
  |a hu be du=>obtain⟨i1,i2,i3⟩:=TV hu be du g J c;refine⟨by simpa[tX,Op.equal,Op.maxDepth]using i1,fun e=>?_⟩;have:=i2 e;subst this;exact⟨rfl,by simp[Instr.sameBits,i3]⟩
 ·cases c
def NT{P:cG}{w:World}{ν:a8}{c:ka}{t:gT}(p:vm P c t){k:af}{f:Value}(o:aU w ν k f):∀(borns:List Nat) (kvs:List af) (us:List Value) (i:Nat) (r:bc af),c1 w ν kvs us->kvs.length=2*borns.length->xN c k kvs=some r->
  match r with
  |none=>iS P w c t f (gM borns us) i none
  |some v=> ∃j u,iS P w c t f (gM borns us) i (some (j,u))/\aU w ν v u
 |[],[],us,i,r,h,_,hm=>by simp only[xN]at hm;cases hm;simp only[c1]at h;subst h;simpa[gM]using iS.nil P w c t f i
 |[],_::_,_,_,_,_,a,_=>by simp at a
 |b::l,[],_,_,_,_,a,_=>by simp at a
 |b::l,[_],_,_,_,_,a,_=>by simp at a;omega
 |b::l,bt::v::kvs,us,i,r,h,a,hm=>by
  simp only[c1]at h;obtain⟨g,x,rfl,J,d,q,rfl,U,s⟩:=h;simp only[xN]at hm;simp only[gM];cases m:uJ c k bt with
  |none=>simp[m]at hm
  |some bb=>
   obtain⟨s1,_⟩:=WV p o J m;simp only[m]at hm;cases bb with
   |true=>simp only[dS]at hm;subst hm;exact⟨i,d,iS.hit (e:=⟨g,d,b⟩) s1,U⟩
   |false=>
    simp only at hm;have n:=NT p o l kvs q (i+1) r s (by simp at a;omega) hm;cases r with
    |none=>exact iS.miss (e:=⟨g,d,b⟩) s1 n
    |some v'=>obtain⟨j,u,g1,g2⟩:=n;exact⟨j,u,iS.miss (e:=⟨g,d,b⟩) s1 g1,g2⟩
def KY{P:cG}{w:World}{t:Nat}{d:TypeDesc}(hu:P.underlying t=some d)(a:(∃k,d= .int k)\/d= .string)(e:Bool)(n:Nat)(v:Value):(Instr.checkKey e (n+1) t v).run P w= .ok () w:=by unfold Instr.checkKey;rcases a with⟨k,rfl⟩|rfl<;>simp[run_underlying hu]
def aht{P:cG}{w:World}{ν:a8}{X:Array Value}(i:List Bool):∀(gs:List Field) (n:Nat) (as:List af),rH P n i gs->cU w ν as (X.toList.drop n)->(kK i as as).isSome=true->
  ∀f∈gs,(∃v,(part f.type X f.offset).run P w= .ok v w)/\∃d,P.underlying f.type=some d/\((∃k,d= .int k)\/d= .string):=by
 induction i with
 |nil=>intro gs n as be _ _ f a;cases gs<;>simp only[rH]at be;cases a
 |cons b r o=>
  intro gs n as be j aw f a;cases gs with
  |nil=>cases a
  |cons g gs=>
  simp only[rH]at be;obtain⟨⟨t,y,c⟩,be⟩:=be;cases as with
  |nil=>cases b<;>simp[kK]at aw
  |cons p as=>
  have l:(kK r as as).isSome=true:=by cases b<;>cases p<;>simp[kK]at aw⊢ <;>exact aw
  simp only[cU]at j;obtain⟨u,q,e,_,m⟩:=j;have s:X.toList.drop (n+1)=q:=by rw[<-List.tail_drop,e];rfl
  have x:X[n]? =some u:=by rw[<-ve,<-List.head?_drop,e];rfl
  rcases gK.1 a with rfl|a
  ·refine⟨⟨u,by rw[t];exact run_part_plain w (EW c) x⟩,?_⟩;cases b
   ·obtain⟨k,h⟩:=(by simpa using c:∃k,P.underlying f.type=some (.int k));exact⟨_,h,.inl ⟨k,rfl⟩⟩
   ·exact⟨_,by simpa using c,.inr rfl⟩
  ·exact o gs (n+1) as be (by rw[s];exact m) l f a
def UF{P:cG}{w:World}{α:Type}(body:α->PUnit->Sem (ForInStep PUnit)):∀(l:List α),(∀f∈l,(body f ⟨⟩).run P w= .ok (.yield ⟨⟩) w)->(forIn l PUnit.unit body).run P w= .ok PUnit.unit w
 |[],_=>by simp
 |f::l,h=>by simp only[List.forIn_cons,gr,h f Ψ,gy];exact UF body l fun g be=>h g (by simp[be])
def aaB{P:cG}{w:World}{ν:a8}{cv:ka}{t:Nat}(aJ:vm P cv t)(e:Bool){k:af}{v:Value}(ab:aU w ν k v)(hi:xI cv k=true):(Instr.checkKey e 10000 t v).run P w= .ok () w:=by
 cases aJ with
 |i hu=>exact KY hu (.inl ⟨_,rfl⟩) e 9999 v
 |s hu=>exact KY hu (.inr rfl) e 9999 v
 |a hu be du=>
  rename_i ei gs;cases k<;>simp only[xI,hN]at hi;rename_i as;simp only[aU]at ab;obtain⟨X,rfl,ab⟩:=ab;unfold Instr.checkKey;simp only[gr,run_underlying hu,gy];rw[<-Array.forIn_toList];rw[UF]
  ·simp
  ·intro f aG;obtain⟨⟨v,J⟩,d,U,ao⟩:=aht ei gs.toList 0 as be (by simpa using ab) hi f aG;have aY:=KY (w:=w) U ao e 9998 v;by_cases aB:f.name= "_"
   ·simp[aB]
   ·simp[aB,J,aY]
def XI{w:World}{ν:a8}{n:Nat}:∀(borns:List Nat) (kvs:List af) (us:List Value) (p:af),c1 w ν kvs us->nT n borns kvs=some p->∃e,(gM borns us).find? (·.born==n)=some e/\aU w ν p (.tuple #[e.key,e.val])
 |[],_,_,_,_,hm=>by simp[nT]at hm
 |_::_,[],_,_,_,hm=>by simp[nT]at hm
 |_::_,[_],_,_,_,hm=>by simp[nT]at hm
 |b::g,k::v::kvs,us,p,h,hm=>by
  simp only[c1]at h;obtain⟨d,j,rfl,J,c,f,rfl,U,i⟩:=h;simp only[nT]at hm;simp only[gM];by_cases e:b=n
  ·rw[if_pos e]at hm;cases hm;refine⟨⟨d,c,b⟩,by simp[List.find?,e],?_⟩;simp only[aU];exact⟨#[d,c],rfl,by simp only[c1];exact⟨_,_,rfl,J,_,_,rfl,U,rfl⟩⟩
  ·rw[if_neg e]at hm;obtain⟨x,g1,g2⟩:=XI g kvs f p i hm;have a:(b==n)=false:=by simpa using e
   exact⟨x,by simp[List.find?,a,g1],g2⟩
def abB{P:cG}{aS:List (Nat×eu)}(H:hW P aS=true){C:fh}{st:bo}{a:Act}{w:World}{ν:a8}(B:c5 C st a w ν){i:gL}(aiV:∀cv z ok x k,i≠ .mgetB cv z ok x k){o:Oper}(ar:FC aS i o.op=true)
  {c:Prop} {p:af} (he:hX st i=some (c,p)) (aw:c):∃v,(execOp a.eval o).run P w= .ok (.value v) w/\aU w ν p v:=by
 obtain⟨dst,op,type,pos,after,guard⟩:=o;simp only at ar;unfold FC at ar;split at ar
 ·rename_i x o;simp only[hX]at he;cases he;exact⟨_,rfl,e1 B ar⟩
 ·rename_i x o;simp only[hX]at he;cases he;exact⟨_,rfl,e1 B ar⟩
 ·rename_i cA x y asR x' y';simp only[cP]at ar;have J:=e1 B ar.1.1;have U:=e1 B ar.1.2;have M:=e1 B ar.2;simp only[hX,IF]at he;split at he
  ·rename_i b E;rw[E]at J;simp only[aU]at J;split at he
   ·rename_i u v hu O;cases he;rw[hu]at U;rw[O]at M;simp only[aU]at U M;refine⟨.bool (cond b u v),?_,by simp[aU]⟩;simp only[execOp,J,U,M,asBool,gr,hy,gy];cases b<;>rfl
   ·split at he
    ·cases he;exact⟨_,by simp only[execOp,J,asBool,gr,hy,gy,if_true],U⟩
    ·cases he;exact⟨_,by simp only[execOp,J,asBool,gr,hy,gy,hN,if_false],M⟩
  ·cases he
 ·rename_i agg sz x t o;simp only[cP]at ar;obtain⟨J,U⟩:=ar;split at J
  ·rename_i f F;simp only[cP,ey]at J;obtain⟨rfl,rfl⟩:=J;obtain⟨v,g1,g2⟩:=H7 H B.good F (e1 B U) (by simpa only[hX]using he) aw;exact⟨v,lU g1,g2⟩
  ·cases J
 ·rename_i off agg sz x s o i;simp only[cP]at ar;obtain⟨J,U⟩:=ar;split at J
  ·rename_i f F;split at J
   ·rename_i xS t DL;simp only[cP,ey]at J;obtain⟨rfl,J⟩:=J;split at J
    ·rename_i g be;simp only[cP,ey,bne_iff_ne,ne_eq]at J;obtain⟨⟨rfl,rfl⟩,V⟩:=J;obtain⟨v,g1,g2⟩:=aho H F rfl DL be V (e1 B U) (by simpa only[hX]using he) aw;exact⟨v,lU g1,g2⟩
    ·cases J
   ·cases J
  ·cases J
 ·rename_i off agg sz x s o i;simp only[cP]at ar;obtain⟨J,U⟩:=ar;split at J
  ·rename_i f F;split at J
   ·rename_i xS t DL;simp only[cP,ey]at J;obtain⟨rfl,J⟩:=J;split at J
    ·rename_i g be;simp only[cP,ey]at J;obtain⟨rfl,rfl⟩:=J;obtain⟨v,g1,g2⟩:=ahu H F rfl DL be (e1 B U) (by simpa only[hX]using he) aw;exact⟨v,lU g1,g2⟩
    ·cases J
   ·cases J
  ·cases J
 ·rename_i sz x i t o j;simp only[cP]at ar;obtain⟨⟨J,U⟩,M⟩:=ar;split at J
  ·rename_i e F;split at J
   ·rename_i g be;simp only[ey]at J;subst J;obtain⟨v,g1,g2⟩:=akr H F rfl be (e1 B U) (e1 B M) (by simpa only[hX]using he) aw;exact⟨v,lU g1,g2⟩
   ·cases J
  ·cases J
 ·rename_i x i t o j;simp only[cP]at ar;obtain⟨⟨J,U⟩,M⟩:=ar;split at J
  ·rename_i F;obtain⟨d,L,K⟩:=ji H F;obtain rfl:=yI K;have A:=e1 B U;have G:=e1 B M;simp only[hX,Jr]at he;split at he
   ·rename_i s k n ai aB;cases he;rw[ai]at A;rw[aB]at G;simp only[aU]at A G;obtain⟨vM,xd⟩:=aw;have bN:n.toNat<s.length:=Ω
    have ajk:(⟨s.toArray⟩:ByteArray)[n.toNat]? =some (s.getD n.toNat 0):=by exact aiB s n.toNat bN
    refine⟨_,lU (v:= .int .u8 (s.getD n.toNat 0).toNat) ?_,by simp[aU]⟩;simp only[Instr.index,G,asIntOf,A.1,gr,hy,gy,run_underlying L,vM,if_true,ajk]
   ·cases he
  ·cases J
 ·rename_i x lo hi t o l h;simp only[cP]at ar;obtain⟨⟨⟨J,U⟩,M⟩,aY⟩:=ar;split at J
  ·rename_i F;obtain⟨d,L,K⟩:=ji H F;obtain rfl:=yI K;have A:=e1 B U;simp only[hX,Jw]at he;split at he
   ·rename_i s ai;rw[ai]at A;simp only[aU]at A;split at he
    ·rename_i N Q av Mn;cases he;obtain⟨bO,cn,dh⟩:=aw;have W:=IA B M av;have bY:=IA B aY Mn;refine⟨_,lU (v:= .string ⟨((s.take Q.toNat).drop N.toNat).toArray⟩) ?_,?_⟩
     ·have E:=Q6 P w false s.length s.length (l.map a.eval) (h.map a.eval) N Q
       W bY bO cn dh (dL _)
      simp only[Instr.sliceAt,Instr.slice,A.1,gr,hy,gy,run_underlying L,Option.map_none,mL,hN,if_false,Fl,E,afr]
     ·simp only[aU];refine⟨trivial,?_⟩;have:=A.2;simp only[tS,List.length_take];omega
    ·cases he
   ·cases he
  ·cases J
 ·rename_i sz x lo hi t o l h;simp only[cP]at ar;obtain⟨⟨⟨J,U⟩,M⟩,aY⟩:=ar;split at J
  ·rename_i e F;split at J
   ·rename_i g be;simp only[ey]at J;subst J;obtain⟨d,L,K⟩:=ji H F;obtain rfl:=sB K;obtain⟨_,ej⟩:=wI H be w;have A:=e1 B U;simp only[hX,H9]at he;split at he
    ·rename_i ed tag xs ai;split at he
     ·rename_i fZ;subst fZ;rw[ai]at A;simp only[aU]at A;obtain⟨⟨R,cap,O,S,Z,fI⟩,_⟩:=A;split at he
      ·rename_i N Q av Mn;cases he;obtain⟨bO,cn,dh⟩:=aw;have W:=IA B M av;have bY:=IA B aY Mn;have E:=Q6 P w true xs.length cap (l.map a.eval) (h.map a.eval) N Q
        W bY bO cn dh S
       refine⟨_,lU (v:= .slice (if cap=N.toNat then R else R.map (·.add (N.toNat*g.size))) (Q.toNat-N.toNat) (cap-N.toNat)) ?_,?_⟩
       ·simp only[Instr.sliceAt,Instr.slice,O,gr,hy,gy,run_underlying L,Option.map_none,E,ej]
       ·simp only[aU];have hlen:((xs.take Q.toNat).drop N.toNat).length=Q.toNat-N.toNat:=by simp;omega
        refine⟨⟨_,_,by rw[hlen],by rw[hlen];omega,⟨Ω,by rw[hlen];omega⟩,?_⟩,(fun h=>by cases h),(fun g h=>by cases h),(fun _ _ h=>by cases h),(fun _ h=>by cases h)⟩;rcases fI with rfl|⟨b,off,us,rfl,g1,g2⟩
        ·left;simp
        ·by_cases A5:cap=N.toNat
         ·left;apply List.eq_nil_of_length_eq_zero;rw[hlen];omega
         ·right;rw[if_neg A5];refine⟨b,off+N.toNat*g.size,(us.take (Q.toNat*g.size)).drop (N.toNat*g.size),by simp[pD],HZ _ (H2 _ g1),aah _ (aak _ g2)⟩
      ·cases he
     ·cases he
    ·cases he
   ·cases J
  ·cases J
 ·rename_i op wr x y YP ty o o' aqL;simp only[cP,gu]at ar;obtain⟨⟨rfl,J⟩,U⟩:=ar;obtain⟨r,g1,g2⟩:=adf P w ν (by simpa only[hX]using he) aw ty (e1 B J) (e1 B U) o o';exact⟨r,lU g1,g2⟩
 ·rename_i x op ty o;simp only[cP,gu]at ar;obtain⟨rfl,J⟩:=ar;have A:=e1 B J;simp only[hX]at he;unfold Ir at he;split at he
  ·rename_i b E;cases he;rw[E]at A;simp only[aU]at A;exact⟨_,lU (v:= .bool (!b)) (by simp[Op.unary,A]),by simp[aU]⟩
  ·cases he
 ·rename_i x op ty o;simp only[cP,gu]at ar;obtain⟨rfl,J⟩:=ar;have A:=e1 B J;simp only[hX]at he;unfold Im at he;split at he
  ·rename_i k n E;cases he;rw[E]at A;simp only[aU]at A;exact⟨_,lU (v:= .int k (k.wrap (0-n))) (by simp[Op.unary,A,Op.intArith]),by simp[aU]⟩
  ·cases he
 ·rename_i k x s d o;simp only[cP]at ar;obtain⟨J,U⟩:=ar;split at J
  ·rename_i W bY y3 sR;simp only[gu]at J;subst J;obtain⟨d1,gf,Ma⟩:=ji H y3;obtain rfl:=Da Ma;obtain⟨d2,fb,Mb⟩:=ji H sR;obtain rfl:=Da Mb;have A:=e1 B U;simp only[hX]at he;unfold Gv at he;split at he
   ·rename_i bt n E;cases he;rw[E]at A;simp only[aU]at A;exact⟨_,lU (v:= .int k (k.wrap n)) (by simp[convert,A,run_underlying gf,run_underlying fb,Conv.intToInt]),by simp[aU]⟩
   ·cases he
  ·cases J
 ·rename_i i x o j;simp only[cP,ey]at ar;obtain⟨rfl,J⟩:=ar;have A:=e1 B J;simp only[hX]at he;unfold AO at he;split at he
  ·rename_i bk E;simp only[hl]at he;obtain⟨q,bP,he⟩:=he;cases he;rw[E]at A;simp only[aU]at A;obtain⟨us,hu,U⟩:=A;obtain⟨v,g1,g2⟩:=Fa i U bP;have l1:us[i]? =some v:=by simpa using g1
   exact⟨v,lU (by simp[Instr.extract,hu,l1]),g2⟩
  ·cases he
 ·rename_i x o t;simp only[cP]at ar;obtain⟨J,U⟩:=ar;have A:=e1 B U;simp only[hX]at he;unfold BI at he;split at he
  ·rename_i sz tag xs E;cases he;rw[E]at A;simp only[aU]at A;obtain⟨⟨R,cap,O,_⟩,_⟩:=A;refine⟨.int .i64 xs.length,?_,by simp[aU]⟩;split at J
   ·rename_i F;obtain⟨d,L,K⟩:=ji H F;obtain rfl:=sB K;simp[execOp,resolve,invoke,builtin,Builtin.len_,run_underlying L,O,goInt]
   ·cases J
  ·rename_i sz k n E;cases he;rw[E]at A;simp only[aU]at A;obtain⟨⟨R,cap,O⟩,_⟩:=A;refine⟨.int .i64 n,?_,by simp[aU]⟩;split at J
   ·rename_i F;obtain⟨d,L,K⟩:=ji H F;obtain rfl:=sB K;simp[execOp,resolve,invoke,builtin,Builtin.len_,run_underlying L,O,goInt]
   ·cases J
  ·rename_i R n cap E;cases he;rw[E]at A;simp only[aU]at A;refine⟨.int .i64 n,?_,by simp[aU]⟩;split at J
   ·rename_i F;obtain⟨d,L,K⟩:=ji H F;obtain rfl:=sB K;simp[execOp,resolve,invoke,builtin,Builtin.len_,run_underlying L,A,goInt]
   ·cases J
  ·cases he
 ·rename_i x o t;simp only[cP]at ar;obtain⟨J,U⟩:=ar;have A:=e1 B U;simp only[hX]at he;unfold Fm at he;split at he
  ·rename_i s E;cases he;rw[E]at A;simp only[aU]at A;refine⟨.int .i64 s.length,?_,by simp[aU]⟩;split at J
   ·rename_i F;obtain⟨d,L,K⟩:=ji H F;obtain rfl:=yI K;simp[execOp,resolve,invoke,builtin,Builtin.len_,run_underlying L,A.1,goInt,Fl]
   ·cases J
  ·rename_i s E;cases he;rw[E]at A;simp only[aU]at A;refine⟨.int .i64 s.size,?_,by simp[aU]⟩;split at J
   ·rename_i F;obtain⟨d,L,K⟩:=ji H F;obtain rfl:=yI K;simp[execOp,resolve,invoke,builtin,Builtin.len_,run_underlying L,A,goInt]
   ·cases J
  ·cases he
 ·rename_i zero parts t bS;split at ar
  ·rename_i ei z F;simp only[cP]at ar;obtain⟨⟨J,U⟩,M⟩:=ar;have bC:=aso J;obtain⟨i,d,asn,A,G,bh,b2,dI,dj,sC,sD⟩:=(wJ H F).ex;obtain⟨gs,rfl,k7⟩:=K5 dI;simp only at bC sC sD;subst bC;have mj:(gs.toList.all fun f=>(eD aS f.type).isSome)=true:=by rw[<-k7]at U;simpa[List.all_map,Function.comp_def]using U
   obtain⟨tB,cY,dF⟩:=Y0 H gs.toList mj;rw[k7]at dF;cases asn<;>simp only[Ae]at sC;case agg us=>
    simp only[hX]at he;cases E:vA st.t zero parts with
    |none=>simp[E]at he
    |some x=>obtain⟨cA,cs'⟩:=x;simp only[E,pn]at he;cases he;obtain⟨b1,g1,g2⟩:=aaC B dF parts bS.toList zero us c cs' M (Qq w ν _ _ sC) E aw;refine⟨.agg b1,lU (run_build w t _ b1 ?_),by simp only[aU];exact⟨b1,rfl,g2⟩⟩;simp only[Program.built,A,G,dj,cY,pg];simpa using g1
   all_goals cases sC
  ·cases ar
 ·rename_i x o;have A:=e1 B ar;simp only[hX]at he;unfold BW at he;split at he
  ·rename_i k off E;cases he;rw[E]at A;have G:=A;simp only[aU]at A;obtain⟨b,_,O⟩:=A;exact⟨a.eval o,by simp[execOp,O],G⟩
  ·rename_i q E;cases he;rw[E]at A;have G:=A;simp only[aU]at A;obtain⟨b,off,u,O,_⟩:=A;exact⟨a.eval o,by simp[execOp,O],G⟩
  ·rename_i f cs E;cases he;rw[E]at A;have G:=A;simp only[aU]at A;obtain⟨us,O,_⟩:=A;exact⟨a.eval o,by simp[execOp,O],G⟩
  ·cases he
 ·rename_i x y o o' t t';simp only[cP]at ar;have A:=e1 B ar.1;have G:=e1 B ar.2;simp only[hX]at he;unfold Ij at he;split at he
  ·rename_i k m bt n hm aB;split at he
   ·rename_i ab;subst ab;cases he;rw[hm]at A;rw[aB]at G;simp only[aU]at A G;exact⟨.int k (if n<m then n else m),by simp[execOp,resolve,invoke,builtin,Builtin.min_,Builtin.min2,A,G],by simp[aU]⟩
   ·cases he
  ·cases he
 ·rename_i n xs m os;simp only[cP,ey]at ar;obtain⟨rfl,ar⟩:=ar;simp only[hX]at he;cases he;have vK:=E9 B ar;refine⟨.func (.func n) #[] (os.map a.eval),by simp[execOp,Instr.makeFunc],?_⟩;simp only[aU];exact⟨os.map a.eval,rfl,by simpa using vK⟩
 ·rename_i cv zero ok x k t o o' Is;simp only[cP,ey]at ar;obtain⟨⟨⟨rfl,J⟩,U⟩,M⟩:=ar;have A:=e1 B U;have G:=e1 B M;split at J
  ·rename_i sz mg o5 rX z F;simp only[cP]at J;obtain⟨ajs,Mf⟩:=J;split at Mf
   ·rename_i atI Hh;have bC:=Qs Mf;obtain⟨cS,hu,K⟩:=ji H F;have xe:cS= .map o5 rX:=by cases cS<;>simp[k0]at K;obtain⟨rfl,rfl⟩:=K;rfl
    subst xe;obtain⟨b9,lV,z2,_⟩:=PZ H Hh w;rw[<-bC]at z2;have aa:=(Qr w ν z2).1;have q1:=WX H ajs;simp only[hX]at he;unfold o7 at he;split at he
    ·rename_i key ae;rw[ae]at A;simp only[aU]at A;obtain⟨bl,S,Z⟩:=A;split at he
     ·rename_i clock borns kvs hT;obtain⟨h2,us,el,g1,g2,g3,g4,g5⟩:=B.good.box key _ hT;rw[S]at g1;cases g1;simp only[lQ]at g4;simp only[kW]at g5;have iH:(getObj bl).run P w= .ok (.map (gM borns us.toList).toArray clock) w:=x7 g4;split at he
      ·cases he
      rename_i fs;have DI:=aaB (P:=P) (w:=w) q1 ((gM borns us.toList).toArray.isEmpty) G (by simpa using fs);split at he
      ·rename_i v hm;cases he;obtain⟨j,u,f1,f2⟩:=NT q1 G borns kvs us.toList 0 _ g5.1 g5.2.len hm;refine⟨if ok then .tuple #[u,.bool true]else u,?_,?_⟩
       ·simp only[execOp];refine lU ?_;simp only[Instr.lookup,gr,run_underlying hu,gy,Z,iH,hy,DI,f1.run q1]
       ·cases ok
        ·simpa using f2
        ·simp only[if_true,aU];exact⟨_,rfl,by simp only[c1];exact⟨_,_,rfl,f2,_,_,rfl,by simp[aU],rfl⟩⟩
      ·rename_i hm;cases he;have f1:=NT q1 G borns kvs us.toList 0 _ g5.1 g5.2.len hm;simp only at f1;refine⟨if ok then .tuple #[b9,.bool false]else b9,?_,?_⟩
       ·simp only[execOp];refine lU ?_;simp only[Instr.lookup,gr,run_underlying hu,gy,Z,iH,hy,DI,f1.run q1,lV]
       ·cases ok
        ·simpa using aa
        ·simp only[if_true,aU];exact⟨_,rfl,by simp only[c1];exact⟨_,_,rfl,aa,_,_,rfl,by simp[aU],rfl⟩⟩
      ·cases he
     ·cases he
    ·cases he
   ·cases Mf
  ·cases J
 ·rename_i x o;have A:=e1 B ar;simp only[hX]at he;unfold qD at he;split at he
  ·rename_i gi ae;rw[ae]at A;simp only[aU]at A;obtain⟨bl,S,Z⟩:=A;split at he
   ·rename_i since seen last mk hT;obtain⟨h2,us,el,g1,g2,g3,g4,g5⟩:=B.good.box gi _ hT;rw[S]at g1;cases g1;simp only[lQ]at g4;simp only[kW,c1,aU]at g5;obtain⟨u,b1,r6,⟨mb,m1,rfl⟩,rfl⟩:=g5;rw[r6]at g4;simp only at g4;split at he
    ·rename_i clock borns kvs ajB;obtain⟨adk,sp,aer,W,bY,cE,fv,dz⟩:=B.good.box mk _ ajB;rw[m1]at W;cases W;simp only[lQ]at fv;simp only[kW]at dz;split at he
     ·rename_i n aB;simp only[hl]at he;obtain⟨q,bP,he⟩:=he;cases he;obtain⟨e,f1,f2⟩:=XI borns kvs sp.toList p dz.1 bP;refine⟨.tuple #[e.key,e.val],?_,f2⟩;simp only[execOp];refine lU ?_;have ajg:(getObj bl).run P w= .ok (.mapIter (some mb) since seen.toArray last) w:=x7 g4;have ajh:(getObj mb).run P w= .ok (.map (gM borns sp.toList).toArray clock) w:=x7 fv;have L4:seen.toArray.back? =some n:=by simpa using aB
      have A6:(clock !=last)=false:=by simp[aw]
      have ai9:(gM borns sp.toList).toArray.find? (·.born==n)=some e:=by simpa using f1
      simp only[Instr.entry,Z,gr,ajg,gy,L4,ajh,A6,hN,if_false,ai9,hy]
     ·cases he
    ·cases he
   ·cases he
  ·cases he
 ·rename_i x o t;simp only[cP]at ar;obtain⟨J,U⟩:=ar;have A:=e1 B U;simp only[hX]at he;unfold BV at he;split at he
  ·rename_i key E;rw[E]at A;simp only[aU]at A;obtain⟨bl,S,Z⟩:=A;split at he
   ·rename_i clock borns kvs hT;cases he;obtain⟨h2,us,el,g1,g2,g3,g4,g5⟩:=B.good.box key _ hT;rw[S]at g1;cases g1;simp only[lQ]at g4;simp only[kW]at g5;have iH:(getObj bl).run P w= .ok (.map (gM borns us.toList).toArray clock) w:=x7 g4;have hlen:(gM borns us.toList).length=borns.length:=TR g5.2.len (aaq g5.1);refine⟨.int .i64 borns.length,?_,by simp[aU]⟩;split at J
    ·rename_i F;obtain⟨d,L,K⟩:=ji H F;obtain⟨o5,rX,rfl⟩:∃o5 rX,d= .map o5 rX:=by cases d<;>simp[k0]at K;exact⟨_,_,rfl⟩
     simp[execOp,resolve,invoke,builtin,Builtin.len_,run_underlying L,Z,goInt,iH,hlen]
    ·cases J
   ·cases he
  ·cases he
 ·rename_i neg ei x y op t o o' aqL;simp only[cP,gu]at ar;obtain⟨⟨⟨rfl,V⟩,J⟩,U⟩:=ar;have A:=e1 B J;have G:=e1 B U;simp only[hX]at he;unfold jm at he;split at he
  ·rename_i bs b7 bR E;simp only at V;cases he;rw[bR]at A;rw[E]at G;simp only[aU]at A G;split at V
   ·rename_i F;obtain⟨d,L,K⟩:=ji H F;obtain rfl:d= .bool:=by cases d<;>simp[k0]at K;rfl
    refine⟨.bool (if neg then bs !=b7 else bs==b7),lU ?_,by simp[aU]⟩;cases neg<;>simp[A,G,eqGuard,binOp,aey L,bne]
   ·cases V
  ·rename_i atP as dA bR E;simp only at V;simp only[hl]at he;obtain⟨q,bP,he⟩:=he;cases he;rw[bR]at A;rw[E]at G;simp only[aU]at A G;obtain⟨X,aek,aoJ⟩:=A;obtain⟨Y,ael,aoK⟩:=G;obtain⟨gs,hu,be,du,jD⟩:=Ux H V;obtain⟨i1,_,_⟩:=TV hu be du aoJ aoK bP;refine⟨.bool (if neg then !q else q),lU ?_,by simp[aU]⟩;rw[aek,ael];cases neg
   ·simp only[hN,if_false,gr,run_eqGuard_agg w _ t o o' X Y jD,gy,run_eql_struct,i1]
   ·simp only[if_true,gr,run_eqGuard_agg w _ t o o' X Y jD,gy,run_neq_struct,i1]
  ·cases he
 ·rename_i x y o o' t t';simp only[cP]at ar;have A:=e1 B ar.1;have G:=e1 B ar.2;simp only[hX]at he;unfold Ie at he;split at he
  ·rename_i k m bt n hm aB;split at he
   ·rename_i ab;subst ab;cases he;rw[hm]at A;rw[aB]at G;simp only[aU]at A G;exact⟨.int k (if m<n then n else m),by simp[execOp,resolve,invoke,builtin,Builtin.max_,Builtin.max2,A,G],by simp[aU]⟩
   ·cases he
  ·cases he
 ·rename_i t x t' o;simp only[cP,ey]at ar;obtain⟨⟨rfl,J⟩,U⟩:=ar;have A:=e1 B U;simp only[hX]at he;cases he;split at J
  ·rename_i F;obtain⟨d,L,K⟩:=ji H F;obtain rfl:=sB K;refine⟨.iface t (a.eval o),lU (by simp[Instr.makeInterface,run_underlying L]),?_⟩;simp only[aU];exact⟨_,rfl,A⟩
  ·cases J
 ·rename_i agg sz x t o;simp only[cP]at ar;obtain⟨J,U⟩:=ar;split at J
  ·rename_i f F;simp only[cP,ey]at J;obtain⟨rfl,rfl⟩:=J;obtain⟨v,g1,g2⟩:=H7 H B.good F (e1 B U) (alm (by simpa only[hX]using he)) aw;exact⟨v,lU g1,g2⟩
  ·cases J
 ·rename_i x s d o;simp only[cP]at ar;obtain⟨J,U⟩:=ar;split at J
  ·rename_i e _ _ y3 sR;split at J
   ·rename_i ai8;obtain⟨d1,gf,Ma⟩:=ji H y3;obtain rfl:=sB Ma;obtain⟨d2,fb,Mb⟩:=ji H sR;obtain rfl:=yI Mb;obtain⟨d3,gV,ai4⟩:=ji H ai8;obtain rfl:=Da ai4;have A:=e1 B U;simp only[hX]at he;unfold F6 at he;split at he
    ·rename_i sz tag xs E;simp only[hl]at he;obtain⟨dA,pM,he⟩:=he;cases he;rw[E]at A;simp only[aU]at A;obtain⟨⟨R,cap,a6,bB,bT,dp⟩,_⟩:=A;have av:=Rc pM;have ae:∃ns:List Int,ns.length=xs.length/\dA=ns.map Aq/\(xs.length=0\/ ∃b off,R=some ⟨b,off,none⟩/\kR w ν.A b off (ns.map (Value.int .u8))):=by
      rcases dp with rfl|⟨b,off,us,cY,dF,hD⟩
      ·simp only[rQ,dS]at pM;exact⟨[],rfl,by rw[<-pM];rfl,.inl rfl⟩
      ·obtain⟨ns,dK,eG,kr⟩:=Re pM hD;subst dK;exact⟨ns,by simpa using kr,eG,.inr ⟨b,off,cY,dF⟩⟩
     obtain⟨ns,fj,rfl,hK⟩:=ae;refine⟨_,lU (v:= .string ⟨(ns.map Aq).toArray⟩) ?_,by simp only[aU];exact⟨trivial,by rw[av];exact bT.2⟩⟩;rw[a6];simp only[convert,gr,run_underlying gf,run_underlying fb,gy];simp only[run_underlying gV,gr,gy,ac9 fj hK]
    ·cases he
   ·cases J
  ·cases J
 ·rename_i agg sz x t o;simp only[cP]at ar;obtain⟨J,U⟩:=ar;split at J
  ·rename_i f F;simp only[cP,ey]at J;obtain⟨rfl,rfl⟩:=J;obtain⟨v,g1,g2⟩:=H7 H B.good F (e1 B U) (ahz (by simpa only[hX]using he)) aw;exact⟨v,lU g1,g2⟩
  ·cases J
 ·exact absurd rfl (aiV _ _ _ _ _)
 ·cases ar
def aqR{P:cG}{aS:List (Nat×eu)}(f:hW P aS=true){C:fh}{st:bo}{a:Act}{w:World}{ν:a8}(g:c5 C st a w ν){i:gL}{o:Oper}(ar:FC aS i o.op=true)
  {c:Prop} {p:af} (he:hX st i=some (c,p)) (aw:c):∃v,(execOp a.eval o).run P w= .ok (.value v) w/\aU w ν p v:=by
 by_cases d:∃b z ok x k,i= .mgetB b z ok x k
 ·obtain⟨b,z,ok,x,k,rfl⟩:=d;refine abB f g (i:= .mget b z ok x k) (fun _ _ _ _ _ e=>by cases e) ?_ he aw;obtain⟨dst,op,type,pos,after,guard⟩:=o;cases op<;>first|exact ar|simp[FC]at ar
 ·exact abB f g (fun b z ok x k e=>d ⟨b,z,ok,x,k,e⟩) ar he aw
def Tl{w:World}{o:Obj}{b i:Nat}(h:b<w.heap.size):(w.alloc o).cell? ⟨b,i,none⟩=w.cell? ⟨b,i,none⟩:=World.cell?_of_block (Below.heap_alloc w o b h)
def a8.withBox(ν:a8)(k:aA)(bl:Nat):a8:={ν with bx:=fun j=>if j=k then some bl else ν.bx j}
def a8.withOwn(ν:a8)(k:aA)(n:Nat)(v:Value):a8:={ν with ow:=fun j=>if j=k then some (n,v)else ν.ow j}
def c5.lookNone{C:fh}{st:bo}{a:Act}{w:World}{ν:a8}(h:c5 C st a w ν){k:aA}(c:fresh st.n st.o k):ad k st.b=none/\ad k st.e=none:=by
 obtain⟨J,U,_⟩:=h.new k c;constructor
 ·cases b:ad k st.b with
  |none=>rfl
  |some cs=>obtain⟨bl,us,el,g1,_⟩:=h.good.box _ _ b;rw[J]at g1;cases g1
 ·cases b:ad k st.e with
  |none=>rfl
  |some o=>obtain⟨v,us,g1,_⟩:=h.good.own _ _ b;rw[U]at g1;cases g1
def Good.ownLt{pr:Nat->Prop}{w:World}{ν:a8}{b:List (aA×List af)}{e:List (aA×dT)}(h:Good pr w ν b e){g:aA}{o:dT}(be:ad g e=some o){n:Nat}{v:Value}(c:ν.ow g=some (n,v)){bl:Nat}(a:v.ownBlock=some bl):bl<w.heap.size:=by obtain⟨v',us,g1,g2,_⟩:=h.own g o be;rw[c]at g1;cases g1;exact(g2.lt bl a).2
def Good.boxLt{pr:Nat->Prop}{w:World}{ν:a8}{b:List (aA×List af)}{e:List (aA×dT)}(h:Good pr w ν b e){k:aA}{cs:List af}(c:ad k b=some cs){bl:Nat}(a:ν.bx k=some bl):bl<w.heap.size:=by obtain⟨d,us,el,g1,_,_,g4,_⟩:=h.box k cs c;rw[a]at g1;cases g1;exact(Array.getElem?_eq_some_iff.1 g4).1
def c5.newBox{C:fh}{st:bo}{a:Act}{w:World}{ν:a8}(h:c5 C st a w ν){d:aA}(K:ν.bx d=none/\ν.ow d=none/\∀j b,¬ν.tr d j b){n':Nat}{o':List aA}(P:∀j,fresh n' o' j->fresh st.n st.o j/\j≠d){cs:List af}{us:Array Value}(el:gT)(aw:kW w ν cs us.toList):
  c5 C {st with b:=cH d cs st.b,n:=n',o:=o'} a (w.alloc (lQ cs us el)) (ν.withBox d w.heap.size)/\
  aU (w.alloc (lQ cs us el)) (ν.withBox d w.heap.size) (.ptr d 0) (.pointer (some ⟨w.heap.size,0,none⟩)):=by
 obtain⟨L,U,E⟩:=K;have ar:mf w ν (w.alloc (lQ cs us el)) (ν.withBox d w.heap.size):=by
  refine⟨fun b o i=>⟨i,Tl (h.good.alt b o i)⟩,fun k b _ c=>?_,fun g n u _ be=>⟨n,u,be,.inl ⟨rfl,rfl⟩⟩,fun b o i=>ya (Below.heap_alloc w _ b (h.good.alt b o i)),fun _ _ _ _ h=>h⟩;have:k≠d:=fun e=>by subst e;rw[L]at c;cases c
  simp[a8.withBox,this,c]
 have z:(w.alloc (lQ cs us el)).heap.size=w.heap.size+1:=Ψ
 have s:∀k,(ad k (cH d cs st.b)).isSome->k=d\/(k≠d/\(ad k st.b).isSome/\(ν.withBox d w.heap.size).bx k=ν.bx k):=by
  intro k c;by_cases e:k=d
  ·exact .inl e
  ·rw[je,if_neg (Ne.symm e)]at c;exact .inr ⟨e,c,by simp[a8.withBox,e]⟩
 refine⟨h.over ar rfl ⟨fun bl o i=>by rw[z];have:=h.good.alt bl o i;omega,fun k A c=>?_,fun k bt bl c M q r=>?_,fun g o be=>?_,h.good.oinj,fun g k n v bl be c H f x=>?_,fun k=>?_,fun bl f k j F=>?_⟩
  ⟨h.fr.os,h.fr.tape,h.fr.output,by rw[z];have:=h.fr.size;omega,fun k c hm=>?_,fun b o i=>?_,h.fr.fresh,fun n b f=>?_,h.fr.obn,h.fr.row,h.fr.obr,h.fr.trd,fun k j b f=>⟨(h.fr.trb k j b f).1,by rw[z];have:=(h.fr.trb k j b f).2;omega⟩,fun k j b f=>?_,fun b o i=>(ar.sh b o (h.fr.keep b o i).1).trans (h.fr.sh b o i)⟩ (fun m hm=>?_),?_⟩
 ·simp only at c;rw[je]at c;by_cases e:d=k
  ·rw[if_pos e]at c;cases c;subst e;refine⟨w.heap.size,us,el,by simp[a8.withBox],.inr h.fr.size,fun o i=>?_,heap_alloc_new w _,rq ar aw⟩;have:=h.good.alt _ o i;omega
  ·rw[if_neg e]at c;obtain⟨bl,S,O,g1,g2,g3,g4,g5⟩:=h.good.box k A c;exact⟨bl,S,O,ar.bx _ _ trivial g1,g2,g3,by rw[Below.heap_alloc w _ bl (Array.getElem?_eq_some_iff.1 g4).1];exact g4,rq ar g5⟩
 ·rcases s k c with rfl|⟨G,p,l⟩<;>rcases s bt M with rfl|⟨m1,m2,m3⟩
  ·rfl
  ·exfalso;simp only[a8.withBox,if_true,dS]at q;subst q;rw[m3]at r;obtain⟨A,y⟩:=fA.1 m2;have:=h.good.boxLt y r;omega
  ·exfalso;simp only[a8.withBox,if_true,dS]at r;subst r;rw[l]at q;obtain⟨A,y⟩:=fA.1 p;have:=h.good.boxLt y q;omega
  ·rw[l]at q;rw[m3]at r;exact h.good.inj k bt bl p m2 q r
 ·obtain⟨v,xs,g1,g2,g3,g4⟩:=h.good.own g o be;exact⟨v,xs,g1,g2.alloc _,g3,tF ar (fun _ _ _ h=>h) g4⟩
 ·rcases s k c with rfl|⟨G,p,l⟩
  ·simp only[a8.withBox,if_true,dS]at x;subst x;obtain⟨o,N⟩:=fA.1 be;have:=h.good.ownLt N H f;omega
  ·rw[l]at x;exact h.good.obx g k n v bl be p H f x
 ·by_cases e:k=d
  ·subst e;exact .inr U
  ·rcases h.good.one k with J|J
   ·exact .inl (by simp[a8.withBox,e,J])
   ·exact .inr J
 ·rcases f with⟨bt,R,a2⟩|f
  ·rcases s bt R with rfl|⟨G,p,l⟩
   ·simp[a8.withBox]at a2;subst a2;exact absurd (h.fr.trb k j _ F).2 (Nat.lt_irrefl _)
   ·exact h.good.otr bl (.inl ⟨bt,p,by rw[<-l];exact a2⟩) k j F
  ·exact h.good.otr bl (.inr f) k j F
 ·rw[Below.heap_alloc w _ k (by have:=h.fr.size;omega)];exact h.fr.block k c hm
 ·obtain⟨t,B⟩:=h.fr.keep b o i;exact⟨t,(Tl (h.good.alt b o t)).trans B⟩
 ·exact ar.bx _ _ trivial (h.fr.obj n b f)
 ·have Q:k≠d:=fun e=>by subst e;exact E j b f
  obtain⟨t1,t2⟩:=h.fr.trn k j b f;exact⟨by simp[a8.withBox,Q,t1],t2⟩
 ·obtain⟨f1,f2⟩:=P m hm;obtain⟨t,B⟩:=h.new m f1;refine⟨?_,B⟩;simp[a8.withBox,f2,t]
 ·simp[aU,a8.withBox]
def c5.setBox{C:fh}{st:bo}{a:Act}{w w':World}{ν:a8}(h:c5 C st a w ν){k:aA}{cs cs':List af}(p:ad k st.b=some cs){bl:Nat}(f:ν.bx k=some bl){us:Array Value}{el:gT}
  (N:w'.os=w.os) (L:w'.tape=w.tape) (M:w'.output=w.output) (l:∀j,j≠bl->w'.heap[j]? =w.heap[j]?) (r:w'.heap.size=w.heap.size) (A:w'.heap[bl]? =some (lQ cs' us el)) (aw:kW w ν cs' us.toList):
  c5 C {st with b:=cH k cs' st.b} a w' ν/\mf w ν w' ν:=by
 obtain⟨O,P,K,g1,g2,g3,g4,g5⟩:=h.good.box k cs p;rw[f]at g1;cases g1;have ar:mf w ν w' ν:=by
  refine⟨fun b o d=>⟨d,World.cell?_of_block (l b fun e=>?_)⟩,fun _ _ _ h=>h,fun g n u _ be=>⟨n,u,be,.inl ⟨rfl,rfl⟩⟩,fun b o d=>ya (l b fun e=>?_),fun _ _ _ _ h=>h⟩<;>
  (subst e;exact g3 o d)
 have q:∀j,(ad j (cH k cs' st.b)).isSome->(ad j st.b).isSome:=by
  intro j c;rw[je]at c;by_cases e:k=j
  ·subst e;simp[p]
  ·rwa[if_neg e]at c
 refine⟨h.over ar rfl ⟨fun b o d=>by rw[r];exact h.good.alt b o d,fun j E c=>?_,fun j dg b c z=>h.good.inj j dg b (q j c) (q dg z),fun g o be=>?_,h.good.oinj,fun g j n v b be c=>h.good.obx g j n v b be (q j c),h.good.one,fun bl f=>h.good.otr bl (f.imp (fun⟨k,J,U⟩=>⟨k,q k J,U⟩) id)⟩
  ⟨N.trans h.fr.os,L.trans h.fr.tape,M.trans h.fr.output,by rw[r];exact h.fr.size,fun j c hm=>?_,fun b o d=>?_,h.fr.fresh,h.fr.obj,h.fr.obn,h.fr.row,h.fr.obr,h.fr.trd,fun k j b f=>⟨(h.fr.trb k j b f).1,by rw[r];exact(h.fr.trb k j b f).2⟩,h.fr.trn,fun b o d=>(ar.sh b o (h.fr.keep b o d).1).trans (h.fr.sh b o d)⟩ h.new,ar⟩
 ·simp only at c;rw[je]at c;by_cases e:k=j
  ·rw[if_pos e]at c;cases c;subst e;exact⟨bl,us,el,f,g2,g3,A,rq ar aw⟩
  ·rw[if_neg e]at c;obtain⟨b,H,B,m,i,t,x,F⟩:=h.good.box j E c;refine⟨b,H,B,m,i,t,?_,rq ar F⟩;rw[l b fun s=>e (h.good.inj k j bl (by simp[p]) (by simp[c]) f (by rw[<-s];exact m))];exact x
 ·obtain⟨v,xs,m,i,t,x⟩:=h.good.own g o be;refine⟨v,xs,m,⟨i.1,?_⟩,t,tF ar (fun _ _ _ h=>h) x⟩;rcases i.2 with i|⟨bb,cap,cur,f1,f2,f3,f4⟩
  ·exact .inl i
  ·refine .inr ⟨bb,cap,cur,f1,f2,?_,f4⟩;rw[l bb fun s=>h.good.obx g k o.n v bl (by simp[be]) (by simp[p]) m (by rw[f1,<-s];rfl) f];exact f3
 ·rw[l j fun e=>by subst e;exact g2.elim hm (fun g2=>Ω)];exact h.fr.block j c hm
 ·obtain⟨y,G⟩:=h.fr.keep b o d;exact⟨y,(ar.A b o y).2.trans G⟩
def c5.storeBox{C:fh}{st:bo}{a:Act}{w:World}{ν:a8}(h:c5 C st a w ν){k:aA}{cs cs':List af}(d:ad k st.b=some cs){bl:Nat}(c:ν.bx k=some bl)(g:gR cs=true){us:Array Value}(aw:cU w ν cs' us.toList):
  c5 C {st with b:=cH k cs' st.b} a (w.setRow bl us) ν:=by
 obtain⟨l,f,el,g1,g2,g3,g4,g5⟩:=h.good.box k cs d;rw[c]at g1;cases g1;rw[o9 g]at g4;have e:=wB aw;exact(h.setBox (w':=w.setRow bl us) d c (us:=us) (el:=el) rfl rfl rfl (fun j i=>setRow_other w bl j us i) (setRow_size w bl us) (by rw[o9 e];exact setRow_heap w bl f us el _ g4) (by rw[pa e];exact aw)).1
def a8.withRowOf(ν:a8)(k:aA)(v:Value)(n cells:Nat):a8:={A:=fun b o=>ν.A b o\/(v.ownBlock=some b/\o<cells),bx:=ν.bx,ow:=fun j=>if j=k then some (n,v)else ν.ow j,tr:=ν.tr}
def H0{w:World}{A:Nat->Nat->Prop}{b:Nat}:∀(us:List Value) (off:Nat),(∀j u,us[j]? =some u->A b (off+j)/\w.cell? ⟨b,off+j,none⟩=some u)->kR w A b off us
 |[],_,_=>trivial
 |u::us,off,h=>⟨h 0 u rfl,H0 us (off+1) fun j x a=>by have:=h (j+1) x (by simpa using a);rwa[show off+(j+1)=off+1+j from by omega]at this⟩
def Gs{w w':World}(be:w.grownBy w' none){b i:Nat}(h:b<w.heap.size):w'.cell? ⟨b,i,none⟩=w.cell? ⟨b,i,none⟩:=World.cell?_of_block (be.block b h Ψ)
def c5.newRowM{C:fh}{st:bo}{a:Act}{w w':World}{ν:a8}(h:c5 C st a w ν){k:aA}{xs:List af}(l:(ν.bx k=none/\ν.ow k=none/\∀j b,¬ν.tr k j b)\/ ∃o,ad k st.e=some o/\o.n<xs.length){el sz:Nat}{v:Value}{us:List Value}
  (be:w.grownBy w' none) (G:w'.ownsRow w.heap.size el sz v xs.length us) (aw:dt w ν sz xs us) (Z:xs.length<=lim) {n':Nat} {o':List aA} (dy:∀j,fresh n' o' j->fresh st.n st.o j/\j≠k):
  c5 C {st with e:=cH k ⟨xs.length,el,sz,some xs⟩ st.e,n:=n',o:=o'} a w' (ν.withOwn k xs.length v)/\
  ((∃b cap,v= .slice (some ⟨b,0,none⟩) xs.length cap)->aU w' (ν.withOwn k xs.length v) (.row sz k xs.length) v):=by
 have r:∀bl,v.ownBlock=some bl->w.heap.size<=bl/\bl<w'.heap.size:=fun bl c=>G.lt bl c;have ar:mf w ν w' (ν.withOwn k xs.length v):=by
  refine⟨fun b o d=>⟨d,Gs be (h.good.alt b o d)⟩,fun j b _ A=>A,fun g n u _ z=>?_,fun b o d=>ya (be.block b (h.good.alt b o d) Ψ),fun _ _ _ _ h=>h⟩;by_cases e:g=k
  ·subst e;rcases l with l|⟨o,ar,L⟩
   ·rw[l.2.1]at z;cases z
   ·obtain⟨v0,E,i,_⟩:=h.good.own g o ar;rw[i]at z;cases z;exact⟨xs.length,v,by simp[a8.withOwn],.inr L⟩
  ·exact⟨n,u,by simp[a8.withOwn,e,z],.inl ⟨rfl,rfl⟩⟩
 have B:∀g,(ad g (cH k ⟨xs.length,el,sz,some xs⟩ st.e)).isSome->g=k\/(g≠k/\(ad g st.e).isSome/\(ν.withOwn k xs.length v).ow g=ν.ow g):=by
  intro g O;by_cases e:g=k
  ·exact .inl e
  ·rw[je,if_neg (Ne.symm e)]at O;exact .inr ⟨e,O,by simp[a8.withOwn,e]⟩
 have W:∀bl,v.ownBlock=some bl->∀j,¬ν.A bl j:=fun bl c j d=>by have J:=h.good.alt bl j d;have:=(r bl c).1;omega
 have M:∀j b,¬ν.tr k j b:=fun j b c=>by
  rcases l with l|⟨o,q,_⟩
  ·exact l.2.2 j b c
  ·obtain⟨v0,E,i,_⟩:=h.good.own k o q;rw[(h.fr.trn k j b c).2]at i;cases i
 refine⟨h.over ar rfl ⟨fun bl o d=>?_,fun j R A=>?_,h.good.inj,fun g o t=>?_,fun g Q n n' u eH bl J U f p y H=>?_,fun g j n u bl J U f p y=>?_,fun j=>?_,fun bl c bt j N=>?_⟩
  ⟨be.os.trans h.fr.os,be.tape.trans h.fr.tape,be.output.trans h.fr.output,kx h.fr.size be.size,fun j A hm=>?_,fun b o d=>?_,h.fr.fresh,h.fr.obj,h.fr.obn,fun m n u hm=>Fc (h.fr.row m n u hm) (fun n u=>ar.ow _ n u trivial),h.fr.obr,h.fr.trd,fun k j b c=>⟨(h.fr.trb k j b c).1,Nat.lt_of_lt_of_le (h.fr.trb k j b c).2 be.size⟩,fun bt j b c=>?_,fun b o d=>(ar.sh b o (h.fr.keep b o d).1).trans (h.fr.sh b o d)⟩ (fun m hm=>?_),?_⟩
 ·have:=h.good.alt bl o d;have:=be.size;omega
 ·obtain⟨bl,b1,Y,g1,g2,g3,g4,g5⟩:=h.good.box j R A;have L:=(Array.getElem?_eq_some_iff.1 g4).1;exact⟨bl,b1,Y,g1,g2,g3,by rw[be.block bl L Ψ];exact g4,rq ar g5⟩
 ·simp only at t;rw[je]at t;by_cases e:k=g
  ·rw[if_pos e]at t;cases t;subst e;refine⟨v,us,by simp[a8.withOwn],⟨G.1,?_⟩,fun bl c=>⟨.inr (kx h.fr.size (r bl c).1),fun j d=>absurd d (W bl c j)⟩,fun ys V=>?_⟩
   ·rcases G.2 with i|⟨bb,cap,cur,f1,f2,f3⟩
    ·exact .inl i
    ·exact .inr ⟨bb,cap,cur,f1,Ω,f3⟩
   ·simp only[dS]at V;subst V;exact⟨rfl,Ck ar aw,W⟩
  ·rw[if_neg e]at t;obtain⟨v0,E,i,aC,bh,b2⟩:=h.good.own g o t;exact⟨v0,E,by simp[a8.withOwn,Ne.symm e,i],aC.kept be (by cases v0.ownBlock<;>simp),bh,tF ar (fun _ _ _ h=>h) b2⟩
 ·rcases B g J with rfl|⟨P,x,s⟩<;>rcases B Q U with rfl|⟨m1,m2,m3⟩
  ·rfl
  ·exfalso;simp only[a8.withOwn,if_true,dS,jj]at f;rw[m3]at p;obtain⟨o,q⟩:=fA.1 m2;have S:=h.good.ownLt q p H;have:=(r bl (by rw[f.2];exact y)).1;omega
  ·exfalso;simp only[a8.withOwn,if_true,dS,jj]at p;rw[s]at f;obtain⟨o,q⟩:=fA.1 x;have S:=h.good.ownLt q f y;have:=(r bl (by rw[p.2];exact H)).1;omega
  ·rw[s]at f;rw[m3]at p;exact h.good.oinj g Q n n' u eH bl x m2 f p y H
 ·rcases B g J with rfl|⟨P,x,s⟩
  ·simp only[a8.withOwn,if_true,dS,jj]at f;obtain⟨R,X⟩:=fA.1 U;have S:=h.good.boxLt X y;have:=(r bl (by rw[f.2];exact p)).1;omega
  ·rw[s]at f;exact h.good.obx g j n u bl x U f p y
 ·by_cases e:j=k
  ·subst e;rcases l with l|⟨o,q,_⟩
   ·exact .inl l.1
   ·obtain⟨v0,E,i,_⟩:=h.good.own j o q;rcases h.good.one j with J|J
    ·exact .inl J
    ·rw[J]at i;cases i
  ·rcases h.good.one j with J|J
   ·exact .inl J
   ·exact .inr (by simp[a8.withOwn,e,J])
 ·rcases c with c|⟨g,n,u,bp,a2,a3⟩
  ·exact h.good.otr bl (.inl c) bt j N
  ·rcases B g bp with rfl|⟨P,x,s⟩
   ·simp only[a8.withOwn,if_true,dS,jj]at a2;have J:=(r bl (by rw[a2.2];exact a3)).1;have U:=(h.fr.trb bt j _ N).2;omega
   ·exact h.good.otr bl (.inr ⟨g,n,u,x,by rw[<-s];exact a2,a3⟩) bt j N
 ·rw[be.block j (by have:=h.fr.size;omega) Ψ];exact h.fr.block j A hm
 ·obtain⟨F,K⟩:=h.fr.keep b o d;exact⟨F,(ar.A b o F).2.trans K⟩
 ·have cr:bt≠k:=fun e=>by subst e;exact M j b c
  obtain⟨t1,t2⟩:=h.fr.trn bt j b c;exact⟨t1,by simp[a8.withOwn,cr,t2]⟩
 ·obtain⟨f1,f2⟩:=dy m hm;obtain⟨F,K,cE⟩:=h.new m f1;refine⟨F,?_,cE⟩;simp[a8.withOwn,f2,K]
 ·intro Mj;simp only[aU];exact⟨Mj,Z,xs.length,v,by simp[a8.withOwn],dL _,fun _=>rfl⟩
def c5.publish{C:fh}{st:bo}{a:Act}{w:World}{ν:a8}(h:c5 C st a w ν){k:aA}{o:dT}{xs:List af}(x:ad k st.e=some o)(ae:o.xs=some xs){v:Value}(q:ν.ow k=some (o.n,v))(F:xs.length<=lim):
  c5 C {st with e:=cH k ⟨o.n,o.el,o.sz,none⟩ st.e} a w (ν.withRowOf k v o.n (o.n*o.sz))/\
  aU w (ν.withRowOf k v o.n (o.n*o.sz)) (.slice o.sz (.own k) xs) v:=by
 obtain⟨v0,us,L,r,y,V⟩:=h.good.own k o x;rw[q]at L;cases L;obtain⟨H,M,u1⟩:=V xs ae;have f:∀g,(ν.withRowOf k v o.n (o.n*o.sz)).ow g=ν.ow g:=fun g=>by
  simp only[a8.withRowOf];split
  ·rename_i e;subst e;exact q.symm
  ·rfl
 have ar:mf w ν w (ν.withRowOf k v o.n (o.n*o.sz)):=⟨fun b o c=>⟨.inl c,rfl⟩,fun j b _ p=>p,fun g n u _ O=>⟨n,u,by rw[f];exact O,.inl ⟨rfl,rfl⟩⟩,fun _ _ _=>rfl,fun _ _ _ _ h=>h⟩
 have s:∀g,(ad g (cH k ⟨o.n,o.el,o.sz,none⟩ st.e)).isSome->(ad g st.e).isSome:=by
  intro g N;by_cases e:k=g
  ·subst e;simp[x]
  ·rwa[je,if_neg e]at N
 refine⟨h.over ar rfl ⟨fun bl i c=>?_,fun j R p=>?_,h.good.inj,fun g o' l=>?_,fun g G n n' u S bl J U z aY=>h.good.oinj g G n n' u S bl (s g J) (s G U) (by rwa[f]at z) (by rwa[f]at aY),fun g j n u bl J U z=>h.good.obx g j n u bl (s g J) U (by rwa[f]at z),fun j=>?_,fun bl d=>h.good.otr bl (d.imp id (fun⟨g,n,v,X,a2,a3⟩=>⟨g,n,v,s g X,by rwa[f]at a2,a3⟩))⟩
  ⟨h.fr.os,h.fr.tape,h.fr.output,h.fr.size,h.fr.block,fun b i c=>⟨.inl (h.fr.keep b i c).1,(h.fr.keep b i c).2⟩,fun b i c=>?_,h.fr.obj,h.fr.obn,fun m n u hm=>Fc (h.fr.row m n u hm) (fun n u=>ar.ow _ n u trivial),h.fr.obr,h.fr.trd,h.fr.trb,fun bt j b d=>⟨(h.fr.trn bt j b d).1,by rw[f];exact(h.fr.trn bt j b d).2⟩,h.fr.sh⟩ (fun m hm=>?_),?_⟩
 ·rcases c with c|⟨c,_⟩
  ·exact h.good.alt bl i c
  ·exact(r.lt bl c).2
 ·obtain⟨bl,b1,Q,g1,g2,g3,g4,g5⟩:=h.good.box j R p;refine⟨bl,b1,Q,g1,g2,fun i c=>?_,g4,rq ar g5⟩;rcases c with c|⟨c,_⟩
  ·exact g3 i c
  ·exact h.good.obx k j o.n v bl (by simp[x]) (by simp[p]) q c g1
 ·simp only at l;rw[je]at l;by_cases e:k=g
  ·rw[if_pos e]at l;cases l;subst e;refine⟨v,us,by rw[f];exact q,r,fun bl d=>⟨(y bl d).1,fun j c=>?_⟩,fun ys aL=>by cases aL⟩;rcases c with c|⟨_,c⟩
   ·exact(y bl d).2 j c
   ·exact c
  ·rw[if_neg e]at l;obtain⟨v0,P,t,A,K,b2⟩:=h.good.own g o' l;have B:∀bl,v0.ownBlock=some bl->∀j,(ν.withRowOf k v o.n (o.n*o.sz)).A bl j->ν.A bl j:=fun bl d j c=>by
    rcases c with c|⟨c,_⟩
    ·exact c
    ·exact absurd (h.good.oinj k g o.n o'.n v v0 bl (by simp[x]) (by simp[l]) q t c d) e
   exact⟨v0,P,by rw[f];exact t,A,fun bl d=>⟨(K bl d).1,fun j c=>(K bl d).2 j (B bl d j c)⟩,tF ar B b2⟩
 ·rcases h.good.one j with J|J
  ·exact .inl J
  ·exact .inr (by rw[f];exact J)
 ·rcases c with c|⟨c,_⟩
  ·exact h.fr.fresh b i c
  ·exact .inr (y b c).1
 ·obtain⟨Y,Z,W⟩:=h.new m hm;exact⟨Y,by rw[f];exact Z,W⟩
 ·simp only[aU];refine⟨?_,fun e=>(by cases e),fun g e=>?_,fun _ _ e=>(by cases e),fun _ e=>(by cases e)⟩
  ·rcases r.2 with⟨t,A⟩|⟨bb,cap,cur,f1,f2,f3,f4,f5,f6,f7⟩
   ·refine⟨none,0,by rw[t,H,A],Ω,⟨by simp[maxLen],F⟩,.inl (List.eq_nil_of_length_eq_zero Ω)⟩
   ·refine⟨some ⟨bb,0,none⟩,cap,by rw[f1,H],Ω,⟨f5,F⟩,.inr ⟨bb,0,us,rfl,H0 us 0 fun j u p=>?_,Ck ar M⟩⟩;have E:v.ownBlock=some bb:=by rw[f1];rfl
    have Bg:j<us.length:=(fM.1 p).1;refine⟨.inr ⟨E,by rw[r.1]at Bg;omega⟩,?_⟩;have:=r.cells E j u p;rwa[pD]at this
  ·cases e;exact⟨o.n,v,by rw[f];exact q,Ω,fun _=>rfl⟩
def abz{α:Type}(k:aA)(p q:α):∀l,cH k q (cH k p l)=cH k q l
 |[]=>by simp[cH]
 |(i,r)::l=>by
  by_cases e:i=k
  ·simp[cH,e]
  ·simp[cH,e,abz k p q l]
def c5.newRow{C:fh}{st:bo}{a:Act}{w w':World}{ν:a8}(h:c5 C st a w ν){k:aA}{xs:List af}(g:(ν.bx k=none/\ν.ow k=none/\∀j b,¬ν.tr k j b)\/ ∃o,ad k st.e=some o/\o.n<xs.length){el sz:Nat}{v:Value}{us:List Value}
  (be:w.grownBy w' none) (d:w'.ownsRow w.heap.size el sz v xs.length us) (aw:dt w ν sz xs us) (c:xs.length<=lim) {n':Nat} {o':List aA} (f:∀j,fresh n' o' j->fresh st.n st.o j/\j≠k):
  c5 C {st with e:=cH k ⟨xs.length,el,sz,none⟩ st.e,n:=n',o:=o'} a w' ((ν.withOwn k xs.length v).withRowOf k v xs.length (xs.length*sz))/\
  aU w' ((ν.withOwn k xs.length v).withRowOf k v xs.length (xs.length*sz)) (.slice sz (.own k) xs) v:=by
 have J:=(h.newRowM g be d aw c f).1;have U:=J.publish (k:=k) (o:=⟨xs.length,el,sz,some xs⟩) (xs:=xs) (v:=v) (by simp[je]) rfl (by simp[a8.withOwn]) c;simpa only[abz]using U
def c5.setRowM{C:fh}{st:bo}{a:Act}{w w':World}{ν:a8}(h:c5 C st a w ν){k:aA}{o:dT}{xs xs':List af}(G:ad k st.e=some o)(ae:o.xs=some xs){bl:Nat}{v v':Value}(f:ν.ow k=some (o.n,v))(l:v.ownBlock=some bl)(K:v'.ownBlock=some bl)
  (aB:(xs'.length=o.n/\v'=v)\/o.n<xs'.length) {us:List Value} (Bl:w'.os=w.os) (MM:w'.tape=w.tape) (MA:w'.output=w.output) (s:∀j,j≠bl->w'.heap[j]? =w.heap[j]?) (M:w'.heap.size=w.heap.size)
  (S:w'.ownsRow 0 o.el o.sz v' xs'.length us) (aw:dt w ν o.sz xs' us):
  c5 C {st with e:=cH k ⟨xs'.length,o.el,o.sz,some xs'⟩ st.e} a w' (ν.withOwn k xs'.length v')/\mf w ν w' (ν.withOwn k xs'.length v')/\(xs'.length<=lim->aU w' (ν.withOwn k xs'.length v') (.row o.sz k xs'.length) v'):=by
 obtain⟨v0,W,a6,bB,Y,dp⟩:=h.good.own k o G;rw[f]at a6;cases a6;obtain⟨dH,mD,A⟩:=dp xs ae;have ar:mf w ν w' (ν.withOwn k xs'.length v'):=by
  refine⟨fun b i d=>⟨d,World.cell?_of_block (s b fun e=>by subst e;exact A b l i d)⟩,fun j b _ r=>r,fun g n u _ p=>?_,fun b i d=>ya (s b fun e=>by subst e;exact A b l i d),fun _ _ _ _ h=>h⟩;by_cases e:g=k
  ·subst e;rw[f]at p;cases p;refine⟨xs'.length,v',by simp[a8.withOwn],?_⟩;rcases aB with⟨J,U⟩|J
   ·exact .inl ⟨J,U⟩
   ·exact .inr J
  ·exact⟨n,u,by simp[a8.withOwn,e,p],.inl ⟨rfl,rfl⟩⟩
 have B:∀g n u,(ad g (cH k ⟨xs'.length,o.el,o.sz,some xs'⟩ st.e)).isSome->(ν.withOwn k xs'.length v').ow g=some (n,u)->∀b,u.ownBlock=some b->(ad g st.e).isSome/\∃n u,ν.ow g=some (n,u)/\u.ownBlock=some b:=by
  intro g n u V p b c;by_cases e:g=k
  ·subst e;simp only[a8.withOwn,if_true,dS,jj]at p;rw[<-p.2,K]at c;cases c;exact⟨by simp[G],o.n,v,f,l⟩
  ·rw[je,if_neg (Ne.symm e)]at V;simp only[a8.withOwn,e,if_false]at p;exact⟨V,n,u,p,c⟩
 refine⟨h.over ar rfl ⟨fun b i d=>by rw[M];exact h.good.alt b i d,fun j eh r=>?_,h.good.inj,fun g o' q=>?_,fun g X n n' u eH b J U Q R O de=>?_,fun g j n u b J U Q R O=>?_,fun j=>?_,fun b c=>h.good.otr b (c.imp id (fun⟨g,n,v,z,a2,a3⟩=>by obtain⟨N,x,t,P,L⟩:=B g n v z a2 b a3;exact⟨g,x,t,N,P,L⟩))⟩
  ⟨Bl.trans h.fr.os,MM.trans h.fr.tape,MA.trans h.fr.output,by rw[M];exact h.fr.size,fun j r hm=>?_,fun b i d=>?_,h.fr.fresh,h.fr.obj,h.fr.obn,fun m n u hm=>Fc (h.fr.row m n u hm) (fun n u=>ar.ow _ n u trivial),h.fr.obr,h.fr.trd,fun k j b c=>⟨(h.fr.trb k j b c).1,by rw[M];exact(h.fr.trb k j b c).2⟩,fun bt j b c=>?_,fun b o d=>(ar.sh b o (h.fr.keep b o d).1).trans (h.fr.sh b o d)⟩ (fun m hm=>?_),ar,?_⟩
 ·obtain⟨b,b1,gF,g1,g2,g3,g4,g5⟩:=h.good.box j eh r;have y:b≠bl:=fun e=>h.good.obx k j o.n _ bl (by simp[G]) (by simp[r]) f l (by rw[<-e];exact g1);exact⟨b,b1,gF,g1,g2,g3,by rw[s b y];exact g4,rq ar g5⟩
 ·simp only at q;rw[je]at q;by_cases e:k=g
  ·rw[if_pos e]at q;cases q;subst e;refine⟨v',us,by simp[a8.withOwn],S,fun b c=>?_,fun ys aL=>?_⟩
   ·rw[K]at c;cases c;exact⟨(Y bl l).1,fun j d=>absurd d (A bl l j)⟩
   ·simp only[dS]at aL;subst aL;exact⟨rfl,Ck ar aw,fun b c=>by rw[K]at c;cases c;exact A bl l⟩
  ·rw[if_neg e]at q;obtain⟨v0,W,Z,H,bh,b2⟩:=h.good.own g o' q;have y:∀b,v0.ownBlock=some b->b≠bl:=fun b c Lf=>e (h.good.oinj k g o.n o'.n _ v0 bl (by simp[G]) (by simp[q]) f Z l (by rw[<-Lf];exact c));refine⟨v0,W,by simp[a8.withOwn,Ne.symm e,Z],⟨H.1,?_⟩,bh,tF ar (fun _ _ _ h=>h) b2⟩;rcases H.2 with H|⟨bb,C8,nB,f1,f2,f3,f4⟩
   ·exact .inl H
   ·exact .inr ⟨bb,C8,nB,f1,f2,by rw[s bb (y bb (by rw[f1];rfl))];exact f3,f4⟩
 ·obtain⟨z,x,t,a2,a3⟩:=B g n u J Q b O;obtain⟨N,fk,jN,P,L⟩:=B X n' eH U R b de;exact h.good.oinj g X x fk t jN b z N a2 P a3 L
 ·obtain⟨z,x,t,a2,a3⟩:=B g n u J Q b R;exact h.good.obx g j x t b z U a2 a3 O
 ·by_cases e:j=k
  ·subst e;rcases h.good.one j with J|J
   ·exact .inl J
   ·rw[J]at f;cases f
  ·rcases h.good.one j with J|J
   ·exact .inl J
   ·exact .inr (by simp[a8.withOwn,e,J])
 ·rw[s j fun e=>by subst e;exact(Y j l).1.elim hm (fun g2=>Ω)];exact h.fr.block j r hm
 ·obtain⟨E,F⟩:=h.fr.keep b i d;exact⟨E,(ar.A b i E).2.trans F⟩
 ·obtain⟨t1,t2⟩:=h.fr.trn bt j b c;have y:bt≠k:=fun e=>by subst e;rw[t2]at f;cases f
  exact⟨t1,by simp[a8.withOwn,y,t2]⟩
 ·obtain⟨E,F,cE⟩:=h.new m hm;refine⟨E,?_,cE⟩;have:m≠k:=fun e=>by subst e;rw[F]at f;cases f
  simp[a8.withOwn,this,F]
 ·intro ft;simp only[aU];obtain⟨cap,Mj⟩:=YU S K;exact⟨⟨bl,cap,Mj⟩,ft,xs'.length,v',by simp[a8.withOwn],dL _,fun _=>rfl⟩
def c5.inPlace{C:fh}{st:bo}{a:Act}{w:World}{ν:a8}(h:c5 C st a w ν){k:aA}{o:dT}(v:ad k st.e=some o){bl cap:Nat}{cur:Array Value}(l:ν.ow k=some (o.n,.slice (some ⟨bl,0,none⟩) o.n cap))
  (F:w.heap[bl]? =some (.cells cur o.el (0,0))) (A5:cap<=maxLen) (ej:cur.size=cap*o.sz) {xs ys:List af} {us ns:List Value} (Q:xs.length=o.n) (r6:cur.toList.take (o.n*o.sz)=us) (aw:dt w ν o.sz xs us) (A7:dt w ν o.sz ys ns)
  (gh:0<ys.length) (Z:o.n+ys.length<=cap) (ft:xs.length+ys.length<=lim):
  c5 C {st with e:=cH k ⟨o.n+ys.length,o.el,o.sz,none⟩ st.e} a (w.setRow bl (us++ns++cur.toList.drop (o.n*o.sz+ns.length)).toArray)
   (ν.withRowOf k (.slice (some ⟨bl,0,none⟩) (o.n+ys.length) cap) (o.n+ys.length) ((o.n+ys.length)*o.sz))/\
  aU (w.setRow bl (us++ns++cur.toList.drop (o.n*o.sz+ns.length)).toArray) (ν.withRowOf k (.slice (some ⟨bl,0,none⟩) (o.n+ys.length) cap) (o.n+ys.length) ((o.n+ys.length)*o.sz))
   (.slice o.sz (.own k) (xs++ys)) (.slice (some ⟨bl,0,none⟩) (o.n+ys.length) cap):=by
 have P:=rr A7;have E:=rr aw;rw[Q]at E;have hmul:(o.n+ys.length)*o.sz<=cap*o.sz:=rG _ Z;rw[qT]at hmul;obtain⟨v0,gj,a6,bB,bT,_⟩:=h.good.own k o v;rw[l]at a6;cases a6;obtain⟨V,dH⟩:=bT bl rfl;generalize z:w.setRow bl (us++ns++cur.toList.drop (o.n*o.sz+ns.length)).toArray=w';have A:∀j,j≠bl->w'.heap[j]? =w.heap[j]?:=fun j f=>by rw[<-z];exact setRow_other w bl j _ f
 have H:w'.heap[bl]? =some (.cells (us++ns++cur.toList.drop (o.n*o.sz+ns.length)).toArray o.el (0,0)):=by rw[<-z];exact setRow_heap w bl cur _ o.el _ F
 have X:w'.heap.size=w.heap.size:=by rw[<-z];exact setRow_size w bl _
 have pN:∀j,j<o.n*o.sz->w'.cell? ⟨bl,j,none⟩=w.cell? ⟨bl,j,none⟩:=by intro j f;simp only[World.cell?,H,F,mL,hN,if_false];rw[List.getElem?_toArray,List.append_assoc,rE Ω,<-r6,List.getElem?_take,if_pos f];simp
 have ar:mf w ν w' (ν.withRowOf k (.slice (some ⟨bl,0,none⟩) (o.n+ys.length) cap) (o.n+ys.length) ((o.n+ys.length)*o.sz)):=by
  refine⟨fun b j c=>⟨.inl c,?_⟩,fun j b _ f=>f,fun g n u _ R=>?_,fun b j c=>?_,fun _ _ _ _ h=>h⟩;rotate_left 2
  ·by_cases e:b=bl
   ·subst e;simp only[shape,H,F,List.size_toArray,p6,tS,Array.length_toList];congr 2;omega
   ·exact ya (A b e)
  ·by_cases e:b=bl
   ·subst e;exact pN j (dH j c)
   ·exact World.cell?_of_block (A b e)
  ·by_cases e:g=k
   ·subst e;rw[l]at R;cases R;exact⟨o.n+ys.length,.slice (some ⟨bl,0,none⟩) (o.n+ys.length) cap,by simp[a8.withRowOf],.inr Ω⟩
   ·exact⟨n,u,by simp[a8.withRowOf,e,R],.inl ⟨rfl,rfl⟩⟩
 have G:∀g,(ad g (cH k ⟨o.n+ys.length,o.el,o.sz,none⟩ st.e)).isSome->g=k\/(g≠k/\(ad g st.e).isSome/\(ν.withRowOf k (.slice (some ⟨bl,0,none⟩) (o.n+ys.length) cap) (o.n+ys.length) ((o.n+ys.length)*o.sz)).ow g=ν.ow g):=by
  intro g k7;by_cases e:g=k
  ·exact .inl e
  ·rw[je,if_neg (Ne.symm e)]at k7;exact .inr ⟨e,k7,by simp[a8.withRowOf,e]⟩
 have atW:bl<w.heap.size:=(Array.getElem?_eq_some_iff.1 F).1;have W:∀j u,(us++ns)[j]? =some u->w'.cell? ⟨bl,j,none⟩=some u:=by intro j u f;have O:=(fM.1 f).1;simp only[World.cell?,H,mL,hN,if_false];rw[List.getElem?_toArray,rE O];exact f
 refine⟨h.over ar rfl ⟨fun b j c=>?_,fun j eh f=>?_,h.good.inj,fun g o' s=>?_,fun g K n n' u eH b J U p q r B=>?_,fun g j n u b J U p q r=>?_,fun j=>?_,fun b d=>h.good.otr b ?_⟩
  ⟨by rw[<-z];exact h.fr.os,by rw[<-z];exact h.fr.tape,by rw[<-z];exact h.fr.output,by rw[X];exact h.fr.size,fun j f hm=>?_,fun b j c=>?_,fun b j c=>?_,h.fr.obj,h.fr.obn,fun m n u hm=>Fc (h.fr.row m n u hm) (fun n u=>ar.ow _ n u trivial),h.fr.obr,h.fr.trd,fun k j b d=>⟨(h.fr.trb k j b d).1,by rw[X];exact(h.fr.trb k j b d).2⟩,fun bt j b d=>?_,fun b o c=>(ar.sh b o (h.fr.keep b o c).1).trans (h.fr.sh b o c)⟩ (fun m hm=>?_),?_⟩
 ·rw[X];rcases c with c|⟨c,_⟩
  ·exact h.good.alt b j c
  ·simp only[pj,dS]at c;omega
 ·obtain⟨b,b1,gF,g1,g2,g3,g4,g5⟩:=h.good.box j eh f;have t:b≠bl:=fun e=>h.good.obx k j o.n _ bl (by simp[v]) (by simp[f]) l rfl (by rw[<-e];exact g1);refine⟨b,b1,gF,g1,g2,fun i c=>?_,by rw[A b t];exact g4,rq ar g5⟩;rcases c with c|⟨c,_⟩
  ·exact g3 i c
  ·simp only[pj,dS]at c;exact t c.symm
 ·simp only at s;rw[je]at s;by_cases e:k=g
  ·rw[if_pos e]at s;cases s;subst e;refine⟨.slice (some ⟨bl,0,none⟩) (o.n+ys.length) cap,us++ns,by simp[a8.withRowOf],⟨by rw[p6,E,P,qT],.inr ⟨bl,cap,_,rfl,Nat.zero_le _,H,Z,A5,?_,?_⟩⟩,fun b d=>⟨?_,fun j c=>?_⟩,fun ys aL=>by cases aL⟩
   ·simp only[List.size_toArray,p6,tS,Array.length_toList];omega
   ·have av:(us++ns).length=(o.n+ys.length)*o.sz:=by rw[p6,E,P,qT]
    simp only[<-av];rw[List.take_append_of_le_length (dL _),jv]
   ·simp only[pj,dS]at d;subst d;exact V
   ·simp only[pj,dS]at d;subst d;rcases c with c|⟨_,c⟩
    ·have:=dH j c;simp only;rw[qT];omega
    ·exact c
  ·rw[if_neg e]at s;obtain⟨v0,gj,al,N,bh,b2⟩:=h.good.own g o' s;have t:∀b,v0.ownBlock=some b->b≠bl:=fun b d Lf=>e (h.good.oinj k g o.n o'.n _ v0 bl (by simp[v]) (by simp[s]) l al rfl (by rw[<-Lf];exact d));have Y:∀b,v0.ownBlock=some b->∀j,(ν.withRowOf k (.slice (some ⟨bl,0,none⟩) (o.n+ys.length) cap) (o.n+ys.length) ((o.n+ys.length)*o.sz)).A b j->ν.A b j:=fun b d j c=>by
    rcases c with c|⟨c,_⟩
    ·exact c
    ·simp only[pj,dS]at c;exact absurd c.symm (t b d)
   refine⟨v0,gj,by simp[a8.withRowOf,Ne.symm e,al],⟨N.1,?_⟩,fun b d=>⟨(bh b d).1,fun j c=>(bh b d).2 j (Y b d j c)⟩,tF ar Y b2⟩;rcases N.2 with N|⟨bb,C8,nB,f1,f2,f3,f4⟩
   ·exact .inl N
   ·exact .inr ⟨bb,C8,nB,f1,f2,by rw[A bb (t bb (by rw[f1];rfl))];exact f3,f4⟩
 ·rcases G g J with rfl|⟨S,y,x⟩<;>rcases G K U with rfl|⟨m1,m2,m3⟩
  ·rfl
  ·exfalso;simp only[a8.withRowOf,if_true,dS,jj]at p;rw[m3]at q;rw[<-p.2]at r;simp only[pj,dS]at r;subst r;exact m1 (h.good.oinj K g n' o.n eH _ bl m2 (by simp[v]) q l B rfl)
  ·exfalso;simp only[a8.withRowOf,if_true,dS,jj]at q;rw[x]at p;rw[<-q.2]at B;simp only[pj,dS]at B;subst B;exact S (h.good.oinj g K n o.n u _ bl y (by simp[v]) p l r rfl)
  ·rw[x]at p;rw[m3]at q;exact h.good.oinj g K n n' u eH b y m2 p q r B
 ·rcases G g J with rfl|⟨S,y,x⟩
  ·simp only[a8.withRowOf,if_true,dS,jj]at p;rw[<-p.2]at q;simp only[pj,dS]at q;subst q;exact h.good.obx g j o.n _ bl (by simp[v]) U l rfl r
  ·rw[x]at p;exact h.good.obx g j n u b y U p q r
 ·by_cases e:j=k
  ·subst e;rcases h.good.one j with J|J
   ·exact .inl J
   ·rw[J]at l;cases l
  ·rcases h.good.one j with J|J
   ·exact .inl J
   ·exact .inr (by simp[a8.withRowOf,e,J])
 ·rcases d with d|⟨g,n,u,bp,a2,a3⟩
  ·exact .inl d
  ·rcases G g bp with rfl|⟨S,y,x⟩
   ·simp only[a8.withRowOf,if_true,dS,jj]at a2;rw[<-a2.2]at a3;exact .inr ⟨g,_,_,by simp[v],l,a3⟩
   ·exact .inr ⟨g,n,u,y,by rw[<-x];exact a2,a3⟩
 ·rw[A j fun e=>by subst e;exact V.elim hm (fun g2=>Ω)];exact h.fr.block j f hm
 ·obtain⟨L,M⟩:=h.fr.keep b j c;exact⟨.inl L,(ar.A b j L).2.trans M⟩
 ·rcases c with c|⟨c,_⟩
  ·exact h.fr.fresh b j c
  ·simp only[pj,dS]at c;subst c;exact .inr V
 ·obtain⟨t1,t2⟩:=h.fr.trn bt j b d;have t:bt≠k:=fun e=>by subst e;rw[t2]at l;cases l
  exact⟨t1,by simp[a8.withRowOf,t,t2]⟩
 ·obtain⟨L,M,cE⟩:=h.new m hm;refine⟨L,?_,cE⟩;have:m≠k:=fun e=>by subst e;rw[M]at l;cases l
  simp[a8.withRowOf,this,M]
 ·simp only[aU];refine⟨⟨some ⟨bl,0,none⟩,cap,by simp[Q],by simp;omega,⟨A5,by simpa using ft⟩,.inr ⟨bl,0,us++ns,rfl,H0 _ 0 fun j u f=>?_,E6 (Ck ar aw) (Ck ar A7)⟩⟩,fun e=>(by cases e),fun g e=>?_,fun _ _ e=>(by cases e),fun _ e=>(by cases e)⟩
  ·have O:=(fM.1 f).1;rw[Nat.zero_add];refine⟨.inr ⟨rfl,?_⟩,W j u f⟩;rw[p6,E,P]at O;rw[qT];exact O
  ·cases e;exact⟨o.n+ys.length,.slice (some ⟨bl,0,none⟩) (o.n+ys.length) cap,by simp[a8.withRowOf],by simp[Q],fun _=>rfl⟩
def Ji{P:cG}{w:World}{t ty e:gT}{i:TypeInfo}(a:P.underlying t=some (.slice e))(hi:P.info? e=some i)(b:bc Addr)(n cap:Nat)(d:n<=cap)(x:bc Addr)(c:Nat):
  (Builtin.append_ #[t,t] ty #[.slice b n cap,.slice x 0 c]).run P w= .ok (.slice b n cap) w:=by
 cases b<;>cases x<;>simp[Builtin.append_,run_underlying a,sizeOf,typeInfo,hi,Builtin.lenOf,d,Builtin.firstCells,loadCells,loadCellsFrom,storeCells]
inductive eT where
 |v (d:Nat) (i:gL)
 |box (d:Nat) (key:bc Nat) (x:dM)
 |alloc (d:Nat) (key:bc Nat) (zero:af)
 |store (sz:Nat) (x y:dM)
 |bsl (d:Nat) (sz el:Nat) (xs:List dM)
 |app (d:Nat) (sz el:Nat) (x y:dM)
 |bslm (d:Nat) (key:bc Nat) (sz el:Nat) (xs:List dM)
 |appm (d:Nat) (key:bc Nat) (sz el:Nat) (x y:dM)
 |mkmap (d:Nat) (key:bc Nat)
 |mput (cv:ka) (x k v:dM)
 |range (d:Nat) (key:bc Nat) (x:dM)
 |storeE (sz:Nat) (x y:dM)
 |mks (d:Nat) (key:bc Nat) (sz el:Nat) (z:af) (x:dM)
def kq(st:bo):bc Nat->aA
 |none=>.loc st.n
 |some m=>.obj m
def re(st:bo):bc Nat->Prop
 |none=>.loc st.n∉st.o
 |some m=>.obj m∉st.o
def oB(st:bo):bc Nat->Nat
 |none=>st.n+1
 |some _=>st.n
def oC(st:bo):bc Nat->List aA
 |none=>st.o
 |some m=>.obj m::st.o
def xP{st:bo}{key:bc Nat}(h:re st key):fresh st.n st.o (kq st key):=by cases key<;>simp[kq,fresh,re]at h⊢ <;>exact h
def xQ{st:bo}{key:bc Nat}:∀j,fresh (oB st key) (oC st key) j->fresh st.n st.o j/\j≠kq st key:=by
 intro j a;cases key<;>cases j<;>simp[fresh,oB,oC,kq]at a⊢
 ·exact⟨⟨Ω,a.2⟩,Ω⟩
 ·exact a
 ·exact a
 ·exact⟨a.2,a.1⟩
def ub(sz:Nat):List af->Prop
 |[]=>True
 |p::a=>(eS p=true/\(cells p).length=sz)/\ub sz a
def qF(a:ka)(k v:af):List af->bc (List af)
 | .hdm clock borns::kvs=>if xI a k=false then none else match wm a k v kvs with
  |some (some b)=>some (.hdm clock borns::b)
  |some none=>some (.hdm (clock+1) (borns++[clock])::(kvs++[k,v]))
  |none=>none
 |_=>none
def zO(m:aA):List af->bc (List af)
 | .hdm clock _::_=>some [.hdi clock [] clock,.gmap m]
 |_=>none
def uc(st:bo)(sz el:Nat)(x y:af):bc ((bc (aA×List af))×List af):=
 match x,y with
 | .slice b .nil _,.slice a _ ys=>if b=sz/\a=sz then some (none,ys)else none
 | .row b k n,.slice a _ ys=>if b=sz/\a=sz then
   match ad k st.e with
   |some ⟨n',d,c,some xs⟩=>if n'=n/\d=el/\c=sz then some (some (k,xs),ys)else none
   |_=>none
  else none
 |_,_=>none
def nY:af->Nat->List af->af
 | .agg a,f,cs=>.agg (nq a f cs)
 |_,_,[q]=>q
 |_,_,_=>.junk
def sk(st:bo)(sz:Nat)(p v:af):bc (Prop×bo):=
 match p with
 | .rptr b k n i f=>match ad k st.e with
  |some ⟨n',el,a,some xs⟩=>if n'=n/\a=b then
    match xs[i]? with
    |some q=>some (eS q=true/\eS v=true/\(cells v).length=sz/\f+sz<=(cells q).length/\0<sz,{st with e:=cH k ⟨n',el,a,some (xs.set i (nY q f (cells v)))⟩ st.e})
    |none=>none
   else none
  |_=>none
 |_=>none
def np(st:bo):eT->bc (Prop×bo)
 | .mks d key sz el z x=>match cD st.t x with
  | .int _ n=>some (re st key/\0<=n/\n<=lim,
    {t:=put d (.row sz (kq st key) n.toNat) st.t,b:=st.b,e:=cH (kq st key) ⟨n.toNat,el,sz,some (List.replicate n.toNat z)⟩ st.e,n:=oB st key,o:=oC st key})
  |_=>none
 | .bslm d key sz el xs=>some (re st key/\ub sz (xs.map (cD st.t)),
   {t:=put d (.row sz (kq st key) xs.length) st.t,b:=st.b,e:=cH (kq st key) ⟨xs.length,el,sz,some (xs.map (cD st.t))⟩ st.e,n:=oB st key,o:=oC st key})
 | .appm d key sz el x y=>match uc st sz el (cD st.t x) (cD st.t y)with
  |some (none,ys)=>some (re st key/\ys.length<=lim/\ys≠[],
    {t:=put d (.row sz (kq st key) ys.length) st.t,b:=st.b,e:=cH (kq st key) ⟨ys.length,el,sz,some ys⟩ st.e,n:=oB st key,o:=oC st key})
  |some (some (k,xs),ys)=>some (xs.length+ys.length<=lim,{st with t:=put d (.row sz k (xs.length+ys.length)) st.t,e:=cH k ⟨xs.length+ys.length,el,sz,some (xs++ys)⟩ st.e})
  |none=>none
 | .mkmap d key=>some (re st key,{t:=put d (.gmap (kq st key)) st.t,b:=cH (kq st key) [.hdm 0 []] st.b,e:=st.e,n:=oB st key,o:=oC st key})
 | .mput g x k v=>match cD st.t x with
  | .gmap m=>match ad m st.b with
   |some cs=>match qF g (cD st.t k) (cD st.t v) cs with
    |some cs'=>some (True,{st with b:=cH m cs' st.b})
    |none=>none
   |none=>none
  |_=>none
 | .range d key x=>match cD st.t x with
  | .gmap m=>match ad m st.b with
   |some cs=>match zO m cs with
    |some cs'=>some (re st key,{t:=put d (.ptr (kq st key) 0) st.t,b:=cH (kq st key) cs' st.b,e:=st.e,n:=oB st key,o:=oC st key})
    |none=>none
   |none=>none
  |_=>none
 | .v d i=>match hX st i with
  |some (c,p)=>some (c,{st with t:=put d p st.t})
  |none=>none
 | .storeE sz x y=>sk st sz (cD st.t x) (cD st.t y)
 | .box d key x=>some (re st key/\eS (cD st.t x)=true,
   {t:=put d (.ptr (kq st key) 0) st.t,b:=cH (kq st key) (cells (cD st.t x)) st.b,e:=st.e,n:=oB st key,o:=oC st key})
 | .alloc d key z=>some (re st key,{t:=put d (.ptr (kq st key) 0) st.t,b:=cH (kq st key) (cells z) st.b,e:=st.e,n:=oB st key,o:=oC st key})
 | .store sz x y=>match cD st.t x with
  | .ptr k off=>match ad k st.b with
   |some cs=>some (gR cs=true/\eS (cD st.t y)=true/\(cells (cD st.t y)).length=sz/\off+sz<=cs.length,{st with b:=cH k (nq cs off (cells (cD st.t y))) st.b})
   |none=>none
  |p=>sk st sz p (cD st.t y)
 | .bsl d sz el xs=>some (re st none/\ub sz (xs.map (cD st.t)),
   {st with t:=put d (.slice sz (.own (.loc st.n)) (xs.map (cD st.t))) st.t,e:=cH (.loc st.n) ⟨xs.length,el,sz,none⟩ st.e,n:=st.n+1})
 | .app d sz el x y=>match cD st.t x,cD st.t y with
  | .slice f tag xs,.slice a _ ys=>if f=sz/\a=sz then
    match tag with
    | .own k=>match ad k st.e with
     |some o=>some (o.n=xs.length/\o.el=el/\o.sz=sz/\xs.length+ys.length<=lim,
       {st with t:=put d (.slice sz (.own k) (xs++ys)) st.t,e:=cH k ⟨xs.length+ys.length,el,sz,none⟩ st.e})
     |none=>none
    | .nil=>some (re st none/\ys.length<=lim,{st with t:=put d (.slice sz (.own (.loc st.n)) ys) st.t,e:=cH (.loc st.n) ⟨ys.length,el,sz,none⟩ st.e,n:=st.n+1})
    |_=>none
   else none
  |_,_=>none
def fc(κ:aA)(n':Nat)(o':List aA)(st:bo):eT->bc (Prop×bo)
 | .mks d _ sz el z x=>match cD st.t x with
  | .int _ n=>some (0<=n/\n<=lim,
    {t:=put d (.row sz κ n.toNat) st.t,b:=st.b,e:=cH κ ⟨n.toNat,el,sz,some (List.replicate n.toNat z)⟩ st.e,n:=n',o:=o'})
  |_=>none
 | .bslm d _ sz el xs=>some (ub sz (xs.map (cD st.t)),
   {t:=put d (.row sz κ xs.length) st.t,b:=st.b,e:=cH κ ⟨xs.length,el,sz,some (xs.map (cD st.t))⟩ st.e,n:=n',o:=o'})
 | .appm d _ sz el x y=>match uc st sz el (cD st.t x) (cD st.t y)with
  |some (none,ys)=>some (ys.length<=lim/\ys≠[],
    {t:=put d (.row sz κ ys.length) st.t,b:=st.b,e:=cH κ ⟨ys.length,el,sz,some ys⟩ st.e,n:=n',o:=o'})
  |some (some (k,xs),ys)=>some (xs.length+ys.length<=lim,{st with t:=put d (.row sz k (xs.length+ys.length)) st.t,e:=cH k ⟨xs.length+ys.length,el,sz,some (xs++ys)⟩ st.e})
  |none=>none
 | .mkmap d _=>some (True,{t:=put d (.gmap κ) st.t,b:=cH κ [.hdm 0 []] st.b,e:=st.e,n:=n',o:=o'})
 | .mput g x k v=>match cD st.t x with
  | .gmap m=>match ad m st.b with
   |some cs=>match qF g (cD st.t k) (cD st.t v) cs with
    |some cs'=>some (True,{st with b:=cH m cs' st.b})
    |none=>none
   |none=>none
  |_=>none
 | .range d _ x=>match cD st.t x with
  | .gmap m=>match ad m st.b with
   |some cs=>match zO m cs with
    |some cs'=>some (True,{t:=put d (.ptr κ 0) st.t,b:=cH κ cs' st.b,e:=st.e,n:=n',o:=o'})
    |none=>none
   |none=>none
  |_=>none
 | .v d i=>match hX st i with
  |some (c,p)=>some (c,{st with t:=put d p st.t})
  |none=>none
 | .storeE sz x y=>sk st sz (cD st.t x) (cD st.t y)
 | .box d _ x=>some (eS (cD st.t x)=true,{t:=put d (.ptr κ 0) st.t,b:=cH κ (cells (cD st.t x)) st.b,e:=st.e,n:=n',o:=o'})
 | .alloc d _ z=>some (True,{t:=put d (.ptr κ 0) st.t,b:=cH κ (cells z) st.b,e:=st.e,n:=n',o:=o'})
 | .store sz x y=>match cD st.t x with
  | .ptr k off=>match ad k st.b with
   |some cs=>some (gR cs=true/\eS (cD st.t y)=true/\(cells (cD st.t y)).length=sz/\off+sz<=cs.length,{st with b:=cH k (nq cs off (cells (cD st.t y))) st.b})
   |none=>none
  |p=>sk st sz p (cD st.t y)
 | .bsl d sz el xs=>some (ub sz (xs.map (cD st.t)),
   {st with t:=put d (.slice sz (.own κ) (xs.map (cD st.t))) st.t,e:=cH κ ⟨xs.length,el,sz,none⟩ st.e,n:=n',o:=o'})
 | .app d sz el x y=>match cD st.t x,cD st.t y with
  | .slice f tag xs,.slice a _ ys=>if f=sz/\a=sz then
    match tag with
    | .own k=>match ad k st.e with
     |some o=>some (o.n=xs.length/\o.el=el/\o.sz=sz/\xs.length+ys.length<=lim,
       {st with t:=put d (.slice sz (.own k) (xs++ys)) st.t,e:=cH k ⟨xs.length+ys.length,el,sz,none⟩ st.e})
     |none=>none
    | .nil=>some (ys.length<=lim,{st with t:=put d (.slice sz (.own κ) ys) st.t,e:=cH κ ⟨ys.length,el,sz,none⟩ st.e,n:=n',o:=o'})
    |_=>none
   else none
  |_,_=>none
def xU:Nat->List dM->List (Nat×Operand)->Bool
 |_,[],[]=>true
 |i,x::xs,(j,o)::os=>i==j&&eN x o&&xU (i+1) xs os
 |_,_,_=>false
def Fh(N:Nat)(aS:List (Nat×eu))(i:eT)(o:Oper):Bool:=
 match i,o.op with
 | .mkmap d _,.makeMap _ none=>o.dst==some d&&decide (d<N)
 | .mput j x k v,.mapUpdate t c h e=>o.dst==none&&(match eD aS t with|some ⟨_,_,.map g _,_⟩=>zs aS j g|_=>false)&&eN x c&&eN k h&&eN v e
 | .mput j x k v,.insert t c h e=>o.dst==none&&(match eD aS t with|some ⟨_,_,.map g _,_⟩=>zs aS j g|_=>false)&&eN x c&&eN k h&&eN v e
 | .range d _ x,.range t c=>o.dst==some d&&decide (d<N)&&(match eD aS t with|some ⟨_,_,.map _ _,_⟩=>true|_=>false)&&eN x c
 | .v d i,op=>o.dst==some d&&decide (d<N)&&FC aS i op
 | .box d _ x,.box _ o'=>o.dst==some d&&decide (d<N)&&eN x o'
 | .alloc d _ z,.alloc el=>o.dst==some d&&decide (d<N)&&(match eD aS el with|some f=>CK z f.zero|none=>false)
 | .store sz x y,.store t o' a=>o.dst==none&&(match eD aS t with|some f=>f.size==sz|none=>false)&&eN x o'&&eN y a
 | .bsl d sz el xs,.buildSlice t len parts=>o.dst==some d&&decide (d<N)&&(match eD aS t with|some ⟨_,_,.slice b,_⟩=>el==b|_=>false)&&(match eD aS el with|some f=>f.size==sz&&decide (0<sz)|none=>false)
   &&len==xs.length&&decide (len*sz<=16777216)&&xU 0 xs parts.toList
 | .app d sz el x y,.call ⟨.builtin .append,⟨[o',a]⟩,⟨[t,t']⟩⟩=>o.dst==some d&&decide (d<N)&&t==t'&&(match eD aS t with|some ⟨_,_,.slice b,_⟩=>el==b|_=>false)
   &&(match eD aS el with|some f=>f.size==sz&&decide (0<sz)&&decide (f.bytes<=2048)|none=>false)&&eN x o'&&eN y a
 | .bslm d _ sz el xs,.buildSlice t len parts=>o.dst==some d&&decide (d<N)&&(match eD aS t with|some ⟨_,_,.slice b,_⟩=>el==b|_=>false)&&(match eD aS el with|some f=>f.size==sz&&decide (0<sz)|none=>false)
   &&len==xs.length&&decide (len*sz<=16777216)&&xU 0 xs parts.toList
 | .appm d _ sz el x y,.call ⟨.builtin .append,⟨[o',a]⟩,⟨[t,t']⟩⟩=>o.dst==some d&&decide (d<N)&&t==t'&&(match eD aS t with|some ⟨_,_,.slice b,_⟩=>el==b|_=>false)
   &&(match eD aS el with|some f=>f.size==sz&&decide (0<sz)&&decide (f.bytes<=2048)|none=>false)&&eN x o'&&eN y a
 | .storeE sz x y,.store t o' a=>o.dst==none&&(match eD aS t with|some f=>f.size==sz|none=>false)&&eN x o'&&eN y a
 | .mks d _ sz el z x,.makeSlice t o' a=>o.dst==some d&&decide (d<N)&&(match eD aS t with|some ⟨_,_,.slice b,_⟩=>el==b|_=>false)
   &&(match eD aS el with|some f=>f.size==sz&&decide (0<sz)&&decide (f.bytes<=2048)&&CK z f.zero|none=>false)&&eN x o'&&eN x a
 |_,_=>false
def aaD{w:World}{ν:a8}{C:fh}{st:bo}{a:Act}(p:c5 C st a w ν){sz:Nat}:
  ∀(xs:List dM) (i:Nat) (os:List (Nat×Operand)) (pre:List af) (us:Array Value) (bk:List Value),xU i xs os=true->ub sz (xs.map (cD st.t))->us.toList.take (i*sz)=bk->dt w ν sz pre bk->i=pre.length->us.size=(i+xs.length)*sz->
  ∃e:Array Value,Instr.fill (fun i=>some (i*sz,sz)) us (os.map fun(x:Nat×Operand)=>(x.1,a.eval x.2))=some e/\dt w ν sz (pre++xs.map (cD st.t)) e.toList/\e.size=us.size
 |[],i,[],pre,us,bk,_,_,g,h,hi,f=>by refine⟨us,by simp[Instr.fill],?_,rfl⟩;have u:=rr h;have:us.toList.take (i*sz)=us.toList:=iE (by simp at f⊢;omega);rw[this]at g;simpa[g]using h
 |[],_,_::_,_,_,_,b,_,_,_,_,_=>by simp[xU]at b
 |_::_,_,[],_,_,_,b,_,_,_,_,_=>by simp[xU]at b
 |x::xs,i,(j,o)::os,pre,us,bk,b,k,g,h,hi,f=>by
  simp only[xU,cP,ey]at b;obtain⟨⟨rfl,J⟩,U⟩:=b;simp only[hc,ub]at k;obtain⟨⟨s,hlen⟩,k⟩:=k;have n:=e1 p J;have m:=wC n s;have q:=qI m;have c:(a.eval o).cells.size=sz:=by rw[hlen]at q;simpa using q
  have hmul:i*sz+sz<=us.size:=by rw[f,mI,show i+(xs.length+1)=(i+1)+xs.length from by omega,qT,Nat.succ_mul];omega
  have l:=LD (w:=w) (ν:=ν) (a.eval o).cells.toList 0 (i*sz) us (by simp[c];omega);have t:dt w ν sz (pre++[cD st.t x]) (bk++(a.eval o).cells.toList):=by refine E6 h ?_;simp only[dt];exact⟨a.eval o,[],Ψ,⟨n,c,Cm m⟩,rfl⟩
  have r:bk.length=i*sz:=by rw[<-g];simp;omega
  obtain⟨e,g1,g2,g3⟩:=aaD p xs (i+1) os (pre++[cD st.t x]) (((a.eval o).cells.toList.zipIdx 0).foldl (fun cs (x:Value×Nat)=>cs.setIfInBounds (i*sz+x.2) x.1) us) (bk++(a.eval o).cells.toList) U k
   (by
    rw[l];simp only[Nat.add_zero];rw[g];have:(bk++(a.eval o).cells.toList).length=(i+1)*sz:=by rw[p6,r,Nat.succ_mul];simp[c]
    rw[<-this,List.take_append_of_le_length (dL _),jv]) t (by simp[hi])
   (by have d:=ff List.length l;simp only[Array.length_toList,p6,List.length_take,tS,c]at d;rw[d,f,mI,show i+(xs.length+1)=i+1+xs.length from by omega];rw[f,mI,show i+(xs.length+1)=i+1+xs.length from by omega]at hmul;omega)
  refine⟨e,?_,by simpa using g2,?_⟩
  ·simp only[hc,Instr.fill];rw[if_neg (by simp[c];omega),<-g1];congr 1;rw[<-Array.foldl_toList];simp
  ·rw[g3];have d:=ff List.length l;simp only[Array.length_toList,p6,List.length_take,tS,c]at d;rw[d];omega
def nu{P:cG}{o:Oper}{a:Act}{w w':World}{v:Value}{K:Act->World->Prop}{Q:Exit->Act->World->Prop}(h:(execOp a.eval o).run P w= .ok (.value v) w')(b:K (a.put o.dst v) w'):o.wp P a w K Q:=by unfold Oper.wp;rw[h];exact b
def JR{P:cG}{o:Oper}{a:Act}{w w':World}{K:Act->World->Prop}{Q:Exit->Act->World->Prop}(h:(execOp a.eval o).run P w= .ok .skip w')(b:K (a.put o.dst undef) w'):o.wp P a w K Q:=by unfold Oper.wp;rw[h];exact b
def FD{P:cG}{w w':World}{x:Sem Value}{v:Value}(h:x.run P w= .ok v w'):(do pure (Next.value (<-x)):Sem Next).run P w= .ok (.value v) w':=by simp[h]
def aaA{P:cG}{aS:List (Nat×eu)}(e:hW P aS=true){C:fh}{st:bo}{a:Act}{w:World}{ν:a8}(s:c5 C st a w ν){t el:Nat}{f g:eu}(u:eD aS t=some f)(r:f.kind= .slice el)(be:eD aS el=some g)
  {xs:List dM} {os:List (Nat×Operand)} (n:xU 0 xs os=true) (m:ub g.size (xs.map (cD st.t))) (hlen:xs.length*g.size<=16777216):
  ∃us:Array Value,(Instr.buildSlice t xs.length (os.map fun(x:Nat×Operand)=>(x.1,a.eval x.2)).toArray).run P w= .ok (.slice (some ⟨w.heap.size,0,none⟩) xs.length xs.length) (w.alloc (.cells us el))/\
   dt w ν g.size (xs.map (cD st.t)) us.toList/\us.size=xs.length*g.size:=by
 obtain⟨d,j,h⟩:=ji e u;rw[r]at h;obtain rfl:=sB h;obtain⟨_,i⟩:=wI e be w;obtain⟨z,l,q,p⟩:=PZ e be w;have v:¬xs.length*g.size>2 ^ 24:=Ω
 let init:Array Value:=if xs.length*g.size=0 then(Array.range (xs.length*g.size)).map ((#[]:Array Value)[· %(#[]:Array Value).size]!)else(Array.range (xs.length*g.size)).map (z.cells[· %z.cells.size]!)
 have k:init.size=xs.length*g.size:=by simp only[init];split<;>simp
 obtain⟨o,g1,g2,g3⟩:=aaD (a:=a) s xs 0 os [] init [] n m Ψ (by simp[dt]) rfl (by rw[k];simp);refine⟨o,?_,by simpa using g2,by rw[g3,k]⟩;simp only[init]at g1;by_cases b:xs.length*g.size=0
 ·rw[if_pos b]at g1;rw[b]at g1;have c:¬(0:Nat)>2 ^ 24:=by decide
  simp only[Instr.buildSlice,gr,run_underlying j,gy,i,if_false,hy,b,if_true,c,g1,newRow,run_newObj];rfl
 ·rw[if_neg b]at g1;simp only[Instr.buildSlice,gr,run_underlying j,gy,i,v,if_false,hy,b,l,g1,newRow,run_newObj];rfl
def N0{P:cG}{w:World}{ν:a8}{g:ka}{t:gT}(B:vm P g t){k v:af}{a q:Value}(p:aU w ν k a)(A:aU w ν v q):
  ∀(borns:List Nat) (kvs:List af) (us:List Value) (i:Nat) (r:bc (List af)),c1 w ν kvs us->kvs.length=2*borns.length->wm g k v kvs=some r->
  match r with
  |none=>iS P w g t a (gM borns us) i none
  |some E=> ∃j u m e,iS P w g t a (gM borns us) i (some (i+j,u))/\c1 w ν E m/\E.length=kvs.length/\(gM borns us)[j]? =some e/\e.key=a/\Instr.sameBits 10000 e.key a=true/\gM borns m=(gM borns us).modify j (fun e=>{e with key:=a,val:=q})
 |[],[],us,i,r,h,_,hm=>by simp only[wm]at hm;cases hm;simp only[c1]at h;subst h;simpa[gM]using iS.nil P w g t a i
 |[],_::_,_,_,_,_,c,_=>by simp at c
 |b::n,[],_,_,_,_,c,_=>by simp at c
 |b::n,[_],_,_,_,_,c,_=>by simp at c;omega
 |b::n,bt::v'::kvs,us,i,r,h,c,hm=>by
  simp only[c1]at h;obtain⟨f,F,rfl,J,d,s,rfl,U,z⟩:=h;simp only[wm]at hm;simp only[gM];cases o:uJ g k bt with
  |none=>simp[o]at hm
  |some bb=>
   obtain⟨s1,s2⟩:=WV B p J o;simp only[o]at hm;cases bb with
   |true=>simp only[dS]at hm;subst hm;obtain⟨rfl,s3⟩:=s2 rfl;refine⟨0,d,f::q::s,⟨f,d,b⟩,iS.hit (e:=⟨f,d,b⟩) s1,?_,Ψ,Ψ,rfl,s3,by simp[gM]⟩;simp only[c1];exact⟨_,_,rfl,p,_,_,rfl,A,z⟩
   |false=>
    simp only at hm;have y:=fun x l=>N0 B p A n kvs s (i+1) x z (by simp at c;omega) l;split at hm
    ·rename_i x l;cases hm;obtain⟨j,u,m,e,g1,g2,g3,g4,g5,g6,g7⟩:=y _ l;refine⟨j+1,u,f::d::m,e,iS.miss (e:=⟨f,d,b⟩) s1 (by rw[show i+(j+1)=i+1+j from by omega];exact g1),?_,by simp[g3],by simpa using g4,g5,g6,by simp[gM,g7]⟩;simp only[c1];exact⟨_,_,rfl,J,_,_,rfl,U,g2⟩
    ·rename_i l;cases hm;exact iS.miss (e:=⟨f,d,b⟩) s1 (y _ l)
    ·cases hm
def TQ:∀(borns:List Nat) (us:List Value) (b:Nat) (k v:Value),us.length=2*borns.length->gM (borns++[b]) (us++[k,v])=gM borns us++[⟨k,v,b⟩]
 |[],us,b,k,v,h=>by have:us=[]:=List.eq_nil_of_length_eq_zero (by simpa using h);subst this;simp[gM]
 |b7::a,[],b,k,v,h=>by simp at h
 |b7::a,[_],b,k,v,h=>by simp at h;omega
 |b7::a,bt::v'::us,b,k,v,h=>by simp only[b3,gM,TQ a us b k v (by simp at h;omega)]
def aap{w:World}{ν:a8}:∀{b bW:List af} {bk us:List Value},c1 w ν b bk->c1 w ν bW us->c1 w ν (b++bW) (bk++us)
 |[],bW,bk,us,h,a=>by simp only[c1]at h;subst h;simpa using a
 |p::b,bW,bk,us,h,a=>by simp only[c1]at h;obtain⟨u,c,rfl,J,U⟩:=h;simp only[b3,c1];exact⟨u,_,rfl,J,aap U a⟩
def Pk{w:World}{ν:a8}:∀{a:List af} {bk:List Value},c1 w ν a bk->bk.length=a.length
 |[],bk,h=>by simp only[c1]at h;subst h;rfl
 |p::a,bk,h=>by simp only[c1]at h;obtain⟨u,b,rfl,_,U⟩:=h;simp[Pk U]
def Pp{P:cG}{w:World}{r:Nat}{o o':Obj}(a:w.heap[r]? =some o)(b:∀c e f,o≠ .cells c e f:=by simp):(setObj r o').run P w= .ok () {w with heap:=w.heap.setIfInBounds r o'}:=by simp only[setObj,Sem.run,a]
def eT.makes(st:bo):eT->Bool
 | .box _ _ _| .alloc _ _ _| .bsl _ _ _ _| .bslm _ _ _ _ _| .mkmap _ _| .range _ _ _| .mks _ _ _ _ _ _=>true
 | .appm _ _ _ _ x _=>match cD st.t x with
  | .slice _ .nil _=>true
  |_=>false
 | .app _ _ _ x _=>match cD st.t x with
  | .slice _ .nil _=>true
  |_=>false
 |_=>false
def c5.forgetRow{C:fh}{st:bo}{a:Act}{w:World}{ν:a8}(b:c5 C st a w ν){k:aA}{ow:dT}(h:ad k st.e=some ow):c5 C {st with e:=cH k ⟨ow.n,ow.el,ow.sz,none⟩ st.e} a w ν:=by
 have d:∀g,(ad g (cH k ⟨ow.n,ow.el,ow.sz,none⟩ st.e)).isSome->(ad g st.e).isSome:=fun g be=>by
  rw[je]at be;split at be
  ·rename_i e;subst e;simp[h]
  ·exact be
 refine⟨⟨b.good.alt,b.good.box,b.good.inj,fun g o be=>?_,fun g f n n' v v' bl c a2=>b.good.oinj g f n n' v v' bl (d g c) (d f a2),fun g j n v bl c=>b.good.obx g j n v bl (d g c),b.good.one,fun bl m=>b.good.otr bl (m.imp id (fun⟨g,n,v,c,a2⟩=>⟨g,n,v,d g c,a2⟩))⟩,b.fr,b.defers,b.size,b.slot,b.new⟩;simp only at be;rw[je]at be;split at be
 ·rename_i e;subst e;cases be;obtain⟨v,us,q,l,i,_⟩:=b.good.own k ow h;exact⟨v,us,q,l,i,fun xs p=>by cases p⟩
 ·exact b.good.own g o be
def YV{w:World}{base el sz n:Nat}{v:Value}{us:List Value}(h:w.ownsRow base el sz v n us)(d:0<n):∃b cap,v= .slice (some ⟨b,0,none⟩) n cap:=by
 rcases h.2 with⟨a,c⟩|⟨bb,cap,cur,f1,_⟩
 ·omega
 ·exact⟨_,_,f1⟩
def I8{w:World}{ν:a8}{sz:Nat}:∀{xs:List af} {us:List Value} {i:Nat} {q b:af} {a:Value},dt w ν sz xs us->xs[i]? =some q->aU w ν b a->a.cells.size=sz->(∀c∈a.cells.toList,c.oneCell'=true)->dt w ν sz (xs.set i b) (us.take (i*sz)++a.cells.toList++us.drop (i*sz+sz))
 |[],_,_,_,_,_,_,d,_,_,_=>by simp at d
 |x::xs,us,0,q,b,a,h,d,k,j,ar=>by
  simp only[dt]at h;obtain⟨u,l,rfl,⟨J,U,m⟩,g⟩:=h;have f:u.cells.toList.length=sz:=by simpa using U
  simp only[List.set_cons_zero,dt];refine⟨a,l,?_,⟨k,j,ar⟩,g⟩;simp[<-f]
 |x::xs,us,i+1,q,b,a,h,d,k,j,ar=>by
  simp only[dt]at h;obtain⟨u,l,rfl,⟨J,U,m⟩,g⟩:=h;have f:u.cells.toList.length=sz:=by simpa using U
  have n:=I8 g (by simpa using d) k j ar;simp only[List.set_cons_succ,dt];refine⟨u,_,?_,⟨J,U,m⟩,n⟩;have e:(i+1)*sz+sz=u.cells.toList.length+(i*sz+sz):=by rw[f,Nat.succ_mul];omega
  rw[abi _ _ _ _ f,e,<-List.drop_drop];simp
def apI{w:World}{ν:a8}{q:af}{v:Value}(b:aU w ν q v)(l:eS q=true){cs:List af}{us:List Value}(aw:cU w ν cs us){f:Nat}(g:f+us.length<=v.cells.size)(n:us≠[]):
  ∃v',aU w ν (nY q f cs) v'/\v'.cells.toList=v.cells.toList.take f++us++v.cells.toList.drop (f+us.length)/\v'.cells.size=v.cells.size/\∀c∈v'.cells.toList,c.oneCell'=true:=by
 have hlen:=qI aw;have x:=wC b l;by_cases k:∃d,q= .agg d
 ·obtain⟨d,rfl⟩:=k;simp only[aU]at b;obtain⟨bk,rfl,i⟩:=b;simp only[pg]at g⊢;have j:cU w ν (nq d f cs) (bk.toList.take f++us++bk.toList.drop (f+us.length)):=by unfold nq;rw[hlen];exact zQ (zQ (E8 f i) aw) (Cl _ i)
  refine⟨.agg (bk.toList.take f++us++bk.toList.drop (f+us.length)).toArray,by simp only[nY,aU];exact⟨_,rfl,by simpa using j⟩,by simp[pg],?_,fun c a=>?_⟩
  ·simp[pg];omega
  ·exact Cm j c (by simpa[pg]using a)
 ·have h:∀cs,q≠ .agg cs:=fun cs e=>k ⟨cs,e⟩;obtain⟨J,U⟩:=Pl b l h;rw[U]at g⊢;match us,n,aw with
  |u::o,_,aw=>
   simp at g;obtain⟨rfl,rfl⟩:f=0/\o=[]:=⟨Ω,List.length_eq_zero_iff.1 Ω⟩;match cs,aw,hlen with
   |[c],aw,_=>
    simp only[cU]at aw;obtain⟨t,y,p,⟨r,m⟩,_⟩:=aw;cases p;have hu:u.cells= #[u]:=by cases u<;>first|rfl|cases m
    have s:nY q 0 [c]=c:=by cases q<;>first|rfl|exact absurd rfl (h _)
    rw[s];refine⟨u,r,by simp[hu],by simp[hu],fun c a=>?_⟩;rw[hu]at a;simp at a;subst a;exact m
def aqj{α:Type}(A us:List α)(a f sz N:Nat)(J:f+us.length<=sz)(U:a+sz<=N)(j:N<=A.length):
  ((A.take (a+f)++us++A.drop (a+f+us.length)).toArray.toList).take N=(A.take N).take a++((((A.take N).drop a).take sz).take f++us++(((A.take N).drop a).take sz).drop (f+us.length))++(A.take N).drop (a+sz):=by
 have g:(A.take N).take a++(((A.take N).drop a).take sz).take f=A.take (a+f):=by rw[List.take_take (i:=f),Nat.min_eq_left (show f<=sz by omega),<-List.take_add,List.take_take,Nat.min_eq_left Ω]
 have h:(((A.take N).drop a).take sz).drop (f+us.length)++(A.take N).drop (a+sz)=(A.take N).drop (a+f+us.length):=by
  have b:f+us.length<=(((A.take N).drop a).take sz).length:=by simp;omega
  have d:(A.take N).drop (a+sz)=((A.take N).drop a).drop sz:=by rw[List.drop_drop]
  rw[d,<-List.drop_append_of_le_length b,List.take_append_drop,List.drop_drop];congr 1;omega
 have e:(A.take N).drop (a+f+us.length)=(A.drop (a+f+us.length)).take (N-(a+f+us.length)):=by rw[List.drop_take]
 have b:(A.take (a+f)++us).length=a+f+us.length:=by simp;omega
 simp only[List.append_assoc]at*;rw[h,e,<-List.append_assoc (mJ a _),g];have c:N=(A.take (a+f)++us).length+(N-(a+f+us.length)):=by rw[b];omega
 rw[<-List.append_assoc,<-List.append_assoc];conv=>lhs;rw[c,List.take_length_add_append]
def c5.storeRow{P:cG}{C:fh}{st:bo}{a:Act}{w:World}{ν:a8}(h:c5 C st a w ν){k:aA}{n el sz:Nat}{xs:List af}(N:ad k st.e=some ⟨n,el,sz,some xs⟩){i f:Nat}{u:Value}(M:aU w ν (.rptr sz k n i f) u){q:af}(H:xs[i]? =some q)(L:eS q=true)
  {cs:List af} {us:List Value} (aw:cU w ν cs us) (aG:f+us.length<=(cells q).length) (Y:us≠[]):
  ∃bl off b,u= .pointer (some ⟨bl,off,none⟩)/\(storeCells ⟨bl,off,none⟩ us).run P w= .ok () (w.setRow bl b)/\∃bm,c5 C {st with e:=cH k ⟨n,el,sz,some (xs.set i (nY q f cs))⟩ st.e} a (w.setRow bl b) bm:=by
 simp only[aU]at M;obtain⟨_,hi,n',eH,J,U,ao⟩:=M;obtain⟨v,d,z,K,bT,W⟩:=h.good.own k _ N;rw[J]at z;simp only[dS,jj]at z;obtain⟨rfl,rfl⟩:=z;obtain⟨bl,l,rfl⟩:=ao rfl;obtain⟨c,m,u1⟩:=W xs rfl;simp only at c m;obtain⟨v,G,o,S⟩:=I6 i m H;have A6:=qI (wC G L);have s:(cells q).length=sz:=by rw[<-A6];simpa using o
 have O:f+us.length<=sz:=by rw[<-s];exact aG
 have hmul:i*sz+sz<=n'*sz:=by have:=rG sz (show i+1<=n' from hi);rwa[Nat.succ_mul]at this
 rcases K.2 with⟨al,aC⟩|⟨g,cap,cur,rfl,vL,B,A,y,p,Q⟩
 ·rw[al]at l;simp[pj]at l
 simp only[pj,dS]at l;subst l;simp only at Q p A B;have A5:n'*sz<=cur.size:=by rw[p];exact rG sz A
 have du:=run_storeCells_at P g (i*sz+f) el us 0 cur w B Ω (Cm aw);simp only[Nat.add_zero]at du;refine⟨g,i*sz+f,_,rfl,du,?_⟩;generalize E:(cur.toList.take (i*sz+f)++us++cur.toList.drop (i*sz+f+us.length)).toArray=b;obtain⟨v',Z,X,V,R⟩:=apI G L aw (f:=f) (by rw[o];exact O) Y;have F:=I8 m H Z (by rw[V,o]) R;have hlen:d.length=n'*sz:=K.1;have t:b.toList.take (n'*sz)=d.take (i*sz)++v'.cells.toList++d.drop (i*sz+sz):=by rw[<-E,X,S,<-Q];exact aqj cur.toList us (i*sz) f sz (n'*sz) O hmul (by simpa using A5)
 have x:b.size=cap*sz:=by rw[<-E,<-p];simp;omega
 have at4:(xs.set i (nY q f cs)).length=n':=by simp[c]
 obtain⟨r,_,_⟩:=h.setRowM (w':=w.setRow g b) N rfl J (bl:=g) rfl (v':= .slice (some ⟨g,0,none⟩) n' cap) rfl (xs':=xs.set i (nY q f cs)) (us:=d.take (i*sz)++v'.cells.toList++d.drop (i*sz+sz)) (.inl ⟨by simp[c],rfl⟩) rfl rfl rfl (fun j ah=>setRow_other w g j b ah) (setRow_size w g b)
  ⟨by rw[rr F],.inr ⟨g,cap,b,by simp[c],Nat.zero_le _,setRow_heap w g cur b el _ B,by simpa[c]using A,y,x,by simpa[c]using t⟩⟩ F
 exact⟨_,by simpa[c]using r⟩
def alu(z:Array Value)(n:Nat)(h:0<z.size):(madeCells z ((n+1)*z.size)).toList=z.toList++(madeCells z (n*z.size)).toList:=by
 apply List.ext_getElem?;intro j;rw[List.getElem?_append];have he:(n+1)*z.size=n*z.size+z.size:=by rw[qT,Nat.one_mul]
 simp only[madeCells,ve,Array.length_toList,Array.getElem?_map];by_cases a:j<z.size
 ·rw[if_pos a,Array.getElem?_range,if_pos Ω];simp[Nat.mod_eq_of_lt a,a]
 ·rw[if_neg a,Array.getElem?_range,Array.getElem?_range];by_cases b:j<n*z.size+z.size
  ·rw[if_pos Ω,if_pos Ω];simp only[pn];rw[<-Nat.mod_eq_sub_mod Ω]
  ·rw[if_neg Ω,if_neg Ω]
def XF{w:World}{ν:a8}{p:af}{z:Value}(a:aU w ν p z)(h:0<z.cells.size)(ar:∀c∈z.cells.toList,c.oneCell'=true):∀n,dt w ν z.cells.size (List.replicate n p) (madeCells z.cells (n*z.cells.size)).toList
 |0=>by simp[dt,madeCells]
 |n+1=>by rw[alu _ _ h];simp only[List.replicate_succ,dt];exact⟨z,_,rfl,⟨a,rfl,ar⟩,XF a h ar n⟩
def ks{P:cG}{aS:List (Nat×eu)}(aM:hW P aS=true){C:fh}{st st':bo}{a:Act}{w:World}{ν:a8}(l:c5 C st a w ν){i:eT}{o:Oper}(ar:Fh C.N aS i o=true)
  {κ:aA} {n':Nat} {o₁:List aA} (vP:i.makes st=true->fresh st.n st.o κ) (dy:i.makes st=true->∀j,fresh n' o₁ j->fresh st.n st.o j/\j≠κ) {c:Prop} (he:fc κ n' o₁ st i=some (c,st')) (aw:c) {K:Act->World->Prop} {Q:Exit->Act->World->Prop} (M:∀bs w' bm,c5 C st' bs w' bm->K bs w'):o.wp P a w K Q:=by
 obtain⟨dst,op,type,pos,after,guard⟩:=o;unfold Fh at ar;dsimp only at ar;split at ar
 ·rename_i d key t;simp only[cP,ey,gu]at ar;obtain⟨rfl,U⟩:=ar;simp only[fc]at he;cases he;obtain⟨g1,g2⟩:=l.newBox (l.new _ (vP rfl)) (dy rfl) (cs:=[.hdm 0 []]) (us:= #[]) 0 (by simp only[kW];exact⟨by simp[c1],⟨rfl,Ψ,Ψ⟩⟩);refine nu (v:= .map (some w.heap.size)) (w':=w.alloc (.map #[] 0)) ?_ (M _ _ _ (g1.put (d:=some d) (by simpa[j4]using U) (p:= .gmap κ) ?_))
  ·simp only[execOp,Instr.makeMap,Option.map_none,gr,run_newObj,gy,hy];rfl
  ·simp[aU,a8.withBox]
 iterate 2
  focus
   rename_i cv x k v t gZ jg uZ
   simp only[cP,ey]at ar
   obtain⟨⟨⟨⟨rfl,J⟩,U⟩,A⟩,E⟩:=ar
   have rx:=e1 l U
   have Jf:=e1 l A
   have sf:=e1 l E
   split at J
   ·rename_i sz S o5 rX z R
    obtain⟨cS,hu,gg⟩:=ji aM R
    have xe:cS= .map o5 rX:=by cases cS<;>simp[k0]at gg;obtain⟨rfl,rfl⟩:=gg;rfl
    subst xe
    have q1:=WX aM J
    simp only[fc]at he
    split at he
    ·rename_i m O
     rw[O]at rx
     simp only[aU]at rx
     obtain⟨bl,cm,b8⟩:=rx
     split at he
     ·rename_i cs dv
      split at he
      ·rename_i cs' hm
       cases he
       obtain⟨h2,us,el,a6,bB,bT,dp,G⟩:=l.good.box m cs dv
       rw[cm]at a6;cases a6
       unfold qF at hm
       split at hm
       ·rename_i clock borns kvs
        split at hm
        ·cases hm
        rename_i fs
        simp only[lQ]at dp
        simp only[kW]at G
        have iH:=x7 (P:=P) dp
        have DI:=aaB (P:=P) (w:=w) q1 false Jf (by simpa using fs)
        have bN:bl<w.heap.size:=(Array.getElem?_eq_some_iff.1 dp).1
        have ee:∀(o':Obj) (b1:Array Value) (eh:List af),(Instr.mapUpdate t (a.eval gZ) (a.eval jg) (a.eval uZ)).run P w= .ok () {w with heap:=w.heap.setIfInBounds bl o'}->lQ eh b1 el=o'->kW w ν eh b1.toList->some eh=some cs'->
          (⟨none,.mapUpdate t gZ jg uZ,type,pos,after,guard⟩:Oper).wp P a w K Q:=by
         intro o' b1 eh jF My nK jC;cases jC;refine JR (w':={w with heap:=w.heap.setIfInBounds bl o'}) ?_ (M _ _ _ (l.setBox (w':={w with heap:=w.heap.setIfInBounds bl o'}) dv cm (us:=b1) (el:=el) rfl rfl rfl (fun j L=>?_) Ψ ?_ nK).1)
         ·simp only[execOp,jF,gr,gy,hy]
         ·exact Array.getElem?_setIfInBounds_ne (Ne.symm L)
         ·rw[My];simp[bN]
        split at hm
        ·rename_i BG DU
         obtain⟨j,u,b1,e,f1,f2,f3,f4,f5,f6,f7⟩:=N0 q1 Jf sf borns kvs us.toList 0 _ G.1 G.2.len DU
         refine ee (.map (gM borns b1).toArray clock) b1.toArray (.hdm clock borns::BG) ?_ (by simp[lQ]) (by simp only[kW];exact⟨by simpa using f2,⟨by rw[f3];exact G.2.len,G.2.inc,G.2.lt⟩⟩) hm
         have aj7:(Instr.keyThatStays (((gM borns us.toList).toArray[j]?.map (·.key)).getD (a.eval jg)) (a.eval jg)).run P w= .ok (a.eval jg) w:=by
          have:((gM borns us.toList).toArray[j]?.map (·.key)).getD (a.eval jg)=e.key:=by simp[f4]
          rw[this];simp[Instr.keyThatStays,f6]
         simp only[Nat.zero_add]at f1
         simp only[Instr.mapUpdate,gr,run_underlying hu,gy,b8,iH,DI,f1.run q1,hy,aj7,Pp dp]
         rw[f7]
         simp
        ·rename_i DU
         have f1:=N0 q1 Jf sf borns kvs us.toList 0 _ G.1 G.2.len DU
         simp only at f1
         have vY:us.toList.length=2*borns.length:=by rw[Pk G.1,G.2.len]
         refine ee (.map ((gM borns us.toList).toArray.push ⟨a.eval jg,a.eval uZ,clock⟩) (clock+1)) (us.toList++[a.eval jg,a.eval uZ]).toArray (.hdm (clock+1) (borns++[clock])::(kvs++[cD st.t k,cD st.t v])) ?_ (by simp only[lQ,TQ borns us.toList clock _ _ vY];simp) ?_ hm
         ·simp only[Instr.mapUpdate,gr,run_underlying hu,gy,b8,iH,DI,f1.run q1,hy,Pp dp]
         ·simp only[kW]
          refine⟨aap G.1 (by simp only[c1];exact⟨_,_,rfl,Jf,_,_,rfl,sf,rfl⟩),⟨by simp[G.2.len];omega,?_,?_⟩⟩
          ·rw[List.pairwise_append]
           exact⟨G.2.inc,Ψ,fun x O y aL=>by simp at aL;subst aL;exact G.2.lt x O⟩
          ·intro b ag
           rcases j2.1 ag with ag|ag
           ·have:=G.2.lt b ag;omega
           ·simp at ag;omega
        ·cases hm
       ·cases hm
      ·cases he
     ·cases he
    ·cases he
   ·cases J
 ·rename_i d key x t gZ;simp only[cP,ey,gu]at ar;obtain⟨⟨⟨rfl,U⟩,J⟩,A⟩:=ar;have rx:=e1 l A;split at J
  ·rename_i sz S o5 rX z R;obtain⟨cS,hu,gg⟩:=ji aM R;have xe:cS= .map o5 rX:=by cases cS<;>simp[k0]at gg;obtain⟨rfl,rfl⟩:=gg;rfl
   subst xe;simp only[fc]at he;split at he
   ·rename_i m O;rw[O]at rx;have apM:=rx;simp only[aU]at rx;obtain⟨bl,cm,b8⟩:=rx;split at he
    ·rename_i cs dv;split at he
     ·rename_i cs' hm;cases he;obtain⟨h2,us,el,a6,bB,bT,dp,G⟩:=l.good.box m cs dv;rw[cm]at a6;cases a6;unfold zO at hm;split at hm
      ·rename_i clock borns kvs;cases hm;simp only[lQ]at dp;have iH:=x7 (P:=P) dp;obtain⟨g1,g2⟩:=l.newBox (l.new _ (vP rfl)) (dy rfl) (cs:=[.hdi clock [] clock,.gmap m]) (us:= #[a.eval gZ]) 0 (by simp only[kW,c1];exact⟨_,_,rfl,apM,rfl⟩);have My:lQ [.hdi clock [] clock,.gmap m] #[a.eval gZ] 0= .mapIter (some bl) clock #[] clock:=by simp[lQ,b8]
       rw[My]at g1 g2;refine nu (v:= .pointer (some ⟨w.heap.size,0,none⟩)) (w':=w.alloc (.mapIter (some bl) clock #[] clock)) ?_ (M _ _ _ (g1.put (d:=some d) (by simpa[j4]using U) (p:= .ptr κ 0) g2))
       ·simp only[execOp];refine FD ?_;simp only[Instr.range,gr,run_underlying hu,gy,b8,iH,hy,run_newObj];rfl
      ·cases hm
     ·cases he
    ·cases he
   ·cases he
  ·cases J
 ·rename_i d aw1;simp only[cP,ey,gu]at ar;obtain⟨⟨J,U⟩,A⟩:=ar;subst J;simp only[fc]at he;split at he
  ·rename_i cA p F;cases he;obtain⟨v,g1,g2⟩:=aqR (o:=⟨some d,op,type,pos,after,guard⟩) aM l A F aw;refine nu g1 (M _ _ ν ?_);exact l.put (d:=some d) (by simpa[j4]using U) g2
  ·cases he
 ·rename_i d key x el o';simp only[cP,ey,gu]at ar;obtain⟨⟨J,U⟩,A⟩:=ar;subst J;simp only[fc]at he;cases he;have O:=e1 l A;have mn:=wC O aw;obtain⟨g1,g2⟩:=l.newBox (l.new _ (vP rfl)) (dy rfl) el (by rw[pa (wB mn)];exact mn);rw[o9 (wB mn)]at g1 g2;refine nu (v:= .pointer (some ⟨w.heap.size,0,none⟩)) (w':=w.alloc (.cells (a.eval o').cells el)) ?_ (M _ _ _ (g1.put (d:=some d) (by simpa[j4]using U) (p:= .ptr κ 0) ?_))
  ·simp only[execOp,Instr.box,newVar,newRow,gr,run_newObj,gy,hy];rfl
  ·simpa only[aU]using g2
 ·rename_i d key z el;simp only[cP,ey,gu]at ar;obtain⟨⟨J,U⟩,A⟩:=ar;subst J;simp only[fc]at he;cases he;split at A
  ·rename_i f R;have bC:=Qs A;obtain⟨b9,lV,z2,z3⟩:=PZ aM R w;rw[<-bC]at z2;obtain⟨_,mn⟩:=Qr w ν z2;obtain⟨g1,g2⟩:=l.newBox (l.new _ (vP rfl)) (dy rfl) el (by rw[pa (wB mn)];exact mn);rw[o9 (wB mn)]at g1 g2;refine nu (v:= .pointer (some ⟨w.heap.size,0,none⟩)) (w':=w.alloc (.cells b9.cells el)) ?_ (M _ _ _ (g1.put (d:=some d) (by simpa[j4]using U) (p:= .ptr κ 0) ?_))
   ·simp only[execOp,Instr.alloc,newVar,newRow,gr,lV,run_newObj,gy,hy];rfl
   ·simpa only[aU]using g2
  ·cases A
 ·rename_i sz x y t o' X;simp only[cP,ey]at ar;obtain⟨⟨⟨J,U⟩,A⟩,E⟩:=ar;subst J;split at U
  ·rename_i f R;simp only[ey]at U;simp only[fc]at he;split at he
   ·rename_i k off O;split at he
    ·rename_i cs dv;cases he;obtain⟨jn,Z,cn,dh⟩:=aw;have rx:=e1 l A;rw[O]at rx;simp only[aU]at rx;obtain⟨bl,cm,b8⟩:=rx;have N:=e1 l E;have wz:=wC N Z;have wD:=qI wz;obtain⟨h2,us,el,a6,bB,bT,dp,G⟩:=l.good.box k cs dv;rw[cm]at a6;cases a6;rw[o9 jn]at dp;rw[pa jn]at G;have ay:=qI G;obtain⟨_,ej⟩:=wI aM R w;have vZ:(a.eval X).cells.size=sz:=by rw[cn]at wD;simpa using wD
     have du:=run_storeCells_at (P:=P) bl off el (a.eval X).cells.toList 0 us w dp (by simp at ay⊢;omega) (Cm wz);simp only[Nat.add_zero]at du;refine JR (w':=w.setRow bl (us.toList.take off++(a.eval X).cells.toList++us.toList.drop (off+(a.eval X).cells.toList.length)).toArray) ?_ (M _ _ _ (l.storeBox dv cm jn ?_))
     ·simp only[execOp,Instr.storeAt,b8,Instr.sureAddr,storeVar,gr,hy,gy,ej,vZ,U,ne_eq,not_true_eq_false,if_false,du]
     ·simp only[nq];rw[wD];exact zQ (zQ (E8 off G) wz) (Cl _ G)
    ·cases he
   ·rename_i O;generalize MB:cD st.t x=px at he;unfold sk at he;split at he
    ·rename_i ed k n i uq;split at he
     ·rename_i n' el jZ xs ab;split at he
      ·rename_i DY;obtain⟨rfl,rfl⟩:=DY;split at he
       ·rename_i q bP;cases he;obtain⟨jn,Z,cn,dh,h3⟩:=aw;have rx:=e1 l A;rw[MB]at rx;have N:=e1 l E;have wz:=wC N Z;have wD:=qI wz;obtain⟨_,ej⟩:=wI aM R w;have vZ:(a.eval X).cells.size=sz:=by rw[cn]at wD;simpa using wD
        obtain⟨bl,off,nB,D0,du,bm,pP⟩:=l.storeRow (P:=P) ab rx bP jn wz (by simpa[vZ]using dh) (fun e=>by have:=ff List.length e;simp[vZ]at this;omega);refine JR (w':=w.setRow bl nB) ?_ (M _ _ _ pP);simp only[execOp,Instr.storeAt,D0,Instr.sureAddr,storeVar,gr,hy,gy,ej,vZ,U,ne_eq,not_true_eq_false,if_false,du]
       ·cases he
      ·cases he
     ·cases he
    ·cases he
  ·cases U
 ·rename_i d sz el xs t len parts;simp only[cP,ey,gu]at ar;obtain⟨⟨⟨⟨⟨⟨J,U⟩,A⟩,E⟩,bM⟩,de⟩,dW⟩:=ar;subst J;subst bM;split at A
  ·rename_i gF R;simp only[ey]at A;subst A;split at E
   ·rename_i g be;simp only[cP,ey,gu]at E;obtain⟨rfl,gh⟩:=E;simp only[fc]at he;cases he;obtain⟨us,g1,g2,g3⟩:=aaA aM l R rfl be dW aw de;have mq:(w.alloc (.cells us el)).ownsRow w.heap.size el g.size (.slice (some ⟨w.heap.size,0,none⟩) xs.length xs.length) (xs.map (cD st.t)).length us.toList:=by
     refine⟨by simp[g3],.inr ⟨w.heap.size,xs.length,us,Ψ,dL _,heap_alloc_new w _,Ψ,?_,g3,?_⟩⟩
     ·simp only[maxLen];have:xs.length<=xs.length*g.size:=Nat.le_mul_of_pos_right _ gh;omega
     ·rw[iE];simp[g3]
    obtain⟨Y,eG⟩:=l.newRow (k:=κ) (xs:=xs.map (cD st.t)) (.inl (l.new _ (vP rfl))) (World.grownBy_alloc w _ none) mq g2
     (by have:xs.length<=xs.length*g.size:=Nat.le_mul_of_pos_right _ gh;simp only[lim,List.length_map];omega) (dy rfl)
    simp only[List.length_map]at Y eG;refine nu (v:= .slice (some ⟨w.heap.size,0,none⟩) xs.length xs.length) (w':=w.alloc (.cells us el)) ?_ (M _ _ _ (Y.put (d:=some d) (by simpa[j4]using U) (p:= .slice g.size (.own κ) (xs.map (cD st.t))) eG));have bI:(parts.map fun(x:Nat×Operand)=>(x.1,a.eval x.2))=(parts.toList.map fun(x:Nat×Operand)=>(x.1,a.eval x.2)).toArray:=by apply Array.ext';simp
    simp only[execOp];refine FD ?_;rw[<-g1];congr 2
   ·cases E
  ·cases A
 ·rename_i d sz el x y o' X t t';simp only[cP,ey,gu]at ar;obtain⟨⟨⟨⟨⟨⟨J,U⟩,A⟩,E⟩,bM⟩,de⟩,dW⟩:=ar;subst J;subst A;split at E
  ·rename_i gF R;simp only[ey]at E;subst E;split at bM
   ·rename_i g be;simp only[cP,ey,gu]at bM;obtain⟨⟨rfl,gh⟩,hby⟩:=bM;have rx:=e1 l de;have N:=e1 l dW;have nG:∀v' w',(Builtin.append_ #[t,t] type #[a.eval o',a.eval X]).run P w= .ok v' w'->(execOp a.eval ⟨some d,.call ⟨.builtin .append,⟨[o',X]⟩,⟨[t,t]⟩⟩,type,pos,after,guard⟩).run P w= .ok (.value v') w':=by intro v' w' jF;simp only[execOp,resolve,invoke,builtin,gr,hy,gy,List.map_toArray,hc,List.map_nil];rw[jF];rfl
    obtain⟨r,cq,z,al,aC,B,b2,dI,dj,sC,sD⟩:=(wJ aM be).ex;obtain⟨eh,jC,gg⟩:=ji aM R;obtain rfl:=sB gg;simp only[fc]at he;split at he
    ·rename_i ed tag xs jZ lR ys O aL;split at he
     ·rename_i fZ;obtain⟨rfl,fZ⟩:=fZ;subst fZ;rw[O]at rx;rw[aL]at N;simp only[aU]at rx N;obtain⟨⟨vw,oV,tM,cx1,⟨Ty,Tz⟩,cx4⟩,rxn,rxo,rxt⟩:=rx;obtain⟨⟨oR,W,vy,cy1,⟨TA,TB⟩,cy4⟩,_⟩:=N;split at he
      ·rename_i k;split at he
       ·rename_i ow ab;cases he;obtain⟨Z,cn,dh,h3⟩:=aw;subst cn;obtain⟨n0,yh,Y,eG,kr⟩:=rxo k rfl;obtain⟨v0,H,a6,bB,bT,_⟩:=l.good.own k ow ab;rw[Y]at a6;simp only[dS,jj]at a6;obtain⟨rfl,rfl⟩:=a6;have nL:a.eval o'=yh:=kr Z.symm;by_cases hC:ys=[]
        ·subst hC;rw[vy,tM]at nG;have jF:=Ji (P:=P) (w:=w) (ty:=type) jC al vw xs.length oV cx1 oR W;refine nu (nG _ _ (by simpa using jF)) (M _ _ ν ?_);have du:{st with t:=put d (.slice ow.sz (.own k) (xs++[])) st.t,e:=cH k ⟨xs.length+([]:List af).length,ow.el,ow.sz,none⟩ st.e}=({st with e:=cH k ⟨ow.n,ow.el,ow.sz,none⟩ st.e,t:=put d (.slice ow.sz (.own k) xs) st.t}:bo):=by simp[Z]
         rw[<-dh,du];have nJ:=l.forgetRow ab;refine nJ.put (d:=some d) (by simpa[j4]using U) (p:= .slice ow.sz (.own k) xs) ?_;simp only[aU];rw[<-dh]at cx4;exact⟨⟨vw,oV,rfl,cx1,⟨Ty,Tz⟩,cx4⟩,fun e=>(by cases e),(fun g e=>by cases e;exact⟨_,_,Y,eG,fun e=>by rw[<-tM];exact kr e⟩),fun _ _ e=>(by cases e),fun _ e=>(by cases e)⟩
        ·have hyp:0<ys.length:=by cases ys<;>simp at hC⊢
         rcases cy4 with cy4|⟨S,oD,s,rfl,zw,V⟩
         ·exact absurd cy4 hC
         ·have kl:=rr V;have s5:∀j u,s[j]? =some u->w.cell? ((⟨S,oD,none⟩:Addr).add j)=some u:=fun j u L=>by rw[pD];exact(uO zw L).2
          have sQ:(xs.length+ys.length)*r.bytes<=140737488355328:=by
           have ml:r.bytes<=2048:=by rw[b2];exact hby
           have qn:(xs.length+ys.length)*r.bytes<=(xs.length+ys.length)*2048:=Nat.mul_le_mul_left _ ml;simp only[lim]at h3;omega
          have nH:xs.length+ys.length<=maxLen:=by simp only[lim]at h3;simp only[maxLen];omega
          rw[vy]at nG;have xA:H.length=ow.n*ow.sz:=bB.1;have xD:z.cells.size=r.size:=by rw[sD,B]
          have DO:(∀cur,et->cur=(0:Nat))->(∃v' w',(Builtin.append_ #[t,t] type #[a.eval o',.slice (some ⟨S,oD,none⟩) ys.length W]).run P w= .ok v' w'/\w'.ownsRow w.heap.size ow.el r.size v' (xs.length+ys.length) (H++s)/\w.grownBy w' none/\dt w ν r.size xs H)->
            (⟨some d,.call ⟨.builtin .append,⟨[o',X]⟩,⟨[t,t]⟩⟩,type,pos,after,guard⟩:Oper).wp P a w K Q:=by
           intro _ cK;obtain⟨v',w',f1,f2,f3,f4⟩:=cK;have Hd:dt w ν r.size (xs++ys) (H++s):=E6 f4 (by rw[B];exact V);obtain⟨cY,dF⟩:=l.newRow (k:=k) (xs:=xs++ys) (.inr ⟨ow,ab,by rw[Z];simp;omega⟩) f3 (by simpa using f2) Hd (by simpa using h3) (n':=st.n) (o':=st.o)
            (fun j L=>⟨L,fun e=>by subst e;have:=(l.new _ L).2.1;rw[Y]at this;cases this⟩)
           refine nu (nG _ _ f1) (M _ _ ((ν.withOwn k (xs++ys).length v').withRowOf k v' (xs++ys).length ((xs++ys).length*r.size)) ?_);have:=cY.put (d:=some d) (by simpa[j4]using U) dF;simpa[B,e3]using this
          rcases bB.2 with⟨oE,zK⟩|⟨bl,cap,cur,oE,zK,Ca,OH,OI,OJ,IG⟩
          ·
           have r8:xs=[]:=List.eq_nil_of_length_eq_zero Ω;have MO:H=[]:=List.eq_nil_of_length_eq_zero (by rw[xA,zK];simp);subst r8;subst MO;refine DO (fun _ h=>h.elim) ?_;obtain⟨v',w',f1,f2,f3,_⟩:=run_append_own (P:=P) w w.heap.size t type ow.el r z r.size r.bytes jC al dj rfl rfl xD (by rw[B];exact gh) (.slice none 0 0) 0 [] (World.ownsRow_nil w _ _ _)
            ⟨S,oD,none⟩ ys.length W s (by rw[kl,B]) s5 (zP V) (by simpa using nH) (by simpa using sQ) (dL _)
           refine⟨v',w',by rw[nL,oE];exact f1,by simpa using f2,by simpa[pj]using f3,by simp[dt]⟩
          ·have ajx:kR w ν.A bl 0 H/\dt w ν r.size xs H/\True:=by
            rw[nL,oE]at tM;rcases cx4 with cx4|⟨bb,avO,P6,f1,f2,f3⟩
            ·subst cx4;have:H=[]:=List.eq_nil_of_length_eq_zero (by rw[xA,Z];simp);subst this;exact⟨trivial,by simp[dt],trivial⟩
            ·subst f1;injection tM with vx1 vx2 vx3;injection vx1 with vx1;injection vx1 with vx1 vx4;subst vx1;subst vx4;have heq:P6=H:=by
              apply List.ext_getElem?;intro j;have vY:P6.length=H.length:=by rw[rr f3,xA,Z,dh]
              by_cases L:j<P6.length
              ·have J:=(uO f2 (cl L)).2;rw[Nat.zero_add]at J;have U:=bB.cells (g:=bl) (by rw[oE];rfl) j H[j] (cl Ω);rw[pD,Nat.zero_add,J]at U;rw[cl L,cl Ω];exact U
              ·rw[qQ Ω,qQ Ω]
             subst heq;exact⟨f2,by rw[B];exact f3,trivial⟩
           obtain⟨y9,oq,_⟩:=ajx;by_cases s7:xs.length+ys.length<=cap
           ·have atZ:cur.size=cap*ow.sz:=OJ;have hmul:(xs.length+ys.length)*ow.sz<=cap*ow.sz:=rG _ s7;rw[qT]at hmul;have f1:=run_append_room (P:=P) w t type ow.el r jC al bl xs.length cap cur Ca ⟨S,oD,none⟩ ys.length W s (by rw[kl,B]) s5 (zP V) s7 (by rw[kl,B,<-dh];omega);obtain⟨cY,dF⟩:=l.inPlace ab (bl:=bl) (cap:=cap) (cur:=cur) (by rw[Y,<-oE]) Ca OI OJ (xs:=xs) (ys:=ys) (us:=H) (ns:=s) Z.symm IG (by rw[dh,<-B];exact oq) (by rw[dh];exact V) hyp (by rw[Z];exact s7) h3;refine nu (v:= .slice (some ⟨bl,0,none⟩) (ow.n+ys.length) cap) (w':=w.setRow bl (H++s++cur.toList.drop (ow.n*ow.sz+s.length)).toArray) (nG _ _ ?_)
             (M _ _ (ν.withRowOf k (.slice (some ⟨bl,0,none⟩) (ow.n+ys.length) cap) (ow.n+ys.length) ((ow.n+ys.length)*ow.sz)) ?_)
            ·rw[nL,oE,Z,f1,<-IG,Z,dh,B]
            ·have:=cY.put (d:=some d) (by simpa[j4]using U) dF;simpa[Z,dh,e3]using this
           ·refine DO (fun _ h=>h.elim) ?_;obtain⟨v',w',f1,f2,f3⟩:=run_append_arg_grows (P:=P) w t type ow.el r z r.size r.bytes jC al dj rfl rfl xD (by rw[B];exact gh) ⟨bl,0,none⟩ xs.length cap H (by rw[xA,Z,dh,B])
             (fun j u L=>by rw[pD];exact(uO y9 L).2) ⟨S,oD,none⟩ ys.length W s (by rw[kl,B]) s5 Ω nH sQ
            exact⟨v',w',by rw[nL,oE,Z];exact f1,f2,f3,oq⟩
       ·cases he
      ·cases he;have Hq:=rxn rfl;have r8:xs=[]:=by rw[Hq]at tM;injection tM with _ aC;exact List.eq_nil_of_length_eq_zero aC.symm
       subst r8;have zd:(eT.app d g.size el x y).makes st=true:=by simp only[eT.makes,O]
       have xD:z.cells.size=r.size:=by rw[sD,B]
       rw[vy,Hq]at nG;have ee:∀(v':Value) (w':World) (s:List Value),(Builtin.append_ #[t,t] type #[.slice none 0 0,.slice oR ys.length W]).run P w= .ok v' w'->w'.ownsRow w.heap.size el g.size v' ys.length s->w.grownBy w' none->dt w ν g.size ys s->
         (⟨some d,.call ⟨.builtin .append,⟨[o',X]⟩,⟨[t,t]⟩⟩,type,pos,after,guard⟩:Oper).wp P a w K Q:=by
        intro v' w' s f1 f2 f3 f4;obtain⟨cY,dF⟩:=l.newRow (k:=κ) (xs:=ys) (.inl (l.new _ (vP zd))) f3 f2 f4 aw (dy zd);exact nu (nG _ _ f1) (M _ _ _ (cY.put (d:=some d) (by simpa[j4]using U) dF))
       by_cases hC:ys=[]
       ·subst hC;exact ee _ w [] (Ji jC al none 0 0 (dL _) oR W) (World.ownsRow_nil w _ _ _) (asu w _) (by simp[dt])
       ·rcases cy4 with cy4|⟨S,oD,s,rfl,zw,V⟩
        ·exact absurd cy4 hC
        ·have kl:=rr V;have s5:∀j u,s[j]? =some u->w.cell? ((⟨S,oD,none⟩:Addr).add j)=some u:=fun j u L=>by rw[pD];exact(uO zw L).2
         have sQ:ys.length*r.bytes<=140737488355328:=by
          have J:r.bytes<=2048:=by rw[b2];exact hby
          have U:ys.length*r.bytes<=ys.length*2048:=Nat.mul_le_mul_left _ J;simp only[lim]at aw;omega
         have nH:ys.length<=maxLen:=by simp only[lim]at aw;simp only[maxLen];omega
         obtain⟨v',w',f1,f2,f3,_⟩:=run_append_own (P:=P) w w.heap.size t type el r z r.size r.bytes jC al dj rfl rfl xD (by rw[B];exact gh) (.slice none 0 0) 0 [] (World.ownsRow_nil w _ _ _)
          ⟨S,oD,none⟩ ys.length W s (by rw[kl,B]) s5 (zP V) (by simpa using nH) (by simpa using sQ) (dL _)
         exact ee v' w' s f1 (by rw[<-B];simpa using f2) (by simpa[pj]using f3) V
      ·cases he
     ·cases he
    ·cases he
   ·cases bM
  ·cases E
 ·rename_i d key sz el xs t len parts;simp only[cP,ey,gu]at ar;obtain⟨⟨⟨⟨⟨⟨J,U⟩,A⟩,E⟩,bM⟩,de⟩,dW⟩:=ar;subst J;subst bM;split at A
  ·rename_i gF R;simp only[ey]at A;subst A;split at E
   ·rename_i g be;simp only[cP,ey,gu]at E;obtain⟨rfl,gh⟩:=E;simp only[fc]at he;cases he;obtain⟨us,g1,g2,g3⟩:=aaA aM l R rfl be dW aw de;have mq:(w.alloc (.cells us el)).ownsRow w.heap.size el g.size (.slice (some ⟨w.heap.size,0,none⟩) xs.length xs.length) (xs.map (cD st.t)).length us.toList:=by
     refine⟨by simp[g3],.inr ⟨w.heap.size,xs.length,us,Ψ,dL _,heap_alloc_new w _,Ψ,?_,g3,?_⟩⟩
     ·simp only[maxLen];have:xs.length<=xs.length*g.size:=Nat.le_mul_of_pos_right _ gh;omega
     ·rw[iE];simp[g3]
    obtain⟨Y,eG⟩:=l.newRowM (k:=κ) (xs:=xs.map (cD st.t)) (.inl (l.new _ (vP rfl))) (World.grownBy_alloc w _ none) mq g2
     (by have:xs.length<=xs.length*g.size:=Nat.le_mul_of_pos_right _ gh;simp only[lim,List.length_map];omega) (dy rfl)
    simp only[List.length_map]at Y eG;refine nu (v:= .slice (some ⟨w.heap.size,0,none⟩) xs.length xs.length) (w':=w.alloc (.cells us el)) ?_ (M _ _ _ (Y.put (d:=some d) (by simpa[j4]using U) (p:= .row g.size κ xs.length) (eG ⟨_,_,rfl⟩)));have bI:(parts.map fun(x:Nat×Operand)=>(x.1,a.eval x.2))=(parts.toList.map fun(x:Nat×Operand)=>(x.1,a.eval x.2)).toArray:=by apply Array.ext';simp
    simp only[execOp];refine FD ?_;rw[<-g1];congr 2
   ·cases E
  ·cases A
 ·rename_i d key sz el x y o' X t t';simp only[cP,ey,gu]at ar;obtain⟨⟨⟨⟨⟨⟨J,U⟩,A⟩,E⟩,bM⟩,de⟩,dW⟩:=ar;subst J;subst A;split at E
  ·rename_i gF R;simp only[ey]at E;subst E;split at bM
   ·rename_i g be;simp only[cP,ey,gu]at bM;obtain⟨⟨rfl,gh⟩,hby⟩:=bM;have rx:=e1 l de;have N:=e1 l dW;have nG:∀v' w',(Builtin.append_ #[t,t] type #[a.eval o',a.eval X]).run P w= .ok v' w'->(execOp a.eval ⟨some d,.call ⟨.builtin .append,⟨[o',X]⟩,⟨[t,t]⟩⟩,type,pos,after,guard⟩).run P w= .ok (.value v') w':=by intro v' w' jF;simp only[execOp,resolve,invoke,builtin,gr,hy,gy,List.map_toArray,hc,List.map_nil];rw[jF];rfl
    obtain⟨r,cq,z,al,aC,B,b2,dI,dj,sC,sD⟩:=(wJ aM be).ex;obtain⟨eh,jC,gg⟩:=ji aM R;obtain rfl:=sB gg;have xD:z.cells.size=r.size:=by rw[sD,B]
    simp only[fc]at he;split at he
    ·
     rename_i ys F;cases he;unfold uc at F;split at F
     ·rename_i ed xs jZ lR asm O aL;split at F
      ·rename_i fZ;obtain⟨rfl,fZ⟩:=fZ;subst fZ;cases F;rw[O]at rx;rw[aL]at N;simp only[aU]at rx N;obtain⟨⟨vw,oV,tM,cx1,⟨Ty,Tz⟩,cx4⟩,rxn,rxo,rxt⟩:=rx;obtain⟨⟨oR,W,vy,cy1,⟨TA,TB⟩,cy4⟩,_⟩:=N;have Hq:=rxn trivial;have zd:(eT.appm d key g.size el x y).makes st=true:=by simp only[eT.makes,O]
       rw[vy,Hq]at nG;have ee:∀(v':Value) (w':World) (s:List Value),(Builtin.append_ #[t,t] type #[.slice none 0 0,.slice oR ys.length W]).run P w= .ok v' w'->w'.ownsRow w.heap.size el g.size v' ys.length s->w.grownBy w' none->dt w ν g.size ys s->
         (⟨some d,.call ⟨.builtin .append,⟨[o',X]⟩,⟨[t,t]⟩⟩,type,pos,after,guard⟩:Oper).wp P a w K Q:=by
        intro v' w' s f1 f2 f3 f4;obtain⟨cY,dF⟩:=l.newRowM (k:=κ) (xs:=ys) (.inl (l.new _ (vP zd))) f3 f2 f4 aw.1 (dy zd);exact nu (nG _ _ f1) (M _ _ _ (cY.put (d:=some d) (by simpa[j4]using U) (dF (YV f2 (by cases ys<;>simp at aw⊢)))))
       by_cases hC:ys=[]
       ·subst hC;exact ee _ w [] (Ji jC al none 0 0 (dL _) oR W) (World.ownsRow_nil w _ _ _) (asu w _) (by simp[dt])
       ·rcases cy4 with cy4|⟨S,oD,s,rfl,zw,V⟩
        ·exact absurd cy4 hC
        ·have kl:=rr V;have s5:∀j u,s[j]? =some u->w.cell? ((⟨S,oD,none⟩:Addr).add j)=some u:=fun j u L=>by rw[pD];exact(uO zw L).2
         have sQ:ys.length*r.bytes<=140737488355328:=by
          have J:r.bytes<=2048:=by rw[b2];exact hby
          have U:ys.length*r.bytes<=ys.length*2048:=Nat.mul_le_mul_left _ J;simp only[lim]at aw;omega
         have nH:ys.length<=maxLen:=by simp only[lim]at aw;simp only[maxLen];omega
         obtain⟨v',w',f1,f2,f3,_⟩:=run_append_own (P:=P) w w.heap.size t type el r z r.size r.bytes jC al dj rfl rfl xD (by rw[B];exact gh) (.slice none 0 0) 0 [] (World.ownsRow_nil w _ _ _)
          ⟨S,oD,none⟩ ys.length W s (by rw[kl,B]) s5 (zP V) (by simpa using nH) (by simpa using sQ) (dL _)
         exact ee v' w' s f1 (by rw[<-B];simpa using f2) (by simpa[pj]using f3) V
      ·cases F
     ·split at F
      ·split at F
       ·split at F<;>cases F
       ·cases F
      ·cases F
     ·cases F
    ·
     rename_i k xs ys F;cases he;unfold uc at F;split at F
     ·split at F<;>cases F
     ·rename_i ed bt n jZ lR asm O aL;split at F
      ·rename_i fZ;obtain⟨rfl,fZ⟩:=fZ;subst fZ;split at F
       ·rename_i n' gF yf xs' ab;split at F
        ·rename_i q2;obtain⟨rfl,rfl,rfl⟩:=q2;cases F;rw[O]at rx;rw[aL]at N;simp only[aU]at rx N;obtain⟨⟨bx,oV,tM⟩,rxl,n0,yh,Y,eG,kr⟩:=rx;obtain⟨⟨oR,W,vy,cy1,⟨TA,TB⟩,cy4⟩,_⟩:=N;obtain⟨v0,H,a6,bB,bT,dp⟩:=l.good.own k _ ab;rw[Y]at a6;simp only[dS,jj]at a6 bB;obtain⟨rfl,rfl⟩:=a6;have nL:a.eval o'=yh:=kr rfl;obtain⟨G,mD,u1⟩:=dp xs rfl;simp only at G mD;have xA:H.length=xs.length*g.size:=by rw[G];exact bB.1
         have kP:xs.length=n0:=G;by_cases hC:ys=[]
         ·subst hC;rw[vy,tM]at nG;have mn:n0<=oV:=by
           rcases bB.2 with⟨oE,zK⟩|⟨bl,cap,cur,oE,zK,Ca,OH,_⟩
           ·rw[zK];exact Nat.zero_le _
           ·rw[<-nL,tM]at oE;injection oE with _ _ e;rw[e];exact OH
          have jF:=Ji (P:=P) (w:=w) (ty:=type) jC al (some ⟨bx,0,none⟩) n0 oV mn oR W;refine nu (nG _ _ (by simpa using jF)) (M _ _ ν ?_);have hT:∀fD,ad fD (cH k ⟨n0,gF,g.size,some xs⟩ st.e)=ad fD st.e:=fun fD=>by
           rw[je];split
           ·rename_i e;subst e;rw[ab]
           ·rfl
          have nJ:c5 C {st with e:=cH k ⟨n0,gF,g.size,some xs⟩ st.e} a w ν:=
           ⟨⟨l.good.alt,l.good.box,l.good.inj,fun g o be=>l.good.own g o (by rw[<-hT g];exact be),fun g fD n n' v v' bl bp a2=>l.good.oinj g fD n n' v v' bl (by rw[<-hT g];exact bp) (by rw[<-hT fD];exact a2),
           fun g j n v bl bp=>l.good.obx g j n v bl (by rw[<-hT g];exact bp),l.good.one,fun bl ag=>l.good.otr bl (ag.imp id (fun⟨g,n,v,bp,a2⟩=>⟨g,n,v,by rw[<-hT g];exact bp,a2⟩))⟩,l.fr,l.defers,l.size,l.slot,l.new⟩
          have A:=nJ.put (d:=some d) (by simpa[j4]using U) (p:= .row g.size k n0) (v:= .slice (some ⟨bx,0,none⟩) n0 oV) (by simp only[aU];exact⟨⟨_,_,rfl⟩,rxl,_,_,Y,dL _,fun _=>by rw[<-tM];exact nL⟩)
          simpa[kP,e3]using A
         ·have hyp:0<ys.length:=by cases ys<;>simp at hC⊢
          rcases cy4 with cy4|⟨S,oD,s,rfl,zw,V⟩
          ·exact absurd cy4 hC
          ·have kl:=rr V;have s5:∀j u,s[j]? =some u->w.cell? ((⟨S,oD,none⟩:Addr).add j)=some u:=fun j u L=>by rw[pD];exact(uO zw L).2
           have sQ:(xs.length+ys.length)*r.bytes<=140737488355328:=by
            have ml:r.bytes<=2048:=by rw[b2];exact hby
            have qn:(xs.length+ys.length)*r.bytes<=(xs.length+ys.length)*2048:=Nat.mul_le_mul_left _ ml;simp only[lim]at aw;omega
           have nH:xs.length+ys.length<=maxLen:=by simp only[lim]at aw;simp only[maxLen];omega
           have Hd:dt w ν g.size (xs++ys) (H++s):=E6 mD V;rw[vy,nL]at nG;have DO:(∃v' w',(Builtin.append_ #[t,t] type #[yh,.slice (some ⟨S,oD,none⟩) ys.length W]).run P w= .ok v' w'/\w'.ownsRow w.heap.size gF r.size v' (xs.length+ys.length) (H++s)/\w.grownBy w' none)->
             (⟨some d,.call ⟨.builtin .append,⟨[o',X]⟩,⟨[t,t]⟩⟩,type,pos,after,guard⟩:Oper).wp P a w K Q:=by
            intro cK;obtain⟨v',w',f1,f2,f3⟩:=cK;obtain⟨cY,dF⟩:=l.newRowM (k:=k) (xs:=xs++ys) (el:=gF) (sz:=g.size) (.inr ⟨_,ab,by simp;omega⟩) f3 (by rw[<-B];simpa using f2) Hd (by simpa using aw) (n':=st.n) (o':=st.o)
             (fun j L=>⟨L,fun e=>by subst e;have:=(l.new _ L).2.1;rw[Y]at this;cases this⟩)
            refine nu (nG _ _ f1) (M _ _ (ν.withOwn k (xs++ys).length v') ?_);have:=cY.put (d:=some d) (by simpa[j4]using U) (dF (by simpa using YV f2 Ω));simpa[e3]using this
           rcases bB.2 with⟨oE,zK⟩|⟨bl,cap,cur,oE,zK,Ca,OH,OI,OJ,IG⟩
           ·
            have r8:xs=[]:=List.eq_nil_of_length_eq_zero Ω;have MO:H=[]:=List.eq_nil_of_length_eq_zero (by rw[xA,r8];simp);subst r8;subst MO;refine DO ?_;obtain⟨v',w',f1,f2,f3,_⟩:=run_append_own (P:=P) w w.heap.size t type gF r z r.size r.bytes jC al dj rfl rfl xD (by rw[B];exact gh) (.slice none 0 0) 0 [] (World.ownsRow_nil w _ _ _)
             ⟨S,oD,none⟩ ys.length W s (by rw[kl,B]) s5 (zP V) (by simpa using nH) (by simpa using sQ) (dL _)
            exact⟨v',w',by rw[oE];exact f1,by simpa using f2,by simpa[pj]using f3⟩
           ·have mu:yh.ownBlock=some bl:=by rw[oE];rfl
            by_cases s7:xs.length+ys.length<=cap
            ·have hmul:(xs.length+ys.length)*g.size<=cap*g.size:=rG _ s7;rw[qT]at hmul;have f1:=run_append_room (P:=P) w t type gF r jC al bl xs.length cap cur Ca ⟨S,oD,none⟩ ys.length W s (by rw[kl,B]) s5 (zP V) s7 (by rw[kl,B];omega);generalize Wh:(cur.toList.take (xs.length*r.size)++s++cur.toList.drop (xs.length*r.size+s.length)).toArray=uY at f1;have jV:(w.setRow bl uY).heap[bl]? =some (.cells uY gF (0,0)):=setRow_heap w bl cur uY gF _ Ca;have av:(H++s).length=(xs++ys).length*g.size:=by rw[p6,xA,kl,p6,qT]
             have bM:cur.toList.take (xs.length*r.size)=H:=by rw[kP,B];exact IG
             have lf:uY.size=cap*g.size:=by rw[<-Wh];simp only[List.size_toArray,p6,List.length_take,tS,Array.length_toList];rw[B];omega
             have qt:uY.toList.take ((xs++ys).length*g.size)=H++s:=by rw[<-Wh,bM];simp only[<-av];rw[List.take_append_of_le_length (dL _),jv]
             obtain⟨cY,_,dF⟩:=l.setRowM (w':=w.setRow bl uY) ab rfl Y mu (v':= .slice (some ⟨bl,0,none⟩) (xs.length+ys.length) cap) rfl (xs':=xs++ys) (us:=H++s) (.inr d6) rfl rfl rfl (fun j L=>setRow_other w bl j uY L) (setRow_size w bl uY)
              ⟨av,.inr ⟨bl,cap,uY,Ψ,Nat.zero_le _,jV,by simpa using s7,OI,lf,qt⟩⟩ Hd
             replace dF:=dF (by simpa using aw);refine nu (v:= .slice (some ⟨bl,0,none⟩) (xs.length+ys.length) cap) (w':=w.setRow bl uY) (nG _ _ ?_) (M _ _ (ν.withOwn k (xs++ys).length (.slice (some ⟨bl,0,none⟩) (xs.length+ys.length) cap)) ?_)
             ·rw[oE,<-kP];exact f1
             ·have:=cY.put (d:=some d) (by simpa[j4]using U) dF;simpa[e3]using this
            ·refine DO ?_;obtain⟨v',w',f1,f2,f3⟩:=run_append_arg_grows (P:=P) w t type gF r z r.size r.bytes jC al dj rfl rfl xD (by rw[B];exact gh) ⟨bl,0,none⟩ xs.length cap H (by rw[xA,B])
              (fun j u L=>by have:=bB.cells mu j u L;exact this) ⟨S,oD,none⟩ ys.length W s (by rw[kl,B]) s5 Ω nH sQ
             exact⟨v',w',by rw[oE,<-kP];exact f1,f2,f3⟩
        ·cases F
       ·cases F
      ·cases F
     ·cases F
    ·cases he
   ·cases bM
  ·cases E
 ·rename_i sz x y t o' X;simp only[cP,ey]at ar;obtain⟨⟨⟨J,U⟩,A⟩,E⟩:=ar;subst J;split at U
  ·rename_i f R;simp only[ey]at U;simp only[fc]at he;generalize MB:cD st.t x=px at he;unfold sk at he;split at he
   ·rename_i ed k n i uq;split at he
    ·rename_i n' el jZ xs ab;split at he
     ·rename_i DY;obtain⟨rfl,rfl⟩:=DY;split at he
      ·rename_i q bP;cases he;obtain⟨jn,Z,cn,dh,h3⟩:=aw;have rx:=e1 l A;rw[MB]at rx;have N:=e1 l E;have wz:=wC N Z;have wD:=qI wz;obtain⟨_,ej⟩:=wI aM R w;have vZ:(a.eval X).cells.size=sz:=by rw[cn]at wD;simpa using wD
       obtain⟨bl,off,nB,D0,du,bm,pP⟩:=l.storeRow (P:=P) ab rx bP jn wz (by simpa[vZ]using dh) (fun e=>by have:=ff List.length e;simp[vZ]at this;omega);refine JR (w':=w.setRow bl nB) ?_ (M _ _ _ pP);simp only[execOp,Instr.storeAt,D0,Instr.sureAddr,storeVar,gr,hy,gy,ej,vZ,U,ne_eq,not_true_eq_false,if_false,du]
      ·cases he
     ·cases he
    ·cases he
   ·cases he
  ·cases U
 ·rename_i d key sz el z x t o' X;simp only[cP,ey,gu]at ar;obtain⟨⟨⟨⟨⟨J,U⟩,A⟩,E⟩,bM⟩,de⟩:=ar;subst J;split at A
  ·rename_i gF R;simp only[ey]at A;subst A;split at E
   ·rename_i g be;simp only[cP,ey,gu]at E;obtain⟨⟨⟨rfl,gh⟩,hby⟩,bC⟩:=E;obtain rfl:=Qs bC;have rx:=e1 l bM;have N:=e1 l de;simp only[fc]at he;split at he
    ·rename_i gi n O;cases he;obtain⟨hU,kl⟩:=aw;obtain⟨m,rfl⟩:=Int.eq_ofNat_of_zero_le hU;rw[O]at rx N;simp only[aU]at rx N;obtain⟨r,cq,b9,al,aC,B,b2,dI,dj,sC,sD⟩:=(wJ aM be).ex;obtain⟨eh,jC,gg⟩:=ji aM R;obtain rfl:=sB gg;have nH:m<=lim:=by simp only[lim]at kl⊢;omega
     have sQ:r.bytes*m<=281474976710656:=by have J:r.bytes*m<=2048*m:=rG _ Ω;simp only[lim]at nH;omega
     obtain⟨aj2,ai3⟩:=Qr w ν sC;obtain⟨w',g1,g2,g3⟩:=run_make_full (P:=P) w w.heap.size t el r b9 r.size jC al dj rfl gi gi m sQ (by simp only[maxLen];simp only[lim]at nH;omega) (dL _);have mq:w'.ownsRow w.heap.size el g.size (.slice (some ⟨w.heap.size,0,none⟩) m m) (List.replicate m g.zero).length (madeCells b9.cells (m*b9.cells.size)).toList:=by rw[B,<-sD]at g2;rw[List.length_replicate,<-sD];exact g2
     obtain⟨Y,eG⟩:=l.newRowM (k:=κ) (xs:=List.replicate m g.zero) (.inl (l.new _ (vP rfl))) g3 mq (by rw[<-sD];exact XF aj2 Ω (Cm ai3) m) (by simpa using nH) (dy rfl);simp only[List.length_replicate]at Y eG;simp only[Int.toNat_natCast]at M;refine nu (v:= .slice (some ⟨w.heap.size,0,none⟩) m m) (w':=w') ?_ (M _ _ _ (Y.put (d:=some d) (by simpa[j4]using U) (p:= .row g.size κ m) (eG ⟨_,_,rfl⟩)));simp only[execOp];refine FD ?_;rw[rx,N];exact g1
    ·cases he
   ·cases E
  ·cases A
 ·cases ar
def apO{P:cG}{aS:List (Nat×eu)}(e:hW P aS=true){C:fh}{st st':bo}{a:Act}{w:World}{ν:a8}(f:c5 C st a w ν){i:eT}{o:Oper}(ar:Fh C.N aS i o=true)
  {c:Prop} (he:np st i=some (c,st')) (aw:c) {K:Act->World->Prop} {Q:Exit->Act->World->Prop} (b:∀bs w' bm,c5 C st' bs w' bm->K bs w'):o.wp P a w K Q:=by
 have p:re st none->fresh st.n st.o (.loc st.n):=fun h=>xP (key:=none) h;have q:∀j,fresh (st.n+1) st.o j->fresh st.n st.o j/\j≠ .loc st.n:=xQ (key:=none);cases i with
 |v d i=>exact ks (κ:= .loc 0) (n':=0) (o₁:=[]) e f ar (fun h=>by simp[eT.makes]at h) (fun h=>by simp[eT.makes]at h) (by simpa only[np,fc]using he) aw b
 |box d key x=>simp only[np]at he;cases he;exact ks (κ:=kq st key) (n':=oB st key) (o₁:=oC st key) e f ar (fun _=>xP aw.1) (fun _=>xQ) (by simp only[fc]) aw.2 b
 |alloc d key z=>simp only[np]at he;cases he;exact ks (κ:=kq st key) (n':=oB st key) (o₁:=oC st key) e f ar (fun _=>xP aw) (fun _=>xQ) (by simp only[fc]) trivial b
 |mks d key sz el z x=>
  simp only[np]at he;split at he
  ·rename_i gi n g;cases he;exact ks (κ:=kq st key) (n':=oB st key) (o₁:=oC st key) e f ar (fun _=>xP aw.1) (fun _=>xQ) (by simp only[fc,g]) aw.2 b
  ·cases he
 |storeE sz x y=>exact ks (κ:= .loc 0) (n':=0) (o₁:=[]) e f ar (fun h=>by simp[eT.makes]at h) (fun h=>by simp[eT.makes]at h) (by simpa only[np,fc]using he) aw b
 |store sz x y=>exact ks (κ:= .loc 0) (n':=0) (o₁:=[]) e f ar (fun h=>by simp[eT.makes]at h) (fun h=>by simp[eT.makes]at h) (by simpa only[np,fc]using he) aw b
 |bsl d sz el xs=>simp only[np]at he;cases he;exact ks (κ:= .loc st.n) (n':=st.n+1) (o₁:=st.o) e f ar (fun _=>p aw.1) (fun _=>q) (by simp only[fc]) aw.2 b
 |bslm d key sz el xs=>simp only[np]at he;cases he;exact ks (κ:=kq st key) (n':=oB st key) (o₁:=oC st key) e f ar (fun _=>xP aw.1) (fun _=>xQ) (by simp only[fc]) aw.2 b
 |appm d key sz el x y=>
  simp only[np]at he;split at he
  ·rename_i ys l;cases he;exact ks (κ:=kq st key) (n':=oB st key) (o₁:=oC st key) e f ar (fun _=>xP aw.1) (fun _=>xQ) (by simp only[fc,l]) aw.2 b
  ·rename_i k xs ys l;cases he;refine ks (κ:= .loc 0) (n':=0) (o₁:=[]) e f ar (fun h=>?_) (fun h=>?_) (by simp only[fc,l]) aw b;all_goals
    exfalso
    simp only[eT.makes]at h
    split at h
    ·rename_i g
     unfold uc at l
     rw[g]at l
     split at l
     ·split at l<;>cases l
     ·rename_i J _;cases J
     ·cases l
    ·cases h
  ·cases he
 |mkmap d key=>simp only[np]at he;cases he;exact ks (κ:=kq st key) (n':=oB st key) (o₁:=oC st key) e f ar (fun _=>xP aw) (fun _=>xQ) (by simp only[fc]) trivial b
 |mput F x k v=>exact ks (κ:= .loc 0) (n':=0) (o₁:=[]) e f ar (fun h=>by simp[eT.makes]at h) (fun h=>by simp[eT.makes]at h) (by simpa only[np,fc]using he) aw b
 |range d key x=>
  simp only[np]at he;split at he
  ·rename_i m g;split at he
   ·rename_i cs t;split at he
    ·rename_i cs' hm;cases he;exact ks (κ:=kq st key) (n':=oB st key) (o₁:=oC st key) e f ar (fun _=>xP aw) (fun _=>xQ) (by simp only[fc,g,t,hm]) trivial b
    ·cases he
   ·cases he
  ·cases he
 |app d sz el x y=>
  simp only[np]at he;split at he
  ·rename_i E tag xs B A ys g s;split at he
   ·rename_i r;split at he
    ·rename_i k;split at he
     ·rename_i ow u;cases he;refine ks (κ:= .loc 0) (n':=0) (o₁:=[]) e f ar (fun h=>by simp[eT.makes,g]at h) (fun h=>by simp[eT.makes,g]at h) ?_ aw b;simp only[fc,g,s,r,and_self,if_true,u]
     ·cases he
    ·cases he;refine ks (κ:= .loc st.n) (n':=st.n+1) (o₁:=st.o) e f ar (fun _=>p aw.1) (fun _=>q) ?_ aw.2 b;simp only[fc,g,s,r,and_self,if_true]
    ·cases he
   ·cases he
  ·cases he
structure cQ where
 b:List (aA×List af)
 e:List (aA×dT)
def fB(ν:a8)(s:cQ)(bl:Nat):Prop:=(∃k,(ad k s.b).isSome/\ν.bx k=some bl)\/(∃g n v,(ad g s.e).isSome/\ν.ow g=some (n,v)/\v.ownBlock=some bl)
def pH(ν:a8)(s:cQ):Prop:= ∀k,(ad k s.b=none->ν.bx k=none)/\(ad k s.e=none->ν.ow k=none)/\∀j b,¬ν.tr k j b
def cI(s:cQ):List aA:=s.b.map (·.1)++s.e.map (·.1)
def hV(s:cQ):Prop:=(∀m,ad (.loc m) s.b=none)/\(∀m,ad (.loc m) s.e=none)
def yn(P:cG)(f:FuncId)(bk:Array Value)(w:World)(R:Ending->World->Prop):Prop:=((∃fn,P.funcs[f]? =some fn/\fn.body.isSome=true/\(fn.name== "runtime.NumGoroutine")=false)/\Calls P f bk w R)\/ ∃v w',(callFunc f bk).run P w= .ok (.value v) w'/\R (.returned v) w'
def bD(P:cG)(f:FuncId)(args:List af)(s:cQ)(Q:af->cQ->Prop):Prop:=
 ∀(w:World) (ν:a8) (bk:Array Value),Good (fB ν s) w ν s.b s.e->pH ν s->c1 w ν args bk.toList->
  yn P f bk w fun e w'=> ∃v r a bm,e= .returned v/\Q r a/\aU w' bm r v/\Good (fun bl=>fB ν s bl\/w.heap.size<=bl) w' bm a.b a.e/\pH bm a/\hV a/\pq ⟨w,ν,fB ν s,0,cI s⟩ w' bm
def AN(κ:bc Nat)(ν:a8)(s:cQ):Prop:= ∀k,(ad k s.b=none->ν.bx k=none)/\(ad k s.e=none->ν.ow k=none)/\∀j b,ν.tr k j b->∃m,κ=some m/\k= .loc m
def pH.k{ν:a8}{s:cQ}(h:pH ν s):AN none ν s:=fun k=>⟨(h k).1,(h k).2.1,fun j b a=>absurd a ((h k).2.2 j b)⟩
def tU(P:cG)(f:FuncId)(κ:Nat)(args:List af)(s:cQ)(Q:af->cQ->Prop):Prop:=
 ∀(w:World) (ν:a8) (bk:Array Value),Good (fB ν s) w ν s.b s.e->pH ν s->c1 w ν args bk.toList->
  yn P f bk w fun e w'=> ∃v r a bm,e= .returned v/\Q r a/\aU w' bm r v/\Good (fun bl=>fB ν s bl\/w.heap.size<=bl) w' bm a.b a.e/\AN (some κ) bm a/\hV a/\pq ⟨w,ν,fB ν s,0,cI s⟩ w' bm
def bX(P:cG)(f:FuncId)(args:List af)(r:af):Prop:=bD P f args ⟨[],[]⟩ fun a b=>a=r/\b=⟨[],[]⟩
def uQ{α:Type}{k:aA}{x:α}:∀{l:List (aA×α)},ad k l=some x->(k,x)∈l
 |[],h=>by simp[ad]at h
 |(i,y)::r,h=>by
  simp only[ad]at h;split at h
  ·rename_i e;subst e;cases h;simp
  ·exact qR _ (uQ h)
def rl{s:cQ}{k:aA}(h:(ad k s.b).isSome\/(ad k s.e).isSome):k∈cI s:=by
 unfold cI;rcases h with h|h<;>obtain⟨x,a⟩:=fA.1 h<;>have:=uQ a
 ·exact List.mem_append_left _ (hz.2 ⟨_,this,rfl⟩)
 ·exact List.mem_append_right _ (hz.2 ⟨_,this,rfl⟩)
section
open Classical
noncomputable def a8.cut(ν:a8)(S:aA->Prop):a8:={A:=ν.A,bx:=fun k=>if S k then ν.bx k else none,ow:=fun k=>if S k then ν.ow k else none,tr:=fun k j b=>S k/\ν.tr k j b}
def a8.cut_bx{ν:a8}{S:aA->Prop}{k:aA}(h:S k):(ν.cut S).bx k=ν.bx k:=by simp[a8.cut,h]
def a8.cut_ow{ν:a8}{S:aA->Prop}{k:aA}(h:S k):(ν.cut S).ow k=ν.ow k:=by simp[a8.cut,h]
def a8.cut_no{ν:a8}{S:aA->Prop}{k:aA}(h:¬S k):(ν.cut S).bx k=none/\(ν.cut S).ow k=none/\∀j b,¬(ν.cut S).tr k j b:=by simp[a8.cut,h]
def a8.cut_some{ν:a8}{S:aA->Prop}{k:aA}{b:Nat}(h:(ν.cut S).bx k=some b):S k/\ν.bx k=some b:=by
 by_cases a:S k
 ·exact⟨a,by rw[a8.cut_bx a]at h;exact h⟩
 ·rw[(a8.cut_no a).1]at h;cases h
def a8.cut_someO{ν:a8}{S:aA->Prop}{k:aA}{b:Nat×Value}(h:(ν.cut S).ow k=some b):S k/\ν.ow k=some b:=by
 by_cases a:S k
 ·exact⟨a,by rw[a8.cut_ow a]at h;exact h⟩
 ·rw[(a8.cut_no a).2.1]at h;cases h
def oN.cut(S:aA->Prop)(w:World)(ν:a8):oN S w ν w (ν.cut S):=⟨fun _ _ h=>⟨h,rfl⟩,fun k b a h=>by rw[a8.cut_bx a];exact h,fun g n u be h=>⟨n,u,by rw[a8.cut_ow be];exact h,.inl ⟨rfl,rfl⟩⟩,fun _ _ _=>rfl,fun _ _ _ a h=>⟨a,h⟩⟩
end
def hx(S:aA->Prop)(b7 b:List (aA×List af)):Prop:= ∀k cs,ad k b7=some cs->ad k b=some cs/\S k/\aH S cs
def p2(S:aA->Prop)(a e:List (aA×dT)):Prop:= ∀k o,ad k a=some o->ad k e=some o/\S k/\dU S o
def Good.cut{pr F:Nat->Prop}{w:World}{ν:a8}{b b7:List (aA×List af)}{e m:List (aA×dT)}(h:Good pr w ν b e){S:aA->Prop}(B:hx S b7 b)(he:p2 S m e)
  (E:∀bl,pr bl->(∃k,(ad k b7).isSome/\(ν.cut S).bx k=some bl)\/(∃g n v,(ad g m).isSome/\(ν.cut S).ow g=some (n,v)/\v.ownBlock=some bl)->F bl):Good F w (ν.cut S) b7 m:=by
 have l:∀k,(ad k b7).isSome->(ad k b).isSome/\S k:=fun k c=>by obtain⟨cs,s⟩:=fA.1 c;have:=B k cs s;exact⟨by simp[this.1],this.2.1⟩
 have q:∀k,(ad k m).isSome->(ad k e).isSome/\S k:=fun k c=>by obtain⟨cs,s⟩:=fA.1 c;have:=he k cs s;exact⟨by simp[this.1],this.2.1⟩
 refine⟨h.alt,fun k cs c=>?_,fun k bt bl J U f i=>?_,fun g o be=>?_,fun g z n n' v v' bl J U f i t G=>?_,fun g k n v bl J U f i t=>?_,fun k=>?_,fun bl K k j H=>?_⟩
 ·obtain⟨g1,g2,g3⟩:=B k cs c;obtain⟨bl,us,el,f1,f2,f3,f4,f5⟩:=h.box k cs g1;have y:(ν.cut S).bx k=some bl:=by rw[a8.cut_bx g2];exact f1
  exact⟨bl,us,el,y,E bl f2 (.inl ⟨k,by simp[c],y⟩),f3,f4,Pf (oN.cut S w ν) g3 f5⟩
 ·obtain⟨a,a2⟩:=l k J;obtain⟨d,A⟩:=l bt U;exact h.inj k bt bl a d (a8.cut_some f).2 (a8.cut_some i).2
 ·obtain⟨g1,g2,g3⟩:=he g o be;obtain⟨v,us,f1,f2,f3,f4⟩:=h.own g o g1;have x:(ν.cut S).ow g=some (o.n,v):=by rw[a8.cut_ow g2];exact f1
  exact⟨v,us,x,f2,fun bl r=>⟨E bl (f3 bl r).1 (.inr ⟨g,o.n,v,by simp[be],x,r⟩),(f3 bl r).2⟩,
   fun xs p=>⟨(f4 xs p).1,I7 (oN.cut S w ν) _ _ _ (g3 xs p) (f4 xs p).2.1,(f4 xs p).2.2⟩⟩
 ·obtain⟨a,a2⟩:=q g J;obtain⟨d,A⟩:=q z U;exact h.oinj g z n n' v v' bl a d (a8.cut_someO f).2 (a8.cut_someO i).2 t G
 ·obtain⟨a,a2⟩:=q g J;obtain⟨d,A⟩:=l k U;exact h.obx g k n v bl a d (a8.cut_someO f).2 i (a8.cut_some t).2
 ·by_cases u:S k
  ·rw[a8.cut_bx u,a8.cut_ow u];exact h.one k
  ·exact .inl (a8.cut_no u).1
 ·refine h.otr bl ?_ k j H.2;rcases K with⟨bt,a,a2⟩|⟨g,n,v,a,a2,a3⟩
  ·exact .inl ⟨bt,(l bt a).1,(a8.cut_some a2).2⟩
  ·exact .inr ⟨g,n,v,(q g a).1,(a8.cut_someO a2).2,a3⟩
structure gk (ob:List aA) (st st':bo):Prop where
 t:∀x∈st'.t,get x.1 st.t=x.2/\az (fun k=> ¬fresh st'.n st'.o k) x.2
 b:hx (fun k=> ¬fresh st'.n st'.o k) st'.b st.b
 e:p2 (fun k=> ¬fresh st'.n st'.o k) st'.e st.e
 o:∀m∈ob,m∈st'.o
def U6:∀(i:Nat) (l:List (Nat×af)),get i l= .junk\/(i,get i l)∈l
 |_,[]=>.inl rfl
 |i,(j,p)::r=>by
  by_cases h:j=i
  ·subst h;right;simp[get]
  ·rcases U6 i r with J|J
   ·left;simp[get,h,J]
   ·right;simp[get,h];right;exact J
def c5.weaker{C:fh}{st st':bo}{a:Act}{w:World}{ν:a8}(h:c5 C st a w ν)(hw:gk C.ob st st'):c5 C st' a w (ν.cut fun k=> ¬fresh st'.n st'.o k):=by
 refine⟨h.good.cut hw.b hw.e (fun bl e _=>e),⟨h.fr.os,h.fr.tape,h.fr.output,h.fr.size,h.fr.block,h.fr.keep,h.fr.fresh,fun n b c=>?_,h.fr.obn,fun m n u hm=>?_,h.fr.obr,fun k j bt dg b J U=>h.fr.trd k j bt dg b J.2 U.2,fun k j b c=>h.fr.trb k j b c.2,fun k j b c=>?_,h.fr.sh⟩,h.defers,h.size,fun i=>?_,fun k g=>a8.cut_no (fun l=>l g)⟩
 ·rw[a8.cut_bx (fun d=>d.2 (hw.o _ (h.fr.obn n b c)))];exact h.fr.obj n b c
 ·rw[a8.cut_ow (fun d=>d.2 (hw.o _ (h.fr.obr m n u hm)))];exact h.fr.row m n u hm
 ·rw[a8.cut_bx c.1,a8.cut_ow c.1];exact h.fr.trn k j b c.2
 ·rcases U6 i st'.t with f|hm
  ·rw[f];simp[aU]
  ·obtain⟨J,U⟩:=hw.t _ hm;simp only at J;have:=h.slot i;rw[J]at this;exact u2 (oN.cut _ w ν) _ _ U this
mutual
def b5:af->af
 | .slice sz _ xs=>.slice sz .no (cf xs)
 | .agg cs=>.agg (cf cs)
 | .tuple bk=>.tuple (cf bk)
 | .eptr x=>.eptr (b5 x)
 | .iface t x=>.iface t (b5 x)
 | .func f dE=>.func f (cf dE)
 |p=>p
def cf:List af->List af
 |[]=>[]
 |x::xs=>b5 x::cf xs
end
def nt:∀xs,(cf xs).length=xs.length
 |[]=>rfl
 |x::xs=>by simp[cf,nt xs]
mutual
def G0{t:Bool}{w:World}{A:Nat->Nat->Prop}:∀(p:af) (F:Nat->Prop) (v:Value),cX t w A F p v->cX t w A F (b5 p) v
 | .int _ _,_,_,h=>by simpa only[b5]using h
 | .bool _,_,_,h=>by simpa only[b5]using h
 | .str _,_,_,h=>by simpa only[b5]using h
 | .slice sz tag xs,F,v,h=>by
  simp only[cX,b5]at h⊢;obtain⟨a,cap,J,U,g,j⟩:=h;refine⟨a,cap,by rw[nt];exact J,by rw[nt];exact U,by rw[nt];exact g,?_⟩;rcases j with rfl|⟨b,off,us,G,i,k,e,f,d,c⟩
  ·exact .inl rfl
  ·exact .inr ⟨b,off,us,G,i,k,e,f,d,UN sz xs G us c⟩
 | .agg cs,F,v,h=>by simp only[cX,b5]at h⊢;obtain⟨us,J,U⟩:=h;exact⟨us,J,UO cs F _ U⟩
 | .junk,_,_,h=>by simp[cX]at h
 | .ptr _ _,_,_,h=>by simp[cX]at h
 | .eptr _,_,_,h=>by simp[cX]at h
 | .iface _ _,_,_,h=>by simp[cX]at h
 | .nilp,_,_,h=>by simp[cX]at h
 | .tuple _,_,_,h=>by simp[cX]at h
 | .func _ _,_,_,h=>by simp[cX]at h
 | .gmap _,_,_,h=>by simp[cX]at h
 | .row _ _ _,_,_,h=>by simp[cX]at h
 | .rptr _ _ _ _ _,_,_,h=>by simp[cX]at h
 | .hdm _ _,_,_,h=>by simp[cX]at h
 | .hdi _ _ _,_,_,h=>by simp[cX]at h
 | .cst _,_,_,h=>by simp[cX]at h
def UO{t:Bool}{w:World}{A:Nat->Nat->Prop}:∀(cs:List af) (F:Nat->Prop) (us:List Value),ky t w A F cs us->ky t w A F (cf cs) us
 |[],_,_,h=>by simpa only[cf]using h
 |c::cs,F,us,h=>by simp only[ky,cf]at h⊢;obtain⟨u,d,b,a,J,U,⟨g,e⟩,f⟩:=h;exact⟨u,d,b,a,J,U,⟨G0 c b u g,e⟩,UO cs a d f⟩
def UN{t:Bool}{w:World}{A:Nat->Nat->Prop}(sz:Nat):∀(cs:List af) (F:Nat->Prop) (us:List Value),jU t w A F sz cs us->jU t w A F sz (cf cs) us
 |[],_,_,h=>by simpa only[cf]using h
 |c::cs,F,us,h=>by simp only[jU,cf]at h⊢;obtain⟨u,d,b,a,J,U,⟨g,e⟩,f⟩:=h;exact⟨u,d,b,a,J,U,⟨G0 c b u g,e⟩,UN sz cs a d f⟩
end
def Dt{t:Bool}{w:World}{A:Nat->Nat->Prop}{F:Nat->Prop}{sz:Nat}{tag:jS}(a:jS){xs:List af}(v:Value)(h:cX t w A F (.slice sz tag xs) v):cX t w A F (.slice sz a (cf xs)) v:=by have:=G0 _ F v h;simp only[b5,cX]at this⊢;exact this
mutual
def x4{w:World}{ν:a8}:∀(p:af) (v:Value),aU w ν p v->aU w ν (b5 p) v
 | .junk,_,h=>by simpa only[b5]using h
 | .int k n,_,h=>by simpa only[b5]using h
 | .bool b,_,h=>by simpa only[b5]using h
 | .str s,_,h=>by simpa only[b5]using h
 | .slice sz tag xs,v,h=>by
  simp only[aU,b5]at h⊢;obtain⟨⟨a,cap,J,U,c,d⟩,l,i⟩:=h;refine⟨⟨a,cap,by rw[nt];exact J,by rw[nt];exact U,by rw[nt];exact c,?_⟩,fun e=>(by cases e),fun g e=>(by cases e),fun _ _ e=>(by cases e),fun _ e=>(by cases e)⟩;rcases d with rfl|⟨b,off,us,d,i,j⟩
  ·exact .inl rfl
  ·exact .inr ⟨b,off,us,d,i,aaj sz xs us j⟩
 | .agg cs,v,h=>by simp only[aU,b5]at h⊢;obtain⟨us,J,U⟩:=h;exact⟨us,J,aan cs _ U⟩
 | .ptr key off,v,h=>by simpa only[b5]using h
 | .iface t x,v,h=>by simp only[aU,b5]at h⊢;obtain⟨u,J,U⟩:=h;exact⟨u,J,x4 x u U⟩
 | .eptr x,v,h=>by simp only[aU,b5]at h⊢;obtain⟨b,off,u,J,U,c⟩:=h;exact⟨b,off,u,J,x4 x u U,c⟩
 | .nilp,_,h=>by simpa only[b5]using h
 | .tuple bk,v,h=>by simp only[aU,b5]at h⊢;obtain⟨us,J,U⟩:=h;exact⟨us,J,Jc bk _ U⟩
 | .func f dE,v,h=>by simp only[aU,b5]at h⊢;obtain⟨us,J,U⟩:=h;exact⟨us,J,Jc dE _ U⟩
 | .gmap key,v,h=>by simpa only[b5]using h
 | .row _ _ _,v,h=>by simpa only[b5]using h
 | .rptr _ _ _ _ _,v,h=>by simpa only[b5]using h
 | .cst _,v,h=>by simpa only[b5]using h
def aan{w:World}{ν:a8}:∀(cs:List af) (us:List Value),cU w ν cs us->cU w ν (cf cs) us
 |[],_,h=>by simpa only[cf]using h
 |c::cs,us,h=>by simp only[cU,cf]at h⊢;obtain⟨u,a,J,U,b⟩:=h;exact⟨u,a,J,⟨x4 c u U.1,U.2⟩,aan cs a b⟩
def Jc{w:World}{ν:a8}:∀(cs:List af) (us:List Value),c1 w ν cs us->c1 w ν (cf cs) us
 |[],_,h=>by simpa only[cf]using h
 |c::cs,us,h=>by simp only[c1,cf]at h⊢;obtain⟨u,a,J,U,b⟩:=h;exact⟨u,a,J,x4 c u U,Jc cs a b⟩
def aaj{w:World}{ν:a8}(sz:Nat):∀(xs:List af) (us:List Value),dt w ν sz xs us->dt w ν sz (cf xs) us
 |[],_,h=>by simpa only[cf]using h
 |x::xs,us,h=>by simp only[dt,cf]at h⊢;obtain⟨u,a,J,⟨U,c,d⟩,b⟩:=h;exact⟨u,a,J,⟨x4 x u U,c,d⟩,aaj sz xs a b⟩
end
def aK(s:cQ)(k:aA):Prop:=(ad k s.b).isSome=true\/(ad k s.e).isSome=true
def cJ{α β:Type}(s:List (aA×β)):List (aA×α)->List (aA×α)
 |[]=>[]
 |(k,x)::r=>match ad k s with
  |some _=>cJ s r
  |none=>(k,x)::cJ s r
def tp{α β:Type}(s:List (aA×β))(k:aA):∀l:List (aA×α),ad k (cJ s l)=if(ad k s).isSome then none else ad k l
 |[]=>by simp[cJ,ad]
 |(i,x)::r=>by
  simp only[cJ];by_cases e:i=k
  ·subst e;cases h:ad i s with
   |some y=>simp[tp s i r,h]
   |none=>simp[ad]
  ·cases h:ad i s with
   |some y=>simp[tp s k r,ad,e]
   |none=>simp[ad,e,tp s k r]
def nS{α:Type}(k:aA):∀l a:List (aA×α),ad k (l++a)=match ad k l with|some x=>some x|none=>ad k a
 |[],a=>by simp[ad]
 |(i,x)::r,a=>by
  by_cases e:i=k
  ·simp[ad,e]
  ·simp[ad,e,nS k r a]
def after(st:bo)(s a:cQ)(d:bc Nat)(r:af):bo:={t:=e3 d r st.t,b:=cJ s.b st.b++a.b,e:=cJ s.e st.e++a.e,n:=st.n,o:=st.o++cI a}
section
open Classical
noncomputable def a8.join(ν bm:a8)(s a:cQ):a8:={A:=bm.A,bx:=fun k=>if(ad k s.b).isSome\/(ad k a.b).isSome then bm.bx k else ν.bx k,ow:=fun k=>if(ad k s.e).isSome\/(ad k a.e).isSome then bm.ow k else ν.ow k,tr:=fun k j b=>ν.tr k j b\/bm.tr k j b}
end
def c5.callK{C:fh}{st:bo}{a:Act}{w w':World}{ν bm:a8}(h:c5 C st a w ν){s f:cQ}(E:hx (aK s) s.b st.b)(he:p2 (aK s) s.e st.e)(q6:hV s)
  (be:Good (fun bl=>fB (ν.cut (aK s)) s bl\/w.heap.size<=bl) w' bm f.b f.e) {κ:bc Nat} (Y:AN κ bm f) (akq:∀m,κ=some m->ν.bx (.loc m)=none/\ν.ow (.loc m)=none/\∀j b,¬ν.tr (.loc m) j b) {n':Nat} {o':List aA} (dy:∀k,fresh n' o' k->fresh st.n (st.o++cI f) k/\∀m,κ=some m->k≠ .loc m) (Q:hV f) (F:pq ⟨w,ν.cut (aK s),fB (ν.cut (aK s)) s,0,cI s⟩ w' bm)
  (Mt:∀m,(ad (.obj m) f.b).isSome->(ad (.obj m) s.b).isSome\/ .obj m∉st.o) (cr:∀m,(ad (.obj m) f.e).isSome->(ad (.obj m) s.e).isSome\/ .obj m∉st.o) (d:bc Nat) (aJ:j4 C.N d=true) {r:af} {v:Value} (aI:aU w' bm r v):
  c5 C {after st s f d r with n:=n',o:=o'} (a.put d v) w' (ν.join bm s f):=by
 have V:∀k,(ad k s.b).isSome->(ad k st.b).isSome:=fun k c=>by obtain⟨cs,y⟩:=fA.1 c;simp[(E k cs y).1]
 have W:∀k,(ad k s.e).isSome->(ad k st.e).isSome:=fun k c=>by obtain⟨cs,y⟩:=fA.1 c;simp[(he k cs y).1]
 have ajM:∀k,(ad k f.b).isSome->¬(ad k s.b).isSome->ν.bx k=none:=fun k c aB=>by
  cases k with
  |loc m=>rw[Q.1 m]at c;cases c
  |obj m=>exact(h.new (.obj m) ⟨trivial,(Mt m c).resolve_left aB⟩).1
 have ajN:∀k,(ad k f.e).isSome->¬(ad k s.e).isSome->ν.ow k=none:=fun k c aB=>by
  cases k with
  |loc m=>rw[Q.2 m]at c;cases c
  |obj m=>exact(h.new (.obj m) ⟨trivial,(cr m c).resolve_left aB⟩).2.1
 have akU:∀k,(ad k s.b).isSome->(ν.join bm s f).bx k=bm.bx k:=fun k c=>by simp[a8.join,c]
 have WD:∀k,(ad k f.b).isSome->(ν.join bm s f).bx k=bm.bx k:=fun k c=>by simp[a8.join,c]
 have WE:∀k,ν.bx k≠none->¬(ad k s.b).isSome->(ν.join bm s f).bx k=ν.bx k:=fun k J U=>by have z:¬(ad k f.b).isSome:=fun z=>J (ajM k z U);simp[a8.join,U,z]
 have akV:∀k,(ad k s.e).isSome->(ν.join bm s f).ow k=bm.ow k:=fun k c=>by simp[a8.join,c]
 have Na:∀k,(ad k f.e).isSome->(ν.join bm s f).ow k=bm.ow k:=fun k c=>by simp[a8.join,c]
 have Nb:∀k,ν.ow k≠none->¬(ad k s.e).isSome->(ν.join bm s f).ow k=ν.ow k:=fun k J U=>by have z:¬(ad k f.e).isSome:=fun z=>J (ajN k z U);simp[a8.join,U,z]
 have acg:∀k b,bm.bx k=some b->(ad k f.b).isSome:=fun k b c=>by
  cases S:ad k f.b with
  |some _=>rfl
  |none=>rw[(Y k).1 S]at c;cases c
 have ach:∀k b,bm.ow k=some b->(ad k f.e).isSome:=fun k b c=>by
  cases S:ad k f.e with
  |some _=>rfl
  |none=>rw[(Y k).2.1 S]at c;cases c
 have ar:mf w ν w' (ν.join bm s f):=by
  refine⟨fun b o N=>F.keep b o N,fun k b _ c=>?_,fun g n u _ be=>?_,fun b o N=>F.sh b o N,fun _ _ _ _ h=>.inl h⟩
  ·by_cases B:(ad k s.b).isSome
   ·rw[akU k B];cases k with
    |loc m=>rw[q6.1 m]at B;cases B
    |obj m=>exact F.obj m b (by rw[a8.cut_bx (.inl B)];exact c)
   ·rw[WE k (by rw[c];simp) B];exact c
  ·by_cases B:(ad g s.e).isSome
   ·rw[akV g B];cases g with
    |loc m=>rw[q6.2 m]at B;cases B
    |obj m=>exact F.row m n u (by rw[a8.cut_ow (.inr B)];exact be)
   ·rw[Nb g (by rw[be];simp) B];exact⟨n,u,be,.inl ⟨rfl,rfl⟩⟩
 have h5:mf w' bm w' (ν.join bm s f):=⟨fun b o N=>⟨N,rfl⟩,fun k b _ c=>by rw[WD k (acg k b c)];exact c,fun g n u _ c=>⟨n,u,by rw[Na g (ach g _ c)];exact c,.inl ⟨rfl,rfl⟩⟩,fun _ _ _=>rfl,fun _ _ _ _ h=>.inr h⟩
 have pL:∀bl,fB (ν.cut (aK s)) s bl->C.pr bl/\bl<w.heap.size:=by
  intro bl G;rcases G with⟨k,J,U⟩|⟨g,n,u,J,U,z⟩
  ·have A:=(a8.cut_some U).2;obtain⟨cs,y⟩:=fA.1 (V k J);obtain⟨L,us,el,g1,g2,_⟩:=h.good.box k cs y;rw[A]at g1;cases g1;exact⟨g2,h.good.boxLt y A⟩
  ·have A:=(a8.cut_someO U).2;obtain⟨o,Hr⟩:=fA.1 (W g J);obtain⟨v',us,g1,g2,g3,_⟩:=h.good.own g o Hr;rw[A]at g1;cases g1;exact⟨(g3 bl z).1,h.good.ownLt Hr A z⟩
 have V6:∀bl,fB (ν.cut (aK s)) s bl\/w.heap.size<=bl->C.pr bl:=fun bl G=>by
  rcases G with G|G
  ·exact(pL bl G).1
  ·exact .inr (kx h.fr.size G)
 have aj8:∀k cs bl,ad k st.b=some cs->¬(ad k s.b).isSome->ν.bx k=some bl->¬fB (ν.cut (aK s)) s bl:=by
  intro k cs bl J U z A;rcases A with⟨bt,l,a2⟩|⟨g,n,u,l,a2,a3⟩
  ·have:=h.good.inj k bt bl (by simp[J]) (V bt l) z (a8.cut_some a2).2;subst this;exact U l
  ·exact h.good.obx g k n u bl (W g l) (by simp[J]) (a8.cut_someO a2).2 a3 z
 have aj9:∀g o n u bl,ad g st.e=some o->¬(ad g s.e).isSome->ν.ow g=some (n,u)->u.ownBlock=some bl->¬fB (ν.cut (aK s)) s bl:=by
  intro g o n u bl J U z A H;rcases H with⟨bt,l,a2⟩|⟨X,n',eH,l,a2,a3⟩
  ·exact h.good.obx g bt n u bl (by simp[J]) (V bt l) z A (a8.cut_some a2).2
  ·have:=h.good.oinj g X n n' u eH bl (by simp[J]) (W X l) z (a8.cut_someO a2).2 A a3;subst this;exact U l
 have Tj:∀k cs,ad k (cJ s.b st.b++f.b)=some cs->(¬(ad k s.b).isSome/\ad k st.b=some cs)\/ad k f.b=some cs:=by
  intro k cs c;rw[nS,tp]at c;by_cases B:(ad k s.b).isSome
  ·simp only[B,if_true]at c;exact .inr c
  ·simp only[B]at c;cases S:ad k st.b with
   |some x=>simp[S]at c;subst c;exact .inl ⟨B,rfl⟩
   |none=>simp[S]at c;exact .inr c
 have Tk:∀k cs,ad k (cJ s.e st.e++f.e)=some cs->(¬(ad k s.e).isSome/\ad k st.e=some cs)\/ad k f.e=some cs:=by
  intro k cs c;rw[nS,tp]at c;by_cases B:(ad k s.e).isSome
  ·simp only[B,if_true]at c;exact .inr c
  ·simp only[B]at c;cases S:ad k st.e with
   |some x=>simp[S]at c;subst c;exact .inl ⟨B,rfl⟩
   |none=>simp[S]at c;exact .inr c
 have Ct:∀bl,fB (ν.cut (aK s)) s bl\/w.heap.size<=bl->∀L,L<w.heap.size->¬fB (ν.cut (aK s)) s L->bl≠L:=by
  intro bl J L U z e;subst e;rcases J with J|J
  ·exact z J
  ·omega
 have Ng:∀bl,bl<w.heap.size->¬fB (ν.cut (aK s)) s bl->w'.heap[bl]? =w.heap[bl]?:=fun bl J U=>F.block bl J U;have isB:∀k bl,(ad k (cJ s.b st.b++f.b)).isSome->(ν.join bm s f).bx k=some bl->(¬(ad k s.b).isSome/\(ad k st.b).isSome/\ν.bx k=some bl)\/((ad k f.b).isSome/\bm.bx k=some bl):=by
  intro k bl c M;obtain⟨cs,y⟩:=fA.1 c;rcases Tj k cs y with⟨J,U⟩|J
  ·obtain⟨L,us,el,g1,_⟩:=h.good.box k cs U;rw[WE k (by rw[g1];simp) J]at M;exact .inl ⟨J,by simp[U],M⟩
  ·rw[WD k (by simp[J])]at M;exact .inr ⟨by simp[J],M⟩
 have HK:∀k x,(ad k (cJ s.e st.e++f.e)).isSome->(ν.join bm s f).ow k=some x->(¬(ad k s.e).isSome/\(ad k st.e).isSome/\ν.ow k=some x)\/((ad k f.e).isSome/\bm.ow k=some x):=by
  intro k x c M;obtain⟨cs,y⟩:=fA.1 c;rcases Tk k cs y with⟨J,U⟩|J
  ·obtain⟨v',us,g1,_⟩:=h.good.own k cs U;rw[Nb k (by rw[g1];simp) J]at M;exact .inl ⟨J,by simp[U],M⟩
  ·rw[Na k (by simp[J])]at M;exact .inr ⟨by simp[J],M⟩
 have CZ:∀k bl,¬(ad k s.b).isSome->(ad k st.b).isSome->ν.bx k=some bl->bl<w.heap.size/\¬fB (ν.cut (aK s)) s bl:=by intro k bl J U z;obtain⟨cs,y⟩:=fA.1 U;exact⟨h.good.boxLt y z,aj8 k cs bl y J z⟩
 have Z:∀k n u bl,¬(ad k s.e).isSome->(ad k st.e).isSome->ν.ow k=some (n,u)->u.ownBlock=some bl->bl<w.heap.size/\¬fB (ν.cut (aK s)) s bl:=by intro k n u bl J U z A;obtain⟨cs,y⟩:=fA.1 U;exact⟨h.good.ownLt y z A,aj9 k cs n u bl y J z A⟩
 have F9:∀k bl,(ad k f.b).isSome->bm.bx k=some bl->fB (ν.cut (aK s)) s bl\/w.heap.size<=bl:=by intro k bl J U;obtain⟨cs,y⟩:=fA.1 J;obtain⟨L,us,el,g1,g2,_⟩:=be.box k cs y;rw[U]at g1;cases g1;exact g2
 have Jg:∀k n u bl,(ad k f.e).isSome->bm.ow k=some (n,u)->u.ownBlock=some bl->fB (ν.cut (aK s)) s bl\/w.heap.size<=bl:=by intro k n u bl J U z;obtain⟨cs,y⟩:=fA.1 J;obtain⟨v',us,g1,g2,g3,_⟩:=be.own k cs y;rw[U]at g1;cases g1;exact(g3 bl z).1
 have N:∀bl o,bm.A bl o->bl<w.heap.size->¬fB (ν.cut (aK s)) s bl->ν.A bl o:=by
  intro bl o J U z;rcases F.fresh bl o J with A|A|A
  ·exact A
  ·exact absurd A z
  ·simp only at A;omega
 have pP:c5 C {t:=st.t,b:=cJ s.b st.b++f.b,e:=cJ s.e st.e++f.e,n:=n',o:=o'} a w' (ν.join bm s f):=by
  refine h.over ar rfl ⟨be.alt,fun k cs c=>?_,fun k bt bl J U z A=>?_,fun g o fq=>?_,fun g X n n' u eH bl J U z A H de=>?_,fun g k n u bl J U z A H=>?_,fun k=>?_,fun bl aM k j hH=>?_⟩
   ⟨F.os.trans h.fr.os,F.tape.trans h.fr.tape,F.output.trans h.fr.output,kx h.fr.size F.size,fun k c hm=>?_,fun b o R=>?_,fun b o R=>?_,fun n b aB=>ar.bx _ _ trivial (h.fr.obj n b aB),h.fr.obn,
    fun m n u hm=>Fc (h.fr.row m n u hm) (fun n u=>ar.ow _ n u trivial),h.fr.obr,fun k j bt dg b J U=>?_,fun k j b E=>?_,fun k j b E=>?_,fun b o N=>(ar.sh b o (h.fr.keep b o N).1).trans (h.fr.sh b o N)⟩ (fun k c=>?_)
  ·rcases Tj k cs c with⟨J,U⟩|J
   ·obtain⟨bl,us,el,g1,g2,g3,g4,g5⟩:=h.good.box k cs U;obtain⟨p,q⟩:=CZ k bl J (by simp[U]) g1;exact⟨bl,us,el,ar.bx _ _ trivial g1,g2,fun o R=>g3 o (N bl o R p q),by rw[Ng bl p q];exact g4,rq ar g5⟩
   ·obtain⟨bl,us,el,g1,g2,g3,g4,g5⟩:=be.box k cs J;exact⟨bl,us,el,h5.bx _ _ trivial g1,V6 bl g2,g3,g4,rq h5 g5⟩
  ·rcases isB k bl J z with⟨l,a2,a3⟩|⟨l,a2⟩<;>rcases isB bt bl U A with⟨p,q,K⟩|⟨p,q⟩
   ·exact h.good.inj k bt bl a2 q a3 K
   ·obtain⟨P,O⟩:=CZ k bl l a2 a3;exact absurd rfl (Ct bl (F9 bt bl p q) bl P O)
   ·obtain⟨P,O⟩:=CZ bt bl p q K;exact absurd rfl (Ct bl (F9 k bl l a2) bl P O)
   ·exact be.inj k bt bl l p a2 q
  ·rcases Tk g o fq with⟨J,U⟩|J
   ·obtain⟨u,us,g1,g2,g3,g4⟩:=h.good.own g o U;refine⟨u,us,by rw[Nb g (by rw[g1];simp) J];exact g1,⟨g2.1,?_⟩,fun bl G=>?_,tF ar (fun bl G j R=>?_) g4⟩
    ·rcases g2.2 with aC|⟨bb,cap,cur,f1,f2,f3,f4⟩
     ·exact .inl aC
     ·obtain⟨p,q⟩:=Z g _ u bb J (by simp[U]) g1 (by rw[f1];rfl);exact .inr ⟨bb,cap,cur,f1,f2,by rw[Ng bb p q];exact f3,f4⟩
    ·obtain⟨p,q⟩:=Z g _ u bl J (by simp[U]) g1 G;exact⟨(g3 bl G).1,fun j R=>(g3 bl G).2 j (N bl j R p q)⟩
    ·obtain⟨p,q⟩:=Z g _ u bl J (by simp[U]) g1 G;exact N bl j R p q
   ·obtain⟨u,us,g1,g2,g3,g4⟩:=be.own g o J;exact⟨u,us,by rw[Na g (by simp[J])];exact g1,g2,fun bl G=>⟨V6 bl (g3 bl G).1,(g3 bl G).2⟩,tF h5 (fun _ _ _ h=>h) g4⟩
  ·rcases HK g _ J z with⟨l,a2,a3⟩|⟨l,a2⟩<;>rcases HK X _ U A with⟨p,q,K⟩|⟨p,q⟩
   ·exact h.good.oinj g X n n' u eH bl a2 q a3 K H de
   ·obtain⟨P,O⟩:=Z g n u bl l a2 a3 H;exact absurd rfl (Ct bl (Jg X n' eH bl p q de) bl P O)
   ·obtain⟨P,O⟩:=Z X n' eH bl p q K de;exact absurd rfl (Ct bl (Jg g n u bl l a2 H) bl P O)
   ·exact be.oinj g X n n' u eH bl l p a2 q H de
  ·rcases HK g _ J z with⟨l,a2,a3⟩|⟨l,a2⟩<;>rcases isB k bl U H with⟨p,q,K⟩|⟨p,q⟩
   ·exact h.good.obx g k n u bl a2 q a3 A K
   ·obtain⟨P,O⟩:=Z g n u bl l a2 a3 A;exact absurd rfl (Ct bl (F9 k bl p q) bl P O)
   ·obtain⟨P,O⟩:=CZ k bl p q K;exact absurd rfl (Ct bl (Jg g n u bl l a2 A) bl P O)
   ·exact be.obx g k n u bl l p a2 A q
  ·
   cases M:(ν.join bm s f).bx k with
   |none=>exact .inl rfl
   |some bl=>
    right;cases r4:(ν.join bm s f).ow k with
    |none=>rfl
    |some x=>
     exfalso;have al:(ν.bx k=some bl/\¬(ad k s.b).isSome/\¬(ad k f.b).isSome)\/bm.bx k=some bl:=by
      by_cases B:(ad k s.b).isSome\/(ad k f.b).isSome
      ·right;simpa[a8.join,B]using M
      ·left;simp only[not_or]at B;exact⟨by simpa[a8.join,B.1,B.2]using M,B.1,B.2⟩
     have aC:(ν.ow k=some x/\¬(ad k s.e).isSome/\¬(ad k f.e).isSome)\/bm.ow k=some x:=by
      by_cases B:(ad k s.e).isSome\/(ad k f.e).isSome
      ·right;simpa[a8.join,B]using r4
      ·left;simp only[not_or]at B;exact⟨by simpa[a8.join,B.1,B.2]using r4,B.1,B.2⟩
     rcases al with⟨l,a2,a3⟩|l<;>rcases aC with⟨p,q,K⟩|p
     ·rcases h.good.one k with i|i
      ·rw[i]at l;cases l
      ·rw[i]at p;cases p
     ·have vS:=ach k x p;have fZ:(ad k s.e).isSome:=by
       cases k with
       |loc m=>rw[Q.2 m]at vS;cases vS
       |obj m=>
        rcases cr m vS with i|i
        ·exact i
        ·rw[(h.new (.obj m) ⟨trivial,i⟩).1]at l;cases l
      obtain⟨o,Hr⟩:=fA.1 (W k fZ);obtain⟨v',us,g1,_⟩:=h.good.own k o Hr;rcases h.good.one k with i|i
      ·rw[i]at l;cases l
      ·rw[i]at g1;cases g1
     ·have y6:=acg k bl l;have fZ:(ad k s.b).isSome:=by
       cases k with
       |loc m=>rw[Q.1 m]at y6;cases y6
       |obj m=>
        rcases Mt m y6 with i|i
        ·exact i
        ·rw[(h.new (.obj m) ⟨trivial,i⟩).2.1]at p;cases p
      obtain⟨cs,y⟩:=fA.1 (V k fZ);obtain⟨L,us,el,g1,_⟩:=h.good.box k cs y;rcases h.good.one k with i|i
      ·rw[i]at g1;cases g1
      ·rw[i]at p;cases p
     ·rcases be.one k with i|i
      ·rw[i]at l;cases l
      ·rw[i]at p;cases p
  ·have VV:∀k j,bm.tr k j bl->w.heap.size<=bl:=fun k j i=>by
    rcases(F.trb k j bl i).1 with a2|a2
    ·obtain⟨m,_,hm⟩:=(Y k).2.2 j bl i;rw[hm]at a2;cases a2
    ·exact a2
   have hold:fB (ν.cut (aK s)) s bl->¬ν.tr k j bl:=by
    rintro(⟨bt,l,a2⟩|⟨g,n,u,l,a2,a3⟩) i
    ·exact h.good.otr bl (.inl ⟨bt,V bt l,(a8.cut_some a2).2⟩) k j i
    ·exact h.good.otr bl (.inr ⟨g,n,u,W g l,(a8.cut_someO a2).2,a3⟩) k j i
   have jV:fB (ν.cut (aK s)) s bl\/w.heap.size<=bl->¬ν.tr k j bl:=by
    rintro(J|J) i
    ·exact hold J i
    ·have:=(h.fr.trb k j bl i).2;omega
   rcases aM with⟨bt,l,a2⟩|⟨g,n,u,l,a2,a3⟩
   ·rcases isB bt bl l a2 with⟨p,q,K⟩|⟨p,q⟩
    ·rcases hH with hH|hH
     ·exact h.good.otr bl (.inl ⟨bt,q,K⟩) k j hH
     ·have:=(CZ bt bl p q K).1;have:=VV k j hH;omega
    ·rcases hH with hH|hH
     ·exact jV (F9 bt bl p q) hH
     ·exact be.otr bl (.inl ⟨bt,p,q⟩) k j hH
   ·rcases HK g _ l a2 with⟨p,q,K⟩|⟨p,q⟩
    ·rcases hH with hH|hH
     ·exact h.good.otr bl (.inr ⟨g,n,u,q,K,a3⟩) k j hH
     ·have:=(Z g n u bl p q K a3).1;have:=VV k j hH;omega
    ·rcases hH with hH|hH
     ·exact jV (Jg g n u bl p q a3) hH
     ·exact be.otr bl (.inr ⟨g,n,u,p,q,a3⟩) k j hH
  ·have bN:k<w.heap.size:=Nat.lt_of_lt_of_le c h.fr.size;rw[Ng k bN fun G=>by
    rcases(pL k G).1 with J|J
    ·exact hm J
    ·omega]
   exact h.fr.block k c hm
  ·obtain⟨bj,bY⟩:=h.fr.keep b o R;obtain⟨cE,fv⟩:=F.keep b o bj;exact⟨cE,fv.trans bY⟩
  ·rcases F.fresh b o R with A|A|A
   ·exact h.fr.fresh b o A
   ·exact .inr (pL b A).1
   ·exact .inr (.inr (kx h.fr.size A))
  ·rcases J with J|J<;>rcases U with U|U
   ·exact h.fr.trd k j bt dg b J U
   ·have l:=(h.fr.trb k j b J).2;have a2:=(F.trb bt dg b U).1;rcases a2 with a2|a2
    ·obtain⟨m,_,hm⟩:=(Y bt).2.2 dg b U;rw[hm]at a2;cases a2
    ·simp only at a2;omega
   ·have l:=(h.fr.trb bt dg b U).2;have a2:=(F.trb k j b J).1;rcases a2 with a2|a2
    ·obtain⟨m,_,hm⟩:=(Y k).2.2 j b J;rw[hm]at a2;cases a2
    ·simp only at a2;omega
   ·exact F.trd k j bt dg b J U
  ·rcases E with E|E
   ·exact⟨(h.fr.trb k j b E).1,Nat.lt_of_lt_of_le (h.fr.trb k j b E).2 F.size⟩
   ·refine⟨.inr ?_,(F.trb k j b E).2⟩;rcases(F.trb k j b E).1 with a2|a2
    ·obtain⟨m,_,hm⟩:=(Y k).2.2 j b E;rw[hm]at a2;cases a2
    ·exact kx h.fr.size a2
  ·have key:ν.bx k=none/\ν.ow k=none/\¬(ad k f.b).isSome/\¬(ad k f.e).isSome:=by
    rcases E with E|E
    ·obtain⟨t1,t2⟩:=h.fr.trn k j b E;refine⟨t1,t2,fun i=>?_,fun i=>?_⟩
     ·cases k with
      |loc m=>rw[Q.1 m]at i;cases i
      |obj m=>
       rcases Mt m i with H|H
       ·obtain⟨cs,y⟩:=fA.1 (V _ H);obtain⟨L,us,el,g1,_⟩:=h.good.box _ cs y;rw[t1]at g1;cases g1
       ·exact(h.new (.obj m) ⟨trivial,H⟩).2.2 j b E
     ·cases k with
      |loc m=>rw[Q.2 m]at i;cases i
      |obj m=>
       rcases cr m i with H|H
       ·obtain⟨cs,y⟩:=fA.1 (W _ H);obtain⟨L,us,g1,_⟩:=h.good.own _ cs y;rw[t2]at g1;cases g1
       ·exact(h.new (.obj m) ⟨trivial,H⟩).2.2 j b E
    ·obtain⟨m,hm,rfl⟩:=(Y k).2.2 j b E;obtain⟨t1,t2,_⟩:=akq m hm;exact⟨t1,t2,by simp[Q.1 m],by simp[Q.2 m]⟩
   obtain⟨t1,t2,t3,t4⟩:=key;have t5:¬(ad k s.b).isSome:=fun i=>by obtain⟨cs,y⟩:=fA.1 (V _ i);obtain⟨L,us,el,g1,_⟩:=h.good.box _ cs y;rw[t1]at g1;cases g1
   have t6:¬(ad k s.e).isSome:=fun i=>by obtain⟨cs,y⟩:=fA.1 (W _ i);obtain⟨L,us,g1,_⟩:=h.good.own _ cs y;rw[t2]at g1;cases g1
   exact⟨by simp[a8.join,t3,t5,t1],by simp[a8.join,t4,t6,t2]⟩
  ·
   simp only at c;obtain⟨c,ajt⟩:=dy k c;have V0:(∀j b,¬ν.tr k j b)->∀j b,¬(ν.join bm s f).tr k j b:=fun J j b E=>by
    rcases E with E|E
    ·exact J j b E
    ·obtain⟨m,hm,e⟩:=(Y k).2.2 j b E;exact ajt m hm e
   cases k with
   |loc m=>obtain⟨fj,fk,hK⟩:=h.new (.loc m) (LI (dL _) (fun _ h=>List.mem_append_left _ h) c);exact⟨by simp[a8.join,q6.1 m,Q.1 m,fj],by simp[a8.join,q6.2 m,Q.2 m,fk],V0 hK⟩
   |obj m=>
    simp only[fresh,j2,not_or,true_and]at c;obtain⟨fj,fk,hK⟩:=h.new (.obj m) ⟨trivial,c.1⟩;have a6:¬(ad (.obj m) f.b).isSome:=fun i=>c.2 (rl (.inl i));have bB:¬(ad (.obj m) f.e).isSome:=fun i=>c.2 (rl (.inr i));have bT:¬(ad (.obj m) s.b).isSome:=fun i=>by obtain⟨cs,y⟩:=fA.1 (V _ i);obtain⟨L,us,el,g1,_⟩:=h.good.box _ cs y;rw[fj]at g1;cases g1
    have dp:¬(ad (.obj m) s.e).isSome:=fun i=>by obtain⟨cs,y⟩:=fA.1 (W _ i);obtain⟨v',us,g1,_⟩:=h.good.own _ cs y;rw[fk]at g1;cases g1
    exact⟨by simp[a8.join,a6,bT,fj],by simp[a8.join,bB,dp,fk],V0 hK⟩
 exact pP.put aJ (zT h5 aI)
inductive eO where
 |s (i:eT)
 |call (d:bc Nat) (f:dM) (xs:List dM)
 |next (d:Nat) (x:dM)
structure ds where
 g:bc (Nat×Bool)
 i:eO
def eT.dst:eT->bc Nat
 | .v d _| .box d _ _| .alloc d _ _| .bsl d _ _ _| .app d _ _ _ _| .bslm d _ _ _ _| .appm d _ _ _ _ _| .mkmap d _| .range d _ _| .mks d _ _ _ _ _=>some d
 | .store _ _ _| .mput _ _ _ _| .storeE _ _ _=>none
def eO.dst:eO->bc Nat
 | .s i=>i.dst
 | .call d _ _=>d
 | .next d _=>some d
def CallDo(P:cG)(n:Nat)(args:List af)(st:bo)(d:bc Nat)(K:bo->Prop):Prop:=
 (∃s Q,hx (aK s) s.b st.b/\p2 (aK s) s.e st.e/\hV s/\aH (aK s) args/\bD P n args s Q/\
  ∀r a,Q r a->((∀m,(ad (.obj m) a.b).isSome->(ad (.obj m) s.b).isSome\/ .obj m∉st.o)/\(∀m,(ad (.obj m) a.e).isSome->(ad (.obj m) s.e).isSome\/ .obj m∉st.o))/\K (after st s a d r))\/
 (∃s Q,hx (aK s) s.b st.b/\p2 (aK s) s.e st.e/\hV s/\aH (aK s) args/\ .loc st.n∉st.o/\tU P n st.n args s Q/\
  ∀r a,Q r a->((∀m,(ad (.obj m) a.b).isSome->(ad (.obj m) s.b).isSome\/ .obj m∉st.o)/\(∀m,(ad (.obj m) a.e).isSome->(ad (.obj m) s.e).isSome\/ .obj m∉st.o))/\K {after st s a d r with n:=st.n+1})
def N3(st:bo)(d:Nat)(gi mk:aA)(since:Nat)(seen:List Nat)(last clock:Nat)(borns:List Nat)(kvs:List af)(K:bo->Prop):Prop:=
 (since=clock/\last=clock)/\((∀b∈borns,b∈seen)->K {st with t:=put d (.tuple [.bool false]) st.t})/\
 (∀b k v,nT b borns kvs=some (.tuple [k,v])->b∉seen->K {st with t:=put d (.tuple [.bool true,k,v]) st.t,b:=cH gi [.hdi since (seen++[b]) last,.gmap mk] st.b})
def uo(st:bo)(d:Nat)(v:af)(K:bo->Prop):Prop:=
 match v with
 | .ptr gi 0=>match ad gi st.b with
  |some [.hdi since seen last,.gmap mk]=>match ad mk st.b with
   |some (.hdm clock borns::kvs)=>N3 st d gi mk since seen last clock borns kvs K
   |_=>et
  |_=>et
 |_=>et
def vD(P:cG)(st:bo)(K:bo->Prop):eO->Prop
 | .next d x=>uo st d (cD st.t x) K
 | .s i=>match np st i with
  |some (c,st')=>c/\K st'
  |none=>et
 | .call d f xs=>match cD st.t f with
  | .func n dE=>CallDo P n (cf (xs.map (cD st.t)++dE)) st d K
  |_=>et
def iT(P:cG):List ds->bo->(bo->Prop)->Prop
 |[],st,K=>K st
 |⟨none,i⟩::r,st,K=>vD P st (fun st'=>iT P r st' K) i
 |⟨some (s,want),i⟩::r,st,K=>match get s st.t with
  | .bool b=>(b=want->vD P {st with t:=put s (.bool want) st.t} (fun st'=>iT P r st' K) i)/\(b= !want->iT P r {st with t:=e3 i.dst (.tuple []) (put s (.bool !want) st.t)} K)
  | .tuple []=>iT P r {st with t:=e3 i.dst (.tuple []) st.t} K
  |_=>et
def wv(N:Nat)(aS:List (Nat×eu))(i:eO)(o:Oper):Bool:=
 match i with
 | .s i=>Fh N aS i o
 | .next d x=>match o.op with
  | .next it false=>o.dst==some d&&decide (d<N)&&eN x it
  |_=>false
 | .call d f xs=>match o.op with
  | .call ⟨.value a,args,_⟩=>o.dst==d&&j4 N d&&eN f a&&zH xs args.toList
  |_=>false
def Du(N:Nat)(aS:List (Nat×eu))(ops:List Oper)(g:ds)(o:Oper):Bool:=
 (match g.g,o.guard with
  |none,none=>true
  |some (s,b),some (j,b7)=>b==b7&&((ops[j]?).bind (·.dst))==some s&&decide (s<N)&&o.dst==g.i.dst&&j4 N g.i.dst
  |_,_=>false)&&wv N aS g.i o
def k3(N:Nat)(aS:List (Nat×eu))(ops:List Oper):List ds->List Oper->Bool
 |[],[]=>true
 |g::gs,o::os=>Du N aS ops g o&&k3 N aS ops gs os
 |_,_=>false
def aao{w:World}{ν:a8}:∀{b bW:List af} {bk us:List Value},c1 w ν b bk->c1 w ν bW us->c1 w ν (b++bW) (bk++us)
 |[],bW,bk,us,h,a=>by simp only[c1]at h;subst h;simpa using a
 |p::b,bW,bk,us,h,a=>by simp only[c1]at h;obtain⟨u,c,rfl,J,U⟩:=h;simp only[b3,c1];exact⟨u,_,rfl,J,aao U a⟩
def yn.mono{P:cG}{f:FuncId}{bk:Array Value}{w:World}{R a:Ending->World->Prop}(h:yn P f bk w R)(bu:∀e w',R e w'->a e w'):yn P f bk w a:=by
 rcases h with⟨J,U⟩|⟨v,w',J,U⟩
 ·exact .inl ⟨J,U.mono bu⟩
 ·exact .inr ⟨v,w',J,bu _ _ U⟩
def Th{P:cG}{C:fh}{st:bo}{a:Act}{w:World}{ν:a8}(g:c5 C st a w ν){o:Oper}{Z:Operand}{args:Array Operand}{CA:Array gT}(A:o.op= .call ⟨.value Z,args,CA⟩){d:bc Nat}(aJ:o.dst=d)(W:j4 C.N d=true)
  {n:Nat} {dE:List af} (aG:aU w ν (.func n dE) (a.eval Z)) {B:List af} (vK:c1 w ν B (args.toList.map a.eval)) {K:bo->Prop}
  (aw:∃(s:cQ) (z:af->cQ->Prop) (κ:bc Nat) (n':Nat) (o':cQ->List aA),hx (aK s) s.b st.b/\p2 (aK s) s.e st.e/\hV s/\aH (aK s) (cf (B++dE))/\(∀(w:World) (ν:a8) (bk:Array Value),Good (fB ν s) w ν s.b s.e->pH ν s->c1 w ν (cf (B++dE)) bk.toList->
   yn P n bk w fun e w'=> ∃v r c bm,e= .returned v/\z r c/\aU w' bm r v/\Good (fun bl=>fB ν s bl\/w.heap.size<=bl) w' bm c.b c.e/\AN κ bm c/\hV c/\pq ⟨w,ν,fB ν s,0,cI s⟩ w' bm)/\
   (∀m,κ=some m->fresh st.n st.o (.loc m))/\(∀k r c,z r c->fresh n' (o' c) k->fresh st.n (st.o++cI c) k/\∀m,κ=some m->k≠ .loc m)/\
   ∀r c,z r c->((∀m,(ad (.obj m) c.b).isSome->(ad (.obj m) s.b).isSome\/ .obj m∉st.o)/\(∀m,(ad (.obj m) c.e).isSome->(ad (.obj m) s.e).isSome\/ .obj m∉st.o))/\K {after st s c d r with n:=n',o:=o' c})
  {X:Act->World->Prop} {Q:Exit->Act->World->Prop} (di:∀st' bs w' bm,K st'->c5 C st' bs w' bm->X bs w'):o.wp P a w X Q:=by
 obtain⟨s,z,κ,n',o',y,t,dh,h3,q,TC,Tu,Y⟩:=aw;simp only[aU]at aG;obtain⟨us,aN,hu⟩:=aG;have nK:c1 w (ν.cut (aK s)) (cf (B++dE)) ((args.map a.eval)++us).toList:=by refine zS (oN.cut _ w ν) _ _ h3 (Jc _ _ ?_);simpa using aao vK hu
 have sU:Good (fB (ν.cut (aK s)) s) w (ν.cut (aK s)) s.b s.e:=g.good.cut y t (fun bl _ h=>h);have hex:pH (ν.cut (aK s)) s:=by
  intro k;refine⟨?_,?_,?_⟩;rotate_left 2
  ·rintro j b ⟨f,ag⟩;obtain⟨t1,t2⟩:=g.fr.trn k j b ag;rcases f with f|f<;>obtain⟨x,p⟩:=fA.1 f
   ·obtain⟨bl,R,el,i,_⟩:=g.good.box k x (y k x p).1;rw[t1]at i;cases i
   ·obtain⟨v',R,i,_⟩:=g.good.own k x (t k x p).1;rw[t2]at i;cases i
  ·intro S;by_cases f:aK s k
   ·rw[a8.cut_bx f];rcases f with f|f
    ·rw[S]at f;cases f
    ·obtain⟨x,p⟩:=fA.1 f;obtain⟨v',R,i,_⟩:=g.good.own k x (t k x p).1;rcases g.good.one k with J|J
     ·exact J
     ·rw[J]at i;cases i
   ·exact(a8.cut_no f).1
  ·intro S;by_cases f:aK s k
   ·rw[a8.cut_ow f];rcases f with f|f
    ·obtain⟨x,p⟩:=fA.1 f;obtain⟨bl,R,el,i,_⟩:=g.good.box k x (y k x p).1;rcases g.good.one k with J|J
     ·rw[J]at i;cases i
     ·exact J
    ·rw[S]at f;cases f
   ·exact(a8.cut_no f).2.1
 rcases q w (ν.cut (aK s)) ((args.map a.eval)++us) sU hex nK with⟨⟨fn,g1,g2,g3⟩,q⟩|⟨v,w',q,N⟩
 ·obtain⟨code,U⟩:=fA.1 g2;have E:(execOp a.eval o).run P w= .ok (.enter n ((args.map a.eval)++us)) w:=by obtain⟨dst,op,ty,pos,QK,w7⟩:=o;simp only at A;subst A;simp only[execOp,resolve,aN,Deferred.ofValue,gr,hy,gy,invoke,callFunc,run_program,g1,g3,U];simp
  unfold Oper.wp;rw[E];simp only[Oper.upon];refine q.mono fun e w' N=>?_;obtain⟨v,r,c,bm,rfl,u,V,O,M,H,L⟩:=N;obtain⟨⟨G,F⟩,l⟩:=Y r c u;rw[aJ];exact di _ _ _ _ l (g.callK y t dh O M (fun m hm=>g.new _ (TC m hm)) (n':=n') (o':=o' c) (fun k l=>Tu k r c u l) H L G F d W V)
 ·have E:(execOp a.eval o).run P w= .ok (.value v) w':=by obtain⟨dst,op,ty,pos,QK,w7⟩:=o;simp only at A;subst A;simp only[execOp,resolve,aN,Deferred.ofValue,gr,hy,gy,invoke];simpa using q
  obtain⟨v2,r,c,bm,D9,u,V,O,M,H,L⟩:=N;cases D9;obtain⟨⟨G,F⟩,l⟩:=Y r c u;refine nu E ?_;rw[aJ];exact di _ _ _ _ l (g.callK y t dh O M (fun m hm=>g.new _ (TC m hm)) (n':=n') (o':=o' c) (fun k l=>Tu k r c u l) H L G F d W V)
def Tg{P:cG}{C:fh}{st:bo}{a:Act}{w:World}{ν:a8}(L:c5 C st a w ν){o:Oper}{u:Operand}{args:Array Operand}{N:Array gT}(A:o.op= .call ⟨.value u,args,N⟩){d:bc Nat}(H:o.dst=d)(y:j4 C.N d=true)
  {n:Nat} {dE:List af} (M:aU w ν (.func n dE) (a.eval u)) {x:List af} (z:c1 w ν x (args.toList.map a.eval)) {K:bo->Prop} (aw:CallDo P n (cf (x++dE)) st d K)
  {t:Act->World->Prop} {Q:Exit->Act->World->Prop} (E:∀st' bs w' bm,K st'->c5 C st' bs w' bm->t bs w'):o.wp P a w t Q:=by
 refine Th L A H y M z (K:=K) ?_ E;rcases aw with⟨s,f,q,p,l,j,i,g⟩|⟨s,f,q,p,l,j,B,i,g⟩
 ·refine⟨s,f,none,st.n,fun b=>st.o++cI b,q,p,l,j,fun w ν bk J U G=>(i w ν bk J U G).mono fun e w' F=>?_,fun m hm=>(by cases hm),fun k _ b _ c=>⟨c,fun m hm=>by cases hm⟩,g⟩;obtain⟨v,r,b,bm,g1,g2,g3,g4,g5,g6⟩:=F;exact⟨v,r,b,bm,g1,g2,g3,g4,g5.k,g6⟩
 ·refine⟨s,f,some st.n,st.n+1,fun b=>st.o++cI b,q,p,l,j,i,fun m hm=>(by cases hm;exact⟨dL _,B⟩),fun k _ b _ c=>⟨LI (Nat.le_succ _) (fun _ h=>h) c,fun m hm=>?_⟩,g⟩;cases hm;rintro rfl;have:=c.1;simp only at this;omega
def c5.drawn{C:fh}{st:bo}{a:Act}{w:World}{ν:a8}(b:c5 C st a w ν)(n:Nat):c5 C st a {w with drawn:=n} ν:=by
 have c:mf w ν {w with drawn:=n} ν:=⟨fun _ _ h=>⟨h,rfl⟩,fun _ _ _ h=>h,fun _ n u _ h=>⟨n,u,h,.inl ⟨rfl,rfl⟩⟩,fun _ _ _=>rfl,fun _ _ _ _ h=>h⟩;refine b.over c rfl ⟨b.good.alt,fun k cs i=>?_,b.good.inj,fun g o be=>?_,b.good.oinj,b.good.obx,b.good.one,b.good.otr⟩ ⟨b.fr.os,b.fr.tape,b.fr.output,b.fr.size,b.fr.block,b.fr.keep,b.fr.fresh,b.fr.obj,b.fr.obn,b.fr.row,b.fr.obr,b.fr.trd,b.fr.trb,b.fr.trn,b.fr.sh⟩ b.new
 ·obtain⟨bl,us,el,J,U,d,e,f⟩:=b.good.box k cs i;exact⟨bl,us,el,J,U,d,e,rq c f⟩
 ·obtain⟨v,us,J,U,d,e⟩:=b.good.own g o be;exact⟨v,us,J,U,d,tF c (fun _ _ _ h=>h) e⟩
def ahr{α:Type}{l:List α}{p:α->Bool}(h:∀x∈l,p x=false):l.filter p=[]:=by rw[List.filter_eq_nil_iff];intro x a;simp[h x a]
def ahq{α:Type}{l:List α}{p:α->Bool}(h:∀x∈l,p x=true):l.filter p=l:=List.filter_eq_self.2 h
def Ip(r m since clock:Nat)(seen:Array Nat)(Ti:Array (bc MapEntry)):Sem Value:=do
 match Ti[<-choose (.mapNext Ti.size)]? with
 |some (some e)=>
  setObj r (.mapIter (some m) since (seen.push e.born) clock)
  pure (.tuple #[.bool true,e.key,e.val])
 |some none=>pure (.tuple #[.bool false])
 |none=>stuck "Next: no such candidate"
def aaF{P:cG}{w:World}(r m since clock:Nat)(seen:Array Nat)(l:List (bc MapEntry))(av:l≠[]):∃n x,x∈l/\(Ip r m since clock seen l.toArray).run P w=
  (match x with|some e=>(do setObj r (.mapIter (some m) since (seen.push e.born) clock);pure (.tuple #[.bool true,e.key,e.val]):Sem Value)|none=>pure (.tuple #[.bool false])).run P {w with drawn:=n}:=by
 have gh:0<l.length:=List.length_pos_iff.2 av;unfold Ip;have key:∀i,i<l.length->∀w',((do match(l.toArray[i]?:bc (bc MapEntry))with
   |some (some e)=>setObj r (.mapIter (some m) since (seen.push e.born) clock);pure (.tuple #[.bool true,e.key,e.val])
   |some none=>pure (.tuple #[.bool false])
   |none=>stuck "Next: no such candidate" :Sem Value)).run P w'=((match l[i]! with|some e=>(do setObj r (.mapIter (some m) since (seen.push e.born) clock);pure (.tuple #[.bool true,e.key,e.val]):Sem Value)|none=>pure (.tuple #[.bool false]))).run P w':=by
  intro i hi w';have J:l.toArray[i]? =some l[i]!:=by simp[hi]
  rw[J];cases l[i]!<;>rfl
 by_cases aG:(Question.mapNext l.length).forced=true
 ·refine⟨w.drawn,l[0]!,by simp[gh],?_⟩;rw[<-key 0 gh];have aw:(choose (.mapNext l.length):Sem Nat).run P w= .ok 0 w:=by simp[aG]
  simp only[List.size_toArray,gr,aw,gy]
 ·refine⟨w.drawn+1,l[(w.tape w.drawn (.mapNext l.length))%l.length]!,by simp[Nat.mod_lt _ gh],?_⟩;rw[<-key _ (Nat.mod_lt _ gh)];have aw:(choose (.mapNext l.length):Sem Nat).run P w= .ok ((w.tape w.drawn (.mapNext l.length))%l.length) {w with drawn:=w.drawn+1}:=by simp[aG,Question.cut]
  simp only[List.size_toArray,gr,aw,gy]
def apL{P:cG}{w:World}{bl mb:Nat}{seen:List Nat}{es:List MapEntry}{clock:Nat}{ty:gT}(J:w.heap[bl]? =some (.mapIter (some mb) clock seen.toArray clock))(U:w.heap[mb]? =some (.map es.toArray clock))(d:∀e∈es,e.born<clock):
  ∃n,((∀e∈es,e.born∈seen)/\(Instr.next (.pointer (some ⟨bl,0,none⟩)) false ty).run P w= .ok (.tuple #[.bool false]) {w with drawn:=n})\/
   ∃e∈es,e.born∉seen/\(Instr.next (.pointer (some ⟨bl,0,none⟩)) false ty).run P w= .ok (.tuple #[.bool true,e.key,e.val]) {w with drawn:=n,heap:=w.heap.setIfInBounds bl (.mapIter (some mb) clock (seen++[e.born]).toArray clock)}:=by
 have j:(!seen.toArray.isEmpty&& !es.toArray.isEmpty&&es.toArray.all (fun e=>decide (e.born≥clock)))=false:=by
  cases es with
  |nil=>simp
  |cons e r=>have:=d e Ψ;simp;intro _ h;omega
 generalize c:(es.filter fun e=> !seen.contains e.born)=left;have f:(es.toArray.filter fun e=> !seen.toArray.contains e.born)=left.toArray:=by rw[<-c];simp
 have a:∀e∈left,e∈es/\e.born∉seen:=fun e he=>by rw[<-c]at he;have:=oL.1 he;exact⟨this.1,by simpa using this.2⟩
 have hold:(left.toArray.filter fun e=>decide (e.born<clock))=left.toArray:=by rw[List.filter_toArray,ahq];intro e he;have:=d e (a e he).1;simp[this]
 have g:(left.toArray.filter fun e=>decide (e.born≥clock))= #[]:=by rw[List.filter_toArray,ahr];intro e he;have:=d e (a e he).1;simp;omega
 have i:(Instr.next (.pointer (some ⟨bl,0,none⟩)) false ty).run P w=(Ip bl mb clock clock seen.toArray ((if left.toArray.isEmpty then #[none]else #[])++(left.toArray++ #[]).map some)).run P w:=by unfold Instr.next Ip;simp only[gr,x7 J,x7 U,gy,j,f,hold,g,hN,if_false];rfl
 rw[i];by_cases b:left=[]
 ·subst b;obtain⟨n,x,g1,g2⟩:=aaF (P:=P) (w:=w) bl mb clock clock seen.toArray [none] Ψ;refine⟨n,.inl ⟨fun e he=>?_,?_⟩⟩
  ·have:=List.filter_eq_nil_iff.1 c e he;simpa using this
  ·simp only[List.mem_singleton]at g1;subst g1;have aw:((if(([]:List MapEntry).toArray).isEmpty then #[none]else #[])++(([]:List MapEntry).toArray++ #[]).map some)=[none].toArray:=Ψ
   rw[aw,g2];rfl
 ·have aw:((if left.toArray.isEmpty then #[none]else #[])++(left.toArray++ #[]).map some)=(left.map some).toArray:=by simp[b]
  obtain⟨n,x,g1,g2⟩:=aaF (P:=P) (w:=w) bl mb clock clock seen.toArray (left.map some) (by simpa using b);simp only[hz]at g1;obtain⟨e,he,rfl⟩:=g1;refine⟨n,.inr ⟨e,(a e he).1,(a e he).2,?_⟩⟩;rw[aw,g2];simp only[gr];rw[Pp (w:={w with drawn:=n}) (o:= .mapIter (some mb) clock seen.toArray clock) J];simp
def Lk:∀{borns:List Nat} {us:List Value} {e:MapEntry},e∈gM borns us->e.born∈borns
 |[],us,e,h=>by simp[gM]at h
 |b::a,[],e,h=>by simp[gM]at h
 |b::a,[_],e,h=>by simp[gM]at h
 |b::a,k::v::us,e,h=>by
  simp only[gM,gK]at h;rcases h with rfl|h
  ·simp
  ·exact qR _ (Lk h)
def TS:∀{borns:List Nat} {kvs:List af} {us:List Value},kvs.length=2*borns.length->us.length=kvs.length->∀{b:Nat},b∈borns->∃e∈gM borns us,e.born=b
 |[],_,_,_,_,b,a=>by simp at a
 |b7::c,kvs,[],J,U,b,a=>by rw[J]at U;simp at U
 |b7::c,kvs,[_],J,U,b,a=>by rw[J]at U;simp at U;omega
 |b7::c,kvs,k::v::us,J,U,b,a=>by
  rcases gK.1 a with rfl|a
  ·exact⟨⟨k,v,b⟩,by simp[gM],rfl⟩
  ·obtain⟨e,g1,g2⟩:=TS (kvs:=kvs.drop 2) (us:=us) (borns:=c) (by simp at J⊢;omega) (by simp at J U⊢;omega) a;exact⟨e,by simp[gM,g1],g2⟩
def XH{w:World}{ν:a8}:∀{borns:List Nat} {kvs:List af} {us:List Value},kvs.length=2*borns.length->borns.Pairwise (· < ·)->c1 w ν kvs us->∀{e:MapEntry},e∈gM borns us->∃k v,nT e.born borns kvs=some (.tuple [k,v])/\aU w ν k e.key/\aU w ν v e.val
 |[],_,_,_,_,_,e,h=>by simp[gM]at h
 |b::a,[],us,J,_,_,e,_=>by simp at J
 |b::a,[_],us,J,_,_,e,_=>by simp at J;omega
 |b::a,k::v::kvs,us,J,U,c,e,h=>by
  simp only[c1]at c;obtain⟨m,n,rfl,g,l,j,rfl,f,d⟩:=c;simp only[gM,gK]at h;rw[n3]at U;rcases h with rfl|h
  ·exact⟨k,v,by simp[nT],g,f⟩
  ·obtain⟨bt,v',g1,g2,g3⟩:=XH (by simp at J;omega) U.2 d h;have i:b≠e.born:=Nat.ne_of_lt (U.1 _ (Lk h));exact⟨bt,v',by simp[nT,i,g1],g2,g3⟩
def amb{P:cG}{C:fh}{st:bo}{a:Act}{w:World}{ν:a8}(c:c5 C st a w ν){o:Oper}{it:Operand}(q:o.op= .next it false){d:Nat}(E:o.dst=some d)(i:j4 C.N (some d)=true){v:af}(B:aU w ν v (a.eval it)){K:bo->Prop}(he:uo st d v K)
  {m:Act->World->Prop} {Q:Exit->Act->World->Prop} (x:∀st' bs w' bm,K st'->c5 C st' bs w' bm->m bs w'):o.wp P a w m Q:=by
 unfold uo at he;split at he
 ·rename_i gi;split at he
  ·rename_i since seen last mk l;split at he
   ·rename_i clock borns kvs G;obtain⟨⟨rfl,rfl⟩,W,L⟩:=he;simp only[aU]at B;obtain⟨bl,A,M⟩:=B;obtain⟨Y,us,el,F,bB,Z,g,z⟩:=c.good.box gi _ l;rw[A]at F;cases F;obtain⟨mb,ms,N,m1,m2,m3,m4,m5⟩:=c.good.box mk _ G;simp only[kW,c1]at z;obtain⟨u,b1,hu,⟨O,y,rfl⟩,rfl⟩:=z;rw[m1]at y;cases y;simp only[lQ,hu]at g;simp only[lQ]at m4;simp only[kW]at m5;obtain⟨n,H⟩:=apL (P:=P) (ty:=o.type) g m4 (fun e he=>m5.2.lt _ (Lk he));have r:∀v' w',(Instr.next (.pointer (some ⟨bl,0,none⟩)) false o.type).run P w= .ok v' w'->(execOp a.eval o).run P w= .ok (.value v') w':=by intro v' w' t;obtain⟨dst,op,ty,pos,QK,X⟩:=o;simp only at q t;subst q;simp only[execOp,M];exact FD t
    rcases H with⟨J,U⟩|⟨e,J,U,R⟩
    ·refine nu (r _ _ U) ?_;rw[E];refine x _ _ _ _ (W fun b V=>?_) ((c.drawn n).put i (p:= .tuple [.bool false]) (by simp[aU,c1]));obtain⟨e,f1,f2⟩:=TS m5.2.len (Pk m5.1) V;rw[<-f2];exact J e f1
    ·obtain⟨k,v,f1,f2,f3⟩:=XH m5.2.len m5.2.inc m5.1 J;refine nu (r _ _ R) ?_;rw[E];have f:=((c.drawn n).setBox (w':={w with drawn:=n,heap:=w.heap.setIfInBounds bl (.mapIter (some mb) last (seen++[e.born]).toArray last)}) l A (cs':=[.hdi last (seen++[e.born]) last,.gmap mk]) (us:=us) (el:=el) rfl rfl rfl
      (fun j S=>Array.getElem?_setIfInBounds_ne (Ne.symm S)) Ψ (by simp[lQ,hu,(Array.getElem?_eq_some_iff.1 g).1]) (by simp only[kW,c1];exact⟨_,_,hu,by simp only[aU];exact⟨mb,m1,rfl⟩,rfl⟩))
     refine x _ _ _ _ (L e.born k v f1 U) (f.1.put i (p:= .tuple [.bool true,k,v]) ?_);simp only[aU];refine⟨_,rfl,?_⟩;simp only[c1];have s:mf w ν {w with drawn:=n} ν:=⟨fun _ _ h=>⟨h,rfl⟩,fun _ _ _ h=>h,fun _ n u _ h=>⟨n,u,h,.inl ⟨rfl,rfl⟩⟩,fun _ _ _=>rfl,fun _ _ _ _ h=>h⟩;exact⟨_,_,rfl,by simp[aU],_,_,rfl,zT f.2 (zT s f2),_,_,rfl,zT f.2 (zT s f3),rfl⟩
   ·exact he.elim
  ·exact he.elim
 ·exact he.elim
def TW{P:cG}{aS:List (Nat×eu)}(p:hW P aS=true){C:fh}{st:bo}{a:Act}{w:World}{ν:a8}(b:c5 C st a w ν){i:eO}{o:Oper}(ar:wv C.N aS i o=true){K:bo->Prop}(he:vD P st K i)
  {k:Act->World->Prop} {Q:Exit->Act->World->Prop} (g:∀st' bs w' bm,K st'->c5 C st' bs w' bm->k bs w'):o.wp P a w k Q:=by
 cases i with
 |s i=>
  simp only[vD]at he;split at he
  ·rename_i c st' l;exact apO p b (by simpa only[wv]using ar) l he.1 fun bs w' bm h=>g _ _ _ _ he.2 h
  ·exact he.elim
 |next d x=>
  simp only[vD]at he;simp only[wv]at ar;split at ar
  ·rename_i it e;simp only[cP,ey,gu]at ar;obtain⟨⟨J,U⟩,j⟩:=ar;exact amb b e J (by simpa[j4]using U) (e1 b j) he g
  ·cases ar
 |call d f xs=>
  simp only[vD]at he;simp only[wv]at ar;split at ar
  ·rename_i r args t e;simp only[cP,ey]at ar;obtain⟨⟨⟨J,U⟩,j⟩,m⟩:=ar;split at he
   ·rename_i n dE q;have:=e1 b j;rw[q]at this;exact Tg b e J U this (E9 b m) he g
   ·exact he.elim
  ·cases ar
def Pb{C:fh}{st:bo}{a:Act}{w:World}{ν:a8}(h:c5 C st a w ν){s:Nat}{b:Bool}(c:get s st.t= .bool b):c5 C {st with t:=put s (.bool b) st.t} a w ν:=by
 refine⟨h.good,h.fr,h.defers,h.size,fun i=>?_,h.new⟩;have:=h.slot i;simp only[ql];split
 ·rename_i e;subst e;rw[<-c];exact this
 ·exact this
def aci{C:fh}{st:bo}{a:Act}{w:World}{ν:a8}(h:c5 C st a w ν){ops:Array Oper}{j s:Nat}(f:(ops.toList[j]?).bind (·.dst)=some s)(l:s<C.N):
  (∀b,get s st.t= .bool b->yielded ops a.tmps j=some b)/\(get s st.t= .tuple []->yielded ops a.tmps j=none):=by
 have e:s<a.tmps.size:=by rw[h.size];exact l
 have c:=h.slot s;have i:a.tmps.getD s undef=a.tmps[s]:=by simp[Array.getD,e]
 rw[i]at c;have g:yielded ops a.tmps j=match a.tmps[s]with| .bool b=>some b|_=>none:=by unfold yielded;rw[ve]at f;rw[f];simp only[lX,Array.getElem?_eq_getElem e];cases a.tmps[s]<;>rfl
 constructor
 ·intro b d;rw[d]at c;simp only[aU]at c;rw[g,c]
 ·intro d;rw[d]at c;simp only[aU,c1]at c;obtain⟨us,k,m⟩:=c;rw[g,k]
def T1{P:cG}{aS:List (Nat×eu)}(n:hW P aS=true){C:fh}{ops:Array Oper}{K:bo->Prop}{Q:Exit->Act->World->Prop}(q:∀st' bs w' bm,K st'->c5 C st' bs w' bm->Q .normal bs w'):
  ∀(gs:List ds) (os:List Oper) (k:Nat),(∀j,os[j]? =ops[k+j]?)->k3 C.N aS ops.toList gs os=true->∀(st:bo) (a:Act) (w:World) (ν:a8),iT P gs st K->c5 C st a w ν->wpOps P ops Q (List.range' k gs.length) a w
 |[],[],k,_,_,st,a,w,ν,he,f=>by simp only[List.length_nil,List.range'_zero,wpOps];exact q _ _ _ _ he f
 |[],_::_,_,_,d,_,_,_,_,_,_=>by simp[k3]at d
 |_::_,[],_,_,d,_,_,_,_,_,_=>by simp[k3]at d
 |g::gs,o::os,k,y,d,st,a,w,ν,he,f=>by
  simp only[k3,cP]at d;have G:ops[k]? =some o:=by simpa using(y 0).symm
  have L:∀j,os[j]? =ops[k+1+j]?:=fun j=>by have:=y (j+1);simpa[Nat.add_assoc,Nat.add_comm 1 j]using this
  simp only[mI,List.range'_succ,wpOps,G];have l:∀st' bs w' bm,iT P gs st' K->c5 C st' bs w' bm->wpOps P ops Q (List.range' (k+1) gs.length) bs w':=fun st' bs w' bm J U=>T1 n q gs os (k+1) L d.2 st' bs w' bm J U;obtain⟨B,M⟩:=g;have be:=d.1;simp only[Du,cP]at be;obtain⟨i,p⟩:=be;cases B with
  |none=>
   cases c:o.guard with
   |some x=>simp[c]at i
   |none=>
    have hw:p5 o (yielded ops a.tmps)=true:=by simp[p5,c]
    rw[if_pos hw];simp only[iT]at he;exact .inl (TW n f p he l)
  |some z=>
   obtain⟨s,want⟩:=z;cases c:o.guard with
   |none=>simp[c]at i
   |some x=>
    obtain⟨j,b7⟩:=x;simp only[c,cP,ey,gu]at i;obtain⟨⟨⟨⟨rfl,U⟩,H⟩,v⟩,u⟩:=i;obtain⟨F,A⟩:=aci f U H;simp only[iT]at he;split at he
    ·rename_i b h;have m:=F b h;by_cases e:b=want
     ·subst e;have hw:p5 o (yielded ops a.tmps)=true:=by simp[p5,c,m]
      rw[if_pos hw];exact .inl (TW n (Pb f h) p (he.1 rfl) l)
     ·have hw:¬(p5 o (yielded ops a.tmps)=true):=by simp[p5,c,m,e]
      rw[if_neg hw];have r:b= !want:=by cases b<;>cases want<;>simp at e⊢
      have E:c5 C {st with t:=put s (.bool !want) st.t} a w ν:=Pb f (by rw[h,r]);rw[v];exact l _ _ _ _ (he.2 r) (E.put u (by simp[aU,c1,undef]))
    ·rename_i h;have m:=A h;have hw:¬(p5 o (yielded ops a.tmps)=true):=by simp[p5,c,m]
     rw[if_neg hw,v];exact l _ _ _ _ he (f.put u (by simp[aU,c1,undef]))
    ·exact he.elim
structure dB where
 t:Nat->af
 b:aA->bc (List af)
 e:aA->bc dT
 F:aA->Prop
structure lB where
 d:bc Nat
 p:af
 bw:List (aA×List af)
 ew:List (aA×dT)
 rm:bc aA
def jo{α:Type}(l:List (aA×α))(f:aA->bc α):aA->bc α:=fun k=>match ad k l with|some x=>some x|none=>f k
def dB.do(A:dB)(x:lB):dB:={t:=fun i=>if x.d=some i then x.p else A.t i,b:=jo x.bw A.b,e:=jo x.ew A.e,F:=fun k=>A.F k/\x.rm≠some k}
structure lB.apart (x y:lB):Prop where
 d:∀i,x.d=some i->y.d≠some i
 b:∀k,(ad k x.bw).isSome->ad k y.bw=none
 e:∀k,(ad k x.ew).isSome->ad k y.ew=none
def dB.do_comm(A:dB){x y:lB}(h:x.apart y):(A.do x).do y=(A.do y).do x:=by
 simp only[dB.do,dB.mk.injEq];refine⟨?_,?_,?_,?_⟩
 ·funext i;by_cases J:x.d=some i
  ·have:=h.d i J;simp[J,this]
  ·simp[J]
 ·funext k;simp only[jo];cases a:ad k x.bw with
  |none=>cases ad k y.bw<;>rfl
  |some u=>rw[h.b k (by simp[a])]
 ·funext k;simp only[jo];cases a:ad k x.ew with
  |none=>cases ad k y.ew<;>rfl
  |some u=>rw[h.e k (by simp[a])]
 ·funext k;exact propext ⟨fun h=>⟨⟨h.1.1,h.2⟩,h.1.2⟩,fun h=>⟨⟨h.1.1,h.2⟩,h.1.2⟩⟩
def dV(t:Nat->af):dM->af
 | .t i=>t i
 | .c p=>p
def tl(b:aA->bc (List af))(e:aA->bc dT)(agg:Bool)(sz:Nat):af->bc (Prop×af)
 | .rptr a k n i f=>zU agg sz a n i f (e k)
 | .ptr k off=>
  match b k with
  |some cs=>if agg then some (gR cs=true/\off+sz<=cs.length,.agg ((cs.drop off).take sz))else(cs[off]?).map fun p=>(gR cs=true,p)
  |none=>none
 | .eptr p=>if agg then some (qA sz p,p)else some (eS p=true/\cells p=[p],p)
 |_=>none
def yC(t:Nat->af):List af->List (Nat×Nat×dM)->bc (Prop×List af)
 |cs,[]=>some (True,cs)
 |cs,(off,sz,x)::r=>
  match yC t (nq cs off (cells (dV t x))) r with
  |some (c,cs')=>some ((eS (dV t x)=true/\(cells (dV t x)).length=sz/\off+sz<=cs.length)/\c,cs')
  |none=>none
def qO(t:Nat->af)(b:aA->bc (List af))(e:aA->bc dT):gL->bc (Prop×af)
 | .mov x=>some (True,dV t x)
 | .pick c x y=>IF (dV t c) (dV t x) (dV t y)
 | .load agg sz x=>tl b e agg sz (dV t x)
 | .faddr off agg sz x=>sG off agg sz (dV t x)
 | .fld off agg sz x=>vH off agg sz (dV t x)
 | .iaddr sz x i=>Bx sz (dV t x) (dV t i)
 | .sidx x i=>Jr (dV t x) (dV t i)
 | .ssl x lo hi=>Jw (dV t x) (lo.map (dV t)) (hi.map (dV t))
 | .lsl sz x lo hi=>H9 sz (dV t x) (lo.map (dV t)) (hi.map (dV t))
 | .bin op wr x y=>CX op wr (dV t x) (dV t y)
 | .notB x=>Ir (dV t x)
 | .neg x=>Im (dV t x)
 | .conv k x=>Gv k (dV t x)
 | .ext i x=>AO i (dV t x)
 | .len x=>BI (dV t x)
 | .slen x=>Fm (dV t x)
 | .build zero parts=>(yC t zero parts).map fun(c,cs)=>(c,.agg cs)
 | .nck x=>BW (dV t x)
 | .min2 x y=>Ij (dV t x) (dV t y)
 | .mkf n xs=>some (True,.func n (xs.map (dV t)))
 | .mget a zero ok x k=>o7 b a zero ok (dV t x) (dV t k)
 | .ment x=>qD b (dV t x)
 | .mlen x=>BV b (dV t x)
 | .beq neg d x y=>jm neg d (dV t x) (dV t y)
 | .max2 x y=>Ie (dV t x) (dV t y)
 | .mkif n x=>some (True,.iface n (dV t x))
 | .loadB agg sz x=>tl b (fun _=>none) agg sz (dV t x)
 | .mgetB a zero ok x k=>o7 b a zero ok (dV t x) (dV t k)
 | .loadZ agg sz x=>Ds agg sz (dV t x)
 | .b2s x=>F6 (dV t x)
structure me (st:bo) (A:dB):Prop where
 t:∀i,get i st.t=A.t i
 b:∀k,ad k st.b=A.b k
 e:∀k,ad k st.e=A.e k
def jB{st:bo}{A:dB}(h:me st A)(x:dM):cD st.t x=dV A.t x:=by
 cases x
 ·exact h.t _
 ·rfl
def vF{st:bo}{A:dB}(h:me st A):cD st.t=dV A.t:=funext (jB h)
def alj{st:bo}{A:dB}(h:me st A)(agg:Bool)(sz:Nat)(p:af):nR st.b st.e agg sz p=tl A.b A.e agg sz p:=by
 cases p<;>simp only[nR,tl]
 ·rw[h.b];try rfl
 ·rw[h.e]
def alk{st:bo}{A:dB}(h:me st A)(agg:Bool)(sz:Nat)(p:af):nR st.b [] agg sz p=tl A.b (fun _=>none) agg sz p:=by
 cases p<;>simp only[nR,tl]
 ·rw[h.b];try rfl
 ·rfl
def Rb{st:bo}{A:dB}(h:me st A):∀(parts:List (Nat×Nat×dM)) (cs:List af),vA st.t cs parts=yC A.t cs parts
 |[],cs=>rfl
 |(off,sz,x)::r,cs=>by simp only[vA,yC,jB h,Rb h r];try rfl
def abA{st:bo}{A:dB}(h:me st A)(i:gL):hX st i=qO A.t A.b A.e i:=by have a:(fun k=>ad k st.b)=A.b:=funext h.b;cases i<;>simp only[hX,qO,vF h,alj h,alk h,Rb h,a]
def ia:dM->List Nat
 | .t i=>[i]
 | .c _=>[]
def OA:bc dM->List Nat
 |some x=>ia x
 |none=>[]
def gL.looks:gL->List Nat
 | .mov x| .load _ _ x| .loadB _ _ x| .loadZ _ _ x| .faddr _ _ _ x| .fld _ _ _ x| .notB x| .neg x| .conv _ x| .ext _ x| .len x| .slen x| .nck x| .ment x| .mlen x| .mkif _ x| .b2s x=>ia x
 | .pick c x y=>ia c++ia x++ia y
 | .iaddr _ x i| .sidx x i=>ia x++ia i
 | .ssl x lo hi| .lsl _ x lo hi=>ia x++OA lo++OA hi
 | .bin _ _ x y| .min2 x y| .max2 x y| .beq _ _ x y=>ia x++ia y
 | .build _ a=>a.flatMap fun p=>ia p.2.2
 | .mkf _ xs=>xs.flatMap ia
 | .mget _ _ _ x k| .mgetB _ _ _ x k=>ia x++ia k
def eT.looks:eT->List Nat
 | .v _ i=>i.looks
 | .box _ _ x=>ia x
 | .alloc _ _ _=>[]
 | .store _ x y=>ia x++ia y
 | .storeE _ x y=>ia x++ia y
 | .bsl _ _ _ xs=>xs.flatMap ia
 | .app _ _ _ x y=>ia x++ia y
 | .bslm _ _ _ _ xs=>xs.flatMap ia
 | .mks _ _ _ _ _ x=>ia x
 | .appm _ _ _ _ x y=>ia x++ia y
 | .mkmap _ _=>[]
 | .mput _ x k y=>ia x++ia k++ia y
 | .range _ _ x=>ia x
def eO.looks:eO->List Nat
 | .s i=>i.looks
 | .call _ f xs=>ia f++xs.flatMap ia
 | .next _ x=>ia x
def ds.looks(g:ds):List Nat:=(match g.g with|some (s,_)=>[s]|none=>[])++g.i.looks
def rO(l:List Nat)(t t':Nat->af):Prop:= ∀i∈l,t i=t' i
def hh{t t':Nat->af}{x:dM}(h:rO (ia x) t t'):dV t x=dV t' x:=by
 cases x
 ·exact h _ (by simp[ia])
 ·rfl
def kZ{l a:List Nat}{t t':Nat->af}(h:rO (l++a) t t'):rO l t t'/\rO a t t':=⟨fun i hi=>h i (by simp[hi]),fun i hi=>h i (by simp[hi])⟩
def GJ{t t':Nat->af}{x:bc dM}(h:rO (OA x) t t'):x.map (dV t)=x.map (dV t'):=by
 cases x
 ·rfl
 ·simp[hh h]
def Ra{t t':Nat->af}:∀{parts:List (Nat×Nat×dM)} {cs:List af},rO (parts.flatMap fun p=>ia p.2.2) t t'->yC t cs parts=yC t' cs parts
 |[],cs,_=>rfl
 |(off,sz,x)::r,cs,h=>by simp only[List.flatMap_cons]at h;obtain⟨J,U⟩:=kZ h;simp only[yC,hh J,Ra U]
def Ic{t t':Nat->af}:∀{xs:List dM},rO (xs.flatMap ia) t t'->xs.map (dV t)=xs.map (dV t')
 |[],_=>rfl
 |x::xs,h=>by simp only[List.flatMap_cons]at h;obtain⟨J,U⟩:=kZ h;simp[hh J,Ic U]
def gL.isLoad:gL->Bool
 | .load _ _ _=>true
 | .loadB _ _ _=>true
 | .mgetB _ _ _ _ _=>true
 | .mget _ _ _ _ _=>true
 | .ment _=>true
 | .mlen _=>true
 |_=>false
def aqQ{t t':Nat->af}{b b7:aA->bc (List af)}{e f:aA->bc dT}{i:gL}(h:rO i.looks t t')(a:i.isLoad=false):qO t b e i=qO t' b7 f i:=by
 cases i<;>simp only[gL.looks]at h<;>simp only[qO];case load agg sz x=>simp[gL.isLoad]at a
 case loadB agg sz x=>simp[gL.isLoad]at a
 case pick c x y=>obtain⟨J,d⟩:=kZ h;obtain⟨J,U⟩:=kZ J;rw[hh J,hh U,hh d]
 case iaddr=>obtain⟨J,U⟩:=kZ h;rw[hh J,hh U]
 case sidx=>obtain⟨J,U⟩:=kZ h;rw[hh J,hh U]
 case ssl=>obtain⟨J,d⟩:=kZ h;obtain⟨J,U⟩:=kZ J;rw[hh J,GJ U,GJ d]
 case lsl=>obtain⟨J,d⟩:=kZ h;obtain⟨J,U⟩:=kZ J;rw[hh J,GJ U,GJ d]
 case bin=>obtain⟨J,U⟩:=kZ h;rw[hh J,hh U]
 case min2=>obtain⟨J,U⟩:=kZ h;rw[hh J,hh U]
 case build=>rw[Ra h]
 case mkf=>rw[Ic h]
 case mget=>simp[gL.isLoad]at a
 case mgetB=>simp[gL.isLoad]at a
 case ment=>simp[gL.isLoad]at a
 case mlen=>simp[gL.isLoad]at a
 case max2=>obtain⟨J,U⟩:=kZ h;rw[hh J,hh U]
 case beq=>obtain⟨J,U⟩:=kZ h;rw[hh J,hh U]
 all_goals rw[hh h]
end
end Go.Pv
