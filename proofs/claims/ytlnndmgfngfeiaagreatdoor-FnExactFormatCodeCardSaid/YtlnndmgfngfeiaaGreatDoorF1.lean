/- Regions in the order of their text; code; functions. -/
import Derived.WalkKit
import Derived.Orders
import Derived.KernelRfl
import Derived.IntWalk
import Derived.Laws.StructEq
import Derived.ChangeKeysEq
import Derived.MapKept
import Derived.ArgAppend
import Derived.Deep.AppendSrc
import Derived.Laws.OwnMore
set_option linter.all false
set_option maxHeartbeats 4000000
set_option maxRecDepth 4000
namespace Go
theorem Ω{p:Prop}(h:p:=by omega):p:=h
theorem Ψ{p:Prop}(h:p:=by simp):p:=h
end Go
open Bool renaming and_eq_true->bE,false_eq_true->jX
open ByteArray renaming empty->YH,ext->Up,push->YI,size->JW
open Go renaming Program->bM,TypeId->eZ
open Go.Builtin renaming append_->oz
open Go.ByteArray renaming toList_eq->Uq
open Go.IntKind renaming i64->mQ
open Go.IntWalk renaming i64_in->pD
open Go.Region renaming wanted->ls
open Go.Result renaming andThen_ok->eo
open Go.Sem renaming run_bind->ef,run_pure->eU
open Go.Value renaming cells->km,int->kY,ownBlock->kI
open Go.Value.pointer renaming injEq->YO
open Go.World.grownBy renaming refl->Ur
open List renaming all_eq_true->kZ,cons_append->oA,eq_nil_of_length_eq_zero->pE,getElem?_append_left->nC,getElem?_eq_getElem->cB,getElem?_eq_some_iff->dw,length_append->dh,length_cons->hy,length_map->kn,length_nil->l5,length_pos_iff->oB,map_cons->ez,map_nil->mS,mem_append->nD,mem_append_left->nE,mem_cons->hT,take_length->jY
open List.cons renaming injEq->tb
open Nat renaming le_refl->c7
open Option renaming isSome_iff_exists->eK,map_eq_some_iff->jZ
open Option.some renaming injEq->dt
open Prod.mk renaming injEq->hz
open UInt8 renaming ofNat->nF
open _root_ renaming ByteArray->iI,False->dz,Option->bf,UInt8->bt,beq_iff_eq->cD,congrArg->fa,decide_eq_true_eq->fY,if_neg->bu
namespace Go.Pv
section
open Go Go.RowKit
inductive aw where
 |loc (s:Nat)
 |obj (n:Nat)
 deriving DecidableEq,Inhabited
inductive ti where
 |no
 |nil
 |own (k:aw)
 |tr (k:aw) (j:Nat)
 |lo (k:aw)
 deriving DecidableEq,Inhabited
inductive ae where
 |junk
 |int (k:IntKind) (n:Int)
 |bool (b:Bool)
 |str (s:List bt)
 |slice (sz:Nat) (tag:ti) (xs:List ae)
 |agg (cs:List ae)
 |ptr (key:aw) (off:Nat)
 |eptr (x:ae)
 |iface (t:Nat) (x:ae)
 |nilp
 |tuple (vs:List ae)
 |func (f:Nat) (cY:List ae)
 |gmap (key:aw)
 |row (sz:Nat) (key:aw) (n:Nat)
 |rptr (sz:Nat) (key:aw) (n i f:Nat)
 |hdm (clock:Nat) (borns:List Nat)
 |hdi (since:Nat) (seen:List Nat) (last:Nat)
 |cst (v:Value)
 deriving Inhabited
structure aM where
 A:Nat->Nat->Prop
 bx:aw->bf Nat
 ow:aw->bf (Nat×Value)
 tr:aw->Nat->Nat->Prop
def aX:Nat:=68719476736
def ik(w:World)(A:Nat->Nat->Prop)(b:Nat):Nat->List Value->Prop
 |_,[]=>True
 |off,u::us=>(A b off/\w.cell? ⟨b,off,none⟩=some u)/\ik w A b (off+1) us
def shape(w:World)(b:Nat):bf (Nat×eZ×(Nat×Nat)):=
 match w.heap[b]? with
 |some (.cells cur el fz)=>some (cur.size,el,fz)
 |_=>none
theorem sV{w w':World}{b:Nat}(h:w'.heap[b]? =w.heap[b]?):shape w' b=shape w b:=by unfold shape;rw[h]
mutual
def cW(t:Bool)(w:World)(A:Nat->Nat->Prop)(F:Nat->Prop):ae->Value->Prop
 | .int k n,v=>v= .int k n
 | .bool b,v=>v= .bool b
 | .str s,v=>v= .string ⟨s.toArray⟩/\s.length<=aX
 | .slice sz _ xs,v=> ∃a cap,v= .slice a xs.length cap/\xs.length<=cap/\(cap<=maxLen/\xs.length<=aX)/\
   (xs=[]\/ ∃b off us G,a=some ⟨b,off,none⟩/\F b/\(∀c,G c->F c/\(t=true->c≠b))/\ik w A b off us/\(t=true->off=0/\0<us.length/\∃el,shape w b=some (cap*sz,el,(0,0)))/\k9 t w A G sz xs us)
 | .agg cs,v=> ∃us:Array Value,v= .agg us/\la t w A F cs us.toList
 |_,_=>dz
def la(t:Bool)(w:World)(A:Nat->Nat->Prop)(F:Nat->Prop):List ae->List Value->Prop
 |[],us=>us=[]
 |c::cs,us=> ∃u bh hU hV,us=u::bh/\((∀b,hU b->F b)/\(∀b,hV b->F b)/\(t=true->∀b,hU b->¬hV b))/\(cW t w A hU c u/\u.oneCell'=true)/\la t w A hV cs bh
def k9(t:Bool)(w:World)(A:Nat->Nat->Prop)(F:Nat->Prop)(sz:Nat):List ae->List Value->Prop
 |[],us=>us=[]
 |x::xs,us=> ∃u bh hU hV,us=u.cells.toList++bh/\((∀b,hU b->F b)/\(∀b,hV b->F b)/\(t=true->∀b,hU b->¬hV b))/\(cW t w A hU x u/\u.cells.size=sz/\(∀c∈u.cells.toList,c.oneCell'=true))/\k9 t w A hV sz xs bh
end
mutual
def aJ(w:World)(ν:aM):ae->Value->Prop
 | .junk,_=>True
 | .int k n,v=>v= .int k n
 | .bool b,v=>v= .bool b
 | .str s,v=>v= .string ⟨s.toArray⟩/\s.length<=aX
 | .slice sz tag xs,v=>
   (∃a cap,v= .slice a xs.length cap/\xs.length<=cap/\(cap<=maxLen/\xs.length<=aX)/\(xs=[]\/ ∃b off us,a=some ⟨b,off,none⟩/\ik w ν.A b off us/\cf w ν sz xs us))/\
   (tag= .nil->v= .slice none 0 0)/\
   (∀g,tag= .own g->∃n u,ν.ow g=some (n,u)/\xs.length<=n/\(xs.length=n->v=u))/\
   (∀k j,tag= .tr k j->cW true w ν.A (ν.tr k j) (.slice sz tag xs) v)/\(∀k,tag= .lo k->cW false w ν.A (ν.tr k 0) (.slice sz tag xs) v)
 | .agg cs,v=> ∃us:Array Value,v= .agg us/\bW w ν cs us.toList
 | .ptr key off,v=> ∃b,ν.bx key=some b/\v= .pointer (some ⟨b,off,none⟩)
 | .eptr x,v=> ∃b off u,v= .pointer (some ⟨b,off,none⟩)/\aJ w ν x u/\ik w ν.A b off u.cells.toList
 | .iface t x,v=> ∃u,v= .iface t u/\aJ w ν x u
 | .nilp,v=>v= .pointer none
 | .tuple vs,v=> ∃us:Array Value,v= .tuple us/\b4 w ν vs us.toList
 | .func f cY,v=> ∃us:Array Value,v= .func (.func f) #[] us/\b4 w ν cY us.toList
 | .gmap key,v=> ∃b,ν.bx key=some b/\v= .map (some b)
 | .row _ key n,v=>(∃b cap,v= .slice (some ⟨b,0,none⟩) n cap)/\n<=aX/\∃n' u,ν.ow key=some (n',u)/\n<=n'/\(n=n'->v=u)
 | .rptr sz key n i f,v=>(∃b o,v= .pointer (some ⟨b,o,none⟩))/\i<n/\∃n' u,ν.ow key=some (n',u)/\n<=n'/\(n=n'->∃b,u.ownBlock=some b/\v= .pointer (some ⟨b,i*sz+f,none⟩))
 | .hdm _ _,_=>dz
 | .hdi _ _ _,_=>dz
 | .cst c,v=>v=c
def bW(w:World)(ν:aM):List ae->List Value->Prop
 |[],us=>us=[]
 |c::cs,us=> ∃u bh,us=u::bh/\(aJ w ν c u/\u.oneCell'=true)/\bW w ν cs bh
def b4(w:World)(ν:aM):List ae->List Value->Prop
 |[],us=>us=[]
 |c::cs,us=> ∃u bh,us=u::bh/\aJ w ν c u/\b4 w ν cs bh
def cf(w:World)(ν:aM)(sz:Nat):List ae->List Value->Prop
 |[],us=>us=[]
 |x::xs,us=> ∃u bh,us=u.cells.toList++bh/\(aJ w ν x u/\u.cells.size=sz/\(∀c∈u.cells.toList,c.oneCell'=true))/\cf w ν sz xs bh
end
theorem ra{w w':World}{A A':Nat->Nat->Prop}{b:Nat}(aY:∀b o,A b o->A' b o/\w'.cell? ⟨b,o,none⟩=w.cell? ⟨b,o,none⟩):
  ∀(us:List Value) (off:Nat),ik w A b off us->ik w' A' b off us
 |[],_,_=>trivial
 |_::us,off,h=>⟨⟨(aY _ _ h.1.1).1,(aY _ _ h.1.1).2.trans h.1.2⟩,ra aY us (off+1) h.2⟩
mutual
theorem r2{t:Bool}{w w':World}{A A':Nat->Nat->Prop}(aY:∀b o,A b o->A' b o/\w'.cell? ⟨b,o,none⟩=w.cell? ⟨b,o,none⟩)(al:∀b o,A b o->shape w' b=shape w b):∀(p:ae) (F lx:Nat->Prop) (v:Value),(∀b,F b->lx b)->cW t w A F p v->cW t w' A' lx p v
 | .int k n,_,_,_,_,h=>by simp only[cW]at h⊢;exact h
 | .bool b,_,_,_,_,h=>by simp only[cW]at h⊢;exact h
 | .str s,_,_,_,_,h=>by simp only[cW]at h⊢;exact h
 | .slice sz tag xs,F,lx,v,eR,h=>by
  simp only[cW]at h⊢;obtain⟨a,cap,I,J,ak,aV⟩:=h;refine⟨a,cap,I,J,ak,?_⟩;rcases aV with aV|⟨b,off,us,G,aj,aR,bm,c1,gE,hI⟩
  ·exact .inl aV
  ·refine .inr ⟨b,off,us,G,aj,eR _ aR,fun c aQ=>⟨eR _ (bm c aQ).1,(bm c aQ).2⟩,ra aY _ _ c1,fun aG=>?_,xF aY al xs G G _ (fun _ h=>h) hI⟩;obtain⟨f1,f2,el,f3⟩:=gE aG;refine⟨f1,f2,el,?_⟩;cases us with
   |nil=>simp at f2
   |cons u us=>rw[al b off c1.1.1];exact f3
 | .agg cs,F,lx,v,eR,h=>by simp only[cW]at h⊢;obtain⟨us,I,J⟩:=h;exact⟨us,I,FH aY al cs F lx _ eR J⟩
 | .junk,_,_,_,_,h=>by simp[cW]at h
 | .ptr _ _,_,_,_,_,h=>by simp[cW]at h
 | .eptr _,_,_,_,_,h=>by simp[cW]at h
 | .iface _ _,_,_,_,_,h=>by simp[cW]at h
 | .nilp,_,_,_,_,h=>by simp[cW]at h
 | .tuple _,_,_,_,_,h=>by simp[cW]at h
 | .func _ _,_,_,_,_,h=>by simp[cW]at h
 | .gmap _,_,_,_,_,h=>by simp[cW]at h
 | .row _ _ _,_,_,_,_,h=>by simp[cW]at h
 | .rptr _ _ _ _ _,_,_,_,_,h=>by simp[cW]at h
 | .hdm _ _,_,_,_,_,h=>by simp[cW]at h
 | .hdi _ _ _,_,_,_,_,h=>by simp[cW]at h
 | .cst _,_,_,_,_,h=>by simp[cW]at h
theorem FH{t:Bool}{w w':World}{A A':Nat->Nat->Prop}(aY:∀b o,A b o->A' b o/\w'.cell? ⟨b,o,none⟩=w.cell? ⟨b,o,none⟩)(al:∀b o,A b o->shape w' b=shape w b):∀(cs:List ae) (F lx:Nat->Prop) (us:List Value),(∀b,F b->lx b)->la t w A F cs us->la t w' A' lx cs us
 |[],_,_,_,_,h=>by simp only[la]at h⊢;exact h
 |c::cs,F,lx,us,eR,h=>by simp only[la]at h⊢;obtain⟨u,bh,hU,hV,I,⟨J,ak,aV⟩,⟨bn,cb⟩,eC⟩:=h;exact⟨u,bh,hU,hV,I,⟨fun b af=>eR _ (J b af),fun b af=>eR _ (ak b af),aV⟩,⟨r2 aY al c hU hU u (fun _ h=>h) bn,cb⟩,FH aY al cs hV hV bh (fun _ h=>h) eC⟩
theorem xF{t:Bool}{w w':World}{A A':Nat->Nat->Prop}(aY:∀b o,A b o->A' b o/\w'.cell? ⟨b,o,none⟩=w.cell? ⟨b,o,none⟩)(al:∀b o,A b o->shape w' b=shape w b){sz:Nat}:∀(cs:List ae) (F lx:Nat->Prop) (us:List Value),(∀b,F b->lx b)->k9 t w A F sz cs us->k9 t w' A' lx sz cs us
 |[],_,_,_,_,h=>by simp only[k9]at h⊢;exact h
 |c::cs,F,lx,us,eR,h=>by simp only[k9]at h⊢;obtain⟨u,bh,hU,hV,I,⟨J,ak,aV⟩,⟨bn,cb⟩,eC⟩:=h;exact⟨u,bh,hU,hV,I,⟨fun b af=>eR _ (J b af),fun b af=>eR _ (ak b af),aV⟩,⟨r2 aY al c hU hU u (fun _ h=>h) bn,cb⟩,xF aY al cs hV hV bh (fun _ h=>h) eC⟩
end
mutual
def aH(S:aw->Prop):ae->Prop
 | .slice _ tag xs=>(match tag with| .own k=>S k| .tr k _=>S k| .lo k=>S k|_=>True)/\aB S xs
 | .agg cs=>aB S cs
 | .ptr k _=>S k
 | .eptr x=>aH S x
 | .iface _ x=>aH S x
 | .tuple vs=>aB S vs
 | .func _ cY=>aB S cY
 | .gmap k=>S k
 | .row _ k _=>S k
 | .rptr _ k _ _ _=>S k
 |_=>True
def aB(S:aw->Prop):List ae->Prop
 |[]=>True
 |x::xs=>aH S x/\aB S xs
end
mutual
theorem sD{S T:aw->Prop}(h:∀k,S k->T k):∀p:ae,aH S p->aH T p
 | .junk,_=>by simp[aH]
 | .int _ _,_=>by simp[aH]
 | .bool _,_=>by simp[aH]
 | .str _,_=>by simp[aH]
 | .slice sz tag xs,bB=>by simp only[aH]at bB⊢;exact⟨by cases tag<;>first|trivial|exact h _ bB.1,q7 h xs bB.2⟩
 | .agg cs,bB=>by simp only[aH]at bB⊢;exact q7 h cs bB
 | .ptr k _,bB=>by simp only[aH]at bB⊢;exact h _ bB
 | .eptr x,bB=>by simp only[aH]at bB⊢;exact sD h x bB
 | .iface _ x,bB=>by simp only[aH]at bB⊢;exact sD h x bB
 | .nilp,_=>by simp[aH]
 | .tuple vs,bB=>by simp only[aH]at bB⊢;exact q7 h vs bB
 | .func _ cY,bB=>by simp only[aH]at bB⊢;exact q7 h cY bB
 | .gmap k,bB=>by simp only[aH]at bB⊢;exact h _ bB
 | .row _ k _,bB=>by simp only[aH]at bB⊢;exact h _ bB
 | .rptr _ k _ _ _,bB=>by simp only[aH]at bB⊢;exact h _ bB
 | .hdm _ _,_=>by simp[aH]
 | .hdi _ _ _,_=>by simp[aH]
 | .cst _,_=>by simp[aH]
theorem q7{S T:aw->Prop}(h:∀k,S k->T k):∀bD:List ae,aB S bD->aB T bD
 |[],_=>by simp[aB]
 |x::xs,bB=>by simp only[aB]at bB⊢;exact⟨sD h x bB.1,q7 h xs bB.2⟩
end
mutual
theorem yq:∀p:ae,aH (fun _=>True) p
 | .junk=>by simp[aH]
 | .int _ _=>by simp[aH]
 | .bool _=>by simp[aH]
 | .str _=>by simp[aH]
 | .slice sz tag xs=>by simp only[aH];exact⟨by cases tag<;>trivial,q8 xs⟩
 | .agg cs=>by simp only[aH];exact q8 cs
 | .ptr k _=>by simp[aH]
 | .eptr x=>by simp only[aH];exact yq x
 | .iface _ x=>by simp only[aH];exact yq x
 | .nilp=>by simp[aH]
 | .tuple vs=>by simp only[aH];exact q8 vs
 | .func _ cY=>by simp only[aH];exact q8 cY
 | .gmap k=>by simp[aH]
 | .row _ k _=>by simp[aH]
 | .rptr _ k _ _ _=>by simp[aH]
 | .hdm _ _=>by simp[aH]
 | .hdi _ _ _=>by simp[aH]
 | .cst _=>by simp[aH]
theorem q8:∀bD:List ae,aB (fun _=>True) bD
 |[]=>by simp[aB]
 |x::xs=>by simp only[aB];exact⟨yq x,q8 xs⟩
end
def eE:List Nat->List Value->List MapEntry
 |b::dN,k::v::r=>⟨k,v,b⟩::eE dN r
 |_,_=>[]
def hl(cs:List ae)(us:Array Value)(el:eZ):Obj:=
 match cs with
 | .hdm clock borns::_=>.map (eE borns us.toList).toArray clock
 | .hdi since seen last::_=>.mapIter (match us.toList with|[.map m]=>m|_=>none) since seen.toArray last
 |_=>.cells us el
structure Qq (clock:Nat) (borns:List Nat) (r:List ae):Prop where
 len:r.length=2*borns.length
 inc:borns.Pairwise (· < ·)
 lt:∀b∈borns,b<clock
def gB(w:World)(ν:aM)(cs:List ae)(us:List Value):Prop:=
 match cs with
 | .hdm clock borns::r=>b4 w ν r us/\Qq clock borns r
 | .hdi _ _ _::r=>b4 w ν r us
 |cs=>bW w ν cs us
def gH:List ae->Bool
 | .hdm _ _::_=>false
 | .hdi _ _ _::_=>false
 |_=>true
theorem sO{w:World}{ν:aM}{cs:List ae}{us:List Value}(h:bW w ν cs us):gH cs=true:=by
 unfold gH;split
 ·simp only[bW,aJ]at h;obtain⟨_,_,_,⟨h,_⟩,_⟩:=h;exact h.elim
 ·simp only[bW,aJ]at h;obtain⟨_,_,_,⟨h,_⟩,_⟩:=h;exact h.elim
 ·rfl
theorem mF{cs:List ae}(h:gH cs=true)(us:Array Value)(el:eZ):hl cs us el= .cells us el:=by
 unfold gH at h;unfold hl;split at h<;>first|cases h|skip
 rfl
theorem lT{w:World}{ν:aM}{cs:List ae}(h:gH cs=true)(us:List Value):gB w ν cs us=bW w ν cs us:=by
 unfold gH at h;unfold gB;split at h<;>first|cases h|skip
 rfl
structure k2 (S:aw->Prop) (w:World) (ν:aM) (w':World) (ν':aM):Prop where
 A:∀b o,ν.A b o->ν'.A b o/\w'.cell? ⟨b,o,none⟩=w.cell? ⟨b,o,none⟩
 bx:∀k b,S k->ν.bx k=some b->ν'.bx k=some b
 ow:∀g n u,S g->ν.ow g=some (n,u)->∃n' dZ,ν'.ow g=some (n',dZ)/\(n'=n/\dZ=u\/n<n')
 sh:∀b o,ν.A b o->shape w' b=shape w b
 tr:∀k j b,S k->ν.tr k j b->ν'.tr k j b
abbrev jH:=k2 (fun _=>True)
mutual
theorem oq{S:aw->Prop}{w w':World}{ν ν':aM}(ah:k2 S w ν w' ν'):∀(p:ae) (v:Value),aH S p->aJ w ν p v->aJ w' ν' p v
 | .junk,_,_,_=>by simp[aJ]
 | .int k n,_,_,h=>by simp only[aJ]at h⊢;exact h
 | .bool b,_,_,h=>by simp only[aJ]at h⊢;exact h
 | .str s,_,_,h=>by simp only[aJ]at h⊢;exact h
 | .slice sz tag xs,v,aa,h=>by
  simp only[aJ,aH]at h aa⊢;obtain⟨⟨a,cap,I,J,ak,aV⟩,bn,cb,hY,dv⟩:=h;refine⟨⟨a,cap,I,J,ak,?_⟩,bn,fun g aT=>?_,fun k j fP=>?_,fun k fP=>?_⟩
  ·rcases aV with aV|⟨b,off,us,aV,cb,eC⟩
   ·exact .inl aV
   ·exact .inr ⟨b,off,us,aV,ra ah.A _ _ cb,y3 ah sz xs us aa.2 eC⟩
  ·obtain⟨n,u,aj,aR,bm⟩:=cb g aT;subst aT;obtain⟨n',dZ,f1,f2⟩:=ah.ow g n u aa.1 aj;refine⟨n',dZ,f1,?_⟩;rcases f2 with⟨rfl,rfl⟩|f2
   ·exact⟨aR,bm⟩
   ·exact⟨Ω,fun e=>Ω⟩
  ·have:=hY k j fP;subst fP;exact r2 ah.A ah.sh _ _ _ _ (fun b=>ah.tr k j b aa.1) this
  ·have:=dv k fP;subst fP;exact r2 ah.A ah.sh _ _ _ _ (fun b=>ah.tr k 0 b aa.1) this
 | .agg cs,v,aa,h=>by simp only[aJ,aH]at h aa⊢;obtain⟨us,I,J⟩:=h;exact⟨us,I,y5 ah cs _ aa J⟩
 | .ptr key off,v,aa,h=>by simp only[aJ,aH]at h aa⊢;obtain⟨b,I,J⟩:=h;exact⟨b,ah.bx _ _ aa I,J⟩
 | .iface t x,v,aa,h=>by simp only[aJ,aH]at h aa⊢;obtain⟨u,I,J⟩:=h;exact⟨u,I,oq ah x u aa J⟩
 | .eptr x,v,aa,h=>by simp only[aJ,aH]at h aa⊢;obtain⟨b,off,u,I,J,ak⟩:=h;exact⟨b,off,u,I,oq ah x u aa J,ra ah.A _ _ ak⟩
 | .nilp,_,_,h=>by simp only[aJ]at h⊢;exact h
 | .tuple vs,v,aa,h=>by simp only[aJ,aH]at h aa⊢;obtain⟨us,I,J⟩:=h;exact⟨us,I,uH ah vs _ aa J⟩
 | .func f cY,v,aa,h=>by simp only[aJ,aH]at h aa⊢;obtain⟨us,I,J⟩:=h;exact⟨us,I,uH ah cY _ aa J⟩
 | .gmap key,v,aa,h=>by simp only[aJ,aH]at h aa⊢;obtain⟨b,I,J⟩:=h;exact⟨b,ah.bx _ _ aa I,J⟩
 | .row sz key n,v,aa,h=>by
  simp only[aJ,aH]at h aa⊢;obtain⟨I,J,n',u,ak,aV,bn⟩:=h;obtain⟨ey,hS,f1,f2⟩:=ah.ow key n' u aa ak;refine⟨I,J,ey,hS,f1,?_⟩;rcases f2 with⟨rfl,rfl⟩|f2
  ·exact⟨aV,bn⟩
  ·exact⟨Ω,fun e=>Ω⟩
 | .rptr sz key n i f,v,aa,h=>by
  simp only[aJ,aH]at h aa⊢;obtain⟨I,J,n',u,ak,aV,bn⟩:=h;obtain⟨ey,hS,f1,f2⟩:=ah.ow key n' u aa ak;refine⟨I,J,ey,hS,f1,?_⟩;rcases f2 with⟨rfl,rfl⟩|f2
  ·exact⟨aV,bn⟩
  ·exact⟨Ω,fun e=>Ω⟩
 | .hdm _ _,_,_,h=>by simp only[aJ]at h
 | .hdi _ _ _,_,_,h=>by simp only[aJ]at h
 | .cst c,_,_,h=>by simp only[aJ]at h⊢;exact h
theorem y5{S:aw->Prop}{w w':World}{ν ν':aM}(ah:k2 S w ν w' ν'):∀(cs:List ae) (us:List Value),aB S cs->bW w ν cs us->bW w' ν' cs us
 |[],_,_,h=>by simp only[bW]at h⊢;exact h
 |c::cs,us,aa,h=>by simp only[bW,aB]at h aa⊢;obtain⟨u,bh,I,J,ak⟩:=h;exact⟨u,bh,I,⟨oq ah c u aa.1 J.1,J.2⟩,y5 ah cs bh aa.2 ak⟩
theorem uH{S:aw->Prop}{w w':World}{ν ν':aM}(ah:k2 S w ν w' ν'):∀(cs:List ae) (us:List Value),aB S cs->b4 w ν cs us->b4 w' ν' cs us
 |[],_,_,h=>by simp only[b4]at h⊢;exact h
 |c::cs,us,aa,h=>by simp only[b4,aB]at h aa⊢;obtain⟨u,bh,I,J,ak⟩:=h;exact⟨u,bh,I,oq ah c u aa.1 J,uH ah cs bh aa.2 ak⟩
theorem y3{S:aw->Prop}{w w':World}{ν ν':aM}(ah:k2 S w ν w' ν')(sz:Nat):∀(xs:List ae) (us:List Value),aB S xs->cf w ν sz xs us->cf w' ν' sz xs us
 |[],_,_,h=>by simp only[cf]at h⊢;exact h
 |x::xs,us,aa,h=>by simp only[cf,aB]at h aa⊢;obtain⟨u,bh,I,⟨J,ak,aV⟩,bn⟩:=h;exact⟨u,bh,I,⟨oq ah x u aa.1 J,ak,aV⟩,y3 ah sz xs bh aa.2 bn⟩
end
theorem Iv{S:aw->Prop}{w w':World}{ν ν':aM}(ah:k2 S w ν w' ν'){cs:List ae}{us:List Value}(aa:aB S cs)(h:gB w ν cs us):gB w' ν' cs us:=by
 unfold gB at h⊢;split
 ·simp only[aB]at aa;exact⟨uH ah _ _ aa.2 h.1,h.2⟩
 ·simp only[aB]at aa;exact uH ah _ _ aa.2 h
 ·rename_i I J;split at h
  ·exact absurd rfl (I _ _ _)
  ·exact absurd rfl (J _ _ _ _)
  ·exact y5 ah _ _ aa h
section
variable {w w':World} {ν ν':aM} (ah:jH w ν w' ν')
include ah
theorem qo{p:ae}{v:Value}(h:aJ w ν p v):aJ w' ν' p v:=oq ah p v (yq p) h
theorem ID{p:List ae}{v:List Value}(h:bW w ν p v):bW w' ν' p v:=y5 ah p v (q8 p) h
theorem lV{p:List ae}{v:List Value}(h:gB w ν p v):gB w' ν' p v:=Iv ah (q8 p) h
theorem uD{sz:Nat}{p:List ae}{v:List Value}(h:cf w ν sz p v):cf w' ν' sz p v:=y3 ah sz p v (q8 p) h
end
end
section
open Go Go.RowKit
def get(k:Nat):List (Nat×ae)->ae
 |[]=>.junk
 |(i,p)::r=>if i=k then p else get k r
def put(k:Nat)(p:ae):List (Nat×ae)->List (Nat×ae)
 |[]=>[(k,p)]
 |(i,q)::r=>if i=k then(i,p)::r else(i,q)::put k p r
def look{α:Type}(k:aw):List (aw×α)->bf α
 |[]=>none
 |(i,p)::r=>if i=k then some p else look k r
def cx{α:Type}(k:aw)(p:α):List (aw×α)->List (aw×α)
 |[]=>[(k,p)]
 |(i,q)::r=>if i=k then(i,p)::r else(i,q)::cx k p r
theorem mg(k j:Nat)(p:ae):∀l,get j (put k p l)=if k=j then p else get j l
 |[]=>by simp[get,put]
 |(i,q)::r=>by
  by_cases h:i=k
  ·subst h;by_cases J:i=j<;>simp[get,put,J]
  ·by_cases J:i=j
   ·subst J;simp[get,put,h,Ne.symm h]
   ·simp[get,put,h,J,mg k j p r]
theorem hO{α:Type}(k j:aw)(p:α):∀l,look j (cx k p l)=if k=j then some p else look j l
 |[]=>by simp[look,cx]
 |(i,q)::r=>by
  by_cases h:i=k
  ·subst h;by_cases J:i=j<;>simp[look,cx,J]
  ·by_cases J:i=j
   ·subst J;simp[look,cx,h,Ne.symm h]
   ·simp[look,cx,h,J,hO k j p r]
structure da where
 n:Nat
 el:Nat
 sz:Nat
 xs:bf (List ae)
def Cr(w:World)(ν:aM)(o:da)(v:Value)(us:List Value):Prop:=∀xs,o.xs=some xs->xs.length=o.n/\cf w ν o.sz xs us/\∀bl,v.ownBlock=some bl->∀j,¬ν.A bl j
theorem nt{w w':World}{ν ν':aM}(ah:jH w ν w' ν'){o:da}{v:Value}{us:List Value}(aY:∀bl,v.ownBlock=some bl->∀j,ν'.A bl j->ν.A bl j)(h:Cr w ν o v us):Cr w' ν' o v us:=fun xs ab=>⟨(h xs ab).1,uD ah (h xs ab).2.1,fun bl af j ai=>(h xs ab).2.2 bl af j (aY bl af j ai)⟩
def dJ(S:aw->Prop)(o:da):Prop:= ∀xs,o.xs=some xs->aB S xs
structure a6 where
 t:List (Nat×ae)
 b:List (aw×List ae)
 e:List (aw×da)
 n:Nat
 o:List aw
def fresh(n:Nat)(o:List aw)(k:aw):Prop:=(match k with| .loc m=>n<=m| .obj _=>True)/\k∉o
theorem r1{n n':Nat}{o o':List aw}(aS:n<=n')(ah:∀k∈o,k∈o'){k:aw}(h:fresh n' o' k):fresh n o k:=by unfold fresh at h⊢;exact⟨by cases k<;>simp at h⊢;omega,fun aa=>h.2 (ah k aa)⟩
def CS(ν:aM)(b:List (aw×List ae))(e:List (aw×da))(bl:Nat):Prop:=(∃k,(look k b).isSome/\ν.bx k=some bl)\/(∃g n v,(look g e).isSome/\ν.ow g=some (n,v)/\v.ownBlock=some bl)
def wR:Nat:=106
def zs(k:aw):={el:eZ//k= .obj 861->el=wR}
structure Good (pr:Nat->Prop) (w:World) (ν:aM) (b:List (aw×List ae)) (e:List (aw×da)):Prop where
 alt:∀bl o,ν.A bl o->bl<w.heap.size
 box:∀k cs,look k b=some cs->∃(bl:Nat) (us:Array Value) (el:zs k),ν.bx k=some bl/\pr bl/\(∀o,¬ν.A bl o)/\w.heap[bl]? =some (hl cs us el.1)/\gB w ν cs us.toList
 inj:∀k be bl,(look k b).isSome->(look be b).isSome->ν.bx k=some bl->ν.bx be=some bl->k=be
 own:∀g o,look g e=some o->∃v us,ν.ow g=some (o.n,v)/\w.ownsRow 0 o.el o.sz v o.n us/\(∀bl,v.ownBlock=some bl->pr bl/\(∀j,ν.A bl j->j<o.n*o.sz))/\Cr w ν o v us
 oinj:∀g du n n' v v' bl,(look g e).isSome->(look du e).isSome->ν.ow g=some (n,v)->ν.ow du=some (n',v')->v.ownBlock=some bl->v'.ownBlock=some bl->g=du
 obx:∀g k n v bl,(look g e).isSome->(look k b).isSome->ν.ow g=some (n,v)->v.ownBlock=some bl->ν.bx k=some bl->dz
 one:∀k,ν.bx k=none\/ν.ow k=none
 otr:∀bl,CS ν b e bl->∀k j,¬ν.tr k j bl
def tG:List (Nat×Nat×Nat×(Value->Prop)):=(((List.range 20).map fun i=>(0,i,20,fun v=>v=kY .u64 ((10 ^ i:Nat):Int)))++[])
def k0(w:World)(ν:aM):Prop:= ∀x∈tG,ν.A x.1 x.2.1/\(∃v,w.cell? ⟨x.1,x.2.1,none⟩=some v/\x.2.2.2 v)/\∃el,shape w x.1=some (x.2.2.1,el)
structure dM where
 w0:World
 ν0:aM
 mt:Nat->Prop
 N:Nat
 ob:List aw
 gl:k0 w0 ν0
 ex:List (ae×Value)
def dM.pr(C:dM)(bl:Nat):Prop:=C.mt bl\/C.w0.heap.size<=bl
def po:aw:= .obj 990001
structure oH (C:dM) (w:World) (ν:aM):Prop where
 os:w.os=C.w0.os
 tape:w.tape=C.w0.tape
 output:w.output=C.w0.output
 size:C.w0.heap.size<=w.heap.size
 block:∀k,k<C.w0.heap.size->¬C.mt k->w.heap[k]? =C.w0.heap[k]?
 keep:∀b o,C.ν0.A b o->ν.A b o/\w.cell? ⟨b,o,none⟩=C.w0.cell? ⟨b,o,none⟩
 fresh:∀b o,ν.A b o->C.ν0.A b o\/C.pr b
 obj:∀n b,C.ν0.bx (.obj n)=some b->ν.bx (.obj n)=some b
 obn:∀n b,C.ν0.bx (.obj n)=some b-> .obj n∈C.ob
 row:∀m n u,C.ν0.ow (.obj m)=some (n,u)->∃n' dZ,ν.ow (.obj m)=some (n',dZ)/\(n'=n/\dZ=u\/n<n')
 obr:∀m n u,C.ν0.ow (.obj m)=some (n,u)-> .obj m∈C.ob
 trd:∀k j be ei b,ν.tr k j b->ν.tr be ei b->k=be/\j=ei
 trb:∀k j b,ν.tr k j b->(k=po\/C.w0.heap.size<=b)/\b<w.heap.size
 trn:∀k j b,ν.tr k j b->ν.bx k=none/\ν.ow k=none
 sh:∀b o,C.ν0.A b o->shape w b=shape C.w0 b
 nrow:∀j n u b,ν.ow (.loc j)=some (n,u)->u.ownBlock=some b->C.w0.heap.size<=b
theorem oH.gl{C:dM}{w:World}{ν:aM}(h:oH C w ν):k0 w ν:=fun x ab=>⟨(h.keep _ _ (C.gl x ab).1).1,(C.gl x ab).2.1.imp fun _ ba=>⟨(h.keep _ _ (C.gl x ab).1).2.trans ba.1,ba.2⟩,(C.gl x ab).2.2.imp fun _ ba=>(h.sh _ _ (C.gl x ab).1).trans ba⟩
theorem wK{ν ν':aM}{g:aw}{n:Nat}{u:Value}(h:∃n' dZ,ν.ow g=some (n',dZ)/\(n'=n/\dZ=u\/n<n'))(ah:∀n u,ν.ow g=some (n,u)->∃n' dZ,ν'.ow g=some (n',dZ)/\(n'=n/\dZ=u\/n<n')):
  ∃n' dZ,ν'.ow g=some (n',dZ)/\(n'=n/\dZ=u\/n<n'):=by
 obtain⟨e6,h8,aj,aR⟩:=h;obtain⟨ey,hS,f1,f2⟩:=ah e6 h8 aj;refine⟨ey,hS,f1,?_⟩;rcases aR with⟨rfl,rfl⟩|aR
 ·exact f2
 ·rcases f2 with⟨rfl,rfl⟩|f2
  ·exact .inr aR
  ·exact .inr Ω
structure bX (C:dM) (st:a6) (a:Act) (w:World) (ν:aM):Prop where
 good:Good C.pr w ν st.b st.e
 fr:oH C w ν
 defers:a.defers=[]
 size:a.tmps.size=C.N
 slot:∀i,aJ w ν (get i st.t) (a.tmps.getD i undef)
 new:∀k,fresh st.n st.o k->ν.bx k=none/\ν.ow k=none/\∀j b,¬ν.tr k j b
 ext:∀x∈C.ex,aJ w ν x.1 x.2/\aH (fun k=>k∈C.ob) x.1
 obk:∀m∈C.ob,¬fresh st.n st.o m
def eD(d:bf Nat)(p:ae)(t:List (Nat×ae)):List (Nat×ae):=
 match d with
 |some d=>put d p t
 |none=>t
def gu(N:Nat)(d:bf Nat):Bool:=match d with|some d=>decide (d<N)|none=>true
theorem bX.put{C:dM}{st:a6}{a:Act}{w:World}{ν:aM}(h:bX C st a w ν){d:bf Nat}(bj:gu C.N d=true){p:ae}{v:Value}(bB:aJ w ν p v):
  bX C {st with t:=eD d p st.t} (a.put d v) w ν:=by
 cases d with
 |none=>exact h
 |some d=>
  have cM:d<a.tmps.size:=by rw[h.size];simpa[gu]using bj
  refine⟨h.good,h.fr,h.defers,by simpa[Act.put]using h.size,fun i=>?_,h.new,h.ext,h.obk⟩;simp only[eD,mg];by_cases e:d=i
  ·subst e;simpa[Act.put,Array.getD_eq_getD_getElem?,cM]using bB
  ·have:=h.slot i;simpa[e,Act.put,Array.getD_eq_getD_getElem?,Array.getElem?_setIfInBounds_ne e]using this
theorem bX.over{C:dM}{st st':a6}{a:Act}{w w':World}{ν ν':aM}(h:bX C st a w ν)(ah:jH w ν w' ν')(aG:st'.t=st.t)(aT:Good C.pr w' ν' st'.b st'.e)(av:oH C w' ν')
  (aS:∀k,fresh st'.n st'.o k->ν'.bx k=none/\ν'.ow k=none/\∀j b,¬ν'.tr k j b) (fw:∀m,fresh st'.n st'.o m->fresh st.n st.o m:=by exact fun _ h=>h):bX C st' a w' ν':=
 ⟨aT,av,h.defers,h.size,fun i=>by rw[aG];exact qo ah (h.slot i),aS,fun x ab=>⟨qo ah (h.ext x ab).1,(h.ext x ab).2⟩,fun m hm av=>h.obk m hm (fw m av)⟩
inductive ct where
 |t (i:Nat)
 |c (p:ae)
 deriving Inhabited
def bA(t:List (Nat×ae)):ct->ae
 | .t i=>get i t
 | .c p=>p
def xd:ae->Value->Bool
 | .int k n,.int be n'=>decide (k=be/\n=n')
 | .bool b,.bool fu=>b==fu
 | .str s,.string l=>decide (l.data.toList=s/\s.length<=aX)
 | .slice _ .nil [],.slice none 0 0=>true
 | .nilp,.pointer none=>true
 | .tuple [],.tuple ⟨[]⟩=>true
 | .func f [],.func (.func g) ⟨[]⟩ ⟨[]⟩=>f==g
 | .junk,_=>true
 |_,_=>false
theorem DI(w:World)(ν:aM){p:ae}{v:Value}(h:xd p v=true):aJ w ν p v:=by
 unfold xd at h;split at h
 ·simp at h;obtain⟨rfl,rfl⟩:=h;simp[aJ]
 ·simp at h;subst h;simp[aJ]
 ·rename_i s l;simp at h;obtain⟨I,J⟩:=h;refine⟨?_,J⟩;subst I;simp
 ·simp only[aJ];refine⟨⟨none,0,rfl,Ψ,Ψ,Ψ⟩,Ψ,(fun _ h=>by cases h),(fun _ _ h=>by cases h),(fun _ h=>by cases h)⟩
 ·simp[aJ]
 ·simp[aJ,b4]
 ·simp at h;subst h;simp[aJ,b4]
 ·simp[aJ]
 ·cases h
def tp:List ae->List Value->Bool
 |[],[]=>true
 |p::bD,v::vs=>xd p v&&v.oneCell'&&tp bD vs
 |_,_=>false
def tn:ae->Value->Bool
 | .agg cs,.agg us=>tp cs us.toList
 |p,v=>xd p v
theorem DJ(w:World)(ν:aM):∀(bD:List ae) (vs:List Value),tp bD vs=true->bW w ν bD vs
 |[],[],_=>by simp[bW]
 |[],_::_,h=>by simp[tp]at h
 |_::_,[],h=>by simp[tp]at h
 |p::bD,v::vs,h=>by simp only[tp,bE]at h;simp only[bW];exact⟨v,vs,rfl,⟨DI w ν h.1.1,h.1.2⟩,DJ w ν bD vs h.2⟩
theorem zA(w:World)(ν:aM){p:ae}{v:Value}(h:tn p v=true):aJ w ν p v:=by
 unfold tn at h;split at h
 ·simp only[aJ];exact⟨_,rfl,DJ w ν _ _ h⟩
 ·exact DI w ν h
def db:ct->Operand->Bool
 | .t i,.tmp j=>i==j
 | .c p,.const v=>tn p v
 | .c (.func f []),.func g=>f==g
 |_,_=>false
theorem dc{C:dM}{st:a6}{a:Act}{w:World}{ν:aM}(h:bX C st a w ν){x:ct}{o:Operand}(ab:db x o=true):aJ w ν (bA st.t x) (a.eval o):=by
 unfold db at ab;split at ab
 ·simp at ab;subst ab;simpa[bA,Act.eval]using h.slot _
 ·simpa[bA,Act.eval]using zA w ν ab
 ·simp at ab;subst ab;simp[bA,Act.eval,aJ,b4]
 ·cases ab
inductive u7 where
 |int (k:IntKind)
 |bool
 |str
 |slice (e:Nat)
 |struct (cU:List (Nat×Nat))
 |map (k e:Nat)
 |other
 |iface
 deriving DecidableEq
structure cR where
 size:Nat
 bytes:Nat
 kind:u7
 zero:ae
def u7.isAgg:u7->Bool
 | .struct _=>true
 |_=>false
def uW:List ae->List Value->Bool
 |[],[]=>true
 |p::bD,v::vs=>tn p v&&v.oneCell'&&uW bD vs
 |_,_=>false
def s8:ae->Value->Bool
 | .agg cs,.agg us=>uW cs us.toList
 | .agg _,_=>false
 |p,v=>tn p v&&v.oneCell'
def jq:u7->TypeDesc->Bool
 | .int k,.int be=>decide (k=be)
 | .bool,.bool=>true
 | .str,.string=>true
 | .slice e,.slice gD=>e==gD
 | .struct cU,.struct gs=>decide (gs.toList.map (fun f=>(f.offset,f.type))=cU)
 | .map k e,.map be gD=>k==be&&e==gD
 | .iface,.interface _=>true
 | .other,d=>match d with| .struct _| .array _ _| .int _| .bool| .string| .slice _=>false|_=>true
 |_,_=>false
def Fz(P:bM)(gs:Array Field):Bool:=gs.toList.all fun f=>match P.underlying f.type with|some (.int _)=>true|some .string=>true|_=>false
def EL(P:bM)(t:Nat)(gs:Array Field):Bool:=gs.toList.all (fun f=>f.name != "_")&& !P.stoodInHeld t&& !P.eqGuardType P.depth t
def zS(P:bM)(t:Nat):TypeDesc->Bool
 | .struct gs=> !Fz P gs||EL P t gs
 |_=>true
def CX(P:bM)(t:Nat)(f:cR):Bool:=
 match P.info? t,P.underlying t with
 |some i,some d=>zS P t d&&i.size==f.size&&i.bytes==f.bytes&&jq f.kind d&&(match i.zero with|some z=>s8 f.zero z&&z.cells.size==f.size|none=>false)
 |_,_=>false
def fm(P:bM)(bc:List (Nat×cR)):Bool:=bc.all fun x=>CX P x.1 x.2
def cX(bc:List (Nat×cR))(t:Nat):bf cR:=(bc.find? fun x=>x.1==t).map (·.2)
theorem Tj{P:bM}{bc:List (Nat×cR)}(h:fm P bc=true){t:Nat}{f:cR}(av:cX bc t=some f):CX P t f=true:=by
 unfold cX at av;cases ab:bc.find? fun x=>x.1==t with
 |none=>simp[ab]at av
 |some x=>simp[ab]at av;have I:=List.find?_some ab;simp at I;have J:=List.mem_of_find?_eq_some ab;have ak:=kZ.1 h x J;rw[<-av,<-I];exact ak
structure Kb (P:bM) (t:Nat) (f:cR):Prop where
 cmp:∀d,P.underlying t=some d->zS P t d=true
 ex:∃i d z,P.info? t=some i/\P.underlying t=some d/\i.size=f.size/\i.bytes=f.bytes/\jq f.kind d=true/\i.zero=some z/\s8 f.zero z=true/\z.cells.size=f.size
theorem pv{P:bM}{bc:List (Nat×cR)}(h:fm P bc=true){t:Nat}{f:cR}(av:cX bc t=some f):Kb P t f:=by
 have h:=Tj h av;unfold CX at h;split at h
 ·rename_i i d I J;simp only[bE,cD]at h;obtain⟨⟨⟨⟨a1,ak⟩,aV⟩,bn⟩,cb⟩:=h;split at cb
  ·rename_i z dS;simp only[bE,cD]at cb;exact⟨fun iu vz=>by rw[J]at vz;cases vz;exact a1,i,d,z,I,J,ak,aV,bn,dS,cb.1,cb.2⟩
  ·cases cb
 ·cases h
theorem k4(b o j:Nat):(⟨b,o,none⟩:Addr).add j=⟨b,o+j,none⟩:=by
 unfold Addr.add;split
 ·rename_i h;subst h;rfl
 ·rfl
theorem Db(w:World)(ν:aM):∀(bD:List ae) (vs:List Value),uW bD vs=true->bW w ν bD vs
 |[],[],_=>by simp[bW]
 |[],_::_,h=>by simp[uW]at h
 |_::_,[],h=>by simp[uW]at h
 |p::bD,v::vs,h=>by simp only[uW,bE]at h;simp only[bW];exact⟨v,vs,rfl,⟨zA w ν h.1.1,h.1.2⟩,Db w ν bD vs h.2⟩
def cells:ae->List ae
 | .agg cs=>cs
 |p=>[p]
def dE:ae->Bool
 | .junk| .tuple _=>false
 | .cst (.slice _ _ _)| .cst (.string _)=>true
 | .cst _=>false
 |_=>true
theorem Cp{w:World}{ν:aM}{p:ae}{v:Value}(h:aJ w ν p v)(al:dE p=true)(bU:∀cs,p≠ .agg cs):v.oneCell'=true/\v.cells= #[v]:=by
 cases p<;>simp only[aJ,dE]at h al;case junk=>cases al
 case tuple=>cases al
 case cst c=>subst h;cases v<;>first|exact⟨rfl,rfl⟩|cases al
 case agg cs=>exact absurd rfl (bU cs)
 case int=>subst h;exact⟨rfl,rfl⟩
 case bool=>subst h;exact⟨rfl,rfl⟩
 case str=>rw[h.1];exact⟨rfl,rfl⟩
 case slice=>obtain⟨⟨a,cap,I,_⟩,_⟩:=h;subst I;exact⟨rfl,rfl⟩
 case ptr=>obtain⟨b,_,I⟩:=h;subst I;exact⟨rfl,rfl⟩
 case eptr=>obtain⟨b,o,u,I,_⟩:=h;subst I;exact⟨rfl,rfl⟩
 case iface=>obtain⟨u,I,_⟩:=h;subst I;exact⟨rfl,rfl⟩
 case nilp=>subst h;exact⟨rfl,rfl⟩
 case func=>obtain⟨us,I,_⟩:=h;subst I;exact⟨rfl,rfl⟩
 case gmap=>obtain⟨b,_,I⟩:=h;subst I;exact⟨rfl,rfl⟩
 case row=>obtain⟨⟨a,cap,I⟩,_⟩:=h;subst I;exact⟨rfl,rfl⟩
 case rptr=>obtain⟨⟨a,o,I⟩,_⟩:=h;subst I;exact⟨rfl,rfl⟩
theorem qn{w:World}{ν:aM}{p:ae}{v:Value}(h:aJ w ν p v)(al:dE p=true):bW w ν (cells p) v.cells.toList:=by
 by_cases bU:∃cs,p= .agg cs
 ·obtain⟨cs,rfl⟩:=bU;simp only[aJ]at h;obtain⟨us,rfl,J⟩:=h;simpa[cells,km]using J
 ·have tJ:∀cs,p≠ .agg cs:=fun cs e=>bU ⟨cs,e⟩;obtain⟨I,J⟩:=Cp h al tJ;have aQ:cells p=[p]:=by cases p<;>first|rfl|exact absurd rfl (tJ _)
  rw[aQ,J];simp only[bW];exact⟨v,[],rfl,⟨h,I⟩,rfl⟩
theorem uF{w:World}{ν:aM}:∀{bD:List ae} {vs:List Value},bW w ν bD vs->∀c∈vs,c.oneCell'=true
 |[],vs,h=>by simp only[bW]at h;subst h;simp
 |p::bD,vs,h=>by
  simp only[bW]at h;obtain⟨u,bh,rfl,I,J⟩:=h;intro c aQ;rcases hT.1 aQ with rfl|aQ
  ·exact I.2
  ·exact uF J c aQ
theorem lW{w:World}{ν:aM}:∀{bD:List ae} {vs:List Value},bW w ν bD vs->vs.length=bD.length
 |[],vs,h=>by simp only[bW]at h;subst h;rfl
 |p::bD,vs,h=>by simp only[bW]at h;obtain⟨u,bh,rfl,_,J⟩:=h;simp[lW J]
theorem uE{w:World}{ν:aM}:∀(n:Nat) {bD:List ae} {vs:List Value},bW w ν bD vs->bW w ν (bD.drop n) (vs.drop n)
 |0,_,_,h=>by simpa using h
 |n+1,[],vs,h=>by simp only[bW]at h;subst h;simp[bW]
 |n+1,p::bD,vs,h=>by simp only[bW]at h;obtain⟨u,bh,rfl,_,J⟩:=h;simpa using uE n J
theorem wG{w:World}{ν:aM}:∀(n:Nat) {bD:List ae} {vs:List Value},bW w ν bD vs->bW w ν (bD.take n) (vs.take n)
 |0,_,_,_=>by simp[bW]
 |n+1,[],vs,h=>by simp only[bW]at h;subst h;simp[bW]
 |n+1,p::bD,vs,h=>by simp only[bW]at h;obtain⟨u,bh,rfl,I,J⟩:=h;simp only[List.take_succ_cons,bW];exact⟨u,_,rfl,I,wG n J⟩
theorem sN{w:World}{ν:aM}:∀{bD cI:List ae} {vs us:List Value},bW w ν bD vs->bW w ν cI us->bW w ν (bD++cI) (vs++us)
 |[],cI,vs,us,h,bS=>by simp only[bW]at h;subst h;simpa using bS
 |p::bD,cI,vs,us,h,bS=>by simp only[bW]at h;obtain⟨u,bh,rfl,I,J⟩:=h;simp only[oA,bW];exact⟨u,_,rfl,I,sN J bS⟩
theorem wF{w:World}{ν:aM}:∀(n:Nat) {bD:List ae} {vs:List Value} {p:ae},bW w ν bD vs->bD[n]? =some p->∃v,vs[n]? =some v/\aJ w ν p v/\v.oneCell'=true
 |n,[],_,p,_,bB=>by simp at bB
 |0,q::bD,vs,p,h,bB=>by simp only[bW]at h;obtain⟨u,bh,rfl,I,_⟩:=h;simp at bB;subst bB;exact⟨u,rfl,I.1,I.2⟩
 |n+1,q::bD,vs,p,h,bB=>by simp only[bW]at h;obtain⟨u,bh,rfl,_,J⟩:=h;simpa using wF n J (by simpa using bB)
theorem y6{w:World}{ν:aM}:∀(n:Nat) {bD:List ae} {vs:List Value} {p:ae},b4 w ν bD vs->bD[n]? =some p->∃v,vs[n]? =some v/\aJ w ν p v
 |n,[],_,p,_,bB=>by simp at bB
 |0,q::bD,vs,p,h,bB=>by simp only[b4]at h;obtain⟨u,bh,rfl,I,_⟩:=h;simp at bB;subst bB;exact⟨u,rfl,I⟩
 |n+1,q::bD,vs,p,h,bB=>by simp only[b4]at h;obtain⟨u,bh,rfl,_,J⟩:=h;simpa using y6 n J (by simpa using bB)
theorem qe{w:World}{A:Nat->Nat->Prop}{b:Nat}:∀{us:List Value} {off j:Nat} {u:Value},ik w A b off us->us[j]? =some u->A b (off+j)/\w.cell? ⟨b,off+j,none⟩=some u
 |[],_,_,_,_,h=>by simp at h
 |x::us,off,0,u,aA,h=>by simp at h;subst h;exact aA.1
 |x::us,off,j+1,u,aA,h=>by have:=qe (j:=j) aA.2 (by simpa using h);rwa[show off+1+j=off+(j+1)from by omega]at this
theorem yu{w:World}{A:Nat->Nat->Prop}{b:Nat}:∀(n:Nat) {us:List Value} {off:Nat},ik w A b off us->ik w A b (off+n) (us.drop n)
 |0,_,_,h=>by simpa using h
 |n+1,[],_,_=>by simp[ik]
 |n+1,x::us,off,h=>by have:=yu n h.2;rw[show off+(n+1)=off+1+n from by omega];simpa using this
theorem yv{w:World}{A:Nat->Nat->Prop}{b:Nat}:∀(n:Nat) {us:List Value} {off:Nat},ik w A b off us->ik w A b off (us.take n)
 |0,_,_,_=>by simp[ik]
 |n+1,[],_,_=>by simp[ik]
 |n+1,x::us,off,h=>by simp only[List.take_succ_cons];exact⟨h.1,yv n h.2⟩
theorem IS{P:bM}{w:World}{A:Nat->Nat->Prop}{b off:Nat}{us:List Value}(h:ik w A b off us):(loadCells ⟨b,off,none⟩ us.length).run P w= .ok us.toArray w:=run_loadCells_list w _ us fun j v ai=>by rw[k4];exact(qe h ai).2
theorem Sz{P:bM}{w:World}{b off n:Nat}{us:Array Value}{el:eZ}{fr:Nat×Nat}(h:w.heap[b]? =some (.cells us el fr))(aS:off+n<=us.size):
  (loadCells ⟨b,off,none⟩ n).run P w= .ok ((us.toList.drop off).take n).toArray w:=by
 have aA:((us.toList.drop off).take n).length=n:=by simp;omega
 have:=run_loadCells_list (P:=P) w ⟨b,off,none⟩ ((us.toList.drop off).take n) fun j v ai=>by
  rw[k4];have tS:j<n:=by have:=(dw.1 ai).1;omega
  simp only[World.cell?,h,Option.isSome_none,jX,if_false];rw[List.getElem?_take]at ai;simpa[tS]using ai
 rw[aA]at this;exact this
theorem E1{α:Type}(l r:List α)(n sz:Nat)(h:l.length=sz):(l++r).drop ((n+1)*sz)=r.drop (n*sz):=by
 have e:(n+1)*sz=l.length+n*sz:=by rw[h,Nat.succ_mul,Nat.add_comm]
 rw[e,<-List.drop_drop];simp
theorem Ji{α:Type}(l r:List α)(n sz:Nat)(h:l.length=sz):(l++r).take ((n+1)*sz)=l++r.take (n*sz):=by
 have e:(n+1)*sz=l.length+n*sz:=by rw[h,Nat.succ_mul,Nat.add_comm]
 rw[e,List.take_length_add_append]
theorem y2{w:World}{ν:aM}{sz:Nat}:∀(i:Nat) {xs:List ae} {us:List Value} {p:ae},cf w ν sz xs us->xs[i]? =some p->
  ∃u,aJ w ν p u/\u.cells.size=sz/\u.cells.toList=(us.drop (i*sz)).take sz
 |i,[],_,p,_,bB=>by simp at bB
 |0,x::xs,us,p,h,bB=>by
  simp only[cf]at h;obtain⟨u,bh,rfl,⟨I,J,ak⟩,_⟩:=h;simp at bB;subst bB;refine⟨u,I,J,?_⟩;have:u.cells.toList.length=sz:=by simpa using J
  simp[<-this]
 |i+1,x::xs,us,p,h,bB=>by
  simp only[cf]at h;obtain⟨u,bh,rfl,⟨_,J,_⟩,bn⟩:=h;obtain⟨v,g1,g2,g3⟩:=y2 i bn (by simpa using bB);refine⟨v,g1,g2,?_⟩;have:u.cells.toList.length=sz:=by simpa using J
  rw[g3,E1 _ _ _ _ this]
theorem nr{w:World}{ν:aM}{sz:Nat}:∀{xs:List ae} {us:List Value},cf w ν sz xs us->us.length=xs.length*sz
 |[],us,h=>by simp only[cf]at h;subst h;simp
 |x::xs,us,h=>by
  simp only[cf]at h;obtain⟨u,bh,rfl,⟨_,J,_⟩,bn⟩:=h;have:u.cells.toList.length=sz:=by simpa using J
  rw[dh,this,nr bn,hy,Nat.succ_mul];omega
theorem sM{w:World}{ν:aM}{sz:Nat}:∀{xs:List ae} {us:List Value},cf w ν sz xs us->∀c∈us,c.oneCell'=true
 |[],us,h=>by simp only[cf]at h;subst h;simp
 |x::xs,us,h=>by
  simp only[cf]at h;obtain⟨u,bh,rfl,⟨_,_,ak⟩,bn⟩:=h;intro c aQ;rcases nD.1 aQ with aQ|aQ
  ·exact ak c aQ
  ·exact sM bn c aQ
theorem uC{w:World}{ν:aM}{sz:Nat}:∀{bD cI:List ae} {vs us:List Value},cf w ν sz bD vs->cf w ν sz cI us->cf w ν sz (bD++cI) (vs++us)
 |[],cI,vs,us,h,bS=>by simp only[cf]at h;subst h;simpa using bS
 |p::bD,cI,vs,us,h,bS=>by simp only[cf]at h;obtain⟨u,bh,rfl,I,J⟩:=h;simp only[oA,cf];exact⟨u,bh++us,Ψ,I,uC J bS⟩
theorem Iy{w:World}{ν:aM}{sz:Nat}:∀(n:Nat) {xs:List ae} {us:List Value},cf w ν sz xs us->cf w ν sz (xs.drop n) (us.drop (n*sz))
 |0,_,_,h=>by simpa using h
 |n+1,[],us,h=>by simp only[cf]at h;subst h;simp[cf]
 |n+1,x::xs,us,h=>by
  simp only[cf]at h;obtain⟨u,bh,rfl,⟨_,J,_⟩,bn⟩:=h;have:u.cells.toList.length=sz:=by simpa using J
  rw[E1 _ _ _ _ this];simpa using Iy n bn
theorem IC{w:World}{ν:aM}{sz:Nat}:∀(n:Nat) {xs:List ae} {us:List Value},cf w ν sz xs us->cf w ν sz (xs.take n) (us.take (n*sz))
 |0,_,_,_=>by simp[cf]
 |n+1,[],us,h=>by simp only[cf]at h;subst h;simp[cf]
 |n+1,x::xs,us,h=>by
  simp only[cf]at h;obtain⟨u,bh,rfl,⟨I,J,ak⟩,bn⟩:=h;have:u.cells.toList.length=sz:=by simpa using J
  simp only[List.take_succ_cons,cf];refine⟨u,bh.take (n*sz),?_,⟨I,J,ak⟩,IC n bn⟩;rw[Ji _ _ _ _ this]
def isAgg(sz:Nat)(p:ae):Prop:= ∃cs,p= .agg cs/\cs.length=sz
def sQ(agg:Bool)(sz cJ n i f:Nat):bf da->bf (Prop×ae)
 |some ⟨n',_,hs,some xs⟩=>if n'=n/\hs=cJ then
   (match xs[i]? with
    |some p=>if agg then some (dE p=true/\f+sz<=(cells p).length,.agg (((cells p).drop f).take sz))else((cells p)[f]?).map fun q=>(dE p=true,q)
    |none=>none)else none
 |_=>none
def kg(b:List (aw×List ae))(e:List (aw×da))(agg:Bool)(sz:Nat):ae->bf (Prop×ae)
 | .rptr cJ k n i f=>sQ agg sz cJ n i f (look k e)
 | .ptr k off=>
  match look k b with
  |some cs=>if agg then some (gH cs=true/\off+sz<=cs.length,.agg ((cs.drop off).take sz))else(cs[off]?).map fun p=>(gH cs=true,p)
  |none=>none
 | .eptr p=>if agg then some (isAgg sz p,p)else some (dE p=true/\cells p=[p],p)
 |_=>none
def vp(agg:Bool)(sz:Nat):ae->bf (Prop×ae)
 | .eptr p=>if agg then some (isAgg sz p,p)else some (dE p=true/\cells p=[p],p)
 |_=>none
theorem NA{b:List (aw×List ae)}{e:List (aw×da)}{agg:Bool}{sz:Nat}{p:ae}{r:Prop×ae}(h:vp agg sz p=some r):kg b e agg sz p=some r:=by
 cases p<;>simp only[vp]at h<;>first|cases h;done|skip
 simpa only[kg]using h
theorem Qn{b:List (aw×List ae)}{e:List (aw×da)}{agg:Bool}{sz:Nat}{p:ae}{r:Prop×ae}(h:kg b [] agg sz p=some r):kg b e agg sz p=some r:=by cases p<;>simp only[kg]at h⊢ <;>first|exact h|(simp[look,sQ]at h)
def lI(off:Nat)(agg:Bool)(sz:Nat):ae->bf (Prop×ae)
 | .ptr k o=>some (True,.ptr k (o+off))
 | .rptr cJ k n i f=>some (True,.rptr cJ k n i (f+off))
 | .eptr (.agg cs)=>if agg then some (off+sz<=cs.length,.eptr (.agg ((cs.drop off).take sz)))else(cs[off]?).map fun p=>(dE p=true/\cells p=[p],.eptr p)
 |_=>none
def oW(off:Nat)(agg:Bool)(sz:Nat):ae->bf (Prop×ae)
 | .agg cs=>if agg then some (off+sz<=cs.length,.agg ((cs.drop off).take sz))else(cs[off]?).map fun p=>(True,p)
 |_=>none
def tZ(sz:Nat):ae->ae->bf (Prop×ae)
 | .slice cJ _ xs,.int _ i=>if cJ=sz then some (0<=i/\i<xs.length,.eptr (xs.getD i.toNat .junk))else none
 | .row cJ k n,.int _ i=>if cJ=sz then some (0<=i/\i<n,.rptr cJ k n i.toNat 0)else none
 |_,_=>none
def ze:ae->ae->bf (Prop×ae)
 | .str s,.int _ i=>some (0<=i/\i<s.length,.int .u8 (s.getD i.toNat 0).toNat)
 |_,_=>none
def np(xp:Int):bf ae->bf Int
 |none=>some xp
 |some (.int _ i)=>some i
 |_=>none
def zg(x:ae)(lo aq:bf ae):bf (Prop×ae):=
 match x with
 | .str s=>match np 0 lo,np s.length aq with
  |some l,some h=>some (0<=l/\l<=h/\h<=s.length,.str ((s.take h.toNat).drop l.toNat))
  |_,_=>none
 |_=>none
def yz(sz:Nat)(x:ae)(lo aq:bf ae):bf (Prop×ae):=
 match x with
 | .slice cJ _ xs=>if cJ=sz then match np 0 lo,np xs.length aq with
  |some l,some h=>some (0<=l/\l<=h/\h<=xs.length,.slice sz .no ((xs.take h.toNat).drop l.toNat))
  |_,_=>none else none
 |_=>none
def bs(n:Int):Prop:= -9223372036854775808<=n/\n<=9223372036854775807
def yh(op:BinOp)(wr:Bool)(k:IntKind)(a b:Int):bf (Prop×ae):=
 match op with
 | .add=>if wr then some (True,.int k (k.wrap (a+b)))else some (k= .i64/\bs (a+b),.int .i64 (a+b))
 | .sub=>if wr then some (True,.int k (k.wrap (a-b)))else some (k= .i64/\bs (a-b),.int .i64 (a-b))
 | .mul=>if wr then some (True,.int k (k.wrap (a*b)))else some (k= .i64/\bs (a*b),.int .i64 (a*b))
 | .quo=>some (b≠0,.int k (k.wrap (a.tdiv b)))
 | .rem=>some (b≠0,.int k (a.tmod b))
 | .eql=>some (True,.bool (a==b))
 | .neq=>some (True,.bool (a !=b))
 | .lss=>some (True,.bool (decide (a<b)))
 | .leq=>some (True,.bool (decide (a<=b)))
 | .gtr=>some (True,.bool (decide (b<a)))
 | .geq=>some (True,.bool (decide (b<=a)))
 | .and=>some (True,.int k (k.wrap (BitVec.ofInt k.bits a&&& BitVec.ofInt k.bits b).toNat))
 | .or=>some (True,.int k (k.wrap (BitVec.ofInt k.bits a|||BitVec.ofInt k.bits b).toNat))
 | .xor=>some (True,.int k (k.wrap (BitVec.ofInt k.bits a ^^^ BitVec.ofInt k.bits b).toNat))
 |_=>none
def zi(op:BinOp)(a b:List bt):bf (Prop×ae):=
 match op with
 | .add=>some (a.length+b.length<=aX,.str (a++b))
 | .eql=>some (True,.bool (a==b))
 | .neq=>some (True,.bool (!(a==b)))
 | .lss=>some (True,.bool (Op.bytesLess a b))
 | .leq=>some (True,.bool (Op.bytesLess a b||a==b))
 | .gtr=>some (True,.bool (!(Op.bytesLess a b||a==b)))
 | .geq=>some (True,.bool (!Op.bytesLess a b))
 |_=>none
def j3(op:BinOp)(wr:Bool):ae->ae->bf (Prop×ae)
 | .int k a,.int be b=>match op with
  | .shl=>some (0<=b,.int k (k.wrap (a*2 ^ (min b.toNat k.bits))))
  | .shr=>some (0<=b,.int k (a.fdiv (2 ^ (min b.toNat k.bits))))
  |_=>if k=be then yh op wr k a b else none
 | .str a,.str b=>zi op a b
 |_,_=>none
def lq(cs:List ae)(off:Nat)(bD:List ae):List ae:=cs.take off++bD++cs.drop (off+bD.length)
def pL(t:List (Nat×ae)):List ae->List (Nat×Nat×ct)->bf (Prop×List ae)
 |cs,[]=>some (True,cs)
 |cs,(off,sz,x)::r=>
  let p:=bA t x
  match pL t (lq cs off (cells p)) r with
  |some (c,cs')=>some ((dE p=true/\(cells p).length=sz/\off+sz<=cs.length)/\c,cs')
  |none=>none
def yU(c x y:ae):bf (Prop×ae):=
 match c with
 | .bool b=>match x,y with
  | .bool u,.bool v=>some (True,.bool (cond b u v))
  |p,q=>match b with
   |true=>some (True,p)
   |false=>some (True,q)
 |_=>none
def yO:ae->bf (Prop×ae)
 | .bool b=>some (True,.bool (!b))
 |_=>none
def yK:ae->bf (Prop×ae)
 | .int k n=>some (True,.int k (k.wrap (0-n)))
 |_=>none
def xA(i:Nat):ae->bf (Prop×ae)
 | .tuple vs=>(vs[i]?).map fun p=>(True,p)
 |_=>none
def uh:ae->bf (Prop×ae)
 | .slice _ _ xs=>some (True,.int .i64 xs.length)
 | .row _ _ n=>some (True,.int .i64 n)
 | .cst (.slice _ n _)=>some (True,.int .i64 n)
 |_=>none
def wN:ae->bf (Prop×ae)
 | .str s=>some (True,.int .i64 s.length)
 | .cst (.string s)=>some (True,.int .i64 s.size)
 |_=>none
def xo(k:IntKind):ae->bf (Prop×ae)
 | .int _ n=>some (True,.int k (k.wrap n))
 |_=>none
def lC:List ae->bf (List bt)
 |[]=>some []
 | .int .u8 n::r=>(lC r).map (nF n.toNat:: ·)
 |_=>none
def xa:ae->bf (Prop×ae)
 | .slice _ _ xs=>(lC xs).map fun s=>(True,.str s)
 |_=>none
def yl(neg:Bool):ae->bf (Prop×ae)
 | .iface _ _=>some (True,.bool neg)
 | .cst .nilIface=>some (True,.bool (!neg))
 |_=>none
def uo:ae->bf (Prop×ae)
 | .ptr k o=>some (True,.ptr k o)
 | .eptr p=>some (True,.eptr p)
 | .func f cs=>some (True,.func f cs)
 |_=>none
def yD:ae->ae->bf (Prop×ae)
 | .int k a,.int be b=>if k=be then some (True,.int k (if b<a then b else a))else none
 |_,_=>none
def iL:List Bool->List ae->List ae->bf Bool
 |[],[],[]=>some true
 |false::r,.int k a::as,.int be b::dN=>if k=be then(iL r as dN).map fun q=>(a==b)&&q else none
 |true::r,.str a::as,.str b::dN=>(iL r as dN).map fun q=>(a==b)&&q
 |_,_,_=>none
inductive ib where
 |i
 |s
 |a (cU:List Bool)
 deriving DecidableEq
def q6:ib->ae->ae->bf Bool
 | .i,.int k a,.int be b=>if k=be then some (a==b)else none
 | .s,.str a,.str b=>some (a==b)
 | .a cU,.agg as,.agg dN=>iL cU as dN
 |_,_,_=>none
def ue:ib->ae->Bool
 | .a cU,.agg as=>(iL cU as as).isSome
 | .a _,_=>false
 |_,_=>true
@[simp]theorem Hb(k:ae):ue .i k=true:=by cases k<;>rfl
def rh(bO:ib)(k:ae):List ae->bf (bf ae)
 |be::v::r=>match q6 bO k be with
  |some true=>some (some v)
  |some false=>rh bO k r
  |none=>none
 |_=>some none
def nm(b:aw->bf (List ae))(bO:ib)(zero:ae)(ok:Bool)(x k:ae):bf (Prop×ae):=
 match x with
 | .gmap key=>match b key with
  |some (.hdm _ _::kvs)=>if ue bO k=false then none else match rh bO k kvs with
   |some (some v)=>some (True,if ok then .tuple [v,.bool true]else v)
   |some none=>some (True,if ok then .tuple [zero,.bool false]else zero)
   |none=>none
  |_=>none
 |_=>none
def um(b:aw->bf (List ae))(x:ae):bf (Prop×ae):=
 match x with
 | .gmap key=>match b key with
  |some (.hdm _ borns::_)=>some (True,.int .i64 borns.length)
  |_=>none
 |_=>none
def xb(neg:Bool):bf (List Bool)->ae->ae->bf (Prop×ae)
 |none,.bool a,.bool b=>some (True,.bool (if neg then a !=b else a==b))
 |some cU,.agg as,.agg dN=>(iL cU as dN).map fun q=>(True,.bool (if neg then !q else q))
 |_,_,_=>none
def yB:ae->ae->bf (Prop×ae)
 | .int k a,.int be b=>if k=be then some (True,.int k (if a<b then b else a))else none
 |_,_=>none
def sG(bO:ib)(k v:ae):List ae->bf (bf (List ae))
 |be::v'::r=>match q6 bO k be with
  |some true=>some (some (k::v::r))
  |some false=>match sG bO k v r with
   |some (some fK)=>some (some (be::v'::fK))
   |some none=>some none
   |none=>none
  |none=>none
 |_=>some none
def ll(n:Nat):List Nat->List ae->bf ae
 |b::dN,k::v::r=>if b=n then some (.tuple [k,v])else ll n dN r
 |_,_=>none
def pe(b:aw->bf (List ae))(x:ae):bf (Prop×ae):=
 match x with
 | .ptr fI 0=>match b fI with
  |some [.hdi _ seen last,.gmap mk]=>match b mk with
   |some (.hdm clock borns::kvs)=>match seen.getLast? with
    |some n=>(ll n borns kvs).map fun p=>(clock=last,p)
    |none=>none
   |_=>none
  |_=>none
 |_=>none
theorem Hz{f g:aw->bf (List ae)}(h:∀k,f k≠none->g k=f k){bO:ib}{zero:ae}{ok:Bool}{x k:ae}{r:Prop×ae}(he:nm f bO zero ok x k=some r):nm g bO zero ok x k=some r:=by
 unfold nm at he⊢;split at he
 ·rename_i key;cases av:f key with
  |none=>simp[av]at he
  |some cs=>rw[h key (by rw[av];simp),av];rw[av]at he;exact he
 ·cases he
theorem Qz{f g:aw->bf (List ae)}(h:∀k,f k≠none->g k=f k){x:ae}{r:Prop×ae}(he:um f x=some r):um g x=some r:=by
 unfold um at he⊢;split at he
 ·rename_i key;cases av:f key with
  |none=>simp[av]at he
  |some cs=>rw[h key (by rw[av];simp),av];rw[av]at he;exact he
 ·cases he
theorem Qu{f g:aw->bf (List ae)}(h:∀k,f k≠none->g k=f k){x:ae}{r:Prop×ae}(he:pe f x=some r):pe g x=some r:=by
 unfold pe at he⊢;split at he
 ·rename_i fI;cases av:f fI with
  |none=>simp[av]at he
  |some cs=>
   simp only[h fI (by rw[av];simp),av]at he⊢;split at he
   ·rename_i since seen last mk cA;cases gS:f mk with
    |none=>simp[gS]at he
    |some dA=>simp only[h mk (by rw[gS];simp),gS]at he⊢;exact he
   ·cases he
 ·cases he
inductive eV where
 |mov (x:ct)
 |pick (c x y:ct)
 |load (agg:Bool) (sz:Nat) (x:ct)
 |faddr (off:Nat) (agg:Bool) (sz:Nat) (x:ct)
 |fld (off:Nat) (agg:Bool) (sz:Nat) (x:ct)
 |iaddr (sz:Nat) (x i:ct)
 |sidx (x i:ct)
 |ssl (x:ct) (lo aq:bf ct)
 |lsl (sz:Nat) (x:ct) (lo aq:bf ct)
 |bin (op:BinOp) (wr:Bool) (x y:ct)
 |notB (x:ct)
 |neg (x:ct)
 |conv (k:IntKind) (x:ct)
 |ext (i:Nat) (x:ct)
 |len (x:ct)
 |slen (x:ct)
 |build (zero:List ae) (parts:List (Nat×Nat×ct))
 |nck (x:ct)
 |min2 (x y:ct)
 |mkf (n:Nat) (xs:List ct)
 |mget (bO:ib) (zero:ae) (ok:Bool) (x k:ct)
 |ment (x:ct)
 |mlen (x:ct)
 |beq (neg:Bool) (cU:bf (List Bool)) (x y:ct)
 |max2 (x y:ct)
 |mkif (t:Nat) (x:ct)
 |loadB (agg:Bool) (sz:Nat) (x:ct)
 |mgetB (bO:ib) (zero:ae) (ok:Bool) (x k:ct)
 |loadZ (agg:Bool) (sz:Nat) (x:ct)
 |b2s (x:ct)
 |isn (neg:Bool) (x:ct)
def fx(st:a6):eV->bf (Prop×ae)
 | .mov x=>some (True,bA st.t x)
 | .pick c x y=>yU (bA st.t c) (bA st.t x) (bA st.t y)
 | .load agg sz x=>kg st.b st.e agg sz (bA st.t x)
 | .faddr off agg sz x=>lI off agg sz (bA st.t x)
 | .fld off agg sz x=>oW off agg sz (bA st.t x)
 | .iaddr sz x i=>tZ sz (bA st.t x) (bA st.t i)
 | .sidx x i=>ze (bA st.t x) (bA st.t i)
 | .ssl x lo aq=>zg (bA st.t x) (lo.map (bA st.t)) (aq.map (bA st.t))
 | .lsl sz x lo aq=>yz sz (bA st.t x) (lo.map (bA st.t)) (aq.map (bA st.t))
 | .bin op wr x y=>j3 op wr (bA st.t x) (bA st.t y)
 | .notB x=>yO (bA st.t x)
 | .neg x=>yK (bA st.t x)
 | .conv k x=>xo k (bA st.t x)
 | .ext i x=>xA i (bA st.t x)
 | .len x=>uh (bA st.t x)
 | .slen x=>wN (bA st.t x)
 | .build zero parts=>(pL st.t zero parts).map fun(c,cs)=>(c,.agg cs)
 | .nck x=>uo (bA st.t x)
 | .min2 x y=>yD (bA st.t x) (bA st.t y)
 | .mkf n xs=>some (True,.func n (xs.map (bA st.t)))
 | .mget bO zero ok x k=>nm (fun k=>look k st.b) bO zero ok (bA st.t x) (bA st.t k)
 | .ment x=>pe (fun k=>look k st.b) (bA st.t x)
 | .mlen x=>um (fun k=>look k st.b) (bA st.t x)
 | .beq neg cU x y=>xb neg cU (bA st.t x) (bA st.t y)
 | .max2 x y=>yB (bA st.t x) (bA st.t y)
 | .mkif t x=>some (True,.iface t (bA st.t x))
 | .loadB agg sz x=>kg st.b [] agg sz (bA st.t x)
 | .mgetB bO zero ok x k=>nm (fun k=>look k st.b) bO zero ok (bA st.t x) (bA st.t k)
 | .loadZ agg sz x=>vp agg sz (bA st.t x)
 | .b2s x=>xa (bA st.t x)
 | .isn neg x=>yl neg (bA st.t x)
def uv(bc:List (Nat×cR))(cU:List (Nat×Nat)):List (Nat×Nat×ct)->List (Nat×Operand)->Bool
 |[],[]=>true
 |(off,sz,x)::r,(i,o)::s=>(match cU[i]? with|some (rn,t)=>off==rn&&((cX bc t).map (·.size))==some sz|none=>false)&&db x o&&uv bc cU r s
 |_,_=>false
def zq:ae->ae->Bool
 | .int k n,.int be n'=>decide (k=be/\n=n')
 | .bool b,.bool fu=>b==fu
 | .str [],.str []=>true
 | .slice a .nil [],.slice b .nil []=>a==b
 | .nilp,.nilp=>true
 | .junk,.junk=>true
 |_,_=>false
def s7:List ae->List ae->Bool
 |[],[]=>true
 |c::cs,d::dA=>zq c d&&s7 cs dA
 |_,_=>false
def uY:ae->ae->Bool
 | .agg cs,.agg dA=>s7 cs dA
 | .agg _,_=>false
 |p,q=>zq p q
def rr:List ct->List Operand->Bool
 |[],[]=>true
 |x::xs,o::os=>db x o&&rr xs os
 |_,_=>false
def tD(bc:List (Nat×cR)):Nat->List Bool->List (Nat×Nat)->Bool
 |_,[],[]=>true
 |n,b::r,(off,t)::cU=>off==n&&(match cX bc t with|some ⟨_,_,.int _,_⟩=> !b|some ⟨_,_,.str,_⟩=>b|_=>false)&&tD bc (n+1) r cU
 |_,_,_=>false
def xD(bc:List (Nat×cR))(cU:List Bool)(t:Nat):Bool:=match cX bc t with
 |some ⟨_,_,.struct gs,_⟩=>tD bc 0 cU gs
 |_=>false
def sB(bc:List (Nat×cR))(bO:ib)(t:Nat):Bool:=match bO with
 | .i=>(match cX bc t with|some ⟨_,_,.int _,_⟩=>true|_=>false)
 | .s=>(match cX bc t with|some ⟨_,_,.str,_⟩=>true|_=>false)
 | .a cU=>xD bc cU t
def De:List ae->ae->Bool
 |cs,.agg dA=>s7 cs dA
 |_,_=>false
def rs:bf ct->bf Operand->Bool
 |none,none=>true
 |some x,some o=>db x o
 |_,_=>false
def wS(bc:List (Nat×cR)):eV->Op->Bool
 | .mov x,.move o=>db x o
 | .mov x,.assign o=>db x o
 | .pick c x y,.pick ho rI JR=>db c ho&&db x rI&&db y JR
 | .load agg sz x,.load t o=>(match cX bc t with|some f=>f.size==sz&&f.kind.isAgg==agg|none=>false)&&db x o
 | .faddr off agg sz x,.fieldAddr s o i=>
  (match cX bc s with
   |some ⟨_,_,.struct cU,_⟩=>(match cU[i]? with|some (rn,t)=>off==rn&&(match cX bc t with|some f=>f.size==sz&&f.kind.isAgg==agg&&sz !=0|none=>false)|none=>false)
   |_=>false)&&db x o
 | .fld off agg sz x,.field s o i=>
  (match cX bc s with
   |some ⟨_,_,.struct cU,_⟩=>(match cU[i]? with|some (rn,t)=>off==rn&&(match cX bc t with|some f=>f.size==sz&&f.kind.isAgg==agg|none=>false)|none=>false)
   |_=>false)&&db x o
 | .iaddr sz x i,.indexAddr t o j=>(match cX bc t with|some ⟨_,_,.slice e,_⟩=>(match cX bc e with|some f=>f.size==sz|none=>false)|_=>false)&&db x o&&db i j
 | .sidx x i,.index t o j=>(match cX bc t with|some ⟨_,_,.str,_⟩=>true|_=>false)&&db x o&&db i j
 | .ssl x lo aq,.slice t o l h none=>(match cX bc t with|some ⟨_,_,.str,_⟩=>true|_=>false)&&db x o&&rs lo l&&rs aq h
 | .lsl sz x lo aq,.slice t o l h none=>(match cX bc t with|some ⟨_,_,.slice e,_⟩=>(match cX bc e with|some f=>f.size==sz|none=>false)|_=>false)&&db x o&&rs lo l&&rs aq h
 | .bin op _ x y,.binOp HX _ o o' _=>decide (op=HX)&&db x o&&db y o'
 | .notB x,.unOp op _ o=>decide (op= .not)&&db x o
 | .neg x,.unOp op _ o=>decide (op= .neg)&&db x o
 | .conv k x,.convert s d o=>(match cX bc s,cX bc d with|some ⟨_,_,.int _,_⟩,some ⟨_,_,.int be,_⟩=>decide (k=be)|_,_=>false)&&db x o
 | .ext i x,.extract o j=>i==j&&db x o
 | .len x,.call ⟨.builtin .len,⟨[o]⟩,⟨[t]⟩⟩=>(match cX bc t with|some ⟨_,_,.slice _,_⟩=>true|_=>false)&&db x o
 | .slen x,.call ⟨.builtin .len,⟨[o]⟩,⟨[t]⟩⟩=>(match cX bc t with|some ⟨_,_,.str,_⟩=>true|_=>false)&&db x o
 | .build zero parts,.build t bD=>(match cX bc t with|some ⟨_,_,.struct cU,z⟩=>De zero z&&(cU.all fun x=>(cX bc x.2).isSome)&&uv bc cU parts bD.toList|_=>false)
 | .nck x,.nilCheck o=>db x o
 | .min2 x y,.call ⟨.builtin .min,⟨[o,o']⟩,⟨[_,_]⟩⟩=>db x o&&db y o'
 | .mkf n xs,.makeFunc (.func m) ⟨[]⟩ os=>n==m&&rr xs os.toList
 | .mget bO zero ok x k,.lookup t o o' yP=>ok==yP&&(match cX bc t with|some ⟨_,_,.map kf lH,_⟩=>sB bc bO kf&&(match cX bc lH with|some f=>uY zero f.zero|none=>false)|_=>false)&&db x o&&db k o'
 | .ment x,.entry o=>db x o
 | .mlen x,.call ⟨.builtin .len,⟨[o]⟩,⟨[t]⟩⟩=>(match cX bc t with|some ⟨_,_,.map _ _,_⟩=>true|_=>false)&&db x o
 | .beq neg cU x y,.binOp op t o o' _=>decide (op=if neg then .neq else .eql)&&(match cU with|none=>(match cX bc t with|some ⟨_,_,.bool,_⟩=>true|_=>false)|some cU=>xD bc cU t)&&db x o&&db y o'
 | .max2 x y,.call ⟨.builtin .max,⟨[o,o']⟩,⟨[_,_]⟩⟩=>db x o&&db y o'
 | .mkif t x,.makeInterface ek o=>t==ek&&(match cX bc t with|some ⟨_,_,.slice _,_⟩=>true|_=>false)&&db x o
 | .loadB agg sz x,.load t o=>(match cX bc t with|some f=>f.size==sz&&f.kind.isAgg==agg|none=>false)&&db x o
 | .b2s x,.convert s d o=>(match cX bc s,cX bc d with|some ⟨_,_,.slice e,_⟩,some ⟨_,_,.str,_⟩=>(match cX bc e with|some ⟨_,_,.int .u8,_⟩=>true|_=>false)|_,_=>false)&&db x o
 | .isn neg x,.binOp op t o (.const .nilIface) _=>decide (op=if neg then .neq else .eql)&&(match cX bc t with|some ⟨_,_,.iface,_⟩=>true|_=>false)&&db x o
 | .loadZ agg sz x,.load t o=>(match cX bc t with|some f=>f.size==sz&&f.kind.isAgg==agg|none=>false)&&db x o
 | .mgetB bO zero ok x k,.lookup t o o' yP=>ok==yP&&(match cX bc t with|some ⟨_,_,.map kf lH,_⟩=>sB bc bO kf&&(match cX bc lH with|some f=>uY zero f.zero|none=>false)|_=>false)&&db x o&&db k o'
 |_,_=>false
end
section
open Go Go.RowKit
theorem Aa(P:bM)(w:World)(op:BinOp)(t:eZ)(x y:Operand)(k be:IntKind)(m n:Int):(eqGuard op t x y (.int k m) (.int be n)).run P w= .ok () w:=by cases op<;>rfl
theorem Lu(P:bM)(w:World)(op:BinOp)(t:eZ)(x y:Operand)(m n:iI):(eqGuard op t x y (.string m) (.string n)).run P w= .ok () w:=by cases op<;>rfl
theorem Tm(l:List bt):(⟨l.toArray⟩:iI).toList=l:=by simp
theorem Kf(a b:List bt):(⟨a.toArray⟩:iI)++(⟨b.toArray⟩:iI)=⟨(a++b).toArray⟩:=by apply Up;simp
theorem Mq(a:List bt)(l h:Nat):(⟨a.toArray⟩:iI).extract l h=⟨((a.take h).drop l).toArray⟩:=by apply Up;simp[List.drop_take]
theorem wM(a:List bt):(⟨a.toArray⟩:iI).size=a.length:=by simp[JW]
section
variable {P:bM} {w:World} {r:Sem Value}
theorem nQ{k:IntKind}{x:Int}(h:r.run P w= .ok (.int k x) w):∃v,r.run P w= .ok v w/\∀ν,aJ w ν (.int k x) v:=⟨_,h,fun ν=>by simp[aJ]⟩
theorem FO{x:Bool}(h:r.run P w= .ok (.bool x) w):∃v,r.run P w= .ok v w/\∀ν,aJ w ν (.bool x) v:=⟨_,h,fun ν=>by simp[aJ]⟩
end
theorem PO(P:bM)(w:World){op:BinOp}{wr:Bool}{k:IntKind}{a b:Int}{c:Prop}{p:ae}(he:yh op wr k a b=some (c,p))(aQ:c)(t:eZ):
  ∃v,(binOp op t (.int k a) (.int k b)).run P w= .ok v w/\∀ν,aJ w ν p v:=by
 cases op<;>simp only[yh]at he;case add=>
  cases wr<;>simp only[if_true,jX,if_false]at he<;>cases he
  ·obtain⟨rfl,h⟩:=aQ;exact nQ (by simp[binOp,Op.intArith,pD _ h])
  ·exact nQ (by simp[binOp,Op.intArith])
 case sub=>
  cases wr<;>simp only[if_true,jX,if_false]at he<;>cases he
  ·obtain⟨rfl,h⟩:=aQ;exact nQ (by simp[binOp,Op.intArith,pD _ h])
  ·exact nQ (by simp[binOp,Op.intArith])
 case mul=>
  cases wr<;>simp only[if_true,jX,if_false]at he<;>cases he
  ·obtain⟨rfl,h⟩:=aQ;exact nQ (by simp[binOp,Op.intArith,pD _ h])
  ·exact nQ (by simp[binOp,Op.intArith])
 case quo=>cases he;exact nQ (by simp[binOp,Op.intDiv,aQ])
 case rem=>cases he;exact nQ (by simp[binOp,Op.intDiv,aQ])
 case and=>cases he;exact nQ (by simp only[binOp,Op.intBits,ne_eq,not_true_eq_false,if_false,eU])
 case or=>cases he;exact nQ (by simp only[binOp,Op.intBits,ne_eq,not_true_eq_false,if_false,eU])
 case xor=>cases he;exact nQ (by simp only[binOp,Op.intBits,ne_eq,not_true_eq_false,if_false,eU])
 all_goals cases he
 all_goals exact FO (by simp only[binOp,Op.intCmp,ne_eq,not_true_eq_false,if_false,eU,gt_iff_lt,ge_iff_le])
theorem SS(P:bM)(w:World){op:BinOp}{a b:List bt}{c:Prop}{p:ae}(he:zi op a b=some (c,p))(aQ:c)(t:eZ):
  ∃v,(binOp op t (.string ⟨a.toArray⟩) (.string ⟨b.toArray⟩)).run P w= .ok v w/\∀ν,aJ w ν p v:=by
 cases op<;>simp only[zi]at he;case add=>
  cases he;refine⟨.string ⟨(a++b).toArray⟩,?_,fun ν=>by simp only[aJ];exact⟨trivial,by simpa using aQ⟩⟩;have I:¬(((⟨a.toArray⟩:iI).size+(⟨b.toArray⟩:iI).size:Nat):Int)>mQ.max:=by
   have:mQ.max=9223372036854775807:=by decide
   rw[this,wM,wM];simp only[aX]at aQ;omega
  simp only[binOp,Op.stringOp,I,if_false,eU,Kf]
 all_goals cases he
 all_goals exact FO (by simp only[binOp,Op.stringOp,Tm,eU])
theorem Kl(P:bM)(w:World)(ν:aM){op:BinOp}{wr:Bool}{x y:ae}{c:Prop}{p:ae}(he:j3 op wr x y=some (c,p))(aQ:c)(t:eZ){u v:Value}(hu:aJ w ν x u)(ba:aJ w ν y v)(o o':Operand):
  ∃r,(do eqGuard op t o o' u v;binOp op t u v).run P w= .ok r w/\aJ w ν p r:=by
 unfold j3 at he;split at he
 ·rename_i k a be b;simp only[aJ]at hu ba;subst hu;subst ba;split at he
  ·cases he;refine⟨_,?_,by simp[aJ];rfl⟩;simp[binOp,Op.shift,Aa,Int.not_lt.2 aQ]
  ·cases he;refine⟨_,?_,by simp[aJ];rfl⟩;simp[binOp,Op.shift,Aa,Int.not_lt.2 aQ]
  ·split at he
   ·rename_i aa;subst aa;obtain⟨r,I,J⟩:=PO P w he aQ t;exact⟨r,by simp[Aa,I],J ν⟩
   ·cases he
 ·simp only[aJ]at hu ba;rw[hu.1,ba.1];obtain⟨r,I,J⟩:=SS P w he aQ t;exact⟨r,by simp[Lu,I],J ν⟩
 ·cases he
theorem Am{w:World}{ν:aM}:∀(v:List Value) (i off:Nat) (cs:Array Value),off+i+v.length<=cs.size->
  ((v.zipIdx i).foldl (fun cs (x:Value×Nat)=>cs.setIfInBounds (off+x.2) x.1) cs).toList=cs.toList.take (off+i)++v++cs.toList.drop (off+i+v.length)
 |[],i,off,cs,_=>by simp
 |u::v,i,off,cs,h=>by
  simp only[List.zipIdx_cons,List.foldl_cons];rw[Am (w:=w) (ν:=ν) v (i+1) off _ (by simp at h⊢;omega)];have cM:off+i<cs.toList.length:=by simp at h⊢;omega
  simp only[Array.toList_setIfInBounds];have aj:(cs.toList.set (off+i) u).take (off+(i+1))=cs.toList.take (off+i)++[u]:=by rw[show off+(i+1)=(off+i)+1 from by omega,List.take_succ_eq_append_getElem (by simpa using cM)];simp[List.take_set_of_le (c7 _)]
  have aR:(cs.toList.set (off+i) u).drop (off+(i+1)+v.length)=cs.toList.drop (off+i+(u::v).length):=by rw[List.drop_set_of_lt Ω];congr 1;simp;omega
  rw[aj,aR];simp
theorem IP{w:World}{ν:aM}{C:dM}{st:a6}{a:Act}(ao:bX C st a w ν){bc:List (Nat×cR)}{cU:List (Nat×Nat)}{places:List (Nat×Nat)}
  (bB:∀(i off t sz:Nat),cU[i]? =some (off,t)->(cX bc t).map (·.size)=some sz->places[i]? =some (off,sz)):
  ∀(parts:List (Nat×Nat×ct)) (bD:List (Nat×Operand)) (cs:List ae) (us:Array Value) (c:Prop) (cs':List ae),uv bc cU parts bD=true->bW w ν cs us.toList->pL st.t cs parts=some (c,cs')->c->
  ∃bh:Array Value,Instr.fill (places.toArray[·]?) us (bD.map fun(x:Nat×Operand)=>(x.1,a.eval x.2))=some bh/\bW w ν cs' bh.toList
 |[],[],cs,us,c,cs',_,h,he,aQ=>by simp only[pL]at he;cases he;exact⟨us,by simp[Instr.fill],h⟩
 |[],_::_,_,_,_,_,fw,_,_,_=>by simp[uv]at fw
 |_::_,[],_,_,_,_,fw,_,_,_=>by simp[uv]at fw
 |(off,sz,x)::parts,(i,o)::bD,cs,us,c,cs',fw,h,he,aQ=>by
  simp only[uv,bE]at fw;obtain⟨⟨I,J⟩,ak⟩:=fw;split at I
  ·rename_i rn t o3;simp only[bE,cD]at I;obtain⟨rfl,I⟩:=I;have hN:=bB i off t sz o3 I;simp only[pL]at he;split at he
   ·rename_i ho Vw af;cases he;obtain⟨⟨al,aA,hle⟩,ku⟩:=aQ;have ab:=dc ao J;have j8:=qn ab al;have hlen:=lW j8;have ni:=lW h;have jR:(a.eval o).cells.size=sz:=by have:(a.eval o).cells.toList.length=(cells (bA st.t x)).length:=hlen;rw[aA]at this;simpa using this
    have nj:us.size=cs.length:=by simpa using ni
    have vT:=Am (w:=w) (ν:=ν) (a.eval o).cells.toList 0 off us (by simp[jR,nj];omega);have jx:bW w ν (lq cs off (cells (bA st.t x))) ((((a.eval o).cells.toList.zipIdx 0).foldl (fun cs (x:Value×Nat)=>cs.setIfInBounds (off+x.2) x.1) us).toList):=by rw[vT];unfold lq;refine sN (sN (wG off h) j8) ?_;rw[Nat.add_zero,hlen];exact uE _ h
    obtain⟨bh,g1,g2⟩:=IP ao bB parts bD _ _ ho cs' ak jx af ku;refine⟨bh,?_,g2⟩;simp only[ez,Instr.fill,List.getElem?_toArray,hN];rw[bu (by simp[jR,nj];omega)];rw[<-g1];simp only[List.getElem?_toArray];congr 1;rw[<-Array.foldl_toList];simp
   ·cases he
  ·cases I
end
section
open Go Go.RowKit
theorem qw{P:bM}{bc:List (Nat×cR)}(aG:fm P bc=true){t:Nat}{f:cR}(av:cX bc t=some f)(w:World):
  (Go.isAgg t).run P w= .ok f.kind.isAgg w/\(sizeOf t).run P w= .ok f.size w:=by
 obtain⟨i,d,z,I,J,ak,aV,bn,cb,eC,hY⟩:=(pv aG av).ex;refine⟨?_,by simp[sizeOf,typeInfo,I,ak]⟩;simp only[Go.isAgg,ef,run_underlying J,eo];cases aa:f.kind<;>rw[aa]at bn<;>cases d<;>simp[jq]at bn<;>simp[u7.isAgg]
theorem fV{P:bM}{bc:List (Nat×cR)}(aG:fm P bc=true){t:Nat}{f:cR}(av:cX bc t=some f):∃d,P.underlying t=some d/\jq f.kind d=true:=by obtain⟨i,d,z,I,J,ak,aV,bn,cb,eC,hY⟩:=(pv aG av).ex;exact⟨d,J,bn⟩
theorem mZ{e:Nat}{d:TypeDesc}(h:jq (.slice e) d=true):d= .slice e:=by cases d<;>simp[jq]at h;subst h;rfl
theorem qE{d:TypeDesc}(h:jq .str d=true):d= .string:=by cases d<;>simp[jq]at h;rfl
theorem vg{k:IntKind}{d:TypeDesc}(h:jq (.int k) d=true):d= .int k:=by cases d<;>simp[jq]at h;subst h;rfl
theorem zW{cU:List (Nat×Nat)}{d:TypeDesc}(h:jq (.struct cU) d=true):∃gs:Array Field,d= .struct gs/\gs.toList.map (fun f=>(f.offset,f.type))=cU:=by cases d<;>simp[jq]at h;rename_i gs;exact⟨gs,rfl,by simpa using h⟩
theorem y4{w:World}{ν:aM}{cs:List ae}{us:List Value}(h:bW w ν cs us)(off sz:Nat):bW w ν ((cs.drop off).take sz) ((us.drop off).take sz):=wG sz (uE off h)
theorem HY{w:World}{base el sz n:Nat}{v:Value}{us:List Value}(h:w.ownsRow base el sz v n us){b:Nat}(af:v.ownBlock=some b):∃cap,v= .slice (some ⟨b,0,none⟩) n cap:=by
 rcases h.2 with⟨rfl,_⟩|⟨g,cap,cur,rfl,_⟩
 ·simp[kI]at af
 ·simp[kI]at af;subst af;exact⟨cap,rfl⟩
theorem Good.rowElem{pr:Nat->Prop}{w:World}{ν:aM}{b:List (aw×List ae)}{e:List (aw×da)}(aT:Good pr w ν b e){k:aw}{n el sz:Nat}{xs:List ae}(aa:look k e=some ⟨n,el,sz,some xs⟩){i f:Nat}{u:Value}(ab:aJ w ν (.rptr sz k n i f) u){p:ae}(bB:xs[i]? =some p):
  ∃(v:Value) (us:List Value) (dU:Nat),aJ w ν p v/\v.cells.size=sz/\∃b o,u= .pointer (some ⟨b,o,none⟩)/\∀j c,v.cells.toList[f+j]? =some c->w.cell? ⟨b,o+j,none⟩=some c:=by
 simp only[aJ]at ab;obtain⟨_,aq,n',dZ,I,J,ak⟩:=ab;obtain⟨v,us,bK,b6,cH,dd⟩:=aT.own k _ aa;rw[I]at bK;simp only[dt,hz]at bK;obtain⟨rfl,rfl⟩:=bK;obtain⟨bl,af,rfl⟩:=ak rfl;obtain⟨cap,rfl⟩:=HY b6 af;obtain⟨aA,jx,_⟩:=dd xs rfl;simp only at aA jx;obtain⟨v,dr,eO,gO⟩:=y2 i jx bB;refine⟨v,us,el,dr,eO,bl,_,rfl,fun j c ai=>?_⟩;have cM:f+j<sz:=by have:=(dw.1 ai).1;simp[eO]at this;exact this
 have hmul:i*sz+sz<=n'*sz:=by have:=Nat.mul_le_mul_right sz (show i+1<=n' from aq);rwa[Nat.succ_mul]at this
 have aQ:=b6.cellAt (i*sz+f+j) (by show _<n'*sz;omega);rw[aQ];rw[gO,List.getElem?_take,if_pos cM,List.getElem?_drop]at ai;rw[<-ai];congr 1;omega
theorem yy{P:bM}{bc:List (Nat×cR)}(aG:fm P bc=true){pr:Nat->Prop}{w:World}{ν:aM}{b:List (aw×List ae)}{e:List (aw×da)}(aT:Good pr w ν b e){t:Nat}{f:cR}(av:cX bc t=some f)
  {x:ae} {u:Value} (ab:aJ w ν x u) {c:Prop} {p:ae} (he:kg b e f.kind.isAgg f.size x=some (c,p)) (aQ:c):∃v,(Instr.loadAt t u).run P w= .ok v w/\aJ w ν p v:=by
 obtain⟨bU,al⟩:=qw aG av w;generalize xS:f.kind.isAgg=eh at*;generalize dR:f.size=sz at*;unfold kg at he;split at he
 ·rename_i cJ k n i rZ;unfold sQ at he;split at he
  ·rename_i n' el hs xs aa;split at he
   ·rename_i aS;obtain⟨rfl,rfl⟩:=aS;split at he
    ·rename_i RE GA;obtain⟨C4,us,dU,g1,g2,nf⟩:=Good.rowElem aT aa ab GA;have A6:dE RE=true:=by
      cases eh
      ·simp only[jX,if_false,jZ]at he;obtain⟨q,_,he⟩:=he;cases he;exact aQ
      ·simp only[if_true]at he;cases he;exact aQ.1
     have cA:=qn g1 A6;cases eh
     ·simp only[jX,if_false,jZ]at he;obtain⟨q,bP,he⟩:=he;cases he;obtain⟨v,f1,f2,f3⟩:=wF rZ cA bP;refine⟨v,?_,f2⟩;obtain⟨b,o,rfl,nf⟩:=nf;have:=nf 0 v (by simpa using f1);simp only[Nat.add_zero]at this;simp[Instr.loadAt,Instr.sureAddr,loadVar,bU,this]
     ·simp only[if_true]at he;cases he;obtain⟨b,o,rfl,nf⟩:=nf;refine⟨.agg ((C4.cells.toList.drop rZ).take sz).toArray,?_,by simp only[aJ];exact⟨_,rfl,by simpa using y4 cA rZ sz⟩⟩;have aA:=lW cA;have hlen:((C4.cells.toList.drop rZ).take sz).length=sz:=by simp only[List.length_take,List.length_drop];omega
      have fQ:=run_loadCells_list (P:=P) w ⟨b,o,none⟩ ((C4.cells.toList.drop rZ).take sz) (fun j v ai=>by
       rw[k4];refine nf j v ?_;rw[List.getElem?_take]at ai;split at ai
       ·simpa[List.getElem?_drop]using ai
       ·cases ai)
      rw[hlen]at fQ;simp only[Instr.loadAt,Instr.sureAddr,loadVar,ef,eU,eo,bU,if_true,al,fQ]
    ·cases he
   ·cases he
  ·cases he
 ·rename_i k off;simp only[aJ]at ab;obtain⟨bl,I,rfl⟩:=ab;split at he
  ·rename_i cs aa;obtain⟨gP,us,el,g1,g2,g3,g4,g5⟩:=aT.box k cs aa;rw[I]at g1;cases g1;have hN:gH cs=true:=by
    cases eh
    ·simp only[jX,if_false,jZ]at he;obtain⟨q,bP,he⟩:=he;cases he;exact aQ
    ·simp only[if_true]at he;cases he;exact aQ.1
   rw[mF hN]at g4;rw[lT hN]at g5;have aA:=lW g5;cases eh
   ·simp only[jX,if_false,jZ]at he;obtain⟨q,bP,he⟩:=he;cases he;obtain⟨v,f1,f2,f3⟩:=wF off g5 bP;refine⟨v,?_,f2⟩;have nf:w.cell? ⟨bl,off,none⟩=some v:=by simpa[World.cell?,g4]using f1
    simp[Instr.loadAt,Instr.sureAddr,loadVar,bU,nf]
   ·simp only[if_true]at he;cases he;replace aQ:=aQ.2;refine⟨_,?_,by simp only[aJ];exact⟨_,rfl,by simpa using y4 g5 off sz⟩⟩;simp only[Instr.loadAt,Instr.sureAddr,loadVar,ef,eU,eo,bU,if_true,al];rw[Sz g4 (by simp at aA;omega)];rfl
  ·cases he
 ·rename_i q;simp only[aJ]at ab;obtain⟨bl,off,dZ,rfl,J,ak⟩:=ab;cases eh
  ·simp only[jX,if_false]at he;cases he;obtain⟨e5,er⟩:=aQ;obtain⟨g1,g2⟩:=Cp J e5 (fun cs e=>by subst e;have:=fa List.length er;simp only[cells,hy,l5]at this;cases cs with
    |nil=>simp[cells]at er
    |cons y ys=>simp only[cells,tb]at er;obtain⟨aj,aR⟩:=er;subst aR;have:=fa SizeOf.sizeOf aj;simp at this;omega)
   refine⟨dZ,?_,J⟩;rw[g2]at ak;have nf:=ak.1.2;simp[Instr.loadAt,Instr.sureAddr,loadVar,bU,nf]
  ·simp only[if_true]at he;cases he;obtain⟨cs,rfl,hlen⟩:=aQ;simp only[aJ]at J;obtain⟨us,rfl,aV⟩:=J;refine⟨.agg us,?_,by simp only[aJ];exact⟨us,rfl,aV⟩⟩;simp only[km]at ak;have aA:=lW aV;have:=IS (P:=P) ak;rw[show us.toList.length=sz from by omega]at this;simp[Instr.loadAt,Instr.sureAddr,loadVar,bU,al,this]
 ·cases he
theorem Nj{P:bM}{bc:List (Nat×cR)}(aG:fm P bc=true){w:World}{ν:aM}{s i:Nat}{f:cR}{cU:List (Nat×Nat)}(av:cX bc s=some f)(aa:f.kind= .struct cU){off t:Nat}{g:cR}(aq:cU[i]? =some (off,t))(aT:cX bc t=some g)(a1:g.size≠0)
  {x:ae} {u:Value} (ab:aJ w ν x u) {c:Prop} {p:ae} (he:lI off g.kind.isAgg g.size x=some (c,p)) (aQ:c):∃v,(Instr.fieldAt s u i).run P w= .ok v w/\aJ w ν p v:=by
 obtain⟨d,bj,ed⟩:=fV aG av;rw[aa]at ed;obtain⟨gs,rfl,ix⟩:=zW ed;have p4:∃fd:Field,gs[i]? =some fd/\fd.offset=off/\fd.type=t:=by rw[<-ix]at aq;simp only[List.getElem?_map,jZ]at aq;obtain⟨fd,I,J⟩:=aq;simp only[hz]at J;exact⟨fd,by simpa using I,J.1,J.2⟩
 obtain⟨fd,xX,ah,iZ⟩:=p4;obtain⟨bU,al⟩:=qw aG aT w;have fQ:∀b o,(Instr.fieldAt s (.pointer (some ⟨b,o,none⟩)) i).run P w= .ok (.pointer (some ⟨b,o+off,none⟩)) w:=by intro b o;simp[Instr.fieldAt,run_underlying bj,xX,Instr.sureAddr,fieldPlace,iZ,al,a1,k4,ah]
 unfold lI at he;split at he
 ·cases he;simp only[aJ]at ab;obtain⟨b,I,rfl⟩:=ab;exact⟨_,fQ _ _,by simp only[aJ];exact⟨b,I,rfl⟩⟩
 ·cases he;simp only[aJ]at ab;obtain⟨⟨b,o,rfl⟩,aq,n',dZ,I,J,ak⟩:=ab;refine⟨_,fQ _ _,?_⟩;simp only[aJ];refine⟨⟨b,_,rfl⟩,aq,n',dZ,I,J,fun e=>?_⟩;obtain⟨fu,aj,aR⟩:=ak e;simp only[YO,dt,Addr.mk.injEq,and_true]at aR;obtain⟨rfl,rfl⟩:=aR;exact⟨b,aj,by rw[Nat.add_assoc]⟩
 ·rename_i cs;simp only[aJ]at ab;obtain⟨b,o,dZ,rfl,⟨us,rfl,J⟩,ak⟩:=ab;refine⟨_,fQ _ _,?_⟩;simp only[km]at ak;split at he
  ·cases he;simp only[aJ];exact⟨b,o+off,.agg ((us.toList.drop off).take g.size).toArray,rfl,⟨_,rfl,by simpa using y4 J off g.size⟩,by simpa[km]using yv g.size (yu off ak)⟩
  ·simp only[jZ]at he;obtain⟨q,bP,he⟩:=he;cases he;obtain⟨v,f1,f2,f3⟩:=wF off J bP;simp only[aJ];have O2:=qe ak f1;have PB:v.cells= #[v]:=by cases v<;>first|rfl|cases f3
   exact⟨b,o+off,v,rfl,f2,by rw[PB];exact⟨O2,trivial⟩⟩
 ·cases he
theorem Nw{P:bM}{bc:List (Nat×cR)}(aG:fm P bc=true){w:World}{ν:aM}{s i:Nat}{f:cR}{cU:List (Nat×Nat)}(av:cX bc s=some f)(aa:f.kind= .struct cU){off t:Nat}{g:cR}(aq:cU[i]? =some (off,t))(aT:cX bc t=some g)
  {x:ae} {u:Value} (ab:aJ w ν x u) {c:Prop} {p:ae} (he:oW off g.kind.isAgg g.size x=some (c,p)) (aQ:c):∃v,(Instr.field s u i).run P w= .ok v w/\aJ w ν p v:=by
 obtain⟨d,bj,ed⟩:=fV aG av;rw[aa]at ed;obtain⟨gs,rfl,ix⟩:=zW ed;have p4:∃fd:Field,gs[i]? =some fd/\fd.offset=off/\fd.type=t:=by rw[<-ix]at aq;simp only[List.getElem?_map,jZ]at aq;obtain⟨fd,I,J⟩:=aq;simp only[hz]at J;exact⟨fd,by simpa using I,J.1,J.2⟩
 obtain⟨fd,xX,ah,iZ⟩:=p4;obtain⟨bU,al⟩:=qw aG aT w;unfold oW at he;split at he
 ·rename_i cs;simp only[aJ]at ab;obtain⟨us,rfl,J⟩:=ab;generalize xS:g.kind.isAgg=eh at*;cases eh
  ·simp only[jX,if_false,jZ]at he;obtain⟨q,bP,he⟩:=he;cases he;obtain⟨v,f1,f2,f3⟩:=wF off J bP;have Mt:us[off]? =some v:=by simpa using f1
   exact⟨v,by simp[Instr.field,run_underlying bj,xX,asAgg,part,iZ,bU,ah,Mt],f2⟩
  ·simp only[if_true]at he;cases he;refine⟨.agg (us.extract off (off+g.size)),by simp[Instr.field,run_underlying bj,xX,asAgg,part,iZ,bU,ah,al],?_⟩;simp only[aJ];refine⟨_,rfl,?_⟩;have:=y4 J off g.size;simpa[List.take_drop]using this
 ·cases he
theorem PJ{P:bM}{bc:List (Nat×cR)}(aG:fm P bc=true){w:World}{ν:aM}{t e:Nat}{f g:cR}(av:cX bc t=some f)(aa:f.kind= .slice e)(aT:cX bc e=some g)
  {x y:ae} {u v:Value} (ab:aJ w ν x u) (bG:aJ w ν y v) {c:Prop} {p:ae} (he:tZ g.size x y=some (c,p)) (aQ:c):∃r,(Instr.indexAt t u v).run P w= .ok r w/\aJ w ν p r:=by
 obtain⟨d,bj,ed⟩:=fV aG av;rw[aa]at ed;obtain rfl:=mZ ed;obtain⟨bU,al⟩:=qw aG aT w;unfold tZ at he;split at he
 ·rename_i cJ tag xs k i;split at he
  ·rename_i dR;cases he;simp only[aJ]at ab bG;subst bG;subst dR;obtain⟨⟨a,cap,rfl,I,J,ak⟩,_⟩:=ab;obtain⟨ng,x0⟩:=aQ;have lJ:i.toNat<xs.length:=Ω
   rcases ak with rfl|⟨b,off,us,rfl,aV,bn⟩
   ·simp at lJ
   ·have ab:xs[i.toNat]? =some xs[i.toNat]:=cB lJ;obtain⟨w',dr,eO,gO⟩:=y2 i.toNat bn ab;refine⟨.pointer (some ⟨b,off+i.toNat*g.size,none⟩),?_,?_⟩
    ·simp only[Instr.indexAt,asIntOf,ef,eU,eo,run_underlying bj,ng,x0,and_self,if_true,al,k4]
    ·simp only[aJ];refine⟨b,off+i.toNat*g.size,w',rfl,by simpa[List.getD,ab]using dr,?_⟩;rw[gO];exact yv g.size (yu _ aV)
  ·cases he
 ·rename_i cJ k n Hn i;split at he
  ·rename_i dR;cases he;simp only[aJ]at ab bG;subst bG;subst dR;obtain⟨⟨b,cap,rfl⟩,J,n',dZ,ak,aV,bn⟩:=ab;obtain⟨ng,x0⟩:=aQ;refine⟨.pointer (some ⟨b,0+i.toNat*g.size,none⟩),?_,?_⟩
   ·simp only[Instr.indexAt,asIntOf,ef,eU,eo,run_underlying bj,ng,x0,and_self,if_true,al,k4]
   ·simp only[aJ];refine⟨⟨b,_,rfl⟩,Ω,n',dZ,ak,aV,fun e=>⟨b,?_,Ψ⟩⟩;rw[<-bn e];rfl
  ·cases he
 ·cases he
theorem yR{C:dM}{st:a6}{a:Act}{w:World}{ν:aM}(h:bX C st a w ν){x:bf ct}{o:bf Operand}(ab:rs x o=true){xp n:Int}(he:np xp (x.map (bA st.t))=some n):
  (o.map a.eval=none/\n=xp)\/ ∃k,o.map a.eval=some (.int k n):=by
 cases x with
 |none=>cases o with
  |none=>simp[np]at he;exact .inl ⟨rfl,he.symm⟩
  |some o=>simp[rs]at ab
 |some x=>cases o with
  |none=>simp[rs]at ab
  |some o=>
   simp only[rs]at ab
   have:=dc h ab
   simp only[Option.map_some]at he⊢
   cases sg:bA st.t x<;>simp[sg,np]at he
   rw[sg]at this
   simp only[aJ]at this
   subst he
   exact .inr ⟨_,by rw[this]⟩
theorem DG:∀{xs:List ae} {s:List bt},lC xs=some s->s.length=xs.length
 |[],s,h=>by simp only[lC]at h;cases h;rfl
 |x::xs,s,h=>by
  cases x<;>try(simp[lC]at h;done)
  rename_i k n;cases k<;>simp only[lC,jZ,reduceCtorEq]at h;obtain⟨aE,I,rfl⟩:=h;simp[DG I]
def tl(n:Int):bt:=nF n.toNat
theorem DH{w:World}{ν:aM}{sz:Nat}:∀{xs:List ae} {s:List bt} {us:List Value},lC xs=some s->cf w ν sz xs us->∃ns:List Int,us=ns.map (kY .u8)/\s=ns.map tl/\us.length=xs.length
 |[],s,us,h,ao=>by simp only[lC]at h;cases h;simp only[cf]at ao;subst ao;exact⟨[],rfl,rfl,rfl⟩
 |x::xs,s,us,h,ao=>by
  cases x<;>try(simp[lC]at h;done)
  rename_i k n;cases k<;>simp only[lC,jZ,reduceCtorEq]at h;obtain⟨aE,I,rfl⟩:=h;simp only[cf,aJ]at ao;obtain⟨u,bh,rfl,⟨rfl,_⟩,ao⟩:=ao;obtain⟨ns,rfl,rfl,aA⟩:=DH I ao;exact⟨n::ns,by simp[km],rfl,by simp[km]at aA⊢;exact aA⟩
theorem H8{P:bM}{w:World}{f:Value->iI->Sem (ForInStep iI)}(av:∀n s,f (.int .u8 n) s=pure (.yield (s.push (tl n)))):∀(ns:List Int) (s:iI),(forIn (ns.map (kY .u8)) s f).run P w= .ok ⟨(s.data.toList++ns.map tl).toArray⟩ w
 |[],s=>by simp
 |n::ns,s=>by simp only[ez,List.forIn_cons,ef,av,eU,eo];rw[H8 av ns];simp[YI]
theorem Ki{P:bM}{w:World}{A:Nat->Nat->Prop}{a:bf Addr}{len cap:Nat}{ns:List Int}(aA:ns.length=len)(h:len=0\/ ∃b off,a=some ⟨b,off,none⟩/\ik w A b off (ns.map (kY .u8))):
  (Conv.bytesToString (.slice a len cap)).run P w= .ok (.string ⟨(ns.map tl).toArray⟩) w:=by
 have O5:∀jI,a=some jI->(loadCells jI len).run P w= .ok (ns.map (kY .u8)).toArray w:=fun jI e=>by
  rcases h with h|⟨b,off,aj,J⟩
  ·subst h;have:ns=[]:=by cases ns<;>simp_all
   subst this;exact run_loadCells_list w jI [] fun j v ai=>by simp at ai
  ·rw[aj]at e;cases e;have:=IS (P:=P) J;simpa[aA]using this
 unfold Conv.bytesToString;cases a with
 |none=>
  have:ns=[]:=by
   rcases h with h|⟨b,off,aj,J⟩
   ·subst h;cases ns<;>simp_all
   ·cases aj
  subst this;simp;rfl
 |some jI=>simp only[ef,O5 jI rfl,eo,Array.forIn_toList,List.forIn_toArray];rw[H8 (fun n s=>rfl) ns YH];simp
theorem JU{c d:ae}(h:zq c d=true):c=d:=by unfold zq at h;split at h<;>simp_all
theorem Da:∀{cs dA:List ae},s7 cs dA=true->cs=dA
 |[],[],_=>rfl
 |[],_::_,h=>by simp[s7]at h
 |_::_,[],h=>by simp[s7]at h
 |c::cs,d::dA,h=>by simp only[s7,bE]at h;rw[JU h.1,Da h.2]
theorem Uo{cs:List ae}{z:ae}(h:De cs z=true):z= .agg cs:=by
 cases z<;>simp only[De]at h;case agg dA=>rw[Da h]
 all_goals cases h
theorem NR(s:List bt)(n:Nat)(h:n<s.length):(⟨s.toArray⟩:iI)[n]? =some (s.getD n 0):=by
 have dR:n<(⟨s.toArray⟩:iI).size:=by rw[wM];exact h
 have e:(⟨s.toArray⟩:iI)[n]? =some ((⟨s.toArray⟩:iI)[n]'dR):=getElem?_pos (⟨s.toArray⟩:iI) n dR;rw[e];congr 1;simp[List.getD,h];rfl
theorem zf(P:bM)(w:World)(k:IntKind)(i:Int)(y:Nat)(c:BoundsCode)(a1:0<=i)(I:i<=y):(Instr.sliceBound (.int k i) y c).run P w= .ok i.toNat w:=by simp[Instr.sliceBound,asIntOf,a1,I]
theorem DB(P:bM)(w:World)(P4:Bool)(len cap:Nat)(lo aq:bf Value)(l h:Int)(O4:(lo=none/\l=0)\/ ∃k,lo=some (.int k l))(OS:(aq=none/\h=len)\/ ∃k,aq=some (.int k h))
  (a1:0<=l) (I:l<=h) (J:h<=len) (aQ:len<=cap):(Instr.sliceBounds P4 len cap lo aq none).run P w= .ok (l.toNat,h.toNat,cap) w:=by
 rcases O4 with⟨rfl,rfl⟩|⟨k,rfl⟩<;>rcases OS with⟨rfl,rfl⟩|⟨be,rfl⟩
 ·simp[Instr.sliceBounds]
 ·simp[Instr.sliceBounds,zf P w be h cap _ Ω Ω]
 ·simp[Instr.sliceBounds,zf P w k l len _ Ω Ω]
 ·simp[Instr.sliceBounds,zf P w be h cap _ Ω Ω,zf P w k l h.toNat _ Ω Ω]
theorem H2{P:bM}{bc:List (Nat×cR)}(aG:fm P bc=true):∀(gs:List Field),(gs.all fun f=>(cX bc f.type).isSome)=true->
  ∃places:List (Nat×Nat),gs.mapM (fun f=>(P.info? f.type).map fun i=>(f.offset,i.size))=some places/\
   ∀(i off t sz:Nat),(gs.map (fun f=>(f.offset,f.type)))[i]? =some (off,t)->(cX bc t).map (·.size)=some sz->places[i]? =some (off,sz)
 |[],_=>⟨[],Ψ,Ψ⟩
 |f::gs,h=>by
  simp only[List.all_cons,bE]at h;obtain⟨places,I,J⟩:=H2 aG gs h.2;obtain⟨g,aT⟩:=eK.1 h.1;obtain⟨i,d,z,aj,aR,bm,c1,gE,hI,na,k8⟩:=(pv aG aT).ex;refine⟨(f.offset,g.size)::places,by simp[List.mapM_cons,aj,bm,I],fun j off t sz ai dR=>?_⟩;cases j with
  |zero=>simp only[ez,List.getElem?_cons_zero,dt,hz]at ai⊢;obtain⟨rfl,rfl⟩:=ai;rw[aT]at dR;simpa using dR
  |succ j=>simp only[ez,List.getElem?_cons_succ]at ai⊢;exact J j off t sz ai dR
theorem il{P:bM}{w:World}{x:Sem Value}{v:Value}(h:x.run P w= .ok v w):(do pure (Next.value (<-x)):Sem Next).run P w= .ok (.value v) w:=by simp[h]
theorem Dd{p q:ae}(h:uY p q=true):p=q:=by
 unfold uY at h;split at h
 ·rw[Da h]
 ·cases h
 ·exact JU h
theorem Dc(w:World)(ν:aM){p:ae}{v:Value}(h:s8 p v=true):aJ w ν p v/\bW w ν (cells p) v.cells.toList:=by
 by_cases bU:∃cs,p= .agg cs
 ·obtain⟨cs,rfl⟩:=bU;cases v<;>simp only[s8]at h;case agg us=>have:=Db w ν _ _ h;exact⟨by simp only[aJ];exact⟨us,rfl,this⟩,by simpa[cells,km]using this⟩
  all_goals cases h
 ·have bS:tn p v=true/\v.oneCell'=true:=by cases p<;>simp only[s8,bE]at h<;>first|exact h|exact absurd ⟨_,rfl⟩ bU
  have ao:=zA w ν bS.1;refine⟨ao,?_⟩;have aQ:cells p=[p]:=by cases p<;>first|rfl|exact absurd ⟨_,rfl⟩ bU
  have ba:v.cells= #[v]:=by have:=bS.2;cases v<;>first|rfl|simp[Value.oneCell']at this
  rw[aQ,ba];simp only[bW];exact⟨v,[],rfl,⟨ao,bS.2⟩,rfl⟩
theorem CU{P:bM}{bc:List (Nat×cR)}(aG:fm P bc=true){t:Nat}{f:cR}(av:cX bc t=some f)(w:World):∃z,(zeroValue t).run P w= .ok z w/\s8 f.zero z=true/\z.cells.size=f.size:=by obtain⟨i,d,z,I,J,ak,aV,bn,cb,eC,hY⟩:=(pv aG av).ex;exact⟨z,by simp[zeroValue,typeInfo,I,cb],eC,hY⟩
theorem uG{C:dM}{st:a6}{a:Act}{w:World}{ν:aM}(h:bX C st a w ν):∀{xs:List ct} {os:List Operand},rr xs os=true->b4 w ν (xs.map (bA st.t)) (os.map a.eval)
 |[],[],_=>by simp[b4]
 |[],_::_,aa=>by simp[rr]at aa
 |_::_,[],aa=>by simp[rr]at aa
 |x::xs,o::os,aa=>by simp only[rr,bE]at aa;simp only[ez,b4];exact⟨_,_,rfl,dc h aa.1,uG h aa.2⟩
theorem Lv{P:bM}{w:World}{t:eZ}(bj:P.underlying t=some .bool)(d:Nat)(a b:Bool):(Op.equalIn (d+1) t (.bool a) (.bool b)).run P w= .ok (a==b) w:=by rw[Op.equalIn];simp only[ef,run_underlying bj,eo,eU]
theorem Lw{P:bM}{w:World}{t:eZ}{ms:Array (String×eZ)}(bj:P.underlying t=some (.interface ms))(d:Nat):(∀u x,(Op.equalIn (d+1) t (.iface u x) .nilIface).run P w= .ok false w)/\(Op.equalIn (d+1) t .nilIface .nilIface).run P w= .ok true w:=by
 constructor
 ·intro u x;simp[Op.equalIn,run_underlying bj]
 ·simp[Op.equalIn,run_underlying bj]
theorem xw{P:bM}{w:World}{t:eZ}{ms:Array (String×eZ)}(bj:P.underlying t=some (.interface ms)):(∀u x,(Op.equal t (.iface u x) .nilIface).run P w= .ok false w)/\(Op.equal t .nilIface .nilIface).run P w= .ok true w:=Lw bj 9999
theorem Lx{P:bM}{w:World}{t:eZ}(bj:P.underlying t=some .bool)(a b:Bool):(Op.equal t (.bool a) (.bool b)).run P w= .ok (a==b) w:=Lv bj _ a b
theorem E5:∀{borns:List Nat} {kvs:List ae} {us:List Value},kvs.length=2*borns.length->us.length=kvs.length->(eE borns us).length=borns.length
 |[],_,us,_,_=>by simp[eE]
 |fu::dN,kvs,[],I,J=>by rw[I]at J;simp at J
 |fu::dN,kvs,[_],I,J=>by rw[I]at J;simp at J;omega
 |fu::dN,kvs,k::v::us,I,J=>by simp only[eE,hy];rw[E5 (kvs:=kvs.drop 2) (us:=us) (borns:=dN) (by simp at I⊢;omega) (by simp at I J⊢;omega)]
theorem IH{w:World}{ν:aM}:∀{bD:List ae} {vs:List Value},b4 w ν bD vs->vs.length=bD.length
 |[],vs,h=>by simp only[b4]at h;subst h;rfl
 |p::bD,vs,h=>by simp only[b4]at h;obtain⟨u,bh,rfl,_,J⟩:=h;simp[IH J]
theorem qs{P:bM}{w:World}{r:Nat}{o:Obj}(af:w.heap[r]? =some o)(aS:∀c e f,o≠ .cells c e f:=by simp):(getObj r).run P w= .ok o w:=by simp only[getObj,Sem.run,af]
def mT(P:bM):Nat->List Bool->List Field->Prop
 |_,[],[]=>True
 |n,b::r,f::gs=>(f.offset=n/\f.name≠ "_" /\(if b=true then P.underlying f.type=some .string else∃k,P.underlying f.type=some (.int k)))/\mT P (n+1) r gs
 |_,_,_=>dz
theorem wx{P:bM}{t:eZ}{b:Bool}(h:if b=true then P.underlying t=some .string else∃k,P.underlying t=some (.int k)):P.plainKey t=true:=by
 cases b
 ·obtain⟨k,h⟩:=(by simpa using h:∃k,P.underlying t=some (.int k));simp[Program.plainKey,h]
 ·have h:P.underlying t=some .string:=by simpa using h
  simp[Program.plainKey,h]
theorem Kx{P:bM}{w:World}{ν:aM}(d:Nat){X Y:Array Value}(cU:List Bool):∀(gs:List Field) (n:Nat) (as dN:List ae) (us vs:List Value) (q:Bool),mT P n cU gs->X.toList.drop n=us->Y.toList.drop n=vs->bW w ν as us->bW w ν dN vs->iL cU as dN=some q->
  (Op.eqFields (d+1) X Y gs).run P w= .ok q w/\(q=true->us=vs)/\∀m,(us.zip us).all (fun(x,y)=>Instr.sameBits m x y)=true:=by
 induction cU with
 |nil=>intro gs n as dN us vs q aT r8 vw I J h;cases as<;>cases dN<;>simp only[iL,dt,reduceCtorEq]at h;cases gs<;>simp only[mT]at aT;simp only[bW]at I J;rw[I,J,<-h];exact⟨by simp[Op.eqFields],fun _=>rfl,fun m=>rfl⟩
 |cons rX r bb=>
  intro gs n as dN us vs q aT r8 vw I J h;cases gs with
  |nil=>simp only[mT]at aT
  |cons f gs=>
  simp only[mT]at aT;obtain⟨⟨ya,kR,iZ⟩,aT⟩:=aT;cases as with
  |nil=>cases rX<;>cases dN<;>simp[iL]at h
  |cons wu as=>
  cases dN with
  |nil=>cases rX<;>cases wu<;>simp[iL]at h
  |cons yT dN=>
  cases rX with
  |false=>
   have aQ:∃k a b hE,wu= .int k a/\yT= .int k b/\iL r as dN=some hE/\q=((a==b)&&hE):=by
    cases wu<;>first|(simp[iL]at h;done)|skip
    cases yT<;>first|(simp[iL]at h;done)|skip
    simp only[iL]at h;split at h
    ·rename_i aa;subst aa;simp only[jZ]at h;obtain⟨hE,ak,aV⟩:=h;exact⟨_,_,_,hE,rfl,rfl,ak,aV.symm⟩
    ·cases h
   obtain⟨k,a,b,hE,rfl,rfl,ak,rfl⟩:=aQ;simp only[bW,aJ]at I J;obtain⟨u,bh,rfl,⟨rfl,_⟩,I⟩:=I;obtain⟨v,vs',rfl,⟨rfl,_⟩,J⟩:=J;have wq:X[n]? =some (.int k a):=by rw[<-Array.getElem?_toList,<-List.head?_drop,r8];rfl
   have B6:Y[n]? =some (.int k b):=by rw[<-Array.getElem?_toList,<-List.head?_drop,vw];rfl
   obtain⟨i1,i2,i3⟩:=bb gs (n+1) as dN bh vs' hE aT (by rw[<-List.tail_drop,r8];rfl) (by rw[<-List.tail_drop,vw];rfl) I J ak;obtain⟨Hn,Bb⟩:=(by simpa using iZ:∃k,P.underlying f.type=some (.int k));refine⟨?_,?_,fun m=>?_⟩
   ·simp only[Op.eqFields,kR,ne_eq,not_false_eq_true,if_true,ef,ya,run_part_plain w (wx iZ) wq,run_part_plain w (wx iZ) B6,eo,run_equalIn_int w d f.type k Hn a b Bb];cases r9:(a==b)
    ·simp
    ·simpa using i1
   ·intro bP;simp only[bE,cD]at bP;rw[bP.1,i2 bP.2]
   ·have:=i3 m;simp only[List.zip_cons_cons,List.all_cons,this,Bool.and_true];cases m<;>simp[Instr.sameBits]
  |true=>
   have aQ:∃a b hE,wu= .str a/\yT= .str b/\iL r as dN=some hE/\q=((a==b)&&hE):=by
    cases wu<;>first|(simp[iL]at h;done)|skip
    cases yT<;>first|(simp[iL]at h;done)|skip
    simp only[iL,jZ]at h;obtain⟨hE,ak,aV⟩:=h;exact⟨_,_,hE,rfl,rfl,ak,aV.symm⟩
   obtain⟨a,b,hE,rfl,rfl,ak,rfl⟩:=aQ;simp only[bW,aJ]at I J;obtain⟨u,bh,rfl,⟨⟨rfl,_⟩,_⟩,I⟩:=I;obtain⟨v,vs',rfl,⟨⟨rfl,_⟩,_⟩,J⟩:=J;have wq:X[n]? =some (.string ⟨a.toArray⟩):=by rw[<-Array.getElem?_toList,<-List.head?_drop,r8];rfl
   have B6:Y[n]? =some (.string ⟨b.toArray⟩):=by rw[<-Array.getElem?_toList,<-List.head?_drop,vw];rfl
   obtain⟨i1,i2,i3⟩:=bb gs (n+1) as dN bh vs' hE aT (by rw[<-List.tail_drop,r8];rfl) (by rw[<-List.tail_drop,vw];rfl) I J ak;have Bb:P.underlying f.type=some .string:=by simpa using iZ
   refine⟨?_,?_,fun m=>?_⟩
   ·simp only[Op.eqFields,kR,ne_eq,not_false_eq_true,if_true,ef,ya,run_part_plain w (wx iZ) wq,run_part_plain w (wx iZ) B6,eo,run_equalIn_string w d f.type _ _ Bb];have e:((⟨a.toArray⟩:iI).toList==(⟨b.toArray⟩:iI).toList)=(a==b):=by rw[Uq,Uq]
    rw[e];cases r9:(a==b)
    ·simp
    ·simpa using i1
   ·intro bP;simp only[bE,cD]at bP;rw[bP.1,i2 bP.2]
   ·have:=i3 m;simp only[List.zip_cons_cons,List.all_cons,this,Bool.and_true];cases m<;>simp only[Instr.sameBits]<;>exact(MapKept.bytes_beq _ _).2 rfl
theorem Fy{P:bM}{bc:List (Nat×cR)}(aG:fm P bc=true):∀(cU:List Bool) (gs:List Field) (n:Nat),tD bc n cU (gs.map fun f=>(f.offset,f.type))=true->(gs.all (fun f=>match P.underlying f.type with|some (.int _)=>true|some .string=>true|_=>false)=true)/\((∀f∈gs,f.name≠ "_")->mT P n cU gs)
 |[],[],_,_=>⟨rfl,fun _=>trivial⟩
 |[],_::_,_,h=>by simp[tD]at h
 |_::_,[],_,h=>by simp[tD]at h
 |b::r,f::gs,n,h=>by
  simp only[ez,tD,bE,cD]at h;obtain⟨⟨I,J⟩,ak⟩:=h;obtain⟨i1,i2⟩:=Fy aG r gs (n+1) ak;split at J
  ·rename_i av;obtain⟨d,hu,bj⟩:=fV aG av;obtain rfl:=vg bj;refine⟨by simp only[List.all_cons,hu,i1,Bool.and_self],fun aS=>⟨⟨I,aS f Ψ,?_⟩,i2 fun g aT=>aS g (by simp[aT])⟩⟩;have:b=false:=by simpa using J
   subst this;simpa using⟨_,hu⟩
  ·rename_i av;obtain⟨d,hu,bj⟩:=fV aG av;obtain rfl:=qE bj;refine⟨by simp only[List.all_cons,hu,i1,Bool.and_self],fun aS=>⟨⟨I,aS f Ψ,?_⟩,i2 fun g aT=>aS g (by simp[aT])⟩⟩;subst J;simpa using hu
  ·cases J
theorem FA{P:bM}{bc:List (Nat×cR)}(aG:fm P bc=true){cU:List Bool}{t:Nat}(h:xD bc cU t=true):∃gs,P.underlying t=some (.struct gs)/\mT P 0 cU gs.toList/\P.stoodInHeld t=false/\P.eqGuardType P.depth t=false:=by
 unfold xD at h;split at h
 ·rename_i av;obtain⟨d,hu,bj⟩:=fV aG av;have aQ:=(pv aG av).cmp d hu;cases d<;>simp[jq]at bj;rename_i gs;subst bj;obtain⟨i1,i2⟩:=Fy aG cU gs.toList 0 h;have kv:Fz P gs=true:=i1;simp only[zS,kv,Bool.not_true,Bool.false_or,EL,bE,Bool.not_eq_true',kZ,bne_iff_ne,ne_eq]at aQ;exact⟨gs,hu,i2 aQ.1.1,aQ.1.2,aQ.2⟩
 ·cases h
theorem E7{P:bM}{w:World}{ν:aM}{t:eZ}{gs:Array Field}{cU:List Bool}(hu:P.underlying t=some (.struct gs))(aT:mT P 0 cU gs.toList)(fS:P.stoodInHeld t=false){as dN:List ae}{X Y:Array Value}(I:bW w ν as X.toList)(J:bW w ν dN Y.toList){q:Bool}(h:iL cU as dN=some q):
  (Op.equalIn 10000 t (.agg X) (.agg Y)).run P w= .ok q w/\(q=true->X=Y)/\∀m,(X.toList.zip X.toList).all (fun(x,y)=>Instr.sameBits m x y)=true:=by
 have av:P.fieldsOf t=gs:=by simp[Program.fieldsOf,hu]
 obtain⟨i1,i2,i3⟩:=Kx 9998 cU gs.toList 0 as dN _ _ q aT rfl rfl I J h;refine⟨?_,fun e=>?_,?_⟩
 ·rw[run_equalIn_struct w 9999 t X Y (by rw[av];exact hu) fS,av];exact i1
 ·have:=i2 e;simpa using this
 ·simpa using i3
inductive pG (P:bM):ib->eZ->Prop
 |i {t:eZ} {k:IntKind}:P.underlying t=some (.int k)->pG P .i t
 |s {t:eZ}:P.underlying t=some .string->pG P .s t
 |a {t:eZ} {cU:List Bool} {gs:Array Field}:P.underlying t=some (.struct gs)->mT P 0 cU gs.toList->P.stoodInHeld t=false->pG P (.a cU) t
theorem Br{P:bM}{bc:List (Nat×cR)}(aG:fm P bc=true){bO:ib}{t:Nat}(h:sB bc bO t=true):pG P bO t:=by
 cases bO with
 |i=>
  simp only[sB]at h;split at h
  ·rename_i av;obtain⟨d,hu,bj⟩:=fV aG av;obtain rfl:=vg bj;exact .i hu
  ·cases h
 |s=>
  simp only[sB]at h;split at h
  ·rename_i av;obtain⟨d,hu,bj⟩:=fV aG av;obtain rfl:=qE bj;exact .s hu
  ·cases h
 |a cU=>obtain⟨gs,I,J,ak,_⟩:=FA aG h;exact .a I J ak
def oJ(P:bM)(w:World)(bO:ib)(t:eZ)(eG u:Value)(b:Bool):Prop:=match bO with
 | .a _=>(Op.equal t eG u).run P w= .ok b w
 |_=> ∀d,P.underlying t=some d->Instr.sameNow d eG u=some b
def gC(P:bM)(w:World)(bO:ib)(t:eZ)(eG:Value)(es:List MapEntry)(i:Nat)(r:bf (Nat×Value)):Prop:=match bO with
 | .a _=>(Instr.findAsking t eG es i).run P w= .ok r w
 |_=> ∀d,P.underlying t=some d->Instr.findNow d eG es i=some r
theorem gC.nil(P:bM)(w:World)(bO:ib)(t:eZ)(eG:Value)(i:Nat):gC P w bO t eG [] i none:=by cases bO<;>simp[gC,Instr.findAsking,Instr.findNow]
theorem gC.hit{P:bM}{w:World}{bO:ib}{t:eZ}{eG:Value}{e:MapEntry}{es:List MapEntry}{i:Nat}(h:oJ P w bO t eG e.key true):gC P w bO t eG (e::es) i (some (i,e.val)):=by
 cases bO with
 |a cU=>simp only[oJ]at h;simp[gC,Instr.findAsking,h]
 |i=>simp only[oJ]at h;simp only[gC];intro d bj;simp[Instr.findNow,h d bj]
 |s=>simp only[oJ]at h;simp only[gC];intro d bj;simp[Instr.findNow,h d bj]
theorem gC.miss{P:bM}{w:World}{bO:ib}{t:eZ}{eG:Value}{e:MapEntry}{es:List MapEntry}{i:Nat}{r:bf (Nat×Value)}(h:oJ P w bO t eG e.key false)(ao:gC P w bO t eG es (i+1) r):gC P w bO t eG (e::es) i r:=by
 cases bO with
 |a cU=>simp only[oJ]at h;simp only[gC]at ao;simp[gC,Instr.findAsking,h,ao]
 |i=>simp only[oJ]at h;simp only[gC]at ao⊢;intro d bj;simp[Instr.findNow,h d bj,ao d bj]
 |s=>simp only[oJ]at h;simp only[gC]at ao⊢;intro d bj;simp[Instr.findNow,h d bj,ao d bj]
theorem gC.run{P:bM}{w:World}{bO:ib}{t:eZ}(bj:pG P bO t){eG:Value}{es:List MapEntry}{r:bf (Nat×Value)}(h:gC P w bO t eG es 0 r):(Instr.findKey t eG es).run P w= .ok r w:=by
 cases bj with
 |i hu=>simp only[gC]at h;simp[Instr.findKey,run_underlying hu,h _ hu]
 |s hu=>simp only[gC]at h;simp[Instr.findKey,run_underlying hu,h _ hu]
 |a hu aT fS=>
  simp only[gC]at h;cases es with
  |nil=>simp[Instr.findAsking]at h;simp[Instr.findKey,run_underlying hu,Instr.findNow,h]
  |cons e es=>
   rename_i gs;have:Instr.sameNow (.struct gs) eG e.key=none:=by cases eG<;>rfl
   simp only[Instr.findKey,ef,run_underlying hu,eo,Instr.findNow,this];exact h
theorem Ha{P:bM}{w:World}{ν:aM}{bO:ib}{t:eZ}(bj:pG P bO t){k be:ae}{eG u:Value}(aa:aJ w ν k eG)(I:aJ w ν be u){gr:Bool}(af:q6 bO k be=some gr):
  oJ P w bO t eG u gr/\(gr=true->u=eG/\Instr.sameBits 10000 u eG=true):=by
 unfold q6 at af;split at af
 ·split at af
  ·rename_i ju;subst ju;simp only[aJ]at aa I;subst aa;subst I;cases bj with
   |i hu=>refine⟨fun d bj=>by rw[hu]at bj;cases bj;simpa[Instr.sameNow]using af,fun e=>?_⟩;subst e;simp only[dt,cD]at af;subst af;exact⟨rfl,by simp[Instr.sameBits]⟩
  ·cases af
 ·rename_i a b;simp only[aJ]at aa I;obtain⟨rfl,_⟩:=aa;obtain⟨rfl,_⟩:=I;cases bj with
  |s hu=>
   refine⟨fun d bj=>?_,fun e=>?_⟩
   ·rw[hu]at bj;cases bj;simp only[Instr.sameNow];rw[<-af];congr 1;rw[Bool.eq_iff_iff,MapKept.bytes_beq];simp
   ·subst e;simp only[dt,cD]at af;subst af;exact⟨rfl,by simp only[Instr.sameBits];exact(MapKept.bytes_beq _ _).2 rfl⟩
 ·simp only[aJ]at aa I;obtain⟨X,rfl,aa⟩:=aa;obtain⟨Y,rfl,I⟩:=I;cases bj with
  |a hu aT fS=>obtain⟨i1,i2,i3⟩:=E7 hu aT fS aa I af;refine⟨by simpa[oJ,Op.equal,Op.maxDepth]using i1,fun e=>?_⟩;have:=i2 e;subst this;exact⟨rfl,by simp[Instr.sameBits,i3]⟩
 ·cases af
theorem BJ{P:bM}{w:World}{ν:aM}{bO:ib}{t:eZ}(bj:pG P bO t){k:ae}{eG:Value}(aa:aJ w ν k eG):∀(borns:List Nat) (kvs:List ae) (us:List Value) (i:Nat) (r:bf ae),b4 w ν kvs us->kvs.length=2*borns.length->rh bO k kvs=some r->
  match r with
  |none=>gC P w bO t eG (eE borns us) i none
  |some v=> ∃j u,gC P w bO t eG (eE borns us) i (some (j,u))/\aJ w ν v u
 |[],[],us,i,r,h,_,hm=>by simp only[rh]at hm;cases hm;simp only[b4]at h;subst h;simpa[eE]using gC.nil P w bO t eG i
 |[],_::_,_,_,_,_,aA,_=>by simp at aA
 |b::dN,[],_,_,_,_,aA,_=>by simp at aA
 |b::dN,[_],_,_,_,_,aA,_=>by simp at aA;omega
 |b::dN,be::v::kvs,us,i,r,h,aA,hm=>by
  simp only[b4]at h;obtain⟨h8,uN,rfl,I,hS,l3,rfl,J,ak⟩:=h;simp only[rh]at hm;simp only[eE];cases bP:q6 bO k be with
  |none=>simp[bP]at hm
  |some gr=>
   obtain⟨s1,_⟩:=Ha bj aa I bP;simp only[bP]at hm;cases gr with
   |true=>simp only[dt]at hm;subst hm;exact⟨i,hS,gC.hit (e:=⟨h8,hS,b⟩) s1,J⟩
   |false=>
    simp only at hm;have bb:=BJ bj aa dN kvs l3 (i+1) r ak (by simp at aA;omega) hm;cases r with
    |none=>exact gC.miss (e:=⟨h8,hS,b⟩) s1 bb
    |some v'=>obtain⟨j,u,g1,g2⟩:=bb;exact⟨j,u,gC.miss (e:=⟨h8,hS,b⟩) s1 g1,g2⟩
theorem zO{P:bM}{w:World}{t:Nat}{d:TypeDesc}(hu:P.underlying t=some d)(bj:(∃k,d= .int k)\/d= .string)(e:Bool)(n:Nat)(v:Value):(Instr.checkKey e (n+1) t v).run P w= .ok () w:=by unfold Instr.checkKey;rcases bj with⟨k,rfl⟩|rfl<;>simp[run_underlying hu]
theorem Nv{P:bM}{w:World}{ν:aM}{X:Array Value}(cU:List Bool):∀(gs:List Field) (n:Nat) (as:List ae),mT P n cU gs->bW w ν as (X.toList.drop n)->(iL cU as as).isSome=true->
  ∀f∈gs,(∃v,(part f.type X f.offset).run P w= .ok v w)/\∃d,P.underlying f.type=some d/\((∃k,d= .int k)\/d= .string):=by
 induction cU with
 |nil=>intro gs n as aT _ _ f av;cases gs<;>simp only[mT]at aT;cases av
 |cons rX r bb=>
  intro gs n as aT ao aQ f av;cases gs with
  |nil=>cases av
  |cons g gs=>
  simp only[mT]at aT;obtain⟨⟨ya,kR,iZ⟩,aT⟩:=aT;cases as with
  |nil=>cases rX<;>simp[iL]at aQ
  |cons p as=>
  have ku:(iL r as as).isSome=true:=by cases rX<;>cases p<;>simp[iL]at aQ⊢ <;>exact aQ
  simp only[bW]at ao;obtain⟨u,bh,e,_,cO⟩:=ao;have aR:X.toList.drop (n+1)=bh:=by rw[<-List.tail_drop,e];rfl
  have wq:X[n]? =some u:=by rw[<-Array.getElem?_toList,<-List.head?_drop,e];rfl
  rcases hT.1 av with rfl|av
  ·refine⟨⟨u,by rw[ya];exact run_part_plain w (wx iZ) wq⟩,?_⟩;cases rX
   ·obtain⟨k,h⟩:=(by simpa using iZ:∃k,P.underlying f.type=some (.int k));exact⟨_,h,.inl ⟨k,rfl⟩⟩
   ·exact⟨_,by simpa using iZ,.inr rfl⟩
  ·exact bb gs (n+1) as aT (by rw[aR];exact cO) ku f av
theorem FE{P:bM}{w:World}{α:Type}(body:α->PUnit->Sem (ForInStep PUnit)):∀(l:List α),(∀f∈l,(body f ⟨⟩).run P w= .ok (.yield ⟨⟩) w)->(forIn l PUnit.unit body).run P w= .ok PUnit.unit w
 |[],_=>by simp
 |f::l,h=>by simp only[List.forIn_cons,ef,h f Ψ,eo];exact FE body l fun g aT=>h g (by simp[aT])
theorem Cs{P:bM}{w:World}{ν:aM}{bO:ib}{t:Nat}(bj:pG P bO t)(e:Bool){k:ae}{v:Value}(aa:aJ w ν k v)(aq:ue bO k=true):(Instr.checkKey e 10000 t v).run P w= .ok () w:=by
 cases bj with
 |i hu=>exact zO hu (.inl ⟨_,rfl⟩) e 9999 v
 |s hu=>exact zO hu (.inr rfl) e 9999 v
 |a hu aT fS=>
  rename_i cU gs;cases k<;>simp only[ue,jX]at aq;rename_i as;simp only[aJ]at aa;obtain⟨X,rfl,aa⟩:=aa;unfold Instr.checkKey;simp only[ef,run_underlying hu,eo];rw[<-Array.forIn_toList];rw[FE]
  ·simp
  ·intro f av;obtain⟨⟨v,I⟩,d,J,ak⟩:=Nv cU gs.toList 0 as aT (by simpa using aa) aq f av;have aV:=zO (w:=w) J ak e 9998 v;by_cases aS:f.name= "_"
   ·simp[aS]
   ·simp[aS,I,aV]
theorem Hx{w:World}{ν:aM}{n:Nat}:∀(borns:List Nat) (kvs:List ae) (us:List Value) (p:ae),b4 w ν kvs us->ll n borns kvs=some p->∃e,(eE borns us).find? (·.born==n)=some e/\aJ w ν p (.tuple #[e.key,e.val])
 |[],_,_,_,_,hm=>by simp[ll]at hm
 |_::_,[],_,_,_,hm=>by simp[ll]at hm
 |_::_,[_],_,_,_,hm=>by simp[ll]at hm
 |b::dN,k::v::kvs,us,p,h,hm=>by
  simp only[b4]at h;obtain⟨h8,uN,rfl,I,hS,l3,rfl,J,ak⟩:=h;simp only[ll]at hm;simp only[eE];by_cases e:b=n
  ·rw[if_pos e]at hm;cases hm;refine⟨⟨h8,hS,b⟩,by simp[List.find?,e],?_⟩;simp only[aJ];exact⟨#[h8,hS],rfl,by simp only[b4];exact⟨_,_,rfl,I,_,_,rfl,J,rfl⟩⟩
  ·rw[bu e]at hm;obtain⟨x,g1,g2⟩:=Hx dN kvs l3 p ak hm;have Oj:(b==n)=false:=by simpa using e
   exact⟨x,by simp[List.find?,Oj,g1],g2⟩
theorem Ju{P:bM}{bc:List (Nat×cR)}(aG:fm P bc=true){C:dM}{st:a6}{a:Act}{w:World}{ν:aM}(ao:bX C st a w ν){i:eV}(Oi:∀bO z ok x k,i≠ .mgetB bO z ok x k){o:Oper}(ah:wS bc i o.op=true)
  {c:Prop} {p:ae} (he:fx st i=some (c,p)) (aQ:c):∃v,(execOp a.eval o).run P w= .ok (.value v) w/\aJ w ν p v:=by
 obtain⟨dst,op,type,pos,after,guard⟩:=o;simp only at ah;unfold wS at ah;split at ah
 ·rename_i x o;simp only[fx]at he;cases he;exact⟨_,rfl,dc ao ah⟩
 ·rename_i x o;simp only[fx]at he;cases he;exact⟨_,rfl,dc ao ah⟩
 ·rename_i ho x y U8 rI JR;simp only[bE]at ah;have I:=dc ao ah.1.1;have J:=dc ao ah.1.2;have ak:=dc ao ah.2;simp only[fx,yU]at he;split at he
  ·rename_i b af;rw[af]at I;simp only[aJ]at I;split at he
   ·rename_i u v hu ba;cases he;rw[hu]at J;rw[ba]at ak;simp only[aJ]at J ak;refine⟨.bool (cond b u v),?_,by simp[aJ]⟩;simp only[execOp,I,J,ak,asBool,ef,eU,eo];cases b<;>rfl
   ·split at he
    ·cases he;exact⟨_,by simp only[execOp,I,asBool,ef,eU,eo,if_true],J⟩
    ·cases he;exact⟨_,by simp only[execOp,I,asBool,ef,eU,eo,jX,if_false],ak⟩
  ·cases he
 ·rename_i agg sz x t o;simp only[bE]at ah;obtain⟨I,J⟩:=ah;split at I
  ·rename_i f av;simp only[bE,cD]at I;obtain⟨rfl,rfl⟩:=I;obtain⟨v,g1,g2⟩:=yy aG ao.good av (dc ao J) (by simpa only[fx]using he) aQ;exact⟨v,il g1,g2⟩
  ·cases I
 ·rename_i off agg sz x s o i;simp only[bE]at ah;obtain⟨I,J⟩:=ah;split at I
  ·rename_i f av;split at I
   ·rename_i rn t o3;simp only[bE,cD]at I;obtain⟨rfl,I⟩:=I;split at I
    ·rename_i g aT;simp only[bE,cD,bne_iff_ne,ne_eq]at I;obtain⟨⟨rfl,rfl⟩,a1⟩:=I;obtain⟨v,g1,g2⟩:=Nj aG av rfl o3 aT a1 (dc ao J) (by simpa only[fx]using he) aQ;exact⟨v,il g1,g2⟩
    ·cases I
   ·cases I
  ·cases I
 ·rename_i off agg sz x s o i;simp only[bE]at ah;obtain⟨I,J⟩:=ah;split at I
  ·rename_i f av;split at I
   ·rename_i rn t o3;simp only[bE,cD]at I;obtain⟨rfl,I⟩:=I;split at I
    ·rename_i g aT;simp only[bE,cD]at I;obtain⟨rfl,rfl⟩:=I;obtain⟨v,g1,g2⟩:=Nw aG av rfl o3 aT (dc ao J) (by simpa only[fx]using he) aQ;exact⟨v,il g1,g2⟩
    ·cases I
   ·cases I
  ·cases I
 ·rename_i sz x i t o j;simp only[bE]at ah;obtain⟨⟨I,J⟩,ak⟩:=ah;split at I
  ·rename_i e av;split at I
   ·rename_i g aT;simp only[cD]at I;subst I;obtain⟨v,g1,g2⟩:=PJ aG av rfl aT (dc ao J) (dc ao ak) (by simpa only[fx]using he) aQ;exact⟨v,il g1,g2⟩
   ·cases I
  ·cases I
 ·rename_i x i t o j;simp only[bE]at ah;obtain⟨⟨I,J⟩,ak⟩:=ah;split at I
  ·rename_i av;obtain⟨d,bj,ed⟩:=fV aG av;obtain rfl:=qE ed;have aj:=dc ao J;have aR:=dc ao ak;simp only[fx,ze]at he;split at he
   ·rename_i s k n al aS;cases he;rw[al]at aj;rw[aS]at aR;simp only[aJ]at aj aR;obtain⟨Oo,e5⟩:=aQ;have cM:n.toNat<s.length:=Ω
    have OT:(⟨s.toArray⟩:iI)[n.toNat]? =some (s.getD n.toNat 0):=by exact NR s n.toNat cM
    refine⟨_,il (v:= .int .u8 (s.getD n.toNat 0).toNat) ?_,by simp[aJ]⟩;simp only[Instr.index,aR,asIntOf,aj.1,ef,eU,eo,run_underlying bj,Oo,if_true,OT]
   ·cases he
  ·cases I
 ·rename_i x lo aq t o l h;simp only[bE]at ah;obtain⟨⟨⟨I,J⟩,ak⟩,aV⟩:=ah;split at I
  ·rename_i av;obtain⟨d,bj,ed⟩:=fV aG av;obtain rfl:=qE ed;have aj:=dc ao J;simp only[fx,zg]at he;split at he
   ·rename_i s al;rw[al]at aj;simp only[aJ]at aj;split at he
    ·rename_i mB ck aA AO;cases he;obtain⟨cp,c2,c3⟩:=aQ;have b5:=yR ao ak aA;have cE:=yR ao aV AO;refine⟨_,il (v:= .string ⟨((s.take ck.toNat).drop mB.toNat).toArray⟩) ?_,?_⟩
     ·have af:=DB P w false s.length s.length (l.map a.eval) (h.map a.eval) mB ck
       b5 cE cp c2 c3 (c7 _)
      simp only[Instr.sliceAt,Instr.slice,aj.1,ef,eU,eo,run_underlying bj,Option.map_none,Option.isSome_none,jX,if_false,wM,af,Mq]
     ·simp only[aJ];refine⟨trivial,?_⟩;have:=aj.2;simp only[List.length_drop,List.length_take];omega
    ·cases he
   ·cases he
  ·cases I
 ·rename_i sz x lo aq t o l h;simp only[bE]at ah;obtain⟨⟨⟨I,J⟩,ak⟩,aV⟩:=ah;split at I
  ·rename_i e av;split at I
   ·rename_i g aT;simp only[cD]at I;subst I;obtain⟨d,bj,ed⟩:=fV aG av;obtain rfl:=mZ ed;obtain⟨_,dR⟩:=qw aG aT w;have aj:=dc ao J;simp only[fx,yz]at he;split at he
    ·rename_i cJ tag xs al;split at he
     ·rename_i ep;subst ep;rw[al]at aj;simp only[aJ]at aj;obtain⟨⟨jI,cap,ba,bH,bR,ea⟩,_⟩:=aj;split at he
      ·rename_i mB ck aA AO;cases he;obtain⟨cp,c2,c3⟩:=aQ;have b5:=yR ao ak aA;have cE:=yR ao aV AO;have af:=DB P w true xs.length cap (l.map a.eval) (h.map a.eval) mB ck
        b5 cE cp c2 c3 bH
       refine⟨_,il (v:= .slice (if cap=mB.toNat then jI else jI.map (·.add (mB.toNat*g.size))) (ck.toNat-mB.toNat) (cap-mB.toNat)) ?_,?_⟩
       ·simp only[Instr.sliceAt,Instr.slice,ba,ef,eU,eo,run_underlying bj,Option.map_none,af,dR]
       ·simp only[aJ];have hlen:((xs.take ck.toNat).drop mB.toNat).length=ck.toNat-mB.toNat:=by simp;omega
        refine⟨⟨_,_,by rw[hlen],by rw[hlen];omega,⟨Ω,by rw[hlen];omega⟩,?_⟩,(fun h=>by cases h),(fun g h=>by cases h),(fun _ _ h=>by cases h),(fun _ h=>by cases h)⟩;rcases ea with rfl|⟨b,off,us,rfl,g1,g2⟩
        ·left;simp
        ·by_cases nW:cap=mB.toNat
         ·left;apply pE;rw[hlen];omega
         ·right;rw[bu nW];refine⟨b,off+mB.toNat*g.size,(us.take (ck.toNat*g.size)).drop (mB.toNat*g.size),by simp[k4],yu _ (yv _ g1),Iy _ (IC _ g2)⟩
      ·cases he
     ·cases he
    ·cases he
   ·cases I
  ·cases I
 ·rename_i op wr x y HX ty o o' Jq;simp only[bE,fY]at ah;obtain⟨⟨rfl,I⟩,J⟩:=ah;obtain⟨r,g1,g2⟩:=Kl P w ν (by simpa only[fx]using he) aQ ty (dc ao I) (dc ao J) o o';exact⟨r,il g1,g2⟩
 ·rename_i x op ty o;simp only[bE,fY]at ah;obtain⟨rfl,I⟩:=ah;have aj:=dc ao I;simp only[fx]at he;unfold yO at he;split at he
  ·rename_i b af;cases he;rw[af]at aj;simp only[aJ]at aj;exact⟨_,il (v:= .bool (!b)) (by simp[Op.unary,aj]),by simp[aJ]⟩
  ·cases he
 ·rename_i x op ty o;simp only[bE,fY]at ah;obtain⟨rfl,I⟩:=ah;have aj:=dc ao I;simp only[fx]at he;unfold yK at he;split at he
  ·rename_i k n af;cases he;rw[af]at aj;simp only[aJ]at aj;exact⟨_,il (v:= .int k (k.wrap (0-n))) (by simp[Op.unary,aj,Op.intArith]),by simp[aJ]⟩
  ·cases he
 ·rename_i k x s d o;simp only[bE]at ah;obtain⟨I,J⟩:=ah;split at I
  ·rename_i b5 cE AJ gS;simp only[fY]at I;subst I;obtain⟨d1,o0,AD⟩:=fV aG AJ;obtain rfl:=vg AD;obtain⟨d2,tP,AE⟩:=fV aG gS;obtain rfl:=vg AE;have aj:=dc ao J;simp only[fx]at he;unfold xo at he;split at he
   ·rename_i be n af;cases he;rw[af]at aj;simp only[aJ]at aj;exact⟨_,il (v:= .int k (k.wrap n)) (by simp[convert,aj,run_underlying o0,run_underlying tP,Conv.intToInt]),by simp[aJ]⟩
   ·cases he
  ·cases I
 ·rename_i i x o j;simp only[bE,cD]at ah;obtain⟨rfl,I⟩:=ah;have aj:=dc ao I;simp only[fx]at he;unfold xA at he;split at he
  ·rename_i vs af;simp only[jZ]at he;obtain⟨q,bP,he⟩:=he;cases he;rw[af]at aj;simp only[aJ]at aj;obtain⟨us,hu,J⟩:=aj;obtain⟨v,g1,g2⟩:=y6 i J bP;have NC:us[i]? =some v:=by simpa using g1
   exact⟨v,il (by simp[Instr.extract,hu,NC]),g2⟩
  ·cases he
 ·rename_i x o t;simp only[bE]at ah;obtain⟨I,J⟩:=ah;have aj:=dc ao J;simp only[fx]at he;unfold uh at he;split at he
  ·rename_i sz tag xs af;cases he;rw[af]at aj;simp only[aJ]at aj;obtain⟨⟨jI,cap,ba,_⟩,_⟩:=aj;refine⟨.int .i64 xs.length,?_,by simp[aJ]⟩;split at I
   ·rename_i av;obtain⟨d,bj,ed⟩:=fV aG av;obtain rfl:=mZ ed;simp[execOp,resolve,invoke,builtin,Builtin.len_,run_underlying bj,ba,goInt]
   ·cases I
  ·rename_i sz k n af;cases he;rw[af]at aj;simp only[aJ]at aj;obtain⟨⟨jI,cap,ba⟩,_⟩:=aj;refine⟨.int .i64 n,?_,by simp[aJ]⟩;split at I
   ·rename_i av;obtain⟨d,bj,ed⟩:=fV aG av;obtain rfl:=mZ ed;simp[execOp,resolve,invoke,builtin,Builtin.len_,run_underlying bj,ba,goInt]
   ·cases I
  ·rename_i jI n cap af;cases he;rw[af]at aj;simp only[aJ]at aj;refine⟨.int .i64 n,?_,by simp[aJ]⟩;split at I
   ·rename_i av;obtain⟨d,bj,ed⟩:=fV aG av;obtain rfl:=mZ ed;simp[execOp,resolve,invoke,builtin,Builtin.len_,run_underlying bj,aj,goInt]
   ·cases I
  ·cases he
 ·rename_i x o t;simp only[bE]at ah;obtain⟨I,J⟩:=ah;have aj:=dc ao J;simp only[fx]at he;unfold wN at he;split at he
  ·rename_i s af;cases he;rw[af]at aj;simp only[aJ]at aj;refine⟨.int .i64 s.length,?_,by simp[aJ]⟩;split at I
   ·rename_i av;obtain⟨d,bj,ed⟩:=fV aG av;obtain rfl:=qE ed;simp[execOp,resolve,invoke,builtin,Builtin.len_,run_underlying bj,aj.1,goInt,wM]
   ·cases I
  ·rename_i s af;cases he;rw[af]at aj;simp only[aJ]at aj;refine⟨.int .i64 s.size,?_,by simp[aJ]⟩;split at I
   ·rename_i av;obtain⟨d,bj,ed⟩:=fV aG av;obtain rfl:=qE ed;simp[execOp,resolve,invoke,builtin,Builtin.len_,run_underlying bj,aj,goInt]
   ·cases I
  ·cases he
 ·rename_i zero parts t bD;split at ah
  ·rename_i cU z av;simp only[bE]at ah;obtain⟨⟨I,J⟩,ak⟩:=ah;have dS:=Uo I;obtain⟨i,d,Un,aj,aR,bm,c1,gE,hI,na,k8⟩:=(pv aG av).ex;obtain⟨gs,rfl,ix⟩:=zW gE;simp only at dS na k8;subst dS;have nT:(gs.toList.all fun f=>(cX bc f.type).isSome)=true:=by rw[<-ix]at J;simpa[List.all_map,Function.comp_def]using J
   obtain⟨places,hr,gA⟩:=H2 aG gs.toList nT;rw[ix]at gA;cases Un<;>simp only[s8]at na;case agg us=>
    simp only[fx]at he;cases af:pL st.t zero parts with
    |none=>simp[af]at he
    |some x=>obtain⟨ho,cs'⟩:=x;simp only[af,Option.map_some]at he;cases he;obtain⟨bh,g1,g2⟩:=IP ao gA parts bD.toList zero us c cs' ak (Db w ν _ _ na) af aQ;refine⟨.agg bh,il (run_build w t _ bh ?_),by simp only[aJ];exact⟨bh,rfl,g2⟩⟩;simp only[Program.built,aj,aR,hI,hr,km];simpa using g1
   all_goals cases na
  ·cases ah
 ·rename_i x o;have aj:=dc ao ah;simp only[fx]at he;unfold uo at he;split at he
  ·rename_i k off af;cases he;rw[af]at aj;have aR:=aj;simp only[aJ]at aj;obtain⟨b,_,ba⟩:=aj;exact⟨a.eval o,by simp[execOp,ba],aR⟩
  ·rename_i q af;cases he;rw[af]at aj;have aR:=aj;simp only[aJ]at aj;obtain⟨b,off,u,ba,_⟩:=aj;exact⟨a.eval o,by simp[execOp,ba],aR⟩
  ·rename_i f cs af;cases he;rw[af]at aj;have aR:=aj;simp only[aJ]at aj;obtain⟨us,ba,_⟩:=aj;exact⟨a.eval o,by simp[execOp,ba],aR⟩
  ·cases he
 ·rename_i x y o o' t ek;simp only[bE]at ah;have aj:=dc ao ah.1;have aR:=dc ao ah.2;simp only[fx]at he;unfold yD at he;split at he
  ·rename_i k m be n hm aS;split at he
   ·rename_i aa;subst aa;cases he;rw[hm]at aj;rw[aS]at aR;simp only[aJ]at aj aR;exact⟨.int k (if n<m then n else m),by simp[execOp,resolve,invoke,builtin,Builtin.min_,Builtin.min2,aj,aR],by simp[aJ]⟩
   ·cases he
  ·cases he
 ·rename_i n xs m os;simp only[bE,cD]at ah;obtain⟨rfl,ah⟩:=ah;simp only[fx]at he;cases he;have lf:=uG ao ah;refine⟨.func (.func n) #[] (os.map a.eval),by simp[execOp,Instr.makeFunc],?_⟩;simp only[aJ];exact⟨os.map a.eval,rfl,by simpa using lf⟩
 ·rename_i bO zero ok x k t o o' yP;simp only[bE,cD]at ah;obtain⟨⟨⟨rfl,I⟩,J⟩,ak⟩:=ah;have aj:=dc ao J;have aR:=dc ao ak;split at I
  ·rename_i sz iX kf lH z av;simp only[bE]at I;obtain⟨OW,AI⟩:=I;split at AI
   ·rename_i VN xY;have dS:=Dd AI;obtain⟨e3,hu,ed⟩:=fV aG av;have o1:e3= .map kf lH:=by cases e3<;>simp[jq]at ed;obtain⟨rfl,rfl⟩:=ed;rfl
    subst o1;obtain⟨bI,w3,z2,_⟩:=CU aG xY w;rw[<-dS]at z2;have ag:=(Dc w ν z2).1;have jM:=Br aG OW;simp only[fx]at he;unfold nm at he;split at he
    ·rename_i key ab;rw[ab]at aj;simp only[aJ]at aj;obtain⟨bl,bH,bR⟩:=aj;split at he
     ·rename_i clock borns kvs gT;obtain⟨gP,us,el,g1,g2,g3,g4,g5⟩:=ao.good.box key _ gT;rw[bH]at g1;cases g1;simp only[hl]at g4;simp only[gB]at g5;have jv:(getObj bl).run P w= .ok (.map (eE borns us.toList).toArray clock) w:=qs g4;split at he
      ·cases he
      rename_i o5;have qO:=Cs (P:=P) (w:=w) jM ((eE borns us.toList).toArray.isEmpty) aR (by simpa using o5);split at he
      ·rename_i v hm;cases he;obtain⟨j,u,f1,f2⟩:=BJ jM aR borns kvs us.toList 0 _ g5.1 g5.2.len hm;refine⟨if ok then .tuple #[u,.bool true]else u,?_,?_⟩
       ·simp only[execOp];refine il ?_;simp only[Instr.lookup,ef,run_underlying hu,eo,bR,jv,eU,qO,f1.run jM]
       ·cases ok
        ·simpa using f2
        ·simp only[if_true,aJ];exact⟨_,rfl,by simp only[b4];exact⟨_,_,rfl,f2,_,_,rfl,by simp[aJ],rfl⟩⟩
      ·rename_i hm;cases he;have f1:=BJ jM aR borns kvs us.toList 0 _ g5.1 g5.2.len hm;simp only at f1;refine⟨if ok then .tuple #[bI,.bool false]else bI,?_,?_⟩
       ·simp only[execOp];refine il ?_;simp only[Instr.lookup,ef,run_underlying hu,eo,bR,jv,eU,qO,f1.run jM,w3]
       ·cases ok
        ·simpa using ag
        ·simp only[if_true,aJ];exact⟨_,rfl,by simp only[b4];exact⟨_,_,rfl,ag,_,_,rfl,by simp[aJ],rfl⟩⟩
      ·cases he
     ·cases he
    ·cases he
   ·cases AI
  ·cases I
 ·rename_i x o;have aj:=dc ao ah;simp only[fx]at he;unfold pe at he;split at he
  ·rename_i fI ab;rw[ab]at aj;simp only[aJ]at aj;obtain⟨bl,bH,bR⟩:=aj;split at he
   ·rename_i since seen last mk gT;obtain⟨gP,us,el,g1,g2,g3,g4,g5⟩:=ao.good.box fI _ gT;rw[bH]at g1;cases g1;simp only[hl]at g4;simp only[gB,b4,aJ]at g5;obtain⟨u,bh,nj,⟨mC,m1,rfl⟩,rfl⟩:=g5;rw[nj]at g4;simp only at g4;split at he
    ·rename_i clock borns kvs O3;obtain⟨U7,l3,Vz,b5,cE,fA,h5,lP⟩:=ao.good.box mk _ O3;rw[m1]at b5;cases b5;simp only[hl]at h5;simp only[gB]at lP;split at he
     ·rename_i n aS;simp only[jZ]at he;obtain⟨q,bP,he⟩:=he;cases he;obtain⟨e,f1,f2⟩:=Hx borns kvs l3.toList p lP.1 bP;refine⟨.tuple #[e.key,e.val],?_,f2⟩;simp only[execOp];refine il ?_;have OO:(getObj bl).run P w= .ok (.mapIter (some mC) since seen.toArray last) w:=qs g4;have OP:(getObj mC).run P w= .ok (.map (eE borns l3.toList).toArray clock) w:=qs h5;have Ay:seen.toArray.back? =some n:=by simpa using aS
      have tN:(clock !=last)=false:=by simp[aQ]
      have OJ:(eE borns l3.toList).toArray.find? (·.born==n)=some e:=by simpa using f1
      simp only[Instr.entry,bR,ef,OO,eo,Ay,OP,tN,jX,if_false,OJ,eU]
     ·cases he
    ·cases he
   ·cases he
  ·cases he
 ·rename_i x o t;simp only[bE]at ah;obtain⟨I,J⟩:=ah;have aj:=dc ao J;simp only[fx]at he;unfold um at he;split at he
  ·rename_i key af;rw[af]at aj;simp only[aJ]at aj;obtain⟨bl,bH,bR⟩:=aj;split at he
   ·rename_i clock borns kvs gT;cases he;obtain⟨gP,us,el,g1,g2,g3,g4,g5⟩:=ao.good.box key _ gT;rw[bH]at g1;cases g1;simp only[hl]at g4;simp only[gB]at g5;have jv:(getObj bl).run P w= .ok (.map (eE borns us.toList).toArray clock) w:=qs g4;have hlen:(eE borns us.toList).length=borns.length:=E5 g5.2.len (IH g5.1);refine⟨.int .i64 borns.length,?_,by simp[aJ]⟩;split at I
    ·rename_i av;obtain⟨d,bj,ed⟩:=fV aG av;obtain⟨kf,lH,rfl⟩:∃kf lH,d= .map kf lH:=by cases d<;>simp[jq]at ed;exact⟨_,_,rfl⟩
     simp[execOp,resolve,invoke,builtin,Builtin.len_,run_underlying bj,bR,goInt,jv,hlen]
    ·cases I
   ·cases he
  ·cases he
 ·rename_i neg cU x y op t o o' Jq;simp only[bE,fY]at ah;obtain⟨⟨⟨rfl,a1⟩,I⟩,J⟩:=ah;have aj:=dc ao I;have aR:=dc ao J;simp only[fx]at he;unfold xb at he;split at he
  ·rename_i cy fu bU af;simp only at a1;cases he;rw[bU]at aj;rw[af]at aR;simp only[aJ]at aj aR;split at a1
   ·rename_i av;obtain⟨d,bj,ed⟩:=fV aG av;obtain rfl:d= .bool:=by cases d<;>simp[jq]at ed;rfl
    refine⟨.bool (if neg then cy !=fu else cy==fu),il ?_,by simp[aJ]⟩;cases neg<;>simp[aj,aR,eqGuard,binOp,Lx bj,bne]
   ·cases a1
  ·rename_i VV as dN bU af;simp only at a1;simp only[jZ]at he;obtain⟨q,bP,he⟩:=he;cases he;rw[bU]at aj;rw[af]at aR;simp only[aJ]at aj aR;obtain⟨X,Ll,RM⟩:=aj;obtain⟨Y,Lm,RN⟩:=aR;obtain⟨gs,hu,aT,fS,hg⟩:=FA aG a1;obtain⟨i1,_,_⟩:=E7 hu aT fS RM RN bP;refine⟨.bool (if neg then !q else q),il ?_,by simp[aJ]⟩;rw[Ll,Lm];cases neg
   ·simp only[jX,if_false,ef,run_eqGuard_agg w _ t o o' X Y hg,eo,run_eql_struct,i1]
   ·simp only[if_true,ef,run_eqGuard_agg w _ t o o' X Y hg,eo,run_neq_struct,i1]
  ·cases he
 ·rename_i x y o o' t ek;simp only[bE]at ah;have aj:=dc ao ah.1;have aR:=dc ao ah.2;simp only[fx]at he;unfold yB at he;split at he
  ·rename_i k m be n hm aS;split at he
   ·rename_i aa;subst aa;cases he;rw[hm]at aj;rw[aS]at aR;simp only[aJ]at aj aR;exact⟨.int k (if m<n then n else m),by simp[execOp,resolve,invoke,builtin,Builtin.max_,Builtin.max2,aj,aR],by simp[aJ]⟩
   ·cases he
  ·cases he
 ·rename_i t x ek o;simp only[bE,cD]at ah;obtain⟨⟨rfl,I⟩,J⟩:=ah;have aj:=dc ao J;simp only[fx]at he;cases he;split at I
  ·rename_i av;obtain⟨d,bj,ed⟩:=fV aG av;obtain rfl:=mZ ed;refine⟨.iface t (a.eval o),il (by simp[Instr.makeInterface,run_underlying bj]),?_⟩;simp only[aJ];exact⟨_,rfl,aj⟩
  ·cases I
 ·rename_i agg sz x t o;simp only[bE]at ah;obtain⟨I,J⟩:=ah;split at I
  ·rename_i f av;simp only[bE,cD]at I;obtain⟨rfl,rfl⟩:=I;obtain⟨v,g1,g2⟩:=yy aG ao.good av (dc ao J) (Qn (by simpa only[fx]using he)) aQ;exact⟨v,il g1,g2⟩
  ·cases I
 ·rename_i x s d o;simp only[bE]at ah;obtain⟨I,J⟩:=ah;split at I
  ·rename_i e _ _ AJ gS;split at I
   ·rename_i OI;obtain⟨d1,o0,AD⟩:=fV aG AJ;obtain rfl:=mZ AD;obtain⟨d2,tP,AE⟩:=fV aG gS;obtain rfl:=qE AE;obtain⟨d3,Oz,OD⟩:=fV aG OI;obtain rfl:=vg OD;have aj:=dc ao J;simp only[fx]at he;unfold xa at he;split at he
    ·rename_i sz tag xs af;simp only[jZ]at he;obtain⟨dN,pZ,he⟩:=he;cases he;rw[af]at aj;simp only[aJ]at aj;obtain⟨⟨jI,cap,bK,b6,cH,dd⟩,_⟩:=aj;have aA:=DG pZ;have ab:∃ns:List Int,ns.length=xs.length/\dN=ns.map tl/\(xs.length=0\/ ∃b off,jI=some ⟨b,off,none⟩/\ik w ν.A b off (ns.map (kY .u8))):=by
      rcases dd with rfl|⟨b,off,us,hr,gA,ru⟩
      ·simp only[lC,dt]at pZ;exact⟨[],rfl,by rw[<-pZ];rfl,.inl rfl⟩
      ·obtain⟨ns,dr,eO,gO⟩:=DH pZ ru;subst dr;exact⟨ns,by simpa using gO,eO,.inr ⟨b,off,hr,gA⟩⟩
     obtain⟨ns,e6,rfl,fJ⟩:=ab;refine⟨_,il (v:= .string ⟨(ns.map tl).toArray⟩) ?_,by simp only[aJ];exact⟨trivial,by rw[aA];exact cH.2⟩⟩;rw[bK];simp only[convert,ef,run_underlying o0,run_underlying tP,eo];simp only[run_underlying Oz,ef,eo,Ki e6 fJ]
    ·cases he
   ·cases I
  ·cases I
 ·rename_i neg x op t o Jq;simp only[bE,fY]at ah;obtain⟨⟨rfl,a1⟩,I⟩:=ah;have aj:=dc ao I;split at a1
  ·rename_i av;obtain⟨d,bj,ed⟩:=fV aG av;obtain⟨ms,rfl⟩:∃ms,d= .interface ms:=by cases d<;>simp[jq]at ed;exact⟨_,rfl⟩
   simp only[fx]at he;unfold yl at he;split at he
   ·rename_i Yy q bP;cases he;rw[bP]at aj;simp only[aJ]at aj;obtain⟨u,aj,_⟩:=aj;refine⟨.bool neg,il ?_,by simp[aJ]⟩;rw[show a.eval (.const .nilIface)= .nilIface from rfl,aj];cases neg<;>simp[eqGuard,binOp,(xw (w:=w) bj).1,(xw (w:=w) bj).2]
   ·rename_i bP;cases he;rw[bP]at aj;simp only[aJ]at aj;refine⟨.bool (!neg),il ?_,by simp[aJ]⟩;rw[show a.eval (.const .nilIface)= .nilIface from rfl,aj];cases neg<;>simp[eqGuard,binOp,(xw (w:=w) bj).1,(xw (w:=w) bj).2]
   ·cases he
  ·cases a1
 ·rename_i agg sz x t o;simp only[bE]at ah;obtain⟨I,J⟩:=ah;split at I
  ·rename_i f av;simp only[bE,cD]at I;obtain⟨rfl,rfl⟩:=I;obtain⟨v,g1,g2⟩:=yy aG ao.good av (dc ao J) (NA (by simpa only[fx]using he)) aQ;exact⟨v,il g1,g2⟩
  ·cases I
 ·exact absurd rfl (Oi _ _ _ _ _)
 ·cases ah
theorem To{P:bM}{bc:List (Nat×cR)}(aG:fm P bc=true){C:dM}{st:a6}{a:Act}{w:World}{ν:aM}(ao:bX C st a w ν){i:eV}{o:Oper}(ah:wS bc i o.op=true)
  {c:Prop} {p:ae} (he:fx st i=some (c,p)) (aQ:c):∃v,(execOp a.eval o).run P w= .ok (.value v) w/\aJ w ν p v:=by
 by_cases af:∃bO z ok x k,i= .mgetB bO z ok x k
 ·obtain⟨bO,z,ok,x,k,rfl⟩:=af;refine Ju aG ao (i:= .mget bO z ok x k) (fun _ _ _ _ _ e=>by cases e) ?_ he aQ;obtain⟨dst,op,type,pos,after,guard⟩:=o;cases op<;>first|exact ah|simp[wS]at ah
 ·exact Ju aG ao (fun bO z ok x k e=>af ⟨bO,z,ok,x,k,e⟩) ah he aQ
theorem EG{w:World}{o:Obj}{b i:Nat}(h:b<w.heap.size):(w.alloc o).cell? ⟨b,i,none⟩=w.cell? ⟨b,i,none⟩:=World.cell?_of_block (Below.heap_alloc w o b h)
def aM.withBox(ν:aM)(k:aw)(bl:Nat):aM:={ν with bx:=fun j=>if j=k then some bl else ν.bx j}
def aM.withOwn(ν:aM)(k:aw)(n:Nat)(v:Value):aM:={ν with ow:=fun j=>if j=k then some (n,v)else ν.ow j}
theorem bX.lookNone{C:dM}{st:a6}{a:Act}{w:World}{ν:aM}(h:bX C st a w ν){k:aw}(aa:fresh st.n st.o k):look k st.b=none/\look k st.e=none:=by
 obtain⟨I,J,_⟩:=h.new k aa;constructor
 ·cases af:look k st.b with
  |none=>rfl
  |some cs=>obtain⟨bl,us,el,g1,_⟩:=h.good.box _ _ af;rw[I]at g1;cases g1
 ·cases af:look k st.e with
  |none=>rfl
  |some o=>obtain⟨v,us,g1,_⟩:=h.good.own _ _ af;rw[J]at g1;cases g1
theorem Good.ownLt{pr:Nat->Prop}{w:World}{ν:aM}{b:List (aw×List ae)}{e:List (aw×da)}(h:Good pr w ν b e){g:aw}{o:da}(aT:look g e=some o){n:Nat}{v:Value}(ba:ν.ow g=some (n,v)){bl:Nat}(af:v.ownBlock=some bl):bl<w.heap.size:=by obtain⟨v',us,g1,g2,_⟩:=h.own g o aT;rw[ba]at g1;cases g1;exact(g2.lt bl af).2
theorem Good.boxLt{pr:Nat->Prop}{w:World}{ν:aM}{b:List (aw×List ae)}{e:List (aw×da)}(h:Good pr w ν b e){k:aw}{cs:List ae}(aa:look k b=some cs){bl:Nat}(af:ν.bx k=some bl):bl<w.heap.size:=by obtain⟨gP,us,el,g1,_,_,g4,_⟩:=h.box k cs aa;rw[af]at g1;cases g1;exact(Array.getElem?_eq_some_iff.1 g4).1
theorem bX.newBox{C:dM}{st:a6}{a:Act}{w:World}{ν:aM}(h:bX C st a w ν){eW:aw}(OV:ν.bx eW=none/\ν.ow eW=none/\∀j b,¬ν.tr eW j b){n':Nat}{o':List aw}(gU:∀j,fresh n' o' j->fresh st.n st.o j/\j≠eW){cs:List ae}{us:Array Value}(el:zs eW)(aQ:gB w ν cs us.toList):
  bX C {st with b:=cx eW cs st.b,n:=n',o:=o'} a (w.alloc (hl cs us el.1)) (ν.withBox eW w.heap.size)/\
  aJ (w.alloc (hl cs us el.1)) (ν.withBox eW w.heap.size) (.ptr eW 0) (.pointer (some ⟨w.heap.size,0,none⟩)):=by
 obtain⟨n3,gL,AU⟩:=OV;have ah:jH w ν (w.alloc (hl cs us el.1)) (ν.withBox eW w.heap.size):=by
  refine⟨fun b o aY=>⟨aY,EG (h.good.alt b o aY)⟩,fun k b _ aa=>?_,fun g n u _ aT=>⟨n,u,aT,.inl ⟨rfl,rfl⟩⟩,fun b o aY=>sV (Below.heap_alloc w _ b (h.good.alt b o aY)),fun _ _ _ _ h=>h⟩;have:k≠eW:=fun e=>by subst e;rw[n3]at aa;cases aa
  simp[aM.withBox,this,aa]
 have dR:(w.alloc (hl cs us el.1)).heap.size=w.heap.size+1:=by simp
 have iM:∀k,(look k (cx eW cs st.b)).isSome->k=eW\/(k≠eW/\(look k st.b).isSome/\(ν.withBox eW w.heap.size).bx k=ν.bx k):=by
  intro k aa;by_cases e:k=eW
  ·exact .inl e
  ·rw[hO,bu (Ne.symm e)]at aa;exact .inr ⟨e,aa,by simp[aM.withBox,e]⟩
 refine⟨h.over ah rfl ⟨fun bl o aY=>by rw[dR];have:=h.good.alt bl o aY;omega,fun k dA aa=>?_,fun k be bl aa fP aj aR=>?_,fun g o aT=>?_,h.good.oinj,fun g k n v bl aT aa ba af ab=>?_,fun k=>?_,fun bl af k j aG=>?_⟩
  ⟨h.fr.os,h.fr.tape,h.fr.output,by rw[dR];have:=h.fr.size;omega,fun k aa hm=>?_,fun b o aY=>?_,h.fr.fresh,fun n b af=>?_,h.fr.obn,h.fr.row,h.fr.obr,h.fr.trd,fun k j b af=>⟨(h.fr.trb k j b af).1,by rw[dR];have:=(h.fr.trb k j b af).2;omega⟩,fun k j b af=>?_,fun b o aY=>(ah.sh b o (h.fr.keep b o aY).1).trans (h.fr.sh b o aY),h.fr.nrow⟩ (fun m hm=>?_) (fun m hm=>(gU m hm).1),?_⟩
 ·simp only at aa;rw[hO]at aa;by_cases e:eW=k
  ·rw[if_pos e]at aa;cases aa;subst e;refine⟨w.heap.size,us,el,by simp[aM.withBox],.inr h.fr.size,fun o aY=>?_,heap_alloc_new w _,lV ah aQ⟩;have:=h.good.alt _ o aY;omega
  ·rw[bu e]at aa;obtain⟨bl,bh,dU,g1,g2,g3,g4,g5⟩:=h.good.box k dA aa;exact⟨bl,bh,dU,ah.bx _ _ trivial g1,g2,g3,by rw[Below.heap_alloc w _ bl (Array.getElem?_eq_some_iff.1 g4).1];exact g4,lV ah g5⟩
 ·rcases iM k aa with rfl|⟨e6,ey,fJ⟩<;>rcases iM be fP with rfl|⟨m1,m2,m3⟩
  ·rfl
  ·exfalso;simp only[aM.withBox,if_true,dt]at aj;subst aj;rw[m3]at aR;obtain⟨dA,gx⟩:=eK.1 m2;have:=h.good.boxLt gx aR;omega
  ·exfalso;simp only[aM.withBox,if_true,dt]at aR;subst aR;rw[fJ]at aj;obtain⟨dA,gx⟩:=eK.1 ey;have:=h.good.boxLt gx aj;omega
  ·rw[fJ]at aj;rw[m3]at aR;exact h.good.inj k be bl ey m2 aj aR
 ·obtain⟨v,xs,g1,g2,g3,g4⟩:=h.good.own g o aT;exact⟨v,xs,g1,g2.alloc _,g3,nt ah (fun _ _ _ h=>h) g4⟩
 ·rcases iM k aa with rfl|⟨e6,ey,fJ⟩
  ·simp only[aM.withBox,if_true,dt]at ab;subst ab;obtain⟨o,gV⟩:=eK.1 aT;have:=h.good.ownLt gV ba af;omega
  ·rw[fJ]at ab;exact h.good.obx g k n v bl aT ey ba af ab
 ·by_cases e:k=eW
  ·subst e;exact .inr gL
  ·rcases h.good.one k with I|I
   ·exact .inl (by simp[aM.withBox,e,I])
   ·exact .inr I
 ·rcases af with⟨be,bQ,a2⟩|af
  ·rcases iM be bQ with rfl|⟨e6,ey,fJ⟩
   ·simp[aM.withBox]at a2;subst a2;exact absurd (h.fr.trb k j _ aG).2 (Nat.lt_irrefl _)
   ·exact h.good.otr bl (.inl ⟨be,ey,by rw[<-fJ];exact a2⟩) k j aG
  ·exact h.good.otr bl (.inr af) k j aG
 ·rw[Below.heap_alloc w _ k (by have:=h.fr.size;omega)];exact h.fr.block k aa hm
 ·obtain⟨b5,cE⟩:=h.fr.keep b o aY;exact⟨b5,(EG (h.good.alt b o b5)).trans cE⟩
 ·exact ah.bx _ _ trivial (h.fr.obj n b af)
 ·have dI:k≠eW:=fun e=>by subst e;exact AU j b af
  obtain⟨t1,t2⟩:=h.fr.trn k j b af;exact⟨by simp[aM.withBox,dI,t1],t2⟩
 ·obtain⟨f1,f2⟩:=gU m hm;obtain⟨b5,cE⟩:=h.new m f1;refine⟨?_,cE⟩;simp[aM.withBox,f2,b5]
 ·simp[aJ,aM.withBox]
theorem bX.setBox{C:dM}{st:a6}{a:Act}{w w':World}{ν:aM}(h:bX C st a w ν){k:aw}{cs cs':List ae}(aa:look k st.b=some cs){bl:Nat}(af:ν.bx k=some bl){us:Array Value}{el:zs k}
  (qZ:w'.os=w.os) (vV:w'.tape=w.tape) (vN:w'.output=w.output) (iy:∀j,j≠bl->w'.heap[j]? =w.heap[j]?) (dR:w'.heap.size=w.heap.size) (ka:w'.heap[bl]? =some (hl cs' us el.1)) (aQ:gB w ν cs' us.toList):
  bX C {st with b:=cx k cs' st.b} a w' ν/\jH w ν w' ν:=by
 obtain⟨gP,dO,Vy,g1,g2,g3,g4,g5⟩:=h.good.box k cs aa;rw[af]at g1;cases g1;have ah:jH w ν w' ν:=by
  refine⟨fun b o aY=>⟨aY,World.cell?_of_block (iy b fun e=>?_)⟩,fun _ _ _ h=>h,fun g n u _ aT=>⟨n,u,aT,.inl ⟨rfl,rfl⟩⟩,fun b o aY=>sV (iy b fun e=>?_),fun _ _ _ _ h=>h⟩<;>
  (subst e;exact g3 o aY)
 have qS:∀j,(look j (cx k cs' st.b)).isSome->(look j st.b).isSome:=by
  intro j ai;rw[hO]at ai;by_cases e:k=j
  ·subst e;simp[aa]
  ·rwa[bu e]at ai
 refine⟨h.over ah rfl ⟨fun b o aY=>by rw[dR];exact h.good.alt b o aY,fun j dA ai=>?_,fun j ei b ai kO=>h.good.inj j ei b (qS j ai) (qS ei kO),fun g o aT=>?_,h.good.oinj,fun g j n v b aT ai=>h.good.obx g j n v b aT (qS j ai),h.good.one,fun bl af=>h.good.otr bl (af.imp (fun⟨k,I,J⟩=>⟨k,qS k I,J⟩) id)⟩
  ⟨qZ.trans h.fr.os,vV.trans h.fr.tape,vN.trans h.fr.output,by rw[dR];exact h.fr.size,fun j ai hm=>?_,fun b o aY=>?_,h.fr.fresh,h.fr.obj,h.fr.obn,h.fr.row,h.fr.obr,h.fr.trd,fun k j b af=>⟨(h.fr.trb k j b af).1,by rw[dR];exact(h.fr.trb k j b af).2⟩,h.fr.trn,fun b o aY=>(ah.sh b o (h.fr.keep b o aY).1).trans (h.fr.sh b o aY),h.fr.nrow⟩ h.new,ah⟩
 ·simp only at ai;rw[hO]at ai;by_cases e:k=j
  ·rw[if_pos e]at ai;cases ai;subst e;exact⟨bl,us,el,af,g2,g3,ka,lV ah aQ⟩
  ·rw[bu e]at ai;obtain⟨b,bh,dU,aj,aR,bm,c1,gE⟩:=h.good.box j dA ai;refine⟨b,bh,dU,aj,aR,bm,?_,lV ah gE⟩;rw[iy b fun gD=>e (h.good.inj k j bl (by simp[aa]) (by simp[ai]) af (by rw[<-gD];exact aj))];exact c1
 ·obtain⟨v,xs,aj,aR,bm,c1⟩:=h.good.own g o aT;refine⟨v,xs,aj,⟨aR.1,?_⟩,bm,nt ah (fun _ _ _ h=>h) c1⟩;rcases aR.2 with aR|⟨gr,cap,cur,f1,f2,f3,f4⟩
  ·exact .inl aR
  ·refine .inr ⟨gr,cap,cur,f1,f2,?_,f4⟩;rw[iy gr fun gD=>h.good.obx g k o.n v bl (by simp[aT]) (by simp[aa]) aj (by rw[f1,<-gD];rfl) af];exact f3
 ·rw[iy j fun e=>by subst e;exact g2.elim hm (fun g2=>Ω)];exact h.fr.block j ai hm
 ·obtain⟨b5,cE⟩:=h.fr.keep b o aY;exact⟨b5,(ah.A b o b5).2.trans cE⟩
theorem bX.storeBox{C:dM}{st:a6}{a:Act}{w:World}{ν:aM}(h:bX C st a w ν){k:aw}{cs cs':List ae}(aa:look k st.b=some cs){bl:Nat}(af:ν.bx k=some bl)(bB:gH cs=true){us:Array Value}(aQ:bW w ν cs' us.toList):
  bX C {st with b:=cx k cs' st.b} a (w.setRow bl us) ν:=by
 obtain⟨gP,dO,el,g1,g2,g3,g4,g5⟩:=h.good.box k cs aa;rw[af]at g1;cases g1;rw[mF bB]at g4;have Gz:=sO aQ;exact(h.setBox (w':=w.setRow bl us) aa af (us:=us) (el:=el) rfl rfl rfl (fun j ai=>setRow_other w bl j us ai) (setRow_size w bl us) (by rw[mF Gz];exact setRow_heap w bl dO us el.1 _ g4) (by rw[lT Gz];exact aQ)).1
def aM.withRowOf(ν:aM)(k:aw)(v:Value)(n cells:Nat):aM:={A:=fun b o=>ν.A b o\/(v.ownBlock=some b/\o<cells),bx:=ν.bx,ow:=fun j=>if j=k then some (n,v)else ν.ow j,tr:=ν.tr}
theorem ug{w:World}{A:Nat->Nat->Prop}{b:Nat}:∀(us:List Value) (off:Nat),(∀j u,us[j]? =some u->A b (off+j)/\w.cell? ⟨b,off+j,none⟩=some u)->ik w A b off us
 |[],_,_=>trivial
 |u::us,off,h=>⟨h 0 u rfl,ug us (off+1) fun j x ai=>by have:=h (j+1) x (by simpa using ai);rwa[show off+(j+1)=off+1+j from by omega]at this⟩
theorem EH{w w':World}(aT:w.grownBy w' none){b i:Nat}(h:b<w.heap.size):w'.cell? ⟨b,i,none⟩=w.cell? ⟨b,i,none⟩:=World.cell?_of_block (aT.block b h Ψ)
theorem bX.newRowM{C:dM}{st:a6}{a:Act}{w w':World}{ν:aM}(h:bX C st a w ν){k:aw}{xs:List ae}(aa:(ν.bx k=none/\ν.ow k=none/\∀j b,¬ν.tr k j b)\/ ∃o,look k st.e=some o/\o.n<xs.length){el sz:Nat}{v:Value}{us:List Value}
  (aT:w.grownBy w' none) (iz:w'.ownsRow w.heap.size el sz v xs.length us) (aQ:cf w ν sz xs us) (ee:xs.length<=aX) {n':Nat} {o':List aw} (gU:∀j,fresh n' o' j->fresh st.n st.o j/\j≠k):
  bX C {st with e:=cx k ⟨xs.length,el,sz,some xs⟩ st.e,n:=n',o:=o'} a w' (ν.withOwn k xs.length v)/\
  ((∃b cap,v= .slice (some ⟨b,0,none⟩) xs.length cap)->aJ w' (ν.withOwn k xs.length v) (.row sz k xs.length) v):=by
 have mj:∀bl,v.ownBlock=some bl->w.heap.size<=bl/\bl<w'.heap.size:=fun bl af=>iz.lt bl af;have ah:jH w ν w' (ν.withOwn k xs.length v):=by
  refine⟨fun b o aY=>⟨aY,EH aT (h.good.alt b o aY)⟩,fun j b _ ai=>ai,fun g n u _ hg=>?_,fun b o aY=>sV (aT.block b (h.good.alt b o aY) Ψ),fun _ _ _ _ h=>h⟩;by_cases e:g=k
  ·subst e;rcases aa with aa|⟨o,ah,cM⟩
   ·rw[aa.2.1]at hg;cases hg
   ·obtain⟨v0,dO,aj,_⟩:=h.good.own g o ah;rw[aj]at hg;cases hg;exact⟨xs.length,v,by simp[aM.withOwn],.inr cM⟩
  ·exact⟨n,u,by simp[aM.withOwn,e,hg],.inl ⟨rfl,rfl⟩⟩
 have iO:∀g,(look g (cx k ⟨xs.length,el,sz,some xs⟩ st.e)).isSome->g=k\/(g≠k/\(look g st.e).isSome/\(ν.withOwn k xs.length v).ow g=ν.ow g):=by
  intro g ix;by_cases e:g=k
  ·exact .inl e
  ·rw[hO,bu (Ne.symm e)]at ix;exact .inr ⟨e,ix,by simp[aM.withOwn,e]⟩
 have x8:∀bl,v.ownBlock=some bl->∀j,¬ν.A bl j:=fun bl af j aY=>by have I:=h.good.alt bl j aY;have:=(mj bl af).1;omega
 have Pg:∀j b,¬ν.tr k j b:=fun j b af=>by
  rcases aa with aa|⟨o,gV,_⟩
  ·exact aa.2.2 j b af
  ·obtain⟨v0,dO,aj,_⟩:=h.good.own k o gV;rw[(h.fr.trn k j b af).2]at aj;cases aj
 refine⟨h.over ah rfl ⟨fun bl o aY=>?_,fun j dA ai=>?_,h.good.inj,fun g o dX=>?_,fun g du n n' u dZ bl I J ak aV bn cb=>?_,fun g j n u bl I J ak aV bn=>?_,fun j=>?_,fun bl af be j aG=>?_⟩
  ⟨aT.os.trans h.fr.os,aT.tape.trans h.fr.tape,aT.output.trans h.fr.output,Nat.le_trans h.fr.size aT.size,fun j ai hm=>?_,fun b o aY=>?_,h.fr.fresh,h.fr.obj,h.fr.obn,fun m n u hm=>wK (h.fr.row m n u hm) (fun n u=>ah.ow _ n u trivial),h.fr.obr,h.fr.trd,fun k j b af=>⟨(h.fr.trb k j b af).1,Nat.lt_of_lt_of_le (h.fr.trb k j b af).2 aT.size⟩,fun be j b af=>?_,fun b o aY=>(ah.sh b o (h.fr.keep b o aY).1).trans (h.fr.sh b o aY),fun j n u b aj aR=>?_⟩ (fun m hm=>?_) (fun m hm=>(gU m hm).1),?_⟩
 ·have:=h.good.alt bl o aY;have:=aT.size;omega
 ·obtain⟨bl,bh,dU,g1,g2,g3,g4,g5⟩:=h.good.box j dA ai;have cM:=(Array.getElem?_eq_some_iff.1 g4).1;exact⟨bl,bh,dU,g1,g2,g3,by rw[aT.block bl cM Ψ];exact g4,lV ah g5⟩
 ·simp only at dX;rw[hO]at dX;by_cases e:k=g
  ·rw[if_pos e]at dX;cases dX;subst e;refine⟨v,us,by simp[aM.withOwn],⟨iz.1,?_⟩,fun bl af=>⟨.inr (Nat.le_trans h.fr.size (mj bl af).1),fun j aY=>absurd aY (x8 bl af j)⟩,fun ys bG=>?_⟩
   ·rcases iz.2 with aj|⟨gr,cap,cur,f1,f2,f3⟩
    ·exact .inl aj
    ·exact .inr ⟨gr,cap,cur,f1,Ω,f3⟩
   ·simp only[dt]at bG;subst bG;exact⟨rfl,uD ah aQ,x8⟩
  ·rw[bu e]at dX;obtain⟨v0,dO,aj,aR,bm,c1⟩:=h.good.own g o dX;exact⟨v0,dO,by simp[aM.withOwn,Ne.symm e,aj],aR.kept aT (by cases v0.ownBlock<;>simp),bm,nt ah (fun _ _ _ h=>h) c1⟩
 ·rcases iO g I with rfl|⟨e6,ey,fJ⟩<;>rcases iO du J with rfl|⟨m1,m2,m3⟩
  ·rfl
  ·exfalso;simp only[aM.withOwn,if_true,dt,hz]at ak;rw[m3]at aV;obtain⟨o,gV⟩:=eK.1 m2;have aA:=h.good.ownLt gV aV cb;have:=(mj bl (by rw[ak.2];exact bn)).1;omega
  ·exfalso;simp only[aM.withOwn,if_true,dt,hz]at aV;rw[fJ]at ak;obtain⟨o,gV⟩:=eK.1 ey;have aA:=h.good.ownLt gV ak bn;have:=(mj bl (by rw[aV.2];exact cb)).1;omega
  ·rw[fJ]at ak;rw[m3]at aV;exact h.good.oinj g du n n' u dZ bl ey m2 ak aV bn cb
 ·rcases iO g I with rfl|⟨e6,ey,fJ⟩
  ·simp only[aM.withOwn,if_true,dt,hz]at ak;obtain⟨dA,gx⟩:=eK.1 J;have aA:=h.good.boxLt gx bn;have:=(mj bl (by rw[ak.2];exact aV)).1;omega
  ·rw[fJ]at ak;exact h.good.obx g j n u bl ey J ak aV bn
 ·by_cases e:j=k
  ·subst e;rcases aa with aa|⟨o,gV,_⟩
   ·exact .inl aa.1
   ·obtain⟨v0,dO,aj,_⟩:=h.good.own j o gV;rcases h.good.one j with I|I
    ·exact .inl I
    ·rw[I]at aj;cases aj
  ·rcases h.good.one j with I|I
   ·exact .inl I
   ·exact .inr (by simp[aM.withOwn,e,I])
 ·rcases af with af|⟨g,n,u,bQ,a2,a3⟩
  ·exact h.good.otr bl (.inl af) be j aG
  ·rcases iO g bQ with rfl|⟨e6,ey,fJ⟩
   ·simp only[aM.withOwn,if_true,dt,hz]at a2;have I:=(mj bl (by rw[a2.2];exact a3)).1;have J:=(h.fr.trb be j _ aG).2;omega
   ·exact h.good.otr bl (.inr ⟨g,n,u,ey,by rw[<-fJ];exact a2,a3⟩) be j aG
 ·rw[aT.block j (by have:=h.fr.size;omega) Ψ];exact h.fr.block j ai hm
 ·obtain⟨b5,cE⟩:=h.fr.keep b o aY;exact⟨b5,(ah.A b o b5).2.trans cE⟩
 ·have dI:be≠k:=fun e=>by subst e;exact Pg j b af
  obtain⟨t1,t2⟩:=h.fr.trn be j b af;exact⟨t1,by simp[aM.withOwn,dI,t2]⟩
 ·by_cases e:aw.loc j=k
  ·subst e;simp only[aM.withOwn,if_true,dt,hz]at aj;exact Nat.le_trans h.fr.size (mj b (by rw[aj.2];exact aR)).1
  ·simp only[aM.withOwn,bu e]at aj;exact h.fr.nrow j n u b aj aR
 ·obtain⟨f1,f2⟩:=gU m hm;obtain⟨b5,cE,fA⟩:=h.new m f1;refine⟨b5,?_,fA⟩;simp[aM.withOwn,f2,cE]
 ·intro AL;simp only[aJ];exact⟨AL,ee,xs.length,v,by simp[aM.withOwn],c7 _,fun _=>rfl⟩
theorem bX.publish{C:dM}{st:a6}{a:Act}{w:World}{ν:aM}(h:bX C st a w ν){k:aw}{o:da}{xs:List ae}(aa:look k st.e=some o)(ab:o.xs=some xs){v:Value}(ba:ν.ow k=some (o.n,v))(ee:xs.length<=aX):
  bX C {st with e:=cx k ⟨o.n,o.el,o.sz,none⟩ st.e} a w (ν.withRowOf k v o.n (o.n*o.sz))/\
  aJ w (ν.withRowOf k v o.n (o.n*o.sz)) (.slice o.sz (.own k) xs) v:=by
 obtain⟨v0,us,bK,b6,cH,dd⟩:=h.good.own k o aa;rw[ba]at bK;cases bK;obtain⟨cz,iQ,om⟩:=dd xs ab;have ky:∀g,(ν.withRowOf k v o.n (o.n*o.sz)).ow g=ν.ow g:=fun g=>by
  simp only[aM.withRowOf];split
  ·rename_i e;subst e;exact ba.symm
  ·rfl
 have ah:jH w ν w (ν.withRowOf k v o.n (o.n*o.sz)):=⟨fun b o aY=>⟨.inl aY,rfl⟩,fun j b _ ai=>ai,fun g n u _ hg=>⟨n,u,by rw[ky];exact hg,.inl ⟨rfl,rfl⟩⟩,fun _ _ _=>rfl,fun _ _ _ _ h=>h⟩
 have iO:∀g,(look g (cx k ⟨o.n,o.el,o.sz,none⟩ st.e)).isSome->(look g st.e).isSome:=by
  intro g ix;by_cases e:k=g
  ·subst e;simp[aa]
  ·rwa[hO,bu e]at ix
 refine⟨h.over ah rfl ⟨fun bl i aY=>?_,fun j dA ai=>?_,h.good.inj,fun g o' dX=>?_,fun g du n n' u dZ bl I J ak aV=>h.good.oinj g du n n' u dZ bl (iO g I) (iO du J) (by rwa[ky]at ak) (by rwa[ky]at aV),fun g j n u bl I J ak=>h.good.obx g j n u bl (iO g I) J (by rwa[ky]at ak),fun j=>?_,fun bl af=>h.good.otr bl (af.imp id (fun⟨g,n,v,bQ,a2,a3⟩=>⟨g,n,v,iO g bQ,by rwa[ky]at a2,a3⟩))⟩
  ⟨h.fr.os,h.fr.tape,h.fr.output,h.fr.size,h.fr.block,fun b i aY=>⟨.inl (h.fr.keep b i aY).1,(h.fr.keep b i aY).2⟩,fun b i aY=>?_,h.fr.obj,h.fr.obn,fun m n u hm=>wK (h.fr.row m n u hm) (fun n u=>ah.ow _ n u trivial),h.fr.obr,h.fr.trd,h.fr.trb,fun be j b af=>⟨(h.fr.trn be j b af).1,by rw[ky];exact(h.fr.trn be j b af).2⟩,h.fr.sh,fun j n u b aj aR=>h.fr.nrow j n u b (by rw[<-ky];exact aj) aR⟩ (fun m hm=>?_),?_⟩
 ·rcases aY with aY|⟨aY,_⟩
  ·exact h.good.alt bl i aY
  ·exact(b6.lt bl aY).2
 ·obtain⟨bl,bh,dU,g1,g2,g3,g4,g5⟩:=h.good.box j dA ai;refine⟨bl,bh,dU,g1,g2,fun i aY=>?_,g4,lV ah g5⟩;rcases aY with aY|⟨aY,_⟩
  ·exact g3 i aY
  ·exact h.good.obx k j o.n v bl (by simp[aa]) (by simp[ai]) ba aY g1
 ·simp only at dX;rw[hO]at dX;by_cases e:k=g
  ·rw[if_pos e]at dX;cases dX;subst e;refine⟨v,us,by rw[ky];exact ba,b6,fun bl af=>⟨(cH bl af).1,fun j aY=>?_⟩,fun ys bG=>by cases bG⟩;rcases aY with aY|⟨_,aY⟩
   ·exact(cH bl af).2 j aY
   ·exact aY
  ·rw[bu e]at dX;obtain⟨v0,dO,aj,aR,bm,c1⟩:=h.good.own g o' dX;have qM:∀bl,v0.ownBlock=some bl->∀j,(ν.withRowOf k v o.n (o.n*o.sz)).A bl j->ν.A bl j:=fun bl af j aY=>by
    rcases aY with aY|⟨aY,_⟩
    ·exact aY
    ·exact absurd (h.good.oinj k g o.n o'.n v v0 bl (by simp[aa]) (by simp[dX]) ba aj aY af) e
   exact⟨v0,dO,by rw[ky];exact aj,aR,fun bl af=>⟨(bm bl af).1,fun j aY=>(bm bl af).2 j (qM bl af j aY)⟩,nt ah qM c1⟩
 ·rcases h.good.one j with I|I
  ·exact .inl I
  ·exact .inr (by rw[ky];exact I)
 ·rcases aY with aY|⟨aY,_⟩
  ·exact h.fr.fresh b i aY
  ·exact .inr (cH b aY).1
 ·obtain⟨b5,cE,fA⟩:=h.new m hm;exact⟨b5,by rw[ky];exact cE,fA⟩
 ·simp only[aJ];refine⟨?_,fun e=>(by cases e),fun g e=>?_,fun _ _ e=>(by cases e),fun _ e=>(by cases e)⟩
  ·rcases b6.2 with⟨aj,aR⟩|⟨gr,cap,cur,f1,f2,f3,f4,f5,f6,f7⟩
   ·refine⟨none,0,by rw[aj,cz,aR],Ω,⟨by simp[maxLen],ee⟩,.inl (pE Ω)⟩
   ·refine⟨some ⟨gr,0,none⟩,cap,by rw[f1,cz],Ω,⟨f5,ee⟩,.inr ⟨gr,0,us,rfl,ug us 0 fun j u ai=>?_,uD ah iQ⟩⟩;have iA:v.ownBlock=some gr:=by rw[f1];rfl
    have fF:j<us.length:=(dw.1 ai).1;refine⟨.inr ⟨iA,by rw[b6.1]at fF;omega⟩,?_⟩;have:=b6.cells iA j u ai;rwa[k4]at this
  ·cases e;exact⟨o.n,v,by rw[ky];exact ba,Ω,fun _=>rfl⟩
theorem Js{α:Type}(k:aw)(p q:α):∀l,cx k q (cx k p l)=cx k q l
 |[]=>by simp[cx]
 |(i,r)::l=>by
  by_cases e:i=k
  ·simp[cx,e]
  ·simp[cx,e,Js k p q l]
theorem bX.newRow{C:dM}{st:a6}{a:Act}{w w':World}{ν:aM}(h:bX C st a w ν){k:aw}{xs:List ae}(aa:(ν.bx k=none/\ν.ow k=none/\∀j b,¬ν.tr k j b)\/ ∃o,look k st.e=some o/\o.n<xs.length){el sz:Nat}{v:Value}{us:List Value}
  (aT:w.grownBy w' none) (iz:w'.ownsRow w.heap.size el sz v xs.length us) (aQ:cf w ν sz xs us) (ee:xs.length<=aX) {n':Nat} {o':List aw} (gU:∀j,fresh n' o' j->fresh st.n st.o j/\j≠k):
  bX C {st with e:=cx k ⟨xs.length,el,sz,none⟩ st.e,n:=n',o:=o'} a w' ((ν.withOwn k xs.length v).withRowOf k v xs.length (xs.length*sz))/\
  aJ w' ((ν.withOwn k xs.length v).withRowOf k v xs.length (xs.length*sz)) (.slice sz (.own k) xs) v:=by
 have I:=(h.newRowM aa aT iz aQ ee gU).1;have J:=I.publish (k:=k) (o:=⟨xs.length,el,sz,some xs⟩) (xs:=xs) (v:=v) (by simp[hO]) rfl (by simp[aM.withOwn]) ee;simpa only[Js]using J
theorem bX.setRowM{C:dM}{st:a6}{a:Act}{w w':World}{ν:aM}(h:bX C st a w ν){k:aw}{o:da}{xs xs':List ae}(aa:look k st.e=some o)(ab:o.xs=some xs){bl:Nat}{v v':Value}(ba:ν.ow k=some (o.n,v))(iA:v.ownBlock=some bl)(vY:v'.ownBlock=some bl)
  (aS:(xs'.length=o.n/\v'=v)\/o.n<xs'.length) {us:List Value} (qZ:w'.os=w.os) (vV:w'.tape=w.tape) (vN:w'.output=w.output) (iy:∀j,j≠bl->w'.heap[j]? =w.heap[j]?) (dR:w'.heap.size=w.heap.size)
  (iz:w'.ownsRow 0 o.el o.sz v' xs'.length us) (aQ:cf w ν o.sz xs' us):
  bX C {st with e:=cx k ⟨xs'.length,o.el,o.sz,some xs'⟩ st.e} a w' (ν.withOwn k xs'.length v')/\jH w ν w' (ν.withOwn k xs'.length v')/\(xs'.length<=aX->aJ w' (ν.withOwn k xs'.length v') (.row o.sz k xs'.length) v'):=by
 obtain⟨v0,dO,bK,b6,cH,dd⟩:=h.good.own k o aa;rw[ba]at bK;cases bK;obtain⟨cz,iQ,om⟩:=dd xs ab;have ah:jH w ν w' (ν.withOwn k xs'.length v'):=by
  refine⟨fun b i aY=>⟨aY,World.cell?_of_block (iy b fun e=>by subst e;exact om b iA i aY)⟩,fun j b _ ai=>ai,fun g n u _ hg=>?_,fun b i aY=>sV (iy b fun e=>by subst e;exact om b iA i aY),fun _ _ _ _ h=>h⟩;by_cases e:g=k
  ·subst e;rw[ba]at hg;cases hg;refine⟨xs'.length,v',by simp[aM.withOwn],?_⟩;rcases aS with⟨I,J⟩|I
   ·exact .inl ⟨I,J⟩
   ·exact .inr I
  ·exact⟨n,u,by simp[aM.withOwn,e,hg],.inl ⟨rfl,rfl⟩⟩
 have iO:∀g n u,(look g (cx k ⟨xs'.length,o.el,o.sz,some xs'⟩ st.e)).isSome->(ν.withOwn k xs'.length v').ow g=some (n,u)->∀b,u.ownBlock=some b->(look g st.e).isSome/\∃n u,ν.ow g=some (n,u)/\u.ownBlock=some b:=by
  intro g n u ix hg b af;by_cases e:g=k
  ·subst e;simp only[aM.withOwn,if_true,dt,hz]at hg;rw[<-hg.2,vY]at af;cases af;exact⟨by simp[aa],o.n,v,ba,iA⟩
  ·rw[hO,bu (Ne.symm e)]at ix;simp only[aM.withOwn,e,if_false]at hg;exact⟨ix,n,u,hg,af⟩
 refine⟨h.over ah rfl ⟨fun b i aY=>by rw[dR];exact h.good.alt b i aY,fun j dA ai=>?_,h.good.inj,fun g o' dX=>?_,fun g du n n' u dZ b I J ak aV bn cb=>?_,fun g j n u b I J ak aV bn=>?_,fun j=>?_,fun b af=>h.good.otr b (af.imp id (fun⟨g,n,v,bQ,a2,a3⟩=>by obtain⟨bH,e6,h8,bR,ea⟩:=iO g n v bQ a2 b a3;exact⟨g,e6,h8,bH,bR,ea⟩))⟩
  ⟨qZ.trans h.fr.os,vV.trans h.fr.tape,vN.trans h.fr.output,by rw[dR];exact h.fr.size,fun j ai hm=>?_,fun b i aY=>?_,h.fr.fresh,h.fr.obj,h.fr.obn,fun m n u hm=>wK (h.fr.row m n u hm) (fun n u=>ah.ow _ n u trivial),h.fr.obr,h.fr.trd,fun k j b af=>⟨(h.fr.trb k j b af).1,by rw[dR];exact(h.fr.trb k j b af).2⟩,fun be j b af=>?_,fun b o aY=>(ah.sh b o (h.fr.keep b o aY).1).trans (h.fr.sh b o aY),fun j n u b aj aR=>(by
   by_cases e:aw.loc j=k
   ·subst e;simp only[aM.withOwn,if_true,dt,hz]at aj;rw[<-aj.2,vY]at aR;cases aR;exact h.fr.nrow j o.n v bl ba iA
   ·simp only[aM.withOwn,bu e]at aj;exact h.fr.nrow j n u b aj aR)⟩ (fun m hm=>?_),ah,?_⟩
 ·obtain⟨b,bh,dU,g1,g2,g3,g4,g5⟩:=h.good.box j dA ai;have dI:b≠bl:=fun e=>h.good.obx k j o.n _ bl (by simp[aa]) (by simp[ai]) ba iA (by rw[<-e];exact g1);exact⟨b,bh,dU,g1,g2,g3,by rw[iy b dI];exact g4,lV ah g5⟩
 ·simp only at dX;rw[hO]at dX;by_cases e:k=g
  ·rw[if_pos e]at dX;cases dX;subst e;refine⟨v',us,by simp[aM.withOwn],iz,fun b af=>?_,fun ys bG=>?_⟩
   ·rw[vY]at af;cases af;exact⟨(cH bl iA).1,fun j aY=>absurd aY (om bl iA j)⟩
   ·simp only[dt]at bG;subst bG;exact⟨rfl,uD ah aQ,fun b af=>by rw[vY]at af;cases af;exact om bl iA⟩
  ·rw[bu e]at dX;obtain⟨v0,dO,aj,aR,bm,c1⟩:=h.good.own g o' dX;have dI:∀b,v0.ownBlock=some b->b≠bl:=fun b af z1=>e (h.good.oinj k g o.n o'.n _ v0 bl (by simp[aa]) (by simp[dX]) ba aj iA (by rw[<-z1];exact af));refine⟨v0,dO,by simp[aM.withOwn,Ne.symm e,aj],⟨aR.1,?_⟩,bm,nt ah (fun _ _ _ h=>h) c1⟩;rcases aR.2 with aR|⟨gr,tv,j4,f1,f2,f3,f4⟩
   ·exact .inl aR
   ·exact .inr ⟨gr,tv,j4,f1,f2,by rw[iy gr (dI gr (by rw[f1];rfl))];exact f3,f4⟩
 ·obtain⟨bQ,e6,h8,a2,a3⟩:=iO g n u I ak b bn;obtain⟨bH,ey,hS,bR,ea⟩:=iO du n' dZ J aV b cb;exact h.good.oinj g du e6 ey h8 hS b bQ bH a2 bR a3 ea
 ·obtain⟨bQ,e6,h8,a2,a3⟩:=iO g n u I ak b aV;exact h.good.obx g j e6 h8 b bQ J a2 a3 bn
 ·by_cases e:j=k
  ·subst e;rcases h.good.one j with I|I
   ·exact .inl I
   ·rw[I]at ba;cases ba
  ·rcases h.good.one j with I|I
   ·exact .inl I
   ·exact .inr (by simp[aM.withOwn,e,I])
 ·rw[iy j fun e=>by subst e;exact(cH j iA).1.elim hm (fun g2=>Ω)];exact h.fr.block j ai hm
 ·obtain⟨b5,cE⟩:=h.fr.keep b i aY;exact⟨b5,(ah.A b i b5).2.trans cE⟩
 ·obtain⟨t1,t2⟩:=h.fr.trn be j b af;have dI:be≠k:=fun e=>by subst e;rw[t2]at ba;cases ba
  exact⟨t1,by simp[aM.withOwn,dI,t2]⟩
 ·obtain⟨b5,cE,fA⟩:=h.new m hm;refine⟨b5,?_,fA⟩;have:m≠k:=fun e=>by subst e;rw[cE]at ba;cases ba
  simp[aM.withOwn,this,cE]
 ·intro ee;simp only[aJ];obtain⟨cap,AL⟩:=HY iz vY;exact⟨⟨bl,cap,AL⟩,ee,xs'.length,v',by simp[aM.withOwn],c7 _,fun _=>rfl⟩
theorem bX.inPlace{C:dM}{st:a6}{a:Act}{w:World}{ν:aM}(h:bX C st a w ν){k:aw}{o:da}(aa:look k st.e=some o){bl cap:Nat}{cur:Array Value}(ba:ν.ow k=some (o.n,.slice (some ⟨bl,0,none⟩) o.n cap))
  (sc:w.heap[bl]? =some (.cells cur o.el (0,0))) (nW:cap<=maxLen) (dR:cur.size=cap*o.sz) {xs ys:List ae} {us ns:List Value} (h2:xs.length=o.n) (nj:cur.toList.take (o.n*o.sz)=us) (aQ:cf w ν o.sz xs us) (Gb:cf w ν o.sz ys ns)
  (eS:0<ys.length) (kT:o.n+ys.length<=cap) (ee:xs.length+ys.length<=aX):
  bX C {st with e:=cx k ⟨o.n+ys.length,o.el,o.sz,none⟩ st.e} a (w.setRow bl (us++ns++cur.toList.drop (o.n*o.sz+ns.length)).toArray)
   (ν.withRowOf k (.slice (some ⟨bl,0,none⟩) (o.n+ys.length) cap) (o.n+ys.length) ((o.n+ys.length)*o.sz))/\
  aJ (w.setRow bl (us++ns++cur.toList.drop (o.n*o.sz+ns.length)).toArray) (ν.withRowOf k (.slice (some ⟨bl,0,none⟩) (o.n+ys.length) cap) (o.n+ys.length) ((o.n+ys.length)*o.sz))
   (.slice o.sz (.own k) (xs++ys)) (.slice (some ⟨bl,0,none⟩) (o.n+ys.length) cap):=by
 have h1:=nr Gb;have ni:=nr aQ;rw[h2]at ni;have hmul:(o.n+ys.length)*o.sz<=cap*o.sz:=Nat.mul_le_mul_right _ kT;rw[Nat.add_mul]at hmul;obtain⟨v0,dO,bK,b6,cH,_⟩:=h.good.own k o aa;rw[ba]at bK;cases bK;obtain⟨dd,cz⟩:=cH bl rfl;generalize tY:w.setRow bl (us++ns++cur.toList.drop (o.n*o.sz+ns.length)).toArray=w';have iy:∀j,j≠bl->w'.heap[j]? =w.heap[j]?:=fun j ai=>by rw[<-tY];exact setRow_other w bl j _ ai
 have ka:w'.heap[bl]? =some (.cells (us++ns++cur.toList.drop (o.n*o.sz+ns.length)).toArray o.el (0,0)):=by rw[<-tY];exact setRow_heap w bl cur _ o.el _ sc
 have A5:w'.heap.size=w.heap.size:=by rw[<-tY];exact setRow_size w bl _
 have nf:∀j,j<o.n*o.sz->w'.cell? ⟨bl,j,none⟩=w.cell? ⟨bl,j,none⟩:=by intro j ai;simp only[World.cell?,ka,sc,Option.isSome_none,jX,if_false];rw[List.getElem?_toArray,List.append_assoc,nC Ω,<-nj,List.getElem?_take,if_pos ai];simp
 have ah:jH w ν w' (ν.withRowOf k (.slice (some ⟨bl,0,none⟩) (o.n+ys.length) cap) (o.n+ys.length) ((o.n+ys.length)*o.sz)):=by
  refine⟨fun b j aY=>⟨.inl aY,?_⟩,fun j b _ ai=>ai,fun g n u _ hg=>?_,fun b j aY=>?_,fun _ _ _ _ h=>h⟩;rotate_left 2
  ·by_cases e:b=bl
   ·subst e;simp only[shape,ka,sc,List.size_toArray,dh,List.length_drop,Array.length_toList];congr 2;omega
   ·exact sV (iy b e)
  ·by_cases e:b=bl
   ·subst e;exact nf j (cz j aY)
   ·exact World.cell?_of_block (iy b e)
  ·by_cases e:g=k
   ·subst e;rw[ba]at hg;cases hg;exact⟨o.n+ys.length,.slice (some ⟨bl,0,none⟩) (o.n+ys.length) cap,by simp[aM.withRowOf],.inr Ω⟩
   ·exact⟨n,u,by simp[aM.withRowOf,e,hg],.inl ⟨rfl,rfl⟩⟩
 have iO:∀g,(look g (cx k ⟨o.n+ys.length,o.el,o.sz,none⟩ st.e)).isSome->g=k\/(g≠k/\(look g st.e).isSome/\(ν.withRowOf k (.slice (some ⟨bl,0,none⟩) (o.n+ys.length) cap) (o.n+ys.length) ((o.n+ys.length)*o.sz)).ow g=ν.ow g):=by
  intro g ix;by_cases e:g=k
  ·exact .inl e
  ·rw[hO,bu (Ne.symm e)]at ix;exact .inr ⟨e,ix,by simp[aM.withRowOf,e]⟩
 have V5:bl<w.heap.size:=(Array.getElem?_eq_some_iff.1 sc).1;have vy:∀j u,(us++ns)[j]? =some u->w'.cell? ⟨bl,j,none⟩=some u:=by intro j u ai;have fF:=(dw.1 ai).1;simp only[World.cell?,ka,Option.isSome_none,jX,if_false];rw[List.getElem?_toArray,nC fF];exact ai
 refine⟨h.over ah rfl ⟨fun b j aY=>?_,fun j dA ai=>?_,h.good.inj,fun g o' dX=>?_,fun g du n n' u dZ b I J ak aV bn cb=>?_,fun g j n u b I J ak aV bn=>?_,fun j=>?_,fun b af=>h.good.otr b ?_⟩
  ⟨by rw[<-tY];exact h.fr.os,by rw[<-tY];exact h.fr.tape,by rw[<-tY];exact h.fr.output,by rw[A5];exact h.fr.size,fun j ai hm=>?_,fun b j aY=>?_,fun b j aY=>?_,h.fr.obj,h.fr.obn,fun m n u hm=>wK (h.fr.row m n u hm) (fun n u=>ah.ow _ n u trivial),h.fr.obr,h.fr.trd,fun k j b af=>⟨(h.fr.trb k j b af).1,by rw[A5];exact(h.fr.trb k j b af).2⟩,fun be j b af=>?_,fun b o aY=>(ah.sh b o (h.fr.keep b o aY).1).trans (h.fr.sh b o aY),fun j n u b aj aR=>(by
   by_cases e:aw.loc j=k
   ·subst e;simp only[aM.withRowOf,if_true,dt,hz]at aj;rw[<-aj.2]at aR;have bm:b=bl:=by simpa[kI]using aR.symm
    subst bm;exact h.fr.nrow j _ _ b ba rfl
   ·simp only[aM.withRowOf,bu e]at aj;exact h.fr.nrow j n u b aj aR)⟩ (fun m hm=>?_),?_⟩
 ·rw[A5];rcases aY with aY|⟨aY,_⟩
  ·exact h.good.alt b j aY
  ·simp only[kI,dt]at aY;omega
 ·obtain⟨b,bh,dU,g1,g2,g3,g4,g5⟩:=h.good.box j dA ai;have dI:b≠bl:=fun e=>h.good.obx k j o.n _ bl (by simp[aa]) (by simp[ai]) ba rfl (by rw[<-e];exact g1);refine⟨b,bh,dU,g1,g2,fun i aY=>?_,by rw[iy b dI];exact g4,lV ah g5⟩;rcases aY with aY|⟨aY,_⟩
  ·exact g3 i aY
  ·simp only[kI,dt]at aY;exact dI aY.symm
 ·simp only at dX;rw[hO]at dX;by_cases e:k=g
  ·rw[if_pos e]at dX;cases dX;subst e;refine⟨.slice (some ⟨bl,0,none⟩) (o.n+ys.length) cap,us++ns,by simp[aM.withRowOf],⟨by rw[dh,ni,h1,Nat.add_mul],.inr ⟨bl,cap,_,rfl,Nat.zero_le _,ka,kT,nW,?_,?_⟩⟩,fun b af=>⟨?_,fun j aY=>?_⟩,fun ys bG=>by cases bG⟩
   ·simp only[List.size_toArray,dh,List.length_drop,Array.length_toList];omega
   ·have aA:(us++ns).length=(o.n+ys.length)*o.sz:=by rw[dh,ni,h1,Nat.add_mul]
    simp only[<-aA];rw[List.take_append_of_le_length (c7 _),jY]
   ·simp only[kI,dt]at af;subst af;exact dd
   ·simp only[kI,dt]at af;subst af;rcases aY with aY|⟨_,aY⟩
    ·have:=cz j aY;simp only;rw[Nat.add_mul];omega
    ·exact aY
  ·rw[bu e]at dX;obtain⟨v0,dO,aj,aR,bm,c1⟩:=h.good.own g o' dX;have dI:∀b,v0.ownBlock=some b->b≠bl:=fun b af z1=>e (h.good.oinj k g o.n o'.n _ v0 bl (by simp[aa]) (by simp[dX]) ba aj rfl (by rw[<-z1];exact af));have qM:∀b,v0.ownBlock=some b->∀j,(ν.withRowOf k (.slice (some ⟨bl,0,none⟩) (o.n+ys.length) cap) (o.n+ys.length) ((o.n+ys.length)*o.sz)).A b j->ν.A b j:=fun b af j aY=>by
    rcases aY with aY|⟨aY,_⟩
    ·exact aY
    ·simp only[kI,dt]at aY;exact absurd aY.symm (dI b af)
   refine⟨v0,dO,by simp[aM.withRowOf,Ne.symm e,aj],⟨aR.1,?_⟩,fun b af=>⟨(bm b af).1,fun j aY=>(bm b af).2 j (qM b af j aY)⟩,nt ah qM c1⟩;rcases aR.2 with aR|⟨gr,tv,j4,f1,f2,f3,f4⟩
   ·exact .inl aR
   ·exact .inr ⟨gr,tv,j4,f1,f2,by rw[iy gr (dI gr (by rw[f1];rfl))];exact f3,f4⟩
 ·rcases iO g I with rfl|⟨e6,ey,fJ⟩<;>rcases iO du J with rfl|⟨m1,m2,m3⟩
  ·rfl
  ·exfalso;simp only[aM.withRowOf,if_true,dt,hz]at ak;rw[m3]at aV;rw[<-ak.2]at bn;simp only[kI,dt]at bn;subst bn;exact m1 (h.good.oinj du g n' o.n dZ _ bl m2 (by simp[aa]) aV ba cb rfl)
  ·exfalso;simp only[aM.withRowOf,if_true,dt,hz]at aV;rw[fJ]at ak;rw[<-aV.2]at cb;simp only[kI,dt]at cb;subst cb;exact e6 (h.good.oinj g du n o.n u _ bl ey (by simp[aa]) ak ba bn rfl)
  ·rw[fJ]at ak;rw[m3]at aV;exact h.good.oinj g du n n' u dZ b ey m2 ak aV bn cb
 ·rcases iO g I with rfl|⟨e6,ey,fJ⟩
  ·simp only[aM.withRowOf,if_true,dt,hz]at ak;rw[<-ak.2]at aV;simp only[kI,dt]at aV;subst aV;exact h.good.obx g j o.n _ bl (by simp[aa]) J ba rfl bn
  ·rw[fJ]at ak;exact h.good.obx g j n u b ey J ak aV bn
 ·by_cases e:j=k
  ·subst e;rcases h.good.one j with I|I
   ·exact .inl I
   ·rw[I]at ba;cases ba
  ·rcases h.good.one j with I|I
   ·exact .inl I
   ·exact .inr (by simp[aM.withRowOf,e,I])
 ·rcases af with af|⟨g,n,u,bQ,a2,a3⟩
  ·exact .inl af
  ·rcases iO g bQ with rfl|⟨e6,ey,fJ⟩
   ·simp only[aM.withRowOf,if_true,dt,hz]at a2;rw[<-a2.2]at a3;exact .inr ⟨g,_,_,by simp[aa],ba,a3⟩
   ·exact .inr ⟨g,n,u,ey,by rw[<-fJ];exact a2,a3⟩
 ·rw[iy j fun e=>by subst e;exact dd.elim hm (fun g2=>Ω)];exact h.fr.block j ai hm
 ·obtain⟨b5,cE⟩:=h.fr.keep b j aY;exact⟨.inl b5,(ah.A b j b5).2.trans cE⟩
 ·rcases aY with aY|⟨aY,_⟩
  ·exact h.fr.fresh b j aY
  ·simp only[kI,dt]at aY;subst aY;exact .inr dd
 ·obtain⟨t1,t2⟩:=h.fr.trn be j b af;have dI:be≠k:=fun e=>by subst e;rw[t2]at ba;cases ba
  exact⟨t1,by simp[aM.withRowOf,dI,t2]⟩
 ·obtain⟨b5,cE,fA⟩:=h.new m hm;refine⟨b5,?_,fA⟩;have:m≠k:=fun e=>by subst e;rw[cE]at ba;cases ba
  simp[aM.withRowOf,this,cE]
 ·simp only[aJ];refine⟨⟨some ⟨bl,0,none⟩,cap,by simp[h2],by simp;omega,⟨nW,by simpa using ee⟩,.inr ⟨bl,0,us++ns,rfl,ug _ 0 fun j u ai=>?_,uC (uD ah aQ) (uD ah Gb)⟩⟩,fun e=>(by cases e),fun g e=>?_,fun _ _ e=>(by cases e),fun _ e=>(by cases e)⟩
  ·have fF:=(dw.1 ai).1;rw[Nat.zero_add];refine⟨.inr ⟨rfl,?_⟩,vy j u ai⟩;rw[dh,ni,h1]at fF;rw[Nat.add_mul];exact fF
  ·cases e;exact⟨o.n+ys.length,.slice (some ⟨bl,0,none⟩) (o.n+ys.length) cap,by simp[aM.withRowOf],by simp[h2],fun _=>rfl⟩
theorem za{P:bM}{w:World}{t ty e:eZ}{i:TypeInfo}(aG:P.underlying t=some (.slice e))(aq:P.info? e=some i)(b:bf Addr)(n cap:Nat)(aS:n<=cap)(x:bf Addr)(c:Nat):
  (oz #[t,t] ty #[.slice b n cap,.slice x 0 c]).run P w= .ok (.slice b n cap) w:=by
 cases b<;>cases x<;>simp[oz,run_underlying aG,sizeOf,typeInfo,aq,Builtin.lenOf,aS,Builtin.firstCells,loadCells,loadCellsFrom,storeCells]
inductive df where
 |v (d:Nat) (i:eV)
 |box (d:Nat) (key:bf Nat) (x:ct)
 |alloc (d:Nat) (key:bf Nat) (zero:ae)
 |store (sz:Nat) (x y:ct)
 |bsl (d:Nat) (sz el:Nat) (xs:List ct)
 |app (d:Nat) (sz el:Nat) (x y:ct)
 |bslm (d:Nat) (key:bf Nat) (sz el:Nat) (xs:List ct)
 |appm (d:Nat) (key:bf Nat) (sz el:Nat) (x y:ct)
 |mkmap (d:Nat) (key:bf Nat)
 |mput (bO:ib) (x k v:ct)
 |range (d:Nat) (key:bf Nat) (x:ct)
 |storeE (sz:Nat) (x y:ct)
 |mks (d:Nat) (key:bf Nat) (sz el:Nat) (z:ae) (x:ct)
 |apps (d el:Nat) (x y:ct)
def hk(st:a6):bf Nat->aw
 |none=>.loc st.n
 |some m=>.obj m
def mA(st:a6):bf Nat->Prop
 |none=>.loc st.n∉st.o
 |some m=>.obj m∉st.o
def kB(st:a6):bf Nat->Nat
 |none=>st.n+1
 |some _=>st.n
def kC(st:a6):bf Nat->List aw
 |none=>st.o
 |some m=>.obj m::st.o
theorem rj{st:a6}{key:bf Nat}(h:mA st key):fresh st.n st.o (hk st key):=by cases key<;>simp[hk,fresh,mA]at h⊢ <;>exact h
theorem rk{st:a6}{key:bf Nat}:∀j,fresh (kB st key) (kC st key) j->fresh st.n st.o j/\j≠hk st key:=by
 intro j ai;cases key<;>cases j<;>simp[fresh,kB,kC,hk]at ai⊢
 ·exact⟨⟨Ω,ai.2⟩,Ω⟩
 ·exact ai
 ·exact ai
 ·exact⟨ai.2,ai.1⟩
def nI(sz:Nat):List ae->Prop
 |[]=>True
 |p::bD=>(dE p=true/\(cells p).length=sz)/\nI sz bD
def qg(bO:ib)(k v:ae):List ae->bf (List ae)
 | .hdm clock borns::kvs=>if ue bO k=false then none else match sG bO k v kvs with
  |some (some q9)=>some (.hdm clock borns::q9)
  |some none=>some (.hdm (clock+1) (borns++[clock])::(kvs++[k,v]))
  |none=>none
 |_=>none
def wD(m:aw):List ae->bf (List ae)
 | .hdm clock _::_=>some [.hdi clock [] clock,.gmap m]
 |_=>none
def oN(st:a6)(sz el:Nat)(x y:ae):bf ((bf (aw×List ae))×List ae):=
 match x,y with
 | .slice cJ .nil _,.slice hs _ ys=>if cJ=sz/\hs=sz then some (none,ys)else none
 | .row cJ k n,.slice hs _ ys=>if cJ=sz/\hs=sz then
   match look k st.e with
   |some ⟨n',dU,rB,some xs⟩=>if n'=n/\dU=el/\rB=sz then some (some (k,xs),ys)else none
   |_=>none
  else none
 |_,_=>none
def lX:ae->Nat->List ae->ae
 | .agg dA,f,cs=>.agg (lq dA f cs)
 |_,_,[q]=>q
 |_,_,_=>.junk
def nx(st:a6)(sz:Nat)(p v:ae):bf (Prop×a6):=
 match p with
 | .rptr cJ k n i f=>match look k st.e with
  |some ⟨n',el,hs,some xs⟩=>if n'=n/\hs=cJ then
    match xs[i]? with
    |some q=>some (dE q=true/\dE v=true/\(cells v).length=sz/\f+sz<=(cells q).length/\0<sz,{st with e:=cx k ⟨n',el,hs,some (xs.set i (lX q f (cells v)))⟩ st.e})
    |none=>none
   else none
  |_=>none
 |_=>none
def e1(s:List bt):List ae:=s.map fun c=>.int .u8 c.toNat
def vb(st:a6)(d el:Nat)(x y:ae):bf (Prop×a6):=
 match x,y with
 | .row sz k n,.str s=>match look k st.e with
  |some ⟨n',dU,cJ,some xs⟩=>if n'=n/\dU=el/\cJ=1/\sz=1 then some (xs.length+s.length<=aX,
    {st with t:=put d (.row 1 k (xs.length+s.length)) st.t,e:=cx k ⟨xs.length+s.length,el,1,some (xs++e1 s)⟩ st.e})else none
  |_=>none
 | .slice sz .nil _,.str s=>if sz=1 then some ((.obj 862∉st.o)/\s≠[]/\s.length<=aX,
   {t:=put d (.row 1 (.obj 862) s.length) st.t,b:=st.b,e:=cx (.obj 862) ⟨s.length,el,1,some (e1 s)⟩ st.e,n:=st.n,o:= .obj 862::st.o})else none
 |_,_=>none
def jE(st:a6):df->bf (Prop×a6)
 | .mks d key sz el z x=>match bA st.t x with
  | .int _ n=>some (mA st key/\0<=n/\n<=aX,
    {t:=put d (.row sz (hk st key) n.toNat) st.t,b:=st.b,e:=cx (hk st key) ⟨n.toNat,el,sz,some (List.replicate n.toNat z)⟩ st.e,n:=kB st key,o:=kC st key})
  |_=>none
 | .bslm d key sz el xs=>some (mA st key/\nI sz (xs.map (bA st.t)),
   {t:=put d (.row sz (hk st key) xs.length) st.t,b:=st.b,e:=cx (hk st key) ⟨xs.length,el,sz,some (xs.map (bA st.t))⟩ st.e,n:=kB st key,o:=kC st key})
 | .appm d key sz el x y=>match oN st sz el (bA st.t x) (bA st.t y)with
  |some (none,ys)=>some (mA st key/\ys.length<=aX/\ys≠[],
    {t:=put d (.row sz (hk st key) ys.length) st.t,b:=st.b,e:=cx (hk st key) ⟨ys.length,el,sz,some ys⟩ st.e,n:=kB st key,o:=kC st key})
  |some (some (k,xs),ys)=>some (xs.length+ys.length<=aX,{st with t:=put d (.row sz k (xs.length+ys.length)) st.t,e:=cx k ⟨xs.length+ys.length,el,sz,some (xs++ys)⟩ st.e})
  |none=>none
 | .mkmap d key=>some (mA st key,{t:=put d (.gmap (hk st key)) st.t,b:=cx (hk st key) [.hdm 0 []] st.b,e:=st.e,n:=kB st key,o:=kC st key})
 | .mput bO x k v=>match bA st.t x with
  | .gmap m=>match look m st.b with
   |some cs=>match qg bO (bA st.t k) (bA st.t v) cs with
    |some cs'=>some (True,{st with b:=cx m cs' st.b})
    |none=>none
   |none=>none
  |_=>none
 | .range d key x=>match bA st.t x with
  | .gmap m=>match look m st.b with
   |some cs=>match wD m cs with
    |some cs'=>some (mA st key,{t:=put d (.ptr (hk st key) 0) st.t,b:=cx (hk st key) cs' st.b,e:=st.e,n:=kB st key,o:=kC st key})
    |none=>none
   |none=>none
  |_=>none
 | .v d i=>match fx st i with
  |some (c,p)=>some (c,{st with t:=put d p st.t})
  |none=>none
 | .storeE sz x y=>nx st sz (bA st.t x) (bA st.t y)
 | .apps d el x y=>vb st d el (bA st.t x) (bA st.t y)
 | .box d key x=>some (mA st key/\dE (bA st.t x)=true,
   {t:=put d (.ptr (hk st key) 0) st.t,b:=cx (hk st key) (cells (bA st.t x)) st.b,e:=st.e,n:=kB st key,o:=kC st key})
 | .alloc d key z=>some (mA st key,{t:=put d (.ptr (hk st key) 0) st.t,b:=cx (hk st key) (cells z) st.b,e:=st.e,n:=kB st key,o:=kC st key})
 | .store sz x y=>match bA st.t x with
  | .ptr k off=>match look k st.b with
   |some cs=>some (gH cs=true/\dE (bA st.t y)=true/\(cells (bA st.t y)).length=sz/\off+sz<=cs.length,{st with b:=cx k (lq cs off (cells (bA st.t y))) st.b})
   |none=>none
  |p=>nx st sz p (bA st.t y)
 | .bsl d sz el xs=>some (mA st none/\nI sz (xs.map (bA st.t)),
   {st with t:=put d (.slice sz (.own (.loc st.n)) (xs.map (bA st.t))) st.t,e:=cx (.loc st.n) ⟨xs.length,el,sz,none⟩ st.e,n:=st.n+1})
 | .app d sz el x y=>match bA st.t x,bA st.t y with
  | .slice cJ tag xs,.slice hs _ ys=>if cJ=sz/\hs=sz then
    match tag with
    | .own k=>match look k st.e with
     |some o=>some (o.n=xs.length/\o.el=el/\o.sz=sz/\xs.length+ys.length<=aX,
       {st with t:=put d (.slice sz (.own k) (xs++ys)) st.t,e:=cx k ⟨xs.length+ys.length,el,sz,none⟩ st.e})
     |none=>none
    | .nil=>some (mA st none/\ys.length<=aX,{st with t:=put d (.slice sz (.own (.loc st.n)) ys) st.t,e:=cx (.loc st.n) ⟨ys.length,el,sz,none⟩ st.e,n:=st.n+1})
    |_=>none
   else none
  |_,_=>none
def dx(κ:aw)(n':Nat)(o':List aw)(st:a6):df->bf (Prop×a6)
 | .mks d _ sz el z x=>match bA st.t x with
  | .int _ n=>some (0<=n/\n<=aX,
    {t:=put d (.row sz κ n.toNat) st.t,b:=st.b,e:=cx κ ⟨n.toNat,el,sz,some (List.replicate n.toNat z)⟩ st.e,n:=n',o:=o'})
  |_=>none
 | .bslm d _ sz el xs=>some (nI sz (xs.map (bA st.t)),
   {t:=put d (.row sz κ xs.length) st.t,b:=st.b,e:=cx κ ⟨xs.length,el,sz,some (xs.map (bA st.t))⟩ st.e,n:=n',o:=o'})
 | .appm d _ sz el x y=>match oN st sz el (bA st.t x) (bA st.t y)with
  |some (none,ys)=>some (ys.length<=aX/\ys≠[],
    {t:=put d (.row sz κ ys.length) st.t,b:=st.b,e:=cx κ ⟨ys.length,el,sz,some ys⟩ st.e,n:=n',o:=o'})
  |some (some (k,xs),ys)=>some (xs.length+ys.length<=aX,{st with t:=put d (.row sz k (xs.length+ys.length)) st.t,e:=cx k ⟨xs.length+ys.length,el,sz,some (xs++ys)⟩ st.e})
  |none=>none
 | .mkmap d _=>some (True,{t:=put d (.gmap κ) st.t,b:=cx κ [.hdm 0 []] st.b,e:=st.e,n:=n',o:=o'})
 | .mput bO x k v=>match bA st.t x with
  | .gmap m=>match look m st.b with
   |some cs=>match qg bO (bA st.t k) (bA st.t v) cs with
    |some cs'=>some (True,{st with b:=cx m cs' st.b})
    |none=>none
   |none=>none
  |_=>none
 | .range d _ x=>match bA st.t x with
  | .gmap m=>match look m st.b with
   |some cs=>match wD m cs with
    |some cs'=>some (True,{t:=put d (.ptr κ 0) st.t,b:=cx κ cs' st.b,e:=st.e,n:=n',o:=o'})
    |none=>none
   |none=>none
  |_=>none
 | .v d i=>match fx st i with
  |some (c,p)=>some (c,{st with t:=put d p st.t})
  |none=>none
 | .storeE sz x y=>nx st sz (bA st.t x) (bA st.t y)
 | .apps d el x y=>vb st d el (bA st.t x) (bA st.t y)
 | .box d _ x=>some (dE (bA st.t x)=true,{t:=put d (.ptr κ 0) st.t,b:=cx κ (cells (bA st.t x)) st.b,e:=st.e,n:=n',o:=o'})
 | .alloc d _ z=>some (True,{t:=put d (.ptr κ 0) st.t,b:=cx κ (cells z) st.b,e:=st.e,n:=n',o:=o'})
 | .store sz x y=>match bA st.t x with
  | .ptr k off=>match look k st.b with
   |some cs=>some (gH cs=true/\dE (bA st.t y)=true/\(cells (bA st.t y)).length=sz/\off+sz<=cs.length,{st with b:=cx k (lq cs off (cells (bA st.t y))) st.b})
   |none=>none
  |p=>nx st sz p (bA st.t y)
 | .bsl d sz el xs=>some (nI sz (xs.map (bA st.t)),
   {st with t:=put d (.slice sz (.own κ) (xs.map (bA st.t))) st.t,e:=cx κ ⟨xs.length,el,sz,none⟩ st.e,n:=n',o:=o'})
 | .app d sz el x y=>match bA st.t x,bA st.t y with
  | .slice cJ tag xs,.slice hs _ ys=>if cJ=sz/\hs=sz then
    match tag with
    | .own k=>match look k st.e with
     |some o=>some (o.n=xs.length/\o.el=el/\o.sz=sz/\xs.length+ys.length<=aX,
       {st with t:=put d (.slice sz (.own k) (xs++ys)) st.t,e:=cx k ⟨xs.length+ys.length,el,sz,none⟩ st.e})
     |none=>none
    | .nil=>some (ys.length<=aX,{st with t:=put d (.slice sz (.own κ) ys) st.t,e:=cx κ ⟨ys.length,el,sz,none⟩ st.e,n:=n',o:=o'})
    |_=>none
   else none
  |_,_=>none
def rq:Nat->List ct->List (Nat×Operand)->Bool
 |_,[],[]=>true
 |i,x::xs,(j,o)::os=>i==j&&db x o&&rq (i+1) xs os
 |_,_,_=>false
def df.bok(κ:aw):df->Prop
 | .mkmap _ _| .range _ _ _=>κ≠ .obj 861
 | .alloc _ key _| .box _ key _=>κ= .obj 861->key=some 861
 |_=>True
theorem yL{st:a6}{key:bf Nat}(h:hk st key= .obj 861):key=some 861:=by cases key<;>simp[hk]at h⊢;exact h
def nu(N:Nat)(bc:List (Nat×cR))(i:df)(o:Oper):Bool:=
 match i,o.op with
 | .mkmap d key,.makeMap _ none=>o.dst==some d&&decide (d<N)&&key !=some 861
 | .mput bO x k v,.mapUpdate t jW iC ln=>o.dst==none&&(match cX bc t with|some ⟨_,_,.map kf _,_⟩=>sB bc bO kf|_=>false)&&db x jW&&db k iC&&db v ln
 | .mput bO x k v,.insert t jW iC ln=>o.dst==none&&(match cX bc t with|some ⟨_,_,.map kf _,_⟩=>sB bc bO kf|_=>false)&&db x jW&&db k iC&&db v ln
 | .range d key x,.range t jW=>o.dst==some d&&decide (d<N)&&(match cX bc t with|some ⟨_,_,.map _ _,_⟩=>true|_=>false)&&db x jW&&key !=some 861
 | .v d i,op=>o.dst==some d&&decide (d<N)&&wS bc i op
 | .box d key x,.box el o'=>o.dst==some d&&decide (d<N)&&db x o'&&(key !=some 861||el==wR)
 | .alloc d key z,.alloc el=>o.dst==some d&&decide (d<N)&&(match cX bc el with|some f=>uY z f.zero|none=>false)&&(key !=some 861||el==wR)
 | .store sz x y,.store t o' fU=>o.dst==none&&(match cX bc t with|some f=>f.size==sz|none=>false)&&db x o'&&db y fU
 | .bsl d sz el xs,.buildSlice t len parts=>o.dst==some d&&decide (d<N)&&(match cX bc t with|some ⟨_,_,.slice dU,_⟩=>el==dU|_=>false)&&(match cX bc el with|some f=>f.size==sz&&decide (0<sz)|none=>false)
   &&len==xs.length&&decide (len*sz<=16777216)&&rq 0 xs parts.toList
 | .app d sz el x y,.call ⟨.builtin .append,⟨[o',fU]⟩,⟨[t,ek]⟩⟩=>o.dst==some d&&decide (d<N)&&t==ek&&(match cX bc t with|some ⟨_,_,.slice dU,_⟩=>el==dU|_=>false)
   &&(match cX bc el with|some f=>f.size==sz&&decide (0<sz)&&decide (f.bytes<=2048)|none=>false)&&db x o'&&db y fU
 | .bslm d _ sz el xs,.buildSlice t len parts=>o.dst==some d&&decide (d<N)&&(match cX bc t with|some ⟨_,_,.slice dU,_⟩=>el==dU|_=>false)&&(match cX bc el with|some f=>f.size==sz&&decide (0<sz)|none=>false)
   &&len==xs.length&&decide (len*sz<=16777216)&&rq 0 xs parts.toList
 | .appm d _ sz el x y,.call ⟨.builtin .append,⟨[o',fU]⟩,⟨[t,ek]⟩⟩=>o.dst==some d&&decide (d<N)&&t==ek&&(match cX bc t with|some ⟨_,_,.slice dU,_⟩=>el==dU|_=>false)
   &&(match cX bc el with|some f=>f.size==sz&&decide (0<sz)&&decide (f.bytes<=2048)|none=>false)&&db x o'&&db y fU
 | .storeE sz x y,.store t o' fU=>o.dst==none&&(match cX bc t with|some f=>f.size==sz|none=>false)&&db x o'&&db y fU
 | .apps d el x y,.call ⟨.builtin .append,⟨[o',fU]⟩,⟨[t,ek]⟩⟩=>o.dst==some d&&decide (d<N)&&(match cX bc t with|some ⟨_,_,.slice dU,_⟩=>el==dU|_=>false)&&(match cX bc ek with|some ⟨_,_,.str,_⟩=>true|_=>false)
   &&(match cX bc el with|some f=>f.size==1&&decide (f.bytes<=2048)|none=>false)&&db x o'&&db y fU
 | .mks d _ sz el z x,.makeSlice t o' fU=>o.dst==some d&&decide (d<N)&&(match cX bc t with|some ⟨_,_,.slice dU,_⟩=>el==dU|_=>false)
   &&(match cX bc el with|some f=>f.size==sz&&decide (0<sz)&&decide (f.bytes<=2048)&&uY z f.zero|none=>false)&&db x o'&&db x fU
 |_,_=>false
theorem IQ{w:World}{ν:aM}{C:dM}{st:a6}{a:Act}(ao:bX C st a w ν){sz:Nat}:
  ∀(xs:List ct) (i:Nat) (os:List (Nat×Operand)) (pre:List ae) (us:Array Value) (vs:List Value),rq i xs os=true->nI sz (xs.map (bA st.t))->us.toList.take (i*sz)=vs->cf w ν sz pre vs->i=pre.length->us.size=(i+xs.length)*sz->
  ∃bh:Array Value,Instr.fill (fun i=>some (i*sz,sz)) us (os.map fun(x:Nat×Operand)=>(x.1,a.eval x.2))=some bh/\cf w ν sz (pre++xs.map (bA st.t)) bh.toList/\bh.size=us.size
 |[],i,[],pre,us,vs,_,_,ba,h,aq,al=>by refine⟨us,by simp[Instr.fill],?_,rfl⟩;have aA:=nr h;have:us.toList.take (i*sz)=us.toList:=List.take_of_length_le (by simp at al⊢;omega);rw[this]at ba;simpa[ba]using h
 |[],_,_::_,_,_,_,fw,_,_,_,_,_=>by simp[rq]at fw
 |_::_,_,[],_,_,_,fw,_,_,_,_,_=>by simp[rq]at fw
 |x::xs,i,(j,o)::os,pre,us,vs,fw,bU,ba,h,aq,al=>by
  simp only[rq,bE,cD]at fw;obtain⟨⟨rfl,I⟩,J⟩:=fw;simp only[ez,nI]at bU;obtain⟨⟨A6,hlen⟩,bU⟩:=bU;have ab:=dc ao I;have j8:=qn ab A6;have tN:=lW j8;have cA:(a.eval o).cells.size=sz:=by rw[hlen]at tN;simpa using tN
  have hmul:i*sz+sz<=us.size:=by rw[al,hy,show i+(xs.length+1)=(i+1)+xs.length from by omega,Nat.add_mul,Nat.succ_mul];omega
  have vT:=Am (w:=w) (ν:=ν) (a.eval o).cells.toList 0 (i*sz) us (by simp[cA];omega);have n7:cf w ν sz (pre++[bA st.t x]) (vs++(a.eval o).cells.toList):=by refine uC h ?_;simp only[cf];exact⟨a.eval o,[],Ψ,⟨ab,cA,uF j8⟩,rfl⟩
  have nk:vs.length=i*sz:=by rw[<-ba];simp;omega
  obtain⟨bh,g1,g2,g3⟩:=IQ ao xs (i+1) os (pre++[bA st.t x]) (((a.eval o).cells.toList.zipIdx 0).foldl (fun cs (x:Value×Nat)=>cs.setIfInBounds (i*sz+x.2) x.1) us) (vs++(a.eval o).cells.toList) J bU
   (by
    rw[vT];simp only[Nat.add_zero];rw[ba];have:(vs++(a.eval o).cells.toList).length=(i+1)*sz:=by rw[dh,nk,Nat.succ_mul];simp[cA]
    rw[<-this,List.take_append_of_le_length (c7 _),jY]) n7 (by simp[aq])
   (by have a1:=fa List.length vT;simp only[Array.length_toList,dh,List.length_take,List.length_drop,cA]at a1;rw[a1,al,hy,show i+(xs.length+1)=i+1+xs.length from by omega];rw[al,hy,show i+(xs.length+1)=i+1+xs.length from by omega]at hmul;omega)
  refine⟨bh,?_,by simpa using g2,?_⟩
  ·simp only[ez,Instr.fill];rw[bu (by simp[cA];omega),<-g1];congr 1;rw[<-Array.foldl_toList];simp
  ·rw[g3];have a1:=fa List.length vT;simp only[Array.length_toList,dh,List.length_take,List.length_drop,cA]at a1;rw[a1];omega
theorem Sy{P:bM}(w:World)(t l1 ty e:eZ)(i:TypeInfo)(aG:P.underlying t=some (.slice e))(hu:P.underlying l1=some .string)(aq:P.info? e=some i)(xM:i.size=1)
  (g sT Cv:Nat) (cur:Array Value) (aT:w.heap[g]? =some (.cells cur e (0,0))) (s:iI) (kT:sT+s.size<=Cv) (OK:sT+s.size<=cur.size):
  (oz #[t,l1] ty #[.slice (some ⟨g,0,none⟩) sT Cv,.string s]).run P w=
   .ok (.slice (some ⟨g,0,none⟩) (sT+s.size) Cv) (w.setRow g (cur.toList.take sT++byteCells s++cur.toList.drop (sT+s.size)).toArray):=by
 have vU:=Src.ofString (P:=P) w hu s;have fS:=run_storeCells_at P g sT e (byteCells s) 0 cur w aT (by simpa[byteCells_length]using OK) vU.one;simp only[Nat.add_zero,byteCells_length]at fS;simp[oz,run_underlying aG,run_underlying hu,sizeOf,typeInfo,aq,xM,vU.len,kT,vU.cells,Addr.add_lit,fS]
theorem IM{P:bM}(w:World)(t l1 ty e:eZ)(i:TypeInfo)(z:Value)(aG:P.underlying t=some (.slice e))(hu:P.underlying l1=some .string)(aq:P.info? e=some i)(dS:i.zero=some z)(xM:i.size=1)(my:z.cells.size=1)
  (v:Value) (n:Nat) (xs:List Value) (iz:w.ownsRow 0 e 1 v n xs) (s:iI) (cap:Nat) (base:bf Addr) (ba:v= .slice base n cap) (nW:cap<n+s.size) (FZ:n+s.size<=maxLen) (kt:(n+s.size)*i.bytes<=140737488355328):
  ∃v' w',(oz #[t,l1] ty #[v,.string s]).run P w= .ok v' w'/\w'.ownsRow w.heap.size e 1 v' (n+s.size) (xs++byteCells s)/\w.grownBy w' none:=by
 subst ba;have vU:=Src.ofString (P:=P) w hu s;have h2:xs.length=n:=by simpa using iz.1
 have hold:(Builtin.firstCells i.size n (.slice base n cap)).run P w.drew= .ok xs.toArray w.drew:=by
  rw[xM];rcases iz.2 with⟨aj,rfl⟩|⟨g,tv,cur,aj,V4,aT,vK,tO,cA,Ba⟩
  ·injection aj with aj aR bm;subst aj;have:xs=[]:=pE h2;subst this;exact run_firstCells_none w.drew 1 0 0 cap
  ·have xq:=aj;injection aj with aj aR bm;subst aj;refine run_firstCells_some w.drew 1 n _ n cap xs Ω fun j u ai=>?_;have:=iz.cells (g:=g) rfl j u ai;simpa using this
 have ao:=run_append_grow_src (P:=P) w t l1 ty e i z aG aq dS base n cap xs hold (.string s) s.size (byteCells s) (by rw[xM];exact vU) nW (by simp only[maxLen]at FZ;omega) (growslice_fits Ω kt);have tR:=grownCap_ge w (n+s.size) cap e;have tO:grownCap w (n+s.size) cap e<=maxLen:=grownCap_le_maxLen w (n+s.size) cap e FZ;refine⟨_,_,ao,⟨by simp[byteCells_length,h2],.inr ⟨w.heap.size,_,_,rfl,c7 _,heap_alloc_new w.drew _,tR,tO,?_,?_⟩⟩,⟨rfl,rfl,rfl,Ψ,fun k aa _=>heap_alloc_old w.drew _ aa⟩⟩
 ·simp only[Array.size_append,List.size_toArray,size_zeroCells,my,dh,byteCells_length,h2];omega
 ·simp only[Array.toList_append,List.toList_toArray];rw[List.take_left' (by simp[byteCells_length,h2])]
theorem Cj(w:World)(ν:aM):∀s:List bt,cf w ν 1 (e1 s) (s.map fun c=>kY .u8 c.toNat)
 |[]=>by simp[e1,cf]
 |c::s=>by have:=Cj w ν s;simp only[e1,ez,cf]at this⊢;exact⟨.int .u8 c.toNat,_,rfl,⟨by simp[aJ],rfl,by intro x ab;simp[km]at ab;subst ab;rfl⟩,this⟩
theorem iH{P:bM}{o:Oper}{a:Act}{w w':World}{v:Value}{K:Act->World->Prop}{Q:Exit->Act->World->Prop}(h:(execOp a.eval o).run P w= .ok (.value v) w')(aa:K (a.put o.dst v) w'):o.wp P a w K Q:=by unfold Oper.wp;rw[h];exact aa
theorem wZ{P:bM}{o:Oper}{a:Act}{w w':World}{K:Act->World->Prop}{Q:Exit->Act->World->Prop}(h:(execOp a.eval o).run P w= .ok .skip w')(aa:K (a.put o.dst undef) w'):o.wp P a w K Q:=by unfold Oper.wp;rw[h];exact aa
theorem wT{P:bM}{w w':World}{x:Sem Value}{v:Value}(h:x.run P w= .ok v w'):(do pure (Next.value (<-x)):Sem Next).run P w= .ok (.value v) w':=by simp[h]
theorem IN{P:bM}{bc:List (Nat×cR)}(aG:fm P bc=true){C:dM}{st:a6}{a:Act}{w:World}{ν:aM}(ao:bX C st a w ν){t el:Nat}{f g:cR}(av:cX bc t=some f)(aa:f.kind= .slice el)(aT:cX bc el=some g)
  {xs:List ct} {os:List (Nat×Operand)} (fw:rq 0 xs os=true) (dR:nI g.size (xs.map (bA st.t))) (hlen:xs.length*g.size<=16777216):
  ∃us:Array Value,(Instr.buildSlice t xs.length (os.map fun(x:Nat×Operand)=>(x.1,a.eval x.2)).toArray).run P w= .ok (.slice (some ⟨w.heap.size,0,none⟩) xs.length xs.length) (w.alloc (.cells us el))/\
   cf w ν g.size (xs.map (bA st.t)) us.toList/\us.size=xs.length*g.size:=by
 obtain⟨d,bj,ed⟩:=fV aG av;rw[aa]at ed;obtain rfl:=mZ ed;obtain⟨_,al⟩:=qw aG aT w;obtain⟨z,PI,Wo,Wp⟩:=CU aG aT w;have aS:¬xs.length*g.size>2 ^ 24:=Ω
 let init:Array Value:=if xs.length*g.size=0 then(Array.range (xs.length*g.size)).map ((#[]:Array Value)[· %(#[]:Array Value).size]!)else(Array.range (xs.length*g.size)).map (z.cells[· %z.cells.size]!)
 have Gj:init.size=xs.length*g.size:=by simp only[init];split<;>simp
 obtain⟨bh,g1,g2,g3⟩:=IQ (a:=a) ao xs 0 os [] init [] fw dR Ψ (by simp[cf]) rfl (by rw[Gj];simp);refine⟨bh,?_,by simpa using g2,by rw[g3,Gj]⟩;simp only[init]at g1;by_cases a1:xs.length*g.size=0
 ·rw[if_pos a1]at g1;rw[a1]at g1;have vt:¬(0:Nat)>2 ^ 24:=by decide
  simp only[Instr.buildSlice,ef,run_underlying bj,eo,al,if_false,eU,a1,if_true,vt,g1,newRow,run_newObj];rfl
 ·rw[bu a1]at g1;simp only[Instr.buildSlice,ef,run_underlying bj,eo,al,aS,if_false,eU,a1,PI,g1,newRow,run_newObj];rfl
theorem wi{P:bM}{w:World}{ν:aM}{bO:ib}{t:eZ}(bj:pG P bO t){k v:ae}{eG C5:Value}(aa:aJ w ν k eG)(ba:aJ w ν v C5):
  ∀(borns:List Nat) (kvs:List ae) (us:List Value) (i:Nat) (r:bf (List ae)),b4 w ν kvs us->kvs.length=2*borns.length->sG bO k v kvs=some r->
  match r with
  |none=>gC P w bO t eG (eE borns us) i none
  |some q9=> ∃j u bh e,gC P w bO t eG (eE borns us) i (some (i+j,u))/\b4 w ν q9 bh/\q9.length=kvs.length/\(eE borns us)[j]? =some e/\e.key=eG/\Instr.sameBits 10000 e.key eG=true/\eE borns bh=(eE borns us).modify j (fun e=>{e with key:=eG,val:=C5})
 |[],[],us,i,r,h,_,hm=>by simp only[sG]at hm;cases hm;simp only[b4]at h;subst h;simpa[eE]using gC.nil P w bO t eG i
 |[],_::_,_,_,_,_,aA,_=>by simp at aA
 |b::dN,[],_,_,_,_,aA,_=>by simp at aA
 |b::dN,[_],_,_,_,_,aA,_=>by simp at aA;omega
 |b::dN,be::v'::kvs,us,i,r,h,aA,hm=>by
  simp only[b4]at h;obtain⟨h8,uN,rfl,I,hS,l3,rfl,J,ak⟩:=h;simp only[sG]at hm;simp only[eE];cases bP:q6 bO k be with
  |none=>simp[bP]at hm
  |some gr=>
   obtain⟨s1,s2⟩:=Ha bj aa I bP;simp only[bP]at hm;cases gr with
   |true=>simp only[dt]at hm;subst hm;obtain⟨rfl,Cu⟩:=s2 rfl;refine⟨0,hS,h8::C5::l3,⟨h8,hS,b⟩,gC.hit (e:=⟨h8,hS,b⟩) s1,?_,Ψ,Ψ,rfl,Cu,by simp[eE]⟩;simp only[b4];exact⟨_,_,rfl,aa,_,_,rfl,ba,ak⟩
   |false=>
    simp only at hm;have bb:=fun fK cO=>wi bj aa ba dN kvs l3 (i+1) fK ak (by simp at aA;omega) cO;split at hm
    ·rename_i fK cO;cases hm;obtain⟨j,u,bh,e,g1,g2,g3,g4,g5,g6,g7⟩:=bb _ cO;refine⟨j+1,u,h8::hS::bh,e,gC.miss (e:=⟨h8,hS,b⟩) s1 (by rw[show i+(j+1)=i+1+j from by omega];exact g1),?_,by simp[g3],by simpa using g4,g5,g6,by simp[eE,g7]⟩;simp only[b4];exact⟨_,_,rfl,I,_,_,rfl,J,g2⟩
    ·rename_i cO;cases hm;exact gC.miss (e:=⟨h8,hS,b⟩) s1 (bb _ cO)
    ·cases hm
theorem z7:∀(borns:List Nat) (us:List Value) (b:Nat) (k v:Value),us.length=2*borns.length->eE (borns++[b]) (us++[k,v])=eE borns us++[⟨k,v,b⟩]
 |[],us,b,k,v,h=>by have:us=[]:=pE (by simpa using h);subst this;simp[eE]
 |fu::dN,[],b,k,v,h=>by simp at h
 |fu::dN,[_],b,k,v,h=>by simp at h;omega
 |fu::dN,be::v'::us,b,k,v,h=>by simp only[oA,eE,z7 dN us b k v (by simp at h;omega)]
theorem Co{w:World}{ν:aM}:∀{bD cI:List ae} {vs us:List Value},b4 w ν bD vs->b4 w ν cI us->b4 w ν (bD++cI) (vs++us)
 |[],cI,vs,us,h,bS=>by simp only[b4]at h;subst h;simpa using bS
 |p::bD,cI,vs,us,h,bS=>by simp only[b4]at h;obtain⟨u,bh,rfl,I,J⟩:=h;simp only[oA,b4];exact⟨u,_,rfl,I,Co J bS⟩
theorem y7{w:World}{ν:aM}:∀{bD:List ae} {vs:List Value},b4 w ν bD vs->vs.length=bD.length
 |[],vs,h=>by simp only[b4]at h;subst h;rfl
 |p::bD,vs,h=>by simp only[b4]at h;obtain⟨u,bh,rfl,_,J⟩:=h;simp[y7 J]
theorem wL{P:bM}{w:World}{r:Nat}{o o':Obj}(af:w.heap[r]? =some o)(aS:∀c e f,o≠ .cells c e f:=by simp):(setObj r o').run P w= .ok () {w with heap:=w.heap.setIfInBounds r o'}:=by simp only[setObj,Sem.run,af]
def df.makes(st:a6):df->Bool
 | .box _ _ _| .alloc _ _ _| .bsl _ _ _ _| .bslm _ _ _ _ _| .mkmap _ _| .range _ _ _| .mks _ _ _ _ _ _=>true
 | .appm _ _ _ _ x _=>match bA st.t x with
  | .slice _ .nil _=>true
  |_=>false
 | .app _ _ _ x _=>match bA st.t x with
  | .slice _ .nil _=>true
  |_=>false
 |_=>false
theorem bX.forgetRow{C:dM}{st:a6}{a:Act}{w:World}{ν:aM}(ao:bX C st a w ν){k:aw}{ow:da}(aa:look k st.e=some ow):bX C {st with e:=cx k ⟨ow.n,ow.el,ow.sz,none⟩ st.e} a w ν:=by
 have gT:∀g,(look g (cx k ⟨ow.n,ow.el,ow.sz,none⟩ st.e)).isSome->(look g st.e).isSome:=fun g aT=>by
  rw[hO]at aT;split at aT
  ·rename_i e;subst e;simp[aa]
  ·exact aT
 refine⟨⟨ao.good.alt,ao.good.box,ao.good.inj,fun g o aT=>?_,fun g du n n' v v' bl bQ a2=>ao.good.oinj g du n n' v v' bl (gT g bQ) (gT du a2),fun g j n v bl bQ=>ao.good.obx g j n v bl (gT g bQ),ao.good.one,fun bl af=>ao.good.otr bl (af.imp id (fun⟨g,n,v,bQ,a2⟩=>⟨g,n,v,gT g bQ,a2⟩))⟩,ao.fr,ao.defers,ao.size,ao.slot,ao.new,ao.ext,ao.obk⟩;simp only at aT;rw[hO]at aT;split at aT
 ·rename_i e;subst e;cases aT;obtain⟨v,us,bK,b6,cH,_⟩:=ao.good.own k ow aa;exact⟨v,us,bK,b6,cH,fun xs ab=>by cases ab⟩
 ·exact ao.good.own g o aT
theorem yS{w:World}{base el sz n:Nat}{v:Value}{us:List Value}(h:w.ownsRow base el sz v n us)(aS:0<n):∃b cap,v= .slice (some ⟨b,0,none⟩) n cap:=by
 rcases h.2 with⟨aj,aR⟩|⟨gr,cap,cur,f1,_⟩
 ·omega
 ·exact⟨_,_,f1⟩
theorem IA{w:World}{ν:aM}{sz:Nat}:∀{xs:List ae} {us:List Value} {i:Nat} {q hE:ae} {dZ:Value},cf w ν sz xs us->xs[i]? =some q->aJ w ν hE dZ->dZ.cells.size=sz->(∀c∈dZ.cells.toList,c.oneCell'=true)->cf w ν sz (xs.set i hE) (us.take (i*sz)++dZ.cells.toList++us.drop (i*sz+sz))
 |[],_,_,_,_,_,_,bP,_,_,_=>by simp at bP
 |x::xs,us,0,q,hE,dZ,h,bP,ao,al,ah=>by
  simp only[cf]at h;obtain⟨u,bh,rfl,⟨I,J,ak⟩,bn⟩:=h;have aA:u.cells.toList.length=sz:=by simpa using J
  simp only[List.set_cons_zero,cf];refine⟨dZ,bh,?_,⟨ao,al,ah⟩,bn⟩;simp[<-aA]
 |x::xs,us,i+1,q,hE,dZ,h,bP,ao,al,ah=>by
  simp only[cf]at h;obtain⟨u,bh,rfl,⟨I,J,ak⟩,bn⟩:=h;have aA:u.cells.toList.length=sz:=by simpa using J
  have bb:=IA bn (by simpa using bP) ao al ah;simp only[List.set_cons_succ,cf];refine⟨u,_,?_,⟨I,J,ak⟩,bb⟩;have e:(i+1)*sz+sz=u.cells.toList.length+(i*sz+sz):=by rw[aA,Nat.succ_mul];omega
  rw[Ji _ _ _ _ aA,e,<-List.drop_drop];simp
theorem Sx{w:World}{ν:aM}{q:ae}{v:Value}(bP:aJ w ν q v)(al:dE q=true){cs:List ae}{us:List Value}(aQ:bW w ν cs us){f:Nat}(av:f+us.length<=v.cells.size)(dI:us≠[]):
  ∃v',aJ w ν (lX q f cs) v'/\v'.cells.toList=v.cells.toList.take f++us++v.cells.toList.drop (f+us.length)/\v'.cells.size=v.cells.size/\∀c∈v'.cells.toList,c.oneCell'=true:=by
 have hlen:=lW aQ;have nT:=qn bP al;by_cases bU:∃dA,q= .agg dA
 ·obtain⟨dA,rfl⟩:=bU;simp only[aJ]at bP;obtain⟨vs,rfl,jR⟩:=bP;simp only[km]at av⊢;have ka:bW w ν (lq dA f cs) (vs.toList.take f++us++vs.toList.drop (f+us.length)):=by unfold lq;rw[hlen];exact sN (sN (wG f jR) aQ) (uE _ jR)
  refine⟨.agg (vs.toList.take f++us++vs.toList.drop (f+us.length)).toArray,by simp only[lX,aJ];exact⟨_,rfl,by simpa using ka⟩,by simp[km],?_,fun c ku=>?_⟩
  ·simp[km];omega
  ·exact uF ka c (by simpa[km]using ku)
 ·have tJ:∀cs,q≠ .agg cs:=fun cs e=>bU ⟨cs,e⟩;obtain⟨I,J⟩:=Cp bP al tJ;rw[J]at av⊢;match us,dI,aQ with
  |u::bh,_,aQ=>
   simp at av;obtain⟨rfl,rfl⟩:f=0/\bh=[]:=⟨Ω,List.length_eq_zero_iff.1 Ω⟩;match cs,aQ,hlen with
   |[c],aQ,_=>
    simp only[bW]at aQ;obtain⟨mM,dO,aj,⟨Ox,Gc⟩,_⟩:=aQ;cases aj;have hu:u.cells= #[u]:=by cases u<;>first|rfl|cases Gc
    have A1:lX q 0 [c]=c:=by cases q<;>first|rfl|exact absurd rfl (tJ _)
    rw[A1];refine⟨u,Ox,by simp[hu],by simp[hu],fun c ku=>?_⟩;rw[hu]at ku;simp at ku;subst ku;exact Gc
theorem SR{α:Type}(A us:List α)(a f sz N:Nat)(I:f+us.length<=sz)(J:a+sz<=N)(ak:N<=A.length):
  ((A.take (a+f)++us++A.drop (a+f+us.length)).toArray.toList).take N=(A.take N).take a++((((A.take N).drop a).take sz).take f++us++(((A.take N).drop a).take sz).drop (f+us.length))++(A.take N).drop (a+sz):=by
 have aj:(A.take N).take a++(((A.take N).drop a).take sz).take f=A.take (a+f):=by rw[List.take_take (i:=f),Nat.min_eq_left (show f<=sz by omega),<-List.take_add,List.take_take,Nat.min_eq_left Ω]
 have aR:(((A.take N).drop a).take sz).drop (f+us.length)++(A.take N).drop (a+sz)=(A.take N).drop (a+f+us.length):=by
  have aA:f+us.length<=(((A.take N).drop a).take sz).length:=by simp;omega
  have eb:(A.take N).drop (a+sz)=((A.take N).drop a).drop sz:=by rw[List.drop_drop]
  rw[eb,<-List.drop_append_of_le_length aA,List.take_append_drop,List.drop_drop];congr 1;omega
 have bm:(A.take N).drop (a+f+us.length)=(A.drop (a+f+us.length)).take (N-(a+f+us.length)):=by rw[List.drop_take]
 have aA:(A.take (a+f)++us).length=a+f+us.length:=by simp;omega
 simp only[List.append_assoc]at*;rw[aR,bm,<-List.append_assoc (List.take a _),aj];have gR:N=(A.take (a+f)++us).length+(N-(a+f+us.length)):=by rw[aA];omega
 rw[<-List.append_assoc,<-List.append_assoc];conv=>lhs;rw[gR,List.take_length_add_append]
theorem bX.storeRow{P:bM}{C:dM}{st:a6}{a:Act}{w:World}{ν:aM}(h:bX C st a w ν){k:aw}{n el sz:Nat}{xs:List ae}(aa:look k st.e=some ⟨n,el,sz,some xs⟩){i f:Nat}{u:Value}(ab:aJ w ν (.rptr sz k n i f) u){q:ae}(bP:xs[i]? =some q)(al:dE q=true)
  {cs:List ae} {us:List Value} (aQ:bW w ν cs us) (av:f+us.length<=(cells q).length) (dI:us≠[]):
  ∃bl off j4,u= .pointer (some ⟨bl,off,none⟩)/\(storeCells ⟨bl,off,none⟩ us).run P w= .ok () (w.setRow bl j4)/\∃ν',bX C {st with e:=cx k ⟨n,el,sz,some (xs.set i (lX q f cs))⟩ st.e} a (w.setRow bl j4) ν':=by
 simp only[aJ]at ab;obtain⟨_,aq,n',dZ,I,J,ak⟩:=ab;obtain⟨v,dO,bK,b6,cH,dd⟩:=h.good.own k _ aa;rw[I]at bK;simp only[dt,hz]at bK;obtain⟨rfl,rfl⟩:=bK;obtain⟨bl,af,rfl⟩:=ak rfl;obtain⟨cz,iQ,om⟩:=dd xs rfl;simp only at cz iQ;obtain⟨v,dr,eO,gO⟩:=y2 i iQ bP;have tN:=lW (qn dr al);have Pn:(cells q).length=sz:=by rw[<-tN];simpa using eO
 have xZ:f+us.length<=sz:=by rw[<-Pn];exact av
 have hmul:i*sz+sz<=n'*sz:=by have:=Nat.mul_le_mul_right sz (show i+1<=n' from aq);rwa[Nat.succ_mul]at this
 rcases b6.2 with⟨aj,aR⟩|⟨g,cap,cur,rfl,sb,AN,vK,tO,cA,Ba⟩
 ·rw[aj]at af;simp[kI]at af
 simp only[kI,dt]at af;subst af;simp only at Ba cA vK AN;have nW:n'*sz<=cur.size:=by rw[cA];exact Nat.mul_le_mul_right sz vK
 have fS:=run_storeCells_at P g (i*sz+f) el us 0 cur w AN Ω (uF aQ);simp only[Nat.add_zero]at fS;refine⟨g,i*sz+f,_,rfl,fS,?_⟩;generalize sc:(cur.toList.take (i*sz+f)++us++cur.toList.drop (i*sz+f+us.length)).toArray=j4;obtain⟨v',hr,gA,ru,RF⟩:=Sx dr al aQ (f:=f) (by rw[eO];exact xZ) dI;have jx:=IA iQ bP hr (by rw[ru,eO]) RF;have hlen:dO.length=n'*sz:=b6.1;have Pc:j4.toList.take (n'*sz)=dO.take (i*sz)++v'.cells.toList++dO.drop (i*sz+sz):=by rw[<-sc,gA,gO,<-Ba];exact SR cur.toList us (i*sz) f sz (n'*sz) xZ hmul (by simpa using nW)
 have Ow:j4.size=cap*sz:=by rw[<-sc,<-cA];simp;omega
 have Wh:(xs.set i (lX q f cs)).length=n':=by simp[cz]
 obtain⟨RG,_,_⟩:=h.setRowM (w':=w.setRow g j4) aa rfl I (bl:=g) rfl (v':= .slice (some ⟨g,0,none⟩) n' cap) rfl (xs':=xs.set i (lX q f cs)) (us:=dO.take (i*sz)++v'.cells.toList++dO.drop (i*sz+sz)) (.inl ⟨by simp[cz],rfl⟩) rfl rfl rfl (fun j ai=>setRow_other w g j j4 ai) (setRow_size w g j4)
  ⟨by rw[nr jx],.inr ⟨g,cap,j4,by simp[cz],Nat.zero_le _,setRow_heap w g cur j4 el _ AN,by simpa[cz]using vK,tO,Ow,by simpa[cz]using Pc⟩⟩ jx
 exact⟨_,by simpa[cz]using RG⟩
theorem Qp(z:Array Value)(n:Nat)(h:0<z.size):(madeCells z ((n+1)*z.size)).toList=z.toList++(madeCells z (n*z.size)).toList:=by
 apply List.ext_getElem?;intro j;rw[List.getElem?_append];have he:(n+1)*z.size=n*z.size+z.size:=by rw[Nat.add_mul,Nat.one_mul]
 simp only[madeCells,Array.getElem?_toList,Array.length_toList,Array.getElem?_map];by_cases ai:j<z.size
 ·rw[if_pos ai,Array.getElem?_range,if_pos Ω];simp[Nat.mod_eq_of_lt ai,ai]
 ·rw[bu ai,Array.getElem?_range,Array.getElem?_range];by_cases aa:j<n*z.size+z.size
  ·rw[if_pos Ω,if_pos Ω];simp only[Option.map_some];rw[<-Nat.mod_eq_sub_mod Ω]
  ·rw[bu Ω,bu Ω]
theorem Hu{w:World}{ν:aM}{p:ae}{z:Value}(ao:aJ w ν p z)(h:0<z.cells.size)(ah:∀c∈z.cells.toList,c.oneCell'=true):∀n,cf w ν z.cells.size (List.replicate n p) (madeCells z.cells (n*z.cells.size)).toList
 |0=>by simp[cf,madeCells]
 |n+1=>by rw[Qp _ _ h];simp only[List.replicate_succ,cf];exact⟨z,_,rfl,⟨ao,rfl,ah⟩,Hu ao h ah n⟩
theorem Dv{P:bM}{bc:List (Nat×cR)}(aG:fm P bc=true){C:dM}{st st':a6}{a:Act}{w:World}{ν:aM}(ao:bX C st a w ν){d el:Nat}{x y:ct}{o:Oper}(ah:nu C.N bc (.apps d el x y) o=true)
  {c:Prop} (he:vb st d el (bA st.t x) (bA st.t y)=some (c,st')) (aQ:c) {K:Act->World->Prop} {Q:Exit->Act->World->Prop} (cN:∀cy w' ν',bX C st' cy w' ν'->K cy w'):o.wp P a w K Q:=by
 obtain⟨dst,op,type,pos,after,guard⟩:=o;generalize aq:df.apps d el x y=i at ah;unfold nu at ah;dsimp only at ah;split at ah<;>first|(cases aq;done)|(cases ah;done)|skip
 rename_i o' fU t ek;cases aq;simp only[bE,cD,fY]at ah;obtain⟨⟨⟨⟨⟨⟨I,J⟩,aV⟩,al⟩,bn⟩,cb⟩,eC⟩:=ah;subst I;split at aV
 ·rename_i dU av;simp only[cD]at aV;subst aV;split at al
  ·rename_i xZ;split at bn
   ·rename_i g aT;simp only[bE,cD,fY]at bn;obtain⟨j9,p0⟩:=bn;have rx:=dc ao cb;have hF:=dc ao eC;have ih:∀v' w',(oz #[t,ek] type #[a.eval o',a.eval fU]).run P w= .ok v' w'->(execOp a.eval ⟨some d,.call ⟨.builtin .append,⟨[o',fU]⟩,⟨[t,ek]⟩⟩,type,pos,after,guard⟩).run P w= .ok (.value v') w':=by intro v' w' fQ;simp only[execOp,resolve,invoke,builtin,ef,eU,eo,List.map_toArray,ez,mS];rw[fQ];rfl
    obtain⟨dF,iu,z,aj,aR,bm,c1,gE,hI,na,k8⟩:=(pv aG aT).ex;obtain⟨dA,gx,ed⟩:=fV aG av;obtain rfl:=mZ ed;obtain⟨Vx,AF,OF⟩:=fV aG xZ;obtain rfl:=qE OF;have my:z.cells.size=1:=by rw[k8,j9]
    have qS:dF.size=1:=by rw[bm,j9]
    unfold vb at he;split at he
    ·rename_i sz k n s ab bG;split at he
     ·rename_i n' dU cJ xs aa;split at he
      ·rename_i nX;obtain⟨rfl,rfl,rfl,rfl⟩:=nX;cases he;rw[ab]at rx;rw[bG]at hF;simp only[aJ]at rx hF;obtain⟨⟨bx,oO,mO⟩,rxl,n0,mM,dr,eO,gO⟩:=rx;obtain⟨nz,kz⟩:=hF;obtain⟨v0,dO,bK,b6,cH,dd⟩:=ao.good.own k _ aa;rw[dr]at bK;simp only[dt,hz]at bK b6;obtain⟨rfl,rfl⟩:=bK;have kd:a.eval o'=mM:=gO rfl;obtain⟨cz,iQ,om⟩:=dd xs rfl;simp only at cz iQ;have ep:(⟨s.toArray⟩:iI).size=s.length:=by simp[JW]
       have vy:byteCells ⟨s.toArray⟩=s.map fun c=>kY .u8 c.toNat:=by simp[byteCells]
       have o7:dO.length=xs.length:=by rw[cz];simpa using b6.1
       have p1:cf w ν 1 (xs++e1 s) (dO++byteCells ⟨s.toArray⟩):=by rw[vy];exact uC iQ (Cj w ν s)
       have dQ:(e1 s).length=s.length:=by simp[e1]
       have kt:(xs.length+s.length)*dF.bytes<=140737488355328:=by
        have ks:dF.bytes<=2048:=by rw[c1];exact p0
        have oX:(xs.length+s.length)*dF.bytes<=(xs.length+s.length)*2048:=Nat.mul_le_mul_left _ ks;simp only[aX]at aQ;omega
       have kx:xs.length+s.length<=maxLen:=by simp only[aX]at aQ;simp only[maxLen];omega
       rw[nz,kd]at ih;have sj:∀(base:bf Addr) (cap:Nat),mM= .slice base xs.length cap->n0<=cap->cap<xs.length+s.length->(⟨some d,.call ⟨.builtin .append,⟨[o',fU]⟩,⟨[t,ek]⟩⟩,type,pos,after,guard⟩:Oper).wp P a w K Q:=by
        intro base cap hu vK nW;obtain⟨v',w',f1,f2,f3⟩:=IM (P:=P) w t ek type dU dF z gx AF aj hI qS my mM xs.length dO (by rw[cz];exact b6) ⟨s.toArray⟩ cap base hu (by rw[ep];exact nW) (by rw[ep];exact kx) (by rw[ep];exact kt);rw[ep]at f2;obtain⟨hr,gA⟩:=ao.newRowM (k:=k) (xs:=xs++e1 s) (el:=dU) (sz:=1) (.inr ⟨_,aa,by simp[dQ];omega⟩) f3 (by rw[dh,dQ];exact f2) p1 (by rw[dh,dQ];exact aQ) (n':=st.n) (o':=st.o)
         (fun j ai=>⟨ai,fun e=>by subst e;have:=(ao.new _ ai).2.1;rw[dr]at this;cases this⟩)
        refine iH (ih _ _ f1) (cN _ _ (ν.withOwn k (xs++e1 s).length v') ?_);have:=hr.put (d:=some d) (by simpa[gu]using J) (gA (by rw[dh,dQ];exact yS f2 Ω));simpa[eD,dQ]using this
       rcases b6.2 with⟨h6,qi⟩|⟨bl,cap,cur,h6,qi,qj,wA,wB,yV,ux⟩
       ·rw[<-kd,mO]at h6;cases h6
       ·have iA:mM.ownBlock=some bl:=by rw[h6];rfl
        by_cases kT:xs.length+s.length<=cap
        ·have f1:=Sy (P:=P) w t ek type dU dF gx AF aj qS bl xs.length cap cur qj ⟨s.toArray⟩ (by rw[ep];exact kT) (by rw[ep];omega);rw[ep]at f1;generalize v8:(cur.toList.take xs.length++byteCells ⟨s.toArray⟩++cur.toList.drop (xs.length+s.length)).toArray=jb at f1;have ka:(w.setRow bl jb).heap[bl]? =some (.cells jb dU (0,0)):=setRow_heap w bl cur jb dU _ qj;have qX:(byteCells ⟨s.toArray⟩).length=s.length:=by rw[byteCells_length,ep]
         have aA:(dO++byteCells ⟨s.toArray⟩).length=(xs++e1 s).length*1:=by rw[dh,o7,qX,dh,dQ,Nat.mul_one]
         have bn:cur.toList.take xs.length=dO:=by rw[cz];simpa using ux
         have A2:jb.size=cap*1:=by rw[<-v8];simp only[List.size_toArray,dh,List.length_take,List.length_drop,Array.length_toList,qX];omega
         have A3:jb.toList.take ((xs++e1 s).length*1)=dO++byteCells ⟨s.toArray⟩:=by rw[<-v8,bn,<-aA];exact List.take_left
         obtain⟨hr,_,gA⟩:=ao.setRowM (w':=w.setRow bl jb) aa rfl dr iA (v':= .slice (some ⟨bl,0,none⟩) (xs.length+s.length) cap) rfl (xs':=xs++e1 s) (us:=dO++byteCells ⟨s.toArray⟩)
          (by
           by_cases a1:s=[]
           ·subst a1;exact .inl ⟨by simp[e1,cz],by rw[h6];simp[cz]⟩
           ·exact .inr (by have:=oB.2 a1;simp[dQ];omega)) rfl rfl rfl (fun j ai=>setRow_other w bl j jb ai) (setRow_size w bl jb)
          ⟨aA,.inr ⟨bl,cap,jb,by simp[dQ],Nat.zero_le _,ka,by simpa[dQ]using kT,wB,A2,A3⟩⟩ p1
         replace gA:=gA (by simpa[dQ]using aQ);refine iH (v:= .slice (some ⟨bl,0,none⟩) (xs.length+s.length) cap) (w':=w.setRow bl jb) (ih _ _ ?_) (cN _ _ (ν.withOwn k (xs++e1 s).length (.slice (some ⟨bl,0,none⟩) (xs.length+s.length) cap)) ?_)
         ·rw[h6,<-cz];exact f1
         ·have:=hr.put (d:=some d) (by simpa[gu]using J) gA;simpa[eD,dQ]using this
        ·exact sj _ cap (by rw[h6,<-cz]) wA Ω
      ·cases he
     ·cases he
    ·rename_i sz xs s ab bG;split at he
     ·rename_i dR;obtain rfl:=dR;cases he;obtain⟨e5,er,nV⟩:=aQ;rw[ab]at rx;rw[bG]at hF;simp only[aJ]at rx hF;have kd:=rx.2.1 trivial;obtain⟨nz,kz⟩:=hF;have ep:(⟨s.toArray⟩:iI).size=s.length:=by simp[JW]
      have vy:byteCells ⟨s.toArray⟩=s.map fun c=>kY .u8 c.toNat:=by simp[byteCells]
      have p1:cf w ν 1 (e1 s) (byteCells ⟨s.toArray⟩):=by rw[vy];exact Cj w ν s
      have dQ:(e1 s).length=s.length:=by simp[e1]
      have eS:0<s.length:=oB.2 er;have kt:(0+s.length)*dF.bytes<=140737488355328:=by
       have ks:dF.bytes<=2048:=by rw[c1];exact p0
       have oX:(0+s.length)*dF.bytes<=(0+s.length)*2048:=Nat.mul_le_mul_left _ ks;simp only[aX]at nV;omega
      have kx:0+s.length<=maxLen:=by simp only[aX]at nV;simp only[maxLen];omega
      rw[nz,kd]at ih;obtain⟨v',w',f1,f2,f3⟩:=IM (P:=P) w t ek type el dF z gx AF aj hI qS my (.slice none 0 0) 0 [] ⟨rfl,.inl ⟨rfl,rfl⟩⟩ ⟨s.toArray⟩ 0 none rfl (by rw[ep];omega) (by rw[ep];exact kx) (by rw[ep];exact kt);rw[ep,Nat.zero_add,List.nil_append]at f2;have ml:fresh st.n st.o (.obj 862):=⟨trivial,e5⟩;obtain⟨hr,gA⟩:=ao.newRowM (k:= .obj 862) (xs:=e1 s) (el:=el) (sz:=1) (.inl (ao.new _ ml)) f3 (by rw[dQ];exact f2) p1 (by rw[dQ];exact nV) (n':=st.n) (o':= .obj 862::st.o)
       (fun j ai=>⟨⟨ai.1,fun h=>ai.2 (List.mem_cons_of_mem _ h)⟩,fun e=>by subst e;exact ai.2 Ψ⟩)
      refine iH (ih _ _ f1) (cN _ _ (ν.withOwn (.obj 862) (e1 s).length v') ?_);have:=hr.put (d:=some d) (by simpa[gu]using J) (gA (by rw[dQ];exact yS f2 eS));simpa[eD,dQ]using this
     ·cases he
    ·cases he
   ·cases bn
  ·cases al
 ·cases aV
theorem hR{P:bM}{bc:List (Nat×cR)}(aG:fm P bc=true){C:dM}{st st':a6}{a:Act}{w:World}{ν:aM}(ao:bX C st a w ν){i:df}{o:Oper}(ah:nu C.N bc i o=true)
  {κ:aw} {n':Nat} {o₁:List aw} (p3:i.makes st=true->fresh st.n st.o κ) (gU:i.makes st=true->∀j,fresh n' o₁ j->fresh st.n st.o j/\j≠κ) {c:Prop} (he:dx κ n' o₁ st i=some (c,st')) (aQ:c) {K:Act->World->Prop} {Q:Exit->Act->World->Prop} (cN:∀cy w' ν',bX C st' cy w' ν'->K cy w') (hB:i.bok κ:=by first|trivial|(intro h;cases h)):o.wp P a w K Q:=by
 obtain⟨dst,op,type,pos,after,guard⟩:=o;unfold nu at ah;dsimp only at ah;split at ah
 ·rename_i d key t;simp only[bE,cD,fY]at ah;obtain⟨⟨rfl,J⟩,_⟩:=ah;simp only[dx]at he;cases he;obtain⟨g1,g2⟩:=ao.newBox (ao.new _ (p3 rfl)) (gU rfl) (cs:=[.hdm 0 []]) (us:= #[]) ⟨0,fun e=>absurd e hB⟩ (by simp only[gB];exact⟨by simp[b4],⟨rfl,Ψ,Ψ⟩⟩);refine iH (v:= .map (some w.heap.size)) (w':=w.alloc (.map #[] 0)) ?_ (cN _ _ _ (g1.put (d:=some d) (by simpa[gu]using J) (p:= .gmap κ) ?_))
  ·simp only[execOp,Instr.makeMap,Option.map_none,ef,run_newObj,eo,eU];rfl
  ·simp[aJ,aM.withBox]
 ·rename_i bO x k v t jW iC ln;simp only[bE,cD]at ah;obtain⟨⟨⟨⟨rfl,I⟩,J⟩,ak⟩,aV⟩:=ah;have rx:=dc ao J;have qp:=dc ao ak;have sS:=dc ao aV;split at I
  ·rename_i sz iX kf lH z av;obtain⟨e3,hu,ed⟩:=fV aG av;have o1:e3= .map kf lH:=by cases e3<;>simp[jq]at ed;obtain⟨rfl,rfl⟩:=ed;rfl
   subst o1;have jM:=Br aG I;simp only[dx]at he;split at he
   ·rename_i m ab;rw[ab]at rx;simp only[aJ]at rx;obtain⟨bl,bH,bR⟩:=rx;split at he
    ·rename_i cs cA;split at he
     ·rename_i cs' hm;cases he;obtain⟨gP,us,el,bK,b6,cH,dd,cz⟩:=ao.good.box m cs cA;rw[bH]at bK;cases bK;unfold qg at hm;split at hm
      ·rename_i clock borns kvs;split at hm
       ·cases hm
       rename_i o5;simp only[hl]at dd;simp only[gB]at cz;have jv:=qs (P:=P) dd;have qO:=Cs (P:=P) (w:=w) jM false qp (by simpa using o5);have cM:bl<w.heap.size:=(Array.getElem?_eq_some_iff.1 dd).1;have kN:∀(o':Obj) (bh:Array Value) (dA:List ae),(Instr.mapUpdate t (a.eval jW) (a.eval iC) (a.eval ln)).run P w= .ok () {w with heap:=w.heap.setIfInBounds bl o'}->hl dA bh el.1=o'->gB w ν dA bh.toList->some dA=some cs'->
         (⟨none,.mapUpdate t jW iC ln,type,pos,after,guard⟩:Oper).wp P a w K Q:=by
        intro o' bh dA fQ vM jx gx;cases gx;refine wZ (w':={w with heap:=w.heap.setIfInBounds bl o'}) ?_ (cN _ _ _ (ao.setBox (w':={w with heap:=w.heap.setIfInBounds bl o'}) cA bH (us:=bh) (el:=el) rfl rfl rfl (fun j ai=>?_) Ψ ?_ jx).1)
        ·simp only[execOp,fQ,ef,eo,eU]
        ·exact Array.getElem?_setIfInBounds_ne (Ne.symm ai)
        ·rw[vM];simp[cM]
       split at hm
       ·rename_i q9 sp;obtain⟨j,u,bh,e,f1,f2,f3,f4,f5,f6,f7⟩:=wi jM qp sS borns kvs us.toList 0 _ cz.1 cz.2.len sp;refine kN (.map (eE borns bh).toArray clock) bh.toArray (.hdm clock borns::q9) ?_ (by simp[hl]) (by simp only[gB];exact⟨by simpa using f2,⟨by rw[f3];exact cz.2.len,cz.2.inc,cz.2.lt⟩⟩) hm;have A7:(Instr.keyThatStays (((eE borns us.toList).toArray[j]?.map (·.key)).getD (a.eval iC)) (a.eval iC)).run P w= .ok (a.eval iC) w:=by
         have:((eE borns us.toList).toArray[j]?.map (·.key)).getD (a.eval iC)=e.key:=by simp[f4]
         rw[this];simp[Instr.keyThatStays,f6]
        simp only[Nat.zero_add]at f1;simp only[Instr.mapUpdate,ef,run_underlying hu,eo,bR,jv,qO,f1.run jM,eU,A7,wL dd];rw[f7];simp
       ·rename_i sp;have f1:=wi jM qp sS borns kvs us.toList 0 _ cz.1 cz.2.len sp;simp only at f1;have ni:us.toList.length=2*borns.length:=by rw[y7 cz.1,cz.2.len]
        refine kN (.map ((eE borns us.toList).toArray.push ⟨a.eval iC,a.eval ln,clock⟩) (clock+1)) (us.toList++[a.eval iC,a.eval ln]).toArray (.hdm (clock+1) (borns++[clock])::(kvs++[bA st.t k,bA st.t v])) ?_ (by simp only[hl,z7 borns us.toList clock _ _ ni];simp) ?_ hm
        ·simp only[Instr.mapUpdate,ef,run_underlying hu,eo,bR,jv,qO,f1.run jM,eU,wL dd]
        ·simp only[gB];refine⟨Co cz.1 (by simp only[b4];exact⟨_,_,rfl,qp,_,_,rfl,sS,rfl⟩),⟨by simp[cz.2.len];omega,?_,?_⟩⟩
         ·rw[List.pairwise_append];exact⟨cz.2.inc,Ψ,fun x ab y bG=>by simp at bG;subst bG;exact cz.2.lt x ab⟩
         ·intro b af;rcases nD.1 af with af|af
          ·have:=cz.2.lt b af;omega
          ·simp at af;omega
       ·cases hm
      ·cases hm
     ·cases he
    ·cases he
   ·cases he
  ·cases I
 ·rename_i bO x k v t jW iC ln;simp only[bE,cD]at ah;obtain⟨⟨⟨⟨rfl,I⟩,J⟩,ak⟩,aV⟩:=ah;have rx:=dc ao J;have qp:=dc ao ak;have sS:=dc ao aV;split at I
  ·rename_i sz iX kf lH z av;obtain⟨e3,hu,ed⟩:=fV aG av;have o1:e3= .map kf lH:=by cases e3<;>simp[jq]at ed;obtain⟨rfl,rfl⟩:=ed;rfl
   subst o1;have jM:=Br aG I;simp only[dx]at he;split at he
   ·rename_i m ab;rw[ab]at rx;simp only[aJ]at rx;obtain⟨bl,bH,bR⟩:=rx;split at he
    ·rename_i cs cA;split at he
     ·rename_i cs' hm;cases he;obtain⟨gP,us,el,bK,b6,cH,dd,cz⟩:=ao.good.box m cs cA;rw[bH]at bK;cases bK;unfold qg at hm;split at hm
      ·rename_i clock borns kvs;split at hm
       ·cases hm
       rename_i o5;simp only[hl]at dd;simp only[gB]at cz;have jv:=qs (P:=P) dd;have qO:=Cs (P:=P) (w:=w) jM false qp (by simpa using o5);have cM:bl<w.heap.size:=(Array.getElem?_eq_some_iff.1 dd).1;have kN:∀(o':Obj) (bh:Array Value) (dA:List ae),(Instr.mapUpdate t (a.eval jW) (a.eval iC) (a.eval ln)).run P w= .ok () {w with heap:=w.heap.setIfInBounds bl o'}->hl dA bh el.1=o'->gB w ν dA bh.toList->some dA=some cs'->
         (⟨none,.mapUpdate t jW iC ln,type,pos,after,guard⟩:Oper).wp P a w K Q:=by
        intro o' bh dA fQ vM jx gx;cases gx;refine wZ (w':={w with heap:=w.heap.setIfInBounds bl o'}) ?_ (cN _ _ _ (ao.setBox (w':={w with heap:=w.heap.setIfInBounds bl o'}) cA bH (us:=bh) (el:=el) rfl rfl rfl (fun j ai=>?_) Ψ ?_ jx).1)
        ·simp only[execOp,fQ,ef,eo,eU]
        ·exact Array.getElem?_setIfInBounds_ne (Ne.symm ai)
        ·rw[vM];simp[cM]
       split at hm
       ·rename_i q9 sp;obtain⟨j,u,bh,e,f1,f2,f3,f4,f5,f6,f7⟩:=wi jM qp sS borns kvs us.toList 0 _ cz.1 cz.2.len sp;refine kN (.map (eE borns bh).toArray clock) bh.toArray (.hdm clock borns::q9) ?_ (by simp[hl]) (by simp only[gB];exact⟨by simpa using f2,⟨by rw[f3];exact cz.2.len,cz.2.inc,cz.2.lt⟩⟩) hm;have A7:(Instr.keyThatStays (((eE borns us.toList).toArray[j]?.map (·.key)).getD (a.eval iC)) (a.eval iC)).run P w= .ok (a.eval iC) w:=by
         have:((eE borns us.toList).toArray[j]?.map (·.key)).getD (a.eval iC)=e.key:=by simp[f4]
         rw[this];simp[Instr.keyThatStays,f6]
        simp only[Nat.zero_add]at f1;simp only[Instr.mapUpdate,ef,run_underlying hu,eo,bR,jv,qO,f1.run jM,eU,A7,wL dd];rw[f7];simp
       ·rename_i sp;have f1:=wi jM qp sS borns kvs us.toList 0 _ cz.1 cz.2.len sp;simp only at f1;have ni:us.toList.length=2*borns.length:=by rw[y7 cz.1,cz.2.len]
        refine kN (.map ((eE borns us.toList).toArray.push ⟨a.eval iC,a.eval ln,clock⟩) (clock+1)) (us.toList++[a.eval iC,a.eval ln]).toArray (.hdm (clock+1) (borns++[clock])::(kvs++[bA st.t k,bA st.t v])) ?_ (by simp only[hl,z7 borns us.toList clock _ _ ni];simp) ?_ hm
        ·simp only[Instr.mapUpdate,ef,run_underlying hu,eo,bR,jv,qO,f1.run jM,eU,wL dd]
        ·simp only[gB];refine⟨Co cz.1 (by simp only[b4];exact⟨_,_,rfl,qp,_,_,rfl,sS,rfl⟩),⟨by simp[cz.2.len];omega,?_,?_⟩⟩
         ·rw[List.pairwise_append];exact⟨cz.2.inc,Ψ,fun x ab y bG=>by simp at bG;subst bG;exact cz.2.lt x ab⟩
         ·intro b af;rcases nD.1 af with af|af
          ·have:=cz.2.lt b af;omega
          ·simp at af;omega
       ·cases hm
      ·cases hm
     ·cases he
    ·cases he
   ·cases he
  ·cases I
 ·rename_i d key x t jW;simp only[bE,cD,fY]at ah;obtain⟨⟨⟨⟨rfl,J⟩,I⟩,ak⟩,_⟩:=ah;have rx:=dc ao ak;split at I
  ·rename_i sz iX kf lH z av;obtain⟨e3,hu,ed⟩:=fV aG av;have o1:e3= .map kf lH:=by cases e3<;>simp[jq]at ed;obtain⟨rfl,rfl⟩:=ed;rfl
   subst o1;simp only[dx]at he;split at he
   ·rename_i m ab;rw[ab]at rx;have SB:=rx;simp only[aJ]at rx;obtain⟨bl,bH,bR⟩:=rx;split at he
    ·rename_i cs cA;split at he
     ·rename_i cs' hm;cases he;obtain⟨gP,us,el,bK,b6,cH,dd,cz⟩:=ao.good.box m cs cA;rw[bH]at bK;cases bK;unfold wD at hm;split at hm
      ·rename_i clock borns kvs;cases hm;simp only[hl]at dd;have jv:=qs (P:=P) dd;obtain⟨g1,g2⟩:=ao.newBox (ao.new _ (p3 rfl)) (gU rfl) (cs:=[.hdi clock [] clock,.gmap m]) (us:= #[a.eval jW]) ⟨0,fun e=>absurd e hB⟩ (by simp only[gB,b4];exact⟨_,_,rfl,SB,rfl⟩);have vM:hl [.hdi clock [] clock,.gmap m] #[a.eval jW] 0= .mapIter (some bl) clock #[] clock:=by simp[hl,bR]
       rw[vM]at g1 g2;refine iH (v:= .pointer (some ⟨w.heap.size,0,none⟩)) (w':=w.alloc (.mapIter (some bl) clock #[] clock)) ?_ (cN _ _ _ (g1.put (d:=some d) (by simpa[gu]using J) (p:= .ptr κ 0) g2))
       ·simp only[execOp];refine wT ?_;simp only[Instr.range,ef,run_underlying hu,eo,bR,jv,eU,run_newObj];rfl
      ·cases hm
     ·cases he
    ·cases he
   ·cases he
  ·cases I
 ·rename_i d YG;simp only[bE,cD,fY]at ah;obtain⟨⟨I,J⟩,ak⟩:=ah;subst I;simp only[dx]at he;split at he
  ·rename_i ho p ba;cases he;obtain⟨v,g1,g2⟩:=To (o:=⟨some d,op,type,pos,after,guard⟩) aG ao ak ba aQ;refine iH g1 (cN _ _ ν ?_);exact ao.put (d:=some d) (by simpa[gu]using J) g2
  ·cases he
 ·rename_i d key x el o';simp only[bE,cD,fY]at ah;obtain⟨⟨⟨I,J⟩,ak⟩,iZ⟩:=ah;subst I;simp only[dx]at he;cases he;have ab:=dc ao ak;have j8:=qn ab aQ;obtain⟨g1,g2⟩:=ao.newBox (ao.new _ (p3 rfl)) (gU rfl) ⟨el,fun e=>by have:=hB e;subst this;simpa using iZ⟩ (by rw[lT (sO j8)];exact j8);rw[mF (sO j8)]at g1 g2;refine iH (v:= .pointer (some ⟨w.heap.size,0,none⟩)) (w':=w.alloc (.cells (a.eval o').cells el)) ?_ (cN _ _ _ (g1.put (d:=some d) (by simpa[gu]using J) (p:= .ptr κ 0) ?_))
  ·simp only[execOp,Instr.box,newVar,newRow,ef,run_newObj,eo,eU];rfl
  ·simpa only[aJ]using g2
 ·rename_i d key z el;simp only[bE,cD,fY]at ah;obtain⟨⟨⟨I,J⟩,ak⟩,iZ⟩:=ah;subst I;simp only[dx]at he;cases he;split at ak
  ·rename_i f av;have dS:=Dd ak;obtain⟨bI,w3,z2,z3⟩:=CU aG av w;rw[<-dS]at z2;obtain⟨_,j8⟩:=Dc w ν z2;obtain⟨g1,g2⟩:=ao.newBox (ao.new _ (p3 rfl)) (gU rfl) ⟨el,fun e=>by have:=hB e;subst this;simpa using iZ⟩ (by rw[lT (sO j8)];exact j8);rw[mF (sO j8)]at g1 g2;refine iH (v:= .pointer (some ⟨w.heap.size,0,none⟩)) (w':=w.alloc (.cells bI.cells el)) ?_ (cN _ _ _ (g1.put (d:=some d) (by simpa[gu]using J) (p:= .ptr κ 0) ?_))
   ·simp only[execOp,Instr.alloc,newVar,newRow,ef,w3,run_newObj,eo,eU];rfl
   ·simpa only[aJ]using g2
  ·cases ak
 ·rename_i sz x y t o' fU;simp only[bE,cD]at ah;obtain⟨⟨⟨I,J⟩,ak⟩,aV⟩:=ah;subst I;split at J
  ·rename_i f av;simp only[cD]at J;simp only[dx]at he;split at he
   ·rename_i k off ab;split at he
    ·rename_i cs cA;cases he;obtain⟨c0,cp,c2,c3⟩:=aQ;have rx:=dc ao ak;rw[ab]at rx;simp only[aJ]at rx;obtain⟨bl,bH,bR⟩:=rx;have hF:=dc ao aV;have ql:=qn hF cp;have ot:=lW ql;obtain⟨gP,us,el,bK,b6,cH,dd,cz⟩:=ao.good.box k cs cA;rw[bH]at bK;cases bK;rw[mF c0]at dd;rw[lT c0]at cz;have aN:=lW cz;obtain⟨_,dR⟩:=qw aG av w;have qb:(a.eval fU).cells.size=sz:=by rw[c2]at ot;simpa using ot
     have fS:=run_storeCells_at (P:=P) bl off el.1 (a.eval fU).cells.toList 0 us w dd (by simp at aN⊢;omega) (uF ql);simp only[Nat.add_zero]at fS;refine wZ (w':=w.setRow bl (us.toList.take off++(a.eval fU).cells.toList++us.toList.drop (off+(a.eval fU).cells.toList.length)).toArray) ?_ (cN _ _ _ (ao.storeBox cA bH c0 ?_))
     ·simp only[execOp,Instr.storeAt,bR,Instr.sureAddr,storeVar,ef,eU,eo,dR,qb,J,ne_eq,not_true_eq_false,if_false,fS]
     ·simp only[lq];rw[ot];exact sN (sN (wG off cz) ql) (uE _ cz)
    ·cases he
   ·rename_i ab;generalize AZ:bA st.t x=px at he;unfold nx at he;split at he
    ·rename_i cJ k n i rZ;split at he
     ·rename_i n' el hs xs aa;split at he
      ·rename_i p8;obtain⟨rfl,rfl⟩:=p8;split at he
       ·rename_i q bP;cases he;obtain⟨c0,cp,c2,c3,c4⟩:=aQ;have rx:=dc ao ak;rw[AZ]at rx;have hF:=dc ao aV;have ql:=qn hF cp;have ot:=lW ql;obtain⟨_,dR⟩:=qw aG av w;have qb:(a.eval fU).cells.size=sz:=by rw[c2]at ot;simpa using ot
        obtain⟨bl,off,j4,vP,fS,ν',mu⟩:=ao.storeRow (P:=P) aa rx bP c0 ql (by simpa[qb]using c3) (fun e=>by have:=fa List.length e;simp[qb]at this;omega);refine wZ (w':=w.setRow bl j4) ?_ (cN _ _ _ mu);simp only[execOp,Instr.storeAt,vP,Instr.sureAddr,storeVar,ef,eU,eo,dR,qb,J,ne_eq,not_true_eq_false,if_false,fS]
       ·cases he
      ·cases he
     ·cases he
    ·cases he
  ·cases J
 ·rename_i d sz el xs t len parts;simp only[bE,cD,fY]at ah;obtain⟨⟨⟨⟨⟨⟨I,J⟩,ak⟩,aV⟩,bn⟩,cb⟩,eC⟩:=ah;subst I;subst bn;split at ak
  ·rename_i dU av;simp only[cD]at ak;subst ak;split at aV
   ·rename_i g aT;simp only[bE,cD,fY]at aV;obtain⟨rfl,eS⟩:=aV;simp only[dx]at he;cases he;obtain⟨us,g1,g2,g3⟩:=IN aG ao av rfl aT eC aQ cb;have iz:(w.alloc (.cells us el)).ownsRow w.heap.size el g.size (.slice (some ⟨w.heap.size,0,none⟩) xs.length xs.length) (xs.map (bA st.t)).length us.toList:=by
     refine⟨by simp[g3],.inr ⟨w.heap.size,xs.length,us,Ψ,c7 _,heap_alloc_new w _,Ψ,?_,g3,?_⟩⟩
     ·simp only[maxLen];have:xs.length<=xs.length*g.size:=Nat.le_mul_of_pos_right _ eS;omega
     ·rw[List.take_of_length_le];simp[g3]
    obtain⟨dr,eO⟩:=ao.newRow (k:=κ) (xs:=xs.map (bA st.t)) (.inl (ao.new _ (p3 rfl))) (World.grownBy_alloc w _ none) iz g2
     (by have:xs.length<=xs.length*g.size:=Nat.le_mul_of_pos_right _ eS;simp only[aX,kn];omega) (gU rfl)
    simp only[kn]at dr eO;refine iH (v:= .slice (some ⟨w.heap.size,0,none⟩) xs.length xs.length) (w':=w.alloc (.cells us el)) ?_ (cN _ _ _ (dr.put (d:=some d) (by simpa[gu]using J) (p:= .slice g.size (.own κ) (xs.map (bA st.t))) eO));have bB:(parts.map fun(x:Nat×Operand)=>(x.1,a.eval x.2))=(parts.toList.map fun(x:Nat×Operand)=>(x.1,a.eval x.2)).toArray:=by apply Array.ext';simp
    simp only[execOp];refine wT ?_;rw[<-g1];congr 2
   ·cases aV
  ·cases ak
 ·rename_i d sz el x y o' fU t ek;simp only[bE,cD,fY]at ah;obtain⟨⟨⟨⟨⟨⟨I,J⟩,ak⟩,aV⟩,bn⟩,cb⟩,eC⟩:=ah;subst I;subst ak;split at aV
  ·rename_i dU av;simp only[cD]at aV;subst aV;split at bn
   ·rename_i g aT;simp only[bE,cD,fY]at bn;obtain⟨⟨rfl,eS⟩,p0⟩:=bn;have rx:=dc ao cb;have hF:=dc ao eC;have ih:∀v' w',(oz #[t,t] type #[a.eval o',a.eval fU]).run P w= .ok v' w'->(execOp a.eval ⟨some d,.call ⟨.builtin .append,⟨[o',fU]⟩,⟨[t,t]⟩⟩,type,pos,after,guard⟩).run P w= .ok (.value v') w':=by intro v' w' fQ;simp only[execOp,resolve,invoke,builtin,ef,eU,eo,List.map_toArray,ez,mS];rw[fQ];rfl
    obtain⟨dF,iu,z,aj,aR,bm,c1,gE,hI,na,k8⟩:=(pv aG aT).ex;obtain⟨dA,gx,ed⟩:=fV aG av;obtain rfl:=mZ ed;simp only[dx]at he;split at he
    ·rename_i cJ tag xs hs iT ys ab bG;split at he
     ·rename_i ep;obtain⟨rfl,ep⟩:=ep;subst ep;rw[ab]at rx;rw[bG]at hF;simp only[aJ]at rx hF;obtain⟨⟨ax,oO,mO,cx1,⟨ES,ET⟩,cx4⟩,rxn,rxo,rxt⟩:=rx;obtain⟨⟨ay,jn,nz,cy1,⟨EU,EV⟩,cy4⟩,_⟩:=hF;split at he
      ·rename_i k;split at he
       ·rename_i ow aa;cases he;obtain⟨cp,c2,c3,c4⟩:=aQ;subst c2;obtain⟨n0,mM,dr,eO,gO⟩:=rxo k rfl;obtain⟨v0,dO,bK,b6,cH,_⟩:=ao.good.own k ow aa;rw[dr]at bK;simp only[dt,hz]at bK;obtain⟨rfl,rfl⟩:=bK;have kd:a.eval o'=mM:=gO cp.symm;by_cases gz:ys=[]
        ·subst gz;rw[nz,mO]at ih;have fQ:=za (P:=P) (w:=w) (ty:=type) gx aj ax xs.length oO cx1 ay jn;refine iH (ih _ _ (by simpa using fQ)) (cN _ _ ν ?_);have fS:{st with t:=put d (.slice ow.sz (.own k) (xs++[])) st.t,e:=cx k ⟨xs.length+([]:List ae).length,ow.el,ow.sz,none⟩ st.e}=({st with e:=cx k ⟨ow.n,ow.el,ow.sz,none⟩ st.e,t:=put d (.slice ow.sz (.own k) xs) st.t}:a6):=by simp[cp]
         rw[<-c3,fS];have mr:=ao.forgetRow aa;refine mr.put (d:=some d) (by simpa[gu]using J) (p:= .slice ow.sz (.own k) xs) ?_;simp only[aJ];rw[<-c3]at cx4;exact⟨⟨ax,oO,rfl,cx1,⟨ES,ET⟩,cx4⟩,fun e=>(by cases e),(fun g e=>by cases e;exact⟨_,_,dr,eO,fun e=>by rw[<-mO];exact gO e⟩),fun _ _ e=>(by cases e),fun _ e=>(by cases e)⟩
        ·have hyp:0<ys.length:=by cases ys<;>simp at gz⊢
         rcases cy4 with cy4|⟨iX,kE,fG,rfl,sF,j5⟩
         ·exact absurd cy4 gz
         ·have h1:=nr j5;have n4:∀j u,fG[j]? =some u->w.cell? ((⟨iX,kE,none⟩:Addr).add j)=some u:=fun j u ai=>by rw[k4];exact(qe sF ai).2
          have kt:(xs.length+ys.length)*dF.bytes<=140737488355328:=by
           have ks:dF.bytes<=2048:=by rw[c1];exact p0
           have oX:(xs.length+ys.length)*dF.bytes<=(xs.length+ys.length)*2048:=Nat.mul_le_mul_left _ ks;simp only[aX]at c4;omega
          have kx:xs.length+ys.length<=maxLen:=by simp only[aX]at c4;simp only[maxLen];omega
          rw[nz]at ih;have o7:dO.length=ow.n*ow.sz:=b6.1;have my:z.cells.size=dF.size:=by rw[k8,bm]
          have sj:(∀cur,dz->cur=(0:Nat))->(∃v' w',(oz #[t,t] type #[a.eval o',.slice (some ⟨iX,kE,none⟩) ys.length jn]).run P w= .ok v' w'/\w'.ownsRow w.heap.size ow.el dF.size v' (xs.length+ys.length) (dO++fG)/\w.grownBy w' none/\cf w ν dF.size xs dO)->
            (⟨some d,.call ⟨.builtin .append,⟨[o',fU]⟩,⟨[t,t]⟩⟩,type,pos,after,guard⟩:Oper).wp P a w K Q:=by
           intro _ ck;obtain⟨v',w',f1,f2,f3,f4⟩:=ck;have p1:cf w ν dF.size (xs++ys) (dO++fG):=uC f4 (by rw[bm];exact j5);obtain⟨hr,gA⟩:=ao.newRow (k:=k) (xs:=xs++ys) (.inr ⟨ow,aa,by rw[cp];simp;omega⟩) f3 (by simpa using f2) p1 (by simpa using c4) (n':=st.n) (o':=st.o)
            (fun j ai=>⟨ai,fun e=>by subst e;have:=(ao.new _ ai).2.1;rw[dr]at this;cases this⟩)
           refine iH (ih _ _ f1) (cN _ _ ((ν.withOwn k (xs++ys).length v').withRowOf k v' (xs++ys).length ((xs++ys).length*dF.size)) ?_);have:=hr.put (d:=some d) (by simpa[gu]using J) gA;simpa[bm,eD]using this
          rcases b6.2 with⟨h6,qi⟩|⟨bl,cap,cur,h6,qi,qj,wA,wB,yV,ux⟩
          ·
           have nl:xs=[]:=pE Ω;have Bc:dO=[]:=pE (by rw[o7,qi];simp);subst nl;subst Bc;refine sj (fun _ h=>h.elim) ?_;obtain⟨v',w',f1,f2,f3,_⟩:=run_append_own (P:=P) w w.heap.size t type ow.el dF z dF.size dF.bytes gx aj hI rfl rfl my (by rw[bm];exact eS) (.slice none 0 0) 0 [] (World.ownsRow_nil w _ _ _)
            ⟨iX,kE,none⟩ ys.length jn fG (by rw[h1,bm]) n4 (sM j5) (by simpa using kx) (by simpa using kt) (c7 _)
           refine⟨v',w',by rw[kd,h6];exact f1,by simpa using f2,by simpa[kI]using f3,by simp[cf]⟩
          ·have O0:ik w ν.A bl 0 dO/\cf w ν dF.size xs dO/\True:=by
            rw[kd,h6]at mO;rcases cx4 with cx4|⟨gr,XE,CY,f1,f2,f3⟩
            ·subst cx4;have:dO=[]:=pE (by rw[o7,cp];simp);subst this;exact⟨trivial,by simp[cf],trivial⟩
            ·subst f1;injection mO with vx1 vx2 vx3;injection vx1 with vx1;injection vx1 with vx1 vx4;subst vx1;subst vx4;have heq:CY=dO:=by
              apply List.ext_getElem?;intro j;have ni:CY.length=dO.length:=by rw[nr f3,o7,cp,c3]
              by_cases ai:j<CY.length
              ·have I:=(qe f2 (cB ai)).2;rw[Nat.zero_add]at I;have J:=b6.cells (g:=bl) (by rw[h6];rfl) j dO[j] (cB Ω);rw[k4,Nat.zero_add,I]at J;rw[cB ai,cB Ω];exact J
              ·rw[List.getElem?_eq_none Ω,List.getElem?_eq_none Ω]
             subst heq;exact⟨f2,by rw[bm];exact f3,trivial⟩
           obtain⟨dy,et,_⟩:=O0;by_cases kT:xs.length+ys.length<=cap
           ·have V7:cur.size=cap*ow.sz:=yV;have hmul:(xs.length+ys.length)*ow.sz<=cap*ow.sz:=Nat.mul_le_mul_right _ kT;rw[Nat.add_mul]at hmul;have f1:=run_append_room (P:=P) w t type ow.el dF gx aj bl xs.length cap cur qj ⟨iX,kE,none⟩ ys.length jn fG (by rw[h1,bm]) n4 (sM j5) kT (by rw[h1,bm,<-c3];omega);obtain⟨hr,gA⟩:=ao.inPlace aa (bl:=bl) (cap:=cap) (cur:=cur) (by rw[dr,<-h6]) qj wB yV (xs:=xs) (ys:=ys) (us:=dO) (ns:=fG) cp.symm ux (by rw[c3,<-bm];exact et) (by rw[c3];exact j5) hyp (by rw[cp];exact kT) c4;refine iH (v:= .slice (some ⟨bl,0,none⟩) (ow.n+ys.length) cap) (w':=w.setRow bl (dO++fG++cur.toList.drop (ow.n*ow.sz+fG.length)).toArray) (ih _ _ ?_)
             (cN _ _ (ν.withRowOf k (.slice (some ⟨bl,0,none⟩) (ow.n+ys.length) cap) (ow.n+ys.length) ((ow.n+ys.length)*ow.sz)) ?_)
            ·rw[kd,h6,cp,f1,<-ux,cp,c3,bm]
            ·have:=hr.put (d:=some d) (by simpa[gu]using J) gA;simpa[cp,c3,eD]using this
           ·refine sj (fun _ h=>h.elim) ?_;obtain⟨v',w',f1,f2,f3⟩:=run_append_arg_grows (P:=P) w t type ow.el dF z dF.size dF.bytes gx aj hI rfl rfl my (by rw[bm];exact eS) ⟨bl,0,none⟩ xs.length cap dO (by rw[o7,cp,c3,bm])
             (fun j u ai=>by rw[k4];exact(qe dy ai).2) ⟨iX,kE,none⟩ ys.length jn fG (by rw[h1,bm]) n4 Ω kx kt
            exact⟨v',w',by rw[kd,h6,cp];exact f1,f2,f3,et⟩
       ·cases he
      ·cases he;have x7:=rxn rfl;have nl:xs=[]:=by rw[x7]at mO;injection mO with _ aR;exact pE aR.symm
       subst nl;have sn:(df.app d g.size el x y).makes st=true:=by simp only[df.makes,ab]
       have my:z.cells.size=dF.size:=by rw[k8,bm]
       rw[nz,x7]at ih;have kN:∀(v':Value) (w':World) (fG:List Value),(oz #[t,t] type #[.slice none 0 0,.slice ay ys.length jn]).run P w= .ok v' w'->w'.ownsRow w.heap.size el g.size v' ys.length fG->w.grownBy w' none->cf w ν g.size ys fG->
         (⟨some d,.call ⟨.builtin .append,⟨[o',fU]⟩,⟨[t,t]⟩⟩,type,pos,after,guard⟩:Oper).wp P a w K Q:=by
        intro v' w' fG f1 f2 f3 f4;obtain⟨hr,gA⟩:=ao.newRow (k:=κ) (xs:=ys) (.inl (ao.new _ (p3 sn))) f3 f2 f4 aQ (gU sn);exact iH (ih _ _ f1) (cN _ _ _ (hr.put (d:=some d) (by simpa[gu]using J) gA))
       by_cases gz:ys=[]
       ·subst gz;exact kN _ w [] (za gx aj none 0 0 (c7 _) ay jn) (World.ownsRow_nil w _ _ _) (Ur w _) (by simp[cf])
       ·rcases cy4 with cy4|⟨iX,kE,fG,rfl,sF,j5⟩
        ·exact absurd cy4 gz
        ·have h1:=nr j5;have n4:∀j u,fG[j]? =some u->w.cell? ((⟨iX,kE,none⟩:Addr).add j)=some u:=fun j u ai=>by rw[k4];exact(qe sF ai).2
         have kt:ys.length*dF.bytes<=140737488355328:=by
          have I:dF.bytes<=2048:=by rw[c1];exact p0
          have J:ys.length*dF.bytes<=ys.length*2048:=Nat.mul_le_mul_left _ I;simp only[aX]at aQ;omega
         have kx:ys.length<=maxLen:=by simp only[aX]at aQ;simp only[maxLen];omega
         obtain⟨v',w',f1,f2,f3,_⟩:=run_append_own (P:=P) w w.heap.size t type el dF z dF.size dF.bytes gx aj hI rfl rfl my (by rw[bm];exact eS) (.slice none 0 0) 0 [] (World.ownsRow_nil w _ _ _)
          ⟨iX,kE,none⟩ ys.length jn fG (by rw[h1,bm]) n4 (sM j5) (by simpa using kx) (by simpa using kt) (c7 _)
         exact kN v' w' fG f1 (by rw[<-bm];simpa using f2) (by simpa[kI]using f3) j5
      ·cases he
     ·cases he
    ·cases he
   ·cases bn
  ·cases aV
 ·rename_i d key sz el xs t len parts;simp only[bE,cD,fY]at ah;obtain⟨⟨⟨⟨⟨⟨I,J⟩,ak⟩,aV⟩,bn⟩,cb⟩,eC⟩:=ah;subst I;subst bn;split at ak
  ·rename_i dU av;simp only[cD]at ak;subst ak;split at aV
   ·rename_i g aT;simp only[bE,cD,fY]at aV;obtain⟨rfl,eS⟩:=aV;simp only[dx]at he;cases he;obtain⟨us,g1,g2,g3⟩:=IN aG ao av rfl aT eC aQ cb;have iz:(w.alloc (.cells us el)).ownsRow w.heap.size el g.size (.slice (some ⟨w.heap.size,0,none⟩) xs.length xs.length) (xs.map (bA st.t)).length us.toList:=by
     refine⟨by simp[g3],.inr ⟨w.heap.size,xs.length,us,Ψ,c7 _,heap_alloc_new w _,Ψ,?_,g3,?_⟩⟩
     ·simp only[maxLen];have:xs.length<=xs.length*g.size:=Nat.le_mul_of_pos_right _ eS;omega
     ·rw[List.take_of_length_le];simp[g3]
    obtain⟨dr,eO⟩:=ao.newRowM (k:=κ) (xs:=xs.map (bA st.t)) (.inl (ao.new _ (p3 rfl))) (World.grownBy_alloc w _ none) iz g2
     (by have:xs.length<=xs.length*g.size:=Nat.le_mul_of_pos_right _ eS;simp only[aX,kn];omega) (gU rfl)
    simp only[kn]at dr eO;refine iH (v:= .slice (some ⟨w.heap.size,0,none⟩) xs.length xs.length) (w':=w.alloc (.cells us el)) ?_ (cN _ _ _ (dr.put (d:=some d) (by simpa[gu]using J) (p:= .row g.size κ xs.length) (eO ⟨_,_,rfl⟩)));have bB:(parts.map fun(x:Nat×Operand)=>(x.1,a.eval x.2))=(parts.toList.map fun(x:Nat×Operand)=>(x.1,a.eval x.2)).toArray:=by apply Array.ext';simp
    simp only[execOp];refine wT ?_;rw[<-g1];congr 2
   ·cases aV
  ·cases ak
 ·rename_i d key sz el x y o' fU t ek;simp only[bE,cD,fY]at ah;obtain⟨⟨⟨⟨⟨⟨I,J⟩,ak⟩,aV⟩,bn⟩,cb⟩,eC⟩:=ah;subst I;subst ak;split at aV
  ·rename_i dU av;simp only[cD]at aV;subst aV;split at bn
   ·rename_i g aT;simp only[bE,cD,fY]at bn;obtain⟨⟨rfl,eS⟩,p0⟩:=bn;have rx:=dc ao cb;have hF:=dc ao eC;have ih:∀v' w',(oz #[t,t] type #[a.eval o',a.eval fU]).run P w= .ok v' w'->(execOp a.eval ⟨some d,.call ⟨.builtin .append,⟨[o',fU]⟩,⟨[t,t]⟩⟩,type,pos,after,guard⟩).run P w= .ok (.value v') w':=by intro v' w' fQ;simp only[execOp,resolve,invoke,builtin,ef,eU,eo,List.map_toArray,ez,mS];rw[fQ];rfl
    obtain⟨dF,iu,z,aj,aR,bm,c1,gE,hI,na,k8⟩:=(pv aG aT).ex;obtain⟨dA,gx,ed⟩:=fV aG av;obtain rfl:=mZ ed;have my:z.cells.size=dF.size:=by rw[k8,bm]
    simp only[dx]at he;split at he
    ·
     rename_i ys ba;cases he;unfold oN at ba;split at ba
     ·rename_i cJ xs hs iT Um ab bG;split at ba
      ·rename_i ep;obtain⟨rfl,ep⟩:=ep;subst ep;cases ba;rw[ab]at rx;rw[bG]at hF;simp only[aJ]at rx hF;obtain⟨⟨ax,oO,mO,cx1,⟨ES,ET⟩,cx4⟩,rxn,rxo,rxt⟩:=rx;obtain⟨⟨ay,jn,nz,cy1,⟨EU,EV⟩,cy4⟩,_⟩:=hF;have x7:=rxn trivial;have sn:(df.appm d key g.size el x y).makes st=true:=by simp only[df.makes,ab]
       rw[nz,x7]at ih;have kN:∀(v':Value) (w':World) (fG:List Value),(oz #[t,t] type #[.slice none 0 0,.slice ay ys.length jn]).run P w= .ok v' w'->w'.ownsRow w.heap.size el g.size v' ys.length fG->w.grownBy w' none->cf w ν g.size ys fG->
         (⟨some d,.call ⟨.builtin .append,⟨[o',fU]⟩,⟨[t,t]⟩⟩,type,pos,after,guard⟩:Oper).wp P a w K Q:=by
        intro v' w' fG f1 f2 f3 f4;obtain⟨hr,gA⟩:=ao.newRowM (k:=κ) (xs:=ys) (.inl (ao.new _ (p3 sn))) f3 f2 f4 aQ.1 (gU sn);exact iH (ih _ _ f1) (cN _ _ _ (hr.put (d:=some d) (by simpa[gu]using J) (gA (yS f2 (by cases ys<;>simp at aQ⊢)))))
       by_cases gz:ys=[]
       ·subst gz;exact kN _ w [] (za gx aj none 0 0 (c7 _) ay jn) (World.ownsRow_nil w _ _ _) (Ur w _) (by simp[cf])
       ·rcases cy4 with cy4|⟨iX,kE,fG,rfl,sF,j5⟩
        ·exact absurd cy4 gz
        ·have h1:=nr j5;have n4:∀j u,fG[j]? =some u->w.cell? ((⟨iX,kE,none⟩:Addr).add j)=some u:=fun j u ai=>by rw[k4];exact(qe sF ai).2
         have kt:ys.length*dF.bytes<=140737488355328:=by
          have I:dF.bytes<=2048:=by rw[c1];exact p0
          have J:ys.length*dF.bytes<=ys.length*2048:=Nat.mul_le_mul_left _ I;simp only[aX]at aQ;omega
         have kx:ys.length<=maxLen:=by simp only[aX]at aQ;simp only[maxLen];omega
         obtain⟨v',w',f1,f2,f3,_⟩:=run_append_own (P:=P) w w.heap.size t type el dF z dF.size dF.bytes gx aj hI rfl rfl my (by rw[bm];exact eS) (.slice none 0 0) 0 [] (World.ownsRow_nil w _ _ _)
          ⟨iX,kE,none⟩ ys.length jn fG (by rw[h1,bm]) n4 (sM j5) (by simpa using kx) (by simpa using kt) (c7 _)
         exact kN v' w' fG f1 (by rw[<-bm];simpa using f2) (by simpa[kI]using f3) j5
      ·cases ba
     ·split at ba
      ·split at ba
       ·split at ba<;>cases ba
       ·cases ba
      ·cases ba
     ·cases ba
    ·
     rename_i k xs ys ba;cases he;unfold oN at ba;split at ba
     ·split at ba<;>cases ba
     ·rename_i cJ be n hs iT Um ab bG;split at ba
      ·rename_i ep;obtain⟨rfl,ep⟩:=ep;subst ep;split at ba
       ·rename_i n' dU rB xs' aa;split at ba
        ·rename_i nX;obtain⟨rfl,rfl,rfl⟩:=nX;cases ba;rw[ab]at rx;rw[bG]at hF;simp only[aJ]at rx hF;obtain⟨⟨bx,oO,mO⟩,rxl,n0,mM,dr,eO,gO⟩:=rx;obtain⟨⟨ay,jn,nz,cy1,⟨EU,EV⟩,cy4⟩,_⟩:=hF;obtain⟨v0,dO,bK,b6,cH,dd⟩:=ao.good.own k _ aa;rw[dr]at bK;simp only[dt,hz]at bK b6;obtain⟨rfl,rfl⟩:=bK;have kd:a.eval o'=mM:=gO rfl;obtain⟨cz,iQ,om⟩:=dd xs rfl;simp only at cz iQ;have o7:dO.length=xs.length*g.size:=by rw[cz];exact b6.1
         have h2:xs.length=n0:=cz;by_cases gz:ys=[]
         ·subst gz;rw[nz,mO]at ih;have j8:n0<=oO:=by
           rcases b6.2 with⟨h6,qi⟩|⟨bl,cap,cur,h6,qi,qj,wA,_⟩
           ·rw[qi];exact Nat.zero_le _
           ·rw[<-kd,mO]at h6;injection h6 with _ _ e;rw[e];exact wA
          have fQ:=za (P:=P) (w:=w) (ty:=type) gx aj (some ⟨bx,0,none⟩) n0 oO j8 ay jn;refine iH (ih _ _ (by simpa using fQ)) (cN _ _ ν ?_);have gT:∀du,look du (cx k ⟨n0,dU,g.size,some xs⟩ st.e)=look du st.e:=fun du=>by
           rw[hO];split
           ·rename_i e;subst e;rw[aa]
           ·rfl
          have mr:bX C {st with e:=cx k ⟨n0,dU,g.size,some xs⟩ st.e} a w ν:=
           ⟨⟨ao.good.alt,ao.good.box,ao.good.inj,fun g o aT=>ao.good.own g o (by rw[<-gT g];exact aT),fun g du n n' v v' bl bQ a2=>ao.good.oinj g du n n' v v' bl (by rw[<-gT g];exact bQ) (by rw[<-gT du];exact a2),
           fun g j n v bl bQ=>ao.good.obx g j n v bl (by rw[<-gT g];exact bQ),ao.good.one,fun bl af=>ao.good.otr bl (af.imp id (fun⟨g,n,v,bQ,a2⟩=>⟨g,n,v,by rw[<-gT g];exact bQ,a2⟩))⟩,ao.fr,ao.defers,ao.size,ao.slot,ao.new,ao.ext,ao.obk⟩
          have ak:=mr.put (d:=some d) (by simpa[gu]using J) (p:= .row g.size k n0) (v:= .slice (some ⟨bx,0,none⟩) n0 oO) (by simp only[aJ];exact⟨⟨_,_,rfl⟩,rxl,_,_,dr,c7 _,fun _=>by rw[<-mO];exact kd⟩)
          simpa[h2,eD]using ak
         ·have hyp:0<ys.length:=by cases ys<;>simp at gz⊢
          rcases cy4 with cy4|⟨iX,kE,fG,rfl,sF,j5⟩
          ·exact absurd cy4 gz
          ·have h1:=nr j5;have n4:∀j u,fG[j]? =some u->w.cell? ((⟨iX,kE,none⟩:Addr).add j)=some u:=fun j u ai=>by rw[k4];exact(qe sF ai).2
           have kt:(xs.length+ys.length)*dF.bytes<=140737488355328:=by
            have ks:dF.bytes<=2048:=by rw[c1];exact p0
            have oX:(xs.length+ys.length)*dF.bytes<=(xs.length+ys.length)*2048:=Nat.mul_le_mul_left _ ks;simp only[aX]at aQ;omega
           have kx:xs.length+ys.length<=maxLen:=by simp only[aX]at aQ;simp only[maxLen];omega
           have p1:cf w ν g.size (xs++ys) (dO++fG):=uC iQ j5;rw[nz,kd]at ih;have sj:(∃v' w',(oz #[t,t] type #[mM,.slice (some ⟨iX,kE,none⟩) ys.length jn]).run P w= .ok v' w'/\w'.ownsRow w.heap.size dU dF.size v' (xs.length+ys.length) (dO++fG)/\w.grownBy w' none)->
             (⟨some d,.call ⟨.builtin .append,⟨[o',fU]⟩,⟨[t,t]⟩⟩,type,pos,after,guard⟩:Oper).wp P a w K Q:=by
            intro ck;obtain⟨v',w',f1,f2,f3⟩:=ck;obtain⟨hr,gA⟩:=ao.newRowM (k:=k) (xs:=xs++ys) (el:=dU) (sz:=g.size) (.inr ⟨_,aa,by simp;omega⟩) f3 (by rw[<-bm];simpa using f2) p1 (by simpa using aQ) (n':=st.n) (o':=st.o)
             (fun j ai=>⟨ai,fun e=>by subst e;have:=(ao.new _ ai).2.1;rw[dr]at this;cases this⟩)
            refine iH (ih _ _ f1) (cN _ _ (ν.withOwn k (xs++ys).length v') ?_);have:=hr.put (d:=some d) (by simpa[gu]using J) (gA (by simpa using yS f2 Ω));simpa[eD]using this
           rcases b6.2 with⟨h6,qi⟩|⟨bl,cap,cur,h6,qi,qj,wA,wB,yV,ux⟩
           ·
            have nl:xs=[]:=pE Ω;have Bc:dO=[]:=pE (by rw[o7,nl];simp);subst nl;subst Bc;refine sj ?_;obtain⟨v',w',f1,f2,f3,_⟩:=run_append_own (P:=P) w w.heap.size t type dU dF z dF.size dF.bytes gx aj hI rfl rfl my (by rw[bm];exact eS) (.slice none 0 0) 0 [] (World.ownsRow_nil w _ _ _)
             ⟨iX,kE,none⟩ ys.length jn fG (by rw[h1,bm]) n4 (sM j5) (by simpa using kx) (by simpa using kt) (c7 _)
            exact⟨v',w',by rw[h6];exact f1,by simpa using f2,by simpa[kI]using f3⟩
           ·have iA:mM.ownBlock=some bl:=by rw[h6];rfl
            by_cases kT:xs.length+ys.length<=cap
            ·have hmul:(xs.length+ys.length)*g.size<=cap*g.size:=Nat.mul_le_mul_right _ kT;rw[Nat.add_mul]at hmul;have f1:=run_append_room (P:=P) w t type dU dF gx aj bl xs.length cap cur qj ⟨iX,kE,none⟩ ys.length jn fG (by rw[h1,bm]) n4 (sM j5) kT (by rw[h1,bm];omega);generalize v8:(cur.toList.take (xs.length*dF.size)++fG++cur.toList.drop (xs.length*dF.size+fG.length)).toArray=jb at f1;have ka:(w.setRow bl jb).heap[bl]? =some (.cells jb dU (0,0)):=setRow_heap w bl cur jb dU _ qj;have aA:(dO++fG).length=(xs++ys).length*g.size:=by rw[dh,o7,h1,dh,Nat.add_mul]
             have bn:cur.toList.take (xs.length*dF.size)=dO:=by rw[h2,bm];exact ux
             have A2:jb.size=cap*g.size:=by rw[<-v8];simp only[List.size_toArray,dh,List.length_take,List.length_drop,Array.length_toList];rw[bm];omega
             have A3:jb.toList.take ((xs++ys).length*g.size)=dO++fG:=by rw[<-v8,bn];simp only[<-aA];rw[List.take_append_of_le_length (c7 _),jY]
             obtain⟨hr,_,gA⟩:=ao.setRowM (w':=w.setRow bl jb) aa rfl dr iA (v':= .slice (some ⟨bl,0,none⟩) (xs.length+ys.length) cap) rfl (xs':=xs++ys) (us:=dO++fG) (.inr (by simp;omega)) rfl rfl rfl (fun j ai=>setRow_other w bl j jb ai) (setRow_size w bl jb)
              ⟨aA,.inr ⟨bl,cap,jb,Ψ,Nat.zero_le _,ka,by simpa using kT,wB,A2,A3⟩⟩ p1
             replace gA:=gA (by simpa using aQ);refine iH (v:= .slice (some ⟨bl,0,none⟩) (xs.length+ys.length) cap) (w':=w.setRow bl jb) (ih _ _ ?_) (cN _ _ (ν.withOwn k (xs++ys).length (.slice (some ⟨bl,0,none⟩) (xs.length+ys.length) cap)) ?_)
             ·rw[h6,<-h2];exact f1
             ·have:=hr.put (d:=some d) (by simpa[gu]using J) gA;simpa[eD]using this
            ·refine sj ?_;obtain⟨v',w',f1,f2,f3⟩:=run_append_arg_grows (P:=P) w t type dU dF z dF.size dF.bytes gx aj hI rfl rfl my (by rw[bm];exact eS) ⟨bl,0,none⟩ xs.length cap dO (by rw[o7,bm])
              (fun j u ai=>by have:=b6.cells iA j u ai;exact this) ⟨iX,kE,none⟩ ys.length jn fG (by rw[h1,bm]) n4 Ω kx kt
             exact⟨v',w',by rw[h6,<-h2];exact f1,f2,f3⟩
        ·cases ba
       ·cases ba
      ·cases ba
     ·cases ba
    ·cases he
   ·cases bn
  ·cases aV
 ·rename_i sz x y t o' fU;simp only[bE,cD]at ah;obtain⟨⟨⟨I,J⟩,ak⟩,aV⟩:=ah;subst I;split at J
  ·rename_i f av;simp only[cD]at J;simp only[dx]at he;generalize AZ:bA st.t x=px at he;unfold nx at he;split at he
   ·rename_i cJ k n i rZ;split at he
    ·rename_i n' el hs xs aa;split at he
     ·rename_i p8;obtain⟨rfl,rfl⟩:=p8;split at he
      ·rename_i q bP;cases he;obtain⟨c0,cp,c2,c3,c4⟩:=aQ;have rx:=dc ao ak;rw[AZ]at rx;have hF:=dc ao aV;have ql:=qn hF cp;have ot:=lW ql;obtain⟨_,dR⟩:=qw aG av w;have qb:(a.eval fU).cells.size=sz:=by rw[c2]at ot;simpa using ot
       obtain⟨bl,off,j4,vP,fS,ν',mu⟩:=ao.storeRow (P:=P) aa rx bP c0 ql (by simpa[qb]using c3) (fun e=>by have:=fa List.length e;simp[qb]at this;omega);refine wZ (w':=w.setRow bl j4) ?_ (cN _ _ _ mu);simp only[execOp,Instr.storeAt,vP,Instr.sureAddr,storeVar,ef,eU,eo,dR,qb,J,ne_eq,not_true_eq_false,if_false,fS]
      ·cases he
     ·cases he
    ·cases he
   ·cases he
  ·cases J
 ·rename_i d el x y o' fU t ek;exact Dv aG ao (d:=d) (el:=el) (x:=x) (y:=y) (by simpa only[nu]using ah) (by simpa only[dx]using he) aQ cN
 ·rename_i d key sz el z x t o' fU;simp only[bE,cD,fY]at ah;obtain⟨⟨⟨⟨⟨I,J⟩,ak⟩,aV⟩,bn⟩,cb⟩:=ah;subst I;split at ak
  ·rename_i dU av;simp only[cD]at ak;subst ak;split at aV
   ·rename_i g aT;simp only[bE,cD,fY]at aV;obtain⟨⟨⟨rfl,eS⟩,p0⟩,dS⟩:=aV;obtain rfl:=Dd dS;have rx:=dc ao bn;have hF:=dc ao cb;simp only[dx]at he;split at he
    ·rename_i fI n ab;cases he;obtain⟨p7,h1⟩:=aQ;obtain⟨m,rfl⟩:=Int.eq_ofNat_of_zero_le p7;rw[ab]at rx hF;simp only[aJ]at rx hF;obtain⟨dF,iu,bI,aj,aR,bm,c1,gE,hI,na,k8⟩:=(pv aG aT).ex;obtain⟨dA,gx,ed⟩:=fV aG av;obtain rfl:=mZ ed;have kx:m<=aX:=by simp only[aX]at h1⊢;omega
     have kt:dF.bytes*m<=281474976710656:=by have I:dF.bytes*m<=2048*m:=Nat.mul_le_mul_right _ Ω;simp only[aX]at kx;omega
     obtain⟨Pr,Gd⟩:=Dc w ν na;obtain⟨w',g1,g2,g3⟩:=run_make_full (P:=P) w w.heap.size t el dF bI dF.size gx aj hI rfl fI fI m kt (by simp only[maxLen];simp only[aX]at kx;omega) (c7 _);have iz:w'.ownsRow w.heap.size el g.size (.slice (some ⟨w.heap.size,0,none⟩) m m) (List.replicate m g.zero).length (madeCells bI.cells (m*bI.cells.size)).toList:=by rw[bm,<-k8]at g2;rw[List.length_replicate,<-k8];exact g2
     obtain⟨dr,eO⟩:=ao.newRowM (k:=κ) (xs:=List.replicate m g.zero) (.inl (ao.new _ (p3 rfl))) g3 iz (by rw[<-k8];exact Hu Pr Ω (uF Gd) m) (by simpa using kx) (gU rfl);simp only[List.length_replicate]at dr eO;simp only[Int.toNat_natCast]at cN;refine iH (v:= .slice (some ⟨w.heap.size,0,none⟩) m m) (w':=w') ?_ (cN _ _ _ (dr.put (d:=some d) (by simpa[gu]using J) (p:= .row g.size κ m) (eO ⟨_,_,rfl⟩)));simp only[execOp];refine wT ?_;rw[rx,hF];exact g1
    ·cases he
   ·cases aV
  ·cases ak
 ·cases ah
theorem DA{N:Nat}{bc:List (Nat×cR)}{d:Nat}{key:bf Nat}{o:Oper}(h:nu N bc (.mkmap d key) o=true):key≠some 861:=by
 rintro rfl;obtain⟨dst,op,type,pos,after,guard⟩:=o;generalize aq:df.mkmap d (some 861)=i at h;unfold nu at h;dsimp only at h;split at h<;>first|(cases aq;done)|(cases h;done)|skip
 cases aq;simp at h
theorem Km{N:Nat}{bc:List (Nat×cR)}{st:a6}{d:Nat}{key:bf Nat}{x:ct}{o:Oper}(h:nu N bc (.range d key x) o=true):hk st key≠ .obj 861:=by
 intro e;obtain rfl:=yL e;obtain⟨dst,op,type,pos,after,guard⟩:=o;generalize aq:df.range d (some 861) x=i at h;unfold nu at h;dsimp only at h;split at h<;>first|(cases aq;done)|(cases h;done)|skip
 cases aq;simp at h
theorem SE{P:bM}{bc:List (Nat×cR)}(aG:fm P bc=true){C:dM}{st st':a6}{a:Act}{w:World}{ν:aM}(ao:bX C st a w ν){i:df}{o:Oper}(ah:nu C.N bc i o=true)
  {c:Prop} (he:jE st i=some (c,st')) (aQ:c) {K:Act->World->Prop} {Q:Exit->Act->World->Prop} (cN:∀cy w' ν',bX C st' cy w' ν'->K cy w'):o.wp P a w K Q:=by
 have lg:mA st none->fresh st.n st.o (.loc st.n):=fun h=>rj (key:=none) h;have lK:∀j,fresh (st.n+1) st.o j->fresh st.n st.o j/\j≠ .loc st.n:=rk (key:=none);cases i with
 |v d i=>exact hR (κ:= .loc 0) (n':=0) (o₁:=[]) aG ao ah (fun h=>by simp[df.makes]at h) (fun h=>by simp[df.makes]at h) (by simpa only[jE,dx]using he) aQ cN
 |box d key x=>simp only[jE]at he;cases he;exact hR (κ:=hk st key) (n':=kB st key) (o₁:=kC st key) aG ao ah (fun _=>rj aQ.1) (fun _=>rk) (by simp only[dx]) aQ.2 cN (hB:=yL)
 |alloc d key z=>simp only[jE]at he;cases he;exact hR (κ:=hk st key) (n':=kB st key) (o₁:=kC st key) aG ao ah (fun _=>rj aQ) (fun _=>rk) (by simp only[dx]) trivial cN (hB:=yL)
 |mks d key sz el z x=>
  simp only[jE]at he;split at he
  ·rename_i fI n ab;cases he;exact hR (κ:=hk st key) (n':=kB st key) (o₁:=kC st key) aG ao ah (fun _=>rj aQ.1) (fun _=>rk) (by simp only[dx,ab]) aQ.2 cN
  ·cases he
 |apps d el x y=>exact Dv aG ao ah (by simpa only[jE]using he) aQ cN
 |storeE sz x y=>exact hR (κ:= .loc 0) (n':=0) (o₁:=[]) aG ao ah (fun h=>by simp[df.makes]at h) (fun h=>by simp[df.makes]at h) (by simpa only[jE,dx]using he) aQ cN
 |store sz x y=>exact hR (κ:= .loc 0) (n':=0) (o₁:=[]) aG ao ah (fun h=>by simp[df.makes]at h) (fun h=>by simp[df.makes]at h) (by simpa only[jE,dx]using he) aQ cN
 |bsl d sz el xs=>simp only[jE]at he;cases he;exact hR (κ:= .loc st.n) (n':=st.n+1) (o₁:=st.o) aG ao ah (fun _=>lg aQ.1) (fun _=>lK) (by simp only[dx]) aQ.2 cN
 |bslm d key sz el xs=>simp only[jE]at he;cases he;exact hR (κ:=hk st key) (n':=kB st key) (o₁:=kC st key) aG ao ah (fun _=>rj aQ.1) (fun _=>rk) (by simp only[dx]) aQ.2 cN
 |appm d key sz el x y=>
  simp only[jE]at he;split at he
  ·rename_i ys ba;cases he;exact hR (κ:=hk st key) (n':=kB st key) (o₁:=kC st key) aG ao ah (fun _=>rj aQ.1) (fun _=>rk) (by simp only[dx,ba]) aQ.2 cN
  ·rename_i k xs ys ba;cases he;refine hR (κ:= .loc 0) (n':=0) (o₁:=[]) aG ao ah (fun h=>?_) (fun h=>?_) (by simp only[dx,ba]) aQ cN;all_goals
    exfalso
    simp only[df.makes]at h
    split at h
    ·rename_i ab
     unfold oN at ba
     rw[ab]at ba
     split at ba
     ·split at ba<;>cases ba
     ·rename_i I _;cases I
     ·cases ba
    ·cases h
  ·cases he
 |mkmap d key=>simp only[jE]at he;cases he;exact hR (κ:=hk st key) (n':=kB st key) (o₁:=kC st key) aG ao ah (fun _=>rj aQ) (fun _=>rk) (by simp only[dx]) trivial cN (hB:=fun e=>DA ah (yL e))
 |mput bO x k v=>exact hR (κ:= .loc 0) (n':=0) (o₁:=[]) aG ao ah (fun h=>by simp[df.makes]at h) (fun h=>by simp[df.makes]at h) (by simpa only[jE,dx]using he) aQ cN
 |range d key x=>
  simp only[jE]at he;split at he
  ·rename_i m ab;split at he
   ·rename_i cs cA;split at he
    ·rename_i cs' hm;cases he;exact hR (κ:=hk st key) (n':=kB st key) (o₁:=kC st key) aG ao ah (fun _=>rj aQ) (fun _=>rk) (by simp only[dx,ab,cA,hm]) trivial cN (hB:=Km ah)
    ·cases he
   ·cases he
  ·cases he
 |app d sz el x y=>
  simp only[jE]at he;split at he
  ·rename_i cJ tag xs hs iT ys ab bG;split at he
   ·rename_i ep;split at he
    ·rename_i k;split at he
     ·rename_i ow aa;cases he;refine hR (κ:= .loc 0) (n':=0) (o₁:=[]) aG ao ah (fun h=>by simp[df.makes,ab]at h) (fun h=>by simp[df.makes,ab]at h) ?_ aQ cN;simp only[dx,ab,bG,ep,and_self,if_true,aa]
     ·cases he
    ·cases he;refine hR (κ:= .loc st.n) (n':=st.n+1) (o₁:=st.o) aG ao ah (fun _=>lg aQ.1) (fun _=>lK) ?_ aQ.2 cN;simp only[dx,ab,bG,ep,and_self,if_true]
    ·cases he
   ·cases he
  ·cases he
structure dH where
 b:List (aw×List ae)
 e:List (aw×da)
def fy(ν:aM)(s:dH)(bl:Nat):Prop:=(∃k,(look k s.b).isSome/\ν.bx k=some bl)\/(∃g n v,(look g s.e).isSome/\ν.ow g=some (n,v)/\v.ownBlock=some bl)
def oS(ν:aM)(s:dH):Prop:= ∀k,(look k s.b=none->ν.bx k=none)/\(look k s.e=none->ν.ow k=none)/\∀j b,¬ν.tr k j b
def fs(s:dH):List aw:=s.b.map (·.1)++s.e.map (·.1)
def hP(s:dH):Prop:=(∀m,look (.loc m) s.b=none)/\(∀m,look (.loc m) s.e=none)
def qy(P:bM)(f:FuncId)(vs:Array Value)(w:World)(R:Ending->World->Prop):Prop:=((∃fn,P.funcs[f]? =some fn/\fn.body.isSome=true/\(fn.name== "runtime.NumGoroutine")=false)/\Calls P f vs w R)\/ ∃v w',(callFunc f vs).run P w= .ok (.value v) w'/\R (.returned v) w'
def dP(P:bM)(f:FuncId)(args:List ae)(s:dH)(Q:ae->dH->Prop):Prop:=
 ∀(w:World) (ν:aM) (vs:Array Value) (gl:k0 w ν),Good (fy ν s) w ν s.b s.e->oS ν s->b4 w ν args vs.toList->
  qy P f vs w fun e w'=> ∃v r aE ν',e= .returned v/\Q r aE/\aJ w' ν' r v/\Good (fun bl=>fy ν s bl\/w.heap.size<=bl) w' ν' aE.b aE.e/\oS ν' aE/\hP aE/\oH ⟨w,ν,fy ν s,0,fs s,gl,[]⟩ w' ν'
def xz(κ:bf Nat)(ν:aM)(s:dH):Prop:= ∀k,(look k s.b=none->ν.bx k=none)/\(look k s.e=none->ν.ow k=none)/\∀j b,ν.tr k j b->∃m,κ=some m/\k= .loc m
theorem oS.k{ν:aM}{s:dH}(h:oS ν s):xz none ν s:=fun k=>⟨(h k).1,(h k).2.1,fun j b af=>absurd af ((h k).2.2 j b)⟩
def zt(P:bM)(f:FuncId)(κ:Nat)(args:List ae)(s:dH)(Q:ae->dH->Prop):Prop:=
 ∀(w:World) (ν:aM) (vs:Array Value) (gl:k0 w ν),Good (fy ν s) w ν s.b s.e->oS ν s->b4 w ν args vs.toList->
  qy P f vs w fun e w'=> ∃v r aE ν',e= .returned v/\Q r aE/\aJ w' ν' r v/\Good (fun bl=>fy ν s bl\/w.heap.size<=bl) w' ν' aE.b aE.e/\xz (some κ) ν' aE/\hP aE/\oH ⟨w,ν,fy ν s,0,fs s,gl,[]⟩ w' ν'
def bF(P:bM)(f:FuncId)(args:List ae)(r:ae):Prop:=dP P f args ⟨[],[]⟩ fun fK aE=>fK=r/\aE=⟨[],[]⟩
theorem re{α:Type}{k:aw}{x:α}:∀{l:List (aw×α)},look k l=some x->(k,x)∈l
 |[],h=>by simp[look]at h
 |(i,y)::r,h=>by
  simp only[look]at h;split at h
  ·rename_i e;subst e;cases h;simp
  ·exact List.mem_cons_of_mem _ (re h)
theorem ur{s:dH}{k:aw}(h:(look k s.b).isSome\/(look k s.e).isSome):k∈fs s:=by
 unfold fs;rcases h with h|h<;>obtain⟨x,ab⟩:=eK.1 h<;>have:=re ab
 ·exact nE _ (List.mem_map.2 ⟨_,this,rfl⟩)
 ·exact List.mem_append_right _ (List.mem_map.2 ⟨_,this,rfl⟩)
section
open Classical
noncomputable def aM.cut(ν:aM)(S:aw->Prop):aM:={A:=ν.A,bx:=fun k=>if S k then ν.bx k else none,ow:=fun k=>if S k then ν.ow k else none,tr:=fun k j b=>S k/\ν.tr k j b}
theorem aM.cut_bx{ν:aM}{S:aw->Prop}{k:aw}(h:S k):(ν.cut S).bx k=ν.bx k:=by simp[aM.cut,h]
theorem aM.cut_ow{ν:aM}{S:aw->Prop}{k:aw}(h:S k):(ν.cut S).ow k=ν.ow k:=by simp[aM.cut,h]
theorem aM.cut_no{ν:aM}{S:aw->Prop}{k:aw}(h:¬S k):(ν.cut S).bx k=none/\(ν.cut S).ow k=none/\∀j b,¬(ν.cut S).tr k j b:=by simp[aM.cut,h]
theorem aM.cut_some{ν:aM}{S:aw->Prop}{k:aw}{b:Nat}(h:(ν.cut S).bx k=some b):S k/\ν.bx k=some b:=by
 by_cases al:S k
 ·exact⟨al,by rw[aM.cut_bx al]at h;exact h⟩
 ·rw[(aM.cut_no al).1]at h;cases h
theorem aM.cut_someO{ν:aM}{S:aw->Prop}{k:aw}{b:Nat×Value}(h:(ν.cut S).ow k=some b):S k/\ν.ow k=some b:=by
 by_cases al:S k
 ·exact⟨al,by rw[aM.cut_ow al]at h;exact h⟩
 ·rw[(aM.cut_no al).2.1]at h;cases h
theorem k0.cut{w:World}{ν:aM}(h:k0 w ν)(S:aw->Prop):k0 w (ν.cut S):=h
theorem k2.cut(S:aw->Prop)(w:World)(ν:aM):k2 S w ν w (ν.cut S):=⟨fun _ _ h=>⟨h,rfl⟩,fun k b aa h=>by rw[aM.cut_bx aa];exact h,fun g n u aT h=>⟨n,u,by rw[aM.cut_ow aT];exact h,.inl ⟨rfl,rfl⟩⟩,fun _ _ _=>rfl,fun _ _ _ aa h=>⟨aa,h⟩⟩
end
def mI(S:aw->Prop)(fu b:List (aw×List ae)):Prop:= ∀k cs,look k fu=some cs->look k b=some cs/\S k/\aB S cs
def mJ(S:aw->Prop)(gD e:List (aw×da)):Prop:= ∀k o,look k gD=some o->look k e=some o/\S k/\dJ S o
theorem Good.cut{pr H5:Nat->Prop}{w:World}{ν:aM}{b fu:List (aw×List ae)}{e gD:List (aw×da)}(h:Good pr w ν b e){S:aw->Prop}(af:mI S fu b)(he:mJ S gD e)
  (GD:∀bl,pr bl->(∃k,(look k fu).isSome/\(ν.cut S).bx k=some bl)\/(∃g n v,(look g gD).isSome/\(ν.cut S).ow g=some (n,v)/\v.ownBlock=some bl)->H5 bl):Good H5 w (ν.cut S) fu gD:=by
 have pZ:∀k,(look k fu).isSome->(look k b).isSome/\S k:=fun k aa=>by obtain⟨cs,cA⟩:=eK.1 aa;have:=af k cs cA;exact⟨by simp[this.1],this.2.1⟩
 have xV:∀k,(look k gD).isSome->(look k e).isSome/\S k:=fun k aa=>by obtain⟨cs,cA⟩:=eK.1 aa;have:=he k cs cA;exact⟨by simp[this.1],this.2.1⟩
 refine⟨h.alt,fun k cs aa=>?_,fun k be bl I J ak aV=>?_,fun g o aT=>?_,fun g du n n' v v' bl I J ak aV bn cb=>?_,fun g k n v bl I J ak aV bn=>?_,fun k=>?_,fun bl aG k j ai=>?_⟩
 ·obtain⟨g1,g2,g3⟩:=af k cs aa;obtain⟨bl,us,el,f1,f2,f3,f4,f5⟩:=h.box k cs g1;have iM:(ν.cut S).bx k=some bl:=by rw[aM.cut_bx g2];exact f1
  exact⟨bl,us,el,iM,GD bl f2 (.inl ⟨k,by simp[aa],iM⟩),f3,f4,Iv (k2.cut S w ν) g3 f5⟩
 ·obtain⟨bQ,a2⟩:=pZ k I;obtain⟨bH,bR⟩:=pZ be J;exact h.inj k be bl bQ bH (aM.cut_some ak).2 (aM.cut_some aV).2
 ·obtain⟨g1,g2,g3⟩:=he g o aT;obtain⟨v,us,f1,f2,f3,f4⟩:=h.own g o g1;have kS:(ν.cut S).ow g=some (o.n,v):=by rw[aM.cut_ow g2];exact f1
  exact⟨v,us,kS,f2,fun bl dQ=>⟨GD bl (f3 bl dQ).1 (.inr ⟨g,o.n,v,by simp[aT],kS,dQ⟩),(f3 bl dQ).2⟩,
   fun xs ab=>⟨(f4 xs ab).1,y3 (k2.cut S w ν) _ _ _ (g3 xs ab) (f4 xs ab).2.1,(f4 xs ab).2.2⟩⟩
 ·obtain⟨bQ,a2⟩:=xV g I;obtain⟨bH,bR⟩:=xV du J;exact h.oinj g du n n' v v' bl bQ bH (aM.cut_someO ak).2 (aM.cut_someO aV).2 bn cb
 ·obtain⟨bQ,a2⟩:=xV g I;obtain⟨bH,bR⟩:=pZ k J;exact h.obx g k n v bl bQ bH (aM.cut_someO ak).2 aV (aM.cut_some bn).2
 ·by_cases al:S k
  ·rw[aM.cut_bx al,aM.cut_ow al];exact h.one k
  ·exact .inl (aM.cut_no al).1
 ·refine h.otr bl ?_ k j ai.2;rcases aG with⟨be,bQ,a2⟩|⟨g,n,v,bQ,a2,a3⟩
  ·exact .inl ⟨be,(pZ be bQ).1,(aM.cut_some a2).2⟩
  ·exact .inr ⟨g,n,v,(xV g bQ).1,(aM.cut_someO a2).2,a3⟩
structure k3 (ob:List aw) (st st':a6):Prop where
 t:∀x∈st'.t,get x.1 st.t=x.2/\aH (fun k=> ¬fresh st'.n st'.o k) x.2
 b:mI (fun k=> ¬fresh st'.n st'.o k) st'.b st.b
 e:mJ (fun k=> ¬fresh st'.n st'.o k) st'.e st.e
 o:∀m∈ob,m∈st'.o
theorem FN:∀(i:Nat) (l:List (Nat×ae)),get i l= .junk\/(i,get i l)∈l
 |_,[]=>.inl rfl
 |i,(j,p)::r=>by
  by_cases h:j=i
  ·subst h;right;simp[get]
  ·rcases FN i r with I|I
   ·left;simp[get,h,I]
   ·right;simp[get,h];right;exact I
theorem bX.weaker{C:dM}{st st':a6}{a:Act}{w:World}{ν:aM}(h:bX C st a w ν)(hw:k3 C.ob st st'):bX C st' a w (ν.cut fun k=> ¬fresh st'.n st'.o k):=by
 refine⟨h.good.cut hw.b hw.e (fun bl bB _=>bB),⟨h.fr.os,h.fr.tape,h.fr.output,h.fr.size,h.fr.block,h.fr.keep,h.fr.fresh,fun n b af=>?_,h.fr.obn,fun m n u hm=>?_,h.fr.obr,fun k j be ei b I J=>h.fr.trd k j be ei b I.2 J.2,fun k j b af=>h.fr.trb k j b af.2,fun k j b af=>?_,h.fr.sh,fun j n u b aj aR=>h.fr.nrow j n u b (aM.cut_someO aj).2 aR⟩,h.defers,h.size,fun i=>?_,fun k aa=>aM.cut_no (fun aS=>aS aa),fun x ab=>⟨oq (k2.cut _ w ν) _ _ (sD (fun k aa av=>av.2 (hw.o k aa)) _ (h.ext x ab).2) (h.ext x ab).1,(h.ext x ab).2⟩,fun m hm av=>av.2 (hw.o m hm)⟩
 ·rw[aM.cut_bx (fun ck=>ck.2 (hw.o _ (h.fr.obn n b af)))];exact h.fr.obj n b af
 ·rw[aM.cut_ow (fun ck=>ck.2 (hw.o _ (h.fr.obr m n u hm)))];exact h.fr.row m n u hm
 ·rw[aM.cut_bx af.1,aM.cut_ow af.1];exact h.fr.trn k j b af.2
 ·rcases FN i st'.t with ai|hm
  ·rw[ai];simp[aJ]
  ·obtain⟨I,J⟩:=hw.t _ hm;simp only at I;have:=h.slot i;rw[I]at this;exact oq (k2.cut _ w ν) _ _ J this
mutual
def cg:ae->ae
 | .slice sz _ xs=>.slice sz .no (cd xs)
 | .agg cs=>.agg (cd cs)
 | .tuple vs=>.tuple (cd vs)
 | .eptr x=>.eptr (cg x)
 | .iface t x=>.iface t (cg x)
 | .func f cY=>.func f (cd cY)
 |p=>p
def cd:List ae->List ae
 |[]=>[]
 |x::xs=>cg x::cd xs
end
theorem kj:∀xs,(cd xs).length=xs.length
 |[]=>rfl
 |x::xs=>by simp[cd,kj xs]
mutual
theorem xG{t:Bool}{w:World}{A:Nat->Nat->Prop}:∀(p:ae) (F:Nat->Prop) (v:Value),cW t w A F p v->cW t w A F (cg p) v
 | .int _ _,_,_,h=>by simpa only[cg]using h
 | .bool _,_,_,h=>by simpa only[cg]using h
 | .str _,_,_,h=>by simpa only[cg]using h
 | .slice sz tag xs,F,v,h=>by
  simp only[cW,cg]at h⊢;obtain⟨a,cap,I,J,ak,aV⟩:=h;refine⟨a,cap,by rw[kj];exact I,by rw[kj];exact J,by rw[kj];exact ak,?_⟩;rcases aV with rfl|⟨b,off,us,G,aj,aR,bm,c1,gE,hI⟩
  ·exact .inl rfl
  ·exact .inr ⟨b,off,us,G,aj,aR,bm,c1,gE,FJ sz xs G us hI⟩
 | .agg cs,F,v,h=>by simp only[cW,cg]at h⊢;obtain⟨us,I,J⟩:=h;exact⟨us,I,FK cs F _ J⟩
 | .junk,_,_,h=>by simp[cW]at h
 | .ptr _ _,_,_,h=>by simp[cW]at h
 | .eptr _,_,_,h=>by simp[cW]at h
 | .iface _ _,_,_,h=>by simp[cW]at h
 | .nilp,_,_,h=>by simp[cW]at h
 | .tuple _,_,_,h=>by simp[cW]at h
 | .func _ _,_,_,h=>by simp[cW]at h
 | .gmap _,_,_,h=>by simp[cW]at h
 | .row _ _ _,_,_,h=>by simp[cW]at h
 | .rptr _ _ _ _ _,_,_,h=>by simp[cW]at h
 | .hdm _ _,_,_,h=>by simp[cW]at h
 | .hdi _ _ _,_,_,h=>by simp[cW]at h
 | .cst _,_,_,h=>by simp[cW]at h
theorem FK{t:Bool}{w:World}{A:Nat->Nat->Prop}:∀(cs:List ae) (F:Nat->Prop) (us:List Value),la t w A F cs us->la t w A F (cd cs) us
 |[],_,_,h=>by simpa only[cd]using h
 |c::cs,F,us,h=>by simp only[la,cd]at h⊢;obtain⟨u,bh,hU,hV,I,J,⟨bn,cb⟩,eC⟩:=h;exact⟨u,bh,hU,hV,I,J,⟨xG c hU u bn,cb⟩,FK cs hV bh eC⟩
theorem FJ{t:Bool}{w:World}{A:Nat->Nat->Prop}(sz:Nat):∀(cs:List ae) (F:Nat->Prop) (us:List Value),k9 t w A F sz cs us->k9 t w A F sz (cd cs) us
 |[],_,_,h=>by simpa only[cd]using h
 |c::cs,F,us,h=>by simp only[k9,cd]at h⊢;obtain⟨u,bh,hU,hV,I,J,⟨bn,cb⟩,eC⟩:=h;exact⟨u,bh,hU,hV,I,J,⟨xG c hU u bn,cb⟩,FJ sz cs hV bh eC⟩
end
theorem Aq{t:Bool}{w:World}{A:Nat->Nat->Prop}{F:Nat->Prop}{sz:Nat}{tag:ti}(iT:ti){xs:List ae}(v:Value)(h:cW t w A F (.slice sz tag xs) v):cW t w A F (.slice sz iT (cd xs)) v:=by have:=xG _ F v h;simp only[cg,cW]at this⊢;exact this
mutual
theorem sP{w:World}{ν:aM}:∀(p:ae) (v:Value),aJ w ν p v->aJ w ν (cg p) v
 | .junk,_,h=>by simpa only[cg]using h
 | .int k n,_,h=>by simpa only[cg]using h
 | .bool b,_,h=>by simpa only[cg]using h
 | .str s,_,h=>by simpa only[cg]using h
 | .slice sz tag xs,v,h=>by
  simp only[aJ,cg]at h⊢;obtain⟨⟨a,cap,I,J,ak,aV⟩,bn,cb⟩:=h;refine⟨⟨a,cap,by rw[kj];exact I,by rw[kj];exact J,by rw[kj];exact ak,?_⟩,fun e=>(by cases e),fun g e=>(by cases e),fun _ _ e=>(by cases e),fun _ e=>(by cases e)⟩;rcases aV with rfl|⟨b,off,us,aV,cb,eC⟩
  ·exact .inl rfl
  ·exact .inr ⟨b,off,us,aV,cb,IB sz xs us eC⟩
 | .agg cs,v,h=>by simp only[aJ,cg]at h⊢;obtain⟨us,I,J⟩:=h;exact⟨us,I,IF cs _ J⟩
 | .ptr key off,v,h=>by simpa only[cg]using h
 | .iface t x,v,h=>by simp only[aJ,cg]at h⊢;obtain⟨u,I,J⟩:=h;exact⟨u,I,sP x u J⟩
 | .eptr x,v,h=>by simp only[aJ,cg]at h⊢;obtain⟨b,off,u,I,J,ak⟩:=h;exact⟨b,off,u,I,sP x u J,ak⟩
 | .nilp,_,h=>by simpa only[cg]using h
 | .tuple vs,v,h=>by simp only[aJ,cg]at h⊢;obtain⟨us,I,J⟩:=h;exact⟨us,I,y8 vs _ J⟩
 | .func f cY,v,h=>by simp only[aJ,cg]at h⊢;obtain⟨us,I,J⟩:=h;exact⟨us,I,y8 cY _ J⟩
 | .gmap key,v,h=>by simpa only[cg]using h
 | .row _ _ _,v,h=>by simpa only[cg]using h
 | .rptr _ _ _ _ _,v,h=>by simpa only[cg]using h
 | .cst _,v,h=>by simpa only[cg]using h
theorem IF{w:World}{ν:aM}:∀(cs:List ae) (us:List Value),bW w ν cs us->bW w ν (cd cs) us
 |[],_,h=>by simpa only[cd]using h
 |c::cs,us,h=>by simp only[bW,cd]at h⊢;obtain⟨u,bh,I,J,ak⟩:=h;exact⟨u,bh,I,⟨sP c u J.1,J.2⟩,IF cs bh ak⟩
theorem y8{w:World}{ν:aM}:∀(cs:List ae) (us:List Value),b4 w ν cs us->b4 w ν (cd cs) us
 |[],_,h=>by simpa only[cd]using h
 |c::cs,us,h=>by simp only[b4,cd]at h⊢;obtain⟨u,bh,I,J,ak⟩:=h;exact⟨u,bh,I,sP c u J,y8 cs bh ak⟩
theorem IB{w:World}{ν:aM}(sz:Nat):∀(xs:List ae) (us:List Value),cf w ν sz xs us->cf w ν sz (cd xs) us
 |[],_,h=>by simpa only[cd]using h
 |x::xs,us,h=>by simp only[cf,cd]at h⊢;obtain⟨u,bh,I,⟨J,ak,aV⟩,bn⟩:=h;exact⟨u,bh,I,⟨sP x u J,ak,aV⟩,IB sz xs bh bn⟩
end
def aK(s:dH)(k:aw):Prop:=(look k s.b).isSome=true\/(look k s.e).isSome=true
def ch{α β:Type}(s:List (aw×β)):List (aw×α)->List (aw×α)
 |[]=>[]
 |(k,x)::r=>match look k s with
  |some _=>ch s r
  |none=>(k,x)::ch s r
theorem pd{α β:Type}(s:List (aw×β))(k:aw):∀l:List (aw×α),look k (ch s l)=if(look k s).isSome then none else look k l
 |[]=>by simp[ch,look]
 |(i,x)::r=>by
  simp only[ch];by_cases e:i=k
  ·subst e;cases h:look i s with
   |some y=>simp[pd s i r,h]
   |none=>simp[look]
  ·cases h:look i s with
   |some y=>simp[pd s k r,look,e]
   |none=>simp[look,e,pd s k r]
theorem sE{α:Type}(k:aw):∀l e2:List (aw×α),look k (l++e2)=match look k l with|some x=>some x|none=>look k e2
 |[],e2=>by simp[look]
 |(i,x)::r,e2=>by
  by_cases e:i=k
  ·simp[look,e]
  ·simp[look,e,sE k r e2]
def after(st:a6)(s aE:dH)(d:bf Nat)(r:ae):a6:={t:=eD d r st.t,b:=ch s.b st.b++aE.b,e:=ch s.e st.e++aE.e,n:=st.n,o:=st.o++fs aE}
section
open Classical
noncomputable def aM.join(ν ν':aM)(s aE:dH):aM:={A:=ν'.A,bx:=fun k=>if(look k s.b).isSome\/(look k aE.b).isSome then ν'.bx k else ν.bx k,ow:=fun k=>if(look k s.e).isSome\/(look k aE.e).isSome then ν'.ow k else ν.ow k,tr:=fun k j b=>ν.tr k j b\/ν'.tr k j b}
end
theorem bX.callK{C:dM}{st:a6}{a:Act}{w w':World}{ν ν':aM}(h:bX C st a w ν){s aE:dH}(af:mI (aK s) s.b st.b)(he:mJ (aK s) s.e st.e)(sq:hP s)
  (aT:Good (fun bl=>fy (ν.cut (aK s)) s bl\/w.heap.size<=bl) w' ν' aE.b aE.e) {κ:bf Nat} (ab:xz κ ν' aE) (ye:∀m,κ=some m->ν.bx (.loc m)=none/\ν.ow (.loc m)=none/\∀j b,¬ν.tr (.loc m) j b) {n':Nat} {o':List aw} (gU:∀k,fresh n' o' k->fresh st.n (st.o++fs aE) k/\∀m,κ=some m->k≠ .loc m) (n5:hP aE) (av:oH ⟨w,ν.cut (aK s),fy (ν.cut (aK s)) s,0,fs s,h.fr.gl.cut _,[]⟩ w' ν')
  (AV:∀m,(look (.obj m) aE.b).isSome->(look (.obj m) s.b).isSome\/ .obj m∉st.o) (dI:∀m,(look (.obj m) aE.e).isSome->(look (.obj m) s.e).isSome\/ .obj m∉st.o) (d:bf Nat) (bj:gu C.N d=true) {r:ae} {v:Value} (ao:aJ w' ν' r v):
  bX C {after st s aE d r with n:=n',o:=o'} (a.put d v) w' (ν.join ν' s aE):=by
 have q1:∀k,(look k s.b).isSome->(look k st.b).isSome:=fun k aa=>by obtain⟨cs,cA⟩:=eK.1 aa;simp[(af k cs cA).1]
 have jy:∀k,(look k s.e).isSome->(look k st.e).isSome:=fun k aa=>by obtain⟨cs,cA⟩:=eK.1 aa;simp[(he k cs cA).1]
 have Pd:∀k,(look k aE.b).isSome->¬(look k s.b).isSome->ν.bx k=none:=fun k aa aS=>by
  cases k with
  |loc m=>rw[n5.1 m]at aa;cases aa
  |obj m=>exact(h.new (.obj m) ⟨trivial,(AV m aa).resolve_left aS⟩).1
 have Pe:∀k,(look k aE.e).isSome->¬(look k s.e).isSome->ν.ow k=none:=fun k aa aS=>by
  cases k with
  |loc m=>rw[n5.2 m]at aa;cases aa
  |obj m=>exact(h.new (.obj m) ⟨trivial,(dI m aa).resolve_left aS⟩).2.1
 have P7:∀k,(look k s.b).isSome->(ν.join ν' s aE).bx k=ν'.bx k:=fun k aa=>by simp[aM.join,aa]
 have GZ:∀k,(look k aE.b).isSome->(ν.join ν' s aE).bx k=ν'.bx k:=fun k aa=>by simp[aM.join,aa]
 have G0:∀k,ν.bx k≠none->¬(look k s.b).isSome->(ν.join ν' s aE).bx k=ν.bx k:=fun k I J=>by have ak:¬(look k aE.b).isSome:=fun ak=>I (Pd k ak J);simp[aM.join,J,ak]
 have P8:∀k,(look k s.e).isSome->(ν.join ν' s aE).ow k=ν'.ow k:=fun k aa=>by simp[aM.join,aa]
 have Bn:∀k,(look k aE.e).isSome->(ν.join ν' s aE).ow k=ν'.ow k:=fun k aa=>by simp[aM.join,aa]
 have Bo:∀k,ν.ow k≠none->¬(look k s.e).isSome->(ν.join ν' s aE).ow k=ν.ow k:=fun k I J=>by have ak:¬(look k aE.e).isSome:=fun ak=>I (Pe k ak J);simp[aM.join,J,ak]
 have JP:∀k b,ν'.bx k=some b->(look k aE.b).isSome:=fun k b aa=>by
  cases aA:look k aE.b with
  |some _=>rfl
  |none=>rw[(ab k).1 aA]at aa;cases aa
 have JQ:∀k b,ν'.ow k=some b->(look k aE.e).isSome:=fun k b aa=>by
  cases aA:look k aE.e with
  |some _=>rfl
  |none=>rw[(ab k).2.1 aA]at aa;cases aa
 have ah:jH w ν w' (ν.join ν' s aE):=by
  refine⟨fun b o aY=>av.keep b o aY,fun k b _ aa=>?_,fun g n u _ aT=>?_,fun b o aY=>av.sh b o aY,fun _ _ _ _ h=>.inl h⟩
  ·by_cases al:(look k s.b).isSome
   ·rw[P7 k al];cases k with
    |loc m=>rw[sq.1 m]at al;cases al
    |obj m=>exact av.obj m b (by rw[aM.cut_bx (.inl al)];exact aa)
   ·rw[G0 k (by rw[aa];simp) al];exact aa
  ·by_cases al:(look g s.e).isSome
   ·rw[P8 g al];cases g with
    |loc m=>rw[sq.2 m]at al;cases al
    |obj m=>exact av.row m n u (by rw[aM.cut_ow (.inr al)];exact aT)
   ·rw[Bo g (by rw[aT];simp) al];exact⟨n,u,aT,.inl ⟨rfl,rfl⟩⟩
 have gV:jH w' ν' w' (ν.join ν' s aE):=⟨fun b o aY=>⟨aY,rfl⟩,fun k b _ aa=>by rw[GZ k (JP k b aa)];exact aa,fun g n u _ aa=>⟨n,u,by rw[Bn g (JQ g _ aa)];exact aa,.inl ⟨rfl,rfl⟩⟩,fun _ _ _=>rfl,fun _ _ _ _ h=>.inr h⟩
 have mj:∀bl,fy (ν.cut (aK s)) s bl->C.pr bl/\bl<w.heap.size:=by
  intro bl dQ;rcases dQ with⟨k,I,J⟩|⟨g,n,u,I,J,ak⟩
  ·have aV:=(aM.cut_some J).2;obtain⟨cs,cA⟩:=eK.1 (q1 k I);obtain⟨gP,us,el,g1,g2,_⟩:=h.good.box k cs cA;rw[aV]at g1;cases g1;exact⟨g2,h.good.boxLt cA aV⟩
  ·have aV:=(aM.cut_someO J).2;obtain⟨o,x9⟩:=eK.1 (jy g I);obtain⟨v',us,g1,g2,g3,_⟩:=h.good.own g o x9;rw[aV]at g1;cases g1;exact⟨(g3 bl ak).1,h.good.ownLt x9 aV ak⟩
 have GF:∀bl,fy (ν.cut (aK s)) s bl\/w.heap.size<=bl->C.pr bl:=fun bl dQ=>by
  rcases dQ with dQ|dQ
  ·exact(mj bl dQ).1
  ·exact .inr (Nat.le_trans h.fr.size dQ)
 have Pw:∀k cs bl,look k st.b=some cs->¬(look k s.b).isSome->ν.bx k=some bl->¬fy (ν.cut (aK s)) s bl:=by
  intro k cs bl I J ak aV;rcases aV with⟨be,bQ,a2⟩|⟨g,n,u,bQ,a2,a3⟩
  ·have:=h.good.inj k be bl (by simp[I]) (q1 be bQ) ak (aM.cut_some a2).2;subst this;exact J bQ
  ·exact h.good.obx g k n u bl (jy g bQ) (by simp[I]) (aM.cut_someO a2).2 a3 ak
 have Px:∀g o n u bl,look g st.e=some o->¬(look g s.e).isSome->ν.ow g=some (n,u)->u.ownBlock=some bl->¬fy (ν.cut (aK s)) s bl:=by
  intro g o n u bl I J ak aV bn;rcases bn with⟨be,bQ,a2⟩|⟨du,n',dZ,bQ,a2,a3⟩
  ·exact h.good.obx g be n u bl (by simp[I]) (q1 be bQ) ak aV (aM.cut_some a2).2
  ·have:=h.good.oinj g du n n' u dZ bl (by simp[I]) (jy du bQ) ak (aM.cut_someO a2).2 aV a3;subst this;exact J bQ
 have ED:∀k cs,look k (ch s.b st.b++aE.b)=some cs->(¬(look k s.b).isSome/\look k st.b=some cs)\/look k aE.b=some cs:=by
  intro k cs aa;rw[sE,pd]at aa;by_cases al:(look k s.b).isSome
  ·simp only[al,if_true]at aa;exact .inr aa
  ·simp only[al]at aa;cases aA:look k st.b with
   |some x=>simp[aA]at aa;subst aa;exact .inl ⟨al,rfl⟩
   |none=>simp[aA]at aa;exact .inr aa
 have EE:∀k cs,look k (ch s.e st.e++aE.e)=some cs->(¬(look k s.e).isSome/\look k st.e=some cs)\/look k aE.e=some cs:=by
  intro k cs aa;rw[sE,pd]at aa;by_cases al:(look k s.e).isSome
  ·simp only[al,if_true]at aa;exact .inr aa
  ·simp only[al]at aa;cases aA:look k st.e with
   |some x=>simp[aA]at aa;subst aa;exact .inl ⟨al,rfl⟩
   |none=>simp[aA]at aa;exact .inr aa
 have qv:∀bl,fy (ν.cut (aK s)) s bl\/w.heap.size<=bl->∀gP,gP<w.heap.size->¬fy (ν.cut (aK s)) s gP->bl≠gP:=by
  intro bl I gP J ak e;subst e;rcases I with I|I
  ·exact ak I
  ·omega
 have Bq:∀bl,bl<w.heap.size->¬fy (ν.cut (aK s)) s bl->w'.heap[bl]? =w.heap[bl]?:=fun bl I J=>av.block bl I J;have isB:∀k bl,(look k (ch s.b st.b++aE.b)).isSome->(ν.join ν' s aE).bx k=some bl->(¬(look k s.b).isSome/\(look k st.b).isSome/\ν.bx k=some bl)\/((look k aE.b).isSome/\ν'.bx k=some bl):=by
  intro k bl aa iM;obtain⟨cs,cA⟩:=eK.1 aa;rcases ED k cs cA with⟨I,J⟩|I
  ·obtain⟨gP,us,el,g1,_⟩:=h.good.box k cs J;rw[G0 k (by rw[g1];simp) I]at iM;exact .inl ⟨I,by simp[J],iM⟩
  ·rw[GZ k (by simp[I])]at iM;exact .inr ⟨by simp[I],iM⟩
 have yj:∀k x,(look k (ch s.e st.e++aE.e)).isSome->(ν.join ν' s aE).ow k=some x->(¬(look k s.e).isSome/\(look k st.e).isSome/\ν.ow k=some x)\/((look k aE.e).isSome/\ν'.ow k=some x):=by
  intro k x aa iM;obtain⟨cs,cA⟩:=eK.1 aa;rcases EE k cs cA with⟨I,J⟩|I
  ·obtain⟨v',us,g1,_⟩:=h.good.own k cs J;rw[Bo k (by rw[g1];simp) I]at iM;exact .inl ⟨I,by simp[J],iM⟩
  ·rw[Bn k (by simp[I])]at iM;exact .inr ⟨by simp[I],iM⟩
 have vc:∀k bl,¬(look k s.b).isSome->(look k st.b).isSome->ν.bx k=some bl->bl<w.heap.size/\¬fy (ν.cut (aK s)) s bl:=by intro k bl I J ak;obtain⟨cs,cA⟩:=eK.1 J;exact⟨h.good.boxLt cA ak,Pw k cs bl cA I ak⟩
 have sR:∀k n u bl,¬(look k s.e).isSome->(look k st.e).isSome->ν.ow k=some (n,u)->u.ownBlock=some bl->bl<w.heap.size/\¬fy (ν.cut (aK s)) s bl:=by intro k n u bl I J ak aV;obtain⟨cs,cA⟩:=eK.1 J;exact⟨h.good.ownLt cA ak aV,Px k cs n u bl cA I ak aV⟩
 have xc:∀k bl,(look k aE.b).isSome->ν'.bx k=some bl->fy (ν.cut (aK s)) s bl\/w.heap.size<=bl:=by intro k bl I J;obtain⟨cs,cA⟩:=eK.1 I;obtain⟨gP,us,el,g1,g2,_⟩:=aT.box k cs cA;rw[J]at g1;cases g1;exact g2
 have y9:∀k n u bl,(look k aE.e).isSome->ν'.ow k=some (n,u)->u.ownBlock=some bl->fy (ν.cut (aK s)) s bl\/w.heap.size<=bl:=by intro k n u bl I J ak;obtain⟨cs,cA⟩:=eK.1 I;obtain⟨v',us,g1,g2,g3,_⟩:=aT.own k cs cA;rw[J]at g1;cases g1;exact(g3 bl ak).1
 have aY:∀bl o,ν'.A bl o->bl<w.heap.size->¬fy (ν.cut (aK s)) s bl->ν.A bl o:=by
  intro bl o I J ak;rcases av.fresh bl o I with aV|aV|aV
  ·exact aV
  ·exact absurd aV ak
  ·simp only at aV;omega
 have mu:bX C {t:=st.t,b:=ch s.b st.b++aE.b,e:=ch s.e st.e++aE.e,n:=n',o:=o'} a w' (ν.join ν' s aE):=by
  refine h.over ah rfl ⟨aT.alt,fun k cs aa=>?_,fun k be bl I J ak aV=>?_,fun g o dX=>?_,fun g du n n' u dZ bl I J ak aV bn cb=>?_,fun g k n u bl I J ak aV bn=>?_,fun k=>?_,fun bl aG k j fi=>?_⟩
   ⟨av.os.trans h.fr.os,av.tape.trans h.fr.tape,av.output.trans h.fr.output,Nat.le_trans h.fr.size av.size,fun k aa hm=>?_,fun b o nS=>?_,fun b o nS=>?_,fun n b aS=>ah.bx _ _ trivial (h.fr.obj n b aS),h.fr.obn,
    fun m n u hm=>wK (h.fr.row m n u hm) (fun n u=>ah.ow _ n u trivial),h.fr.obr,fun k j be ei b I J=>?_,fun k j b af=>?_,fun k j b af=>?_,fun b o aY=>(ah.sh b o (h.fr.keep b o aY).1).trans (h.fr.sh b o aY),fun j n u b aj aR=>h.fr.nrow j n u b (by simpa[aM.join,sq.2 j,n5.2 j]using aj) aR⟩ (fun k aa=>?_) (fun m hm=>r1 (c7 _) (fun _ h=>nE _ h) (gU m hm).1)
  ·rcases ED k cs aa with⟨I,J⟩|I
   ·obtain⟨bl,us,el,g1,g2,g3,g4,g5⟩:=h.good.box k cs J;obtain⟨bH,bR⟩:=vc k bl I (by simp[J]) g1;exact⟨bl,us,el,ah.bx _ _ trivial g1,g2,fun o nS=>g3 o (aY bl o nS bH bR),by rw[Bq bl bH bR];exact g4,lV ah g5⟩
   ·obtain⟨bl,us,el,g1,g2,g3,g4,g5⟩:=aT.box k cs I;exact⟨bl,us,el,gV.bx _ _ trivial g1,GF bl g2,g3,g4,lV gV g5⟩
  ·rcases isB k bl I ak with⟨bQ,a2,a3⟩|⟨bQ,a2⟩<;>rcases isB be bl J aV with⟨bH,bR,ea⟩|⟨bH,bR⟩
   ·exact h.good.inj k be bl a2 bR a3 ea
   ·obtain⟨cp,c2⟩:=vc k bl bQ a2 a3;exact absurd rfl (qv bl (xc be bl bH bR) bl cp c2)
   ·obtain⟨cp,c2⟩:=vc be bl bH bR ea;exact absurd rfl (qv bl (xc k bl bQ a2) bl cp c2)
   ·exact aT.inj k be bl bQ bH a2 bR
  ·rcases EE g o dX with⟨I,J⟩|I
   ·obtain⟨u,us,g1,g2,g3,g4⟩:=h.good.own g o J;refine⟨u,us,by rw[Bo g (by rw[g1];simp) I];exact g1,⟨g2.1,?_⟩,fun bl dQ=>?_,nt ah (fun bl dQ j nS=>?_) g4⟩
    ·rcases g2.2 with aR|⟨gr,cap,cur,f1,f2,f3,f4⟩
     ·exact .inl aR
     ·obtain⟨bH,bR⟩:=sR g _ u gr I (by simp[J]) g1 (by rw[f1];rfl);exact .inr ⟨gr,cap,cur,f1,f2,by rw[Bq gr bH bR];exact f3,f4⟩
    ·obtain⟨bH,bR⟩:=sR g _ u bl I (by simp[J]) g1 dQ;exact⟨(g3 bl dQ).1,fun j nS=>(g3 bl dQ).2 j (aY bl j nS bH bR)⟩
    ·obtain⟨bH,bR⟩:=sR g _ u bl I (by simp[J]) g1 dQ;exact aY bl j nS bH bR
   ·obtain⟨u,us,g1,g2,g3,g4⟩:=aT.own g o I;exact⟨u,us,by rw[Bn g (by simp[I])];exact g1,g2,fun bl dQ=>⟨GF bl (g3 bl dQ).1,(g3 bl dQ).2⟩,nt gV (fun _ _ _ h=>h) g4⟩
  ·rcases yj g _ I ak with⟨bQ,a2,a3⟩|⟨bQ,a2⟩<;>rcases yj du _ J aV with⟨bH,bR,ea⟩|⟨bH,bR⟩
   ·exact h.good.oinj g du n n' u dZ bl a2 bR a3 ea bn cb
   ·obtain⟨cp,c2⟩:=sR g n u bl bQ a2 a3 bn;exact absurd rfl (qv bl (y9 du n' dZ bl bH bR cb) bl cp c2)
   ·obtain⟨cp,c2⟩:=sR du n' dZ bl bH bR ea cb;exact absurd rfl (qv bl (y9 g n u bl bQ a2 bn) bl cp c2)
   ·exact aT.oinj g du n n' u dZ bl bQ bH a2 bR bn cb
  ·rcases yj g _ I ak with⟨bQ,a2,a3⟩|⟨bQ,a2⟩<;>rcases isB k bl J bn with⟨bH,bR,ea⟩|⟨bH,bR⟩
   ·exact h.good.obx g k n u bl a2 bR a3 aV ea
   ·obtain⟨cp,c2⟩:=sR g n u bl bQ a2 a3 aV;exact absurd rfl (qv bl (xc k bl bH bR) bl cp c2)
   ·obtain⟨cp,c2⟩:=vc k bl bH bR ea;exact absurd rfl (qv bl (y9 g n u bl bQ a2 aV) bl cp c2)
   ·exact aT.obx g k n u bl bQ bH a2 aV bR
  ·
   cases iM:(ν.join ν' s aE).bx k with
   |none=>exact .inl rfl
   |some bl=>
    right;cases kS:(ν.join ν' s aE).ow k with
    |none=>rfl
    |some x=>
     exfalso;have aj:(ν.bx k=some bl/\¬(look k s.b).isSome/\¬(look k aE.b).isSome)\/ν'.bx k=some bl:=by
      by_cases al:(look k s.b).isSome\/(look k aE.b).isSome
      ·right;simpa[aM.join,al]using iM
      ·left;simp only[not_or]at al;exact⟨by simpa[aM.join,al.1,al.2]using iM,al.1,al.2⟩
     have aR:(ν.ow k=some x/\¬(look k s.e).isSome/\¬(look k aE.e).isSome)\/ν'.ow k=some x:=by
      by_cases al:(look k s.e).isSome\/(look k aE.e).isSome
      ·right;simpa[aM.join,al]using kS
      ·left;simp only[not_or]at al;exact⟨by simpa[aM.join,al.1,al.2]using kS,al.1,al.2⟩
     rcases aj with⟨bQ,a2,a3⟩|bQ<;>rcases aR with⟨bH,bR,ea⟩|bH
     ·rcases h.good.one k with ck|ck
      ·rw[ck]at bQ;cases bQ
      ·rw[ck]at bH;cases bH
     ·have AQ:=JQ k x bH;have ep:(look k s.e).isSome:=by
       cases k with
       |loc m=>rw[n5.2 m]at AQ;cases AQ
       |obj m=>
        rcases dI m AQ with ck|ck
        ·exact ck
        ·rw[(h.new (.obj m) ⟨trivial,ck⟩).1]at bQ;cases bQ
      obtain⟨o,x9⟩:=eK.1 (jy k ep);obtain⟨v',us,g1,_⟩:=h.good.own k o x9;rcases h.good.one k with ck|ck
      ·rw[ck]at bQ;cases bQ
      ·rw[ck]at g1;cases g1
     ·have AP:=JP k bl bQ;have ep:(look k s.b).isSome:=by
       cases k with
       |loc m=>rw[n5.1 m]at AP;cases AP
       |obj m=>
        rcases AV m AP with ck|ck
        ·exact ck
        ·rw[(h.new (.obj m) ⟨trivial,ck⟩).2.1]at bH;cases bH
      obtain⟨cs,cA⟩:=eK.1 (q1 k ep);obtain⟨gP,us,el,g1,_⟩:=h.good.box k cs cA;rcases h.good.one k with ck|ck
      ·rw[ck]at g1;cases g1
      ·rw[ck]at bH;cases bH
     ·rcases aT.one k with ck|ck
      ·rw[ck]at bQ;cases bQ
      ·rw[ck]at bH;cases bH
  ·have Gs:∀k j,ν'.tr k j bl->w.heap.size<=bl:=fun k j ck=>by
    rcases(av.trb k j bl ck).1 with a2|a2
    ·obtain⟨m,_,hm⟩:=(ab k).2.2 j bl ck;rw[hm]at a2;cases a2
    ·exact a2
   have hold:fy (ν.cut (aK s)) s bl->¬ν.tr k j bl:=by
    rintro(⟨be,bQ,a2⟩|⟨g,n,u,bQ,a2,a3⟩) ck
    ·exact h.good.otr bl (.inl ⟨be,q1 be bQ,(aM.cut_some a2).2⟩) k j ck
    ·exact h.good.otr bl (.inr ⟨g,n,u,jy g bQ,(aM.cut_someO a2).2,a3⟩) k j ck
   have ka:fy (ν.cut (aK s)) s bl\/w.heap.size<=bl->¬ν.tr k j bl:=by
    rintro(I|I) ck
    ·exact hold I ck
    ·have:=(h.fr.trb k j bl ck).2;omega
   rcases aG with⟨be,bQ,a2⟩|⟨g,n,u,bQ,a2,a3⟩
   ·rcases isB be bl bQ a2 with⟨bH,bR,ea⟩|⟨bH,bR⟩
    ·rcases fi with fi|fi
     ·exact h.good.otr bl (.inl ⟨be,bR,ea⟩) k j fi
     ·have:=(vc be bl bH bR ea).1;have:=Gs k j fi;omega
    ·rcases fi with fi|fi
     ·exact ka (xc be bl bH bR) fi
     ·exact aT.otr bl (.inl ⟨be,bH,bR⟩) k j fi
   ·rcases yj g _ bQ a2 with⟨bH,bR,ea⟩|⟨bH,bR⟩
    ·rcases fi with fi|fi
     ·exact h.good.otr bl (.inr ⟨g,n,u,bR,ea,a3⟩) k j fi
     ·have:=(sR g n u bl bH bR ea a3).1;have:=Gs k j fi;omega
    ·rcases fi with fi|fi
     ·exact ka (y9 g n u bl bH bR a3) fi
     ·exact aT.otr bl (.inr ⟨g,n,u,bH,bR,a3⟩) k j fi
  ·have cM:k<w.heap.size:=Nat.lt_of_lt_of_le aa h.fr.size;rw[Bq k cM fun dQ=>by
    rcases(mj k dQ).1 with I|I
    ·exact hm I
    ·omega]
   exact h.fr.block k aa hm
  ·obtain⟨b5,cE⟩:=h.fr.keep b o nS;obtain⟨fA,h5⟩:=av.keep b o b5;exact⟨fA,h5.trans cE⟩
  ·rcases av.fresh b o nS with aV|aV|aV
   ·exact h.fr.fresh b o aV
   ·exact .inr (mj b aV).1
   ·exact .inr (.inr (Nat.le_trans h.fr.size aV))
  ·rcases I with I|I<;>rcases J with J|J
   ·exact h.fr.trd k j be ei b I J
   ·have bQ:=(h.fr.trb k j b I).2;have a2:=(av.trb be ei b J).1;rcases a2 with a2|a2
    ·obtain⟨m,_,hm⟩:=(ab be).2.2 ei b J;rw[hm]at a2;cases a2
    ·simp only at a2;omega
   ·have bQ:=(h.fr.trb be ei b J).2;have a2:=(av.trb k j b I).1;rcases a2 with a2|a2
    ·obtain⟨m,_,hm⟩:=(ab k).2.2 j b I;rw[hm]at a2;cases a2
    ·simp only at a2;omega
   ·exact av.trd k j be ei b I J
  ·rcases af with af|af
   ·exact⟨(h.fr.trb k j b af).1,Nat.lt_of_lt_of_le (h.fr.trb k j b af).2 av.size⟩
   ·refine⟨.inr ?_,(av.trb k j b af).2⟩;rcases(av.trb k j b af).1 with a2|a2
    ·obtain⟨m,_,hm⟩:=(ab k).2.2 j b af;rw[hm]at a2;cases a2
    ·exact Nat.le_trans h.fr.size a2
  ·have key:ν.bx k=none/\ν.ow k=none/\¬(look k aE.b).isSome/\¬(look k aE.e).isSome:=by
    rcases af with af|af
    ·obtain⟨t1,t2⟩:=h.fr.trn k j b af;refine⟨t1,t2,fun ck=>?_,fun ck=>?_⟩
     ·cases k with
      |loc m=>rw[n5.1 m]at ck;cases ck
      |obj m=>
       rcases AV m ck with bn|bn
       ·obtain⟨cs,cA⟩:=eK.1 (q1 _ bn);obtain⟨gP,us,el,g1,_⟩:=h.good.box _ cs cA;rw[t1]at g1;cases g1
       ·exact(h.new (.obj m) ⟨trivial,bn⟩).2.2 j b af
     ·cases k with
      |loc m=>rw[n5.2 m]at ck;cases ck
      |obj m=>
       rcases dI m ck with bn|bn
       ·obtain⟨cs,cA⟩:=eK.1 (jy _ bn);obtain⟨gP,us,g1,_⟩:=h.good.own _ cs cA;rw[t2]at g1;cases g1
       ·exact(h.new (.obj m) ⟨trivial,bn⟩).2.2 j b af
    ·obtain⟨m,hm,rfl⟩:=(ab k).2.2 j b af;obtain⟨t1,t2,_⟩:=ye m hm;exact⟨t1,t2,by simp[n5.1 m],by simp[n5.2 m]⟩
   obtain⟨t1,t2,t3,t4⟩:=key;have t5:¬(look k s.b).isSome:=fun ck=>by obtain⟨cs,cA⟩:=eK.1 (q1 _ ck);obtain⟨gP,us,el,g1,_⟩:=h.good.box _ cs cA;rw[t1]at g1;cases g1
   have t6:¬(look k s.e).isSome:=fun ck=>by obtain⟨cs,cA⟩:=eK.1 (jy _ ck);obtain⟨gP,us,g1,_⟩:=h.good.own _ cs cA;rw[t2]at g1;cases g1
   exact⟨by simp[aM.join,t3,t5,t1],by simp[aM.join,t4,t6,t2]⟩
  ·
   simp only at aa;obtain⟨aa,OX⟩:=gU k aa;have Gw:(∀j b,¬ν.tr k j b)->∀j b,¬(ν.join ν' s aE).tr k j b:=fun I j b af=>by
    rcases af with af|af
    ·exact I j b af
    ·obtain⟨m,hm,e⟩:=(ab k).2.2 j b af;exact OX m hm e
   cases k with
   |loc m=>obtain⟨e6,ey,fJ⟩:=h.new (.loc m) (r1 (c7 _) (fun _ h=>nE _ h) aa);exact⟨by simp[aM.join,sq.1 m,n5.1 m,e6],by simp[aM.join,sq.2 m,n5.2 m,ey],Gw fJ⟩
   |obj m=>
    simp only[fresh,nD,not_or,true_and]at aa;obtain⟨e6,ey,fJ⟩:=h.new (.obj m) ⟨trivial,aa.1⟩;have bK:¬(look (.obj m) aE.b).isSome:=fun ck=>aa.2 (ur (.inl ck));have b6:¬(look (.obj m) aE.e).isSome:=fun ck=>aa.2 (ur (.inr ck));have cH:¬(look (.obj m) s.b).isSome:=fun ck=>by obtain⟨cs,cA⟩:=eK.1 (q1 _ ck);obtain⟨gP,us,el,g1,_⟩:=h.good.box _ cs cA;rw[e6]at g1;cases g1
    have dd:¬(look (.obj m) s.e).isSome:=fun ck=>by obtain⟨cs,cA⟩:=eK.1 (jy _ ck);obtain⟨v',us,g1,_⟩:=h.good.own _ cs cA;rw[ey]at g1;cases g1
    exact⟨by simp[aM.join,bK,cH,e6],by simp[aM.join,b6,dd,ey],Gw fJ⟩
 exact mu.put bj (qo gV ao)
inductive ds where
 |s (i:df)
 |call (d:bf Nat) (f:ct) (xs:List ct)
 |next (d:Nat) (x:ct)
 |opn (d:bf Nat) (f:ct) (xs:List ct)
structure cm where
 g:bf (Nat×Bool)
 i:ds
def df.dst:df->bf Nat
 | .v d _| .box d _ _| .alloc d _ _| .bsl d _ _ _| .app d _ _ _ _| .bslm d _ _ _ _| .appm d _ _ _ _ _| .mkmap d _| .range d _ _| .mks d _ _ _ _ _| .apps d _ _ _=>some d
 | .store _ _ _| .mput _ _ _ _| .storeE _ _ _=>none
def ds.dst:ds->bf Nat
 | .s i=>i.dst
 | .call d _ _=>d
 | .next d _=>some d
 | .opn d _ _=>d
def cL(P:bM)(n:Nat)(args:List ae)(st:a6)(d:bf Nat)(K:a6->Prop):Prop:=
 (∃s Q,mI (aK s) s.b st.b/\mJ (aK s) s.e st.e/\hP s/\aB (aK s) args/\dP P n args s Q/\
  ∀r aE,Q r aE->((∀m,(look (.obj m) aE.b).isSome->(look (.obj m) s.b).isSome\/ .obj m∉st.o)/\(∀m,(look (.obj m) aE.e).isSome->(look (.obj m) s.e).isSome\/ .obj m∉st.o))/\K (after st s aE d r))\/
 (∃s Q,mI (aK s) s.b st.b/\mJ (aK s) s.e st.e/\hP s/\aB (aK s) args/\ .loc st.n∉st.o/\zt P n st.n args s Q/\
  ∀r aE,Q r aE->((∀m,(look (.obj m) aE.b).isSome->(look (.obj m) s.b).isSome\/ .obj m∉st.o)/\(∀m,(look (.obj m) aE.e).isSome->(look (.obj m) s.e).isSome\/ .obj m∉st.o))/\K {after st s aE d r with n:=st.n+1})
def HG(st:a6)(d:Nat)(fI mk:aw)(since:Nat)(seen:List Nat)(last clock:Nat)(borns:List Nat)(kvs:List ae)(K:a6->Prop):Prop:=
 (since=clock/\last=clock)/\((∀b∈borns,b∈seen)->K {st with t:=put d (.tuple [.bool false]) st.t})/\
 (∀b k v,ll b borns kvs=some (.tuple [k,v])->b∉seen->K {st with t:=put d (.tuple [.bool true,k,v]) st.t,b:=cx fI [.hdi since (seen++[b]) last,.gmap mk] st.b})
def rW(st:a6)(d:Nat)(v:ae)(K:a6->Prop):Prop:=
 match v with
 | .ptr fI 0=>match look fI st.b with
  |some [.hdi since seen last,.gmap mk]=>match look mk st.b with
   |some (.hdm clock borns::kvs)=>HG st d fI mk since seen last clock borns kvs K
   |_=>dz
  |_=>dz
 |_=>dz
def u3(P:bM)(ob:List aw)(n:Nat)(args:List ae)(st:a6)(d:bf Nat)(K:a6->Prop):Prop:=
 ∀(C:dM) (a:Act) (w:World) (ν:aM) (vs:Array Value),C.ob=ob->bX C st a w ν->b4 w ν args vs.toList->gu C.N d=true->
  qy P n vs w fun e w'=> ∃v st' ν',e= .returned v/\K st'/\bX C st' (a.put d v) w' ν'
def nM(P:bM)(ob:List aw)(st:a6)(K:a6->Prop):ds->Prop
 | .next d x=>rW st d (bA st.t x) K
 | .s i=>match jE st i with
  |some (c,st')=>c/\K st'
  |none=>dz
 | .call d f xs=>match bA st.t f with
  | .func n cY=>cL P n (cd (xs.map (bA st.t)++cY)) st d K
  |_=>dz
 | .opn d f xs=>match bA st.t f with
  | .func n cY=>u3 P ob n (xs.map (bA st.t)++cY) st d K
  |_=>dz
def gd(P:bM)(ob:List aw):List cm->a6->(a6->Prop)->Prop
 |[],st,K=>K st
 |⟨none,i⟩::r,st,K=>nM P ob st (fun st'=>gd P ob r st' K) i
 |⟨some (s,want),i⟩::r,st,K=>match get s st.t with
  | .bool b=>(b=want->nM P ob {st with t:=put s (.bool want) st.t} (fun st'=>gd P ob r st' K) i)/\(b= !want->gd P ob r {st with t:=eD i.dst (.tuple []) (put s (.bool !want) st.t)} K)
  | .tuple []=>gd P ob r {st with t:=eD i.dst (.tuple []) st.t} K
  |_=>dz
def pj(N:Nat)(bc:List (Nat×cR))(i:ds)(o:Oper):Bool:=
 match i with
 | .s i=>nu N bc i o
 | .next d x=>match o.op with
  | .next it false=>o.dst==some d&&decide (d<N)&&db x it
  |_=>false
 | .call d f xs=>match o.op with
  | .call ⟨.value kq,args,_⟩=>o.dst==d&&gu N d&&db f kq&&rr xs args.toList
  |_=>false
 | .opn d f xs=>match o.op with
  | .call ⟨.value kq,args,_⟩=>o.dst==d&&gu N d&&db f kq&&rr xs args.toList
  |_=>false
def vq(N:Nat)(bc:List (Nat×cR))(ops:List Oper)(g:cm)(o:Oper):Bool:=
 (match g.g,o.guard with
  |none,none=>true
  |some (s,b),some (j,fu)=>b==fu&&((ops[j]?).bind (·.dst))==some s&&decide (s<N)&&o.dst==g.i.dst&&gu N g.i.dst
  |_,_=>false)&&pj N bc g.i o
def iv(N:Nat)(bc:List (Nat×cR))(ops:List Oper):List cm->List Oper->Bool
 |[],[]=>true
 |g::gs,o::os=>vq N bc ops g o&&iv N bc ops gs os
 |_,_=>false
theorem Cn{w:World}{ν:aM}:∀{bD cI:List ae} {vs us:List Value},b4 w ν bD vs->b4 w ν cI us->b4 w ν (bD++cI) (vs++us)
 |[],cI,vs,us,h,bS=>by simp only[b4]at h;subst h;simpa using bS
 |p::bD,cI,vs,us,h,bS=>by simp only[b4]at h;obtain⟨u,bh,rfl,I,J⟩:=h;simp only[oA,b4];exact⟨u,_,rfl,I,Cn J bS⟩
theorem qy.mono{P:bM}{f:FuncId}{vs:Array Value}{w:World}{R zu:Ending->World->Prop}(h:qy P f vs w R)(aW:∀e w',R e w'->zu e w'):qy P f vs w zu:=by
 rcases h with⟨I,J⟩|⟨v,w',I,J⟩
 ·exact .inl ⟨I,J.mono aW⟩
 ·exact .inr ⟨v,w',I,aW _ _ J⟩
theorem EA{P:bM}{C:dM}{st:a6}{a:Act}{w:World}{ν:aM}(ao:bX C st a w ν){o:Oper}{kq:Operand}{args:Array Operand}{ts:Array eZ}(gM:o.op= .call ⟨.value kq,args,ts⟩){d:bf Nat}(bj:o.dst=d)(p2:gu C.N d=true)
  {n:Nat} {cY:List ae} (av:aJ w ν (.func n cY) (a.eval kq)) {bD:List ae} (lf:b4 w ν bD (args.toList.map a.eval)) {K:a6->Prop}
  (aQ:∃(s:dH) (qz:ae->dH->Prop) (κ:bf Nat) (n':Nat) (o':dH->List aw),mI (aK s) s.b st.b/\mJ (aK s) s.e st.e/\hP s/\aB (aK s) (cd (bD++cY))/\(∀(w:World) (ν:aM) (vs:Array Value) (gl:k0 w ν),Good (fy ν s) w ν s.b s.e->oS ν s->b4 w ν (cd (bD++cY)) vs.toList->
   qy P n vs w fun e w'=> ∃v r aE ν',e= .returned v/\qz r aE/\aJ w' ν' r v/\Good (fun bl=>fy ν s bl\/w.heap.size<=bl) w' ν' aE.b aE.e/\xz κ ν' aE/\hP aE/\oH ⟨w,ν,fy ν s,0,fs s,gl,[]⟩ w' ν')/\
   (∀m,κ=some m->fresh st.n st.o (.loc m))/\(∀k r aE,qz r aE->fresh n' (o' aE) k->fresh st.n (st.o++fs aE) k/\∀m,κ=some m->k≠ .loc m)/\
   ∀r aE,qz r aE->((∀m,(look (.obj m) aE.b).isSome->(look (.obj m) s.b).isSome\/ .obj m∉st.o)/\(∀m,(look (.obj m) aE.e).isSome->(look (.obj m) s.e).isSome\/ .obj m∉st.o))/\K {after st s aE d r with n:=n',o:=o' aE})
  {ly:Act->World->Prop} {Q:Exit->Act->World->Prop} (cN:∀st' cy w' ν',K st'->bX C st' cy w' ν'->ly cy w'):o.wp P a w ly Q:=by
 obtain⟨s,qz,κ,n',o',cp,c2,c3,c4,c5,EW,EM,hp⟩:=aQ;simp only[aJ]at av;obtain⟨us,ba,hu⟩:=av;have jx:b4 w (ν.cut (aK s)) (cd (bD++cY)) ((args.map a.eval)++us).toList:=by refine uH (k2.cut _ w ν) _ _ c4 (y8 _ _ ?_);simpa using Cn lf hu
 have OR:Good (fy (ν.cut (aK s)) s) w (ν.cut (aK s)) s.b s.e:=ao.good.cut cp c2 (fun bl _ h=>h);have hex:oS (ν.cut (aK s)) s:=by
  intro k;refine⟨?_,?_,?_⟩;rotate_left 2
  ·rintro j b ⟨al,af⟩;obtain⟨t1,t2⟩:=ao.fr.trn k j b af;rcases al with al|al<;>obtain⟨x,ab⟩:=eK.1 al
   ·obtain⟨bl,bh,el,aj,_⟩:=ao.good.box k x (cp k x ab).1;rw[t1]at aj;cases aj
   ·obtain⟨v',bh,aj,_⟩:=ao.good.own k x (c2 k x ab).1;rw[t2]at aj;cases aj
  ·intro aA;by_cases al:aK s k
   ·rw[aM.cut_bx al];rcases al with al|al
    ·rw[aA]at al;cases al
    ·obtain⟨x,ab⟩:=eK.1 al;obtain⟨v',bh,aj,_⟩:=ao.good.own k x (c2 k x ab).1;rcases ao.good.one k with I|I
     ·exact I
     ·rw[I]at aj;cases aj
   ·exact(aM.cut_no al).1
  ·intro aA;by_cases al:aK s k
   ·rw[aM.cut_ow al];rcases al with al|al
    ·obtain⟨x,ab⟩:=eK.1 al;obtain⟨bl,bh,el,aj,_⟩:=ao.good.box k x (cp k x ab).1;rcases ao.good.one k with I|I
     ·rw[I]at aj;cases aj
     ·exact I
    ·rw[aA]at al;cases al
   ·exact(aM.cut_no al).2.1
 rcases c5 w (ν.cut (aK s)) ((args.map a.eval)++us) (ao.fr.gl.cut _) OR hex jx with⟨⟨fn,g1,g2,g3⟩,c5⟩|⟨v,w',c5,bB⟩
 ·obtain⟨code,AA⟩:=eK.1 g2;have fQ:(execOp a.eval o).run P w= .ok (.enter n ((args.map a.eval)++us)) w:=by obtain⟨dst,op,ty,pos,u9,xI⟩:=o;simp only at gM;subst gM;simp only[execOp,resolve,ba,Deferred.ofValue,ef,eU,eo,invoke,callFunc,run_program,g1,g3,AA];simp
  unfold Oper.wp;rw[fQ];simp only[Oper.upon];refine c5.mono fun e w' bB=>?_;obtain⟨v,r,aE,ν',rfl,bP,bK,b6,cH,dd,cz⟩:=bB;obtain⟨⟨e6,ey⟩,aa⟩:=hp r aE bP;rw[bj];exact cN _ _ _ _ aa (ao.callK cp c2 c3 b6 cH (fun m hm=>ao.new _ (EW m hm)) (n':=n') (o':=o' aE) (fun k aa=>EM k r aE bP aa) dd cz e6 ey d p2 bK)
 ·have fQ:(execOp a.eval o).run P w= .ok (.value v) w':=by obtain⟨dst,op,ty,pos,u9,xI⟩:=o;simp only at gM;subst gM;simp only[execOp,resolve,ba,Deferred.ofValue,ef,eU,eo,invoke];simpa using c5
  obtain⟨v2,r,aE,ν',Be,bP,bK,b6,cH,dd,cz⟩:=bB;cases Be;obtain⟨⟨e6,ey⟩,aa⟩:=hp r aE bP;refine iH fQ ?_;rw[bj];exact cN _ _ _ _ aa (ao.callK cp c2 c3 b6 cH (fun m hm=>ao.new _ (EW m hm)) (n':=n') (o':=o' aE) (fun k aa=>EM k r aE bP aa) dd cz e6 ey d p2 bK)
theorem RD{P:bM}{C:dM}{st:a6}{a:Act}{w:World}{ν:aM}(ao:bX C st a w ν){o:Oper}{kq:Operand}{args:Array Operand}{ts:Array eZ}(gM:o.op= .call ⟨.value kq,args,ts⟩){d:bf Nat}(bj:o.dst=d)(p2:gu C.N d=true)
  {n:Nat} {cY:List ae} (av:aJ w ν (.func n cY) (a.eval kq)) {bD:List ae} (lf:b4 w ν bD (args.toList.map a.eval)) {K:a6->Prop} (aQ:u3 P C.ob n (bD++cY) st d K)
  {ly:Act->World->Prop} {Q:Exit->Act->World->Prop} (cN:∀st' cy w' ν',K st'->bX C st' cy w' ν'->ly cy w'):o.wp P a w ly Q:=by
 simp only[aJ]at av;obtain⟨us,ba,hu⟩:=av;have jx:b4 w ν (bD++cY) ((args.map a.eval)++us).toList:=by simpa using Cn lf hu
 rcases aQ C a w ν _ rfl ao jx p2 with⟨⟨fn,g1,g2,g3⟩,c5⟩|⟨v,w',c5,bB⟩
 ·obtain⟨code,AA⟩:=eK.1 g2;have fQ:(execOp a.eval o).run P w= .ok (.enter n ((args.map a.eval)++us)) w:=by obtain⟨dst,op,ty,pos,u9,xI⟩:=o;simp only at gM;subst gM;simp only[execOp,resolve,ba,Deferred.ofValue,ef,eU,eo,invoke,callFunc,run_program,g1,g3,AA];simp
  unfold Oper.wp;rw[fQ];simp only[Oper.upon];refine c5.mono fun e w' bB=>?_;obtain⟨v,st',ν',rfl,aa,cO⟩:=bB;rw[bj];exact cN _ _ _ _ aa cO
 ·have fQ:(execOp a.eval o).run P w= .ok (.value v) w':=by obtain⟨dst,op,ty,pos,u9,xI⟩:=o;simp only at gM;subst gM;simp only[execOp,resolve,ba,Deferred.ofValue,ef,eU,eo,invoke];simpa using c5
  obtain⟨v2,st',ν',Be,aa,cO⟩:=bB;cases Be;refine iH fQ ?_;rw[bj];exact cN _ _ _ _ aa cO
theorem Ez{P:bM}{C:dM}{st:a6}{a:Act}{w:World}{ν:aM}(ao:bX C st a w ν){o:Oper}{kq:Operand}{args:Array Operand}{ts:Array eZ}(gM:o.op= .call ⟨.value kq,args,ts⟩){d:bf Nat}(bj:o.dst=d)(p2:gu C.N d=true)
  {n:Nat} {cY:List ae} (av:aJ w ν (.func n cY) (a.eval kq)) {bD:List ae} (lf:b4 w ν bD (args.toList.map a.eval)) {K:a6->Prop} (aQ:cL P n (cd (bD++cY)) st d K)
  {ly:Act->World->Prop} {Q:Exit->Act->World->Prop} (cN:∀st' cy w' ν',K st'->bX C st' cy w' ν'->ly cy w'):o.wp P a w ly Q:=by
 refine EA ao gM bj p2 av lf (K:=K) ?_ cN;rcases aQ with⟨s,qz,cp,c2,c3,c4,c5,hp⟩|⟨s,qz,cp,c2,c3,c4,c0,c5,hp⟩
 ·refine⟨s,qz,none,st.n,fun aE=>st.o++fs aE,cp,c2,c3,c4,fun w ν vs gl I J ak=>(c5 w ν vs gl I J ak).mono fun e w' bB=>?_,fun m hm=>(by cases hm),fun k _ aE _ aa=>⟨aa,fun m hm=>by cases hm⟩,hp⟩;obtain⟨v,r,aE,ν',g1,g2,g3,g4,g5,g6⟩:=bB;exact⟨v,r,aE,ν',g1,g2,g3,g4,g5.k,g6⟩
 ·refine⟨s,qz,some st.n,st.n+1,fun aE=>st.o++fs aE,cp,c2,c3,c4,c5,fun m hm=>(by cases hm;exact⟨c7 _,c0⟩),fun k _ aE _ aa=>⟨r1 (Nat.le_succ _) (fun _ h=>h) aa,fun m hm=>?_⟩,hp⟩;cases hm;rintro rfl;have:=aa.1;simp only at this;omega
theorem bX.drawn{C:dM}{st:a6}{a:Act}{w:World}{ν:aM}(ao:bX C st a w ν)(n:Nat):bX C st a {w with drawn:=n} ν:=by
 have nh:jH w ν {w with drawn:=n} ν:=⟨fun _ _ h=>⟨h,rfl⟩,fun _ _ _ h=>h,fun _ n u _ h=>⟨n,u,h,.inl ⟨rfl,rfl⟩⟩,fun _ _ _=>rfl,fun _ _ _ _ h=>h⟩;refine ao.over nh rfl ⟨ao.good.alt,fun k cs aa=>?_,ao.good.inj,fun g o aT=>?_,ao.good.oinj,ao.good.obx,ao.good.one,ao.good.otr⟩ ⟨ao.fr.os,ao.fr.tape,ao.fr.output,ao.fr.size,ao.fr.block,ao.fr.keep,ao.fr.fresh,ao.fr.obj,ao.fr.obn,ao.fr.row,ao.fr.obr,ao.fr.trd,ao.fr.trb,ao.fr.trn,ao.fr.sh,ao.fr.nrow⟩ ao.new
 ·obtain⟨bl,us,el,I,J,ak,aV,bn⟩:=ao.good.box k cs aa;exact⟨bl,us,el,I,J,ak,aV,lV nh bn⟩
 ·obtain⟨v,us,I,J,ak,aV⟩:=ao.good.own g o aT;exact⟨v,us,I,J,ak,nt nh (fun _ _ _ h=>h) aV⟩
theorem Ns{α:Type}{l:List α}{p:α->Bool}(h:∀x∈l,p x=false):l.filter p=[]:=by rw[List.filter_eq_nil_iff];intro x ab;simp[h x ab]
theorem Nq{α:Type}{l:List α}{p:α->Bool}(h:∀x∈l,p x=true):l.filter p=l:=List.filter_eq_self.2 h
def yM(r m since clock:Nat)(seen:Array Nat)(EB:Array (bf MapEntry)):Sem Value:=do
 match EB[<-choose (.mapNext EB.size)]? with
 |some (some e)=>
  setObj r (.mapIter (some m) since (seen.push e.born) clock)
  pure (.tuple #[.bool true,e.key,e.val])
 |some none=>pure (.tuple #[.bool false])
 |none=>stuck "Next: no such candidate"
theorem IT{P:bM}{w:World}(r m since clock:Nat)(seen:Array Nat)(l:List (bf MapEntry))(aA:l≠[]):∃n x,x∈l/\(yM r m since clock seen l.toArray).run P w=
  (match x with|some e=>(do setObj r (.mapIter (some m) since (seen.push e.born) clock);pure (.tuple #[.bool true,e.key,e.val]):Sem Value)|none=>pure (.tuple #[.bool false])).run P {w with drawn:=n}:=by
 have eS:0<l.length:=oB.2 aA;unfold yM;have key:∀i,i<l.length->∀w',((do match(l.toArray[i]?:bf (bf MapEntry))with
   |some (some e)=>setObj r (.mapIter (some m) since (seen.push e.born) clock);pure (.tuple #[.bool true,e.key,e.val])
   |some none=>pure (.tuple #[.bool false])
   |none=>stuck "Next: no such candidate" :Sem Value)).run P w'=((match l[i]! with|some e=>(do setObj r (.mapIter (some m) since (seen.push e.born) clock);pure (.tuple #[.bool true,e.key,e.val]):Sem Value)|none=>pure (.tuple #[.bool false]))).run P w':=by
  intro i aq w';have I:l.toArray[i]? =some l[i]!:=by simp[aq]
  rw[I];cases l[i]!<;>rfl
 by_cases av:(Question.mapNext l.length).forced=true
 ·refine⟨w.drawn,l[0]!,by simp[eS],?_⟩;rw[<-key 0 eS];have aQ:(choose (.mapNext l.length):Sem Nat).run P w= .ok 0 w:=by simp[av]
  simp only[List.size_toArray,ef,aQ,eo]
 ·refine⟨w.drawn+1,l[(w.tape w.drawn (.mapNext l.length))%l.length]!,by simp[Nat.mod_lt _ eS],?_⟩;rw[<-key _ (Nat.mod_lt _ eS)];have aQ:(choose (.mapNext l.length):Sem Nat).run P w= .ok ((w.tape w.drawn (.mapNext l.length))%l.length) {w with drawn:=w.drawn+1}:=by simp[av,Question.cut]
  simp only[List.size_toArray,ef,aQ,eo]
theorem SA{P:bM}{w:World}{bl mC:Nat}{seen:List Nat}{es:List MapEntry}{clock:Nat}{ty:eZ}(I:w.heap[bl]? =some (.mapIter (some mC) clock seen.toArray clock))(J:w.heap[mC]? =some (.map es.toArray clock))(cM:∀e∈es,e.born<clock):
  ∃n,((∀e∈es,e.born∈seen)/\(Instr.next (.pointer (some ⟨bl,0,none⟩)) false ty).run P w= .ok (.tuple #[.bool false]) {w with drawn:=n})\/
   ∃e∈es,e.born∉seen/\(Instr.next (.pointer (some ⟨bl,0,none⟩)) false ty).run P w= .ok (.tuple #[.bool true,e.key,e.val]) {w with drawn:=n,heap:=w.heap.setIfInBounds bl (.mapIter (some mC) clock (seen++[e.born]).toArray clock)}:=by
 have Oh:(!seen.toArray.isEmpty&& !es.toArray.isEmpty&&es.toArray.all (fun e=>decide (e.born≥clock)))=false:=by
  cases es with
  |nil=>simp
  |cons e r=>have:=cM e Ψ;simp;intro _ h;omega
 generalize r7:(es.filter fun e=> !seen.contains e.born)=left;have O1:(es.toArray.filter fun e=> !seen.toArray.contains e.born)=left.toArray:=by rw[<-r7];simp
 have jP:∀e∈left,e∈es/\e.born∉seen:=fun e he=>by rw[<-r7]at he;have:=List.mem_filter.1 he;exact⟨this.1,by simpa using this.2⟩
 have hold:(left.toArray.filter fun e=>decide (e.born<clock))=left.toArray:=by rw[List.filter_toArray,Nq];intro e he;have:=cM e (jP e he).1;simp[this]
 have ka:(left.toArray.filter fun e=>decide (e.born≥clock))= #[]:=by rw[List.filter_toArray,Ns];intro e he;have:=cM e (jP e he).1;simp;omega
 have fQ:(Instr.next (.pointer (some ⟨bl,0,none⟩)) false ty).run P w=(yM bl mC clock clock seen.toArray ((if left.toArray.isEmpty then #[none]else #[])++(left.toArray++ #[]).map some)).run P w:=by unfold Instr.next yM;simp only[ef,qs I,qs J,eo,Oh,O1,hold,ka,jX,if_false];rfl
 rw[fQ];by_cases qV:left=[]
 ·subst qV;obtain⟨n,x,g1,g2⟩:=IT (P:=P) (w:=w) bl mC clock clock seen.toArray [none] Ψ;refine⟨n,.inl ⟨fun e he=>?_,?_⟩⟩
  ·have:=List.filter_eq_nil_iff.1 r7 e he;simpa using this
  ·simp only[List.mem_singleton]at g1;subst g1;have aQ:((if(([]:List MapEntry).toArray).isEmpty then #[none]else #[])++(([]:List MapEntry).toArray++ #[]).map some)=[none].toArray:=by simp
   rw[aQ,g2];rfl
 ·have aQ:((if left.toArray.isEmpty then #[none]else #[])++(left.toArray++ #[]).map some)=(left.map some).toArray:=by simp[qV]
  obtain⟨n,x,g1,g2⟩:=IT (P:=P) (w:=w) bl mC clock clock seen.toArray (left.map some) (by simpa using qV);simp only[List.mem_map]at g1;obtain⟨e,he,rfl⟩:=g1;refine⟨n,.inr ⟨e,(jP e he).1,(jP e he).2,?_⟩⟩;rw[aQ,g2];simp only[ef];rw[wL (w:={w with drawn:=n}) (o:= .mapIter (some mC) clock seen.toArray clock) I];simp
theorem z8:∀{borns:List Nat} {us:List Value} {e:MapEntry},e∈eE borns us->e.born∈borns
 |[],us,e,h=>by simp[eE]at h
 |b::dN,[],e,h=>by simp[eE]at h
 |b::dN,[_],e,h=>by simp[eE]at h
 |b::dN,k::v::us,e,h=>by
  simp only[eE,hT]at h;rcases h with rfl|h
  ·simp
  ·exact List.mem_cons_of_mem _ (z8 h)
theorem E6:∀{borns:List Nat} {kvs:List ae} {us:List Value},kvs.length=2*borns.length->us.length=kvs.length->∀{b:Nat},b∈borns->∃e∈eE borns us,e.born=b
 |[],_,_,_,_,b,af=>by simp at af
 |fu::dN,kvs,[],I,J,b,af=>by rw[I]at J;simp at J
 |fu::dN,kvs,[_],I,J,b,af=>by rw[I]at J;simp at J;omega
 |fu::dN,kvs,k::v::us,I,J,b,af=>by
  rcases hT.1 af with rfl|af
  ·exact⟨⟨k,v,b⟩,by simp[eE],rfl⟩
  ·obtain⟨e,g1,g2⟩:=E6 (kvs:=kvs.drop 2) (us:=us) (borns:=dN) (by simp at I⊢;omega) (by simp at I J⊢;omega) af;exact⟨e,by simp[eE,g1],g2⟩
theorem Hw{w:World}{ν:aM}:∀{borns:List Nat} {kvs:List ae} {us:List Value},kvs.length=2*borns.length->borns.Pairwise (· < ·)->b4 w ν kvs us->∀{e:MapEntry},e∈eE borns us->∃k v,ll e.born borns kvs=some (.tuple [k,v])/\aJ w ν k e.key/\aJ w ν v e.val
 |[],_,_,_,_,_,e,h=>by simp[eE]at h
 |b::dN,[],us,I,_,_,e,_=>by simp at I
 |b::dN,[_],us,I,_,_,e,_=>by simp at I;omega
 |b::dN,k::v::kvs,us,I,J,ak,e,h=>by
  simp only[b4]at ak;obtain⟨h8,uN,rfl,dr,hS,l3,rfl,eO,gO⟩:=ak;simp only[eE,hT]at h;rw[List.pairwise_cons]at J;rcases h with rfl|h
  ·exact⟨k,v,by simp[ll],dr,eO⟩
  ·obtain⟨be,v',g1,g2,g3⟩:=Hw (by simp at I;omega) J.2 gO h;have dI:b≠e.born:=Nat.ne_of_lt (J.1 _ (z8 h));exact⟨be,v',by simp[ll,dI,g1],g2,g3⟩
theorem QK{P:bM}{C:dM}{st:a6}{a:Act}{w:World}{ν:aM}(ao:bX C st a w ν){o:Oper}{it:Operand}(gM:o.op= .next it false){d:Nat}(bj:o.dst=some d)(p2:gu C.N (some d)=true){v:ae}(ba:aJ w ν v (a.eval it)){K:a6->Prop}(he:rW st d v K)
  {ly:Act->World->Prop} {Q:Exit->Act->World->Prop} (cN:∀st' cy w' ν',K st'->bX C st' cy w' ν'->ly cy w'):o.wp P a w ly Q:=by
 unfold rW at he;split at he
 ·rename_i fI;split at he
  ·rename_i since seen last mk qR;split at he
   ·rename_i clock borns kvs sn;obtain⟨⟨rfl,rfl⟩,he1,he2⟩:=he;simp only[aJ]at ba;obtain⟨bl,bH,bR⟩:=ba;obtain⟨gP,us,el,bK,b6,cH,dd,cz⟩:=ao.good.box fI _ qR;rw[bH]at bK;cases bK;obtain⟨mC,ms,Xs,m1,m2,m3,m4,m5⟩:=ao.good.box mk _ sn;simp only[gB,b4]at cz;obtain⟨u,bh,hu,⟨Xr,dr,rfl⟩,rfl⟩:=cz;rw[m1]at dr;cases dr;simp only[hl,hu]at dd;simp only[hl]at m4;simp only[gB]at m5;obtain⟨n,jM⟩:=SA (P:=P) (ty:=o.type) dd m4 (fun e he=>m5.2.lt _ (z8 he));have ih:∀v' w',(Instr.next (.pointer (some ⟨bl,0,none⟩)) false o.type).run P w= .ok v' w'->(execOp a.eval o).run P w= .ok (.value v') w':=by intro v' w' fQ;obtain⟨dst,op,ty,pos,u9,xI⟩:=o;simp only at gM fQ;subst gM;simp only[execOp,bR];exact wT fQ
    rcases jM with⟨I,J⟩|⟨e,I,J,ak⟩
    ·refine iH (ih _ _ J) ?_;rw[bj];refine cN _ _ _ _ (he1 fun b af=>?_) ((ao.drawn n).put p2 (p:= .tuple [.bool false]) (by simp[aJ,b4]));obtain⟨e,f1,f2⟩:=E6 m5.2.len (y7 m5.1) af;rw[<-f2];exact I e f1
    ·obtain⟨k,v,f1,f2,f3⟩:=Hw m5.2.len m5.2.inc m5.1 I;refine iH (ih _ _ ak) ?_;rw[bj];have q2:=((ao.drawn n).setBox (w':={w with drawn:=n,heap:=w.heap.setIfInBounds bl (.mapIter (some mC) last (seen++[e.born]).toArray last)}) qR bH (cs':=[.hdi last (seen++[e.born]) last,.gmap mk]) (us:=us) (el:=el) rfl rfl rfl
      (fun j ai=>Array.getElem?_setIfInBounds_ne (Ne.symm ai)) Ψ (by simp[hl,hu,(Array.getElem?_eq_some_iff.1 dd).1]) (by simp only[gB,b4];exact⟨_,_,hu,by simp only[aJ];exact⟨mC,m1,rfl⟩,rfl⟩))
     refine cN _ _ _ _ (he2 e.born k v f1 J) (q2.1.put p2 (p:= .tuple [.bool true,k,v]) ?_);simp only[aJ];refine⟨_,rfl,?_⟩;simp only[b4];have nh:jH w ν {w with drawn:=n} ν:=⟨fun _ _ h=>⟨h,rfl⟩,fun _ _ _ h=>h,fun _ n u _ h=>⟨n,u,h,.inl ⟨rfl,rfl⟩⟩,fun _ _ _=>rfl,fun _ _ _ _ h=>h⟩;exact⟨_,_,rfl,by simp[aJ],_,_,rfl,qo q2.2 (qo nh f2),_,_,rfl,qo q2.2 (qo nh f3),rfl⟩
   ·exact he.elim
  ·exact he.elim
 ·exact he.elim
theorem E8{P:bM}{bc:List (Nat×cR)}(aG:fm P bc=true){C:dM}{st:a6}{a:Act}{w:World}{ν:aM}(ao:bX C st a w ν){i:ds}{o:Oper}(ah:pj C.N bc i o=true){K:a6->Prop}(he:nM P C.ob st K i)
  {ly:Act->World->Prop} {Q:Exit->Act->World->Prop} (cN:∀st' cy w' ν',K st'->bX C st' cy w' ν'->ly cy w'):o.wp P a w ly Q:=by
 cases i with
 |s i=>
  simp only[nM]at he;split at he
  ·rename_i c st' al;exact SE aG ao (by simpa only[pj]using ah) al he.1 fun cy w' ν' h=>cN _ _ _ _ he.2 h
  ·exact he.elim
 |next d x=>
  simp only[nM]at he;simp only[pj]at ah;split at ah
  ·rename_i it gM;simp only[bE,cD,fY]at ah;obtain⟨⟨I,J⟩,ak⟩:=ah;exact QK ao gM I (by simpa[gu]using J) (dc ao ak) he cN
  ·cases ah
 |call d f xs=>
  simp only[nM]at he;simp only[pj]at ah;split at ah
  ·rename_i kq args ts gM;simp only[bE,cD]at ah;obtain⟨⟨⟨I,J⟩,ak⟩,aV⟩:=ah;split at he
   ·rename_i n cY av;have:=dc ao ak;rw[av]at this;exact Ez ao gM I J this (uG ao aV) he cN
   ·exact he.elim
  ·cases ah
 |opn d f xs=>
  simp only[nM]at he;simp only[pj]at ah;split at ah
  ·rename_i kq args ts gM;simp only[bE,cD]at ah;obtain⟨⟨⟨I,J⟩,ak⟩,aV⟩:=ah;split at he
   ·rename_i n cY av;have:=dc ao ak;rw[av]at this;exact RD ao gM I J this (uG ao aV) he cN
   ·exact he.elim
  ·cases ah
theorem Cf{C:dM}{st:a6}{a:Act}{w:World}{ν:aM}(h:bX C st a w ν){s:Nat}{b:Bool}(al:get s st.t= .bool b):bX C {st with t:=put s (.bool b) st.t} a w ν:=by
 refine⟨h.good,h.fr,h.defers,h.size,fun i=>?_,h.new,h.ext,h.obk⟩;have:=h.slot i;simp only[mg];split
 ·rename_i e;subst e;rw[<-al];exact this
 ·exact this
theorem JS{C:dM}{st:a6}{a:Act}{w:World}{ν:aM}(h:bX C st a w ν){ops:Array Oper}{j s:Nat}(ai:(ops.toList[j]?).bind (·.dst)=some s)(al:s<C.N):
  (∀b,get s st.t= .bool b->yielded ops a.tmps j=some b)/\(get s st.t= .tuple []->yielded ops a.tmps j=none):=by
 have cM:s<a.tmps.size:=by rw[h.size];exact al
 have jQ:=h.slot s;have jv:a.tmps.getD s undef=a.tmps[s]:=by simp[Array.getD,cM]
 rw[jv]at jQ;have bG:yielded ops a.tmps j=match a.tmps[s]with| .bool b=>some b|_=>none:=by unfold yielded;rw[Array.getElem?_toList]at ai;rw[ai];simp only[Option.bind_some,Array.getElem?_eq_getElem cM];cases a.tmps[s]<;>rfl
 constructor
 ·intro b af;rw[af]at jQ;simp only[aJ]at jQ;rw[bG,jQ]
 ·intro af;rw[af]at jQ;simp only[aJ,b4]at jQ;obtain⟨us,aj,aR⟩:=jQ;rw[bG,aj]
theorem Fc{P:bM}{bc:List (Nat×cR)}(aG:fm P bc=true){C:dM}{ops:Array Oper}{K:a6->Prop}{Q:Exit->Act->World->Prop}(tH:∀st' cy w' ν',K st'->bX C st' cy w' ν'->Q .normal cy w'):
  ∀(gs:List cm) (os:List Oper) (k:Nat),(∀j,os[j]? =ops[k+j]?)->iv C.N bc ops.toList gs os=true->∀(st:a6) (a:Act) (w:World) (ν:aM),gd P C.ob gs st K->bX C st a w ν->wpOps P ops Q (List.range' k gs.length) a w
 |[],[],k,_,_,st,a,w,ν,he,ao=>by simp only[l5,List.range'_zero,wpOps];exact tH _ _ _ _ he ao
 |[],_::_,_,_,aa,_,_,_,_,_,_=>by simp[iv]at aa
 |_::_,[],_,_,aa,_,_,_,_,_,_=>by simp[iv]at aa
 |g::gs,o::os,k,qZ,aa,st,a,w,ν,he,ao=>by
  simp only[iv,bE]at aa;have a1:ops[k]? =some o:=by simpa using(qZ 0).symm
  have Pp:∀j,os[j]? =ops[k+1+j]?:=fun j=>by have:=qZ (j+1);simpa[Nat.add_assoc,Nat.add_comm 1 j]using this
  simp only[hy,List.range'_succ,wpOps,a1];have bb:∀st' cy w' ν',gd P C.ob gs st' K->bX C st' cy w' ν'->wpOps P ops Q (List.range' (k+1) gs.length) cy w':=fun st' cy w' ν' I J=>Fc aG tH gs os (k+1) Pp aa.2 st' cy w' ν' I J;obtain⟨As,VW⟩:=g;have aT:=aa.1;simp only[vq,bE]at aT;obtain⟨j9,tQ⟩:=aT;cases As with
  |none=>
   cases dX:o.guard with
   |some x=>simp[dX]at j9
   |none=>
    have hw:ls o (yielded ops a.tmps)=true:=by simp[ls,dX]
    rw[if_pos hw];simp only[gd]at he;exact .inl (E8 aG ao tQ he bb)
  |some sY=>
   obtain⟨s,want⟩:=sY;cases dX:o.guard with
   |none=>simp[dX]at j9
   |some x=>
    obtain⟨j,fu⟩:=x;simp only[dX,bE,cD,fY]at j9;obtain⟨⟨⟨⟨rfl,J⟩,ak⟩,aV⟩,bn⟩:=j9;obtain⟨w1,w2⟩:=JS ao J ak;simp only[gd]at he;split at he
    ·rename_i b af;have bG:=w1 b af;by_cases e:b=want
     ·subst e;have hw:ls o (yielded ops a.tmps)=true:=by simp[ls,dX,bG]
      rw[if_pos hw];exact .inl (E8 aG (Cf ao af) tQ (he.1 rfl) bb)
     ·have hw:¬(ls o (yielded ops a.tmps)=true):=by simp[ls,dX,bG,e]
      rw[bu hw];have gf:b= !want:=by cases b<;>cases want<;>simp at e⊢
      have mr:bX C {st with t:=put s (.bool !want) st.t} a w ν:=Cf ao (by rw[af,gf]);rw[aV];exact bb _ _ _ _ (he.2 gf) (mr.put bn (by simp[aJ,b4,undef]))
    ·rename_i af;have bG:=w2 af;have hw:¬(ls o (yielded ops a.tmps)=true):=by simp[ls,dX,bG]
     rw[bu hw,aV];exact bb _ _ _ _ he (ao.put bn (by simp[aJ,b4,undef]))
    ·exact he.elim
end
end Go.Pv
